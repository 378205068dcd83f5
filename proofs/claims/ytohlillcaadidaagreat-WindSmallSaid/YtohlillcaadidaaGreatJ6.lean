/- My texts E12, M4, E13, E14, M5, B21, B22, B23, B24, B25, B26, B27, B28, joined: a claim takes at most 60 files. -/
import Derived.Test.YtohlillcaadidaaGreatJ5
import Derived.ChangeKeysEq

/- Walks of the reference: following the plan. -/
namespace Go.Proofs.YtohlillcaadidaaGreat
open Go Go.Eng

/-- How far one is after some steps. -/
def atF (r : Rg) (p : Ru) (states offs : List Int) (k : Nat) : FoS := (states.take k).foldl (jJ r p offs) ⟨0, p.waits, 0, 0, 0, 0⟩
theorem atF_succ (r : Rg) (p : Ru) (states offs : List Int) (k : Nat) (hk : k < states.length) : atF r p states offs (k + 1) = jJ r p offs (atF r p states offs k) states[k] := by
 unfold atF
 rw [List.take_succ_eq_append_getElem hk, List.foldl_append]
 rfl
theorem atF_end5 (r : Rg) (p : Ru) (states offs : List Int) (k : Nat) (h : (atF r p states offs k).shot = 5) : endF r p states offs = atF r p states offs k := by
 unfold endF
 conv => lhs; rw [← List.take_append_drop k states, List.foldl_append]
 exact stepF_5 _ h
theorem valAll {r : Rg} {p : Ru} (hr : r.Right) (hp : p.Right) : ValL r p ((plcL r p).map (nG r p)) := ⟨by simp, fun v hv => by
 obtain ⟨⟨a, b, c, d⟩, hm, rfl⟩ := List.mem_map.1 hv
 obtain ⟨h1, h2, h3, h4⟩ := (dA r p a b c d).1 hm
 exact mY r hr p hp a b c d h2 h3 h4⟩

set_option maxRecDepth 40000 in
set_option maxHeartbeats 8000000 in
theorem rfollow_ca (w : World) (l0 h1 l2 h2 : Nat) (cs : List Value) (r : Rg) (p : Ru) (vs vo : Value) (states offs : List Int) (h : RgC w cs r) (hsm : r.Small) (hl : RdI w l0 h1 vs states) (hu : RdI w l2 h2 vo offs) (hlen : states.length < 1000000) (hlen2 : offs.length < 1000000) :
  Ca Tryz.prog 72 [.agg cs.toArray, ruV p, vs, vo] w fun v w' =>
  v = .tuple #[.int .i64 (cG r p states offs).1.1, .int .i64 (cG r p states offs).1.2.1, .int .i64 (cG r p states offs).1.2.2, .int .i64 (cG r p states offs).2] ∧ Chg [] w w' := by
 have h0 := h
 obtain ⟨lo, hi, ag, cg, ad, cd, af, cf, an, cn, rfl, hg, hdr, hf, hn⟩ := h
 obtain ⟨sa, sc, rfl, hss⟩ := RdI.outI hl
 obtain ⟨oa, oc, rfl, hso⟩ := RdI.outI hu
 obtain ⟨_, _, hsl2, hsd⟩ := RdI.outI hdr
 cases hsl2
 have s1 := hsm.group
 have s2 := hsm.drifts
 refine dB (Sat.nil w M0) Tryz.func72 Z (by simp [Tryz.ntmps72]) ?_
 (refine aE (aB ?_))
 refine bG Z Z (fun b4 => ?_)
 refine bG Z Z (fun b5 => ?_)
 ((iterate 4 refine aA V Z Z ?_); refine aF (aE (aE (aB ?_))); (iterate 2 refine aI V Z Z Z ?_))
 refine aJ (val := .int .i64 (cH r p)) V Z Z Z Z (fun w hs => ?_) ?_; exact jH w _ r p (h0.keep hs.chg0) hsm
 (refine aA V Z Z (aF (aE (aB (aA V Z Z (aA V Z Z (aF ?_)))))))
 refine iN Z (fun hc => ?_) (fun hc => ?_)
 ·(refine aE (aB ?_); (iterate 5 refine aA V Z Z ?_); refine aF (aW ?_))
  refine aX V Z U fun w hs => ?_
  exact ⟨by simp [fT, cG, hc], hs.chg0⟩
 have hru : cH r p = 0 := by simpa using hc
 obtain ⟨hck, hp⟩ := (fY r p).1 hru
 have hr := (bM r).1 hck
 have hwa := hp.waits
 have hpw := hp.wait
 have hpc := hp.click
 have hpm := hp.miss
 have hC := hr.clicks
 have hd1 := hr.d1
 have hd2 := hr.d2
 have hg1 := hr.g1
 have hodd := hr.odd
 have hun := hr.unit
 have hra := hr.radius
 clear hc
 (refine aR (aE (aE (aB ?_))); (iterate 4 refine aA V Z Z ?_))
 refine bU Z Z (fun hc => ?_) (fun hc => ?_)
 ·((iterate 6 refine bA Z Z Z ?_); refine aA V Z Z (aF (aM Z (aE (aB ?_)))); (iterate 4 refine aA V Z Z ?_); refine aF (aW ?_))
  refine aX V Z U fun w hs => ?_
  exact ⟨by simp only [cG]; rw [if_neg O, if_pos (by simpa using hc)]; rfl, hs.chg0⟩
 have c1 : (offs.length : Int) = 5 := by simpa using hc
 clear hc
 (refine aC Z (aA V Z Z (aC Z (aA V Z Z (aC Z (aA V Z Z (aC Z ?_)))))); refine aH V Z Z Z ?_; refine aC Z (bB V Z Z Z Z O O (aC Z (aA V Z Z (aA V Z Z (aF ?_))))))
 refine dD Z (fun hc => ?_) (fun hc => ?_)
 ·(refine aE (aB ?_); (iterate 4 refine aA V Z Z ?_); refine aF (aW ?_))
  refine aX V Z U fun w hs => ?_
  exact ⟨by simp only [cG]; rw [if_neg O, if_neg O, if_pos hc]; rfl, hs.chg0⟩
 have c2 := hc
 clear hc
 (refine aR (aE (aE (aB (aA V Z Z (aA V Z Z ?_))))); refine aH V Z Z Z ?_; refine aA V Z Z (bB V Z Z Z Z O O ?_))
 refine aJ (val := .bool (!(states.all fun n => inB n 0 ((r.drifts.length : Int) - 1)))) V Z Z Z Z (fun w hs => ?_) ?_; exact iX w l0 h1 _ states 0 ((r.drifts.length : Int) - 1) (RdE.keep hl hs.chg0) hlen
 cases c3 : states.all (fun n => inB n 0 ((r.drifts.length : Int) - 1)) with
 | false =>
  (refine aF (aM Z (aE (aB ?_))); (iterate 4 refine aA V Z Z ?_); refine aF (aW ?_))
  refine aX V Z U fun w hs => ?_
  exact ⟨by simp only [cG]; rw [if_neg O, if_neg O, if_neg c2, c3, if_pos (by simp)]; rfl, hs.chg0⟩
 | true =>
 (refine aF (aL Z (aR (aE (aE (aB (aA V Z Z (aA V Z Z ?_))))))); refine aH V Z Z Z ?_; refine aA V Z Z (bB V Z Z Z Z O O (fJ V Z Z O O ?_)))
 have hquo : IntKind.i64.wrap ((-((r.group.length : Int) - 1)).tdiv 2) = -((r.group.length : Int) / 2) := by
  rw [Int.neg_tdiv, Int.tdiv_eq_ediv_of_nonneg O]
  have e : ((r.group.length : Int) - 1) / 2 = (r.group.length : Int) / 2 := by omega
  rw [e]
  exact w64 O O
 have hq2 : ((r.group.length : Int) - 1) / 2 = (r.group.length : Int) / 2 := by omega
 refine ql_quo Z Z O Z ?_
 rw [hquo]
 (refine aA V Z Z ?_; refine aH V Z Z Z ?_; refine aA V Z Z (bB V Z Z Z Z O O (iR Z Z Z O O O ?_)))
 rw [hq2]
 refine aJ (val := .bool (!(offs.all fun n => inB n (-((r.group.length : Int) / 2)) ((r.group.length : Int) / 2)))) V Z Z Z Z (fun w hs => ?_) ?_; exact iX w l2 h2 _ offs (-((r.group.length : Int) / 2)) ((r.group.length : Int) / 2) (RdE.keep hu hs.chg0) hlen2
 cases c4 : offs.all (fun n => inB n (-((r.group.length : Int) / 2)) ((r.group.length : Int) / 2)) with
 | false =>
  (refine aF (aM Z (aE (aB ?_))); (iterate 4 refine aA V Z Z ?_); refine aF (aW ?_))
  refine aX V Z U fun w hs => ?_
  exact ⟨by simp only [cG]; rw [if_neg O, if_neg O, if_neg c2, c3, if_neg (by simp), c4, if_pos (by simp)]; rfl, hs.chg0⟩
 | true =>
 have hsb : ∀ x ∈ states, 0 ≤ x ∧ x ≤ (r.drifts.length : Int) - 1 := fun x hx => bH.1 (List.all_eq_true.1 c3 x hx)
 have hob : ∀ x ∈ offs, -20 ≤ x ∧ x ≤ 20 := fun x hx => by have := bH.1 (List.all_eq_true.1 c4 x hx); omega
 have hfv : cG r p states offs = if (endF r p states offs).shot < 5 then ((0, 0, 0), 6) else (((endF r p states offs).misses, (endF r p states offs).cost, (endF r p states offs).steps), 0) := by
  unfold cG
  rw [if_neg O, if_neg O, if_neg c2, c3, if_neg (by simp), c4, if_neg (by simp)]
 rw [hfv]
 (refine aF (aL Z (aR (aE (aB ?_)))); (iterate 2 refine aI V Z Z Z ?_))
 refine bO (β := Nat) V [] _ M0 Z Z Z Z (Sp.refl _) qS (fun w' hs => rvalues_ca w' _ r p (h0.keep hs.chg0) hr hp) ?_
 rintro bv _ rfl
 (refine aA V Z Z (aF (aE ?_)))
 refine bX _ [] (Sp.refl _) qR qR ?_
 (refine aD V Z Z Z ?_; refine aT V Z Z Z ?_; (iterate 5 refine aD V Z Z Z ?_); refine aK (aE (aE (aB (aA V Z Z (aF (aP ?_)))))))
 have hfe : states.take states.length = states := List.take_length
 obtain ⟨N, hN⟩ : ∃ N, N = (plcL r p).length := ⟨_, rfl⟩
 have hVN : ((plcL r p).map (nG r p)).length = N := by rw [List.length_map, hN]
 have hVL := valAll hr hp
 rw [← hN]
 refine bN (σ := Nat) (fun k => k ≤ states.length ∧ (atF r p states offs k).steps = k) (fun k => states.length - k) (fun k => [(2, .slice sa states.length sc), (3, .slice oa offs.length oc), (4, .pointer (some ⟨b4, 0, none⟩)), (5, .pointer (some ⟨b5, 0, none⟩)), (13, .slice (some ⟨bv, 0, none⟩) N N), (14, .int .i64 (atF r p states offs k).misses), (15, .int .i64 (atF r p states offs k).cost), (16, .int .i64 k), (17, .int .i64 (atF r p states offs k).wt), (18, .int .i64 (atF r p states offs k).cl), (19, .int .i64 (atF r p states offs k).shot)])
  (fun _ => [.pt bv (aZ ((plcL r p).map (nG r p))) 3, .pt b4 [.int .i64 r.radius, .int .i64 r.unit, .int .i64 r.clicks, .int .i64 r.total, .slice ag r.group.length cg, .slice ad r.drifts.length cd, .slice af r.first.length cf, .slice an r.next.length cn] 34, .pt b5 [.int .i64 p.miss, .int .i64 p.click, .int .i64 p.wait, .int .i64 p.waits] 124]) 0 ⟨by omega, rfl⟩ ⟨rfl, rfl, rfl, rfl, rfl, rfl, rfl, rfl, rfl, rfl, rfl, trivial⟩ U ?_
 rintro k ⟨hk, hst⟩ K hK
 have hok := takeF_ok hr hp states offs k hk
 have he5 := atF_end5 r p states offs k
 have hss2 := atF_succ r p states offs k
 rw [show (states.take k).foldl (jJ r p offs) ⟨0, p.waits, 0, 0, 0, 0⟩ = atF r p states offs k from rfl] at hok
 obtain ⟨x, hx⟩ : ∃ x, x = atF r p states offs k := ⟨_, rfl⟩
 rw [← hx] at hok hst he5 hss2 ⊢
 obtain ⟨f1, f2, f3, f4, f5, f6⟩ := hok
 have hk8 : k ≤ 8 := by omega
 (refine aE (aE (aB (aA V Z Z (aA V Z Z (aF ?_))))))
 refine dD Z (fun hc => ?_) (fun hc => ?_)
 ·have hs5 : x.shot < 5 := by omega
  clear hc he5
  (refine aR (aP (aE (aE (aB ?_)))); (iterate 4 refine aA V Z Z ?_); refine aF ?_)
  refine dD Z (fun hc => ?_) (fun hc => ?_)
  ·have hkl : k = states.length := by omega
   subst hkl
   have hend : endF r p states offs = x := by rw [hx]; unfold atF endF; rw [List.take_length]
   rw [hend, if_pos hs5]
   (refine aE (aB ?_); (iterate 4 refine aA V Z Z ?_); refine aF (aW ?_))
   refine aX V Z U fun w hs => ?_
   exact ⟨Z, hs.chg0⟩
  have hk2 : k < states.length := by omega
  clear hc
  have hss3 := hss2 hk2
  clear hss2
  have hsk := hsb states[k] (List.getElem_mem hk2)
  obtain ⟨bs, os, rfl⟩ := hss O
  obtain ⟨bo, oo, rfl⟩ := hso O
  obtain ⟨st, hste⟩ : ∃ st : Nat, states[k] = st := ⟨states[k].toNat, by omega⟩
  obtain ⟨wt, hwte⟩ : ∃ wt : Nat, x.wt = wt := ⟨x.wt.toNat, by omega⟩
  rw [hste] at hss3 hsk
  have hst2 : st < r.drifts.length := by omega
  have hin := plc_in (r := r) (p := p) x.shot wt st x.cl O O hst2 f3
  (refine aR (aE (aB (aA V Z Z (aA V Z Z ?_)))))
  (refine bW V Z Z Z Z Z O O ?_; refine cI V Z Z Z (fun w hs => RdI.at (RdE.keep hl hs.chg0) k hk2) ?_)
  rw [hste]
  (refine aA V Z Z (aF (aE (aB (aA V Z Z (bB V Z Z Z Z O O (aA V Z Z (aF (aE (aB ?_))))))))); (iterate 2 refine aI V Z Z Z ?_); (iterate 5 refine aA V Z Z ?_))
  refine aJ (val := .tuple #[.bool (jW r p x.shot wt st x.cl).1.1, .int .i64 (jW r p x.shot wt st x.cl).1.2, .int .i64 (iU r p x.shot wt st x.cl)]) V Z Z Z Z (fun w hs => ?_) ?_; exact by have := mU w _ _ _ r p _ _ x.shot wt st x.cl (h0.keep hs.chg0) hr hp (blk_rdI (c := N) (hs.blk (b := bv) U) hVN.symm) hVL O O hst2 f3; rw [tab_full hr hp hin, ← valV_eq r p x.shot wt st x.cl O O hst2 f3, ← hwte] at this; exact this
  have hcw := cho_wait (r := r) (p := p) (shot := x.shot) (wt := wt) (st := st) (cl := x.cl)
  have hcc := cho_click (r := r) (p := p) (shot := x.shot) (wt := wt) (st := st) f3
  unfold jJ at hss3
  rw [if_neg O] at hss3
  simp only [hwte, Int.toNat_natCast] at hss3
  obtain ⟨ch, hch⟩ : ∃ c, c = (jW r p x.shot wt st x.cl).1 := ⟨_, rfl⟩
  rw [← hch] at hcw hcc hss3 ⊢
  obtain ⟨cw, c⟩ := ch
  simp only at hcw hcc hss3
  dsimp only
  cases cw with
  | true =>
   rw [if_pos rfl] at hss3
   have hw0 := (hcw rfl).1
   (refine aA V Z Z ?_; (iterate 3 refine bC V Z Z Z ?_); (iterate 3 refine aA V Z Z ?_); refine aF (aE (aE (aB (aA V Z Z (aF (aM Z (aE (aB (aA V Z Z (bB V Z Z Z Z O O (aA V Z Z ?_))))))))))); refine aF (aE (aB (aA V Z Z (aA V Z Z ?_)))); refine aH V Z Z Z ?_; refine bB V Z Z Z Z O O (aA V Z Z (aF (bJ _ Z ?_))))
   exact hK (k + 1) _ _ ⟨by omega, by rw [hss3]; simp only; omega⟩ O ⟨Z, Z, Z, Z, Z, by rw [hss3]; rfl, by rw [hss3]; rfl, Z, by rw [hss3, ← hwte]; rfl, by rw [hss3]; rfl, by rw [hss3]; rfl, trivial⟩ U
  | false =>
   rw [if_neg (by simp)] at hss3
   have hcb := hcc rfl
   have hol : x.shot < offs.length := by omega
   have hdb := hr.drift r.drifts[st] (List.getElem_mem hst2)
   have hofb := hob offs[x.shot] (List.getElem_mem hol)
   have hcu := gK (A := 6) (B := 20) (show -6 ≤ c ∧ c ≤ 6 by omega) (show -20 ≤ r.unit ∧ r.unit ≤ 20 by omega)
   obtain ⟨f, hf0⟩ : ∃ f, f = max (c - x.cl) (x.cl - c) := ⟨_, rfl⟩
   have hfb : 0 ≤ f ∧ f ≤ 12 := by omega
   have mf := bR hpc hfb
   obtain ⟨bd, od, rfl⟩ := hsd O
   have hgd : r.drifts.getD st 0 = r.drifts[st] := by simp [List.getD_eq_getElem?_getD, hst2]
   have hgo : offs.getD x.shot 0 = offs[x.shot] := by simp [List.getD_eq_getElem?_getD, hol]
   simp only [← hf0, hgd, hgo] at hss3
   (refine aA V Z Z ?_; (iterate 3 refine bC V Z Z Z ?_); (iterate 3 refine aA V Z Z ?_); refine aF (aE (aE (aB (aA V Z Z (aF (aL Z (aR (aE (aE (aB ?_)))))))))); (iterate 3 refine aA V Z Z ?_); refine aF ?_)
   refine jG (σ := Unit) (fun _ => [(2, .slice (some ⟨bs, os, none⟩) states.length sc), (3, .slice (some ⟨bo, oo, none⟩) offs.length oc), (4, .pointer (some ⟨b4, 0, none⟩)), (5, .pointer (some ⟨b5, 0, none⟩)), (13, .slice (some ⟨bv, 0, none⟩) N N), (14, .int .i64 x.misses), (15, .int .i64 (x.cost + p.click * f)), (16, .int .i64 ((k : Int) + 1)), (17, .int .i64 x.wt), (19, .int .i64 x.shot), (20, .int .i64 st), (22, .int .i64 c)]) (fun _ => [.pt bv (aZ ((plcL r p).map (nG r p))) 3, .pt b4 [.int .i64 r.radius, .int .i64 r.unit, .int .i64 r.clicks, .int .i64 r.total, .slice ag r.group.length cg, .slice (some ⟨bd, od, none⟩) r.drifts.length cd, .slice af r.first.length cf, .slice an r.next.length cn] 34, .pt b5 [.int .i64 p.miss, .int .i64 p.click, .int .i64 p.wait, .int .i64 p.waits] 124]) ?_ (fun K2 hK2 => ?_)
   rotate_left
   ·refine dD Z (fun hc => ?_) (fun hc => ?_)
    ·have hf1 : c - x.cl = f := by omega
     have m2 := bR hpc (B := 12) (show 0 ≤ c - x.cl ∧ c - x.cl ≤ 12 by omega)
     (refine aB (aA V Z Z (aA V Z Z ?_)); refine aH V Z Z Z ?_; refine aA V Z Z (aA V Z Z ?_); (iterate 3 refine bB V Z Z Z Z O O ?_); refine aA V Z Z (aF ?_))
     rw [hf1]
     exact hK2 () _ _ ⟨Z, Z, Z, Z, Z, Z, Z, Z, Z, Z, Z, Z, trivial⟩ U
    ·have hf1 : x.cl - c = f := by omega
     have m2 := bR hpc (B := 12) (show 0 ≤ x.cl - c ∧ x.cl - c ≤ 12 by omega)
     (refine aB (aA V Z Z (aA V Z Z ?_)); refine aH V Z Z Z ?_; refine aA V Z Z (aA V Z Z ?_); (iterate 3 refine bB V Z Z Z Z O O ?_); refine aA V Z Z (aF ?_))
     rw [hf1]
     exact hK2 () _ _ ⟨Z, Z, Z, Z, Z, Z, Z, Z, Z, Z, Z, Z, trivial⟩ U
   rintro ⟨⟩
   (refine aE (aB (aA V Z Z (aA V Z Z (aF (aE (aE ?_)))))))
   refine bX _ [] (Sp.refl _) qR qR ?_
   (refine aD V Z Z Z ?_; refine aT V Z Z Z ?_; refine aD V Z Z Z ?_)
   (refine bF V Z Z Z Z Z O O ?_; refine bI V Z Z Z (fun w hs => RdI.at (RdE.keep hdr hs.chg0) st hst2) ?_)
   (refine aD V Z Z Z (aD V Z Z Z ?_))
   (refine bF V Z Z Z Z Z O O ?_; refine bI V Z Z Z (fun w hs => RdI.at (RdE.keep hu hs.chg0) x.shot hol) ?_)
   (refine bY V Z Z Z Z O O (aD V Z Z Z (aD V Z Z Z ?_)); refine aT V Z Z Z ?_; refine bY V Z Z Z Z O O (bY V Z Z Z Z O O (aD V Z Z Z ?_)); refine aT V Z Z Z ?_; refine qf_neg V Z Z O O (aD V Z Z Z ?_); refine aT V Z Z Z ?_)
   refine aS (val := .bool (!(hitB r (r.drifts[st] + offs[x.shot] + c * r.unit)))) V Z Z Z Z (fun w hs => ?_) ?_; exact fO (r.drifts[st] + offs[x.shot] + c * r.unit) (-r.radius) r.radius w
   cases hh : hitB r (r.drifts[st] + offs[x.shot] + c * r.unit) with
   | true =>
    rw [hh, if_pos rfl] at hss3
    (refine aK (aL Z (aR (aB (aA V Z Z (bB V Z Z Z Z O O (aA V Z Z (aF (bL ?_)))))))))
    exact hK (k + 1) _ _ ⟨by omega, by rw [hss3]; simp only; omega⟩ O ⟨Z, Z, Z, Z, Z, by rw [hss3]; rfl, by rw [hss3]; rfl, Z, by rw [hss3, ← hwte]; rfl, by rw [hss3]; rfl, by rw [hss3]; rfl, trivial⟩ U
   | false =>
    rw [hh, if_neg (by simp)] at hss3
    (refine aK (aM Z (aE (aB (aA V Z Z (bB V Z Z Z Z O O (aA V Z Z (aF (aB (aA V Z Z (aA V Z Z ?_)))))))))); refine aH V Z Z Z ?_; refine bB V Z Z Z Z O O (aA V Z Z (aF (aB (aA V Z Z (bB V Z Z Z Z O O (aA V Z Z (aF (bL ?_)))))))))
    exact hK (k + 1) _ _ ⟨by omega, by rw [hss3]; simp only; omega⟩ O ⟨Z, Z, Z, Z, Z, by rw [hss3]; rfl, by rw [hss3]; rfl, Z, by rw [hss3, ← hwte]; rfl, by rw [hss3]; rfl, by rw [hss3]; rfl, trivial⟩ U
 ·have hs5 : x.shot = 5 := by omega
  rw [he5 hs5, if_neg O]
  (refine bJ _ Z (aE (aB ?_)); (iterate 7 refine aA V Z Z ?_); refine aF (aW ?_))
  refine aX V Z U fun w hs => ?_
  exact ⟨by rw [hst]; rfl, hs.chg0⟩
end Go.Proofs.YtohlillcaadidaaGreat

/- The walk of WindPlays. -/
namespace Go.Proofs.YtohlillcaadidaaGreat
open Go Go.Eng

set_option maxRecDepth 40000 in
set_option maxHeartbeats 16000000 in
theorem cC (w : World) (l0 h1_ l2 h3_ : Nat) (cs : List Value) (r : Rg) (p : Ru) (vs vo : Value) (st of : List Int) (h : RgC w cs r) (hst : RdI w l0 h1_ vs st) (hof : RdI w l2 h3_ vo of) (hl : r.next.length ≤ maxLen) (n2 : st.length ≤ maxLen) (n3 : of.length ≤ maxLen) :
  Ca Tryz.prog 26 [.agg cs.toArray, .agg #[.int .i64 p.miss, .int .i64 p.click, .int .i64 p.wait, .int .i64 p.waits], vs, vo] w fun r w' => r = .bool true ∧ Chg [] w w' := by
 have h0 := h
 obtain ⟨lo, hi, ag, cg, ad, cd, af, cf, an, cn, rfl, hg, hdr, hf, hn⟩ := h
 obtain ⟨sa, sc, rfl, _⟩ := RdI.outI hst
 obtain ⟨oa, oc, rfl, _⟩ := RdI.outI hof
 simp only [maxLen] at n2 n3
 refine dB (Sat.nil w M0) Tryz.func26 Z (by simp [Tryz.ntmps26]) ?_
 (refine aE (aB ?_))
 refine bG Z Z (fun b4 => ?_)
 refine bG Z Z (fun b5 => ?_)
 (refine aA V Z Z (aF (aE (aE (aB ?_)))); refine aI V Z Z Z ?_)
 refine bO (β := Bool) V [] _ M0 Z Z Z Z (Sp.refl _) qS (fun w' hs => long_ca w' _ r (h0.keep hs.chg0) hl) ?_
 rintro b _ ⟨rfl, hsm⟩
 cases b with
 | true =>
  (refine aA V Z Z ?_; (iterate 3 refine bA Z Z Z ?_); refine aA V Z Z (aA V Z Z ?_); (iterate 3 refine bA Z Z Z ?_); refine aA V Z Z (aF (aM Z (aE (aB ?_)))))
  refine aJ (val := .bool true) V Z Z Z Z (fun w hs => ?_) ?_; exact dQ w
  (refine aA V Z Z (aF (aW ?_)))
  refine aX V Z U fun w hs => ?_
  exact ⟨Z, hs.chg0⟩
 | false =>
 replace hsm := hsm rfl
 (refine aA V Z Z (aC Z (aA V Z Z (aC Z (aA V Z Z (aC Z ?_))))); (iterate 3 refine aA V Z Z ?_))
 refine bU Z Z (fun hc => ?_) (fun hc => ?_)
 ·((iterate 3 refine bA Z Z Z ?_); refine aA V Z Z (aF (aM Z (aE (aB ?_)))))
  refine aJ (val := .bool true) V Z Z Z Z (fun w hs => ?_) ?_; exact dQ w
  (refine aA V Z Z (aF (aW ?_)))
  refine aX V Z U fun w hs => ?_
  exact ⟨Z, hs.chg0⟩
 have c2 := of_decide_eq_false hc
 clear hc
 (refine aC Z (aA V Z Z (aC Z (aA V Z Z (aC Z (aA V Z Z (aA V Z Z (aF ?_))))))))
 refine dD Z (fun hc => ?_) (fun hc => ?_)
 ·(refine aE (aB ?_))
  refine aJ (val := .bool true) V Z Z Z Z (fun w hs => ?_) ?_; exact dQ w
  (refine aA V Z Z (aF (aW ?_)))
  refine aX V Z U fun w hs => ?_
  exact ⟨Z, hs.chg0⟩
 have c3 : of.length ≤ 8 := by omega
 clear hc
 (refine aR (aE (aB ?_)); refine aI V Z Z Z ?_)
 refine bO (β := Cp r) V [] _ M0 Z Z Z Z (Sp.refl _) qS (fun w' hs => cB w' _ r (h0.keep hs.chg0) hsm) ?_
 rintro x1 _ rfl
 (refine aA V Z Z ?_)
 refine bO (β := Value) (L' := fun x => [.ow x 3 1 st.length (aZ st)]) V [] _ M0 Z Z Z Z (Sp.refl _) qS (fun w' hs => dK w' _ _ _ st (RdE.keep hst hs.chg0) O) ?_
 rintro _ x2 rfl
 (refine aA V Z Z ?_)
 refine bO (β := Value) (L' := fun x => [.ow x 3 1 of.length (aZ of)]) V [] _ M0 Z Z Z Z (Sp.refl _) qS (fun w' hs => dK w' _ _ _ of (RdE.keep hof hs.chg0) O) ?_
 rintro _ x3 rfl
 refine aV cU Z (fun b9 => ?_)
 (refine aY V Z Z Z Z Z U Z ?_; refine aA V Z Z (aA V Z Z (aF (aE (aB ?_)))); (iterate 2 refine aI V Z Z Z ?_); refine aA V Z Z (aA V Z Z ?_))
 refine aJ (val := .tuple #[.agg #[.int .i64 (cG r p st of).1.1, .int .i64 (cG r p st of).1.2.1, .int .i64 (cG r p st of).1.2.2], .int .i64 (cG r p st of).2]) V Z Z Z Z (fun w hs => ?_) ?_; exact cK w _ _ _ _ _ r p _ _ st of (Cp.at2 x1 r Z Z Z Z hs U) hsm (hs.rdI (l := st) (t := 3) (n := st.length) U Z) (hs.rdI (l := of) (t := 3) (n := of.length) U Z) O O
 (refine aA V Z Z (bC V Z Z Z (bC V Z Z Z ?_)))
 refine aV fB Z (fun b12 => ?_)
 (refine aY V Z Z Z Z Z U Z ?_; refine aA V Z Z (aF (aE ?_)))
 refine bX _ [] (Sp.refl _) qR qR ?_
 (refine aO V Z Z Z ?_)
 refine bD (β := Cp r) V [] _ M0 Z Z Z Z (Sp.refl _) qS (fun w' hs => cB w' _ r (h0.keep hs.chg0) hsm) ?_
 rintro x4 _ rfl
 (refine aO V Z Z Z ?_; refine aD V Z Z Z (aD V Z Z Z ?_))
 refine aS (val := .tuple #[.int .i64 (cG r p st of).1.1, .int .i64 (cG r p st of).1.2.1, .int .i64 (cG r p st of).1.2.2, .int .i64 (cG r p st of).2]) V Z Z Z Z (fun w hs => ?_) ?_; exact rfollow_ca w _ _ _ _ _ r p _ _ st of (Cp.at2 x4 r Z Z Z Z hs U) hsm (RdE.keep hst hs.chg0) (RdE.keep hof hs.chg0) O O
 (refine aD V Z Z Z ?_; (iterate 4 refine bT V Z Z Z ?_); (iterate 4 refine aD V Z Z Z ?_); refine aK (aE (aB (aA V Z Z (aA V Z Z (dG V Z Z Z O (aA V Z Z (aC Z ?_))))))); refine aI V Z Z Z ?_; refine aC Z (aA V Z Z (aC Z (aA V Z Z (aC Z (aA V Z Z (aC Z ?_)))))))
 refine cE #[.int .i64 (cG r p st of).1.1, .int .i64 (cG r p st of).1.2.1, .int .i64 (cG r p st of).1.2.2] Z qR Z ?_
 (refine aC Z ?_)
 refine qD (xs := [.int .i64 (cG r p st of).1.1, .int .i64 (cG r p st of).1.2.1, .int .i64 (cG r p st of).1.2.2]) (ys := [.int .i64 (cG r p st of).1.1, .int .i64 (cG r p st of).1.2.1, .int .i64 (cG r p st of).1.2.2]) [some .i64, some .i64, some .i64] ply_flat Z Z Z Z Z ?_
 rw [eO]
 (refine aA V Z Z (aA V Z Z (aC Z ?_)); refine aI V Z Z Z ?_; refine aC Z ?_; refine aI V Z Z Z ?_; refine aC Z ?_)
 refine aJ (val := .bool true) V Z Z Z Z (fun w hs => ?_) ?_; exact same_ca w _ _ r (Cp.at2 x1 r Z Z Z Z hs U) (h0.keep hs.chg0) hsm
 (refine aA V Z Z (aA V Z Z (aC Z (aA V Z Z (aC Z (aA V Z Z (aC Z ?_)))))))
 refine aJ (val := .bool true) V Z Z Z Z (fun w hs => ?_) ?_; exact nN w _ _ _ _ _ _ st (hs.rdI (l := st) (t := 3) (n := st.length) U Z) (RdE.keep hst hs.chg0) O
 (refine aA V Z Z (aA V Z Z (aC Z (aA V Z Z (aC Z (aA V Z Z (aC Z ?_)))))))
 refine aJ (val := .bool true) V Z Z Z Z (fun w hs => ?_) ?_; exact nN w _ _ _ _ _ _ of (hs.rdI (l := of) (t := 3) (n := of.length) U Z) (RdE.keep hof hs.chg0) O
 (refine aA V Z Z (aA V Z Z (aC Z ?_)))
 refine aJ (val := .bool true) V Z Z Z Z (fun w hs => ?_) ?_; exact dQ w
 (refine aA V Z Z (aA V Z Z (aF (aW ?_))))
 refine aX V Z U fun w hs => ?_
 exact ⟨Z, hs.chg0⟩
end Go.Proofs.YtohlillcaadidaaGreat

/- Walks of the reference: the worst wind. -/
namespace Go.Proofs.YtohlillcaadidaaGreat
open Go Go.Eng

theorem blown_3 {r : Rg} {ws : List (Int × Int)} (h0 : checkV r = 0) (h5 : ws.length = 5) (i : Nat) (hi : i < ws.length) (h : spB 300 ws[i] = false) : cN r ws = 3 := by
 unfold cN
 rw [if_neg O, if_neg O, if_pos]
 rw [List.all_eq_false.2 ⟨ws[i], List.getElem_mem hi, by simp [h]⟩]
 rfl
theorem rwinds_ca (w : World) (l0 h1 : Nat) (cs : List Value) (r : Rg) (v : Value) (ws : List (Int × Int)) (h : RgC w cs r) (hsm : r.Small) (hl : RdS w l0 h1 v ws) (hlen : ws.length < 1000000) : Ca Tryz.prog 43 [.agg cs.toArray, v] w fun v w' => v = .int .i64 (cN r ws) ∧ Chg [] w w' := by
 have h0 := h
 obtain ⟨lo, hi, ag, cg, ad, cd, af, cf, an, cn, rfl, hg, hdr, hf, hn⟩ := h
 obtain ⟨a, ca, rfl, hsa⟩ := RdS.outI hl
 refine dB (Sat.nil w M0) Tryz.func43 Z (by simp [Tryz.ntmps43]) ?_
 (refine aE (aB ?_))
 refine bG Z Z (fun b2 => ?_)
 (refine aA V Z Z (aF (aE (aE (aB ?_)))); refine aI V Z Z Z ?_)
 refine aJ (val := .int .i64 (checkV r)) V Z Z Z Z (fun w hs => ?_) ?_; exact gI w _ r (h0.keep hs.chg0) hsm
 (refine aA V Z Z (aF (aE (aB (aA V Z Z (aA V Z Z (aF ?_)))))))
 refine iN Z (fun hc => ?_) (fun hc => ?_)
 ·(refine aE (aB (aA V Z Z (aA V Z Z (aF (aW ?_))))))
  refine aX V Z U fun w hs => ?_
  exact ⟨by rw [cN, if_pos hc]; rfl, hs.chg0⟩
 have hck : checkV r = 0 := by simpa using hc
 clear hc
 (refine aR (aE (aE (aB ?_))); (iterate 3 refine aA V Z Z ?_); refine aF ?_)
 refine iN Z (fun hc => ?_) (fun hc => ?_)
 ·(refine aE (aB (aA V Z Z (aF (aW ?_)))))
  refine aX V Z U fun w hs => ?_
  exact ⟨by rw [cN, if_neg O, if_pos hc]; rfl, hs.chg0⟩
 have h5 : ws.length = 5 := by omega
 clear hc
 have herr := blown_3 hck h5
 (refine aR (aE (aE (aB (aA V Z Z (aF (aP ?_)))))))
 refine bN (σ := Nat) (fun k => k ≤ 5 ∧ (ws.take k).all (spB 300) = true) (fun k => 5 - k) (fun k => [(1, .slice a ws.length ca), (2, .pointer (some ⟨b2, 0, none⟩)), (6, .int .i64 k)])
  (fun _ => []) 0 ⟨by omega, rfl⟩ ⟨rfl, rfl, rfl, trivial⟩ .nil ?_
 rintro k ⟨hk, hall⟩ K hK
 (refine aE (aE (aB (aA V Z Z (aA V Z Z (aF ?_))))))
 refine dD Z (fun hc => ?_) (fun hc => ?_)
 ·have hk1 : k < ws.length := by omega
  clear hc
  obtain ⟨ba, oa, rfl⟩ := hsa O
  have he := herr k hk1
  (refine aR (aE (aP (aE ?_))))
  refine bX _ [] (Sp.refl _) qR qR ?_
  (refine aD V Z Z Z (aD V Z Z Z ?_))
  refine bF V Z Z Z Z Z O O ?_
  (refine aD V Z Z Z ?_)
  refine bI (v := .int .i64 ws[k].1) V Z Z Z (fun w hs => RdS.at0 (RdE.keep hl hs.chg0) k hk1) ?_
  (refine aD V Z Z Z (aD V Z Z Z ?_))
  refine bF V Z Z Z Z Z O O ?_
  (refine aD V Z Z Z ?_)
  refine bI (v := .int .i64 ws[k].2) V Z Z Z (fun w hs => RdS.at1 (RdE.keep hl hs.chg0) k hk1) ?_
  (refine aD V Z Z Z (aD V Z Z Z ?_))
  refine jA Z Z (fun hc => ?_) (fun hc => ?_)
  ·((iterate 6 refine eD Z Z Z ?_); refine aD V Z Z Z (aD V Z Z Z ?_); (iterate 6 refine eD Z Z Z ?_); refine aD V Z Z Z (aK (aM Z (aE (aB (aA V Z Z (aF (aW ?_))))))))
   refine aX V Z U fun w hs => ?_
   exact ⟨by rw [he (by cases hh : spB 300 ws[k] with | false => rfl | true => have := kN.1 hh; simp at hc; omega)]; rfl, hs.chg0⟩
  have d1 := of_decide_eq_false hc
  clear hc
  (refine aG Z (aD V Z Z Z (aG Z (aD V Z Z Z (aG Z ?_)))))
  refine bF V Z Z Z Z Z O O ?_
  (refine aG Z (aD V Z Z Z (aG Z ?_)))
  refine bI (v := .int .i64 ws[k].1) V Z Z Z (fun w hs => RdS.at0 (RdE.keep hl hs.chg0) k hk1) ?_
  (refine aG Z ?_; (iterate 3 refine aD V Z Z Z ?_))
  refine jA Z Z (fun hc => ?_) (fun hc => ?_)
  ·((iterate 6 refine eD Z Z Z ?_); refine aD V Z Z Z (aK (aM Z (aE (aB (aA V Z Z (aF (aW ?_))))))))
   refine aX V Z U fun w hs => ?_
   exact ⟨by rw [he (by cases hh : spB 300 ws[k] with | false => rfl | true => have := kN.1 hh; simp at hc; omega)]; rfl, hs.chg0⟩
  have d2 := of_decide_eq_false hc
  clear hc
  (refine aG Z (aD V Z Z Z (aG Z (aD V Z Z Z (aG Z ?_)))))
  refine bF V Z Z Z Z Z O O ?_
  (refine aG Z (aD V Z Z Z (aG Z ?_)))
  refine bI (v := .int .i64 ws[k].2) V Z Z Z (fun w hs => RdS.at1 (RdE.keep hl hs.chg0) k hk1) ?_
  (refine aG Z (aD V Z Z Z (aD V Z Z Z (aK ?_))))
  refine dD Z (fun hc => ?_) (fun hc => ?_)
  ·(refine aE (aB (aA V Z Z (aF (aW ?_)))))
   refine aX V Z U fun w hs => ?_
   exact ⟨by rw [he (by cases hh : spB 300 ws[k] with | false => rfl | true => have := kN.1 hh; omega)]; rfl, hs.chg0⟩
  ·(refine aR (bL (aB (aA V Z Z (bB V Z Z Z Z O O (aA V Z Z (aF ?_)))))))
   exact hK (k + 1) _ _ ⟨by omega, eI hk1 hall (kN.2 O)⟩ O ⟨Z, Z, Z, trivial⟩ U
 ·obtain rfl : k = 5 := by omega
  clear hc hK
  rw [List.take_of_length_le O] at hall
  (refine bJ _ Z (aE (aB (aA V Z Z (aF (aW ?_))))))
  refine aX V Z U fun w hs => ?_
  exact ⟨by rw [cN, if_neg O, if_neg O, hall, if_neg (by simp)]; rfl, hs.chg0⟩

theorem rfaced_ca (w : World) (l0 h1 : Nat) (cs : List Value) (r : Rg) (v : Value) (l : List Int) (click : Int) (h : RgC w cs r) (hr : r.Right) (hl : RdI w l0 h1 v l) (hlen : l.length ≤ 1000000) (hb : ∀ x ∈ l, -1000000 ≤ x ∧ x ≤ 1000000) (hck : -1000 ≤ click ∧ click ≤ 1000) :
  Ca Tryz.prog 12 [.agg cs.toArray, v, .int .i64 click] w fun v w' => v = rtV (fG r l click) ∧ Chg [] w w' := by
 have h0 := h
 obtain ⟨lo, hi, ag, cg, ad, cd, af, cf, an, cn, rfl, hg, hdr, hf, hn⟩ := h
 obtain ⟨a, ca, rfl, hsa⟩ := RdI.outI hl
 have hg2 := hr.g2
 have hgs := hr.gsum
 refine dB (Sat.nil w M0) Tryz.func12 Z (by simp [Tryz.ntmps12]) ?_
 (refine aE (aB ?_))
 refine bG Z Z (fun b3 => ?_)
 refine aV cO Z (fun b6 => ?_)
 (refine aF (aE (aB (aA V Z Z (aF (aE (aE (aB (aA V Z Z (aF (aP ?_)))))))))))
 refine bN (σ := Nat) (fun k => k ≤ l.length) (fun k => l.length - k) (fun k => [(1, .slice a l.length ca), (2, .int .i64 click), (3, .pointer (some ⟨b3, 0, none⟩)), (6, .pointer (some ⟨b6, 0, none⟩)), (7, .int .i64 (facS r l click k)), (8, .int .i64 k)])
  (fun _ => [.pt b6 [.int .i64 0, .int .i64 0] 36, .pt b3 [.int .i64 r.radius, .int .i64 r.unit, .int .i64 r.clicks, .int .i64 r.total, .slice ag r.group.length cg, .slice ad r.drifts.length cd, .slice af r.first.length cf, .slice an r.next.length cn] 34]) 0 O ⟨rfl, rfl, rfl, rfl, rfl, rfl, trivial⟩ U ?_
 intro k hk K hK
 have hfb := lE r hr l click k
 (refine aE (aE (aB ?_)); (iterate 4 refine aA V Z Z ?_); refine aF ?_)
 refine dD Z (fun hc => ?_) (fun hc => ?_)
 ·have hk2 : k < l.length := by omega
  clear hc
  obtain ⟨ba, oa, rfl⟩ := hsa O
  have hxb := hb l[k] (List.getElem_mem hk2)
  have hmb := eC r hr l[k] click
  have hst := facS_succ r l click k hk2
  (refine aR (aE (aP ?_)))
  refine bX _ [] (Sp.refl _) qR qR ?_
  (refine aD V Z Z Z ?_; refine aO V Z Z Z ?_; refine aD V Z Z Z (aD V Z Z Z ?_))
  (refine bF V Z Z Z Z Z O O ?_; refine bI V Z Z Z (fun w hs => RdI.at (RdE.keep hl hs.chg0) k hk2) ?_)
  (refine aD V Z Z Z ?_)
  refine aS (val := .int .i64 (cX r l[k] click)) V Z Z Z Z (fun w hs => ?_) ?_; exact mC w _ r _ click (h0.keep hs.chg0) hr hxb hck
  (refine bY V Z Z Z Z O O (aD V Z Z Z (aK (bL (aB (aA V Z Z (bB V Z Z Z Z O O (aA V Z Z (aF ?_)))))))))
  exact hK (k + 1) _ _ O O ⟨Z, Z, Z, Z, by rw [hst]; rfl, Z, trivial⟩ U
 ·obtain rfl : k = l.length := by omega
  clear hc hK
  (refine bJ _ Z (aE (aB (aA V Z Z (aA V Z Z ?_)))); refine aH V Z Z Z ?_)
  refine aJ (val := .int .i64 r.group.sum) V Z Z Z Z (fun w hs => ?_) ?_; exact fI w lo hi _ r.group (RdE.keep hg hs.chg0) O (fun x hx => by have := hr.weight x hx; omega)
  refine aJ (val := rtV (fG r l click)) V Z Z Z Z (fun w hs => ?_) ?_; exact jV (facS r l click l.length) r.group.sum w O O O O
  (refine aY V Z Z Z Z Z U Z ?_; refine aF (aW ?_))
  refine aX V Z U fun w hs => ?_
  exact ⟨Z, hs.chg0⟩

/-- The most misses of the first drifts of a span. -/
def mxP (r : Rg) (click lo : Int) : Nat → Int
 | 0 => 0
 | k + 1 => max (mxP r click lo k) (cX r (lo + k) click)
theorem mxP_w (r : Rg) (hr : r.Right) (click lo : Int) : ∀ k, mxP r click lo (k + 1) = cX r (wP r click lo (k + 1)) click
 | 0 => by
  have h := eC r hr lo click
  simp only [mxP, wP]
  simp
  omega
 | k + 1 => by
  have e : wP r click lo (k + 1 + 1) = if cX r (wP r click lo (k + 1)) click < cX r (lo + ((k + 1 : Nat) : Int)) click then lo + ((k + 1 : Nat) : Int) else wP r click lo (k + 1) := rfl
  rw [mxP, mxP_w r hr click lo k, e]
  split <;> omega
theorem mxP_bd (r : Rg) (hr : r.Right) (click lo : Int) : ∀ k, 0 ≤ mxP r click lo k ∧ mxP r click lo k ≤ 100
 | 0 => by simp [mxP]
 | k + 1 => by
  have h1 := mxP_bd r hr click lo k
  have h2 := eC r hr (lo + k) click
  have h3 := hr.gsum
  rw [mxP]
  omega
theorem rworst_ca (w : World) (l0 h1 : Nat) (cs : List Value) (r : Rg) (v : Value) (ws : List (Int × Int)) (click : Int) (h : RgC w cs r) (hr : r.Right) (hl : RdS w l0 h1 v ws) (hw : WindOk ws) (hck : -1000 ≤ click ∧ click ≤ 1000) :
  Ca Tryz.prog 45 [.agg cs.toArray, v, .int .i64 click] w fun v w' => v = rtV (jD r ws click) ∧ Chg [] w w' := by
 have h0 := h
 obtain ⟨lo, hi, ag, cg, ad, cd, af, cf, an, cn, rfl, hg, hdr, hf, hn⟩ := h
 obtain ⟨a, ca, rfl, hsa⟩ := RdS.outI hl
 have h5 := hw.len
 obtain ⟨ba, oa, rfl⟩ := hsa O
 have hg2 := hr.g2
 have hgs := hr.gsum
 have hwl := dF r ws click
 refine dB (Sat.nil w M0) Tryz.func45 Z (by simp [Tryz.ntmps45]) ?_
 (refine aE (aB ?_))
 refine bG Z Z (fun b3 => ?_)
 refine aV cO Z (fun b6 => ?_)
 (refine aF (aE (aB (aA V Z Z (aF (aE (aE (aB (aA V Z Z (aF (aP ?_)))))))))))
 refine bN (σ := Nat) (fun k => k ≤ 5) (fun k => 5 - k) (fun k => [(1, .slice (some ⟨ba, oa, none⟩) ws.length ca), (2, .int .i64 click), (3, .pointer (some ⟨b3, 0, none⟩)), (6, .pointer (some ⟨b6, 0, none⟩)), (7, .int .i64 (facS r (cF r ws click) click k)), (8, .int .i64 k)])
  (fun _ => [.pt b6 [.int .i64 0, .int .i64 0] 36, .pt b3 [.int .i64 r.radius, .int .i64 r.unit, .int .i64 r.clicks, .int .i64 r.total, .slice ag r.group.length cg, .slice ad r.drifts.length cd, .slice af r.first.length cf, .slice an r.next.length cn] 34]) 0 O ⟨rfl, rfl, rfl, rfl, rfl, rfl, trivial⟩ U ?_
 intro k hk K hK
 have hfb := lE r hr (cF r ws click) click k
 (refine aE (aE (aB (aA V Z Z (aA V Z Z (aF ?_))))))
 refine dD Z (fun hc => ?_) (fun hc => ?_)
 ·have hk2 : k < ws.length := by omega
  clear hc
  have hsp := hw.sp ws[k] (List.getElem_mem hk2)
  obtain ⟨lo1, hlo1⟩ : ∃ z, z = ws[k].1 := ⟨_, rfl⟩
  obtain ⟨hi1, hhi1⟩ : ∃ z, z = ws[k].2 := ⟨_, rfl⟩
  have hkw : k < (cF r ws click).length := by omega
  have hst := facS_succ r (cF r ws click) click k hkw
  have hwo : (cF r ws click)[k] = wP r click lo1 (hi1 - lo1 + 1).toNat := by simp [cF, lG, hlo1, hhi1]
  rw [hwo] at hst
  rw [← hlo1, ← hhi1] at hsp
  (refine aR (aE (aP (aE (aB (aA V Z Z (aF (aE (aE (aB (aA V Z Z (aA V Z Z ?_))))))))))))
  refine bW V Z Z Z Z Z O O ?_
  (refine aA V Z Z ?_)
  refine cI (v := .int .i64 lo1) V Z Z Z (fun w hs => by rw [hlo1]; exact RdS.at0 (RdE.keep hl hs.chg0) k hk2) ?_
  (refine aA V Z Z (aF (aP ?_)))
  refine bN (σ := Nat) (fun j => j ≤ (hi1 - lo1 + 1).toNat) (fun j => (hi1 - lo1 + 1).toNat - j) (fun j => [(1, .slice (some ⟨ba, oa, none⟩) ws.length ca), (2, .int .i64 click), (3, .pointer (some ⟨b3, 0, none⟩)), (6, .pointer (some ⟨b6, 0, none⟩)), (7, .int .i64 (facS r (cF r ws click) click k)), (8, .int .i64 k), (9, .int .i64 (mxP r click lo1 j)), (10, .int .i64 (lo1 + j))])
   (fun _ => [.pt b6 [.int .i64 0, .int .i64 0] 36, .pt b3 [.int .i64 r.radius, .int .i64 r.unit, .int .i64 r.clicks, .int .i64 r.total, .slice ag r.group.length cg, .slice ad r.drifts.length cd, .slice af r.first.length cf, .slice an r.next.length cn] 34]) 0 O ⟨rfl, rfl, rfl, rfl, rfl, rfl, rfl, fE rfl O, trivial⟩ U ?_
  intro j hj K2 hK2
  have hmx := mxP_bd r hr click lo1 j
  (refine aE (aE (aB ?_)); (iterate 3 refine aA V Z Z ?_))
  refine bW V Z Z Z Z Z O O ?_
  (refine aA V Z Z ?_)
  refine cI (v := .int .i64 hi1) V Z Z Z (fun w hs => by rw [hhi1]; exact RdS.at1 (RdE.keep hl hs.chg0) k hk2) ?_
  (refine aA V Z Z (aF ?_))
  refine dD Z (fun hc => ?_) (fun hc => ?_)
  ·have hj2 : j < (hi1 - lo1 + 1).toNat := by omega
   clear hc
   (refine aR (aE (aP (aB (aA V Z Z ?_)))); refine aI V Z Z Z ?_; refine aA V Z Z (aA V Z Z ?_))
   refine aJ (val := .int .i64 (cX r (lo1 + j) click)) V Z Z Z Z (fun w hs => ?_) ?_; exact mC w _ r _ click (h0.keep hs.chg0) hr O hck
   (refine aA V Z Z (aA V Z Z (aF (bL (aB (aA V Z Z (bB V Z Z Z Z O O (aA V Z Z (aF ?_)))))))))
   exact hK2 (j + 1) _ _ O O ⟨Z, Z, Z, Z, Z, Z, Z, fE Z O, trivial⟩ U
  ·have hje : j = (hi1 - lo1 + 1).toNat := by omega
   obtain ⟨j', rfl⟩ : ∃ j', j = j' + 1 := ⟨j - 1, by omega⟩
   clear hc hK2
   rw [← hje, ← mxP_w r hr] at hst
   (refine bJ _ Z (aB (aA V Z Z (aA V Z Z (bB V Z Z Z Z O O (aA V Z Z (aF (bL (aB (aA V Z Z (bB V Z Z Z Z O O (aA V Z Z ?_))))))))))); refine aF ?_)
   exact hK (k + 1) _ _ O O ⟨Z, Z, Z, Z, by rw [hst]; rfl, Z, trivial⟩ U
 ·obtain rfl : k = 5 := by omega
  clear hc hK
  (refine bJ _ Z (aE (aB (aA V Z Z (aA V Z Z ?_)))); refine aH V Z Z Z ?_)
  refine aJ (val := .int .i64 r.group.sum) V Z Z Z Z (fun w hs => ?_) ?_; exact fI w lo hi _ r.group (RdE.keep hg hs.chg0) O (fun x hx => by have := hr.weight x hx; omega)
  refine aJ (val := rtV (jD r ws click)) V Z Z Z Z (fun w hs => ?_) ?_; exact by have := jV (facS r (cF r ws click) click 5) r.group.sum w O O O O; unfold jD fG; rw [hwl, h5]; exact this
  (refine aY V Z Z Z Z Z U Z ?_; refine aF (aW ?_))
  refine aX V Z U fun w hs => ?_
  exact ⟨Z, hs.chg0⟩

theorem rworstF_ca (w : World) (l0 h1 : Nat) (cs : List Value) (r : Rg) (v : Value) (ws : List (Int × Int)) (click : Int) (h : RgC w cs r) (hsm : r.Small) (hl : RdS w l0 h1 v ws) (hlen : ws.length < 1000000) :
  Ca Tryz.prog 11 [.agg cs.toArray, v, .int .i64 click] w fun v w' => v = .tuple #[rtV (if nM r ws click = 0 then jD r ws click else (0, 0)), .int .i64 (nM r ws click)] ∧ Chg [] w w' := by
 have h0 := h
 obtain ⟨lo, hi, ag, cg, ad, cd, af, cf, an, cn, rfl, hg, hdr, hf, hn⟩ := h
 obtain ⟨a, ca, rfl, _⟩ := RdS.outI hl
 refine dB (Sat.nil w M0) Tryz.func11 Z (by simp [Tryz.ntmps11]) ?_
 (refine aE (aB ?_))
 refine bG Z Z (fun b3 => ?_)
 refine aV cO Z (fun b6 => ?_)
 (refine aA V Z Z (aF (aE (aE (aB ?_)))); refine aI V Z Z Z ?_; refine aA V Z Z ?_)
 refine aJ (val := .int .i64 (cN r ws)) V Z Z Z Z (fun w hs => ?_) ?_; exact rwinds_ca w _ _ _ r _ ws (h0.keep hs.chg0) hsm (RdE.keep hl hs.chg0) hlen
 (refine aA V Z Z (aF (aE (aB (aA V Z Z (aA V Z Z (aF ?_)))))))
 refine iN Z (fun hc => ?_) (fun hc => ?_)
 ·have e : nM r ws click = cN r ws := by rw [nM, if_pos hc]
  (refine aE (aB ?_))
  refine cE #[.int .i64 0, .int .i64 0] Z qR Z ?_
  (refine aA V Z Z ?_; refine aY V Z Z Z Z Z U Z ?_; refine aA V Z Z (aF (aW ?_)))
  refine aX V Z U fun w hs => ?_
  exact ⟨by rw [e, if_neg hc]; rfl, hs.chg0⟩
 have hbl : cN r ws = 0 := by simpa using hc
 obtain ⟨hck, hw⟩ := (dN r ws).1 hbl
 have hr := (bM r).1 hck
 have hC := hr.clicks
 clear hc
 (refine aR (aE (aE (aB (aA V Z Z (aA V Z Z ?_))))); refine aH V Z Z Z ?_; refine fJ V Z Z O O (aA V Z Z ?_); refine aH V Z Z Z ?_)
 refine aJ (val := .bool (!(inB click (-r.clicks) r.clicks))) V Z Z Z Z (fun w hs => ?_) ?_; exact fO click (-r.clicks) r.clicks w
 cases c2 : inB click (-r.clicks) r.clicks with
 | false =>
  have e : nM r ws click = 3 := by rw [nM, if_neg O, c2, if_pos (by simp)]
  (refine aF (aM Z (aE (aB ?_))))
  refine cE #[.int .i64 0, .int .i64 0] Z qR Z ?_
  (refine aY V Z Z Z Z Z U Z ?_; refine aA V Z Z (aF (aW ?_)))
  refine aX V Z U fun w hs => ?_
  exact ⟨by rw [e]; rfl, hs.chg0⟩
 | true =>
 have hcl := bH.1 c2
 have e : nM r ws click = 0 := by rw [nM, if_neg O, c2, if_neg (by simp)]
 (refine aF (aL Z (aR (aE (aB ?_)))); refine aI V Z Z Z ?_; refine aA V Z Z (aA V Z Z ?_))
 refine aJ (val := rtV (jD r ws click)) V Z Z Z Z (fun w hs => ?_) ?_; exact rworst_ca w _ _ _ r _ ws click (h0.keep hs.chg0) hr (RdE.keep hl hs.chg0) hw O
 (refine aY V Z Z Z Z Z U Z ?_; refine aA V Z Z (aF (aW ?_)))
 refine aX V Z U fun w hs => ?_
 exact ⟨by rw [e]; rfl, hs.chg0⟩
end Go.Proofs.YtohlillcaadidaaGreat

/- Walks of the reference: the robust click, and what witnesses show. -/
namespace Go.Proofs.YtohlillcaadidaaGreat
open Go Go.Eng

theorem robQ_eq5 {r : Rg} {ws : List (Int × Int)} (hw : WindOk ws) (c : Int) : jD r ws c = ratioV (facS r (cF r ws c) c 5) r.group.sum := by
 unfold jD fG
 rw [dF, hw.len]
theorem rob_pick {r : Rg} (hr : r.Right) {ws : List (Int × Int)} (hw : WindOk ws) : ∃ m, fH (jD r ws) (cR r.clicks 0) = (m, jD r ws m) ∧ (-r.clicks ≤ m ∧ m ≤ r.clicks) ∧ (pickI r.clicks ((eT r.clicks).map (jD r ws)) (2 * r.clicks).toNat : Int) = m + r.clicks :=
 pick_law (jD r ws) (fun c => facS r (cF r ws c) c 5) r.clicks hr.clicks.1 (fun a b _ _ => by
  rw [robQ_eq5 hw, robQ_eq5 hw]
  exact mR (by have := hr.gsum; omega) (lE r hr _ _ _).1 (lE r hr _ _ _).1)
theorem rrobust_ca (w : World) (l0 h1 : Nat) (cs : List Value) (r : Rg) (v : Value) (ws : List (Int × Int)) (h : RgC w cs r) (hsm : r.Small) (hl : RdS w l0 h1 v ws) (hlen : ws.length < 1000000) :
  Ca Tryz.prog 14 [.agg cs.toArray, v] w fun v w' => v = .tuple #[.int .i64 (nF r ws).1, rtV (nF r ws).2.1, .int .i64 (nF r ws).2.2] ∧ Chg [] w w' := by
 have h0 := h
 obtain ⟨lo, hi, ag, cg, ad, cd, af, cf, an, cn, rfl, hg, hdr, hf, hn⟩ := h
 obtain ⟨a, ca, rfl, _⟩ := RdS.outI hl
 refine dB (Sat.nil w M0) Tryz.func14 Z (by simp [Tryz.ntmps14]) ?_
 (refine aE (aB ?_))
 refine bG Z Z (fun b2 => ?_)
 (refine aA V Z Z ?_)
 refine aV cO Z (fun b5 => ?_)
 (refine aA V Z Z (aF (aE (aE (aB ?_)))); refine aI V Z Z Z ?_; refine aA V Z Z ?_)
 refine aJ (val := .int .i64 (cN r ws)) V Z Z Z Z (fun w hs => ?_) ?_; exact rwinds_ca w _ _ _ r _ ws (h0.keep hs.chg0) hsm (RdE.keep hl hs.chg0) hlen
 (refine aA V Z Z (aF (aE (aB (aA V Z Z (aA V Z Z (aF ?_)))))))
 refine iN Z (fun hc => ?_) (fun hc => ?_)
 ·(refine aE (aB ?_))
  refine cE #[.int .i64 0, .int .i64 0] Z qR Z ?_
  (refine aA V Z Z (aA V Z Z ?_); refine aY V Z Z Z Z Z U Z ?_; refine aA V Z Z (aF (aW ?_)))
  refine aX V Z U fun w hs => ?_
  exact ⟨by rw [nF, if_pos hc]; rfl, hs.chg0⟩
 have hbl : cN r ws = 0 := by simpa using hc
 obtain ⟨hck, hw⟩ := (dN r ws).1 hbl
 have hr := (bM r).1 hck
 have hC := hr.clicks
 clear hc
 obtain ⟨m, hm1, hm2, hm3⟩ := rob_pick hr hw
 have hbv : nF r ws = (m, jD r ws m, 0) := by unfold nF; rw [if_neg O, hm1]
 (refine aR (aE (aB (aA V Z Z (aF (aE (aE (aB (aA V Z Z ?_)))))))); refine aH V Z Z Z ?_; refine fJ V Z Z O O (aA V Z Z (aF (aP ?_))))
 refine fD (H' := [.ow (.slice none 0 0) 36 2 0 (spC (((eT r.clicks).take 0).map (jD r ws))), .pt b5 [.int .i64 0, .int .i64 0] 36, .pt b2 [.int .i64 r.radius, .int .i64 r.unit, .int .i64 r.clicks, .int .i64 r.total, .slice ag r.group.length cg, .slice ad r.drifts.length cd, .slice af r.first.length cf, .slice an r.next.length cn] 34]) (fun w' hs => Sat.ownil (hs.sp U) _ _) ?_
 refine bN (σ := Nat × Value) (fun s => s.1 ≤ (2 * r.clicks + 1).toNat) (fun s => (2 * r.clicks + 1).toNat - s.1) (fun s => [(1, .slice a ws.length ca), (2, .pointer (some ⟨b2, 0, none⟩)), (5, .pointer (some ⟨b5, 0, none⟩)), (8, s.2), (9, .int .i64 ((s.1 : Int) - r.clicks))])
  (fun s => [.ow s.2 36 2 s.1 (spC (((eT r.clicks).take s.1).map (jD r ws))), .pt b5 [.int .i64 0, .int .i64 0] 36, .pt b2 [.int .i64 r.radius, .int .i64 r.unit, .int .i64 r.clicks, .int .i64 r.total, .slice ag r.group.length cg, .slice ad r.drifts.length cd, .slice af r.first.length cf, .slice an r.next.length cn] 34]) (0, .slice none 0 0) (by simp) ⟨rfl, rfl, rfl, rfl, fE rfl (by simp), trivial⟩ U ?_
 rintro ⟨j, v⟩ hj K hK
 simp only at hj
 dsimp only
 (refine aE (aE (aB (aA V Z Z (aA V Z Z ?_)))); refine aH V Z Z Z ?_; refine aA V Z Z (aF ?_))
 refine dD Z (fun hc => ?_) (fun hc => ?_)
 ·have hj2 : j < (2 * r.clicks + 1).toNat := by omega
  clear hc
  have e1 : spC (((eT r.clicks).take (j + 1)).map (jD r ws)) = spC (((eT r.clicks).take j).map (jD r ws)) ++ [.int .i64 (jD r ws ((j : Int) - r.clicks)).1, .int .i64 (jD r ws ((j : Int) - r.clicks)).2] := by
   rw [qQ _ _ hj2]
   simp [spC]
  (refine aR (aE (aP (aB (aA V Z Z ?_)))); refine aI V Z Z Z ?_; refine aA V Z Z (aA V Z Z ?_))
  refine aJ (val := .agg #[.int .i64 (jD r ws ((j : Int) - r.clicks)).1, .int .i64 (jD r ws ((j : Int) - r.clicks)).2]) V Z Z Z Z (fun w hs => ?_) ?_; exact rworst_ca w _ _ _ r _ ws _ (h0.keep hs.chg0) hr (RdE.keep hl hs.chg0) hw O
  refine dP 36 [.int .i64 (jD r ws ((j : Int) - r.clicks)).1, .int .i64 (jD r ws ((j : Int) - r.clicks)).2] Z qR Z (fun bn => ?_)
  refine eH (q := 1) slR Z Z Z (fun v' => by repeat constructor) (fun w' hs => ⟨_, _, Blk.rdSp (hs.blk (b := bn) U)⟩) (by simp [dY]) O O (fun v' => ?_)
  (refine aA V Z Z (aF (bL (aB (aA V Z Z (bB V Z Z Z Z O O (aA V Z Z (aF ?_))))))))
  exact hK (j + 1, v') _ _ (by simp only; omega) (by simp only; omega) ⟨Z, Z, Z, Z, fE Z (by simp only; omega), trivial⟩ (by simp only [e1]; repeat constructor)
 ·obtain rfl : j = (2 * r.clicks + 1).toNat := by omega
  clear hc hK
  have hlen2 : ((eT r.clicks).map (jD r ws)).length = (2 * r.clicks + 1).toNat := by rw [List.length_map, gA]
  rw [List.take_of_length_le (by rw [gA]; omega)]
  have hm4 : pickI r.clicks ((eT r.clicks).map (jD r ws)) (((eT r.clicks).map (jD r ws)).length - 1) = (m + r.clicks).toNat := by
   rw [hlen2, show (2 * r.clicks + 1).toNat - 1 = (2 * r.clicks).toNat by omega]
   omega
  have hm5 : ((eT r.clicks).map (jD r ws)).getD (m + r.clicks).toNat (0, 1) = jD r ws m := by
   rw [allC_at _ _ _ O]
   congr 1
   omega
  (refine bJ _ Z (aE (aB ?_)); refine aI V Z Z Z ?_; refine aA V Z Z ?_)
  refine aJ (val := .tuple #[.int .i64 m, .agg #[.int .i64 (jD r ws m).1, .int .i64 (jD r ws m).2]]) V rfl rfl rfl rfl (fun w hs => ?_) ?_; exact by have := pick_ca w 0 w.heap.size _ r v ((eT r.clicks).map (jD r ws)) (h0.keep hs.chg0) hC (Sat.rdSp hs (t := 36) (k := (2 * r.clicks + 1).toNat) U hlen2.symm) O O (fun x hx => by obtain ⟨c, _, rfl⟩ := List.mem_map.1 hx; exact robQ_fine r hr ws hw c); rw [hm4, hm5, show (((m + r.clicks).toNat : Nat) : Int) - r.clicks = m by omega] at this; exact this
  (refine aA V Z Z (bC V Z Z Z (bC V Z Z Z ?_)))
  refine aV cO Z (fun b11 => ?_)
  (refine aA V Z Z ?_; refine aY V Z Z Z Z Z U Z ?_; refine aF (aE ?_))
  refine bX _ [.pt b5 _ _] (Sp.cons U (Sp.refl _)) qR qR ?_
  (refine aD V Z Z Z ?_; refine aO V Z Z Z ?_; refine aD V Z Z Z ?_; refine bK V Z Z Z Z Z U Z ?_; refine aD V Z Z Z (aK (aW ?_)))
  refine aX V Z U fun w hs => ?_
  exact ⟨by rw [hbv]; rfl, hs.chg0⟩

theorem shows_2 {r : Rg} {ws : List (Int × Int)} {wl : List (List Int)} (h0 : cN r ws = 0) (h1 : (wl.length : Int) = 2 * r.clicks + 1) (i : Nat) (hi : i < wl.length) (h : wl[i].length ≠ 5) : eA r ws wl = ((0, 0), 2) := by
 have e : wl.all shB = false := List.all_eq_false.2 ⟨wl[i], List.getElem_mem hi, by simp [shB]; omega⟩
 unfold eA
 rw [if_neg O, if_neg O, e]
 rfl
theorem shows_8 {r : Rg} {ws : List (Int × Int)} {wl : List (List Int)} (h0 : cN r ws = 0) (h1 : (wl.length : Int) = 2 * r.clicks + 1) (h2 : wl.all shB = true) (i : Nat) (hi : i < wl.length) (h : witB ws wl[i] = false) : eA r ws wl = ((0, 0), 8) := by
 have e : wl.all (witB ws) = false := List.all_eq_false.2 ⟨wl[i], List.getElem_mem hi, by simp [h]⟩
 unfold eA
 rw [if_neg O, if_neg O, h2, if_neg (by simp), e]
 rfl
theorem wit_no {ws : List (Int × Int)} {l : List Int} (k : Nat) (hk : k < l.length) (h : inB (l.getD k 0) (ws.getD k (0, 0)).1 (ws.getD k (0, 0)).2 = false) : witB ws l = false := by
 cases hw : witB ws l with
 | false => rfl
 | true => rw [witB_at hw k hk] at h; cases h

set_option maxHeartbeats 4000000 in
theorem rshows_ca (w : World) (l0 h1 l2 h2 : Nat) (cs : List Value) (r : Rg) (v u : Value) (ws : List (Int × Int)) (wl : List (List Int)) (h : RgC w cs r) (hsm : r.Small) (hl : RdS w l0 h1 v ws) (hlen : ws.length < 1000000) (hu : RdII w l2 h2 u wl) (hwlen : wl.length < 1000000) (hrw : ∀ l ∈ wl, l.length < 1000000) :
  Ca Tryz.prog 16 [.agg cs.toArray, v, u] w fun v w' => v = .tuple #[rtV (eA r ws wl).1, .int .i64 (eA r ws wl).2] ∧ Chg [] w w' := by
 have h0 := h
 obtain ⟨lo, hi, ag, cg, ad, cd, af, cf, an, cn, rfl, hg, hdr, hf, hn⟩ := h
 obtain ⟨a, ca, rfl, hsa⟩ := RdS.outI hl
 obtain ⟨ua, uc, rfl, hsu⟩ := RdII.outI hu
 have hC0 : True := trivial
 refine dB (Sat.nil w M0) Tryz.func16 Z (by simp [Tryz.ntmps16]) ?_
 (refine aE (aB ?_))
 refine bG Z Z (fun b3 => ?_)
 refine aV cO Z (fun b6 => ?_)
 (refine aA V Z Z (aF (aE (aE (aB ?_)))); refine aI V Z Z Z ?_; refine aA V Z Z ?_)
 refine aJ (val := .int .i64 (cN r ws)) V Z Z Z Z (fun w hs => ?_) ?_; exact rwinds_ca w _ _ _ r _ ws (h0.keep hs.chg0) hsm (RdE.keep hl hs.chg0) hlen
 (refine aA V Z Z (aF (aE (aB (aA V Z Z (aA V Z Z (aF ?_)))))))
 refine iN Z (fun hc => ?_) (fun hc => ?_)
 ·(refine aE (aB ?_))
  refine cE #[.int .i64 0, .int .i64 0] Z qR Z ?_
  (refine aA V Z Z ?_; refine aY V Z Z Z Z Z U Z ?_; refine aA V Z Z (aF (aW ?_)))
  refine aX V Z U fun w hs => ?_
  exact ⟨by rw [eA, if_pos hc]; rfl, hs.chg0⟩
 have hbl : cN r ws = 0 := by simpa using hc
 obtain ⟨hck, hw⟩ := (dN r ws).1 hbl
 have hr := (bM r).1 hck
 have hC := hr.clicks
 have h5 := hw.len
 have hun := hr.gsum
 clear hc
 (refine aR (aE (aE (aB ?_))); (iterate 3 refine aA V Z Z ?_); refine aH V Z Z Z ?_; refine bB V Z Z Z Z O O (bB V Z Z Z Z O O (aA V Z Z (aF ?_))))
 refine iN Z (fun hc => ?_) (fun hc => ?_)
 ·(refine aE (aB ?_))
  refine cE #[.int .i64 0, .int .i64 0] Z qR Z ?_
  (refine aY V Z Z Z Z Z U Z ?_; refine aA V Z Z (aF (aW ?_)))
  refine aX V Z U fun w hs => ?_
  exact ⟨by rw [eA, if_neg O, if_pos hc]; rfl, hs.chg0⟩
 have hwn : (wl.length : Int) = 2 * r.clicks + 1 := by omega
 clear hc
 have he2 := shows_2 (wl := wl) hbl hwn
 (refine aR (aE (aE (aB (aA V Z Z (aF (aP ?_)))))))
 refine bN (σ := Nat) (fun k => k ≤ wl.length ∧ (wl.take k).all shB = true) (fun k => wl.length - k) (fun k => [(1, .slice a ws.length ca), (2, .slice ua wl.length uc), (3, .pointer (some ⟨b3, 0, none⟩)), (6, .pointer (some ⟨b6, 0, none⟩)), (9, .int .i64 k)])
  (fun _ => [.pt b6 [.int .i64 0, .int .i64 0] 36, .pt b3 [.int .i64 r.radius, .int .i64 r.unit, .int .i64 r.clicks, .int .i64 r.total, .slice ag r.group.length cg, .slice ad r.drifts.length cd, .slice af r.first.length cf, .slice an r.next.length cn] 34]) 0 ⟨by omega, rfl⟩ ⟨rfl, rfl, rfl, rfl, rfl, trivial⟩ U ?_
 rintro k ⟨hk, hall⟩ K hK
 (refine aE (aE (aB ?_)); (iterate 4 refine aA V Z Z ?_); refine aF ?_)
 refine dD Z (fun hc => ?_) (fun hc => ?_)
 ·have hk2 : k < wl.length := by omega
  clear hc
  obtain ⟨bu, ou, rfl⟩ := hsu O
  obtain ⟨ar, cr, hrow, hcell⟩ := hu.row k hk2
  (refine aR (aE (aP (aE (aB (aA V Z Z (aA V Z Z ?_)))))))
  refine bW V Z Z Z Z Z O O ?_
  refine cI (v := .slice ar wl[k].length cr) V Z Z Z (fun w' hs => hcell w' hs.chg0) ?_
  (refine aA V Z Z (aA V Z Z (aF ?_)))
  refine iN Z (fun hc => ?_) (fun hc => ?_)
  ·(refine aE (aB ?_))
   refine cE #[.int .i64 0, .int .i64 0] Z qR Z ?_
   (refine aY V Z Z Z Z Z U Z ?_; refine aA V Z Z (aF (aW ?_)))
   refine aX V Z U fun w hs => ?_
   exact ⟨by rw [he2 k hk2 O]; rfl, hs.chg0⟩
  ·(refine aR (bL (aB (aA V Z Z (bB V Z Z Z Z O O (aA V Z Z (aF ?_)))))))
   exact hK (k + 1) _ _ ⟨by omega, eI hk2 hall (by simp [shB]; omega)⟩ O ⟨Z, Z, Z, Z, Z, trivial⟩ U
 obtain rfl : k = wl.length := by omega
 rw [List.take_length] at hall
 clear hc hK he2
 have hr5 : ∀ l ∈ wl, l.length = 5 := fun l hm => by have := List.all_eq_true.1 hall l hm; simp [shB] at this; omega
 have he8 := shows_8 hbl hwn hall
 (refine bJ _ Z (aE (aB (aA V Z Z (aF (aE (aE (aB (aA V Z Z (aF (aP ?_)))))))))))
 refine fD (H' := [.ow (.slice none 0 0) 36 2 0 (spC (((eT r.clicks).take 0).map (shQ r wl))), .pt b6 [.int .i64 0, .int .i64 0] 36, .pt b3 [.int .i64 r.radius, .int .i64 r.unit, .int .i64 r.clicks, .int .i64 r.total, .slice ag r.group.length cg, .slice ad r.drifts.length cd, .slice af r.first.length cf, .slice an r.next.length cn] 34]) (fun w' hs => Sat.ownil (hs.sp U) _ _) ?_
 refine bN (σ := Nat × Value) (fun s => s.1 ≤ wl.length ∧ (wl.take s.1).all (witB ws) = true) (fun s => wl.length - s.1) (fun s => [(1, .slice a ws.length ca), (2, .slice ua wl.length uc), (3, .pointer (some ⟨b3, 0, none⟩)), (6, .pointer (some ⟨b6, 0, none⟩)), (10, s.2), (11, .int .i64 s.1)])
  (fun s => [.ow s.2 36 2 s.1 (spC (((eT r.clicks).take s.1).map (shQ r wl))), .pt b6 [.int .i64 0, .int .i64 0] 36, .pt b3 [.int .i64 r.radius, .int .i64 r.unit, .int .i64 r.clicks, .int .i64 r.total, .slice ag r.group.length cg, .slice ad r.drifts.length cd, .slice af r.first.length cf, .slice an r.next.length cn] 34]) (0, .slice none 0 0) ⟨by simp, by simp⟩ ⟨rfl, rfl, rfl, rfl, rfl, rfl, trivial⟩ U ?_
 rintro ⟨i, v⟩ ⟨hi, hwit⟩ K hK
 simp only at hi hwit
 dsimp only
 (refine aE (aE (aB ?_)); (iterate 4 refine aA V Z Z ?_); refine aF ?_)
 refine dD Z (fun hc => ?_) (fun hc => ?_)
 ·have hi2 : i < wl.length := by omega
  clear hc
  obtain ⟨bu, ou, rfl⟩ := hsu O
  obtain ⟨bw, ow, rfl⟩ := hsa O
  obtain ⟨ar, cr, hrow, hcell⟩ := hu.row i hi2
  have hrl := hr5 _ (List.getElem_mem hi2)
  have he := he8 i hi2
  obtain ⟨row, hrow0⟩ : ∃ row, row = wl[i] := ⟨_, rfl⟩
  rw [← hrow0] at hrow hcell hrl he
  obtain ⟨_, _, hsl2, hsr⟩ := RdI.outI hrow
  cases hsl2
  obtain ⟨br, offr, rfl⟩ := hsr O
  (refine aR (aE (aP (aE (aE (aB (aA V Z Z (aF (aP ?_)))))))))
  refine bN (σ := Nat) (fun k => k ≤ 5 ∧ ∀ j, j < k → inB (row.getD j 0) (ws.getD j (0, 0)).1 (ws.getD j (0, 0)).2 = true) (fun k => 5 - k) (fun k => [(1, .slice (some ⟨bw, ow, none⟩) ws.length ca), (2, .slice (some ⟨bu, ou, none⟩) wl.length uc), (3, .pointer (some ⟨b3, 0, none⟩)), (6, .pointer (some ⟨b6, 0, none⟩)), (10, v), (11, .int .i64 i), (12, .int .i64 k)])
   (fun _ => [.ow v 36 2 i (spC (((eT r.clicks).take i).map (shQ r wl))), .pt b6 [.int .i64 0, .int .i64 0] 36, .pt b3 [.int .i64 r.radius, .int .i64 r.unit, .int .i64 r.clicks, .int .i64 r.total, .slice ag r.group.length cg, .slice ad r.drifts.length cd, .slice af r.first.length cf, .slice an r.next.length cn] 34]) 0 ⟨by omega, fun j hj => by omega⟩ ⟨rfl, rfl, rfl, rfl, rfl, rfl, rfl, trivial⟩ U ?_
  rintro k ⟨hk, hks⟩ K2 hK2
  (refine aE (aE (aB (aA V Z Z (aA V Z Z (aF ?_))))))
  refine dD Z (fun hc => ?_) (fun hc => ?_)
  ·have hk5 : k < 5 := by omega
   clear hc
   have hkr : k < row.length := by omega
   have hkw : k < ws.length := by omega
   have hg1 : row.getD k 0 = row[k] := by simp [List.getD_eq_getElem?_getD, hkr]
   have hg2 : ws.getD k (0, 0) = ws[k] := by simp [List.getD_eq_getElem?_getD, hkw]
   (refine aR (aE (aP (aE ?_))))
   refine bX _ [] (Sp.refl _) qR qR ?_
   (refine aD V Z Z Z (aD V Z Z Z ?_))
   refine bF V Z Z Z Z Z O O ?_
   refine bI (v := .slice (some ⟨br, offr, none⟩) row.length cr) V Z Z Z (fun w' hs => hcell w' hs.chg0) ?_
   (refine aD V Z Z Z ?_)
   (refine bF V Z Z Z Z Z O O ?_; refine bI V Z Z Z (fun w hs => RdI.at (RdE.keep hrow hs.chg0) k hkr) ?_)
   (refine aD V Z Z Z (aD V Z Z Z ?_))
   refine bF V Z Z Z Z Z O O ?_
   (refine aD V Z Z Z ?_)
   refine bI (v := .int .i64 ws[k].1) V Z Z Z (fun w hs => RdS.at0 (RdE.keep hl hs.chg0) k hkw) ?_
   (refine aD V Z Z Z (aD V Z Z Z ?_))
   refine bF V Z Z Z Z Z O O ?_
   (refine aD V Z Z Z ?_)
   refine bI (v := .int .i64 ws[k].2) V Z Z Z (fun w hs => RdS.at1 (RdE.keep hl hs.chg0) k hkw) ?_
   refine aS (val := .bool (!(inB row[k] ws[k].1 ws[k].2))) V Z Z Z Z (fun w hs => ?_) ?_; exact fO row[k] ws[k].1 ws[k].2 w
   cases hin : inB row[k] ws[k].1 ws[k].2 with
   | false =>
    (refine aK (aM Z (aE (aB ?_))))
    refine cE #[.int .i64 0, .int .i64 0] Z qR Z ?_
    (refine aY V Z Z Z Z Z U Z ?_; refine aA V Z Z (aF (aW ?_)))
    refine aX V Z U fun w hs => ?_
    exact ⟨by rw [he (wit_no k hkr (by rw [hg1, hg2]; exact hin))]; rfl, hs.chg0⟩
   | true =>
    (refine aK (aL Z (aR (bL (aB (aA V Z Z (bB V Z Z Z Z O O (aA V Z Z (aF ?_)))))))))
    exact hK2 (k + 1) _ _ ⟨by omega, fun j hj => by
     by_cases hjk : j = k
     ·subst hjk; rw [hg1, hg2]; exact hin
     ·exact hks j O⟩ O ⟨Z, Z, Z, Z, Z, Z, Z, trivial⟩ U
  ·obtain rfl : k = 5 := by omega
   clear hc hK2
   have hwr : witB ws row = true := witB_of (fun j hj => hks j O)
   have hrb : ∀ x ∈ row, -1000000 ≤ x ∧ x ≤ 1000000 := fun x hx => by
    obtain ⟨j, hj, rfl⟩ := List.getElem_of_mem hx
    have g := bH.1 (hks j O)
    have g2 := hw.sp ws[j] (List.getElem_mem O)
    simp only [List.getD_eq_getElem?_getD, List.getElem?_eq_getElem hj, List.getElem?_eq_getElem (show j < ws.length by omega), Option.getD_some] at g
    omega
   have hshq : shQ r wl ((i : Int) - r.clicks) = fG r row ((i : Int) - r.clicks) := by
    unfold shQ
    rw [show ((i : Int) - r.clicks + r.clicks).toNat = i by omega, List.getD_eq_getElem?_getD, List.getElem?_eq_getElem hi2, Option.getD_some, hrow0]
   have e1 : spC (((eT r.clicks).take (i + 1)).map (shQ r wl)) = spC (((eT r.clicks).take i).map (shQ r wl)) ++ [.int .i64 (fG r row ((i : Int) - r.clicks)).1, .int .i64 (fG r row ((i : Int) - r.clicks)).2] := by
    rw [qQ _ _ O, ← hshq]
    simp [spC]
   (refine bJ _ Z ?_)
   refine bX _ [.ow v 36 2 i (spC (((eT r.clicks).take i).map (shQ r wl)))] (Sp.cons U (Sp.refl _)) qR qR ?_
   (refine aD V Z Z Z ?_; refine aO V Z Z Z ?_; refine aD V Z Z Z (aD V Z Z Z ?_))
   refine bF V Z Z Z Z Z O O ?_
   refine bI (v := .slice (some ⟨br, offr, none⟩) row.length cr) V Z Z Z (fun w' hs => hcell w' hs.chg0) ?_
   (refine aD V Z Z Z (aD V Z Z Z ?_); refine aT V Z Z Z ?_; refine bY V Z Z Z Z O O ?_)
   refine aS (val := .agg #[.int .i64 (fG r row ((i : Int) - r.clicks)).1, .int .i64 (fG r row ((i : Int) - r.clicks)).2]) V Z Z Z Z (fun w hs => ?_) ?_; exact rfaced_ca w _ _ _ r _ row _ (h0.keep hs.chg0) hr (RdE.keep hrow hs.chg0) O hrb O
   refine cA 36 [.int .i64 (fG r row ((i : Int) - r.clicks)).1, .int .i64 (fG r row ((i : Int) - r.clicks)).2] Z qR Z (fun bn => ?_)
   refine eG (q := 1) slR Z Z Z (fun v' => by repeat constructor) (fun w' hs => ⟨_, _, Blk.rdSp (hs.blk (b := bn) U)⟩) (by simp [dY]) O O (fun v' => ?_)
   (refine aD V Z Z Z (aK (bL (aB (aA V Z Z (bB V Z Z Z Z O O (aA V Z Z (aF ?_))))))))
   exact hK (i + 1, v') _ _ ⟨by simp only; omega, eI hi2 hwit (by rw [← hrow0]; exact hwr)⟩ (by simp only; omega) ⟨Z, Z, Z, Z, Z, Z, trivial⟩ (by simp only [e1]; repeat constructor)
 ·obtain rfl : i = wl.length := by omega
  clear hc hK
  rw [List.take_length] at hwit
  have hlen2 : ((eT r.clicks).map (shQ r wl)).length = wl.length := by rw [List.length_map, gA]; omega
  rw [List.take_of_length_le (by rw [gA]; omega)]
  have hwb : ∀ l ∈ wl, l.length = 5 ∧ witB ws l = true := fun l hm => ⟨hr5 l hm, List.all_eq_true.1 hwit l hm⟩
  have hshl : ∀ c, (wl.getD (c + r.clicks).toNat []).length ≤ 5 := fun c => by
   by_cases hi : (c + r.clicks).toNat < wl.length
   ·rw [List.getD_eq_getElem?_getD, List.getElem?_eq_getElem hi, Option.getD_some, hr5 _ (List.getElem_mem hi)]
    omega
   ·rw [List.getD_eq_getElem?_getD, List.getElem?_eq_none O]
    simp
  obtain ⟨m, hm1, hm2, hm3⟩ := pick_law (shQ r wl) (fun c => facS r (wl.getD (c + r.clicks).toNat []) c (wl.getD (c + r.clicks).toNat []).length) r.clicks hC.1 (fun a b _ _ => by
   unfold shQ fG
   exact mR O (lE r hr _ _ _).1 (lE r hr _ _ _).1)
  have hsv : eA r ws wl = (shQ r wl m, 0) := by
   unfold eA
   rw [if_neg O, if_neg O, hall, if_neg (by simp), hwit, if_neg (by simp), hm1]
  have hm4 : pickI r.clicks ((eT r.clicks).map (shQ r wl)) (((eT r.clicks).map (shQ r wl)).length - 1) = (m + r.clicks).toNat := by
   rw [hlen2, show wl.length - 1 = (2 * r.clicks).toNat by omega]
   omega
  have hm5 : ((eT r.clicks).map (shQ r wl)).getD (m + r.clicks).toNat (0, 1) = shQ r wl m := by
   rw [allC_at _ _ _ O]
   congr 1
   omega
  (refine bJ _ Z (aE (aB ?_)); refine aI V Z Z Z ?_; refine aA V Z Z ?_)
  refine aJ (val := .tuple #[.int .i64 m, .agg #[.int .i64 (shQ r wl m).1, .int .i64 (shQ r wl m).2]]) V rfl rfl rfl rfl (fun w hs => ?_) ?_; exact by have := pick_ca w 0 w.heap.size _ r v ((eT r.clicks).map (shQ r wl)) (h0.keep hs.chg0) hC (Sat.rdSp hs (t := 36) (k := wl.length) U hlen2.symm) O O (fun x hx => by obtain ⟨c, _, rfl⟩ := List.mem_map.1 hx; exact oK r hr _ _ (hshl c)); rw [hm4, hm5, show (((m + r.clicks).toNat : Nat) : Int) - r.clicks = m by omega] at this; exact this
  (refine aA V Z Z (bC V Z Z Z (bC V Z Z Z ?_)))
  refine aV cO Z (fun b14 => ?_)
  (refine aA V Z Z ?_; refine aY V Z Z Z Z Z U Z ?_; refine aF (aE (aB ?_)); refine aI V Z Z Z ?_; refine aY V Z Z Z Z Z U Z ?_; refine aA V Z Z (aF (aW ?_)))
  refine aX V Z U fun w hs => ?_
  exact ⟨by rw [hsv]; rfl, hs.chg0⟩
end Go.Proofs.YtohlillcaadidaaGreat

/- The walk of WindWorsts. -/
namespace Go.Proofs.YtohlillcaadidaaGreat
open Go Go.Eng

set_option maxHeartbeats 1000000 in
theorem eqS5_ca (w : World) (lo hi lo2 hi2 : Nat) (v u : Value) (l : List (Int × Int)) (h1 : RdS w lo hi v l) (h2 : RdS w lo2 hi2 u l) (hlen : l.length ≤ 1000000) :
  Ca Tryz.prog 19 [v, u] w fun r w' => r = .bool true ∧ Chg [] w w' := by
 obtain ⟨a, ca, rfl, hsa⟩ := RdS.outI h1
 obtain ⟨b, cb, rfl, hsb⟩ := RdS.outI h2
 refine dB (Sat.nil w M0) Tryz.func19 Z (by simp [Tryz.ntmps19]) ?_
 (refine aE (aB (aA V Z Z (aF (aE (aE (aB ?_)))))); (iterate 4 refine aA V Z Z ?_); refine dM V Z Z Z O (aF (aL Z (aR (aE (aE (aB ?_)))))); (iterate 3 refine aA V Z Z ?_); refine aF (aP ?_))
 refine bN (σ := Nat) (fun s => s ≤ l.length) (fun s => l.length - s) (fun s => [(0, .slice a l.length ca), (1, .slice b l.length cb), (12, .int .i64 l.length), (13, .int .i64 s)]) (fun _ => []) 0 O ⟨Z, Z, Z, Z, trivial⟩ U ?_
 intro i hi K hK
 (refine aE (aB (aA V Z Z (aF (aE ?_)))))
 refine dD Z (fun hc => ?_) (fun hc => ?_)
 ·have hi2 : i < l.length := by omega
  clear hc
  obtain ⟨ba, oa, rfl⟩ := hsa O
  obtain ⟨bb, ob, rfl⟩ := hsb O
  (refine aR (aE (aP (aE (aB (aA V Z Z (aA V Z Z (aF (aE ?_)))))))))
  refine bX _ [] (Sp.refl _) qR qR ?_
  (refine aD V Z Z Z (aD V Z Z Z ?_))
  (refine bF V Z Z Z Z Z O O ?_; refine gY V Z Z Z Z (fun w hs => RdS.at (RdE.keep h1 hs.chg0) i hi2) ?_)
  (refine aD V Z Z Z (aD V Z Z Z ?_))
  (refine bF V Z Z Z Z Z O O ?_; refine gY V Z Z Z Z (fun w hs => RdS.at (RdE.keep h2 hs.chg0) i hi2) ?_)
  refine qf_neF [some .i64, some .i64] spn_flat Z Z Z Z Z ?_
  rw [eO]
  (refine aK (aL Z (aR (bL (aB (bB V Z Z Z Z O O (aA V Z Z (aF ?_))))))))
  exact hK (i + 1) _ _ O O ⟨Z, Z, Z, Z, trivial⟩ U
 ·(refine bJ _ Z (aE (aB (aA V Z Z (aF (aW ?_))))))
  refine aX V Z U fun w hs => ?_
  exact ⟨Z, hs.chg0⟩
/-- Lists copied. -/
def CAll (ll : List (List Int)) := {x : Value × List (Value × List Int) // x.2.map (·.2) = ll}
theorem mV (w : World) (lo hi : Nat) (v : Value) (ll : List (List Int)) (h : RdII w lo hi v ll) (hlen : ll.length ≤ 1000) (hl : ∀ l ∈ ll, l.length ≤ 1000000) :
  Ca Tryz.prog 9 [v] w fun r w' => ∃ x : CAll ll, r = x.1.1 ∧ Sat w M0 [un (fR x.1.2), .ow x.1.1 22 1 ll.length (x.1.2.map (·.1))] w' :=
 (cloneAll_ca w lo hi v ll h hlen hl).mono fun _ _ ⟨x, ⟨h1, h2⟩, h3⟩ => ⟨⟨x, h2⟩, h1, h3⟩
theorem CAll.rd {ll : List (List Int)} {x : CAll ll} {w0 w : World} {M : Nat → Prop} {H : List Ck} (hs : Sat w0 M H w) (h1 : un (fR x.1.2) ∈ H) (h2 : Ck.ow x.1.1 22 1 ll.length (x.1.2.map (·.1)) ∈ H) : RdII w 0 w.heap.size x.1.1 ll := by
 have := rowsO_rd (hs.mem h1) (hs.mem h2)
 rw [x.2] at this
 exact this
theorem rows_rd2 {w : World} {v : Value} {xs : List (Nat × List Int)} {n : Nat} (hu : (un (cW xs)).p w) (ho : w.ownsRow 0 22 1 v n (dZ xs)) : RdII w 0 w.heap.size v (xs.map (·.2)) := by
 have hn : n = (dZ xs).length := by have := ho.1; omega
 have hp : ∀ p ∈ xs, Blk w p.1 (aZ p.2) 3 := fun p hp => hu.1 (.pt p.1 (aZ p.2) 3) (List.mem_map.2 ⟨p, hp, rfl⟩)
 refine ⟨dZ xs, RdE.one (by rw [← hn]; exact jB ho) (fun e he => by obtain ⟨p, hm, rfl⟩ := List.mem_map.1 he; rfl), by simp [dZ], fun i hi hi' => ?_⟩
 have hi2 : i < xs.length := by simpa [dZ] using hi
 have hb := hp _ (List.getElem_mem hi2)
 simp only [dZ, List.getElem_map]
 refine RdE.wide (lo := xs[i].1) (hi := xs[i].1 + 1) ?_ (Nat.zero_le _) hb.lt
 exact RdE.one (by have := Blk.rd hb (show (aZ xs[i].2).length = xs[i].2.length by simp) xs[i].2.length; simpa using this) (fun e he => by obtain ⟨x, _, rfl⟩ := List.mem_map.1 he; rfl)
/-- The worst case, or none. -/
def wuL (r : Rg) (ws : List (Int × Int)) (c : Int) : List Int := if nM r ws c = 0 then cF r ws c else []
def wuQ (r : Rg) (ws : List (Int × Int)) (c : Int) : Int × Int := if nM r ws c = 0 then jD r ws c else (0, 0)
theorem wErr_iff {r : Rg} {ws : List (Int × Int)} {c : Int} (h : nM r ws c = 0) : cN r ws = 0 ∧ -r.clicks ≤ c ∧ c ≤ r.clicks := by
 unfold nM at h
 split at h
 ·rename_i h1
  exact absurd h h1
 ·split at h
  ·cases h
  ·rename_i h1 h2
   exact ⟨by omega, bH.1 (by simpa using h2)⟩
theorem worst_u (w : World) (l0 h1 : Nat) (cs : List Value) (r : Rg) (v : Value) (ws : List (Int × Int)) (click : Int) (h : RgC w cs r) (hsm : r.Small) (hl : RdS w l0 h1 v ws) (hlen : ws.length < 1000000) :
  Ca Tryz.prog 10 [.agg cs.toArray, v, .int .i64 click] w fun v w' => ∃ x : (Option Addr × Nat) × List Ck, (v = .tuple #[.slice x.1.1 (wuL r ws click).length x.1.2, .agg #[.int .i64 (wuQ r ws click).1, .int .i64 (wuQ r ws click).2], .int .i64 (nM r ws click)] ∧ ∀ w'', (∀ c ∈ x.2, c.p w'') → RdI w'' 0 w''.heap.size (.slice x.1.1 (wuL r ws click).length x.1.2) (wuL r ws click)) ∧ Sat w M0 [un x.2] w' := by
 by_cases hE : nM r ws click = 0
 ·obtain ⟨hb, hc⟩ := wErr_iff hE
  obtain ⟨_, hw⟩ := (dN r ws).1 hb
  have e1 : wuL r ws click = cF r ws click := by rw [wuL, if_pos hE]
  have e2 : wuQ r ws click = jD r ws click := by rw [wuQ, if_pos hE]
  have e3 : (cF r ws click).length = 5 := by rw [dF, hw.len]
  rw [e1, e2, hE]
  refine (worstF_ok w l0 h1 cs r v ws click h hsm hl hE).mono fun v w' ⟨x, g1, g2⟩ => ?_
  obtain ⟨a, c, rfl⟩ := g2.slice2 (v := x) (.head _)
  refine ⟨((a, c), [.ow (.slice a 5 c) 3 1 5 (aZ (cF r ws click))]), ⟨by rw [g1, e3]; rfl, fun w'' hp => ?_⟩, Sat.un1.2 g2⟩
  rw [e3]
  have := hp (.ow (.slice a 5 c) 3 1 5 (aZ (cF r ws click))) (by simp)
  exact RdE.one (by have := jB (show w''.ownsRow 0 3 1 (.slice a 5 c) 5 (aZ (cF r ws click)) from this); simpa [e3] using this) (fun e he => by obtain ⟨x, _, rfl⟩ := List.mem_map.1 he; rfl)
 ·have e1 : wuL r ws click = [] := by rw [wuL, if_neg hE]
  have e2 : wuQ r ws click = (0, 0) := by rw [wuQ, if_neg hE]
  rw [e1, e2]
  refine (worstF_no w l0 h1 cs r v ws click h hsm hl hlen hE).mono fun v w' ⟨g1, g2⟩ => ⟨((none, 0), []), ⟨g1, fun w'' _ => RdE.one ⟨Z, .inl ⟨.inl rfl, Z⟩⟩ (by simp)⟩, Sat.un1.2 ((Sat.nil w M0).keep g2)⟩
/-- The witnesses, or none. -/
def agL (r : Rg) (ws : List (Int × Int)) : List (List Int) := if cN r ws = 0 then (eT r.clicks).map (cF r ws) else []
theorem against_u (w : World) (l0 h1 : Nat) (cs : List Value) (r : Rg) (v : Value) (ws : List (Int × Int)) (h : RgC w cs r) (hsm : r.Small) (hl : RdS w l0 h1 v ws) (hlen : ws.length < 1000000) :
  Ca Tryz.prog 15 [.agg cs.toArray, v] w fun v w' => ∃ x : (Option Addr × Nat) × List Ck, (v = .tuple #[.slice x.1.1 (agL r ws).length x.1.2, .int .i64 (cN r ws)] ∧ ∀ w'', (∀ c ∈ x.2, c.p w'') → RdII w'' 0 w''.heap.size (.slice x.1.1 (agL r ws).length x.1.2) (agL r ws)) ∧ Sat w M0 [un x.2] w' := by
 by_cases hE : cN r ws = 0
 ·have e1 : agL r ws = (eT r.clicks).map (cF r ws) := by rw [agL, if_pos hE]
  have e3 : (agL r ws).length = (2 * r.clicks + 1).toNat := by rw [e1, List.length_map, gA]
  rw [hE, e3]
  refine (against_ok w l0 h1 cs r v ws h hsm hl hE).mono fun v w' ⟨x, ⟨g1, g3⟩, g2⟩ => ?_
  obtain ⟨xv, xs⟩ := x
  dsimp only at g1 g2 g3
  obtain ⟨a, c, rfl⟩ := g2.slice2 (v := xv) (.tail _ (.head _))
  refine ⟨((a, c), [un (cW xs), .ow (.slice a (2 * r.clicks + 1).toNat c) 22 1 (2 * r.clicks + 1).toNat (dZ xs)]), ⟨g1, fun w'' hp => ?_⟩, Sat.un1.2 g2⟩
  rw [e1, ← g3]
  exact rows_rd2 (hp _ (by simp)) (hp (.ow (.slice a (2 * r.clicks + 1).toNat c) 22 1 (2 * r.clicks + 1).toNat (dZ xs)) (by simp))
 ·have e1 : agL r ws = [] := by rw [agL, if_neg hE]
  rw [e1]
  refine (against_no w l0 h1 cs r v ws h hsm hl hlen hE).mono fun v w' ⟨g1, g2⟩ => ⟨((none, 0), []), ⟨g1, fun w'' _ => ⟨[], RdE.one ⟨Z, .inl ⟨.inl rfl, Z⟩⟩ (by simp), Z, fun i h => absurd h (by simp)⟩⟩, Sat.un1.2 ((Sat.nil w M0).keep g2)⟩
theorem rob_err (r : Rg) (ws : List (Int × Int)) : (nF r ws).2.2 = cN r ws := by
 unfold nF
 split
 ·rfl
 ·simp only
  omega
theorem shows_ag {r : Rg} {ws : List (Int × Int)} (h : cN r ws = 0) : eA r ws (agL r ws) = ((nF r ws).2.1, 0) := by
 obtain ⟨hck, hw⟩ := (dN r ws).1 h
 have hr := (bM r).1 hck
 have hC := hr.clicks
 rw [agL, if_pos h]
 obtain ⟨m, hm, hm1, hm2, _⟩ := rob_of hr hw
 rw [hm]
 have hl5 : ∀ c, (cF r ws c).length = 5 := fun c => by rw [dF, hw.len]
 have hget : ∀ c, -r.clicks ≤ c ∧ c ≤ r.clicks → ((eT r.clicks).map (cF r ws)).getD (c + r.clicks).toNat [] = cF r ws c := fun c hc => by
  have h1 : (c + r.clicks).toNat < (2 * r.clicks + 1).toNat := by omega
  simp only [eT, List.map_map, List.getD_eq_getElem?_getD, List.getElem?_map, List.getElem?_range h1, Option.map_some, Option.getD_some, Function.comp]
  congr 1
  omega
 obtain ⟨m', h1, h2, h3⟩ := shows_of hr hw ((eT r.clicks).map (cF r ws)) (by simp [eT]; omega) (fun l hl => by obtain ⟨c, _, rfl⟩ := List.mem_map.1 hl; exact hl5 c) (fun l hl i hi => by
  obtain ⟨c, _, rfl⟩ := List.mem_map.1 hl
  have hiw : i < ws.length := by rw [hw.len]; exact hi
  rw [worstL_getD r ws c i hiw]
  exact worstO_in r c _ (hw.sp _ (ws_mem hiw)).1)
 rw [h1]
 have a1 := h3 m hm1
 rw [hget m hm1, hget m' h2] at a1
 have a2 := hm2 m' h2
 rw [hget m' h2, show facN r (cF r ws m') m' = facN r (cF r ws m) m by omega, ← robQ_eq r hw m]

def tM5_5b099f3 : OT := aN [13] (.nil)
def kP : OT := aN [10, 11, 12] (tM5_5b099f3)
def pS : OT := aN [9] (kP)
def pE : OT := aN [8] (kP)
def tM5_4fd9473 : OT := .alt (aN [8] (pS)) (aN [9] (pE))
def kJ : OT := aN [6, 7] (kP)
def oP : OT := .alt (aN [6, 7] (pS)) (aN [9] (kJ))
def pK : OT := .alt (aN [6, 7] (pE)) (aN [8] (kJ))
def tM5_aed80dc : OT := .alt (aN [6, 7] (tM5_4fd9473)) (.alt (aN [8] (oP)) (aN [9] (pK)))
def kT : OT := aN [4, 5] (kJ)
def pB : OT := .alt (aN [4, 5] (oP)) (aN [9] (kT))
def oZ : OT := .alt (aN [4, 5] (pK)) (aN [8] (kT))
def tM5_cbd775e : OT := .alt (aN [4, 5] (tM5_aed80dc)) (.alt (aN [8] (pB)) (aN [9] (oZ)))
def kO : OT := aN [2, 3] (kT)
def oH : OT := .alt (aN [2, 3] (pB)) (aN [9] (kO))
def oX : OT := .alt (aN [2, 3] (oZ)) (aN [8] (kO))
def tM5_07d5128 : OT := .alt (aN [2, 3] (tM5_cbd775e)) (.alt (aN [8] (oH)) (aN [9] (oX)))
def oJ : OT := aN [0, 1] (kO)
def tM5_bfd9c72 : OT := .alt (aN [0, 1] (oH)) (aN [9] (oJ))
def tM5_11634d5 : OT := .alt (aN [0, 1] (oX)) (aN [8] (oJ))
def tM5_8af2c63 : OT := .alt (aN [0, 1] (tM5_07d5128)) (.alt (aN [8] (tM5_bfd9c72)) (aN [9] (tM5_11634d5)))
set_option maxRecDepth 40000 in
set_option maxHeartbeats 16000000 in
theorem fA (w : World) (l0 h1_ l2 h3_ : Nat) (cs : List Value) (r : Rg) (vs vw : Value) (ws : List (Int × Int)) (click : Int) (wl : List (List Int)) (h : RgC w cs r) (hws : RdS w l0 h1_ vs ws) (hwl : RdII w l2 h3_ vw wl) (hl : r.next.length ≤ maxLen) (n1 : ws.length ≤ maxLen) (n3 : wl.length ≤ maxLen) (n4 : ∀ l ∈ wl, l.length ≤ maxLen) :
  Ca Tryz.prog 3 [.agg cs.toArray, vs, .int .i64 click, vw] w fun r w' => r = .bool true ∧ Chg [] w w' := by
 have h0 := h
 obtain ⟨lo, hi, ag, cg, ad, cd, af, cf, an, cn, rfl, hg, hdr, hf, hn⟩ := h
 obtain ⟨sa, sc, rfl, hsa⟩ := RdS.outI hws
 obtain ⟨wa, wc, rfl, hwa⟩ := RdII.outI hwl
 simp only [maxLen] at n1 n3 n4
 refine dB (Sat.nil w M0) Tryz.func3 Z (by simp [Tryz.ntmps3]) ?_
 (refine aE (aB ?_))
 refine bG Z Z (fun b4 => ?_)
 (refine aA V Z Z (aF (aE (aE (aB ?_)))); refine aI V Z Z Z ?_)
 refine bO (β := Bool) V [] _ M0 Z Z Z Z (Sp.refl _) qS (fun w' hs => long_ca w' _ r (h0.keep hs.chg0) hl) ?_
 rintro b _ ⟨rfl, hsm⟩
 cases b with
 | true =>
  (refine aA V Z Z ?_; (iterate 3 refine bA Z Z Z ?_); refine aA V Z Z (aA V Z Z ?_); (iterate 3 refine bA Z Z Z ?_); refine aA V Z Z (aF (aM Z (aE (aB ?_)))))
  refine aJ (val := .bool true) V Z Z Z Z (fun w hs => ?_) ?_; exact dQ w
  (refine aA V Z Z (aF (aW ?_)))
  refine aX V Z U fun w hs => ?_
  exact ⟨Z, hs.chg0⟩
 | false =>
 replace hsm := hsm rfl
 (refine aA V Z Z (aC Z (aA V Z Z (aC Z (aA V Z Z (aC Z ?_))))); (iterate 3 refine aA V Z Z ?_))
 refine bU Z Z (fun hc => ?_) (fun hc => ?_)
 ·((iterate 3 refine bA Z Z Z ?_); refine aA V Z Z (aF (aM Z (aE (aB ?_)))))
  refine aJ (val := .bool true) V Z Z Z Z (fun w hs => ?_) ?_; exact dQ w
  (refine aA V Z Z (aF (aW ?_)))
  refine aX V Z U fun w hs => ?_
  exact ⟨Z, hs.chg0⟩
 have c1 := of_decide_eq_false hc
 clear hc
 (refine aC Z (aA V Z Z (aC Z (aA V Z Z (aC Z (aA V Z Z (aA V Z Z (aF ?_))))))))
 refine dD Z (fun hc => ?_) (fun hc => ?_)
 ·(refine aE (aB ?_))
  refine aJ (val := .bool true) V Z Z Z Z (fun w hs => ?_) ?_; exact dQ w
  (refine aA V Z Z (aF (aW ?_)))
  refine aX V Z U fun w hs => ?_
  exact ⟨Z, hs.chg0⟩
 have c2 : wl.length ≤ 15 := by omega
 clear hc
 (refine aR (aE (aE (aB ?_))); (iterate 3 refine aA V Z Z ?_); refine aF (aP ?_))
 refine bN (σ := Nat) (fun k => k ≤ wl.length ∧ ∀ l ∈ wl.take k, l.length ≤ 8) (fun k => wl.length - k) (fun k => [(1, .slice sa ws.length sc), (2, .int .i64 click), (3, .slice wa wl.length wc), (4, .pointer (some ⟨b4, 0, none⟩)), (41, .slice wa wl.length wc), (42, .int .i64 wl.length), (43, .int .i64 k)])
  (fun _ => [.pt b4 [.int .i64 r.radius, .int .i64 r.unit, .int .i64 r.clicks, .int .i64 r.total, .slice ag r.group.length cg, .slice ad r.drifts.length cd, .slice af r.first.length cf, .slice an r.next.length cn] 25]) 0 ⟨by omega, by simp⟩ ⟨rfl, rfl, rfl, rfl, rfl, rfl, rfl, trivial⟩ U ?_
 rintro k ⟨hk, hall⟩ K hK
 (refine aE (aB (aA V Z Z (aF (aE ?_)))))
 refine dD Z (fun hc => ?_) (fun hc => ?_)
 ·have hk2 : k < wl.length := by omega
  clear hc
  obtain ⟨bw, ow, rfl⟩ := hwa O
  obtain ⟨ar, cr, hrow, hcell⟩ := hwl.row k hk2
  have hn4 := n4 _ (List.getElem_mem hk2)
  (refine aR (aE (aP (aE (aB ?_)))))
  refine bW V Z Z Z Z Z O O ?_
  refine cI (v := .slice ar wl[k].length cr) V Z Z Z (fun w' hs => hcell w' hs.chg0) ?_
  (refine aA V Z Z (aF (aE (aB ?_))); (iterate 3 refine aA V Z Z ?_); refine aF ?_)
  refine dD Z (fun hc => ?_) (fun hc => ?_)
  ·(refine aE (aB ?_))
   refine aJ (val := .bool true) V Z Z Z Z (fun w hs => ?_) ?_; exact dQ w
   (refine aA V Z Z (aF (aW ?_)))
   refine aX V Z U fun w hs => ?_
   exact ⟨Z, hs.chg0⟩
  ·(refine aR (bL (aB (bB V Z Z Z Z O O (aA V Z Z (aF ?_))))))
   exact hK (k + 1) _ _ ⟨by omega, fun l hm => by
    rw [List.take_succ_eq_append_getElem hk2] at hm
    rcases List.mem_append.1 hm with hm | hm
    ·exact hall l hm
    ·simp at hm
     subst hm
     omega⟩ O ⟨rfl, rfl, rfl, rfl, rfl, rfl, rfl, trivial⟩ U
 obtain rfl : k = wl.length := by omega
 rw [List.take_length] at hall
 have hrow := hall
 clear hc hK hall
 (refine bJ _ Z (aE ?_))
 refine jG (σ := Nat × Nat × Cp r × Value × CAll wl × Cp r) (fun ⟨b11, b14, x1, x2, x3, x4⟩ => [(1, .slice sa ws.length sc), (2, .int .i64 click), (3, .slice wa wl.length wc), (4, .pointer (some ⟨b4, 0, none⟩)), (11, .pointer (some ⟨b11, 0, none⟩)), (14, .pointer (some ⟨b14, 0, none⟩)), (12, x2), (13, x3.1.1)]) (fun ⟨b11, b14, x1, x2, x3, x4⟩ => [un x1.K, .ow x2 32 2 ws.length (spC ws), un (fR x3.1.2), .ow x3.1.1 22 1 wl.length (x3.1.2.map (·.1)), un x4.K, .pt b11 [.int .i64 r.radius, .int .i64 r.unit, .int .i64 r.clicks, .int .i64 r.total, .slice x1.a1 r.group.length x1.c1, .slice x1.a2 r.drifts.length x1.c2, .slice x1.a3 r.first.length x1.c3, .slice x1.a4 r.next.length x1.c4] 25, .pt b14 [.int .i64 r.radius, .int .i64 r.unit, .int .i64 r.clicks, .int .i64 r.total, .slice x4.a1 r.group.length x4.c1, .slice x4.a2 r.drifts.length x4.c2, .slice x4.a3 r.first.length x4.c3, .slice x4.a4 r.next.length x4.c4] 34, .pt b4 [.int .i64 r.radius, .int .i64 r.unit, .int .i64 r.clicks, .int .i64 r.total, .slice ag r.group.length cg, .slice ad r.drifts.length cd, .slice af r.first.length cf, .slice an r.next.length cn] 25]) ?_ (fun K2 hK2 => ?_)
 rotate_left
 ·refine gU (tM5_8af2c63) _ [] (Sp.refl _) qR qR ?_
  refine bV (σ := Cp r × Value × CAll wl × Cp r × Nat × Nat × Unit) (.nil) (fun ⟨x1, x2, x3, x4, b11, b14, ()⟩ => [(1, .slice sa ws.length sc), (2, .int .i64 click), (3, .slice wa wl.length wc), (4, .pointer (some ⟨b4, 0, none⟩)), (53, .agg #[.int .i64 r.radius, .int .i64 r.unit, .int .i64 r.clicks, .int .i64 r.total, .slice x1.a1 r.group.length x1.c1, .slice x1.a2 r.drifts.length x1.c2, .slice x1.a3 r.first.length x1.c3, .slice x1.a4 r.next.length x1.c4]), (55, x2), (57, x3.1.1), (59, .agg #[.int .i64 r.radius, .int .i64 r.unit, .int .i64 r.clicks, .int .i64 r.total, .slice x4.a1 r.group.length x4.c1, .slice x4.a2 r.drifts.length x4.c2, .slice x4.a3 r.first.length x4.c3, .slice x4.a4 r.next.length x4.c4]), (11, .pointer (some ⟨b11, 0, none⟩)), (14, .pointer (some ⟨b14, 0, none⟩)), (12, x2), (13, x3.1.1)]) (fun ⟨x1, x2, x3, x4, b11, b14, ()⟩ => [un x1.K, .ow x2 32 2 ws.length (spC ws), un (fR x3.1.2), .ow x3.1.1 22 1 wl.length (x3.1.2.map (·.1)), un x4.K, .pt b11 [.int .i64 r.radius, .int .i64 r.unit, .int .i64 r.clicks, .int .i64 r.total, .slice x1.a1 r.group.length x1.c1, .slice x1.a2 r.drifts.length x1.c2, .slice x1.a3 r.first.length x1.c3, .slice x1.a4 r.next.length x1.c4] 25, .pt b14 [.int .i64 r.radius, .int .i64 r.unit, .int .i64 r.clicks, .int .i64 r.total, .slice x4.a1 r.group.length x4.c1, .slice x4.a2 r.drifts.length x4.c2, .slice x4.a3 r.first.length x4.c3, .slice x4.a4 r.next.length x4.c4] 34]) ?_ (fun hS1_3_5_7_8_9_10_13 => ?_)
  ·rintro ⟨x1, x2, x3, x4, b11, b14, _⟩
   exact bZ (hK2 (b11, b14, x1, x2, x3, x4) _ _ ⟨Z, Z, Z, Z, Z, Z, Z, Z, trivial⟩ U)
  refine bV (σ := Cp r × Value × CAll wl × Cp r × Nat × Nat × Unit) (tM5_5b099f3) (fun ⟨x1, x2, x3, x4, b11, b14, ()⟩ => [(1, .slice sa ws.length sc), (2, .int .i64 click), (3, .slice wa wl.length wc), (4, .pointer (some ⟨b4, 0, none⟩)), (53, .agg #[.int .i64 r.radius, .int .i64 r.unit, .int .i64 r.clicks, .int .i64 r.total, .slice x1.a1 r.group.length x1.c1, .slice x1.a2 r.drifts.length x1.c2, .slice x1.a3 r.first.length x1.c3, .slice x1.a4 r.next.length x1.c4]), (55, x2), (57, x3.1.1), (59, .agg #[.int .i64 r.radius, .int .i64 r.unit, .int .i64 r.clicks, .int .i64 r.total, .slice x4.a1 r.group.length x4.c1, .slice x4.a2 r.drifts.length x4.c2, .slice x4.a3 r.first.length x4.c3, .slice x4.a4 r.next.length x4.c4]), (11, .pointer (some ⟨b11, 0, none⟩)), (14, .pointer (some ⟨b14, 0, none⟩)), (12, x2), (13, x3.1.1)]) (fun ⟨x1, x2, x3, x4, b11, b14, ()⟩ => [un x1.K, .ow x2 32 2 ws.length (spC ws), un (fR x3.1.2), .ow x3.1.1 22 1 wl.length (x3.1.2.map (·.1)), un x4.K, .pt b11 [.int .i64 r.radius, .int .i64 r.unit, .int .i64 r.clicks, .int .i64 r.total, .slice x1.a1 r.group.length x1.c1, .slice x1.a2 r.drifts.length x1.c2, .slice x1.a3 r.first.length x1.c3, .slice x1.a4 r.next.length x1.c4] 25, .pt b14 [.int .i64 0, .int .i64 0, .int .i64 0, .int .i64 0, .slice none 0 0, .slice none 0 0, .slice none 0 0, .slice none 0 0] 34]) ?_ (fun hS1_3_5_7_8_9_10 => ?_)
  ·rintro ⟨x1, x2, x3, x4, b11, b14, _⟩
   refine aQ J fun K1 hK1 => ?_
   (refine bK V Z Z Z Z Z U Z ?_; refine aK ?_)
   exact hK1 _ _ (hS1_3_5_7_8_9_10_13 ⟨x1, x2, x3, x4, b11, b14, ()⟩ _ _ ⟨Z, Z, Z, Z, Z, Z, Z, Z, Z, Z, Z, Z, trivial⟩ U)
  refine bV (σ := Cp r × Value × CAll wl × Cp r × Nat × Nat × Unit) (kP) (fun ⟨x1, x2, x3, x4, b11, b14, ()⟩ => [(1, .slice sa ws.length sc), (2, .int .i64 click), (3, .slice wa wl.length wc), (4, .pointer (some ⟨b4, 0, none⟩)), (53, .agg #[.int .i64 r.radius, .int .i64 r.unit, .int .i64 r.clicks, .int .i64 r.total, .slice x1.a1 r.group.length x1.c1, .slice x1.a2 r.drifts.length x1.c2, .slice x1.a3 r.first.length x1.c3, .slice x1.a4 r.next.length x1.c4]), (55, x2), (57, x3.1.1), (59, .agg #[.int .i64 r.radius, .int .i64 r.unit, .int .i64 r.clicks, .int .i64 r.total, .slice x4.a1 r.group.length x4.c1, .slice x4.a2 r.drifts.length x4.c2, .slice x4.a3 r.first.length x4.c3, .slice x4.a4 r.next.length x4.c4]), (11, .pointer (some ⟨b11, 0, none⟩)), (14, .pointer (some ⟨b14, 0, none⟩))]) (fun ⟨x1, x2, x3, x4, b11, b14, ()⟩ => [un x1.K, .ow x2 32 2 ws.length (spC ws), un (fR x3.1.2), .ow x3.1.1 22 1 wl.length (x3.1.2.map (·.1)), un x4.K, .pt b11 [.int .i64 0, .int .i64 0, .int .i64 0, .int .i64 0, .slice none 0 0, .slice none 0 0, .slice none 0 0, .slice none 0 0] 25, .pt b14 [.int .i64 0, .int .i64 0, .int .i64 0, .int .i64 0, .slice none 0 0, .slice none 0 0, .slice none 0 0, .slice none 0 0] 34]) ?_ (fun hS1_3_5_7_8_9 => ?_)
  ·rintro ⟨x1, x2, x3, x4, b11, b14, _⟩
   refine aQ J fun K1 hK1 => ?_
   (refine bK V Z Z Z Z Z U Z ?_; refine aD V Z Z Z (aD V Z Z Z (aK ?_)))
   exact hK1 _ _ (hS1_3_5_7_8_9_10 ⟨x1, x2, x3, x4, b11, b14, ()⟩ _ _ ⟨Z, Z, Z, Z, Z, Z, Z, Z, Z, Z, Z, Z, trivial⟩ U)
  refine bV (σ := Cp r × Value × CAll wl × Cp r × Nat × Unit) (pS) (fun ⟨x1, x2, x3, x4, b11, ()⟩ => [(1, .slice sa ws.length sc), (2, .int .i64 click), (3, .slice wa wl.length wc), (4, .pointer (some ⟨b4, 0, none⟩)), (53, .agg #[.int .i64 r.radius, .int .i64 r.unit, .int .i64 r.clicks, .int .i64 r.total, .slice x1.a1 r.group.length x1.c1, .slice x1.a2 r.drifts.length x1.c2, .slice x1.a3 r.first.length x1.c3, .slice x1.a4 r.next.length x1.c4]), (55, x2), (57, x3.1.1), (59, .agg #[.int .i64 r.radius, .int .i64 r.unit, .int .i64 r.clicks, .int .i64 r.total, .slice x4.a1 r.group.length x4.c1, .slice x4.a2 r.drifts.length x4.c2, .slice x4.a3 r.first.length x4.c3, .slice x4.a4 r.next.length x4.c4]), (11, .pointer (some ⟨b11, 0, none⟩))]) (fun ⟨x1, x2, x3, x4, b11, ()⟩ => [un x1.K, .ow x2 32 2 ws.length (spC ws), un (fR x3.1.2), .ow x3.1.1 22 1 wl.length (x3.1.2.map (·.1)), un x4.K, .pt b11 [.int .i64 0, .int .i64 0, .int .i64 0, .int .i64 0, .slice none 0 0, .slice none 0 0, .slice none 0 0, .slice none 0 0] 25]) ?_ (fun hS1_3_5_7_8 => ?_)
  ·rintro ⟨x1, x2, x3, x4, b11, _⟩
   refine aQ J fun K1 hK1 => ?_
   refine aU dV Z (fun b14 => ?_)
   (refine aK ?_)
   exact hK1 _ _ (hS1_3_5_7_8_9 ⟨x1, x2, x3, x4, b11, b14, ()⟩ _ _ ⟨Z, Z, Z, Z, Z, Z, Z, Z, Z, Z, trivial⟩ U)
  refine bV (σ := Cp r × Value × CAll wl × Cp r × Nat × Unit) (pE) (fun ⟨x1, x2, x3, x4, b14, ()⟩ => [(1, .slice sa ws.length sc), (2, .int .i64 click), (3, .slice wa wl.length wc), (4, .pointer (some ⟨b4, 0, none⟩)), (53, .agg #[.int .i64 r.radius, .int .i64 r.unit, .int .i64 r.clicks, .int .i64 r.total, .slice x1.a1 r.group.length x1.c1, .slice x1.a2 r.drifts.length x1.c2, .slice x1.a3 r.first.length x1.c3, .slice x1.a4 r.next.length x1.c4]), (55, x2), (57, x3.1.1), (59, .agg #[.int .i64 r.radius, .int .i64 r.unit, .int .i64 r.clicks, .int .i64 r.total, .slice x4.a1 r.group.length x4.c1, .slice x4.a2 r.drifts.length x4.c2, .slice x4.a3 r.first.length x4.c3, .slice x4.a4 r.next.length x4.c4]), (14, .pointer (some ⟨b14, 0, none⟩))]) (fun ⟨x1, x2, x3, x4, b14, ()⟩ => [un x1.K, .ow x2 32 2 ws.length (spC ws), un (fR x3.1.2), .ow x3.1.1 22 1 wl.length (x3.1.2.map (·.1)), un x4.K, .pt b14 [.int .i64 0, .int .i64 0, .int .i64 0, .int .i64 0, .slice none 0 0, .slice none 0 0, .slice none 0 0, .slice none 0 0] 34]) ?_ (fun hS1_3_5_7_9 => ?_)
  ·rintro ⟨x1, x2, x3, x4, b14, _⟩
   refine aQ J fun K1 hK1 => ?_
   refine aU cU Z (fun b11 => ?_)
   (refine aK ?_)
   exact hK1 _ _ (hS1_3_5_7_8_9 ⟨x1, x2, x3, x4, b11, b14, ()⟩ _ _ ⟨Z, Z, Z, Z, Z, Z, Z, Z, Z, Z, trivial⟩ U)
  refine bV (σ := Cp r × Value × CAll wl × Nat × Nat × Unit) (kJ) (fun ⟨x1, x2, x3, b11, b14, ()⟩ => [(1, .slice sa ws.length sc), (2, .int .i64 click), (3, .slice wa wl.length wc), (4, .pointer (some ⟨b4, 0, none⟩)), (53, .agg #[.int .i64 r.radius, .int .i64 r.unit, .int .i64 r.clicks, .int .i64 r.total, .slice x1.a1 r.group.length x1.c1, .slice x1.a2 r.drifts.length x1.c2, .slice x1.a3 r.first.length x1.c3, .slice x1.a4 r.next.length x1.c4]), (55, x2), (57, x3.1.1), (11, .pointer (some ⟨b11, 0, none⟩)), (14, .pointer (some ⟨b14, 0, none⟩))]) (fun ⟨x1, x2, x3, b11, b14, ()⟩ => [un x1.K, .ow x2 32 2 ws.length (spC ws), un (fR x3.1.2), .ow x3.1.1 22 1 wl.length (x3.1.2.map (·.1)), .pt b11 [.int .i64 0, .int .i64 0, .int .i64 0, .int .i64 0, .slice none 0 0, .slice none 0 0, .slice none 0 0, .slice none 0 0] 25, .pt b14 [.int .i64 0, .int .i64 0, .int .i64 0, .int .i64 0, .slice none 0 0, .slice none 0 0, .slice none 0 0, .slice none 0 0] 34]) ?_ (fun hS1_3_5_8_9 => ?_)
  ·rintro ⟨x1, x2, x3, b11, b14, _⟩
   refine aQ J fun K1 hK1 => ?_
   (refine aO V Z Z Z ?_)
   refine bD (β := Cp r) V [] _ M0 Z Z Z Z (Sp.refl _) qS (fun w' hs => cB w' _ r (h0.keep hs.chg0) hsm) ?_
   rintro x4 _ rfl
   (refine aK ?_)
   exact hK1 _ _ (hS1_3_5_7_8_9 ⟨x1, x2, x3, x4, b11, b14, ()⟩ _ _ ⟨Z, Z, Z, Z, Z, Z, Z, Z, Z, Z, trivial⟩ U)
  refine bV (σ := Cp r × Value × CAll wl × Cp r × Unit) (tM5_4fd9473) (fun ⟨x1, x2, x3, x4, ()⟩ => [(1, .slice sa ws.length sc), (2, .int .i64 click), (3, .slice wa wl.length wc), (4, .pointer (some ⟨b4, 0, none⟩)), (53, .agg #[.int .i64 r.radius, .int .i64 r.unit, .int .i64 r.clicks, .int .i64 r.total, .slice x1.a1 r.group.length x1.c1, .slice x1.a2 r.drifts.length x1.c2, .slice x1.a3 r.first.length x1.c3, .slice x1.a4 r.next.length x1.c4]), (55, x2), (57, x3.1.1), (59, .agg #[.int .i64 r.radius, .int .i64 r.unit, .int .i64 r.clicks, .int .i64 r.total, .slice x4.a1 r.group.length x4.c1, .slice x4.a2 r.drifts.length x4.c2, .slice x4.a3 r.first.length x4.c3, .slice x4.a4 r.next.length x4.c4])]) (fun ⟨x1, x2, x3, x4, ()⟩ => [un x1.K, .ow x2 32 2 ws.length (spC ws), un (fR x3.1.2), .ow x3.1.1 22 1 wl.length (x3.1.2.map (·.1)), un x4.K]) ?_ (fun hS1_3_5_7 => ?_)
  ·rintro ⟨x1, x2, x3, x4, _⟩
   refine bE ?_ ?_
   ·refine aQ J fun K1 hK1 => ?_
    refine aU cU Z (fun b11 => ?_)
    (refine aK ?_)
    exact hK1 _ _ (hS1_3_5_7_8 ⟨x1, x2, x3, x4, b11, ()⟩ _ _ ⟨Z, Z, Z, Z, Z, Z, Z, Z, Z, trivial⟩ U)
   ·refine aQ J fun K1 hK1 => ?_
    refine aU dV Z (fun b14 => ?_)
    (refine aK ?_)
    exact hK1 _ _ (hS1_3_5_7_9 ⟨x1, x2, x3, x4, b14, ()⟩ _ _ ⟨Z, Z, Z, Z, Z, Z, Z, Z, Z, trivial⟩ U)
  refine bV (σ := Cp r × Value × CAll wl × Nat × Unit) (oP) (fun ⟨x1, x2, x3, b11, ()⟩ => [(1, .slice sa ws.length sc), (2, .int .i64 click), (3, .slice wa wl.length wc), (4, .pointer (some ⟨b4, 0, none⟩)), (53, .agg #[.int .i64 r.radius, .int .i64 r.unit, .int .i64 r.clicks, .int .i64 r.total, .slice x1.a1 r.group.length x1.c1, .slice x1.a2 r.drifts.length x1.c2, .slice x1.a3 r.first.length x1.c3, .slice x1.a4 r.next.length x1.c4]), (55, x2), (57, x3.1.1), (11, .pointer (some ⟨b11, 0, none⟩))]) (fun ⟨x1, x2, x3, b11, ()⟩ => [un x1.K, .ow x2 32 2 ws.length (spC ws), un (fR x3.1.2), .ow x3.1.1 22 1 wl.length (x3.1.2.map (·.1)), .pt b11 [.int .i64 0, .int .i64 0, .int .i64 0, .int .i64 0, .slice none 0 0, .slice none 0 0, .slice none 0 0, .slice none 0 0] 25]) ?_ (fun hS1_3_5_8 => ?_)
  ·rintro ⟨x1, x2, x3, b11, _⟩
   refine bE ?_ ?_
   ·refine aQ J fun K1 hK1 => ?_
    (refine aO V Z Z Z ?_)
    refine bD (β := Cp r) V [] _ M0 Z Z Z Z (Sp.refl _) qS (fun w' hs => cB w' _ r (h0.keep hs.chg0) hsm) ?_
    rintro x4 _ rfl
    (refine aK ?_)
    exact hK1 _ _ (hS1_3_5_7_8 ⟨x1, x2, x3, x4, b11, ()⟩ _ _ ⟨Z, Z, Z, Z, Z, Z, Z, Z, Z, trivial⟩ U)
   ·refine aQ J fun K1 hK1 => ?_
    refine aU dV Z (fun b14 => ?_)
    (refine aK ?_)
    exact hK1 _ _ (hS1_3_5_8_9 ⟨x1, x2, x3, b11, b14, ()⟩ _ _ ⟨Z, Z, Z, Z, Z, Z, Z, Z, Z, trivial⟩ U)
  refine bV (σ := Cp r × Value × CAll wl × Nat × Unit) (pK) (fun ⟨x1, x2, x3, b14, ()⟩ => [(1, .slice sa ws.length sc), (2, .int .i64 click), (3, .slice wa wl.length wc), (4, .pointer (some ⟨b4, 0, none⟩)), (53, .agg #[.int .i64 r.radius, .int .i64 r.unit, .int .i64 r.clicks, .int .i64 r.total, .slice x1.a1 r.group.length x1.c1, .slice x1.a2 r.drifts.length x1.c2, .slice x1.a3 r.first.length x1.c3, .slice x1.a4 r.next.length x1.c4]), (55, x2), (57, x3.1.1), (14, .pointer (some ⟨b14, 0, none⟩))]) (fun ⟨x1, x2, x3, b14, ()⟩ => [un x1.K, .ow x2 32 2 ws.length (spC ws), un (fR x3.1.2), .ow x3.1.1 22 1 wl.length (x3.1.2.map (·.1)), .pt b14 [.int .i64 0, .int .i64 0, .int .i64 0, .int .i64 0, .slice none 0 0, .slice none 0 0, .slice none 0 0, .slice none 0 0] 34]) ?_ (fun hS1_3_5_9 => ?_)
  ·rintro ⟨x1, x2, x3, b14, _⟩
   refine bE ?_ ?_
   ·refine aQ J fun K1 hK1 => ?_
    (refine aO V Z Z Z ?_)
    refine bD (β := Cp r) V [] _ M0 Z Z Z Z (Sp.refl _) qS (fun w' hs => cB w' _ r (h0.keep hs.chg0) hsm) ?_
    rintro x4 _ rfl
    (refine aK ?_)
    exact hK1 _ _ (hS1_3_5_7_9 ⟨x1, x2, x3, x4, b14, ()⟩ _ _ ⟨Z, Z, Z, Z, Z, Z, Z, Z, Z, trivial⟩ U)
   ·refine aQ J fun K1 hK1 => ?_
    refine aU cU Z (fun b11 => ?_)
    (refine aK ?_)
    exact hK1 _ _ (hS1_3_5_8_9 ⟨x1, x2, x3, b11, b14, ()⟩ _ _ ⟨Z, Z, Z, Z, Z, Z, Z, Z, Z, trivial⟩ U)
  refine bV (σ := Cp r × Value × Nat × Nat × Unit) (kT) (fun ⟨x1, x2, b11, b14, ()⟩ => [(1, .slice sa ws.length sc), (2, .int .i64 click), (3, .slice wa wl.length wc), (4, .pointer (some ⟨b4, 0, none⟩)), (53, .agg #[.int .i64 r.radius, .int .i64 r.unit, .int .i64 r.clicks, .int .i64 r.total, .slice x1.a1 r.group.length x1.c1, .slice x1.a2 r.drifts.length x1.c2, .slice x1.a3 r.first.length x1.c3, .slice x1.a4 r.next.length x1.c4]), (55, x2), (11, .pointer (some ⟨b11, 0, none⟩)), (14, .pointer (some ⟨b14, 0, none⟩))]) (fun ⟨x1, x2, b11, b14, ()⟩ => [un x1.K, .ow x2 32 2 ws.length (spC ws), .pt b11 [.int .i64 0, .int .i64 0, .int .i64 0, .int .i64 0, .slice none 0 0, .slice none 0 0, .slice none 0 0, .slice none 0 0] 25, .pt b14 [.int .i64 0, .int .i64 0, .int .i64 0, .int .i64 0, .slice none 0 0, .slice none 0 0, .slice none 0 0, .slice none 0 0] 34]) ?_ (fun hS1_3_8_9 => ?_)
  ·rintro ⟨x1, x2, b11, b14, _⟩
   refine aQ J fun K1 hK1 => ?_
   (refine aD V Z Z Z ?_)
   refine bD (β := CAll wl) (L' := fun x => [un (fR x.1.2), .ow x.1.1 22 1 wl.length (x.1.2.map (fun (y : Value × List Int) => y.1))]) V [] _ M0 Z Z Z Z (Sp.refl _) qS (fun w' hs => mV w' _ _ _ wl (hwl.keep hs.chg0) O (fun l hl => by have := hrow l hl; omega)) ?_
   rintro x3 _ rfl
   (refine aK ?_)
   exact hK1 _ _ (hS1_3_5_8_9 ⟨x1, x2, x3, b11, b14, ()⟩ _ _ ⟨Z, Z, Z, Z, Z, Z, Z, Z, Z, trivial⟩ U)
  refine bV (σ := Cp r × Value × CAll wl × Unit) (tM5_aed80dc) (fun ⟨x1, x2, x3, ()⟩ => [(1, .slice sa ws.length sc), (2, .int .i64 click), (3, .slice wa wl.length wc), (4, .pointer (some ⟨b4, 0, none⟩)), (53, .agg #[.int .i64 r.radius, .int .i64 r.unit, .int .i64 r.clicks, .int .i64 r.total, .slice x1.a1 r.group.length x1.c1, .slice x1.a2 r.drifts.length x1.c2, .slice x1.a3 r.first.length x1.c3, .slice x1.a4 r.next.length x1.c4]), (55, x2), (57, x3.1.1)]) (fun ⟨x1, x2, x3, ()⟩ => [un x1.K, .ow x2 32 2 ws.length (spC ws), un (fR x3.1.2), .ow x3.1.1 22 1 wl.length (x3.1.2.map (·.1))]) ?_ (fun hS1_3_5 => ?_)
  ·rintro ⟨x1, x2, x3, _⟩
   refine bE ?_ (bE ?_ ?_)
   ·refine aQ J fun K1 hK1 => ?_
    (refine aO V Z Z Z ?_)
    refine bD (β := Cp r) V [] _ M0 Z Z Z Z (Sp.refl _) qS (fun w' hs => cB w' _ r (h0.keep hs.chg0) hsm) ?_
    rintro x4 _ rfl
    (refine aK ?_)
    exact hK1 _ _ (hS1_3_5_7 ⟨x1, x2, x3, x4, ()⟩ _ _ ⟨Z, Z, Z, Z, Z, Z, Z, Z, trivial⟩ U)
   ·refine aQ J fun K1 hK1 => ?_
    refine aU cU Z (fun b11 => ?_)
    (refine aK ?_)
    exact hK1 _ _ (hS1_3_5_8 ⟨x1, x2, x3, b11, ()⟩ _ _ ⟨Z, Z, Z, Z, Z, Z, Z, Z, trivial⟩ U)
   ·refine aQ J fun K1 hK1 => ?_
    refine aU dV Z (fun b14 => ?_)
    (refine aK ?_)
    exact hK1 _ _ (hS1_3_5_9 ⟨x1, x2, x3, b14, ()⟩ _ _ ⟨Z, Z, Z, Z, Z, Z, Z, Z, trivial⟩ U)
  refine bV (σ := Cp r × Value × Nat × Unit) (pB) (fun ⟨x1, x2, b11, ()⟩ => [(1, .slice sa ws.length sc), (2, .int .i64 click), (3, .slice wa wl.length wc), (4, .pointer (some ⟨b4, 0, none⟩)), (53, .agg #[.int .i64 r.radius, .int .i64 r.unit, .int .i64 r.clicks, .int .i64 r.total, .slice x1.a1 r.group.length x1.c1, .slice x1.a2 r.drifts.length x1.c2, .slice x1.a3 r.first.length x1.c3, .slice x1.a4 r.next.length x1.c4]), (55, x2), (11, .pointer (some ⟨b11, 0, none⟩))]) (fun ⟨x1, x2, b11, ()⟩ => [un x1.K, .ow x2 32 2 ws.length (spC ws), .pt b11 [.int .i64 0, .int .i64 0, .int .i64 0, .int .i64 0, .slice none 0 0, .slice none 0 0, .slice none 0 0, .slice none 0 0] 25]) ?_ (fun hS1_3_8 => ?_)
  ·rintro ⟨x1, x2, b11, _⟩
   refine bE ?_ ?_
   ·refine aQ J fun K1 hK1 => ?_
    (refine aD V Z Z Z ?_)
    refine bD (β := CAll wl) (L' := fun x => [un (fR x.1.2), .ow x.1.1 22 1 wl.length (x.1.2.map (fun (y : Value × List Int) => y.1))]) V [] _ M0 Z Z Z Z (Sp.refl _) qS (fun w' hs => mV w' _ _ _ wl (hwl.keep hs.chg0) O (fun l hl => by have := hrow l hl; omega)) ?_
    rintro x3 _ rfl
    (refine aK ?_)
    exact hK1 _ _ (hS1_3_5_8 ⟨x1, x2, x3, b11, ()⟩ _ _ ⟨Z, Z, Z, Z, Z, Z, Z, Z, trivial⟩ U)
   ·refine aQ J fun K1 hK1 => ?_
    refine aU dV Z (fun b14 => ?_)
    (refine aK ?_)
    exact hK1 _ _ (hS1_3_8_9 ⟨x1, x2, b11, b14, ()⟩ _ _ ⟨Z, Z, Z, Z, Z, Z, Z, Z, trivial⟩ U)
  refine bV (σ := Cp r × Value × Nat × Unit) (oZ) (fun ⟨x1, x2, b14, ()⟩ => [(1, .slice sa ws.length sc), (2, .int .i64 click), (3, .slice wa wl.length wc), (4, .pointer (some ⟨b4, 0, none⟩)), (53, .agg #[.int .i64 r.radius, .int .i64 r.unit, .int .i64 r.clicks, .int .i64 r.total, .slice x1.a1 r.group.length x1.c1, .slice x1.a2 r.drifts.length x1.c2, .slice x1.a3 r.first.length x1.c3, .slice x1.a4 r.next.length x1.c4]), (55, x2), (14, .pointer (some ⟨b14, 0, none⟩))]) (fun ⟨x1, x2, b14, ()⟩ => [un x1.K, .ow x2 32 2 ws.length (spC ws), .pt b14 [.int .i64 0, .int .i64 0, .int .i64 0, .int .i64 0, .slice none 0 0, .slice none 0 0, .slice none 0 0, .slice none 0 0] 34]) ?_ (fun hS1_3_9 => ?_)
  ·rintro ⟨x1, x2, b14, _⟩
   refine bE ?_ ?_
   ·refine aQ J fun K1 hK1 => ?_
    (refine aD V Z Z Z ?_)
    refine bD (β := CAll wl) (L' := fun x => [un (fR x.1.2), .ow x.1.1 22 1 wl.length (x.1.2.map (fun (y : Value × List Int) => y.1))]) V [] _ M0 Z Z Z Z (Sp.refl _) qS (fun w' hs => mV w' _ _ _ wl (hwl.keep hs.chg0) O (fun l hl => by have := hrow l hl; omega)) ?_
    rintro x3 _ rfl
    (refine aK ?_)
    exact hK1 _ _ (hS1_3_5_9 ⟨x1, x2, x3, b14, ()⟩ _ _ ⟨Z, Z, Z, Z, Z, Z, Z, Z, trivial⟩ U)
   ·refine aQ J fun K1 hK1 => ?_
    refine aU cU Z (fun b11 => ?_)
    (refine aK ?_)
    exact hK1 _ _ (hS1_3_8_9 ⟨x1, x2, b11, b14, ()⟩ _ _ ⟨Z, Z, Z, Z, Z, Z, Z, Z, trivial⟩ U)
  refine bV (σ := Cp r × Nat × Nat × Unit) (kO) (fun ⟨x1, b11, b14, ()⟩ => [(1, .slice sa ws.length sc), (2, .int .i64 click), (3, .slice wa wl.length wc), (4, .pointer (some ⟨b4, 0, none⟩)), (53, .agg #[.int .i64 r.radius, .int .i64 r.unit, .int .i64 r.clicks, .int .i64 r.total, .slice x1.a1 r.group.length x1.c1, .slice x1.a2 r.drifts.length x1.c2, .slice x1.a3 r.first.length x1.c3, .slice x1.a4 r.next.length x1.c4]), (11, .pointer (some ⟨b11, 0, none⟩)), (14, .pointer (some ⟨b14, 0, none⟩))]) (fun ⟨x1, b11, b14, ()⟩ => [un x1.K, .pt b11 [.int .i64 0, .int .i64 0, .int .i64 0, .int .i64 0, .slice none 0 0, .slice none 0 0, .slice none 0 0, .slice none 0 0] 25, .pt b14 [.int .i64 0, .int .i64 0, .int .i64 0, .int .i64 0, .slice none 0 0, .slice none 0 0, .slice none 0 0, .slice none 0 0] 34]) ?_ (fun hS1_8_9 => ?_)
  ·rintro ⟨x1, b11, b14, _⟩
   refine aQ J fun K1 hK1 => ?_
   (refine aD V Z Z Z ?_)
   refine bD (β := Value) (L' := fun x => [.ow x 32 2 ws.length (spC ws)]) V [] _ M0 Z Z Z Z (Sp.refl _) qS (fun w' hs => jP w' _ _ _ ws (RdE.keep hws hs.chg0) O) ?_
   rintro _ x2 rfl
   (refine aK ?_)
   exact hK1 _ _ (hS1_3_8_9 ⟨x1, x2, b11, b14, ()⟩ _ _ ⟨Z, Z, Z, Z, Z, Z, Z, Z, trivial⟩ U)
  refine bV (σ := Cp r × Value × Unit) (tM5_cbd775e) (fun ⟨x1, x2, ()⟩ => [(1, .slice sa ws.length sc), (2, .int .i64 click), (3, .slice wa wl.length wc), (4, .pointer (some ⟨b4, 0, none⟩)), (53, .agg #[.int .i64 r.radius, .int .i64 r.unit, .int .i64 r.clicks, .int .i64 r.total, .slice x1.a1 r.group.length x1.c1, .slice x1.a2 r.drifts.length x1.c2, .slice x1.a3 r.first.length x1.c3, .slice x1.a4 r.next.length x1.c4]), (55, x2)]) (fun ⟨x1, x2, ()⟩ => [un x1.K, .ow x2 32 2 ws.length (spC ws)]) ?_ (fun hS1_3 => ?_)
  ·rintro ⟨x1, x2, _⟩
   refine bE ?_ (bE ?_ ?_)
   ·refine aQ J fun K1 hK1 => ?_
    (refine aD V Z Z Z ?_)
    refine bD (β := CAll wl) (L' := fun x => [un (fR x.1.2), .ow x.1.1 22 1 wl.length (x.1.2.map (fun (y : Value × List Int) => y.1))]) V [] _ M0 Z Z Z Z (Sp.refl _) qS (fun w' hs => mV w' _ _ _ wl (hwl.keep hs.chg0) O (fun l hl => by have := hrow l hl; omega)) ?_
    rintro x3 _ rfl
    (refine aK ?_)
    exact hK1 _ _ (hS1_3_5 ⟨x1, x2, x3, ()⟩ _ _ ⟨Z, Z, Z, Z, Z, Z, Z, trivial⟩ U)
   ·refine aQ J fun K1 hK1 => ?_
    refine aU cU Z (fun b11 => ?_)
    (refine aK ?_)
    exact hK1 _ _ (hS1_3_8 ⟨x1, x2, b11, ()⟩ _ _ ⟨Z, Z, Z, Z, Z, Z, Z, trivial⟩ U)
   ·refine aQ J fun K1 hK1 => ?_
    refine aU dV Z (fun b14 => ?_)
    (refine aK ?_)
    exact hK1 _ _ (hS1_3_9 ⟨x1, x2, b14, ()⟩ _ _ ⟨Z, Z, Z, Z, Z, Z, Z, trivial⟩ U)
  refine bV (σ := Cp r × Nat × Unit) (oH) (fun ⟨x1, b11, ()⟩ => [(1, .slice sa ws.length sc), (2, .int .i64 click), (3, .slice wa wl.length wc), (4, .pointer (some ⟨b4, 0, none⟩)), (53, .agg #[.int .i64 r.radius, .int .i64 r.unit, .int .i64 r.clicks, .int .i64 r.total, .slice x1.a1 r.group.length x1.c1, .slice x1.a2 r.drifts.length x1.c2, .slice x1.a3 r.first.length x1.c3, .slice x1.a4 r.next.length x1.c4]), (11, .pointer (some ⟨b11, 0, none⟩))]) (fun ⟨x1, b11, ()⟩ => [un x1.K, .pt b11 [.int .i64 0, .int .i64 0, .int .i64 0, .int .i64 0, .slice none 0 0, .slice none 0 0, .slice none 0 0, .slice none 0 0] 25]) ?_ (fun hS1_8 => ?_)
  ·rintro ⟨x1, b11, _⟩
   refine bE ?_ ?_
   ·refine aQ J fun K1 hK1 => ?_
    (refine aD V Z Z Z ?_)
    refine bD (β := Value) (L' := fun x => [.ow x 32 2 ws.length (spC ws)]) V [] _ M0 Z Z Z Z (Sp.refl _) qS (fun w' hs => jP w' _ _ _ ws (RdE.keep hws hs.chg0) O) ?_
    rintro _ x2 rfl
    (refine aK ?_)
    exact hK1 _ _ (hS1_3_8 ⟨x1, x2, b11, ()⟩ _ _ ⟨Z, Z, Z, Z, Z, Z, Z, trivial⟩ U)
   ·refine aQ J fun K1 hK1 => ?_
    refine aU dV Z (fun b14 => ?_)
    (refine aK ?_)
    exact hK1 _ _ (hS1_8_9 ⟨x1, b11, b14, ()⟩ _ _ ⟨Z, Z, Z, Z, Z, Z, Z, trivial⟩ U)
  refine bV (σ := Cp r × Nat × Unit) (oX) (fun ⟨x1, b14, ()⟩ => [(1, .slice sa ws.length sc), (2, .int .i64 click), (3, .slice wa wl.length wc), (4, .pointer (some ⟨b4, 0, none⟩)), (53, .agg #[.int .i64 r.radius, .int .i64 r.unit, .int .i64 r.clicks, .int .i64 r.total, .slice x1.a1 r.group.length x1.c1, .slice x1.a2 r.drifts.length x1.c2, .slice x1.a3 r.first.length x1.c3, .slice x1.a4 r.next.length x1.c4]), (14, .pointer (some ⟨b14, 0, none⟩))]) (fun ⟨x1, b14, ()⟩ => [un x1.K, .pt b14 [.int .i64 0, .int .i64 0, .int .i64 0, .int .i64 0, .slice none 0 0, .slice none 0 0, .slice none 0 0, .slice none 0 0] 34]) ?_ (fun hS1_9 => ?_)
  ·rintro ⟨x1, b14, _⟩
   refine bE ?_ ?_
   ·refine aQ J fun K1 hK1 => ?_
    (refine aD V Z Z Z ?_)
    refine bD (β := Value) (L' := fun x => [.ow x 32 2 ws.length (spC ws)]) V [] _ M0 Z Z Z Z (Sp.refl _) qS (fun w' hs => jP w' _ _ _ ws (RdE.keep hws hs.chg0) O) ?_
    rintro _ x2 rfl
    (refine aK ?_)
    exact hK1 _ _ (hS1_3_9 ⟨x1, x2, b14, ()⟩ _ _ ⟨Z, Z, Z, Z, Z, Z, Z, trivial⟩ U)
   ·refine aQ J fun K1 hK1 => ?_
    refine aU cU Z (fun b11 => ?_)
    (refine aK ?_)
    exact hK1 _ _ (hS1_8_9 ⟨x1, b11, b14, ()⟩ _ _ ⟨Z, Z, Z, Z, Z, Z, Z, trivial⟩ U)
  refine bV (σ := Nat × Nat × Unit) (oJ) (fun ⟨b11, b14, ()⟩ => [(1, .slice sa ws.length sc), (2, .int .i64 click), (3, .slice wa wl.length wc), (4, .pointer (some ⟨b4, 0, none⟩)), (11, .pointer (some ⟨b11, 0, none⟩)), (14, .pointer (some ⟨b14, 0, none⟩))]) (fun ⟨b11, b14, ()⟩ => [.pt b11 [.int .i64 0, .int .i64 0, .int .i64 0, .int .i64 0, .slice none 0 0, .slice none 0 0, .slice none 0 0, .slice none 0 0] 25, .pt b14 [.int .i64 0, .int .i64 0, .int .i64 0, .int .i64 0, .slice none 0 0, .slice none 0 0, .slice none 0 0, .slice none 0 0] 34]) ?_ (fun hS8_9 => ?_)
  ·rintro ⟨b11, b14, _⟩
   refine aQ J fun K1 hK1 => ?_
   (refine aO V Z Z Z ?_)
   refine bD (β := Cp r) V [] _ M0 Z Z Z Z (Sp.refl _) qS (fun w' hs => cB w' _ r (h0.keep hs.chg0) hsm) ?_
   rintro x1 _ rfl
   (refine aK ?_)
   exact hK1 _ _ (hS1_8_9 ⟨x1, b11, b14, ()⟩ _ _ ⟨Z, Z, Z, Z, Z, Z, Z, trivial⟩ U)
  refine bV (σ := Cp r × Unit) (tM5_07d5128) (fun ⟨x1, ()⟩ => [(1, .slice sa ws.length sc), (2, .int .i64 click), (3, .slice wa wl.length wc), (4, .pointer (some ⟨b4, 0, none⟩)), (53, .agg #[.int .i64 r.radius, .int .i64 r.unit, .int .i64 r.clicks, .int .i64 r.total, .slice x1.a1 r.group.length x1.c1, .slice x1.a2 r.drifts.length x1.c2, .slice x1.a3 r.first.length x1.c3, .slice x1.a4 r.next.length x1.c4])]) (fun ⟨x1, ()⟩ => [un x1.K]) ?_ (fun hS1 => ?_)
  ·rintro ⟨x1, _⟩
   refine bE ?_ (bE ?_ ?_)
   ·refine aQ J fun K1 hK1 => ?_
    (refine aD V Z Z Z ?_)
    refine bD (β := Value) (L' := fun x => [.ow x 32 2 ws.length (spC ws)]) V [] _ M0 Z Z Z Z (Sp.refl _) qS (fun w' hs => jP w' _ _ _ ws (RdE.keep hws hs.chg0) O) ?_
    rintro _ x2 rfl
    (refine aK ?_)
    exact hK1 _ _ (hS1_3 ⟨x1, x2, ()⟩ _ _ ⟨Z, Z, Z, Z, Z, Z, trivial⟩ U)
   ·refine aQ J fun K1 hK1 => ?_
    refine aU cU Z (fun b11 => ?_)
    (refine aK ?_)
    exact hK1 _ _ (hS1_8 ⟨x1, b11, ()⟩ _ _ ⟨Z, Z, Z, Z, Z, Z, trivial⟩ U)
   ·refine aQ J fun K1 hK1 => ?_
    refine aU dV Z (fun b14 => ?_)
    (refine aK ?_)
    exact hK1 _ _ (hS1_9 ⟨x1, b14, ()⟩ _ _ ⟨Z, Z, Z, Z, Z, Z, trivial⟩ U)
  refine bV (σ := Nat × Unit) (tM5_bfd9c72) (fun ⟨b11, ()⟩ => [(1, .slice sa ws.length sc), (2, .int .i64 click), (3, .slice wa wl.length wc), (4, .pointer (some ⟨b4, 0, none⟩)), (11, .pointer (some ⟨b11, 0, none⟩))]) (fun ⟨b11, ()⟩ => [.pt b11 [.int .i64 0, .int .i64 0, .int .i64 0, .int .i64 0, .slice none 0 0, .slice none 0 0, .slice none 0 0, .slice none 0 0] 25]) ?_ (fun hS8 => ?_)
  ·rintro ⟨b11, _⟩
   refine bE ?_ ?_
   ·refine aQ J fun K1 hK1 => ?_
    (refine aO V Z Z Z ?_)
    refine bD (β := Cp r) V [] _ M0 Z Z Z Z (Sp.refl _) qS (fun w' hs => cB w' _ r (h0.keep hs.chg0) hsm) ?_
    rintro x1 _ rfl
    (refine aK ?_)
    exact hK1 _ _ (hS1_8 ⟨x1, b11, ()⟩ _ _ ⟨Z, Z, Z, Z, Z, Z, trivial⟩ U)
   ·refine aQ J fun K1 hK1 => ?_
    refine aU dV Z (fun b14 => ?_)
    (refine aK ?_)
    exact hK1 _ _ (hS8_9 ⟨b11, b14, ()⟩ _ _ ⟨Z, Z, Z, Z, Z, Z, trivial⟩ U)
  refine bV (σ := Nat × Unit) (tM5_11634d5) (fun ⟨b14, ()⟩ => [(1, .slice sa ws.length sc), (2, .int .i64 click), (3, .slice wa wl.length wc), (4, .pointer (some ⟨b4, 0, none⟩)), (14, .pointer (some ⟨b14, 0, none⟩))]) (fun ⟨b14, ()⟩ => [.pt b14 [.int .i64 0, .int .i64 0, .int .i64 0, .int .i64 0, .slice none 0 0, .slice none 0 0, .slice none 0 0, .slice none 0 0] 34]) ?_ (fun hS9 => ?_)
  ·rintro ⟨b14, _⟩
   refine bE ?_ ?_
   ·refine aQ J fun K1 hK1 => ?_
    (refine aO V Z Z Z ?_)
    refine bD (β := Cp r) V [] _ M0 Z Z Z Z (Sp.refl _) qS (fun w' hs => cB w' _ r (h0.keep hs.chg0) hsm) ?_
    rintro x1 _ rfl
    (refine aK ?_)
    exact hK1 _ _ (hS1_9 ⟨x1, b14, ()⟩ _ _ ⟨Z, Z, Z, Z, Z, Z, trivial⟩ U)
   ·refine aQ J fun K1 hK1 => ?_
    refine aU cU Z (fun b11 => ?_)
    (refine aK ?_)
    exact hK1 _ _ (hS8_9 ⟨b11, b14, ()⟩ _ _ ⟨Z, Z, Z, Z, Z, Z, trivial⟩ U)
  refine bE ?_ (bE ?_ ?_)
  ·refine aQ J fun K1 hK1 => ?_
   (refine aO V Z Z Z ?_)
   refine bD (β := Cp r) V [] _ M0 Z Z Z Z (Sp.refl _) qS (fun w' hs => cB w' _ r (h0.keep hs.chg0) hsm) ?_
   rintro x1 _ rfl
   (refine aK ?_)
   exact hK1 _ _ (hS1 ⟨x1, ()⟩ _ _ ⟨Z, Z, Z, Z, Z, trivial⟩ U)
  ·refine aQ J fun K1 hK1 => ?_
   refine aU cU Z (fun b11 => ?_)
   (refine aK ?_)
   exact hK1 _ _ (hS8 ⟨b11, ()⟩ _ _ ⟨Z, Z, Z, Z, Z, trivial⟩ U)
  ·refine aQ J fun K1 hK1 => ?_
   refine aU dV Z (fun b14 => ?_)
   (refine aK ?_)
   exact hK1 _ _ (hS9 ⟨b14, ()⟩ _ _ ⟨Z, Z, Z, Z, Z, trivial⟩ U)
 rintro ⟨b11, b14, x1, x2, x3, x4⟩
 dsimp only
 (refine aE (aB ?_); refine aI V Z Z Z ?_; refine aA V Z Z (aA V Z Z ?_))
 refine bO (β := (Option Addr × Nat) × List Ck) (L' := fun x => [un x.2]) V [] _ M0 Z Z Z Z (Sp.refl _) qS (fun w' hs => worst_u w' _ _ _ r _ ws click (Cp.at2 x1 r Z Z Z Z hs U) hsm (Sat.rdSp hs (t := 32) (k := ws.length) U Z) O) ?_
 rintro ⟨⟨la, lc⟩, K1⟩ _ ⟨rfl, hla⟩
 dsimp only at hla ⊢
 (refine aA V Z Z ?_; (iterate 3 refine bC V Z Z Z ?_))
 refine aV cO Z (fun b16 => ?_)
 (refine aA V Z Z ?_; refine aY V Z Z Z Z Z U Z ?_; refine aA V Z Z (aF (aE (aB ?_))); refine aI V Z Z Z ?_; refine aA V Z Z (aA V Z Z ?_))
 refine aJ (val := .tuple #[.agg #[.int .i64 (wuQ r ws click).1, .int .i64 (wuQ r ws click).2], .int .i64 (nM r ws click)]) V Z Z Z Z (fun w hs => ?_) ?_; exact rworstF_ca w _ _ _ r _ ws click (Cp.at2 x4 r Z Z Z Z hs U) hsm (RdE.keep hws hs.chg0) O
 (refine aA V Z Z (bC V Z Z Z (bC V Z Z Z ?_)))
 refine aV cO Z (fun b18 => ?_)
 (refine aY V Z Z Z Z Z U Z ?_; refine aA V Z Z (aF (aE (aE ?_))))
 have hz : nM r ws click ≠ 0 → (wuL r ws click).length = 0 := fun h => by rw [wuL, if_neg h]; rfl
 refine jG (σ := Unit) (fun _ => [(1, .slice sa ws.length sc), (2, .int .i64 click), (3, .slice wa wl.length wc), (4, .pointer (some ⟨b4, 0, none⟩)), (11, .pointer (some ⟨b11, 0, none⟩)), (14, .pointer (some ⟨b14, 0, none⟩)), (12, x2), (13, x3.1.1), (15, .slice la (wuL r ws click).length lc), (16, .pointer (some ⟨b16, 0, none⟩)), (17, .int .i64 (nM r ws click)), (18, .pointer (some ⟨b18, 0, none⟩)), (19, .int .i64 (nM r ws click)), (91, .bool false)]) (fun _ => [.pt b16 [.int .i64 (wuQ r ws click).1, .int .i64 (wuQ r ws click).2] 36, .pt b18 [.int .i64 (wuQ r ws click).1, .int .i64 (wuQ r ws click).2] 36, un K1, un x1.K, .ow x2 32 2 ws.length (spC ws), un (fR x3.1.2), .ow x3.1.1 22 1 wl.length (x3.1.2.map (·.1)), un x4.K, .pt b11 [.int .i64 r.radius, .int .i64 r.unit, .int .i64 r.clicks, .int .i64 r.total, .slice x1.a1 r.group.length x1.c1, .slice x1.a2 r.drifts.length x1.c2, .slice x1.a3 r.first.length x1.c3, .slice x1.a4 r.next.length x1.c4] 25, .pt b14 [.int .i64 r.radius, .int .i64 r.unit, .int .i64 r.clicks, .int .i64 r.total, .slice x4.a1 r.group.length x4.c1, .slice x4.a2 r.drifts.length x4.c2, .slice x4.a3 r.first.length x4.c3, .slice x4.a4 r.next.length x4.c4] 34, .pt b4 [.int .i64 r.radius, .int .i64 r.unit, .int .i64 r.clicks, .int .i64 r.total, .slice ag r.group.length cg, .slice ad r.drifts.length cd, .slice af r.first.length cf, .slice an r.next.length cn] 25]) ?_ (fun K3 hK3 => ?_)
 rotate_left
 ·(refine aB (aA V Z Z (aA V Z Z (dM V Z Z Z O (aA V Z Z (aC Z ?_))))); refine aI V Z Z Z ?_; refine aC Z ?_; refine aI V Z Z Z ?_; refine aC Z ?_)
  refine mL [some .i64, some .i64] eZ Z Z Z Z Z ?_; rw [eO]
  by_cases hE : nM r ws click = 0
  ·(refine aA V Z Z (aA V Z Z (aC Z (aA V Z Z (aC Z (dM V Z Z Z O (aC Z (aA V Z Z ?_))))))); (iterate 3 refine bA Z Z Z ?_); refine aC Z (aA V Z Z (aA V Z Z (aF ?_))))
   exact hK3 () _ _ ⟨Z, Z, Z, Z, Z, Z, Z, Z, Z, Z, Z, Z, Z, Z, trivial⟩ U
  ·have h5 := hz hE
   (refine aA V Z Z (aA V Z Z (aC Z (aA V Z Z (aC Z (ql_neqT V Z Z Z O (aC Z (aA V Z Z (aC Z (aA V Z Z (aC Z (aA V Z Z ?_))))))))))); refine aC Z (pT V Z Z Z O (aC Z (aA V Z Z (aA V Z Z (aF ?_))))))
   exact hK3 () _ _ ⟨Z, Z, Z, Z, Z, Z, Z, Z, Z, Z, Z, Z, Z, Z, trivial⟩ U
 rintro ⟨⟩
 (refine aL Z (aR (aE (aE (aB (aA V Z Z (aA V Z Z (aF ?_))))))))
 refine jG (σ := Unit) (fun _ => [(1, .slice sa ws.length sc), (2, .int .i64 click), (3, .slice wa wl.length wc), (4, .pointer (some ⟨b4, 0, none⟩)), (11, .pointer (some ⟨b11, 0, none⟩)), (14, .pointer (some ⟨b14, 0, none⟩)), (12, x2), (13, x3.1.1), (16, .pointer (some ⟨b16, 0, none⟩)), (18, .pointer (some ⟨b18, 0, none⟩))]) (fun _ => [.pt b16 [.int .i64 (wuQ r ws click).1, .int .i64 (wuQ r ws click).2] 36, .pt b18 [.int .i64 (wuQ r ws click).1, .int .i64 (wuQ r ws click).2] 36, un K1, un x1.K, .ow x2 32 2 ws.length (spC ws), un (fR x3.1.2), .ow x3.1.1 22 1 wl.length (x3.1.2.map (·.1)), un x4.K, .pt b11 [.int .i64 r.radius, .int .i64 r.unit, .int .i64 r.clicks, .int .i64 r.total, .slice x1.a1 r.group.length x1.c1, .slice x1.a2 r.drifts.length x1.c2, .slice x1.a3 r.first.length x1.c3, .slice x1.a4 r.next.length x1.c4] 25, .pt b14 [.int .i64 r.radius, .int .i64 r.unit, .int .i64 r.clicks, .int .i64 r.total, .slice x4.a1 r.group.length x4.c1, .slice x4.a2 r.drifts.length x4.c2, .slice x4.a3 r.first.length x4.c3, .slice x4.a4 r.next.length x4.c4] 34, .pt b4 [.int .i64 r.radius, .int .i64 r.unit, .int .i64 r.clicks, .int .i64 r.total, .slice ag r.group.length cg, .slice ad r.drifts.length cd, .slice af r.first.length cf, .slice an r.next.length cn] 25]) ?_ (fun K3 hK3 => ?_)
 rotate_left
 ·refine dD Z (fun hc => ?_) (fun hc => ?_)
  ·have hE : nM r ws click = 0 := hc
   clear hc
   obtain ⟨hbl, hcb⟩ := wErr_iff hE
   obtain ⟨hck, hw⟩ := (dN r ws).1 hbl
   have hr := (bM r).1 hck
   have hC := hr.clicks
   have ew : wuL r ws click = cF r ws click := by rw [wuL, if_pos hE]
   have eq : wuQ r ws click = fG r (cF r ws click) click := by rw [wuQ, if_pos hE]; rfl
   have el : (cF r ws click).length = 5 := by rw [dF, hw.len]
   have hwb := worstL_bd hw click (r := r)
   rw [ew] at hla ⊢
   have h5 := hw.len
   (refine aE (aE ?_))
   refine bX _ [] (Sp.refl _) qR qR ?_
   (refine aD V Z Z Z (aD V Z Z Z (qf_neqF V Z Z Z O (aD V Z Z Z (aG Z ?_)))); refine aO V Z Z Z ?_; refine aG Z (aD V Z Z Z (aG Z (aD V Z Z Z (aG Z ?_)))))
   refine aS (val := .agg #[.int .i64 (wuQ r ws click).1, .int .i64 (wuQ r ws click).2]) V Z Z Z Z (fun w hs => ?_) ?_; exact by have := rfaced_ca w _ _ _ r _ (cF r ws click) click (Cp.at2 x4 r Z Z Z Z hs U) hr (hla w (fun c hc => hs.un_mem (L := K1) U hc)) O (fun x hx => by have := hwb x hx; omega) O; rw [← eq] at this; exact this
   (refine aG Z ?_; refine aO V Z Z Z ?_; refine aG Z ?_)
   refine qf_neF (xs := [.int .i64 (wuQ r ws click).1, .int .i64 (wuQ r ws click).2]) (ys := [.int .i64 (wuQ r ws click).1, .int .i64 (wuQ r ws click).2]) [some .i64, some .i64] eZ Z Z Z Z Z ?_
   rw [eO]
   (refine aD V Z Z Z (aK (aL Z (aR (aE (aB ?_))))); (iterate 3 refine aA V Z Z ?_); refine aF (aP ?_))
   refine bN (σ := Nat) (fun k => k ≤ 5) (fun k => 5 - k) (fun k => [(1, .slice sa ws.length sc), (2, .int .i64 click), (3, .slice wa wl.length wc), (4, .pointer (some ⟨b4, 0, none⟩)), (11, .pointer (some ⟨b11, 0, none⟩)), (14, .pointer (some ⟨b14, 0, none⟩)), (12, x2), (13, x3.1.1), (15, .slice la (cF r ws click).length lc), (16, .pointer (some ⟨b16, 0, none⟩)), (17, .int .i64 (nM r ws click)), (18, .pointer (some ⟨b18, 0, none⟩)), (19, .int .i64 (nM r ws click)), (105, .slice la (cF r ws click).length lc), (106, .int .i64 (cF r ws click).length), (107, .int .i64 k)]) (fun _ => [.pt b16 [.int .i64 (wuQ r ws click).1, .int .i64 (wuQ r ws click).2] 36, .pt b18 [.int .i64 (wuQ r ws click).1, .int .i64 (wuQ r ws click).2] 36, un K1, un x1.K, .ow x2 32 2 ws.length (spC ws), un (fR x3.1.2), .ow x3.1.1 22 1 wl.length (x3.1.2.map (·.1)), un x4.K, .pt b11 [.int .i64 r.radius, .int .i64 r.unit, .int .i64 r.clicks, .int .i64 r.total, .slice x1.a1 r.group.length x1.c1, .slice x1.a2 r.drifts.length x1.c2, .slice x1.a3 r.first.length x1.c3, .slice x1.a4 r.next.length x1.c4] 25, .pt b14 [.int .i64 r.radius, .int .i64 r.unit, .int .i64 r.clicks, .int .i64 r.total, .slice x4.a1 r.group.length x4.c1, .slice x4.a2 r.drifts.length x4.c2, .slice x4.a3 r.first.length x4.c3, .slice x4.a4 r.next.length x4.c4] 34, .pt b4 [.int .i64 r.radius, .int .i64 r.unit, .int .i64 r.clicks, .int .i64 r.total, .slice ag r.group.length cg, .slice ad r.drifts.length cd, .slice af r.first.length cf, .slice an r.next.length cn] 25]) 0 O ⟨Z, Z, Z, Z, Z, Z, Z, Z, Z, Z, Z, Z, Z, Z, Z, Z, trivial⟩ U ?_
   intro k hk K4 hK4
   (refine aE (aB (aA V Z Z (aF (aE ?_)))))
   refine dD Z (fun hc => ?_) (fun hc => ?_)
   ·have hk2 : k < (cF r ws click).length := by omega
    have hk3 : k < ws.length := by omega
    clear hc
    obtain ⟨bs, os, rfl⟩ := hsa O
    have hwk := worstO_in r click ws[k] (hw.sp _ (List.getElem_mem hk3)).1
    have hge : (cF r ws click)[k] = lG r click ws[k] := by simp [cF]
    rw [← hge] at hwk
    refine lS (fun w hs => RdI.outI (hla w (fun c hc => hs.un_mem (L := K1) U hc))) ?_
    rintro ⟨_, _, hsl, hsm2⟩
    cases hsl
    obtain ⟨bl, ol, rfl⟩ := hsm2 O
    (refine aR (aE (aP (aE (aB (aA V Z Z ?_))))))
    (refine bW V Z Z Z Z Z O O ?_; refine cI V Z Z Z (fun w hs => RdI.at (hla w (fun c hc => hs.un_mem (L := K1) U hc)) k hk2) ?_)
    (refine aA V Z Z (aA V Z Z (aF (aE (aB ?_)))); (iterate 3 refine aA V Z Z ?_))
    refine bW V Z Z Z Z Z O O ?_
    (refine aA V Z Z ?_)
    refine cI (v := .int .i64 ws[k].1) V Z Z Z (fun w hs => RdS.at0 (RdE.keep hws hs.chg0) k hk3) ?_
    (refine gC V Z Z Z O (aA V Z Z (aC Z (aA V Z Z (aC Z (aA V Z Z (aC Z (aA V Z Z (aC Z ?_)))))))))
    refine bW V Z Z Z Z Z O O ?_
    (refine aC Z (aA V Z Z (aC Z ?_)))
    refine cI (v := .int .i64 ws[k].2) V Z Z Z (fun w hs => RdS.at1 (RdE.keep hws hs.chg0) k hk3) ?_
    (refine aC Z (pT V Z Z Z O (aA V Z Z (aF (aL Z (aR (bL (aB (bB V Z Z Z Z O O (aA V Z Z (aF ?_)))))))))))
    exact hK4 (k + 1) _ _ O O ⟨Z, Z, Z, Z, Z, Z, Z, Z, Z, Z, Z, Z, Z, Z, Z, Z, trivial⟩ U
   ·obtain rfl : k = 5 := by omega
    clear hc hK4
    (refine bJ _ Z ?_)
    exact hK3 () _ _ ⟨Z, Z, Z, Z, Z, Z, Z, Z, Z, Z, trivial⟩ U
  ·(refine aR ?_)
   exact hK3 () _ _ ⟨Z, Z, Z, Z, Z, Z, Z, Z, Z, Z, trivial⟩ U
 rintro ⟨⟩
 (refine aE (aB ?_); refine aI V Z Z Z ?_; refine aA V Z Z ?_)
 refine aJ (val := .tuple #[.int .i64 (nF r ws).1, .agg #[.int .i64 (nF r ws).2.1.1, .int .i64 (nF r ws).2.1.2], .int .i64 (cN r ws)]) V Z Z Z Z (fun w hs => ?_) ?_; exact by have := robF_ca w _ _ _ r _ ws (Cp.at2 x1 r Z Z Z Z hs U) hsm (Sat.rdSp hs (t := 32) (k := ws.length) U Z) O; rw [rob_err] at this; exact this
 (refine aA V Z Z ?_; (iterate 3 refine bC V Z Z Z ?_); refine aA V Z Z ?_; refine aY V Z Z Z Z Z U Z ?_; refine aA V Z Z (aF (aE (aB ?_))); refine aI V Z Z Z ?_; refine aA V Z Z ?_)
 refine aJ (val := .tuple #[.int .i64 (nF r ws).1, .agg #[.int .i64 (nF r ws).2.1.1, .int .i64 (nF r ws).2.1.2], .int .i64 (cN r ws)]) V Z Z Z Z (fun w hs => ?_) ?_; exact by have := rrobust_ca w _ _ _ r _ ws (Cp.at2 x4 r Z Z Z Z hs U) hsm (RdE.keep hws hs.chg0) O; rw [rob_err] at this; exact this
 (refine aA V Z Z ?_; (iterate 3 refine bC V Z Z Z ?_); refine aA V Z Z ?_; refine aY V Z Z Z Z Z U Z ?_; refine aA V Z Z (aF (aE (aB ?_))); refine aI V Z Z Z ?_; refine aA V Z Z ?_)
 refine bO (β := (Option Addr × Nat) × List Ck) (L' := fun x => [un x.2]) V [] _ M0 Z Z Z Z (Sp.refl _) qS (fun w' hs => against_u w' _ _ _ r _ ws (Cp.at2 x1 r Z Z Z Z hs U) hsm (Sat.rdSp hs (t := 32) (k := ws.length) U Z) O) ?_
 rintro ⟨⟨aa, ac⟩, K2⟩ _ ⟨rfl, haa⟩
 dsimp only at haa ⊢
 (refine aA V Z Z (bC V Z Z Z (bC V Z Z Z (aA V Z Z (aA V Z Z (aF (aE (aE ?_))))))))
 have hz2 : cN r ws ≠ 0 → (agL r ws).length = 0 := fun h => by rw [agL, if_neg h]; rfl
 refine jG (σ := Unit) (fun _ => [(1, .slice sa ws.length sc), (2, .int .i64 click), (3, .slice wa wl.length wc), (4, .pointer (some ⟨b4, 0, none⟩)), (11, .pointer (some ⟨b11, 0, none⟩)), (14, .pointer (some ⟨b14, 0, none⟩)), (12, x2), (13, x3.1.1), (24, .slice aa (agL r ws).length ac), (16, .pointer (some ⟨b16, 0, none⟩)), (17, .int .i64 (cN r ws)), (18, .pointer (some ⟨b18, 0, none⟩)), (19, .int .i64 (cN r ws)), (175, .bool false)]) (fun _ => [.pt b16 [.int .i64 (nF r ws).2.1.1, .int .i64 (nF r ws).2.1.2] 36, .pt b18 [.int .i64 (nF r ws).2.1.1, .int .i64 (nF r ws).2.1.2] 36, un K2, un x1.K, .ow x2 32 2 ws.length (spC ws), un (fR x3.1.2), .ow x3.1.1 22 1 wl.length (x3.1.2.map (·.1)), un x4.K, .pt b11 [.int .i64 r.radius, .int .i64 r.unit, .int .i64 r.clicks, .int .i64 r.total, .slice x1.a1 r.group.length x1.c1, .slice x1.a2 r.drifts.length x1.c2, .slice x1.a3 r.first.length x1.c3, .slice x1.a4 r.next.length x1.c4] 25, .pt b14 [.int .i64 r.radius, .int .i64 r.unit, .int .i64 r.clicks, .int .i64 r.total, .slice x4.a1 r.group.length x4.c1, .slice x4.a2 r.drifts.length x4.c2, .slice x4.a3 r.first.length x4.c3, .slice x4.a4 r.next.length x4.c4] 34, .pt b4 [.int .i64 r.radius, .int .i64 r.unit, .int .i64 r.clicks, .int .i64 r.total, .slice ag r.group.length cg, .slice ad r.drifts.length cd, .slice af r.first.length cf, .slice an r.next.length cn] 25]) ?_ (fun K3 hK3 => ?_)
 rotate_left
 ·(refine aB (aA V Z Z (aA V Z Z (dM V Z Z Z O (aA V Z Z (aC Z (aA V Z Z (aC Z (aA V Z Z (aC Z (dM V Z Z Z O (aA V Z Z ?_))))))))))); refine aA V Z Z (aC Z (aA V Z Z (aC Z (aA V Z Z (aC Z (dM V Z Z Z O (aA V Z Z (aA V Z Z (aC Z ?_))))))))); refine aI V Z Z Z ?_; refine aC Z ?_; refine aI V Z Z Z ?_; refine aC Z ?_)
  refine mL [some .i64, some .i64] eZ Z Z Z Z Z ?_; rw [eO]
  by_cases hE : cN r ws = 0
  ·(refine aA V Z Z (aA V Z Z (aC Z (aA V Z Z (aC Z (dM V Z Z Z O (aC Z (aA V Z Z ?_))))))); (iterate 3 refine bA Z Z Z ?_); refine aC Z (aA V Z Z (aA V Z Z (aF ?_))))
   exact hK3 () _ _ ⟨Z, Z, Z, Z, Z, Z, Z, Z, Z, Z, Z, Z, Z, Z, trivial⟩ U
  ·have h5 := hz2 hE
   (refine aA V Z Z (aA V Z Z (aC Z (aA V Z Z (aC Z (ql_neqT V Z Z Z O (aC Z (aA V Z Z (aC Z (aA V Z Z (aC Z (aA V Z Z ?_))))))))))); refine aC Z (pT V Z Z Z O (aC Z (aA V Z Z (aA V Z Z (aF ?_))))))
   exact hK3 () _ _ ⟨Z, Z, Z, Z, Z, Z, Z, Z, Z, Z, Z, Z, Z, Z, trivial⟩ U
 rintro ⟨⟩
 (refine aL Z (aR (aE (aE (aB (aA V Z Z (aA V Z Z (aF ?_))))))))
 refine jG (σ := Unit) (fun _ => [(1, .slice sa ws.length sc), (2, .int .i64 click), (3, .slice wa wl.length wc), (4, .pointer (some ⟨b4, 0, none⟩)), (11, .pointer (some ⟨b11, 0, none⟩)), (14, .pointer (some ⟨b14, 0, none⟩)), (12, x2), (13, x3.1.1), (16, .pointer (some ⟨b16, 0, none⟩)), (18, .pointer (some ⟨b18, 0, none⟩))]) (fun _ => [.pt b16 [.int .i64 (nF r ws).2.1.1, .int .i64 (nF r ws).2.1.2] 36, .pt b18 [.int .i64 (nF r ws).2.1.1, .int .i64 (nF r ws).2.1.2] 36, un K2, un x1.K, .ow x2 32 2 ws.length (spC ws), un (fR x3.1.2), .ow x3.1.1 22 1 wl.length (x3.1.2.map (·.1)), un x4.K, .pt b11 [.int .i64 r.radius, .int .i64 r.unit, .int .i64 r.clicks, .int .i64 r.total, .slice x1.a1 r.group.length x1.c1, .slice x1.a2 r.drifts.length x1.c2, .slice x1.a3 r.first.length x1.c3, .slice x1.a4 r.next.length x1.c4] 25, .pt b14 [.int .i64 r.radius, .int .i64 r.unit, .int .i64 r.clicks, .int .i64 r.total, .slice x4.a1 r.group.length x4.c1, .slice x4.a2 r.drifts.length x4.c2, .slice x4.a3 r.first.length x4.c3, .slice x4.a4 r.next.length x4.c4] 34, .pt b4 [.int .i64 r.radius, .int .i64 r.unit, .int .i64 r.clicks, .int .i64 r.total, .slice ag r.group.length cg, .slice ad r.drifts.length cd, .slice af r.first.length cf, .slice an r.next.length cn] 25]) ?_ (fun K3 hK3 => ?_)
 rotate_left
 ·refine dD Z (fun hc => ?_) (fun hc => ?_)
  ·have hE : cN r ws = 0 := hc
   clear hc
   have hsh := shows_ag hE
   have hck := ((dN r ws).1 hE).1
   have hr := (bM r).1 hck
   have hC := hr.clicks
   have hw := ((dN r ws).1 hE).2
   have ea : agL r ws = (eT r.clicks).map (cF r ws) := by rw [agL, if_pos hE]
   have e3 : (agL r ws).length = (2 * r.clicks + 1).toNat := by rw [ea, List.length_map, gA]
   have e5 : ∀ l ∈ agL r ws, l.length < 1000000 := fun l hl => by rw [ea] at hl; obtain ⟨c, _, rfl⟩ := List.mem_map.1 hl; rw [dF, hw.len]; omega
   (refine aE (aB ?_); refine aI V Z Z Z ?_; refine aA V Z Z (aA V Z Z ?_))
   refine aJ (val := .tuple #[.agg #[.int .i64 (nF r ws).2.1.1, .int .i64 (nF r ws).2.1.2], .int .i64 0]) V Z Z Z Z (fun w hs => ?_) ?_; exact by have := rshows_ca w _ _ _ _ _ r _ _ ws (agL r ws) (Cp.at2 x4 r Z Z Z Z hs U) hsm (RdE.keep hws hs.chg0) O (haa w (fun c hc => hs.un_mem (L := K2) U hc)) O e5; rw [hsh] at this; exact this
   (refine aA V Z Z (bC V Z Z Z (bC V Z Z Z ?_)))
   refine aV cO Z (fun b26 => ?_)
   (refine aY V Z Z Z Z Z U Z ?_; refine aA V Z Z (aF (aE (aB (aA V Z Z (dM V Z Z Z O (aA V Z Z (aC Z ?_))))))); refine aI V Z Z Z ?_; refine aC Z ?_; refine aI V Z Z Z ?_; refine aC Z ?_)
   refine mL [some .i64, some .i64] eZ Z Z Z Z Z ?_; rw [eO]
   (refine aA V Z Z (aF (aL Z (aR ?_))))
   exact hK3 () _ _ ⟨Z, Z, Z, Z, Z, Z, Z, Z, Z, Z, trivial⟩ U
  ·(refine aR ?_)
   exact hK3 () _ _ ⟨Z, Z, Z, Z, Z, Z, Z, Z, Z, Z, trivial⟩ U
 rintro ⟨⟩
 (refine aE (aB ?_); refine aI V Z Z Z ?_; refine aA V Z Z (aA V Z Z ?_))
 refine aJ (val := .tuple #[.agg #[.int .i64 (eA r ws wl).1.1, .int .i64 (eA r ws wl).1.2], .int .i64 (eA r ws wl).2]) V Z Z Z Z (fun w hs => ?_) ?_; exact showsF_ca w _ _ _ _ _ r _ _ ws wl (Cp.at2 x1 r Z Z Z Z hs U) hsm (Sat.rdSp hs (t := 32) (k := ws.length) U Z) O (CAll.rd (x := x3) hs U U) O
 (refine aA V Z Z (bC V Z Z Z (bC V Z Z Z ?_)); refine aY V Z Z Z Z Z U Z ?_; refine aA V Z Z (aF (aE (aB ?_))); refine aI V Z Z Z ?_; refine aA V Z Z (aA V Z Z ?_))
 refine aJ (val := .tuple #[.agg #[.int .i64 (eA r ws wl).1.1, .int .i64 (eA r ws wl).1.2], .int .i64 (eA r ws wl).2]) V Z Z Z Z (fun w hs => ?_) ?_; exact rshows_ca w _ _ _ _ _ r _ _ ws wl (Cp.at2 x4 r Z Z Z Z hs U) hsm (RdE.keep hws hs.chg0) O (hwl.keep hs.chg0) O (fun l hl => by have := hrow l hl; omega)
 (refine aA V Z Z (bC V Z Z Z (bC V Z Z Z ?_)); refine aY V Z Z Z Z Z U Z ?_; refine aA V Z Z (aF (aE (aB (aA V Z Z (aA V Z Z (dG V Z Z Z O (aA V Z Z (aC Z ?_)))))))); refine aI V Z Z Z ?_; refine aC Z ?_; refine aI V Z Z Z ?_; refine aC Z ?_)
 refine qD [some .i64, some .i64] eZ Z Z Z Z Z ?_; rw [eO]
 (refine aA V Z Z (aA V Z Z (aC Z ?_)); refine aI V Z Z Z ?_; refine aC Z ?_; refine aI V Z Z Z ?_; refine aC Z ?_)
 refine aJ (val := .bool true) V Z Z Z Z (fun w hs => ?_) ?_; exact same_ca w _ _ r (Cp.at2 x1 r Z Z Z Z hs U) (h0.keep hs.chg0) hsm
 (refine aA V Z Z (aA V Z Z (aC Z (aA V Z Z (aC Z (aA V Z Z (aC Z ?_)))))))
 refine aJ (val := .bool true) V Z Z Z Z (fun w hs => ?_) ?_; exact eqS5_ca w _ _ _ _ _ _ ws (Sat.rdSp hs (t := 32) (k := ws.length) U Z) (RdE.keep hws hs.chg0) O
 (refine aA V Z Z (aA V Z Z (aC Z (aA V Z Z (aC Z (aA V Z Z (aC Z ?_)))))))
 refine aJ (val := .bool true) V Z Z Z Z (fun w hs => ?_) ?_; exact eqII_ca w _ _ _ _ _ _ wl (CAll.rd (x := x3) hs U U) (hwl.keep hs.chg0) O (fun l hl => by have := hrow l hl; omega)
 (refine aA V Z Z (aA V Z Z (aC Z ?_)))
 refine aJ (val := .bool true) V Z Z Z Z (fun w hs => ?_) ?_; exact dQ w
 (refine aA V Z Z (aA V Z Z (aF (aW ?_))))
 refine aX V Z U fun w hs => ?_
 exact ⟨Z, hs.chg0⟩
end Go.Proofs.YtohlillcaadidaaGreat

/- The engine, part B21: ranges over functions that hand out memory of their own. -/
namespace Go.Eng
open Go Go.RowKit

section
variable {P : Program} {T : Tab}
variable {ro : Cx} {n : Nat} {F : Fin} {k : List It} {ops : Array Oper} {rest : List Oper} {e : Env} {w0 : World} {M : Nat → Prop} {H Hq : List Ck}

/-- At the world w the function gf, with what it has captured, is an iterator over xs, whose elements are handed out with pieces of memory; the body changes nothing but what lies in D, and these pieces. -/
def ItOkP {α β : Type} (P : Program) (gf : Nat) (lb : List Value) (enc : α → List Value) (val : α → β) (pc : α → List Ck) (xs : List β) (w : World) (D : Nat → Prop) : Prop :=
 ∀ (fv : Value) (σ : Type) (L : σ → List Ck) (I : List β → σ → Prop) (E : σ → Prop) (s0 : σ), dY fv = true → I [] s0 → (∀ b, DL (L s0) b → D b) → Sat w (DL (L s0)) (L s0) w →
  (∀ pre x post s w', xs = pre ++ val x :: post → I pre s → Sat w (DL (L s0)) (L s ++ pc x) w' → CaF P fv (enc x) w' (fun v w'' => ∃ s', ((v = .bool true ∧ I (pre ++ [val x]) s') ∨ (v = .bool false ∧ E s')) ∧ Sat w' (DL (L s ++ pc x)) (L s') w'')) →
  Ca P gf (fv :: lb) w (fun _ w' => ∃ s', (I xs s' ∨ E s') ∧ Sat w (DL (L s0)) (L s') w')

end
end Go.Eng

/- The engine, part B22: rows made, copied, cut at the front; append to a slice without room. -/
namespace Go.Eng
open Go Go.RowKit

section
variable {P : Program} {T : Tab} {ro : Cx} {n : Nat} {F : Fin} {w0 : World} {M : Nat → Prop} {k : List It} {ops : Array Oper} {rest : List Oper} {e : Env} {H Hq : List Ck}
/-- x[l:] and x[:h]. -/
theorem elem_slice {t et : Nat} (hu : P.underlying t = some (.slice et)) : P.elem t = et := by simp [Program.elem, hu]
theorem run_sliceTo {t et sz : Nat} (hu : P.underlying t = some (.slice et)) (hsz : (P.info? et).map (·.size) = some sz) {a : Option Addr} {len cap : Nat} {kl : IntKind} {l : Int} (h0 : 0 ≤ l) (h1 : l ≤ cap) (w : World) :
  (Instr.sliceAt t (.slice a len cap) none (some (.int kl l)) none).run P w = .ok (.slice (if cap = 0 then a else a.map (·.add 0)) l.toNat cap) w := by
 have he := elem_slice hu
 cases hq : P.info? et with
 | none => simp [hq] at hsz
 | some i =>
  have hi : i.size = sz := by simpa [hq] using hsz
  subst hi
  rw [run_sliceAt_slice w t _ _ _ _ (by rw [he]; exact hu), run_slice_h w t a len cap (by rw [he]; exact hu) kl l h0 h1, he]
  simp [sizeOf, typeInfo, hq, sliced]
theorem iF {d t et sz : Nat} {x lo : Operand} {a : Option Addr} {len cap : Nat} {kl : IntKind} {l : Int} {ty : TypeId} {pos : String} {af : Array Edge} (hu : P.underlying t = some (.slice et)) (hsz : (P.info? et).map (·.size) = some sz)
  (hx : opv e x = some (.slice a len cap)) (hl : opv e lo = some (.int kl l)) (hd : Nat.blt d n = true) (h0 : 0 ≤ l) (h1 : l ≤ cap)
  (h : QF P ro n F w0 M k ops Hq rest ((d, .slice (if cap = 0 then a else a.map (·.add 0)) l.toNat cap) :: e) H) : QF P ro n F w0 M k ops Hq (⟨some d, .slice t x none (some lo) none, ty, pos, af, none⟩ :: rest) e H := .mk fun w hw =>
 eY rfl hd (fun ac hf w' _ => by
  simp only [execOp, hf.op hx]
  simp [hf.op hl, run_sliceTo hu hsz h0 h1 w']) (h.h w hw)

end
end Go.Eng

/- The engine, part B23: a region that draws, with any marks, whose first part changes pieces too. -/
namespace Go.Eng
open Go Go.RowKit

section
variable {P : Program} {ro : Cx} {n : Nat} {F : Fin} {w0 : World} {M : Nat → Prop} {k : List It} {ops : Array Oper} {l : List Oper} {e : Env} {H H1 H2 : List Ck} {bs : List Bool}
end
end Go.Eng

/- The engine, part B24: a region that draws its order, in which some operations that act may stand in any order, and what is read may change later on. -/
namespace Go.Eng
open Go Go.RowKit

section
variable {P : Program} {ops : Array Oper} {Cq Ce : Nat → World → Prop} {K : Act → World → Prop}

def jZ (P : Program) (ops : Array Oper) (Cq Ce : Nat → World → Prop) (K : Act → World → Prop) : OT → Act → World → Prop
 | .nil, a, w => K a w
 | .op i t, a, w => match ops[i]? with
  | none => False
  | some o => if Region.wanted o (yielded ops a.tmps) = true then
    (if eff o.op = true then bS P o a w (fun v w' => Ce i w' ∧ jZ P ops Cq Ce K t (a.put o.dst v) w')
     else ∃ v, (∀ w', Cq i w' → (execOp a.eval o).run P w' = .ok (.value v) w') ∧ jZ P ops Cq Ce K t (a.put o.dst v) w)
   else jZ P ops Cq Ce K t (a.put o.dst undef) w
 | .alt t u, a, w => jZ P ops Cq Ce K t a w ∧ jZ P ops Cq Ce K u a w
theorem iY (hF : FlM ops) (hH : ∀ (i j : Nat) oi oj, ops[i]? = some oi → ops[j]? = some oj → eff oi.op = false → eff oj.op = true → ((eF ops.toList).getD j 0).testBit i = false → ∀ w, Ce j w → Cq i w) {j : Nat} {oj : Oper} (hj : ops[j]? = some oj) (hne : eff oj.op = false) : ∀ (t : OT) (rem : List Nat) (a : Act) (w : World), rem.Nodup → OkT ops t rem → j ∈ rem → (∀ i ∈ rem, ((eF ops.toList).getD j 0).testBit i = false) →
  Region.wanted oj (yielded ops a.tmps) = true → Cq j w → jZ P ops Cq Ce K t a w → ∃ v, (∀ w', Cq j w' → (execOp a.eval oj).run P w' = .ok (.value v) w') ∧ jZ P ops Cq Ce K (t.del j) (a.put oj.dst v) w
 | .nil, rem, a, w, hn, hok, hjr, hm, hw, hC, h => by
  have : rem = [] := hok
  subst this
  cases hjr
 | .alt t u, rem, a, w, hn, ⟨o1, o2⟩, hjr, hm, hw, hC, ⟨h1, h2⟩ => by
  obtain ⟨v, hv, h3⟩ := iY hF hH hj hne t rem a w hn o1 hjr hm hw hC h1
  obtain ⟨v', hv', h4⟩ := iY hF hH hj hne u rem a w hn o2 hjr hm hw hC h2
  have e1 := hv w hC
  have e2 := hv' w hC
  rw [e1] at e2
  have : v = v' := by simpa using e2
  subst this
  exact ⟨v, hv, h3, h4⟩
 | .op i t, rem, a, w, hn, ⟨⟨oi, hi, _⟩, hir, him, hok⟩, hjr, hm, hw, hC, h => by
  by_cases hij : i = j
  ·subst hij
   rw [hj] at hi
   obtain rfl := Option.some.inj hi
   simp only [jZ, hj, hw, if_true, hne, Bool.false_eq_true, if_false] at h
   simpa [OT.del] using h
  ·have hji : j ∈ rem.erase i := (List.mem_erase_of_ne (fun h => hij h.symm)).2 hjr
   have ih' := fun a w => iY hF hH hj hne t (rem.erase i) a w (hn.erase i) hok hji (fun b hb => hm b (List.mem_of_mem_erase hb))
   have hap := gD hF hij hi hj (hm i hir) (him j hjr)
   obtain ⟨p1, p2, p3⟩ := Oper.apart_spec hap
   have kj := hF.kind j oj hj
   have ki := hF.kind i oi hi
   have ej : ∀ (a : Act) v, execOp (a.put oi.dst v).eval oj = execOp a.eval oj := fun a v => dI kj a oi.dst v p1
   have ei : ∀ (a : Act) v, execOp (a.put oj.dst v).eval oi = execOp a.eval oi := fun a v => dI ki a oj.dst v p3
   have wj : ∀ (a : Act) v, Region.wanted oj (yielded ops (a.put oi.dst v).tmps) = Region.wanted oj (yielded ops a.tmps) := fun a v => wanted_put oj a oi.dst v p1
   have wi : ∀ (a : Act) v, Region.wanted oi (yielded ops (a.put oj.dst v).tmps) = Region.wanted oi (yielded ops a.tmps) := fun a v => wanted_put oi a oj.dst v p3
   have cm : ∀ (a : Act) u v, (a.put oi.dst u).put oj.dst v = (a.put oj.dst v).put oi.dst u := fun a u v => Act.put_comm a u v p2
   have ed : (OT.op i t).del j = .op i (t.del j) := by simp [OT.del, hij]
   rw [ed]
   simp only [jZ, hi] at h ⊢
   by_cases hwi : Region.wanted oi (yielded ops a.tmps) = true
   ·simp only [hwi, if_true] at h
    by_cases he : eff oi.op = true
    ·simp only [he, if_true] at h
     obtain ⟨v0, w0, hC0, h0⟩ := h.some
     obtain ⟨v, hv, _⟩ := ih' _ w0 (by rw [wj]; exact hw) (hH j i oj oi hj hi hne he (him j hjr) w0 hC0) h0
     simp only [ej] at hv
     refine ⟨v, hv, ?_⟩
     rw [wi]
     simp only [hwi, if_true, he]
     have h1 : bS P oi (a.put oj.dst v) w (fun u w' => Ce i w' ∧ jZ P ops Cq Ce K t (a.put oi.dst u) w') := by
      unfold bS at h ⊢
      rw [ei]
      exact h
     refine h1.mono fun u w' ⟨hC', h2⟩ => ⟨hC', ?_⟩
     obtain ⟨v', hv', h3⟩ := ih' _ w' (by rw [wj]; exact hw) (hH j i oj oi hj hi hne he (him j hjr) w' hC') h2
     simp only [ej] at hv'
     have e1 := hv w hC
     have e2 := hv' w hC
     rw [e1] at e2
     have : v = v' := by simpa using e2
     subst this
     rw [cm] at h3
     exact h3
    ·simp only [he] at h
     obtain ⟨u, hu, h⟩ := h
     obtain ⟨v, hv, h3⟩ := ih' _ w (by rw [wj]; exact hw) hC h
     simp only [ej] at hv
     refine ⟨v, hv, ?_⟩
     rw [wi]
     simp only [hwi, if_true, he]
     refine ⟨u, fun w' hC' => by rw [ei]; exact hu w' hC', ?_⟩
     rw [cm] at h3
     exact h3
   ·simp only [hwi] at h
    obtain ⟨v, hv, h3⟩ := ih' _ w (by rw [wj]; exact hw) hC h
    simp only [ej] at hv
    refine ⟨v, hv, ?_⟩
    rw [wi]
    simp only [hwi]
    rw [cm] at h3
    exact h3

theorem kV (hF : FlM ops) {j : Nat} {oj : Oper} (hj : ops[j]? = some oj) : ∀ (t : OT) (rem : List Nat) (a : Act) (w : World), rem.Nodup → OkT ops t rem → j ∈ rem → (∀ i ∈ rem, ((eF ops.toList).getD j 0).testBit i = false) →
  Region.wanted oj (yielded ops a.tmps) = false → jZ P ops Cq Ce K t a w → jZ P ops Cq Ce K (t.del j) (a.put oj.dst undef) w
 | .nil, rem, a, w, hn, hok, hjr, hm, hw, h => by
  have : rem = [] := hok
  subst this
  cases hjr
 | .alt t u, rem, a, w, hn, ⟨o1, o2⟩, hjr, hm, hw, ⟨h1, h2⟩ => ⟨kV hF hj t rem a w hn o1 hjr hm hw h1, kV hF hj u rem a w hn o2 hjr hm hw h2⟩
 | .op i t, rem, a, w, hn, ⟨⟨oi, hi, _⟩, hir, him, hok⟩, hjr, hm, hw, h => by
  by_cases hij : i = j
  ·subst hij
   rw [hj] at hi
   obtain rfl := Option.some.inj hi
   simp only [jZ, hj, hw, Bool.false_eq_true, if_false] at h
   simpa [OT.del] using h
  ·have hji : j ∈ rem.erase i := (List.mem_erase_of_ne (fun h => hij h.symm)).2 hjr
   have ih' := fun a w => kV hF hj t (rem.erase i) a w (hn.erase i) hok hji (fun b hb => hm b (List.mem_of_mem_erase hb))
   have hap := gD hF hij hi hj (hm i hir) (him j hjr)
   obtain ⟨p1, p2, p3⟩ := Oper.apart_spec hap
   have ki := hF.kind i oi hi
   have ei : ∀ (a : Act) v, execOp (a.put oj.dst v).eval oi = execOp a.eval oi := fun a v => dI ki a oj.dst v p3
   have wj : ∀ (a : Act) v, Region.wanted oj (yielded ops (a.put oi.dst v).tmps) = Region.wanted oj (yielded ops a.tmps) := fun a v => wanted_put oj a oi.dst v p1
   have wi : ∀ (a : Act) v, Region.wanted oi (yielded ops (a.put oj.dst v).tmps) = Region.wanted oi (yielded ops a.tmps) := fun a v => wanted_put oi a oj.dst v p3
   have cm : ∀ (a : Act) u v, (a.put oi.dst u).put oj.dst v = (a.put oj.dst v).put oi.dst u := fun a u v => Act.put_comm a u v p2
   have ed : (OT.op i t).del j = .op i (t.del j) := by simp [OT.del, hij]
   rw [ed]
   simp only [jZ, hi] at h ⊢
   rw [wi]
   by_cases hwi : Region.wanted oi (yielded ops a.tmps) = true
   ·simp only [hwi, if_true] at h ⊢
    by_cases he : eff oi.op = true
    ·simp only [he, if_true] at h ⊢
     have h1 : bS P oi (a.put oj.dst undef) w (fun u w' => Ce i w' ∧ jZ P ops Cq Ce K t (a.put oi.dst u) w') := by
      unfold bS at h ⊢
      rw [ei]
      exact h
     refine h1.mono fun u w' ⟨hC', h2⟩ => ⟨hC', ?_⟩
     have h3 := ih' _ w' (by rw [wj]; exact hw) h2
     rw [cm] at h3
     exact h3
    ·simp only [he] at h ⊢
     obtain ⟨u, hu, h⟩ := h
     have h3 := ih' _ w (by rw [wj]; exact hw) h
     refine ⟨u, fun w' hC' => by rw [ei]; exact hu w' hC', ?_⟩
     rw [cm] at h3
     exact h3
   ·simp only [hwi] at h ⊢
    have h3 := ih' _ w (by rw [wj]; exact hw) h
    rw [cm] at h3
    exact h3

theorem mS (hF : FlM ops) {j : Nat} {oj : Oper} (hj : ops[j]? = some oj) (he : eff oj.op = true) : ∀ (t t' : OT) (rem : List Nat) (a : Act) (w : World), rem.Nodup → OkT ops t rem → j ∈ rem → (∀ i ∈ rem, ((eF ops.toList).getD j 0).testBit i = false) →
  Region.wanted oj (yielded ops a.tmps) = true → t.take ops j = some t' → jZ P ops Cq Ce K t a w → bS P oj a w (fun v w' => Ce j w' ∧ jZ P ops Cq Ce K t' (a.put oj.dst v) w')
 | .nil, _, _, _, _, _, _, _, _, _, ht, _ => by simp [OT.take] at ht
 | .alt t u, t', rem, a, w, hn, ⟨o1, o2⟩, hjr, hm, hw, ht, ⟨h1, h2⟩ => by
  unfold OT.take at ht
  split at ht
  ·rename_i x hx
   cases ht
   exact mS hF hj he t _ rem a w hn o1 hjr hm hw hx h1
  ·exact mS hF hj he u t' rem a w hn o2 hjr hm hw ht h2
 | .op i t, t', rem, a, w, hn, ⟨⟨oi, hi, _⟩, hir, him, hok⟩, hjr, hm, hw, ht, h => by
  unfold OT.take at ht
  split at ht
  ·rename_i hij
   subst hij
   cases ht
   rw [hj] at hi
   obtain rfl := Option.some.inj hi
   simp only [jZ, hj, hw, if_true, he] at h
   exact h
  ·rename_i hij
   split at ht
   ·cases ht
   ·rename_i hei0
    have hei : eff oi.op = false := by simpa [gL, hi] using hei0
    cases hx : t.take ops j with
    | none => rw [hx] at ht; cases ht
    | some x =>
     rw [hx] at ht
     cases ht
     have hji : j ∈ rem.erase i := (List.mem_erase_of_ne (fun h => hij h.symm)).2 hjr
     have ih' := fun a w => mS hF hj he t x (rem.erase i) a w (hn.erase i) hok hji (fun b hb => hm b (List.mem_of_mem_erase hb))
     have hap := gD hF hij hi hj (hm i hir) (him j hjr)
     obtain ⟨p1, p2, p3⟩ := Oper.apart_spec hap
     have kj := hF.kind j oj hj
     have ki := hF.kind i oi hi
     have ej : ∀ (a : Act) v, execOp (a.put oi.dst v).eval oj = execOp a.eval oj := fun a v => dI kj a oi.dst v p1
     have ei : ∀ (a : Act) v, execOp (a.put oj.dst v).eval oi = execOp a.eval oi := fun a v => dI ki a oj.dst v p3
     have wj : ∀ (a : Act) v, Region.wanted oj (yielded ops (a.put oi.dst v).tmps) = Region.wanted oj (yielded ops a.tmps) := fun a v => wanted_put oj a oi.dst v p1
     have wi : ∀ (a : Act) v, Region.wanted oi (yielded ops (a.put oj.dst v).tmps) = Region.wanted oi (yielded ops a.tmps) := fun a v => wanted_put oi a oj.dst v p3
     have cm : ∀ (a : Act) u v, (a.put oi.dst u).put oj.dst v = (a.put oj.dst v).put oi.dst u := fun a u v => Act.put_comm a u v p2
     simp only [jZ, hi] at h
     by_cases hwi : Region.wanted oi (yielded ops a.tmps) = true
     ·simp only [hwi, if_true, hei, Bool.false_eq_true, if_false] at h
      obtain ⟨u, hu, h⟩ := h
      have h3 := ih' _ w (by rw [wj]; exact hw) hx h
      have h4 : bS P oj a w (fun v w' => Ce j w' ∧ jZ P ops Cq Ce K x ((a.put oi.dst u).put oj.dst v) w') := by
       unfold bS at h3 ⊢
       rw [ej] at h3
       exact h3
      refine h4.mono fun v w' ⟨hC', h5⟩ => ⟨hC', ?_⟩
      simp only [jZ, hi]
      rw [wi]
      simp only [hwi, if_true, hei, Bool.false_eq_true, if_false]
      refine ⟨u, fun w' hC' => by rw [ei]; exact hu w' hC', ?_⟩
      rw [cm] at h5
      exact h5
     ·simp only [hwi, Bool.false_eq_true, if_false] at h
      have h3 := ih' _ w (by rw [wj]; exact hw) hx h
      have h4 : bS P oj a w (fun v w' => Ce j w' ∧ jZ P ops Cq Ce K x ((a.put oi.dst undef).put oj.dst v) w') := by
       unfold bS at h3 ⊢
       rw [ej] at h3
       exact h3
      refine h4.mono fun v w' ⟨hC', h5⟩ => ⟨hC', ?_⟩
      simp only [jZ, hi]
      rw [wi]
      simp only [hwi, Bool.false_eq_true, if_false]
      rw [cm] at h5
      exact h5

/-- An operation that is left out: the orders in which it stands first, without it. -/
theorem jC (hF : FlM ops) {j : Nat} {oj : Oper} (hj : ops[j]? = some oj) : ∀ (t t' : OT) (rem : List Nat) (a : Act) (w : World), rem.Nodup → OkT ops t rem → j ∈ rem → (∀ i ∈ rem, ((eF ops.toList).getD j 0).testBit i = false) →
  Region.wanted oj (yielded ops a.tmps) = false → t.take ops j = some t' → jZ P ops Cq Ce K t a w → jZ P ops Cq Ce K t' (a.put oj.dst undef) w
 | .nil, _, _, _, _, _, _, _, _, _, ht, _ => by simp [OT.take] at ht
 | .alt t u, t', rem, a, w, hn, ⟨o1, o2⟩, hjr, hm, hw, ht, ⟨h1, h2⟩ => by
  unfold OT.take at ht
  split at ht
  ·rename_i x hx
   cases ht
   exact jC hF hj t _ rem a w hn o1 hjr hm hw hx h1
  ·exact jC hF hj u t' rem a w hn o2 hjr hm hw ht h2
 | .op i t, t', rem, a, w, hn, ⟨⟨oi, hi, _⟩, hir, him, hok⟩, hjr, hm, hw, ht, h => by
  unfold OT.take at ht
  split at ht
  ·rename_i hij
   subst hij
   cases ht
   rw [hj] at hi
   obtain rfl := Option.some.inj hi
   simp only [jZ, hj, hw, Bool.false_eq_true, if_false] at h
   exact h
  ·rename_i hij
   split at ht
   ·cases ht
   ·rename_i hei0
    have hei : eff oi.op = false := by simpa [gL, hi] using hei0
    cases hx : t.take ops j with
    | none => rw [hx] at ht; cases ht
    | some x =>
     rw [hx] at ht
     cases ht
     have hji : j ∈ rem.erase i := (List.mem_erase_of_ne (fun h => hij h.symm)).2 hjr
     have ih' := fun a w => jC hF hj t x (rem.erase i) a w (hn.erase i) hok hji (fun b hb => hm b (List.mem_of_mem_erase hb))
     have hap := gD hF hij hi hj (hm i hir) (him j hjr)
     obtain ⟨p1, p2, p3⟩ := Oper.apart_spec hap
     have ki := hF.kind i oi hi
     have ei : ∀ (a : Act) v, execOp (a.put oj.dst v).eval oi = execOp a.eval oi := fun a v => dI ki a oj.dst v p3
     have wj : ∀ (a : Act) v, Region.wanted oj (yielded ops (a.put oi.dst v).tmps) = Region.wanted oj (yielded ops a.tmps) := fun a v => wanted_put oj a oi.dst v p1
     have wi : ∀ (a : Act) v, Region.wanted oi (yielded ops (a.put oj.dst v).tmps) = Region.wanted oi (yielded ops a.tmps) := fun a v => wanted_put oi a oj.dst v p3
     have cm : ∀ (a : Act) u v, (a.put oi.dst u).put oj.dst v = (a.put oj.dst v).put oi.dst u := fun a u v => Act.put_comm a u v p2
     simp only [jZ, hi] at h ⊢
     rw [wi]
     by_cases hwi : Region.wanted oi (yielded ops a.tmps) = true
     ·simp only [hwi, if_true, hei, Bool.false_eq_true, if_false] at h ⊢
      obtain ⟨u, hu, h⟩ := h
      have h3 := ih' _ w (by rw [wj]; exact hw) hx h
      refine ⟨u, fun w' hC' => by rw [ei]; exact hu w' hC', ?_⟩
      rw [cm] at h3
      exact h3
     ·simp only [hwi, Bool.false_eq_true, if_false] at h ⊢
      have h3 := ih' _ w (by rw [wj]; exact hw) hx h
      rw [cm] at h3
      exact h3

theorem okT_end2 : ∀ (t : OT) (a : Act) (w : World), OkT ops t [] → jZ P ops Cq Ce K t a w → K a w
 | .nil, _, _, _, h => h
 | .op i t, _, _, ⟨_, h2, _⟩, _ => by cases h2
 | .alt t _, a, w, ⟨h1, _⟩, ⟨h2, _⟩ => okT_end2 t a w h1 h2
variable {ro : Cx} {Q : Fin}
theorem any_of_T2 (hF : FlM ops) (hH : ∀ (i j : Nat) oi oj, ops[i]? = some oi → ops[j]? = some oj → eff oi.op = false → eff oj.op = true → ((eF ops.toList).getD j 0).testBit i = false → ∀ w, Ce j w → Cq i w) (hK : ∀ a w, K a w → Q .normal a w) : ∀ (fuel m : Nat) (t : OT) (rem : List Nat) (listed : Array Bool) (a : Act) (w : World),
  rem.length = fuel → rem.Nodup → listed.size = ops.size → (∀ i, i ∈ rem ↔ i < ops.size ∧ listed.getD i true = false) →
  (∀ (m : Nat) o, ops[m]? = some o → listed.getD m false = true → ∀ e ∈ o.after, Region.binds .any e = true → listed.getD e.on false = true) →
  OkT ops t rem → covT ops (eF ops.toList) m t = true → (∀ i ∈ rem, ∀ o, ops[i]? = some o → eff o.op = false → Cq i w) → jZ P ops Cq Ce K t a w → wpAnyIn (FR ro.ro) 0 P .any ops Q fuel listed a w := by
 intro fuel
 induction fuel with
 | zero =>
  intro m t rem listed a w hl hn hsz hmem hcl hok hcov hC h
  have : rem = [] := by simpa using hl
  subst this
  refine ⟨?_, hK _ _ (okT_end2 t a w hok h)⟩
  refine List.eq_nil_iff_forall_not_mem.2 fun i hi => ?_
  obtain ⟨h0, o, ho, _⟩ := mem_ready.1 hi
  exact absurd ((hmem i).2 ⟨(Array.getElem?_eq_some_iff.1 ho).1, h0⟩) (by simp)
 | succ fuel ih =>
  intro m t rem listed a w hl hn hsz hmem hcl hok hcov hC h
  have hlist : ∀ x, x < ops.size → x ∉ rem → listed.getD x false = true := by
   intro x hx hr
   have h3 : ¬ (x < ops.size ∧ listed.getD x true = false) := fun hx => hr ((hmem x).2 hx)
   have h4 : x < listed.size := by omega
   simp only [Array.getD_eq_getD_getElem?, Array.getElem?_eq_getElem h4, Option.getD_some] at h3 ⊢
   cases hc : listed[x] with
   | true => rfl
   | false => exact absurd ⟨hx, hc⟩ h3
  have hunl : ∀ x, listed.getD x false = true → x ∉ rem := by
   intro x hx hr
   have h0 := ((hmem x).1 hr).2
   simp only [Array.getD_eq_getD_getElem?] at hx h0
   cases hc : listed[x]? <;> simp [hc] at hx h0
   simp [hx] at h0
  refine ⟨fun h0 => ?_, fun j hj => ?_⟩
  ·exfalso
   obtain ⟨i, hir, o, ho, hd⟩ := okT_first t rem hok (by rintro rfl; simp at hl)
   have hrd : i ∈ Region.ready .any ops listed := by
    refine mem_ready.2 ⟨((hmem i).1 hir).2, o, ho, fun e he hb => ?_⟩
    by_cases hes : e.on < ops.size
    ·exact hlist _ hes (hd e he hb)
    ·exact (hF.edge i o ho e he hb hes).elim
   rw [h0] at hrd
   cases hrd
  ·obtain ⟨h0, oj, hoj, hre⟩ := mem_ready.1 hj
   have hjr : j ∈ rem := (hmem j).2 ⟨(Array.getElem?_eq_some_iff.1 hoj).1, h0⟩
   have hun : ∀ i ∈ rem, ((eF ops.toList).getD j 0).testBit i = false := fun i hi => by
    cases hb : ((eF ops.toList).getD j 0).testBit i with
    | false => rfl
    | true => exact absurd hi (hunl i (mQ (D := fun m => listed.getD m false = true) (fun m o hm hD e he hb => hcl m o hm hD e he hb) j oj hoj (fun e he hb => hre e he hb) i hb))
   have next : ∀ m (t' : OT) a w, OkT ops t' (rem.erase j) → covT ops (eF ops.toList) m t' = true → (∀ i ∈ rem.erase j, ∀ o, ops[i]? = some o → eff o.op = false → Cq i w) → jZ P ops Cq Ce K t' a w → wpAnyIn (FR ro.ro) 0 P .any ops Q fuel (listed.setIfInBounds j true) a w := by
    intro m t' a w hok hcov hC h
    refine ih m t' (rem.erase j) _ a w ?_ (hn.erase j) (by simp [hsz]) ?_ ?_ hok hcov hC h
    ·rw [List.length_erase_of_mem hjr]; omega
    ·intro i
     constructor
     ·intro hi
      have hne : j ≠ i := fun e => by subst e; exact absurd hi (hn.not_mem_erase)
      have h1 := (hmem i).1 (List.mem_of_mem_erase hi)
      exact ⟨h1.1, by rw [getD_set_ne true hne]; exact h1.2⟩
     ·rintro ⟨h1, h2⟩
      have hne : j ≠ i := fun e => by
       subst e
       simp [hsz, h1] at h2
      rw [getD_set_ne true hne] at h2
      exact (List.mem_erase_of_ne (fun h => hne h.symm)).2 ((hmem i).2 ⟨h1, h2⟩)
    ·intro m o hm hD e he hb
     by_cases hmj : j = m
     ·subst hmj
      rw [hoj] at hm
      obtain rfl := Option.some.inj hm
      exact getD_set_true (hre e he hb)
     ·rw [getD_set_ne false hmj] at hD
      exact getD_set_true (hcl m o hm hD e he hb)
   unfold wpOpIn
   simp only [hoj]
   by_cases hw : Region.wanted oj (yielded ops a.tmps) = true
   ·simp only [hw, if_true]
    cases he : eff oj.op with
    | true =>
     have hej : gL ops j = true := by simp [gL, hoj, he]
     have hje := (gZ t rem hok).2 j hjr hej
     cases m with
     | zero =>
      simp only [covT, List.isEmpty_iff] at hcov
      rw [hcov] at hje
      cases hje
     | succ m =>
      simp only [covT, List.all_eq_true] at hcov
      have h1 := hcov j hje
      rw [Bool.or_eq_true] at h1
      rcases h1 with h1 | h1
      ·obtain ⟨i, hi, hb⟩ := List.any_eq_true.1 h1
       rw [hun i ((gZ t rem hok).1 i hi)] at hb
       cases hb
      ·cases hx : t.take ops j with
       | none => rw [hx] at h1; cases h1
       | some x =>
        rw [hx] at h1
        have h2 := mS hF hoj he t x rem a w hn hok hjr hun hw hx h
        exact bS.wpIn (hF.kind j oj hoj) (h2.mono fun v w' ⟨hC', h3⟩ => next m x _ _ (oD t x rem hn hok hjr hx) h1 (fun i hi o ho hq => hH i j o oj ho hoj hq he (hun i (List.mem_of_mem_erase hi)) w' hC') h3)
    | false =>
     have hej : gL ops j = false := by simp [gL, hoj, he]
     obtain ⟨v, hv, h2⟩ := iY hF hH hoj he t rem a w hn hok hjr hun hw (hC j hjr oj hoj he) h
     exact upon_FR (fun c hc => by have := hF.kind j oj hoj; rw [hc] at this; cases this) (hv w (hC j hjr oj hoj he)) (next m _ _ _ (del_ok t rem hn hok hjr) (cov_del hej _ m t hcov) (fun i hi => hC i (List.mem_of_mem_erase hi)) h2)
   ·have hw' : Region.wanted oj (yielded ops a.tmps) = false := by simpa using hw
    simp only [hw', Bool.false_eq_true, if_false]
    cases he : eff oj.op with
    | false =>
     have hej : gL ops j = false := by simp [gL, hoj, he]
     exact ⟨fun f _ => pL f, next m _ _ _ (del_ok t rem hn hok hjr) (cov_del hej _ m t hcov) (fun i hi => hC i (List.mem_of_mem_erase hi)) (kV hF hoj t rem a w hn hok hjr hun hw' h)⟩
    | true =>
     have hej : gL ops j = true := by simp [gL, hoj, he]
     have hje := (gZ t rem hok).2 j hjr hej
     cases m with
     | zero =>
      simp only [covT, List.isEmpty_iff] at hcov
      rw [hcov] at hje
      cases hje
     | succ m =>
      simp only [covT, List.all_eq_true] at hcov
      have h1 := hcov j hje
      rw [Bool.or_eq_true] at h1
      rcases h1 with h1 | h1
      ·obtain ⟨i, hi, hb⟩ := List.any_eq_true.1 h1
       rw [hun i ((gZ t rem hok).1 i hi)] at hb
       cases hb
      ·cases hx : t.take ops j with
       | none => rw [hx] at h1; cases h1
       | some x =>
        rw [hx] at h1
        exact ⟨fun f _ => pL f, next m _ _ _ (oD t x rem hn hok hjr hx) h1 (fun i hi => hC i (List.mem_of_mem_erase hi)) (jC hF hoj t x rem a w hn hok hjr hun hw' hx h)⟩

theorem wpIn_region_T2 {id : Nat} {a : Act} {w : World} (t : OT) (hm : P.follows .mixedOrders = true) (hB : treeB ops t = true) (hH : ∀ (i j : Nat) oi oj, ops[i]? = some oi → ops[j]? = some oj → eff oi.op = false → eff oj.op = true → ((eF ops.toList).getD j 0).testBit i = false → ∀ w, Ce j w → Cq i w) (hC : ∀ i, Cq i { w with drawn := w.drawn + 1 })
  (hK : ∀ a w, K a w → Q .normal a w) (h : jZ P ops Cq Ce K t a { w with drawn := w.drawn + 1 }) : (Code.region id ops true).wpIn (FR ro.ro) 0 P Q a w := by
 simp only [treeB, Bool.and_eq_true] at hB
 obtain ⟨⟨h1, h2⟩, h3⟩ := hB
 refine wpIn_region_any hm (any_of_T2 (pairsB_spec h1) hH hK ops.size ops.size t (List.range ops.size) _ a _ (by simp) List.nodup_range (by simp) ?_ ?_ (pZ t _ h2) h3 (fun i _ _ _ _ => hC i) h)
 ·intro i
  simp only [List.mem_range]
  constructor
  ·intro hi
   exact ⟨hi, by simp [hi]⟩
  ·exact fun hi => hi.1
 ·intro m o _ hD
  simp only [Array.getD_eq_getD_getElem?, Array.getElem?_replicate] at hD
  split at hD <;> simp at hD
end
end Go.Eng

/- The engine, part B25: walks of a region by a tree of orders, in two parts: what the first part reads may change in the second. -/
namespace Go.Eng
open Go Go.RowKit

section
variable {P : Program} {ro : Cx} {n : Nat} {F : Fin} {w0 : World} {M : Nat → Prop} {k : List It} {ops : Array Oper} {e : Env} {H H1 H2 : List Ck} {bs : List Bool}
structure QX (P : Program) (ro : Cx) (n : Nat) (F : Fin) (w0 : World) (M : Nat → Prop) (k : List It) (ops : Array Oper) (H1 H2 : List Ck) (bs : List Bool) (t : OT) (e : Env) (H : List Ck) : Prop where
 h : ∀ w, Sat w0 M H w → ∀ a, Fits n e a → a.defers = ro.ds → jZ P ops (gB (Sat w0 M H1) (Sat w0 M H2) bs) (gB (Sat w0 M H1) (Sat w0 M H2) bs) (fun a w => S P ro.ro F k .normal a w) t a w
theorem q_drawX {id : Nat} {l : List Oper} (t : OT) (bs : List Bool) (Hq1 Hm1 Hq2 Hm2 : List Ck) (hH1 : Sp H (Hm1 ++ Hq1)) (hH2 : Sp Hq1 (Hm2 ++ Hq2)) (hm : P.follows .mixedOrders = true) (hB : treeB l.toArray t = true) (hbs : flagB l.toArray bs = true)
  (h : QX P ro n F w0 M k l.toArray Hq1 Hq2 bs t e H) : Q P ro n F w0 M (.code (.region id l.toArray true) :: k) e H := .mk fun w hs a hf hd => by
 have hs0 : Sat w0 M H { w with drawn := w.drawn + 1 } := hs.keep (Chg.drew (N := []) w)
 have hs1 : Sat w0 M Hq1 { w with drawn := w.drawn + 1 } := (hs0.sp hH1).right
 have h12 : ∀ w, Sat w0 M Hq1 w → Sat w0 M Hq2 w := fun w hw => (hw.sp hH2).right
 refine wpIn_region_T2 t hm hB (Cq := gB (Sat w0 M Hq1) (Sat w0 M Hq2) bs) (Ce := gB (Sat w0 M Hq1) (Sat w0 M Hq2) bs) (fun i j oi oj hi hj hei hej hmk w hC => flagB_spec hbs h12 i j oi oj hi hj hei hej (.inr hmk) w hC) (fun i => ?_) (fun _ _ h => h) (h.h _ hs0 a hf hd)
 unfold gB
 cases bs.getD i false
 ·exact h12 _ hs1
 ·exact hs1
theorem qx_nil (h : Q P ro n F w0 M k e H) : QX P ro n F w0 M k ops H1 H2 bs .nil e H := ⟨fun w hs a hf hd => h.h w hs a hf hd⟩
theorem gM {t u : OT} (h1 : QX P ro n F w0 M k ops H1 H2 bs t e H) (h2 : QX P ro n F w0 M k ops H1 H2 bs u e H) : QX P ro n F w0 M k ops H1 H2 bs (.alt t u) e H :=
 ⟨fun w hs a hf hd => ⟨h1.h w hs a hf hd, h2.h w hs a hf hd⟩⟩
theorem wpT2_chain {C1 C2 : World → Prop} {b : Bool} {K : Act → World → Prop} {t : OT} : ∀ (l : List Nat) (lo : List Oper) (a : Act) (w : World), l.map (fun i => ops[i]?) = lo.map some → l.all (fun i => bs.getD i false == b) = true →
  gG P ops (bif b then C1 else C2) (jZ P ops (gB C1 C2 bs) (gB C1 C2 bs) K t) lo a w → jZ P ops (gB C1 C2 bs) (gB C1 C2 bs) K (aN l t) a w
 | [], [], a, w, _, _, h => h
 | [], _ :: _, _, _, hl, _, _ => by cases hl
 | _ :: _, [], _, _, hl, _, _ => by cases hl
 | i :: l, o :: lo, a, w, hl, hb, h => by
  simp only [List.map_cons, List.cons.injEq] at hl
  simp only [List.all_cons, Bool.and_eq_true, beq_iff_eq] at hb
  have ih : ∀ a w, gG P ops (bif b then C1 else C2) (jZ P ops (gB C1 C2 bs) (gB C1 C2 bs) K t) lo a w → jZ P ops (gB C1 C2 bs) (gB C1 C2 bs) K (aN l t) a w := fun a w => wpT2_chain l lo a w hl.2 hb.2
  have hC : gB C1 C2 bs i = (bif b then C1 else C2) := by
   funext w
   unfold gB
   rw [hb.1]
   cases b <;> rfl
  simp only [aN, jZ, hl.1, hC]
  simp only [gG] at h
  split
  ·rename_i hw
   rw [if_pos hw] at h
   split
   ·rename_i he
    rw [if_pos he] at h
    exact h.mono fun v w' ⟨hC, h2⟩ => ⟨hC, ih _ _ h2⟩
   ·rename_i he
    rw [if_neg he] at h
    obtain ⟨v, hv, h2⟩ := h
    exact ⟨v, hv, ih _ _ h2⟩
  ·rename_i hw
   rw [if_neg hw] at h
   exact ih _ _ h
/-- A piece of the first part; of the second one. -/
theorem kQ {l : List Nat} {lo : List Oper} {t : OT} (Hm : List Ck) (hl : PickL ops l lo) (hb : l.all (fun i => bs.getD i false == true) = true) (hH : Sp H (Hm ++ H1))
  (h : ∀ K1 : Act → World → Prop, (∀ e' H', QX P ro n F w0 M k ops H1 H2 bs t e' H' → Q P ro n F w0 M (.k K1 :: k) e' H') → QF P ro n F w0 M (.k K1 :: k) ops H1 lo e Hm) : QX P ro n F w0 M k ops H1 H2 bs (aN l t) e H :=
 ⟨fun w hs a hf hd => by
  have h1 := h (jZ P ops (gB (Sat w0 M H1) (Sat w0 M H2) bs) (gB (Sat w0 M H1) (Sat w0 M H2) bs) (fun a w => S P ro.ro F k .normal a w) t) (fun e' H' hq => .mk fun w' hs' a' hf' hd' => hq.h w' hs' a' hf' hd')
  exact wpT2_chain (b := true) l lo a w hl.map hb (h1.h w (hs.sp hH) a hf hd)⟩
theorem qx_F {l : List Nat} {lo : List Oper} {t : OT} (Hm : List Ck) (hl : PickL ops l lo) (hb : l.all (fun i => bs.getD i false == false) = true) (hH : Sp H (Hm ++ H2))
  (h : ∀ K1 : Act → World → Prop, (∀ e' H', QX P ro n F w0 M k ops H1 H2 bs t e' H' → Q P ro n F w0 M (.k K1 :: k) e' H') → QF P ro n F w0 M (.k K1 :: k) ops H2 lo e Hm) : QX P ro n F w0 M k ops H1 H2 bs (aN l t) e H :=
 ⟨fun w hs a hf hd => by
  have h1 := h (jZ P ops (gB (Sat w0 M H1) (Sat w0 M H2) bs) (gB (Sat w0 M H1) (Sat w0 M H2) bs) (fun a w => S P ro.ro F k .normal a w) t) (fun e' H' hq => .mk fun w' hs' a' hf' hd' => hq.h w' hs' a' hf' hd')
  exact wpT2_chain (b := false) l lo a w hl.map hb (h1.h w (hs.sp hH) a hf hd)⟩
/-- What is shared by several orders. -/
theorem fX {σ : Type} (t : OT) {t0 : OT} (env : σ → Env) (pc : σ → List Ck) (main : ∀ s, QX P ro n F w0 M k ops H1 H2 bs t (env s) (pc s))
  (use : (∀ s e' H', Sub (env s) e' → Sp H' (pc s) → QX P ro n F w0 M k ops H1 H2 bs t e' H') → QX P ro n F w0 M k ops H1 H2 bs t0 e H) : QX P ro n F w0 M k ops H1 H2 bs t0 e H :=
 use (fun s _ _ he hH => ⟨fun w hs a hf hd => (main s).h w (hs.sp hH) a (hf.sub he) hd⟩)
end
end Go.Eng

/- The engine, part B26: arrays of Bools compared. -/
namespace Go.Eng
open Go Go.RowKit

section
variable {P : Program}
def eqBL : List Bool → List Bool → Bool
 | a :: l, b :: m => (a == b) && eqBL l m
 | _, _ => true
def arrQB (P : Program) (t n e : Nat) : Bool :=
 !(P.eqGuardType P.depth t) && oneB P e && Nat.beq (P.cellsOf e) 1 && (P.info? e).isSome && (match P.underlying t with | some (.array n' e') => Nat.beq n' n && Nat.beq e' e | _ => false) && (match P.underlying e with | some .bool => true | _ => false)
variable {ro : Cx} {n : Nat} {F : Fin} {w0 : World} {M : Nat → Prop} {k : List It} {ops : Array Oper} {rest : List Oper} {e : Env} {H Hq : List Ck}
end
end Go.Eng

/- The engine, part B27: structs of flat structs compared. -/
namespace Go.Eng
open Go Go.RowKit

section
variable {P : Program}
def nestF (P : Program) : Nat → List Field → List (List (Option IntKind)) → Bool
 | _, [], [] => true
 | o, f :: fs, k :: ks => !(f.name == "_") && Nat.beq f.offset o && oN P f.type k && Nat.beq (P.cellsOf f.type) k.length && (P.info? f.type).isSome && nestF P (o + k.length) fs ks
 | _, _, _ => false
def nestB (P : Program) (t : Nat) (ks : List (List (Option IntKind))) : Bool :=
 !(P.stoodInHeld t) && !(P.eqGuardType P.depth t) && (match P.underlying t with | some (.struct fs) => nestF P 0 fs.toList ks | _ => false)
variable {ro : Cx} {n : Nat} {F : Fin} {w0 : World} {M : Nat → Prop} {k : List It} {ops : Array Oper} {rest : List Oper} {e : Env} {H Hq : List Ck}
end
end Go.Eng

/- The engine, part B28: a byte of a string. -/
namespace Go.Eng
open Go Go.RowKit

section
variable {P : Program} {T : Tab}
variable {ro : Cx} {n : Nat} {F : Fin} {w0 : World} {M : Nat → Prop} {k : List It} {ops : Array Oper} {rest : List Oper} {e : Env} {H Hq : List Ck}
end
end Go.Eng
