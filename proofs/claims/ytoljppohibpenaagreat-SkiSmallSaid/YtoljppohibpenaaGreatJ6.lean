import Derived.Test.YtoljppohibpenaaGreatJ5
import Derived.Shelf.Sort.Plain
set_option linter.unusedVariables false
set_option maxHeartbeats 16000000
namespace Go.Proofs.YtoljppohibpenaaGreat
open Go Go.Eng
set_option maxRecDepth 4000
open Go Go.Eng
theorem short_le{l:Lb}(hl:l.Ok){a b:Nat}{c:List Int}(h:Short l a b c):c.length≤l.n:=by
 obtain⟨b',hb,hw⟩:=lead_wk hl.e0 a _ c _ rfl h.ok;have e:b'=b:=by omega
 rw[e] at hw;obtain⟨j,_,hd⟩:=isD_of _ (List.length_pos_iff.2 h.ne) hw;obtain⟨c',h4,h5⟩:=wk_lead j b hd.2.1;have h6:=h.min c' (fun e=>by rw[e] at h4;have:=hd.1;simp at h4;omega) h5;have:=isD_le hl hd;omega
def lI(l:Lb):List (Int×Int):=if bQ l=0 then fasL l.ord l.n else[]
theorem fasterA_ca(w:World)(lo hi:Nat)(l:Lb)(v:Value)(h:RdR w lo hi v l.runs)(hlen:l.runs.length≤maxLen):Ca Tryz.prog 20 [.agg (lbC l v).toArray] w fun x w'=>∃u:Value,x= .tuple #[u,.int .i64 (bQ l)]∧Sat w M0 [.ow u 62 2 (lI l).length (spC (lI l))] w':=by
 by_cases h0:bQ l=0
 ·have e:lI l=fasL l.ord l.n:=if_pos h0;rw[e,h0];exact faster_ok w lo hi l v h (dE.1 h0).1 (dE.1 h0).2
 ·have e:lI l=[]:=if_neg h0;rw[e];exact(faster_no w lo hi l v h hlen h0).mono fun x w' ⟨h1,h2⟩=>⟨_,h1,Sat.ownil ((Sat.nil w M0).keep h2) _ _⟩
theorem fasA_len(l:Lb):(lI l).length≤1000:=by
 unfold lI;split
 ·rename_i h
  have h8:=(dE.1 h).1.n8;have h1:=fasI_len (o:=l.ord) (n:=l.n) l.n 0 qG;rw[fasI_all] at h1;have:l.n*l.n≤8*8:=Nat.mul_le_mul h8 h8;omega
 ·simp
def kO:OT:=bO [8,9,10] (.nil)
def nT:OT:=bO [7] (kO)
def oH:OT:=bO [6] (kO)
def tE5_2bd7652:OT:= .alt (bO [6] (nT)) (bO [7] (oH))
def kR:OT:=bO [4,5] (kO)
def oF:OT:= .alt (bO [4,5] (nT)) (bO [7] (kR))
def oD:OT:= .alt (bO [4,5] (oH)) (bO [6] (kR))
def tE5_c7f8ae7:OT:= .alt (bO [4,5] (tE5_2bd7652)) (.alt (bO [6] (oF)) (bO [7] (oD)))
def kQ:OT:=bO [2,3] (kR)
def oE:OT:= .alt (bO [2,3] (oF)) (bO [7] (kQ))
def nW:OT:= .alt (bO [2,3] (oD)) (bO [6] (kQ))
def tE5_ed18e2b:OT:= .alt (bO [2,3] (tE5_c7f8ae7)) (.alt (bO [6] (oE)) (bO [7] (nW)))
def oO:OT:=bO [0,1] (kQ)
def tE5_bb7b8ba:OT:= .alt (bO [0,1] (oE)) (bO [7] (oO))
def tE5_02d9108:OT:= .alt (bO [0,1] (nW)) (bO [6] (oO))
def tE5_cb8a7af:OT:= .alt (bO [0,1] (tE5_ed18e2b)) (.alt (bO [6] (tE5_bb7b8ba)) (bO [7] (tE5_02d9108)))
set_option maxRecDepth 20000 in
theorem jD(w:World)(lo hi lo2 hi2:Nat)(l:Lb)(v u:Value)(fast slow:Int)(ch:List Int)(h:RdR w lo hi v l.runs)(hlen0:l.runs.length≤maxLen)(h2:RdI w lo2 hi2 u ch)(hlen2:ch.length≤maxLen) :
  Ca Tryz.prog 5 [.agg (lbC l v).toArray,.int .i64 fast,.int .i64 slow,u] w fun r w'=>r= .bool true∧Chg [] w w':=by
 obtain⟨va,vc,rfl,hsv⟩:=RdR.outI h;obtain⟨ca,cc,rfl,hsc⟩:=RdI.outI h2;refine cM (Sat.nil w M0) Tryz.func5 J (by simp[Tryz.ntmps5]) ?_;(refine aD (aB ?_));refine bN J J (fun b4=> ?_);rw[bG];by_cases g1:l.runs.length>45
 ·(refine aA1 vq (aE (aD (aD (aB (aA1 vq ?_)))));refine aL qE J J J ?_;refine aA1 vq (aB4 yq qG (aA1 vq ?_));(iterate 3 refine aA3 zq ?_);refine aA1 vq (aE (aH J (aD (aB ?_)))))
  refine aI (val:= .bool true) qE J J J J (fun w hs=> ?_) ?_;exact cZ w;(refine aA1 vq (aE (aQ ?_)));refine aA2 wq qF fun w hs=> ?_;exact⟨J,hs.chg0⟩
 by_cases g2:ch.length>50
 ·(refine aA1 vq (aE (aD (aD (aB (aA1 vq ?_)))));refine aL qE J J J ?_;refine aA1 vq (aB3 yq qG (aA1 vq (aC J (aA1 vq (aC J (aA1 vq (aC J (aB4 yq qG (aA1 vq (aE (aH J ?_)))))))))));refine aD (aB ?_))
  refine aI (val:= .bool true) qE J J J J (fun w hs=> ?_) ?_;exact cZ w;(refine aA1 vq (aE (aQ ?_)));refine aA2 wq qF fun w hs=> ?_;exact⟨J,hs.chg0⟩
 (refine aA1 vq (aE (aD (aD (aB (aA1 vq ?_)))));refine aL qE J J J ?_;refine aA1 vq (aB3 yq qG (aA1 vq (aC J (aA1 vq (aC J (aA1 vq (aC J (aB3 yq qG (aA1 vq (aE (aF J ?_)))))))))));refine aJ (aD ?_))
 refine kL (σ:=Option Addr×Nat×Option Addr×Nat×Option Addr×Nat×Nat×Nat) (fun⟨ua,uc,ma,mc,ra,rc,b9,b11⟩=>[(1,.int .i64 fast),(2,.int .i64 slow),(3,.slice ca ch.length cc),(4,aB8 b4),(9,aB8 b9),(11,aB8 b11),(10,.slice ma ch.length mc)])
  (fun⟨ua,uc,ma,mc,ra,rc,b9,b11⟩=>[.pt b9 (lbC l (.slice ua l.runs.length uc)) 25,.pt b11 (lbC l (.slice ra l.runs.length rc)) 53,.ow (.slice ua l.runs.length uc) 29 3 l.runs.length (rnC l.runs),.ow (.slice ma ch.length mc) 3 1 ch.length (bF ch),.ow (.slice ra l.runs.length rc) 125 3 l.runs.length (rnC l.runs),.pt b4 (lbC l (.slice va l.runs.length vc)) 25]) ?_ ?_
 rotate_left
 ·intro K2 hK2;refine jJ (tE5_cb8a7af) _ [] (Sp.refl _) qI qI ?_;refine cX (σ:=Option Addr×Nat×Option Addr×Nat×Option Addr×Nat×Nat×Nat×Unit) (.nil) (fun⟨ua,uc,ma,mc,ra,rc,b9,b11,()⟩=>[(1,.int .i64 fast),(2,.int .i64 slow),(3,.slice ca ch.length cc),(4,aB8 b4),(9,aB8 b9),(11,aB8 b11),(10,.slice ma ch.length mc)]) (fun⟨ua,uc,ma,mc,ra,rc,b9,b11,()⟩=>[.pt b9 (lbC l (.slice ua l.runs.length uc)) 25,.pt b11 (lbC l (.slice ra l.runs.length rc)) 53,.ow (.slice ua l.runs.length uc) 29 3 l.runs.length (rnC l.runs),.ow (.slice ma ch.length mc) 3 1 ch.length (bF ch),.ow (.slice ra l.runs.length rc) 125 3 l.runs.length (rnC l.runs)]) ?_ (fun hS1_3_5_6_7_10=> ?_)
  ·rintro⟨ua,uc,ma,mc,ra,rc,b9,b11,_⟩;exact iK (hK2 ⟨ua,uc,ma,mc,ra,rc,b9,b11⟩ _ _ ⟨J,J,J,J,J,J,J,trivial⟩ qF)
  refine cX (σ:=Option Addr×Nat×Option Addr×Nat×Option Addr×Nat×Nat×Nat×Unit) (kO) (fun⟨ua,uc,ma,mc,ra,rc,b9,b11,()⟩=>[(1,.int .i64 fast),(2,.int .i64 slow),(3,.slice ca ch.length cc),(4,aB8 b4),(9,aB8 b9),(11,aB8 b11),(34,.agg (lbC l (.slice ua l.runs.length uc)).toArray),(36,.slice ma ch.length mc),(38,.agg (lbC l (.slice ra l.runs.length rc)).toArray)]) (fun⟨ua,uc,ma,mc,ra,rc,b9,b11,()⟩=>[.pt b9 [.int .i64 0,.int .i64 0,.slice none 0 0] 25,.pt b11 [.int .i64 0,.int .i64 0,.slice none 0 0] 53,.ow (.slice ua l.runs.length uc) 29 3 l.runs.length (rnC l.runs),.ow (.slice ma ch.length mc) 3 1 ch.length (bF ch),.ow (.slice ra l.runs.length rc) 125 3 l.runs.length (rnC l.runs)]) ?_ (fun hS1_3_5_6_7=> ?_)
  ·rintro⟨ua,uc,ma,mc,ra,rc,b9,b11,_⟩;refine bR qH fun K1 hK1=> ?_
   (refine iG qE J J J J J qF J ?_;refine aB2 yq ?_;refine iG qE J J J J J qF J ?_;refine aT ?_)
   exact hK1 _ _ (hS1_3_5_6_7_10 ⟨ua,uc,ma,mc,ra,rc,b9,b11,()⟩ _ _ ⟨J,J,J,J,J,J,J,trivial⟩ qF)
  refine cX (σ:=Option Addr×Nat×Option Addr×Nat×Option Addr×Nat×Nat×Unit) (nT) (fun⟨ua,uc,ma,mc,ra,rc,b9,()⟩=>[(1,.int .i64 fast),(2,.int .i64 slow),(3,.slice ca ch.length cc),(4,aB8 b4),(9,aB8 b9),(34,.agg (lbC l (.slice ua l.runs.length uc)).toArray),(36,.slice ma ch.length mc),(38,.agg (lbC l (.slice ra l.runs.length rc)).toArray)]) (fun⟨ua,uc,ma,mc,ra,rc,b9,()⟩=>[.pt b9 [.int .i64 0,.int .i64 0,.slice none 0 0] 25,.ow (.slice ua l.runs.length uc) 29 3 l.runs.length (rnC l.runs),.ow (.slice ma ch.length mc) 3 1 ch.length (bF ch),.ow (.slice ra l.runs.length rc) 125 3 l.runs.length (rnC l.runs)]) ?_ (fun hS1_3_5_6=> ?_)
  ·rintro⟨ua,uc,ma,mc,ra,rc,b9,_⟩;refine bR qH fun K1 hK1=> ?_
   refine bS eP J (fun b11=> ?_);(refine aT ?_);exact hK1 _ _ (hS1_3_5_6_7 ⟨ua,uc,ma,mc,ra,rc,b9,b11,()⟩ _ _ ⟨J,J,J,J,J,J,J,J,J,trivial⟩ qF)
  refine cX (σ:=Option Addr×Nat×Option Addr×Nat×Option Addr×Nat×Nat×Unit) (oH) (fun⟨ua,uc,ma,mc,ra,rc,b11,()⟩=>[(1,.int .i64 fast),(2,.int .i64 slow),(3,.slice ca ch.length cc),(4,aB8 b4),(11,aB8 b11),(34,.agg (lbC l (.slice ua l.runs.length uc)).toArray),(36,.slice ma ch.length mc),(38,.agg (lbC l (.slice ra l.runs.length rc)).toArray)]) (fun⟨ua,uc,ma,mc,ra,rc,b11,()⟩=>[.pt b11 [.int .i64 0,.int .i64 0,.slice none 0 0] 53,.ow (.slice ua l.runs.length uc) 29 3 l.runs.length (rnC l.runs),.ow (.slice ma ch.length mc) 3 1 ch.length (bF ch),.ow (.slice ra l.runs.length rc) 125 3 l.runs.length (rnC l.runs)]) ?_ (fun hS1_3_5_7=> ?_)
  ·rintro⟨ua,uc,ma,mc,ra,rc,b11,_⟩;refine bR qH fun K1 hK1=> ?_
   refine bS eL J (fun b9=> ?_);(refine aT ?_);exact hK1 _ _ (hS1_3_5_6_7 ⟨ua,uc,ma,mc,ra,rc,b9,b11,()⟩ _ _ ⟨J,J,J,J,J,J,J,J,J,trivial⟩ qF)
  refine cX (σ:=Option Addr×Nat×Option Addr×Nat×Nat×Nat×Unit) (kR) (fun⟨ua,uc,ma,mc,b9,b11,()⟩=>[(1,.int .i64 fast),(2,.int .i64 slow),(3,.slice ca ch.length cc),(4,aB8 b4),(9,aB8 b9),(11,aB8 b11),(34,.agg (lbC l (.slice ua l.runs.length uc)).toArray),(36,.slice ma ch.length mc)]) (fun⟨ua,uc,ma,mc,b9,b11,()⟩=>[.pt b9 [.int .i64 0,.int .i64 0,.slice none 0 0] 25,.pt b11 [.int .i64 0,.int .i64 0,.slice none 0 0] 53,.ow (.slice ua l.runs.length uc) 29 3 l.runs.length (rnC l.runs),.ow (.slice ma ch.length mc) 3 1 ch.length (bF ch)]) ?_ (fun hS1_3_6_7=> ?_)
  ·rintro⟨ua,uc,ma,mc,b9,b11,_⟩;refine bR qH fun K1 hK1=> ?_
   (refine bK qE J J J ?_)
   refine cW (β:=Value) qE [] _ M0 J J J J (Sp.refl _) qJ (fun w' hs=>gI w' lo hi l _ (RdE.keep h hs.chg0) qG) ?_;rintro z3 _ rfl;dsimp only[List.cons_append,List.nil_append];refine cT (fun w hs=>hs.slice2 (v:=z3) qF) ?_;rintro⟨ra,rc,rfl⟩;(refine aT ?_);exact hK1 _ _ (hS1_3_5_6_7 ⟨ua,uc,ma,mc,ra,rc,b9,b11,()⟩ _ _ ⟨J,J,J,J,J,J,J,J,J,trivial⟩ qF)
  refine cX (σ:=Option Addr×Nat×Option Addr×Nat×Option Addr×Nat×Unit) (tE5_2bd7652) (fun⟨ua,uc,ma,mc,ra,rc,()⟩=>[(1,.int .i64 fast),(2,.int .i64 slow),(3,.slice ca ch.length cc),(4,aB8 b4),(34,.agg (lbC l (.slice ua l.runs.length uc)).toArray),(36,.slice ma ch.length mc),(38,.agg (lbC l (.slice ra l.runs.length rc)).toArray)]) (fun⟨ua,uc,ma,mc,ra,rc,()⟩=>[.ow (.slice ua l.runs.length uc) 29 3 l.runs.length (rnC l.runs),.ow (.slice ma ch.length mc) 3 1 ch.length (bF ch),.ow (.slice ra l.runs.length rc) 125 3 l.runs.length (rnC l.runs)]) ?_ (fun hS1_3_5=> ?_)
  ·rintro⟨ua,uc,ma,mc,ra,rc,_⟩;refine dC ?_ ?_
   ·refine bR qH fun K1 hK1=> ?_;refine bS eL J (fun b9=> ?_)
    (refine aT ?_)
    exact hK1 _ _ (hS1_3_5_6 ⟨ua,uc,ma,mc,ra,rc,b9,()⟩ _ _ ⟨J,J,J,J,J,J,J,J,trivial⟩ qF)
   ·refine bR qH fun K1 hK1=> ?_;refine bS eP J (fun b11=> ?_)
    (refine aT ?_)
    exact hK1 _ _ (hS1_3_5_7 ⟨ua,uc,ma,mc,ra,rc,b11,()⟩ _ _ ⟨J,J,J,J,J,J,J,J,trivial⟩ qF)
  refine cX (σ:=Option Addr×Nat×Option Addr×Nat×Nat×Unit) (oF) (fun⟨ua,uc,ma,mc,b9,()⟩=>[(1,.int .i64 fast),(2,.int .i64 slow),(3,.slice ca ch.length cc),(4,aB8 b4),(9,aB8 b9),(34,.agg (lbC l (.slice ua l.runs.length uc)).toArray),(36,.slice ma ch.length mc)]) (fun⟨ua,uc,ma,mc,b9,()⟩=>[.pt b9 [.int .i64 0,.int .i64 0,.slice none 0 0] 25,.ow (.slice ua l.runs.length uc) 29 3 l.runs.length (rnC l.runs),.ow (.slice ma ch.length mc) 3 1 ch.length (bF ch)]) ?_ (fun hS1_3_6=> ?_)
  ·rintro⟨ua,uc,ma,mc,b9,_⟩;refine dC ?_ ?_
   ·refine bR qH fun K1 hK1=> ?_;(refine bK qE J J J ?_)
    refine cW (β:=Value) qE [] _ M0 J J J J (Sp.refl _) qJ (fun w' hs=>gI w' lo hi l _ (RdE.keep h hs.chg0) qG) ?_;rintro z3 _ rfl;dsimp only[List.cons_append,List.nil_append];refine cT (fun w hs=>hs.slice2 (v:=z3) qF) ?_;rintro⟨ra,rc,rfl⟩;(refine aT ?_);exact hK1 _ _ (hS1_3_5_6 ⟨ua,uc,ma,mc,ra,rc,b9,()⟩ _ _ ⟨J,J,J,J,J,J,J,J,trivial⟩ qF)
   ·refine bR qH fun K1 hK1=> ?_;refine bS eP J (fun b11=> ?_)
    (refine aT ?_)
    exact hK1 _ _ (hS1_3_6_7 ⟨ua,uc,ma,mc,b9,b11,()⟩ _ _ ⟨J,J,J,J,J,J,J,J,trivial⟩ qF)
  refine cX (σ:=Option Addr×Nat×Option Addr×Nat×Nat×Unit) (oD) (fun⟨ua,uc,ma,mc,b11,()⟩=>[(1,.int .i64 fast),(2,.int .i64 slow),(3,.slice ca ch.length cc),(4,aB8 b4),(11,aB8 b11),(34,.agg (lbC l (.slice ua l.runs.length uc)).toArray),(36,.slice ma ch.length mc)]) (fun⟨ua,uc,ma,mc,b11,()⟩=>[.pt b11 [.int .i64 0,.int .i64 0,.slice none 0 0] 53,.ow (.slice ua l.runs.length uc) 29 3 l.runs.length (rnC l.runs),.ow (.slice ma ch.length mc) 3 1 ch.length (bF ch)]) ?_ (fun hS1_3_7=> ?_)
  ·rintro⟨ua,uc,ma,mc,b11,_⟩;refine dC ?_ ?_
   ·refine bR qH fun K1 hK1=> ?_;(refine bK qE J J J ?_)
    refine cW (β:=Value) qE [] _ M0 J J J J (Sp.refl _) qJ (fun w' hs=>gI w' lo hi l _ (RdE.keep h hs.chg0) qG) ?_;rintro z3 _ rfl;dsimp only[List.cons_append,List.nil_append];refine cT (fun w hs=>hs.slice2 (v:=z3) qF) ?_;rintro⟨ra,rc,rfl⟩;(refine aT ?_);exact hK1 _ _ (hS1_3_5_7 ⟨ua,uc,ma,mc,ra,rc,b11,()⟩ _ _ ⟨J,J,J,J,J,J,J,J,trivial⟩ qF)
   ·refine bR qH fun K1 hK1=> ?_;refine bS eL J (fun b9=> ?_)
    (refine aT ?_)
    exact hK1 _ _ (hS1_3_6_7 ⟨ua,uc,ma,mc,b9,b11,()⟩ _ _ ⟨J,J,J,J,J,J,J,J,trivial⟩ qF)
  refine cX (σ:=Option Addr×Nat×Nat×Nat×Unit) (kQ) (fun⟨ua,uc,b9,b11,()⟩=>[(1,.int .i64 fast),(2,.int .i64 slow),(3,.slice ca ch.length cc),(4,aB8 b4),(9,aB8 b9),(11,aB8 b11),(34,.agg (lbC l (.slice ua l.runs.length uc)).toArray)]) (fun⟨ua,uc,b9,b11,()⟩=>[.pt b9 [.int .i64 0,.int .i64 0,.slice none 0 0] 25,.pt b11 [.int .i64 0,.int .i64 0,.slice none 0 0] 53,.ow (.slice ua l.runs.length uc) 29 3 l.runs.length (rnC l.runs)]) ?_ (fun hS1_6_7=> ?_)
  ·rintro⟨ua,uc,b9,b11,_⟩;refine bR qH fun K1 hK1=> ?_
   (refine aB2 yq ?_)
   refine cW (β:=Value) qE [] _ M0 J J J J (Sp.refl _) qJ (fun w' hs=>iB w' lo2 hi2 _ ch (RdE.keep h2 hs.chg0) qG) ?_;rintro _ z2 rfl;dsimp only[List.cons_append,List.nil_append];refine cT (fun w hs=>hs.slice2 (v:=z2) qF) ?_;rintro⟨ma,mc,rfl⟩;(refine aT ?_);exact hK1 _ _ (hS1_3_6_7 ⟨ua,uc,ma,mc,b9,b11,()⟩ _ _ ⟨J,J,J,J,J,J,J,J,trivial⟩ qF)
  refine cX (σ:=Option Addr×Nat×Option Addr×Nat×Unit) (tE5_c7f8ae7) (fun⟨ua,uc,ma,mc,()⟩=>[(1,.int .i64 fast),(2,.int .i64 slow),(3,.slice ca ch.length cc),(4,aB8 b4),(34,.agg (lbC l (.slice ua l.runs.length uc)).toArray),(36,.slice ma ch.length mc)]) (fun⟨ua,uc,ma,mc,()⟩=>[.ow (.slice ua l.runs.length uc) 29 3 l.runs.length (rnC l.runs),.ow (.slice ma ch.length mc) 3 1 ch.length (bF ch)]) ?_ (fun hS1_3=> ?_)
  ·rintro⟨ua,uc,ma,mc,_⟩;refine dC ?_ (dC ?_ ?_)
   ·refine bR qH fun K1 hK1=> ?_;(refine bK qE J J J ?_)
    refine cW (β:=Value) qE [] _ M0 J J J J (Sp.refl _) qJ (fun w' hs=>gI w' lo hi l _ (RdE.keep h hs.chg0) qG) ?_;rintro z3 _ rfl;dsimp only[List.cons_append,List.nil_append];refine cT (fun w hs=>hs.slice2 (v:=z3) qF) ?_;rintro⟨ra,rc,rfl⟩;(refine aT ?_);exact hK1 _ _ (hS1_3_5 ⟨ua,uc,ma,mc,ra,rc,()⟩ _ _ ⟨J,J,J,J,J,J,J,trivial⟩ qF)
   ·refine bR qH fun K1 hK1=> ?_;refine bS eL J (fun b9=> ?_)
    (refine aT ?_)
    exact hK1 _ _ (hS1_3_6 ⟨ua,uc,ma,mc,b9,()⟩ _ _ ⟨J,J,J,J,J,J,J,trivial⟩ qF)
   ·refine bR qH fun K1 hK1=> ?_;refine bS eP J (fun b11=> ?_)
    (refine aT ?_)
    exact hK1 _ _ (hS1_3_7 ⟨ua,uc,ma,mc,b11,()⟩ _ _ ⟨J,J,J,J,J,J,J,trivial⟩ qF)
  refine cX (σ:=Option Addr×Nat×Nat×Unit) (oE) (fun⟨ua,uc,b9,()⟩=>[(1,.int .i64 fast),(2,.int .i64 slow),(3,.slice ca ch.length cc),(4,aB8 b4),(9,aB8 b9),(34,.agg (lbC l (.slice ua l.runs.length uc)).toArray)]) (fun⟨ua,uc,b9,()⟩=>[.pt b9 [.int .i64 0,.int .i64 0,.slice none 0 0] 25,.ow (.slice ua l.runs.length uc) 29 3 l.runs.length (rnC l.runs)]) ?_ (fun hS1_6=> ?_)
  ·rintro⟨ua,uc,b9,_⟩;refine dC ?_ ?_
   ·refine bR qH fun K1 hK1=> ?_;(refine aB2 yq ?_)
    refine cW (β:=Value) qE [] _ M0 J J J J (Sp.refl _) qJ (fun w' hs=>iB w' lo2 hi2 _ ch (RdE.keep h2 hs.chg0) qG) ?_;rintro _ z2 rfl;dsimp only[List.cons_append,List.nil_append];refine cT (fun w hs=>hs.slice2 (v:=z2) qF) ?_;rintro⟨ma,mc,rfl⟩;(refine aT ?_);exact hK1 _ _ (hS1_3_6 ⟨ua,uc,ma,mc,b9,()⟩ _ _ ⟨J,J,J,J,J,J,J,trivial⟩ qF)
   ·refine bR qH fun K1 hK1=> ?_;refine bS eP J (fun b11=> ?_)
    (refine aT ?_)
    exact hK1 _ _ (hS1_6_7 ⟨ua,uc,b9,b11,()⟩ _ _ ⟨J,J,J,J,J,J,J,trivial⟩ qF)
  refine cX (σ:=Option Addr×Nat×Nat×Unit) (nW) (fun⟨ua,uc,b11,()⟩=>[(1,.int .i64 fast),(2,.int .i64 slow),(3,.slice ca ch.length cc),(4,aB8 b4),(11,aB8 b11),(34,.agg (lbC l (.slice ua l.runs.length uc)).toArray)]) (fun⟨ua,uc,b11,()⟩=>[.pt b11 [.int .i64 0,.int .i64 0,.slice none 0 0] 53,.ow (.slice ua l.runs.length uc) 29 3 l.runs.length (rnC l.runs)]) ?_ (fun hS1_7=> ?_)
  ·rintro⟨ua,uc,b11,_⟩;refine dC ?_ ?_
   ·refine bR qH fun K1 hK1=> ?_;(refine aB2 yq ?_)
    refine cW (β:=Value) qE [] _ M0 J J J J (Sp.refl _) qJ (fun w' hs=>iB w' lo2 hi2 _ ch (RdE.keep h2 hs.chg0) qG) ?_;rintro _ z2 rfl;dsimp only[List.cons_append,List.nil_append];refine cT (fun w hs=>hs.slice2 (v:=z2) qF) ?_;rintro⟨ma,mc,rfl⟩;(refine aT ?_);exact hK1 _ _ (hS1_3_7 ⟨ua,uc,ma,mc,b11,()⟩ _ _ ⟨J,J,J,J,J,J,J,trivial⟩ qF)
   ·refine bR qH fun K1 hK1=> ?_;refine bS eL J (fun b9=> ?_)
    (refine aT ?_)
    exact hK1 _ _ (hS1_6_7 ⟨ua,uc,b9,b11,()⟩ _ _ ⟨J,J,J,J,J,J,J,trivial⟩ qF)
  refine cX (σ:=Nat×Nat×Unit) (oO) (fun⟨b9,b11,()⟩=>[(1,.int .i64 fast),(2,.int .i64 slow),(3,.slice ca ch.length cc),(4,aB8 b4),(9,aB8 b9),(11,aB8 b11)]) (fun⟨b9,b11,()⟩=>[.pt b9 [.int .i64 0,.int .i64 0,.slice none 0 0] 25,.pt b11 [.int .i64 0,.int .i64 0,.slice none 0 0] 53]) ?_ (fun hS6_7=> ?_)
  ·rintro⟨b9,b11,_⟩;refine bR qH fun K1 hK1=> ?_
   (refine bK qE J J J ?_)
   refine cW (β:=Value) qE [] _ M0 J J J J (Sp.refl _) qJ (fun w' hs=>eM w' lo hi l _ (RdE.keep h hs.chg0) qG) ?_;rintro z1 _ rfl;dsimp only[List.cons_append,List.nil_append];refine cT (fun w hs=>hs.slice2 (v:=z1) qF) ?_;rintro⟨ua,uc,rfl⟩;(refine aT ?_);exact hK1 _ _ (hS1_6_7 ⟨ua,uc,b9,b11,()⟩ _ _ ⟨J,J,J,J,J,J,J,trivial⟩ qF)
  refine cX (σ:=Option Addr×Nat×Unit) (tE5_ed18e2b) (fun⟨ua,uc,()⟩=>[(1,.int .i64 fast),(2,.int .i64 slow),(3,.slice ca ch.length cc),(4,aB8 b4),(34,.agg (lbC l (.slice ua l.runs.length uc)).toArray)]) (fun⟨ua,uc,()⟩=>[.ow (.slice ua l.runs.length uc) 29 3 l.runs.length (rnC l.runs)]) ?_ (fun hS1=> ?_)
  ·rintro⟨ua,uc,_⟩;refine dC ?_ (dC ?_ ?_)
   ·refine bR qH fun K1 hK1=> ?_;(refine aB2 yq ?_)
    refine cW (β:=Value) qE [] _ M0 J J J J (Sp.refl _) qJ (fun w' hs=>iB w' lo2 hi2 _ ch (RdE.keep h2 hs.chg0) qG) ?_;rintro _ z2 rfl;dsimp only[List.cons_append,List.nil_append];refine cT (fun w hs=>hs.slice2 (v:=z2) qF) ?_;rintro⟨ma,mc,rfl⟩;(refine aT ?_);exact hK1 _ _ (hS1_3 ⟨ua,uc,ma,mc,()⟩ _ _ ⟨J,J,J,J,J,J,trivial⟩ qF)
   ·refine bR qH fun K1 hK1=> ?_;refine bS eL J (fun b9=> ?_)
    (refine aT ?_)
    exact hK1 _ _ (hS1_6 ⟨ua,uc,b9,()⟩ _ _ ⟨J,J,J,J,J,J,trivial⟩ qF)
   ·refine bR qH fun K1 hK1=> ?_;refine bS eP J (fun b11=> ?_)
    (refine aT ?_)
    exact hK1 _ _ (hS1_7 ⟨ua,uc,b11,()⟩ _ _ ⟨J,J,J,J,J,J,trivial⟩ qF)
  refine cX (σ:=Nat×Unit) (tE5_bb7b8ba) (fun⟨b9,()⟩=>[(1,.int .i64 fast),(2,.int .i64 slow),(3,.slice ca ch.length cc),(4,aB8 b4),(9,aB8 b9)]) (fun⟨b9,()⟩=>[.pt b9 [.int .i64 0,.int .i64 0,.slice none 0 0] 25]) ?_ (fun hS6=> ?_)
  ·rintro⟨b9,_⟩;refine dC ?_ ?_
   ·refine bR qH fun K1 hK1=> ?_;(refine bK qE J J J ?_)
    refine cW (β:=Value) qE [] _ M0 J J J J (Sp.refl _) qJ (fun w' hs=>eM w' lo hi l _ (RdE.keep h hs.chg0) qG) ?_;rintro z1 _ rfl;dsimp only[List.cons_append,List.nil_append];refine cT (fun w hs=>hs.slice2 (v:=z1) qF) ?_;rintro⟨ua,uc,rfl⟩;(refine aT ?_);exact hK1 _ _ (hS1_6 ⟨ua,uc,b9,()⟩ _ _ ⟨J,J,J,J,J,J,trivial⟩ qF)
   ·refine bR qH fun K1 hK1=> ?_;refine bS eP J (fun b11=> ?_)
    (refine aT ?_)
    exact hK1 _ _ (hS6_7 ⟨b9,b11,()⟩ _ _ ⟨J,J,J,J,J,J,trivial⟩ qF)
  refine cX (σ:=Nat×Unit) (tE5_02d9108) (fun⟨b11,()⟩=>[(1,.int .i64 fast),(2,.int .i64 slow),(3,.slice ca ch.length cc),(4,aB8 b4),(11,aB8 b11)]) (fun⟨b11,()⟩=>[.pt b11 [.int .i64 0,.int .i64 0,.slice none 0 0] 53]) ?_ (fun hS7=> ?_)
  ·rintro⟨b11,_⟩;refine dC ?_ ?_
   ·refine bR qH fun K1 hK1=> ?_;(refine bK qE J J J ?_)
    refine cW (β:=Value) qE [] _ M0 J J J J (Sp.refl _) qJ (fun w' hs=>eM w' lo hi l _ (RdE.keep h hs.chg0) qG) ?_;rintro z1 _ rfl;dsimp only[List.cons_append,List.nil_append];refine cT (fun w hs=>hs.slice2 (v:=z1) qF) ?_;rintro⟨ua,uc,rfl⟩;(refine aT ?_);exact hK1 _ _ (hS1_7 ⟨ua,uc,b11,()⟩ _ _ ⟨J,J,J,J,J,J,trivial⟩ qF)
   ·refine bR qH fun K1 hK1=> ?_;refine bS eL J (fun b9=> ?_)
    (refine aT ?_)
    exact hK1 _ _ (hS6_7 ⟨b9,b11,()⟩ _ _ ⟨J,J,J,J,J,J,trivial⟩ qF)
  refine dC ?_ (dC ?_ ?_)
  ·refine bR qH fun K1 hK1=> ?_;(refine bK qE J J J ?_)
   refine cW (β:=Value) qE [] _ M0 J J J J (Sp.refl _) qJ (fun w' hs=>eM w' lo hi l _ (RdE.keep h hs.chg0) qG) ?_;rintro z1 _ rfl;dsimp only[List.cons_append,List.nil_append];refine cT (fun w hs=>hs.slice2 (v:=z1) qF) ?_;rintro⟨ua,uc,rfl⟩;(refine aT ?_);exact hK1 _ _ (hS1 ⟨ua,uc,()⟩ _ _ ⟨J,J,J,J,J,trivial⟩ qF)
  ·refine bR qH fun K1 hK1=> ?_;refine bS eL J (fun b9=> ?_)
   (refine aT ?_)
   exact hK1 _ _ (hS6 ⟨b9,()⟩ _ _ ⟨J,J,J,J,J,trivial⟩ qF)
  ·refine bR qH fun K1 hK1=> ?_;refine bS eP J (fun b11=> ?_)
   (refine aT ?_)
   exact hK1 _ _ (hS7 ⟨b11,()⟩ _ _ ⟨J,J,J,J,J,trivial⟩ qF)
 rintro⟨ua,uc,ma,mc,ra,rc,b9,b11⟩;dsimp only;(refine aD (aD ?_));refine bY _ [] (Sp.refl _) qI qI ?_;(refine bK qE J J J ?_);refine cR (val:= .int .i64 (cG l)) qE J J J J (fun w hs=> ?_) ?_;exact check_ca w 0 w.heap.size l _ (dB (t:=29) (hs.mem (c:= .ow (.slice ua l.runs.length uc) 29 3 l.runs.length (rnC l.runs)) qF) J) qG;(refine bK qE J J J ?_);refine cR (val:= .int .i64 (cG l)) qE J J J J (fun w hs=> ?_) ?_;exact lX w 0 w.heap.size l _ (dB (t:=125) (hs.mem (c:= .ow (.slice ra l.runs.length rc) 125 3 l.runs.length (rnC l.runs)) qF) J) qG;(refine qf_neqF qE J J J qG (aT (aF J (aJ (aD (aB ?_)))));refine aM qE J J J ?_);refine bB (β:=Value) qE [] _ M0 J J J J (Sp.refl _) qJ (fun w' hs=>fasterA_ca w' 0 w'.heap.size l _ (dB (t:=29) (hs.mem (c:= .ow (.slice ua l.runs.length uc) 29 3 l.runs.length (rnC l.runs)) qF) J) qG) ?_;rintro z12 _ rfl;dsimp only[List.cons_append,List.nil_append];refine bW (fun w hs=>hs.slice2 (v:=z12) qF) ?_;rintro⟨fp,fc,rfl⟩;(refine aA1 vq (aA7 yq (aA7 yq (aA1 vq (aA1 vq (aE (aD (aB ?_)))))));refine aM qE J J J ?_);refine aI (val:= .int .i64 (bQ l)) qE J J J J (fun w hs=> ?_) ?_;exact jY w 0 w.heap.size l _ (dB (t:=125) (hs.mem (c:= .ow (.slice ra l.runs.length rc) 125 3 l.runs.length (rnC l.runs)) qF) J) qG;(refine aA1 vq (aE (aD (aB (aA1 vq (aE (aD (aD (aB (aA1 vq (aA1 vq (aE ?_))))))))))));refine kL (σ:=Value) (fun u=>[(1,.int .i64 fast),(2,.int .i64 slow),(3,.slice ca ch.length cc),(4,aB8 b4),(9,aB8 b9),(11,aB8 b11),(10,.slice ma ch.length mc),(12,.slice fp (lI l).length fc),(13,.int .i64 (bQ l)),(14,.int .i64 (bQ l)),(15,u)]) (fun u=>[.ow u 62 2 (lI l).length (spC (lI l)),.ow (.slice fp (lI l).length fc) 62 2 (lI l).length (spC (lI l)),.pt b9 (lbC l (.slice ua l.runs.length uc)) 25,.pt b11 (lbC l (.slice ra l.runs.length rc)) 53,.ow (.slice ua l.runs.length uc) 29 3 l.runs.length (rnC l.runs),.ow (.slice ma ch.length mc) 3 1 ch.length (bF ch),.ow (.slice ra l.runs.length rc) 125 3 l.runs.length (rnC l.runs),.pt b4 (lbC l (.slice va l.runs.length vc)) 25]) ?_ ?_;rotate_left
 ·intro K2 hK2;refine cP J (fun hc=> ?_) (fun hc=> ?_)
  ·have h0:bQ l=0:=hc;clear hc;have hl:=(dE.1 h0).1;obtain⟨n,en,hn',h8,h1⟩:=hl.nat;have efa:lI l=fasL l.ord n:=by rw[←hn'];exact if_pos h0
   (refine aD (aB (aA1 vq ?_));refine aL qE J J J ?_;refine aA1 vq (aE (aK ?_)))
   rw[en];refine cQ (H':=[.ow (.slice none 0 0) 62 2 (fasI l.ord n 0 0).length (spC (fasI l.ord n 0 0)),.ow (.slice fp (lI l).length fc) 62 2 (lI l).length (spC (lI l)),.pt b9 (lbC l (.slice ua l.runs.length uc)) 25,.pt b11 (lbC l (.slice ra l.runs.length rc)) 53,.ow (.slice ua l.runs.length uc) 29 3 l.runs.length (rnC l.runs),.ow (.slice ma ch.length mc) 3 1 ch.length (bF ch),.ow (.slice ra l.runs.length rc) 125 3 l.runs.length (rnC l.runs),.pt b4 (lbC l (.slice va l.runs.length vc)) 25]) (fun w' hs=>Sat.ownil hs _ _) ?_;refine bD (σ:=Nat×Value) (fun s=>s.1≤n) (fun s=>n-s.1) (fun s=>[(1,.int .i64 fast),(2,.int .i64 slow),(3,.slice ca ch.length cc),(4,aB8 b4),(9,aB8 b9),(11,aB8 b11),(10,.slice ma ch.length mc),(12,.slice fp (lI l).length fc),(13,.int .i64 (bQ l)),(14,.int .i64 (bQ l)),(15,s.2),(54,.int .i64 n),(55,.int .i64 s.1)]) (fun s=>[.ow s.2 62 2 (fasI l.ord n s.1 0).length (spC (fasI l.ord n s.1 0)),.ow (.slice fp (lI l).length fc) 62 2 (lI l).length (spC (lI l)),.pt b9 (lbC l (.slice ua l.runs.length uc)) 25,.pt b11 (lbC l (.slice ra l.runs.length rc)) 53,.ow (.slice ua l.runs.length uc) 29 3 l.runs.length (rnC l.runs),.ow (.slice ma ch.length mc) 3 1 ch.length (bF ch),.ow (.slice ra l.runs.length rc) 125 3 l.runs.length (rnC l.runs),.pt b4 (lbC l (.slice va l.runs.length vc)) 25]) (0,.slice none 0 0) (by simp) ⟨J,J,J,J,J,J,J,J,J,J,J,J,J,trivial⟩ (Sp.refl _) ?_;rintro⟨x,v15⟩ hx K hK;dsimp only at hx hK ⊢;(refine aD (aB (aA1 vq (aE (aD ?_)))));refine cP J (fun hc=> ?_) (fun hc=> ?_)
   ·have hx2:x<n:=by omega
    clear hc;(refine aJ (aD (aK (aD (aB (aA1 vq (aA1 vq (aE (aD (aB (aA1 vq ?_))))))))));refine aL qE J J J ?_;refine aA1 vq (aE (aK ?_)));rw[en];refine bD (σ:=Nat×Value) (fun s=>s.1≤n) (fun s=>n-s.1) (fun s=>[(1,.int .i64 fast),(2,.int .i64 slow),(3,.slice ca ch.length cc),(4,aB8 b4),(9,aB8 b9),(11,aB8 b11),(10,.slice ma ch.length mc),(12,.slice fp (lI l).length fc),(13,.int .i64 (bQ l)),(14,.int .i64 (bQ l)),(15,s.2),(54,.int .i64 n),(55,.int .i64 x),(16,.int .i64 x),(59,.int .i64 n),(60,.int .i64 s.1)]) (fun s=>[.ow s.2 62 2 (fasI l.ord n x s.1).length (spC (fasI l.ord n x s.1)),.ow (.slice fp (lI l).length fc) 62 2 (lI l).length (spC (lI l)),.pt b9 (lbC l (.slice ua l.runs.length uc)) 25,.pt b11 (lbC l (.slice ra l.runs.length rc)) 53,.ow (.slice ua l.runs.length uc) 29 3 l.runs.length (rnC l.runs),.ow (.slice ma ch.length mc) 3 1 ch.length (bF ch),.ow (.slice ra l.runs.length rc) 125 3 l.runs.length (rnC l.runs),.pt b4 (lbC l (.slice va l.runs.length vc)) 25]) (0,v15) (by simp) ⟨J,J,J,J,J,J,J,J,J,J,J,J,J,J,J,J,trivial⟩ (Sp.refl _) ?_;rintro⟨y,v15⟩ hy K3 hK3;dsimp only at hy hK3 ⊢;(refine aD (aB (aA1 vq (aE (aD ?_)))));refine cP J (fun hc=> ?_) (fun hc=> ?_)
    ·have hy2:y<n:=by omega
     clear hc;(refine aJ (aD (aK (aD (aB (aA1 vq (aA1 vq (aE (aD (aB ?_)))))))));refine aM qE J J J ?_;refine aA1 vq (aA1 vq ?_));refine aI (val:= .bool (fa l.ord x y)) qE J J J J (fun w hs=> ?_) ?_;exact rfast_ca w 0 w.heap.size l _ (dB (t:=125) (hs.mem (c:= .ow (.slice ra l.runs.length rc) 125 3 l.runs.length (rnC l.runs)) qF) J) hl x y qG qG;cases hf:fa l.ord x y with
     | false=>
      (refine aE (aF J (aJ (aW (aB (aA4 xq qG qG (aA1 vq (aE ?_))))))))
      exact hK3 (y+1,v15) _ _ (by dsimp only;omega) (by dsimp only;omega) ⟨J,J,J,J,J,J,J,J,J,J,J,J,J,J,J,J,trivial⟩ (by dsimp only;rw[fasI_no hf];repeat constructor)
     | true=>
      have hfl:=fasI_len (o:=l.ord) (n:=n) x y hy;have hxn:x*n≤8*8:=Nat.mul_le_mul qG h8;(refine aE (aH J (aB ?_));(iterate 3 refine aA1 vq ?_));refine dM #[.int .i64 x,.int .i64 y] J qI J ?_;refine cI 62 [.int .i64 x,.int .i64 y] J qI J (fun bn=> ?_);refine bU (q:=1) (news:=[.int .i64 x,.int .i64 y]) slP J J J (fun v'=>by repeat constructor) (fun w' hs=>⟨_,_,Blk.rdN (hs.blk (b:=bn) qF) J⟩) (by simp[dA]) qG qG (fun u'=> ?_);(refine aA1 vq (aE (aW (aB (aA4 xq qG qG (aA1 vq (aE ?_)))))));exact hK3 (y+1,u') _ _ (by dsimp only;omega) (by dsimp only;omega) ⟨J,J,J,J,J,J,J,J,J,J,J,J,J,J,J,J,trivial⟩ (by dsimp only;rw[fasI_yes hf,List.length_append,List.length_singleton,spC_snoc];repeat constructor)
    ·obtain rfl:y=n:=by omega
     (refine aZ _ J (aW (aB (aA4 xq qG qG (aA1 vq (aE ?_))))))
     exact hK (x+1,v15) _ _ (by dsimp only;omega) (by dsimp only;omega) ⟨J,J,J,J,J,J,J,J,J,J,J,J,J,trivial⟩ (by dsimp only;rw[←fasI_next];repeat constructor)
   ·obtain rfl:x=n:=by omega
    (refine aZ _ J ?_)
    exact hK2 v15 _ _ ⟨J,J,J,J,J,J,J,J,J,J,J,trivial⟩ (by rw[efa,←fasI_all];repeat constructor)
  ·have efa:lI l=[]:=if_neg hc;(refine aJ ?_);refine cQ (H':=[.ow (.slice none 0 0) 62 2 (lI l).length (spC (lI l)),.ow (.slice fp (lI l).length fc) 62 2 (lI l).length (spC (lI l)),.pt b9 (lbC l (.slice ua l.runs.length uc)) 25,.pt b11 (lbC l (.slice ra l.runs.length rc)) 53,.ow (.slice ua l.runs.length uc) 29 3 l.runs.length (rnC l.runs),.ow (.slice ma ch.length mc) 3 1 ch.length (bF ch),.ow (.slice ra l.runs.length rc) 125 3 l.runs.length (rnC l.runs),.pt b4 (lbC l (.slice va l.runs.length vc)) 25]) (fun w' hs=>by rw[efa] at hs ⊢;exact Sat.ownil hs _ _) ?_;exact hK2 (.slice none 0 0) _ _ ⟨J,J,J,J,J,J,J,J,J,J,J,trivial⟩ (Sp.refl _)
 intro v15;have hfl:=fasA_len l;(refine aD (aD (aB (aA1 vq (aA1 vq (aB1 yq qG (aA1 vq (aC J (aA1 vq (aC J (aA1 vq (aC J ?_))))))))))));refine aI (val:= .bool true) qE J J J J (fun w hs=> ?_) ?_;exact eqP_ca w 0 w.heap.size 0 w.heap.size _ _ (lI l) (jG (t:=62) (hs.mem (c:= .ow (.slice fp (lI l).length fc) 62 2 (lI l).length (spC (lI l))) qF) J) (jG (t:=62) (hs.mem (c:= .ow v15 62 2 (lI l).length (spC (lI l))) qF) J) qG;(refine aC J (aA1 vq (aA1 vq (aE (aF J (aJ (aD (aB ?_)))))));refine aM qE J J J ?_;(iterate 3 refine aA1 vq ?_));refine aI (val:= .tuple #[.bool (chainV l fast slow ch).1,.int .i64 (chainV l fast slow ch).2]) qE J J J J (fun w hs=> ?_) ?_;exact pC w 0 w.heap.size 0 w.heap.size l _ fast slow _ ch (dB (t:=29) (hs.mem (c:= .ow (.slice ua l.runs.length uc) 29 3 l.runs.length (rnC l.runs)) qF) J) qG (hs.rdI (v:= .slice ma ch.length mc) (l:=ch) (t:=3) (n:=ch.length) qF J) qG;(refine aA1 vq (aA7 yq (aA7 yq (aA1 vq (aA1 vq (aE (aD (aB ?_)))))));refine aM qE J J J ?_;(iterate 3 refine aA1 vq ?_));refine aI (val:= .tuple #[.bool (chainV l fast slow ch).1,.int .i64 (chainV l fast slow ch).2]) qE J J J J (fun w hs=> ?_) ?_;exact rchain_ca w 0 w.heap.size lo2 hi2 l _ fast slow _ ch (dB (t:=125) (hs.mem (c:= .ow (.slice ra l.runs.length rc) 125 3 l.runs.length (rnC l.runs)) qF) J) qG (RdE.keep h2 hs.chg0) qG;(refine aA1 vq (aA7 yq (aA7 yq (aA1 vq (aA1 vq (aE (aD (aD (aB (aA1 vq (aA1 vq ?_)))))))))));refine ql_neb qI J J J ?_;rw[beq_self_eq_true];(refine aA1 vq (aC J (aA1 vq (aC J (aA1 vq (aC J (aB1 yq qG (aA1 vq (aE (aF J (aJ (aD ?_)))))))))));refine aB ?_;refine aM qE J J J ?_;refine aA1 vq (aA1 vq ?_));refine bB (β:=Value×List Int×Int) qE [] _ M0 J J J J (Sp.refl _) qJ (fun w' hs=>chain0_ca w' 0 w'.heap.size l _ fast slow (dB (t:=29) (hs.mem (c:= .ow (.slice ua l.runs.length uc) 29 3 l.runs.length (rnC l.runs)) qF) J) qG) ?_;rintro⟨v20,c2,e2⟩ _ ⟨rfl,hR⟩;dsimp only[List.cons_append,List.nil_append] at hR ⊢;refine bW (fun w hs=>hs.slice2 (v:=v20) qF) ?_;rintro⟨cp2,cq2,rfl⟩;(refine aA1 vq (aA7 yq (aA7 yq (aA1 vq (aA1 vq (aE (aD (aB ?_)))))));refine aM qE J J J ?_;refine aA1 vq (aA1 vq ?_));refine aI (val:= .int .i64 (nF l fast slow)) qE J J J J (fun w hs=> ?_) ?_;exact rtwo_ca w 0 w.heap.size l _ fast slow (dB (t:=125) (hs.mem (c:= .ow (.slice ra l.runs.length rc) 125 3 l.runs.length (rnC l.runs)) qF) J) qG;rcases hR with⟨ht,rfl,rfl⟩|⟨ht,hno,rfl,rfl⟩|⟨ht,hsh,rfl⟩
 ·dsimp only[List.length_nil];(refine aA1 vq (aE (aD (aD (aB (aA1 vq (aA9 yq qG (aA1 vq ?_)))))));(iterate 5 refine aA3 zq ?_);refine aA1 vq (aE (aF J (aJ (aD (aD (aB (aA1 vq (aA1 vq (aB1 yq qG (aA1 vq (aC J ?_)))))))))));refine aA1 vq (aC J (aB0 yq qG (aC J (aA1 vq (aC J (aA1 vq (aC J (aA1 vq (aC J (aB3 yq qG (aC J ?_)))))))))));refine aA1 vq (aA1 vq (aE (aF J (aJ (aD (aD (aB (aA1 vq (aA9 yq qG (aE (aF J ?_)))))))))));refine aJ (aD (aB ?_));(iterate 2 refine aM qE J J J ?_));refine aI (val:= .bool true) qE J J J J (fun w hs=> ?_) ?_;exact iD w 0 w.heap.size lo hi l _ _ (dB (t:=29) (hs.mem (c:= .ow (.slice ua l.runs.length uc) 29 3 l.runs.length (rnC l.runs)) qF) J) (RdE.keep h hs.chg0) qG;(refine aA1 vq (aC J (aA1 vq (aC J (aA1 vq (aC J ?_))))));refine aI (val:= .bool true) qE J J J J (fun w hs=> ?_) ?_;exact nL w 0 w.heap.size lo2 hi2 _ _ ch (hs.rdI (v:= .slice ma ch.length mc) (l:=ch) (t:=3) (n:=ch.length) qF J) (RdE.keep h2 hs.chg0) qG;(refine aA1 vq (aA1 vq (aC J ?_)));refine aI (val:= .bool true) qE J J J J (fun w hs=> ?_) ?_;exact cZ w;(refine aA1 vq (aA1 vq (aE (aQ ?_))));refine aA2 wq qF fun w hs=> ?_
  exact⟨J,hs.chg0⟩
 ·obtain⟨hl,ha,hb⟩:=mI.1 ht;have a1:=bX.1 ha;have b1:=bX.1 hb;have s0:=hl.s0;rw[ht];dsimp only[List.length_nil];(refine aA1 vq (aE (aD (aD (aB (aA1 vq (aA8 yq qG (aA1 vq (aC J ?_))))))));refine aM qE J J J ?_;refine aC J (aA1 vq (aC J (aA1 vq (aC J ?_)))));refine bB (β:=Int) qE [] _ M0 J J J J (Sp.refl _) qJ (fun w' hs=>by have:=rlength_ca w' 0 w'.heap.size l _ (dB (t:=125) (hs.mem (c:= .ow (.slice ra l.runs.length rc) 125 3 l.runs.length (rnC l.runs)) qF) J) hl fast.toNat slow.toNat (by unfold Lb.n;omega) (by unfold Lb.n;omega);rw[Int.toNat_of_nonneg a1.1,Int.toNat_of_nonneg b1.1] at this;exact this) ?_;rintro z _ ⟨rfl,hz⟩;obtain rfl:=noCh_len hno hz;(refine aC J (aA8 yq qG (aA1 vq (aE (aH J (aB (aA1 vq (aE (aD (aD (aB (aA1 vq ?_)))))))))));refine aA1 vq (aB1 yq qG (aA1 vq (aC J (aA1 vq (aC J (aB0 yq qG (aC J (aA1 vq (aC J (aA1 vq (aC J ?_)))))))))));refine aA1 vq (aC J (aB3 yq qG (aC J (aA1 vq (aA1 vq (aE (aF J (aJ (aD (aD (aB ?_)))))))))));refine aA1 vq (aA9 yq qG (aE (aF J (aJ (aD (aB ?_))))));(iterate 2 refine aM qE J J J ?_));refine aI (val:= .bool true) qE J J J J (fun w hs=> ?_) ?_;exact iD w 0 w.heap.size lo hi l _ _ (dB (t:=29) (hs.mem (c:= .ow (.slice ua l.runs.length uc) 29 3 l.runs.length (rnC l.runs)) qF) J) (RdE.keep h hs.chg0) qG;(refine aA1 vq (aC J (aA1 vq (aC J (aA1 vq (aC J ?_))))));refine aI (val:= .bool true) qE J J J J (fun w hs=> ?_) ?_;exact nL w 0 w.heap.size lo2 hi2 _ _ ch (hs.rdI (v:= .slice ma ch.length mc) (l:=ch) (t:=3) (n:=ch.length) qF J) (RdE.keep h2 hs.chg0) qG;(refine aA1 vq (aA1 vq (aC J ?_)));refine aI (val:= .bool true) qE J J J J (fun w hs=> ?_) ?_;exact cZ w;(refine aA1 vq (aA1 vq (aE (aQ ?_))));refine aA2 wq qF fun w hs=> ?_
  exact⟨J,hs.chg0⟩
 ·obtain⟨hl,ha,hb⟩:=mI.1 ht;have a1:=bX.1 ha;have b1:=bX.1 hb;have s0:=hl.s0;have hcl:1≤c2.length:=List.length_pos_iff.2 hsh.ne;have hll:=hl.len;have hc8:=short_le hl hsh;have hn8:=hl.n8;rw[ht];(refine aA1 vq (aE (aD (aD (aB (aA1 vq (aA8 yq qG (aA1 vq (aC J ?_))))))));refine aM qE J J J ?_;refine aC J (aA1 vq (aC J (aA1 vq (aC J ?_)))))
  have hcv:chainV l fast slow c2=(true,0):=by
   rw[chainV_eq ht (List.all_eq_true.2 fun j hj=>bX.2 (by have:=hsh.inr j hj;omega))];have:=short_chain hsh;rw[Int.toNat_of_nonneg a1.1,Int.toNat_of_nonneg b1.1] at this;rw[this]
  refine bB (β:=Int) qE [] _ M0 J J J J (Sp.refl _) qJ (fun w' hs=>by have:=rlength_ca w' 0 w'.heap.size l _ (dB (t:=125) (hs.mem (c:= .ow (.slice ra l.runs.length rc) 125 3 l.runs.length (rnC l.runs)) qF) J) hl fast.toNat slow.toNat (by unfold Lb.n;omega) (by unfold Lb.n;omega);rw[Int.toNat_of_nonneg a1.1,Int.toNat_of_nonneg b1.1] at this;exact this) ?_;rintro z _ ⟨rfl,hz⟩;obtain rfl:=short_len hl.e0 hsh hz;(refine aC J (aA9 yq qG (aA1 vq (aE (aF J (aJ (aD (aD (aB (aA1 vq (aA1 vq (aB1 yq qG ?_)))))))))));refine aA1 vq (aC J (aA1 vq (aC J (aB1 yq qG (aC J (aA1 vq ?_))))));(iterate 3 refine aA3 zq ?_);refine aC J (aA1 vq (aA1 vq (aE (aF J (aJ (aD (aD (aB (aA1 vq (aA8 yq qG (aE ?_)))))))))));refine aH J (aD (aB ?_));refine aM qE J J J ?_;(iterate 3 refine aA1 vq ?_));refine aI (val:= .tuple #[.bool true,.int .i64 0]) qE J J J J (fun w hs=> ?_) ?_;exact by have:=rchain_ca w 0 w.heap.size 0 w.heap.size l _ fast slow _ c2 (dB (t:=125) (hs.mem (c:= .ow (.slice ra l.runs.length rc) 125 3 l.runs.length (rnC l.runs)) qF) J) qG (hs.rdI (v:= .slice cp2 c2.length cq2) (l:=c2) (t:=3) (n:=c2.length) qF J) qG;rw[hcv] at this;exact this
  (refine aA1 vq (aA7 yq (aA7 yq (aA1 vq (aA1 vq (aE (aD (aB (aA1 vq (aB1 yq qG (aA1 vq (aC J ?_)))))))))));refine aA1 vq (aC J ?_);(iterate 3 refine aA1 vq ?_);refine aC J (aA1 vq (aC J (aA1 vq (aC J ?_))));refine aM qE J J J ?_;refine aC J (aA1 vq (aC J (aA1 vq (aC J ?_)))))
  refine bB (β:=Int) qE [] _ M0 J J J J (Sp.refl _) qJ (fun w' hs=>by have:=rlength_ca w' 0 w'.heap.size l _ (dB (t:=125) (hs.mem (c:= .ow (.slice ra l.runs.length rc) 125 3 l.runs.length (rnC l.runs)) qF) J) hl fast.toNat slow.toNat (by unfold Lb.n;omega) (by unfold Lb.n;omega);rw[Int.toNat_of_nonneg a1.1,Int.toNat_of_nonneg b1.1] at this;exact this) ?_;rintro z _ ⟨rfl,hz⟩;obtain rfl:=short_len hl.e0 hsh hz;(refine aC J (aB1 yq qG (aA1 vq (aE (aF J (aJ (aD (aB ?_)))))));(iterate 2 refine aM qE J J J ?_));refine aI (val:= .bool true) qE J J J J (fun w hs=> ?_) ?_;exact iD w 0 w.heap.size lo hi l _ _ (dB (t:=29) (hs.mem (c:= .ow (.slice ua l.runs.length uc) 29 3 l.runs.length (rnC l.runs)) qF) J) (RdE.keep h hs.chg0) qG;(refine aA1 vq (aC J (aA1 vq (aC J (aA1 vq (aC J ?_))))));refine aI (val:= .bool true) qE J J J J (fun w hs=> ?_) ?_;exact nL w 0 w.heap.size lo2 hi2 _ _ ch (hs.rdI (v:= .slice ma ch.length mc) (l:=ch) (t:=3) (n:=ch.length) qF J) (RdE.keep h2 hs.chg0) qG;(refine aA1 vq (aA1 vq (aC J ?_)));refine aI (val:= .bool true) qE J J J J (fun w hs=> ?_) ?_;exact cZ w;(refine aA1 vq (aA1 vq (aE (aQ ?_))));refine aA2 wq qF fun w hs=> ?_;exact⟨J,hs.chg0⟩
def lexB:List Nat→List Nat→Bool
 | x::a,y::b=>if x=y then lexB a b else decide (x<y)
 | _,_=>false
def elB(a b:List Nat):Bool:=if a.length=b.length then lexB a b else decide (a.length<b.length)
theorem jX(x y:Nat)(a b:List Nat):lexB (x::a) (y::b)=if x=y then lexB a b else decide (x<y):=by
 (conv=>lhs;unfold lexB)<;>rfl
theorem lexB_refl:∀a:List Nat,lexB a a=false
 | []=>by unfold lexB;rfl
 | x::a=>by rw[jX,if_pos rfl];exact lexB_refl a
theorem lexB_app(a b:List Nat):∀c:List Nat,lexB (c++a) (c++b)=lexB a b
 | []=>rfl
 | x::c=>by rw[List.cons_append,List.cons_append,jX,if_pos rfl];exact lexB_app a b c
theorem lexB_eq:∀(a b:List Nat),a.length=b.length→lexB a b=false→lexB b a=false→a=b
 | [],[],_,_,_=>rfl
 | x::a,y::b,hl,h1,h2=>by
  rw[jX] at h1 h2;by_cases e:x=y
  ·subst e;rw[if_pos rfl] at h1 h2;rw[lexB_eq a b (by simpa using hl) h1 h2]
  ·rw[if_neg e] at h1;rw[if_neg (Ne.symm e)] at h2;simp only[decide_eq_false_iff_not] at h1 h2;omega
theorem lexB_trans:∀(a b c:List Nat),a.length=b.length→b.length=c.length→lexB a b=true→lexB b c=true→lexB a c=true
 | [],b,c,_,_,h1,_=>by unfold lexB at h1;cases h1
 | x::a,[],c,hl,_,_,_=>by simp at hl
 | x::a,y::b,[],_,hl,_,_=>by simp at hl
 | x::a,y::b,z::c,h1,h2,h3,h4=>by
  rw[jX] at h3 h4 ⊢;by_cases e1:x=y
  ·rw[if_pos e1] at h3;by_cases e2:y=z
   ·rw[if_pos e2] at h4;rw[if_pos (e1.trans e2)];exact lexB_trans a b c (by simpa using h1) (by simpa using h2) h3 h4
   ·rw[if_neg e2] at h4;rw[if_neg qG,e1];exact h4
  ·rw[if_neg e1] at h3;by_cases e2:y=z
   ·rw[if_neg qG,←e2];exact h3
   ·rw[if_neg e2] at h4;simp only[decide_eq_true_eq] at h3 h4;rw[if_neg qG];simp only[decide_eq_true_eq];omega
theorem elB_refl(a:List Nat):elB a a=false:=by unfold elB;rw[if_pos rfl];exact lexB_refl a
theorem elB_trans{a b c:List Nat}(h1:elB a b=true)(h2:elB b c=true):elB a c=true:=by
 unfold elB at *;by_cases e1:a.length=b.length
 ·rw[if_pos e1] at h1;by_cases e2:b.length=c.length
  ·rw[if_pos e2] at h2;rw[if_pos (e1.trans e2)];exact lexB_trans a b c e1 e2 h1 h2
  ·rw[if_neg e2] at h2;rw[if_neg qG,e1];exact h2
 ·rw[if_neg e1] at h1;simp only[decide_eq_true_eq] at h1;by_cases e2:b.length=c.length
  ·rw[if_neg qG];simp only[decide_eq_true_eq];omega
  ·rw[if_neg e2] at h2;simp only[decide_eq_true_eq] at h2;rw[if_neg qG];simp only[decide_eq_true_eq];omega
theorem elB_eq{a b:List Nat}(h1:elB a b=false)(h2:elB b a=false):a=b:=by
 unfold elB at *;by_cases e:a.length=b.length
 ·rw[if_pos e] at h1;rw[if_pos e.symm] at h2;exact lexB_eq a b e h1 h2
 ·rw[if_neg e] at h1;rw[if_neg (Ne.symm e)] at h2;simp only[decide_eq_false_iff_not] at h1 h2;omega
theorem choose_pre{cov:List Nat→Bool}{m:Nat}:∀k ch out,cE cov m k ch=some out→∃o,out=ch++o
 | 0,ch,out,h=>by
  unfold cE at h;split at h
  ·cases h;exact⟨[],by simp⟩
  ·cases h
 | k+1,ch,out,h=>by
  unfold cE at h;obtain⟨w,h1,h2,h3,_⟩:=nC _ _ h;obtain⟨o,rfl⟩:=choose_pre k _ out h3;exact⟨w::o,by simp⟩
theorem choose_lex{cov:List Nat→Bool}{m:Nat}:∀k ch out rest,cE cov m k ch=some out→rest.length=k→Inc m (ch++rest)→cov (ch++rest)=true→lexB (ch++rest) out=false
 | 0,ch,out,rest,h,hk,hi,hc=>by
  have e:rest=[]:=List.length_eq_zero_iff.1 hk;subst e;rw[List.append_nil] at hc ⊢;unfold cE at h;rw[if_pos hc] at h;cases h
  exact lexB_refl _
 | k+1,ch,out,[],h,hk,hi,hc=>by simp at hk
 | k+1,ch,out,w::rest,h,hk,hi,hc=>by
  unfold cE at h;obtain⟨i,h1,h2,h3,h4⟩:=nC _ _ h
  have hw:fstB ch≤w:=by
   rcases List.eq_nil_or_concat ch with rfl|⟨c,z,rfl⟩
   ·exact Nat.zero_le _
   ·rw[List.concat_eq_append] at hi ⊢;rw[fst_snoc];have:=(List.pairwise_append.1 hi.1).2.2 z (by simp) w (by simp);omega
  have hne:=nA (cov:=cov) (m:=m) k (ch++[w]) rest (by simpa using hk) (by simpa using hi) (by simpa using hc);rcases Nat.lt_trichotomy w i with e|e|e
  ·exact absurd (h4 w hw e) hne
  ·subst e;have:=choose_lex k (ch++[w]) out rest h3 (by simpa using hk) (by simpa using hi) (by simpa using hc);simpa using this
  ·obtain⟨o,rfl⟩:=choose_pre k _ out h3;rw[List.append_assoc,lexB_app,List.singleton_append,jX,if_neg qG];simp only[decide_eq_false_iff_not];omega
theorem bag_first{cov:List Nat→Bool}{m:Nat}{out:List Nat}(h:bagF cov m=some out):∀o,Inc m o→cov o=true→o≠[]→elB o out=false:=fun o ho hc hne=>by
 have h1:=(oW h).2.2.2 o ho hc hne;unfold elB;by_cases e:o.length=out.length
 ·rw[if_pos e];obtain⟨n,_,_,h3,_⟩:=nC _ _ h;have h6:=(gD _ _ _ ⟨List.Pairwise.nil,fun x hx=>by cases hx⟩ h3).2.1;rw[List.length_nil] at h6;exact choose_lex _ [] out o h3 qG (by simpa using ho) (by simpa using hc)
 ·rw[if_neg e];simp only[decide_eq_false_iff_not];omega
def bitsN(set m:Nat):List Nat:=(List.range m).filter fun i=>set.testBit i
theorem bits_succ(set k:Nat):bitsN set (k+1)=bitsN set k++if set/2^k%2=1 then[k] else[]:=by
 unfold bitsN;rw[List.range_succ,List.filter_append]
 congr 1
 rw[List.filter_cons,List.filter_nil,Nat.testBit_eq_decide_div_mod_eq];by_cases h:set/2^k%2=1
 ·rw[if_pos h,if_pos (decide_eq_true h)]
 ·rw[if_neg h,if_neg (by simpa using h)]
theorem pY(set m:Nat):Inc m (bitsN set m):=filter_inc m _
theorem inc_ext:∀{a b:List Nat},a.Pairwise (· < ·)→b.Pairwise (· < ·)→(∀x,x∈a↔x∈b)→a=b
 | [],[],_,_,_=>rfl
 | [],y::b,_,_,h=>by have:=(h y).2 (by simp);cases this
 | x::a,[],_,_,h=>by have:=(h x).1 (by simp);cases this
 | x::a,y::b,ha,hb,h=>by
  have ha':=List.pairwise_cons.1 ha;have hb':=List.pairwise_cons.1 hb
  have e:x=y:=by
   have h1:=(h x).1 List.mem_cons_self;have h2:=(h y).2 List.mem_cons_self;rcases List.mem_cons.1 h1 with h1|h1
   ·exact h1
   ·rcases List.mem_cons.1 h2 with h2|h2
    ·exact h2.symm
    ·have:=ha'.1 y h2;have:=hb'.1 x h1;omega
  subst e
  congr 1
  refine inc_ext ha'.2 hb'.2 fun z=>⟨fun hz=> ?_,fun hz=> ?_⟩
  ·have h1:=ha'.1 z hz;rcases List.mem_cons.1 ((h z).1 (List.mem_cons_of_mem _ hz)) with h2|h2
   ·omega
   ·exact h2
  ·have h1:=hb'.1 z hz;rcases List.mem_cons.1 ((h z).2 (List.mem_cons_of_mem _ hz)) with h2|h2
   ·omega
   ·exact h2
theorem bits_of{m:Nat}{o:List Nat}(h:Inc m o):∃t,t<2^m∧bitsN t m=o:=by
 refine⟨mkB (fun i=>o.contains i) m,mkB_lt _ _,inc_ext (pY _ _).1 h.1 fun x=> ?_⟩;unfold bitsN;rw[List.mem_filter,List.mem_range,mkB_bit];constructor
 ·rintro⟨h1,h2⟩;rw[Bool.and_eq_true] at h2;simpa using h2.2
 ·intro hx;have:=h.2 x hx;exact⟨this,by simp[this,hx]⟩
theorem bits_ne{set m:Nat}(h1:1≤set)(h2:set<2^m):bitsN set m≠[]:=by
 intro e;obtain⟨i,hi⟩:=Nat.exists_testBit_of_ne_zero (show set≠0 by omega)
 have him:i<m:=by
  rcases Nat.lt_or_ge i m with h|h
  ·exact h
  ·rw[Nat.testBit_lt_two_pow (Nat.lt_of_lt_of_le h2 (Nat.pow_le_pow_right qG h))] at hi;cases hi
 have:i∈bitsN set m:=List.mem_filter.2 ⟨List.mem_range.2 him,hi⟩;rw[e] at this;cases this
theorem bits_nil(m:Nat):bitsN 0 m=[]:=List.filter_eq_nil_iff.2 fun x _=>by simp
structure BgI(cov:List Nat→Bool)(m set:Nat)(best:Option (List Nat)):Prop where
 no:best=none→∀t,1≤t→t<set→cov (bitsN t m)=false
 ye:∀o,best=some o→(∃t,1≤t∧t<set∧o=bitsN t m)∧cov o=true∧∀t,1≤t→t<set→cov (bitsN t m)=true→elB (bitsN t m) o=false
theorem BgI.start(cov:List Nat→Bool)(m:Nat):BgI cov m 1 none:=⟨fun _ t h1 h2=>by omega,fun o h=>by cases h⟩
theorem BgI.take{cov:List Nat→Bool}{m set:Nat}{best:Option (List Nat)}(h:BgI cov m set best)(h1:1≤set)(hc:cov (bitsN set m)=true)(hb:∀o,best=some o→elB (bitsN set m) o=true):BgI cov m (set+1) (some (bitsN set m)):=by
 refine⟨fun e=>(by cases e),fun o ho=> ?_⟩;cases ho
 refine⟨⟨set,h1,by omega,J⟩,hc,fun t h2 h3 h4=> ?_⟩;by_cases e:t=set
 ·rw[e];exact elB_refl _
 ·cases best with
  | none=>rw[h.no rfl t h2 qG] at h4;cases h4
  | some o=>
   have h5:=(h.ye o rfl).2.2 t h2 qG h4;cases hx:elB (bitsN t m) (bitsN set m) with
   | false=>rfl
   | true=>rw[elB_trans hx (hb o rfl)] at h5;cases h5
theorem BgI.skip{cov:List Nat→Bool}{m set:Nat}{best:Option (List Nat)}(h:BgI cov m set best)(hc:cov (bitsN set m)=false∨∃o,best=some o∧elB (bitsN set m) o=false):BgI cov m (set+1) best:=by
 refine⟨fun e t h1 h2=> ?_,fun o ho=> ?_⟩
 ·by_cases e2:t=set
  ·rcases hc with hc|⟨o,ho,_⟩
   ·rw[e2];exact hc
   ·rw[ho] at e;cases e
  ·exact h.no e t h1 qG
 ·obtain⟨⟨t,h1,h2,h3⟩,h4,h5⟩:=h.ye o ho;refine⟨⟨t,h1,by omega,h3⟩,h4,fun t h6 h7 h8=> ?_⟩;by_cases e2:t=set
  ·rcases hc with hc|⟨o',ho',h9⟩
   ·rw[e2,hc] at h8;cases h8
   ·rw[ho] at ho';cases ho'
    rw[e2];exact h9
  ·exact h5 t h6 qG h8
theorem BgI.end{cov:List Nat→Bool}{m:Nat}{best:Option (List Nat)}{out:List Nat}(h:BgI cov m (2^m) best)(hb:bagF cov m=some out):best=some out:=by
 obtain⟨h1,h2,h3,_⟩:=oW hb;obtain⟨t,ht,he⟩:=bits_of h3
 have h0:1≤t:=by
  rcases Nat.eq_zero_or_pos t with e|e
  ·rw[e,bits_nil] at he;rw[←he] at h2;simp at h2
  ·exact e
 cases best with
 | none=>
  have:=h.no rfl t h0 ht;rw[he,h1] at this;cases this
 | some o=>
  obtain⟨⟨t',h4,h5,h6⟩,h7,h8⟩:=h.ye o rfl;have h9:=h8 t h0 ht (by rw[he];exact h1);rw[he] at h9;have h10:=bag_first hb o (by rw[h6];exact pY _ _) h7 (by rw[h6];exact bits_ne h4 h5);rw[elB_eq h9 h10]
theorem chI_get{l:List Nat}{i:Nat}(h:i<(chI l).length):(chI l)[i]=((l[i]'(by rw[bT] at h;exact h):Nat):Int):=by simp[chI]
theorem lex_drop{a b:List Nat}{i:Nat}(ha:i<a.length)(hb:i<b.length):lexB (a.drop i) (b.drop i)=if a[i]=b[i] then lexB (a.drop (i+1)) (b.drop (i+1)) else decide (a[i]<b[i]):=by
 rw[List.drop_eq_getElem_cons ha,List.drop_eq_getElem_cons hb,jX]
theorem earlier_ca(w:World)(lo hi lo2 hi2:Nat)(v u:Value)(a b:List Nat)(h:RdI w lo hi v (chI a))(h2:RdI w lo2 hi2 u (chI b))(hla:a.length≤1000)(hlb:b.length≤1000):Ca Tryz.prog 118 [v,u] w fun x w'=>x= .bool (elB a b)∧Chg [] w w':=by
 obtain⟨va,vc,rfl,hva⟩:=RdI.outI h;obtain⟨ua,uc,rfl,hua⟩:=RdI.outI h2;rw[bT] at hva hua;refine cM (Sat.nil w M0) Tryz.func118 J (by simp[Tryz.ntmps118]) ?_;rw[bT,bT];by_cases e:a.length=b.length
 ·have he:elB a b=lexB a b:=if_pos e;rw[he];(refine aD (aB (aA1 vq (aE (aD (aD (aB ?_))))));(iterate 4 refine aA1 vq ?_);refine aB1 yq qG (aE (aF J (aJ (aD (aD (aB (aA1 vq (aE (aK ?_))))))))));refine bD (σ:=Nat) (fun i=>i≤a.length∧lexB (a.drop i) (b.drop i)=lexB a b) (fun i=>a.length-i) (fun i=>[(0,.slice va a.length vc),(1,.slice ua b.length uc),(5,.int .i64 i)]) (fun _=>[]) 0 ⟨by omega,J⟩ ⟨J,J,J,trivial⟩ (Sp.refl _) ?_;rintro i ⟨hi1,hd⟩ K hK;(refine aD (aD (aB ?_));(iterate 4 refine aA1 vq ?_);refine aE ?_);refine cP J (fun hc=> ?_) (fun hc=> ?_)
  ·have hi2:i<a.length:=by omega
   have hi3:i<b.length:=by omega
   have hj2:i<(chI a).length:=by rw[bT];exact hi2
   have hj3:i<(chI b).length:=by rw[bT];exact hi3
   clear hc;obtain⟨vb,vo,hv1⟩:=hva qG;obtain⟨ub,uo,hu1⟩:=hua qG;cases hv1
   cases hu1
   rw[lex_drop hi2 hi3] at hd;have hga:=chI_get hj2;have hgb:=chI_get hj3;(refine aJ (aD (aK (aD ?_))));refine bY _ [] (Sp.refl _) qI qI ?_;(refine aB2 yq (aB2 yq ?_));(refine aB5 uq qG qG ?_;refine bA qE J J J (fun w hs=>RdI.at (RdE.keep h hs.chg0) i hj2) ?_);(refine aB2 yq (aB2 yq ?_));(refine aB5 uq qG qG ?_;refine bA qE J J J (fun w hs=>RdI.at (RdE.keep h2 hs.chg0) i hj3) ?_);rw[hga,hgb];by_cases e2:a[i]=b[i]
   ·rw[if_pos e2] at hd;(refine qf_neqF qE J J J qG (aT (aF J (aJ (aW (aB (aA1 vq (aA4 xq qG qG (aA1 vq (aE ?_))))))))));exact hK (i+1) _ _ ⟨by omega,hd⟩ qG ⟨J,J,J,trivial⟩ (Sp.refl _)
   ·rw[if_neg e2] at hd;(refine qf_neqT qE J J J qG (aT (aH J (aD ?_))));refine bY _ [] (Sp.refl _) qI qI ?_;(refine aB2 yq (aB2 yq ?_));(refine aB5 uq qG qG ?_;refine bA qE J J J (fun w hs=>RdI.at (RdE.keep h hs.chg0) i hj2) ?_);(refine aB2 yq (aB2 yq ?_));(refine aB5 uq qG qG ?_;refine bA qE J J J (fun w hs=>RdI.at (RdE.keep h2 hs.chg0) i hj3) ?_);rw[hga,hgb];(refine aB2 yq (aB2 yq (aT (aQ ?_))));refine aA2 wq qF fun w hs=> ?_
    refine⟨?_,hs.chg0⟩;rw[←hd];simp[eW]
  ·rw[List.drop_of_length_le qG,List.drop_of_length_le qG] at hd;rw[←hd];(refine aZ _ J (aD (aB (aA1 vq (aE (aQ ?_))))));refine aA2 wq qF fun w hs=> ?_
   exact⟨by unfold lexB;rfl,hs.chg0⟩
 ·have he:elB a b=decide (a.length<b.length):=if_neg e;rw[he];(refine aD (aB (aA1 vq (aE (aD (aD (aB ?_))))));(iterate 4 refine aA1 vq ?_);refine aB0 yq qG (aE (aH J (aD (aB ?_))));(iterate 6 refine aA1 vq ?_);refine aE (aQ ?_));refine aA2 wq qF fun w hs=> ?_
  refine⟨?_,hs.chg0⟩;simp[eW]
def bgA(l:List (List Int))(most:Int):List Nat:=if cJ l most=0 then(bagF (iR (cA l (nV l)) most (nV l)) l.length).getD [] else[]
theorem bagA_ca(w:World)(lo hi:Nat)(v:Value)(l:List (List Int))(most:Int)(h:RdII w lo hi v l):Ca Tryz.prog 55 [v,.int .i64 most] w fun x w'=>∃u:Value,x= .tuple #[u,.int .i64 (cJ l most)]∧Sat w M0 [.ow u 3 1 (bgA l most).length (bF (chI (bgA l most)))] w':=by
 by_cases h0:cJ l most=0
 ·obtain⟨hl,hm0,hm1⟩:=eA.1 h0;obtain⟨out,ho,_⟩:=bag_says hl hm0;have e:bgA l most=out:=by unfold bgA;rw[if_pos h0,ho];rfl
  rw[e,h0];exact bag_ok w lo hi v l most (nV l) h hl hm0 hm1 out ho
 ·have e:bgA l most=[]:=if_neg h0;rw[e];exact(bag_no w lo hi v l most h h0).mono fun x w' ⟨h1,h2⟩=>⟨_,h1,Sat.ownil ((Sat.nil w M0).keep h2) _ _⟩
def pgB(rs:List (List Int))(most:Int)(s w:Nat):Bool:=decide (gt rs w s≤most)
def cvK(rs:List (List Int))(most:Int)(k:Nat)(L:List Nat):Bool:=(List.range k).all fun s=>L.any (pgB rs most s)
theorem cvK_all(rs:List (List Int))(most:Int)(n:Nat)(L:List Nat):cvK rs most n L=iR rs most n L:=rfl
theorem cvK_next(rs:List (List Int))(most:Int)(k:Nat)(L:List Nat):cvK rs most (k+1) L=(cvK rs most k L&&L.any (pgB rs most k)):=by
 unfold cvK;rw[List.range_succ,List.all_append];simp
theorem any_next{α:Type}(p:α→Bool)(l:List α){i:Nat}(hi:i<l.length):(l.take (i+1)).any p=((l.take i).any p||p l[i]):=by
 rw[List.take_succ_eq_append_getElem hi,List.any_append];simp
theorem rbag_ca(w:World)(lo hi:Nat)(v:Value)(l:List (List Int))(most:Int)(h:RdII w lo hi v l)(hlen:l.length≤maxLen)(hrl:∀r∈l,r.length≤maxLen):Ca Tryz.prog 56 [v,.int .i64 most] w fun x w'=>∃u:Value,x= .tuple #[u,.int .i64 (cJ l most)]∧Sat w M0 [.ow u 3 1 (bgA l most).length (bF (chI (bgA l most)))] w':=by
 obtain⟨va,vc,rfl,hva⟩:=RdII.outI h;refine cM (Sat.nil w M0) Tryz.func56 J (by simp[Tryz.ntmps56]) ?_;(refine aD (aB (aA1 vq (aA1 vq (aE (aD (aD (aB (aA1 vq (aA1 vq ?_))))))))));refine aI (val:= .int .i64 (cJ l most)) qE J J J J (fun w hs=> ?_) ?_;exact pE w lo hi _ l most (RdII.keep h hs.chg0) hlen hrl;by_cases h0:cJ l most=0
 ·obtain⟨hl,hm0,hm1⟩:=eA.1 h0;obtain⟨out,ho,_⟩:=bag_says hl hm0;have eo:bgA l most=out:=by unfold bgA;rw[if_pos h0,ho];rfl
  rw[eo,h0];clear eo;generalize hnn:nV l=n at hl ho;have hl1:=hl.l1;have hl2:=hl.l2;have hn1:=hl.n1;have hn2:=hl.n2;have hrow:=fun k (hk:k<l.length)=>hl.len _ (List.getElem_mem hk)
  obtain⟨vb,vo,rfl⟩:=hva qG;obtain⟨b0,o0,c0,hr0,hc0⟩:=RdII.rowS h 0 qG (hrow 0 qG) qG;(refine aA1 vq (aE (aD (aB (aA1 vq (aB1 yq qG (aE (aF J (aJ (aD (aB (aA1 vq ?_)))))))))));refine aE (aD (aD (aB (aA1 vq (aE (aK ?_)))))));refine bD (σ:=Nat) (fun k=>k≤l.length) (fun k=>l.length-k) (fun k=>[(0,.slice (some ⟨vb,vo,none⟩) l.length vc),(1,.int .i64 most),(7,.int .i64 (2^k:Nat)),(8,.int .i64 k)]) (fun _=>[]) 0 qG ⟨J,J,J,J,trivial⟩ qF ?_;rintro k hk K hK;have hp:=Nat.pow_le_pow_right (show 0<2 by omega) (show k≤12 by omega);have hps:2^(k+1)=2^k*2:=Nat.pow_succ 2 k;(refine aD (aD (aB ?_));(iterate 4 refine aA1 vq ?_);refine aE ?_);refine cP J (fun hc=> ?_) (fun hc=> ?_)
  ·have hk2:k<l.length:=by omega
   clear hc;generalize 2^k=N at hp hps;(refine aJ (aD (aK (aB (aA1 vq (aA4 xq qG qG (aA1 vq (aE (aW (aB (aA1 vq (aA4 xq qG qG ?_)))))))))));refine aA1 vq (aE ?_));exact hK (k+1) _ _ qG qG ⟨J,J,dI J (by rw[hps];omega),J,trivial⟩ (Sp.refl _)
  ·have hkm:k=l.length:=by omega
   subst hkm;clear hc hK hps;obtain⟨N,hN⟩:∃N,N=2^l.length:=⟨_,rfl⟩;rw[←hN] at hp ⊢;(refine aZ _ J (aD (aB (aA1 vq (aE (aD (aD (aB (aA1 vq (aE (aK ?_)))))))))));refine cQ (H':=[.ow (.slice none 0 0) 3 1 ((none:Option (List Nat)).getD []).length (bF (chI ((none:Option (List Nat)).getD [])))]) (fun w' hs=>Sat.ownil hs 3 1) ?_
   refine bD (σ:=Nat×Option (List Nat)×Value) (fun y=>1≤y.1∧y.1≤N∧BgI (iR (cA l n) most n) l.length y.1 y.2.1∧(y.2.1=none→y.2.2= .slice none 0 0)) (fun y=>N-y.1) (fun y=>[(0,.slice (some ⟨vb,vo,none⟩) l.length vc),(1,.int .i64 most),(7,.int .i64 N),(9,y.2.2),(10,.int .i64 y.1)])
    (fun y=>[.ow y.2.2 3 1 (y.2.1.getD []).length (bF (chI (y.2.1.getD [])))]) (1,none,.slice none 0 0) ⟨by omega,by dsimp only;rw[hN];exact Nat.one_le_two_pow,BgI.start _ _,fun _=>rfl⟩ ⟨rfl,rfl,rfl,rfl,rfl,trivial⟩ (Sp.refl _) ?_
   rintro⟨set,best,bv⟩ ⟨hs1,hs2,hB,hbv⟩ K hK;dsimp only at hs1 hs2 hB hbv hK ⊢;(refine aD (aD (aB ?_));(iterate 3 refine aA1 vq ?_);refine aE ?_);refine cP J (fun hc=> ?_) (fun hc=> ?_)
   ·have hs3:set<N:=by omega
    clear hc;(refine aJ (aD (aK (aD (aB (aA1 vq (aE (aD (aB (aA1 vq (aA1 vq (aE ?_)))))))))));refine aD (aD (aB (aA1 vq (aE (aK ?_))))));refine cQ (H':=[.ow (.slice none 0 0) 3 1 (bitsN set 0).length (bF (chI (bitsN set 0))),.ow bv 3 1 (best.getD []).length (bF (chI (best.getD [])))]) (fun w' hs=>Sat.ownil hs 3 1) ?_
    refine bD (σ:=Nat×Value) (fun y=>y.1≤l.length) (fun y=>l.length-y.1) (fun y=>[(0,.slice (some ⟨vb,vo,none⟩) l.length vc),(1,.int .i64 most),(7,.int .i64 N),(9,bv),(10,.int .i64 set),(11,y.2),(12,.int .i64 (set/2^y.1:Nat)),(13,.int .i64 y.1)])
     (fun y=>[.ow y.2 3 1 (bitsN set y.1).length (bF (chI (bitsN set y.1))),.ow bv 3 1 (best.getD []).length (bF (chI (best.getD [])))]) (0,.slice none 0 0) (by simp) ⟨rfl,rfl,rfl,rfl,rfl,rfl,dI rfl (by simp),rfl,trivial⟩ (Sp.refl _) ?_
    rintro⟨k,u⟩ hk K2 hK2;dsimp only at hk hK2 ⊢;have hbs:=bits_succ set k;have hbl:=inc_len (pY set k);have hdd:set/2^(k+1)=set/2^k/2:=by rw[Nat.pow_succ,Nat.div_div_eq_div_mul]
    have hrs:set/2^k≤set:=Nat.div_le_self _ _;(refine aD (aD (aB ?_));(iterate 4 refine aA1 vq ?_);refine aE ?_);refine cP J (fun hc=> ?_) (fun hc=> ?_)
    ·have hk2:k<l.length:=by omega
     clear hc;generalize set/2^k=r at hbs hdd hrs;by_cases hb:r%2=1
     ·rw[if_pos hb] at hbs;(refine aJ (aD (aK (aD (aD (aB (aA1 vq (cV J J J qG qG (aA8 yq qG (aE (aH J (aB ?_)))))))))));refine aA1 vq (aA1 vq ?_));refine cI 3 [.int .i64 k] J qI J (fun bn=> ?_);refine bU (q:=1) (news:=[.int .i64 k]) slI J J J (fun v'=>by repeat constructor) (fun w' hs=>⟨_,_,Blk.rdN (hs.blk (b:=bn) qF) J⟩) (by simp[dA]) qG qG (fun u'=> ?_);(refine aA1 vq (aE (aB (aA1 vq (iP J J J qG qG qG (aA1 vq (aE (aW (aB (aA1 vq (aA4 xq qG qG (aA1 vq ?_)))))))))));refine aE ?_);exact hK2 (k+1,u') _ _ (by dsimp only;omega) (by dsimp only;omega) ⟨J,J,J,J,J,J,dI J (by dsimp only;rw[hdd];omega),J,trivial⟩ (by dsimp only;rw[hbs,List.length_append,List.length_singleton,chI_add];repeat constructor)
     ·rw[if_neg hb,List.append_nil] at hbs;(refine aJ (aD (aK (aD (aD (aB (aA1 vq (cV J J J qG qG (aA9 yq qG (aE (aF J (aJ ?_)))))))))));refine aB (aA1 vq (iP J J J qG qG qG (aA1 vq (aE (aW (aB (aA1 vq (aA4 xq qG qG (aA1 vq (aE ?_)))))))))));exact hK2 (k+1,u) _ _ (by dsimp only;omega) (by dsimp only;omega) ⟨J,J,J,J,J,J,dI J (by dsimp only;rw[hdd];omega),J,trivial⟩ (by dsimp only;rw[hbs];repeat constructor)
    ·have hkm:k=l.length:=by omega
     subst hkm;clear hc hK2 hbs hdd hrs;have hne:=bits_ne (m:=l.length) hs1 qG;have hin:=pY set l.length;have hst:=fun hc hb=>hB.take hs1 hc hb
     have hsk:=fun hc=>hB.skip (set:=set) hc
     generalize bitsN set l.length=L at hbl hne hin hst hsk;have hLp:=List.length_pos_iff.2 hne;refine dO (fun w hs=>hs.ownSome (v:=u) qF hLp) ?_;rintro⟨ug,uc,rfl⟩;(refine aZ _ J (aD (aB (aA1 vq (aE (aD (aD (aB (aA1 vq (aE (aK ?_)))))))))));refine bD (σ:=Nat) (fun s=>s≤n) (fun s=>n-s) (fun s=>[(0,.slice (some ⟨vb,vo,none⟩) l.length vc),(1,.int .i64 most),(7,.int .i64 N),(9,bv),(10,.int .i64 set),(11,(aB7 ug L.length uc)),(14,.bool (cvK (cA l n) most s L)),(15,.int .i64 s)]) (fun _=>[.ow (aB7 ug L.length uc) 3 1 L.length (bF (chI L)),.ow bv 3 1 (best.getD []).length (bF (chI (best.getD [])))]) 0 qG ⟨J,J,J,J,J,J,J,J,trivial⟩ qF ?_;rintro s hsn K3 hK3;(refine aD (aD (aB (aA1 vq (aA1 vq ?_)))));refine aA5 uq qG qG ?_;refine bC qE J J J (fun w hs=>hc0 _ hs.chg0) ?_;(refine aA1 vq (aA1 vq (aE ?_)));refine cP J (fun hc=> ?_) (fun hc=> ?_)
     ·have hsn2:s<n:=by omega
      clear hc;(refine aJ (aD (aK (aD (aB (aA1 vq (aE (aD (aD (aB (aA1 vq (aE ?_)))))))))));refine aK ?_);refine bD (σ:=Nat) (fun i=>i≤L.length) (fun i=>L.length-i) (fun i=>[(0,.slice (some ⟨vb,vo,none⟩) l.length vc),(1,.int .i64 most),(7,.int .i64 N),(9,bv),(10,.int .i64 set),(11,(aB7 ug L.length uc)),(14,.bool (cvK (cA l n) most s L)),(15,.int .i64 s),(16,.bool ((L.take i).any (pgB (cA l n) most s))),(17,.int .i64 i)]) (fun _=>[.ow (aB7 ug L.length uc) 3 1 L.length (bF (chI L)),.ow bv 3 1 (best.getD []).length (bF (chI (best.getD [])))]) 0 qG ⟨J,J,J,J,J,J,J,J,J,J,trivial⟩ qF ?_;rintro i hii K4 hK4;(refine aD (aD (aB ?_));(iterate 4 refine aA1 vq ?_);refine aE ?_);refine cP J (fun hc=> ?_) (fun hc=> ?_)
      ·have hi2:i<L.length:=by omega
       have hj2:i<(chI L).length:=by rw[bT];exact hi2
       have hLm:=hin.2 _ (List.getElem_mem hi2);have hga:=chI_get hj2;clear hc;have hx:=any_next (pgB (cA l n) most s) L hi2;cases hso:(L.take i).any (pgB (cA l n) most s) with
       | true=>
        rw[hso,Bool.true_or] at hx;(refine aJ (aD (aK (aB (aA1 vq (aA1 vq ?_)))));(iterate 9 refine aA3 zq ?_);refine aA1 vq (aA1 vq (aE (aW (aB (aA1 vq (aA4 xq qG qG (aA1 vq (aE ?_)))))))));exact hK4 (i+1) _ _ qG qG ⟨J,J,J,J,J,J,J,J,by rw[hx];rfl,J,trivial⟩ (Sp.refl _)
       | false=>
        rw[hso,Bool.false_or] at hx;(refine aJ (aD (aK (aB (aA1 vq (aA1 vq (aC J (aA1 vq (aC J (aA1 vq (aC J (aA1 vq ?_)))))))))));refine aC J ?_);refine aA5 uq qG qG ?_;(refine aC J ?_);refine bC (v:= .int .i64 (L[i]:Nat)) qE J J J (fun w hs=>by rw[←hga];exact RdI.at (hs.rdI (v:=(aB7 ug L.length uc)) (l:=chI L) (t:=3) (n:=L.length) qF (bT _).symm) i hj2) ?_;(refine aC J (aA1 vq (aC J ?_)));refine aI (val:= .int .i64 (gt (cA l n) L[i] s)) qE J J J J (fun w hs=> ?_) ?_;exact regret_ca w lo hi _ l n L[i] s (RdII.keep h hs.chg0) hl hLm hsn2;unfold pgB at hx;(refine aC J (aA1 vq (aC J ?_));(iterate 3 refine aA1 vq ?_);refine aE (aW (aB (aA1 vq (aA4 xq qG qG (aA1 vq (aE ?_)))))));exact hK4 (i+1) _ _ qG qG ⟨J,J,J,J,J,J,J,J,by unfold pgB;rw[hx];rfl,J,trivial⟩ (Sp.refl _)
      ·have hil:i=L.length:=by omega
       rw[List.take_of_length_le qG];have hx:=cvK_next (cA l n) most s L;clear hc hK4;cases his:cvK (cA l n) most s L with
       | true=>
        rw[his,Bool.true_and] at hx;(refine aZ _ J (aB (aA1 vq (aA1 vq (aC J ?_))));(iterate 3 refine aA1 vq ?_);refine aE (aW (aB (aA1 vq (aA4 xq qG qG (aA1 vq (aE ?_)))))));exact hK3 (s+1) _ _ qG qG ⟨J,J,J,J,J,J,by rw[hx];rfl,J,trivial⟩ (Sp.refl _)
       | false=>
        rw[his,Bool.false_and] at hx;(refine aZ _ J (aB (aA1 vq (aA1 vq (aA3 zq (aA1 vq (aA1 vq (aE (aW (aB (aA1 vq (aA4 xq qG qG ?_)))))))))));refine aA1 vq (aE ?_));exact hK3 (s+1) _ _ qG qG ⟨J,J,J,J,J,J,by rw[hx];rfl,J,trivial⟩ (Sp.refl _)
     ·have hsl:s=n:=by omega
      subst hsl;rw[cvK_all];clear hc hK3;cases hcv:iR (cA l s) most s L with
      | false=>
       have hskip:=hsk (.inl hcv);(refine aZ _ J (aD (aB (aA1 vq (aA1 vq ?_))));(iterate 3 refine aA3 zq ?_);(iterate 3 refine dZ J J ?_);refine aA3 zq (aA1 vq (aE (aF J (aJ (aW (aB (aA1 vq (aA4 xq qG qG (aA1 vq (aE ?_)))))))))));exact hK (set+1,best,bv) _ _ ⟨by dsimp only;omega,by dsimp only;omega,hskip,hbv⟩ (by dsimp only;omega) ⟨J,J,J,J,J,trivial⟩ qF
      | true=>
       cases best with
       | none=>
        obtain rfl:=hbv rfl;have htake:=hst hcv (fun o ho=>(by cases ho));(refine aZ _ J (aD (aB (aA1 vq (aA1 vq (aC J (aA1 vq (aC J ?_))))))));refine ql_eqnil qE J J J J ?_;(refine aC J (aA1 vq ?_);(iterate 3 refine aA3 zq ?_);refine aC J (aA1 vq (aA1 vq (aE (aH J (aB (aA1 vq (aA1 vq (aE (aW (aB (aA1 vq ?_)))))))))));refine aA4 xq qG qG (aA1 vq (aE ?_)));exact hK (set+1,some L,(aB7 ug L.length uc)) _ _ ⟨by dsimp only;omega,by dsimp only;omega,htake,fun e=>(by cases e)⟩ (by dsimp only;omega) ⟨rfl,rfl,rfl,rfl,rfl,trivial⟩ qF
       | some o=>
        have hoy:=(hB.ye o rfl).1
        have hop:0<o.length:=by
         obtain⟨t,t1,t2,rfl⟩:=hoy;exact List.length_pos_iff.2 (bits_ne t1 qG)
        have hol:o.length≤l.length:=by
         obtain⟨t,t1,t2,rfl⟩:=hoy;exact inc_len (pY _ _)
        refine dO (fun w hs=>hs.ownSome (v:=bv) qF (by simpa using hop)) ?_;rintro⟨bg,bc,rfl⟩;dsimp only[Option.getD_some];(refine aZ _ J (aD (aB (aA1 vq (aA1 vq (aC J (aA1 vq (aC J ?_))))))));refine ql_eqnil qE J J J J ?_;(refine aC J (aA1 vq (aC J (aA1 vq (aC J (aA1 vq (aC J ?_)))))));refine aI (val:= .bool (elB L o)) qE J J J J (fun w hs=> ?_) ?_;exact earlier_ca w 0 w.heap.size 0 w.heap.size _ _ L o (hs.rdI (v:=(aB7 ug L.length uc)) (l:=chI L) (t:=3) (n:=L.length) qF (bT _).symm) (hs.rdI (v:=aB7 bg o.length bc) (l:=chI o) (t:=3) (n:=o.length) qF (bT _).symm) qG qG;cases hel:elB L o with
        | true=>
         have htake:=hst hcv (fun o' ho=>by cases ho;exact hel);(refine aC J (aA1 vq (aA1 vq (aE (aH J (aB (aA1 vq (aA1 vq (aE (aW (aB (aA1 vq ?_)))))))))));refine aA4 xq qG qG (aA1 vq (aE ?_)));exact hK (set+1,some L,(aB7 ug L.length uc)) _ _ ⟨by dsimp only;omega,by dsimp only;omega,htake,fun e=>(by cases e)⟩ (by dsimp only;omega) ⟨rfl,rfl,rfl,rfl,rfl,trivial⟩ qF
        | false=>
         have hskip:=hsk (.inr ⟨o,rfl,hel⟩);(refine aC J (aA1 vq (aA1 vq (aE (aF J (aJ (aW (aB (aA1 vq (aA4 xq qG qG (aA1 vq (aE ?_))))))))))));exact hK (set+1,some o,aB7 bg o.length bc) _ _ ⟨by dsimp only;omega,by dsimp only;omega,hskip,fun e=>(by cases e)⟩ (by dsimp only;omega) ⟨rfl,rfl,rfl,rfl,rfl,trivial⟩ qF
   ·have hse:set=N:=by omega
    rw[hse,hN] at hB;have hbe:=hB.end ho;subst hbe;(refine aZ _ J (aD (aB ?_));(iterate 3 refine aA1 vq ?_);refine aE (aQ ?_));refine aA2 wq qF fun w hs=> ?_
    exact⟨_,J,hs.sp qF⟩
 ·have e:bgA l most=[]:=if_neg h0;rw[e];(refine aA1 vq (aE (aD (aB (aA1 vq (aB0 yq qG (aE (aH J (aD (aB ?_)))))))));(iterate 3 refine aA1 vq ?_);refine aE (aQ ?_));refine aA2 wq qF fun w hs=> ?_
  exact⟨_,J,Sat.ownil (hs.sp qF) _ _⟩
theorem zone_w{rs:List (List Int)}{most:Int}{a:Nat}:∀m:Nat,(dW rs most a m).2<m∨(dW rs most a m).2=0
 | 0=> .inr rfl
 | m+1=>by
  have:=zone_w (rs:=rs) (most:=most) (a:=a) m;unfold dW;dsimp only;split
  ·dsimp only;omega
  ·omega
theorem zone_first{rs:List (List Int)}{most:Int}{a:Nat}:∀m i:Nat,i<m→(i:Int)<(dW rs most a m).2→(a:Int)-1+lC (rs.getD i []) most a<(dW rs most a m).1
 | m+1,i,h=>by
  unfold dW;dsimp only;split
  ·rename_i h1
   dsimp only;intro h2;have:=zone_ge (rs:=rs) (most:=most) (a:=a) m i qG;omega
  ·rename_i h1
   intro h2;by_cases e:i=m
   ·subst e;have h3:=zone_w (rs:=rs) (most:=most) (a:=a) i;omega
   ·exact zone_first m i qG h2
structure ZFst(rs:List (List Int))(most:Int)(n m a E W:Nat):Prop where
 lt:a≤E
 le:E<n
 wm:W<m
 good:lD (rs.getD W []) most a E=true
 fst:∀i,i<W→lD (rs.getD i []) most a E=false
 max:∀i t,i<m→E<t→t<n→lD (rs.getD i []) most a t=false
theorem zone_fst{l:List (List Int)}{n:Nat}{most:Int}(hl:TabOk l n)(hm:0≤most){a f:Nat}(ha:a<n):∃E W,ZFst (cA l n) most n l.length a E W∧zonesF (cA l n) most n (f+1) a=((a:Int),(E:Int),(W:Int))::zonesF (cA l n) most n f (E+1):=by
 have hR:=oY hl hm ha;obtain⟨w,hw,e,hg⟩:=hR.wax;have h1:=hR.lt;have h2:=hR.le;have h3:=hR.eq;have hlen:=dS l n
 have hrl:∀i,i<l.length→((cA l n).getD i []).length=n:=fun i hi=>by
  have h5:i<(cA l n).length:=by rw[hlen];exact hi
  rw[List.getD_eq_getElem?_getD,List.getElem?_eq_getElem h5,Option.getD_some];exact reg_row h5
 refine⟨reachF (cA l n) most a-1,w,⟨by omega,by omega,by omega,allG_of (fun t h5 h6=>hg t h5 qG),fun i hi=> ?_,fun i t hi h5 h6=> ?_⟩,?_⟩
 ·cases hx:lD ((cA l n).getD i []) most a (reachF (cA l n) most a-1) with
  | false=>rfl
  | true=>
   have h7:=allG_get (by rw[hrl i qG];omega) hx;have h8:=goodN_ge (show a≤reachF (cA l n) most a-1 by omega) (by rw[hrl i qG];omega) h7;have h9:=zone_first (rs:=cA l n) (most:=most) (a:=a) (cA l n).length i qG (by rw[e];omega);omega
 ·cases hx:lD ((cA l n).getD i []) most a t with
  | false=>rfl
  | true=>
   have h7:=allG_get (by rw[hrl i hi];omega) hx;have:=hR.max i t (by rw[hlen];exact hi) qG h6 h7;omega
 ·have e1:((reachF (cA l n) most a-1:Nat):Int)=(reachF (cA l n) most a:Int)-1:=by omega
  have e2:((reachF (cA l n) most a:Int)-1+1).toNat=reachF (cA l n) most a-1+1:=by omega
  rw[nU ha,h3,e,e1,e2]
theorem rzone_flat:nJ Tryz.prog 105 [some .i64,some .i64,some .i64]=true:=by kernel_rfl
theorem slZr:SlT Tryz.prog 101 105 3 24 (.agg #[.int .i64 0,.int .i64 0,.int .i64 0]):=⟨by kernel_rfl,by kernel_rfl,by kernel_rfl,by decide⟩
def zoC(a E:Nat):Option Nat→List Value
 | none=>[.int .i64 0,.int .i64 0,.int .i64 0]
 | some j=>[.int .i64 a,.int .i64 E,.int .i64 j]
theorem rzones_ca(w:World)(lo hi:Nat)(v:Value)(l:List (List Int))(most:Int)(h:RdII w lo hi v l)(hlen:l.length≤maxLen)(hrl:∀r∈l,r.length≤maxLen):Ca Tryz.prog 58 [v,.int .i64 most] w fun x w'=>∃u:Value,x= .tuple #[u,.int .i64 (cJ l most)]∧Sat w M0 [.ow u 105 3 (zonesV l most).1.length (znC (zonesV l most).1)] w':=by
 obtain⟨va,vc,rfl,hva⟩:=RdII.outI h;refine cM (Sat.nil w M0) Tryz.func58 J (by simp[Tryz.ntmps58]) ?_;(refine aD (aB (aA1 vq (aA1 vq (aE (aD (aD (aB (aA1 vq (aA1 vq ?_))))))))));refine aI (val:= .int .i64 (cJ l most)) qE J J J J (fun w hs=> ?_) ?_;exact pE w lo hi _ l most (RdII.keep h hs.chg0) hlen hrl;by_cases h0:cJ l most=0
 ·obtain⟨hl,hm0,hm1⟩:=eA.1 h0;have eo:(zonesV l most).1=zonesF (cA l (nV l)) most (nV l) (nV l+1) 0:=by unfold zonesV;rw[if_neg (by simpa using h0)]
  rw[eo,h0];clear eo;generalize hnn:nV l=n at hl;have hl1:=hl.l1;have hl2:=hl.l2;have hn1:=hl.n1;have hn2:=hl.n2;have hrow:=fun k (hk:k<l.length)=>hl.len _ (List.getElem_mem hk)
  obtain⟨vb,vo,rfl⟩:=hva qG;obtain⟨b0,o0,c0,hr0,hc0⟩:=RdII.rowS h 0 qG (hrow 0 qG) qG;(refine aA1 vq (aE (aD (aB (aA1 vq (aB1 yq qG (aE (aF J (aJ (aD (aB (aA1 vq ?_))))))))))));refine aA5 uq qG qG ?_;refine bC qE J J J (fun w hs=>hc0 _ hs.chg0) ?_;(refine aA1 vq (aA1 vq (aE (aD (aB (aA1 vq (aE (aD (aD (aB (aA1 vq (aE ?_)))))))))));refine aK ?_);refine cQ (H':=[.ow (.slice none 0 0) 105 3 0 (znC [])]) (fun w' hs=>Sat.ownil hs _ _) ?_
  refine bD (σ:=Nat×Nat×List (Int×Int×Int)×Value) (fun y=>y.1≤n∧n<y.1+y.2.1∧y.2.2.1.length+y.2.1=n+1∧y.2.2.1++zonesF (cA l n) most n y.2.1 y.1=zonesF (cA l n) most n (n+1) 0) (fun y=>y.2.1) (fun y=>[(0,.slice (some ⟨vb,vo,none⟩) l.length vc),(1,.int .i64 most),(7,.int .i64 n),(8,y.2.2.2),(9,.int .i64 y.1)])
   (fun y=>[.ow y.2.2.2 105 3 y.2.2.1.length (znC y.2.2.1)]) (0,n+1,[],.slice none 0 0) ⟨by simp,by simp,by simp,rfl⟩ ⟨rfl,rfl,rfl,rfl,rfl,trivial⟩ (Sp.refl _) ?_
  rintro⟨a,f,out,ov⟩ ⟨ha,haf,hof,hz⟩ K hK;dsimp only at ha haf hof hz hK ⊢;(refine aD (aD (aB ?_));(iterate 3 refine aA1 vq ?_);refine aE ?_);refine cP J (fun hc=> ?_) (fun hc=> ?_)
  ·have ha2:a<n:=by omega
   clear hc;obtain⟨f,rfl⟩:∃g,f=g+1:=⟨f-1,by omega⟩;obtain⟨E,W,hZ,hst⟩:=zone_fst (f:=f) hl hm0 ha2;rw[hst] at hz;obtain⟨zlt,zle,zwm,zgood,zfst,zmax⟩:=hZ;(refine aJ (aK (aD (aB ?_))));refine dM #[.int .i64 0,.int .i64 0,.int .i64 0] J qI J ?_;refine bJ zero105 J (fun b10=> ?_);(refine aA6 uq qF J ?_;refine aE (aD (aD (aB (aA1 vq (aA4 xq qG qG (aA1 vq (aE (aK ?_)))))))));rw[show(n:Int)-1=((E+(n-1-E):Nat):Int) from by omega];refine bD (σ:=Nat) (fun d=>E+d<n) (fun d=>d) (fun d=>[(0,.slice (some ⟨vb,vo,none⟩) l.length vc),(1,.int .i64 most),(7,.int .i64 n),(8,ov),(9,.int .i64 a),(10,aB8 b10),(11,.int .i64 (E+d:Nat))]) (fun _=>[.pt b10 [.int .i64 0,.int .i64 0,.int .i64 0] 105,.ow ov 105 3 out.length (znC out)]) (n-1-E) qG ⟨J,J,J,J,J,J,J,trivial⟩ qF ?_;rintro d hd K2 hK2;(refine aD (aD (aB (aA1 vq (aA1 vq (kW qE J J J qG (aE (aH J (aJ (aD (aK (aD ?_)))))))))));refine aD (aB (aA1 vq (aA1 vq (aA4 xq qG qG (aA1 vq (aE (aK ?_))))))))
   ·by_cases hd0:d=0
    ·subst hd0;rw[Nat.add_zero];refine bD (σ:=Nat×Option Nat) (fun y=>y.1≤l.length∧(y.1≤W→y.2=some W)) (fun y=>y.1) (fun y=>[(0,.slice (some ⟨vb,vo,none⟩) l.length vc),(1,.int .i64 most),(7,.int .i64 n),(8,ov),(9,.int .i64 a),(10,aB8 b10),(11,.int .i64 E),(12,.int .i64 ((y.1:Int)-1))]) (fun y=>[.pt b10 (zoC a E y.2) 105,.ow ov 105 3 out.length (znC out)]) (l.length,none) ⟨by simp,fun h=>by simp at h;omega⟩ ⟨J,J,J,J,J,J,J,J,trivial⟩ qF ?_;rintro⟨k,z⟩ ⟨hk,hkz⟩ K3 hK3;dsimp only at hk hkz hK3 ⊢;(refine aD (aD (aB (aA1 vq (aA1 vq (aE ?_))))));refine cP J (fun hc=> ?_) (fun hc=> ?_)
     ·obtain⟨j,rfl⟩:∃j,k=j+1:=⟨k-1,by omega⟩;clear hc;rw[show((j+1:Nat):Int)-1=(j:Int) from by omega];(refine aJ (aD (aK (aD (aB ?_))));(iterate 5 refine aA1 vq ?_));refine aI (val:= .bool (lD ((cA l n).getD j []) most a E)) qE J J J J (fun w hs=> ?_) ?_;exact pT w lo hi _ l n j a E most (RdII.keep h hs.chg0) hl qG zlt zle;cases hg:lD ((cA l n).getD j []) most a E with
      | false=>
       have hjW:j≠W:=fun e=>by rw[e,zgood] at hg;cases hg
       (refine aA1 vq ?_;(iterate 4 refine aA3 zq ?_);(iterate 4 refine dZ J J ?_);refine aA3 zq (aA1 vq (aE (aF J (aJ (aW (aB (aA1 vq (aA4 xq qG qG (aA1 vq (aE ?_)))))))))))
       exact hK3 (j,z) _ _ ⟨by dsimp only;omega,fun h=>hkz (by dsimp only at h;omega)⟩ (by dsimp only;omega) ⟨J,J,J,J,J,J,J,J,trivial⟩ qF
      | true=>
       have hjW:W≤j:=by
        rcases Nat.lt_or_ge j W with h1|h1
        ·rw[zfst j h1] at hg;cases hg
        ·exact h1
       cases z with
       | none=>
        dsimp only[zoC];(refine aA1 vq (aC J ?_);refine aM qE J J J ?_;refine aC J ?_);refine dM #[.int .i64 0,.int .i64 0,.int .i64 0] J qI J ?_;(refine aC J ?_);refine ql_eqF (xs:=[Value.int .i64 0,.int .i64 0,.int .i64 0]) (ys:=[Value.int .i64 0,.int .i64 0,.int .i64 0]) [some .i64,some .i64,some .i64] rzone_flat J J J J J ?_;rw[show eqL [Value.int .i64 0,.int .i64 0,.int .i64 0] [.int .i64 0,.int .i64 0,.int .i64 0]=true from by rw[gA]];(refine aC J (aA1 vq ?_);(iterate 4 refine aA3 zq ?_);refine aC J (aA1 vq (aA1 vq (aE (aH J (aB ?_)))));(iterate 3 refine aA1 vq ?_));refine dM #[.int .i64 a,.int .i64 E,.int .i64 j] J qI J ?_;(refine aA6 uq qF J ?_;refine aE (aW (aB (aA1 vq (aA4 xq qG qG (aA1 vq (aE ?_)))))));exact hK3 (j,some j) _ _ ⟨by dsimp only;omega,fun h=>by dsimp only at h ⊢;congr 1;omega⟩ (by dsimp only;omega) ⟨J,J,J,J,J,J,J,J,trivial⟩ qF
       | some i=>
        dsimp only[zoC];(refine aA1 vq (aC J ?_);refine aM qE J J J ?_;refine aC J ?_);refine dM #[.int .i64 0,.int .i64 0,.int .i64 0] J qI J ?_;(refine aC J ?_);refine ql_eqF (xs:=[Value.int .i64 a,.int .i64 E,.int .i64 i]) (ys:=[Value.int .i64 0,.int .i64 0,.int .i64 0]) [some .i64,some .i64,some .i64] rzone_flat J J J J J ?_;cases he:eqL [Value.int .i64 a,.int .i64 E,.int .i64 i] [.int .i64 0,.int .i64 0,.int .i64 0] with
        | true=>
         (refine aC J (aA1 vq ?_);(iterate 4 refine aA3 zq ?_);refine aC J (aA1 vq (aA1 vq (aE (aH J (aB ?_)))));(iterate 3 refine aA1 vq ?_))
         refine dM #[.int .i64 a,.int .i64 E,.int .i64 j] J qI J ?_;(refine aA6 uq qF J ?_;refine aE (aW (aB (aA1 vq (aA4 xq qG qG (aA1 vq (aE ?_)))))));exact hK3 (j,some j) _ _ ⟨by dsimp only;omega,fun h=>by dsimp only at h ⊢;congr 1;omega⟩ (by dsimp only;omega) ⟨J,J,J,J,J,J,J,J,trivial⟩ qF
        | false=>
         (refine aC J (aA1 vq (aC J (aA1 vq (aC J ?_))));refine aL qE J J J ?_;refine aC J (aA1 vq (aC J (aA8 yq qG (aC J (aA1 vq (aA1 vq (aE (aH J (aB ?_)))))))));(iterate 3 refine aA1 vq ?_))
         refine dM #[.int .i64 a,.int .i64 E,.int .i64 j] J qI J ?_;(refine aA6 uq qF J ?_;refine aE (aW (aB (aA1 vq (aA4 xq qG qG (aA1 vq (aE ?_)))))));exact hK3 (j,some j) _ _ ⟨by dsimp only;omega,fun h=>by dsimp only at h ⊢;congr 1;omega⟩ (by dsimp only;omega) ⟨J,J,J,J,J,J,J,J,trivial⟩ qF
     ·have hk0:k=0:=by omega
      obtain rfl:=hkz qG;clear hc hK3 hK2;dsimp only[zoC];(refine aZ _ J (aD (aB (aA1 vq ?_)));refine aL qE J J J ?_;refine aA1 vq (aA8 yq qG (aA1 vq (aC J (aA1 vq (aC J (aA1 vq (aC J ?_)))))));refine aL qE J J J ?_;refine aC J (aA1 vq (aC J (aA1 vq (aC J (aA1 vq (aC J ?_)))))));refine aI (val:= .bool true) qE J J J J (fun w hs=> ?_) ?_;exact by have:=pT w lo hi _ l n W a E most (RdII.keep h hs.chg0) hl zwm zlt zle;rw[zgood] at this;exact this
      (refine aA1 vq (aE (aH J (aZ _ J (aD (aB (aA1 vq ?_))))));refine aM qE J J J ?_)
      refine cI 105 [.int .i64 a,.int .i64 E,.int .i64 W] J qI J (fun bn=> ?_);refine bU (q:=1) (news:=[.int .i64 a,.int .i64 E,.int .i64 W]) slZr J J J (fun v'=>by repeat constructor) (fun w' hs=>⟨_,_,Blk.rdN (hs.blk (b:=bn) qF) J⟩) (by simp[dA]) qG qG (fun u'=> ?_);(refine aA1 vq (aE (aB (aA1 vq ?_)));refine aL qE J J J ?_;refine aA4 xq qG qG (aA1 vq (aE (aW ?_))));exact hK (E+1,f,out++[((a:Int),(E:Int),(W:Int))],u') _ _ ⟨by dsimp only;omega,by dsimp only;omega,by dsimp only;rw[List.length_append,List.length_singleton];omega,by dsimp only;rw[List.append_assoc];exact hz⟩ (by dsimp only;omega) ⟨J,J,J,J,J,trivial⟩ (by dsimp only;rw[List.length_append,List.length_singleton,znC_snoc];repeat constructor)
    ·refine bD (σ:=Nat) (fun k=>k≤l.length) (fun k=>k) (fun k=>[(0,.slice (some ⟨vb,vo,none⟩) l.length vc),(1,.int .i64 most),(7,.int .i64 n),(8,ov),(9,.int .i64 a),(10,aB8 b10),(11,.int .i64 (E+d:Nat)),(12,.int .i64 ((k:Int)-1))]) (fun _=>[.pt b10 [.int .i64 0,.int .i64 0,.int .i64 0] 105,.ow ov 105 3 out.length (znC out)]) l.length qG ⟨J,J,J,J,J,J,J,J,trivial⟩ qF ?_;rintro k hk K3 hK3;(refine aD (aD (aB (aA1 vq (aA1 vq (aE ?_))))));refine cP J (fun hc=> ?_) (fun hc=> ?_)
     ·obtain⟨j,rfl⟩:∃j,k=j+1:=⟨k-1,by omega⟩;clear hc;rw[show((j+1:Nat):Int)-1=(j:Int) from by omega];(refine aJ (aD (aK (aD (aB ?_))));(iterate 5 refine aA1 vq ?_));refine aI (val:= .bool false) qE J J J J (fun w hs=> ?_) ?_;exact by have:=pT w lo hi _ l n j a (E+d) most (RdII.keep h hs.chg0) hl qG qG hd;rw[zmax j (E+d) qG qG hd] at this;exact this
      (refine aA1 vq ?_;(iterate 4 refine aA3 zq ?_);(iterate 4 refine dZ J J ?_);refine aA3 zq (aA1 vq (aE (aF J (aJ (aW (aB (aA1 vq (aA4 xq qG qG (aA1 vq (aE ?_)))))))))))
      exact hK3 j _ _ qG qG ⟨J,J,J,J,J,J,J,J,trivial⟩ qF
     ·clear hc hK3;obtain⟨g,rfl⟩:∃g,d=g+1:=⟨d-1,by omega⟩;(refine aZ _ J (aD (aB (aA1 vq ?_)));refine aL qE J J J ?_;refine aA1 vq (aA9 yq qG (aA1 vq ?_));(iterate 7 refine aA3 zq ?_);refine aA1 vq (aE (aF J (aJ (aW (aB (aA1 vq (aA4 xq qG qG (aA1 vq (aE ?_))))))))));exact hK2 g _ _ qG qG ⟨J,J,J,J,J,J,dI J qG,trivial⟩ qF
  ·have hae:a=n:=by omega
   rw[jU qG,List.append_nil] at hz;rw[←hz];(refine aZ _ J (aD (aB ?_));(iterate 3 refine aA1 vq ?_);refine aE (aQ ?_));refine aA2 wq qF fun w hs=> ?_
   exact⟨_,J,hs.sp qF⟩
 ·have e:(zonesV l most).1=[]:=by unfold zonesV;rw[if_pos h0]
  rw[e];(refine aA1 vq (aE (aD (aB (aA1 vq (aB0 yq qG (aE (aH J (aD (aB ?_)))))))));(iterate 3 refine aA1 vq ?_);refine aE (aQ ?_));refine aA2 wq qF fun w hs=> ?_
  exact⟨_,J,Sat.ownil (hs.sp qF) _ _⟩
theorem iY{w0 w:World}{M:Nat→Prop}{H:List Ck}{t g c n m:Nat}{X:List (Value×List Int)}{u:Value}(hs:Sat w0 M H w)(hm:Ck.ow (aB7 g m c) t 1 m (X.map (·.1))∈H){i:Nat}(hi:i<X.length)(hu:X[i].1=u)(hin:n=0+i*1):w.cell? ⟨g,n,none⟩=some u:=by
 subst hin;rw[Nat.mul_one,Nat.zero_add];exact lO (hs.mem hm) i (by rw[List.getElem?_map,List.getElem?_eq_getElem hi,Option.map_some,hu])
theorem row_at{w0 w:World}{M:Nat→Prop}{H:List Ck}{t g c n m:Nat}{X:List (Value×List Int)}{x:Int}(hs:Sat w0 M H w)(hm:un (cF t X)∈H){i:Nat}(hi:i<X.length)(hu:X[i].1=aB7 g m c){s:Nat}(hss:s<X[i].2.length)(hx:X[i].2.getD s 0=x)(hin:n=0+s*1):w.cell? ⟨g,n,none⟩=some (.int .i64 x):=by
 subst hin;have h:=(lU hs hm i hi).1;rw[hu] at h;have:=RdI.at h s hss;rw[this,←hx,eI hss]
theorem fZ{w0 w:World}{M:Nat→Prop}{H:List Ck}{t t2 n:Nat}{v:Value}{X:List (Value×List Int)}(hs:Sat w0 M H w)(h1:un (cF t X)∈H)(h2:Ck.ow v t2 1 n (X.map (·.1))∈H):RdII w 0 w.heap.size v (X.map (·.2)):=rowsO_rd (hs.mem h1) (hs.mem h2)
def addR(s:Nat)(d:Int)(p:Value×List Int):Value×List Int:=(p.1,p.2.set s (p.2.getD s 0+d))
def addK(s:Nat)(d:Int)(X:List (Value×List Int))(k:Nat):List (Value×List Int):=(X.take k).map (addR s d)++X.drop k
theorem brk_val{l:List (List Int)}{n:Nat}{most:Int}(hl:TabOk l n)(hm:0≤most)(hm2:most≤10000){br:List Int}(hb:∀s∈br,0≤s∧s<n):eS l most br=(if brkF (cA l n) most br=true then !br.isEmpty&&true else false,0):=by
 have hnV:nV l=n:=hl.v.2;have he:cJ l most=0:=eA.2 ⟨by rw[hnV];exact hl,hm,hm2⟩;unfold eS;rw[if_neg (by simpa using he),if_neg,hnV];rw[Bool.not_eq_false,List.all_eq_true];intro s hs;have:=hb s hs;rw[bX,hnV];omega
theorem starts_say{l:List (List Int)}{n:Nat}{most:Int}(hl:TabOk l n)(hm:0≤most)(hm2:most≤10000):1≤(zonesF (cA l n) most n (n+1) 0).length∧eS l most ((zonesF (cA l n) most n (n+1) 0).map (·.1))=(true,0):=by
 have hn:=hl.n1;obtain⟨h1,h2⟩:=zones_are hl hm (n+1) 0 qG qG;have h3:=starts_are hl hm (n+1) 0 qG qG;generalize zonesF (cA l n) most n (n+1) 0=Z at h1 h2 h3 ⊢
 have h4:1≤Z.length:=by
  cases Z with
  | nil=>simp[nxtZ] at h2;omega
  | cons z Z=>simp
 refine⟨h4,?_⟩;rw[brk_val hl hm hm2 (fun s hs=> ?_),if_pos h3]
 ·cases Z with
  | nil=>simp at h4
  | cons z Z=>rfl
 ·obtain⟨z,hz,rfl⟩:=List.mem_map.1 hs;obtain⟨i,hi,rfl⟩:=List.mem_iff_getElem.1 hz;have h5:=h1 i hi;have h6:=h5.a0;have h7:=h5.frm;have h8:=h5.le;have h9:=h5.lt;omega
theorem Inc.up{m:Nat}{ch:List Nat}(h:Inc m ch):Inc (m+1) ch:=⟨h.1,fun x hx=>by have:=h.2 x hx;omega⟩
theorem Inc.push{m:Nat}{ch:List Nat}(h:Inc m ch):Inc (m+1) (ch++[m]):=by
 refine⟨List.pairwise_append.2 ⟨h.1,List.pairwise_singleton _ _,fun x hx y hy=> ?_⟩,fun x hx=> ?_⟩
 ·rw[List.mem_singleton.1 hy];exact h.2 x hx
 ·rcases List.mem_append.1 hx with h1|h1
  ·have:=h.2 x h1;omega
  ·rw[List.mem_singleton.1 h1];omega
def wideB(l:List (List Int)):Bool:=decide (15<l.length)||l.any fun r=>decide (25<r.length)
theorem wide_no{l:List (List Int)}(h:wideB l=false):l.length≤15∧∀r∈l,r.length≤25:=by
 unfold wideB at h;rw[Bool.or_eq_false_iff] at h;refine⟨by simpa using h.1,fun r hr=> ?_⟩;have:=List.any_eq_false.1 h.2 r hr;simpa using this
theorem wide_ca(w:World)(lo hi:Nat)(v:Value)(l:List (List Int))(h:RdII w lo hi v l)(hlen:l.length≤maxLen)(hrl:∀r∈l,r.length≤maxLen):Ca Tryz.prog 48 [v] w fun x w'=>x= .bool (wideB l)∧Chg [] w w':=by
 obtain⟨va,vc,rfl,hva⟩:=RdII.outI h;simp only[maxLen] at hlen hrl;refine cM (Sat.nil w M0) Tryz.func48 J (by simp[Tryz.ntmps48]) ?_;by_cases g1:15<l.length
 ·have e:wideB l=true:=by unfold wideB;rw[decide_eq_true g1];rfl
  rw[e];(refine aD (aB (aA1 vq (aE (aD (aD (aB (aA1 vq (aA1 vq (aB4 yq qG (aE (aH J ?_)))))))))));refine aD (aB (aA1 vq (aE (aQ ?_)))));refine aA2 wq qF fun w hs=> ?_
  exact⟨J,hs.chg0⟩
 ·(refine aD (aB (aA1 vq (aE (aD (aD (aB (aA1 vq (aA1 vq (aB3 yq qG (aE (aF J ?_)))))))))));refine aJ (aD (aD (aB ?_)));(iterate 3 refine aA1 vq ?_);refine aE (aK ?_))
  ·refine bD (σ:=Nat) (fun k=>k≤l.length∧(l.take k).any (fun r=>decide (25<r.length))=false) (fun k=>l.length-k) (fun k=>[(8,.slice va l.length vc),(9,.int .i64 l.length),(10,.int .i64 k)]) (fun _=>[]) 0 ⟨by omega,by simp⟩ ⟨J,J,J,trivial⟩ (Sp.refl _) ?_;rintro k ⟨hk,hany⟩ K hK;(refine aD (aB (aA1 vq (aE (aD ?_)))));refine cP J (fun hc=> ?_) (fun hc=> ?_)
   ·have hk2:k<l.length:=by omega
    clear hc;obtain⟨vb,vo,hab⟩:=hva qG;cases hab
    obtain⟨a1,c1,hr1,hc1⟩:=RdII.row h k hk2;have hr1l:=hrl _ (List.getElem_mem hk2);(refine aJ (aD (aK (aD (aB ?_)))));refine aA5 uq qG qG ?_;refine bC qE J J J (fun w hs=>hc1 _ hs.chg0) ?_;(refine aA1 vq (aE (aD (aB ?_)));(iterate 3 refine aA1 vq ?_);refine aE ?_);refine cP J (fun hc=> ?_) (fun hc=> ?_)
    ·have hx:decide (25<l[k].length)=true:=decide_eq_true qG;have e:wideB l=true:=by unfold wideB;rw[any_stop (fun r:List Int=>decide (25<r.length)) _ hk2 hx,Bool.or_true]
     (refine aD (aB (aA1 vq (aE (aQ ?_)))))
     refine aA2 wq qF fun w hs=> ?_;exact⟨by rw[e];rfl,hs.chg0⟩
    ·have hx:decide (25<l[k].length)=false:=by simp;omega
     (refine aJ (aW (aB (aA4 xq qG qG (aA1 vq (aE ?_))))))
     exact hK (k+1) _ _ ⟨by omega,jE (fun r:List Int=>decide (25<r.length)) _ hk2 hany hx⟩ qG ⟨J,J,J,trivial⟩ (Sp.refl _)
   ·obtain rfl:k=l.length:=by omega
    rw[List.take_length] at hany;have e:wideB l=false:=by unfold wideB;rw[hany,decide_eq_false g1];rfl
    (refine aZ _ J (aD (aB (aA1 vq (aE (aQ ?_))))))
    refine aA2 wq qF fun w hs=> ?_;exact⟨by rw[e];rfl,hs.chg0⟩
theorem zonesA_ca(w:World)(lo hi:Nat)(v:Value)(l:List (List Int))(most:Int)(h:RdII w lo hi v l):Ca Tryz.prog 57 [v,.int .i64 most] w fun x w'=>∃u:Value,x= .tuple #[u,.int .i64 (cJ l most)]∧Sat w M0 [.ow u 106 3 (zonesV l most).1.length (znC (zonesV l most).1)] w':=by
 by_cases h0:cJ l most=0
 ·rw[h0];exact zones_ok w lo hi v l most h h0
 ·have e:(zonesV l most).1=[]:=by unfold zonesV;rw[if_pos h0]
  rw[e];exact(zones_no w lo hi v l most h h0).mono fun x w' ⟨h1,h2⟩=>⟨_,h1,Sat.ownil ((Sat.nil w M0).keep h2) _ _⟩
theorem breaksA_ca(w:World)(lo hi:Nat)(v:Value)(l:List (List Int))(most:Int)(h:RdII w lo hi v l):Ca Tryz.prog 61 [v,.int .i64 most] w fun x w'=>∃u:Value,x= .tuple #[u,.int .i64 (cJ l most)]∧Sat w M0 [.ow u 3 1 (zonesV l most).1.length (bF ((zonesV l most).1.map (·.1)))] w':=by
 by_cases h0:cJ l most=0
 ·rw[h0];exact breaks_ok w lo hi v l most h h0
 ·have e:(zonesV l most).1=[]:=by unfold zonesV;rw[if_pos h0]
  rw[e];refine cM (Sat.nil w M0) Tryz.func61 J (by simp[Tryz.ntmps61]) ?_;(refine aD (aB (aA1 vq (aA1 vq (aE (aD (aB (aA1 vq (aA1 vq ?_)))))))));refine aI (val:= .tuple #[.slice none 0 0,.int .i64 (cJ l most)]) qE J J J J (fun w hs=> ?_) ?_;exact zones_no w lo hi _ l most (RdII.keep h hs.chg0) h0;(refine aA1 vq (aA7 yq (aA7 yq (aA1 vq (aA1 vq (aE (aD (aD (aB (aA1 vq (aB0 yq qG (aE ?_)))))))))));refine aH J (aD (aB ?_));(iterate 3 refine aA1 vq ?_);refine aE (aQ ?_));refine aA2 wq qF fun w hs=> ?_
  exact⟨_,J,Sat.ownil (hs.sp qF) _ _⟩
theorem regA_len(l:List (List Int)):(regA l).length≤12∧∀r∈regA l,r.length≤20:=by
 unfold regA;split
 ·rename_i h
  have hl:=fI.1 h;refine⟨by rw[dS];exact hl.l2,fun r hr=> ?_⟩;obtain⟨i,hi,rfl⟩:=List.getElem_of_mem hr;rw[reg_row hi];exact hl.n2
 ·simp
theorem bgA_len(l:List (List Int))(most:Int):(bgA l most).length≤12:=by
 unfold bgA;split
 ·rename_i h
  obtain⟨hl,hm0,hm1⟩:=eA.1 h;obtain⟨out,ho,_⟩:=bag_says hl hm0;rw[ho];have:=inc_len (oW ho).2.2.1;have:=hl.l2;simp only[Option.getD_some];unfold nV at *;omega
 ·simp
theorem zonesV_len(l:List (List Int))(most:Int):(zonesV l most).1.length≤21:=by
 unfold zonesV;split
 ·simp
 ·rename_i h
  have hl:=(eA.1 (show cJ l most=0 by simpa using h)).1;have h1:=hl.n2;have h2:=zonesF_len (rs:=cA l (nV l)) (most:=most) (n:=nV l) (nV l+1) 0;simp only;omega
set_option maxRecDepth 20000 in
theorem iE(w:World)(lo hi lo2 hi2:Nat)(l:List (List Int))(v u:Value)(from' to' most:Int)(br:List Int)(h:RdII w lo hi v l)(hlen:l.length≤maxLen)(hrl:∀r∈l,r.length≤maxLen)(h2:RdI w lo2 hi2 u br)(hlen2:br.length≤maxLen) :
  Ca Tryz.prog 11 [v,.int .i64 from',.int .i64 to',.int .i64 most,u] w fun r w'=>r= .bool true∧Chg [] w w':=by
 obtain⟨va,vc,rfl,hva⟩:=RdII.outI h;obtain⟨ua,uc,rfl,hua⟩:=RdI.outI h2;refine cM (Sat.nil w M0) Tryz.func11 J (by simp[Tryz.ntmps11]) ?_;refine aD ?_;refine aB ?_;(refine aA1 vq (aE (aD (aD ?_))));refine kL (σ:={b:Bool//b=false→l.length≤15∧(∀r∈l,r.length≤25)∧br.length≤30}) (fun b=>[(0,.slice va l.length vc),(1,.int .i64 from'),(2,.int .i64 to'),(3,.int .i64 most),(4,.slice ua br.length uc),(48,.bool b.1)]) (fun _=>[]) ?_ ?_;rotate_left
 ·intro K2 hK2;(refine aB (aA1 vq ?_));refine aI (val:= .bool (wideB l)) qE J J J J (fun w hs=> ?_) ?_;exact wide_ca w lo hi _ l (RdII.keep h hs.chg0) hlen hrl;cases hwd:wideB l with
  | true=>
   (refine aA1 vq ?_;(iterate 4 refine aA3 zq ?_);(iterate 3 refine dZ J J ?_);refine aA3 zq (aA1 vq (aA1 vq ?_));(iterate 3 refine aA3 zq ?_);refine aA1 vq (aE ?_))
   exact hK2 ⟨true,fun e=>(by cases e)⟩ _ _ ⟨rfl,rfl,rfl,rfl,rfl,rfl,trivial⟩ (Sp.refl _)
  | false=>
   obtain⟨hl15,hr25⟩:=wide_no hwd;by_cases g1:l.length>6
   ·by_cases g2:l.length≤12
    ·(refine aA1 vq (aC J (aA1 vq (aC J (aA1 vq (aC J (aB4 yq qG (aC J (aA1 vq (aC J (aA1 vq (aC J ?_)))))))))));refine aA1 vq (aC J (oA qE J J J qG (aC J ?_)));(iterate 3 refine aA1 vq ?_);(iterate 3 refine aA3 zq ?_);refine aA1 vq (aE ?_))
     exact hK2 ⟨true,fun e=>(by cases e)⟩ _ _ ⟨rfl,rfl,rfl,rfl,rfl,rfl,trivial⟩ (Sp.refl _)
    ·by_cases g3:br.length>30
     ·(refine aA1 vq (aC J (aA1 vq (aC J (aA1 vq (aC J (aB4 yq qG (aC J (aA1 vq (aC J (aA1 vq (aC J ?_)))))))))));refine aA1 vq (aC J (gH qE J J J qG (aC J ?_)));(iterate 3 refine aA1 vq ?_);refine aC J (aA1 vq (aC J (aA1 vq (aC J (aB4 yq qG (aA1 vq (aE ?_))))))))
      exact hK2 ⟨true,fun e=>(by cases e)⟩ _ _ ⟨rfl,rfl,rfl,rfl,rfl,rfl,trivial⟩ (Sp.refl _)
     ·(refine aA1 vq (aC J (aA1 vq (aC J (aA1 vq (aC J (aB4 yq qG (aC J (aA1 vq (aC J (aA1 vq (aC J ?_)))))))))));refine aA1 vq (aC J (gH qE J J J qG (aC J ?_)));(iterate 3 refine aA1 vq ?_);refine aC J (aA1 vq (aC J (aA1 vq (aC J (aB3 yq qG (aA1 vq (aE ?_))))))))
      exact hK2 ⟨false,fun _=>⟨hl15,hr25,by omega⟩⟩ _ _ ⟨J,J,J,J,J,J,trivial⟩ (Sp.refl _)
   ·by_cases g3:br.length>30
    ·(refine aA1 vq (aC J (aA1 vq (aC J (aA1 vq (aC J (aB3 yq qG (aC J (aA1 vq ?_))))))));(iterate 3 refine aA3 zq ?_);refine aC J ?_;(iterate 3 refine aA1 vq ?_);refine aC J (aA1 vq (aC J (aA1 vq (aC J (aB4 yq qG (aA1 vq (aE ?_))))))))
     exact hK2 ⟨true,fun e=>(by cases e)⟩ _ _ ⟨rfl,rfl,rfl,rfl,rfl,rfl,trivial⟩ (Sp.refl _)
    ·(refine aA1 vq (aC J (aA1 vq (aC J (aA1 vq (aC J (aB3 yq qG (aC J (aA1 vq ?_))))))));(iterate 3 refine aA3 zq ?_);refine aC J ?_;(iterate 3 refine aA1 vq ?_);refine aC J (aA1 vq (aC J (aA1 vq (aC J (aB3 yq qG (aA1 vq (aE ?_))))))))
     exact hK2 ⟨false,fun _=>⟨hl15,hr25,by omega⟩⟩ _ _ ⟨J,J,J,J,J,J,trivial⟩ (Sp.refl _)
 rintro⟨b,hb⟩;cases b with
 | true=>
  (refine aH J (aD (aB ?_)))
  refine aI (val:= .bool true) qE J J J J (fun w hs=> ?_) ?_;exact cZ w;(refine aA1 vq (aE (aQ ?_)));refine aA2 wq qF fun w hs=> ?_;exact⟨J,hs.chg0⟩
 | false=>
 obtain⟨hl15,hr25,hb30⟩:=hb rfl;clear hlen hrl hlen2;have hlm:l.length≤maxLen:=by simp only[maxLen];omega
 have hrm:∀r∈l,r.length≤maxLen:=fun r hr=>by have:=hr25 r hr;simp only[maxLen];omega
 (refine aF J (aJ (aD (aB (aA1 vq ?_)))))
 refine bB (β:=Value×List (Value×List Int)) qE [] _ M0 J J J J (Sp.refl _) qJ (fun w' hs=>cloneAll_ca w' lo hi _ l (RdII.keep h hs.chg0) qG (fun r hr=>by have:=hr25 r hr;omega)) ?_;rintro⟨_,X⟩ ov ⟨rfl,hX⟩;dsimp only[List.cons_append,List.nil_append] at hX ⊢;(refine aA1 vq ?_);refine bB (β:=Value) qE [] _ M0 J J J J (Sp.refl _) qJ (fun w' hs=>iB w' lo2 hi2 _ br (RdE.keep h2 hs.chg0) qG) ?_;rintro _ mv rfl;dsimp only[List.cons_append,List.nil_append];(refine aA1 vq (aA1 vq (aE (aD (aB (aA1 vq ?_))))));refine bB (β:=Value×List (Value×List Int)) qE [] _ M0 J J J J (Sp.refl _) qJ (fun w' hs=>regretsA_ca w' 0 w'.heap.size _ l (by have:=fZ (t:=3) (v:=ov) hs (X:=X) qF qF;rw[hX] at this;exact this)) ?_;rintro⟨ra,XA⟩ _ ⟨rfl,hXA⟩;dsimp only[List.cons_append,List.nil_append] at hXA ⊢;(refine aA1 vq (aA7 yq (aA7 yq (aA1 vq (aA1 vq (aE (aD (aB (aA1 vq ?_)))))))));refine bB (β:=Value×List (Value×List Int)) qE [] _ M0 J J J J (Sp.refl _) qJ (fun w' hs=>rregA_ca w' lo hi _ l (RdII.keep h hs.chg0) hlm hrm) ?_;rintro⟨rb,XB⟩ _ ⟨rfl,hXB⟩;dsimp only[List.cons_append,List.nil_append] at hXB ⊢;have hrg:=regA_len l;(refine aA1 vq (aA7 yq (aA7 yq (aA1 vq (aA1 vq (aE (aD (aD (aB (aA1 vq (aA1 vq (aB1 yq qG ?_)))))))))));refine aA1 vq (aC J (aA1 vq (aC J (aA1 vq (aC J ?_))))));refine aI (val:= .bool true) qE J J J J (fun w hs=> ?_) ?_;exact eqII_ca w 0 w.heap.size 0 w.heap.size ra rb (regA l) (by have:=fZ (t:=3) (v:=ra) hs (X:=XA) qF qF;rw[hXA] at this;exact this) (by have:=fZ (t:=3) (v:=rb) hs (X:=XB) qF qF;rw[hXB] at this;exact this) qG (fun r hr=>by have:=hrg.2 r hr;omega);(refine aC J (aA1 vq (aA1 vq (aE (aF J (aJ (aD (aB ?_)))))));(iterate 3 refine aA1 vq ?_));refine aI (val:= .tuple #[.int .i64 (lG l from' to').1,.int .i64 (lG l from' to').2.1,.int .i64 (lG l from' to').2.2]) qE J J J J (fun w hs=> ?_) ?_;exact wax_ca w 0 w.heap.size _ l from' to' (by have:=fZ (t:=3) (v:=ov) hs (X:=X) qF qF;rw[hX] at this;exact this);(refine aA1 vq ?_;(iterate 3 refine aA7 yq ?_);(iterate 3 refine aA1 vq ?_);refine aE (aD (aB ?_));(iterate 3 refine aA1 vq ?_));refine aI (val:= .tuple #[.int .i64 (lG l from' to').1,.int .i64 (lG l from' to').2.1,.int .i64 (lG l from' to').2.2]) qE J J J J (fun w hs=> ?_) ?_;exact rwax_ca w lo hi _ l from' to' (RdII.keep h hs.chg0) hlm hrm;(refine aA1 vq ?_;(iterate 3 refine aA7 yq ?_);(iterate 3 refine aA1 vq ?_);refine aE (aD (aD (aB (aA1 vq (aA1 vq (aB1 yq qG (aA1 vq (aC J (aA1 vq (aC J (aA1 vq ?_)))))))))));refine aC J (aB1 yq qG (aA1 vq (aA1 vq (aC J (aA1 vq (aC J (aA1 vq (aC J (aB1 yq qG (aA1 vq (aE ?_)))))))))));refine aF J (aJ (aD (aB (aA1 vq (aA1 vq ?_))))));refine bB (β:=Value) qE [] _ M0 J J J J (Sp.refl _) qJ (fun w' hs=>bagA_ca w' 0 w'.heap.size _ l most (by have:=fZ (t:=3) (v:=ov) hs (X:=X) qF qF;rw[hX] at this;exact this)) ?_;rintro ga _ rfl;dsimp only[List.cons_append,List.nil_append];(refine aA1 vq (aA7 yq (aA7 yq (aA1 vq (aA1 vq (aE (aD (aB (aA1 vq (aA1 vq ?_))))))))))
 refine bB (β:=Value) qE [] _ M0 J J J J (Sp.refl _) qJ (fun w' hs=>rbag_ca w' lo hi _ l most (RdII.keep h hs.chg0) hlm hrm) ?_;rintro gb _ rfl;dsimp only[List.cons_append,List.nil_append];have hgl:=bgA_len l most;(refine aA1 vq (aA7 yq (aA7 yq (aA1 vq (aA1 vq (aE (aD (aD (aB (aA1 vq (aA1 vq (aB1 yq qG ?_)))))))))));refine aA1 vq (aC J (aA1 vq (aC J (aA1 vq (aC J ?_))))));refine aI (val:= .bool true) qE J J J J (fun w hs=> ?_) ?_;exact nL w 0 w.heap.size 0 w.heap.size ga gb (chI (bgA l most)) (hs.rdI (v:=ga) (t:=3) (n:=(bgA l most).length) qF (bT _).symm) (hs.rdI (v:=gb) (t:=3) (n:=(bgA l most).length) qF (bT _).symm) (by rw[bT];omega);(refine aC J (aA1 vq (aA1 vq (aE (aF J (aJ (aD (aB (aA1 vq (aA1 vq ?_))))))))));refine bB (β:=Value) qE [] _ M0 J J J J (Sp.refl _) qJ (fun w' hs=>zonesA_ca w' 0 w'.heap.size _ l most (by have:=fZ (t:=3) (v:=ov) hs (X:=X) qF qF;rw[hX] at this;exact this)) ?_;rintro za _ rfl;dsimp only[List.cons_append,List.nil_append];refine bW (fun w hs=>hs.slice2 (v:=za) qF) ?_;rintro⟨zp,zc,rfl⟩;(refine aA1 vq (aA7 yq (aA7 yq (aA1 vq (aA1 vq (aE (aD (aB (aA1 vq (aA1 vq ?_))))))))));refine bB (β:=Value) qE [] _ M0 J J J J (Sp.refl _) qJ (fun w' hs=>rzones_ca w' lo hi _ l most (RdII.keep h hs.chg0) hlm hrm) ?_;rintro zb _ rfl;dsimp only[List.cons_append,List.nil_append];refine bW (fun w hs=>hs.slice2 (v:=zb) qF) ?_;rintro⟨yp,yc,rfl⟩;have hzl:=zonesV_len l most;obtain⟨Z,hZ⟩:∃Z,Z=(zonesV l most).1:=⟨_,rfl⟩;rw[←hZ] at hzl ⊢;(refine aA1 vq (aA7 yq (aA7 yq (aA1 vq (aA1 vq (aE (aD (aD (aB (aA1 vq (aA1 vq (aB1 yq qG ?_)))))))))));refine aA1 vq (aC J (aA1 vq (aC J (aA1 vq (aC J (aA1 vq (aC J (aA1 vq (aC J (aB1 yq qG (aA1 vq ?_)))))))))));refine aE (aF J (aJ (aD (aD (aB ?_)))));(iterate 3 refine aA1 vq ?_);refine aE (aK ?_))
 refine bD (σ:=Nat) (fun k=>k≤Z.length) (fun k=>Z.length-k) (fun k=>[(0,.slice va l.length vc),(3,.int .i64 most),(4,.slice ua br.length uc),(11,ov),(12,mv),(23,.slice zp Z.length zc),(24,.slice yp Z.length yc),(146,.int .i64 Z.length),(147,.int .i64 k)])
  (fun _=>[.ow (.slice zp Z.length zc) 106 3 Z.length (znC Z),.ow (.slice yp Z.length yc) 105 3 Z.length (znC Z),.ow mv 3 1 br.length (bF br),un (cF 3 X),.ow ov 22 1 l.length (X.map (·.1))]) 0 qG ⟨rfl,rfl,rfl,rfl,rfl,rfl,rfl,rfl,rfl,trivial⟩ qF ?_
 rintro k hk K hK;(refine aD (aB (aA1 vq (aE (aD ?_)))));refine cP J (fun hc=> ?_) (fun hc=> ?_)
 ·have hk2:k<Z.length:=by omega
  clear hc;refine dO (fun w hs=>hs.ownSome (v:= .slice zp Z.length zc) qF qG) ?_;rintro⟨zg,zc',e1⟩;cases e1
  refine dO (fun w hs=>hs.ownSome (v:= .slice yp Z.length yc) qF qG) ?_;rintro⟨yg,yc',e1⟩;cases e1
  (refine aJ (aD (aK (aD (aB (aA1 vq (aA1 vq (aE (aD ?_)))))))))
  refine bY _ [] (Sp.refl _) qI qI ?_;(refine aB2 yq (aB2 yq ?_));refine aB5 uq qG qG ?_;refine dX (cs:=[.int .i64 Z[k].1,.int .i64 Z[k].2.1,.int .i64 Z[k].2.2]) qE J J J J (fun w hs q hq=>zn_at hs (g:=zg) qF hk2 q hq) ?_;(refine aB2 yq (aB2 yq ?_));refine aB5 uq qG qG ?_;refine dX (cs:=[.int .i64 Z[k].1,.int .i64 Z[k].2.1,.int .i64 Z[k].2.2]) qE J J J J (fun w hs q hq=>zn_at hs (g:=yg) qF hk2 q hq) ?_;refine qf_neF (xs:=[.int .i64 Z[k].1,.int .i64 Z[k].2.1,.int .i64 Z[k].2.2]) (ys:=[.int .i64 Z[k].1,.int .i64 Z[k].2.1,.int .i64 Z[k].2.2]) [some .i64,some .i64,some .i64] rzone_flat J J J J J ?_;rw[gA];(refine aT (aF J (aJ (aW (aB (aA4 xq qG qG (aA1 vq (aE ?_))))))));exact hK (k+1) _ _ qG qG ⟨J,J,J,J,J,J,J,J,J,trivial⟩ qF
 ·clear hc hK;(refine aZ _ J (aD (aB ?_));(iterate 3 refine aA1 vq ?_));refine aI (val:= .tuple #[.bool (eS l most br).1,.int .i64 (eS l most br).2]) qE J J J J (fun w hs=> ?_) ?_;exact pA w 0 w.heap.size 0 w.heap.size _ mv l most br (by have:=fZ (t:=3) (v:=ov) hs (X:=X) qF qF;rw[hX] at this;exact this) (hs.rdI (v:=mv) (l:=br) (t:=3) (n:=br.length) qF J) qG;(refine aA1 vq (aA7 yq (aA7 yq (aA1 vq (aA1 vq (aE (aD (aB ?_)))))));(iterate 3 refine aA1 vq ?_));refine aI (val:= .tuple #[.bool (eS l most br).1,.int .i64 (eS l most br).2]) qE J J J J (fun w hs=> ?_) ?_;exact rbreaks_ca w lo hi lo2 hi2 _ _ l most br (RdII.keep h hs.chg0) hlm hrm (RdE.keep h2 hs.chg0) qG;(refine aA1 vq (aA7 yq (aA7 yq (aA1 vq (aA1 vq (aE (aD (aD (aB (aA1 vq (aA1 vq ?_)))))))))));refine ql_neb qI J J J ?_;rw[beq_self_eq_true];(refine aA1 vq (aC J (aA1 vq (aC J (aA1 vq (aC J (aB1 yq qG (aA1 vq (aE (aF J (aJ (aD ?_)))))))))));refine aB (aA1 vq (aA1 vq ?_)));refine bB (β:=Value) qE [] _ M0 J J J J (Sp.refl _) qJ (fun w' hs=>breaksA_ca w' 0 w'.heap.size _ l most (by have:=fZ (t:=3) (v:=ov) hs (X:=X) qF qF;rw[hX] at this;exact this)) ?_;rintro bv _ rfl;dsimp only[List.cons_append,List.nil_append];refine bW (fun w hs=>hs.slice2 (v:=bv) qF) ?_;rintro⟨bp,bc,rfl⟩;rw[←hZ];(refine aA1 vq (aA7 yq (aA7 yq (aA1 vq (aA1 vq (aE (aD (aD (aB (aA1 vq (aA1 vq ?_)))))))))));refine aI (val:= .int .i64 (cJ l most)) qE J J J J (fun w hs=> ?_) ?_;exact pE w lo hi _ l most (RdII.keep h hs.chg0) hlm hrm;by_cases h0:cJ l most=0
  ·obtain⟨hl,hm0,hm1⟩:=eA.1 h0;have hst:=(starts_say hl hm0 hm1).2;rw[←(show(zonesV l most).1=zonesF (cA l (nV l)) most (nV l) (nV l+1) 0 from by unfold zonesV;rw[if_neg (by simpa using h0)]),←hZ] at hst;rw[h0];(refine aA1 vq (aE (aD (aB (aA1 vq (aA1 vq (aB1 yq qG (aA1 vq (aC J (aA1 vq (aC J (aB1 yq qG ?_)))))))))));refine aC J (aA1 vq ?_);(iterate 3 refine aA3 zq ?_);refine aC J (aA1 vq (aA1 vq (aE (aF J (aJ (aD (aD (aB (aA1 vq (aA8 yq qG (aE ?_)))))))))));refine aH J (aD (aB ?_));(iterate 3 refine aA1 vq ?_));refine aI (val:= .tuple #[.bool true,.int .i64 0]) qE J J J J (fun w hs=> ?_) ?_;exact by have:=rbreaks_ca w lo hi 0 w.heap.size _ (.slice bp Z.length bc) l most (Z.map (·.1)) (RdII.keep h hs.chg0) hlm hrm (hs.rdI (v:= .slice bp Z.length bc) (l:=Z.map (·.1)) (t:=3) (n:=Z.length) qF (by simp)) (by rw[List.length_map];omega);rw[hst] at this;exact this
   (refine aA1 vq (aA7 yq (aA7 yq (aA1 vq (aA1 vq (aE (aD (aB (aA1 vq (aB1 yq qG (aA1 vq (aC J ?_)))))))))));refine aA1 vq (aC J ?_);(iterate 3 refine aA1 vq ?_);refine aC J (aA1 vq (aC J (aA1 vq (aC J (aA1 vq (aC J (aA1 vq (aC J (aB1 yq qG (aA1 vq (aE ?_)))))))))));refine aF J (aJ (aD (aB (aA1 vq (aA1 vq ?_))))))
   refine aI (val:= .bool true) qE J J J J (fun w hs=> ?_) ?_;exact eqII_ca w 0 w.heap.size lo hi ov _ l (by have:=fZ (t:=3) (v:=ov) hs (X:=X) qF qF;rw[hX] at this;exact this) (RdII.keep h hs.chg0) qG (fun r hr=>by have:=hr25 r hr;omega);(refine aA1 vq (aC J (aA1 vq (aC J (aA1 vq (aC J ?_))))));refine aI (val:= .bool true) qE J J J J (fun w hs=> ?_) ?_;exact nL w 0 w.heap.size lo2 hi2 mv _ br (hs.rdI (v:=mv) (l:=br) (t:=3) (n:=br.length) qF J) (RdE.keep h2 hs.chg0) qG;(refine aA1 vq (aA1 vq (aC J ?_)));refine aI (val:= .bool true) qE J J J J (fun w hs=> ?_) ?_;exact cZ w;(refine aA1 vq (aA1 vq (aE (aQ ?_))));refine aA2 wq qF fun w hs=> ?_;exact⟨J,hs.chg0⟩
  ·have hz0:Z.length=0:=by rw[hZ];unfold zonesV;rw[if_pos h0];rfl
   (refine aA1 vq (aE (aD (aB (aA1 vq (aA1 vq (aB1 yq qG (aA1 vq (aC J (aA1 vq (aC J (aB0 yq qG ?_)))))))))));refine aC J (aA1 vq (aC J (aA1 vq (aC J (aA1 vq (aC J (aB3 yq qG (aC J (aA1 vq (aA1 vq (aE ?_)))))))))));refine aF J (aJ (aD (aD (aB (aA1 vq (aA9 yq qG (aE (aF J (aJ (aD (aB ?_)))))))))));refine aA1 vq (aA1 vq ?_))
   refine aI (val:= .bool true) qE J J J J (fun w hs=> ?_) ?_;exact eqII_ca w 0 w.heap.size lo hi ov _ l (by have:=fZ (t:=3) (v:=ov) hs (X:=X) qF qF;rw[hX] at this;exact this) (RdII.keep h hs.chg0) qG (fun r hr=>by have:=hr25 r hr;omega);(refine aA1 vq (aC J (aA1 vq (aC J (aA1 vq (aC J ?_))))));refine aI (val:= .bool true) qE J J J J (fun w hs=> ?_) ?_;exact nL w 0 w.heap.size lo2 hi2 mv _ br (hs.rdI (v:=mv) (l:=br) (t:=3) (n:=br.length) qF J) (RdE.keep h2 hs.chg0) qG;(refine aA1 vq (aA1 vq (aC J ?_)));refine aI (val:= .bool true) qE J J J J (fun w hs=> ?_) ?_;exact cZ w;(refine aA1 vq (aA1 vq (aE (aQ ?_))));refine aA2 wq qF fun w hs=> ?_;exact⟨J,hs.chg0⟩
theorem sumN_one:∀n,iQ (fun _=>1) n=n
 | 0=>rfl
 | n+1=>by unfold iQ;rw[sumN_one n]
theorem count_all{f:Nat→Nat}{n:Nat}:∀m,(∀s,s<m→f s<n)→iQ (fun p=>((List.range m).filter fun s=>decide (f s=p)).length) n=m
 | 0,_=>by
  have:=sumN_bd (f:=fun p=>((List.range 0).filter fun s=>decide (f s=p)).length) (B:=0) n (fun i _=>by simp);omega
 | m+1,h=>by
  have ih:=count_all (f:=f) m (fun s hs=>h s qG)
  have h1:=sumN_upd (f:=fun p=>((List.range m).filter fun s=>decide (f s=p)).length) (g:=fun p=>((List.range (m+1)).filter fun s=>decide (f s=p)).length) (k:=f m) (d:=1) n (h m qG) (fun i hi hne=>by
   have e:([m].filter fun s=>decide (f s=i))=[]:=by simp[Ne.symm hne]
   simp only[List.range_succ,List.filter_append,e,List.append_nil]) (by
   have e:([m].filter fun s=>decide (f s=f m))=[m]:=by simp
   simp only[List.range_succ,List.filter_append,e,List.length_append,List.length_singleton])
  rw[h1,ih]
theorem surj{f:Nat→Nat}{n:Nat}(hf:∀s,s<n→f s<n)(inj:∀s t,s<n→t<n→f s=f t→s=t):∀p,p<n→∃s,s<n∧f s=p:=fun p hp=>by
 rcases Classical.em (∃s,s<n∧f s=p) with h|h
 ·exact h
 ·exfalso;have h1:=count_all (f:=f) n hf
  have h2:iQ (fun p=>((List.range n).filter fun s=>decide (f s=p)).length) n≤iQ (fun i=>if i=p then 0 else 1) n:=sumN_le n fun i hi=>by
   split
   ·rename_i e
    subst e
    have:((List.range n).filter fun s=>decide (f s=i))=[]:=List.filter_eq_nil_iff.2 fun s hs=>by
     have:=List.mem_range.1 hs;simp only[decide_eq_true_eq];exact fun e=>h ⟨s,this,e⟩
    rw[this];simp
   ·rcases Classical.em (∃s,s<n∧f s=i) with⟨s,hs,e⟩|h3
    ·refine Nat.le_trans (fL _ (fun t=>decide (t=s)) _ fun t ht h4=> ?_) (filter_one s n);have:=List.mem_range.1 ht;simp only[decide_eq_true_eq] at h4 ⊢;exact inj t s this hs qG
    ·have:((List.range n).filter fun s=>decide (f s=i))=[]:=List.filter_eq_nil_iff.2 fun s hs=>by
      have:=List.mem_range.1 hs;simp only[decide_eq_true_eq];exact fun e=>h3 ⟨s,this,e⟩
     rw[this];simp
  have h3:=sumN_upd (f:=fun i=>if i=p then 0 else 1) (g:=fun _=>1) (k:=p) (d:=1) n hp (fun i _ hne=>by simp[hne]) (by simp);rw[sumN_one] at h3;omega
def Tot(o n:Nat):Prop:=∀s t,s<n→t<n→s≠t→fa o s t=true∨fa o t s=true
theorem tot_sum{o n s:Nat}(ht:Tot o n)(ho:Ord o)(hc:NoC o n)(hn:n≤8)(hs:s<n):upN o s n+dnN o s n+1=n:=by
 have h1:=up_dn hc ho hn hs;have h2:=jS (fun t=>fa o t s) (fun t=>fa o s t) (List.range n) (fun t h h3=>hc.asym ho hn (List.mem_range.1 h) hs h3);have h3:=filter_or (fun t=>fa o t s||fa o s t) (fun t=>decide (t=s)) (List.range n);have h4:=filter_one s n
 have h5:((List.range n).filter fun t=>(fa o t s||fa o s t)||decide (t=s))=List.range n:=List.filter_eq_self.2 fun t h=>by
  have:=List.mem_range.1 h;by_cases e:t=s
  ·simp[e]
  ·rcases ht t s this hs e with h|h<;>simp[h]
 rw[h5,List.length_range] at h3;unfold upN dnN at *;omega
theorem up_lt{o n s t:Nat}(ho:Ord o)(hc:NoC o n)(hn:n≤8)(hs:s<n)(ht:t<n)(h:fa o s t=true):upN o s n<upN o t n:=
 oZ _ _ _ (fun a ha h1=>ho.tr a s t (by have:=List.mem_range.1 ha;omega) qG qG h1 h) ⟨s,List.mem_range.2 hs,h,hc s hs⟩
theorem tot_known{o n k:Nat}(ht:Tot o n)(ho:Ord o)(hc:NoC o n)(hn:n≤8)(hk:k≤n):dQ o n k=true:=pB.2 fun p hp=>by
 obtain⟨s,hs,e⟩:=surj (f:=fun s=>upN o s n) (n:=n) (fun s hs=>by have:=tot_sum ht ho hc hn hs;omega) (fun s t hs ht' e=>by
  rcases Classical.em (s=t) with h|h
  ·exact h
  ·rcases ht s t hs ht' h with h1|h1
   ·have:=up_lt ho hc hn hs ht' h1;omega
   ·have:=up_lt ho hc hn ht' hs h1;omega) p qG
 have:=tot_sum ht ho hc hn hs;exact⟨s,hs,e,by omega⟩
theorem tot_or{o n:Nat}(h:¬Tot o n):∃p∈gK n,undO o p=true:=by
 rcases Classical.em (∃p∈gK n,undO o p=true) with h1|h1
 ·exact h1
 ·refine absurd (fun s t hs ht hne=> ?_) h;rcases Classical.em (fa o s t=true∨fa o t s=true) with h2|h2
  ·exact h2
  ·exfalso;rw[not_or] at h2;rcases Nat.lt_or_gt_of_ne hne with h3|h3
   ·exact h1 ⟨(t,s),eY.2 ⟨ht,h3⟩,gZ.2 ⟨Bool.eq_false_iff.2 h2.2,Bool.eq_false_iff.2 h2.1⟩⟩
   ·exact h1 ⟨(s,t),eY.2 ⟨hs,h3⟩,gZ.2 ⟨Bool.eq_false_iff.2 h2.1,Bool.eq_false_iff.2 h2.2⟩⟩
theorem plan_und{n k:Nat}(hn:n≤8)(hk:k≤n):∀u o,undN o n≤u→Ord o→NoC o n→planO n k o≤undN o n
 | u,o,hu,ho,hc=>by
  by_cases hkn:dQ o n k=true
  ·rw[mA hn ho,if_pos hkn];omega
  ·obtain⟨p,hp,hup⟩:=tot_or (o:=o) (n:=n) (fun ht=>hkn (tot_known ht ho hc hn hk));have hU:=Und.of ho hn hp hup;have h1:=nN hU;have h2:=nN hU.swap;have h3:=plan_worth (k:=k) hU
   match u with
   | 0=>omega
   | u+1=>
    have h4:=plan_und hn hk u _ qG (ho.with (f:=p.1) (s:=p.2) (by have:=hU.hx;omega) (by have:=hU.hy;omega)) (hc.with hU);have h5:=plan_und hn hk u _ qG (ho.with (f:=p.2) (s:=p.1) (by have:=hU.hy;omega) (by have:=hU.hx;omega)) (hc.with hU.swap);unfold worthO at h3;omega
theorem pairs_len{n:Nat}(hn:n≤8)(h1:1≤n):(gK n).length<n*n∧(n≤5→(gK n).length≤10):=by
 obtain rfl|rfl|rfl|rfl|rfl|rfl|rfl|rfl:n=1∨n=2∨n=3∨n=4∨n=5∨n=6∨n=7∨n=8:=by omega
 all_goals decide
theorem und_len(o n:Nat):undN o n≤(gK n).length:=List.length_filter_le _ _
theorem fold_mem(u:Nat×Nat→Bool)(g:Nat×Nat→Nat):∀(l:List (Nat×Nat)) (a:Nat),l.foldl (fun best p=>cond (u p) (min best (g p)) best) a=a∨∃p∈l,u p=true∧l.foldl (fun best p=>cond (u p) (min best (g p)) best) a=g p
 | [],a=> .inl rfl
 | p::l,a=>by
  rw[List.foldl_cons];rcases fold_mem u g l (cond (u p) (min a (g p)) a) with h|⟨q,hq,h1,h2⟩
  ·rw[h];cases hu:u p with
   | false=>exact .inl rfl
   | true=>
    rw[cond_true];rcases Nat.le_total a (g p) with h3|h3
    ·exact .inl (Nat.min_eq_left h3)
    ·exact .inr ⟨p,List.mem_cons_self,hu,Nat.min_eq_right h3⟩
  ·exact .inr ⟨q,List.mem_cons_of_mem _ hq,h1,h2⟩
theorem plan_at{n k o:Nat}(hn:n≤8)(h1:1≤n)(hk:k≤n)(ho:Ord o)(hc:NoC o n)(hkn:¬dQ o n k=true):∃p∈gK n,undO o p=true∧worthO n k o p.1 p.2=planO n k o:=by
 have h2:=plan_und hn hk _ o (Nat.le_refl _) ho hc;have h3:=und_len o n;have h4:=(pairs_len hn h1).1;have h5:=mA (k:=k) hn ho;rw[if_neg hkn] at h5;rcases fold_mem (undO o) (fun p=>worthO n k o p.1 p.2) (gK n) (n*n) with h6|⟨p,hp,hu,h6⟩
 ·rw[h6] at h5;omega
 ·exact⟨p,hp,hu,by rw[h5,h6]⟩
theorem plan_zero{n k o:Nat}(hn:n≤8)(h1:1≤n)(hk:k≤n)(ho:Ord o)(hc:NoC o n):planO n k o=0↔dQ o n k=true:=by
 constructor
 ·intro h;rcases Classical.em (dQ o n k=true) with h2|h2
  ·exact h2
  ·obtain⟨p,_,_,h3⟩:=plan_at hn h1 hk ho hc h2;unfold worthO at h3;omega
 ·intro h;rw[mA hn ho,if_pos h]
structure LinO(o n:Nat)(L:List Nat):Prop where
 perm:L.Perm (List.range n)
 idx:∀a b,a<8→b<8→fa o a b=true→a<n∧b<n∧L.idxOf a<L.idxOf b
theorem LinO.len{o n:Nat}{L:List Nat}(h:LinO o n L):L.length=n:=by rw[h.perm.length_eq,List.length_range]
theorem LinO.nodup{o n:Nat}{L:List Nat}(h:LinO o n L):L.Nodup:=h.perm.nodup_iff.2 List.nodup_range
theorem LinO.mem{o n:Nat}{L:List Nat}(h:LinO o n L){s:Nat}:s∈L↔s<n:=by rw[h.perm.mem_iff,List.mem_range]
theorem LinO.noC{o n:Nat}{L:List Nat}(h:LinO o n L)(hn:n≤8):NoC o n:=fun s hs=>Bool.eq_false_iff.2 fun hh=>by
 have:=(h.idx s s qG qG hh).2.2;omega
theorem LinO.with{o n x y:Nat}{L:List Nat}(h:LinO o n L)(hn:n≤8)(hx:x<n)(hy:y<n)(hxy:L.idxOf x<L.idxOf y):LinO (cU o x y) n L:=
 ⟨h.perm,with_sub (R:=fun a b=>a<n∧b<n∧L.idxOf a<L.idxOf b) qG qG (fun a b c _ _ _ h1 h2=>⟨h1.1,h2.2.1,by omega⟩) h.idx ⟨hx,hy,hxy⟩⟩
theorem idx_ne{o n:Nat}{L:List Nat}(h:LinO o n L){x y:Nat}(hx:x<n)(hne:x≠y):L.idxOf x≠L.idxOf y:=fun e=>hne (by
 have h1:L.idxOf x<L.length:=List.idxOf_lt_length_iff.2 (h.mem.2 hx);have h2:L.idxOf y<L.length:=by omega
 have e1:=List.getElem_idxOf h1;have e2:=List.getElem_idxOf h2;simp only[e] at e1;exact e1.symm.trans e2)
theorem lt_le{L:List Nat}(hn:L.Nodup)(i:Nat):(L.filter fun t=>decide (L.idxOf t<i)).length≤i:=by
 have e:L.filter (fun t=>decide (L.idxOf t<i))=(L.take i).filter (fun t=>decide (L.idxOf t<i)):=by
  conv=>lhs;arg 2;rw[←List.take_append_drop i L]
  rw[List.filter_append]
  have:(L.drop i).filter (fun t=>decide (L.idxOf t<i))=[]:=List.filter_eq_nil_iff.2 fun t ht=>by
   obtain⟨j,hj,rfl⟩:=List.mem_iff_getElem.1 ht;rw[List.length_drop] at hj;rw[List.getElem_drop,hn.idxOf_getElem];simp
  rw[this,List.append_nil]
 rw[e];exact Nat.le_trans (List.length_filter_le _ _) (by rw[List.length_take];omega)
theorem gt_le{L:List Nat}(hn:L.Nodup)(i:Nat):(L.filter fun t=>decide (i<L.idxOf t)).length≤L.length-(i+1):=by
 have e:L.filter (fun t=>decide (i<L.idxOf t))=(L.drop (i+1)).filter (fun t=>decide (i<L.idxOf t)):=by
  conv=>lhs;arg 2;rw[←List.take_append_drop (i+1) L]
  rw[List.filter_append]
  have:(L.take (i+1)).filter (fun t=>decide (i<L.idxOf t))=[]:=List.filter_eq_nil_iff.2 fun t ht=>by
   obtain⟨j,hj,rfl⟩:=List.mem_iff_getElem.1 ht;rw[List.length_take] at hj;rw[List.getElem_take,hn.idxOf_getElem];simp;omega
  rw[this,List.nil_append]
 rw[e];exact Nat.le_trans (List.length_filter_le _ _) (by rw[List.length_drop];omega)
theorem lin_at{o n s p:Nat}{L:List Nat}(h:LinO o n L)(hn:n≤8)(hs:s<n)(h1:upN o s n=p)(h2:dnN o s n+1+p=n):L.idxOf s=p:=by
 have h3:L.idxOf s<L.length:=List.idxOf_lt_length_iff.2 (h.mem.2 hs);have hl:=h.len
 have h4:upN o s n≤L.idxOf s:=by
  refine Nat.le_trans ?_ (lt_le h.nodup (L.idxOf s));rw[(h.perm.filter _).length_eq]
  exact fL _ _ _ fun t ht hf=>by
   have:=List.mem_range.1 ht;simpa using(h.idx t s qG qG hf).2.2
 have h5:dnN o s n≤L.length-(L.idxOf s+1):=by
  refine Nat.le_trans ?_ (gt_le h.nodup (L.idxOf s));rw[(h.perm.filter _).length_eq]
  exact fL _ _ _ fun t ht hf=>by
   have:=List.mem_range.1 ht;simpa using(h.idx s t qG qG hf).2.2
 omega
theorem lin_same{o n k:Nat}{L M:List Nat}(h:LinO o n L)(g:LinO o n M)(hn:n≤8)(hk:dQ o n k=true)(hkn:k≤n):L.take k=M.take k:=by
 refine List.ext_getElem (by rw[List.length_take,List.length_take,h.len,g.len]) (fun p h1 h2=> ?_);rw[List.length_take] at h1;obtain⟨s,hs,h3,h4⟩:=pB.1 hk p qG;have h5:=lin_at h hn hs h3 h4;have h6:=lin_at g hn hs h3 h4;have hl:=h.len;have gl:=g.len;have e1:=List.getElem_idxOf (x:=s) (xs:=L) qG;have e2:=List.getElem_idxOf (x:=s) (xs:=M) qG;simp only[h5] at e1;simp only[h6] at e2;rw[List.getElem_take,List.getElem_take,e1,e2]
def nextO(o n S:Nat):Option Nat:=(List.range n).find? fun s=>eO o n s S
def kJ(o n:Nat):Nat→List Nat×Nat
 | 0=>([],0)
 | j+1=>match nextO o n (kJ o n j).2 with
  | some s=>((kJ o n j).1++[s],(kJ o n j).2 ||| 2^s)
  | none=>kJ o n j
structure FirI(o n j:Nat)(L:List Nat)(S:Nat):Prop where
 rest:∃R,(L++R).Perm (List.range n)
 len:L.length=j
 bit:∀t,t<n→(S.testBit t=true↔t∈L)
 bd:S<2^n
 down:∀s,s∈L→∀t,t<n→fa o t s=true→t∈L∧L.idxOf t<L.idxOf s
theorem or_bit{S s t:Nat}:(S ||| 2^s).testBit t=(S.testBit t||decide (s=t)):=by rw[Nat.testBit_or,Nat.testBit_two_pow]
theorem min_in{o n S:Nat}(hc:NoC o n)(ho:Ord o)(hn:n≤8):∀k s,s<n→S.testBit s=false→upN o s n≤k→∃t,t<n∧eO o n t S=true
 | k,s,hs,hb,hk=>by
  by_cases h:∃u,u<n∧S.testBit u=false∧fa o u s=true
  ·obtain⟨u,hu,hbu,hf⟩:=h;have hlt:=up_lt ho hc hn hu hs hf
   match k with
   | 0=>omega
   | k+1=>exact min_in hc ho hn k u hu hbu qG
  ·refine⟨s,hs,gR.2 ⟨hb,fun u hu hf=> ?_⟩⟩;cases h2:S.testBit u with
   | true=>rfl
   | false=>exact absurd ⟨u,hu,h2,hf⟩ h
theorem fir_step{o n j:Nat}{L:List Nat}{S s:Nat}(h:FirI o n j L S)(hs:s<n)(hf:eO o n s S=true):FirI o n (j+1) (L++[s]) (S ||| 2^s):=by
 obtain⟨R,hR⟩:=h.rest;obtain⟨h1,h2⟩:=gR.1 hf;have hsL:s∉L:=fun hm=>by rw[(h.bit s hs).2 hm] at h1;cases h1
 have hsR:s∈R:=by
  have:s∈L++R:=hR.mem_iff.2 (List.mem_range.2 hs);exact(List.mem_append.1 this).resolve_left hsL
 refine⟨⟨R.erase s,?_⟩,by rw[List.length_append,h.len];rfl,fun t ht=> ?_,?_,fun t ht u hu hf2=> ?_⟩
 ·rw[List.append_assoc];exact(List.Perm.append_left L (List.perm_cons_erase hsR).symm).trans hR
 ·rw[or_bit,Bool.or_eq_true,h.bit t ht,List.mem_append,List.mem_singleton,decide_eq_true_iff];exact⟨fun h=>h.imp_right Eq.symm,fun h=>h.imp_right Eq.symm⟩
 ·refine Nat.or_lt_two_pow h.bd (Nat.pow_lt_pow_right qG hs)
 ·rcases List.mem_append.1 ht with h3|h3
  ·obtain⟨h4,h5⟩:=h.down t h3 u hu hf2;exact⟨List.mem_append_left _ h4,by rw[List.idxOf_append,List.idxOf_append,if_pos h4,if_pos h3];exact h5⟩
  ·obtain rfl:=List.mem_singleton.1 h3;have h4:=(h.bit u hu).1 (h2 u hu hf2);refine⟨List.mem_append_left _ h4,?_⟩;rw[List.idxOf_append,List.idxOf_append,if_pos h4,if_neg hsL];have:=List.idxOf_lt_length_iff.2 h4;omega
theorem fir_is{o n:Nat}(hc:NoC o n)(ho:Ord o)(hn:n≤8):∀j,j≤n→FirI o n j (kJ o n j).1 (kJ o n j).2
 | 0,_=>⟨⟨List.range n,by simp[kJ]⟩,rfl,fun t _=>by simp[kJ],Nat.pow_pos qG,fun s hs=>by simp[kJ] at hs⟩
 | j+1,hj=>by
  have ih:=fir_is hc ho hn j qG;unfold kJ;split
  ·rename_i s hs
   have h1:=List.find?_some hs;have h2:=List.mem_of_find?_eq_some hs;exact fir_step ih (List.mem_range.1 h2) h1
  ·rename_i hs
   exfalso;obtain⟨R,hR⟩:=ih.rest;have h1:=hR.length_eq;rw[List.length_append,ih.len,List.length_range] at h1
   obtain⟨s,hsR⟩:∃s,s∈R:=by
    cases R with
    | nil=>simp at h1;omega
    | cons s R=>exact⟨s,List.mem_cons_self⟩
   have hsn:s<n:=List.mem_range.1 (hR.mem_iff.1 (List.mem_append_right _ hsR));have hnd:=hR.nodup_iff.2 List.nodup_range
   have hb:(kJ o n j).2.testBit s=false:=Bool.eq_false_iff.2 fun h=>by
    have h2:=(ih.bit s hsn).1 h;exact(List.nodup_append.1 hnd).2.2 s h2 s hsR J
   obtain⟨t,ht,hf⟩:=min_in hc ho hn (upN o s n) s hsn hb (Nat.le_refl _);exact List.find?_eq_none.1 hs t (List.mem_range.2 ht) hf
def InO(o n:Nat):Prop:=∀a b,a<8→b<8→fa o a b=true→a<n∧b<n
theorem Lb.Ok.inO{l:Lb}(h:l.Ok):InO l.ord l.n:=iM (R:=fun a b=>a<l.n∧b<l.n) h.in8 (fun _ _ _ _ _ _ h1 h2=>⟨h1.1,h2.2⟩) fun p hp=>⟨(h.in p hp).1,(h.in p hp).2.1⟩
theorem first_lin{o n:Nat}(hc:NoC o n)(ho:Ord o)(hn:n≤8)(hi:InO o n):LinO o n (kJ o n n).1:=by
 have h:=fir_is hc ho hn n (Nat.le_refl _);obtain⟨R,hR⟩:=h.rest;have h1:=hR.length_eq;rw[List.length_append,h.len,List.length_range] at h1;have h2:R=[]:=List.length_eq_zero_iff.1 qG;rw[h2,List.append_nil] at hR;refine⟨hR,fun a b ha hb hf=> ?_⟩;obtain⟨h3,h4⟩:=hi a b ha hb hf;exact⟨h3,h4,(h.down b (hR.mem_iff.2 (List.mem_range.2 h4)) a h3 hf).2⟩
def rnkK(real:List Int)(x:Int):Int:= -(real.getD x.toNat 0)
def rankL(real:List Int):List Int:=ordK (rnkK real) real.length
def dP(R:List Nat):Nat:=R.foldr (fun s S=>S ||| 2^s) 0
theorem dN(t:Nat):∀R:List Nat,(dP R).testBit t=decide (t∈R)
 | []=>by simp[dP]
 | s::R=>by
  have ih:=dN t R
  show(dP R ||| 2^s).testBit t=_
  rw[or_bit,ih];by_cases h:t=s
  ·subst h;simp
  ·have h2:¬s=t:=fun e=>h e.symm
   simp[h,h2]
theorem bitL_ext{R R':List Nat}(h:∀t,t∈R↔t∈R'):dP R=dP R':=Nat.eq_of_testBit_eq fun t=>by
 rw[dN,dN];exact decide_eq_decide.2 (h t)
theorem pJ{R:List Nat}{n:Nat}(h:∀t,t∈R↔t<n):dP R=2^n-1:=Nat.eq_of_testBit_eq fun t=>by
 rw[dN,Nat.testBit_two_pow_sub_one];exact decide_eq_decide.2 (h t)
theorem bitL_cons{s:Nat}{R:List Nat}(h:s∉R):dP (s::R) ^^^ 2^s=dP R:=Nat.eq_of_testBit_eq fun t=>by
 by_cases e:t=s
 ·subst e;rw[jA (by rw[dN];simp),dN];simp[h]
 ·rw[bit_xor e,dN,dN];simp[e]
def agB(s S:Nat)(x:Nat×Int×Int):Bool:=decide (x.2.1.toNat=s)&&S.testBit x.2.2.toNat
def agL(l:Lb)(s S:Nat):List Nat:=((shL l).filter (agB s S)).map (·.1)
theorem ag_mem{l:Lb}{s S i:Nat}:i∈agL l s S↔∃t,Sh l i s t∧S.testBit t=true:=by
 unfold agL agB;simp only[List.mem_map,List.mem_filter,Bool.and_eq_true,decide_eq_true_iff];constructor
 ·rintro⟨x,⟨h1,h2,h3⟩,rfl⟩;have:=sh_mem h1;rw[h2] at this;exact⟨_,this,h3⟩
 ·rintro⟨t,h1,h2⟩;obtain⟨x,hx,h3,h4,h5⟩:=mem_sh h1;exact⟨x,⟨hx,h4,by rw[h5];exact h2⟩,h3⟩
theorem sh_fun{l:Lb}{i f s f' s':Nat}(h:Sh l i f s)(g:Sh l i f' s'):f=f'∧s=s':=by
 have:=h.2.symm.trans g.2;simpa using this
theorem sh_nodup(l:Lb):((shL l).map (·.1)).Nodup:=by
 have key:∀n,(((shP l n).map (·.1)).Nodup∧∀x∈shP l n,x.1<n):=by
  intro n
  induction n with
  | zero=>exact⟨by simp[shP],fun x hx=>by simp[shP] at hx⟩
  | succ n ih=>
   have e:shP l (n+1)=shP l n++((lH l.err (l.runs.getD n ⟨0,0,0⟩)).map fun p=>(n,p)).toList:=by
    unfold shP;rw[List.range_succ,List.filterMap_append];rw[List.filterMap_cons];cases h:lH l.err (l.runs.getD n ⟨0,0,0⟩)<;>rfl
   rw[e];cases lH l.err (l.runs.getD n ⟨0,0,0⟩) with
   | none=>
    rw[Option.map_none,Option.toList_none,List.append_nil];exact⟨ih.1,fun x hx=>by have:=ih.2 x hx;omega⟩
   | some p=>
    refine⟨?_,fun x hx=> ?_⟩
    ·rw[List.map_append];refine List.nodup_append.2 ⟨ih.1,by simp,fun a ha b hb=> ?_⟩;obtain⟨x,hx,rfl⟩:=List.mem_map.1 ha;have:=ih.2 x hx;have hb2:b=n:=by simpa using hb
     omega
    ·rcases List.mem_append.1 hx with hx|hx
     ·have:=ih.2 x hx;omega
     ·have:x=(n,p):=by simpa using hx
      rw[this];simp
 exact(key _).1
theorem ag_nodup(l:Lb)(s S:Nat):(agL l s S).Nodup:=(sh_nodup l).sublist ((List.filter_sublist).map _)
def lA(l:Lb):List Nat→List Nat
 | []=>[]
 | s::R=>agL l s (dP R)++lA l R
theorem qA{l:Lb}{i:Nat}:∀R:List Nat,i∈lA l R↔∃a s b t,R=a++s::b∧t∈b∧Sh l i s t
 | []=>by simp[lA]
 | s::R=>by
  rw[lA,List.mem_append,qA R,ag_mem];constructor
  ·rintro(⟨t,h1,h2⟩|⟨a,u,b,t,rfl,h2,h3⟩)
   ·rw[dN] at h2;exact⟨[],s,R,t,J,of_decide_eq_true h2,h1⟩
   ·exact⟨s::a,u,b,t,J,h2,h3⟩
  ·rintro⟨a,u,b,t,h1,h2,h3⟩;cases a with
   | nil=>
    simp only[List.nil_append,List.cons.injEq] at h1;obtain⟨rfl,rfl⟩:=h1;exact .inl ⟨t,h3,by rw[dN];exact decide_eq_true h2⟩
   | cons x a=>
    simp only[List.cons_append,List.cons.injEq] at h1;obtain⟨rfl,rfl⟩:=h1;exact .inr ⟨a,u,b,t,J,h2,h3⟩
theorem kF{l:Lb}:∀R:List Nat,R.Nodup→(lA l R).Nodup
 | [],_=>by simp[lA]
 | s::R,h=>by
  rw[lA];obtain⟨h1,h2⟩:=List.nodup_cons.1 h;refine List.nodup_append.2 ⟨ag_nodup l s _,kF R h2,fun i hi j hj e=> ?_⟩;subst e;obtain⟨t,h3,_⟩:=ag_mem.1 hi;obtain⟨a,u,b,t',rfl,h4,h5⟩:=(qA R).1 hj;obtain⟨rfl,rfl⟩:=sh_fun h3 h5;exact h1 (by simp)
theorem dropR_lt{l:Lb}{R:List Nat}{i:Nat}(h:i∈lA l R):i<l.runs.length:=by
 obtain⟨_,_,_,_,_,_,h⟩:=(qA R).1 h;exact h.1
def iX(l:Lb)(F:Nat→Nat×Nat)(S:Nat)(p:Nat×Nat)(s:Nat):Nat×Nat:=
 if S.testBit s=true then if(F (S ^^^ 2^s)).1+(agL l s (S ^^^ 2^s)).length<p.1 then((F (S ^^^ 2^s)).1+(agL l s (S ^^^ 2^s)).length,s) else p else p
def dpF(l:Lb)(n:Nat):Nat→Nat→Nat×Nat
 | 0,_=>(0,0)
 | k+1,S=>if S=0 then(0,0) else(List.range n).foldl (iX l (dpF l n k) S) (41,0)
def dp(l:Lb)(n S:Nat):Nat×Nat:=dpF l n S S
theorem dpStep_congr{l:Lb}{F G:Nat→Nat×Nat}{S:Nat}(h:∀s,S.testBit s=true→F (S ^^^ 2^s)=G (S ^^^ 2^s))(p:Nat×Nat)(s:Nat):iX l F S p s=iX l G S p s:=by
 unfold iX;by_cases hs:S.testBit s=true
 ·rw[h s hs]
 ·rw[if_neg hs,if_neg hs]
theorem foldl_congr2{α β:Type}{f g:α→β→α}(h:∀a b,f a b=g a b)(l:List β)(a:α):l.foldl f a=l.foldl g a:=by
 have:f=g:=funext fun a=>funext fun b=>h a b
 rw[this]
theorem dpF_eq(l:Lb)(n:Nat):∀S k,S≤k→dpF l n k S=dp l n S:=by
 intro S
 induction S using Nat.strongRecOn with
 | _ S ih=>
  have key:∀k,S≤k+1→S≠0→dpF l n (k+1) S=(List.range n).foldl (iX l (dp l n) S) (41,0):=by
   intro k hk h0;rw[dpF,if_neg h0];exact foldl_congr2 (fun p s=>dpStep_congr (fun s hs=>ih _ (nR hs) k (by have:=nR hs;omega)) p s) _ _
  intro k hk;by_cases h0:S=0
  ·subst h0;cases k<;>simp[dp,dpF]
  ·obtain⟨k,rfl⟩:∃m,k=m+1:=⟨k-1,by omega⟩;obtain⟨S',hS⟩:∃m,S=m+1:=⟨S-1,by omega⟩;rw[key k hk h0]
   show _=dpF l n S S
   rw[show dpF l n S S=dpF l n (S'+1) S from by rw[←hS],key S' qG h0]
theorem dp_zero(l:Lb)(n:Nat):dp l n 0=(0,0):=rfl
theorem dp_eq{l:Lb}{n S:Nat}(h:S≠0):dp l n S=(List.range n).foldl (iX l (dp l n) S) (41,0):=by
 obtain⟨S',hS⟩:∃m,S=m+1:=⟨S-1,by omega⟩
 show dpF l n S S=_
 rw[show dpF l n S S=dpF l n (S'+1) S from by rw[←hS],dpF,if_neg h];exact foldl_congr2 (fun p s=>dpStep_congr (fun s hs=>dpF_eq l n _ S' (by have:=nR hs;omega)) p s) _ _
def fR(l:Lb)(n S j:Nat):Nat×Nat:=(List.range j).foldl (iX l (dp l n) S) (41,0)
theorem nX(l:Lb)(n S j:Nat):fR l n S (j+1)=iX l (dp l n) S (fR l n S j) j:=by
 unfold fR;rw[List.range_succ,List.foldl_append]
 rfl
structure DpI(l:Lb)(n S j:Nat)(p:Nat×Nat):Prop where
 le:∀s,s<j→S.testBit s=true→p.1≤(dp l n (S ^^^ 2^s)).1+(agL l s (S ^^^ 2^s)).length
 at_:p=(41,0)∨(p.2<j∧S.testBit p.2=true∧p.1=(dp l n (S ^^^ 2^p.2)).1+(agL l p.2 (S ^^^ 2^p.2)).length)
theorem dp_i(l:Lb)(n S:Nat):∀j,DpI l n S j (fR l n S j)
 | 0=>⟨fun s h=>by omega,.inl rfl⟩
 | j+1=>by
  have ih:=dp_i l n S j;rw[nX];unfold iX;split
  ·rename_i hs
   split
   ·rename_i hlt
    refine⟨fun s h1 h2=> ?_,.inr ⟨by simp,hs,J⟩⟩;by_cases e:s=j
    ·subst e;exact Nat.le_refl _
    ·have:=ih.le s qG h2;simp only;omega
   ·rename_i hlt
    refine⟨fun s h1 h2=> ?_,ih.at_.imp_right fun⟨h1,h2,h3⟩=>⟨by omega,h2,h3⟩⟩;by_cases e:s=j
    ·subst e;omega
    ·exact ih.le s qG h2
  ·rename_i hs
   refine⟨fun s h1 h2=> ?_,ih.at_.imp_right fun⟨h1,h2,h3⟩=>⟨by omega,h2,h3⟩⟩;by_cases e:s=j
   ·subst e;exact absurd h2 hs
   ·exact ih.le s qG h2
theorem dp_is{l:Lb}{n S:Nat}(h:S≠0):DpI l n S n (dp l n S):=by
 rw[dp_eq h];exact dp_i l n S n
theorem dp_le{l:Lb}{n:Nat}:∀R:List Nat,R.Nodup→(∀s∈R,s<n)→(dp l n (dP R)).1≤(lA l R).length
 | [],_,_=>by simp[dP,dp_zero]
 | s::R,hn,hr=>by
  obtain⟨h1,h2⟩:=List.nodup_cons.1 hn;have ih:=dp_le (l:=l) (n:=n) R h2 (fun t ht=>hr t (List.mem_cons_of_mem _ ht));have hb:(dP (s::R)).testBit s=true:=by rw[dN];simp
  have h0:dP (s::R)≠0:=fun e=>by rw[e] at hb;simp at hb
  have h3:=(dp_is (l:=l) (n:=n) h0).le s (hr s List.mem_cons_self) hb;rw[bitL_cons h1] at h3;rw[lA,List.length_append];omega
theorem iJ{α:Type}[DecidableEq α]{D:List α}:∀{L:List α},L.Nodup→(∀x∈L,x∈D)→L.length≤D.length
 | [],_,_=>by simp
 | x::L,h,hs=>by
  obtain⟨h1,h2⟩:=List.nodup_cons.1 h;have hx:=hs x List.mem_cons_self;have ih:=iJ (D:=D.erase x) h2 (fun y hy=>(List.mem_erase_of_ne (fun e=>h1 (by rw[←e];exact hy))).2 (hs y (List.mem_cons_of_mem _ hy)));rw[List.length_erase_of_mem hx] at ih;have:0<D.length:=List.length_pos_of_mem hx;simp only[List.length_cons];omega
theorem dropR_len{l:Lb}{R:List Nat}(h:R.Nodup):(lA l R).length≤l.runs.length:=by
 have:=iJ (D:=List.range l.runs.length) (kF R h) (fun x hx=>List.mem_range.2 (dropR_lt hx));simpa using this
def btF(l:Lb)(n:Nat):Nat→Nat→List Nat
 | 0,_=>[]
 | k+1,S=>if S=0 then[] else agL l (dp l n S).2 (S ^^^ 2^(dp l n S).2)++btF l n k (S ^^^ 2^(dp l n S).2)
theorem bt_is{l:Lb}{n:Nat}(h40:l.runs.length≤40):∀(R:List Nat),R.Nodup→(∀s∈R,s<n)→∃R',R'.Perm R∧btF l n R.length (dP R)=lA l R'∧(dp l n (dP R)).1=(lA l R').length:=by
 intro R;generalize hk:R.length=k
 induction k generalizing R with
 | zero=>
  intro _ _;have:R=[]:=List.length_eq_zero_iff.1 hk;subst this;exact⟨[],.refl _,J,by simp[dP,dp_zero,lA]⟩
 | succ k ih=>
  intro hn hr
  have hb:∃x,x∈R:=by
   cases R with
   | nil=>simp at hk
   | cons x R=>exact⟨x,List.mem_cons_self⟩
  obtain⟨x,hx⟩:=hb
  have h0:dP R≠0:=fun e=>by
   have:=dN x R;rw[e] at this;simp[hx] at this
  have hI:=dp_is (l:=l) (n:=n) h0
  have hle:(dp l n (dP R)).1≤40:=by
   have h1:=dp_le (l:=l) R hn hr;have h2:=dropR_len (l:=l) hn;omega
  rcases hI.at_ with h|⟨h1,h2,h3⟩
  ·rw[h] at hle;simp at hle
  ·have hm:(dp l n (dP R)).2∈R:=by rw[dN] at h2;exact of_decide_eq_true h2
   have hp:=List.perm_cons_erase hm;have hn2:=hp.nodup_iff.1 hn;obtain⟨h4,h5⟩:=List.nodup_cons.1 hn2;have he:dP R=dP ((dp l n (dP R)).2::R.erase (dp l n (dP R)).2):=bitL_ext fun t=>hp.mem_iff
   have he2:dP R ^^^ 2^(dp l n (dP R)).2=dP (R.erase (dp l n (dP R)).2):=by
    conv=>lhs;arg 1;rw[he]
    exact bitL_cons h4
   obtain⟨R',g1,g2,g3⟩:=ih (R.erase (dp l n (dP R)).2) (by rw[List.length_erase_of_mem hm,hk];rfl) h5 (fun s hs=>hr s (List.mem_of_mem_erase hs));have hb2:dP R'=dP (R.erase (dp l n (dP R)).2):=bitL_ext fun t=>g1.mem_iff
   refine⟨(dp l n (dP R)).2::R',(g1.cons _).trans hp.symm,?_,?_⟩
   ·rw[btF,if_neg h0,he2,g2,lA,hb2]
   ·rw[lA,List.length_append,hb2,←g3,←he2];omega
def woL(l:Lb)(D:List Nat):Lb:=⟨l.skis,l.err,((List.range l.runs.length).filter fun i=> !decide (i∈D)).map fun i=>l.runs.getD i ⟨0,0,0⟩⟩
theorem wo_pairs{l:Lb}{D:List Nat}{p:Nat×Nat}:p∈(woL l D).pairs↔∃i,i∉D∧Sh l i p.1 p.2:=by
 unfold Lb.pairs woL Sh;simp only[List.mem_filterMap,List.mem_map,List.mem_filter,List.mem_range,Bool.not_eq_true',decide_eq_false_iff_not];constructor
 ·rintro⟨r,⟨i,⟨h1,h2⟩,rfl⟩,h3⟩;exact⟨i,h2,h1,h3⟩
 ·rintro⟨i,h1,h2,h3⟩;exact⟨_,⟨i,⟨h2,h1⟩,J⟩,h3⟩
theorem wo_ok{l:Lb}(hl:l.Ok)(D:List Nat):(woL l D).Ok:=⟨hl.s0,hl.s1,hl.e0,hl.e1,by
  have h1:=List.length_filter_le (fun i=> !decide (i∈D)) (List.range l.runs.length);have h2:=hl.len;rw[List.length_range] at h1
  show(((List.range l.runs.length).filter fun i=> !decide (i∈D)).map fun i=>l.runs.getD i ⟨0,0,0⟩).length≤40
  rw[List.length_map];omega,fun r hr=>by
  obtain⟨i,hi,rfl⟩:=List.mem_map.1 hr;have hi2:=List.mem_range.1 (List.mem_filter.1 hi).1;rw[List.getD_eq_getElem?_getD,List.getElem?_eq_getElem hi2,Option.getD_some];exact hl.run _ (List.getElem_mem hi2)⟩
theorem order_noC{l:Lb}(hl:l.Ok){L:List Nat}(h:∀p∈l.pairs,L.idxOf p.1<L.idxOf p.2):NoC l.ord l.n:=fun s hs=>Bool.eq_false_iff.2 fun hf=>by
 have hn:=hl.n8;have:=iM (R:=fun a b=>L.idxOf a<L.idxOf b) hl.in8 (fun a b c _ _ _ h1 h2=>by omega) h s s qG qG hf;omega
theorem nY{a b:Nat}{l:List Nat}(h:a≠b):(a::l).idxOf b=l.idxOf b+1:=by
 have h2:(a==b)=false:=by simpa using h
 rw[List.idxOf_cons,h2]
 rfl
theorem idx_app{a b:List Nat}{s t:Nat}(hn:(a++s::b).Nodup)(ht:t∈b):(a++s::b).idxOf s<(a++s::b).idxOf t:=by
 rw[List.nodup_append] at hn;obtain⟨h1,h2,h3⟩:=hn;have hs:s∉a:=fun h=>h3 s h s (by simp) rfl
 have hta:t∉a:=fun h=>h3 t h t (by simp[ht]) rfl
 have hst:s≠t:=fun e=>by subst e;exact(List.nodup_cons.1 h2).1 ht
 rw[List.idxOf_append,List.idxOf_append,if_neg hs,if_neg hta,List.idxOf_cons_self,nY hst];omega
theorem split_at{R:List Nat}{s t:Nat}(hs:s∈R)(ht:t∈R)(h:R.idxOf s<R.idxOf t):∃a b,R=a++s::b∧t∈b:=by
 obtain⟨a,b,rfl,hna⟩:=List.eq_append_cons_of_mem hs;refine⟨a,b,J,?_⟩;rcases List.mem_append.1 ht with h1|h1
 ·exfalso;rw[List.idxOf_append,List.idxOf_append,if_neg hna,if_pos h1,List.idxOf_cons_self] at h;have:=List.idxOf_lt_length_iff.2 h1;omega
 ·rcases List.mem_cons.1 h1 with h2|h2
  ·subst h2;omega
  ·exact h2
theorem dropR_idx{l:Lb}(hl:l.Ok){R:List Nat}(hn:R.Nodup)(hr:∀s,s<l.n→s∈R){i:Nat}:i∈lA l R↔∃s t,Sh l i s t∧R.idxOf s<R.idxOf t:=by
 rw[qA];constructor
 ·rintro⟨a,s,b,t,rfl,h1,h2⟩;exact⟨s,t,h2,idx_app hn h1⟩
 ·rintro⟨s,t,h1,h2⟩
  have h3:(s,t)∈l.pairs:=by
   rw[mW];obtain⟨x,hx,_,h4,h5⟩:=mem_sh h1;exact List.mem_map.2 ⟨x,hx,by rw[h4,h5]⟩
  obtain⟨h4,h5,_⟩:=hl.in _ h3;obtain⟨a,b,rfl,h6⟩:=split_at (hr s h4) (hr t h5) h2;exact⟨a,s,b,t,J,h6,h1⟩
theorem rev_idx{L:List Nat}(hn:L.Nodup){s:Nat}(hs:s∈L):L.reverse.idxOf s+L.idxOf s+1=L.length:=by
 have h1:=List.idxOf_lt_length_iff.2 hs;have h2:L.length-1-L.idxOf s<L.reverse.length:=by rw[List.length_reverse];omega
 have h3:L.reverse[L.length-1-L.idxOf s]=s:=by
  rw[List.getElem_reverse];have:L.length-1-(L.length-1-L.idxOf s)=L.idxOf s:=by omega
  simp only[this];exact List.getElem_idxOf h1
 have h4:=(((List.reverse_perm L).nodup_iff.2 hn)).idxOf_getElem _ h2;rw[h3] at h4;omega
structure DropP(l:Lb)(d:List Nat):Prop where
 asc:d.Pairwise (· < ·)
 lt:∀i∈d,i<l.runs.length
 noC:NoC (woL l d).ord l.n
 min:∀D:List Nat,NoC (woL l D).ord l.n→d.length≤D.length
 at_:∃L:List Nat,L.Perm (List.range l.n)∧∀i,i∈d↔∃s t,Sh l i s t∧L.idxOf t<L.idxOf s
theorem noC_drop{l:Lb}(hl:l.Ok){L:List Nat}(hp:L.Perm (List.range l.n)){D:List Nat}(hD:∀i s t,Sh l i s t→L.idxOf t<L.idxOf s→i∈D):NoC (woL l D).ord l.n:=by
 refine order_noC (l:=woL l D) (wo_ok hl D) (L:=L) fun p hpp=> ?_;obtain⟨i,h1,h2⟩:=wo_pairs.1 hpp
 have h3:p∈l.pairs:=by
  rw[mW];obtain⟨x,hx,_,h4,h5⟩:=mem_sh h2;exact List.mem_map.2 ⟨x,hx,by rw[h4,h5]⟩
 obtain⟨h4,h5,h6⟩:=hl.in _ h3;rcases Nat.lt_trichotomy (L.idxOf p.1) (L.idxOf p.2) with h|h|h
 ·exact h
 ·exfalso;have m1:=List.idxOf_lt_length_iff.2 (hp.mem_iff.2 (List.mem_range.2 h4));have m2:=List.idxOf_lt_length_iff.2 (hp.mem_iff.2 (List.mem_range.2 h5));have e1:=List.getElem_idxOf m1;have e2:=List.getElem_idxOf m2;simp only[h] at e1;exact h6 (e1.symm.trans e2)
 ·exact absurd (hD i _ _ h2 h) h1
theorem noC_lin{l:Lb}(hl:l.Ok)(D:List Nat)(h:NoC (woL l D).ord l.n):∃L:List Nat,L.Perm (List.range l.n)∧∀i s t,Sh l i s t→L.idxOf t<L.idxOf s→i∈D:=by
 have hw:=wo_ok hl D;have hL:=first_lin (o:=(woL l D).ord) (n:=l.n) h hw.o hl.n8 hw.inO;refine⟨_,hL.perm,fun i s t h1 h2=> ?_⟩;rcases Classical.em (i∈D) with h3|h3
 ·exact h3
 ·exfalso;have h4:(s,t)∈(woL l D).pairs:=wo_pairs.2 ⟨i,h3,h1⟩;have h5:=hw.in8 _ h4;have h6:=(hL.idx s t h5.1 h5.2 (iA hw.in8 h4)).2.2;omega
theorem drop_says{l:Lb}(hl:l.Ok){d:List Nat}(hp:d.Perm (btF l l.n l.n (2^l.n-1)))(hs:d.Pairwise (· ≤ ·)):DropP l d:=by
 have hb:dP (List.range l.n)=2^l.n-1:=pJ fun t=>List.mem_range
 obtain⟨R,h1,h2,h3⟩:=bt_is (l:=l) (n:=l.n) hl.len (List.range l.n) List.nodup_range (fun s h=>List.mem_range.1 h);rw[List.length_range,hb] at h2;rw[hb] at h3;rw[h2] at hp;have hR:R.Nodup:=h1.nodup_iff.2 List.nodup_range;have hmR:∀s,s<l.n→s∈R:=fun s h=>h1.mem_iff.2 (List.mem_range.2 h)
 have hrp:R.reverse.Perm (List.range l.n):=(List.reverse_perm R).trans h1
 have key:∀i,i∈lA l R↔∃s t,Sh l i s t∧R.reverse.idxOf t<R.reverse.idxOf s:=fun i=>by
  rw[dropR_idx hl hR hmR];constructor
  ·rintro⟨s,t,g1,g2⟩
   have g3:(s,t)∈l.pairs:=by
    rw[mW];obtain⟨x,hx,_,h4,h5⟩:=mem_sh g1;exact List.mem_map.2 ⟨x,hx,by rw[h4,h5]⟩
   obtain⟨g4,g5,_⟩:=hl.in _ g3;have g6:=rev_idx hR (hmR s g4);have g7:=rev_idx hR (hmR t g5);exact⟨s,t,g1,by omega⟩
  ·rintro⟨s,t,g1,g2⟩
   have g3:(s,t)∈l.pairs:=by
    rw[mW];obtain⟨x,hx,_,h4,h5⟩:=mem_sh g1;exact List.mem_map.2 ⟨x,hx,by rw[h4,h5]⟩
   obtain⟨g4,g5,_⟩:=hl.in _ g3;have g6:=rev_idx hR (hmR s g4);have g7:=rev_idx hR (hmR t g5);exact⟨s,t,g1,by omega⟩
 have hnd:d.Nodup:=hp.nodup_iff.2 (kF R hR);refine⟨?_,fun i hi=>dropR_lt (hp.mem_iff.1 hi),?_,fun D hD=> ?_,R.reverse,hrp,fun i=>by rw[hp.mem_iff,key]⟩
 ·exact List.Pairwise.imp₂ (fun a b h1 h2=>by omega) hs hnd
 ·exact noC_drop hl hrp fun i s t g1 g2=>hp.mem_iff.2 ((key i).2 ⟨s,t,g1,g2⟩)
 ·obtain⟨L,g1,g2⟩:=noC_lin hl D hD;have hLn:L.Nodup:=g1.nodup_iff.2 List.nodup_range;have hLr:=(List.reverse_perm L).nodup_iff.2 hLn;have g3:=dp_le (l:=l) (n:=l.n) L.reverse hLr (fun s h=>List.mem_range.1 (g1.mem_iff.1 (List.mem_reverse.1 h)));rw[pJ (R:=L.reverse) (n:=l.n) (fun t=>by rw[List.mem_reverse,g1.mem_iff,List.mem_range])] at g3;have hmL:∀s,s<l.n→s∈L:=fun s h=>g1.mem_iff.2 (List.mem_range.2 h)
  have g4:=iJ (D:=D) (kF L.reverse hLr) (fun i hi=>by
   obtain⟨s,t,k1,k2⟩:=(dropR_idx hl hLr (fun s h=>List.mem_reverse.2 (hmL s h))).1 hi
   have k3:(s,t)∈l.pairs:=by
    rw[mW];obtain⟨x,hx,_,h4,h5⟩:=mem_sh k1;exact List.mem_map.2 ⟨x,hx,by rw[h4,h5]⟩
   obtain⟨k4,k5,_⟩:=hl.in _ k3;have k6:=rev_idx hLn (hmL s k4);have k7:=rev_idx hLn (hmL t k5);exact g2 i s t k1 qG)
  rw[hp.length_eq,←h3];omega
def fC(n:Nat):Nat→List (List Nat)
 | 0=>[[]]
 | i+1=>(fC n i).flatMap fun p=>((List.range n).filter fun s=> !decide (s∈p)).map fun s=>p++[s]
theorem oU{n:Nat}:∀{i:Nat} {p:List Nat},p∈fC n i↔p.Nodup∧(∀x∈p,x<n)∧p.length=i
 | 0,p=>by
  simp only[fC,List.mem_singleton];constructor
  ·rintro rfl;simp
  ·rintro⟨_,_,h⟩;exact List.length_eq_zero_iff.1 h
 | i+1,p=>by
  simp only[fC,List.mem_flatMap,List.mem_map,List.mem_filter,List.mem_range,Bool.not_eq_true',decide_eq_false_iff_not];constructor
  ·rintro⟨q,hq,s,⟨h1,h2⟩,rfl⟩;obtain⟨h3,h4,h5⟩:=oU.1 hq;refine⟨List.nodup_append.2 ⟨h3,by simp,fun a ha b hb e=> ?_⟩,fun x hx=> ?_,by simp[h5]⟩
   ·obtain rfl:b=s:=by simpa using hb
    subst e;exact h2 ha
   ·rcases List.mem_append.1 hx with hx|hx
    ·exact h4 x hx
    ·obtain rfl:x=s:=by simpa using hx
     exact h1
  ·rintro⟨h1,h2,h3⟩;rcases List.eq_nil_or_concat p with rfl|⟨q,s,rfl⟩
   ·simp at h3
   ·rw[List.concat_eq_append] at *;obtain⟨h4,h5,h6⟩:=List.nodup_append.1 h1;refine⟨q,oU.2 ⟨h4,fun x hx=>h2 x (by simp[hx]),by simpa using h3⟩,s,⟨h2 s (by simp),fun hs=>h6 s hs s (by simp) J⟩,J⟩
theorem full_perm{n:Nat}{p:List Nat}(h1:p.Nodup)(h2:∀x∈p,x<n)(h3:p.length=n):p.Perm (List.range n):=by
 refine List.perm_iff_count.2 fun a=> ?_;rw[h1.count,List.nodup_range.count]
 have key:∀t,t<n→t∈p:=fun t ht=>by
  obtain⟨i,hi,e⟩:=surj (f:=fun i=>p.getD i 0) (n:=n) (fun i hi=>by
   rw[List.getD_eq_getElem?_getD,List.getElem?_eq_getElem qG,Option.getD_some];exact h2 _ (List.getElem_mem _)) (fun i j hi hj e=>by
   rw[List.getD_eq_getElem?_getD,List.getElem?_eq_getElem qG,Option.getD_some,List.getD_eq_getElem?_getD,List.getElem?_eq_getElem qG,Option.getD_some] at e;exact(List.getElem_inj h1).1 e) t ht
  rw[List.getD_eq_getElem?_getD,List.getElem?_eq_getElem qG,Option.getD_some] at e;rw[←e];exact List.getElem_mem _
 by_cases ha:a<n
 ·rw[if_pos (key a ha),if_pos (List.mem_range.2 ha)]
 ·rw[if_neg (fun h=>ha (h2 a h)),if_neg (fun h=>ha (List.mem_range.1 h))]
theorem gV{n:Nat}{p:List Nat}:p∈fC n n↔p.Perm (List.range n):=by
 rw[oU];constructor
 ·rintro⟨h1,h2,h3⟩;exact full_perm h1 h2 h3
 ·intro h;exact⟨h.nodup_iff.2 List.nodup_range,fun x hx=>List.mem_range.1 (h.mem_iff.1 hx),by rw[h.length_eq,List.length_range]⟩
def FL(o n:Nat):Nat→List (List Nat)
 | 0=>[[]]
 | i+1=>(FL o n i).flatMap fun p=>((List.range n).filter fun s=>eO o n s (dP p)).map fun s=>p++[s]
def preB(o n:Nat):List Nat→List Nat→Bool
 | _,[]=>true
 | acc,s::r=>eO o n s (dP acc)&&preB o n (acc++[s]) r
theorem pre_snoc(o n s:Nat):∀(p acc:List Nat),preB o n acc (p++[s])=(preB o n acc p&&eO o n s (dP (acc++p)))
 | [],acc=>by simp[preB]
 | x::p,acc=>by
  rw[List.cons_append,preB,preB,pre_snoc o n s p (acc++[x]),Bool.and_assoc];simp
theorem filter_flatMap'{α β:Type}(q:β→Bool)(g:α→List β):∀l:List α,(l.flatMap g).filter q=l.flatMap fun a=>(g a).filter q
 | []=>rfl
 | a::l=>by rw[List.flatMap_cons,List.filter_append,filter_flatMap' q g l,List.flatMap_cons]
theorem flatMap_if{α β:Type}(q:α→Bool)(g:α→List β):∀l:List α,(l.flatMap fun a=>if q a=true then g a else[])=(l.filter q).flatMap g
 | []=>rfl
 | a::l=>by
  rw[List.flatMap_cons,flatMap_if q g l,List.filter_cons];cases q a<;>simp
theorem FL_eq(o n:Nat):∀i,(fC n i).filter (preB o n [])=FL o n i
 | 0=>rfl
 | i+1=>by
  rw[fC,filter_flatMap',FL,←FL_eq o n i,←flatMap_if]
  congr 1
  funext p
  rw[List.filter_map,List.filter_filter];cases hp:preB o n [] p with
  | false=>
   rw[if_neg (by simp)]
   have:((List.range n).filter fun s=>(preB o n []∘fun s=>p++[s]) s&& !decide (s∈p))=[]:=List.filter_eq_nil_iff.2 fun s _=>by
    simp[Function.comp,pre_snoc,hp]
   rw[this];rfl
  | true=>
   rw[if_pos rfl]
   congr 1
   refine List.filter_congr fun s _=> ?_;simp only[Function.comp,pre_snoc,hp,Bool.true_and,List.nil_append]
   cases hf:eO o n s (dP p) with
   | false=>rfl
   | true=>
    have:=(gR.1 hf).1;rw[dN] at this;simpa using this
theorem pre_iff{o n:Nat}:∀(p acc:List Nat),preB o n acc p=true↔∀a s b,p=a++s::b→eO o n s (dP (acc++a))=true
 | [],acc=>by simp[preB]
 | x::p,acc=>by
  rw[preB,Bool.and_eq_true,pre_iff p];constructor
  ·rintro⟨h1,h2⟩ a s b h;cases a with
   | nil=>
    simp only[List.nil_append,List.cons.injEq] at h;obtain⟨rfl,rfl⟩:=h;simpa using h1
   | cons y a=>
    simp only[List.cons_append,List.cons.injEq] at h;obtain⟨rfl,rfl⟩:=h;have:=h2 a s b rfl;simpa using this
  ·intro h;refine⟨by simpa using h [] x p rfl,fun a s b e=> ?_⟩;have:=h (x::a) s b (by rw[e];rfl);simpa using this
theorem pre_lin{o n:Nat}(hn:n≤8)(hi:InO o n){p:List Nat}(hp:p.Perm (List.range n)):preB o n [] p=true↔LinO o n p:=by
 have hnd:p.Nodup:=hp.nodup_iff.2 List.nodup_range;rw[pre_iff];constructor
 ·intro h;refine⟨hp,fun a b ha hb hf=> ?_⟩;obtain⟨h1,h2⟩:=hi a b ha hb hf;refine⟨h1,h2,?_⟩;obtain⟨x,y,e⟩:=List.append_of_mem (hp.mem_iff.2 (List.mem_range.2 h2));have h3:=(gR.1 (h x b y e)).2 a h1 hf;rw[List.nil_append,dN] at h3;have h4:=of_decide_eq_true h3
  have hbx:b∉x:=fun hm=>by
   rw[e] at hnd;exact(List.nodup_append.1 hnd).2.2 b hm b (by simp) J
  rw[e,List.idxOf_append,List.idxOf_append,if_pos h4,if_neg hbx,List.idxOf_cons_self];have:=List.idxOf_lt_length_iff.2 h4;omega
 ·intro h a s b e;have hs:s<n:=List.mem_range.1 (hp.mem_iff.1 (by rw[e];simp))
  have hsa:s∉a:=fun hm=>by
   rw[e] at hnd;exact(List.nodup_append.1 hnd).2.2 s hm s (by simp) J
  refine gR.2 ⟨?_,fun t ht hf=> ?_⟩
  ·rw[List.nil_append,dN];exact decide_eq_false hsa
  ·rw[List.nil_append,dN];refine decide_eq_true ?_;have h3:=(h.idx t s qG qG hf).2.2;rcases Classical.em (t∈a) with h4|h4
   ·exact h4
   ·exfalso;rw[e,List.idxOf_append,List.idxOf_append,if_neg h4,if_neg hsa,List.idxOf_cons_self] at h3;omega
theorem fT{o n:Nat}(hn:n≤8)(hi:InO o n){L:List Nat}:L∈FL o n n↔LinO o n L:=by
 rw[←FL_eq,List.mem_filter,gV];constructor
 ·rintro⟨h1,h2⟩;exact(pre_lin hn hi h1).1 h2
 ·intro h;exact⟨h.perm,(pre_lin hn hi h.perm).2 h⟩
def crd(S:Nat):Nat→Nat:=iQ fun s=>cond (S.testBit s) 1 0
theorem crd_xor{S s:Nat}(h:S.testBit s=true):∀n,crd (S ^^^ 2^s) n+(if s<n then 1 else 0)=crd S n
 | 0=>rfl
 | n+1=>by
  have ih:=crd_xor h n;unfold crd at ih ⊢;rw[iQ,iQ];by_cases e:n=s
  ·subst e;rw[if_neg qG] at ih;rw[jA h,h,if_pos qG];simp only[cond_true,cond_false];omega
  ·rw[bit_xor e];by_cases e2:s<n
   ·rw[if_pos e2] at ih;rw[if_pos qG];omega
   ·rw[if_neg e2] at ih;rw[if_neg qG];omega
theorem filter_sum(q:Nat→Bool):∀n,((List.range n).filter q).length=iQ (fun s=>cond (q s) 1 0) n
 | 0=>rfl
 | n+1=>by
  rw[List.range_succ,List.filter_append,List.length_append,filter_sum q n,iQ];cases h:q n<;>simp[h]
theorem or_iff{A S s:Nat}(h:A.testBit s=false):A ||| 2^s=S↔S.testBit s=true∧A=S ^^^ 2^s:=by
 constructor
 ·rintro rfl;refine⟨by rw[or_bit];simp,Nat.eq_of_testBit_eq fun t=> ?_⟩;by_cases e:t=s
  ·subst e;rw[jA (by rw[or_bit];simp),h]
  ·rw[bit_xor e,or_bit];simp[show ¬s=t from fun h=>e h.symm]
 ·rintro⟨h1,rfl⟩;refine Nat.eq_of_testBit_eq fun t=> ?_
  rw[or_bit];by_cases e:t=s
  ·subst e;simp[h1]
  ·rw[bit_xor e];simp[show ¬s=t from fun h=>e h.symm]
theorem fl_step(o n S:Nat):∀X:List (List Nat),(((X.flatMap fun p=>((List.range n).filter fun s=>eO o n s (dP p)).map fun s=>p++[s]).filter fun p=>decide (dP p=S)).length)=iQ (fun s=>cond (S.testBit s&&eO o n s (S ^^^ 2^s)) ((X.filter fun p=>decide (dP p=S ^^^ 2^s)).length) 0) n
 | []=>by
  have:∀n,iQ (fun s=>cond (S.testBit s&&eO o n s (S ^^^ 2^s)) 0 0) n=0:=fun n=>by
   rw[dJ (g:=fun _=>0) n (fun s _=>pI _)];clear S o
   induction n with
   | zero=>rfl
   | succ n ih=>rw[iQ,ih]
  have h2:iQ (fun s=>cond (S.testBit s&&eO o n s (S ^^^ 2^s)) 0 0) n=0:=by
   rw[dJ (g:=fun _=>0) n (fun s _=>pI _)];generalize n=m
   induction m with
   | zero=>rfl
   | succ n ih=>rw[iQ,ih]
  exact h2.symm
 | p::X=>by
  rw[List.flatMap_cons,List.filter_append,List.length_append,fl_step o n S X,List.filter_map,List.length_map,List.filter_filter,filter_sum,←sumN_add];refine dJ n fun s hs=> ?_
  rw[List.filter_cons]
  have eb:dP (p++[s])=dP p ||| 2^s:=Nat.eq_of_testBit_eq fun t=>by
   rw[dN,or_bit,dN];by_cases h:t=s
   ·subst h;simp
   ·simp[h,show ¬s=t from fun e=>h e.symm]
  simp only[Function.comp,eb];by_cases hf:eO o n s (dP p)=true
  ·have h1:=or_iff (S:=S) (gR.1 hf).1;by_cases h2:dP p ||| 2^s=S
   ·obtain⟨h3,h4⟩:=h1.1 h2;rw[←h4,h3,hf,decide_eq_true h2,decide_eq_true rfl];simp;omega
   ·rw[decide_eq_false h2];by_cases h3:S.testBit s=true
    ·have h4:¬dP p=S ^^^ 2^s:=fun e=>h2 (h1.2 ⟨h3,e⟩)
     rw[decide_eq_false h4];simp
    ·simp[h3]
  ·rw[Bool.not_eq_true] at hf;rw[hf];by_cases h4:dP p=S ^^^ 2^s
   ·rw[←h4,hf];simp
   ·rw[decide_eq_false h4];simp
theorem sumN_zero{f:Nat→Nat}:∀n,(∀i,i<n→f i=0)→iQ f n=0
 | 0,_=>rfl
 | n+1,h=>by rw[iQ,sumN_zero n fun i hi=>h i qG,h n qG]
theorem fl_cnt(o n:Nat):∀i S,crd S n=i→((FL o n i).filter fun p=>decide (dP p=S)).length=cnt o n S
 | 0,S,h=>by
  by_cases h0:S=0
  ·subst h0;rw[cnt_zero];rfl
  ·have hz:∀s,s<n→S.testBit s=false:=fun s hs=>Bool.eq_false_iff.2 fun hb=>by
    have:=sumN_ge (f:=fun s=>cond (S.testBit s) 1 0) n hs;unfold crd at h;rw[h] at this;simp[hb] at this
   rw[cnt_eq h0,sumN_zero n (fun s hs=>by rw[hz s hs];rfl)];have:¬0=S:=fun e=>h0 e.symm
   simp[FL,dP,this]
 | i+1,S,h=>by
  have h0:S≠0:=by
   rintro rfl;unfold crd at h;rw[sumN_zero n (fun s _=>by simp)] at h;omega
  rw[FL,fl_step,cnt_eq h0];refine dJ n fun s hs=> ?_
  cases hb:S.testBit s with
  | false=>rfl
  | true=>
   have:=crd_xor hb n;rw[if_pos hs] at this;rw[fl_cnt o n i (S ^^^ 2^s) qG]
theorem fl_has{o n:Nat}:∀{i:Nat} {p:List Nat},p∈FL o n i→p.Nodup∧(∀x∈p,x<n)∧p.length=i:=fun {i p} h=>by
 rw[←FL_eq,List.mem_filter] at h;exact oU.1 h.1
theorem fl_len(o n:Nat):(FL o n n).length=cnt o n (2^n-1):=by
 rw[←fl_cnt o n n (2^n-1) (by
  unfold crd;rw[dJ (g:=fun _=>1) n (fun s hs=>by rw[full_bit hs];rfl),sumN_one])]
 congr 1
 refine(List.filter_eq_self.2 fun p hp=> ?_).symm;obtain⟨h1,h2,h3⟩:=fl_has hp;have:=full_perm h1 h2 h3;exact decide_eq_true (pJ fun t=>by rw[this.mem_iff,List.mem_range])
theorem fl_first{o n:Nat}(hc:NoC o n)(ho:Ord o)(hn:n≤8):∀i,i≤n→(FL o n i).head? =some (kJ o n i).1
 | 0,_=>rfl
 | i+1,hi=>by
  have ih:=fl_first hc ho hn i qG;have h1:=fir_is hc ho hn i qG;have h2:=fir_is hc ho hn (i+1) hi
  have hb:dP (kJ o n i).1=(kJ o n i).2:=Nat.eq_of_testBit_eq fun t=>by
   rw[dN];by_cases ht:t<n
   ·exact Bool.eq_iff_iff.2 (by rw[decide_eq_true_iff];exact(h1.bit t ht).symm)
   ·have h3:t∉(kJ o n i).1:=fun hm=>by
     obtain⟨R,hR⟩:=h1.rest;exact ht (List.mem_range.1 (hR.mem_iff.1 (List.mem_append_left _ hm)))
    have h4:(kJ o n i).2<2^t:=Nat.lt_of_lt_of_le h1.bd (Nat.pow_le_pow_right qG qG);rw[Nat.testBit_lt_two_pow h4];exact decide_eq_false h3
  rw[FL];cases hX:FL o n i with
  | nil=>rw[hX] at ih;cases ih
  | cons p X=>
   rw[hX] at ih;have hp:p=(kJ o n i).1:=Option.some.inj ih;rw[List.flatMap_cons,hp,hb];have hlen:=h2.len
   have hst:kJ o n (i+1)=match nextO o n (kJ o n i).2 with
    | some s=>((kJ o n i).1++[s],(kJ o n i).2 ||| 2^s)
    | none=>kJ o n i:=rfl
   rw[hst] at hlen ⊢;cases hN:nextO o n (kJ o n i).2 with
   | none=>
    rw[hN] at hlen;have:=h1.len;simp only at hlen;omega
   | some s=>
    unfold nextO at hN;rw[←List.head?_filter] at hN;cases hF:(List.range n).filter fun s=>eO o n s (kJ o n i).2 with
    | nil=>rw[hF] at hN;cases hN
    | cons x Y=>
     rw[hF] at hN;obtain rfl:x=s:=Option.some.inj hN
     rfl
theorem lin_pair{o n:Nat}(hn:n≤8){L:List Nat}(h:LinO o n L):L.Pairwise fun a b=>fa o b a=false:=List.pairwise_iff_getElem.2 fun i j hi hj hij=>Bool.eq_false_iff.2 fun hf=>by
 have h1:L[i]<n:=h.mem.1 (List.getElem_mem hi);have h2:L[j]<n:=h.mem.1 (List.getElem_mem hj);have h3:=(h.idx _ _ qG qG hf).2.2;rw[h.nodup.idxOf_getElem,h.nodup.idxOf_getElem] at h3;omega
theorem pair_lin{o n:Nat}(hc:NoC o n)(hi:InO o n){L:List Nat}(hp:L.Perm (List.range n))(h:L.Pairwise fun a b=>fa o b a=false):LinO o n L:=⟨hp,fun a b ha hb hf=>by
 obtain⟨h1,h2⟩:=hi a b ha hb hf;refine⟨h1,h2,?_⟩;have m1:=List.idxOf_lt_length_iff.2 (hp.mem_iff.2 (List.mem_range.2 h1));have m2:=List.idxOf_lt_length_iff.2 (hp.mem_iff.2 (List.mem_range.2 h2));have e1:=List.getElem_idxOf m1;have e2:=List.getElem_idxOf m2;rcases Nat.lt_trichotomy (L.idxOf a) (L.idxOf b) with g|g|g
 ·exact g
 ·exfalso;simp only[g] at e1;have:=e1.symm.trans e2;subst this;rw[hc a h1] at hf;cases hf
 ·exfalso;have:=List.pairwise_iff_getElem.1 h _ _ m2 m1 g;rw[e1,e2,hf] at this;cases this⟩
theorem part_perm{L:List Nat}(hn:L.Nodup){x:Nat}(hx:x∈L)(P:Nat→Bool)(hPx:P x=false):(L.filter P++x::L.filter fun t=> !P t&& !decide (t=x)).Perm L:=by
 refine List.perm_iff_count.2 fun a=> ?_;rw[List.count_append,List.count_cons,(hn.sublist List.filter_sublist).count,(hn.sublist List.filter_sublist).count,hn.count]
 simp only[List.mem_filter];by_cases ha:a=x
 ·subst ha;simp[hx,hPx]
 ·have h2:¬x=a:=fun e=>ha e.symm
  cases hP:P a<;>by_cases hm:a∈L<;>simp[ha,hP,hm,h2]
theorem lin_bd{o n s:Nat}{L:List Nat}(h:LinO o n L)(hn:n≤8)(hs:s<n):upN o s n≤L.idxOf s∧L.idxOf s+dnN o s n+1≤n:=by
 have h3:L.idxOf s<L.length:=List.idxOf_lt_length_iff.2 (h.mem.2 hs);have hl:=h.len
 have h4:upN o s n≤L.idxOf s:=by
  refine Nat.le_trans ?_ (lt_le h.nodup (L.idxOf s));rw[(h.perm.filter _).length_eq]
  exact fL _ _ _ fun t ht hf=>by
   have:=List.mem_range.1 ht;simpa using(h.idx t s qG qG hf).2.2
 have h5:dnN o s n≤L.length-(L.idxOf s+1):=by
  refine Nat.le_trans ?_ (gt_le h.nodup (L.idxOf s));rw[(h.perm.filter _).length_eq]
  exact fL _ _ _ fun t ht hf=>by
   have:=List.mem_range.1 ht;simpa using(h.idx s t qG qG hf).2.2
 omega
theorem idx_mid{A B:List Nat}{x:Nat}(h:x∉A):(A++x::B).idxOf x=A.length:=by
 rw[List.idxOf_append,if_neg h,List.idxOf_cons_self];omega
theorem place_lo{o n x:Nat}(hc:NoC o n)(ho:Ord o)(hn:n≤8)(hi:InO o n)(hx:x<n):∃L,LinO o n L∧L.idxOf x=upN o x n:=by
 have h0:=first_lin hc ho hn hi;have hpx:fa o x x=false:=hc x hx;have hp:=(part_perm h0.nodup (h0.mem.2 hx) (fun t=>fa o t x) hpx).trans h0.perm;have hpw:=lin_pair hn h0;refine⟨_,pair_lin hc hi hp ?_,?_⟩
 ·refine List.pairwise_append.2 ⟨hpw.filter _,List.pairwise_cons.2 ⟨fun b hb=> ?_,hpw.filter _⟩,fun a ha b hb=> ?_⟩
  ·have:=(List.mem_filter.1 hb).2;simp only[Bool.and_eq_true,Bool.not_eq_true'] at this;exact this.1
  ·obtain⟨ha1,ha2⟩:=List.mem_filter.1 ha;have han:=h0.mem.1 ha1;rcases List.mem_cons.1 hb with rfl|hb
   ·exact hc.asym ho hn han hx ha2
   ·obtain⟨hb1,hb2⟩:=List.mem_filter.1 hb;have hbn:=h0.mem.1 hb1;refine Bool.eq_false_iff.2 fun hf=> ?_
    have:=ho.tr b a x qG qG qG hf ha2;simp[this] at hb2
 ·rw[idx_mid (fun h=>by have:=(List.mem_filter.1 h).2;rw[hpx] at this;cases this),(h0.perm.filter _).length_eq]
  rfl
theorem place_hi{o n x:Nat}(hc:NoC o n)(ho:Ord o)(hn:n≤8)(hi:InO o n)(hx:x<n):∃L,LinO o n L∧L.idxOf x+dnN o x n+1=n:=by
 have h0:=first_lin hc ho hn hi;have hpx:fa o x x=false:=hc x hx;have hP:(!fa o x x&& !decide (x=x))=false:=by simp
 have hp:=(part_perm h0.nodup (h0.mem.2 hx) (fun t=> !fa o x t&& !decide (t=x)) hP).trans h0.perm
 have e:(fun t=> !(!fa o x t&& !decide (t=x))&& !decide (t=x))=fun t=>fa o x t&& !decide (t=x):=by
  funext t
  cases fa o x t<;>by_cases h:t=x<;>simp[h]
 rw[e] at hp;have hpw:=lin_pair hn h0;refine⟨_,pair_lin hc hi hp ?_,?_⟩
 ·refine List.pairwise_append.2 ⟨hpw.filter _,List.pairwise_cons.2 ⟨fun b hb=> ?_,hpw.filter _⟩,fun a ha b hb=> ?_⟩
  ·obtain⟨hb1,hb2⟩:=List.mem_filter.1 hb;simp only[Bool.and_eq_true,Bool.not_eq_true'] at hb2;exact hc.asym ho hn hx (h0.mem.1 hb1) hb2.1
  ·obtain⟨ha1,ha2⟩:=List.mem_filter.1 ha;simp only[Bool.and_eq_true,Bool.not_eq_true'] at ha2;have han:=h0.mem.1 ha1;rcases List.mem_cons.1 hb with rfl|hb
   ·exact ha2.1
   ·obtain⟨hb1,hb2⟩:=List.mem_filter.1 hb;simp only[Bool.and_eq_true,Bool.not_eq_true'] at hb2;have hbn:=h0.mem.1 hb1;refine Bool.eq_false_iff.2 fun hf=> ?_
    have:=ho.tr x b a qG qG qG hb2.1 hf;rw[this] at ha2;cases ha2.1
 ·have hl:=hp.length_eq;rw[List.length_append,List.length_cons,List.length_range] at hl;rw[idx_mid (fun h=>by have:=(List.mem_filter.1 h).2;simp at this)]
  have:(((kJ o n n).1).filter fun t=>fa o x t&& !decide (t=x)).length=dnN o x n:=by
   rw[(h0.perm.filter _).length_eq];refine congrArg List.length (List.filter_congr fun t ht=> ?_);by_cases h:t=x
   ·subst h;simp[hpx]
   ·simp[h]
  omega
def extP(n:Nat)(p:List Nat):List (List Nat):=((List.range n).filter fun s=> !decide (s∈p)).map fun s=>p++[s]
theorem permN_succ(n i:Nat):fC n (i+1)=(fC n i).flatMap (extP n):=rfl
def nxt(PL:List (List Nat))(n k s:Nat):List (List Nat):=(PL.take k).flatMap (extP n)++((List.range s).filter fun x=> !decide (x∈PL.getD k [])).map fun x=>PL.getD k []++[x]
section
variable {PL : List (List Nat)} {n k s : Nat}
theorem nxt_zero:nxt PL n 0 0=[]:=by simp[nxt]
theorem nxt_yes(h:s∉PL.getD k []):nxt PL n k (s+1)=nxt PL n k s++[PL.getD k []++[s]]:=by
 unfold nxt;rw[List.range_succ,List.filter_append,List.map_append,←List.append_assoc]
 congr 1
 have h2:¬s∈PL[k]?.getD []:=by rw[←List.getD_eq_getElem?_getD];exact h
 simp[h2]
theorem nxt_no(h:s∈PL.getD k []):nxt PL n k (s+1)=nxt PL n k s:=by
 unfold nxt;rw[List.range_succ,List.filter_append,List.map_append];have h2:s∈PL[k]?.getD []:=by rw[←List.getD_eq_getElem?_getD];exact h
 simp[h2]
theorem nxt_row(h:k<PL.length):nxt PL n k n=nxt PL n (k+1) 0:=by
 unfold nxt;rw[List.take_succ_eq_append_getElem h,List.flatMap_append];have e:PL.getD k []=PL[k]:=by rw[List.getD_eq_getElem?_getD,List.getElem?_eq_getElem h,Option.getD_some]
 rw[e];simp[extP]
theorem nxt_all:nxt PL n PL.length 0=PL.flatMap (extP n):=by simp[nxt]
theorem flat_le{α β:Type}(f:α→List β)(c:Nat):∀l:List α,(∀a∈l,(f a).length≤c)→(l.flatMap f).length≤l.length*c
 | [],_=>by simp
 | a::l,h=>by
  have h1:=h a List.mem_cons_self;have h2:=flat_le f c l fun b hb=>h b (List.mem_cons_of_mem _ hb)
  rw[List.flatMap_cons,List.length_append,List.length_cons,Nat.add_mul,Nat.one_mul];omega
theorem ext_le(n:Nat)(p:List Nat):(extP n p).length≤n:=by
 unfold extP;rw[List.length_map];have:=List.length_filter_le (fun s=> !decide (s∈p)) (List.range n)
 rwa [List.length_range] at this
theorem perm_le(hn:n≤6):∀i,(fC n i).length≤6^i
 | 0=>by simp[fC]
 | i+1=>by
  have h1:=flat_le (extP n) 6 (fC n i) fun p _=>Nat.le_trans (ext_le n p) hn
  have h2:=perm_le hn i;rw[permN_succ,Nat.pow_succ];exact Nat.le_trans h1 (Nat.mul_le_mul_right 6 h2)
theorem perm_bd(hn:n≤6){i:Nat}(hi:i≤6):(fC n i).length≤46656:=Nat.le_trans (perm_le hn i) (by have:=Nat.pow_le_pow_right (show 0<6 by omega) hi;simpa using this)
theorem nxt_le(hn:n≤6)(hs:s≤6)(hP:PL.length≤46656):(nxt PL n k s).length≤300000:=by
 unfold nxt;have h1:=flat_le (extP n) 6 (PL.take k) fun p _=>Nat.le_trans (ext_le n p) hn
 have h2:=List.length_take_le' k PL;have h3:=List.length_filter_le (fun x=> !decide (x∈PL.getD k [])) (List.range s);rw[List.length_range] at h3;rw[List.length_append,List.length_map];have h4:(PL.take k).length*6≤46656*6:=Nat.mul_le_mul_right 6 (Nat.le_trans h2 hP);omega
end
theorem rowN{w0 w:World}{M:Nat→Prop}{H:List Ck}{t:Nat}{X:List (Value×List Int)}(hs:Sat w0 M H w)(hm:un (cF t X)∈H){i:Nat}(hi:i<X.length):∃a c,X[i].1= .slice a X[i].2.length c∧(0<X[i].2.length→∃g,a=some ⟨g,0,none⟩):=by
 have h2:w.ownsRow 0 t 1 X[i].1 X[i].2.length (bF X[i].2):=(hs.mem hm).1 (.ow X[i].1 t 1 X[i].2.length (bF X[i].2)) (List.mem_map.2 ⟨_,List.getElem_mem hi,rfl⟩);rcases h2.2 with⟨h3,h4⟩|⟨g,cap,cur,h3,_⟩
 ·exact⟨none,0,by rw[h3,h4],fun h=>by omega⟩
 ·exact⟨_,_,h3,fun _=>⟨g,J⟩⟩
theorem perms_ca(n:Nat)(hn:n≤6)(w:World) :
  Ca Tryz.prog 93 [.int .i64 n] w fun x w'=>∃y:Value×List (Value×List Int),(x=y.1∧y.2.map (·.2)=(fC n n).map chI)∧Sat w M0 [un (cF 3 y.2),.ow y.1 22 1 y.2.length (y.2.map (·.1))] w':=by
 refine cM (Sat.nil w M0) Tryz.func93 J (by simp[Tryz.ntmps93]) ?_;(refine aD (aB (aA1 vq (aE (aD (aB ?_))))));refine ql_mkS0 3 J qI J (fun b10=> ?_);refine cI 22 [aB7 b10 0 0] J qI J (fun b11=> ?_);(refine aA1 vq (aE (aD (aD (aB (aA1 vq (aE (aK ?_))))))))
 refine cQ (H':=[un (cF 3 [(aB7 b10 0 0,[])]),.ow (aB7 b11 1 1) 22 1 1 [aB7 b10 0 0]]) (fun w' hs=>by
  have h1:=Sat.un_nil (Sat.pt_ow (sz:=1) (m:=1) rfl qG (hs.sp (H':=[.pt b11 [aB7 b10 0 0] 22,.ow (aB7 b10 0 0) 3 1 0 []]) qF));have h2:=mS (xs:=[]) (u:=aB7 b10 0 0) (r:=[]) (t:=3) (R:=[.ow (aB7 b11 1 1) 22 1 1 [aB7 b10 0 0]]) (h1.sp (H':=[.ow (aB7 b10 0 0) 3 1 0 [],un (cF 3 []),.ow (aB7 b11 1 1) 22 1 1 [aB7 b10 0 0]]) qF);exact h2.sp qF) ?_
 refine bD (σ:=Nat×Value×List (Value×List Int)) (fun z=>z.1≤n∧z.2.2.map (·.2)=(fC n z.1).map chI) (fun z=>n-z.1) (fun z=>[(0,.int .i64 n),(3,z.2.1),(4,.int .i64 z.1)]) (fun z=>[un (cF 3 z.2.2),.ow z.2.1 22 1 z.2.2.length (z.2.2.map (·.1))]) (0,aB7 b11 1 1,[(aB7 b10 0 0,[])]) ⟨by simp,J⟩ ⟨J,J,J,trivial⟩ qF ?_;rintro⟨i,v3,Y⟩ ⟨hi,hY⟩ K hK;dsimp only at hi hY hK ⊢;have hYl:Y.length=(fC n i).length:=by have:=congrArg List.length hY;simpa using this
 have hPb:=perm_bd hn (i:=i) qG;(refine aD (aD (aB ?_));(iterate 3 refine aA1 vq ?_);refine aE ?_);refine cP J (fun hc=> ?_) (fun hc=> ?_)
 ·have hi2:i<n:=by omega
  clear hc;obtain⟨PL,hPL⟩:∃PL,PL=fC n i:=⟨_,rfl⟩;have hsuc:=permN_succ n i;rw[←hPL] at hY hYl hPb hsuc;refine dO (fun w hs=>hs.slice2 (v:=v3) qF) ?_;rintro⟨a3,c3,rfl⟩;(refine aJ (aD (aK (aD (aB (aA1 vq (aE (aD (aD (aB (aA1 vq (aE ?_)))))))))));refine aK ?_);refine cQ (H':=[un (cF 3 []),.ow (.slice none 0 0) 22 1 0 [],un (cF 3 Y),.ow (.slice a3 Y.length c3) 22 1 Y.length (Y.map (·.1))]) (fun w' hs=>(Sat.un_nil (Sat.ownil hs 22 1)).sp qF) ?_;refine bD (σ:=Nat×Value×List (Value×List Int)) (fun z=>z.1≤Y.length∧z.2.2.map (·.2)=(nxt PL n z.1 0).map chI) (fun z=>Y.length-z.1) (fun z=>[(0,.int .i64 n),(3,.slice a3 Y.length c3),(4,.int .i64 i),(5,z.2.1),(6,.int .i64 z.1)]) (fun z=>[un (cF 3 z.2.2),.ow z.2.1 22 1 z.2.2.length (z.2.2.map (·.1)),un (cF 3 Y),.ow (.slice a3 Y.length c3) 22 1 Y.length (Y.map (·.1))]) (0,.slice none 0 0,[]) ⟨by simp,by rw[nxt_zero];rfl⟩ ⟨J,J,J,J,J,trivial⟩ qF ?_;rintro⟨k,v5,Z⟩ ⟨hk,hZ⟩ K1 hK1;dsimp only at hk hZ hK1 ⊢;(refine aD (aD (aB ?_));(iterate 4 refine aA1 vq ?_);refine aE ?_);refine cP J (fun hc=> ?_) (fun hc=> ?_)
  ·have hk2:k<Y.length:=by omega
   clear hc;obtain⟨p,hp⟩:∃p,p=PL.getD k []:=⟨_,rfl⟩
   have hYk:Y[k].2=chI p:=by
    have h1:(Y.map (·.2))[k]? =(PL.map chI)[k]? :=by rw[hY]
    rw[List.getElem?_map,List.getElem?_map,List.getElem?_eq_getElem hk2,List.getElem?_eq_getElem qG,Option.map_some,Option.map_some] at h1;rw[hp,List.getD_eq_getElem?_getD,List.getElem?_eq_getElem qG,Option.getD_some];exact Option.some.inj h1
   have hpl:Y[k].2.length=p.length:=by rw[hYk,bT]
   have hpb:p.length≤6:=by
    have hm:p∈fC n i:=by
     rw[←hPL,hp,List.getD_eq_getElem?_getD,List.getElem?_eq_getElem qG,Option.getD_some];exact List.getElem_mem _
    have:=(oU.1 hm).2.2;omega
   refine dO (fun w hs=>rowN hs (t:=3) (X:=Y) qF hk2) ?_;rintro⟨ka,kc,ek,hka⟩;rw[hpl] at ek hka;refine dO (fun w hs=>hs.ownSome (v:= .slice a3 Y.length c3) qF qG) ?_;rintro⟨g3,q3,ev⟩;cases ev
   (refine aJ (aD (aK (aD (aB (aA1 vq (aE (aK ?_))))))))
   refine bD (σ:=Nat×Value×List (Value×List Int)) (fun z=>z.1≤n∧z.2.2.map (·.2)=(nxt PL n k z.1).map chI) (fun z=>n-z.1) (fun z=>[(0,.int .i64 n),(3,aB7 g3 Y.length c3),(4,.int .i64 i),(5,z.2.1),(6,.int .i64 k),(7,.int .i64 z.1)]) (fun z=>[un (cF 3 z.2.2),.ow z.2.1 22 1 z.2.2.length (z.2.2.map (·.1)),un (cF 3 Y),.ow (aB7 g3 Y.length c3) 22 1 Y.length (Y.map (·.1))]) (0,v5,Z) ⟨by simp,hZ⟩ ⟨J,J,J,J,J,J,trivial⟩ qF ?_;rintro⟨s,v5,Z⟩ ⟨hs',hZ⟩ K2 hK2;dsimp only at hs' hZ hK2 ⊢;(refine aD (aD (aB ?_));(iterate 3 refine aA1 vq ?_);refine aE ?_);refine cP J (fun hc=> ?_) (fun hc=> ?_)
   ·have hs2:s<n:=by omega
    clear hc
    have hZb:Z.length≤300000:=by
     have h1:=congrArg List.length hZ;have h2:=nxt_le (PL:=PL) (k:=k) (s:=s) hn qG hPb;simp only[List.length_map] at h1;omega
    (refine aJ (aD (aK (aD (aB (aA1 vq (aE (aD (aD (aB (aA1 vq (aE ?_)))))))))));refine aK ?_)
    refine bD (σ:=Nat) (fun m=>m≤p.length) (fun m=>p.length-m) (fun m=>[(0,.int .i64 n),(3,aB7 g3 Y.length c3),(4,.int .i64 i),(5,v5),(6,.int .i64 k),(7,.int .i64 s),(8,.bool (decide (s∈p.take m)&&true)),(9,.int .i64 m)]) (fun m=>[un (cF 3 Z),.ow v5 22 1 Z.length (Z.map (·.1)),un (cF 3 Y),.ow (aB7 g3 Y.length c3) 22 1 Y.length (Y.map (·.1))]) 0 qG ⟨J,J,J,J,J,J,by rw[show(decide (s∈p.take 0)&&true)=false from by simp];rfl,J,trivial⟩ qF ?_;rintro m hm K3 hK3;(refine aD (aD (aB ?_));(iterate 3 refine aA1 vq ?_));refine aA5 uq qG qG ?_;refine bC (v:= .slice ka p.length kc) qE J J J (fun w hs=>iY hs (t:=22) (X:=Y) qF hk2 ek J) ?_;(refine aA1 vq (aA1 vq (aE ?_)));refine cP J (fun hc=> ?_) (fun hc=> ?_)
    ·have hm2:m<p.length:=by omega
     clear hc;obtain⟨gk,rfl⟩:=hka qG
     have htk:(s∈p.take (m+1))↔(s∈p.take m∨p[m]=s):=by
      rw[List.take_succ_eq_append_getElem hm2,List.mem_append,List.mem_singleton];exact⟨fun h=>h.imp_right Eq.symm,fun h=>h.imp_right Eq.symm⟩
     by_cases hu:s∈p.take m
     ·rw[decide_eq_true hu];(refine aJ (aD (aK (aB (aA1 vq (aA1 vq ?_)))));(iterate 9 refine aA3 zq ?_);refine aA1 vq (aA1 vq (aE (aW (aB (aA1 vq (aA4 xq qG qG (aA1 vq (aE ?_)))))))));exact hK3 (m+1) _ _ qG qG ⟨J,J,J,J,J,J,by rw[decide_eq_true (htk.2 (.inl hu))];rfl,J,trivial⟩ qF
     ·rw[decide_eq_false hu];have hval:(chI p)[m]'(by rw[bT];exact hm2)=((p[m]:Nat):Int):=by simp[chI]
      (refine aJ (aD (aK (aB (aA1 vq (aA1 vq (aC J (aA1 vq (aC J (aA1 vq (aC J ?_)))))))))))
      refine aA5 uq qG qG ?_;(refine aC J ?_);refine bC (v:=aB7 gk p.length kc) qE J J J (fun w hs=>iY hs (t:=22) (X:=Y) qF hk2 ek J) ?_;(refine aC J (aA1 vq (aC J ?_)));refine aA5 uq qG qG ?_;(refine aC J ?_);refine bC (v:= .int .i64 (p[m]:Nat)) qE J J J (fun w hs=>row_at hs (t:=3) (X:=Y) qF hk2 ek (by rw[hpl];exact hm2) (by rw[hYk,List.getD_eq_getElem?_getD,List.getElem?_eq_getElem (by rw[bT];exact hm2),Option.getD_some];exact hval) J) ?_;by_cases he:p[m]=s
      ·(refine aC J (aA1 vq (aC J (aA8 yq qG (aA1 vq (aA1 vq (aE (aW (aB (aA1 vq (aA4 xq qG qG (aA1 vq ?_)))))))))));refine aE ?_)
       exact hK3 (m+1) _ _ qG qG ⟨J,J,J,J,J,J,by rw[decide_eq_true (htk.2 (.inr he))];rfl,J,trivial⟩ qF
      ·(refine aC J (aA1 vq (aC J (aA9 yq qG (aA1 vq (aA1 vq (aE (aW (aB (aA1 vq (aA4 xq qG qG (aA1 vq ?_)))))))))));refine aE ?_)
       exact hK3 (m+1) _ _ qG qG ⟨J,J,J,J,J,J,by rw[decide_eq_false (fun h=>(htk.1 h).elim hu he)];rfl,J,trivial⟩ qF
    ·obtain rfl:m=p.length:=by omega
     clear hc hK3 hm;rw[List.take_length];by_cases hu:s∈p
     ·rw[decide_eq_true hu];(refine aZ _ J (aD (aB (aA1 vq (aA1 vq (aE (aF J (aJ (aW (aB (aA1 vq (aA4 xq qG qG ?_)))))))))));refine aA1 vq (aE ?_));exact hK2 (s+1,v5,Z) _ _ ⟨by simp only;omega,by dsimp only;rw[nxt_no (by rw[←hp];exact hu)];exact hZ⟩ (by simp only;omega) ⟨J,J,J,J,J,J,trivial⟩ qF
     ·rw[decide_eq_false hu];(refine aZ _ J (aD (aB (aA1 vq (aA1 vq (aE (aH J (aB (aA1 vq ?_)))))))));refine ql_mkS0 3 J qI J (fun be=> ?_);(refine aA1 vq (aA1 vq ?_));refine aA5 uq qG qG ?_;refine bC (v:= .slice ka p.length kc) qE J J J (fun w hs=>iY hs (t:=22) (X:=Y) qF hk2 ek J) ?_;refine bU (q:=p.length) (news:=bF (chI p)) slI J J J (fun v'=>by repeat constructor) (fun w' hs=>⟨_,_,by have:=((lU hs (t:=3) (xs:=Y) qF k hk2).1).row;rw[ek,hYk,bT] at this;exact this⟩) (by simp[bF,dA]) qG qG (fun u1=> ?_);(refine aA1 vq ?_);refine cI 3 [.int .i64 s] J qI J (fun bn=> ?_);refine bU (q:=1) (news:=[.int .i64 s]) slI J J J (fun v'=>by repeat constructor) (fun w' hs=>⟨_,_,Blk.rdN (hs.blk (b:=bn) qF) J⟩) (by simp[dA]) qG qG (fun u2=> ?_);refine bW (fun w hs=>hs.ownSome (v:=u2) qF qG) ?_;rintro⟨g2,c2,rfl⟩;refine cI 22 [aB7 g2 (0+p.length+1) c2] J qI J (fun bm=> ?_);refine bU (q:=1) (news:=[aB7 g2 (0+p.length+1) c2]) slII J J J (fun v'=>by repeat constructor) (fun w' hs=>⟨_,_,Blk.rdN (hs.blk (b:=bm) qF) J⟩) (by simp[dA]) qG qG (fun u5=> ?_);(refine aA1 vq (aE (aW (aB (aA1 vq (aA4 xq qG qG (aA1 vq (aE ?_))))))));have hrl:(chI (p++[s])).length=0+p.length+1:=by rw[bT,List.length_append,List.length_singleton];omega
      have hri:bF (chI (p++[s]))=[]++bF (chI p)++[.int .i64 s]:=by simp[bF,chI]
      refine cQ (H':=[un (cF 3 (Z++[(aB7 g2 (0+p.length+1) c2,chI (p++[s]))])),.ow u5 22 1 (Z.length+1) (Z.map (·.1)++[aB7 g2 (0+p.length+1) c2]),un (cF 3 Y),.ow (aB7 g3 Y.length c3) 22 1 Y.length (Y.map (·.1))]) (fun w' hs=>by
       refine mS ?_;rw[hrl,hri];exact hs.sp qF) ?_
      have elen:(Z++[(aB7 g2 (0+p.length+1) c2,chI (p++[s]))]).length=Z.length+1:=by simp
      exact hK2 (s+1,u5,Z++[(aB7 g2 (0+p.length+1) c2,chI (p++[s]))]) _ _ ⟨by simp only;omega,by dsimp only;rw[nxt_yes (by rw[←hp];exact hu),List.map_append,hZ,List.map_append,←hp];rfl⟩ (by simp only;omega) ⟨J,J,J,J,J,J,trivial⟩ (by dsimp only;rw[elen,List.map_append];exact Sp.refl _)
   ·obtain rfl:s=n:=by omega
    clear hc hK2;(refine aZ _ J (aW (aB (aA1 vq (aA4 xq qG qG (aA1 vq (aE ?_)))))));exact hK1 (k+1,v5,Z) _ _ ⟨by simp only;omega,by dsimp only;rw[←nxt_row qG];exact hZ⟩ (by simp only;omega) ⟨J,J,J,J,J,trivial⟩ qF
  ·obtain rfl:k=Y.length:=by omega
   clear hc hK1;rw[hYl,nxt_all,←hsuc] at hZ;(refine aZ _ J (aB (aA1 vq (aA1 vq (aE (aW (aB (aA1 vq (aA4 xq qG qG (aA1 vq (aE ?_)))))))))));exact hK (i+1,v5,Z) _ _ ⟨by simp only;omega,hZ⟩ (by simp only;omega) ⟨J,J,J,trivial⟩ qF
 ·obtain rfl:i=n:=by omega
  (refine aZ _ J (aD (aB (aA1 vq (aA1 vq (aE (aQ ?_)))))))
  refine aA2 wq qF fun w hs=> ?_;exact⟨(v3,Y),⟨J,hY⟩,hs.sp qF⟩
def dl{α:Type}[DecidableEq α](X:List α):List α:=X.foldl (fun acc x=>if x∈acc then acc else acc++[x]) []
section
variable {α : Type} [DecidableEq α]
theorem dl_snoc(X:List α)(x:α):dl (X++[x])=if x∈dl X then dl X else dl X++[x]:=by
 unfold dl;rw[List.foldl_append]
 rfl
theorem pK{v:α}:∀X:List α,v∈dl X↔v∈X:=fun X=>snocI (p:=fun X=>v∈dl X↔v∈X) (by simp[dl]) (fun X x ih=>by
 rw[dl_snoc,List.mem_append,List.mem_singleton];split
 ·rename_i h
  rw[ih];constructor
  ·exact .inl
  ·rintro(h2|rfl)
   ·exact h2
   ·exact ih.1 h
 ·rw[List.mem_append,List.mem_singleton,ih]) X
theorem dl_nodup:∀X:List α,(dl X).Nodup:=fun X=>snocI (p:=fun X=>(dl X).Nodup) (by simp[dl]) (fun X x ih=>by
 rw[dl_snoc];split
 ·exact ih
 ·rename_i h
  exact List.nodup_append.2 ⟨ih,by simp,fun a ha b hb e=>by
   obtain rfl:b=x:=by simpa using hb
   subst e;exact h ha⟩) X
theorem dl_one{X:List α}{v:α}(h:∀x∈X,x=v):(dl X).length≤1:=iJ (D:=[v]) (dl_nodup X) fun x hx=>by
 rw[h x ((pK X).1 hx)];simp
theorem dl_pos{X:List α}{v:α}(h:v∈X):1≤(dl X).length:=List.length_pos_of_mem ((pK X).2 h)
theorem dl_eq{X:List α}(h:(dl X).length≤1){v u:α}(hv:v∈X)(hu:u∈X):v=u:=by
 have h1:=(pK X).2 hv;have h2:=(pK X).2 hu
 match hX:dl X,h with
 | [],_=>rw[hX] at h1;cases h1
 | [x],_=>
  rw[hX] at h1 h2;rw[List.mem_singleton.1 h1,List.mem_singleton.1 h2]
 | _::_::_,h=>simp at h
end
def preN(X:List (List Nat))(k:Nat):Nat:=(dl (X.map (·.take k))).length
theorem dl_split2(q:List Nat→Bool)(X:List (List Nat))(k:Nat):preN X k≤preN (X.filter q) k+preN (X.filter fun x=> !q x) k:=by
 unfold preN;rw[←List.length_append];refine iJ (dl_nodup _) fun x hx=> ?_
 obtain⟨L,h,rfl⟩:=List.mem_map.1 ((pK _).1 hx);rw[List.mem_append,pK,pK];cases hq:q L with
 | true=>exact .inl (List.mem_map.2 ⟨L,List.mem_filter.2 ⟨h,hq⟩,rfl⟩)
 | false=>exact .inr (List.mem_map.2 ⟨L,List.mem_filter.2 ⟨h,by rw[hq];rfl⟩,rfl⟩)
def bfB(a b:Nat)(L:List Nat):Bool:=decide (L.idxOf a<L.idxOf b)
theorem InO.with{o n a b:Nat}(h:InO o n)(hn:n≤8)(ha:a<n)(hb:b<n):InO (cU o a b) n:=with_sub (R:=fun a b=>a<n∧b<n) qG qG (fun _ _ _ _ _ _ h1 h2=>⟨h1.1,h2.2⟩) h ⟨ha,hb⟩
theorem LinO.mono{o p n:Nat}{L:List Nat}(h:LinO p n L)(hl:LeO o p):LinO o n L:=⟨h.perm,fun a b ha hb hf=>h.idx a b ha hb (hl a b ha hb hf)⟩
theorem lK{o n a b:Nat}(hn:n≤8)(hi:InO o n)(ha:a<n)(hb:b<n):(FL o n n).filter (bfB a b)=FL (cU o a b) n n:=by
 rw[←FL_eq,←FL_eq,List.filter_filter];refine List.filter_congr fun L hL=> ?_
 have hp:=gV.1 hL;rw[Bool.eq_iff_iff,Bool.and_eq_true,pre_lin hn hi hp,pre_lin hn (hi.with hn ha hb) hp];unfold bfB;rw[decide_eq_true_iff];constructor
 ·rintro⟨h1,h2⟩;exact h2.with hn ha hb h1
 ·intro h;exact⟨(h.idx a b qG qG (pR qG qG)).2.2,h.mono (le_with o a b)⟩
theorem fl_not{o n a b:Nat}(hn:n≤8)(hi:InO o n)(ha:a<n)(hb:b<n)(hne:a≠b):(FL o n n).filter (fun L=> !bfB a b L)=(FL o n n).filter (bfB b a):=List.filter_congr fun L hL=>by
 have h:=(fT hn hi).1 hL;have:=idx_ne h ha hne;unfold bfB;by_cases h2:L.idxOf a<L.idxOf b
 ·have h3:¬L.idxOf b<L.idxOf a:=by omega
  simp[h2,h3]
 ·have h3:L.idxOf b<L.idxOf a:=by omega
  simp[h2,h3]
theorem fl_ne{o n:Nat}(hc:NoC o n)(ho:Ord o)(hn:n≤8):∃L,L∈FL o n n:=by
 have:=fl_first hc ho hn n (Nat.le_refl _);cases h:FL o n n with
 | nil=>rw[h] at this;cases this
 | cons p X=>exact⟨p,List.mem_cons_self⟩
theorem pre_known{o n k:Nat}(hc:NoC o n)(ho:Ord o)(hn:n≤8)(hi:InO o n)(hk:k≤n):preN (FL o n n) k≤1↔dQ o n k=true:=by
 constructor
 ·intro h;refine pB.2 fun p hp=> ?_
  obtain⟨L0,hL0⟩:=fl_ne hc ho hn;have h0:=(fT hn hi).1 hL0;have hl0:=h0.len;have hs:L0[p]'qG<n:=h0.mem.1 (List.getElem_mem _)
  have key:∀L,LinO o n L→L.idxOf (L0[p]'qG)=p:=fun L hL=>by
   have h1:L.take k=L0.take k:=dl_eq h (List.mem_map.2 ⟨L,(fT hn hi).2 hL,rfl⟩) (List.mem_map.2 ⟨L0,hL0,rfl⟩);have hl:=hL.len
   have h2:L[p]'qG=L0[p]'qG:=by
    have h3:(L.take k)[p]? =(L0.take k)[p]? :=by rw[h1]
    rw[List.getElem?_take_of_lt hp,List.getElem?_take_of_lt hp,List.getElem?_eq_getElem qG,List.getElem?_eq_getElem qG] at h3;exact Option.some.inj h3
   rw[←h2];exact hL.nodup.idxOf_getElem p qG
  obtain⟨L1,g1,g2⟩:=place_lo hc ho hn hi hs;obtain⟨L2,g3,g4⟩:=place_hi hc ho hn hi hs;have e1:=key L1 g1;have e2:=key L2 g3;exact⟨_,hs,by omega,by omega⟩
 ·intro h;obtain⟨L0,hL0⟩:=fl_ne hc ho hn;refine dl_one (v:=L0.take k) fun x hx=> ?_
  obtain⟨L,hL,rfl⟩:=List.mem_map.1 hx;exact lin_same ((fT hn hi).1 hL) ((fT hn hi).1 hL0) hn h hk
theorem pre_plan{n k:Nat}(hn:n≤8)(h1:1≤n)(hk:k≤n):∀u o,undN o n≤u→Ord o→NoC o n→InO o n→preN (FL o n n) k≤2^planO n k o
 | u,o,hu,ho,hc,hi=>by
  rcases Classical.em (dQ o n k=true) with hkn|hkn
  ·have:=(pre_known hc ho hn hi hk).2 hkn;have:1≤2^planO n k o:=Nat.one_le_two_pow;omega
  ·obtain⟨p,hp,hup,hw⟩:=plan_at hn h1 hk ho hc hkn;have hU:=Und.of ho hn hp hup;have l1:=nN hU;have l2:=nN hU.swap
   match u with
   | 0=>omega
   | u+1=>
    have q1:=hU.hx;have q2:=hU.hy;have h4:=pre_plan hn h1 hk u (cU o p.1 p.2) qG (ho.with qG qG) (hc.with hU) (hi.with hn q1 q2);have h5:=pre_plan hn h1 hk u (cU o p.2 p.1) qG (ho.with qG qG) (hc.with hU.swap) (hi.with hn q2 q1);have h6:=dl_split2 (bfB p.1 p.2) (FL o n n) k;rw[fl_not hn hi q1 q2 hU.ne,lK hn hi q1 q2,lK hn hi q2 q1] at h6;unfold worthO at hw;rw[←hw];have h7:2^planO n k (cU o p.1 p.2)≤2^max (planO n k (cU o p.1 p.2)) (planO n k (cU o p.2 p.1)):=Nat.pow_le_pow_right qG (Nat.le_max_left _ _);have h8:2^planO n k (cU o p.2 p.1)≤2^max (planO n k (cU o p.1 p.2)) (planO n k (cU o p.2 p.1)):=Nat.pow_le_pow_right qG (Nat.le_max_right _ _);rw[Nat.add_comm,Nat.pow_succ];omega
def enoB(n k r o a b:Nat):Bool:=(!fa o a b&&(!fa o b a&&decide (worthO n k o a b≤r)))&&true
theorem eno_iff{n k r o:Nat}(hn:n≤8)(h1:1≤n)(hk:k≤n)(ho:Ord o)(hc:NoC o n)(hkn:¬dQ o n k=true):planO n k o≤r↔∃a b,a<b∧b<n∧enoB n k r o a b=true:=by
 constructor
 ·intro h;obtain⟨p,hp,hup,hw⟩:=plan_at hn h1 hk ho hc hkn;obtain⟨p1,p2⟩:=p;obtain⟨h2,h3⟩:=eY.1 hp;obtain⟨h4,h5⟩:=gZ.1 hup;refine⟨p2,p1,h3,h2,?_⟩;unfold enoB;rw[worth_comm];simp only at h4 h5 hw ⊢;rw[h4,h5,hw];simpa using h
 ·rintro⟨a,b,h2,h3,h4⟩;unfold enoB at h4;simp only[Bool.and_true,Bool.and_eq_true,Bool.not_eq_true',decide_eq_true_eq] at h4;have hU:Und o n a b:=⟨ho,hn,by omega,h3,by omega,h4.1,h4.2.1⟩;exact Nat.le_trans (plan_worth hU) h4.2.2
structure Bij(n:Nat)(t u:Nat→Nat):Prop where
 t1:∀i,i<n→t i<n
 u1:∀i,i<n→u i<n
 tu:∀i,i<n→t (u i)=i
 ut:∀i,i<n→u (t i)=i
theorem Bij.symm{n:Nat}{t u:Nat→Nat}(h:Bij n t u):Bij n u t:=⟨h.u1,h.t1,h.ut,h.tu⟩
theorem Bij.inj{n:Nat}{t u:Nat→Nat}(h:Bij n t u){i j:Nat}(hi:i<n)(hj:j<n)(e:t i=t j):i=j:=by
 rw[←h.ut i hi,←h.ut j hj,e]
structure RenO(n:Nat)(t u:Nat→Nat)(o p:Nat):Prop where
 n8:n≤8
 bij:Bij n t u
 oo:Ord o
 op:Ord p
 io:InO o n
 ip:InO p n
 eq:∀a b,a<n→b<n→fa p (t a) (t b)=fa o a b
theorem RenO.symm{n:Nat}{t u:Nat→Nat}{o p:Nat}(h:RenO n t u o p):RenO n u t p o:=⟨h.n8,h.bij.symm,h.op,h.oo,h.ip,h.io,fun a b ha hb=>by
 rw[←h.eq _ _ (h.bij.u1 a ha) (h.bij.u1 b hb),h.bij.tu a ha,h.bij.tu b hb]⟩
theorem RenO.noC{n:Nat}{t u:Nat→Nat}{o p:Nat}(h:RenO n t u o p)(hc:NoC o n):NoC p n:=fun s hs=>by
 have:=h.eq _ _ (h.bij.u1 s hs) (h.bij.u1 s hs);rw[h.bij.tu s hs] at this;rw[this];exact hc _ (h.bij.u1 s hs)
theorem RenO.with{n:Nat}{t u:Nat→Nat}{o p x y:Nat}(h:RenO n t u o p)(hx:x<n)(hy:y<n):RenO n t u (cU o x y) (cU p (t x) (t y)):=by
 have h8:=h.n8;have tx:=h.bij.t1 x hx;have ty:=h.bij.t1 y hy;refine⟨h8,h.bij,h.oo.with qG qG,h.op.with qG qG,h.io.with h8 hx hy,h.ip.with h8 tx ty,fun a b ha hb=> ?_⟩;have ta:=h.bij.t1 a ha;have tb:=h.bij.t1 b hb;rw[Bool.eq_iff_iff,gN qG qG,gN qG qG,h.eq a b ha hb,h.eq a x ha hx,h.eq y b hy hb];have e1:t a=t x↔a=x:=⟨h.bij.inj ha hx,fun e=>by rw[e]⟩;have e2:t b=t y↔b=y:=⟨h.bij.inj hb hy,fun e=>by rw[e]⟩;rw[e1,e2]
theorem pL{n:Nat}{t u:Nat→Nat}(h:Bij n t u){q r:Nat→Bool}(hq:∀i,i<n→q i=true→r (t i)=true):((List.range n).filter q).length≤((List.range n).filter r).length:=by
 rw[←List.length_map (f:=t)];refine iJ ?_ fun x hx=> ?_
 ·refine List.pairwise_map.2 (List.Pairwise.imp_of_mem ?_ (List.nodup_range.sublist List.filter_sublist));intro a b ha hb hne e;exact hne (h.inj (List.mem_range.1 (List.mem_filter.1 ha).1) (List.mem_range.1 (List.mem_filter.1 hb).1) e)
 ·obtain⟨i,hi,rfl⟩:=List.mem_map.1 hx;obtain⟨h1,h2⟩:=List.mem_filter.1 hi;have h3:=List.mem_range.1 h1;exact List.mem_filter.2 ⟨List.mem_range.2 (h.t1 i h3),hq i h3 h2⟩
theorem RenO.up{n:Nat}{t u:Nat→Nat}{o p s:Nat}(h:RenO n t u o p)(hs:s<n):upN p (t s) n=upN o s n:=by
 refine Nat.le_antisymm ?_ ?_
 ·refine pL h.bij.symm fun i hi hf=> ?_;have:=h.eq (u i) s (h.bij.u1 i hi) hs
  rw[h.bij.tu i hi] at this;rw[←this];exact hf
 ·refine pL h.bij fun i hi hf=> ?_;rw[h.eq i s hi hs];exact hf
theorem RenO.dn{n:Nat}{t u:Nat→Nat}{o p s:Nat}(h:RenO n t u o p)(hs:s<n):dnN p (t s) n=dnN o s n:=by
 refine Nat.le_antisymm ?_ ?_
 ·refine pL h.bij.symm fun i hi hf=> ?_;have:=h.eq s (u i) hs (h.bij.u1 i hi)
  rw[h.bij.tu i hi] at this;rw[←this];exact hf
 ·refine pL h.bij fun i hi hf=> ?_;rw[h.eq s i hs hi];exact hf
theorem RenO.known{n k:Nat}{t u:Nat→Nat}{o p:Nat}(h:RenO n t u o p)(hk:dQ o n k=true):dQ p n k=true:=by
 rw[pB] at hk ⊢;intro place hp;obtain⟨s,hs,h1,h2⟩:=hk place hp;exact⟨t s,h.bij.t1 s hs,by rw[h.up hs];exact h1,by rw[h.dn hs];exact h2⟩
theorem kN{n k:Nat}{t u:Nat→Nat}(hn:n≤8)(h1:1≤n)(hk:k≤n):∀v o p,undN o n≤v→NoC o n→RenO n t u o p→planO n k p≤planO n k o
 | v,o,p,hv,hc,h=>by
  rcases Classical.em (dQ o n k=true) with hkn|hkn
  ·rw[mA hn h.op,if_pos (h.known hkn)];omega
  ·obtain⟨q,hq,hup,hw⟩:=plan_at hn h1 hk h.oo hc hkn;have hU:=Und.of h.oo hn hq hup;have l1:=nN hU;have l2:=nN hU.swap
   match v with
   | 0=>omega
   | v+1=>
    have q1:=hU.hx;have q2:=hU.hy;have g1:=kN (k:=k) hn h1 hk v _ _ qG (hc.with hU) (h.with q1 q2);have g2:=kN (k:=k) hn h1 hk v _ _ qG (hc.with hU.swap) (h.with q2 q1);have hU2:Und p n (t q.1) (t q.2):=⟨h.op,hn,h.bij.t1 _ q1,h.bij.t1 _ q2,fun e=>hU.ne (h.bij.inj q1 q2 e),by rw[h.eq _ _ q1 q2];exact hU.xy,by rw[h.eq _ _ q2 q1];exact hU.yx⟩;have g3:=plan_worth (k:=k) hU2;unfold worthO at g3 hw;omega
theorem RenO.plan{n k:Nat}{t u:Nat→Nat}{o p:Nat}(h:RenO n t u o p)(h1:1≤n)(hk:k≤n)(hc:NoC o n):planO n k p=planO n k o:=
 Nat.le_antisymm (kN h.n8 h1 hk _ _ _ (Nat.le_refl _) hc h) (kN h.n8 h1 hk _ _ _ (Nat.le_refl _) (h.noC hc) h.symm)
theorem perm_nodup(n:Nat):∀i,(fC n i).Nodup
 | 0=>by simp[fC]
 | i+1=>by
  rw[fC];refine List.pairwise_flatMap.2 ⟨fun p _=> ?_,?_⟩
  ·refine List.pairwise_map.2 (List.Pairwise.imp ?_ (List.nodup_range.sublist List.filter_sublist));intro a b hne e;exact hne (by simpa using e)
  ·refine List.Pairwise.imp ?_ (perm_nodup n i);intro p q hne x hx y hy e;obtain⟨a,_,rfl⟩:=List.mem_map.1 hx;obtain⟨b,_,rfl⟩:=List.mem_map.1 hy;exact hne (List.append_inj_left' e J)
theorem fl_nodup(o n i:Nat):(FL o n i).Nodup:=by
 rw[←FL_eq];exact(perm_nodup n i).sublist List.filter_sublist
theorem map_idx{n:Nat}{t u:Nat→Nat}(h:Bij n t u):∀{L:List Nat},(∀x∈L,x<n)→∀{s:Nat},s<n→(L.map t).idxOf (t s)=L.idxOf s
 | [],_,_,_=>rfl
 | x::L,hL,s,hs=>by
  have hx:=hL x List.mem_cons_self;have ih:=map_idx h (L:=L) (fun y hy=>hL y (List.mem_cons_of_mem _ hy)) hs;rw[List.map_cons];by_cases e:x=s
  ·subst e;rw[List.idxOf_cons_self,List.idxOf_cons_self]
  ·have e2:t x≠t s:=fun h2=>e (h.inj hx hs h2)
   rw[nY e2,nY e,ih]
theorem map_perm{n:Nat}{t u:Nat→Nat}(h:Bij n t u){L:List Nat}(hp:L.Perm (List.range n)):(L.map t).Perm (List.range n):=by
 have h1:∀x∈L,x<n:=fun x hx=>List.mem_range.1 (hp.mem_iff.1 hx)
 refine full_perm ?_ (fun x hx=> ?_) (by rw[List.length_map,hp.length_eq,List.length_range])
 ·refine List.pairwise_map.2 (List.Pairwise.imp_of_mem ?_ (hp.nodup_iff.2 List.nodup_range));intro a b ha hb hne e;exact hne (h.inj (h1 a ha) (h1 b hb) e)
 ·obtain⟨y,hy,rfl⟩:=List.mem_map.1 hx;exact h.t1 y (h1 y hy)
theorem ren_lin{n:Nat}{t u:Nat→Nat}{o p:Nat}(h:RenO n t u o p){L:List Nat}(hL:LinO o n L):LinO p n (L.map t):=by
 have h1:∀x∈L,x<n:=fun x hx=>hL.mem.1 hx
 refine⟨map_perm h.bij hL.perm,fun a b ha hb hf=> ?_⟩;obtain⟨h2,h3⟩:=h.ip a b ha hb hf;refine⟨h2,h3,?_⟩;have h8:=h.n8;have ha2:=h.bij.u1 a h2;have hb2:=h.bij.u1 b h3;have h4:=h.eq _ _ ha2 hb2;rw[h.bij.tu a h2,h.bij.tu b h3,hf] at h4;have h5:=(hL.idx _ _ qG qG h4.symm).2.2;have e1:=map_idx h.bij h1 ha2;have e2:=map_idx h.bij h1 hb2;rw[h.bij.tu a h2] at e1;rw[h.bij.tu b h3] at e2;omega
theorem ren_cnt_le{n:Nat}{t u:Nat→Nat}{o p:Nat}(h:RenO n t u o p):(FL o n n).length≤(FL p n n).length:=by
 rw[←List.length_map (f:=fun L=>L.map t)];refine iJ ?_ fun x hx=> ?_
 ·refine List.pairwise_map.2 (List.Pairwise.imp_of_mem ?_ (fl_nodup o n n));intro a b ha hb hne e;have h1:=(fT h.n8 h.io).1 ha;have h2:=(fT h.n8 h.io).1 hb
  have k:∀L:List Nat,(∀x∈L,x<n)→(L.map t).map u=L:=fun L hL=>by
   rw[List.map_map];exact(List.map_congr_left (fun x hx=>h.bij.ut x (hL x hx))).trans (List.map_id _)
  refine hne ?_;rw[←k a (fun x hx=>h1.mem.1 hx),←k b (fun x hx=>h2.mem.1 hx),e]
 ·obtain⟨L,hL,rfl⟩:=List.mem_map.1 hx;exact(fT h.n8 h.ip).2 (ren_lin h ((fT h.n8 h.io).1 hL))
theorem RenO.cnt{n:Nat}{t u:Nat→Nat}{o p:Nat}(h:RenO n t u o p):cnt p n (2^n-1)=cnt o n (2^n-1):=by
 rw[←fl_len,←fl_len];exact Nat.le_antisymm (ren_cnt_le h.symm) (ren_cnt_le h)
def RenR(t:Nat→Nat)(r r':Rn):Prop:=(r'.a=(t r.a.toNat:Nat)∧r'.b=(t r.b.toNat:Nat)∧r'.lead=r.lead)∨(r'.a=(t r.b.toNat:Nat)∧r'.b=(t r.a.toNat:Nat)∧r'.lead= -r.lead)
theorem renR_run{t:Nat→Nat}{r r':Rn}(h:RenR t r r'){e:Int}(he:0≤e):runV e r'=(runV e r).map fun p=>(t p.1,t p.2):=by
 rcases h with⟨h1,h2,h3⟩|⟨h1,h2,h3⟩
 ·unfold runV;rw[h1,h2,h3,Int.toNat_natCast,Int.toNat_natCast];split
  ·rfl
  ·split<;>rfl
 ·unfold runV;rw[h1,h2,h3,Int.toNat_natCast,Int.toNat_natCast];by_cases c1:e<r.lead
  ·rw[if_neg qG,if_pos qG,if_pos c1];rfl
  ·by_cases c2:r.lead< -e
   ·rw[if_pos qG,if_neg c1,if_pos c2];rfl
   ·rw[if_neg qG,if_neg qG,if_neg c1,if_neg c2];rfl
def rnG(l:Lb)(i:Nat):Rn:=l.runs.getD i ⟨0,0,0⟩
structure RenL(l m:Lb)(t:Nat→Nat)(σ:List Nat):Prop where
 sk:m.skis=l.skis
 err:m.err=l.err
 len:m.runs.length=l.runs.length
 perm:σ.Perm (List.range l.runs.length)
 run:∀j,j<l.runs.length→RenR t (rnG l (σ.getD j 0)) (rnG m j)
section
variable {l m : Lb} {t u : Nat → Nat} {σ : List Nat}
theorem RenL.n(h:RenL l m t σ):m.n=l.n:=by unfold Lb.n;rw[h.sk]
theorem RenL.sl(h:RenL l m t σ):σ.length=l.runs.length:=by rw[h.perm.length_eq,List.length_range]
theorem RenL.lt(h:RenL l m t σ){j:Nat}(hj:j<l.runs.length):σ.getD j 0<l.runs.length:=by
 have:=h.sl;rw[List.getD_eq_getElem?_getD,List.getElem?_eq_getElem qG,Option.getD_some];exact List.mem_range.1 (h.perm.mem_iff.1 (List.getElem_mem _))
theorem RenL.at(h:RenL l m t σ){i:Nat}(hi:i<l.runs.length):∃j,j<l.runs.length∧σ.getD j 0=i:=by
 obtain⟨j,hj,e⟩:=List.mem_iff_getElem.1 (h.perm.mem_iff.2 (List.mem_range.2 hi));have:=h.sl;exact⟨j,by omega,by rw[List.getD_eq_getElem?_getD,List.getElem?_eq_getElem hj,Option.getD_some,e]⟩
theorem RenL.inj(h:RenL l m t σ){i j:Nat}(hi:i<l.runs.length)(hj:j<l.runs.length)(e:σ.getD i 0=σ.getD j 0):i=j:=by
 have:=h.sl;rw[List.getD_eq_getElem?_getD,List.getElem?_eq_getElem qG,Option.getD_some,List.getD_eq_getElem?_getD,List.getElem?_eq_getElem qG,Option.getD_some] at e;exact(List.getElem_inj (h.perm.nodup_iff.2 List.nodup_range)).1 e
theorem RenL.sh(h:RenL l m t σ)(hl:l.Ok){j f s:Nat}(hs:Sh l (σ.getD j 0) f s)(hj:j<l.runs.length):Sh m j (t f) (t s):=⟨by rw[h.len];exact hj,by
 have h1:=renR_run (h.run j hj) hl.e0;have h2:=hs.2;unfold rnG at h1;rw[h.err,h1,h2];rfl⟩
theorem RenL.hs(h:RenL l m t σ)(hl:l.Ok){j f s:Nat}(hs:Sh m j f s):∃f' s',Sh l (σ.getD j 0) f' s'∧f=t f'∧s=t s':=by
 have hj:j<l.runs.length:=by rw[←h.len];exact hs.1
 have h1:=renR_run (h.run j hj) hl.e0;have h2:=hs.2;unfold rnG at h1;rw[h.err,h1] at h2;obtain⟨p,h3,h4⟩:=Option.map_eq_some_iff.1 h2;exact⟨p.1,p.2,⟨h.lt hj,h3⟩,(congrArg Prod.fst h4).symm,(congrArg Prod.snd h4).symm⟩
theorem RenL.ok(h:RenL l m t σ)(hl:l.Ok)(hb:Bij l.n t u):m.Ok:=⟨by rw[h.sk];exact hl.s0,by rw[h.sk];exact hl.s1,by rw[h.err];exact hl.e0,by rw[h.err];exact hl.e1,by rw[h.len];exact hl.len,fun r hr=>by
 obtain⟨j,hj,rfl⟩:=List.mem_iff_getElem.1 hr;have hj2:j<l.runs.length:=by rw[←h.len];exact hj
 have h1:=h.run j hj2;have hlt:=h.lt hj2;have e1:rnG m j=m.runs[j]:=by unfold rnG;rw[List.getD_eq_getElem?_getD,List.getElem?_eq_getElem hj,Option.getD_some]
 have e2:rnG l (σ.getD j 0)=l.runs[σ.getD j 0]:=by unfold rnG;rw[List.getD_eq_getElem?_getD,List.getElem?_eq_getElem hlt,Option.getD_some]
 have ho:=hl.run _ (List.getElem_mem hlt);rw[e1,e2] at h1;have hn:(l.n:Int)=l.skis:=by have:=hl.s0;unfold Lb.n;omega
 have a0:=ho.a0;have a1:=ho.a1;have b0:=ho.b0;have b1:=ho.b1;have hne:=ho.ne;have l0:=ho.l0;have l1:=ho.l1;have ta:=hb.t1 (l.runs[σ.getD j 0].a.toNat) qG;have tb:=hb.t1 (l.runs[σ.getD j 0].b.toNat) qG
 have tne:t l.runs[σ.getD j 0].a.toNat≠t l.runs[σ.getD j 0].b.toNat:=fun e=>by
  have:=hb.inj qG qG e;omega
 have hsk:=h.sk;rcases h1 with⟨g1,g2,g3⟩|⟨g1,g2,g3⟩
 ·exact⟨by omega,by omega,by omega,by omega,by omega,by omega,by omega⟩
 ·exact⟨by omega,by omega,by omega,by omega,by omega,by omega,by omega⟩⟩
theorem RenL.o(h:RenL l m t σ)(hl:l.Ok)(hb:Bij l.n t u):RenO l.n t u l.ord m.ord:=by
 have hm:=h.ok hl hb;have h8:=hl.n8;have him:InO m.ord l.n:=by rw[←h.n];exact hm.inO
 refine⟨h8,hb,hl.o,hm.o,hl.inO,him,fun a b ha hb'=>Bool.eq_iff_iff.2 ⟨fun hf=> ?_,fun hf=> ?_⟩⟩
 ·have ta:=hb.t1 a ha;have tb:=hb.t1 b hb'
  obtain⟨x,y,hx,hy,e1,e2,h3⟩:=iM (l:=m.pairs) (R:=fun p q=>∃x y,x<l.n∧y<l.n∧p=t x∧q=t y∧fa l.ord x y=true) hm.in8 (fun p q r _ _ _ h1 h2=>by
   obtain⟨x,y,hx,hy,rfl,rfl,h3⟩:=h1;obtain⟨x',y',hx',hy',e1,rfl,h4⟩:=h2;obtain rfl:=hb.inj hy hx' e1;exact⟨x,y',hx,hy',J,J,hl.o.tr x y y' qG qG qG h3 h4⟩) (fun p hp=>by
   obtain⟨j,hj⟩:=pair_sh hp;obtain⟨f,s,h3,h4,h5⟩:=h.hs hl hj;have h6:=kK h3;obtain⟨h7,h9,_⟩:=hl.in _ h6;exact⟨f,s,h7,h9,h4,h5,iA hl.in8 h6⟩) (t a) (t b) qG qG hf
  rw[hb.inj ha hx e1,hb.inj hb' hy e2];exact h3
 ·refine iM (l:=l.pairs) (R:=fun p q=>p<l.n∧q<l.n∧fa m.ord (t p) (t q)=true) hl.in8 (fun p q r _ _ _ h1 h2=>⟨h1.1,h2.2.1,?_⟩) (fun p hp=> ?_) a b qG qG hf |>.2.2
  ·have tp:=hb.t1 p h1.1;have tq:=hb.t1 q h1.2.1;have tr:=hb.t1 r h2.2.1;exact hm.o.tr _ _ _ qG qG qG h1.2.2 h2.2.2
  ·obtain⟨h7,h9,_⟩:=hl.in _ hp;obtain⟨i,hi⟩:=pair_sh hp;obtain⟨j,hj,e⟩:=h.at hi.1;rw[←e] at hi;exact⟨h7,h9,iA hm.in8 (kK (h.sh hl hi hj))⟩
theorem short_wk{a b:Nat}{c:List Int}(he:0≤l.err)(h:Short l a b c):Wk l a c.length b:=by
 obtain⟨b',e,hw⟩:=lead_wk he a c.length c b rfl h.ok;have:b'=b:=by omega
 rw[←this];exact hw
theorem short_min{a b k:Nat}{c:List Int}(h:Short l a b c)(hk:1≤k)(hw:Wk l a k b):c.length≤k:=by
 obtain⟨c',h1,h2⟩:=wk_lead k b hw;rw[←h1];exact h.min c' (fun e=>by rw[e] at h1;simp at h1;omega) h2
end
def agW(l:Lb)(L:List Nat)(i:Nat):Bool:=match lH l.err (l.runs.getD i ⟨0,0,0⟩) with
 | some p=>decide (L.idxOf p.2.toNat<L.idxOf p.1.toNat)
 | none=>false
def agK(l:Lb)(L:List Nat)(k:Nat):Nat:=((List.range k).filter (agW l L)).length
def agN(l:Lb)(L:List Nat):Nat:=agK l L l.runs.length
theorem agK_succ(l:Lb)(L:List Nat)(k:Nat):agK l L (k+1)=agK l L k+(if agW l L k=true then 1 else 0):=by
 unfold agK;rw[List.range_succ,List.filter_append,List.length_append]
 congr 1
 cases h:agW l L k<;>simp[h]
theorem agK_le(l:Lb)(L:List Nat)(k:Nat):agK l L k≤k:=by
 have:=List.length_filter_le (agW l L) (List.range k)
 rwa [List.length_range] at this
def plI(n:Nat)(L:List Nat)(i:Nat):List Int:=(List.range n).map fun x=>if L.idxOf x<i then(L.idxOf x:Int) else 0
theorem plI_len(n:Nat)(L:List Nat)(i:Nat):(plI n L i).length=n:=by simp[plI]
theorem plI_zero(n:Nat)(L:List Nat):List.replicate n (0:Int)=plI n L 0:=by
 refine List.ext_getElem (by simp[plI]) fun x h1 h2=> ?_;simp[plI]
theorem plI_next{n:Nat}{L:List Nat}(hn:L.Nodup){i:Nat}(hi:i<L.length):(plI n L i).set L[i] (i:Int)=plI n L (i+1):=by
 refine List.ext_getElem (by simp[plI]) fun x h1 h2=> ?_;rw[List.getElem_set]
 simp only[plI,List.getElem_map,List.getElem_range];have hix:=hn.idxOf_getElem i hi;by_cases e:L[i]=x
 ·rw[if_pos e,←e,hix,if_pos qG]
 ·rw[if_neg e]
  have h3:L.idxOf x≠i:=fun h=>e (by
   have h4:L.idxOf x<L.length:=by omega
   have h5:=List.getElem_idxOf h4;simp only[h] at h5;exact h5)
  by_cases h4:L.idxOf x<i
  ·rw[if_pos h4,if_pos qG]
  ·rw[if_neg h4,if_neg qG]
theorem plI_at{n:Nat}{L:List Nat}(hp:L.Perm (List.range n)){x:Nat}(hx:x<n)(h:x<(plI n L L.length).length):(plI n L L.length)[x]=(L.idxOf x:Int):=by
 simp only[plI,List.getElem_map,List.getElem_range];rw[if_pos (List.idxOf_lt_length_iff.2 (hp.mem_iff.2 (List.mem_range.2 hx)))]
theorem ragainst_ca(w:World)(lo hi lo2 hi2:Nat)(l:Lb)(v u:Value)(L:List Nat)(h:RdR w lo hi v l.runs)(hl:l.Ok)(hp:L.Perm (List.range l.n))(hu:RdI w lo2 hi2 u (chI L)) :
  Ca Tryz.prog 94 [.agg (lbC l v).toArray,u] w fun x w'=>x= .int .i64 (agN l L:Nat)∧Chg [] w w':=by
 obtain⟨n,en,hn',h8,h1⟩:=hl.nat;have hLl:L.length=n:=by rw[hp.length_eq,List.length_range,hn']
 have hnd:L.Nodup:=hp.nodup_iff.2 List.nodup_range;have hlen:=hl.len;obtain⟨ua,uc,rfl,hua⟩:=RdI.outI hu;rw[bT] at hua hu ⊢;obtain⟨va,vc,rfl,_⟩:=RdR.outI h;rw[hn'] at hp;refine cM (Sat.nil w M0) Tryz.func94 J (by simp[Tryz.ntmps94]) ?_;(refine aD (aB ?_));refine bN J J (fun b2=> ?_);rw[bG];(refine aA1 vq (aE (aD (aB (aA1 vq ?_))));refine aL qE J J J ?_);rw[en];refine nB slI J J J qG (fun b5=> ?_);rw[plI_zero n L];(refine aA1 vq (aE (aD (aD (aB (aA1 vq (aE (aK ?_))))))));refine bD (σ:=Nat) (fun i=>i≤n) (fun i=>n-i) (fun i=>[(1,.slice ua L.length uc),(2,aB8 b2),(5,aB7 b5 n n),(6,.int .i64 i)]) (fun i=>[.pt b5 (bF (plI n L i)) 3,.pt b2 (lbC l (.slice va l.runs.length vc)) 53]) 0 qG ⟨J,J,J,J,trivial⟩ qF ?_;rintro i hi' K hK;(refine aD (aD (aB ?_));(iterate 4 refine aA1 vq ?_);refine aE ?_);refine cP J (fun hc=> ?_) (fun hc=> ?_)
 ·have hi2:i<L.length:=by omega
  clear hc;obtain⟨gu,ou,rfl⟩:=hua qG;have hi3:i<(chI L).length:=by rw[bT];exact hi2
  have hLi:L[i]<n:=List.mem_range.1 (hp.mem_iff.1 (List.getElem_mem hi2));have hnx:=plI_next (n:=n) hnd hi2;obtain⟨x,hx⟩:∃x,x=L[i]:=⟨_,rfl⟩;rw[←hx] at hLi hnx;have hxl:x<(plI n L i).length:=by rw[plI_len];exact hLi
  (refine aJ (aD (aK (aB ?_)));(iterate 3 refine aA1 vq ?_))
  refine aA5 uq qG qG ?_
  refine bC (v:= .int .i64 x) qE J J J (fun w hs=>by
   have:=RdI.at (RdE.keep hu hs.chg0) i hi3;rw[show(chI L)[i]=((L[i]:Nat):Int) from by simp[chI],←hx] at this;exact this) ?_
  (refine aA1 vq ?_)
  refine aA5 uq qG qG ?_;refine eZ qE (x) J J J qF (by first|rfl|omega|simp) hxl ?_;rw[hnx];(refine aE (aW (aB (aA1 vq (aA4 xq qG qG (aA1 vq (aE ?_)))))));exact hK (i+1) _ _ qG qG ⟨J,J,J,J,trivial⟩ qF
 ·obtain rfl:i=n:=by omega
  clear hc hK hi';(refine aZ _ J (aD (aB (aA1 vq (aE (aD (aD (aB (aA1 vq (aE (aK ?_)))))))))));refine bD (σ:=Nat) (fun k=>k≤l.runs.length) (fun k=>l.runs.length-k) (fun k=>[(2,aB8 b2),(5,aB7 b5 i i),(7,.int .i64 (agK l L k:Nat)),(8,.int .i64 k)]) (fun _=>[.pt b5 (bF (plI i L i)) 3,.pt b2 (lbC l (.slice va l.runs.length vc)) 53]) 0 qG ⟨J,J,J,J,trivial⟩ qF ?_;rintro k hk K hK;(refine aD (aD (aB (aA1 vq (aA1 vq ?_))));refine aL qE J J J ?_;refine aA1 vq (aA1 vq (aE ?_)));refine cP J (fun hc=> ?_) (fun hc=> ?_)
  ·have hk2:k<l.runs.length:=by omega
   clear hc;have hro:=hl.run l.runs[k] (List.getElem_mem hk2);have hst:=agK_succ l L k;have hkl:=agK_le l L k;have hrg:l.runs.getD k ⟨0,0,0⟩=l.runs[k]:=by rw[List.getD_eq_getElem?_getD,List.getElem?_eq_getElem hk2,Option.getD_some]
   (refine aJ (aD (aK (aD (aB ?_))));refine aM qE J J J ?_;refine aA1 vq ?_)
   obtain⟨sh,hsh0⟩:∃sh,sh=shR l.err l.runs[k]:=⟨_,rfl⟩;refine aI (val:= .tuple #[.int .i64 sh.1,.int .i64 sh.2]) qE J J J J (fun w hs=> ?_) ?_;exact by rw[hsh0];exact kC w lo hi l (.slice va l.runs.length vc) (RdE.keep h hs.chg0) ⟨hl.e0,hl.e1⟩ k hk2 hro.l0
   unfold agW at hst;rw[hrg] at hst;cases hri:lH l.err l.runs[k] with
   | none=>
    have e:sh=(-1,-1):=by rw[hsh0];unfold shR;rw[hri];rfl
    rw[hri] at hst;subst e;clear hsh0;(refine aA1 vq (aA7 yq (aA7 yq (aA1 vq (aA1 vq (aE (aD ?_)))))));refine bY _ [] (Sp.refl _) qI qI ?_;(refine aB2 yq (oB qE J J J qG (aB2 yq ?_));(iterate 9 refine eF J J J ?_);refine aB2 yq (aT (aF J (aJ (aW (aB (aA1 vq (aA4 xq qG qG (aA1 vq (aE ?_))))))))));exact hK (k+1) _ _ qG qG ⟨J,J,(by first|(rw[hst];rfl)|(simp only[hst];rfl)),J,trivial⟩ qF
   | some p=>
    obtain⟨p1,p2⟩:=p;obtain⟨f,s,hf,hs',hsh⟩:=runI_sh hl hk2 (p:=p1) (q:=p2) hri;subst hf hs';have hpr:=hl.in _ (kK hsh);have e:sh=((f:Int),(s:Int)):=by rw[hsh0];unfold shR;rw[hri];rfl
    clear hsh0;subst e;rw[hri] at hst;simp only[Int.toNat_natCast] at hst;have hf2:f<i:=by have:=hpr.1;omega
    have hs2:s<i:=by have:=hpr.2.1;omega
    have hfl:f<(plI i L i).length:=by rw[plI_len];exact hf2
    have hsl:s<(plI i L i).length:=by rw[plI_len];exact hs2
    have hpf:(plI i L i)[f]=(L.idxOf f:Int):=by have:=plI_at hp hf2 (by rw[plI_len];exact hf2);simp only[hLl] at this;exact this
    have hps:(plI i L i)[s]=(L.idxOf s:Int):=by have:=plI_at hp hs2 (by rw[plI_len];exact hs2);simp only[hLl] at this;exact this
    (refine aA1 vq (aA7 yq (aA7 yq (aA1 vq (aA1 vq (aE (aD ?_)))))))
    refine bY _ [] (Sp.refl _) qI qI ?_;(refine aB2 yq (qf_geqT qE J J J qG (aB2 yq (aN J (aB2 yq (aN J (aB2 yq (aN J ?_))))))));refine aB5 uq qG qG ?_;(refine aN J ?_);refine gM qE (f) J J J qF (by first|rfl|omega|simp) hfl ?_;rw[hpf];(refine aN J (aB2 yq (aN J (aB2 yq (aN J ?_)))));refine aB5 uq qG qG ?_;(refine aN J ?_);refine gM qE (s) J J J qF (by first|rfl|omega|simp) hsl ?_;rw[hps];by_cases hlt:L.idxOf s<L.idxOf f
    ·simp only[hlt,decide_true,if_true] at hst;(refine aN J (jF qE J J J qG (aB2 yq (aT (aH J (aB (aA1 vq (aA4 xq qG qG (aA1 vq (aE (aW (aB ?_)))))))))));refine aA1 vq (aA4 xq qG qG (aA1 vq (aE ?_))));exact hK (k+1) _ _ qG qG ⟨J,J,(by first|(rw[hst];rfl)|(simp only[hst];rfl)),J,trivial⟩ qF
    ·simp only[hlt,decide_false,Bool.false_eq_true,if_false,Nat.add_zero] at hst;(refine aN J (jH qE J J J qG (aB2 yq (aT (aF J (aJ (aW (aB (aA1 vq (aA4 xq qG qG (aA1 vq (aE ?_))))))))))));exact hK (k+1) _ _ qG qG ⟨J,J,(by first|(rw[hst];rfl)|(simp only[hst];rfl)),J,trivial⟩ qF
  ·obtain rfl:k=l.runs.length:=by omega
   (refine aZ _ J (aD (aB (aA1 vq (aA1 vq (aE (aQ ?_)))))))
   refine aA2 wq qF fun w hs=> ?_;exact⟨J,hs.chg0⟩
theorem agW_iff{l:Lb}(hl:l.Ok){L:List Nat}{i:Nat}(hi:i<l.runs.length):agW l L i=true↔∃f s,Sh l i f s∧L.idxOf s<L.idxOf f:=by
 have hrg:l.runs.getD i ⟨0,0,0⟩=l.runs[i]:=by rw[List.getD_eq_getElem?_getD,List.getElem?_eq_getElem hi,Option.getD_some]
 unfold agW;rw[hrg];cases hri:lH l.err l.runs[i] with
 | none=>simp only[Bool.false_eq_true,false_iff];rintro⟨f,s,h,_⟩;exact runI_no hi hri h
 | some p=>
  obtain⟨p1,p2⟩:=p;obtain⟨f,s,hf,hs',hsh⟩:=runI_sh hl hi (p:=p1) (q:=p2) hri;subst hf hs';simp only[Int.toNat_natCast,decide_eq_true_iff];constructor
  ·intro h;exact⟨f,s,hsh,h⟩
  ·rintro⟨f',s',h,g⟩;obtain⟨rfl,rfl⟩:=sh_fun hsh h;exact g
def agD(l:Lb)(L:List Nat):List Nat:=(List.range l.runs.length).filter (agW l L)
theorem agD_mem{l:Lb}(hl:l.Ok){L:List Nat}{i:Nat}:i∈agD l L↔∃f s,Sh l i f s∧L.idxOf s<L.idxOf f:=by
 unfold agD;rw[List.mem_filter,List.mem_range];constructor
 ·rintro⟨h1,h2⟩;exact(agW_iff hl h1).1 h2
 ·rintro⟨f,s,h,g⟩;exact⟨h.1,(agW_iff hl h.1).2 ⟨f,s,h,g⟩⟩
theorem agD_nodup(l:Lb)(L:List Nat):(agD l L).Nodup:=List.nodup_range.sublist List.filter_sublist
theorem ag_zero{l:Lb}(hl:l.Ok){L:List Nat}(hp:L.Perm (List.range l.n)):agN l L=0↔preB l.ord l.n [] L=true:=by
 have h8:=hl.n8;rw[pre_lin h8 hl.inO hp];constructor
 ·intro h;have h0:agD l L=[]:=List.length_eq_zero_iff.1 h;refine⟨hp,iM (R:=fun a b=>a<l.n∧b<l.n∧L.idxOf a<L.idxOf b) hl.in8 (fun a b c _ _ _ h1 h2=>⟨h1.1,h2.2.1,by omega⟩) fun p hpp=> ?_⟩;obtain⟨h1,h2,h3⟩:=hl.in _ hpp;refine⟨h1,h2,?_⟩;obtain⟨i,hi⟩:=pair_sh hpp;rcases Nat.lt_trichotomy (L.idxOf p.1) (L.idxOf p.2) with g|g|g
  ·exact g
  ·exfalso;have m1:=List.idxOf_lt_length_iff.2 (hp.mem_iff.2 (List.mem_range.2 h1));have m2:=List.idxOf_lt_length_iff.2 (hp.mem_iff.2 (List.mem_range.2 h2));have e1:=List.getElem_idxOf m1;have e2:=List.getElem_idxOf m2;simp only[g] at e1;exact h3 (e1.symm.trans e2)
  ·exfalso;have:=(agD_mem hl).2 ⟨_,_,hi,g⟩;rw[h0] at this;cases this
 ·intro h;refine List.length_eq_zero_iff.2 (List.eq_nil_iff_forall_not_mem.2 fun i hi=> ?_);obtain⟨f,s,h1,h2⟩:=(agD_mem hl).1 hi;have h3:=hl.in8 _ (kK h1);have:=(h.idx f s h3.1 h3.2 (iA hl.in8 (kK h1))).2.2;omega
def dropF(l:Lb)(X:List (List Nat)):Nat:=X.foldl (fun b p=>min b (agN l p)) l.runs.length
theorem dropF_snoc(l:Lb)(X:List (List Nat))(p:List Nat):dropF l (X++[p])=min (dropF l X) (agN l p):=by simp[dropF]
theorem foldmin_le(f:List Nat→Nat):∀(X:List (List Nat)) (a:Nat),X.foldl (fun b p=>min b (f p)) a≤a∧∀p∈X,X.foldl (fun b p=>min b (f p)) a≤f p
 | [],a=>⟨Nat.le_refl _,fun p h=>by cases h⟩
 | q::X,a=>by
  rw[List.foldl_cons];have ih:=foldmin_le f X (min a (f q));refine⟨by omega,fun p hp=> ?_⟩;rcases List.mem_cons.1 hp with rfl|hp
  ·omega
  ·exact ih.2 p hp
theorem foldmin_ge(f:List Nat→Nat)(c:Nat):∀(X:List (List Nat)) (a:Nat),c≤a→(∀p∈X,c≤f p)→c≤X.foldl (fun b p=>min b (f p)) a
 | [],a,h,_=>h
 | q::X,a,h,g=>by
  rw[List.foldl_cons];have h1:=g q List.mem_cons_self;exact foldmin_ge f c X _ qG fun p hp=>g p (List.mem_cons_of_mem _ hp)
theorem drop_fold{l:Lb}(hl:l.Ok){d:List Nat}(h:DropP l d):dropF l (fC l.n l.n)=d.length:=by
 refine Nat.le_antisymm ?_ ?_
 ·obtain⟨L,hL,hi⟩:=h.at_;refine Nat.le_trans ((foldmin_le (agN l) _ _).2 L (gV.2 hL)) ?_
  exact iJ (agD_nodup l L) fun i hm=>by
   obtain⟨f,s,h1,h2⟩:=(agD_mem hl).1 hm;exact(hi i).2 ⟨f,s,h1,h2⟩
 ·refine foldmin_ge (agN l) _ _ _ ?_ fun L hL=> ?_
  ·have:=iJ (D:=List.range l.runs.length) (h.asc.imp (fun h=>by omega)) (fun x hx=>List.mem_range.2 (h.lt x hx))
   rwa [List.length_range] at this
  ·exact h.min (agD l L) (noC_drop hl (gV.1 hL) fun i s t h1 h2=>(agD_mem hl).2 ⟨s,t,h1,h2⟩)
theorem selrd{w:World}{v:Value}{Y xs:List (Value×List Int)}{n t t2:Nat}(hu:(un (cF t Y)).p w)(hsub:∀p∈xs,p∈Y)(h1:w.ownsRow 0 t2 1 v n (xs.map (·.1))):RdII w 0 w.heap.size v (xs.map (·.2)):=by
 have hn:n=(xs.map (·.1)).length:=by have:=h1.1;omega
 have hp:∀p∈xs,w.ownsRow 0 t 1 p.1 p.2.length (bF p.2):=fun p hp=>hu.1 (.ow p.1 t 1 p.2.length (bF p.2)) (List.mem_map.2 ⟨p,hsub p hp,rfl⟩)
 refine⟨xs.map (·.1),RdE.one (by rw[←hn];exact pZ h1) (fun e he=>by obtain⟨p,hm,rfl⟩:=List.mem_map.1 he;exact own_one' (hp p hm)),by simp,fun i hi hi'=> ?_⟩;have hi2:i<xs.length:=by simpa using hi
 simp only[List.getElem_map];exact eX (hp _ (List.getElem_mem hi2)) J
theorem pS{n:Nat}(hn:n≤6):(fC n n).length≤46656:=perm_bd hn hn
theorem jR(w:World)(lo hi:Nat)(l:Lb)(v:Value)(h:RdR w lo hi v l.runs)(hl:l.Ok)(h6:l.n≤6) :
  Ca Tryz.prog 38 [.agg (lbC l v).toArray] w fun x w'=>∃y:Value×List (Value×List Int)×List (Value×List Int),(x=y.1∧(∀p∈y.2.2,p∈y.2.1)∧y.2.2.map (·.2)=(FL l.ord l.n l.n).map chI)∧Sat w M0 [un (cF 3 y.2.1),.ow y.1 22 1 y.2.2.length (y.2.2.map (·.1))] w':=by
 obtain⟨n,en,hn',h8,h1⟩:=hl.nat;have hFL:=FL_eq l.ord n n;have hPb:=pS (n:=n) qG;have hag:=fun L (hp:L∈fC n n)=>ag_zero hl (L:=L) (by rw[hn'];exact gV.1 hp)
 have hagp:=fun L (hp:L∈fC n n)=>gV.1 hp
 rw[hn'] at hag ⊢;obtain⟨va,vc,rfl,_⟩:=RdR.outI h;refine cM (Sat.nil w M0) Tryz.func38 J (by simp[Tryz.ntmps38]) ?_;(refine aD (aB ?_));refine bN J J (fun b1=> ?_);rw[bG];(refine aA1 vq (aE (aD (aB (aA1 vq ?_))));refine aL qE J J J ?_);rw[en];refine bB (β:=Value×List (Value×List Int)) qE [] _ M0 J J J J (Sp.refl _) qJ (fun w' hs=>perms_ca n qG w') ?_;rintro⟨_,Y⟩ v3 ⟨rfl,hY⟩;dsimp only[List.cons_append,List.nil_append] at hY ⊢;have hYl:Y.length=(fC n n).length:=by have:=congrArg List.length hY;simpa using this
 obtain⟨PL,hPL⟩:∃PL,PL=fC n n:=⟨_,rfl⟩;rw[←hPL] at hFL hPb hag hagp hY hYl;refine bW (fun w hs=>hs.slice2 (v:=v3) qF) ?_;rintro⟨a3,c3,rfl⟩;(refine aA1 vq (aE (aD (aB (aA1 vq (aE (aD (aD (aB (aA1 vq (aE (aK ?_))))))))))));refine cQ (H':=[.ow (.slice none 0 0) 22 1 0 [],un (cF 3 Y),.ow (.slice a3 Y.length c3) 22 1 Y.length (Y.map (·.1)),.pt b1 (lbC l (.slice va l.runs.length vc)) 53]) (fun w' hs=>(Sat.ownil hs 22 1).sp qF) ?_;refine bD (σ:=Nat×Value×List (Value×List Int)) (fun z=>z.1≤Y.length∧z.2.2.length≤z.1∧(∀p∈z.2.2,p∈Y)∧z.2.2.map (·.2)=((PL.take z.1).filter (preB l.ord n [])).map chI) (fun z=>Y.length-z.1) (fun z=>[(1,aB8 b1),(3,.slice a3 Y.length c3),(4,z.2.1),(5,.int .i64 z.1)]) (fun z=>[.ow z.2.1 22 1 z.2.2.length (z.2.2.map (·.1)),un (cF 3 Y),.ow (.slice a3 Y.length c3) 22 1 Y.length (Y.map (·.1)),.pt b1 (lbC l (.slice va l.runs.length vc)) 53]) (0,.slice none 0 0,[]) ⟨by simp,by simp,by simp,by simp⟩ ⟨J,J,J,J,trivial⟩ qF ?_;rintro⟨i,v4,sel⟩ ⟨hi',hsl,hsub,hsel⟩ K hK;dsimp only at hi' hsl hsub hsel hK ⊢;(refine aD (aD (aB ?_));(iterate 4 refine aA1 vq ?_);refine aE ?_);refine cP J (fun hc=> ?_) (fun hc=> ?_)
 ·have hi2:i<Y.length:=by omega
  clear hc;have hip:i<PL.length:=by omega
  obtain⟨p,hp⟩:∃p,p=PL[i]:=⟨_,rfl⟩;have hpm:p∈PL:=by rw[hp];exact List.getElem_mem hip
  have hYk:Y[i].2=chI p:=by
   have h1:(Y.map (·.2))[i]? =(PL.map chI)[i]? :=by rw[hY]
   rw[List.getElem?_map,List.getElem?_map,List.getElem?_eq_getElem hi2,List.getElem?_eq_getElem hip,Option.map_some,Option.map_some] at h1;rw[hp];exact Option.some.inj h1
  have hpl:Y[i].2.length=p.length:=by rw[hYk,bT]
  have htk:(PL.take (i+1)).filter (preB l.ord n [])=(PL.take i).filter (preB l.ord n [])++(if preB l.ord n [] p=true then[p] else[]):=by
   rw[List.take_succ_eq_append_getElem hip,List.filter_append,←hp];cases hc:preB l.ord n [] p<;>simp[hc]
  have hag2:=hag p hpm;refine dO (fun w hs=>rowN hs (t:=3) (X:=Y) qF hi2) ?_;rintro⟨ka,kc,ek,hka⟩;rw[hpl] at ek hka;refine dO (fun w hs=>hs.ownSome (v:= .slice a3 Y.length c3) qF qG) ?_;rintro⟨g3,q3,ev⟩;cases ev
  (refine aJ (aD (aK (aD ?_))))
  refine bY _ [] (Sp.refl _) qI qI ?_;(refine bK qE J J J ?_;refine aB2 yq (aB2 yq ?_));refine aB5 uq qG qG ?_;refine bA (v:= .slice ka p.length kc) qE J J J (fun w hs=>iY hs (t:=22) (X:=Y) qF hi2 ek J) ?_;refine cR (val:= .int .i64 (agN l p:Nat)) qE J J J J (fun w hs=> ?_) ?_;exact ragainst_ca w lo hi 0 w.heap.size l (.slice va l.runs.length vc) (.slice ka p.length kc) p (RdE.keep h hs.chg0) hl (by rw[hn'];exact hagp p hpm) (by have:=(lU hs (t:=3) (xs:=Y) qF i hi2).1;rw[ek,hYk] at this;exact this);by_cases h0:agN l p=0
  ·rw[if_pos (hag2.1 h0)] at htk;(refine qf_eqlT qE J J J qG (aT (aH J (aB ?_)));(iterate 3 refine aA1 vq ?_));refine aA5 uq qG qG ?_;refine bC (v:= .slice ka p.length kc) qE J J J (fun w hs=>iY hs (t:=22) (X:=Y) qF hi2 ek J) ?_;refine cI 22 [.slice ka p.length kc] J qI J (fun bm=> ?_);refine bU (q:=1) (news:=[.slice ka p.length kc]) slII J J J (fun v'=>by repeat constructor) (fun w' hs=>⟨_,_,Blk.rdN (hs.blk (b:=bm) qF) J⟩) (by simp[dA]) qG qG (fun u4=> ?_);(refine aA1 vq (aE (aW (aB (aA1 vq (aA4 xq qG qG (aA1 vq (aE ?_))))))));have elen:(sel++[Y[i]]).length=sel.length+1:=by simp
   exact hK (i+1,u4,sel++[Y[i]]) _ _ ⟨by simp only;omega,by simp only[elen];omega,fun q hq=>by
    rcases List.mem_append.1 hq with hq|hq
    ·exact hsub q hq
    ·rw[List.mem_singleton.1 hq];exact List.getElem_mem hi2,by dsimp only;rw[htk,List.map_append,List.map_append,hsel,List.map_singleton,hYk,List.map_singleton]⟩ (by simp only;omega) ⟨rfl,rfl,rfl,rfl,trivial⟩ (by dsimp only;rw[elen,List.map_append,List.map_singleton,ek];repeat constructor)
  ·rw[if_neg (fun h=>h0 (hag2.2 h)),List.append_nil] at htk;(refine oI qE J J J qG (aT (aF J (aJ (aW (aB (aA1 vq (aA4 xq qG qG (aA1 vq (aE ?_))))))))));exact hK (i+1,v4,sel) _ _ ⟨by simp only;omega,by simp only;omega,hsub,by dsimp only;rw[htk];exact hsel⟩ (by simp only;omega) ⟨J,J,J,J,trivial⟩ qF
 ·have hiY:i=PL.length:=by omega
  rw[hiY,List.take_length,hFL] at hsel;(refine aZ _ J (aD (aB (aA1 vq (aA1 vq (aE (aQ ?_)))))));refine aA2 wq qF fun w hs=> ?_
  exact⟨(v4,Y,sel),⟨J,hsub,hsel⟩,hs.sp qF⟩
end Go.Proofs.YtoljppohibpenaaGreat
namespace Go.Proofs.YtoljppohibpenaaGreat
open Go Go.Eng
set_option maxRecDepth 4000
open Go Go.Shelf
def lays189_ren:Go.Shelf.Ren:=⟨fun|189=>92|125=>134|257=>133|128=>163|129=>164|294=>154|295=>155|296=>156|297=>157|298=>158|299=>159|216=>160|300=>161|301=>162|328=>170|329=>171|330=>172|331=>173|332=>174|215=>175|343=>179|n=>n,fun|28=>22|3=>3|46=>180|0=>0|51=>205|53=>207|4=>4|183=>199|182=>198|131=>187|5=>5|9=>9|218=>210|222=>27|228=>218|229=>136|n=>n,fun|n=>n⟩
theorem lays189:Go.Proofs.Lays.n189 Tryz.prog lays189_ren:={
 mixed:=by kernel_rfl
 f125:=Tryz.func134.trans (congrArg some qI)
 f128:=Tryz.func163.trans (congrArg some qI)
 f129:=Tryz.func164.trans (congrArg some qI)
 f189:=Tryz.func92.trans (congrArg some qI)
 f215:=Tryz.func175.trans (congrArg some qI)
 f216:=Tryz.func160.trans (congrArg some qI)
 f257:=Tryz.func133.trans (congrArg some qI)
 f294:=Tryz.func154.trans (congrArg some qI)
 f295:=Tryz.func155.trans (congrArg some qI)
 f296:=Tryz.func156.trans (congrArg some qI)
 f297:=Tryz.func157.trans (congrArg some qI)
 f298:=Tryz.func158.trans (congrArg some qI)
 f299:=Tryz.func159.trans (congrArg some qI)
 f300:=Tryz.func161.trans (congrArg some qI)
 f301:=Tryz.func162.trans (congrArg some qI)
 f328:=Tryz.func170.trans (congrArg some qI)
 f329:=Tryz.func171.trans (congrArg some qI)
 f330:=Tryz.func172.trans (congrArg some qI)
 f331:=Tryz.func173.trans (congrArg some qI)
 f332:=Tryz.func174.trans (congrArg some qI)
 f343:=Tryz.func179.trans (congrArg some qI)
 t0:=Tryz.underlying0
 a0:=Tryz.isAgg0
 z0:=Tryz.sizeOf0
 v0:=Tryz.zeroValue0
 t3:=Tryz.underlying3
 a3:=Tryz.isAgg3
 z3:=Tryz.sizeOf3
 v3:=Tryz.zeroValue3
 t4:=Tryz.underlying4
 a4:=Tryz.isAgg4
 z4:=Tryz.sizeOf4
 v4:=Tryz.zeroValue4
 t5:=Tryz.underlying5
 a5:=Tryz.isAgg5
 z5:=Tryz.sizeOf5
 v5:=Tryz.zeroValue5
 t9:=Tryz.underlying9
 a9:=Tryz.isAgg9
 z9:=Tryz.sizeOf9
 v9:=Tryz.zeroValue9
 t28:=Tryz.underlying22
 a28:=Tryz.isAgg22
 z28:=Tryz.sizeOf22
 v28:=Tryz.zeroValue22
 t46:=Tryz.underlying180
 a46:=Tryz.isAgg180
 z46:=Tryz.sizeOf180
 v46:=Tryz.zeroValue180
 t51:=Tryz.underlying205
 a51:=Tryz.isAgg205
 z51:=Tryz.sizeOf205
 v51:=Tryz.zeroValue205
 t53:=Tryz.underlying207
 a53:=Tryz.isAgg207
 z53:=Tryz.sizeOf207
 v53:=Tryz.zeroValue207
 t131:=Tryz.underlying187
 a131:=Tryz.isAgg187
 z131:=Tryz.sizeOf187
 v131:=Tryz.zeroValue187
 t182:=Tryz.underlying198
 a182:=Tryz.isAgg198
 z182:=Tryz.sizeOf198
 v182:=Tryz.zeroValue198
 t183:=Tryz.underlying199
 a183:=Tryz.isAgg199
 z183:=Tryz.sizeOf199
 v183:=Tryz.zeroValue199
 t218:=Tryz.underlying210
 a218:=Tryz.isAgg210
 z218:=Tryz.sizeOf210
 v218:=Tryz.zeroValue210
 t222:=Tryz.underlying27
 a222:=Tryz.isAgg27
 z222:=Tryz.sizeOf27
 v222:=Tryz.zeroValue27
 t228:=Tryz.underlying218
 a228:=Tryz.isAgg218
 z228:=Tryz.sizeOf218
 v228:=Tryz.zeroValue218
 t229:=Tryz.underlying136
 a229:=Tryz.isAgg136
 z229:=Tryz.sizeOf136
 v229:=Tryz.zeroValue136}
end Go.Proofs.YtoljppohibpenaaGreat
