import Derived.Test.YtoljppohibpenaaGreatJ2
set_option linter.unusedVariables false
set_option maxHeartbeats 16000000
namespace Go.Proofs.YtoljppohibpenaaGreat
open Go Go.Eng
set_option maxRecDepth 4000
open Go Go.Eng
abbrev dkC(l:Lb)(v:Value)(o:Nat):List Value:= .int .i64 l.skis:: .int .i64 l.err::v::oC o
theorem dkC_len(l:Lb)(v:Value)(o:Nat):(dkC l v o).length=67:=by simp[dkC,gL]
theorem d_cell{w:World}{b off:Nat}{l:Lb}{v:Value}{o:Nat}{t:TypeId}(hb:Blk w b (dkC l v o) t)(x y:Nat)(hx:x<8)(hy:y<8)(ho:off=3+(8*x+y)):w.cell? ⟨b,off,none⟩=some (.bool (fa o x y)):=by
 subst ho;rw[Blk.cell hb]
 show(Value.int .i64 l.skis:: .int .i64 l.err::v::oC o)[3+(8*x+y)]? =_
 rw[show 3+(8*x+y)=(8*x+y)+1+1+1 from by omega,List.getElem?_cons_succ,List.getElem?_cons_succ,List.getElem?_cons_succ,oC_get _ _ qG]
 rfl
theorem oN(l:Lb)(v:Value)(o:Nat):List.take 64 (List.drop (0+3) (dkC l v o))=oC o:=by
 show List.take 64 (oC o)=oC o
 rw[List.take_of_length_le (by rw[gL];omega)]
theorem dk_set(l:Lb)(v:Value)(o p:Nat):setL (dkC l v o) (0+3) (oC p)=dkC l v p:=by
 have:=setL_all (oC o) (oC p) [.int .i64 l.skis,.int .i64 l.err,v] (by rw[gL,gL]);exact this
def confV(o n:Nat):Int:=match (List.range n).find? (fun s=>fa o s s) with
 | some s=>s
 | none=> -1
theorem conf_some{o n s:Nat}(hs:s<n)(h:fa o s s=true)(hb:∀t,t<s→fa o t t=false):confV o n=s:=by
 have e:(List.range n).find? (fun s=>fa o s s)=some s:=List.find?_range_eq_some.2 ⟨h,List.mem_range.2 hs,fun t ht=>by simp[hb t ht]⟩;unfold confV;rw[e]
theorem conf_none{o n:Nat}(hb:∀t,t<n→fa o t t=false):confV o n= -1:=by
 have e:(List.range n).find? (fun s=>fa o s s)=none:=List.find?_eq_none.2 (fun t ht=>by simp[hb t (List.mem_range.1 ht)]);unfold confV;rw[e]
theorem conf_iff{o n:Nat}:0≤confV o n↔iO o n=true:=by
 cases h:(List.range n).find? (fun s=>fa o s s) with
 | none=>
  have h1:=List.find?_eq_none.1 h;have h2:iO o n=false:=fK.2 fun s hs=>by simpa using h1 s (List.mem_range.2 hs)
  rw[h2];unfold confV;rw[h];simp
 | some s=>
  obtain⟨h1,h2,_⟩:=List.find?_range_eq_some.1 h
  have h3:iO o n=true:=by
   cases hc:iO o n with
   | true=>rfl
   | false=>rw[fK.1 hc s (List.mem_range.1 h2)] at h1;cases h1
  rw[h3];unfold confV;rw[h];simp
theorem nZ(w:World)(b:Nat)(t:TypeId)(l:Lb)(v:Value)(o:Nat)(hb:Blk w b (dkC l v o) t)(hl:l.Ok):Ca Tryz.prog 90 [aB8 b] w fun x w'=>x= .int .i64 (confV o l.n)∧Chg [] w w':=by
 have h8:=hl.n8;obtain⟨n,hn⟩:=Int.eq_ofNat_of_zero_le (show 0≤l.skis by have:=hl.s0;omega);have hn':l.n=n:=by unfold Lb.n;omega
 rw[hn'] at h8 ⊢;refine cM (Sat.nil w M0) Tryz.func90 J (by simp[Tryz.ntmps90]) ?_;(refine aD (aB (aA1 vq (aE (aD (aD (aB ?_))))));(iterate 4 refine aA1 vq ?_);refine fB qE J J J (by assumption) (by rfl) ?_;refine aA1 vq (aE (aK ?_)));rw[hn];refine bD (σ:=Nat) (fun s=>s≤n∧∀t,t<s→fa o t t=false) (fun s=>n-s) (fun s=>[(0,aB8 b),(8,.int .i64 n),(9,.int .i64 s)]) (fun _=>[]) 0 ⟨by omega,fun t ht=>by omega⟩ ⟨J,J,J,trivial⟩ qF ?_;rintro s ⟨hs1,hb1⟩ K hK;(refine aD (aB (aA1 vq (aE (aD ?_)))));refine cP J (fun hc=> ?_) (fun hc=> ?_)
 ·have hs2:s<n:=by omega
  clear hc;(refine aJ (aD (aK (aD (aB (aA1 vq (aA1 vq (aE (aD (aB ?_)))))))));(iterate 5 refine aA1 vq ?_));refine bL (len:=8) lF J J J qG qG ?_;refine bL (len:=8) lE J J J qG qG ?_;refine bC (v:= .bool (fa o s s)) qE J J J (fun w hs=>d_cell (hb.keep hs.chg0) s s qG qG qG) ?_;cases hx:fa o s s with
  | true=>
   (refine aE (aH J (aD (aB (aA1 vq (aA1 vq (aE (aQ ?_))))))))
   refine aA2 wq qF fun w hs=> ?_;exact⟨by rw[conf_some hs2 hx hb1];rfl,hs.chg0⟩
  | false=>
   (refine aE (aF J (aJ (aW (aB (aA4 xq qG qG (aA1 vq (aE ?_))))))))
   exact hK (s+1) _ _ ⟨by omega,fun t ht=>by
    by_cases e:t=s
    ·rw[e];exact hx
    ·exact hb1 t qG⟩ qG ⟨J,J,J,trivial⟩ qF
 ·have hsn:s=n:=by omega
  subst hsn;(refine aZ _ J (aD (aB (aA1 vq (aE (aQ ?_))))));refine aA2 wq qF fun w hs=> ?_
  exact⟨by rw[conf_none hb1];rfl,hs.chg0⟩
theorem asked_no(w:World)(lo hi:Nat)(l:Lb)(v:Value)(h:RdR w lo hi v l.runs)(hlen:l.runs.length≤maxLen)(hc0:cG l≠0):Ca Tryz.prog 89 [.agg (lbC l v).toArray] w fun x w'=>x= .tuple #[.pointer none,.int .i64 (cG l)]∧Chg [] w w':=by
 refine q_ofM (Sat.nil w M0) Tryz.func89 J (by simp[Tryz.ntmps89]) ?_;(refine aD (aB ?_));refine bN J J (fun b1=> ?_);(refine aA1 vq (aA1 vq (aE (aD (aD (aB ?_)))));refine aM qE J J J ?_);refine aI (val:= .int .i64 (cG l)) qE J J J J (fun w hs=> ?_) ?_;exact check_ca w lo hi l v (RdE.keep h hs.chg0) hlen;(refine aA1 vq (aE (aD (aB (aA1 vq (aB0 yq qG (aE (aH J (aD (aB ?_)))))))));(iterate 3 refine aA1 vq ?_);refine aE (aQ ?_));refine q_finM qE J qF fun w hs=> ?_;exact⟨J,hs.chg0⟩
def ordS(xs:List (Nat×Int×Int)):Nat:=iV (xs.map fun x=>(x.2.1.toNat,x.2.2.toNat))
theorem ordS_snoc(xs:List (Nat×Int×Int))(x:Nat×Int×Int):ordS (xs++[x])=cU (ordS xs) x.2.1.toNat x.2.2.toNat:=by
 unfold ordS;rw[List.map_append];exact jN _ _
theorem shL_in{l:Lb}(hl:l.Ok):∀x∈shL l,0≤x.2.1∧x.2.1<l.skis∧0≤x.2.2∧x.2.2<l.skis∧x.1<l.runs.length:=fun x hx=>by
 obtain⟨i,hi,h1⟩:=List.mem_filterMap.1 hx;have hi2:=List.mem_range.1 hi;rw[List.getD_eq_getElem?_getD,List.getElem?_eq_getElem hi2] at h1;have hr:=hl.run _ (List.getElem_mem hi2);obtain⟨p,hp,rfl⟩:=Option.map_eq_some_iff.1 h1;have h3:=hr.a0;have h4:=hr.a1;have h5:=hr.b0;have h6:=hr.b1;simp only[Option.getD_some] at hp;unfold lH at hp;split at hp
 ·cases hp;exact⟨h3,h4,h5,h6,hi2⟩
 ·split at hp
  ·cases hp;exact⟨h5,h6,h3,h4,hi2⟩
  ·cases hp
theorem nE(w:World)(lo hi:Nat)(l:Lb)(v:Value)(h:RdR w lo hi v l.runs)(hl:l.Ok):Ca Tryz.prog 89 [.agg (lbC l v).toArray] w fun x w'=>∃b:Nat,x= .tuple #[aB8 b,.int .i64 0]∧Sat w M0 [.pt b (dkC l v l.ord) 134] w':=by
 have hc0:=dG.2 hl;have hlen:l.runs.length≤maxLen:=by have:=hl.len;simp only[maxLen];omega
 refine q_ofM (Sat.nil w M0) Tryz.func89 J (by simp[Tryz.ntmps89]) ?_;(refine aD (aB ?_));refine bN J J (fun b1=> ?_);(refine aA1 vq (aA1 vq (aE (aD (aD (aB ?_)))));refine aM qE J J J ?_);refine aI (val:= .int .i64 0) qE J J J J (fun w hs=> ?_) ?_;exact by have:=check_ca w lo hi l v (RdE.keep h hs.chg0) hlen;rw[hc0] at this;exact this
 (refine aA1 vq (aE (aD (aB (aA1 vq (aB1 yq qG (aE (aF J (aJ (aD (aB ?_))))))))));refine aM qE J J J ?_)
 refine dM (dkC l v 0).toArray J qI J ?_;refine bN J J (fun b15=> ?_);rw[bG,bG];refine bJ zero119 J (fun b5=> ?_);(refine gE qE J J J J qF ?_;refine aE (aD (aD (aB ?_)));refine aM qE J J J ?_);refine bB (β:=Nat) qE [] _ M0 J J J J (Sp.refl _) qJ (fun w' hs=>shown_ca w' l v) ?_;rintro bs _ rfl;dsimp only[List.cons_append,List.nil_append];(refine aE (aK ?_))
 refine q_range shE Nat (shL l) (fun pre s=>s=ordS pre) (fun _ _=>False) (fun s=>[.pt b15 (dkC l v s) 134,.pt b5 [aB8 b15] 119]) [.pt bs (lbC l v) 25] 0
  rfl qI rfl (fun _ _=>rfl) rfl qF ?_ ?_ ?_ (fun _ _ _ h=>h.elim)
 ·intro w1 D hs hD;exact shown_it w w1 D lo hi bs l v h ⟨hl.e0,hl.e1⟩ (by have:=hl.len;omega) (fun w' hc=>hs.chg0.old hc (fun k hk=>(hD k hk).2.resolve_left (fun h=>h))) (hs.blk qF) (fun h=>(hD _ h).1 ⟨.pt bs (lbC l v) _,qF,J⟩)
 ·intro pre x post s w1 lb rdy bsy K F' hx hI hsat hR hbegin hend hret hexit;have hxl:=shL_in hl x (by rw[hx];simp);have h8:=hl.s1;obtain⟨f,hf⟩:=Int.eq_ofNat_of_zero_le hxl.1;obtain⟨g,hg⟩:=Int.eq_ofNat_of_zero_le hxl.2.2.1;obtain⟨i,p1,p2⟩:=x;dsimp only at hf hg hxl;subst hf hg;dsimp only[shE,List.zip_cons_cons,List.zip_nil_left,List.zip_nil_right,List.foldl_cons,List.foldl_nil];(refine aB ?_);refine bJ kY J (fun b7=> ?_);(refine aA6 uq qF J ?_;refine aE ?_);refine cQ (H':=[rdy,.pt b7 [.int .i64 f,.int .i64 g] 62,.pt b15 (dkC l v s) 134,.pt b5 [aB8 b15] 119]) (fun w' hs=>hs.sp qF) ?_;refine hbegin _ _ ?_;(refine aK ?_);refine q_drawS 12 [bsy,.pt b7 [.int .i64 f,.int .i64 g] 62,.pt b5 [aB8 b15] 119] [.pt b15 (dkC l v s) 134] qF qI qI qI fun K1 hK1=> ?_
  ((iterate 2 refine aX qE J J J ?_);refine aB2 yq (aB2 yq ?_);refine bK qE J J J ?_;refine aB2 yq ?_;refine aX qE J J J ?_;refine aB2 yq ?_;refine aX qE J J J ?_)
  rw[oN];refine cR qE J J J J (fun w hs=>with_ca w s f g qG qG) ?_;(refine aB2 yq (aB2 yq (aT ?_)));refine hK1 _ _ [.pt b15 (dkC l v s) 134] qF ?_;refine qf_stA (dkC l v (cU s f g)) qE J J J (gL _) (List.all_eq_true.2 (oC_one _)) qF (dk_set _ _ _ _) (by rw[dkC_len];rfl) ?_;(refine aT (aW ?_));refine hend _ _ (cU s f g) (by rw[hI,ordS_snoc];rfl) qF
 ·rintro D s rfl;(refine aW (aD (aB ?_));refine aL qE J J J ?_;refine aA1 vq (aA1 vq (aE (aQ ?_))));refine q_finMD qE qF J qF fun w hs=> ?_
  refine⟨b15,J,?_⟩;have e:l.ord=ordS (shL l):=by unfold Lb.ord ordS;rw[mW]
  rw[e];exact hs.sp qF
theorem kA(w:World)(lo hi:Nat)(l:Lb)(v:Value)(h:RdR w lo hi v l.runs)(hlen:l.runs.length≤maxLen)(hc0:bQ l≠0):Ca Tryz.prog 83 [.agg (lbC l v).toArray] w fun x w'=>∃p:Option Addr,x= .tuple #[.pointer p,.int .i64 (bQ l)]∧Sat w M0 [] w':=by
 refine cM (Sat.nil w M0) Tryz.func83 J (by simp[Tryz.ntmps83]) ?_;(refine aD (aB ?_));refine bN J J (fun b1=> ?_);rw[bG];(refine aA1 vq (aA1 vq (aE (aD (aB ?_))));refine aM qE J J J ?_);by_cases hck:cG l=0
 ·have hl:=dG.1 hck
  have hcf:iO l.ord l.n=true:=by
   cases hx:iO l.ord l.n with
   | true=>rfl
   | false=>exact absurd (dE.2 ⟨hl,fK.1 hx⟩) hc0
  have e7:bQ l=7:=by unfold bQ;rw[if_neg (by simpa using hck),if_pos hcf]
  have hcv:=conf_iff.2 hcf;refine bB (β:=Nat) qE [] _ M0 J J J J (Sp.refl _) qJ (fun w' hs=>nE w' lo hi l v (RdE.keep h hs.chg0) hl) ?_;rintro b _ rfl;dsimp only[List.cons_append,List.nil_append];(refine aA1 vq (aA7 yq (aA7 yq (aA1 vq (aA1 vq (aE (aD (aD (aB (aA1 vq (aA8 yq qG (aA1 vq ?_)))))))))));refine aC J (aA1 vq (aC J ?_)));refine aI (val:= .int .i64 (confV l.ord l.n)) qE J J J J (fun w hs=> ?_) ?_;exact nZ w b _ l v l.ord (hs.blk qF) hl;(refine aC J (kW qE J J J qG (aA1 vq (aE (aH J (aB (aA1 vq (aE (aD (aB ?_)))))))));(iterate 4 refine aA1 vq ?_);refine aE (aQ ?_));refine aA2 wq qF fun w hs=> ?_
  exact⟨some ⟨b,0,none⟩,by rw[e7];rfl,hs.sp qF⟩
 ·have e:bQ l=cG l:=by unfold bQ;rw[if_pos hck]
  refine aI (val:= .tuple #[.pointer none,.int .i64 (cG l)]) qE J J J J (fun w hs=> ?_) ?_;exact asked_no w lo hi l v (RdE.keep h hs.chg0) hlen hck;(refine aA1 vq (aA7 yq (aA7 yq (aA1 vq (aA1 vq (aE (aD (aD (aB (aA1 vq (aA9 yq qG (aA1 vq ?_)))))))))));(iterate 3 refine aA3 zq ?_);refine aA1 vq (aE (aF J (aJ (aD (aB ?_)))));(iterate 4 refine aA1 vq ?_);refine aE (aQ ?_));refine aA2 wq qF fun w hs=> ?_;exact⟨none,by rw[e];rfl,hs.sp qF⟩
theorem jL(w:World)(lo hi:Nat)(l:Lb)(v:Value)(h:RdR w lo hi v l.runs)(hl:l.Ok)(hn:NoC l.ord l.n):Ca Tryz.prog 83 [.agg (lbC l v).toArray] w fun x w'=>∃b:Nat,x= .tuple #[aB8 b,.int .i64 0]∧Sat w M0 [.pt b (dkC l v l.ord) 134] w':=by
 refine cM (Sat.nil w M0) Tryz.func83 J (by simp[Tryz.ntmps83]) ?_;(refine aD (aB ?_));refine bN J J (fun b1=> ?_);rw[bG];(refine aA1 vq (aA1 vq (aE (aD (aB ?_))));refine aM qE J J J ?_);have hcv:confV l.ord l.n= -1:=conf_none hn;refine bB (β:=Nat) qE [] _ M0 J J J J (Sp.refl _) qJ (fun w' hs=>nE w' lo hi l v (RdE.keep h hs.chg0) hl) ?_;rintro b _ rfl;dsimp only[List.cons_append,List.nil_append];(refine aA1 vq (aA7 yq (aA7 yq (aA1 vq (aA1 vq (aE (aD (aD (aB (aA1 vq (aA8 yq qG (aA1 vq ?_)))))))))));refine aC J (aA1 vq (aC J ?_)));refine aI (val:= .int .i64 (-1)) qE J J J J (fun w hs=> ?_) ?_;exact by have:=nZ w b _ l v l.ord (hs.blk qF) hl;rw[hcv] at this;exact this
 (refine aC J (gJ qE J J J qG (aA1 vq (aE (aF J (aJ (aD (aB ?_)))))));(iterate 4 refine aA1 vq ?_);refine aE (aQ ?_))
 refine aA2 wq qF fun w hs=> ?_;exact⟨b,J,hs.sp qF⟩
end Go.Proofs.YtoljppohibpenaaGreat
namespace Go.Eng
set_option maxRecDepth 4000
open Go Go.RowKit
section
variable {P : Program} {ro : Cx} {n : Nat} {F : Fin} {w0 : World} {M : Nat → Prop} {k : List It} {ops : Array Oper} {rest : List Oper} {e : Env} {H Hq : List Ck}
theorem bit_int(S s:Nat):((S:Int)/2^(s:Int).toNat)%2=((S.testBit s).toNat:Int):=by
 rw[Nat.toNat_testBit,Int.toNat_natCast]
 norm_cast
theorem run_orN{a b:Nat}(ha:a<9223372036854775808)(hb:b<9223372036854775808)(w:World):(Op.intBits .or .i64 (a:Int) (b:Int)).run P w= .ok (.int .i64 ((a ||| b:Nat):Int)) w:=by
 have h1:(BitVec.ofInt IntKind.i64.bits (a:Int) ||| BitVec.ofInt IntKind.i64.bits (b:Int)).toNat=a ||| b:=by
  rw[BitVec.toNat_or]
  have h1:(BitVec.ofInt IntKind.i64.bits (a:Int)).toNat=a:=by
   show(BitVec.ofInt 64 (a:Int)).toNat=a
   simp[BitVec.toNat_ofInt];omega
  have h2:(BitVec.ofInt IntKind.i64.bits (b:Int)).toNat=b:=by
   show(BitVec.ofInt 64 (b:Int)).toNat=b
   simp[BitVec.toNat_ofInt];omega
  rw[h1,h2]
 have h2:a ||| b<2^63:=Nat.or_lt_two_pow (by simpa using ha) (by simpa using hb)
 simp only[Op.intBits];rw[h1,w64 qG qG]
 rfl
theorem ql_orN{d t t':Nat}{x y:Operand}{a b:Nat}{ty:TypeId}{pos:String}{af:Array Edge}(hx:opv e x=some (.int .i64 a))(hy:opv e y=some (.int .i64 b))(hd:Nat.blt d n=true)(ha:a<9223372036854775808)(hb:b<9223372036854775808)
  (h:QL P ro n F w0 M k ops rest ((d,.int .i64 ((a ||| b:Nat):Int))::e) H):QL P ro n F w0 M k ops (⟨some d,.binOp .or t x y t',ty,pos,af,none⟩::rest) e H:= .mk fun w hw=>
 dF (by simp) hd (fun a' hf=>by
  have e1:=hf.op hx;have e2:=hf.op hy;simp only[execOp,e1,e2];have:=run_orN (P:=P) ha hb w;simp[eqGuard,binOp,this]) (h.h w hw)
end
end Go.Eng
namespace Go.Proofs.YtoljppohibpenaaGreat
open Go Go.Eng
set_option maxRecDepth 4000
open Go Go.Eng
theorem free_false{o n s S:Nat}(h:¬(S.testBit s=false∧∀t,t<n→fa o t s=true→S.testBit t=true)):eO o n s S=false:=by
 cases hx:eO o n s S with
 | false=>rfl
 | true=>exact absurd (gR.1 hx) h
theorem Lb.Ok.nat{l:Lb}(hl:l.Ok):∃n:Nat,l.skis=(n:Int)∧l.n=n∧n≤8∧1≤n:=by
 obtain⟨n,hn⟩:=Int.eq_ofNat_of_zero_le (show 0≤l.skis by have:=hl.s0;omega);have:=hl.s0;have:=hl.s1;exact⟨n,hn,by unfold Lb.n;omega,by omega,by omega⟩
theorem free_ca(w:World)(b:Nat)(t:TypeId)(l:Lb)(v:Value)(o s S:Nat)(hb:Blk w b (dkC l v o) t)(hl:l.Ok)(hs8:s<l.n)(hS:S<256):Ca Tryz.prog 96 [aB8 b,.int .i64 s,.int .i64 S] w fun x w'=>x= .bool (eO o l.n s S)∧Chg [] w w':=by
 obtain⟨n,hn,hn',h8,h1⟩:=hl.nat;rw[hn'] at hs8 ⊢;have hbd:∀k:Nat,0≤(S:Int)/2^k∧(S:Int)/2^k<9223372036854775808:=fun k=>⟨Int.ediv_nonneg qG (Int.le_of_lt (Int.pow_pos qG)),Int.lt_of_le_of_lt (Int.ediv_le_self _ qG) qG⟩
 refine cM (Sat.nil w M0) Tryz.func96 J (by simp[Tryz.ntmps96]) ?_;(refine aD (aB (aA1 vq (aE (aD (aD (aB (aA1 vq (aA1 vq ?_)))))))));refine ql_shr J J J qG qG ?_;refine ql_and1 J J J (hbd _) ?_;rw[bit_int];cases hx:S.testBit s with
 | true=>
  rw[show(((true).toNat:Nat):Int)=1 from rfl];(refine aA8 yq qG (aE (aH J (aD (aB (aA1 vq (aE (aQ ?_))))))));refine aA2 wq qF fun w hs=> ?_
  exact⟨by rw[free_false (by rintro⟨h,_⟩;rw[hx] at h;cases h)];rfl,hs.chg0⟩
 | false=>
  rw[show(((false).toNat:Nat):Int)=0 from rfl];(refine aA9 yq qG (aE (aF J (aJ (aD (aD (aB ?_))))));(iterate 4 refine aA1 vq ?_);refine fB qE J J J (by assumption) (by rfl) ?_;refine aA1 vq (aE (aK ?_)));rw[hn];refine bD (σ:=Nat) (fun u=>u≤n∧∀t,t<u→fa o t s=true→S.testBit t=true) (fun u=>n-u) (fun u=>[(0,aB8 b),(1,.int .i64 s),(2,.int .i64 S),(17,.int .i64 n),(18,.int .i64 u)]) (fun _=>[]) 0 ⟨by omega,fun t ht=>by omega⟩ ⟨J,J,J,J,J,trivial⟩ qF ?_;rintro u ⟨hu1,hu2⟩ K hK;(refine aD (aB (aA1 vq (aE (aD ?_)))));refine cP J (fun hc=> ?_) (fun hc=> ?_)
  ·have hu3:u<n:=by omega
   clear hc;(refine aJ (aD (aK (aD (aB (aA1 vq (aA1 vq (aE (aD (aB ?_)))))))));(iterate 5 refine aA1 vq ?_));refine bL (len:=8) lF J J J qG qG ?_;refine bL (len:=8) lE J J J qG qG ?_;refine bC (v:= .bool (fa o u s)) qE J J J (fun w hs=>d_cell (hb.keep hs.chg0) u s qG qG qG) ?_;cases hf:fa o u s with
   | true=>
    (refine aA1 vq (aC J (aA1 vq (aC J (aA1 vq (aC J ?_))))))
    refine ql_shr J J J qG qG ?_;(refine aC J ?_);refine ql_and1 J J J (hbd _) ?_;rw[bit_int];cases hy:S.testBit u with
    | true=>
     rw[show(((true).toNat:Nat):Int)=1 from rfl];(refine aC J (aA9 yq qG (aA1 vq (aE (aF J (aJ (aW (aB (aA4 xq qG qG (aA1 vq (aE ?_)))))))))))
     exact hK (u+1) _ _ ⟨by omega,fun t ht h=>by
      by_cases e:t=u
      ·rw[e];exact hy
      ·exact hu2 t qG h⟩ qG ⟨J,J,J,J,J,trivial⟩ qF
    | false=>
     rw[show(((false).toNat:Nat):Int)=0 from rfl];(refine aC J (aA8 yq qG (aA1 vq (aE (aH J (aD (aB (aA1 vq (aE (aQ ?_))))))))));refine aA2 wq qF fun w hs=> ?_
     exact⟨by rw[free_false (by rintro⟨_,h⟩;rw[h u hu3 hf] at hy;cases hy)];rfl,hs.chg0⟩
   | false=>
    (refine aA1 vq ?_;(iterate 5 refine aA3 zq ?_);refine aA1 vq (aE (aF J (aJ (aW (aB (aA4 xq qG qG (aA1 vq (aE ?_)))))))))
    exact hK (u+1) _ _ ⟨by omega,fun t ht h=>by
     by_cases e:t=u
     ·rw[e,hf] at h;cases h
     ·exact hu2 t qG h⟩ qG ⟨J,J,J,J,J,trivial⟩ qF
  ·have hun:u=n:=by omega
   subst hun;(refine aZ _ J (aD (aB (aA1 vq (aE (aQ ?_))))));refine aA2 wq qF fun w hs=> ?_
   exact⟨by rw[gR.2 ⟨hx,hu2⟩];rfl,hs.chg0⟩
def plC(l:Lb)(o k:Nat):List (Int×Int):=(List.range k).map fun s=>((1+upN o s l.n:Nat),l.skis-dnN o s l.n)
theorem plC_len(l:Lb)(o k:Nat):(plC l o k).length=k:=by simp[plC]
theorem plC_succ(l:Lb)(o k:Nat):spC (plC l o (k+1))=spC (plC l o k)++[.int .i64 ((1+upN o k l.n:Nat):Int),.int .i64 (l.skis-dnN o k l.n)]:=by
 unfold plC;rw[List.range_succ,List.map_append];simp[spC]
theorem Blk.rdN{w:World}{b:Nat}{cs:List Value}{t:TypeId}{c sz q:Nat}(h:Blk w b cs t)(hl:cs.length=q*sz):Rd w 0 w.heap.size (aB7 b q c) sz q cs:=
 ⟨hl,.inr ⟨b,0,c,rfl,fun _=>⟨Nat.zero_le _,h.lt,h.lt⟩,fun j _=>by rw[Blk.cell h];simp⟩⟩
theorem slS:SlT Tryz.prog 42 40 2 16 (.agg #[.int .i64 0,.int .i64 0]):=⟨by kernel_rfl,by kernel_rfl,by kernel_rfl,by decide⟩
theorem places_no(w:World)(lo hi:Nat)(l:Lb)(v:Value)(h:RdR w lo hi v l.runs)(hlen:l.runs.length≤maxLen)(hc0:bQ l≠0):Ca Tryz.prog 35 [.agg (lbC l v).toArray] w fun x w'=>x= .tuple #[.slice none 0 0,.int .i64 (bQ l)]∧Chg [] w w':=by
 refine cM (Sat.nil w M0) Tryz.func35 J (by simp[Tryz.ntmps35]) ?_;(refine aD (aB ?_));refine bN J J (fun b1=> ?_);rw[bG];(refine aA1 vq (aA1 vq (aE (aD (aB ?_))));refine aM qE J J J ?_);refine bB (β:=Option Addr) qE [] _ M0 J J J J (Sp.refl _) qJ (fun w' hs=>kA w' lo hi l v (RdE.keep h hs.chg0) hlen hc0) ?_;rintro p _ rfl;dsimp only[List.cons_append,List.nil_append];(refine aA1 vq (aA7 yq (aA7 yq (aA1 vq (aA1 vq (aE (aD (aD (aB (aA1 vq (aB0 yq qG (aE ?_)))))))))));refine aH J (aD (aB ?_));(iterate 3 refine aA1 vq ?_);refine aE (aQ ?_));refine aA2 wq qF fun w hs=> ?_;exact⟨J,hs.chg0⟩
theorem places_ok(w:World)(lo hi:Nat)(l:Lb)(v:Value)(h:RdR w lo hi v l.runs)(hl:l.Ok)(hn:NoC l.ord l.n):Ca Tryz.prog 35 [.agg (lbC l v).toArray] w fun x w'=>∃u:Value,x= .tuple #[u,.int .i64 0]∧Sat w M0 [.ow u 40 2 l.n (spC (plC l l.ord l.n))] w':=by
 obtain⟨n,en,hn',h8,h1⟩:=hl.nat;refine cM (Sat.nil w M0) Tryz.func35 J (by simp[Tryz.ntmps35]) ?_;(refine aD (aB ?_));refine bN J J (fun b1=> ?_);rw[bG];(refine aA1 vq (aA1 vq (aE (aD (aB ?_))));refine aM qE J J J ?_);refine bB (β:=Nat) qE [] _ M0 J J J J (Sp.refl _) qJ (fun w' hs=>jL w' lo hi l v (RdE.keep h hs.chg0) hl hn) ?_;rintro b _ rfl;dsimp only[List.cons_append,List.nil_append];(refine aA1 vq (aA7 yq (aA7 yq (aA1 vq (aA1 vq (aE (aD (aD (aB (aA1 vq (aB1 yq qG (aE ?_)))))))))));refine aF J (aJ (aD (aB (aA1 vq (aE (aD (aD (aB ?_))))))));(iterate 4 refine aA1 vq ?_);refine aL qE J J J ?_;refine aA1 vq (aE (aK ?_)));rw[en];refine cQ (H':=[.ow (.slice none 0 0) 40 2 0 (spC (plC l l.ord 0)),.pt b (dkC l v l.ord) 134]) (fun w' hs=>(Sat.ownil hs 40 2).sp qF) ?_;refine bD (σ:=Nat×Value) (fun y=>y.1≤n) (fun y=>n-y.1) (fun y=>[(4,aB8 b),(6,y.2),(22,.int .i64 n),(23,.int .i64 y.1)]) (fun y=>[.ow y.2 40 2 y.1 (spC (plC l l.ord y.1)),.pt b (dkC l v l.ord) 134]) (0,.slice none 0 0) (by simp only;omega) ⟨J,J,J,J,trivial⟩ qF ?_;rintro⟨s,u⟩ hs1 K hK;dsimp only at hs1 ⊢;(refine aD (aB (aA1 vq (aE (aD ?_)))));refine cP J (fun hc=> ?_) (fun hc=> ?_)
 ·have hs2:s<n:=by omega
  clear hc;have b1':=upN_le l.ord s n;have b2':=dnN_le l.ord s n;(refine aJ (aD (aK (aD (aB (aA1 vq (aA1 vq (aE (aD ?_)))))))));refine bY _ [] (Sp.refl _) qI qI ?_
  ((iterate 3 refine aB2 yq ?_);refine bK qE J J J ?_;(iterate 5 refine aB2 yq ?_);refine aX qE J J J ?_)
  rw[oN,en];refine cR (val:= .tuple #[.int .i64 (upN l.ord s n),.int .i64 (dnN l.ord s n)]) qE J J J J (fun w hs=> ?_) ?_;exact place_ca w l.ord s n qG h8;(refine aB2 yq (fD qE J J J (fD qE J J J (aB2 yq (aB2 yq (aT (aB (aA1 vq (aA1 vq (aA4 xq qG qG ?_)))))))));(iterate 4 refine aA1 vq ?_);refine aL qE J J J ?_;refine aA1 vq (aA4 xq qG qG ?_));refine dM #[.int .i64 (1+(upN l.ord s n:Nat)),.int .i64 (l.skis-(dnN l.ord s n:Nat))] J qI J ?_;refine cI 40 [.int .i64 (1+(upN l.ord s n:Nat)),.int .i64 (l.skis-(dnN l.ord s n:Nat))] J qI J (fun bn=> ?_);refine bU (q:=1) (news:=[.int .i64 (1+(upN l.ord s n:Nat)),.int .i64 (l.skis-(dnN l.ord s n:Nat))]) slS J J J (fun v'=>by repeat constructor) (fun w' hs=>⟨_,_,Blk.rdN (hs.blk (b:=bn) qF) J⟩) (by simp[dA]) qG qG (fun u'=> ?_);(refine aA1 vq (aE (aW (aB (aA4 xq qG qG (aA1 vq (aE ?_)))))));exact hK (s+1,u') _ _ (by simp only;omega) (by simp only;omega) ⟨J,J,J,J,trivial⟩ (by dsimp only;rw[plC_succ,hn'];repeat constructor)
 ·have hsn:n=s:=by omega
  subst hsn;(refine aZ _ J (aD (aB ?_));(iterate 3 refine aA1 vq ?_);refine aE (aQ ?_));refine aA2 wq qF fun w hs=> ?_
  rw[hn'];exact⟨u,J,hs.sp qF⟩
def pc(S:Nat):Nat:=((List.range 8).filter S.testBit).length
theorem pc_le(S:Nat):pc S≤8:=by
 have:=List.length_filter_le S.testBit (List.range 8);simpa[pc] using this
theorem pc_xor{S s:Nat}(hs:s<8)(h:S.testBit s=true):pc (S ^^^ 2^s)+1≤pc S:=by
 have h1:=jS (fun a=>(S ^^^ 2^s).testBit a) (fun a=>a==s) (List.range 8) (fun a _ ha=>by
  cases e:(a==s) with
  | false=>rfl
  | true=>rw[beq_iff_eq] at e;subst e;rw[jA h] at ha;cases ha)
 have h2:((List.range 8).filter (fun a=>(S ^^^ 2^s).testBit a||a==s)).length=pc S:=by
  refine filter_congr2 fun a _=> ?_;by_cases e:a=s
  ·subst e;simp[h]
  ·rw[bit_xor e];simp[e]
 have h3:0<((List.range 8).filter (fun t=>t==s)).length:=List.length_pos_iff_exists_mem.2 ⟨s,by simp[hs]⟩;have h4:((List.range 8).filter (fun a=>(S ^^^ 2^s).testBit a)).length=pc (S ^^^ 2^s):=rfl;omega
theorem sumN_bd{f:Nat→Nat}{B:Nat}:∀n,(∀i,i<n→f i≤B)→iQ f n≤n*B
 | 0,_=>by simp[iQ]
 | n+1,h=>by
  have h1:=sumN_bd n fun i hi=>h i qG
  have h2:=h n qG;rw[iQ,Nat.succ_mul];omega
theorem cnt_pow{o n:Nat}(hn:n≤8):∀S,cnt o n S≤8^pc S:=by
 intro S
 induction S using Nat.strongRecOn with
 | _ S ih=>
  by_cases h0:S=0
  ·subst h0;rw[cnt_zero];exact Nat.pow_le_pow_right (n:=8) (i:=0) qG (Nat.zero_le _)
  ·rw[cnt_eq h0];by_cases hp:pc S=0
   ·have:iQ (fun s=>cond (S.testBit s&&eO o n s (S ^^^ 2^s)) (cnt o n (S ^^^ 2^s)) 0) n≤n*0:=sumN_bd n fun i hi=>by
     cases ht:S.testBit i with
     | false=>exact Nat.le_refl _
     | true=>have:=pc_xor (show i<8 by omega) ht;omega
    simp only[Nat.mul_zero] at this;exact Nat.le_trans this (Nat.zero_le _)
   ·obtain⟨m,hm⟩:∃m,pc S=m+1:=⟨pc S-1,by omega⟩
    have:iQ (fun s=>cond (S.testBit s&&eO o n s (S ^^^ 2^s)) (cnt o n (S ^^^ 2^s)) 0) n≤n*8^m:=sumN_bd n fun i hi=>by
     cases ht:S.testBit i with
     | false=>exact Nat.zero_le _
     | true=>
      have h1:=pc_xor (show i<8 by omega) ht;have h2:=ih _ (nR ht);have h3:8^pc (S ^^^ 2^i)≤8^m:=Nat.pow_le_pow_right qG qG;rw[Bool.true_and];cases eO o n i (S ^^^ 2^i)
      ·exact Nat.zero_le _
      ·exact Nat.le_trans h2 h3
    rw[hm,Nat.pow_succ];have h4:n*8^m≤8^m*8:=by rw[Nat.mul_comm];exact Nat.mul_le_mul_left _ hn
    exact Nat.le_trans this h4
theorem cnt_bd{o n:Nat}(hn:n≤8)(S:Nat):cnt o n S≤16777216:=Nat.le_trans (cnt_pow hn S) (Nat.le_trans (Nat.pow_le_pow_right qG (pc_le S)) (by decide))
def mmT(o n S k T s:Nat):Nat:=cond (T.testBit s&&((decide (T ^^^ 2^s<S)||(decide (T ^^^ 2^s=S)&&decide (s<k)))&&eO o n s (T ^^^ 2^s))) (cnt o n (T ^^^ 2^s)) 0
def mm(o n S k T:Nat):Nat:=if T=0 then 1 else iQ (mmT o n S k T) n
theorem mmT_bd{o n S k T s:Nat}(hn:n≤8):mmT o n S k T s≤16777216:=by
 unfold mmT;generalize (T.testBit s&&((decide (T ^^^ 2^s<S)||(decide (T ^^^ 2^s=S)&&decide (s<k)))&&eO o n s (T ^^^ 2^s)))=c;cases c
 ·exact Nat.zero_le _
 ·exact cnt_bd hn _
theorem mm_bd{o n S k T:Nat}(hn:n≤8):mm o n S k T≤134217728:=by
 unfold mm;split
 ·omega
 ·have:=sumN_bd (f:=mmT o n S k T) n fun i _=>mmT_bd hn
  omega
theorem mm_first(o n T:Nat):mm o n 0 0 T=if T=0 then 1 else 0:=by
 unfold mm;split
 ·rfl
 ·have:iQ (mmT o n 0 0 T) n≤n*0:=sumN_bd n fun i _=>by simp[mmT]
  omega
theorem mm_next(o n S T:Nat):mm o n S n T=mm o n (S+1) 0 T:=by
 unfold mm;split
 ·rfl
 ·refine dJ n fun s hs=> ?_;unfold mmT
  have:(decide (T ^^^ 2^s<S)||(decide (T ^^^ 2^s=S)&&decide (s<n)))=(decide (T ^^^ 2^s<S+1)||(decide (T ^^^ 2^s=S+1)&&decide (s<0))):=by
   by_cases h1:T ^^^ 2^s<S
   ·simp[h1,show T ^^^ 2^s<S+1 by omega]
   ·by_cases h2:T ^^^ 2^s=S
    ·simp[h2,hs]
    ·simp[h1,h2,show ¬T ^^^ 2^s<S+1 by omega]
  rw[this]
theorem mm_self(o n S:Nat):mm o n S 0 S=cnt o n S:=by
 unfold mm;split
 ·rename_i h;subst h;rw[cnt_zero]
 ·rename_i h
  rw[cnt_eq h];refine dJ n fun s hs=> ?_
  unfold mmT;cases ht:S.testBit s with
  | false=>rfl
  | true=>simp[nR ht]
theorem sumN_upd{f g:Nat→Nat}{k d:Nat}:∀n,k<n→(∀i,i<n→i≠k→g i=f i)→g k=f k+d→iQ g n=iQ f n+d
 | 0,h,_,_=>by omega
 | n+1,h,h1,h2=>by
  rw[iQ,iQ];by_cases e:k=n
  ·subst e;rw[h2,dJ k fun i hi=>h1 i qG qG];omega
  ·rw[sumN_upd n qG (fun i hi hne=>h1 i qG hne) h2,h1 n qG (Ne.symm e)];omega
theorem or_xor{S k:Nat}(h:S.testBit k=false):(S ||| 2^k) ^^^ 2^k=S:=Nat.eq_of_testBit_eq fun i=>by
 rw[Nat.testBit_xor,Nat.testBit_or];by_cases e:i=k
 ·subst e;rw[h,Nat.testBit_two_pow_self];rfl
 ·rw[Nat.testBit_two_pow_of_ne (Ne.symm e)];simp
theorem xor_or{T S k:Nat}(h:T.testBit k=true)(e:T ^^^ 2^k=S):T=S ||| 2^k:=by
 subst e;refine Nat.eq_of_testBit_eq fun i=> ?_
 rw[Nat.testBit_or,Nat.testBit_xor];by_cases e:i=k
 ·subst e;rw[h,Nat.testBit_two_pow_self];rfl
 ·rw[Nat.testBit_two_pow_of_ne (Ne.symm e)];simp
theorem mm_add{o n S k:Nat}(hk:k<n)(hf:eO o n k S=true):mm o n S (k+1) (S ||| 2^k)=mm o n S k (S ||| 2^k)+cnt o n S:=by
 have hb:=(gR.1 hf).1;have hT:(S ||| 2^k).testBit k=true:=by rw[Nat.testBit_or,Nat.testBit_two_pow_self,Bool.or_true]
 have h0:S ||| 2^k≠0:=by intro h;rw[h] at hT;simp at hT
 have hx:=or_xor hb;unfold mm;rw[if_neg h0,if_neg h0];refine sumN_upd n hk (fun i hi hne=> ?_) ?_
 ·unfold mmT;have:decide (i<k+1)=decide (i<k):=decide_eq_decide.2 qG;rw[this]
 ·unfold mmT;rw[hx,hT,hf];simp
theorem mm_same{o n S k T:Nat}(h:T≠S ||| 2^k∨eO o n k S=false∨cnt o n S=0):mm o n S (k+1) T=mm o n S k T:=by
 unfold mm;split
 ·rfl
 ·refine dJ n fun s hs=> ?_;unfold mmT
  by_cases e:s=k
  ·subst e;cases ht:T.testBit s with
   | false=>rfl
   | true=>
    by_cases hx:T ^^^ 2^s=S
    ·rcases h with h|h|h
     ·exact absurd (xor_or ht hx) h
     ·rw[hx,h];simp
     ·rw[hx,h,pI,pI]
    ·simp[hx]
  ·have:decide (s<k+1)=decide (s<k):=decide_eq_decide.2 qG;rw[this]
def mmL(o n S k:Nat):List Int:=(List.range (2^n)).map fun T=>((mm o n S k T:Nat):Int)
theorem mmL_len(o n S k:Nat):(mmL o n S k).length=2^n:=by simp[mmL]
theorem mmL_get{o n S k T:Nat}(h:T<2^n):(mmL o n S k)[T]'(by rw[mmL_len];exact h)=((mm o n S k T:Nat):Int):=by simp[mmL]
theorem mmL_first(o n:Nat):(List.replicate (2^n) (0:Int)).set 0 1=mmL o n 0 0:=by
 refine List.ext_getElem (by simp[mmL_len]) fun i h1 h2=> ?_;rw[List.getElem_set,mmL_get (by simpa[mmL_len] using h2),mm_first]
 by_cases h:i=0
 ·subst h;simp
 ·rw[if_neg (fun e=>h e.symm),if_neg h,List.getElem_replicate]
  rfl
theorem mmL_next(o n S:Nat):mmL o n S n=mmL o n (S+1) 0:=by
 unfold mmL;refine List.map_congr_left fun T _=> ?_
 rw[mm_next]
theorem mmL_add{o n S k:Nat}(hk:k<n)(hf:eO o n k S=true):(mmL o n S k).set (S ||| 2^k) ((mm o n S k (S ||| 2^k):Nat)+(cnt o n S:Nat):Int)=mmL o n S (k+1):=by
 refine List.ext_getElem (by simp[mmL_len]) fun i h1 h2=> ?_;have hi:i<2^n:=by simpa[mmL_len] using h2
 rw[List.getElem_set,mmL_get hi,mmL_get hi];by_cases h:S ||| 2^k=i
 ·rw[if_pos h,←h,mm_add hk hf]
  rfl
 ·rw[if_neg h,mm_same (.inl (fun e=>h e.symm))]
theorem mmL_same{o n S k:Nat}(h:eO o n k S=false∨cnt o n S=0):mmL o n S k=mmL o n S (k+1):=by
 unfold mmL;refine List.map_congr_left fun T _=> ?_
 rw[mm_same (.inr h)]
theorem slI:SlT Tryz.prog 22 3 1 8 (.int .i64 0):=⟨by kernel_rfl,by kernel_rfl,by kernel_rfl,by decide⟩
theorem orders_no(w:World)(lo hi:Nat)(l:Lb)(v:Value)(h:RdR w lo hi v l.runs)(hlen:l.runs.length≤maxLen)(hc0:bQ l≠0):Ca Tryz.prog 36 [.agg (lbC l v).toArray] w fun x w'=>x= .tuple #[.int .i64 0,.int .i64 (bQ l)]∧Chg [] w w':=by
 refine cM (Sat.nil w M0) Tryz.func36 J (by simp[Tryz.ntmps36]) ?_;(refine aD (aB ?_));refine bN J J (fun b1=> ?_);rw[bG];(refine aA1 vq (aA1 vq (aE (aD (aB ?_))));refine aM qE J J J ?_);refine bB (β:=Option Addr) qE [] _ M0 J J J J (Sp.refl _) qJ (fun w' hs=>kA w' lo hi l v (RdE.keep h hs.chg0) hlen hc0) ?_;rintro p _ rfl;dsimp only[List.cons_append,List.nil_append];(refine aA1 vq (aA7 yq (aA7 yq (aA1 vq (aA1 vq (aE (aD (aD (aB (aA1 vq (aB0 yq qG (aE ?_)))))))))));refine aH J (aD (aB ?_));(iterate 3 refine aA1 vq ?_);refine aE (aQ ?_));refine aA2 wq qF fun w hs=> ?_;exact⟨J,hs.chg0⟩
theorem orders_ok(w:World)(lo hi:Nat)(l:Lb)(v:Value)(h:RdR w lo hi v l.runs)(hl:l.Ok)(hn:NoC l.ord l.n):Ca Tryz.prog 36 [.agg (lbC l v).toArray] w fun x w'=>x= .tuple #[.int .i64 (cnt l.ord l.n (2^l.n-1)),.int .i64 0]∧Chg [] w w':=by
 obtain⟨n,en,hn',h8,h1⟩:=hl.nat;have hp:2^n≤256:=Nat.pow_le_pow_right (n:=2) (j:=8) qG h8;have hp1:2≤2^n:=Nat.pow_le_pow_right (n:=2) (i:=1) qG h1;have ep:(2:Int)^n=((2^n:Nat):Int):=by norm_cast
 rw[hn'];refine cM (Sat.nil w M0) Tryz.func36 J (by simp[Tryz.ntmps36]) ?_;(refine aD (aB ?_));refine bN J J (fun b1=> ?_);rw[bG];(refine aA1 vq (aA1 vq (aE (aD (aB ?_))));refine aM qE J J J ?_);refine bB (β:=Nat) qE [] _ M0 J J J J (Sp.refl _) qJ (fun w' hs=>jL w' lo hi l v (RdE.keep h hs.chg0) hl hn) ?_;rintro b _ rfl;dsimp only[List.cons_append,List.nil_append];(refine aA1 vq (aA7 yq (aA7 yq (aA1 vq (aA1 vq (aE (aD (aD (aB (aA1 vq (aB1 yq qG (aE ?_)))))))))));refine aF J (aJ (aD (aB ?_)));(iterate 4 refine aA1 vq ?_);refine aL qE J J J ?_);rw[en];refine ql_shl J J J qG (by rw[Int.toNat_natCast,ep];omega) (by rw[Int.toNat_natCast,ep];omega) ?_;rw[Int.toNat_natCast,ep,Int.one_mul];generalize hN:2^n=N at *;refine nB slI J J J qG (fun b24=> ?_);(refine aA1 vq (aE (aD (aB (aA1 vq ?_)))));refine aA5 uq qG qG ?_;have h0:0<(List.replicate N (0:Int)).length:=by simp;omega
 refine eZ qE (0) J J J qF (by first|rfl|omega|simp) h0 ?_;(refine aE (aD (aD (aB ?_)));(iterate 3 refine aA1 vq ?_);refine aE (aK ?_));have e0:(List.replicate N (0:Int)).set 0 1=mmL l.ord n 0 0:=by rw[←hN];exact mmL_first l.ord n
 rw[e0];have hL:∀S k,(mmL l.ord n S k).length=N:=fun S k=>by rw[mmL_len,hN]
 have sh1:∀k:Nat,(1:Int)*2^(k:Int).toNat=((2^k:Nat):Int):=fun k=>by rw[Int.one_mul,Int.toNat_natCast];norm_cast
 refine bD (σ:=Nat) (fun S=>S≤N) (fun S=>N-S) (fun S=>[(4,aB8 b),(6,aB7 b24 N N),(27,aB7 b24 N N),(28,.int .i64 N),(29,.int .i64 S)]) (fun S=>[.pt b24 (bF (mmL l.ord n S 0)) 3,.pt b (dkC l v l.ord) 134]) 0 qG ⟨J,J,J,J,J,trivial⟩ qF ?_;rintro S hS K hK;(refine aD (aB (aA1 vq (aE (aD ?_)))));refine cP J (fun hc=> ?_) (fun hc=> ?_)
 ·have hS2:S<N:=by omega
  clear hc;(refine aJ (aD (aK (aD (aB (aA1 vq ?_))))));have hi:S<(mmL l.ord n S 0).length:=by rw[hL];exact hS2
  have hcb:=cnt_bd (o:=l.ord) h8 S;refine aA5 uq qG qG ?_;refine gC qE (S) J J J qF (by first|rfl|omega|simp) hi ?_;rw[show(mmL l.ord n S 0)[S]=((cnt l.ord n S:Nat):Int) from by rw[mmL_get (by rw[hN];exact hS2),mm_self]];(refine aA1 vq (aA1 vq (aE (aD (aB ?_))));(iterate 4 refine aA1 vq ?_);refine aL qE J J J ?_;refine aA1 vq (aE (aK ?_)));rw[en];refine bD (σ:=Nat) (fun k=>k≤n) (fun k=>n-k) (fun k=>[(4,aB8 b),(6,aB7 b24 N N),(7,.int .i64 S),(8,.int .i64 (cnt l.ord n S:Nat)),(27,aB7 b24 N N),(28,.int .i64 N),(29,.int .i64 S),(38,.int .i64 n),(39,.int .i64 k)]) (fun k=>[.pt b24 (bF (mmL l.ord n S k)) 3,.pt b (dkC l v l.ord) 134]) 0 qG ⟨J,J,J,J,J,J,J,J,J,trivial⟩ qF ?_;rintro k hk K2 hK2;(refine aD (aB (aA1 vq (aE (aD ?_)))));refine cP J (fun hc=> ?_) (fun hc=> ?_)
  ·have hk2:k<n:=by omega
   clear hc;by_cases hz:cnt l.ord n S=0
   ·(refine aJ (aD (aK (aD (aB (aA1 vq (aA1 vq (aE (aD (aB (aA1 vq (aB3 yq qG ?_)))))))))));refine aA1 vq ?_;(iterate 4 refine aA3 zq ?_);refine aA1 vq (aE (aF J (aJ (aW (aB (aA4 xq qG qG (aA1 vq (aE ?_)))))))))
    exact hK2 (k+1) _ _ qG qG ⟨J,J,J,J,J,J,J,J,J,trivial⟩ (by rw[←mmL_same (.inr hz)];repeat constructor)
   ·(refine aJ (aD (aK (aD (aB (aA1 vq (aA1 vq (aE (aD (aB (aA1 vq (aB4 yq qG ?_)))))))))));refine aA1 vq (aC J (aA1 vq (aC J (aA1 vq (aC J (aA1 vq (aC J ?_))))))))
    refine aI (val:= .bool (eO l.ord n k S)) qE J J J J (fun w hs=> ?_) ?_;exact by have:=free_ca w b _ l v l.ord k S (hs.blk qF) hl qG qG;rw[hn'] at this;exact this
    cases hf:eO l.ord n k S with
    | false=>
     (refine aA1 vq (aE (aF J (aJ (aW (aB (aA4 xq qG qG (aA1 vq (aE ?_)))))))))
     exact hK2 (k+1) _ _ qG qG ⟨J,J,J,J,J,J,J,J,J,trivial⟩ (by rw[←mmL_same (.inl hf)];repeat constructor)
    | true=>
     have hkp:2^k<N:=by rw[←hN];exact Nat.pow_lt_pow_right qG hk2
     have hor:S ||| 2^k<N:=by rw[←hN];exact Nat.or_lt_two_pow (by rw[hN];exact hS2) (by rw[hN];exact hkp)
     have hmb:=mm_bd (o:=l.ord) (S:=S) (k:=k) (T:=S ||| 2^k) h8;(refine aA1 vq (aE (aH J (aB ?_)));(iterate 3 refine aA1 vq ?_));obtain⟨pk,hpk⟩:∃p,p=2^k:=⟨_,rfl⟩;have sh2:(1:Int)*2^(k:Int).toNat=(pk:Int):=by rw[sh1,hpk]
     rw[←hpk] at hkp hor hmb;have hadd:=mmL_add (o:=l.ord) (n:=n) (S:=S) hk2 hf;rw[←hpk] at hadd;refine ql_shl J J J qG (by rw[sh2];omega) (by rw[sh2];omega) ?_;rw[sh2];refine ql_orN J J J qG qG ?_;have hi2:(S ||| pk)<(mmL l.ord n S k).length:=by rw[hL];exact hor
     refine aA5 uq qG qG ?_;refine gC qE (S ||| pk) J J J qF (by first|rfl|omega|simp) hi2 ?_;rw[show(mmL l.ord n S k)[S ||| pk]=((mm l.ord n S k (S ||| pk):Nat):Int) from mmL_get (by rw[hN];exact hor)];(refine aA1 vq (aA4 xq qG qG ?_));refine aA5 uq qG qG ?_;refine eZ qE (S ||| pk) J J J qF (by first|rfl|omega|simp) hi2 ?_;(refine aE (aW (aB (aA4 xq qG qG (aA1 vq (aE ?_))))));exact hK2 (k+1) _ _ qG qG ⟨J,J,J,J,J,J,J,J,J,trivial⟩ (by rw[←hadd];repeat constructor)
  ·have hkn:n=k:=by omega
   subst hkn;clear hc hK2 hk;(refine aZ _ J (aW (aB (aA4 xq qG qG (aA1 vq (aE ?_))))));exact hK (S+1) _ _ qG qG ⟨J,J,J,J,J,trivial⟩ (by rw[←mmL_next];repeat constructor)
 ·have hSN:N=S:=by omega
  clear hc hK;(refine aZ _ J (aD (aB ?_));(iterate 3 refine aA1 vq ?_);refine aA4 xq qG qG ?_);have hi3:N-1<(mmL l.ord n S 0).length:=by rw[hL];omega
  refine aA5 uq qG qG ?_;refine gC qE (N-1) J J J qF (by first|rfl|omega|simp) hi3 ?_;(refine aA1 vq (aA1 vq (aE (aQ ?_))));refine aA2 wq qF fun w hs=> ?_;refine⟨?_,hs.chg0⟩
  have e9:(mmL l.ord n S 0)[N-1]=((cnt l.ord n (N-1):Nat):Int):=by
   rw[mmL_get (by rw[hN];omega)]
   have e8:mm l.ord n S 0 (N-1)=cnt l.ord n (N-1):=by
    obtain⟨M,hM⟩:∃M,N=M+1:=⟨N-1,by omega⟩;rw[←hSN,hM,Nat.add_sub_cancel,←mm_next,←mm_self l.ord n M];unfold mm;split
    ·rfl
    ·refine dJ n fun s hs=> ?_;unfold mmT
     cases ht:M.testBit s with
     | false=>rfl
     | true=>
      have:=nR ht;simp[this]
   rw[e8]
  rw[e9]
  rfl
end Go.Proofs.YtoljppohibpenaaGreat
namespace Go.Eng
set_option maxRecDepth 4000
open Go Go.RowKit
section
variable {P : Program}
def arr2B(P:Program)(t e b n1 n2:Nat):Bool:=
 !(P.eqGuardType P.depth t)&&(match P.underlying t with|some (.array n' e')=>Nat.beq n' n1&&Nat.beq e' e|_=>false)&&(Nat.beq (P.cellsOf e) n2&&(P.info? e).isSome)&&arrQB P e n2 b&&(match P.underlying e with|some (.array _ _)=>true|_=>false)&&(P.info? b).isSome&&Nat.beq (P.cellsOf b) 1
structure Arr2(P:Program)(t e b n1 n2:Nat):Prop where
 g:P.eqGuardType P.depth t=false
 u:P.underlying t=some (.array n1 e)
 c:P.cellsOf e=n2
 i:(P.info? e).isSome=true
 q:arrQB P e n2 b=true
 v:∃n' e',P.underlying e=some (.array n' e')
theorem arr2_spec{t e b n1 n2:Nat}(h:arr2B P t e b n1 n2=true):Arr2 P t e b n1 n2:=by
 simp only[arr2B,Bool.and_eq_true,Bool.not_eq_true'] at h;obtain⟨⟨⟨⟨⟨⟨h1,h2⟩,h3,h4⟩,h5⟩,h6⟩,_⟩,_⟩:=h;refine⟨h1,?_,Nat.eq_of_beq_eq_true h3,h4,h5,?_⟩
 ·split at h2
  ·rename_i n' e' hu
   simp only[Bool.and_eq_true] at h2;rw[hu,Nat.eq_of_beq_eq_true h2.1,Nat.eq_of_beq_eq_true h2.2]
  ·cases h2
 ·split at h6
  ·rename_i hu;exact⟨_,_,hu⟩
  ·cases h6
theorem kG{t n n' e':Nat}(hu:P.underlying t=some (.array n' e'))(hc:P.cellsOf t=n)(hi:(P.info? t).isSome=true)(xs:List Value)(o:Nat)(w:World):(part t xs.toArray o).run P w= .ok (.agg ((xs.drop o).take n).toArray) w:=by
 obtain⟨i,hi⟩:=Option.isSome_iff_exists.1 hi
 have e:xs.toArray.extract o (o+n)=((xs.drop o).take n).toArray:=by
  apply Array.ext';simp[List.extract_eq_take_drop]
 simp[part,isAgg,run_underlying hu,run_sizeOf w hi,hc,e]
theorem eqBL_app:∀(a c b d:List Bool),a.length=c.length→eqBL (a++b) (c++d)=(eqBL a c&&eqBL b d)
 | [],[],b,d,_=>by simp[eqBL]
 | x::a,y::c,b,d,h=>by
  simp only[List.cons_append,eqBL,eqBL_app a c b d (by simpa using h),Bool.and_assoc]
theorem take_add'{α:Type}(l:List α)(a b:Nat):l.take (a+b)=l.take a++(l.drop a).take b:=List.take_add
theorem eqItems_rows{t e b n1 n2:Nat}(h:Arr2 P t e b n1 n2)(d:Nat)(w:World)(l m:List Bool):∀(j k:Nat),(k+j)*n2≤l.length→(k+j)*n2≤m.length→
  (Go.Op.eqItems (d+2) e n2 (l.map Value.bool).toArray (m.map Value.bool).toArray (List.range' k j)).run P w= .ok (eqBL ((l.drop (k*n2)).take (j*n2)) ((m.drop (k*n2)).take (j*n2))) w
 | 0,k,_,_=>by simp[Go.Op.eqItems,eqBL]
 | j+1,k,hl,hm=>by
  have e1:(k+(j+1))*n2=(k*n2+n2)+j*n2:=by rw[Nat.add_mul,Nat.succ_mul];omega
  have ih:=eqItems_rows h d w l m j (k+1) (by rw[show k+1+j=k+(j+1) from by omega];exact hl) (by rw[show k+1+j=k+(j+1) from by omega];exact hm);obtain⟨n',e',hu⟩:=h.v;have p1:=kG (P:=P) hu h.c h.i (l.map Value.bool) (k*n2) w;have p2:=kG (P:=P) hu h.c h.i (m.map Value.bool) (k*n2) w;rw[←List.map_drop,←List.map_take] at p1 p2;have q:=run_eqArr h.q (l:=(l.drop (k*n2)).take n2) (m:=(m.drop (k*n2)).take n2) (by simp;omega) (by simp;omega) d w;rw[List.range'_succ];simp only[Go.Op.eqItems,Sem.run_bind,p1,p2,Result.andThen_ok,q];rw[show(j+1)*n2=n2+j*n2 from by rw[Nat.succ_mul,Nat.add_comm],take_add',take_add',List.drop_drop,List.drop_drop,eqBL_app _ _ _ _ (by simp;omega)];rw[show(k+1)*n2=k*n2+n2 from Nat.succ_mul _ _] at ih;cases hx:eqBL ((l.drop (k*n2)).take n2) ((m.drop (k*n2)).take n2)
  ·simp
  ·simpa using ih
theorem run_eqArr2{t e b n1 n2:Nat}(h:Arr2 P t e b n1 n2){l m:List Bool}(hl:l.length=n1*n2)(hm:m.length=n1*n2)(d:Nat)(w:World):(Go.Op.equalIn (d+3) t (.agg (l.map Value.bool).toArray) (.agg (m.map Value.bool).toArray)).run P w= .ok (eqBL l m) w:=by
 obtain⟨i,hi⟩:=Option.isSome_iff_exists.1 h.i;rw[run_equalIn_array w (d+2) _ _ h.u hi,h.c,List.range_eq_range'];have:=eqItems_rows h d w l m n1 0 (by rw[Nat.zero_add,hl];exact Nat.le_refl _) (by rw[Nat.zero_add,hm];exact Nat.le_refl _);rw[this,Nat.zero_mul,List.drop_zero,List.drop_zero,List.take_of_length_le qG,List.take_of_length_le qG]
theorem forIn_ok{w:World}{f:Nat→PUnit→Sem (ForInStep PUnit)}:∀l:List Nat,(∀i∈l,(f i PUnit.unit).run P w= .ok (ForInStep.yield PUnit.unit) w)→(forIn (m:=Sem) l PUnit.unit f).run P w= .ok PUnit.unit w
 | [],_=>by simp
 | i::l,h=>by
  have ih:=forIn_ok l (fun j hj=>h j (List.mem_cons_of_mem _ hj));simp only[List.forIn_cons,Sem.run_bind,h i List.mem_cons_self,Result.andThen_ok];exact ih
theorem chk_row{e b n2:Nat}(h:arrQB P e n2 b=true)(empty:Bool)(d:Nat)(w:World)(l:List Bool)(hl:l.length=n2):(Instr.checkKey empty (d+2) e (.agg (l.map Value.bool).toArray)).run P w= .ok () w:=by
 simp only[arrQB,Bool.and_eq_true,Bool.not_eq_true'] at h;obtain⟨⟨⟨⟨⟨h1,h2⟩,h3⟩,h4⟩,h5⟩,h6⟩:=h;split at h5
 ·rename_i n' e' hu
  simp only[Bool.and_eq_true] at h5;have hn:=Nat.eq_of_beq_eq_true h5.1;have he:=Nat.eq_of_beq_eq_true h5.2;subst hn;subst he;split at h6
  ·rename_i hb
   obtain⟨i,hi⟩:=Option.isSome_iff_exists.1 h4;rw[Instr.checkKey];simp only[Sem.run_bind,run_underlying hu,Result.andThen_ok,Std.Legacy.Range.forIn_eq_forIn_range',Std.Legacy.Range.size,Nat.sub_zero,Nat.add_one_sub_one,Nat.div_one];rw[forIn_ok]
   ·rfl
   ·intro j hj;have hj2:j<l.length:=by simp at hj;omega
    have p1:=gU (P:=P) (xs:=(l.map Value.bool).toArray) (o:=j*1) (v:= .bool l[j]) h2 (by simp[hj2]) w;have c1:(Instr.checkKey empty (d+1) e' (.bool l[j])).run P w= .ok () w:=by rw[Instr.checkKey];simp[run_underlying hb]
    have s1:=run_sizeOf w hi;rw[Nat.eq_of_beq_eq_true h3] at s1;simp only[Sem.run_bind,s1,Result.andThen_ok,p1,c1]
    rfl
  ·cases h6
 ·cases h5
theorem chk_arr2{t e b n1 n2:Nat}(h:Arr2 P t e b n1 n2)(empty:Bool)(d:Nat)(w:World)(l:List Bool)(hl:l.length=n1*n2):(Instr.checkKey empty (d+3) t (.agg (l.map Value.bool).toArray)).run P w= .ok () w:=by
 obtain⟨i,hi⟩:=Option.isSome_iff_exists.1 h.i;obtain⟨n',e',hu⟩:=h.v;rw[Instr.checkKey];simp only[Sem.run_bind,run_underlying h.u,Result.andThen_ok,Std.Legacy.Range.forIn_eq_forIn_range',Std.Legacy.Range.size,Nat.sub_zero,Nat.add_one_sub_one,Nat.div_one];rw[forIn_ok]
 ·rfl
 ·intro j hj;have hj2:j<n1:=by simp at hj;omega
  have hj3:j*n2+n2≤n1*n2:=by rw[←Nat.succ_mul];exact Nat.mul_le_mul_right _ hj2
  have p1:=kG (P:=P) hu h.c h.i (l.map Value.bool) (j*n2) w;rw[←List.map_drop,←List.map_take] at p1;have c1:=chk_row h.q empty d w ((l.drop (j*n2)).take n2) (by simp;omega);have s1:=run_sizeOf w hi;rw[h.c] at s1;simp only[Sem.run_bind,s1,Result.andThen_ok,p1,c1]
  rfl
theorem iF:∀(n:Nat) (xs:List Value),iU (List.replicate n none) xs=true→∃l:List Bool,xs=l.map Value.bool∧l.length=n
 | 0,[],_=>⟨[],rfl,rfl⟩
 | 0,_::_,h=>by simp[iU] at h
 | n+1,[],h=>by simp[List.replicate_succ,iU] at h
 | n+1,v::xs,h=>by
  rw[List.replicate_succ] at h;obtain⟨v',m,he,hm,hv⟩:=lT h;cases he
  obtain⟨l,rfl,hl⟩:=iF n xs hm;rcases hv with⟨q,a,hq,_⟩|⟨b,_,rfl⟩
  ·cases hq
  ·exact⟨b::l,J,by simp[hl]⟩
theorem fit_map:∀(l:List Bool),iU (List.replicate l.length none) (l.map Value.bool)=true
 | []=>rfl
 | b::l=>by
  rw[List.length_cons,List.replicate_succ,List.map_cons];simpa[iU] using fit_map l
theorem pN:∀(l m:List Bool),eqL (l.map Value.bool) (m.map Value.bool)=eqBL l m
 | [],[]=>rfl
 | [],_::_=>rfl
 | _::_,[]=>rfl
 | a::l,b::m=>by simp[eqL,eqBL,pN l m]
theorem keyT_arr2{kt e b n1 n2:Nat}(h:Arr2 P kt e b n1 n2):KeyT P kt (keyF (List.replicate (n1*n2) none)) eqV where
 chk empty k w:=by
  rintro⟨xs,rfl,hx⟩;obtain⟨l,rfl,hl⟩:=iF _ _ hx;exact chk_arr2 h empty 9997 w l hl
 find k es w hk hes:=by
  have he:∀a b,keyF (List.replicate (n1*n2) none) a→keyF (List.replicate (n1*n2) none) b→(Op.equal kt a b).run P w= .ok (eqV a b) w:=by
   rintro _ _ ⟨xs,rfl,hx⟩ ⟨ys,rfl,hy⟩;obtain⟨l,rfl,hl⟩:=iF _ _ hx;obtain⟨m,rfl,hm⟩:=iF _ _ hy;have:=run_eqArr2 h hl hm 9997 w;rw[←pN] at this;exact this
  have h5:=ask_find w he hk es 0 hes;simp only[Instr.findKey,Sem.run_bind,run_underlying h.u,Result.andThen_ok];cases es with
  | nil=>simp[Instr.findNow]
  | cons x es=>
   simp only[Instr.findNow,Instr.sameNow];exact h5
 eq:=by
  rintro _ _ ⟨xs,rfl,hx⟩ ⟨ys,rfl,hy⟩ h;rw[eqL_eq _ xs ys hx hy h]
 refl:=by
  rintro _ ⟨xs,rfl,_⟩;exact gA xs
 bits:=by
  rintro _ ⟨xs,rfl,h⟩;exact(bits_agg 9999 xs.toArray xs.toArray).trans (by simpa using bits_flat 9999 _ xs h)
variable {ro : Cx} {n : Nat} {F : Fin} {w0 : World} {M : Nat → Prop} {k : List It} {ops : Array Oper} {rest : List Oper} {e : Env} {H Hq : List Ck}
theorem exec_neArr2{a:Act}{d t t' et bt n1 n2:Nat}{x y:Operand}{l m:List Bool}{ty:TypeId}{pos:String}{af:Array Edge}(hf:Fits n e a)(hx:opv e x=some (.agg (l.map Value.bool).toArray))(hy:opv e y=some (.agg (m.map Value.bool).toArray))(hA:Arr2 P t et bt n1 n2)(h1:l.length=n1*n2)(h2:m.length=n1*n2)(w:World) :
  (execOp a.eval ⟨some d,.binOp .neq t x y t',ty,pos,af,none⟩).run P w= .ok (.value (.bool (!(eqBL l m)))) w:=by
 have e1:=hf.op hx;have e2:=hf.op hy;have h3:=run_eqArr2 hA h1 h2 9997 w;simp[execOp,e1,e2,run_eqGuard_agg,hA.g,run_neq_struct,h3]
theorem ql_neA2{d t t' et bt n1 n2:Nat}{x y:Operand}{l m:List Bool}{ty:TypeId}{pos:String}{af:Array Edge}(hA:Arr2 P t et bt n1 n2)(hx:opv e x=some (.agg (l.map Value.bool).toArray))(hy:opv e y=some (.agg (m.map Value.bool).toArray))(h1:l.length=n1*n2)(h2:m.length=n1*n2)(hd:Nat.blt d n=true)
  (h:QL P ro n F w0 M k ops rest ((d,.bool (!(eqBL l m)))::e) H):QL P ro n F w0 M k ops (⟨some d,.binOp .neq t x y t',ty,pos,af,none⟩::rest) e H:= .mk fun w hw=>
 dF (by simp) hd (fun _ hf=>exec_neArr2 hf hx hy hA h1 h2 w) (h.h w hw)
end
end Go.Eng
namespace Go.Proofs.YtoljppohibpenaaGreat
open Go Go.Eng
set_option maxRecDepth 4000
open Go Go.Eng
theorem o_arr2:Arr2 Tryz.prog 132 130 4 8 8:=arr2_spec qI
theorem oL_len(o:Nat):(oL o).length=64:=by simp[oL]
theorem oL_inj{o p:Nat}(ho:o<2^64)(hp:p<2^64)(h:oL o=oL p):o=p:=by
 refine Nat.eq_of_testBit_eq fun i=> ?_;by_cases hi:i<64
 ·have:=congrArg (fun l=>l[i]?) h;simpa[oL,hi] using this
 ·rw[Nat.testBit_lt_two_pow (Nat.lt_of_lt_of_le ho (Nat.pow_le_pow_right qG qG)),Nat.testBit_lt_two_pow (Nat.lt_of_lt_of_le hp (Nat.pow_le_pow_right qG qG))]
theorem eqBL_o{o p:Nat}(ho:o<2^64)(hp:p<2^64):eqBL (oL o) (oL p)=decide (o=p):=by
 refine Bool.eq_iff_iff.2 ?_;rw[eqBL_iff _ _ (by rw[oL_len,oL_len]),decide_eq_true_iff];exact⟨oL_inj ho hp,fun h=>by rw[h]⟩
abbrev oV(o:Nat):Value:= .agg (oC o).toArray
abbrev withF:Value:= .func (.func 132) #[] #[]
abbrev htiwF:Value:= .func (.func 165) #[] #[]
theorem htiw_ca(w:World)(o a b:Nat)(ha:a<8)(hb:b<8):Ca Tryz.prog 165 [oV o,.int .i64 a,.int .i64 b] w fun v w'=>v=oV (cU o b a)∧Chg [] w w':=by
 refine cM (Sat.nil w M0) Tryz.func165 J (by simp[Tryz.ntmps165]) ?_;(refine aD (aB ?_));refine bN J J (fun b3=> ?_);rw[bG];refine bJ zero132 J (fun b6=> ?_);generalize hz6:(Value.agg _).cells.toList=z6;have hl6:z6.length=64:=by rw[←hz6];rfl
 clear hz6;(refine aE (aD (aB ?_));refine aM qE J J J ?_;refine aA1 vq (aA1 vq ?_));rw[fJ];refine aI qE J J J J (fun w hs=>with_ca w o b a hb ha) ?_;refine cB qE J J J (gL _) (List.all_eq_true.2 (oC_one _)) qF hl6 ?_;(refine aE (aQ ?_));refine aA2 wq qF fun w hs=> ?_
 exact⟨J,hs.chg0⟩
theorem ways_ca(w:World):Ca Tryz.prog 136 [] w fun v w'=>v= .agg #[withF,htiwF]∧Chg [] w w':=by
 refine cM (Sat.nil w M0) Tryz.func136 J (by simp[Tryz.ntmps136]) ?_;(refine aD (aB ?_));refine bJ zero185 J (fun b0=> ?_);(refine aE (aD (aB ?_)));refine dM #[withF] J qI J ?_;refine dM #[htiwF] J qI J ?_;refine dM #[withF,htiwF] J qI J ?_;(refine aA6 uq qF J ?_;refine aE (aQ ?_));refine aA2 wq qF fun w hs=> ?_;exact⟨J,hs.chg0⟩
theorem least_ca(w:World)(lo hi:Nat)(a:Int)(v:Value)(l:List Int)(h:RdI w lo hi v l)(hlen:l.length≤1000000):Ca Tryz.prog 138 [.int .i64 a,v] w fun x w'=>x= .int .i64 (minF a l)∧Chg [] w w':=by
 obtain⟨p,cap,rfl,hs⟩:=h.outI;refine cM (Sat.nil w M0) Tryz.func138 J (by simp[Tryz.ntmps138]) ?_;(refine aD (aB (aA1 vq (aE (aD (aD (aB ?_))))));(iterate 3 refine aA1 vq ?_);refine aE (aK ?_));refine bD (σ:=Nat) (fun k=>k≤l.length) (fun k=>l.length-k) (fun k=>[(0,.int .i64 (minF a (l.take k))),(7,.slice p l.length cap),(8,.int .i64 l.length),(9,.int .i64 k)]) (fun _=>[]) 0 qG ⟨J,J,J,J,trivial⟩ .nil ?_;intro k hk K hK;(refine aD (aB (aA1 vq (aE (aD ?_)))));refine cP J (fun hc=> ?_) (fun hc=> ?_)
 ·have hk:k<l.length:=by omega
  obtain⟨b,off,rfl⟩:=hs qG;have e:minF a (l.take (k+1))=min (minF a (l.take k)) l[k]:=by rw[List.take_succ_eq_append_getElem hk];unfold minF;rw[List.foldl_append];rfl
  (refine aJ (aD (aK (aD (aB ?_)))))
  (refine aA5 uq qG qG ?_;refine bC qE J J J (fun w hs=>RdI.at (h.keep hs.chg0) k hk) ?_)
  (refine aA1 vq (aE (aB ?_));(iterate 4 refine aA1 vq ?_);refine aE (aW (aB (aA4 xq qG qG (aA1 vq (aE ?_))))))
  exact hK (k+1) _ _ qG qG ⟨by rw[e];rfl,J,J,J,trivial⟩ qF
 ·obtain rfl:k=l.length:=by omega
  (refine aZ _ J (aD (aB (aA1 vq (aA1 vq (aE (aQ ?_)))))))
  refine aA2 wq qF fun w hs=> ?_;exact⟨by rw[List.take_length];rfl,hs.chg0⟩
theorem mC(w:World)(lo hi:Nat)(l:Lb)(v:Value)(k:Int)(h:RdR w lo hi v l.runs)(hlen:l.runs.length≤maxLen):Ca Tryz.prog 97 [.agg (lbC l v).toArray,.int .i64 k] w fun x w'=>x= .int .i64 (dD l k)∧Chg [] w w':=by
 refine cM (Sat.nil w M0) Tryz.func97 J (by simp[Tryz.ntmps97]) ?_;(refine aD (aB ?_));refine bN J J (fun b2=> ?_);rw[bG];(refine aA1 vq (aE (aD (aD (aB ?_))));refine aM qE J J J ?_);refine aI (val:= .int .i64 (cG l)) qE J J J J (fun w hs=> ?_) ?_;exact check_ca w lo hi l v (RdE.keep h hs.chg0) hlen;by_cases hc0:cG l=0
 ·rw[hc0];(refine aA1 vq (aE (aD (aB (aA1 vq (aB1 yq qG (aE (aF J (aJ (aD (aD (aB ?_)))))))))));refine aA1 vq (aA1 vq ?_);refine aL qE J J J ?_);refine aI (val:= .bool (inB k 1 l.skis)) qE J J J J (fun w hs=> ?_) ?_;exact cL k 1 l.skis w;(refine aA1 vq (aE ?_));cases hk:inB k 1 l.skis with
  | false=>
   (refine aH J (aD (aB (aA1 vq (aE (aQ ?_))))))
   refine aA2 wq qF fun w hs=> ?_;exact⟨by unfold dD;rw[if_neg (by simpa using hc0),if_pos hk];rfl,hs.chg0⟩
  | true=>
   (refine aF J (aJ (aD (aB (aA1 vq (aE (aQ ?_)))))))
   refine aA2 wq qF fun w hs=> ?_;exact⟨by unfold dD;rw[if_neg (by simpa using hc0),if_neg (by simp[hk])];rfl,hs.chg0⟩
 ·(refine aA1 vq (aE (aD (aB (aA1 vq (aB0 yq qG (aE (aH J (aD (aB (aA1 vq (aA1 vq ?_)))))))))));refine aE (aQ ?_))
  refine aA2 wq qF fun w hs=> ?_;exact⟨by unfold dD;rw[if_pos hc0];rfl,hs.chg0⟩
end Go.Proofs.YtoljppohibpenaaGreat
namespace Go.Eng
set_option maxRecDepth 4000
open Go Go.RowKit
section
variable {P : Program} {T : Tab} {ro : Cx} {n : Nat} {F : Fin} {w0 : World} {M : Nat → Prop} {k : List It} {ops : Array Oper} {rest : List Oper} {e : Env} {H Hq : List Ck}
theorem run_ixG(hT:T.Ok P){t len et m:Nat}{cs:Array Value}{ik:IntKind}{i:Int}(hA:arrB P t len et m=true)(h1:eN T.agg et=some m)(h0:0≤i)(hi:i<len)(w:World) :
  (Instr.index t (.agg cs) (.int ik i)).run P w= .ok (.agg (cs.extract (i.toNat*m) (i.toNat*m+m))) w:=by
 obtain⟨r1,r2⟩:=agg_run hT h1 w;simp only[arrB,Bool.and_eq_true] at hA;obtain⟨ha,hb⟩:=hA;split at ha
 ·rename_i q e' hu
  simp only[Bool.and_eq_true] at ha;have e1:=Nat.eq_of_beq_eq_true ha.1;have e2:=Nat.eq_of_beq_eq_true ha.2;subst e1;subst e2;simp[Instr.index,asIntOf,run_underlying hu,h0,hi,r2,part,r1]
 ·cases ha
theorem ql_ixG(hT:T.Ok P){d t len et m:Nat}{x ix:Operand}{cs:Array Value}{ik:IntKind}{i:Int}{v:Value}{ty:TypeId}{pos:String}{af:Array Edge}(hA:arrB P t len et m=true)(h1:eN T.agg et=some m)
  (hx:opv e x=some (.agg cs)) (hi:opv e ix=some (.int ik i)) (hd:Nat.blt d n=true) (h0:0≤i) (hl:i<len) (hv: .agg (cs.extract (i.toNat*m) (i.toNat*m+m))=v)
  (h:QL P ro n F w0 M k ops rest ((d,v)::e) H):QL P ro n F w0 M k ops (⟨some d,.index t x ix,ty,pos,af,none⟩::rest) e H:= .mk fun w hw=>
 dF (by simp) hd (fun a hf=>by
  simp only[execOp,hf.op hx,hf.op hi];simp[run_ixG hT hA h1 h0 hl w,hv]) (h.h w hw)
end
end Go.Eng
namespace Go.Proofs.YtoljppohibpenaaGreat
open Go Go.Eng
set_option maxRecDepth 4000
open Go Go.Eng
theorem Blk.rdI{w:World}{b c:Nat}{l:List Int}{t:TypeId}(h:Blk w b (bF l) t):RdI w 0 w.heap.size (aB7 b l.length c) l:=RdI.of (by have:=Blk.rdN (c:=c) (sz:=1) (q:=l.length) h (by simp[bF]);exact this)
abbrev oK:Value→Prop:=keyF (List.replicate (8*8) none)
theorem o_key:KeyT Tryz.prog 132 oK eqV:=keyT_arr2 o_arr2
theorem oV_key(o:Nat):oK (oV o):=⟨oC o,rfl,by have:=fit_map (oL o);rw[oL_len] at this;exact this⟩
theorem o_map:Tryz.prog.underlying 181=some (.map 132 3):=by kernel_rfl
theorem zero_i:ZeroOf Tryz.prog 3 (.int .i64 0):=⟨by kernel_rfl⟩
def GoodP(n k:Nat)(f:Value→Option Value):Prop:=∀o,o<2^64→∀v,f (oV o)=some v→v= .int .i64 (planO n k o)
theorem good_nil(n k:Nat):GoodP n k (fun _=>none):=fun _ _ _ h=>by cases h
theorem good_upd{n k:Nat}{f:Value→Option Value}(h:GoodP n k f){o:Nat}(ho:o<2^64):GoodP n k (fun x=>if eqV x (oV o) then some (.int .i64 (planO n k o)) else f x):=fun p hp v hv=>by
 dsimp only at hv;split at hv
 ·rename_i he
  have h1:eqL (oC p) (oC o)=true:=he;unfold oC at h1;rw[pN,eqBL_o hp ho,decide_eq_true_iff] at h1;subst h1;cases hv
  rfl
 ·exact h p hp v hv
abbrev plnF(b2 b3 b6 b8:Nat):Value:= .func (.func 137) #[] #[aB8 b2,aB8 b3,aB8 b6,aB8 b8]
abbrev mE(b7:Nat):Value:= .func (.func 135) #[] #[aB8 b7]
structure PlE(w:World)(n k bm b2 b3 b6 b7 b8:Nat):Prop where
 h2:∃t,Blk w b2 [.int .i64 n] t
 h3:∃t,Blk w b3 [.int .i64 k] t
 h6:∃t,Blk w b6 [.map (some bm)] t
 h7:∃t,Blk w b7 [plnF b2 b3 b6 b8] t
 h8:∃t,Blk w b8 [mE b7] t
section
variable {w w' : World} {b : Nat} {K : Value → Prop} {q : Value → Value → Bool} {f : Value → Option Value}
theorem Blk.mapC{x:Nat}{cs:List Value}{t:TypeId}(h:Blk w x cs t)(hm:MapAt w b K q f)(c:ChgP (· =b) w w'):Blk w' x cs t:=by
 obtain⟨es,clock,h1,_⟩:=hm;refine(c.block x h.lt ?_).trans h;rintro rfl;unfold Blk at h;rw[h] at h1;cases h1
theorem PlE.mapC{n k bm b2 b3 b6 b7 b8:Nat}(h:PlE w n k bm b2 b3 b6 b7 b8)(hm:MapAt w b K q f)(c:ChgP (· =b) w w'):PlE w' n k bm b2 b3 b6 b7 b8:=
 ⟨h.h2.imp fun _ h=>Blk.mapC h hm c,h.h3.imp fun _ h=>Blk.mapC h hm c,h.h6.imp fun _ h=>Blk.mapC h hm c,h.h7.imp fun _ h=>Blk.mapC h hm c,h.h8.imp fun _ h=>Blk.mapC h hm c⟩
end
abbrev mpO(bm:Nat)(f:Value→Option Value):Ck:=mpP oK eqV bm f
def PlanCa(n k bm b2 b3 b6 b8 o:Nat)(w:World):Prop:=Ca Tryz.prog 137 [oV o,aB8 b2,aB8 b3,aB8 b6,aB8 b8] w fun v w'=>∃f,(v= .int .i64 (planO n k o)∧GoodP n k f)∧Sat w (· =bm) [mpO bm f] w'
def mst(n k o a b j:Nat):Nat:=if j=0 then 0 else if j=1 then planO n k (cU o a b) else max (planO n k (cU o a b)) (planO n k (cU o b a))
theorem way_arr:arrB Tryz.prog 185 2 184 1=true:=by kernel_rfl
theorem worth_ca(n k bm b2 b3 b6 b7 b8 o a b:Nat)(hn:n≤8)(hU:Und o n a b)(hp:∀o',(o'=cU o a b∨o'=cU o b a)→∀(w:World) (f:Value→Option Value),PlE w n k bm b2 b3 b6 b7 b8→MapAt w bm oK eqV f→GoodP n k f→PlanCa n k bm b2 b3 b6 b8 o' w)
  (w:World) (f:Value→Option Value) (hE:PlE w n k bm b2 b3 b6 b7 b8) (hm:MapAt w bm oK eqV f) (hg:GoodP n k f) :
  Ca Tryz.prog 135 [oV o,.int .i64 a,.int .i64 b,aB8 b7] w fun v w'=>∃f,(v= .int .i64 (worthO n k o a b)∧GoodP n k f)∧Sat w (· =bm) [mpO bm f] w':=by
 have ha:=hU.hx;have hb:=hU.hy;obtain⟨t7,hb7⟩:=hE.h7;have hb7:=fun w' (c:ChgP (· =bm) w w')=>Blk.mapC hb7 hm c
 refine cM (H:=[mpO bm f]) (map_sat hm) Tryz.func135 J (by simp[Tryz.ntmps135]) ?_;(refine aD (aB ?_));refine bN J J (fun b4=> ?_);rw[bG];(refine aA1 vq (aE (aD (aD (aB (aA1 vq (aA1 vq ?_)))))));refine bL (len:=8) lF J J J qG qG ?_;refine bL (len:=8) lE J J J qG qG ?_;refine bC (v:= .bool false) qE J J J (fun w hs=>by have:=mF hs (b:=b4) (off:=0+(a:Int).toNat*8+(b:Int).toNat*1) qF a b qG qG qG;rw[hU.xy] at this;exact this) ?_;(refine aA1 vq (aC J (aA1 vq (aC J (aA1 vq (aC J ?_))))));refine bL (len:=8) lF J J J qG qG ?_;(refine aC J ?_);refine bL (len:=8) lE J J J qG qG ?_;(refine aC J ?_);refine bC (v:= .bool false) qE J J J (fun w hs=>by have:=mF hs (b:=b4) (off:=0+(b:Int).toNat*8+(a:Int).toNat*1) qF b a qG qG qG;rw[hU.yx] at this;exact this) ?_;(refine aA1 vq (aE (aF J (aJ (aD (aB (aA1 vq (aE (aD (aD (aB ?_)))))))))));refine aI qE J J J J (fun w hs=>ways_ca w) ?_;(refine aA1 vq (aE (aK ?_)));refine bD (σ:=Nat×(Value→Option Value)) (fun y=>y.1≤2∧GoodP n k y.2) (fun y=>2-y.1) (fun y=>[(1,.int .i64 a),(2,.int .i64 b),(3,aB8 b7),(4,aB8 b4),(8,.int .i64 (mst n k o a b y.1)),(27,.agg #[withF,htiwF]),(28,.int .i64 y.1)]) (fun y=>[.pt b4 (oC o) 132,mpO bm y.2]) (0,f) ⟨by simp,hg⟩ ⟨J,J,J,J,J,J,J,trivial⟩ qF ?_;clear hg;rintro⟨j,g⟩ ⟨hj,hg⟩ K hK;dsimp only at hj hg ⊢;(refine aD (aB (aA1 vq (aE (aD ?_)))));refine cP J (fun hc=> ?_) (fun hc=> ?_)
 ·have hj2:j<2:=by omega
  clear hc
  obtain⟨fw,ow,hw0,hw1,hw2,hw3,hw4⟩:∃(fw:Value) (ow:Nat),dA fw=true∧(#[withF,htiwF]:Array Value).extract (j*1) (j*1+1)= #[fw]∧(ow=cU o a b∨ow=cU o b a)∧mst n k o a b (j+1)=max (mst n k o a b j) (planO n k ow)∧(∀w,CaF Tryz.prog fw [oV o,.int .i64 a,.int .i64 b] w fun v w'=>v=oV ow∧Chg [] w w'):=by
   obtain rfl|rfl:j=0∨j=1:=by omega
   ·exact⟨withF,_,J,J,.inl rfl,by simp[mst],fun w=>CaF.of qE J (with_ca w o a b qG qG)⟩
   ·exact⟨htiwF,_,J,J,.inr rfl,by simp[mst],fun w=>CaF.of qE J (htiw_ca w o a b qG qG)⟩
  have hpb:=kU (k:=k) hn (show Ord ow from by rcases hw2 with rfl|rfl<;>exact hU.ord.with qG qG)
  have hmb:mst n k o a b j≤64:=by
   have h1:=kU (k:=k) hn (hU.ord.with (f:=a) (s:=b) qG qG);have h2:n*n≤64:=Nat.mul_le_mul hn hn;obtain rfl|rfl:j=0∨j=1:=by omega
   ·simp[mst]
   ·simp only[mst];simp;omega
  have h64:n*n≤64:=Nat.mul_le_mul hn hn;(refine aJ (aD (aK (aD (aB ?_)))));refine ql_ixG (v:= .agg #[fw]) qE way_arr J J J J qG qG (by rw[Int.toNat_natCast,hw1]) ?_;refine bJ zero184 J (fun b10=> ?_);refine cB (us:=[fw]) qE J J J J (by simp[hw0]) qF J ?_;(refine aE ?_);refine bY [.pt b4 (oC o) 132,.pt b10 [fw] 184] [mpO bm g] qF qI qI ?_;(refine aB2 yq ?_;refine qf_loadG qE J J J (by assumption) (by rfl) ?_;refine aB2 yq ?_;refine aX qE J J J ?_;refine bK qE J J J ?_;refine aB2 yq (aB2 yq ?_));rw[fJ];refine qf_callFv J J J (fun w' hs=>hw4 w') ?_;refine qf_callF (β:=Value→Option Value) (ψ:=fun g v=>v= .int .i64 (planO n k ow)∧GoodP n k g) (L':=fun g=>[mpO bm g]) [mpO bm g] [] (· =bm) J J J qF (fun x hx=>⟨_,.head _,hx⟩) (fun w' hs=>CaF.of qE J (hp ow hw2 w' g (hE.mapC hm hs.chg) (hs.mem (c:=mpO bm g) qF) hg)) ?_;rintro g' v ⟨rfl,hg'⟩;(refine aB2 yq (aB2 yq (aT (aW (aB (aA4 xq qG qG (aA1 vq (aE ?_))))))));exact hK (j+1,g') _ _ ⟨by simp only;omega,hg'⟩ (by simp only;omega) ⟨J,J,J,J,by rw[hw3];exact dI J qG,J,J,trivial⟩ qF
 ·have hj2:j=2:=by omega
  subst hj2;have h1:=kU (k:=k) hn (hU.ord.with (f:=a) (s:=b) qG qG);have h2:=kU (k:=k) hn (hU.ord.with (f:=b) (s:=a) qG qG);have h64:n*n≤64:=Nat.mul_le_mul hn hn;have hmb:mst n k o a b 2≤64:=by simp[mst];omega
  (refine aZ _ J (aD (aB (aA1 vq (aA4 xq qG qG (aA1 vq (aE (aQ ?_))))))))
  refine aA2 wq qF fun w hs=> ?_;exact⟨g,⟨by simp[eW,worthO,mst],hg⟩,hs.sp qF⟩
def stepP(n k o:Nat)(best:Nat)(p:Nat×Nat):Nat:=cond (undO o p) (min best (worthO n k o p.1 p.2)) best
def foldP(n k o a b:Nat):Nat:=((List.range b).map fun c=>(a,c)).foldl (stepP n k o) ((gK a).foldl (stepP n k o) (n*n))
theorem foldP_succ(n k o a b:Nat):foldP n k o a (b+1)=stepP n k o (foldP n k o a b) (a,b):=by
 unfold foldP;rw[List.range_succ,List.map_append,List.foldl_append]
 rfl
theorem foldP_next(n k o a:Nat):foldP n k o a a=foldP n k o (a+1) 0:=by
 unfold foldP gK;rw[List.range_succ,List.flatMap_append,List.foldl_append];simp
theorem foldP_zero(n k o:Nat):foldP n k o 0 0=n*n:=rfl
theorem stepP_le(n k o x:Nat)(p:Nat×Nat):stepP n k o x p≤x:=by
 unfold stepP;cases undO o p
 ·exact Nat.le_refl _
 ·exact Nat.min_le_left _ _
theorem foldS_le(n k o:Nat):∀(l:List (Nat×Nat)) (x:Nat),l.foldl (stepP n k o) x≤x
 | [],_=>Nat.le_refl _
 | p::l,x=>Nat.le_trans (foldS_le n k o l _) (stepP_le n k o x p)
theorem foldP_le(n k o a b:Nat):foldP n k o a b≤n*n:=Nat.le_trans (foldS_le _ _ _ _ _) (foldS_le _ _ _ _ _)
theorem plan_fold{n k o:Nat}(hn:n≤8)(ho:Ord o)(hk:dQ o n k=false):planO n k o=foldP n k o n 0:=by
 rw[mA hn ho,if_neg (by simp[hk])]
 rfl
theorem plan_ca(n k bm b2 b3 b6 b7 b8:Nat)(hn:n≤8)(hk:k≤n):∀(u o:Nat),undN o n=u→Ord o→∀(w:World) (f:Value→Option Value),PlE w n k bm b2 b3 b6 b7 b8→MapAt w bm oK eqV f→GoodP n k f→PlanCa n k bm b2 b3 b6 b8 o w:=by
 intro u
 induction u using Nat.strongRecOn with
 | _ u ih=>
 intro o hu ho w f hE hm hg;obtain⟨t2,hb2⟩:=hE.h2;obtain⟨t3,hb3⟩:=hE.h3;obtain⟨t6,hb6⟩:=hE.h6;obtain⟨t8,hb8⟩:=hE.h8;have hb2:=fun w' (c:ChgP (· =bm) w w')=>Blk.mapC hb2 hm c
 have hb3:=fun w' (c:ChgP (· =bm) w w')=>Blk.mapC hb3 hm c
 have hb6:=fun w' (c:ChgP (· =bm) w w')=>Blk.mapC hb6 hm c
 have hb8:=fun w' (c:ChgP (· =bm) w w')=>Blk.mapC hb8 hm c
 have h64:n*n≤64:=Nat.mul_le_mul hn hn;have hnn:(n:Int)*(n:Int)=((n*n:Nat):Int):=by norm_cast
 refine cM (H:=[mpO bm f]) (map_sat hm) Tryz.func137 J (by simp[Tryz.ntmps137]) ?_;(refine aD (aB ?_));refine bN J J (fun b5=> ?_);rw[bG];(refine aA1 vq (aE (aD (aD (aB ?_))));refine aM qE J J J ?_;(iterate 2 refine gQ qE J J J (by assumption) (by rfl) ?_));rw[fJ];refine aI (val:= .bool (dQ o n k)) qE J J J J (fun w hs=> ?_) ?_;exact known_ca w o n k hn hk;cases hkn:dQ o n k with
 | true=>
  (refine aE (aH J (aD (aB (aA1 vq (aE (aQ ?_)))))))
  refine aA2 wq qF fun w hs=> ?_;exact⟨f,⟨by rw[mA hn ho,if_pos hkn];rfl,hg⟩,hs.sp qF⟩
 | false=>
  (refine aE (aF J (aJ (aD (aD (aB ?_)))));refine gQ qE J J J (by assumption) (by rfl) ?_;refine aM qE J J J ?_)
  rw[fJ];refine ql_look2 o_key o_map zero_i J J J qF (oV_key o) ?_;cases hf:f (oV o) with
  | some v=>
   obtain rfl:=hg o ho.lt v hf;(refine aA1 vq (aA7 yq (aA7 yq (aA1 vq (aA1 vq (aE (aD (aB (aA1 vq (aE (aH J (aD ?_)))))))))));refine aB (aA1 vq (aA1 vq (aE (aQ ?_)))));refine aA2 wq qF fun w hs=> ?_
   exact⟨f,⟨J,hg⟩,hs.sp qF⟩
  | none=>
   (refine aA1 vq (aA7 yq (aA7 yq (aA1 vq (aA1 vq (aE (aD (aB (aA1 vq (aE (aF J (aJ ?_)))))))))));refine aD (aB ?_);(iterate 2 refine gQ qE J J J (by assumption) (by rfl) ?_);refine aA4 xq qG qG (aA1 vq (aE (aD (aD (aB ?_)))));refine gQ qE J J J (by assumption) (by rfl) ?_;refine aA1 vq (aE (aK ?_)))
   rw[hnn,←foldP_zero n k o];refine bD (σ:=Nat×(Value→Option Value)) (fun y=>y.1≤n∧GoodP n k y.2) (fun y=>n-y.1) (fun y=>[(1,aB8 b2),(2,aB8 b3),(3,aB8 b6),(4,aB8 b8),(5,aB8 b5),(9,.int .i64 (foldP n k o y.1 0:Nat)),(28,.int .i64 n),(29,.int .i64 y.1)]) (fun y=>[.pt b5 (oC o) 132,mpO bm y.2]) (0,f) ⟨by simp,hg⟩ ⟨J,J,J,J,J,J,J,J,trivial⟩ qF ?_;clear hg hf;rintro⟨a,g⟩ ⟨ha,hg⟩ K hK;dsimp only at ha hg ⊢;(refine aD (aB (aA1 vq (aE (aD ?_)))));refine cP J (fun hc=> ?_) (fun hc=> ?_)
   ·have ha2:a<n:=by omega
    clear hc;(refine aJ (aD (aK (aD (aB (aA1 vq (aA1 vq (aE (aD (aB (aA1 vq (aA1 vq ?_)))))))))));refine aE (aK ?_));refine bD (σ:=Nat×(Value→Option Value)) (fun y=>y.1≤a∧GoodP n k y.2) (fun y=>a-y.1) (fun y=>[(1,aB8 b2),(2,aB8 b3),(3,aB8 b6),(4,aB8 b8),(5,aB8 b5),(9,.int .i64 (foldP n k o a y.1:Nat)),(10,.int .i64 a),(28,.int .i64 n),(29,.int .i64 a),(32,.int .i64 a),(33,.int .i64 y.1)]) (fun y=>[.pt b5 (oC o) 132,mpO bm y.2]) (0,g) ⟨by simp,hg⟩ ⟨J,J,J,J,J,J,J,J,J,J,J,trivial⟩ qF ?_;clear hg;rintro⟨b,g⟩ ⟨hb,hg⟩ K2 hK2;dsimp only at hb hg ⊢;(refine aD (aB (aA1 vq (aE (aD ?_)))));refine cP J (fun hc=> ?_) (fun hc=> ?_)
    ·have hb2':b<a:=by omega
     clear hc;have e1:=foldP_succ n k o a b;have hfb:=foldP_le n k o a b;(refine aJ (aD (aK (aD (aB (aA1 vq (aA1 vq (aE (aD (aB ?_)))))))));refine aM qE J J J ?_;refine aA1 vq (aA1 vq ?_));rw[fJ];refine aI qE J J J J (fun w hs=>with_ca w o a b qG qG) ?_;refine bJ zero132 J (fun b12=> ?_);generalize hz12:(Value.agg _).cells.toList=z12;have hl12:z12.length=64:=by rw[←hz12];rfl
     clear hz12;refine cB qE J J J (gL _) (List.all_eq_true.2 (oC_one _)) qF hl12 ?_;(refine aE (aD (aB ?_));(iterate 2 refine aM qE J J J ?_));rw[fJ,fJ];refine ql_neA2 o_arr2 J J (oL_len _) (oL_len _) J ?_;rw[eqBL_o (with_lt _ _ _) ho.lt];have hwe:=with_eq ho (f:=a) (s:=b) qG qG;cases h1:fa o a b with
     | true=>
      rw[decide_eq_true (hwe.2 h1)];have e2:foldP n k o a (b+1)=foldP n k o a b:=by rw[e1];simp[stepP,undO,h1]
      (refine aA1 vq ?_;(iterate 6 refine aA3 zq ?_);refine aA1 vq (aE (aF J (aJ (aW (aB (aA4 xq qG qG (aA1 vq (aE ?_)))))))))
      exact hK2 (b+1,g) _ _ ⟨by simp only;omega,hg⟩ (by simp only;omega) ⟨J,J,J,J,J,by rw[e2];rfl,J,J,J,J,J,trivial⟩ qF
     | false=>
      rw[decide_eq_false (fun h=>by rw[hwe.1 h] at h1;cases h1)];(refine aA1 vq (aC J (aA1 vq (aC J (aA1 vq (aC J ?_))))));refine bL (len:=8) lF J J J qG qG ?_;(refine aC J ?_);refine bL (len:=8) lE J J J qG qG ?_;(refine aC J ?_);refine bC (v:= .bool (fa o b a)) qE J J J (fun w hs=>mF hs (b:=b5) qF b a qG qG qG) ?_;cases h2:fa o b a with
      | true=>
       have e2:foldP n k o a (b+1)=foldP n k o a b:=by rw[e1];simp[stepP,undO,h2]
       (refine aC J (aA1 vq (aA1 vq (aE (aF J (aJ (aW (aB (aA4 xq qG qG (aA1 vq (aE ?_)))))))))))
       exact hK2 (b+1,g) _ _ ⟨by simp only;omega,hg⟩ (by simp only;omega) ⟨J,J,J,J,J,by rw[e2];rfl,J,J,J,J,J,trivial⟩ qF
      | false=>
       have hU:Und o n a b:=⟨ho,hn,ha2,by omega,by omega,h1,h2⟩;have e2:foldP n k o a (b+1)=min (foldP n k o a b) (worthO n k o a b):=by rw[e1];simp[stepP,undO,h1,h2]
       have hl1:=nN hU;have hl2:=nN hU.swap;(refine aC J (aA1 vq (aA1 vq (aE (aH J (aB (aA1 vq ?_))))));refine gQ qE J J J (by assumption) (by rfl) ?_;refine aM qE J J J ?_;refine aA1 vq (aA1 vq ?_));rw[fJ]
       refine gO (β:=Value→Option Value) (ψ:=fun g v=>v= .int .i64 (worthO n k o a b:Nat)∧GoodP n k g) (L':=fun g=>[mpO bm g]) [mpO bm g] [.pt b12 (oC (cU o a b)) 132,.pt b5 (oC o) 132] (· =bm) J J J qF (fun x hx=>⟨_,.head _,hx⟩) (fun w' hs=>CaF.of qE J (worth_ca n k bm b2 b3 b6 b7 b8 o a b hn hU (fun o' ho'=>by
        rcases ho' with rfl|rfl
        ·exact ih _ qG _ J (ho.with qG qG)
        ·exact ih _ qG _ J (ho.with qG qG)) w' g (hE.mapC hm hs.chg) (hs.mem (c:=mpO bm g) qF) hg)) ?_
       rintro g' v ⟨rfl,hg'⟩;refine cI 3 (bF [((worthO n k o a b:Nat):Int)]) J qI J (fun bn=> ?_);refine aI (val:= .int .i64 (minF (foldP n k o a b:Nat) [((worthO n k o a b:Nat):Int)])) qE J J J J (fun w hs=> ?_) ?_;exact least_ca w 0 w.heap.size _ _ [((worthO n k o a b:Nat):Int)] (Blk.rdI (l:=[((worthO n k o a b:Nat):Int)]) (c:=1) (hs.blk (b:=bn) qF)) (by simp);(refine aA1 vq (aE (aW (aB (aA4 xq qG qG (aA1 vq (aE ?_)))))));exact hK2 (b+1,g') _ _ ⟨by simp only;omega,hg'⟩ (by simp only;omega) ⟨J,J,J,J,J,by rw[e2];exact dI J (by simp[minF];omega),J,J,J,J,J,trivial⟩ qF
    ·have hba:b=a:=by omega
     subst hba;clear hc hK2 hb;(refine aZ _ J (aW (aB (aA4 xq qG qG (aA1 vq (aE ?_))))));exact hK (b+1,g) _ _ ⟨by simp only;omega,hg⟩ (by simp only;omega) ⟨J,J,J,J,J,by rw[←foldP_next];rfl,J,J,trivial⟩ qF
   ·have han:a=n:=by omega
    subst han;clear hc hK ha;rw[←plan_fold hn ho hkn];(refine aZ _ J (aD (aB ?_));refine gQ qE J J J (by assumption) (by rfl) ?_;refine aM qE J J J ?_;refine aA1 vq ?_);rw[fJ];refine ql_mapUpd o_key o_map J J J (oV_key o) qF ?_;(refine aE (aD (aB (aA1 vq (aA1 vq (aE (aQ ?_)))))));refine aA2 wq qF fun w hs=> ?_
    exact⟨_,⟨J,good_upd hg ho.lt⟩,hs.sp qF⟩
theorem planned_no(w:World)(lo hi:Nat)(l:Lb)(v:Value)(k:Int)(h:RdR w lo hi v l.runs)(hlen:l.runs.length≤maxLen)(hc0:plannedV l k≠0):Ca Tryz.prog 101 [.agg (lbC l v).toArray,.int .i64 k] w fun x w'=>∃p:Option Addr,x= .tuple #[.pointer p,.int .i64 (plannedV l k)]∧Sat w M0 [] w':=by
 refine cM (Sat.nil w M0) Tryz.func101 J (by simp[Tryz.ntmps101]) ?_;(refine aD (aB ?_));refine bN J J (fun b2=> ?_);rw[bG];(refine aA1 vq (aA1 vq (aE (aD (aD (aB ?_)))));refine aM qE J J J ?_;refine aA1 vq ?_);refine aI (val:= .int .i64 (dD l k)) qE J J J J (fun w hs=> ?_) ?_;exact mC w lo hi l v k (RdE.keep h hs.chg0) hlen;by_cases hp:dD l k=0
 ·rw[hp];by_cases h5:5<l.skis
  ·have e:plannedV l k=10:=by unfold plannedV;rw[if_neg (by simpa using hp),if_pos h5]
   (refine aA1 vq (aE (aD (aB (aA1 vq (aB1 yq qG (aE (aF J (aJ (aD (aD (aB ?_)))))))))));refine aA1 vq ?_;refine aL qE J J J ?_;refine aB4 yq qG (aE (aH J (aD (aB (aA1 vq (aA1 vq (aE (aQ ?_)))))))))
   refine aA2 wq qF fun w hs=> ?_;exact⟨none,by rw[e];rfl,hs.sp qF⟩
  ·have e:plannedV l k=bQ l:=by unfold plannedV;rw[if_neg (by simpa using hp),if_neg h5]
   (refine aA1 vq (aE (aD (aB (aA1 vq (aB1 yq qG (aE (aF J (aJ (aD (aD (aB ?_)))))))))));refine aA1 vq ?_;refine aL qE J J J ?_;refine aB3 yq qG (aE (aF J (aJ (aD (aB ?_)))));refine aM qE J J J ?_)
   refine bB (β:=Option Addr) qE [] _ M0 J J J J (Sp.refl _) qJ (fun w' hs=>kA w' lo hi l v (RdE.keep h hs.chg0) hlen (by rw[←e];exact hc0)) ?_;rintro p _ rfl;dsimp only[List.cons_append,List.nil_append];(refine aA7 yq (aA7 yq (aA1 vq (aA1 vq (aE (aQ ?_))))));refine aA2 wq qF fun w hs=> ?_;exact⟨p,by rw[e];rfl,hs.sp qF⟩
 ·have e:plannedV l k=dD l k:=by unfold plannedV;rw[if_pos hp]
  (refine aA1 vq (aE (aD (aB (aA1 vq (aB0 yq qG (aE (aH J (aD (aB ?_)))))))));(iterate 3 refine aA1 vq ?_);refine aE (aQ ?_))
  refine aA2 wq qF fun w hs=> ?_;exact⟨none,by rw[e];rfl,hs.sp qF⟩
structure PlanOk(l:Lb)(k:Int):Prop where
 ok:l.Ok
 noC:NoC l.ord l.n
 k1:1≤k
 k2:k≤l.skis
 s5:l.skis≤5
theorem jO{l:Lb}{k:Int}:dD l k=0↔l.Ok∧1≤k∧k≤l.skis:=by
 unfold dD;constructor
 ·intro h;split at h
  ·rename_i h1;exact absurd h h1
  ·rename_i h1
   split at h
   ·cases h
   ·rename_i h2
    have h3:cG l=0:=by simpa using h1
    exact⟨dG.1 h3,bX.1 (by simpa using h2)⟩
 ·rintro⟨h1,h2⟩;rw[if_neg (by simpa using dG.2 h1),if_neg (by simp[bX,h2])]
theorem fW{l:Lb}{k:Int}:plannedV l k=0↔PlanOk l k:=by
 unfold plannedV;constructor
 ·intro h;split at h
  ·rename_i h1;exact absurd h h1
  ·rename_i h1
   split at h
   ·cases h
   ·rename_i h2
    have h3:dD l k=0:=by simpa using h1
    obtain⟨h4,h5,h6⟩:=jO.1 h3;exact⟨h4,(dE.1 h).2,h5,h6,by omega⟩
 ·intro h;rw[if_neg (by simpa using jO.2 ⟨h.ok,h.k1,h.k2⟩),if_neg (by have:=h.s5;omega)];exact dE.2 ⟨h.ok,h.noC⟩
theorem nG(w:World)(lo hi:Nat)(l:Lb)(v:Value)(k:Int)(h:RdR w lo hi v l.runs)(hp:PlanOk l k):Ca Tryz.prog 101 [.agg (lbC l v).toArray,.int .i64 k] w fun x w'=>∃b:Nat,x= .tuple #[aB8 b,.int .i64 0]∧Sat w M0 [.pt b (dkC l v l.ord) 134] w':=by
 have h5:=hp.s5;have hlen:l.runs.length≤maxLen:=by have:=hp.ok.len;simp only[maxLen];omega
 have hpl:dD l k=0:=jO.2 ⟨hp.ok,hp.k1,hp.k2⟩;refine cM (Sat.nil w M0) Tryz.func101 J (by simp[Tryz.ntmps101]) ?_;(refine aD (aB ?_));refine bN J J (fun b2=> ?_);rw[bG];(refine aA1 vq (aA1 vq (aE (aD (aD (aB ?_)))));refine aM qE J J J ?_;refine aA1 vq ?_);refine aI (val:= .int .i64 0) qE J J J J (fun w hs=> ?_) ?_;exact by have:=mC w lo hi l v k (RdE.keep h hs.chg0) hlen;rw[hpl] at this;exact this
 (refine aA1 vq (aE (aD (aB (aA1 vq (aB1 yq qG (aE (aF J (aJ (aD (aD (aB ?_)))))))))));refine aA1 vq ?_;refine aL qE J J J ?_;refine aB3 yq qG (aE (aF J (aJ (aD (aB ?_)))));refine aM qE J J J ?_)
 refine bB (β:=Nat) qE [] _ M0 J J J J (Sp.refl _) qJ (fun w' hs=>jL w' lo hi l v (RdE.keep h hs.chg0) hp.ok hp.noC) ?_;rintro b _ rfl;dsimp only[List.cons_append,List.nil_append];(refine aA7 yq (aA7 yq (aA1 vq (aA1 vq (aE (aQ ?_))))));refine aA2 wq qF fun w hs=> ?_;exact⟨b,J,hs.sp qF⟩
theorem planner_ca(w:World)(n k:Nat):Ca Tryz.prog 102 [.int .i64 n,.int .i64 k] w fun x w'=>∃y:Nat×Nat×Nat×Nat×Nat×Nat,x= .tuple #[plnF y.2.1 y.2.2.1 y.2.2.2.1 y.2.2.2.2.2,mE y.2.2.2.2.1]∧Sat w M0 [mpO y.1 (fun _=>none),.pt y.2.1 [.int .i64 n] 3,.pt y.2.2.1 [.int .i64 k] 3,.pt y.2.2.2.1 [.map (some y.1)] 181,.pt y.2.2.2.2.1 [plnF y.2.1 y.2.2.1 y.2.2.2.1 y.2.2.2.2.2] 153,.pt y.2.2.2.2.2 [mE y.2.2.2.2.1] 154] w':=by
 refine cM (Sat.nil w M0) Tryz.func102 J (by simp[Tryz.ntmps102]) ?_;(refine aD (aB ?_));refine bN J J (fun b2=> ?_);refine bN J J (fun b3=> ?_);(refine aA1 vq (aA1 vq (aE (aD (aB ?_)))));refine ql_makeMap oK eqV J (fun bm=> ?_);refine bJ zero181 J (fun b6=> ?_);(refine gE qE J J J J qF ?_;refine aE (aD (aB ?_)));refine bJ zero153 J (fun b7=> ?_);(refine aE (aD (aB (aA1 vq ?_))));refine bJ zero154 J (fun b8=> ?_);(refine gE qE J J J J qF ?_;refine aE (aD (aB (aA1 vq ?_)));refine gE qE J J J J qF ?_;refine aE (aD ?_));refine bY _ [] (Sp.refl _) qI qI ?_
 ((iterate 2 refine aX qE J J J ?_);refine aB2 yq (aB2 yq (aT (aQ ?_))))
 refine aA2 wq qF fun w hs=> ?_;exact⟨(bm,b2,b3,b6,b7,b8),J,hs.sp qF⟩
theorem fewest_no(w:World)(lo hi:Nat)(l:Lb)(v:Value)(k:Int)(h:RdR w lo hi v l.runs)(hlen:l.runs.length≤maxLen)(hc0:plannedV l k≠0):Ca Tryz.prog 43 [.agg (lbC l v).toArray,.int .i64 k] w fun x w'=>x= .tuple #[.int .i64 0,.int .i64 (plannedV l k)]∧Chg [] w w':=by
 refine cM (Sat.nil w M0) Tryz.func43 J (by simp[Tryz.ntmps43]) ?_;(refine aD (aB ?_));refine bN J J (fun b2=> ?_);rw[bG];(refine aA1 vq (aA1 vq (aE (aD (aB ?_))));refine aM qE J J J ?_;refine aA1 vq ?_);refine bB (β:=Option Addr) qE [] _ M0 J J J J (Sp.refl _) qJ (fun w' hs=>planned_no w' lo hi l v k (RdE.keep h hs.chg0) hlen hc0) ?_;rintro p _ rfl;dsimp only[List.cons_append,List.nil_append];(refine aA1 vq (aA7 yq (aA7 yq (aA1 vq (aA1 vq (aE (aD (aD (aB (aA1 vq (aB0 yq qG (aE ?_)))))))))));refine aH J (aD (aB ?_));(iterate 3 refine aA1 vq ?_);refine aE (aQ ?_));refine aA2 wq qF fun w hs=> ?_;exact⟨J,hs.chg0⟩
theorem fewest_ok(w:World)(lo hi:Nat)(l:Lb)(v:Value)(k:Nat)(h:RdR w lo hi v l.runs)(hp:PlanOk l k):Ca Tryz.prog 43 [.agg (lbC l v).toArray,.int .i64 k] w fun x w'=>x= .tuple #[.int .i64 (planO l.n k l.ord),.int .i64 0]∧Chg [] w w':=by
 obtain⟨n,en,hn',h8,h1⟩:=hp.ok.nat;have hk:=hp.k2;rw[hn'];refine cM (Sat.nil w M0) Tryz.func43 J (by simp[Tryz.ntmps43]) ?_;(refine aD (aB ?_));refine bN J J (fun b2=> ?_);rw[bG];(refine aA1 vq (aA1 vq (aE (aD (aB ?_))));refine aM qE J J J ?_;refine aA1 vq ?_);refine bB (β:=Nat) qE [] _ M0 J J J J (Sp.refl _) qJ (fun w' hs=>nG w' lo hi l v k (RdE.keep h hs.chg0) hp) ?_;rintro b _ rfl;dsimp only[List.cons_append,List.nil_append];(refine aA1 vq (aA7 yq (aA7 yq (aA1 vq (aA1 vq (aE (aD (aD (aB (aA1 vq (aB1 yq qG (aE ?_)))))))))));refine aF J (aJ (aD (aB ?_)));(iterate 4 refine aA1 vq ?_);refine aL qE J J J ?_;refine aA1 vq ?_);rw[en];refine bB (β:=Nat×Nat×Nat×Nat×Nat×Nat) qE [] _ M0 J J J J (Sp.refl _) qJ (fun w' hs=>planner_ca w' n k) ?_;rintro⟨bm,b2,b3,b6,b7,b8⟩ _ rfl;dsimp only[List.cons_append,List.nil_append];(refine aA1 vq (aA7 yq (aA7 yq (aA1 vq (aA1 vq (aE (aD (aB ?_)))))));(iterate 4 refine aA1 vq ?_);refine aM qE J J J ?_);rw[oN];refine gO (β:=Value→Option Value) (ψ:=fun g v=>v= .int .i64 (planO n k l.ord)∧GoodP n k g) (L':=fun g=>[mpO bm g]) [mpO bm (fun _=>none)] [.pt b2 [.int .i64 n] 3,.pt b3 [.int .i64 k] 3,.pt b6 [.map (some bm)] 181,.pt b7 [plnF b2 b3 b6 b8] 153,.pt b8 [mE b7] 154] (· =bm) J J J qF (fun x hx=>⟨_,.head _,hx⟩) (fun w' hs=>CaF.of qE J (plan_ca n k bm b2 b3 b6 b7 b8 h8 qG _ l.ord J hp.ok.o w' _ ⟨⟨_,hs.blk qF⟩,⟨_,hs.blk qF⟩,⟨_,hs.blk qF⟩,⟨_,hs.blk qF⟩,⟨_,hs.blk qF⟩⟩ (hs.mem (c:=mpO bm (fun _=>none)) qF) (good_nil n k))) ?_;rintro g' v ⟨rfl,hg'⟩;(refine aA1 vq (aA1 vq (aE (aQ ?_))));refine aA2 wq qF fun w hs=> ?_
 exact⟨J,hs.chg0⟩
theorem two_no(w:World)(lo hi:Nat)(l:Lb)(v:Value)(a b:Int)(h:RdR w lo hi v l.runs)(hlen:l.runs.length≤maxLen)(hc0:nF l a b≠0):Ca Tryz.prog 74 [.agg (lbC l v).toArray,.int .i64 a,.int .i64 b] w fun x w'=>∃p:Option Addr,x= .tuple #[.pointer p,.int .i64 (nF l a b)]∧Sat w M0 [] w':=by
 refine cM (Sat.nil w M0) Tryz.func74 J (by simp[Tryz.ntmps74]) ?_;(refine aD (aB ?_));refine bN J J (fun b3=> ?_);rw[bG];(refine aA1 vq (aA1 vq (aE (aD (aB ?_))));refine aM qE J J J ?_);by_cases hck:cG l=0
 ·have hl:=dG.1 hck;have h0:=hl.s0;have h1:=hl.s1
  have e:nF l a b=1:=by
   unfold nF at hc0 ⊢;rw[if_neg (by simpa using hck)] at hc0 ⊢;split at hc0
   ·rename_i hq;rw[if_pos hq]
   ·exact absurd J hc0
  refine bB (β:=Nat) qE [] _ M0 J J J J (Sp.refl _) qJ (fun w' hs=>nE w' lo hi l v (RdE.keep h hs.chg0) hl) ?_;rintro d _ rfl;dsimp only[List.cons_append,List.nil_append];(refine aA1 vq (aA7 yq (aA7 yq (aA1 vq (aA1 vq (aE (aD (aD (aB (aA1 vq (aA8 yq qG (aA1 vq ?_)))))))))));refine aC J (aA1 vq (aC J (aA1 vq (aC J ?_))));refine aL qE J J J ?_;refine aC J (aA4 xq qG qG (aC J ?_)));refine aI (val:= .bool (inB a 0 (l.skis-1))) qE J J J J (fun w hs=> ?_) ?_;exact cL a 0 (l.skis-1) w;cases ha:inB a 0 (l.skis-1) with
  | false=>
   (refine aC J (aA1 vq (aC J (aA1 vq ?_)));(iterate 6 refine aA3 zq ?_);refine aC J (aA1 vq (aA1 vq (aE (aH J (aB (aA1 vq (aE (aD (aB ?_)))))))));(iterate 4 refine aA1 vq ?_);refine aE (aQ ?_))
   refine aA2 wq qF fun w hs=> ?_;exact⟨some ⟨d,0,none⟩,by rw[e];rfl,hs.sp qF⟩
  | true=>
   (refine aC J (aA1 vq (aC J (aA1 vq (aC J (aA1 vq (aC J (aA1 vq (aC J ?_))))))));refine aL qE J J J ?_;refine aC J (aA4 xq qG qG (aC J ?_)))
   refine aI (val:= .bool (inB b 0 (l.skis-1))) qE J J J J (fun w hs=> ?_) ?_;exact cL b 0 (l.skis-1) w;cases hb:inB b 0 (l.skis-1) with
   | false=>
    (refine aC J (aA1 vq (aC J (aA1 vq (aA1 vq (aE (aH J (aB (aA1 vq (aE (aD (aB ?_)))))))))));(iterate 4 refine aA1 vq ?_);refine aE (aQ ?_))
    refine aA2 wq qF fun w hs=> ?_;exact⟨some ⟨d,0,none⟩,by rw[e];rfl,hs.sp qF⟩
   | true=>
    exfalso;apply hc0;unfold nF;rw[if_neg (by simpa using hck),ha,hb];simp
 ·have e:nF l a b=cG l:=by unfold nF;rw[if_pos hck]
  refine aI (val:= .tuple #[.pointer none,.int .i64 (cG l)]) qE J J J J (fun w hs=> ?_) ?_;exact asked_no w lo hi l v (RdE.keep h hs.chg0) hlen hck;(refine aA1 vq (aA7 yq (aA7 yq (aA1 vq (aA1 vq (aE (aD (aD (aB (aA1 vq (aA9 yq qG (aA1 vq ?_)))))))))));(iterate 7 refine aA3 zq ?_);(iterate 6 refine dZ J J ?_);refine aA3 zq (aA1 vq (aE (aF J (aJ (aD (aB ?_))))));(iterate 4 refine aA1 vq ?_);refine aE (aQ ?_));refine aA2 wq qF fun w hs=> ?_;exact⟨none,by rw[e];rfl,hs.sp qF⟩
theorem mI{l:Lb}{a b:Int}:nF l a b=0↔l.Ok∧inB a 0 (l.skis-1)=true∧inB b 0 (l.skis-1)=true:=by
 unfold nF;constructor
 ·intro h;split at h
  ·rename_i h1;exact absurd h h1
  ·rename_i h1
   split at h
   ·cases h
   ·rename_i h2
    have h3:cG l=0:=by simpa using h1
    have h4:(inB a 0 (l.skis-1)&&inB b 0 (l.skis-1))=true:=by simpa using h2
    rw[Bool.and_eq_true] at h4;exact⟨dG.1 h3,h4⟩
 ·rintro⟨h1,h2,h3⟩;rw[if_neg (by simpa using dG.2 h1),if_neg (by simp[h2,h3])]
theorem two_ok(w:World)(lo hi:Nat)(l:Lb)(v:Value)(a b:Int)(h:RdR w lo hi v l.runs)(hc0:nF l a b=0):Ca Tryz.prog 74 [.agg (lbC l v).toArray,.int .i64 a,.int .i64 b] w fun x w'=>∃d:Nat,x= .tuple #[aB8 d,.int .i64 0]∧Sat w M0 [.pt d (dkC l v l.ord) 134] w':=by
 obtain⟨hl,ha,hb⟩:=mI.1 hc0;have h0:=hl.s0;have h1:=hl.s1;refine cM (Sat.nil w M0) Tryz.func74 J (by simp[Tryz.ntmps74]) ?_;(refine aD (aB ?_));refine bN J J (fun b3=> ?_);rw[bG];(refine aA1 vq (aA1 vq (aE (aD (aB ?_))));refine aM qE J J J ?_);refine bB (β:=Nat) qE [] _ M0 J J J J (Sp.refl _) qJ (fun w' hs=>nE w' lo hi l v (RdE.keep h hs.chg0) hl) ?_;rintro d _ rfl;dsimp only[List.cons_append,List.nil_append];(refine aA1 vq (aA7 yq (aA7 yq (aA1 vq (aA1 vq (aE (aD (aD (aB (aA1 vq (aA8 yq qG (aA1 vq ?_)))))))))));refine aC J (aA1 vq (aC J (aA1 vq (aC J ?_))));refine aL qE J J J ?_;refine aC J (aA4 xq qG qG (aC J ?_)));refine aI (val:= .bool true) qE J J J J (fun w hs=> ?_) ?_;exact by have:=cL a 0 (l.skis-1) w;rw[ha] at this;exact this
 (refine aC J (aA1 vq (aC J (aA1 vq (aC J (aA1 vq (aC J (aA1 vq (aC J ?_))))))));refine aL qE J J J ?_;refine aC J (aA4 xq qG qG (aC J ?_)))
 refine aI (val:= .bool true) qE J J J J (fun w hs=> ?_) ?_;exact by have:=cL b 0 (l.skis-1) w;rw[hb] at this;exact this
 (refine aC J (aA1 vq (aC J (aA1 vq (aA1 vq (aE (aF J (aJ (aD (aB ?_)))))))));(iterate 4 refine aA1 vq ?_);refine aE (aQ ?_))
 refine aA2 wq qF fun w hs=> ?_;exact⟨d,J,hs.sp qF⟩
def pIx(n:Int):Value→Bool
 | .int _ i=>inB i 0 (n-1)
 | _=>false
theorem chain1_p(w:World)(c:List Int)(l:Lb)(a:Option Addr)(cp b t:Nat)(hn:l.runs.length≤1000)(hb:Blk w b (lbC l (.slice a l.runs.length cp)) t):PredAt Tryz.prog tab w (.func (.func 86) #[] #[aB8 b]) (bF c) (pIx l.runs.length):=by
 refine⟨_,_,_,J,J,fun w' hw' x hx=> ?_⟩;have hb':=hb.keep hw';obtain⟨i,hi,rfl⟩:=List.mem_map.1 hx;refine cM (Sat.nil w' M0) Tryz.func86 J (by simp[Tryz.ntmps86]) ?_;(refine aD (aB (aA1 vq (aE (aD (aB (aA1 vq (aA1 vq ?_)))))));refine fB qE J J J (by assumption) (by rfl) ?_;refine aA1 vq (aA4 xq qG qG ?_));refine aI (val:= .bool (inB i 0 (l.runs.length-1))) qE J J J J (fun w hs=> ?_) ?_;exact cL i 0 (l.runs.length-1) w;(refine aA1 vq (aE (aQ ?_)));refine aA2 wq qF fun w hs=> ?_;exact⟨J,hs.chg0⟩
theorem lead_step{l:Lb}(hl:l.Ok)(a:Int)(i:Int)(c:List Int)(hi0:0≤i)(hi:i.toNat<l.runs.length):eD l a (i::c)=match lH l.err l.runs[i.toNat] with
  | none=>none
  | some p=>if p.1=a then eD l p.2 c else none:=by
 have hr:=hl.run _ (List.getElem_mem hi);have e:l.runs.getD i.toNat ⟨0,0,0⟩=l.runs[i.toNat]:=by rw[List.getD_eq_getElem?_getD,List.getElem?_eq_getElem hi];rfl
 rw[eD,e,mY];cases hx:lH l.err l.runs[i.toNat] with
 | none=>rfl
 | some p=>
  have hp:0≤p.1∧0≤p.2:=by
   have h1:=hr.a0;have h2:=hr.b0;unfold lH at hx;split at hx
   ·cases hx;exact⟨h1,h2⟩
   ·split at hx
    ·cases hx;exact⟨h2,h1⟩
    ·cases hx
  show(if((p.1.toNat:Nat):Int)=a then eD l ((p.2.toNat:Nat):Int) c else none)=_
  rw[Int.toNat_of_nonneg hp.1,Int.toNat_of_nonneg hp.2]
theorem pIx_all(c:List Int)(n:Int):(bF c).all (pIx n)=c.all fun i=>inB i 0 (n-1):=by
 unfold bF;rw[List.all_map]
 rfl
theorem chain_no{l:Lb}{a b:Int}{c:List Int}(h2:nF l a b≠0):chainV l a b c=(false,nF l a b):=by unfold chainV;rw[if_pos h2]
theorem chain_un{l:Lb}{a b:Int}{c:List Int}(h2:nF l a b=0)(ha:(c.all fun i=>inB i 0 (l.runs.length-1))=false):chainV l a b c=(false,1):=by unfold chainV;rw[if_neg (by simpa using h2),if_pos ha]
theorem gY{l:Lb}{a b:Int}{c:List Int}(h2:nF l a b=0)(ha:(c.all fun i=>inB i 0 (l.runs.length-1))=true):chainV l a b c=((match eD l a c with|none=>false|some x=>decide (x=b)&&(!c.isEmpty&&true)),0):=by unfold chainV;rw[if_neg (by simpa using h2),if_neg (by simp[ha])];rfl
theorem pC(w:World)(lo hi lo2 hi2:Nat)(l:Lb)(v:Value)(a b:Int)(u:Value)(c:List Int)(h:RdR w lo hi v l.runs)(hlen:l.runs.length≤maxLen)(hu:RdI w lo2 hi2 u c)(hc:c.length≤1000000):Ca Tryz.prog 24 [.agg (lbC l v).toArray,.int .i64 a,.int .i64 b,u] w fun x w'=>x= .tuple #[.bool (chainV l a b c).1,.int .i64 (chainV l a b c).2]∧Chg [] w w':=by
 obtain⟨va,vc,rfl,hva⟩:=RdR.outI h;obtain⟨ua,uc,rfl,hua⟩:=RdI.outI hu;refine cM (Sat.nil w M0) Tryz.func24 J (by simp[Tryz.ntmps24]) ?_;(refine aD (aB ?_));refine bN J J (fun b4=> ?_);rw[bG];(refine aA1 vq (aA1 vq (aE (aD (aB ?_))));refine aM qE J J J ?_;refine aA1 vq (aA1 vq ?_));by_cases h2:nF l a b=0
 ·obtain⟨hl,ha,hb⟩:=mI.1 h2;have hl40:=hl.len;refine bB (β:=Nat) qE [] _ M0 J J J J (Sp.refl _) qJ (fun w' hs=>two_ok w' lo hi l _ a b (RdE.keep h hs.chg0) h2) ?_;rintro d _ rfl;dsimp only[List.cons_append,List.nil_append];(refine aA1 vq (aA7 yq (aA7 yq (aA1 vq (aA1 vq (aE (aD (aK (aD (aB (aA1 vq (aB1 yq qG ?_)))))))))));refine aA1 vq (aE (aF J (aD (aB (aA1 vq (aA1 vq ?_)))))));refine aI (val:= .bool (c.all fun i=>inB i 0 (l.runs.length-1))) qE J J J J (fun w hs=> ?_) ?_;exact by have:=all_int w lo2 hi2 _ _ (bF c) (pIx l.runs.length) (RdE.keep hu hs.chg0) (by intro i hi;simp[bF,dA]) (by simp[bF];omega) (chain1_p w c l va vc b4 _ qG (hs.blk qF));rw[pIx_all] at this;exact this
  (refine aA1 vq (aA1 vq (aE ?_)))
  cases hal:(c.all fun i=>inB i 0 (l.runs.length-1)) with
  | false=>
   (refine aH J (aD (aB (aA1 vq (aA1 vq (aE (aQ ?_)))))))
   refine aA2 wq qF fun w hs=> ?_;exact⟨by rw[chain_un h2 hal];rfl,hs.chg0⟩
  | true=>
   (refine aF J (aJ (aW (aD (aB (aA1 vq (aA1 vq (aE (aD (aD (aB ?_))))))))));(iterate 3 refine aA1 vq ?_);refine aE (aK ?_))
   refine bD (σ:=Nat×Int) (fun s=>s.1≤c.length∧eD l s.2 (c.drop s.1)=eD l a c) (fun s=>c.length-s.1)
    (fun s=>[(2,.int .i64 b),(3,.slice ua c.length uc),(10,aB8 d),(12,.int .i64 s.2),(34,.slice ua c.length uc),(35,.int .i64 c.length),(36,.int .i64 s.1)])
    (fun _=>[.pt d (dkC l (.slice va l.runs.length vc) l.ord) 134]) (0,a) ⟨by omega,rfl⟩ ⟨rfl,rfl,rfl,rfl,rfl,rfl,rfl,trivial⟩ qF ?_
   rintro⟨j,x⟩ ⟨hj,hx⟩ K hK;dsimp only at hj hx ⊢;(refine aD (aB (aA1 vq (aE (aD ?_)))));refine cP J (fun hc=> ?_) (fun hc=> ?_)
   ·have hj2:j<c.length:=by omega
    clear hc;(refine aJ (aD (aK (aD (aB ?_)))));obtain⟨ub,uo,rfl⟩:=hua qG;refine aA5 uq qG qG ?_;refine bC qE J J J (fun w hs=>RdI.at (RdE.keep hu hs.chg0) j hj2) ?_;have hall:=bX.1 (List.all_eq_true.1 hal _ (List.getElem_mem hj2));generalize hik:c[j]=i at hall ⊢;obtain⟨k,rfl⟩:=Int.eq_ofNat_of_zero_le hall.1;have hi2:k<l.runs.length:=by omega
    have hstep:=lead_step hl x k (c.drop (j+1)) hall.1 hi2;have hd:=List.drop_eq_getElem_cons hj2;rw[hik] at hd;rw[←hd,hx] at hstep;simp only[Int.toNat_natCast] at hstep;(refine aA1 vq (aE (aD (aB ?_)));(iterate 3 refine aA1 vq ?_);refine aM qE J J J ?_;refine aA1 vq ?_);refine aI (val:=shO (lH l.err l.runs[k])) qE J J J J (fun w hs=> ?_) ?_;exact mU w lo hi l _ (RdE.keep h hs.chg0) ⟨hl.e0,hl.e1⟩ k hi2;cases hr:lH l.err l.runs[k] with
    | none=>
     dsimp only[shO];(refine aA1 vq (aA7 yq (aA7 yq ?_)));refine bJ kY J (fun b15=> ?_);(refine aA6 uq qF J ?_;refine aA1 vq (aE (aD (aD (aB ?_))));(iterate 3 refine aA1 vq ?_);(iterate 4 refine aA3 zq ?_);refine aA1 vq (aE (aH J (aD (aB (aA1 vq (aA1 vq (aE (aQ ?_)))))))));refine aA2 wq qF fun w hs=> ?_
     exact⟨by rw[gY h2 hal,hstep,hr];rfl,hs.chg0⟩
    | some p=>
     rw[hr] at hstep;dsimp only at hstep;dsimp only[shO];(refine aA1 vq (aA7 yq (aA7 yq ?_)));refine bJ kY J (fun b15=> ?_);(refine aA6 uq qF J ?_;refine aA1 vq (aE (aD (aD (aB ?_))));(iterate 3 refine aA1 vq ?_);refine aC J (aA1 vq (aC J ?_));refine aL qE J J J ?_;refine aC J (aA1 vq (aC J (aA1 vq (aA1 vq (aE ?_))))));refine q_ifn J (fun hc=> ?_) (fun hc=> ?_)
     ·have hp:¬p.1=x:=by simpa using hc
      rw[if_neg hp] at hstep;(refine aD (aB (aA1 vq (aA1 vq (aE (aQ ?_))))));refine aA2 wq qF fun w hs=> ?_
      exact⟨by rw[gY h2 hal,hstep];rfl,hs.chg0⟩
     ·have hp:p.1=x:=by simpa using hc
      rw[if_pos hp] at hstep;(refine aJ (aB (aA1 vq ?_));refine aL qE J J J ?_;refine aA1 vq (aE (aW (aB (aA4 xq qG qG (aA1 vq (aE ?_)))))));exact hK (j+1,p.2) _ _ ⟨by simp only;omega,hstep.symm⟩ (by simp only;omega) ⟨J,J,J,J,J,J,J,trivial⟩ qF
   ·have hjn:j=c.length:=by omega
    subst hjn;rw[List.drop_length] at hx;have e:eD l a c=some x:=hx.symm;by_cases hxb:x=b
    ·cases c with
     | nil=>
      (refine aZ _ J (aD (aB (aA1 vq (aA1 vq (aA8 yq qG (aA1 vq (aC J (aA1 vq (aC J (aA1 vq (aC J ?_)))))))))));refine aB3 yq qG ?_;(iterate 3 refine aA1 vq ?_);refine aE (aQ ?_))
      refine aA2 wq qF fun w hs=> ?_;exact⟨by rw[gY h2 hal,e];simp[eW],hs.chg0⟩
     | cons c0 c=>
      (refine aZ _ J (aD (aB (aA1 vq (aA1 vq (aA8 yq qG (aA1 vq (aC J (aA1 vq (aC J (aA1 vq (aC J ?_)))))))))));(iterate 4 refine aA1 vq ?_);refine aE (aQ ?_))
      refine aA2 wq qF fun w hs=> ?_;exact⟨by rw[gY h2 hal,e];simp[eW,hxb],hs.chg0⟩
    ·(refine aZ _ J (aD (aB (aA1 vq (aA1 vq (aA9 yq qG (aA1 vq ?_))))));(iterate 3 refine aA3 zq ?_);(iterate 3 refine aA1 vq ?_);refine aE (aQ ?_))
     refine aA2 wq qF fun w hs=> ?_;exact⟨by rw[gY h2 hal,e];simp[eW,hxb],hs.chg0⟩
 ·refine bB (β:=Option Addr) qE [] _ M0 J J J J (Sp.refl _) qJ (fun w' hs=>two_no w' lo hi l _ a b (RdE.keep h hs.chg0) hlen h2) ?_;rintro p _ rfl;dsimp only[List.cons_append,List.nil_append];(refine aA1 vq (aA7 yq (aA7 yq (aA1 vq (aA1 vq (aE (aD (aK (aD (aB (aA1 vq (aB0 yq qG ?_)))))))))));refine aA1 vq (aE (aH J (aD (aB ?_))));(iterate 3 refine aA1 vq ?_);refine aE (aQ ?_));refine aA2 wq qF fun w hs=> ?_;exact⟨by rw[chain_no h2];rfl,hs.chg0⟩
end Go.Proofs.YtoljppohibpenaaGreat
namespace Go.Eng
set_option maxRecDepth 4000
open Go Go.RowKit
section
variable {P : Program} {T : Tab}
variable {ro : Cx} {n : Nat} {F : Fin} {w0 : World} {M : Nat → Prop} {k : List It} {ops : Array Oper} {rest : List Oper} {e : Env} {H Hq : List Ck}
theorem own_set{w':World}{et sz g m c i:Nat}{xs:List Value}{u:Value}{cur:Array Value}(hl:xs.length=m*sz)(hg:0≤g)(hnc:m≤c)(hcm:c≤maxLen)(hcs:cur.size=c*sz)(ht:cur.toList.take (m*sz)=xs)
  (hb':Blk w' g (cur.toList.set i u) et):w'.ownsRow 0 et sz (aB7 g m c) m (xs.set i u):=by
 refine⟨by simpa using hl,.inr ⟨g,c,(cur.toList.set i u).toArray,J,hg,by simpa[Blk] using hb',hnc,hcm,by simpa using hcs,?_⟩⟩;simp only[List.toList_toArray];rw[List.take_set,ht]
theorem qf_storeWs(hT:T.Ok P){t:Nat}{x y:Operand}{g off m c et sz:Nat}{xs:List Value}{u:Value}{H':List Ck}{ty:TypeId}{pos:String}{af:Array Edge}(i:Nat)
  (hx:opv e x=some (.pointer (some ⟨g,off,none⟩))) (hy:opv e y=some u) (h1:has T.one t=true) (hv:dA u=true)
  (hr:Rp H (.ow (aB7 g m c) et sz m xs) (.ow (aB7 g m c) et sz m (xs.set i u)) H') (ho:off=i) (hi:i<xs.length)
  (h:QF P ro n F w0 M k ops Hq rest e H'):QF P ro n F w0 M k ops Hq (⟨none,.store t x y,ty,pos,af,none⟩::rest) e H:= .mk fun w hs=>by
 subst ho;obtain⟨hl,h2⟩:w.ownsRow 0 et sz (aB7 g m c) m xs:=hs.mem (hr.app Hq).mem;rcases h2 with⟨hv',_⟩|⟨g',cap,cur,hv',hg,hh,hnc,hcm,hcs,ht⟩
 ·cases hv'
 cases hv'
 have hb:Blk w g cur.toList et:=by simpa[Blk] using hh
 have hcl:off<cur.toList.length:=by
  have:=congrArg List.length ht;rw[List.length_take] at this;omega
 refine yf_store1 hT hx hy h1 hv hb hcl (fun w' hc _ hb'=> ?_)
 have hs':=hs.rep (hr.app Hq) hc (fun k hk=>by
  obtain rfl:k=g:=by simpa using hk
  rfl) (own_set hl hg hnc hcm hcs ht hb') (fun b hb2=>by
  have:b=g:=by simpa[Ck.D,Value.ownBlock] using hb2.symm
  subst this;exact⟨.inl rfl,hb'.lt⟩)
 exact⟨hs'.right,h.h w' hs'⟩
theorem run_part{t et sz:Nat}(hu:P.underlying t=some (.slice et))(hsz:(P.info? et).map (·.size)=some sz){b off len cap:Nat}{kl kh:IntKind}{l h:Int}(h0:0≤l)(h1:l<h)(h2:h≤cap)(w:World) :
  (Instr.sliceAt t (.slice (some ⟨b,off,none⟩) len cap) (some (.int kl l)) (some (.int kh h)) none).run P w= .ok (.slice (some ⟨b,off+l.toNat*sz,none⟩) (h.toNat-l.toNat) (cap-l.toNat)) w:=by
 have he:=mL hu;cases hq:P.info? et with
 | none=>simp[hq] at hsz
 | some i=>
  have hi:i.size=sz:=by simpa[hq] using hsz
  subst hi;have hne:¬cap-l.toNat=0:=by omega
  have hne2:¬cap=l.toNat:=by omega
  rw[run_sliceAt_slice w t _ _ _ _ (by rw[he];exact hu),run_slice_lh w t _ len cap (by rw[he];exact hu) kl kh l h h0 qG h2,he];simp[sizeOf,typeInfo,hq,sliced,hne,hne2,Addr.add_lit]
theorem ql_part{d t et sz:Nat}{x lo hi:Operand}{b off len cap:Nat}{kl kh:IntKind}{l h:Int}{ty:TypeId}{pos:String}{af:Array Edge}(hu:P.underlying t=some (.slice et))(hsz:(P.info? et).map (·.size)=some sz)
  (hx:opv e x=some (.slice (some ⟨b,off,none⟩) len cap)) (hl:opv e lo=some (.int kl l)) (hh:opv e hi=some (.int kh h)) (hd:Nat.blt d n=true) (h0:0≤l) (h1:l<h) (h2:h≤cap)
  (hk:QL P ro n F w0 M k ops rest ((d,.slice (some ⟨b,off+l.toNat*sz,none⟩) (h.toNat-l.toNat) (cap-l.toNat))::e) H):QL P ro n F w0 M k ops (⟨some d,.slice t x (some lo) (some hi) none,ty,pos,af,none⟩::rest) e H:= .mk fun w hw=>
 dF (by simp) hd (fun ac hf=>by
  simp only[execOp,hf.op hx];simp[hf.op hl,hf.op hh,run_part hu hsz h0 h1 h2 w]) (hk.h w hw)
theorem RdI.part{w:World}{lo hi b off n c c2 k h m:Nat}{l:List Int}(hr:RdI w lo hi (.slice (some ⟨b,off,none⟩) n c) l)(hk:k<h)(hh:h≤l.length)(hm:m=h-k):RdI w lo hi (.slice (some ⟨b,off+k*1,none⟩) m c2) ((l.drop k).take m):=by
 have hl:((l.drop k).take m).length=m:=by rw[List.length_take,List.length_drop];omega
 have h1:=hr.rd;rw[kI _ (by simp[dA])] at h1
 refine RdI.of (by
  rw[hl];refine⟨by simp[bF,hl];omega,?_⟩;obtain⟨e1,e2⟩:=h1;rcases e2 with⟨h3,h4⟩|⟨b',off',cap,h3,h4,h5⟩
  ·simp at h4;subst h4;simp at hh;omega
  ·injection h3 with e1 e2 e3
   injection e1 with e1
   injection e1 with e1 e2
   subst e1 e2;refine .inr ⟨b,off+k*1,c2,J,fun _=>h4 (by simp;omega),fun j hj=> ?_⟩;have hj2:j<m:=by simp[bF] at hj;omega
   rw[show off+k*1+j=off+(k+j) from by omega,h5 (k+j) (by simp;omega)];simp[bF,List.getElem?_map,List.getElem?_take,List.getElem?_drop,hj2])
end
end Go.Eng
namespace Go.Proofs.YtoljppohibpenaaGreat
open Go Go.Eng
set_option maxRecDepth 4000
open Go Go.Eng
def nS(w:World):Value→List Int
 | .slice (some ⟨b,off,_⟩) n _=>(List.range n).map fun i=>match w.cell? ⟨b,off+i,none⟩ with
  | some (.int _ z)=>z
  | _=>0
 | _=>[]
theorem rowAt_eq{w:World}{lo hi:Nat}{v:Value}{l:List Int}(h:RdI w lo hi v l):nS w v=l:=by
 obtain⟨a,c,rfl,ha⟩:=RdI.outI h;cases l with
 | nil=>
  cases a<;>rfl
 | cons x l=>
  obtain⟨b,off,rfl⟩:=ha (by simp);refine List.ext_getElem (by simp[nS]) (fun i h1 h2=> ?_);have:=RdI.at h i h2;simp only[nS,List.getElem_map,List.getElem_range];rw[Nat.mul_one] at this;rw[this]
theorem rdII_all{w:World}{lo hi:Nat}{ll:List (List Int)}{vs:List Value}(h2:vs.length=ll.length)(h3:∀i (h:i<vs.length) (h':i<ll.length),RdI w lo hi vs[i] ll[i])(p:List Int→Bool):vs.all (fun x=>p (nS w x))=ll.all p:=by
 have e:vs.map (nS w)=ll:=List.ext_getElem (by simp[h2]) (fun i h4 h5=>by
  rw[List.getElem_map];exact rowAt_eq (h3 i (by simpa using h4) h5))
 rw[←e,List.all_map]
 rfl
theorem rdII_mem{w:World}{lo hi:Nat}{ll:List (List Int)}{vs:List Value}(h2:vs.length=ll.length)(h3:∀i (h:i<vs.length) (h':i<ll.length),RdI w lo hi vs[i] ll[i]){x:Value}(hx:x∈vs):RdI w lo hi x (nS w x)∧nS w x∈ll:=by
 obtain⟨i,hi,rfl⟩:=List.mem_iff_getElem.1 hx;have h:=h3 i hi qG;rw[rowAt_eq h];exact⟨h,List.getElem_mem _⟩
def lenP(n:Nat)(row:List Int):Bool:=inB row.length 1 20&&(decide (row.length=n)&&true)
def valP(row:List Int):Bool:=row.all fun n=>inB n 0 10000
theorem table1_p(w:World)(lo hi b t:Nat)(v:Value)(l:List (List Int))(vs:List Value)(hb:Blk w b [v] t)(h:RdII w lo hi v l)(hl:1≤l.length∧l.length≤12)(h2:vs.length=l.length)(h3:∀i (h:i<vs.length) (h':i<l.length),RdI w lo hi vs[i] l[i]) :
    PredAt Tryz.prog tab w (.func (.func 141) #[] #[aB8 b]) vs (fun x=>lenP (l.headD []).length (nS w x)):=by
  refine⟨_,_,_,J,J,fun w' hw' x hx=> ?_⟩;have hb':=hb.keep hw';obtain⟨hr,hm⟩:=rdII_mem h2 h3 hx;dsimp only;generalize hg:nS w x=row at hr hm ⊢;obtain⟨ra,rc,rfl,hra⟩:=RdI.outI hr;obtain⟨a,c,rfl,ha⟩:=RdII.outI h;obtain⟨vb,vo,rfl⟩:=ha qG;obtain⟨a0,c0,hr0,hc0⟩:=RdII.row h 0 qG
  have e0:l.headD []=l[0]:=by cases l with
    | nil=>simp at hl
    | cons x l=>rfl
  refine cM (Sat.nil w' M0) Tryz.func141 J (by simp[Tryz.ntmps141]) ?_;(refine aD (aB (aA1 vq (aE (aD (aB (aA1 vq (aA1 vq ?_))))))));refine aI (val:= .bool (inB row.length 1 20)) qE J J J J (fun w hs=> ?_) ?_;exact cL row.length 1 20 w;(refine aA1 vq ?_);cases h1:inB row.length 1 20 with
  | false=>
    ((iterate 7 refine aA3 zq ?_);refine aA1 vq (aA1 vq (aE (aQ ?_))))
    refine aA2 wq qF fun w hs=> ?_;exact⟨by simp[lenP,h1,eW],hs.chg0⟩
  | true=>
    (refine aC J (aA1 vq (aC J (aA1 vq (aC J ?_))));refine fB qE J J J (by assumption) (by rfl) ?_;refine aC J ?_)
    refine aA5 uq qG qG ?_;(refine aC J ?_);refine bC qE J J J (fun w hs=>hc0 _ (hw'.trans hs.chg0)) ?_;(refine aC J (aA1 vq (aC J ?_));(iterate 3 refine aA1 vq ?_);refine aE (aQ ?_));refine aA2 wq qF fun w hs=> ?_;exact⟨by rw[e0];simp only[lenP,h1,eW,Bool.true_and,Bool.and_true,Value.bool.injEq];exact decide_eq_decide.2 qG,hs.chg0⟩
theorem table3_p(w:World)(c:List Int):PredAt Tryz.prog tab w (.func (.func 143) #[] #[]) (bF c) (fun x=>match x with | .int _ i=>inB i 0 10000|_=>false):=by
 refine⟨_,_,_,J,J,fun w' hw' x hx=> ?_⟩;obtain⟨i,hi,rfl⟩:=List.mem_map.1 hx;refine cM (Sat.nil w' M0) Tryz.func143 J (by simp[Tryz.ntmps143]) ?_;(refine aD (aB (aA1 vq (aE (aD (aB (aA1 vq ?_)))))));refine aI (val:= .bool (inB i 0 10000)) qE J J J J (fun w hs=> ?_) ?_;exact cL i 0 10000 w;(refine aA1 vq (aE (aQ ?_)));refine aA2 wq qF fun w hs=> ?_;exact⟨J,hs.chg0⟩
theorem table2_p(w:World)(lo hi:Nat)(l:List (List Int))(vs:List Value)(hl:∀row∈l,row.length≤20)(h2:vs.length=l.length)(h3:∀i (h:i<vs.length) (h':i<l.length),RdI w lo hi vs[i] l[i]) :
  PredAt Tryz.prog tab w (.func (.func 142) #[] #[]) vs (fun x=>valP (nS w x)):=by
 refine⟨_,_,_,J,J,fun w' hw' x hx=> ?_⟩;obtain⟨hr,hm⟩:=rdII_mem h2 h3 hx;dsimp only;generalize hg:nS w x=row at hr hm ⊢;have hr20:=hl row hm;obtain⟨ra,rc,rfl,hra⟩:=RdI.outI hr;refine cM (Sat.nil w' M0) Tryz.func142 J (by simp[Tryz.ntmps142]) ?_;(refine aD (aB (aA1 vq (aE (aD (aB (aA1 vq ?_)))))));refine aI (val:= .bool (valP row)) qE J J J J (fun w hs=> ?_) ?_;exact by have:=all_int w lo hi _ _ (bF row) _ (RdE.keep hr (hw'.trans hs.chg0)) (by intro i hi;simp[bF,dA]) (by simp[bF];omega) (table3_p w row);unfold bF at this;rw[List.all_map] at this;exact this
 (refine aA1 vq (aE (aQ ?_)))
 refine aA2 wq qF fun w hs=> ?_;exact⟨J,hs.chg0⟩
theorem pX(w:World)(lo hi:Nat)(v:Value)(l:List (List Int))(h:RdII w lo hi v l):Ca Tryz.prog 106 [v] w fun x w'=>x= .int .i64 (cY l)∧Chg [] w w':=by
 obtain⟨a,c,rfl,ha⟩:=RdII.outI h;obtain⟨vs,hv1,hv2,hv3⟩:=h
 have hone:∀i (hi:i<vs.length),dA vs[i]=true:=fun i hi=>by
  obtain⟨a,c,e,_⟩:=RdI.outI (hv3 i hi qG);rw[e]
  rfl
 refine cM (Sat.nil w M0) Tryz.func106 J (by simp[Tryz.ntmps106]) ?_;(refine aD (aB ?_));refine bN J J (fun b1=> ?_);(refine aA1 vq (aE (aD (aK (aD (aB ?_)))));refine aL qE J J J ?_;refine aA1 vq ?_);refine aI (val:= .bool (inB l.length 1 12)) qE J J J J (fun w hs=> ?_) ?_;exact cL l.length 1 12 w;(refine aA1 vq (aA1 vq ?_));cases h1:inB l.length 1 12 with
 | false=>
  ((iterate 4 refine aA3 zq ?_);refine aA1 vq (aA1 vq (aE (aH J (aD (aB (aA1 vq (aE (aQ ?_)))))))))
  refine aA2 wq qF fun w hs=> ?_;exact⟨by simp[eW,cY,h1],hs.chg0⟩
 | true=>
  have h1':=bX.1 h1;(refine aC J ?_;refine aL qE J J J ?_;refine aC J (aA1 vq (aC J ?_)));refine aI (val:= .bool (l.all (lenP (l.headD []).length))) qE J J J J (fun w hs=> ?_) ?_;exact by have:=all_ints w lo hi _ _ vs _ (hv1.keep hs.chg0) hone qG (table1_p w lo hi b1 _ _ l vs (hs.blk qF) ⟨vs,hv1.keep hs.chg0,hv2,fun i hi hi'=>(hv3 i hi hi').keep hs.chg0⟩ qG hv2 (fun i hi hi'=>(hv3 i hi hi').keep hs.chg0));rw[rdII_all hv2 (fun i hi hi'=>(hv3 i hi hi').keep hs.chg0)] at this;exact this
  (refine aC J ?_;(iterate 3 refine aA1 vq ?_);refine aE ?_)
  cases h4:l.all (lenP (l.headD []).length) with
  | false=>
   have e:cY l=2:=by show(if(inB l.length 1 12&&l.all (lenP (l.headD []).length))=false then(2:Int) else if l.all valP=false then 3 else 0)=2;rw[if_pos (by rw[h1];exact h4)]
   (refine aH J (aD (aB (aA1 vq (aE (aQ ?_))))))
   refine aA2 wq qF fun w hs=> ?_;exact⟨by rw[e];rfl,hs.chg0⟩
  | true=>
   have hl20:∀row∈l,row.length≤20:=fun row hm=>by
    have:=List.all_eq_true.1 h4 row hm;simp only[lenP,Bool.and_eq_true] at this;have:=bX.1 this.1;omega
   (refine aF J (aD (aB ?_));refine aL qE J J J ?_)
   refine aI (val:= .bool (l.all valP)) qE J J J J (fun w hs=> ?_) ?_;exact by have:=all_ints w lo hi _ _ vs _ (hv1.keep hs.chg0) hone qG (table2_p w lo hi l vs hl20 hv2 (fun i hi hi'=>(hv3 i hi hi').keep hs.chg0));rw[rdII_all hv2 (fun i hi hi'=>(hv3 i hi hi').keep hs.chg0)] at this;exact this
   (refine aA1 vq (aA1 vq (aE ?_)))
   have hn:¬(inB l.length 1 12&&l.all (lenP (l.headD []).length))=false:=by rw[h1,h4];simp
   cases h5:l.all valP with
   | false=>
    have e:cY l=3:=by show(if(inB l.length 1 12&&l.all (lenP (l.headD []).length))=false then(2:Int) else if l.all valP=false then 3 else 0)=3;rw[if_neg hn,if_pos h5]
    (refine aH J (aD (aB (aA1 vq (aE (aQ ?_))))))
    refine aA2 wq qF fun w hs=> ?_;exact⟨by rw[e];rfl,hs.chg0⟩
   | true=>
    have h6:¬l.all valP=false:=by rw[h5];simp
    have e:cY l=0:=by show(if(inB l.length 1 12&&l.all (lenP (l.headD []).length))=false then(2:Int) else if l.all valP=false then 3 else 0)=0;rw[if_neg hn,if_neg h6]
    (refine aF J (aJ (aW (aD (aB (aA1 vq (aE (aQ ?_))))))))
    refine aA2 wq qF fun w hs=> ?_;exact⟨by rw[e];rfl,hs.chg0⟩
theorem maxF_snoc(a:Int)(l:List Int)(x:Int):maxF a (l++[x])=max (maxF a l) x:=by simp[maxF,List.foldl_append]
theorem minF_snoc(a:Int)(l:List Int)(x:Int):minF a (l++[x])=min (minF a l) x:=by simp[minF,List.foldl_append]
theorem maxI_ca(w:World)(lo hi:Nat)(v:Value)(x:Int)(l:List Int)(h:RdI w lo hi v (x::l))(hl:l.length≤1000000):Ca Tryz.prog 144 [v] w fun r w'=>r= .int .i64 (maxF x l)∧Chg [] w w':=by
 obtain⟨a,c,rfl,ha⟩:=RdI.outI h;obtain⟨b,off,rfl⟩:=ha (by simp);generalize hn:(x::l).length=n;have hn':n=l.length+1:=by rw[←hn];rfl
 rw[hn] at h;refine cM (Sat.nil w M0) Tryz.func144 J (by simp[Tryz.ntmps144]) ?_;(refine aD (aB (aA1 vq (aE (aD (aD (aB (aA1 vq (aA1 vq (cS qE J J J qG (aE (aF J ?_)))))))))));refine aJ (aD (aB (aA1 vq ?_))));refine aA5 uq qG qG ?_;refine bC (v:= .int .i64 x) qE J J J (fun w hs=>RdI.at (RdE.keep h hs.chg0) 0 (by simp)) ?_;(refine aA1 vq (aE (aD (aD (aB (aA1 vq (aE (aK ?_))))))));refine bD (σ:=Nat) (fun s=>s≤l.length) (fun s=>l.length-s) (fun s=>[(0,.slice (some ⟨b,off,none⟩) n c),(3,.int .i64 (maxF x (l.take s))),(4,.int .i64 (s+1))]) (fun _=>[]) 0 qG ⟨J,J,J,trivial⟩ qF ?_;rintro s hs1 K hK;(refine aD (aD (aB ?_));(iterate 4 refine aA1 vq ?_);refine aE ?_);refine cP J (fun hc=> ?_) (fun hc=> ?_)
 ·have hs2:s<l.length:=by omega
  clear hc;(refine aJ (aD (aK (aB ?_)));(iterate 3 refine aA1 vq ?_));refine aA5 uq qG qG ?_
  refine bC (v:= .int .i64 l[s]) qE J J J (fun w hs=>by
   have h1:=RdI.at (RdE.keep h hs.chg0) (s+1) (by simp;omega);rw[List.getElem_cons_succ] at h1;have e:((s:Int)+1).toNat=s+1:=by omega
   rw[e];exact h1) ?_
  (refine aA1 vq (aA1 vq (aE (aW (aB (aA1 vq (aA4 xq qG qG (aA1 vq (aE ?_)))))))))
  exact hK (s+1) _ _ qG qG ⟨J,by
   rw[List.take_succ_eq_append_getElem hs2,maxF_snoc]
   rfl,rfl,trivial⟩ qF
 ·have hsn:s=l.length:=by omega
  subst hsn;rw[List.take_length];(refine aZ _ J (aD (aB (aA1 vq (aA1 vq (aE (aQ ?_)))))));refine aA2 wq qF fun w hs=> ?_
  exact⟨J,hs.chg0⟩
def wxV(most:Int)(v:Value):Value:= .agg #[v,.int .i64 most]
theorem greatest_ca(w:World)(lo hi:Nat)(v:Value)(most:Int)(row:List Int)(i j:Nat)(h:RdI w lo hi v row)(hcap:∀a n c,v= .slice a n c→n≤c)(hij:i≤j)(hj:j<row.length)(hl:row.length≤1000000) :
  Ca Tryz.prog 110 [wxV most v,.int .i64 i,.int .i64 j] w fun r w'=>r= .int .i64 (topR row i j)∧Chg [] w w':=by
 obtain⟨a,c,rfl,ha⟩:=RdI.outI h;obtain⟨b,off,rfl⟩:=ha qG;have hc:=hcap _ _ _ rfl;have hsp:iS row i j=(row.drop i).take (j+1-i):=rfl;cases hx:iS row i j with
 | nil=>
  exfalso;have:=congrArg List.length hx;rw[hsp,List.length_take,List.length_drop] at this;simp at this;omega
 | cons x l=>
  have e:topR row i j=maxF x l:=by unfold topR;rw[hx]
  have hlen:l.length+1=j+1-i:=by
   have:=congrArg List.length hx;rw[hsp,List.length_take,List.length_drop] at this;simp at this;omega
  unfold wxV;refine cM (Sat.nil w M0) Tryz.func110 J (by simp[Tryz.ntmps110]) ?_;(refine aD (aB ?_));refine bN J J (fun b3=> ?_);(refine aA1 vq (aE (aD (aB (aA1 vq ?_))));refine aL qE J J J ?_;refine aA1 vq (aA1 vq (aA4 xq qG qG ?_)));refine ql_part (et:=3) (sz:=1) qI qI J J J J qG qG qG ?_;refine aI (val:= .int .i64 (maxF x l)) qE J J J J (fun w hs=> ?_) ?_;exact maxI_ca w lo hi _ x l (by have:=RdI.part (c2:=c-i) (RdE.keep h hs.chg0) (k:=i) (h:=j+1) (m:=j+1-i) qG qG rfl;rw[←hsp,hx] at this;exact this) qG;(refine aA1 vq (aE (aQ ?_)));refine aA2 wq qF fun w hs=> ?_
  exact⟨by rw[e];rfl,hs.chg0⟩
theorem slW:SlT Tryz.prog 159 162 2 32 (.agg #[.slice none 0 0,.int .i64 0]):=⟨by kernel_rfl,by kernel_rfl,by kernel_rfl,by decide⟩
def wxC(most:Int)(xs:List (Value×List Int)):List Value:=xs.flatMap fun p=>[p.1,.int .i64 most]
theorem wxC_len(most:Int)(xs:List (Value×List Int)):(wxC most xs).length=xs.length*2:=by
 unfold wxC
 induction xs with
 | nil=>rfl
 | cons x xs ih=>simp only[List.flatMap_cons,List.length_append,ih,List.length_cons,List.length_nil];omega
theorem wxC_get(most:Int):∀(xs:List (Value×List Int)) (i:Nat) (hi:i<xs.length),(wxC most xs)[i*2]? =some xs[i].1∧(wxC most xs)[i*2+1]? =some (.int .i64 most)
 | x::xs,0,_=>⟨rfl,rfl⟩
 | x::xs,i+1,hi=>by
  have:=wxC_get most xs i (by simpa using hi);simp only[List.getElem_cons_succ,wxC,List.flatMap_cons] at this ⊢;rw[show(i+1)*2=i*2+1+1 from by omega,show i*2+1+1+1=(i*2+1)+1+1 from rfl];exact this
theorem wxC_set(most:Int):∀(xs:List (Value×List Int)) (i:Nat) (u:Value) (r:List Int),(wxC most xs).set (i*2) u=wxC most (xs.modify i fun _=>(u,r))
 | [],i,u,r=>by simp[wxC]
 | x::xs,0,u,r=>rfl
 | x::xs,i+1,u,r=>by
  have:=wxC_set most xs i u r;simp only[wxC,List.flatMap_cons] at this ⊢;rw[show(i+1)*2=i*2+1+1 from by omega];simp only[List.cons_append,List.nil_append,List.set_cons_succ,this,List.modify_succ_cons,List.flatMap_cons]
theorem lO{w:World}{et sz g m c:Nat}{xs:List Value}(h:w.ownsRow 0 et sz (aB7 g m c) m xs)(i:Nat){x:Value}(hi:xs[i]? =some x):w.cell? ⟨g,i,none⟩=some x:=by
 obtain⟨hl,h2⟩:=h;rcases h2 with⟨hv',_⟩|⟨g',cap,cur,hv',hg,hh,hnc,hcm,hcs,ht⟩
 ·cases hv'
 cases hv'
 have hb:Blk w g cur.toList et:=by simpa[Blk] using hh
 have hl2:=(List.getElem?_eq_some_iff.1 hi).1;rw[Blk.cell hb i,←hi,←ht,List.getElem?_take,if_pos qG]
theorem wx_len{w:World}{et:Nat}{v:Value}{m:Nat}{most:Int}{xs:List (Value×List Int)}(h:w.ownsRow 0 et 2 v m (wxC most xs)):m=xs.length:=by
 have:=h.1;rw[wxC_len] at this;omega
theorem erase_perm{α:Type}:∀(l:List α) (j:Nat) (h:j<l.length),l.Perm (l[j]::l.eraseIdx j)
 | a::l,0,_=> .refl _
 | a::l,j+1,h=>by
  have:=erase_perm l j (by simpa using h);simp only[List.getElem_cons_succ,List.eraseIdx_cons_succ];exact(this.cons a).trans (.swap _ _ _)
section
variable {t : Nat}
theorem rowsO_out(Y:List (Value×List Int))(j:Nat)(hj:j<Y.length):(cF t Y).Perm (.ow Y[j].1 t 1 Y[j].2.length (bF Y[j].2)::cF t (Y.eraseIdx j)):=(erase_perm Y j hj).map _
theorem rows_out{w0 w:World}{M:Nat→Prop}{R:List Ck}{Y:List (Value×List Int)}(j:Nat)(hj:j<Y.length)(h:Sat w0 M (un (cF t Y)::R) w):Sat w0 M (.ow Y[j].1 t 1 Y[j].2.length (bF Y[j].2)::un (cF t (Y.eraseIdx j))::R) w:=by
 have h1:=Sat.un_iff.1 (Sat.un_perm (rowsO_out Y j hj) h);rw[List.cons_append] at h1;have h2:Sat w0 M (cF t (Y.eraseIdx j)++(.ow Y[j].1 t 1 Y[j].2.length (bF Y[j].2)::R)) w:=h1.perm List.perm_middle.symm;exact(Sat.un_iff.2 h2).perm (.swap _ _ _)
theorem rows_put{w0 w:World}{M:Nat→Prop}{R:List Ck}{Y:List (Value×List Int)}(j:Nat)(hj:j<Y.length)(u:Value)(l:List Int)(h:Sat w0 M (.ow u t 1 l.length (bF l)::un (cF t (Y.eraseIdx j))::R) w):Sat w0 M (un (cF t (Y.modify j fun _=>(u,l)))::R) w:=by
 have e:Y.modify j (fun _=>(u,l))=Y.set j (u,l):=List.ext_getElem (by simp) (fun i h1 h2=>by rw[List.getElem_modify,List.getElem_set]);rw[e];have h0:=rowsO_out (t:=t) (Y.set j (u,l)) j (by simpa using hj);simp only[List.getElem_set_self,List.eraseIdx_set_eq] at h0;exact Sat.un_perm h0.symm (Sat.un_in h)
theorem rows_nil{w0 w:World}{M:Nat→Prop}{R:List Ck}(h:Sat w0 M R w):∀n,Sat w0 M (un (cF t (List.replicate n (.slice none 0 0,[])))::R) w
 | 0=>Sat.un_nil h
 | n+1=>Sat.un_in (Sat.ownil (rows_nil h n) t 1)
end
theorem rows_nil'{w0 w:World}{M:Nat→Prop}{R:List Ck}(t:Nat)(h:Sat w0 M R w)(n:Nat):Sat w0 M (un (cF t (List.replicate n (.slice none 0 0,[])))::R) w:=rows_nil h n
def regP(l:List (List Int))(k:Nat)(row:List Int):List Int:=(List.range k).map fun s=>row.getD s 0-lowV l s
theorem regP_succ(l:List (List Int))(k:Nat)(row:List Int):regP l (k+1) row=regP l k row++[row.getD k 0-lowV l k]:=by
 unfold regP;rw[List.range_succ,List.map_append]
 rfl
theorem regP_len(l:List (List Int))(k:Nat)(row:List Int):(regP l k row).length=k:=by simp[regP]
structure RegI(l:List (List Int))(s m:Nat)(xs:List (Value×List Int)):Prop where
 len:xs.length=l.length
 lt:∀i (hi:i<xs.length),i<m→xs[i].2=regP l (s+1) (l.getD i [])
 ge:∀i (hi:i<xs.length),m≤i→xs[i].2=regP l s (l.getD i [])
theorem RegI.next{l:List (List Int)}{s:Nat}{xs:List (Value×List Int)}(h:RegI l s l.length xs):RegI l (s+1) 0 xs:=
 ⟨h.len,fun _ _ h2=>by omega,fun i hi _=>h.lt i hi (by rw[←h.len];exact hi)⟩
theorem RegI.step{l:List (List Int)}{s m:Nat}{xs:List (Value×List Int)}(h:RegI l s m xs)(u:Value){r:List Int}(hr:r=regP l (s+1) (l.getD m [])):RegI l s (m+1) (xs.modify m fun _=>(u,r)):=by
 refine⟨by rw[List.length_modify];exact h.len,fun i hi h2=> ?_,fun i hi h2=> ?_⟩
 ·rw[List.getElem_modify];split
  ·rename_i e;subst e;exact hr
  ·exact h.lt i (by simpa using hi) qG
 ·rw[List.getElem_modify,if_neg qG];exact h.ge i (by simpa using hi) qG
theorem RegI.all{l:List (List Int)}{s:Nat}{xs:List (Value×List Int)}(h:RegI l s 0 xs):xs.map (·.2)=l.map (regP l s):=by
 refine List.ext_getElem (by simp[h.len]) (fun i h1 h2=> ?_);have hi:i<xs.length:=by simpa using h1
 have hi2:i<l.length:=by simpa using h2
 rw[List.getElem_map,List.getElem_map,h.ge i hi qG,List.getD_eq_getElem?_getD,List.getElem?_eq_getElem hi2]
 rfl
theorem gt_get{l:List (List Int)}{i s:Nat}(hi:i<l.length)(hs:s<l[i].length):gt l i s=l[i][s]:=by
 unfold gt;simp only[List.getD_eq_getElem?_getD,List.getElem?_eq_getElem hi,Option.getD_some,List.getElem?_eq_getElem hs]
theorem eI{r:List Int}{s:Nat}(hs:s<r.length):r.getD s 0=r[s]:=by
 simp only[List.getD_eq_getElem?_getD,Option.getD_some,List.getElem?_eq_getElem hs]
theorem RdII.rowS{w:World}{lo hi:Nat}{b off len cap m:Nat}{ll:List (List Int)}(h:RdII w lo hi (.slice (some ⟨b,off,none⟩) len cap) ll)(i:Nat)(hi':i<ll.length)(hm:ll[i].length=m)(hp:0<m) :
  ∃b2 o2 c2,RdI w lo hi (.slice (some ⟨b2,o2,none⟩) m c2) ll[i]∧∀w',Chg [] w w'→w'.cell? ⟨b,off+i*1,none⟩=some (.slice (some ⟨b2,o2,none⟩) m c2):=by
 obtain⟨a,c,h1,h2⟩:=RdII.row h i hi';obtain⟨a',c',e,h3⟩:=RdI.outI h1;obtain⟨b2,o2,e2⟩:=h3 qG;injection e with e3 e4 e5
 subst e3 e2 hm;exact⟨b2,o2,c,h1,h2⟩
theorem low_step(l:List (List Int))(a:Int)(s k:Nat)(hk:k<l.length):minF a ((l.take (k+1)).map fun row=>row.getD s 0)=min (minF a ((l.take k).map fun row=>row.getD s 0)) (l[k].getD s 0):=by
 rw[List.take_succ_eq_append_getElem hk,List.map_append];exact minF_snoc _ _ _
theorem waxes_ca(w:World)(lo hi:Nat)(v:Value)(l:List (List Int))(n:Nat)(most:Int)(h:RdII w lo hi v l)(hl:TabOk l n):Ca Tryz.prog 107 [v,.int .i64 most] w fun x w'=>∃y:Value×List (Value×List Int),(x=y.1∧y.2.map (·.2)=cA l n)∧Sat w M0 [un (cF 3 y.2),.ow y.1 162 2 l.length (wxC most y.2)] w':=by
 obtain⟨a,c,rfl,ha⟩:=RdII.outI h;have hl1:=hl.l1;have hl2:=hl.l2;have hn1:=hl.n1;have hn2:=hl.n2;obtain⟨vb,vo,rfl⟩:=ha qG;refine cM (Sat.nil w M0) Tryz.func107 J (by simp[Tryz.ntmps107]) ?_;(refine aD (aB (aA1 vq (aE (aD (aB (aA1 vq (aE (aD (aD (aB ?_))))))))));(iterate 3 refine aA1 vq ?_);refine aE (aK ?_));refine cQ (H':=[.ow (.slice none 0 0) 162 2 0 (wxC most (List.replicate 0 (.slice none 0 0,[])))]) (fun w' hs=>Sat.ownil hs 162 2) ?_
 refine bD (σ:=Nat×Value) (fun y=>y.1≤l.length) (fun y=>l.length-y.1) (fun y=>[(0,.slice (some ⟨vb,vo,none⟩) l.length c),(1,.int .i64 most),(5,y.2),(13,.int .i64 l.length),(14,.int .i64 y.1)])
  (fun y=>[.ow y.2 162 2 y.1 (wxC most (List.replicate y.1 (.slice none 0 0,[])))]) (0,.slice none 0 0) (by simp only;omega) ⟨rfl,rfl,rfl,rfl,rfl,trivial⟩ qF ?_
 rintro⟨k,u⟩ hk K hK;dsimp only at hk ⊢;(refine aD (aB (aA1 vq (aE (aD ?_)))));refine cP J (fun hc=> ?_) (fun hc=> ?_)
 ·have hk2:k<l.length:=by omega
  clear hc;(refine aJ (aD (aK (aB (aA1 vq (aA1 vq ?_))))));refine dM #[.slice none 0 0,.int .i64 most] J qI J ?_;refine cI 162 [.slice none 0 0,.int .i64 most] J qI J (fun bn=> ?_);refine bU (q:=1) (news:=[.slice none 0 0,.int .i64 most]) slW J J J (fun v'=>by repeat constructor) (fun w' hs=>⟨_,_,Blk.rdN (hs.blk (b:=bn) qF) J⟩) (by simp[dA]) qG qG (fun u'=> ?_);(refine aA1 vq (aE (aW (aB (aA4 xq qG qG (aA1 vq (aE ?_)))))))
  have e:wxC most (List.replicate (k+1) (.slice none 0 0,[]))=wxC most (List.replicate k (.slice none 0 0,[]))++[.slice none 0 0,.int .i64 most]:=by
   rw[List.replicate_succ',wxC,List.flatMap_append]
   rfl
  exact hK (k+1,u') _ _ (by simp only;omega) (by simp only;omega) ⟨J,J,J,J,J,trivial⟩ (by dsimp only;rw[e];repeat constructor)
 ·obtain rfl:k=l.length:=by omega
  clear hc hK hk;refine dO (fun w hs=>hs.ownSome (v:=u) qF qG) ?_;rintro⟨g,cw,rfl⟩;have hrow:∀i (hi:i<l.length),l[i].length=n:=fun i hi=>hl.len _ (List.getElem_mem _)
  obtain⟨a0,o0,c0,hr0,hc0⟩:=RdII.rowS h 0 qG (hrow 0 qG) qG;(refine aZ _ J (aD (aD (aB (aA1 vq ?_)))));refine aA5 uq qG qG ?_;refine bC qE J J J (fun w hs=>hc0 _ hs.chg0) ?_;(refine aA1 vq (aA1 vq (aE (aK ?_))));refine cQ (H':=[un (cF 3 (List.replicate l.length (.slice none 0 0,[]))),.ow (aB7 g l.length cw) 162 2 l.length (wxC most (List.replicate l.length (.slice none 0 0,[])))]) (fun w' hs=>rows_nil' _ (hs.sp qF) _) ?_
  refine bD (σ:=Nat×List (Value×List Int)) (fun y=>y.1≤n∧RegI l y.1 0 y.2) (fun y=>n-y.1) (fun y=>[(0,.slice (some ⟨vb,vo,none⟩) l.length c),(5,aB7 g l.length cw),(25,.int .i64 n),(26,.int .i64 y.1)])
   (fun y=>[un (cF 3 y.2),.ow (aB7 g l.length cw) 162 2 l.length (wxC most y.2)]) (0,List.replicate l.length (.slice none 0 0,[])) ⟨by simp only;omega,⟨by simp,fun _ _ h=>by omega,fun i hi _=>by simp[regP]⟩⟩ ⟨rfl,rfl,rfl,rfl,trivial⟩ qF ?_
  rintro⟨s,xs⟩ ⟨hs1,hI⟩ K hK;dsimp only at hs1 hI ⊢;(refine aD (aB (aA1 vq (aE (aD ?_)))));refine cP J (fun hc=> ?_) (fun hc=> ?_)
  ·have hs2:s<n:=by omega
   clear hc;(refine aJ (aD (aK (aD (aB (aA1 vq (aA1 vq (aE (aD (aB (aA1 vq ?_)))))))))));refine aA5 uq qG qG ?_;refine bC qE J J J (fun w hs=>hc0 _ hs.chg0) ?_;(refine aA1 vq ?_);refine aA5 uq qG qG ?_
   refine bC (v:= .int .i64 (gt l 0 s)) qE J J J (fun w hs=>by
    rw[gt_get qG (by rw[hrow];omega)];exact RdI.at (RdE.keep hr0 hs.chg0) s (by rw[hrow];omega)) ?_
   (refine aA1 vq (aE (aD (aD (aB ?_))));(iterate 3 refine aA1 vq ?_);refine aE (aK ?_))
   refine bD (σ:=Nat) (fun y=>y≤l.length) (fun y=>l.length-y) (fun y=>[(0,.slice (some ⟨vb,vo,none⟩) l.length c),(5,aB7 g l.length cw),(6,.int .i64 s),(7,.int .i64 (minF (gt l 0 s) ((l.take y).map fun row=>row.getD s 0))),(25,.int .i64 n),(26,.int .i64 s),(35,.slice (some ⟨vb,vo,none⟩) l.length c),(36,.int .i64 l.length),(37,.int .i64 y)])
    (fun y=>[un (cF 3 xs),.ow (aB7 g l.length cw) 162 2 l.length (wxC most xs)]) 0 qG ⟨rfl,rfl,rfl,rfl,rfl,rfl,rfl,rfl,rfl,trivial⟩ qF ?_
   rintro y hy K2 hK2;(refine aD (aB (aA1 vq (aE (aD ?_)))));refine cP J (fun hc=> ?_) (fun hc=> ?_)
   ·have hy2:y<l.length:=by omega
    clear hc;obtain⟨b1,o1,c1,hr1,hc1⟩:=RdII.rowS h y hy2 (hrow y hy2) qG;have hys:s<l[y].length:=by rw[hrow y hy2];exact hs2
    (refine aJ (aD (aK (aD (aB ?_)))))
    refine aA5 uq qG qG ?_;refine bC qE J J J (fun w hs=>hc1 _ hs.chg0) ?_;(refine aA1 vq (aE (aB ?_));(iterate 3 refine aA1 vq ?_));refine aA5 uq qG qG ?_;refine bC (v:= .int .i64 l[y][s]) qE J J J (fun w hs=>RdI.at (RdE.keep hr1 hs.chg0) s (by rw[hrow];omega)) ?_;refine cI 3 (bF [l[y][s]]) J qI J (fun bn=> ?_);refine aI (val:= .int .i64 (minF (minF (gt l 0 s) ((l.take y).map fun row=>row.getD s 0)) [l[y][s]])) qE J J J J (fun w hs=> ?_) ?_;exact least_ca w 0 w.heap.size _ _ [l[y][s]] (Blk.rdI (hs.blk qF)) (by simp);(refine aA1 vq (aE (aW (aB (aA4 xq qG qG (aA1 vq (aE ?_)))))));exact hK2 (y+1) _ _ qG qG ⟨J,J,J,by rw[low_step l _ s y hy2,eI (by rw[hrow];omega)];rfl,J,J,J,J,J,trivial⟩ qF
   ·obtain rfl:y=l.length:=by omega
    clear hc hK2 hy;rw[List.take_length];(refine aZ _ J (aD (aB ?_));(iterate 3 refine aA1 vq ?_);refine aE (aK ?_))
    refine bD (σ:=Nat×List (Value×List Int)) (fun y=>y.1≤l.length∧RegI l s y.1 y.2) (fun y=>l.length-y.1) (fun y=>[(0,.slice (some ⟨vb,vo,none⟩) l.length c),(5,aB7 g l.length cw),(6,.int .i64 s),(7,.int .i64 (lowV l s)),(25,.int .i64 n),(26,.int .i64 s),(49,.slice (some ⟨vb,vo,none⟩) l.length c),(50,.int .i64 l.length),(51,.int .i64 y.1)])
     (fun y=>[un (cF 3 y.2),.ow (aB7 g l.length cw) 162 2 l.length (wxC most y.2)]) (0,xs) ⟨by simp only;omega,hI⟩ ⟨rfl,rfl,rfl,rfl,rfl,rfl,rfl,rfl,rfl,trivial⟩ qF ?_
    clear hI;rintro⟨m,xs⟩ ⟨hm,hI⟩ K2 hK2;dsimp only at hm hI ⊢;(refine aD (aB (aA1 vq (aE (aD ?_)))));refine cP J (fun hc=> ?_) (fun hc=> ?_)
    ·have hm2:m<l.length:=by omega
     have hm3:m<xs.length:=by rw[hI.len];exact hm2
     clear hc;obtain⟨b1,o1,c1,hr1,hc1⟩:=RdII.rowS h m hm2 (hrow m hm2) qG;refine cQ (H':=[.ow xs[m].1 3 1 xs[m].2.length (bF xs[m].2),un (cF 3 (xs.eraseIdx m)),.ow (aB7 g l.length cw) 162 2 l.length (wxC most xs)]) (fun w' hs=>rows_out m hm3 hs) ?_;(refine aJ (aD (aK (aD (aB (aA1 vq ?_))))));refine aA5 uq qG qG ?_;refine bC qE J J J (fun w hs=>hc1 _ hs.chg0) ?_;have hms:s<l[m].length:=by rw[hrow m hm2];exact hs2
     have hl3:xs[m].2.length=s:=by rw[hI.ge m hm3 qG,regP_len]
     have hb1:=hl.num _ (List.getElem_mem hm2) _ (List.getElem_mem hms);obtain⟨rw0,hrw0,elow⟩:=low_mem (l:=l) (by intro e;rw[e] at hm2;simp at hm2) s
     have hb2:0≤lowV l s∧lowV l s≤10000:=by
      have h4:s<rw0.length:=by rw[hl.len _ hrw0];exact hs2
      rw[elow,eI h4];exact hl.num _ hrw0 _ (List.getElem_mem h4)
     (refine aA1 vq (aA1 vq (aE ?_)))
     refine q_drawB2 [false,false,true,true,true,true,true,true,true,true,true,true,true,true,false,false,false,false] [.ow xs[m].1 3 1 xs[m].2.length (bF xs[m].2),un (cF 3 (xs.eraseIdx m)),.ow (aB7 g l.length cw) 162 2 l.length (wxC most xs)] [] [un (cF 3 (xs.eraseIdx m))] [.ow xs[m].1 3 1 xs[m].2.length (bF xs[m].2),.ow (aB7 g l.length cw) 162 2 l.length (wxC most xs)] qF qF qI qI qI ?_;refine qb_F 2 [.ow xs[m].1 3 1 xs[m].2.length (bF xs[m].2),.ow (aB7 g l.length cw) 162 2 l.length (wxC most xs)] J J qF fun K1 hK1=> ?_;(refine aB2 yq (aB2 yq (aT ?_)))
     refine hK1 _ _ (qb_T2 12 [] J J qF fun K1 hK1=> ?_);(refine aB2 yq (aB2 yq ?_));refine aB5 uq qG qG ?_;(refine aB2 yq ?_)
     refine bA (v:=xs[m].1) qE J J J (fun w hs=>by
      rw[show(0+(m:Int).toNat*2+0)=m*2 from by omega];exact lO (hs.mem (c:= .ow (aB7 g l.length cw) 162 2 l.length (wxC most xs)) qF) (m*2) (wxC_get most xs m hm3).1) ?_
     (refine aB2 yq (aB2 yq ?_))
     refine aB5 uq qG qG ?_;refine bA (v:= .int .i64 l[m][s]) qE J J J (fun w hs=>RdI.at (RdE.keep hr1 hs.chg0) s hms) ?_;(refine aB2 yq (aB6 xq qG qG ?_));refine qB 3 [.int .i64 (l[m][s]-lowV l s)] J qI J (fun bn=> ?_);(refine aT ?_);refine hK1 _ _ (qb_F 4 [.pt bn [.int .i64 (l[m][s]-lowV l s)] 3,.ow xs[m].1 3 1 xs[m].2.length (bF xs[m].2),.ow (aB7 g l.length cw) 162 2 l.length (wxC most xs)] J J qF fun K1 hK1=> ?_);refine fG (q:=1) (news:=[.int .i64 (l[m][s]-lowV l s)]) slI J J J (fun v'=>by repeat constructor) (fun w' hs=>⟨_,_,Blk.rdN (hs.blk (b:=bn) qF) J⟩) (by simp[dA]) qG qG (fun u'=> ?_);refine aB5 uq qG qG ?_;(refine aB2 yq ?_);refine cT (fun w hs=>hs.slice2 (v:=u') qF) ?_;rintro⟨a1,c2,rfl⟩;refine qf_storeWs qE (m*2) J J J J qF qG (by rw[wxC_len];omega) ?_;(refine aT ?_);refine hK1 _ _ (qb_nil ?_);(refine aW (aB (aA4 xq qG qG (aA1 vq (aE ?_)))))
     have er:xs[m].2++[l[m][s]-lowV l s]=regP l (s+1) (l.getD m []):=by
      have eg:l.getD m []=l[m]:=by rw[List.getD_eq_getElem?_getD,List.getElem?_eq_getElem hm2];rfl
      rw[hI.ge m hm3 qG,regP_succ,eg,eI hms]
     refine cQ (H':=[un (cF 3 (xs.modify m fun _=>(.slice a1 (xs[m].2.length+1) c2,xs[m].2++[l[m][s]-lowV l s]))),.ow (aB7 g l.length cw) 162 2 l.length (wxC most (xs.modify m fun _=>(.slice a1 (xs[m].2.length+1) c2,xs[m].2++[l[m][s]-lowV l s])))]) (fun w' hs=>rows_put m hm3 (.slice a1 (xs[m].2.length+1) c2) (xs[m].2++[l[m][s]-lowV l s]) (by
      rw[←wxC_set];have e:bF (xs[m].2++[l[m][s]-lowV l s])=bF xs[m].2++[.int .i64 (l[m][s]-lowV l s)]:=by simp[bF]
      rw[e,show(xs[m].2++[l[m][s]-lowV l s]).length=xs[m].2.length+1 from by simp];exact hs.sp qF)) ?_
     exact hK2 (m+1,_) _ _ ⟨by simp only;omega,hI.step _ er⟩ (by simp only;omega) ⟨J,J,J,J,J,J,J,J,J,trivial⟩ qF
    ·obtain rfl:m=l.length:=by omega
     clear hc;(refine aZ _ J (aW (aB (aA4 xq qG qG (aA1 vq (aE ?_))))));exact hK (s+1,xs) _ _ ⟨by simp only;omega,hI.next⟩ (by simp only;omega) ⟨J,J,J,J,trivial⟩ qF
  ·obtain rfl:s=n:=by omega
   (refine aZ _ J (aD (aB (aA1 vq (aA1 vq (aE (aQ ?_)))))))
   refine aA2 wq qF fun w hs=> ?_;exact⟨(aB7 g l.length cw,xs),⟨J,hI.all⟩,hs.sp qF⟩
def RdW(w:World)(lo hi:Nat)(v:Value)(most:Int)(rows:List (List Int)):Prop:=
 ∃vs:List Value,RdE w lo hi v 2 (vs.map (wxV most))∧vs.length=rows.length∧∀i (h:i<vs.length) (h':i<rows.length),RdI w lo hi vs[i] rows[i]∧∀a n c,vs[i]= .slice a n c→n≤c
theorem RdW.keep{w w':World}{lo hi:Nat}{v:Value}{most:Int}{rows:List (List Int)}(h:RdW w lo hi v most rows)(c:Chg [] w w'):RdW w' lo hi v most rows:=by
 obtain⟨vs,h1,h2,h3⟩:=h;exact⟨vs,h1.keep c,h2,fun i hi hi'=>⟨(h3 i hi hi').1.keep c,(h3 i hi hi').2⟩⟩
theorem RdW.outI{w:World}{lo hi:Nat}{v:Value}{most:Int}{rows:List (List Int)}(h:RdW w lo hi v most rows):∃a cap,v= .slice a rows.length cap∧(0<rows.length→∃b off,a=some ⟨b,off,none⟩):=by
 obtain⟨vs,h1,h2,h3⟩:=h;have:=RdE.out h1
 rwa [List.length_map,h2] at this
theorem RdW.row{w:World}{lo hi:Nat}{b off len cap:Nat}{most:Int}{rows:List (List Int)}(h:RdW w lo hi (.slice (some ⟨b,off,none⟩) len cap) most rows)(i:Nat)(hi':i<rows.length) :
  ∃a c,RdI w lo hi (.slice a rows[i].length c) rows[i]∧rows[i].length≤c∧∀w',Chg [] w w'→∀j,j<2→w'.cell? ⟨b,off+i*2+j,none⟩=[Value.slice a rows[i].length c,.int .i64 most][j]? :=by
 obtain⟨vs,h1,h2,h3⟩:=h;obtain⟨h4,h5⟩:=h3 i qG hi';obtain⟨a,c,hv,_⟩:=RdI.outI h4;refine⟨a,c,hv▸h4,h5 _ _ _ hv,fun w' hw' j hj=> ?_⟩;rw[RdE.cell (h1.keep hw') i j (by simp;omega) hj,List.getElem_map,hv]
 rfl
theorem wx_cells(most:Int)(xs:List (Value×List Int)):cellsOf ((xs.map (·.1)).map (wxV most))=wxC most xs:=by
 simp[cellsOf,wxC,wxV,List.flatMap_map,Value.cells]
theorem wax_rd{w:World}{v:Value}{most:Int}{xs:List (Value×List Int)}{n t t2:Nat}(hu:(un (cF t xs)).p w)(h1:w.ownsRow 0 t2 2 v n (wxC most xs)):RdW w 0 w.heap.size v most (xs.map (·.2)):=by
 have hn:n=xs.length:=by have:=h1.1;rw[wxC_len] at this;omega
 have hp:∀p∈xs,w.ownsRow 0 t 1 p.1 p.2.length (bF p.2):=fun p hp=>hu.1 (.ow p.1 t 1 p.2.length (bF p.2)) (List.mem_map.2 ⟨p,hp,rfl⟩)
 refine⟨xs.map (·.1),RdE.ofOwn (t:=t2) (by rw[wx_cells,List.length_map,List.length_map,←hn];exact h1) (fun e he=>by
  obtain⟨y,_,rfl⟩:=List.mem_map.1 he
  rfl),by simp,fun i hi hi'=> ?_⟩
 have hi2:i<xs.length:=by simpa using hi
 simp only[List.getElem_map];have h2:=hp _ (List.getElem_mem hi2);refine⟨eX h2 rfl,fun a m c e=> ?_⟩;rcases h2.2 with⟨h3,h4⟩|⟨g,cap,cur,h3,_,_,h5,_⟩
 ·rw[h3] at e;injection e with e1 e2 e3
  omega
 ·rw[h3] at e;injection e with e1 e2 e3
  omega
theorem allG_iff{row:List Int}{most:Int}{a b:Nat}(hb:b<row.length):lD row most a b=true↔∀t,a≤t→t≤b→row.getD t 0≤most:=by
 unfold lD;rw[List.all_eq_true];constructor
 ·intro h t h1 h2;have ht:t<row.length:=by omega
  rw[eI ht]
  have h3:row[t]∈iS row a b:=by
   unfold iS;have h4:t-a<((row.drop a).take (b+1-a)).length:=by rw[List.length_take,List.length_drop];omega
   have h5:((row.drop a).take (b+1-a))[t-a]=row[t]:=by
    rw[List.getElem_take,List.getElem_drop]
    congr 1
    omega
   rw[←h5];exact List.getElem_mem h4
  simpa using h _ h3
 ·intro h x hx;obtain⟨i,hi,rfl⟩:=List.mem_iff_getElem.1 hx;unfold iS at hi ⊢;rw[List.length_take,List.length_drop] at hi;rw[List.getElem_take,List.getElem_drop];have:=h (a+i) qG qG;rw[eI qG] at this;simpa using this
theorem good_ca(w:World)(lo hi:Nat)(v:Value)(most:Int)(row:List Int)(s:Nat)(h:RdI w lo hi v row)(hs:s<row.length) :
  Ca Tryz.prog 116 [wxV most v,.int .i64 s] w fun r w'=>r= .bool (decide (row[s]≤most))∧Chg [] w w':=by
 obtain⟨a,c,rfl,ha⟩:=RdI.outI h;obtain⟨b,off,rfl⟩:=ha qG;unfold wxV;refine cM (Sat.nil w M0) Tryz.func116 J (by simp[Tryz.ntmps116]) ?_;(refine aD (aB ?_));refine bN J J (fun b3=> ?_);(refine aA1 vq (aE (aD ?_)));refine bY _ [] (Sp.refl _) qI qI ?_;(refine aB2 yq ?_;refine aX qE J J J ?_;refine aB2 yq ?_);refine aB5 uq qG qG ?_;refine bA (v:= .int .i64 row[s]) qE J J J (fun w hs=>RdI.at (RdE.keep h hs.chg0) s (by assumption)) ?_;(refine aB2 yq ?_;refine aX qE J J J ?_;refine aB2 yq (aB2 yq (aT (aQ ?_))));refine aA2 wq qF fun w hs=> ?_
 exact⟨J,hs.chg0⟩
theorem all_ca(w:World)(lo hi:Nat)(v:Value)(most:Int)(row:List Int)(a b:Nat)(h:RdI w lo hi v row)(hb:b<row.length)(hl:row.length≤1000000) :
  Ca Tryz.prog 119 [wxV most v,.int .i64 a,.int .i64 b] w fun r w'=>r= .bool (lD row most a b)∧Chg [] w w':=by
 unfold wxV;refine cM (Sat.nil w M0) Tryz.func119 J (by simp[Tryz.ntmps119]) ?_;(refine aD (aB ?_));refine bN J J (fun b3=> ?_);(refine aA1 vq (aE (aD (aB ?_)));refine aM qE J J J ?_;refine aA1 vq (aA1 vq (aE (aD (aD (aB (aA1 vq (aA1 vq (aE (aK ?_))))))))));refine bD (σ:=Nat) (fun s=>a≤s∧∀t,a≤t→t<s→row.getD t 0≤most) (fun s=>b+1-s) (fun s=>[(2,.int .i64 b),(7,.func (.func 116) #[wxV most v] #[]),(8,.int .i64 s)]) (fun _=>[]) a ⟨by omega,fun t h1 h2=>by omega⟩ ⟨J,J,J,trivial⟩ qF ?_;rintro s ⟨hs1,hs2⟩ K hK;(refine aD (aD (aB ?_));(iterate 3 refine aA1 vq ?_);refine aE ?_);refine cP J (fun hc=> ?_) (fun hc=> ?_)
 ·have hs3:s≤b:=by omega
  have hs4:s<row.length:=by omega
  clear hc;(refine aJ (aD (aK (aD (aB (aA1 vq (aA1 vq ?_)))))));refine ql_callFv J J J (fun w hs=>CaF.of qE J (good_ca w lo hi v most row s (RdE.keep h hs.chg0) hs4)) ?_;(refine aA1 vq (aE ?_));refine q_ifn J (fun hc=> ?_) (fun hc=> ?_)
  ·have h5:¬row[s]≤most:=by simpa using hc
   (refine aD (aB (aA1 vq (aE (aQ ?_)))))
   refine aA2 wq qF fun w hs=> ?_
   exact⟨by
    have e:lD row most a b=false:=by
     rw[←Bool.not_eq_true,allG_iff hb];intro hA;have:=hA s hs1 hs3;rw[eI hs4] at this;exact h5 this
    rw[e]
    rfl,hs.chg0⟩
  ·have h5:row[s]≤most:=by simpa using hc
   (refine aJ (aW (aB (aA1 vq (aA4 xq qG qG (aA1 vq (aE ?_)))))))
   exact hK (s+1) _ _ ⟨by omega,fun t h1 h2=>by
    by_cases e:t=s
    ·rw[e,eI hs4];exact h5
    ·exact hs2 t h1 qG⟩ qG ⟨J,J,J,trivial⟩ qF
 ·(refine aZ _ J (aD (aB (aA1 vq (aE (aQ ?_))))))
  refine aA2 wq qF fun w hs=> ?_;exact⟨by rw[(allG_iff hb).2 (fun t h1 h2=>hs2 t h1 qG)];rfl,hs.chg0⟩
def lG(l:List (List Int))(a b:Int):Int×Int×Int:=if cY l≠0 then(0,0,cY l) else if(inB a 0 b&&(decide (b<(nV l:Int))&&true))=false then(0,0,1) else let p:=waxF (cA l (nV l)) a.toNat b.toNat l.length;(p.1,p.2,0)
theorem best_no{l:List (List Int)}{a b:Int}(h:cY l≠0):lG l a b=(0,0,cY l):=if_pos h
theorem best_un{l:List (List Int)}{a b:Int}(h:cY l=0)(h2:(inB a 0 b&&(decide (b<(nV l:Int))&&true))=false):lG l a b=(0,0,1):=by unfold lG;rw[if_neg (by simpa using h),if_pos h2]
theorem best_yes{l:List (List Int)}{a b:Int}(h:cY l=0)(h2:(inB a 0 b&&(decide (b<(nV l:Int))&&true))=true):lG l a b=((waxF (cA l (nV l)) a.toNat b.toNat l.length).1,(waxF (cA l (nV l)) a.toNat b.toNat l.length).2,0):=by unfold lG;rw[if_neg (by simpa using h),if_neg (by rw[h2];simp)]
theorem wx_at{w0 w:World}{M:Nat→Prop}{H:List Ck}{g n c t:Nat}{most:Int}{xs:List (Value×List Int)}(hs:Sat w0 M H w)(hm:Ck.ow (aB7 g n c) t 2 n (wxC most xs)∈H)(i:Nat)(hi:i<xs.length):∀j,j<2→w.cell? ⟨g,0+i*2+j,none⟩=[xs[i].1,.int .i64 most][j]? :=fun j hj=>by
 have h1:=wxC_get most xs i hi;have h2:=hs.mem hm;obtain rfl|rfl:j=0∨j=1:=by omega
 ·rw[Nat.zero_add];exact lO h2 (i*2) h1.1
 ·rw[Nat.zero_add];exact lO h2 (i*2+1) h1.2
theorem lU{w0 w:World}{M:Nat→Prop}{H:List Ck}{t:Nat}{xs:List (Value×List Int)}(hs:Sat w0 M H w)(hm:un (cF t xs)∈H)(i:Nat)(hi:i<xs.length):RdI w 0 w.heap.size xs[i].1 xs[i].2∧∀a n c,xs[i].1= .slice a n c→n≤c:=by
 have h2:w.ownsRow 0 t 1 xs[i].1 xs[i].2.length (bF xs[i].2):=(hs.mem hm).1 (.ow xs[i].1 t 1 xs[i].2.length (bF xs[i].2)) (List.mem_map.2 ⟨_,List.getElem_mem hi,rfl⟩);refine⟨eX h2 rfl,fun a m c e=> ?_⟩;rcases h2.2 with⟨h3,h4⟩|⟨g,cap,cur,h3,_,_,h5,_⟩
 ·rw[h3] at e;injection e with e1 e2 e3
  omega
 ·rw[h3] at e;injection e with e1 e2 e3
  omega
theorem nV_eq{l:List (List Int)}(hl:1≤l.length):nV l=(l[0]'qG).length:=by
 cases l with
 | nil=>simp at hl
 | cons x l=>rfl
theorem wax_ca(w:World)(lo hi:Nat)(v:Value)(l:List (List Int))(a b:Int)(h:RdII w lo hi v l):Ca Tryz.prog 53 [v,.int .i64 a,.int .i64 b] w fun x w'=>x= .tuple #[.int .i64 (lG l a b).1,.int .i64 (lG l a b).2.1,.int .i64 (lG l a b).2.2]∧Chg [] w w':=by
 obtain⟨va,c,rfl,ha⟩:=RdII.outI h;refine cM (Sat.nil w M0) Tryz.func53 J (by simp[Tryz.ntmps53]) ?_;(refine aD (aB ?_);(iterate 3 refine aA1 vq ?_);refine aE (aD (aB (aA1 vq ?_))));refine aI (val:= .int .i64 (cY l)) qE J J J J (fun w hs=> ?_) ?_;exact pX w lo hi _ l (RdII.keep h hs.chg0);by_cases ht:cY l=0
 ·have hl:TabOk l (nV l):=fI.1 ht;have hl1:=hl.l1;have hl2:=hl.l2;have hn2:=hl.n2;obtain⟨vb,vo,rfl⟩:=ha qG;obtain⟨b0,o0,c0,hr0,hc0⟩:=RdII.rowS h 0 qG (nV_eq qG).symm hl.n1;(refine aA1 vq (aE (aD (aK (aD (aB (aA1 vq (aB1 yq qG (aA1 vq (aE (aF J (aD ?_)))))))))));refine aB (aA1 vq (aA1 vq ?_)));refine aI (val:= .bool (inB a 0 b)) qE J J J J (fun w hs=> ?_) ?_;exact cL a 0 b w;(refine aA1 vq (aA1 vq ?_));cases h1:inB a 0 b with
  | false=>
   ((iterate 6 refine aA3 zq ?_);refine aA1 vq (aA1 vq (aE (aH J (aD (aB ?_)))));(iterate 3 refine aA1 vq ?_);refine aE (aQ ?_))
   refine aA2 wq qF fun w hs=> ?_;exact⟨by rw[best_un ht (by rw[h1];rfl)];rfl,hs.chg0⟩
  | true=>
   have hab:=bX.1 h1;(refine aC J (aA1 vq (aC J (aA1 vq (aC J ?_)))));refine aA5 uq qG qG ?_;(refine aC J ?_);refine bC qE J J J (fun w hs=>hc0 _ hs.chg0) ?_;(refine aC J (aA1 vq (aC J ?_));(iterate 3 refine aA1 vq ?_);refine aE ?_);refine cP J (fun hc=> ?_) (fun hc=> ?_)
   ·have h2:¬b<(nV l:Int):=by first|omega|(simp at hc;omega)
    (refine aD (aB ?_);(iterate 3 refine aA1 vq ?_);refine aE (aQ ?_))
    refine aA2 wq qF fun w hs=> ?_;exact⟨by rw[best_un ht (by rw[h1];simp[h2])];rfl,hs.chg0⟩
   ·have h2:b<(nV l:Int):=by first|omega|(simp at hc;omega)
    clear hc;have hbe:=best_yes ht (a:=a) (b:=b) (by rw[h1];simp[h2]);obtain⟨i,rfl⟩:=Int.eq_ofNat_of_zero_le hab.1;obtain⟨j,rfl⟩:=Int.eq_ofNat_of_zero_le (show 0≤b by omega);rw[Int.toNat_natCast,Int.toNat_natCast] at hbe;rw[hbe];clear hbe;(refine aJ (aW (aD (aB (aA1 vq (aA1 vq (aE (aD (aD (aB (aA1 vq ?_)))))))))));refine bB (β:=Value×List (Value×List Int)) qE [] _ M0 J J J J (Sp.refl _) qJ (fun w' hs=>waxes_ca w' lo hi _ l (nV l) 0 (RdII.keep h hs.chg0) hl) ?_;rintro⟨_,xs⟩ u ⟨rfl,hxs⟩;dsimp only[List.cons_append,List.nil_append];refine bW (fun w hs=>hs.ownSome (v:=u) qF qG) ?_;rintro⟨g,cw,rfl⟩;have hxl:xs.length=l.length:=by have:=congrArg List.length hxs;rw[dS,List.length_map] at this;exact this
    (refine aA1 vq (aA1 vq (aE (aK ?_))))
    have hrs:∀k (hk:k<xs.length),(cA l (nV l)).getD k []=xs[k].2:=fun k hk=>by
     rw[←hxs,List.getD_eq_getElem?_getD,List.getElem?_map,List.getElem?_eq_getElem hk]
     rfl
    refine bD (σ:=Nat) (fun k=>k≤l.length) (fun k=>l.length-k) (fun k=>[(1,.int .i64 i),(2,.int .i64 j),(10,.int .i64 (waxF (cA l (nV l)) i j k).1),(11,.int .i64 (waxF (cA l (nV l)) i j k).2),(35,aB7 g l.length cw),(36,.int .i64 l.length),(37,.int .i64 k)])
     (fun k=>[un (cF 3 xs),.ow (aB7 g l.length cw) 162 2 l.length (wxC 0 xs)]) 0 qG ⟨rfl,rfl,rfl,rfl,rfl,rfl,rfl,trivial⟩ qF ?_
    rintro k hk K hK;(refine aD (aB (aA1 vq (aE (aD ?_)))));refine cP J (fun hc=> ?_) (fun hc=> ?_)
    ·have hk2:k<l.length:=by omega
     have hk3:k<xs.length:=by omega
     have hlen:xs[k].2.length=nV l:=by
      rw[←hrs k hk3];unfold cA;rw[List.getD_eq_getElem?_getD,List.getElem?_map,List.getElem?_eq_getElem hk2];exact gT _ _ _
     clear hc;refine dO (fun w hs=>RdI.outI (lU hs qF k hk3).1) ?_;rintro⟨a1,c1,e1,_⟩;(refine aJ (aD (aK (aD (aB (aA1 vq ?_))))));refine aA5 uq qG qG ?_
     refine eJ qE J J J J (fun w hs=>by
      rw[Int.toNat_natCast];have:=wx_at hs qF k hk3;rw[e1] at this;exact this) ?_
     refine bJ zero162 J (fun b13=> ?_);(refine aA1 vq ?_;refine aA6 uq qF J ?_;refine aE (aD (aB ?_));refine aM qE J J J ?_;refine aA1 vq (aA1 vq ?_));refine aI (val:= .int .i64 (topR xs[k].2 i j)) qE J J J J (fun w hs=> ?_) ?_;exact greatest_ca w 0 w.heap.size _ 0 xs[k].2 i j (e1▸(lU hs qF k hk3).1) (e1▸(lU hs qF k hk3).2) qG qG qG;(refine aA1 vq (aE (aD (aB ?_)));(iterate 3 refine aA1 vq ?_);refine aE ?_)
     have hw:waxF (cA l (nV l)) i j (k+1)=if topR xs[k].2 i j<(waxF (cA l (nV l)) i j k).2 then((k:Int),topR xs[k].2 i j) else waxF (cA l (nV l)) i j k:=by
      show(if topR ((cA l (nV l)).getD k []) i j<_ then _ else _)=_
      rw[hrs k hk3]
     refine cP J (fun hc=> ?_) (fun hc=> ?_)
     ·have h5:topR xs[k].2 i j<(waxF (cA l (nV l)) i j k).2:=by simpa using hc
      rw[if_pos h5] at hw;(refine aB ?_;(iterate 4 refine aA1 vq ?_);refine aE (aW (aB (aA4 xq qG qG (aA1 vq (aE ?_))))));exact hK (k+1) _ _ qG qG ⟨J,J,by rw[hw];rfl,by rw[hw];rfl,J,J,J,trivial⟩ qF
     ·have h5:¬topR xs[k].2 i j<(waxF (cA l (nV l)) i j k).2:=by simpa using hc
      rw[if_neg h5] at hw;(refine aJ (aW (aB (aA4 xq qG qG (aA1 vq (aE ?_))))));exact hK (k+1) _ _ qG qG ⟨J,J,by rw[hw];rfl,by rw[hw];rfl,J,J,J,trivial⟩ qF
    ·obtain rfl:k=l.length:=by omega
     (refine aZ _ J (aD (aB ?_));(iterate 5 refine aA1 vq ?_);refine aE (aQ ?_))
     refine aA2 wq qF fun w hs=> ?_;exact⟨J,hs.chg0⟩
 ·(refine aA1 vq (aE (aD (aK (aD (aB (aA1 vq (aB0 yq qG (aA1 vq (aE (aH J (aD ?_)))))))))));refine aB ?_;(iterate 4 refine aA1 vq ?_);refine aE (aQ ?_))
  refine aA2 wq qF fun w hs=> ?_;exact⟨by rw[best_no ht];rfl,hs.chg0⟩
theorem limited_no(w:World)(lo hi:Nat)(v:Value)(l:List (List Int))(most:Int)(h:RdII w lo hi v l)(hne:cJ l most≠0):Ca Tryz.prog 112 [v,.int .i64 most] w fun x w'=>x= .tuple #[.slice none 0 0,.int .i64 (cJ l most)]∧Chg [] w w':=by
 obtain⟨va,c,rfl,ha⟩:=RdII.outI h;refine cM (Sat.nil w M0) Tryz.func112 J (by simp[Tryz.ntmps112]) ?_;(refine aD (aB (aA1 vq (aA1 vq (aE (aD (aD (aB (aA1 vq ?_)))))))));refine aI (val:= .int .i64 (cY l)) qE J J J J (fun w hs=> ?_) ?_;exact pX w lo hi _ l (RdII.keep h hs.chg0);by_cases ht:cY l=0
 ·have e:inB most 0 10000=false∧cJ l most=3:=by
   unfold cJ at hne ⊢;rw[if_neg (by simpa using ht)] at hne ⊢;split at hne
   ·rename_i h1;exact⟨h1,by rw[if_pos h1]⟩
   ·exact absurd J hne
  (refine aA1 vq (aE (aD (aB (aA1 vq (aB1 yq qG (aE (aF J (aJ (aD (aD (aB ?_)))))))))));refine aA1 vq ?_)
  refine aI (val:= .bool false) qE J J J J (fun w hs=> ?_) ?_;exact by have:=cL most 0 10000 w;rw[e.1] at this;exact this
  (refine aA1 vq (aE (aH J (aD (aB (aA1 vq (aA1 vq (aE (aQ ?_)))))))))
  refine aA2 wq qF fun w hs=> ?_;exact⟨by rw[e.2];rfl,hs.chg0⟩
 ·have e:cJ l most=cY l:=by unfold cJ;rw[if_pos ht]
  (refine aA1 vq (aE (aD (aB (aA1 vq (aB0 yq qG (aE (aH J (aD (aB ?_)))))))));(iterate 3 refine aA1 vq ?_);refine aE (aQ ?_))
  refine aA2 wq qF fun w hs=> ?_;exact⟨by rw[e];rfl,hs.chg0⟩
theorem eA{l:List (List Int)}{most:Int}:cJ l most=0↔TabOk l (nV l)∧0≤most∧most≤10000:=by
 unfold cJ;constructor
 ·intro h;split at h
  ·rename_i h1;exact absurd h h1
  ·rename_i h1
   split at h
   ·cases h
   ·rename_i h2
    exact⟨fI.1 (by simpa using h1),bX.1 (by simpa using h2)⟩
 ·rintro⟨h1,h2⟩;rw[if_neg (by simpa using fI.2 h1),if_neg (by rw[bX.2 h2];simp)]
theorem limited_ok(w:World)(lo hi:Nat)(v:Value)(l:List (List Int))(most:Int)(h:RdII w lo hi v l)(he:cJ l most=0):Ca Tryz.prog 112 [v,.int .i64 most] w fun x w'=>∃y:Value×List (Value×List Int),(x= .tuple #[y.1,.int .i64 0]∧y.2.map (·.2)=cA l (nV l))∧Sat w M0 [un (cF 3 y.2),.ow y.1 162 2 l.length (wxC most y.2)] w':=by
 obtain⟨hl,hm⟩:=eA.1 he;obtain⟨va,c,rfl,ha⟩:=RdII.outI h;refine cM (Sat.nil w M0) Tryz.func112 J (by simp[Tryz.ntmps112]) ?_;(refine aD (aB (aA1 vq (aA1 vq (aE (aD (aD (aB (aA1 vq ?_)))))))));refine aI (val:= .int .i64 0) qE J J J J (fun w hs=> ?_) ?_;exact by have:=pX w lo hi _ l (RdII.keep h hs.chg0);rw[show cY l=0 from fI.2 hl] at this;exact this
 (refine aA1 vq (aE (aD (aB (aA1 vq (aB1 yq qG (aE (aF J (aJ (aD (aD (aB ?_)))))))))));refine aA1 vq ?_)
 refine aI (val:= .bool true) qE J J J J (fun w hs=> ?_) ?_;exact by have:=cL most 0 10000 w;rw[bX.2 hm] at this;exact this
 (refine aA1 vq (aE (aF J (aJ (aD (aB (aA1 vq (aA1 vq ?_))))))))
 refine bB (β:=Value×List (Value×List Int)) qE [] _ M0 J J J J (Sp.refl _) qJ (fun w' hs=>waxes_ca w' lo hi _ l (nV l) most (RdII.keep h hs.chg0) hl) ?_;rintro⟨_,xs⟩ u ⟨rfl,hxs⟩;dsimp only[List.cons_append,List.nil_append];(refine aA1 vq (aA1 vq (aE (aQ ?_))));refine aA2 wq qF fun w hs=> ?_;exact⟨(u,xs),⟨J,hxs⟩,hs.sp qF⟩
def znC(zs:List (Int×Int×Int)):List Value:=zs.flatMap fun z=>[.int .i64 z.1,.int .i64 z.2.1,.int .i64 z.2.2]
theorem znC_snoc(zs:List (Int×Int×Int))(z:Int×Int×Int):znC (zs++[z])=znC zs++[.int .i64 z.1,.int .i64 z.2.1,.int .i64 z.2.2]:=by simp[znC]
theorem slZ:SlT Tryz.prog 98 106 3 24 (.agg #[.int .i64 0,.int .i64 0,.int .i64 0]):=⟨by kernel_rfl,by kernel_rfl,by kernel_rfl,by decide⟩
theorem zones_no(w:World)(lo hi:Nat)(v:Value)(l:List (List Int))(most:Int)(h:RdII w lo hi v l)(hne:cJ l most≠0):Ca Tryz.prog 57 [v,.int .i64 most] w fun x w'=>x= .tuple #[.slice none 0 0,.int .i64 (cJ l most)]∧Chg [] w w':=by
 obtain⟨va,c,rfl,ha⟩:=RdII.outI h;refine cM (Sat.nil w M0) Tryz.func57 J (by simp[Tryz.ntmps57]) ?_;(refine aD (aB (aA1 vq (aA1 vq (aE (aD (aB (aA1 vq (aA1 vq ?_)))))))));refine aI (val:= .tuple #[.slice none 0 0,.int .i64 (cJ l most)]) qE J J J J (fun w hs=> ?_) ?_;exact limited_no w lo hi _ l most (RdII.keep h hs.chg0) hne;(refine aA1 vq (aA7 yq (aA7 yq (aA1 vq (aA1 vq (aE (aD (aD (aB (aA1 vq (aB0 yq qG (aE ?_)))))))))));refine aH J (aD (aB ?_));(iterate 3 refine aA1 vq ?_);refine aE (aQ ?_));refine aA2 wq qF fun w hs=> ?_
 exact⟨J,hs.chg0⟩
theorem zones_ok(w:World)(lo hi:Nat)(v:Value)(l:List (List Int))(most:Int)(h:RdII w lo hi v l)(he:cJ l most=0):Ca Tryz.prog 57 [v,.int .i64 most] w fun x w'=>∃u:Value,x= .tuple #[u,.int .i64 0]∧Sat w M0 [.ow u 106 3 (zonesV l most).1.length (znC (zonesV l most).1)] w':=by
 obtain⟨hl,hm⟩:=eA.1 he;have hl1:=hl.l1;have hl2:=hl.l2;have hn1:=hl.n1;have hn2:=hl.n2;have hzV:(zonesV l most).1=zonesF (cA l (nV l)) most (nV l) (nV l+1) 0:=by unfold zonesV;rw[if_neg (by simpa using he)]
 rw[hzV];obtain⟨va,c,rfl,ha⟩:=RdII.outI h;obtain⟨vb,vo,rfl⟩:=ha qG;obtain⟨b0,o0,c0,hr0,hc0⟩:=RdII.rowS h 0 qG (nV_eq qG).symm hl.n1;generalize hnn:nV l=n at *;refine cM (Sat.nil w M0) Tryz.func57 J (by simp[Tryz.ntmps57]) ?_;(refine aD (aB (aA1 vq (aA1 vq (aE (aD (aB (aA1 vq (aA1 vq ?_)))))))));refine bB (β:=Value×List (Value×List Int)) qE [] _ M0 J J J J (Sp.refl _) qJ (fun w' hs=>limited_ok w' lo hi _ l most (RdII.keep h hs.chg0) he) ?_;rintro⟨u,xs⟩ _ ⟨rfl,hxs⟩;rw[hnn] at hxs;dsimp only[List.cons_append,List.nil_append];refine bW (fun w hs=>hs.ownSome (v:=u) qF qG) ?_;rintro⟨g,cw,rfl⟩;have hxl:xs.length=l.length:=by have:=congrArg List.length hxs;rw[dS,List.length_map] at this;exact this
 have hrs:∀k (hk:k<xs.length),(cA l n).getD k []=xs[k].2:=fun k hk=>by
  rw[←hxs,List.getD_eq_getElem?_getD,List.getElem?_map,List.getElem?_eq_getElem hk]
  rfl
 have hrl:∀row∈cA l n,row.length=n:=fun row hr=>by
  obtain⟨r,_,rfl⟩:=List.mem_map.1 hr;exact gT _ _ _
 have hxn:∀k (hk:k<xs.length),xs[k].2.length=n:=fun k hk=>hrl _ (by rw[←hxs];exact List.mem_map.2 ⟨_,List.getElem_mem hk,rfl⟩)
 (refine aA1 vq (aA7 yq (aA7 yq (aA1 vq (aA1 vq (aE (aD (aD (aB (aA1 vq (aB1 yq qG (aE ?_)))))))))));refine aF J (aJ (aD (aB (aA1 vq (aE (aD (aD (aB (aA1 vq (aE (aK ?_))))))))))))
 refine cQ (H':=[.ow (.slice none 0 0) 106 3 ([]:List (Int×Int×Int)).length (znC []),un (cF 3 xs),.ow (aB7 g l.length cw) 162 2 l.length (wxC most xs)]) (fun w' hs=>Sat.ownil hs 106 3) ?_
 refine bD (σ:=Nat×Value×List (Int×Int×Int)) (fun y=>y.1≤n∧y.2.2.length≤y.1∧∃f,n≤y.1+f∧y.2.2++zonesF (cA l n) most n (f+1) y.1=zonesF (cA l n) most n (n+1) 0) (fun y=>n-y.1)
  (fun y=>[(0,.slice (some ⟨vb,vo,none⟩) l.length c),(6,aB7 g l.length cw),(8,y.2.1),(9,.int .i64 y.1)])
  (fun y=>[.ow y.2.1 106 3 y.2.2.length (znC y.2.2),un (cF 3 xs),.ow (aB7 g l.length cw) 162 2 l.length (wxC most xs)]) (0,.slice none 0 0,[]) ⟨by simp only;omega,by simp,n,by simp only;omega,rfl⟩ ⟨rfl,rfl,rfl,rfl,trivial⟩ qF ?_
 rintro⟨a,z,zs⟩ ⟨ha1,ha2,f,hf1,hf2⟩ K hK;dsimp only at ha1 ha2 hf1 hf2 ⊢;(refine aD (aD (aB (aA1 vq (aA1 vq ?_)))));refine aA5 uq qG qG ?_;refine bC qE J J J (fun w hs=>hc0 _ hs.chg0) ?_;(refine aA1 vq (aA1 vq (aE ?_)));refine cP J (fun hc=> ?_) (fun hc=> ?_)
 ·have ha3:a<n:=by omega
  clear hc;(refine aJ (aK (aD (aB (aA1 vq ?_)))));refine dM #[.int .i64 a,.int .i64 (-1),.int .i64 0] J qI J ?_;refine bJ zero106 J (fun b10=> ?_);(refine aA6 uq qF J ?_;refine aE (aD (aD (aB ?_)));(iterate 3 refine aA1 vq ?_);refine aE (aK ?_))
  refine bD (σ:=Nat) (fun k=>k≤l.length) (fun k=>l.length-k)
   (fun k=>[(0,.slice (some ⟨vb,vo,none⟩) l.length c),(6,aB7 g l.length cw),(8,z),(9,.int .i64 a),(10,aB8 b10),(31,aB7 g l.length cw),(32,.int .i64 l.length),(33,.int .i64 k)])
   (fun k=>[.pt b10 [.int .i64 a,.int .i64 (dW (cA l n) most a k).1,.int .i64 (dW (cA l n) most a k).2] 106,.ow z 106 3 zs.length (znC zs),un (cF 3 xs),.ow (aB7 g l.length cw) 162 2 l.length (wxC most xs)]) 0 qG ⟨rfl,rfl,rfl,rfl,rfl,rfl,rfl,rfl,trivial⟩ qF ?_
  rintro k hk K2 hK2;(refine aD (aB (aA1 vq (aE (aD ?_)))));refine cP J (fun hc=> ?_) (fun hc=> ?_)
  ·have hk2:k<l.length:=by omega
   have hk3:k<xs.length:=by omega
   have hkn:=hxn k hk3;clear hc;refine dO (fun w hs=>RdI.outI (lU hs qF k hk3).1) ?_;rintro⟨a1,c1,e1,_⟩;(refine aJ (aD (aK (aD (aB (aA1 vq ?_))))));refine aA5 uq qG qG ?_
   refine eJ qE J J J J (fun w hs=>by
    rw[Int.toNat_natCast];have:=wx_at hs qF k hk3;rw[e1] at this;exact this) ?_
   refine bJ zero162 J (fun b12=> ?_);(refine aA1 vq ?_;refine aA6 uq qF J ?_;refine aE (aD (aB (aA1 vq (aA4 xq qG qG (aA1 vq (aE (aD (aK ?_)))))))));have hnx:=goodN_le xs[k].2 most a
   refine bD (σ:=Nat) (fun t=>a≤t∧t≤n∧∀s,a≤s→s<t→xs[k].2.getD s 0≤most) (fun t=>n-t)
    (fun t=>[(0,.slice (some ⟨vb,vo,none⟩) l.length c),(6,aB7 g l.length cw),(8,z),(9,.int .i64 a),(10,aB8 b10),(11,.int .i64 k),(12,aB8 b12),(13,.int .i64 (t-1)),(31,aB7 g l.length cw),(32,.int .i64 l.length),(33,.int .i64 k)])
    (fun t=>[.pt b12 [.slice a1 xs[k].2.length c1,.int .i64 most] 162,.pt b10 [.int .i64 a,.int .i64 (dW (cA l n) most a k).1,.int .i64 (dW (cA l n) most a k).2] 106,.ow z 106 3 zs.length (znC zs),un (cF 3 xs),.ow (aB7 g l.length cw) 162 2 l.length (wxC most xs)]) a ⟨by omega,by omega,fun s h1 h2=>by omega⟩ ⟨rfl,rfl,rfl,rfl,rfl,rfl,rfl,rfl,rfl,rfl,rfl,trivial⟩ qF ?_
   rintro t ⟨ht1,ht2,ht3⟩ K3 hK3;have et:(t:Int)-1+1=t:=by omega
   (refine aD (aD (aB (aA1 vq (aA4 xq qG qG (aA1 vq ?_))))))
   refine aA5 uq qG qG ?_;refine bC qE J J J (fun w hs=>hc0 _ hs.chg0) ?_;by_cases htn:t<n
   ·(refine aA1 vq (dU qE J J J qG (aA1 vq (aC J ?_)));refine aM qE J J J ?_;refine aC J (aA1 vq (aC J (aA1 vq (aC J (aA4 xq qG qG (aC J ?_)))))))
    rw[et];refine aI (val:= .bool (lD xs[k].2 most a t)) qE J J J J (fun w hs=> ?_) ?_;exact all_ca w 0 w.heap.size _ most xs[k].2 a t (e1▸(lU hs qF k hk3).1) qG qG;cases hal:lD xs[k].2 most a t with
    | false=>
     have hstop:t<xs[k].2.length→¬xs[k].2.getD t 0≤most:=fun _ hle=>by
      rw[←Bool.not_eq_true,allG_iff qG] at hal
      exact hal fun s h1 h2=>by
       by_cases e:s=t
       ·rw[e];exact hle
       ·exact ht3 s h1 qG
     (refine aA1 vq (aE (aF J (aZ _ J (aD (aB (aA1 vq (aA1 vq ?_)))))));refine aL qE J J J ?_;refine aA1 vq (aE ?_))
     have hgn:lC xs[k].2 most a=t-a:=goodN_eq ht1 qG ht3 hstop
     have hw:dW (cA l n) most a (k+1)=if(dW (cA l n) most a k).1<(t:Int)-1 then((t:Int)-1,(k:Int)) else dW (cA l n) most a k:=by
      show(if(dW (cA l n) most a k).1<(a:Int)-1+lC ((cA l n).getD k []) most a then _ else _)=_
      rw[hrs k hk3,hgn,show(a:Int)-1+((t-a:Nat):Int)=(t:Int)-1 from by omega]
     refine cP J (fun hc=> ?_) (fun hc=> ?_)
     ·have h5:(dW (cA l n) most a k).1<(t:Int)-1:=by simpa using hc
      rw[if_pos h5] at hw;(refine aB ?_;(iterate 3 refine aA1 vq ?_);refine ql_st1 qE J J J J qF ?_;refine aA1 vq ?_;refine ql_st2 qE J J J J qF ?_;refine aE (aW (aB (aA4 xq qG qG (aA1 vq (aE ?_))))));exact hK2 (k+1) _ _ qG qG ⟨J,J,J,J,J,J,J,J,trivial⟩ (by rw[hw];repeat constructor)
     ·have h5:¬(dW (cA l n) most a k).1<(t:Int)-1:=by simpa using hc
      rw[if_neg h5] at hw;(refine aJ (aW (aB (aA4 xq qG qG (aA1 vq (aE ?_))))));exact hK2 (k+1) _ _ qG qG ⟨J,J,J,J,J,J,J,J,trivial⟩ (by rw[hw];repeat constructor)
    | true=>
     rw[allG_iff qG] at hal;(refine aA1 vq (aE (aH J (aJ (aK (aB (aA1 vq (aA4 xq qG qG (aA1 vq (aE (aW ?_)))))))))));exact hK3 (t+1) _ _ ⟨by omega,by omega,fun s h1 h2=>hal s h1 qG⟩ qG ⟨J,J,J,J,J,J,J,by rw[show((t+1:Nat):Int)-1=(t:Int)-1+1 from by omega];rfl,J,J,J,trivial⟩ qF
   ·have hstop:t<xs[k].2.length→¬xs[k].2.getD t 0≤most:=fun h=>by omega
    (refine aA1 vq (cS qE J J J qG (aA1 vq ?_));(iterate 5 refine aA3 zq ?_);refine aA1 vq (aE (aF J (aZ _ J (aD (aB (aA1 vq (aA1 vq ?_)))))));refine aL qE J J J ?_;refine aA1 vq (aE ?_))
    have hgn:lC xs[k].2 most a=t-a:=goodN_eq ht1 qG ht3 hstop
    have hw:dW (cA l n) most a (k+1)=if(dW (cA l n) most a k).1<(t:Int)-1 then((t:Int)-1,(k:Int)) else dW (cA l n) most a k:=by
     show(if(dW (cA l n) most a k).1<(a:Int)-1+lC ((cA l n).getD k []) most a then _ else _)=_
     rw[hrs k hk3,hgn,show(a:Int)-1+((t-a:Nat):Int)=(t:Int)-1 from by omega]
    refine cP J (fun hc=> ?_) (fun hc=> ?_)
    ·have h5:(dW (cA l n) most a k).1<(t:Int)-1:=by simpa using hc
     rw[if_pos h5] at hw;(refine aB ?_;(iterate 3 refine aA1 vq ?_);refine ql_st1 qE J J J J qF ?_;refine aA1 vq ?_;refine ql_st2 qE J J J J qF ?_;refine aE (aW (aB (aA4 xq qG qG (aA1 vq (aE ?_))))));exact hK2 (k+1) _ _ qG qG ⟨J,J,J,J,J,J,J,J,trivial⟩ (by rw[hw];repeat constructor)
    ·have h5:¬(dW (cA l n) most a k).1<(t:Int)-1:=by simpa using hc
     rw[if_neg h5] at hw;(refine aJ (aW (aB (aA4 xq qG qG (aA1 vq (aE ?_))))));exact hK2 (k+1) _ _ qG qG ⟨J,J,J,J,J,J,J,J,trivial⟩ (by rw[hw];repeat constructor)
  ·obtain rfl:k=l.length:=by omega
   clear hK2 hk hc;have hz1:=zone_has hl hm.1 ha3;have hz2:=zone_lt hrl ha3 (most:=most) l.length;generalize hp1:(dW (cA l n) most a l.length).1=p1 at *;generalize hp2:(dW (cA l n) most a l.length).2=p2 at *;(refine aZ _ J (aD (aB (aA1 vq ?_)));refine aM qE J J J ?_);refine cI 106 [.int .i64 a,.int .i64 p1,.int .i64 p2] J qI J (fun bn=> ?_);refine bU (q:=1) (news:=[.int .i64 a,.int .i64 p1,.int .i64 p2]) slZ J J J (fun v'=>by repeat constructor) (fun w' hs=>⟨_,_,Blk.rdN (hs.blk (b:=bn) qF) J⟩) (by simp[dA]) qG qG (fun z'=> ?_);(refine aA1 vq (aE (aB (aA1 vq ?_)));refine aL qE J J J ?_;refine aA4 xq qG qG (aA1 vq (aE (aW ?_))));have hstep:=nU (rs:=cA l n) (most:=most) (f:=f) ha3;rw[dS,hp1,hp2] at hstep;rw[hstep] at hf2;obtain⟨nx,hnx⟩:∃nx:Nat,p1+1=(nx:Int):=⟨(p1+1).toNat,by omega⟩;rw[hnx,Int.toNat_natCast] at hf2
   exact hK (nx,z',zs++[((a:Int),p1,p2)]) _ _ ⟨by simp only;omega,by simp only[List.length_append,List.length_cons,List.length_nil];omega,f-1,by simp only;omega,by
    have hf:f-1+1=f:=by omega
    dsimp only;rw[hf,List.append_assoc];exact hf2⟩ (by simp only;omega) ⟨J,J,J,by rw[←hnx];rfl,trivial⟩ (by dsimp only;rw[znC_snoc,show(zs++[((a:Int),p1,p2)]).length=zs.length+1 from by simp];repeat constructor)
 ·obtain rfl:a=n:=by omega
  rw[jU (Nat.le_refl _),List.append_nil] at hf2;subst hf2;(refine aZ _ J (aD (aB ?_));(iterate 3 refine aA1 vq ?_);refine aE (aQ ?_));refine aA2 wq qF fun w hs=> ?_
  exact⟨z,J,hs.sp qF⟩
theorem breaks1_p(w:World)(lo hi b t:Nat)(v:Value)(l:List (List Int))(br:List Int)(hb:Blk w b [v] t)(h:RdII w lo hi v l)(hl:TabOk l (nV l)) :
  PredAt Tryz.prog tab w (.func (.func 120) #[] #[aB8 b]) (bF br) (pIx (nV l)):=by
 have hl1:=hl.l1;have hn2:=hl.n2;refine⟨_,_,_,J,J,fun w' hw' x hx=> ?_⟩;have hb':=hb.keep hw';obtain⟨a,c,rfl,ha⟩:=RdII.outI h;obtain⟨vb,vo,rfl⟩:=ha qG;obtain⟨b0,o0,c0,hr0,hc0⟩:=RdII.rowS h 0 qG (nV_eq qG).symm hl.n1;obtain⟨i,hi,rfl⟩:=List.mem_map.1 hx;refine cM (Sat.nil w' M0) Tryz.func120 J (by simp[Tryz.ntmps120]) ?_;(refine aD (aB (aA1 vq (aE (aD (aB (aA1 vq ?_))))));refine fB qE J J J (by assumption) (by rfl) ?_);refine aA5 uq qG qG ?_;refine bC qE J J J (fun w hs=>hc0 _ (hw'.trans hs.chg0)) ?_;(refine aA1 vq (aA4 xq qG qG ?_));refine aI (val:= .bool (inB i 0 (nV l-1))) qE J J J J (fun w hs=> ?_) ?_;exact cL i 0 (nV l-1) w;(refine aA1 vq (aE (aQ ?_)));refine aA2 wq qF fun w hs=> ?_
 exact⟨J,hs.chg0⟩
def pAll(w:World)(a b:Nat):Value→Bool
 | .agg cs=>match cs.toList with
  | [v,.int _ most]=>lD (nS w v) most a b
  | _=>false
 | _=>false
theorem breaks2_p(w:World)(lo hi p q t1 t2:Nat)(most:Int)(vs:List Value)(rows:List (List Int))(n a b:Nat)(h2:vs.length=rows.length)(h3:∀i (h:i<vs.length) (h':i<rows.length),RdI w lo hi vs[i] rows[i])(hn:∀row∈rows,row.length=n)(hn2:n≤1000)(hb:b<n)(hp:Blk w p [.int .i64 a] t1)(hq:Blk w q [.int .i64 b] t2) :
  PredAt Tryz.prog tab w (.func (.func 122) #[] #[aB8 p,aB8 q]) (vs.map (wxV most)) (pAll w a b):=by
 refine⟨_,_,_,J,J,fun w' hw' x hx=> ?_⟩;have hp':=hp.keep hw';have hq':=hq.keep hw';obtain⟨v,hv,rfl⟩:=List.mem_map.1 hx;obtain⟨hr,hm⟩:=rdII_mem h2 h3 hv
 show Ca _ _ _ _ fun r w2=>r= .bool (lD (nS w v) most a b)∧_
 generalize hg:nS w v=row at hr hm ⊢;have hrn:=hn row hm;obtain⟨ra,rc,rfl,hra⟩:=RdI.outI hr;unfold wxV;refine cM (Sat.nil w' M0) Tryz.func122 J (by simp[Tryz.ntmps122]) ?_;(refine aD (aB ?_));refine bN J J (fun b3=> ?_);(refine aA1 vq (aE (aD (aB ?_)));refine aM qE J J J ?_;(iterate 2 refine fB qE J J J (by assumption) (by rfl) ?_));refine aI (val:= .bool (lD row most a b)) qE J J J J (fun w hs=> ?_) ?_;exact all_ca w lo hi _ most row a b (RdE.keep hr (hw'.trans hs.chg0)) qG qG;(refine aA1 vq (aE (aQ ?_)));refine aA2 wq qF fun w hs=> ?_
 exact⟨J,hs.chg0⟩
theorem pAll_any(w:World)(lo hi a b:Nat)(most:Int)(vs:List Value)(rows:List (List Int))(h2:vs.length=rows.length)(h3:∀i (h:i<vs.length) (h':i<rows.length),RdI w lo hi vs[i] rows[i]):(vs.map (wxV most)).any (pAll w a b)=rows.any fun row=>lD row most a b:=by
 have e:vs.map (nS w)=rows:=List.ext_getElem (by simp[h2]) (fun i h4 h5=>by
  rw[List.getElem_map];exact rowAt_eq (h3 i (by simpa using h4) h5))
 rw[←e,List.any_map,List.any_map]
 rfl
theorem any_ca{w0 w:World}{M:Nat→Prop}{H:List Ck}{g n c t t2 t3 t4 p q a b n2:Nat}{most:Int}{xs:List (Value×List Int)}(hs:Sat w0 M H w)(hu:un (cF t2 xs)∈H)(ho:Ck.ow (aB7 g n c) t 2 n (wxC most xs)∈H)(hn:∀row∈xs.map (·.2),row.length=n2)(hn2:n2≤1000)(hb:b<n2)(hl:xs.length<1000000)(hp:Blk w p [.int .i64 a] t3)(hq:Blk w q [.int .i64 b] t4) :
  Ca Tryz.prog 121 [aB7 g n c,.func (.func 122) #[] #[aB8 p,aB8 q]] w fun r w'=>r= .bool ((xs.map (·.2)).any fun row=>lD row most a b)∧Chg [] w w':=by
 have hnx:n=xs.length:=wx_len (hs.mem ho)
 have h3:∀i (h:i<(xs.map (·.1)).length) (h':i<(xs.map (·.2)).length),RdI w 0 w.heap.size (xs.map (·.1))[i] (xs.map (·.2))[i]:=fun i h h'=>by
  simp only[List.getElem_map];exact(lU hs hu i (by simpa using h)).1
 have hrd:RdE w 0 w.heap.size (aB7 g n c) 2 ((xs.map (·.1)).map (wxV most)):=RdE.ofOwn (t:=t) (by rw[wx_cells,List.length_map,List.length_map,←hnx];exact hs.mem ho) (fun e he=>by
  obtain⟨y,_,rfl⟩:=List.mem_map.1 he
  rfl)
 have:=conF_wax w 0 w.heap.size _ _ _ (pAll w a b) hrd (fun i hi=>by rw[List.getElem_map];exact⟨_,rfl⟩) (by simp only[List.length_map];omega) (breaks2_p w 0 w.heap.size p q t3 t4 most (xs.map (·.1)) (xs.map (·.2)) n2 a b (by simp) h3 hn hn2 hb hp hq);rw[pAll_any w 0 w.heap.size a b most (xs.map (·.1)) (xs.map (·.2)) (by simp) h3] at this;exact this
theorem brk_no{l:List (List Int)}{most:Int}{br:List Int}(h:cJ l most≠0):eS l most br=(false,cJ l most):=if_pos h
theorem brk_un{l:List (List Int)}{most:Int}{br:List Int}(h:cJ l most=0)(h2:br.all (fun s=>inB s 0 ((nV l:Int)-1))=false):eS l most br=(false,1):=by unfold eS;rw[if_neg (by simpa using h),if_pos h2]
theorem brk_yes{l:List (List Int)}{most:Int}{br:List Int}(h:cJ l most=0)(h2:br.all (fun s=>inB s 0 ((nV l:Int)-1))=true):eS l most br=(if brkF (cA l (nV l)) most br=true then !br.isEmpty&&true else false,0):=by unfold eS;rw[if_neg (by simpa using h),if_neg (by rw[h2];simp)]
def tK20_bab9619:OT:= .alt (bO [9,10,0,1,2,3,4,11,5,6,7,8,12] (.nil)) (bO [10,9,0,1,2,3,4,11,5,6,7,8,12] (.nil))
theorem pA(w:World)(lo hi lo2 hi2:Nat)(v u:Value)(l:List (List Int))(most:Int)(br:List Int)(h:RdII w lo hi v l)(hu:RdI w lo2 hi2 u br)(hbl:br.length≤1000000):Ca Tryz.prog 59 [v,.int .i64 most,u] w fun x w'=>x= .tuple #[.bool (eS l most br).1,.int .i64 (eS l most br).2]∧Chg [] w w':=by
 obtain⟨va,c,rfl,ha⟩:=RdII.outI h;obtain⟨ua,uc,rfl,hua⟩:=RdI.outI hu;refine cM (Sat.nil w M0) Tryz.func59 J (by simp[Tryz.ntmps59]) ?_;(refine aD (aB ?_));refine bN J J (fun b3=> ?_);(refine aA1 vq (aA1 vq (aE (aD (aB ?_))));refine aL qE J J J ?_;refine aA1 vq ?_);by_cases he:cJ l most=0
 ·obtain⟨hl,hm⟩:=eA.1 he;have hl1:=hl.l1;have hl2:=hl.l2;have hn1:=hl.n1;have hn2:=hl.n2;refine bB (β:=Value×List (Value×List Int)) qE [] _ M0 J J J J (Sp.refl _) qJ (fun w' hs=>limited_ok w' lo hi _ l most (RdII.keep h hs.chg0) he) ?_;rintro⟨u,xs⟩ _ ⟨rfl,hxs⟩;dsimp only[List.cons_append,List.nil_append]
  have hrl:∀row∈cA l (nV l),row.length=nV l:=fun row hr=>by
   obtain⟨r,_,rfl⟩:=List.mem_map.1 hr;exact gT _ _ _
  refine bW (fun w hs=>hs.ownSome (v:=u) qF qG) ?_;rintro⟨g,cw,rfl⟩;have hxl:xs.length=l.length:=by have:=congrArg List.length hxs;rw[dS,List.length_map] at this;exact this
  (refine aA1 vq (aA7 yq (aA7 yq (aA1 vq (aA1 vq (aE (aD (aK (aD (aB (aA1 vq (aB1 yq qG ?_)))))))))));refine aA1 vq (aE (aF J (aD (aB (aA1 vq (aA1 vq ?_)))))))
  refine aI (val:= .bool (br.all fun s=>inB s 0 ((nV l:Int)-1))) qE J J J J (fun w hs=> ?_) ?_;exact by have:=all_int w lo2 hi2 _ _ (bF br) _ (RdE.keep hu hs.chg0) (by intro i hi;simp[bF,dA]) (by simp[bF];omega) (breaks1_p w lo hi b3 _ _ l br (hs.blk qF) (RdII.keep h hs.chg0) hl);rw[pIx_all] at this;exact this
  cases hal:(br.all fun s=>inB s 0 ((nV l:Int)-1)) with
  | false=>
   (refine aA1 vq (aA1 vq (aE (aH J (aD (aB (aA1 vq (aA1 vq (aE (aQ ?_))))))))))
   refine aA2 wq qF fun w hs=> ?_;exact⟨by rw[brk_un he hal];rfl,hs.chg0⟩
  | true=>
   rw[brk_yes he hal];(refine aA1 vq (aA1 vq (aE (aF J (aJ (aW (aD (aD (aB (aA1 vq (aE (aK ?_))))))))))));generalize hrs:cA l (nV l)=rs at *
   refine bD (σ:=Nat) (fun s=>1≤s∧(s≤br.length∨s=1)∧brkF rs most (br.drop (s-1))=brkF rs most br) (fun s=>br.length-s)
    (fun s=>[(2,.slice ua br.length uc),(8,aB7 g l.length cw),(10,.int .i64 s)])
    (fun s=>[un (cF 3 xs),.ow (aB7 g l.length cw) 162 2 l.length (wxC most xs)]) 1 ⟨by omega,.inr rfl,rfl⟩ ⟨rfl,rfl,rfl,trivial⟩ qF ?_
   rintro s ⟨hs1,hs2,hs3⟩ K hK;(refine aD (aD (aB ?_));(iterate 4 refine aA1 vq ?_);refine aE ?_);refine cP J (fun hc=> ?_) (fun hc=> ?_)
   ·have hs4:s<br.length:=by omega
    clear hc;obtain⟨ub,uo,rfl⟩:=hua qG;have hB:∀k (hk:k<br.length),0≤br[k]∧br[k]≤(nV l:Int)-1:=fun k hk=>bX.1 (List.all_eq_true.1 hal _ (List.getElem_mem hk))
    have hd1:br.drop (s-1)=br[s-1]'qG::br[s]::br.drop (s+1):=by
     have e:s-1+1=s:=by omega
     rw[List.drop_eq_getElem_cons (i:=s-1) qG,e,List.drop_eq_getElem_cons hs4]
    have hd2:br.drop (s+1-1)=br[s]::br.drop (s+1):=by
     rw[Nat.add_sub_cancel,List.drop_eq_getElem_cons hs4]
    have hb1:=hB (s-1) qG;have hb2:=hB s hs4;have ei:((s:Int)-1).toNat=s-1:=by omega
    generalize hx:br[s-1]'qG=x at hb1 hd1;generalize hy:br[s]=y at hb2 hd1 hd2;rw[hd1] at hs3;obtain⟨i,rfl⟩:=Int.eq_ofNat_of_zero_le hb1.1;obtain⟨j,rfl⟩:=Int.eq_ofNat_of_zero_le hb2.1;(refine aJ (aD (aK (aD ?_))))
    refine kL (σ:=Nat×Nat) (fun y=>[(2,.slice (some ⟨ub,uo,none⟩) br.length uc),(8,aB7 g l.length cw),(10,.int .i64 s),(11,aB8 y.1),(12,aB8 y.2)])
     (fun y=>[.pt y.1 [.int .i64 i] 3,.pt y.2 [.int .i64 j] 3,un (cF 3 xs),.ow (aB7 g l.length cw) 162 2 l.length (wxC most xs)]) ?_ ?_
    rotate_left
    ·intro K2 hK2;refine jJ (tK20_bab9619) _ [] (Sp.refl _) qI qI ?_;refine dC ?_ ?_
     ·refine bR qH fun K1 hK1=> ?_;refine bS zero3 J (fun b11=> ?_)
      refine bS zero3 J (fun b12=> ?_);(refine aB2 yq (aB2 yq (aB6 xq qG qG ?_)));refine aB5 uq qG qG ?_;refine bA (v:= .int .i64 i) qE J J J (fun w hs=>by rw[ei,←hx];exact RdI.at (RdE.keep hu hs.chg0) (s-1) qG) ?_;(refine qf_set qE J J J J qF ?_;refine aB2 yq (aB2 yq ?_));refine aB5 uq qG qG ?_;refine bA (v:= .int .i64 j) qE J J J (fun w hs=>by rw[Int.toNat_natCast,←hy];exact RdI.at (RdE.keep hu hs.chg0) s hs4) ?_;(refine qf_set qE J J J J qF ?_;refine aT ?_);exact hK1 _ _ (iK (hK2 (b11,b12) _ _ ⟨J,J,J,J,J,trivial⟩ qF))
     ·refine bR qH fun K1 hK1=> ?_;refine bS zero3 J (fun b12=> ?_)
      refine bS zero3 J (fun b11=> ?_);(refine aB2 yq (aB2 yq (aB6 xq qG qG ?_)));refine aB5 uq qG qG ?_;refine bA (v:= .int .i64 i) qE J J J (fun w hs=>by rw[ei,←hx];exact RdI.at (RdE.keep hu hs.chg0) (s-1) qG) ?_;(refine qf_set qE J J J J qF ?_;refine aB2 yq (aB2 yq ?_));refine aB5 uq qG qG ?_;refine bA (v:= .int .i64 j) qE J J J (fun w hs=>by rw[Int.toNat_natCast,←hy];exact RdI.at (RdE.keep hu hs.chg0) s hs4) ?_;(refine qf_set qE J J J J qF ?_;refine aT ?_);exact hK1 _ _ (iK (hK2 (b11,b12) _ _ ⟨J,J,J,J,J,trivial⟩ qF))
    rintro⟨b11,b12⟩;dsimp only;by_cases hij:(j:Int)≤i
    ·(refine aD (aB ?_);(iterate 2 refine aL qE J J J ?_);refine kW qE J J J qG (aA1 vq ?_);(iterate 3 refine aA3 zq ?_);refine aA1 vq (aE (aH J (aD (aB (aA1 vq (aA1 vq (aE (aQ ?_)))))))))
     refine aA2 wq qF fun w hs=> ?_;have e:brkF rs most br=false:=by rw[←hs3];unfold brkF;rw[if_pos hij]
     exact⟨by rw[e];rfl,hs.chg0⟩
    ·(refine aD (aB ?_);(iterate 2 refine aL qE J J J ?_);refine gJ qE J J J qG (aA1 vq (aC J (aA1 vq (aC J (aA1 vq (aC J ?_)))))))
     refine aI (val:= .bool (rs.any fun row=>lD row most i j)) qE J J J J (fun w hs=> ?_) ?_;exact by have:=any_ca hs (t2:=3) qF qF (n2:=nV l) (fun row hr=>by rw[hxs] at hr;exact hrl row hr) qG (show j<nV l by omega) qG (hs.blk (b:=b11) qF) (hs.blk (b:=b12) qF);rw[hxs] at this;exact this
     cases han:(rs.any fun row=>lD row most i j) with
     | true=>
      (refine aA1 vq (aE (aH J (aD (aB (aA1 vq (aA1 vq (aE (aQ ?_)))))))))
      refine aA2 wq qF fun w hs=> ?_;have e:brkF rs most br=false:=by rw[←hs3];unfold brkF;rw[if_neg hij,Int.toNat_natCast,Int.toNat_natCast,if_pos han]
      exact⟨by rw[e];rfl,hs.chg0⟩
     | false=>
      (refine aA1 vq (aE (aF J (aJ (aW (aB (aA1 vq (aA4 xq qG qG (aA1 vq (aE ?_))))))))))
      exact hK (s+1) _ _ ⟨by omega,.inl qG,by
       rw[hd2,←hs3]
       conv=>rhs;unfold brkF
       rw[if_neg hij,Int.toNat_natCast,Int.toNat_natCast,if_neg (by rw[han];simp)]⟩ qG ⟨rfl,rfl,rfl,trivial⟩ qF
   ·have e:brkF rs most br=true:=by
     rw[←hs3]
     match hd:br.drop (s-1) with
     | []=>rfl
     | [x]=>rfl
     | x::y::r=>
      exfalso;have:=congrArg List.length hd;rw[List.length_drop] at this;simp at this;omega
    (refine aZ _ J (aD (aB ?_));(iterate 5 refine aA1 vq ?_);refine aE (aQ ?_))
    cases br with
    | nil=>
     refine aA2 wq qF fun w hs=> ?_;exact⟨by rw[e];rfl,hs.chg0⟩
    | cons x br=>
     refine aA2 wq qF fun w hs=> ?_;exact⟨by rw[e];simp[eW],hs.chg0⟩
 ·refine aI (val:= .tuple #[.slice none 0 0,.int .i64 (cJ l most)]) qE J J J J (fun w hs=> ?_) ?_;exact limited_no w lo hi _ l most (RdII.keep h hs.chg0) he;(refine aA1 vq (aA7 yq (aA7 yq (aA1 vq (aA1 vq (aE (aD (aK (aD (aB (aA1 vq (aB0 yq qG ?_)))))))))));refine aA1 vq (aE (aH J (aD (aB ?_))));(iterate 3 refine aA1 vq ?_);refine aE (aQ ?_));refine aA2 wq qF fun w hs=> ?_;exact⟨by rw[brk_no he];rfl,hs.chg0⟩
theorem set_ints(l:List Int)(k:Nat)(v:Int):(bF l).set k (.int .i64 v)=bF (l.set k v):=by simp[bF,List.map_set]
def CmpAt(w:World)(g:Nat)(cmp:Value)(key:Int→Int)(l:List Int):Prop:=∀w',ChgP (fun x=>x=g) w w'→∀a∈l,∀b∈l,CaF Tryz.prog cmp [.int .i64 a,.int .i64 b] w' fun v w2=>v= .int .i64 (key a-key b)∧Chg [] w' w2
theorem insF_ca(w:World)(g c:Nat)(l:List Int)(key:Int→Int)(cmp:Value)(h1:1≤l.length)(hl:l.length≤1000)(hI0:SrI key l l 1)(hcmp:CmpAt w g cmp key l)(hb:w.ownsRow 0 3 1 (aB7 g l.length c) l.length (bF l)) :
  Ca Tryz.prog 177 [aB7 g l.length c,.int .i64 0,.int .i64 l.length,cmp] w fun v w'=>∃L:List Int,(v= .tuple #[]∧L.Perm l∧SrtK key L)∧Sat w (fun x=>x=g) [.ow (aB7 g l.length c) 3 1 l.length (bF L)] w':=by
 refine cM (Sat.own0 hb) Tryz.func177 J (by simp[Tryz.ntmps177]) ?_;(refine aD (aB (aA1 vq (aA4 xq qG qG (aA1 vq (aE (aK ?_)))))))
 refine bD (σ:=Nat×List Int) (fun s=>1≤s.1∧s.1≤l.length∧SrI key l s.2 s.1) (fun s=>l.length-s.1) (fun s=>[(0,aB7 g l.length c),(1,.int .i64 0),(2,.int .i64 l.length),(3,cmp),(8,.int .i64 s.1)])
  (fun s=>[.ow (aB7 g l.length c) 3 1 l.length (bF s.2)]) (1,l) ⟨by simp,h1,hI0⟩ ⟨rfl,rfl,rfl,rfl,rfl,trivial⟩ qF ?_
 rintro⟨i,L⟩ ⟨hi1,hi2,hI⟩ K hK;simp only at hi1 hi2 hI;dsimp only;(refine aD (aD (aB ?_));(iterate 3 refine aA1 vq ?_);refine aE ?_);refine cP J (fun hc=> ?_) (fun hc=> ?_)
 ·have hi3:i<l.length:=by omega
  clear hc;(refine aJ (aD (aK (aD (aB (aA1 vq (aA1 vq (aE (aK ?_)))))))))
  refine bD (σ:=Nat×List Int) (fun s=>SrJ key l s.2 i s.1) (fun s=>s.1) (fun s=>[(0,aB7 g l.length c),(1,.int .i64 0),(2,.int .i64 l.length),(3,cmp),(8,.int .i64 i),(9,.int .i64 s.1)])
   (fun s=>[.ow (aB7 g l.length c) 3 1 l.length (bF s.2)]) (i,L) (hI.open hi3) ⟨rfl,rfl,rfl,rfl,rfl,rfl,trivial⟩ qF ?_
  rintro⟨j,L2⟩ hJ K2 hK2;simp only at hJ;dsimp only;have hji:=hJ.ji;have hlen:L2.length=l.length:=hJ.perm.length_eq;by_cases hj0:0<j
  ·have y1:j<L2.length:=by omega
   have y2:j-1<L2.length:=by omega
   have g1:=eI y1;have g2:=eI y2;obtain⟨q,hq⟩:∃q:Nat,(q:Int)=(j:Int)-1:=⟨j-1,by omega⟩;have hq2:j-1=q:=by omega
   simp only[hq2] at y2 g2;have hclose:=hJ.close;have hswap:=hJ.swap hj0 qG;simp only[hq2] at hclose hswap;(refine aD (aD ?_));refine bY _ [] (Sp.refl _) qI qI ?_;(refine aB2 yq (aB2 yq (jF qE J J J qG (aB2 yq (aN J (aB2 yq (aN J (aB2 yq (aN J (aB2 yq (aN J ?_)))))))))));refine aB5 uq qG qG ?_;(refine aN J ?_);refine bA (v:= .int .i64 L2[j]) qE J J J (fun w hs=>RdI.at (hs.rdI (v:=aB7 g l.length c) (l:=L2) (t:=3) (n:=l.length) qF hlen.symm) j y1) ?_;(refine aN J (aB2 yq (aN J (aB2 yq (aN J (aB6 xq qG qG (aN J ?_)))))));rw[←hq];refine aB5 uq qG qG ?_;(refine aN J ?_);refine bA (v:= .int .i64 L2[q]) qE J J J (fun w hs=>RdI.at (hs.rdI (v:=aB7 g l.length c) (l:=L2) (t:=3) (n:=l.length) qF hlen.symm) q y2) ?_;(refine aN J ?_);refine qf_callFv J J J (fun w' hs=>hcmp w' hs.chg _ (hJ.perm.subset (List.getElem_mem y1)) _ (hJ.perm.subset (List.getElem_mem y2))) ?_;by_cases hlt:key L2[j]-key L2[q]<0
   ·have hs2:=hswap (by rw[g1,g2];omega) g2 g1;(refine aN J (mH qE J J J qG (aB2 yq (aT (aH J (aJ (aD (aK ?_))))))));refine q_drawB [true,true,false,false,false,true,true,true,true,true,true,true,true,true,false,false,false,false] [] [.ow (aB7 g l.length c) 3 1 l.length (bF L2)] qF qI qI qI ?_;refine qb_T 2 J J (Sp.refl _) fun K1 hK1=> ?_
    (refine aB2 yq (aB2 yq (aT ?_)))
    refine hK1 _ _ (qb_F 3 [.ow (aB7 g l.length c) 3 1 l.length (bF L2)] J J qF fun K1 hK1=> ?_);(refine aB2 yq (aB2 yq (aB6 xq qG qG (aT ?_))));refine hK1 _ _ (qb_T 9 J J qF fun K1 hK1=> ?_);(refine aB2 yq (aB2 yq (aB6 xq qG qG ?_)));rw[←hq];(refine aB5 uq qG qG ?_;refine bA qE J J J (fun w hs=>RdI.at (hs.rdI (l:=L2) (t:=3) (n:=l.length) qF hlen.symm) q y2) ?_);(refine aB2 yq (aB2 yq ?_));(refine aB5 uq qG qG ?_;refine bA qE J J J (fun w hs=>RdI.at (hs.rdI (l:=L2) (t:=3) (n:=l.length) qF hlen.symm) j y1) ?_);(refine aT ?_);refine hK1 _ _ (qb_F 4 [.ow (aB7 g l.length c) 3 1 l.length (bF L2)] J J qF fun K1 hK1=> ?_);refine aB5 uq qG qG ?_;refine pD qE j J J J J qF qG (by simpa using y1) ?_;refine aB5 uq qG qG ?_;refine pD qE q J J J J qF qG (by simpa using y2) ?_;rw[set_ints,set_ints];(refine aT ?_);refine hK1 _ _ (qb_nil ?_);(refine aW (aB (aA1 vq (aA4 xq qG qG (aA1 vq (aE ?_))))));exact hK2 (q,_) _ _ hs2 (by simp only;omega) ⟨J,J,J,J,J,dI J qG,trivial⟩ qF
   ·have hI2:=hclose (.inr (by rw[g1,g2];omega));(refine aN J (jI qE J J J qG (aB2 yq (aT (aF J (aZ _ J (aW (aB (aA1 vq (aA4 xq qG qG (aA1 vq (aE ?_))))))))))));exact hK (i+1,L2) _ _ ⟨by simp only;omega,by simp only;omega,hI2⟩ (by simp only;omega) ⟨J,J,J,J,J,trivial⟩ qF
  ·have hI2:=hJ.close (.inl qG);obtain rfl:j=0:=by omega
   (refine aD (aD ?_))
   refine bY _ [] (Sp.refl _) qI qI ?_;(refine aB2 yq (aB2 yq (jH qE J J J qG (aB2 yq ?_)));(iterate 12 refine eF J J J ?_);refine aB2 yq (aT (aF J (aZ _ J (aW (aB (aA1 vq (aA4 xq qG qG (aA1 vq (aE ?_))))))))));exact hK (i+1,L2) _ _ ⟨by simp only;omega,by simp only;omega,hI2⟩ (by simp only;omega) ⟨J,J,J,J,J,trivial⟩ qF
 ·obtain rfl:i=l.length:=by omega
  (refine aZ _ J ?_)
  refine q_end qE J qF fun w hs=> ?_;exact⟨L,⟨J,hI.perm,hI.all⟩,hs⟩
theorem CmpAt.sub{w w':World}{g:Nat}{cmp:Value}{key:Int→Int}{l:List Int}(h:CmpAt w g cmp key l)(hc:ChgP (fun x=>x=g) w w'):CmpAt w' g cmp key l:=fun w2 hc2=>h w2 (hc.upP hc2 fun _ h=> .inl h)
theorem stable_ca(w:World)(g c:Nat)(l:List Int)(key:Int→Int)(cmp:Value)(h1:1≤l.length)(hl:l.length≤16)(hI0:SrI key l l 1)(hcmp:CmpAt w g cmp key l)(hb:w.ownsRow 0 3 1 (aB7 g l.length c) l.length (bF l)) :
  Ca Tryz.prog 169 [aB7 g l.length c,.int .i64 l.length,cmp] w fun v w'=>∃L:List Int,(v= .tuple #[]∧L.Perm l∧SrtK key L)∧Sat w (fun x=>x=g) [.ow (aB7 g l.length c) 3 1 l.length (bF L)] w':=by
 refine cM (Sat.own0 hb) Tryz.func169 J (by simp[Tryz.ntmps169]) ?_;(refine aD (aB (aA1 vq (aE (aD (aB ?_)))));(iterate 3 refine aA1 vq ?_);refine aE (aD (aK ?_)))
 refine bD (σ:=Unit) (fun _=>True) (fun _=>0) (fun _=>[(0,aB7 g l.length c),(1,.int .i64 l.length),(2,cmp),(6,.int .i64 20),(7,.int .i64 0),(8,.int .i64 20)])
  (fun _=>[.ow (aB7 g l.length c) 3 1 l.length (bF l)]) () trivial ⟨rfl,rfl,rfl,rfl,rfl,rfl,trivial⟩ qF ?_
 rintro _ _ K hK;clear hK;(refine aD (aD (aB (aA1 vq (aA1 vq (gH qE J J J qG (aE (aF J (aZ _ J (aD (aB ?_))))))))));(iterate 4 refine aA1 vq ?_));refine bB (β:=List Int) (ψ:=fun L v=>v= .tuple #[]∧L.Perm l∧SrtK key L) (L':=fun L=>[.ow (aB7 g l.length c) 3 1 l.length (bF L)]) qE [.ow (aB7 g l.length c) 3 1 l.length (bF l)] _ (fun x=>x=g) rfl rfl rfl rfl (Sp.cons qF (Sp.refl _)) (fun x hx=>⟨_,.head _,by subst hx;rfl⟩) (fun w' hs=>insF_ca w' g c l key cmp h1 qG hI0 (hcmp.sub hs.chg) (hs.all _ (.head _))) ?_;rintro L _ ⟨rfl,hp,hso⟩;dsimp only[List.cons_append,List.nil_append];(refine aE (aK ?_))
 refine bD (σ:=Unit) (fun _=>True) (fun _=>0) (fun _=>[(0,aB7 g l.length c),(1,.int .i64 l.length),(2,cmp),(6,.int .i64 20)])
  (fun _=>[.ow (aB7 g l.length c) 3 1 l.length (bF L)]) () trivial ⟨rfl,rfl,rfl,rfl,trivial⟩ qF ?_
 rintro _ _ K hK;clear hK;(refine aD (aD (aB (aA1 vq (aA1 vq (cS qE J J J qG (aE (aF J (aZ _ J ?_)))))))));refine q_end qE J qF fun w hs=> ?_
 exact⟨L,⟨J,hp,hso⟩,hs⟩
theorem sortF_ca(w:World)(g c:Nat)(l:List Int)(key:Int→Int)(cmp:Value)(h1:1≤l.length)(hl:l.length≤16)(hI0:SrI key l l 1)(hcmp:CmpAt w g cmp key l)(hb:w.ownsRow 0 3 1 (aB7 g l.length c) l.length (bF l)) :
  Ca Tryz.prog 150 [aB7 g l.length c,cmp] w fun v w'=>∃L:List Int,(v= .tuple #[]∧L.Perm l∧SrtK key L)∧Sat w (fun x=>x=g) [.ow (aB7 g l.length c) 3 1 l.length (bF L)] w':=by
 refine cM (Sat.own0 hb) Tryz.func150 J (by simp[Tryz.ntmps150]) ?_;(refine aB ?_;(iterate 4 refine aA1 vq ?_));refine bB (β:=List Int) (ψ:=fun L v=>v= .tuple #[]∧L.Perm l∧SrtK key L) (L':=fun L=>[.ow (aB7 g l.length c) 3 1 l.length (bF L)]) qE [.ow (aB7 g l.length c) 3 1 l.length (bF l)] _ (fun x=>x=g) rfl rfl rfl rfl (Sp.cons qF (Sp.refl _)) (fun x hx=>⟨_,.head _,by subst hx;rfl⟩) (fun w' hs=>stable_ca w' g c l key cmp h1 hl hI0 (hcmp.sub hs.chg) (hs.all _ (.head _))) ?_;rintro L _ ⟨rfl,hp,hso⟩;dsimp only[List.cons_append,List.nil_append];(refine aE ?_);refine q_end qE J qF fun w hs=> ?_;exact⟨L,⟨J,hp,hso⟩,hs⟩
theorem RdI.row'{w:World}{lo hi:Nat}{a:Option Addr}{n c:Nat}{l:List Int}(h:RdI w lo hi (.slice a n c) l):Rd w lo hi (.slice a n c) 1 n (bF l):=by
 have h1:=RdI.row h;obtain⟨a',c',e,_⟩:=RdI.outI h;injection e with e1 e2 e3
 rw[←e2] at h1;exact h1
theorem singles1_p(w:World)(c:List Int):PredAt Tryz.prog tab w (.func (.func 147) #[] #[]) (bF c) (fun x=>match x with | .int _ i=>inB i 0 100000|_=>false):=by
 refine⟨_,_,_,J,J,fun w' hw' x hx=> ?_⟩;obtain⟨i,hi,rfl⟩:=List.mem_map.1 hx;refine cM (Sat.nil w' M0) Tryz.func147 J (by simp[Tryz.ntmps147]) ?_;(refine aD (aB (aA1 vq (aE (aD (aB (aA1 vq ?_)))))));refine aI (val:= .bool (inB i 0 100000)) qE J J J J (fun w hs=> ?_) ?_;exact cL i 0 100000 w;(refine aA1 vq (aE (aQ ?_)));refine aA2 wq qF fun w hs=> ?_;exact⟨J,hs.chg0⟩
theorem mX(w:World)(lo hi:Nat)(v:Value)(st:List Int)(h:RdI w lo hi v st):Ca Tryz.prog 123 [v] w fun x w'=>x= .int .i64 (cD st)∧Chg [] w w':=by
 obtain⟨a,c,rfl,ha⟩:=RdI.outI h;refine cM (Sat.nil w M0) Tryz.func123 J (by simp[Tryz.ntmps123]) ?_;(refine aD (aB (aA1 vq (aE (aD (aK (aD (aB (aA1 vq (aA1 vq ?_))))))))));refine aI (val:= .bool (inB st.length 2 16)) qE J J J J (fun w hs=> ?_) ?_;exact cL st.length 2 16 w;cases h1:inB st.length 2 16 with
 | false=>
  (refine aA1 vq (aA1 vq ?_);(iterate 4 refine aA3 zq ?_);refine aA1 vq (aA1 vq (aE (aH J (aD (aB (aA1 vq (aE (aQ ?_)))))))))
  refine aA2 wq qF fun w hs=> ?_;exact⟨by simp[eW,cD,h1],hs.chg0⟩
 | true=>
  have h1':=bX.1 h1;by_cases h2:st.length%2=1
  ·(refine aA1 vq (aA1 vq (aC J (aA1 vq (aC J (aA1 vq (aC J (cV J J J qG qG (aC J (aA8 yq qG (aA1 vq (aA1 vq ?_)))))))))));refine aE (aH J (aD (aB (aA1 vq (aE (aQ ?_)))))))
   refine aA2 wq qF fun w hs=> ?_;exact⟨by simp[eW,cD,h1,h2],hs.chg0⟩
  ·(refine aA1 vq (aA1 vq (aC J (aA1 vq (aC J (aA1 vq (aC J (cV J J J qG qG (aC J (aA9 yq qG (aA1 vq (aA1 vq ?_)))))))))));refine aE (aF J (aD (aB (aA1 vq ?_)))))
   refine aI (val:= .bool (st.all fun n=>inB n 0 100000)) qE J J J J (fun w hs=> ?_) ?_;exact by have:=all_int w lo hi _ _ (bF st) _ (RdE.keep h hs.chg0) (by intro i hi;simp[bF,dA]) (by simp[bF];omega) (singles1_p w st);unfold bF at this;rw[List.all_map] at this;exact this
   have hn:¬(inB st.length 2 16&&(!decide (st.length%2=1)&&true))=false:=by rw[h1];simp[h2]
   cases h3:(st.all fun n=>inB n 0 100000) with
   | false=>
    (refine aA1 vq (aA1 vq (aE (aH J (aD (aB (aA1 vq (aE (aQ ?_)))))))))
    refine aA2 wq qF fun w hs=> ?_;exact⟨by unfold cD;rw[if_neg hn,if_pos h3];rfl,hs.chg0⟩
   | true=>
    (refine aA1 vq (aA1 vq (aE (aF J (aJ (aW (aD (aB (aA1 vq (aE (aQ ?_)))))))))))
    refine aA2 wq qF fun w hs=> ?_;exact⟨by unfold cD;rw[if_neg hn,if_neg (by rw[h3];simp)];rfl,hs.chg0⟩
theorem iota_succ(k:Nat):bF (eR (k+1))=bF (eR k)++[.int .i64 (k:Int)]:=by
 unfold eR bF;rw[List.range_succ,List.map_append,List.map_append]
 rfl
theorem sorted1_ca(w:World)(lo hi b t:Nat)(v:Value)(st:List Int)(h:RdI w lo hi v st)(hb:Blk w b [v] t)(hst:∀x∈st,0≤x∧x≤100000)(i j:Nat)(hi':i<st.length)(hj:j<st.length):Ca Tryz.prog 151 [.int .i64 i,.int .i64 j,aB8 b] w fun x w'=>x= .int .i64 (stK st i-stK st j)∧Chg [] w w':=by
 obtain⟨a,c,rfl,ha⟩:=RdI.outI h;obtain⟨ab,ao,rfl⟩:=ha qG;have e1:stK st i=st[i]:=by unfold stK;rw[Int.toNat_natCast,eI hi']
 have e2:stK st j=st[j]:=by unfold stK;rw[Int.toNat_natCast,eI hj]
 have b1:=hst _ (List.getElem_mem hi');have b2:=hst _ (List.getElem_mem hj);rw[e1,e2];refine cM (Sat.nil w M0) Tryz.func151 J (by simp[Tryz.ntmps151]) ?_;(refine aD (aB (aA1 vq (aE (aD ?_)))));refine bY _ [] (Sp.refl _) qI qI ?_;(refine mZ qE J J J (by assumption) (by rfl) ?_;refine aB2 yq ?_);refine aB5 uq qG qG ?_;refine bA (v:= .int .i64 st[i]) qE J J J (fun w hs=>RdI.at (RdE.keep h hs.chg0) i hi') ?_;(refine mZ qE J J J (by assumption) (by rfl) ?_;refine aB2 yq ?_);refine aB5 uq qG qG ?_;refine bA (v:= .int .i64 st[j]) qE J J J (fun w hs=>RdI.at (RdE.keep h hs.chg0) j hj) ?_;(refine aB6 xq qG qG (aB2 yq (aT (aQ ?_))));refine aA2 wq qF fun w hs=> ?_
 exact⟨J,hs.chg0⟩
theorem sorted_ca(w:World)(lo hi:Nat)(v:Value)(st:List Int)(h:RdI w lo hi v st)(hs0:SingOk st):Ca Tryz.prog 126 [v] w fun x w'=>∃y:Nat×Nat,x=aB7 y.1 st.length y.2∧Sat w M0 [.ow (aB7 y.1 st.length y.2) 3 1 st.length (bF (eE st))] w':=by
 have hl1:=hs0.l1;have hl2:=hs0.l2;obtain⟨a,c,rfl,ha⟩:=RdI.outI h;refine cM (Sat.nil w M0) Tryz.func126 J (by simp[Tryz.ntmps126]) ?_;(refine aD (aB ?_));refine bN J J (fun b1=> ?_);(refine aA1 vq (aE (aD (aB (aA1 vq (aE (aD (aD (aB ?_))))))));refine aL qE J J J ?_;refine aA1 vq (aA1 vq (aE (aK ?_))));refine cQ (H':=[.ow (.slice none 0 0) 3 1 0 (bF (eR 0)),.pt b1 [.slice a st.length c] 22]) (fun w' hs=>(Sat.ownil hs 3 1).sp qF) ?_
 refine bD (σ:=Nat×Value) (fun y=>y.1≤st.length) (fun y=>st.length-y.1) (fun y=>[(1,aB8 b1),(3,y.2),(7,.int .i64 st.length),(8,.int .i64 y.1)])
  (fun y=>[.ow y.2 3 1 y.1 (bF (eR y.1)),.pt b1 [.slice a st.length c] 22]) (0,.slice none 0 0) (by simp only;omega) ⟨rfl,rfl,rfl,rfl,trivial⟩ qF ?_
 rintro⟨k,u⟩ hk K hK;dsimp only at hk ⊢;(refine aD (aB (aA1 vq (aE (aD ?_)))));refine cP J (fun hc=> ?_) (fun hc=> ?_)
 ·have hk2:k<st.length:=by omega
  clear hc;(refine aJ (aD (aK (aD (aB (aA1 vq (aA1 vq (aE (aB (aA1 vq (aA1 vq ?_)))))))))));refine cI 3 [.int .i64 k] J qI J (fun bn=> ?_);refine bU (q:=1) (news:=[.int .i64 k]) slI J J J (fun v'=>by repeat constructor) (fun w' hs=>⟨_,_,Blk.rdN (hs.blk (b:=bn) qF) J⟩) (by simp[dA]) qG qG (fun u'=> ?_);(refine aA1 vq (aE (aW (aB (aA4 xq qG qG (aA1 vq (aE ?_)))))));exact hK (k+1,u') _ _ (by simp only;omega) (by simp only;omega) ⟨J,J,J,J,trivial⟩ (by dsimp only;rw[iota_succ];repeat constructor)
 ·obtain rfl:k=st.length:=by omega
  clear hc hK hk;refine dO (fun w hs=>hs.slice2 (v:=u) qF) ?_;rintro⟨ua,uc,rfl⟩;(refine aZ _ J (aD (aB (aA1 vq (aA1 vq ?_)))));refine nB slI J J J qG (fun b5=> ?_);(refine aA1 vq (aE (aD (aB (aA1 vq (aA1 vq ?_))))));refine ql_copyR (et:=3) (news:=bF (eR st.length)) (sz:=1) (o:=0) qI qI J J J qF (by simp[bF,fA]) (by simp[bF,dA]) (fun w hs=>⟨_,_,RdI.row' (hs.rdI (v:= .slice ua st.length uc) (l:=eR st.length) qF (fA _).symm)⟩) ?_
  have ec:List.take 0 (bF (List.replicate st.length 0))++bF (eR st.length)++List.drop (0+(bF (eR st.length)).length) (bF (List.replicate st.length 0))=bF (eR st.length):=by
   rw[List.take_zero,List.nil_append,List.drop_of_length_le (by simp[bF,fA]),List.append_nil]
  rw[ec];refine ql_conv (H':=[.ow (aB7 b5 st.length st.length) 3 1 st.length (bF (eR st.length)),.ow (.slice ua st.length uc) 3 1 st.length (bF (eR st.length)),.pt b1 [.slice a st.length c] 22]) (fun w' hs=>Sat.pt_ow (m:=st.length) (by simp[bF,fA]) qG hs) ?_;(refine aE (aD (aB (aA1 vq (aA1 vq ?_)))))
  refine bB (β:=List Int) (ψ:=fun L v=>v= .tuple #[]∧L.Perm (eR st.length)∧SrtK (stK st) L) (L':=fun L=>[.ow (aB7 b5 st.length st.length) 3 1 st.length (bF L)]) qE [.ow (aB7 b5 st.length st.length) 3 1 st.length (bF (eR st.length))] _ (fun x=>x=b5) rfl rfl rfl rfl (Sp.cons qF (Sp.refl _)) (fun x hx=>⟨_,.head _,by subst hx;rfl⟩) (fun w' hs=>by
   have hcmp:CmpAt w' b5 (.func (.func 151) #[] #[aB8 b1]) (stK st) (eR st.length):=fun w2 hc2 x hx y hy=>by
    have hx2:=iota_mem.1 hx;have hy2:=iota_mem.1 hy;have hc3:ChgP (DL [Ck.ow (aB7 b5 st.length st.length) 3 1 st.length (bF (eR st.length))]) w' w2:=(ChgP.refl _ w').upP hc2 fun k hk=> .inl ⟨_,.head _,by subst hk;rfl⟩
    have hb1:Blk w2 b1 [.slice a st.length c] 22:=hs.aside hc3 (x:= .pt b1 [.slice a st.length c] 22) qF;have hc4:=hs.asideOld hc3;obtain⟨i,rfl⟩:=Int.eq_ofNat_of_zero_le hx2.1;obtain⟨j,rfl⟩:=Int.eq_ofNat_of_zero_le hy2.1;exact CaF.of qE J (sorted1_ca w2 lo hi b1 _ _ st (RdE.keep h hc4) hb1 hs0.num i j qG qG)
   have:=sortF_ca w' b5 st.length (eR st.length) (stK st) (.func (.func 151) #[] #[aB8 b1]) (by rw[fA];omega) (by rw[fA];omega) (SrI.start _) hcmp (by rw[fA];exact hs.all _ (.head _));rw[fA] at this;exact this) ?_
  rintro L _ ⟨rfl,hp,hso⟩;have hL:L=eE st:=ordK_eq hp hso;subst hL;dsimp only[List.cons_append,List.nil_append];(refine aE (aD (aB (aA1 vq (aA1 vq (aE (aQ ?_)))))));refine aA2 wq qF fun w hs=> ?_
  exact⟨(b5,st.length),J,hs.sp qF⟩
theorem sl2:SlT Tryz.prog 38 37 2 16 (.agg #[.int .i64 0,.int .i64 0]):=⟨by kernel_rfl,by kernel_rfl,by kernel_rfl,by decide⟩
theorem iI(st:List Int):(eE st).length=st.length:=ordK_len _ _
theorem soft_in{st:List Int}{i:Nat}(hi:i<(eE st).length):0≤(eE st)[i]∧(eE st)[i]<st.length:=ordK_mem.1 (List.getElem_mem hi)
theorem cost_step{st L:List Int}{k:Nat}(h:k+1<L.length):costF st (L.drop k)=costF st (L.drop (k+2))+(st.getD (L[k+1]).toNat 0-st.getD (L[k]'qG).toNat 0):=by
 rw[List.drop_eq_getElem_cons (i:=k) qG,List.drop_eq_getElem_cons (i:=k+1) h]
 rfl
theorem match_no(w:World)(lo hi:Nat)(v:Value)(st:List Int)(h:RdI w lo hi v st)(hne:cD st≠0):Ca Tryz.prog 69 [v] w fun x w'=>x= .tuple #[.slice none 0 0,.int .i64 0,.int .i64 (cD st)]∧Chg [] w w':=by
 refine cM (Sat.nil w M0) Tryz.func69 J (by simp[Tryz.ntmps69]) ?_;(refine aD (aB ?_);(iterate 3 refine aA1 vq ?_);refine aE (aD (aD (aB (aA1 vq ?_)))));refine aI (val:= .int .i64 (cD st)) qE J J J J (fun w hs=> ?_) ?_;exact mX w lo hi v st (RdE.keep h hs.chg0);(refine aA1 vq (aE (aD (aB (aA1 vq (aB0 yq qG (aE (aH J (aD (aB ?_)))))))));(iterate 4 refine aA1 vq ?_);refine aE (aQ ?_));refine aA2 wq qF fun w hs=> ?_;exact⟨J,hs.chg0⟩
def tK23_8fecd85:OT:=bO [1,2,3,4,5,6,7,8,9,10,11,0,12,13] (.nil)
theorem match_ok(w:World)(lo hi:Nat)(v:Value)(st:List Int)(h:RdI w lo hi v st)(hs0:SingOk st):Ca Tryz.prog 69 [v] w fun x w'=>∃u:Value,x= .tuple #[u,.int .i64 (costF st (eE st)),.int .i64 0]∧Sat w M0 [.ow u 37 2 (st.length/2) (bF (eE st))] w':=by
 have hl1:=hs0.l1;have hl2:=hs0.l2;have hev:=hs0.ev;obtain⟨a,c,rfl,ha⟩:=RdI.outI h;obtain⟨ab,ao,rfl⟩:=ha qG;refine cM (Sat.nil w M0) Tryz.func69 J (by simp[Tryz.ntmps69]) ?_;(refine aD (aB ?_);(iterate 3 refine aA1 vq ?_);refine aE (aD (aD (aB (aA1 vq ?_)))));refine aI (val:= .int .i64 0) qE J J J J (fun w hs=> ?_) ?_;exact by have:=mX w lo hi _ st (RdE.keep h hs.chg0);rw[gP.2 hs0] at this;exact this
 (refine aA1 vq (aE (aD (aB (aA1 vq (aB1 yq qG (aE (aF J (aJ (aD (aB (aA1 vq ?_)))))))))));refine aE (aD (aB (aA1 vq (aE (aD (aB (aA1 vq ?_))))))))
 refine bB (β:=Nat×Nat) qE [] _ M0 J J J J (Sp.refl _) qJ (fun w' hs=>sorted_ca w' lo hi _ st (RdE.keep h hs.chg0) hs0) ?_;rintro⟨g,gc⟩ _ rfl;dsimp only[List.cons_append,List.nil_append];have hLl:=iI st;have hin:∀i (hi:i<(eE st).length),0≤(eE st)[i]∧(eE st)[i]<st.length:=fun i hi=>soft_in hi
 generalize hL:eE st=L at *;(refine aA1 vq (aE (aD (aD (aB (aA1 vq (aE (aK ?_))))))));refine cQ (H':=[.ow (.slice none 0 0) 37 2 0 (bF (L.take (2*0))),.ow (aB7 g st.length gc) 3 1 st.length (bF L)]) (fun w' hs=>by rw[Nat.mul_zero,List.take_zero];exact Sat.ownil hs 37 2) ?_
 refine bD (σ:=Nat×Value×Int) (fun y=>2*y.1≤st.length∧y.2.2+costF st (L.drop (2*y.1))=costF st L∧ -1000000*(y.1:Int)≤y.2.2∧y.2.2≤1000000*y.1) (fun y=>st.length-2*y.1)
  (fun y=>[(0,.slice (some ⟨ab,ao,none⟩) st.length c),(6,y.2.1),(7,.int .i64 y.2.2),(8,aB7 g st.length gc),(9,.int .i64 (2*y.1:Nat))])
  (fun y=>[.ow y.2.1 37 2 y.1 (bF (L.take (2*y.1))),.ow (aB7 g st.length gc) 3 1 st.length (bF L)]) (0,.slice none 0 0,0) ⟨by simp only;omega,by simp,by simp,by simp⟩ ⟨rfl,rfl,rfl,rfl,rfl,trivial⟩ qF ?_
 rintro⟨k,u,cost⟩ ⟨hk,hcost,hc1,hc2⟩ K hK;dsimp only at hk hcost hc1 hc2 ⊢;(refine aD (aD (aB ?_));(iterate 4 refine aA1 vq ?_);refine aE ?_);refine cP J (fun hc=> ?_) (fun hc=> ?_)
 ·have hk2:2*k+1<L.length:=by omega
  have hk3:2*k<L.length:=by omega
  clear hc;have i1:=hin (2*k) hk3;have i2:=hin (2*k+1) hk2;have hstep:=cost_step (st:=st) hk2
  have ht:L.take (2*(k+1))=L.take (2*k)++[L[2*k],L[2*k+1]]:=by
   rw[show 2*(k+1)=2*k+1+1 from by omega,List.take_succ_eq_append_getElem hk2,List.take_succ_eq_append_getElem hk3,List.append_assoc]
   rfl
  obtain⟨x,hx⟩:=Int.eq_ofNat_of_zero_le i1.1;obtain⟨y,hy⟩:=Int.eq_ofNat_of_zero_le i2.1;rw[hx] at i1 ht hstep;rw[hy] at i2 ht hstep;rw[Int.toNat_natCast,Int.toNat_natCast,eI qG,eI qG] at hstep;have hx4:x<st.length:=by omega
  have hy4:y<st.length:=by omega
  have n1:=hs0.num _ (List.getElem_mem hx4);have n2:=hs0.num _ (List.getElem_mem hy4);have ex:∀w',Sat w M0 [.ow u 37 2 k (bF (L.take (2*k))),.ow (aB7 g st.length gc) 3 1 st.length (bF L)] w'→True:=fun _ _=>trivial
  (refine aJ (aD (aK (aD ?_))))
  refine kL (σ:=Value) (fun u'=>[(0,.slice (some ⟨ab,ao,none⟩) st.length c),(6,u'),(7,.int .i64 cost),(8,aB7 g st.length gc),(9,.int .i64 (2*k:Nat))])
   (fun u'=>[.ow u' 37 2 (k+1) (bF (L.take (2*(k+1)))),.ow (aB7 g st.length gc) 3 1 st.length (bF L)]) ?_ ?_
  rotate_left
  ·intro K2 hK2;refine jJ (tK23_8fecd85) _ [.ow u 37 2 k (bF (L.take (2*k)))] (Sp.cons qF (Sp.refl _)) qI qI ?_;refine bR qH fun K1 hK1=> ?_
   (refine aB2 yq (aB2 yq ?_))
   refine aB5 uq qG qG ?_;refine bA (v:= .int .i64 x) qE J J J (fun w hs=>by rw[←hx];exact RdI.at (hs.rdI (v:=aB7 g st.length gc) (l:=L) (t:=3) (n:=st.length) qF hLl.symm) (2*k) hk3) ?_;(refine aB2 yq (aB2 yq (aB6 xq qG qG ?_)));refine aB5 uq qG qG ?_;refine bA (v:= .int .i64 y) qE J J J (fun w hs=>by rw[←hy,show((2*k:Nat)+1:Int).toNat=2*k+1 from by omega];exact RdI.at (hs.rdI (v:=aB7 g st.length gc) (l:=L) (t:=3) (n:=st.length) qF hLl.symm) (2*k+1) hk2) ?_;refine qf_mk #[.int .i64 x,.int .i64 y] J qI J ?_;refine qB 37 [.int .i64 x,.int .i64 y] J qI J (fun bn=> ?_);(refine aB2 yq ?_);refine fG (q:=1) (news:=[.int .i64 x,.int .i64 y]) sl2 J J J (fun v'=>by repeat constructor) (fun w' hs=>⟨_,_,Blk.rdN (hs.blk (b:=bn) qF) J⟩) (by simp[dA]) qG qG (fun u'=> ?_);(refine aB2 yq (aT ?_));exact hK1 _ _ (iK (hK2 u' _ _ ⟨J,J,J,J,J,trivial⟩ (by rw[ht];simp only[bF,List.map_append];repeat constructor)))
  intro u';refine bY _ [] (Sp.refl _) qI qI ?_
  ((iterate 4 refine aB2 yq ?_);refine aB6 xq qG qG ?_)
  refine aB5 uq qG qG ?_;refine bA (v:= .int .i64 y) qE J J J (fun w hs=>by rw[←hy,show((2*k:Nat)+1:Int).toNat=2*k+1 from by omega];exact RdI.at (hs.rdI (v:=aB7 g st.length gc) (l:=L) (t:=3) (n:=st.length) qF hLl.symm) (2*k+1) hk2) ?_;refine aB5 uq qG qG ?_;refine bA (v:= .int .i64 st[y]) qE J J J (fun w hs=>RdI.at (RdE.keep h hs.chg0) y hy4) ?_
  ((iterate 3 refine aB2 yq ?_))
  refine aB5 uq qG qG ?_;refine bA (v:= .int .i64 x) qE J J J (fun w hs=>by rw[←hx];exact RdI.at (hs.rdI (v:=aB7 g st.length gc) (l:=L) (t:=3) (n:=st.length) qF hLl.symm) (2*k) hk3) ?_;refine aB5 uq qG qG ?_;refine bA (v:= .int .i64 st[x]) qE J J J (fun w hs=>RdI.at (RdE.keep h hs.chg0) x hx4) ?_;(refine aB6 xq qG qG (aB6 xq qG qG (aB2 yq (aT (aW (aB (aA1 vq (aA4 xq qG qG (aA1 vq (aE ?_))))))))));exact hK (k+1,u',cost+(st[y]-st[x])) _ _ ⟨by simp only;omega,by simp only;rw[show 2*(k+1)=2*k+2 from by omega];omega,by simp only;omega,by simp only;omega⟩ (by simp only;omega) ⟨J,J,J,J,dI J (by simp only;omega),trivial⟩ qF
 ·have hk4:2*k=L.length:=by omega
  have hk5:k=st.length/2:=by omega
  rw[hk4,List.drop_length,show costF st []=0 from rfl,Int.add_zero] at hcost;rw[hk4,List.take_length,hk5];clear hc;(refine aZ _ J (aD (aB ?_));(iterate 5 refine aA1 vq ?_);refine aE (aQ ?_));refine aA2 wq qF fun w hs=> ?_
  exact⟨u,by rw[←hcost];rfl,hs.sp qF⟩
end Go.Proofs.YtoljppohibpenaaGreat
