import Derived.Test.YtoljppohibpenaaGreatJ6
import Derived.Shelf.Slices.In.SortNone
set_option linter.unusedVariables false
set_option maxHeartbeats 16000000
namespace Go.Proofs.YtoljppohibpenaaGreat
open Go Go.Eng
set_option maxRecDepth 4000
open Go Go.Eng
def RoR(l:Lb)(c:List Int)(e:Int):Prop:=(cG l≠0∧c=[]∧e=cG l)∨(l.Ok∧NoC l.ord l.n∧c=[]∧e=6)∨(l.Ok∧e=0∧∃s:Nat,s<l.n∧fa l.ord s s=true∧Short l s s c)
theorem round_ca(w:World)(lo hi:Nat)(l:Lb)(v:Value)(h:RdR w lo hi v l.runs)(hlen:l.runs.length≤maxLen) :
  Ca Tryz.prog 31 [.agg (lbC l v).toArray] w fun x w'=>∃y:Value×List Int×Int,(x= .tuple #[y.1,.int .i64 y.2.2]∧RoR l y.2.1 y.2.2)∧Sat w M0 [.ow y.1 3 1 y.2.1.length (bF y.2.1)] w':=by
 refine cM (Sat.nil w M0) Tryz.func31 J (by simp[Tryz.ntmps31]) ?_;(refine aD (aB ?_));refine bN J J (fun b3=> ?_);rw[bG];(refine aA1 vq (aA1 vq (aE (aD (aB ?_))));refine aM qE J J J ?_);by_cases h2:cG l=0
 ·have hl:=dG.1 h2;have h8:=hl.n8;refine bB (β:=Nat) qE [] _ M0 J J J J (Sp.refl _) qJ (fun w' hs=>nE w' lo hi l v (RdE.keep h hs.chg0) hl) ?_;rintro d _ rfl;dsimp only[List.cons_append,List.nil_append];(refine aA1 vq (aA7 yq (aA7 yq (aA1 vq (aA1 vq (aE (aD (aD (aB (aA1 vq (aB1 yq qG (aE ?_)))))))))));refine aF J (aJ (aD (aB (aA1 vq ?_)))));refine aI (val:= .int .i64 (confV l.ord l.n)) qE J J J J (fun w hs=> ?_) ?_;exact nZ w d 134 l v l.ord (hs.blk qF) hl;by_cases hc0:∃s,s<l.n∧fa l.ord s s=true∧∀t,t<s→fa l.ord t t=false
  ·obtain⟨s,hs1,hs2,hs3⟩:=hc0;rw[conf_some hs1 hs2 hs3];(refine aA1 vq (aE (aD (aD (aB (aA1 vq (cS qE J J J qG (aE (aF J (aJ (aD (aB ?_)))))))))));(iterate 3 refine aA1 vq ?_))
   refine bB (β:=Nat×Nat×List Int) (ψ:=fun y x=>x=aB7 y.1 y.2.2.length y.2.1∧Short l s s y.2.2) (L':=fun y=>[.ow (aB7 y.1 y.2.2.length y.2.1) 3 1 y.2.2.length (bF y.2.2)]) qE [] _ M0 J J J J (Sp.refl _) qJ (fun w' hs=>by
    have hch:=chain_ca w' d lo hi l v l.ord 134 (hs.blk qF) (RdE.keep h hs.chg0) hl s s qG qG;refine hch.mono fun x w2 hx=> ?_
    rcases hx with⟨g1,g2,g3⟩|⟨g,cp,c,g1,g2,g3⟩
    ·exfalso;obtain⟨k,hk⟩:=fa_wk hl qG qG hs2;obtain⟨c,hc1,hc2⟩:=wk_lead _ _ hk;exact g2 c (fun e=>by rw[e] at hc1;simp at hc1) hc2
    ·exact⟨(g,cp,c),⟨g1,g2⟩,by rw[g1] at g3;exact g3⟩) ?_
   rintro y x ⟨rfl,hsh⟩;obtain⟨g,cp,c⟩:=y;dsimp only[List.nil_append,List.cons_append];(refine aA1 vq (aA1 vq (aE (aQ ?_))));refine aA2 wq qF fun w hs=> ?_
   exact⟨(aB7 g c.length cp,c,0),⟨J,.inr (.inr ⟨hl,J,s,hs1,hs2,hsh⟩)⟩,hs.sp qF⟩
  ·have hno:NoC l.ord l.n:=fK.1 (Bool.eq_false_iff.2 fun hh=>by
    have h5:=conf_iff.2 hh;unfold confV at h5;split at h5
    ·rename_i s hs
     obtain⟨h6,h7,h9⟩:=List.find?_range_eq_some.1 hs;exact hc0 ⟨s,List.mem_range.1 h7,h6,fun t ht=>by simpa using h9 t ht⟩
    ·omega)
   rw[conf_none hno];(refine aA1 vq (aE (aD (aD (aB (aA1 vq (dU qE J J J qG (aE (aH J (aD (aB (aA1 vq ?_)))))))))));refine aA1 vq (aE (aQ ?_)));refine aA2 wq qF fun w hs=> ?_
   exact⟨(.slice none 0 0,[],6),⟨J,.inr (.inl ⟨hl,hno,J,J⟩)⟩,Sat.ownil (hs.sp qF) _ _⟩
 ·refine aI (val:= .tuple #[.pointer none,.int .i64 (cG l)]) qE J J J J (fun w hs=> ?_) ?_;exact asked_no w lo hi l v (RdE.keep h hs.chg0) hlen h2;(refine aA1 vq (aA7 yq (aA7 yq (aA1 vq (aA1 vq (aE (aD (aD (aB (aA1 vq (aB0 yq qG (aE ?_)))))))))));refine aH J (aD (aB ?_));(iterate 3 refine aA1 vq ?_);refine aE (aQ ?_));refine aA2 wq qF fun w hs=> ?_;exact⟨(.slice none 0 0,[],cG l),⟨J,.inl ⟨h2,J,J⟩⟩,Sat.ownil (hs.sp qF) _ _⟩
def agI(l:Lb)(s S:Nat)(pre:List (Nat×Int×Int)):List Nat:=(pre.filter (agB s S)).map (·.1)
theorem agI_snoc(l:Lb)(s S:Nat)(pre:List (Nat×Int×Int))(x:Nat×Int×Int):agI l s S (pre++[x])=agI l s S pre++(if agB s S x=true then[x.1] else[]):=by
 unfold agI;rw[List.filter_append,List.map_append,List.filter_cons];split<;>rfl
theorem agI_len(l:Lb)(s S:Nat)(pre:List (Nat×Int×Int)):(agI l s S pre).length≤pre.length:=by
 unfold agI;rw[List.length_map];exact List.length_filter_le _ _
theorem shL_len(l:Lb):(shL l).length≤l.runs.length:=by
 have:=List.length_filterMap_le (fun i=>(lH l.err (l.runs.getD i ⟨0,0,0⟩)).map fun p=>(i,p)) (List.range l.runs.length);rw[List.length_range] at this;exact this
theorem against_ca(w:World)(b:Nat)(lo hi:Nat)(l:Lb)(v:Value)(o:Nat)(t:TypeId)(hb:Blk w b (dkC l v o) t)(h:RdR w lo hi v l.runs)(hl:l.Ok)(s S:Nat)(hs8:s<8)(hS:S<256) :
  Ca Tryz.prog 91 [aB8 b,.int .i64 s,.int .i64 S] w fun x w'=>∃u:Value,x=u∧Sat w M0 [.ow u 3 1 (agL l s S).length (bF (chI (agL l s S)))] w':=by
 have hlen:l.runs.length≤40:=hl.len
 have hbd:∀k:Nat,0≤(S:Int)/2^(k:Int).toNat∧(S:Int)/2^(k:Int).toNat<9223372036854775808:=fun k=>by
  have h1:(0:Int)≤(S:Int)/2^(k:Int).toNat:=Int.ediv_nonneg qG (Int.pow_nonneg qG);have h2:(S:Int)/2^(k:Int).toNat≤S:=Int.ediv_le_self _ qG;omega
 refine q_ofM (Sat.nil w M0) Tryz.func91 J (by simp[Tryz.ntmps91]) ?_;(refine aD (aB ?_));refine bN J J (fun b4=> ?_);refine bN J J (fun b5=> ?_);(refine aA1 vq (aE (aD (aB ?_))));refine bJ zero22 J (fun b7=> ?_);(refine aE (aD (aD (aB ?_)));(iterate 3 refine aA1 vq ?_);refine ql_loadPA qE J J J (by assumption) (by rfl) (by rfl) ?_);refine bB (β:=Nat) qE [] _ M0 J J J J (Sp.refl _) qJ (fun w' hs=>shown_ca w' l v) ?_;rintro bs _ rfl;dsimp only[List.cons_append,List.nil_append];(refine aE (aK ?_));refine cQ (H':=[.ow (.slice none 0 0) 3 1 (agI l s S []).length (bF (chI (agI l s S []))),.pt b7 [.slice none 0 0] 22,.pt b4 [.int .i64 s] 3,.pt b5 [.int .i64 S] 3,.pt bs (lbC l v) 25]) (fun w' hs=>(Sat.ownil hs 3 1).sp qF) ?_
 refine q_range shE (List Nat×Value) (shL l) (fun pre z=>z.1=agI l s S pre) (fun _ _=>False) (fun z=>[.ow z.2 3 1 z.1.length (bF (chI z.1)),.pt b7 [z.2] 22]) [.pt b4 [.int .i64 s] 3,.pt b5 [.int .i64 S] 3,.pt bs (lbC l v) 25] ([],.slice none 0 0)
  rfl qI rfl (fun _ _=>rfl) rfl qF ?_ ?_ ?_ (fun _ _ _ h=>h.elim)
 ·intro w1 D hs hD;exact shown_it w w1 D lo hi bs l v h ⟨hl.e0,hl.e1⟩ (by have:=hl.len;omega) (fun w' hc=>hs.chg0.old hc (fun k hk=>(hD k hk).2.resolve_left (fun h=>h))) (hs.blk qF) (fun h=>(hD _ h).1 ⟨.pt bs (lbC l v) _,qF,J⟩)
 ·rintro pre ⟨i,p1,p2⟩ post ⟨L,vm⟩ w1 lb rdy bsy K F' hx hB hsat hR hbegin hend hret hexit;dsimp only at hB hend hexit hbegin ⊢;have hxm:(i,p1,p2)∈shL l:=by rw[hx];simp
  have hxl:=shL_in hl _ hxm;have h8:=hl.s1
  have hLl:L.length≤40:=by
   have h1:=agI_len l s S pre;have h2:=shL_len l;rw[hx,List.length_append] at h2;rw[hB];omega
  obtain⟨f,hf⟩:=Int.eq_ofNat_of_zero_le hxl.1;obtain⟨g,hg⟩:=Int.eq_ofNat_of_zero_le hxl.2.2.1;dsimp only at hf hg hxl;subst hf hg;have hg8:g<8:=by omega
  have hsn:=agI_snoc l s S pre (i,(f:Int),(g:Int));rw[←hB] at hsn;dsimp only[shE,List.zip_cons_cons,List.zip_nil_left,List.zip_nil_right,List.foldl_cons,List.foldl_nil];(refine aD (aB (aA1 vq (aE (aB ?_)))));refine bJ kY J (fun b12=> ?_);(refine aA6 uq qF J ?_;refine aE ?_);refine cQ (H':=[rdy,.pt b12 [.int .i64 f,.int .i64 g] 62,.ow vm 3 1 L.length (bF (chI L)),.pt b7 [vm] 22]) (fun w' hs=>hs.sp qF) ?_;refine hbegin _ _ ?_;(refine aK (aD (aB (aA1 vq ?_)));refine aL qE J J J ?_);refine bC (v:= .int .i64 s) qE J J J (fun w hs=>by rw[Blk.cell ((hR w hs.chg).blk (b:=b4) (cs:=[.int .i64 s]) (t:=3) qF)];rfl) ?_;by_cases hfs:f=s
  ·cases hbg:S.testBit g with
   | true=>
    have e:agB s S (i,(f:Int),(g:Int))=true:=by
     unfold agB;rw[Int.toNat_natCast,Int.toNat_natCast,hbg,decide_eq_true hfs];rfl
    rw[if_pos e] at hsn;(refine aA8 yq qG (aA1 vq (aC J ?_)));refine bC (v:= .int .i64 S) qE J J J (fun w hs=>by rw[Blk.cell ((hR w hs.chg).blk (b:=b5) (cs:=[.int .i64 S]) (t:=3) qF)];rfl) ?_;(refine aC J (aA1 vq (aC J ?_));refine aL qE J J J ?_;refine aC J ?_);refine ql_shr J J J qG qG ?_;(refine aC J ?_);refine ql_and1 J J J (hbd _) ?_;rw[bit_int,hbg,show(((true).toNat:Nat):Int)=1 from rfl];(refine aC J (aA8 yq qG (aA1 vq (aE (aH J (aB ?_)))));refine aL qE J J J ?_;refine aA1 vq ?_);refine cI 3 [.int .i64 i] J qI J (fun bn=> ?_);refine bU (q:=1) (news:=[.int .i64 i]) slI J J J (fun v'=>by repeat constructor) (fun w' hs=>⟨_,_,Blk.rdN (hs.blk (b:=bn) qF) J⟩) (by simp[dA]) qG qG (fun u'=> ?_);refine bW (fun w' hs=>hs.own_one (v:=u') qF) (fun hone=> ?_);refine cN qE J J J hone qF (by simp) ?_;(refine aE (aW ?_));exact hend _ _ (L++[i],u') hsn.symm (by dsimp only;rw[List.length_append,List.length_singleton,chI_add];repeat constructor)
   | false=>
    have e:¬agB s S (i,(f:Int),(g:Int))=true:=by
     unfold agB;rw[Int.toNat_natCast,Int.toNat_natCast,hbg,Bool.and_false];simp
    rw[if_neg e,List.append_nil] at hsn;(refine aA8 yq qG (aA1 vq (aC J ?_)));refine bC (v:= .int .i64 S) qE J J J (fun w hs=>by rw[Blk.cell ((hR w hs.chg).blk (b:=b5) (cs:=[.int .i64 S]) (t:=3) qF)];rfl) ?_;(refine aC J (aA1 vq (aC J ?_));refine aL qE J J J ?_;refine aC J ?_);refine ql_shr J J J qG qG ?_;(refine aC J ?_);refine ql_and1 J J J (hbd _) ?_;rw[bit_int,hbg,show(((false).toNat:Nat):Int)=0 from rfl];(refine aC J (aA9 yq qG (aA1 vq (aE (aF J (aJ (aW ?_)))))));exact hend _ _ (L,vm) hsn.symm qF
  ·have e:¬agB s S (i,(f:Int),(g:Int))=true:=by
    unfold agB;rw[Int.toNat_natCast,decide_eq_false hfs,Bool.false_and];simp
   rw[if_neg e,List.append_nil] at hsn;(refine aA9 yq qG (aA1 vq ?_);(iterate 6 refine aA3 zq ?_);refine aA1 vq (aE (aF J (aJ (aW ?_)))));exact hend _ _ (L,vm) hsn.symm qF
 ·rintro D ⟨L,vm⟩ hI;dsimp only at hI ⊢;obtain rfl:L=agL l s S:=hI;(refine aW (aD (aB ?_));refine aL qE J J J ?_;refine aA1 vq (aE (aQ ?_)));refine q_finMD qE qF J qF fun w hs=> ?_
  exact⟨vm,J,hs.sp qF⟩
theorem sort_ca(w:World)(g c:Nat)(l:List Int)(hl:l.length≤1000000)(hb:w.ownsRow 0 3 1 (aB7 g l.length c) l.length (bF l)) :
  Ca Tryz.prog 92 [aB7 g l.length c] w fun v w'=>∃L:List Int,(v= .tuple #[]∧L.Perm l∧L.Pairwise (· ≤ ·))∧Sat w (fun x=>x=g) [.ow (aB7 g l.length c) 3 1 l.length (bF L)] w':=by
 have hs0:=Sat.own0 hb;obtain⟨hlen,h2⟩:=hb;rcases h2 with⟨h3,_⟩|⟨g',cap,cur,h3,h4,h5,h6,h7,h8,h9⟩
 ·injection h3 with h3 _ _
  cases h3
 ·injection h3 with e1 _ e3
  injection e1 with e1
  injection e1 with e1 _ _
  subst e1 e3;have hg:g<w.heap.size:=(Array.getElem?_eq_some_iff.1 h5).1
  have hcell:∀j (hj:j<l.length),cur[j]? =some (.int .i64 l[j]):=fun j hj=>by
   have h10:(cur.toList.take (l.length*1))[j]? =(bF l)[j]? :=by rw[h9]
   rw[List.getElem?_take_of_lt qG] at h10;rw[←Array.getElem?_toList,h10];simp[bF,hj]
  have hH:Go.Sort.Holds (Value.int .i64) w g 0 l.toArray:=fun j hj=>by
   have hj2:j<l.length:=by simpa using hj
   refine⟨?_,?_⟩
   ·have h11:l.toArray[j]! =l[j]:=by
     rw[getElem!_pos l.toArray j hj];simp
    rw[h11];have h12:=hcell j hj2;simp only[World.cell?,h5,Nat.zero_add];simpa using h12
   ·simp[World.frozen?,h5]
  have hc:=Any.slices_Sort_int lays189 g 0 c l w hH hg qG;refine Calls.mono (show Calls Tryz.prog 92 _ w _ from hc) ?_;rintro e w' ⟨rfl,n,os,rfl⟩;refine⟨_,J,l.mergeSort (fun x y=>decide (x≤y)),⟨J,List.mergeSort_perm _ _,?_⟩,?_⟩
  ·have:=List.pairwise_mergeSort (le:=fun x y:Int=>decide (x≤y)) (by intro a b c h1 h2;simp at *;omega) (by intro a b;simp;omega) l;exact this.imp (by intro a b h;simpa using h)
  ·have hL:(l.mergeSort (fun x y=>decide (x≤y))).length=l.length:=List.length_mergeSort _;generalize l.mergeSort (fun x y=>decide (x≤y))=L at hL
   have hhp:∀k,k<w.heap.size→(Go.Sort.grow (Go.Sort.putRow (Value.int .i64) (Go.Sort.ahead w n) g 0 L.toArray) os).heap[k]? =(w.heap.modify g (Go.Sort.onCells (Go.Sort.putCells (Value.int .i64) 0 L.toArray)))[k]? :=fun k hk=>by
    show((w.heap.modify g (Go.Sort.onCells (Go.Sort.putCells (Value.int .i64) 0 L.toArray)))++os)[k]? =_
    rw[Array.getElem?_append_left (by simpa using hk)]
   have hgc:(Go.Sort.grow (Go.Sort.putRow (Value.int .i64) (Go.Sort.ahead w n) g 0 L.toArray) os).heap[g]? =some (.cells (Go.Sort.putCells (Value.int .i64) 0 L.toArray cur) 3 (0,0)):=by
    rw[hhp g hg,Array.getElem?_modify,if_pos rfl,h5]
    rfl
   refine hs0.app (v:=aB7 g l.length c) (v':=aB7 g l.length c) (et:=3) (sz:=1) (m:=l.length) (q:=l.length) (xs:=bF l) (ys:=bF L) qF ⟨J,J,J,?_,fun k hk hn=> ?_⟩ ⟨by simp[bF,hL],.inr ⟨g,c,_,J,h4,hgc,h6,h7,?_,?_⟩⟩ (fun x hx=> .inl hx)
   ·show w.heap.size≤((w.heap.modify g _)++os).size
    simp
   ·rw[hhp k hk,Array.getElem?_modify,if_neg (fun e=>hn (by simp[Value.ownBlock,e]))]
   ·rw[←h8];simp[Go.Sort.putCells]
   ·refine List.ext_getElem? fun j=> ?_;by_cases hj:j<l.length
    ·have hjL:j<L.length:=by omega
     have hjc:j<cur.size:=by omega
     rw[List.getElem?_take_of_lt qG,Array.getElem?_toList];simp[Go.Sort.putCells,bF,hjL,hjc]
    ·rw[List.getElem?_eq_none (by rw[List.length_take];omega),List.getElem?_eq_none (by simp[bF];omega)]
theorem sort0_ca(w:World)(a:Option Addr)(c:Nat):Ca Tryz.prog 92 [.slice a 0 c] w fun v w'=>v= .tuple #[]∧Chg [] w w':=
 Calls.mono (show Calls Tryz.prog 92 _ w _ from Any.slices_Sort_int_none lays189 a c w) fun e w' ⟨h1,h2⟩=>⟨_,h1,rfl,by rw[h2];exact Chg.refl _ _⟩
theorem dpStep_le(l:Lb)(F:Nat→Nat×Nat)(S:Nat)(p:Nat×Nat)(s:Nat):(iX l F S p s).1≤p.1:=by
 unfold iX;split
 ·split
  ·simp only;omega
  ·exact Nat.le_refl _
 ·exact Nat.le_refl _
theorem dpPart_bd(l:Lb)(n S:Nat):∀j,(fR l n S j).1≤41∧(fR l n S j).2≤j
 | 0=>⟨Nat.le_refl _,Nat.le_refl _⟩
 | j+1=>by
  have ih:=dpPart_bd l n S j;rw[nX];refine⟨Nat.le_trans (dpStep_le _ _ _ _ _) ih.1,?_⟩;unfold iX;split
  ·split
   ·simp
   ·omega
  ·omega
theorem dp_part{l:Lb}{n S:Nat}(h:S≠0):fR l n S n=dp l n S:=(dp_eq h).symm
theorem dp_bd(l:Lb)(n S:Nat):(dp l n S).1≤41∧(dp l n S).2≤n:=by
 by_cases h:S=0
 ·subst h;rw[dp_zero];exact⟨by omega,by omega⟩
 ·rw[←dp_part h];exact dpPart_bd l n S n
def fwL(l:Lb)(n S:Nat):List Int:=(List.range (2^n)).map fun T=>if T<S then((dp l n T).1:Int) else 0
def lsL(l:Lb)(n S:Nat):List Int:=(List.range (2^n)).map fun T=>if T<S then((dp l n T).2:Int) else 0
section
variable {l : Lb} {n S : Nat}
theorem fw_len(l:Lb)(n S:Nat):(fwL l n S).length=2^n:=by simp[fwL]
theorem ls_len(l:Lb)(n S:Nat):(lsL l n S).length=2^n:=by simp[lsL]
theorem fw_next(h:S<2^n):(fwL l n S).set S ((dp l n S).1:Int)=fwL l n (S+1):=by
 refine List.ext_getElem (by simp[fwL]) fun T h1 h2=> ?_;rw[List.getElem_set]
 simp only[fwL,List.getElem_map,List.getElem_range];by_cases e:S=T
 ·subst e;rw[if_pos rfl,if_pos qG]
 ·rw[if_neg e];by_cases h3:T<S
  ·rw[if_pos h3,if_pos qG]
  ·rw[if_neg h3,if_neg qG]
theorem ls_next(h:S<2^n):(lsL l n S).set S ((dp l n S).2:Int)=lsL l n (S+1):=by
 refine List.ext_getElem (by simp[lsL]) fun T h1 h2=> ?_;rw[List.getElem_set]
 simp only[lsL,List.getElem_map,List.getElem_range];by_cases e:S=T
 ·subst e;rw[if_pos rfl,if_pos qG]
 ·rw[if_neg e];by_cases h3:T<S
  ·rw[if_pos h3,if_pos qG]
  ·rw[if_neg h3,if_neg qG]
theorem ls_same:lsL l n S=(lsL l n S).set S 0:=by
 refine List.ext_getElem (by simp) fun T h1 h2=> ?_;rw[List.getElem_set]
 by_cases e:S=T
 ·subst e;rw[if_pos rfl];simp[lsL]
 ·rw[if_neg e]
theorem fw_one:List.replicate (2^n) 0=fwL l n 1:=by
 refine List.ext_getElem (by simp[fwL]) fun T h1 h2=> ?_;simp only[fwL,List.getElem_map,List.getElem_range,List.getElem_replicate]
 split
 ·obtain rfl:T=0:=by omega
  rw[dp_zero];rfl
 ·rfl
theorem ls_one:List.replicate (2^n) 0=lsL l n 1:=by
 refine List.ext_getElem (by simp[lsL]) fun T h1 h2=> ?_;simp only[lsL,List.getElem_map,List.getElem_range,List.getElem_replicate]
 split
 ·obtain rfl:T=0:=by omega
  rw[dp_zero];rfl
 ·rfl
theorem fw_at{T:Nat}{x:Int}(h:T<S)(hS:S<2^n)(h2:T<((fwL l n S).set S x).length):((fwL l n S).set S x)[T]=((dp l n T).1:Int):=by
 rw[List.getElem_set,if_neg qG];simp[fwL,h]
theorem fw_self{x:Int}(h2:S<((fwL l n S).set S x).length):((fwL l n S).set S x)[S]=x:=by
 rw[List.getElem_set,if_pos rfl]
theorem ls_at{T:Nat}(h:T<S)(h2:T<(lsL l n S).length):(lsL l n S)[T]=((dp l n T).2:Int):=by
 simp[lsL,h]
theorem bt_step(h40:l.runs.length≤40){R:List Nat}(hn:R.Nodup)(hr:∀s∈R,s<n)(h0:dP R≠0):(dP R).testBit (dp l n (dP R)).2=true∧(dp l n (dP R)).2<n∧∃R':List Nat,R'.Nodup∧(∀s∈R',s<n)∧dP R ^^^ 2^(dp l n (dP R)).2=dP R'∧R.length=R'.length+1∧btF l n R.length (dP R)=agL l (dp l n (dP R)).2 (dP R')++btF l n R'.length (dP R'):=by
 have hI:=dp_is (l:=l) (n:=n) h0
 have hle:(dp l n (dP R)).1≤40:=by
  have h1:=dp_le (l:=l) R hn hr;have h2:=dropR_len (l:=l) hn;omega
 rcases hI.at_ with h|⟨h1,h2,h3⟩
 ·rw[h] at hle;simp at hle
 ·have hm:(dp l n (dP R)).2∈R:=by rw[dN] at h2;exact of_decide_eq_true h2
  have hp:=List.perm_cons_erase hm;have hn2:=hp.nodup_iff.1 hn;obtain⟨h4,h5⟩:=List.nodup_cons.1 hn2;have he:dP R=dP ((dp l n (dP R)).2::R.erase (dp l n (dP R)).2):=bitL_ext fun t=>hp.mem_iff
  have he2:dP R ^^^ 2^(dp l n (dP R)).2=dP (R.erase (dp l n (dP R)).2):=by
   conv=>lhs;arg 1;rw[he]
   exact bitL_cons h4
  have hl:R.length=(R.erase (dp l n (dP R)).2).length+1:=by
   have:=List.length_pos_of_mem hm;rw[List.length_erase_of_mem hm];omega
  refine⟨h2,h1,_,h5,fun s hs=>hr s (List.mem_of_mem_erase hs),he2,hl,?_⟩
  conv=>lhs;rw[hl,btF,if_neg h0,he2]
theorem bt_zero{R:List Nat}(h0:dP R=0):R=[]:=by
 cases R with
 | nil=>rfl
 | cons x R=>
  have:=dN x (x::R);rw[h0] at this;simp at this
end
theorem drop_no(w:World)(lo hi:Nat)(l:Lb)(v:Value)(h:RdR w lo hi v l.runs)(hlen:l.runs.length≤maxLen)(hc0:cG l≠0):Ca Tryz.prog 32 [.agg (lbC l v).toArray] w fun x w'=>x= .tuple #[.slice none 0 0,.int .i64 (cG l)]∧Chg [] w w':=by
 refine cM (Sat.nil w M0) Tryz.func32 J (by simp[Tryz.ntmps32]) ?_;(refine aD (aB ?_));refine bN J J (fun b1=> ?_);rw[bG];(refine aA1 vq (aA1 vq (aE (aD (aB ?_))));refine aM qE J J J ?_);refine aI (val:= .tuple #[.pointer none,.int .i64 (cG l)]) qE J J J J (fun w hs=> ?_) ?_;exact asked_no w lo hi l v (RdE.keep h hs.chg0) hlen hc0;(refine aA1 vq (aA7 yq (aA7 yq (aA1 vq (aA1 vq (aE (aD (aD (aB (aA1 vq (aB0 yq qG (aE ?_)))))))))));refine aH J (aD (aB ?_));(iterate 3 refine aA1 vq ?_);refine aE (aQ ?_));refine aA2 wq qF fun w hs=> ?_;exact⟨J,hs.chg0⟩
def tK47_d76cc7a:OT:= .alt (bO [0,1,2,3,4,5,6,7,8,9,10,11,12,13,14,15] (.nil)) (bO [7,8,9,10,11,12,13,0,1,2,3,4,5,6,14,15] (.nil))
theorem drop_ok(w:World)(lo hi:Nat)(l:Lb)(v:Value)(h:RdR w lo hi v l.runs)(hl:l.Ok) :
  Ca Tryz.prog 32 [.agg (lbC l v).toArray] w fun x w'=>∃y:Value×List Nat,(x= .tuple #[y.1,.int .i64 0]∧DropP l y.2)∧Sat w M0 [.ow y.1 3 1 y.2.length (bF (chI y.2))] w':=by
 have hdp:=fun d hp hs=>drop_says hl (d:=d) hp hs
 obtain⟨n,en,hn',h8,h1⟩:=hl.nat;have h40:=hl.len;have hp:2^n≤256:=Nat.pow_le_pow_right (n:=2) (j:=8) qG h8;have hp1:2≤2^n:=Nat.pow_le_pow_right (n:=2) (i:=1) qG h1;have ep:(2:Int)^n=((2^n:Nat):Int):=by norm_cast
 have hbt:(btF l n n (2^n-1)).length≤40∧∀x∈btF l n n (2^n-1),x<l.runs.length:=by
  obtain⟨R,g1,g2,g3⟩:=bt_is (l:=l) (n:=n) h40 (List.range n) List.nodup_range (fun s h=>List.mem_range.1 h);rw[List.length_range,pJ (n:=n) (fun t=>List.mem_range)] at g2;rw[g2];have:=dropR_len (l:=l) (g1.nodup_iff.2 List.nodup_range);exact⟨by omega,fun x hx=>dropR_lt hx⟩
 rw[hn'] at hdp;generalize hF:btF l n n (2^n-1)=Full at hbt hdp;refine cM (Sat.nil w M0) Tryz.func32 J (by simp[Tryz.ntmps32]) ?_;(refine aD (aB ?_));refine bN J J (fun b1=> ?_);rw[bG];(refine aA1 vq (aA1 vq (aE (aD (aB ?_))));refine aM qE J J J ?_);refine bB (β:=Nat) qE [] _ M0 J J J J (Sp.refl _) qJ (fun w' hs=>nE w' lo hi l v (RdE.keep h hs.chg0) hl) ?_;rintro b _ rfl;dsimp only[List.cons_append,List.nil_append];(refine aA1 vq (aA7 yq (aA7 yq (aA1 vq (aA1 vq (aE (aD (aD (aB (aA1 vq (aB1 yq qG (aE ?_)))))))))));refine aF J (aJ (aD ?_)));generalize hN:2^n=N at *;refine kL (σ:=Nat×Nat) (fun z=>[(4,aB8 b),(6,aB7 z.1 N N),(7,aB7 z.2 N N)]) (fun z=>[.pt z.1 (bF (List.replicate N 0)) 3,.pt z.2 (bF (List.replicate N 0)) 3,.pt b (dkC l v l.ord) 134]) ?_ ?_;rotate_left
 ·intro K2 hK2;refine jJ (tK47_d76cc7a) _ [] (Sp.refl _) qI qI ?_;refine dC ?_ ?_
  ·refine bR qH fun K1 hK1=> ?_
   ((iterate 4 refine aB2 yq ?_);refine aX qE J J J ?_)
   rw[en];refine qf_shl J J J qG (by rw[Int.toNat_natCast,ep];omega) (by rw[Int.toNat_natCast,ep];omega) ?_;rw[Int.toNat_natCast,ep,Int.one_mul];refine qf_makeI slI J J J qG (fun b6=> ?_)
   ((iterate 4 refine aB2 yq ?_);refine aX qE J J J ?_)
   rw[en];refine qf_shl J J J qG (by rw[Int.toNat_natCast,ep];omega) (by rw[Int.toNat_natCast,ep];omega) ?_;rw[Int.toNat_natCast,ep,Int.one_mul];refine qf_makeI slI J J J qG (fun b7=> ?_);(refine aB2 yq (aB2 yq (aT ?_)));exact hK1 _ _ (iK (hK2 (b6,b7) _ _ ⟨J,J,J,trivial⟩ qF))
  ·refine bR qH fun K1 hK1=> ?_
   ((iterate 4 refine aB2 yq ?_);refine aX qE J J J ?_)
   rw[en];refine qf_shl J J J qG (by rw[Int.toNat_natCast,ep];omega) (by rw[Int.toNat_natCast,ep];omega) ?_;rw[Int.toNat_natCast,ep,Int.one_mul];refine qf_makeI slI J J J qG (fun b7=> ?_)
   ((iterate 4 refine aB2 yq ?_);refine aX qE J J J ?_)
   rw[en];refine qf_shl J J J qG (by rw[Int.toNat_natCast,ep];omega) (by rw[Int.toNat_natCast,ep];omega) ?_;rw[Int.toNat_natCast,ep,Int.one_mul];refine qf_makeI slI J J J qG (fun b6=> ?_);(refine aB2 yq (aB2 yq (aT ?_)));exact hK1 _ _ (iK (hK2 (b6,b7) _ _ ⟨J,J,J,trivial⟩ qF))
 rintro⟨b6,b7⟩;dsimp only;have e1:List.replicate N 0=fwL l n 1:=by rw[←hN];exact fw_one
 have e2:List.replicate N 0=lsL l n 1:=by rw[←hN];exact ls_one
 refine cQ (H':=[.pt b6 (bF (fwL l n 1)) 3,.pt b7 (bF (lsL l n 1)) 3,.pt b (dkC l v l.ord) 134]) (fun w' hs=>by rw[←e1,←e2];exact hs) ?_;have lfw:∀S,(fwL l n S).length=N:=fun S=>by rw[fw_len,hN]
 have lls:∀S,(lsL l n S).length=N:=fun S=>by rw[ls_len,hN]
 have sh1:∀k:Nat,(1:Int)*2^(k:Int).toNat=((2^k:Nat):Int):=fun k=>by rw[Int.one_mul,Int.toNat_natCast];norm_cast
 (refine aD (aD (aB (aA1 vq (aE (aK ?_))))))
 refine bD (σ:=Nat) (fun S=>1≤S∧S≤N) (fun S=>N-S) (fun S=>[(4,aB8 b),(6,aB7 b6 N N),(7,aB7 b7 N N),(8,.int .i64 S)]) (fun S=>[.pt b6 (bF (fwL l n S)) 3,.pt b7 (bF (lsL l n S)) 3,.pt b (dkC l v l.ord) 134]) 1 qG ⟨J,J,J,J,trivial⟩ qF ?_;rintro S ⟨hS1,hS⟩ K hK;(refine aD (aD (aB ?_));(iterate 4 refine aA1 vq ?_);refine aE ?_);refine cP J (fun hc=> ?_) (fun hc=> ?_)
 ·have hS2:S<N:=by omega
  have hSn:S<2^n:=by rw[hN];exact hS2
  clear hc;(refine aJ (aD (aK (aD (aB (aA1 vq (aA1 vq ?_)))))));have hiS:S<(fwL l n S).length:=by rw[lfw];exact hS2
  refine aA5 uq qG qG ?_;refine eZ qE (S) J J J qF (by first|rfl|omega|simp) hiS ?_;rw[ls_same];(refine aE (aD (aB ?_));(iterate 4 refine aA1 vq ?_);refine aL qE J J J ?_;refine aA1 vq (aE (aK ?_)));rw[en];refine bD (σ:=Nat) (fun j=>j≤n) (fun j=>n-j) (fun j=>[(4,aB8 b),(6,aB7 b6 N N),(7,aB7 b7 N N),(8,.int .i64 S),(50,.int .i64 n),(51,.int .i64 j)]) (fun j=>[.pt b6 (bF ((fwL l n S).set S ((fR l n S j).1:Nat))) 3,.pt b7 (bF ((lsL l n S).set S ((fR l n S j).2:Nat))) 3,.pt b (dkC l v l.ord) 134]) 0 qG ⟨J,J,J,J,J,J,trivial⟩ qF ?_;rintro j hj K2 hK2;(refine aD (aB (aA1 vq (aE (aD ?_)))));refine cP J (fun hc=> ?_) (fun hc=> ?_)
  ·have hj2:j<n:=by omega
   clear hc;have hpow:(2:Nat)^j≤128:=by have:=Nat.pow_le_pow_right (show 0<2 by omega) (show j≤7 by omega);simpa using this
   have hpb:=dpPart_bd l n S j;have hsu:=nX l n S j;have hi1:S<((fwL l n S).set S ((fR l n S j).1:Nat)).length:=by rw[List.length_set];exact hiS
   have hi2:S<((lsL l n S).set S ((fR l n S j).2:Nat)).length:=by rw[List.length_set,lls];exact hS2
   obtain⟨pk,hpk⟩:∃p,p=2^j:=⟨_,rfl⟩;have sh2:(1:Int)*2^(j:Int).toNat=(pk:Int):=by rw[sh1,hpk]
   rw[←hpk] at hpow;(refine aJ (aD (aK (aD (aB (aA1 vq (aA1 vq (aE (aD (aB (aA1 vq (aA1 vq ?_))))))))))));refine ql_shl J J J qG (by rw[sh2];omega) (by rw[sh2];omega) ?_;rw[sh2];refine ql_delB (s:=j) J J (by rw[hpk]) J qG qG ?_;by_cases hb:S.testBit j=true
   ·have hx:=nR hb;have ed:delB S j=S ^^^ 2^j:=if_pos hb;rw[ed];obtain⟨T,hT⟩:∃T,T=S ^^^ 2^j:=⟨_,rfl⟩;rw[←hT] at hx ⊢;have hdT:=dp_bd l n T
    have hst:fR l n S (j+1)=if(dp l n T).1+(agL l j T).length<(fR l n S j).1 then((dp l n T).1+(agL l j T).length,j) else fR l n S j:=by
     rw[hsu];unfold iX;rw[if_pos hb,←hT]
    have hag:(agL l j T).length≤40:=by
     have g1:=agI_len l j T (shL l);have g2:=shL_len l;have g3:agI l j T (shL l)=agL l j T:=rfl;rw[g3] at g1;omega
    have hiT:T<((fwL l n S).set S ((fR l n S j).1:Nat)).length:=by rw[List.length_set,lfw];omega
    (refine aA1 vq (aE (aD (aB (aA1 vq (aA1 vq (aB0 yq qG (aE (aH J (aD ?_))))))))))
    refine bY _ [] (Sp.refl _) qI qI ?_;(refine aB2 yq (aB2 yq ?_));refine aB5 uq qG qG ?_;refine gM qE (T) J J J qF (by first|rfl|omega|simp) hiT ?_;rw[fw_at hx hSn]
    ((iterate 3 refine aB2 yq ?_))
    refine cW (β:=Value) qE [] _ M0 J J J J (Sp.refl _) qJ (fun w' hs=>against_ca w' b lo hi l v l.ord 134 (hs.blk qF) (RdE.keep h hs.chg0) hl j T qG qG) ?_;rintro _ u rfl;dsimp only[List.cons_append,List.nil_append];refine cT (fun w hs=>hs.slice2 (v:=u) qF) ?_;rintro⟨ua,uc,rfl⟩;(refine aB2 yq (aB6 xq qG qG (aB2 yq (aT (aD (aB ?_)))));(iterate 3 refine aA1 vq ?_));refine aA5 uq qG qG ?_;refine gC qE (S) J J J qF (by first|rfl|omega|simp) hi1 ?_;rw[fw_self];by_cases hlt:(dp l n T).1+(agL l j T).length<(fR l n S j).1
    ·rw[if_pos hlt] at hst;(refine dU qE J J J qG (aE (aH J (aB ?_)));(iterate 6 refine aA1 vq ?_));refine aA5 uq qG qG ?_;refine eZ qE (S) J J J qF (by first|rfl|omega|simp) hi1 ?_;refine aA5 uq qG qG ?_;refine eZ qE (S) J J J qF (by first|rfl|omega|simp) hi2 ?_;rw[List.set_set,List.set_set];(refine aE (aW (aB (aA4 xq qG qG (aA1 vq (aE ?_))))));exact hK2 (j+1) _ _ qG qG ⟨J,J,J,J,J,J,trivial⟩ (by rw[hst];repeat constructor)
    ·rw[if_neg hlt] at hst;(refine cS qE J J J qG (aE (aF J (aJ (aW (aB (aA4 xq qG qG (aA1 vq (aE ?_)))))))));exact hK2 (j+1) _ _ qG qG ⟨J,J,J,J,J,J,trivial⟩ (by rw[hst];repeat constructor)
   ·have ed:delB S j=S:=if_neg hb
    have hst:fR l n S (j+1)=fR l n S j:=by
     rw[hsu];unfold iX;rw[if_neg hb]
    rw[ed];(refine aA1 vq (aE (aD (aB (aA1 vq (aA1 vq (aB1 yq qG (aE (aF J (aJ (aW (aB ?_)))))))))));refine aA4 xq qG qG (aA1 vq (aE ?_)));exact hK2 (j+1) _ _ qG qG ⟨J,J,J,J,J,J,trivial⟩ (by rw[hst];repeat constructor)
  ·obtain rfl:n=j:=by omega
   clear hc hK2 hj;rw[dp_part qG,fw_next hSn,ls_next hSn];(refine aZ _ J (aW (aB (aA1 vq (aA4 xq qG qG (aA1 vq (aE ?_)))))));exact hK (S+1) _ _ qG qG ⟨J,J,J,J,trivial⟩ qF
 ·obtain rfl:N=S:=by omega
  clear hc hK;have hbf:dP (List.range n)=N-1:=by rw[pJ (n:=n) (fun t=>List.mem_range),hN]
  (refine aZ _ J (aD (aB (aA1 vq (aE (aD (aD (aB (aA1 vq (aA1 vq (aA4 xq qG qG (aA1 vq ?_)))))))))));refine aE (aK ?_))
  refine cQ (H':=[.ow (.slice none 0 0) 3 1 ([]:List Nat).length (bF (chI [])),.pt b7 (bF (lsL l n N)) 3,.pt b (dkC l v l.ord) 134]) (fun w' hs=>(Sat.ownil hs 3 1).sp qF) ?_;refine bD (σ:=List Nat×List Nat×Value) (fun z=>z.1.Nodup∧(∀s∈z.1,s<n)∧z.2.1++btF l n z.1.length (dP z.1)=Full) (fun z=>z.1.length) (fun z=>[(4,aB8 b),(7,aB7 b7 N N),(12,z.2.2),(13,.int .i64 (dP z.1:Nat))]) (fun z=>[.ow z.2.2 3 1 z.2.1.length (bF (chI z.2.1)),.pt b7 (bF (lsL l n N)) 3,.pt b (dkC l v l.ord) 134]) (List.range n,[],.slice none 0 0) ⟨List.nodup_range,fun s h=>List.mem_range.1 h,by rw[List.length_range,hbf];exact hF⟩ ⟨J,J,J,by rw[hbf];exact congrArg (fun z=>some (Value.int IntKind.i64 z)) qG,trivial⟩ qF ?_;rintro⟨R,out,u⟩ ⟨hR1,hR2,hR3⟩ K hK;dsimp only at hR1 hR2 hR3 hK ⊢
  have hbR:dP R<N:=by
   rw[←hN];refine Nat.lt_pow_two_of_testBit _ fun i hi=> ?_
   rw[dN];exact decide_eq_false fun hm=>by have:=hR2 i hm;omega
  have hol:out.length≤40:=by
   have h9:=hbt.1;rw[←hR3,List.length_append] at h9;omega
  (refine aD (aD (aB (aA1 vq (aA1 vq (aE ?_))))))
  refine cP J (fun hc=> ?_) (fun hc=> ?_)
  ·have h0:dP R≠0:=by omega
   clear hc;obtain⟨g1,g2,R',g3,g4,g5,g6,g7⟩:=bt_step (l:=l) (n:=n) h40 hR1 hR2 h0;obtain⟨S,hSR⟩:∃S,S=dP R:=⟨_,rfl⟩;rw[←hSR] at g1 g2 g5 g7 hbR hR3 ⊢;obtain⟨s,hs'⟩:∃s,s=(dp l n S).2:=⟨_,rfl⟩;have hpow:(2:Nat)^s≤128:=by have:=Nat.pow_le_pow_right (show 0<2 by omega) (show s≤7 by omega);simpa using this
   rw[←hs'] at g1 g2 g5 g7;have hiS:S<(lsL l n N).length:=by rw[lls];exact hbR
   have hxl:=nR g1;rw[g5] at hxl;(refine aJ (aK (aD (aB (aA1 vq (aA1 vq ?_))))));refine aA5 uq qG qG ?_;refine gC qE (S) J J J qF (by first|rfl|omega|simp) hiS ?_;rw[ls_at hbR,←hs'];obtain⟨pk,hpk⟩:∃p,p=2^s:=⟨_,rfl⟩;have sh2:(1:Int)*2^(s:Int).toNat=(pk:Int):=by rw[sh1,hpk]
   rw[←hpk] at hpow;(refine aA1 vq (aE (aD (aB (aA1 vq (aA1 vq ?_))))));refine ql_shl J J J qG (by rw[sh2];omega) (by rw[sh2];omega) ?_;rw[sh2];refine ql_delB (s:=s) J J (by rw[hpk]) J qG qG ?_;rw[show delB S s=dP R' from(if_pos g1).trans g5]
   have hag:(agL l s (dP R')).length≤40:=by
    have g1:=agI_len l s (dP R') (shL l);have g2:=shL_len l;have g3:agI l s (dP R') (shL l)=agL l s (dP R'):=rfl;rw[g3] at g1;omega
   (refine aA1 vq (aE (aB ?_));(iterate 4 refine aA1 vq ?_))
   refine bB (β:=Value) qE [] _ M0 J J J J (Sp.refl _) qJ (fun w' hs=>against_ca w' b lo hi l v l.ord 134 (hs.blk qF) (RdE.keep h hs.chg0) hl s (dP R') qG qG) ?_;rintro _ u2 rfl;dsimp only[List.cons_append,List.nil_append];refine bU (q:=(agL l s (dP R')).length) (news:=bF (chI (agL l s (dP R')))) slI J J J (fun v'=>by repeat constructor) (fun w' hs=>⟨_,_,by have:=(eX (t:=3) (hs.mem (c:= .ow u2 3 1 (agL l s (dP R')).length (bF (chI (agL l s (dP R'))))) qF) (by rw[bT])).row;rw[bT] at this;exact this⟩) (by simp[bF,dA]) qG qG (fun u'=> ?_);(refine aA1 vq (aE (aW ?_)));exact hK (R',out++agL l s (dP R'),u') _ _ ⟨g3,g4,by rw[List.append_assoc,←g7];exact hR3⟩ (by dsimp only;omega) ⟨J,J,J,J,trivial⟩ (by dsimp only;rw[List.length_append,show bF (chI (out++agL l s (dP R')))=bF (chI out)++bF (chI (agL l s (dP R'))) from by simp[bF,chI]];repeat constructor)
  ·have h0:R=[]:=bt_zero qG;clear hc hK;subst h0;have ho:out=Full:=by simpa[btF] using hR3
   subst ho;refine dO (fun w hs=>hs.slice2 (v:=u) qF) ?_;rintro⟨ua,uc,rfl⟩;(refine aZ _ J (aD (aB (aA1 vq ?_))));by_cases hz:out.length=0
   ·obtain rfl:out=[]:=List.length_eq_zero_iff.1 hz;refine aI (val:= .tuple #[]) qE J J J J (fun w hs=> ?_) ?_;exact sort0_ca w ua uc;(refine aE (aD (aB ?_));(iterate 3 refine aA1 vq ?_);refine aE (aQ ?_));refine aA2 wq qF fun w hs=> ?_
    exact⟨(.slice ua 0 uc,[]),⟨J,hdp [] (.refl _) .nil⟩,hs.sp qF⟩
   ·refine bW (fun w hs=>hs.ownSome (v:= .slice ua out.length uc) qF qG) ?_;rintro⟨g,gc,e⟩;cases e
    have h9:=hbt.1;have hcl:(chI out).length=out.length:=bT _;refine bB (β:=List Int) (ψ:=fun L x=>x= .tuple #[]∧L.Perm (chI out)∧L.Pairwise (· ≤ ·)) (L':=fun L=>[.ow (aB7 g out.length uc) 3 1 out.length (bF L)]) qE [.ow (aB7 g out.length uc) 3 1 out.length (bF (chI out))] _ (fun x=>x=g) rfl rfl rfl rfl (Sp.cons qF (Sp.refl _)) (fun x hx=>⟨_,.head _,by subst hx;rfl⟩) (fun w' hs=>by have:=sort_ca w' g uc (chI out) qG (by rw[hcl];exact hs.all _ (.head _));rw[hcl] at this;exact this) ?_;rintro L _ ⟨rfl,g1,g2⟩;dsimp only[List.cons_append,List.nil_append]
    have hLt:chI (L.map Int.toNat)=L:=by
     unfold chI;rw[List.map_map];refine(List.map_congr_left fun x hx=> ?_).trans (List.map_id _);obtain⟨y,_,rfl⟩:=List.mem_map.1 (g1.mem_iff.1 hx)
     rfl
    have hLl:(L.map Int.toNat).length=out.length:=by rw[List.length_map,g1.length_eq,hcl]
    have hLp:(L.map Int.toNat).Perm out:=by
     have:=g1.map Int.toNat
     rwa [show(chI out).map Int.toNat=out from by unfold chI;rw[List.map_map];exact List.map_id'' (fun i=>by simp) _] at this
    have hLs:(L.map Int.toNat).Pairwise (· ≤ ·):=List.pairwise_map.2 (g2.imp fun h=>by omega);(refine aE (aD (aB ?_));(iterate 3 refine aA1 vq ?_);refine aE (aQ ?_));refine aA2 wq qF fun w hs=> ?_
    exact⟨(aB7 g out.length uc,L.map Int.toNat),⟨J,hdp _ hLp hLs⟩,by rw[hLt,hLl];exact hs.sp qF⟩
theorem short_isD{l:Lb}{a b:Nat}{c:List Int}(he:0≤l.err)(h:Short l a b c):IsD l a b c.length:=
 ⟨List.length_pos_iff.2 h.ne,short_wk he h,fun j h1 h2 hw=>by have:=short_min h h1 hw;omega⟩
theorem short_shows{l:Lb}{a b:Nat}(ha:nF l a b=0){c:List Int}(h:Short l a b c):chainV l a b c=(true,0):=by
 rw[gY ha (List.all_eq_true.2 fun i hi=>bX.2 (by have:=h.inr i hi;omega)),h.ok];cases c with
 | nil=>exact absurd rfl h.ne
 | cons x c=>simp
theorem two_ok'{l:Lb}(hl:l.Ok){a b:Nat}(ha:a<l.n)(hb:b<l.n):nF l a b=0:=by
 have hs:=hl.s0;have:(l.n:Int)=l.skis:=by unfold Lb.n;omega
 exact mI.2 ⟨hl,bX.2 qG,bX.2 qG⟩
theorem known_ok(w:World)(lo hi:Nat)(l:Lb)(v:Value)(k:Nat)(h:RdR w lo hi v l.runs)(hl:l.Ok)(hc:NoC l.ord l.n)(k1:1≤k)(k2:k≤l.n):Ca Tryz.prog 41 [.agg (lbC l v).toArray,.int .i64 k] w fun x w'=>x= .tuple #[.bool (dQ l.ord l.n k),.int .i64 0]∧Chg [] w w':=by
 obtain⟨n,en,hn',h8,h1⟩:=hl.nat;rw[hn'] at k2 ⊢;have hlen:l.runs.length≤maxLen:=by have:=hl.len;simp only[maxLen];omega
 have hpl:dD l k=0:=jO.2 ⟨hl,by omega,by omega⟩;refine cM (Sat.nil w M0) Tryz.func41 J (by simp[Tryz.ntmps41]) ?_;(refine aD (aB ?_));refine bN J J (fun b2=> ?_);rw[bG];(refine aA1 vq (aA1 vq (aE (aD (aD (aB ?_)))));refine aM qE J J J ?_;refine aA1 vq ?_);refine aI (val:= .int .i64 0) qE J J J J (fun w hs=> ?_) ?_;exact by have:=mC w lo hi l v k (RdE.keep h hs.chg0) hlen;rw[hpl] at this;exact this
 (refine aA1 vq (aE (aD (aB (aA1 vq (aB1 yq qG (aE (aF J (aJ (aD (aB ?_))))))))));refine aM qE J J J ?_)
 refine bB (β:=Nat) qE [] _ M0 J J J J (Sp.refl _) qJ (fun w' hs=>jL w' lo hi l v (RdE.keep h hs.chg0) hl hc) ?_;rintro b _ rfl;dsimp only[List.cons_append,List.nil_append];(refine aA1 vq (aA7 yq (aA7 yq (aA1 vq (aA1 vq (aE (aD (aD (aB (aA1 vq (aB1 yq qG (aE ?_)))))))))));refine aF J (aJ (aD ?_)));refine bY _ [] (Sp.refl _) qI qI ?_
 ((iterate 3 refine aB2 yq ?_);refine bK qE J J J ?_;(iterate 4 refine aB2 yq ?_);refine aX qE J J J ?_;refine aB2 yq ?_)
 rw[oN,en];refine cR (val:= .bool (dQ l.ord n k)) qE J J J J (fun w hs=> ?_) ?_;exact known_ca w l.ord n k h8 k2;(refine aB2 yq (aB2 yq (aT (aQ ?_))));refine aA2 wq qF fun w hs=> ?_
 exact⟨J,hs.chg0⟩
def idxN(L:List Nat)(x:Nat):Int:=if x∈L then(L.idxOf x:Int) else -1
theorem chI_snoc'(ch:List Nat)(x:Nat):bF (chI ch++[(x:Int)])=bF (chI ch)++[.int .i64 (x:Int)]:=by simp[bF]
theorem chI_app'(ch:List Nat)(x:Nat):chI (ch++[x])=chI ch++[(x:Int)]:=by simp[chI]
theorem first_step{o n j:Nat}:kJ o n (j+1)=match nextO o n (kJ o n j).2 with|some s=>((kJ o n j).1++[s],(kJ o n j).2 ||| 2^s)|none=>kJ o n j:=rfl
theorem first_ok(w:World)(lo hi:Nat)(l:Lb)(v:Value)(h:RdR w lo hi v l.runs)(hl:l.Ok)(hc0:NoC l.ord l.n):Ca Tryz.prog 37 [.agg (lbC l v).toArray] w fun x w'=>∃u:Value,x= .tuple #[u,.int .i64 0]∧Sat w M0 [.ow u 3 1 l.n (bF (chI (kJ l.ord l.n l.n).1))] w':=by
 obtain⟨n,en,hn',h8,h1⟩:=hl.nat;have hfi:=fun j (hj:j≤l.n)=>fir_is hc0 hl.o hl.n8 j hj
 rw[hn'] at hfi ⊢;refine cM (Sat.nil w M0) Tryz.func37 J (by simp[Tryz.ntmps37]) ?_;(refine aD (aB ?_));refine bN J J (fun b1=> ?_);rw[bG];(refine aA1 vq (aA1 vq (aE (aD (aB ?_))));refine aM qE J J J ?_);refine bB (β:=Nat) qE [] _ M0 J J J J (Sp.refl _) qJ (fun w' hs=>jL w' lo hi l v (RdE.keep h hs.chg0) hl hc0) ?_;rintro b _ rfl;dsimp only[List.cons_append,List.nil_append];(refine aA1 vq (aA7 yq (aA7 yq (aA1 vq (aA1 vq (aE (aD (aD (aB (aA1 vq (aB1 yq qG (aE ?_)))))))))));refine aF J (aJ (aD (aB (aA1 vq (aE (aD (aB (aA1 vq (aE (aD (aD ?_)))))))))));refine aB ?_;(iterate 4 refine aA1 vq ?_);refine aL qE J J J ?_;refine aA1 vq (aE (aK ?_)));rw[en];refine cQ (H':=[.ow (.slice none 0 0) 3 1 0 (bF (chI (kJ l.ord n 0).1)),.pt b (dkC l v l.ord) 134]) (fun w' hs=>(Sat.ownil hs 3 1).sp qF) ?_;refine bD (σ:=Nat×Value) (fun y=>y.1≤n) (fun y=>n-y.1) (fun y=>[(4,aB8 b),(6,y.2),(7,.int .i64 (kJ l.ord n y.1).2),(21,.int .i64 n),(22,.int .i64 y.1)]) (fun y=>[.ow y.2 3 1 y.1 (bF (chI (kJ l.ord n y.1).1)),.pt b (dkC l v l.ord) 134]) (0,.slice none 0 0) (by simp only;omega) ⟨J,J,J,J,J,trivial⟩ qF ?_;rintro⟨j,u⟩ hj K hK;dsimp only at hj ⊢;(refine aD (aB (aA1 vq (aE (aD ?_)))));refine cP J (fun hc=> ?_) (fun hc=> ?_)
 ·have hj2:j<n:=by omega
  clear hc;have hI:=hfi j qG;have hI2:=hfi (j+1) qG;rw[first_step] at hI2;have hst:=first_step (o:=l.ord) (n:=n) (j:=j);have hbd:=hI.bd;have h256:2^n≤256:=by have:=Nat.pow_le_pow_right (show 0<2 by omega) h8;simpa using this
  obtain⟨L,S,hLS⟩:∃L S,kJ l.ord n j=(L,S):=⟨_,_,rfl⟩;rw[hLS] at hI hI2 hst hbd ⊢;dsimp only at hI hI2 hst hbd ⊢
  have hex:∃s,nextO l.ord n S=some s:=by
   cases hnx:nextO l.ord n S with
   | some s=>exact⟨s,rfl⟩
   | none=>
    rw[hnx] at hI2;have h3:=hI2.len;have h4:=hI.len;dsimp only at h3;omega
  obtain⟨s0,hs0⟩:=hex;rw[hs0] at hst;dsimp only at hst;obtain⟨hf0,hr0,hb0⟩:=List.find?_range_eq_some.1 hs0;have hs0n:=List.mem_range.1 hr0;have hS:S<256:=by omega
  (refine aJ (aD (aK (aD (aB ?_))));(iterate 4 refine aA1 vq ?_);refine aL qE J J J ?_;refine aA1 vq (aE (aK ?_)))
  rw[en];refine bD (σ:=Nat) (fun s=>s≤s0) (fun s=>n-s) (fun s=>[(4,aB8 b),(6,u),(7,.int .i64 S),(21,.int .i64 n),(22,.int .i64 j),(28,.int .i64 n),(29,.int .i64 s)]) (fun _=>[.ow u 3 1 j (bF (chI L)),.pt b (dkC l v l.ord) 134]) 0 qG ⟨J,J,J,J,J,J,J,trivial⟩ qF ?_;rintro s hs1 K2 hK2;(refine aD (aB (dU qE J J J qG (aE (aD (aH J (aJ (aD (aK (aD (aB (aA1 vq ?_)))))))))));refine aA1 vq (aE (aD (aB ?_)));(iterate 3 refine aA1 vq ?_));refine aI (val:= .bool (eO l.ord n s S)) qE J J J J (fun w hs=> ?_) ?_;exact by have:=free_ca w b 134 l v l.ord s S (hs.blk qF) hl qG qG;rw[hn'] at this;exact this
  by_cases hss:s=s0
  ·subst hss;rw[hf0];have hpow:(2:Nat)^s≤128:=by have:=Nat.pow_le_pow_right (show 0<2 by omega) (show s≤7 by omega);simpa using this
   (refine aE (aH J (aD (aB (aA1 vq (aA1 vq ?_))))))
   refine cI 3 [.int .i64 s] J qI J (fun bn=> ?_);refine bU (q:=1) (news:=[.int .i64 s]) slI J J J (fun v'=>by repeat constructor) (fun w' hs=>⟨_,_,Blk.rdN (hs.blk (b:=bn) qF) J⟩) (by simp[dA]) qG qG (fun u'=> ?_);(refine aA1 vq (aE (aD (aB (aA1 vq (aA1 vq ?_))))));obtain⟨pk,hpk⟩:∃p,p=2^s:=⟨_,rfl⟩;have sh2:(1:Int)*2^(s:Int).toNat=(pk:Int):=by rw[hpk,Int.toNat_natCast,Int.one_mul];norm_cast
   rw[←hpk] at hpow hst;refine ql_shl J J J qG (by rw[sh2];omega) (by rw[sh2];omega) ?_;rw[sh2];refine ql_orN J J J qG qG ?_;(refine aA1 vq (aE (aZ _ J (aW (aB (aA4 xq qG qG (aA1 vq (aE ?_))))))));exact hK (j+1,u') _ _ (by simp only;omega) (by simp only;omega) ⟨J,J,by rw[hst];rfl,J,J,trivial⟩ (by dsimp only;rw[hst];dsimp only;rw[chI_app',chI_snoc'];repeat constructor)
  ·have hff:eO l.ord n s S=false:=by simpa using hb0 s qG
   rw[hff];(refine aE (aF J (aJ (aW (aB (aA4 xq qG qG (aA1 vq (aE ?_))))))));exact hK2 (s+1) _ _ qG qG ⟨J,J,J,J,J,J,J,trivial⟩ qF
 ·obtain rfl:j=n:=by omega
  (refine aZ _ J (aD (aB ?_));(iterate 3 refine aA1 vq ?_);refine aE (aQ ?_))
  refine aA2 wq qF fun w hs=> ?_;exact⟨u,J,hs.sp qF⟩
def woR(l:Lb)(D:List Nat)(k:Nat):List Rn:=((List.range k).filter fun i=> !decide (i∈D)).map fun i=>l.runs.getD i ⟨0,0,0⟩
theorem woR_len(l:Lb)(D:List Nat)(k:Nat):(woR l D k).length≤k:=by
 unfold woR;rw[List.length_map];have:=List.length_filter_le (fun i=> !decide (i∈D)) (List.range k);rw[List.length_range] at this;exact this
theorem woR_yes{l:Lb}{D:List Nat}{k:Nat}(h:k∈D):woR l D (k+1)=woR l D k:=by
 unfold woR;rw[List.range_succ,List.filter_append];simp[h]
theorem woR_no{l:Lb}{D:List Nat}{k:Nat}(h:k∉D)(hk:k<l.runs.length):woR l D (k+1)=woR l D k++[l.runs[k]]:=by
 unfold woR;rw[List.range_succ,List.filter_append];simp[h,hk]
theorem rdrop_ca(w:World)(lo hi:Nat)(l:Lb)(v:Value)(h:RdR w lo hi v l.runs)(hl:l.Ok)(h6:l.n≤6) :
  Ca Tryz.prog 33 [.agg (lbC l v).toArray] w fun x w'=>x= .int .i64 (dropF l (fC l.n l.n):Nat)∧Chg [] w w':=by
 obtain⟨n,en,hn',h8,h1⟩:=hl.nat;have hPb:=pS (n:=n) qG;have hagp:=fun L (hp:L∈fC n n)=>gV.1 hp
 have hlen:=hl.len;rw[hn'] at ⊢;obtain⟨va,vc,rfl,_⟩:=RdR.outI h;refine cM (Sat.nil w M0) Tryz.func33 J (by simp[Tryz.ntmps33]) ?_;(refine aD (aB ?_));refine bN J J (fun b1=> ?_);rw[bG];(refine aA1 vq (aE (aD (aB (aA1 vq ?_))));refine aL qE J J J ?_);rw[en];refine bB (β:=Value×List (Value×List Int)) qE [] _ M0 J J J J (Sp.refl _) qJ (fun w' hs=>perms_ca n qG w') ?_;rintro⟨_,Y⟩ v3 ⟨rfl,hY⟩;dsimp only[List.cons_append,List.nil_append] at hY ⊢;have hYl:Y.length=(fC n n).length:=by have:=congrArg List.length hY;simpa using this
 obtain⟨PL,hPL⟩:∃PL,PL=fC n n:=⟨_,rfl⟩;rw[←hPL] at hPb hagp hY hYl ⊢;refine bW (fun w hs=>hs.slice2 (v:=v3) qF) ?_;rintro⟨a3,c3,rfl⟩;(refine aA1 vq (aE (aD (aB (aA1 vq ?_))));refine aL qE J J J ?_;refine aA1 vq (aA1 vq (aE (aD (aD (aB (aA1 vq (aE (aK ?_)))))))));refine bD (σ:=Nat) (fun i=>i≤Y.length) (fun i=>Y.length-i) (fun i=>[(1,aB8 b1),(3,.slice a3 Y.length c3),(4,.int .i64 (dropF l (PL.take i):Nat)),(5,.int .i64 i)]) (fun _=>[un (cF 3 Y),.ow (.slice a3 Y.length c3) 22 1 Y.length (Y.map (·.1)),.pt b1 (lbC l (.slice va l.runs.length vc)) 53]) 0 qG ⟨J,J,J,J,trivial⟩ qF ?_;rintro i hi' K hK;(refine aD (aD (aB ?_));(iterate 4 refine aA1 vq ?_);refine aE ?_);refine cP J (fun hc=> ?_) (fun hc=> ?_)
 ·have hi2:i<Y.length:=by omega
  clear hc;have hip:i<PL.length:=by omega
  obtain⟨p,hp⟩:∃p,p=PL[i]:=⟨_,rfl⟩;have hpm:p∈PL:=by rw[hp];exact List.getElem_mem hip
  have hYk:Y[i].2=chI p:=by
   have h1:(Y.map (·.2))[i]? =(PL.map chI)[i]? :=by rw[hY]
   rw[List.getElem?_map,List.getElem?_map,List.getElem?_eq_getElem hi2,List.getElem?_eq_getElem hip,Option.map_some,Option.map_some] at h1;rw[hp];exact Option.some.inj h1
  have hpl:Y[i].2.length=p.length:=by rw[hYk,bT]
  have hst:dropF l (PL.take (i+1))=min (dropF l (PL.take i)) (agN l p):=by rw[List.take_succ_eq_append_getElem hip,←hp,dropF_snoc]
  have hst2:((dropF l (PL.take (i+1)):Nat):Int)=min ((dropF l (PL.take i):Nat):Int) ((agN l p:Nat):Int):=by rw[hst];omega
  refine dO (fun w hs=>rowN hs (t:=3) (X:=Y) qF hi2) ?_;rintro⟨ka,kc,ek,hka⟩;rw[hpl] at ek hka;refine dO (fun w hs=>hs.ownSome (v:= .slice a3 Y.length c3) qF qG) ?_;rintro⟨g3,q3,ev⟩;cases ev
  (refine aJ (aD (aK ?_)))
  refine bY _ [] (Sp.refl _) qI qI ?_;(refine aB2 yq ?_;refine bK qE J J J ?_;refine aB2 yq (aB2 yq ?_));refine aB5 uq qG qG ?_;refine bA (v:= .slice ka p.length kc) qE J J J (fun w hs=>iY hs (t:=22) (X:=Y) qF hi2 ek J) ?_;refine cR (val:= .int .i64 (agN l p:Nat)) qE J J J J (fun w hs=> ?_) ?_;exact ragainst_ca w lo hi 0 w.heap.size l (.slice va l.runs.length vc) (.slice ka p.length kc) p (RdE.keep h hs.chg0) hl (by rw[hn'];exact hagp p hpm) (by have:=(lU hs (t:=3) (xs:=Y) qF i hi2).1;rw[ek,hYk] at this;exact this);(refine aB2 yq (aB2 yq (aT (aW (aB (aA1 vq (aA4 xq qG qG (aA1 vq (aE ?_)))))))));exact hK (i+1) _ _ qG qG ⟨J,J,by rw[hst2];rfl,J,trivial⟩ qF
 ·have hiY:i=PL.length:=by omega
  subst hiY;rw[List.take_length];(refine aZ _ J (aD (aB (aA1 vq (aA1 vq (aE (aQ ?_)))))));refine aA2 wq qF fun w hs=> ?_
  exact⟨J,hs.chg0⟩
def kpB(i:Nat)(L:List Nat):Bool:= !decide (i∈L)&&true
theorem kp_t{i:Nat}{L:List Nat}(h:i∉L):kpB i L=true:=by unfold kpB;rw[decide_eq_false h];rfl
theorem kp_f{i:Nat}{L:List Nat}(h:i∈L):kpB i L=false:=by unfold kpB;rw[decide_eq_true h];rfl
theorem rwithout_ca(w:World)(lo hi lo2 hi2:Nat)(l:Lb)(v u:Value)(D:List Nat)(h:RdR w lo hi v l.runs)(hl:l.Ok)(hD:RdI w lo2 hi2 u (chI D))(hDl:D.length≤1000000) :
  Ca Tryz.prog 34 [.agg (lbC l v).toArray,u] w fun x w'=>∃z:Value,x= .agg (lbC (woL l D) z).toArray∧Sat w M0 [.ow z 125 3 (woL l D).runs.length (rnC (woL l D).runs)] w':=by
 have hlen:=hl.len;obtain⟨va,vc,rfl,hva⟩:=RdR.outI h;obtain⟨ua,uc,rfl,hua⟩:=RdI.outI hD;rw[bT] at hua hD ⊢;refine cM (Sat.nil w M0) Tryz.func34 J (by simp[Tryz.ntmps34]) ?_;(refine aD (aB ?_));refine bN J J (fun b2=> ?_);rw[bG];refine bJ eP J (fun b4=> ?_);(refine aE (aD (aB (aA1 vq ?_)));refine aL qE J J J ?_;refine aA1 vq ?_;refine aL qE J J J ?_);refine dM (lbC ⟨l.skis,l.err,[]⟩ (.slice none 0 0)).toArray J qI J ?_;refine bJ eP J (fun b5=> ?_);(refine aA6 uq qF J ?_;refine aE (aD (aD (aB (aA1 vq (aE (aK ?_)))))));refine cQ (H':=[.ow (.slice none 0 0) 125 3 (woR l D 0).length (rnC (woR l D 0)),.pt b5 [.int .i64 l.skis,.int .i64 l.err,.slice none 0 0] 53,.pt b4 [.int .i64 0,.int .i64 0,.slice none 0 0] 53,.pt b2 (lbC l (.slice va l.runs.length vc)) 53]) (fun w' hs=>(Sat.ownil hs 125 3).sp qF) ?_;refine bD (σ:=Nat×Value) (fun z=>z.1≤l.runs.length) (fun z=>l.runs.length-z.1) (fun z=>[(1,.slice ua D.length uc),(2,aB8 b2),(4,aB8 b4),(5,aB8 b5),(6,.int .i64 z.1)]) (fun z=>[.ow z.2 125 3 (woR l D z.1).length (rnC (woR l D z.1)),.pt b5 [.int .i64 l.skis,.int .i64 l.err,z.2] 53,.pt b4 [.int .i64 0,.int .i64 0,.slice none 0 0] 53,.pt b2 (lbC l (.slice va l.runs.length vc)) 53]) (0,.slice none 0 0) (by simp only;omega) ⟨J,J,J,J,J,trivial⟩ qF ?_;rintro⟨i,x⟩ hi' K hK;dsimp only at hi' hK ⊢;have hwl:=woR_len l D i;refine dO (fun w hs=>hs.slice2 (v:=x) qF) ?_;rintro⟨xa,xc,rfl⟩;(refine aD (aD (aB (aA1 vq (aA1 vq ?_))));refine aL qE J J J ?_;refine aA1 vq (aA1 vq (aE ?_)));refine cP J (fun hc=> ?_) (fun hc=> ?_)
 ·have hi2:i<l.runs.length:=by omega
  clear hc;obtain⟨gv,ov,rfl⟩:=hva qG;(refine aJ (aD (aK (aD (aB (aA1 vq (aE (aD (aD (aB (aA1 vq (aE ?_)))))))))));refine aK ?_);refine bD (σ:=Nat) (fun k=>k≤D.length) (fun k=>D.length-k) (fun k=>[(1,.slice ua D.length uc),(2,aB8 b2),(4,aB8 b4),(5,aB8 b5),(6,.int .i64 i),(7,.bool (kpB i (D.take k))),(8,.int .i64 k)]) (fun _=>[.ow (.slice xa (woR l D i).length xc) 125 3 (woR l D i).length (rnC (woR l D i)),.pt b5 [.int .i64 l.skis,.int .i64 l.err,.slice xa (woR l D i).length xc] 53,.pt b4 [.int .i64 0,.int .i64 0,.slice none 0 0] 53,.pt b2 (lbC l (.slice (some ⟨gv,ov,none⟩) l.runs.length vc)) 53]) 0 qG ⟨J,J,J,J,J,by rw[kp_t (by simp)];rfl,J,trivial⟩ qF ?_;rintro k hk K2 hK2;(refine aD (aD (aB ?_));(iterate 4 refine aA1 vq ?_);refine aE ?_);refine cP J (fun hc=> ?_) (fun hc=> ?_)
  ·have hk2:k<D.length:=by omega
   clear hc;obtain⟨gu,ou,rfl⟩:=hua qG;have hk3:k<(chI D).length:=by rw[bT];exact hk2
   have htk:(i∈D.take (k+1))↔(i∈D.take k∨i=D[k]):=by rw[List.take_succ_eq_append_getElem hk2,List.mem_append,List.mem_singleton]
   obtain⟨dk,hdk⟩:∃d,d=D[k]:=⟨_,rfl⟩;rw[←hdk] at htk;by_cases hm:i∈D.take k
   ·rw[kp_f hm];(refine aJ (aD (aK (aB (aA1 vq (aA1 vq ?_)))));(iterate 6 refine aA3 zq ?_);refine aA1 vq (aA1 vq (aE (aW (aB (aA1 vq (aA4 xq qG qG (aA1 vq (aE ?_)))))))));exact hK2 (k+1) _ _ qG qG ⟨J,J,J,J,J,by rw[kp_f (htk.2 (.inl hm))];rfl,J,trivial⟩ qF
   ·rw[kp_t hm];(refine aJ (aD (aK (aB (aA1 vq (aA1 vq (aC J (aA1 vq (aC J (aA1 vq (aC J ?_)))))))))));refine aA5 uq qG qG ?_;(refine aC J ?_)
    refine bC (v:= .int .i64 dk) qE J J J (fun w hs=>by
     have:=RdI.at (RdE.keep hD hs.chg0) k hk3;rw[show(chI D)[k]=((D[k]:Nat):Int) from by simp[chI],←hdk] at this;exact this) ?_
    by_cases he:i=dk
    ·(refine aC J (aA1 vq (aC J (aB1 yq qG (aA1 vq (aA1 vq (aE (aW (aB (aA1 vq (aA4 xq qG qG (aA1 vq ?_)))))))))));refine aE ?_)
     exact hK2 (k+1) _ _ qG qG ⟨J,J,J,J,J,by rw[kp_f (htk.2 (.inr he))];rfl,J,trivial⟩ qF
    ·(refine aC J (aA1 vq (aC J (aB0 yq qG (aA1 vq (aA1 vq (aE (aW (aB (aA1 vq (aA4 xq qG qG (aA1 vq ?_)))))))))));refine aE ?_)
     exact hK2 (k+1) _ _ qG qG ⟨J,J,J,J,J,by rw[kp_t (fun h=>(htk.1 h).elim hm he)];rfl,J,trivial⟩ qF
  ·obtain rfl:k=D.length:=by omega
   clear hc hK2 hk;rw[List.take_length];by_cases hm:i∈D
   ·rw[kp_f hm];(refine aZ _ J (aD (aB (aA1 vq (aE (aF J (aJ (aW (aB (aA1 vq (aA4 xq qG qG (aA1 vq ?_)))))))))));refine aE ?_);exact hK (i+1,.slice xa (woR l D i).length xc) _ _ (by simp only;omega) (by simp only;omega) ⟨J,J,J,J,J,trivial⟩ (by dsimp only;rw[woR_yes hm];repeat constructor)
   ·rw[kp_t hm];(refine aZ _ J (aD (aB (aA1 vq (aE (aH J ?_))))));refine q_drawS 8 [.pt b4 [.int .i64 0,.int .i64 0,.slice none 0 0] 53,.pt b2 (lbC l (.slice (some ⟨gv,ov,none⟩) l.runs.length vc)) 53] [.ow (.slice xa (woR l D i).length xc) 125 3 (woR l D i).length (rnC (woR l D i)),.pt b5 [.int .i64 l.skis,.int .i64 l.err,.slice xa (woR l D i).length xc] 53] qF qI qI qI fun K1 hK1=> ?_
    (refine aB2 yq ?_;refine aX qE J J J ?_;refine aB2 yq ?_;refine aX qE J J J ?_;refine aB2 yq ?_)
    refine aB5 uq qG qG ?_;refine dX (cs:=[.int .i64 l.runs[i].a,.int .i64 l.runs[i].b,.int .i64 l.runs[i].lead]) qE J J J J (fun w hs j hj=>RdR.at (RdE.keep h hs.chg0) i hi2 j hj) ?_;refine qB 125 [.int .i64 l.runs[i].a,.int .i64 l.runs[i].b,.int .i64 l.runs[i].lead] J qI J (fun bn=> ?_);(refine aT ?_);refine hK1 _ _ [.pt bn [.int .i64 l.runs[i].a,.int .i64 l.runs[i].b,.int .i64 l.runs[i].lead] 125,.ow (.slice xa (woR l D i).length xc) 125 3 (woR l D i).length (rnC (woR l D i)),.pt b5 [.int .i64 l.skis,.int .i64 l.err,.slice xa (woR l D i).length xc] 53] qF ?_;refine fG (q:=1) (news:=[.int .i64 l.runs[i].a,.int .i64 l.runs[i].b,.int .i64 l.runs[i].lead]) slRr J J J (fun v'=>by repeat constructor) (fun w' hs=>⟨_,_,Blk.rdN (hs.blk (b:=bn) qF) J⟩) (by simp[dA]) qG qG (fun u'=> ?_);refine cT (fun w' hs=>hs.own_one (v:=u') qF) (fun hone=> ?_);(refine aB2 yq ?_);refine qf_st2 qE J J J hone qF ?_;(refine aT (aW (aB (aA1 vq (aA4 xq qG qG (aA1 vq (aE ?_)))))));exact hK (i+1,u') _ _ (by simp only;omega) (by simp only;omega) ⟨J,J,J,J,J,trivial⟩ (by dsimp only;rw[woR_no hm hi2,List.length_append,List.length_singleton,rnC_snoc];repeat constructor)
 ·obtain rfl:i=l.runs.length:=by omega
  clear hc hK hi';(refine aZ _ J (aD (aB ?_));refine aM qE J J J ?_;refine aA6 uq qF J ?_;refine aE (aQ ?_));refine aA2 wq qF fun w hs=> ?_
  exact⟨_,J,hs.sp qF⟩
def Dn(X:List (List Nat))(i p s q:Nat):Prop:=∃j,j<X.length∧(j<i∨(j=i∧q<p))∧(X.getD j [])[q]? =some s
theorem dn_succ{X:List (List Nat)}{i p s x q:Nat}(hi:i<X.length)(hx:(X.getD i [])[p]? =some x):Dn X i (p+1) s q↔Dn X i p s q∨(s=x∧q=p):=by
 constructor
 ·rintro⟨j,h1,h2,h3⟩;rcases h2 with h2|⟨h2,h4⟩
  ·exact .inl ⟨j,h1,.inl h2,h3⟩
  ·by_cases e:q=p
   ·subst e;subst h2;rw[hx] at h3;exact .inr ⟨(Option.some.inj h3).symm,J⟩
   ·exact .inl ⟨j,h1,.inr ⟨h2,by omega⟩,h3⟩
 ·rintro(⟨j,h1,h2,h3⟩|⟨rfl,rfl⟩)
  ·exact⟨j,h1,h2.imp_right fun h=>⟨h.1,by omega⟩,h3⟩
  ·exact⟨i,hi,.inr ⟨J,by omega⟩,hx⟩
theorem dn_row{X:List (List Nat)}{n i s q:Nat}(hl:(X.getD i []).length=n):Dn X i n s q↔Dn X (i+1) 0 s q:=by
 constructor
 ·rintro⟨j,h1,h2,h3⟩;exact⟨j,h1,.inl qG,h3⟩
 ·rintro⟨j,h1,h2,h3⟩;have h4:j<i+1:=by rcases h2 with h|h<;>omega
  by_cases e:j=i
  ·subst e;refine⟨j,h1,.inr ⟨J,?_⟩,h3⟩;obtain⟨h5,_⟩:=List.getElem?_eq_some_iff.1 h3;omega
  ·exact⟨j,h1,.inl qG,h3⟩
theorem dn_zero{X:List (List Nat)}{s q:Nat}:¬Dn X 0 0 s q:=by
 rintro⟨j,h1,h2,h3⟩;rcases h2 with h|h<;>omega
structure PlS(n:Nat)(O:List (Int×Int))(D:Nat→Nat→Prop):Prop where
 len:O.length=n
 at_:∀s,s<n→((∀q,¬D s q)∧O.getD s (0,0)=(0,0))∨((∃q:Nat,D s q∧(O.getD s (0,0)).1=q+1)∧(∀q:Nat,D s q→(O.getD s (0,0)).1≤q+1)∧(∃q:Nat,D s q∧(O.getD s (0,0)).2=q+1)∧∀q:Nat,D s q→(q:Int)+1≤(O.getD s (0,0)).2)
theorem PlS.congr{n:Nat}{O:List (Int×Int)}{D E:Nat→Nat→Prop}(h:PlS n O D)(he:∀s q,D s q↔E s q):PlS n O E:=by
 have:D=E:=funext fun s=>funext fun q=>propext (he s q)
 rw[←this];exact h
def loU(z:Int×Int)(p:Nat):Int:=if z.1=0∨(p:Int)+1<z.1 then(p:Int)+1 else z.1
def upZ(z:Int×Int)(p:Nat):Int×Int:=(loU z p,max z.2 ((p:Int)+1))
theorem PlS.set{n:Nat}{O:List (Int×Int)}{D:Nat→Nat→Prop}(h:PlS n O D){x p:Nat}(hx:x<n):PlS n (O.set x (upZ (O.getD x (0,0)) p)) (fun s q=>D s q∨(s=x∧q=p)) where
 len:=by rw[List.length_set];exact h.len
 at_ s hs:=by
  have hl:=h.len
  have hg:(O.set x (upZ (O.getD x (0,0)) p)).getD s (0,0)=if s=x then upZ (O.getD x (0,0)) p else O.getD s (0,0):=by
   rw[List.getD_eq_getElem?_getD,List.getElem?_set];by_cases e:x=s
   ·subst e;rw[if_pos rfl,if_pos qG,if_pos rfl];rfl
   ·rw[if_neg e,if_neg (fun h=>e h.symm),List.getD_eq_getElem?_getD]
  rw[hg];by_cases e:s=x
  ·subst e;rw[if_pos rfl];right;rcases h.at_ s hs with⟨h1,h2⟩|⟨⟨q1,h1,h2⟩,h3,⟨q2,h4,h5⟩,h6⟩
   ·rw[h2];refine⟨⟨p,.inr ⟨J,J⟩,by simp[upZ,loU]⟩,fun q hq=> ?_,⟨p,.inr ⟨J,J⟩,by simp only[upZ];omega⟩,fun q hq=> ?_⟩
    ·rcases hq with hq|⟨_,rfl⟩
     ·exact absurd hq (h1 q)
     ·simp[upZ,loU]
    ·rcases hq with hq|⟨_,rfl⟩
     ·exact absurd hq (h1 q)
     ·simp only[upZ];omega
   ·generalize O.getD s (0,0)=z at h2 h3 h5 h6 ⊢;refine⟨?_,fun q hq=> ?_,?_,fun q hq=> ?_⟩
    ·by_cases hc:z.1=0∨(p:Int)+1<z.1
     ·exact⟨p,.inr ⟨J,J⟩,by simp only[upZ,loU];rw[if_pos hc]⟩
     ·exact⟨q1,.inl h1,by simp only[upZ,loU];rw[if_neg hc];exact h2⟩
    ·have h7:(upZ z p).1≤z.1∧(upZ z p).1≤p+1:=by
      simp only[upZ,loU];split<;>omega
     rcases hq with hq|⟨_,rfl⟩
     ·have:=h3 q hq;omega
     ·exact h7.2
    ·by_cases hc:z.2≤(p:Int)+1
     ·exact⟨p,.inr ⟨J,J⟩,by simp only[upZ];omega⟩
     ·exact⟨q2,.inl h4,by simp only[upZ];omega⟩
    ·rcases hq with hq|⟨_,rfl⟩
     ·have:=h6 q hq;simp only[upZ];omega
     ·simp only[upZ];omega
  ·rw[if_neg e];rcases h.at_ s hs with⟨h1,h2⟩|⟨⟨q1,h1,h2⟩,h3,⟨q2,h4,h5⟩,h6⟩
   ·exact .inl ⟨fun q hq=>hq.elim (h1 q) fun h=>e h.1,h2⟩
   ·exact .inr ⟨⟨q1,.inl h1,h2⟩,fun q hq=>hq.elim (h3 q) fun h=>absurd h.1 e,⟨q2,.inl h4,h5⟩,fun q hq=>hq.elim (h6 q) fun h=>absurd h.1 e⟩
theorem PlS.zero(n:Nat):PlS n (List.replicate n (0,0)) (fun _ _=>False):=⟨by simp,fun s hs=> .inl ⟨fun q h=>h,by rw[List.getD_eq_getElem?_getD,List.getElem?_replicate,if_pos hs];rfl⟩⟩
theorem PlS.all{l:Lb}(hl:l.Ok)(hc:NoC l.ord l.n){O:List (Int×Int)}(h:PlS l.n O (Dn (FL l.ord l.n l.n) (FL l.ord l.n l.n).length 0)):O=plC l l.ord l.n:=by
 have h8:=hl.n8;have hsk:l.skis=(l.n:Int):=by have:=hl.s0;unfold Lb.n;omega
 have hdn:∀s q,Dn (FL l.ord l.n l.n) (FL l.ord l.n l.n).length 0 s q↔∃L,LinO l.ord l.n L∧L[q]? =some s:=fun s q=>by
  constructor
  ·rintro⟨j,h1,_,h3⟩;rw[List.getD_eq_getElem?_getD,List.getElem?_eq_getElem h1,Option.getD_some] at h3;exact⟨_,(fT h8 hl.inO).1 (List.getElem_mem h1),h3⟩
  ·rintro⟨L,h1,h2⟩;obtain⟨j,hj,rfl⟩:=List.mem_iff_getElem.1 ((fT h8 hl.inO).2 h1);exact⟨j,hj,.inl hj,by rw[List.getD_eq_getElem?_getD,List.getElem?_eq_getElem hj,Option.getD_some];exact h2⟩
 refine List.ext_getElem (by rw[h.len,plC_len]) fun s h1 h2=> ?_;have hs:s<l.n:=by rw[plC_len] at h2;exact h2
 have hidx:∀L q,LinO l.ord l.n L→L[q]? =some s→L.idxOf s=q:=fun L q hL hq=>by
  obtain⟨h3,h4⟩:=List.getElem?_eq_some_iff.1 hq;rw[←h4];exact hL.nodup.idxOf_getElem q h3
 have hat:∀L,LinO l.ord l.n L→L[L.idxOf s]? =some s:=fun L hL=>by
  have h3:=List.idxOf_lt_length_iff.2 (hL.mem.2 hs);rw[List.getElem?_eq_getElem h3,List.getElem_idxOf]
 obtain⟨L1,g1,g2⟩:=place_lo hc hl.o h8 hl.inO hs;obtain⟨L2,g3,g4⟩:=place_hi hc hl.o h8 hl.inO hs;have d1:=(hdn s _).2 ⟨L1,g1,hat L1 g1⟩;have d2:=(hdn s _).2 ⟨L2,g3,hat L2 g3⟩;have hO:O[s]=O.getD s (0,0):=by rw[List.getD_eq_getElem?_getD,List.getElem?_eq_getElem h1,Option.getD_some]
 have hP:=plC_get l l.ord (k:=l.n) hs;obtain⟨_,hP⟩:=List.getElem?_eq_some_iff.1 hP;rw[hO,hP];rcases h.at_ s hs with⟨h5,_⟩|⟨⟨q1,h5,h6⟩,h7,⟨q2,h9,h10⟩,h11⟩
 ·exact absurd d1 (h5 _)
 ·obtain⟨L3,k1,k2⟩:=(hdn s q1).1 h5;obtain⟨L4,k3,k4⟩:=(hdn s q2).1 h9;have e1:=hidx L3 q1 k1 k2;have e2:=hidx L4 q2 k3 k4;have b1:=lin_bd k1 h8 hs;have b2:=lin_bd k3 h8 hs;have a1:=h7 _ d1;have a2:=h11 _ d2;refine Prod.ext ?_ ?_
  ·simp only;omega
  ·simp only;omega
theorem spC_rep(n:Nat):List.replicate (n*2) (Value.int .i64 0)=spC (List.replicate n (0,0)):=by
 induction n with
 | zero=>rfl
 | succ n ih=>
  rw[show(n+1)*2=n*2+1+1 from by omega,List.replicate_succ,List.replicate_succ,ih,List.replicate_succ]
  rfl
theorem spC_at:∀(O:List (Int×Int)) (s:Nat),s<O.length→(spC O)[s*2]? =some (.int .i64 (O.getD s (0,0)).1)∧(spC O)[s*2+1]? =some (.int .i64 (O.getD s (0,0)).2)
 | z::O,0,_=>⟨rfl,rfl⟩
 | z::O,s+1,h=>by
  have ih:=spC_at O s (by simpa using h);have e:spC (z::O)= .int .i64 z.1:: .int .i64 z.2::spC O:=rfl;rw[e,show(s+1)*2=s*2+1+1 from by omega,List.getElem?_cons_succ,List.getElem?_cons_succ,List.getElem?_cons_succ,List.getElem?_cons_succ];exact ih
theorem spC_setL:∀(O:List (Int×Int)) (s:Nat) (x y:Int),s<O.length→((spC O).set (s*2) (.int .i64 x))=spC (O.set s (x,(O.getD s (0,0)).2))∧((spC (O.set s (x,(O.getD s (0,0)).2))).set (s*2+1) (.int .i64 y))=spC (O.set s (x,y))∧((spC O).set (s*2+1) (.int .i64 y))=spC (O.set s ((O.getD s (0,0)).1,y))
 | z::O,0,x,y,_=>⟨rfl,rfl,rfl⟩
 | z::O,s+1,x,y,h=>by
  have ih:=spC_setL O s x y (by simpa using h);have e:∀O,spC (z::O)= .int .i64 z.1:: .int .i64 z.2::spC O:=fun _=>rfl
  have g:(z::O).getD (s+1) (0,0)=O.getD s (0,0):=rfl;rw[g,List.set_cons_succ,List.set_cons_succ,List.set_cons_succ,e,e,e,e,show(s+1)*2=s*2+1+1 from by omega,List.set_cons_succ,List.set_cons_succ,List.set_cons_succ,List.set_cons_succ,List.set_cons_succ,List.set_cons_succ];exact⟨by rw[ih.1],by rw[ih.2.1],by rw[ih.2.2]⟩
theorem rowM{w0 w:World}{M:Nat→Prop}{H:List Ck}{t:Nat}{Y:List (Value×List Int)}(hs:Sat w0 M H w)(hm:un (cF t Y)∈H){p:Value×List Int}(hp:p∈Y):∃a c,p.1= .slice a p.2.length c∧(0<p.2.length→∃g,a=some ⟨g,0,none⟩):=by
 have h2:w.ownsRow 0 t 1 p.1 p.2.length (bF p.2):=(hs.mem hm).1 (.ow p.1 t 1 p.2.length (bF p.2)) (List.mem_map.2 ⟨_,hp,rfl⟩);rcases h2.2 with⟨h3,h4⟩|⟨g,cap,cur,h3,_⟩
 ·exact⟨none,0,by rw[h3,h4],fun h=>by omega⟩
 ·exact⟨_,_,h3,fun _=>⟨g,J⟩⟩
theorem rowR{w0 w:World}{M:Nat→Prop}{H:List Ck}{t:Nat}{Y:List (Value×List Int)}(hs:Sat w0 M H w)(hm:un (cF t Y)∈H){p:Value×List Int}(hp:p∈Y):RdI w 0 w.heap.size p.1 p.2:=
 eX ((hs.mem hm).1 (.ow p.1 t 1 p.2.length (bF p.2)) (List.mem_map.2 ⟨_,hp,rfl⟩)) rfl
theorem nM(s:Nat)(j:Nat):0+(s:Int).toNat*2+j=s*2+j:=by rw[Int.toNat_natCast];omega
theorem rplaces_ca(w:World)(lo hi:Nat)(l:Lb)(v:Value)(h:RdR w lo hi v l.runs)(hl:l.Ok)(hc0:NoC l.ord l.n)(h6:l.n≤6) :
  Ca Tryz.prog 40 [.agg (lbC l v).toArray] w fun x w'=>∃b:Nat,x=aB7 b l.n l.n∧Sat w M0 [.pt b (spC (plC l l.ord l.n)) 40] w':=by
 have hall:=fun O hO=>PlS.all hl hc0 (O:=O) hO
 obtain⟨n,en,hn',h8,h1⟩:=hl.nat;have hfit:=fun w' hr=>jR w' lo hi l v hr hl h6
 rw[hn'] at hall hfit h6 ⊢
 have hXm:∀L∈FL l.ord n n,L.length=n∧∀x∈L,x<n:=fun L hL=>by
  obtain⟨_,h2,h3⟩:=fl_has hL;exact⟨h3,h2⟩
 have hXb:(FL l.ord n n).length≤46656:=by
  rw[←FL_eq];exact Nat.le_trans (List.length_filter_le _ _) (pS h6)
 obtain⟨va,vc,rfl,_⟩:=RdR.outI h;refine cM (Sat.nil w M0) Tryz.func40 J (by simp[Tryz.ntmps40]) ?_;(refine aD (aB ?_));refine bN J J (fun b1=> ?_);rw[bG];(refine aA1 vq (aE (aD (aB (aA1 vq ?_))));refine aL qE J J J ?_);rw[en];refine ql_makeC slS J J J qG qG qG (fun b3=> ?_);rw[show(Value.agg #[.int .i64 0,.int .i64 0]).cells= #[.int .i64 0,.int .i64 0] from rfl,made_same,spC_rep];(refine aA1 vq (aE (aD (aB ?_)));refine aM qE J J J ?_);refine bB (β:=Value×List (Value×List Int)×List (Value×List Int)) qE [] _ M0 J J J J (Sp.refl _) qJ (fun w' hs=>hfit w' (RdE.keep h hs.chg0)) ?_;rintro⟨_,Y,sel⟩ v4 ⟨rfl,hsub,hsel⟩;dsimp only[List.cons_append,List.nil_append] at hsub hsel ⊢;obtain⟨X,hX⟩:∃X,X=FL l.ord n n:=⟨_,rfl⟩;rw[←hX] at hXm hXb hall hsel;have hsl:sel.length=X.length:=by have:=congrArg List.length hsel;simpa using this
 refine bW (fun w hs=>hs.slice2 (v:=v4) qF) ?_;rintro⟨a4,c4,rfl⟩;(refine aA1 vq (aE (aD (aD (aB (aA1 vq (aE (aK ?_))))))));refine bD (σ:=Nat×List (Int×Int)) (fun z=>z.1≤sel.length∧PlS n z.2 (Dn X z.1 0)) (fun z=>sel.length-z.1) (fun z=>[(1,aB8 b1),(3,aB7 b3 n n),(4,.slice a4 sel.length c4),(5,.int .i64 z.1)]) (fun z=>[.pt b3 (spC z.2) 40,un (cF 3 Y),.ow (.slice a4 sel.length c4) 22 1 sel.length (sel.map (·.1)),.pt b1 (lbC l (.slice va l.runs.length vc)) 53]) (0,List.replicate n (0,0)) ⟨by simp,(PlS.zero n).congr fun s q=>⟨fun h=>h.elim,fun h=>dn_zero h⟩⟩ ⟨J,J,J,J,trivial⟩ qF ?_;rintro⟨i,O⟩ ⟨hi',hO⟩ K hK;dsimp only at hi' hO hK ⊢;(refine aD (aD (aB ?_));(iterate 4 refine aA1 vq ?_);refine aE ?_);refine cP J (fun hc=> ?_) (fun hc=> ?_)
 ·have hi2:i<sel.length:=by omega
  clear hc;have hiX:i<X.length:=by omega
  have hXi:=hXm _ (List.getElem_mem hiX);obtain⟨L,hL⟩:∃L,L=X[i]:=⟨_,rfl⟩;have hLd:X.getD i []=L:=by rw[List.getD_eq_getElem?_getD,List.getElem?_eq_getElem hiX,Option.getD_some,hL]
  rw[←hL] at hXi;obtain⟨hLl,hLn⟩:=hXi
  have hse:sel[i].2=chI L:=by
   have h1:(sel.map (·.2))[i]? =(X.map chI)[i]? :=by rw[hsel]
   rw[List.getElem?_map,List.getElem?_map,List.getElem?_eq_getElem hi2,List.getElem?_eq_getElem hiX,Option.map_some,Option.map_some] at h1;rw[hL];exact Option.some.inj h1
  have hsY:=hsub _ (List.getElem_mem hi2);refine dO (fun w hs=>rowM hs (t:=3) (Y:=Y) qF hsY) ?_;rintro⟨ka,kc,ek,hka⟩;rw[hse,bT,hLl] at ek hka;obtain⟨gk,rfl⟩:=hka qG;refine dO (fun w hs=>hs.ownSome (v:= .slice a4 sel.length c4) qF qG) ?_;rintro⟨g4,q4,ev⟩;cases ev
  (refine aJ (aD (aK (aD (aB (aA1 vq (aE (aK ?_))))))))
  refine bD (σ:=Nat×List (Int×Int)) (fun z=>z.1≤n∧PlS n z.2 (Dn X i z.1)) (fun z=>n-z.1) (fun z=>[(1,aB8 b1),(3,aB7 b3 n n),(4,aB7 g4 sel.length c4),(5,.int .i64 i),(6,.int .i64 z.1)]) (fun z=>[.pt b3 (spC z.2) 40,un (cF 3 Y),.ow (aB7 g4 sel.length c4) 22 1 sel.length (sel.map (·.1)),.pt b1 (lbC l (.slice va l.runs.length vc)) 53]) (0,O) ⟨by simp only;omega,hO⟩ ⟨J,J,J,J,J,trivial⟩ qF ?_;rintro⟨p,O⟩ ⟨hp,hO⟩ K2 hK2;dsimp only at hp hO hK2 ⊢;(refine aD (aD (aB (aA1 vq (aA1 vq ?_))));refine aL qE J J J ?_;refine aA1 vq (aE ?_));rw[en];refine cP J (fun hc=> ?_) (fun hc=> ?_)
  ·have hp2:p<n:=by omega
   clear hc;have hpL:p<L.length:=by omega
   have hpc:p<(chI L).length:=by rw[bT];exact hpL
   have hLp:=hLn _ (List.getElem_mem hpL);obtain⟨s,hs'⟩:∃s,s=L[p]:=⟨_,rfl⟩;rw[←hs'] at hLp;have hOl:=hO.len;have hsO:s<O.length:=by omega
   have hsp:=spC_at O s hsO;have hstep:=(hO.set (p:=p) hLp).congr fun x q=>(dn_succ hiX (by rw[hLd,List.getElem?_eq_getElem hpL,←hs']:(X.getD i [])[p]? =some s) (s:=x) (q:=q)).symm
   have hcl:(spC O).length=O.length*2:=fE O;obtain⟨z,hz⟩:∃z,z=O.getD s (0,0):=⟨_,rfl⟩;rw[←hz] at hsp hstep;have hpn:=fun x y=>spC_setL O s x y hsO
   rw[←hz] at hpn;have hz1:=hO.at_ s hLp;rw[←hz] at hz1
   have hzb:0≤z.1∧z.1≤1000000∧0≤z.2∧z.2≤1000000:=by
    have hq:∀q,Dn X i p s q→q<n:=fun q ⟨j,g1,_,g3⟩=>by
     rw[List.getD_eq_getElem?_getD,List.getElem?_eq_getElem g1,Option.getD_some] at g3;have:=(hXm _ (List.getElem_mem g1)).1;obtain⟨g4,_⟩:=List.getElem?_eq_some_iff.1 g3;omega
    rcases hz1 with⟨_,e⟩|⟨⟨q1,g1,g2⟩,_,⟨q2,g3,g4⟩,_⟩
    ·rw[e];simp
    ·have:=hq _ g1;have:=hq _ g3;omega
   clear hz1;(refine aJ (aD (aK (aD (aB (aA1 vq (aA1 vq ?_)))))));refine aA5 uq qG qG ?_;refine bC (v:=aB7 gk n kc) qE J J J (fun w hs=>iY hs (t:=22) (X:=sel) qF hi2 ek J) ?_;(refine aA1 vq ?_);refine aA5 uq qG qG ?_
   refine bC (v:= .int .i64 s) qE J J J (fun w hs=>by
    have h9:=rowR hs (t:=3) (Y:=Y) qF hsY;rw[ek,hse] at h9;have:=RdI.at h9 p hpc;rw[show(chI L)[p]=((L[p]:Nat):Int) from by simp[chI],←hs'] at this;exact this) ?_
   (refine aA1 vq (aE (aD (aD (aB (aA1 vq (aA1 vq ?_)))))))
   refine aA5 uq qG qG ?_;(refine aA1 vq ?_);refine bC (v:= .int .i64 z.1) qE J J J (fun w hs=>by rw[Blk.cell (hs.blk (b:=b3) (cs:=spC O) (t:=40) qF),nM];exact hsp.1) ?_;by_cases h0:z.1=0
   ·(refine aA8 yq qG (aA1 vq ?_);(iterate 8 refine aA3 zq ?_);refine aA1 vq (aE (aH J (aB ?_)));(iterate 3 refine aA1 vq ?_);refine aA4 xq qG qG ?_)
    refine aA5 uq qG qG ?_;(refine aA1 vq ?_);refine cN qE J J J J qF qG ?_;rw[nM,Nat.add_zero,(hpn ((p:Int)+1) 0).1];(refine aE (aB ?_);(iterate 4 refine aA1 vq ?_));refine aA5 uq qG qG ?_;(refine aA1 vq ?_)
    refine bC (v:= .int .i64 z.2) qE J J J (fun w hs=>by
     rw[Blk.cell (hs.blk (b:=b3) (cs:=spC (O.set s ((p:Int)+1,z.2))) (t:=40) qF),nM];have:=(spC_at (O.set s ((p:Int)+1,z.2)) s (by rw[List.length_set];exact hsO)).2;rw[List.getD_eq_getElem?_getD,List.getElem?_set_self hsO] at this;exact this) ?_
    (refine aA1 vq (aA4 xq qG qG (aA1 vq ?_)))
    refine aA5 uq qG qG ?_;(refine aA1 vq ?_);refine cN qE J J J J qF (by rw[fE,List.length_set];omega) ?_;rw[nM,(hpn ((p:Int)+1) (max z.2 ((p:Int)+1))).2.1];(refine aE (aW (aB (aA1 vq (aA4 xq qG qG (aA1 vq (aE ?_)))))));exact hK2 (p+1,O.set s ((p:Int)+1,max z.2 ((p:Int)+1))) _ _ ⟨by simp only;omega,by rw[show((p:Int)+1,max z.2 ((p:Int)+1))=upZ z p from by unfold upZ loU;rw[if_pos qG]];exact hstep⟩ (by simp only;omega) ⟨J,J,J,J,J,trivial⟩ qF
   ·(refine aA9 yq qG (aA1 vq (aC J (aA1 vq (aC J (aA4 xq qG qG (aC J (aA1 vq (aC J (aA1 vq (aC J ?_)))))))))))
    refine aA5 uq qG qG ?_;(refine aC J (aA1 vq (aC J ?_)));refine bC (v:= .int .i64 z.1) qE J J J (fun w hs=>by rw[Blk.cell (hs.blk (b:=b3) (cs:=spC O) (t:=40) qF),nM];exact hsp.1) ?_;by_cases hlt:(p:Int)+1<z.1
    ·(refine aC J (dU qE J J J qG (aA1 vq (aE (aH J (aB ?_)))));(iterate 3 refine aA1 vq ?_);refine aA4 xq qG qG ?_)
     refine aA5 uq qG qG ?_;(refine aA1 vq ?_);refine cN qE J J J J qF qG ?_;rw[nM,Nat.add_zero,(hpn ((p:Int)+1) 0).1];(refine aE (aB ?_);(iterate 4 refine aA1 vq ?_));refine aA5 uq qG qG ?_;(refine aA1 vq ?_)
     refine bC (v:= .int .i64 z.2) qE J J J (fun w hs=>by
      rw[Blk.cell (hs.blk (b:=b3) (cs:=spC (O.set s ((p:Int)+1,z.2))) (t:=40) qF),nM];have:=(spC_at (O.set s ((p:Int)+1,z.2)) s (by rw[List.length_set];exact hsO)).2;rw[List.getD_eq_getElem?_getD,List.getElem?_set_self hsO] at this;exact this) ?_
     (refine aA1 vq (aA4 xq qG qG (aA1 vq ?_)))
     refine aA5 uq qG qG ?_;(refine aA1 vq ?_);refine cN qE J J J J qF (by rw[fE,List.length_set];omega) ?_;rw[nM,(hpn ((p:Int)+1) (max z.2 ((p:Int)+1))).2.1];(refine aE (aW (aB (aA1 vq (aA4 xq qG qG (aA1 vq (aE ?_)))))));exact hK2 (p+1,O.set s ((p:Int)+1,max z.2 ((p:Int)+1))) _ _ ⟨by simp only;omega,by rw[show((p:Int)+1,max z.2 ((p:Int)+1))=upZ z p from by unfold upZ loU;rw[if_pos qG]];exact hstep⟩ (by simp only;omega) ⟨J,J,J,J,J,trivial⟩ qF
    ·(refine aC J (cS qE J J J qG (aA1 vq (aE (aF J (aJ (aB ?_))))));(iterate 4 refine aA1 vq ?_))
     refine aA5 uq qG qG ?_;(refine aA1 vq ?_);refine bC (v:= .int .i64 z.2) qE J J J (fun w hs=>by rw[Blk.cell (hs.blk (b:=b3) (cs:=spC O) (t:=40) qF),nM];exact hsp.2) ?_;(refine aA1 vq (aA4 xq qG qG (aA1 vq ?_)));refine aA5 uq qG qG ?_;(refine aA1 vq ?_);refine cN qE J J J J qF qG ?_;rw[nM,(hpn 0 (max z.2 ((p:Int)+1))).2.2];(refine aE (aW (aB (aA1 vq (aA4 xq qG qG (aA1 vq (aE ?_)))))));exact hK2 (p+1,O.set s (z.1,max z.2 ((p:Int)+1))) _ _ ⟨by simp only;omega,by rw[show(z.1,max z.2 ((p:Int)+1))=upZ z p from by unfold upZ loU;rw[if_neg qG]];exact hstep⟩ (by simp only;omega) ⟨J,J,J,J,J,trivial⟩ qF
  ·obtain rfl:p=n:=by omega
   clear hc hK2;(refine aZ _ J (aW (aB (aA1 vq (aA4 xq qG qG (aA1 vq (aE ?_)))))));exact hK (i+1,O) _ _ ⟨by simp only;omega,hO.congr fun s q=>dn_row (by rw[hLd,hLl])⟩ (by simp only;omega) ⟨J,J,J,J,trivial⟩ qF
 ·have hiX:i=X.length:=by omega
  rw[hiX] at hO;have hfin:=hall O hO;(refine aZ _ J (aD (aB (aA1 vq (aA1 vq (aE (aQ ?_)))))));refine aA2 wq qF fun w hs=> ?_
  exact⟨b3,J,by rw[←hfin];exact hs.sp qF⟩
def frA(a:Option Addr)(c k sz:Nat):Option Addr:=if c=k then a else a.map (·.add (k*sz))
section
variable {P : Program} {ro : Cx} {n : Nat} {F : Fin} {w0 : World} {M : Nat → Prop} {ks : List It} {ops : Array Oper} {rest : List Oper} {e : Env} {H Hq : List Ck}
end
theorem chI_at{l:List Nat}{i:Nat}(h:i<l.length)(h2:i<(chI l).length):(chI l)[i]=((l[i]:Nat):Int):=by simp[chI]
def worthV(n k o a b:Nat):Nat:=if(fa o a b||fa o b a)=true then 1+planO n k o else worthO n k o a b
theorem jM{n k o a b:Nat}(h1:fa o a b=false)(h2:fa o b a=false):worthV n k o a b=worthO n k o a b:=by unfold worthV;rw[h1,h2];rfl
theorem mV{n k o a b:Nat}(h:(fa o a b||fa o b a)=true):worthV n k o a b=1+planO n k o:=if_pos h
theorem worthD_ca(n k bm b2 b3 b6 b7 b8 o a b:Nat)(hn:n≤8)(hk:k≤n)(ho:Ord o)(ha:a<n)(hb:b<n)(hd:(fa o a b||fa o b a)=true)(w:World)(f:Value→Option Value)(hE:PlE w n k bm b2 b3 b6 b7 b8)(hm:MapAt w bm oK eqV f)(hg:GoodP n k f) :
  Ca Tryz.prog 135 [oV o,.int .i64 a,.int .i64 b,aB8 b7] w fun v w'=>∃f,(v= .int .i64 ((1+planO n k o:Nat):Int)∧GoodP n k f)∧Sat w (· =bm) [mpO bm f] w':=by
 obtain⟨t7,hb7⟩:=hE.h7;have hb7:=fun w' (c:ChgP (· =bm) w w')=>Blk.mapC hb7 hm c
 have h64:n*n≤64:=Nat.mul_le_mul hn hn;have hpl:=kU (k:=k) hn ho;refine cM (H:=[mpO bm f]) (map_sat hm) Tryz.func135 J (by simp[Tryz.ntmps135]) ?_;(refine aD (aB ?_));refine bN J J (fun b4=> ?_);rw[bG];(refine aA1 vq (aE (aD (aD (aB (aA1 vq (aA1 vq ?_)))))));refine bL (len:=8) lF J J J qG qG ?_;refine bL (len:=8) lE J J J qG qG ?_;refine bC (v:= .bool (fa o a b)) qE J J J (fun w hs=>mF hs (b:=b4) (off:=0+(a:Int).toNat*8+(b:Int).toNat*1) qF a b qG qG qG) ?_;cases hab:fa o a b with
 | true=>
  (refine aA1 vq ?_;(iterate 5 refine aA3 zq ?_);refine aA1 vq (aE (aH J (aD (aB ?_))));refine gQ qE J J J (by assumption) (by rfl) ?_;refine aM qE J J J ?_)
  rw[fJ];refine gO (β:=Value→Option Value) (ψ:=fun g v=>v= .int .i64 (planO n k o)∧GoodP n k g) (L':=fun g=>[mpO bm g]) [mpO bm f] [.pt b4 (oC o) 132] (· =bm) J J J qF (fun x hx=>⟨_,.head _,hx⟩) (fun w' hs=>CaF.of qE qI (plan_ca n k bm b2 b3 b6 b7 b8 hn hk _ o J ho w' f (hE.mapC hm hs.chg) (hs.mem (c:=mpO bm f) qF) hg)) ?_;rintro g' v ⟨rfl,hg'⟩;(refine aA4 xq qG qG (aA1 vq (aE (aQ ?_))));refine aA2 wq qF fun w hs=> ?_
  exact⟨g',⟨by show Value.int .i64 (1+(planO n k o:Int))=_;rw[Int.natCast_add];rfl,hg'⟩,hs.sp qF⟩
 | false=>
  have hba:fa o b a=true:=by rw[hab] at hd;exact hd
  (refine aA1 vq (aC J (aA1 vq (aC J (aA1 vq (aC J ?_))))))
  refine bL (len:=8) lF J J J qG qG ?_;(refine aC J ?_);refine bL (len:=8) lE J J J qG qG ?_;(refine aC J ?_);refine bC (v:= .bool true) qE J J J (fun w hs=>by have:=mF hs (b:=b4) (off:=0+(b:Int).toNat*8+(a:Int).toNat*1) qF b a qG qG qG;rw[hba] at this;exact this) ?_;(refine aA1 vq (aE (aH J (aD (aB ?_))));refine gQ qE J J J (by assumption) (by rfl) ?_;refine aM qE J J J ?_);rw[fJ];refine gO (β:=Value→Option Value) (ψ:=fun g v=>v= .int .i64 (planO n k o)∧GoodP n k g) (L':=fun g=>[mpO bm g]) [mpO bm f] [.pt b4 (oC o) 132] (· =bm) J J J qF (fun x hx=>⟨_,.head _,hx⟩) (fun w' hs=>CaF.of qE qI (plan_ca n k bm b2 b3 b6 b7 b8 hn hk _ o J ho w' f (hE.mapC hm hs.chg) (hs.mem (c:=mpO bm f) qF) hg)) ?_;rintro g' v ⟨rfl,hg'⟩;(refine aA4 xq qG qG (aA1 vq (aE (aQ ?_))));refine aA2 wq qF fun w hs=> ?_;exact⟨g',⟨by show Value.int .i64 (1+(planO n k o:Int))=_;rw[Int.natCast_add];rfl,hg'⟩,hs.sp qF⟩
theorem worthA_ca(n k bm b2 b3 b6 b7 b8 o a b:Nat)(hn:n≤8)(hk:k≤n)(ho:Ord o)(ha:a<n)(hb:b<n)(hne:a≠b)(w:World)(f:Value→Option Value)(hE:PlE w n k bm b2 b3 b6 b7 b8)(hm:MapAt w bm oK eqV f)(hg:GoodP n k f) :
  Ca Tryz.prog 135 [oV o,.int .i64 a,.int .i64 b,aB8 b7] w fun v w'=>∃f,(v= .int .i64 (worthV n k o a b:Nat)∧GoodP n k f)∧Sat w (· =bm) [mpO bm f] w':=by
 cases hd:fa o a b||fa o b a with
 | true=>
  rw[mV hd];exact worthD_ca n k bm b2 b3 b6 b7 b8 o a b hn hk ho ha hb hd w f hE hm hg
 | false=>
  obtain⟨h1,h2⟩:=Bool.or_eq_false_iff.1 hd;rw[jM h1 h2];refine worth_ca n k bm b2 b3 b6 b7 b8 o a b hn ⟨ho,hn,ha,hb,hne,h1,h2⟩ (fun o' ho'=> ?_) w f hE hm hg;rcases ho' with rfl|rfl
  ·exact plan_ca n k bm b2 b3 b6 b7 b8 hn hk _ _ J (ho.with qG qG)
  ·exact plan_ca n k bm b2 b3 b6 b7 b8 hn hk _ _ J (ho.with qG qG)
theorem worthP_ok(w:World)(lo hi:Nat)(l:Lb)(v:Value)(k a b:Nat)(h:RdR w lo hi v l.runs)(hp:PlanOk l k)(ha:a<l.n)(hb:b<l.n)(hne:a≠b):Ca Tryz.prog 47 [.agg (lbC l v).toArray,.int .i64 k,.int .i64 a,.int .i64 b] w fun x w'=>x= .tuple #[.int .i64 (worthV l.n k l.ord a b),.int .i64 0]∧Chg [] w w':=by
 obtain⟨n,en,hn',h8,h1⟩:=hp.ok.nat;have hk:=hp.k2;rw[hn'] at ha hb ⊢;refine cM (Sat.nil w M0) Tryz.func47 J (by simp[Tryz.ntmps47]) ?_;(refine aD (aB ?_));refine bN J J (fun b4=> ?_);rw[bG];(refine aA1 vq (aA1 vq (aE (aD (aB ?_))));refine aM qE J J J ?_;refine aA1 vq ?_);refine bB (β:=Nat) qE [] _ M0 J J J J (Sp.refl _) qJ (fun w' hs=>nG w' lo hi l v k (RdE.keep h hs.chg0) hp) ?_;rintro bd _ rfl;dsimp only[List.cons_append,List.nil_append];(refine aA1 vq (aA7 yq (aA7 yq (aA1 vq (aA1 vq (aE (aD (aK (aD (aB (aA1 vq (aB1 yq qG ?_)))))))))));refine aA1 vq (aE (aF J (aD (aB (aA1 vq (aA1 vq ?_))))));refine aL qE J J J ?_;refine aA4 xq qG qG ?_);rw[en];refine aI (val:= .bool true) qE J J J J (fun w hs=> ?_) ?_;exact by have:=cL a 0 ((n:Int)-1) w;rw[show inB (a:Int) 0 ((n:Int)-1)=true from bX.2 qG] at this;exact this
 (refine aA1 vq (aA1 vq (aC J (aA1 vq (aC J (aA1 vq (aC J ?_))))));refine aL qE J J J ?_;refine aC J (aA4 xq qG qG (aC J ?_)))
 rw[en];refine aI (val:= .bool true) qE J J J J (fun w hs=> ?_) ?_;exact by have:=cL b 0 ((n:Int)-1) w;rw[show inB (b:Int) 0 ((n:Int)-1)=true from bX.2 qG] at this;exact this
 (refine aC J ?_;(iterate 3 refine aA1 vq ?_);refine aC J (aA1 vq (aC J (aA1 vq (aC J (aA9 yq qG (aA1 vq (aA1 vq (aE (aF J (aJ (aW ?_)))))))))));refine aD (aB ?_);(iterate 4 refine aA1 vq ?_);refine aL qE J J J ?_;refine aA1 vq ?_)
 rw[en];refine bB (β:=Nat×Nat×Nat×Nat×Nat×Nat) qE [] _ M0 J J J J (Sp.refl _) qJ (fun w' hs=>planner_ca w' n k) ?_;rintro⟨bm,b2,b3,b6,b7,b8⟩ _ rfl;dsimp only[List.cons_append,List.nil_append];(refine aA1 vq (aA7 yq (aA7 yq (aA1 vq (aA1 vq (aE (aD (aB ?_)))))));(iterate 4 refine aA1 vq ?_);refine aM qE J J J ?_;refine aA1 vq (aA1 vq ?_));rw[oN];refine gO (β:=Value→Option Value) (ψ:=fun g v=>v= .int .i64 (worthV n k l.ord a b:Nat)∧GoodP n k g) (L':=fun g=>[mpO bm g]) [mpO bm (fun _=>none)] [.pt b2 [.int .i64 n] 3,.pt b3 [.int .i64 k] 3,.pt b6 [.map (some bm)] 181,.pt b7 [plnF b2 b3 b6 b8] 153,.pt b8 [mE b7] 154] (· =bm) J J J qF (fun x hx=>⟨_,.head _,hx⟩) (fun w' hs=>CaF.of qE qI (worthA_ca n k bm b2 b3 b6 b7 b8 l.ord a b h8 qG hp.ok.o ha hb hne w' _ ⟨⟨_,hs.blk (b:=b2) qF⟩,⟨_,hs.blk (b:=b3) qF⟩,⟨_,hs.blk (b:=b6) qF⟩,⟨_,hs.blk (b:=b7) qF⟩,⟨_,hs.blk (b:=b8) qF⟩⟩ (hs.mem (c:=mpO bm (fun _=>none)) qF) (good_nil n k))) ?_;rintro g' v ⟨rfl,hg'⟩;(refine aA1 vq (aA1 vq (aE (aQ ?_))));refine aA2 wq qF fun w hs=> ?_
 exact⟨J,hs.chg0⟩
def eB(b a:Nat):List (Nat×Nat):=((List.range b).flatMap fun y=>(List.range y).map fun x=>(x,y))++(List.range a).map fun x=>(x,b)
theorem nx_succ(b a:Nat):eB b (a+1)=eB b a++[(a,b)]:=by unfold eB;rw[List.range_succ,List.map_append,←List.append_assoc];rfl
theorem nx_next(b:Nat):eB b b=eB (b+1) 0:=by unfold eB;rw[List.range_succ,List.flatMap_append];simp
theorem nx_mem{b a x y:Nat}(hab:a≤b)(h:(x,y)∈eB b a):x<y:=by
 unfold eB at h;rcases List.mem_append.1 h with h|h
 ·obtain⟨z,_,h2⟩:=List.mem_flatMap.1 h;obtain⟨u,h3,h4⟩:=List.mem_map.1 h2;have:=List.mem_range.1 h3;cases h4
  omega
 ·obtain⟨u,h3,h4⟩:=List.mem_map.1 h;have:=List.mem_range.1 h3;cases h4
  omega
def nxV(n k o:Nat)(L:List (Nat×Nat)):Option (Nat×Nat):=L.find? fun p=>decide (worthV n k o p.1 p.2=planO n k o)
def nxC(p:Option (Nat×Nat)):List Value:=match p with|some p=>[.int .i64 p.1,.int .i64 p.2,.int .i64 0]|none=>[.int .i64 0,.int .i64 0,.int .i64 0]
theorem nxV_snoc(n k o:Nat)(L:List (Nat×Nat))(p:Nat×Nat):nxV n k o (L++[p])=match nxV n k o L with|some q=>some q|none=>if worthV n k o p.1 p.2=planO n k o then some p else none:=by
 unfold nxV;rw[List.find?_append];cases L.find? fun p=>decide (worthV n k o p.1 p.2=planO n k o) with
 | some q=>rfl
 | none=>
  rw[Option.none_or,List.find?_singleton];by_cases h:worthV n k o p.1 p.2=planO n k o
  ·rw[if_pos h,if_pos (by simpa using h)]
  ·rw[if_neg h,if_neg (by simpa using h)]
theorem next_ok(w:World)(lo hi:Nat)(l:Lb)(v:Value)(k:Nat)(h:RdR w lo hi v l.runs)(hp:PlanOk l k):Ca Tryz.prog 45 [.agg (lbC l v).toArray,.int .i64 k] w fun x w'=>x= .tuple #[.agg (nxC (if planO l.n k l.ord=0 then none else nxV l.n k l.ord (eB l.n 0))).toArray,.int .i64 (if planO l.n k l.ord=0 then 6 else 0)]∧Chg [] w w':=by
 obtain⟨n,en,hn',h8,h1⟩:=hp.ok.nat;have hk:=hp.k2;have h64:n*n≤64:=Nat.mul_le_mul h8 h8;rw[hn'];have hpl:=kU (k:=k) h8 hp.ok.o;refine cM (Sat.nil w M0) Tryz.func45 J (by simp[Tryz.ntmps45]) ?_;(refine aD (aB ?_));refine bN J J (fun bx=> ?_);rw[bG];refine bJ zero29 J (fun b4=> ?_);(refine aA1 vq (aE (aD (aB ?_)));refine aM qE J J J ?_;refine aA1 vq ?_);refine bB (β:=Nat) qE [] _ M0 J J J J (Sp.refl _) qJ (fun w' hs=>nG w' lo hi l v k (RdE.keep h hs.chg0) hp) ?_;rintro bd _ rfl;dsimp only[List.cons_append,List.nil_append];(refine aA1 vq (aA7 yq (aA7 yq (aA1 vq (aA1 vq (aE (aD (aD (aB (aA1 vq (aB1 yq qG (aE ?_)))))))))));refine aF J (aJ (aD (aB ?_)));(iterate 4 refine aA1 vq ?_);refine aL qE J J J ?_;refine aA1 vq ?_);rw[en];refine bB (β:=Nat×Nat×Nat×Nat×Nat×Nat) qE [] _ M0 J J J J (Sp.refl _) qJ (fun w' hs=>planner_ca w' n k) ?_;rintro⟨bm,b2,b3,b6,b7,b8⟩ _ rfl;dsimp only[List.cons_append,List.nil_append];(refine aA1 vq (aA7 yq (aA7 yq (aA1 vq (aA1 vq (aE (aD (aB ?_)))))));(iterate 4 refine aA1 vq ?_);refine aM qE J J J ?_);rw[oN];refine gO (β:=Value→Option Value) (ψ:=fun g v=>v= .int .i64 (planO n k l.ord)∧GoodP n k g) (L':=fun g=>[mpO bm g]) [mpO bm (fun _=>none)] [.pt b2 [.int .i64 n] 3,.pt b3 [.int .i64 k] 3,.pt b6 [.map (some bm)] 181,.pt b7 [plnF b2 b3 b6 b8] 153,.pt b8 [mE b7] 154,.pt bd (dkC l v l.ord) 134,.pt b4 [.int .i64 0,.int .i64 0,.int .i64 0] 29] (· =bm) J J J qF (fun x hx=>⟨_,.head _,hx⟩) (fun w' hs=>CaF.of qE qI (plan_ca n k bm b2 b3 b6 b7 b8 h8 qG _ l.ord J hp.ok.o w' _ ⟨⟨_,hs.blk (b:=b2) qF⟩,⟨_,hs.blk (b:=b3) qF⟩,⟨_,hs.blk (b:=b6) qF⟩,⟨_,hs.blk (b:=b7) qF⟩,⟨_,hs.blk (b:=b8) qF⟩⟩ (hs.mem (c:=mpO bm (fun _=>none)) qF) (good_nil n k))) ?_;rintro g' v' ⟨rfl,hg'⟩;dsimp only[List.cons_append,List.nil_append];by_cases h0:planO n k l.ord=0
 ·rw[if_pos h0,if_pos h0];(refine aA1 vq (aE (aD (aD (aB (aA1 vq (aA8 yq qG (aE (aH J (aD (aB ?_)))))))))));refine dM #[.int .i64 0,.int .i64 0,.int .i64 0] J qI J ?_;(refine aA6 uq qF J ?_;refine aA1 vq (aE (aQ ?_)));refine aA2 wq qF fun w hs=> ?_
  exact⟨J,hs.chg0⟩
 ·rw[if_neg h0,if_neg h0];(refine aA1 vq (aE (aD (aD (aB (aA1 vq (aA9 yq qG (aE (aF J (aJ (aD (aB ?_))))))))))));refine bJ zero29 J (fun b11=> ?_);(refine aE (aD (aD (aB ?_)));(iterate 4 refine aA1 vq ?_);refine aL qE J J J ?_;refine aA1 vq (aE (aK ?_)));rw[en];refine bD (σ:=Nat×(Value→Option Value)) (fun s=>s.1≤n∧GoodP n k s.2) (fun s=>n-s.1) (fun s=>[(4,aB8 b4),(6,aB8 bd),(9,mE b7),(10,.int .i64 (planO n k l.ord)),(11,aB8 b11),(47,.int .i64 n),(48,.int .i64 s.1)]) (fun s=>[mpO bm s.2,.pt b11 (nxC (nxV n k l.ord (eB s.1 0))) 29,.pt b2 [.int .i64 n] 3,.pt b3 [.int .i64 k] 3,.pt b6 [.map (some bm)] 181,.pt b7 [plnF b2 b3 b6 b8] 153,.pt b8 [mE b7] 154,.pt bd (dkC l v l.ord) 134,.pt b4 [.int .i64 0,.int .i64 0,.int .i64 0] 29]) (0,g') ⟨by simp,hg'⟩ ⟨J,J,J,J,J,J,J,trivial⟩ qF ?_;clear hg';rintro⟨y,g⟩ ⟨hy,hg⟩ K hK;dsimp only at hy hg ⊢;(refine aD (aB (aA1 vq (aE (aD ?_)))));refine cP J (fun hc=> ?_) (fun hc=> ?_)
  ·have hy2:y<n:=by omega
   clear hc;(refine aJ (aD (aK (aD (aB (aA1 vq (aA1 vq (aE (aD (aB (aA1 vq (aA1 vq ?_)))))))))));refine aE (aK ?_));refine bD (σ:=Nat×(Value→Option Value)) (fun s=>s.1≤y∧GoodP n k s.2) (fun s=>y-s.1) (fun s=>[(4,aB8 b4),(6,aB8 bd),(9,mE b7),(10,.int .i64 (planO n k l.ord)),(11,aB8 b11),(12,.int .i64 y),(47,.int .i64 n),(48,.int .i64 y),(51,.int .i64 y),(52,.int .i64 s.1)]) (fun s=>[mpO bm s.2,.pt b11 (nxC (nxV n k l.ord (eB y s.1))) 29,.pt b2 [.int .i64 n] 3,.pt b3 [.int .i64 k] 3,.pt b6 [.map (some bm)] 181,.pt b7 [plnF b2 b3 b6 b8] 153,.pt b8 [mE b7] 154,.pt bd (dkC l v l.ord) 134,.pt b4 [.int .i64 0,.int .i64 0,.int .i64 0] 29]) (0,g) ⟨by simp,hg⟩ ⟨J,J,J,J,J,J,J,J,J,J,trivial⟩ qF ?_;clear hg;rintro⟨x,g⟩ ⟨hx,hg⟩ K2 hK2;dsimp only at hx hg ⊢;(refine aD (aB (aA1 vq (aE (aD ?_)))));refine cP J (fun hc=> ?_) (fun hc=> ?_)
   ·have hx2:x<y:=by omega
    clear hc;have hsn:=nxV_snoc n k l.ord (eB y x) (x,y);rw[←nx_succ] at hsn;cases hnx:nxV n k l.ord (eB y x) with
    | some q=>
     obtain⟨q1,q2⟩:=q;rw[hnx] at hsn;dsimp only at hsn;have hq2:1≤q2:=by have:=nx_mem hx (List.mem_of_find?_eq_some hnx);omega
     show Q _ _ _ _ _ _ _ _ (_:: .pt b11 [.int .i64 q1,.int .i64 q2,.int .i64 0] 29::_)
     (refine aJ (aD (aK (aD (aB (aA1 vq (aA1 vq (aE (aD (aB ?_)))))))));refine aM qE J J J ?_)
     refine dM #[.int .i64 0,.int .i64 0,.int .i64 0] J qI J ?_;refine ql_eqF [some .i64,some .i64,some .i64] oX J J J J J ?_
     rw[show eqL (List.take 3 (List.drop 0 [Value.int .i64 q1,.int .i64 q2,.int .i64 0])) [Value.int .i64 0,.int .i64 0,.int .i64 0]=false from by
      show eqL [Value.int .i64 q1,.int .i64 q2,.int .i64 0] [Value.int .i64 0,.int .i64 0,.int .i64 0]=false
      simp only[eqL];rw[decide_eq_false (show ¬((q2:Int)=0) by omega)];simp]
     (refine aA1 vq ?_;(iterate 10 refine aA3 zq ?_);refine aA1 vq (aE (aF J (aJ (aW (aB (aA4 xq qG qG (aA1 vq (aE ?_)))))))))
     exact hK2 (x+1,g) _ _ ⟨by simp only;omega,hg⟩ (by simp only;omega) ⟨J,J,J,J,J,J,J,J,J,J,trivial⟩ (by dsimp only;rw[hsn];repeat constructor)
    | none=>
     rw[hnx] at hsn;dsimp only at hsn
     show Q _ _ _ _ _ _ _ _ (_:: .pt b11 [.int .i64 0,.int .i64 0,.int .i64 0] 29::_)
     (refine aJ (aD (aK (aD (aB (aA1 vq (aA1 vq (aE (aD (aB ?_)))))))));refine aM qE J J J ?_)
     refine dM #[.int .i64 0,.int .i64 0,.int .i64 0] J qI J ?_;refine ql_eqF [some .i64,some .i64,some .i64] oX J J J J J ?_;rw[show eqL (List.take 3 (List.drop 0 [Value.int .i64 0,.int .i64 0,.int .i64 0])) [Value.int .i64 0,.int .i64 0,.int .i64 0]=true from rfl];(refine aA1 vq (aC J (aA1 vq (aC J (aA1 vq (aC J (aA1 vq (aC J (aA1 vq (aC J ?_)))))))));refine aM qE J J J ?_;refine aC J (aA1 vq (aC J (aA1 vq (aC J ?_)))));rw[oN];refine gO (β:=Value→Option Value) (ψ:=fun g v=>v= .int .i64 (worthV n k l.ord x y:Nat)∧GoodP n k g) (L':=fun g=>[mpO bm g]) [mpO bm g] [.pt b11 [.int .i64 0,.int .i64 0,.int .i64 0] 29,.pt b2 [.int .i64 n] 3,.pt b3 [.int .i64 k] 3,.pt b6 [.map (some bm)] 181,.pt b7 [plnF b2 b3 b6 b8] 153,.pt b8 [mE b7] 154,.pt bd (dkC l v l.ord) 134,.pt b4 [.int .i64 0,.int .i64 0,.int .i64 0] 29] (· =bm) J J J qF (fun x hx=>⟨_,.head _,hx⟩) (fun w' hs=>CaF.of qE qI (worthA_ca n k bm b2 b3 b6 b7 b8 l.ord x y h8 qG hp.ok.o qG qG qG w' _ ⟨⟨_,hs.blk (b:=b2) qF⟩,⟨_,hs.blk (b:=b3) qF⟩,⟨_,hs.blk (b:=b6) qF⟩,⟨_,hs.blk (b:=b7) qF⟩,⟨_,hs.blk (b:=b8) qF⟩⟩ (hs.mem (c:=mpO bm g) qF) hg)) ?_;rintro g2 v2 ⟨rfl,hg2⟩;dsimp only[List.cons_append,List.nil_append];by_cases hwv:worthV n k l.ord x y=planO n k l.ord
     ·rw[if_pos hwv] at hsn;(refine aC J (aA1 vq (aC J (aA8 yq qG (aA1 vq (aE (aH J (aB (aA1 vq (aA1 vq ?_))))))))));refine dM #[.int .i64 x,.int .i64 y,.int .i64 0] J qI J ?_;(refine aA6 uq qF J ?_;refine aE (aW (aB (aA4 xq qG qG (aA1 vq (aE ?_))))));exact hK2 (x+1,g2) _ _ ⟨by simp only;omega,hg2⟩ (by simp only;omega) ⟨J,J,J,J,J,J,J,J,J,J,trivial⟩ (by dsimp only;rw[hsn];repeat constructor)
     ·rw[if_neg hwv] at hsn;(refine aC J (aA1 vq (aC J (aA9 yq qG (aA1 vq (aE (aF J (aJ (aW (aB (aA4 xq qG qG (aA1 vq ?_)))))))))));refine aE ?_);exact hK2 (x+1,g2) _ _ ⟨by simp only;omega,hg2⟩ (by simp only;omega) ⟨J,J,J,J,J,J,J,J,J,J,trivial⟩ (by dsimp only;rw[hsn];repeat constructor)
   ·obtain rfl:x=y:=by omega
    (refine aZ _ J (aW (aB (aA4 xq qG qG (aA1 vq (aE ?_))))))
    exact hK (x+1,g) _ _ ⟨by simp only;omega,hg⟩ (by simp only;omega) ⟨J,J,J,J,J,J,J,trivial⟩ (by dsimp only;rw[←nx_next];repeat constructor)
  ·obtain rfl:y=n:=by omega
   obtain⟨nc,hnc⟩:∃nc,nc=nxC (nxV y k l.ord (eB y 0)):=⟨_,rfl⟩
   have hn3:∃c1 c2 c3:Int,nc=[.int .i64 c1,.int .i64 c2,.int .i64 c3]:=by
    rw[hnc];cases nxV y k l.ord (eB y 0) with
    | some q=>exact⟨_,_,_,rfl⟩
    | none=>exact⟨_,_,_,rfl⟩
   rw[←hnc];obtain⟨c1,c2,c3,rfl⟩:=hn3;(refine aZ _ J (aD (aB ?_));refine aM qE J J J ?_;refine aA6 uq qF J ?_;refine aA1 vq (aE (aQ ?_)));refine aA2 wq qF fun w hs=> ?_
   exact⟨J,hs.chg0⟩
theorem nx_iff{n x y:Nat}:(x,y)∈eB n 0↔x<y∧y<n:=by
 unfold eB;simp only[List.range_zero,List.map_nil,List.append_nil,List.mem_flatMap,List.mem_map,List.mem_range,Prod.mk.injEq];constructor
 ·rintro⟨z,h1,u,h2,rfl,rfl⟩;exact⟨h2,h1⟩
 ·rintro⟨h1,h2⟩;exact⟨y,h2,x,h1,J,J⟩
theorem next_says{n k o:Nat}(hn:n≤8)(h1:1≤n)(hk:k≤n)(ho:Ord o)(hc:NoC o n)(h0:planO n k o≠0):∃a b,nxV n k o (eB n 0)=some (a,b)∧a<b∧b<n∧Und o n a b∧max (planO n k (cU o a b)) (planO n k (cU o b a))+1=planO n k o:=by
 obtain⟨p,hp,hu,hw⟩:=plan_at hn h1 hk ho hc (fun hkn=>h0 ((plan_zero hn h1 hk ho hc).2 hkn));obtain⟨p1,p2⟩:=p;obtain⟨h2,h3⟩:=eY.1 hp;obtain⟨h4,h5⟩:=gZ.1 hu;dsimp only at h4 h5 hw;cases hf:nxV n k o (eB n 0) with
 | none=>
  exfalso;have:=List.find?_eq_none.1 hf (p2,p1) (nx_iff.2 ⟨h3,h2⟩);refine this (decide_eq_true ?_);rw[jM h5 h4,worth_comm,hw]
 | some q=>
  obtain⟨a,b⟩:=q
  have h6:worthV n k o a b=planO n k o:=by
   unfold nxV at hf;have h7:=List.find?_some hf;dsimp only at h7;exact of_decide_eq_true h7
  obtain⟨h7,h8⟩:=nx_iff.1 (List.mem_of_find?_eq_some (show(eB n 0).find? (fun p=>decide (worthV n k o p.1 p.2=planO n k o))=some (a,b) from hf));cases hd:fa o a b||fa o b a with
  | true=>
   rw[mV hd] at h6;omega
  | false=>
   obtain⟨h9,h10⟩:=Bool.or_eq_false_iff.1 hd;rw[jM h9 h10] at h6;unfold worthO at h6;exact⟨a,b,J,h7,h8,⟨ho,hn,by omega,h8,by omega,h9,h10⟩,by omega⟩
structure Goes(l:Lb)(N k:Nat)(L:List Nat)(r:Nat)(m:Lb):Prop where
 ok:m.Ok
 sk:m.skis=l.skis
 err:m.err=l.err
 len:m.runs.length≤l.runs.length+r
 lin:LinO m.ord l.n L
 few:planO l.n k m.ord+r≤N
theorem Goes.n{l m:Lb}{N k r:Nat}{L:List Nat}(h:Goes l N k L r m):m.n=l.n:=by unfold Lb.n;rw[h.sk]
theorem Goes.noC{l m:Lb}{N k r:Nat}{L:List Nat}(h:Goes l N k L r m)(hl:l.Ok):NoC m.ord m.n:=by rw[h.n];exact h.lin.noC hl.n8
theorem Goes.next{l m:Lb}{N k r:Nat}{L:List Nat}(h:Goes l N k L r m)(hl:l.Ok)(hr:l.runs.length+r<40){x y:Nat}(hx:x<l.n)(hy:y<l.n)(hne:x≠y)(hi:L.idxOf x<L.idxOf y)(hp:planO l.n k (cU m.ord x y)+1≤planO l.n k m.ord):Goes l N k L (r+1) (m.add ⟨x,y,m.err+1⟩):=by
 have h2:=h.len;have h3:=h.few;have ho:=furt_ord h.ok x y;refine⟨furt_ok h.ok (by rw[h.n];exact hx) (by rw[h.n];exact hy) hne qG,h.sk,h.err,?_,?_,?_⟩
 ·show(m.runs++[_]).length≤_
  rw[List.length_append,List.length_singleton];omega
 ·rw[ho];exact h.lin.with hl.n8 hx hy hi
 ·rw[ho];omega
def toA(a:Option Addr)(c:Nat):Option Addr:=if c=0 then a else a.map (·.add 0)
section
variable {P : Program} {ro : Cx} {n : Nat} {F : Fin} {w0 : World} {M : Nat → Prop} {ks : List It} {ops : Array Oper} {rest : List Oper} {e : Env} {H Hq : List Ck}
end
structure CovE(w:World)(b11 b12 b13:Nat)(R:List (List Int))(most:Int)(n:Nat):Prop where
 h1:∃t,Blk w b11 [.int .i64 n] t
 h2:∃t,Blk w b12 [.int .i64 most] t
 h3:∃t a c lo hi,Blk w b13 [.slice a R.length c] t∧RdII w lo hi (.slice a R.length c) R
theorem CovE.keep{w w':World}{b11 b12 b13 n:Nat}{R:List (List Int)}{most:Int}(h:CovE w b11 b12 b13 R most n)(c:Chg [] w w'):CovE w' b11 b12 b13 R most n:=by
 obtain⟨t1,h1⟩:=h.h1;obtain⟨t2,h2⟩:=h.h2;obtain⟨t3,a,c2,lo,hi,h3,h4⟩:=h.h3;exact⟨⟨t1,h1.keep c⟩,⟨t2,h2.keep c⟩,⟨t3,a,c2,lo,hi,h3.keep c,RdII.keep h4 c⟩⟩
def ordN(l:Lb):Nat:=if bQ l=0 then cnt l.ord l.n (2^l.n-1) else 0
theorem jP(w:World)(lo hi:Nat)(l:Lb)(v:Value)(h:RdR w lo hi v l.runs)(hlen:l.runs.length≤maxLen):Ca Tryz.prog 36 [.agg (lbC l v).toArray] w fun x w'=>x= .tuple #[.int .i64 (ordN l:Nat),.int .i64 (bQ l)]∧Chg [] w w':=by
 by_cases h0:bQ l=0
 ·obtain⟨hl,hc⟩:=dE.1 h0;have:=orders_ok w lo hi l v h hl hc;unfold ordN;rw[h0,if_pos rfl];exact this
 ·have:=orders_no w lo hi l v h hlen h0;unfold ordN;rw[if_neg h0];exact this
def flipR(r:List Rn)(i:Nat):List Rn:=r.set i ⟨(r.getD i ⟨0,0,0⟩).a,(r.getD i ⟨0,0,0⟩).b,-(r.getD i ⟨0,0,0⟩).lead⟩
theorem agreed_noC{l:Lb}(hl:l.Ok):bQ l=0↔NoC l.ord l.n:=by rw[dE];exact⟨fun h=>h.2,fun h=>⟨hl,h⟩⟩
theorem agreed_seven{l:Lb}(hl:l.Ok)(h:¬NoC l.ord l.n):bQ l=7:=by
 have h1:=dG.2 hl
 have h2:iO l.ord l.n=true:=by
  cases hc:iO l.ord l.n with
  | true=>rfl
  | false=>exact absurd (fK.1 hc) h
 unfold bQ;rw[if_neg (by rw[h1];simp),if_pos h2]
theorem wo_agreed{l:Lb}(hl:l.Ok)(D:List Nat):bQ (woL l D)=0↔NoC (woL l D).ord l.n:=agreed_noC (wo_ok hl D)
theorem short_lt2{l:Lb}(hl:l.Ok){a b:Nat}{c:List Int}(h:Short l a b c):c.length≤8:=by
 have:=isD_le hl (short_isD hl.e0 h);have:=hl.n8;omega
def smB(l:Lb)(c:List Int)(k:Nat):Bool:=(List.range k).any fun s=>decide ((chainV l s s c).2=0)&&(chainV l s s c).1
theorem sm_succ(l:Lb)(c:List Int)(k:Nat):smB l c (k+1)=(smB l c k||(decide ((chainV l k k c).2=0)&&(chainV l k k c).1)):=by
 unfold smB;rw[List.range_succ,List.any_append];simp
theorem sm_true{l:Lb}{c:List Int}{s n:Nat}(hs:s<n)(h:chainV l s s c=(true,0)):smB l c n=true:=List.any_eq_true.2 ⟨s,List.mem_range.2 hs,by rw[h];rfl⟩
def plA(l:Lb):List (Int×Int):=if bQ l=0 then plC l l.ord l.n else[]
theorem kB(w:World)(lo hi:Nat)(l:Lb)(v:Value)(h:RdR w lo hi v l.runs)(hlen:l.runs.length≤maxLen):Ca Tryz.prog 35 [.agg (lbC l v).toArray] w fun x w'=>∃u:Value,x= .tuple #[u,.int .i64 (bQ l)]∧Sat w M0 [.ow u 40 2 (plA l).length (spC (plA l))] w':=by
 by_cases h0:bQ l=0
 ·obtain⟨hl,hc⟩:=dE.1 h0;refine(places_ok w lo hi l v h hl hc).mono fun x w' ⟨u,h1,h2⟩=>⟨u,by rw[h0];exact h1,?_⟩
  unfold plA;rw[if_pos h0,plC_len];exact h2
 ·refine(places_no w lo hi l v h hlen h0).mono fun x w' ⟨h1,h2⟩=>⟨_,h1,?_⟩;unfold plA
  rw[if_neg h0];exact Sat.ownil ((Sat.nil w M0).keep h2) _ _
theorem fewestA_ca(w:World)(lo hi:Nat)(l:Lb)(v:Value)(k:Int)(h:RdR w lo hi v l.runs)(hlen:l.runs.length≤maxLen):Ca Tryz.prog 43 [.agg (lbC l v).toArray,.int .i64 k] w fun x w'=>x= .tuple #[.int .i64 (fO l k).1,.int .i64 (fO l k).2]∧Chg [] w w':=by
 by_cases h0:plannedV l k=0
 ·have hp:=fW.1 h0;obtain⟨n,rfl⟩:=Int.eq_ofNat_of_zero_le (show 0≤k by have:=hp.k1;omega);have:=fewest_ok w lo hi l v n h hp;unfold fO;rw[if_neg (by rw[h0];simp),Int.toNat_natCast];exact this
 ·have:=fewest_no w lo hi l v k h hlen h0;unfold fO;rw[if_pos h0];exact this
section
variable {l m : Lb} {t u : Nat → Nat} {σ : List Nat}
end
def greatB(l:Lb)(most:Int):Bool:=(decide (most<l.skis)&&decide (l.skis≤8))||decide (45<l.runs.length)
theorem great_ca(w:World)(lo hi:Nat)(l:Lb)(v:Value)(most:Int)(h:RdR w lo hi v l.runs)(hlen:l.runs.length≤maxLen):Ca Tryz.prog 30 [.agg (lbC l v).toArray,.int .i64 most] w fun x w'=>x= .bool (greatB l most&&true)∧Chg [] w w':=by
 obtain⟨va,vc,rfl,hsv⟩:=RdR.outI h;refine cM (Sat.nil w M0) Tryz.func30 J (by simp[Tryz.ntmps30]) ?_;(refine aD (aB ?_));refine bN J J (fun b2=> ?_);rw[bG];unfold greatB;by_cases h1:most<l.skis
 ·by_cases h2:l.skis≤8
  ·(refine aA1 vq (aE (aD (aB (aA1 vq ?_))));refine aL qE J J J ?_;refine aA1 vq (aB4 yq qG (aA1 vq (aC J (aA1 vq (aC J ?_)))));refine aL qE J J J ?_;refine aC J (oA qE J J J qG (aA1 vq (aA1 vq ?_)));(iterate 4 refine aA3 zq ?_);refine aA1 vq (aA1 vq (aE (aQ ?_))))
   refine aA2 wq qF fun w hs=> ?_;exact⟨by rw[decide_eq_true h1,decide_eq_true h2];rfl,hs.chg0⟩
  ·by_cases h3:45<l.runs.length
   ·(refine aA1 vq (aE (aD (aB (aA1 vq ?_))));refine aL qE J J J ?_;refine aA1 vq (aB4 yq qG (aA1 vq (aC J (aA1 vq (aC J ?_)))));refine aL qE J J J ?_;refine aC J (gH qE J J J qG (aA1 vq (aA1 vq (aC J (aA1 vq (aC J ?_))))));refine aL qE J J J ?_;refine aC J (aA1 vq (aC J (aB4 yq qG (aA1 vq (aA1 vq (aE (aQ ?_))))))))
    refine aA2 wq qF fun w hs=> ?_;exact⟨by rw[decide_eq_true h1,decide_eq_false h2,decide_eq_true h3];rfl,hs.chg0⟩
   ·(refine aA1 vq (aE (aD (aB (aA1 vq ?_))));refine aL qE J J J ?_;refine aA1 vq (aB4 yq qG (aA1 vq (aC J (aA1 vq (aC J ?_)))));refine aL qE J J J ?_;refine aC J (gH qE J J J qG (aA1 vq (aA1 vq (aC J (aA1 vq (aC J ?_))))));refine aL qE J J J ?_;refine aC J (aA1 vq (aC J (aB3 yq qG (aA1 vq (aA1 vq (aE (aQ ?_))))))))
    refine aA2 wq qF fun w hs=> ?_;exact⟨by rw[decide_eq_true h1,decide_eq_false h2,decide_eq_false h3];rfl,hs.chg0⟩
 ·by_cases h3:45<l.runs.length
  ·(refine aA1 vq (aE (aD (aB (aA1 vq ?_))));refine aL qE J J J ?_;refine aA1 vq (aB3 yq qG (aA1 vq ?_));(iterate 3 refine aA3 zq ?_);refine aA1 vq (aA1 vq (aC J (aA1 vq (aC J ?_))));refine aL qE J J J ?_;refine aC J (aA1 vq (aC J (aB4 yq qG (aA1 vq (aA1 vq (aE (aQ ?_))))))))
   refine aA2 wq qF fun w hs=> ?_;exact⟨by rw[decide_eq_false h1,decide_eq_true h3];rfl,hs.chg0⟩
  ·(refine aA1 vq (aE (aD (aB (aA1 vq ?_))));refine aL qE J J J ?_;refine aA1 vq (aB3 yq qG (aA1 vq ?_));(iterate 3 refine aA3 zq ?_);refine aA1 vq (aA1 vq (aC J (aA1 vq (aC J ?_))));refine aL qE J J J ?_;refine aC J (aA1 vq (aC J (aB3 yq qG (aA1 vq (aA1 vq (aE (aQ ?_))))))))
   refine aA2 wq qF fun w hs=> ?_;exact⟨by rw[decide_eq_false h1,decide_eq_false h3];rfl,hs.chg0⟩
def firA(l:Lb):List Nat:=if bQ l=0 then(kJ l.ord l.n l.n).1 else[]
theorem first_no(w:World)(lo hi:Nat)(l:Lb)(v:Value)(h:RdR w lo hi v l.runs)(hlen:l.runs.length≤maxLen)(hc0:bQ l≠0):Ca Tryz.prog 37 [.agg (lbC l v).toArray] w fun x w'=>x= .tuple #[.slice none 0 0,.int .i64 (bQ l)]∧Chg [] w w':=by
 refine cM (Sat.nil w M0) Tryz.func37 J (by simp[Tryz.ntmps37]) ?_;(refine aD (aB ?_));refine bN J J (fun b1=> ?_);rw[bG];(refine aA1 vq (aA1 vq (aE (aD (aB ?_))));refine aM qE J J J ?_);refine bB (β:=Option Addr) qE [] _ M0 J J J J (Sp.refl _) qJ (fun w' hs=>kA w' lo hi l v (RdE.keep h hs.chg0) hlen hc0) ?_;rintro p _ rfl;dsimp only[List.cons_append,List.nil_append];(refine aA1 vq (aA7 yq (aA7 yq (aA1 vq (aA1 vq (aE (aD (aD (aB (aA1 vq (aB0 yq qG (aE ?_)))))))))));refine aH J (aD (aB ?_));(iterate 3 refine aA1 vq ?_);refine aE (aQ ?_));refine aA2 wq qF fun w hs=> ?_;exact⟨J,hs.chg0⟩
theorem mG(w:World)(lo hi:Nat)(l:Lb)(v:Value)(h:RdR w lo hi v l.runs)(hlen:l.runs.length≤maxLen):Ca Tryz.prog 37 [.agg (lbC l v).toArray] w fun x w'=>∃u:Value,x= .tuple #[u,.int .i64 (bQ l)]∧Sat w M0 [.ow u 3 1 (firA l).length (bF (chI (firA l)))] w':=by
 by_cases h0:bQ l=0
 ·obtain⟨hl,hc⟩:=dE.1 h0;have hfl:=(fir_is hc hl.o hl.n8 l.n (Nat.le_refl _)).len;refine(first_ok w lo hi l v h hl hc).mono fun x w' ⟨u,h1,h2⟩=>⟨u,by rw[h0];exact h1,?_⟩
  unfold firA;rw[if_pos h0,hfl];exact h2
 ·refine(first_no w lo hi l v h hlen h0).mono fun x w' ⟨h1,h2⟩=>⟨_,h1,?_⟩;unfold firA
  rw[if_neg h0];exact Sat.ownil ((Sat.nil w M0).keep h2) _ _
theorem check_vals(l:Lb):cG l=0∨cG l=1∨cG l=2∨cG l=3:=by
 unfold cG;split
 ·simp
 ·split
  ·simp
  ·split
   ·simp
   ·split<;>simp
def iZ:OT:=bO [6,7] (.nil)
def lN:OT:=bO [5] (iZ)
def lV:OT:=bO [4] (iZ)
def tE20_33adb0d:OT:= .alt (bO [4] (lN)) (bO [5] (lV))
def jC:OT:=bO [2,3] (iZ)
def lP:OT:= .alt (bO [2,3] (lN)) (bO [5] (jC))
def mB:OT:= .alt (bO [2,3] (lV)) (bO [4] (jC))
def tE20_cdf2087:OT:= .alt (bO [2,3] (tE20_33adb0d)) (.alt (bO [4] (lP)) (bO [5] (mB)))
def lJ:OT:=bO [0,1] (jC)
def tE20_d769b30:OT:= .alt (bO [0,1] (lP)) (bO [5] (lJ))
def tE20_a451c87:OT:= .alt (bO [0,1] (mB)) (bO [4] (lJ))
def tE20_ccfc7b1:OT:= .alt (bO [0,1] (tE20_cdf2087)) (.alt (bO [4] (tE20_d769b30)) (bO [5] (tE20_a451c87)))
set_option maxRecDepth 20000 in
theorem jB(w:World)(lo hi:Nat)(l:Lb)(v:Value)(h:RdR w lo hi v l.runs)(hlen0:l.runs.length≤maxLen) :
  Ca Tryz.prog 6 [.agg (lbC l v).toArray] w fun r w'=>r= .bool true∧Chg [] w w':=by
 obtain⟨va,vc,rfl,hsv⟩:=RdR.outI h;refine cM (Sat.nil w M0) Tryz.func6 J (by simp[Tryz.ntmps6]) ?_;(refine aD (aB ?_));refine bN J J (fun b1=> ?_);rw[bG];(refine aA1 vq (aE (aD (aD (aB ?_))));refine aM qE J J J ?_);refine aI (val:= .bool (greatB l 6&&true)) qE J J J J (fun w hs=> ?_) ?_;exact great_ca w lo hi l (.slice va l.runs.length vc) 6 (RdE.keep h hs.chg0) hlen0;cases hg:greatB l 6 with
 | true=>
  (refine aE (aH J (aD (aB ?_))))
  refine aI (val:= .bool true) qE J J J J (fun w hs=> ?_) ?_;exact cZ w;(refine aA1 vq (aE (aQ ?_)));refine aA2 wq qF fun w hs=> ?_;exact⟨J,hs.chg0⟩
 | false=>
  have hg2:(l.skis≤6∨8<l.skis)∧l.runs.length≤45:=by
   unfold greatB at hg;simp only[Bool.or_eq_false_iff,Bool.and_eq_false_imp,decide_eq_true_eq,decide_eq_false_iff_not] at hg;omega
  obtain⟨g1,g2⟩:=hg2;clear hg;(refine aE (aF J (aJ (aD ?_))))
  refine kL (σ:=Option Addr×Nat×Option Addr×Nat×Nat×Nat) (fun⟨ua,uc,ra,rc,b3,b4⟩=>[(1,aB8 b1),(3,aB8 b3),(4,aB8 b4)])
   (fun⟨ua,uc,ra,rc,b3,b4⟩=>[.pt b3 (lbC l (.slice ua l.runs.length uc)) 25,.pt b4 (lbC l (.slice ra l.runs.length rc)) 53,.ow (.slice ua l.runs.length uc) 29 3 l.runs.length (rnC l.runs),.ow (.slice ra l.runs.length rc) 125 3 l.runs.length (rnC l.runs),.pt b1 (lbC l (.slice va l.runs.length vc)) 25]) ?_ ?_
  rotate_left
  ·intro K2 hK2;refine jJ (tE20_ccfc7b1) _ [] (Sp.refl _) qI qI ?_;refine cX (σ:=Option Addr×Nat×Option Addr×Nat×Nat×Nat×Unit) (.nil) (fun⟨ua,uc,ra,rc,b3,b4,()⟩=>[(1,aB8 b1),(3,aB8 b3),(4,aB8 b4)]) (fun⟨ua,uc,ra,rc,b3,b4,()⟩=>[.pt b3 (lbC l (.slice ua l.runs.length uc)) 25,.pt b4 (lbC l (.slice ra l.runs.length rc)) 53,.ow (.slice ua l.runs.length uc) 29 3 l.runs.length (rnC l.runs),.ow (.slice ra l.runs.length rc) 125 3 l.runs.length (rnC l.runs)]) ?_ (fun hS1_3_4_5_7=> ?_)
   ·rintro⟨ua,uc,ra,rc,b3,b4,_⟩;exact iK (hK2 ⟨ua,uc,ra,rc,b3,b4⟩ _ _ ⟨J,J,J,trivial⟩ qF)
   refine cX (σ:=Option Addr×Nat×Option Addr×Nat×Nat×Nat×Unit) (iZ) (fun⟨ua,uc,ra,rc,b3,b4,()⟩=>[(1,aB8 b1),(3,aB8 b3),(4,aB8 b4),(26,.agg (lbC l (.slice ua l.runs.length uc)).toArray),(28,.agg (lbC l (.slice ra l.runs.length rc)).toArray)]) (fun⟨ua,uc,ra,rc,b3,b4,()⟩=>[.pt b3 [.int .i64 0,.int .i64 0,.slice none 0 0] 25,.pt b4 [.int .i64 0,.int .i64 0,.slice none 0 0] 53,.ow (.slice ua l.runs.length uc) 29 3 l.runs.length (rnC l.runs),.ow (.slice ra l.runs.length rc) 125 3 l.runs.length (rnC l.runs)]) ?_ (fun hS1_3_4_5=> ?_)
   ·rintro⟨ua,uc,ra,rc,b3,b4,_⟩;refine bR qH fun K1 hK1=> ?_
    ((iterate 2 refine iG qE J J J J J qF rfl ?_);refine aT ?_)
    exact hK1 _ _ (hS1_3_4_5_7 ⟨ua,uc,ra,rc,b3,b4,()⟩ _ _ ⟨J,J,J,trivial⟩ qF)
   refine cX (σ:=Option Addr×Nat×Option Addr×Nat×Nat×Unit) (lN) (fun⟨ua,uc,ra,rc,b3,()⟩=>[(1,aB8 b1),(3,aB8 b3),(26,.agg (lbC l (.slice ua l.runs.length uc)).toArray),(28,.agg (lbC l (.slice ra l.runs.length rc)).toArray)]) (fun⟨ua,uc,ra,rc,b3,()⟩=>[.pt b3 [.int .i64 0,.int .i64 0,.slice none 0 0] 25,.ow (.slice ua l.runs.length uc) 29 3 l.runs.length (rnC l.runs),.ow (.slice ra l.runs.length rc) 125 3 l.runs.length (rnC l.runs)]) ?_ (fun hS1_3_4=> ?_)
   ·rintro⟨ua,uc,ra,rc,b3,_⟩;refine bR qH fun K1 hK1=> ?_
    refine bS eP J (fun b4=> ?_);(refine aT ?_);exact hK1 _ _ (hS1_3_4_5 ⟨ua,uc,ra,rc,b3,b4,()⟩ _ _ ⟨J,J,J,J,J,trivial⟩ qF)
   refine cX (σ:=Option Addr×Nat×Option Addr×Nat×Nat×Unit) (lV) (fun⟨ua,uc,ra,rc,b4,()⟩=>[(1,aB8 b1),(4,aB8 b4),(26,.agg (lbC l (.slice ua l.runs.length uc)).toArray),(28,.agg (lbC l (.slice ra l.runs.length rc)).toArray)]) (fun⟨ua,uc,ra,rc,b4,()⟩=>[.pt b4 [.int .i64 0,.int .i64 0,.slice none 0 0] 53,.ow (.slice ua l.runs.length uc) 29 3 l.runs.length (rnC l.runs),.ow (.slice ra l.runs.length rc) 125 3 l.runs.length (rnC l.runs)]) ?_ (fun hS1_3_5=> ?_)
   ·rintro⟨ua,uc,ra,rc,b4,_⟩;refine bR qH fun K1 hK1=> ?_
    refine bS eL J (fun b3=> ?_);(refine aT ?_);exact hK1 _ _ (hS1_3_4_5 ⟨ua,uc,ra,rc,b3,b4,()⟩ _ _ ⟨J,J,J,J,J,trivial⟩ qF)
   refine cX (σ:=Option Addr×Nat×Nat×Nat×Unit) (jC) (fun⟨ua,uc,b3,b4,()⟩=>[(1,aB8 b1),(3,aB8 b3),(4,aB8 b4),(26,.agg (lbC l (.slice ua l.runs.length uc)).toArray)]) (fun⟨ua,uc,b3,b4,()⟩=>[.pt b3 [.int .i64 0,.int .i64 0,.slice none 0 0] 25,.pt b4 [.int .i64 0,.int .i64 0,.slice none 0 0] 53,.ow (.slice ua l.runs.length uc) 29 3 l.runs.length (rnC l.runs)]) ?_ (fun hS1_4_5=> ?_)
   ·rintro⟨ua,uc,b3,b4,_⟩;refine bR qH fun K1 hK1=> ?_
    (refine bK qE J J J ?_)
    refine cW (β:=Value) qE [] _ M0 J J J J (Sp.refl _) qJ (fun w' hs=>gI w' lo hi l _ (RdE.keep h hs.chg0) qG) ?_;rintro z3 _ rfl;dsimp only[List.cons_append,List.nil_append];refine cT (fun w hs=>hs.slice2 (v:=z3) qF) ?_;rintro⟨ra,rc,rfl⟩;(refine aT ?_);exact hK1 _ _ (hS1_3_4_5 ⟨ua,uc,ra,rc,b3,b4,()⟩ _ _ ⟨J,J,J,J,J,trivial⟩ qF)
   refine cX (σ:=Option Addr×Nat×Option Addr×Nat×Unit) (tE20_33adb0d) (fun⟨ua,uc,ra,rc,()⟩=>[(1,aB8 b1),(26,.agg (lbC l (.slice ua l.runs.length uc)).toArray),(28,.agg (lbC l (.slice ra l.runs.length rc)).toArray)]) (fun⟨ua,uc,ra,rc,()⟩=>[.ow (.slice ua l.runs.length uc) 29 3 l.runs.length (rnC l.runs),.ow (.slice ra l.runs.length rc) 125 3 l.runs.length (rnC l.runs)]) ?_ (fun hS1_3=> ?_)
   ·rintro⟨ua,uc,ra,rc,_⟩;refine dC ?_ ?_
    ·refine bR qH fun K1 hK1=> ?_;refine bS eL J (fun b3=> ?_)
     (refine aT ?_)
     exact hK1 _ _ (hS1_3_4 ⟨ua,uc,ra,rc,b3,()⟩ _ _ ⟨J,J,J,J,trivial⟩ qF)
    ·refine bR qH fun K1 hK1=> ?_;refine bS eP J (fun b4=> ?_)
     (refine aT ?_)
     exact hK1 _ _ (hS1_3_5 ⟨ua,uc,ra,rc,b4,()⟩ _ _ ⟨J,J,J,J,trivial⟩ qF)
   refine cX (σ:=Option Addr×Nat×Nat×Unit) (lP) (fun⟨ua,uc,b3,()⟩=>[(1,aB8 b1),(3,aB8 b3),(26,.agg (lbC l (.slice ua l.runs.length uc)).toArray)]) (fun⟨ua,uc,b3,()⟩=>[.pt b3 [.int .i64 0,.int .i64 0,.slice none 0 0] 25,.ow (.slice ua l.runs.length uc) 29 3 l.runs.length (rnC l.runs)]) ?_ (fun hS1_4=> ?_)
   ·rintro⟨ua,uc,b3,_⟩;refine dC ?_ ?_
    ·refine bR qH fun K1 hK1=> ?_;(refine bK qE J J J ?_)
     refine cW (β:=Value) qE [] _ M0 J J J J (Sp.refl _) qJ (fun w' hs=>gI w' lo hi l _ (RdE.keep h hs.chg0) qG) ?_;rintro z3 _ rfl;dsimp only[List.cons_append,List.nil_append];refine cT (fun w hs=>hs.slice2 (v:=z3) qF) ?_;rintro⟨ra,rc,rfl⟩;(refine aT ?_);exact hK1 _ _ (hS1_3_4 ⟨ua,uc,ra,rc,b3,()⟩ _ _ ⟨J,J,J,J,trivial⟩ qF)
    ·refine bR qH fun K1 hK1=> ?_;refine bS eP J (fun b4=> ?_)
     (refine aT ?_)
     exact hK1 _ _ (hS1_4_5 ⟨ua,uc,b3,b4,()⟩ _ _ ⟨J,J,J,J,trivial⟩ qF)
   refine cX (σ:=Option Addr×Nat×Nat×Unit) (mB) (fun⟨ua,uc,b4,()⟩=>[(1,aB8 b1),(4,aB8 b4),(26,.agg (lbC l (.slice ua l.runs.length uc)).toArray)]) (fun⟨ua,uc,b4,()⟩=>[.pt b4 [.int .i64 0,.int .i64 0,.slice none 0 0] 53,.ow (.slice ua l.runs.length uc) 29 3 l.runs.length (rnC l.runs)]) ?_ (fun hS1_5=> ?_)
   ·rintro⟨ua,uc,b4,_⟩;refine dC ?_ ?_
    ·refine bR qH fun K1 hK1=> ?_;(refine bK qE J J J ?_)
     refine cW (β:=Value) qE [] _ M0 J J J J (Sp.refl _) qJ (fun w' hs=>gI w' lo hi l _ (RdE.keep h hs.chg0) qG) ?_;rintro z3 _ rfl;dsimp only[List.cons_append,List.nil_append];refine cT (fun w hs=>hs.slice2 (v:=z3) qF) ?_;rintro⟨ra,rc,rfl⟩;(refine aT ?_);exact hK1 _ _ (hS1_3_5 ⟨ua,uc,ra,rc,b4,()⟩ _ _ ⟨J,J,J,J,trivial⟩ qF)
    ·refine bR qH fun K1 hK1=> ?_;refine bS eL J (fun b3=> ?_)
     (refine aT ?_)
     exact hK1 _ _ (hS1_4_5 ⟨ua,uc,b3,b4,()⟩ _ _ ⟨J,J,J,J,trivial⟩ qF)
   refine cX (σ:=Nat×Nat×Unit) (lJ) (fun⟨b3,b4,()⟩=>[(1,aB8 b1),(3,aB8 b3),(4,aB8 b4)]) (fun⟨b3,b4,()⟩=>[.pt b3 [.int .i64 0,.int .i64 0,.slice none 0 0] 25,.pt b4 [.int .i64 0,.int .i64 0,.slice none 0 0] 53]) ?_ (fun hS4_5=> ?_)
   ·rintro⟨b3,b4,_⟩;refine bR qH fun K1 hK1=> ?_
    (refine bK qE J J J ?_)
    refine cW (β:=Value) qE [] _ M0 J J J J (Sp.refl _) qJ (fun w' hs=>eM w' lo hi l _ (RdE.keep h hs.chg0) qG) ?_;rintro z1 _ rfl;dsimp only[List.cons_append,List.nil_append];refine cT (fun w hs=>hs.slice2 (v:=z1) qF) ?_;rintro⟨ua,uc,rfl⟩;(refine aT ?_);exact hK1 _ _ (hS1_4_5 ⟨ua,uc,b3,b4,()⟩ _ _ ⟨J,J,J,J,trivial⟩ qF)
   refine cX (σ:=Option Addr×Nat×Unit) (tE20_cdf2087) (fun⟨ua,uc,()⟩=>[(1,aB8 b1),(26,.agg (lbC l (.slice ua l.runs.length uc)).toArray)]) (fun⟨ua,uc,()⟩=>[.ow (.slice ua l.runs.length uc) 29 3 l.runs.length (rnC l.runs)]) ?_ (fun hS1=> ?_)
   ·rintro⟨ua,uc,_⟩;refine dC ?_ (dC ?_ ?_)
    ·refine bR qH fun K1 hK1=> ?_;(refine bK qE J J J ?_)
     refine cW (β:=Value) qE [] _ M0 J J J J (Sp.refl _) qJ (fun w' hs=>gI w' lo hi l _ (RdE.keep h hs.chg0) qG) ?_;rintro z3 _ rfl;dsimp only[List.cons_append,List.nil_append];refine cT (fun w hs=>hs.slice2 (v:=z3) qF) ?_;rintro⟨ra,rc,rfl⟩;(refine aT ?_);exact hK1 _ _ (hS1_3 ⟨ua,uc,ra,rc,()⟩ _ _ ⟨J,J,J,trivial⟩ qF)
    ·refine bR qH fun K1 hK1=> ?_;refine bS eL J (fun b3=> ?_)
     (refine aT ?_)
     exact hK1 _ _ (hS1_4 ⟨ua,uc,b3,()⟩ _ _ ⟨J,J,J,trivial⟩ qF)
    ·refine bR qH fun K1 hK1=> ?_;refine bS eP J (fun b4=> ?_)
     (refine aT ?_)
     exact hK1 _ _ (hS1_5 ⟨ua,uc,b4,()⟩ _ _ ⟨J,J,J,trivial⟩ qF)
   refine cX (σ:=Nat×Unit) (tE20_d769b30) (fun⟨b3,()⟩=>[(1,aB8 b1),(3,aB8 b3)]) (fun⟨b3,()⟩=>[.pt b3 [.int .i64 0,.int .i64 0,.slice none 0 0] 25]) ?_ (fun hS4=> ?_)
   ·rintro⟨b3,_⟩;refine dC ?_ ?_
    ·refine bR qH fun K1 hK1=> ?_;(refine bK qE J J J ?_)
     refine cW (β:=Value) qE [] _ M0 J J J J (Sp.refl _) qJ (fun w' hs=>eM w' lo hi l _ (RdE.keep h hs.chg0) qG) ?_;rintro z1 _ rfl;dsimp only[List.cons_append,List.nil_append];refine cT (fun w hs=>hs.slice2 (v:=z1) qF) ?_;rintro⟨ua,uc,rfl⟩;(refine aT ?_);exact hK1 _ _ (hS1_4 ⟨ua,uc,b3,()⟩ _ _ ⟨J,J,J,trivial⟩ qF)
    ·refine bR qH fun K1 hK1=> ?_;refine bS eP J (fun b4=> ?_)
     (refine aT ?_)
     exact hK1 _ _ (hS4_5 ⟨b3,b4,()⟩ _ _ ⟨J,J,J,trivial⟩ qF)
   refine cX (σ:=Nat×Unit) (tE20_a451c87) (fun⟨b4,()⟩=>[(1,aB8 b1),(4,aB8 b4)]) (fun⟨b4,()⟩=>[.pt b4 [.int .i64 0,.int .i64 0,.slice none 0 0] 53]) ?_ (fun hS5=> ?_)
   ·rintro⟨b4,_⟩;refine dC ?_ ?_
    ·refine bR qH fun K1 hK1=> ?_;(refine bK qE J J J ?_)
     refine cW (β:=Value) qE [] _ M0 J J J J (Sp.refl _) qJ (fun w' hs=>eM w' lo hi l _ (RdE.keep h hs.chg0) qG) ?_;rintro z1 _ rfl;dsimp only[List.cons_append,List.nil_append];refine cT (fun w hs=>hs.slice2 (v:=z1) qF) ?_;rintro⟨ua,uc,rfl⟩;(refine aT ?_);exact hK1 _ _ (hS1_5 ⟨ua,uc,b4,()⟩ _ _ ⟨J,J,J,trivial⟩ qF)
    ·refine bR qH fun K1 hK1=> ?_;refine bS eL J (fun b3=> ?_)
     (refine aT ?_)
     exact hK1 _ _ (hS4_5 ⟨b3,b4,()⟩ _ _ ⟨J,J,J,trivial⟩ qF)
   refine dC ?_ (dC ?_ ?_)
   ·refine bR qH fun K1 hK1=> ?_;(refine bK qE J J J ?_)
    refine cW (β:=Value) qE [] _ M0 J J J J (Sp.refl _) qJ (fun w' hs=>eM w' lo hi l _ (RdE.keep h hs.chg0) qG) ?_;rintro z1 _ rfl;dsimp only[List.cons_append,List.nil_append];refine cT (fun w hs=>hs.slice2 (v:=z1) qF) ?_;rintro⟨ua,uc,rfl⟩;(refine aT ?_);exact hK1 _ _ (hS1 ⟨ua,uc,()⟩ _ _ ⟨J,J,trivial⟩ qF)
   ·refine bR qH fun K1 hK1=> ?_;refine bS eL J (fun b3=> ?_)
    (refine aT ?_)
    exact hK1 _ _ (hS4 ⟨b3,()⟩ _ _ ⟨J,J,trivial⟩ qF)
   ·refine bR qH fun K1 hK1=> ?_;refine bS eP J (fun b4=> ?_)
    (refine aT ?_)
    exact hK1 _ _ (hS5 ⟨b4,()⟩ _ _ ⟨J,J,trivial⟩ qF)
  rintro⟨ua,uc,ra,rc,b3,b4⟩;dsimp only;have hlen:l.runs.length≤maxLen:=hlen0;(refine aD ?_);refine bY _ [] (Sp.refl _) qI qI ?_;(refine bK qE J J J ?_);refine cR (val:= .int .i64 (cG l)) qE J J J J (fun w hs=> ?_) ?_;exact lX w 0 w.heap.size l (.slice ra l.runs.length rc) (bP hs (v:= .slice ra l.runs.length rc) (t:=125) (l:=l.runs) qF J) hlen;(refine bK qE J J J ?_);refine cR (val:= .int .i64 (bQ l)) qE J J J J (fun w hs=> ?_) ?_;exact jY w 0 w.heap.size l (.slice ra l.runs.length rc) (bP hs (v:= .slice ra l.runs.length rc) (t:=125) (l:=l.runs) qF J) hlen;(refine aB2 yq (aB2 yq (aT (aD (aB ?_))));refine aM qE J J J ?_);refine bB (β:=Value×List Int×Int) qE [] _ M0 J J J J (Sp.refl _) qJ (fun w' hs=>round_ca w' 0 w'.heap.size l (.slice ua l.runs.length uc) (bP hs (v:= .slice ua l.runs.length uc) (t:=29) (l:=l.runs) qF J) hlen) ?_;rintro⟨v36,c36,e36⟩ _ ⟨rfl,hro⟩;dsimp only[List.cons_append,List.nil_append] at hro ⊢;refine bW (fun w hs=>hs.slice2 (v:=v36) qF) ?_;rintro⟨a36,q36,rfl⟩;obtain⟨ck,hckE⟩:∃ck,cG l=ck:=⟨_,rfl⟩;obtain⟨ag,hagE⟩:∃ag,bQ l=ag:=⟨_,rfl⟩;rw[hckE,hagE];have hcv:=check_vals l;rw[hckE] at hcv;have hc1:ck=0→l.Ok:=fun h=>dG.1 (hckE.trans h)
  have hc2:ck≠0→ag=ck:=fun h=>by rw[←hagE];unfold bQ;rw[hckE,if_pos h]
  have hc3:ag=0→l.Ok∧NoC l.ord l.n:=fun h=>dE.1 (hagE.trans h)
  (refine aA1 vq (aA7 yq (aA7 yq (aA1 vq (aA1 vq (aE (aD ?_)))))))
  refine kL (σ:=Unit) (fun _=>[(1,aB8 b1),(3,aB8 b3),(4,aB8 b4),(5,.int .i64 ck),(6,.int .i64 ag)]) (fun _=>[.pt b3 (lbC l (.slice ua l.runs.length uc)) 25,.pt b4 (lbC l (.slice ra l.runs.length rc)) 53,.ow (.slice ua l.runs.length uc) 29 3 l.runs.length (rnC l.runs),.ow (.slice ra l.runs.length rc) 125 3 l.runs.length (rnC l.runs),.pt b1 (lbC l (.slice va l.runs.length vc)) 25]) ?_ ?_;rotate_left
  ·intro K2 hK2;by_cases hck:ck=0
   ·have hok:=hc1 hck;by_cases hnc:NoC l.ord l.n
    ·obtain rfl:ag=0:=by rw[←hagE];exact(agreed_noC hok).2 hnc
     have he:e36=6∧c36=[]:=by
      rcases hro with⟨h1,_⟩|⟨_,_,h3,h4⟩|⟨_,_,s,h3,h4,_⟩
      ·exact absurd (hckE.trans hck) h1
      ·exact⟨h4,h3⟩
      ·exact absurd (hnc s h3) (by rw[h4];simp)
     obtain⟨rfl,rfl⟩:=he;subst hck;(refine aK (aD (aB (aA1 vq (aA9 yq qG (aA1 vq (aE (aF J (aD (aB (aA1 vq (aA8 yq qG ?_)))))))))));refine aA1 vq (aE (aH J (aD (aB (aA1 vq (aB1 yq qG (aA1 vq (aC J (aA1 vq (aC J (aA1 vq ?_)))))))))));refine aC J (aA1 vq (aA1 vq (aE (aF J (aJ (aW ?_)))))));exact hK2 () _ _ ⟨J,J,J,J,J,trivial⟩ qF
    ·obtain rfl:ag=7:=by rw[←hagE];exact agreed_seven hok hnc
     subst hck
     obtain⟨he,s0,hs0,_,hsh⟩:e36=0∧∃s:Nat,s<l.n∧fa l.ord s s=true∧Short l s s c36:=by
      rcases hro with⟨h1,_⟩|⟨_,h3,_⟩|⟨_,h⟩
      ·exact absurd hckE h1
      ·exact absurd h3 hnc
      ·exact h
     obtain⟨sk,hls,hln,h8,h1⟩:=hok.nat;have hsl:=short_lt2 hok hsh;have hsm0:=sm_true (n:=sk) qG (short_shows (two_ok' hok hs0 hs0) hsh);subst he;(refine aK (aD (aB (aA1 vq (aA8 yq qG (aA1 vq (aE (aH J (aD (aB (aA1 vq (aE ?_)))))))))));refine aD (aD (aB (aA1 vq ?_)));refine aL qE J J J ?_;refine aA1 vq (aE (aK ?_)));rw[hls];refine bD (σ:=Nat) (fun k=>k≤sk) (fun k=>sk-k) (fun k=>[(1,aB8 b1),(3,aB8 b3),(4,aB8 b4),(5,.int .i64 0),(6,.int .i64 7),(7,.slice a36 c36.length q36),(8,.int .i64 0),(9,.bool (smB l c36 k)),(42,.int .i64 sk),(43,.int .i64 k)]) (fun _=>[.ow (.slice a36 c36.length q36) 3 1 c36.length (bF c36),.pt b3 (lbC l (.slice ua l.runs.length uc)) 25,.pt b4 (lbC l (.slice ra l.runs.length rc)) 53,.ow (.slice ua l.runs.length uc) 29 3 l.runs.length (rnC l.runs),.ow (.slice ra l.runs.length rc) 125 3 l.runs.length (rnC l.runs),.pt b1 (lbC l (.slice va l.runs.length vc)) 25]) 0 qG ⟨J,J,J,J,J,J,J,J,J,J,trivial⟩ qF ?_;rintro k hk K hK;(refine aD (aB (aA1 vq (aE (aD ?_)))));refine cP J (fun hc=> ?_) (fun hc=> ?_)
     ·have hk2:k<sk:=by omega
      clear hc;have hsc:=sm_succ l c36 k;(refine aJ (aD (aK (aD (aB (aA1 vq (aA1 vq (aE (aD (aB ?_)))))))));refine aM qE J J J ?_;(iterate 3 refine aA1 vq ?_));refine aI (val:= .tuple #[.bool (chainV l k k c36).1,.int .i64 (chainV l k k c36).2]) qE J J J J (fun w hs=> ?_) ?_;exact rchain_ca w 0 w.heap.size 0 w.heap.size l (.slice ra l.runs.length rc) k k (.slice a36 c36.length q36) c36 (bP hs (v:= .slice ra l.runs.length rc) (t:=125) (l:=l.runs) qF J) hlen (hs.rdI (v:= .slice a36 c36.length q36) (l:=c36) (t:=3) (n:=c36.length) qF J) qG;generalize chainV l k k c36=cv at hsc ⊢;obtain⟨is,er⟩:=cv;dsimp only at hsc ⊢;cases hb:smB l c36 k with
      | true=>
       rw[hb,Bool.true_or] at hsc;(refine aA1 vq (aA7 yq (aA7 yq (aA1 vq (aA1 vq (aE (aB (aA1 vq (aA1 vq ?_))))))));(iterate 3 refine aA3 zq ?_);refine dZ J J (aA3 zq (aA1 vq (aA1 vq (aE (aW (aB (aA4 xq qG qG (aA1 vq (aE ?_))))))))));exact hK (k+1) _ _ qG qG ⟨J,J,J,J,J,J,J,by rw[hsc];rfl,J,J,trivial⟩ qF
      | false=>
       rw[hb,Bool.false_or] at hsc;by_cases h0:er=0
       ·subst h0;rw[decide_eq_true rfl,Bool.true_and] at hsc;(refine aA1 vq (aA7 yq (aA7 yq (aA1 vq (aA1 vq (aE (aB (aA1 vq (aA1 vq (aC J (aA1 vq (aC J ?_)))))))))));refine aA8 yq qG (aC J (aA1 vq (aC J (aA1 vq (aC J ?_)))));(iterate 3 refine aA1 vq ?_);refine aE (aW (aB (aA4 xq qG qG (aA1 vq (aE ?_))))));exact hK (k+1) _ _ qG qG ⟨J,J,J,J,J,J,J,by rw[hsc];rfl,J,J,trivial⟩ qF
       ·rw[decide_eq_false h0,Bool.false_and] at hsc;(refine aA1 vq (aA7 yq (aA7 yq (aA1 vq (aA1 vq (aE (aB (aA1 vq (aA1 vq (aC J (aA1 vq (aC J ?_)))))))))));refine aA9 yq qG (aC J (aA1 vq (aA3 zq (aC J ?_))));(iterate 3 refine aA1 vq ?_);refine aE (aW (aB (aA4 xq qG qG (aA1 vq (aE ?_))))));exact hK (k+1) _ _ qG qG ⟨J,J,J,J,J,J,J,by rw[hsc];rfl,J,J,trivial⟩ qF
     ·obtain rfl:k=sk:=by omega
      clear hc hK hk;rw[hsm0];(refine aZ _ J (aD (aB (aA1 vq (aB1 yq qG (aA1 vq (aC J (aA1 vq (aC J (aA1 vq (aA1 vq (aE ?_)))))))))));refine aF J (aJ (aW ?_)));exact hK2 () _ _ ⟨J,J,J,J,J,trivial⟩ qF
   ·obtain rfl:=hc2 hck
    have he:e36=ag∧c36=[]:=by
     rcases hro with⟨_,h3,h4⟩|⟨h1,_⟩|⟨h1,_⟩
     ·exact⟨h4.trans hckE,h3⟩
     ·exact absurd (hckE.symm.trans (dG.2 h1)) hck
     ·exact absurd (hckE.symm.trans (dG.2 h1)) hck
    obtain⟨rfl,rfl⟩:=he;rcases hcv with h|h|h|h
    ·exact absurd h hck
    ·subst h;(refine aK (aD (aB (aA1 vq (aA9 yq qG (aA1 vq (aE (aF J (aD (aB (aA1 vq (aA9 yq qG ?_)))))))))));refine aA1 vq (aE (aF J (aD (aB (aA1 vq (aA1 vq (aB1 yq qG (aA1 vq (aC J (aA1 vq (aC J ?_)))))))))));refine aA1 vq (aC J ?_);(iterate 3 refine aA1 vq ?_);refine aE (aF J (aJ (aW ?_))));exact hK2 () _ _ ⟨J,J,J,J,J,trivial⟩ qF
    ·subst h;(refine aK (aD (aB (aA1 vq (aA9 yq qG (aA1 vq (aE (aF J (aD (aB (aA1 vq (aA9 yq qG ?_)))))))))));refine aA1 vq (aE (aF J (aD (aB (aA1 vq (aA1 vq (aB1 yq qG (aA1 vq (aC J (aA1 vq (aC J ?_)))))))))));refine aA1 vq (aC J ?_);(iterate 3 refine aA1 vq ?_);refine aE (aF J (aJ (aW ?_))));exact hK2 () _ _ ⟨J,J,J,J,J,trivial⟩ qF
    ·subst h;(refine aK (aD (aB (aA1 vq (aA9 yq qG (aA1 vq (aE (aF J (aD (aB (aA1 vq (aA9 yq qG ?_)))))))))));refine aA1 vq (aE (aF J (aD (aB (aA1 vq (aA1 vq (aB1 yq qG (aA1 vq (aC J (aA1 vq (aC J ?_)))))))))));refine aA1 vq (aC J ?_);(iterate 3 refine aA1 vq ?_);refine aE (aF J (aJ (aW ?_))));exact hK2 () _ _ ⟨J,J,J,J,J,trivial⟩ qF
  rintro⟨⟩;clear hro;by_cases hck:ck=0
  ·have hok:=hc1 hck;subst hck;(refine aD (aB ?_);refine aM qE J J J ?_);refine bB (β:=Value×List Nat) qE [] _ M0 J J J J (Sp.refl _) qJ (fun w' hs=>drop_ok w' 0 w'.heap.size l (.slice ua l.runs.length uc) (bP hs (v:= .slice ua l.runs.length uc) (t:=29) (l:=l.runs) qF J) hok) ?_;rintro⟨v91,d⟩ _ ⟨rfl,hd⟩;dsimp only[List.cons_append,List.nil_append] at hd ⊢;refine bW (fun w hs=>hs.slice2 (v:=v91) qF) ?_;rintro⟨a91,q91,rfl⟩
   have hdl:d.length≤45:=by
    have:=iJ (D:=List.range l.runs.length) (hd.asc.imp (fun h=>by omega)) (fun x hx=>List.mem_range.2 (hd.lt x hx));rw[List.length_range] at this;omega
   (refine aA1 vq (aA7 yq (aA7 yq (aA1 vq (aA1 vq (aE (aD (aD (aB (aA1 vq (aA1 vq (aB1 yq qG ?_)))))))))));refine aA1 vq (aC J (aA1 vq (aC J (aB1 yq qG (aC J (aA1 vq ?_))))));(iterate 3 refine aA3 zq ?_);refine aC J (aA1 vq (aA1 vq (aE (aF J (aJ (aD (aD (aB (aA1 vq (aA8 yq qG (aE ?_)))))))))));refine aH J (aD (aD (aB ?_)));(iterate 3 refine aA1 vq ?_);refine aE (aK ?_))
   refine bD (σ:=Nat) (fun k=>k≤d.length) (fun k=>d.length-k) (fun k=>[(1,aB8 b1),(3,aB8 b3),(4,aB8 b4),(5,.int .i64 0),(6,.int .i64 ag),(13,.slice a91 d.length q91),(107,.slice a91 d.length q91),(108,.int .i64 d.length),(109,.int .i64 k)]) (fun _=>[.ow (.slice a91 d.length q91) 3 1 d.length (bF (chI d)),.pt b3 (lbC l (.slice ua l.runs.length uc)) 25,.pt b4 (lbC l (.slice ra l.runs.length rc)) 53,.ow (.slice ua l.runs.length uc) 29 3 l.runs.length (rnC l.runs),.ow (.slice ra l.runs.length rc) 125 3 l.runs.length (rnC l.runs),.pt b1 (lbC l (.slice va l.runs.length vc)) 25]) 0 qG ⟨J,J,J,J,J,J,J,J,J,trivial⟩ qF ?_;rintro k hk K hK;(refine aD (aB (aA1 vq (aE (aD ?_)))));refine cP J (fun hc=> ?_) (fun hc=> ?_)
   ·have hk2:k<d.length:=by omega
    clear hc;have hkc:k<(chI d).length:=by rw[bT];exact hk2
    have hlt:=hd.lt d[k] (List.getElem_mem hk2);have hasc:∀j,(hj:j<k)→d[j]'qG<d[k]:=fun j hj=>List.pairwise_iff_getElem.1 hd.asc j k qG hk2 hj
    refine dO (fun w hs=>hs.ownSome (v:= .slice a91 d.length q91) qF (by rw[bT] at hkc;omega)) ?_;rintro⟨g91,z91,ev⟩;cases ev
    (refine aJ (aD (aK (aD (aB (aA1 vq ?_))))))
    refine aA5 uq qG qG ?_
    refine bC (v:= .int .i64 (d[k]:Nat)) qE J J J (fun w hs=>by
     have:=RdI.at (hs.rdI (v:=aB7 g91 d.length q91) (l:=chI d) (t:=3) (n:=d.length) qF (bT _).symm) k hkc;rw[chI_at hk2 hkc] at this;exact this) ?_
    generalize hdk:d[k]=dk at hlt hasc ⊢;cases k with
    | zero=>
     (refine aA1 vq (aA1 vq (aE (aD (aB (aA1 vq (cS qE J J J qG (aA1 vq (aC J (aA1 vq (aC J (aA1 vq ?_)))))))))));refine aC J ?_;refine aL qE J J J ?_;refine aC J (aA1 vq (aC J (gJ qE J J J qG (aA1 vq (aA1 vq (aC J (aA1 vq (aC J (aB3 yq qG (aC J (aA1 vq ?_)))))))))));(iterate 7 refine aA3 zq ?_);refine aC J (aA1 vq (aA1 vq (aE (aF J (aJ (aW (aB (aA4 xq qG qG (aA1 vq (aE ?_)))))))))))
     exact hK 1 _ _ qG qG ⟨J,J,J,J,J,J,J,J,J,trivial⟩ qF
    | succ j=>
     have hj:=hasc j qG;have hjc:j<(chI d).length:=by rw[bT];omega
     obtain⟨dj,hdj⟩:∃dj,d[j]'qG=dj:=⟨_,rfl⟩;rw[hdj] at hj;(refine aA1 vq (aA1 vq (aE (aD (aB (aA1 vq (cS qE J J J qG (aA1 vq (aC J (aA1 vq (aC J (aA1 vq ?_)))))))))));refine aC J ?_;refine aL qE J J J ?_;refine aC J (aA1 vq (aC J (gJ qE J J J qG (aA1 vq (aA1 vq (aC J (aA1 vq (aC J (aB4 yq qG (aC J (aA1 vq ?_)))))))))));refine aC J (aA1 vq (aC J (aA1 vq (aC J (aA4 xq qG qG (aC J ?_)))))));rw[show((j+1:Nat):Int)-1=(j:Int) from by omega];refine aA5 uq qG qG ?_;(refine aC J ?_)
     refine bC (v:= .int .i64 (dj:Nat)) qE J J J (fun w hs=>by
      have:=RdI.at (hs.rdI (v:=aB7 g91 d.length q91) (l:=chI d) (t:=3) (n:=d.length) qF (bT _).symm) j hjc;rw[chI_at qG hjc,hdj] at this;exact this) ?_
     (refine aC J (aA1 vq (aC J (gJ qE J J J qG (aC J (aA1 vq (aA1 vq (aE (aF J (aJ (aW (aB ?_)))))))))));refine aA4 xq qG qG (aA1 vq (aE ?_)))
     exact hK (j+2) _ _ qG qG ⟨J,J,J,J,J,J,J,J,J,trivial⟩ qF
   ·clear hc hK hk;obtain⟨sk,hls,hln,h8,h1⟩:=hok.nat;have h6:l.n≤6:=by omega
    have hw40:=(wo_ok hok d).len;have hmx:(40:Nat)≤maxLen:=by decide
    (refine aZ _ J (aD (aB (aA1 vq (aA1 vq ?_))));refine aM qE J J J ?_)
    refine aI (val:= .int .i64 (d.length:Nat)) qE J J J J (fun w hs=> ?_) ?_;exact by have:=rdrop_ca w 0 w.heap.size l (.slice ra l.runs.length rc) (bP hs (v:= .slice ra l.runs.length rc) (t:=125) (l:=l.runs) qF J) hok h6;rw[drop_fold hok hd] at this;exact this
    (refine aB1 yq qG (aA1 vq (aC J ?_));refine aM qE J J J ?_;refine aC J (aA1 vq (aC J ?_)))
    refine bB (β:=Value) qE [] _ M0 J J J J (Sp.refl _) qJ (fun w' hs=>rwithout_ca w' 0 w'.heap.size 0 w'.heap.size l (.slice ra l.runs.length rc) (.slice a91 d.length q91) d (bP hs (v:= .slice ra l.runs.length rc) (t:=125) (l:=l.runs) qF J) hok (hs.rdI (v:= .slice a91 d.length q91) (l:=chI d) (t:=3) (n:=d.length) qF (bT _).symm) qG) ?_;rintro z145 _ rfl;dsimp only[List.cons_append,List.nil_append];(refine aC J ?_);refine aI (val:= .int .i64 0) qE J J J J (fun w hs=> ?_) ?_;exact by have:=jY w 0 w.heap.size (woL l d) z145 (bP hs (v:=z145) (t:=125) (l:=(woL l d).runs) qF J) qG;rw[(wo_agreed hok d).2 hd.noC] at this;exact this
    (refine aC J (aB1 yq qG (aA1 vq (aE (aF J (aJ (aD (aB ?_)))))));refine aM qE J J J ?_)
    by_cases hnc:NoC l.ord l.n
    ·obtain rfl:ag=0:=by rw[←hagE];exact(agreed_noC hok).2 hnc
     have hpn:plA l=plC l l.ord l.n:=by unfold plA;rw[if_pos hagE]
     have hon:ordN l=cnt l.ord l.n (2^l.n-1):=by unfold ordN;rw[if_pos hagE]
     have hfn:firA l=(kJ l.ord l.n l.n).1:=by unfold firA;rw[if_pos hagE]
     have hhead:=fl_first hnc hok.o hok.n8 l.n (Nat.le_refl _);have hcnt:=fl_len l.ord l.n;have hpl:=plC_len l l.ord l.n;have hfl:=(fir_is hnc hok.o hok.n8 l.n (Nat.le_refl _)).len;refine bB (β:=Value) qE [] _ M0 J J J J (Sp.refl _) qJ (fun w' hs=>kB w' 0 w'.heap.size l (.slice ua l.runs.length uc) (bP hs (v:= .slice ua l.runs.length uc) (t:=29) (l:=l.runs) qF J) hlen) ?_;rintro v151 _ rfl;dsimp only[List.cons_append,List.nil_append];rw[hagE];refine bW (fun w hs=>hs.slice2 (v:=v151) qF) ?_;rintro⟨a151,q151,rfl⟩;(refine aA1 vq (aA7 yq (aA7 yq (aA1 vq (aA1 vq (aE (aD (aB ?_)))))));refine aM qE J J J ?_);refine aI (val:= .tuple #[.int .i64 (ordN l:Nat),.int .i64 (bQ l)]) qE J J J J (fun w hs=> ?_) ?_;exact jP w 0 w.heap.size l (.slice ua l.runs.length uc) (bP hs (v:= .slice ua l.runs.length uc) (t:=29) (l:=l.runs) qF J) hlen;rw[hagE];(refine aA1 vq (aA7 yq (aA7 yq (aA1 vq (aA1 vq (aE (aD (aB ?_)))))));refine aM qE J J J ?_);refine bB (β:=Value) qE [] _ M0 J J J J (Sp.refl _) qJ (fun w' hs=>mG w' 0 w'.heap.size l (.slice ua l.runs.length uc) (bP hs (v:= .slice ua l.runs.length uc) (t:=29) (l:=l.runs) qF J) hlen) ?_;rintro v161 _ rfl;dsimp only[List.cons_append,List.nil_append];rw[hagE];refine bW (fun w hs=>hs.slice2 (v:=v161) qF) ?_;rintro⟨a161,q161,rfl⟩;rw[hpn,hon,hfn];generalize hF:(kJ l.ord l.n l.n).1=F at hhead hfl ⊢;generalize hP:plC l l.ord l.n=P at hpl ⊢;rw[hpl];(refine aA1 vq (aA7 yq (aA7 yq (aA1 vq (aA1 vq (aE (aD (aD (aB (aA1 vq (aA1 vq (aB1 yq qG ?_)))))))))));refine aA1 vq (aC J (aA1 vq (aC J (aA1 vq (aC J (aB1 yq qG (aA1 vq (aA1 vq (aC J (aA1 vq (aC J ?_)))))))))));refine aA1 vq (aC J (aB1 yq qG (aA1 vq (aE (aF J (aJ (aD (aD (aB (aA1 vq (aB1 yq qG ?_)))))))))));refine aE (aF J (aJ (aD (aB ?_))));refine aM qE J J J ?_);refine bB (β:=Value×List (Value×List Int)×List (Value×List Int)) qE [] _ M0 J J J J (Sp.refl _) qJ (fun w' hs=>jR w' 0 w'.heap.size l (.slice ra l.runs.length rc) (bP hs (v:= .slice ra l.runs.length rc) (t:=125) (l:=l.runs) qF J) hok h6) ?_;rintro⟨_,Y,sel⟩ v198 ⟨rfl,hsub,hmap⟩;dsimp only[List.cons_append,List.nil_append] at hsub hmap ⊢;have hsl:sel.length=cnt l.ord l.n (2^l.n-1):=by have:=congrArg List.length hmap;simp only[List.length_map] at this;rw[this,hcnt]
     rw[hsl];generalize cnt l.ord l.n (2^l.n-1)=nf at hsl ⊢
     obtain⟨p,rest,hse⟩:∃p rest,sel=p::rest:=by
      cases sel with
      | nil=>
       cases hfe:FL l.ord l.n l.n with
       | nil=>rw[hfe] at hhead;exact absurd hhead (by simp)
       | cons _ _=>rw[hfe] at hmap;exact absurd hmap (by simp)
      | cons p rest=>exact⟨p,rest,rfl⟩
     have hp2:p.2=chI F:=by
      cases hfe:FL l.ord l.n l.n with
      | nil=>rw[hfe] at hhead;exact absurd hhead (by simp)
      | cons x y=>
       rw[hfe] at hhead hmap;rw[hse] at hmap;simp only[List.map_cons,List.cons.injEq] at hmap;simp only[List.head?_cons,Option.some.injEq] at hhead;rw[hmap.1,hhead]
     have hpY:=hsub p (by rw[hse];exact .head _);have hsl0:0<sel.length:=by rw[hse];exact Nat.succ_pos _
     have hs0:sel[0]'hsl0=p:=by subst hse;rfl
     have hnf:0<nf:=by omega
     refine bW (fun w hs=>hs.slice2 (v:=v198) qF) ?_;rintro⟨a198,q198,rfl⟩;refine bW (fun w hs=>hs.ownSome (v:= .slice a198 nf q198) qF qG) ?_;rintro⟨g198,z198,ev⟩;cases ev
     obtain⟨pv,pl⟩:=p;dsimp only at hp2;subst hp2;(refine aA1 vq (aE (aD (aB (aA1 vq (aA1 vq (aB4 yq qG (aA1 vq (aC J (aA1 vq (aC J ?_))))))))));refine aM qE J J J ?_;refine aC J ?_);refine bB (β:=Nat) qE [] _ M0 J J J J (Sp.refl _) qJ (fun w' hs=>rplaces_ca w' 0 w'.heap.size l (.slice ra l.runs.length rc) (bP hs (v:= .slice ra l.runs.length rc) (t:=125) (l:=l.runs) qF J) hok hnc h6) ?_;rintro b205 _ rfl;dsimp only[List.cons_append,List.nil_append];rw[hP];(refine aC J ?_);refine aI (val:= .bool true) qE J J J J (fun w hs=> ?_) ?_;exact eqS_ca w 0 w.heap.size 0 w.heap.size _ _ P (jG (t:=40) (hs.mem (c:= .ow (.slice a151 l.n q151) 40 2 l.n (spC P)) qF) hpl.symm) (Blk.rdS' (c:=l.n) (hs.blk (b:=b205) qF) hpl.symm) qG;(refine aA1 vq (aA1 vq (aC J (aA1 vq (aC J (aA1 vq (aC J (aA1 vq (aC J (aA8 yq qG (aA1 vq (aA1 vq ?_)))))))))));refine aC J (aA1 vq (aC J (aA1 vq (aC J ?_)))));refine aA5 uq qG qG ?_;(refine aC J ?_);refine bC (v:=pv) qE J J J (fun w hs=>iY hs qF hsl0 (by rw[hs0]) J) ?_;(refine aC J ?_);refine aI (val:= .bool true) qE J J J J (fun w hs=> ?_) ?_;exact nL w 0 w.heap.size 0 w.heap.size _ _ (chI F) (hs.rdI (v:= .slice a161 F.length q161) (l:=chI F) (t:=3) (n:=F.length) qF (bT _).symm) (rowR hs qF hpY) (by rw[bT];omega);(refine aA1 vq (aA1 vq (aC J ?_));refine aM qE J J J ?_;refine aC J ?_;refine aM qE J J J ?_;refine aC J ?_);refine aI (val:= .bool true) qE J J J J (fun w hs=> ?_) ?_;exact iD w 0 w.heap.size lo hi l (.slice ua l.runs.length uc) (.slice va l.runs.length vc) (bP hs (v:= .slice ua l.runs.length uc) (t:=29) (l:=l.runs) qF J) (RdE.keep h hs.chg0) qG;(refine aA1 vq (aA1 vq (aC J ?_)));refine aI (val:= .bool true) qE J J J J (fun w hs=> ?_) ?_;exact cZ w;(refine aA1 vq (aA1 vq (aE (aQ ?_))));refine aA2 wq qF fun w hs=> ?_
     exact⟨J,hs.chg0⟩
    ·obtain rfl:ag=7:=by rw[←hagE];exact agreed_seven hok hnc
     have hpn:plA l=[]:=by unfold plA;rw[if_neg (by rw[hagE];decide)]
     have hon:ordN l=0:=by unfold ordN;rw[if_neg (by rw[hagE];decide)]
     have hfn:firA l=[]:=by unfold firA;rw[if_neg (by rw[hagE];decide)]
     refine bB (β:=Value) qE [] _ M0 J J J J (Sp.refl _) qJ (fun w' hs=>kB w' 0 w'.heap.size l (.slice ua l.runs.length uc) (bP hs (v:= .slice ua l.runs.length uc) (t:=29) (l:=l.runs) qF J) hlen) ?_;rintro v151 _ rfl;dsimp only[List.cons_append,List.nil_append];rw[hagE];refine bW (fun w hs=>hs.slice2 (v:=v151) qF) ?_;rintro⟨a151,q151,rfl⟩;(refine aA1 vq (aA7 yq (aA7 yq (aA1 vq (aA1 vq (aE (aD (aB ?_)))))));refine aM qE J J J ?_);refine aI (val:= .tuple #[.int .i64 (ordN l:Nat),.int .i64 (bQ l)]) qE J J J J (fun w hs=> ?_) ?_;exact jP w 0 w.heap.size l (.slice ua l.runs.length uc) (bP hs (v:= .slice ua l.runs.length uc) (t:=29) (l:=l.runs) qF J) hlen;rw[hagE];(refine aA1 vq (aA7 yq (aA7 yq (aA1 vq (aA1 vq (aE (aD (aB ?_)))))));refine aM qE J J J ?_);refine bB (β:=Value) qE [] _ M0 J J J J (Sp.refl _) qJ (fun w' hs=>mG w' 0 w'.heap.size l (.slice ua l.runs.length uc) (bP hs (v:= .slice ua l.runs.length uc) (t:=29) (l:=l.runs) qF J) hlen) ?_;rintro v161 _ rfl;dsimp only[List.cons_append,List.nil_append];rw[hagE];refine bW (fun w hs=>hs.slice2 (v:=v161) qF) ?_;rintro⟨a161,q161,rfl⟩;rw[hpn,hon,hfn];dsimp only[List.length_nil];(refine aA1 vq (aA7 yq (aA7 yq (aA1 vq (aA1 vq (aE (aD (aD (aB (aA1 vq (aA1 vq (aB1 yq qG ?_)))))))))));refine aA1 vq (aC J (aA1 vq (aC J (aA1 vq (aC J (aB1 yq qG (aA1 vq (aA1 vq (aC J (aA1 vq (aC J ?_)))))))))));refine aA1 vq (aC J (aB1 yq qG (aA1 vq (aE (aF J (aJ (aD (aD (aB (aA1 vq (aB0 yq qG ?_)))))))))));refine aE (aH J (aD (aB ?_)));(iterate 4 refine aA1 vq ?_);refine aA4 xq qG qG (aA8 yq qG (aA1 vq (aC J (aA1 vq (aC J (aA8 yq qG (aA1 vq (aA1 vq (aC J ?_)))))))));refine aM qE J J J ?_;refine aC J ?_;refine aM qE J J J ?_;refine aC J ?_);refine aI (val:= .bool true) qE J J J J (fun w hs=> ?_) ?_;exact iD w 0 w.heap.size lo hi l (.slice ua l.runs.length uc) (.slice va l.runs.length vc) (bP hs (v:= .slice ua l.runs.length uc) (t:=29) (l:=l.runs) qF J) (RdE.keep h hs.chg0) qG;(refine aA1 vq (aA1 vq (aC J ?_)));refine aI (val:= .bool true) qE J J J J (fun w hs=> ?_) ?_;exact cZ w;(refine aA1 vq (aA1 vq (aE (aQ ?_))));refine aA2 wq qF fun w hs=> ?_;exact⟨J,hs.chg0⟩
  ·obtain rfl:=hc2 hck;rcases hcv with h|h|h|h
   ·exact absurd h hck
   ·subst h;(refine aD (aB ?_);refine aM qE J J J ?_);refine aI (val:= .tuple #[.slice none 0 0,.int .i64 (cG l)]) qE J J J J (fun w hs=> ?_) ?_;exact drop_no w 0 w.heap.size l (.slice ua l.runs.length uc) (bP hs (v:= .slice ua l.runs.length uc) (t:=29) (l:=l.runs) qF J) hlen (by rw[hckE];decide);rw[hckE];have hpn:plA l=[]:=by unfold plA;rw[if_neg (by rw[hagE];decide)]
    have hon:ordN l=0:=by unfold ordN;rw[if_neg (by rw[hagE];decide)]
    have hfn:firA l=[]:=by unfold firA;rw[if_neg (by rw[hagE];decide)]
    (refine aA1 vq (aA7 yq (aA7 yq (aA1 vq (aA1 vq (aE (aD (aD (aB (aA1 vq (aA1 vq (aB1 yq qG ?_)))))))))));refine aA1 vq (aC J (aA1 vq (aC J (aB0 yq qG (aC J (aA1 vq (aC J (aA1 vq (aC J (aA1 vq (aC J ?_)))))))))));refine aB3 yq qG (aC J (aA1 vq (aA1 vq (aE (aF J (aJ (aD (aD (aB (aA1 vq (aA9 yq qG ?_)))))))))));refine aE (aF J (aJ (aD (aB ?_))));refine aM qE J J J ?_)
    refine bB (β:=Value) qE [] _ M0 J J J J (Sp.refl _) qJ (fun w' hs=>kB w' 0 w'.heap.size l (.slice ua l.runs.length uc) (bP hs (v:= .slice ua l.runs.length uc) (t:=29) (l:=l.runs) qF J) hlen) ?_;rintro v151 _ rfl;dsimp only[List.cons_append,List.nil_append];rw[hagE];refine bW (fun w hs=>hs.slice2 (v:=v151) qF) ?_;rintro⟨a151,q151,rfl⟩;(refine aA1 vq (aA7 yq (aA7 yq (aA1 vq (aA1 vq (aE (aD (aB ?_)))))));refine aM qE J J J ?_);refine aI (val:= .tuple #[.int .i64 (ordN l:Nat),.int .i64 (bQ l)]) qE J J J J (fun w hs=> ?_) ?_;exact jP w 0 w.heap.size l (.slice ua l.runs.length uc) (bP hs (v:= .slice ua l.runs.length uc) (t:=29) (l:=l.runs) qF J) hlen;rw[hagE];(refine aA1 vq (aA7 yq (aA7 yq (aA1 vq (aA1 vq (aE (aD (aB ?_)))))));refine aM qE J J J ?_);refine bB (β:=Value) qE [] _ M0 J J J J (Sp.refl _) qJ (fun w' hs=>mG w' 0 w'.heap.size l (.slice ua l.runs.length uc) (bP hs (v:= .slice ua l.runs.length uc) (t:=29) (l:=l.runs) qF J) hlen) ?_;rintro v161 _ rfl;dsimp only[List.cons_append,List.nil_append];rw[hagE];refine bW (fun w hs=>hs.slice2 (v:=v161) qF) ?_;rintro⟨a161,q161,rfl⟩;rw[hpn,hon,hfn];dsimp only[List.length_nil];(refine aA1 vq (aA7 yq (aA7 yq (aA1 vq (aA1 vq (aE (aD (aD (aB (aA1 vq (aA1 vq (aB1 yq qG ?_)))))))))));refine aA1 vq (aC J (aA1 vq (aC J (aA1 vq (aC J (aB1 yq qG (aA1 vq (aA1 vq (aC J (aA1 vq (aC J ?_)))))))))));refine aA1 vq (aC J (aB1 yq qG (aA1 vq (aE (aF J (aJ (aD (aD (aB (aA1 vq (aB0 yq qG ?_)))))))))));refine aE (aH J (aD (aB ?_)));(iterate 4 refine aA1 vq ?_);refine aA4 xq qG qG (aA8 yq qG (aA1 vq (aC J (aA1 vq (aC J (aA8 yq qG (aA1 vq (aA1 vq (aC J ?_)))))))));refine aM qE J J J ?_;refine aC J ?_;refine aM qE J J J ?_;refine aC J ?_);refine aI (val:= .bool true) qE J J J J (fun w hs=> ?_) ?_;exact iD w 0 w.heap.size lo hi l (.slice ua l.runs.length uc) (.slice va l.runs.length vc) (bP hs (v:= .slice ua l.runs.length uc) (t:=29) (l:=l.runs) qF J) (RdE.keep h hs.chg0) qG;(refine aA1 vq (aA1 vq (aC J ?_)));refine aI (val:= .bool true) qE J J J J (fun w hs=> ?_) ?_;exact cZ w;(refine aA1 vq (aA1 vq (aE (aQ ?_))));refine aA2 wq qF fun w hs=> ?_;exact⟨J,hs.chg0⟩
   ·subst h;(refine aD (aB ?_);refine aM qE J J J ?_);refine aI (val:= .tuple #[.slice none 0 0,.int .i64 (cG l)]) qE J J J J (fun w hs=> ?_) ?_;exact drop_no w 0 w.heap.size l (.slice ua l.runs.length uc) (bP hs (v:= .slice ua l.runs.length uc) (t:=29) (l:=l.runs) qF J) hlen (by rw[hckE];decide);rw[hckE];have hpn:plA l=[]:=by unfold plA;rw[if_neg (by rw[hagE];decide)]
    have hon:ordN l=0:=by unfold ordN;rw[if_neg (by rw[hagE];decide)]
    have hfn:firA l=[]:=by unfold firA;rw[if_neg (by rw[hagE];decide)]
    (refine aA1 vq (aA7 yq (aA7 yq (aA1 vq (aA1 vq (aE (aD (aD (aB (aA1 vq (aA1 vq (aB1 yq qG ?_)))))))))));refine aA1 vq (aC J (aA1 vq (aC J (aB0 yq qG (aC J (aA1 vq (aC J (aA1 vq (aC J (aA1 vq (aC J ?_)))))))))));refine aB3 yq qG (aC J (aA1 vq (aA1 vq (aE (aF J (aJ (aD (aD (aB (aA1 vq (aA9 yq qG ?_)))))))))));refine aE (aF J (aJ (aD (aB ?_))));refine aM qE J J J ?_)
    refine bB (β:=Value) qE [] _ M0 J J J J (Sp.refl _) qJ (fun w' hs=>kB w' 0 w'.heap.size l (.slice ua l.runs.length uc) (bP hs (v:= .slice ua l.runs.length uc) (t:=29) (l:=l.runs) qF J) hlen) ?_;rintro v151 _ rfl;dsimp only[List.cons_append,List.nil_append];rw[hagE];refine bW (fun w hs=>hs.slice2 (v:=v151) qF) ?_;rintro⟨a151,q151,rfl⟩;(refine aA1 vq (aA7 yq (aA7 yq (aA1 vq (aA1 vq (aE (aD (aB ?_)))))));refine aM qE J J J ?_);refine aI (val:= .tuple #[.int .i64 (ordN l:Nat),.int .i64 (bQ l)]) qE J J J J (fun w hs=> ?_) ?_;exact jP w 0 w.heap.size l (.slice ua l.runs.length uc) (bP hs (v:= .slice ua l.runs.length uc) (t:=29) (l:=l.runs) qF J) hlen;rw[hagE];(refine aA1 vq (aA7 yq (aA7 yq (aA1 vq (aA1 vq (aE (aD (aB ?_)))))));refine aM qE J J J ?_);refine bB (β:=Value) qE [] _ M0 J J J J (Sp.refl _) qJ (fun w' hs=>mG w' 0 w'.heap.size l (.slice ua l.runs.length uc) (bP hs (v:= .slice ua l.runs.length uc) (t:=29) (l:=l.runs) qF J) hlen) ?_;rintro v161 _ rfl;dsimp only[List.cons_append,List.nil_append];rw[hagE];refine bW (fun w hs=>hs.slice2 (v:=v161) qF) ?_;rintro⟨a161,q161,rfl⟩;rw[hpn,hon,hfn];dsimp only[List.length_nil];(refine aA1 vq (aA7 yq (aA7 yq (aA1 vq (aA1 vq (aE (aD (aD (aB (aA1 vq (aA1 vq (aB1 yq qG ?_)))))))))));refine aA1 vq (aC J (aA1 vq (aC J (aA1 vq (aC J (aB1 yq qG (aA1 vq (aA1 vq (aC J (aA1 vq (aC J ?_)))))))))));refine aA1 vq (aC J (aB1 yq qG (aA1 vq (aE (aF J (aJ (aD (aD (aB (aA1 vq (aB0 yq qG ?_)))))))))));refine aE (aH J (aD (aB ?_)));(iterate 4 refine aA1 vq ?_);refine aA4 xq qG qG (aA8 yq qG (aA1 vq (aC J (aA1 vq (aC J (aA8 yq qG (aA1 vq (aA1 vq (aC J ?_)))))))));refine aM qE J J J ?_;refine aC J ?_;refine aM qE J J J ?_;refine aC J ?_);refine aI (val:= .bool true) qE J J J J (fun w hs=> ?_) ?_;exact iD w 0 w.heap.size lo hi l (.slice ua l.runs.length uc) (.slice va l.runs.length vc) (bP hs (v:= .slice ua l.runs.length uc) (t:=29) (l:=l.runs) qF J) (RdE.keep h hs.chg0) qG;(refine aA1 vq (aA1 vq (aC J ?_)));refine aI (val:= .bool true) qE J J J J (fun w hs=> ?_) ?_;exact cZ w;(refine aA1 vq (aA1 vq (aE (aQ ?_))));refine aA2 wq qF fun w hs=> ?_;exact⟨J,hs.chg0⟩
   ·subst h;(refine aD (aB ?_);refine aM qE J J J ?_);refine aI (val:= .tuple #[.slice none 0 0,.int .i64 (cG l)]) qE J J J J (fun w hs=> ?_) ?_;exact drop_no w 0 w.heap.size l (.slice ua l.runs.length uc) (bP hs (v:= .slice ua l.runs.length uc) (t:=29) (l:=l.runs) qF J) hlen (by rw[hckE];decide);rw[hckE];have hpn:plA l=[]:=by unfold plA;rw[if_neg (by rw[hagE];decide)]
    have hon:ordN l=0:=by unfold ordN;rw[if_neg (by rw[hagE];decide)]
    have hfn:firA l=[]:=by unfold firA;rw[if_neg (by rw[hagE];decide)]
    (refine aA1 vq (aA7 yq (aA7 yq (aA1 vq (aA1 vq (aE (aD (aD (aB (aA1 vq (aA1 vq (aB1 yq qG ?_)))))))))));refine aA1 vq (aC J (aA1 vq (aC J (aB0 yq qG (aC J (aA1 vq (aC J (aA1 vq (aC J (aA1 vq (aC J ?_)))))))))));refine aB3 yq qG (aC J (aA1 vq (aA1 vq (aE (aF J (aJ (aD (aD (aB (aA1 vq (aA9 yq qG ?_)))))))))));refine aE (aF J (aJ (aD (aB ?_))));refine aM qE J J J ?_)
    refine bB (β:=Value) qE [] _ M0 J J J J (Sp.refl _) qJ (fun w' hs=>kB w' 0 w'.heap.size l (.slice ua l.runs.length uc) (bP hs (v:= .slice ua l.runs.length uc) (t:=29) (l:=l.runs) qF J) hlen) ?_;rintro v151 _ rfl;dsimp only[List.cons_append,List.nil_append];rw[hagE];refine bW (fun w hs=>hs.slice2 (v:=v151) qF) ?_;rintro⟨a151,q151,rfl⟩;(refine aA1 vq (aA7 yq (aA7 yq (aA1 vq (aA1 vq (aE (aD (aB ?_)))))));refine aM qE J J J ?_);refine aI (val:= .tuple #[.int .i64 (ordN l:Nat),.int .i64 (bQ l)]) qE J J J J (fun w hs=> ?_) ?_;exact jP w 0 w.heap.size l (.slice ua l.runs.length uc) (bP hs (v:= .slice ua l.runs.length uc) (t:=29) (l:=l.runs) qF J) hlen;rw[hagE];(refine aA1 vq (aA7 yq (aA7 yq (aA1 vq (aA1 vq (aE (aD (aB ?_)))))));refine aM qE J J J ?_);refine bB (β:=Value) qE [] _ M0 J J J J (Sp.refl _) qJ (fun w' hs=>mG w' 0 w'.heap.size l (.slice ua l.runs.length uc) (bP hs (v:= .slice ua l.runs.length uc) (t:=29) (l:=l.runs) qF J) hlen) ?_;rintro v161 _ rfl;dsimp only[List.cons_append,List.nil_append];rw[hagE];refine bW (fun w hs=>hs.slice2 (v:=v161) qF) ?_;rintro⟨a161,q161,rfl⟩;rw[hpn,hon,hfn];dsimp only[List.length_nil];(refine aA1 vq (aA7 yq (aA7 yq (aA1 vq (aA1 vq (aE (aD (aD (aB (aA1 vq (aA1 vq (aB1 yq qG ?_)))))))))));refine aA1 vq (aC J (aA1 vq (aC J (aA1 vq (aC J (aB1 yq qG (aA1 vq (aA1 vq (aC J (aA1 vq (aC J ?_)))))))))));refine aA1 vq (aC J (aB1 yq qG (aA1 vq (aE (aF J (aJ (aD (aD (aB (aA1 vq (aB0 yq qG ?_)))))))))));refine aE (aH J (aD (aB ?_)));(iterate 4 refine aA1 vq ?_);refine aA4 xq qG qG (aA8 yq qG (aA1 vq (aC J (aA1 vq (aC J (aA8 yq qG (aA1 vq (aA1 vq (aC J ?_)))))))));refine aM qE J J J ?_;refine aC J ?_;refine aM qE J J J ?_;refine aC J ?_);refine aI (val:= .bool true) qE J J J J (fun w hs=> ?_) ?_;exact iD w 0 w.heap.size lo hi l (.slice ua l.runs.length uc) (.slice va l.runs.length vc) (bP hs (v:= .slice ua l.runs.length uc) (t:=29) (l:=l.runs) qF J) (RdE.keep h hs.chg0) qG;(refine aA1 vq (aA1 vq (aC J ?_)));refine aI (val:= .bool true) qE J J J J (fun w hs=> ?_) ?_;exact cZ w;(refine aA1 vq (aA1 vq (aE (aQ ?_))));refine aA2 wq qF fun w hs=> ?_;exact⟨J,hs.chg0⟩
def frB(X:List (List Nat))(k i m:Nat):Bool:= !((X.take m).any fun L=>decide (L.take k=(X.getD i []).take k))
theorem frB_succ(X:List (List Nat))(k i m:Nat)(hm:m<X.length):frB X k i (m+1)=(frB X k i m&& !decide (X[m].take k=(X.getD i []).take k)):=by
 unfold frB;rw[List.take_succ_eq_append_getElem hm,List.any_append,Bool.not_or];simp
theorem frB_mono(X:List (List Nat))(k i m j:Nat)(h:frB X k i m=false)(hj:m≤j):frB X k i j=false:=by
 unfold frB at *;simp only[Bool.not_eq_false',List.any_eq_true] at *;obtain⟨L,h1,h2⟩:=h;exact⟨L,List.take_subset_take_left X hj h1,h2⟩
theorem preN_succ(X:List (List Nat))(k i:Nat)(hi:i<X.length):preN (X.take (i+1)) k=preN (X.take i) k+(if frB X k i i=true then 1 else 0):=by
 unfold preN;rw[List.take_succ_eq_append_getElem hi,List.map_append,List.map_cons,List.map_nil,dl_snoc];have hx:X.getD i []=X[i]:=by rw[List.getD_eq_getElem?_getD,List.getElem?_eq_getElem hi,Option.getD_some]
 have h:frB X k i i=true↔X[i].take k∉dl ((X.take i).map (·.take k)):=by
  unfold frB;rw[pK,hx];simp only[Bool.not_eq_true',List.any_eq_false,decide_eq_true_eq,List.mem_map,not_exists,not_and]
 split
 ·rename_i h1
  rw[if_neg (fun h2=>h.1 h2 h1)]
  rfl
 ·rename_i h1
  rw[if_pos (h.2 h1),List.length_append]
  rfl
theorem take_eq_succ{A B:List Nat}{p:Nat}(ha:p<A.length)(hb:p<B.length):decide (A.take (p+1)=B.take (p+1))=(decide (A.take p=B.take p)&&decide (A[p]=B[p])):=by
 rw[List.take_succ_eq_append_getElem ha,List.take_succ_eq_append_getElem hb,Bool.eq_iff_iff,Bool.and_eq_true,decide_eq_true_iff,decide_eq_true_iff,decide_eq_true_iff];constructor
 ·intro h;have:=List.append_inj h (by simp;omega);exact⟨this.1,by simpa using this.2⟩
 ·rintro⟨h1,h2⟩;rw[h1,h2]
theorem dec_comm(A B:List Nat)(p:Nat):decide (A.take p=B.take p)=decide (B.take p=A.take p):=by
 by_cases h:A.take p=B.take p<;>simp[h,eq_comm]
theorem rprefixes_ca(w:World)(lo hi:Nat)(v:Value)(X:List (List Nat))(k:Nat)(h:RdII w lo hi v (X.map chI))(hX:X.length≤1000000)(hk:∀L∈X,k≤L.length)(hkm:k≤1000) :
  Ca Tryz.prog 100 [v,.int .i64 k] w fun x w'=>x= .int .i64 (preN X k:Nat)∧Chg [] w w':=by
 obtain⟨va,vc,rfl,hsv⟩:=RdII.outI h;have hXm:(X.map chI).length=X.length:=by simp
 rw[hXm] at hsv h ⊢;refine cM (Sat.nil w M0) Tryz.func100 J (by simp[Tryz.ntmps100]) ?_;(refine aD (aB (aA1 vq (aE (aD (aB (aA1 vq (aE (aD (aD (aB (aA1 vq ?_)))))))))));refine aE (aK ?_));refine bD (σ:=Nat) (fun i=>i≤X.length) (fun i=>X.length-i) (fun i=>[(0,.slice va X.length vc),(1,.int .i64 k),(5,.int .i64 (preN (X.take i) k:Nat)),(6,.int .i64 i)]) (fun _=>[]) 0 qG ⟨J,J,J,J,trivial⟩ qF ?_;rintro i hi' K hK;(refine aD (aD (aB ?_));(iterate 4 refine aA1 vq ?_);refine aE ?_);refine cP J (fun hc=> ?_) (fun hc=> ?_)
 ·have hi2:i<X.length:=by omega
  clear hc;have hps:=preN_succ X k i hi2
  have hpb:preN (X.take i) k≤i:=by
   unfold preN;refine Nat.le_trans (iJ (D:=(X.take i).map (·.take k)) (dl_nodup _) fun x hx=>(pK _).1 hx) ?_;simp;omega
  have hx:X.getD i []=X[i]:=by rw[List.getD_eq_getElem?_getD,List.getElem?_eq_getElem hi2,Option.getD_some]
  obtain⟨g,o,rfl⟩:=hsv qG;(refine aJ (aD (aK (aD (aB (aA1 vq (aE (aD (aD (aB (aA1 vq (aE ?_)))))))))));refine aK ?_);refine bD (σ:=Nat) (fun m=>m≤i) (fun m=>i-m) (fun m=>[(0,.slice (some ⟨g,o,none⟩) X.length vc),(1,.int .i64 k),(5,.int .i64 (preN (X.take i) k:Nat)),(6,.int .i64 i),(7,.bool (frB X k i m)),(8,.int .i64 m)]) (fun _=>[]) 0 qG ⟨J,J,J,J,J,J,trivial⟩ qF ?_;rintro m hm K2 hK2;by_cases hmi:m<i
  ·cases hf:frB X k i m with
   | false=>
    have hff:=frB_mono X k i m i hf hm;rw[hff] at hps;(refine aD (aD (aB (aA1 vq (aA1 vq (dU qE J J J qG (aA1 vq (aC J (aA1 vq (aA1 vq (aE (aF J ?_)))))))))));refine aZ _ J (aD (aB (aA1 vq (aE (aF J (aJ (aW (aB (aA1 vq (aA4 xq qG qG (aA1 vq ?_)))))))))));refine aE ?_);exact hK (i+1) _ _ qG qG ⟨J,J,by rw[hps];rfl,J,trivial⟩ qF
   | true=>
    have hm2:m<X.length:=by omega
    have hfs:=frB_succ X k i m hm2;rw[hf,Bool.true_and,hx,dec_comm] at hfs;have hki:=hk X[i] (List.getElem_mem hi2);have hkm2:=hk X[m] (List.getElem_mem hm2);(refine aD (aD (aB (aA1 vq (aA1 vq (dU qE J J J qG (aA1 vq (aC J (aA1 vq (aA1 vq (aE (aH J ?_)))))))))));refine aJ (aD (aK (aD (aB (aA1 vq (aE (aD (aD (aB (aA1 vq (aE ?_)))))))))));refine aK ?_);refine bD (σ:=Nat) (fun p=>p≤k) (fun p=>k-p) (fun p=>[(0,.slice (some ⟨g,o,none⟩) X.length vc),(1,.int .i64 k),(5,.int .i64 (preN (X.take i) k:Nat)),(6,.int .i64 i),(8,.int .i64 m),(9,.bool (decide (X[i].take p=X[m].take p))),(10,.int .i64 p)]) (fun _=>[]) 0 qG ⟨J,J,J,J,J,J,J,trivial⟩ qF ?_;rintro p hp K3 hK3;(refine aD (aD (aB ?_));(iterate 3 refine aA1 vq ?_);refine aE ?_);refine cP J (fun hc=> ?_) (fun hc=> ?_)
    ·have hp2:p<k:=by omega
     clear hc;have hpi:p<X[i].length:=by omega
     have hpm:p<X[m].length:=by omega
     have hts:=take_eq_succ hpi hpm;cases hb:decide (X[i].take p=X[m].take p) with
     | false=>
      rw[hb,Bool.false_and] at hts;(refine aJ (aD (aK ?_)));refine bY _ [] (Sp.refl _) qI qI ?_;(refine aB2 yq (aB2 yq ?_);(iterate 15 refine eF J J J ?_);refine aB2 yq (aB2 yq (aT (aW (aB (aA1 vq (aA4 xq qG qG (aA1 vq (aE ?_)))))))));exact hK3 (p+1) _ _ qG qG ⟨J,J,J,J,J,by rw[hts];rfl,J,trivial⟩ qF
     | true=>
      rw[hb,Bool.true_and] at hts;have hi3:i<(X.map chI).length:=by omega
      have hm3:m<(X.map chI).length:=by omega
      obtain⟨g1,o1,c1,hr1,hc1⟩:=RdII.rowS h i hi3 (m:=X[i].length) (by simp[bT]) qG;obtain⟨g2,o2,c2,hr2,hc2⟩:=RdII.rowS h m hm3 (m:=X[m].length) (by simp[bT]) qG;have e1:(X.map chI)[i]=chI X[i]:=by simp
      have e2:(X.map chI)[m]=chI X[m]:=by simp
      rw[e1] at hr1;rw[e2] at hr2;obtain⟨xi,hxi⟩:∃x,X[i][p]=x:=⟨_,rfl⟩;obtain⟨xm,hxm⟩:∃x,X[m][p]=x:=⟨_,rfl⟩;rw[hxi,hxm] at hts;have hpi2:p<(chI X[i]).length:=by rw[bT];exact hpi
      have hpm2:p<(chI X[m]).length:=by rw[bT];exact hpm
      (refine aJ (aD (aK ?_)))
      refine bY _ [] (Sp.refl _) qI qI ?_;(refine aB2 yq (aB2 yq (aN J (aB2 yq (aN J (aB2 yq (aN J ?_)))))));refine aB5 uq qG qG ?_;(refine aN J ?_);refine bA (v:= .slice (some ⟨g1,o1,none⟩) X[i].length c1) qE J J J (fun w hs=>hc1 w hs.chg0) ?_;(refine aN J (aB2 yq (aN J ?_)));refine aB5 uq qG qG ?_;(refine aN J ?_)
      refine bA (v:= .int .i64 xi) qE J J J (fun w hs=>by
       have:=RdI.at (RdE.keep hr1 hs.chg0) p hpi2;rw[chI_at hpi hpi2,hxi] at this;exact this) ?_
      (refine aN J (aB2 yq (aN J (aB2 yq (aN J ?_)))))
      refine aB5 uq qG qG ?_;(refine aN J ?_);refine bA (v:= .slice (some ⟨g2,o2,none⟩) X[m].length c2) qE J J J (fun w hs=>hc2 w hs.chg0) ?_;(refine aN J (aB2 yq (aN J ?_)));refine aB5 uq qG qG ?_;(refine aN J ?_)
      refine bA (v:= .int .i64 xm) qE J J J (fun w hs=>by
       have:=RdI.at (RdE.keep hr2 hs.chg0) p hpm2;rw[chI_at hpm hpm2,hxm] at this;exact this) ?_
      by_cases hxe:xi=xm
      ·rw[decide_eq_true hxe] at hts;(refine aN J (qf_eqlT qE J J J qG (aB2 yq (aB2 yq (aT (aW (aB (aA1 vq (aA4 xq qG qG (aA1 vq (aE ?_)))))))))));exact hK3 (p+1) _ _ qG qG ⟨J,J,J,J,J,by rw[hts];rfl,J,trivial⟩ qF
      ·rw[decide_eq_false hxe] at hts;(refine aN J (oI qE J J J qG (aB2 yq (aB2 yq (aT (aW (aB (aA1 vq (aA4 xq qG qG (aA1 vq (aE ?_)))))))))));exact hK3 (p+1) _ _ qG qG ⟨J,J,J,J,J,by rw[hts];rfl,J,trivial⟩ qF
    ·obtain rfl:p=k:=by omega
     clear hc hK3 hp;cases hb:decide (X[i].take p=X[m].take p) with
     | true=>
      rw[hb] at hfs;(refine aZ _ J (aB ?_);(iterate 3 refine aA1 vq ?_);refine aE (aW (aB (aA1 vq (aA4 xq qG qG (aA1 vq (aE ?_)))))));exact hK2 (m+1) _ _ qG qG ⟨J,J,J,J,by rw[hfs];rfl,J,trivial⟩ qF
     | false=>
      rw[hb] at hfs;(refine aZ _ J (aB ?_);(iterate 3 refine aA1 vq ?_);refine aE (aW (aB (aA1 vq (aA4 xq qG qG (aA1 vq (aE ?_)))))));exact hK2 (m+1) _ _ qG qG ⟨J,J,J,J,by rw[hfs];rfl,J,trivial⟩ qF
  ·obtain rfl:m=i:=by omega
   (refine aD (aD (aB (aA1 vq (aA1 vq (cS qE J J J qG (aA1 vq (aA3 zq (aA1 vq (aE (aF J (aZ _ J ?_)))))))))));refine aD (aB (aA1 vq (aE ?_))))
   cases hb:frB X k m m with
   | true=>
    rw[hb] at hps;(refine aH J (aB (aA1 vq (aA4 xq qG qG (aA1 vq (aE (aW (aB (aA1 vq (aA4 xq qG qG (aA1 vq (aE ?_))))))))))));exact hK (m+1) _ _ qG qG ⟨J,J,by rw[hps];rfl,J,trivial⟩ qF
   | false=>
    rw[hb] at hps;(refine aF J (aJ (aW (aB (aA1 vq (aA4 xq qG qG (aA1 vq (aE ?_))))))));exact hK (m+1) _ _ qG qG ⟨J,J,by rw[hps];rfl,J,trivial⟩ qF
 ·obtain rfl:i=X.length:=by omega
  rw[List.take_length];(refine aZ _ J (aD (aB (aA1 vq (aA1 vq (aE (aQ ?_)))))));refine aA2 wq qF fun w hs=> ?_
  exact⟨J,hs.chg0⟩
def RowsR(w:World)(lo hi:Nat)(Z:List (Value×List Int)):Prop:=∀p∈Z,RdI w lo hi p.1 p.2
theorem RowsR.keep{w w':World}{lo hi:Nat}{Z:List (Value×List Int)}(h:RowsR w lo hi Z)(c:Chg [] w w'):RowsR w' lo hi Z:=fun p hp=>RdE.keep (h p hp) c
theorem own_rd2{w0 w:World}{M:Nat→Prop}{H:List Ck}{t n lo hi:Nat}{v:Value}{Z:List (Value×List Int)}(hs:Sat w0 M H w)(hm:Ck.ow v t 1 n (Z.map (·.1))∈H)(hZ:RowsR w lo hi Z)(hh:hi≤w.heap.size):RdII w 0 w.heap.size v (Z.map (·.2)):=by
 have h1:=hs.mem hm;have hn:n=(Z.map (·.1)).length:=by have:=h1.1;omega
 refine⟨Z.map (·.1),RdE.one (by rw[←hn];exact pZ h1) (fun e he=>by
  obtain⟨p,hp,rfl⟩:=List.mem_map.1 he;obtain⟨a,c,e,_⟩:=RdI.outI (hZ p hp);rw[e];rfl),by simp,fun i hi hi'=> ?_⟩
 have hi2:i<Z.length:=by simpa using hi
 simp only[List.getElem_map];exact RdE.wide (hZ _ (List.getElem_mem hi2)) (Nat.zero_le _) hh
theorem idx_first:∀{L:List Nat} {p:Nat} (h:p<L.length),L.idxOf L[p]≤p
 | x::L,0,_=>by simp
 | x::L,p+1,h=>by
  have ih:=idx_first (L:=L) (p:=p) (by simpa using h);rw[List.getElem_cons_succ,List.idxOf_cons];cases hx:(x==L[p]'(by simpa using h))<;>simp<;>omega
theorem bf_yes{a b p:Nat}{L:List Nat}(hp:p<L.length)(ha:p≤L.idxOf a)(hb:p≤L.idxOf b)(hn:L[p]≠b)(hx:L[p]=a):bfB a b L=true:=by
 unfold bfB
 have h1:L.idxOf a≤p:=by
  rw[←hx];exact idx_first hp
 have h2:L.idxOf b≠p:=fun e=>hn (by
  have h3:L.idxOf b<L.length:=by omega
  have:=List.getElem_idxOf h3;simp only[e] at this;exact this)
 rw[decide_eq_true_iff];omega
theorem bf_no{a b p:Nat}{L:List Nat}(hp:p<L.length)(ha:p≤L.idxOf a)(hx:L[p]=b):bfB a b L=false:=by
 unfold bfB
 have h1:L.idxOf b≤p:=by
  rw[←hx];exact idx_first hp
 rw[decide_eq_false_iff_not];omega
theorem idx_next{a p:Nat}{L:List Nat}(hp:p<L.length)(ha:p≤L.idxOf a)(hx:L[p]≠a):p+1≤L.idxOf a:=by
 have h2:L.idxOf a≠p:=fun e=>hx (by
  have h3:L.idxOf a<L.length:=by omega
  have:=List.getElem_idxOf h3;simp only[e] at this;exact this)
 omega
theorem bf_end{a b:Nat}{L:List Nat}(ha:L.length≤L.idxOf a):bfB a b L=false:=by
 unfold bfB;have:=List.idxOf_le_length (l:=L) (a:=b);rw[decide_eq_false_iff_not];omega
theorem RdII.sel{w:World}{lo hi:Nat}{v:Value}{ll:List (List Int)}(h:RdII w lo hi v ll):∃sel:List (Value×List Int),RdE w lo hi v 1 (sel.map (·.1))∧RowsR w lo hi sel∧sel.map (·.2)=ll:=by
 obtain⟨vs,h1,h2,h3⟩:=h;refine⟨vs.zip ll,by rw[show(vs.zip ll).map (·.1)=vs from List.map_fst_zip qG];exact h1,fun p hp=> ?_,List.map_snd_zip qG⟩;obtain⟨i,hi',rfl⟩:=List.mem_iff_getElem.1 hp;have hl:(vs.zip ll).length=vs.length:=by rw[List.length_zip,h2,Nat.min_self]
 rw[List.getElem_zip];exact h3 i qG qG
theorem sel_rd{w:World}{lo hi:Nat}{v:Value}{sel:List (Value×List Int)}(h:RdE w lo hi v 1 (sel.map (·.1)))(hr:RowsR w lo hi sel):RdII w lo hi v (sel.map (·.2)):=⟨sel.map (·.1),h,by simp,fun i hi hi'=>by
 have hi2:i<sel.length:=by simpa using hi
 simp only[List.getElem_map];exact hr _ (List.getElem_mem hi2)⟩
theorem sel_at{w:World}{lo hi g o n c:Nat}{X:List (List Nat)}{sel:List (Value×List Int)}{u:Value}(h:RdE w lo hi (.slice (some ⟨g,o,none⟩) n c) 1 (sel.map (·.1)))(hr:RowsR w lo hi sel)(hX:sel.map (·.2)=X.map chI){i:Nat}(hi':i<X.length)(hc:w.cell? ⟨g,o+i*1,none⟩=some u):(u,chI X[i])∈sel:=by
 have hsl:sel.length=X.length:=by have:=congrArg List.length hX;simpa using this
 have hi2:i<sel.length:=by omega
 have hr1:=hr _ (List.getElem_mem hi2);obtain⟨a,cc,e,_⟩:=RdI.outI hr1;have h2:=RdE.cell1 h i (by simpa using hi2) (by simp only[List.getElem_map];rw[e];rfl);rw[hc] at h2;have h3:u=sel[i].1:=by simpa using Option.some.inj h2
 have h4:sel[i].2=chI X[i]:=by
  have h5:(sel.map (·.2))[i]? =(X.map chI)[i]? :=by rw[hX]
  rw[List.getElem?_map,List.getElem?_map,List.getElem?_eq_getElem hi2,List.getElem?_eq_getElem hi',Option.map_some,Option.map_some] at h5;exact Option.some.inj h5
 rw[h3,←h4];exact List.getElem_mem hi2
theorem rhalf_ca(w:World)(lo hi:Nat)(v:Value)(X:List (List Nat))(sel:List (Value×List Int))(a b:Nat)(hE:RdE w lo hi v 1 (sel.map (·.1)))(hR:RowsR w lo hi sel)(hSX:sel.map (·.2)=X.map chI)(hX:X.length≤1000000)(hL:∀L∈X,L.length≤1000)(hp:∀L∈X,0<L.length) :
  Ca Tryz.prog 105 [v,.int .i64 a,.int .i64 b] w fun x w'=>∃y:Value×List (Value×List Int),(x=y.1∧(∀p∈y.2,p∈sel)∧y.2.map (·.2)=(X.filter (bfB a b)).map chI)∧Sat w M0 [.ow y.1 22 1 y.2.length (y.2.map (·.1))] w':=by
 have h:=sel_rd hE hR;rw[hSX] at h;obtain⟨va,vc,rfl,hsv⟩:=RdII.outI h;have hXm:(X.map chI).length=X.length:=by simp
 rw[hXm] at hsv h hE ⊢;refine cM (Sat.nil w M0) Tryz.func105 J (by simp[Tryz.ntmps105]) ?_;(refine aD (aB (aA1 vq (aE (aD (aB (aA1 vq (aE (aD (aD (aB (aA1 vq ?_)))))))))));refine aE (aK ?_));refine cQ (H':=[.ow (.slice none 0 0) 22 1 0 []]) (fun w' hs=>(Sat.ownil hs 22 1).sp qF) ?_;refine bD (σ:=Nat×Value×List (Value×List Int)) (fun z=>z.1≤X.length∧z.2.2.length≤z.1∧(∀p∈z.2.2,p∈sel)∧z.2.2.map (·.2)=((X.take z.1).filter (bfB a b)).map chI) (fun z=>X.length-z.1) (fun z=>[(0,.slice va X.length vc),(1,.int .i64 a),(2,.int .i64 b),(7,z.2.1),(8,.int .i64 z.1)]) (fun z=>[.ow z.2.1 22 1 z.2.2.length (z.2.2.map (·.1))]) (0,.slice none 0 0,[]) ⟨Nat.zero_le _,Nat.zero_le _,fun p hp=>absurd hp (by simp),J⟩ ⟨J,J,J,J,J,trivial⟩ qF ?_;rintro⟨i,u,Z⟩ ⟨hi',hzl,hzr,hzm⟩ K hK;dsimp only at hi' hzl hzr hzm hK ⊢;(refine aD (aD (aB ?_));(iterate 4 refine aA1 vq ?_);refine aE ?_);refine cP J (fun hc=> ?_) (fun hc=> ?_)
 ·have hi2:i<X.length:=by omega
  clear hc;have hLi:=hL X[i] (List.getElem_mem hi2);have hpi:=hp X[i] (List.getElem_mem hi2)
  have htk:(X.take (i+1)).filter (bfB a b)=(X.take i).filter (bfB a b)++(if bfB a b X[i]=true then[X[i]] else[]):=by
   rw[List.take_succ_eq_append_getElem hi2,List.filter_append];cases hc:bfB a b X[i]<;>simp[hc]
  obtain⟨g,o,rfl⟩:=hsv qG;have hi3:i<(X.map chI).length:=by omega
  obtain⟨g1,o1,c1,hr1,hc1⟩:=RdII.rowS h i hi3 (m:=X[i].length) (by simp[bT]) qG;have e1:(X.map chI)[i]=chI X[i]:=by simp
  rw[e1] at hr1;have hcl:=bT X[i];have hse:=sel_at hE hR hSX hi2 (hc1 w (Chg.refl _ _));have hno:bfB a b X[i]=false→((X.take (i+1)).filter (bfB a b)).map chI=Z.map (·.2):=fun h=>by rw[htk,h,hzm];simp
  have hyes:bfB a b X[i]=true→((X.take (i+1)).filter (bfB a b)).map chI=(Z++[((.slice (some ⟨g1,o1,none⟩) X[i].length c1:Value),chI X[i])]).map (·.2):=fun h=>by rw[htk,if_pos h,List.map_append,List.map_append,hzm];rfl
  clear htk hzm;(refine aJ (aD (aK (aD (aB (aA1 vq (aE (aK ?_))))))));refine bD (σ:=Nat) (fun p=>p≤X[i].length∧p≤X[i].idxOf a∧p≤X[i].idxOf b) (fun p=>X[i].length-p) (fun p=>[(0,.slice (some ⟨g,o,none⟩) X.length vc),(1,.int .i64 a),(2,.int .i64 b),(7,u),(8,.int .i64 i),(9,.int .i64 p)]) (fun _=>[.ow u 22 1 Z.length (Z.map (·.1))]) 0 ⟨by omega,by omega,by omega⟩ ⟨J,J,J,J,J,J,trivial⟩ qF ?_;rintro p ⟨hpl,hpa,hpb⟩ K2 hK2;(refine aD (aD (aB ?_));(iterate 3 refine aA1 vq ?_));refine aA5 uq qG qG ?_;refine bC (v:= .slice (some ⟨g1,o1,none⟩) X[i].length c1) qE J J J (fun w hs=>hc1 w hs.chg0) ?_;(refine aA1 vq (aA1 vq (aE ?_)));refine cP J (fun hc=> ?_) (fun hc=> ?_)
  ·have hp2:p<X[i].length:=by omega
   clear hc;obtain⟨x,hx⟩:∃x,X[i][p]=x:=⟨_,rfl⟩;have hp3:p<(chI X[i]).length:=by rw[bT];exact hp2
   (refine aJ (aD (aK (aD (aD (aB (aA1 vq (aA1 vq ?_))))))))
   refine aA5 uq qG qG ?_;refine bC (v:= .slice (some ⟨g1,o1,none⟩) X[i].length c1) qE J J J (fun w hs=>hc1 w hs.chg0) ?_;(refine aA1 vq ?_);refine aA5 uq qG qG ?_
   refine bC (v:= .int .i64 x) qE J J J (fun w hs=>by
    have:=RdI.at (RdE.keep hr1 hs.chg0) p hp3;rw[chI_at hp2 hp3,hx] at this;exact this) ?_
   by_cases hxb:x=b
   ·have hf:=bf_no hp2 hpa (hx.trans hxb);subst hxb;(refine aA1 vq (aA8 yq qG (aE (aH J (aZ _ J (aW (aB (aA1 vq (aA4 xq qG qG (aA1 vq (aE ?_)))))))))));exact hK (i+1,u,Z) _ _ ⟨by simp only;omega,by simp only;omega,hzr,(hno hf).symm⟩ (by simp only;omega) ⟨J,J,J,J,J,trivial⟩ qF
   ·
    (refine aA1 vq (aA9 yq qG (aE (aF J (aJ (aD (aB (aA1 vq (aA1 vq ?_)))))))))
    refine aA5 uq qG qG ?_;refine bC (v:= .slice (some ⟨g1,o1,none⟩) X[i].length c1) qE J J J (fun w hs=>hc1 w hs.chg0) ?_;(refine aA1 vq ?_);refine aA5 uq qG qG ?_
    refine bC (v:= .int .i64 x) qE J J J (fun w hs=>by
     have:=RdI.at (RdE.keep hr1 hs.chg0) p hp3;rw[chI_at hp2 hp3,hx] at this;exact this) ?_
    by_cases hxa:x=a
    ·have hf:=bf_yes hp2 hpa hpb (by rw[hx];exact hxb) (hx.trans hxa);subst hxa;(refine aA1 vq (aA8 yq qG (aE (aH J (aD (aB ?_)))));(iterate 3 refine aA1 vq ?_));refine aA5 uq qG qG ?_;refine bC (v:= .slice (some ⟨g1,o1,none⟩) X[i].length c1) qE J J J (fun w hs=>hc1 w hs.chg0) ?_;refine cI 22 [.slice (some ⟨g1,o1,none⟩) X[i].length c1] J qI J (fun bm=> ?_);refine bU (q:=1) (news:=[.slice (some ⟨g1,o1,none⟩) X[i].length c1]) slII J J J (fun v'=>by repeat constructor) (fun w' hs=>⟨_,_,Blk.rdN (hs.blk (b:=bm) qF) J⟩) (by simp[dA]) qG qG (fun u4=> ?_);(refine aA1 vq (aE (aZ _ J (aW (aB (aA1 vq (aA4 xq qG qG (aA1 vq (aE ?_)))))))));have elen:(Z++[((.slice (some ⟨g1,o1,none⟩) X[i].length c1:Value),chI X[i])]).length=Z.length+1:=by simp
     exact hK (i+1,u4,Z++[((.slice (some ⟨g1,o1,none⟩) X[i].length c1:Value),chI X[i])]) _ _ ⟨by simp only;omega,by simp only[elen];omega,fun q hq=>by
      rcases List.mem_append.1 hq with hq|hq
      ·exact hzr q hq
      ·rw[List.mem_singleton.1 hq];exact hse,(hyes hf).symm⟩ (by simp only;omega) ⟨rfl,rfl,rfl,rfl,rfl,trivial⟩ (by dsimp only;rw[elen,List.map_append,List.map_singleton];repeat constructor)
    ·(refine aA1 vq (aA9 yq qG (aE (aF J (aJ (aW (aB (aA1 vq (aA4 xq qG qG (aA1 vq (aE ?_)))))))))))
     exact hK2 (p+1) _ _ ⟨by omega,idx_next hp2 hpa (by rw[hx];exact hxa),idx_next hp2 hpb (by rw[hx];exact hxb)⟩ qG ⟨J,J,J,J,J,J,trivial⟩ qF
  ·have hf:bfB a b X[i]=false:=bf_end qG;clear hc hK2;(refine aZ _ J (aW (aB (aA1 vq (aA4 xq qG qG (aA1 vq (aE ?_)))))));exact hK (i+1,u,Z) _ _ ⟨by simp only;omega,by simp only;omega,hzr,(hno hf).symm⟩ (by simp only;omega) ⟨J,J,J,J,J,trivial⟩ qF
 ·obtain rfl:i=X.length:=by omega
  clear hc hK;rw[List.take_length] at hzm;(refine aZ _ J (aD (aB (aA1 vq (aA1 vq (aE (aQ ?_)))))));refine aA2 wq qF fun w hs=> ?_
  exact⟨(u,Z),⟨J,hzr,hzm⟩,hs.sp qF⟩
theorem rhalfW_ca(w0 w:World)(c0:Chg [] w0 w)(lo hi:Nat)(v:Value)(X:List (List Nat))(a b:Nat)(h:RdII w0 lo hi v (X.map chI))(hX:X.length≤1000000)(hL:∀L∈X,L.length≤1000)(hp:∀L∈X,0<L.length) :
  Ca Tryz.prog 105 [v,.int .i64 a,.int .i64 b] w fun x w'=>∃y:Value×List (Value×List Int),(x=y.1∧RowsR w0 lo hi y.2∧y.2.map (·.2)=(X.filter (bfB a b)).map chI)∧Sat w M0 [.ow y.1 22 1 y.2.length (y.2.map (·.1))] w':=by
 obtain⟨sel,h1,h2,h3⟩:=h.sel;exact(rhalf_ca w lo hi v X sel a b (h1.keep c0) (h2.keep c0) h3 hX hL hp).mono fun x w' ⟨y,⟨e1,e2,e3⟩,e4⟩=>⟨y,⟨e1,fun p hp=>h2 p (e2 p hp),e3⟩,e4⟩
theorem half_pos{o n a b:Nat}(hn:n≤8)(ho:Ord o)(hc:NoC o n)(hi:InO o n)(ha:a<n)(hb:b<n)(hne:a≠b):0<(FL (cU o a b) n n).length↔fa o b a=false:=by
 constructor
 ·intro h;cases hf:fa o b a with
  | false=>rfl
  | true=>
   obtain⟨L,hL⟩:=List.exists_mem_of_length_pos h;rw[←lK hn hi ha hb,List.mem_filter] at hL;have h1:=((fT hn hi).1 hL.1).idx b a qG qG hf;have h2:=hL.2;unfold bfB at h2;have h3:=of_decide_eq_true h2;omega
 ·intro hf;cases hg:fa o a b with
  | true=>
   obtain⟨L,hL⟩:=fl_ne hc ho hn;have h1:=((fT hn hi).1 hL).idx a b qG qG hg;rw[←lK hn hi ha hb];refine List.length_pos_of_mem (a:=L) (List.mem_filter.2 ⟨hL,?_⟩);unfold bfB;rw[decide_eq_true_iff];exact h1.2.2
  | false=>
   have hU:Und o n a b:=⟨ho,hn,ha,hb,hne,hg,hf⟩;obtain⟨L,hL⟩:=fl_ne (hc.with hU) (ho.with qG qG) hn;exact List.length_pos_of_mem hL
theorem fl_bd{o n:Nat}(hn:n≤6):(FL o n n).length≤46656:=by
 rw[←FL_eq];exact Nat.le_trans (List.length_filter_le _ _) (pS hn)
theorem eno_no1{n k r o a b:Nat}(h:fa o a b=true):enoB n k r o a b=false:=by
 unfold enoB;rw[h];rfl
theorem eno_no2{n k r o a b:Nat}(h:fa o b a=true):enoB n k r o a b=false:=by
 unfold enoB;rw[h];cases fa o a b<;>rfl
theorem eno_und{n k r o a b:Nat}(h1:fa o a b=false)(h2:fa o b a=false):enoB n k (r+1) o a b=(decide (planO n k (cU o a b)≤r)&&decide (planO n k (cU o b a)≤r)):=by
 unfold enoB worthO;rw[h1,h2,Bool.eq_iff_iff];simp only[Bool.and_true,Bool.not_false,Bool.true_and,decide_eq_true_eq,Bool.and_eq_true];omega
theorem renough_ca(n k:Nat)(hn:n≤6)(h1:1≤n)(hk:k≤n)(r:Nat):∀(o:Nat) (w:World) (lo hi:Nat) (v:Value),r≤40→Ord o→NoC o n→InO o n→RdII w lo hi v ((FL o n n).map chI)→hi≤w.heap.size→
  Ca Tryz.prog 139 [v,.int .i64 k,.int .i64 r] w fun x w'=>x= .bool (decide (planO n k o≤r))∧Chg [] w w':=by
 induction r using Nat.strongRecOn with
 | ind r ih=>
 intro o w lo hi v hr ho hc hi' h hh;have hc0':=hc;have hX:=fl_bd (o:=o) (n:=n) hn;obtain⟨L0,hL0⟩:=fl_ne hc ho (show n≤8 by omega);have hpos:0<(FL o n n).length:=List.length_pos_of_mem hL0;have hlen:∀L∈FL o n n,L.length=n:=fun L hL=>((fT (show n≤8 by omega) hi').1 hL).len
 obtain⟨va,vc,rfl,hsv⟩:=RdII.outI h;have hXm:((FL o n n).map chI).length=(FL o n n).length:=by simp
 rw[hXm] at hsv h ⊢;obtain⟨g,q,rfl⟩:=hsv hpos;obtain⟨g0,q0,c0,hr0,hc0⟩:=RdII.rowS h 0 qG (m:=n) (by simp[bT];exact hlen _ (List.getElem_mem _)) qG;clear hsv;refine cM (Sat.nil w M0) Tryz.func139 J (by simp[Tryz.ntmps139]) ?_;(refine aD (aB (aA1 vq (aE (aD (aB (aA1 vq (aA1 vq ?_))))))));refine aI (val:= .int .i64 (preN (FL o n n) k:Nat)) qE J J J J (fun w hs=> ?_) ?_;exact rprefixes_ca w lo hi (.slice (some ⟨g,q,none⟩) (FL o n n).length vc) (FL o n n) k (RdII.keep h hs.chg0) qG (fun L hL=>by rw[hlen L hL];exact hk) qG;have hkn:=pre_known hc ho (show n≤8 by omega) hi' hk;have hpp:=pre_plan (show n≤8 by omega) h1 hk _ o (Nat.le_refl _) ho hc hi';have hz:=plan_zero (show n≤8 by omega) h1 hk ho hc;by_cases hN:preN (FL o n n) k≤1
 ·have hp0:=hz.2 (hkn.1 hN);(refine aA1 vq (aE (aD (aD (aB (aA1 vq (oA qE J J J qG (aE (aH J (aD (aB (aA1 vq ?_)))))))))));refine aE (aQ ?_));refine aA2 wq qF fun w hs=> ?_
  exact⟨by rw[hp0,decide_eq_true (Nat.zero_le _)];rfl,hs.chg0⟩
 ·have hkn2:¬dQ o n k=true:=fun h=>hN (hkn.2 h)
  (refine aA1 vq (aE (aD (aD (aB (aA1 vq (gH qE J J J qG (aE (aF J (aJ (aD (aB ?_)))))))))));refine aA1 vq (aE (aD (aD (aB (aA1 vq (aE (aK ?_))))))))
  have hb0:2^r≤1099511627776:=Nat.le_trans (Nat.pow_le_pow_right qG hr) (by decide);refine bD (σ:=Nat) (fun i=>i≤r) (fun i=>r-i) (fun i=>[(0,.slice (some ⟨g,q,none⟩) (FL o n n).length vc),(1,.int .i64 k),(2,.int .i64 r),(7,.int .i64 (preN (FL o n n) k:Nat)),(8,.int .i64 (2^i:Nat)),(9,.int .i64 i)]) (fun _=>[]) 0 qG ⟨J,J,J,J,J,J,trivial⟩ qF ?_;rintro i hir K hK;(refine aD (aD (aB ?_));(iterate 3 refine aA1 vq ?_);refine aE ?_);refine cP J (fun hc=> ?_) (fun hc=> ?_)
  ·have hir2:i<r:=by omega
   clear hc;have hs2:2^(i+1)≤2^r:=Nat.pow_le_pow_right qG qG;have hs3:2^(i+1)=2*2^i:=by rw[Nat.pow_succ,Nat.mul_comm]
   obtain⟨y,hy⟩:∃y,y=2^i:=⟨_,rfl⟩;rw[←hy] at hs3 ⊢;(refine aJ (aD (aK (aB (aA1 vq (aA4 xq qG qG (aA1 vq (aE (aW (aB (aA1 vq (aA4 xq qG qG ?_)))))))))));refine aA1 vq (aE ?_));exact hK (i+1) _ _ qG qG ⟨J,J,J,J,dI J (by rw[hs3];omega),J,trivial⟩ qF
  ·obtain rfl:r=i:=by omega
   clear hc hK hir;obtain⟨y,hy⟩:∃y,y=2^r:=⟨_,rfl⟩;obtain⟨N,hNN⟩:∃N,N=preN (FL o n n) k:=⟨_,rfl⟩;rw[←hy] at hb0 ⊢;rw[←hNN] at hpp hN hkn ⊢;by_cases hN2:y<N
   ·have hpr:¬planO n k o≤r:=fun h=>by
     have:=Nat.pow_le_pow_right (n:=2) qG h;omega
    (refine aZ _ J (aD (aD (aB (aA1 vq (aA1 vq (aB4 yq qG (aE (aH J (aD (aB (aA1 vq ?_)))))))))));refine aE (aQ ?_))
    refine aA2 wq qF fun w hs=> ?_;exact⟨by rw[decide_eq_false hpr];rfl,hs.chg0⟩
   ·have hr1:1≤r:=by
     rcases Nat.eq_zero_or_pos r with e|e
     ·rw[e] at hy;have:y=1:=by rw[hy]
      omega
     ·exact e
    obtain⟨r',hr'⟩:∃r',r=r'+1:=⟨r-1,by omega⟩;have hen:=eno_iff (n:=n) (k:=k) (r:=r) (o:=o) (show n≤8 by omega) h1 hk ho hc hkn2;have ih':=ih r' qG;clear hpp hkn hz hb0 hy ih hN hkn2;(refine aZ _ J (aD (aD (aB (aA1 vq (aA1 vq (aB3 yq qG (aE (aF J (aJ (aD (aD ?_)))))))))));refine aB (aA1 vq (aE (aK ?_))));refine bD (σ:=Nat) (fun a=>a≤n∧∀a' b',a'<a→a'<b'→b'<n→enoB n k r o a' b'=false) (fun a=>n-a) (fun a=>[(0,.slice (some ⟨g,q,none⟩) (FL o n n).length vc),(1,.int .i64 k),(2,.int .i64 r),(10,.int .i64 a)]) (fun _=>[]) 0 ⟨by omega,fun _ _ h=>absurd h qG⟩ ⟨J,J,J,J,trivial⟩ qF ?_;rintro a ⟨han,hinv⟩ K hK;(refine aD (aD (aB (aA1 vq (aA1 vq ?_)))));refine aA5 uq qG qG ?_;refine bC (v:= .slice (some ⟨g0,q0,none⟩) n c0) qE J J J (fun w hs=>hc0 w hs.chg0) ?_;(refine aA1 vq (aA1 vq (aE ?_)));refine cP J (fun hc=> ?_) (fun hc=> ?_)
    ·have ha:a<n:=by omega
     clear hc;(refine aJ (aD (aK (aD (aB (aA1 vq (aA4 xq qG qG (aA1 vq (aE (aK ?_))))))))));refine bD (σ:=Nat) (fun b=>a<b∧b≤n∧∀b',a<b'→b'<b→enoB n k r o a b'=false) (fun b=>n-b) (fun b=>[(0,.slice (some ⟨g,q,none⟩) (FL o n n).length vc),(1,.int .i64 k),(2,.int .i64 r),(10,.int .i64 a),(11,.int .i64 b)]) (fun _=>[]) (a+1) ⟨by omega,by omega,fun _ _ h=>absurd h qG⟩ ⟨J,J,J,J,dI J qG,trivial⟩ qF ?_;rintro b ⟨hab,hbn,hinv2⟩ K2 hK2;(refine aD (aD (aB (aA1 vq (aA1 vq ?_)))));refine aA5 uq qG qG ?_;refine bC (v:= .slice (some ⟨g0,q0,none⟩) n c0) qE J J J (fun w hs=>hc0 w hs.chg0) ?_;(refine aA1 vq (aA1 vq (aE ?_)));refine cP J (fun hc=> ?_) (fun hc=> ?_)
     ·have hb:b<n:=by omega
      clear hc
      have hnext:enoB n k r o a b=false→∀b',a<b'→b'<b+1→enoB n k r o a b'=false:=fun h b' x1 x2=>by
       rcases Nat.lt_or_ge b' b with e|e
       ·exact hinv2 b' x1 e
       ·obtain rfl:b'=b:=by omega
        exact h
      have hne:a≠b:=by omega
      have hp1:=half_pos (show n≤8 by omega) ho hc0' hi' ha hb hne;have hp2:=half_pos (show n≤8 by omega) ho hc0' hi' hb ha (Ne.symm hne);(refine aJ (aD (aK (aD (aB ?_))));(iterate 3 refine aA1 vq ?_));refine bB (β:=Value×List (Value×List Int)) qE [] _ M0 J J J J (Sp.refl _) qJ (fun w' hs=>rhalfW_ca w w' hs.chg0 lo hi (.slice (some ⟨g,q,none⟩) (FL o n n).length vc) (FL o n n) a b h qG (fun L hL=>by rw[hlen L hL];omega) (fun L hL=>by rw[hlen L hL];omega)) ?_;rintro⟨_,Z1⟩ v50 ⟨rfl,hz1,hm1⟩;dsimp only[List.cons_append,List.nil_append] at hz1 hm1 ⊢;rw[lK qG hi' ha hb] at hm1;have hl1:Z1.length=(FL (cU o a b) n n).length:=by have:=congrArg List.length hm1;simp only[List.length_map] at this;exact this
      refine bW (fun w hs=>hs.slice2 (v:=v50) qF) ?_;rintro⟨a50,q50,rfl⟩
      ((iterate 3 refine aA1 vq ?_))
      refine bB (β:=Value×List (Value×List Int)) qE [] _ M0 J J J J (Sp.refl _) qJ (fun w' hs=>rhalfW_ca w w' hs.chg0 lo hi (.slice (some ⟨g,q,none⟩) (FL o n n).length vc) (FL o n n) b a h qG (fun L hL=>by rw[hlen L hL];omega) (fun L hL=>by rw[hlen L hL];omega)) ?_;rintro⟨_,Z2⟩ v54 ⟨rfl,hz2,hm2⟩;dsimp only[List.cons_append,List.nil_append] at hz2 hm2 ⊢;rw[lK qG hi' hb ha] at hm2;have hl2:Z2.length=(FL (cU o b a) n n).length:=by have:=congrArg List.length hm2;simp only[List.length_map] at this;exact this
      refine bW (fun w hs=>hs.slice2 (v:=v54) qF) ?_;rintro⟨a54,q54,rfl⟩;rw[←hl1] at hp1;rw[←hl2] at hp2;clear hl1 hl2;cases hf:fa o b a with
      | true=>
       have hz0:Z1.length=0:=by
        rcases Nat.eq_zero_or_pos Z1.length with e|e
        ·exact e
        ·rw[hp1.1 e] at hf;exact absurd hf (by simp)
       have:=hnext (eno_no2 hf);(refine aA1 vq (aA1 vq (aE (aD (aB (aA1 vq (aA1 vq (aB3 yq qG (aA1 vq ?_))))))));(iterate 3 refine aA3 zq ?_);refine aA1 vq (aA1 vq ?_);(iterate 5 refine aA3 zq ?_);refine aA1 vq (aA1 vq ?_);(iterate 5 refine aA3 zq ?_);refine aA1 vq (aE (aF J (aJ (aW (aB (aA1 vq (aA4 xq qG qG (aA1 vq (aE ?_))))))))));exact hK2 (b+1) _ _ ⟨by omega,by omega,this⟩ qG ⟨J,J,J,J,J,trivial⟩ qF
      | false=>
       have hz1p:=hp1.2 hf;cases hg:fa o a b with
       | true=>
        have hz0:Z2.length=0:=by
         rcases Nat.eq_zero_or_pos Z2.length with e|e
         ·exact e
         ·rw[hp2.1 e] at hg;exact absurd hg (by simp)
        have:=hnext (eno_no1 hg);(refine aA1 vq (aA1 vq (aE (aD (aB (aA1 vq (aA1 vq (aB4 yq qG (aA1 vq (aC J (aA1 vq (aC J ?_)))))))))));refine aA1 vq (aC J (aB3 yq qG (aA1 vq (aA1 vq ?_))));(iterate 5 refine aA3 zq ?_);refine aA1 vq (aA1 vq ?_);(iterate 5 refine aA3 zq ?_);refine aA1 vq (aE (aF J (aJ (aW (aB (aA1 vq (aA4 xq qG qG (aA1 vq (aE ?_))))))))));exact hK2 (b+1) _ _ ⟨by omega,by omega,this⟩ qG ⟨J,J,J,J,J,trivial⟩ qF
       | false=>
        have hz2p:=hp2.2 hg;have hU:Und o n a b:=⟨ho,by omega,ha,hb,hne,hg,hf⟩;have heu:=eno_und (n:=n) (k:=k) (r:=r') hg hf;rw[←hr'] at heu;(refine aA1 vq (aA1 vq (aE (aD (aB (aA1 vq (aA1 vq (aB4 yq qG (aA1 vq (aC J (aA1 vq (aC J ?_)))))))))));refine aA1 vq (aC J (aB4 yq qG (aA1 vq (aA1 vq (aC J (aA1 vq (aC J (aA1 vq (aC J (aA1 vq (aC J ?_)))))))))));refine aA4 xq qG qG (aC J ?_));rw[show(r:Int)-1=(r':Int) from by omega];refine aI (val:= .bool (decide (planO n k (cU o a b)≤r'))) qE J J J J (fun w hs=> ?_) ?_;exact ih' (cU o a b) w 0 w.heap.size (.slice a50 Z1.length q50) qG (ho.with qG qG) (hc0'.with hU) (hi'.with qG ha hb) (by have:=own_rd2 hs (v:= .slice a50 Z1.length q50) (t:=22) (n:=Z1.length) qF (hz1.keep hs.chg0) (Nat.le_trans hh hs.chg0.size);rw[hm1] at this;exact this) (Nat.le_refl _);cases hd1:decide (planO n k (cU o a b)≤r') with
        | false=>
         rw[hd1,Bool.false_and] at heu;have:=hnext heu;(refine aA1 vq (aA1 vq ?_);(iterate 5 refine aA3 zq ?_);refine aA1 vq (aE (aF J (aJ (aW (aB (aA1 vq (aA4 xq qG qG (aA1 vq (aE ?_))))))))));exact hK2 (b+1) _ _ ⟨by omega,by omega,this⟩ qG ⟨J,J,J,J,J,trivial⟩ qF
        | true=>
         rw[hd1,Bool.true_and] at heu;(refine aA1 vq (aA1 vq (aC J (aA1 vq (aC J (aA1 vq (aC J (aA1 vq (aC J (aA4 xq qG qG (aC J ?_)))))))))));rw[show(r:Int)-1=(r':Int) from by omega];refine aI (val:= .bool (decide (planO n k (cU o b a)≤r'))) qE J J J J (fun w hs=> ?_) ?_;exact ih' (cU o b a) w 0 w.heap.size (.slice a54 Z2.length q54) qG (ho.with qG qG) (hc0'.with hU.swap) (hi'.with qG hb ha) (by have:=own_rd2 hs (v:= .slice a54 Z2.length q54) (t:=22) (n:=Z2.length) qF (hz2.keep hs.chg0) (Nat.le_trans hh hs.chg0.size);rw[hm2] at this;exact this) (Nat.le_refl _);cases hd2:decide (planO n k (cU o b a)≤r') with
         | false=>
          rw[hd2] at heu;have:=hnext heu;(refine aA1 vq (aE (aF J (aJ (aW (aB (aA1 vq (aA4 xq qG qG (aA1 vq (aE ?_))))))))));exact hK2 (b+1) _ _ ⟨by omega,by omega,this⟩ qG ⟨J,J,J,J,J,trivial⟩ qF
         | true=>
          rw[hd2] at heu;have hpr:=hen.2 ⟨a,b,hab,hb,heu⟩;(refine aA1 vq (aE (aH J (aD (aB (aA1 vq (aE (aQ ?_))))))));refine aA2 wq qF fun w hs=> ?_
          exact⟨by rw[decide_eq_true hpr];rfl,hs.chg0⟩
     ·have hnext:∀a' b',a'<a+1→a'<b'→b'<n→enoB n k r o a' b'=false:=fun a' b' x1 x2 x3=>by
       rcases Nat.lt_or_ge a' a with e|e
       ·exact hinv a' b' e x2 x3
       ·obtain rfl:a'=a:=by omega
        exact hinv2 b' x2 qG
      clear hc hK2;(refine aZ _ J (aW (aB (aA1 vq (aA4 xq qG qG (aA1 vq (aE ?_)))))));exact hK (a+1) _ _ ⟨by omega,hnext⟩ qG ⟨J,J,J,J,trivial⟩ qF
    ·have hpr:¬planO n k o≤r:=fun h=>by
      obtain⟨a',b',x1,x2,x3⟩:=hen.1 h;rw[hinv a' b' qG x1 x2] at x3;exact absurd x3 (by simp)
     (refine aZ _ J (aD (aB (aA1 vq (aE (aQ ?_))))))
     refine aA2 wq qF fun w hs=> ?_;exact⟨by rw[decide_eq_false hpr];rfl,hs.chg0⟩
theorem selrd2{w0 w:World}{M:Nat→Prop}{H:List Ck}{v:Value}{Y xs:List (Value×List Int)}{n t t2:Nat}(hs:Sat w0 M H w)(h1:un (cF t Y)∈H)(hsub:∀p∈xs,p∈Y)(h2:Ck.ow v t2 1 n (xs.map (·.1))∈H):RdII w 0 w.heap.size v (xs.map (·.2)):=selrd (hs.mem h1) hsub (hs.mem h2)
theorem jV(n k:Nat)(hn:n≤6)(h1:1≤n)(hk:k≤n)(o:Nat)(w:World)(lo hi:Nat)(v:Value)(ho:Ord o)(hc:NoC o n)(hi':InO o n)(h:RdII w lo hi v ((FL o n n).map chI))(hh:hi≤w.heap.size) :
  Ca Tryz.prog 104 [v,.int .i64 k] w fun x w'=>x= .int .i64 (planO n k o:Nat)∧Chg [] w w':=by
 have hpl:=kU (n:=n) (k:=k) (show n≤8 by omega) ho;have hnn:n*n≤36:=Nat.mul_le_mul hn hn;refine cM (Sat.nil w M0) Tryz.func104 J (by simp[Tryz.ntmps104]) ?_;(refine aD (aB (aA1 vq (aE (aD (aB (aA1 vq (aE (aD (aK ?_))))))))));refine bD (σ:=Nat) (fun i=>i≤planO n k o) (fun i=>planO n k o-i) (fun i=>[(0,v),(1,.int .i64 k),(5,.int .i64 i)]) (fun _=>[]) 0 qG ⟨J,J,J,trivial⟩ qF ?_;rintro i hip K hK;(refine aD (aD (aB ?_));(iterate 3 refine aA1 vq ?_));refine aI (val:= .bool (decide (planO n k o≤i))) qE J J J J (fun w hs=> ?_) ?_;exact renough_ca n k hn h1 hk i o w lo hi v qG ho hc hi' (RdII.keep h hs.chg0) (Nat.le_trans hh hs.chg0.size);by_cases he:planO n k o≤i
 ·obtain rfl:i=planO n k o:=by omega
  rw[decide_eq_true (Nat.le_refl _)];(refine aA1 vq (aE (aF J (aZ _ J (aD (aB (aA1 vq (aA1 vq (aE (aQ ?_))))))))));refine aA2 wq qF fun w hs=> ?_
  exact⟨J,hs.chg0⟩
 ·rw[decide_eq_false he];(refine aA1 vq (aE (aH J (aJ (aK (aB (aA1 vq (aA4 xq qG qG (aA1 vq (aE (aW ?_)))))))))));exact hK (i+1) _ _ qG qG ⟨J,J,J,trivial⟩ qF
theorem rplaced_ca(w:World)(lo hi:Nat)(l:Lb)(v:Value)(k:Int)(h:RdR w lo hi v l.runs)(hlen:l.runs.length≤maxLen):Ca Tryz.prog 99 [.agg (lbC l v).toArray,.int .i64 k] w fun x w'=>x= .int .i64 (dD l k)∧Chg [] w w':=by
 refine cM (Sat.nil w M0) Tryz.func99 J (by simp[Tryz.ntmps99]) ?_;(refine aD (aB ?_));refine bN J J (fun b2=> ?_);rw[bG];(refine aA1 vq (aE (aD (aD (aB ?_))));refine aM qE J J J ?_);refine aI (val:= .int .i64 (cG l)) qE J J J J (fun w hs=> ?_) ?_;exact lX w lo hi l v (RdE.keep h hs.chg0) hlen;unfold dD;by_cases hc:cG l=0
 ·rw[if_neg (by rw[hc];simp),hc];(refine aA1 vq (aE (aD (aB (aA1 vq (aB1 yq qG (aE (aF J (aJ (aD (aD (aB ?_)))))))))));refine aA1 vq (aA1 vq ?_);refine aL qE J J J ?_);refine aI (val:= .bool (!(inB k 1 l.skis))) qE J J J J (fun w hs=> ?_) ?_;exact fS k 1 l.skis w;cases hb:inB k 1 l.skis with
  | true=>
   (refine aE (aF J (aJ (aD (aB (aA1 vq (aE (aQ ?_))))))))
   refine aA2 wq qF fun w hs=> ?_;exact⟨J,hs.chg0⟩
  | false=>
   (refine aE (aH J (aD (aB (aA1 vq (aE (aQ ?_)))))))
   refine aA2 wq qF fun w hs=> ?_;exact⟨J,hs.chg0⟩
 ·rw[if_pos hc];(refine aA1 vq (aE (aD (aB (aA1 vq (aB0 yq qG (aE (aH J (aD (aB (aA1 vq (aA1 vq ?_)))))))))));refine aE (aQ ?_));refine aA2 wq qF fun w hs=> ?_
  exact⟨J,hs.chg0⟩
theorem rplanned_ca(w:World)(lo hi:Nat)(l:Lb)(v:Value)(k:Int)(h:RdR w lo hi v l.runs)(hlen:l.runs.length≤maxLen):Ca Tryz.prog 103 [.agg (lbC l v).toArray,.int .i64 k] w fun x w'=>x= .int .i64 (plannedV l k)∧Chg [] w w':=by
 refine cM (Sat.nil w M0) Tryz.func103 J (by simp[Tryz.ntmps103]) ?_;(refine aD (aB ?_));refine bN J J (fun b2=> ?_);rw[bG];(refine aA1 vq (aE (aD (aD (aB ?_))));refine aM qE J J J ?_;refine aA1 vq ?_);refine aI (val:= .int .i64 (dD l k)) qE J J J J (fun w hs=> ?_) ?_;exact rplaced_ca w lo hi l v k (RdE.keep h hs.chg0) hlen;unfold plannedV;by_cases hc:dD l k=0
 ·rw[if_neg (by rw[hc];simp),hc];by_cases h5:5<l.skis
  ·rw[if_pos h5];(refine aA1 vq (aE (aD (aB (aA1 vq (aB1 yq qG (aE (aF J (aJ (aD (aD (aB ?_)))))))))));refine aA1 vq ?_;refine aL qE J J J ?_;refine aB4 yq qG (aE (aH J (aD (aB (aA1 vq (aE (aQ ?_))))))));refine aA2 wq qF fun w hs=> ?_
   exact⟨J,hs.chg0⟩
  ·rw[if_neg h5];(refine aA1 vq (aE (aD (aB (aA1 vq (aB1 yq qG (aE (aF J (aJ (aD (aD (aB ?_)))))))))));refine aA1 vq ?_;refine aL qE J J J ?_;refine aB3 yq qG (aE (aF J (aJ (aD (aB ?_)))));refine aM qE J J J ?_);refine aI (val:= .int .i64 (bQ l)) qE J J J J (fun w hs=> ?_) ?_;exact jY w lo hi l v (RdE.keep h hs.chg0) hlen;(refine aA1 vq (aE (aQ ?_)));refine aA2 wq qF fun w hs=> ?_
   exact⟨J,hs.chg0⟩
 ·rw[if_pos hc];(refine aA1 vq (aE (aD (aB (aA1 vq (aB0 yq qG (aE (aH J (aD (aB (aA1 vq (aA1 vq ?_)))))))))));refine aE (aQ ?_));refine aA2 wq qF fun w hs=> ?_
  exact⟨J,hs.chg0⟩
def knV(l:Lb)(k:Int):Bool×Int:=if dD l k≠0 then(false,dD l k) else if bQ l≠0 then(false,bQ l) else(dQ l.ord l.n k.toNat,0)
theorem placed_ok{l:Lb}{k:Int}(h:dD l k=0)(h0:bQ l=0):l.Ok∧NoC l.ord l.n∧∃m:Nat,k=(m:Int)∧1≤m∧m≤l.n:=by
 obtain⟨h1,h2,h3⟩:=jO.1 h;obtain⟨n,en,hn',h8,h9⟩:=h1.nat;exact⟨h1,(dE.1 h0).2,k.toNat,by omega,by omega,by omega⟩
theorem knownP_ca(w:World)(lo hi:Nat)(l:Lb)(v:Value)(k:Int)(h:RdR w lo hi v l.runs)(hlen:l.runs.length≤maxLen):Ca Tryz.prog 41 [.agg (lbC l v).toArray,.int .i64 k] w fun x w'=>x= .tuple #[.bool (knV l k).1,.int .i64 (knV l k).2]∧Chg [] w w':=by
 unfold knV;by_cases hp:dD l k=0
 ·rw[if_neg (by rw[hp];simp)];by_cases h0:bQ l=0
  ·rw[if_neg (by rw[h0];simp)];obtain⟨hl,hc,m,rfl,k1,k2⟩:=placed_ok hp h0;exact known_ok w lo hi l v m h hl hc k1 k2
  ·rw[if_pos h0];refine cM (Sat.nil w M0) Tryz.func41 J (by simp[Tryz.ntmps41]) ?_;(refine aD (aB ?_));refine bN J J (fun b2=> ?_);rw[bG];(refine aA1 vq (aA1 vq (aE (aD (aD (aB ?_)))));refine aM qE J J J ?_;refine aA1 vq ?_);refine aI (val:= .int .i64 (dD l k)) qE J J J J (fun w hs=> ?_) ?_;exact mC w lo hi l v k (RdE.keep h hs.chg0) hlen;rw[hp];(refine aA1 vq (aE (aD (aB (aA1 vq (aB1 yq qG (aE (aF J (aJ (aD (aB ?_))))))))));refine aM qE J J J ?_);refine bB (β:=Option Addr) qE [] _ M0 J J J J (Sp.refl _) qJ (fun w' hs=>kA w' lo hi l v (RdE.keep h hs.chg0) hlen h0) ?_;rintro p _ rfl;dsimp only[List.cons_append,List.nil_append];(refine aA1 vq (aA7 yq (aA7 yq (aA1 vq (aA1 vq (aE (aD (aD (aB (aA1 vq (aB0 yq qG (aE ?_)))))))))));refine aH J (aD (aB ?_));(iterate 3 refine aA1 vq ?_);refine aE (aQ ?_));refine aA2 wq qF fun w hs=> ?_
   exact⟨J,hs.chg0⟩
 ·rw[if_pos hp];refine cM (Sat.nil w M0) Tryz.func41 J (by simp[Tryz.ntmps41]) ?_;(refine aD (aB ?_));refine bN J J (fun b2=> ?_);rw[bG];(refine aA1 vq (aA1 vq (aE (aD (aD (aB ?_)))));refine aM qE J J J ?_;refine aA1 vq ?_);refine aI (val:= .int .i64 (dD l k)) qE J J J J (fun w hs=> ?_) ?_;exact mC w lo hi l v k (RdE.keep h hs.chg0) hlen;(refine aA1 vq (aE (aD (aB (aA1 vq (aB0 yq qG (aE (aH J (aD (aB ?_)))))))));(iterate 3 refine aA1 vq ?_);refine aE (aQ ?_));refine aA2 wq qF fun w hs=> ?_
  exact⟨J,hs.chg0⟩
theorem rknown_ca(w:World)(lo hi:Nat)(l:Lb)(v:Value)(k:Int)(h:RdR w lo hi v l.runs)(hlen:l.runs.length≤maxLen)(h6:l.skis≤6∨8<l.skis):Ca Tryz.prog 42 [.agg (lbC l v).toArray,.int .i64 k] w fun x w'=>x= .tuple #[.bool (knV l k).1,.int .i64 (knV l k).2]∧Chg [] w w':=by
 unfold knV;refine cM (Sat.nil w M0) Tryz.func42 J (by simp[Tryz.ntmps42]) ?_;(refine aD (aB ?_));refine bN J J (fun b2=> ?_);rw[bG];(refine aA1 vq (aA1 vq (aE (aD (aD (aB ?_)))));refine aM qE J J J ?_;refine aA1 vq ?_);refine aI (val:= .int .i64 (dD l k)) qE J J J J (fun w hs=> ?_) ?_;exact rplaced_ca w lo hi l v k (RdE.keep h hs.chg0) hlen;by_cases hp:dD l k=0
 ·rw[if_neg (by rw[hp];simp),hp];(refine aA1 vq (aE (aD (aB (aA1 vq (aB1 yq qG (aE (aF J (aJ (aD (aD (aB ?_)))))))))));refine aM qE J J J ?_);refine aI (val:= .int .i64 (bQ l)) qE J J J J (fun w hs=> ?_) ?_;exact jY w lo hi l v (RdE.keep h hs.chg0) hlen;by_cases h0:bQ l=0
  ·rw[if_neg (by rw[h0];simp),h0];obtain⟨hl,hc,m,rfl,k1,k2⟩:=placed_ok hp h0;obtain⟨n,en,hn',h8,h9⟩:=hl.nat;have h6':l.n≤6:=by omega
   have hi':=hl.inO;rw[Int.toNat_natCast];(refine aA1 vq (aE (aD (aB (aA1 vq (aB1 yq qG (aE (aF J (aJ (aD (aB ?_))))))))));refine aM qE J J J ?_);refine bB (β:=Value×List (Value×List Int)×List (Value×List Int)) qE [] _ M0 J J J J (Sp.refl _) qJ (fun w' hs=>jR w' lo hi l v (RdE.keep h hs.chg0) hl h6') ?_;rintro⟨_,Y,sel⟩ v20 ⟨rfl,hsub,hmap⟩;dsimp only[List.cons_append,List.nil_append] at hsub hmap ⊢;(refine aA1 vq ?_);refine aI (val:= .int .i64 (preN (FL l.ord l.n l.n) m:Nat)) qE J J J J (fun w hs=> ?_) ?_;exact rprefixes_ca w 0 w.heap.size v20 (FL l.ord l.n l.n) m (by have:=selrd2 hs (v:=v20) (t:=3) (t2:=22) (n:=sel.length) qF hsub qF;rw[hmap] at this;exact this) (by have:=fl_bd (o:=l.ord) h6';omega) (fun L hL=>by rw[((fT qG hi').1 hL).len];exact k2) qG;have hkn:=pre_known (k:=m) hc hl.o hl.n8 hi' k2
   have hN1:1≤preN (FL l.ord l.n l.n) m:=by
    obtain⟨L0,hL0⟩:=fl_ne hc hl.o hl.n8;exact dl_pos (List.mem_map.2 ⟨L0,hL0,J⟩)
   generalize preN (FL l.ord l.n l.n) m=N at hkn hN1 ⊢;cases hk:dQ l.ord l.n m with
   | true=>
    obtain rfl:N=1:=by have:=hkn.2 hk;omega
    (refine aA8 yq qG (aA1 vq (aA1 vq (aE (aQ ?_)))))
    refine aA2 wq qF fun w hs=> ?_;exact⟨J,hs.chg0⟩
   | false=>
    have hN2:¬N=1:=fun h=>by rw[hkn.1 qG] at hk;exact absurd hk (by simp)
    (refine aA9 yq qG (aA1 vq (aA1 vq (aE (aQ ?_)))))
    refine aA2 wq qF fun w hs=> ?_;exact⟨J,hs.chg0⟩
  ·rw[if_pos h0];(refine aA1 vq (aE (aD (aB (aA1 vq (aB0 yq qG (aE (aH J (aD (aB ?_)))))))));(iterate 3 refine aA1 vq ?_);refine aE (aQ ?_));refine aA2 wq qF fun w hs=> ?_
   exact⟨J,hs.chg0⟩
 ·rw[if_pos hp];(refine aA1 vq (aE (aD (aB (aA1 vq (aB0 yq qG (aE (aH J (aD (aB ?_)))))))));(iterate 3 refine aA1 vq ?_);refine aE (aQ ?_));refine aA2 wq qF fun w hs=> ?_
  exact⟨J,hs.chg0⟩
theorem rfewestA_ca(w:World)(lo hi:Nat)(l:Lb)(v:Value)(k:Int)(h:RdR w lo hi v l.runs)(hlen:l.runs.length≤maxLen):Ca Tryz.prog 44 [.agg (lbC l v).toArray,.int .i64 k] w fun x w'=>x= .tuple #[.int .i64 (fO l k).1,.int .i64 (fO l k).2]∧Chg [] w w':=by
 unfold fO;refine cM (Sat.nil w M0) Tryz.func44 J (by simp[Tryz.ntmps44]) ?_;(refine aD (aB ?_));refine bN J J (fun b2=> ?_);rw[bG];(refine aA1 vq (aA1 vq (aE (aD (aD (aB ?_)))));refine aM qE J J J ?_;refine aA1 vq ?_);refine aI (val:= .int .i64 (plannedV l k)) qE J J J J (fun w hs=> ?_) ?_;exact rplanned_ca w lo hi l v k (RdE.keep h hs.chg0) hlen;by_cases hp:plannedV l k=0
 ·rw[if_neg (by rw[hp];simp),hp];obtain⟨hl,hc,k1,k2,k5⟩:=fW.1 hp;obtain⟨n,en,hn',h8,h9⟩:=hl.nat;obtain⟨m,rfl⟩:∃m:Nat,k=(m:Int):=⟨k.toNat,by omega⟩;have h6':l.n≤6:=by omega
  rw[Int.toNat_natCast];(refine aA1 vq (aE (aD (aB (aA1 vq (aB1 yq qG (aE (aF J (aJ (aD (aB ?_))))))))));refine aM qE J J J ?_);refine bB (β:=Value×List (Value×List Int)×List (Value×List Int)) qE [] _ M0 J J J J (Sp.refl _) qJ (fun w' hs=>jR w' lo hi l v (RdE.keep h hs.chg0) hl h6') ?_;rintro⟨_,Y,sel⟩ v14 ⟨rfl,hsub,hmap⟩;dsimp only[List.cons_append,List.nil_append] at hsub hmap ⊢;(refine aA1 vq ?_);refine aI (val:= .int .i64 (planO l.n m l.ord:Nat)) qE J J J J (fun w hs=> ?_) ?_;exact jV l.n m h6' qG qG l.ord w 0 w.heap.size v14 hl.o hc hl.inO (by have:=selrd2 hs (v:=v14) (t:=3) (t2:=22) (n:=sel.length) qF hsub qF;rw[hmap] at this;exact this) (Nat.le_refl _);(refine aA1 vq (aA1 vq (aE (aQ ?_))));refine aA2 wq qF fun w hs=> ?_
  exact⟨J,hs.chg0⟩
 ·rw[if_pos hp];(refine aA1 vq (aE (aD (aB (aA1 vq (aB0 yq qG (aE (aH J (aD (aB ?_)))))))));(iterate 3 refine aA1 vq ?_);refine aE (aQ ?_));refine aA2 wq qF fun w hs=> ?_
  exact⟨J,hs.chg0⟩
end Go.Proofs.YtoljppohibpenaaGreat
