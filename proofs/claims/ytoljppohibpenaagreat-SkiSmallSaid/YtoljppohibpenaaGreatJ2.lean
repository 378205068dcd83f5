import Derived.Test.YtoljppohibpenaaGreatJ1
import Derived.Laws.CopyRow
import Derived.Laws.MakeOwn
import Derived.Laws.OwnMore
import Derived.Laws.Slices
import Derived.Laws.StructEq
import Derived.ChangeKeysEq
set_option linter.unusedVariables false
set_option maxHeartbeats 16000000
namespace Go.Proofs.YtoljppohibpenaaGreat
open Go Go.Eng
set_option maxRecDepth 4000
def mkB(g:Nat→Bool):Nat→Nat
 | 0=>0
 | n+1=>mkB g n ||| (cond (g n) (2^n) 0)
theorem mkB_bit(g:Nat→Bool)(i:Nat):∀n,(mkB g n).testBit i=(decide (i<n)&&g i)
 | 0=>by simp[mkB]
 | n+1=>by
  rw[mkB,Nat.testBit_or,mkB_bit g i n];by_cases h:i=n
  ·subst h;cases hg:g i<;>simp[Nat.testBit_two_pow_self]
  ·have h1:(cond (g n) (2^n) 0).testBit i=false:=by
    cases g n
    ·simp
    ·simp[Nat.testBit_two_pow_of_ne (Ne.symm h)]
   rw[h1,Bool.or_false]
   congr 1
   exact decide_eq_decide.2 qG
theorem mkB_lt(g:Nat→Bool):∀n,mkB g n<2^n:=fun n=>Nat.lt_pow_two_of_testBit _ fun i hi=>by
 rw[mkB_bit];simp;omega
def fa(o a b:Nat):Bool:=o.testBit (8*a+b)
def cU(o f s:Nat):Nat:=mkB (fun c=>o.testBit c||((c/8==f||fa o (c/8) f)&&(c%8==s||fa o s (c%8)))) 64
theorem fa_with(o f s:Nat){a b:Nat}(ha:a<8)(hb:b<8):fa (cU o f s) a b=(fa o a b||((a==f||fa o a f)&&(b==s||fa o s b))):=by
 unfold cU;rw[fa,mkB_bit];have h1:(8*a+b)/8=a:=by omega
 have h2:(8*a+b)%8=b:=by omega
 have h3:decide (8*a+b<64)=true:=decide_eq_true qG;rw[h3,h1,h2,Bool.true_and]
 rfl
theorem gN{o f s a b:Nat}(ha:a<8)(hb:b<8):fa (cU o f s) a b=true↔fa o a b=true∨((a=f∨fa o a f=true)∧(b=s∨fa o s b=true)):=by
 rw[fa_with o f s ha hb];simp
theorem with_lt(o f s:Nat):cU o f s<2^64:=mkB_lt _ _
theorem ext_o{o p:Nat}(ho:o<2^64)(hp:p<2^64)(h:∀a b,a<8→b<8→fa o a b=fa p a b):o=p:=by
 refine Nat.eq_of_testBit_eq fun i=> ?_;by_cases hi:i<64
 ·have:=h (i/8) (i%8) qG qG;unfold fa at this;rw[show 8*(i/8)+i%8=i from by omega] at this;exact this
 ·rw[Nat.testBit_lt_two_pow (Nat.lt_of_lt_of_le ho (Nat.pow_le_pow_right qG qG)),Nat.testBit_lt_two_pow (Nat.lt_of_lt_of_le hp (Nat.pow_le_pow_right qG qG))]
structure Ord(o:Nat):Prop where
 lt:o<2^64
 tr:∀a b c,a<8→b<8→c<8→fa o a b=true→fa o b c=true→fa o a c=true
theorem Ord.zero:Ord 0:=⟨by decide,fun a b c _ _ _ h=>by simp[fa] at h⟩
theorem Ord.with{o f s:Nat}(h:Ord o)(hf:f<8)(hs:s<8):Ord (cU o f s):=⟨with_lt _ _ _,fun a b c ha hb hc h1 h2=>by
 rw[gN ha hb] at h1;rw[gN hb hc] at h2;rw[gN ha hc];rcases h1 with h1|⟨h1,h1'⟩<;>rcases h2 with h2|⟨h2,h2'⟩
 ·exact .inl (h.tr a b c ha hb hc h1 h2)
 ·refine .inr ⟨?_,h2'⟩;rcases h2 with rfl|h2
  ·exact .inr h1
  ·exact .inr (h.tr a b f ha hb hf h1 h2)
 ·refine .inr ⟨h1,?_⟩;rcases h1' with rfl|h1'
  ·exact .inr h2
  ·exact .inr (h.tr s b c hs hb hc h1' h2)
 ·exact .inr ⟨h1,h2'⟩⟩
def LeO(o p:Nat):Prop:=∀a b,a<8→b<8→fa o a b=true→fa p a b=true
theorem LeO.refl(o:Nat):LeO o o:=fun _ _ _ _ h=>h
theorem LeO.trans{o p q:Nat}(h:LeO o p)(g:LeO p q):LeO o q:=fun a b ha hb x=>g a b ha hb (h a b ha hb x)
theorem le_with(o f s:Nat):LeO o (cU o f s):=fun a b ha hb h=>(gN ha hb).2 (.inl h)
theorem pR{o f s:Nat}(hf:f<8)(hs:s<8):fa (cU o f s) f s=true:=(gN hf hs).2 (.inr ⟨.inl rfl,.inl rfl⟩)
theorem with_sub{o f s:Nat}{R:Nat→Nat→Prop}(hf:f<8)(hs:s<8)(hR:∀a b c,a<8→b<8→c<8→R a b→R b c→R a c)(h:∀a b,a<8→b<8→fa o a b=true→R a b)(hp:R f s):∀a b,a<8→b<8→fa (cU o f s) a b=true→R a b:=fun a b ha hb hab=>by
 rcases(gN ha hb).1 hab with h1|⟨h1,h2⟩
 ·exact h a b ha hb h1
 ·have h3:R a s:=by
   rcases h1 with rfl|h1
   ·exact hp
   ·exact hR a f s ha hf hs (h a f ha hf h1) hp
  rcases h2 with rfl|h2
  ·exact h3
  ·exact hR a s b ha hs hb h3 (h s b hs hb h2)
theorem with_le{o p f s:Nat}(hf:f<8)(hs:s<8)(hp:Ord p)(h:LeO o p)(hx:fa p f s=true):LeO (cU o f s) p:=with_sub hf hs hp.tr h hx
theorem with_eq{o f s:Nat}(h:Ord o)(hf:f<8)(hs:s<8):cU o f s=o↔fa o f s=true:=by
 constructor
 ·intro e;rw[←e];exact pR hf hs
 ·intro e;refine ext_o (with_lt _ _ _) h.lt fun a b ha hb=>Bool.eq_iff_iff.2 ⟨with_le hf hs h (LeO.refl o) e a b ha hb,le_with o f s a b ha hb⟩
def iV(l:List (Nat×Nat)):Nat:=l.foldl (fun o p=>cU o p.1 p.2) 0
theorem jN(l:List (Nat×Nat))(p:Nat×Nat):iV (l++[p])=cU (iV l) p.1 p.2:=by simp[iV]
theorem snocI{α:Type}{p:List α→Prop}(h0:p [])(hs:∀l a,p l→p (l++[a])):∀l,p l:=fun l=>by
 have:∀n (l:List α),l.length=n→p l:=by
  intro n
  induction n with
  | zero=>intro l hl;rw[List.length_eq_zero_iff.1 hl];exact h0
  | succ n ih=>
   intro l hl;have hne:l≠[]:=by intro h;rw[h] at hl;cases hl
   rw[←List.dropLast_concat_getLast hne];exact hs _ _ (ih _ (by simp[hl]))
 exact this _ l J
def In8(l:List (Nat×Nat)):Prop:=∀p∈l,p.1<8∧p.2<8
theorem order_ord:∀l,In8 l→Ord (iV l):=fun l=>snocI (p:=fun l=>In8 l→Ord (iV l)) (fun _=>Ord.zero) (fun l a ih h=>by
 rw[jN];have:=h a (by simp);exact(ih (fun p hp=>h p (by simp[hp]))).with this.1 this.2) l
theorem iA{l:List (Nat×Nat)}(h:In8 l){p:Nat×Nat}(hp:p∈l):fa (iV l) p.1 p.2=true:=by
 revert h hp;refine snocI (p:=fun l=>In8 l→p∈l→fa (iV l) p.1 p.2=true) (fun _ h=>by cases h) (fun l a ih h hp=> ?_) l;rw[jN];have h8:=h p hp;rcases List.mem_append.1 hp with hp|hp
 ·exact le_with _ _ _ _ _ h8.1 h8.2 (ih (fun q hq=>h q (by simp[hq])) hp)
 ·obtain rfl:=List.mem_singleton.1 hp;exact pR h8.1 h8.2
theorem iM{l:List (Nat×Nat)}(h8:In8 l){R:Nat→Nat→Prop}(hR:∀a b c,a<8→b<8→c<8→R a b→R b c→R a c)(h:∀p∈l,R p.1 p.2):∀a b,a<8→b<8→fa (iV l) a b=true→R a b:=by
 revert h8 h;refine snocI (p:=fun l=>In8 l→(∀p∈l,R p.1 p.2)→∀a b,a<8→b<8→fa (iV l) a b=true→R a b) (fun _ _ a b _ _ h=>by simp[iV,fa] at h) (fun l p ih h8 h=> ?_) l;rw[jN];have:=h8 p (by simp);exact with_sub this.1 this.2 hR (ih (fun q hq=>h8 q (by simp[hq])) (fun q hq=>h q (by simp[hq]))) (h p (by simp))
theorem order_le{l m:List (Nat×Nat)}(h8:In8 l)(h8m:In8 m)(h:∀p∈l,p∈m):LeO (iV l) (iV m):=iM h8 (order_ord m h8m).tr (fun p hp=>iA h8m (h p hp))
def upN(o s n:Nat):Nat:=((List.range n).filter (fun t=>fa o t s)).length
def dnN(o s n:Nat):Nat:=((List.range n).filter (fun t=>fa o s t)).length
theorem fL{α:Type}(p q:α→Bool):∀l:List α,(∀a∈l,p a=true→q a=true)→(l.filter p).length≤(l.filter q).length
 | [],_=>by simp
 | a::l,h=>by
  have ih:=fL p q l (fun b hb=>h b (List.mem_cons_of_mem _ hb));have ha:=h a List.mem_cons_self;simp only[List.filter_cons];split
  ·rename_i hp
   rw[if_pos (ha hp)];simp only[List.length_cons];omega
  ·split
   ·simp only[List.length_cons];omega
   ·exact ih
def eO(o n s S:Nat):Bool:= !S.testBit s&&(List.range n).all (fun t=> !fa o t s||S.testBit t)
theorem gR{o n s S:Nat}:eO o n s S=true↔S.testBit s=false∧∀t,t<n→fa o t s=true→S.testBit t=true:=by
 unfold eO;simp only[Bool.and_eq_true,Bool.not_eq_true',List.all_eq_true,List.mem_range,Bool.or_eq_true];constructor
 ·rintro⟨h1,h2⟩;exact⟨h1,fun t ht h=>(h2 t ht).resolve_left (by simp[h])⟩
 ·rintro⟨h1,h2⟩;refine⟨h1,fun t ht=> ?_⟩;cases hf:fa o t s with
  | false=>exact .inl rfl
  | true=>exact .inr (h2 t ht hf)
def iQ(f:Nat→Nat):Nat→Nat
 | 0=>0
 | n+1=>iQ f n+f n
theorem sumN_le{f g:Nat→Nat}:∀n,(∀i,i<n→f i≤g i)→iQ f n≤iQ g n
 | 0,_=>Nat.le_refl _
 | n+1,h=>Nat.add_le_add (sumN_le n fun i hi=>h i qG) (h n qG)
theorem dJ{f g:Nat→Nat}:∀n,(∀i,i<n→f i=g i)→iQ f n=iQ g n
 | 0,_=>rfl
 | n+1,h=>by rw[iQ,iQ,dJ n fun i hi=>h i qG,h n qG]
theorem sumN_add{f g:Nat→Nat}:∀n,iQ (fun i=>f i+g i) n=iQ f n+iQ g n
 | 0=>rfl
 | n+1=>by rw[iQ,iQ,iQ,sumN_add n];omega
def cntF(o n:Nat):Nat→Nat→Nat
 | 0,S=>if S=0 then 1 else 0
 | k+1,S=>if S=0 then 1 else iQ (fun s=>cond (S.testBit s&&eO o n s (S ^^^ 2^s)) (cntF o n k (S ^^^ 2^s)) 0) n
def cnt(o n S:Nat):Nat:=cntF o n S S
theorem nR{S s:Nat}(h:S.testBit s=true):S ^^^ 2^s<S:=by
 have h1:(S ^^^ 2^s).testBit s=false:=by rw[Nat.testBit_xor,h,Nat.testBit_two_pow_self];rfl
 have h2:S ^^^ 2^s=S &&& (S ^^^ 2^s):=Nat.eq_of_testBit_eq fun i=>by
  rw[Nat.testBit_and];by_cases e:i=s
  ·subst e;rw[h1];simp
  ·rw[Nat.testBit_xor,Nat.testBit_two_pow_of_ne (Ne.symm e)];simp
 have h3:S ^^^ 2^s≤S:=by rw[h2];exact Nat.and_le_left
 have h4:S ^^^ 2^s≠S:=fun e=>by rw[e,h] at h1;cases h1
 omega
theorem cntF_eq(o n:Nat):∀S k,S≤k→cntF o n k S=cnt o n S:=by
 intro S
 induction S using Nat.strongRecOn with
 | _ S ih=>
  have key:∀k,S≤k+1→S≠0→cntF o n (k+1) S=iQ (fun s=>cond (S.testBit s&&eO o n s (S ^^^ 2^s)) (cnt o n (S ^^^ 2^s)) 0) n:=by
   intro k hk h0;rw[cntF,if_neg h0];refine dJ n fun s _=> ?_
   cases hc:S.testBit s&&eO o n s (S ^^^ 2^s) with
   | false=>rfl
   | true=>
    have h1:S.testBit s=true:=by revert hc;cases S.testBit s<;>simp
    have h2:=nR h1;exact ih _ h2 k qG
  intro k hk;by_cases h0:S=0
  ·subst h0;cases k<;>simp[cnt,cntF]
  ·obtain⟨k,rfl⟩:∃m,k=m+1:=⟨k-1,by omega⟩;obtain⟨S',hS⟩:∃m,S=m+1:=⟨S-1,by omega⟩;rw[key k hk h0]
   show _=cntF o n S S
   rw[show cntF o n S S=cntF o n (S'+1) S from by rw[←hS],key S' qG h0]
theorem cnt_zero(o n:Nat):cnt o n 0=1:=by simp[cnt,cntF]
theorem cnt_eq{o n S:Nat}(h:S≠0):cnt o n S=iQ (fun s=>cond (S.testBit s&&eO o n s (S ^^^ 2^s)) (cnt o n (S ^^^ 2^s)) 0) n:=by
 obtain⟨S',hS⟩:∃m,S=m+1:=⟨S-1,by omega⟩
 show cntF o n S S=_
 rw[show cntF o n S S=cntF o n (S'+1) S from by rw[←hS],cntF,if_neg h];refine dJ n fun s _=> ?_
 cases hc:S.testBit s&&eO o n s (S ^^^ 2^s) with
 | false=>rfl
 | true=>
  have h1:S.testBit s=true:=by revert hc;cases S.testBit s<;>simp
  have h2:=nR h1;exact cntF_eq o n _ S' qG
theorem pI(b:Bool):(cond b 0 0:Nat)=0:=by cases b<;>rfl
theorem bit_xor{S s t:Nat}(h:t≠s):(S ^^^ 2^s).testBit t=S.testBit t:=by
 rw[Nat.testBit_xor,Nat.testBit_two_pow_of_ne (Ne.symm h)];simp
theorem jA{S s:Nat}(h:S.testBit s=true):(S ^^^ 2^s).testBit s=false:=by
 rw[Nat.testBit_xor,h,Nat.testBit_two_pow_self];rfl
structure Und(o n x y:Nat):Prop where
 ord:Ord o
 n8:n≤8
 hx:x<n
 hy:y<n
 ne:x≠y
 xy:fa o x y=false
 yx:fa o y x=false
theorem Und.swap{o n x y:Nat}(h:Und o n x y):Und o n y x:=⟨h.ord,h.n8,h.hy,h.hx,h.ne.symm,h.yx,h.xy⟩
def NoC(o n:Nat):Prop:=∀s,s<n→fa o s s=false
theorem NoC.asym{o n a b:Nat}(h:NoC o n)(ho:Ord o)(hn:n≤8)(ha:a<n)(hb:b<n)(hab:fa o a b=true):fa o b a=false:=by
 cases hx:fa o b a with
 | false=>rfl
 | true=>
  have:=ho.tr a b a qG qG qG hab hx;rw[h a ha] at this;cases this
theorem NoC.with{o n x y:Nat}(hc:NoC o n)(h:Und o n x y):NoC (cU o x y) n:=fun s hs=>by
 have h8:=h.n8;cases hx:fa (cU o x y) s s with
 | false=>rfl
 | true=>
  exfalso;have hx1:=h.hx;have hy1:=h.hy;rcases(gN qG qG).1 hx with hx|⟨h1,h2⟩
  ·rw[hc s hs] at hx;cases hx
  ·have:fa o y x=true:=by
    rcases h1 with rfl|h1<;>rcases h2 with h2|h2
    ·exact absurd h2 h.ne
    ·exact h2
    ·subst h2;exact h1
    ·exact h.ord.tr y s x qG qG qG h2 h1
   rw[h.yx] at this;cases this
theorem jS{α:Type}(p q:α→Bool):∀l:List α,(∀a∈l,p a=true→q a=false)→(l.filter p).length+(l.filter q).length=(l.filter (fun a=>p a||q a)).length
 | [],_=>by simp
 | a::l,h=>by
  have ih:=jS p q l (fun b hb=>h b (List.mem_cons_of_mem _ hb));have ha:=h a List.mem_cons_self;simp only[List.filter_cons];cases hp:p a with
  | true=>
   have:=ha hp;simp only[this,Bool.true_or,if_true,List.length_cons];simp;omega
  | false=>
   cases hq:q a with
   | true=>simp;omega
   | false=>simp;exact ih
theorem filter_not{n s:Nat}(hs:s<n)(p:Nat→Bool)(hp:p s=false):((List.range n).filter p).length+1≤n:=by
 have h1:=jS p (fun t=>t==s) (List.range n) (fun a _ h=>by
  cases e:(a==s) with
  | false=>rfl
  | true=>rw[beq_iff_eq] at e;subst e;rw[hp] at h;cases h)
 have h2:((List.range n).filter (fun a=>p a||a==s)).length≤n:=by
  have:=List.length_filter_le (fun a=>p a||a==s) (List.range n);simpa using this
 have h3:0<((List.range n).filter (fun t=>t==s)).length:=List.length_pos_iff_exists_mem.2 ⟨s,by simp[hs]⟩;omega
theorem up_dn{o n s:Nat}(h:NoC o n)(ho:Ord o)(hn:n≤8)(hs:s<n):upN o s n+dnN o s n+1≤n:=by
 unfold upN dnN;rw[jS _ _ _ (fun a ha hx=>h.asym ho hn (List.mem_range.1 ha) hs hx)];exact filter_not hs _ (by rw[h s hs];rfl)
def dQ(o n k:Nat):Bool:=(List.range k).all fun place=>(List.range n).any fun s=>upN o s n==place&&dnN o s n+1+place==n
theorem pB{o n k:Nat}:dQ o n k=true↔∀place,place<k→∃s,s<n∧upN o s n=place∧dnN o s n+1+place=n:=by
 unfold dQ;simp only[List.all_eq_true,List.mem_range,List.any_eq_true,Bool.and_eq_true,beq_iff_eq]
def gK(n:Nat):List (Nat×Nat):=(List.range n).flatMap fun a=>(List.range a).map fun b=>(a,b)
theorem eY{n a b:Nat}:(a,b)∈gK n↔a<n∧b<a:=by
 unfold gK;simp[List.mem_flatMap]
def undO(o:Nat)(p:Nat×Nat):Bool:= !(fa o p.1 p.2||fa o p.2 p.1)
theorem gZ{o:Nat}{p:Nat×Nat}:undO o p=true↔fa o p.1 p.2=false∧fa o p.2 p.1=false:=by
 unfold undO;simp
def undN(o n:Nat):Nat:=((gK n).filter (undO o)).length
theorem oZ{α:Type}(p q:α→Bool):∀l:List α,(∀a∈l,p a=true→q a=true)→(∃a∈l,q a=true∧p a=false)→(l.filter p).length<(l.filter q).length
 | [],_,h=>by obtain⟨a,ha,_⟩:=h;cases ha
 | a::l,h,⟨b,hb,h1,h2⟩=>by
  have ih:=oZ p q l (fun b hb=>h b (List.mem_cons_of_mem _ hb));have il:=fL p q l (fun b hb=>h b (List.mem_cons_of_mem _ hb));have ha:=h a List.mem_cons_self;simp only[List.filter_cons];rcases List.mem_cons.1 hb with rfl|hb
  ·rw[h1,h2];simp;omega
  ·have:=ih ⟨b,hb,h1,h2⟩;split
   ·rename_i hp
    rw[if_pos (ha hp)];simp only[List.length_cons];omega
   ·split
    ·simp only[List.length_cons];omega
    ·exact this
theorem nN{o n a b:Nat}(h:Und o n a b):undN (cU o a b) n<undN o n:=by
 have h8:=h.n8;have hx:=h.hx;have hy:=h.hy;have hne:=h.ne;refine oZ _ _ _ (fun p hp hu=> ?_) ?_
 ·rw[gZ] at hu ⊢;obtain⟨p1,p2⟩:=p;have:=eY.1 hp;refine⟨?_,?_⟩
  ·cases hx:fa o p1 p2 with
   | false=>rfl
   | true=>have:=le_with o a b p1 p2 qG qG hx;rw[hu.1] at this;cases this
  ·cases hx:fa o p2 p1 with
   | false=>rfl
   | true=>have:=le_with o a b p2 p1 qG qG hx;rw[hu.2] at this;cases this
 ·have hw:fa (cU o a b) a b=true:=pR qG qG;by_cases hab:b<a
  ·exact⟨(a,b),eY.2 ⟨hx,hab⟩,gZ.2 ⟨h.xy,h.yx⟩,by simp[undO,hw]⟩
  ·exact⟨(b,a),eY.2 ⟨hy,by omega⟩,gZ.2 ⟨h.yx,h.xy⟩,by simp[undO,hw]⟩
theorem Und.of{o n:Nat}(ho:Ord o)(hn:n≤8){p:Nat×Nat}(hp:p∈gK n)(hu:undO o p=true):Und o n p.1 p.2:=by
 obtain⟨a,b⟩:=p;have h1:=eY.1 hp;have h2:=gZ.1 hu;exact⟨ho,hn,h1.1,by simp only;omega,by simp only;omega,h2.1,h2.2⟩
def planF(n k:Nat):Nat→Nat→Nat
 | 0,_=>0
 | m+1,o=>if dQ o n k then 0 else(gK n).foldl (fun best p=>cond (undO o p) (min best (1+max (planF n k m (cU o p.1 p.2)) (planF n k m (cU o p.2 p.1)))) best) (n*n)
def planO(n k o:Nat):Nat:=planF n k (undN o n+1) o
def worthO(n k o a b:Nat):Nat:=1+max (planO n k (cU o a b)) (planO n k (cU o b a))
theorem foldl_eq{α β:Type}(f f':α→β→α):∀(l:List β) (a:α),(∀a,∀b∈l,f a b=f' a b)→l.foldl f a=l.foldl f' a
 | [],_,_=>rfl
 | b::l,a,h=>by
  rw[List.foldl_cons,List.foldl_cons,h a b List.mem_cons_self];exact foldl_eq f f' l _ (fun a b hb=>h a b (List.mem_cons_of_mem _ hb))
theorem planF_step{n k:Nat}(hn:n≤8){u:Nat}(ih:∀v,v<u→∀o,undN o n=v→Ord o→∀m,v<m→planF n k m o=planO n k o){o:Nat}(hu:undN o n=u)(ho:Ord o){m:Nat}(hm:u<m+1) :
  planF n k (m+1) o=if dQ o n k then 0 else(gK n).foldl (fun best p=>cond (undO o p) (min best (worthO n k o p.1 p.2)) best) (n*n):=by
 rw[planF]
 congr 1
 refine foldl_eq _ _ _ _ fun best p hp=> ?_;cases hc:undO o p with
 | false=>rfl
 | true=>
  have hU:=Und.of ho hn hp hc;have h1:=nN hU;have h2:=nN hU.swap;have hx:=hU.hx;have hy:=hU.hy
  show min best (1+max _ _)=min best (1+max _ _)
  rw[ih _ qG _ rfl (ho.with qG qG) m qG,ih _ qG _ rfl (ho.with qG qG) m qG]
theorem planF_eq{n k:Nat}(hn:n≤8):∀u o,undN o n=u→Ord o→∀m,u<m→planF n k m o=planO n k o:=by
 intro u
 induction u using Nat.strongRecOn with
 | _ u ih=>
  intro o hu ho m hm;obtain⟨m,rfl⟩:∃j,m=j+1:=⟨m-1,by omega⟩;rw[planF_step hn ih hu ho qG,planO,hu,planF_step hn ih hu ho qG]
theorem mA{n k o:Nat}(hn:n≤8)(ho:Ord o):planO n k o=if dQ o n k then 0 else(gK n).foldl (fun best p=>cond (undO o p) (min best (worthO n k o p.1 p.2)) best) (n*n):=
 planF_step hn (fun v _=>planF_eq hn v) rfl ho qG
theorem fold_le(u:Nat×Nat→Bool)(g:Nat×Nat→Nat):∀(l:List (Nat×Nat)) (a:Nat),l.foldl (fun best p=>cond (u p) (min best (g p)) best) a≤a∧∀p∈l,u p=true→l.foldl (fun best p=>cond (u p) (min best (g p)) best) a≤g p
 | [],a=>⟨Nat.le_refl _,fun _ h=>by cases h⟩
 | q::l,a=>by
  rw[List.foldl_cons];have ih:=fold_le u g l (cond (u q) (min a (g q)) a);have h1:cond (u q) (min a (g q)) a≤a:=by cases u q<;>simp<;>omega
  refine⟨Nat.le_trans ih.1 h1,fun p hp hu=> ?_⟩;rcases List.mem_cons.1 hp with rfl|hp
  ·rw[hu] at ih ⊢;exact Nat.le_trans ih.1 (Nat.min_le_right _ _)
  ·exact ih.2 p hp hu
theorem kU{n k o:Nat}(hn:n≤8)(ho:Ord o):planO n k o≤n*n:=by
 rw[mA hn ho];split
 ·exact Nat.zero_le _
 ·exact(fold_le _ _ _ _).1
theorem worth_comm(n k o a b:Nat):worthO n k o a b=worthO n k o b a:=by
 unfold worthO;rw[Nat.max_comm]
theorem plan_worth{n k o a b:Nat}(h:Und o n a b):planO n k o≤worthO n k o a b:=by
 rw[mA h.n8 h.ord];split
 ·exact Nat.zero_le _
 ·have h1:=h.hx;have h2:=h.hy;have h3:=h.ne;by_cases hab:b<a
  ·exact(fold_le (undO o) (fun p=>worthO n k o p.1 p.2) _ _).2 (a,b) (eY.2 ⟨h1,hab⟩) (gZ.2 ⟨h.xy,h.yx⟩)
  ·rw[worth_comm];exact(fold_le (undO o) (fun p=>worthO n k o p.1 p.2) _ _).2 (b,a) (eY.2 ⟨h2,by omega⟩) (gZ.2 ⟨h.yx,h.xy⟩)
structure Rn where
 a:Int
 b:Int
 lead:Int
structure Lb where
 skis:Int
 err:Int
 runs:List Rn
def runV(e:Int)(r:Rn):Option (Nat×Nat):=if e<r.lead then some (r.a.toNat,r.b.toNat) else if r.lead< -e then some (r.b.toNat,r.a.toNat) else none
def Lb.pairs(l:Lb):List (Nat×Nat):=l.runs.filterMap (runV l.err)
def Lb.ord(l:Lb):Nat:=iV l.pairs
def Lb.n(l:Lb):Nat:=l.skis.toNat
def inB(n lo hi:Int):Bool:=decide (lo≤n)&&decide (n≤hi)
theorem bX{n lo hi:Int}:inB n lo hi=true↔lo≤n∧n≤hi:=by simp[inB]
def knownB(l:Lb):Bool:=l.runs.all fun r=>inB r.a 0 (l.skis-1)&&(inB r.b 0 (l.skis-1)&&(!decide (r.a=r.b)))
def leadB(l:Lb):Bool:=l.runs.all fun r=>inB r.lead (-10000) 10000
def cG(l:Lb):Int:=if(inB l.skis 1 8&&inB l.err 0 1000)=false then 3 else if 40<l.runs.length then 2 else if knownB l=false then 1 else if leadB l=false then 3 else 0
structure Rn.Ok(s:Int)(r:Rn):Prop where
 a0:0≤r.a
 a1:r.a<s
 b0:0≤r.b
 b1:r.b<s
 ne:r.a≠r.b
 l0: -10000≤r.lead
 l1:r.lead≤10000
structure Lb.Ok(l:Lb):Prop where
 s0:1≤l.skis
 s1:l.skis≤8
 e0:0≤l.err
 e1:l.err≤1000
 len:l.runs.length≤40
 run:∀r∈l.runs,r.Ok l.skis
theorem dG{l:Lb}:cG l=0↔l.Ok:=by
 unfold cG;constructor
 ·intro h;split at h
  ·cases h
  split at h
  ·cases h
  split at h
  ·cases h
  split at h
  ·cases h
  rename_i h1 h2 h3 h4
  simp only[Bool.not_eq_false,Bool.and_eq_true,bX] at h1;simp only[Bool.not_eq_false] at h3 h4;refine⟨h1.1.1,h1.1.2,h1.2.1,h1.2.2,by omega,fun r hr=> ?_⟩;have h5:=List.all_eq_true.1 h3 r hr;have h6:=List.all_eq_true.1 h4 r hr;simp only[Bool.and_eq_true,bX,Bool.not_eq_true',decide_eq_false_iff_not] at h5 h6;exact⟨h5.1.1,by omega,h5.2.1.1,by omega,h5.2.2,h6.1,h6.2⟩
 ·intro h;rw[if_neg (by simp[bX,h.s0,h.s1,h.e0,h.e1]),if_neg (by have:=h.len;omega),if_neg,if_neg]
  ·simp only[Bool.not_eq_false];exact List.all_eq_true.2 fun r hr=>bX.2 ⟨(h.run r hr).l0,(h.run r hr).l1⟩
  ·simp only[Bool.not_eq_false];refine List.all_eq_true.2 fun r hr=> ?_
   have:=h.run r hr;simp only[Bool.and_eq_true,bX,Bool.not_eq_true',decide_eq_false_iff_not];exact⟨⟨this.a0,by have:=this.a1;omega⟩,⟨this.b0,by have:=this.b1;omega⟩,this.ne⟩
theorem runV_in{e s:Int}{r:Rn}(h:r.Ok s)(hs:s≤8){p:Nat×Nat}(hp:runV e r=some p):p.1<s.toNat∧p.2<s.toNat∧p.1≠p.2:=by
 have h1:=h.a0;have h2:=h.a1;have h3:=h.b0;have h4:=h.b1;have h5:=h.ne;unfold runV at hp;split at hp
 ·cases hp;simp only;omega
 ·split at hp
  ·cases hp;simp only;omega
  ·cases hp
theorem Lb.Ok.n8{l:Lb}(h:l.Ok):l.n≤8:=by have:=h.s0;have:=h.s1;unfold Lb.n;omega
theorem Lb.Ok.in{l:Lb}(h:l.Ok):∀p∈l.pairs,p.1<l.n∧p.2<l.n∧p.1≠p.2:=fun p hp=>by
 obtain⟨r,hr,h1⟩:=List.mem_filterMap.1 hp;exact runV_in (h.run r hr) h.s1 h1
theorem Lb.Ok.in8{l:Lb}(h:l.Ok):In8 l.pairs:=fun p hp=>by
 have h1:=h.in p hp;have h2:=h.n8;exact⟨by omega,by omega⟩
theorem Lb.Ok.o{l:Lb}(h:l.Ok):Ord l.ord:=order_ord _ h.in8
def iO(o n:Nat):Bool:=(List.range n).any (fun s=>fa o s s)&&true
theorem fK{o n:Nat}:iO o n=false↔NoC o n:=by
 unfold iO NoC;simp
def bQ(l:Lb):Int:=if cG l≠0 then cG l else if iO l.ord l.n=true then 7 else 0
theorem dE{l:Lb}:bQ l=0↔l.Ok∧NoC l.ord l.n:=by
 unfold bQ;by_cases h:cG l=0
 ·rw[if_neg (by simpa using h)];cases hc:iO l.ord l.n with
  | true=>
   simp only[if_true];constructor
   ·intro h;cases h
   ·rintro⟨_,h2⟩;rw[fK.2 h2] at hc;cases hc
  | false=>simp[dG.1 h,fK.1 hc]
 ·rw[if_pos h];constructor
  ·intro h2;exact absurd h2 h
  ·rintro⟨h1,_⟩;exact absurd (dG.2 h1) h
structure Rn.True(e:Int)(real:List Int)(r:Rn):Prop where
 lo:real.getD r.a.toNat 0-real.getD r.b.toNat 0-e≤r.lead
 hi:r.lead≤real.getD r.a.toNat 0-real.getD r.b.toNat 0+e
def Lb.True(l:Lb)(real:List Int):Prop:=∀r∈l.runs,r.True l.err real
def Lb.add(l:Lb)(r:Rn):Lb:=⟨l.skis,l.err,l.runs++[r]⟩
theorem add_pairs(l:Lb)(r:Rn):(l.add r).pairs=l.pairs++(runV l.err r).toList:=by
 unfold Lb.pairs Lb.add;simp only[List.filterMap_append];cases h:runV l.err r<;>simp[h]
theorem Lb.Ok.add{l:Lb}(h:l.Ok)(hn:l.runs.length<40){r:Rn}(hr:r.Ok l.skis):(l.add r).Ok:=
 ⟨h.s0,h.s1,h.e0,h.e1,by simp[Lb.add];omega,fun q hq=>by
  rcases List.mem_append.1 hq with hq|hq
  ·exact h.run q hq
  ·obtain rfl:=List.mem_singleton.1 hq;exact hr⟩
theorem add_some{l:Lb}{r:Rn}{p:Nat×Nat}(h:runV l.err r=some p):(l.add r).ord=cU l.ord p.1 p.2:=by
 unfold Lb.ord;rw[add_pairs,h];exact jN _ _
def Lb.loose(l:Lb)(d:Int):Lb:=⟨l.skis,l.err+d,l.runs⟩
def revO(o:Nat):Nat:=mkB (fun c=>o.testBit (8*(c%8)+c/8)) 64
theorem filter_congr2{α:Type}{p q:α→Bool}{l:List α}(h:∀a∈l,p a=q a):(l.filter p).length=(l.filter q).length:=Nat.le_antisymm (fL _ _ _ fun a ha hx=>by rw[←h a ha];exact hx) (fL _ _ _ fun a ha hx=>by rw[h a ha];exact hx)
def lenB(n:Int)(row:List Int)(k:Int):Bool:=inB row.length 1 20&&decide ((row.length:Int)=k)&&true
def cY(l:List (List Int)):Int:=if(inB l.length 1 12&&l.all (fun row=>inB row.length 1 20&&(decide (row.length=(l.headD []).length)&&true)))=false then 2 else if l.all (fun row=>row.all fun n=>inB n 0 10000)=false then 3 else 0
structure TabOk(l:List (List Int))(n:Nat):Prop where
 l1:1≤l.length
 l2:l.length≤12
 n1:1≤n
 n2:n≤20
 len:∀row∈l,row.length=n
 num:∀row∈l,∀x∈row,0≤x∧x≤10000
theorem fI{l:List (List Int)}:cY l=0↔TabOk l (l.headD []).length:=by
 unfold cY;constructor
 ·intro h;split at h
  ·cases h
  split at h
  ·cases h
  rename_i h1 h2
  simp only[Bool.not_eq_false,Bool.and_eq_true,bX,List.all_eq_true,Bool.and_true,decide_eq_true_eq] at h1 h2;obtain⟨⟨a,b⟩,c⟩:=h1;cases l with
  | nil=>simp at a
  | cons r l=>
   have hr:=c r List.mem_cons_self;exact⟨by omega,by omega,by simp only[List.headD_cons];omega,by simp only[List.headD_cons];omega,fun row hrow=>(c row hrow).2,fun row hrow x hx=>h2 row hrow x hx⟩
 ·intro h;rw[if_neg,if_neg]
  ·simp only[Bool.not_eq_false,List.all_eq_true];exact fun row hr x hx=>bX.2 (h.num row hr x hx)
  ·simp only[Bool.not_eq_false,Bool.and_eq_true,bX,List.all_eq_true,Bool.and_true,decide_eq_true_eq];refine⟨⟨by have:=h.l1;omega,by have:=h.l2;omega⟩,fun row hr=> ?_⟩;have h1:=h.len row hr;have h2:=h.n1;have h3:=h.n2;exact⟨⟨by omega,by omega⟩,h1⟩
def gt(l:List (List Int))(i s:Nat):Int:=(l.getD i []).getD s 0
def minF(a:Int)(l:List Int):Int:=l.foldl min a
def maxF(a:Int)(l:List Int):Int:=l.foldl max a
theorem min_le(a:Int):∀l:List Int,minF a l≤a∧∀x∈l,minF a l≤x:=by
 intro l
 induction l generalizing a with
 | nil=>exact⟨Int.le_refl _,fun _ h=>by cases h⟩
 | cons b l ih=>
  have:=ih (min a b);unfold minF at this ⊢;rw[List.foldl_cons];refine⟨by omega,fun x hx=> ?_⟩;rcases List.mem_cons.1 hx with rfl|hx
  ·omega
  ·exact this.2 x hx
theorem min_mem(a:Int):∀l:List Int,minF a l=a∨minF a l∈l:=by
 intro l
 induction l generalizing a with
 | nil=>exact .inl rfl
 | cons b l ih=>
  have:=ih (min a b);unfold minF at this ⊢;rw[List.foldl_cons];rcases this with h|h
  ·rw[h];by_cases hab:a≤b
   ·exact .inl qG
   ·exact .inr (by rw[show min a b=b from by omega];exact List.mem_cons_self)
  ·exact .inr (List.mem_cons_of_mem _ h)
theorem max_ge(a:Int):∀l:List Int,a≤maxF a l∧∀x∈l,x≤maxF a l:=by
 intro l
 induction l generalizing a with
 | nil=>exact⟨Int.le_refl _,fun _ h=>by cases h⟩
 | cons b l ih=>
  have:=ih (max a b);unfold maxF at this ⊢;rw[List.foldl_cons];refine⟨by omega,fun x hx=> ?_⟩;rcases List.mem_cons.1 hx with rfl|hx
  ·omega
  ·exact this.2 x hx
theorem max_mem(a:Int):∀l:List Int,maxF a l=a∨maxF a l∈l:=by
 intro l
 induction l generalizing a with
 | nil=>exact .inl rfl
 | cons b l ih=>
  have:=ih (max a b);unfold maxF at this ⊢;rw[List.foldl_cons];rcases this with h|h
  ·rw[h];by_cases hab:b≤a
   ·exact .inl qG
   ·exact .inr (by rw[show max a b=b from by omega];exact List.mem_cons_self)
  ·exact .inr (List.mem_cons_of_mem _ h)
def lowV(l:List (List Int))(s:Nat):Int:=minF (gt l 0 s) (l.map fun row=>row.getD s 0)
def regRow(l:List (List Int))(n:Nat)(row:List Int):List Int:=(List.range n).map fun s=>row.getD s 0-lowV l s
def cA(l:List (List Int))(n:Nat):List (List Int):=l.map (regRow l n)
theorem dS(l:List (List Int))(n:Nat):(cA l n).length=l.length:=by simp[cA]
theorem gT(l:List (List Int))(n:Nat)(row:List Int):(regRow l n row).length=n:=by simp[regRow]
theorem regRow_get(l:List (List Int))(n:Nat)(row:List Int){s:Nat}(hs:s<n):(regRow l n row).getD s 0=row.getD s 0-lowV l s:=by
 unfold regRow;rw[List.getD_eq_getElem?_getD,List.getElem?_map,List.getElem?_range hs]
 rfl
theorem low_le{l:List (List Int)}{row:List Int}(h:row∈l)(s:Nat):lowV l s≤row.getD s 0:=(min_le _ _).2 _ (List.mem_map.2 ⟨row,h,rfl⟩)
theorem low_mem{l:List (List Int)}(h:l≠[])(s:Nat):∃row∈l,lowV l s=row.getD s 0:=by
 rcases min_mem (gt l 0 s) (l.map fun row=>row.getD s 0) with h1|h1
 ·cases l with
  | nil=>exact absurd rfl h
  | cons r l=>exact⟨r,List.mem_cons_self,h1⟩
 ·obtain⟨row,hr,h2⟩:=List.mem_map.1 h1;exact⟨row,hr,h2.symm⟩
theorem reg_nonneg{l:List (List Int)}{n:Nat}{row:List Int}(h:row∈l):∀x∈regRow l n row,0≤x:=fun x hx=>by
 obtain⟨s,_,rfl⟩:=List.mem_map.1 hx;have:=low_le h s;omega
def iS(row:List Int)(a b:Nat):List Int:=(row.drop a).take (b+1-a)
def topR(row:List Int)(a b:Nat):Int:=match iS row a b with
 | []=>0
 | x::l=>maxF x l
theorem top_ge{row:List Int}{a b:Nat}:∀x∈iS row a b,x≤topR row a b:=fun x hx=>by
 unfold topR;cases h:iS row a b with
 | nil=>rw[h] at hx;cases hx
 | cons y l=>
  rw[h] at hx;rcases List.mem_cons.1 hx with rfl|hx
  ·exact(max_ge _ _).1
  ·exact(max_ge _ _).2 x hx
theorem top_mem{row:List Int}{a b:Nat}(h:iS row a b≠[]):topR row a b∈iS row a b:=by
 unfold topR;cases h1:iS row a b with
 | nil=>exact absurd h1 h
 | cons y l=>
  show maxF y l∈y::l
  rcases max_mem y l with h2|h2
  ·rw[h2];exact List.mem_cons_self
  ·exact List.mem_cons_of_mem _ h2
theorem span_sub{row:List Int}{a b:Nat}:∀x∈iS row a b,x∈iS row 0 (row.length-1):=fun x hx=>by
 unfold iS at hx ⊢;have h1:x∈row:=List.mem_of_mem_drop (List.mem_of_mem_take hx);rw[List.drop_zero,List.take_of_length_le qG];exact h1
def waxF(rs:List (List Int))(a b:Nat):Nat→Int×Int
 | 0=>(0,10001)
 | i+1=>let p:=waxF rs a b i;let x:=topR (rs.getD i []) a b;if x<p.2 then((i:Int),x) else p
structure BestW(rs:List (List Int))(a b m:Nat)(p:Int×Int):Prop where
 w0:0≤p.1
 le:∀i,i<m→p.2≤topR (rs.getD i []) a b
 lt:∀i,i<m→(i:Int)<p.1→p.2<topR (rs.getD i []) a b
 at_:0<m→p.1<m∧topR (rs.getD p.1.toNat []) a b=p.2
theorem wax_best{rs:List (List Int)}{a b:Nat}:∀m,(∀i,i<m→topR (rs.getD i []) a b≤10000)→BestW rs a b m (waxF rs a b m)
 | 0,_=>⟨by simp[waxF],fun _ h=>by omega,fun _ h=>by omega,fun h=>by omega⟩
 | m+1,h=>by
  have ih:=wax_best m (fun i hi=>h i qG);have hm:=h m qG;unfold waxF;simp only;generalize hp:waxF rs a b m=p at ih ⊢;generalize hx:topR (rs.getD m []) a b=x at hm ⊢;split
  ·rename_i hlt
   refine⟨by simp only;omega,fun i hi=> ?_,fun i hi hlt2=> ?_,fun _=>⟨by simp only;omega,by simp only[Int.toNat_natCast];exact hx⟩⟩
   ·by_cases e:i=m
    ·subst e;simp only;omega
    ·have:=ih.le i qG;simp only;omega
   ·have h2:i<m:=by simp only at hlt2;omega
    have:=ih.le i h2;simp only;omega
  ·rename_i hge
   refine⟨ih.w0,fun i hi=> ?_,fun i hi hlt2=> ?_,fun _=> ?_⟩
   ·by_cases e:i=m
    ·subst e;omega
    ·exact ih.le i qG
   ·by_cases h0:m=0
    ·subst h0;have h1:=ih.w0;simp only[waxF] at hp;subst hp;simp only at hlt2;omega
    ·have:=(ih.at_ qG).1;exact ih.lt i qG hlt2
   ·by_cases h0:m=0
    ·subst h0;simp only[waxF] at hp;subst hp;simp only at hge;omega
    ·have:=ih.at_ qG;exact⟨by omega,this.2⟩
theorem getD_mem{l:List Int}{i:Nat}(h:i<l.length):l.getD i 0∈l:=by
 rw[List.getD_eq_getElem?_getD,List.getElem?_eq_getElem h];exact List.getElem_mem h
def worseV(l:List (List Int))(s:Nat)(d:Int):List (List Int):=l.map fun row=>row.set s (row.getD s 0+d)
theorem kT(row:List Int)(s t:Nat)(x:Int)(hs:s<row.length):(row.set s x).getD t 0=if t=s then x else row.getD t 0:=by
 rw[List.getD_eq_getElem?_getD,List.getD_eq_getElem?_getD,List.getElem?_set];by_cases h:s=t
 ·subst h;simp[hs]
 ·rw[if_neg h,if_neg (fun e=>h e.symm)]
def nF(l:Lb)(a b:Int):Int:=if cG l≠0 then cG l else if(inB a 0 (l.skis-1)&&inB b 0 (l.skis-1))=false then 1 else 0
def eD(l:Lb):Int→List Int→Option Int
 | a,[]=>some a
 | a,i::c=>match runV l.err (l.runs.getD i.toNat ⟨0,0,0⟩) with
  | none=>none
  | some p=>if(p.1:Int)=a then eD l p.2 c else none
def chainV(l:Lb)(a b:Int)(c:List Int):Bool×Int:=
 if nF l a b≠0 then(false,nF l a b) else if c.all (fun i=>inB i 0 (l.runs.length-1))=false then(false,1) else(match eD l a c with|none=>false|some x=>decide (x=b)&&(!c.isEmpty&&true),0)
def lC(row:List Int)(most:Int)(a:Nat):Nat:=((row.drop a).takeWhile fun x=>decide (x≤most)).length
def dW(rs:List (List Int))(most:Int)(a:Nat):Nat→Int×Int
 | 0=>(-1,0)
 | i+1=>let p:=dW rs most a i;let x:Int:=a-1+lC (rs.getD i []) most a;if p.1<x then(x,(i:Int)) else p
def zonesF(rs:List (List Int))(most:Int)(n:Nat):Nat→Nat→List (Int×Int×Int)
 | 0,_=>[]
 | f+1,a=>if a<n then let p:=dW rs most a rs.length;((a:Int),p.1,p.2)::zonesF rs most n f (p.1+1).toNat else[]
def cJ(l:List (List Int))(most:Int):Int:=if cY l≠0 then cY l else if inB most 0 10000=false then 3 else 0
def nV(l:List (List Int)):Nat:=(l.headD []).length
def zonesV(l:List (List Int))(most:Int):List (Int×Int×Int)×Int:=if cJ l most≠0 then([],cJ l most) else(zonesF (cA l (nV l)) most (nV l) (nV l+1) 0,0)
def lD(row:List Int)(most:Int)(a b:Nat):Bool:=(iS row a b).all fun x=>decide (x≤most)
def brkF(rs:List (List Int))(most:Int):List Int→Bool
 | a::b::l=>if b≤a then false else if rs.any (fun row=>lD row most a.toNat b.toNat) then false else brkF rs most (b::l)
 | _=>true
def eS(l:List (List Int))(most:Int)(br:List Int):Bool×Int:=
 if cJ l most≠0 then(false,cJ l most) else if br.all (fun s=>inB s 0 ((nV l:Int)-1))=false then(false,1) else(if brkF (cA l (nV l)) most br=true then !br.isEmpty&&true else false,0)
def dD(l:Lb)(k:Int):Int:=if cG l≠0 then cG l else if inB k 1 l.skis=false then 3 else 0
def plannedV(l:Lb)(k:Int):Int:=if dD l k≠0 then dD l k else if 5<l.skis then 10 else bQ l
def fO(l:Lb)(k:Int):Int×Int:=if plannedV l k≠0 then(0,plannedV l k) else((planO l.n k.toNat l.ord:Nat),0)
def placesV(l:Lb):List (Int×Int):=(List.range l.n).map fun s=>((1+upN l.ord s l.n:Nat),l.skis-dnN l.ord s l.n)
def fQ:Lb:=⟨4,5,[⟨0,1,8⟩,⟨1,2,3⟩,⟨2,1,-9⟩,⟨3,0,-6⟩]⟩
def threeT:List (List Int):=[[5,4,9,9],[6,2,3,8],[9,9,2,1]]
theorem aw_check:bQ fQ=0:=by decide +kernel
theorem aw_places:placesV fQ=[(1,1),(2,3),(3,4),(2,4)]:=by decide +kernel
theorem aw_orders:cnt fQ.ord 4 15=3:=by decide +kernel
theorem aw_chain:chainV fQ 0 2 [0,2]=(true,0):=by decide +kernel
theorem aw_zones:zonesV threeT 1=([(0,2,1),(3,3,2)],0):=by decide +kernel
theorem aw_breaks:eS threeT 1 [0,3]=(true,0):=by decide +kernel
theorem pM{α:Type}{p:α→Bool}:∀{l:List α} {k:Nat},k≤l.length→(∀i (h:i<l.length),i<k→p l[i]=true)→(∀h:k<l.length,p l[k]=false)→(l.takeWhile p).length=k
 | [],k,hk,_,_=>by simp at hk;simp[hk]
 | x::l,0,_,_,h2=>by
  have:=h2 (by simp);simp only[List.getElem_cons_zero] at this;simp[List.takeWhile_cons,this]
 | x::l,k+1,hk,h1,h2=>by
  have h0:=h1 0 (by simp) qG;simp only[List.getElem_cons_zero] at h0;rw[List.takeWhile_cons,if_pos h0,List.length_cons,pM (k:=k) (by simpa using hk) (fun i h hi=>by have:=h1 (i+1) (by simpa using h) qG;simpa using this) (fun h=>by have:=h2 (by simpa using h);simpa using this)]
theorem eH{r:List Int}{s:Nat}(hs:s<r.length):r.getD s 0=r[s]:=by
 simp only[List.getD_eq_getElem?_getD,Option.getD_some,List.getElem?_eq_getElem hs]
theorem goodN_eq{row:List Int}{most:Int}{a t:Nat}(hat:a≤t)(ht:t≤row.length)(h1:∀s,a≤s→s<t→row.getD s 0≤most)(h2:t<row.length→¬row.getD t 0≤most):lC row most a=t-a:=by
 unfold lC;refine pM (by rw[List.length_drop];omega) (fun i h hi=> ?_) (fun h=> ?_)
 ·rw[List.length_drop] at h;rw[List.getElem_drop,←eH];simpa using h1 (a+i) qG qG
 ·rw[List.length_drop] at h;rw[List.getElem_drop,←eH,show a+(t-a)=t from by omega];simpa using h2 qG
theorem goodN_le(row:List Int)(most:Int)(a:Nat):lC row most a≤row.length-a:=by
 unfold lC;have:=(List.takeWhile_sublist (l:=row.drop a) (fun x=>decide (x≤most))).length_le
 rwa [List.length_drop] at this
theorem goodN_good{row:List Int}{most:Int}{a s:Nat}(h1:a≤s)(h2:s<a+lC row most a):row.getD s 0≤most:=by
 have h3:=goodN_le row most a;have hs:s<row.length:=by omega
 rw[eH hs];unfold lC at h2;have hp:s-a<((row.drop a).takeWhile fun x=>decide (x≤most)).length:=by omega
 have h4:=List.all_eq_true.1 (List.all_takeWhile (l:=row.drop a) (p:=fun x=>decide (x≤most))) _ (List.getElem_mem hp)
 have h5:((row.drop a).takeWhile fun x=>decide (x≤most))[s-a]=row[s]:=by
  have h6:(row.drop a)[s-a]'(by rw[List.length_drop];omega)=row[s]:=by
   rw[List.getElem_drop]
   congr 1
   omega
  rw[←h6];exact(List.takeWhile_prefix _).getElem hp
 rw[h5] at h4;simpa using h4
theorem goodN_pos{row:List Int}{most:Int}{a:Nat}(ha:a<row.length)(h:row.getD a 0≤most):1≤lC row most a:=by
 unfold lC;rw[List.drop_eq_getElem_cons ha,List.takeWhile_cons,if_pos (by rw[←eH ha];simpa using h)];simp
theorem zone_ge{rs:List (List Int)}{most:Int}{a:Nat}:∀m i,i<m→(a:Int)-1+lC (rs.getD i []) most a≤(dW rs most a m).1
 | m+1,i,h=>by
  unfold dW;dsimp only;split
  ·rename_i h1
   by_cases e:i=m
   ·subst e;exact Int.le_refl _
   ·have:=zone_ge (rs:=rs) (most:=most) (a:=a) m i qG;dsimp only;omega
  ·rename_i h1
   by_cases e:i=m
   ·subst e;omega
   ·exact zone_ge m i qG
theorem zone_lt{rs:List (List Int)}{most:Int}{a n:Nat}(hn:∀row∈rs,row.length=n)(ha:a<n):∀m,(dW rs most a m).1<n
 | 0=>by show(-1:Int)<n;omega
 | m+1=>by
  have ih:=zone_lt hn ha (most:=most) m;unfold dW;dsimp only;split
  ·dsimp only;have h1:=goodN_le (rs.getD m []) most a
   have h2:(rs.getD m []).length≤n:=by
    rw[List.getD_eq_getElem?_getD];by_cases hm:m<rs.length
    ·rw[List.getElem?_eq_getElem hm];exact Nat.le_of_eq (hn _ (List.getElem_mem hm))
    ·rw[List.getElem?_eq_none qG];simp
   omega
  ·exact ih
theorem zone_wax{rs:List (List Int)}{most:Int}{a:Nat}:∀m,(dW rs most a m).1= -1∨∃i,i<m∧(dW rs most a m).2=(i:Int)∧(dW rs most a m).1=(a:Int)-1+lC (rs.getD i []) most a
 | 0=> .inl rfl
 | m+1=>by
  unfold dW;dsimp only;split
  ·exact .inr ⟨m,by omega,J,J⟩
  ·rcases zone_wax (rs:=rs) (most:=most) (a:=a) m with h|⟨i,h1,h2⟩
   ·exact .inl h
   ·exact .inr ⟨i,by omega,h2⟩
theorem zone_has{l:List (List Int)}{n:Nat}{most:Int}(hl:TabOk l n)(hm:0≤most){a:Nat}(ha:a<n):(a:Int)≤(dW (cA l n) most a l.length).1:=by
 obtain⟨row,hr,he⟩:=low_mem (l:=l) (by intro e;have:=hl.l1;rw[e] at this;simp at this) a;obtain⟨i,hi,rfl⟩:=List.mem_iff_getElem.1 hr;have h1:=zone_ge (rs:=cA l n) (most:=most) (a:=a) l.length i hi
 have e:(cA l n).getD i []=regRow l n l[i]:=by
  unfold cA;rw[List.getD_eq_getElem?_getD,List.getElem?_map,List.getElem?_eq_getElem hi]
  rfl
 rw[e] at h1;have h2:=goodN_pos (row:=regRow l n l[i]) (most:=most) (a:=a) (by rw[gT];exact ha) (by rw[regRow_get _ _ _ ha,he];omega);omega
theorem nU{rs:List (List Int)}{most:Int}{n f a:Nat}(ha:a<n):zonesF rs most n (f+1) a=((a:Int),(dW rs most a rs.length).1,(dW rs most a rs.length).2)::zonesF rs most n f ((dW rs most a rs.length).1+1).toNat:=by
 show(if a<n then _ else _)=_
 rw[if_pos ha]
theorem jU{rs:List (List Int)}{most:Int}{n f a:Nat}(ha:n≤a):zonesF rs most n f a=[]:=by
 cases f with
 | zero=>rfl
 | succ f=>
  unfold zonesF;rw[if_neg qG]
theorem getD_set(L:List Int)(i p:Nat)(v:Int)(hi:i<L.length):(L.set i v).getD p 0=if p=i then v else L.getD p 0:=by
 simp only[List.getD_eq_getElem?_getD,List.getElem?_set];by_cases h:i=p
 ·rw[if_pos h,if_pos h.symm,if_pos hi]
  rfl
 ·rw[if_neg h,if_neg (fun hh=>h hh.symm)]
def LtK(key:Int→Int)(a b:Int):Prop:=key a<key b∨(key a=key b∧a<b)
theorem LtK.trans{key:Int→Int}{a b c:Int}(h1:LtK key a b)(h2:LtK key b c):LtK key a c:=by
 unfold LtK at *;omega
structure SrI(key:Int→Int)(l L:List Int)(i:Nat):Prop where
 perm:L.Perm l
 srt:∀p q,p<q→q<i→LtK key (L.getD p 0) (L.getD q 0)
 ord:∀p q,p<i→i≤q→q<l.length→L.getD p 0<L.getD q 0
 tail:∀p q,i≤p→p<q→q<l.length→L.getD p 0<L.getD q 0
structure SrJ(key:Int→Int)(l L:List Int)(i j:Nat):Prop where
 perm:L.Perm l
 ji:j≤i
 srt:∀p q,p<q→q≤i→p≠j→q≠j→LtK key (L.getD p 0) (L.getD q 0)
 low:∀q,j<q→q≤i→LtK key (L.getD j 0) (L.getD q 0)
 big:∀q,q≤i→q≠j→L.getD q 0<L.getD j 0
 ord:∀p q,p≤i→i<q→q<l.length→L.getD p 0<L.getD q 0
 tail:∀p q,i<p→p<q→q<l.length→L.getD p 0<L.getD q 0
variable {key : Int → Int} {l L : List Int} {i j : Nat}
theorem SrI.open(h:SrI key l L i)(hi:i<l.length):SrJ key l L i i where
 perm:=h.perm
 ji:=Nat.le_refl _
 srt:=fun p q h1 h2 _ h3=>h.srt p q h1 qG
 low:=fun q h1 h2=>by omega
 big:=fun q h1 h2=>h.ord q i qG (Nat.le_refl _) hi
 ord:=fun p q h1 h2 h3=>by
  by_cases e:p=i
  ·exact h.tail p q qG qG h3
  ·exact h.ord p q qG qG h3
 tail:=fun p q h1 h2 h3=>h.tail p q qG h2 h3
theorem SrJ.close(h:SrJ key l L i j)(hj:j=0∨¬key (L.getD j 0)<key (L.getD (j-1) 0)):SrI key l L (i+1) where
 perm:=h.perm
 srt:=fun p q h1 h2=>by
  by_cases hp:p=j
  ·subst hp;exact h.low q h1 qG
  by_cases hq:q=j
  ·subst hq;rcases hj with hj|hj
   ·omega
   ·have h4:=h.big (q-1) qG qG;have h5:LtK key (L.getD (q-1) 0) (L.getD q 0):=by unfold LtK;omega
    by_cases hp2:p=q-1
    ·rw[hp2];exact h5
    ·exact(h.srt p (q-1) qG (by have:=h.ji;omega) hp qG).trans h5
  ·exact h.srt p q h1 qG hp hq
 ord:=fun p q h1 h2 h3=>h.ord p q qG qG h3
 tail:=fun p q h1 h2 h3=>h.tail p q qG h2 h3
theorem SrJ.swap(h:SrJ key l L i j)(hj:0<j)(hi:i<L.length)(hlt:key (L.getD j 0)<key (L.getD (j-1) 0)){x y:Int}(hx:L.getD (j-1) 0=x)(hy:L.getD j 0=y):SrJ key l ((L.set j x).set (j-1) y) i (j-1):=by
 have hji:=h.ji
 have e:∀p,((L.set j x).set (j-1) y).getD p 0=if p=j-1 then y else if p=j then x else L.getD p 0:=fun p=>by
  rw[getD_set _ _ _ _ (by simp;omega),getD_set _ _ _ _ qG]
 refine⟨List.Perm.trans ?_ h.perm,by omega,fun p q h1 h2 h3 h4=> ?_,fun q h1 h2=> ?_,fun q h1 h2=> ?_,fun p q h1 h2 h3=> ?_,fun p q h1 h2 h3=> ?_⟩
 ·have h1:j<L.length:=by omega
  have h2:j-1<L.length:=by omega
  have ex:x=L[j-1]:=by rw[←hx,eH h2]
  have ey:y=L[j]:=by rw[←hy,eH h1]
  subst ex ey;exact List.set_set_perm h1 h2
 ·rw[e,e,if_neg h3,if_neg h4];by_cases hp:p=j
  ·rw[if_pos hp,if_neg qG,←hx];exact h.srt (j-1) q qG h2 qG qG
  ·rw[if_neg hp];by_cases hq:q=j
   ·rw[if_pos hq,←hx];exact h.srt p (j-1) qG qG hp qG
   ·rw[if_neg hq];exact h.srt p q h1 h2 hp hq
 ·rw[e,e,if_pos rfl,if_neg qG,←hy];by_cases hq:q=j
  ·rw[if_pos hq,←hx];exact .inl hlt
  ·rw[if_neg hq];exact h.low q qG h2
 ·rw[e,e,if_pos rfl,if_neg h2,←hy];by_cases hq:q=j
  ·rw[if_pos hq,←hx];exact h.big (j-1) qG qG
  ·rw[if_neg hq];exact h.big q h1 hq
 ·rw[e p,e q,if_neg (show ¬q=j-1 by omega),if_neg (show ¬q=j by omega)];split
  ·rw[←hy];exact h.ord j q qG h2 h3
  ·split
   ·rw[←hx];exact h.ord (j-1) q qG h2 h3
   ·exact h.ord p q h1 h2 h3
 ·rw[e,e,if_neg qG,if_neg qG,if_neg qG,if_neg qG];exact h.tail p q h1 h2 h3
def SrtK(key:Int→Int)(L:List Int):Prop:=∀p q,p<q→q<L.length→LtK key (L.getD p 0) (L.getD q 0)
def eR(n:Nat):List Int:=(List.range n).map fun(i:Nat)=>(i:Int)
theorem fA(n:Nat):(eR n).length=n:=by simp[eR]
theorem iota_get{n i:Nat}(h:i<n):(eR n).getD i 0=i:=by
 unfold eR;rw[List.getD_eq_getElem?_getD,List.getElem?_map,List.getElem?_range h]
 rfl
theorem SrI.start(n:Nat):SrI key (eR n) (eR n) 1 where
 perm:= .refl _
 srt:=fun p q h1 h2=>by omega
 ord:=fun p q h1 h2 h3=>by
  rw[fA] at h3;rw[iota_get qG,iota_get h3];omega
 tail:=fun p q h1 h2 h3=>by
  rw[fA] at h3;rw[iota_get qG,iota_get h3];omega
theorem SrI.all(h:SrI key l L l.length):SrtK key L:=fun p q h1 h2=>h.srt p q h1 (by rw[←h.perm.length_eq];exact h2)
theorem srt_uniq{key:Int→Int}:∀{L M:List Int},SrtK key L→SrtK key M→L.Perm M→L=M
 | [],M,_,_,hp=>(List.nil_perm.1 hp).symm▸rfl
 | a::L,[],_,_,hp=>by have:=hp.length_eq;simp at this
 | a::L,b::M,h1,h2,hp=>by
  have hab:a=b:=by
   have ha:a∈b::M:=hp.subset (.head _);have hb:b∈a::L:=hp.symm.subset (.head _);rcases List.mem_cons.1 ha with e|ha
   ·exact e
   rcases List.mem_cons.1 hb with e|hb
   ·exact e.symm
   obtain⟨i,hi,ei⟩:=List.mem_iff_getElem.1 ha;obtain⟨j,hj,ej⟩:=List.mem_iff_getElem.1 hb;have h3:=h1 0 (j+1) qG (by simpa using hj);have h4:=h2 0 (i+1) qG (by simpa using hi);rw[eH (by simp),eH (by simpa using hj)] at h3;rw[eH (by simp),eH (by simpa using hi)] at h4;simp only[List.getElem_cons_zero,List.getElem_cons_succ,ei,ej] at h3 h4;unfold LtK at h3 h4;omega
  subst hab
  have ht:∀{X:List Int},SrtK key (a::X)→SrtK key X:=fun hX p q h3 h4=>by
   have:=hX (p+1) (q+1) qG (by simpa using h4);simpa using this
  rw[srt_uniq (ht h1) (ht h2) hp.cons_inv]
end Go.Proofs.YtoljppohibpenaaGreat
namespace Go.Proofs.YtoljppohibpenaaGreat
open Go Go.Eng
set_option maxRecDepth 4000
def cD(st:List Int):Int:=if(inB st.length 2 16&&(!decide (st.length%2=1)&&true))=false then 2 else if(st.all fun n=>inB n 0 100000)=false then 3 else 0
structure SingOk(st:List Int):Prop where
 l1:2≤st.length
 l2:st.length≤16
 ev:st.length%2=0
 num:∀x∈st,0≤x∧x≤100000
theorem gP{st:List Int}:cD st=0↔SingOk st:=by
 unfold cD;constructor
 ·intro h;split at h
  ·cases h
  ·rename_i h1
   split at h
   ·cases h
   ·rename_i h2
    simp only[Bool.not_eq_false,Bool.and_eq_true] at h1 h2;have h3:=bX.1 h1.1;refine⟨by omega,by omega,?_,fun x hx=>bX.1 (List.all_eq_true.1 h2 x hx)⟩;have h4:=h1.2.1;simp at h4;omega
 ·rintro⟨h1,h2,h3,h4⟩
  rw[if_neg (by
   have:¬st.length%2=1:=by omega
   simp[bX.2 (show(2:Int)≤st.length∧(st.length:Int)≤16 by omega),this]),if_neg (by
   simp only[Bool.not_eq_false,List.all_eq_true];exact fun x hx=>bX.2 (h4 x hx))]
def insK(key:Int→Int)(x:Int):List Int→List Int
 | []=>[x]
 | y::l=>if key x<key y then x::y::l else y::insK key x l
def isortF(key:Int→Int):List Int→List Int→List Int
 | acc,[]=>acc
 | acc,x::l=>isortF key (insK key x acc) l
theorem ins_perm(key:Int→Int)(x:Int):∀l,(insK key x l).Perm (x::l)
 | []=> .refl _
 | y::l=>by
  unfold insK;split
  ·exact .refl _
  ·exact((ins_perm key x l).cons y).trans (.swap _ _ _)
theorem isort_perm(key:Int→Int):∀(acc l:List Int),(isortF key acc l).Perm (acc++l)
 | acc,[]=>by simp[isortF]
 | acc,x::l=>by
  unfold isortF;refine(isort_perm key _ l).trans (((ins_perm key x acc).append_right l).trans ?_);rw[List.cons_append];exact List.perm_middle.symm
theorem ins_srt(key:Int→Int)(x:Int):∀l:List Int,l.Pairwise (LtK key)→(∀y∈l,y<x)→(insK key x l).Pairwise (LtK key)
 | [],_,_=>by simp[insK]
 | y::l,h,hx=>by
  unfold insK;have h1:=List.pairwise_cons.1 h;split
  ·rename_i hk
   refine List.pairwise_cons.2 ⟨fun z hz=> ?_,h⟩;have hy:LtK key x y:= .inl hk;rcases List.mem_cons.1 hz with rfl|hz
   ·exact hy
   ·exact hy.trans (h1.1 z hz)
  ·rename_i hk
   refine List.pairwise_cons.2 ⟨fun z hz=> ?_,ins_srt key x l h1.2 (fun z hz=>hx z (.tail _ hz))⟩;rcases List.mem_cons.1 ((ins_perm key x l).subset hz) with rfl|hz
   ·have:=hx y (.head _);unfold LtK;omega
   ·exact h1.1 z hz
theorem isort_srt(key:Int→Int):∀(acc l:List Int),acc.Pairwise (LtK key)→l.Pairwise (· < ·)→(∀x∈acc,∀y∈l,x<y)→(isortF key acc l).Pairwise (LtK key)
 | acc,[],h,_,_=>h
 | acc,x::l,h,hl,ha=>by
  unfold isortF;have h1:=List.pairwise_cons.1 hl;refine isort_srt key _ l (ins_srt key x acc h (fun y hy=>ha y hy x (.head _))) h1.2 (fun y hy z hz=> ?_);rcases List.mem_cons.1 ((ins_perm key x acc).subset hy) with rfl|hy
  ·exact h1.1 z hz
  ·exact ha y hy z (.tail _ hz)
theorem srtK_of{key:Int→Int}{L:List Int}(h:L.Pairwise (LtK key)):SrtK key L:=fun p q h1 h2=>by
 rw[eH qG,eH h2];exact List.pairwise_iff_getElem.1 h p q qG h2 h1
theorem iota_lt(n:Nat):(eR n).Pairwise (· < ·):=by
 unfold eR;rw[List.pairwise_map];exact List.pairwise_lt_range.imp fun h=>by omega
def ordK(key:Int→Int)(n:Nat):List Int:=isortF key [] (eR n)
theorem lL(key:Int→Int)(n:Nat):(ordK key n).Perm (eR n):=by
 have:=isort_perm key [] (eR n)
 rwa [List.nil_append] at this
theorem ordK_eq{key:Int→Int}{n:Nat}{L:List Int}(hp:L.Perm (eR n))(hs:SrtK key L):L=ordK key n:=
 srt_uniq hs (srtK_of (isort_srt key [] (eR n) .nil (iota_lt n) (fun _ h=>by cases h))) (hp.trans (lL key n).symm)
theorem iota_mem{n:Nat}{x:Int}:x∈eR n↔0≤x∧x<n:=by
 unfold eR;rw[List.mem_map];constructor
 ·rintro⟨i,hi,rfl⟩;have:=List.mem_range.1 hi;omega
 ·intro h;exact⟨x.toNat,List.mem_range.2 qG,by omega⟩
theorem ordK_mem{key:Int→Int}{n:Nat}{x:Int}:x∈ordK key n↔0≤x∧x<n:=(lL key n).mem_iff.trans iota_mem
theorem ordK_len(key:Int→Int)(n:Nat):(ordK key n).length=n:=by rw[(lL key n).length_eq,fA]
def costF(st:List Int):List Int→Int
 | a::b::l=>costF st l+(st.getD b.toNat 0-st.getD a.toNat 0)
 | _=>0
def stK(st:List Int)(x:Int):Int:=st.getD x.toNat 0
def eE(st:List Int):List Int:=ordK (stK st) st.length
def jK(st:List Int)(x:Int):Nat:=st.countP fun n=>decide (n≤x)
def fF(st:List Int)(x:Int):Nat:=st.countP fun n=>decide (x≤n)
def eK(st:List Int)(p:Option Int)(g:Int×Int):Bool:=decide (g.2≤g.1)||((match p with|some x=>decide (g.1<x)|none=>false)||(decide (jK st g.1%2=0)||decide (jK st g.1+fF st g.2≠st.length)))
def jZ(st:List Int):Option Int→List (Int×Int)→Option Int
 | _,[]=>some 0
 | p,g::l=>if eK st p g=true then none else(jZ st (some g.2) l).map fun s=>s+(g.2-g.1)
def jW(st:List Int)(gs:List (Int×Int)):Int×Int:=if cD st≠0 then(0,cD st) else if 16<gs.length then(0,2) else match jZ st none gs with|some s=>(s,0)|none=>(0,8)
def sixL:List Int:=[50,20,41,23,60,38]
theorem aw_sing:cD sixL=0:=by decide +kernel
theorem aw_cost:costF sixL (eE sixL)=16:=by decide +kernel
theorem aw_gaps:jW sixL [(20,23),(38,41),(50,60)]=(16,0):=by decide +kernel
theorem costF_nb(st:List Int):∀L:List Int,costF st L=nbV (L.map (stK st))
 | []=>rfl
 | [_]=>rfl
 | a::b::l=>by
  have ih:=costF_nb st l;simp only[costF,List.map_cons,nbV,ih];unfold stK;omega
theorem iota_map(st:List Int):(eR st.length).map (stK st)=st:=by
 refine List.ext_getElem (by simp[fA]) fun i h1 h2=> ?_;simp[eR,stK,List.getD_eq_getElem?_getD,h2]
def srtV(st:List Int):List Int:=(eE st).map (stK st)
theorem srtV_perm(st:List Int):(srtV st).Perm st:=by
 have h:=(lL (stK st) st.length).map (stK st);rw[iota_map] at h;exact h
theorem srtV_srt(st:List Int):(srtV st).Pairwise (· ≤ ·):=by
 have h:=isort_srt (stK st) [] (eR st.length) .nil (iota_lt st.length) (fun _ h=>by cases h);unfold srtV eE ordK;rw[List.pairwise_map];refine h.imp fun {a b} hab=> ?_
 unfold LtK at hab;omega
theorem srtV_len(st:List Int):(srtV st).length=st.length:=(srtV_perm st).length_eq
theorem soft_ws{st:List Int}(h:SingOk st):costF st (eE st)=wsV 100000 st:=by
 rw[costF_nb]
 show nbV (srtV st)=_
 have hp:=srtV_perm st;rw[←ws_perm 100000 hp];exact(ws_sorted 100000 (srtV st) (by rw[srtV_len];exact h.ev) (srtV_srt st) (fun y hy=>by have:=h.num y (hp.mem_iff.1 hy);omega)).symm
def gpV:List Int→List (Int×Int)
 | a::b::r=>if a<b then(a,b)::gpV r else gpV r
 | _=>[]
theorem gpV_len:∀L:List Int,2*(gpV L).length≤L.length
 | []=>by simp[gpV]
 | [_]=>by simp[gpV]
 | a::b::r=>by
  have ih:=gpV_len r;unfold gpV;split
  ·simp only[List.length_cons];omega
  ·simp only[List.length_cons];omega
theorem low_perm{l m:List Int}(h:l.Perm m)(x:Int):jK l x=jK m x:=h.countP_eq _
theorem high_perm{l m:List Int}(h:l.Perm m)(x:Int):fF l x=fF m x:=h.countP_eq _
theorem low_app(l m:List Int)(x:Int):jK (l++m) x=jK l x+jK m x:=List.countP_append
theorem high_app(l m:List Int)(x:Int):fF (l++m) x=fF l x+fF m x:=List.countP_append
theorem low_all{l:List Int}{x:Int}(h:∀y∈l,y≤x):jK l x=l.length:=List.countP_eq_length.2 fun y hy=>by simpa using h y hy
theorem low_none{l:List Int}{x:Int}(h:∀y∈l,x<y):jK l x=0:=List.countP_eq_zero.2 fun y hy=>by have:=h y hy;simp;omega
theorem high_all{l:List Int}{x:Int}(h:∀y∈l,x≤y):fF l x=l.length:=List.countP_eq_length.2 fun y hy=>by simpa using h y hy
theorem high_none{l:List Int}{x:Int}(h:∀y∈l,y<x):fF l x=0:=List.countP_eq_zero.2 fun y hy=>by have:=h y hy;simp;omega
theorem gaps_nb(st:List Int):∀(r pre:List Int),(pre++r).Perm st→(pre++r).Pairwise (· ≤ ·)→pre.length%2=0→r.length%2=0→∀p:Option Int,(∀x,p=some x→∀y∈r,x≤y)→jZ st p (gpV r)=some (nbV r)
 | [],_,_,_,_,_,_,_=>rfl
 | [_],_,_,_,_,h,_,_=>by simp at h
 | a::b::r,pre,hp,hs,he,hr,p,hq=>by
  have e1:pre++a::b::r=(pre++[a,b])++r:=by simp
  have ih:=gaps_nb st r (pre++[a,b]) (e1▸hp) (e1▸hs) (by simp;omega) (by simp at hr;omega);have hs2:=List.pairwise_append.1 hs;obtain⟨_,h3,h4⟩:=hs2;rw[List.pairwise_cons,List.pairwise_cons] at h3;obtain⟨h5,h6,_⟩:=h3;have hab:a≤b:=h5 b (.head _);unfold gpV;by_cases hlt:a<b
  ·rw[if_pos hlt]
   have hl:jK st a=pre.length+1:=by
    rw[←low_perm hp,low_app,low_all (fun y hy=>h4 y hy a (.head _))];have:jK (a::b::r) a=jK [a] a+jK (b::r) a:=low_app [a] (b::r) a
    rw[this,low_all (l:=[a]) (fun y hy=>by rw[List.mem_singleton.1 hy];exact Int.le_refl _),low_none (l:=b::r) (fun y hy=>by
     rcases List.mem_cons.1 hy with rfl|hy
     ·exact hlt
     ·have h9:b≤y:=h6 y hy;omega)]
    simp
   have hh:fF st b=r.length+1:=by
    rw[←high_perm hp,high_app,high_none (fun y hy=>by have h9:y≤a:=h4 y hy a (.head _);omega)];have:fF (a::b::r) b=fF [a] b+fF (b::r) b:=high_app [a] (b::r) b
    rw[this,high_none (l:=[a]) (fun y hy=>by rw[List.mem_singleton.1 hy];exact hlt),high_all (l:=b::r) (fun y hy=>by
     rcases List.mem_cons.1 hy with rfl|hy
     ·exact Int.le_refl _
     ·exact h6 y hy)]
    simp
   have hlen:st.length=pre.length+r.length+2:=by rw[←hp.length_eq];simp;omega
   have hbad:eK st p (a,b)=false:=by
    unfold eK;simp only[Bool.or_eq_false_iff,decide_eq_false_iff_not];refine⟨by omega,?_,by omega,by omega⟩;cases p with
    | none=>rfl
    | some x=>
     have:=hq x rfl a (.head _);simp;omega
   show(if eK st p (a,b)=true then none else(jZ st (some b) (gpV r)).map fun s=>s+(b-a))=_
   rw[hbad,if_neg (by decide),ih (some b) (fun x hx y hy=>by
    obtain rfl:=Option.some.inj hx;exact h6 y hy)]
   simp only[Option.map_some,nbV]
   congr 1
   omega
  ·rw[if_neg hlt,ih p (fun x hx y hy=>hq x hx y (.tail _ (.tail _ hy)))];simp only[nbV]
   congr 1
   omega
theorem gaps_ws{st:List Int}(h:SingOk st):jW st (gpV (srtV st))=(wsV 100000 st,0):=by
 have h1:=gpV_len (srtV st);rw[srtV_len] at h1;have h2:=h.l2;have h3:=gaps_nb st (srtV st) [] (by simpa using srtV_perm st) (by simpa using srtV_srt st) rfl (by rw[srtV_len];exact h.ev) none (fun x hx=>by cases hx);unfold jW;rw[if_neg (by simp[gP.2 h]),if_neg qG,h3]
 show(nbV (srtV st),0)=_
 rw[←soft_ws h,costF_nb]
 rfl
def insB(st:List Int)(g:Int×Int):Bool:=st.any fun s=>decide (g.1<s)&&decide (s<g.2)
theorem ins_iff{st:List Int}{g:Int×Int}(h:g.1<g.2):(jK st g.1+fF st g.2≠st.length)↔insB st g=true:=by
 unfold insB
 induction st with
 | nil=>simp[jK,fF]
 | cons a st ih=>
  have hl:jK st g.1+fF st g.2≤st.length:=by
   clear ih
   induction st with
   | nil=>simp[jK,fF]
   | cons b st ih=>
    unfold jK fF at ih ⊢;rw[List.countP_cons,List.countP_cons,List.length_cons];simp only[decide_eq_true_eq];split<;>split<;>omega
  rw[List.any_cons,Bool.or_eq_true,←ih];unfold jK fF at hl ⊢;rw[List.countP_cons,List.countP_cons,List.length_cons];simp only[decide_eq_true_eq,Bool.and_eq_true];split<;>split<;>omega
def jT(n:Nat)(p:Int×Int):Bool:=inB p.1 0 ((n:Int)-1)&&inB p.2 0 ((n:Int)-1)
def gS(st:List Int)(P:List (Int×Int)):Int×Int:=
 if cD st≠0 then(0,cD st) else if 2*P.length≠st.length then(0,2) else if P.all (jT st.length)=false then(0,1) else if(flP P).Nodup then(csum st P,0) else(0,5)
end Go.Proofs.YtoljppohibpenaaGreat
namespace Go.Eng
set_option maxRecDepth 4000
open Go Go.RowKit
section
variable {P : Program} {T : Tab}
variable {ro : Cx} {n n' : Nat} {F : Fin} {w0 : World} {M : Nat → Prop} {k : List It} {ops : Array Oper} {rest : List Oper} {e : Env} {H Hq : List Ck}
theorem run_ixA(hT:T.Ok P){t len et:Nat}{cs:Array Value}{ik:IntKind}{i:Int}{v:Value}(hA:arrB P t len et 1=true)(h1:has T.one et=true)(h0:0≤i)(hi:i<len)(hv:cs[i.toNat]? =some v)(w:World) :
  (Instr.index t (.agg cs) (.int ik i)).run P w= .ok v w:=by
 obtain⟨r1,r2⟩:=one_run hT h1 w;simp only[arrB,Bool.and_eq_true] at hA;obtain⟨ha,hb⟩:=hA;split at ha
 ·rename_i m e' hu
  simp only[Bool.and_eq_true] at ha;have e1:=Nat.eq_of_beq_eq_true ha.1;have e2:=Nat.eq_of_beq_eq_true ha.2;subst e1;subst e2;simp[Instr.index,asIntOf,run_underlying hu,h0,hi,r2,part,r1,hv]
 ·cases ha
theorem ql_ixA(hT:T.Ok P){d t len et:Nat}{x ix:Operand}{cs:Array Value}{ik:IntKind}{i:Int}{v:Value}{ty:TypeId}{pos:String}{af:Array Edge}(hA:arrB P t len et 1=true)(h1:has T.one et=true)
  (hx:opv e x=some (.agg cs)) (hi:opv e ix=some (.int ik i)) (hd:Nat.blt d n=true) (h0:0≤i) (hl:i<len) (hv:cs[i.toNat]? =some v)
  (h:QL P ro n F w0 M k ops rest ((d,v)::e) H):QL P ro n F w0 M k ops (⟨some d,.index t x ix,ty,pos,af,none⟩::rest) e H:= .mk fun w hw=>
 dF (by simp) hd (fun a hf=>by
  simp only[execOp,hf.op hx,hf.op hi];simp[run_ixA hT hA h1 h0 hl hv w]) (h w hw)
theorem nB{d t et m:Nat}{x y:Operand}{ty:TypeId}{pos:String}{af:Array Edge}(hS:SlT P t et 1 8 (.int .i64 0))(hx:opv e x=some (.int .i64 m))(hy:opv e y=some (.int .i64 m))(hd:Nat.blt d n=true)(hm:m≤1000000)
  (h:∀b,QL P ro n F w0 M k ops rest ((d,aB7 b m m)::e) (.pt b (bF (List.replicate m 0)) et::H)) :
  QL P ro n F w0 M k ops (⟨some d,.makeSlice t x y,ty,pos,af,none⟩::rest) e H:= .mk fun w hs=>by
 obtain⟨ht,hi',hzs,hsz⟩:=hS;cases hinf:P.info? et with
 | none=>simp[hinf] at hi'
 | some i=>
  simp[hinf] at hi';obtain⟨hz,hsize,hby⟩:=hi';have hr:=run_makeSlice (P:=P) w t et i _ ht hinf hz .i64 .i64 m m qG (Int.le_refl _) (by rw[hsize];simp;omega) (by rw[hby];omega) qG
  have hcells:(madeCells (Value.int .i64 0).cells ((m:Int).toNat*i.size))=(bF (List.replicate m 0)).toArray:=by
   apply Array.ext';rw[hsize,show(Value.int .i64 0).cells= #[Value.int .i64 0] from rfl,toList_madeCells_one];simp
  rw[hcells] at hr;refine dF (w':=w.alloc (.cells (bF (List.replicate m 0)).toArray et)) (by simp) hd (fun ac hf=> ?_) ((h w.heap.size).h _ (hs.addPt (dL _ _) (by simp) (eT w _ _)));simp only[execOp,hf.op hx,hf.op hy];simp[hr]
end
section
variable {P : Program} {T : Tab}
variable {ro : Cx} {n n' : Nat} {F : Fin} {w0 : World} {M : Nat → Prop} {k : List It} {ops : Array Oper} {rest : List Oper} {e : Env} {H H' Hq L R : List Ck}
theorem cQ(hc:∀w,Sat w0 M H w→Sat w0 M H' w)(h:Q P ro n F w0 M k e H'):Q P ro n F w0 M k e H:= .mk fun w hs=>h.h w (hc w hs)
theorem ql_conv(hc:∀w,Sat w0 M H w→Sat w0 M H' w)(h:QL P ro n F w0 M k ops rest e H'):QL P ro n F w0 M k ops rest e H:= .mk fun w hs=>h.h w (hc w hs)
theorem dO{p:Prop}(hp:∀w,Sat w0 M H w→p)(h:p→Q P ro n F w0 M k e H):Q P ro n F w0 M k e H:= .mk fun w hs=>(h (hp w hs)).h w hs
theorem bW{p:Prop}(hp:∀w,Sat w0 M H w→p)(h:p→QL P ro n F w0 M k ops rest e H):QL P ro n F w0 M k ops rest e H:= .mk fun w hs=>(h (hp w hs)).h w hs
theorem Sat.own_one{w:World}{v:Value}{t sz m:Nat}{xs:List Value}(h:Sat w0 M H w)(hm:Ck.ow v t sz m xs∈H):dA v=true:=by
 have hp:w.ownsRow 0 t sz v m xs:=h.all _ hm;rcases hp.2 with⟨rfl,_⟩|⟨g,cap,cur,rfl,_⟩<;>rfl
theorem Blk.rd{w:World}{b m:Nat}{cs:List Value}{t:TypeId}(h:Blk w b cs t)(hl:cs.length=m)(c:Nat):Rd w b (b+1) (aB7 b m c) 1 m cs:=
 ⟨by omega,.inr ⟨b,0,c,rfl,fun _=>⟨Nat.le_refl _,Nat.lt_succ_self _,h.lt⟩,fun j _=>by rw[Blk.cell h];simp⟩⟩
theorem kI:∀(es:List Value),(∀e∈es,dA e=true)→cellsOf es=es
 | [],_=>rfl
 | e::es,h=>by
  have h1:=kI es (fun x hx=>h x (List.mem_cons_of_mem _ hx));have h2:=h e List.mem_cons_self;have h3:e.cells.toList=[e]:=by cases e<;>first|rfl|simp[dA] at h2
  simp only[cellsOf,List.flatMap_cons] at h1 ⊢;rw[h1,h3]
  rfl
theorem RdE.one{w:World}{lo hi:Nat}{v:Value}{es:List Value}(h:Rd w lo hi v 1 es.length es)(h1:∀e∈es,dA e=true):RdE w lo hi v 1 es:=
 ⟨by rw[kI es h1];exact h,fun e he=>by have:=h1 e he;cases e<;>first|rfl|simp[dA] at this⟩
theorem Sat.ownil{w:World}(h:Sat w0 M H w)(t sz:Nat):Sat w0 M (.ow (.slice none 0 0) t sz 0 []::H) w:=
 h.add (Chg.refl _ _) (own_nil _ _ _ _) (fun b hb=>by simp[Ck.D,Value.ownBlock] at hb)
theorem Sat.pt_ow{w:World}{b:Nat}{cs:List Value}{t sz m:Nat}(hl:cs.length=m*sz)(hm:m≤1000000)(h:Sat w0 M (.pt b cs t::R) w):Sat w0 M (.ow (aB7 b m m) t sz m cs::R) w:=by
 have hb:Blk w b cs t:=h.blk List.mem_cons_self;refine h.rep .z (Chg.refl [] w) (by simp) ⟨hl,.inr ⟨b,m,cs.toArray,J,Nat.zero_le _,hb,Nat.le_refl _,by simp only[maxLen];omega,by simpa using hl,?_⟩⟩ (fun x hx=> ?_)
 ·rw[←hl];simp
 ·have hx':x=b:=by simpa[Ck.D,Value.ownBlock,eq_comm] using hx
  subst hx';exact⟨.inl rfl,hb.lt⟩
theorem Sat.un_perm{w:World}{L L':List Ck}(hp:L.Perm L')(h:Sat w0 M (un L::R) w):Sat w0 M (un L'::R) w:=
 Sat.un_iff.2 ((Sat.un_iff.1 h).perm (hp.append_right R))
theorem Sat.un_in{w:World}{c:Ck}(h:Sat w0 M (c::un L::R) w):Sat w0 M (un (c::L)::R) w:=by
 have h1:Sat w0 M (un L::c::R) w:=h.perm (.swap _ _ _);refine Sat.un_iff.2 ((Sat.un_iff.1 h1).perm ?_);exact List.perm_middle
theorem Sat.un_nil{w:World}(h:Sat w0 M R w):Sat w0 M (un []::R) w:=Sat.un_iff.2 h
end
section
variable {P : Program} {T : Tab}
def flatF(P:Program):Nat→List Field→List (Option IntKind)→Bool
 | _,[],[]=>true
 | o, f :: fs, k :: ks => !(f.name == "_") && Nat.beq f.offset o && oneB P f.type && (match P.underlying f.type, k with | some (.int q), some q' => kindEq q q' | some .bool, none => true | _, _ => false) && flatF P (o + 1) fs ks
 | _,_,_=>false
def nJ(P:Program)(t:Nat)(ks:List (Option IntKind)):Bool:=
 !(P.stoodInHeld t)&& !(P.eqGuardType P.depth t)&&(match P.underlying t with|some (.struct fs)=>flatF P 0 fs.toList ks|_=>false)
def iU:List (Option IntKind)→List Value→Bool
 | [],[]=>true
 | some k::ks,.int k' _::vs=>kindEq k k'&&iU ks vs
 | none::ks,.bool _::vs=>iU ks vs
 | _,_=>false
def eqL:List Value→List Value→Bool
 | .int _ a::l,.int _ b::m=>decide (a=b)&&eqL l m
 | .bool a::l,.bool b::m=>(a==b)&&eqL l m
 | _,_=>true
theorem gA:∀l:List Value,eqL l l=true
 | []=>rfl
 | v::l=>by
  cases v<;>simp[eqL,gA l]
theorem eqL_eq:∀(ks:List (Option IntKind)) (l m:List Value),iU ks l=true→iU ks m=true→eqL l m=true→l=m
 | [],[],[],_,_,_=>rfl
 | [],[],_::_,_,h,_=>by simp[iU] at h
 | [],_::_,_,h,_,_=>by simp[iU] at h
 | k::ks,[],_,h,_,_=>by cases k<;>simp[iU] at h
 | k::ks,_::_,[],_,h,_=>by cases k<;>simp[iU] at h
 | some k::ks,v::l,u::m,h1,h2,h3=>by
  cases v<;>simp[iU] at h1
  cases u<;>simp[iU] at h2
  simp[eqL] at h3;have e1:=pH h1.1;have e2:=pH h2.1;rw[h3.1,←e1,←e2,eqL_eq ks l m h1.2 h2.2 h3.2]
 | none::ks,v::l,u::m,h1,h2,h3=>by
  cases v<;>simp[iU] at h1
  cases u<;>simp[iU] at h2
  simp[eqL] at h3;rw[h3.1,eqL_eq ks l m h1 h2 h3.2]
theorem oneB_agg{t:Nat}(h:oneB P t=true)(w:World):(isAgg t).run P w= .ok false w:=by
 simp only[oneB,Bool.and_eq_true] at h;obtain⟨ha,_⟩:=h;split at ha<;>first|(cases ha;done)|(rename_i d hd1 hd2 hu;cases d<;>first|exact absurd rfl (hd1 _)|exact absurd rfl (hd2 _ _)|simp[isAgg,run_underlying hu])
theorem gU{t:Nat}(h:oneB P t=true){xs:Array Value}{o:Nat}{v:Value}(hv:xs[o]? =some v)(w:World):(part t xs o).run P w= .ok v w:=by
 simp[part,oneB_agg h w,hv]
theorem lT{k:Option IntKind}{ks:List (Option IntKind)}{l:List Value}(h:iU (k::ks) l=true):∃v m,l=v::m∧iU ks m=true∧((∃q a,k=some q∧v= .int q a)∨(∃b,k=none∧v= .bool b)):=by
 cases l with
 | nil=>cases k<;>simp[iU] at h
 | cons v m=>
  cases k with
  | none=>
   cases v<;>simp[iU] at h
   exact⟨_,_,J,h,.inr ⟨_,J,J⟩⟩
  | some q=>
   cases v<;>simp[iU] at h
   have:=pH h.1;subst this;exact⟨_,_,J,h.2,.inl ⟨_,_,J,J⟩⟩
theorem qD(d:Nat)(w:World):∀(fs:List Field) (ks:List (Option IntKind)) (o:Nat) (xs ys:List Value) (l m:List Value),flatF P o fs ks=true→iU ks l=true→iU ks m=true→xs.drop o=l→ys.drop o=m→
  (Op.eqFields (d+1) xs.toArray ys.toArray fs).run P w= .ok (eqL l m) w
 | [],[],o,xs,ys,l,m,_,hl,hm,_,_=>by
  cases l<;>simp[iU] at hl
  cases m<;>simp[iU] at hm
  rfl
 | [],_::_,_,_,_,_,_,h,_,_,_,_=>by simp[flatF] at h
 | _::_,[],_,_,_,_,_,h,_,_,_,_=>by simp[flatF] at h
 | f::fs,k::ks,o,xs,ys,l,m,h,hl,hm,ex,ey=>by
  simp only [flatF, Bool.and_eq_true] at h;obtain ⟨⟨⟨⟨hn, ho⟩, h1⟩, hk⟩, hr⟩ := h;have ho := Nat.eq_of_beq_eq_true ho;have hn : f.name ≠ "_" := by simpa using hn
  obtain⟨v,l',rfl,hl',hv⟩:=lT hl;obtain⟨u,m',rfl,hm',hu⟩:=lT hm
  have gx:xs.toArray[f.offset]? =some v:=by
   rw[ho];have:=congrArg (fun z=>z[0]?) ex;simpa using this
  have gy:ys.toArray[f.offset]? =some u:=by
   rw[ho];have:=congrArg (fun z=>z[0]?) ey;simpa using this
  have dx:xs.drop (o+1)=l':=by rw[←List.drop_drop,ex];rfl
  have dy:ys.drop (o+1)=m':=by rw[←List.drop_drop,ey];rfl
  have ih:=qD d w fs ks (o+1) xs ys l' m' hr hl' hm' dx dy
  have key:∀c:Bool,(Op.equalIn (d+1) f.type v u).run P w= .ok c w→(Op.eqFields (d+1) xs.toArray ys.toArray (f::fs)).run P w= .ok (c&&eqL l' m') w:=by
   intro c hc;simp only[Op.eqFields,if_pos hn,Sem.run_bind,gU h1 gx,gU h1 gy,Result.andThen_ok,hc];cases c
   ·simp
   ·simpa using ih
  rcases hv with⟨q,a,rfl,rfl⟩|⟨a,rfl,rfl⟩
  ·rcases hu with⟨q',b,hq,rfl⟩|⟨b,hq,_⟩
   ·cases hq
    split at hk
    ·rename_i q1 q2 hun hq2
     exact(key (a==b) (run_equalIn_int w d f.type q q1 a b hun)).trans (by congr 1)
    ·rename_i hq2;cases hq2
    ·cases hk
   ·cases hq
  ·rcases hu with⟨q',b,hq,_⟩|⟨b,_,rfl⟩
   ·cases hq
   ·split at hk
    ·rename_i hq2;cases hq2
    ·rename_i hun _
     exact key (a==b) (run_equalIn_bool' w d f.type a b hun)
    ·cases hk
theorem mN{t:Nat}{ks:List (Option IntKind)}(h:nJ P t ks=true):P.stoodInHeld t=false∧P.eqGuardType P.depth t=false∧P.underlying t=some (.struct (P.fieldsOf t))∧flatF P 0 (P.fieldsOf t).toList ks=true:=by
 simp only[nJ,Bool.and_eq_true,Bool.not_eq_true'] at h;obtain⟨⟨h1,h2⟩,h3⟩:=h;split at h3
 ·rename_i fs hu
  refine⟨h1,h2,?_,?_⟩
  ·simp[Program.fieldsOf,hu]
  ·simpa[Program.fieldsOf,hu] using h3
 ·cases h3
theorem run_eqFlat{t:Nat}{ks:List (Option IntKind)}(h:nJ P t ks=true){xs ys:List Value}(hx:iU ks xs=true)(hy:iU ks ys=true)(d:Nat)(w:World):(Op.equalIn (d+2) t (.agg xs.toArray) (.agg ys.toArray)).run P w= .ok (eqL xs ys) w:=by
 obtain⟨h1,h2,h3,h4⟩:=mN h;rw[run_equalIn_agg w (d+1) t _ _ h3 h1];exact qD d w _ ks 0 xs ys xs ys h4 hx hy J J
variable {ro : Cx} {n : Nat} {F : Fin} {w0 : World} {M : Nat → Prop} {k : List It} {ops : Array Oper} {rest : List Oper} {e : Env} {H Hq : List Ck}
theorem oP{a:Act}{d t t':Nat}{x y:Operand}{xs ys:List Value}{ks:List (Option IntKind)}{ty:TypeId}{pos:String}{af:Array Edge}(hf:Fits n e a)(hx:opv e x=some (.agg xs.toArray))(hy:opv e y=some (.agg ys.toArray))(hF:nJ P t ks=true)(h1:iU ks xs=true)(h2:iU ks ys=true)(w:World) :
  (execOp a.eval ⟨some d,.binOp .eql t x y t',ty,pos,af,none⟩).run P w= .ok (.value (.bool (eqL xs ys))) w∧(execOp a.eval ⟨some d,.binOp .neq t x y t',ty,pos,af,none⟩).run P w= .ok (.value (.bool (!(eqL xs ys)))) w:=by
 have e1:=hf.op hx;have e2:=hf.op hy;have h3:=run_eqFlat hF h1 h2 9998 w;have hg:=(mN hF).2.1;constructor<;>simp[execOp,e1,e2,run_eqGuard_agg,hg,run_eql_struct,run_neq_struct,h3]
theorem ql_eqF(ks:List (Option IntKind)){d t t':Nat}{x y:Operand}{xs ys:List Value}{ty:TypeId}{pos:String}{af:Array Edge}(hF:nJ P t ks=true)(hx:opv e x=some (.agg xs.toArray))(hy:opv e y=some (.agg ys.toArray))(h1:iU ks xs=true)(h2:iU ks ys=true)(hd:Nat.blt d n=true)
  (h:QL P ro n F w0 M k ops rest ((d,.bool (eqL xs ys))::e) H):QL P ro n F w0 M k ops (⟨some d,.binOp .eql t x y t',ty,pos,af,none⟩::rest) e H:= .mk fun w hw=>
 dF (by simp) hd (fun _ hf=>(oP hf hx hy hF h1 h2 w).1) (h.h w hw)
theorem ql_neF(ks:List (Option IntKind)){d t t':Nat}{x y:Operand}{xs ys:List Value}{ty:TypeId}{pos:String}{af:Array Edge}(hF:nJ P t ks=true)(hx:opv e x=some (.agg xs.toArray))(hy:opv e y=some (.agg ys.toArray))(h1:iU ks xs=true)(h2:iU ks ys=true)(hd:Nat.blt d n=true)
  (h:QL P ro n F w0 M k ops rest ((d,.bool (!(eqL xs ys)))::e) H):QL P ro n F w0 M k ops (⟨some d,.binOp .neq t x y t',ty,pos,af,none⟩::rest) e H:= .mk fun w hw=>
 dF (by simp) hd (fun _ hf=>(oP hf hx hy hF h1 h2 w).2) (h.h w hw)
theorem qf_neF(ks:List (Option IntKind)){d t t':Nat}{x y:Operand}{xs ys:List Value}{ty:TypeId}{pos:String}{af:Array Edge}(hF:nJ P t ks=true)(hx:opv e x=some (.agg xs.toArray))(hy:opv e y=some (.agg ys.toArray))(h1:iU ks xs=true)(h2:iU ks ys=true)(hd:Nat.blt d n=true)
  (h:QF P ro n F w0 M k ops Hq rest ((d,.bool (!(eqL xs ys)))::e) H):QF P ro n F w0 M k ops Hq (⟨some d,.binOp .neq t x y t',ty,pos,af,none⟩::rest) e H:= .mk fun w hw=>
 eQ rfl hd (fun _ hf w' _=>(oP hf hx hy hF h1 h2 w').2) (h.h w hw)
structure KeyT(P:Program)(kt:TypeId)(K:Value→Prop)(q:Value→Value→Bool):Prop where
 chk:∀empty k w,K k→(Instr.checkKey empty 10000 kt k).run P w= .ok () w
 find:∀k es w,K k→(∀x∈es,K x.key)→(Instr.findKey kt k es).run P w= .ok ((es.zipIdx.find? (fun p=>q k p.1.key)).map (fun p=>(p.2,p.1.val))) w
 eq:∀a b,K a→K b→q a b=true→a=b
 refl:∀a,K a→q a a=true
 bits:∀a,K a→Instr.sameBits 10000 a a=true
def MapAt(w:World)(b:Nat)(K:Value→Prop)(q:Value→Value→Bool)(f:Value→Option Value):Prop:=
 ∃es clock,w.heap[b]? =some (.map es clock)∧(∀x∈es.toList,K x.key)∧∀k,K k→(es.toList.find? (fun x=>q k x.key)).map (·.val)=f k
def mpP(K:Value→Prop)(q:Value→Value→Bool)(b:Nat)(f:Value→Option Value):Ck:= .gn (· =b) (fun w=>MapAt w b K q f)
 (fun _ _ _ ⟨es,clock,h1,h2⟩ hc hn=>⟨es,clock,(hc.block b (Array.getElem?_eq_some_iff.1 h1).1 (hn b rfl)).trans h1,h2⟩)
theorem oJ{α:Type}(p:α→Bool):∀(l:List α) (i:Nat),(l.zipIdx i).find? (fun x=>p x.1)=((l.findIdx? p).bind fun j=>(l[j]?).map fun a=>(a,i+j))
 | [],i=>by simp
 | a::l,i=>by
  rw[List.zipIdx_cons,List.find?_cons,List.findIdx?_cons];cases h:p a
  ·rw[oJ p l (i+1)];simp only[Option.bind_map];cases List.findIdx? p l with
   | none=>simp
   | some j=>
    simp;cases l[j]? with
    | none=>simp
    | some b=>simp;omega
  ·simp
variable {K : Value → Prop} {q : Value → Value → Bool} {kt et mt : TypeId}
theorem run_mapLook{w:World}{b:Nat}{f:Value→Option Value}(hK:KeyT P kt K q)(ht:P.underlying mt=some (.map kt et)){z:Value}(hz:(zeroValue et).run P w= .ok z w)(hm:MapAt w b K q f){key:Value}(hk:K key)(ok:Bool) :
  (Instr.lookup mt (.map (some b)) key ok).run P w= .ok (if ok then .tuple #[(f key).getD z,.bool (f key).isSome] else(f key).getD z) w:=by
 obtain⟨es,clock,hb,hes,hf⟩:=hm;have h1:=hK.find key es.toList w hk hes;have h2:=hf key hk
 have h3:((es.toList.zipIdx.find? (fun p=>q key p.1.key)).map (fun p=>(p.2,p.1.val))).map (·.2)=f key:=by
  rw[←h2,oJ (fun x:MapEntry=>q key x.key),Option.map_map];rw[List.find?_eq_bind_findIdx?_getElem?];cases List.findIdx? (fun x:MapEntry=>q key x.key) es.toList with
  | none=>rfl
  | some j=>simp only[Option.bind_some];cases es.toList[j]? <;>rfl
 generalize (es.toList.zipIdx.find? (fun p=>q key p.1.key)).map (fun p=>(p.2,p.1.val))=r at h1 h3;have hg:(getObj b).run P w= .ok (.map es clock) w:=by simp[getObj,Sem.run,hb]
 simp only[Instr.lookup,Sem.run_bind,run_underlying ht,Result.andThen_ok,hg,Sem.run_pure,hK.chk _ key w hk,h1];cases r with
 | none=>
  simp at h3;rw[←h3];cases ok<;>simp[hz]
 | some p=>
  obtain⟨i,v⟩:=p;simp at h3;rw[←h3];cases ok<;>simp
theorem find_mod0(p:MapEntry→Bool)(g:MapEntry→MapEntry):∀(l:List MapEntry) (i:Nat),(∀e,l[i]? =some e→p e=false∧p (g e)=false)→(l.modify i g).find? p=l.find? p
 | [],i,_=>by simp
 | a::l,0,h=>by
  have:=h a rfl;simp[List.modify_cons,List.find?_cons,this.1,this.2]
 | a::l,i+1,h=>by
  have ih:=find_mod0 p g l i (fun e he=>h e (by simpa using he));simp[List.modify_cons,List.find?_cons,ih]
theorem find_mod1(p:MapEntry→Bool)(g:MapEntry→MapEntry):∀(l:List MapEntry) (i:Nat),l.findIdx? p=some i→(∀e,l[i]? =some e→p (g e)=true)→(l.modify i g).find? p=(l[i]?).map g
 | [],i,h,_=>by simp at h
 | a::l,i,h,hg=>by
  rw[List.findIdx?_cons] at h;cases ha:p a with
  | true=>
   rw[ha] at h;simp at h;subst h;have:=hg a rfl;simp[List.modify_cons,List.find?_cons,this]
  | false=>
   rw[ha] at h;simp at h;obtain⟨j,hj,rfl⟩:=h;have ih:=find_mod1 p g l j hj (fun e he=>hg e (by simpa using he));simp[List.modify_cons,List.find?_cons,ha,ih]
theorem putObj_heap(w:World)(r:Nat)(o:Obj)(h:r<w.heap.size):(w.putObj r o).heap[r]? =some o:=World.putObj_heap_same h
theorem run_mapUpd{w:World}{b:Nat}{f:Value→Option Value}(hK:KeyT P kt K q)(ht:P.underlying mt=some (.map kt et))(hm:MapAt w b K q f){key v:Value}(hk:K key) :
  ∃w',(Instr.mapUpdate mt (.map (some b)) key v).run P w= .ok () w'∧MapAt w' b K q (fun x=>if q x key then some v else f x)∧Chg [b] w w':=by
 obtain⟨es,clock,hb,hes,hf⟩:=hm;have hlt:b<w.heap.size:=(Array.getElem?_eq_some_iff.1 hb).1;have h1:=hK.find key es.toList w hk hes;have hg:(getObj b).run P w= .ok (.map es clock) w:=by simp[getObj,Sem.run,hb]
 have hs:∀o,(setObj b o).run P w= .ok () (w.putObj b o):=fun o=>by simp[setObj,Sem.run,World.putObj,hb]
 rw[oJ (fun x:MapEntry=>q key x.key)] at h1;have hfi:∀k,(es.toList.find? (fun x=>q k x.key))=(es.toList.findIdx? (fun x=>q k x.key)).bind fun i=>es.toList[i]? :=fun k=>List.find?_eq_bind_findIdx?_getElem?
 cases hi:es.toList.findIdx? (fun x=>q key x.key) with
 | none=>
  rw[hi] at h1;simp at h1;refine⟨w.putObj b (.map (es.push {key:=key,val:=v,born:=clock}) (clock+1)),?_,⟨es.push {key:=key,val:=v,born:=clock},clock+1,putObj_heap w b _ hlt,?_,fun k hk'=> ?_⟩,fU w b _⟩
  ·simp only[Instr.mapUpdate,Sem.run_bind,run_underlying ht,Result.andThen_ok,hg,hK.chk _ key w hk,h1,hs]
  ·intro x hx;rw[Array.toList_push,List.mem_append] at hx;rcases hx with hx|hx
   ·exact hes x hx
   ·rw[List.mem_singleton.1 hx];exact hk
  ·rw[Array.toList_push,List.find?_append];by_cases hq:q k key=true
   ·have:=hK.eq k key hk' hk hq;subst this;rw[hfi,hi];simp[hq]
   ·have hq':q k key=false:=by simpa using hq
    simp only[hq',if_false,Bool.false_eq_true];rw[←hf k hk'];cases List.find? (fun x=>q k x.key) es.toList<;>simp[hq']
 | some i=>
  have hi0:=hi;rw[List.findIdx?_eq_some_iff_getElem] at hi;obtain⟨hlt2,hqi,_⟩:=hi;have hki:es.toList[i].key=key:=(hK.eq key _ hk (hes _ (List.getElem_mem hlt2)) hqi).symm;rw[hi0] at h1;simp only[Option.bind_some,List.getElem?_eq_getElem hlt2,Option.map_some] at h1
  have hki2:((es[i]?).map (·.key)).getD key=key:=by
   rw[←Array.getElem?_toList,List.getElem?_eq_getElem hlt2];simpa using hki
  have hkeep:(Instr.keyThatStays (((es[i]?).map (·.key)).getD key) key).run P w= .ok key w:=by
   rw[hki2];simp[Instr.keyThatStays,hK.bits key hk]
  refine⟨w.putObj b (.map (es.modify i fun e=>{e with key:=key,val:=v}) clock),?_,⟨es.modify i fun e=>{e with key:=key,val:=v},clock,putObj_heap w b _ hlt,?_,fun k hk'=> ?_⟩,fU w b _⟩
  ·simp only[Instr.mapUpdate,Sem.run_bind,run_underlying ht,Result.andThen_ok,hg,hK.chk _ key w hk,h1,Nat.zero_add,hkeep,hs]
  ·intro x hx;rw[Array.toList_modify] at hx;obtain⟨j,hj,rfl⟩:=List.getElem_of_mem hx;rw[List.getElem_modify];split
   ·exact hk
   ·exact hes _ (List.getElem_mem _)
  ·rw[Array.toList_modify];by_cases hq:q k key=true
   ·have:=hK.eq k key hk' hk hq;subst this;rw[find_mod1 _ _ _ i hi0 (fun e _=>hq),List.getElem?_eq_getElem hlt2];simp[hq]
   ·have hq':q k key=false:=by simpa using hq
    simp only[hq',if_false,Bool.false_eq_true];rw[find_mod0 _ _ _ i (fun e he=> ?_),hf k hk'];rw[List.getElem?_eq_getElem hlt2] at he;cases he
    rw[hki];exact⟨hq',hq'⟩
end
section
variable {P : Program} {T : Tab}
theorem dI{e:Env}{t:Nat}{a b:Int}(hl:look e t=some (.int .i64 a))(h:a=b):look e t=some (.int .i64 b):=by rw[hl,h]
def eqV:Value→Value→Bool
 | .agg a,.agg b=>eqL a.toList b.toList
 | .int _ a,.int _ b=>decide (a=b)
 | _,_=>true
def keyF(ks:List (Option IntKind))(v:Value):Prop:=∃xs:List Value,v= .agg xs.toArray∧iU ks xs=true
def keyI(kd:IntKind)(v:Value):Prop:=∃a,v= .int kd a
theorem chk_fields(empty:Bool)(d:Nat)(w:World):∀(fs:List Field) (ks:List (Option IntKind)) (o:Nat) (xs:List Value) (l:List Value),flatF P o fs ks=true→iU ks l=true→xs.drop o=l→
  (forIn (m := Sem) fs PUnit.unit fun f _ => if f.name ≠ "_" then (do
    let v ←part f.type xs.toArray f.offset
    Instr.checkKey empty (d+1) f.type v
    pure (ForInStep.yield PUnit.unit)) else pure (ForInStep.yield PUnit.unit)).run P w= .ok PUnit.unit w
 | [],[],o,xs,l,_,_,_=>by simp
 | [],_::_,_,_,_,h,_,_=>by simp[flatF] at h
 | _::_,[],_,_,_,h,_,_=>by simp[flatF] at h
 | f::fs,k::ks,o,xs,l,h,hl,ex=>by
  simp only [flatF, Bool.and_eq_true] at h;obtain ⟨⟨⟨⟨hn, ho⟩, h1⟩, hk⟩, hr⟩ := h;have ho := Nat.eq_of_beq_eq_true ho;have hn : f.name ≠ "_" := by simpa using hn
  obtain⟨v,l',rfl,hl',hv⟩:=lT hl
  have gx:xs.toArray[f.offset]? =some v:=by
   rw[ho];have:=congrArg (fun z=>z[0]?) ex;simpa using this
  have dx:xs.drop (o+1)=l':=by rw[←List.drop_drop,ex];rfl
  have ih:=chk_fields empty d w fs ks (o+1) xs l' hr hl' dx
  have hc:(Instr.checkKey empty (d+1) f.type v).run P w= .ok () w:=by
   rcases hv with⟨q,a,rfl,rfl⟩|⟨a,rfl,rfl⟩
   ·split at hk
    ·rename_i q1 q2 hun hq2
     simp[Instr.checkKey,run_underlying hun]
    ·rename_i hq2;cases hq2
    ·cases hk
   ·split at hk
    ·rename_i hq2;cases hq2
    ·rename_i hun _
     simp[Instr.checkKey,run_underlying hun]
    ·cases hk
  simp only[List.forIn_cons,Sem.run_bind,if_pos hn,gU h1 gx,Result.andThen_ok,hc,Sem.run_pure];exact ih
theorem chk_agg{kt:TypeId}{ks:List (Option IntKind)}(hF:nJ P kt ks=true){xs:List Value}(h:iU ks xs=true)(empty:Bool)(d:Nat)(w:World):(Instr.checkKey empty (d+2) kt (.agg xs.toArray)).run P w= .ok () w:=by
 obtain⟨h1,h2,h3,h4⟩:=mN hF;rw[Instr.checkKey];simp only[Sem.run_bind,run_underlying h3,Result.andThen_ok];rw[←Array.forIn_toList];rw[chk_fields empty d w _ ks 0 xs xs h4 h rfl]
 rfl
theorem bits_flat(d:Nat):∀(ks:List (Option IntKind)) (l:List Value),iU ks l=true→(l.zip l).all (fun p=>Instr.sameBits d p.1 p.2)=true
 | [],[],_=>rfl
 | [],_::_,h=>by simp[iU] at h
 | k::ks,l,h=>by
  obtain⟨v,m,rfl,hm,hv⟩:=lT h;have ih:=bits_flat d ks m hm;simp only[List.zip_cons_cons,List.all_cons,ih,Bool.and_true];rcases hv with⟨q,a,rfl,rfl⟩|⟨a,rfl,rfl⟩<;>simp[Instr.sameBits]
theorem bits_agg(n:Nat)(a b:Array Value):Instr.sameBits (n+1) (.agg a) (.agg b)=(a.size==b.size&&(a.toList.zip b.toList).all fun p=>Instr.sameBits n p.1 p.2):=by
 rw[Instr.sameBits]
theorem ask_find{kt:TypeId}{K:Value→Prop}{q:Value→Value→Bool}(w:World)(he:∀a b,K a→K b→(Op.equal kt a b).run P w= .ok (q a b) w){k:Value}(hk:K k):∀(es:List MapEntry) (i:Nat),(∀x∈es,K x.key)→
  (Instr.findAsking kt k es i).run P w= .ok (((es.zipIdx i).find? (fun p=>q k p.1.key)).map (fun p=>(p.2,p.1.val))) w
 | [],i,_=>by simp[Instr.findAsking]
 | x::es,i,h=>by
  have ih:=ask_find w he hk es (i+1) (fun y hy=>h y (List.mem_cons_of_mem _ hy));have h1:=he k x.key hk (h x List.mem_cons_self);rw[List.zipIdx_cons,List.find?_cons];simp only[Instr.findAsking,Sem.run_bind,h1,Result.andThen_ok];cases q k x.key
  ·simpa using ih
  ·simp
variable {ro : Cx} {n : Nat} {F : Fin} {w0 : World} {M : Nat → Prop} {k : List It} {ops : Array Oper} {rest : List Oper} {e : Env} {H Hq : List Ck}
variable {K : Value → Prop} {q : Value → Value → Bool} {kt et mt : TypeId}
theorem zero_run{t:TypeId}{z:Value}(h:ZeroOf P t z)(w:World):(zeroValue t).run P w= .ok z w:=by
 have h1:=h.h;cases hi:P.info? t with
 | none=>rw[hi] at h1;cases h1
 | some i=>
  rw[hi] at h1;have hz:i.zero=some z:=h1;simp[zeroValue,typeInfo,hi,hz]
theorem ql_look2{d b:Nat}{x ix:Operand}{f:Value→Option Value}{key z:Value}{ty:TypeId}{pos:String}{af:Array Edge}(hK:KeyT P kt K q)(ht:P.underlying mt=some (.map kt et))(hz:ZeroOf P et z)
  (hx:opv e x=some (.map (some b))) (hi:opv e ix=some key) (hd:Nat.blt d n=true) (hm:mpP K q b f∈H) (hk:K key)
  (h:QL P ro n F w0 M k ops rest ((d,.tuple #[(f key).getD z,.bool (f key).isSome])::e) H):QL P ro n F w0 M k ops (⟨some d,.lookup mt x ix true,ty,pos,af,none⟩::rest) e H:= .mk fun w hw=>
 dF (by simp) hd (fun a hf=>by
  simp only[execOp,hf.op hx,hf.op hi];simp[run_mapLook hK ht (zero_run hz w) (hw.mem hm) hk]) (h.h w hw)
theorem Sat.mapUpd{w w':World}{b:Nat}{f f':Value→Option Value}{H':List Ck}(hs:Sat w0 M H w)(hr:Rp H (mpP K q b f) (mpP K q b f') H')(hc:Chg [b] w w')(hm:MapAt w' b K q f'):Sat w0 M H' w':=by
 refine hs.rep hr hc (fun x hx=>(by simpa using hx:x=b)) hm (fun x hx=> ?_);have hx':x=b:=hx;subst hx';obtain⟨es,clock,h1,_⟩:=hm;exact⟨.inl rfl,(Array.getElem?_eq_some_iff.1 h1).1⟩
theorem ql_mapUpd{b:Nat}{x ix y:Operand}{f:Value→Option Value}{key v:Value}{H':List Ck}{ty:TypeId}{pos:String}{af:Array Edge}(hK:KeyT P kt K q)(ht:P.underlying mt=some (.map kt et))
  (hx:opv e x=some (.map (some b))) (hi:opv e ix=some key) (hy:opv e y=some v) (hk:K key) (hr:Rp H (mpP K q b f) (mpP K q b (fun x=>if q x key then some v else f x)) H')
  (h:QL P ro n F w0 M k ops rest e H'):QL P ro n F w0 M k ops (⟨none,.mapUpdate mt x ix y,ty,pos,af,none⟩::rest) e H:= .mk fun w hw=>by
 obtain⟨w',hrun,hm,hc⟩:=run_mapUpd hK ht (hw.mem hr.mem) hk (v:=v);refine yl_do (w':=w') (by simp) (fun a hf=> ?_) (h.h w' (hw.mapUpd hr hc hm));simp only[execOp,hf.op hx,hf.op hi,hf.op hy];simp[hrun]
theorem run_mkMap(t:TypeId)(w:World):(Instr.makeMap t none).run P w= .ok (.map (some w.heap.size)) (w.alloc (.map #[] 0)):=rfl
theorem mk_mapAt(w:World):MapAt (w.alloc (.map #[] 0)) w.heap.size K q (fun _=>none):=⟨#[],0,by show(w.heap.push _)[w.heap.size]? =_;simp,by simp,fun _ _=>rfl⟩
theorem mk_mapD(w:World):∀b,(mpP K q w.heap.size (fun _=>none)).D b→w.heap.size≤b∧b<(w.alloc (.map #[] 0)).heap.size:=fun x hx=>by
 have hx':x=w.heap.size:=hx;subst hx';simp
theorem ql_makeMap(K:Value→Prop)(q:Value→Value→Bool){d:Nat}{t:TypeId}{ty:TypeId}{pos:String}{af:Array Edge}(hd:Nat.blt d n=true)
  (h:∀b,QL P ro n F w0 M k ops rest ((d,.map (some b))::e) (mpP K q b (fun _=>none)::H)):QL P ro n F w0 M k ops (⟨some d,.makeMap t none,ty,pos,af,none⟩::rest) e H:= .mk fun w hs=>by
 refine dF (w':=w.alloc (.map #[] 0)) (by simp) hd (fun a hf=> ?_) ((h w.heap.size).h _ (hs.add (dL _ _) (mk_mapAt w) (mk_mapD w)));simp only[execOp];simp[run_mkMap]
theorem run_mkS0{t et:Nat}(hu:P.underlying t=some (.slice et))(hi:(P.info? et).isSome=true)(w:World):(Instr.buildSlice t 0 #[]).run P w= .ok (aB7 w.heap.size 0 0) (w.alloc (.cells #[] et)):=by
 cases h:P.info? et with
 | none=>rw[h] at hi;cases hi
 | some i=>
  have e0:(Array.range 0)= #[]:=rfl;simp[Instr.buildSlice,run_underlying hu,sizeOf,typeInfo,h,Instr.fill,newRow,e0]
theorem ql_mkS0(et:Nat){d t:Nat}{ty:TypeId}{pos:String}{af:Array Edge}(hu:P.underlying t=some (.slice et))(hi:(P.info? et).isSome=true)(hd:Nat.blt d n=true)
  (h:∀b,QL P ro n F w0 M k ops rest ((d,aB7 b 0 0)::e) (.ow (aB7 b 0 0) et 1 0 []::H)):QL P ro n F w0 M k ops (⟨some d,.buildSlice t 0 #[],ty,pos,af,none⟩::rest) e H:= .mk fun w hs=>by
 refine dF (w':=w.alloc (.cells #[] et)) (by simp) hd (fun a hf=> ?_) ((h w.heap.size).h _ (Sat.pt_ow (m:=0) J qG (hs.addPt (dL _ _) (by simp) (eT w _ _))));simp only[execOp];simp[run_mkS0 hu hi]
theorem RdI.row{w:World}{lo hi:Nat}{v:Value}{l:List Int}(h:RdI w lo hi v l):Rd w lo hi v 1 l.length (bF l):=by
 have:=h.rd;rw[kI _ (by simp[dA])] at this;simpa using this
end
section
variable {P : Program} {T : Tab}
variable {ro : Cx} {n : Nat} {F : Fin} {w0 : World} {M : Nat → Prop} {k : List It} {ops : Array Oper} {rest : List Oper} {e : Env} {H Hq : List Ck}
variable {K : Value → Prop} {q : Value → Value → Bool} {kt et mt : TypeId}
theorem MapAt.keep{w w':World}{b:Nat}{f:Value→Option Value}(h:MapAt w b K q f)(c:Chg [] w w'):MapAt w' b K q f:=by
 obtain⟨es,clock,h1,h2⟩:=h;exact⟨es,clock,(c.block b (Array.getElem?_eq_some_iff.1 h1).1 (by simp)).trans h1,h2⟩
theorem MapAt.congr{w:World}{b:Nat}{f g:Value→Option Value}(h:MapAt w b K q f)(he:∀k,K k→f k=g k):MapAt w b K q g:=by
 obtain⟨es,clock,h1,h2,h3⟩:=h;exact⟨es,clock,h1,h2,fun k hk=>(h3 k hk).trans (he k hk)⟩
theorem Sat.turn{w:World}{c c':Ck}{R:List Ck}(h:Sat w0 M (c::R) w)(hD:∀b,c'.D b→c.D b)(hp:c.p w→c'.p w):Sat w0 M (c'::R) w:=
 h.rep .z (Chg.refl [] w) (by simp) (hp (h.all _ List.mem_cons_self)) (fun b hb=>⟨.inl (hD b hb),(h.bd _ List.mem_cons_self b (hD b hb)).1⟩)
theorem Sat.mapC{w:World}{b:Nat}{f g:Value→Option Value}{R:List Ck}(h:Sat w0 M (mpP K q b f::R) w)(he:∀k,K k→f k=g k):Sat w0 M (mpP K q b g::R) w:=
 h.turn (fun _ h=>h) (fun hm=>MapAt.congr hm he)
theorem map_sat{w:World}{b:Nat}{f:Value→Option Value}(h:MapAt w b K q f):Sat w (fun x=>x=b) [mpP K q b f] w:=by
 have hb:b<w.heap.size:=by
  obtain⟨es,clock,h1,_⟩:=h;exact(Array.getElem?_eq_some_iff.1 h1).1
 refine⟨ChgP.refl _ _,fun c hc=> ?_,List.pairwise_singleton _ _,fun c hc x hx=> ?_⟩
 ·rw[List.mem_singleton.1 hc];exact h
 ·rw[List.mem_singleton.1 hc] at hx;have hx':x=b:=hx;subst hx';exact⟨hb,.inl J⟩
end
section
variable {P : Program} {ops : Array Oper} {C : World → Prop} {K : Act → World → Prop}
theorem apart_symm{x y:Oper}(h:x.apart ops y=true):y.apart ops x=true:=by
 obtain⟨h1,h2,h3⟩:=Oper.apart_spec h;simp only[Oper.apart,Bool.and_eq_true];constructor
 ·cases hy:y.dst with
  | none=>rfl
  | some d=>
   simp only[Bool.and_eq_true,Bool.not_eq_true',bne_iff_ne,ne_eq];refine⟨?_,fun hx=>h2 d hx hy⟩;have:=h3 d hy;simpa using this
 ·cases hx:x.dst with
  | none=>rfl
  | some d=>
   have:=h1 d hx;simpa using this
def pairsB(ops:Array Oper)(ms:List Nat):Bool:=(List.range ops.size).all fun j=>match ops[j]? with
 | none=>true
 | some oj=>(kindOk oj.op&&oj.after.all (fun e=>Nat.blt e.on ops.size))&&(List.range j).all fun i=>match ops[i]? with
  | none=>true
  | some oi=>(ms.getD j 0).testBit i||oi.apart ops oj
structure FlM(ops:Array Oper):Prop where
 kind:∀(j:Nat) o,ops[j]? =some o→kindOk o.op=true
 edge:∀(j:Nat) o,ops[j]? =some o→∀e∈o.after,Region.binds .any e=true→¬e.on<ops.size→False
 pair:∀(i j:Nat) oi oj,i≠j→ops[i]? =some oi→ops[j]? =some oj→((eV ops.toList).getD j 0).testBit i=true∨((eV ops.toList).getD i 0).testBit j=true∨oi.apart ops oj=true
theorem pairsB_spec(h:pairsB ops (eV ops.toList)=true):FlM ops:=by
 have hj:∀(j:Nat) oj,ops[j]? =some oj→(kindOk oj.op=true∧(oj.after.all (fun e=>Nat.blt e.on ops.size))=true)∧∀i oi,i<j→ops[i]? =some oi→((eV ops.toList).getD j 0).testBit i=true∨oi.apart ops oj=true:=by
  intro j oj hoj;have h1:=List.all_eq_true.1 h j (List.mem_range.2 (Array.getElem?_eq_some_iff.1 hoj).1);simp only[hoj,Bool.and_eq_true] at h1;refine⟨⟨h1.1.1,h1.1.2⟩,fun i oi hi hoi=> ?_⟩;have h2:=List.all_eq_true.1 h1.2 i (List.mem_range.2 hi);simpa only[hoi,Bool.or_eq_true] using h2
 refine⟨fun j o ho=>(hj j o ho).1.1,fun j o ho e he _ hn=>hn (by have:=Array.all_eq_true'.1 (hj j o ho).1.2 e he;simpa[Nat.blt_eq] using this),fun i j oi oj hij hoi hoj=> ?_⟩;rcases Nat.lt_or_gt_of_ne hij with h1|h1
 ·rcases(hj j oj hoj).2 i oi h1 hoi with h2|h2
  ·exact .inl h2
  ·exact .inr (.inr h2)
 ·rcases(hj i oi hoi).2 j oj h1 hoj with h2|h2
  ·exact .inr (.inl h2)
  ·exact .inr (.inr (apart_symm h2))
inductive OT where
 | nil
 | op (i:Nat) (t:OT)
 | alt (t u:OT)
def wpT(P:Program)(ops:Array Oper)(C:World→Prop)(K:Act→World→Prop):OT→Act→World→Prop
 | .nil,a,w=>K a w
 | .op i t,a,w=>match ops[i]? with
  | none=>False
  | some o=>if Region.wanted o (yielded ops a.tmps)=true then
    (if eff o.op=true then cC P o a w (fun v w'=>C w'∧wpT P ops C K t (a.put o.dst v) w')
     else ∃v,(∀w',C w'→(execOp a.eval o).run P w'= .ok (.value v) w')∧wpT P ops C K t (a.put o.dst v) w)
   else wpT P ops C K t (a.put o.dst undef) w
 | .alt t u,a,w=>wpT P ops C K t a w∧wpT P ops C K u a w
def OT.del(j:Nat):OT→OT
 | .nil=> .nil
 | .op i t=>if i=j then t else .op i (t.del j)
 | .alt t u=> .alt (t.del j) (u.del j)
def kZ(ops:Array Oper)(i:Nat):Bool:=match ops[i]? with|some o=>eff o.op|none=>false
def OT.take(ops:Array Oper)(j:Nat):OT→Option OT
 | .nil=>none
 | .op i t=>if i=j then some t else if kZ ops i=true then none else(t.take ops j).map (.op i)
 | .alt t u=>match t.take ops j with|some x=>some x|none=>u.take ops j
def lB(ops:Array Oper):OT→List Nat
 | .nil=>[]
 | .op i t=>if kZ ops i=true then i::lB ops t else lB ops t
 | .alt t _=>lB ops t
def covT(ops:Array Oper)(ms:List Nat):Nat→OT→Bool
 | 0,t=>(lB ops t).isEmpty
 | n+1,t=>(lB ops t).all fun j=>(lB ops t).any (fun i=>(ms.getD j 0).testBit i)||(match t.take ops j with|some t'=>covT ops ms n t'|none=>false)
def OkT(ops:Array Oper):OT→List Nat→Prop
 | .nil,rem=>rem=[]
 | .op i t,rem=>(∃o,ops[i]? =some o∧∀e∈o.after,Region.binds .any e=true→e.on∉rem)∧i∈rem∧(∀b∈rem,((eV ops.toList).getD i 0).testBit b=false)∧OkT ops t (rem.erase i)
 | .alt t u,rem=>OkT ops t rem∧OkT ops u rem
def okT(ops:Array Oper)(ms:List Nat):OT→List Nat→Bool
 | .nil,rem=>rem.isEmpty
 | .op i t,rem=>(match ops[i]? with|none=>false|some o=>o.after.all fun e=> !(Region.binds .any e)|| !(rem.contains e.on))&&rem.contains i&&rem.all (fun b=> !((ms.getD i 0).testBit b))&&okT ops ms t (rem.erase i)
 | .alt t u,rem=>okT ops ms t rem&&okT ops ms u rem
theorem okT_spec:∀(t:OT) (rem:List Nat),okT ops (eV ops.toList) t rem=true→OkT ops t rem
 | .nil,rem,h=>by simpa[okT,OkT] using h
 | .op i t,rem,h=>by
  simp only[okT,Bool.and_eq_true] at h;obtain⟨⟨⟨h1,h2⟩,h3⟩,h4⟩:=h;refine⟨?_,by simpa using h2,fun b hb=>by simpa using List.all_eq_true.1 h3 b hb,okT_spec t _ h4⟩;cases ho:ops[i]? with
  | none=>rw[ho] at h1;cases h1
  | some o=>
   rw[ho] at h1;refine⟨o,J,fun e he hb=> ?_⟩;have:=Array.all_eq_true'.1 h1 e he;simp only[hb,Bool.not_true,Bool.false_or,Bool.not_eq_true'] at this;simpa using this
 | .alt t u,rem,h=>by
  simp only[okT,Bool.and_eq_true] at h;exact⟨okT_spec t rem h.1,okT_spec u rem h.2⟩
theorem del_ok{j:Nat}:∀(t:OT) (rem:List Nat),rem.Nodup→OkT ops t rem→j∈rem→OkT ops (t.del j) (rem.erase j)
 | .nil,rem,_,h,hj=>by
  have:rem=[]:=h;subst this;cases hj
 | .op i t,rem,hn,⟨⟨o,h1,h1'⟩,h2,h3,h4⟩,hj=>by
  unfold OT.del;split
  ·rename_i hij
   subst hij;exact h4
  ·rename_i hij
   refine⟨⟨o,h1,fun e he hb hm=>h1' e he hb (List.mem_of_mem_erase hm)⟩,(List.mem_erase_of_ne hij).2 h2,fun b hb=>h3 b (List.mem_of_mem_erase hb),?_⟩;rw[List.erase_comm];exact del_ok t _ (hn.erase i) h4 ((List.mem_erase_of_ne (fun h=>hij h.symm)).2 hj)
 | .alt t u,rem,hn,⟨h1,h2⟩,hj=>⟨del_ok t rem hn h1 hj,del_ok u rem hn h2 hj⟩
theorem take_ok{j:Nat}:∀(t t':OT) (rem:List Nat),rem.Nodup→OkT ops t rem→j∈rem→t.take ops j=some t'→OkT ops t' (rem.erase j)
 | .nil,_,_,_,_,_,h=>by simp[OT.take] at h
 | .op i t,t',rem,hn,⟨⟨o,h1,h1'⟩,h2,h3,h4⟩,hj,h=>by
  unfold OT.take at h;split at h
  ·rename_i hij
   subst hij;cases h
   exact h4
  ·rename_i hij
   split at h
   ·cases h
   ·cases hx:t.take ops j with
    | none=>rw[hx] at h;cases h
    | some x=>
     rw[hx] at h;cases h
     refine⟨⟨o,h1,fun e he hb hm=>h1' e he hb (List.mem_of_mem_erase hm)⟩,(List.mem_erase_of_ne hij).2 h2,fun b hb=>h3 b (List.mem_of_mem_erase hb),?_⟩;rw[List.erase_comm];exact take_ok t x _ (hn.erase i) h4 ((List.mem_erase_of_ne (fun h=>hij h.symm)).2 hj) hx
 | .alt t u,t',rem,hn,⟨h1,h2⟩,hj,h=>by
  unfold OT.take at h;split at h
  ·rename_i x hx
   cases h
   exact take_ok t _ rem hn h1 hj hx
  ·exact take_ok u t' rem hn h2 hj h
theorem take_del{j q:Nat}(hq:kZ ops q=false)(hj:kZ ops j=true):∀t:OT,(t.del q).take ops j=(t.take ops j).map (OT.del q)
 | .nil=>rfl
 | .op i t=>by
  have hjq:j≠q:=fun h=>by rw[h,hq] at hj;cases hj
  by_cases hiq:i=q
  ·subst hiq;have e1:(OT.op i t).del i=t:=by simp[OT.del]
   rw[e1];simp only[OT.take,if_neg (fun h:i=j=>hjq h.symm),hq,Bool.false_eq_true,if_false];cases t.take ops j with
   | none=>rfl
   | some x=>simp[OT.del]
  ·have e1:(OT.op i t).del q= .op i (t.del q):=by simp[OT.del,hiq]
   rw[e1];simp only[OT.take];split
   ·rfl
   ·split
    ·rfl
    ·rw[take_del hq hj t];cases t.take ops j with
     | none=>rfl
     | some x=>simp[OT.del,hiq]
 | .alt t u=>by
  simp only[OT.del,OT.take,take_del hq hj t,take_del hq hj u];cases t.take ops j with
  | none=>rfl
  | some x=>rfl
theorem effs_del{q:Nat}(hq:kZ ops q=false):∀t:OT,lB ops (t.del q)=lB ops t
 | .nil=>rfl
 | .op i t=>by
  unfold OT.del;split
  ·rename_i h
   subst h;simp[lB,hq]
  ·simp only[lB,effs_del hq t]
 | .alt t _=>by simp only[OT.del,lB,effs_del hq t]
theorem effs_eff:∀(t:OT) (j:Nat),j∈lB ops t→kZ ops j=true
 | .nil,j,h=>by simp[lB] at h
 | .op i t,j,h=>by
  unfold lB at h;split at h
  ·rename_i hi
   rcases List.mem_cons.1 h with rfl|h
   ·exact hi
   ·exact effs_eff t j h
  ·exact effs_eff t j h
 | .alt t _,j,h=>effs_eff t j h
theorem mP:∀(t:OT) (rem:List Nat),OkT ops t rem→(∀j,j∈lB ops t→j∈rem)∧∀j,j∈rem→kZ ops j=true→j∈lB ops t
 | .nil,rem,h=>by
  have:rem=[]:=h;subst this;exact⟨fun j h=>by simp[lB] at h,fun j h=>by cases h⟩
 | .op i t,rem,⟨_,h2,_,h4⟩=>by
  obtain⟨ih1,ih2⟩:=mP t _ h4;unfold lB;constructor
  ·intro j hj;split at hj
   ·rcases List.mem_cons.1 hj with rfl|hj
    ·exact h2
    ·exact List.mem_of_mem_erase (ih1 j hj)
   ·exact List.mem_of_mem_erase (ih1 j hj)
  ·intro j hj he;by_cases hij:j=i
   ·subst hij;rw[if_pos he];exact List.mem_cons_self
   ·have:=ih2 j ((List.mem_erase_of_ne hij).2 hj) he;split
    ·exact List.mem_cons_of_mem _ this
    ·exact this
 | .alt t _,rem,⟨h,_⟩=>mP t rem h
theorem cov_del{q:Nat}(hq:kZ ops q=false)(ms:List Nat):∀(n:Nat) (t:OT),covT ops ms n t=true→covT ops ms n (t.del q)=true
 | 0,t,h=>by simpa[covT,effs_del hq] using h
 | n+1,t,h=>by
  simp only[covT,effs_del hq,List.all_eq_true] at h ⊢;intro j hj;have h1:=h j hj;rw[Bool.or_eq_true] at h1 ⊢;rcases h1 with h1|h1
  ·exact .inl h1
  ·refine .inr ?_;rw[take_del hq (effs_eff t j hj)];cases hx:t.take ops j with
   | none=>rw[hx] at h1;cases h1
   | some x=>
    rw[hx] at h1;exact cov_del hq ms n x h1
theorem nI(hF:FlM ops){i j:Nat}{oi oj:Oper}(hij:i≠j)(hi:ops[i]? =some oi)(hj:ops[j]? =some oj)(h1:((eV ops.toList).getD j 0).testBit i=false)(h2:((eV ops.toList).getD i 0).testBit j=false):oi.apart ops oj=true:=by
 rcases hF.pair i j oi oj hij hi hj with h|h|h
 ·rw[h1] at h;cases h
 ·rw[h2] at h;cases h
 ·exact h
theorem kM(hF:FlM ops){j:Nat}{oj:Oper}(hj:ops[j]? =some oj)(hne:eff oj.op=false):∀(t:OT) (rem:List Nat) (a:Act) (w:World),rem.Nodup→OkT ops t rem→j∈rem→(∀i∈rem,((eV ops.toList).getD j 0).testBit i=false)→
  Region.wanted oj (yielded ops a.tmps)=true→C w→wpT P ops C K t a w→∃v,(∀w',C w'→(execOp a.eval oj).run P w'= .ok (.value v) w')∧wpT P ops C K (t.del j) (a.put oj.dst v) w
 | .nil,rem,a,w,hn,hok,hjr,hm,hw,hC,h=>by
  have:rem=[]:=hok;subst this;cases hjr
 | .alt t u,rem,a,w,hn,⟨o1,o2⟩,hjr,hm,hw,hC,⟨h1,h2⟩=>by
  obtain⟨v,hv,h3⟩:=kM hF hj hne t rem a w hn o1 hjr hm hw hC h1;obtain⟨v',hv',h4⟩:=kM hF hj hne u rem a w hn o2 hjr hm hw hC h2;have e1:=hv w hC;have e2:=hv' w hC;rw[e1] at e2;have:v=v':=by simpa using e2
  subst this;exact⟨v,hv,h3,h4⟩
 | .op i t,rem,a,w,hn,⟨⟨oi,hi,_⟩,hir,him,hok⟩,hjr,hm,hw,hC,h=>by
  by_cases hij:i=j
  ·subst hij;rw[hj] at hi;obtain rfl:=Option.some.inj hi;simp only[wpT,hj,hw,if_true,hne,Bool.false_eq_true,if_false] at h;simpa[OT.del] using h
  ·have hji:j∈rem.erase i:=(List.mem_erase_of_ne (fun h=>hij h.symm)).2 hjr;have ih':=fun a w=>kM hF hj hne t (rem.erase i) a w (hn.erase i) hok hji (fun b hb=>hm b (List.mem_of_mem_erase hb))
   have hap:=nI hF hij hi hj (hm i hir) (him j hjr);obtain⟨p1,p2,p3⟩:=Oper.apart_spec hap;have kj:=hF.kind j oj hj;have ki:=hF.kind i oi hi;have ej:∀(a:Act) v,execOp (a.put oi.dst v).eval oj=execOp a.eval oj:=fun a v=>dY kj a oi.dst v p1
   have ei:∀(a:Act) v,execOp (a.put oj.dst v).eval oi=execOp a.eval oi:=fun a v=>dY ki a oj.dst v p3
   have wj:∀(a:Act) v,Region.wanted oj (yielded ops (a.put oi.dst v).tmps)=Region.wanted oj (yielded ops a.tmps):=fun a v=>wanted_put oj a oi.dst v p1
   have wi:∀(a:Act) v,Region.wanted oi (yielded ops (a.put oj.dst v).tmps)=Region.wanted oi (yielded ops a.tmps):=fun a v=>wanted_put oi a oj.dst v p3
   have cm:∀(a:Act) u v,(a.put oi.dst u).put oj.dst v=(a.put oj.dst v).put oi.dst u:=fun a u v=>Act.put_comm a u v p2
   have ed:(OT.op i t).del j= .op i (t.del j):=by simp[OT.del,hij]
   rw[ed];simp only[wpT,hi] at h ⊢;by_cases hwi:Region.wanted oi (yielded ops a.tmps)=true
   ·simp only[hwi,if_true] at h;by_cases he:eff oi.op=true
    ·simp only[he,if_true] at h;obtain⟨v0,w0,hC0,h0⟩:=h.some;obtain⟨v,hv,_⟩:=ih' _ w0 (by rw[wj];exact hw) hC0 h0;simp only[ej] at hv;refine⟨v,hv,?_⟩;rw[wi];simp only[hwi,if_true,he]
     have h1:cC P oi (a.put oj.dst v) w (fun u w'=>C w'∧wpT P ops C K t (a.put oi.dst u) w'):=by
      unfold cC at h ⊢;rw[ei];exact h
     refine h1.mono fun u w' ⟨hC',h2⟩=>⟨hC',?_⟩;obtain⟨v',hv',h3⟩:=ih' _ w' (by rw[wj];exact hw) hC' h2
     simp only[ej] at hv';have e1:=hv w hC;have e2:=hv' w hC;rw[e1] at e2;have:v=v':=by simpa using e2
     subst this;rw[cm] at h3;exact h3
    ·simp only[he] at h;obtain⟨u,hu,h⟩:=h;obtain⟨v,hv,h3⟩:=ih' _ w (by rw[wj];exact hw) hC h;simp only[ej] at hv;refine⟨v,hv,?_⟩;rw[wi];simp only[hwi,if_true,he];refine⟨u,fun w' hC'=>by rw[ei];exact hu w' hC',?_⟩;rw[cm] at h3;exact h3
   ·simp only[hwi] at h;obtain⟨v,hv,h3⟩:=ih' _ w (by rw[wj];exact hw) hC h;simp only[ej] at hv;refine⟨v,hv,?_⟩;rw[wi];simp only[hwi];rw[cm] at h3;exact h3
theorem mM(hF:FlM ops){j:Nat}{oj:Oper}(hj:ops[j]? =some oj):∀(t:OT) (rem:List Nat) (a:Act) (w:World),rem.Nodup→OkT ops t rem→j∈rem→(∀i∈rem,((eV ops.toList).getD j 0).testBit i=false)→
  Region.wanted oj (yielded ops a.tmps)=false→wpT P ops C K t a w→wpT P ops C K (t.del j) (a.put oj.dst undef) w
 | .nil,rem,a,w,hn,hok,hjr,hm,hw,h=>by
  have:rem=[]:=hok;subst this;cases hjr
 | .alt t u,rem,a,w,hn,⟨o1,o2⟩,hjr,hm,hw,⟨h1,h2⟩=>⟨mM hF hj t rem a w hn o1 hjr hm hw h1,mM hF hj u rem a w hn o2 hjr hm hw h2⟩
 | .op i t,rem,a,w,hn,⟨⟨oi,hi,_⟩,hir,him,hok⟩,hjr,hm,hw,h=>by
  by_cases hij:i=j
  ·subst hij;rw[hj] at hi;obtain rfl:=Option.some.inj hi;simp only[wpT,hj,hw,Bool.false_eq_true,if_false] at h;simpa[OT.del] using h
  ·have hji:j∈rem.erase i:=(List.mem_erase_of_ne (fun h=>hij h.symm)).2 hjr;have ih':=fun a w=>mM hF hj t (rem.erase i) a w (hn.erase i) hok hji (fun b hb=>hm b (List.mem_of_mem_erase hb))
   have hap:=nI hF hij hi hj (hm i hir) (him j hjr);obtain⟨p1,p2,p3⟩:=Oper.apart_spec hap;have ki:=hF.kind i oi hi;have ei:∀(a:Act) v,execOp (a.put oj.dst v).eval oi=execOp a.eval oi:=fun a v=>dY ki a oj.dst v p3
   have wj:∀(a:Act) v,Region.wanted oj (yielded ops (a.put oi.dst v).tmps)=Region.wanted oj (yielded ops a.tmps):=fun a v=>wanted_put oj a oi.dst v p1
   have wi:∀(a:Act) v,Region.wanted oi (yielded ops (a.put oj.dst v).tmps)=Region.wanted oi (yielded ops a.tmps):=fun a v=>wanted_put oi a oj.dst v p3
   have cm:∀(a:Act) u v,(a.put oi.dst u).put oj.dst v=(a.put oj.dst v).put oi.dst u:=fun a u v=>Act.put_comm a u v p2
   have ed:(OT.op i t).del j= .op i (t.del j):=by simp[OT.del,hij]
   rw[ed];simp only[wpT,hi] at h ⊢;rw[wi];by_cases hwi:Region.wanted oi (yielded ops a.tmps)=true
   ·simp only[hwi,if_true] at h ⊢;by_cases he:eff oi.op=true
    ·simp only[he,if_true] at h ⊢
     have h1:cC P oi (a.put oj.dst undef) w (fun u w'=>C w'∧wpT P ops C K t (a.put oi.dst u) w'):=by
      unfold cC at h ⊢;rw[ei];exact h
     refine h1.mono fun u w' ⟨hC',h2⟩=>⟨hC',?_⟩;have h3:=ih' _ w' (by rw[wj];exact hw) h2
     rw[cm] at h3;exact h3
    ·simp only[he] at h ⊢;obtain⟨u,hu,h⟩:=h;have h3:=ih' _ w (by rw[wj];exact hw) h;refine⟨u,fun w' hC'=>by rw[ei];exact hu w' hC',?_⟩;rw[cm] at h3;exact h3
   ·simp only[hwi] at h ⊢;have h3:=ih' _ w (by rw[wj];exact hw) h;rw[cm] at h3;exact h3
theorem pV(hF:FlM ops){j:Nat}{oj:Oper}(hj:ops[j]? =some oj)(he:eff oj.op=true):∀(t t':OT) (rem:List Nat) (a:Act) (w:World),rem.Nodup→OkT ops t rem→j∈rem→(∀i∈rem,((eV ops.toList).getD j 0).testBit i=false)→
  Region.wanted oj (yielded ops a.tmps)=true→t.take ops j=some t'→wpT P ops C K t a w→cC P oj a w (fun v w'=>C w'∧wpT P ops C K t' (a.put oj.dst v) w')
 | .nil,_,_,_,_,_,_,_,_,_,ht,_=>by simp[OT.take] at ht
 | .alt t u,t',rem,a,w,hn,⟨o1,o2⟩,hjr,hm,hw,ht,⟨h1,h2⟩=>by
  unfold OT.take at ht;split at ht
  ·rename_i x hx
   cases ht
   exact pV hF hj he t _ rem a w hn o1 hjr hm hw hx h1
  ·exact pV hF hj he u t' rem a w hn o2 hjr hm hw ht h2
 | .op i t,t',rem,a,w,hn,⟨⟨oi,hi,_⟩,hir,him,hok⟩,hjr,hm,hw,ht,h=>by
  unfold OT.take at ht;split at ht
  ·rename_i hij
   subst hij;cases ht
   rw[hj] at hi;obtain rfl:=Option.some.inj hi;simp only[wpT,hj,hw,if_true,he] at h;exact h
  ·rename_i hij
   split at ht
   ·cases ht
   ·rename_i hei0
    have hei:eff oi.op=false:=by simpa[kZ,hi] using hei0
    cases hx:t.take ops j with
    | none=>rw[hx] at ht;cases ht
    | some x=>
     rw[hx] at ht;cases ht
     have hji:j∈rem.erase i:=(List.mem_erase_of_ne (fun h=>hij h.symm)).2 hjr;have ih':=fun a w=>pV hF hj he t x (rem.erase i) a w (hn.erase i) hok hji (fun b hb=>hm b (List.mem_of_mem_erase hb))
     have hap:=nI hF hij hi hj (hm i hir) (him j hjr);obtain⟨p1,p2,p3⟩:=Oper.apart_spec hap;have kj:=hF.kind j oj hj;have ki:=hF.kind i oi hi;have ej:∀(a:Act) v,execOp (a.put oi.dst v).eval oj=execOp a.eval oj:=fun a v=>dY kj a oi.dst v p1
     have ei:∀(a:Act) v,execOp (a.put oj.dst v).eval oi=execOp a.eval oi:=fun a v=>dY ki a oj.dst v p3
     have wj:∀(a:Act) v,Region.wanted oj (yielded ops (a.put oi.dst v).tmps)=Region.wanted oj (yielded ops a.tmps):=fun a v=>wanted_put oj a oi.dst v p1
     have wi:∀(a:Act) v,Region.wanted oi (yielded ops (a.put oj.dst v).tmps)=Region.wanted oi (yielded ops a.tmps):=fun a v=>wanted_put oi a oj.dst v p3
     have cm:∀(a:Act) u v,(a.put oi.dst u).put oj.dst v=(a.put oj.dst v).put oi.dst u:=fun a u v=>Act.put_comm a u v p2
     simp only[wpT,hi] at h;by_cases hwi:Region.wanted oi (yielded ops a.tmps)=true
     ·simp only[hwi,if_true,hei,Bool.false_eq_true,if_false] at h;obtain⟨u,hu,h⟩:=h;have h3:=ih' _ w (by rw[wj];exact hw) hx h
      have h4:cC P oj a w (fun v w'=>C w'∧wpT P ops C K x ((a.put oi.dst u).put oj.dst v) w'):=by
       unfold cC at h3 ⊢;rw[ej] at h3;exact h3
      refine h4.mono fun v w' ⟨hC',h5⟩=>⟨hC',?_⟩;simp only[wpT,hi]
      rw[wi];simp only[hwi,if_true,hei,Bool.false_eq_true,if_false];refine⟨u,fun w' hC'=>by rw[ei];exact hu w' hC',?_⟩;rw[cm] at h5;exact h5
     ·simp only[hwi,Bool.false_eq_true,if_false] at h;have h3:=ih' _ w (by rw[wj];exact hw) hx h
      have h4:cC P oj a w (fun v w'=>C w'∧wpT P ops C K x ((a.put oi.dst undef).put oj.dst v) w'):=by
       unfold cC at h3 ⊢;rw[ej] at h3;exact h3
      refine h4.mono fun v w' ⟨hC',h5⟩=>⟨hC',?_⟩;simp only[wpT,hi]
      rw[wi];simp only[hwi,Bool.false_eq_true,if_false];rw[cm] at h5;exact h5
theorem kX(hF:FlM ops){j:Nat}{oj:Oper}(hj:ops[j]? =some oj):∀(t t':OT) (rem:List Nat) (a:Act) (w:World),rem.Nodup→OkT ops t rem→j∈rem→(∀i∈rem,((eV ops.toList).getD j 0).testBit i=false)→
  Region.wanted oj (yielded ops a.tmps)=false→t.take ops j=some t'→wpT P ops C K t a w→wpT P ops C K t' (a.put oj.dst undef) w
 | .nil,_,_,_,_,_,_,_,_,_,ht,_=>by simp[OT.take] at ht
 | .alt t u,t',rem,a,w,hn,⟨o1,o2⟩,hjr,hm,hw,ht,⟨h1,h2⟩=>by
  unfold OT.take at ht;split at ht
  ·rename_i x hx
   cases ht
   exact kX hF hj t _ rem a w hn o1 hjr hm hw hx h1
  ·exact kX hF hj u t' rem a w hn o2 hjr hm hw ht h2
 | .op i t,t',rem,a,w,hn,⟨⟨oi,hi,_⟩,hir,him,hok⟩,hjr,hm,hw,ht,h=>by
  unfold OT.take at ht;split at ht
  ·rename_i hij
   subst hij;cases ht
   rw[hj] at hi;obtain rfl:=Option.some.inj hi;simp only[wpT,hj,hw,Bool.false_eq_true,if_false] at h;exact h
  ·rename_i hij
   split at ht
   ·cases ht
   ·rename_i hei0
    have hei:eff oi.op=false:=by simpa[kZ,hi] using hei0
    cases hx:t.take ops j with
    | none=>rw[hx] at ht;cases ht
    | some x=>
     rw[hx] at ht;cases ht
     have hji:j∈rem.erase i:=(List.mem_erase_of_ne (fun h=>hij h.symm)).2 hjr;have ih':=fun a w=>kX hF hj t x (rem.erase i) a w (hn.erase i) hok hji (fun b hb=>hm b (List.mem_of_mem_erase hb))
     have hap:=nI hF hij hi hj (hm i hir) (him j hjr);obtain⟨p1,p2,p3⟩:=Oper.apart_spec hap;have ki:=hF.kind i oi hi;have ei:∀(a:Act) v,execOp (a.put oj.dst v).eval oi=execOp a.eval oi:=fun a v=>dY ki a oj.dst v p3
     have wj:∀(a:Act) v,Region.wanted oj (yielded ops (a.put oi.dst v).tmps)=Region.wanted oj (yielded ops a.tmps):=fun a v=>wanted_put oj a oi.dst v p1
     have wi:∀(a:Act) v,Region.wanted oi (yielded ops (a.put oj.dst v).tmps)=Region.wanted oi (yielded ops a.tmps):=fun a v=>wanted_put oi a oj.dst v p3
     have cm:∀(a:Act) u v,(a.put oi.dst u).put oj.dst v=(a.put oj.dst v).put oi.dst u:=fun a u v=>Act.put_comm a u v p2
     simp only[wpT,hi] at h ⊢;rw[wi];by_cases hwi:Region.wanted oi (yielded ops a.tmps)=true
     ·simp only[hwi,if_true,hei,Bool.false_eq_true,if_false] at h ⊢;obtain⟨u,hu,h⟩:=h;have h3:=ih' _ w (by rw[wj];exact hw) hx h;refine⟨u,fun w' hC'=>by rw[ei];exact hu w' hC',?_⟩;rw[cm] at h3;exact h3
     ·simp only[hwi,Bool.false_eq_true,if_false] at h ⊢;have h3:=ih' _ w (by rw[wj];exact hw) hx h;rw[cm] at h3;exact h3
theorem okT_end:∀(t:OT) (a:Act) (w:World),OkT ops t []→wpT P ops C K t a w→K a w
 | .nil,_,_,_,h=>h
 | .op i t,_,_,⟨_,h2,_⟩,_=>by cases h2
 | .alt t _,a,w,⟨h1,_⟩,⟨h2,_⟩=>okT_end t a w h1 h2
theorem okT_first:∀(t:OT) (rem:List Nat),OkT ops t rem→rem≠[]→∃i∈rem,∃o,ops[i]? =some o∧∀e∈o.after,Region.binds .any e=true→e.on∉rem
 | .nil,rem,h,hne=>absurd h hne
 | .op i t,rem,⟨h1,h2,_⟩,_=>⟨i,h2,h1⟩
 | .alt t _,rem,⟨h1,_⟩,hne=>okT_first t rem h1 hne
variable {ro : Cx} {Q : Fin}
theorem any_of_T(hF:FlM ops)(hK:∀a w,C w→K a w→Q .normal a w):∀(fuel m:Nat) (t:OT) (rem:List Nat) (listed:Array Bool) (a:Act) (w:World),
  rem.length=fuel→rem.Nodup→listed.size=ops.size→(∀i,i∈rem↔i<ops.size∧listed.getD i true=false)→
  (∀(m:Nat) o,ops[m]? =some o→listed.getD m false=true→∀e∈o.after,Region.binds .any e=true→listed.getD e.on false=true)→
  OkT ops t rem→covT ops (eV ops.toList) m t=true→C w→wpT P ops C K t a w→wpAnyIn (FR ro.ro) 0 P .any ops Q fuel listed a w:=by
 intro fuel
 induction fuel with
 | zero=>
  intro m t rem listed a w hl hn hsz hmem hcl hok hcov hC h;have:rem=[]:=by simpa using hl
  subst this;refine⟨?_,hK _ _ hC (okT_end t a w hok h)⟩;refine List.eq_nil_iff_forall_not_mem.2 fun i hi=> ?_
  obtain⟨h0,o,ho,_⟩:=mem_ready.1 hi;exact absurd ((hmem i).2 ⟨(Array.getElem?_eq_some_iff.1 ho).1,h0⟩) (by simp)
 | succ fuel ih=>
  intro m t rem listed a w hl hn hsz hmem hcl hok hcov hC h
  have hlist:∀x,x<ops.size→x∉rem→listed.getD x false=true:=by
   intro x hx hr;have h3:¬(x<ops.size∧listed.getD x true=false):=fun hx=>hr ((hmem x).2 hx)
   have h4:x<listed.size:=by omega
   simp only[Array.getD_eq_getD_getElem?,Array.getElem?_eq_getElem h4,Option.getD_some] at h3 ⊢;cases hc:listed[x] with
   | true=>rfl
   | false=>exact absurd ⟨hx,hc⟩ h3
  have hunl:∀x,listed.getD x false=true→x∉rem:=by
   intro x hx hr;have h0:=((hmem x).1 hr).2;simp only[Array.getD_eq_getD_getElem?] at hx h0;cases hc:listed[x]? <;>simp[hc] at hx h0
   simp[hx] at h0
  refine⟨fun h0=> ?_,fun j hj=> ?_⟩
  ·exfalso;obtain⟨i,hir,o,ho,hd⟩:=okT_first t rem hok (by rintro rfl;simp at hl)
   have hrd:i∈Region.ready .any ops listed:=by
    refine mem_ready.2 ⟨((hmem i).1 hir).2,o,ho,fun e he hb=> ?_⟩;by_cases hes:e.on<ops.size
    ·exact hlist _ hes (hd e he hb)
    ·exact(hF.edge i o ho e he hb hes).elim
   rw[h0] at hrd;cases hrd
  ·obtain⟨h0,oj,hoj,hre⟩:=mem_ready.1 hj;have hjr:j∈rem:=(hmem j).2 ⟨(Array.getElem?_eq_some_iff.1 hoj).1,h0⟩
   have hun:∀i∈rem,((eV ops.toList).getD j 0).testBit i=false:=fun i hi=>by
    cases hb:((eV ops.toList).getD j 0).testBit i with
    | false=>rfl
    | true=>exact absurd hi (hunl i (masks_spec (D:=fun m=>listed.getD m false=true) (fun m o hm hD e he hb=>hcl m o hm hD e he hb) j oj hoj (fun e he hb=>hre e he hb) i hb))
   have next:∀m (t':OT) a w,OkT ops t' (rem.erase j)→covT ops (eV ops.toList) m t'=true→C w→wpT P ops C K t' a w→wpAnyIn (FR ro.ro) 0 P .any ops Q fuel (listed.setIfInBounds j true) a w:=by
    intro m t' a w hok hcov hC h;refine ih m t' (rem.erase j) _ a w ?_ (hn.erase j) (by simp[hsz]) ?_ ?_ hok hcov hC h
    ·rw[List.length_erase_of_mem hjr];omega
    ·intro i;constructor
     ·intro hi;have hne:j≠i:=fun e=>by subst e;exact absurd hi (hn.not_mem_erase)
      have h1:=(hmem i).1 (List.mem_of_mem_erase hi);exact⟨h1.1,by rw[getD_set_ne true hne];exact h1.2⟩
     ·rintro⟨h1,h2⟩
      have hne:j≠i:=fun e=>by
       subst e;simp[hsz,h1] at h2
      rw[getD_set_ne true hne] at h2;exact(List.mem_erase_of_ne (fun h=>hne h.symm)).2 ((hmem i).2 ⟨h1,h2⟩)
    ·intro m o hm hD e he hb;by_cases hmj:j=m
     ·subst hmj;rw[hoj] at hm;obtain rfl:=Option.some.inj hm;exact getD_set_true (hre e he hb)
     ·rw[getD_set_ne false hmj] at hD;exact getD_set_true (hcl m o hm hD e he hb)
   unfold wpOpIn;simp only[hoj];by_cases hw:Region.wanted oj (yielded ops a.tmps)=true
   ·simp only[hw,if_true];cases he:eff oj.op with
    | true=>
     have hej:kZ ops j=true:=by simp[kZ,hoj,he]
     have hje:=(mP t rem hok).2 j hjr hej;cases m with
     | zero=>
      simp only[covT,List.isEmpty_iff] at hcov;rw[hcov] at hje;cases hje
     | succ m=>
      simp only[covT,List.all_eq_true] at hcov;have h1:=hcov j hje;rw[Bool.or_eq_true] at h1;rcases h1 with h1|h1
      ·obtain⟨i,hi,hb⟩:=List.any_eq_true.1 h1;rw[hun i ((mP t rem hok).1 i hi)] at hb;cases hb
      ·cases hx:t.take ops j with
       | none=>rw[hx] at h1;cases h1
       | some x=>
        rw[hx] at h1;have h2:=pV hF hoj he t x rem a w hn hok hjr hun hw hx h;exact cC.wpIn (hF.kind j oj hoj) (h2.mono fun v w' ⟨hC',h3⟩=>next m x _ _ (take_ok t x rem hn hok hjr hx) h1 hC' h3)
    | false=>
     have hej:kZ ops j=false:=by simp[kZ,hoj,he]
     obtain⟨v,hv,h2⟩:=kM hF hoj he t rem a w hn hok hjr hun hw hC h;exact upon_FR (fun c hc=>by have:=hF.kind j oj hoj;rw[hc] at this;cases this) (hv w hC) (next m _ _ _ (del_ok t rem hn hok hjr) (cov_del hej _ m t hcov) hC h2)
   ·have hw':Region.wanted oj (yielded ops a.tmps)=false:=by simpa using hw
    simp only[hw',Bool.false_eq_true,if_false];cases he:eff oj.op with
    | false=>
     have hej:kZ ops j=false:=by simp[kZ,hoj,he]
     exact⟨fun f _=>fr_fn f,next m _ _ _ (del_ok t rem hn hok hjr) (cov_del hej _ m t hcov) hC (mM hF hoj t rem a w hn hok hjr hun hw' h)⟩
    | true=>
     have hej:kZ ops j=true:=by simp[kZ,hoj,he]
     have hje:=(mP t rem hok).2 j hjr hej;cases m with
     | zero=>
      simp only[covT,List.isEmpty_iff] at hcov;rw[hcov] at hje;cases hje
     | succ m=>
      simp only[covT,List.all_eq_true] at hcov;have h1:=hcov j hje;rw[Bool.or_eq_true] at h1;rcases h1 with h1|h1
      ·obtain⟨i,hi,hb⟩:=List.any_eq_true.1 h1;rw[hun i ((mP t rem hok).1 i hi)] at hb;cases hb
      ·cases hx:t.take ops j with
       | none=>rw[hx] at h1;cases h1
       | some x=>
        rw[hx] at h1;exact⟨fun f _=>fr_fn f,next m _ _ _ (take_ok t x rem hn hok hjr hx) h1 hC (kX hF hoj t x rem a w hn hok hjr hun hw' hx h)⟩
def treeB(ops:Array Oper)(t:OT):Bool:=pairsB ops (eV ops.toList)&&okT ops (eV ops.toList) t (List.range ops.size)&&covT ops (eV ops.toList) ops.size t
theorem wpIn_region_T{id:Nat}{a:Act}{w:World}(t:OT)(hm:P.follows .mixedOrders=true)(hB:treeB ops t=true)(hC:C {w with drawn:=w.drawn+1})
  (hK:∀a w,C w→K a w→Q .normal a w) (h:wpT P ops C K t a {w with drawn:=w.drawn+1}):(Code.region id ops true).wpIn (FR ro.ro) 0 P Q a w:=by
 simp only[treeB,Bool.and_eq_true] at hB;obtain⟨⟨h1,h2⟩,h3⟩:=hB;refine wpIn_region_any hm (any_of_T (pairsB_spec h1) hK ops.size ops.size t (List.range ops.size) _ a _ (by simp) List.nodup_range (by simp) ?_ ?_ (okT_spec t _ h2) h3 hC h)
 ·intro i;simp only[List.mem_range];constructor
  ·intro hi;exact⟨hi,by simp[hi]⟩
  ·exact fun hi=>hi.1
 ·intro m o _ hD;simp only[Array.getD_eq_getD_getElem?,Array.getElem?_replicate] at hD;split at hD<;>simp at hD
end
section
variable {P : Program} {ro : Cx} {n : Nat} {F : Fin} {w0 : World} {M : Nat → Prop} {k : List It} {ops : Array Oper} {e : Env} {H Hq : List Ck}
structure QT(P:Program)(ro:Cx)(n:Nat)(F:Fin)(w0:World)(M:Nat→Prop)(k:List It)(ops:Array Oper)(Hq:List Ck)(t:OT)(e:Env)(H:List Ck):Prop where
 h:∀w,Sat w0 M (H++Hq) w→∀a,Fits n e a→a.defers=ro.ds→wpT P ops (Sat w0 M Hq) (fun a w=>S P ro.ro F k .normal a w) t a w
def bO:List Nat→OT→OT
 | [],t=>t
 | i::l,t=> .op i (bO l t)
theorem jJ{id:Nat}{l:List Oper}(t:OT)(Hq Hm:List Ck)(hH:Sp H (Hm++Hq))(hm:P.follows .mixedOrders=true)(hB:treeB l.toArray t=true)(h:QT P ro n F w0 M k l.toArray Hq t e Hm) :
  Q P ro n F w0 M (.code (.region id l.toArray true)::k) e H:= .mk fun w hs a hf hd=>by
 have hs1:=(hs.sp hH).keep (Chg.drew (N:=[]) w);exact wpIn_region_T t hm hB (C:=Sat w0 M Hq) hs1.right (fun _ _ _ h=>h) (h.h _ hs1 a hf hd)
theorem iK(h:Q P ro n F w0 M k e (H++Hq)):QT P ro n F w0 M k ops Hq .nil e H:=⟨fun w hs a hf hd=>h.h w hs a hf hd⟩
theorem dC{t u:OT}(h1:QT P ro n F w0 M k ops Hq t e H)(h2:QT P ro n F w0 M k ops Hq u e H):QT P ro n F w0 M k ops Hq (.alt t u) e H:=
 ⟨fun w hs a hf hd=>⟨h1.h w hs a hf hd,h2.h w hs a hf hd⟩⟩
theorem wpT_chain{C:World→Prop}{K:Act→World→Prop}{t:OT}:∀(l:List Nat) (lo:List Oper) (a:Act) (w:World),l.map (fun i=>ops[i]?)=lo.map some→fX P ops C (wpT P ops C K t) lo a w→wpT P ops C K (bO l t) a w
 | [],[],a,w,_,h=>h
 | [],_::_,_,_,hl,_=>by cases hl
 | _::_,[],_,_,hl,_=>by cases hl
 | i::l,o::lo,a,w,hl,h=>by
  simp only[List.map_cons,List.cons.injEq] at hl;have ih:∀a w,fX P ops C (wpT P ops C K t) lo a w→wpT P ops C K (bO l t) a w:=fun a w=>wpT_chain l lo a w hl.2
  simp only[bO,wpT,hl.1];simp only[fX] at h;split
  ·rename_i hw
   rw[if_pos hw] at h;split
   ·rename_i he
    rw[if_pos he] at h;exact h.mono fun v w' ⟨hC,h2⟩=>⟨hC,ih _ _ h2⟩
   ·rename_i he
    rw[if_neg he] at h;obtain⟨v,hv,h2⟩:=h;exact⟨v,hv,ih _ _ h2⟩
  ·rename_i hw
   rw[if_neg hw] at h;exact ih _ _ h
inductive PickL (ops:Array Oper):List Nat→List Oper→Prop
 | nil:PickL ops [] []
 | cons {i:Nat} {o:Oper} {l:List Nat} {lo:List Oper}:ops[i]? =some o→PickL ops l lo→PickL ops (i::l) (o::lo)
theorem PickL.map{l:List Nat}{lo:List Oper}(h:PickL ops l lo):l.map (fun i=>ops[i]?)=lo.map some:=by
 induction h with
 | nil=>rfl
 | cons h1 _ ih=>simp[h1,ih]
theorem qH{p:Prop}(h:p:=by repeat (first|exact PickL.nil|(apply PickL.cons;rfl))):p:=h
theorem bR{l:List Nat}{lo:List Oper}{t:OT}(hl:PickL ops l lo)
  (h:∀K1:Act→World→Prop,(∀e' H',QT P ro n F w0 M k ops Hq t e' H'→Q P ro n F w0 M (.k K1::k) e' (H'++Hq))→QF P ro n F w0 M (.k K1::k) ops Hq lo e H):QT P ro n F w0 M k ops Hq (bO l t) e H:=
 ⟨fun w hs a hf hd=>by
  have h1:=h (wpT P ops (Sat w0 M Hq) (fun a w=>S P ro.ro F k .normal a w) t) (fun e' H' hq=> .mk fun w' hs' a' hf' hd'=>hq.h w' hs' a' hf' hd');exact wpT_chain l lo a w hl.map (h1.h w hs a hf hd)⟩
theorem kL{σ:Type}{c:Code}(env:σ→Env)(hp:σ→List Ck)(main:∀s,Q P ro n F w0 M k (env s) (hp s))
  (first:∀K2:Act→World→Prop,(∀s e' H',Sub (env s) e'→Sp H' (hp s)→Q P ro n F w0 M (.k K2::k) e' H')→Q P ro n F w0 M (.code c:: .k K2::k) e H):Q P ro n F w0 M (.code c::k) e H:=by
 have h1:=first (fun a w=>S P ro.ro F k .normal a w) (fun s e' H' hs hH=> .mk fun w hw a hf hd=>(main s).h w (hw.sp hH) a (hf.sub hs) hd)
 have e1:S P ro.ro F (.k (fun a w=>S P ro.ro F k .normal a w)::k)=S P ro.ro F k:=by
  funext x a w
  cases x<;>rfl
 refine .mk fun w hs a hf hd=> ?_;have h2:=h1.h w hs a hf hd
 simp only[S] at h2 ⊢;simp only[S] at e1;rw[e1] at h2;exact h2
end
section
variable {P : Program} {T : Tab}
variable {ro : Cx} {n : Nat} {F : Fin} {w0 : World} {M : Nat → Prop} {k : List It} {ops : Array Oper} {rest : List Oper} {e : Env} {H Hq : List Ck}
variable {K : Value → Prop} {q : Value → Value → Bool} {kt et mt : TypeId}
theorem Sat.aside{w w':World}{A R:List Ck}(h:Sat w0 M (A++R) w)(c:ChgP (DL A) w w'){x:Ck}(hx:x∈R):x.p w':=
 Ck.st (h.all x (List.mem_append_right _ hx)) c (fun b hb ⟨a,ha,hab⟩=>(List.pairwise_append.1 h.sep).2.2 a ha x hx b hab hb)
theorem Sat.asideOld{w w':World}{A R:List Ck}(h:Sat w0 M0 (A++R) w)(c:ChgP (DL A) w w'):Chg [] w0 w':=
 h.chg0.old c (fun b ⟨a,ha,hab⟩=>(h.bd a (List.mem_append_left _ ha) b hab).2.resolve_left (fun h=>h))
theorem Sat.later{w w':World}{A B:List Ck}(h:Sat w0 (DL A) B w)(c:ChgP (DL B) w w'):ChgP (DL A) w0 w':=h.chg.upP c (fun k ⟨x,hx,hk⟩=>(h.bd x hx k hk).2)
theorem cT{φ:Prop}(hf:∀w,Sat w0 M (H++Hq) w→φ)(h:φ→QF P ro n F w0 M k ops Hq rest e H):QF P ro n F w0 M k ops Hq rest e H:= .mk fun w hs=>(h (hf w hs)).h w hs
theorem own_slice{w:World}{base e sz n:Nat}{v:Value}{xs:List Value}(h:w.ownsRow base e sz v n xs):∃a m c,v= .slice a m c:=by
 rcases h.2 with⟨rfl,_⟩|⟨g,cap,cur,rfl,_⟩
 ·exact⟨_,_,_,J⟩
 ·exact⟨_,_,_,J⟩
theorem Sat.slice{w:World}{e sz n:Nat}{v:Value}{xs:List Value}(h:Sat w0 M H w)(hc:Ck.ow v e sz n xs∈H):∃a m c,v= .slice a m c:=own_slice (h.mem hc)
theorem Sat.slice2{w:World}{e sz n:Nat}{v:Value}{xs:List Value}(h:Sat w0 M H w)(hc:Ck.ow v e sz n xs∈H):∃a c,v= .slice a n c:=by
 have h1:w.ownsRow 0 e sz v n xs:=h.all _ hc;rcases h1.2 with⟨rfl,rfl,_⟩|⟨g,cap,cur,rfl,_⟩
 ·exact⟨_,_,J⟩
 ·exact⟨_,_,J⟩
theorem Sat.rdI{w:World}{t n:Nat}{v:Value}{l:List Int}(h:Sat w0 M H w)(hc:Ck.ow v t 1 n (bF l)∈H)(hn:n=l.length):RdI w 0 w.heap.size v l:=by
 subst hn;exact RdI.of (pZ (h.all _ hc))
end
section
variable {P : Program} {T : Tab}
variable {ro : Cx} {n : Nat} {F : Fin} {w0 : World} {M : Nat → Prop} {k : List It} {ops : Array Oper} {rest : List Oper} {e : Env} {H Hq : List Ck}
theorem own_some{w:World}{et sz m:Nat}{v:Value}{xs:List Value}(h:w.ownsRow 0 et sz v m xs)(hm:0<m):∃g c,v=aB7 g m c:=by
 rcases h.2 with⟨rfl,rfl⟩|⟨g,cap,cur,rfl,_⟩
 ·omega
 ·exact⟨_,_,J⟩
theorem Sat.ownSome{w:World}{et sz m:Nat}{v:Value}{xs:List Value}(h:Sat w0 M H w)(hc:Ck.ow v et sz m xs∈H)(hm:0<m):∃g c,v=aB7 g m c:=own_some (h.all _ hc) hm
end
section
variable {P : Program} {ro : Cx} {n : Nat} {F : Fin} {w0 : World} {M : Nat → Prop} {k : List It} {ops : Array Oper} {e : Env} {H Hq : List Ck}
theorem cX{σ:Type}(t:OT){t0:OT}(env:σ→Env)(pc:σ→List Ck)(main:∀s,QT P ro n F w0 M k ops Hq t (env s) (pc s))
  (use:(∀s e' H',Sub (env s) e'→Sp H' (pc s)→QT P ro n F w0 M k ops Hq t e' H')→QT P ro n F w0 M k ops Hq t0 e H):QT P ro n F w0 M k ops Hq t0 e H:=
 use (fun s _ _ he hH=>⟨fun w hs a hf hd=>(main s).h w (hs.sp (Sp.app hH Hq)) a (hf.sub he) hd⟩)
end
section
variable {P : Program} {T : Tab} {ro : Cx} {n : Nat} {F : Fin} {w0 : World} {M : Nat → Prop} {k : List It} {ops : Array Oper} {rest : List Oper} {e : Env} {H Hq : List Ck}
theorem bin_lssT{a b:Int}(h:a<b):oR .lss .i64 a b=some (.bool true):=by simp[oR];omega
theorem dU(hT:T.Ok P){d:Nat}{t t':Nat}{x y:Operand}{a b:Int}{ty:TypeId}{pos:String}{af:Array Edge}(hx:opv e x=some (.int .i64 a))(hy:opv e y=some (.int .i64 b))(hd:Nat.blt d n=true)(hp:a<b)
  (h:QL P ro n F w0 M k ops rest ((d,.bool true)::e) H):QL P ro n F w0 M k ops (⟨some d,.binOp .lss t x y t',ty,pos,af,none⟩::rest) e H:=aA hT ((cK hx hy).trans (bin_lssT hp)) hd h
theorem mH(hT:T.Ok P){d:Nat}{t t':Nat}{x y:Operand}{a b:Int}{ty:TypeId}{pos:String}{af:Array Edge}(hx:opv e x=some (.int .i64 a))(hy:opv e y=some (.int .i64 b))(hd:Nat.blt d n=true)(hp:a<b)
  (h:QF P ro n F w0 M k ops Hq rest ((d,.bool true)::e) H):QF P ro n F w0 M k ops Hq (⟨some d,.binOp .lss t x y t',ty,pos,af,none⟩::rest) e H:=aG hT ((cK hx hy).trans (bin_lssT hp)) rfl hd h
theorem bin_lssF{a b:Int}(h:¬a<b):oR .lss .i64 a b=some (.bool false):=by simp[oR];omega
theorem cS(hT:T.Ok P){d:Nat}{t t':Nat}{x y:Operand}{a b:Int}{ty:TypeId}{pos:String}{af:Array Edge}(hx:opv e x=some (.int .i64 a))(hy:opv e y=some (.int .i64 b))(hd:Nat.blt d n=true)(hp:¬a<b)
  (h:QL P ro n F w0 M k ops rest ((d,.bool false)::e) H):QL P ro n F w0 M k ops (⟨some d,.binOp .lss t x y t',ty,pos,af,none⟩::rest) e H:=aA hT ((cK hx hy).trans (bin_lssF hp)) hd h
theorem jI(hT:T.Ok P){d:Nat}{t t':Nat}{x y:Operand}{a b:Int}{ty:TypeId}{pos:String}{af:Array Edge}(hx:opv e x=some (.int .i64 a))(hy:opv e y=some (.int .i64 b))(hd:Nat.blt d n=true)(hp:¬a<b)
  (h:QF P ro n F w0 M k ops Hq rest ((d,.bool false)::e) H):QF P ro n F w0 M k ops Hq (⟨some d,.binOp .lss t x y t',ty,pos,af,none⟩::rest) e H:=aG hT ((cK hx hy).trans (bin_lssF hp)) rfl hd h
theorem bin_leqT{a b:Int}(h:a≤b):oR .leq .i64 a b=some (.bool true):=by simp[oR];omega
theorem oA(hT:T.Ok P){d:Nat}{t t':Nat}{x y:Operand}{a b:Int}{ty:TypeId}{pos:String}{af:Array Edge}(hx:opv e x=some (.int .i64 a))(hy:opv e y=some (.int .i64 b))(hd:Nat.blt d n=true)(hp:a≤b)
  (h:QL P ro n F w0 M k ops rest ((d,.bool true)::e) H):QL P ro n F w0 M k ops (⟨some d,.binOp .leq t x y t',ty,pos,af,none⟩::rest) e H:=aA hT ((cK hx hy).trans (bin_leqT hp)) hd h
theorem qf_leqT(hT:T.Ok P){d:Nat}{t t':Nat}{x y:Operand}{a b:Int}{ty:TypeId}{pos:String}{af:Array Edge}(hx:opv e x=some (.int .i64 a))(hy:opv e y=some (.int .i64 b))(hd:Nat.blt d n=true)(hp:a≤b)
  (h:QF P ro n F w0 M k ops Hq rest ((d,.bool true)::e) H):QF P ro n F w0 M k ops Hq (⟨some d,.binOp .leq t x y t',ty,pos,af,none⟩::rest) e H:=aG hT ((cK hx hy).trans (bin_leqT hp)) rfl hd h
theorem bin_leqF{a b:Int}(h:¬a≤b):oR .leq .i64 a b=some (.bool false):=by simp[oR];omega
theorem gH(hT:T.Ok P){d:Nat}{t t':Nat}{x y:Operand}{a b:Int}{ty:TypeId}{pos:String}{af:Array Edge}(hx:opv e x=some (.int .i64 a))(hy:opv e y=some (.int .i64 b))(hd:Nat.blt d n=true)(hp:¬a≤b)
  (h:QL P ro n F w0 M k ops rest ((d,.bool false)::e) H):QL P ro n F w0 M k ops (⟨some d,.binOp .leq t x y t',ty,pos,af,none⟩::rest) e H:=aA hT ((cK hx hy).trans (bin_leqF hp)) hd h
theorem qf_leqF(hT:T.Ok P){d:Nat}{t t':Nat}{x y:Operand}{a b:Int}{ty:TypeId}{pos:String}{af:Array Edge}(hx:opv e x=some (.int .i64 a))(hy:opv e y=some (.int .i64 b))(hd:Nat.blt d n=true)(hp:¬a≤b)
  (h:QF P ro n F w0 M k ops Hq rest ((d,.bool false)::e) H):QF P ro n F w0 M k ops Hq (⟨some d,.binOp .leq t x y t',ty,pos,af,none⟩::rest) e H:=aG hT ((cK hx hy).trans (bin_leqF hp)) rfl hd h
theorem bin_gtrT{a b:Int}(h:b<a):oR .gtr .i64 a b=some (.bool true):=by simp[oR];omega
theorem cH(hT:T.Ok P){d:Nat}{t t':Nat}{x y:Operand}{a b:Int}{ty:TypeId}{pos:String}{af:Array Edge}(hx:opv e x=some (.int .i64 a))(hy:opv e y=some (.int .i64 b))(hd:Nat.blt d n=true)(hp:b<a)
  (h:QL P ro n F w0 M k ops rest ((d,.bool true)::e) H):QL P ro n F w0 M k ops (⟨some d,.binOp .gtr t x y t',ty,pos,af,none⟩::rest) e H:=aA hT ((cK hx hy).trans (bin_gtrT hp)) hd h
theorem aB4{d:Nat}{t t':Nat}{x y:Operand}{a b:Int}{ty:TypeId}{pos:String}{af:Array Edge}(p_:(T.Ok P)∧(opv e x=some (.int .i64 a))∧(opv e y=some (.int .i64 b))∧(Nat.blt d n=true))(hp:b<a)(h:QL P ro n F w0 M k ops rest ((d,.bool true)::e) H):QL P ro n F w0 M k ops (⟨some d,.binOp .gtr t x y t',ty,pos,af,none⟩::rest) e H:=cH p_.1 p_.2.1 p_.2.2.1 p_.2.2.2 hp h
theorem jF(hT:T.Ok P){d:Nat}{t t':Nat}{x y:Operand}{a b:Int}{ty:TypeId}{pos:String}{af:Array Edge}(hx:opv e x=some (.int .i64 a))(hy:opv e y=some (.int .i64 b))(hd:Nat.blt d n=true)(hp:b<a)
  (h:QF P ro n F w0 M k ops Hq rest ((d,.bool true)::e) H):QF P ro n F w0 M k ops Hq (⟨some d,.binOp .gtr t x y t',ty,pos,af,none⟩::rest) e H:=aG hT ((cK hx hy).trans (bin_gtrT hp)) rfl hd h
theorem bin_gtrF{a b:Int}(h:¬b<a):oR .gtr .i64 a b=some (.bool false):=by simp[oR];omega
theorem bZ(hT:T.Ok P){d:Nat}{t t':Nat}{x y:Operand}{a b:Int}{ty:TypeId}{pos:String}{af:Array Edge}(hx:opv e x=some (.int .i64 a))(hy:opv e y=some (.int .i64 b))(hd:Nat.blt d n=true)(hp:¬b<a)
  (h:QL P ro n F w0 M k ops rest ((d,.bool false)::e) H):QL P ro n F w0 M k ops (⟨some d,.binOp .gtr t x y t',ty,pos,af,none⟩::rest) e H:=aA hT ((cK hx hy).trans (bin_gtrF hp)) hd h
theorem aB3{d:Nat}{t t':Nat}{x y:Operand}{a b:Int}{ty:TypeId}{pos:String}{af:Array Edge}(p_:(T.Ok P)∧(opv e x=some (.int .i64 a))∧(opv e y=some (.int .i64 b))∧(Nat.blt d n=true))(hp:¬b<a)(h:QL P ro n F w0 M k ops rest ((d,.bool false)::e) H):QL P ro n F w0 M k ops (⟨some d,.binOp .gtr t x y t',ty,pos,af,none⟩::rest) e H:=bZ p_.1 p_.2.1 p_.2.2.1 p_.2.2.2 hp h
theorem jH(hT:T.Ok P){d:Nat}{t t':Nat}{x y:Operand}{a b:Int}{ty:TypeId}{pos:String}{af:Array Edge}(hx:opv e x=some (.int .i64 a))(hy:opv e y=some (.int .i64 b))(hd:Nat.blt d n=true)(hp:¬b<a)
  (h:QF P ro n F w0 M k ops Hq rest ((d,.bool false)::e) H):QF P ro n F w0 M k ops Hq (⟨some d,.binOp .gtr t x y t',ty,pos,af,none⟩::rest) e H:=aG hT ((cK hx hy).trans (bin_gtrF hp)) rfl hd h
theorem bin_geqT{a b:Int}(h:b≤a):oR .geq .i64 a b=some (.bool true):=by simp[oR];omega
theorem kW(hT:T.Ok P){d:Nat}{t t':Nat}{x y:Operand}{a b:Int}{ty:TypeId}{pos:String}{af:Array Edge}(hx:opv e x=some (.int .i64 a))(hy:opv e y=some (.int .i64 b))(hd:Nat.blt d n=true)(hp:b≤a)
  (h:QL P ro n F w0 M k ops rest ((d,.bool true)::e) H):QL P ro n F w0 M k ops (⟨some d,.binOp .geq t x y t',ty,pos,af,none⟩::rest) e H:=aA hT ((cK hx hy).trans (bin_geqT hp)) hd h
theorem qf_geqT(hT:T.Ok P){d:Nat}{t t':Nat}{x y:Operand}{a b:Int}{ty:TypeId}{pos:String}{af:Array Edge}(hx:opv e x=some (.int .i64 a))(hy:opv e y=some (.int .i64 b))(hd:Nat.blt d n=true)(hp:b≤a)
  (h:QF P ro n F w0 M k ops Hq rest ((d,.bool true)::e) H):QF P ro n F w0 M k ops Hq (⟨some d,.binOp .geq t x y t',ty,pos,af,none⟩::rest) e H:=aG hT ((cK hx hy).trans (bin_geqT hp)) rfl hd h
theorem bin_geqF{a b:Int}(h:¬b≤a):oR .geq .i64 a b=some (.bool false):=by simp[oR];omega
theorem gJ(hT:T.Ok P){d:Nat}{t t':Nat}{x y:Operand}{a b:Int}{ty:TypeId}{pos:String}{af:Array Edge}(hx:opv e x=some (.int .i64 a))(hy:opv e y=some (.int .i64 b))(hd:Nat.blt d n=true)(hp:¬b≤a)
  (h:QL P ro n F w0 M k ops rest ((d,.bool false)::e) H):QL P ro n F w0 M k ops (⟨some d,.binOp .geq t x y t',ty,pos,af,none⟩::rest) e H:=aA hT ((cK hx hy).trans (bin_geqF hp)) hd h
theorem oB(hT:T.Ok P){d:Nat}{t t':Nat}{x y:Operand}{a b:Int}{ty:TypeId}{pos:String}{af:Array Edge}(hx:opv e x=some (.int .i64 a))(hy:opv e y=some (.int .i64 b))(hd:Nat.blt d n=true)(hp:¬b≤a)
  (h:QF P ro n F w0 M k ops Hq rest ((d,.bool false)::e) H):QF P ro n F w0 M k ops Hq (⟨some d,.binOp .geq t x y t',ty,pos,af,none⟩::rest) e H:=aG hT ((cK hx hy).trans (bin_geqF hp)) rfl hd h
theorem bin_eqlT{a b:Int}(h:a=b):oR .eql .i64 a b=some (.bool true):=by simp[oR];omega
theorem bH(hT:T.Ok P){d:Nat}{t t':Nat}{x y:Operand}{a b:Int}{ty:TypeId}{pos:String}{af:Array Edge}(hx:opv e x=some (.int .i64 a))(hy:opv e y=some (.int .i64 b))(hd:Nat.blt d n=true)(hp:a=b)
  (h:QL P ro n F w0 M k ops rest ((d,.bool true)::e) H):QL P ro n F w0 M k ops (⟨some d,.binOp .eql t x y t',ty,pos,af,none⟩::rest) e H:=aA hT ((cK hx hy).trans (bin_eqlT hp)) hd h
theorem aA8{d:Nat}{t t':Nat}{x y:Operand}{a b:Int}{ty:TypeId}{pos:String}{af:Array Edge}(p_:(T.Ok P)∧(opv e x=some (.int .i64 a))∧(opv e y=some (.int .i64 b))∧(Nat.blt d n=true))(hp:a=b)(h:QL P ro n F w0 M k ops rest ((d,.bool true)::e) H):QL P ro n F w0 M k ops (⟨some d,.binOp .eql t x y t',ty,pos,af,none⟩::rest) e H:=bH p_.1 p_.2.1 p_.2.2.1 p_.2.2.2 hp h
theorem qf_eqlT(hT:T.Ok P){d:Nat}{t t':Nat}{x y:Operand}{a b:Int}{ty:TypeId}{pos:String}{af:Array Edge}(hx:opv e x=some (.int .i64 a))(hy:opv e y=some (.int .i64 b))(hd:Nat.blt d n=true)(hp:a=b)
  (h:QF P ro n F w0 M k ops Hq rest ((d,.bool true)::e) H):QF P ro n F w0 M k ops Hq (⟨some d,.binOp .eql t x y t',ty,pos,af,none⟩::rest) e H:=aG hT ((cK hx hy).trans (bin_eqlT hp)) rfl hd h
theorem bin_eqlF{a b:Int}(h:a≠b):oR .eql .i64 a b=some (.bool false):=by simp[oR];omega
theorem bV(hT:T.Ok P){d:Nat}{t t':Nat}{x y:Operand}{a b:Int}{ty:TypeId}{pos:String}{af:Array Edge}(hx:opv e x=some (.int .i64 a))(hy:opv e y=some (.int .i64 b))(hd:Nat.blt d n=true)(hp:a≠b)
  (h:QL P ro n F w0 M k ops rest ((d,.bool false)::e) H):QL P ro n F w0 M k ops (⟨some d,.binOp .eql t x y t',ty,pos,af,none⟩::rest) e H:=aA hT ((cK hx hy).trans (bin_eqlF hp)) hd h
theorem aA9{d:Nat}{t t':Nat}{x y:Operand}{a b:Int}{ty:TypeId}{pos:String}{af:Array Edge}(p_:(T.Ok P)∧(opv e x=some (.int .i64 a))∧(opv e y=some (.int .i64 b))∧(Nat.blt d n=true))(hp:a≠b)(h:QL P ro n F w0 M k ops rest ((d,.bool false)::e) H):QL P ro n F w0 M k ops (⟨some d,.binOp .eql t x y t',ty,pos,af,none⟩::rest) e H:=bV p_.1 p_.2.1 p_.2.2.1 p_.2.2.2 hp h
theorem oI(hT:T.Ok P){d:Nat}{t t':Nat}{x y:Operand}{a b:Int}{ty:TypeId}{pos:String}{af:Array Edge}(hx:opv e x=some (.int .i64 a))(hy:opv e y=some (.int .i64 b))(hd:Nat.blt d n=true)(hp:a≠b)
  (h:QF P ro n F w0 M k ops Hq rest ((d,.bool false)::e) H):QF P ro n F w0 M k ops Hq (⟨some d,.binOp .eql t x y t',ty,pos,af,none⟩::rest) e H:=aG hT ((cK hx hy).trans (bin_eqlF hp)) rfl hd h
theorem bin_neqT{a b:Int}(h:a≠b):oR .neq .i64 a b=some (.bool true):=by simp[oR];omega
theorem bM(hT:T.Ok P){d:Nat}{t t':Nat}{x y:Operand}{a b:Int}{ty:TypeId}{pos:String}{af:Array Edge}(hx:opv e x=some (.int .i64 a))(hy:opv e y=some (.int .i64 b))(hd:Nat.blt d n=true)(hp:a≠b)
  (h:QL P ro n F w0 M k ops rest ((d,.bool true)::e) H):QL P ro n F w0 M k ops (⟨some d,.binOp .neq t x y t',ty,pos,af,none⟩::rest) e H:=aA hT ((cK hx hy).trans (bin_neqT hp)) hd h
theorem aB0{d:Nat}{t t':Nat}{x y:Operand}{a b:Int}{ty:TypeId}{pos:String}{af:Array Edge}(p_:(T.Ok P)∧(opv e x=some (.int .i64 a))∧(opv e y=some (.int .i64 b))∧(Nat.blt d n=true))(hp:a≠b)(h:QL P ro n F w0 M k ops rest ((d,.bool true)::e) H):QL P ro n F w0 M k ops (⟨some d,.binOp .neq t x y t',ty,pos,af,none⟩::rest) e H:=bM p_.1 p_.2.1 p_.2.2.1 p_.2.2.2 hp h
theorem qf_neqT(hT:T.Ok P){d:Nat}{t t':Nat}{x y:Operand}{a b:Int}{ty:TypeId}{pos:String}{af:Array Edge}(hx:opv e x=some (.int .i64 a))(hy:opv e y=some (.int .i64 b))(hd:Nat.blt d n=true)(hp:a≠b)
  (h:QF P ro n F w0 M k ops Hq rest ((d,.bool true)::e) H):QF P ro n F w0 M k ops Hq (⟨some d,.binOp .neq t x y t',ty,pos,af,none⟩::rest) e H:=aG hT ((cK hx hy).trans (bin_neqT hp)) rfl hd h
theorem bin_neqF{a b:Int}(h:a=b):oR .neq .i64 a b=some (.bool false):=by simp[oR];omega
theorem aS(hT:T.Ok P){d:Nat}{t t':Nat}{x y:Operand}{a b:Int}{ty:TypeId}{pos:String}{af:Array Edge}(hx:opv e x=some (.int .i64 a))(hy:opv e y=some (.int .i64 b))(hd:Nat.blt d n=true)(hp:a=b)
  (h:QL P ro n F w0 M k ops rest ((d,.bool false)::e) H):QL P ro n F w0 M k ops (⟨some d,.binOp .neq t x y t',ty,pos,af,none⟩::rest) e H:=aA hT ((cK hx hy).trans (bin_neqF hp)) hd h
theorem aB1{d:Nat}{t t':Nat}{x y:Operand}{a b:Int}{ty:TypeId}{pos:String}{af:Array Edge}(p_:(T.Ok P)∧(opv e x=some (.int .i64 a))∧(opv e y=some (.int .i64 b))∧(Nat.blt d n=true))(hp:a=b)(h:QL P ro n F w0 M k ops rest ((d,.bool false)::e) H):QL P ro n F w0 M k ops (⟨some d,.binOp .neq t x y t',ty,pos,af,none⟩::rest) e H:=aS p_.1 p_.2.1 p_.2.2.1 p_.2.2.2 hp h
theorem qf_neqF(hT:T.Ok P){d:Nat}{t t':Nat}{x y:Operand}{a b:Int}{ty:TypeId}{pos:String}{af:Array Edge}(hx:opv e x=some (.int .i64 a))(hy:opv e y=some (.int .i64 b))(hd:Nat.blt d n=true)(hp:a=b)
  (h:QF P ro n F w0 M k ops Hq rest ((d,.bool false)::e) H):QF P ro n F w0 M k ops Hq (⟨some d,.binOp .neq t x y t',ty,pos,af,none⟩::rest) e H:=aG hT ((cK hx hy).trans (bin_neqF hp)) rfl hd h
end
section
variable {P : Program} {ro : Cx} {n : Nat} {F : Fin} {w0 : World} {M : Nat → Prop} {k : List It} {ops : Array Oper} {rest : List Oper} {e : Env} {H Hq : List Ck}
theorem run_shl{a b:Int}(hb:0≤b∧b<64)(h1: -9223372036854775808≤a*2^b.toNat)(h2:a*2^b.toNat<9223372036854775808)(w:World):(Op.shift .shl .i64 a .i64 b).run P w= .ok (.int .i64 (a*2^b.toNat)) w:=by
 have hm:min b.toNat IntKind.i64.bits=b.toNat:=by simp[IntKind.bits];omega
 simp only[Op.shift,if_neg (show ¬b<0 by omega),hm];rw[w64 h1 h2]
 rfl
theorem run_shr{a b:Int}(ha:0≤a)(hb:0≤b∧b<64)(w:World):(Op.shift .shr .i64 a .i64 b).run P w= .ok (.int .i64 (a/2^b.toNat)) w:=by
 have hm:min b.toNat IntKind.i64.bits=b.toNat:=by simp[IntKind.bits];omega
 simp only[Op.shift,if_neg (show ¬b<0 by omega),hm];rw[Int.fdiv_eq_ediv_of_nonneg _ (by exact Int.le_of_lt (Int.pow_pos qG))]
 rfl
theorem bit1(m:Nat)(hm:m<18446744073709551616):(BitVec.ofInt 64 (m:Int) &&& BitVec.ofInt 64 1).toNat=m%2:=by
 rw[BitVec.toNat_and];have h1:(BitVec.ofInt 64 (m:Int)).toNat=m:=by simp[BitVec.toNat_ofInt];omega
 have h2:(BitVec.ofInt 64 1).toNat=1:=by decide
 rw[h1,h2,Nat.and_one_is_mod]
theorem run_and1{a:Int}(ha:0≤a∧a<9223372036854775808)(w:World):(Op.intBits .and .i64 a 1).run P w= .ok (.int .i64 (a%2)) w:=by
 obtain⟨m,rfl⟩:=Int.eq_ofNat_of_zero_le ha.1;have h:=bit1 m qG;have h3:(BitVec.ofInt IntKind.i64.bits (m:Int) &&& BitVec.ofInt IntKind.i64.bits 1).toNat=m%2:=h;simp only[Op.intBits];rw[h3,w64 qG qG];have:((m%2:Nat):Int)=(m:Int)%2:=by omega
 rw[this]
 rfl
theorem ql_shl{d t t':Nat}{x y:Operand}{a b:Int}{ty:TypeId}{pos:String}{af:Array Edge}(hx:opv e x=some (.int .i64 a))(hy:opv e y=some (.int .i64 b))(hd:Nat.blt d n=true)(hb:0≤b∧b<64)(h1: -9223372036854775808≤a*2^b.toNat)(h2:a*2^b.toNat<9223372036854775808)
  (h:QL P ro n F w0 M k ops rest ((d,.int .i64 (a*2^b.toNat))::e) H):QL P ro n F w0 M k ops (⟨some d,.binOp .shl t x y t',ty,pos,af,none⟩::rest) e H:= .mk fun w hw=>
 dF (by simp) hd (fun a' hf=>by
  have e1:=hf.op hx;have e2:=hf.op hy;simp only[execOp,e1,e2];have:=run_shl (P:=P) hb h1 h2 w;simp[eqGuard,binOp,this];exact w64 h1 h2) (h.h w hw)
theorem ql_shr{d t t':Nat}{x y:Operand}{a b:Int}{ty:TypeId}{pos:String}{af:Array Edge}(hx:opv e x=some (.int .i64 a))(hy:opv e y=some (.int .i64 b))(hd:Nat.blt d n=true)(ha:0≤a)(hb:0≤b∧b<64)
  (h:QL P ro n F w0 M k ops rest ((d,.int .i64 (a/2^b.toNat))::e) H):QL P ro n F w0 M k ops (⟨some d,.binOp .shr t x y t',ty,pos,af,none⟩::rest) e H:= .mk fun w hw=>
 dF (by simp) hd (fun a' hf=>by
  have e1:=hf.op hx;have e2:=hf.op hy;simp only[execOp,e1,e2];have:=run_shr (P:=P) ha hb w;simp[eqGuard,binOp,this]) (h.h w hw)
theorem ql_and1{d t t':Nat}{x y:Operand}{a:Int}{ty:TypeId}{pos:String}{af:Array Edge}(hx:opv e x=some (.int .i64 a))(hy:opv e y=some (.int .i64 1))(hd:Nat.blt d n=true)(ha:0≤a∧a<9223372036854775808)
  (h:QL P ro n F w0 M k ops rest ((d,.int .i64 (a%2))::e) H):QL P ro n F w0 M k ops (⟨some d,.binOp .and t x y t',ty,pos,af,none⟩::rest) e H:= .mk fun w hw=>
 dF (by simp) hd (fun a' hf=>by
  have e1:=hf.op hx;have e2:=hf.op hy;simp only[execOp,e1,e2];have:=run_and1 (P:=P) ha w;simp[eqGuard,binOp,this]) (h.h w hw)
end
section
variable {P : Program} {T : Tab} {ro : Cx} {n : Nat} {F : Fin} {w0 : World} {M : Nat → Prop} {k : List It} {ops : Array Oper} {rest : List Oper} {e : Env} {H Hq : List Ck}
end
section
variable {P : Program} {ro : Cx} {n : Nat} {F : Fin} {w0 : World} {M : Nat → Prop} {k : List It} {ops : Array Oper} {l : List Oper} {e : Env} {H H1 H2 : List Ck} {bs : List Bool}
structure QB(P:Program)(ro:Cx)(n:Nat)(F:Fin)(w0:World)(M:Nat→Prop)(k:List It)(ops:Array Oper)(H1 H2:List Ck)(bs:List Bool)(l:List Oper)(e:Env)(H:List Ck):Prop where
 h:∀w,Sat w0 M H w→YB P ro n F k ops (Sat w0 M H1) (Sat w0 M H2) bs l e w
theorem q_drawB{id:Nat}(bs:List Bool)(Hq2 Hm:List Ck)(hH:Sp H (Hm++Hq2))(hm:P.follows .mixedOrders=true)(hB:flB l.toArray=true)(hbs:flagB l.toArray bs=true)
  (h:QB P ro n F w0 M k l.toArray H Hq2 bs l e H):Q P ro n F w0 M (.code (.region id l.toArray true)::k) e H:= .mk fun w hs a hf hd=>by
 have hs1:Sat w0 M H {w with drawn:=w.drawn+1}:=hs.keep (Chg.drew (N:=[]) w);have h12:∀w,Sat w0 M H w→Sat w0 M Hq2 w:=fun w hw=>(hw.sp hH).right
 refine iC hm (flB_spec hB) (K:=fun a w=>S P ro.ro F k .normal a w) (Cq:=lQ (Sat w0 M H) (Sat w0 M Hq2) bs) (Ce:=lQ (Sat w0 M H) (Sat w0 M Hq2) bs)
  (fun i j oi oj=>flagB_spec hbs h12 i j oi oj) (fun i=> ?_) (fun _ _ h=>h) ?_
 ·unfold lQ;cases bs.getD i false
  ·exact h12 _ hs1
  ·exact hs1
 ·have h2:=wpFlB_eq (P:=P) (ops:=l.toArray) (C1:=Sat w0 M H) (C2:=Sat w0 M Hq2) (bs:=bs) (K:=fun a w=>S P ro.ro F k .normal a w) l 0 (by simp);rw[show List.range l.toArray.size=List.range' 0 l.length from by simp[List.range_eq_range'],h2];exact h.h _ hs1 a hf hd
theorem qb_T(c:Nat)(hb:(bs.take c).all (fun x=>x==true)=true)(hc:Nat.ble c bs.length=true)(hH:Sp H H1)
  (h:∀K1:Act→World→Prop,(∀e' H',QB P ro n F w0 M k ops H1 H2 (bs.drop c) (l.drop c) e' H'→Q P ro n F w0 M (.k K1::k) e' H')→QF P ro n F w0 M (.k K1::k) ops H1 (l.take c) e []) :
  QB P ro n F w0 M k ops H1 H2 bs l e H:= .mk fun w hs=>by
 refine yb_seg true c hb (Nat.le_of_ble_eq_true hc) (fun K1 hK1=> ?_);have h3:=h K1 (fun e' H' hq=> .mk fun w' hw' a' hf' hd'=>hK1 e' w' (hq.h w' hw') a' hf' hd');exact h3.h w (hs.sp hH)
theorem qb_F(c:Nat)(Hm:List Ck)(hb:(bs.take c).all (fun x=>x==false)=true)(hc:Nat.ble c bs.length=true)(hH:Sp H (Hm++H2))
  (h:∀K1:Act→World→Prop,(∀e' H',QB P ro n F w0 M k ops H1 H2 (bs.drop c) (l.drop c) e' H'→Q P ro n F w0 M (.k K1::k) e' H')→QF P ro n F w0 M (.k K1::k) ops H2 (l.take c) e Hm) :
  QB P ro n F w0 M k ops H1 H2 bs l e H:= .mk fun w hs=>by
 refine yb_seg false c hb (Nat.le_of_ble_eq_true hc) (fun K1 hK1=> ?_);have h3:=h K1 (fun e' H' hq=> .mk fun w' hw' a' hf' hd'=>hK1 e' w' (hq.h w' hw') a' hf' hd');exact h3.h w (hs.sp hH)
theorem qb_nil{bs:List Bool}(h:Q P ro n F w0 M k e H):QB P ro n F w0 M k ops H1 H2 bs [] e H:= .mk fun w hs=>yb_nil (h.h w hs)
end
section
variable {P : Program} {T : Tab}
variable {ro : Cx} {n : Nat} {F : Fin} {w0 : World} {M : Nat → Prop} {k : List It} {ops : Array Oper} {rest : List Oper} {e : Env} {H Hq : List Ck}
theorem pD(hT:T.Ok P){t:Nat}{x y:Operand}{g off m c et:Nat}{xs:List Value}{u:Value}{H':List Ck}{ty:TypeId}{pos:String}{af:Array Edge}(i:Nat)
  (hx:opv e x=some (.pointer (some ⟨g,off,none⟩))) (hy:opv e y=some u) (h1:has T.one t=true) (hv:dA u=true)
  (hr:Rp H (.ow (aB7 g m c) et 1 m xs) (.ow (aB7 g m c) et 1 m (xs.set i u)) H') (ho:off=i) (hi:i<xs.length)
  (h:QF P ro n F w0 M k ops Hq rest e H'):QF P ro n F w0 M k ops Hq (⟨none,.store t x y,ty,pos,af,none⟩::rest) e H:= .mk fun w hs=>by
 subst ho;obtain⟨hl,h2⟩:w.ownsRow 0 et 1 (aB7 g m c) m xs:=hs.mem (hr.app Hq).mem;rcases h2 with⟨hv',_⟩|⟨g',cap,cur,hv',hg,hh,hnc,hcm,hcs,ht⟩
 ·cases hv'
 cases hv'
 have hb:Blk w g cur.toList et:=by simpa[Blk] using hh
 have hcl:off<cur.toList.length:=by
  have:=congrArg List.length ht;simp at this;simp;omega
 refine yf_store1 hT hx hy h1 hv hb hcl (fun w' hc _ hb'=> ?_)
 have hs':=hs.rep (hr.app Hq) hc (fun k hk=>by
  obtain rfl:k=g:=by simpa using hk
  rfl) (by
  refine⟨by simpa using hl,.inr ⟨g,c,(cur.toList.set off u).toArray,J,hg,by simpa[Blk] using hb',hnc,hcm,by simpa using hcs,?_⟩⟩;simp only[List.toList_toArray];rw[List.take_set,ht]) (fun b hb2=>by
  have:b=g:=by simpa[Ck.D,Value.ownBlock] using hb2.symm
  subst this;exact⟨.inl rfl,hb'.lt⟩)
 exact⟨hs'.right,h.h w' hs'⟩
theorem own_lt{w:World}{et g m c:Nat}{xs:List Value}(h:w.ownsRow 0 et 1 (aB7 g m c) m xs):g<w.heap.size:=by
 obtain⟨hl,h2⟩:=h;rcases h2 with⟨hv',_⟩|⟨g',cap,cur,hv',hg,hh,hnc,hcm,hcs,ht⟩
 ·cases hv'
 cases hv'
 have hb:Blk w g cur.toList et:=by simpa[Blk] using hh
 exact hb.lt
theorem Sat.own0{w:World}{et g m c:Nat}{xs:List Value}(h:w.ownsRow 0 et 1 (aB7 g m c) m xs):Sat w (fun x=>x=g) [.ow (aB7 g m c) et 1 m xs] w:=
 ⟨ChgP.refl _ _,by simpa[Ck.p] using h,.cons (by simp) .nil,fun ck hc x hx=>by
  obtain rfl:ck= .ow (aB7 g m c) et 1 m xs:=by simpa using hc
  obtain rfl:x=g:=by simpa[Ck.D,Value.ownBlock] using hx.symm
  exact⟨own_lt h,.inl J⟩⟩
end
section
variable {P : Program} {T : Tab} {ro : Cx} {n : Nat} {F : Fin} {w0 : World} {M : Nat → Prop} {k : List It} {ops : Array Oper} {rest : List Oper} {e : Env} {H Hq : List Ck}
def boolB(P:Program)(t:Nat):Bool:=match P.underlying t with|some .bool=>true|_=>false
theorem boolB_eq{t:Nat}(h:boolB P t=true):P.underlying t=some .bool:=by
 unfold boolB at h;split at h
 ·assumption
 ·cases h
theorem exec_eqb{a:Act}{d t t':Nat}{x y:Operand}{p q:Bool}{ty:TypeId}{pos:String}{af:Array Edge}(hf:Fits n e a)(hx:opv e x=some (.bool p))(hy:opv e y=some (.bool q))(hB:boolB P t=true)(w:World) :
  (execOp a.eval ⟨some d,.binOp .eql t x y t',ty,pos,af,none⟩).run P w= .ok (.value (.bool (p==q))) w∧(execOp a.eval ⟨some d,.binOp .neq t x y t',ty,pos,af,none⟩).run P w= .ok (.value (.bool (!(p==q)))) w:=by
 have e1:=hf.op hx;have e2:=hf.op hy;have hu:=boolB_eq hB;have h3:=run_equalIn_bool w 9999 t p q hu;constructor<;>simp[execOp,e1,e2,eqGuard,binOp,Op.equal,Op.maxDepth,h3]
theorem ql_neb{d t t':Nat}{x y:Operand}{p q:Bool}{ty:TypeId}{pos:String}{af:Array Edge}(hB:boolB P t=true)(hx:opv e x=some (.bool p))(hy:opv e y=some (.bool q))(hd:Nat.blt d n=true)
  (h:QL P ro n F w0 M k ops rest ((d,.bool (!(p==q)))::e) H):QL P ro n F w0 M k ops (⟨some d,.binOp .neq t x y t',ty,pos,af,none⟩::rest) e H:= .mk fun w hw=>
 dF (by simp) hd (fun _ hf=>(exec_eqb hf hx hy hB w).2) (h.h w hw)
end
section
variable {P : Program} {T : Tab}
variable {ro : Cx} {n : Nat} {F : Fin} {k : List It} {ops : Array Oper} {rest : List Oper} {e : Env} {w0 : World} {M : Nat → Prop} {H Hq : List Ck}
def ItOkP{α β:Type}(P:Program)(gf:Nat)(lb:List Value)(enc:α→List Value)(val:α→β)(pc:α→List Ck)(xs:List β)(w:World)(D:Nat→Prop):Prop:=
 ∀(fv:Value) (σ:Type) (L:σ→List Ck) (I:List β→σ→Prop) (E:σ→Prop) (s0:σ),dA fv=true→I [] s0→(∀b,DL (L s0) b→D b)→Sat w (DL (L s0)) (L s0) w→
  (∀pre x post s w',xs=pre++val x::post→I pre s→Sat w (DL (L s0)) (L s++pc x) w'→CaF P fv (enc x) w' (fun v w''=>∃s',((v= .bool true∧I (pre++[val x]) s')∨(v= .bool false∧E s'))∧Sat w' (DL (L s++pc x)) (L s') w''))→
  Ca P gf (fv::lb) w (fun _ w'=>∃s',(I xs s'∨E s')∧Sat w (DL (L s0)) (L s') w')
end
section
variable {P : Program} {T : Tab} {ro : Cx} {n : Nat} {F : Fin} {w0 : World} {M : Nat → Prop} {k : List It} {ops : Array Oper} {rest : List Oper} {e : Env} {H Hq : List Ck}
theorem oneV_cell{v:Value}(h:dA v=true):v.oneCell'=true:=by
 cases v<;>first|rfl|simp[dA] at h
theorem run_copyR{w:World}{dT sT et sz m o c lo hi g:Nat}{v:Value}{cur news:List Value}{bt:TypeId}(ty:TypeId)(hu:P.underlying dT=some (.slice et))(hsz:(P.info? et).map (·.size)=some sz)
  (hb:Blk w g cur bt) (hrd:Rd w lo hi v sz m news) (hfit:o+news.length≤cur.length) (h1:∀x∈news,dA x=true) :
  ∃w',(Builtin.copy_ #[dT,sT] ty #[.slice (some ⟨g,o,none⟩) m c,v]).run P w= .ok (goInt m) w'∧Chg [g] w w'∧Blk w' g (cur.take o++news++cur.drop (o+news.length)) bt:=by
 obtain⟨hl,hr⟩:=hrd;cases hq:P.info? et with
 | none=>simp[hq] at hsz
 | some i=>
  have hi:i.size=sz:=by simpa[hq] using hsz
  subst hi
  have key:∀(a:Addr) (cap:Nat),(∀j x,news[j]? =some x→w.cell? (a.add j)=some x)→∃w',(Builtin.copy_ #[dT,sT] ty #[.slice (some ⟨g,o,none⟩) m c,.slice (some a) m cap]).run P w= .ok (goInt m) w'∧Chg [g] w w'∧Blk w' g (cur.take o++news++cur.drop (o+news.length)) bt:=by
   intro a cap hc;have hfc:=run_firstCells_some (P:=P) w i.size m a m cap news hl hc
   have hst:(storeCells ⟨g,o,none⟩ news).run P w= .ok () (w.setRow g (cur.take o++news++cur.drop (o+news.length)).toArray):=by
    have:=run_storeCells_at P g o bt news 0 cur.toArray w hb (by simpa using hfit) (fun x hx=>oneV_cell (h1 x hx));simpa using this
   refine⟨w.setRow g (cur.take o++news++cur.drop (o+news.length)).toArray,?_,⟨J,J,J,by simp[World.setRow],fun k _ hk=>setRow_other w g k _ (by simpa using hk)⟩,setRow_heap w g _ _ bt (0,0) hb⟩;simp[Builtin.copy_,run_underlying hu,Builtin.lenOf,sizeOf,typeInfo,hq,hfc,hst]
  rcases hr with⟨rfl|⟨a,cap,rfl⟩,rfl⟩|⟨b,off,cap,rfl,_,hc⟩
  ·have hn:news=[]:=List.eq_nil_of_length_eq_zero (by simpa using hl);subst hn;exact⟨w,run_copy_nil P w dT sT ty et _ _ _ hu (by simp[hq]),Chg.refl _ _,by simpa using hb⟩
  ·have hn:news=[]:=List.eq_nil_of_length_eq_zero (by simpa using hl);subst hn;exact key a cap (by simp)
  ·refine key _ _ (fun j x hj=> ?_);have hjl:=(List.getElem?_eq_some_iff.1 hj).1;rw[Addr.add_lit,hc j hjl,hj]
theorem ql_copyR{d dT sT et sz m c o g:Nat}{x y:Operand}{v:Value}{bt:TypeId}{cur news:List Value}{H':List Ck}{ty:TypeId}{pos:String}{af:Array Edge}(hu:P.underlying dT=some (.slice et))(hsz:(P.info? et).map (·.size)=some sz)
  (hx:opv e x=some (.slice (some ⟨g,o,none⟩) m c)) (hy:opv e y=some v) (hd:Nat.blt d n=true) (hr:Rp H (.pt g cur bt) (.pt g (cur.take o++news++cur.drop (o+news.length)) bt) H') (hfit:o+news.length≤cur.length) (h1:∀x∈news,dA x=true)
  (hrd:∀w,Sat w0 M H w→∃lo hi,Rd w lo hi v sz m news) (h:QL P ro n F w0 M k ops rest ((d,goInt m)::e) H') :
  QL P ro n F w0 M k ops (⟨some d,.call {callee:= .builtin .copy,args:=[x,y].toArray,argTypes:=[dT,sT].toArray},ty,pos,af,none⟩::rest) e H:= .mk fun w hs=>by
 obtain⟨lo,hi,hrd⟩:=hrd w hs;obtain⟨w',hrun,hc,hb⟩:=run_copyR (P:=P) (sT:=sT) ty hu hsz (hs.blk hr.mem) hrd hfit h1 (c:=c);refine dF (w':=w') (by simp) hd (fun ac hf=> ?_) (h.h w' (hs.pt hr hc hb));simp[execOp,resolve,invoke,builtin,hf.op hx,hf.op hy,hrun]
theorem mL{t et:Nat}(hu:P.underlying t=some (.slice et)):P.elem t=et:=by simp[Program.elem,hu]
theorem run_sliceFrom{t et sz:Nat}(hu:P.underlying t=some (.slice et))(hsz:(P.info? et).map (·.size)=some sz){a:Option Addr}{len cap:Nat}{kl:IntKind}{l:Int}(h0:0≤l)(h1:l≤len)(w:World) :
  (Instr.sliceAt t (.slice a len cap) (some (.int kl l)) none none).run P w= .ok (.slice (if cap=l.toNat then a else a.map (·.add (l.toNat*sz))) (len-l.toNat) (cap-l.toNat)) w:=by
 have he:=mL hu;cases hq:P.info? et with
 | none=>simp[hq] at hsz
 | some i=>
  have hi:i.size=sz:=by simpa[hq] using hsz
  subst hi;rw[run_sliceAt_slice w t _ _ _ _ (by rw[he];exact hu),run_slice_l w t a len cap (by rw[he];exact hu) kl l h0 h1,he];simp[sizeOf,typeInfo,hq,sliced]
theorem run_sliceTo{t et sz:Nat}(hu:P.underlying t=some (.slice et))(hsz:(P.info? et).map (·.size)=some sz){a:Option Addr}{len cap:Nat}{kl:IntKind}{l:Int}(h0:0≤l)(h1:l≤cap)(w:World) :
  (Instr.sliceAt t (.slice a len cap) none (some (.int kl l)) none).run P w= .ok (.slice (if cap=0 then a else a.map (·.add 0)) l.toNat cap) w:=by
 have he:=mL hu;cases hq:P.info? et with
 | none=>simp[hq] at hsz
 | some i=>
  have hi:i.size=sz:=by simpa[hq] using hsz
  subst hi;rw[run_sliceAt_slice w t _ _ _ _ (by rw[he];exact hu),run_slice_h w t a len cap (by rw[he];exact hu) kl l h0 h1,he];simp[sizeOf,typeInfo,hq,sliced]
theorem qf_sliceFrom{d t et sz:Nat}{x lo:Operand}{a:Option Addr}{len cap:Nat}{kl:IntKind}{l:Int}{ty:TypeId}{pos:String}{af:Array Edge}(hu:P.underlying t=some (.slice et))(hsz:(P.info? et).map (·.size)=some sz)
  (hx:opv e x=some (.slice a len cap)) (hl:opv e lo=some (.int kl l)) (hd:Nat.blt d n=true) (h0:0≤l) (h1:l≤len)
  (h:QF P ro n F w0 M k ops Hq rest ((d,.slice (if cap=l.toNat then a else a.map (·.add (l.toNat*sz))) (len-l.toNat) (cap-l.toNat))::e) H):QF P ro n F w0 M k ops Hq (⟨some d,.slice t x (some lo) none none,ty,pos,af,none⟩::rest) e H:= .mk fun w hw=>
 eQ rfl hd (fun ac hf w' _=>by
  simp only[execOp,hf.op hx];simp[hf.op hl,run_sliceFrom hu hsz h0 h1 w']) (h.h w hw)
theorem nH{d t et sz:Nat}{x lo:Operand}{a:Option Addr}{len cap:Nat}{kl:IntKind}{l:Int}{ty:TypeId}{pos:String}{af:Array Edge}(hu:P.underlying t=some (.slice et))(hsz:(P.info? et).map (·.size)=some sz)
  (hx:opv e x=some (.slice a len cap)) (hl:opv e lo=some (.int kl l)) (hd:Nat.blt d n=true) (h0:0≤l) (h1:l≤cap)
  (h:QL P ro n F w0 M k ops rest ((d,.slice (if cap=0 then a else a.map (·.add 0)) l.toNat cap)::e) H):QL P ro n F w0 M k ops (⟨some d,.slice t x none (some lo) none,ty,pos,af,none⟩::rest) e H:= .mk fun w hw=>
 dF (by simp) hd (fun ac hf=>by
  simp only[execOp,hf.op hx];simp[hf.op hl,run_sliceTo hu hsz h0 h1 w]) (h.h w hw)
theorem qf_sliceTo{d t et sz:Nat}{x lo:Operand}{a:Option Addr}{len cap:Nat}{kl:IntKind}{l:Int}{ty:TypeId}{pos:String}{af:Array Edge}(hu:P.underlying t=some (.slice et))(hsz:(P.info? et).map (·.size)=some sz)
  (hx:opv e x=some (.slice a len cap)) (hl:opv e lo=some (.int kl l)) (hd:Nat.blt d n=true) (h0:0≤l) (h1:l≤cap)
  (h:QF P ro n F w0 M k ops Hq rest ((d,.slice (if cap=0 then a else a.map (·.add 0)) l.toNat cap)::e) H):QF P ro n F w0 M k ops Hq (⟨some d,.slice t x none (some lo) none,ty,pos,af,none⟩::rest) e H:= .mk fun w hw=>
 eQ rfl hd (fun ac hf w' _=>by
  simp only[execOp,hf.op hx];simp[hf.op hl,run_sliceTo hu hsz h0 h1 w']) (h.h w hw)
end
section
variable {P : Program} {ro : Cx} {n : Nat} {F : Fin} {w0 : World} {M : Nat → Prop} {k : List It} {ops : Array Oper} {l : List Oper} {e : Env} {H H1 H2 : List Ck} {bs : List Bool}
theorem q_drawB2{id:Nat}(bs:List Bool)(Hq1 Hm1 Hq2 Hm2:List Ck)(hH1:Sp H (Hm1++Hq1))(hH2:Sp Hq1 (Hm2++Hq2))(hm:P.follows .mixedOrders=true)(hB:flB l.toArray=true)(hbs:flagB l.toArray bs=true)
  (h:QB P ro n F w0 M k l.toArray Hq1 Hq2 bs l e H):Q P ro n F w0 M (.code (.region id l.toArray true)::k) e H:= .mk fun w hs a hf hd=>by
 have hs0:Sat w0 M H {w with drawn:=w.drawn+1}:=hs.keep (Chg.drew (N:=[]) w);have hs1:Sat w0 M Hq1 {w with drawn:=w.drawn+1}:=(hs0.sp hH1).right;have h12:∀w,Sat w0 M Hq1 w→Sat w0 M Hq2 w:=fun w hw=>(hw.sp hH2).right
 refine iC hm (flB_spec hB) (K:=fun a w=>S P ro.ro F k .normal a w) (Cq:=lQ (Sat w0 M Hq1) (Sat w0 M Hq2) bs) (Ce:=lQ (Sat w0 M Hq1) (Sat w0 M Hq2) bs)
  (fun i j oi oj=>flagB_spec hbs h12 i j oi oj) (fun i=> ?_) (fun _ _ h=>h) ?_
 ·unfold lQ;cases bs.getD i false
  ·exact h12 _ hs1
  ·exact hs1
 ·have h2:=wpFlB_eq (P:=P) (ops:=l.toArray) (C1:=Sat w0 M Hq1) (C2:=Sat w0 M Hq2) (bs:=bs) (K:=fun a w=>S P ro.ro F k .normal a w) l 0 (by simp);rw[show List.range l.toArray.size=List.range' 0 l.length from by simp[List.range_eq_range'],h2];exact h.h _ hs0 a hf hd
theorem qb_T2(c:Nat)(Hm:List Ck)(hb:(bs.take c).all (fun x=>x==true)=true)(hc:Nat.ble c bs.length=true)(hH:Sp H (Hm++H1))
  (h:∀K1:Act→World→Prop,(∀e' H',QB P ro n F w0 M k ops H1 H2 (bs.drop c) (l.drop c) e' H'→Q P ro n F w0 M (.k K1::k) e' H')→QF P ro n F w0 M (.k K1::k) ops H1 (l.take c) e Hm) :
  QB P ro n F w0 M k ops H1 H2 bs l e H:= .mk fun w hs=>by
 refine yb_seg true c hb (Nat.le_of_ble_eq_true hc) (fun K1 hK1=> ?_);have h3:=h K1 (fun e' H' hq=> .mk fun w' hw' a' hf' hd'=>hK1 e' w' (hq.h w' hw') a' hf' hd');exact h3.h w (hs.sp hH)
end
section
variable {P : Program} {ops : Array Oper} {Cq Ce : Nat → World → Prop} {K : Act → World → Prop}
def wpT2(P:Program)(ops:Array Oper)(Cq Ce:Nat→World→Prop)(K:Act→World→Prop):OT→Act→World→Prop
 | .nil,a,w=>K a w
 | .op i t,a,w=>match ops[i]? with
  | none=>False
  | some o=>if Region.wanted o (yielded ops a.tmps)=true then
    (if eff o.op=true then cC P o a w (fun v w'=>Ce i w'∧wpT2 P ops Cq Ce K t (a.put o.dst v) w')
     else ∃v,(∀w',Cq i w'→(execOp a.eval o).run P w'= .ok (.value v) w')∧wpT2 P ops Cq Ce K t (a.put o.dst v) w)
   else wpT2 P ops Cq Ce K t (a.put o.dst undef) w
 | .alt t u,a,w=>wpT2 P ops Cq Ce K t a w∧wpT2 P ops Cq Ce K u a w
variable {ro : Cx} {Q : Fin}
end
section
variable {P : Program} {ro : Cx} {n : Nat} {F : Fin} {w0 : World} {M : Nat → Prop} {k : List It} {ops : Array Oper} {e : Env} {H H1 H2 : List Ck} {bs : List Bool}
structure QX(P:Program)(ro:Cx)(n:Nat)(F:Fin)(w0:World)(M:Nat→Prop)(k:List It)(ops:Array Oper)(H1 H2:List Ck)(bs:List Bool)(t:OT)(e:Env)(H:List Ck):Prop where
 h:∀w,Sat w0 M H w→∀a,Fits n e a→a.defers=ro.ds→wpT2 P ops (lQ (Sat w0 M H1) (Sat w0 M H2) bs) (lQ (Sat w0 M H1) (Sat w0 M H2) bs) (fun a w=>S P ro.ro F k .normal a w) t a w
end
section
variable {P : Program}
def eqBL:List Bool→List Bool→Bool
 | a::l,b::m=>(a==b)&&eqBL l m
 | _,_=>true
theorem eqBL_iff:∀(l m:List Bool),l.length=m.length→(eqBL l m=true↔l=m)
 | [],[],_=>by simp[eqBL]
 | a::l,b::m,h=>by
  simp only[eqBL,Bool.and_eq_true,beq_iff_eq,List.cons.injEq,eqBL_iff l m (by simpa using h)]
def arrQB(P:Program)(t n e:Nat):Bool:=
 !(P.eqGuardType P.depth t)&&oneB P e&&Nat.beq (P.cellsOf e) 1&&(P.info? e).isSome&&(match P.underlying t with|some (.array n' e')=>Nat.beq n' n&&Nat.beq e' e|_=>false)&&(match P.underlying e with|some .bool=>true|_=>false)
theorem eqItems_bool{e:Nat}(he:P.underlying e=some .bool)(h1:oneB P e=true)(d:Nat)(w:World)(xs ys:Array Value):∀(l m:List Bool) (k:Nat),l.length=m.length→(∀i (h:i<l.length),xs[k+i]? =some (.bool l[i]))→(∀i (h:i<m.length),ys[k+i]? =some (.bool m[i]))→
  (Go.Op.eqItems (d+1) e 1 xs ys (List.range' k l.length)).run P w= .ok (eqBL l m) w
 | [],[],_,_,_,_=>by simp[Go.Op.eqItems,eqBL]
 | a::l,b::m,k,h,hx,hy=>by
  have ih:=eqItems_bool he h1 d w xs ys l m (k+1) (by simpa using h) (fun i hi=>by have:=hx (i+1) (by simpa using hi);rw[show k+1+i=k+(i+1) by omega];simpa using this) (fun i hi=>by have:=hy (i+1) (by simpa using hi);rw[show k+1+i=k+(i+1) by omega];simpa using this);have h0:=hx 0 (by simp);have g0:=hy 0 (by simp);simp only[Nat.add_zero,List.getElem_cons_zero] at h0 g0;rw[List.length_cons,List.range'_succ];have p1:=gU (P:=P) (o:=k*1) h1 (by rw[Nat.mul_one];exact h0) w;have p2:=gU (P:=P) (o:=k*1) h1 (by rw[Nat.mul_one];exact g0) w;simp only[Go.Op.eqItems,Sem.run_bind,p1,p2,Result.andThen_ok,run_equalIn_bool' w d e a b he,eqBL];cases hab:(a==b)
  ·simp
  ·simpa using ih
theorem run_eqArr{t n e:Nat}(h:arrQB P t n e=true){l m:List Bool}(hl:l.length=n)(hm:m.length=n)(d:Nat)(w:World):(Go.Op.equalIn (d+2) t (.agg (l.map Value.bool).toArray) (.agg (m.map Value.bool).toArray)).run P w= .ok (eqBL l m) w:=by
 simp only[arrQB,Bool.and_eq_true,Bool.not_eq_true'] at h;obtain⟨⟨⟨⟨⟨h1,h2⟩,h3⟩,h4⟩,h5⟩,h6⟩:=h;split at h5
 ·rename_i n' e' hu
  simp only[Bool.and_eq_true] at h5;have hn:=Nat.eq_of_beq_eq_true h5.1;have he:=Nat.eq_of_beq_eq_true h5.2;subst hn;subst he;split at h6
  ·rename_i hb
   obtain⟨i,hi⟩:=Option.isSome_iff_exists.1 h4;rw[run_equalIn_array w (d+1) _ _ hu hi,Nat.eq_of_beq_eq_true h3,List.range_eq_range',←hl];exact eqItems_bool hb h2 d w _ _ l m 0 qG (fun i hi=>by simp[hi]) (fun i hi=>by simp[hi])
  ·cases h6
 ·cases h5
variable {ro : Cx} {n : Nat} {F : Fin} {w0 : World} {M : Nat → Prop} {k : List It} {ops : Array Oper} {rest : List Oper} {e : Env} {H Hq : List Ck}
theorem qf_stA{T:Tab}(cs':List Value)(hT:T.Ok P){t m:Nat}{x y:Operand}{b off:Nat}{cs us:List Value}{bt:TypeId}{H':List Ck}{ty:TypeId}{pos:String}{af:Array Edge}
  (hx:opv e x=some (.pointer (some ⟨b,off,none⟩))) (hy:opv e y=some (.agg us.toArray)) (h1:eN T.agg t=some m) (hm:us.length=m) (h1v:(us.all dA)=true) (hr:Rp H (.pt b cs bt) (.pt b cs' bt) H') (he:setL cs off us=cs') (hl:Nat.ble (off+m) cs.length=true)
  (h:QF P ro n F w0 M k ops Hq rest e H'):QF P ro n F w0 M k ops Hq (⟨none,.store t x y,ty,pos,af,none⟩::rest) e H:=by
 subst he;exact qf_storeA hT hx hy h1 hm (List.all_eq_true.1 h1v) hr (Nat.le_of_ble_eq_true hl) h
end
section
variable {P : Program}
def nestF(P:Program):Nat→List Field→List (List (Option IntKind))→Bool
 | _,[],[]=>true
 | o, f :: fs, k :: ks => !(f.name == "_") && Nat.beq f.offset o && nJ P f.type k && Nat.beq (P.cellsOf f.type) k.length && (P.info? f.type).isSome && nestF P (o + k.length) fs ks
 | _,_,_=>false
def nestB(P:Program)(t:Nat)(ks:List (List (Option IntKind))):Bool:=
 !(P.stoodInHeld t)&& !(P.eqGuardType P.depth t)&&(match P.underlying t with|some (.struct fs)=>nestF P 0 fs.toList ks|_=>false)
theorem run_partA{t n:Nat}{ks:List (Option IntKind)}(h:nJ P t ks=true)(hc:P.cellsOf t=n)(hi:(P.info? t).isSome=true)(xs:List Value)(o:Nat)(w:World):(part t xs.toArray o).run P w= .ok (.agg ((xs.drop o).take n).toArray) w:=by
 obtain⟨h1,h2,h3,h4⟩:=mN h;obtain⟨i,hi⟩:=Option.isSome_iff_exists.1 hi
 have e:xs.toArray.extract o (o+n)=((xs.drop o).take n).toArray:=by
  apply Array.ext';simp[List.extract_eq_take_drop]
 simp[part,isAgg,run_underlying h3,run_sizeOf w hi,hc,e]
variable {ro : Cx} {n : Nat} {F : Fin} {w0 : World} {M : Nat → Prop} {k : List It} {ops : Array Oper} {rest : List Oper} {e : Env} {H Hq : List Ck}
end
section
variable {P : Program} {T : Tab}
variable {ro : Cx} {n : Nat} {F : Fin} {w0 : World} {M : Nat → Prop} {k : List It} {ops : Array Oper} {rest : List Oper} {e : Env} {H Hq : List Ck}
end
end Go.Eng
namespace Go.Proofs.YtoljppohibpenaaGreat
open Go Go.Eng
set_option maxRecDepth 4000
open Go Go.Eng
abbrev rtV(q:Int×Int):Value:= .agg #[.int .i64 q.1,.int .i64 q.2]
abbrev rnV(l:Rn):Value:= .agg #[.int .i64 l.a,.int .i64 l.b,.int .i64 l.lead]
abbrev RdS(w:World)(lo hi:Nat)(v:Value)(l:List (Int×Int)):Prop:=RdE w lo hi v 2 (l.map rtV)
abbrev RdR(w:World)(lo hi:Nat)(v:Value)(l:List Rn):Prop:=RdE w lo hi v 3 (l.map rnV)
def spC(l:List (Int×Int)):List Value:=l.flatMap fun x=>[.int .i64 x.1,.int .i64 x.2]
def rnC(l:List Rn):List Value:=l.flatMap fun x=>[.int .i64 x.a,.int .i64 x.b,.int .i64 x.lead]
section
variable {w w' : World} {lo hi b off len cap : Nat} {v : Value}
theorem RdS.outI{l:List (Int×Int)}(h:RdS w lo hi v l):∃a cap,v= .slice a l.length cap∧(0<l.length→∃b off,a=some ⟨b,off,none⟩):=by
 have:=RdE.out h;simpa using this
theorem RdR.outI{l:List Rn}(h:RdR w lo hi v l):∃a cap,v= .slice a l.length cap∧(0<l.length→∃b off,a=some ⟨b,off,none⟩):=by
 have:=RdE.out h;simpa using this
theorem RdS.at{l:List (Int×Int)}(h:RdS w lo hi (.slice (some ⟨b,off,none⟩) len cap) l)(i:Nat)(hi:i<l.length)(j:Nat)(hj:j<2):w.cell? ⟨b,off+i*2+j,none⟩=[Value.int .i64 l[i].1,Value.int .i64 l[i].2][j]? :=by
 have:=RdE.cell h i j (by simpa using hi) hj;rw[this];simp[rtV,Value.cells]
theorem RdR.at{l:List Rn}(h:RdR w lo hi (.slice (some ⟨b,off,none⟩) len cap) l)(i:Nat)(hi:i<l.length)(j:Nat)(hj:j<3):w.cell? ⟨b,off+i*3+j,none⟩=[Value.int .i64 l[i].a,Value.int .i64 l[i].b,Value.int .i64 l[i].lead][j]? :=by
 have:=RdE.cell h i j (by simpa using hi) hj;rw[this];simp[rnV,Value.cells]
theorem RdS.at1{l:List (Int×Int)}(h:RdS w lo hi (.slice (some ⟨b,off,none⟩) len cap) l)(i:Nat)(hi:i<l.length):w.cell? ⟨b,off+i*2+1,none⟩=some (.int .i64 l[i].2):=RdS.at h i hi 1 qG
theorem RdR.at1{l:List Rn}(h:RdR w lo hi (.slice (some ⟨b,off,none⟩) len cap) l)(i:Nat)(hi:i<l.length):w.cell? ⟨b,off+i*3+1,none⟩=some (.int .i64 l[i].b):=RdR.at h i hi 1 qG
theorem cells_sp(l:List (Int×Int)):cellsOf (l.map rtV)=spC l:=by simp[cellsOf,spC,List.flatMap_map,Value.cells]
theorem cells_rn(l:List Rn):cellsOf (l.map rnV)=rnC l:=by simp[cellsOf,rnC,List.flatMap_map,Value.cells]
theorem fE(l:List (Int×Int)):(spC l).length=l.length*2:=by
 rw[←cells_sp,fY (sz:=2)]
 ·simp
 ·intro e he;obtain⟨x,_,rfl⟩:=List.mem_map.1 he;rfl
theorem rnC_length(l:List Rn):(rnC l).length=l.length*3:=by
 rw[←cells_rn,fY (sz:=3)]
 ·simp
 ·intro e he;obtain⟨x,_,rfl⟩:=List.mem_map.1 he;rfl
theorem RdS.row{l:List (Int×Int)}(h:RdS w lo hi v l):Rd w lo hi v 2 l.length (spC l):=by
 have:=h.rd;rw[cells_sp,List.length_map] at this;exact this
theorem RdR.row{l:List Rn}(h:RdR w lo hi v l):Rd w lo hi v 3 l.length (rnC l):=by
 have:=h.rd;rw[cells_rn,List.length_map] at this;exact this
theorem RdS.of{l:List (Int×Int)}(h:Rd w lo hi v 2 l.length (spC l)):RdS w lo hi v l:=⟨by rw[cells_sp,List.length_map];exact h,fun e he=>by obtain⟨x,_,rfl⟩:=List.mem_map.1 he;rfl⟩
theorem RdR.of{l:List Rn}(h:Rd w lo hi v 3 l.length (rnC l)):RdR w lo hi v l:=⟨by rw[cells_rn,List.length_map];exact h,fun e he=>by obtain⟨x,_,rfl⟩:=List.mem_map.1 he;rfl⟩
theorem eX{t n:Nat}{l:List Int}(h:w.ownsRow 0 t 1 v n (bF l))(hn:n=l.length):RdI w 0 w.heap.size v l:=by
 subst hn;exact RdI.of (pZ h)
theorem jG{t n:Nat}{l:List (Int×Int)}(h:w.ownsRow 0 t 2 v n (spC l))(hn:n=l.length):RdS w 0 w.heap.size v l:=by
 subst hn;exact RdS.of (pZ h)
theorem dB{t n:Nat}{l:List Rn}(h:w.ownsRow 0 t 3 v n (rnC l))(hn:n=l.length):RdR w 0 w.heap.size v l:=by
 subst hn;exact RdR.of (pZ h)
theorem own_one'{t sz m:Nat}{xs:List Value}(h:w.ownsRow 0 t sz v m xs):dA v=true:=by
 obtain⟨a,n,c,rfl⟩:=own_slice h
 rfl
end
def RdII(w:World)(lo hi:Nat)(v:Value)(ll:List (List Int)):Prop:=
 ∃vs,RdE w lo hi v 1 vs∧vs.length=ll.length∧∀i (h:i<vs.length) (h':i<ll.length),RdI w lo hi vs[i] ll[i]
theorem RdII.keep{w w':World}{lo hi:Nat}{v:Value}{ll:List (List Int)}(h:RdII w lo hi v ll)(c:Chg [] w w'):RdII w' lo hi v ll:=by
 obtain⟨vs,h1,h2,h3⟩:=h;exact⟨vs,h1.keep c,h2,fun i hi hi'=>(h3 i hi hi').keep c⟩
theorem RdII.outI{w:World}{lo hi:Nat}{v:Value}{ll:List (List Int)}(h:RdII w lo hi v ll):∃a cap,v= .slice a ll.length cap∧(0<ll.length→∃b off,a=some ⟨b,off,none⟩):=by
 obtain⟨vs,h1,h2,h3⟩:=h;have:=RdE.out h1
 rwa [h2] at this
theorem RdII.row{w:World}{lo hi:Nat}{b off len cap:Nat}{ll:List (List Int)}(h:RdII w lo hi (.slice (some ⟨b,off,none⟩) len cap) ll)(i:Nat)(hi':i<ll.length) :
  ∃a c,RdI w lo hi (.slice a ll[i].length c) ll[i]∧∀w',Chg [] w w'→w'.cell? ⟨b,off+i*1,none⟩=some (.slice a ll[i].length c):=by
 obtain⟨vs,h1,h2,h3⟩:=h;have h4:=h3 i qG hi';obtain⟨a,c,hv,_⟩:=RdI.outI h4;refine⟨a,c,hv▸h4,fun w' hw'=> ?_⟩;rw[RdE.cell1 (h1.keep hw') i qG (by rw[hv];rfl),hv]
def cF(t:Nat)(xs:List (Value×List Int)):List Ck:=xs.map fun p=> .ow p.1 t 1 p.2.length (bF p.2)
theorem rowsO_rd{w:World}{v:Value}{xs:List (Value×List Int)}{n t t2:Nat}(hu:(un (cF t xs)).p w)(h1:w.ownsRow 0 t2 1 v n (xs.map (·.1))):RdII w 0 w.heap.size v (xs.map (·.2)):=by
 have hn:n=(xs.map (·.1)).length:=by have:=h1.1;omega
 have hp:∀p∈xs,w.ownsRow 0 t 1 p.1 p.2.length (bF p.2):=fun p hp=>hu.1 (.ow p.1 t 1 p.2.length (bF p.2)) (List.mem_map.2 ⟨p,hp,rfl⟩)
 refine⟨xs.map (·.1),RdE.one (by rw[←hn];exact pZ h1) (fun e he=>by obtain⟨p,hm,rfl⟩:=List.mem_map.1 he;exact own_one' (hp p hm)),by simp,fun i hi hi'=> ?_⟩;have hi2:i<xs.length:=by simpa using hi
 simp only[List.getElem_map];exact eX (hp _ (List.getElem_mem hi2)) J
theorem idxF_run(w:World)(lo hi:Nat)(v cv:Value)(es:List Value)(p:Value→Bool)(hrd:RdE w lo hi v 3 es)(hagg:∀i (hi:i<es.length),∃c,es[i]= .agg c)(hlen:es.length<4611686018427387904)(hp:PredAt Tryz.prog tab w cv es p) :
  Ca Tryz.prog 153 [v,cv] w fun r w'=>((∃i:Nat,r= .int .i64 i∧∃hi:i<es.length,p es[i]=true)∨(r= .int .i64 (-1)∧∀x∈es,p x=false))∧Chg [] w w':=by
 obtain⟨a,cap,rfl,hsl⟩:=hrd.out;obtain⟨g,first,caps,rfl,hg,hcl⟩:=hp;refine kV Tryz.func153 J (by simp[Tryz.ntmps153]) ?_;(refine cO (bI (aA0 vq (cO (cO (bI ?_)))));(iterate 3 refine aA0 vq ?_);refine iL ?_)
 refine y_loop (fun m l wr=>∃k:Nat,k≤es.length∧m=es.length-k∧l=[(0,.slice a es.length cap),(1,.func (.func g) first caps),(7,.int .i64 es.length),(8,.int .i64 k)]∧(∀i (hi:i<es.length),i<k→p es[i]=false)∧Chg [] w wr) (m:=es.length)
  ⟨0,by omega,rfl,rfl,fun i _ hi=>by omega,Chg.refl _ _⟩ ⟨rfl,rfl,rfl,rfl,trivial⟩ ?_
 rintro m l wr ⟨k,hkl,rfl,rfl,hpk,hcw⟩ K hK;(refine cO (bI (aA0 vq (cO ?_))));refine y_if J (fun hc=> ?_) (fun hc=> ?_)
 ·have hk:k<es.length:=by omega
  obtain⟨b,off,rfl⟩:=hsl qG;(refine mJ (cO (iL (cO (bI (aA0 vq (aA0 vq (cO (bI ?_))))))));(iterate 3 refine aA0 vq ?_));refine mO qE J J J J J qG qG ?_;refine pQ qE J J J (cs:=es[k].cells.toList) (by simpa using hrd.sz es[k] (List.getElem_mem hk)) (fun j hj=>(hrd.keep hcw).cell k j hk hj) ?_
  have hval:Value.agg es[k].cells.toList.toArray=es[k]:=by
   obtain⟨c,hc⟩:=hagg k hk;rw[hc];simp[Value.cells]
  rw[hval];refine eC qE J hg J J (hcl wr hcw es[k] (List.getElem_mem hk)) ?_;rintro _ w2 ⟨rfl,hc2⟩;(refine lW ?_);refine qC J (fun hc=> ?_) (fun hc=> ?_)
  ·(refine cO (bI (aA0 vq (aA0 vq (fM ?_)))))
   exact dV J J ⟨.inl ⟨k,J,hk,hc⟩,hcw.trans hc2⟩
  ·(refine mJ (bI (aA0 vq (aA0 vq (lW ?_)))))
   refine y_k (hK _ _ _ _ ⟨k+1,by omega,J,J,fun i hi hik=> ?_,hcw.trans hc2⟩ qG ⟨J,J,J,?_,trivial⟩)
   ·by_cases h:i<k
    ·exact hpk i hi h
    ·obtain rfl:i=k:=by omega
     exact hc
   ·show some (Value.int _ (IntKind.i64.wrap (↑k+1)))=_
    rw[w64 qG qG]
    rfl
 ·(refine y_exit _ J (cO (bI (aA0 vq (fM ?_)))))
  refine dV J J ⟨.inr ⟨J,fun x hx=> ?_⟩,hcw⟩;obtain⟨i,hi,rfl⟩:=List.getElem_of_mem hx;exact hpk i hi qG
theorem conF_run(w:World)(lo hi:Nat)(v cv:Value)(es:List Value)(p:Value→Bool)(hrd:RdE w lo hi v 3 es)(hagg:∀i (hi:i<es.length),∃c,es[i]= .agg c)(hlen:es.length<4611686018427387904)(hp:PredAt Tryz.prog tab w cv es p) :
  Ca Tryz.prog 129 [v,cv] w fun r w'=>r= .bool (es.any p)∧Chg [] w w':=by
 refine kV Tryz.func129 J (by simp[Tryz.ntmps129]) ?_;(refine cO (bI (aA0 vq (cO (bI (aA0 vq (aA0 vq ?_)))))));refine eC qE J J J J (idxF_run w lo hi v cv es p hrd hagg hlen hp) ?_;rintro r w2 ⟨⟨i,rfl,hi,hpi⟩|⟨rfl,hall⟩,hc2⟩
 ·(refine aA0 vq (aA0 vq (fM ?_)))
  refine dV J J ⟨?_,hc2⟩;have h1:es.any p=true:=List.any_eq_true.2 ⟨_,List.getElem_mem hi,hpi⟩;rw[h1];exact congrArg Value.bool (decide_eq_true qG)
 ·(refine aA0 vq (aA0 vq (fM ?_)))
  refine dV J J ⟨?_,hc2⟩;have h1:es.any p=false:=List.any_eq_false.2 (fun x hx=>by simp[hall x hx]);rw[h1]
  rfl
theorem all1_run(w:World)(b t:Nat)(cv x:Value)(es:List Value)(p:Value→Bool)(hx:∃c,x= .agg c∧c.size=3)(hm:x∈es)(hb:Blk w b [cv] t)(hp:PredAt Tryz.prog tab w cv es p) :
  Ca Tryz.prog 130 [x,aB8 b] w fun r w'=>r= .bool (!(p x))∧Chg [] w w':=by
 obtain⟨g,first,caps,rfl,hg,hcl⟩:=hp;obtain⟨c,rfl,hcs⟩:=hx;refine kV Tryz.func130 J (by simp[Tryz.ntmps130]) ?_;(refine cO (bI ?_));refine yl_box J J (fun w1 hc1 hs1 hb1=> ?_);have hb':=hb.keep hc1;(refine aA0 vq (cO (bI ?_));refine yl_loadB qE J J J (by assumption) (by rfl) ?_);refine yl_loadAB qE J J J hb1 (us:=c.toList) (List.take_of_length_le (by simp[Value.cells,hcs])) (by simpa using hcs) ?_;refine eC qE J hg J J (hcl w1 hc1 _ hm) ?_;rintro _ w2 ⟨rfl,hc2⟩;(refine aA0 vq (aA0 vq (fM ?_)));exact dV J J ⟨J,hc1.trans hc2⟩
theorem all_run(w:World)(lo hi:Nat)(v cv:Value)(es:List Value)(p:Value→Bool)(hrd:RdE w lo hi v 3 es)(hagg:∀i (hi:i<es.length),∃c,es[i]= .agg c)(hlen:es.length<4611686018427387904)(hp:PredAt Tryz.prog tab w cv es p) :
  Ca Tryz.prog 79 [v,cv] w fun r w'=>r= .bool (es.all p)∧Chg [] w w':=by
 refine kV Tryz.func79 J (by simp[Tryz.ntmps79]) ?_;(refine cO (bI ?_));refine yl_box J J (fun w1 hc1 hs1 hb1=> ?_);have hcv:cv.cells.toList=[cv]:=by obtain⟨g,first,caps,rfl,_,_⟩:=hp;rfl
 rw[hcv] at hb1
 have hp1:PredAt Tryz.prog tab w1 (.func (.func 130) #[] #[aB8 w.heap.size]) es (fun x=> !(p x)):=by
  refine⟨130,#[],#[_],J,J,fun w' hw' x hx=> ?_⟩;refine all1_run w' w.heap.size _ cv x es p ?_ hx (hb1.keep hw') (hp.keep (hc1.trans hw'));obtain⟨i,hi,rfl⟩:=List.getElem_of_mem hx;obtain⟨c,hc⟩:=hagg i hi;exact⟨c,hc,by have:=hrd.sz _ hx;rw[hc] at this;exact this⟩
 (refine aA0 vq (cO (bI (aA0 vq (aA0 vq ?_)))))
 refine eC qE J J J J (conF_run w1 lo hi v _ es _ (hrd.keep hc1) hagg hlen hp1) ?_;rintro _ w2 ⟨rfl,hc2⟩;(refine aA0 vq (aA0 vq (fM ?_)));refine dV J J ⟨?_,hc1.trans hc2⟩;rw[List.all_eq_not_any_not]
theorem idxF_int(w:World)(lo hi:Nat)(v cv:Value)(es:List Value)(p:Value→Bool)(hrd:RdE w lo hi v 1 es)(hone:∀i (hi:i<es.length),dA es[i]=true)(hlen:es.length<4611686018427387904)(hp:PredAt Tryz.prog tab w cv es p) :
  Ca Tryz.prog 145 [v,cv] w fun r w'=>((∃i:Nat,r= .int .i64 i∧∃hi:i<es.length,p es[i]=true)∨(r= .int .i64 (-1)∧∀x∈es,p x=false))∧Chg [] w w':=by
 obtain⟨a,cap,rfl,hsl⟩:=hrd.out;obtain⟨g,first,caps,rfl,hg,hcl⟩:=hp;refine kV Tryz.func145 J (by simp[Tryz.ntmps145]) ?_;(refine cO (bI (aA0 vq (cO (cO (bI ?_)))));(iterate 3 refine aA0 vq ?_);refine iL ?_)
 refine y_loop (fun m l wr=>∃k:Nat,k≤es.length∧m=es.length-k∧l=[(0,.slice a es.length cap),(1,.func (.func g) first caps),(7,.int .i64 es.length),(8,.int .i64 k)]∧(∀i (hi:i<es.length),i<k→p es[i]=false)∧Chg [] w wr) (m:=es.length)
  ⟨0,by omega,rfl,rfl,fun i _ hi=>by omega,Chg.refl _ _⟩ ⟨rfl,rfl,rfl,rfl,trivial⟩ ?_
 rintro m l wr ⟨k,hkl,rfl,rfl,hpk,hcw⟩ K hK;(refine cO (bI (aA0 vq (cO ?_))));refine y_if J (fun hc=> ?_) (fun hc=> ?_)
 ·have hk:k<es.length:=by omega
  obtain⟨b,off,rfl⟩:=hsl qG;(refine mJ (cO (iL (cO (bI (aA0 vq (aA0 vq (cO (bI ?_))))))));(iterate 3 refine aA0 vq ?_));refine mO qE J J J J J qG qG ?_;refine yl_load1 qE J J J (v:=es[k]) (by rw[show(Int.toNat (k:Int))=k from rfl];exact(hrd.keep hcw).cell1 k hk (hone k hk)) ?_;refine eC qE J hg J J (hcl wr hcw es[k] (List.getElem_mem hk)) ?_;rintro _ w2 ⟨rfl,hc2⟩;(refine lW ?_);refine qC J (fun hc=> ?_) (fun hc=> ?_)
  ·(refine cO (bI (aA0 vq (aA0 vq (fM ?_)))))
   exact dV J J ⟨.inl ⟨k,J,hk,hc⟩,hcw.trans hc2⟩
  ·(refine mJ (bI (aA0 vq (aA0 vq (lW ?_)))))
   refine y_k (hK _ _ _ _ ⟨k+1,by omega,J,J,fun i hi hik=> ?_,hcw.trans hc2⟩ qG ⟨J,J,J,?_,trivial⟩)
   ·by_cases h:i<k
    ·exact hpk i hi h
    ·obtain rfl:i=k:=by omega
     exact hc
   ·show some (Value.int _ (IntKind.i64.wrap (↑k+1)))=_
    rw[w64 qG qG]
    rfl
 ·(refine y_exit _ J (cO (bI (aA0 vq (fM ?_)))))
  refine dV J J ⟨.inr ⟨J,fun x hx=> ?_⟩,hcw⟩;obtain⟨i,hi,rfl⟩:=List.getElem_of_mem hx;exact hpk i hi qG
theorem conF_int(w:World)(lo hi:Nat)(v cv:Value)(es:List Value)(p:Value→Bool)(hrd:RdE w lo hi v 1 es)(hone:∀i (hi:i<es.length),dA es[i]=true)(hlen:es.length<4611686018427387904)(hp:PredAt Tryz.prog tab w cv es p) :
  Ca Tryz.prog 114 [v,cv] w fun r w'=>r= .bool (es.any p)∧Chg [] w w':=by
 refine kV Tryz.func114 J (by simp[Tryz.ntmps114]) ?_;(refine cO (bI (aA0 vq (cO (bI (aA0 vq (aA0 vq ?_)))))));refine eC qE J J J J (idxF_int w lo hi v cv es p hrd hone hlen hp) ?_;rintro r w2 ⟨⟨i,rfl,hi,hpi⟩|⟨rfl,hall⟩,hc2⟩
 ·(refine aA0 vq (aA0 vq (fM ?_)))
  refine dV J J ⟨?_,hc2⟩;have h1:es.any p=true:=List.any_eq_true.2 ⟨_,List.getElem_mem hi,hpi⟩;rw[h1];exact congrArg Value.bool (decide_eq_true qG)
 ·(refine aA0 vq (aA0 vq (fM ?_)))
  refine dV J J ⟨?_,hc2⟩;have h1:es.any p=false:=List.any_eq_false.2 (fun x hx=>by simp[hall x hx]);rw[h1]
  rfl
theorem all1_int(w:World)(b t:Nat)(cv x:Value)(es:List Value)(p:Value→Bool)(_hx:dA x=true)(hm:x∈es)(hb:Blk w b [cv] t)(hp:PredAt Tryz.prog tab w cv es p) :
  Ca Tryz.prog 131 [x,aB8 b] w fun r w'=>r= .bool (!(p x))∧Chg [] w w':=by
 obtain⟨g,first,caps,rfl,hg,hcl⟩:=hp;refine kV Tryz.func131 J (by simp[Tryz.ntmps131]) ?_;(refine cO (bI (aA0 vq (cO (bI ?_))));refine yl_loadB qE J J J (by assumption) (by rfl) ?_;refine aA0 vq ?_);refine eC qE J hg J J (hcl w (Chg.refl _ _) _ hm) ?_;rintro _ w2 ⟨rfl,hc2⟩;(refine aA0 vq (aA0 vq (fM ?_)));exact dV J J ⟨J,hc2⟩
theorem all_int(w:World)(lo hi:Nat)(v cv:Value)(es:List Value)(p:Value→Bool)(hrd:RdE w lo hi v 1 es)(hone:∀i (hi:i<es.length),dA es[i]=true)(hlen:es.length<4611686018427387904)(hp:PredAt Tryz.prog tab w cv es p) :
  Ca Tryz.prog 85 [v,cv] w fun r w'=>r= .bool (es.all p)∧Chg [] w w':=by
 refine kV Tryz.func85 J (by simp[Tryz.ntmps85]) ?_;(refine cO (bI ?_));refine yl_box J J (fun w1 hc1 hs1 hb1=> ?_);have hcv:cv.cells.toList=[cv]:=by obtain⟨g,first,caps,rfl,_,_⟩:=hp;rfl
 rw[hcv] at hb1
 have hp1:PredAt Tryz.prog tab w1 (.func (.func 131) #[] #[aB8 w.heap.size]) es (fun x=> !(p x)):=by
  refine⟨131,#[],#[_],J,J,fun w' hw' x hx=> ?_⟩;refine all1_int w' w.heap.size _ cv x es p ?_ hx (hb1.keep hw') (hp.keep (hc1.trans hw'));obtain⟨i,hi,rfl⟩:=List.getElem_of_mem hx;exact hone i hi
 (refine aA0 vq (cO (bI (aA0 vq (aA0 vq ?_)))))
 refine eC qE J J J J (conF_int w1 lo hi v _ es _ (hrd.keep hc1) hone hlen hp1) ?_;rintro _ w2 ⟨rfl,hc2⟩;(refine aA0 vq (aA0 vq (fM ?_)));refine dV J J ⟨?_,hc1.trans hc2⟩;rw[List.all_eq_not_any_not]
theorem idxF_ints(w:World)(lo hi:Nat)(v cv:Value)(es:List Value)(p:Value→Bool)(hrd:RdE w lo hi v 1 es)(hone:∀i (hi:i<es.length),dA es[i]=true)(hlen:es.length<4611686018427387904)(hp:PredAt Tryz.prog tab w cv es p) :
  Ca Tryz.prog 176 [v,cv] w fun r w'=>((∃i:Nat,r= .int .i64 i∧∃hi:i<es.length,p es[i]=true)∨(r= .int .i64 (-1)∧∀x∈es,p x=false))∧Chg [] w w':=by
 obtain⟨a,cap,rfl,hsl⟩:=hrd.out;obtain⟨g,first,caps,rfl,hg,hcl⟩:=hp;refine kV Tryz.func176 J (by simp[Tryz.ntmps176]) ?_;(refine cO (bI (aA0 vq (cO (cO (bI ?_)))));(iterate 3 refine aA0 vq ?_);refine iL ?_)
 refine y_loop (fun m l wr=>∃k:Nat,k≤es.length∧m=es.length-k∧l=[(0,.slice a es.length cap),(1,.func (.func g) first caps),(7,.int .i64 es.length),(8,.int .i64 k)]∧(∀i (hi:i<es.length),i<k→p es[i]=false)∧Chg [] w wr) (m:=es.length)
  ⟨0,by omega,rfl,rfl,fun i _ hi=>by omega,Chg.refl _ _⟩ ⟨rfl,rfl,rfl,rfl,trivial⟩ ?_
 rintro m l wr ⟨k,hkl,rfl,rfl,hpk,hcw⟩ K hK;(refine cO (bI (aA0 vq (cO ?_))));refine y_if J (fun hc=> ?_) (fun hc=> ?_)
 ·have hk:k<es.length:=by omega
  obtain⟨b,off,rfl⟩:=hsl qG;(refine mJ (cO (iL (cO (bI (aA0 vq (aA0 vq (cO (bI ?_))))))));(iterate 3 refine aA0 vq ?_));refine mO qE J J J J J qG qG ?_;refine yl_load1 qE J J J (v:=es[k]) (by rw[show(Int.toNat (k:Int))=k from rfl];exact(hrd.keep hcw).cell1 k hk (hone k hk)) ?_;refine eC qE J hg J J (hcl wr hcw es[k] (List.getElem_mem hk)) ?_;rintro _ w2 ⟨rfl,hc2⟩;(refine lW ?_);refine qC J (fun hc=> ?_) (fun hc=> ?_)
  ·(refine cO (bI (aA0 vq (aA0 vq (fM ?_)))))
   exact dV J J ⟨.inl ⟨k,J,hk,hc⟩,hcw.trans hc2⟩
  ·(refine mJ (bI (aA0 vq (aA0 vq (lW ?_)))))
   refine y_k (hK _ _ _ _ ⟨k+1,by omega,J,J,fun i hi hik=> ?_,hcw.trans hc2⟩ qG ⟨J,J,J,?_,trivial⟩)
   ·by_cases h:i<k
    ·exact hpk i hi h
    ·obtain rfl:i=k:=by omega
     exact hc
   ·show some (Value.int _ (IntKind.i64.wrap (↑k+1)))=_
    rw[w64 qG qG]
    rfl
 ·(refine y_exit _ J (cO (bI (aA0 vq (fM ?_)))))
  refine dV J J ⟨.inr ⟨J,fun x hx=> ?_⟩,hcw⟩;obtain⟨i,hi,rfl⟩:=List.getElem_of_mem hx;exact hpk i hi qG
theorem conF_ints(w:World)(lo hi:Nat)(v cv:Value)(es:List Value)(p:Value→Bool)(hrd:RdE w lo hi v 1 es)(hone:∀i (hi:i<es.length),dA es[i]=true)(hlen:es.length<4611686018427387904)(hp:PredAt Tryz.prog tab w cv es p) :
  Ca Tryz.prog 166 [v,cv] w fun r w'=>r= .bool (es.any p)∧Chg [] w w':=by
 refine kV Tryz.func166 J (by simp[Tryz.ntmps166]) ?_;(refine cO (bI (aA0 vq (cO (bI (aA0 vq (aA0 vq ?_)))))));refine eC qE J J J J (idxF_ints w lo hi v cv es p hrd hone hlen hp) ?_;rintro r w2 ⟨⟨i,rfl,hi,hpi⟩|⟨rfl,hall⟩,hc2⟩
 ·(refine aA0 vq (aA0 vq (fM ?_)))
  refine dV J J ⟨?_,hc2⟩;have h1:es.any p=true:=List.any_eq_true.2 ⟨_,List.getElem_mem hi,hpi⟩;rw[h1];exact congrArg Value.bool (decide_eq_true qG)
 ·(refine aA0 vq (aA0 vq (fM ?_)))
  refine dV J J ⟨?_,hc2⟩;have h1:es.any p=false:=List.any_eq_false.2 (fun x hx=>by simp[hall x hx]);rw[h1]
  rfl
theorem all1_ints(w:World)(b t:Nat)(cv x:Value)(es:List Value)(p:Value→Bool)(_hx:dA x=true)(hm:x∈es)(hb:Blk w b [cv] t)(hp:PredAt Tryz.prog tab w cv es p) :
  Ca Tryz.prog 167 [x,aB8 b] w fun r w'=>r= .bool (!(p x))∧Chg [] w w':=by
 obtain⟨g,first,caps,rfl,hg,hcl⟩:=hp;refine kV Tryz.func167 J (by simp[Tryz.ntmps167]) ?_;(refine cO (bI (aA0 vq (cO (bI ?_))));refine yl_loadB qE J J J (by assumption) (by rfl) ?_;refine aA0 vq ?_);refine eC qE J hg J J (hcl w (Chg.refl _ _) _ hm) ?_;rintro _ w2 ⟨rfl,hc2⟩;(refine aA0 vq (aA0 vq (fM ?_)));exact dV J J ⟨J,hc2⟩
theorem all_ints(w:World)(lo hi:Nat)(v cv:Value)(es:List Value)(p:Value→Bool)(hrd:RdE w lo hi v 1 es)(hone:∀i (hi:i<es.length),dA es[i]=true)(hlen:es.length<4611686018427387904)(hp:PredAt Tryz.prog tab w cv es p) :
  Ca Tryz.prog 140 [v,cv] w fun r w'=>r= .bool (es.all p)∧Chg [] w w':=by
 refine kV Tryz.func140 J (by simp[Tryz.ntmps140]) ?_;(refine cO (bI ?_));refine yl_box J J (fun w1 hc1 hs1 hb1=> ?_);have hcv:cv.cells.toList=[cv]:=by obtain⟨g,first,caps,rfl,_,_⟩:=hp;rfl
 rw[hcv] at hb1
 have hp1:PredAt Tryz.prog tab w1 (.func (.func 167) #[] #[aB8 w.heap.size]) es (fun x=> !(p x)):=by
  refine⟨167,#[],#[_],J,J,fun w' hw' x hx=> ?_⟩;refine all1_ints w' w.heap.size _ cv x es p ?_ hx (hb1.keep hw') (hp.keep (hc1.trans hw'));obtain⟨i,hi,rfl⟩:=List.getElem_of_mem hx;exact hone i hi
 (refine aA0 vq (cO (bI (aA0 vq (aA0 vq ?_)))))
 refine eC qE J J J J (conF_ints w1 lo hi v _ es _ (hrd.keep hc1) hone hlen hp1) ?_;rintro _ w2 ⟨rfl,hc2⟩;(refine aA0 vq (aA0 vq (fM ?_)));refine dV J J ⟨?_,hc1.trans hc2⟩;rw[List.all_eq_not_any_not]
theorem idxF_wax(w:World)(lo hi:Nat)(v cv:Value)(es:List Value)(p:Value→Bool)(hrd:RdE w lo hi v 2 es)(hagg:∀i (hi:i<es.length),∃c,es[i]= .agg c)(hlen:es.length<4611686018427387904)(hp:PredAt Tryz.prog tab w cv es p) :
  Ca Tryz.prog 146 [v,cv] w fun r w'=>((∃i:Nat,r= .int .i64 i∧∃hi:i<es.length,p es[i]=true)∨(r= .int .i64 (-1)∧∀x∈es,p x=false))∧Chg [] w w':=by
 obtain⟨a,cap,rfl,hsl⟩:=hrd.out;obtain⟨g,first,caps,rfl,hg,hcl⟩:=hp;refine kV Tryz.func146 J (by simp[Tryz.ntmps146]) ?_;(refine cO (bI (aA0 vq (cO (cO (bI ?_)))));(iterate 3 refine aA0 vq ?_);refine iL ?_)
 refine y_loop (fun m l wr=>∃k:Nat,k≤es.length∧m=es.length-k∧l=[(0,.slice a es.length cap),(1,.func (.func g) first caps),(7,.int .i64 es.length),(8,.int .i64 k)]∧(∀i (hi:i<es.length),i<k→p es[i]=false)∧Chg [] w wr) (m:=es.length)
  ⟨0,by omega,rfl,rfl,fun i _ hi=>by omega,Chg.refl _ _⟩ ⟨rfl,rfl,rfl,rfl,trivial⟩ ?_
 rintro m l wr ⟨k,hkl,rfl,rfl,hpk,hcw⟩ K hK;(refine cO (bI (aA0 vq (cO ?_))));refine y_if J (fun hc=> ?_) (fun hc=> ?_)
 ·have hk:k<es.length:=by omega
  obtain⟨b,off,rfl⟩:=hsl qG;(refine mJ (cO (iL (cO (bI (aA0 vq (aA0 vq (cO (bI ?_))))))));(iterate 3 refine aA0 vq ?_));refine mO qE J J J J J qG qG ?_;refine pQ qE J J J (cs:=es[k].cells.toList) (by simpa using hrd.sz es[k] (List.getElem_mem hk)) (fun j hj=>(hrd.keep hcw).cell k j hk hj) ?_
  have hval:Value.agg es[k].cells.toList.toArray=es[k]:=by
   obtain⟨c,hc⟩:=hagg k hk;rw[hc];simp[Value.cells]
  rw[hval];refine eC qE J hg J J (hcl wr hcw es[k] (List.getElem_mem hk)) ?_;rintro _ w2 ⟨rfl,hc2⟩;(refine lW ?_);refine qC J (fun hc=> ?_) (fun hc=> ?_)
  ·(refine cO (bI (aA0 vq (aA0 vq (fM ?_)))))
   exact dV J J ⟨.inl ⟨k,J,hk,hc⟩,hcw.trans hc2⟩
  ·(refine mJ (bI (aA0 vq (aA0 vq (lW ?_)))))
   refine y_k (hK _ _ _ _ ⟨k+1,by omega,J,J,fun i hi hik=> ?_,hcw.trans hc2⟩ qG ⟨J,J,J,?_,trivial⟩)
   ·by_cases h:i<k
    ·exact hpk i hi h
    ·obtain rfl:i=k:=by omega
     exact hc
   ·show some (Value.int _ (IntKind.i64.wrap (↑k+1)))=_
    rw[w64 qG qG]
    rfl
 ·(refine y_exit _ J (cO (bI (aA0 vq (fM ?_)))))
  refine dV J J ⟨.inr ⟨J,fun x hx=> ?_⟩,hcw⟩;obtain⟨i,hi,rfl⟩:=List.getElem_of_mem hx;exact hpk i hi qG
theorem conF_wax(w:World)(lo hi:Nat)(v cv:Value)(es:List Value)(p:Value→Bool)(hrd:RdE w lo hi v 2 es)(hagg:∀i (hi:i<es.length),∃c,es[i]= .agg c)(hlen:es.length<4611686018427387904)(hp:PredAt Tryz.prog tab w cv es p) :
  Ca Tryz.prog 121 [v,cv] w fun r w'=>r= .bool (es.any p)∧Chg [] w w':=by
 refine kV Tryz.func121 J (by simp[Tryz.ntmps121]) ?_;(refine cO (bI (aA0 vq (cO (bI (aA0 vq (aA0 vq ?_)))))));refine eC qE J J J J (idxF_wax w lo hi v cv es p hrd hagg hlen hp) ?_;rintro r w2 ⟨⟨i,rfl,hi,hpi⟩|⟨rfl,hall⟩,hc2⟩
 ·(refine aA0 vq (aA0 vq (fM ?_)))
  refine dV J J ⟨?_,hc2⟩;have h1:es.any p=true:=List.any_eq_true.2 ⟨_,List.getElem_mem hi,hpi⟩;rw[h1];exact congrArg Value.bool (decide_eq_true qG)
 ·(refine aA0 vq (aA0 vq (fM ?_)))
  refine dV J J ⟨?_,hc2⟩;have h1:es.any p=false:=List.any_eq_false.2 (fun x hx=>by simp[hall x hx]);rw[h1]
  rfl
theorem cL(n lo hi:Int)(w:World):Ca Tryz.prog 78 [.int .i64 n,.int .i64 lo,.int .i64 hi] w fun v w'=>v= .bool (inB n lo hi)∧Chg [] w w':=by
 refine cM (Sat.nil w M0) Tryz.func78 J (by simp[Tryz.ntmps78]) ?_;(refine aD (aB (aA1 vq (aE (aD (aB ?_)))));(iterate 4 refine aA1 vq ?_));refine ql_split J J (fun hc=> ?_) (fun hc=> ?_)
 ·(refine aC J (aA1 vq (aC J (aA1 vq (aC J ?_))));(iterate 3 refine aA1 vq ?_);refine aE (aQ ?_))
  refine aA2 wq qF fun w hs=> ?_;exact⟨by simp at hc;simp[inB,hc,eW],hs.chg0⟩
 ·((iterate 3 refine aA3 zq ?_);refine aA1 vq (aA1 vq (aE (aQ ?_))))
  refine aA2 wq qF fun w hs=> ?_;exact⟨by simp at hc;simp[inB,eW];omega,hs.chg0⟩
abbrev lbC(l:Lb)(v:Value):List Value:=[.int .i64 l.skis,.int .i64 l.err,v]
def knP(s:Int)(r:Rn):Bool:=inB r.a 0 (s-1)&&(inB r.b 0 (s-1)&&(!decide (r.a=r.b)))
def pKn(s:Int):Value→Bool
 | .agg cs=>match cs.toList with
  | [.int _ a,.int _ b,.int _ c]=>knP s ⟨a,b,c⟩
  | _=>false
 | _=>false
def pLd:Value→Bool
 | .agg cs=>match cs.toList with
  | [.int _ _,.int _ _,.int _ c]=>inB c (-10000) 10000
  | _=>false
 | _=>false
theorem pKn_all(s:Int)(l:List Rn):(l.map rnV).all (pKn s)=l.all (knP s):=by
 rw[List.all_map]
 rfl
theorem pLd_all(l:List Rn):(l.map rnV).all pLd=l.all fun r=>inB r.lead (-10000) 10000:=by
 rw[List.all_map]
 rfl
theorem rnV_agg(l:List Rn):∀i (hi:i<(l.map rnV).length),∃c,(l.map rnV)[i]= .agg c:=fun i hi=>⟨_,by rw[List.getElem_map]⟩
theorem check1_p(w:World)(l:List Rn)(s e:Int)(v:Value)(b t:Nat)(hs0:1≤s∧s≤8)(hb:Blk w b [.int .i64 s,.int .i64 e,v] t):PredAt Tryz.prog tab w (.func (.func 80) #[] #[aB8 b]) (l.map rnV) (pKn s):=by
 refine⟨_,_,_,J,J,fun w' hw' x hx=> ?_⟩;have hb':=hb.keep hw';obtain⟨⟨x,y,z⟩,hy,rfl⟩:=List.mem_map.1 hx;refine cM (Sat.nil w' M0) Tryz.func80 J (by simp[Tryz.ntmps80]) ?_;(refine aD (aB ?_));refine bN J J (fun b2=> ?_);(refine aA1 vq (aE (aD (aB (aA1 vq ?_))));refine aL qE J J J ?_;refine aA1 vq ?_;refine fB qE J J J (by assumption) (by rfl) ?_;refine aA4 xq qG qG ?_);refine aI (val:= .bool (inB x 0 (s-1))) qE J J J J (fun w hs=> ?_) ?_;exact cL x 0 (s-1) w;(refine aA1 vq ?_);refine ql_split J J (fun hc=> ?_) (fun hc=> ?_)
 ·(refine aC J (aA1 vq (aC J ?_));refine aL qE J J J ?_;refine aC J (aA1 vq (aC J ?_));refine fB qE J J J (by assumption) (by rfl) ?_;refine aC J (aA4 xq qG qG (aC J ?_)))
  refine aI (val:= .bool (inB y 0 (s-1))) qE J J J J (fun w hs=> ?_) ?_;exact cL y 0 (s-1) w;(refine aA1 vq (aA1 vq ?_));refine ql_split J J (fun hc=> ?_) (fun hc=> ?_)
  ·(refine aC J (aA1 vq (aC J ?_));refine aL qE J J J ?_;refine aC J (aA1 vq (aC J ?_));refine aL qE J J J ?_;refine aC J ?_;(iterate 3 refine aA1 vq ?_);refine aE (aQ ?_))
   by_cases hxy:x=y
   ·refine aA2 wq qF fun w hs=> ?_;exact⟨by simp[eW,pKn,knP, *],hs.chg0⟩
   ·refine aA2 wq qF fun w hs=> ?_;exact⟨by simp[eW,pKn,knP, *],hs.chg0⟩
  ·((iterate 5 refine aA3 zq ?_);refine aA1 vq (aA1 vq (aE (aQ ?_))))
   refine aA2 wq qF fun w hs=> ?_;exact⟨by simp[eW,pKn,knP, *],hs.chg0⟩
 ·((iterate 6 refine aA3 zq ?_);refine aA1 vq (aA1 vq ?_);(iterate 5 refine aA3 zq ?_);refine aA1 vq (aA1 vq (aE (aQ ?_))))
  refine aA2 wq qF fun w hs=> ?_;exact⟨by simp[eW,pKn,knP, *],hs.chg0⟩
theorem check2_p(w:World)(l:List Rn):PredAt Tryz.prog tab w (.func (.func 81) #[] #[]) (l.map rnV) pLd:=by
 refine⟨_,_,_,J,J,fun w' hw' x hx=> ?_⟩;obtain⟨⟨x,y,z⟩,hy,rfl⟩:=List.mem_map.1 hx;refine cM (Sat.nil w' M0) Tryz.func81 J (by simp[Tryz.ntmps81]) ?_;(refine aD (aB ?_));refine bN J J (fun b2=> ?_);(refine aA1 vq (aE (aD (aB (aA1 vq ?_))));refine aL qE J J J ?_);refine aI (val:= .bool (inB z (-10000) 10000)) qE J J J J (fun w hs=> ?_) ?_;exact cL z (-10000) 10000 w;(refine aA1 vq (aE (aQ ?_)));refine aA2 wq qF fun w hs=> ?_;exact⟨by simp[eW,pLd],hs.chg0⟩
theorem check_ca(w:World)(lo hi:Nat)(l:Lb)(v:Value)(h:RdR w lo hi v l.runs)(hlen:l.runs.length≤maxLen):Ca Tryz.prog 18 [.agg (lbC l v).toArray] w fun x w'=>x= .int .i64 (cG l)∧Chg [] w w':=by
 obtain⟨a,ca,rfl,hsa⟩:=RdR.outI h;simp only[maxLen] at hlen;refine cM (Sat.nil w M0) Tryz.func18 J (by simp[Tryz.ntmps18]) ?_;(refine aD (aB ?_));refine bN J J (fun b1=> ?_);(refine aA1 vq (aE (aD (aK (aD (aB (aA1 vq ?_))))));refine aL qE J J J ?_);refine aI (val:= .bool (inB l.skis 1 8)) qE J J J J (fun w hs=> ?_) ?_;exact cL l.skis 1 8 w;(refine aA1 vq (aA1 vq ?_));cases h1:inB l.skis 1 8 with
 | false=>
  ((iterate 4 refine aA3 zq ?_);refine aA1 vq (aA1 vq (aE (aH J (aD (aB (aA1 vq (aE (aQ ?_)))))))))
  refine aA2 wq qF fun w hs=> ?_;exact⟨by simp[eW,cG,h1],hs.chg0⟩
 | true=>
  have h1':=bX.1 h1;(refine aC J (aA1 vq (aC J ?_));refine aL qE J J J ?_;refine aC J ?_);refine aI (val:= .bool (inB l.err 0 1000)) qE J J J J (fun w hs=> ?_) ?_;exact cL l.err 0 1000 w;(refine aC J ?_;(iterate 3 refine aA1 vq ?_);refine aE ?_);cases h2:inB l.err 0 1000 with
  | false=>
   (refine aH J (aD (aB (aA1 vq (aE (aQ ?_))))))
   refine aA2 wq qF fun w hs=> ?_;exact⟨by simp[eW,cG,h1,h2],hs.chg0⟩
  | true=>
   (refine aF J (aD (aB (aA1 vq ?_)));refine aL qE J J J ?_;(iterate 3 refine aA1 vq ?_);refine aE ?_)
   refine cP J (fun hc=> ?_) (fun hc=> ?_)
   ·have h3:40<l.runs.length:=by omega
    (refine aD (aB (aA1 vq (aE (aQ ?_)))))
    refine aA2 wq qF fun w hs=> ?_;exact⟨by simp[eW,cG,h1,h2,h3],hs.chg0⟩
   ·have h3:¬40<l.runs.length:=by omega
    (refine aD (aB (aA1 vq ?_));refine aL qE J J J ?_;refine aA1 vq ?_)
    refine aI (val:= .bool (knownB l)) qE J J J J (fun w hs=> ?_) ?_;exact by have:=all_run w lo hi _ _ (l.runs.map rnV) (pKn l.skis) (RdE.keep h hs.chg0) (rnV_agg l.runs) (by simp;omega) (check1_p w l.runs l.skis l.err _ b1 _ h1' (hs.blk qF));rw[pKn_all] at this;exact this
    (refine aA1 vq (aA1 vq (aE ?_)))
    cases h4:knownB l with
    | false=>
     (refine aH J (aD (aB (aA1 vq (aE (aQ ?_))))))
     refine aA2 wq qF fun w hs=> ?_;exact⟨by simp[eW,cG,h1,h2,h3,h4],hs.chg0⟩
    | true=>
     (refine aF J (aD (aB (aA1 vq ?_)));refine aL qE J J J ?_)
     refine aI (val:= .bool (leadB l)) qE J J J J (fun w hs=> ?_) ?_;exact by have:=all_run w lo hi _ _ (l.runs.map rnV) pLd (RdE.keep h hs.chg0) (rnV_agg l.runs) (by simp;omega) (check2_p w l.runs);rw[pLd_all] at this;exact this
     (refine aA1 vq (aA1 vq (aE ?_)))
     cases h5:leadB l with
     | false=>
      (refine aH J (aD (aB (aA1 vq (aE (aQ ?_))))))
      refine aA2 wq qF fun w hs=> ?_;exact⟨by simp[eW,cG,h1,h2,h3,h4,h5],hs.chg0⟩
     | true=>
      (refine aF J (aJ (aW (aD (aB (aA1 vq (aE (aQ ?_))))))))
      refine aA2 wq qF fun w hs=> ?_;exact⟨by simp[eW,cG,h1,h2,h3,h4,h5],hs.chg0⟩
def lH(e:Int)(r:Rn):Option (Int×Int):=if e<r.lead then some (r.a,r.b) else if r.lead< -e then some (r.b,r.a) else none
def shO:Option (Int×Int)→Value
 | some p=> .tuple #[.agg #[.int .i64 p.1,.int .i64 p.2],.bool true]
 | none=> .tuple #[.agg #[.int .i64 0,.int .i64 0],.bool false]
theorem mY{e:Int}{r:Rn}:runV e r=(lH e r).map fun p=>(p.1.toNat,p.2.toNat):=by
 unfold runV lH;split
 ·rfl
 ·split<;>rfl
theorem mU(w:World)(lo hi:Nat)(l:Lb)(v:Value)(h:RdR w lo hi v l.runs)(he:0≤l.err∧l.err≤1000)(i:Nat)(hi':i<l.runs.length) :
  Ca Tryz.prog 87 [.agg (lbC l v).toArray,.int .i64 i] w fun x w'=>x=shO (lH l.err l.runs[i])∧Chg [] w w':=by
 obtain⟨a,ca,rfl,hsa⟩:=RdR.outI h;obtain⟨b,off,rfl⟩:=hsa qG;refine cM (Sat.nil w M0) Tryz.func87 J (by simp[Tryz.ntmps87]) ?_;(refine aD (aB ?_));refine bN J J (fun b2=> ?_);refine bJ kY J (fun b4=> ?_);(refine aA1 vq (aE (aD (aD (aB (aA1 vq ?_)))));refine aL qE J J J ?_;refine aA1 vq ?_);refine aA5 uq qG qG ?_;refine eJ qE J J J J (fun w hs=>RdR.at (RdE.keep h hs.chg0) i hi') ?_;refine bJ zero29 J (fun b6=> ?_);(refine aA6 uq qF J ?_;refine aE (aK (aD (aB (aA1 vq ?_))));refine aL qE J J J ?_;refine aA1 vq ?_;refine aL qE J J J ?_;refine aA1 vq (aA1 vq (aE ?_)));refine cP J (fun hc=> ?_) (fun hc=> ?_)
 ·(refine aD (aB (aA1 vq ?_));refine aL qE J J J ?_;refine aA1 vq ?_;refine aL qE J J J ?_)
  refine dM #[.int .i64 l.runs[i].a,.int .i64 l.runs[i].b] J qI J ?_;(refine aA6 uq qF J ?_;refine aA1 vq (aE (aQ ?_)));refine aA2 wq qF fun w hs=> ?_;exact⟨by simp[eW,lH,shO,hc],hs.chg0⟩
 ·have h1:=hc;clear hc;(refine aD (aB (aA1 vq ?_));refine aL qE J J J ?_;refine aA1 vq ?_;refine aL qE J J J ?_;refine ql_neg qE J J qG qG (aA1 vq (aA1 vq (aE ?_))));refine cP J (fun hc=> ?_) (fun hc=> ?_)
  ·(refine aD (aB (aA1 vq ?_));refine aL qE J J J ?_;refine aA1 vq ?_;refine aL qE J J J ?_)
   refine dM #[.int .i64 l.runs[i].b,.int .i64 l.runs[i].a] J qI J ?_;(refine aA6 uq qF J ?_;refine aA1 vq (aE (aQ ?_)));refine aA2 wq qF fun w hs=> ?_;exact⟨by simp[eW,lH,shO,h1,hc],hs.chg0⟩
  ·(refine aJ (aW (aD (aB ?_))))
   refine dM #[.int .i64 0,.int .i64 0] J qI J ?_;(refine aA6 uq qF J ?_;refine aA1 vq (aE (aQ ?_)));refine aA2 wq qF fun w hs=> ?_;exact⟨by simp[eW,lH,shO, *],hs.chg0⟩
theorem shown_ca(w:World)(l:Lb)(v:Value):Ca Tryz.prog 127 [.agg (lbC l v).toArray] w fun x w'=>∃b:Nat,x= .func (.func 152) #[] #[aB8 b]∧Sat w M0 [.pt b (lbC l v) 25] w':=by
 refine cM (Sat.nil w M0) Tryz.func127 J (by simp[Tryz.ntmps127]) ?_;(refine aD (aB ?_));refine bN J J (fun b2=> ?_);(refine aA1 vq (aE (aD (aB (aA1 vq (aA1 vq (aE (aQ ?_))))))));refine aA2 wq qF fun w hs=> ?_;exact⟨b2,J,hs⟩
def shP(l:Lb)(n:Nat):List (Nat×Int×Int):=(List.range n).filterMap fun i=>(lH l.err (l.runs.getD i ⟨0,0,0⟩)).map fun p=>(i,p)
def shL(l:Lb):List (Nat×Int×Int):=shP l l.runs.length
theorem shP_succ(l:Lb){n:Nat}(h:n<l.runs.length):shP l (n+1)=shP l n++((lH l.err l.runs[n]).map fun p=>(n,p)).toList:=by
 unfold shP;rw[List.range_succ,List.filterMap_append];have e:l.runs.getD n ⟨0,0,0⟩=l.runs[n]:=by rw[List.getD_eq_getElem?_getD,List.getElem?_eq_getElem h];rfl
 simp only[List.filterMap_cons,List.filterMap_nil,e];cases lH l.err l.runs[n]<;>rfl
theorem shP_split(l:Lb):∀{n m:Nat},n≤m→∃suf,shP l m=shP l n++suf
 | n,m,h=>by
  obtain⟨d,rfl⟩:∃d,m=n+d:=⟨m-n,by omega⟩;exact⟨_,by unfold shP;rw[List.range_add,List.filterMap_append]⟩
theorem pairs_take(l:Lb):∀n,n≤l.runs.length→(l.runs.take n).filterMap (runV l.err)=(shP l n).map fun x=>(x.2.1.toNat,x.2.2.toNat)
 | 0,_=>rfl
 | n+1,h=>by
  rw[List.take_succ_eq_append_getElem h,List.filterMap_append,pairs_take l n qG,shP_succ l h,List.map_append]
  congr 1
  simp only[List.filterMap_cons,List.filterMap_nil,mY];cases lH l.err l.runs[n]<;>rfl
theorem mW(l:Lb):l.pairs=(shL l).map fun x=>(x.2.1.toNat,x.2.2.toNat):=by
 have:=pairs_take l l.runs.length (Nat.le_refl _);rw[List.take_length] at this;exact this
def shE(x:Nat×Int×Int):List Value:=[.int .i64 x.1,.agg #[.int .i64 x.2.1,.int .i64 x.2.2]]
theorem shown_it(w0 w:World)(D:Nat→Prop)(lo hi b:Nat)(l:Lb)(v:Value)(h:RdR w0 lo hi v l.runs)(he:0≤l.err∧l.err≤1000)(hlen:l.runs.length≤1000)(h0:∀w',ChgP D w w'→Chg [] w0 w'){t1:TypeId}(hb:Blk w b (lbC l v) t1)(hD:¬D b) :
  ItOk Tryz.prog 152 [aB8 b] shE (shL l) w D:=by
 intro fv σ L I E s0 hI0 hLD hsat hcb;obtain⟨a,ca,rfl,hsa⟩:=RdR.outI h;have hm:∀w',ChgP (DL (L s0)) w w'→ChgP D w w':=fun w' hc=>⟨hc.os,hc.tape,hc.output,hc.size,fun k hk hk2=>hc.block k hk (fun h=>hk2 (hLD k h))⟩
 have hP:∀w',ChgP (DL (L s0)) w w'→Blk w' b _ t1:=fun w' hc=>(hc.block b hb.lt (fun h=>hD (hLD b h))).trans hb
 refine cM (H:=[un (L s0)]) (Sat.un1.2 hsat) Tryz.func152 J (by simp[Tryz.ntmps152]) ?_;(refine aD (aB (aA1 vq ?_));refine gQ qE J J J (by assumption) (by rfl) ?_;refine aA1 vq (aA1 vq (aE (aK ?_))))
 refine bD (σ:=Nat×σ) (fun s=>s.1≤l.runs.length∧I (shP l s.1) s.2) (fun s=>l.runs.length-s.1) (fun s=>[(0,fv),(1,aB8 b),(8,.int .i64 l.runs.length),(9,.int .i64 s.1)])
  (fun s=>[un (L s.2)]) (0,s0) ⟨by omega,hI0⟩ ⟨rfl,rfl,rfl,rfl,trivial⟩ (Sp.refl _) ?_
 rintro⟨n,s⟩ ⟨hn,hI⟩ K hK;dsimp only at hn hI ⊢;(refine aD (aB (aA1 vq (aE (aD ?_)))));refine cP J (fun hc=> ?_) (fun hc=> ?_)
 ·have hn2:n<l.runs.length:=by first|omega|(simp at hc;omega)
  clear hc;(refine aJ (aD (aK (aD (aB (aA1 vq (aA1 vq (aE (aD (aB ?_)))))))));refine ql_loadGA qE J J J (by assumption) (by rfl) (by rfl) ?_;refine aA1 vq ?_);refine aI qE J J J J (fun w hs=>mU w lo hi l _ (RdE.keep h (h0 _ (hm _ hs.chg))) he n hn2) ?_;obtain⟨suf,hsuf⟩:=shP_split l (show n+1≤l.runs.length from hn2);have hs1:=shP_succ l hn2;cases hx:lH l.err l.runs[n] with
  | none=>
   rw[hx] at hs1;dsimp only[shO];(refine aA1 vq (aA7 yq (aA7 yq ?_)));refine bJ kY J (fun b4=> ?_);(refine aA6 uq qF J ?_;refine aA1 vq (aE (aD (aB (aA1 vq (aA1 vq ?_)))));(iterate 5 refine aA3 zq ?_);refine aA1 vq (aE (aF J (aJ (aW (aB (aA4 xq qG qG (aA1 vq (aE ?_)))))))));exact hK (n+1,s) _ _ ⟨by simp only;omega,by rw[hs1];simpa using hI⟩ (by simp only;omega) ⟨J,J,J,J,trivial⟩ qF
  | some p=>
   rw[hx] at hs1;dsimp only[shO];(refine aA1 vq (aA7 yq (aA7 yq ?_)));refine bJ kY J (fun b4=> ?_);(refine aA6 uq qF J ?_;refine aA1 vq (aE (aD (aB (aA1 vq (aA1 vq (aC J (aA1 vq (aC J (aA1 vq (aC J ?_))))))))));refine aM qE J J J ?_;refine aC J ?_);have hxs:shL l=shP l n++(n,p)::suf:=by show shP l l.runs.length=_;rw[hsuf,hs1];simp
   refine gO (β:=σ) [un (L s)] [.pt b4 [.int .i64 p.1,.int .i64 p.2] 62] (DL (L s)) J J J qF (fun b hb=>⟨_,.head _,hb⟩) (yieldF hcb hxs hI) ?_;rintro s' v (⟨rfl,hI'⟩|⟨rfl,hE⟩)
   ·(refine aC J (aA1 vq (aA1 vq (aE (aF J (aJ (aW (aB (aA4 xq qG qG (aA1 vq (aE ?_)))))))))))
    exact hK (n+1,s') _ _ ⟨by simp only;omega,by rw[hs1];simpa using hI'⟩ (by simp only;omega) ⟨J,J,J,J,trivial⟩ qF
   ·(refine aC J (aA1 vq (aA1 vq (aE (aH J (aQ ?_))))))
    refine aA2 wq qF fun w hs=> ?_;exact⟨s',.inr hE,Sat.un1.1 (hs.sp qF)⟩
 ·have hne:n=l.runs.length:=by omega
  subst hne;(refine aZ _ J ?_);refine q_end qE J qF fun w hs=> ?_
  exact⟨s,.inl hI,Sat.un1.1 (hs.sp qF)⟩
theorem lF:arrB Tryz.prog 132 8 130 8=true:=by kernel_rfl
theorem lE:arrB Tryz.prog 130 8 4 1=true:=by kernel_rfl
def oL(o:Nat):List Bool:=(List.range 64).map o.testBit
def oC(o:Nat):List Value:=(oL o).map Value.bool
theorem gL(o:Nat):(oC o).length=64:=by simp[oC,oL]
theorem oC_get(o i:Nat)(h:i<64):(oC o)[i]? =some (.bool (o.testBit i)):=by simp[oC,oL,h]
theorem oC_one(o:Nat):∀v∈oC o,dA v=true:=fun v hv=>by
 obtain⟨b,_,rfl⟩:=List.mem_map.1 hv
 rfl
theorem mF{w0 w:World}{M:Nat→Prop}{H:List Ck}{b off:Nat}{o:Nat}{t:TypeId}(hs:Sat w0 M H w)(hm:Ck.pt b (oC o) t∈H)(x y:Nat)(hx:x<8)(hy:y<8)(ho:off=8*x+y):w.cell? ⟨b,off,none⟩=some (.bool (fa o x y)):=by
 subst ho;rw[Blk.cell (hs.mem hm),oC_get _ _ qG]
 rfl
def pO(o p n:Nat):Nat:=mkB (fun c=>if c<n then p.testBit c else o.testBit c) 64
theorem pO_bit(o p n i:Nat):(pO o p n).testBit i=(decide (i<64)&&if i<n then p.testBit i else o.testBit i):=mkB_bit _ _ _
theorem oC_pO0(o p:Nat):oC (pO o p 0)=oC o:=by
 unfold oC oL;rw[List.map_map,List.map_map];refine List.map_congr_left fun i hi=> ?_
 have:=List.mem_range.1 hi;simp[pO_bit,this]
theorem oC_pO64(o p:Nat):oC (pO o p 64)=oC p:=by
 unfold oC oL;rw[List.map_map,List.map_map];refine List.map_congr_left fun i hi=> ?_
 have:=List.mem_range.1 hi;simp[pO_bit,this]
theorem mR(o p n:Nat)(hn:n<64)(hp:p.testBit n=true):(oC (pO o p n)).set n (.bool true)=oC (pO o p (n+1)):=by
 refine List.ext_getElem? fun i=> ?_;rw[List.getElem?_set]
 by_cases hi:i<64
 ·rw[oC_get _ _ hi,oC_get _ _ hi,gL,pO_bit,pO_bit];by_cases e:n=i
  ·subst e;simp[hn,hp]
  ·rw[if_neg e];by_cases h:i<n
   ·simp[hi,h,show i<n+1 by omega]
   ·simp[hi,h,show ¬i<n+1 by omega]
 ·rw[if_neg qG,List.getElem?_eq_none (by rw[gL];omega),List.getElem?_eq_none (by rw[gL];omega)]
theorem oC_pO_same(o p n:Nat)(hp:p.testBit n=o.testBit n):oC (pO o p n)=oC (pO o p (n+1)):=by
 unfold oC oL;rw[List.map_map,List.map_map];refine List.map_congr_left fun i hi=> ?_
 have:=List.mem_range.1 hi;simp only[Function.comp,pO_bit];by_cases e:i=n
 ·subst e;simp[hp]
 ·by_cases h:i<n
  ·simp[h,show i<n+1 by omega]
  ·simp[h,show ¬i<n+1 by omega]
theorem bG(l:List Value):(Value.agg l.toArray).cells.toList=l:=rfl
theorem fJ(o:Nat):List.take 64 (List.drop 0 (oC o))=oC o:=by rw[List.drop_zero,List.take_of_length_le (by rw[gL];omega)]
theorem bit_with(o f s a b:Nat)(ha:a<8)(hb:b<8):(cU o f s).testBit (8*a+b)=(o.testBit (8*a+b)||((a==f||fa o a f)&&(b==s||fa o s b))):=fa_with o f s ha hb
theorem with_ca(w:World)(o f s:Nat)(hf:f<8)(hs8:s<8):Ca Tryz.prog 132 [.agg (oC o).toArray,.int .i64 f,.int .i64 s] w fun v w'=>v= .agg (oC (cU o f s)).toArray∧Chg [] w w':=by
 refine cM (Sat.nil w M0) Tryz.func132 J (by simp[Tryz.ntmps132]) ?_;(refine aD (aB ?_));refine bN J J (fun b3=> ?_);rw[bG];refine bJ zero132 J (fun b6=> ?_);generalize hz6:(Value.agg _).cells.toList=z6;have hl6:z6.length=64:=by rw[←hz6];rfl
 clear hz6;(refine aE (aD (aB ?_));refine aM qE J J J ?_);rw[fJ];refine bJ zero132 J (fun b7=> ?_);(refine aA6 uq qF J ?_;refine aE (aD (aD (aB (aA1 vq (aE (aK ?_)))))));obtain⟨p,hp⟩:∃p,p=cU o f s:=⟨_,rfl⟩;refine bD (σ:=Nat) (fun a=>a≤8) (fun a=>8-a) (fun a=>[(1,.int .i64 f),(2,.int .i64 s),(3,aB8 b3),(6,aB8 b6),(7,aB8 b7),(11,.int .i64 a)]) (fun a=>[.pt b7 (oC (pO o p (8*a))) 132,.pt b6 z6 132,.pt b3 (oC o) 132]) 0 qG ⟨J,J,J,J,J,J,trivial⟩ (by rw[Nat.mul_zero,oC_pO0];repeat constructor) ?_;rintro a ha K hK;(refine aD (aB (aA1 vq (aE (aD ?_)))));refine cP J (fun hc=> ?_) (fun hc=> ?_)
 ·have ha2:a<8:=by omega
  clear hc;(refine aJ (aD (aK (aD (aB (aA1 vq (aA1 vq (aE (aD (aB (aA1 vq (aE ?_)))))))))));refine aK ?_);refine bD (σ:=Nat) (fun b=>b≤8) (fun b=>8-b) (fun b=>[(1,.int .i64 f),(2,.int .i64 s),(3,aB8 b3),(6,aB8 b6),(7,aB8 b7),(8,.int .i64 a),(11,.int .i64 a),(14,.int .i64 b)]) (fun b=>[.pt b7 (oC (pO o p (8*a+b))) 132,.pt b6 z6 132,.pt b3 (oC o) 132]) 0 qG ⟨J,J,J,J,J,J,J,J,trivial⟩ qF ?_;rintro b hb K2 hK2;(refine aD (aB (aA1 vq (aE (aD ?_)))));refine cP J (fun hc=> ?_) (fun hc=> ?_)
  ·have hb2:b<8:=by omega
   clear hc;have hbit:=bit_with o f s a b ha2 hb2;rw[←hp] at hbit;by_cases ha3:a=f
   ·by_cases hb3:b=s
    ·(refine aJ (aD (aK (aD (aB (aA1 vq (aA1 vq (aE (aD (aB (aA1 vq (aA1 vq ?_)))))))))));refine aA8 yq qG (aA1 vq ?_);(iterate 5 refine aA3 zq ?_);refine aA1 vq (aA1 vq (aC J (aA1 vq (aC J (aA1 vq (aC J (aA8 yq qG (aC J (aA1 vq ?_)))))))));(iterate 5 refine aA3 zq ?_);refine aC J (aA1 vq (aA1 vq (aE (aH J (aB (aA1 vq (aA1 vq ?_))))))))
     refine bL (len:=8) lF J J J qG qG ?_;refine bL (len:=8) lE J J J qG qG ?_;refine cN qE J J J J qF (by rw[gL];omega) ?_;(refine aE (aW (aB (aA4 xq qG qG (aA1 vq (aE ?_))))));exact hK2 (b+1) _ _ qG qG ⟨J,J,J,J,J,J,J,J,trivial⟩ (by rw[show 8*a+(b+1)=8*a+b+1 from by omega,←mR o p (8*a+b) qG (by rw[hbit];simp[*]),show 0+(a:Int).toNat*8+(b:Int).toNat*1=8*a+b from by omega];repeat constructor)
    ·(refine aJ (aD (aK (aD (aB (aA1 vq (aA1 vq (aE (aD (aB (aA1 vq (aA1 vq ?_)))))))))));refine aA8 yq qG (aA1 vq ?_);(iterate 5 refine aA3 zq ?_);refine aA1 vq (aA1 vq (aC J (aA1 vq (aC J (aA1 vq (aC J (aA9 yq qG (aC J (aA1 vq (aC J (aA1 vq ?_)))))))))));refine aC J (aA1 vq (aC J ?_)))
     refine bL (len:=8) lF J J J qG qG ?_;(refine aC J ?_);refine bL (len:=8) lE J J J qG qG ?_;(refine aC J ?_);refine bC (v:= .bool (fa o s b)) qE J J J (fun w hs=>mF hs (b:=b3) qF s b hs8 hb2 qG) ?_;cases hx2:fa o s b with
     | true=>
      (refine aC J (aA1 vq (aA1 vq (aE (aH J (aB (aA1 vq (aA1 vq ?_))))))))
      refine bL (len:=8) lF J J J qG qG ?_;refine bL (len:=8) lE J J J qG qG ?_;refine cN qE J J J J qF (by rw[gL];omega) ?_;(refine aE (aW (aB (aA4 xq qG qG (aA1 vq (aE ?_))))));exact hK2 (b+1) _ _ qG qG ⟨J,J,J,J,J,J,J,J,trivial⟩ (by rw[show 8*a+(b+1)=8*a+b+1 from by omega,←mR o p (8*a+b) qG (by rw[hbit];simp[*]),show 0+(a:Int).toNat*8+(b:Int).toNat*1=8*a+b from by omega];repeat constructor)
     | false=>
      (refine aC J (aA1 vq (aA1 vq (aE (aF J (aJ (aW (aB (aA4 xq qG qG (aA1 vq (aE ?_)))))))))))
      exact hK2 (b+1) _ _ qG qG ⟨J,J,J,J,J,J,J,J,trivial⟩ (by rw[show 8*a+(b+1)=8*a+b+1 from by omega,←oC_pO_same o p (8*a+b) (by rw[hbit];simp[*])];repeat constructor)
   ·(refine aJ (aD (aK (aD (aB (aA1 vq (aA1 vq (aE (aD (aB (aA1 vq (aA1 vq ?_)))))))))));refine aA9 yq qG (aA1 vq (aC J (aA1 vq (aC J (aA1 vq (aC J ?_)))))))
    refine bL (len:=8) lF J J J qG qG ?_;(refine aC J ?_);refine bL (len:=8) lE J J J qG qG ?_;(refine aC J ?_);refine bC (v:= .bool (fa o a f)) qE J J J (fun w hs=>mF hs (b:=b3) qF a f ha2 hf qG) ?_;cases hx1:fa o a f with
    | true=>
     by_cases hb3:b=s
     ·(refine aA1 vq (aA1 vq (aC J (aA1 vq (aC J (aA1 vq (aC J (aA8 yq qG (aC J (aA1 vq ?_)))))))));(iterate 5 refine aA3 zq ?_);refine aC J (aA1 vq (aA1 vq (aE (aH J (aB (aA1 vq (aA1 vq ?_))))))))
      refine bL (len:=8) lF J J J qG qG ?_;refine bL (len:=8) lE J J J qG qG ?_;refine cN qE J J J J qF (by rw[gL];omega) ?_;(refine aE (aW (aB (aA4 xq qG qG (aA1 vq (aE ?_))))));exact hK2 (b+1) _ _ qG qG ⟨J,J,J,J,J,J,J,J,trivial⟩ (by rw[show 8*a+(b+1)=8*a+b+1 from by omega,←mR o p (8*a+b) qG (by rw[hbit];simp[*]),show 0+(a:Int).toNat*8+(b:Int).toNat*1=8*a+b from by omega];repeat constructor)
     ·(refine aA1 vq (aA1 vq (aC J (aA1 vq (aC J (aA1 vq (aC J (aA9 yq qG (aC J (aA1 vq (aC J (aA1 vq ?_)))))))))));refine aC J (aA1 vq (aC J ?_)))
      refine bL (len:=8) lF J J J qG qG ?_;(refine aC J ?_);refine bL (len:=8) lE J J J qG qG ?_;(refine aC J ?_);refine bC (v:= .bool (fa o s b)) qE J J J (fun w hs=>mF hs (b:=b3) qF s b hs8 hb2 qG) ?_;cases hx2:fa o s b with
      | true=>
       (refine aC J (aA1 vq (aA1 vq (aE (aH J (aB (aA1 vq (aA1 vq ?_))))))))
       refine bL (len:=8) lF J J J qG qG ?_;refine bL (len:=8) lE J J J qG qG ?_;refine cN qE J J J J qF (by rw[gL];omega) ?_;(refine aE (aW (aB (aA4 xq qG qG (aA1 vq (aE ?_))))));exact hK2 (b+1) _ _ qG qG ⟨J,J,J,J,J,J,J,J,trivial⟩ (by rw[show 8*a+(b+1)=8*a+b+1 from by omega,←mR o p (8*a+b) qG (by rw[hbit];simp[*]),show 0+(a:Int).toNat*8+(b:Int).toNat*1=8*a+b from by omega];repeat constructor)
      | false=>
       (refine aC J (aA1 vq (aA1 vq (aE (aF J (aJ (aW (aB (aA4 xq qG qG (aA1 vq (aE ?_)))))))))))
       exact hK2 (b+1) _ _ qG qG ⟨J,J,J,J,J,J,J,J,trivial⟩ (by rw[show 8*a+(b+1)=8*a+b+1 from by omega,←oC_pO_same o p (8*a+b) (by rw[hbit];simp[*])];repeat constructor)
    | false=>
     (refine aA1 vq (aA1 vq ?_);(iterate 4 refine aA3 zq ?_);(iterate 5 refine dZ J J ?_);refine aA3 zq (aA1 vq (aE (aF J (aJ (aW (aB (aA4 xq qG qG (aA1 vq (aE ?_))))))))))
     exact hK2 (b+1) _ _ qG qG ⟨J,J,J,J,J,J,J,J,trivial⟩ (by rw[show 8*a+(b+1)=8*a+b+1 from by omega,←oC_pO_same o p (8*a+b) (by rw[hbit];simp[*])];repeat constructor)
  ·have hb8:b=8:=by omega
   subst hb8;clear hc hK2 hb;(refine aZ _ J (aW (aB (aA4 xq qG qG (aA1 vq (aE ?_))))));exact hK (a+1) _ _ qG qG ⟨J,J,J,J,J,J,trivial⟩ (by rw[show 8*(a+1)=8*a+8 from by omega];repeat constructor)
 ·have ha8:a=8:=by omega
  subst ha8;clear hc hK ha;rw[show 8*8=64 from rfl,oC_pO64];(refine aZ _ J (aD (aB ?_));refine aM qE J J J ?_);rw[fJ];refine cB qE J J J (gL p) (List.all_eq_true.2 (oC_one p)) qF hl6 ?_;(refine aE (aQ ?_));refine aA2 wq qF fun w hs=> ?_
  exact⟨by rw[hp];rfl,hs.chg0⟩
theorem upN_succ(o s k:Nat):upN o s (k+1)=upN o s k+(if fa o k s=true then 1 else 0):=by
 unfold upN;rw[List.range_succ,List.filter_append,List.length_append]
 congr 1
 by_cases h:fa o k s=true<;>simp[h]
theorem dnN_succ(o s k:Nat):dnN o s (k+1)=dnN o s k+(if fa o s k=true then 1 else 0):=by
 unfold dnN;rw[List.range_succ,List.filter_append,List.length_append]
 congr 1
 by_cases h:fa o s k=true<;>simp[h]
theorem upN_le(o s k:Nat):upN o s k≤k:=by
 have:=List.length_filter_le (fun t=>fa o t s) (List.range k);simpa[upN] using this
theorem dnN_le(o s k:Nat):dnN o s k≤k:=by
 have:=List.length_filter_le (fun t=>fa o s t) (List.range k);simpa[dnN] using this
theorem place_ca(w:World)(o s n:Nat)(hs8:s<8)(hn8:n≤8):Ca Tryz.prog 95 [.agg (oC o).toArray,.int .i64 s,.int .i64 n] w fun v w'=>v= .tuple #[.int .i64 (upN o s n),.int .i64 (dnN o s n)]∧Chg [] w w':=by
 refine cM (Sat.nil w M0) Tryz.func95 J (by simp[Tryz.ntmps95]) ?_;(refine aD (aB ?_));refine bN J J (fun b3=> ?_);rw[bG];(refine aA1 vq (aA1 vq (aE (aD (aB (aA1 vq (aA1 vq (aE (aD (aD (aB (aA1 vq ?_)))))))))));refine aA1 vq (aE (aK ?_)));refine bD (σ:=Nat) (fun k=>k≤n) (fun k=>n-k) (fun k=>[(1,.int .i64 s),(3,aB8 b3),(8,.int .i64 (upN o s k)),(9,.int .i64 (dnN o s k)),(11,.int .i64 n),(12,.int .i64 k)]) (fun k=>[.pt b3 (oC o) 132]) 0 qG ⟨J,J,J,J,J,J,trivial⟩ qF ?_;rintro k hk K hK;(refine aD (aB (aA1 vq (aE (aD ?_)))));refine cP J (fun hc=> ?_) (fun hc=> ?_)
 ·have hk2:k<n:=by omega
  clear hc;have h1:=upN_le o s k;have h2:=dnN_le o s k;have e1:=upN_succ o s k;have e2:=dnN_succ o s k;(refine aJ (aD (aK (aD (aB (aA1 vq (aA1 vq (aE (aD (aD (aB (aA1 vq ?_)))))))))));refine aA1 vq ?_);refine bL (len:=8) lF J J J qG qG ?_;refine bL (len:=8) lE J J J qG qG ?_;refine bC (v:= .bool (fa o k s)) qE J J J (fun w hs=>mF hs (b:=b3) qF k s qG hs8 qG) ?_;cases hx1:fa o k s with
  | true=>
   rw[hx1,if_pos rfl] at e1;(refine aE (aH J (aB (aA1 vq (aA4 xq qG qG (aA1 vq (aE (aD (aB (aA1 vq (aA1 vq ?_)))))))))));refine bL (len:=8) lF J J J qG qG ?_;refine bL (len:=8) lE J J J qG qG ?_;refine bC (v:= .bool (fa o s k)) qE J J J (fun w hs=>mF hs (b:=b3) qF s k hs8 qG qG) ?_;cases hx2:fa o s k with
   | true=>
    rw[hx2,if_pos rfl] at e2;(refine aE (aH J (aB (aA1 vq (aA4 xq qG qG (aA1 vq (aE (aW (aB (aA4 xq qG qG (aA1 vq (aE ?_))))))))))));exact hK (k+1) _ _ qG qG ⟨J,J,by rw[e1];rfl,by rw[e2];rfl,J,J,trivial⟩ qF
   | false=>
    rw[hx2,if_neg (by decide)] at e2;(refine aE (aF J (aJ (aW (aB (aA4 xq qG qG (aA1 vq (aE ?_))))))));exact hK (k+1) _ _ qG qG ⟨J,J,by rw[e1];rfl,by rw[e2];rfl,J,J,trivial⟩ qF
  | false=>
   rw[hx1,if_neg (by decide)] at e1;(refine aE (aF J (aJ (aD (aB (aA1 vq (aA1 vq ?_)))))));refine bL (len:=8) lF J J J qG qG ?_;refine bL (len:=8) lE J J J qG qG ?_;refine bC (v:= .bool (fa o s k)) qE J J J (fun w hs=>mF hs (b:=b3) qF s k hs8 qG qG) ?_;cases hx2:fa o s k with
   | true=>
    rw[hx2,if_pos rfl] at e2;(refine aE (aH J (aB (aA1 vq (aA4 xq qG qG (aA1 vq (aE (aW (aB (aA4 xq qG qG (aA1 vq (aE ?_))))))))))));exact hK (k+1) _ _ qG qG ⟨J,J,by rw[e1];rfl,by rw[e2];rfl,J,J,trivial⟩ qF
   | false=>
    rw[hx2,if_neg (by decide)] at e2;(refine aE (aF J (aJ (aW (aB (aA4 xq qG qG (aA1 vq (aE ?_))))))));exact hK (k+1) _ _ qG qG ⟨J,J,by rw[e1];rfl,by rw[e2];rfl,J,J,trivial⟩ qF
 ·have hkn:k=n:=by omega
  subst hkn;(refine aZ _ J (aD (aB ?_));(iterate 4 refine aA1 vq ?_);refine aE (aQ ?_));refine aA2 wq qF fun w hs=> ?_
  exact⟨J,hs.chg0⟩
def sureB(o n place s:Nat):Bool:=upN o s n==place&&(dnN o s n+1+place==n&&true)
def sureP(o n place j:Nat):Bool:=(List.range j).any (sureB o n place)&&true
theorem sureP_succ(o n place j:Nat):sureP o n place (j+1)=(sureP o n place j||sureB o n place j):=by simp[sureP,List.range_succ,List.any_append]
def knP'(o n p:Nat):Bool:=(List.range p).all fun place=>sureP o n place n
theorem known_eq(o n k:Nat):dQ o n k=knP' o n k:=by
 unfold dQ knP' sureP sureB;simp
theorem known_ca(w:World)(o n k:Nat)(hn8:n≤8)(hk8:k≤n):Ca Tryz.prog 98 [.agg (oC o).toArray,.int .i64 n,.int .i64 k] w fun v w'=>v= .bool (dQ o n k)∧Chg [] w w':=by
 refine cM (Sat.nil w M0) Tryz.func98 J (by simp[Tryz.ntmps98]) ?_;(refine aD (aB ?_));refine bN J J (fun b3=> ?_);rw[bG];(refine aA1 vq (aE (aD (aD (aB (aA1 vq (aA1 vq (aE (aK ?_)))))))));refine bD (σ:=Nat) (fun p=>p≤k∧knP' o n p=true) (fun p=>k-p) (fun p=>[(1,.int .i64 n),(3,aB8 b3),(12,.int .i64 k),(13,.int .i64 p)]) (fun p=>[.pt b3 (oC o) 132]) 0 ⟨by omega,J⟩ ⟨J,J,J,J,trivial⟩ qF ?_;rintro p ⟨hp,hkp⟩ K hK;(refine aD (aB (aA1 vq (aE (aD ?_)))));refine cP J (fun hc=> ?_) (fun hc=> ?_)
 ·have hp2:p<k:=by omega
  clear hc;(refine aJ (aD (aK (aD (aB (aA1 vq (aA1 vq (aE (aD (aB (aA1 vq (aE ?_)))))))))));refine aD (aD (aB (aA1 vq (aA1 vq (aE (aK ?_)))))));refine bD (σ:=Nat) (fun j=>j≤n) (fun j=>n-j) (fun j=>[(1,.int .i64 n),(3,aB8 b3),(7,.int .i64 p),(8,.bool (sureP o n p j)),(12,.int .i64 k),(13,.int .i64 p),(16,.int .i64 n),(17,.int .i64 j)]) (fun j=>[.pt b3 (oC o) 132]) 0 qG ⟨J,J,J,J,J,J,J,J,trivial⟩ qF ?_;rintro j hj K2 hK2;(refine aD (aB (aA1 vq (aE (aD ?_)))));refine cP J (fun hc=> ?_) (fun hc=> ?_)
  ·have hj2:j<n:=by omega
   clear hc;have e1:=sureP_succ o n p j;(refine aJ (aD (aK (aD (aB (aA1 vq (aA1 vq (aE (aD (aB ?_)))))))));refine aM qE J J J ?_;refine aA1 vq (aA1 vq ?_));rw[fJ];refine aI qE J J J J (fun w hs=>place_ca w o j n qG hn8) ?_;have h1:=upN_le o j n;have h2:=dnN_le o j n;cases hx:sureP o n p j with
   | true=>
    rw[hx] at e1;(refine aA1 vq (aA7 yq (aA7 yq (aA1 vq (aA1 vq (aE (aB (aA1 vq (aA1 vq ?_))))))));(iterate 4 refine aA3 zq ?_);(iterate 6 refine dZ J J ?_);refine aA3 zq (aA1 vq (aA1 vq (aE (aW (aB (aA4 xq qG qG (aA1 vq (aE ?_)))))))));exact hK2 (j+1) _ _ qG qG ⟨J,J,J,by rw[e1];rfl,J,J,J,J,trivial⟩ qF
   | false=>
    rw[hx,Bool.false_or] at e1;unfold sureB at e1;by_cases hu:upN o j n=p
    ·by_cases hd:dnN o j n+1+p=n
     ·have e2:sureP o n p (j+1)=true:=by rw[e1];simp[hu,hd]
      (refine aA1 vq (aA7 yq (aA7 yq (aA1 vq (aA1 vq (aE (aB (aA1 vq (aA1 vq (aC J (aA1 vq (aC J ?_)))))))))));refine aA1 vq (aC J (aA8 yq qG (aC J (aA1 vq (aC J (aA1 vq (aC J (aA1 vq (aC J (aA4 xq qG qG (aC J ?_)))))))))));refine aA1 vq (aC J (aA4 xq qG qG (aC J (aA8 yq qG (aC J ?_)))));(iterate 3 refine aA1 vq ?_);refine aE (aW (aB (aA4 xq qG qG (aA1 vq (aE ?_))))))
      exact hK2 (j+1) _ _ qG qG ⟨J,J,J,by rw[e2];rfl,J,J,J,J,trivial⟩ qF
     ·have e2:sureP o n p (j+1)=false:=by rw[e1];simp[hd]
      (refine aA1 vq (aA7 yq (aA7 yq (aA1 vq (aA1 vq (aE (aB (aA1 vq (aA1 vq (aC J (aA1 vq (aC J ?_)))))))))));refine aA1 vq (aC J (aA8 yq qG (aC J (aA1 vq (aC J (aA1 vq (aC J (aA1 vq (aC J (aA4 xq qG qG (aC J ?_)))))))))));refine aA1 vq (aC J (aA4 xq qG qG (aC J (aA9 yq qG (aC J ?_)))));(iterate 3 refine aA1 vq ?_);refine aE (aW (aB (aA4 xq qG qG (aA1 vq (aE ?_))))))
      exact hK2 (j+1) _ _ qG qG ⟨J,J,J,by rw[e2];rfl,J,J,J,J,trivial⟩ qF
    ·have e2:sureP o n p (j+1)=false:=by rw[e1];simp[hu]
     (refine aA1 vq (aA7 yq (aA7 yq (aA1 vq (aA1 vq (aE (aB (aA1 vq (aA1 vq (aC J (aA1 vq (aC J ?_)))))))))));refine aA1 vq (aC J (aA9 yq qG (aC J (aA1 vq ?_))));(iterate 6 refine aA3 zq ?_);refine aC J ?_;(iterate 3 refine aA1 vq ?_);refine aE (aW (aB (aA4 xq qG qG (aA1 vq (aE ?_))))))
     exact hK2 (j+1) _ _ qG qG ⟨J,J,J,by rw[e2];rfl,J,J,J,J,trivial⟩ qF
  ·have hjn:j=n:=by omega
   subst hjn;clear hc hK2 hj;(refine aZ _ J (aD (aB (aA1 vq (aA1 vq (aE ?_))))));cases hx:sureP o j p j with
   | true=>
    (refine aF J (aJ (aW (aB (aA4 xq qG qG (aA1 vq (aE ?_)))))))
    exact hK (p+1) _ _ ⟨by omega,by unfold knP' at hkp ⊢;rw[List.range_succ,List.all_append,hkp];simp[hx]⟩ qG ⟨J,J,J,J,trivial⟩ qF
   | false=>
    (refine aH J (aD (aB (aA1 vq (aE (aQ ?_))))))
    refine aA2 wq qF fun w hs=> ?_;refine⟨?_,hs.chg0⟩
    have:dQ o j k=false:=by
     rw[known_eq];unfold knP';rw[List.all_eq_false];exact⟨p,List.mem_range.2 hp2,by simp[hx]⟩
    rw[this]
    rfl
 ·have hpk:p=k:=by omega
  subst hpk;(refine aZ _ J (aD (aB (aA1 vq (aE (aQ ?_))))));refine aA2 wq qF fun w hs=> ?_
  exact⟨by rw[known_eq,hkp];rfl,hs.chg0⟩
end Go.Proofs.YtoljppohibpenaaGreat
