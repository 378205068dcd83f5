import Derived.Test.YtoljppohibpenaaGreatJ4
set_option linter.unusedVariables false
set_option maxHeartbeats 16000000
namespace Go.Proofs.YtoljppohibpenaaGreat
open Go Go.Eng
set_option maxRecDepth 4000
open Go Go.Eng
theorem pE(w:World)(lo hi:Nat)(v:Value)(l:List (List Int))(most:Int)(h:RdII w lo hi v l)(hlen:l.length≤maxLen)(hrl:∀r∈l,r.length≤maxLen):Ca Tryz.prog 62 [v,.int .i64 most] w fun x w'=>x= .int .i64 (cJ l most)∧Chg [] w w':=by
 refine cM (Sat.nil w M0) Tryz.func62 J (by simp[Tryz.ntmps62]) ?_;(refine aD (aB (aA1 vq (aE (aD (aD (aB (aA1 vq ?_))))))));refine aI (val:= .int .i64 (cY l)) qE J J J J (fun w hs=> ?_) ?_;exact rtable_ca w lo hi v l (RdII.keep h hs.chg0) hlen hrl;by_cases h0:cY l=0
 ·rw[h0];(refine aA1 vq (aE (aD (aB (aA1 vq (aB1 yq qG (aE (aF J (aJ (aD (aD (aB ?_)))))))))));refine aA1 vq ?_);refine aI (val:= .bool (!(inB most 0 10000))) qE J J J J (fun w hs=> ?_) ?_;exact fS most 0 10000 w;cases hx:inB most 0 10000 with
  | false=>
   (refine aE (aH J (aD (aB (aA1 vq (aE (aQ ?_)))))))
   refine aA2 wq qF fun w hs=> ?_;exact⟨by simp[eW,cJ,h0,hx],hs.chg0⟩
  | true=>
   (refine aE (aF J (aJ (aD (aB (aA1 vq (aE (aQ ?_))))))))
   refine aA2 wq qF fun w hs=> ?_;exact⟨by simp[eW,cJ,h0,hx],hs.chg0⟩
 ·(refine aA1 vq (aE (aD (aB (aA1 vq (aB0 yq qG (aE (aH J (aD (aB (aA1 vq (aA1 vq ?_)))))))))));refine aE (aQ ?_))
  refine aA2 wq qF fun w hs=> ?_;exact⟨by simp[eW,cJ,h0],hs.chg0⟩
structure RgI(l:List (List Int))(x:Int)(s k:Nat)(out:Int):Prop where
 z:0≤out
 ge:∀w,w<k→x-gt l w s≤out
 at_:out=0∨∃w,w<k∧out=x-gt l w s
theorem RgI.step{l:List (List Int)}{x:Int}{s k:Nat}{out:Int}(h:RgI l x s k out):RgI l x s (k+1) (max out (x-gt l k s)):=by
 refine⟨by have:=h.z;omega,fun w hw=> ?_,?_⟩
 ·by_cases e:w=k
  ·subst e;omega
  ·have:=h.ge w qG;omega
 ·by_cases e:out≤x-gt l k s
  ·exact .inr ⟨k,by omega,by omega⟩
  ·rcases h.at_ with h1|⟨w,h1,h2⟩
   ·exact .inl qG
   ·exact .inr ⟨w,by omega,by omega⟩
theorem RgI.end{l:List (List Int)}{n i s:Nat}{out:Int}(hl:TabOk l n)(hi:i<l.length)(hs:s<n)(h:RgI l (gt l i s) s l.length out):out=gt (cA l n) i s:=by
 have hl1:=hl.l1;rw[reg_gt hi hs];obtain⟨row,hr,he⟩:=low_mem (l:=l) (fun e=>by rw[e] at hl1;simp at hl1) s;obtain⟨k,hk,rfl⟩:=List.getElem_of_mem hr
 have hg:∀k (hk:k<l.length),gt l k s=l[k].getD s 0:=fun k hk=>by
  unfold gt;rw[List.getD_eq_getElem?_getD (l:=l),List.getElem?_eq_getElem hk,Option.getD_some]
 have h1:=h.ge k hk;rw[hg k hk,←he] at h1;have h3:=low_le (List.getElem_mem hi) s;rw[←hg i hi] at h3;rcases h.at_ with h2|⟨w,hw,h2⟩
 ·omega
 ·have h4:=low_le (List.getElem_mem hw) s;rw[←hg w hw] at h4;omega
theorem regret_ca(w:World)(lo hi:Nat)(v:Value)(l:List (List Int))(n i s:Nat)(h:RdII w lo hi v l)(hl:TabOk l n)(hi':i<l.length)(hs':s<n):Ca Tryz.prog 109 [v,.int .i64 i,.int .i64 s] w fun x w'=>x= .int .i64 (gt (cA l n) i s)∧Chg [] w w':=by
 obtain⟨va,vc,rfl,hva⟩:=RdII.outI h;obtain⟨vb,vo,rfl⟩:=hva qG;have hl2:=hl.l2;have hn2:=hl.n2;have hrow:=fun k (hk:k<l.length)=>hl.len _ (List.getElem_mem hk)
 have hnum:=fun k (hk:k<l.length)=>hl.num _ (List.getElem_mem hk)
 have hsr:∀k (hk:k<l.length),s<l[k].length:=fun k hk=>by rw[hrow k hk];exact hs'
 obtain⟨bi,oi,ci,hri,hci⟩:=RdII.rowS h i hi' (hrow i hi') qG;have hgi:=hnum i hi' _ (List.getElem_mem (hsr i hi'));rw[←gt_get hi' (hsr i hi')] at hgi;refine cM (Sat.nil w M0) Tryz.func109 J (by simp[Tryz.ntmps109]) ?_;(refine aD (aB (aA1 vq (aE (aD (aB (aA1 vq (aE (aD (aD (aB (aA1 vq ?_)))))))))));refine aE (aK ?_));refine bD (σ:=Nat×Int) (fun y=>y.1≤l.length∧y.2≤10000∧RgI l (gt l i s) s y.1 y.2) (fun y=>l.length-y.1) (fun y=>[(0,.slice (some ⟨vb,vo,none⟩) l.length vc),(1,.int .i64 i),(2,.int .i64 s),(7,.int .i64 y.2),(8,.int .i64 y.1)]) (fun _=>[]) (0,0) ⟨by simp,by simp,by simp,fun _ hw=>by simp at hw,.inl J⟩ ⟨J,J,J,J,J,trivial⟩ (Sp.refl _) ?_;rintro⟨k,out⟩ ⟨hk,ho,hI⟩ K hK;dsimp only at hk ho hI hK ⊢;(refine aD (aD (aB ?_));(iterate 4 refine aA1 vq ?_);refine aE ?_);refine cP J (fun hc=> ?_) (fun hc=> ?_)
 ·have hk2:k<l.length:=by omega
  clear hc;obtain⟨bk,ok,ck,hrk,hck⟩:=RdII.rowS h k hk2 (hrow k hk2) qG;have hgk:=hnum k hk2 _ (List.getElem_mem (hsr k hk2));rw[←gt_get hk2 (hsr k hk2)] at hgk;have hz:=hI.z;(refine aJ (aD (aK ?_)));refine bY _ [] (Sp.refl _) qI qI ?_
  ((iterate 3 refine aB2 yq ?_))
  refine aB5 uq qG qG ?_;refine bA qE J J J (fun w hs=>hci _ hs.chg0) ?_;(refine aB2 yq ?_);refine aB5 uq qG qG ?_;refine bA (v:= .int .i64 (gt l i s)) qE J J J (fun w hs=>by rw[gt_get hi' (hsr i hi')];exact RdI.at (RdE.keep hri hs.chg0) s (hsr i hi')) ?_;(refine aB2 yq (aB2 yq ?_));refine aB5 uq qG qG ?_;refine bA qE J J J (fun w hs=>hck _ hs.chg0) ?_;(refine aB2 yq ?_);refine aB5 uq qG qG ?_;refine bA (v:= .int .i64 (gt l k s)) qE J J J (fun w hs=>by rw[gt_get hk2 (hsr k hk2)];exact RdI.at (RdE.keep hrk hs.chg0) s (hsr k hk2)) ?_;(refine aB6 xq qG qG (aB2 yq (aB2 yq (aT (aW (aB (aA1 vq (aA4 xq qG qG (aA1 vq (aE ?_))))))))));exact hK (k+1,max out (gt l i s-gt l k s)) _ _ ⟨by dsimp only;omega,by dsimp only;omega,hI.step⟩ (by dsimp only;omega) ⟨J,J,J,J,J,trivial⟩ (Sp.refl _)
 ·obtain rfl:k=l.length:=by omega
  (refine aZ _ J (aD (aB (aA1 vq (aA1 vq (aE (aQ ?_)))))))
  refine aA2 wq qF fun w hs=> ?_;exact⟨by rw[hI.end hl hi' hs'];rfl,hs.chg0⟩
theorem reg_getD{l:List (List Int)}{n i:Nat}(hi:i<l.length):∃row,(cA l n).getD i []=row∧row∈cA l n∧row.length=n:=by
 have h1:i<(cA l n).length:=by rw[dS];exact hi
 refine⟨(cA l n)[i],?_,List.getElem_mem h1,reg_row h1⟩;rw[List.getD_eq_getElem?_getD,List.getElem?_eq_getElem h1]
 rfl
theorem top_iff{row:List Int}{a b:Nat}{m:Int}(hab:a≤b)(hb:b<row.length):lD row m a b=true↔topR row a b≤m:=by
 unfold lD;constructor
 ·intro h
  have h1:=top_mem (row:=row) (a:=a) (b:=b) (by
   intro e;have:=congrArg List.length e;unfold iS at this;rw[List.length_take,List.length_drop,List.length_nil] at this;omega)
  have:=List.all_eq_true.1 h _ h1;simpa using this
 ·intro h;refine List.all_eq_true.2 fun x hx=> ?_
  have:=top_ge x hx;simp only[decide_eq_true_eq];omega
theorem pT(w:World)(lo hi:Nat)(v:Value)(l:List (List Int))(n i a b:Nat)(most:Int)(h:RdII w lo hi v l)(hl:TabOk l n)(hi':i<l.length)(hab:a≤b)(hb:b<n):Ca Tryz.prog 111 [v,.int .i64 i,.int .i64 a,.int .i64 b,.int .i64 most] w fun x w'=>x= .bool (lD ((cA l n).getD i []) most a b)∧Chg [] w w':=by
 have hn2:=hl.n2;obtain⟨row,hrow,hrm,hrl⟩:=reg_getD (n:=n) hi';have hg:∀s,gt (cA l n) i s=row.getD s 0:=fun s=>by unfold gt;rw[hrow]
 rw[hrow];refine cM (Sat.nil w M0) Tryz.func111 J (by simp[Tryz.ntmps111]) ?_;(refine aD (aB (aA1 vq (aE (aD (aD (aB (aA1 vq (aA1 vq (aE (aK ?_)))))))))));refine bD (σ:=Nat) (fun s=>a≤s∧s≤b+1∧∀t,a≤t→t<s→row.getD t 0≤most) (fun s=>b+1-s) (fun s=>[(0,v),(1,.int .i64 i),(3,.int .i64 b),(4,.int .i64 most),(11,.int .i64 s)]) (fun _=>[]) a ⟨by omega,by omega,fun t h1 h2=>by omega⟩ ⟨J,J,J,J,J,trivial⟩ (Sp.refl _) ?_;rintro s ⟨hs1,hs2,hI⟩ K hK;(refine aD (aD (aB ?_));(iterate 3 refine aA1 vq ?_);refine aE ?_);refine cP J (fun hc=> ?_) (fun hc=> ?_)
 ·have hs3:s≤b:=by omega
  clear hc;(refine aJ (aD (aK (aD (aB ?_))));(iterate 3 refine aA1 vq ?_));refine aI (val:= .int .i64 (gt (cA l n) i s)) qE J J J J (fun w hs=> ?_) ?_;exact regret_ca w lo hi v l n i s (RdII.keep h hs.chg0) hl hi' qG;rw[hg];(refine aA1 vq (aA1 vq (aE ?_)));refine cP J (fun hc=> ?_) (fun hc=> ?_)
  ·(refine aD (aB (aA1 vq (aE (aQ ?_)))))
   refine aA2 wq qF fun w hs=> ?_;refine⟨?_,hs.chg0⟩
   have:lD row most a b=false:=by
    cases hx:lD row most a b with
    | false=>rfl
    | true=>
     have:=allG_get qG hx s hs1 hs3;omega
   rw[this]
   rfl
  ·(refine aJ (aW (aB (aA1 vq (aA4 xq qG qG (aA1 vq (aE ?_)))))))
   exact hK (s+1) _ _ ⟨by omega,by omega,fun t h1 h2=>by
    by_cases e:t=s
    ·rw[e];omega
    ·exact hI t h1 qG⟩ qG ⟨J,J,J,J,J,trivial⟩ (Sp.refl _)
 ·(refine aZ _ J (aD (aB (aA1 vq (aE (aQ ?_))))))
  refine aA2 wq qF fun w hs=> ?_;exact⟨by rw[allG_of (fun t h1 h2=>hI t h1 qG)];rfl,hs.chg0⟩
theorem rwax_ca(w:World)(lo hi:Nat)(v:Value)(l:List (List Int))(a b:Int)(h:RdII w lo hi v l)(hlen:l.length≤maxLen)(hrl:∀r∈l,r.length≤maxLen):Ca Tryz.prog 54 [v,.int .i64 a,.int .i64 b] w fun x w'=>x= .tuple #[.int .i64 (lG l a b).1,.int .i64 (lG l a b).2.1,.int .i64 (lG l a b).2.2]∧Chg [] w w':=by
 obtain⟨va,vc,rfl,hva⟩:=RdII.outI h;refine cM (Sat.nil w M0) Tryz.func54 J (by simp[Tryz.ntmps54]) ?_;(refine aD (aB ?_);(iterate 3 refine aA1 vq ?_);refine aE (aD (aD (aB (aA1 vq ?_)))));refine aI (val:= .int .i64 (cY l)) qE J J J J (fun w hs=> ?_) ?_;exact rtable_ca w lo hi _ l (RdII.keep h hs.chg0) hlen hrl;by_cases ht:cY l=0
 ·have hl:TabOk l (nV l):=fI.1 ht;have hl1:=hl.l1;have hl2:=hl.l2;have hn1:=hl.n1;have hn2:=hl.n2;obtain⟨vb,vo,rfl⟩:=hva qG;obtain⟨b0,o0,c0,hr0,hc0⟩:=RdII.rowS h 0 qG (nV_eq qG).symm hn1;rw[ht];by_cases g1:a<0
  ·have hb1:(inB a 0 b&&(decide (b<(nV l:Int))&&true))=false:=by
    cases hx:(inB a 0 b&&(decide (b<(nV l:Int))&&true)) with
    | false=>rfl
    | true=>
     simp only[Bool.and_eq_true,bX,decide_eq_true_eq] at hx;omega
   (refine aA1 vq (aE (aD (aB (aA1 vq (aB1 yq qG (aE (aF J (aJ (aD (aD (aB ?_)))))))))));refine aA1 vq (dU qE J J J qG (aA1 vq ?_));(iterate 6 refine aA3 zq ?_);refine aA1 vq (aA1 vq ?_);(iterate 3 refine aA3 zq ?_);refine aA1 vq (aE (aH J (aD (aB ?_))));(iterate 3 refine aA1 vq ?_);refine aE (aQ ?_))
   refine aA2 wq qF fun w hs=> ?_;exact⟨by rw[best_un ht hb1];rfl,hs.chg0⟩
  ·(refine aA1 vq (aE (aD (aB (aA1 vq (aB1 yq qG (aE (aF J (aJ (aD (aD (aB ?_)))))))))));refine aA1 vq (cS qE J J J qG (aA1 vq (aC J (aA1 vq (aC J (aA1 vq (aC J ?_))))))))
   refine aA5 uq qG qG ?_;(refine aC J ?_);refine bC qE J J J (fun w hs=>hc0 _ hs.chg0) ?_;by_cases g2:b≥nV l
   ·have hb1:(inB a 0 b&&(decide (b<(nV l:Int))&&true))=false:=by
     cases hx:(inB a 0 b&&(decide (b<(nV l:Int))&&true)) with
     | false=>rfl
     | true=>
      simp only[Bool.and_eq_true,bX,decide_eq_true_eq] at hx;omega
    (refine aC J (aA1 vq (aC J (kW qE J J J qG (aA1 vq (aA1 vq ?_)))));(iterate 3 refine aA3 zq ?_);refine aA1 vq (aE (aH J (aD (aB ?_))));(iterate 3 refine aA1 vq ?_);refine aE (aQ ?_))
    refine aA2 wq qF fun w hs=> ?_;exact⟨by rw[best_un ht hb1];rfl,hs.chg0⟩
   ·by_cases g3:a>b
    ·have hb1:(inB a 0 b&&(decide (b<(nV l:Int))&&true))=false:=by
      cases hx:(inB a 0 b&&(decide (b<(nV l:Int))&&true)) with
      | false=>rfl
      | true=>
       simp only[Bool.and_eq_true,bX,decide_eq_true_eq] at hx;omega
     (refine aC J (aA1 vq (aC J (gJ qE J J J qG (aA1 vq (aA1 vq (aC J (aA1 vq (aC J (aA1 vq (aC J (aB4 yq qG ?_)))))))))));refine aA1 vq (aE (aH J (aD (aB ?_))));(iterate 3 refine aA1 vq ?_);refine aE (aQ ?_))
     refine aA2 wq qF fun w hs=> ?_;exact⟨by rw[best_un ht hb1];rfl,hs.chg0⟩
    ·have hby:=best_yes (a:=a) (b:=b) ht (by rw[Bool.and_eq_true,bX,Bool.and_true,decide_eq_true_eq];omega);obtain⟨A,hA⟩:=Int.eq_ofNat_of_zero_le (show 0≤a by omega);obtain⟨B,hB⟩:=Int.eq_ofNat_of_zero_le (show 0≤b by omega);subst hA hB;rw[Int.toNat_natCast,Int.toNat_natCast] at hby;have hBW:BestW (cA l (nV l)) A B l.length (waxF (cA l (nV l)) A B l.length):=wax_best _ fun i _=>top_num (reg_num hl) i A B
     rw[hby];generalize waxF (cA l (nV l)) A B l.length=p at hBW;obtain⟨p1,p2⟩:=p;obtain⟨w0,hle,hlt,hat⟩:=hBW;obtain⟨hp1,hp2⟩:=hat qG;dsimp only at w0 hle hlt hp1 hp2 ⊢;obtain⟨P,rfl⟩:=Int.eq_ofNat_of_zero_le w0;rw[Int.toNat_natCast] at hp2;have hpm:=top_num (reg_num hl) P A B;rw[hp2] at hpm
     have hp0:0≤p2:=by
      obtain⟨row,hrow,hrm,hrl⟩:=reg_getD (l:=l) (n:=nV l) (i:=P) qG;rw[hrow] at hp2
      have h1:=top_mem (row:=row) (a:=A) (b:=B) (by
       intro e;have:=congrArg List.length e;unfold iS at this;rw[List.length_take,List.length_drop,List.length_nil] at this;omega)
      rw[hp2] at h1;have h2:=span_sub _ h1;unfold iS at h2;exact(reg_num hl row hrm p2 (List.mem_of_mem_drop (List.mem_of_mem_take h2))).1
     have hgd:∀i (k:Int),i<l.length→lD ((cA l (nV l)).getD i []) k A B=decide (topR ((cA l (nV l)).getD i []) A B≤k):=fun i k hi=>by
      obtain⟨row,hrow,hrm,hrl⟩:=reg_getD (l:=l) (n:=nV l) hi;rw[hrow];rw[Bool.eq_iff_iff,top_iff qG qG,decide_eq_true_iff]
     (refine aC J (aA1 vq (aC J (gJ qE J J J qG (aA1 vq (aA1 vq (aC J (aA1 vq (aC J (aA1 vq (aC J (aB3 yq qG ?_)))))))))));refine aA1 vq (aE (aF J (aJ (aD (aD (aB (aA1 vq (aE (aK ?_))))))))))
     refine bD (σ:=Nat) (fun k=>(k:Int)≤p2) (fun k=>10001-k) (fun k=>[(0,.slice (some ⟨vb,vo,none⟩) l.length vc),(1,.int .i64 A),(2,.int .i64 B),(10,.int .i64 k)]) (fun _=>[]) 0 qG ⟨J,J,J,J,trivial⟩ qF ?_;rintro k hk K hK;(refine aD (aD (aB (aA1 vq (oA qE J J J qG (aE (aH J (aJ (aD (aK (aD (aB ?_)))))))))));refine aA1 vq (aE (aK ?_)));refine bD (σ:=Nat) (fun i=>((k:Int)<p2∧i≤l.length)∨((k:Int)=p2∧i≤P)) (fun i=>l.length-i) (fun i=>[(0,.slice (some ⟨vb,vo,none⟩) l.length vc),(1,.int .i64 A),(2,.int .i64 B),(10,.int .i64 k),(11,.int .i64 i)]) (fun _=>[]) 0 qG ⟨J,J,J,J,J,trivial⟩ qF ?_;rintro i hii K2 hK2;(refine aD (aD (aB ?_));(iterate 4 refine aA1 vq ?_);refine aE ?_);refine cP J (fun hc=> ?_) (fun hc=> ?_)
     ·have hi2:i<l.length:=by omega
      clear hc;(refine aJ (aD (aK (aD (aB ?_))));(iterate 5 refine aA1 vq ?_));refine aI (val:= .bool (decide (topR ((cA l (nV l)).getD i []) A B≤k))) qE J J J J (fun w hs=> ?_) ?_;exact by have:=pT w lo hi _ l (nV l) i A B k (RdII.keep h hs.chg0) hl hi2 qG qG;rw[hgd i k hi2] at this;exact this
      have h1:=hle i hi2;have h2:=hlt i hi2;generalize hT:topR ((cA l (nV l)).getD i []) A B=tv at h1 h2;(refine aE ?_);refine cP J (fun hc=> ?_) (fun hc=> ?_)
      ·have e1:i=P:=by omega
       have e2:(k:Int)=p2:=by omega
       (refine aD (aB ?_);(iterate 5 refine aA1 vq ?_);refine aE (aQ ?_))
       refine aA2 wq qF fun w hs=> ?_;exact⟨by rw[e1,←e2];rfl,hs.chg0⟩
      ·(refine aJ (aW (aB (aA1 vq (aA4 xq qG qG (aA1 vq (aE ?_)))))))
       exact hK2 (i+1) _ _ (by
        by_cases e:i=P
        ·rw[e,hp2] at hT;omega
        ·omega) qG ⟨rfl,rfl,rfl,rfl,rfl,trivial⟩ (Sp.refl _)
     ·(refine aZ _ J (aW (aB (aA1 vq (aA4 xq qG qG (aA1 vq (aE ?_)))))))
      exact hK (k+1) _ _ qG qG ⟨J,J,J,J,trivial⟩ (Sp.refl _)
 ·(refine aA1 vq (aE (aD (aB (aA1 vq (aB0 yq qG (aE (aH J (aD (aB ?_)))))))));(iterate 4 refine aA1 vq ?_);refine aE (aQ ?_))
  refine aA2 wq qF fun w hs=> ?_;exact⟨by rw[best_no ht];rfl,hs.chg0⟩
theorem rtwo_ca(w:World)(lo hi:Nat)(l:Lb)(v:Value)(a b:Int)(h:RdR w lo hi v l.runs)(hlen:l.runs.length≤maxLen):Ca Tryz.prog 26 [.agg (lbC l v).toArray,.int .i64 a,.int .i64 b] w fun x w'=>x= .int .i64 (nF l a b)∧Chg [] w w':=by
 refine cM (Sat.nil w M0) Tryz.func26 J (by simp[Tryz.ntmps26]) ?_;(refine aD (aB ?_));refine bN J J (fun b3=> ?_);(refine aA1 vq (aE (aD (aD (aB ?_))));refine aM qE J J J ?_);refine aI (val:= .int .i64 (cG l)) qE J J J J (fun w hs=> ?_) ?_;exact lX w lo hi l v (RdE.keep h hs.chg0) hlen;by_cases h0:cG l=0
 ·have hl:=dG.1 h0;have s0:=hl.s0;have s1:=hl.s1;rw[h0];(refine aA1 vq (aE (aD (aB (aA1 vq (aB1 yq qG (aE (aF J (aJ (aD (aD (aB ?_)))))))))));refine aA1 vq (aA1 vq ?_);refine aL qE J J J ?_;refine aA4 xq qG qG ?_);refine aI (val:= .bool (!(inB a 0 (l.skis-1)))) qE J J J J (fun w hs=> ?_) ?_;exact fS a 0 (l.skis-1) w;cases ha:inB a 0 (l.skis-1) with
  | false=>
   (refine aA1 vq ?_;(iterate 5 refine aA3 zq ?_);refine aA1 vq (aE (aH J (aD (aB (aA1 vq (aE (aQ ?_))))))))
   refine aA2 wq qF fun w hs=> ?_;exact⟨by simp[eW,nF,h0,ha],hs.chg0⟩
  | true=>
   (refine aA1 vq (aC J (aA1 vq (aC J (aA1 vq (aC J ?_)))));refine aL qE J J J ?_;refine aC J (aA4 xq qG qG (aC J ?_)))
   refine aI (val:= .bool (!(inB b 0 (l.skis-1)))) qE J J J J (fun w hs=> ?_) ?_;exact fS b 0 (l.skis-1) w;cases hb:inB b 0 (l.skis-1) with
   | false=>
    (refine aA1 vq (aE (aH J (aD (aB (aA1 vq (aE (aQ ?_))))))))
    refine aA2 wq qF fun w hs=> ?_;exact⟨by simp[eW,nF,h0,ha,hb],hs.chg0⟩
   | true=>
    (refine aA1 vq (aE (aF J (aJ (aD (aB (aA1 vq (aE (aQ ?_)))))))))
    refine aA2 wq qF fun w hs=> ?_;exact⟨by simp[eW,nF,h0,ha,hb],hs.chg0⟩
 ·(refine aA1 vq (aE (aD (aB (aA1 vq (aB0 yq qG (aE (aH J (aD (aB (aA1 vq (aA1 vq ?_)))))))))));refine aE (aQ ?_))
  refine aA2 wq qF fun w hs=> ?_;exact⟨by simp[eW,nF,h0],hs.chg0⟩
theorem runI_sh{l:Lb}(hl:l.Ok){i:Nat}(hi:i<l.runs.length){p q:Int}(h:lH l.err l.runs[i]=some (p,q)):∃f s:Nat,p=f∧q=s∧Sh l i f s:=by
 have hr:=hl.run _ (List.getElem_mem hi);have a0:=hr.a0;have b0:=hr.b0
 have hpq:0≤p∧0≤q:=by
  unfold lH at h;split at h
  ·cases h;exact⟨a0,b0⟩
  ·split at h
   ·cases h;exact⟨b0,a0⟩
   ·cases h
 refine⟨p.toNat,q.toNat,by omega,by omega,hi,?_⟩;rw[List.getD_eq_getElem?_getD,List.getElem?_eq_getElem hi,Option.getD_some,mY,h]
 rfl
theorem runI_no{l:Lb}{i:Nat}(hi:i<l.runs.length)(h:lH l.err l.runs[i]=none){f s:Nat}:¬Sh l i f s:=by
 rintro⟨_,h2⟩;rw[List.getD_eq_getElem?_getD,List.getElem?_eq_getElem hi,Option.getD_some,mY,h] at h2;cases h2
theorem slBo:SlT Tryz.prog 135 4 1 1 (.bool false):=⟨by kernel_rfl,by kernel_rfl,rfl,by omega⟩
theorem rfast_ca(w:World)(lo hi:Nat)(l:Lb)(v:Value)(h:RdR w lo hi v l.runs)(hl:l.Ok)(a b:Nat)(ha:a<l.n)(hb:b<l.n):Ca Tryz.prog 22 [.agg (lbC l v).toArray,.int .i64 a,.int .i64 b] w fun x w'=>x= .bool (fa l.ord a b)∧Chg [] w w':=by
 have h8:=hl.n8;have s0:=hl.s0;have hlen:=hl.len;obtain⟨n,hn⟩:=Int.eq_ofNat_of_zero_le (show 0≤l.skis by omega);have hn':l.n=n:=by unfold Lb.n;omega
 rw[hn'] at h8 ha hb;obtain⟨va,vc,rfl,hsa⟩:=RdR.outI h;refine cM (Sat.nil w M0) Tryz.func22 J (by simp[Tryz.ntmps22]) ?_;(refine aD (aB ?_));refine bN J J (fun b3=> ?_);rw[bG];(refine aA1 vq (aE (aD (aB (aA1 vq ?_))));refine aL qE J J J ?_);rw[hn];refine ql_makeZ slBo J J J J qG qG (fun b14=> ?_);(refine aA1 vq (aE (aD (aD (aB (aA1 vq (aE (aK ?_))))))));refine cQ (H':=[.pt b14 (bools (List.replicate n false)) 4,.pt b3 (lbC l (.slice va l.runs.length vc)) 53]) (fun w' hs=>by rw[show bools (List.replicate n false)=List.replicate n (.bool false) from List.map_replicate];exact hs.sp qF) ?_
 refine bD (σ:=Bool×List Bool) (fun s=>FI l a s.2∧(s.1=false→∀i f t,Sh l i f t→(f=a∨s.2.getD f false=true)→s.2.getD t false=true)) (fun s=>mK s.2+(if s.1 then 1 else 0)) (fun s=>[(1,.int .i64 a),(2,.int .i64 b),(3,aB8 b3),(7,aB7 b14 n n),(8,.bool s.1)])
  (fun s=>[.pt b14 (bools s.2) 4,.pt b3 (lbC l (.slice va l.runs.length vc)) 53]) (true,List.replicate n false) ⟨by rw[←hn'];exact FI.start,by simp⟩ ⟨rfl,rfl,rfl,rfl,rfl,trivial⟩ (Sp.refl _) ?_
 rintro⟨gr,sl⟩ ⟨hF,hcl⟩ K hK;dsimp only at hF hcl hK ⊢;cases gr with
 | false=>
  have hbl:b<sl.length:=by rw[hF.len,hn'];exact hb
  (refine aD (aD (aB (aA1 vq (aE (aF J (aZ _ J (aD (aB (aA1 vq (aA1 vq ?_)))))))))))
  refine aA5 uq qG qG ?_;refine bC (v:= .bool (sl.getD b false)) qE J J J (fun w hs=>bcell (hs.blk (b:=b14) qF) b hbl) ?_;(refine aA1 vq (aE (aQ ?_)));refine aA2 wq qF fun w hs=> ?_;exact⟨by rw[hF.done hl qG (hcl J) (by rw[hn'];exact hb)];rfl,hs.chg0⟩
 | true=>
  clear hcl;(refine aD (aD (aB (aA1 vq (aE (aH J (aJ (aK (aD (aB (aA1 vq (aE ?_)))))))))));refine aD (aB (aA1 vq (aE (aK ?_)))))
  refine bD (σ:=Nat×Bool×List Bool) (fun s=>s.1≤l.runs.length∧FI l a s.2.2∧(s.2.1=false→s.2.2=sl∧∀j f t,j<s.1→Sh l j f t→(f=a∨s.2.2.getD f false=true)→s.2.2.getD t false=true)∧mK s.2.2+(if s.2.1 then 1 else 0)≤mK sl) (fun s=>l.runs.length-s.1) (fun s=>[(1,.int .i64 a),(2,.int .i64 b),(3,aB8 b3),(7,aB7 b14 n n),(8,.bool s.2.1),(9,.int .i64 s.1)])
   (fun s=>[.pt b14 (bools s.2.2) 4,.pt b3 (lbC l (.slice va l.runs.length vc)) 53]) (0,false,sl) ⟨by simp,hF,fun _=>⟨rfl,fun j f t hj=>by simp at hj⟩,by simp⟩ ⟨rfl,rfl,rfl,rfl,rfl,rfl,trivial⟩ (Sp.refl _) ?_
  rintro⟨i,gr,sl'⟩ ⟨hir,hF',hcl,hfl⟩ K2 hK2;dsimp only at hir hF' hcl hfl hK2 ⊢;(refine aD (aD (aB (aA1 vq (aA1 vq ?_))));refine aL qE J J J ?_;refine aA1 vq (aA1 vq (aE ?_)));refine cP J (fun hc=> ?_) (fun hc=> ?_)
  ·have hi2:i<l.runs.length:=by omega
   clear hc;have hrl:=(hl.run _ (List.getElem_mem hi2)).l0;(refine aJ (aD (aK (aD (aB ?_))));refine aM qE J J J ?_;refine aA1 vq ?_);cases hr:lH l.err l.runs[i] with
   | none=>
    refine aI (val:= .tuple #[.int .i64 (-1),.int .i64 (-1)]) qE J J J J (fun w hs=> ?_) ?_;exact by have:=kC w lo hi l _ (RdE.keep h hs.chg0) ⟨hl.e0,hl.e1⟩ i hi2 hrl;rw[show shR l.err l.runs[i]=(-1,-1) from by unfold shR;rw[hr];rfl] at this;exact this
    (refine aA1 vq (aA7 yq (aA7 yq (aA1 vq (aA1 vq (aE (aD (aB (aA1 vq (gJ qE J J J qG (aA1 vq ?_))))))))));(iterate 4 refine aA3 zq ?_);(iterate 4 refine dZ J J ?_);refine aA3 zq (aA1 vq (aA1 vq ?_));(iterate 5 refine aA3 zq ?_);refine aA1 vq (aE (aF J (aJ (aW (aB (aA1 vq (aA4 xq qG qG (aA1 vq (aE ?_))))))))))
    exact hK2 (i+1,gr,sl') _ _ ⟨by omega,hF',fun hg=>⟨(hcl hg).1,fun j f t hj hsh=>by
     by_cases e:j=i
     ·rw[e] at hsh;exact absurd hsh (runI_no hi2 hr)
     ·exact(hcl hg).2 j f t qG hsh⟩,hfl⟩ (by dsimp only;omega) ⟨J,J,J,J,J,J,trivial⟩ (Sp.refl _)
   | some pq=>
    obtain⟨p,q⟩:=pq;obtain⟨f,t,rfl,rfl,hsh⟩:=runI_sh hl hi2 hr;have hin:=sh_in hl hsh;rw[hn'] at hin;have hfl2:f<sl'.length:=by rw[hF'.len,hn'];exact hin.1
    have htl2:t<sl'.length:=by rw[hF'.len,hn'];exact hin.2
    have hso:∀f' t',Sh l i f' t'→f'=f∧t'=t:=fun f' t' h'=>by
     have:=h'.2.symm.trans hsh.2;cases this
     exact⟨J,J⟩
    refine aI (val:= .tuple #[.int .i64 f,.int .i64 t]) qE J J J J (fun w hs=> ?_) ?_;exact by have:=kC w lo hi l _ (RdE.keep h hs.chg0) ⟨hl.e0,hl.e1⟩ i hi2 hrl;rw[show shR l.err l.runs[i]=((f:Int),(t:Int)) from by unfold shR;rw[hr];rfl] at this;exact this
    by_cases hfa:f=a
    ·have hfa':f=a∨sl'.getD f false=true:= .inl hfa;(refine aA1 vq (aA7 yq (aA7 yq (aA1 vq (aA1 vq (aE (aD (aB (aA1 vq (kW qE J J J qG (aA1 vq (aC J ?_)))))))))));refine aA1 vq (aC J (aA1 vq (aC J (aA8 yq qG (aC J (aA1 vq ?_))))));(iterate 4 refine aA3 zq ?_);refine aC J ?_;(iterate 3 refine aA1 vq ?_);refine aC J (aA1 vq (aC J (aA1 vq (aC J ?_)))));refine aA5 uq qG qG ?_;(refine aC J ?_);refine bC (v:= .bool (sl'.getD t false)) qE J J J (fun w hs=>bcell (hs.blk (b:=b14) qF) t htl2) ?_;cases ht:sl'.getD t false with
     | true=>
      have hskip:(f=a∨sl'.getD f false=true)→sl'.getD t false=true:=fun _=>ht
      (refine aC J (aA1 vq (aA1 vq (aE (aF J (aJ (aW (aB (aA1 vq (aA4 xq qG qG (aA1 vq (aE ?_))))))))))))
      exact hK2 (i+1,gr,sl') _ _ ⟨by omega,hF',fun hg=>⟨(hcl hg).1,fun j f' t' hj hs' hf'=>by
       by_cases e:j=i
       ·rw[e] at hs';obtain⟨rfl,rfl⟩:=hso f' t' hs';exact hskip hf'
       ·exact(hcl hg).2 j f' t' qG hs' hf'⟩,hfl⟩ (by dsimp only;omega) ⟨J,J,J,J,J,J,trivial⟩ (Sp.refl _)
     | false=>
      (refine aC J (aA1 vq (aA1 vq (aE (aH J (aD (aB (aA1 vq (aA1 vq ?_)))))))))
      refine aA5 uq qG qG ?_;refine ql_storeBo qE t J J J qF (by simp) htl2 ?_;(refine aE (aB (aA1 vq (aE (aW (aB (aA1 vq (aA4 xq qG qG (aA1 vq (aE ?_))))))))));have hfs:=falses_set sl' t htl2 ht;have hfl3:mK (sl'.set t true)+1≤mK sl:=by split at hfl<;>omega
      exact hK2 (i+1,true,sl'.set t true) _ _ ⟨by dsimp only;omega,hF'.add hl hsh hfa',fun hg=>(by cases hg),hfl3⟩ (by dsimp only;omega) ⟨rfl,rfl,rfl,rfl,rfl,rfl,trivial⟩ (Sp.refl _)
    ·(refine aA1 vq (aA7 yq (aA7 yq (aA1 vq (aA1 vq (aE (aD (aB (aA1 vq (kW qE J J J qG (aA1 vq (aC J ?_)))))))))));refine aA1 vq (aC J (aA1 vq (aC J (aA9 yq qG (aC J (aA1 vq (aC J (aA1 vq (aC J (aA1 vq (aC J ?_))))))))))))
     refine aA5 uq qG qG ?_;(refine aC J ?_);refine bC (v:= .bool (sl'.getD f false)) qE J J J (fun w hs=>bcell (hs.blk (b:=b14) qF) f hfl2) ?_;cases hsf:sl'.getD f false with
     | true=>
      have hfa':f=a∨sl'.getD f false=true:= .inr hsf;(refine aC J ?_;(iterate 3 refine aA1 vq ?_);refine aC J (aA1 vq (aC J (aA1 vq (aC J ?_)))));refine aA5 uq qG qG ?_;(refine aC J ?_);refine bC (v:= .bool (sl'.getD t false)) qE J J J (fun w hs=>bcell (hs.blk (b:=b14) qF) t htl2) ?_;cases ht:sl'.getD t false with
      | true=>
       have hskip:(f=a∨sl'.getD f false=true)→sl'.getD t false=true:=fun _=>ht
       (refine aC J (aA1 vq (aA1 vq (aE (aF J (aJ (aW (aB (aA1 vq (aA4 xq qG qG (aA1 vq (aE ?_))))))))))))
       exact hK2 (i+1,gr,sl') _ _ ⟨by omega,hF',fun hg=>⟨(hcl hg).1,fun j f' t' hj hs' hf'=>by
        by_cases e:j=i
        ·rw[e] at hs';obtain⟨rfl,rfl⟩:=hso f' t' hs';exact hskip hf'
        ·exact(hcl hg).2 j f' t' qG hs' hf'⟩,hfl⟩ (by dsimp only;omega) ⟨J,J,J,J,J,J,trivial⟩ (Sp.refl _)
      | false=>
       (refine aC J (aA1 vq (aA1 vq (aE (aH J (aD (aB (aA1 vq (aA1 vq ?_)))))))))
       refine aA5 uq qG qG ?_;refine ql_storeBo qE t J J J qF (by simp) htl2 ?_;(refine aE (aB (aA1 vq (aE (aW (aB (aA1 vq (aA4 xq qG qG (aA1 vq (aE ?_))))))))));have hfs:=falses_set sl' t htl2 ht;have hfl3:mK (sl'.set t true)+1≤mK sl:=by split at hfl<;>omega
       exact hK2 (i+1,true,sl'.set t true) _ _ ⟨by dsimp only;omega,hF'.add hl hsh hfa',fun hg=>(by cases hg),hfl3⟩ (by dsimp only;omega) ⟨rfl,rfl,rfl,rfl,rfl,rfl,trivial⟩ (Sp.refl _)
     | false=>
      have hskip:(f=a∨sl'.getD f false=true)→sl'.getD t false=true:=fun h'=>by
       rcases h' with h'|h'
       ·exact absurd h' hfa
       ·rw[hsf] at h';cases h'
      (refine aC J ?_;(iterate 3 refine aA1 vq ?_);(iterate 5 refine aA3 zq ?_);refine aA1 vq (aE (aF J (aJ (aW (aB (aA1 vq (aA4 xq qG qG (aA1 vq (aE ?_))))))))))
      exact hK2 (i+1,gr,sl') _ _ ⟨by omega,hF',fun hg=>⟨(hcl hg).1,fun j f' t' hj hs' hf'=>by
       by_cases e:j=i
       ·rw[e] at hs';obtain⟨rfl,rfl⟩:=hso f' t' hs';exact hskip hf'
       ·exact(hcl hg).2 j f' t' qG hs' hf'⟩,hfl⟩ (by dsimp only;omega) ⟨J,J,J,J,J,J,trivial⟩ (Sp.refl _)
  ·have hie:i=l.runs.length:=by omega
   clear hc hK2;(refine aZ _ J (aW ?_));exact hK (gr,sl') _ _ ⟨hF',fun hg j f t hsh hf=>(hcl hg).2 j f t (by have:=hsh.1;omega) hsh hf⟩ (by dsimp only;simp only[if_true];omega) ⟨J,J,J,J,J,trivial⟩ (Sp.refl _)
theorem jY(w:World)(lo hi:Nat)(l:Lb)(v:Value)(h:RdR w lo hi v l.runs)(hlen:l.runs.length≤maxLen):Ca Tryz.prog 21 [.agg (lbC l v).toArray] w fun x w'=>x= .int .i64 (bQ l)∧Chg [] w w':=by
 refine cM (Sat.nil w M0) Tryz.func21 J (by simp[Tryz.ntmps21]) ?_;(refine aD (aB ?_));refine bN J J (fun b1=> ?_);rw[bG];(refine aA1 vq (aE (aD (aD (aB ?_))));refine aM qE J J J ?_);refine aI (val:= .int .i64 (cG l)) qE J J J J (fun w hs=> ?_) ?_;exact lX w lo hi l v (RdE.keep h hs.chg0) hlen;by_cases h0:cG l=0
 ·have hl:=dG.1 h0;have h8:=hl.n8;have s0:=hl.s0;obtain⟨n,hn⟩:=Int.eq_ofNat_of_zero_le (show 0≤l.skis by omega);have hn':l.n=n:=by unfold Lb.n;omega
  rw[hn'] at h8;rw[h0];(refine aA1 vq (aE (aD (aB (aA1 vq (aB1 yq qG (aE (aF J (aJ (aD (aD (aB ?_)))))))))));refine aA1 vq (aE (aK ?_)));refine bD (σ:=Nat) (fun s=>s≤n∧∀t,t<s→fa l.ord t t=false) (fun s=>n-s) (fun s=>[(1,aB8 b1),(4,.int .i64 s)]) (fun _=>[.pt b1 (lbC l v) 53]) 0 ⟨by omega,fun t ht=>by omega⟩ ⟨J,J,trivial⟩ qF ?_;rintro s ⟨hs1,hb1⟩ K hK;(refine aD (aD (aB (aA1 vq (aA1 vq ?_))));refine aL qE J J J ?_;refine aA1 vq (aE ?_));rw[hn];refine cP J (fun hc=> ?_) (fun hc=> ?_)
  ·have hs2:s<n:=by omega
   clear hc;(refine aJ (aD (aK (aD (aB ?_))));refine aM qE J J J ?_;refine aA1 vq (aA1 vq ?_));refine aI (val:= .bool (fa l.ord s s)) qE J J J J (fun w hs=> ?_) ?_;exact rfast_ca w lo hi l v (RdE.keep h hs.chg0) hl s s (by rw[hn'];exact hs2) (by rw[hn'];exact hs2);cases hx:fa l.ord s s with
   | true=>
    (refine aE (aH J (aD (aB (aA1 vq (aE (aQ ?_)))))))
    refine aA2 wq qF fun w hs=> ?_
    have hcf:iO l.ord l.n=true:=by
     cases hcc:iO l.ord l.n with
     | true=>rfl
     | false=>rw[fK.1 hcc s (by rw[hn'];exact hs2)] at hx;cases hx
    exact⟨by simp[eW,bQ,h0,hcf],hs.chg0⟩
   | false=>
    (refine aE (aF J (aJ (aW (aB (aA1 vq (aA4 xq qG qG (aA1 vq (aE ?_)))))))))
    exact hK (s+1) _ _ ⟨by omega,fun t ht=>by
     by_cases e:t=s
     ·rw[e];exact hx
     ·exact hb1 t qG⟩ qG ⟨J,J,trivial⟩ (Sp.refl _)
  ·have hsn:s=n:=by omega
   subst hsn;(refine aZ _ J (aD (aB (aA1 vq (aE (aQ ?_))))));refine aA2 wq qF fun w hs=> ?_
   have hcf:iO l.ord l.n=false:=fK.2 (by rw[hn'];exact hb1);exact⟨by simp[eW,bQ,h0,hcf],hs.chg0⟩
 ·(refine aA1 vq (aE (aD (aB (aA1 vq (aB0 yq qG (aE (aH J (aD (aB (aA1 vq (aA1 vq ?_)))))))))));refine aE (aQ ?_))
  refine aA2 wq qF fun w hs=> ?_;exact⟨by simp[eW,bQ,h0],hs.chg0⟩
theorem rlength_ca(w:World)(lo hi:Nat)(l:Lb)(v:Value)(h:RdR w lo hi v l.runs)(hl:l.Ok)(a b:Nat)(ha:a<l.n)(hb:b<l.n):Ca Tryz.prog 27 [.agg (lbC l v).toArray,.int .i64 a,.int .i64 b] w fun x w'=>∃z:Int,(x= .int .i64 z∧LenP l a b z)∧Sat w M0 [] w':=by
 have h8:=hl.n8;have s0:=hl.s0;have hlen:=hl.len;obtain⟨n,hn⟩:=Int.eq_ofNat_of_zero_le (show 0≤l.skis by omega);have hn':l.n=n:=by unfold Lb.n;omega
 rw[hn'] at h8 ha hb;obtain⟨va,vc,rfl,hsa⟩:=RdR.outI h;refine cM (Sat.nil w M0) Tryz.func27 J (by simp[Tryz.ntmps27]) ?_;(refine aD (aB ?_));refine bN J J (fun b3=> ?_);rw[bG];(refine aA1 vq (aE (aD (aB (aA1 vq ?_))));refine aL qE J J J ?_);rw[hn];refine nB slI J J J qG (fun b14=> ?_);(refine aA1 vq (aE (aD (aD (aB (aA1 vq (aE (aK ?_))))))))
 refine bD (σ:=Nat×List Int) (fun s=>1≤s.1∧s.1≤n+1∧LI l a s.1 0 s.2) (fun s=>n+1-s.1) (fun s=>[(1,.int .i64 a),(2,.int .i64 b),(3,aB8 b3),(7,aB7 b14 n n),(8,.int .i64 s.1)])
  (fun s=>[.pt b14 (bF s.2) 3,.pt b3 (lbC l (.slice va l.runs.length vc)) 53]) (1,List.replicate n 0) ⟨by omega,by simp only;omega,by rw[←hn'];exact LI.start l a⟩ ⟨rfl,rfl,rfl,rfl,rfl,trivial⟩ qF ?_
 rintro⟨nn,far⟩ ⟨hn1,hn2,hL⟩ K hK;dsimp only at hn1 hn2 hL hK ⊢;(refine aD (aD (aB (aA1 vq (aA1 vq ?_))));refine aL qE J J J ?_;refine aA1 vq (aE ?_));rw[hn];refine cP J (fun hc=> ?_) (fun hc=> ?_)
 ·have hn3:nn≤n:=by omega
  clear hc;(refine aJ (aD (aK (aD (aB (aA1 vq (aE (aK ?_))))))))
  refine bD (σ:=Nat×List Int) (fun s=>s.1≤l.runs.length∧LI l a nn s.1 s.2) (fun s=>l.runs.length-s.1) (fun s=>[(1,.int .i64 a),(2,.int .i64 b),(3,aB8 b3),(7,aB7 b14 n n),(8,.int .i64 nn),(9,.int .i64 s.1)])
   (fun s=>[.pt b14 (bF s.2) 3,.pt b3 (lbC l (.slice va l.runs.length vc)) 53]) (0,far) ⟨by simp,hL⟩ ⟨rfl,rfl,rfl,rfl,rfl,rfl,trivial⟩ (Sp.refl _) ?_
  rintro⟨i,far⟩ ⟨hir,hL⟩ K2 hK2;dsimp only at hir hL hK2 ⊢;(refine aD (aD (aB (aA1 vq (aA1 vq ?_))));refine aL qE J J J ?_;refine aA1 vq (aA1 vq (aE ?_)));refine cP J (fun hc=> ?_) (fun hc=> ?_)
  ·have hi2:i<l.runs.length:=by omega
   clear hc;have hrl:=(hl.run _ (List.getElem_mem hi2)).l0;(refine aJ (aD (aK (aD (aB ?_))));refine aM qE J J J ?_;refine aA1 vq ?_);cases hr:lH l.err l.runs[i] with
   | none=>
    refine aI (val:= .tuple #[.int .i64 (-1),.int .i64 (-1)]) qE J J J J (fun w hs=> ?_) ?_;exact by have:=kC w lo hi l _ (RdE.keep h hs.chg0) ⟨hl.e0,hl.e1⟩ i hi2 hrl;rw[show shR l.err l.runs[i]=(-1,-1) from by unfold shR;rw[hr];rfl] at this;exact this
    (refine aA1 vq (aA7 yq (aA7 yq (aA1 vq (aA1 vq (aE (aD (aB (aA1 vq (gJ qE J J J qG (aA1 vq ?_))))))))));(iterate 5 refine aA3 zq ?_);refine aA1 vq (aA1 vq ?_);(iterate 3 refine aA3 zq ?_);(iterate 3 refine dZ J J ?_);refine aA3 zq (aA3 zq ?_);(iterate 11 refine dZ J J ?_);refine aA3 zq (aA1 vq (aE (aF J (aJ (aW (aB (aA1 vq (aA4 xq qG qG (aA1 vq (aE ?_)))))))))))
    exact hK2 (i+1,far) _ _ ⟨by dsimp only;omega,hL.skip (fun f t hsh=>absurd hsh (runI_no hi2 hr))⟩ (by dsimp only;omega) ⟨J,J,J,J,J,J,trivial⟩ (Sp.refl _)
   | some pq=>
    obtain⟨p,q⟩:=pq;obtain⟨f,t,rfl,rfl,hsh⟩:=runI_sh hl hi2 hr;have hin:=sh_in hl hsh;rw[hn'] at hin;have hfl2:f<far.length:=by rw[hL.len,hn'];exact hin.1
    have htl2:t<far.length:=by rw[hL.len,hn'];exact hin.2
    have hso:∀f' t',Sh l i f' t'→f'=f∧t'=t:=fun f' t' h'=>by
     have:=h'.2.symm.trans hsh.2;cases this
     exact⟨J,J⟩
    refine aI (val:= .tuple #[.int .i64 f,.int .i64 t]) qE J J J J (fun w hs=> ?_) ?_;exact by have:=kC w lo hi l _ (RdE.keep h hs.chg0) ⟨hl.e0,hl.e1⟩ i hi2 hrl;rw[show shR l.err l.runs[i]=((f:Int),(t:Int)) from by unfold shR;rw[hr];rfl] at this;exact this
    (refine aA1 vq (aA7 yq (aA7 yq (aA1 vq (aA1 vq (aE (aD (aB (aA1 vq (kW qE J J J qG (aA1 vq (aC J ?_)))))))))));refine aA1 vq (aC J (aA1 vq (aC J ?_))))
    refine aA5 uq qG qG ?_;(refine aC J ?_);refine bC (v:= .int .i64 (far.getD t 0)) qE J J J (fun w hs=>icell (hs.blk (b:=b14) qF) t htl2) ?_;by_cases h1:far.getD t 0=0
    ·by_cases hnn:nn=1
     ·by_cases hfa:f=a
      ·have hset:nn=1∧f=a∨∃m,nn=m+2∧IsD l a f (m+1):= .inl ⟨hnn,hfa⟩;(refine aC J (aA8 yq qG (aA1 vq (aA1 vq (aC J (aA1 vq (aC J (aA8 yq qG (aC J (aA1 vq (aC J (aA1 vq ?_)))))))))));refine aC J (aA1 vq (aC J (aA8 yq qG (aC J (aA1 vq (aC J (aA1 vq ?_)))))));(iterate 3 refine aA3 zq ?_);(iterate 7 refine dZ J J ?_);refine aA3 zq (aC J (aA1 vq (aA1 vq (aE (aH J (aB ?_))))));(iterate 3 refine aA1 vq ?_));refine aA5 uq qG qG ?_;refine eZ qE (t) J J J qF (by first|rfl|omega|simp) htl2 ?_;(refine aE (aW (aB (aA1 vq (aA4 xq qG qG (aA1 vq (aE ?_)))))));exact hK2 (i+1,far.set t nn) _ _ ⟨by dsimp only;omega,hL.set hl hn1 hsh h1 hset⟩ (by dsimp only;omega) ⟨J,J,J,J,J,J,trivial⟩ (Sp.refl _)
      ·have hskip:(nn=1∧f=a∨∃m,nn=m+2∧IsD l a f (m+1))→far.getD t 0≠0:=fun h'=>by
        rcases h' with⟨_,h2⟩|⟨m,h2,_⟩
        ·exact absurd h2 hfa
        ·omega
       (refine aC J (aA8 yq qG (aA1 vq (aA1 vq (aC J (aA1 vq (aC J (aA8 yq qG (aC J (aA1 vq (aC J (aA1 vq ?_)))))))))));refine aC J (aA1 vq (aC J (aA9 yq qG (aC J (aA1 vq (aC J (aA1 vq (aC J (aA1 vq (aC J (aB3 yq qG ?_)))))))))));refine aC J (aA1 vq ?_);(iterate 7 refine aA3 zq ?_);refine aC J (aA1 vq (aC J (aA1 vq (aA1 vq (aE (aF J (aJ (aW (aB (aA1 vq (aA4 xq qG qG ?_)))))))))));refine aA1 vq (aE ?_))
       exact hK2 (i+1,far) _ _ ⟨by dsimp only;omega,hL.skip (fun f' t' hs' hf'=>by
        obtain⟨rfl,rfl⟩:=hso f' t' hs';exact hskip hf')⟩ (by dsimp only;omega) ⟨J,J,J,J,J,J,trivial⟩ (Sp.refl _)
     ·(refine aC J (aA8 yq qG (aA1 vq (aA1 vq (aC J (aA1 vq (aC J (aA9 yq qG (aC J (aA1 vq ?_)))))))));(iterate 3 refine aA3 zq ?_);refine aC J (aA1 vq (aC J (aA1 vq (aC J (aA1 vq (aC J (aB4 yq qG (aC J (aA1 vq (aC J (aA1 vq ?_)))))))))));refine aC J (aA1 vq (aC J ?_)))
      refine aA5 uq qG qG ?_;(refine aC J ?_);refine bC (v:= .int .i64 (far.getD f 0)) qE J J J (fun w hs=>icell (hs.blk (b:=b14) qF) f hfl2) ?_;by_cases h2:far.getD f 0=(nn:Int)-1
      ·have hset:nn=1∧f=a∨∃m,nn=m+2∧IsD l a f (m+1):= .inr (by
        obtain⟨k,h3,_,h4⟩:=hL.ok f qG;refine⟨nn-2,by omega,?_⟩;rw[show nn-2+1=k from by omega];exact h4)
       (refine aC J (aA1 vq (aC J (aA4 xq qG qG (aC J (aA8 yq qG (aC J (aA1 vq (aC J (aA1 vq (aA1 vq (aE ?_)))))))))));refine aH J (aB ?_);(iterate 3 refine aA1 vq ?_))
       refine aA5 uq qG qG ?_;refine eZ qE (t) J J J qF (by first|rfl|omega|simp) htl2 ?_;(refine aE (aW (aB (aA1 vq (aA4 xq qG qG (aA1 vq (aE ?_)))))));exact hK2 (i+1,far.set t nn) _ _ ⟨by dsimp only;omega,hL.set hl hn1 hsh h1 hset⟩ (by dsimp only;omega) ⟨J,J,J,J,J,J,trivial⟩ (Sp.refl _)
      ·have hskip:(nn=1∧f=a∨∃m,nn=m+2∧IsD l a f (m+1))→far.getD t 0≠0:=fun h'=>by
        rcases h' with⟨h3,_⟩|⟨m,h3,h4⟩
        ·exact absurd h3 hnn
        ·have:=hL.old f (m+1) qG h4;omega
       (refine aC J (aA1 vq (aC J (aA4 xq qG qG (aC J (aA9 yq qG (aC J (aA1 vq (aC J (aA1 vq (aA1 vq (aE ?_)))))))))));refine aF J (aJ (aW (aB (aA1 vq (aA4 xq qG qG (aA1 vq (aE ?_))))))))
       exact hK2 (i+1,far) _ _ ⟨by dsimp only;omega,hL.skip (fun f' t' hs' hf'=>by
        obtain⟨rfl,rfl⟩:=hso f' t' hs';exact hskip hf')⟩ (by dsimp only;omega) ⟨J,J,J,J,J,J,trivial⟩ (Sp.refl _)
    ·have hskip:(nn=1∧f=a∨∃m,nn=m+2∧IsD l a f (m+1))→far.getD t 0≠0:=fun _=>h1
     (refine aC J (aA9 yq qG (aA1 vq (aA1 vq ?_)));(iterate 3 refine aA3 zq ?_);(iterate 3 refine dZ J J ?_);refine aA3 zq (aA3 zq ?_);(iterate 11 refine dZ J J ?_);refine aA3 zq (aA1 vq (aE (aF J (aJ (aW (aB (aA1 vq (aA4 xq qG qG (aA1 vq (aE ?_)))))))))))
     exact hK2 (i+1,far) _ _ ⟨by dsimp only;omega,hL.skip (fun f' t' hs' hf'=>by
      obtain⟨rfl,rfl⟩:=hso f' t' hs';exact hskip hf')⟩ (by dsimp only;omega) ⟨J,J,J,J,J,J,trivial⟩ (Sp.refl _)
  ·have hie:i=l.runs.length:=by omega
   subst hie;clear hc hK2;(refine aZ _ J (aW (aB (aA1 vq (aA4 xq qG qG (aA1 vq (aE ?_)))))));exact hK (nn+1,far) _ _ ⟨by dsimp only;omega,by dsimp only;omega,hL.fin hl hn1⟩ (by dsimp only;omega) ⟨J,J,J,J,J,trivial⟩ (Sp.refl _)
 ·have hne:nn=n+1:=by omega
  subst hne;clear hc hK;have hbl:b<far.length:=by rw[hL.len,hn'];exact hb
  (refine aZ _ J (aD (aB (aA1 vq (aA1 vq ?_)))))
  refine aA5 uq qG qG ?_;refine bC (v:= .int .i64 (far.getD b 0)) qE J J J (fun w hs=>icell (hs.blk (b:=b14) qF) b hbl) ?_;(refine aA1 vq (aE (aQ ?_)));refine aA2 wq qF fun w hs=> ?_;exact⟨_,⟨J,by rw[←hn'] at hL;exact hL.end hl b⟩,hs.sp qF⟩
theorem mT(w:World)(lo hi:Nat)(l:Lb)(v:Value)(h:RdR w lo hi v l.runs)(hl:l.Ok)(j:Int)(h0:0≤j)(h1:j<l.runs.length) :
  Ca Tryz.prog 84 [.agg (lbC l v).toArray,.int .i64 j] w fun x w'=>x= .tuple #[.int .i64 (rqL l j).1,.int .i64 (rqL l j).2]∧Chg [] w w':=by
 obtain⟨i,rfl⟩:=Int.eq_ofNat_of_zero_le h0;have hi':i<l.runs.length:=by omega
 have:=kC w lo hi l v h ⟨hl.e0,hl.e1⟩ i hi' (hl.run _ (List.getElem_mem hi')).l0;unfold rqL;rw[show((i:Nat):Int).toNat=i from rfl,List.getD_eq_getElem?_getD,List.getElem?_eq_getElem hi',Option.getD_some];exact this
theorem chainV_eq{l:Lb}{a b:Int}{c:List Int}(h2:nF l a b=0)(ha:(c.all fun i=>inB i 0 (l.runs.length-1))=true):chainV l a b c=(nO l a b c,0):=gY h2 ha
theorem gX{l:List Int}{i:Nat}(h:i<l.length):l[i]=l.getD i 0:=by rw[List.getD_eq_getElem?_getD,List.getElem?_eq_getElem h];rfl
theorem rchain_ca(w:World)(lo hi lo2 hi2:Nat)(l:Lb)(v:Value)(a b:Int)(u:Value)(c:List Int)(h:RdR w lo hi v l.runs)(hlen:l.runs.length≤maxLen)(hu:RdI w lo2 hi2 u c)(hc:c.length≤1000000):Ca Tryz.prog 25 [.agg (lbC l v).toArray,.int .i64 a,.int .i64 b,u] w fun x w'=>x= .tuple #[.bool (chainV l a b c).1,.int .i64 (chainV l a b c).2]∧Chg [] w w':=by
 obtain⟨va,vc,rfl,hsa⟩:=RdR.outI h;obtain⟨ua,uc,rfl,hsu⟩:=RdI.outI hu;refine cM (Sat.nil w M0) Tryz.func25 J (by simp[Tryz.ntmps25]) ?_;(refine aD (aB ?_));refine bN J J (fun b4=> ?_);rw[bG];(refine aA1 vq (aA1 vq (aE (aD (aD (aB ?_)))));refine aM qE J J J ?_;refine aA1 vq (aA1 vq ?_));refine aI (val:= .int .i64 (nF l a b)) qE J J J J (fun w hs=> ?_) ?_;exact rtwo_ca w lo hi l _ a b (RdE.keep h hs.chg0) hlen;by_cases h2:nF l a b=0
 ·have hl:=(mI.1 h2).1;have hll:=hl.len;rw[h2];(refine aA1 vq (aE (aD (aB (aA1 vq (aB1 yq qG (aE (aF J (aJ (aD (aD (aB ?_)))))))))));refine aA1 vq (aE (aK ?_)));refine bD (σ:=Nat) (fun i=>i≤c.length∧(c.take i).all (fun i=>inB i 0 (l.runs.length-1))=true) (fun i=>c.length-i) (fun i=>[(1,.int .i64 a),(2,.int .i64 b),(3,.slice ua c.length uc),(4,aB8 b4),(11,.int .i64 i)]) (fun _=>[.pt b4 (lbC l (.slice va l.runs.length vc)) 53]) 0 ⟨by omega,by simp⟩ ⟨J,J,J,J,J,trivial⟩ qF ?_;rintro i ⟨hi1,hall⟩ K hK;(refine aD (aD (aB ?_));(iterate 4 refine aA1 vq ?_);refine aE ?_);refine cP J (fun hc=> ?_) (fun hc=> ?_)
  ·have hi2:i<c.length:=by omega
   clear hc;obtain⟨ub,uo,hab⟩:=hsu qG;cases hab
   (refine aJ (aD (aK (aD ?_))))
   refine bY _ [] (Sp.refl _) qI qI ?_;(refine aB2 yq (aB2 yq ?_));(refine aB5 uq qG qG ?_;refine bA qE J J J (fun w hs=>RdI.at (RdE.keep hu hs.chg0) i hi2) ?_);(refine aB2 yq ?_;refine aX qE J J J ?_;refine aB2 yq (aB6 xq qG qG ?_));refine cR (val:= .bool (!(inB c[i] 0 (l.runs.length-1)))) qE J J J J (fun w hs=> ?_) ?_;exact fS c[i] 0 (l.runs.length-1) w;cases hx:inB c[i] 0 (l.runs.length-1) with
   | false=>
    (refine aT (aH J (aD (aB (aA1 vq (aA1 vq (aE (aQ ?_))))))))
    refine aA2 wq qF fun w hs=> ?_;have hbad:(c.all fun i=>inB i 0 (l.runs.length-1))=false:=fN _ _ hi2 hx
    exact⟨by rw[chain_un h2 hbad];rfl,hs.chg0⟩
   | true=>
    (refine aT (aF J (aJ (aW (aB (aA1 vq (aA4 xq qG qG (aA1 vq (aE ?_)))))))))
    exact hK (i+1) _ _ ⟨by omega,kS _ _ hi2 hall hx⟩ qG ⟨J,J,J,J,J,trivial⟩ (Sp.refl _)
  ·obtain rfl:i=c.length:=by omega
   rw[List.take_length] at hall;clear hc hK hi1;have hcv:=chainV_eq (a:=a) (b:=b) h2 hall
   have hrc:∀j∈c,0≤j∧j<l.runs.length:=fun j hj=>by
    have:=bX.1 (List.all_eq_true.1 hall j hj);omega
   (refine aZ _ J (aD (aD (aB (aA1 vq (aE (aK ?_)))))))
   refine bD (σ:=Nat) (fun i=>CI l a b c i) (fun i=>c.length-i) (fun i=>[(1,.int .i64 a),(2,.int .i64 b),(3,.slice ua c.length uc),(4,aB8 b4),(12,.int .i64 i)]) (fun _=>[.pt b4 (lbC l (.slice va l.runs.length vc)) 53]) 0 (CI.start l a b c) ⟨J,J,J,J,J,trivial⟩ (Sp.refl _) ?_;rintro i hI K hK;have hile:=hI.le;(refine aD (aD (aB ?_));(iterate 4 refine aA1 vq ?_);refine aE ?_);refine cP J (fun hc=> ?_) (fun hc=> ?_)
   ·have hi2:i<c.length:=by omega
    clear hc;obtain⟨ub,uo,hab⟩:=hsu qG;cases hab
    have hm:=hrc _ (List.getElem_mem hi2);(refine aJ (aD (aK (aD ?_))));refine bY _ [] (Sp.refl _) qI qI ?_;(refine bK qE J J J ?_;refine aB2 yq (aB2 yq ?_));(refine aB5 uq qG qG ?_;refine bA qE J J J (fun w hs=>RdI.at (RdE.keep hu hs.chg0) i hi2) ?_);rw[gX hi2] at hm ⊢;refine cR (val:= .tuple #[.int .i64 (rqL l (c.getD i 0)).1,.int .i64 (rqL l (c.getD i 0)).2]) qE J J J J (fun w hs=> ?_) ?_;exact mT w lo hi l _ (RdE.keep h hs.chg0) hl (c.getD i 0) hm.1 hm.2;(refine aB2 yq (fD qE J J J (fD qE J J J (aB2 yq (aB2 yq (aT (aD (aB ?_)))))));(iterate 4 refine aA1 vq ?_);refine aE (aD (aD (aB (aA1 vq (aA1 vq (aE ?_)))))));have hstep:=hI.step hl hi2 hrc;have hbad:=hI.bad hl hi2 hrc;have hbad2:=hI.bad2 hl hi2 hrc;generalize (rqL l (c.getD i 0)).1=x1 at *;generalize (rqL l (c.getD i 0)).2=x2 at *;dsimp only[List.nil_append];refine cP J (fun hc=> ?_) (fun hc=> ?_)
    ·obtain⟨m,hmi⟩:∃m,i=m+1:=⟨i-1,by omega⟩;have hm1:m<c.length:=by omega
     have hm2:=hrc _ (List.getElem_mem hm1);clear hc;rw[if_neg qG,show i-1=m from by omega] at hstep hbad hbad2;refine bY _ [] (Sp.refl _) qI qI ?_;(refine bK qE J J J ?_;refine aB2 yq (aB2 yq (aB6 xq qG qG ?_)));rw[show(i:Int)-1=(m:Int) from by omega];(refine aB5 uq qG qG ?_;refine bA qE J J J (fun w hs=>RdI.at (RdE.keep hu hs.chg0) m hm1) ?_);rw[gX hm1] at hm2 ⊢;refine cR (val:= .tuple #[.int .i64 (rqL l (c.getD m 0)).1,.int .i64 (rqL l (c.getD m 0)).2]) qE J J J J (fun w hs=> ?_) ?_;exact mT w lo hi l _ (RdE.keep h hs.chg0) hl (c.getD m 0) hm2.1 hm2.2;(refine aB2 yq (fD qE J J J (fD qE J J J (aB2 yq (aT (aD (aD (aB ?_)))))));(iterate 3 refine aA1 vq ?_);refine aA4 xq qG qG (aA1 vq (aE ?_)));generalize (rqL l (c.getD m 0)).2=y at *;have hy:y=y:=rfl;dsimp only[List.nil_append];refine cP J (fun hc=> ?_) (fun hc=> ?_)
     ·have hn2:i+1<c.length:=by omega
      clear hc;have hm2:=hrc _ (List.getElem_mem hn2);rw[if_pos hn2] at hstep hbad2;refine bY _ [] (Sp.refl _) qI qI ?_;(refine bK qE J J J ?_;refine aB2 yq (aB2 yq (aB6 xq qG qG ?_)));(refine aB5 uq qG qG ?_;refine bA qE J J J (fun w hs=>RdI.at (RdE.keep hu hs.chg0) (i+1) hn2) ?_);rw[gX hn2] at hm2 ⊢;refine cR (val:= .tuple #[.int .i64 (rqL l (c.getD (i+1) 0)).1,.int .i64 (rqL l (c.getD (i+1) 0)).2]) qE J J J J (fun w hs=> ?_) ?_;exact mT w lo hi l _ (RdE.keep h hs.chg0) hl (c.getD (i+1) 0) hm2.1 hm2.2;(refine aB2 yq (fD qE J J J (fD qE J J J (aB2 yq (aT (aD ?_))))));generalize (rqL l (c.getD (i+1) 0)).1=z at *;have hz:z=z:=rfl;dsimp only[List.nil_append];by_cases g1:x1<0
      ·(refine aB (aA1 vq (dU qE J J J qG (aA1 vq ?_)));(iterate 3 refine aA3 zq ?_);refine aA1 vq (aA1 vq ?_);(iterate 3 refine aA3 zq ?_);refine aA1 vq (aE (aH J (aD (aB (aA1 vq (aA1 vq (aE (aQ ?_)))))))))
       refine aA2 wq qF fun w hs=> ?_;exact⟨by rw[hcv,hbad (fun h=>by omega)];rfl,hs.chg0⟩
      ·by_cases g2:x1=y
       ·by_cases g3:x2=z
        ·(refine aB (aA1 vq (cS qE J J J qG (aA1 vq (aC J (aA1 vq (aC J (aA1 vq (aC J (aB1 yq qG (aA1 vq (aA1 vq ?_)))))))))));refine aC J (aA1 vq (aC J (aA1 vq (aC J (aB1 yq qG (aA1 vq (aE (aF J (aJ (aW (aB ?_)))))))))));refine aA1 vq (aA4 xq qG qG (aA1 vq (aE ?_))))
         exact hK (i+1) _ _ (hstep qG (g2.trans hy) (g3.trans hz)) qG ⟨J,J,J,J,J,trivial⟩ (Sp.refl _)
        ·(refine aB (aA1 vq (cS qE J J J qG (aA1 vq (aC J (aA1 vq (aC J (aA1 vq (aC J (aB1 yq qG (aA1 vq (aA1 vq ?_)))))))))));refine aC J (aA1 vq (aC J (aA1 vq (aC J (aB0 yq qG (aA1 vq (aE (aH J (aD (aB (aA1 vq ?_)))))))))));refine aA1 vq (aE (aQ ?_)))
         refine aA2 wq qF fun w hs=> ?_;exact⟨by rw[hcv,hbad2 qG (g2.trans hy) (fun h=>g3 (h.trans hz.symm))];rfl,hs.chg0⟩
       ·(refine aB (aA1 vq (cS qE J J J qG (aA1 vq (aC J (aA1 vq (aC J (aA1 vq (aC J (aB0 yq qG (aA1 vq (aA1 vq ?_)))))))))));(iterate 3 refine aA3 zq ?_);refine aA1 vq (aE (aH J (aD (aB (aA1 vq (aA1 vq (aE (aQ ?_)))))))))
        refine aA2 wq qF fun w hs=> ?_;exact⟨by rw[hcv,hbad (fun h=>g2 (h.2.trans hy.symm))];rfl,hs.chg0⟩
     ·rw[if_neg qG] at hstep hbad2;obtain⟨z,hz⟩:∃z,z=b:=⟨b,rfl⟩;by_cases g1:x1<0
      ·(refine aJ (aD (aB (aA1 vq (dU qE J J J qG (aA1 vq ?_)))));(iterate 3 refine aA3 zq ?_);refine aA1 vq (aA1 vq ?_);(iterate 3 refine aA3 zq ?_);refine aA1 vq (aE (aH J (aD (aB (aA1 vq (aA1 vq (aE (aQ ?_)))))))))
       refine aA2 wq qF fun w hs=> ?_;exact⟨by rw[hcv,hbad (fun h=>by omega)];rfl,hs.chg0⟩
      ·by_cases g2:x1=y
       ·by_cases g3:x2=z
        ·(refine aJ (aD (aB (aA1 vq (cS qE J J J qG (aA1 vq (aC J (aA1 vq (aC J (aA1 vq (aC J (aB1 yq qG ?_)))))))))));refine aA1 vq (aA1 vq (aC J (aA1 vq (aC J (aA1 vq (aC J (aB1 yq qG (aA1 vq (aE (aF J (aJ ?_)))))))))));refine aW (aB (aA1 vq (aA4 xq qG qG (aA1 vq (aE ?_))))))
         exact hK (i+1) _ _ (hstep qG (g2.trans hy) (g3.trans hz)) qG ⟨J,J,J,J,J,trivial⟩ (Sp.refl _)
        ·(refine aJ (aD (aB (aA1 vq (cS qE J J J qG (aA1 vq (aC J (aA1 vq (aC J (aA1 vq (aC J (aB1 yq qG ?_)))))))))));refine aA1 vq (aA1 vq (aC J (aA1 vq (aC J (aA1 vq (aC J (aB0 yq qG (aA1 vq (aE (aH J (aD ?_)))))))))));refine aB (aA1 vq (aA1 vq (aE (aQ ?_)))))
         refine aA2 wq qF fun w hs=> ?_;exact⟨by rw[hcv,hbad2 qG (g2.trans hy) (fun h=>g3 (h.trans hz.symm))];rfl,hs.chg0⟩
       ·(refine aJ (aD (aB (aA1 vq (cS qE J J J qG (aA1 vq (aC J (aA1 vq (aC J (aA1 vq (aC J (aB0 yq qG ?_)))))))))));refine aA1 vq (aA1 vq ?_);(iterate 3 refine aA3 zq ?_);refine aA1 vq (aE (aH J (aD (aB (aA1 vq (aA1 vq (aE (aQ ?_)))))))))
        refine aA2 wq qF fun w hs=> ?_;exact⟨by rw[hcv,hbad (fun h=>g2 (h.2.trans hy.symm))];rfl,hs.chg0⟩
    ·have hi0:i=0:=by omega
     clear hc;rw[if_pos hi0] at hstep hbad hbad2;obtain⟨y,hy⟩:∃y,y=a:=⟨a,rfl⟩;(refine aJ (aD (aD (aB ?_)));(iterate 3 refine aA1 vq ?_);refine aA4 xq qG qG (aA1 vq (aE ?_)));refine cP J (fun hc=> ?_) (fun hc=> ?_)
     ·have hn2:i+1<c.length:=by omega
      clear hc;have hm2:=hrc _ (List.getElem_mem hn2);rw[if_pos hn2] at hstep hbad2;refine bY _ [] (Sp.refl _) qI qI ?_;(refine bK qE J J J ?_;refine aB2 yq (aB2 yq (aB6 xq qG qG ?_)));(refine aB5 uq qG qG ?_;refine bA qE J J J (fun w hs=>RdI.at (RdE.keep hu hs.chg0) (i+1) hn2) ?_);rw[gX hn2] at hm2 ⊢;refine cR (val:= .tuple #[.int .i64 (rqL l (c.getD (i+1) 0)).1,.int .i64 (rqL l (c.getD (i+1) 0)).2]) qE J J J J (fun w hs=> ?_) ?_;exact mT w lo hi l _ (RdE.keep h hs.chg0) hl (c.getD (i+1) 0) hm2.1 hm2.2;(refine aB2 yq (fD qE J J J (fD qE J J J (aB2 yq (aT (aD ?_))))));generalize (rqL l (c.getD (i+1) 0)).1=z at *;have hz:z=z:=rfl;dsimp only[List.nil_append];by_cases g1:x1<0
      ·(refine aB (aA1 vq (dU qE J J J qG (aA1 vq ?_)));(iterate 3 refine aA3 zq ?_);refine aA1 vq (aA1 vq ?_);(iterate 3 refine aA3 zq ?_);refine aA1 vq (aE (aH J (aD (aB (aA1 vq (aA1 vq (aE (aQ ?_)))))))))
       refine aA2 wq qF fun w hs=> ?_;exact⟨by rw[hcv,hbad (fun h=>by omega)];rfl,hs.chg0⟩
      ·by_cases g2:x1=y
       ·by_cases g3:x2=z
        ·(refine aB (aA1 vq (cS qE J J J qG (aA1 vq (aC J (aA1 vq (aC J (aA1 vq (aC J (aB1 yq qG (aA1 vq (aA1 vq ?_)))))))))));refine aC J (aA1 vq (aC J (aA1 vq (aC J (aB1 yq qG (aA1 vq (aE (aF J (aJ (aW (aB ?_)))))))))));refine aA1 vq (aA4 xq qG qG (aA1 vq (aE ?_))))
         exact hK (i+1) _ _ (hstep qG (g2.trans hy) (g3.trans hz)) qG ⟨J,J,J,J,J,trivial⟩ (Sp.refl _)
        ·(refine aB (aA1 vq (cS qE J J J qG (aA1 vq (aC J (aA1 vq (aC J (aA1 vq (aC J (aB1 yq qG (aA1 vq (aA1 vq ?_)))))))))));refine aC J (aA1 vq (aC J (aA1 vq (aC J (aB0 yq qG (aA1 vq (aE (aH J (aD (aB (aA1 vq ?_)))))))))));refine aA1 vq (aE (aQ ?_)))
         refine aA2 wq qF fun w hs=> ?_;exact⟨by rw[hcv,hbad2 qG (g2.trans hy) (fun h=>g3 (h.trans hz.symm))];rfl,hs.chg0⟩
       ·(refine aB (aA1 vq (cS qE J J J qG (aA1 vq (aC J (aA1 vq (aC J (aA1 vq (aC J (aB0 yq qG (aA1 vq (aA1 vq ?_)))))))))));(iterate 3 refine aA3 zq ?_);refine aA1 vq (aE (aH J (aD (aB (aA1 vq (aA1 vq (aE (aQ ?_)))))))))
        refine aA2 wq qF fun w hs=> ?_;exact⟨by rw[hcv,hbad (fun h=>g2 (h.2.trans hy.symm))];rfl,hs.chg0⟩
     ·rw[if_neg qG] at hstep hbad2;obtain⟨z,hz⟩:∃z,z=b:=⟨b,rfl⟩;by_cases g1:x1<0
      ·(refine aJ (aD (aB (aA1 vq (dU qE J J J qG (aA1 vq ?_)))));(iterate 3 refine aA3 zq ?_);refine aA1 vq (aA1 vq ?_);(iterate 3 refine aA3 zq ?_);refine aA1 vq (aE (aH J (aD (aB (aA1 vq (aA1 vq (aE (aQ ?_)))))))))
       refine aA2 wq qF fun w hs=> ?_;exact⟨by rw[hcv,hbad (fun h=>by omega)];rfl,hs.chg0⟩
      ·by_cases g2:x1=y
       ·by_cases g3:x2=z
        ·(refine aJ (aD (aB (aA1 vq (cS qE J J J qG (aA1 vq (aC J (aA1 vq (aC J (aA1 vq (aC J (aB1 yq qG ?_)))))))))));refine aA1 vq (aA1 vq (aC J (aA1 vq (aC J (aA1 vq (aC J (aB1 yq qG (aA1 vq (aE (aF J (aJ ?_)))))))))));refine aW (aB (aA1 vq (aA4 xq qG qG (aA1 vq (aE ?_))))))
         exact hK (i+1) _ _ (hstep qG (g2.trans hy) (g3.trans hz)) qG ⟨J,J,J,J,J,trivial⟩ (Sp.refl _)
        ·(refine aJ (aD (aB (aA1 vq (cS qE J J J qG (aA1 vq (aC J (aA1 vq (aC J (aA1 vq (aC J (aB1 yq qG ?_)))))))))));refine aA1 vq (aA1 vq (aC J (aA1 vq (aC J (aA1 vq (aC J (aB0 yq qG (aA1 vq (aE (aH J (aD ?_)))))))))));refine aB (aA1 vq (aA1 vq (aE (aQ ?_)))))
         refine aA2 wq qF fun w hs=> ?_;exact⟨by rw[hcv,hbad2 qG (g2.trans hy) (fun h=>g3 (h.trans hz.symm))];rfl,hs.chg0⟩
       ·(refine aJ (aD (aB (aA1 vq (cS qE J J J qG (aA1 vq (aC J (aA1 vq (aC J (aA1 vq (aC J (aB0 yq qG ?_)))))))))));refine aA1 vq (aA1 vq ?_);(iterate 3 refine aA3 zq ?_);refine aA1 vq (aE (aH J (aD (aB (aA1 vq (aA1 vq (aE (aQ ?_)))))))))
        refine aA2 wq qF fun w hs=> ?_;exact⟨by rw[hcv,hbad (fun h=>g2 (h.2.trans hy.symm))];rfl,hs.chg0⟩
   ·obtain rfl:i=c.length:=by omega
    have he:=hI.end;(refine aZ _ J (aD (aB ?_));(iterate 5 refine aA1 vq ?_);refine aE (aQ ?_));refine aA2 wq qF fun w hs=> ?_
    refine⟨?_,hs.chg0⟩;rw[hcv,he];simp[eW]
 ·(refine aA1 vq (aE (aD (aB (aA1 vq (aB0 yq qG (aE (aH J (aD (aB ?_)))))))));(iterate 3 refine aA1 vq ?_);refine aE (aQ ?_))
  refine aA2 wq qF fun w hs=> ?_;exact⟨by rw[chain_no h2];rfl,hs.chg0⟩
def regA(l:List (List Int)):List (List Int):=if cY l=0 then cA l (nV l) else[]
theorem regretsA_ca(w:World)(lo hi:Nat)(v:Value)(l:List (List Int))(h:RdII w lo hi v l):Ca Tryz.prog 50 [v] w fun x w'=>∃y:Value×List (Value×List Int),(x= .tuple #[y.1,.int .i64 (cY l)]∧y.2.map (·.2)=regA l)∧Sat w M0 [un (cF 3 y.2),.ow y.1 22 1 y.2.length (y.2.map (·.1))] w':=by
 by_cases ht:cY l=0
 ·have hl:TabOk l (nV l):=fI.1 ht;refine(regrets_ca w lo hi v l (nV l) h hl).mono fun x w' ⟨y,⟨h1,h2⟩,h3⟩=>⟨y,⟨by rw[h1,ht],by rw[h2];exact(if_pos ht).symm⟩,?_⟩
  have:y.2.length=l.length:=by have:=congrArg List.length h2;rw[dS,List.length_map] at this;exact this
  rw[this];exact h3
 ·refine cM (Sat.nil w M0) Tryz.func50 J (by simp[Tryz.ntmps50]) ?_;(refine aD (aB (aA1 vq (aA1 vq (aE (aD (aD (aB (aA1 vq ?_)))))))));refine aI (val:= .int .i64 (cY l)) qE J J J J (fun w hs=> ?_) ?_;exact pX w lo hi _ l (RdII.keep h hs.chg0);(refine aA1 vq (aE (aD (aB (aA1 vq (aB0 yq qG (aE (aH J (aD (aB ?_)))))))));(iterate 3 refine aA1 vq ?_);refine aE (aQ ?_));refine aA2 wq qF fun w hs=> ?_;exact⟨(.slice none 0 0,[]),⟨J,by rw[regA,if_neg ht];rfl⟩,Sat.un_nil (Sat.ownil hs _ _)⟩
theorem rregA_ca(w:World)(lo hi:Nat)(v:Value)(l:List (List Int))(h:RdII w lo hi v l)(hlen:l.length≤maxLen)(hrl:∀r∈l,r.length≤maxLen):Ca Tryz.prog 51 [v] w fun x w'=>∃y:Value×List (Value×List Int),(x= .tuple #[y.1,.int .i64 (cY l)]∧y.2.map (·.2)=regA l)∧Sat w M0 [un (cF 3 y.2),.ow y.1 22 1 y.2.length (y.2.map (·.1))] w':=by
 obtain⟨va,vc,rfl,hva⟩:=RdII.outI h;refine cM (Sat.nil w M0) Tryz.func51 J (by simp[Tryz.ntmps51]) ?_;(refine aD (aB (aA1 vq (aA1 vq (aE (aD (aD (aB (aA1 vq ?_)))))))));refine aI (val:= .int .i64 (cY l)) qE J J J J (fun w hs=> ?_) ?_;exact rtable_ca w lo hi _ l (RdII.keep h hs.chg0) hlen hrl;by_cases ht:cY l=0
 ·have hl:TabOk l (nV l):=fI.1 ht;generalize hnn:nV l=n at hl;have hl1:=hl.l1;have hl2:=hl.l2;have hn1:=hl.n1;have hn2:=hl.n2;have hrow:=fun k (hk:k<l.length)=>hl.len _ (List.getElem_mem hk)
  obtain⟨vb,vo,rfl⟩:=hva qG;have ea:regA l=cA l n:=by rw[regA,if_pos ht,hnn]
  have hRl:(cA l n).length=l.length:=dS l n;rw[ht,ea];(refine aA1 vq (aE (aD (aB (aA1 vq (aB1 yq qG (aE (aF J (aJ (aD (aB (aA1 vq ?_)))))))))));refine aE (aD (aD (aB (aA1 vq (aE (aK ?_)))))));refine cQ (H':=[un (cF 3 []),.ow (.slice none 0 0) 22 1 0 (([]:List (Value×List Int)).map (·.1))]) (fun w' hs=>Sat.un_nil (Sat.ownil hs 22 1)) ?_
  refine bD (σ:=Value×List (Value×List Int)) (fun y=>y.2.length≤l.length∧y.2.map (·.2)=(cA l n).take y.2.length) (fun y=>l.length-y.2.length) (fun y=>[(0,.slice (some ⟨vb,vo,none⟩) l.length vc),(5,y.1),(6,.int .i64 y.2.length)])
   (fun y=>[un (cF 3 y.2),.ow y.1 22 1 y.2.length (y.2.map (·.1))]) (.slice none 0 0,[]) ⟨by simp,by simp⟩ ⟨rfl,rfl,rfl,trivial⟩ (Sp.refl _) ?_
  rintro⟨va,xs⟩ ⟨hk,hxs⟩ K1 hK1;obtain⟨k,hkk⟩:∃k,k=xs.length:=⟨_,rfl⟩;dsimp only at hk hxs hK1 ⊢;rw[←hkk] at hk hxs ⊢;(refine aD (aD (aB ?_));(iterate 4 refine aA1 vq ?_);refine aE ?_);refine cP J (fun hc=> ?_) (fun hc=> ?_)
  ·have hk2:k<l.length:=by omega
   clear hc;obtain⟨bk,ok,ck,hrk,hck⟩:=RdII.rowS h k hk2 (hrow k hk2) qG;obtain⟨row,hrw,hrm,hrn⟩:=reg_getD (n:=n) hk2;have hge:(cA l n)[k]'qG=row:=by rw[←hrw,List.getD_eq_getElem?_getD,List.getElem?_eq_getElem qG];rfl
   have hg:∀s (hs:s<n),gt (cA l n) k s=row[s]'qG:=fun s hs=>by
    unfold gt;rw[hrw,List.getD_eq_getElem?_getD,List.getElem?_eq_getElem qG]
    rfl
   (refine aJ (aD (aK (aD (aB (aA1 vq (aE (aD (aD (aB (aA1 vq (aE ?_)))))))))));refine aK ?_)
   refine cQ (H':=[.ow (.slice none 0 0) 3 1 0 (bF (row.take 0)),un (cF 3 xs),.ow va 22 1 k (xs.map (·.1))]) (fun w' hs=>by rw[List.take_zero];exact Sat.ownil hs 3 1) ?_
   refine bD (σ:=Nat×Value) (fun s=>s.1≤n) (fun s=>n-s.1) (fun s=>[(0,.slice (some ⟨vb,vo,none⟩) l.length vc),(5,va),(6,.int .i64 k),(7,s.2),(8,.int .i64 s.1)])
    (fun s=>[.ow s.2 3 1 s.1 (bF (row.take s.1)),un (cF 3 xs),.ow va 22 1 k (xs.map (·.1))]) (0,.slice none 0 0) (by simp) ⟨rfl,rfl,rfl,rfl,rfl,trivial⟩ (Sp.refl _) ?_
   rintro⟨s,u⟩ hsn K2 hK2;dsimp only at hsn hK2 ⊢;(refine aD (aD (aB ?_));(iterate 3 refine aA1 vq ?_));refine aA5 uq qG qG ?_;refine bC qE J J J (fun w hs=>hck _ hs.chg0) ?_;(refine aA1 vq (aA1 vq (aE ?_)));refine cP J (fun hc=> ?_) (fun hc=> ?_)
   ·have hs2:s<n:=by omega
    clear hc;(refine aJ (aD (aK (aB ?_)));(iterate 4 refine aA1 vq ?_));refine aI (val:= .int .i64 (gt (cA l n) k s)) qE J J J J (fun w hs=> ?_) ?_;exact regret_ca w lo hi _ l n k s (RdII.keep h hs.chg0) hl hk2 hs2;rw[hg s hs2];refine cI 3 [.int .i64 (row[s]'qG)] J qI J (fun bn=> ?_);refine bU (q:=1) (news:=[.int .i64 (row[s]'qG)]) slI J J J (fun v'=>by repeat constructor) (fun w' hs=>⟨_,_,Blk.rdN (hs.blk (b:=bn) qF) J⟩) (by simp[dA]) qG qG (fun u'=> ?_);(refine aA1 vq (aE (aW (aB (aA1 vq (aA4 xq qG qG (aA1 vq (aE ?_))))))));exact hK2 (s+1,u') _ _ (by dsimp only;omega) (by dsimp only;omega) ⟨J,J,J,J,J,trivial⟩ (by dsimp only;rw[show bF (row.take (s+1))=bF (row.take s)++[.int .i64 (row[s]'qG)] from by rw[List.take_succ_eq_append_getElem qG,bF,List.map_append];rfl];repeat constructor)
   ·obtain rfl:s=n:=by omega
    clear hc hK2;rw[show row.take s=row from List.take_of_length_le qG];refine dO (fun w hs=>hs.ownSome (v:=u) qF qG) ?_;rintro⟨g,gc,rfl⟩;(refine aZ _ J (aB (aA1 vq (aA1 vq ?_))));refine cI 22 [aB7 g s gc] J qI J (fun bn=> ?_);refine bU (q:=1) (news:=[aB7 g s gc]) slII J J J (fun v'=>by repeat constructor) (fun w' hs=>⟨_,_,Blk.rdN (hs.blk (b:=bn) qF) J⟩) (by simp[dA]) qG qG (fun u'=> ?_);(refine aA1 vq (aE (aW (aB (aA1 vq (aA4 xq qG qG (aA1 vq (aE ?_))))))));have elen:(xs++[(aB7 g s gc,row)]).length=k+1:=by simp[hkk]
    refine cQ (H':=[un (cF 3 (xs++[(aB7 g s gc,row)])),.ow u' 22 1 (k+1) (xs.map (·.1)++[aB7 g s gc])]) (fun w' hs=>by
     refine mS ?_;rw[hrn];exact hs.sp qF) ?_
    exact hK1 (u',xs++[(aB7 g s gc,row)]) _ _ ⟨by dsimp only;rw[elen];omega,by dsimp only;rw[elen,List.map_append,hxs,List.take_succ_eq_append_getElem qG,hge];rfl⟩ (by dsimp only;rw[elen];omega) ⟨J,J,dI J (by dsimp only;rw[elen];omega),trivial⟩ (by dsimp only;rw[elen,List.map_append];exact Sp.refl _)
  ·have hkl:k=l.length:=by omega
   rw[show(cA l n).take k=cA l n from List.take_of_length_le qG] at hxs;(refine aZ _ J (aD (aB ?_));(iterate 3 refine aA1 vq ?_);refine aE (aQ ?_));refine aA2 wq qF fun w hs=> ?_
   exact⟨(va,xs),⟨J,hxs⟩,by rw[←hkk];exact hs.sp qF⟩
 ·(refine aA1 vq (aE (aD (aB (aA1 vq (aB0 yq qG (aE (aH J (aD (aB ?_)))))))));(iterate 3 refine aA1 vq ?_);refine aE (aQ ?_))
  refine aA2 wq qF fun w hs=> ?_;exact⟨(.slice none 0 0,[]),⟨J,by rw[regA,if_neg ht];rfl⟩,Sat.un_nil (Sat.ownil hs _ _)⟩
theorem brk_drop(rs:List (List Int))(most:Int)(br:List Int){i:Nat}(h:i+1<br.length):brkF rs most (br.drop i)=if br.getD (i+1) 0≤br.getD i 0 then false else if rs.any (fun row=>lD row most (br.getD i 0).toNat (br.getD (i+1) 0).toNat) then false else brkF rs most (br.drop (i+1)):=by
 rw[List.drop_eq_getElem_cons (show i<br.length by omega),List.drop_eq_getElem_cons h,gX (l:=br) (i:=i) qG,gX h]
 (conv=>lhs;unfold brkF)<;>rfl
theorem brk_last(rs:List (List Int))(most:Int)(br:List Int){i:Nat}(h:br.length≤i+1):brkF rs most (br.drop i)=true:=by
 by_cases e:i<br.length
 ·rw[List.drop_eq_getElem_cons e,List.drop_of_length_le h];unfold brkF
  rfl
 ·rw[List.drop_of_length_le qG];unfold brkF
  rfl
theorem jE{α:Type}(p:α→Bool)(l:List α){i:Nat}(hi:i<l.length)(h:(l.take i).any p=false)(hx:p l[i]=false):(l.take (i+1)).any p=false:=by
 rw[List.take_succ_eq_append_getElem hi,List.any_append,h];simp[hx]
theorem any_stop{α:Type}(p:α→Bool)(l:List α){i:Nat}(hi:i<l.length)(hx:p l[i]=true):l.any p=true:=List.any_eq_true.2 ⟨_,List.getElem_mem hi,hx⟩
theorem rbreaks_ca(w:World)(lo hi lo2 hi2:Nat)(v u:Value)(l:List (List Int))(most:Int)(br:List Int)(h:RdII w lo hi v l)(hlen:l.length≤maxLen)(hrl:∀r∈l,r.length≤maxLen)(hu:RdI w lo2 hi2 u br)(hbl:br.length≤1000000):Ca Tryz.prog 60 [v,.int .i64 most,u] w fun x w'=>x= .tuple #[.bool (eS l most br).1,.int .i64 (eS l most br).2]∧Chg [] w w':=by
 obtain⟨va,vc,rfl,hva⟩:=RdII.outI h;obtain⟨ua,uc,rfl,hsu⟩:=RdI.outI hu;refine cM (Sat.nil w M0) Tryz.func60 J (by simp[Tryz.ntmps60]) ?_;(refine aD (aB (aA1 vq (aA1 vq (aE (aD (aD (aB (aA1 vq (aA1 vq ?_))))))))));refine aI (val:= .int .i64 (cJ l most)) qE J J J J (fun w hs=> ?_) ?_;exact pE w lo hi _ l most (RdII.keep h hs.chg0) hlen hrl;by_cases h0:cJ l most=0
 ·obtain⟨hl,hm0,hm1⟩:=eA.1 h0;have hun:=brk_un (br:=br) h0;have hye:=brk_yes (br:=br) h0;generalize hnn:nV l=n at hl hun hye;have hl1:=hl.l1;have hl2:=hl.l2;have hn1:=hl.n1;have hn2:=hl.n2;have hrow:=fun k (hk:k<l.length)=>hl.len _ (List.getElem_mem hk)
  obtain⟨vb,vo,rfl⟩:=hva qG;obtain⟨b0,o0,c0,hr0,hc0⟩:=RdII.rowS h 0 qG (hrow 0 qG) qG;rw[h0];(refine aA1 vq (aE (aD (aB (aA1 vq (aB1 yq qG (aE (aF J (aJ (aD (aD (aB ?_)))))))))));refine aA1 vq (aE (aK ?_)));refine bD (σ:=Nat) (fun i=>i≤br.length∧(br.take i).all (fun s=>inB s 0 ((n:Int)-1))=true) (fun i=>br.length-i) (fun i=>[(0,.slice (some ⟨vb,vo,none⟩) l.length vc),(1,.int .i64 most),(2,.slice ua br.length uc),(9,.int .i64 i)]) (fun _=>[]) 0 ⟨by omega,by simp⟩ ⟨J,J,J,J,trivial⟩ qF ?_;rintro i ⟨hi1,hall⟩ K hK;(refine aD (aD (aB ?_));(iterate 4 refine aA1 vq ?_);refine aE ?_);refine cP J (fun hc=> ?_) (fun hc=> ?_)
  ·have hi2':i<br.length:=by omega
   clear hc;obtain⟨ub,uo,hab⟩:=hsu qG;cases hab
   (refine aJ (aD (aK (aD ?_))))
   refine bY _ [] (Sp.refl _) qI qI ?_;(refine aB2 yq (aB2 yq ?_));(refine aB5 uq qG qG ?_;refine bA qE J J J (fun w hs=>RdI.at (RdE.keep hu hs.chg0) i hi2') ?_);(refine aB2 yq ?_);refine aB5 uq qG qG ?_;refine bA qE J J J (fun w hs=>hc0 _ hs.chg0) ?_;(refine aB2 yq (aB6 xq qG qG ?_));refine cR (val:= .bool (!(inB br[i] 0 ((n:Int)-1)))) qE J J J J (fun w hs=> ?_) ?_;exact fS br[i] 0 ((n:Int)-1) w;cases hx:inB br[i] 0 ((n:Int)-1) with
   | false=>
    (refine aT (aH J (aD (aB (aA1 vq (aA1 vq (aE (aQ ?_))))))))
    refine aA2 wq qF fun w hs=> ?_;exact⟨by rw[hun (fN _ _ hi2' hx)];rfl,hs.chg0⟩
   | true=>
    (refine aT (aF J (aJ (aW (aB (aA1 vq (aA4 xq qG qG (aA1 vq (aE ?_)))))))))
    exact hK (i+1) _ _ ⟨by omega,kS _ _ hi2' hall hx⟩ qG ⟨J,J,J,J,trivial⟩ (Sp.refl _)
  ·obtain rfl:i=br.length:=by omega
   rw[List.take_length] at hall;clear hc hK hi1
   have hbr:∀j (hj:j<br.length),0≤br.getD j 0∧br.getD j 0<n:=fun j hj=>by
    have:=bX.1 (List.all_eq_true.1 hall _ (List.getElem_mem hj));rw[←gX hj];omega
   rw[hye hall];(refine aZ _ J (aD (aD (aB (aA1 vq (aE (aK ?_)))))));refine bD (σ:=Nat) (fun i=>(i+1≤br.length∨i=0)∧brkF (cA l n) most (br.drop i)=brkF (cA l n) most br) (fun i=>br.length-i) (fun i=>[(0,.slice (some ⟨vb,vo,none⟩) l.length vc),(1,.int .i64 most),(2,.slice ua br.length uc),(10,.int .i64 (i+1:Nat))]) (fun _=>[]) 0 ⟨by omega,J⟩ ⟨J,J,J,J,trivial⟩ (Sp.refl _) ?_;rintro i ⟨hi1,hdr⟩ K hK;(refine aD (aD (aB ?_));(iterate 4 refine aA1 vq ?_);refine aE ?_);refine cP J (fun hc=> ?_) (fun hc=> ?_)
   ·have hi2':i+1<br.length:=by omega
    have hi3:i<br.length:=by omega
    clear hc;obtain⟨ub,uo,hab⟩:=hsu qG;cases hab
    have hb1:=hbr i hi3;have hb2:=hbr (i+1) hi2';rw[brk_drop _ _ _ hi2'] at hdr;(refine aJ (aD (aK (aD (aD ?_)))));refine bY _ [] (Sp.refl _) qI qI ?_;(refine aB2 yq (aB2 yq ?_));(refine aB5 uq qG qG ?_;refine bA qE J J J (fun w hs=>RdI.at (RdE.keep hu hs.chg0) (i+1) hi2') ?_);rw[gX hi2'];(refine aB2 yq (aB2 yq (aB6 xq qG qG ?_)));rw[show((i+1:Nat):Int)-1=(i:Int) from by omega];(refine aB5 uq qG qG ?_;refine bA qE J J J (fun w hs=>RdI.at (RdE.keep hu hs.chg0) i hi3) ?_);rw[gX hi3];by_cases hle:br.getD (i+1) 0≤br.getD i 0
    ·rw[if_pos hle] at hdr;(refine qf_leqT qE J J J qG (aT (aH J (aD (aB (aA1 vq (aA1 vq (aE (aQ ?_)))))))));refine aA2 wq qF fun w hs=> ?_
     exact⟨by rw[←hdr];rfl,hs.chg0⟩
    ·rw[if_neg hle] at hdr;obtain⟨p,hp⟩:=Int.eq_ofNat_of_zero_le hb1.1;obtain⟨q,hq⟩:=Int.eq_ofNat_of_zero_le hb2.1;rw[hp,hq,Int.toNat_natCast,Int.toNat_natCast] at hdr;rw[hp,hq] at hle;rw[hp] at hb1;rw[hq] at hb2;(refine qf_leqF qE J J J qG (aT (aF J (aJ (aD (aB (aA1 vq (aE (aK ?_)))))))));refine bD (σ:=Nat) (fun k=>k≤l.length∧((cA l n).take k).any (fun row=>lD row most p q)=false) (fun k=>l.length-k) (fun k=>[(0,.slice (some ⟨vb,vo,none⟩) l.length vc),(1,.int .i64 most),(2,.slice (some ⟨ub,uo,none⟩) br.length uc),(10,.int .i64 (i+1:Nat)),(11,.int .i64 k)]) (fun _=>[]) 0 ⟨by omega,by simp⟩ ⟨J,J,J,J,J,trivial⟩ qF ?_;rintro k ⟨hk,hany⟩ K2 hK2;(refine aD (aD (aB ?_));(iterate 4 refine aA1 vq ?_);refine aE ?_);refine cP J (fun hc=> ?_) (fun hc=> ?_)
     ·have hk2:k<l.length:=by omega
      clear hc;have hk3:k<(cA l n).length:=by rw[dS];exact hk2
      have hge:(cA l n).getD k []=(cA l n)[k]:=by rw[List.getD_eq_getElem?_getD,List.getElem?_eq_getElem hk3];rfl
      (refine aJ (aD (aK (aD ?_))))
      refine bY _ [] (Sp.refl _) qI qI ?_
      ((iterate 4 refine aB2 yq ?_);refine aB6 xq qG qG ?_)
      rw[show((i+1:Nat):Int)-1=(i:Int) from by omega];(refine aB5 uq qG qG ?_;refine bA qE J J J (fun w hs=>RdI.at (RdE.keep hu hs.chg0) i hi3) ?_);rw[gX hi3,hp];(refine aB2 yq (aB2 yq ?_));(refine aB5 uq qG qG ?_;refine bA qE J J J (fun w hs=>RdI.at (RdE.keep hu hs.chg0) (i+1) hi2') ?_);rw[gX hi2',hq];(refine aB2 yq ?_);refine cR (val:= .bool (lD ((cA l n)[k]) most p q)) qE J J J J (fun w hs=> ?_) ?_;exact by have:=pT w lo hi _ l n k p q most (RdII.keep h hs.chg0) hl hk2 qG qG;rw[hge] at this;exact this
      cases hx:lD ((cA l n)[k]) most p q with
      | true=>
       rw[any_stop (fun row=>lD row most p q) _ hk3 hx] at hdr;(refine aT (aH J (aD (aB (aA1 vq (aA1 vq (aE (aQ ?_))))))));refine aA2 wq qF fun w hs=> ?_
       exact⟨by rw[←hdr];rfl,hs.chg0⟩
      | false=>
       (refine aT (aF J (aJ (aW (aB (aA1 vq (aA4 xq qG qG (aA1 vq (aE ?_)))))))))
       exact hK2 (k+1) _ _ ⟨by omega,jE (fun row=>lD row most p q) _ hk3 hany hx⟩ qG ⟨J,J,J,J,J,trivial⟩ (Sp.refl _)
     ·have hkl:k=l.length:=by omega
      rw[List.take_of_length_le (by rw[dS];omega)] at hany;rw[hany] at hdr;(refine aZ _ J (aW (aB (aA1 vq (aA4 xq qG qG (aA1 vq (aE ?_)))))));exact hK (i+1) _ _ ⟨by omega,hdr⟩ qG ⟨J,J,J,J,trivial⟩ (Sp.refl _)
   ·rw[brk_last _ _ _ qG] at hdr;rw[←hdr];(refine aZ _ J (aD (aB ?_));(iterate 5 refine aA1 vq ?_);refine aE (aQ ?_));refine aA2 wq qF fun w hs=> ?_
    refine⟨?_,hs.chg0⟩;cases br with
    | nil=>rfl
    | cons x br=>simp[eW]
 ·(refine aA1 vq (aE (aD (aB (aA1 vq (aB0 yq qG (aE (aH J (aD (aB ?_)))))))));(iterate 3 refine aA1 vq ?_);refine aE (aQ ?_))
  refine aA2 wq qF fun w hs=> ?_;exact⟨by rw[brk_no h0];rfl,hs.chg0⟩
theorem rsing_ca(w:World)(lo hi:Nat)(v:Value)(st:List Int)(h:RdI w lo hi v st):Ca Tryz.prog 71 [v] w fun x w'=>x= .int .i64 (cD st)∧Chg [] w w':=by
 obtain⟨a,c,rfl,ha⟩:=RdI.outI h;refine cM (Sat.nil w M0) Tryz.func71 J (by simp[Tryz.ntmps71]) ?_;by_cases g0:inB st.length 2 16=true∧st.length%2=0
 ·have g1:=bX.1 g0.1;have g2:=g0.2
  have hn:¬(inB st.length 2 16&&(!decide (st.length%2=1)&&true))=false:=by
   have:¬st.length%2=1:=by omega
   rw[g0.1];simp[this]
  (refine aD (aB (aA1 vq (aE (aD (aD (aB (aA1 vq (aA1 vq (cS qE J J J qG (aA1 vq (aC J ?_)))))))))));refine aA1 vq (aC J (aA1 vq (aC J (aB3 yq qG (aA1 vq (aA1 vq (aC J (aA1 vq (aC J (aA1 vq (aC J ?_)))))))))));refine cV J J J qG qG (aC J (aB1 yq qG (aA1 vq (aE (aF J (aJ (aD (aD (aB (aA1 vq (aE ?_)))))))))));refine aK ?_)
  refine bD (σ:=Nat) (fun k=>k≤st.length∧(st.take k).any (fun n:Int=> !(inB n 0 100000))=false) (fun k=>st.length-k) (fun k=>[(0,.slice a st.length c),(3,.int .i64 k)]) (fun _=>[]) 0 ⟨by omega,by simp⟩ ⟨J,J,trivial⟩ qF ?_;rintro k ⟨hk,hany⟩ K hK;(refine aD (aD (aB ?_));(iterate 4 refine aA1 vq ?_);refine aE ?_);refine cP J (fun hc=> ?_) (fun hc=> ?_)
  ·have hk2:k<st.length:=by omega
   clear hc;obtain⟨ab,ao,rfl⟩:=ha qG;(refine aJ (aD (aK (aD (aB (aA1 vq (aA1 vq ?_)))))));(refine aA5 uq qG qG ?_;refine bC qE J J J (fun w hs=>RdI.at (h.keep hs.chg0) k hk2) ?_);refine aI (val:= .bool (!(inB st[k] 0 100000))) qE J J J J (fun w hs=> ?_) ?_;exact fS st[k] 0 100000 w;cases hx:inB st[k] 0 100000 with
   | true=>
    (refine aE (aF J (aJ (aW (aB (aA1 vq (aA4 xq qG qG (aA1 vq (aE ?_)))))))))
    exact hK (k+1) _ _ ⟨by omega,jE (fun n:Int=> !(inB n 0 100000)) _ hk2 hany (by rw[hx];rfl)⟩ qG ⟨J,J,trivial⟩ qF
   | false=>
    have e:cD st=3:=by
     unfold cD
     rw[if_neg hn,if_pos (by
      rw[←Bool.not_eq_true];intro h5;have:=List.all_eq_true.1 h5 _ (List.getElem_mem hk2);rw[hx] at this;cases this)]
    (refine aE (aH J (aD (aB (aA1 vq (aE (aQ ?_)))))))
    refine aA2 wq qF fun w hs=> ?_;exact⟨by rw[e];rfl,hs.chg0⟩
  ·obtain rfl:k=st.length:=by omega
   rw[List.take_length] at hany
   have e:cD st=0:=by
    unfold cD
    rw[if_neg hn,if_neg (by
     rw[Bool.not_eq_false];refine List.all_eq_true.2 fun x hx=> ?_
     have:=List.any_eq_false.1 hany x hx;simpa using this)]
   (refine aZ _ J (aD (aB (aA1 vq (aE (aQ ?_))))))
   refine aA2 wq qF fun w hs=> ?_;exact⟨by rw[e];rfl,hs.chg0⟩
 ·have e:cD st=2:=by
   unfold cD;rw[if_pos ?_];cases h1:inB st.length 2 16 with
   | false=>rfl
   | true=>
    have h2:¬st.length%2=0:=fun h=>g0 ⟨h1,h⟩
    have h3:st.length%2=1:=by omega
    simp[h3]
  by_cases c1:st.length<2
  ·(refine aD (aB (aA1 vq (aE (aD (aD (aB (aA1 vq (aA1 vq (dU qE J J J qG (aA1 vq ?_))))))))));(iterate 3 refine aA3 zq ?_);refine aA1 vq (aA1 vq ?_);(iterate 4 refine aA3 zq ?_);refine aA1 vq (aE (aH J (aD (aB (aA1 vq (aE (aQ ?_))))))))
   refine aA2 wq qF fun w hs=> ?_;exact⟨by rw[e];rfl,hs.chg0⟩
  ·by_cases c2:16<st.length
   ·(refine aD (aB (aA1 vq (aE (aD (aD (aB (aA1 vq (aA1 vq (cS qE J J J qG (aA1 vq (aC J ?_)))))))))));refine aA1 vq (aC J (aA1 vq (aC J (aB4 yq qG (aA1 vq (aA1 vq ?_))))));(iterate 4 refine aA3 zq ?_);refine aA1 vq (aE (aH J (aD (aB (aA1 vq (aE (aQ ?_))))))))
    refine aA2 wq qF fun w hs=> ?_;exact⟨by rw[e];rfl,hs.chg0⟩
   ·have c3:¬st.length%2=0:=fun h=>g0 ⟨bX.2 qG,h⟩
    (refine aD (aB (aA1 vq (aE (aD (aD (aB (aA1 vq (aA1 vq (cS qE J J J qG (aA1 vq (aC J ?_)))))))))));refine aA1 vq (aC J (aA1 vq (aC J (aB3 yq qG (aA1 vq (aA1 vq (aC J (aA1 vq (aC J (aA1 vq (aC J ?_)))))))))));refine cV J J J qG qG (aC J (aB0 yq qG (aA1 vq (aE (aH J (aD (aB (aA1 vq (aE (aQ ?_)))))))))))
    refine aA2 wq qF fun w hs=> ?_;exact⟨by rw[e];rfl,hs.chg0⟩
theorem gapBad_iff(st:List Int)(p:Option Int)(g:Int×Int):eK st p g=true↔(g.2≤g.1∨(∃x,p=some x∧g.1<x)∨jK st g.1%2=0∨jK st g.1+fF st g.2≠st.length):=by
 unfold eK;cases p with
 | none=>simp
 | some x=>simp
theorem rgaps_ca(w:World)(lo hi lo2 hi2:Nat)(v u:Value)(st:List Int)(gs:List (Int×Int))(h:RdI w lo hi v st)(hu:RdS w lo2 hi2 u gs)(hg0:gs.length≤1000000):Ca Tryz.prog 68 [v,u] w fun x w'=>x= .tuple #[.int .i64 (jW st gs).1,.int .i64 (jW st gs).2]∧Chg [] w w':=by
 obtain⟨a,c,rfl,ha⟩:=RdI.outI h;obtain⟨ga,gc,rfl,hga⟩:=RdS.outI hu;refine cM (Sat.nil w M0) Tryz.func68 J (by simp[Tryz.ntmps68]) ?_;(refine aD (aB (aA1 vq (aA1 vq (aE (aD (aD (aB (aA1 vq ?_)))))))));refine aI (val:= .int .i64 (cD st)) qE J J J J (fun w hs=> ?_) ?_;exact rsing_ca w lo hi _ st (RdE.keep h hs.chg0);by_cases he:cD st=0
 ·have hs0:=gP.1 he;have hl1:=hs0.l1;have hl2:=hs0.l2;obtain⟨ab,ao,rfl⟩:=ha qG;by_cases hg:16<gs.length
  ·(refine aA1 vq (aE (aD (aB (aA1 vq (aB1 yq qG (aE (aF J (aJ (aD (aD (aB ?_)))))))))));refine aA1 vq (aA1 vq (aB4 yq qG (aE (aH J (aD (aB (aA1 vq (aA1 vq (aE (aQ ?_)))))))))))
   refine aA2 wq qF fun w hs=> ?_;exact⟨by unfold jW;rw[if_neg (by simpa using he),if_pos hg];rfl,hs.chg0⟩
  ·have hgv:jW st gs=match jZ st none gs with|some s=>(s,0)|none=>(0,8):=by unfold jW;rw[if_neg (by simpa using he),if_neg hg]<;>rfl
   rw[hgv];(refine aA1 vq (aE (aD (aB (aA1 vq (aB1 yq qG (aE (aF J (aJ (aD (aD (aB ?_)))))))))));refine aA1 vq (aA1 vq (aB3 yq qG (aE (aF J (aJ (aD (aB (aA1 vq (aE (aD (aD ?_)))))))))));refine aB (aA1 vq (aE (aK ?_))))
   refine bD (σ:=Nat×Int) (fun y=>y.1≤gs.length∧jZ st none gs=(jZ st (fH gs y.1) (gs.drop y.1)).map (fun s=>s+y.2)∧0≤y.2∧y.2≤100000*y.1) (fun y=>gs.length-y.1)
    (fun y=>[(0,.slice (some ⟨ab,ao,none⟩) st.length c),(1,.slice ga gs.length gc),(7,.int .i64 y.2),(8,.int .i64 y.1)]) (fun _=>[]) (0,0) ⟨by simp only;omega,by simp[fH],by simp,by simp⟩ ⟨rfl,rfl,rfl,rfl,trivial⟩ qF ?_
   rintro⟨k,sum⟩ ⟨hk,hF,hs1,hs2⟩ K hK;dsimp only at hk hF hs1 hs2 ⊢;(refine aD (aD (aB ?_));(iterate 4 refine aA1 vq ?_);refine aE ?_);refine cP J (fun hc=> ?_) (fun hc=> ?_)
   ·have hk2:k<gs.length:=by omega
    clear hc;obtain⟨gb,go,rfl⟩:=hga qG;(refine aJ (aD (aK (aD (aB (aA1 vq (aA1 vq ?_)))))));refine aA5 uq qG qG ?_;refine eJ qE J J J J (fun w hs=>RdS.at (RdE.keep hu hs.chg0) k hk2) ?_;rw[List.drop_eq_getElem_cons hk2,gapsF_cons] at hF;have hbd:=gap_bd hs0 (p:=fH gs k) (g:=gs[k]);have hin:=ins_iff (st:=st) (g:=gs[k])
    have hnext:fH gs (k+1)=some gs[k].2:=by
     unfold fH;rw[if_neg qG,Nat.add_sub_cancel,List.getD_eq_getElem?_getD,List.getElem?_eq_getElem hk2]
     rfl
    have hprev:0<k→∃hk':k-1<gs.length,fH gs k=some (gs[k-1]).2:=fun h=>⟨by omega,by
     unfold fH;rw[if_neg qG,List.getD_eq_getElem?_getD,List.getElem?_eq_getElem (show k-1<gs.length by omega)]
     rfl⟩
    have hprev0:k=0→fH gs k=none:=fun h=>if_pos h
    have hbad:eK st (fH gs k) gs[k]=true→jZ st none gs=none:=fun h=>by rw[hF,if_pos h];rfl
    have hgood:eK st (fH gs k) gs[k]=false→jZ st none gs=(jZ st (fH gs (k+1)) (gs.drop (k+1))).map (fun s=>s+(sum+gs[k].2-gs[k].1)):=fun h=>by
     rw[hF,if_neg (by rw[h];simp),hnext,Option.map_map]
     congr 1
     funext s
     show s+(gs[k].2-gs[k].1)+sum=_
     omega
    have hbi:=gapBad_iff st (fH gs k) gs[k];generalize hgk:gs[k]=gk at *;obtain⟨gl,gh⟩:=gk;dsimp only at hbd hin hnext hbad hgood hbi ⊢;refine bJ zero40 J (fun b9=> ?_);by_cases h1:gh≤gl
    ·(refine aA6 uq qF J ?_;refine aE (aD (aD ?_)))
     refine bY _ [] (Sp.refl _) qI qI ?_;(refine aB2 yq ?_;refine aX qE J J J ?_;refine aB2 yq ?_;refine aX qE J J J ?_;refine qf_geqT qE J J J qG (aB2 yq ?_);(iterate 3 refine eF J J J ?_);(iterate 9 refine qf_gnone J J ?_);refine eF J J J (aB2 yq (aT (aH J (aD (aB (aA1 vq (aA1 vq (aE (aQ ?_))))))))));refine aA2 wq qF fun w hs=> ?_;exact⟨by rw[hbad (hbi.2 (.inl h1))];rfl,hs.chg0⟩
    have hlt:gl<gh:=by omega
    by_cases hk0:k=0
    ·have hp0:=hprev0 hk0;have hnp:¬∃x,fH gs k=some x∧gl<x:=by rw[hp0];rintro⟨x,hx,_⟩;cases hx
     (refine aA6 uq qF J ?_;refine aE (aD (aD ?_)))
     refine bY _ [] (Sp.refl _) qI qI ?_;(refine aB2 yq ?_;refine aX qE J J J ?_;refine aB2 yq ?_;refine aX qE J J J ?_;refine oB qE J J J qG (aB2 yq (aN J (aB2 yq (aN J (jH qE J J J qG (aN J (aB2 yq ?_)))))));(iterate 9 refine eF J J J ?_);refine aN J (aB2 yq (aB2 yq (aT (aF J (aJ (aD (aB (aA1 vq (aE (aD (aD ?_)))))))))));refine aB (aA1 vq (aE (aK ?_))))
     refine bD (σ:=Nat) (fun y=>y≤st.length∧(st.take y).any (fun s=>decide (gl<s)&&decide (s<gh))=false) (fun y=>st.length-y)
      (fun y=>[(0,.slice (some ⟨ab,ao,none⟩) st.length c),(1,.slice (some ⟨gb,go,none⟩) gs.length gc),(7,.int .i64 sum),(8,.int .i64 k),(9,aB8 b9),(10,.int .i64 (jK (st.take y) gl)),(11,.int .i64 y)]) (fun _=>[.pt b9 [.int .i64 gl,.int .i64 gh] 40]) 0 ⟨by omega,by simp⟩ ⟨rfl,rfl,rfl,rfl,rfl,rfl,rfl,trivial⟩ qF ?_
     rintro y ⟨hy,hany⟩ K2 hK2;have hlc:jK (st.take y) gl≤y:=by unfold jK;exact Nat.le_trans List.countP_le_length (by rw[List.length_take];omega)
     (refine aD (aD (aB ?_));(iterate 4 refine aA1 vq ?_);refine aE ?_)
     refine cP J (fun hc=> ?_) (fun hc=> ?_)
     ·have hy2:y<st.length:=by omega
      have l1:=low_step' st gl y hy2;clear hc;by_cases c1:st[y]≤gl
      ·rw[if_pos c1] at l1;have hat:=jE (fun s:Int=>decide (gl<s)&&decide (s<gh)) _ hy2 hany (by rw[decide_eq_false qG];rfl);(refine aJ (aD (aK (aD (aD ?_)))));refine bY _ [] (Sp.refl _) qI qI ?_;(refine aB2 yq (aB2 yq ?_));refine aB5 uq qG qG ?_;refine bA (v:= .int .i64 st[y]) qE J J J (fun w hs=>RdI.at (RdE.keep h hs.chg0) y hy2) ?_;(refine aB2 yq ?_;refine aX qE J J J ?_;refine jH qE J J J qG (aB2 yq ?_);(iterate 7 refine eF J J J ?_);refine aB2 yq (aT (aF J (aJ (aD ?_)))));refine bY _ [] (Sp.refl _) qI qI ?_;(refine aB2 yq (aB2 yq ?_));refine aB5 uq qG qG ?_;refine bA (v:= .int .i64 st[y]) qE J J J (fun w hs=>RdI.at (RdE.keep h hs.chg0) y hy2) ?_;(refine aB2 yq ?_;refine aX qE J J J ?_;refine qf_leqT qE J J J qG (aT (aH J (aB (aA1 vq (aA4 xq qG qG (aA1 vq (aE (aW (aB (aA1 vq (aA4 xq qG qG ?_)))))))))));refine aA1 vq (aE ?_));exact hK2 (y+1) _ _ ⟨by omega,hat⟩ qG ⟨J,J,J,J,J,(by refine dI J ?_;omega),J,trivial⟩ qF
      ·rw[if_neg c1] at l1;by_cases c2:st[y]<gh
       ·have hi:insB st (gl,gh)=true:=List.any_eq_true.2 ⟨_,List.getElem_mem hy2,by simp;omega⟩;(refine aJ (aD (aK (aD (aD ?_)))));refine bY _ [] (Sp.refl _) qI qI ?_;(refine aB2 yq (aB2 yq ?_));refine aB5 uq qG qG ?_;refine bA (v:= .int .i64 st[y]) qE J J J (fun w hs=>RdI.at (RdE.keep h hs.chg0) y hy2) ?_;(refine aB2 yq ?_;refine aX qE J J J ?_;refine jF qE J J J qG (aB2 yq (aN J (aB2 yq (aN J (aB2 yq (aN J ?_)))))));refine aB5 uq qG qG ?_;(refine aN J ?_);refine bA (v:= .int .i64 st[y]) qE J J J (fun w hs=>RdI.at (RdE.keep h hs.chg0) y hy2) ?_;(refine aN J (aB2 yq (aN J ?_));refine aX qE J J J ?_;refine aN J (mH qE J J J qG (aB2 yq (aT (aH J (aD (aB (aA1 vq (aA1 vq (aE (aQ ?_)))))))))));refine aA2 wq qF fun w hs=> ?_
        exact⟨by rw[hbad (hbi.2 (.inr (.inr (.inr ((hin hlt).2 hi)))))];rfl,hs.chg0⟩
       ·have hat:=jE (fun s:Int=>decide (gl<s)&&decide (s<gh)) _ hy2 hany (by rw[decide_eq_false c2,Bool.and_false]);(refine aJ (aD (aK (aD (aD ?_)))));refine bY _ [] (Sp.refl _) qI qI ?_;(refine aB2 yq (aB2 yq ?_));refine aB5 uq qG qG ?_;refine bA (v:= .int .i64 st[y]) qE J J J (fun w hs=>RdI.at (RdE.keep h hs.chg0) y hy2) ?_;(refine aB2 yq ?_;refine aX qE J J J ?_;refine jF qE J J J qG (aB2 yq (aN J (aB2 yq (aN J (aB2 yq (aN J ?_)))))));refine aB5 uq qG qG ?_;(refine aN J ?_);refine bA (v:= .int .i64 st[y]) qE J J J (fun w hs=>RdI.at (RdE.keep h hs.chg0) y hy2) ?_;(refine aN J (aB2 yq (aN J ?_));refine aX qE J J J ?_;refine aN J (jI qE J J J qG (aB2 yq (aT (aF J (aJ (aD ?_)))))));refine bY _ [] (Sp.refl _) qI qI ?_;(refine aB2 yq (aB2 yq ?_));refine aB5 uq qG qG ?_;refine bA (v:= .int .i64 st[y]) qE J J J (fun w hs=>RdI.at (RdE.keep h hs.chg0) y hy2) ?_;(refine aB2 yq ?_;refine aX qE J J J ?_;refine qf_leqF qE J J J qG (aT (aF J (aJ (aW (aB (aA1 vq (aA4 xq qG qG (aA1 vq (aE ?_))))))))));exact hK2 (y+1) _ _ ⟨by omega,hat⟩ qG ⟨J,J,J,J,J,(by refine dI J ?_;omega),J,trivial⟩ qF
     ·obtain rfl:y=st.length:=by omega
      clear hc hK2;rw[List.take_length] at hlc hany ⊢
      have hni:¬(jK st gl+fF st gh≠st.length):=fun hx=>by
       have h9:=(hin hlt).1 hx;unfold insB at h9;rw[hany] at h9;cases h9
      by_cases h3:jK st gl%2=0
      ·(refine aZ _ J (aD (aD (aB (aA1 vq (cV J J J qG qG (aA8 yq qG (aE (aH J (aD (aB (aA1 vq ?_)))))))))));refine aA1 vq (aE (aQ ?_)))
       refine aA2 wq qF fun w hs=> ?_;exact⟨by rw[hbad (hbi.2 (.inr (.inr (.inl h3))))];rfl,hs.chg0⟩
      ·have hgd:eK st (fH gs k) (gl,gh)=false:=by
        rw[←Bool.not_eq_true,hbi];rintro(h8|h8|h8|h8)
        ·omega
        ·exact hnp h8
        ·exact h3 h8
        ·exact hni h8
       have hb2:=hbd hgd;have hg2:=hgood hgd;(refine aZ _ J (aD (aD (aB (aA1 vq (cV J J J qG qG (aA9 yq qG (aE (aF J (aJ (aB (aA1 vq ?_)))))))))));refine aA1 vq ?_;refine aL qE J J J ?_;refine aA4 xq qG qG (aA1 vq ?_);refine aL qE J J J ?_;refine aA4 xq qG qG (aA1 vq (aE (aW (aB (aA1 vq (aA4 xq qG qG (aA1 vq (aE ?_)))))))));exact hK (k+1,sum+gh-gl) _ _ ⟨by dsimp only;omega,hg2,by dsimp only;omega,by dsimp only;omega⟩ (by dsimp only;omega) ⟨J,J,J,J,trivial⟩ qF
    ·obtain⟨hk',hp0⟩:=hprev qG;have eg:((k:Int)-1).toNat=k-1:=by omega
     (refine aA6 uq qF J ?_;refine aE (aD (aD ?_)))
     refine bY _ [] (Sp.refl _) qI qI ?_;(refine aB2 yq ?_;refine aX qE J J J ?_;refine aB2 yq ?_;refine aX qE J J J ?_;refine oB qE J J J qG (aB2 yq (aN J (aB2 yq (aN J (jF qE J J J qG (aN J (aB2 yq (aN J (aB2 yq (aN J ?_))))))))));refine aX qE J J J ?_;refine aN J (aB2 yq (aN J (aB2 yq (aN J (aB6 xq qG qG (aN J ?_)))))));refine aB5 uq qG qG ?_;(refine aN J (aB2 yq (aN J ?_)));refine bA (v:= .int .i64 (gs[k-1]).2) qE J J J (fun w hs=>by rw[eg];exact RdS.at1 (RdE.keep hu hs.chg0) (k-1) hk') ?_;by_cases h2:gl<(gs[k-1]).2
     ·(refine aN J (mH qE J J J qG (aN J (aB2 yq (aB2 yq (aT (aH J (aD (aB (aA1 vq (aA1 vq (aE ?_)))))))))));refine aQ ?_)
      refine aA2 wq qF fun w hs=> ?_;exact⟨by rw[hbad (hbi.2 (.inr (.inl ⟨_,hp0,h2⟩)))];rfl,hs.chg0⟩
     ·have hnp:¬∃x,fH gs k=some x∧gl<x:=by rw[hp0];rintro⟨x,hx,h9⟩;cases hx;exact h2 h9
      (refine aN J (jI qE J J J qG (aN J (aB2 yq (aB2 yq (aT (aF J (aJ (aD (aB (aA1 vq (aE ?_)))))))))));refine aD (aD (aB (aA1 vq (aE (aK ?_))))))
      refine bD (σ:=Nat) (fun y=>y≤st.length∧(st.take y).any (fun s=>decide (gl<s)&&decide (s<gh))=false) (fun y=>st.length-y)
       (fun y=>[(0,.slice (some ⟨ab,ao,none⟩) st.length c),(1,.slice (some ⟨gb,go,none⟩) gs.length gc),(7,.int .i64 sum),(8,.int .i64 k),(9,aB8 b9),(10,.int .i64 (jK (st.take y) gl)),(11,.int .i64 y)]) (fun _=>[.pt b9 [.int .i64 gl,.int .i64 gh] 40]) 0 ⟨by omega,by simp⟩ ⟨rfl,rfl,rfl,rfl,rfl,rfl,rfl,trivial⟩ qF ?_
      rintro y ⟨hy,hany⟩ K2 hK2;have hlc:jK (st.take y) gl≤y:=by unfold jK;exact Nat.le_trans List.countP_le_length (by rw[List.length_take];omega)
      (refine aD (aD (aB ?_));(iterate 4 refine aA1 vq ?_);refine aE ?_)
      refine cP J (fun hc=> ?_) (fun hc=> ?_)
      ·have hy2:y<st.length:=by omega
       have l1:=low_step' st gl y hy2;clear hc;by_cases c1:st[y]≤gl
       ·rw[if_pos c1] at l1;have hat:=jE (fun s:Int=>decide (gl<s)&&decide (s<gh)) _ hy2 hany (by rw[decide_eq_false qG];rfl);(refine aJ (aD (aK (aD (aD ?_)))));refine bY _ [] (Sp.refl _) qI qI ?_;(refine aB2 yq (aB2 yq ?_));refine aB5 uq qG qG ?_;refine bA (v:= .int .i64 st[y]) qE J J J (fun w hs=>RdI.at (RdE.keep h hs.chg0) y hy2) ?_;(refine aB2 yq ?_;refine aX qE J J J ?_;refine jH qE J J J qG (aB2 yq ?_);(iterate 7 refine eF J J J ?_);refine aB2 yq (aT (aF J (aJ (aD ?_)))));refine bY _ [] (Sp.refl _) qI qI ?_;(refine aB2 yq (aB2 yq ?_));refine aB5 uq qG qG ?_;refine bA (v:= .int .i64 st[y]) qE J J J (fun w hs=>RdI.at (RdE.keep h hs.chg0) y hy2) ?_;(refine aB2 yq ?_;refine aX qE J J J ?_;refine qf_leqT qE J J J qG (aT (aH J (aB (aA1 vq (aA4 xq qG qG (aA1 vq (aE (aW (aB (aA1 vq (aA4 xq qG qG ?_)))))))))));refine aA1 vq (aE ?_));exact hK2 (y+1) _ _ ⟨by omega,hat⟩ qG ⟨J,J,J,J,J,(by refine dI J ?_;omega),J,trivial⟩ qF
       ·rw[if_neg c1] at l1;by_cases c2:st[y]<gh
        ·have hi:insB st (gl,gh)=true:=List.any_eq_true.2 ⟨_,List.getElem_mem hy2,by simp;omega⟩;(refine aJ (aD (aK (aD (aD ?_)))));refine bY _ [] (Sp.refl _) qI qI ?_;(refine aB2 yq (aB2 yq ?_));refine aB5 uq qG qG ?_;refine bA (v:= .int .i64 st[y]) qE J J J (fun w hs=>RdI.at (RdE.keep h hs.chg0) y hy2) ?_;(refine aB2 yq ?_;refine aX qE J J J ?_;refine jF qE J J J qG (aB2 yq (aN J (aB2 yq (aN J (aB2 yq (aN J ?_)))))));refine aB5 uq qG qG ?_;(refine aN J ?_);refine bA (v:= .int .i64 st[y]) qE J J J (fun w hs=>RdI.at (RdE.keep h hs.chg0) y hy2) ?_;(refine aN J (aB2 yq (aN J ?_));refine aX qE J J J ?_;refine aN J (mH qE J J J qG (aB2 yq (aT (aH J (aD (aB (aA1 vq (aA1 vq (aE (aQ ?_)))))))))));refine aA2 wq qF fun w hs=> ?_
         exact⟨by rw[hbad (hbi.2 (.inr (.inr (.inr ((hin hlt).2 hi)))))];rfl,hs.chg0⟩
        ·have hat:=jE (fun s:Int=>decide (gl<s)&&decide (s<gh)) _ hy2 hany (by rw[decide_eq_false c2,Bool.and_false]);(refine aJ (aD (aK (aD (aD ?_)))));refine bY _ [] (Sp.refl _) qI qI ?_;(refine aB2 yq (aB2 yq ?_));refine aB5 uq qG qG ?_;refine bA (v:= .int .i64 st[y]) qE J J J (fun w hs=>RdI.at (RdE.keep h hs.chg0) y hy2) ?_;(refine aB2 yq ?_;refine aX qE J J J ?_;refine jF qE J J J qG (aB2 yq (aN J (aB2 yq (aN J (aB2 yq (aN J ?_)))))));refine aB5 uq qG qG ?_;(refine aN J ?_);refine bA (v:= .int .i64 st[y]) qE J J J (fun w hs=>RdI.at (RdE.keep h hs.chg0) y hy2) ?_;(refine aN J (aB2 yq (aN J ?_));refine aX qE J J J ?_;refine aN J (jI qE J J J qG (aB2 yq (aT (aF J (aJ (aD ?_)))))));refine bY _ [] (Sp.refl _) qI qI ?_;(refine aB2 yq (aB2 yq ?_));refine aB5 uq qG qG ?_;refine bA (v:= .int .i64 st[y]) qE J J J (fun w hs=>RdI.at (RdE.keep h hs.chg0) y hy2) ?_;(refine aB2 yq ?_;refine aX qE J J J ?_;refine qf_leqF qE J J J qG (aT (aF J (aJ (aW (aB (aA1 vq (aA4 xq qG qG (aA1 vq (aE ?_))))))))));exact hK2 (y+1) _ _ ⟨by omega,hat⟩ qG ⟨J,J,J,J,J,(by refine dI J ?_;omega),J,trivial⟩ qF
      ·obtain rfl:y=st.length:=by omega
       clear hc hK2;rw[List.take_length] at hlc hany ⊢
       have hni:¬(jK st gl+fF st gh≠st.length):=fun hx=>by
        have h9:=(hin hlt).1 hx;unfold insB at h9;rw[hany] at h9;cases h9
       by_cases h3:jK st gl%2=0
       ·(refine aZ _ J (aD (aD (aB (aA1 vq (cV J J J qG qG (aA8 yq qG (aE (aH J (aD (aB (aA1 vq ?_)))))))))));refine aA1 vq (aE (aQ ?_)))
        refine aA2 wq qF fun w hs=> ?_;exact⟨by rw[hbad (hbi.2 (.inr (.inr (.inl h3))))];rfl,hs.chg0⟩
       ·have hgd:eK st (fH gs k) (gl,gh)=false:=by
         rw[←Bool.not_eq_true,hbi];rintro(h8|h8|h8|h8)
         ·omega
         ·exact hnp h8
         ·exact h3 h8
         ·exact hni h8
        have hb2:=hbd hgd;have hg2:=hgood hgd;(refine aZ _ J (aD (aD (aB (aA1 vq (cV J J J qG qG (aA9 yq qG (aE (aF J (aJ (aB (aA1 vq ?_)))))))))));refine aA1 vq ?_;refine aL qE J J J ?_;refine aA4 xq qG qG (aA1 vq ?_);refine aL qE J J J ?_;refine aA4 xq qG qG (aA1 vq (aE (aW (aB (aA1 vq (aA4 xq qG qG (aA1 vq (aE ?_)))))))));exact hK (k+1,sum+gh-gl) _ _ ⟨by dsimp only;omega,hg2,by dsimp only;omega,by dsimp only;omega⟩ (by dsimp only;omega) ⟨J,J,J,J,trivial⟩ qF
   ·obtain rfl:k=gs.length:=by omega
    rw[List.drop_length] at hF;have hF2:jZ st none gs=some (0+sum):=hF;(refine aZ _ J (aD (aB ?_));(iterate 3 refine aA1 vq ?_);refine aE (aQ ?_));refine aA2 wq qF fun w hs=> ?_
    exact⟨by rw[hF2,Int.zero_add];rfl,hs.chg0⟩
 ·have hgv:jW st gs=(0,cD st):=by unfold jW;rw[if_pos he]
  rw[hgv];(refine aA1 vq (aE (aD (aB (aA1 vq (aB0 yq qG (aE (aH J (aD (aB ?_)))))))));(iterate 3 refine aA1 vq ?_);refine aE (aQ ?_));refine aA2 wq qF fun w hs=> ?_
  exact⟨J,hs.chg0⟩
end Go.Proofs.YtoljppohibpenaaGreat
namespace Go.Eng
set_option maxRecDepth 4000
open Go Go.RowKit
section
variable {P : Program} {ro : Cx} {n : Nat} {F : Fin} {w0 : World} {M : Nat → Prop} {k : List It} {ops : Array Oper} {rest : List Oper} {e : Env} {H Hq : List Ck}
def delB(a s:Nat):Nat:=if a.testBit s=true then a ^^^ 2^s else a
theorem delB_bit(a s i:Nat):(delB a s).testBit i=(a.testBit i&& !decide (i=s)):=by
 unfold delB;by_cases e:i=s
 ·subst e;split
  ·rename_i h
   rw[Nat.testBit_xor,h,Nat.testBit_two_pow_self];simp
  ·rename_i h
   simp[h]
 ·split
  ·rw[Nat.testBit_xor,Nat.testBit_two_pow_of_ne (Ne.symm e)];simp[e]
  ·simp[e]
theorem delB_le(a s:Nat):delB a s≤a:=by
 have:delB a s=a &&& delB a s:=Nat.eq_of_testBit_eq fun i=>by
  rw[Nat.testBit_and,delB_bit];cases a.testBit i<;>simp
 rw[this];exact Nat.and_le_left
theorem run_delB{a s:Nat}(ha:a<9223372036854775808)(hs:s<63)(w:World):(Op.intBits .andNot .i64 (a:Int) ((2^s:Nat):Int)).run P w= .ok (.int .i64 ((delB a s:Nat):Int)) w:=by
 have hp:2^s<9223372036854775808:=by
  have:=Nat.pow_lt_pow_right (a:=2) qG hs;simpa using this
 have h0:∀x:Nat,x<9223372036854775808→(BitVec.ofInt 64 (x:Int)).toNat=x:=fun x hx=>by
  simp[BitVec.toNat_ofInt];omega
 have h1:(BitVec.ofInt IntKind.i64.bits (a:Int) &&& ~~~BitVec.ofInt IntKind.i64.bits ((2^s:Nat):Int)).toNat=delB a s:=by
  show(BitVec.ofInt 64 (a:Int) &&& ~~~BitVec.ofInt 64 ((2^s:Nat):Int)).toNat=delB a s
  refine Nat.eq_of_testBit_eq fun i=> ?_;rw[delB_bit,BitVec.testBit_toNat,BitVec.getLsbD_and,BitVec.getLsbD_not,←BitVec.testBit_toNat,←BitVec.testBit_toNat,h0 a ha,h0 _ hp,Nat.testBit_two_pow]
  by_cases hi:i<64
  ·simp[hi,eq_comm]
  ·rw[Nat.testBit_lt_two_pow (Nat.lt_of_lt_of_le ha (Nat.le_trans (by decide:9223372036854775808≤2^64) (Nat.pow_le_pow_right qG qG)))]
   rfl
 have h2:=delB_le a s;simp only[Op.intBits];rw[h1,w64 qG qG]
 rfl
theorem ql_delB{d t t':Nat}{x y:Operand}{a s:Nat}{b:Int}{ty:TypeId}{pos:String}{af:Array Edge}(hx:opv e x=some (.int .i64 a))(hy:opv e y=some (.int .i64 b))(hb:b=((2^s:Nat):Int))(hd:Nat.blt d n=true)(ha:a<9223372036854775808)(hs:s<63)
  (h:QL P ro n F w0 M k ops rest ((d,.int .i64 ((delB a s:Nat):Int))::e) H):QL P ro n F w0 M k ops (⟨some d,.binOp .andNot t x y t',ty,pos,af,none⟩::rest) e H:= .mk fun w hw=>
 dF (by simp) hd (fun a' hf=>by
  have e1:=hf.op hx;have e2:=hf.op hy;simp only[execOp,e1,e2];have:=run_delB (P:=P) ha hs w;rw[←hb] at this;simp[eqGuard,binOp,this]) (h.h w hw)
end
section
variable {P : Program} {ro : Cx} {n : Nat} {F : Fin} {w0 : World} {M : Nat → Prop} {k : List It} {ops : Array Oper} {rest : List Oper} {e : Env} {H Hq : List Ck}
theorem qf_shl{d t t':Nat}{x y:Operand}{a b:Int}{ty:TypeId}{pos:String}{af:Array Edge}(hx:opv e x=some (.int .i64 a))(hy:opv e y=some (.int .i64 b))(hd:Nat.blt d n=true)(hb:0≤b∧b<64)(h1: -9223372036854775808≤a*2^b.toNat)(h2:a*2^b.toNat<9223372036854775808)
  (h:QF P ro n F w0 M k ops Hq rest ((d,.int .i64 (a*2^b.toNat))::e) H):QF P ro n F w0 M k ops Hq (⟨some d,.binOp .shl t x y t',ty,pos,af,none⟩::rest) e H:= .mk fun w hw=>
 eQ rfl hd (fun a' hf w' _=>by
  have e1:=hf.op hx;have e2:=hf.op hy;simp only[execOp,e1,e2];have:=run_shl (P:=P) hb h1 h2 w';simp[eqGuard,binOp,this];exact w64 h1 h2) (h.h w hw)
theorem qf_makeI{d t et m:Nat}{x y:Operand}{ty:TypeId}{pos:String}{af:Array Edge}(hS:SlT P t et 1 8 (.int .i64 0))(hx:opv e x=some (.int .i64 m))(hy:opv e y=some (.int .i64 m))(hd:Nat.blt d n=true)(hm:m≤1000000)
  (h:∀b,QF P ro n F w0 M k ops Hq rest ((d,aB7 b m m)::e) (.pt b (bF (List.replicate m 0)) et::H)) :
  QF P ro n F w0 M k ops Hq (⟨some d,.makeSlice t x y,ty,pos,af,none⟩::rest) e H:= .mk fun w hs=>by
 obtain⟨ht,hi',hzs,hsz⟩:=hS;cases hinf:P.info? et with
 | none=>simp[hinf] at hi'
 | some i=>
  simp[hinf] at hi';obtain⟨hz,hsize,hby⟩:=hi';have hr:=run_makeSlice (P:=P) w t et i _ ht hinf hz .i64 .i64 m m qG (Int.le_refl _) (by rw[hsize];simp;omega) (by rw[hby];omega) qG
  have hcells:(madeCells (Value.int .i64 0).cells ((m:Int).toNat*i.size))=(bF (List.replicate m 0)).toArray:=by
   apply Array.ext';rw[hsize,show(Value.int .i64 0).cells= #[Value.int .i64 0] from rfl,toList_madeCells_one];simp
  rw[hcells] at hr;have hs':Sat w0 M ((.pt w.heap.size (bF (List.replicate m 0)) et::H)++Hq) (w.alloc (.cells (bF (List.replicate m 0)).toArray et)):=hs.addPt (dL _ _) (by simp) (eT w _ _);refine yf_eff (w':=w.alloc (.cells (bF (List.replicate m 0)).toArray et)) J hd (fun ac hf=> ?_) hs'.right ((h w.heap.size).h _ hs');simp only[execOp,hf.op hx,hf.op hy];simp[hr]
end
section
variable {P : Program} {T : Tab} {ro : Cx} {n : Nat} {F : Fin} {w0 : World} {M : Nat → Prop} {k : List It} {ops : Array Oper} {rest : List Oper} {e : Env} {H Hq : List Ck}
theorem ql_makeC{d t et m size bytes:Nat}{z:Value}{x y:Operand}{ty:TypeId}{pos:String}{af:Array Edge}(hS:SlT P t et size bytes z)(hx:opv e x=some (.int .i64 m))(hy:opv e y=some (.int .i64 m))(hd:Nat.blt d n=true)(hm:m*size≤1000000)(hm2:m*bytes≤1000000000)(hm3:m≤1000000)
  (h:∀b,QL P ro n F w0 M k ops rest ((d,aB7 b m m)::e) (.pt b (madeCells z.cells (m*size)).toList et::H)) :
  QL P ro n F w0 M k ops (⟨some d,.makeSlice t x y,ty,pos,af,none⟩::rest) e H:= .mk fun w hs=>by
 obtain⟨ht,hi',hzs,hsz⟩:=hS;cases hinf:P.info? et with
 | none=>simp[hinf] at hi'
 | some i=>
  simp[hinf] at hi';obtain⟨hz,hsize,hby⟩:=hi';subst hsize;subst hby;have hr:=run_makeSlice (P:=P) w t et i _ ht hinf hz .i64 .i64 m m qG (Int.le_refl _) (by simp;omega) (by rw[Int.mul_comm];omega) qG;refine dF (w':=w.alloc (.cells (madeCells z.cells (m*i.size)) et)) (by simp) hd (fun ac hf=> ?_) ((h w.heap.size).h _ (hs.addPt (dL _ _) (by simp) (by have:=eT w (madeCells z.cells (m*i.size)) et;simpa using this)));simp only[execOp,hf.op hx,hf.op hy];simp at hr;simp[hr]
theorem made_same(z:Value)(m:Nat):(madeCells #[z,z] m).toList=List.replicate m z:=by
 unfold madeCells;rw[Array.toList_map,Array.toList_range];refine List.eq_replicate_iff.2 ⟨by simp,fun b hb=> ?_⟩;obtain⟨x,_,rfl⟩:=List.mem_map.1 hb;have h2:x%2=0∨x%2=1:=by omega
 show #[z,z][x%2]! =z
 rcases h2 with h|h<;>rw[h]<;>rfl
end
section
variable {P : Program}
inductive PK where
 | fl:List (Option IntKind)→PK
 | ar:Nat→Nat→PK
def PK.ks:PK→List (Option IntKind)
 | .fl ks=>ks
 | .ar n _=>List.replicate n none
def PK.b(P:Program)(t:Nat):PK→Bool
 | .fl ks=>nJ P t ks&&Nat.beq (P.cellsOf t) ks.length&&(P.info? t).isSome
 | .ar n e=>arrQB P t n e&&Nat.beq (P.cellsOf t) n&&(P.info? t).isSome
theorem PK.part{t:Nat}{p:PK}(h:p.b P t=true)(xs:List Value)(o:Nat)(w:World):(part t xs.toArray o).run P w= .ok (.agg ((xs.drop o).take p.ks.length).toArray) w:=by
 cases p with
 | fl ks=>
  simp only[PK.b,Bool.and_eq_true] at h;obtain⟨⟨h1,h2⟩,h3⟩:=h;exact run_partA h1 (Nat.eq_of_beq_eq_true h2) h3 xs o w
 | ar n e=>
  simp only[PK.b,Bool.and_eq_true] at h;obtain⟨⟨h1,h2⟩,h3⟩:=h;simp only[arrQB,Bool.and_eq_true,Bool.not_eq_true'] at h1;obtain⟨⟨_,h5⟩,_⟩:=h1;split at h5
  ·rename_i n' e' hu
   have:=kG (P:=P) hu (Nat.eq_of_beq_eq_true h2) h3 xs o w;rw[this];simp[PK.ks]
  ·cases h5
theorem PK.eq{t:Nat}{p:PK}(h:p.b P t=true){xs ys:List Value}(hx:iU p.ks xs=true)(hy:iU p.ks ys=true)(d:Nat)(w:World):(Go.Op.equalIn (d+2) t (.agg xs.toArray) (.agg ys.toArray)).run P w= .ok (eqL xs ys) w:=by
 cases p with
 | fl ks=>
  simp only[PK.b,Bool.and_eq_true] at h;exact run_eqFlat h.1.1 hx hy d w
 | ar n e=>
  simp only[PK.b,Bool.and_eq_true] at h;obtain⟨l,rfl,hl⟩:=iF _ _ hx;obtain⟨m,rfl,hm⟩:=iF _ _ hy;rw[pN];exact run_eqArr h.1.1 hl hm d w
theorem PK.chk{t:Nat}{p:PK}(h:p.b P t=true){xs:List Value}(hx:iU p.ks xs=true)(empty:Bool)(d:Nat)(w:World):(Instr.checkKey empty (d+2) t (.agg xs.toArray)).run P w= .ok () w:=by
 cases p with
 | fl ks=>
  simp only[PK.b,Bool.and_eq_true] at h;exact chk_agg h.1.1 hx empty d w
 | ar n e=>
  simp only[PK.b,Bool.and_eq_true] at h;obtain⟨l,rfl,hl⟩:=iF _ _ hx;exact chk_row h.1.1 empty d w l hl
def mixF(P:Program):Nat→List Field→List PK→Bool
 | _,[],[]=>true
 | o, f :: fs, p :: ps => !(f.name == "_") && Nat.beq f.offset o && p.b P f.type && mixF P (o + p.ks.length) fs ps
 | _,_,_=>false
def mixB(P:Program)(t:Nat)(ps:List PK):Bool:=
 !(P.stoodInHeld t)&& !(P.eqGuardType P.depth t)&&(match P.underlying t with|some (.struct fs)=>mixF P 0 fs.toList ps|_=>false)
def mixK(ps:List PK):List (Option IntKind):=ps.flatMap PK.ks
end
section
variable {P : Program}
variable {ro : Cx} {n : Nat} {F : Fin} {k : List It} {ops : Array Oper} {rest : List Oper} {e : Env} {w0 : World} {M : Nat → Prop} {H Hq : List Ck}
end
def fldB(P:Program)(t i off ft:Nat):Bool:=
 match P.underlying t with
 | some (.struct fs)=>(match fs[i]? with|some f=>Nat.beq f.offset off&&Nat.beq f.type ft|none=>false)
 | _=>false
section
variable {P : Program} {T : Tab} {ro : Cx} {n : Nat} {F : Fin} {w0 : World} {M : Nat → Prop} {k : List It} {ops : Array Oper} {rest : List Oper} {e : Env} {H Hq : List Ck}
end
section
variable {P : Program} {T : Tab} {ro : Cx} {n : Nat} {F : Fin} {w0 : World} {M : Nat → Prop} {k : List It} {ops : Array Oper} {rest : List Oper} {e : Env} {H Hq : List Ck}
end
section
variable {P : Program} {ro : Cx} {n : Nat} {F : Fin} {w0 : World} {M : Nat → Prop} {k : List It} {ops : Array Oper} {rest : List Oper} {e : Env} {H Hq : List Ck}
end
section
variable {P : Program} {T : Tab} {ro : Cx} {n : Nat} {F : Fin} {w0 : World} {M : Nat → Prop} {k : List It} {ops : Array Oper} {rest : List Oper} {e : Env} {H Hq : List Ck}
end
section
variable {P : Program} {T : Tab} {ro : Cx} {n : Nat} {F : Fin} {w0 : World} {M : Nat → Prop} {k : List It} {ops : Array Oper} {rest : List Oper} {e : Env} {H H' Hq : List Ck}
end
section
variable {P : Program} {T : Tab} {ro : Cx} {n : Nat} {F : Fin} {w0 : World} {M : Nat → Prop} {k : List It} {ops : Array Oper} {rest : List Oper} {e : Env} {H H' Hq : List Ck}
theorem qf_mkSz(et sz:Nat){d t:Nat}{ty:TypeId}{pos:String}{af:Array Edge}(hu:P.underlying t=some (.slice et))(hi:(P.info? et).isSome=true)(hd:Nat.blt d n=true)
  (h:∀b,QF P ro n F w0 M k ops Hq rest ((d,aB7 b 0 0)::e) (.ow (aB7 b 0 0) et sz 0 []::H)):QF P ro n F w0 M k ops Hq (⟨some d,.buildSlice t 0 #[],ty,pos,af,none⟩::rest) e H:= .mk fun w hs=>by
 have hs':Sat w0 M (.ow (aB7 w.heap.size 0 0) et sz 0 []::(H++Hq)) (w.alloc (.cells #[] et)):=Sat.pt_ow (m:=0) (by simp) qG (hs.addPt (dL _ _) (by simp) (eT w _ _));refine yf_eff (w':=w.alloc (.cells #[] et)) J hd (fun a hf=> ?_) (hs'.tail).right ((h w.heap.size).h _ hs');simp only[execOp];simp[run_mkS0 hu hi]
end
section
variable {P : Program} {T : Tab} {ro : Cx} {n : Nat} {F : Fin} {w0 : World} {M : Nat → Prop} {k : List It} {ops : Array Oper} {rest : List Oper} {e : Env} {H Hq : List Ck}
theorem run_part0{t et sz:Nat}(hu:P.underlying t=some (.slice et))(hsz:(P.info? et).map (·.size)=some sz){b off len cap:Nat}{kl kh:IntKind}{l h:Int}(h0:0≤l)(h1:l≤h)(h2:h≤cap)(h3:l<cap)(w:World) :
  (Instr.sliceAt t (.slice (some ⟨b,off,none⟩) len cap) (some (.int kl l)) (some (.int kh h)) none).run P w= .ok (.slice (some ⟨b,off+l.toNat*sz,none⟩) (h.toNat-l.toNat) (cap-l.toNat)) w:=by
 have he:=mL hu;cases hq:P.info? et with
 | none=>simp[hq] at hsz
 | some i=>
  have hi:i.size=sz:=by simpa[hq] using hsz
  subst hi;have hne:¬cap-l.toNat=0:=by omega
  have hne2:¬cap=l.toNat:=by omega
  rw[run_sliceAt_slice w t _ _ _ _ (by rw[he];exact hu),run_slice_lh w t _ len cap (by rw[he];exact hu) kl kh l h h0 qG h2,he];simp[sizeOf,typeInfo,hq,sliced,hne,hne2,Addr.add_lit]
theorem qf_part0{d t et sz:Nat}{x lo hi:Operand}{b off len cap:Nat}{kl kh:IntKind}{l h:Int}{ty:TypeId}{pos:String}{af:Array Edge}(hu:P.underlying t=some (.slice et))(hsz:(P.info? et).map (·.size)=some sz)
  (hx:opv e x=some (.slice (some ⟨b,off,none⟩) len cap)) (hl:opv e lo=some (.int kl l)) (hh:opv e hi=some (.int kh h)) (hd:Nat.blt d n=true) (h0:0≤l) (h1:l≤h) (h2:h≤cap) (h3:l<cap)
  (hk:QF P ro n F w0 M k ops Hq rest ((d,.slice (some ⟨b,off+l.toNat*sz,none⟩) (h.toNat-l.toNat) (cap-l.toNat))::e) H):QF P ro n F w0 M k ops Hq (⟨some d,.slice t x (some lo) (some hi) none,ty,pos,af,none⟩::rest) e H:= .mk fun w hw=>
 eQ rfl hd (fun ac hf w' _=>by
  simp only[execOp,hf.op hx];simp[hf.op hl,hf.op hh,run_part0 hu hsz h0 h1 h2 h3 w']) (hk.h w hw)
theorem Rd.part0{w:World}{lo hi b off n c c2 k m:Nat}{l:List Int}(hr:RdI w lo hi (.slice (some ⟨b,off,none⟩) n c) l)(hm:k+m≤l.length):Rd w lo hi (.slice (some ⟨b,off+k*1,none⟩) m c2) 1 m (bF ((l.drop k).take m)):=by
 by_cases h0:m=0
 ·subst h0;exact⟨by simp,.inl ⟨.inr ⟨_,_,J⟩,J⟩⟩
 ·have h1:=RdI.row (RdI.part (c2:=c2) hr (k:=k) (h:=k+m) (m:=m) qG hm qG)
  rwa [show((l.drop k).take m).length=m by rw[List.length_take,List.length_drop];omega] at h1
theorem Rd.from0{w:World}{lo hi b off n c k:Nat}{l:List Int}(hr:RdI w lo hi (.slice (some ⟨b,off,none⟩) n c) l)(hn:n=l.length)(hk:k≤l.length)(hc:l.length≤c):Rd w lo hi (.slice (if c=k then some ⟨b,off,none⟩ else(some (⟨b,off,none⟩:Addr)).map (·.add (k*1))) (n-k) (c-k)) 1 (n-k) (bF (l.drop k)):=by
 by_cases h0:n-k=0
 ·rw[h0,List.drop_eq_nil_of_le qG];refine⟨by simp,.inl ⟨.inr ?_,J⟩⟩;split
  ·exact⟨_,_,J⟩
  ·exact⟨_,_,J⟩
 ·rw[if_neg qG,Option.map_some,Addr.add_lit];have:=Rd.part0 (c2:=c-k) (k:=k) (m:=n-k) hr qG
  rwa [List.take_of_length_le (by rw[List.length_drop];omega)] at this
end
end Go.Eng
namespace Go.Proofs.YtoljppohibpenaaGreat
open Go Go.Eng
set_option maxRecDepth 4000
open Go Go.Eng
theorem erase_parts{r:List Int}{k:Nat}(h:k<r.length)(x:Int):bF (((x::r).drop 1).take k)++bF ((x::r).drop (k+2))=bF (r.eraseIdx k):=by
 rw[(oS h).2.1];simp[bF]
theorem ints_one(l:List Int):∀c∈bF l,dA c=true:=fun c hc=>by
 obtain⟨z,_,rfl⟩:=List.mem_map.1 hc
 rfl
theorem own_cap5{w0 w:World}{M:Nat→Prop}{H:List Ck}{e sz m n c:Nat}{a:Option Addr}{xs:List Value}(h:Sat w0 M H w)(hc:Ck.ow (.slice a n c) e sz m xs∈H):n≤c:=by
 have h1:w.ownsRow 0 e sz (.slice a n c) m xs:=h.all _ hc;rcases h1.2 with⟨h2,_⟩|⟨g,cap,cur,h2,_,_,h3⟩
 ·injection h2 with _ h4 h5
  omega
 ·injection h2 with _ h4 h5
  omega
theorem slI_u5:Tryz.prog.underlying 22=some (.slice 3):=by kernel_rfl
theorem int_sz5:(Tryz.prog.info? 3).map (·.size)=some 1:=by kernel_rfl
theorem rleast_caB(B:Nat)(hB:B=100000):∀(m:Nat) (w:World) (lo hi:Nat) (a:Option Addr) (c:Nat) (l:List Int),l.length=2*m→m≤8→l.length≤c→(∀y∈l,0≤y∧y≤100000)→RdI w lo hi (.slice a l.length c) l→
  Ca Tryz.prog 72 [.slice a l.length c] w fun x w'=>x= .int .i64 (wsV B l)∧Chg [] w w':=by
 intro m
 induction m with
 | zero=>
  intro w lo hi a c l hl _ _ _ h;obtain rfl:l=[]:=List.eq_nil_of_length_eq_zero qG;rw[ws_nil];refine cM (Sat.nil w M0) Tryz.func72 J (by simp[Tryz.ntmps72]) ?_;(refine aD (aB (aA1 vq (aE (aD (aD (aB (aA1 vq (aA1 vq (aA8 yq qG (aE (aH J ?_)))))))))));refine aD (aB (aA1 vq (aE (aQ ?_)))));refine aA2 wq qF fun w hs=> ?_
  exact⟨J,hs.chg0⟩
 | succ m ih=>
  intro w lo hi a c l hl hm hcap hb h
  obtain⟨x,r,rfl⟩:∃x r,l=x::r:=by
   cases l with
   | nil=>simp at hl
   | cons x r=>exact⟨x,r,rfl⟩
  have hrl:r.length=2*m+1:=by simp at hl;omega
  have hx:=hb x (.head _);have hrb:∀y∈r,0≤y∧y≤100000:=fun y hy=>hb y (.tail _ hy)
  have hws:=ls_ws B x r qG qG (fun y hy=>by have:=hrb y hy;omega);obtain⟨a',c',haa,hsa⟩:=RdI.outI h;cases haa
  obtain⟨b,off,rfl⟩:=hsa (by simp);obtain⟨N,hN⟩:∃N,N=(x::r).length:=⟨_,rfl⟩;have hN2:N=2*m+2:=by rw[hN,hl];omega
  rw[←hN] at h hcap;rw[←hN];refine cM (Sat.nil w M0) Tryz.func72 J (by simp[Tryz.ntmps72]) ?_;(refine aD (aB (aA1 vq (aE (aD (aD (aB (aA1 vq (aA1 vq (aA9 yq qG (aE (aF J ?_)))))))))));refine aJ (aD (aB (aA1 vq (aE (aD (aD (aB (aA1 vq (aE (aK ?_)))))))))));refine bD (σ:=Nat) (fun k=>k≤r.length∧ -1≤lsP B x r k∧lsP B x r k≤10000000) (fun k=>r.length-k) (fun k=>[(0,.slice (some ⟨b,off,none⟩) N c),(3,.int .i64 (lsP B x r k)),(4,.int .i64 (k+1))]) (fun _=>[]) 0 ⟨by omega,by simp[lsP],by simp[lsP]⟩ ⟨J,J,J,trivial⟩ qF ?_;rintro k ⟨hk,hk1,hk2⟩ K hK;(refine aD (aD (aB ?_));(iterate 4 refine aA1 vq ?_);refine aE ?_);refine cP J (fun hc=> ?_) (fun hc=> ?_)
  ·have hkr:k<r.length:=by omega
   clear hc;have hsp:=lsP_succ B x r k;have hg:=(oS hkr).2.2;have hrk:=hrb _ (List.getElem_mem hkr);have hel:(r.eraseIdx k).length=2*m:=by rw[List.length_eraseIdx,if_pos hkr];omega
   have heb:∀y∈r.eraseIdx k,0≤y∧y≤100000:=fun y hy=>hrb y (List.mem_of_mem_eraseIdx hy)
   have hwb:=ws_bd B (r.eraseIdx k);(refine aJ (aD (aK (aD ?_))));refine bY _ [] (Sp.refl _) qI qI ?_;refine qf_mkSz 3 1 slI_u5 qI J (fun bz=> ?_);(refine aB2 yq (aB2 yq ?_));refine qf_part0 slI_u5 int_sz5 J J J J qG qG qG qG ?_;rw[show((k:Int)+1).toNat-Int.toNat 1=k by omega];refine fG (q:=k) (news:=bF (((x::r).drop 1).take k)) slI J J J (fun v'=>by repeat constructor) (fun w' hs=>⟨lo,hi,Rd.part0 (k:=1) (m:=k) (h.keep hs.chg0) qG⟩) (ints_one _) qG qG (fun u1=> ?_);(refine aB2 yq (aB2 yq (aB6 xq qG qG ?_)));refine qf_sliceFrom slI_u5 int_sz5 J J J qG qG ?_;rw[show((k:Int)+1+1).toNat=k+2 by omega];refine fG (q:=N-(k+2)) (news:=bF ((x::r).drop (k+2))) slI J J J (fun v'=>by repeat constructor) (fun w' hs=>⟨lo,hi,Rd.from0 (k:=k+2) (h.keep hs.chg0) hN qG qG⟩) (ints_one _) qG qG (fun u2=> ?_);rw[List.nil_append,erase_parts hkr x,show 0+k+(N-(k+2))=(r.eraseIdx k).length by omega];refine cT (fun w hs=>hs.slice2 (v:=u2) qF) ?_;rintro⟨ua,uc,rfl⟩;refine cT (fun w hs=>own_cap5 (n:=(r.eraseIdx k).length) (c:=uc) (a:=ua) hs qF) ?_;intro hcu;(refine aB2 yq (aT (aD ?_)));refine bY _ [] (Sp.refl _) qI qI ?_;(refine aB2 yq ?_);refine cR (val:= .int .i64 (wsV B (r.eraseIdx k))) qE J J J J (fun w hs=> ?_) ?_;exact ih w 0 w.heap.size ua uc (r.eraseIdx k) hel qG hcu heb (hs.rdI (t:=3) qF J);(refine aB2 yq ?_);refine aB5 uq qG qG ?_;refine bA (v:= .int .i64 x) qE J J J (fun w hs=>RdI.at (h.keep hs.chg0) 0 (by simp)) ?_;(refine aB2 yq (aB2 yq ?_));refine aB5 uq qG qG ?_;refine bA (v:= .int .i64 r[k]) qE J J J (fun w hs=>by rw[show((k:Int)+1).toNat=k+1 by omega];exact RdI.at (h.keep hs.chg0) (k+1) (by simp;omega)) ?_;(refine aB6 xq qG qG (aB2 yq (aB2 yq ?_)));refine aB5 uq qG qG ?_;refine bA (v:= .int .i64 r[k]) qE J J J (fun w hs=>by rw[show((k:Int)+1).toNat=k+1 by omega];exact RdI.at (h.keep hs.chg0) (k+1) (by simp;omega)) ?_;(refine aB2 yq ?_);refine aB5 uq qG qG ?_;refine bA (v:= .int .i64 x) qE J J J (fun w hs=>RdI.at (h.keep hs.chg0) 0 (by simp)) ?_;have hon:onL B x r k=wsV B (r.eraseIdx k)+max (x-r[k]) (r[k]-x):=by unfold onL;rw[hg]
   generalize wsV B (r.eraseIdx k)=ww at hwb hon ⊢;generalize r[k]=rk at hrk hon ⊢;obtain⟨mx,hmx,hmx1,hmx2⟩:∃mx:Int,mx=max (x-rk) (rk-x)∧0≤mx∧mx≤100000:=⟨_,rfl,by omega,by omega⟩;rw[←hmx] at hon;unfold bstV at hsp;by_cases c1:lsP B x r k<0
   ·rw[if_pos (.inl c1)] at hsp;(refine aB6 xq qG qG (aB2 yq (aB6 xq qG qG (aB2 yq (aT (aD (aB (aA1 vq (dU qE J J J qG (aA1 vq ?_)))))))));(iterate 3 refine aA3 zq ?_);refine aA1 vq (aE (aH J (aB (aA1 vq (aA1 vq (aE (aW (aB (aA1 vq (aA4 xq qG qG (aA1 vq ?_)))))))))));refine aE ?_);exact hK (k+1) _ _ ⟨by omega,by omega,by omega⟩ qG ⟨J,dI J qG,dI J qG,trivial⟩ qF
   ·by_cases c2:onL B x r k<lsP B x r k
    ·rw[if_pos (.inr c2)] at hsp;(refine aB6 xq qG qG (aB2 yq (aB6 xq qG qG (aB2 yq (aT (aD (aB (aA1 vq (cS qE J J J qG (aA1 vq (aC J (aA1 vq ?_)))))))))));refine aC J (aA1 vq (aC J (dU qE J J J qG (aA1 vq (aE (aH J (aB (aA1 vq (aA1 vq (aE (aW ?_)))))))))));refine aB (aA1 vq (aA4 xq qG qG (aA1 vq (aE ?_)))));exact hK (k+1) _ _ ⟨by omega,by omega,by omega⟩ qG ⟨J,dI J qG,dI J qG,trivial⟩ qF
    ·rw[if_neg qG] at hsp;(refine aB6 xq qG qG (aB2 yq (aB6 xq qG qG (aB2 yq (aT (aD (aB (aA1 vq (cS qE J J J qG (aA1 vq (aC J (aA1 vq ?_)))))))))));refine aC J (aA1 vq (aC J (cS qE J J J qG (aA1 vq (aE (aF J (aJ (aW (aB (aA1 vq (aA4 xq qG qG ?_)))))))))));refine aA1 vq (aE ?_));exact hK (k+1) _ _ ⟨by omega,by omega,by omega⟩ qG ⟨J,dI J qG,dI J qG,trivial⟩ qF
  ·obtain rfl:k=r.length:=by omega
   rw[hws] at *;(refine aZ _ J (aD (aB (aA1 vq (aA1 vq (aE (aQ ?_)))))));refine aA2 wq qF fun w hs=> ?_
   exact⟨J,hs.chg0⟩
theorem rleast_ca(m:Nat)(w:World)(lo hi:Nat)(a:Option Addr)(c:Nat)(l:List Int)(h1:l.length=2*m)(h2:m≤8)(h3:l.length≤c)(h4:∀y∈l,0≤y∧y≤100000)(h5:RdI w lo hi (.slice a l.length c) l) :
  Ca Tryz.prog 72 [.slice a l.length c] w fun x w'=>x= .int .i64 (wsV 100000 l)∧Chg [] w w':=rleast_caB 100000 rfl m w lo hi a c l h1 h2 h3 h4 h5
end Go.Proofs.YtoljppohibpenaaGreat
namespace Go.Eng
set_option maxRecDepth 4000
open Go Go.RowKit
section
variable {P : Program}
def arrIB(P:Program)(t n e:Nat):Bool:=
 !(P.eqGuardType P.depth t)&&oneB P e&&Nat.beq (P.cellsOf e) 1&&(P.info? e).isSome&&(match P.underlying t with|some (.array n' e')=>Nat.beq n' n&&Nat.beq e' e|_=>false)&&(match P.underlying e with|some (.int .i64)=>true|_=>false)
theorem eqItems_same{e:Nat}(he:P.underlying e=some (.int .i64))(h1:oneB P e=true)(d:Nat)(w:World)(xs:Array Value):∀(l:List Int) (k:Nat),(∀i (h:i<l.length),xs[k+i]? =some (.int .i64 l[i]))→
  (Go.Op.eqItems (d+1) e 1 xs xs (List.range' k l.length)).run P w= .ok true w
 | [],_,_=>by simp[Go.Op.eqItems]
 | a::l,k,hx=>by
  have ih:=eqItems_same he h1 d w xs l (k+1) (fun i hi=>by have:=hx (i+1) (by simpa using hi);rw[show k+1+i=k+(i+1) by omega];simpa using this);have h0:=hx 0 (by simp);simp only[Nat.add_zero,List.getElem_cons_zero] at h0;rw[List.length_cons,List.range'_succ];have p1:=gU (P:=P) (o:=k*1) h1 (by rw[Nat.mul_one];exact h0) w;simp only[Go.Op.eqItems,Sem.run_bind,p1,Result.andThen_ok,run_equalIn_int w d e .i64 .i64 a a he];simpa using ih
theorem run_sameArr{t n e:Nat}(h:arrIB P t n e=true){l:List Int}(hl:l.length=n)(d:Nat)(w:World):(Go.Op.equalIn (d+2) t (.agg (l.map (Value.int .i64)).toArray) (.agg (l.map (Value.int .i64)).toArray)).run P w= .ok true w:=by
 simp only[arrIB,Bool.and_eq_true,Bool.not_eq_true'] at h;obtain⟨⟨⟨⟨⟨h1,h2⟩,h3⟩,h4⟩,h5⟩,h6⟩:=h;split at h5
 ·rename_i n' e' hu
  simp only[Bool.and_eq_true] at h5;have hn:=Nat.eq_of_beq_eq_true h5.1;have he:=Nat.eq_of_beq_eq_true h5.2;subst hn;subst he;split at h6
  ·rename_i hb
   obtain⟨i,hi⟩:=Option.isSome_iff_exists.1 h4;rw[run_equalIn_array w (d+1) _ _ hu hi,Nat.eq_of_beq_eq_true h3,List.range_eq_range',←hl];exact eqItems_same hb h2 d w _ l 0 (fun i hi=>by simp[hi])
  ·cases h6
 ·cases h5
variable {ro : Cx} {n : Nat} {F : Fin} {w0 : World} {M : Nat → Prop} {k : List It} {ops : Array Oper} {rest : List Oper} {e : Env} {H Hq : List Ck}
theorem exec_neSame{a:Act}{d t t' q et:Nat}{x y:Operand}{l:List Int}{ty:TypeId}{pos:String}{af:Array Edge}(hf:Fits n e a)(hx:opv e x=some (.agg (l.map (Value.int .i64)).toArray))(hy:opv e y=some (.agg (l.map (Value.int .i64)).toArray))(hA:arrIB P t q et=true)(h1:l.length=q)(w:World) :
  (execOp a.eval ⟨some d,.binOp .neq t x y t',ty,pos,af,none⟩).run P w= .ok (.value (.bool false)) w:=by
 have e1:=hf.op hx;have e2:=hf.op hy;have h3:=run_sameArr hA h1 9998 w
 have hg:P.eqGuardType P.depth t=false:=by
  simp only[arrIB,Bool.and_eq_true,Bool.not_eq_true'] at hA;exact hA.1.1.1.1.1
 simp[execOp,e1,e2,run_eqGuard_agg,hg,run_neq_struct,h3]
theorem qf_neSame{d t t' q et:Nat}{x y:Operand}{l:List Int}{ty:TypeId}{pos:String}{af:Array Edge}(hA:arrIB P t q et=true)(hx:opv e x=some (.agg (l.map (Value.int .i64)).toArray))(hy:opv e y=some (.agg (l.map (Value.int .i64)).toArray))(h1:l.length=q)(hd:Nat.blt d n=true)
  (h:QF P ro n F w0 M k ops Hq rest ((d,.bool false)::e) H):QF P ro n F w0 M k ops Hq (⟨some d,.binOp .neq t x y t',ty,pos,af,none⟩::rest) e H:= .mk fun w hw=>
 eQ rfl hd (fun _ hf w' _=>exec_neSame hf hx hy hA h1 w') (h.h w hw)
end
end Go.Eng
namespace Go.Proofs.YtoljppohibpenaaGreat
open Go Go.Eng
set_option maxRecDepth 4000
open Go Go.Eng
theorem spC_one(l:List (Int×Int)):∀c∈spC l,dA c=true:=fun c hc=>by
 obtain⟨z,_,h⟩:=List.mem_flatMap.1 hc;simp at h;rcases h with rfl|rfl<;>rfl
theorem clone2_ca(w:World)(lo hi:Nat)(v:Value)(l:List (Int×Int))(h:RdS w lo hi v l)(hlen:l.length≤1000000):Ca Tryz.prog 63 [v] w fun r w'=>∃u:Value,r=u∧Sat w M0 [.ow u 37 2 l.length (spC l)] w':=by
 obtain⟨a,ca,rfl,_⟩:=RdS.outI h;refine cM (Sat.nil w M0) Tryz.func63 J (by simp[Tryz.ntmps63]) ?_;(refine aD (aB (aA1 vq (aE (aD (aB (aA1 vq ?_)))))));refine ql_conv (H':=[.ow (.slice none 0 0) 37 2 0 []]) (fun w' hs=>Sat.ownil hs 37 2) ?_;refine bU (q:=l.length) sl2 J J J (fun v'=>by repeat constructor) (fun w' hs=>⟨lo,hi,RdS.row (RdE.keep h hs.chg0)⟩) (spC_one l) qG qG (fun u=> ?_);(refine aA1 vq (aE (aQ ?_)));refine aA2 wq qF fun w hs=> ?_
 exact⟨u,J,by simpa using hs⟩
theorem cloneS_ca5(w:World)(lo hi:Nat)(v:Value)(l:List (Int×Int))(h:RdS w lo hi v l)(hlen:l.length≤1000000):Ca Tryz.prog 64 [v] w fun r w'=>∃u:Value,r=u∧Sat w M0 [.ow u 40 2 l.length (spC l)] w':=by
 obtain⟨a,ca,rfl,_⟩:=RdS.outI h;refine cM (Sat.nil w M0) Tryz.func64 J (by simp[Tryz.ntmps64]) ?_;(refine aD (aB (aA1 vq (aE (aD (aB (aA1 vq ?_)))))));refine ql_conv (H':=[.ow (.slice none 0 0) 40 2 0 []]) (fun w' hs=>Sat.ownil hs 40 2) ?_;refine bU (q:=l.length) slS J J J (fun v'=>by repeat constructor) (fun w' hs=>⟨lo,hi,RdS.row (RdE.keep h hs.chg0)⟩) (spC_one l) qG qG (fun u=> ?_);(refine aA1 vq (aE (aQ ?_)));refine aA2 wq qF fun w hs=> ?_
 exact⟨u,J,by simpa using hs⟩
theorem dR:arrB Tryz.prog 37 2 3 1=true:=by kernel_rfl
theorem two_arr:arrIB Tryz.prog 37 2 3=true:=by kernel_rfl
theorem eq2_ca(w:World)(lo hi lo2 hi2:Nat)(v u:Value)(l:List (Int×Int))(h1:RdS w lo hi v l)(h2:RdS w lo2 hi2 u l)(hlen:l.length≤1000000) :
  Ca Tryz.prog 73 [v,u] w fun r w'=>r= .bool true∧Chg [] w w':=by
 obtain⟨a,ca,rfl,hsa⟩:=RdS.outI h1;obtain⟨b,cb,rfl,hsb⟩:=RdS.outI h2;refine cM (Sat.nil w M0) Tryz.func73 J (by simp[Tryz.ntmps73]) ?_;(refine aD (aB (aA1 vq (aE (aD (aD (aB ?_))))));(iterate 4 refine aA1 vq ?_);refine aB1 yq qG (aE (aF J (aJ (aD (aD (aB ?_))))));(iterate 3 refine aA1 vq ?_);refine aE (aK ?_));refine bD (σ:=Nat) (fun s=>s≤l.length) (fun s=>l.length-s) (fun s=>[(0,.slice a l.length ca),(1,.slice b l.length cb),(12,.int .i64 l.length),(13,.int .i64 s)]) (fun _=>[]) 0 qG ⟨J,J,J,J,trivial⟩ qF ?_;intro i hi K hK;(refine aD (aB (aA1 vq (aE (aD ?_)))));refine cP J (fun hc=> ?_) (fun hc=> ?_)
 ·have hi2:i<l.length:=by omega
  clear hc;obtain⟨ba,oa,rfl⟩:=hsa qG;obtain⟨bb,ob,rfl⟩:=hsb qG;(refine aJ (aD (aK (aD (aB (aA1 vq (aA1 vq (aE (aD ?_)))))))));refine bY _ [] (Sp.refl _) qI qI ?_;(refine aB2 yq (aB2 yq ?_));refine aB5 uq qG qG ?_;refine dX qE J J J J (fun w hs=>RdS.at (RdE.keep h1 hs.chg0) i hi2) ?_;(refine aB2 yq (aB2 yq ?_));refine aB5 uq qG qG ?_;refine dX qE J J J J (fun w hs=>RdS.at (RdE.keep h2 hs.chg0) i hi2) ?_;refine qf_neSame (l:=[l[i].1,l[i].2]) two_arr J J J J ?_;(refine aT (aF J (aJ (aW (aB (aA4 xq qG qG (aA1 vq (aE ?_))))))));exact hK (i+1) _ _ qG qG ⟨J,J,J,J,trivial⟩ qF
 ·(refine aZ _ J (aD (aB (aA1 vq (aE (aQ ?_))))))
  refine aA2 wq qF fun w hs=> ?_;exact⟨J,hs.chg0⟩
theorem gaps_no(w:World)(lo hi:Nat)(v:Value)(st:List Int)(h:RdI w lo hi v st)(hne:cD st≠0):Ca Tryz.prog 70 [v] w fun x w'=>x= .tuple #[.slice none 0 0,.int .i64 (cD st)]∧Chg [] w w':=by
 refine cM (Sat.nil w M0) Tryz.func70 J (by simp[Tryz.ntmps70]) ?_;(refine aD (aB (aA1 vq (aA1 vq (aE (aD (aB (aA1 vq ?_))))))));refine aI (val:= .tuple #[.slice none 0 0,.int .i64 0,.int .i64 (cD st)]) qE J J J J (fun w hs=> ?_) ?_;exact match_no w lo hi v st (RdE.keep h hs.chg0) hne;(refine aA1 vq ?_;(iterate 3 refine aA7 yq ?_);(iterate 3 refine aA1 vq ?_);refine aE (aD (aD (aB (aA1 vq (aB0 yq qG (aE (aH J (aD (aB ?_)))))))));(iterate 3 refine aA1 vq ?_);refine aE (aQ ?_));refine aA2 wq qF fun w hs=> ?_;exact⟨J,hs.chg0⟩
def prL:List Int→List (Int×Int)
 | a::b::r=>(a,b)::prL r
 | _=>[]
theorem prL_cells:∀L:List Int,L.length%2=0→bF L=spC (prL L)
 | [],_=>rfl
 | [_],h=>by simp at h
 | a::b::r,h=>by
  have ih:=prL_cells r (by simp at h;omega)
  show[Value.int .i64 a,.int .i64 b]++bF r=[Value.int .i64 a,.int .i64 b]++spC (prL r)
  rw[ih]
theorem prL_len:∀L:List Int,L.length%2=0→2*(prL L).length=L.length
 | [],_=>rfl
 | [_],h=>by simp at h
 | a::b::r,h=>by
  have ih:=prL_len r (by simp at h;omega);simp only[prL,List.length_cons];omega
theorem prL_flat:∀L:List Int,L.length%2=0→flP (prL L)=L
 | [],_=>rfl
 | [_],h=>by simp at h
 | a::b::r,h=>by
  have ih:=prL_flat r (by simp at h;omega)
  show[a,b]++flP (prL r)=a::b::r
  rw[ih]
  rfl
def gpP(st:List Int)(P:List (Int×Int)):List (Int×Int):=P.flatMap fun p=>if stK st p.1<stK st p.2 then[(stK st p.1,stK st p.2)] else[]
theorem gpP_eq(st:List Int):∀L:List Int,gpP st (prL L)=gpV (L.map (stK st))
 | []=>rfl
 | [_]=>rfl
 | a::b::r=>by
  have ih:=gpP_eq st r
  show(if stK st a<stK st b then[(stK st a,stK st b)] else[])++gpP st (prL r)=gpV (stK st a::stK st b::r.map (stK st))
  rw[ih];simp only[gpV];split<;>rfl
theorem gpP_take(st:List Int)(P:List (Int×Int))(k:Nat)(hk:k<P.length):gpP st (P.take (k+1))=gpP st (P.take k)++if stK st P[k].1<stK st P[k].2 then[(stK st P[k].1,stK st P[k].2)] else[]:=by
 rw[List.take_succ_eq_append_getElem hk];unfold gpP;rw[List.flatMap_append];simp
theorem gpP_len(st:List Int)(P:List (Int×Int))(k:Nat):(gpP st (P.take k)).length≤k:=by
 induction k with
 | zero=>simp[gpP]
 | succ k ih=>
  by_cases hk:k<P.length
  ·rw[gpP_take st P k hk,List.length_append];split<;>simp<;>omega
  ·rw[List.take_of_length_le qG] at ih ⊢;omega
theorem stK_at{st:List Int}{x:Int}(h:0≤x∧x<st.length):stK st x=st[x.toNat]'qG:=by
 unfold stK;rw[List.getD_eq_getElem?_getD,List.getElem?_eq_getElem qG,Option.getD_some]
theorem gaps_ok(w:World)(lo hi:Nat)(v:Value)(st:List Int)(h:RdI w lo hi v st)(hs0:SingOk st):Ca Tryz.prog 70 [v] w fun x w'=>∃u:Value,x= .tuple #[u,.int .i64 0]∧Sat w M0 [.ow u 40 2 (gpV (srtV st)).length (spC (gpV (srtV st)))] w':=by
 have hl1:=hs0.l1;have hl2:=hs0.l2;have hev:=hs0.ev;have hLl:=iI st;have he2:(eE st).length%2=0:=by omega
 have hgp:=gpP_eq st (eE st);have hcl:=prL_cells (eE st) he2;have hpl:=prL_len (eE st) he2
 have hin:∀p∈prL (eE st),(0≤p.1∧p.1<st.length)∧0≤p.2∧p.2<st.length:=fun p hp=>by
  have hf:=prL_flat (eE st) he2;have h1:p.1∈flP (prL (eE st)):=List.mem_flatMap.2 ⟨p,hp,.head _⟩;have h2:p.2∈flP (prL (eE st)):=List.mem_flatMap.2 ⟨p,hp,.tail _ (.head _)⟩;rw[hf] at h1 h2;obtain⟨i,hi1,e1⟩:=List.getElem_of_mem h1;obtain⟨j,hj1,e2⟩:=List.getElem_of_mem h2;have a1:=soft_in hi1;have a2:=soft_in hj1;rw[e1] at a1;rw[e2] at a2;exact⟨a1,a2⟩
 show Ca _ _ _ _ fun x w'=>∃u:Value,x= .tuple #[u,.int .i64 0]∧Sat w M0 [.ow u 40 2 (gpV ((eE st).map (stK st))).length (spC (gpV ((eE st).map (stK st))))] w'
 rw[←hgp];obtain⟨a,c,rfl,ha⟩:=RdI.outI h;obtain⟨ab,ao,rfl⟩:=ha qG;refine cM (Sat.nil w M0) Tryz.func70 J (by simp[Tryz.ntmps70]) ?_;(refine aD (aB (aA1 vq (aA1 vq (aE (aD (aB (aA1 vq ?_))))))));refine bB (β:=Value) (ψ:=fun u v=>v= .tuple #[u,.int .i64 (costF st (eE st)),.int .i64 0]) (L':=fun u=>[.ow u 37 2 (st.length/2) (bF (eE st))]) qE [] _ M0 J J J J (Sp.refl _) qJ (fun w' hs=>match_ok w' lo hi _ st (RdE.keep h hs.chg0) hs0) ?_;rintro u _ rfl;dsimp only[List.cons_append,List.nil_append];rw[hcl];generalize hP:prL (eE st)=P at *;have hPl:st.length/2=P.length:=by omega
 have hP8:P.length≤8:=by omega
 rw[hPl];clear hcl hgp hPl;refine bW (fun w hs=>hs.slice2 (v:=u) qF) ?_;rintro⟨ua,uc,rfl⟩;(refine aA1 vq ?_;(iterate 3 refine aA7 yq ?_);(iterate 3 refine aA1 vq ?_);refine aE (aD (aD (aB (aA1 vq (aB1 yq qG (aE (aF J (aJ (aD (aB (aA1 vq ?_)))))))))));refine aE (aD (aD (aB ?_)));(iterate 3 refine aA1 vq ?_);refine aE (aK ?_));refine cQ (H':=[.ow (.slice none 0 0) 40 2 0 (spC []),.ow (.slice ua P.length uc) 37 2 P.length (spC P)]) (fun w' hs=>Sat.ownil hs 40 2) ?_
 refine bD (σ:=Nat×Value) (fun q=>q.1≤P.length) (fun q=>P.length-q.1) (fun q=>[(0,.slice (some ⟨ab,ao,none⟩) st.length c),(7,q.2),(20,.slice ua P.length uc),(21,.int .i64 P.length),(22,.int .i64 q.1)])
  (fun q=>[.ow q.2 40 2 (gpP st (P.take q.1)).length (spC (gpP st (P.take q.1))),.ow (.slice ua P.length uc) 37 2 P.length (spC P)]) (0,.slice none 0 0) (by simp) ⟨rfl,rfl,rfl,rfl,rfl,trivial⟩ (by simp[gpP];repeat constructor) ?_
 rintro⟨k,gv⟩ hk K hK;dsimp only at hk ⊢;(refine aD (aB (aA1 vq (aE (aD ?_)))));refine cP J (fun hc=> ?_) (fun hc=> ?_)
 ·have hk2:k<P.length:=by omega
  clear hc;have hpk:=hin _ (List.getElem_mem hk2);have hgt:=gpP_take st P k hk2;have hgl:=gpP_len st P k;have n1:=stK_at hpk.1;have n2:=stK_at hpk.2;refine dO (fun w hs=>hs.ownSome (v:= .slice ua P.length uc) qF qG) ?_;rintro⟨g0,d0,e⟩;cases e
  (refine aJ (aD (aK (aD (aB ?_)))))
  refine aA5 uq qG qG ?_;refine eJ (cs:=[.int .i64 P[k].1,.int .i64 P[k].2]) qE J J J J (fun w hs=>RdS.at (jG (t:=37) (hs.mem (c:= .ow (aB7 g0 P.length uc) 37 2 P.length (spC P)) qF) J) k hk2) ?_;generalize P[k]=pk at *;obtain⟨p1,p2⟩:=pk;dsimp only at hpk hgt n1 n2 ⊢;refine bJ zero37 J (fun b9=> ?_);(refine aA6 uq qF J ?_;refine aE (aD ?_));refine bY _ [] (Sp.refl _) qI qI ?_;(refine aB2 yq ?_);refine dK dR J J J qG qG ?_;(refine aX qE J J J ?_);refine aB5 uq qG qG ?_;refine bA (v:= .int .i64 (stK st p1)) qE J J J (fun w hs=>(RdI.at (RdE.keep h hs.chg0) p1.toNat qG).trans (by rw[n1])) ?_;(refine aB2 yq ?_);refine dK dR J J J qG qG ?_;(refine aX qE J J J ?_);refine aB5 uq qG qG ?_;refine bA (v:= .int .i64 (stK st p2)) qE J J J (fun w hs=>(RdI.at (RdE.keep h hs.chg0) p2.toNat qG).trans (by rw[n2])) ?_;refine qf_mk #[.int .i64 (stK st p1),.int .i64 (stK st p2)] J qI J ?_;refine bS zero40 J (fun b10=> ?_);by_cases hlt:stK st p1<stK st p2
  ·rw[if_pos hlt] at hgt;(refine iG qE J J J J J qF J ?_;refine aT (aD (aB (aA1 vq ?_)));refine aL qE J J J ?_;refine aA1 vq ?_;refine aL qE J J J ?_;refine dU qE J J J qG (aE (aH J (aB (aA1 vq ?_))));refine aM qE J J J ?_);refine cI 40 [.int .i64 (stK st p1),.int .i64 (stK st p2)] J qI J (fun bn=> ?_);refine bU (q:=1) (news:=[.int .i64 (stK st p1),.int .i64 (stK st p2)]) slS J J J (fun v'=>by repeat constructor) (fun w' hs=>⟨_,_,Blk.rdN (hs.blk (b:=bn) qF) J⟩) (by simp[dA]) qG qG (fun u'=> ?_);(refine aA1 vq (aE (aW (aB (aA4 xq qG qG (aA1 vq (aE ?_)))))));exact hK (k+1,u') _ _ (by dsimp only;omega) (by dsimp only;omega) ⟨J,J,J,J,J,trivial⟩ (by dsimp only;rw[hgt,List.length_append];simp only[spC,List.flatMap_append,List.flatMap_cons,List.flatMap_nil,List.append_nil];repeat constructor)
  ·rw[if_neg hlt,List.append_nil] at hgt;(refine iG qE J J J J J qF J ?_;refine aT (aD (aB (aA1 vq ?_)));refine aL qE J J J ?_;refine aA1 vq ?_;refine aL qE J J J ?_;refine cS qE J J J qG (aE (aF J (aJ (aW (aB (aA4 xq qG qG (aA1 vq (aE ?_)))))))));exact hK (k+1,gv) _ _ (by dsimp only;omega) (by dsimp only;omega) ⟨J,J,J,J,J,trivial⟩ (by dsimp only;rw[hgt];repeat constructor)
 ·obtain rfl:k=P.length:=by omega
  rw[List.take_length];(refine aZ _ J (aD (aB ?_));(iterate 3 refine aA1 vq ?_);refine aE (aQ ?_));refine aA2 wq qF fun w hs=> ?_
  exact⟨gv,J,hs.sp qF⟩
theorem idxF_two(w:World)(lo hi:Nat)(v cv:Value)(es:List Value)(p:Value→Bool)(hrd:RdE w lo hi v 2 es)(hagg:∀i (hi:i<es.length),∃c,es[i]= .agg c)(hlen:es.length<4611686018427387904)(hp:PredAt Tryz.prog tab w cv es p) :
  Ca Tryz.prog 168 [v,cv] w fun r w'=>((∃i:Nat,r= .int .i64 i∧∃hi:i<es.length,p es[i]=true)∨(r= .int .i64 (-1)∧∀x∈es,p x=false))∧Chg [] w w':=by
 obtain⟨a,cap,rfl,hsl⟩:=hrd.out;obtain⟨g,first,caps,rfl,hg,hcl⟩:=hp;refine kV Tryz.func168 J (by simp[Tryz.ntmps168]) ?_;(refine cO (bI (aA0 vq (cO (cO (bI ?_)))));(iterate 3 refine aA0 vq ?_);refine iL ?_)
 refine y_loop (fun m l wr=>∃k:Nat,k≤es.length∧m=es.length-k∧l=[(0,.slice a es.length cap),(1,.func (.func g) first caps),(7,.int .i64 es.length),(8,.int .i64 k)]∧(∀i (hi:i<es.length),i<k→p es[i]=false)∧Chg [] w wr) (m:=es.length)
  ⟨0,by omega,rfl,rfl,fun i _ hi=>by omega,Chg.refl _ _⟩ ⟨rfl,rfl,rfl,rfl,trivial⟩ ?_
 rintro m l wr ⟨k,hkl,rfl,rfl,hpk,hcw⟩ K hK;(refine cO (bI (aA0 vq (cO ?_))));refine y_if J (fun hc=> ?_) (fun hc=> ?_)
 ·have hk:k<es.length:=by omega
  obtain⟨b,off,rfl⟩:=hsl qG;(refine mJ (cO (iL (cO (bI (aA0 vq (aA0 vq (cO (bI ?_))))))));(iterate 3 refine aA0 vq ?_));refine mO qE J J J J J qG qG ?_;refine pQ qE J J J (cs:=es[k].cells.toList) (by simpa using hrd.sz es[k] (List.getElem_mem hk)) (fun j hj=>(hrd.keep hcw).cell k j hk hj) ?_
  have hval:Value.agg es[k].cells.toList.toArray=es[k]:=by
   obtain⟨c,hc⟩:=hagg k hk;rw[hc];simp[Value.cells]
  rw[hval];refine eC qE J hg J J (hcl wr hcw es[k] (List.getElem_mem hk)) ?_;rintro _ w2 ⟨rfl,hc2⟩;(refine lW ?_);refine qC J (fun hc=> ?_) (fun hc=> ?_)
  ·(refine cO (bI (aA0 vq (aA0 vq (fM ?_)))))
   exact dV J J ⟨.inl ⟨k,J,hk,hc⟩,hcw.trans hc2⟩
  ·(refine mJ (bI (aA0 vq (aA0 vq (lW ?_)))))
   refine y_k (hK _ _ _ _ ⟨k+1,by omega,J,J,fun i hi hik=> ?_,hcw.trans hc2⟩ qG ⟨J,J,J,?_,trivial⟩)
   ·by_cases h:i<k
    ·exact hpk i hi h
    ·obtain rfl:i=k:=by omega
     exact hc
   ·show some (Value.int _ (IntKind.i64.wrap (↑k+1)))=_
    rw[w64 qG qG]
    rfl
 ·(refine y_exit _ J (cO (bI (aA0 vq (fM ?_)))))
  refine dV J J ⟨.inr ⟨J,fun x hx=> ?_⟩,hcw⟩;obtain⟨i,hi,rfl⟩:=List.getElem_of_mem hx;exact hpk i hi qG
theorem conF_two(w:World)(lo hi:Nat)(v cv:Value)(es:List Value)(p:Value→Bool)(hrd:RdE w lo hi v 2 es)(hagg:∀i (hi:i<es.length),∃c,es[i]= .agg c)(hlen:es.length<4611686018427387904)(hp:PredAt Tryz.prog tab w cv es p) :
  Ca Tryz.prog 148 [v,cv] w fun r w'=>r= .bool (es.any p)∧Chg [] w w':=by
 refine kV Tryz.func148 J (by simp[Tryz.ntmps148]) ?_;(refine cO (bI (aA0 vq (cO (bI (aA0 vq (aA0 vq ?_)))))));refine eC qE J J J J (idxF_two w lo hi v cv es p hrd hagg hlen hp) ?_;rintro r w2 ⟨⟨i,rfl,hi,hpi⟩|⟨rfl,hall⟩,hc2⟩
 ·(refine aA0 vq (aA0 vq (fM ?_)))
  refine dV J J ⟨?_,hc2⟩;have h1:es.any p=true:=List.any_eq_true.2 ⟨_,List.getElem_mem hi,hpi⟩;rw[h1];exact congrArg Value.bool (decide_eq_true qG)
 ·(refine aA0 vq (aA0 vq (fM ?_)))
  refine dV J J ⟨?_,hc2⟩;have h1:es.any p=false:=List.any_eq_false.2 (fun x hx=>by simp[hall x hx]);rw[h1]
  rfl
theorem all1_two(w:World)(b t:Nat)(cv x:Value)(es:List Value)(p:Value→Bool)(hx:∃c,x= .agg c∧c.size=2)(hm:x∈es)(hb:Blk w b [cv] t)(hp:PredAt Tryz.prog tab w cv es p) :
  Ca Tryz.prog 149 [x,aB8 b] w fun r w'=>r= .bool (!(p x))∧Chg [] w w':=by
 obtain⟨g,first,caps,rfl,hg,hcl⟩:=hp;obtain⟨c,rfl,hcs⟩:=hx;refine kV Tryz.func149 J (by simp[Tryz.ntmps149]) ?_;(refine cO (bI ?_));refine yl_box J J (fun w1 hc1 hs1 hb1=> ?_);have hb':=hb.keep hc1;(refine aA0 vq (cO (bI ?_));refine yl_loadB qE J J J (by assumption) (by rfl) ?_);refine yl_loadAB qE J J J hb1 (us:=c.toList) (List.take_of_length_le (by simp[Value.cells,hcs])) (by simpa using hcs) ?_;refine eC qE J hg J J (hcl w1 hc1 _ hm) ?_;rintro _ w2 ⟨rfl,hc2⟩;(refine aA0 vq (aA0 vq (fM ?_)));exact dV J J ⟨J,hc1.trans hc2⟩
theorem all_two(w:World)(lo hi:Nat)(v cv:Value)(es:List Value)(p:Value→Bool)(hrd:RdE w lo hi v 2 es)(hagg:∀i (hi:i<es.length),∃c,es[i]= .agg c)(hlen:es.length<4611686018427387904)(hp:PredAt Tryz.prog tab w cv es p) :
  Ca Tryz.prog 124 [v,cv] w fun r w'=>r= .bool (es.all p)∧Chg [] w w':=by
 refine kV Tryz.func124 J (by simp[Tryz.ntmps124]) ?_;(refine cO (bI ?_));refine yl_box J J (fun w1 hc1 hs1 hb1=> ?_);have hcv:cv.cells.toList=[cv]:=by obtain⟨g,first,caps,rfl,_,_⟩:=hp;rfl
 rw[hcv] at hb1
 have hp1:PredAt Tryz.prog tab w1 (.func (.func 149) #[] #[aB8 w.heap.size]) es (fun x=> !(p x)):=by
  refine⟨149,#[],#[_],J,J,fun w' hw' x hx=> ?_⟩;refine all1_two w' w.heap.size _ cv x es p ?_ hx (hb1.keep hw') (hp.keep (hc1.trans hw'));obtain⟨i,hi,rfl⟩:=List.getElem_of_mem hx;obtain⟨c,hc⟩:=hagg i hi;exact⟨c,hc,by have:=hrd.sz _ hx;rw[hc] at this;exact this⟩
 (refine aA0 vq (cO (bI (aA0 vq (aA0 vq ?_)))))
 refine eC qE J J J J (conF_two w1 lo hi v _ es _ (hrd.keep hc1) hagg hlen hp1) ?_;rintro _ w2 ⟨rfl,hc2⟩;(refine aA0 vq (aA0 vq (fM ?_)));refine dV J J ⟨?_,hc1.trans hc2⟩;rw[List.all_eq_not_any_not]
def pPr(n:Nat):Value→Bool
 | .agg cs=>match cs.toList with
  | [.int _ a,.int _ b]=>jT n (a,b)
  | _=>false
 | _=>false
theorem pPr_all(n:Nat)(l:List (Int×Int)):(l.map rtV).all (pPr n)=l.all (jT n):=by
 rw[List.all_map]
 rfl
theorem rtV_agg(l:List (Int×Int)):∀i (hi:i<(l.map rtV).length),∃c,(l.map rtV)[i]= .agg c:=fun i hi=>⟨_,by rw[List.getElem_map]⟩
theorem cost1_p(w:World)(l:List (Int×Int))(a:Option Addr)(n c b t:Nat)(hn:n≤16)(hb:Blk w b [.slice a n c] t):PredAt Tryz.prog tab w (.func (.func 125) #[] #[aB8 b]) (l.map rtV) (pPr n):=by
 refine⟨_,_,_,J,J,fun w' hw' x hx=> ?_⟩;have hb':=hb.keep hw';obtain⟨⟨x,y⟩,hy,rfl⟩:=List.mem_map.1 hx;refine cM (Sat.nil w' M0) Tryz.func125 J (by simp[Tryz.ntmps125]) ?_;(refine aD (aB ?_));refine bN J J (fun b2=> ?_);(refine aA1 vq (aE (aD (aB ?_))));refine bL dR J J J qG qG ?_;(refine aL qE J J J ?_;refine fB qE J J J (by assumption) (by rfl) ?_;refine aA1 vq (aA4 xq qG qG ?_));refine aI (val:= .bool (inB x 0 (n-1))) qE J J J J (fun w hs=> ?_) ?_;exact cL x 0 (n-1) w;(refine aA1 vq ?_);refine ql_split J J (fun hc=> ?_) (fun hc=> ?_)
 ·(refine aC J ?_)
  refine bL dR J J J qG qG ?_;(refine aC J ?_;refine aL qE J J J ?_;refine aC J ?_;refine fB qE J J J (by assumption) (by rfl) ?_;refine aC J (aA1 vq (aC J (aA4 xq qG qG (aC J ?_)))));refine aI (val:= .bool (inB y 0 (n-1))) qE J J J J (fun w hs=> ?_) ?_;exact cL y 0 (n-1) w;(refine aA1 vq (aA1 vq (aE (aQ ?_))));refine aA2 wq qF fun w hs=> ?_;exact⟨by simp[eW,pPr,jT, *],hs.chg0⟩
 ·((iterate 6 refine aA3 zq ?_);refine aA1 vq (aA1 vq (aE (aQ ?_))))
  refine aA2 wq qF fun w hs=> ?_;exact⟨by simp[eW,pPr,jT, *],hs.chg0⟩
structure UsedI(n:Nat)(U:List Bool)(F:List Int):Prop where
 len:U.length=n
 at_:∀s:Nat,s<n→U[s]? =some (decide ((s:Int)∈F))
theorem UsedI.step{n:Nat}{U:List Bool}{F:List Int}(h:UsedI n U F){x:Int}(hx:0≤x∧x<n):UsedI n (U.set x.toNat true) (F++[x]):=by
 refine⟨by simpa using h.len,fun s hs=> ?_⟩;rw[List.getElem?_set];by_cases e:x.toNat=s
 ·subst e;have:x.toNat<U.length:=by rw[h.len];omega
  have h2:((x.toNat:Nat):Int)=x:=by omega
  rw[if_pos rfl,if_pos this,h2];simp
 ·have h2:¬(s:Int)=x:=by omega
  rw[if_neg e,h.at_ s hs];simp[h2]
theorem flP_take(P:List (Int×Int))(k:Nat)(hk:k<P.length):flP (P.take (k+1))=flP (P.take k)++[P[k].1,P[k].2]:=by
 rw[List.take_succ_eq_append_getElem hk];unfold flP;rw[List.flatMap_append];simp
theorem flP_pre(P:List (Int×Int))(k:Nat):∃r,flP P=flP (P.take k)++r:=by
 refine⟨flP (P.drop k),?_⟩;unfold flP;rw[←List.flatMap_append,List.take_append_drop]
theorem csum_take(st:List Int)(P:List (Int×Int))(k:Nat)(hk:k<P.length):csum st (P.take (k+1))=csum st (P.take k)+cdist st P[k]:=by
 rw[List.take_succ_eq_append_getElem hk];unfold csum;rw[List.map_append,List.sum_append];simp
theorem dup_no{F r:List Int}{x:Int}(h:x∈F):¬(F++x::r).Nodup:=fun hn=>by
 have:=List.nodup_append.1 hn;exact this.2.2 x h x (.head _) J
theorem slB5:SlT Tryz.prog 135 4 1 1 (.bool false):=⟨by kernel_rfl,by kernel_rfl,by kernel_rfl,by decide⟩
theorem cost_ca5(w:World)(lo hi lo2 hi2:Nat)(v u:Value)(st:List Int)(P:List (Int×Int))(h:RdI w lo hi v st)(hu:RdS w lo2 hi2 u P)(hP:P.length≤1000000):Ca Tryz.prog 65 [v,u] w fun x w'=>x= .tuple #[.int .i64 (gS st P).1,.int .i64 (gS st P).2]∧Chg [] w w':=by
 obtain⟨a,c,rfl,ha⟩:=RdI.outI h;obtain⟨pa,pc,rfl,hpa⟩:=RdS.outI hu;refine cM (Sat.nil w M0) Tryz.func65 J (by simp[Tryz.ntmps65]) ?_;(refine aD (aB ?_));refine bN J J (fun b2=> ?_);(refine aA1 vq (aA1 vq (aE (aD (aB ?_))));refine aL qE J J J ?_);refine aI (val:= .int .i64 (cD st)) qE J J J J (fun w hs=> ?_) ?_;exact mX w lo hi _ st (RdE.keep h hs.chg0);by_cases he:cD st=0
 ·have hs0:=gP.1 he;have hl1:=hs0.l1;have hl2:=hs0.l2;by_cases hlen:2*P.length=st.length
  ·(refine aA1 vq (aE (aD (aK (aD (aB (aA1 vq (aB1 yq qG (aA1 vq (aE (aF J (aD ?_)))))))))));refine aB (aA1 vq (aA1 vq (aA4 xq qG qG ?_)));refine aL qE J J J ?_;refine aA1 vq (aB1 yq qG (aA1 vq (aE (aF J (aD (aB (aA1 vq (aA1 vq ?_)))))))))
   refine aI (val:= .bool (P.all (jT st.length))) qE J J J J (fun w hs=> ?_) ?_;exact by have:=all_two w lo2 hi2 _ _ (P.map rtV) (pPr st.length) (RdE.keep hu hs.chg0) (rtV_agg P) (by simp;omega) (cost1_p w P a st.length c b2 _ hl2 (hs.blk qF));rw[pPr_all] at this;exact this
   cases hall:P.all (jT st.length) with
   | false=>
    have e:gS st P=(0,1):=by unfold gS;rw[if_neg (by simpa using he),if_neg qG,if_pos hall]
    rw[e];(refine aA1 vq (aA1 vq (aE (aH J (aD (aB (aA1 vq (aA1 vq (aE (aQ ?_))))))))));refine aA2 wq qF fun w hs=> ?_
    exact⟨J,hs.chg0⟩
   | true=>
    have e:gS st P=if(flP P).Nodup then(csum st P,0) else(0,5):=by unfold gS;rw[if_neg (by simpa using he),if_neg qG,if_neg (by rw[hall];simp)]
    rw[e]
    have hin:∀p∈P,(0≤p.1∧p.1<st.length)∧0≤p.2∧p.2<st.length:=fun p hp=>by
     have:=List.all_eq_true.1 hall p hp;unfold jT at this;rw[Bool.and_eq_true] at this;have a1:=bX.1 this.1;have a2:=bX.1 this.2;omega
    clear e;(refine aA1 vq (aA1 vq (aE (aF J (aJ (aW (aD (aB ?_)))))));refine aL qE J J J ?_;refine aA1 vq ?_);refine ql_makeZ slB5 J J J J qG qG (fun gu=> ?_);(refine aA1 vq (aE (aD (aB (aA1 vq (aE (aD (aD (aB ?_))))))));(iterate 3 refine aA1 vq ?_);refine aE (aK ?_));rw[show List.replicate st.length (Value.bool false)=(List.replicate st.length false).map Value.bool by simp]
    refine bD (σ:=Nat×List Bool) (fun q=>q.1≤P.length∧UsedI st.length q.2 (flP (P.take q.1))∧(flP (P.take q.1)).Nodup∧0≤csum st (P.take q.1)∧csum st (P.take q.1)≤100000*q.1) (fun q=>P.length-q.1) (fun q=>[(2,aB8 b2),(7,aB7 gu st.length st.length),(8,.int .i64 (csum st (P.take q.1))),(34,.slice pa P.length pc),(35,.int .i64 P.length),(36,.int .i64 q.1)])
     (fun q=>[.pt gu (q.2.map Value.bool) 4,.pt b2 [.slice a st.length c] 22]) (0,List.replicate st.length false) ⟨by omega,⟨by simp,fun s hs=>by simp[hs,flP]⟩,by simp[flP],by simp[csum],by simp[csum]⟩ ⟨rfl,rfl,rfl,rfl,rfl,rfl,trivial⟩ qF ?_
    rintro⟨k,U⟩ ⟨hk,hU,hnd,hc1,hc2⟩ K hK;dsimp only at hk hU hnd hc1 hc2 ⊢;(refine aD (aB (aA1 vq (aE (aD ?_)))));refine cP J (fun hc=> ?_) (fun hc=> ?_)
    ·have hk2:k<P.length:=by omega
     clear hc;obtain⟨pb,po,rfl⟩:=hpa qG;have hpk:=hin _ (List.getElem_mem hk2);have hft:=flP_take P k hk2;have hcs:=csum_take st P k hk2;obtain⟨rr,hrr⟩:=flP_pre P (k+1);rw[hft] at hrr;have n1:=stK_at hpk.1;have n2:=stK_at hpk.2;have b1':=hs0.num _ (List.getElem_mem (show P[k].1.toNat<st.length by omega));have b2':=hs0.num _ (List.getElem_mem (show P[k].2.toNat<st.length by omega));rw[←n1] at b1';rw[←n2] at b2';(refine aJ (aD (aK (aD (aB ?_)))));refine aA5 uq qG qG ?_;refine eJ qE J J J J (fun w hs=>RdS.at (RdE.keep hu hs.chg0) k hk2) ?_;generalize P[k]=pk at *;obtain⟨p1,p2⟩:=pk;dsimp only at hpk hft hcs hrr n1 n2 b1' b2' ⊢;refine bJ zero37 J (fun b10=> ?_);(refine aA6 uq qF J ?_;refine aE (aD (aD (aB ?_)));refine aM qE J J J ?_;refine aA1 vq (aE (aK ?_)))
     refine bD (σ:=Nat×List Bool) (fun q=>q.1≤2∧UsedI st.length q.2 (flP (P.take k)++[p1,p2].take q.1)∧(flP (P.take k)++[p1,p2].take q.1).Nodup) (fun q=>2-q.1) (fun q=>[(2,aB8 b2),(7,aB7 gu st.length st.length),(8,.int .i64 (csum st (P.take k))),(10,aB8 b10),(34,.slice (some ⟨pb,po,none⟩) P.length pc),(35,.int .i64 P.length),(36,.int .i64 k),(40,.agg #[.int .i64 p1,.int .i64 p2]),(41,.int .i64 q.1)])
      (fun q=>[.pt gu (q.2.map Value.bool) 4,.pt b2 [.slice a st.length c] 22,.pt b10 [.int .i64 p1,.int .i64 p2] 37]) (0,U) ⟨by omega,by simpa using hU,by simpa using hnd⟩ ⟨rfl,rfl,rfl,rfl,rfl,rfl,rfl,rfl,rfl,trivial⟩ qF ?_
     rintro⟨i,V⟩ ⟨hi,hV,hvn⟩ K2 hK2;dsimp only at hi hV hvn ⊢;(refine aD (aB (aA1 vq (aE (aD ?_)))));refine cP J (fun hc=> ?_) (fun hc=> ?_)
     ·have hi2:i<2:=by omega
      clear hc
      obtain⟨x,hx,hx1,htk⟩:∃x,(#[Value.int .i64 p1,.int .i64 p2]:Array Value)[(i:Int).toNat]? =some (.int .i64 x)∧(0≤x∧x<st.length)∧[p1,p2].take (i+1)=[p1,p2].take i++[x]:=by
       obtain rfl|rfl:i=0∨i=1:=by omega
       ·exact⟨p1,J,hpk.1,J⟩
       ·exact⟨p2,J,hpk.2,J⟩
      have hxp:∃r',flP P=(flP (P.take k)++[p1,p2].take i)++x::r':=by
       obtain rfl|rfl:i=0∨i=1:=by omega
       ·have:x=p1:=by simpa using htk.symm
        subst this;exact⟨p2::rr,by rw[hrr];simp⟩
       ·have:x=p2:=by simpa using htk.symm
        subst this;exact⟨rr,by rw[hrr];simp⟩
      have hVl:=hV.len;have hxl:x.toNat<V.length:=by omega
      have hVx:=hV.at_ x.toNat qG;rw[show((x.toNat:Nat):Int)=x by omega] at hVx;(refine aJ (aD (aK (aD (aB ?_)))));refine ql_ixA (v:= .int .i64 x) qE dR J J J J qG qG hx ?_;(refine aA1 vq (aE (aD (aD (aB (aA1 vq (aA1 vq ?_)))))));refine aA5 uq qG qG ?_;refine bC (v:= .bool (decide (x∈flP (P.take k)++[p1,p2].take i))) qE J J J (fun w hs=>(Blk.cell (hs.blk (b:=gu) qF) _).trans (by rw[Nat.zero_add,Nat.mul_one,List.getElem?_map,hVx];rfl)) ?_;by_cases hm:x∈flP (P.take k)++[p1,p2].take i
      ·obtain⟨r',hr'⟩:=hxp;rw[if_neg (by rw[hr'];exact dup_no hm),decide_eq_true hm];(refine aE (aH J (aD (aB (aA1 vq (aA1 vq (aE (aQ ?_))))))));refine aA2 wq qF fun w hs=> ?_
       exact⟨J,hs.chg0⟩
      ·rw[decide_eq_false hm];have hst:=hV.step hx1;rw[List.append_assoc,←htk] at hst
       have hnn:(flP (P.take k)++[p1,p2].take (i+1)).Nodup:=by
        rw[htk,←List.append_assoc];refine List.nodup_append.2 ⟨hvn,by simp,fun y hy z hz=> ?_⟩;rw[List.mem_singleton.1 hz];rintro rfl;exact hm hy
       (refine aE (aF J (aJ (aB (aA1 vq (aA1 vq ?_))))))
       refine aA5 uq qG qG ?_;refine cN (i:=0+x.toNat*1) (cs:=V.map Value.bool) qE J J J J qF (by rw[List.length_map];omega) ?_;rw[show(V.map Value.bool).set (0+x.toNat*1) (.bool true)=(V.set x.toNat true).map Value.bool by rw[Nat.zero_add,Nat.mul_one,List.map_set]];(refine aE (aW (aB (aA4 xq qG qG (aA1 vq (aE ?_))))));exact hK2 (i+1,V.set x.toNat true) _ _ ⟨by dsimp only;omega,hst,hnn⟩ (by dsimp only;omega) ⟨J,J,J,J,J,J,J,J,J,trivial⟩ qF
     ·obtain rfl:i=2:=by omega
      clear hc hK2;have e2:[p1,p2].take 2=[p1,p2]:=rfl;rw[e2,←hft] at hV hvn;have hcd:cdist st (p1,p2)=max (stK st p1-stK st p2) (stK st p2-stK st p1):=rfl;rw[hcd] at hcs;obtain⟨ab,ao,rfl⟩:=ha qG;(refine aZ _ J ?_);refine bY _ [] (Sp.refl _) qI qI ?_;(refine aB2 yq ?_;refine aX qE J J J ?_);refine dK dR J J J qG qG ?_;(refine aX qE J J J ?_);refine aB5 uq qG qG ?_;refine bA (v:= .int .i64 (stK st p1)) qE J J J (fun w hs=>(RdI.at (RdE.keep h hs.chg0) p1.toNat qG).trans (by rw[n1])) ?_;(refine aX qE J J J ?_);refine dK dR J J J qG qG ?_;(refine aX qE J J J ?_);refine aB5 uq qG qG ?_;refine bA (v:= .int .i64 (stK st p2)) qE J J J (fun w hs=>(RdI.at (RdE.keep h hs.chg0) p2.toNat qG).trans (by rw[n2])) ?_;(refine aB6 xq qG qG ?_;refine aX qE J J J ?_);refine dK dR J J J qG qG ?_;(refine aX qE J J J ?_);refine aB5 uq qG qG ?_;refine bA (v:= .int .i64 (stK st p2)) qE J J J (fun w hs=>(RdI.at (RdE.keep h hs.chg0) p2.toNat qG).trans (by rw[n2])) ?_;(refine aX qE J J J ?_);refine dK dR J J J qG qG ?_;(refine aX qE J J J ?_);refine aB5 uq qG qG ?_;refine bA (v:= .int .i64 (stK st p1)) qE J J J (fun w hs=>(RdI.at (RdE.keep h hs.chg0) p1.toNat qG).trans (by rw[n1])) ?_;have hmx:0≤max (stK st p1-stK st p2) (stK st p2-stK st p1)∧max (stK st p1-stK st p2) (stK st p2-stK st p1)≤100000:=by omega
      (refine aB6 xq qG qG (aB2 yq (aB6 xq qG qG (aB2 yq (aT (aW (aB (aA4 xq qG qG (aA1 vq (aE ?_))))))))))
      exact hK (k+1,V) _ _ ⟨by dsimp only;omega,hV,hvn,by dsimp only;omega,by dsimp only;omega⟩ (by dsimp only;omega) ⟨J,J,dI J hcs.symm,J,J,J,trivial⟩ qF
    ·obtain rfl:k=P.length:=by omega
     rw[List.take_length] at *;rw[if_pos hnd];(refine aZ _ J (aD (aB ?_));(iterate 3 refine aA1 vq ?_);refine aE (aQ ?_));refine aA2 wq qF fun w hs=> ?_
     exact⟨J,hs.chg0⟩
  ·have e:gS st P=(0,2):=by unfold gS;rw[if_neg (by simpa using he),if_pos hlen]
   rw[e];(refine aA1 vq (aE (aD (aK (aD (aB (aA1 vq (aB1 yq qG (aA1 vq (aE (aF J (aD ?_)))))))))));refine aB (aA1 vq (aA1 vq (aA4 xq qG qG ?_)));refine aL qE J J J ?_;refine aA1 vq (aB0 yq qG (aA1 vq (aE (aH J (aD (aB (aA1 vq (aA1 vq (aE (aQ ?_)))))))))));refine aA2 wq qF fun w hs=> ?_
   exact⟨J,hs.chg0⟩
 ·have e:gS st P=(0,cD st):=by unfold gS;rw[if_pos he]
  rw[e];(refine aA1 vq (aE (aD (aK (aD (aB (aA1 vq (aB0 yq qG (aA1 vq (aE (aH J (aD ?_)))))))))));refine aB ?_;(iterate 3 refine aA1 vq ?_);refine aE (aQ ?_));refine aA2 wq qF fun w hs=> ?_
  exact⟨J,hs.chg0⟩
theorem count_two(F:List Int)(p q s:Int):(F++[p,q]).count s=F.count s+(if p=s then 1 else 0)+if q=s then 1 else 0:=by
 rw[List.count_append,List.count_cons,List.count_cons,List.count_nil];simp only[beq_iff_eq];omega
theorem cdist_eq(st:List Int)(p:Int×Int):max (stK st p.1) (stK st p.2)-min (stK st p.1) (stK st p.2)=cdist st p:=by
 unfold cdist stK;omega
theorem rcost_ca(w:World)(lo hi lo2 hi2:Nat)(v u:Value)(st:List Int)(P:List (Int×Int))(h:RdI w lo hi v st)(hu:RdS w lo2 hi2 u P)(hP:P.length≤1000000):Ca Tryz.prog 66 [v,u] w fun x w'=>x= .tuple #[.int .i64 (gS st P).1,.int .i64 (gS st P).2]∧Chg [] w w':=by
 obtain⟨a,c,rfl,ha⟩:=RdI.outI h;obtain⟨pa,pc,rfl,hpa⟩:=RdS.outI hu;refine cM (Sat.nil w M0) Tryz.func66 J (by simp[Tryz.ntmps66]) ?_;(refine aD (aB (aA1 vq (aA1 vq (aE (aD (aD (aB (aA1 vq ?_)))))))));refine aI (val:= .int .i64 (cD st)) qE J J J J (fun w hs=> ?_) ?_;exact rsing_ca w lo hi _ st (RdE.keep h hs.chg0);by_cases he:cD st=0
 ·have hs0:=gP.1 he;have hl1:=hs0.l1;have hl2:=hs0.l2;obtain⟨ab,ao,rfl⟩:=ha qG;by_cases hlen:2*P.length=st.length
  ·have e0:gS st P=if P.all (jT st.length)=false then(0,1) else if(flP P).Nodup then(csum st P,0) else(0,5):=by unfold gS;rw[if_neg (by simpa using he),if_neg qG]
   rw[e0];(refine aA1 vq (aE (aD (aB (aA1 vq (aB1 yq qG (aE (aF J (aJ (aD (aD (aB ?_)))))))))));refine aA1 vq (aA1 vq (aA4 xq qG qG (aA1 vq (aA1 vq (aB1 yq qG (aE (aF J (aJ (aD (aD (aB ?_)))))))))));refine aA1 vq (aE (aK ?_)));refine bD (σ:=Nat) (fun k=>k≤P.length∧(P.take k).any (fun p=> !(jT st.length p))=false) (fun k=>P.length-k) (fun k=>[(0,.slice (some ⟨ab,ao,none⟩) st.length c),(1,.slice pa P.length pc),(7,.int .i64 k)]) (fun _=>[]) 0 ⟨by omega,by simp⟩ ⟨J,J,J,trivial⟩ qF ?_;rintro k ⟨hk,hany⟩ K hK;(refine aD (aD (aB ?_));(iterate 4 refine aA1 vq ?_);refine aE ?_);refine cP J (fun hc=> ?_) (fun hc=> ?_)
   ·have hk2:k<P.length:=by omega
    clear hc;obtain⟨pb,po,rfl⟩:=hpa qG;have hat:=jE (fun p:Int×Int=> !(jT st.length p)) P hk2 hany
    have hbad:jT st.length P[k]=false→P.all (jT st.length)=false:=fun hb=>by
     rw[←Bool.not_eq_true];intro h5;have:=List.all_eq_true.1 h5 _ (List.getElem_mem hk2);rw[hb] at this;cases this
    have l1:∀w',Chg [] w w'→w'.cell? ⟨pb,po+(k:Int).toNat*2+Int.toNat 0*1,none⟩=some (.int .i64 P[k].1):=fun w' hc=>RdS.at (RdE.keep hu hc) k hk2 0 (by decide)
    have l2:∀w',Chg [] w w'→w'.cell? ⟨pb,po+(k:Int).toNat*2+Int.toNat 1*1,none⟩=some (.int .i64 P[k].2):=fun w' hc=>RdS.at (RdE.keep hu hc) k hk2 1 (by decide)
    unfold jT at hat;generalize P[k]=pk at *;obtain⟨p1,p2⟩:=pk;dsimp only at hat hbad l1 l2;(refine aJ (aD (aK (aD (aB (aA1 vq (aA1 vq ?_)))))));refine aA5 uq qG qG ?_;refine bL dR J J J qG qG ?_;refine bC (v:= .int .i64 p1) qE J J J (fun w hs=>l1 w hs.chg0) ?_;(refine aA1 vq (aA1 vq (aA4 xq qG qG ?_)));refine aI (val:= .bool (!(inB p1 0 ((st.length:Int)-1)))) qE J J J J (fun w hs=> ?_) ?_;exact fS p1 0 ((st.length:Int)-1) w;cases h1:inB p1 0 ((st.length:Int)-1) with
    | false=>
     rw[if_pos (hbad (by unfold jT;rw[h1];rfl))];(refine aA1 vq ?_;(iterate 9 refine aA3 zq ?_);refine aA1 vq (aE (aH J (aD (aB (aA1 vq (aA1 vq (aE (aQ ?_)))))))));refine aA2 wq qF fun w hs=> ?_
     exact⟨J,hs.chg0⟩
    | true=>
     (refine aA1 vq (aC J (aA1 vq (aC J (aA1 vq (aC J ?_))))))
     refine aA5 uq qG qG ?_;(refine aC J ?_);refine bL dR J J J qG qG ?_;(refine aC J ?_);refine bC (v:= .int .i64 p2) qE J J J (fun w hs=>l2 w hs.chg0) ?_;(refine aC J (aA1 vq (aC J (aA1 vq (aC J (aA4 xq qG qG (aC J ?_)))))));refine aI (val:= .bool (!(inB p2 0 ((st.length:Int)-1)))) qE J J J J (fun w hs=> ?_) ?_;exact fS p2 0 ((st.length:Int)-1) w;cases h2:inB p2 0 ((st.length:Int)-1) with
     | false=>
      rw[if_pos (hbad (by unfold jT;rw[h1,h2];rfl))];(refine aA1 vq (aE (aH J (aD (aB (aA1 vq (aA1 vq (aE (aQ ?_)))))))));refine aA2 wq qF fun w hs=> ?_
      exact⟨J,hs.chg0⟩
     | true=>
      (refine aA1 vq (aE (aF J (aJ (aW (aB (aA1 vq (aA4 xq qG qG (aA1 vq (aE ?_))))))))))
      exact hK (k+1) _ _ ⟨by omega,hat (by rw[h1,h2];rfl)⟩ qG ⟨J,J,J,trivial⟩ qF
   ·obtain rfl:k=P.length:=by omega
    clear hc hK hk;rw[List.take_length] at hany
    have hall:P.all (jT st.length)=true:=List.all_eq_true.2 fun p hp=>by
     have:=List.any_eq_false.1 hany p hp;simpa using this
    rw[hall,if_neg (by decide)]
    have hin:∀p∈P,(0≤p.1∧p.1<st.length)∧0≤p.2∧p.2<st.length:=fun p hp=>by
     have:=List.all_eq_true.1 hall p hp;unfold jT at this;rw[Bool.and_eq_true] at this;have a1:=bX.1 this.1;have a2:=bX.1 this.2;omega
    have honce:=once_iff (n:=st.length) (l:=flP P) (by rw[flP_len];exact hlen) (fun x hx=>by
     obtain⟨p,hp,hx⟩:=List.mem_flatMap.1 hx;have:=hin p hp;simp at hx;rcases hx with rfl|rfl<;>omega)
    clear hany hall;(refine aZ _ J (aD (aB (aA1 vq (aE (aD (aD (aB (aA1 vq (aE (aK ?_)))))))))));refine bD (σ:=Nat) (fun s=>s≤st.length∧∀t,t<s→(flP P).count (t:Int)=1) (fun s=>st.length-s) (fun s=>[(0,.slice (some ⟨ab,ao,none⟩) st.length c),(1,.slice pa P.length pc),(8,.int .i64 0),(9,.int .i64 s)]) (fun _=>[]) 0 ⟨by omega,fun t ht=>by omega⟩ ⟨J,J,J,J,trivial⟩ qF ?_;rintro s ⟨hs1,hcnt⟩ K hK;(refine aD (aD (aB ?_));(iterate 4 refine aA1 vq ?_);refine aE ?_);refine cP J (fun hc=> ?_) (fun hc=> ?_)
    ·have hs2:s<st.length:=by omega
     clear hc;(refine aJ (aD (aK (aD (aB (aA1 vq (aE (aD (aD (aB (aA1 vq (aE ?_)))))))))));refine aK ?_);refine bD (σ:=Nat) (fun k=>k≤P.length) (fun k=>P.length-k) (fun k=>[(0,.slice (some ⟨ab,ao,none⟩) st.length c),(1,.slice pa P.length pc),(8,.int .i64 0),(9,.int .i64 s),(10,.int .i64 ((flP (P.take k)).count (s:Int):Nat)),(11,.int .i64 k)]) (fun _=>[]) 0 qG ⟨J,J,J,J,J,J,trivial⟩ qF ?_;rintro k hk K2 hK2;have hcb:(flP (P.take k)).count (s:Int)≤100:=Nat.le_trans List.count_le_length (by rw[flP_len,List.length_take];omega);(refine aD (aD (aB ?_));(iterate 4 refine aA1 vq ?_);refine aE ?_);refine cP J (fun hc=> ?_) (fun hc=> ?_)
     ·have hk2:k<P.length:=by omega
      clear hc;obtain⟨pb,po,rfl⟩:=hpa qG;have hft:=flP_take P k hk2;have l1:∀w',Chg [] w w'→w'.cell? ⟨pb,po+(k:Int).toNat*2+Int.toNat 0*1,none⟩=some (.int .i64 P[k].1):=fun w' hc=>RdS.at (RdE.keep hu hc) k hk2 0 (by decide)
      have l2:∀w',Chg [] w w'→w'.cell? ⟨pb,po+(k:Int).toNat*2+Int.toNat 1*1,none⟩=some (.int .i64 P[k].2):=fun w' hc=>RdS.at (RdE.keep hu hc) k hk2 1 (by decide)
      have hct:=count_two (flP (P.take k)) P[k].1 P[k].2 (s:Int);rw[←hft] at hct;generalize P[k]=pk at *;obtain⟨p1,p2⟩:=pk;dsimp only at l1 l2 hct;(refine aJ (aD (aK (aD (aD (aB (aA1 vq (aA1 vq ?_))))))));refine aA5 uq qG qG ?_;refine bL dR J J J qG qG ?_;refine bC (v:= .int .i64 p1) qE J J J (fun w hs=>l1 w hs.chg0) ?_;by_cases c1:p1=(s:Int)
      ·rw[if_pos c1] at hct;(refine aA1 vq (aA8 yq qG (aE (aH J (aB (aA1 vq (aA4 xq qG qG (aA1 vq (aE (aD (aB (aA1 vq ?_)))))))))));refine aA1 vq ?_);refine aA5 uq qG qG ?_;refine bL dR J J J qG qG ?_;refine bC (v:= .int .i64 p2) qE J J J (fun w hs=>l2 w hs.chg0) ?_;by_cases c2:p2=(s:Int)
       ·rw[if_pos c2] at hct;(refine aA1 vq (aA8 yq qG (aE (aH J (aB (aA1 vq (aA4 xq qG qG (aA1 vq (aE (aW (aB (aA1 vq ?_)))))))))));refine aA4 xq qG qG (aA1 vq (aE ?_)));exact hK2 (k+1) _ _ qG qG ⟨J,J,J,J,dI J qG,J,trivial⟩ qF
       ·rw[if_neg c2] at hct;(refine aA1 vq (aA9 yq qG (aE (aF J (aJ (aW (aB (aA1 vq (aA4 xq qG qG (aA1 vq (aE ?_)))))))))));exact hK2 (k+1) _ _ qG qG ⟨J,J,J,J,dI J qG,J,trivial⟩ qF
      ·rw[if_neg c1] at hct;(refine aA1 vq (aA9 yq qG (aE (aF J (aJ (aD (aB (aA1 vq (aA1 vq ?_)))))))));refine aA5 uq qG qG ?_;refine bL dR J J J qG qG ?_;refine bC (v:= .int .i64 p2) qE J J J (fun w hs=>l2 w hs.chg0) ?_;by_cases c2:p2=(s:Int)
       ·rw[if_pos c2] at hct;(refine aA1 vq (aA8 yq qG (aE (aH J (aB (aA1 vq (aA4 xq qG qG (aA1 vq (aE (aW (aB (aA1 vq ?_)))))))))));refine aA4 xq qG qG (aA1 vq (aE ?_)));exact hK2 (k+1) _ _ qG qG ⟨J,J,J,J,dI J qG,J,trivial⟩ qF
       ·rw[if_neg c2] at hct;(refine aA1 vq (aA9 yq qG (aE (aF J (aJ (aW (aB (aA1 vq (aA4 xq qG qG (aA1 vq (aE ?_)))))))))));exact hK2 (k+1) _ _ qG qG ⟨J,J,J,J,dI J qG,J,trivial⟩ qF
     ·obtain rfl:k=P.length:=by omega
      clear hc hK2;rw[List.take_length] at *;by_cases h1:(flP P).count (s:Int)=1
      ·(refine aZ _ J (aD (aB (aA1 vq (aB1 yq qG (aE (aF J (aJ (aW (aB (aA1 vq (aA4 xq qG qG ?_)))))))))));refine aA1 vq (aE ?_))
       exact hK (s+1) _ _ ⟨by omega,fun t ht=>by
        rcases Nat.lt_or_eq_of_le (Nat.le_of_lt_succ ht) with h5|rfl
        ·exact hcnt t h5
        ·exact h1⟩ qG ⟨J,J,J,J,trivial⟩ qF
      ·rw[if_neg (fun hn=>h1 (honce.1 hn s hs2))];(refine aZ _ J (aD (aB (aA1 vq (aB0 yq qG (aE (aH J (aD (aB (aA1 vq (aA1 vq (aE ?_)))))))))));refine aQ ?_);refine aA2 wq qF fun w hs=> ?_
       exact⟨J,hs.chg0⟩
    ·obtain rfl:s=st.length:=by omega
     clear hc hK;rw[if_pos (honce.2 hcnt)];(refine aZ _ J (aD (aD (aB (aA1 vq (aE (aK ?_)))))));refine bD (σ:=Nat) (fun k=>k≤P.length∧0≤csum st (P.take k)∧csum st (P.take k)≤100000*k) (fun k=>P.length-k) (fun k=>[(0,.slice (some ⟨ab,ao,none⟩) st.length c),(1,.slice pa P.length pc),(8,.int .i64 (csum st (P.take k))),(12,.int .i64 k)]) (fun _=>[]) 0 ⟨by omega,by simp[csum],by simp[csum]⟩ ⟨J,J,J,J,trivial⟩ qF ?_;rintro k ⟨hk,hc1,hc2⟩ K hK;(refine aD (aD (aB ?_));(iterate 4 refine aA1 vq ?_);refine aE ?_);refine cP J (fun hc=> ?_) (fun hc=> ?_)
     ·have hk2:k<P.length:=by omega
      clear hc;obtain⟨pb,po,rfl⟩:=hpa qG;have hpk:=hin _ (List.getElem_mem hk2);have hcs:=csum_take st P k hk2;have hcd:=cdist_eq st P[k];have n1:=stK_at hpk.1;have n2:=stK_at hpk.2;have b1':=hs0.num _ (List.getElem_mem (show P[k].1.toNat<st.length by omega));have b2':=hs0.num _ (List.getElem_mem (show P[k].2.toNat<st.length by omega));rw[←n1] at b1';rw[←n2] at b2';have l1:∀w',Chg [] w w'→w'.cell? ⟨pb,po+(k:Int).toNat*2+Int.toNat 0*1,none⟩=some (.int .i64 P[k].1):=fun w' hc=>RdS.at (RdE.keep hu hc) k hk2 0 (by decide)
      have l2:∀w',Chg [] w w'→w'.cell? ⟨pb,po+(k:Int).toNat*2+Int.toNat 1*1,none⟩=some (.int .i64 P[k].2):=fun w' hc=>RdS.at (RdE.keep hu hc) k hk2 1 (by decide)
      generalize P[k]=pk at *;obtain⟨p1,p2⟩:=pk;dsimp only at l1 l2 hpk hcs hcd n1 n2 b1' b2';(refine aJ (aD (aK (aD ?_))));refine bY _ [] (Sp.refl _) qI qI ?_
      ((iterate 3 refine aB2 yq ?_))
      refine aB5 uq qG qG ?_;refine dK dR J J J qG qG ?_;refine bA (v:= .int .i64 p1) qE J J J (fun w hs=>l1 w hs.chg0) ?_;refine aB5 uq qG qG ?_;refine bA (v:= .int .i64 (stK st p1)) qE J J J (fun w hs=>(RdI.at (RdE.keep h hs.chg0) p1.toNat qG).trans (by rw[n1])) ?_
      ((iterate 3 refine aB2 yq ?_))
      refine aB5 uq qG qG ?_;refine dK dR J J J qG qG ?_;refine bA (v:= .int .i64 p2) qE J J J (fun w hs=>l2 w hs.chg0) ?_;refine aB5 uq qG qG ?_;refine bA (v:= .int .i64 (stK st p2)) qE J J J (fun w hs=>(RdI.at (RdE.keep h hs.chg0) p2.toNat qG).trans (by rw[n2])) ?_;(refine aB2 yq (aB2 yq (aT (aB ?_)));(iterate 4 refine aA1 vq ?_);refine aA4 xq qG qG ?_;(iterate 3 refine aA1 vq ?_);refine aA4 xq qG qG (aA1 vq (aE (aW (aB (aA1 vq (aA4 xq qG qG (aA1 vq (aE ?_)))))))));exact hK (k+1) _ _ ⟨by omega,by omega,by omega⟩ qG ⟨J,J,dI J qG,J,trivial⟩ qF
     ·obtain rfl:k=P.length:=by omega
      rw[List.take_length];(refine aZ _ J (aD (aB ?_));(iterate 3 refine aA1 vq ?_);refine aE (aQ ?_));refine aA2 wq qF fun w hs=> ?_
      exact⟨J,hs.chg0⟩
  ·have e:gS st P=(0,2):=by unfold gS;rw[if_neg (by simpa using he),if_pos hlen]
   rw[e];(refine aA1 vq (aE (aD (aB (aA1 vq (aB1 yq qG (aE (aF J (aJ (aD (aD (aB ?_)))))))))));refine aA1 vq (aA1 vq (aA4 xq qG qG (aA1 vq (aA1 vq (aB0 yq qG (aE (aH J (aD (aB (aA1 vq (aA1 vq ?_)))))))))));refine aE (aQ ?_));refine aA2 wq qF fun w hs=> ?_
   exact⟨J,hs.chg0⟩
 ·have e:gS st P=(0,cD st):=by unfold gS;rw[if_pos he]
  rw[e];(refine aA1 vq (aE (aD (aB (aA1 vq (aB0 yq qG (aE (aH J (aD (aB ?_)))))))));(iterate 3 refine aA1 vq ?_);refine aE (aQ ?_));refine aA2 wq qF fun w hs=> ?_
  exact⟨J,hs.chg0⟩
theorem csum_prL(st:List Int):∀L:List Int,L.length%2=0→(L.map (stK st)).Pairwise (· ≤ ·)→csum st (prL L)=nbV (L.map (stK st))
 | [],_,_=>rfl
 | [_],h,_=>by simp at h
 | a::b::l,h,hp=>by
  rw[List.map_cons,List.map_cons,List.pairwise_cons,List.pairwise_cons] at hp;obtain⟨h1,_,h3⟩:=hp;have ih:=csum_prL st l (by simp at h;omega) h3;have hab:=h1 (stK st b) (.head _);have hc:=cdist_eq st (a,b)
  show cdist st (a,b)+csum st (prL l)=nbV (stK st a::stK st b::l.map (stK st))
  rw[ih,←hc];simp only[nbV];omega
theorem soft_nodup(st:List Int):(eE st).Nodup:=by
 refine(lL (stK st) st.length).nodup_iff.2 ?_;unfold eR;refine List.pairwise_map.2 (List.nodup_range.imp fun {a b} h=> ?_);intro e;apply h;omega
theorem cost_soft{st:List Int}(h:SingOk st):gS st (prL (eE st))=(wsV 100000 st,0):=by
 have he:(eE st).length%2=0:=by rw[iI];exact h.ev
 have hf:=prL_flat (eE st) he;have hl:=prL_len (eE st) he;rw[iI] at hl;have hin:∀x∈eE st,0≤x∧x<st.length:=fun x hx=>ordK_mem.1 hx
 have ha:(prL (eE st)).all (jT st.length)=true:=List.all_eq_true.2 fun p hp=>by
  have h1:=hin p.1 (by rw[←hf];exact List.mem_flatMap.2 ⟨p,hp,.head _⟩);have h2:=hin p.2 (by rw[←hf];exact List.mem_flatMap.2 ⟨p,hp,.tail _ (.head _)⟩);unfold jT;rw[Bool.and_eq_true];exact⟨bX.2 qG,bX.2 qG⟩
 unfold gS;rw[if_neg (by simp[gP.2 h]),if_neg qG,ha,if_neg (by decide),hf,if_pos (soft_nodup st),csum_prL st _ he (srtV_srt st),←costF_nb,soft_ws h]
theorem gpV_len'{st:List Int}(h:SingOk st):(gpV (srtV st)).length≤8:=by
 have h1:=gpV_len (srtV st);rw[srtV_len] at h1;have:=h.l2;omega
set_option maxRecDepth 20000 in
theorem fP(w:World)(lo hi lo2 hi2 lo3 hi3:Nat)(a:Option Addr)(c:Nat)(u s:Value)(st:List Int)(P G:List (Int×Int))(h:RdI w lo hi (.slice a st.length c) st)(hcap:st.length≤c)(h2:RdS w lo2 hi2 u P)(h3:RdS w lo3 hi3 s G)(hl1:st.length≤1000000)(hl2:P.length≤1000000)(hl3:G.length≤1000000) :
  Ca Tryz.prog 12 [.slice a st.length c,u,s] w fun r w'=>r= .bool true∧Chg [] w w':=by
 obtain⟨ua,uc,rfl,hua⟩:=RdS.outI h2;obtain⟨sa,sc,rfl,hsa⟩:=RdS.outI h3;refine cM (Sat.nil w M0) Tryz.func12 J (by simp[Tryz.ntmps12]) ?_;refine aD ?_;refine aB ?_;(refine aA1 vq (aE (aD (aD ?_))));refine kL (σ:=Bool) (fun b=>[(0,.slice a st.length c),(1,.slice ua P.length uc),(2,.slice sa G.length sc),(44,.bool b)]) (fun _=>[]) ?_ ?_;rotate_left
 ·intro K2 hK2;by_cases g1:st.length>10
  ·by_cases g2:st.length≤16
   ·(refine aB (aA1 vq (aA1 vq (aB4 yq qG (aA1 vq (aC J (aA1 vq (aC J (aA1 vq (aC J (oA qE J J J qG (aA1 vq ?_)))))))))));refine aA1 vq ?_;(iterate 3 refine aA3 zq ?_);refine aA1 vq (aA1 vq ?_);(iterate 3 refine aA3 zq ?_);refine aA1 vq (aA1 vq ?_);(iterate 3 refine aA3 zq ?_);refine aA1 vq (aE ?_))
    exact hK2 true _ _ ⟨J,J,J,J,trivial⟩ (Sp.refl _)
   ·by_cases g3:st.length>20
    ·(refine aB (aA1 vq (aA1 vq (aB4 yq qG (aA1 vq (aC J (aA1 vq (aC J (aA1 vq (aC J (gH qE J J J qG (aA1 vq ?_)))))))))));refine aA1 vq (aC J (aA1 vq (aC J (aA1 vq (aC J (aB4 yq qG (aA1 vq (aA1 vq ?_))))))));(iterate 3 refine aA3 zq ?_);refine aA1 vq (aA1 vq ?_);(iterate 3 refine aA3 zq ?_);refine aA1 vq (aE ?_))
     exact hK2 true _ _ ⟨J,J,J,J,trivial⟩ (Sp.refl _)
    ·by_cases g4:P.length>20
     ·(refine aB (aA1 vq (aA1 vq (aB4 yq qG (aA1 vq (aC J (aA1 vq (aC J (aA1 vq (aC J (gH qE J J J qG (aA1 vq ?_)))))))))));refine aA1 vq (aC J (aA1 vq (aC J (aA1 vq (aC J (aB3 yq qG (aA1 vq (aA1 vq (aC J (aA1 vq (aC J ?_)))))))))));refine aA1 vq (aC J (aB4 yq qG (aA1 vq (aA1 vq ?_))));(iterate 3 refine aA3 zq ?_);refine aA1 vq (aE ?_))
      exact hK2 true _ _ ⟨J,J,J,J,trivial⟩ (Sp.refl _)
     by_cases g5:G.length>20
     ·(refine aB (aA1 vq (aA1 vq (aB4 yq qG (aA1 vq (aC J (aA1 vq (aC J (aA1 vq (aC J (gH qE J J J qG (aA1 vq ?_)))))))))));refine aA1 vq (aC J (aA1 vq (aC J (aA1 vq (aC J (aB3 yq qG (aA1 vq (aA1 vq (aC J (aA1 vq (aC J ?_)))))))))));refine aA1 vq (aC J (aB3 yq qG (aA1 vq (aA1 vq (aC J (aA1 vq (aC J (aA1 vq (aC J (aB4 yq qG (aA1 vq ?_)))))))))));refine aE ?_)
      exact hK2 true _ _ ⟨J,J,J,J,trivial⟩ (Sp.refl _)
     (refine aB (aA1 vq (aA1 vq (aB4 yq qG (aA1 vq (aC J (aA1 vq (aC J (aA1 vq (aC J (gH qE J J J qG (aA1 vq ?_)))))))))));refine aA1 vq (aC J (aA1 vq (aC J (aA1 vq (aC J (aB3 yq qG (aA1 vq (aA1 vq (aC J (aA1 vq (aC J ?_)))))))))));refine aA1 vq (aC J (aB3 yq qG (aA1 vq (aA1 vq (aC J (aA1 vq (aC J (aA1 vq (aC J (aB3 yq qG (aA1 vq ?_)))))))))));refine aE ?_)
     exact hK2 false _ _ ⟨J,J,J,J,trivial⟩ (Sp.refl _)
  ·by_cases g4:P.length>20
   ·(refine aB (aA1 vq (aA1 vq (aB3 yq qG (aA1 vq ?_))));(iterate 3 refine aA3 zq ?_);refine aA1 vq (aA1 vq (aC J (aA1 vq (aC J (aA1 vq (aC J (aB3 yq qG (aA1 vq (aA1 vq (aC J (aA1 vq ?_)))))))))));refine aC J (aA1 vq (aC J (aB4 yq qG (aA1 vq (aA1 vq ?_)))));(iterate 3 refine aA3 zq ?_);refine aA1 vq (aE ?_))
    exact hK2 true _ _ ⟨J,J,J,J,trivial⟩ (Sp.refl _)
   by_cases g5:G.length>20
   ·(refine aB (aA1 vq (aA1 vq (aB3 yq qG (aA1 vq ?_))));(iterate 3 refine aA3 zq ?_);refine aA1 vq (aA1 vq (aC J (aA1 vq (aC J (aA1 vq (aC J (aB3 yq qG (aA1 vq (aA1 vq (aC J (aA1 vq ?_)))))))))));refine aC J (aA1 vq (aC J (aB3 yq qG (aA1 vq (aA1 vq (aC J (aA1 vq (aC J (aA1 vq (aC J (aB4 yq qG ?_)))))))))));refine aA1 vq (aE ?_))
    exact hK2 true _ _ ⟨J,J,J,J,trivial⟩ (Sp.refl _)
   (refine aB (aA1 vq (aA1 vq (aB3 yq qG (aA1 vq ?_))));(iterate 3 refine aA3 zq ?_);refine aA1 vq (aA1 vq (aC J (aA1 vq (aC J (aA1 vq (aC J (aB3 yq qG (aA1 vq (aA1 vq (aC J (aA1 vq ?_)))))))))));refine aC J (aA1 vq (aC J (aB3 yq qG (aA1 vq (aA1 vq (aC J (aA1 vq (aC J (aA1 vq (aC J (aB3 yq qG ?_)))))))))));refine aA1 vq (aE ?_))
   exact hK2 false _ _ ⟨J,J,J,J,trivial⟩ (Sp.refl _)
 rintro b;cases b with
 | true=>
  (refine aH J (aD (aB ?_)))
  refine aI (val:= .bool true) qE J J J J (fun w hs=> ?_) ?_;exact cZ w;(refine aA1 vq (aE (aQ ?_)));refine aA2 wq qF fun w hs=> ?_;exact⟨J,hs.chg0⟩
 | false=>
 (refine aF J (aJ (aD (aB (aA1 vq ?_)))))
 refine bB (β:=Value) qE [] _ M0 J J J J (Sp.refl _) qJ (fun w' hs=>iB w' lo hi _ st (RdE.keep h hs.chg0) hl1) ?_;rintro _ ov rfl;dsimp only[List.cons_append,List.nil_append];refine bW (fun w hs=>hs.slice2 (v:=ov) qF) ?_;rintro⟨oa,oc,rfl⟩;(refine aA1 vq ?_);refine bB (β:=Value) qE [] _ M0 J J J J (Sp.refl _) qJ (fun w' hs=>clone2_ca w' lo2 hi2 _ P (RdE.keep h2 hs.chg0) hl2) ?_;rintro _ mv rfl;dsimp only[List.cons_append,List.nil_append];refine bW (fun w hs=>hs.slice2 (v:=mv) qF) ?_;rintro⟨ma,mc,rfl⟩;(refine aA1 vq ?_);refine bB (β:=Value) qE [] _ M0 J J J J (Sp.refl _) qJ (fun w' hs=>cloneS_ca5 w' lo3 hi3 _ G (RdE.keep h3 hs.chg0) hl3) ?_;rintro _ gv rfl;dsimp only[List.cons_append,List.nil_append];refine bW (fun w hs=>hs.slice2 (v:=gv) qF) ?_;rintro⟨ga,gc,rfl⟩
 ((iterate 3 refine aA1 vq ?_);refine aE (aD (aB (aA1 vq (aA1 vq ?_)))))
 have rdO:∀{w0 w1:World} {Mx:Nat→Prop} {H:List Ck} {v:Value},Sat w0 Mx H w1→Ck.ow v 3 1 st.length (bF st)∈H→RdI w1 0 w1.heap.size v st:=fun hs hm=>hs.rdI hm rfl
 have rdM:∀{w0 w1:World} {Mx:Nat→Prop} {H:List Ck} {v:Value} {t:Nat} {l:List (Int×Int)},Sat w0 Mx H w1→Ck.ow v t 2 l.length (spC l)∈H→RdS w1 0 w1.heap.size v l:=fun hs hm=>jG (hs.mem hm) rfl
 refine aI (val:= .tuple #[.int .i64 (gS st P).1,.int .i64 (gS st P).2]) qE J J J J (fun w hs=> ?_) ?_;exact cost_ca5 w 0 w.heap.size 0 w.heap.size _ _ st P (rdO hs qF) (rdM (l:=P) hs qF) hl2;(refine aA1 vq (aA7 yq (aA7 yq (aA1 vq (aA1 vq (aE (aD (aB (aA1 vq (aA1 vq ?_))))))))));refine aI (val:= .tuple #[.int .i64 (gS st P).1,.int .i64 (gS st P).2]) qE J J J J (fun w hs=> ?_) ?_;exact rcost_ca w lo hi lo2 hi2 _ _ st P (RdE.keep h hs.chg0) (RdE.keep h2 hs.chg0) hl2;(refine aA1 vq (aA7 yq (aA7 yq (aA1 vq (aA1 vq (aE (aD (aD (aB (aA1 vq (aA1 vq (aB1 yq qG ?_)))))))))));refine aA1 vq (aC J (aA1 vq (aC J (aA1 vq (aC J (aB1 yq qG (aA1 vq (aE (aF J (aJ (aD ?_)))))))))));refine aB (aA1 vq (aA1 vq ?_)));refine aI (val:= .tuple #[.int .i64 (jW st G).1,.int .i64 (jW st G).2]) qE J J J J (fun w hs=> ?_) ?_;exact gapsShow_ca w 0 w.heap.size 0 w.heap.size _ _ st G (rdO hs qF) (rdM (l:=G) hs qF) hl3;(refine aA1 vq (aA7 yq (aA7 yq (aA1 vq (aA1 vq (aE (aD (aB (aA1 vq (aA1 vq ?_))))))))));refine aI (val:= .tuple #[.int .i64 (jW st G).1,.int .i64 (jW st G).2]) qE J J J J (fun w hs=> ?_) ?_;exact rgaps_ca w lo hi lo3 hi3 _ _ st G (RdE.keep h hs.chg0) (RdE.keep h3 hs.chg0) hl3;(refine aA1 vq (aA7 yq (aA7 yq (aA1 vq (aA1 vq (aE (aD (aD (aB (aA1 vq (aA1 vq (aB1 yq qG ?_)))))))))));refine aA1 vq (aC J (aA1 vq (aC J (aA1 vq (aC J (aB1 yq qG (aA1 vq (aE (aF J (aJ (aD ?_)))))))))));refine aB (aA1 vq ?_));by_cases h0:cD st=0
 ·have hs0:=gP.1 h0;have hm:=hs0.ev;have hl16:=hs0.l2;have hc1:=soft_ws hs0;have hc2:=cost_soft hs0;have hc3:=gaps_ws hs0;have hgl:=gpV_len' hs0;have hle:=fun w' hk=>rleast_ca (st.length/2) w' lo hi a c st qG qG hcap hs0.num hk
  have hmo:=fun w' hk=>match_ok w' 0 w'.heap.size (.slice oa st.length oc) st hk hs0
  have hpl:=prL_len (eE st) (by rw[iI];exact hm);rw[iI] at hpl;rw[hc1,prL_cells (eE st) (by rw[iI];exact hm),show st.length/2=(prL (eE st)).length by omega] at hmo;have hgo:=fun w' hk=>gaps_ok w' 0 w'.heap.size (.slice oa st.length oc) st hk hs0
  generalize prL (eE st)=PP at *;generalize gpV (srtV st)=GG at *;generalize wsV 100000 st=W at *;refine bB (β:=Value) qE [] _ M0 J J J J (Sp.refl _) qJ (fun w' hs=>hmo w' (rdO hs qF)) ?_;rintro pv _ rfl;dsimp only[List.cons_append,List.nil_append];refine bW (fun w hs=>hs.slice2 (v:=pv) qF) ?_;rintro⟨pa,pc,rfl⟩;(refine aA1 vq ?_;(iterate 3 refine aA7 yq ?_);(iterate 3 refine aA1 vq ?_);refine aE (aD (aB (aA1 vq ?_))));refine bB (β:=Value) qE [] _ M0 J J J J (Sp.refl _) qJ (fun w' hs=>hgo w' (rdO hs qF)) ?_;rintro qv _ rfl;dsimp only[List.cons_append,List.nil_append];refine bW (fun w hs=>hs.slice2 (v:=qv) qF) ?_;rintro⟨qa,qc,rfl⟩;(refine aA1 vq (aA7 yq (aA7 yq (aA1 vq (aA1 vq (aE (aD (aB (aA1 vq ?_)))))))));refine aI (val:= .int .i64 0) qE J J J J (fun w hs=> ?_) ?_;exact by have:=rsing_ca w lo hi _ st (RdE.keep h hs.chg0);rw[h0] at this;exact this
  (refine aA1 vq (aE (aD (aD (aB (aA1 vq (aA1 vq (aB1 yq qG (aA1 vq (aC J (aA1 vq (aC J ?_)))))))))));refine aA1 vq (aC J (aB1 yq qG (aA1 vq (aA1 vq (aC J (aA1 vq (aC J (aB1 yq qG (aC J (aA1 vq ?_))))))))));(iterate 7 refine aA3 zq ?_);refine dZ J J (dZ J J (aA3 zq (aC J (aA1 vq (aA1 vq (aE (aF J (aJ (aD (aD (aB ?_)))))))))));refine aA1 vq (aA8 yq qG (aE (aH J (aD (aB (aA1 vq ?_)))))))
  refine aI (val:= .int .i64 W) qE J J J J (fun w hs=> ?_) ?_;exact hle w (RdE.keep h hs.chg0);(refine aA1 vq (aE (aD (aB (aA1 vq (aA1 vq ?_))))));refine aI (val:= .tuple #[.int .i64 W,.int .i64 0]) qE J J J J (fun w hs=> ?_) ?_;exact by have:=rcost_ca w lo hi 0 w.heap.size _ (.slice pa PP.length pc) st PP (RdE.keep h hs.chg0) (rdM (l:=PP) hs qF) qG;rw[hc2] at this;exact this
  (refine aA1 vq (aA7 yq (aA7 yq (aA1 vq (aA1 vq (aE (aD (aB (aA1 vq (aA1 vq ?_))))))))))
  refine aI (val:= .tuple #[.int .i64 W,.int .i64 0]) qE J J J J (fun w hs=> ?_) ?_;exact by have:=rgaps_ca w lo hi 0 w.heap.size _ (.slice qa GG.length qc) st GG (RdE.keep h hs.chg0) (rdM (l:=GG) hs qF) qG;rw[hc3] at this;exact this
  (refine aA1 vq (aA7 yq (aA7 yq (aA1 vq (aA1 vq (aE (aD (aB (aA1 vq (aA1 vq (aB1 yq qG (aA1 vq ?_)))))))))));refine aC J (aA1 vq (aC J (aB1 yq qG (aA1 vq (aA1 vq (aC J (aA1 vq (aC J (aB1 yq qG (aA1 vq (aA1 vq ?_)))))))))));refine aC J (aA1 vq (aC J (aA1 vq (aC J (aB1 yq qG (aA1 vq (aA1 vq (aC J (aA1 vq (aC J (aA1 vq ?_)))))))))));refine aC J (aB1 yq qG (aA1 vq (aE (aF J (aJ (aD (aB (aA1 vq (aA1 vq ?_))))))))))
  refine aI (val:= .bool true) qE J J J J (fun w hs=> ?_) ?_;exact nL w 0 w.heap.size lo hi _ _ st (rdO hs qF) (RdE.keep h hs.chg0) hl1;(refine aA1 vq (aC J (aA1 vq (aC J (aA1 vq (aC J ?_))))));refine aI (val:= .bool true) qE J J J J (fun w hs=> ?_) ?_;exact eq2_ca w 0 w.heap.size lo2 hi2 _ _ P (rdM (l:=P) hs qF) (RdE.keep h2 hs.chg0) hl2;(refine aA1 vq (aA1 vq (aC J (aA1 vq (aC J (aA1 vq (aC J ?_)))))));refine aI (val:= .bool true) qE J J J J (fun w hs=> ?_) ?_;exact eqS_ca w 0 w.heap.size lo3 hi3 _ _ G (rdM (l:=G) hs qF) (RdE.keep h3 hs.chg0) hl3;(refine aA1 vq (aA1 vq (aC J ?_)));refine aI (val:= .bool true) qE J J J J (fun w hs=> ?_) ?_;exact cZ w;(refine aA1 vq (aA1 vq (aE (aQ ?_))));refine aA2 wq qF fun w hs=> ?_;exact⟨J,hs.chg0⟩
 ·refine aI (val:= .tuple #[.slice none 0 0,.int .i64 0,.int .i64 (cD st)]) qE J J J J (fun w hs=> ?_) ?_;exact match_no w 0 w.heap.size _ st (rdO hs qF) h0;(refine aA1 vq ?_;(iterate 3 refine aA7 yq ?_);(iterate 3 refine aA1 vq ?_);refine aE (aD (aB (aA1 vq ?_))));refine aI (val:= .tuple #[.slice none 0 0,.int .i64 (cD st)]) qE J J J J (fun w hs=> ?_) ?_;exact gaps_no w 0 w.heap.size _ st (rdO hs qF) h0;(refine aA1 vq (aA7 yq (aA7 yq (aA1 vq (aA1 vq (aE (aD (aB (aA1 vq ?_)))))))));refine aI (val:= .int .i64 (cD st)) qE J J J J (fun w hs=> ?_) ?_;exact rsing_ca w lo hi _ st (RdE.keep h hs.chg0);(refine aA1 vq (aE (aD (aD (aB (aA1 vq (aA1 vq (aB1 yq qG (aA1 vq (aC J (aA1 vq (aC J ?_)))))))))));refine aA1 vq (aC J (aB1 yq qG (aA1 vq (aA1 vq (aC J (aA1 vq (aC J (aB0 yq qG (aC J (aA1 vq (aC J ?_)))))))))));refine aA1 vq (aC J (aA1 vq (aC J (aA1 vq (aC J (aA1 vq (aC J (aA4 xq qG qG (aC J (aB3 yq qG (aC J ?_)))))))))));refine aA1 vq (aC J (aA1 vq (aC J (aB1 yq qG (aC J (aA1 vq (aC J (aA1 vq (aA1 vq (aE (aF J ?_)))))))))));refine aJ (aD (aD (aB (aA1 vq (aA9 yq qG (aE (aF J (aJ (aD (aB (aA1 vq ?_)))))))))));refine aA1 vq ?_);refine aI (val:= .bool true) qE J J J J (fun w hs=> ?_) ?_;exact nL w 0 w.heap.size lo hi _ _ st (rdO hs qF) (RdE.keep h hs.chg0) hl1;(refine aA1 vq (aC J (aA1 vq (aC J (aA1 vq (aC J ?_))))));refine aI (val:= .bool true) qE J J J J (fun w hs=> ?_) ?_;exact eq2_ca w 0 w.heap.size lo2 hi2 _ _ P (rdM (l:=P) hs qF) (RdE.keep h2 hs.chg0) hl2;(refine aA1 vq (aA1 vq (aC J (aA1 vq (aC J (aA1 vq (aC J ?_)))))));refine aI (val:= .bool true) qE J J J J (fun w hs=> ?_) ?_;exact eqS_ca w 0 w.heap.size lo3 hi3 _ _ G (rdM (l:=G) hs qF) (RdE.keep h3 hs.chg0) hl3;(refine aA1 vq (aA1 vq (aC J ?_)));refine aI (val:= .bool true) qE J J J J (fun w hs=> ?_) ?_;exact cZ w;(refine aA1 vq (aA1 vq (aE (aQ ?_))));refine aA2 wq qF fun w hs=> ?_;exact⟨J,hs.chg0⟩
def ChR(l:Lb)(a b:Int)(c:List Int)(e:Int):Prop:=(nF l a b≠0∧c=[]∧e=nF l a b)∨(nF l a b=0∧NoCh l a.toNat b.toNat∧c=[]∧e=6)∨(nF l a b=0∧Short l a.toNat b.toNat c∧e=0)
theorem chain0_ca(w:World)(lo hi:Nat)(l:Lb)(v:Value)(a b:Int)(h:RdR w lo hi v l.runs)(hlen:l.runs.length≤maxLen) :
  Ca Tryz.prog 13 [.agg (lbC l v).toArray,.int .i64 a,.int .i64 b] w fun x w'=>∃y:Value×List Int×Int,(x= .tuple #[y.1,.int .i64 y.2.2]∧ChR l a b y.2.1 y.2.2)∧Sat w M0 [.ow y.1 3 1 y.2.1.length (bF y.2.1)] w':=by
 refine cM (Sat.nil w M0) Tryz.func13 J (by simp[Tryz.ntmps13]) ?_;(refine aD (aB ?_));refine bN J J (fun b3=> ?_);rw[bG];(refine aA1 vq (aA1 vq (aE (aD (aB ?_))));refine aM qE J J J ?_;refine aA1 vq (aA1 vq ?_));by_cases h2:nF l a b=0
 ·obtain⟨hl,ha,hb⟩:=mI.1 h2;have s1:=hl.s1;have a1:=bX.1 ha;have b1:=bX.1 hb;refine bB (β:=Nat) qE [] _ M0 J J J J (Sp.refl _) qJ (fun w' hs=>two_ok w' lo hi l v a b (RdE.keep h hs.chg0) h2) ?_;rintro d _ rfl;dsimp only[List.cons_append,List.nil_append];(refine aA1 vq (aA7 yq (aA7 yq (aA1 vq (aA1 vq (aE (aD (aD (aB (aA1 vq (aB1 yq qG (aE ?_)))))))))));refine aF J (aJ (aD (aD (aB ?_))));(iterate 3 refine aA1 vq ?_))
  refine bB (β:=Option (Nat×Nat×List Int)) (ψ:=fun o x=>match o with|none=>x= .slice none 0 0∧NoCh l a.toNat b.toNat|some y=>x=aB7 y.1 y.2.2.length y.2.1∧Short l a.toNat b.toNat y.2.2) (L':=fun o=>match o with|none=>[]|some y=>[.ow (aB7 y.1 y.2.2.length y.2.1) 3 1 y.2.2.length (bF y.2.2)]) qE [] _ M0 rfl rfl rfl rfl (Sp.refl _) qJ (fun w' hs=>by
   have hch:=chain_ca w' d lo hi l v l.ord 134 (hs.blk qF) (RdE.keep h hs.chg0) hl a.toNat b.toNat qG qG;rw[Int.toNat_of_nonneg a1.1,Int.toNat_of_nonneg b1.1] at hch;refine hch.mono fun x w2 hx=> ?_
   rcases hx with⟨g1,g2,g3⟩|⟨g,cp,c,g1,g2,g3⟩
   ·exact⟨none,⟨g1,g2⟩,(Sat.nil w' M0).keep g3⟩
   ·exact⟨some (g,cp,c),⟨g1,g2⟩,by rw[g1] at g3;exact g3⟩) ?_
  rintro o x hox;cases o with
  | none=>
   obtain⟨rfl,hno⟩:=hox;dsimp only[List.nil_append];(refine aA1 vq (aE (aD (aB (aA1 vq ?_)))));refine jQ qE J J J J ?_;(refine aE (aF J (aJ (aD (aB (aA1 vq (aA1 vq (aE (aQ ?_)))))))));refine aA2 wq qF fun w hs=> ?_
   exact⟨(.slice none 0 0,[],6),⟨J,.inr (.inl ⟨h2,hno,J,J⟩)⟩,Sat.ownil (hs.sp qF) _ _⟩
  | some y=>
   obtain⟨g,cp,c⟩:=y;obtain⟨rfl,hsh⟩:=hox;dsimp only[List.nil_append,List.cons_append];(refine aA1 vq (aE (aD (aB (aA1 vq ?_)))));refine jQ qE J J J J ?_;(refine aE (aH J (aD (aB ?_)));(iterate 3 refine aA1 vq ?_);refine aE (aQ ?_));refine aA2 wq qF fun w hs=> ?_
   exact⟨(aB7 g c.length cp,c,0),⟨J,.inr (.inr ⟨h2,hsh,J⟩)⟩,hs.sp qF⟩
 ·refine bB (β:=Option Addr) qE [] _ M0 J J J J (Sp.refl _) qJ (fun w' hs=>two_no w' lo hi l v a b (RdE.keep h hs.chg0) hlen h2) ?_;rintro p _ rfl;dsimp only[List.cons_append,List.nil_append];(refine aA1 vq (aA7 yq (aA7 yq (aA1 vq (aA1 vq (aE (aD (aD (aB (aA1 vq (aB0 yq qG (aE ?_)))))))))));refine aH J (aD (aB ?_));(iterate 3 refine aA1 vq ?_);refine aE (aQ ?_));refine aA2 wq qF fun w hs=> ?_;exact⟨(.slice none 0 0,[],nF l a b),⟨J,.inl ⟨h2,J,J⟩⟩,Sat.ownil (hs.sp qF) _ _⟩
theorem slRr:SlT Tryz.prog 51 125 3 24 (.agg #[.int .i64 0,.int .i64 0,.int .i64 0]):=⟨by kernel_rfl,by kernel_rfl,rfl,by omega⟩
theorem gI(w:World)(lo hi:Nat)(l:Lb)(v:Value)(h:RdR w lo hi v l.runs)(hlen:l.runs.length≤1000):Ca Tryz.prog 17 [.agg (lbC l v).toArray] w fun x w'=>∃u:Value,x= .agg (lbC l u).toArray∧Sat w M0 [.ow u 125 3 l.runs.length (rnC l.runs)] w':=by
 obtain⟨a,c,rfl,ha⟩:=RdR.outI h;refine cM (Sat.nil w M0) Tryz.func17 J (by simp[Tryz.ntmps17]) ?_;(refine aD (aB ?_));refine bN J J (fun b1=> ?_);rw[bG];refine bJ eP J (fun b2=> ?_);(refine aE (aD (aB (aA1 vq ?_)));refine aL qE J J J ?_;refine aA1 vq ?_;refine aL qE J J J ?_);refine dM #[.int .i64 l.skis,.int .i64 l.err,.slice none 0 0] J qI J ?_;refine bJ eP J (fun b3=> ?_);(refine aA6 uq qF J ?_;refine aE (aD (aD (aB (aA1 vq ?_))));refine aL qE J J J ?_;refine aA1 vq (aA1 vq (aE (aK ?_))));refine cQ (H':=[.ow (.slice none 0 0) 125 3 0 (rnC (l.runs.take 0)),.pt b3 [.int .i64 l.skis,.int .i64 l.err,.slice none 0 0] 53,.pt b2 [.int .i64 0,.int .i64 0,.slice none 0 0] 53,.pt b1 (lbC l (.slice a l.runs.length c)) 25]) (fun w' hs=>Sat.ownil (hs.sp qF) _ _) ?_
 refine bD (σ:=Nat×Value) (fun s=>s.1≤l.runs.length) (fun s=>l.runs.length-s.1) (fun s=>[(2,aB8 b2),(3,aB8 b3),(12,.slice a l.runs.length c),(13,.int .i64 l.runs.length),(14,.int .i64 s.1)])
  (fun s=>[.ow s.2 125 3 s.1 (rnC (l.runs.take s.1)),.pt b3 [.int .i64 l.skis,.int .i64 l.err,s.2] 53,.pt b2 [.int .i64 0,.int .i64 0,.slice none 0 0] 53]) (0,.slice none 0 0) (by simp) ⟨rfl,rfl,rfl,rfl,rfl,trivial⟩ qF ?_
 rintro⟨i,u⟩ hi K hK;dsimp only at hi hK ⊢;refine dO (fun w hs=>hs.slice2 (v:=u) qF) ?_;rintro⟨ua,uc,rfl⟩;(refine aD (aB (aA1 vq (aE (aD ?_)))));refine cP J (fun hc=> ?_) (fun hc=> ?_)
 ·have hi2:i<l.runs.length:=by omega
  clear hc;obtain⟨b,off,hab⟩:=ha qG;cases hab
  (refine aJ (aD (aK (aD (aB ?_)))))
  refine aA5 uq qG qG ?_;refine eJ qE J J J J (fun w hs=>RdR.at (RdE.keep h hs.chg0) i hi2) ?_;refine bJ zero29 J (fun b5=> ?_);(refine aA6 uq qF J ?_;refine aE (aB (aA1 vq ?_));refine aL qE J J J ?_;refine aM qE J J J ?_);refine cI 125 [.int .i64 l.runs[i].a,.int .i64 l.runs[i].b,.int .i64 l.runs[i].lead] J qI J (fun bn=> ?_);refine bU (q:=1) (news:=[.int .i64 l.runs[i].a,.int .i64 l.runs[i].b,.int .i64 l.runs[i].lead]) slRr J J J (fun v'=>by repeat constructor) (fun w' hs=>⟨_,_,Blk.rdN (hs.blk (b:=bn) qF) J⟩) (by simp[dA]) qG qG (fun u'=> ?_);refine bW (fun w' hs=>hs.own_one (v:=u') qF) (fun hone=> ?_);(refine aA1 vq ?_);refine cN qE J J J hone qF (by simp) ?_;(refine aE (aW (aB (aA4 xq qG qG (aA1 vq (aE ?_))))));exact hK (i+1,u') _ _ (by dsimp only;omega) (by dsimp only;omega) ⟨J,J,J,J,J,trivial⟩ (by dsimp only;rw[show rnC (l.runs.take (i+1))=rnC (l.runs.take i)++[.int .i64 l.runs[i].a,.int .i64 l.runs[i].b,.int .i64 l.runs[i].lead] from by rw[←List.take_append_getElem hi2,rnC,List.flatMap_append];rfl];repeat constructor)
 ·obtain rfl:i=l.runs.length:=by omega
  rw[List.take_length];(refine aZ _ J (aD (aB ?_));refine aM qE J J J ?_;refine aA6 uq qF J ?_;refine aE (aQ ?_));refine aA2 wq qF fun w hs=> ?_
  exact⟨_,J,hs.sp qF⟩
theorem iD(w:World)(lo hi lo2 hi2:Nat)(l:Lb)(v u:Value)(h:RdR w lo hi v l.runs)(h2:RdR w lo2 hi2 u l.runs)(hlen:l.runs.length≤1000):Ca Tryz.prog 28 [.agg (lbC l v).toArray,.agg (lbC l u).toArray] w fun x w'=>x= .bool true∧Chg [] w w':=by
 refine cM (Sat.nil w M0) Tryz.func28 J (by simp[Tryz.ntmps28]) ?_;(refine aD (aB ?_));refine bN J J (fun b2=> ?_);refine bN J J (fun b3=> ?_);rw[bG,bG];(refine aA1 vq (aE (aD (aB (aA1 vq ?_))));refine aL qE J J J ?_;refine aA1 vq ?_;refine aL qE J J J ?_;refine aA8 yq qG (aA1 vq (aC J (aA1 vq (aC J ?_))));refine aL qE J J J ?_;refine aC J (aA1 vq (aC J ?_));refine aL qE J J J ?_;refine aC J (aA8 yq qG (aA1 vq (aA1 vq (aC J (aA1 vq (aC J ?_))))));refine aL qE J J J ?_;refine aC J (aA1 vq (aC J ?_));refine aL qE J J J ?_;refine aC J ?_);refine aI (val:= .bool true) qE J J J J (fun w hs=> ?_) ?_;exact eqR_ca w lo hi lo2 hi2 v u l.runs (RdE.keep h hs.chg0) (RdE.keep h2 hs.chg0) qG;(refine aA1 vq (aA1 vq (aE (aQ ?_))));refine aA2 wq qF fun w hs=> ?_;exact⟨J,hs.chg0⟩
end Go.Proofs.YtoljppohibpenaaGreat
