import Derived.Test.YtoljppohibpenaaGreatJ3
set_option linter.unusedVariables false
set_option maxHeartbeats 16000000
namespace Go.Proofs.YtoljppohibpenaaGreat
open Go Go.Eng
set_option maxRecDepth 4000
open Go Go.Eng
theorem gapsF_cons(st:List Int)(p:Option Int)(g:Int×Int)(l:List (Int×Int)):jZ st p (g::l)=if eK st p g=true then none else(jZ st (some g.2) l).map fun s=>s+(g.2-g.1):=rfl
theorem low_step'(st:List Int)(x:Int)(k:Nat)(hk:k<st.length):jK (st.take (k+1)) x=jK (st.take k) x+if st[k]≤x then 1 else 0:=by
 unfold jK;rw[List.take_succ_eq_append_getElem hk,List.countP_append,List.countP_singleton];simp
theorem high_step'(st:List Int)(x:Int)(k:Nat)(hk:k<st.length):fF (st.take (k+1)) x=fF (st.take k) x+if x≤st[k] then 1 else 0:=by
 unfold fF;rw[List.take_succ_eq_append_getElem hk,List.countP_append,List.countP_singleton];simp
theorem gap_bd{st:List Int}(hs0:SingOk st){p:Option Int}{g:Int×Int}(h:eK st p g=false):0≤g.1∧g.1<g.2∧g.2≤100000:=by
 unfold eK at h;simp only[Bool.or_eq_false_iff,decide_eq_false_iff_not] at h;obtain⟨h1,h2,h3,h4⟩:=h;have hl:0<jK st g.1:=by omega
 have hev:=hs0.ev;have hh:0<fF st g.2:=by omega
 obtain⟨x,hx,h5⟩:=List.countP_pos_iff.1 hl;obtain⟨y,hy,h6⟩:=List.countP_pos_iff.1 hh;have h7:=hs0.num x hx;have h8:=hs0.num y hy;have h5:x≤g.1:=by simpa using h5
 have h6:g.2≤y:=by simpa using h6
 omega
def fH(gs:List (Int×Int))(k:Nat):Option Int:=if k=0 then none else some (gs.getD (k-1) (0,0)).2
theorem gapsShow_ca(w:World)(lo hi lo2 hi2:Nat)(v u:Value)(st:List Int)(gs:List (Int×Int))(h:RdI w lo hi v st)(hu:RdS w lo2 hi2 u gs)(hg0:gs.length≤1000000):Ca Tryz.prog 67 [v,u] w fun x w'=>x= .tuple #[.int .i64 (jW st gs).1,.int .i64 (jW st gs).2]∧Chg [] w w':=by
 obtain⟨a,c,rfl,ha⟩:=RdI.outI h;obtain⟨ga,gc,rfl,hga⟩:=RdS.outI hu;refine cM (Sat.nil w M0) Tryz.func67 J (by simp[Tryz.ntmps67]) ?_;(refine aD (aB (aA1 vq (aA1 vq (aE (aD (aB (aA1 vq ?_))))))));refine aI (val:= .int .i64 (cD st)) qE J J J J (fun w hs=> ?_) ?_;exact mX w lo hi _ st (RdE.keep h hs.chg0);by_cases he:cD st=0
 ·have hs0:=gP.1 he;have hl1:=hs0.l1;have hl2:=hs0.l2;obtain⟨ab,ao,rfl⟩:=ha qG;by_cases hg:16<gs.length
  ·(refine aA1 vq (aE (aD (aK (aD (aB (aA1 vq (aB1 yq qG (aA1 vq (aE (aF J (aD ?_)))))))))));refine aB (aA1 vq (aA1 vq (aB4 yq qG (aA1 vq (aE (aH J (aD (aB (aA1 vq (aA1 vq (aE ?_)))))))))));refine aQ ?_)
   refine aA2 wq qF fun w hs=> ?_;exact⟨by unfold jW;rw[if_neg (by simpa using he),if_pos hg];rfl,hs.chg0⟩
  ·have hgv:jW st gs=match jZ st none gs with|some s=>(s,0)|none=>(0,8):=by unfold jW;rw[if_neg (by simpa using he),if_neg hg]<;>rfl
   rw[hgv];(refine aA1 vq (aE (aD (aK (aD (aB (aA1 vq (aB1 yq qG (aA1 vq (aE (aF J (aD ?_)))))))))));refine aB (aA1 vq (aA1 vq (aB3 yq qG (aA1 vq (aE (aF J (aJ (aW (aD (aB (aA1 vq ?_)))))))))));refine aE (aD (aD (aB ?_)));(iterate 3 refine aA1 vq ?_);refine aE (aK ?_))
   refine bD (σ:=Nat×Int) (fun y=>y.1≤gs.length∧jZ st none gs=(jZ st (fH gs y.1) (gs.drop y.1)).map (fun s=>s+y.2)∧0≤y.2∧y.2≤100000*y.1) (fun y=>gs.length-y.1)
    (fun y=>[(0,.slice (some ⟨ab,ao,none⟩) st.length c),(1,.slice ga gs.length gc),(7,.int .i64 y.2),(24,.slice ga gs.length gc),(25,.int .i64 gs.length),(26,.int .i64 y.1)]) (fun _=>[]) (0,0) ⟨by simp only;omega,by simp[fH],by simp,by simp⟩ ⟨rfl,rfl,rfl,rfl,rfl,rfl,trivial⟩ qF ?_
   rintro⟨k,sum⟩ ⟨hk,hF,hs1,hs2⟩ K hK;dsimp only at hk hF hs1 hs2 ⊢;(refine aD (aB (aA1 vq (aE (aD ?_)))));refine cP J (fun hc=> ?_) (fun hc=> ?_)
   ·have hk2:k<gs.length:=by omega
    clear hc;obtain⟨gb,go,rfl⟩:=hga qG;(refine aJ (aD (aK (aD (aB (aA1 vq ?_))))));refine aA5 uq qG qG ?_;refine eJ qE J J J J (fun w hs=>RdS.at (RdE.keep hu hs.chg0) k hk2) ?_;rw[List.drop_eq_getElem_cons hk2,gapsF_cons] at hF;have hbd:=gap_bd hs0 (p:=fH gs k) (g:=gs[k])
    have hnext:fH gs (k+1)=some gs[k].2:=by
     unfold fH;rw[if_neg qG,Nat.add_sub_cancel,List.getD_eq_getElem?_getD,List.getElem?_eq_getElem hk2]
     rfl
    have hprev:0<k→fH gs k=some (gs[k-1]'qG).2:=fun h=>by
     unfold fH;rw[if_neg qG,List.getD_eq_getElem?_getD,List.getElem?_eq_getElem (show k-1<gs.length by omega)]
     rfl
    have hprev0:k=0→fH gs k=none:=fun h=>if_pos h
    generalize hgk:gs[k]=gk at *;obtain⟨gl,gh⟩:=gk;dsimp only at *;refine bJ zero40 J (fun b9=> ?_);(refine aA1 vq ?_;refine aA6 uq qF J ?_;refine aE (aD (aB (aA1 vq (aA1 vq (aE (aD (aD (aB ?_))))))));(iterate 3 refine aA1 vq ?_);refine aE (aK ?_))
    refine bD (σ:=Nat) (fun y=>y≤st.length) (fun y=>st.length-y)
     (fun y=>[(0,.slice (some ⟨ab,ao,none⟩) st.length c),(1,.slice (some ⟨gb,go,none⟩) gs.length gc),(7,.int .i64 sum),(8,.int .i64 k),(9,aB8 b9),(10,.int .i64 (jK (st.take y) gl)),(11,.int .i64 (fF (st.take y) gh)),(24,.slice (some ⟨gb,go,none⟩) gs.length gc),(25,.int .i64 gs.length),(26,.int .i64 k),(31,.slice (some ⟨ab,ao,none⟩) st.length c),(32,.int .i64 st.length),(33,.int .i64 y)])
     (fun _=>[.pt b9 [.int .i64 gl,.int .i64 gh] 40]) 0 qG ⟨rfl,rfl,rfl,rfl,rfl,rfl,rfl,rfl,rfl,rfl,rfl,rfl,rfl,trivial⟩ qF ?_
    rintro y hy K2 hK2;have hlc:jK (st.take y) gl≤y:=by unfold jK;exact Nat.le_trans List.countP_le_length (by rw[List.length_take];omega)
    have hhc:fF (st.take y) gh≤y:=by unfold fF;exact Nat.le_trans List.countP_le_length (by rw[List.length_take];omega)
    (refine aD (aB (aA1 vq (aE (aD ?_)))))
    refine cP J (fun hc=> ?_) (fun hc=> ?_)
    ·have hy2:y<st.length:=by omega
     have l1:=low_step' st gl y hy2;have l2:=high_step' st gh y hy2;clear hc;(refine aJ (aD (aK (aD (aB ?_)))));refine aA5 uq qG qG ?_;refine bC (v:= .int .i64 st[y]) qE J J J (fun w hs=>RdI.at (RdE.keep h hs.chg0) y hy2) ?_;by_cases c1:st[y]≤gl
     ·rw[if_pos c1] at l1;by_cases c2:gh≤st[y]
      ·rw[if_pos c2] at l2;(refine aA1 vq (aE (aD (aD (aB (aA1 vq (aA1 vq ?_))))));refine aL qE J J J ?_;refine oA qE J J J qG (aE (aH J (aB (aA1 vq (aA4 xq qG qG (aA1 vq (aE (aD (aB (aA1 vq (aA1 vq ?_)))))))))));refine aL qE J J J ?_;refine kW qE J J J qG (aE (aH J (aB (aA1 vq (aA4 xq qG qG (aA1 vq (aE (aW (aB (aA4 xq qG qG (aA1 vq ?_)))))))))));refine aE ?_);exact hK2 (y+1) _ _ qG qG ⟨J,J,J,J,J,(by refine dI J ?_;omega),(by refine dI J ?_;omega),J,J,J,J,J,J,trivial⟩ qF
      ·rw[if_neg c2] at l2;(refine aA1 vq (aE (aD (aD (aB (aA1 vq (aA1 vq ?_))))));refine aL qE J J J ?_;refine oA qE J J J qG (aE (aH J (aB (aA1 vq (aA4 xq qG qG (aA1 vq (aE (aD (aB (aA1 vq (aA1 vq ?_)))))))))));refine aL qE J J J ?_;refine gJ qE J J J qG (aE (aF J (aJ (aW (aB (aA4 xq qG qG (aA1 vq (aE ?_)))))))));exact hK2 (y+1) _ _ qG qG ⟨J,J,J,J,J,(by refine dI J ?_;omega),(by refine dI J ?_;omega),J,J,J,J,J,J,trivial⟩ qF
     ·rw[if_neg c1] at l1;by_cases c2:gh≤st[y]
      ·rw[if_pos c2] at l2;(refine aA1 vq (aE (aD (aD (aB (aA1 vq (aA1 vq ?_))))));refine aL qE J J J ?_;refine gH qE J J J qG (aE (aF J (aJ (aD (aB (aA1 vq (aA1 vq ?_)))))));refine aL qE J J J ?_;refine kW qE J J J qG (aE (aH J (aB (aA1 vq (aA4 xq qG qG (aA1 vq (aE (aW (aB (aA4 xq qG qG (aA1 vq ?_)))))))))));refine aE ?_);exact hK2 (y+1) _ _ qG qG ⟨J,J,J,J,J,(by refine dI J ?_;omega),(by refine dI J ?_;omega),J,J,J,J,J,J,trivial⟩ qF
      ·rw[if_neg c2] at l2;(refine aA1 vq (aE (aD (aD (aB (aA1 vq (aA1 vq ?_))))));refine aL qE J J J ?_;refine gH qE J J J qG (aE (aF J (aJ (aD (aB (aA1 vq (aA1 vq ?_)))))));refine aL qE J J J ?_;refine gJ qE J J J qG (aE (aF J (aJ (aW (aB (aA4 xq qG qG (aA1 vq (aE ?_)))))))));exact hK2 (y+1) _ _ qG qG ⟨J,J,J,J,J,(by refine dI J ?_;omega),(by refine dI J ?_;omega),J,J,J,J,J,J,trivial⟩ qF
    ·obtain rfl:y=st.length:=by omega
     clear hc;rw[List.take_length] at hlc hhc ⊢;have hbad:eK st (fH gs k) (gl,gh)=true→jZ st none gs=none:=fun h=>by rw[hF,if_pos h];rfl
     have hgood:eK st (fH gs k) (gl,gh)=false→jZ st none gs=(jZ st (fH gs (k+1)) (gs.drop (k+1))).map (fun s=>s+(sum+(gh-gl))):=fun h=>by
      rw[hF,if_neg (by rw[h];simp),hnext,Option.map_map]
      congr 1
      funext s
      show s+(gh-gl)+sum=_
      omega
     by_cases h1:gh≤gl
     ·(refine aZ _ J (aD (aD ?_)))
      refine bY _ [] (Sp.refl _) qI qI ?_;(refine aB2 yq ?_;refine aX qE J J J ?_;refine aB2 yq ?_;refine aX qE J J J ?_;refine qf_geqT qE J J J qG (aB2 yq ?_);(iterate 3 refine eF J J J ?_);(iterate 9 refine qf_gnone J J ?_);refine eF J J J (aB2 yq (aB2 yq ?_));(iterate 3 refine eF J J J ?_);refine aB2 yq (aB2 yq ?_);(iterate 6 refine eF J J J ?_);refine aB2 yq (aT (aH J (aD (aB (aA1 vq (aA1 vq (aE (aQ ?_)))))))));refine aA2 wq qF fun w hs=> ?_;exact⟨by rw[hbad (by unfold eK;dsimp only;simp[*])];rfl,hs.chg0⟩
     ·by_cases hk0:k=0
      ·have hp0:=hprev0 hk0;by_cases h3:jK st gl%2=0
       ·(refine aZ _ J (aD (aD ?_)))
        refine bY _ [] (Sp.refl _) qI qI ?_;(refine aB2 yq ?_;refine aX qE J J J ?_;refine aB2 yq ?_;refine aX qE J J J ?_;refine oB qE J J J qG (aB2 yq (aN J (aB2 yq (aN J (jH qE J J J qG (aN J (aB2 yq ?_)))))));(iterate 9 refine eF J J J ?_);refine aN J ?_;(iterate 3 refine aB2 yq ?_);refine aN J (aB2 yq (aN J (eG J J J qG qG (aN J (qf_eqlT qE J J J qG (aB2 yq (aB2 yq ?_)))))));(iterate 6 refine eF J J J ?_);refine aB2 yq (aT (aH J (aD (aB (aA1 vq (aA1 vq (aE (aQ ?_)))))))));refine aA2 wq qF fun w hs=> ?_;exact⟨by rw[hbad (by unfold eK;dsimp only;simp[*])];rfl,hs.chg0⟩
       ·by_cases h4:jK st gl+fF st gh=st.length
        ·have hgd:eK st (fH gs k) (gl,gh)=false:=by unfold eK;rw[hp0];dsimp only;simp[h1,h3,h4]
         have hb2:=hbd hgd;(refine aZ _ J (aD (aD ?_)));refine bY _ [] (Sp.refl _) qI qI ?_;(refine aB2 yq ?_;refine aX qE J J J ?_;refine aB2 yq ?_;refine aX qE J J J ?_;refine oB qE J J J qG (aB2 yq (aN J (aB2 yq (aN J (jH qE J J J qG (aN J (aB2 yq ?_)))))));(iterate 9 refine eF J J J ?_);refine aN J ?_;(iterate 3 refine aB2 yq ?_);refine aN J (aB2 yq (aN J (eG J J J qG qG (aN J (oI qE J J J qG (aB2 yq (aB2 yq (aN J (aB2 yq (aN J (aB2 yq ?_)))))))))));refine aN J (aB6 xq qG qG (aN J (aB2 yq (aN J (aB2 yq (aN J (qf_neqF qE J J J qG (aB2 yq (aT (aF J (aJ ?_)))))))))));refine aB (aA1 vq (aA1 vq ?_));refine aL qE J J J ?_;refine aA1 vq ?_;refine aL qE J J J ?_;refine aA4 xq qG qG (aA4 xq qG qG (aA1 vq (aE (aW (aB (aA4 xq qG qG (aA1 vq (aE ?_)))))))));exact hK (k+1,sum+(gh-gl)) _ _ ⟨by simp only;omega,hgood hgd,by simp only;omega,by simp only;omega⟩ (by simp only;omega) ⟨J,J,J,J,J,J,trivial⟩ qF
        ·(refine aZ _ J (aD (aD ?_)))
         refine bY _ [] (Sp.refl _) qI qI ?_;(refine aB2 yq ?_;refine aX qE J J J ?_;refine aB2 yq ?_;refine aX qE J J J ?_;refine oB qE J J J qG (aB2 yq (aN J (aB2 yq (aN J (jH qE J J J qG (aN J (aB2 yq ?_)))))));(iterate 9 refine eF J J J ?_);refine aN J ?_;(iterate 3 refine aB2 yq ?_);refine aN J (aB2 yq (aN J (eG J J J qG qG (aN J (oI qE J J J qG (aB2 yq (aB2 yq (aN J (aB2 yq (aN J (aB2 yq ?_)))))))))));refine aN J (aB6 xq qG qG (aN J (aB2 yq (aN J (aB2 yq (aN J (qf_neqT qE J J J qG (aB2 yq (aT (aH J (aD ?_)))))))))));refine aB (aA1 vq (aA1 vq (aE (aQ ?_)))));refine aA2 wq qF fun w hs=> ?_;exact⟨by rw[hbad (by unfold eK;dsimp only;simp[*])];rfl,hs.chg0⟩
      ·have hp0:=hprev qG;have hk3:k-1<gs.length:=by omega
       have ek:((k:Int)-1).toNat=k-1:=by omega
       generalize hgp:gs[k-1]=gp at *;obtain⟨gp1,gp2⟩:=gp;dsimp only at *;(refine aZ _ J (aD (aD ?_)));refine bY _ [] (Sp.refl _) qI qI ?_;(refine aB2 yq ?_;refine aX qE J J J ?_;refine aB2 yq ?_;refine aX qE J J J ?_;refine oB qE J J J qG (aB2 yq (aN J (aB2 yq (aN J (jF qE J J J qG (aN J (aB2 yq (aN J (aB2 yq (aN J ?_))))))))));refine aX qE J J J ?_;refine aN J (aB2 yq (aN J (aB2 yq (aN J (aB6 xq qG qG (aN J ?_)))))));refine aB5 uq qG qG ?_;(refine aN J (aB2 yq (aN J ?_)))
       refine bA (v:= .int .i64 gp2) qE J J J (fun w hs=>by
        rw[ek];have:=RdS.at1 (RdE.keep hu hs.chg0) (k-1) hk3;rw[hgp] at this;exact this) ?_
       by_cases h2:gl<gp2
       ·(refine aN J (mH qE J J J qG (aN J ?_));(iterate 3 refine aB2 yq ?_);(iterate 3 refine eF J J J ?_);refine aB2 yq (aB2 yq ?_);(iterate 6 refine eF J J J ?_);refine aB2 yq (aT (aH J (aD (aB (aA1 vq (aA1 vq (aE (aQ ?_)))))))))
        refine aA2 wq qF fun w hs=> ?_;exact⟨by rw[hbad (by unfold eK;dsimp only;simp[*])];rfl,hs.chg0⟩
       ·by_cases h3:jK st gl%2=0
        ·(refine aN J (jI qE J J J qG (aN J ?_));(iterate 3 refine aB2 yq ?_);refine aN J (aB2 yq (aN J (eG J J J qG qG (aN J (qf_eqlT qE J J J qG (aB2 yq (aB2 yq ?_)))))));(iterate 6 refine eF J J J ?_);refine aB2 yq (aT (aH J (aD (aB (aA1 vq (aA1 vq (aE (aQ ?_)))))))))
         refine aA2 wq qF fun w hs=> ?_;exact⟨by rw[hbad (by unfold eK;dsimp only;simp[*])];rfl,hs.chg0⟩
        ·by_cases h4:jK st gl+fF st gh=st.length
         ·have hgd:eK st (fH gs k) (gl,gh)=false:=by unfold eK;dsimp only;simp[*]
          have hb2:=hbd hgd;(refine aN J (jI qE J J J qG (aN J ?_));(iterate 3 refine aB2 yq ?_);refine aN J (aB2 yq (aN J (eG J J J qG qG (aN J (oI qE J J J qG (aB2 yq (aB2 yq (aN J (aB2 yq (aN J (aB2 yq ?_)))))))))));refine aN J (aB6 xq qG qG (aN J (aB2 yq (aN J (aB2 yq (aN J (qf_neqF qE J J J qG (aB2 yq (aT (aF J (aJ ?_)))))))))));refine aB (aA1 vq (aA1 vq ?_));refine aL qE J J J ?_;refine aA1 vq ?_;refine aL qE J J J ?_;refine aA4 xq qG qG (aA4 xq qG qG (aA1 vq (aE (aW (aB (aA4 xq qG qG (aA1 vq (aE ?_)))))))));exact hK (k+1,sum+(gh-gl)) _ _ ⟨by simp only;omega,hgood hgd,by simp only;omega,by simp only;omega⟩ (by simp only;omega) ⟨J,J,J,J,J,J,trivial⟩ qF
         ·(refine aN J (jI qE J J J qG (aN J ?_));(iterate 3 refine aB2 yq ?_);refine aN J (aB2 yq (aN J (eG J J J qG qG (aN J (oI qE J J J qG (aB2 yq (aB2 yq (aN J (aB2 yq (aN J (aB2 yq ?_)))))))))));refine aN J (aB6 xq qG qG (aN J (aB2 yq (aN J (aB2 yq (aN J (qf_neqT qE J J J qG (aB2 yq (aT (aH J (aD ?_)))))))))));refine aB (aA1 vq (aA1 vq (aE (aQ ?_)))))
          refine aA2 wq qF fun w hs=> ?_;exact⟨by rw[hbad (by unfold eK;dsimp only;simp[*])];rfl,hs.chg0⟩
   ·obtain rfl:k=gs.length:=by omega
    rw[List.drop_length] at hF;have e:jZ st none gs=some sum:=by rw[hF];show some (0+sum)=_;rw[Int.zero_add]
    rw[e];(refine aZ _ J (aD (aB ?_));(iterate 3 refine aA1 vq ?_);refine aE (aQ ?_));refine aA2 wq qF fun w hs=> ?_
    exact⟨J,hs.chg0⟩
 ·(refine aA1 vq (aE (aD (aK (aD (aB (aA1 vq (aB0 yq qG (aA1 vq (aE (aH J (aD ?_)))))))))));refine aB ?_;(iterate 3 refine aA1 vq ?_);refine aE (aQ ?_))
  refine aA2 wq qF fun w hs=> ?_;exact⟨by unfold jW;rw[if_pos he];rfl,hs.chg0⟩
structure Told(k:Nat)(l:Lb):Prop where
 ok:l.Ok
 noC:NoC l.ord l.n
theorem run_ok{s x y ld:Int}(hx:0≤x∧x<s)(hy:0≤y∧y<s)(hne:x≠y)(hl: -10000≤ld∧ld≤10000):(⟨x,y,ld⟩:Rn).Ok s:=⟨hx.1,hx.2,hy.1,hy.2,hne,hl.1,hl.2⟩
theorem Lb.Ok.loose{l:Lb}(h:l.Ok){d:Int}(hd:0≤d)(h2:l.err+d≤1000):(l.loose d).Ok:=⟨h.s0,h.s1,by have:=h.e0;show 0≤l.err+d;omega,h2,h.len,h.run⟩
def spanP(l:Lb)(s:Nat):Int×Int:=((1+upN l.ord s l.n:Nat),l.skis-dnN l.ord s l.n)
structure LosL(W S:Nat)(l:List (List Int))(n:Nat):Prop where
 l1:1≤l.length
 l2:l.length≤W
 n1:1≤n
 n2:n≤S
 len:∀row∈l,row.length=n
 num:∀row∈l,∀x∈row,0≤x∧x≤200
theorem LosL.tab{W S n:Nat}{l:List (List Int)}(h:LosL W S l n)(hW:W≤12)(hS:S≤20):TabOk l n:=
 ⟨h.l1,by have:=h.l2;omega,h.n1,by have:=h.n2;omega,h.len,fun r hr x hx=>by have:=h.num r hr x hx;omega⟩
theorem TabOk.v{l:List (List Int)}{n:Nat}(h:TabOk l n):cY l=0∧(l.headD []).length=n:=by
 have e:(l.headD []).length=n:=by
  have h1:=h.l1
  match l,h1 with
  | r::l,_=>exact h.len r List.mem_cons_self
 exact⟨fI.2 (e▸h),e⟩
theorem TabOk.low{l:List (List Int)}{n s:Nat}(h:TabOk l n)(hs:s<n):0≤lowV l s∧lowV l s≤10000:=by
 obtain⟨r,hr,e⟩:=low_mem (l:=l) (by intro e;have:=h.l1;rw[e] at this;simp at this) s;rw[e];exact h.num r hr _ (getD_mem (by rw[h.len r hr];exact hs))
theorem reg_gt{l:List (List Int)}{n i s:Nat}(hi:i<l.length)(hs:s<n):gt (cA l n) i s=gt l i s-lowV l s:=by
 unfold gt cA;simp only[List.getD_eq_getElem?_getD,List.getElem?_map,List.getElem?_eq_getElem hi,Option.map_some,Option.getD_some];have:=regRow_get l n l[i] hs;simpa only[List.getD_eq_getElem?_getD] using this
theorem reg_row{l:List (List Int)}{n i:Nat}(hi:i<(cA l n).length):(cA l n)[i].length=n:=by
 obtain⟨r,_,e⟩:=List.mem_map.1 (show(cA l n)[i]∈cA l n from List.getElem_mem hi);rw[←e];exact gT _ _ _
theorem reg_num{l:List (List Int)}{n:Nat}(h:TabOk l n):∀row∈cA l n,∀x∈row,0≤x∧x≤10000:=fun row hr x hx=>by
 obtain⟨r,hm,rfl⟩:=List.mem_map.1 hr;have h1:=reg_nonneg hm x hx;obtain⟨s,hs,e⟩:=List.mem_map.1 hx;have hs2:s<n:=by simpa using hs
 have h2:=(h.low hs2).1;have h3:=h.num r hm _ (getD_mem (by rw[h.len r hm];exact hs2):r.getD s 0∈r);exact⟨h1,by omega⟩
theorem top_num{rs:List (List Int)}(h:∀row∈rs,∀x∈row,0≤x∧x≤10000)(i a b:Nat):topR (rs.getD i []) a b≤10000:=by
 by_cases hi:i<rs.length
 ·rw[List.getD_eq_getElem?_getD,List.getElem?_eq_getElem hi,Option.getD_some];by_cases e:iS rs[i] a b=[]
  ·unfold topR;rw[e];decide
  ·have h1:=top_mem e;have h2:topR rs[i] a b∈rs[i]:=List.mem_of_mem_drop (List.mem_of_mem_take h1);exact(h _ (List.getElem_mem hi) _ h2).2
 ·rw[List.getD_eq_getElem?_getD,List.getElem?_eq_none qG];unfold topR iS;simp
theorem sumN_ge{f:Nat→Nat}{i:Nat}:∀n,i<n→f i≤iQ f n
 | n+1,h=>by
  unfold iQ;by_cases e:i=n
  ·subst e;omega
  ·have:=sumN_ge n (i:=i) (f:=f) qG;omega
theorem full_bit{n s:Nat}(h:s<n):(2^n-1).testBit s=true:=by rw[Nat.testBit_two_pow_sub_one];simp[h]
def earL(l:Lb)(x:Nat):Nat→Lb
 | 0=>l
 | k+1=>if k=x∨fa l.ord k x=true then earL l x k else(earL l x k).add ⟨x,k,(earL l x k).err+1⟩
def latL(l:Lb)(x:Nat):Nat→Lb
 | 0=>l
 | k+1=>if k=x∨fa l.ord x k=true then latL l x k else(latL l x k).add ⟨k,x,(latL l x k).err+1⟩
theorem run_more{e:Int}{a b:Nat}(he:0≤e):runV e ⟨a,b,e+1⟩=some (a,b):=by
 unfold runV;rw[if_pos (show e<e+1 by omega),Int.toNat_natCast,Int.toNat_natCast]
structure More(l m:Lb)(k:Nat)(R:Nat×Nat→Prop):Prop where
 sk:m.skis=l.skis
 err:m.err=l.err
 ok:m.Ok
 len:m.runs.length≤l.runs.length+k
 has:∀p,p∈m.pairs↔p∈l.pairs∨R p
theorem More.n{l m:Lb}{k:Nat}{R:Nat×Nat→Prop}(h:More l m k R):m.n=l.n:=by unfold Lb.n;rw[h.sk]
theorem More.le{l m:Lb}{k:Nat}{R:Nat×Nat→Prop}(h:More l m k R)(hl:l.Ok):LeO l.ord m.ord:=order_le hl.in8 h.ok.in8 fun p hp=>(h.has p).2 (.inl hp)
theorem More.add{l m:Lb}{k a b:Nat}{R R':Nat×Nat→Prop}(h:More l m k R)(ha:a<l.n)(hb:b<l.n)(hne:a≠b)(hlen:l.runs.length+k<40)(hR:∀p,R' p↔R p∨p=(a,b)):More l (m.add ⟨a,b,m.err+1⟩) (k+1) R':=by
 have hs0:=h.ok.s0;have hs1:=h.ok.s1;have he0:=h.ok.e0;have he1:=h.ok.e1;have hsk:=h.sk;have hl:=h.len;have ha2:(a:Int)<m.skis:=by unfold Lb.n at ha;omega
 have hb2:(b:Int)<m.skis:=by unfold Lb.n at hb;omega
 refine⟨h.sk,h.err,h.ok.add qG (run_ok qG qG qG qG),?_,fun p=> ?_⟩
 ·show(m.runs++[_]).length≤_
  rw[List.length_append,List.length_singleton];omega
 ·rw[add_pairs,run_more he0,hR,List.mem_append,h.has];simp only[Option.toList,List.mem_singleton];exact or_assoc
theorem More.up{l m:Lb}{k:Nat}{R R':Nat×Nat→Prop}(h:More l m k R)(hR:∀p,R' p↔R p):More l m (k+1) R':=
 ⟨h.sk,h.err,h.ok,by have:=h.len;omega,fun p=>by rw[h.has,hR]⟩
theorem More.start{l:Lb}{R:Nat×Nat→Prop}(h:l.Ok)(hR:∀p,¬R p):More l l 0 R:=⟨rfl,rfl,h,by omega,fun p=>by simp[hR p]⟩
theorem furt_ord{l:Lb}(hl:l.Ok)(x y:Nat):(l.add ⟨x,y,l.err+1⟩).ord=cU l.ord x y:=add_some (p:=(x,y)) (run_more hl.e0)
theorem furt_ok{l:Lb}(hl:l.Ok){x y:Nat}(hx:x<l.n)(hy:y<l.n)(hne:x≠y)(hlen:l.runs.length<40):(l.add ⟨x,y,l.err+1⟩).Ok:=by
 have h1:=hl.s0;have h2:=hl.e0;have h3:=hl.e1;unfold Lb.n at hx hy;exact hl.add hlen (run_ok qG qG qG qG)
def Sh(l:Lb)(i f s:Nat):Prop:=i<l.runs.length∧runV l.err (l.runs.getD i ⟨0,0,0⟩)=some (f,s)
theorem sh_mem{l:Lb}{x:Nat×Int×Int}(h:x∈shL l):Sh l x.1 x.2.1.toNat x.2.2.toNat:=by
 obtain⟨i,hi,h1⟩:=List.mem_filterMap.1 h;obtain⟨p,hp,rfl⟩:=Option.map_eq_some_iff.1 h1;refine⟨List.mem_range.1 hi,?_⟩;rw[mY,hp]
 rfl
theorem mem_sh{l:Lb}{i f s:Nat}(h:Sh l i f s):∃x∈shL l,x.1=i∧x.2.1.toNat=f∧x.2.2.toNat=s:=by
 obtain⟨h1,h2⟩:=h;rw[mY] at h2;obtain⟨p,hp,h3⟩:=Option.map_eq_some_iff.1 h2;refine⟨(i,p),List.mem_filterMap.2 ⟨i,List.mem_range.2 h1,by rw[hp];rfl⟩,J,?_,?_⟩
 ·exact congrArg Prod.fst h3
 ·exact congrArg Prod.snd h3
def Wk(l:Lb)(a:Nat):Nat→Nat→Prop
 | 0,b=>b=a
 | k+1,b=>∃s i,Wk l a k s∧Sh l i s b
theorem lead_snoc(l:Lb):∀(c:List Int) (a i:Int),eD l a (c++[i])=(eD l a c).bind fun x=>eD l x [i]
 | [],a,i=>rfl
 | j::c,a,i=>by
  simp only[List.cons_append];unfold eD;split
  ·rfl
  ·rename_i p hp
   split
   ·rw[lead_snoc l c p.2 i]
    rfl
   ·rfl
theorem lead_one{l:Lb}(he:0≤l.err){x i y:Int}(h:eD l x [i]=some y):∃f s:Nat,Sh l i.toNat f s∧(f:Int)=x∧(s:Int)=y:=by
 unfold eD at h;split at h
 ·cases h
 ·rename_i p hp
  split at h
  ·rename_i h1
   unfold eD at h;refine⟨p.1,p.2,⟨?_,hp⟩,h1,Option.some.inj h⟩;rcases Nat.lt_or_ge i.toNat l.runs.length with h2|h2
   ·exact h2
   ·exfalso;rw[List.getD_eq_getElem?_getD,List.getElem?_eq_none h2,Option.getD_none] at hp;unfold runV at hp;rw[if_neg (by simp only;omega),if_neg (by simp only;omega)] at hp;cases hp
  ·cases h
theorem lead_wk{l:Lb}(he:0≤l.err)(a:Nat):∀(n:Nat) (c:List Int) (y:Int),c.length=n→eD l a c=some y→∃b:Nat,y=b∧Wk l a n b
 | 0,c,y,hn,h=>by
  rw[List.length_eq_zero_iff.1 hn] at h;exact⟨a,(Option.some.inj h).symm,J⟩
 | n+1,c,y,hn,h=>by
  rcases List.eq_nil_or_concat c with rfl|⟨c,i,rfl⟩
  ·simp at hn
  ·rw[List.concat_eq_append] at h hn;rw[lead_snoc] at h;obtain⟨x,hx,h2⟩:=Option.bind_eq_some_iff.1 h;obtain⟨f,s,h3,h4,h5⟩:=lead_one he h2;obtain⟨b,hb,hw⟩:=lead_wk he a n c x (by simpa using hn) hx;refine⟨s,h5.symm,f,i.toNat,?_,h3⟩;have:b=f:=by omega
   rw[←this];exact hw
theorem lead_cons{l:Lb}{i f s:Nat}{c:List Int}(h:Sh l i f s):eD l f ((i:Int)::c)=eD l s c:=by
 conv=>lhs;unfold eD
 rw[Int.toNat_natCast,h.2];simp
structure BI(l:Lb)(fast slow n:Nat)(pre:List (Nat×Int×Int))(by':List Int)(met lev:List Nat):Prop where
 bl:by'.length=8
 ll:lev.length=met.length
 m0:met.getD 0 0=fast
 l0:lev.getD 0 0=0
 nl:n<met.length
 mono:∀i j,i≤j→j<met.length→lev.getD i 0≤lev.getD j 0
 top:∀j,j<met.length→lev.getD j 0≤lev.getD n 0+1
 nod:∀j,j<met.length→met.getD j 0<8
 par:∀s,s<8→0≤by'.getD s 0→∃j p,1≤j∧j<met.length∧met.getD j 0=s∧p<j∧Sh l (by'.getD s 0).toNat (met.getD p 0) s∧lev.getD j 0=lev.getD p 0+1
 mem:∀j,1≤j→j<met.length→0≤by'.getD (met.getD j 0) 0
 uniq:∀i j,1≤i→i<met.length→1≤j→j<met.length→met.getD i 0=met.getD j 0→i=j
 slow:by'.getD slow 0<0
 lv:∀j,j<met.length→lev.getD j 0≤j
 sz:met.length≤1+((List.range 8).filter fun s=>decide (0≤by'.getD s 0)).length
 done:∀m,m<n→∀x∈shL l,x.2.1.toNat=met.getD m 0→∃j,1≤j∧j<met.length∧met.getD j 0=x.2.2.toNat∧lev.getD j 0≤lev.getD m 0+1
 cur:∀x∈pre,x.2.1.toNat=met.getD n 0→∃j,1≤j∧j<met.length∧met.getD j 0=x.2.2.toNat
theorem getD_app1{α:Type}(l:List α)(x d:α){i:Nat}(h:i<l.length):(l++[x]).getD i d=l.getD i d:=by
 rw[List.getD_eq_getElem?_getD,List.getD_eq_getElem?_getD,List.getElem?_append_left h]
theorem getD_app2{α:Type}(l:List α)(x d:α):(l++[x]).getD l.length d=x:=by
 rw[List.getD_eq_getElem?_getD,List.getElem?_append_right (Nat.le_refl _)];simp
theorem BI.start(l:Lb){fast slow:Nat}(hf:fast<8)(hs:slow<8):BI l fast slow 0 [] (List.replicate 8 (-1)) [fast] [0] where
 bl:=by simp
 ll:=rfl
 m0:=rfl
 l0:=rfl
 nl:=by simp
 mono:=fun i j h1 h2=>by
  have:j=0:=by simpa using h2
  subst this;have:i=0:=by omega
  subst this;exact Nat.le_refl _
 top:=fun j hj=>by
  have:j=0:=by simpa using hj
  subst this;exact Nat.le_succ _
 nod:=fun j hj=>by
  have:j=0:=by simpa using hj
  subst this;exact hf
 par:=fun s h1 h2=>by
  rw[List.getD_eq_getElem?_getD,List.getElem?_replicate,if_pos h1] at h2;simp at h2
 mem:=fun j h1 h2=>by simp at h2;omega
 uniq:=fun i j h1 h2=>by simp at h2;omega
 slow:=by rw[List.getD_eq_getElem?_getD,List.getElem?_replicate,if_pos hs];simp
 lv:=fun j hj=>by
  have:j=0:=by simpa using hj
  subst this;exact Nat.le_refl _
 sz:=by simp only[List.length_singleton];omega
 done:=fun m h=>by omega
 cur:=fun x h=>by cases h
theorem BI.skip{l:Lb}{fast slow n:Nat}{pre:List (Nat×Int×Int)}{by':List Int}{met lev:List Nat}(h:BI l fast slow n pre by' met lev){x:Nat×Int×Int}(hs8:x.2.2.toNat<8)(hx:x.2.1.toNat≠met.getD n 0∨0≤by'.getD x.2.2.toNat 0):BI l fast slow n (pre++[x]) by' met lev:=
  {h with
    cur:=fun y hy hf=>by
      rcases List.mem_append.1 hy with hy|hy
      · exact h.cur y hy hf
      · rw[List.mem_singleton.1 hy] at hf ⊢;rcases hx with hx|hx
        · exact absurd hf hx
        · obtain⟨j,p,h1,h2,h3,_⟩:=h.par _ hs8 hx;exact⟨j,h1,h2,h3⟩}
theorem BI.add{l:Lb}{fast slow n:Nat}{pre:List (Nat×Int×Int)}{by':List Int}{met lev:List Nat}(h:BI l fast slow n pre by' met lev){x:Nat×Int×Int}(hsh:Sh l x.1 x.2.1.toNat x.2.2.toNat)(hs8:x.2.2.toNat<8)(hf:x.2.1.toNat=met.getD n 0)(hb:by'.getD x.2.2.toNat 0<0)(hne:x.2.2.toNat≠slow):BI l fast slow n (pre++[x]) (by'.set x.2.2.toNat x.1) (met++[x.2.2.toNat]) (lev++[lev.getD n 0+1]):=by
 obtain⟨i,f,s0⟩:=x;dsimp only at hsh hs8 hf hb hne ⊢;generalize hst:s0.toNat=s at *;have hbl:=h.bl;have hll:=h.ll;have hnl:=h.nl;have hm:∀j,j<met.length→(met++[s]).getD j 0=met.getD j 0:=fun j hj=>getD_app1 _ _ _ hj
 have hl:∀j,j<met.length→(lev++[lev.getD n 0+1]).getD j 0=lev.getD j 0:=fun j hj=>getD_app1 _ _ _ qG
 have hm2:(met++[s]).getD met.length 0=s:=getD_app2 _ _ _;have hl2:(lev++[lev.getD n 0+1]).getD met.length 0=lev.getD n 0+1:=by rw[←hll];exact getD_app2 _ _ _
 have hbs:(by'.set s (i:Int)).getD s 0=i:=by rw[kT _ _ _ _ qG,if_pos rfl]
 have hbo:∀t,t≠s→(by'.set s (i:Int)).getD t 0=by'.getD t 0:=fun t ht=>by rw[kT _ _ _ _ qG,if_neg ht]
 have hnew:∀j,1≤j→j<met.length→met.getD j 0≠s:=fun j h1 h2 e=>by
  have:=h.mem j h1 h2;rw[e] at this;omega
 have hlen:(met++[s]).length=met.length+1:=by simp
 refine⟨by simp[hbl],by simp[hll],by rw[hm 0 qG];exact h.m0,by rw[hl 0 qG];exact h.l0,by omega,fun a b hab hbl2=> ?_,fun j hj=> ?_,fun j hj=> ?_,fun t ht hb0=> ?_,fun j h1 h2=> ?_,fun a b h1 h2 h3 h4 e=> ?_,?_,fun j hj=> ?_,?_,fun m hmn y hy e=> ?_,fun y hy e=> ?_⟩
 ·rw[hlen] at hbl2;by_cases e1:b=met.length
  ·rw[e1,hl2];by_cases e2:a=met.length
   ·rw[e2,hl2];omega
   ·rw[hl a qG];exact h.top a qG
  ·rw[hl a qG,hl b qG];exact h.mono a b hab qG
 ·rw[hlen] at hj;rw[hl n hnl];by_cases e1:j=met.length
  ·rw[e1,hl2];omega
  ·rw[hl j qG];exact h.top j qG
 ·rw[hlen] at hj;by_cases e1:j=met.length
  ·rw[e1,hm2];exact hs8
  ·rw[hm j qG];exact h.nod j qG
 ·by_cases e1:t=s
  ·subst e1;refine⟨met.length,n,by omega,by omega,hm2,hnl,?_,?_⟩
   ·rw[hbs,Int.toNat_natCast,hm n hnl,←hf];exact hsh
   ·rw[hl2,hl n hnl]
  ·rw[hbo t e1] at hb0 ⊢;obtain⟨j,p,h1,h2,h3,h4,h5,h6⟩:=h.par t ht hb0;exact⟨j,p,h1,by omega,by rw[hm j h2];exact h3,h4,by rw[hm p qG];exact h5,by rw[hl j h2,hl p qG];exact h6⟩
 ·rw[hlen] at h2;by_cases e1:j=met.length
  ·rw[e1,hm2,hbs];omega
  ·rw[hm j qG,hbo _ (hnew j h1 qG)];exact h.mem j h1 qG
 ·rw[hlen] at h2 h4;by_cases e1:a=met.length
  ·by_cases e2:b=met.length
   ·omega
   ·rw[e1,hm2,hm b qG] at e;exact absurd e.symm (hnew b h3 qG)
  ·by_cases e2:b=met.length
   ·rw[e2,hm2,hm a qG] at e;exact absurd e (hnew a h1 qG)
   ·rw[hm a qG,hm b qG] at e;exact h.uniq a b h1 qG h3 qG e
 ·rw[hbo _ (Ne.symm hne)];exact h.slow
 ·rw[hlen] at hj;by_cases e1:j=met.length
  ·rw[e1,hl2];have:=h.lv n hnl;omega
  ·rw[hl j qG];exact h.lv j qG
 ·have h1:=h.sz
  have h2:=oZ (fun t=>decide (0≤by'.getD t 0)) (fun t=>decide (0≤(by'.set s (i:Int)).getD t 0)) (List.range 8) (fun t ht h3=>by
   by_cases e1:t=s
   ·rw[e1,hbs];simp
   ·rw[hbo t e1];exact h3) ⟨s,List.mem_range.2 hs8,by rw[hbs];simp,by simpa using hb⟩
  omega
 ·rw[hm m qG] at e;obtain⟨j,h1,h2,h3,h4⟩:=h.done m hmn y hy e;exact⟨j,h1,by omega,by rw[hm j h2];exact h3,by rw[hl j h2,hl m qG];exact h4⟩
 ·rw[hm n hnl] at e;rcases List.mem_append.1 hy with hy|hy
  ·obtain⟨j,h1,h2,h3⟩:=h.cur y hy e;exact⟨j,h1,by omega,by rw[hm j h2];exact h3⟩
  ·rw[List.mem_singleton.1 hy];refine⟨met.length,by omega,by omega,?_⟩;rw[hm2];exact hst.symm
theorem BI.next{l:Lb}{fast slow n:Nat}{by':List Int}{met lev:List Nat}(h:BI l fast slow n (shL l) by' met lev)(hn:n+1<met.length):BI l fast slow (n+1) [] by' met lev:=
  {h with
    nl:=hn
    top:=fun j hj=>by have:=h.top j hj;have:=h.mono n (n+1) qG hn;omega
    done:=fun m hm x hx e=>by
      by_cases e1:m=n
      · subst e1;obtain⟨j,h1,h2,h3⟩:=h.cur x hx e;exact⟨j,h1,h2,h3,h.top j h2⟩
      · exact h.done m qG x hx e
    cur:=fun x hx=>by cases hx}
theorem BI.reach{l:Lb}{fast slow n:Nat}{pre:List (Nat×Int×Int)}{by':List Int}{met lev:List Nat}(h:BI l fast slow n pre by' met lev):∀k b,1≤k→k≤lev.getD n 0→Wk l fast k b→∃j,1≤j∧j<met.length∧met.getD j 0=b∧lev.getD j 0≤k
 | 0,b,h1,_,_=>by omega
 | k+1,b,h1,hk,hw=>by
  obtain⟨s,i,hs,hsh⟩:=hw;obtain⟨x,hx,_,hx2,hx3⟩:=mem_sh hsh
  have key:∀m,m<met.length→met.getD m 0=s→lev.getD m 0≤k→∃j,1≤j∧j<met.length∧met.getD j 0=b∧lev.getD j 0≤k+1:=fun m hm hms hml=>by
   have hmn:m<n:=by
    rcases Nat.lt_or_ge m n with h2|h2
    ·exact h2
    ·have:=h.mono n m h2 hm;omega
   obtain⟨j,h2,h3,h4,h5⟩:=h.done m hmn x hx (by rw[hx2,hms]);exact⟨j,h2,h3,by rw[h4,hx3],by omega⟩
  by_cases hk0:k=0
  ·subst hk0;have hs2:s=fast:=hs;have hn0:=h.nl;exact key 0 qG (by rw[h.m0,hs2]) (by rw[h.l0];exact Nat.le_refl _)
  ·obtain⟨m,_,h3,h4,h5⟩:=h.reach k s qG qG hs;exact key m h3 h4 h5
theorem BI.last{l:Lb}{fast slow n:Nat}{by':List Int}{met lev:List Nat}(h:BI l fast slow n (shL l) by' met lev)(hn:n+1=met.length):∀k b,1≤k→Wk l fast k b→∃j,1≤j∧j<met.length∧met.getD j 0=b
 | 0,b,h1,_=>by omega
 | k+1,b,h1,hw=>by
  obtain⟨s,i,hs,hsh⟩:=hw;obtain⟨x,hx,_,hx2,hx3⟩:=mem_sh hsh
  have key:∀m,m<met.length→met.getD m 0=s→∃j,1≤j∧j<met.length∧met.getD j 0=b:=fun m hm hms=>by
   by_cases e1:m=n
   ·subst e1;obtain⟨j,h2,h3,h4⟩:=h.cur x hx (by rw[hx2,hms]);exact⟨j,h2,h3,by rw[h4,hx3]⟩
   ·obtain⟨j,h2,h3,h4,_⟩:=h.done m qG x hx (by rw[hx2,hms]);exact⟨j,h2,h3,by rw[h4,hx3]⟩
  by_cases hk0:k=0
  ·subst hk0;have hs2:s=fast:=hs;exact key 0 qG (by rw[h.m0,hs2])
  ·obtain⟨m,_,h3,h4⟩:=h.last hn k s qG hs;exact key m h3 h4
structure Short(l:Lb)(fast slow:Nat)(c:List Int):Prop where
 ne:c≠[]
 ok:eD l fast c=some (slow:Int)
 inr:∀i∈c,0≤i∧i<l.runs.length
 min:∀c',c'≠[]→eD l fast c'=some (slow:Int)→c.length≤c'.length
def NoCh(l:Lb)(fast slow:Nat):Prop:=∀c',c'≠[]→eD l fast c'≠some (slow:Int)
theorem BI.none{l:Lb}{fast slow n:Nat}{by':List Int}{met lev:List Nat}(he:0≤l.err)(h:BI l fast slow n (shL l) by' met lev)(hn:n+1=met.length):NoCh l fast slow:=fun c hne hc=>by
 obtain⟨b,hb,hw⟩:=lead_wk he fast _ c _ rfl hc;obtain⟨j,h1,h2,h3⟩:=h.last hn _ _ (List.length_pos_iff.2 hne) hw;have h4:=h.mem j h1 h2;have h5:=h.slow;rw[h3,show b=slow from by omega] at h4;omega
structure BK(l:Lb)(fast slow:Nat)(by':List Int)(at':Nat)(out:List Int)(K:Nat):Prop where
 bl:by'.length=8
 kb:K≤9
 at8:at'<8
 ge:0≤by'.getD at' 0∨(at'=fast∧out≠[])
 ok:eD l at' out.reverse=some (slow:Int)
 inr:∀i∈out,0≤i∧i<l.runs.length
 len:∃(met lev:List Nat),lev.length=met.length∧(∀j,j<met.length→met.getD j 0<8)∧met.getD 0 0=fast∧lev.getD 0 0=0∧0<met.length∧(∀s,s<8→s≠slow→0≤by'.getD s 0→∃j p,1≤j∧j<met.length∧met.getD j 0=s∧p<j∧Sh l (by'.getD s 0).toNat (met.getD p 0) s∧lev.getD j 0=lev.getD p 0+1)∧
  (∀j,1≤j→j<met.length→0≤by'.getD (met.getD j 0) 0∧met.getD j 0≠slow)∧(∀i j,1≤i→i<met.length→1≤j→j<met.length→met.getD i 0=met.getD j 0→i=j)∧(∀c',c'≠[]→eD l fast c'=some (slow:Int)→K≤c'.length)∧
  ((out=[]∧at'=slow∧∃p,p<met.length∧Sh l (by'.getD slow 0).toNat (met.getD p 0) slow∧K=lev.getD p 0+1)∨(out≠[]∧∃p,p<met.length∧met.getD p 0=at'∧lev.getD p 0+out.length=K))
theorem BI.stop{l:Lb}{fast slow n:Nat}{pre:List (Nat×Int×Int)}{by':List Int}{met lev:List Nat}(he:0≤l.err)(h:BI l fast slow n pre by' met lev){x:Nat×Int×Int}(hsh:Sh l x.1 x.2.1.toNat x.2.2.toNat)(hs8:slow<8)(hf:x.2.1.toNat=met.getD n 0)(hs:x.2.2.toNat=slow):BK l fast slow (by'.set slow x.1) slow [] (lev.getD n 0+1):=by
 have hbl:=h.bl;have hbs:(by'.set slow (x.1:Int)).getD slow 0=x.1:=by rw[kT _ _ _ _ qG,if_pos rfl]
 have hbo:∀t,t≠slow→(by'.set slow (x.1:Int)).getD t 0=by'.getD t 0:=fun t ht=>by rw[kT _ _ _ _ qG,if_neg ht]
 have hns:∀j,1≤j→j<met.length→met.getD j 0≠slow:=fun j h1 h2 e=>by
  have h3:=h.mem j h1 h2;have h4:=h.slow;rw[e] at h3;omega
 refine⟨by simp[hbl],by have h1:=h.lv n h.nl;have h2:=h.sz;have h3:=List.length_filter_le (fun s=>decide (0≤by'.getD s 0)) (List.range 8);rw[List.length_range] at h3;have h4:=h.nl;omega,hs8,.inl (by rw[hbs];omega),rfl,(fun i hi=>by cases hi),met,lev,h.ll,h.nod,h.m0,h.l0,by have:=h.nl;omega,fun s h1 h2 h3=> ?_,fun j h1 h2=>⟨by rw[hbo _ (hns j h1 h2)];exact h.mem j h1 h2,hns j h1 h2⟩,h.uniq,fun c hne hc=> ?_,.inl ⟨rfl,rfl,n,h.nl,?_,rfl⟩⟩
 ·rw[hbo s h2] at h3 ⊢;exact h.par s h1 h3
 ·obtain⟨b,hb,hw⟩:=lead_wk he fast _ c _ rfl hc;rcases Nat.lt_or_ge (lev.getD n 0) c.length with h1|h1
  ·exact h1
  ·obtain⟨j,h2,h3,h4,_⟩:=h.reach _ _ (List.length_pos_iff.2 hne) h1 hw;exact absurd (by omega:met.getD j 0=slow) (hns j h2 h3)
 ·rw[hbs,Int.toNat_natCast,←hf,←hs];exact hsh
theorem BK.step{l:Lb}{fast slow at' K:Nat}{by' out:List Int}(h:BK l fast slow by' at' out K)(hgo:out=[]∨at'≠fast):∃f:Nat,0≤by'.getD at' 0∧Sh l (by'.getD at' 0).toNat f at'∧BK l fast slow by' f (out++[by'.getD at' 0]) K:=by
 have hge:0≤by'.getD at' 0:=by
  rcases h.ge with h1|⟨h1,h2⟩
  ·exact h1
  ·rcases hgo with h3|h3
   ·exact absurd h3 h2
   ·exact absurd h1 h3
 obtain⟨met,lev,k1,k2,k3,k4,k5,k6,k7,k8,k9,k10⟩:=h.len
 have fin:∀p,p<met.length→Sh l (by'.getD at' 0).toNat (met.getD p 0) at'→lev.getD p 0+(out.length+1)=K→∃f:Nat,0≤by'.getD at' 0∧Sh l (by'.getD at' 0).toNat f at'∧BK l fast slow by' f (out++[by'.getD at' 0]) K:=fun p hp hsh hK=>by
  refine⟨met.getD p 0,hge,hsh,⟨h.bl,h.kb,k2 p hp,?_,?_,fun i hi=> ?_,met,lev,k1,k2,k3,k4,k5,k6,k7,k8,k9,.inr ⟨by simp,p,hp,J,by rw[List.length_append,List.length_singleton];exact hK⟩⟩⟩
  ·by_cases hp0:p=0
   ·subst hp0;exact .inr ⟨k3,by simp⟩
   ·exact .inl (k7 p qG hp).1
  ·rw[List.reverse_append];have e:((by'.getD at' 0).toNat:Int)=by'.getD at' 0:=by omega
   show eD l (met.getD p 0:Nat) (by'.getD at' 0::out.reverse)=_
   rw[←e,lead_cons hsh];exact h.ok
  ·rcases List.mem_append.1 hi with hi|hi
   ·exact h.inr i hi
   ·rw[List.mem_singleton.1 hi];have:=hsh.1;omega
 rcases k10 with⟨h1,h2,p,h3,h4,h5⟩|⟨h1,p,h3,h4,h5⟩
 ·subst h2;exact fin p h3 h4 (by rw[h1,List.length_nil];omega)
 ·have hp1:1≤p:=by
   rcases Nat.eq_zero_or_pos p with h6|h6
   ·subst h6;rcases hgo with h7|h7
    ·exact absurd h7 h1
    ·rw[k3] at h4;exact absurd h4.symm h7
   ·exact h6
  have hns:=(k7 p hp1 h3).2;rw[h4] at hns;obtain⟨j,q,g1,g2,g3,g4,g5,g6⟩:=k6 at' h.at8 hns hge;have hjp:=k8 j p g1 g2 hp1 h3 (by rw[g3,h4]);subst hjp;exact fin q qG g5 qG
theorem BK.bound{l:Lb}{fast slow at' K:Nat}{by' out:List Int}(h:BK l fast slow by' at' out K):out.length≤K:=by
 obtain⟨met,lev,k1,k2,k3,k4,k5,k6,k7,k8,k9,k10⟩:=h.len;rcases k10 with⟨h1,_⟩|⟨_,p,_,_,h5⟩
 ·rw[h1];simp
 ·omega
theorem BK.end{l:Lb}{fast slow K:Nat}{by' out:List Int}(h:BK l fast slow by' fast out K)(hne:out≠[]):Short l fast slow out.reverse:=by
 obtain⟨met,lev,k1,k2,k3,k4,k5,k6,k7,k8,k9,k10⟩:=h.len;refine⟨by simpa using hne,h.ok,fun i hi=>h.inr i (List.mem_reverse.1 hi),fun c h1 h2=> ?_⟩;have h3:=k9 c h1 h2;rcases k10 with⟨h4,_⟩|⟨_,p,_,_,h5⟩
 ·exact absurd h4 hne
 ·rw[List.length_reverse];omega
def eqIB(a b:List Int):Bool:=decide (a=b)&&true
theorem eqIB_iff{a b:List Int}:eqIB a b=true↔a=b:=by simp[eqIB]
theorem eqIF_ca(w:World)(lo hi lo2 hi2:Nat)(v u:Value)(l m:List Int)(h1:RdI w lo hi v l)(h2:RdI w lo2 hi2 u m)(hlen:l.length≤1000000)(hlen2:m.length≤1000000) :
  Ca Tryz.prog 29 [v,u] w fun r w'=>r= .bool (eqIB l m)∧Chg [] w w':=by
 obtain⟨a,ca,rfl,hsa⟩:=RdI.outI h1;obtain⟨b,cb,rfl,hsb⟩:=RdI.outI h2;refine cM (Sat.nil w M0) Tryz.func29 J (by simp[Tryz.ntmps29]) ?_;(refine aD (aB (aA1 vq (aE (aD (aD (aB ?_))))));(iterate 5 refine aA1 vq ?_);refine aE ?_);by_cases hll:l.length=m.length
 ·rw[decide_eq_true (show(l.length:Int)=m.length by omega)];(refine aF J (aJ (aD (aD (aB ?_))));(iterate 3 refine aA1 vq ?_);refine aE (aK ?_));refine bD (σ:=Nat) (fun s=>s≤l.length∧l.take s=m.take s) (fun s=>l.length-s) (fun s=>[(0,.slice a l.length ca),(1,.slice b m.length cb),(12,.int .i64 l.length),(13,.int .i64 s)]) (fun _=>[]) 0 (by simp) ⟨J,J,J,J,trivial⟩ qF ?_;rintro i ⟨hi,ht⟩ K hK;(refine aD (aB (aA1 vq (aE (aD ?_)))));refine cP J (fun hc=> ?_) (fun hc=> ?_)
  ·have hi2:i<l.length:=by omega
   have hi3:i<m.length:=by omega
   clear hc;obtain⟨ba,oa,rfl⟩:=hsa qG;obtain⟨bb,ob,rfl⟩:=hsb qG;(refine aJ (aD (aK (aD (aB (aA1 vq (aA1 vq (aE (aD ?_)))))))));refine bY _ [] (Sp.refl _) qI qI ?_;(refine aB2 yq (aB2 yq ?_));(refine aB5 uq qG qG ?_;refine bA qE J J J (fun w hs=>RdI.at (RdE.keep h1 hs.chg0) i hi2) ?_);(refine aB2 yq (aB2 yq ?_));(refine aB5 uq qG qG ?_;refine bA qE J J J (fun w hs=>RdI.at (RdE.keep h2 hs.chg0) i hi3) ?_);(refine aB2 yq (aT ?_));by_cases he:l[i]=m[i]
   ·rw[decide_eq_true he];(refine aF J (aJ (aW (aB (aA4 xq qG qG (aA1 vq (aE ?_)))))));exact hK (i+1) _ _ ⟨by omega,by rw[List.take_succ_eq_append_getElem hi2,List.take_succ_eq_append_getElem hi3,ht,he]⟩ qG ⟨J,J,J,J,trivial⟩ qF
   ·have e:eqIB l m=false:=Bool.eq_false_iff.2 fun hh=>he (by have:=eqIB_iff.1 hh;subst this;rfl)
    rw[e,decide_eq_false he];(refine aH J (aD (aB (aA1 vq (aE (aQ ?_))))));refine aA2 wq qF fun w hs=> ?_
    exact⟨J,hs.chg0⟩
  ·obtain rfl:i=l.length:=by omega
   have e:eqIB l m=true:=eqIB_iff.2 (by rw[List.take_length] at ht;rw[hll,List.take_length] at ht;exact ht);rw[e];(refine aZ _ J (aD (aB (aA1 vq (aE (aQ ?_))))));refine aA2 wq qF fun w hs=> ?_
   exact⟨J,hs.chg0⟩
 ·have e:eqIB l m=false:=Bool.eq_false_iff.2 fun hh=>hll (by rw[eqIB_iff.1 hh])
  rw[e,decide_eq_false (show ¬(l.length:Int)=m.length by omega)];(refine aH J (aD (aB (aA1 vq (aE (aQ ?_))))));refine aA2 wq qF fun w hs=> ?_
  exact⟨J,hs.chg0⟩
theorem nL(w:World)(lo hi lo2 hi2:Nat)(v u:Value)(l:List Int)(h1:RdI w lo hi v l)(h2:RdI w lo2 hi2 u l)(hlen:l.length≤1000000) :
  Ca Tryz.prog 29 [v,u] w fun r w'=>r= .bool true∧Chg [] w w':=by
 have h:=eqIF_ca w lo hi lo2 hi2 v u l l h1 h2 hlen hlen
 rwa [eqIB_iff.2 rfl] at h
theorem eqII_ca(w:World)(lo hi lo2 hi2:Nat)(v u:Value)(ll:List (List Int))(h1:RdII w lo hi v ll)(h2:RdII w lo2 hi2 u ll)(hlen:ll.length≤1000000)(hrow:∀l∈ll,l.length≤1000000) :
  Ca Tryz.prog 52 [v,u] w fun r w'=>r= .bool true∧Chg [] w w':=by
 obtain⟨a,ca,rfl,hsa⟩:=RdII.outI h1;obtain⟨b,cb,rfl,hsb⟩:=RdII.outI h2;refine cM (Sat.nil w M0) Tryz.func52 J (by simp[Tryz.ntmps52]) ?_;(refine aD (aB (aA1 vq (aE (aD (aD (aB ?_))))));(iterate 4 refine aA1 vq ?_);refine aB1 yq qG (aE (aF J (aJ (aD (aD (aB ?_))))));(iterate 3 refine aA1 vq ?_);refine aE (aK ?_));refine bD (σ:=Nat) (fun s=>s≤ll.length) (fun s=>ll.length-s) (fun s=>[(0,.slice a ll.length ca),(1,.slice b ll.length cb),(12,.int .i64 ll.length),(13,.int .i64 s)]) (fun _=>[]) 0 qG ⟨J,J,J,J,trivial⟩ qF ?_;intro i hi K hK;(refine aD (aB (aA1 vq (aE (aD ?_)))));refine cP J (fun hc=> ?_) (fun hc=> ?_)
 ·have hi2:i<ll.length:=by omega
  clear hc;obtain⟨ba,oa,rfl⟩:=hsa qG;obtain⟨bb,ob,rfl⟩:=hsb qG;obtain⟨ar,cr,hr1,hc1⟩:=h1.row i hi2;obtain⟨br,dr,hr2,hc2⟩:=h2.row i hi2;have hrl:=hrow _ (List.getElem_mem hi2);(refine aJ (aD (aK (aD (aB (aA1 vq (aA1 vq (aE (aD ?_)))))))));refine bY _ [] (Sp.refl _) qI qI ?_;(refine aB2 yq (aB2 yq ?_));refine aB5 uq qG qG ?_;refine bA (v:= .slice ar ll[i].length cr) qE J J J (fun w' hs=>hc1 w' hs.chg0) ?_;(refine aB2 yq (aB2 yq ?_));refine aB5 uq qG qG ?_;refine bA (v:= .slice br ll[i].length dr) qE J J J (fun w' hs=>hc2 w' hs.chg0) ?_;refine cR (val:= .bool true) qE J J J J (fun w hs=> ?_) ?_;exact nL w _ _ _ _ _ _ ll[i] (RdE.keep hr1 hs.chg0) (RdE.keep hr2 hs.chg0) hrl;(refine aB2 yq (aT (aF J (aJ (aW (aB (aA4 xq qG qG (aA1 vq (aE ?_)))))))));exact hK (i+1) _ _ qG qG ⟨J,J,J,J,trivial⟩ qF
 ·(refine aZ _ J (aD (aB (aA1 vq (aE (aQ ?_))))))
  refine aA2 wq qF fun w hs=> ?_;exact⟨J,hs.chg0⟩
theorem spn_flat:nJ Tryz.prog 40 [some .i64,some .i64]=true:=by kernel_rfl
theorem eqS_ca(w:World)(lo hi lo2 hi2:Nat)(v u:Value)(l:List (Int×Int))(h1:RdS w lo hi v l)(h2:RdS w lo2 hi2 u l)(hlen:l.length≤1000000) :
  Ca Tryz.prog 39 [v,u] w fun r w'=>r= .bool true∧Chg [] w w':=by
 obtain⟨a,ca,rfl,hsa⟩:=RdS.outI h1;obtain⟨b,cb,rfl,hsb⟩:=RdS.outI h2;refine cM (Sat.nil w M0) Tryz.func39 J (by simp[Tryz.ntmps39]) ?_;(refine aD (aB (aA1 vq (aE (aD (aD (aB ?_))))));(iterate 4 refine aA1 vq ?_);refine aB1 yq qG (aE (aF J (aJ (aD (aD (aB ?_))))));(iterate 3 refine aA1 vq ?_);refine aE (aK ?_));refine bD (σ:=Nat) (fun s=>s≤l.length) (fun s=>l.length-s) (fun s=>[(0,.slice a l.length ca),(1,.slice b l.length cb),(12,.int .i64 l.length),(13,.int .i64 s)]) (fun _=>[]) 0 qG ⟨J,J,J,J,trivial⟩ qF ?_;intro i hi K hK;(refine aD (aB (aA1 vq (aE (aD ?_)))));refine cP J (fun hc=> ?_) (fun hc=> ?_)
 ·have hi2:i<l.length:=by omega
  clear hc;obtain⟨ba,oa,rfl⟩:=hsa qG;obtain⟨bb,ob,rfl⟩:=hsb qG;(refine aJ (aD (aK (aD (aB (aA1 vq (aA1 vq (aE (aD ?_)))))))));refine bY _ [] (Sp.refl _) qI qI ?_;(refine aB2 yq (aB2 yq ?_));refine aB5 uq qG qG ?_;refine dX qE J J J J (fun w hs=>RdS.at (RdE.keep h1 hs.chg0) i hi2) ?_;(refine aB2 yq (aB2 yq ?_));refine aB5 uq qG qG ?_;refine dX qE J J J J (fun w hs=>RdS.at (RdE.keep h2 hs.chg0) i hi2) ?_;refine qf_neF [some .i64,some .i64] spn_flat J J J J J ?_;rw[gA];(refine aT (aF J (aJ (aW (aB (aA4 xq qG qG (aA1 vq (aE ?_))))))));exact hK (i+1) _ _ qG qG ⟨J,J,J,J,trivial⟩ qF
 ·(refine aZ _ J (aD (aB (aA1 vq (aE (aQ ?_))))))
  refine aA2 wq qF fun w hs=> ?_;exact⟨J,hs.chg0⟩
theorem pair_flat:nJ Tryz.prog 62 [some .i64,some .i64]=true:=by kernel_rfl
theorem eqP_ca(w:World)(lo hi lo2 hi2:Nat)(v u:Value)(l:List (Int×Int))(h1:RdS w lo hi v l)(h2:RdS w lo2 hi2 u l)(hlen:l.length≤1000000) :
  Ca Tryz.prog 23 [v,u] w fun r w'=>r= .bool true∧Chg [] w w':=by
 obtain⟨a,ca,rfl,hsa⟩:=RdS.outI h1;obtain⟨b,cb,rfl,hsb⟩:=RdS.outI h2;refine cM (Sat.nil w M0) Tryz.func23 J (by simp[Tryz.ntmps23]) ?_;(refine aD (aB (aA1 vq (aE (aD (aD (aB ?_))))));(iterate 4 refine aA1 vq ?_);refine aB1 yq qG (aE (aF J (aJ (aD (aD (aB ?_))))));(iterate 3 refine aA1 vq ?_);refine aE (aK ?_));refine bD (σ:=Nat) (fun s=>s≤l.length) (fun s=>l.length-s) (fun s=>[(0,.slice a l.length ca),(1,.slice b l.length cb),(12,.int .i64 l.length),(13,.int .i64 s)]) (fun _=>[]) 0 qG ⟨J,J,J,J,trivial⟩ qF ?_;intro i hi K hK;(refine aD (aB (aA1 vq (aE (aD ?_)))));refine cP J (fun hc=> ?_) (fun hc=> ?_)
 ·have hi2:i<l.length:=by omega
  clear hc;obtain⟨ba,oa,rfl⟩:=hsa qG;obtain⟨bb,ob,rfl⟩:=hsb qG;(refine aJ (aD (aK (aD (aB (aA1 vq (aA1 vq (aE (aD ?_)))))))));refine bY _ [] (Sp.refl _) qI qI ?_;(refine aB2 yq (aB2 yq ?_));refine aB5 uq qG qG ?_;refine dX qE J J J J (fun w hs=>RdS.at (RdE.keep h1 hs.chg0) i hi2) ?_;(refine aB2 yq (aB2 yq ?_));refine aB5 uq qG qG ?_;refine dX qE J J J J (fun w hs=>RdS.at (RdE.keep h2 hs.chg0) i hi2) ?_;refine qf_neF [some .i64,some .i64] pair_flat J J J J J ?_;rw[gA];(refine aT (aF J (aJ (aW (aB (aA4 xq qG qG (aA1 vq (aE ?_))))))));exact hK (i+1) _ _ qG qG ⟨J,J,J,J,trivial⟩ qF
 ·(refine aZ _ J (aD (aB (aA1 vq (aE (aQ ?_))))))
  refine aA2 wq qF fun w hs=> ?_;exact⟨J,hs.chg0⟩
theorem oX:nJ Tryz.prog 29 [some .i64,some .i64,some .i64]=true:=by kernel_rfl
theorem eqR_ca(w:World)(lo hi lo2 hi2:Nat)(v u:Value)(l:List Rn)(h1:RdR w lo hi v l)(h2:RdR w lo2 hi2 u l)(hlen:l.length≤1000000) :
  Ca Tryz.prog 88 [v,u] w fun r w'=>r= .bool true∧Chg [] w w':=by
 obtain⟨a,ca,rfl,hsa⟩:=RdR.outI h1;obtain⟨b,cb,rfl,hsb⟩:=RdR.outI h2;refine cM (Sat.nil w M0) Tryz.func88 J (by simp[Tryz.ntmps88]) ?_;(refine aD (aB (aA1 vq (aE (aD (aD (aB ?_))))));(iterate 4 refine aA1 vq ?_);refine aB1 yq qG (aE (aF J (aJ (aD (aD (aB ?_))))));(iterate 3 refine aA1 vq ?_);refine aE (aK ?_));refine bD (σ:=Nat) (fun s=>s≤l.length) (fun s=>l.length-s) (fun s=>[(0,.slice a l.length ca),(1,.slice b l.length cb),(12,.int .i64 l.length),(13,.int .i64 s)]) (fun _=>[]) 0 qG ⟨J,J,J,J,trivial⟩ qF ?_;intro i hi K hK;(refine aD (aB (aA1 vq (aE (aD ?_)))));refine cP J (fun hc=> ?_) (fun hc=> ?_)
 ·have hi2:i<l.length:=by omega
  clear hc;obtain⟨ba,oa,rfl⟩:=hsa qG;obtain⟨bb,ob,rfl⟩:=hsb qG;(refine aJ (aD (aK (aD (aB (aA1 vq (aA1 vq (aE (aD ?_)))))))));refine bY _ [] (Sp.refl _) qI qI ?_;(refine aB2 yq (aB2 yq ?_));refine aB5 uq qG qG ?_;refine dX qE J J J J (fun w hs=>RdR.at (RdE.keep h1 hs.chg0) i hi2) ?_;(refine aB2 yq (aB2 yq ?_));refine aB5 uq qG qG ?_;refine dX qE J J J J (fun w hs=>RdR.at (RdE.keep h2 hs.chg0) i hi2) ?_;refine qf_neF [some .i64,some .i64,some .i64] oX J J J J J ?_;rw[gA];(refine aT (aF J (aJ (aW (aB (aA4 xq qG qG (aA1 vq (aE ?_))))))));exact hK (i+1) _ _ qG qG ⟨J,J,J,J,trivial⟩ qF
 ·(refine aZ _ J (aD (aB (aA1 vq (aE (aQ ?_))))))
  refine aA2 wq qF fun w hs=> ?_;exact⟨J,hs.chg0⟩
theorem zone_flat:nJ Tryz.prog 106 [some .i64,some .i64,some .i64]=true:=by kernel_rfl
theorem eqZ_ca(w:World)(lo hi lo2 hi2:Nat)(v u:Value)(l:List Rn)(h1:RdR w lo hi v l)(h2:RdR w lo2 hi2 u l)(hlen:l.length≤1000000) :
  Ca Tryz.prog 76 [v,u] w fun r w'=>r= .bool true∧Chg [] w w':=by
 obtain⟨a,ca,rfl,hsa⟩:=RdR.outI h1;obtain⟨b,cb,rfl,hsb⟩:=RdR.outI h2;refine cM (Sat.nil w M0) Tryz.func76 J (by simp[Tryz.ntmps76]) ?_;(refine aD (aB (aA1 vq (aE (aD (aD (aB ?_))))));(iterate 4 refine aA1 vq ?_);refine aB1 yq qG (aE (aF J (aJ (aD (aD (aB ?_))))));(iterate 3 refine aA1 vq ?_);refine aE (aK ?_));refine bD (σ:=Nat) (fun s=>s≤l.length) (fun s=>l.length-s) (fun s=>[(0,.slice a l.length ca),(1,.slice b l.length cb),(12,.int .i64 l.length),(13,.int .i64 s)]) (fun _=>[]) 0 qG ⟨J,J,J,J,trivial⟩ qF ?_;intro i hi K hK;(refine aD (aB (aA1 vq (aE (aD ?_)))));refine cP J (fun hc=> ?_) (fun hc=> ?_)
 ·have hi2:i<l.length:=by omega
  clear hc;obtain⟨ba,oa,rfl⟩:=hsa qG;obtain⟨bb,ob,rfl⟩:=hsb qG;(refine aJ (aD (aK (aD (aB (aA1 vq (aA1 vq (aE (aD ?_)))))))));refine bY _ [] (Sp.refl _) qI qI ?_;(refine aB2 yq (aB2 yq ?_));refine aB5 uq qG qG ?_;refine dX qE J J J J (fun w hs=>RdR.at (RdE.keep h1 hs.chg0) i hi2) ?_;(refine aB2 yq (aB2 yq ?_));refine aB5 uq qG qG ?_;refine dX qE J J J J (fun w hs=>RdR.at (RdE.keep h2 hs.chg0) i hi2) ?_;refine qf_neF [some .i64,some .i64,some .i64] zone_flat J J J J J ?_;rw[gA];(refine aT (aF J (aJ (aW (aB (aA4 xq qG qG (aA1 vq (aE ?_))))))));exact hK (i+1) _ _ qG qG ⟨J,J,J,J,trivial⟩ qF
 ·(refine aZ _ J (aD (aB (aA1 vq (aE (aQ ?_))))))
  refine aA2 wq qF fun w hs=> ?_;exact⟨J,hs.chg0⟩
theorem Blk.rdS'{w:World}{b c n:Nat}{l:List (Int×Int)}{t:TypeId}(h:Blk w b (spC l) t)(hn:n=l.length):RdS w 0 w.heap.size (aB7 b n c) l:=by
 subst hn;exact RdS.of (Blk.rdN (sz:=2) h (fE l))
theorem Blk.rdR'{w:World}{b c n:Nat}{l:List Rn}{t:TypeId}(h:Blk w b (rnC l) t)(hn:n=l.length):RdR w 0 w.heap.size (aB7 b n c) l:=by
 subst hn;exact RdR.of (Blk.rdN (sz:=3) h (rnC_length l))
theorem four_ca(w:World):Ca Tryz.prog 4 [] w fun x w'=>∃b:Nat,x= .agg (lbC fQ (aB7 b 4 4)).toArray∧Sat w M0 [.pt b (rnC fQ.runs) 29] w':=by
 refine cM (Sat.nil w M0) Tryz.func4 J (by simp[Tryz.ntmps4]) ?_;(refine aD (aB ?_));refine bJ eL J (fun b0=> ?_);(refine aE (aD (aB ?_)));refine dM #[.int .i64 0,.int .i64 1,.int .i64 8] J qI J ?_;refine dM #[.int .i64 1,.int .i64 2,.int .i64 3] J qI J ?_;refine dM #[.int .i64 2,.int .i64 1,.int .i64 (-9)] J qI J ?_;refine dM #[.int .i64 3,.int .i64 0,.int .i64 (-6)] J qI J ?_;refine cI 29 (rnC fQ.runs) J qI J (fun b5=> ?_);refine dM #[.int .i64 4,.int .i64 5,aB7 b5 4 4] J qI J ?_;(refine aA6 uq qF J ?_;refine aE (aQ ?_));refine aA2 wq qF fun w hs=> ?_;exact⟨b5,J,hs.sp qF⟩
theorem three_ca(w:World):Ca Tryz.prog 8 [] w fun x w'=>∃y:Nat×Nat×Nat×Nat,x=aB7 y.2.2.2 3 3∧Sat w M0 [.pt y.2.2.2 [aB7 y.1 4 4,aB7 y.2.1 4 4,aB7 y.2.2.1 4 4] 22,.pt y.2.2.1 (bF [9,9,2,1]) 3,.pt y.2.1 (bF [6,2,3,8]) 3,.pt y.1 (bF [5,4,9,9]) 3] w':=by
 refine cM (Sat.nil w M0) Tryz.func8 J (by simp[Tryz.ntmps8]) ?_;(refine aD (aB (aA1 vq (aE (aD (aB ?_))))));refine cI 3 (bF [5,4,9,9]) J qI J (fun c1=> ?_);refine cI 3 (bF [6,2,3,8]) J qI J (fun c2=> ?_);refine cI 3 (bF [9,9,2,1]) J qI J (fun c3=> ?_);refine cI 22 [aB7 c1 4 4,aB7 c2 4 4,aB7 c3 4 4] J qI J (fun c4=> ?_);(refine aA1 vq (aE (aQ ?_)));refine aA2 wq qF fun w hs=> ?_;exact⟨(c1,c2,c3,c4),J,hs.sp qF⟩
theorem six_ca(w:World):Ca Tryz.prog 9 [] w fun x w'=>∃b:Nat,x=aB7 b 6 6∧Sat w M0 [.pt b (bF sixL) 3] w':=by
 refine cM (Sat.nil w M0) Tryz.func9 J (by simp[Tryz.ntmps9]) ?_;(refine aD (aB (aA1 vq (aE (aD (aB ?_))))));refine cI 3 (bF sixL) J qI J (fun c1=> ?_);(refine aA1 vq (aE (aQ ?_)));refine aA2 wq qF fun w hs=> ?_;exact⟨c1,J,hs.sp qF⟩
theorem gG(lo hi:Int)(w:World):Ca Tryz.prog 10 [.int .i64 lo,.int .i64 hi] w fun x w'=>x=rtV (lo,hi)∧Chg [] w w':=by
 refine cM (Sat.nil w M0) Tryz.func10 J (by simp[Tryz.ntmps10]) ?_;(refine aD (aB ?_));refine bJ zero40 J (fun b4=> ?_);(refine aE (aD (aB (aA1 vq (aA1 vq ?_)))));refine dM #[.int .i64 lo,.int .i64 hi] J qI J ?_;(refine aA6 uq qF J ?_;refine aE (aQ ?_));refine aA2 wq qF fun w hs=> ?_;exact⟨J,hs.chg0⟩
theorem blk_II{w:World}{c1 c2 c3 c4:Nat}{t1 t2 t3 t4:TypeId}{l1 l2 l3:List Int}{n1 n2 n3:Nat}(e1:n1=l1.length)(e2:n2=l2.length)(e3:n3=l3.length)(h1:Blk w c1 (bF l1) t1)(h2:Blk w c2 (bF l2) t2)(h3:Blk w c3 (bF l3) t3)
  (h4:Blk w c4 [aB7 c1 n1 n1,aB7 c2 n2 n2,aB7 c3 n3 n3] t4):RdII w 0 w.heap.size (aB7 c4 3 3) [l1,l2,l3]:=by
 subst e1 e2 e3;refine⟨[aB7 c1 l1.length l1.length,aB7 c2 l2.length l2.length,aB7 c3 l3.length l3.length],RdE.one (by have:=Blk.rdN (c:=3) (sz:=1) (q:=3) h4 rfl;exact this) (by simp[dA]),J,fun i hi hi'=> ?_⟩;obtain rfl|rfl|rfl:i=0∨i=1∨i=2:=by simp at hi;omega
 ·exact Blk.rdI h1
 ·exact Blk.rdI h2
 ·exact Blk.rdI h3
theorem aw_ok:fQ.Ok∧NoC fQ.ord fQ.n:=dE.1 aw_check
theorem aw_plan:PlanOk fQ 4:=fW.1 (by decide +kernel)
theorem aw_few2:planO fQ.n 4 fQ.ord=2:=by decide +kernel
theorem aw_n:fQ.n=4:=by decide
theorem aw_ord2:cnt fQ.ord fQ.n (2^fQ.n-1)=3:=aw_orders
theorem aw_pl2:plC fQ fQ.ord fQ.n=[(1,1),(2,3),(3,4),(2,4)]:=aw_places
theorem aw_wax2:lG threeT 0 2=(1,1,0):=by decide +kernel
theorem aw_lim:cJ threeT 1=0:=by decide +kernel
set_option maxRecDepth 4000 in
theorem cZ(w:World):Ca Tryz.prog 14 [] w fun v w'=>v= .bool true∧Chg [] w w':=by
 refine cM (Sat.nil w M0) Tryz.func14 J (by simp[Tryz.ntmps14]) ?_;have hF:∀w' b,Blk w' b (rnC fQ.runs) 29→RdR w' 0 w'.heap.size (aB7 b 4 4) fQ.runs:=fun w' b hb=>Blk.rdR' hb rfl
 (refine aD (aB (aA1 vq (aE (aD (aB ?_))))))
 refine bB (β:=Nat) qE [] _ M0 J J J J (Sp.refl _) qJ (fun w' hs=>four_ca w') ?_;rintro b1 _ rfl;dsimp only[List.cons_append,List.nil_append];refine bB (β:=Value) qE [] _ M0 J J J J (Sp.refl _) qJ (fun w' hs=>places_ok w' 0 w'.heap.size fQ _ (hF w' b1 (hs.blk qF)) aw_ok.1 aw_ok.2) ?_;rintro va _ rfl;rw[aw_pl2,aw_n];dsimp only[List.cons_append,List.nil_append];refine bW (fun w hs=>hs.ownSome (v:=va) qF (by decide)) ?_;rintro⟨a1,a2,rfl⟩;(refine aA1 vq (aA7 yq (aA7 yq (aA1 vq (aA1 vq (aE (aD (aB ?_))))))));refine bB (β:=Nat) qE [] _ M0 J J J J (Sp.refl _) qJ (fun w' hs=>four_ca w') ?_;rintro b2 _ rfl;dsimp only[List.cons_append,List.nil_append];refine aI (val:= .tuple #[.int .i64 3,.int .i64 0]) qE J J J J (fun w hs=> ?_) ?_;exact by have:=orders_ok w 0 w.heap.size fQ _ (hF w b2 (hs.blk qF)) aw_ok.1 aw_ok.2;rw[aw_ord2] at this;exact this
 (refine aA1 vq (aA7 yq (aA7 yq (aA1 vq (aA1 vq (aE (aD (aB ?_))))))))
 refine bB (β:=Nat) qE [] _ M0 J J J J (Sp.refl _) qJ (fun w' hs=>four_ca w') ?_;rintro b3 _ rfl;dsimp only[List.cons_append,List.nil_append];refine cI 3 (bF [0,2]) J qI J (fun c1=> ?_);refine aI (val:= .tuple #[.bool true,.int .i64 0]) qE J J J J (fun w hs=> ?_) ?_;exact by have:=pC w 0 w.heap.size 0 w.heap.size fQ _ 0 2 _ [0,2] (hF w b3 (hs.blk qF)) (by decide) (Blk.rdI (c:=2) (hs.blk (b:=c1) qF)) (by decide);rw[aw_chain] at this;exact this
 (refine aA1 vq (aA7 yq (aA7 yq (aA1 vq (aA1 vq (aE (aD (aB ?_))))))))
 refine bB (β:=Nat) qE [] _ M0 J J J J (Sp.refl _) qJ (fun w' hs=>four_ca w') ?_;rintro b4 _ rfl;dsimp only[List.cons_append,List.nil_append];refine aI (val:= .tuple #[.int .i64 2,.int .i64 0]) qE J J J J (fun w hs=> ?_) ?_;exact by have:=fewest_ok w 0 w.heap.size fQ _ 4 (hF w b4 (hs.blk qF)) aw_plan;rw[aw_few2] at this;exact this
 (refine aA1 vq (aA7 yq (aA7 yq (aA1 vq (aA1 vq (aE (aD (aD (aB (aA1 vq (aB1 yq qG (aA1 vq ?_)))))))))));refine aC J (aA1 vq (aC J (aB1 yq qG (aA1 vq (aA1 vq (aC J (aA1 vq (aC J (aB1 yq qG (aA1 vq (aA1 vq ?_)))))))))));refine aC J (aA1 vq (aC J (aB1 yq qG (aA1 vq (aA1 vq (aC J (aA1 vq (aC J ?_)))))))))
 refine aI (val:=rtV (1,1)) qE J J J J (fun w hs=> ?_) ?_;exact gG 1 1 w;refine aC J ?_;refine aI (val:=rtV (2,3)) qE J J J J (fun w hs=> ?_) ?_;exact gG 2 3 w;refine aC J ?_;refine aI (val:=rtV (3,4)) qE J J J J (fun w hs=> ?_) ?_;exact gG 3 4 w;refine aC J ?_;refine aI (val:=rtV (2,4)) qE J J J J (fun w hs=> ?_) ?_;exact gG 2 4 w;refine aC J ?_;refine cI 40 (spC [(1,1),(2,3),(3,4),(2,4)]) J qI J (fun c2=> ?_);refine aC J ?_;refine aI (val:= .bool true) qE J J J J (fun w hs=> ?_) ?_;exact eqS_ca w 0 w.heap.size 0 w.heap.size _ _ [(1,1),(2,3),(3,4),(2,4)] (jG (t:=40) (hs.mem (c:= .ow (aB7 a1 4 a2) 40 2 4 (spC [(1,1),(2,3),(3,4),(2,4)])) qF) J) (Blk.rdS' (c:=4) (hs.blk (b:=c2) qF) J) (by decide);(refine aC J ?_;(iterate 3 refine aA1 vq ?_);refine aC J (aA1 vq (aC J (aB1 yq qG (aA1 vq (aA1 vq (aC J (aA1 vq (aC J ?_))))))));(iterate 3 refine aA1 vq ?_);refine aC J (aA1 vq (aC J (aB1 yq qG (aA1 vq (aE (aF J (aJ (aD (aB ?_))))))))));have hT:∀w' x1 x2 x3 x4,Blk w' x4 [aB7 x1 4 4,aB7 x2 4 4,aB7 x3 4 4] 22→Blk w' x3 (bF [9,9,2,1]) 3→Blk w' x2 (bF [6,2,3,8]) 3→Blk w' x1 (bF [5,4,9,9]) 3→RdII w' 0 w'.heap.size (aB7 x4 3 3) threeT:=fun w' x1 x2 x3 x4 h4 h3 h2 h1=>blk_II (l1:=[5,4,9,9]) (l2:=[6,2,3,8]) (l3:=[9,9,2,1]) rfl rfl rfl h1 h2 h3 h4
 refine bB (β:=Nat×Nat×Nat×Nat) qE [] _ M0 J J J J (Sp.refl _) qJ (fun w' hs=>three_ca w') ?_;rintro⟨x1,x2,x3,x4⟩ _ rfl;dsimp only[List.cons_append,List.nil_append];refine aI (val:= .tuple #[.int .i64 1,.int .i64 1,.int .i64 0]) qE J J J J (fun w hs=> ?_) ?_;exact by have:=wax_ca w 0 w.heap.size _ threeT 0 2 (hT w x1 x2 x3 x4 (hs.blk qF) (hs.blk qF) (hs.blk qF) (hs.blk qF));rw[aw_wax2] at this;exact this
 (refine aA1 vq ?_;(iterate 3 refine aA7 yq ?_);(iterate 3 refine aA1 vq ?_);refine aE (aD (aB ?_)))
 refine bB (β:=Nat×Nat×Nat×Nat) qE [] _ M0 J J J J (Sp.refl _) qJ (fun w' hs=>three_ca w') ?_;rintro⟨y1,y2,y3,y4⟩ _ rfl;dsimp only[List.cons_append,List.nil_append];refine bB (β:=Value) qE [] _ M0 J J J J (Sp.refl _) qJ (fun w' hs=>zones_ok w' 0 w'.heap.size _ threeT 1 (hT w' y1 y2 y3 y4 (hs.blk qF) (hs.blk qF) (hs.blk qF) (hs.blk qF)) aw_lim) ?_;rintro vz _ rfl;rw[aw_zones];dsimp only[List.cons_append,List.nil_append,List.length_cons,List.length_nil];refine bW (fun w hs=>hs.ownSome (v:=vz) qF (by decide)) ?_;rintro⟨z1,z2,rfl⟩;(refine aA1 vq (aA7 yq (aA7 yq (aA1 vq (aA1 vq (aE (aD (aB ?_))))))));refine bB (β:=Nat×Nat×Nat×Nat) qE [] _ M0 J J J J (Sp.refl _) qJ (fun w' hs=>three_ca w') ?_;rintro⟨u1,u2,u3,u4⟩ _ rfl;dsimp only[List.cons_append,List.nil_append];refine cI 3 (bF [0,3]) J qI J (fun c3=> ?_);refine aI (val:= .tuple #[.bool true,.int .i64 0]) qE J J J J (fun w hs=> ?_) ?_;exact by have:=pA w 0 w.heap.size 0 w.heap.size _ _ threeT 1 [0,3] (hT w u1 u2 u3 u4 (hs.blk qF) (hs.blk qF) (hs.blk qF) (hs.blk qF)) (Blk.rdI (c:=2) (hs.blk (b:=c3) qF)) (by decide);rw[aw_breaks] at this;exact this
 (refine aA1 vq (aA7 yq (aA7 yq (aA1 vq (aA1 vq (aE (aD (aB ?_))))))))
 refine bB (β:=Nat) qE [] _ M0 J J J J (Sp.refl _) qJ (fun w' hs=>six_ca w') ?_;rintro s1 _ rfl;dsimp only[List.cons_append,List.nil_append];refine bB (β:=Value) qE [] _ M0 J J J J (Sp.refl _) qJ (fun w' hs=>match_ok w' 0 w'.heap.size _ sixL (show RdI w' 0 w'.heap.size (aB7 s1 6 6) sixL from Blk.rdI (c:=6) (l:=sixL) (hs.blk (b:=s1) qF)) (gP.1 aw_sing)) ?_;rintro vm _ rfl;rw[aw_cost];dsimp only[List.cons_append,List.nil_append];(refine aA1 vq ?_;(iterate 3 refine aA7 yq ?_);(iterate 3 refine aA1 vq ?_);refine aE (aD (aB ?_)));refine bB (β:=Nat) qE [] _ M0 J J J J (Sp.refl _) qJ (fun w' hs=>six_ca w') ?_;rintro s2 _ rfl;dsimp only[List.cons_append,List.nil_append];refine aI (val:=rtV (20,23)) qE J J J J (fun w hs=> ?_) ?_;exact gG 20 23 w;refine aI (val:=rtV (38,41)) qE J J J J (fun w hs=> ?_) ?_;exact gG 38 41 w;refine aI (val:=rtV (50,60)) qE J J J J (fun w hs=> ?_) ?_;exact gG 50 60 w;refine cI 40 (spC [(20,23),(38,41),(50,60)]) J qI J (fun c4=> ?_);refine aI (val:= .tuple #[.int .i64 16,.int .i64 0]) qE J J J J (fun w hs=> ?_) ?_;exact by have:=gapsShow_ca w 0 w.heap.size 0 w.heap.size _ _ sixL [(20,23),(38,41),(50,60)] (show RdI w 0 w.heap.size (aB7 s2 6 6) sixL from Blk.rdI (c:=6) (l:=sixL) (hs.blk (b:=s2) qF)) (Blk.rdS' (c:=3) (hs.blk (b:=c4) qF) J) (by decide);rw[aw_gaps] at this;exact this
 (refine aA1 vq (aA7 yq (aA7 yq (aA1 vq (aA1 vq (aE (aD (aB (aA1 vq (aA8 yq qG (aA1 vq (aC J ?_)))))))))));refine aA1 vq (aC J (aA8 yq qG (aA1 vq (aA1 vq (aC J (aA1 vq (aC J (aA8 yq qG (aA1 vq (aA1 vq (aC J ?_)))))))))));refine aA1 vq (aC J (aA8 yq qG (aA1 vq (aA1 vq (aC J (aA1 vq (aC J (aA8 yq qG (aA1 vq (aA1 vq (aC J ?_)))))))))));refine aA1 vq (aC J (aA8 yq qG (aA1 vq (aA1 vq (aC J (aA1 vq (aC J (aA8 yq qG (aA1 vq (aA1 vq (aC J ?_)))))))))));refine aA1 vq (aC J ?_))
 refine dM #[.int .i64 0,.int .i64 2,.int .i64 1] J qI J ?_;refine aC J ?_;refine dM #[.int .i64 3,.int .i64 3,.int .i64 2] J qI J ?_;refine aC J ?_;refine cI 106 (rnC [⟨0,2,1⟩,⟨3,3,2⟩]) J qI J (fun c5=> ?_);refine aC J ?_;refine aI (val:= .bool true) qE J J J J (fun w hs=> ?_) ?_;exact eqZ_ca w 0 w.heap.size 0 w.heap.size _ _ [⟨0,2,1⟩,⟨3,3,2⟩] (dB (t:=106) (hs.mem (c:= .ow (aB7 z1 2 z2) 106 3 2 (rnC [⟨0,2,1⟩,⟨3,3,2⟩])) qF) J) (Blk.rdR' (c:=2) (hs.blk (b:=c5) qF) J) (by decide);(refine aA1 vq (aA1 vq (aC J ?_));(iterate 3 refine aA1 vq ?_);refine aC J (aA1 vq (aC J (aA8 yq qG (aA1 vq (aA1 vq (aC J (aA1 vq (aC J (aA1 vq (aC J (aA8 yq qG ?_)))))))))));refine aA1 vq (aA1 vq (aE (aQ ?_))));refine aA2 wq qF fun w hs=> ?_;exact⟨J,hs.chg0⟩
section
attribute [local irreducible] IntKind.wrap Int.tmod Int.tdiv
def DkB(w:World)(lo hi:Nat)(bs:Value):Prop:=∃nb cs,Rd w lo hi bs 1 nb cs∧(∀c∈cs,∃x,c= .int .u8 x∧0≤x∧x<256)
theorem DkB.keep{w w':World}{lo hi:Nat}{bs:Value}(h:DkB w lo hi bs)(c:Chg [] w w'):DkB w' lo hi bs:=by
 obtain⟨nb,cs,h1,h2⟩:=h;exact⟨nb,cs,h1.keep c,h2⟩
end
section
variable {K b : Nat} {bs : Value} {w0 w : World} {R : List Ck}
end
structure MadeL(most runs:Nat)(l:Lb)(real:List Int):Prop where
 ok:l.Ok
 s2:2≤l.skis
 sm:l.skis≤most
 e12:l.err≤11
 len:l.runs.length≤runs
 tr:l.True real
 rl:real.length=l.n
 rb:∀x∈real,0≤x∧x≤96
theorem slR:SlT Tryz.prog 23 29 3 24 (.agg #[.int .i64 0,.int .i64 0,.int .i64 0]):=⟨by kernel_rfl,by kernel_rfl,by kernel_rfl,by decide⟩
theorem rnC_snoc(l:List Rn)(r:Rn):rnC (l++[r])=rnC l++[.int .i64 r.a,.int .i64 r.b,.int .i64 r.lead]:=by simp[rnC]
theorem rnC_one(l:List Rn):∀c∈rnC l,dA c=true:=fun c hc=>by obtain⟨y,_,hy⟩:=List.mem_flatMap.1 hc;simp at hy;rcases hy with rfl|rfl|rfl<;>rfl
theorem cloneR_ca(w:World)(lo hi:Nat)(v:Value)(l:List Rn)(h:RdR w lo hi v l)(hlen:l.length≤1000):Ca Tryz.prog 77 [v] w fun x w'=>∃u:Value,x=u∧Sat w M0 [.ow u 29 3 l.length (rnC l)] w':=by
 obtain⟨a,c,rfl,ha⟩:=RdR.outI h;refine cM (Sat.nil w M0) Tryz.func77 J (by simp[Tryz.ntmps77]) ?_;refine cQ (H':=[.ow (.slice none 0 0) 29 3 0 (rnC [])]) (fun w' hs=>Sat.ownil hs 29 3) ?_;(refine aD (aB (aA1 vq (aE (aD (aB (aA1 vq ?_)))))));refine bU (q:=l.length) (news:=rnC l) slR J J J (fun v'=>by repeat constructor) (fun w' hs=>⟨_,_,RdR.row (RdE.keep h hs.chg0)⟩) (rnC_one l) qG qG (fun u'=> ?_);(refine aA1 vq (aE (aQ ?_)));refine aA2 wq qF fun w hs=> ?_
 exact⟨u',J,hs.sp (by simp only[rnC,List.flatMap_nil,List.nil_append,Nat.zero_add];repeat constructor)⟩
def tD3_563eb24:OT:=bO [0,1,2,3,4,5,6,7,8] (.nil)
theorem eM(w:World)(lo hi:Nat)(l:Lb)(v:Value)(h:RdR w lo hi v l.runs)(hlen:l.runs.length≤1000):Ca Tryz.prog 15 [.agg (lbC l v).toArray] w fun x w'=>∃u:Value,x= .agg (lbC l u).toArray∧Sat w M0 [.ow u 29 3 l.runs.length (rnC l.runs)] w':=by
 obtain⟨a,c,rfl,ha⟩:=RdR.outI h;refine cM (Sat.nil w M0) Tryz.func15 J (by simp[Tryz.ntmps15]) ?_;(refine aD (aB ?_));refine bN J J (fun b1=> ?_);refine bJ eL J (fun b2=> ?_);(refine aE (aD ?_))
 refine kL (σ:=Value) (fun u=>[(2,aB8 b2)])
   (fun u=>[.pt b2 [.int .i64 l.skis,.int .i64 l.err,u] 25,.ow u 29 3 l.runs.length (rnC l.runs)]) ?_ ?_
 rotate_left
 ·intro K2 hK2;refine jJ (tD3_563eb24) _ [.pt b2 [.int .i64 0,.int .i64 0,.slice none 0 0] 25] (Sp.cons qF (Sp.refl _)) qI qI ?_;refine bR qH fun K1 hK1=> ?_
  (refine aB2 yq ?_;refine aX qE J J J ?_;refine aB2 yq ?_;refine aX qE J J J ?_;refine aB2 yq ?_;refine aX qE J J J ?_)
  refine cW (β:=Value) qE [] _ M0 J J J J (Sp.refl _) qJ (fun w' hs=>cloneR_ca w' lo hi _ l.runs (RdE.keep h hs.chg0) qG) ?_;rintro _ u rfl;dsimp only[List.cons_append,List.nil_append];refine cT (fun w hs=>hs.slice2 (v:=u) qF) ?_;rintro⟨a1,c1,rfl⟩;refine qf_mk #[.int .i64 l.skis,.int .i64 l.err,.slice a1 l.runs.length c1] J qI J ?_;(refine iG qE J J J J J qF J ?_;refine aT ?_);exact hK1 _ _ (iK (hK2 (.slice a1 l.runs.length c1) _ _ ⟨J,trivial⟩ qF))
 intro u;(refine aQ ?_);refine aA2 wq qF fun w hs=> ?_
 exact⟨u,J,hs.sp qF⟩
abbrev LbM:=Lb×Option Addr×Nat
def labCs(M:List LbM):List Value:=M.flatMap fun m=>[.int .i64 m.1.skis,.int .i64 m.1.err,.slice m.2.1 m.1.runs.length m.2.2]
def labOs(t:Nat)(M:List LbM):List Ck:=M.map fun m=> .ow (.slice m.2.1 m.1.runs.length m.2.2) t 3 m.1.runs.length (rnC m.1.runs)
def plOs(t:Nat)(M:List LbM)(ps:List Value):List Ck:=(M.zip ps).map fun x=> .ow x.2 t 2 x.1.1.n (spC (plC x.1.1 x.1.1.ord x.1.1.n))
def filA(f:Nat→Int)(n j:Nat):List Int:=(List.range n).map fun i=>if i<j then f i else 0
theorem plC_get(l:Lb)(o:Nat){k s:Nat}(hs:s<k):(plC l o k)[s]? =some (((1+upN o s l.n:Nat):Int),l.skis-dnN o s l.n):=by
 unfold plC;rw[List.getElem?_map,List.getElem?_range hs]
 rfl
def lbM(M:List LbM)(i:Nat):Lb:=(M.getD i (⟨0,0,[]⟩,none,0)).1
def oM(M:List LbM)(i:Nat):Int:=cnt (lbM M i).ord (lbM M i).n (2^(lbM M i).n-1)
def rM(M:List LbM)(k i:Nat):Int:=(planO (lbM M i).n k (lbM M i).ord:Nat)
structure AllOk(sk:Nat)(m:LbM):Prop where
 ok:m.1.Ok
 noC:NoC m.1.ord m.1.n
 skis:m.1.skis=(sk:Int)
theorem AllOk.n{sk:Nat}{m:LbM}(h:AllOk sk m):m.1.n=sk:=by unfold Lb.n;rw[h.skis];omega
def prA(o n:Nat)(L:List Nat):List (Int×Int):=L.flatMap fun a=>((List.range n).filter fun b=>fa o a b).map fun(b:Nat)=>((a:Int),(b:Int))
def fasL(o n:Nat):List (Int×Int):=prA o n (List.range n)
def fasI(o n a b:Nat):List (Int×Int):=prA o n (List.range a)++((List.range b).filter fun b=>fa o a b).map fun(b:Nat)=>((a:Int),(b:Int))
theorem fasI_next(o n a:Nat):fasI o n a n=fasI o n (a+1) 0:=by
 unfold fasI prA;rw[List.range_succ,List.flatMap_append];simp
theorem fasI_yes{o n a b:Nat}(h:fa o a b=true):fasI o n a (b+1)=fasI o n a b++[((a:Int),(b:Int))]:=by
 unfold fasI;rw[List.range_succ,List.filter_append,List.map_append,List.append_assoc];simp[h]
theorem fasI_no{o n a b:Nat}(h:fa o a b=false):fasI o n a (b+1)=fasI o n a b:=by
 unfold fasI;rw[List.range_succ,List.filter_append,List.map_append];simp[h]
theorem fasI_all(o n:Nat):fasI o n n 0=fasL o n:=by unfold fasI fasL;simp
theorem fasI_len{o n:Nat}:∀a b,b≤n→(fasI o n a b).length≤a*n+b
 | 0,b,_=>by
  unfold fasI prA;have:=List.length_filter_le (fun c=>fa o 0 c) (List.range b);rw[List.length_range] at this;simp;exact this
 | a+1,b,hb=>by
  have ih:=fasI_len (o:=o) a n (Nat.le_refl _);rw[fasI_next] at ih;have h1:=List.length_filter_le (fun c=>fa o (a+1) c) (List.range b);rw[List.length_range] at h1;unfold fasI at ih ⊢;rw[List.length_append,List.length_map] at ih ⊢;simp only[List.range_zero,List.filter_nil,List.length_nil,Nat.add_zero] at ih;rw[Nat.add_mul,Nat.one_mul];omega
theorem slP:SlT Tryz.prog 57 62 2 16 (.agg #[.int .i64 0,.int .i64 0]):=⟨by kernel_rfl,by kernel_rfl,by kernel_rfl,by decide⟩
theorem spC_snoc(l:List (Int×Int))(p:Int×Int):spC (l++[p])=spC l++[.int .i64 p.1,.int .i64 p.2]:=by simp[spC]
theorem faster_no(w:World)(lo hi:Nat)(l:Lb)(v:Value)(h:RdR w lo hi v l.runs)(hlen:l.runs.length≤maxLen)(hc0:bQ l≠0):Ca Tryz.prog 20 [.agg (lbC l v).toArray] w fun x w'=>x= .tuple #[.slice none 0 0,.int .i64 (bQ l)]∧Chg [] w w':=by
 refine cM (Sat.nil w M0) Tryz.func20 J (by simp[Tryz.ntmps20]) ?_;(refine aD (aB ?_));refine bN J J (fun b1=> ?_);rw[bG];(refine aA1 vq (aA1 vq (aE (aD (aB ?_))));refine aM qE J J J ?_);refine bB (β:=Option Addr) qE [] _ M0 J J J J (Sp.refl _) qJ (fun w' hs=>kA w' lo hi l v (RdE.keep h hs.chg0) hlen hc0) ?_;rintro p _ rfl;dsimp only[List.cons_append,List.nil_append];(refine aA1 vq (aA7 yq (aA7 yq (aA1 vq (aA1 vq (aE (aD (aD (aB (aA1 vq (aB0 yq qG (aE ?_)))))))))));refine aH J (aD (aB ?_));(iterate 3 refine aA1 vq ?_);refine aE (aQ ?_));refine aA2 wq qF fun w hs=> ?_;exact⟨J,hs.chg0⟩
theorem faster_ok(w:World)(lo hi:Nat)(l:Lb)(v:Value)(h:RdR w lo hi v l.runs)(hl:l.Ok)(hn:NoC l.ord l.n):Ca Tryz.prog 20 [.agg (lbC l v).toArray] w fun x w'=>∃u:Value,x= .tuple #[u,.int .i64 0]∧Sat w M0 [.ow u 62 2 (fasL l.ord l.n).length (spC (fasL l.ord l.n))] w':=by
 obtain⟨n,en,hn',h8,h1⟩:=hl.nat;rw[hn'];refine cM (Sat.nil w M0) Tryz.func20 J (by simp[Tryz.ntmps20]) ?_;(refine aD (aB ?_));refine bN J J (fun b1=> ?_);rw[bG];(refine aA1 vq (aA1 vq (aE (aD (aB ?_))));refine aM qE J J J ?_);refine bB (β:=Nat) qE [] _ M0 J J J J (Sp.refl _) qJ (fun w' hs=>jL w' lo hi l v (RdE.keep h hs.chg0) hl hn) ?_;rintro b _ rfl;dsimp only[List.cons_append,List.nil_append];(refine aA1 vq (aA7 yq (aA7 yq (aA1 vq (aA1 vq (aE (aD (aD (aB (aA1 vq (aB1 yq qG (aE ?_)))))))))));refine aF J (aJ (aD (aB (aA1 vq (aE (aD (aD (aB ?_))))))));(iterate 4 refine aA1 vq ?_);refine aL qE J J J ?_;refine aA1 vq (aE (aK ?_)));rw[en];refine cQ (H':=[.ow (.slice none 0 0) 62 2 (fasI l.ord n 0 0).length (spC (fasI l.ord n 0 0)),.pt b (dkC l v l.ord) 134]) (fun w' hs=>(Sat.ownil hs 62 2).sp qF) ?_;refine bD (σ:=Nat×Value) (fun y=>y.1≤n) (fun y=>n-y.1) (fun y=>[(4,aB8 b),(6,y.2),(21,.int .i64 n),(22,.int .i64 y.1)]) (fun y=>[.ow y.2 62 2 (fasI l.ord n y.1 0).length (spC (fasI l.ord n y.1 0)),.pt b (dkC l v l.ord) 134]) (0,.slice none 0 0) (by simp only;omega) ⟨J,J,J,J,trivial⟩ qF ?_;rintro⟨x,u⟩ hs1 K hK;dsimp only at hs1 ⊢;(refine aD (aB (aA1 vq (aE (aD ?_)))));refine cP J (fun hc=> ?_) (fun hc=> ?_)
 ·have hs2:x<n:=by omega
  clear hc;(refine aJ (aD (aK (aD (aB (aA1 vq (aA1 vq (aE (aD (aB ?_)))))))));(iterate 4 refine aA1 vq ?_);refine aL qE J J J ?_;refine aA1 vq (aE (aK ?_)));rw[en];refine bD (σ:=Nat×Value) (fun y=>y.1≤n) (fun y=>n-y.1) (fun y=>[(4,aB8 b),(6,y.2),(7,.int .i64 x),(21,.int .i64 n),(22,.int .i64 x),(29,.int .i64 n),(30,.int .i64 y.1)]) (fun y=>[.ow y.2 62 2 (fasI l.ord n x y.1).length (spC (fasI l.ord n x y.1)),.pt b (dkC l v l.ord) 134]) (0,u) (by simp only;omega) ⟨J,J,J,J,J,J,J,trivial⟩ qF ?_;clear hs1;rintro⟨y,u⟩ hs1 K2 hK2;dsimp only at hs1 ⊢;(refine aD (aB (aA1 vq (aE (aD ?_)))));refine cP J (fun hc=> ?_) (fun hc=> ?_)
  ·have hs3:y<n:=by omega
   clear hc;(refine aJ (aD (aK (aD (aB (aA1 vq (aA1 vq (aE (aD (aB ?_)))))))));(iterate 5 refine aA1 vq ?_));refine bL (len:=8) lF J J J qG qG ?_;refine bL (len:=8) lE J J J qG qG ?_;refine bC (v:= .bool (fa l.ord x y)) qE J J J (fun w hs=>d_cell (hs.blk qF) x y qG qG qG) ?_;cases hx:fa l.ord x y with
   | true=>
    have hlen:=fasI_len (o:=l.ord) (n:=n) x y qG;have hxn:x*n≤8*8:=Nat.mul_le_mul qG h8;(refine aE (aH J (aB ?_));(iterate 3 refine aA1 vq ?_));refine dM #[.int .i64 x,.int .i64 y] J qI J ?_;refine cI 62 [.int .i64 x,.int .i64 y] J qI J (fun bn=> ?_);refine bU (q:=1) (news:=[.int .i64 x,.int .i64 y]) slP J J J (fun v'=>by repeat constructor) (fun w' hs=>⟨_,_,Blk.rdN (hs.blk (b:=bn) qF) J⟩) (by simp[dA]) qG qG (fun u'=> ?_);(refine aA1 vq (aE (aW (aB (aA4 xq qG qG (aA1 vq (aE ?_)))))));exact hK2 (y+1,u') _ _ (by simp only;omega) (by simp only;omega) ⟨J,J,J,J,J,J,J,trivial⟩ (by dsimp only;rw[fasI_yes hx,spC_snoc,List.length_append,List.length_singleton];repeat constructor)
   | false=>
    (refine aE (aF J (aJ (aW (aB (aA4 xq qG qG (aA1 vq (aE ?_))))))))
    exact hK2 (y+1,u) _ _ (by simp only;omega) (by simp only;omega) ⟨J,J,J,J,J,J,J,trivial⟩ (by dsimp only;rw[fasI_no hx];repeat constructor)
  ·obtain rfl:y=n:=by omega
   (refine aZ _ J (aW (aB (aA4 xq qG qG (aA1 vq (aE ?_))))))
   exact hK (x+1,u) _ _ (by simp only;omega) (by simp only;omega) ⟨J,J,J,J,trivial⟩ (by dsimp only;rw[←fasI_next];repeat constructor)
 ·obtain rfl:x=n:=by omega
  (refine aZ _ J (aD (aB ?_));(iterate 3 refine aA1 vq ?_);refine aE (aQ ?_))
  refine aA2 wq qF fun w hs=> ?_;exact⟨u,J,by rw[←fasI_all];exact hs.sp qF⟩
def idxP(L:List (Int×Int))(p:Int×Int):Int:=if p∈L then(L.idxOf p:Int) else -1
theorem bP{w0 w:World}{M:Nat→Prop}{H:List Ck}{v:Value}{t n:Nat}{l:List Rn}(hs:Sat w0 M H w)(hm: .ow v t 3 n (rnC l)∈H)(hn:n=l.length):RdR w 0 w.heap.size v l:=dB (t:=t) (hs.mem hm) hn
abbrev slV(m:LbM):Value:= .slice m.2.1 m.1.runs.length m.2.2
theorem slII:SlT Tryz.prog 34 22 1 24 (.slice none 0 0):=⟨by kernel_rfl,by kernel_rfl,by kernel_rfl,by decide⟩
theorem mS{w0 w:World}{M:Nat→Prop}{R:List Ck}{t:Nat}{xs:List (Value×List Int)}{u:Value}{r:List Int}(h:Sat w0 M (.ow u t 1 r.length (bF r)::un (cF t xs)::R) w):Sat w0 M (un (cF t (xs++[(u,r)]))::R) w:=
 (Sat.un_in h).un_perm (L':=cF t (xs++[(u,r)])) (by unfold cF;rw[List.map_append];exact(List.perm_append_comm (l₁:=[_])))
theorem regrets_ca(w:World)(lo hi:Nat)(v:Value)(l:List (List Int))(n:Nat)(h:RdII w lo hi v l)(hl:TabOk l n):Ca Tryz.prog 50 [v] w fun x w'=>∃y:Value×List (Value×List Int),(x= .tuple #[y.1,.int .i64 0]∧y.2.map (·.2)=cA l n)∧Sat w M0 [un (cF 3 y.2),.ow y.1 22 1 l.length (y.2.map (·.1))] w':=by
 have hl1:=hl.l1;have hl2:=hl.l2;refine cM (Sat.nil w M0) Tryz.func50 J (by simp[Tryz.ntmps50]) ?_;(refine aD (aB (aA1 vq (aA1 vq (aE (aD (aD (aB (aA1 vq ?_)))))))));refine aI (val:= .int .i64 0) qE J J J J (fun w hs=> ?_) ?_;exact by have:=pX w lo hi _ l (RdII.keep h hs.chg0);rw[hl.v.1] at this;exact this
 (refine aA1 vq (aE (aD (aB (aA1 vq (aB1 yq qG (aE (aF J (aJ (aD (aB (aA1 vq ?_)))))))))));refine aE (aD (aD (aB (aA1 vq ?_)))))
 refine bB (β:=Value×List (Value×List Int)) qE [] _ M0 J J J J (Sp.refl _) qJ (fun w' hs=>waxes_ca w' lo hi _ l n 0 (RdII.keep h hs.chg0) hl) ?_;rintro⟨_,xs⟩ u ⟨rfl,hxs⟩;dsimp only[List.cons_append,List.nil_append];refine bW (fun w hs=>hs.ownSome (v:=u) qF qG) ?_;rintro⟨g,cw,rfl⟩;have hxl:xs.length=l.length:=by have:=congrArg List.length hxs;rw[dS,List.length_map] at this;exact this
 (refine aA1 vq (aA1 vq (aE (aK ?_))))
 refine cQ (H':=[.ow (.slice none 0 0) 22 1 0 ((xs.take 0).map (·.1)),un (cF 3 xs),.ow (aB7 g l.length cw) 162 2 l.length (wxC 0 xs)]) (fun w' hs=>(Sat.ownil hs 22 1).sp qF) ?_
 refine bD (σ:=Nat×Value) (fun y=>y.1≤l.length) (fun y=>l.length-y.1) (fun y=>[(5,y.2),(14,aB7 g l.length cw),(15,.int .i64 l.length),(16,.int .i64 y.1)])
  (fun y=>[.ow y.2 22 1 y.1 ((xs.take y.1).map (·.1)),un (cF 3 xs),.ow (aB7 g l.length cw) 162 2 l.length (wxC 0 xs)]) (0,.slice none 0 0) (by simp only;omega) ⟨rfl,rfl,rfl,rfl,trivial⟩ qF ?_
 rintro⟨k,u⟩ hk K hK;dsimp only at hk ⊢;(refine aD (aB (aA1 vq (aE (aD ?_)))));refine cP J (fun hc=> ?_) (fun hc=> ?_)
 ·have hk2:k<l.length:=by omega
  have hk3:k<xs.length:=by omega
  clear hc;refine dO (fun w hs=>RdI.outI (lU hs qF k hk3).1) ?_;rintro⟨a1,c1,e1,_⟩;(refine aJ (aD (aK (aD (aB ?_)))));refine aA5 uq qG qG ?_
  refine eJ qE J J J J (fun w hs=>by
   rw[Int.toNat_natCast];have:=wx_at hs qF k hk3;rw[e1] at this;exact this) ?_
  refine bJ zero162 J (fun b7=> ?_);(refine aA6 uq qF J ?_;refine aE (aB (aA1 vq (aA1 vq ?_)));refine aL qE J J J ?_);refine cI 22 [.slice a1 xs[k].2.length c1] J qI J (fun bn=> ?_);refine bU (q:=1) (news:=[.slice a1 xs[k].2.length c1]) slII J J J (fun v'=>by repeat constructor) (fun w' hs=>⟨_,_,Blk.rdN (hs.blk (b:=bn) qF) J⟩) (by simp[dA]) qG qG (fun u'=> ?_);(refine aA1 vq (aE (aW (aB (aA4 xq qG qG (aA1 vq (aE ?_)))))))
  have e:(xs.take (k+1)).map (·.1)=(xs.take k).map (·.1)++[.slice a1 xs[k].2.length c1]:=by
   rw[List.take_succ_eq_append_getElem hk3,List.map_append,List.map_singleton,e1]
  exact hK (k+1,u') _ _ (by simp only;omega) (by simp only;omega) ⟨J,J,J,J,trivial⟩ (by dsimp only;rw[e];repeat constructor)
 ·obtain rfl:k=l.length:=by omega
  clear hc hK hk;(refine aZ _ J (aD (aB ?_));(iterate 3 refine aA1 vq ?_);refine aE (aQ ?_));refine aA2 wq qF fun w hs=> ?_
  refine⟨(u,xs),⟨J,hxs⟩,?_⟩;have h1:=hs.sp (H':=[un (cF 3 xs),.ow u 22 1 l.length ((xs.take l.length).map (·.1))]) qF;rw[←hxl,List.take_length,hxl] at h1;exact h1
theorem iB(w:World)(lo hi:Nat)(v:Value)(l:List Int)(h:RdI w lo hi v l)(hlen:l.length≤1000000):Ca Tryz.prog 16 [v] w fun r w'=>∃u:Value,r=u∧Sat w M0 [.ow u 3 1 l.length (bF l)] w':=by
 obtain⟨a,ca,rfl,_⟩:=RdI.outI h
 have hrow:∀w',Chg [] w w'→Rd w' lo hi (.slice a l.length ca) 1 l.length (bF l):=fun w' hc=>by
  have:=(RdE.keep h hc).rd;rw[cellsOf_ints] at this;simpa using this
 refine cM (Sat.nil w M0) Tryz.func16 J (by simp[Tryz.ntmps16]) ?_;(refine aD (aB (aA1 vq (aE (aD (aB (aA1 vq ?_)))))));refine ql_conv (H':=[.ow (.slice none 0 0) 3 1 0 []]) (fun w' hs=>Sat.ownil hs 3 1) ?_;refine bU (q:=l.length) slI J J J (fun v'=>by repeat constructor) (fun w' hs=>⟨lo,hi,hrow w' hs.chg0⟩) (by simp[dA]) qG qG (fun u=> ?_);(refine aA1 vq (aE (aQ ?_)));refine aA2 wq qF fun w hs=> ?_;exact⟨u,J,by simpa using hs⟩
theorem cloneAll_ca(w:World)(lo hi:Nat)(v:Value)(ll:List (List Int))(h:RdII w lo hi v ll)(hlen:ll.length≤1000)(hl:∀l∈ll,l.length≤1000000) :
  Ca Tryz.prog 49 [v] w fun r w'=>∃x:Value×List (Value×List Int),(r=x.1∧x.2.map (·.2)=ll)∧Sat w M0 [un (cF 3 x.2),.ow x.1 22 1 ll.length (x.2.map (·.1))] w':=by
 obtain⟨a,cap,rfl,hs0⟩:=h.outI;refine cM (Sat.nil w M0) Tryz.func49 J (by simp[Tryz.ntmps49]) ?_;(refine aD (aB (aA1 vq (aE (aD (aB (aA1 vq (aE (aD (aD (aB ?_))))))))));(iterate 3 refine aA1 vq ?_);refine aE (aK ?_));refine cQ (H':=[un (cF 3 []),.ow (.slice none 0 0) 22 1 0 (([]:List (Value×List Int)).map (·.1))]) (fun w' hs=>Sat.un_nil (Sat.ownil hs _ _)) ?_
 refine bD (σ:=Value×List (Value×List Int)) (fun s=>s.2.length≤ll.length∧s.2.map (·.2)=ll.take s.2.length) (fun s=>ll.length-s.2.length) (fun s=>[(3,s.1),(6,.slice a ll.length cap),(7,.int .i64 ll.length),(8,.int .i64 s.2.length)])
  (fun s=>[un (cF 3 s.2),.ow s.1 22 1 s.2.length (s.2.map (·.1))]) (.slice none 0 0,[]) ⟨by simp,by simp⟩ ⟨rfl,rfl,rfl,rfl,trivial⟩ (Sp.refl _) ?_
 rintro⟨va,xs⟩ ⟨hk,hxs⟩ K hK;simp only at hk hxs;dsimp only;(refine aD (aB (aA1 vq (aE (aD ?_)))));refine cP J (fun hc=> ?_) (fun hc=> ?_)
 ·have hk2:xs.length<ll.length:=by omega
  clear hc;obtain⟨b,off,rfl⟩:=hs0 qG;obtain⟨ar,cr,hr1,hr2⟩:=h.row xs.length hk2;(refine aJ (aD (aK (aD (aB ?_)))));refine aA5 uq qG qG ?_;refine bC qE J J J (fun w hs=>hr2 w hs.chg0) ?_;(refine aA1 vq (aE (aB (aA1 vq (aA1 vq ?_)))));refine bB (β:=Value) (ψ:=fun x v=>v=x) (L':=fun x=>[.ow x 3 1 ll[xs.length].length (bF ll[xs.length])]) qE [] _ M0 J J J J (Sp.refl _) qJ (fun w' hs=>iB w' lo hi _ ll[xs.length] (RdE.keep hr1 hs.chg0) (hl _ (List.getElem_mem hk2))) ?_;rintro _ y rfl;refine bW (fun w hs=>hs.slice2 (v:=y) qF) ?_;rintro⟨ay,cy,rfl⟩;refine cI 22 [.slice ay ll[xs.length].length cy] J qI J (fun bn=> ?_);refine bU (q:=1) slII J J J (fun v'=>by repeat constructor) (fun w' hs=>⟨_,_,Blk.rdN (hs.blk (b:=bn) qF) J⟩) (by simp[dA]) qG qG (fun va'=> ?_);(refine aA1 vq (aE (aW (aB (aA4 xq qG qG (aA1 vq (aE ?_)))))))
  refine cQ (H':=[un (cF 3 (xs++[(Value.slice ay ll[xs.length].length cy,ll[xs.length])])),.ow va' 22 1 (xs++[(Value.slice ay ll[xs.length].length cy,ll[xs.length])]).length ((xs++[(Value.slice ay ll[xs.length].length cy,ll[xs.length])]).map (·.1))]) (fun w' hs=>by
   refine mS ?_;rw[List.length_append,List.map_append];exact hs.sp qF) ?_
  have e1:ll.take (xs.length+1)=ll.take xs.length++[ll[xs.length]]:=List.take_succ_eq_append_getElem hk2;have hlen1:(xs++[(Value.slice ay ll[xs.length].length cy,ll[xs.length])]).length=xs.length+1:=by simp
  refine hK (va',xs++[(Value.slice ay ll[xs.length].length cy,ll[xs.length])]) _ _ ⟨by simp only[hlen1];omega,by simp only[hlen1,e1,List.map_append,hxs];rfl⟩ (by simp only[hlen1];omega) ⟨J,J,J,dI J (by simp only[hlen1];omega),trivial⟩ (Sp.refl _)
 ·have hkl:xs.length=ll.length:=by omega
  (refine aZ _ J (aD (aB (aA1 vq (aA1 vq (aE (aQ ?_)))))))
  refine aA2 wq qF fun w hs=> ?_;refine⟨(va,xs),⟨J,by simp only;rw[hxs,hkl,List.take_length]⟩,?_⟩
  rw[←hkl];exact hs
theorem takeWhile_ge{α:Type}{p:α→Bool}:∀(l:List α) (k:Nat),k≤l.length→(∀i (h:i<l.length),i<k→p l[i]=true)→k≤(l.takeWhile p).length
 | _,0,_,_=>by omega
 | [],k+1,h,_=>by simp at h
 | a::l,k+1,h,hp=>by
  rw[List.takeWhile_cons,if_pos (show p a=true from hp 0 (by simp) qG)];have:=takeWhile_ge l k (by simpa using h) (fun i hi hk=>hp (i+1) (by simpa using hi) qG);simp only[List.length_cons];omega
theorem goodN_ge{row:List Int}{most:Int}{a s:Nat}(has:a≤s)(hs:s<row.length)(h:∀t,a≤t→t≤s→row.getD t 0≤most):s+1-a≤lC row most a:=by
 unfold lC;refine takeWhile_ge _ _ (by rw[List.length_drop];omega) (fun i hi hk=> ?_);rw[List.length_drop] at hi;rw[List.getElem_drop,decide_eq_true_iff,←eH];exact h _ qG qG
def reachF(rs:List (List Int))(most:Int)(a:Nat):Nat:=((dW rs most a rs.length).1+1).toNat
structure ReachZ(rs:List (List Int))(most:Int)(n a e:Nat):Prop where
 lt:a<e
 le:e≤n
 wax:∃w:Nat,w<rs.length∧(dW rs most a rs.length).2=(w:Int)∧∀s,a≤s→s<e→(rs.getD w []).getD s 0≤most
 max:∀w s,w<rs.length→a≤s→s<n→(∀t,a≤t→t≤s→(rs.getD w []).getD t 0≤most)→s<e
 eq:(dW rs most a rs.length).1=(e:Int)-1
theorem oY{l:List (List Int)}{n:Nat}{most:Int}(hl:TabOk l n)(hm:0≤most){a:Nat}(ha:a<n):ReachZ (cA l n) most n a (reachF (cA l n) most a):=by
 have hn:∀row∈cA l n,row.length=n:=fun row hr=>by
  obtain⟨r,_,rfl⟩:=List.mem_map.1 hr;exact gT _ _ _
 have h1:=zone_has hl hm ha;rw[←dS l n] at h1;have h2:=zone_lt (most:=most) hn ha (cA l n).length;have e1:((reachF (cA l n) most a:Nat):Int)=(dW (cA l n) most a (cA l n).length).1+1:=by unfold reachF;omega
 have hg:∀w,w<(cA l n).length→((cA l n).getD w []).length=n:=fun w hw=>by
  rw[List.getD_eq_getElem?_getD,List.getElem?_eq_getElem hw,Option.getD_some];exact hn _ (List.getElem_mem hw)
 refine⟨by omega,by omega,?_,fun w s hw has hs hgood=> ?_,by omega⟩
 ·rcases zone_wax (rs:=cA l n) (most:=most) (a:=a) (cA l n).length with h|⟨w,hw,h3,h4⟩
  ·omega
  ·exact⟨w,hw,h3,fun s has hs=>goodN_good has qG⟩
 ·have h3:=goodN_ge has (by rw[hg w hw];exact hs) hgood;have h4:=zone_ge (rs:=cA l n) (most:=most) (a:=a) (cA l n).length w hw;omega
theorem pW{rs:List (List Int)}{most:Int}{n f a:Nat}(h:ReachZ rs most n a (reachF rs most a)):∃w:Nat,w<rs.length∧(∀s,a≤s→s<reachF rs most a→(rs.getD w []).getD s 0≤most)∧zonesF rs most n (f+1) a=((a:Int),(reachF rs most a:Int)-1,(w:Int))::zonesF rs most n f (reachF rs most a):=by
 obtain⟨w,hw,e,hg⟩:=h.wax;have h1:=h.lt;have h2:=h.le;refine⟨w,hw,hg,?_⟩;rw[nU qG,h.eq,e]
 congr 2
 omega
theorem zonesF_len{rs:List (List Int)}{most:Int}{n:Nat}:∀f a,(zonesF rs most n f a).length≤f
 | 0,_=>by simp[zonesF]
 | f+1,a=>by
  unfold zonesF;split
  ·rw[List.length_cons];exact Nat.succ_le_succ (zonesF_len f _)
  ·simp
def nxtZ(Z:List (Int×Int×Int))(a:Int):Nat→Int
 | 0=>a
 | i+1=>(Z.getD i (0,0,0)).2.1+1
theorem nxt_cons(z:Int×Int×Int)(Z:List (Int×Int×Int))(a:Int)(i:Nat):nxtZ (z::Z) a (i+1)=nxtZ Z (z.2.1+1) i:=by
 cases i<;>simp[nxtZ]
structure ZoneIs(rs:List (List Int))(most:Int)(n:Nat)(a:Int)(z:Int×Int×Int):Prop where
 frm:z.1=a
 a0:0≤a
 le:a≤z.2.1
 lt:z.2.1<n
 w0:0≤z.2.2
 w1:z.2.2<rs.length
 good:∀s:Nat,a≤s→(s:Int)≤z.2.1→(rs.getD z.2.2.toNat []).getD s 0≤most
theorem zones_are{l:List (List Int)}{n:Nat}{most:Int}(hl:TabOk l n)(hm:0≤most):∀f a,a≤n→n<a+f→
  (∀i (h:i<(zonesF (cA l n) most n f a).length),ZoneIs (cA l n) most n (nxtZ (zonesF (cA l n) most n f a) a i) (zonesF (cA l n) most n f a)[i])∧nxtZ (zonesF (cA l n) most n f a) a (zonesF (cA l n) most n f a).length=n
 | 0,a,h1,h2=>by omega
 | f+1,a,h1,h2=>by
  by_cases ha:a<n
  ·have hr:=oY hl hm ha;have h3:=hr.lt;have h4:=hr.le;obtain⟨w,hw,hg,e⟩:=pW (f:=f) hr;obtain⟨ih1,ih2⟩:=zones_are hl hm f _ h4 qG;rw[e];have e2:((reachF (cA l n) most a:Nat):Int)-1+1=(reachF (cA l n) most a:Nat):=by omega
   refine⟨fun i hi=> ?_,?_⟩
   ·cases i with
    | zero=>exact⟨rfl,by show(0:Int)≤a;omega,by show(a:Int)≤_-1;omega,by show(_:Int)-1<n;omega,by show(0:Int)≤w;omega,by show(w:Int)<_;omega,fun s h5 h6=>by
      simp only[List.getElem_cons_zero,Int.toNat_natCast] at h6 ⊢;have h5':(a:Int)≤s:=h5;exact hg s qG qG⟩
    | succ i=>
     rw[nxt_cons];simp only[List.getElem_cons_succ,e2];exact ih1 i (by simpa using hi)
   ·rw[List.length_cons,nxt_cons];simp only[e2];exact ih2
  ·obtain rfl:a=n:=by omega
   rw[jU (Nat.le_refl _)];exact⟨fun i h=>by simp at h,J⟩
theorem zones_cover{l:List (List Int)}{n:Nat}{most:Int}(hl:TabOk l n)(hm:0≤most):∀f a,a≤n→n<a+f→∀s,a≤s→s<n→∃z∈zonesF (cA l n) most n f a,0≤z.2.2∧z.2.2<l.length∧((cA l n).getD z.2.2.toNat []).getD s 0≤most
 | 0,a,h1,h2,_,_,_=>by omega
 | f+1,a,h1,h2,s,h5,h6=>by
  have hr:=oY hl hm (show a<n by omega);have h3:=hr.lt;have h4:=hr.le;obtain⟨w,hw,hg,e⟩:=pW (f:=f) hr;rw[e];by_cases hs:s<reachF (cA l n) most a
  ·exact⟨_,List.mem_cons_self,by show(0:Int)≤w;omega,by show(w:Int)<_;rw[dS] at hw;omega,by simp only[Int.toNat_natCast];exact hg s h5 hs⟩
  ·obtain⟨z,hz,h7⟩:=zones_cover hl hm f _ h4 qG s qG h6;exact⟨z,List.mem_cons_of_mem _ hz,h7⟩
theorem allG_of{row:List Int}{most:Int}{a b:Nat}(h:∀t,a≤t→t≤b→row.getD t 0≤most):lD row most a b=true:=by
 unfold lD iS;refine List.all_eq_true.2 fun x hx=> ?_
 obtain⟨i,hi,rfl⟩:=List.mem_iff_getElem.1 hx;rw[List.length_take,List.length_drop] at hi;rw[List.getElem_take,List.getElem_drop,decide_eq_true_iff,←eH];exact h _ qG qG
theorem allG_get{row:List Int}{most:Int}{a b:Nat}(hb:b<row.length)(h:lD row most a b=true):∀t,a≤t→t≤b→row.getD t 0≤most:=fun t h1 h2=>by
 unfold lD iS at h;have h3:=List.all_eq_true.1 h (((row.drop a).take (b+1-a))[t-a]'(by rw[List.length_take,List.length_drop];omega)) (List.getElem_mem _);rw[decide_eq_true_iff,List.getElem_take,List.getElem_drop] at h3;rw[eH qG];have e:a+(t-a)=t:=by omega
 simpa only[e] using h3
theorem starts_are{l:List (List Int)}{n:Nat}{most:Int}(hl:TabOk l n)(hm:0≤most):∀f a,a≤n→n<a+f→brkF (cA l n) most ((zonesF (cA l n) most n f a).map (·.1))=true
 | 0,a,h1,h2=>by omega
 | f+1,a,h1,h2=>by
  by_cases ha:a<n
  ·have hr:=oY hl hm ha;have h3:=hr.lt;have h4:=hr.le;obtain⟨w,hw,hg,e⟩:=pW (f:=f) hr;have ih:=starts_are hl hm f _ h4 qG;rw[e];by_cases hb:reachF (cA l n) most a<n
   ·have hr2:=oY hl hm hb
    match f,ih with
    | 0,_=>omega
    | f+1,ih=>
     obtain⟨w2,hw2,hg2,e2⟩:=pW (f:=f) hr2;rw[e2] at ih ⊢;simp only[List.map_cons] at ih ⊢;unfold brkF;rw[if_neg qG,if_neg,ih];intro hany;obtain⟨row,hrow,hall⟩:=List.any_eq_true.1 hany;obtain⟨v,hv,rfl⟩:=List.mem_iff_getElem.1 hrow;rw[Int.toNat_natCast,Int.toNat_natCast] at hall;have h5:=allG_get (by rw[reg_row];exact hb) hall
     have h6:=hr.max v (reachF (cA l n) most a) hv qG hb (fun t h7 h8=>by
      have eg:(cA l n).getD v []=(cA l n)[v]:=by rw[List.getD_eq_getElem?_getD,List.getElem?_eq_getElem hv];rfl
      rw[eg];exact h5 t h7 h8)
     omega
   ·rw[jU (show n≤reachF (cA l n) most a by omega)]
    rfl
  ·rw[jU (show n≤a by omega)]
   rfl
def tryF{α:Type}(g:Nat→Option α):Nat→Nat→Option α
 | 0,_=>none
 | f+1,w=>match g w with
  | some x=>some x
  | none=>tryF g f (w+1)
theorem nC{α:Type}{g:Nat→Option α}{x:α}:∀f w,tryF g f w=some x→∃i,w≤i∧i<w+f∧g i=some x∧∀j,w≤j→j<i→g j=none
 | f+1,w,h=>by
  unfold tryF at h;split at h
  ·rename_i y hy
   exact⟨w,by omega,by omega,hy.trans h,fun j _ _=>by omega⟩
  ·rename_i hy
   obtain⟨i,h1,h2,h3,h4⟩:=nC f (w+1) h;refine⟨i,by omega,by omega,h3,fun j h5 h6=> ?_⟩;by_cases e:j=w
   ·rw[e];exact hy
   ·exact h4 j qG h6
theorem try_ne{α:Type}{g:Nat→Option α}:∀f w i,w≤i→i<w+f→g i≠none→tryF g f w≠none
 | 0,w,i,h1,h2,_=>by omega
 | f+1,w,i,h1,h2,h3=>by
  unfold tryF;split
  ·simp
  ·rename_i hy
   refine try_ne f (w+1) i ?_ qG h3;by_cases e:i=w
   ·rw[e] at h3;exact absurd hy h3
   ·omega
def fstB(ch:List Nat):Nat:=match ch.getLast? with|none=>0|some x=>x+1
def cE(cov:List Nat→Bool)(m:Nat):Nat→List Nat→Option (List Nat)
 | 0,ch=>if cov ch then some ch else none
 | k+1,ch=>tryF (fun w=>cE cov m k (ch++[w])) (m-fstB ch) (fstB ch)
def bagF(cov:List Nat→Bool)(m:Nat):Option (List Nat):=tryF (fun n=>cE cov m (n+1) []) m 0
theorem fst_snoc(ch:List Nat)(w:Nat):fstB (ch++[w])=w+1:=by simp[fstB]
def Inc(m:Nat)(ch:List Nat):Prop:=ch.Pairwise (· < ·)∧∀x∈ch,x<m
theorem Inc.snoc{m:Nat}{ch:List Nat}{w:Nat}(h:Inc m ch)(hw:fstB ch≤w)(hm:w<m):Inc m (ch++[w]):=by
 refine⟨List.pairwise_append.2 ⟨h.1,List.pairwise_singleton _ _,fun x hx y hy=> ?_⟩,fun x hx=> ?_⟩
 ·rw[List.mem_singleton.1 hy];rcases List.eq_nil_or_concat ch with rfl|⟨c,z,rfl⟩
  ·cases hx
  ·rw[List.concat_eq_append] at hx hw h;rw[fst_snoc] at hw;rcases List.mem_append.1 hx with h1|h1
   ·have:=(List.pairwise_append.1 h.1).2.2 x h1 z (by simp);omega
   ·rw[List.mem_singleton.1 h1];omega
 ·rcases List.mem_append.1 hx with h1|h1
  ·exact h.2 x h1
  ·rw[List.mem_singleton.1 h1];exact hm
theorem gD{cov:List Nat→Bool}{m:Nat}:∀k ch out,Inc m ch→cE cov m k ch=some out→cov out=true∧out.length=ch.length+k∧Inc m out
 | 0,ch,out,hi,h=>by
  unfold cE at h;split at h
  ·rename_i hc
   cases h
   exact⟨hc,J,hi⟩
  ·cases h
 | k+1,ch,out,hi,h=>by
  unfold cE at h;obtain⟨w,h1,h2,h3,_⟩:=nC _ _ h;obtain⟨h4,h5,h6⟩:=gD k _ out (hi.snoc h1 qG) h3;rw[List.length_append,List.length_singleton] at h5;exact⟨h4,by omega,h6⟩
theorem nA{cov:List Nat→Bool}{m:Nat}:∀k ch rest,rest.length=k→Inc m (ch++rest)→cov (ch++rest)=true→cE cov m k ch≠none
 | 0,ch,rest,hk,hi,hc=>by
  rw[List.length_eq_zero_iff.1 hk,List.append_nil] at hc;unfold cE;rw[if_pos hc];simp
 | k+1,ch,[],hk,hi,hc=>by simp at hk
 | k+1,ch,w::rest,hk,hi,hc=>by
  unfold cE
  have hw:fstB ch≤w:=by
   rcases List.eq_nil_or_concat ch with rfl|⟨c,z,rfl⟩
   ·exact Nat.zero_le _
   ·rw[List.concat_eq_append] at hi ⊢;rw[fst_snoc];have:=(List.pairwise_append.1 hi.1).2.2 z (by simp) w (by simp);omega
  have hm:=hi.2 w (by simp);refine try_ne _ _ w hw qG (nA k (ch++[w]) rest (by simpa using hk) (by simpa using hi) (by simpa using hc))
theorem oW{cov:List Nat→Bool}{m:Nat}{out:List Nat}(h:bagF cov m=some out):cov out=true∧1≤out.length∧Inc m out∧∀o,Inc m o→cov o=true→o≠[]→out.length≤o.length:=by
 obtain⟨n,h1,h2,h3,h4⟩:=nC _ _ h;obtain⟨h5,h6,h7⟩:=gD _ _ _ ⟨List.Pairwise.nil,fun x hx=>by cases hx⟩ h3;rw[List.length_nil] at h6;refine⟨h5,by omega,h7,fun o ho hc hne=> ?_⟩;rcases Nat.lt_or_ge o.length out.length with h8|h8
 ·have h9:0<o.length:=List.length_pos_iff.2 hne;exact absurd (h4 (o.length-1) qG qG) (nA _ [] o qG (by simpa using ho) (by simpa using hc))
 ·exact h8
theorem inc_len{m:Nat}:∀{o:List Nat},Inc m o→o.length≤m:=by
 induction m with
 | zero=>
  intro o h;cases o with
  | nil=>simp
  | cons x o=>have:=h.2 x (by simp);omega
 | succ m ih=>
  intro o h;rcases List.eq_nil_or_concat o with rfl|⟨c,z,rfl⟩
  ·simp
  ·rw[List.concat_eq_append] at h ⊢;have hz:=h.2 z (by simp)
   have:=ih (o:=c) ⟨(List.pairwise_append.1 h.1).1,fun x hx=>by
    have:=(List.pairwise_append.1 h.1).2.2 x hx z (by simp);omega⟩
   simp;omega
theorem bag_some{cov:List Nat→Bool}{m:Nat}{o:List Nat}(ho:Inc m o)(hc:cov o=true)(hne:o≠[]):∃out,bagF cov m=some out:=by
 have h9:0<o.length:=List.length_pos_iff.2 hne;have h:=try_ne (g:=fun n=>cE cov m (n+1) []) m 0 (o.length-1) qG (by have:=inc_len ho;omega) (nA _ [] o qG (by simpa using ho) (by simpa using hc));cases e:bagF cov m with
 | some out=>exact⟨out,rfl⟩
 | none=>exact absurd e h
def iR(rs:List (List Int))(most:Int)(n:Nat)(ch:List Nat):Bool:=(List.range n).all fun s=>ch.any fun w=>decide ((rs.getD w []).getD s 0≤most)
theorem cov_iff{rs:List (List Int)}{most:Int}{n:Nat}{ch:List Nat}:iR rs most n ch=true↔∀s,s<n→∃w∈ch,(rs.getD w []).getD s 0≤most:=by
 unfold iR;rw[List.all_eq_true];constructor
 ·intro h s hs;obtain⟨w,hw,h1⟩:=List.any_eq_true.1 (h s (List.mem_range.2 hs));exact⟨w,hw,by simpa using h1⟩
 ·intro h s hs;obtain⟨w,hw,h1⟩:=h s (List.mem_range.1 hs);exact List.any_eq_true.2 ⟨w,hw,by simpa using h1⟩
theorem filter_or{α:Type}(p q:α→Bool):∀l:List α,(l.filter fun x=>p x||q x).length≤(l.filter p).length+(l.filter q).length
 | []=>by simp
 | x::l=>by
  have ih:=filter_or p q l;simp only[List.filter_cons];cases p x<;>cases q x<;>simp<;>omega
theorem filter_one(c m:Nat):((List.range m).filter fun w=>decide (w=c)).length≤1:=by
 induction m with
 | zero=>simp
 | succ m ih=>
  rw[List.range_succ,List.filter_append,List.length_append];by_cases e:m=c
  ·subst e;have:((List.range m).filter fun w=>decide (w=m))=[]:=List.filter_eq_nil_iff.2 fun w hw=>by have:=List.mem_range.1 hw;simp;omega
   rw[this];simp
  ·have:([m].filter fun w=>decide (w=c))=[]:=by simp[e]
   rw[this,List.length_nil];omega
theorem filter_in(m:Nat):∀L:List Nat,((List.range m).filter fun w=>L.contains w).length≤L.length
 | []=>by simp
 | c::L=>by
  have h1:=filter_or (fun w=>decide (w=c)) (fun w=>L.contains w) (List.range m);have h2:=filter_one c m;have h3:=filter_in m L
  have e:(fun w=>(c::L).contains w)=fun w=>decide (w=c)||L.contains w:=by
   funext w
   simp only[List.contains_cons]
   congr 1
  rw[e,List.length_cons];omega
theorem filter_inc(m:Nat)(p:Nat→Bool):Inc m ((List.range m).filter p):=⟨List.Pairwise.filter _ List.pairwise_lt_range,fun _ hx=>List.mem_range.1 (List.mem_filter.1 hx).1⟩
theorem bag_says{l:List (List Int)}{n:Nat}{most:Int}(hl:TabOk l n)(hm:0≤most):∃out,bagF (iR (cA l n) most n) l.length=some out∧iR (cA l n) most n out=true∧1≤out.length∧Inc l.length out∧out.length≤(zonesF (cA l n) most n (n+1) 0).length∧∀o,Inc l.length o→iR (cA l n) most n o=true→out.length≤o.length:=by
 have hn:=hl.n1;have hz:=zones_cover hl hm (n+1) 0 qG qG;obtain⟨Z,hZ⟩:∃Z,zonesF (cA l n) most n (n+1) 0=Z:=⟨_,rfl⟩;rw[hZ] at hz ⊢
 have hcov:iR (cA l n) most n ((List.range l.length).filter fun w=>(Z.map fun z=>z.2.2.toNat).contains w)=true:=cov_iff.2 fun s hs=>by
  obtain⟨z,h1,h2,h3,h4⟩:=hz s qG hs;refine⟨z.2.2.toNat,List.mem_filter.2 ⟨List.mem_range.2 qG,?_⟩,h4⟩;rw[List.contains_iff_mem];exact List.mem_map.2 ⟨z,h1,J⟩
 have hne:∀o,iR (cA l n) most n o=true→o≠[]:=fun o h e=>by
  obtain⟨w,hw,_⟩:=cov_iff.1 h 0 qG;rw[e] at hw;cases hw
 obtain⟨out,ho⟩:=bag_some (filter_inc _ _) hcov (hne _ hcov);obtain⟨h1,h2,h3,h4⟩:=oW ho;refine⟨out,ho,h1,h2,h3,?_,fun o h5 h6=>h4 o h5 h6 (hne o h6)⟩;have h5:=h4 _ (filter_inc _ _) hcov (hne _ hcov);have h6:=filter_in l.length (Z.map fun z=>z.2.2.toNat);rw[List.length_map] at h6;omega
theorem sclone_ca(w:World)(lo hi:Nat)(v:Value)(l:List Int)(hl:RdI w lo hi v l)(hlen:l.length<1000000):Ca Tryz.prog 117 [v] w fun v w'=>∃x:Value,v=x∧Sat w M0 [.ow x 3 1 l.length (bF l)] w':=by
 obtain⟨a,c,rfl,hs⟩:=RdI.outI hl;refine cM (Sat.nil w M0) Tryz.func117 J (by simp[Tryz.ntmps117]) ?_;(refine aD (aB (aA1 vq (aE (aD (aD (aB (aA1 vq ?_))))))));refine ql_eqnil qE J J J J ?_;cases a with
 | none=>
  have h0:l=[]:=by
   cases l with
   | nil=>rfl
   | cons x l=>
    obtain⟨b,off,hb⟩:=hs (by simp);cases hb
  subst h0;(refine aE (aH J (aD (aB (aA1 vq (aE (aQ ?_)))))));refine aA2 wq qF fun w hs=> ?_
  exact⟨_,J,by simpa[bF,eW] using Sat.ownil hs 3 1⟩
 | some ad=>
  (refine aE (aF J (aJ (aD (aB ?_)))))
  refine ql_mkS0 3 qI qI J (fun x=> ?_);(refine aA1 vq ?_);refine bU (q:=l.length) slI J J J (fun v'=>by repeat constructor) (fun w' hs=>⟨lo,hi,RdI.row (RdE.keep hl hs.chg0)⟩) (by simp[dA]) qG qG (fun v'=> ?_);(refine aA1 vq (aE (aQ ?_)));refine aA2 wq qF fun w hs=> ?_;exact⟨v',J,by simpa using hs⟩
theorem znC_get:∀(Z:List (Int×Int×Int)) (i q:Nat) (hi:i<Z.length),q<3→(znC Z)[i*3+q]? =[Value.int .i64 Z[i].1,.int .i64 Z[i].2.1,.int .i64 Z[i].2.2][q]?
 | z::Z,0,q,_,hq=>by
  obtain rfl|rfl|rfl:q=0∨q=1∨q=2:=by omega
  all_goals rfl
 | z::Z,i+1,q,hi,hq=>by
  have:=znC_get Z i q (by simpa using hi) hq;simp only[List.getElem_cons_succ,znC,List.flatMap_cons] at this ⊢;rw[show(i+1)*3+q=i*3+q+1+1+1 from by omega];exact this
theorem zn_at{w0 w:World}{Mp:Nat→Prop}{H:List Ck}{t m g c:Nat}{Z:List (Int×Int×Int)}(hs:Sat w0 Mp H w)(hm: .ow (aB7 g m c) t 3 m (znC Z)∈H){i:Nat}(hi:i<Z.length):∀q,q<3→w.cell? ⟨g,0+i*3+q,none⟩=[Value.int .i64 Z[i].1,.int .i64 Z[i].2.1,.int .i64 Z[i].2.2][q]? :=fun q hq=>by
 have h1:=znC_get Z i q hi hq
 obtain⟨x,hx⟩:∃x,(znC Z)[i*3+q]? =some x:=by
  obtain rfl|rfl|rfl:q=0∨q=1∨q=2:=by omega
  all_goals exact⟨_,h1⟩
 rw[←h1,hx,Nat.zero_add];exact lO (hs.mem hm) (i*3+q) hx
theorem breaks_ok(w:World)(lo hi:Nat)(v:Value)(l:List (List Int))(most:Int)(h:RdII w lo hi v l)(he:cJ l most=0):Ca Tryz.prog 61 [v,.int .i64 most] w fun x w'=>∃u:Value,x= .tuple #[u,.int .i64 0]∧Sat w M0 [.ow u 3 1 (zonesV l most).1.length (bF ((zonesV l most).1.map (·.1)))] w':=by
 refine cM (Sat.nil w M0) Tryz.func61 J (by simp[Tryz.ntmps61]) ?_;(refine aD (aB (aA1 vq (aA1 vq (aE (aD (aB (aA1 vq (aA1 vq ?_)))))))));refine bB (β:=Value) qE [] _ M0 J J J J (Sp.refl _) qJ (fun w' hs=>zones_ok w' lo hi _ l most (RdII.keep h hs.chg0) he) ?_;rintro v6 _ rfl;dsimp only[List.cons_append,List.nil_append]
 have hZl:(zonesV l most).1.length≤1000000:=by
  unfold zonesV;rw[if_neg (by simpa using he)];have hl:=(eA.1 he).1;have h1:=hl.n2;have h2:=zonesF_len (rs:=cA l (nV l)) (most:=most) (n:=nV l) (nV l+1) 0;simp only;omega
 generalize (zonesV l most).1=Z at hZl ⊢;refine bW (fun w hs=>hs.slice2 (v:=v6) qF) ?_;rintro⟨a6,c6,rfl⟩;(refine aA1 vq (aA7 yq (aA7 yq (aA1 vq (aA1 vq (aE (aD (aD (aB (aA1 vq (aB1 yq qG (aE ?_)))))))))));refine aF J (aJ (aD (aB (aA1 vq (aE (aD (aD (aB ?_))))))));(iterate 3 refine aA1 vq ?_);refine aE (aK ?_));refine cQ (H':=[.ow (.slice none 0 0) 3 1 0 (bF ((Z.take 0).map (·.1))),.ow (.slice a6 Z.length c6) 106 3 Z.length (znC Z)]) (fun w' hs=>(Sat.ownil hs 3 1).sp qF) ?_
 refine bD (σ:=Nat×Value) (fun y=>y.1≤Z.length) (fun y=>Z.length-y.1) (fun y=>[(8,y.2),(20,.slice a6 Z.length c6),(21,.int .i64 Z.length),(22,.int .i64 y.1)])
  (fun y=>[.ow y.2 3 1 y.1 (bF ((Z.take y.1).map (·.1))),.ow (.slice a6 Z.length c6) 106 3 Z.length (znC Z)]) (0,.slice none 0 0) (by simp only;omega) ⟨rfl,rfl,rfl,rfl,trivial⟩ qF ?_
 rintro⟨k,u⟩ hk K hK;dsimp only at hk ⊢;(refine aD (aB (aA1 vq (aE (aD ?_)))));refine cP J (fun hc=> ?_) (fun hc=> ?_)
 ·have hk2:k<Z.length:=by omega
  clear hc;refine dO (fun w hs=>hs.ownSome (v:= .slice a6 Z.length c6) qF qG) ?_;rintro⟨g6,c6',e6⟩;cases e6
  (refine aJ (aD (aK (aD (aB ?_)))))
  refine aA5 uq qG qG ?_;refine eJ (cs:=[.int .i64 Z[k].1,.int .i64 Z[k].2.1,.int .i64 Z[k].2.2]) qE J J J J (fun w hs q hq=>zn_at hs qF hk2 q hq) ?_;refine bJ zero106 J (fun b10=> ?_);(refine aA6 uq qF J ?_;refine aE (aB (aA1 vq (aA1 vq ?_)));refine aL qE J J J ?_);refine cI 3 [.int .i64 Z[k].1] J qI J (fun bn=> ?_);refine bU (q:=1) (news:=[.int .i64 Z[k].1]) slI J J J (fun v'=>by repeat constructor) (fun w' hs=>⟨_,_,Blk.rdN (hs.blk (b:=bn) qF) J⟩) (by simp[dA]) qG qG (fun u'=> ?_);(refine aA1 vq (aE (aW (aB (aA4 xq qG qG (aA1 vq (aE ?_)))))))
  have e:bF ((Z.take (k+1)).map (·.1))=bF ((Z.take k).map (·.1))++[.int .i64 Z[k].1]:=by
   rw[List.take_succ_eq_append_getElem hk2,List.map_append];simp[bF]
  exact hK (k+1,u') _ _ (by simp only;omega) (by simp only;omega) ⟨J,J,J,J,trivial⟩ (by dsimp only;rw[e];repeat constructor)
 ·obtain rfl:k=Z.length:=by omega
  (refine aZ _ J (aD (aB ?_));(iterate 3 refine aA1 vq ?_);refine aE (aQ ?_))
  refine aA2 wq qF fun w hs=> ?_;refine⟨u,J,?_⟩
  have h1:=hs.sp (H':=[.ow u 3 1 Z.length (bF ((Z.take Z.length).map (·.1)))]) qF;rw[List.take_length] at h1;exact h1
def chI(ch:List Nat):List Int:=ch.map fun(x:Nat)=>(x:Int)
theorem bT(ch:List Nat):(chI ch).length=ch.length:=by simp[chI]
def pGd(R:List (List Int))(most:Int)(s:Nat):Value→Bool
 | .int _ i=>decide ((R.getD i.toNat []).getD s 0≤most)
 | _=>false
theorem pGd_any(R:List (List Int))(most:Int)(s:Nat)(ch:List Nat):(bF (chI ch)).any (pGd R most s)=ch.any fun x=>decide ((R.getD x []).getD s 0≤most):=by
 induction ch with
 | nil=>rfl
 | cons x ch ih=>
  show(pGd R most s (.int .i64 x)||(bF (chI ch)).any (pGd R most s))=_
  rw[ih]
  rfl
theorem bag2_p(w:World)(lo hi b6 b8 t6 t8 s n:Nat)(a:Option Addr)(c:Nat)(most:Int)(R:List (List Int))(ch:List Nat)(h6:Blk w b6 [.slice a R.length c] t6)(h8:Blk w b8 [.int .i64 s] t8)(hR:RdW w lo hi (.slice a R.length c) most R)(hch:∀x∈ch,x<R.length)(hn:∀row∈R,row.length=n)(hs:s<n)(hRl:R.length≤1000000) :
  PredAt Tryz.prog tab w (.func (.func 115) #[] #[aB8 b6,aB8 b8]) (bF (chI ch)) (pGd R most s):=by
 refine⟨_,_,_,J,J,fun w' hw' x hx=> ?_⟩;have h6':=h6.keep hw';have h8':=h8.keep hw';have hR':=hR.keep hw';obtain⟨i,hii,rfl⟩:=List.mem_map.1 hx;obtain⟨y,hy,rfl⟩:=List.mem_map.1 hii;have hy2:=hch y hy;obtain⟨_,_,e0,ha⟩:=RdW.outI hR;cases e0
 obtain⟨ab,ao,rfl⟩:=ha qG;obtain⟨ra,rc,hr1,hr2,hr3⟩:=RdW.row hR' y hy2;have hrn:=hn _ (List.getElem_mem hy2);refine cM (Sat.nil w' M0) Tryz.func115 J (by simp[Tryz.ntmps115]) ?_;(refine aD (aB (aA1 vq (aE (aD ?_)))));refine bY _ [] (Sp.refl _) qI qI ?_;(refine mZ qE J J J (by assumption) (by rfl) ?_;refine aB2 yq ?_);refine aB5 uq qG qG ?_;refine dX qE J J J J (fun w hs q hq=>hr3 _ hs.chg0 q hq) ?_;(refine mZ qE J J J (by assumption) (by rfl) ?_);refine cR (val:= .bool (decide (R[y][s]'qG≤most))) qE J J J J (fun w hs=> ?_) ?_;exact good_ca w lo hi _ most R[y] s (RdE.keep hr1 hs.chg0) qG;(refine aB2 yq (aT (aQ ?_)));refine aA2 wq qF fun w hs=> ?_
 refine⟨?_,hs.chg0⟩
 show Value.bool _=Value.bool (decide ((R.getD y []).getD s 0≤most))
 congr 1
 rw[List.getD_eq_getElem?_getD (l:=R),List.getElem?_eq_getElem hy2,Option.getD_some,eI qG]
end Go.Proofs.YtoljppohibpenaaGreat
namespace Go.Eng
set_option maxRecDepth 4000
open Go Go.RowKit
section
variable {P : Program} {n : Nat} {F : Fin} {k : List It} {e : Env} {w : World}
theorem y_loopD{r:Option Nat}{ds:List Deferred}{body:Code}(I:List Deferred→Nat→Env→World→Prop){m:Nat}{l:Env}(h0:I ds m l w)(hs:Sub l e)
  (round:∀ds m l w,I ds m l w→∀K:Act→World→Prop,(∀ds' m' l' e' w',I ds' m' l' w'→m'<m→Sub l' e'→∀a,Fits n e' a→a.defers=ds'→K a w')→Y P ⟨r,ds⟩ n F (.code body:: .k K::k) l w) :
  Y P ⟨r,ds⟩ n F (.code (.loop body)::k) e w:=by
 intro a hf hd
 have key:∀m ds l w,I ds m l w→∀a,Fits n l a→a.defers=ds→Code.roundsIn (FR r) 0 P body (S P r F k) (m+1) a w:=by
  intro m
  induction m using Nat.strongRecOn with
  | _ m ih=>
   intro ds l w hI a hf hd;exact round ds m l w hI (Code.roundsIn (FR r) 0 P body (S P r F k) m) (fun ds' m' l' e' w' hI' hlt hs' a' hf' hd'=>pP qG (ih m' hlt ds' l' w' hI' a' (hf'.sub hs') hd')) a hf hd
 exact wpIn_loop_rounds (m+1) (key m ds l w h0 a (hf.sub hs) hd)
end
section
variable {P : Program} {n : Nat} {F : Fin} {w0 : World} {M : Nat → Prop} {k : List It} {e : Env} {H : List Ck}
theorem q_loopD{r:Option Nat}{σ:Type}{body:Code}(dsf:σ→List Deferred)(inv:σ→Prop)(m:σ→Nat)(env:σ→Env)(hp:σ→List Ck)(s0:σ)(h0:inv s0)(hs:Sub (env s0) e)(hH:Sp H (hp s0))
  (round:∀s,inv s→∀K:Act→World→Prop,(∀s' e' H',inv s'→m s'<m s→Sub (env s') e'→Sp H' (hp s')→Q P ⟨r,dsf s'⟩ n F w0 M (.k K::k) e' H')→Q P ⟨r,dsf s⟩ n F w0 M (.code body:: .k K::k) (env s) (hp s)) :
  Q P ⟨r,dsf s0⟩ n F w0 M (.code (.loop body)::k) e H:= .mk fun w hw=>
 y_loopD (fun ds m' l w'=>∃s,inv s∧ds=dsf s∧m'=m s∧l=env s∧Sat w0 M (hp s) w') (m:=m s0) (l:=env s0) ⟨s0,h0,rfl,rfl,rfl,hw.sp hH⟩ hs (by
  rintro ds m' l w' ⟨s,hi,rfl,rfl,rfl,hsat⟩ K hK;exact(round s hi K (fun s' e' H' hi' hlt hsub hsp=> .mk fun w'' hw'' a hf hd=>hK (dsf s') (m s') (env s') e' w'' ⟨s',hi',J,J,J,hw''.sp hsp⟩ hlt hsub a hf hd)).h w' hsat)
theorem leaves_marks{fn:Func}{tmps:Array Value}{R:Ending→World→Prop}{H':List Ck}(hl:∀w,Sat w0 M H' w→LeavesInM (FR none) 0 P fn tmps R [] .returning w):∀(Ds:List Nat) (w:World),Sat w0 M (Ds.map dfr++H') w→LeavesInM (FR none) 0 P fn tmps R (Ds.map mark) .returning w
 | [],w,h=>hl w h
 | D::Ds,w,h1=>by
  have hp:w.heap[D]? =some (.deferred (some [])):=h1.all _ List.mem_cons_self
  have h2:Sat w0 M (Ds.map dfr++H') (w.putObj D (.deferred none)):=by
   have hsep:=List.pairwise_cons.1 h1.sep;refine⟨h1.chg.up (fU w D _) (fun b hb=> ?_),fun c hc=>Ck.st (h1.all c (List.mem_cons_of_mem _ hc)) (fU w D _).P (fun b hb hm=> ?_),hsep.2,fun c hc b hb=> ?_⟩
   ·simp at hb;subst hb;exact(h1.bd _ List.mem_cons_self b J).2
   ·simp at hm;subst hm;exact hsep.1 c hc b J hb
   ·rw[World.putObj_size];exact h1.bd c (List.mem_cons_of_mem _ hc) b hb
  refine⟨by simp,.inl ⟨D,_,J,run_takeDeferred hp,?_⟩⟩;exact leaves_marks hl Ds _ h2
theorem q_finMs{T:Tab}(hT:T.Ok P)(Ds:List Nat){fn:Func}{R:Value→World→Prop}{rs:List ResultVar}{vs:List Value}{H':List Ck}(hH:Rm H (un (Ds.map dfr)) H')(hres:fn.results=rs.toArray)(h:RVs T e H' rs vs)(hR:∀w,Sat w0 M H' w→R (eW vs) w):Q P ⟨none,Ds.map mark⟩ n (fun _=>finM P fn R .ret) w0 M [] e H:= .mk fun w hs a hf hd=>by
 show LeavesInM (FR none) 0 P fn a.tmps _ a.defers .returning w
 rw[show a.defers=Ds.map mark from hd];exact leaves_marks (fun w hs=>leaves_nil (gW hT hres h hf hs) ⟨eW vs,J,hR w hs⟩) Ds w (Sat.un_iff.1 (hs.perm hH.perm))
end
end Go.Eng
namespace Go.Proofs.YtoljppohibpenaaGreat
open Go Go.Eng
set_option maxRecDepth 4000
open Go Go.Eng
def RevI(l:List Int)(k:Nat)(l':List Int):Prop:=l'.length=l.length∧2*k≤l.length∧∀m,m<l.length→l'.getD m 0=if m<k∨l.length≤m+k then l.getD (l.length-1-m) 0 else l.getD m 0
theorem RevI.zero(l:List Int):RevI l 0 l:=⟨rfl,by omega,fun m hm=>by rw[if_neg qG]⟩
theorem RevI.step{l l':List Int}{k:Nat}(h:RevI l k l')(hk:k<l.length-1-k)(h1:k<l'.length)(h2:l.length-1-k<l'.length):RevI l (k+1) ((l'.set k l'[l.length-1-k]).set (l.length-1-k) l'[k]):=by
 obtain⟨hl,hk2,hv⟩:=h;refine⟨by simp[hl],by omega,fun m hm=> ?_⟩
 have e1:l'[l.length-1-k]=l.getD (l.length-1-k) 0:=by
  have:=hv (l.length-1-k) qG;rw[if_neg qG,List.getD_eq_getElem?_getD,List.getElem?_eq_getElem h2] at this;exact this
 have e2:l'[k]=l.getD k 0:=by
  have:=hv k qG;rw[if_neg qG,List.getD_eq_getElem?_getD,List.getElem?_eq_getElem h1] at this;exact this
 rw[kT _ _ _ _ (by simpa using h2),kT _ _ _ _ h1,e1,e2];by_cases c1:m=l.length-1-k
 ·rw[if_pos c1,if_pos qG,c1]
  congr 1
  omega
 ·rw[if_neg c1];by_cases c2:m=k
  ·rw[if_pos c2,if_pos qG,c2]
  ·rw[if_neg c2,hv m hm];by_cases c3:m<k∨l.length≤m+k
   ·rw[if_pos c3,if_pos qG]
   ·rw[if_neg c3,if_neg qG]
theorem RevI.end{l l':List Int}{k:Nat}(h:RevI l k l')(hk:l.length≤2*k+1):l'=l.reverse:=by
 obtain⟨hl,hk2,hv⟩:=h;refine List.ext_getElem (by simp[hl]) (fun m h1 h2=> ?_);have:=hv m qG;rw[List.getD_eq_getElem?_getD,List.getElem?_eq_getElem h1] at this;rw[List.getElem_reverse]
 have e:l.getD (l.length-1-m) 0=l[l.length-1-m]:=by
  rw[List.getD_eq_getElem?_getD,List.getElem?_eq_getElem qG];rfl
 rw[←e,←Option.getD_some (a:=l'[m]) (b:=0),this];split
 ·rfl
 ·congr 1
  omega
theorem rev_ca(w:World)(g c:Nat)(l:List Int)(hl:l.length≤1000000)(hb:w.ownsRow 0 3 1 (aB7 g l.length c) l.length (bF l)) :
  Ca Tryz.prog 128 [aB7 g l.length c] w fun v w'=>v= .tuple #[]∧Sat w (fun x=>x=g) [.ow (aB7 g l.length c) 3 1 l.length (bF l.reverse)] w':=by
 refine cM (Sat.own0 hb) Tryz.func128 J (by simp[Tryz.ntmps128]) ?_;(refine aD (aB (aA1 vq (aA1 vq (aA4 xq qG qG (aA1 vq (aA1 vq (aE (aK ?_)))))))))
 refine bD (σ:=Nat×List Int) (fun s=>RevI l s.1 s.2) (fun s=>l.length-s.1) (fun s=>[(0,aB7 g l.length c),(2,.int .i64 s.1),(3,.int .i64 (l.length-1-s.1))])
  (fun s=>[.ow (aB7 g l.length c) 3 1 l.length (bF s.2)]) (0,l) (RevI.zero l) ⟨rfl,rfl,dI rfl (by simp),trivial⟩ qF ?_
 rintro⟨k,l'⟩ hI K hK;simp only at hI;have hI2:=hI;obtain⟨hl',hk2,_⟩:=hI2;dsimp only;(refine aD (aD (aB ?_));(iterate 3 refine aA1 vq ?_);refine aE ?_);refine cP J (fun hc=> ?_) (fun hc=> ?_)
 ·have hk:k<l.length-1-k:=by omega
  have h1:k<l'.length:=by omega
  have h2:l.length-1-k<l'.length:=by omega
  clear hc;have hst:=hI.step hk h1 h2;obtain⟨q,hq⟩:∃q:Nat,(q:Int)=(l.length:Int)-1-k:=⟨l.length-1-k,by omega⟩;have hq2:l.length-1-k=q:=by omega
  simp only[hq2] at hst;rw[hq2] at h2;rw[←hq];(refine aJ (aD (aK ?_)));refine q_drawB [true,true,false,false,true,true,true,true,true,true,true,true,false,false,false,false] [] [.ow (aB7 g l.length c) 3 1 l.length (bF l')] qF qI qI qI ?_;refine qb_T 2 J J (Sp.refl _) fun K1 hK1=> ?_
  (refine aB2 yq (aB2 yq (aT ?_)))
  refine hK1 _ _ (qb_F 2 [.ow (aB7 g l.length c) 3 1 l.length (bF l')] J J qF fun K1 hK1=> ?_);(refine aB2 yq (aB2 yq (aT ?_)));refine hK1 _ _ (qb_T 8 J J qF fun K1 hK1=> ?_);(refine aB2 yq (aB2 yq ?_));(refine aB5 uq qG qG ?_;refine bA qE J J J (fun w hs=>RdI.at (hs.rdI (l:=l') (t:=3) (n:=l.length) qF hl'.symm) q h2) ?_);(refine aB2 yq (aB2 yq ?_));(refine aB5 uq qG qG ?_;refine bA qE J J J (fun w hs=>RdI.at (hs.rdI (l:=l') (t:=3) (n:=l.length) qF hl'.symm) k h1) ?_);(refine aT ?_);refine hK1 _ _ (qb_F 4 [.ow (aB7 g l.length c) 3 1 l.length (bF l')] J J qF fun K1 hK1=> ?_);refine aB5 uq qG qG ?_;refine pD qE k J J J J qF qG (by simpa using h1) ?_;refine aB5 uq qG qG ?_;refine pD qE q J J J J qF qG (by simpa using h2) ?_;rw[←List.map_set,←List.map_set];(refine aT ?_);refine hK1 _ _ (qb_nil ?_);(refine aW (aB (aA1 vq (aA4 xq qG qG (aA1 vq (aA4 xq qG qG (aA1 vq (aA1 vq (aE ?_)))))))));exact hK (k+1,_) _ _ hst (by simp only;omega) ⟨J,J,dI J qG,trivial⟩ qF
 ·obtain rfl:=hI.end qG;(refine aZ _ J ?_);refine q_end qE J qF fun w hs=> ?_
  exact⟨J,hs⟩
def filP(k:Nat):List Int:=(List.range 8).map fun i=>if i<k then -1 else 0
theorem filP_len(k:Nat):(filP k).length=8:=by simp[filP]
theorem filP_set{k:Nat}(hk:k<8):(filP k).set k (-1)=filP (k+1):=by
 refine List.ext_getElem (by simp[filP]) (fun i h1 h2=> ?_);rw[List.getElem_set];simp only[filP,List.getElem_map,List.getElem_range];by_cases e:k=i
 ·subst e;simp
 ·rw[if_neg e];by_cases e2:i<k
  ·rw[if_pos e2,if_pos qG]
  ·rw[if_neg e2,if_neg qG]
theorem filP_8:filP 8=List.replicate 8 (-1):=by decide
theorem i_arr:arrB Tryz.prog 173 8 3 1=true:=by kernel_rfl
theorem chI_add(l:List Nat)(x:Nat):bF (chI (l++[x]))=bF (chI l)++[.int .i64 x]:=by simp[chI]
theorem sh_run{l:Lb}(hl:l.Ok){i f s:Nat}(h:Sh l i f s):∃hi:i<l.runs.length,lH l.err l.runs[i]=some ((f:Int),(s:Int)):=by
 obtain⟨h1,h2⟩:=h;refine⟨h1,?_⟩;rw[List.getD_eq_getElem?_getD,List.getElem?_eq_getElem h1,Option.getD_some] at h2;have hr:=hl.run _ (List.getElem_mem h1);have h3:=hr.a0;have h5:=hr.b0;unfold runV at h2;unfold lH;split at h2
 ·rename_i hc
  rw[if_pos hc];have e1:=congrArg Prod.fst (Option.some.inj h2);have e2:=congrArg Prod.snd (Option.some.inj h2);dsimp only at e1 e2;rw[←e1,←e2,Int.toNat_of_nonneg h3,Int.toNat_of_nonneg h5]
 ·rename_i hc
  rw[if_neg hc];split at h2
  ·rename_i hc2
   rw[if_pos hc2];have e1:=congrArg Prod.fst (Option.some.inj h2);have e2:=congrArg Prod.snd (Option.some.inj h2);dsimp only at e1 e2;rw[←e1,←e2,Int.toNat_of_nonneg h3,Int.toNat_of_nonneg h5]
  ·cases h2
def BIx(l:Lb)(fast slow n:Nat)(by':List Int)(met lev:List Nat):Prop:=(n<met.length∧BI l fast slow n [] by' met lev)∨∃m,n=m+1∧n=met.length∧BI l fast slow m (shL l) by' met lev
theorem BI.bd{l:Lb}{fast slow n:Nat}{pre:List (Nat×Int×Int)}{by':List Int}{met lev:List Nat}(h:BI l fast slow n pre by' met lev):met.length≤9:=by
 have h2:=h.sz;have h3:=List.length_filter_le (fun s=>decide (0≤by'.getD s 0)) (List.range 8);rw[List.length_range] at h3;omega
theorem BIx.bd{l:Lb}{fast slow n:Nat}{by':List Int}{met lev:List Nat}(h:BIx l fast slow n by' met lev):n≤met.length∧met.length≤9:=by
 rcases h with⟨h1,h2⟩|⟨m,h1,h2,h3⟩
 ·exact⟨by omega,h2.bd⟩
 ·exact⟨by omega,h3.bd⟩
theorem BIx.go{l:Lb}{fast slow n:Nat}{by':List Int}{met lev:List Nat}(h:BIx l fast slow n by' met lev)(hn:n<met.length):BI l fast slow n [] by' met lev:=by
 rcases h with⟨_,h2⟩|⟨m,h1,h2,h3⟩
 ·exact h2
 ·omega
theorem BIx.after{l:Lb}{fast slow n:Nat}{by':List Int}{met lev:List Nat}(h:BI l fast slow n (shL l) by' met lev):BIx l fast slow (n+1) by' met lev:=by
 have:=h.nl;by_cases h1:n+1<met.length
 ·exact .inl ⟨h1,h.next h1⟩
 ·exact .inr ⟨n,J,by omega,h⟩
theorem BIx.none{l:Lb}{fast slow n:Nat}{by':List Int}{met lev:List Nat}(he:0≤l.err)(h:BIx l fast slow n by' met lev)(hn:n=met.length):NoCh l fast slow∧by'.getD slow 0<0∧by'.length=8:=by
 rcases h with⟨h1,_⟩|⟨m,h1,h2,h3⟩
 ·omega
 ·exact⟨h3.none he qG,h3.slow,h3.bl⟩
def tK41_bd78311:OT:= .alt (bO [11,0,1,2,3,4,5,6,7,8,9,10,12,13] (.nil)) (bO [0,1,2,3,4,5,6,7,11,8,9,10,12,13] (.nil))
theorem chain_ca(w:World)(b:Nat)(lo hi:Nat)(l:Lb)(v:Value)(o:Nat)(t:TypeId)(hb:Blk w b (dkC l v o) t)(h:RdR w lo hi v l.runs)(hl:l.Ok)(fast slow:Nat)(hf8:fast<8)(hs8:slow<8) :
  Ca Tryz.prog 75 [aB8 b,.int .i64 fast,.int .i64 slow] w fun x w'=>(x= .slice none 0 0∧NoCh l fast slow∧Chg [] w w')∨∃g cp:Nat,∃c:List Int,x=aB7 g c.length cp∧Short l fast slow c∧Sat w M0 [.ow x 3 1 c.length (bF c)] w':=by
 have hlen:l.runs.length≤maxLen:=by have:=hl.len;simp only[maxLen];omega
 refine q_ofM (Sat.nil w M0) Tryz.func75 J (by simp[Tryz.ntmps75]) ?_;(refine aD (aB ?_));refine bN J J (fun b5=> ?_);(refine aA1 vq (aE ?_));refine q_scope (fun _ _ _ h=>h) ?_;(refine aD (aB ?_));refine bJ zero173 J (fun b7=> ?_);(refine aE (aD (aD (aB (aA1 vq (aE (aK ?_)))))));refine bD (σ:=Nat) (fun k=>k≤8) (fun k=>8-k) (fun k=>[(0,aB8 b),(1,.int .i64 fast),(5,aB8 b5),(7,aB8 b7),(17,.int .i64 k)]) (fun k=>[.pt b7 (bF (filP k)) 173,.pt b5 [.int .i64 slow] 3]) 0 qG ⟨J,J,J,J,J,trivial⟩ qF ?_
 ·rintro k hk K hK;(refine aD (aB (aA1 vq (aE (aD ?_)))));refine cP J (fun hc=> ?_) (fun hc=> ?_)
  ·have hk2:k<8:=by omega
   clear hc;(refine aJ (aD (aK (aD (aB (aA1 vq (aA1 vq (aE (aB (aA1 vq ?_))))))))));refine bL (len:=8) i_arr J J J qG qG ?_;have hi:k<(filP k).length:=by rw[filP_len];omega
   refine eZ qE (k) J J J qF (by first|rfl|omega|simp) hi ?_;rw[filP_set hk2];(refine aE (aW (aB (aA4 xq qG qG (aA1 vq (aE ?_))))));exact hK (k+1) _ _ qG qG ⟨J,J,J,J,J,trivial⟩ qF
  ·have hk8:k=8:=by omega
   subst hk8;rw[filP_8];clear hc hK hk;(refine aZ _ J (aD (aB (aA1 vq ?_))));refine cI 3 [.int .i64 fast] J qI J (fun b24=> ?_);refine bJ zero22 J (fun b9=> ?_);(refine gE qE J J J J qF ?_;refine aE (aD (q_label (aD (aD (aB ?_))))));refine bJ zero3 J (fun b10=> ?_);(refine gE qE J J J J qF ?_;refine aE (aK ?_));refine cQ (H':=[.ow (aB7 b24 1 1) 3 1 1 (bF (chI [fast])),.pt b9 [aB7 b24 1 1] 22,.pt b10 [.int .i64 0] 3,.pt b7 (bF (List.replicate 8 (-1))) 173,.pt b5 [.int .i64 slow] 3,un (([]:List Nat).map dfr)]) (fun w' hs=>(Sat.un_nil (Sat.pt_ow (sz:=1) (m:=1) J qG (hs.sp (H':=[.pt b24 [.int .i64 fast] 3,.pt b9 [aB7 b24 1 1] 22,.pt b10 [.int .i64 0] 3,.pt b7 (bF (List.replicate 8 (-1))) 173,.pt b5 [.int .i64 slow] 3]) qF))).sp qF) ?_
   refine q_loopD (σ:=Nat×List Int×(List Nat×List Nat)×List Nat×Nat×Value) (fun s=>s.2.2.2.1.map Eng.mark) (fun s=>BIx l fast slow s.1 s.2.1 s.2.2.1.1 s.2.2.1.2) (fun s=>10-s.1)
    (fun s=>[(0,aB8 b),(1,.int .i64 fast),(5,aB8 b5),(7,aB8 b7),(9,aB8 b9),(10,aB8 s.2.2.2.2.1)])
    (fun s=>[.ow s.2.2.2.2.2 3 1 s.2.2.1.1.length (bF (chI s.2.2.1.1)),.pt b9 [s.2.2.2.2.2] 22,.pt s.2.2.2.2.1 [.int .i64 s.1] 3,.pt b7 (bF s.2.1) 173,.pt b5 [.int .i64 slow] 3,un (s.2.2.2.1.map dfr)])
    (0,List.replicate 8 (-1),([fast],[0]),[],b10,aB7 b24 1 1) (.inl ⟨by simp,BI.start l hf8 hs8⟩) ⟨rfl,rfl,rfl,rfl,rfl,rfl,trivial⟩ qF ?_
   rintro⟨n,by',⟨met,lev⟩,Ds,x10,vm⟩ hI K hK;dsimp only at hI hK ⊢;have hmc:n≤met.length∧met.length≤9:=hI.bd;refine dO (fun w hs=>hs.slice2 (v:=vm) qF) ?_;rintro⟨ga,gc,rfl⟩;(refine aD (aD (aB ?_));(iterate 2 refine aL qE J J J ?_);refine aA1 vq (aA1 vq (aE ?_)));refine cP J (fun hc=> ?_) (fun hc=> ?_)
   ·have hn:n<met.length:=by omega
    clear hc;have hB:=hI.go hn;(refine aJ (aD (aK (aD (aB ?_))));(iterate 3 refine aA1 vq ?_);refine ql_loadPA qE J J J (by assumption) (by rfl) (by rfl) ?_);refine bB (β:=Nat) qE [] _ M0 J J J J (Sp.refl _) qJ (fun w' hs=>shown_ca w' l v) ?_;rintro bs _ rfl;dsimp only[List.cons_append,List.nil_append];(refine aE (aK ?_));obtain⟨he0,he1⟩:0≤l.err∧l.err≤1000:=⟨hl.e0,hl.e1⟩
    refine q_range shE (List Int×(List Nat×List Nat)×Value) (shL l) (fun pre s=>BI l fast slow n pre s.1 s.2.1.1 s.2.1.2) (fun c s=>c= .exit 2∧∃K,BK l fast slow s.1 slow [] K)
     (fun s=>[.ow s.2.2 3 1 s.2.1.1.length (bF (chI s.2.1.1)),.pt b9 [s.2.2] 22,.pt b7 (bF s.1) 173]) [.pt x10 [.int .i64 n] 3,.pt b5 [.int .i64 slow] 3,un (Ds.map dfr),.pt bs (lbC l v) 25] (by',(met,lev),.slice ga met.length gc)
     rfl qI rfl (fun _ _=>rfl) hB qF ?_ ?_ ?_ ?_
    ·intro w1 D hs hD;exact shown_it w w1 D lo hi bs l v h ⟨hl.e0,hl.e1⟩ (by have:=hl.len;omega) (fun w' hc=>hs.chg0.old hc (fun k hk=>(hD k hk).2.resolve_left (fun h=>h))) (hs.blk qF) (fun h=>(hD _ h).1 ⟨.pt bs (lbC l v) _,qF,J⟩)
    ·clear hB hI K hK;rintro pre ⟨i,p1,p2⟩ post ⟨by',⟨met,lev⟩,vm⟩ w1 lb rdy bsy K F' hx hB hsat hR hbegin hend hret hexit;dsimp only at hB hend hexit hbegin ⊢;have hxm:(i,p1,p2)∈shL l:=by rw[hx];simp
     have hxl:=shL_in hl _ hxm;have hxs:=sh_mem hxm;have h8:=hl.s1;obtain⟨f,hf⟩:=Int.eq_ofNat_of_zero_le hxl.1;obtain⟨g,hg⟩:=Int.eq_ofNat_of_zero_le hxl.2.2.1;dsimp only at hf hg hxl hxs;subst hf hg;have hg8:g<8:=by omega
     rw[Int.toNat_natCast,Int.toNat_natCast] at hxs;dsimp only[shE,List.zip_cons_cons,List.zip_nil_left,List.zip_nil_right,List.foldl_cons,List.foldl_nil];(refine aD (aB (aA1 vq (aE (aB ?_)))));refine bJ kY J (fun b12=> ?_);(refine aA6 uq qF J ?_;refine aE ?_);refine cQ (H':=[rdy,.pt b12 [.int .i64 f,.int .i64 g] 62,.ow vm 3 1 met.length (bF (chI met)),.pt b9 [vm] 22,.pt b7 (bF by') 173]) (fun w' hs=>hs.sp qF) ?_;refine hbegin _ _ ?_;have hnl:=hB.nl;have hm9:=hB.bd;have hbl:=hB.bl;have hgb:g<by'.length:=by omega
     obtain⟨mn,hmn⟩:∃mn,mn=met.getD n 0:=⟨_,rfl⟩;have hmI:(chI met)[n]'(by rw[bT];exact hnl)=(mn:Int):=by rw[hmn,List.getD_eq_getElem?_getD,List.getElem?_eq_getElem hnl];simp[chI]
     have hnc:n<(chI met).length:=by rw[bT];exact hnl
     obtain⟨bg,hbg⟩:∃bg,bg=by'.getD g 0:=⟨_,rfl⟩
     have hbI:by'[g]=bg:=by rw[hbg,List.getD_eq_getElem?_getD,List.getElem?_eq_getElem hgb];rfl
     refine dO (fun w hs=>hs.ownSome (v:=vm) qF qG) ?_;rintro⟨gn,gm,rfl⟩;(refine aK (aD ?_));by_cases hfm:f=mn
     ·by_cases hbn:bg<0
      ·refine bY _ [] (Sp.refl _) qI qI ?_;(refine aB2 yq ?_;(iterate 2 refine aX qE J J J ?_));refine bA (v:= .int .i64 n) qE J J J (fun w hs=>by rw[Blk.cell ((hR w hs.chg).blk (b:=x10) (cs:=[.int .i64 n]) (t:=3) qF)];rfl) ?_;(refine aB5 uq qG qG ?_;refine bA qE J J J (fun w hs=>RdI.at (hs.rdI (l:=chI met) (t:=3) (n:=met.length) qF (bT _).symm) n hnc) ?_);rw[hmI];(refine qf_eqlT qE J J J qG (aB2 yq (aN J (aB2 yq (aN J ?_))));refine aX qE J J J ?_;refine aN J ?_);refine dK (len:=8) i_arr J J J qG qG ?_;(refine aN J ?_);refine gM qE (g) J J J qF (by first|rfl|omega|simp) hgb ?_;rw[hbI];(refine aN J (mH qE J J J qG (aB2 yq (aT (aH J (aD (aB (aA1 vq ?_)))))));refine aL qE J J J ?_;refine aA1 vq ?_);refine bL (len:=8) i_arr J J J qG qG ?_;refine eZ qE (g) J J J qF (by first|rfl|omega|simp) hgb ?_;(refine aE (aD (aD (aB (aA1 vq ?_))));refine aL qE J J J ?_);refine bC (v:= .int .i64 slow) qE J J J (fun w hs=>by rw[Blk.cell ((hR w hs.chg).blk (b:=b5) (cs:=[.int .i64 slow]) (t:=3) qF)];rfl) ?_;by_cases hgs:g=slow
       ·have hstop:BK l fast slow (by'.set g (i:Int)) slow [] (lev.getD n 0+1):=by
         have:=hB.stop (x:=(i,(f:Int),(g:Int))) hl.e0 (by rw[Int.toNat_natCast,Int.toNat_natCast];exact hxs) hs8 (by rw[Int.toNat_natCast,←hmn];exact hfm) (by rw[Int.toNat_natCast];exact hgs);rw[hgs];exact this
        (refine aA8 yq qG (aE (aH J ?_)))
        refine q_exit_out J ?_;exact hexit 2 _ _ (by'.set g i,(met,lev),_) ⟨J,lev.getD n 0+1,hstop⟩ qF
       ·(refine aA9 yq qG (aE (aF J (aJ (aB ?_))));refine aL qE J J J ?_;refine aA1 vq ?_;refine aL qE J J J ?_)
        refine cI 3 [.int .i64 g] J qI J (fun bn=> ?_);refine bU (q:=1) (news:=[.int .i64 g]) slI J J J (fun v'=>by repeat constructor) (fun w' hs=>⟨_,_,Blk.rdN (hs.blk (b:=bn) qF) J⟩) (by simp[dA]) qG qG (fun u'=> ?_);refine bW (fun w' hs=>hs.own_one (v:=u') qF) (fun hone=> ?_);refine cN qE J J J hone qF (by simp) ?_;(refine aE (aW ?_));have hA:=hB.add (x:=(i,(f:Int),(g:Int))) (by rw[Int.toNat_natCast,Int.toNat_natCast];exact hxs) (by rw[Int.toNat_natCast];exact hg8) (by show Int.toNat (f:Int)=met.getD n 0;rw[Int.toNat_natCast,←hmn];exact hfm) (by show by'.getD (Int.toNat (g:Int)) 0<0;rw[Int.toNat_natCast,←hbg];exact hbn) (by show Int.toNat (g:Int)≠slow;rw[Int.toNat_natCast];exact hgs);simp only[Int.toNat_natCast] at hA;exact hend _ _ (by'.set g i,(met++[g],lev++[lev.getD n 0+1]),u') hA (by dsimp only;rw[List.length_append,List.length_singleton,chI_add];repeat constructor)
      ·refine bY _ [] (Sp.refl _) qI qI ?_;(refine aB2 yq ?_;(iterate 2 refine aX qE J J J ?_));refine bA (v:= .int .i64 n) qE J J J (fun w hs=>by rw[Blk.cell ((hR w hs.chg).blk (b:=x10) (cs:=[.int .i64 n]) (t:=3) qF)];rfl) ?_;(refine aB5 uq qG qG ?_;refine bA qE J J J (fun w hs=>RdI.at (hs.rdI (l:=chI met) (t:=3) (n:=met.length) qF (bT _).symm) n hnc) ?_);rw[hmI];(refine qf_eqlT qE J J J qG (aB2 yq (aN J (aB2 yq (aN J ?_))));refine aX qE J J J ?_;refine aN J ?_);refine dK (len:=8) i_arr J J J qG qG ?_;(refine aN J ?_);refine gM qE (g) J J J qF (by first|rfl|omega|simp) hgb ?_;rw[hbI];(refine aN J (jI qE J J J qG (aB2 yq (aT (aF J (aJ (aW ?_)))))));exact hend _ _ (by',(met,lev),_) (hB.skip hg8 (.inr (by show 0≤by'.getD (Int.toNat (g:Int)) 0;rw[Int.toNat_natCast,←hbg];omega))) qF
     ·refine bY _ [] (Sp.refl _) qI qI ?_;(refine aB2 yq ?_;(iterate 2 refine aX qE J J J ?_));refine bA (v:= .int .i64 n) qE J J J (fun w hs=>by rw[Blk.cell ((hR w hs.chg).blk (b:=x10) (cs:=[.int .i64 n]) (t:=3) qF)];rfl) ?_;(refine aB5 uq qG qG ?_;refine bA qE J J J (fun w hs=>RdI.at (hs.rdI (l:=chI met) (t:=3) (n:=met.length) qF (bT _).symm) n hnc) ?_);rw[hmI];(refine oI qE J J J qG (aB2 yq ?_);(iterate 5 refine eF J J J ?_);refine aB2 yq (aT (aF J (aJ (aW ?_)))));exact hend _ _ (by',(met,lev),_) (hB.skip hg8 (.inl (by show Int.toNat (f:Int)≠met.getD n 0;rw[Int.toNat_natCast,←hmn];exact hfm))) qF
    ·intro D s hI2;obtain⟨by',⟨met,lev⟩,vm⟩:=s;dsimp only at hI2 ⊢;(refine aW (aW (aD (aD (aB ?_))));refine aL qE J J J ?_;refine aE (aB ?_));refine bJ zero3 J (fun y10=> ?_);(refine gE qE J J J J qF ?_;refine aE (aB ?_);refine aL qE J J J ?_;refine aA4 xq qG qG ?_;refine gE qE J J J J qF ?_;refine aE ?_);refine cQ (H':=[.ow vm 3 1 met.length (bF (chI met)),.pt b9 [vm] 22,.pt y10 [.int .i64 (n+1)] 3,.pt b7 (bF by') 173,.pt b5 [.int .i64 slow] 3,un ((D::Ds).map dfr)]) (fun w' hs=>(Sat.un_in (hs.sp (H':=[dfr D,un (Ds.map dfr),.ow vm 3 1 met.length (bF (chI met)),.pt b9 [vm] 22,.pt y10 [.int .i64 (n+1)] 3,.pt b7 (bF by') 173,.pt b5 [.int .i64 slow] 3]) qF)).sp qF) ?_;exact hK (n+1,by',(met,lev),D::Ds,y10,vm) _ _ (BIx.after hI2) (by dsimp only;omega) ⟨J,J,J,J,J,J,trivial⟩ (Sp.refl _)
    ·rintro D ⟨by',⟨met,lev⟩,vm⟩ c ⟨rfl,KK,hBK⟩;dsimp only at hBK ⊢;(refine aZ _ J (aD (aD (aB ?_)));refine aL qE J J J ?_);have hb8:=hBK.bl
     have hge:0≤by'.getD slow 0:=by
      rcases hBK.ge with h1|⟨_,h2⟩
      ·exact h1
      ·exact absurd J h2
     refine bL (len:=8) i_arr J J J qG qG ?_;have his:slow<by'.length:=by omega
     refine gC qE (slow) J J J qF (by first|rfl|omega|simp) his ?_;rw[show by'[slow]=by'.getD slow 0 from by rw[List.getD_eq_getElem?_getD,List.getElem?_eq_getElem his];rfl];(refine cS qE J J J qG (aE (aF J (aJ (aD (aB (aA1 vq (aE (aD (aD (aB ?_))))))))));refine aL qE J J J ?_;refine aA1 vq (aE (aK ?_)));refine cQ (H':=[.ow (.slice none 0 0) 3 1 0 (bF []),.pt b7 (bF by') 173,un ((D::Ds).map dfr)]) (fun w' hs=>Sat.ownil ((Sat.un_in (hs.sp (H':=[dfr D,un (Ds.map dfr),.pt b7 (bF by') 173]) qF)).sp qF) _ _) ?_
     refine bD (σ:=Nat×List Int×Value) (fun s=>BK l fast slow by' s.1 s.2.1 KK) (fun s=>KK+1-s.2.1.length)
      (fun s=>[(0,aB8 b),(1,.int .i64 fast),(7,aB8 b7),(13,s.2.2),(14,.int .i64 s.1)])
      (fun s=>[.ow s.2.2 3 1 s.2.1.length (bF s.2.1),.pt b7 (bF by') 173,un ((D::Ds).map dfr)]) (slow,[],.slice none 0 0) hBK ⟨rfl,rfl,rfl,rfl,rfl,trivial⟩ (Sp.refl _) ?_
     rintro⟨at',out,vo⟩ hO K3 hK3;dsimp only at hO hK3 ⊢;have hob:=hO.bound;have hk9:=hO.kb;have ha8:=hO.at8;refine dO (fun w hs=>hs.slice2 (v:=vo) qF) ?_;rintro⟨vg,vc,rfl⟩;by_cases hol:out.length=0
     ·have hgo:out=[]∨at'≠fast:= .inl (List.length_eq_zero_iff.1 hol);(refine aD (aD (aB (aA1 vq (aA1 vq (aA8 yq qG (aA1 vq ?_))))));(iterate 3 refine aA3 zq ?_);refine aA1 vq (aE (aH J (aJ (aK (aD (aB (aA1 vq (aA1 vq ?_)))))))));obtain⟨f,hf0,hsh,hO2⟩:=hO.step hgo;have hib:at'<by'.length:=by omega
      obtain⟨bi,hbi⟩:∃bi:Nat,(bi:Int)=by'.getD at' 0:=⟨(by'.getD at' 0).toNat,by omega⟩
      rw[←hbi] at hO2 hsh;rw[Int.toNat_natCast] at hsh;have hbI:by'[at']=bi:=by rw[hbi,List.getD_eq_getElem?_getD,List.getElem?_eq_getElem hib];rfl
      refine bL (len:=8) i_arr J J J qG qG ?_;refine gC qE (at') J J J qF (by first|rfl|omega|simp) hib ?_;rw[hbI];refine cI 3 [.int .i64 bi] J qI J (fun bn=> ?_);refine bU (q:=1) (news:=[.int .i64 bi]) slI J J J (fun v'=>by repeat constructor) (fun w' hs=>⟨_,_,Blk.rdN (hs.blk (b:=bn) qF) J⟩) (by simp[dA]) qG qG (fun u'=> ?_);(refine aA1 vq (aE (aD ?_)));obtain⟨hbl,hrun⟩:=sh_run hl hsh
      refine kL (σ:=Nat) (fun z=>[(0,aB8 b),(1,.int .i64 fast),(7,aB8 b7),(13,u'),(14,.int .i64 at'),(15,aB8 z)])
       (fun z=>[.pt z [.int .i64 f,.int .i64 at'] 62,.ow u' 3 1 (out.length+1) (bF out++[.int .i64 bi]),.pt b7 (bF by') 173,un ((D::Ds).map dfr)]) ?_ ?_
      rotate_left
      ·intro K4 hK4;refine jJ (tK41_bd78311) _ [] (Sp.refl _) qI qI ?_;refine dC ?_ ?_
       ·refine bR qH fun K1 hK1=> ?_;refine bS kY J (fun b15=> ?_)
        ((iterate 3 refine aB2 yq ?_);refine pG qE J J J (by assumption) (by rfl) (by rfl) ?_;refine aB2 yq ?_)
        refine dK (len:=8) i_arr J J J qG qG ?_;refine gM qE (at') J J J qF (by first|rfl|omega|simp) hib ?_;rw[hbI];refine cR (val:= .tuple #[.agg #[.int .i64 f,.int .i64 at'],.bool true]) qE J J J J (fun w hs=> ?_) ?_;exact by have:=mU w lo hi l v (RdE.keep h hs.chg0) ⟨hl.e0,hl.e1⟩ bi hbl;rw[hrun] at this;exact this
        (refine aB2 yq (fD qE J J J (fD qE J J J ?_));refine iG qE J J J J J qF J ?_;refine aB2 yq (aT ?_))
        exact hK1 _ _ (iK (hK4 b15 _ _ ⟨J,J,J,J,J,J,trivial⟩ qF))
       ·refine bR qH fun K1 hK1=> ?_
        ((iterate 3 refine aB2 yq ?_);refine pG qE J J J (by assumption) (by rfl) (by rfl) ?_;refine aB2 yq ?_)
        refine dK (len:=8) i_arr J J J qG qG ?_;refine gM qE (at') J J J qF (by first|rfl|omega|simp) hib ?_;rw[hbI];refine cR (val:= .tuple #[.agg #[.int .i64 f,.int .i64 at'],.bool true]) qE J J J J (fun w hs=> ?_) ?_;exact by have:=mU w lo hi l v (RdE.keep h hs.chg0) ⟨hl.e0,hl.e1⟩ bi hbl;rw[hrun] at this;exact this
        refine bS kY J (fun b15=> ?_);(refine aB2 yq (fD qE J J J (fD qE J J J ?_));refine iG qE J J J J J qF J ?_;refine aB2 yq (aT ?_));exact hK1 _ _ (iK (hK4 b15 _ _ ⟨J,J,J,J,J,J,trivial⟩ qF))
      intro b15;(refine aB (aA1 vq ?_);refine aL qE J J J ?_;refine aA1 vq (aE (aW ?_)));have hb2:=hO2.bound;rw[List.length_append,List.length_singleton] at hb2;exact hK3 (f,out++[(bi:Int)],u') _ _ hO2 (by dsimp only;rw[List.length_append,List.length_singleton];omega) ⟨J,J,J,J,J,trivial⟩ (by dsimp only;rw[List.length_append,List.length_singleton,show bF (out++[(bi:Int)])=bF out++[.int .i64 bi] from by simp];repeat constructor)
     ·by_cases haf:at'=fast
      ·have hne:out≠[]:=fun e=>hol (by rw[e];rfl)
       have hsh:=(show BK l fast slow by' fast out KK from haf▸hO).end hne;refine dO (fun w hs=>hs.ownSome (v:= .slice vg out.length vc) qF qG) ?_;rintro⟨qg,qc,hq⟩;cases hq
       (refine aD (aD (aB (aA1 vq (aA1 vq (aA9 yq qG (aA1 vq (aC J (aA1 vq (aC J (aA1 vq (aC J ?_)))))))))));refine aB1 yq qG (aA1 vq (aE (aF J (aZ _ J (aD (aB (aA1 vq ?_))))))))
       refine bB (β:=Unit) (ψ:=fun _ v=>v= .tuple #[]) (L':=fun _=>[.ow (aB7 qg out.length vc) 3 1 out.length (bF out.reverse)]) qE [.ow (aB7 qg out.length vc) 3 1 out.length (bF out)] _ (fun x=>x=qg) rfl rfl rfl rfl (Sp.cons qF (Sp.refl _)) (fun x hx=>⟨_,.head _,by subst hx;rfl⟩) (fun w' hs=>(rev_ca w' qg vc out qG (hs.all _ (.head _))).mono fun v w'' h=>⟨(),h⟩) ?_;rintro _ _ rfl;(refine aE (aD (aB (aA1 vq (aA1 vq (aE (aQ ?_)))))));refine q_finMs qE (D::Ds) qF J qF fun w hs=> ?_;exact .inr ⟨qg,vc,out.reverse,by rw[List.length_reverse];rfl,hsh,by rw[List.length_reverse];exact hs.sp qF⟩
      ·have hgo:out=[]∨at'≠fast:= .inr haf;(refine aD (aD (aB (aA1 vq (aA1 vq (aA9 yq qG (aA1 vq (aC J (aA1 vq (aC J (aA1 vq (aC J ?_)))))))))));refine aB0 yq qG (aA1 vq (aE (aH J (aJ (aK (aD (aB (aA1 vq (aA1 vq ?_))))))))));obtain⟨f,hf0,hsh,hO2⟩:=hO.step hgo;have hib:at'<by'.length:=by omega
       obtain⟨bi,hbi⟩:∃bi:Nat,(bi:Int)=by'.getD at' 0:=⟨(by'.getD at' 0).toNat,by omega⟩
       rw[←hbi] at hO2 hsh;rw[Int.toNat_natCast] at hsh;have hbI:by'[at']=bi:=by rw[hbi,List.getD_eq_getElem?_getD,List.getElem?_eq_getElem hib];rfl
       refine bL (len:=8) i_arr J J J qG qG ?_;refine gC qE (at') J J J qF (by first|rfl|omega|simp) hib ?_;rw[hbI];refine cI 3 [.int .i64 bi] J qI J (fun bn=> ?_);refine bU (q:=1) (news:=[.int .i64 bi]) slI J J J (fun v'=>by repeat constructor) (fun w' hs=>⟨_,_,Blk.rdN (hs.blk (b:=bn) qF) J⟩) (by simp[dA]) qG qG (fun u'=> ?_);(refine aA1 vq (aE (aD ?_)));obtain⟨hbl,hrun⟩:=sh_run hl hsh
       refine kL (σ:=Nat) (fun z=>[(0,aB8 b),(1,.int .i64 fast),(7,aB8 b7),(13,u'),(14,.int .i64 at'),(15,aB8 z)])
        (fun z=>[.pt z [.int .i64 f,.int .i64 at'] 62,.ow u' 3 1 (out.length+1) (bF out++[.int .i64 bi]),.pt b7 (bF by') 173,un ((D::Ds).map dfr)]) ?_ ?_
       rotate_left
       ·intro K4 hK4;refine jJ (tK41_bd78311) _ [] (Sp.refl _) qI qI ?_;refine dC ?_ ?_
        ·refine bR qH fun K1 hK1=> ?_;refine bS kY J (fun b15=> ?_)
         ((iterate 3 refine aB2 yq ?_);refine pG qE J J J (by assumption) (by rfl) (by rfl) ?_;refine aB2 yq ?_)
         refine dK (len:=8) i_arr J J J qG qG ?_;refine gM qE (at') J J J qF (by first|rfl|omega|simp) hib ?_;rw[hbI];refine cR (val:= .tuple #[.agg #[.int .i64 f,.int .i64 at'],.bool true]) qE J J J J (fun w hs=> ?_) ?_;exact by have:=mU w lo hi l v (RdE.keep h hs.chg0) ⟨hl.e0,hl.e1⟩ bi hbl;rw[hrun] at this;exact this
         (refine aB2 yq (fD qE J J J (fD qE J J J ?_));refine iG qE J J J J J qF J ?_;refine aB2 yq (aT ?_))
         exact hK1 _ _ (iK (hK4 b15 _ _ ⟨J,J,J,J,J,J,trivial⟩ qF))
        ·refine bR qH fun K1 hK1=> ?_
         ((iterate 3 refine aB2 yq ?_);refine pG qE J J J (by assumption) (by rfl) (by rfl) ?_;refine aB2 yq ?_)
         refine dK (len:=8) i_arr J J J qG qG ?_;refine gM qE (at') J J J qF (by first|rfl|omega|simp) hib ?_;rw[hbI];refine cR (val:= .tuple #[.agg #[.int .i64 f,.int .i64 at'],.bool true]) qE J J J J (fun w hs=> ?_) ?_;exact by have:=mU w lo hi l v (RdE.keep h hs.chg0) ⟨hl.e0,hl.e1⟩ bi hbl;rw[hrun] at this;exact this
         refine bS kY J (fun b15=> ?_);(refine aB2 yq (fD qE J J J (fD qE J J J ?_));refine iG qE J J J J J qF J ?_;refine aB2 yq (aT ?_));exact hK1 _ _ (iK (hK4 b15 _ _ ⟨J,J,J,J,J,J,trivial⟩ qF))
       intro b15;(refine aB (aA1 vq ?_);refine aL qE J J J ?_;refine aA1 vq (aE (aW ?_)));have hb2:=hO2.bound;rw[List.length_append,List.length_singleton] at hb2;exact hK3 (f,out++[(bi:Int)],u') _ _ hO2 (by dsimp only;rw[List.length_append,List.length_singleton];omega) ⟨J,J,J,J,J,trivial⟩ (by dsimp only;rw[List.length_append,List.length_singleton,show bF (out++[(bi:Int)])=bF out++[.int .i64 bi] from by simp];repeat constructor)
   ·have hn:n=met.length:=by omega
    clear hc;(refine aZ _ J (aD (aD (aB ?_)));refine aL qE J J J ?_);obtain⟨hno,hb0,hb8⟩:=hI.none hl.e0 hn;refine bL (len:=8) i_arr J J J qG qG ?_;have hi:slow<by'.length:=by omega
    refine gC qE (slow) J J J qF (by first|rfl|omega|simp) hi ?_;rw[show by'[slow]=by'.getD slow 0 from by rw[List.getD_eq_getElem?_getD,List.getElem?_eq_getElem hi];rfl];(refine dU qE J J J qG (aE (aH J (aD (aB (aA1 vq (aE (aQ ?_))))))));refine q_finMs qE Ds qF J qF fun w hs=> ?_;exact .inl ⟨J,hno,hs.chg0⟩
end Go.Proofs.YtoljppohibpenaaGreat
namespace Go.Eng
set_option maxRecDepth 4000
open Go Go.RowKit
section
variable {P : Program} {T : Tab} {ro : Cx} {n : Nat} {F : Fin} {w0 : World} {M : Nat → Prop} {k : List It} {ops : Array Oper} {rest : List Oper} {e : Env} {H Hq : List Ck}
theorem ql_makeZ{d t et m bytes:Nat}{z:Value}{x y:Operand}{ty:TypeId}{pos:String}{af:Array Edge}(hS:SlT P t et 1 bytes z)(hz1:z.cells= #[z])(hx:opv e x=some (.int .i64 m))(hy:opv e y=some (.int .i64 m))(hd:Nat.blt d n=true)(hm:m≤1000000)(hb8:bytes≤8)
  (h:∀b,QL P ro n F w0 M k ops rest ((d,aB7 b m m)::e) (.pt b (List.replicate m z) et::H)) :
  QL P ro n F w0 M k ops (⟨some d,.makeSlice t x y,ty,pos,af,none⟩::rest) e H:= .mk fun w hs=>by
 obtain⟨ht,hi',hzs,hsz⟩:=hS;cases hinf:P.info? et with
 | none=>simp[hinf] at hi'
 | some i=>
  simp[hinf] at hi';obtain⟨hz,hsize,hby⟩:=hi';subst hby;have hm8:m*i.bytes≤1000000*8:=Nat.mul_le_mul hm hb8;have hr:=run_makeSlice (P:=P) w t et i _ ht hinf hz .i64 .i64 m m qG (Int.le_refl _) (by rw[hsize];simp;omega) (by rw[Int.mul_comm];omega) qG
  have hcells:(madeCells z.cells ((m:Int).toNat*i.size))=(List.replicate m z).toArray:=by
   apply Array.ext';rw[hsize,hz1,toList_madeCells_one];simp
  rw[hcells] at hr;refine dF (w':=w.alloc (.cells (List.replicate m z).toArray et)) (by simp) hd (fun ac hf=> ?_) ((h w.heap.size).h _ (hs.addPt (dL _ _) (by simp) (eT w _ _)));simp only[execOp,hf.op hx,hf.op hy];simp[hr]
theorem ql_storeBo(hT:T.Ok P){t:Nat}{x y:Operand}{b off:Nat}{l:List Bool}{z:Bool}{bt:TypeId}{H':List Ck}{ty:TypeId}{pos:String}{af:Array Edge}(i:Nat)
  (hx:opv e x=some (.pointer (some ⟨b,off,none⟩))) (hy:opv e y=some (.bool z)) (h1:has T.one t=true) (hr:Rp H (.pt b (bools l) bt) (.pt b (bools (l.set i z)) bt) H') (ho:off=i) (hi:i<l.length)
  (h:QL P ro n F w0 M k ops rest e H'):QL P ro n F w0 M k ops (⟨none,.store t x y,ty,pos,af,none⟩::rest) e H:=
 cN hT hx hy h1 rfl (by subst ho;rw[←List.map_set];exact hr) (by subst ho;simpa using hi) h
theorem bcell{w:World}{b:Nat}{sl:List Bool}{t:TypeId}(hb:Blk w b (bools sl) t)(f:Nat)(hf:f<sl.length):w.cell? ⟨b,0+(f:Int).toNat*1,none⟩=some (.bool (sl.getD f false)):=by
 rw[Blk.cell hb,Int.toNat_natCast,Nat.zero_add,Nat.mul_one,List.getElem?_map,List.getD_eq_getElem?_getD,List.getElem?_eq_getElem hf]
 rfl
theorem icell{w:World}{b:Nat}{sl:List Int}{t:TypeId}(hb:Blk w b (bF sl) t)(f:Nat)(hf:f<sl.length):w.cell? ⟨b,0+(f:Int).toNat*1,none⟩=some (.int .i64 (sl.getD f 0)):=by
 rw[Blk.cell hb,Int.toNat_natCast,Nat.zero_add,Nat.mul_one,List.getElem?_map,List.getD_eq_getElem?_getD,List.getElem?_eq_getElem hf]
 rfl
end
end Go.Eng
namespace Go.Proofs.YtoljppohibpenaaGreat
open Go Go.Eng
set_option maxRecDepth 4000
open Go Go.Eng
theorem kK{l:Lb}{i f s:Nat}(h:Sh l i f s):(f,s)∈l.pairs:=by
 obtain⟨h1,h2⟩:=h;rw[List.getD_eq_getElem?_getD,List.getElem?_eq_getElem h1,Option.getD_some] at h2;exact List.mem_filterMap.2 ⟨_,List.getElem_mem h1,h2⟩
theorem pair_sh{l:Lb}{p:Nat×Nat}(h:p∈l.pairs):∃i,Sh l i p.1 p.2:=by
 obtain⟨r,hr,h1⟩:=List.mem_filterMap.1 h;obtain⟨i,hi,rfl⟩:=List.getElem_of_mem hr;exact⟨i,hi,by rw[List.getD_eq_getElem?_getD,List.getElem?_eq_getElem hi,Option.getD_some];exact h1⟩
theorem sh_in{l:Lb}(hl:l.Ok){i f s:Nat}(h:Sh l i f s):f<l.n∧s<l.n:=⟨(hl.in _ (kK h)).1,(hl.in _ (kK h)).2.1⟩
theorem wk_one{l:Lb}{i a b:Nat}(h:Sh l i a b):Wk l a 1 b:=⟨a,i,rfl,h⟩
theorem wk_app{l:Lb}{a b k:Nat}(h:Wk l a k b):∀m c,Wk l b m c→Wk l a (k+m) c
 | 0,c,h2=>by
  have e:c=b:=h2;rw[e];exact h
 | m+1,c,⟨s,i,h2,h3⟩=>⟨s,i,wk_app h m s h2,h3⟩
theorem wk_in{l:Lb}(hl:l.Ok){a k b:Nat}(h:Wk l a (k+1) b):b<l.n:=by
 obtain⟨s,i,_,h3⟩:=h;exact(sh_in hl h3).2
theorem wk_fa{l:Lb}(hl:l.Ok){a:Nat}(ha:a<8):∀k b,Wk l a (k+1) b→fa l.ord a b=true
 | 0,b,⟨s,i,h2,h3⟩=>by
  have e:s=a:=h2;rw[e] at h3;exact iA hl.in8 (kK h3)
 | k+1,b,⟨s,i,h2,h3⟩=>by
  have h8:=hl.n8;have hi:=sh_in hl h3;exact hl.o.tr a s b ha qG qG (wk_fa hl ha k s h2) (iA hl.in8 (kK h3))
theorem fa_wk{l:Lb}(hl:l.Ok){a b:Nat}(ha:a<8)(hb:b<8)(h:fa l.ord a b=true):∃k,Wk l a (k+1) b:=
 iM (R:=fun a b=>∃k,Wk l a (k+1) b) hl.in8 (fun a b c _ _ _ ⟨k,h1⟩ ⟨m,h2⟩=>⟨k+1+m,wk_app h1 (m+1) c h2⟩) (fun p hp=>by
  obtain⟨i,hi⟩:=pair_sh hp;exact⟨0,wk_one hi⟩) a b ha hb h
theorem wk_lead{l:Lb}{a:Nat}:∀k b,Wk l a k b→∃c:List Int,c.length=k∧eD l a c=some (b:Int)
 | 0,b,h=>⟨[],rfl,by rw[show b=a from h];rfl⟩
 | k+1,b,⟨s,i,h2,h3⟩=>by
  obtain⟨c,hc,h4⟩:=wk_lead k s h2;refine⟨c++[(i:Int)],by simp[hc],?_⟩;rw[lead_snoc,h4,Option.bind_some,lead_cons h3]
  rfl
def IsD(l:Lb)(a b k:Nat):Prop:=1≤k∧Wk l a k b∧∀j,1≤j→j<k→¬Wk l a j b
theorem isD_of{l:Lb}{a b:Nat}:∀k,1≤k→Wk l a k b→∃j,j≤k∧IsD l a b j:=by
 intro k
 induction k using Nat.strongRecOn with
 | _ k ih=>
  intro h1 hw;by_cases hx:∃j,1≤j∧j<k∧Wk l a j b
  ·obtain⟨j,h2,h3,h4⟩:=hx;obtain⟨i,h5,h6⟩:=ih j h3 h2 h4;exact⟨i,by omega,h6⟩
  ·exact⟨k,Nat.le_refl _,h1,hw,fun j h2 h3 h4=>hx ⟨j,h2,h3,h4⟩⟩
theorem isD_eq{l:Lb}{a b j k:Nat}(h:IsD l a b j)(g:IsD l a b k):j=k:=by
 rcases Nat.lt_trichotomy j k with h1|h1|h1
 ·exact absurd h.2.1 (g.2.2 j h.1 h1)
 ·exact h1
 ·exact absurd g.2.1 (h.2.2 k g.1 h1)
theorem isD_pred{l:Lb}{a b k:Nat}(h:IsD l a b (k+2)):∃f i,IsD l a f (k+1)∧Sh l i f b:=by
 obtain⟨_,⟨f,i,h2,h3⟩,h4⟩:=h;exact⟨f,i,⟨by omega,h2,fun j hj hk hw=>h4 (j+1) qG qG ⟨f,i,hw,h3⟩⟩,h3⟩
theorem isD_one{l:Lb}{a b:Nat}(h:IsD l a b 1):∃i,Sh l i a b:=by
 obtain⟨_,⟨f,i,h2,h3⟩,_⟩:=h;rw[show f=a from h2] at h3;exact⟨i,h3⟩
theorem isD_nodes{l:Lb}(hl:l.Ok){a:Nat}:∀k b,IsD l a b (k+1)→∃L:List Nat,L.length=k+1∧L.Nodup∧∀x∈L,x<l.n∧∃j,j≤k+1∧IsD l a x j
 | 0,b,h=>⟨[b],rfl,by simp,fun x hx=>by rw[List.mem_singleton.1 hx];exact⟨wk_in hl h.2.1,1,by omega,h⟩⟩
 | k+1,b,h=>by
  obtain⟨f,i,h1,h2⟩:=isD_pred h;obtain⟨L,h3,h4,h5⟩:=isD_nodes hl k f h1;refine⟨b::L,by simp[h3],List.nodup_cons.2 ⟨fun hb=> ?_,h4⟩,fun x hx=> ?_⟩
  ·obtain⟨_,j,hj,hd⟩:=h5 b hb;have:=isD_eq hd h;omega
  ·rcases List.mem_cons.1 hx with rfl|hx
   ·exact⟨wk_in hl h.2.1,k+2,by omega,h⟩
   ·obtain⟨g1,j,g2,g3⟩:=h5 x hx;exact⟨g1,j,by omega,g3⟩
theorem nodup_len:∀{n:Nat} {L:List Nat},L.Nodup→(∀x∈L,x<n)→L.length≤n
 | 0,L,_,hn=>by
  cases L with
  | nil=>simp
  | cons x L=>exact absurd (hn x List.mem_cons_self) qG
 | n+1,L,h,hn=>by
  have h1:=nodup_len (n:=n) (h.erase n) (fun x hx=>by
   have:=(h.mem_erase_iff).1 hx;have:=hn x this.2;omega)
  rw[List.length_erase] at h1;split at h1<;>omega
theorem isD_le{l:Lb}(hl:l.Ok){a b k:Nat}(h:IsD l a b k):k≤l.n:=by
 obtain⟨m,rfl⟩:∃m,k=m+1:=⟨k-1,by have:=h.1;omega⟩;obtain⟨L,h1,h2,h3⟩:=isD_nodes hl m b h;have:=nodup_len h2 (fun x hx=>(h3 x hx).1);omega
structure FI(l:Lb)(a:Nat)(sl:List Bool):Prop where
 len:sl.length=l.n
 ok:∀s,sl.getD s false=true→∃k,Wk l a (k+1) s
theorem bset_getD(sl:List Bool)(s t:Nat)(hs:s<sl.length):(sl.set s true).getD t false=if t=s then true else sl.getD t false:=by
 rw[List.getD_eq_getElem?_getD,List.getElem?_set];by_cases h:s=t
 ·subst h;simp[hs]
 ·rw[if_neg h,if_neg (fun h'=>h h'.symm),List.getD_eq_getElem?_getD]
theorem FI.start{l:Lb}{a:Nat}:FI l a (List.replicate l.n false):=⟨by simp,fun s h=>by
 rw[List.getD_eq_getElem?_getD,List.getElem?_replicate] at h;split at h<;>cases h⟩
theorem FI.add{l:Lb}(hl:l.Ok){a i f s:Nat}{sl:List Bool}(h:FI l a sl)(hs:Sh l i f s)(hf:f=a∨sl.getD f false=true):FI l a (sl.set s true):=by
 have hin:=sh_in hl hs;refine⟨by simp[h.len],fun t ht=> ?_⟩;rw[bset_getD _ _ _ (by rw[h.len];exact hin.2)] at ht;split at ht
 ·rename_i e
  subst e;rcases hf with rfl|hf
  ·exact⟨0,wk_one hs⟩
  ·obtain⟨k,hk⟩:=h.ok f hf;exact⟨k+1,f,i,hk,hs⟩
 ·exact h.ok t ht
theorem FI.done{l:Lb}(hl:l.Ok){a:Nat}(ha:a<8){sl:List Bool}(h:FI l a sl)(hc:∀i f s,Sh l i f s→(f=a∨sl.getD f false=true)→sl.getD s false=true){b:Nat}(hb:b<l.n):sl.getD b false=fa l.ord a b:=by
 have key:∀k s,Wk l a (k+1) s→sl.getD s false=true:=by
  intro k
  induction k with
  | zero=>
   rintro s ⟨t,i,h2,h3⟩;rw[show t=a from h2] at h3;exact hc i a s h3 (.inl J)
  | succ k ih=>
   rintro s ⟨t,i,h2,h3⟩;exact hc i t s h3 (.inr (ih t h2))
 have h8:=hl.n8;cases hx:fa l.ord a b with
 | true=>
  obtain⟨k,hk⟩:=fa_wk hl ha qG hx;exact key k b hk
 | false=>
  cases hy:sl.getD b false with
  | false=>rfl
  | true=>
   obtain⟨k,hk⟩:=h.ok b hy;rw[wk_fa hl ha k b hk] at hx;cases hx
def mK(sl:List Bool):Nat:=(sl.filter fun b=> !b).length
theorem falses_set:∀(sl:List Bool) (s:Nat),s<sl.length→sl.getD s false=false→mK (sl.set s true)+1=mK sl
 | [],s,h,_=>by simp at h
 | b::sl,0,_,h=>by
  have:b=false:=h;subst this;simp[mK]
 | b::sl,s+1,h,h2=>by
  have ih:=falses_set sl s (by simpa using h) h2;cases b<;>simp[mK] at ih ⊢ <;> omega
structure LI(l:Lb)(a n i:Nat)(far:List Int):Prop where
 len:far.length=l.n
 ok:∀s,far.getD s 0≠0→∃k,far.getD s 0=(k:Nat)∧k≤n∧IsD l a s k
 old:∀s k,k<n→IsD l a s k→far.getD s 0=k
 cur:∀j f s,j<i→Sh l j f s→(n=1∧f=a∨∃m,n=m+2∧IsD l a f (m+1))→far.getD s 0≠0
theorem LI.start(l:Lb)(a:Nat):LI l a 1 0 (List.replicate l.n 0) where
 len:=by simp
 ok:=fun s h=>by
  rw[List.getD_eq_getElem?_getD,List.getElem?_replicate] at h;split at h<;>simp at h
 old:=fun s k hk h=>by have:=h.1;omega
 cur:=fun j f s hj=>by omega
theorem LI.fin{l:Lb}(hl:l.Ok){a n:Nat}{far:List Int}(h:LI l a n l.runs.length far)(hn:1≤n):LI l a (n+1) 0 far where
 len:=h.len
 ok:=fun s hs=>by
  obtain⟨k,h1,h2,h3⟩:=h.ok s hs;exact⟨k,h1,by omega,h3⟩
 old:=fun s k hk hd=>by
  by_cases e:k<n
  ·exact h.old s k e hd
  ·obtain rfl:k=n:=by omega
   have hne:far.getD s 0≠0:=by
    rcases Nat.lt_or_ge 1 k with h1|h1
    ·obtain⟨m,rfl⟩:∃m,k=m+2:=⟨k-2,by omega⟩;obtain⟨f,i,h3,h4⟩:=isD_pred hd;exact h.cur i f s h4.1 h4 (.inr ⟨m,J,h3⟩)
    ·obtain rfl:k=1:=by omega
     obtain⟨i,h4⟩:=isD_one hd;exact h.cur i a s h4.1 h4 (.inl ⟨J,J⟩)
   obtain⟨j,h1,h2,h3⟩:=h.ok s hne;rw[h1,isD_eq h3 hd]
 cur:=fun j f s hj=>by omega
theorem LI.skip{l:Lb}{a n i:Nat}{far:List Int}(h:LI l a n i far)(hx:∀f s,Sh l i f s→(n=1∧f=a∨∃m,n=m+2∧IsD l a f (m+1))→far.getD s 0≠0):LI l a n (i+1) far:=
  {h with
    cur:=fun j f s hj hsh hf=>by
      by_cases e:j=i
      · rw[e] at hsh;exact hx f s hsh hf
      · exact h.cur j f s qG hsh hf}
theorem LI.set{l:Lb}(hl:l.Ok){a n i f s:Nat}{far:List Int}(h:LI l a n i far)(hn:1≤n)(hsh:Sh l i f s)(h0:far.getD s 0=0)(hf:n=1∧f=a∨∃m,n=m+2∧IsD l a f (m+1)):LI l a n (i+1) (far.set s n):=by
 have hin:=sh_in hl hsh;have hg:∀t,(far.set s (n:Int)).getD t 0=if t=s then(n:Int) else far.getD t 0:=fun t=>kT _ _ _ _ (by rw[h.len];exact hin.2)
 have hw:Wk l a n s:=by
  rcases hf with⟨rfl,rfl⟩|⟨m,rfl,hd⟩
  ·exact wk_one hsh
  ·exact⟨f,i,hd.2.1,hsh⟩
 have hd:IsD l a s n:=⟨hn,hw,fun j h1 h2 h3=>by
  obtain⟨k,hk,hk2⟩:=isD_of j h1 h3;have:=h.old s k qG hk2;have:=hk2.1;omega⟩
 refine⟨by simp[h.len],fun t ht=> ?_,fun t k hk hkd=> ?_,fun j f' t hj hs' hf'=> ?_⟩
 ·rw[hg] at ht ⊢;by_cases e:t=s
  ·rw[if_pos e,e];exact⟨n,rfl,Nat.le_refl _,hd⟩
  ·rw[if_neg e] at ht ⊢;exact h.ok t ht
 ·rw[hg];by_cases e:t=s
  ·rw[e] at hkd;have:=isD_eq hkd hd;omega
  ·rw[if_neg e];exact h.old t k hk hkd
 ·rw[hg];by_cases e:t=s
  ·rw[if_pos e];omega
  ·rw[if_neg e];by_cases e2:j=i
   ·rw[e2] at hs';have:=hs'.2.symm.trans hsh.2;cases this
    exact absurd J e
   ·exact h.cur j f' t qG hs' hf'
def LenP(l:Lb)(a b:Nat)(n:Int):Prop:=(n=0∧∀k,1≤k→¬Wk l a k b)∨∃k:Nat,n=k∧IsD l a b k
theorem LI.end{l:Lb}(hl:l.Ok){a:Nat}{far:List Int}(h:LI l a (l.n+1) 0 far)(b:Nat):LenP l a b (far.getD b 0):=by
 by_cases h0:far.getD b 0=0
 ·refine .inl ⟨h0,fun k hk hw=> ?_⟩;obtain⟨j,_,hd⟩:=isD_of k hk hw;have:=h.old b j (by have:=isD_le hl hd;omega) hd;have:=hd.1;omega
 ·obtain⟨k,h1,_,h3⟩:=h.ok b h0;exact .inr ⟨k,h1,h3⟩
theorem short_len{l:Lb}(he:0≤l.err){a b:Nat}{c:List Int}{n:Int}(h:Short l a b c)(hn:LenP l a b n):n=c.length:=by
 obtain⟨b',hb,hw⟩:=lead_wk he a _ c _ rfl h.ok;have e:b'=b:=by omega
 rw[e] at hw;have hc:1≤c.length:=List.length_pos_iff.2 h.ne;rcases hn with⟨_,h2⟩|⟨k,rfl,hd⟩
 ·exact absurd hw (h2 _ hc)
 ·have h1:k≤c.length:=by
   rcases Nat.lt_or_ge c.length k with h3|h3
   ·exact absurd hw (hd.2.2 _ hc h3)
   ·exact h3
  obtain⟨c',h4,h5⟩:=wk_lead k b hd.2.1;have:=h.min c' (fun e=>by rw[e] at h4;have:=hd.1;simp at h4;omega) h5;omega
theorem noCh_len{l:Lb}{a b:Nat}{n:Int}(h:NoCh l a b)(hn:LenP l a b n):n=0:=by
 rcases hn with⟨h1,_⟩|⟨k,rfl,hd⟩
 ·exact h1
 ·exfalso;obtain⟨c',h4,h5⟩:=wk_lead k b hd.2.1;exact h c' (fun e=>by rw[e] at h4;have:=hd.1;simp at h4;omega) h5
theorem leadV_cons(l:Lb)(a i:Int)(c:List Int):eD l a (i::c)=match runV l.err (l.runs.getD i.toNat ⟨0,0,0⟩) with
  | none=>none
  | some p=>if(p.1:Int)=a then eD l p.2 c else none:=by
 (conv=>lhs;unfold eD)<;>rfl
theorem lead_app(l:Lb):∀(c d:List Int) (a:Int),eD l a (c++d)=(eD l a c).bind fun x=>eD l x d
 | [],d,a=>rfl
 | j::c,d,a=>by
  rw[List.cons_append,leadV_cons,leadV_cons];split
  ·rfl
  ·rename_i p hp
   split
   ·exact lead_app l c d p.2
   ·rfl
def shR(e:Int)(r:Rn):Int×Int:=(lH e r).getD (-1,-1)
def rqL(l:Lb)(j:Int):Int×Int:=shR l.err (l.runs.getD j.toNat ⟨0,0,0⟩)
theorem lead_one2{l:Lb}(hl:l.Ok){j:Int}(h0:0≤j)(h1:j<l.runs.length)(x:Int):eD l x [j]=if 0≤(rqL l j).1∧(rqL l j).1=x then some (rqL l j).2 else none:=by
 have hj:j.toNat<l.runs.length:=by omega
 have hr:=hl.run _ (List.getElem_mem hj);have a0:=hr.a0;have b0:=hr.b0;unfold eD rqL shR;rw[List.getD_eq_getElem?_getD,List.getElem?_eq_getElem hj,Option.getD_some];generalize l.runs[j.toNat]=r at *;unfold runV lH;by_cases h2:l.err<r.lead
 ·rw[if_pos h2,if_pos h2];simp only[Option.getD_some,Int.toNat_of_nonneg a0,Int.toNat_of_nonneg b0];by_cases h3:r.a=x
  ·rw[if_pos h3,if_pos ⟨a0,h3⟩];rfl
  ·rw[if_neg h3,if_neg (fun h=>h3 h.2)]
 ·rw[if_neg h2,if_neg h2];by_cases h4:r.lead< -l.err
  ·rw[if_pos h4,if_pos h4];simp only[Option.getD_some,Int.toNat_of_nonneg a0,Int.toNat_of_nonneg b0];by_cases h3:r.b=x
   ·rw[if_pos h3,if_pos ⟨b0,h3⟩];rfl
   ·rw[if_neg h3,if_neg (fun h=>h3 h.2)]
  ·rw[if_neg h4,if_neg h4,if_neg (by simp)]
def nO(l:Lb)(a b:Int)(c:List Int):Bool:=match eD l a c with|none=>false|some x=>decide (x=b)&&(!c.isEmpty&&true)
structure CI(l:Lb)(a b:Int)(c:List Int)(i:Nat):Prop where
 le:i≤c.length
 ok:eD l a (c.take i)=some (if i=0 then a else(rqL l (c.getD (i-1) 0)).2)
 fin:0<i→i=c.length→(rqL l (c.getD (i-1) 0)).2=b
theorem CI.start(l:Lb)(a b:Int)(c:List Int):CI l a b c 0:=⟨by omega,rfl,by omega⟩
section
variable {l : Lb} {a b : Int} {c : List Int} {i : Nat}
theorem CI.next(hl:l.Ok)(h:CI l a b c i)(hi:i<c.length)(hc:∀j∈c,0≤j∧j<l.runs.length):eD l a (c.take (i+1))=if 0≤(rqL l (c.getD i 0)).1∧(rqL l (c.getD i 0)).1=(if i=0 then a else(rqL l (c.getD (i-1) 0)).2) then some (rqL l (c.getD i 0)).2 else none:=by
 have hg:c.getD i 0=c[i]:=by rw[List.getD_eq_getElem?_getD,List.getElem?_eq_getElem hi];rfl
 have hm:=hc _ (List.getElem_mem hi);rw[←List.take_append_getElem hi,lead_app,h.ok,Option.bind_some,lead_one2 hl hm.1 hm.2,hg]
theorem CI.step(hl:l.Ok)(h:CI l a b c i)(hi:i<c.length)(hc:∀j∈c,0≤j∧j<l.runs.length)(h0:0≤(rqL l (c.getD i 0)).1)(h1:(rqL l (c.getD i 0)).1=(if i=0 then a else(rqL l (c.getD (i-1) 0)).2))(h2:(rqL l (c.getD i 0)).2=(if i+1<c.length then(rqL l (c.getD (i+1) 0)).1 else b)):CI l a b c (i+1):=by
 refine⟨by omega,?_,fun _ h3=> ?_⟩
 ·rw[h.next hl hi hc,if_pos ⟨h0,h1⟩,if_neg qG,Nat.add_sub_cancel]
 ·rw[Nat.add_sub_cancel,h2,if_neg qG]
theorem chainB_none{m:Nat}(h:eD l a (c.take m)=none):nO l a b c=false:=by
 unfold nO;have:eD l a c=none:=by rw[←List.take_append_drop m c,lead_app,h];rfl
 rw[this]
theorem CI.bad(hl:l.Ok)(h:CI l a b c i)(hi:i<c.length)(hc:∀j∈c,0≤j∧j<l.runs.length)(h1:¬(0≤(rqL l (c.getD i 0)).1∧(rqL l (c.getD i 0)).1=(if i=0 then a else(rqL l (c.getD (i-1) 0)).2))):nO l a b c=false:=
 chainB_none (m:=i+1) (by rw[h.next hl hi hc,if_neg h1])
theorem CI.bad2(hl:l.Ok)(h:CI l a b c i)(hi:i<c.length)(hc:∀j∈c,0≤j∧j<l.runs.length)(h0:0≤(rqL l (c.getD i 0)).1)(h1:(rqL l (c.getD i 0)).1=(if i=0 then a else(rqL l (c.getD (i-1) 0)).2))(h2:(rqL l (c.getD i 0)).2≠(if i+1<c.length then(rqL l (c.getD (i+1) 0)).1 else b)):nO l a b c=false:=by
 have h3:=h.next hl hi hc
 rw[if_pos ⟨h0,h1⟩] at h3;by_cases e:i+1<c.length
 ·rw[if_pos e] at h2;refine chainB_none (m:=i+2) ?_;have hg:c.getD (i+1) 0=c[i+1]:=by rw[List.getD_eq_getElem?_getD,List.getElem?_eq_getElem e];rfl
  have hm:=hc _ (List.getElem_mem e);rw[show i+2=(i+1)+1 from rfl,←List.take_append_getElem e,lead_app,h3,Option.bind_some,lead_one2 hl hm.1 hm.2,if_neg (fun h=>h2 (by rw[hg,h.2]))]
 ·rw[if_neg e] at h2;rw[List.take_of_length_le qG] at h3;unfold nO;rw[h3]
  show(decide (_=b)&&_)=false
  rw[decide_eq_false h2]
  rfl
theorem CI.end(h:CI l a b c c.length):nO l a b c=decide (0<c.length):=by
 have h1:=h.ok;rw[List.take_length] at h1;unfold nO;rw[h1];by_cases e:c.length=0
 ·have:c=[]:=List.length_eq_zero_iff.1 e;subst this;simp
 ·rw[if_neg e,h.fin qG rfl];cases c with
  | nil=>simp at e
  | cons x c=>simp
end
theorem short_chain{l:Lb}{a b:Nat}{c:List Int}(h:Short l a b c):nO l a b c=true:=by
 unfold nO;rw[h.ok];have:=h.ne;cases c with
 | nil=>exact absurd rfl this
 | cons x c=>simp
theorem fS(n lo hi:Int)(w:World):Ca Tryz.prog 82 [.int .i64 n,.int .i64 lo,.int .i64 hi] w fun v w'=>v= .bool (!(inB n lo hi))∧Chg [] w w':=by
 refine cM (Sat.nil w M0) Tryz.func82 J (by simp[Tryz.ntmps82]) ?_;by_cases h1:n<lo
 ·(refine aD (aB (aA1 vq (aE (aD (aB (aA1 vq (aA1 vq (dU qE J J J qG (aA1 vq ?_)))))))));(iterate 3 refine aA3 zq ?_);refine aA1 vq (aA1 vq (aE (aQ ?_))))
  refine aA2 wq qF fun w hs=> ?_;exact⟨by simp[inB,eW];omega,hs.chg0⟩
 ·by_cases h2:n>hi
  ·(refine aD (aB (aA1 vq (aE (aD (aB (aA1 vq (aA1 vq (cS qE J J J qG (aA1 vq (aC J (aA1 vq ?_)))))))))));refine aC J (aA1 vq (aC J (aB4 yq qG (aA1 vq (aA1 vq (aE (aQ ?_))))))))
   refine aA2 wq qF fun w hs=> ?_;exact⟨by simp[inB,eW];omega,hs.chg0⟩
  ·(refine aD (aB (aA1 vq (aE (aD (aB (aA1 vq (aA1 vq (cS qE J J J qG (aA1 vq (aC J (aA1 vq ?_)))))))))));refine aC J (aA1 vq (aC J (aB3 yq qG (aA1 vq (aA1 vq (aE (aQ ?_))))))))
   refine aA2 wq qF fun w hs=> ?_;exact⟨by simp[inB,eW];omega,hs.chg0⟩
theorem kC(w:World)(lo hi:Nat)(l:Lb)(v:Value)(h:RdR w lo hi v l.runs)(he:0≤l.err∧l.err≤1000)(i:Nat)(hi':i<l.runs.length)(hr: -10000≤l.runs[i].lead) :
  Ca Tryz.prog 84 [.agg (lbC l v).toArray,.int .i64 i] w fun x w'=>x= .tuple #[.int .i64 (shR l.err l.runs[i]).1,.int .i64 (shR l.err l.runs[i]).2]∧Chg [] w w':=by
 obtain⟨a,ca,rfl,hsa⟩:=RdR.outI h;obtain⟨b,off,rfl⟩:=hsa qG;refine cM (Sat.nil w M0) Tryz.func84 J (by simp[Tryz.ntmps84]) ?_;(refine aD (aB ?_));refine bN J J (fun b2=> ?_);(refine aA1 vq (aA1 vq (aE (aD (aB (aA1 vq ?_)))));refine aL qE J J J ?_;refine aA1 vq ?_);refine aA5 uq qG qG ?_;refine eJ qE J J J J (fun w hs=>RdR.at (RdE.keep h hs.chg0) i hi') ?_;refine bJ zero125 J (fun b6=> ?_);(refine aA6 uq qF J ?_;refine aE (aD (aD (aB (aA1 vq ?_))));refine aL qE J J J ?_;refine aA1 vq ?_;refine aL qE J J J ?_;refine aA1 vq (aE ?_));refine cP J (fun hc=> ?_) (fun hc=> ?_)
 ·(refine aD ?_)
  refine bY _ [] (Sp.refl _) qI qI ?_;(refine aB2 yq ?_;refine aX qE J J J ?_;refine aB2 yq ?_;refine aX qE J J J ?_;refine aB2 yq (aB2 yq (aT (aQ ?_))));refine aA2 wq qF fun w hs=> ?_;exact⟨by simp[eW,shR,lH,hc],hs.chg0⟩
 ·have h1:=hc;clear hc;(refine aJ (aD (aD (aB (aA1 vq ?_))));refine aL qE J J J ?_;refine ql_neg qE J J qG qG (aA1 vq ?_);refine aL qE J J J ?_;refine aA1 vq (aE ?_));refine cP J (fun hc=> ?_) (fun hc=> ?_)
  ·have h2:l.runs[i].lead< -l.err:=by omega
   (refine aD ?_)
   refine bY _ [] (Sp.refl _) qI qI ?_;(refine aB2 yq ?_;refine aX qE J J J ?_;refine aB2 yq ?_;refine aX qE J J J ?_;refine aB2 yq (aB2 yq (aT (aQ ?_))));refine aA2 wq qF fun w hs=> ?_;exact⟨by simp[eW,shR,lH,h1,h2],hs.chg0⟩
  ·have h2:¬l.runs[i].lead< -l.err:=by omega
   (refine aJ (aD (aB (aA1 vq (aA1 vq (aE (aQ ?_)))))))
   refine aA2 wq qF fun w hs=> ?_;exact⟨by simp[eW,shR,lH,h1,h2],hs.chg0⟩
theorem kS{α:Type}(p:α→Bool)(l:List α){i:Nat}(hi:i<l.length)(h:(l.take i).all p=true)(hx:p l[i]=true):(l.take (i+1)).all p=true:=by
 rw[←List.take_append_getElem hi,List.all_append,h];simp[hx]
theorem fN{α:Type}(p:α→Bool)(l:List α){i:Nat}(hi:i<l.length)(hx:p l[i]=false):l.all p=false:=by
 rw[List.all_eq_false];exact⟨l[i],List.getElem_mem hi,by rw[hx];simp⟩
theorem lX(w:World)(lo hi:Nat)(l:Lb)(v:Value)(h:RdR w lo hi v l.runs)(hlen:l.runs.length≤maxLen):Ca Tryz.prog 19 [.agg (lbC l v).toArray] w fun x w'=>x= .int .i64 (cG l)∧Chg [] w w':=by
 obtain⟨a,ca,rfl,hsa⟩:=RdR.outI h;simp only[maxLen] at hlen;refine cM (Sat.nil w M0) Tryz.func19 J (by simp[Tryz.ntmps19]) ?_;(refine aD (aB ?_));refine bN J J (fun b1=> ?_);rw[bG];(refine aA1 vq (aE (aD (aD (aB (aA1 vq ?_)))));refine aL qE J J J ?_);refine aI (val:= .bool (!(inB l.skis 1 8))) qE J J J J (fun w hs=> ?_) ?_;exact fS l.skis 1 8 w;have ec:∀x:Bool,(!x)=false→x=true:=fun x=>by cases x<;>simp
 cases h1:inB l.skis 1 8 with
 | false=>
  (refine aA1 vq ?_;(iterate 3 refine aA3 zq ?_);refine aA1 vq (aE (aH J (aD (aB (aA1 vq (aE (aQ ?_))))))))
  refine aA2 wq qF fun w hs=> ?_;exact⟨by simp[eW,cG,h1],hs.chg0⟩
 | true=>
  (refine aA1 vq (aC J (aA1 vq (aC J ?_)));refine aL qE J J J ?_;refine aC J ?_)
  refine aI (val:= .bool (!(inB l.err 0 1000))) qE J J J J (fun w hs=> ?_) ?_;exact fS l.err 0 1000 w;cases h2:inB l.err 0 1000 with
  | false=>
   (refine aA1 vq (aE (aH J (aD (aB (aA1 vq (aE (aQ ?_))))))))
   refine aA2 wq qF fun w hs=> ?_;exact⟨by simp[eW,cG,h1,h2],hs.chg0⟩
  | true=>
   have hsk:=bX.1 h1;(refine aA1 vq (aE (aF J (aJ (aD (aD (aB (aA1 vq ?_)))))));refine aL qE J J J ?_;refine aA1 vq (aA1 vq (aE ?_)));refine cP J (fun hc=> ?_) (fun hc=> ?_)
   ·have h3:40<l.runs.length:=by omega
    (refine aD (aB (aA1 vq (aE (aQ ?_)))))
    refine aA2 wq qF fun w hs=> ?_;exact⟨by simp[eW,cG,h1,h2,h3],hs.chg0⟩
   ·have h3:¬40<l.runs.length:=by omega
    clear hc;(refine aJ (aD (aD (aB (aA1 vq (aE (aK ?_)))))));refine bD (σ:=Nat) (fun k=>k≤l.runs.length∧(l.runs.take k).all (knP l.skis)=true) (fun k=>l.runs.length-k) (fun k=>[(1,aB8 b1),(3,.int .i64 k)]) (fun _=>[.pt b1 (lbC l (.slice a l.runs.length ca)) 53]) 0 ⟨by omega,by simp⟩ ⟨J,J,trivial⟩ qF ?_;rintro k ⟨hk,hall⟩ K hK;(refine aD (aD (aB (aA1 vq (aA1 vq ?_))));refine aL qE J J J ?_;refine aA1 vq (aA1 vq (aE ?_)));refine cP J (fun hc=> ?_) (fun hc=> ?_)
    ·have hk2:k<l.runs.length:=by omega
     clear hc;obtain⟨b,off,hab⟩:=hsa qG;cases hab
     (refine aJ (aD (aK (aD (aB (aA1 vq ?_)))));refine aL qE J J J ?_;refine aA1 vq ?_)
     refine aA5 uq qG qG ?_;refine eJ qE J J J J (fun w hs=>RdR.at (RdE.keep h hs.chg0) k hk2) ?_;refine bJ zero125 J (fun b4=> ?_);(refine aA6 uq qF J ?_;refine aE (aD (aB (aA1 vq ?_)));refine aL qE J J J ?_;refine aA1 vq ?_;refine aL qE J J J ?_;refine aA4 xq qG qG ?_);refine aI (val:= .bool (!(inB l.runs[k].a 0 (l.skis-1)))) qE J J J J (fun w hs=> ?_) ?_;exact fS l.runs[k].a 0 (l.skis-1) w;cases ha:inB l.runs[k].a 0 (l.skis-1) with
     | false=>
      have hkn:knP l.skis l.runs[k]=false:=by unfold knP;simp_all
      (refine aA1 vq ?_;(iterate 6 refine aA3 zq ?_);refine aA1 vq (aA1 vq ?_);(iterate 5 refine aA3 zq ?_);refine aA1 vq (aE (aH J (aD (aB (aA1 vq (aE (aQ ?_))))))))
      refine aA2 wq qF fun w hs=> ?_;have hbad:knownB l=false:=fN _ _ hk2 hkn
      exact⟨by simp[eW,cG,h1,h2,h3,hbad],hs.chg0⟩
     | true=>
      (refine aA1 vq (aC J (aA1 vq (aC J ?_)));refine aL qE J J J ?_;refine aC J (aA1 vq (aC J ?_));refine aL qE J J J ?_;refine aC J (aA4 xq qG qG (aC J ?_)))
      refine aI (val:= .bool (!(inB l.runs[k].b 0 (l.skis-1)))) qE J J J J (fun w hs=> ?_) ?_;exact fS l.runs[k].b 0 (l.skis-1) w;cases hb:inB l.runs[k].b 0 (l.skis-1) with
      | false=>
       have hkn:knP l.skis l.runs[k]=false:=by unfold knP;simp_all
       (refine aA1 vq (aA1 vq ?_);(iterate 5 refine aA3 zq ?_);refine aA1 vq (aE (aH J (aD (aB (aA1 vq (aE (aQ ?_))))))))
       refine aA2 wq qF fun w hs=> ?_;have hbad:knownB l=false:=fN _ _ hk2 hkn
       exact⟨by simp[eW,cG,h1,h2,h3,hbad],hs.chg0⟩
      | true=>
       by_cases hab:l.runs[k].a=l.runs[k].b
       ·have hkn:knP l.skis l.runs[k]=false:=by unfold knP;simp_all
        (refine aA1 vq (aA1 vq (aC J (aA1 vq (aC J ?_))));refine aL qE J J J ?_;refine aC J (aA1 vq (aC J ?_));refine aL qE J J J ?_;refine aC J (aA8 yq qG (aA1 vq (aE (aH J (aD (aB (aA1 vq (aE (aQ ?_))))))))))
        refine aA2 wq qF fun w hs=> ?_;have hbad:knownB l=false:=fN _ _ hk2 hkn
        exact⟨by simp[eW,cG,h1,h2,h3,hbad],hs.chg0⟩
       ·have hkn:knP l.skis l.runs[k]=true:=by unfold knP;simp[ha,hb,hab]
        (refine aA1 vq (aA1 vq (aC J (aA1 vq (aC J ?_))));refine aL qE J J J ?_;refine aC J (aA1 vq (aC J ?_));refine aL qE J J J ?_;refine aC J (aA9 yq qG (aA1 vq (aE (aF J (aJ (aW (aB (aA1 vq (aA4 xq qG qG (aA1 vq (aE ?_))))))))))))
        exact hK (k+1) _ _ ⟨by omega,kS _ _ hk2 hall hkn⟩ qG ⟨J,J,trivial⟩ qF
    ·obtain rfl:k=l.runs.length:=by omega
     clear hc hK hk;rw[List.take_length] at hall;have hkb:knownB l=true:=hall;(refine aZ _ J (aD (aD (aB (aA1 vq (aE (aK ?_)))))));refine bD (σ:=Nat) (fun k=>k≤l.runs.length∧(l.runs.take k).all (fun r=>inB r.lead (-10000) 10000)=true) (fun k=>l.runs.length-k) (fun k=>[(1,aB8 b1),(5,.int .i64 k)]) (fun _=>[.pt b1 (lbC l (.slice a l.runs.length ca)) 53]) 0 ⟨by omega,by simp⟩ ⟨J,J,trivial⟩ qF ?_;rintro k ⟨hk,hall2⟩ K hK;(refine aD (aD (aB (aA1 vq (aA1 vq ?_))));refine aL qE J J J ?_;refine aA1 vq (aA1 vq (aE ?_)));refine cP J (fun hc=> ?_) (fun hc=> ?_)
     ·have hk2:k<l.runs.length:=by omega
      clear hc;obtain⟨b,off,hab⟩:=hsa qG;cases hab
      (refine aJ (aD (aK (aD (aB (aA1 vq ?_)))));refine aL qE J J J ?_;refine aA1 vq ?_)
      refine aA5 uq qG qG ?_;(refine aA1 vq ?_);refine bC (v:= .int .i64 l.runs[k].lead) qE J J J (fun w hs=>RdR.at (RdE.keep h hs.chg0) k hk2 2 qG) ?_;refine aI (val:= .bool (!(inB l.runs[k].lead (-10000) 10000))) qE J J J J (fun w hs=> ?_) ?_;exact fS l.runs[k].lead (-10000) 10000 w;cases hx:inB l.runs[k].lead (-10000) 10000 with
      | false=>
       (refine aE (aH J (aD (aB (aA1 vq (aE (aQ ?_)))))))
       refine aA2 wq qF fun w hs=> ?_;have hbad:leadB l=false:=fN (fun r:Rn=>inB r.lead (-10000) 10000) _ hk2 hx
       exact⟨by simp[eW,cG,h1,h2,h3,hkb,hbad],hs.chg0⟩
      | true=>
       (refine aE (aF J (aJ (aW (aB (aA1 vq (aA4 xq qG qG (aA1 vq (aE ?_)))))))))
       exact hK (k+1) _ _ ⟨by omega,kS _ _ hk2 hall2 hx⟩ qG ⟨J,J,trivial⟩ qF
     ·obtain rfl:k=l.runs.length:=by omega
      rw[List.take_length] at hall2;have hlb:leadB l=true:=hall2;(refine aZ _ J (aD (aB (aA1 vq (aE (aQ ?_))))));refine aA2 wq qF fun w hs=> ?_
      exact⟨by simp[eW,cG,h1,h2,h3,hkb,hlb],hs.chg0⟩
abbrev bagV(b2 b6 b8:Nat):Value:= .func (.func 113) #[] #[aB8 b2,aB8 b6,aB8 b8]
structure BagE(w:World)(b2 b6 b8:Nat)(l R:List (List Int))(most:Int):Prop where
 h2:∃t a c lo hi,Blk w b2 [.slice a l.length c] t∧RdII w lo hi (.slice a l.length c) l
 h6:∃t a c lo hi,Blk w b6 [.slice a R.length c] t∧RdW w lo hi (.slice a R.length c) most R
 h8:∃t,Blk w b8 [bagV b2 b6 b8] t
theorem BagE.keep{w w':World}{b2 b6 b8:Nat}{l R:List (List Int)}{most:Int}(h:BagE w b2 b6 b8 l R most)(c:Chg [] w w'):BagE w' b2 b6 b8 l R most:=by
 obtain⟨t,a,c2,lo,hi,h1,h2⟩:=h.h2;obtain⟨t',a',c2',lo',hi',h1',h2'⟩:=h.h6;obtain⟨t8,h8⟩:=h.h8;exact⟨⟨t,a,c2,lo,hi,h1.keep c,RdII.keep h2 c⟩,⟨t',a',c2',lo',hi',h1'.keep c,h2'.keep c⟩,⟨t8,h8.keep c⟩⟩
theorem chI_snoc(ch:List Nat)(x:Nat):bF (chI ch++[(x:Int)])=bF (chI ch)++[.int .i64 (x:Int)]:=by simp[bF]
theorem chI_app(ch:List Nat)(x:Nat):chI (ch++[x])=chI ch++[(x:Int)]:=by simp[chI]
def tK31_cfbf5ab:OT:= .alt (bO [1,2,3,4,5,0,6,7,8,9] (.nil)) (bO [3,4,1,2,5,0,6,7,8,9] (.nil))
theorem bagc_ca(b2 b6 b8:Nat)(l:List (List Int))(n:Nat)(most:Int)(hl:TabOk l n):∀(k:Nat) (ch:List Nat),Inc l.length ch→1≤ch.length+k→k≤12→∀(w:World) (lo hi:Nat) (v:Value),BagE w b2 b6 b8 l (cA l n) most→RdI w lo hi v (chI ch)→
  Ca Tryz.prog 113 [v,.int .i64 k,aB8 b2,aB8 b6,aB8 b8] w fun r w'=>∃u:Value,(r=u∧(cE (iR (cA l n) most n) l.length k ch=none→u= .slice none 0 0))∧Sat w M0 [.ow u 3 1 ((cE (iR (cA l n) most n) l.length k ch).getD []).length (bF (chI ((cE (iR (cA l n) most n) l.length k ch).getD [])))] w':=by
 intro k;have hl1:=hl.l1;have hl2:=hl.l2;have hn1:=hl.n1;have hn2:=hl.n2;have hRl:=dS l n;have hRn:∀row∈cA l n,row.length=n:=fun row hr=>by obtain⟨i,hi,rfl⟩:=List.mem_iff_getElem.1 hr;exact reg_row _
 have hrow:∀i (hi:i<l.length),l[i].length=n:=fun i hi=>hl.len _ (List.getElem_mem _)
 induction k with
 | zero=>
  intro ch hI h1 hk w lo hi v hE hv;obtain⟨t2,a2,c2,lo2,hi2,hb2,hr2⟩:=hE.h2;obtain⟨t6,a6,c6,lo6,hi6,hb6,hr6⟩:=hE.h6;obtain⟨_,_,e0,ha2⟩:=RdII.outI hr2;cases e0
  obtain⟨ab,ao,rfl⟩:=ha2 qG;obtain⟨a0,o0,c0,hr0,hc0⟩:=RdII.rowS hr2 0 qG (hrow 0 qG) qG;have hcl:=inc_len hI;refine cM (Sat.nil w M0) Tryz.func113 J (by simp[Tryz.ntmps113]) ?_;(refine aD (aB (aA1 vq (aE (aD (aD (aB (aA1 vq (aA8 yq qG (aE (aH J (aD ?_)))))))))));refine aD (aB ?_);refine fB qE J J J (by assumption) (by rfl) ?_);refine aA5 uq qG qG ?_;refine bC qE J J J (fun w hs=>hc0 _ hs.chg0) ?_;(refine aA1 vq (aA1 vq (aE (aK ?_))));refine bD (σ:=Nat) (fun s=>s≤n∧∀t,t<s→∃x∈ch,((cA l n).getD x []).getD t 0≤most) (fun s=>n-s) (fun s=>[(0,v),(3,aB8 b6),(17,.int .i64 n),(18,.int .i64 s)]) (fun _=>[]) 0 ⟨by omega,fun t ht=>by omega⟩ ⟨J,J,J,J,trivial⟩ qF ?_;rintro s ⟨hs1,hcv⟩ K hK;(refine aD (aB (aA1 vq (aE (aD ?_)))));refine cP J (fun hc=> ?_) (fun hc=> ?_)
  ·have hs2:s<n:=by omega
   clear hc;(refine aJ (aD (aK (aD (aB (aA1 vq ?_))))));refine bJ zero3 J (fun b9=> ?_);(refine gE qE J J J J qF ?_;refine aE (aD (aB (aA1 vq (aA1 vq ?_)))));refine aI (val:= .bool (ch.any fun x=>decide (((cA l n).getD x []).getD s 0≤most))) qE J J J J (fun w hs=> ?_) ?_;exact by have:=conF_int w lo hi v _ (bF (chI ch)) _ (RdE.keep hv hs.chg0) (by intro i hi;simp[bF,dA]) (by simp[bF,chI];omega) (bag2_p w lo6 hi6 b6 b9 t6 _ s n a6 c6 most (cA l n) ch (hb6.keep hs.chg0) (hs.blk (b:=b9) qF) (hr6.keep hs.chg0) (fun x hx=>by rw[hRl];exact hI.2 x hx) hRn hs2 qG);rw[pGd_any] at this;exact this
   cases hany:ch.any fun x=>decide (((cA l n).getD x []).getD s 0≤most) with
   | true=>
    obtain⟨x,hx,hx2⟩:=List.any_eq_true.1 hany;(refine aA1 vq (aE (aF J (aJ (aW (aB (aA4 xq qG qG (aA1 vq (aE ?_)))))))))
    exact hK (s+1) _ _ ⟨by omega,fun t ht=>by
     by_cases e:t=s
     ·subst e;exact⟨x,hx,of_decide_eq_true hx2⟩
     ·exact hcv t qG⟩ qG ⟨J,J,J,J,trivial⟩ qF
   | false=>
    have hcf:iR (cA l n) most n ch=false:=Bool.eq_false_iff.2 fun h=>by
     obtain⟨x,hx,hx2⟩:=cov_iff.1 h s hs2;have:=List.any_eq_false.1 hany x hx;exact this (decide_eq_true hx2)
    have hch:cE (iR (cA l n) most n) l.length 0 ch=none:=by rw[cE,if_neg (by rw[hcf];simp)]
    rw[hch];(refine aA1 vq (aE (aH J (aD (aB (aA1 vq (aE (aQ ?_))))))));refine aA2 wq qF fun w hs=> ?_
    exact⟨_,⟨J,fun _=>J⟩,by have:=Sat.ownil (hs.sp (H':=[]) qF) 3 1;simpa[bF,chI,eW] using this⟩
  ·obtain rfl:s=n:=by omega
   have hct:iR (cA l s) most s ch=true:=cov_iff.2 hcv;have hch:cE (iR (cA l s) most s) l.length 0 ch=some ch:=by rw[cE,if_pos hct]
   rw[hch];(refine aZ _ J (aD (aB (aA1 vq ?_))));refine bB (β:=Value) qE [] _ M0 J J J J (Sp.refl _) qJ (fun w' hs=>sclone_ca w' lo hi v (chI ch) (RdE.keep hv hs.chg0) (by rw[bT];omega)) ?_;rintro u _ rfl;dsimp only[List.cons_append,List.nil_append];rw[bT];(refine aA1 vq (aE (aQ ?_)));refine aA2 wq qF fun w hs=> ?_
   exact⟨_,⟨rfl,fun h=>by cases h⟩,hs.sp qF⟩
 | succ k ih=>
  intro ch hI h1 hk w lo hi v hE hv;obtain⟨t2,a2,c2,lo2,hi2,hb2,hr2⟩:=hE.h2;obtain⟨t6,a6,c6,lo6,hi6,hb6,hr6⟩:=hE.h6;obtain⟨t8,hb8⟩:=hE.h8;have hcl:=inc_len hI;obtain⟨va,vc,rfl,hva⟩:=RdI.outI hv;rw[bT] at hva hv ⊢
  have hfst:fstB ch≤l.length:=by
   rcases List.eq_nil_or_concat ch with rfl|⟨c,z,rfl⟩
   ·exact Nat.zero_le _
   ·rw[List.concat_eq_append] at hI ⊢;rw[fst_snoc];have:=hI.2 z (by simp);omega
  refine cM (Sat.nil w M0) Tryz.func113 J (by simp[Tryz.ntmps113]) ?_;(refine aD (aB (aA1 vq (aE (aD (aD (aB (aA1 vq (aA9 yq qG (aE (aF J (aJ ?_)))))))))));refine aD (aB (aA1 vq (aE (aD (aD (aB ?_))))));(iterate 3 refine aA1 vq ?_);refine aE ?_);refine kL (σ:=Unit) (fun _=>[(0,.slice va ch.length vc),(1,.int .i64 (k+1:Nat)),(3,aB8 b6),(4,aB8 b8),(9,.int .i64 (fstB ch))]) (fun _=>[]) ?_ ?_;rotate_left
  ·intro K2 hK2;refine cP J (fun hc=> ?_) (fun hc=> ?_)
   ·have hc0:0<ch.length:=by omega
    clear hc;obtain⟨ab,ao,rfl⟩:=hva hc0;have hgt:chI ch=(chI ch):=rfl;have hlast:(chI ch)[ch.length-1]'(by rw[bT];omega)=((ch[ch.length-1]:Nat):Int):=by simp[chI]
    have hfl:fstB ch=ch[ch.length-1]+1:=by
     rcases List.eq_nil_or_concat ch with rfl|⟨c,z,rfl⟩
     ·simp at hc0
     ·simp[fstB]
    have hzb:=hI.2 _ (List.getElem_mem (show ch.length-1<ch.length by omega));(refine aB ?_;(iterate 3 refine aA1 vq ?_);refine aA4 xq qG qG ?_);refine aA5 uq qG qG ?_
    refine bC (v:= .int .i64 (ch[ch.length-1]:Nat)) qE J J J (fun w hs=>by
     have:=RdI.at (RdE.keep hv hs.chg0) (ch.length-1) (by rw[bT];omega);rw[hlast] at this;rw[show((ch.length:Int)-1).toNat=ch.length-1 from by omega];exact this) ?_
    (refine aA4 xq qG qG (aA1 vq (aE ?_)))
    exact hK2 () _ _ ⟨J,J,J,J,dI J qG,trivial⟩ qF
   ·have hce:ch=[]:=List.length_eq_zero_iff.1 qG;clear hc;have hfl:fstB ch=0:=by rw[hce];rfl
    (refine aJ ?_)
    exact hK2 () _ _ ⟨J,J,J,J,dI J qG,trivial⟩ qF
  intro _;(refine aD (aD (aB (aA1 vq (aA1 vq (aE (aK ?_)))))))
  have hstep:∀x,x<l.length→tryF (fun y=>cE (iR (cA l n) most n) l.length k (ch++[y])) (l.length-x) x=match cE (iR (cA l n) most n) l.length k (ch++[x]) with
    | some o=>some o
    | none=>tryF (fun y=>cE (iR (cA l n) most n) l.length k (ch++[y])) (l.length-(x+1)) (x+1):=fun x hx=>by
   rw[show l.length-x=(l.length-(x+1))+1 from by omega,tryF];cases cE (iR (cA l n) most n) l.length k (ch++[x])<;>rfl
  refine bD (σ:=Nat) (fun x=>fstB ch≤x∧x≤l.length∧cE (iR (cA l n) most n) l.length (k+1) ch=tryF (fun y=>cE (iR (cA l n) most n) l.length k (ch++[y])) (l.length-x) x) (fun x=>l.length-x) (fun x=>[(0,.slice va ch.length vc),(1,.int .i64 (k+1:Nat)),(3,aB8 b6),(4,aB8 b8),(10,.int .i64 x)]) (fun _=>[]) (fstB ch) ⟨Nat.le_refl _,hfst,J⟩ ⟨J,J,J,J,J,trivial⟩ qF ?_;rintro x ⟨hx1,hx2,hx3⟩ K hK;(refine aD (aD (aB (aA1 vq ?_)));refine fB qE J J J (by assumption) (by rfl) ?_;refine aA1 vq (aA1 vq (aE ?_)));refine cP J (fun hc=> ?_) (fun hc=> ?_)
  ·have hx4:x<l.length:=by omega
   clear hc;rw[hstep x hx4] at hx3;(refine aJ (aD ?_));refine aK (aD ?_);have hI2:Inc l.length (ch++[x]):=hI.snoc hx1 hx4;refine kL (σ:={u:Value//cE (iR (cA l n) most n) l.length k (ch++[x])=none→u= .slice none 0 0}) (fun u=>[(0,.slice va ch.length vc),(1,.int .i64 (k+1:Nat)),(3,aB8 b6),(4,aB8 b8),(10,.int .i64 x),(11,u.1)]) (fun u=>[.ow u.1 3 1 ((cE (iR (cA l n) most n) l.length k (ch++[x])).getD []).length (bF (chI ((cE (iR (cA l n) most n) l.length k (ch++[x])).getD [])))]) ?_ ?_;rotate_left
   ·intro K2 hK2;have ek:((k+1:Nat):Int)-1=(k:Int):=by omega
    refine jJ (tK31_cfbf5ab) _ [] (Sp.refl _) qI qI ?_;refine dC ?_ ?_
    ·refine bR qH fun K1 hK1=> ?_;(refine aB2 yq ?_)
     refine cW (β:=Value) qE [] _ M0 J J J J (Sp.refl _) qJ (fun w' hs=>sclone_ca w' lo hi _ (chI ch) (RdE.keep hv hs.chg0) (by rw[bT];omega)) ?_;rintro u2 _ rfl;dsimp only[List.cons_append,List.nil_append];rw[bT];(refine aB2 yq ?_);refine qB 3 [.int .i64 x] J qI J (fun bn=> ?_);refine fG (q:=1) (news:=[.int .i64 x]) slI J J J (fun v'=>by repeat constructor) (fun w' hs=>⟨_,_,Blk.rdN (hs.blk (b:=bn) qF) J⟩) (by simp[dA]) qG qG (fun u5=> ?_);(refine mZ qE J J J (by assumption) (by rfl) ?_;refine aB2 yq (aB6 xq qG qG ?_));rw[ek];refine qf_callF (β:=Value) (ψ:=fun u v=>v=u∧(cE (iR (cA l n) most n) l.length k (ch++[x])=none→u= .slice none 0 0)) (L':=fun u=>[.ow u 3 1 ((cE (iR (cA l n) most n) l.length k (ch++[x])).getD []).length (bF (chI ((cE (iR (cA l n) most n) l.length k (ch++[x])).getD [])))]) [] [.ow u5 3 1 (ch.length+1) (bF (chI ch)++[.int .i64 x])] M0 J J J qF qJ (fun w' hs=>CaF.of qE qI (ih (ch++[x]) hI2 (by rw[List.length_append,List.length_singleton];omega) qG w' 0 w'.heap.size u5 (hE.keep hs.chg0) (eX (t:=3) (by rw[chI_app,chI_snoc];exact hs.mem (c:= .ow u5 3 1 (ch.length+1) (bF (chI ch)++[.int .i64 x])) qF) (by rw[bT];simp)))) ?_;rintro u8 _ ⟨rfl,hu8⟩;(refine aB2 yq (aT ?_));exact hK1 _ _ (iK (hK2 ⟨_,hu8⟩ _ _ ⟨J,J,J,J,J,J,trivial⟩ qF))
    ·refine bR qH fun K1 hK1=> ?_;(refine aB2 yq ?_)
     refine qB 3 [.int .i64 x] J qI J (fun bn=> ?_);(refine aB2 yq ?_);refine cW (β:=Value) qE [] _ M0 J J J J (Sp.refl _) qJ (fun w' hs=>sclone_ca w' lo hi _ (chI ch) (RdE.keep hv hs.chg0) (by rw[bT];omega)) ?_;rintro u2 _ rfl;dsimp only[List.cons_append,List.nil_append];rw[bT];refine fG (q:=1) (news:=[.int .i64 x]) slI J J J (fun v'=>by repeat constructor) (fun w' hs=>⟨_,_,Blk.rdN (hs.blk (b:=bn) qF) J⟩) (by simp[dA]) qG qG (fun u5=> ?_);(refine mZ qE J J J (by assumption) (by rfl) ?_;refine aB2 yq (aB6 xq qG qG ?_));rw[ek];refine qf_callF (β:=Value) (ψ:=fun u v=>v=u∧(cE (iR (cA l n) most n) l.length k (ch++[x])=none→u= .slice none 0 0)) (L':=fun u=>[.ow u 3 1 ((cE (iR (cA l n) most n) l.length k (ch++[x])).getD []).length (bF (chI ((cE (iR (cA l n) most n) l.length k (ch++[x])).getD [])))]) [] [.ow u5 3 1 (ch.length+1) (bF (chI ch)++[.int .i64 x])] M0 J J J qF qJ (fun w' hs=>CaF.of qE qI (ih (ch++[x]) hI2 (by rw[List.length_append,List.length_singleton];omega) qG w' 0 w'.heap.size u5 (hE.keep hs.chg0) (eX (t:=3) (by rw[chI_app,chI_snoc];exact hs.mem (c:= .ow u5 3 1 (ch.length+1) (bF (chI ch)++[.int .i64 x])) qF) (by rw[bT];simp)))) ?_;rintro u8 _ ⟨rfl,hu8⟩;(refine aB2 yq (aT ?_));exact hK1 _ _ (iK (hK2 ⟨_,hu8⟩ _ _ ⟨J,J,J,J,J,J,trivial⟩ qF))
   rintro⟨u,hu⟩;dsimp only;cases hcf:cE (iR (cA l n) most n) l.length k (ch++[x]) with
   | none=>
    rw[hcf] at hx3;obtain rfl:=hu hcf;(refine aD (aB (aA1 vq ?_)));refine jQ qE J J J J ?_;(refine aE (aF J (aJ (aW (aB (aA1 vq (aA4 xq qG qG (aA1 vq (aE ?_)))))))));exact hK (x+1) _ _ ⟨by omega,by omega,hx3⟩ qG ⟨J,J,J,J,J,trivial⟩ qF
   | some o=>
    rw[hcf] at hx3;have hol:=(gD k _ o hI2 hcf).2.1;rw[List.length_append,List.length_singleton] at hol;refine dO (fun w hs=>hs.ownSome (v:=u) qF (by simp only[Option.getD_some];omega)) ?_;rintro⟨g,gc,rfl⟩;(refine aD (aB (aA1 vq ?_)));refine jQ qE J J J J ?_;rw[hx3];(refine aE (aH J (aD (aB (aA1 vq (aA1 vq (aE (aQ ?_))))))));refine aA2 wq qF fun w hs=> ?_
    exact⟨_,⟨rfl,fun h=>by cases h⟩,hs.sp qF⟩
  ·obtain rfl:x=l.length:=by omega
   rw[Nat.sub_self] at hx3;have hx5:cE (iR (cA l n) most n) l.length (k+1) ch=none:=hx3;rw[hx5];(refine aZ _ J (aD (aB (aA1 vq (aE (aQ ?_))))));refine aA2 wq qF fun w hs=> ?_
   exact⟨_,⟨J,fun _=>J⟩,by have:=Sat.ownil (hs.sp (H':=[]) qF) 3 1;simpa[bF,chI,eW] using this⟩
theorem bag_no(w:World)(lo hi:Nat)(v:Value)(l:List (List Int))(most:Int)(h:RdII w lo hi v l)(hne:cJ l most≠0):Ca Tryz.prog 55 [v,.int .i64 most] w fun x w'=>x= .tuple #[.slice none 0 0,.int .i64 (cJ l most)]∧Chg [] w w':=by
 obtain⟨va,c,rfl,ha⟩:=RdII.outI h;refine cM (Sat.nil w M0) Tryz.func55 J (by simp[Tryz.ntmps55]) ?_;(refine aD (aB ?_));refine bN J J (fun b2=> ?_);(refine aA1 vq (aA1 vq (aE (aD (aB ?_))));refine aL qE J J J ?_;refine aA1 vq ?_);refine aI (val:= .tuple #[.slice none 0 0,.int .i64 (cJ l most)]) qE J J J J (fun w hs=> ?_) ?_;exact limited_no w lo hi _ l most (RdII.keep h hs.chg0) hne;(refine aA1 vq (aA7 yq (aA7 yq ?_)));refine bJ zero159 J (fun b6=> ?_);(refine gE qE J J J J qF ?_;refine aA1 vq (aE (aD (aD (aB (aA1 vq (aB0 yq qG (aE (aH J (aD (aB ?_))))))))));(iterate 3 refine aA1 vq ?_);refine aE (aQ ?_));refine aA2 wq qF fun w hs=> ?_
 exact⟨J,hs.chg0⟩
theorem bag_ok(w:World)(lo hi:Nat)(v:Value)(l:List (List Int))(most:Int)(n:Nat)(h:RdII w lo hi v l)(hl:TabOk l n)(hm:0≤most)(hm2:most≤10000)(out:List Nat)(ho:bagF (iR (cA l n) most n) l.length=some out):Ca Tryz.prog 55 [v,.int .i64 most] w fun x w'=>∃u:Value,x= .tuple #[u,.int .i64 0]∧Sat w M0 [.ow u 3 1 out.length (bF (chI out))] w':=by
 have hnV:nV l=n:=hl.v.2;have he:cJ l most=0:=eA.2 ⟨by rw[hnV];exact hl,hm,hm2⟩;have hl1:=hl.l1;have hl2:=hl.l2;obtain⟨va,c,rfl,ha⟩:=RdII.outI h;refine cM (Sat.nil w M0) Tryz.func55 J (by simp[Tryz.ntmps55]) ?_;(refine aD (aB ?_));refine bN J J (fun b2=> ?_);(refine aA1 vq (aA1 vq (aE (aD (aB ?_))));refine aL qE J J J ?_;refine aA1 vq ?_);refine bB (β:=Value×List (Value×List Int)) qE [] _ M0 J J J J (Sp.refl _) qJ (fun w' hs=>limited_ok w' lo hi _ l most (RdII.keep h hs.chg0) he) ?_;rintro⟨v6,xs⟩ _ ⟨rfl,hxs⟩;dsimp only[List.cons_append,List.nil_append] at hxs ⊢;rw[hnV] at hxs;refine bW (fun w hs=>hs.slice2 (v:=v6) qF) ?_;rintro⟨a6,c6,rfl⟩;(refine aA1 vq (aA7 yq (aA7 yq ?_)));refine bJ zero159 J (fun b6=> ?_);(refine gE qE J J J J qF ?_;refine aA1 vq (aE (aD (aD (aB (aA1 vq (aB1 yq qG (aE (aF J (aJ (aD (aB ?_))))))))))));refine bJ zero168 J (fun b8=> ?_);(refine aE (aD (aB (aA1 vq ?_)));refine gE qE J J J J qF ?_;refine aE (aD (aD (aB ?_)));refine aL qE J J J ?_;refine aA1 vq (aA1 vq (aE (aK ?_))))
 refine bD (σ:=Nat) (fun i=>i≤l.length∧bagF (iR (cA l n) most n) l.length=tryF (fun j=>cE (iR (cA l n) most n) l.length (j+1) []) (l.length-i) i) (fun i=>l.length-i) (fun i=>[(8,aB8 b8),(22,.int .i64 l.length),(23,.int .i64 i)])
  (fun _=>[.pt b2 [.slice va l.length c] 34,.pt b6 [.slice a6 l.length c6] 159,.pt b8 [bagV b2 b6 b8] 168,un (cF 3 xs),.ow (.slice a6 l.length c6) 162 2 l.length (wxC most xs)]) 0 ⟨by omega,rfl⟩ ⟨rfl,rfl,rfl,trivial⟩ qF ?_
 rintro i ⟨hi1,hi2⟩ K hK;(refine aD (aB (aA1 vq (aE (aD ?_)))));refine cP J (fun hc=> ?_) (fun hc=> ?_)
 ·have hi3:i<l.length:=by omega
  clear hc
  have hstep:tryF (fun j=>cE (iR (cA l n) most n) l.length (j+1) []) (l.length-i) i=match cE (iR (cA l n) most n) l.length (i+1) [] with
    | some o=>some o
    | none=>tryF (fun j=>cE (iR (cA l n) most n) l.length (j+1) []) (l.length-(i+1)) (i+1):=by
   rw[show l.length-i=(l.length-(i+1))+1 from by omega,tryF];cases cE (iR (cA l n) most n) l.length (i+1) []<;>rfl
  rw[hstep] at hi2;(refine aJ (aD (aK (aD (aB (aA1 vq (aA1 vq (aE (aD (aB ?_)))))))));refine aL qE J J J ?_;refine aA1 vq (aA4 xq qG qG ?_));rw[show(i:Int)+1=((i+1:Nat):Int) from by omega];refine gO (β:=Value) (ψ:=fun u v=>v=u∧(cE (iR (cA l n) most n) l.length (i+1) []=none→u= .slice none 0 0)) (L':=fun u=>[.ow u 3 1 ((cE (iR (cA l n) most n) l.length (i+1) []).getD []).length (bF (chI ((cE (iR (cA l n) most n) l.length (i+1) []).getD [])))]) [] _ M0 rfl rfl rfl (Sp.refl _) qJ (fun w' hs=>CaF.of qE qI (bagc_ca b2 b6 b8 l n most hl (i+1) [] ⟨List.Pairwise.nil,fun x hx=>by cases hx⟩ qG qG w' 0 w'.heap.size (.slice none 0 0) ⟨⟨_,va,c,lo,hi,hs.blk qF,RdII.keep h hs.chg0⟩,⟨_,a6,c6,0,w'.heap.size,by rw[dS];exact hs.blk (b:=b6) qF,by rw[dS,←hxs];exact wax_rd (t:=3) (t2:=162) (n:=l.length) (hs.mem (c:=un (cF 3 xs)) qF) (hs.mem (c:= .ow (.slice a6 l.length c6) 162 2 l.length (wxC most xs)) qF)⟩,⟨_,hs.blk (b:=b8) qF⟩⟩ (eX (t:=3) (own_nil w' 0 3 1) rfl))) ?_;rintro _ u ⟨rfl,hu⟩;dsimp only[List.cons_append,List.nil_append];cases hcf:cE (iR (cA l n) most n) l.length (i+1) [] with
  | none=>
   rw[hcf] at hi2;obtain rfl:=hu hcf;(refine aA1 vq (aE (aD (aB (aA1 vq ?_)))));refine jQ qE J J J J ?_;(refine aE (aF J (aJ (aW (aB (aA4 xq qG qG (aA1 vq (aE ?_))))))));exact hK (i+1) _ _ ⟨by omega,hi2⟩ qG ⟨J,J,J,trivial⟩ qF
  | some o=>
   rw[hcf] at hi2;have eo:o=out:=by rw[hi2] at ho;exact Option.some.inj ho
   subst eo;have hol:=(gD (i+1) [] o ⟨List.Pairwise.nil,fun x hx=>by cases hx⟩ hcf).2.1;refine bW (fun w hs=>hs.ownSome (v:=u) qF (by simp only[Option.getD_some];omega)) ?_;rintro⟨g,gc,rfl⟩;(refine aA1 vq (aE (aD (aB (aA1 vq ?_)))));refine jQ qE J J J J ?_;(refine aE (aH J (aD (aB ?_)));(iterate 3 refine aA1 vq ?_);refine aE (aQ ?_));refine aA2 wq qF fun w hs=> ?_
   exact⟨_,J,hs.sp qF⟩
 ·obtain rfl:i=l.length:=by omega
  rw[Nat.sub_self] at hi2;rw[hi2] at ho;cases ho
def rowB(n:Nat)(row:List Int):Bool:=inB row.length 1 20&&(decide (row.length=n)&&true)
def numB(row:List Int):Bool:=row.all fun n=>inB n 0 10000
theorem tab_bad1{l:List (List Int)}(h:inB l.length 1 12=false):cY l=2:=if_pos (by rw[h];rfl)
theorem tab_bad2{l:List (List Int)}(h:l.all (rowB (l.headD []).length)=false):cY l=2:=if_pos (by rw[show(l.all fun row=>inB row.length 1 20&&(decide (row.length=(l.headD []).length)&&true))=l.all (rowB (l.headD []).length) from rfl,h,Bool.and_false])
theorem tab_bad3{l:List (List Int)}(h1:inB l.length 1 12=true)(h2:l.all (rowB (l.headD []).length)=true)(h:l.all numB=false):cY l=3:=by
 unfold cY;rw[show(l.all fun row=>inB row.length 1 20&&(decide (row.length=(l.headD []).length)&&true))=l.all (rowB (l.headD []).length) from rfl,h1,h2,if_neg (by simp)];exact if_pos h
theorem tab_good{l:List (List Int)}(h1:inB l.length 1 12=true)(h2:l.all (rowB (l.headD []).length)=true)(h:l.all numB=true):cY l=0:=by
 unfold cY;rw[show(l.all fun row=>inB row.length 1 20&&(decide (row.length=(l.headD []).length)&&true))=l.all (rowB (l.headD []).length) from rfl,h1,h2,if_neg (by simp)];exact if_neg (by rw[show(l.all fun row=>row.all fun n=>inB n 0 10000)=l.all numB from rfl,h];simp)
theorem rtable_ca(w:World)(lo hi:Nat)(v:Value)(l:List (List Int))(h:RdII w lo hi v l)(hlen:l.length≤maxLen)(hrl:∀r∈l,r.length≤maxLen):Ca Tryz.prog 108 [v] w fun x w'=>x= .int .i64 (cY l)∧Chg [] w w':=by
 obtain⟨va,vc,rfl,hva⟩:=RdII.outI h;simp only[maxLen] at hlen hrl;refine cM (Sat.nil w M0) Tryz.func108 J (by simp[Tryz.ntmps108]) ?_;by_cases g1:l.length<1
 ·(refine aD (aB (aA1 vq (aE (aD (aD (aB (aA1 vq (aA1 vq (dU qE J J J qG (aA1 vq ?_))))))))));(iterate 3 refine aA3 zq ?_);refine aA1 vq (aE (aH J (aD (aB (aA1 vq (aE (aQ ?_))))))))
  refine aA2 wq qF fun w hs=> ?_;exact⟨by rw[tab_bad1 (by simp[inB];omega)];rfl,hs.chg0⟩
 by_cases g2:l.length>12
 ·(refine aD (aB (aA1 vq (aE (aD (aD (aB (aA1 vq (aA1 vq (cS qE J J J qG (aA1 vq (aC J ?_)))))))))));refine aA1 vq (aC J (aA1 vq (aC J (aB4 yq qG (aA1 vq (aE (aH J (aD (aB (aA1 vq (aE ?_)))))))))));refine aQ ?_)
  refine aA2 wq qF fun w hs=> ?_;exact⟨by rw[tab_bad1 (by simp[inB];omega)];rfl,hs.chg0⟩
 have hin:inB l.length 1 12=true:=bX.2 ⟨by omega,by omega⟩;obtain⟨vb,vo,rfl⟩:=hva qG;have h0l:0<l.length:=by omega
 obtain⟨a0,c0,hr0,hc0⟩:=RdII.row h 0 h0l
 have hn0:(l.headD []).length=l[0].length:=by
  cases l with
  | nil=>simp at h0l
  | cons x l=>rfl
 have hr0l:=hrl _ (List.getElem_mem h0l);(refine aD (aB (aA1 vq (aE (aD (aD (aB (aA1 vq (aA1 vq (cS qE J J J qG (aA1 vq (aC J ?_)))))))))));refine aA1 vq (aC J (aA1 vq (aC J (aB3 yq qG (aA1 vq (aE (aF J (aJ (aD (aD (aB ?_)))))))))));refine aA1 vq (aE (aK ?_)));refine bD (σ:=Nat) (fun k=>k≤l.length∧(l.take k).all (rowB (l.headD []).length)=true) (fun k=>l.length-k) (fun k=>[(0,.slice (some ⟨vb,vo,none⟩) l.length vc),(3,.int .i64 k)]) (fun _=>[]) 0 ⟨by omega,by simp⟩ ⟨J,J,trivial⟩ (Sp.refl _) ?_;rintro k ⟨hk,hall⟩ K hK;(refine aD (aD (aB ?_));(iterate 4 refine aA1 vq ?_);refine aE ?_);refine cP J (fun hc=> ?_) (fun hc=> ?_)
 ·have hk2:k<l.length:=by omega
  clear hc;obtain⟨a1,c1,hr1,hc1⟩:=RdII.row h k hk2;have hr1l:=hrl _ (List.getElem_mem hk2);(refine aJ (aD (aK (aD ?_))));refine bY _ [] (Sp.refl _) qI qI ?_;(refine aB2 yq (aB2 yq ?_));refine aB5 uq qG qG ?_;refine bA qE J J J (fun w hs=>hc1 _ hs.chg0) ?_;by_cases p1:l[k].length<1
  ·have hx:rowB (l.headD []).length l[k]=false:=by rw[hn0];simp[rowB,inB];omega
   have hbad:l.all (rowB (l.headD []).length)=false:=fN _ _ hk2 hx;(refine aB2 yq (mH qE J J J qG (aB2 yq ?_));(iterate 6 refine eF J J J ?_);refine aB2 yq (aB2 yq ?_);(iterate 10 refine eF J J J ?_);refine aB2 yq (aT (aH J (aD (aB (aA1 vq (aE (aQ ?_))))))));refine aA2 wq qF fun w hs=> ?_
   exact⟨by rw[tab_bad2 hbad];rfl,hs.chg0⟩
  ·(refine aB2 yq (jI qE J J J qG (aB2 yq (aN J (aB2 yq (aN J (aB2 yq (aN J ?_))))))))
   refine aB5 uq qG qG ?_;(refine aN J ?_);refine bA qE J J J (fun w hs=>hc1 _ hs.chg0) ?_;by_cases p2:l[k].length>20
   ·have hx:rowB (l.headD []).length l[k]=false:=by rw[hn0];simp[rowB,inB];omega
    have hbad:l.all (rowB (l.headD []).length)=false:=fN _ _ hk2 hx;(refine aN J (aB2 yq (aN J (jF qE J J J qG (aB2 yq (aB2 yq ?_)))));(iterate 10 refine eF J J J ?_);refine aB2 yq (aT (aH J (aD (aB (aA1 vq (aE (aQ ?_))))))));refine aA2 wq qF fun w hs=> ?_
    exact⟨by rw[tab_bad2 hbad];rfl,hs.chg0⟩
   ·(refine aN J (aB2 yq (aN J (jH qE J J J qG (aB2 yq (aB2 yq (aN J (aB2 yq (aN J (aB2 yq (aN J ?_)))))))))))
    refine aB5 uq qG qG ?_;(refine aN J ?_);refine bA qE J J J (fun w hs=>hc1 _ hs.chg0) ?_;(refine aN J (aB2 yq (aN J (aB2 yq (aN J ?_)))));refine aB5 uq qG qG ?_;(refine aN J ?_);refine bA qE J J J (fun w hs=>hc0 _ hs.chg0) ?_;by_cases p3:l[k].length=l[0].length
    ·have hx:rowB (l.headD []).length l[k]=true:=by rw[hn0];simp[rowB,inB];omega
     (refine aN J (aB2 yq (aN J (qf_neqF qE J J J qG (aB2 yq (aT (aF J (aJ (aW (aB (aA1 vq (aA4 xq qG qG ?_)))))))))));refine aA1 vq (aE ?_))
     exact hK (k+1) _ _ ⟨by omega,kS _ _ hk2 hall hx⟩ qG ⟨J,J,trivial⟩ (Sp.refl _)
    ·have hx:rowB (l.headD []).length l[k]=false:=by rw[hn0];simp[rowB,inB];omega
     have hbad:l.all (rowB (l.headD []).length)=false:=fN _ _ hk2 hx;(refine aN J (aB2 yq (aN J (qf_neqT qE J J J qG (aB2 yq (aT (aH J (aD (aB (aA1 vq (aE (aQ ?_))))))))))));refine aA2 wq qF fun w hs=> ?_
     exact⟨by rw[tab_bad2 hbad];rfl,hs.chg0⟩
 ·obtain rfl:k=l.length:=by omega
  rw[List.take_length] at hall;clear hc hK hk;(refine aZ _ J (aD (aD (aB (aA1 vq (aE (aK ?_)))))));refine bD (σ:=Nat) (fun k=>k≤l.length∧(l.take k).all numB=true) (fun k=>l.length-k) (fun k=>[(0,.slice (some ⟨vb,vo,none⟩) l.length vc),(4,.int .i64 k)]) (fun _=>[]) 0 ⟨by omega,by simp⟩ ⟨J,J,trivial⟩ (Sp.refl _) ?_;rintro k ⟨hk,hal2⟩ K hK;(refine aD (aD (aB ?_));(iterate 4 refine aA1 vq ?_);refine aE ?_);refine cP J (fun hc=> ?_) (fun hc=> ?_)
  ·have hk2:k<l.length:=by omega
   clear hc;obtain⟨a1,c1,hr1,hc1⟩:=RdII.row h k hk2;obtain⟨_,_,he1,hs1⟩:=RdI.outI hr1;have hr1l:=hrl _ (List.getElem_mem hk2);(refine aJ (aD (aK (aD (aB (aA1 vq (aE (aK ?_))))))));refine bD (σ:=Nat) (fun s=>s≤l[k].length∧(l[k].take s).all (fun n=>inB n 0 10000)=true) (fun s=>l[k].length-s) (fun s=>[(0,.slice (some ⟨vb,vo,none⟩) l.length vc),(4,.int .i64 k),(5,.int .i64 s)]) (fun _=>[]) 0 ⟨by omega,by simp⟩ ⟨J,J,J,trivial⟩ (Sp.refl _) ?_;rintro s ⟨hs2,hal3⟩ K2 hK2;(refine aD (aD (aB ?_));(iterate 3 refine aA1 vq ?_));refine aA5 uq qG qG ?_;refine bC qE J J J (fun w hs=>hc1 _ hs.chg0) ?_;(refine aA1 vq (aA1 vq (aE ?_)));refine cP J (fun hc=> ?_) (fun hc=> ?_)
   ·have hs3:s<l[k].length:=by omega
    clear hc;obtain⟨rb,ro,hab⟩:=hs1 qG;cases he1
    subst hab;(refine aJ (aD (aK (aD (aB (aA1 vq (aA1 vq ?_)))))));refine aA5 uq qG qG ?_;refine bC qE J J J (fun w hs=>hc1 _ hs.chg0) ?_;(refine aA1 vq ?_);refine aA5 uq qG qG ?_;refine bC (v:= .int .i64 l[k][s]) qE J J J (fun w hs=>RdI.at (RdE.keep hr1 hs.chg0) s hs3) ?_;refine aI (val:= .bool (!(inB l[k][s] 0 10000))) qE J J J J (fun w hs=> ?_) ?_;exact fS l[k][s] 0 10000 w;cases hx:inB l[k][s] 0 10000 with
    | false=>
     have hb1:numB l[k]=false:=fN _ _ hs3 hx;have hbad:l.all numB=false:=fN _ _ hk2 hb1;(refine aE (aH J (aD (aB (aA1 vq (aE (aQ ?_)))))));refine aA2 wq qF fun w hs=> ?_
     exact⟨by rw[tab_bad3 hin hall hbad];rfl,hs.chg0⟩
    | true=>
     (refine aE (aF J (aJ (aW (aB (aA1 vq (aA4 xq qG qG (aA1 vq (aE ?_)))))))))
     exact hK2 (s+1) _ _ ⟨by omega,kS _ _ hs3 hal3 hx⟩ qG ⟨J,J,J,trivial⟩ (Sp.refl _)
   ·obtain rfl:s=l[k].length:=by omega
    rw[List.take_length] at hal3;(refine aZ _ J (aW (aB (aA1 vq (aA4 xq qG qG (aA1 vq (aE ?_)))))));exact hK (k+1) _ _ ⟨by omega,kS _ _ hk2 hal2 hal3⟩ qG ⟨J,J,trivial⟩ (Sp.refl _)
  ·obtain rfl:k=l.length:=by omega
   rw[List.take_length] at hal2;(refine aZ _ J (aD (aB (aA1 vq (aE (aQ ?_))))));refine aA2 wq qF fun w hs=> ?_
   exact⟨by rw[tab_good hin hall hal2];rfl,hs.chg0⟩
end Go.Proofs.YtoljppohibpenaaGreat
