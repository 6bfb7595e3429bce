import Derived.Test.YtkjmomadndmeaaaGreatDoorRfE
import Derived.Test.YtkjmomadndmeaaaGreatDoorRfI
import Derived.Test.YtkjmomadndmeaaaGreatDoorSitP
import Derived.Test.YtkjmomadndmeaaaGreatDoorEngAS
namespace Go.Proofs.YtkjmomadndmeaaaGreatDoor
set_option linter.unusedSimpArgs false
set_option linter.unusedVariables false
open Go Go.Ab
set_option maxRecDepth 100000
set_option maxHeartbeats 0
def yK (w:Wor)(s t kn:Int)(k:Nat):List Att × List Red:=((nums w kn).take k).foldl (rowA w s t kn) ([],[rdK ⟨12,0,0⟩ 0])
def yJ (w:Wor)(s t kn:Int)(k:Nat)(n:Int)(j:Nat):List Att × List Red:=((pointsV w.fcts (gK s n) 0 t kn).take j).foldl (stpA w kn n) ((yK w s t kn k).1,(yK w s t kn k).2++[⟨5,s,n,0,t⟩])
theorem yK_succ (w:Wor)(s t kn:Int){k:Nat}(h:k<(nums w kn).length):yK w s t kn (k+1)=yJ w s t kn k ((nums w kn).getD k default) (pointsV w.fcts (gK s ((nums w kn).getD k default)) 0 t kn).length:=by
 unfold yK yJ
 rw[take_succ_at h,List.foldl_append,List.take_length]
 rfl
theorem yJ_succ (w:Wor)(s t kn:Int)(k:Nat)(n:Int){j:Nat}(h:j<(pointsV w.fcts (gK s n) 0 t kn).length):yJ w s t kn k n (j+1)=stpA w kn n (yJ w s t kn k n j) ((pointsV w.fcts (gK s n) 0 t kn).getD j default):=by
 unfold yJ
 rw[take_succ_at h,List.foldl_append]
 rfl
theorem yK_all (w:Wor)(s t kn:Int):yK w s t kn (nums w kn).length=ofA w s t kn:=by
 unfold yK ofA
 rw[List.take_length]
theorem stpY_len (w:Wor)(kn n:Int)(z:List Att × List Red)(p:Poi):(stpA w kn n z p).1.length<=z.1.length+1/\(stpA w kn n z p).2.length<=z.2.length+1:=by
 unfold stpA
 split
 .exact⟨Om,Om⟩
 .have:=readsT_len ⟨1,n,0⟩ p.term
  dsimp only
  rw[List.length_append,List.length_append]
  exact⟨Nat.le_refl _,Om⟩
theorem yJ_len (w:Wor)(s t kn:Int)(k:Nat)(n:Int):∀j,j<=(pointsV w.fcts (gK s n) 0 t kn).length->(yJ w s t kn k n j).1.length<=(yK w s t kn k).1.length+j/\(yJ w s t kn k n j).2.length<=(yK w s t kn k).2.length+1+j
 | 0,_=>by
   show(yK w s t kn k).1.length<=(yK w s t kn k).1.length+0/\((yK w s t kn k).2++[_]).length<=_
   rw[len_snoc]
   omega
 | j + 1,h=>by
   have h1:=yJ_len w s t kn k n j Om
   have h2:=stpY_len w kn n (yJ w s t kn k n j) ((pointsV w.fcts (gK s n) 0 t kn).getD j default)
   rw[yJ_succ w s t kn k n Om]
   omega
theorem yK_len (w:Wor)(s t kn:Int):∀k,k<=(nums w kn).length->(yK w s t kn k).1.length<=1025*k/\(yK w s t kn k).2.length<=1025*k+1
 |0,_=>by simp[yK]
 | k + 1,h=>by
   have h1:=yK_len w s t kn k Om
   have h2:=pointsV_len w.fcts (gK s ((nums w kn).getD k default)) 0 t kn
   have h3:=yJ_len w s t kn k ((nums w kn).getD k default) _ (Nat.le_refl _)
   rw[yK_succ w s t kn Om]
   omega
theorem srtA_snoc (l:List Att)(a:Att):srtA (l++[a])=insA a (srtA l):=by
 unfold srtA
 rw[List.foldl_append]
 rfl
theorem stpA_sk1 {w:Wor}{kn n:Int}{z:List Att × List Red}{p:Poi}(h:12<p.value.tmod 16):stpA w kn n z p=z:=by
 rw[stpA,if_pos]
 simp[skipP,h]
theorem stpA_sk2 {w:Wor}{kn n:Int}{z:List Att × List Red}{p:Poi}(h:7<=p.value.tdiv 16):stpA w kn n z p=z:=by
 rw[stpA,if_pos]
 simp[skipP,h]
theorem stpA_in {w:Wor}{kn n:Int}{z:List Att × List Red}{p:Poi}(h1:¬ 12<p.value.tmod 16)(h2:¬ 7<=p.value.tdiv 16):stpA w kn n z p=(z.1++[attOf w kn n p],z.2++readsT ⟨1,n,0⟩ p.term):=by
 rw[stpA,if_neg]
 simp only[skipP,decide_eq_false h1,decide_eq_false h2]
 decide
structure RfS where
 k:Nat
 g:Nat
 f:Bool
 q:Red
theorem rof16_nil (w:Wor)(hw:WfW w)(hl:w.fcts.length<=50)(s t kn:Int)(hs:bw s 0 19999=true)(ht:bw t 0 1024=true)(hne:nums w kn=[]) :
 Pure Tryz.prog 87 [.agg (eWor w),di s,di t,di kn] [.agg (eRec s []),cReds [rdK ⟨12,0,0⟩ 0],di 0]:=by
 have hW1:=rwithin16_ok s 0 19999
 have hW2:=rwithin16_ok t 0 1024
 rw[hs]at hW1
 rw[ht]at hW2
 have hN:=rnumbers_ok w hw Om kn
 rw[hne]at hN
 refine pure_rule hT (T:=tab) (N:=126) (rs:=[.cell 8 122,.tmp 9,.tmp 10]) Tryz.func87 rfl rfl rfl Kr rfl ?_
 (refine gW ?_;intros)
 refine hW1.call ?_
 (refine gW ?_;intros)
 refine hW2.call ?_
 (refine gW ?_;intros)
 refine hN.call ?_
 (refine gW ?_;intros)
 refine Awp.datCell (.loc 2) 1 122 5 [dV s,.d .nils] (fun i=>eAtt (([]:List Att).getD i default)) rfl rfl ?_
 refine loop_rule hT (S:=Unit) (fun _=>([(8,lp 1),(11,lp 2),(12,.d (eInts [])),(13,.d (cReds [rdK ⟨12,0,0⟩ 0])),(14,dV 0)],
  ⟨[none,bX 122 (up [di 0,.nils]),bX 122 (up (eRec s []))],[]⟩)) (fun _=>True) (fun _=>0) () ?_ ?_ ?_
 .exact lq
 .exact Tt
 .intro _ _
  (refine gW ?_;intros)
  exact⟨.inl rfl,⟨rfl,rfl,fun i hi=>rfl⟩,rfl,Tt⟩
theorem rof16_ok (w:Wor) (hw:WfW w) (hl:w.fcts.length≤50) (hi:∀ f∈w.fcts,f.value≤9223372036854775807) (s t kn:Int) (hs:bw s 0 19999=true) (ht:bw t 0 1024=true) (hne:0 < (nums w kn).length) :
 CallVC Tryz.prog 87 [.d (.agg (eWor w)),dV s,dV t,dV kn] ⟨[],[]⟩ (Ret (fun z:Nat × Red=>([.d (.agg (eRec s (recA w s t kn))),.osl (.loc 4) z.1 0 (ofA w s t kn).2.length,dV 0],
  ⟨[bX 29 (up (eWor w)),bX 122 (up (eRec s (recA w s t kn))),bX 122 (up (eRec s (recA w s t kn))),bV 107 5 0 1 (rowsOf eRed [z.2]),bV 107 5 z.1 (ofA w s t kn).2.length (rowsOf eRed (ofA w s t kn).2)],[]⟩)) fun _=>True):=by
 have hW1:=rwithin16_ok s 0 19999
 have hW2:=rwithin16_ok t 0 1024
 rw[hs]at hW1
 rw[ht]at hW2
 have hN:=rnumbers_ok w hw Om kn
 have hnl:=nums_len w kn
 have hval:=hval_of hi s t kn
 unfold recA
 rw[<-yK_all]
 refine call_rule hT (T:=tab) (N:=126) (rs:=[.cell 8 122,.tmp 9,.tmp 10]) _ _ Tryz.func87 rfl rfl rfl Kr rfl ?_
 (refine gW ?_;intros)
 refine hW1.call ?_
 (refine gW ?_;intros)
 refine hW2.call ?_
 (refine gW ?_;intros)
 refine hN.call ?_
 (refine gW ?_;intros)
 refine Awp.datCell (.loc 2) 1 122 5 [dV s,.d .nils] (fun i=>eAtt (([]:List Att).getD i default)) rfl rfl ?_
 refine loop_rule hT (S:=RfS) (fun z=>([(1,dV s),(2,dV t),(3,dV kn),(4,lp 0),(8,lp 1),(11,lp 2),(12,.d (eInts (nums w kn))),(13,bif z.f then .osl (.loc 4) z.g 0 (yK w s t kn z.k).2.length else .d (cReds (yK w s t kn z.k).2)),(14,dV z.k)],
  ⟨bX 29 (up (eWor w))::bX 122 (up [di 0,.nils])::bX 122 (up (eRec s (srtA (yK w s t kn z.k).1)))::(bif z.f then[bV 107 5 0 1 (rowsOf eRed [z.q]),bV 107 5 z.g (yK w s t kn z.k).2.length (rowsOf eRed (yK w s t kn z.k).2)] else[]),[]⟩))
  (fun z=>z.k<=(nums w kn).length/\(0<z.k->z.f=true)) (fun z=>(nums w kn).length-z.k) ⟨0,0,false,default⟩ ?_ ?_ ?_
 .exact lq
 .exact⟨Nat.zero_le _,fun h=>absurd h (Nat.lt_irrefl 0)⟩
 .rintro ⟨k,g,f,q⟩ ⟨hk,hkf⟩
  dsimp only at hk hkf⊢
  by_cases hk2:k<(nums w kn).length
  .have hb:=yK_len w s t kn k hk
   have hs:=yK_succ w s t kn hk2
   obtain⟨n,hnn⟩:∃n,(nums w kn).getD k default=n:=⟨_,rfl⟩
   rw[hnn]at hs
   have hz0:yJ w s t kn k n 0=((yK w s t kn k).1,(yK w s t kn k).2++[⟨5,s,n,0,t⟩]):=rfl
   have hK:=rkey16_ok s n
   have hP:=rpoints_ok w.fcts hw.fct (gK s n) 0 t kn
   have hyl:=yJ_len w s t kn k n
   have hys:=@yJ_succ w s t kn k n
   have hlp:=pointsV_len w.fcts (gK s n) 0 t kn
   have hpa:=fun p=>@points_at w.fcts (gK s n) 0 t kn p
   have hpv:=hval n
   obtain⟨ps,hps⟩:∃ps,pointsV w.fcts (gK s n) 0 t kn=ps:=⟨_,rfl⟩
   rw[hps]at hs hP hys hlp hyl hpa hpv
   obtain⟨Z,hZ⟩:∃Z,yJ w s t kn k n=Z:=⟨_,rfl⟩
   rw[hZ]at hs hz0 hyl hys
   clear hps hZ
   obtain⟨Y,hY⟩:∃Y,yK w s t kn k=Y:=⟨_,rfl⟩
   rw[hY]at hz0 hb hyl⊢
   clear hY
   have hyl2:=hyl 0 (Nat.zero_le _)
   rw[hz0]at hyl2
   dsimp only at hyl2
   rw[len_snoc]at hyl2
   have ks:Kp _:=⟨hs⟩
   have kyl:Kp _:=⟨hyl⟩
   have kys:Kp (∀j,j<ps.length->Z (j+1)=stpA w kn n (Z j) (ps.getD j default)):=⟨fun j hj=>hys hj⟩
   clear hs hyl hys
   cases f
   case false =>
    (refine gS ?_;intros)
    refine Sq.go ?_;(refine gS ?_;intros)
    refine Sq.go ?_;(refine gS ?_;intros)
    simp(config:={beta:=false,eta:=false,iota:=false,proj:=false,zeta:=false,decide:=false}) only[Int.toNat_natCast,hnn]
    refine Sq.go ?_;(refine gS ?_;intros)
    refine qC hK ?_
    (refine gS ?_;intros)
    refine qC hP ?_
    (refine gS ?_;intros)
    refine Sq.go ?_;(refine gS ?_;intros)
    refine hK.call ?_
    (refine gW ?_;intros)
    refine loop_rule hT (S:=Nat × Nat) (fun z=>([(1,dV s),(2,dV t),(3,dV kn),(4,lp 0),(8,lp 1),(11,lp 2),(12,.d (eInts (nums w kn))),(13,.osl (.loc 4) z.2 0 (Z z.1).2.length),(14,dV k),(15,dV n),(16,.d (ePois ps)),(17,dV z.1)],
     ⟨[bX 29 (up (eWor w)),bX 122 (up [di 0,.nils]),bX 122 (up (eRec s (srtA (Z z.1).1))),bV 107 5 0 1 (rowsOf eRed [⟨5,s,n,0,t⟩]),bV 107 5 z.2 (Z z.1).2.length (rowsOf eRed (Z z.1).2)],[]⟩))
     (fun z=>z.1<=ps.length) (fun z=>ps.length-z.1) (0,0) ?_ ?_ ?_
    .dsimp only
     rw[hz0]
     dsimp only
     rw[len_snoc]
     repeat' (first|exact Tt|exact rfl|exact Nat.le_refl _|refine And.intro ?_ ?_)
     all_goals first
      | (intro i hi
         obtain rfl:i=0:=Nat.lt_one_iff.1 hi
         exact⟨rfl,rfl⟩)
      | (intro i hi
         exact⟨rfl,rfl⟩)
      | (intro i hi
         exact⟨rowsOf_join' eRed Y.2 ⟨5,s,n,0,t⟩ rfl i hi,rfl⟩)
    .exact Nat.zero_le _
    .clear hz0 hyl2
     rintro⟨j,g⟩ hj
     dsimp only at hj⊢
     by_cases hj2:j<ps.length
     .have hst:=kys.h j hj2
      have hlb:=kyl.h j hj
      have hpm:ps.getD j default∈ps:=getD_mem hj2
      have hpa2:=hpa _ hpm
      have hpv2:=hpv _ hpm
      have htd:In .i64 ((ps.getD j default).value.tdiv 16):=by
       rw[Int.tdiv_eq_ediv_of_nonneg hpa2.2.2.2]
       exact in64.2 Om
      obtain⟨zz,hzz⟩:∃zz,Z j=zz:=⟨_,rfl⟩
      rw[hzz]at hst hlb⊢
      clear hzz hpm hpa hpv
      by_cases q1:12<(ps.getD j default).value.tmod 16
      .have hsk:stpA w kn n zz (ps.getD j default)=zz:=stpA_sk1 q1
       rw[hsk]at hst
       have kt:Kp _:=⟨hst⟩
       clear hst hsk
       (refine gS ?_;intros)
       refine Sq.go ?_;(refine gS ?_;intros)
       refine Sq.go ?_;(refine gS ?_;intros)
       (refine gW ?_;intros)
       refine stp (j+1,g) ?_
       dsimp only
       rw[kt.h]
       exact lq
      by_cases q2:7<=(ps.getD j default).value.tdiv 16
      .have hsk:stpA w kn n zz (ps.getD j default)=zz:=stpA_sk2 q2
       rw[hsk]at hst
       have kt:Kp _:=⟨hst⟩
       clear hst hsk
       (refine gS ?_;intros)
       refine Sq.go ?_;(refine gS ?_;intros)
       refine Sq.go ?_;(refine gS ?_;intros)
       (refine gW ?_;intros)
       refine stp (j+1,g) ?_
       dsimp only
       rw[kt.h]
       exact lq
      have hgo:=stpA_in (w:=w) (kn:=kn) (n:=n) (z:=zz) q1 q2
      rw[hgo]at hst
      clear hgo
      have hC:=rcourse14_ok w hw n (ps.getD j default).term kn
      have n3:=readsT_len ⟨1,n,0⟩ (ps.getD j default).term
      have hcd:attOf w kn n (ps.getD j default)=⟨n,(ps.getD j default).term,(ps.getD j default).value.tmod 16,(ps.getD j default).value.tdiv 16,((crsOf w n (ps.getD j default).term kn).getD default).credits⟩:=rfl
      rw[hcd]at hst
      obtain⟨xs,hxs⟩:∃xs,readsT ⟨1,n,0⟩ (ps.getD j default).term=xs:=⟨_,rfl⟩
      rw[hxs]at hst n3 hC
      clear hxs hcd
      obtain⟨oc,hoc⟩:∃oc,crsOf w n (ps.getD j default).term kn=oc:=⟨_,rfl⟩
      rw[hoc]at hC hst
      clear hoc
      have hput:=fun cd=>put16_ok (srtA zz.1) (by rw[srtA_len];omega) ⟨n,(ps.getD j default).term,(ps.getD j default).value.tmod 16,(ps.getD j default).value.tdiv 16,cd⟩
      cases oc with
      | none =>
        obtain⟨cr,hcr⟩:∃cr:Crs,(none:Option Crs).getD default=cr:=⟨_,rfl⟩
        have hrep:((none:Option Crs).getD default).credits=0:=rfl
        rw[hrep]at hst
        rw[hcr,show(none:Option Crs).isSome=false from rfl]at hC
        clear hcr hrep
        have hput:=hput 0
        rw[<-srtA_snoc]at hput
        have kt:Kp _:=⟨hst⟩
        clear hst
        (refine gS ?_;intros)
        refine Sq.go ?_;(refine gS ?_;intros)
        refine Sq.go ?_;(refine gS ?_;intros)
        refine Sq.go ?_;(refine gS ?_;intros)
        refine Sq.go ?_;(refine gS ?_;intros)
        refine Sq.alt (Awp.le (env':=[(1,dV s),(2,dV t),(3,dV kn),(4,lp 0),(8,lp 1),(11,lp 2),(12,.d (eInts (nums w kn))),(13,.osl (.loc 4) g 0 zz.2.length),(14,dV k),(15,dV n),(16,.d (ePois ps)),(17,dV j),(18,dV ((ps.getD j default).value.tmod 16)),(19,dV ((ps.getD j default).value.tdiv 16))]) (m':=⟨[bX 29 (up (eWor w)),bX 122 (up [di 0,.nils]),bX 122 (up (eRec s (srtA zz.1))),bV 107 5 0 1 (rowsOf eRed [⟨5,s,n,0,t⟩]),bV 107 5 g zz.2.length (rowsOf eRed zz.2)],[]⟩) ?_
         (Awp.seq (Awp.effsF (m:=⟨[some (.box 29 (up (eWor w))),some (.box 122 (up [.int .i64 0,.nils])),some (.box 122 (up (eRec s (srtA zz.1)))),some (.vec 107 5 0 1 (rowsOf eRed [⟨5,s,n,0,t⟩])),some (.vec 107 5 g zz.2.length (rowsOf eRed zz.2))],[]⟩) hT (by kernel_rfl) (by kernel_rfl) (by kernel_rfl)
          ⟨[bX 29 (up (eWor w)),bX 122 (up [di 0,.nils]),bX 122 (up (eRec s (srtA zz.1))),bV 107 5 0 1 (rowsOf eRed [⟨5,s,n,0,t⟩]),bV 107 5 g zz.2.length (rowsOf eRed zz.2),none],[]⟩ 5 0
          [⟨13,lp 5,⟨[bX 29 (up (eWor w)),bX 122 (up [di 0,.nils]),bX 122 (up (eRec s (srtA zz.1))),bV 107 5 0 1 (rowsOf eRed [⟨5,s,n,0,t⟩]),bV 107 5 g zz.2.length (rowsOf eRed zz.2),bX 54 (up zCrs)],[]⟩,[]⟩,⟨14,.junk,⟨[bX 29 (up (eWor w)),bX 122 (up [di 0,.nils]),bX 122 (up (eRec s (srtA zz.1))),bV 107 5 0 1 (rowsOf eRed [⟨5,s,n,0,t⟩]),bV 107 5 g zz.2.length (rowsOf eRed zz.2),bX 54 (up (eCrs cr))],[]⟩,[13]⟩]
          Kr rfl rfl (WeakF.of ⟨.inl rfl,.inl rfl,.inl rfl,.inl rfl,.inl rfl,Tt⟩ Tt) ⟨WeakF.of ⟨.inl rfl,.inl rfl,.inl rfl,.inl rfl,.inl rfl,Tt⟩ Tt,WeakF.of ⟨.inl rfl,.inl rfl,.inl rfl,.inl rfl,.inl rfl,Tt⟩ Tt,Tt⟩ ?_)))
        .exact lq
        conv=>whnf
        (refine gS ?_;intros)
        refine qC hC ?_
        (refine gS ?_;intros)
        refine⟨?_,?_,?_⟩
        .conv=>whnf
         (refine gS ?_;intros)
         exact⟨rfl,rfl⟩
        .conv=>whnf
         (refine gS ?_;intros)
         exact⟨Tt,rfl⟩
        conv=>whnf
        (refine gW ?_;intros)
        refine Awp.of_vc hT ?_
        (refine gW ?_;intros)
        refine qC hput ?_
        (refine gW ?_;intros)
        refine stp (j+1,g+1) ?_
        dsimp only
        rw[kt.h]
        dsimp only
        rw[List.length_append]
        exact lq
      | some cr =>
        rw[show(some cr).getD default=cr from rfl,show(some cr).isSome=true from rfl]at hC
        rw[show(some cr).getD default=cr from rfl]at hst
        have hput:=hput cr.credits
        rw[<-srtA_snoc]at hput
        have kt:Kp _:=⟨hst⟩
        clear hst
        (refine gS ?_;intros)
        refine Sq.go ?_;(refine gS ?_;intros)
        refine Sq.go ?_;(refine gS ?_;intros)
        refine Sq.go ?_;(refine gS ?_;intros)
        refine Sq.go ?_;(refine gS ?_;intros)
        refine Sq.alt (Awp.le (env':=[(1,dV s),(2,dV t),(3,dV kn),(4,lp 0),(8,lp 1),(11,lp 2),(12,.d (eInts (nums w kn))),(13,.osl (.loc 4) g 0 zz.2.length),(14,dV k),(15,dV n),(16,.d (ePois ps)),(17,dV j),(18,dV ((ps.getD j default).value.tmod 16)),(19,dV ((ps.getD j default).value.tdiv 16))]) (m':=⟨[bX 29 (up (eWor w)),bX 122 (up [di 0,.nils]),bX 122 (up (eRec s (srtA zz.1))),bV 107 5 0 1 (rowsOf eRed [⟨5,s,n,0,t⟩]),bV 107 5 g zz.2.length (rowsOf eRed zz.2)],[]⟩) ?_
         (Awp.seq (Awp.effsF (m:=⟨[some (.box 29 (up (eWor w))),some (.box 122 (up [.int .i64 0,.nils])),some (.box 122 (up (eRec s (srtA zz.1)))),some (.vec 107 5 0 1 (rowsOf eRed [⟨5,s,n,0,t⟩])),some (.vec 107 5 g zz.2.length (rowsOf eRed zz.2))],[]⟩) hT (by kernel_rfl) (by kernel_rfl) (by kernel_rfl)
          ⟨[bX 29 (up (eWor w)),bX 122 (up [di 0,.nils]),bX 122 (up (eRec s (srtA zz.1))),bV 107 5 0 1 (rowsOf eRed [⟨5,s,n,0,t⟩]),bV 107 5 g zz.2.length (rowsOf eRed zz.2),none],[]⟩ 5 0
          [⟨13,lp 5,⟨[bX 29 (up (eWor w)),bX 122 (up [di 0,.nils]),bX 122 (up (eRec s (srtA zz.1))),bV 107 5 0 1 (rowsOf eRed [⟨5,s,n,0,t⟩]),bV 107 5 g zz.2.length (rowsOf eRed zz.2),bX 54 (up zCrs)],[]⟩,[]⟩,⟨14,.junk,⟨[bX 29 (up (eWor w)),bX 122 (up [di 0,.nils]),bX 122 (up (eRec s (srtA zz.1))),bV 107 5 0 1 (rowsOf eRed [⟨5,s,n,0,t⟩]),bV 107 5 g zz.2.length (rowsOf eRed zz.2),bX 54 (up (eCrs cr))],[]⟩,[13]⟩]
          Kr rfl rfl (WeakF.of ⟨.inl rfl,.inl rfl,.inl rfl,.inl rfl,.inl rfl,Tt⟩ Tt) ⟨WeakF.of ⟨.inl rfl,.inl rfl,.inl rfl,.inl rfl,.inl rfl,Tt⟩ Tt,WeakF.of ⟨.inl rfl,.inl rfl,.inl rfl,.inl rfl,.inl rfl,Tt⟩ Tt,Tt⟩ ?_)))
        .exact lq
        conv=>whnf
        (refine gS ?_;intros)
        refine qC hC ?_
        (refine gS ?_;intros)
        refine⟨?_,?_,?_⟩
        .conv=>whnf
         (refine gS ?_;intros)
         exact⟨rfl,rfl⟩
        .conv=>whnf
         (refine gS ?_;intros)
         exact⟨Tt,rfl⟩
        conv=>whnf
        (refine gW ?_;intros)
        refine Awp.of_vc hT ?_
        (refine gW ?_;intros)
        refine qC hput ?_
        (refine gW ?_;intros)
        refine stp (j+1,g+1) ?_
        dsimp only
        rw[kt.h]
        dsimp only
        rw[List.length_append]
        exact lq
     .obtain rfl:j=ps.length:=by omega
      (refine gW ?_;intros)
      refine stp ⟨k+1,g,true,⟨5,s,n,0,t⟩⟩ ?_ ⟨by show k+1<=(nums w kn).length;omega,fun _=>rfl⟩
      dsimp only
      rw[ks.h]
      exact lq
   case true =>
    (refine gS ?_;intros)
    refine Sq.go ?_;(refine gS ?_;intros)
    refine Sq.go ?_;(refine gS ?_;intros)
    simp(config:={beta:=false,eta:=false,iota:=false,proj:=false,zeta:=false,decide:=false}) only[Int.toNat_natCast,hnn]
    refine Sq.go ?_;(refine gS ?_;intros)
    refine qC hK ?_
    (refine gS ?_;intros)
    refine qC hP ?_
    (refine gS ?_;intros)
    refine Sq.go ?_;(refine gS ?_;intros)
    refine hK.call ?_
    (refine gW ?_;intros)
    refine loop_rule hT (S:=Nat × Nat) (fun z=>([(1,dV s),(2,dV t),(3,dV kn),(4,lp 0),(8,lp 1),(11,lp 2),(12,.d (eInts (nums w kn))),(13,.osl (.loc 4) z.2 0 (Z z.1).2.length),(14,dV k),(15,dV n),(16,.d (ePois ps)),(17,dV z.1)],
     ⟨[bX 29 (up (eWor w)),bX 122 (up [di 0,.nils]),bX 122 (up (eRec s (srtA (Z z.1).1))),bV 107 5 0 1 (rowsOf eRed [q]),bV 107 5 z.2 (Z z.1).2.length (rowsOf eRed (Z z.1).2)],[]⟩))
     (fun z=>z.1<=ps.length) (fun z=>ps.length-z.1) (0,(g+1)) ?_ ?_ ?_
    .dsimp only
     rw[hz0]
     dsimp only
     rw[len_snoc]
     repeat' (first|exact Tt|exact rfl|exact Nat.le_refl _|refine And.intro ?_ ?_)
     all_goals first
      | (intro i hi
         obtain rfl:i=0:=Nat.lt_one_iff.1 hi
         exact⟨rfl,rfl⟩)
      | (intro i hi
         exact⟨rfl,rfl⟩)
      | (intro i hi
         exact⟨rowsOf_join' eRed Y.2 ⟨5,s,n,0,t⟩ rfl i hi,rfl⟩)
    .exact Nat.zero_le _
    .clear hz0 hyl2
     rintro⟨j,g⟩ hj
     dsimp only at hj⊢
     by_cases hj2:j<ps.length
     .have hst:=kys.h j hj2
      have hlb:=kyl.h j hj
      have hpm:ps.getD j default∈ps:=getD_mem hj2
      have hpa2:=hpa _ hpm
      have hpv2:=hpv _ hpm
      have htd:In .i64 ((ps.getD j default).value.tdiv 16):=by
       rw[Int.tdiv_eq_ediv_of_nonneg hpa2.2.2.2]
       exact in64.2 Om
      obtain⟨zz,hzz⟩:∃zz,Z j=zz:=⟨_,rfl⟩
      rw[hzz]at hst hlb⊢
      clear hzz hpm hpa hpv
      by_cases q1:12<(ps.getD j default).value.tmod 16
      .have hsk:stpA w kn n zz (ps.getD j default)=zz:=stpA_sk1 q1
       rw[hsk]at hst
       have kt:Kp _:=⟨hst⟩
       clear hst hsk
       (refine gS ?_;intros)
       refine Sq.go ?_;(refine gS ?_;intros)
       refine Sq.go ?_;(refine gS ?_;intros)
       (refine gW ?_;intros)
       refine stp (j+1,g) ?_
       dsimp only
       rw[kt.h]
       exact lq
      by_cases q2:7<=(ps.getD j default).value.tdiv 16
      .have hsk:stpA w kn n zz (ps.getD j default)=zz:=stpA_sk2 q2
       rw[hsk]at hst
       have kt:Kp _:=⟨hst⟩
       clear hst hsk
       (refine gS ?_;intros)
       refine Sq.go ?_;(refine gS ?_;intros)
       refine Sq.go ?_;(refine gS ?_;intros)
       (refine gW ?_;intros)
       refine stp (j+1,g) ?_
       dsimp only
       rw[kt.h]
       exact lq
      have hgo:=stpA_in (w:=w) (kn:=kn) (n:=n) (z:=zz) q1 q2
      rw[hgo]at hst
      clear hgo
      have hC:=rcourse14_ok w hw n (ps.getD j default).term kn
      have n3:=readsT_len ⟨1,n,0⟩ (ps.getD j default).term
      have hcd:attOf w kn n (ps.getD j default)=⟨n,(ps.getD j default).term,(ps.getD j default).value.tmod 16,(ps.getD j default).value.tdiv 16,((crsOf w n (ps.getD j default).term kn).getD default).credits⟩:=rfl
      rw[hcd]at hst
      obtain⟨xs,hxs⟩:∃xs,readsT ⟨1,n,0⟩ (ps.getD j default).term=xs:=⟨_,rfl⟩
      rw[hxs]at hst n3 hC
      clear hxs hcd
      obtain⟨oc,hoc⟩:∃oc,crsOf w n (ps.getD j default).term kn=oc:=⟨_,rfl⟩
      rw[hoc]at hC hst
      clear hoc
      have hput:=fun cd=>put16_ok (srtA zz.1) (by rw[srtA_len];omega) ⟨n,(ps.getD j default).term,(ps.getD j default).value.tmod 16,(ps.getD j default).value.tdiv 16,cd⟩
      cases oc with
      | none =>
        obtain⟨cr,hcr⟩:∃cr:Crs,(none:Option Crs).getD default=cr:=⟨_,rfl⟩
        have hrep:((none:Option Crs).getD default).credits=0:=rfl
        rw[hrep]at hst
        rw[hcr,show(none:Option Crs).isSome=false from rfl]at hC
        clear hcr hrep
        have hput:=hput 0
        rw[<-srtA_snoc]at hput
        have kt:Kp _:=⟨hst⟩
        clear hst
        (refine gS ?_;intros)
        refine Sq.go ?_;(refine gS ?_;intros)
        refine Sq.go ?_;(refine gS ?_;intros)
        refine Sq.go ?_;(refine gS ?_;intros)
        refine Sq.go ?_;(refine gS ?_;intros)
        refine Sq.alt (Awp.le (env':=[(1,dV s),(2,dV t),(3,dV kn),(4,lp 0),(8,lp 1),(11,lp 2),(12,.d (eInts (nums w kn))),(13,.osl (.loc 4) g 0 zz.2.length),(14,dV k),(15,dV n),(16,.d (ePois ps)),(17,dV j),(18,dV ((ps.getD j default).value.tmod 16)),(19,dV ((ps.getD j default).value.tdiv 16))]) (m':=⟨[bX 29 (up (eWor w)),bX 122 (up [di 0,.nils]),bX 122 (up (eRec s (srtA zz.1))),bV 107 5 0 1 (rowsOf eRed [q]),bV 107 5 g zz.2.length (rowsOf eRed zz.2)],[]⟩) ?_
         (Awp.seq (Awp.effsF (m:=⟨[some (.box 29 (up (eWor w))),some (.box 122 (up [.int .i64 0,.nils])),some (.box 122 (up (eRec s (srtA zz.1)))),some (.vec 107 5 0 1 (rowsOf eRed [q])),some (.vec 107 5 g zz.2.length (rowsOf eRed zz.2))],[]⟩) hT (by kernel_rfl) (by kernel_rfl) (by kernel_rfl)
          ⟨[bX 29 (up (eWor w)),bX 122 (up [di 0,.nils]),bX 122 (up (eRec s (srtA zz.1))),bV 107 5 0 1 (rowsOf eRed [q]),bV 107 5 g zz.2.length (rowsOf eRed zz.2),none],[]⟩ 5 0
          [⟨13,lp 5,⟨[bX 29 (up (eWor w)),bX 122 (up [di 0,.nils]),bX 122 (up (eRec s (srtA zz.1))),bV 107 5 0 1 (rowsOf eRed [q]),bV 107 5 g zz.2.length (rowsOf eRed zz.2),bX 54 (up zCrs)],[]⟩,[]⟩,⟨14,.junk,⟨[bX 29 (up (eWor w)),bX 122 (up [di 0,.nils]),bX 122 (up (eRec s (srtA zz.1))),bV 107 5 0 1 (rowsOf eRed [q]),bV 107 5 g zz.2.length (rowsOf eRed zz.2),bX 54 (up (eCrs cr))],[]⟩,[13]⟩]
          Kr rfl rfl (WeakF.of ⟨.inl rfl,.inl rfl,.inl rfl,.inl rfl,.inl rfl,Tt⟩ Tt) ⟨WeakF.of ⟨.inl rfl,.inl rfl,.inl rfl,.inl rfl,.inl rfl,Tt⟩ Tt,WeakF.of ⟨.inl rfl,.inl rfl,.inl rfl,.inl rfl,.inl rfl,Tt⟩ Tt,Tt⟩ ?_)))
        .exact lq
        conv=>whnf
        (refine gS ?_;intros)
        refine qC hC ?_
        (refine gS ?_;intros)
        refine⟨?_,?_,?_⟩
        .conv=>whnf
         (refine gS ?_;intros)
         exact⟨rfl,rfl⟩
        .conv=>whnf
         (refine gS ?_;intros)
         exact⟨Tt,rfl⟩
        conv=>whnf
        (refine gW ?_;intros)
        refine Awp.of_vc hT ?_
        (refine gW ?_;intros)
        refine qC hput ?_
        (refine gW ?_;intros)
        refine stp (j+1,g+1) ?_
        dsimp only
        rw[kt.h]
        dsimp only
        rw[List.length_append]
        exact lq
      | some cr =>
        rw[show(some cr).getD default=cr from rfl,show(some cr).isSome=true from rfl]at hC
        rw[show(some cr).getD default=cr from rfl]at hst
        have hput:=hput cr.credits
        rw[<-srtA_snoc]at hput
        have kt:Kp _:=⟨hst⟩
        clear hst
        (refine gS ?_;intros)
        refine Sq.go ?_;(refine gS ?_;intros)
        refine Sq.go ?_;(refine gS ?_;intros)
        refine Sq.go ?_;(refine gS ?_;intros)
        refine Sq.go ?_;(refine gS ?_;intros)
        refine Sq.alt (Awp.le (env':=[(1,dV s),(2,dV t),(3,dV kn),(4,lp 0),(8,lp 1),(11,lp 2),(12,.d (eInts (nums w kn))),(13,.osl (.loc 4) g 0 zz.2.length),(14,dV k),(15,dV n),(16,.d (ePois ps)),(17,dV j),(18,dV ((ps.getD j default).value.tmod 16)),(19,dV ((ps.getD j default).value.tdiv 16))]) (m':=⟨[bX 29 (up (eWor w)),bX 122 (up [di 0,.nils]),bX 122 (up (eRec s (srtA zz.1))),bV 107 5 0 1 (rowsOf eRed [q]),bV 107 5 g zz.2.length (rowsOf eRed zz.2)],[]⟩) ?_
         (Awp.seq (Awp.effsF (m:=⟨[some (.box 29 (up (eWor w))),some (.box 122 (up [.int .i64 0,.nils])),some (.box 122 (up (eRec s (srtA zz.1)))),some (.vec 107 5 0 1 (rowsOf eRed [q])),some (.vec 107 5 g zz.2.length (rowsOf eRed zz.2))],[]⟩) hT (by kernel_rfl) (by kernel_rfl) (by kernel_rfl)
          ⟨[bX 29 (up (eWor w)),bX 122 (up [di 0,.nils]),bX 122 (up (eRec s (srtA zz.1))),bV 107 5 0 1 (rowsOf eRed [q]),bV 107 5 g zz.2.length (rowsOf eRed zz.2),none],[]⟩ 5 0
          [⟨13,lp 5,⟨[bX 29 (up (eWor w)),bX 122 (up [di 0,.nils]),bX 122 (up (eRec s (srtA zz.1))),bV 107 5 0 1 (rowsOf eRed [q]),bV 107 5 g zz.2.length (rowsOf eRed zz.2),bX 54 (up zCrs)],[]⟩,[]⟩,⟨14,.junk,⟨[bX 29 (up (eWor w)),bX 122 (up [di 0,.nils]),bX 122 (up (eRec s (srtA zz.1))),bV 107 5 0 1 (rowsOf eRed [q]),bV 107 5 g zz.2.length (rowsOf eRed zz.2),bX 54 (up (eCrs cr))],[]⟩,[13]⟩]
          Kr rfl rfl (WeakF.of ⟨.inl rfl,.inl rfl,.inl rfl,.inl rfl,.inl rfl,Tt⟩ Tt) ⟨WeakF.of ⟨.inl rfl,.inl rfl,.inl rfl,.inl rfl,.inl rfl,Tt⟩ Tt,WeakF.of ⟨.inl rfl,.inl rfl,.inl rfl,.inl rfl,.inl rfl,Tt⟩ Tt,Tt⟩ ?_)))
        .exact lq
        conv=>whnf
        (refine gS ?_;intros)
        refine qC hC ?_
        (refine gS ?_;intros)
        refine⟨?_,?_,?_⟩
        .conv=>whnf
         (refine gS ?_;intros)
         exact⟨rfl,rfl⟩
        .conv=>whnf
         (refine gS ?_;intros)
         exact⟨Tt,rfl⟩
        conv=>whnf
        (refine gW ?_;intros)
        refine Awp.of_vc hT ?_
        (refine gW ?_;intros)
        refine qC hput ?_
        (refine gW ?_;intros)
        refine stp (j+1,g+1) ?_
        dsimp only
        rw[kt.h]
        dsimp only
        rw[List.length_append]
        exact lq
     .obtain rfl:j=ps.length:=by omega
      (refine gW ?_;intros)
      refine stp ⟨k+1,g,true,q⟩ ?_ ⟨by show k+1<=(nums w kn).length;omega,fun _=>rfl⟩
      dsimp only
      rw[ks.h]
      exact lq
  .obtain rfl:k=(nums w kn).length:=by omega
   obtain rfl:=hkf hne
   (refine gW ?_;intros)
   refine⟨(g,q),Tt,?_,?_⟩
   .exact lq
   .rfl
end Go.Proofs.YtkjmomadndmeaaaGreatDoor
