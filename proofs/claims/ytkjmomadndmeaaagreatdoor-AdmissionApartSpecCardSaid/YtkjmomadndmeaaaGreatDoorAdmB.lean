import Derived.Test.YtkjmomadndmeaaaGreatDoorPetC
import Derived.Test.YtkjmomadndmeaaaGreatDoorHolB
import Derived.Test.YtkjmomadndmeaaaGreatDoorEngAS
namespace Go.Proofs.YtkjmomadndmeaaaGreatDoor
set_option linter.unusedSimpArgs false
set_option linter.unusedVariables false
open Go Go.Ab
set_option maxRecDepth 100000
set_option maxHeartbeats 0
def zDec:List D:=[di 0,di 0,di 0,di 0,di 0,di 0,di 0,.nils,.nils,.nils]
theorem admit_bad (w:Wor)(s c t kn:Int)(nw:List Int)(hl:nw.length<=1000000)(h:askedB s c t nw=false) :
 Pure Tryz.prog 11 [.agg (eWor w),di s,di c,di t,di kn,eInts nw] [.agg zDec,di 280]:=by
 have hA:=asked_ok s c t nw hl
 rw[h]at hA
 refine pure_ruleC hT (T:=tab) (N:=116) (rs:=[.cell 12 37,.cell 13 38]) Tryz.func11 rfl rfl rfl Kr rfl ?_
 (refine gW ?_;intros)
 refine hA.call ?_
 (refine gW ?_;intros)
 exact⟨BecP.d,BecP.d,Tt⟩
theorem look35_ok (g:Nat)(rs xs:List Red)(hl:rs.length<=1000000)(hx:xs.length<=1000000) :
 CallVC Tryz.prog 35 [.d (eReds xs),ap 0] ⟨[],[bX 35 [.osl (.arg 1) g 0 rs.length],bV 107 5 g rs.length (rowsOf eRed rs)]⟩
  (Ret (fun _:Unit=>([],⟨[],[bX 35 [.osl (.arg 1) (g+1) 0 (rs++xs).length],bV 107 5 (g+1) (rs++xs).length (rowsOf eRed (rs++xs))]⟩)) fun _=>True):=by
 refine call_rule hT (T:=tab) (N:=6) (rs:=[]) _ _ Tryz.func35 rfl rfl rfl Kr rfl ?_
 (refine gW ?_;intros)
 refine⟨(),Tt,?_,rfl⟩
 repeat' (first|exact Tt|exact rfl|exact Nat.le_refl _|refine And.intro ?_ ?_)
 all_goals first
  | (intro j hj
     refine⟨?_,rfl⟩
     exact rowsOf_catD eRed rs xs rfl j)
  | (rw [List.length_append]
     rfl)
  | (rw [List.length_append]
     exact Nat.le_refl _)
theorem crs_some {w:Wor}(hw:WfW w){c t kn:Int}{x:Crs}(h:crsOf w c t kn=some x):wfR x.need/\wfR x.bar/\chkR x.need=0/\chkR x.bar=0:=by
 obtain⟨hm,hv⟩:=lookO_mem2 h
 have hf:=hw.bok.1.2 x hm
 simp only[okCrs,vCrs,okR,Bool.and_eq_true,decide_eq_true_iff]at hv
 exact⟨hf.1,hf.2,hv.2.2.2.2.1,hv.2.2.2.2.2⟩
def ansX (hs:List Int)(oc:Option Crs)(st:Sit)(pv:Int):Int:=if(!hs.isEmpty||!oc.isSome)=true then 0 else if(valR st (oc.getD default).need&&!valR st (oc.getD default).bar)=true then 1 else if 0<pv then 1 else 0
def namX (hs:List Int)(oc:Option Crs)(st:Sit)(pv:Int):List Int:=if(!hs.isEmpty||!oc.isSome)=true then[] else if(valR st (oc.getD default).need&&!valR st (oc.getD default).bar)=true then[] else if 0<pv then[pv] else[]
theorem cutW {T G:Prop}(h:Wr T->G)(t:T):G:=h ⟨t⟩
theorem admit_ok (w:Wor) (hw:WfW w) (hl:w.fcts.length≤50) (s c t kn:Int) (nw:List Int) (hnl:nw.length≤1000000) (h:askedB s c t nw=true)
 (hS:Pure Tryz.prog 20 [.agg (eWor w),di s,di t,di kn,eInts nw] [.agg (eSit (sitV w s t kn nw)),eReds (sitR w s t kn),di 0]) (hR:(sitR w s t kn).length<=500000) :
 Pure Tryz.prog 11 [.agg (eWor w),di s,di c,di t,di kn,eInts nw] [.agg (eDec (admV w s c t kn nw)),di 0]:=by
 have hA:=asked_ok s c t nw hnl
 rw[h]at hA
 have ht:0<=t/\t<=1023:=by
  simp only[askedB,bw,Bool.and_eq_true,decide_eq_true_iff]at h
  exact h.2.2.2
 have hit:In .i64 (t+1):=in64.2 Om
 have hH:=held_ok w hw s t kn hit
 have hC:=bcourse_ok w hw c t kn
 have hP:=active_ok w hw 7 s c t kn hit
 have hp0:=petV_nn w.fcts ⟨7,s,c⟩ t kn
 have hx1:(heldR 6 s t).length=8:=by simp[heldR]
 have hx2:(readsT ⟨1,c,0⟩ t).length<=1:=readsT_len _ _
 have hD:eDec (admV w s c t kn nw)=[di 1,di s,di c,di t,di (ansV w s c t kn nw),di (ansV w s c t kn nw),di kn,eInts nw,eReds (heldR 6 s t++readsT ⟨1,c,0⟩ t++sitR w s t kn++[rdK ⟨7,s,c⟩ t]),eInts (namV w s c t kn nw)]:=rfl
 rw[hD]
 have hWS:=sitV_wf (w:=w) Om s t kn nw
 have hcs:=@crs_some w hw c t kn
 have hans:∀hs oc pv,heldL w.fcts 6 s t kn=hs->crsOf w c t kn=oc->petV w.fcts ⟨7,s,c⟩ t kn=pv->ansV w s c t kn nw=ansX hs oc (sitV w s t kn nw) pv/\namV w s c t kn nw=namX hs oc (sitV w s t kn nw) pv:=by
  rintro _ _ _ rfl rfl rfl
  exact⟨rfl,rfl⟩
 obtain⟨ea,en⟩:=hans _ _ _ rfl rfl rfl
 rw[ea,en]
 clear hD h hans ea en
 generalize sitV w s t kn nw=st at hS hWS⊢
 generalize sitR w s t kn=r3 at hS hR⊢
 generalize readsT ⟨1,c,0⟩ t=r2 at hC hx2⊢
 generalize heldR 6 s t=r1 at hH hx1⊢
 generalize heldL w.fcts 6 s t kn=hs at hH⊢
 generalize crsOf w c t kn=oc at hC hcs⊢
 generalize petV w.fcts ⟨7,s,c⟩ t kn=pv at hP hp0⊢
 have hL1:=look35_ok 0 [] r1 (Nat.zero_le _) Om
 have hL2:=look35_ok 1 r1 r2 Om Om
 have hL3:=look35_ok 2 (r1++r2) r3 (by rw[List.length_append];omega) Om
 have hL4:=look35_ok 3 (r1++r2++r3) [rdK ⟨7,s,c⟩ t] (by rw[List.length_append,List.length_append];omega) (by simp)
 rw[List.nil_append]at hL1
 obtain⟨isb,hisb⟩:∃b,oc.isSome=b:=⟨_,rfl⟩
 obtain⟨oo,hoo⟩:∃x,oc.getD default=x:=⟨_,rfl⟩
 obtain⟨av,hav⟩:∃x,ansX hs oc st pv=x:=⟨_,rfl⟩
 obtain⟨nm,hnm⟩:∃x,namX hs oc st pv=x:=⟨_,rfl⟩
 rw[hisb,hoo]at hC
 rw[hav,hnm]
 apply cutW
 case h =>
  intro tl
  refine pureE_rule hT (f:=11) (N:=116) (rs:=[.cell 12 37,.cell 13 38]) (pre:=[_,_,_,_]) Tryz.func11 rfl rfl rfl Kr rfl
   (G:=36) (r:=32) (caps:=[.tmp 13,.tmp 7,.tmp 8,.tmp 9,.tmp 12,.tmp 10,.tmp 11,.tmp 14]) rfl rfl rfl rfl rfl rfl rfl rfl rfl Tryz.func36 rfl rfl Kr rfl rfl ?_
  (refine gW ?_;intros)
  refine hA.call ?_
  (refine gW ?_;intros)
  refine⟨[0,1,2,3,4,5,6,7,8],[(29,eWor w),(3,[di s]),(3,[di c]),(3,[di t]),(3,[di kn]),(30,[eInts nw]),(37,zDec),(38,[di 0]),(35,[.nils])],
   [(6,ap 0),(7,ap 1),(8,ap 2),(9,ap 3),(10,ap 4),(11,ap 5),(12,ap 6),(13,ap 7),(14,ap 8),(15,.fn (.func 35) [] [ap 8])],
   [ap 7,ap 1,ap 2,ap 3,ap 6,ap 4,ap 5,ap 8],Dc,⟨rfl,rfl,rfl,rfl,rfl,rfl,rfl,rfl,rfl,Tt⟩,⟨rfl,rfl,rfl,rfl,rfl,rfl,rfl,rfl,rfl,rfl,Tt⟩,⟨rfl,rfl,rfl,rfl,rfl,rfl,rfl,rfl,Tt⟩,rfl,?_⟩
  (refine gS ?_;intros)
  refine hH.call ?_
  (refine gS ?_;intros)
  refine Sq.alt (Awp.vecBox (.arg 8) 35 107 5 (rowsOf eRed []) rfl (vc_ok hT _ _ _ _ (Ev.o ?_)))
  (refine gS ?_;intros)
  refine⟨⟨35,[],[ap 8],.inl rfl,hL1.at [.arg 8,.loc 0] rfl ⟨rfl,rfl,Tt⟩ (fun _ _=>⟨rfl,?_⟩)⟩⟩
  (refine gS ?_;intros)
  refine Sq.alt (Awp.le (env':=[(6,ap 0),(7,ap 1),(8,ap 2),(9,ap 3),(10,ap 4),(11,ap 5),(12,ap 6),(13,ap 7),(14,ap 8),(15,.fn (.func 35) [] [ap 8]),(16,.d (eInts hs))])
   (m':=⟨[bV 107 5 1 (r1).length (rowsOf eRed (r1))],[bX 29 (up (eWor w)),bX 3 [dV s],bX 3 [dV c],bX 3 [dV t],bX 3 [dV kn],bX 30 [.d (eInts nw)],bX 37 (up zDec),bX 38 [dV 0],bX 35 [.osl (.loc 0) 1 0 (r1).length]]⟩) ?_ (vc_ok hT _ _ _ _ (Ev.o ?_)))
  .exact lq
  (refine gW ?_;intros)
  refine hC.call ?_
  (refine gW ?_;intros)
  refine⟨⟨35,[],[ap 8],.inl rfl,hL2.at [.arg 8,.loc 0] rfl ⟨rfl,rfl,Tt⟩ (fun _ _=>⟨rfl,?_⟩)⟩⟩
  (refine gS ?_;intros)
  refine Sq.alt (Awp.le (env':=[(6,ap 0),(7,ap 1),(8,ap 2),(9,ap 3),(10,ap 4),(11,ap 5),(12,ap 6),(13,ap 7),(14,ap 8),(15,.fn (.func 35) [] [ap 8]),(16,.d (eInts hs)),(18,lp 1),(19,.d (.bool isb))])
   (m':=⟨[bV 107 5 2 (r1++r2).length (rowsOf eRed (r1++r2)),bX 54 (up (eCrs oo))],[bX 29 (up (eWor w)),bX 3 [dV s],bX 3 [dV c],bX 3 [dV t],bX 3 [dV kn],bX 30 [.d (eInts nw)],bX 37 (up zDec),bX 38 [dV 0],bX 35 [.osl (.loc 0) 2 0 (r1++r2).length]]⟩) ?_ (vc_ok hT _ _ _ _ (Ev.o ?_)))
  .exact lq
  (refine gW ?_;intros)
  refine hS.call ?_
  (refine gW ?_;intros)
  refine⟨⟨35,[],[ap 8],.inl rfl,hL3.at [.arg 8,.loc 0] rfl ⟨rfl,rfl,Tt⟩ (fun _ _=>⟨rfl,?_⟩)⟩⟩
  (refine gS ?_;intros)
  refine Sq.alt (Awp.le (env':=[(6,ap 0),(7,ap 1),(8,ap 2),(9,ap 3),(10,ap 4),(11,ap 5),(12,ap 6),(13,ap 7),(14,ap 8),(15,.fn (.func 35) [] [ap 8]),(16,.d (eInts hs)),(18,lp 1),(19,.d (.bool isb)),(20,lp 2)])
   (m':=⟨[bV 107 5 3 (r1++r2++r3).length (rowsOf eRed (r1++r2++r3)),bX 54 (up (eCrs oo)),bX 61 (up (eSit st))],[bX 29 (up (eWor w)),bX 3 [dV s],bX 3 [dV c],bX 3 [dV t],bX 3 [dV kn],bX 30 [.d (eInts nw)],bX 37 (up zDec),bX 38 [dV 0],bX 35 [.osl (.loc 0) 3 0 (r1++r2++r3).length]]⟩) ?_ (vc_ok hT _ _ _ _ (Ev.o ?_)))
  .exact lq
  (refine gW ?_;intros)
  refine hP.call ?_
  (refine gW ?_;intros)
  refine⟨⟨35,[],[ap 8],.inl rfl,hL4.at [.arg 8,.loc 0] rfl ⟨rfl,rfl,Tt⟩ (fun _ _=>⟨rfl,?_⟩)⟩⟩
  (refine gS ?_;intros)
  refine Sq.alt (Awp.le (env':=[(6,ap 0),(7,ap 1),(8,ap 2),(9,ap 3),(10,ap 4),(11,ap 5),(12,ap 6),(13,ap 7),(14,ap 8),(15,.fn (.func 35) [] [ap 8]),(16,.d (eInts hs)),(18,lp 1),(19,.d (.bool isb)),(20,lp 2),(21,dV pv),(22,.d (.bool (decide (0<pv))))])
   (m':=⟨[bV 107 5 4 (r1++r2++r3++[rdK ⟨7,s,c⟩ t]).length (rowsOf eRed (r1++r2++r3++[rdK ⟨7,s,c⟩ t])),bX 54 (up (eCrs oo)),bX 61 (up (eSit st))],[bX 29 (up (eWor w)),bX 3 [dV s],bX 3 [dV c],bX 3 [dV t],bX 3 [dV kn],bX 30 [.d (eInts nw)],bX 37 (up zDec),bX 38 [dV 0],bX 35 [.osl (.loc 0) 4 0 (r1++r2++r3++[rdK ⟨7,s,c⟩ t]).length]]⟩) ?_ (vc_ok hT _ _ _ _ (Ev.o ?_)))
  .exact lq
  exact tl.o
 case t =>
  clear hA hH hC hS hP hL1 hL2 hL3 hL4
  by_cases hn:0<hs.length
  .have he:hs.isEmpty=false:=by
    cases hs with
    |nil=>cases hn
    |cons=>rfl
   unfold ansX at hav
   unfold namX at hnm
   rw[he,show(!false||!oc.isSome)=true from rfl,if_pos rfl]at hav hnm
   subst hav hnm
   clear hcs hWS hp0 hisb hoo he
   (refine gW ?_;intros)
   refine⟨rfl,?_⟩
   (refine gW ?_;intros)
   exact⟨BecP.agg' ⟨.d,.d,.d,.d,.d,.d,.d,.d,.rows rfl (Nat.le_of_eq (Nat.zero_add _)) (fun i hi=>by rw[Nat.zero_add];rfl),.eq rfl,Tt⟩,.d,Tt⟩
  .have hn0:hs=[]:=List.eq_nil_of_length_eq_zero (by omega)
   subst hn0
   unfold ansX at hav
   unfold namX at hnm
   rw[show(!([]:List Int).isEmpty||!oc.isSome)=!oc.isSome from rfl]at hav hnm
   cases oc with
   | none =>
     rw[show(!(none:Option Crs).isSome)=true from rfl,if_pos rfl]at hav hnm
     subst hav hnm
     obtain rfl:isb=false:=hisb.symm
     clear hcs hWS hp0 hisb hoo
     (refine gW ?_;intros)
     refine⟨rfl,?_⟩
     (refine gW ?_;intros)
     exact⟨BecP.agg' ⟨.d,.d,.d,.d,.d,.d,.d,.d,.rows rfl (Nat.le_of_eq (Nat.zero_add _)) (fun i hi=>by rw[Nat.zero_add];rfl),.eq rfl,Tt⟩,.d,Tt⟩
   | some x =>
     obtain⟨w1,w2,c1,c2⟩:=hcs rfl
     have hN:=holds28_ok x.need w1 c1 st hWS
     have hB:=holds28_ok x.bar w2 c2 st hWS
     rw[show(!(some x).isSome)=false from rfl,if_neg (show ¬ (false=true) by decide)]at hav hnm
     obtain rfl:isb=true:=hisb.symm
     obtain rfl:oo=x:=hoo.symm
     clear hcs hWS hisb hoo
     rw[show(some oo).getD default=oo from rfl]at hav hnm
     cases ha:valR st oo.need
     .rw[ha]at hN hav hnm
      have hq:¬ ((false&&!valR st oo.bar)=true):=by simp
      rw[if_neg hq]at hav hnm
      by_cases hp:0<pv
      .rw[if_pos hp]at hav hnm
       subst hav hnm
       have hM:=named_ok true pv
       rw[if_pos rfl]at hM
       (refine gW ?_;intros)
       refine hN.call ?_
       (refine gW ?_;intros)
       refine hM.call ?_
       (refine gW ?_;intros)
       refine⟨rfl,?_⟩
       (refine gW ?_;intros)
       exact⟨BecP.agg' ⟨.d,.d,.d,.d,.d,.d,.d,.d,.rows rfl (Nat.le_of_eq (Nat.zero_add _)) (fun i hi=>by rw[Nat.zero_add];rfl),.eq ⟨rfl,rfl,fun i hi=>rfl⟩,Tt⟩,.d,Tt⟩
      .rw[if_neg hp]at hav hnm
       subst hav hnm
       (refine gW ?_;intros)
       refine hN.call ?_
       (refine gW ?_;intros)
       refine⟨rfl,?_⟩
       (refine gW ?_;intros)
       exact⟨BecP.agg' ⟨.d,.d,.d,.d,.d,.d,.d,.d,.rows rfl (Nat.le_of_eq (Nat.zero_add _)) (fun i hi=>by rw[Nat.zero_add];rfl),.eq rfl,Tt⟩,.d,Tt⟩
     .rw[ha]at hN hav hnm
      cases hb:valR st oo.bar
      .rw[hb]at hB hav hnm
       have hq:(true&&!false)=true:=rfl
       rw[if_pos hq]at hav hnm
       subst hav hnm
       have hM:=named_ok false pv
       rw[if_neg Dc]at hM
       (refine gW ?_;intros)
       refine hN.call ?_
       (refine gW ?_;intros)
       refine hB.call ?_
       (refine gW ?_;intros)
       refine hM.call ?_
       (refine gW ?_;intros)
       refine⟨rfl,?_⟩
       (refine gW ?_;intros)
       exact⟨BecP.agg' ⟨.d,.d,.d,.d,.d,.d,.d,.d,.rows rfl (Nat.le_of_eq (Nat.zero_add _)) (fun i hi=>by rw[Nat.zero_add];rfl),.eq ⟨rfl,rfl,fun i hi=>rfl⟩,Tt⟩,.d,Tt⟩
      .rw[hb]at hB hav hnm
       have hq:¬ ((true&&!true)=true):=by decide
       rw[if_neg hq]at hav hnm
       by_cases hp:0<pv
       .rw[if_pos hp]at hav hnm
        subst hav hnm
        have hM:=named_ok true pv
        rw[if_pos rfl]at hM
        (refine gW ?_;intros)
        refine hN.call ?_
        (refine gW ?_;intros)
        refine hB.call ?_
        (refine gW ?_;intros)
        refine hM.call ?_
        (refine gW ?_;intros)
        refine⟨rfl,?_⟩
        (refine gW ?_;intros)
        exact⟨BecP.agg' ⟨.d,.d,.d,.d,.d,.d,.d,.d,.rows rfl (Nat.le_of_eq (Nat.zero_add _)) (fun i hi=>by rw[Nat.zero_add];rfl),.eq ⟨rfl,rfl,fun i hi=>rfl⟩,Tt⟩,.d,Tt⟩
       .rw[if_neg hp]at hav hnm
        subst hav hnm
        (refine gW ?_;intros)
        refine hN.call ?_
        (refine gW ?_;intros)
        refine hB.call ?_
        (refine gW ?_;intros)
        refine⟨rfl,?_⟩
        (refine gW ?_;intros)
        exact⟨BecP.agg' ⟨.d,.d,.d,.d,.d,.d,.d,.d,.rows rfl (Nat.le_of_eq (Nat.zero_add _)) (fun i hi=>by rw[Nat.zero_add];rfl),.eq rfl,Tt⟩,.d,Tt⟩
end Go.Proofs.YtkjmomadndmeaaaGreatDoor
