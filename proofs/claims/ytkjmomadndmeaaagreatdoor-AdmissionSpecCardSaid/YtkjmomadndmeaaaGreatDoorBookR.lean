import Derived.Test.YtkjmomadndmeaaaGreatDoorBookQ
namespace Go.Proofs.YtkjmomadndmeaaaGreatDoor
set_option linter.unusedSimpArgs false
set_option linter.unusedVariables false
open Go Go.Ab
set_option maxRecDepth 100000
set_option maxHeartbeats 0
theorem rpair_ok (a b:Int):Pure Tryz.prog 145 [di a,di b] [.agg (eKe (pairK a b))]:=by
 refine pure_rule hT (T:=tab) (N:=12) (rs:=[.cell 4 72]) Tryz.func145 rfl rfl rfl Kr rfl ?_
 (refine gW ?_;intros)
 exact⟨.inl rfl,Tt⟩
theorem requal_ok (w:Wor) (hw:WfW w) (hl:w.fcts.length≤1000) (n t kn:Int):Pure Tryz.prog 90 [.agg (eWor w),.int .i64 n,.int .i64 t,.int .i64 kn] [eInts (equalL w n t kn),eReds (equalR w n t kn)]:=by
 have hI:=rin_ok n 0 4095
 have hJ:=rin_ok t 0 1023
 have hN:=rnumbers_ok w hw Om kn
 have hnl:=nums_len w kn
 refine pure_rule hT (T:=tab) (N:=93) (rs:=[.tmp 8,.tmp 9]) Tryz.func90 rfl rfl rfl Kr rfl ?_
 cases h1:bw n 0 4095<;>rw[h1]at hI
 .have e1:equalL w n t kn=[n]:=by simp[equalL,okEq,h1]
  have e2:equalR w n t kn=[]:=by simp[equalR,okEq,h1]
  rw[e1,e2]
  (refine gW ?_;intros)
  refine hI.call ?_
  (refine gW ?_;intros)
  exact⟨⟨rfl,rfl,Nat.le_refl _,rfl,fun i hi=>by rw[show i=0 from Nat.lt_one_iff.1 hi];rfl⟩,rfl,Tt⟩
 cases h2:bw t 0 1023<;>rw[h2]at hJ
 .have e1:equalL w n t kn=[n]:=by simp[equalL,okEq,h2]
  have e2:equalR w n t kn=[]:=by simp[equalR,okEq,h2]
  rw[e1,e2]
  (refine gW ?_;intros)
  refine hI.call ?_
  (refine gW ?_;intros)
  refine hJ.call ?_
  (refine gW ?_;intros)
  exact⟨⟨rfl,rfl,Nat.le_refl _,rfl,fun i hi=>by rw[show i=0 from Nat.lt_one_iff.1 hi];rfl⟩,rfl,Tt⟩
 have e1:equalL w n t kn=srtI (equalZ w n t kn).1:=by simp[equalL,okEq,h1,h2]
 have e2:equalR w n t kn=(equalZ w n t kn).2:=by simp[equalR,okEq,h1,h2]
 rw[e1,e2]
 have ht2:0<=t/\t<=1023:=by simpa[bw] using h2
 obtain⟨ns,hns⟩:∃ns,nums w kn=ns:=⟨_,rfl⟩
 have kE:Kp (∀j,EqI ns n (iterE w t kn ns j (startE n)).1):=⟨fun j=>by rw[<-hns];exact EqI.iter (EqI.start (nums w kn) n) j⟩
 have kR:Kp (∀j,(iterE w t kn ns j (startE n)).2.length<=1+j*ns.length):=⟨fun j=>iterE_rd (z:=startE n) j⟩
 have kS:Kp (∀j,j<=(iterE w t kn ns j (startE n)).1.length->(iterE w t kn ns j (startE n)).1.length<=j->equalZ w n t kn=iterE w t kn ns j (startE n)):=⟨fun j=>by rw[<-hns];exact equal_stop Om⟩
 rw[hns]at hN hnl
 clear hns e1 e2
 (refine gW ?_;intros)
 refine hI.call ?_
 (refine gW ?_;intros)
 refine hJ.call ?_
 (refine gW ?_;intros)
 refine hN.call ?_
 (refine gW ?_;intros)
 refine loop_rule hT (S:=ES) (fun z=>([(2,dV t),(3,dV kn),(4,lp 0),(10,.d (eInts ns)),(11,bif z.f then .osl (.loc 3) z.g2 0 z.z.2.length else .d (cReds z.z.2)),(12,.osl (.loc 1) z.g 0 z.z.1.length),(13,dV z.k)],
  ⟨bX 29 (up (eWor w))::bV 3 1 z.g z.z.1.length (rowN z.z.1)::(bif z.f then[none,bV 107 5 z.g2 z.z.2.length (rowR z.z.2)] else[]),[]⟩))
  (fun z=>z.k<=z.z.1.length/\z.z=iterE w t kn ns z.k (startE n)) (fun z=>ns.length+2-z.k) ⟨0,0,0,false,startE n⟩ ?_ ?_ ?_
 .exact lq
 .exact⟨Nat.zero_le _,rfl⟩
 .rintro ⟨j,g,g2,f,l,r⟩ ⟨hj,hz⟩
  dsimp only at hj hz⊢
  have hE:EqI ns n l:=by have:=kE.h j;rw[<-hz]at this;exact this
  have hlen:=hE.len
  have hrl:r.length<=1+j*ns.length:=by have:=kR.h j;rw[<-hz]at this;exact this
  have hjn:j*ns.length<=1001*1000:=Nat.mul_le_mul Om Om
  obtain⟨B,hB⟩:∃B,1+j*ns.length=B:=⟨_,rfl⟩
  have hB2:B<=1001001:=by omega
  rw[hB]at hrl
  clear hB hjn
  have kz:Kp _:=⟨hz⟩
  clear hz
  by_cases hj2:j<l.length
  .have kn1:Kp (iterE w t kn ns (j + 1) (startE n)=ns.foldl (eqS w t kn (l.getD j default)) (l,r)):=⟨by
    rw[iterE_succ,<-kz.h,rndE,if_pos hj2]
    rfl⟩
   obtain⟨a,ha⟩:∃a,l.getD j default=a:=⟨_,rfl⟩
   have hI0:RdI j a l:=⟨hj2,ha⟩
   rw[ha]at kn1
   clear ha kz
   cases f
   case false =>
    (refine gW ?_;intros)
    refine loop_rule hT (S:=ES) (fun z=>([(2,dV t),(3,dV kn),(4,lp 0),(10,.d (eInts ns)),(11,bif z.f then .osl (.loc 3) z.g2 0 z.z.2.length else .d (cReds z.z.2)),(12,.osl (.loc 1) z.g 0 z.z.1.length),(13,dV j),(14,dV z.k)],
     ⟨bX 29 (up (eWor w))::bV 3 1 z.g z.z.1.length (rowN z.z.1)::(bif z.f then[none,bV 107 5 z.g2 z.z.2.length (rowR z.z.2)] else[]),[]⟩))
     (fun z=>z.k<=ns.length/\EqI ns n z.z.1/\RdI j a z.z.1/\z.z.2.length<=B+z.k/\iterE w t kn ns (j+1) (startE n)=(ns.drop z.k).foldl (eqS w t kn a) z.z) (fun z=>ns.length-z.k) ⟨0,g,g2,false,(l,r)⟩ ?_ ?_ ?_
    .exact lq
    .exact⟨Nat.zero_le _,hE,hI0,hrl,kn1.h⟩
    .clear hE hI0 hrl hlen hj hj2 kn1
     rintro⟨k,g,g2,f,l,r⟩ ⟨hk,hE,hI,hrl,hc⟩
     dsimp only at hk hE hI hrl hc⊢
     have hlen:=hE.len
     have hjl:=hI.lt
     by_cases hk2:k<ns.length
     .rw [drop_at hk2,List.foldl_cons] at hc
      have hcm:ns.getD k default∈ns:=getD_mem hk2
      by_cases hin:ns.getD k default∈l
      .have hC:=contains14_ok l (show l.length<=9223372036854775807 by omega) (ns.getD k default)
       rw[decide_eq_true hin]at hC
       rw[eqS_in hin]at hc
       have kc:Kp _:=⟨hc⟩
       clear hc hin hcm
       cases f
       case false =>
        (refine gW ?_;intros)
        refine hC.loan rfl ⟨.rows rfl (Nat.le_of_eq (Nat.zero_add _)) (fun i hi=>by rw[Nat.zero_add];rfl),.d,Tt⟩ ?_
        (refine gW ?_;intros)
        refine stp ⟨k+1,g,g2,false,(l,r)⟩ ?_ ⟨by show k+1<=ns.length;omega,hE,hI,by show r.length<=B+(k+1);omega,kc.h⟩
        exact lq
       case true =>
        (refine gW ?_;intros)
        refine hC.loan rfl ⟨.rows rfl (Nat.le_of_eq (Nat.zero_add _)) (fun i hi=>by rw[Nat.zero_add];rfl),.d,Tt⟩ ?_
        (refine gW ?_;intros)
        refine stp ⟨k+1,g,g2,true,(l,r)⟩ ?_ ⟨by show k+1<=ns.length;omega,hE,hI,by show r.length<=B+(k+1);omega,kc.h⟩
        exact lq
      .have hC:=contains14_ok l (show l.length<=9223372036854775807 by omega) (ns.getD k default)
       rw[decide_eq_false hin]at hC
       have kc:Kp _:=⟨hc⟩
       have kin:Kp _:=⟨hin⟩
       have ha:=hI.eq
       subst ha
       clear hc hin
       cases f
       case false =>
        (refine gS ?_;intros)
        refine Sq.go ?_
        (refine gS ?_;intros)
        refine Sq.go ?_
        (refine gS ?_;intros)
        refine hC.loan rfl ⟨.rows rfl (Nat.le_of_eq (Nat.zero_add _)) (fun i hi=>by rw[Nat.zero_add];rfl),.d,Tt⟩ ?_
        (refine gS ?_;intros)
        refine Sq.go ?_
        (refine gS ?_;intros)
        refine Sq.alt (Awp.seq (Awp.oneN hT 9 ⟨15,72,62,8,eKe (pairK (l.getD j default) (ns.getD k default))⟩
         Kr Kr Kr Kr (BoxOk1.of rfl ⟨rfl,rfl,rfl⟩ rfl ⟨rfl,rfl,rfl⟩ rfl rfl rfl rfl rfl rfl rfl rfl rfl) rfl ?_))
        conv=>whnf
        (refine gS ?_;intros)
        refine qC (rpair_ok (l.getD j default) (ns.getD k default)) ?_
        (refine gS ?_;intros)
        refine⟨rfl,Ev.mk (vc_ok hT _ _ _ _ (Ev.o ?_))⟩
        have hR:=rread_ok (pairK (l.getD j default) (ns.getD k default)) t ht2
        have hA:=rat_ok w.fcts hw.fct (pairK (l.getD j default) (ns.getD k default)) t kn
        obtain⟨v,hv⟩:∃v,atV w.fcts (pairK (l.getD j default) (ns.getD k default)) t kn=v:=⟨_,rfl⟩
        rw[hv]at hA
        obtain⟨v,b⟩:=v
        by_cases hb:v=1/\b=true
        .obtain⟨rfl,rfl⟩:=hb
         have hst:=eqS_new (z:=(l,r)) kin.h hv
         have hE2:=EqI.step (w:=w) (t:=t) (kn:=kn) (a:=l.getD j default) (z:=(l,r)) hcm hE
         rw[hst]at hE2
         have kc2:=kc.h
         rw[hst]at kc2
         have kc3:Kp _:=⟨kc2⟩
         clear kc2
         (refine gW ?_;intros)
         refine hR.call ?_
         (refine gW ?_;intros)
         refine hA.call ?_
         (refine gW ?_;intros)
         refine stp ⟨k+1,g+1,0,true,(l++[ns.getD k default],r++[rdK (pairK (l.getD j default) (ns.getD k default)) t])⟩ ?_ ⟨by show k+1<=ns.length;omega,hE2,hI.snoc,by show(r++[_]).length<=B+(k+1);rw[len_snoc];omega,kc3.h⟩
         dsimp only
         rw[len_snoc,len_snoc]
         exact lq
        .have hst:=eqS_out (z:=(l,r)) (t:=t) (kn:=kn) (a:=l.getD j default) kin.h (by rw[hv];exact fun e=>hb (by injection e with e1 e2;exact⟨e1,e2⟩))
         have kc2:=kc.h
         rw[hst]at kc2
         have kc3:Kp _:=⟨kc2⟩
         clear kc2
         cases b
         case' true=>have hv1:v≠1:=fun e=>hb ⟨e,rfl⟩
         all_goals
          clear hb hst
          (refine gW ?_;intros)
          refine hR.call ?_
          (refine gW ?_;intros)
          refine hA.call ?_
          (refine gW ?_;intros)
          refine stp ⟨k+1,g,0,true,(l,r++[rdK (pairK (l.getD j default) (ns.getD k default)) t])⟩ ?_ ⟨by show k+1<=ns.length;omega,hE,hI,by show(r++[_]).length<=B+(k+1);rw[len_snoc];omega,kc3.h⟩
          dsimp only
          rw[len_snoc]
          exact lq
       case true =>
        (refine gS ?_;intros)
        refine Sq.go ?_
        (refine gS ?_;intros)
        refine Sq.go ?_
        (refine gS ?_;intros)
        refine hC.loan rfl ⟨.rows rfl (Nat.le_of_eq (Nat.zero_add _)) (fun i hi=>by rw[Nat.zero_add];rfl),.d,Tt⟩ ?_
        (refine gS ?_;intros)
        refine Sq.go ?_
        (refine gS ?_;intros)
        refine Sq.alt (Awp.seq (Awp.oneN hT 9 ⟨15,72,62,8,eKe (pairK (l.getD j default) (ns.getD k default))⟩
         Kr Kr Kr Kr (BoxOk1.of rfl ⟨rfl,rfl,rfl⟩ rfl ⟨rfl,rfl,rfl⟩ rfl rfl rfl rfl rfl rfl rfl rfl rfl) rfl ?_))
        conv=>whnf
        (refine gS ?_;intros)
        refine qC (rpair_ok (l.getD j default) (ns.getD k default)) ?_
        (refine gS ?_;intros)
        refine⟨rfl,Ev.mk (vc_ok hT _ _ _ _ (Ev.o ?_))⟩
        have hR:=rread_ok (pairK (l.getD j default) (ns.getD k default)) t ht2
        have hA:=rat_ok w.fcts hw.fct (pairK (l.getD j default) (ns.getD k default)) t kn
        obtain⟨v,hv⟩:∃v,atV w.fcts (pairK (l.getD j default) (ns.getD k default)) t kn=v:=⟨_,rfl⟩
        rw[hv]at hA
        obtain⟨v,b⟩:=v
        by_cases hb:v=1/\b=true
        .obtain⟨rfl,rfl⟩:=hb
         have hst:=eqS_new (z:=(l,r)) kin.h hv
         have hE2:=EqI.step (w:=w) (t:=t) (kn:=kn) (a:=l.getD j default) (z:=(l,r)) hcm hE
         rw[hst]at hE2
         have kc2:=kc.h
         rw[hst]at kc2
         have kc3:Kp _:=⟨kc2⟩
         clear kc2
         (refine gW ?_;intros)
         refine hR.call ?_
         (refine gW ?_;intros)
         refine hA.call ?_
         (refine gW ?_;intros)
         refine stp ⟨k+1,g+1,(g2+1),true,(l++[ns.getD k default],r++[rdK (pairK (l.getD j default) (ns.getD k default)) t])⟩ ?_ ⟨by show k+1<=ns.length;omega,hE2,hI.snoc,by show(r++[_]).length<=B+(k+1);rw[len_snoc];omega,kc3.h⟩
         dsimp only
         rw[len_snoc,len_snoc]
         exact lq
        .have hst:=eqS_out (z:=(l,r)) (t:=t) (kn:=kn) (a:=l.getD j default) kin.h (by rw[hv];exact fun e=>hb (by injection e with e1 e2;exact⟨e1,e2⟩))
         have kc2:=kc.h
         rw[hst]at kc2
         have kc3:Kp _:=⟨kc2⟩
         clear kc2
         cases b
         case' true=>have hv1:v≠1:=fun e=>hb ⟨e,rfl⟩
         all_goals
          clear hb hst
          (refine gW ?_;intros)
          refine hR.call ?_
          (refine gW ?_;intros)
          refine hA.call ?_
          (refine gW ?_;intros)
          refine stp ⟨k+1,g,(g2+1),true,(l,r++[rdK (pairK (l.getD j default) (ns.getD k default)) t])⟩ ?_ ⟨by show k+1<=ns.length;omega,hE,hI,by show(r++[_]).length<=B+(k+1);rw[len_snoc];omega,kc3.h⟩
          dsimp only
          rw[len_snoc]
          exact lq
     .have hfin:iterE w t kn ns (j+1) (startE n)=(l,r):=by rw[hc,drop_end Om,List.foldl_nil]
      have kf:Kp _:=⟨hfin⟩
      clear hc hfin
      cases f
      case false =>
       (refine gW ?_;intros)
       refine stp ⟨j+1,g,g2,false,(l,r)⟩ ?_ ⟨by show j+1<=l.length;omega,kf.h.symm⟩
       exact lq
      case true =>
       (refine gW ?_;intros)
       refine stp ⟨j+1,g,g2,true,(l,r)⟩ ?_ ⟨by show j+1<=l.length;omega,kf.h.symm⟩
       exact lq
   case true =>
    (refine gW ?_;intros)
    refine loop_rule hT (S:=ES) (fun z=>([(2,dV t),(3,dV kn),(4,lp 0),(10,.d (eInts ns)),(11,bif z.f then .osl (.loc 3) z.g2 0 z.z.2.length else .d (cReds z.z.2)),(12,.osl (.loc 1) z.g 0 z.z.1.length),(13,dV j),(14,dV z.k)],
     ⟨bX 29 (up (eWor w))::bV 3 1 z.g z.z.1.length (rowN z.z.1)::(bif z.f then[none,bV 107 5 z.g2 z.z.2.length (rowR z.z.2)] else[]),[]⟩))
     (fun z=>z.k<=ns.length/\EqI ns n z.z.1/\RdI j a z.z.1/\z.z.2.length<=B+z.k/\iterE w t kn ns (j+1) (startE n)=(ns.drop z.k).foldl (eqS w t kn a) z.z) (fun z=>ns.length-z.k) ⟨0,g,g2,true,(l,r)⟩ ?_ ?_ ?_
    .exact lq
    .exact⟨Nat.zero_le _,hE,hI0,hrl,kn1.h⟩
    .clear hE hI0 hrl hlen hj hj2 kn1
     rintro⟨k,g,g2,f,l,r⟩ ⟨hk,hE,hI,hrl,hc⟩
     dsimp only at hk hE hI hrl hc⊢
     have hlen:=hE.len
     have hjl:=hI.lt
     by_cases hk2:k<ns.length
     .rw [drop_at hk2,List.foldl_cons] at hc
      have hcm:ns.getD k default∈ns:=getD_mem hk2
      by_cases hin:ns.getD k default∈l
      .have hC:=contains14_ok l (show l.length<=9223372036854775807 by omega) (ns.getD k default)
       rw[decide_eq_true hin]at hC
       rw[eqS_in hin]at hc
       have kc:Kp _:=⟨hc⟩
       clear hc hin hcm
       cases f
       case false =>
        (refine gW ?_;intros)
        refine hC.loan rfl ⟨.rows rfl (Nat.le_of_eq (Nat.zero_add _)) (fun i hi=>by rw[Nat.zero_add];rfl),.d,Tt⟩ ?_
        (refine gW ?_;intros)
        refine stp ⟨k+1,g,g2,false,(l,r)⟩ ?_ ⟨by show k+1<=ns.length;omega,hE,hI,by show r.length<=B+(k+1);omega,kc.h⟩
        exact lq
       case true =>
        (refine gW ?_;intros)
        refine hC.loan rfl ⟨.rows rfl (Nat.le_of_eq (Nat.zero_add _)) (fun i hi=>by rw[Nat.zero_add];rfl),.d,Tt⟩ ?_
        (refine gW ?_;intros)
        refine stp ⟨k+1,g,g2,true,(l,r)⟩ ?_ ⟨by show k+1<=ns.length;omega,hE,hI,by show r.length<=B+(k+1);omega,kc.h⟩
        exact lq
      .have hC:=contains14_ok l (show l.length<=9223372036854775807 by omega) (ns.getD k default)
       rw[decide_eq_false hin]at hC
       have kc:Kp _:=⟨hc⟩
       have kin:Kp _:=⟨hin⟩
       have ha:=hI.eq
       subst ha
       clear hc hin
       cases f
       case false =>
        (refine gS ?_;intros)
        refine Sq.go ?_
        (refine gS ?_;intros)
        refine Sq.go ?_
        (refine gS ?_;intros)
        refine hC.loan rfl ⟨.rows rfl (Nat.le_of_eq (Nat.zero_add _)) (fun i hi=>by rw[Nat.zero_add];rfl),.d,Tt⟩ ?_
        (refine gS ?_;intros)
        refine Sq.go ?_
        (refine gS ?_;intros)
        refine Sq.alt (Awp.seq (Awp.oneN hT 9 ⟨15,72,62,8,eKe (pairK (l.getD j default) (ns.getD k default))⟩
         Kr Kr Kr Kr (BoxOk1.of rfl ⟨rfl,rfl,rfl⟩ rfl ⟨rfl,rfl,rfl⟩ rfl rfl rfl rfl rfl rfl rfl rfl rfl) rfl ?_))
        conv=>whnf
        (refine gS ?_;intros)
        refine qC (rpair_ok (l.getD j default) (ns.getD k default)) ?_
        (refine gS ?_;intros)
        refine⟨rfl,Ev.mk (vc_ok hT _ _ _ _ (Ev.o ?_))⟩
        have hR:=rread_ok (pairK (l.getD j default) (ns.getD k default)) t ht2
        have hA:=rat_ok w.fcts hw.fct (pairK (l.getD j default) (ns.getD k default)) t kn
        obtain⟨v,hv⟩:∃v,atV w.fcts (pairK (l.getD j default) (ns.getD k default)) t kn=v:=⟨_,rfl⟩
        rw[hv]at hA
        obtain⟨v,b⟩:=v
        by_cases hb:v=1/\b=true
        .obtain⟨rfl,rfl⟩:=hb
         have hst:=eqS_new (z:=(l,r)) kin.h hv
         have hE2:=EqI.step (w:=w) (t:=t) (kn:=kn) (a:=l.getD j default) (z:=(l,r)) hcm hE
         rw[hst]at hE2
         have kc2:=kc.h
         rw[hst]at kc2
         have kc3:Kp _:=⟨kc2⟩
         clear kc2
         (refine gW ?_;intros)
         refine hR.call ?_
         (refine gW ?_;intros)
         refine hA.call ?_
         (refine gW ?_;intros)
         refine stp ⟨k+1,g+1,0,true,(l++[ns.getD k default],r++[rdK (pairK (l.getD j default) (ns.getD k default)) t])⟩ ?_ ⟨by show k+1<=ns.length;omega,hE2,hI.snoc,by show(r++[_]).length<=B+(k+1);rw[len_snoc];omega,kc3.h⟩
         dsimp only
         rw[len_snoc,len_snoc]
         exact lq
        .have hst:=eqS_out (z:=(l,r)) (t:=t) (kn:=kn) (a:=l.getD j default) kin.h (by rw[hv];exact fun e=>hb (by injection e with e1 e2;exact⟨e1,e2⟩))
         have kc2:=kc.h
         rw[hst]at kc2
         have kc3:Kp _:=⟨kc2⟩
         clear kc2
         cases b
         case' true=>have hv1:v≠1:=fun e=>hb ⟨e,rfl⟩
         all_goals
          clear hb hst
          (refine gW ?_;intros)
          refine hR.call ?_
          (refine gW ?_;intros)
          refine hA.call ?_
          (refine gW ?_;intros)
          refine stp ⟨k+1,g,0,true,(l,r++[rdK (pairK (l.getD j default) (ns.getD k default)) t])⟩ ?_ ⟨by show k+1<=ns.length;omega,hE,hI,by show(r++[_]).length<=B+(k+1);rw[len_snoc];omega,kc3.h⟩
          dsimp only
          rw[len_snoc]
          exact lq
       case true =>
        (refine gS ?_;intros)
        refine Sq.go ?_
        (refine gS ?_;intros)
        refine Sq.go ?_
        (refine gS ?_;intros)
        refine hC.loan rfl ⟨.rows rfl (Nat.le_of_eq (Nat.zero_add _)) (fun i hi=>by rw[Nat.zero_add];rfl),.d,Tt⟩ ?_
        (refine gS ?_;intros)
        refine Sq.go ?_
        (refine gS ?_;intros)
        refine Sq.alt (Awp.seq (Awp.oneN hT 9 ⟨15,72,62,8,eKe (pairK (l.getD j default) (ns.getD k default))⟩
         Kr Kr Kr Kr (BoxOk1.of rfl ⟨rfl,rfl,rfl⟩ rfl ⟨rfl,rfl,rfl⟩ rfl rfl rfl rfl rfl rfl rfl rfl rfl) rfl ?_))
        conv=>whnf
        (refine gS ?_;intros)
        refine qC (rpair_ok (l.getD j default) (ns.getD k default)) ?_
        (refine gS ?_;intros)
        refine⟨rfl,Ev.mk (vc_ok hT _ _ _ _ (Ev.o ?_))⟩
        have hR:=rread_ok (pairK (l.getD j default) (ns.getD k default)) t ht2
        have hA:=rat_ok w.fcts hw.fct (pairK (l.getD j default) (ns.getD k default)) t kn
        obtain⟨v,hv⟩:∃v,atV w.fcts (pairK (l.getD j default) (ns.getD k default)) t kn=v:=⟨_,rfl⟩
        rw[hv]at hA
        obtain⟨v,b⟩:=v
        by_cases hb:v=1/\b=true
        .obtain⟨rfl,rfl⟩:=hb
         have hst:=eqS_new (z:=(l,r)) kin.h hv
         have hE2:=EqI.step (w:=w) (t:=t) (kn:=kn) (a:=l.getD j default) (z:=(l,r)) hcm hE
         rw[hst]at hE2
         have kc2:=kc.h
         rw[hst]at kc2
         have kc3:Kp _:=⟨kc2⟩
         clear kc2
         (refine gW ?_;intros)
         refine hR.call ?_
         (refine gW ?_;intros)
         refine hA.call ?_
         (refine gW ?_;intros)
         refine stp ⟨k+1,g+1,(g2+1),true,(l++[ns.getD k default],r++[rdK (pairK (l.getD j default) (ns.getD k default)) t])⟩ ?_ ⟨by show k+1<=ns.length;omega,hE2,hI.snoc,by show(r++[_]).length<=B+(k+1);rw[len_snoc];omega,kc3.h⟩
         dsimp only
         rw[len_snoc,len_snoc]
         exact lq
        .have hst:=eqS_out (z:=(l,r)) (t:=t) (kn:=kn) (a:=l.getD j default) kin.h (by rw[hv];exact fun e=>hb (by injection e with e1 e2;exact⟨e1,e2⟩))
         have kc2:=kc.h
         rw[hst]at kc2
         have kc3:Kp _:=⟨kc2⟩
         clear kc2
         cases b
         case' true=>have hv1:v≠1:=fun e=>hb ⟨e,rfl⟩
         all_goals
          clear hb hst
          (refine gW ?_;intros)
          refine hR.call ?_
          (refine gW ?_;intros)
          refine hA.call ?_
          (refine gW ?_;intros)
          refine stp ⟨k+1,g,(g2+1),true,(l,r++[rdK (pairK (l.getD j default) (ns.getD k default)) t])⟩ ?_ ⟨by show k+1<=ns.length;omega,hE,hI,by show(r++[_]).length<=B+(k+1);rw[len_snoc];omega,kc3.h⟩
          dsimp only
          rw[len_snoc]
          exact lq
     .have hfin:iterE w t kn ns (j+1) (startE n)=(l,r):=by rw[hc,drop_end Om,List.foldl_nil]
      have kf:Kp _:=⟨hfin⟩
      clear hc hfin
      cases f
      case false =>
       (refine gW ?_;intros)
       refine stp ⟨j+1,g,g2,false,(l,r)⟩ ?_ ⟨by show j+1<=l.length;omega,kf.h.symm⟩
       exact lq
      case true =>
       (refine gW ?_;intros)
       refine stp ⟨j+1,g,g2,true,(l,r)⟩ ?_ ⟨by show j+1<=l.length;omega,kf.h.symm⟩
       exact lq
  .have hfin:equalZ w n t kn=(l,r):=by
    have:=kS.h j
    rw[<-kz.h]at this
    exact this hj (show l.length<=j by omega)
   rw[hfin]
   have hS:=rsorted14_ok l Om
   rw[srt_eq]at hS
   clear kz kE kR kS hfin
   cases f
   case false =>
    (refine gW ?_;intros)
    refine CallVC.frz [1] ?_ (hS.call ?_)
    .exact⟨.rows rfl (Nat.le_of_eq (Nat.zero_add _)) (fun i hi=>by rw[Nat.zero_add];rfl),Tt⟩
    (refine gW ?_;intros)
    exact⟨⟨rfl,rfl,fun i hi=>rfl⟩,⟨rfl,rfl,fun i hi=>rfl⟩,Tt⟩
   case true =>
    (refine gW ?_;intros)
    refine CallVC.frz [1] ?_ (hS.call ?_)
    .exact⟨.rows rfl (Nat.le_of_eq (Nat.zero_add _)) (fun i hi=>by rw[Nat.zero_add];rfl),Tt⟩
    (refine gW ?_;intros)
    exact⟨⟨rfl,rfl,fun i hi=>rfl⟩,⟨rfl,rfl,Nat.le_of_eq (Nat.zero_add _),rfl,fun i hi=>by rw[Nat.zero_add];rfl⟩,Tt⟩
end Go.Proofs.YtkjmomadndmeaaaGreatDoor
