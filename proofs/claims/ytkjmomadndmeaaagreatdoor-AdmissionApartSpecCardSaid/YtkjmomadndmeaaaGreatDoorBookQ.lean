import Derived.Test.YtkjmomadndmeaaaGreatDoorBookP
import Derived.Test.YtkjmomadndmeaaaGreatDoorEngAS
namespace Go.Proofs.YtkjmomadndmeaaaGreatDoor
set_option linter.unusedSimpArgs false
set_option linter.unusedVariables false
open Go Go.Ab
set_option maxRecDepth 100000
set_option maxHeartbeats 0
structure ES where
 k:Nat
 g:Nat
 g2:Nat
 f:Bool
 z:List Int × List Red
def rowR (xs:List Red):Nat->List AV:=fun i=>up (eRed (xs.getD i default))
theorem rowR_join (xs:List Red)(x:Red){n:Nat}(hn:n=xs.length)(i:Nat)(hi:i<n+1):joinF n (rowR xs) (rowFn [up (eRed x)]) i=rowR (xs++[x]) i:=by
 subst hn
 exact join_snoc eRed xs x _ rfl i (by rw[len_snoc];exact hi)
structure RdI (i:Nat)(a:Int)(l:List Int):Prop where
 lt:i<l.length
 eq:l.getD i default=a
theorem RdI.snoc {i:Nat}{a x:Int}{l:List Int}(h:RdI i a l):RdI i a (l++[x]):=⟨by rw[len_snoc];have:=h.lt;omega,by rw[getD_append_left h.lt];exact h.eq⟩
theorem eqS_in {w:Wor}{t kn a c:Int}{z:List Int × List Red}(h:c∈z.1):eqS w t kn a z c=z:=if_pos h
theorem eqS_out {w:Wor}{t kn a c:Int}{z:List Int × List Red}(h:c ∉ z.1)(h2:atV w.fcts (pairK a c) t kn≠(1,true)):eqS w t kn a z c=(z.1,z.2++[rdK (pairK a c) t]):=by
 rw[eqS,if_neg h,if_neg h2]
theorem eqS_new {w:Wor}{t kn a c:Int}{z:List Int × List Red}(h:c ∉ z.1)(h2:atV w.fcts (pairK a c) t kn=(1,true)):eqS w t kn a z c=(z.1++[c],z.2++[rdK (pairK a c) t]):=by
 rw[eqS,if_neg h,if_pos h2]
theorem eqS_rd {w:Wor}{t kn a c:Int}{z:List Int × List Red}:(eqS w t kn a z c).2.length<=z.2.length+1:=by
 unfold eqS
 split
 .omega
 .dsimp only;rw[len_snoc];exact Nat.le_refl _
theorem eqR_rd {w:Wor}{t kn a:Int}:∀(l:List Int) (z:List Int × List Red),(l.foldl (eqS w t kn a) z).2.length<=z.2.length+l.length
 |[],z=>Nat.le_refl _
 | c :: r,z=>by
   have h1:=eqR_rd r (eqS w t kn a z c) (w:=w) (t:=t) (kn:=kn) (a:=a)
   have h2:=eqS_rd (w:=w) (t:=t) (kn:=kn) (a:=a) (z:=z) (c:=c)
   rw[List.foldl_cons,List.length_cons]
   omega
theorem iterE_rd {w:Wor}{t kn:Int}{ns:List Int}{z:List Int × List Red}:∀j,(iterE w t kn ns j z).2.length<=z.2.length+j*ns.length
 |0=>by simp[iterE]
 | j + 1=>by
   have h:=iterE_rd (w:=w) (t:=t) (kn:=kn) (ns:=ns) (z:=z) j
   rw[iterE_succ,rndE,Nat.succ_mul]
   split
   .have:=eqR_rd (w:=w) (t:=t) (kn:=kn) (a:=(iterE w t kn ns j z).1.getD j default) ns (iterE w t kn ns j z)
    unfold eqR
    omega
   .omega
theorem equal_ok (w:Wor) (hw:WfW w) (hl:w.fcts.length≤1000) (n t kn:Int):Pure Tryz.prog 108 [.agg (eWor w),.int .i64 n,.int .i64 t,.int .i64 kn] [eInts (equalL w n t kn),eReds (equalR w n t kn)]:=by
 have hI:=in_ok n 0 4095
 have hJ:=in_ok t 0 1023
 have hN:=numbers_ok w hw Om kn
 have hnl:=nums_len w kn
 refine pure_rule hT (T:=tab) (N:=100) (rs:=[.tmp 8,.tmp 9]) Tryz.func108 rfl rfl rfl Kr rfl ?_
 cases h1:bw n 0 4095<;>rw[h1]at hI
 .have e1:equalL w n t kn=[n]:=by simp[equalL,okEq,h1]
  have e2:equalR w n t kn=[]:=by simp[equalR,okEq,h1]
  rw[e1,e2]
  (refine gW ?_;intros)
  refine hI.call ?_
  (refine gW ?_;intros;try rename_i h)
  exact⟨⟨rfl,rfl,Nat.le_refl _,rfl,fun i hi=>by rw[show i=0 from Nat.lt_one_iff.1 hi];rfl⟩,rfl,Tt⟩
 cases h2:bw t 0 1023<;>rw[h2]at hJ
 .have e1:equalL w n t kn=[n]:=by simp[equalL,okEq,h2]
  have e2:equalR w n t kn=[]:=by simp[equalR,okEq,h2]
  rw[e1,e2]
  (refine gW ?_;intros)
  refine hI.call ?_
  (refine gW ?_;intros;try rename_i h)
  refine hJ.call ?_
  (refine gW ?_;intros;try rename_i h)
  exact⟨⟨rfl,rfl,Nat.le_refl _,rfl,fun i hi=>by rw[show i=0 from Nat.lt_one_iff.1 hi];rfl⟩,rfl,Tt⟩
 have e1:equalL w n t kn=srtI (equalZ w n t kn).1:=by simp[equalL,okEq,h1,h2]
 have e2:equalR w n t kn=(equalZ w n t kn).2:=by simp[equalR,okEq,h1,h2]
 rw[e1,e2]
 have ht2:0<=t/\t<=1023:=by simpa[bw] using h2
 obtain⟨ns,hns⟩:∃ns,nums w kn=ns:=⟨_,rfl⟩
 have kE:Kp (∀j,EqI ns n (iterE w t kn ns j (startE n)).1):=⟨fun j=>by rw[<-hns];exact EqI.iter (EqI.start (nums w kn) n) j⟩
 have kR:Kp (∀j,(iterE w t kn ns j (startE n)).2.length<=1+j*ns.length):=⟨fun j=>iterE_rd (z:=startE n) j⟩
 have kS:Kp (∀j,j<=(iterE w t kn ns j (startE n)).1.length->(iterE w t kn ns j (startE n)).1.length<=j->equalZ w n t kn=iterE w t kn ns j (startE n)):=⟨fun j=>by rw[<-hns];exact equal_stop Om⟩
 rw[hns]at hN hnl
 clear hns e1 e2
 (refine gW ?_;intros)
 refine hI.call ?_
 (refine gW ?_;intros;try rename_i h)
 refine hJ.call ?_
 (refine gW ?_;intros;try rename_i h)
 refine hN.call ?_
 (refine gW ?_;intros;try rename_i h)
 refine loop_rule hT (S:=ES) (fun z=>([(2,dV t),(3,dV kn),(4,lp 0),(8,.osl (.loc 1) z.g 0 z.z.1.length),(9,bif z.f then .osl (.loc 4) z.g2 0 z.z.2.length else .d (cReds z.z.2)),(10,.d (eInts ns)),(11,.mp (.loc 2)),(12,dV z.k)],
  ⟨bX 29 (up (eWor w))::bV 3 1 z.g z.z.1.length (rowN z.z.1)::some (.map (.one .i64) (hasN z.z.1) fun key=>.d (.bool (hasN z.z.1 key)))::(bif z.f then[none,bV 107 5 z.g2 z.z.2.length (rowR z.z.2)] else[]),[]⟩))
  (fun z=>z.k<=z.z.1.length/\z.z=iterE w t kn ns z.k (startE n)) (fun z=>ns.length+2-z.k) ⟨0,0,0,false,startE n⟩ ?_ ?_ ?_
 .repeat' (first|exact Tt|exact rfl|exact Nat.le_refl _|refine And.intro ?_ ?_)
  all_goals first
   |(intro key hf;exact⟨hasN_snoc [] n key hf,fun _=>⟨valN_snoc [] n key hf,rfl⟩⟩)
   | (intro i hi
      have hi:i<1:=hi
      obtain rfl:i=0:=by omega
      exact⟨rfl,rfl⟩)
 .exact⟨Nat.zero_le _,rfl⟩
 .rintro ⟨j,g,g2,f,l,r⟩ ⟨hj,hz⟩
  dsimp only at hj hz⊢
  have hE:EqI ns n l:=by have:=kE.h j;rw[<-hz]at this;exact this
  have hlen:=hE.len
  have hrl:r.length<=1+j*ns.length:=by have:=kR.h j;rw[<-hz]at this;exact this
  have hjn:j*ns.length<=1001*1000:=Nat.mul_le_mul Om Om
  obtain⟨B,hB⟩:∃B,1+j*ns.length=B:=⟨_,rfl⟩
  have hB2:B<=1001001:=by omega
  rw[hB]at hrl
  clear hB hjn
  have kz:Kp _:=⟨hz⟩
  clear hz
  by_cases hj2:j<l.length
  .have kn1:Kp (iterE w t kn ns (j + 1) (startE n)=ns.foldl (eqS w t kn (l.getD j default)) (l,r)):=⟨by
    rw[iterE_succ,<-kz.h,rndE,if_pos hj2]
    rfl⟩
   obtain⟨a,ha⟩:∃a,l.getD j default=a:=⟨_,rfl⟩
   have hI0:RdI j a l:=⟨hj2,ha⟩
   rw[ha]at kn1
   clear ha kz
   cases f
   case false =>
    (refine gW ?_;intros;try rename_i h)
    refine loop_rule hT (S:=ES) (fun z=>([(2,dV t),(3,dV kn),(4,lp 0),(8,.osl (.loc 1) z.g 0 z.z.1.length),(9,bif z.f then .osl (.loc 4) z.g2 0 z.z.2.length else .d (cReds z.z.2)),(10,.d (eInts ns)),(11,.mp (.loc 2)),(12,dV j),(45,.d (eInts ns)),(46,dV ns.length),(47,dV z.k)],
     ⟨bX 29 (up (eWor w))::bV 3 1 z.g z.z.1.length (rowN z.z.1)::some (.map (.one .i64) (hasN z.z.1) fun key=>.d (.bool (hasN z.z.1 key)))::(bif z.f then[none,bV 107 5 z.g2 z.z.2.length (rowR z.z.2)] else[]),[]⟩))
     (fun z=>z.k<=ns.length/\EqI ns n z.z.1/\RdI j a z.z.1/\z.z.2.length<=B+z.k/\iterE w t kn ns (j+1) (startE n)=(ns.drop z.k).foldl (eqS w t kn a) z.z) (fun z=>ns.length-z.k) ⟨0,g,g2,false,(l,r)⟩ ?_ ?_ ?_
    .exact lq
    .exact⟨Nat.zero_le _,hE,hI0,hrl,kn1.h⟩
    .clear hE hI0 hrl hlen hj hj2 kn1
     rintro⟨k,g,g2,f,l,r⟩ ⟨hk,hE,hI,hrl,hc⟩
     dsimp only at hk hE hI hrl hc⊢
     have hlen:=hE.len
     have hjl:=hI.lt
     by_cases hk2:k<ns.length
     .rw [drop_at hk2,List.foldl_cons] at hc
      have hcm:ns.getD k default∈ns:=getD_mem hk2
      by_cases hin:ns.getD k default∈l
      .have hh:hasN l [ns.getD k default]=true:=decide_eq_true hin
       rw[eqS_in hin]at hc
       have kc:Kp _:=⟨hc⟩
       clear hc hin hcm
       cases f
       case false =>
        ((refine xW ?_ ?_)<;>(intros;try rename_i h))
        all_goals try (exfalso;rw[hh]at h;cases h;done)
        refine stp ⟨k+1,g,g2,false,(l,r)⟩ ?_ ⟨by show k+1<=ns.length;omega,hE,hI,by show r.length<=B+(k+1);omega,kc.h⟩
        exact lq
       case true =>
        ((refine xW ?_ ?_)<;>(intros;try rename_i h))
        all_goals try (exfalso;rw[hh]at h;cases h;done)
        refine stp ⟨k+1,g,g2,true,(l,r)⟩ ?_ ⟨by show k+1<=ns.length;omega,hE,hI,by show r.length<=B+(k+1);omega,kc.h⟩
        exact lq
      .have hh:hasN l [ns.getD k default]=false:=decide_eq_false hin
       have kc:Kp _:=⟨hc⟩
       have kin:Kp _:=⟨hin⟩
       have ha:=hI.eq
       subst ha
       clear hc hin
       cases f
       case false =>
        (refine gS ?_;intros;try rename_i h)
        refine Sq.go ?_
        (refine gS ?_;intros;try rename_i h)
        refine Sq.go ?_
        (refine gS ?_;intros;try rename_i h)
        refine Sq.go ?_
        (refine gS ?_;intros;try rename_i h)
        refine Sq.go ?_
        ((refine xS ?_ ?_)<;>(intros;try rename_i h))
        all_goals try (exfalso;rw[hh]at h;cases h;done)
        refine Sq.alt (Awp.seq (Awp.oneN hT 13 ⟨15,72,66,12,[di 2,di (min (l.getD j default) (ns.getD k default)),di (max (l.getD j default) (ns.getD k default))]⟩
         Kr Kr Kr Kr (BoxOk1.of rfl ⟨rfl,rfl,rfl⟩ rfl ⟨rfl,rfl,rfl⟩ rfl rfl rfl rfl rfl rfl rfl rfl rfl) rfl ?_))
        conv=>whnf
        (refine gS ?_;intros;try rename_i h)
        refine⟨rfl,Ev.mk (vc_ok hT _ _ _ _ (Ev.o ?_))⟩
        have hA:=at_ok w.fcts hw.fct (pairK (l.getD j default) (ns.getD k default)) t kn
        obtain⟨v,hv⟩:∃v,atV w.fcts (pairK (l.getD j default) (ns.getD k default)) t kn=v:=⟨_,rfl⟩
        rw[hv]at hA
        obtain⟨v,b⟩:=v
        by_cases hb:v=1/\b=true
        .obtain⟨rfl,rfl⟩:=hb
         have hst:=eqS_new (z:=(l,r)) kin.h hv
         have hE2:=EqI.step (w:=w) (t:=t) (kn:=kn) (a:=l.getD j default) (z:=(l,r)) hcm hE
         rw[hst]at hE2
         have kc2:=kc.h
         rw[hst]at kc2
         have kc3:Kp _:=⟨kc2⟩
         clear kc2
         (refine gW ?_;intros;try rename_i h)
         refine hA.call ?_
         (refine gW ?_;intros;try rename_i h)
         refine stp ⟨k+1,g+1,0,true,(l++[ns.getD k default],r++[rdK (pairK (l.getD j default) (ns.getD k default)) t])⟩ ?_ ⟨by show k+1<=ns.length;omega,hE2,hI.snoc,by show(r++[_]).length<=B+(k+1);rw[len_snoc];omega,kc3.h⟩
         dsimp only
         rw[len_snoc,len_snoc]
         repeat' (first|exact Tt|exact rfl|exact Nat.le_refl _|refine And.intro ?_ ?_)
         all_goals first
          |(intro key hf;exact⟨hasN_snoc l _ key hf,fun _=>⟨valN_snoc l _ key hf,rfl⟩⟩)
          |(intro i hi;exact⟨rowN_join l _ rfl i hi,rfl⟩)
          |(intro i hi;exact⟨rowR_join r (rdK (pairK (l.getD j default) (ns.getD k default)) t) rfl i hi,rfl⟩)
        .have hst:=eqS_out (z:=(l,r)) (t:=t) (kn:=kn) (a:=l.getD j default) kin.h (by rw[hv];exact fun e=>hb (by injection e with e1 e2;exact⟨e1,e2⟩))
         have kc2:=kc.h
         rw[hst]at kc2
         have kc3:Kp _:=⟨kc2⟩
         clear kc2
         cases b
         case' true=>have hv1:v≠1:=fun e=>hb ⟨e,rfl⟩
         all_goals
          clear hb hst
          (refine gW ?_;intros;try rename_i h)
          refine hA.call ?_
          (refine gW ?_;intros;try rename_i h)
          refine stp ⟨k+1,g,0,true,(l,r++[rdK (pairK (l.getD j default) (ns.getD k default)) t])⟩ ?_ ⟨by show k+1<=ns.length;omega,hE,hI,by show(r++[_]).length<=B+(k+1);rw[len_snoc];omega,kc3.h⟩
          dsimp only
          rw[len_snoc]
          repeat' (first|exact Tt|exact rfl|exact Nat.le_refl _|refine And.intro ?_ ?_)
          all_goals first
           |(intro key hf;exact⟨rfl,fun _=>⟨rfl,rfl⟩⟩)
           |(intro i hi;exact⟨rfl,rfl⟩)
           |(intro i hi;exact⟨rowR_join r (rdK (pairK (l.getD j default) (ns.getD k default)) t) rfl i hi,rfl⟩)
       case true =>
        (refine gS ?_;intros;try rename_i h)
        refine Sq.go ?_
        (refine gS ?_;intros;try rename_i h)
        refine Sq.go ?_
        (refine gS ?_;intros;try rename_i h)
        refine Sq.go ?_
        (refine gS ?_;intros;try rename_i h)
        refine Sq.go ?_
        ((refine xS ?_ ?_)<;>(intros;try rename_i h))
        all_goals try (exfalso;rw[hh]at h;cases h;done)
        refine Sq.alt (Awp.seq (Awp.oneN hT 13 ⟨15,72,66,12,[di 2,di (min (l.getD j default) (ns.getD k default)),di (max (l.getD j default) (ns.getD k default))]⟩
         Kr Kr Kr Kr (BoxOk1.of rfl ⟨rfl,rfl,rfl⟩ rfl ⟨rfl,rfl,rfl⟩ rfl rfl rfl rfl rfl rfl rfl rfl rfl) rfl ?_))
        conv=>whnf
        (refine gS ?_;intros;try rename_i h)
        refine⟨rfl,Ev.mk (vc_ok hT _ _ _ _ (Ev.o ?_))⟩
        have hA:=at_ok w.fcts hw.fct (pairK (l.getD j default) (ns.getD k default)) t kn
        obtain⟨v,hv⟩:∃v,atV w.fcts (pairK (l.getD j default) (ns.getD k default)) t kn=v:=⟨_,rfl⟩
        rw[hv]at hA
        obtain⟨v,b⟩:=v
        by_cases hb:v=1/\b=true
        .obtain⟨rfl,rfl⟩:=hb
         have hst:=eqS_new (z:=(l,r)) kin.h hv
         have hE2:=EqI.step (w:=w) (t:=t) (kn:=kn) (a:=l.getD j default) (z:=(l,r)) hcm hE
         rw[hst]at hE2
         have kc2:=kc.h
         rw[hst]at kc2
         have kc3:Kp _:=⟨kc2⟩
         clear kc2
         (refine gW ?_;intros;try rename_i h)
         refine hA.call ?_
         (refine gW ?_;intros;try rename_i h)
         refine stp ⟨k+1,g+1,(g2+1),true,(l++[ns.getD k default],r++[rdK (pairK (l.getD j default) (ns.getD k default)) t])⟩ ?_ ⟨by show k+1<=ns.length;omega,hE2,hI.snoc,by show(r++[_]).length<=B+(k+1);rw[len_snoc];omega,kc3.h⟩
         dsimp only
         rw[len_snoc,len_snoc]
         repeat' (first|exact Tt|exact rfl|exact Nat.le_refl _|refine And.intro ?_ ?_)
         all_goals first
          |(intro key hf;exact⟨hasN_snoc l _ key hf,fun _=>⟨valN_snoc l _ key hf,rfl⟩⟩)
          |(intro i hi;exact⟨rowN_join l _ rfl i hi,rfl⟩)
          |(intro i hi;exact⟨rowR_join r (rdK (pairK (l.getD j default) (ns.getD k default)) t) rfl i hi,rfl⟩)
        .have hst:=eqS_out (z:=(l,r)) (t:=t) (kn:=kn) (a:=l.getD j default) kin.h (by rw[hv];exact fun e=>hb (by injection e with e1 e2;exact⟨e1,e2⟩))
         have kc2:=kc.h
         rw[hst]at kc2
         have kc3:Kp _:=⟨kc2⟩
         clear kc2
         cases b
         case' true=>have hv1:v≠1:=fun e=>hb ⟨e,rfl⟩
         all_goals
          clear hb hst
          (refine gW ?_;intros;try rename_i h)
          refine hA.call ?_
          (refine gW ?_;intros;try rename_i h)
          refine stp ⟨k+1,g,(g2+1),true,(l,r++[rdK (pairK (l.getD j default) (ns.getD k default)) t])⟩ ?_ ⟨by show k+1<=ns.length;omega,hE,hI,by show(r++[_]).length<=B+(k+1);rw[len_snoc];omega,kc3.h⟩
          dsimp only
          rw[len_snoc]
          repeat' (first|exact Tt|exact rfl|exact Nat.le_refl _|refine And.intro ?_ ?_)
          all_goals first
           |(intro key hf;exact⟨rfl,fun _=>⟨rfl,rfl⟩⟩)
           |(intro i hi;exact⟨rfl,rfl⟩)
           |(intro i hi;exact⟨rowR_join r (rdK (pairK (l.getD j default) (ns.getD k default)) t) rfl i hi,rfl⟩)
     .have hfin:iterE w t kn ns (j+1) (startE n)=(l,r):=by rw[hc,drop_end Om,List.foldl_nil]
      have kf:Kp _:=⟨hfin⟩
      clear hc hfin
      cases f
      case false =>
       (refine gW ?_;intros;try rename_i h)
       refine stp ⟨j+1,g,g2,false,(l,r)⟩ ?_ ⟨by show j+1<=l.length;omega,kf.h.symm⟩
       exact lq
      case true =>
       (refine gW ?_;intros;try rename_i h)
       refine stp ⟨j+1,g,g2,true,(l,r)⟩ ?_ ⟨by show j+1<=l.length;omega,kf.h.symm⟩
       exact lq
   case true =>
    (refine gW ?_;intros;try rename_i h)
    refine loop_rule hT (S:=ES) (fun z=>([(2,dV t),(3,dV kn),(4,lp 0),(8,.osl (.loc 1) z.g 0 z.z.1.length),(9,bif z.f then .osl (.loc 4) z.g2 0 z.z.2.length else .d (cReds z.z.2)),(10,.d (eInts ns)),(11,.mp (.loc 2)),(12,dV j),(45,.d (eInts ns)),(46,dV ns.length),(47,dV z.k)],
     ⟨bX 29 (up (eWor w))::bV 3 1 z.g z.z.1.length (rowN z.z.1)::some (.map (.one .i64) (hasN z.z.1) fun key=>.d (.bool (hasN z.z.1 key)))::(bif z.f then[none,bV 107 5 z.g2 z.z.2.length (rowR z.z.2)] else[]),[]⟩))
     (fun z=>z.k<=ns.length/\EqI ns n z.z.1/\RdI j a z.z.1/\z.z.2.length<=B+z.k/\iterE w t kn ns (j+1) (startE n)=(ns.drop z.k).foldl (eqS w t kn a) z.z) (fun z=>ns.length-z.k) ⟨0,g,g2,true,(l,r)⟩ ?_ ?_ ?_
    .exact lq
    .exact⟨Nat.zero_le _,hE,hI0,hrl,kn1.h⟩
    .clear hE hI0 hrl hlen hj hj2 kn1
     rintro⟨k,g,g2,f,l,r⟩ ⟨hk,hE,hI,hrl,hc⟩
     dsimp only at hk hE hI hrl hc⊢
     have hlen:=hE.len
     have hjl:=hI.lt
     by_cases hk2:k<ns.length
     .rw [drop_at hk2,List.foldl_cons] at hc
      have hcm:ns.getD k default∈ns:=getD_mem hk2
      by_cases hin:ns.getD k default∈l
      .have hh:hasN l [ns.getD k default]=true:=decide_eq_true hin
       rw[eqS_in hin]at hc
       have kc:Kp _:=⟨hc⟩
       clear hc hin hcm
       cases f
       case false =>
        ((refine xW ?_ ?_)<;>(intros;try rename_i h))
        all_goals try (exfalso;rw[hh]at h;cases h;done)
        refine stp ⟨k+1,g,g2,false,(l,r)⟩ ?_ ⟨by show k+1<=ns.length;omega,hE,hI,by show r.length<=B+(k+1);omega,kc.h⟩
        exact lq
       case true =>
        ((refine xW ?_ ?_)<;>(intros;try rename_i h))
        all_goals try (exfalso;rw[hh]at h;cases h;done)
        refine stp ⟨k+1,g,g2,true,(l,r)⟩ ?_ ⟨by show k+1<=ns.length;omega,hE,hI,by show r.length<=B+(k+1);omega,kc.h⟩
        exact lq
      .have hh:hasN l [ns.getD k default]=false:=decide_eq_false hin
       have kc:Kp _:=⟨hc⟩
       have kin:Kp _:=⟨hin⟩
       have ha:=hI.eq
       subst ha
       clear hc hin
       cases f
       case false =>
        (refine gS ?_;intros;try rename_i h)
        refine Sq.go ?_
        (refine gS ?_;intros;try rename_i h)
        refine Sq.go ?_
        (refine gS ?_;intros;try rename_i h)
        refine Sq.go ?_
        (refine gS ?_;intros;try rename_i h)
        refine Sq.go ?_
        ((refine xS ?_ ?_)<;>(intros;try rename_i h))
        all_goals try (exfalso;rw[hh]at h;cases h;done)
        refine Sq.alt (Awp.seq (Awp.oneN hT 13 ⟨15,72,66,12,[di 2,di (min (l.getD j default) (ns.getD k default)),di (max (l.getD j default) (ns.getD k default))]⟩
         Kr Kr Kr Kr (BoxOk1.of rfl ⟨rfl,rfl,rfl⟩ rfl ⟨rfl,rfl,rfl⟩ rfl rfl rfl rfl rfl rfl rfl rfl rfl) rfl ?_))
        conv=>whnf
        (refine gS ?_;intros;try rename_i h)
        refine⟨rfl,Ev.mk (vc_ok hT _ _ _ _ (Ev.o ?_))⟩
        have hA:=at_ok w.fcts hw.fct (pairK (l.getD j default) (ns.getD k default)) t kn
        obtain⟨v,hv⟩:∃v,atV w.fcts (pairK (l.getD j default) (ns.getD k default)) t kn=v:=⟨_,rfl⟩
        rw[hv]at hA
        obtain⟨v,b⟩:=v
        by_cases hb:v=1/\b=true
        .obtain⟨rfl,rfl⟩:=hb
         have hst:=eqS_new (z:=(l,r)) kin.h hv
         have hE2:=EqI.step (w:=w) (t:=t) (kn:=kn) (a:=l.getD j default) (z:=(l,r)) hcm hE
         rw[hst]at hE2
         have kc2:=kc.h
         rw[hst]at kc2
         have kc3:Kp _:=⟨kc2⟩
         clear kc2
         (refine gW ?_;intros;try rename_i h)
         refine hA.call ?_
         (refine gW ?_;intros;try rename_i h)
         refine stp ⟨k+1,g+1,0,true,(l++[ns.getD k default],r++[rdK (pairK (l.getD j default) (ns.getD k default)) t])⟩ ?_ ⟨by show k+1<=ns.length;omega,hE2,hI.snoc,by show(r++[_]).length<=B+(k+1);rw[len_snoc];omega,kc3.h⟩
         dsimp only
         rw[len_snoc,len_snoc]
         repeat' (first|exact Tt|exact rfl|exact Nat.le_refl _|refine And.intro ?_ ?_)
         all_goals first
          |(intro key hf;exact⟨hasN_snoc l _ key hf,fun _=>⟨valN_snoc l _ key hf,rfl⟩⟩)
          |(intro i hi;exact⟨rowN_join l _ rfl i hi,rfl⟩)
          |(intro i hi;exact⟨rowR_join r (rdK (pairK (l.getD j default) (ns.getD k default)) t) rfl i hi,rfl⟩)
        .have hst:=eqS_out (z:=(l,r)) (t:=t) (kn:=kn) (a:=l.getD j default) kin.h (by rw[hv];exact fun e=>hb (by injection e with e1 e2;exact⟨e1,e2⟩))
         have kc2:=kc.h
         rw[hst]at kc2
         have kc3:Kp _:=⟨kc2⟩
         clear kc2
         cases b
         case' true=>have hv1:v≠1:=fun e=>hb ⟨e,rfl⟩
         all_goals
          clear hb hst
          (refine gW ?_;intros;try rename_i h)
          refine hA.call ?_
          (refine gW ?_;intros;try rename_i h)
          refine stp ⟨k+1,g,0,true,(l,r++[rdK (pairK (l.getD j default) (ns.getD k default)) t])⟩ ?_ ⟨by show k+1<=ns.length;omega,hE,hI,by show(r++[_]).length<=B+(k+1);rw[len_snoc];omega,kc3.h⟩
          dsimp only
          rw[len_snoc]
          repeat' (first|exact Tt|exact rfl|exact Nat.le_refl _|refine And.intro ?_ ?_)
          all_goals first
           |(intro key hf;exact⟨rfl,fun _=>⟨rfl,rfl⟩⟩)
           |(intro i hi;exact⟨rfl,rfl⟩)
           |(intro i hi;exact⟨rowR_join r (rdK (pairK (l.getD j default) (ns.getD k default)) t) rfl i hi,rfl⟩)
       case true =>
        (refine gS ?_;intros;try rename_i h)
        refine Sq.go ?_
        (refine gS ?_;intros;try rename_i h)
        refine Sq.go ?_
        (refine gS ?_;intros;try rename_i h)
        refine Sq.go ?_
        (refine gS ?_;intros;try rename_i h)
        refine Sq.go ?_
        ((refine xS ?_ ?_)<;>(intros;try rename_i h))
        all_goals try (exfalso;rw[hh]at h;cases h;done)
        refine Sq.alt (Awp.seq (Awp.oneN hT 13 ⟨15,72,66,12,[di 2,di (min (l.getD j default) (ns.getD k default)),di (max (l.getD j default) (ns.getD k default))]⟩
         Kr Kr Kr Kr (BoxOk1.of rfl ⟨rfl,rfl,rfl⟩ rfl ⟨rfl,rfl,rfl⟩ rfl rfl rfl rfl rfl rfl rfl rfl rfl) rfl ?_))
        conv=>whnf
        (refine gS ?_;intros;try rename_i h)
        refine⟨rfl,Ev.mk (vc_ok hT _ _ _ _ (Ev.o ?_))⟩
        have hA:=at_ok w.fcts hw.fct (pairK (l.getD j default) (ns.getD k default)) t kn
        obtain⟨v,hv⟩:∃v,atV w.fcts (pairK (l.getD j default) (ns.getD k default)) t kn=v:=⟨_,rfl⟩
        rw[hv]at hA
        obtain⟨v,b⟩:=v
        by_cases hb:v=1/\b=true
        .obtain⟨rfl,rfl⟩:=hb
         have hst:=eqS_new (z:=(l,r)) kin.h hv
         have hE2:=EqI.step (w:=w) (t:=t) (kn:=kn) (a:=l.getD j default) (z:=(l,r)) hcm hE
         rw[hst]at hE2
         have kc2:=kc.h
         rw[hst]at kc2
         have kc3:Kp _:=⟨kc2⟩
         clear kc2
         (refine gW ?_;intros;try rename_i h)
         refine hA.call ?_
         (refine gW ?_;intros;try rename_i h)
         refine stp ⟨k+1,g+1,(g2+1),true,(l++[ns.getD k default],r++[rdK (pairK (l.getD j default) (ns.getD k default)) t])⟩ ?_ ⟨by show k+1<=ns.length;omega,hE2,hI.snoc,by show(r++[_]).length<=B+(k+1);rw[len_snoc];omega,kc3.h⟩
         dsimp only
         rw[len_snoc,len_snoc]
         repeat' (first|exact Tt|exact rfl|exact Nat.le_refl _|refine And.intro ?_ ?_)
         all_goals first
          |(intro key hf;exact⟨hasN_snoc l _ key hf,fun _=>⟨valN_snoc l _ key hf,rfl⟩⟩)
          |(intro i hi;exact⟨rowN_join l _ rfl i hi,rfl⟩)
          |(intro i hi;exact⟨rowR_join r (rdK (pairK (l.getD j default) (ns.getD k default)) t) rfl i hi,rfl⟩)
        .have hst:=eqS_out (z:=(l,r)) (t:=t) (kn:=kn) (a:=l.getD j default) kin.h (by rw[hv];exact fun e=>hb (by injection e with e1 e2;exact⟨e1,e2⟩))
         have kc2:=kc.h
         rw[hst]at kc2
         have kc3:Kp _:=⟨kc2⟩
         clear kc2
         cases b
         case' true=>have hv1:v≠1:=fun e=>hb ⟨e,rfl⟩
         all_goals
          clear hb hst
          (refine gW ?_;intros;try rename_i h)
          refine hA.call ?_
          (refine gW ?_;intros;try rename_i h)
          refine stp ⟨k+1,g,(g2+1),true,(l,r++[rdK (pairK (l.getD j default) (ns.getD k default)) t])⟩ ?_ ⟨by show k+1<=ns.length;omega,hE,hI,by show(r++[_]).length<=B+(k+1);rw[len_snoc];omega,kc3.h⟩
          dsimp only
          rw[len_snoc]
          repeat' (first|exact Tt|exact rfl|exact Nat.le_refl _|refine And.intro ?_ ?_)
          all_goals first
           |(intro key hf;exact⟨rfl,fun _=>⟨rfl,rfl⟩⟩)
           |(intro i hi;exact⟨rfl,rfl⟩)
           |(intro i hi;exact⟨rowR_join r (rdK (pairK (l.getD j default) (ns.getD k default)) t) rfl i hi,rfl⟩)
     .have hfin:iterE w t kn ns (j+1) (startE n)=(l,r):=by rw[hc,drop_end Om,List.foldl_nil]
      have kf:Kp _:=⟨hfin⟩
      clear hc hfin
      cases f
      case false =>
       (refine gW ?_;intros;try rename_i h)
       refine stp ⟨j+1,g,g2,false,(l,r)⟩ ?_ ⟨by show j+1<=l.length;omega,kf.h.symm⟩
       exact lq
      case true =>
       (refine gW ?_;intros;try rename_i h)
       refine stp ⟨j+1,g,g2,true,(l,r)⟩ ?_ ⟨by show j+1<=l.length;omega,kf.h.symm⟩
       exact lq
  .have hfin:equalZ w n t kn=(l,r):=by
    have:=kS.h j
    rw[<-kz.h]at this
    exact this hj (show l.length<=j by omega)
   rw[hfin]
   have hl3:l.length<=1000000:=by omega
   clear kz kE kR kS hfin
   cases f
   case false =>
    (refine gW ?_;intros;try rename_i h)
    refine(sort_ok l hl3 g 3).at [.loc 1] rfl ⟨rfl,Tt⟩ (fun _ _=>⟨rfl,?_⟩)
    (refine gW ?_;intros;try rename_i h)
    exact⟨⟨rfl,rfl,Nat.le_of_eq (Nat.zero_add _),(srtI_len l).symm,fun i hi=>by rw[Nat.zero_add];rfl⟩,⟨rfl,rfl,fun i hi=>rfl⟩,Tt⟩
   case true =>
    (refine gW ?_;intros;try rename_i h)
    refine(sort_ok l hl3 g 3).at [.loc 1] rfl ⟨rfl,Tt⟩ (fun _ _=>⟨rfl,?_⟩)
    (refine gW ?_;intros;try rename_i h)
    exact⟨⟨rfl,rfl,Nat.le_of_eq (Nat.zero_add _),(srtI_len l).symm,fun i hi=>by rw[Nat.zero_add];rfl⟩,⟨rfl,rfl,Nat.le_of_eq (Nat.zero_add _),rfl,fun i hi=>by rw[Nat.zero_add];rfl⟩,Tt⟩
end Go.Proofs.YtkjmomadndmeaaaGreatDoor
