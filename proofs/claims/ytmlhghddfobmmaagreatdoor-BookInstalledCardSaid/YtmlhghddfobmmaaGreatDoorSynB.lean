import Derived.Test.YtmlhghddfobmmaaGreatDoorNmI
import Derived.Test.YtmlhghddfobmmaaGreatDoorNmC
import Derived.Test.YtmlhghddfobmmaaGreatDoorNamP
namespace Go.Proofs.YtmlhghddfobmmaaGreatDoor
set_option linter.unusedSimpArgs false
set_option linter.unusedVariables false
open Go Go.Ab
set_option maxRecDepth 100000
set_option maxHeartbeats 0
theorem resolveG_ok (c:Cat) (hF:CatF c):Pure Tryz.prog 14 [.agg (eCat c)] [.agg (eCat (resV c)),.int .i64 (resE c)]:=by
 refine pureP_rule hT (f:=14) (N:=224) (rs:=rsR) (pre:=[_]) Tryz.func14 rfl rfl rfl Kr rfl (G:=48) (H:=49) (r:=23) (k:=3) rfl rfl rfl rfl rfl rfl rfl rfl rfl Tryz.func48 rfl Kr rfl rfl rfl (fun a w=>rfl) (fun c h=>by cases h) (fun p pv w=>by kernel_rfl) ?_
 (refine gW ?_;intros)
 refine⟨[0,1,2],[(32,eCat c),(32,[.nils,.nils,.nils,.nils,.nils,.nils,.nils]),(38,[di 0])],[(1,ap 0),(2,ap 1),(3,ap 2)],2,Dc,⟨rfl,rfl,rfl,Tt⟩,⟨rfl,rfl,rfl,Tt⟩,⟨rfl,Tt⟩,?_⟩
 change Ev (vc _ _ _ _ _ ⟨[],ownR c⟩ _)
 have hpl:=hF.prg
 (refine gW ?_;intros)
 refine loop_rule hT (S:=Nat) (fun k=>([(1,ap 0),(2,ap 1),(3,ap 2),(25,.d (ePrgs c.prg)),(26,dV c.prg.length),(27,dV k)],⟨[],ownR c⟩)) (fun k=>k<=c.prg.length/\(c.prg.take k).all lenP=true) (fun k=>c.prg.length-k) 0 ?_ ?_ ?_
 .repeat' (first|exact Tt|exact rfl|exact Nat.le_refl _|refine And.intro ?_ ?_)
 .exact⟨Nat.zero_le _,rfl⟩
 rintro k ⟨hk,ht⟩
 have kt:Kp _:=⟨ht⟩
 clear ht
 dsimp only at hk⊢
 by_cases hk2:k<c.prg.length
 case pos =>
  obtain⟨hrl,hrq⟩:=hF.reqs _ (getD_mem hk2)
  have kR:Kp _:=⟨fun(x:Req) h=>hrq x h⟩
  clear hrq
  have kk:Kp (∀p,p=c.prg.getD k default->lenP p=true->(c.prg.take (k+1)).all lenP=true):=⟨fun p hp h=>by rw[take_succ_at hk2,List.all_append,kt.h,<-hp,List.all_cons,h];rfl⟩
  have ke:Kp (∀q,q∈(c.prg.getD k default).reqs->lenQ q=false->resE c=1):=⟨fun q hq h=>by
   have:c.prg.all lenP=false:=List.all_eq_false.2 ⟨_,getD_mem hk2,by
    rw[lenP,Bool.not_eq_true]
    exact List.all_eq_false.2 ⟨q,hq,by rw[h];exact Bool.false_ne_true⟩⟩
   rw[resE,if_neg (by rw[this];exact Bool.false_ne_true)]⟩
  (refine gW ?_;intros)
  refine loop_rule hT (S:=Nat) (fun j=>([(1,ap 0),(2,ap 1),(3,ap 2),(25,.d (ePrgs c.prg)),(26,dV c.prg.length),(27,dV k),(32,.d (eReqs (c.prg.getD k default).reqs)),(33,dV (c.prg.getD k default).reqs.length),(34,dV j)],⟨[],ownR c⟩)) (fun j=>j<=(c.prg.getD k default).reqs.length/\((c.prg.getD k default).reqs.take j).all lenQ=true) (fun j=>(c.prg.getD k default).reqs.length-j) 0 ?_ ?_ ?_
  .repeat' (first|exact Tt|exact rfl|exact Nat.le_refl _|refine And.intro ?_ ?_)
  .exact⟨Nat.zero_le _,rfl⟩
  rintro j ⟨hj,hu⟩
  have ku:Kp _:=⟨hu⟩
  clear hu
  dsimp only at hj⊢
  by_cases hj2:j<(c.prg.getD k default).reqs.length
  case pos =>
   have hqm:=getD_mem hj2
   have kuu:Kp (lenQ ((c.prg.getD k default).reqs.getD j default)=true->((c.prg.getD k default).reqs.take (j+1)).all lenQ=true):=⟨fun h=>by rw[take_succ_at hj2,List.all_append,ku.h,List.all_cons,h];rfl⟩
   by_cases hq:((c.prg.getD k default).reqs.getD j default).names.length=((c.prg.getD k default).reqs.getD j default).fr.length
   case pos =>
    have hq1:=kuu.h (decide_eq_true hq)
    have hD:=(demandM_ok (decide ((((c.prg.getD k default).reqs.getD j default).names.length:Int)=(((c.prg.getD k default).reqs.getD j default).fr.length:Int))) 1).1 (decide_eq_true Om)
    have hq2:=(kR.h _ hqm).2
    unfold fitL at hq2
    (refine gW ?_;intros)
    refine hD.call ?_
    (refine gW ?_;intros)
    refine⟨j+1,⟨by show j+1<=(c.prg.getD k default).reqs.length;omega,hq1⟩,by show(c.prg.getD k default).reqs.length-(j+1)<(c.prg.getD k default).reqs.length-j;omega,?_⟩
    repeat' (first|exact Tt|exact rfl|exact Nat.le_refl _|refine And.intro ?_ ?_)
   case neg =>
    have he:=ke.h _ hqm (decide_eq_false hq)
    have hq2:=(kR.h _ hqm).2
    have hq3:=(kR.h _ hqm).1
    unfold fitL at hq2
    (refine gS ?_;intros)
    refine Sq.go ?_;(refine gS ?_;intros)
    refine Sq.go ?_;(refine gS ?_;intros)
    have hD:=(demandM_ok (decide ((((c.prg.getD k default).reqs.getD j default).names.length:Int)=(((c.prg.getD k default).reqs.getD j default).fr.length:Int))) 1).2 (decide_eq_false Om)
    refine Sq.alt (Awp.pan hT 7 rfl rfl rfl Kr ?_)
    (refine gS ?_;intros)
    refine Pan.vc hD ⟨.d,.d,Tt⟩ ?_
    exact resPan' c 1 he Dc rfl
  case neg =>
   have hl:lenP (c.prg.getD k default)=true:=by
    have:=ku.h
    rw[List.take_of_length_le Om]at this
    exact this
   have hkk:=kk.h _ rfl hl
   (refine gW ?_;intros)
   refine⟨k+1,⟨by show k+1<=c.prg.length;omega,hkk⟩,by show c.prg.length-(k+1)<c.prg.length-k;omega,?_⟩
   repeat' (first|exact Tt|exact rfl|exact Nat.le_refl _|refine And.intro ?_ ?_)
 have hL:c.prg.all lenP=true:=by
  have:=kt.h
  rwa [List.take_of_length_le Om]at this
 have kU:Kp (uniC c=false->resE c=111):=⟨fun h=>by rw[resE,if_pos hL,if_neg (by rw[h];exact Bool.false_ne_true)]⟩
 have kV:Kp (uniC c=true->namC c=false->resE c=110):=⟨fun h h2=>by rw[resE,if_pos hL,if_pos h,if_neg (by rw[h2];exact Bool.false_ne_true)]⟩
 have kW:Kp (uniC c=true->namC c=true->resE c=ordE c.crs):=⟨fun h h2=>by rw[resE,if_pos hL,if_pos h,if_pos h2];rfl⟩
 unfold uniC at kU kV kW
 have kL:Kp _:=⟨hL⟩
 clear hL kt
 have hcl:=hF.crs
 have hcc:=hF.cls
 have hcf:=hF.fees
 have hch:=hF.hon
 (refine gS ?_;intros)
 refine Sq.go ?_;(refine gS ?_;intros)
 obtain⟨u1,hu1⟩:∃u,decide (c.crs.map (fun x=>x.name)).Nodup=u:=⟨_,rfl⟩
 have hU:=uniqMCrsS_ok c.crs Om 52 (fun x=>x.name) (fun x _=>res2_ok x)
 rw[hu1]at kU kV kW hU
 cases u1
 case false =>
  have hP:=hU.2 rfl
  refine Sq.alt (Awp.seq (Awp.pan hT 2 rfl rfl rfl Kr ?_))
  (refine gS ?_;intros)
  refine Pan.vc hP ⟨.d,.d,Tt⟩ ?_
  exact resPan' c 111 (kU.h (by simp)) Dc rfl
 have hU:=hU.1 rfl
 refine Sq.go ?_;(refine gS ?_;intros)
 refine hU.call ?_
 clear hU
 (refine gS ?_;intros)
 obtain⟨u2,hu2⟩:∃u,decide (c.crs.map (fun x=>x.number)).Nodup=u:=⟨_,rfl⟩
 have hU:=uniqMCrsI_ok c.crs Om 54 (fun x=>x.number) (fun x _=>res3_ok x)
 rw[hu2]at kU kV kW hU
 cases u2
 case false =>
  have hP:=hU.2 rfl
  refine Sq.alt (Awp.seq (Awp.pan hT 2 rfl rfl rfl Kr ?_))
  (refine gS ?_;intros)
  refine Pan.vc hP ⟨.d,.d,Tt⟩ ?_
  exact resPan' c 111 (kU.h (by simp)) Dc rfl
 have hU:=hU.1 rfl
 refine Sq.go ?_;(refine gS ?_;intros)
 refine hU.call ?_
 clear hU
 (refine gS ?_;intros)
 obtain⟨u3,hu3⟩:∃u,decide (c.prg.map (fun x=>x.name)).Nodup=u:=⟨_,rfl⟩
 have hU:=uniqMPrgS_ok c.prg Om 56 (fun x=>x.name) (fun x _=>res4_ok x)
 rw[hu3]at kU kV kW hU
 cases u3
 case false =>
  have hP:=hU.2 rfl
  refine Sq.alt (Awp.seq (Awp.pan hT 2 rfl rfl rfl Kr ?_))
  (refine gS ?_;intros)
  refine Pan.vc hP ⟨.d,.d,Tt⟩ ?_
  exact resPan' c 111 (kU.h (by simp)) Dc rfl
 have hU:=hU.1 rfl
 refine Sq.go ?_;(refine gS ?_;intros)
 refine hU.call ?_
 clear hU
 (refine gS ?_;intros)
 obtain⟨u4,hu4⟩:∃u,decide (c.prg.map (fun x=>x.number)).Nodup=u:=⟨_,rfl⟩
 have hU:=uniqMPrgI_ok c.prg Om 58 (fun x=>x.number) (fun x _=>res5_ok x)
 rw[hu4]at kU kV kW hU
 cases u4
 case false =>
  have hP:=hU.2 rfl
  refine Sq.alt (Awp.seq (Awp.pan hT 2 rfl rfl rfl Kr ?_))
  (refine gS ?_;intros)
  refine Pan.vc hP ⟨.d,.d,Tt⟩ ?_
  exact resPan' c 111 (kU.h (by simp)) Dc rfl
 have hU:=hU.1 rfl
 refine Sq.go ?_;(refine gS ?_;intros)
 refine hU.call ?_
 clear hU
 (refine gS ?_;intros)
 (refine gW ?_;intros)
 refine loop_rule hT (S:=Nat) (fun k=>([(1,ap 0),(2,ap 1),(3,ap 2),(61,.d (ePrgs c.prg)),(62,dV c.prg.length),(63,dV k)],⟨[],ownR c⟩)) (fun k=>k<=c.prg.length/\(c.prg.take k).all ndQ=true) (fun k=>c.prg.length-k) 0 ?_ ?_ ?_
 .repeat' (first|exact Tt|exact rfl|exact Nat.le_refl _|refine And.intro ?_ ?_)
 .exact⟨Nat.zero_le _,rfl⟩
 clear hk hk2
 rintro k ⟨hk,ht⟩
 have kt:Kp _:=⟨ht⟩
 clear ht
 dsimp only at hk⊢
 by_cases hk2:k<c.prg.length
 case pos =>
  have hrl:=(hF.reqs _ (getD_mem hk2)).1
  have hU:=uniqMReqS_ok (c.prg.getD k default).reqs Om 60 (fun x=>x.name) (fun x _=>res6_ok x)
  cases hn:ndQ (c.prg.getD k default) with
  | true =>
    have hP:=hU.1 hn
    have hkk:(c.prg.take (k+1)).all ndQ=true:=by rw[take_succ_at hk2,List.all_append,kt.h,List.all_cons,hn];rfl
    clear hn hU
    (refine gW ?_;intros)
    refine hP.call ?_
    (refine gW ?_;intros)
    refine⟨k+1,⟨by show k+1<=c.prg.length;omega,hkk⟩,by show c.prg.length-(k+1)<c.prg.length-k;omega,?_⟩
    repeat' (first|exact Tt|exact rfl|exact Nat.le_refl _|refine And.intro ?_ ?_)
  | false =>
    have hP:=hU.2 hn
    have hf:c.prg.all ndQ=false:=List.all_eq_false.2 ⟨_,getD_mem hk2,by rw[hn];exact Bool.false_ne_true⟩
    have he:resE c=111:=kU.h (by rw[hf];simp)
    clear hn hU
    (refine gS ?_;intros)
    refine Sq.go ?_;(refine gS ?_;intros)
    refine Sq.go ?_;(refine gS ?_;intros)
    refine Sq.alt (Awp.pan hT 2 rfl rfl rfl Kr ?_)
    (refine gS ?_;intros)
    refine Pan.vc hP ⟨.d,.d,Tt⟩ ?_
    exact resPan' c 111 he Dc rfl
 have hq:c.prg.all ndQ=true:=by
  have:=kt.h
  rwa [List.take_of_length_le Om]at this
 rw[hq]at kU kV kW
 clear hq kt
 (refine gS ?_;intros)
 refine Sq.go ?_;(refine gS ?_;intros)
 obtain⟨u6,hu6⟩:∃u,decide (c.classes.map (fun x=>x.name)).Nodup=u:=⟨_,rfl⟩
 have hU:=uniqMClsS_ok c.classes Om 62 (fun x=>x.name) (fun x _=>resc_ok x)
 rw[hu6]at kU kV kW hU
 cases u6
 case false =>
  have hP:=hU.2 rfl
  refine Sq.alt (Awp.seq (Awp.pan hT 2 rfl rfl rfl Kr ?_))
  (refine gS ?_;intros)
  refine Pan.vc hP ⟨.d,.d,Tt⟩ ?_
  exact resPan' c 111 (kU.h (by simp)) Dc rfl
 have hU:=hU.1 rfl
 refine Sq.go ?_;(refine gS ?_;intros)
 refine hU.call ?_
 clear hU
 (refine gS ?_;intros)
 obtain⟨u7,hu7⟩:∃u,decide (c.fees.map (fun x=>x.name)).Nodup=u:=⟨_,rfl⟩
 have hU:=uniqMFeeS_ok c.fees Om 64 (fun x=>x.name) (fun x _=>res7_ok x)
 rw[hu7]at kU kV kW hU
 cases u7
 case false =>
  have hP:=hU.2 rfl
  refine Sq.alt (Awp.seq (Awp.pan hT 2 rfl rfl rfl Kr ?_))
  (refine gS ?_;intros)
  refine Pan.vc hP ⟨.d,.d,Tt⟩ ?_
  exact resPan' c 111 (kU.h (by simp)) Dc rfl
 have hU:=hU.1 rfl
 refine Sq.go ?_;(refine gS ?_;intros)
 refine hU.call ?_
 clear hU
 (refine gS ?_;intros)
 obtain⟨u8,hu8⟩:∃u,decide (c.honours.map (fun x=>x.name)).Nodup=u:=⟨_,rfl⟩
 have hU:=uniqMClsS_ok c.honours Om 62 (fun x=>x.name) (fun x _=>resc_ok x)
 rw[hu8]at kU kV kW hU
 cases u8
 case false =>
  have hP:=hU.2 rfl
  refine Sq.alt (Awp.seq (Awp.pan hT 2 rfl rfl rfl Kr ?_))
  (refine gS ?_;intros)
  refine Pan.vc hP ⟨.d,.d,Tt⟩ ?_
  exact resPan' c 111 (kU.h (by simp)) Dc rfl
 have hU:=hU.1 rfl
 refine Sq.go ?_;(refine gS ?_;intros)
 refine hU.call ?_
 clear hU
 (refine gS ?_;intros)
 refine Sq.go ?_;(refine gS ?_;intros)
 have hsl:=hF.same
 refine Sq.alt (Awp.seq (Awp.effsF (m:=⟨[bX 32 (up (eCat c))],ownR c⟩) hT Kr Kr Kr
  ⟨[bX 32 [.junk,.junk,.junk,.d (eClss c.classes),.d (eFees c.fees),.d (eClss c.honours),.d (eClas c.clauses)],none,none,none],ownR c⟩ 1 3
  [⟨2,.osl (.loc 1) 1 0 c.crs.length,⟨[some (.box 32 (up (eCat c))),some (.vec 68 16 1 c.crs.length (rowsOf eCrs c.crs))],ownR c⟩,[]⟩,
   ⟨5,.osl (.loc 2) 1 0 c.same.length,⟨[bX 32 (up (eCat c)),bV 68 16 1 c.crs.length (rowsOf eCrs c.crs),bV 131 4 1 c.same.length (rowsOf ePai c.same)],ownR c⟩,[2]⟩,
   ⟨8,.osl (.loc 3) 1 0 c.prg.length,⟨[bX 32 (up (eCat c)),bV 68 16 1 c.crs.length (rowsOf eCrs c.crs),bV 131 4 1 c.same.length (rowsOf ePai c.same),bV 78 7 1 c.prg.length (rowsOf ePrg c.prg)],ownR c⟩,[5]⟩,
   ⟨10,.junk,⟨[bX 32 [.osl (.loc 1) 1 0 c.crs.length,.d (ePais c.same),.d (ePrgs c.prg),.d (eClss c.classes),.d (eFees c.fees),.d (eClss c.honours),.d (eClas c.clauses)],bV 68 16 1 c.crs.length (rowsOf eCrs c.crs),bV 131 4 1 c.same.length (rowsOf ePai c.same),bV 78 7 1 c.prg.length (rowsOf ePrg c.prg)],ownR c⟩,[8]⟩,
   ⟨12,.junk,⟨[bX 32 [.osl (.loc 1) 1 0 c.crs.length,.osl (.loc 2) 1 0 c.same.length,.d (ePrgs c.prg),.d (eClss c.classes),.d (eFees c.fees),.d (eClss c.honours),.d (eClas c.clauses)],bV 68 16 1 c.crs.length (rowsOf eCrs c.crs),bV 131 4 1 c.same.length (rowsOf ePai c.same),bV 78 7 1 c.prg.length (rowsOf ePrg c.prg)],ownR c⟩,[10]⟩,
   ⟨14,.junk,⟨[bX 32 [.osl (.loc 1) 1 0 c.crs.length,.osl (.loc 2) 1 0 c.same.length,.osl (.loc 3) 1 0 c.prg.length,.d (eClss c.classes),.d (eFees c.fees),.d (eClss c.honours),.d (eClas c.clauses)],bV 68 16 1 c.crs.length (rowsOf eCrs c.crs),bV 131 4 1 c.same.length (rowsOf ePai c.same),bV 78 7 1 c.prg.length (rowsOf ePrg c.prg)],ownR c⟩,[12]⟩]
  Kr rfl rfl (WeakF.of ⟨.inr ⟨_,rfl,WeakB.box ⟨rfl,rfl,rfl,rfl,Tt⟩⟩,Tt⟩ ⟨.inl rfl,.inl rfl,.inl rfl,Tt⟩)
  ⟨WeakF.of ⟨.inr ⟨_,rfl,WeakB.box ⟨rfl,rfl,rfl,rfl,Tt⟩⟩,Tt⟩ ⟨.inl rfl,.inl rfl,.inl rfl,Tt⟩,WeakF.of ⟨.inr ⟨_,rfl,WeakB.box ⟨rfl,rfl,rfl,rfl,Tt⟩⟩,Tt⟩ ⟨.inl rfl,.inl rfl,.inl rfl,Tt⟩,WeakF.of ⟨.inr ⟨_,rfl,WeakB.box ⟨rfl,rfl,rfl,rfl,Tt⟩⟩,Tt⟩ ⟨.inl rfl,.inl rfl,.inl rfl,Tt⟩,WeakF.of ⟨.inr ⟨_,rfl,WeakB.box ⟨rfl,rfl,rfl,rfl,Tt⟩⟩,Tt⟩ ⟨.inl rfl,.inl rfl,.inl rfl,Tt⟩,WeakF.of ⟨.inr ⟨_,rfl,WeakB.box ⟨rfl,rfl,rfl,rfl,Tt⟩⟩,Tt⟩ ⟨.inl rfl,.inl rfl,.inl rfl,Tt⟩,WeakF.of ⟨.inr ⟨_,rfl,WeakB.box ⟨rfl,rfl,rfl,rfl,Tt⟩⟩,Tt⟩ ⟨.inl rfl,.inl rfl,.inl rfl,Tt⟩,Tt⟩ ?_))
 conv=>whnf
 refine⟨?_,?_,?_,?_,?_,?_,?_⟩
 .conv=>whnf
  (refine gS ?_;intros)
  refine(cloneCrs_ok c.crs Om).at [] rfl Tt (fun _ _=>⟨rfl,?_⟩)
  (refine gS ?_;intros)
  exact⟨rfl,rfl⟩
 .conv=>whnf
  (refine gS ?_;intros)
  refine(clonePai_ok c.same Om).at [] rfl Tt (fun _ _=>⟨rfl,?_⟩)
  (refine gS ?_;intros)
  exact⟨rfl,rfl⟩
 .conv=>whnf
  (refine gS ?_;intros)
  refine(clonePrg_ok c.prg Om).at [] rfl Tt (fun _ _=>⟨rfl,?_⟩)
  (refine gS ?_;intros)
  exact⟨rfl,rfl⟩
 .conv=>whnf
  (refine gS ?_;intros)
  exact⟨Tt,rfl⟩
 .conv=>whnf
  (refine gS ?_;intros)
  exact⟨Tt,rfl⟩
 .conv=>whnf
  (refine gS ?_;intros)
  exact⟨Tt,rfl⟩
 refine Ev.mk (vc_ok hT _ _ _ _ (Ev.o ?_))
 (refine gW ?_;intros)
 refine loop_rule hT (S:=Nat) (fun k=>([(1,ap 0),(2,ap 1),(3,ap 2),(10,lp 0),(95,dV c.crs.length),(96,dV k)],⟨[bX 32 [.osl (.loc 1) 1 0 c.crs.length,.osl (.loc 2) 1 0 c.same.length,.osl (.loc 3) 1 0 c.prg.length,.d (eClss c.classes),.d (eFees c.fees),.d (eClss c.honours),.d (eClas c.clauses)],bV 68 16 1 c.crs.length (rowsOf eCrs (mixL (resX c.crs) c.crs k)),bV 131 4 1 c.same.length (rowsOf ePai c.same),bV 78 7 1 c.prg.length (rowsOf ePrg c.prg)],ownR c⟩)) (fun k=>k<=c.crs.length/\(c.crs.take k).all (okX c.crs)=true) (fun k=>c.crs.length-k) 0 ?_ ?_ ?_
 .rw[mixL_zero]
  repeat' (first|exact Tt|exact rfl|exact Nat.le_refl _|refine And.intro ?_ ?_)
  all_goals (intro i hi;exact⟨rfl,rfl⟩)
 .exact⟨Nat.zero_le _,rfl⟩
 clear hk hk2
 rintro k ⟨hk,ht⟩
 have kt:Kp _:=⟨ht⟩
 clear ht
 dsimp only at hk⊢
 by_cases hk2:k<c.crs.length
 case pos =>
  obtain⟨hc1,hc2⟩:=hF.cnt _ (getD_mem hk2)
  have hN:=ruleM_ok c Om (c.crs.getD k default).need hc1
  have hB:=ruleM_ok c Om (c.crs.getD k default).bar hc2
  have hbad:okX c.crs (c.crs.getD k default)=false->resE c=110:=fun h=>kV.h rfl (by
   have:c.crs.all (okX c.crs)=false:=List.all_eq_false.2 ⟨_,getD_mem hk2,by rw[h];exact Bool.false_ne_true⟩
   rw[namC,this]
   rfl)
  have hgood:okX c.crs (c.crs.getD k default)=true->(c.crs.take (k+1)).all (okX c.crs)=true:=fun h=>by rw[take_succ_at hk2,List.all_append,kt.h,List.all_cons,h];rfl
  unfold okX at hbad hgood
  have hLl:=mixL_len (resX c.crs) c.crs k
  have hLk:=mixL_at (resX c.crs) hk2
  have kS:Kp _:=⟨fun y hy j hj=>mixL_set (resX c.crs) eCrs (l:=c.crs) (k:=k) y hy (j:=j) hj⟩
  clear hc1 hc2
  generalize mixL (resX c.crs) c.crs k=L at hLl hLk kS⊢
  have kLk:Kp _:=⟨hLk⟩
  clear hLk
  cases hn:okN c.crs (c.crs.getD k default).need with
  | false =>
    rw[hn]at hN hbad
    have hP:=hN.2 rfl
    have he:=hbad rfl
    clear hn hN hB hbad hgood
    (refine gS ?_;intros)
    refine Sq.go ?_;(refine gS ?_;intros)
    refine Sq.go ?_;(refine gS ?_;intros)
    refine Sq.alt (Awp.panD hT Kr Kr Kr [13] [21,24,27] (chE 110) Kr ?_)
    conv=>whnf
    (refine gS ?_;intros)
    refine⟨?_,resPan' c 110 he Dc rfl⟩
    conv=>whnf
    (refine gS ?_;intros)
    exact Pan.vc hP ⟨.d,.d,Tt⟩ rfl
  | true =>
    rw[hn]at hN hbad hgood
    have hN1:=hN.1 rfl
    cases hb:okN c.crs (c.crs.getD k default).bar with
    | false =>
      rw[hb]at hB hbad
      have hP:=hB.2 rfl
      have he:=hbad rfl
      clear hn hN hB hbad hgood hb
      (refine gS ?_;intros)
      refine Sq.go ?_;(refine gS ?_;intros)
      refine Sq.go ?_;(refine gS ?_;intros)
      refine Sq.alt (Awp.panD hT Kr Kr Kr [21] [24,27] (chE 110) Kr ?_)
      conv=>whnf
      (refine gS ?_;intros)
      refine qC hN1 ?_
      (refine gS ?_;intros)
      refine⟨?_,resPan' c 110 he Dc rfl⟩
      conv=>whnf
      (refine gS ?_;intros)
      exact Pan.vc hP ⟨.d,.d,Tt⟩ rfl
    | true =>
      rw[hb]at hB hgood
      have hB1:=hB.1 rfl
      have hkt:=hgood rfl
      clear hn hN hB hbad hgood hb
      (refine gS ?_;intros)
      refine Sq.go ?_;(refine gS ?_;intros)
      refine Sq.go ?_;(refine gS ?_;intros)
      refine Sq.alt (Awp.effsF (m:=⟨[bX 32 [.osl (.loc 1) 1 0 c.crs.length,.osl (.loc 2) 1 0 c.same.length,.osl (.loc 3) 1 0 c.prg.length,.d (eClss c.classes),.d (eFees c.fees),.d (eClss c.honours),.d (eClas c.clauses)],bV 68 16 1 c.crs.length (rowsOf eCrs L),bV 131 4 1 c.same.length (rowsOf ePai c.same),bV 78 7 1 c.prg.length (rowsOf ePrg c.prg)],ownR c⟩) hT Kr Kr Kr
       ⟨[bX 32 [.osl (.loc 1) 1 0 c.crs.length,.osl (.loc 2) 1 0 c.same.length,.osl (.loc 3) 1 0 c.prg.length,.d (eClss c.classes),.d (eFees c.fees),.d (eClss c.honours),.d (eClas c.clauses)],bV 68 16 1 c.crs.length fun _=>jks 16,bV 131 4 1 c.same.length (rowsOf ePai c.same),bV 78 7 1 c.prg.length (rowsOf ePrg c.prg)],ownR c⟩ 4 3
       [⟨24,.junk,⟨[some (.box 32 [.osl (.loc 1) 1 0 c.crs.length,.osl (.loc 2) 1 0 c.same.length,.osl (.loc 3) 1 0 c.prg.length,.d (eClss c.classes),.d (eFees c.fees),.d (eClss c.honours),.d (eClas c.clauses)]),some (.vec 68 16 1 c.crs.length (fun j=>bif Nat.beq j k then splice (rowsOf eCrs L k) 4 (up (eRule (resR c.crs (c.crs.getD k default).need))) else rowsOf eCrs L j)),some (.vec 131 4 1 c.same.length (rowsOf ePai c.same)),some (.vec 78 7 1 c.prg.length (rowsOf ePrg c.prg))],ownR c⟩,[]⟩,
        ⟨27,.junk,⟨[bX 32 [.osl (.loc 1) 1 0 c.crs.length,.osl (.loc 2) 1 0 c.same.length,.osl (.loc 3) 1 0 c.prg.length,.d (eClss c.classes),.d (eFees c.fees),.d (eClss c.honours),.d (eClas c.clauses)],bV 68 16 1 c.crs.length (fun j=>bif Nat.beq j k then splice (bif Nat.beq k k then splice (rowsOf eCrs L k) 4 (up (eRule (resR c.crs (c.crs.getD k default).need))) else rowsOf eCrs L k) 10 (up (eRule (resR c.crs (c.crs.getD k default).bar))) else(bif Nat.beq j k then splice (rowsOf eCrs L k) 4 (up (eRule (resR c.crs (c.crs.getD k default).need))) else rowsOf eCrs L j)),bV 131 4 1 c.same.length (rowsOf ePai c.same),bV 78 7 1 c.prg.length (rowsOf ePrg c.prg)],ownR c⟩,[24]⟩]
       Kr rfl rfl (WeakF.of ⟨.inl rfl,.inr ⟨_,rfl,WeakB.vecJ (fun i _=>Tt)⟩,.inl rfl,.inl rfl,Tt⟩ ⟨.inl rfl,.inl rfl,.inl rfl,Tt⟩)
       ⟨WeakF.of ⟨.inl rfl,.inr ⟨_,rfl,WeakB.vecJ (fun i _=>jks_JL _ (by cases Nat.beq i k<;>rfl))⟩,.inl rfl,.inl rfl,Tt⟩ ⟨.inl rfl,.inl rfl,.inl rfl,Tt⟩,WeakF.of ⟨.inl rfl,.inr ⟨_,rfl,WeakB.vecJ (fun i _=>jks_JL _ (by cases Nat.beq i k<;>(rw[Nat.beq_refl];rfl)))⟩,.inl rfl,.inl rfl,Tt⟩ ⟨.inl rfl,.inl rfl,.inl rfl,Tt⟩,Tt⟩ ?_)
      conv=>whnf
      (refine gS ?_;intros)
      refine qC hN1 ?_
      (refine gS ?_;intros)
      refine qC hB1 ?_
      (refine gS ?_;intros)
      refine⟨?_,?_,?_⟩
      .conv=>whnf
       (refine gS ?_;intros)
       exact⟨Tt,rfl⟩
      .conv=>whnf
       (refine gS ?_;intros)
       exact⟨Tt,rfl⟩
      conv=>whnf
      (refine gW ?_;intros)
      refine⟨k+1,⟨by show k+1<=c.crs.length;omega,hkt⟩,by show c.crs.length-(k+1)<c.crs.length-k;omega,?_⟩
      repeat' (first|exact Tt|exact rfl|exact Nat.le_refl _|refine And.intro ?_ ?_)
      all_goals first
       | (intro i hi
          refine⟨?_,rfl⟩
          refine Eq.trans ?_ (kS.h (splice (splice (rowsOf eCrs L k) 4 (up (eRule (resR c.crs (c.crs.getD k default).need)))) 10 (up (eRule (resR c.crs (c.crs.getD k default).bar)))) (by show splice (splice (up (eCrs (L.getD k default))) 4 _) 10 _=_;rw[kLk.h];rfl) i hi)
          show(bif Nat.beq i k then splice (bif Nat.beq k k then splice (rowsOf eCrs L k) 4 (up (eRule (resR c.crs (c.crs.getD k default).need))) else rowsOf eCrs L k) 10 (up (eRule (resR c.crs (c.crs.getD k default).bar))) else(bif Nat.beq i k then splice (rowsOf eCrs L k) 4 (up (eRule (resR c.crs (c.crs.getD k default).need))) else rowsOf eCrs L i))=_
          rw[Nat.beq_refl,cond_true]
          cases Nat.beq i k<;>rfl)
       |(intro i hi;exact⟨rfl,rfl⟩)
 obtain rfl:k=c.crs.length:=by omega
 have hX:c.crs.all (okX c.crs)=true:=by
  have:=kt.h
  rwa [List.take_length]at this
 have kX:Kp _:=⟨hX⟩
 clear hX kt hk hk2
 (refine gS ?_;intros)
 refine Sq.go ?_;(refine gS ?_;intros)
 refine Sq.alt (Awp.le (env':=[(1,ap 0),(2,ap 1),(3,ap 2),(10,lp 0)]) (m':=⟨[bX 32 [.osl (.loc 1) 1 0 c.crs.length,.osl (.loc 2) 1 0 c.same.length,.osl (.loc 3) 1 0 c.prg.length,.d (eClss c.classes),.d (eFees c.fees),.d (eClss c.honours),.d (eClas c.clauses)],bV 68 16 1 c.crs.length (rowsOf eCrs (mixL (resX c.crs) c.crs c.crs.length)),bV 131 4 1 c.same.length (rowsOf ePai c.same),bV 78 7 1 c.prg.length (rowsOf ePrg c.prg)],ownR c⟩) ?_ (resSame c hF kL.h (fun h=>kV.h rfl (by rw[namC,kX.h,Bool.true_and];exact h)) (fun h=>kW.h rfl (by rw[namC,kX.h,Bool.true_and];exact h))))
 repeat' (first|exact Tt|exact rfl|exact Nat.le_refl _|refine And.intro ?_ ?_)
 all_goals (intro i hi;exact⟨rfl,rfl⟩)
theorem pai_eq (x y:Pai):x=y↔x.a=y.a/\x.b=y.b/\x.x=y.x/\x.y=y.y:=by
 cases x;cases y
 simp only[Pai.mk.injEq]
theorem cls_eq (x y:Cls):x=y↔x.name=y.name/\x.earn=y.earn/\x.mn=y.mn/\x.md=y.md:=by
 cases x;cases y
 simp only[Cls.mk.injEq]
theorem fee_eqS (x y:Fee):x=y↔x.name=y.name/\x.credits=y.credits:=by
 cases x;cases y
 simp only[Fee.mk.injEq]
theorem cla_eqS (x y:Cla):x=y↔x.kind=y.kind/\x.whn=y.whn/\x.action=y.action/\x.til=y.til:=by
 cases x;cases y
 simp only[Cla.mk.injEq]
theorem eqStr_ok (l m:List ByteArray)(hl:fitL l)(hm:fitL m):Pure Tryz.prog 124 [eStrs l,eStrs m] [.bool (decide (l=m))]:=by
 have hl:l.length<=9223372036854775807:=hl
 have hm:m.length<=9223372036854775807:=hm
 refine pure_rule hT (T:=tab) (N:=26) (rs:=[.tmp 4]) Tryz.func124 rfl rfl rfl Kr rfl ?_
 by_cases q:l.length=m.length
 case neg =>
  rw[decide_eq_false (fun e=>q (by rw[e]))]
  (refine gW ?_;intros)
  exact⟨rfl,Tt⟩
 (refine gW ?_;intros)
 refine loop_rule hT (S:=Nat) (fun k=>([(0,.d (eStrs l)),(1,.d (eStrs m)),(12,dV l.length),(13,dV k)],⟨[],[]⟩)) (fun k=>k<=l.length/\(l=m↔l.drop k=m.drop k)) (fun k=>l.length-k) 0 ?_ ?_ ?_
 .repeat' (first|exact Tt|exact rfl|exact Nat.le_refl _|refine And.intro ?_ ?_)
 .exact⟨Nat.zero_le _,Iff.rfl⟩
 rintro k ⟨hk,hc⟩
 have kc:Kp _:=⟨hc⟩
 clear hc
 by_cases hk2:k<l.length
 case pos =>
  have hkb:k<m.length:=by omega
  by_cases e:l.getD k default=m.getD k default
  case pos =>
   have kn:Kp (l=m↔l.drop (k+1)=m.drop (k+1)):=⟨by
    rw[kc.h,drop_at hk2,drop_at hkb,e]
    simp⟩
   skip
   (refine gW ?_;intros)
   skip
   refine⟨k+1,⟨by show k+1<=l.length;omega,kn.h⟩,by show l.length-(k+1)<l.length-k;omega,?_⟩
   repeat' (first|exact Tt|exact rfl|exact Nat.le_refl _|refine And.intro ?_ ?_)
  case neg =>
   rw[decide_eq_false (fun e2=>e (by rw[e2]))]
   (refine gW ?_;intros)
   exact⟨rfl,Tt⟩
 rw[decide_eq_true (kc.h.2 (by rw[drop_end Om,drop_end Om]))]
 (refine gW ?_;intros)
 exact⟨rfl,Tt⟩
theorem eqInt_ok (l m:List Int)(hl:fitL l)(hm:fitL m):Pure Tryz.prog 125 [eInts l,eInts m] [.bool (decide (l=m))]:=by
 have hl:l.length<=9223372036854775807:=hl
 have hm:m.length<=9223372036854775807:=hm
 refine pure_rule hT (T:=tab) (N:=26) (rs:=[.tmp 4]) Tryz.func125 rfl rfl rfl Kr rfl ?_
 by_cases q:l.length=m.length
 case neg =>
  rw[decide_eq_false (fun e=>q (by rw[e]))]
  (refine gW ?_;intros)
  exact⟨rfl,Tt⟩
 (refine gW ?_;intros)
 refine loop_rule hT (S:=Nat) (fun k=>([(0,.d (eInts l)),(1,.d (eInts m)),(12,dV l.length),(13,dV k)],⟨[],[]⟩)) (fun k=>k<=l.length/\(l=m↔l.drop k=m.drop k)) (fun k=>l.length-k) 0 ?_ ?_ ?_
 .repeat' (first|exact Tt|exact rfl|exact Nat.le_refl _|refine And.intro ?_ ?_)
 .exact⟨Nat.zero_le _,Iff.rfl⟩
 rintro k ⟨hk,hc⟩
 have kc:Kp _:=⟨hc⟩
 clear hc
 by_cases hk2:k<l.length
 case pos =>
  have hkb:k<m.length:=by omega
  by_cases e:l.getD k default=m.getD k default
  case pos =>
   have kn:Kp (l=m↔l.drop (k+1)=m.drop (k+1)):=⟨by
    rw[kc.h,drop_at hk2,drop_at hkb,e]
    simp⟩
   skip
   (refine gW ?_;intros)
   skip
   refine⟨k+1,⟨by show k+1<=l.length;omega,kn.h⟩,by show l.length-(k+1)<l.length-k;omega,?_⟩
   repeat' (first|exact Tt|exact rfl|exact Nat.le_refl _|refine And.intro ?_ ?_)
  case neg =>
   rw[decide_eq_false (fun e2=>e (by rw[e2]))]
   (refine gW ?_;intros)
   exact⟨rfl,Tt⟩
 rw[decide_eq_true (kc.h.2 (by rw[drop_end Om,drop_end Om]))]
 (refine gW ?_;intros)
 exact⟨rfl,Tt⟩
theorem eqPai_ok (l m:List Pai)(hl:fitL l)(hm:fitL m):Pure Tryz.prog 129 [ePais l,ePais m] [.bool (decide (l=m))]:=by
 have hl:l.length<=9223372036854775807:=hl
 have hm:m.length<=9223372036854775807:=hm
 refine pure_rule hT (T:=tab) (N:=26) (rs:=[.tmp 4]) Tryz.func129 rfl rfl rfl Kr rfl ?_
 by_cases q:l.length=m.length
 case neg =>
  rw[decide_eq_false (fun e=>q (by rw[e]))]
  (refine gW ?_;intros)
  exact⟨rfl,Tt⟩
 (refine gW ?_;intros)
 refine loop_rule hT (S:=Nat) (fun k=>([(0,.d (ePais l)),(1,.d (ePais m)),(12,dV l.length),(13,dV k)],⟨[],[]⟩)) (fun k=>k<=l.length/\(l=m↔l.drop k=m.drop k)) (fun k=>l.length-k) 0 ?_ ?_ ?_
 .repeat' (first|exact Tt|exact rfl|exact Nat.le_refl _|refine And.intro ?_ ?_)
 .exact⟨Nat.zero_le _,Iff.rfl⟩
 rintro k ⟨hk,hc⟩
 have kc:Kp _:=⟨hc⟩
 clear hc
 by_cases hk2:k<l.length
 case pos =>
  have hkb:k<m.length:=by omega
  by_cases e:l.getD k default=m.getD k default
  case pos =>
   have kn:Kp (l=m↔l.drop (k+1)=m.drop (k+1)):=⟨by
    rw[kc.h,drop_at hk2,drop_at hkb,e]
    simp⟩
   skip
   ((refine xW ?_ ?_)<;>(intros;try rename_i h))
   focus (exfalso;rw[e]at h;simp at h)
   refine⟨k+1,⟨by show k+1<=l.length;omega,kn.h⟩,by show l.length-(k+1)<l.length-k;omega,?_⟩
   repeat' (first|exact Tt|exact rfl|exact Nat.le_refl _|refine And.intro ?_ ?_)
  case neg =>
   rw[decide_eq_false (fun e2=>e (by rw[e2]))]
   ((refine xW ?_ ?_)<;>(intros;try rename_i h))
   (exact⟨rfl,Tt⟩);(exact absurd ((pai_eq ..).2 h) e)
 rw[decide_eq_true (kc.h.2 (by rw[drop_end Om,drop_end Om]))]
 (refine gW ?_;intros)
 exact⟨rfl,Tt⟩
theorem eqCls_ok (l m:List Cls)(hl:fitL l)(hm:fitL m):Pure Tryz.prog 131 [eClss l,eClss m] [.bool (decide (l=m))]:=by
 have hl:l.length<=9223372036854775807:=hl
 have hm:m.length<=9223372036854775807:=hm
 refine pure_rule hT (T:=tab) (N:=26) (rs:=[.tmp 4]) Tryz.func131 rfl rfl rfl Kr rfl ?_
 by_cases q:l.length=m.length
 case neg =>
  rw[decide_eq_false (fun e=>q (by rw[e]))]
  (refine gW ?_;intros)
  exact⟨rfl,Tt⟩
 (refine gW ?_;intros)
 refine loop_rule hT (S:=Nat) (fun k=>([(0,.d (eClss l)),(1,.d (eClss m)),(12,dV l.length),(13,dV k)],⟨[],[]⟩)) (fun k=>k<=l.length/\(l=m↔l.drop k=m.drop k)) (fun k=>l.length-k) 0 ?_ ?_ ?_
 .repeat' (first|exact Tt|exact rfl|exact Nat.le_refl _|refine And.intro ?_ ?_)
 .exact⟨Nat.zero_le _,Iff.rfl⟩
 rintro k ⟨hk,hc⟩
 have kc:Kp _:=⟨hc⟩
 clear hc
 by_cases hk2:k<l.length
 case pos =>
  have hkb:k<m.length:=by omega
  by_cases e:l.getD k default=m.getD k default
  case pos =>
   have kn:Kp (l=m↔l.drop (k+1)=m.drop (k+1)):=⟨by
    rw[kc.h,drop_at hk2,drop_at hkb,e]
    simp⟩
   skip
   ((refine xW ?_ ?_)<;>(intros;try rename_i h))
   focus (exfalso;rw[e]at h;simp at h)
   refine⟨k+1,⟨by show k+1<=l.length;omega,kn.h⟩,by show l.length-(k+1)<l.length-k;omega,?_⟩
   repeat' (first|exact Tt|exact rfl|exact Nat.le_refl _|refine And.intro ?_ ?_)
  case neg =>
   rw[decide_eq_false (fun e2=>e (by rw[e2]))]
   ((refine xW ?_ ?_)<;>(intros;try rename_i h))
   (exact⟨rfl,Tt⟩);(exact absurd ((cls_eq ..).2 h) e)
 rw[decide_eq_true (kc.h.2 (by rw[drop_end Om,drop_end Om]))]
 (refine gW ?_;intros)
 exact⟨rfl,Tt⟩
theorem eqFee_ok (l m:List Fee)(hl:fitL l)(hm:fitL m):Pure Tryz.prog 132 [eFees l,eFees m] [.bool (decide (l=m))]:=by
 have hl:l.length<=9223372036854775807:=hl
 have hm:m.length<=9223372036854775807:=hm
 refine pure_rule hT (T:=tab) (N:=26) (rs:=[.tmp 4]) Tryz.func132 rfl rfl rfl Kr rfl ?_
 by_cases q:l.length=m.length
 case neg =>
  rw[decide_eq_false (fun e=>q (by rw[e]))]
  (refine gW ?_;intros)
  exact⟨rfl,Tt⟩
 (refine gW ?_;intros)
 refine loop_rule hT (S:=Nat) (fun k=>([(0,.d (eFees l)),(1,.d (eFees m)),(12,dV l.length),(13,dV k)],⟨[],[]⟩)) (fun k=>k<=l.length/\(l=m↔l.drop k=m.drop k)) (fun k=>l.length-k) 0 ?_ ?_ ?_
 .repeat' (first|exact Tt|exact rfl|exact Nat.le_refl _|refine And.intro ?_ ?_)
 .exact⟨Nat.zero_le _,Iff.rfl⟩
 rintro k ⟨hk,hc⟩
 have kc:Kp _:=⟨hc⟩
 clear hc
 by_cases hk2:k<l.length
 case pos =>
  have hkb:k<m.length:=by omega
  by_cases e:l.getD k default=m.getD k default
  case pos =>
   have kn:Kp (l=m↔l.drop (k+1)=m.drop (k+1)):=⟨by
    rw[kc.h,drop_at hk2,drop_at hkb,e]
    simp⟩
   skip
   ((refine xW ?_ ?_)<;>(intros;try rename_i h))
   focus (exfalso;rw[e]at h;simp at h)
   refine⟨k+1,⟨by show k+1<=l.length;omega,kn.h⟩,by show l.length-(k+1)<l.length-k;omega,?_⟩
   repeat' (first|exact Tt|exact rfl|exact Nat.le_refl _|refine And.intro ?_ ?_)
  case neg =>
   rw[decide_eq_false (fun e2=>e (by rw[e2]))]
   ((refine xW ?_ ?_)<;>(intros;try rename_i h))
   (exact⟨rfl,Tt⟩);(exact absurd ((fee_eqS ..).2 h) e)
 rw[decide_eq_true (kc.h.2 (by rw[drop_end Om,drop_end Om]))]
 (refine gW ?_;intros)
 exact⟨rfl,Tt⟩
theorem eqCla_ok (l m:List Cla)(hl:fitL l)(hm:fitL m):Pure Tryz.prog 133 [eClas l,eClas m] [.bool (decide (l=m))]:=by
 have hl:l.length<=9223372036854775807:=hl
 have hm:m.length<=9223372036854775807:=hm
 refine pure_rule hT (T:=tab) (N:=26) (rs:=[.tmp 4]) Tryz.func133 rfl rfl rfl Kr rfl ?_
 by_cases q:l.length=m.length
 case neg =>
  rw[decide_eq_false (fun e=>q (by rw[e]))]
  (refine gW ?_;intros)
  exact⟨rfl,Tt⟩
 (refine gW ?_;intros)
 refine loop_rule hT (S:=Nat) (fun k=>([(0,.d (eClas l)),(1,.d (eClas m)),(12,dV l.length),(13,dV k)],⟨[],[]⟩)) (fun k=>k<=l.length/\(l=m↔l.drop k=m.drop k)) (fun k=>l.length-k) 0 ?_ ?_ ?_
 .repeat' (first|exact Tt|exact rfl|exact Nat.le_refl _|refine And.intro ?_ ?_)
 .exact⟨Nat.zero_le _,Iff.rfl⟩
 rintro k ⟨hk,hc⟩
 have kc:Kp _:=⟨hc⟩
 clear hc
 by_cases hk2:k<l.length
 case pos =>
  have hkb:k<m.length:=by omega
  by_cases e:l.getD k default=m.getD k default
  case pos =>
   have kn:Kp (l=m↔l.drop (k+1)=m.drop (k+1)):=⟨by
    rw[kc.h,drop_at hk2,drop_at hkb,e]
    simp⟩
   skip
   ((refine xW ?_ ?_)<;>(intros;try rename_i h))
   focus (exfalso;rw[e]at h;simp at h)
   refine⟨k+1,⟨by show k+1<=l.length;omega,kn.h⟩,by show l.length-(k+1)<l.length-k;omega,?_⟩
   repeat' (first|exact Tt|exact rfl|exact Nat.le_refl _|refine And.intro ?_ ?_)
  case neg =>
   rw[decide_eq_false (fun e2=>e (by rw[e2]))]
   ((refine xW ?_ ?_)<;>(intros;try rename_i h))
   (exact⟨rfl,Tt⟩);(exact absurd ((cla_eqS ..).2 h) e)
 rw[decide_eq_true (kc.h.2 (by rw[drop_end Om,drop_end Om]))]
 (refine gW ?_;intros)
 exact⟨rfl,Tt⟩
end Go.Proofs.YtmlhghddfobmmaaGreatDoor
