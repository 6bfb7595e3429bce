import Derived.Test.YtmlhghddfobmmaaGreatDoorNmI
import Derived.Test.YtmlhghddfobmmaaGreatDoorNmC
import Derived.Test.YtmlhghddfobmmaaGreatDoorInsP
namespace Go.Proofs.YtmlhghddfobmmaaGreatDoor
set_option linter.unusedSimpArgs false
set_option linter.unusedVariables false
open Go Go.Ab
set_option maxRecDepth 100000
set_option maxHeartbeats 0
theorem Q3p (c:Cat) (hF:Yl c):Pure Tryz.prog 14 [.agg (Q0 c)] [.agg (Q0 (Qj c)),.int .i64 (J1 c)]:=by
 refine Qdk hT (f:=14) (N:=224) (rs:=rsR) (pre:=[_]) Tryz.func14 rfl rfl rfl Kr rfl (G:=48) (H:=49) (r:=23) (k:=3) rfl rfl rfl rfl rfl rfl rfl rfl rfl Tryz.func48 rfl Kr rfl rfl rfl (fun a w=>rfl) (fun c h=>by cases h) (fun p pv w=>by kernel_rfl) ?_
 (refine gW ?_;intros)
 refine⟨[0,1,2],[(32,Q0 c),(32,[.nils,.nils,.nils,.nils,.nils,.nils,.nils]),(38,[di 0])],[(1,ap 0),(2,ap 1),(3,ap 2)],2,Dc,⟨rfl,rfl,rfl,Tt⟩,⟨rfl,rfl,rfl,Tt⟩,⟨rfl,Tt⟩,?_⟩
 change Ev (vc _ _ _ _ _ ⟨[],Jy c⟩ _)
 have hpl:=hF.prg
 (refine gW ?_;intros)
 refine Q7 hT (S:=Nat) (fun k=>([(1,ap 0),(2,ap 1),(3,ap 2),(25,.d (Qw c.prg)),(26,dV c.prg.length),(27,dV k)],⟨[],Jy c⟩)) (fun k=>k<=c.prg.length/\(c.prg.take k).all Vr=true) (fun k=>c.prg.length-k) 0 ?_ ?_ ?_
 .repeat' (first|exact Tt|exact rfl|exact Qgx _|refine And.intro ?_ ?_)
 .exact⟨Qh3 _,rfl⟩
 rintro k ⟨hk,ht⟩
 have kt:Kp _:=⟨ht⟩
 clear ht
 dsimp only at hk⊢
 by_cases hk2:k<c.prg.length
 case pos =>
  obtain⟨hrl,hrq⟩:=hF.reqs _ (Qe hk2)
  have kR:Kp _:=⟨fun(x:Req) h=>hrq x h⟩
  clear hrq
  have kk:Kp (∀p,p=c.prg.getD k default->Vr p=true->(c.prg.take (k+1)).all Vr=true):=⟨fun p hp h=>by rw[Js hk2,Qii,kt.h,<-hp,Qi5,h];rfl⟩
  have ke:Kp (∀q,q∈(c.prg.getD k default).reqs->Vs q=false->J1 c=1):=⟨fun q hq h=>by
   have:c.prg.all Vr=false:=List.all_eq_false.2 ⟨_,Qe hk2,by
    rw[Vr,Bool.not_eq_true]
    exact List.all_eq_false.2 ⟨q,hq,by rw[h];exact Qhl⟩⟩
   rw[J1,if_neg (by rw[this];exact Qhl)]⟩
  (refine gW ?_;intros)
  refine Q7 hT (S:=Nat) (fun j=>([(1,ap 0),(2,ap 1),(3,ap 2),(25,.d (Qw c.prg)),(26,dV c.prg.length),(27,dV k),(32,.d (Xz (c.prg.getD k default).reqs)),(33,dV (c.prg.getD k default).reqs.length),(34,dV j)],⟨[],Jy c⟩)) (fun j=>j<=(c.prg.getD k default).reqs.length/\((c.prg.getD k default).reqs.take j).all Vs=true) (fun j=>(c.prg.getD k default).reqs.length-j) 0 ?_ ?_ ?_
  .repeat' (first|exact Tt|exact rfl|exact Qgx _|refine And.intro ?_ ?_)
  .exact⟨Qh3 _,rfl⟩
  rintro j ⟨hj,hu⟩
  have ku:Kp _:=⟨hu⟩
  clear hu
  dsimp only at hj⊢
  by_cases hj2:j<(c.prg.getD k default).reqs.length
  case pos =>
   have hqm:=Qe hj2
   have kuu:Kp (Vs ((c.prg.getD k default).reqs.getD j default)=true->((c.prg.getD k default).reqs.take (j+1)).all Vs=true):=⟨fun h=>by rw[Js hj2,Qii,ku.h,Qi5,h];rfl⟩
   by_cases hq:((c.prg.getD k default).reqs.getD j default).names.length=((c.prg.getD k default).reqs.getD j default).fr.length
   case pos =>
    have hq1:=kuu.h (Qh8 hq)
    have hD:=(Vp (decide ((((c.prg.getD k default).reqs.getD j default).names.length:Int)=(((c.prg.getD k default).reqs.getD j default).fr.length:Int))) 1).1 (Qh8 Om)
    have hq2:=(kR.h _ hqm).2
    unfold Qg at hq2
    (refine gW ?_;intros)
    refine hD.call ?_
    (refine gW ?_;intros)
    refine⟨j+1,⟨by show j+1<=(c.prg.getD k default).reqs.length;omega,hq1⟩,by show(c.prg.getD k default).reqs.length-(j+1)<(c.prg.getD k default).reqs.length-j;omega,?_⟩
    repeat' (first|exact Tt|exact rfl|exact Qgx _|refine And.intro ?_ ?_)
   case neg =>
    have he:=ke.h _ hqm (Qh0 hq)
    have hq2:=(kR.h _ hqm).2
    have hq3:=(kR.h _ hqm).1
    unfold Qg at hq2
    (refine gS ?_;intros)
    refine Sq.go ?_;(refine gS ?_;intros)
    refine Sq.go ?_;(refine gS ?_;intros)
    have hD:=(Vp (decide ((((c.prg.getD k default).reqs.getD j default).names.length:Int)=(((c.prg.getD k default).reqs.getD j default).fr.length:Int))) 1).2 (Qh0 Om)
    refine Sq.alt (Awp.pan hT 7 rfl rfl rfl Kr ?_)
    (refine gS ?_;intros)
    refine Pan.vc hD ⟨.d,.d,Tt⟩ ?_
    exact Yh c 1 he Dc rfl
  case neg =>
   have hl:Vr (c.prg.getD k default)=true:=by
    have:=ku.h
    rw[Qhn Om]at this
    exact this
   have hkk:=kk.h _ rfl hl
   (refine gW ?_;intros)
   refine⟨k+1,⟨by show k+1<=c.prg.length;omega,hkk⟩,by show c.prg.length-(k+1)<c.prg.length-k;omega,?_⟩
   repeat' (first|exact Tt|exact rfl|exact Qgx _|refine And.intro ?_ ?_)
 have hL:c.prg.all Vr=true:=by
  have:=kt.h
  rwa [Qhn Om]at this
 have kU:Kp (Hf c=false->J1 c=111):=⟨fun h=>by rw[J1,if_pos hL,if_neg (by rw[h];exact Qhl)]⟩
 have kV:Kp (Hf c=true->Vf c=false->J1 c=110):=⟨fun h h2=>by rw[J1,if_pos hL,if_pos h,if_neg (by rw[h2];exact Qhl)]⟩
 have kW:Kp (Hf c=true->Vf c=true->J1 c=Xp c.crs):=⟨fun h h2=>by rw[J1,if_pos hL,if_pos h,if_pos h2];rfl⟩
 unfold Hf at kU kV kW
 have kL:Kp _:=⟨hL⟩
 clear hL kt
 have hcl:=hF.crs
 have hcc:=hF.cls
 have hcf:=hF.fees
 have hch:=hF.hon
 (refine gS ?_;intros)
 refine Sq.go ?_;(refine gS ?_;intros)
 obtain⟨u1,hu1⟩:∃u,decide (c.crs.map (fun x=>x.name)).Nodup=u:=⟨_,rfl⟩
 have hU:=Qg6 c.crs Om 52 (fun x=>x.name) (fun x _=>Qdz x)
 rw[hu1]at kU kV kW hU
 cases u1
 case false =>
  have hP:=hU.2 rfl
  refine Sq.alt (Awp.seq (Awp.pan hT 2 rfl rfl rfl Kr ?_))
  (refine gS ?_;intros)
  refine Pan.vc hP ⟨.d,.d,Tt⟩ ?_
  exact Yh c 111 (kU.h (by simp)) Dc rfl
 have hU:=hU.1 rfl
 refine Sq.go ?_;(refine gS ?_;intros)
 refine hU.call ?_
 clear hU
 (refine gS ?_;intros)
 obtain⟨u2,hu2⟩:∃u,decide (c.crs.map (fun x=>x.number)).Nodup=u:=⟨_,rfl⟩
 have hU:=Qg5 c.crs Om 54 (fun x=>x.number) (fun x _=>Qe0 x)
 rw[hu2]at kU kV kW hU
 cases u2
 case false =>
  have hP:=hU.2 rfl
  refine Sq.alt (Awp.seq (Awp.pan hT 2 rfl rfl rfl Kr ?_))
  (refine gS ?_;intros)
  refine Pan.vc hP ⟨.d,.d,Tt⟩ ?_
  exact Yh c 111 (kU.h (by simp)) Dc rfl
 have hU:=hU.1 rfl
 refine Sq.go ?_;(refine gS ?_;intros)
 refine hU.call ?_
 clear hU
 (refine gS ?_;intros)
 obtain⟨u3,hu3⟩:∃u,decide (c.prg.map (fun x=>x.name)).Nodup=u:=⟨_,rfl⟩
 have hU:=Qg9 c.prg Om 56 (fun x=>x.name) (fun x _=>Qe1 x)
 rw[hu3]at kU kV kW hU
 cases u3
 case false =>
  have hP:=hU.2 rfl
  refine Sq.alt (Awp.seq (Awp.pan hT 2 rfl rfl rfl Kr ?_))
  (refine gS ?_;intros)
  refine Pan.vc hP ⟨.d,.d,Tt⟩ ?_
  exact Yh c 111 (kU.h (by simp)) Dc rfl
 have hU:=hU.1 rfl
 refine Sq.go ?_;(refine gS ?_;intros)
 refine hU.call ?_
 clear hU
 (refine gS ?_;intros)
 obtain⟨u4,hu4⟩:∃u,decide (c.prg.map (fun x=>x.number)).Nodup=u:=⟨_,rfl⟩
 have hU:=Qg8 c.prg Om 58 (fun x=>x.number) (fun x _=>Qe2 x)
 rw[hu4]at kU kV kW hU
 cases u4
 case false =>
  have hP:=hU.2 rfl
  refine Sq.alt (Awp.seq (Awp.pan hT 2 rfl rfl rfl Kr ?_))
  (refine gS ?_;intros)
  refine Pan.vc hP ⟨.d,.d,Tt⟩ ?_
  exact Yh c 111 (kU.h (by simp)) Dc rfl
 have hU:=hU.1 rfl
 refine Sq.go ?_;(refine gS ?_;intros)
 refine hU.call ?_
 clear hU
 (refine gS ?_;intros)
 (refine gW ?_;intros)
 refine Q7 hT (S:=Nat) (fun k=>([(1,ap 0),(2,ap 1),(3,ap 2),(61,.d (Qw c.prg)),(62,dV c.prg.length),(63,dV k)],⟨[],Jy c⟩)) (fun k=>k<=c.prg.length/\(c.prg.take k).all ndQ=true) (fun k=>c.prg.length-k) 0 ?_ ?_ ?_
 .repeat' (first|exact Tt|exact rfl|exact Qgx _|refine And.intro ?_ ?_)
 .exact⟨Qh3 _,rfl⟩
 clear hk hk2
 rintro k ⟨hk,ht⟩
 have kt:Kp _:=⟨ht⟩
 clear ht
 dsimp only at hk⊢
 by_cases hk2:k<c.prg.length
 case pos =>
  have hrl:=(hF.reqs _ (Qe hk2)).1
  have hU:=Qga (c.prg.getD k default).reqs Om 60 (fun x=>x.name) (fun x _=>Qe3 x)
  cases hn:ndQ (c.prg.getD k default) with
  | true =>
    have hP:=hU.1 hn
    have hkk:(c.prg.take (k+1)).all ndQ=true:=by rw[Js hk2,Qii,kt.h,Qi5,hn];rfl
    clear hn hU
    (refine gW ?_;intros)
    refine hP.call ?_
    (refine gW ?_;intros)
    refine⟨k+1,⟨by show k+1<=c.prg.length;omega,hkk⟩,by show c.prg.length-(k+1)<c.prg.length-k;omega,?_⟩
    repeat' (first|exact Tt|exact rfl|exact Qgx _|refine And.intro ?_ ?_)
  | false =>
    have hP:=hU.2 hn
    have hf:c.prg.all ndQ=false:=List.all_eq_false.2 ⟨_,Qe hk2,by rw[hn];exact Qhl⟩
    have he:J1 c=111:=kU.h (by rw[hf];simp)
    clear hn hU
    (refine gS ?_;intros)
    refine Sq.go ?_;(refine gS ?_;intros)
    refine Sq.go ?_;(refine gS ?_;intros)
    refine Sq.alt (Awp.pan hT 2 rfl rfl rfl Kr ?_)
    (refine gS ?_;intros)
    refine Pan.vc hP ⟨.d,.d,Tt⟩ ?_
    exact Yh c 111 he Dc rfl
 have hq:c.prg.all ndQ=true:=by
  have:=kt.h
  rwa [Qhn Om]at this
 rw[hq]at kU kV kW
 clear hq kt
 (refine gS ?_;intros)
 refine Sq.go ?_;(refine gS ?_;intros)
 obtain⟨u6,hu6⟩:∃u,decide (c.classes.map (fun x=>x.name)).Nodup=u:=⟨_,rfl⟩
 have hU:=Q4q c.classes Om 62 (fun x=>x.name) (fun x _=>Q3o x)
 rw[hu6]at kU kV kW hU
 cases u6
 case false =>
  have hP:=hU.2 rfl
  refine Sq.alt (Awp.seq (Awp.pan hT 2 rfl rfl rfl Kr ?_))
  (refine gS ?_;intros)
  refine Pan.vc hP ⟨.d,.d,Tt⟩ ?_
  exact Yh c 111 (kU.h (by simp)) Dc rfl
 have hU:=hU.1 rfl
 refine Sq.go ?_;(refine gS ?_;intros)
 refine hU.call ?_
 clear hU
 (refine gS ?_;intros)
 obtain⟨u7,hu7⟩:∃u,decide (c.fees.map (fun x=>x.name)).Nodup=u:=⟨_,rfl⟩
 have hU:=Qg7 c.fees Om 64 (fun x=>x.name) (fun x _=>Qe4 x)
 rw[hu7]at kU kV kW hU
 cases u7
 case false =>
  have hP:=hU.2 rfl
  refine Sq.alt (Awp.seq (Awp.pan hT 2 rfl rfl rfl Kr ?_))
  (refine gS ?_;intros)
  refine Pan.vc hP ⟨.d,.d,Tt⟩ ?_
  exact Yh c 111 (kU.h (by simp)) Dc rfl
 have hU:=hU.1 rfl
 refine Sq.go ?_;(refine gS ?_;intros)
 refine hU.call ?_
 clear hU
 (refine gS ?_;intros)
 obtain⟨u8,hu8⟩:∃u,decide (c.honours.map (fun x=>x.name)).Nodup=u:=⟨_,rfl⟩
 have hU:=Q4q c.honours Om 62 (fun x=>x.name) (fun x _=>Q3o x)
 rw[hu8]at kU kV kW hU
 cases u8
 case false =>
  have hP:=hU.2 rfl
  refine Sq.alt (Awp.seq (Awp.pan hT 2 rfl rfl rfl Kr ?_))
  (refine gS ?_;intros)
  refine Pan.vc hP ⟨.d,.d,Tt⟩ ?_
  exact Yh c 111 (kU.h (by simp)) Dc rfl
 have hU:=hU.1 rfl
 refine Sq.go ?_;(refine gS ?_;intros)
 refine hU.call ?_
 clear hU
 (refine gS ?_;intros)
 refine Sq.go ?_;(refine gS ?_;intros)
 have hsl:=hF.same
 refine Sq.alt (Awp.seq (Awp.effsF (m:=⟨[bX 32 (up (Q0 c))],Jy c⟩) hT Kr Kr Kr
  ⟨[bX 32 [.junk,.junk,.junk,.d (Qk c.classes),.d (Jk c.fees),.d (Qk c.honours),.d (Jq c.clauses)],none,none,none],Jy c⟩ 1 3
  [⟨2,.osl (.loc 1) 1 0 c.crs.length,⟨[some (.box 32 (up (Q0 c))),some (.vec 68 16 1 c.crs.length (rowsOf Q6 c.crs))],Jy c⟩,[]⟩,
   ⟨5,.osl (.loc 2) 1 0 c.same.length,⟨[bX 32 (up (Q0 c)),bV 68 16 1 c.crs.length (rowsOf Q6 c.crs),bV 131 4 1 c.same.length (rowsOf Qv c.same)],Jy c⟩,[2]⟩,
   ⟨8,.osl (.loc 3) 1 0 c.prg.length,⟨[bX 32 (up (Q0 c)),bV 68 16 1 c.crs.length (rowsOf Q6 c.crs),bV 131 4 1 c.same.length (rowsOf Qv c.same),bV 78 7 1 c.prg.length (rowsOf Q9 c.prg)],Jy c⟩,[5]⟩,
   ⟨10,.junk,⟨[bX 32 [.osl (.loc 1) 1 0 c.crs.length,.d (Xh c.same),.d (Qw c.prg),.d (Qk c.classes),.d (Jk c.fees),.d (Qk c.honours),.d (Jq c.clauses)],bV 68 16 1 c.crs.length (rowsOf Q6 c.crs),bV 131 4 1 c.same.length (rowsOf Qv c.same),bV 78 7 1 c.prg.length (rowsOf Q9 c.prg)],Jy c⟩,[8]⟩,
   ⟨12,.junk,⟨[bX 32 [.osl (.loc 1) 1 0 c.crs.length,.osl (.loc 2) 1 0 c.same.length,.d (Qw c.prg),.d (Qk c.classes),.d (Jk c.fees),.d (Qk c.honours),.d (Jq c.clauses)],bV 68 16 1 c.crs.length (rowsOf Q6 c.crs),bV 131 4 1 c.same.length (rowsOf Qv c.same),bV 78 7 1 c.prg.length (rowsOf Q9 c.prg)],Jy c⟩,[10]⟩,
   ⟨14,.junk,⟨[bX 32 [.osl (.loc 1) 1 0 c.crs.length,.osl (.loc 2) 1 0 c.same.length,.osl (.loc 3) 1 0 c.prg.length,.d (Qk c.classes),.d (Jk c.fees),.d (Qk c.honours),.d (Jq c.clauses)],bV 68 16 1 c.crs.length (rowsOf Q6 c.crs),bV 131 4 1 c.same.length (rowsOf Qv c.same),bV 78 7 1 c.prg.length (rowsOf Q9 c.prg)],Jy c⟩,[12]⟩]
  Kr rfl rfl (Qt.of ⟨.inr ⟨_,rfl,Qo.box ⟨rfl,rfl,rfl,rfl,Tt⟩⟩,Tt⟩ ⟨.inl rfl,.inl rfl,.inl rfl,Tt⟩)
  ⟨Qt.of ⟨.inr ⟨_,rfl,Qo.box ⟨rfl,rfl,rfl,rfl,Tt⟩⟩,Tt⟩ ⟨.inl rfl,.inl rfl,.inl rfl,Tt⟩,Qt.of ⟨.inr ⟨_,rfl,Qo.box ⟨rfl,rfl,rfl,rfl,Tt⟩⟩,Tt⟩ ⟨.inl rfl,.inl rfl,.inl rfl,Tt⟩,Qt.of ⟨.inr ⟨_,rfl,Qo.box ⟨rfl,rfl,rfl,rfl,Tt⟩⟩,Tt⟩ ⟨.inl rfl,.inl rfl,.inl rfl,Tt⟩,Qt.of ⟨.inr ⟨_,rfl,Qo.box ⟨rfl,rfl,rfl,rfl,Tt⟩⟩,Tt⟩ ⟨.inl rfl,.inl rfl,.inl rfl,Tt⟩,Qt.of ⟨.inr ⟨_,rfl,Qo.box ⟨rfl,rfl,rfl,rfl,Tt⟩⟩,Tt⟩ ⟨.inl rfl,.inl rfl,.inl rfl,Tt⟩,Qt.of ⟨.inr ⟨_,rfl,Qo.box ⟨rfl,rfl,rfl,rfl,Tt⟩⟩,Tt⟩ ⟨.inl rfl,.inl rfl,.inl rfl,Tt⟩,Tt⟩ ?_))
 conv=>whnf
 refine⟨?_,?_,?_,?_,?_,?_,?_⟩
 .conv=>whnf
  (refine gS ?_;intros)
  refine(Q75 c.crs Om).at [] rfl Tt (fun _ _=>⟨rfl,?_⟩)
  (refine gS ?_;intros)
  exact⟨rfl,rfl⟩
 .conv=>whnf
  (refine gS ?_;intros)
  refine(Q77 c.same Om).at [] rfl Tt (fun _ _=>⟨rfl,?_⟩)
  (refine gS ?_;intros)
  exact⟨rfl,rfl⟩
 .conv=>whnf
  (refine gS ?_;intros)
  refine(Q78 c.prg Om).at [] rfl Tt (fun _ _=>⟨rfl,?_⟩)
  (refine gS ?_;intros)
  exact⟨rfl,rfl⟩
 .conv=>whnf
  (refine gS ?_;intros)
  exact⟨Tt,rfl⟩
 .conv=>whnf
  (refine gS ?_;intros)
  exact⟨Tt,rfl⟩
 .conv=>whnf
  (refine gS ?_;intros)
  exact⟨Tt,rfl⟩
 refine Ev.mk (Z3 hT _ _ _ _ (Ev.o ?_))
 (refine gW ?_;intros)
 refine Q7 hT (S:=Nat) (fun k=>([(1,ap 0),(2,ap 1),(3,ap 2),(10,lp 0),(95,dV c.crs.length),(96,dV k)],⟨[bX 32 [.osl (.loc 1) 1 0 c.crs.length,.osl (.loc 2) 1 0 c.same.length,.osl (.loc 3) 1 0 c.prg.length,.d (Qk c.classes),.d (Jk c.fees),.d (Qk c.honours),.d (Jq c.clauses)],bV 68 16 1 c.crs.length (rowsOf Q6 (J8 (Jo c.crs) c.crs k)),bV 131 4 1 c.same.length (rowsOf Qv c.same),bV 78 7 1 c.prg.length (rowsOf Q9 c.prg)],Jy c⟩)) (fun k=>k<=c.crs.length/\(c.crs.take k).all (okX c.crs)=true) (fun k=>c.crs.length-k) 0 ?_ ?_ ?_
 .rw[M6]
  repeat' (first|exact Tt|exact rfl|exact Qgx _|refine And.intro ?_ ?_)
  all_goals (intro i hi;exact⟨rfl,rfl⟩)
 .exact⟨Qh3 _,rfl⟩
 clear hk hk2
 rintro k ⟨hk,ht⟩
 have kt:Kp _:=⟨ht⟩
 clear ht
 dsimp only at hk⊢
 by_cases hk2:k<c.crs.length
 case pos =>
  obtain⟨hc1,hc2⟩:=hF.cnt _ (Qe hk2)
  have hN:=Q40 c Om (c.crs.getD k default).need hc1
  have hB:=Q40 c Om (c.crs.getD k default).bar hc2
  have hbad:okX c.crs (c.crs.getD k default)=false->J1 c=110:=fun h=>kV.h rfl (by
   have:c.crs.all (okX c.crs)=false:=List.all_eq_false.2 ⟨_,Qe hk2,by rw[h];exact Qhl⟩
   rw[Vf,this]
   rfl)
  have hgood:okX c.crs (c.crs.getD k default)=true->(c.crs.take (k+1)).all (okX c.crs)=true:=fun h=>by rw[Js hk2,Qii,kt.h,Qi5,h];rfl
  unfold okX at hbad hgood
  have hLl:=M5 (Jo c.crs) c.crs k
  have hLk:=M3 (Jo c.crs) hk2
  have kS:Kp _:=⟨fun y hy j hj=>Dz (Jo c.crs) Q6 (l:=c.crs) (k:=k) y hy (j:=j) hj⟩
  clear hc1 hc2
  generalize J8 (Jo c.crs) c.crs k=L at hLl hLk kS⊢
  have kLk:Kp _:=⟨hLk⟩
  clear hLk
  cases hn:okN c.crs (c.crs.getD k default).need with
  | false =>
    rw[hn]at hN hbad
    have hP:=hN.2 rfl
    have he:=hbad rfl
    clear hn hN hB hbad hgood
    (refine gS ?_;intros)
    refine Sq.go ?_;(refine gS ?_;intros)
    refine Sq.go ?_;(refine gS ?_;intros)
    refine Sq.alt (Awp.panD hT Kr Kr Kr [13] [21,24,27] (chE 110) Kr ?_)
    conv=>whnf
    (refine gS ?_;intros)
    refine⟨?_,Yh c 110 he Dc rfl⟩
    conv=>whnf
    (refine gS ?_;intros)
    exact Pan.vc hP ⟨.d,.d,Tt⟩ rfl
  | true =>
    rw[hn]at hN hbad hgood
    have hN1:=hN.1 rfl
    cases hb:okN c.crs (c.crs.getD k default).bar with
    | false =>
      rw[hb]at hB hbad
      have hP:=hB.2 rfl
      have he:=hbad rfl
      clear hn hN hB hbad hgood hb
      (refine gS ?_;intros)
      refine Sq.go ?_;(refine gS ?_;intros)
      refine Sq.go ?_;(refine gS ?_;intros)
      refine Sq.alt (Awp.panD hT Kr Kr Kr [21] [24,27] (chE 110) Kr ?_)
      conv=>whnf
      (refine gS ?_;intros)
      refine qC hN1 ?_
      (refine gS ?_;intros)
      refine⟨?_,Yh c 110 he Dc rfl⟩
      conv=>whnf
      (refine gS ?_;intros)
      exact Pan.vc hP ⟨.d,.d,Tt⟩ rfl
    | true =>
      rw[hb]at hB hgood
      have hB1:=hB.1 rfl
      have hkt:=hgood rfl
      clear hn hN hB hbad hgood hb
      (refine gS ?_;intros)
      refine Sq.go ?_;(refine gS ?_;intros)
      refine Sq.go ?_;(refine gS ?_;intros)
      refine Sq.alt (Awp.effsF (m:=⟨[bX 32 [.osl (.loc 1) 1 0 c.crs.length,.osl (.loc 2) 1 0 c.same.length,.osl (.loc 3) 1 0 c.prg.length,.d (Qk c.classes),.d (Jk c.fees),.d (Qk c.honours),.d (Jq c.clauses)],bV 68 16 1 c.crs.length (rowsOf Q6 L),bV 131 4 1 c.same.length (rowsOf Qv c.same),bV 78 7 1 c.prg.length (rowsOf Q9 c.prg)],Jy c⟩) hT Kr Kr Kr
       ⟨[bX 32 [.osl (.loc 1) 1 0 c.crs.length,.osl (.loc 2) 1 0 c.same.length,.osl (.loc 3) 1 0 c.prg.length,.d (Qk c.classes),.d (Jk c.fees),.d (Qk c.honours),.d (Jq c.clauses)],bV 68 16 1 c.crs.length fun _=>jks 16,bV 131 4 1 c.same.length (rowsOf Qv c.same),bV 78 7 1 c.prg.length (rowsOf Q9 c.prg)],Jy c⟩ 4 3
       [⟨24,.junk,⟨[some (.box 32 [.osl (.loc 1) 1 0 c.crs.length,.osl (.loc 2) 1 0 c.same.length,.osl (.loc 3) 1 0 c.prg.length,.d (Qk c.classes),.d (Jk c.fees),.d (Qk c.honours),.d (Jq c.clauses)]),some (.vec 68 16 1 c.crs.length (fun j=>bif Nat.beq j k then splice (rowsOf Q6 L k) 4 (up (Q2 (Qy c.crs (c.crs.getD k default).need))) else rowsOf Q6 L j)),some (.vec 131 4 1 c.same.length (rowsOf Qv c.same)),some (.vec 78 7 1 c.prg.length (rowsOf Q9 c.prg))],Jy c⟩,[]⟩,
        ⟨27,.junk,⟨[bX 32 [.osl (.loc 1) 1 0 c.crs.length,.osl (.loc 2) 1 0 c.same.length,.osl (.loc 3) 1 0 c.prg.length,.d (Qk c.classes),.d (Jk c.fees),.d (Qk c.honours),.d (Jq c.clauses)],bV 68 16 1 c.crs.length (fun j=>bif Nat.beq j k then splice (bif Nat.beq k k then splice (rowsOf Q6 L k) 4 (up (Q2 (Qy c.crs (c.crs.getD k default).need))) else rowsOf Q6 L k) 10 (up (Q2 (Qy c.crs (c.crs.getD k default).bar))) else(bif Nat.beq j k then splice (rowsOf Q6 L k) 4 (up (Q2 (Qy c.crs (c.crs.getD k default).need))) else rowsOf Q6 L j)),bV 131 4 1 c.same.length (rowsOf Qv c.same),bV 78 7 1 c.prg.length (rowsOf Q9 c.prg)],Jy c⟩,[24]⟩]
       Kr rfl rfl (Qt.of ⟨.inl rfl,.inr ⟨_,rfl,Qo.vecJ (fun i _=>Tt)⟩,.inl rfl,.inl rfl,Tt⟩ ⟨.inl rfl,.inl rfl,.inl rfl,Tt⟩)
       ⟨Qt.of ⟨.inl rfl,.inr ⟨_,rfl,Qo.vecJ (fun i _=>Rp _ (by cases Nat.beq i k<;>rfl))⟩,.inl rfl,.inl rfl,Tt⟩ ⟨.inl rfl,.inl rfl,.inl rfl,Tt⟩,Qt.of ⟨.inl rfl,.inr ⟨_,rfl,Qo.vecJ (fun i _=>Rp _ (by cases Nat.beq i k<;>(rw[Nat.beq_refl];rfl)))⟩,.inl rfl,.inl rfl,Tt⟩ ⟨.inl rfl,.inl rfl,.inl rfl,Tt⟩,Tt⟩ ?_)
      conv=>whnf
      (refine gS ?_;intros)
      refine qC hN1 ?_
      (refine gS ?_;intros)
      refine qC hB1 ?_
      (refine gS ?_;intros)
      refine⟨?_,?_,?_⟩
      .conv=>whnf
       (refine gS ?_;intros)
       exact⟨Tt,rfl⟩
      .conv=>whnf
       (refine gS ?_;intros)
       exact⟨Tt,rfl⟩
      conv=>whnf
      (refine gW ?_;intros)
      refine⟨k+1,⟨by show k+1<=c.crs.length;omega,hkt⟩,by show c.crs.length-(k+1)<c.crs.length-k;omega,?_⟩
      repeat' (first|exact Tt|exact rfl|exact Qgx _|refine And.intro ?_ ?_)
      all_goals first
       | (intro i hi
          refine⟨?_,rfl⟩
          refine Eq.trans ?_ (kS.h (splice (splice (rowsOf Q6 L k) 4 (up (Q2 (Qy c.crs (c.crs.getD k default).need)))) 10 (up (Q2 (Qy c.crs (c.crs.getD k default).bar)))) (by show splice (splice (up (Q6 (L.getD k default))) 4 _) 10 _=_;rw[kLk.h];rfl) i hi)
          show(bif Nat.beq i k then splice (bif Nat.beq k k then splice (rowsOf Q6 L k) 4 (up (Q2 (Qy c.crs (c.crs.getD k default).need))) else rowsOf Q6 L k) 10 (up (Q2 (Qy c.crs (c.crs.getD k default).bar))) else(bif Nat.beq i k then splice (rowsOf Q6 L k) 4 (up (Q2 (Qy c.crs (c.crs.getD k default).need))) else rowsOf Q6 L i))=_
          rw[Nat.beq_refl,cond_true]
          cases Nat.beq i k<;>rfl)
       |(intro i hi;exact⟨rfl,rfl⟩)
 obtain rfl:k=c.crs.length:=by omega
 have hX:c.crs.all (okX c.crs)=true:=by
  have:=kt.h
  rwa [Qhp]at this
 have kX:Kp _:=⟨hX⟩
 clear hX kt hk hk2
 (refine gS ?_;intros)
 refine Sq.go ?_;(refine gS ?_;intros)
 refine Sq.alt (Awp.le (env':=[(1,ap 0),(2,ap 1),(3,ap 2),(10,lp 0)]) (m':=⟨[bX 32 [.osl (.loc 1) 1 0 c.crs.length,.osl (.loc 2) 1 0 c.same.length,.osl (.loc 3) 1 0 c.prg.length,.d (Qk c.classes),.d (Jk c.fees),.d (Qk c.honours),.d (Jq c.clauses)],bV 68 16 1 c.crs.length (rowsOf Q6 (J8 (Jo c.crs) c.crs c.crs.length)),bV 131 4 1 c.same.length (rowsOf Qv c.same),bV 78 7 1 c.prg.length (rowsOf Q9 c.prg)],Jy c⟩) ?_ (Qe8 c hF kL.h (fun h=>kV.h rfl (by rw[Vf,kX.h,Qhy];exact h)) (fun h=>kW.h rfl (by rw[Vf,kX.h,Qhy];exact h))))
 repeat' (first|exact Tt|exact rfl|exact Qgx _|refine And.intro ?_ ?_)
 all_goals (intro i hi;exact⟨rfl,rfl⟩)
theorem Q32 (x y:Pai):x=y↔x.a=y.a/\x.b=y.b/\x.x=y.x/\x.y=y.y:=by
 cases x;cases y
 simp only[Pai.mk.injEq]
theorem Q7c (x y:Cls):x=y↔x.name=y.name/\x.earn=y.earn/\x.mn=y.mn/\x.md=y.md:=by
 cases x;cases y
 simp only[Cls.mk.injEq]
theorem Q9b (x y:Fee):x=y↔x.name=y.name/\x.credits=y.credits:=by
 cases x;cases y
 simp only[Fee.mk.injEq]
theorem Q6v (x y:Cla):x=y↔x.kind=y.kind/\x.whn=y.whn/\x.action=y.action/\x.til=y.til:=by
 cases x;cases y
 simp only[Cla.mk.injEq]
theorem Q89 (l m:List ByteArray)(hl:Qg l)(hm:Qg m):Pure Tryz.prog 124 [Y0 l,Y0 m] [.bool (decide (l=m))]:=by
 have hl:l.length<=9223372036854775807:=hl
 have hm:m.length<=9223372036854775807:=hm
 refine Q4 hT (T:=tab) (N:=26) (rs:=[.tmp 4]) Tryz.func124 rfl rfl rfl Kr rfl ?_
 by_cases q:l.length=m.length
 case neg =>
  rw[Qh0 (fun e=>q (by rw[e]))]
  (refine gW ?_;intros)
  exact⟨rfl,Tt⟩
 (refine gW ?_;intros)
 refine Q7 hT (S:=Nat) (fun k=>([(0,.d (Y0 l)),(1,.d (Y0 m)),(12,dV l.length),(13,dV k)],⟨[],[]⟩)) (fun k=>k<=l.length/\(l=m↔l.drop k=m.drop k)) (fun k=>l.length-k) 0 ?_ ?_ ?_
 .repeat' (first|exact Tt|exact rfl|exact Qgx _|refine And.intro ?_ ?_)
 .exact⟨Qh3 _,Iff.rfl⟩
 rintro k ⟨hk,hc⟩
 have kc:Kp _:=⟨hc⟩
 clear hc
 by_cases hk2:k<l.length
 case pos =>
  have hkb:k<m.length:=by omega
  by_cases e:l.getD k default=m.getD k default
  case pos =>
   have kn:Kp (l=m↔l.drop (k+1)=m.drop (k+1)):=⟨by
    rw[kc.h,Qc hk2,Qc hkb,e]
    simp⟩
   skip
   (refine gW ?_;intros)
   skip
   refine⟨k+1,⟨by show k+1<=l.length;omega,kn.h⟩,by show l.length-(k+1)<l.length-k;omega,?_⟩
   repeat' (first|exact Tt|exact rfl|exact Qgx _|refine And.intro ?_ ?_)
  case neg =>
   rw[Qh0 (fun e2=>e (by rw[e2]))]
   (refine gW ?_;intros)
   exact⟨rfl,Tt⟩
 rw[Qh8 (kc.h.2 (by rw[Qr Om,Qr Om]))]
 (refine gW ?_;intros)
 exact⟨rfl,Tt⟩
theorem Q84 (l m:List Int)(hl:Qg l)(hm:Qg m):Pure Tryz.prog 125 [J6 l,J6 m] [.bool (decide (l=m))]:=by
 have hl:l.length<=9223372036854775807:=hl
 have hm:m.length<=9223372036854775807:=hm
 refine Q4 hT (T:=tab) (N:=26) (rs:=[.tmp 4]) Tryz.func125 rfl rfl rfl Kr rfl ?_
 by_cases q:l.length=m.length
 case neg =>
  rw[Qh0 (fun e=>q (by rw[e]))]
  (refine gW ?_;intros)
  exact⟨rfl,Tt⟩
 (refine gW ?_;intros)
 refine Q7 hT (S:=Nat) (fun k=>([(0,.d (J6 l)),(1,.d (J6 m)),(12,dV l.length),(13,dV k)],⟨[],[]⟩)) (fun k=>k<=l.length/\(l=m↔l.drop k=m.drop k)) (fun k=>l.length-k) 0 ?_ ?_ ?_
 .repeat' (first|exact Tt|exact rfl|exact Qgx _|refine And.intro ?_ ?_)
 .exact⟨Qh3 _,Iff.rfl⟩
 rintro k ⟨hk,hc⟩
 have kc:Kp _:=⟨hc⟩
 clear hc
 by_cases hk2:k<l.length
 case pos =>
  have hkb:k<m.length:=by omega
  by_cases e:l.getD k default=m.getD k default
  case pos =>
   have kn:Kp (l=m↔l.drop (k+1)=m.drop (k+1)):=⟨by
    rw[kc.h,Qc hk2,Qc hkb,e]
    simp⟩
   skip
   (refine gW ?_;intros)
   skip
   refine⟨k+1,⟨by show k+1<=l.length;omega,kn.h⟩,by show l.length-(k+1)<l.length-k;omega,?_⟩
   repeat' (first|exact Tt|exact rfl|exact Qgx _|refine And.intro ?_ ?_)
  case neg =>
   rw[Qh0 (fun e2=>e (by rw[e2]))]
   (refine gW ?_;intros)
   exact⟨rfl,Tt⟩
 rw[Qh8 (kc.h.2 (by rw[Qr Om,Qr Om]))]
 (refine gW ?_;intros)
 exact⟨rfl,Tt⟩
theorem Q85 (l m:List Pai)(hl:Qg l)(hm:Qg m):Pure Tryz.prog 129 [Xh l,Xh m] [.bool (decide (l=m))]:=by
 have hl:l.length<=9223372036854775807:=hl
 have hm:m.length<=9223372036854775807:=hm
 refine Q4 hT (T:=tab) (N:=26) (rs:=[.tmp 4]) Tryz.func129 rfl rfl rfl Kr rfl ?_
 by_cases q:l.length=m.length
 case neg =>
  rw[Qh0 (fun e=>q (by rw[e]))]
  (refine gW ?_;intros)
  exact⟨rfl,Tt⟩
 (refine gW ?_;intros)
 refine Q7 hT (S:=Nat) (fun k=>([(0,.d (Xh l)),(1,.d (Xh m)),(12,dV l.length),(13,dV k)],⟨[],[]⟩)) (fun k=>k<=l.length/\(l=m↔l.drop k=m.drop k)) (fun k=>l.length-k) 0 ?_ ?_ ?_
 .repeat' (first|exact Tt|exact rfl|exact Qgx _|refine And.intro ?_ ?_)
 .exact⟨Qh3 _,Iff.rfl⟩
 rintro k ⟨hk,hc⟩
 have kc:Kp _:=⟨hc⟩
 clear hc
 by_cases hk2:k<l.length
 case pos =>
  have hkb:k<m.length:=by omega
  by_cases e:l.getD k default=m.getD k default
  case pos =>
   have kn:Kp (l=m↔l.drop (k+1)=m.drop (k+1)):=⟨by
    rw[kc.h,Qc hk2,Qc hkb,e]
    simp⟩
   skip
   ((refine xW ?_ ?_)<;>(intros;try rename_i h))
   focus (exfalso;rw[e]at h;simp at h)
   refine⟨k+1,⟨by show k+1<=l.length;omega,kn.h⟩,by show l.length-(k+1)<l.length-k;omega,?_⟩
   repeat' (first|exact Tt|exact rfl|exact Qgx _|refine And.intro ?_ ?_)
  case neg =>
   rw[Qh0 (fun e2=>e (by rw[e2]))]
   ((refine xW ?_ ?_)<;>(intros;try rename_i h))
   (exact⟨rfl,Tt⟩);(exact absurd ((Q32 ..).2 h) e)
 rw[Qh8 (kc.h.2 (by rw[Qr Om,Qr Om]))]
 (refine gW ?_;intros)
 exact⟨rfl,Tt⟩
theorem Q03 (l m:List Cls)(hl:Qg l)(hm:Qg m):Pure Tryz.prog 131 [Qk l,Qk m] [.bool (decide (l=m))]:=by
 have hl:l.length<=9223372036854775807:=hl
 have hm:m.length<=9223372036854775807:=hm
 refine Q4 hT (T:=tab) (N:=26) (rs:=[.tmp 4]) Tryz.func131 rfl rfl rfl Kr rfl ?_
 by_cases q:l.length=m.length
 case neg =>
  rw[Qh0 (fun e=>q (by rw[e]))]
  (refine gW ?_;intros)
  exact⟨rfl,Tt⟩
 (refine gW ?_;intros)
 refine Q7 hT (S:=Nat) (fun k=>([(0,.d (Qk l)),(1,.d (Qk m)),(12,dV l.length),(13,dV k)],⟨[],[]⟩)) (fun k=>k<=l.length/\(l=m↔l.drop k=m.drop k)) (fun k=>l.length-k) 0 ?_ ?_ ?_
 .repeat' (first|exact Tt|exact rfl|exact Qgx _|refine And.intro ?_ ?_)
 .exact⟨Qh3 _,Iff.rfl⟩
 rintro k ⟨hk,hc⟩
 have kc:Kp _:=⟨hc⟩
 clear hc
 by_cases hk2:k<l.length
 case pos =>
  have hkb:k<m.length:=by omega
  by_cases e:l.getD k default=m.getD k default
  case pos =>
   have kn:Kp (l=m↔l.drop (k+1)=m.drop (k+1)):=⟨by
    rw[kc.h,Qc hk2,Qc hkb,e]
    simp⟩
   skip
   ((refine xW ?_ ?_)<;>(intros;try rename_i h))
   focus (exfalso;rw[e]at h;simp at h)
   refine⟨k+1,⟨by show k+1<=l.length;omega,kn.h⟩,by show l.length-(k+1)<l.length-k;omega,?_⟩
   repeat' (first|exact Tt|exact rfl|exact Qgx _|refine And.intro ?_ ?_)
  case neg =>
   rw[Qh0 (fun e2=>e (by rw[e2]))]
   ((refine xW ?_ ?_)<;>(intros;try rename_i h))
   (exact⟨rfl,Tt⟩);(exact absurd ((Q7c ..).2 h) e)
 rw[Qh8 (kc.h.2 (by rw[Qr Om,Qr Om]))]
 (refine gW ?_;intros)
 exact⟨rfl,Tt⟩
theorem Q83 (l m:List Fee)(hl:Qg l)(hm:Qg m):Pure Tryz.prog 132 [Jk l,Jk m] [.bool (decide (l=m))]:=by
 have hl:l.length<=9223372036854775807:=hl
 have hm:m.length<=9223372036854775807:=hm
 refine Q4 hT (T:=tab) (N:=26) (rs:=[.tmp 4]) Tryz.func132 rfl rfl rfl Kr rfl ?_
 by_cases q:l.length=m.length
 case neg =>
  rw[Qh0 (fun e=>q (by rw[e]))]
  (refine gW ?_;intros)
  exact⟨rfl,Tt⟩
 (refine gW ?_;intros)
 refine Q7 hT (S:=Nat) (fun k=>([(0,.d (Jk l)),(1,.d (Jk m)),(12,dV l.length),(13,dV k)],⟨[],[]⟩)) (fun k=>k<=l.length/\(l=m↔l.drop k=m.drop k)) (fun k=>l.length-k) 0 ?_ ?_ ?_
 .repeat' (first|exact Tt|exact rfl|exact Qgx _|refine And.intro ?_ ?_)
 .exact⟨Qh3 _,Iff.rfl⟩
 rintro k ⟨hk,hc⟩
 have kc:Kp _:=⟨hc⟩
 clear hc
 by_cases hk2:k<l.length
 case pos =>
  have hkb:k<m.length:=by omega
  by_cases e:l.getD k default=m.getD k default
  case pos =>
   have kn:Kp (l=m↔l.drop (k+1)=m.drop (k+1)):=⟨by
    rw[kc.h,Qc hk2,Qc hkb,e]
    simp⟩
   skip
   ((refine xW ?_ ?_)<;>(intros;try rename_i h))
   focus (exfalso;rw[e]at h;simp at h)
   refine⟨k+1,⟨by show k+1<=l.length;omega,kn.h⟩,by show l.length-(k+1)<l.length-k;omega,?_⟩
   repeat' (first|exact Tt|exact rfl|exact Qgx _|refine And.intro ?_ ?_)
  case neg =>
   rw[Qh0 (fun e2=>e (by rw[e2]))]
   ((refine xW ?_ ?_)<;>(intros;try rename_i h))
   (exact⟨rfl,Tt⟩);(exact absurd ((Q9b ..).2 h) e)
 rw[Qh8 (kc.h.2 (by rw[Qr Om,Qr Om]))]
 (refine gW ?_;intros)
 exact⟨rfl,Tt⟩
theorem Q81 (l m:List Cla)(hl:Qg l)(hm:Qg m):Pure Tryz.prog 133 [Jq l,Jq m] [.bool (decide (l=m))]:=by
 have hl:l.length<=9223372036854775807:=hl
 have hm:m.length<=9223372036854775807:=hm
 refine Q4 hT (T:=tab) (N:=26) (rs:=[.tmp 4]) Tryz.func133 rfl rfl rfl Kr rfl ?_
 by_cases q:l.length=m.length
 case neg =>
  rw[Qh0 (fun e=>q (by rw[e]))]
  (refine gW ?_;intros)
  exact⟨rfl,Tt⟩
 (refine gW ?_;intros)
 refine Q7 hT (S:=Nat) (fun k=>([(0,.d (Jq l)),(1,.d (Jq m)),(12,dV l.length),(13,dV k)],⟨[],[]⟩)) (fun k=>k<=l.length/\(l=m↔l.drop k=m.drop k)) (fun k=>l.length-k) 0 ?_ ?_ ?_
 .repeat' (first|exact Tt|exact rfl|exact Qgx _|refine And.intro ?_ ?_)
 .exact⟨Qh3 _,Iff.rfl⟩
 rintro k ⟨hk,hc⟩
 have kc:Kp _:=⟨hc⟩
 clear hc
 by_cases hk2:k<l.length
 case pos =>
  have hkb:k<m.length:=by omega
  by_cases e:l.getD k default=m.getD k default
  case pos =>
   have kn:Kp (l=m↔l.drop (k+1)=m.drop (k+1)):=⟨by
    rw[kc.h,Qc hk2,Qc hkb,e]
    simp⟩
   skip
   ((refine xW ?_ ?_)<;>(intros;try rename_i h))
   focus (exfalso;rw[e]at h;simp at h)
   refine⟨k+1,⟨by show k+1<=l.length;omega,kn.h⟩,by show l.length-(k+1)<l.length-k;omega,?_⟩
   repeat' (first|exact Tt|exact rfl|exact Qgx _|refine And.intro ?_ ?_)
  case neg =>
   rw[Qh0 (fun e2=>e (by rw[e2]))]
   ((refine xW ?_ ?_)<;>(intros;try rename_i h))
   (exact⟨rfl,Tt⟩);(exact absurd ((Q6v ..).2 h) e)
 rw[Qh8 (kc.h.2 (by rw[Qr Om,Qr Om]))]
 (refine gW ?_;intros)
 exact⟨rfl,Tt⟩
theorem Q8d (l m:List Q1)(hl:Qg l)(hm:Qg m)(hf:∀x∈l,∀y∈m,Pure Tryz.prog 122 [.agg (Q2 x),.agg (Q2 y)] [.bool (decide (x=y))]) :
 Pure Tryz.prog 174 [J0 l,J0 m,.fn (.func 122) [] []] [.bool (decide (l=m))]:=by
 have hl:l.length<=9223372036854775807:=hl
 have hm:m.length<=9223372036854775807:=hm
 have kf:Kp _:=⟨hf⟩
 clear hf
 refine Q4 hT (T:=tab) (N:=32) (rs:=[.tmp 6]) Tryz.func174 rfl rfl rfl Kr rfl ?_
 by_cases q:l.length=m.length
 case neg =>
  rw[Qh0 (fun e=>q (by rw[e]))]
  (refine gW ?_;intros)
  exact⟨rfl,Tt⟩
 (refine gW ?_;intros)
 refine Q7 hT (S:=Nat) (fun k=>([(1,.d (J0 m)),(2,.d (.fn (.func 122) [] [])),(15,.d (J0 l)),(16,dV l.length),(17,dV k)],⟨[],[]⟩)) (fun k=>k<=l.length/\(l=m↔l.drop k=m.drop k)) (fun k=>l.length-k) 0 ?_ ?_ ?_
 .repeat' (first|exact Tt|exact rfl|exact Qgx _|refine And.intro ?_ ?_)
 .exact⟨Qh3 _,Iff.rfl⟩
 rintro k ⟨hk,hc⟩
 have kc:Kp _:=⟨hc⟩
 clear hc
 by_cases hk2:k<l.length
 case pos =>
  have hkb:k<m.length:=by omega
  rw[Gk (ks:=l) (fun e=>by rw[e]at hk2;exact absurd hk2 (Qhh _)),Gk (ks:=m) (fun e=>by rw[e]at hkb;exact absurd hkb (Qhh _))]
  have hP:=kf.h _ (Qe hk2) _ (Qe hkb)
  by_cases e:l.getD k default=m.getD k default
  case pos =>
   rw[Qh8 e]at hP
   have kn:Kp (l=m↔l.drop (k+1)=m.drop (k+1)):=⟨by
    rw[kc.h,Qc hk2,Qc hkb,e]
    simp⟩
   clear e
   (refine gW ?_;intros)
   refine hP.call ?_
   (refine gW ?_;intros)
   refine⟨k+1,⟨by show k+1<=l.length;omega,kn.h⟩,by show l.length-(k+1)<l.length-k;omega,?_⟩
   repeat' (first|exact Tt|exact rfl|exact Qgx _|refine And.intro ?_ ?_)
  case neg =>
   rw[Qh0 e]at hP
   rw[Qh0 (fun e2=>e (by rw[e2]))]
   clear e
   (refine gW ?_;intros)
   refine hP.call ?_
   (refine gW ?_;intros)
   exact⟨rfl,Tt⟩
 rw[Qh8 (kc.h.2 (by rw[Qr Om,Qr Om]))]
 (refine gW ?_;intros)
 exact⟨rfl,Tt⟩
theorem Q8a (l m:List Crs)(hl:Qg l)(hm:Qg m)(hf:∀x∈l,∀y∈m,Pure Tryz.prog 121 [.agg (Q6 x),.agg (Q6 y)] [.bool (decide (x=y))]) :
 Pure Tryz.prog 128 [J2 l,J2 m,.fn (.func 121) [] []] [.bool (decide (l=m))]:=by
 have hl:l.length<=9223372036854775807:=hl
 have hm:m.length<=9223372036854775807:=hm
 have kf:Kp _:=⟨hf⟩
 clear hf
 refine Q4 hT (T:=tab) (N:=32) (rs:=[.tmp 6]) Tryz.func128 rfl rfl rfl Kr rfl ?_
 by_cases q:l.length=m.length
 case neg =>
  rw[Qh0 (fun e=>q (by rw[e]))]
  (refine gW ?_;intros)
  exact⟨rfl,Tt⟩
 (refine gW ?_;intros)
 refine Q7 hT (S:=Nat) (fun k=>([(1,.d (J2 m)),(2,.d (.fn (.func 121) [] [])),(15,.d (J2 l)),(16,dV l.length),(17,dV k)],⟨[],[]⟩)) (fun k=>k<=l.length/\(l=m↔l.drop k=m.drop k)) (fun k=>l.length-k) 0 ?_ ?_ ?_
 .repeat' (first|exact Tt|exact rfl|exact Qgx _|refine And.intro ?_ ?_)
 .exact⟨Qh3 _,Iff.rfl⟩
 rintro k ⟨hk,hc⟩
 have kc:Kp _:=⟨hc⟩
 clear hc
 by_cases hk2:k<l.length
 case pos =>
  have hkb:k<m.length:=by omega
  skip
  have hP:=kf.h _ (Qe hk2) _ (Qe hkb)
  by_cases e:l.getD k default=m.getD k default
  case pos =>
   rw[Qh8 e]at hP
   have kn:Kp (l=m↔l.drop (k+1)=m.drop (k+1)):=⟨by
    rw[kc.h,Qc hk2,Qc hkb,e]
    simp⟩
   clear e
   (refine gW ?_;intros)
   refine hP.call ?_
   (refine gW ?_;intros)
   refine⟨k+1,⟨by show k+1<=l.length;omega,kn.h⟩,by show l.length-(k+1)<l.length-k;omega,?_⟩
   repeat' (first|exact Tt|exact rfl|exact Qgx _|refine And.intro ?_ ?_)
  case neg =>
   rw[Qh0 e]at hP
   rw[Qh0 (fun e2=>e (by rw[e2]))]
   clear e
   (refine gW ?_;intros)
   refine hP.call ?_
   (refine gW ?_;intros)
   exact⟨rfl,Tt⟩
 rw[Qh8 (kc.h.2 (by rw[Qr Om,Qr Om]))]
 (refine gW ?_;intros)
 exact⟨rfl,Tt⟩
theorem Q8c (l m:List Req)(hl:Qg l)(hm:Qg m)(hf:∀x∈l,∀y∈m,Pure Tryz.prog 123 [.agg (Jv x),.agg (Jv y)] [.bool (decide (x=y))]) :
 Pure Tryz.prog 127 [Xz l,Xz m,.fn (.func 123) [] []] [.bool (decide (l=m))]:=by
 have hl:l.length<=9223372036854775807:=hl
 have hm:m.length<=9223372036854775807:=hm
 have kf:Kp _:=⟨hf⟩
 clear hf
 refine Q4 hT (T:=tab) (N:=32) (rs:=[.tmp 6]) Tryz.func127 rfl rfl rfl Kr rfl ?_
 by_cases q:l.length=m.length
 case neg =>
  rw[Qh0 (fun e=>q (by rw[e]))]
  (refine gW ?_;intros)
  exact⟨rfl,Tt⟩
 (refine gW ?_;intros)
 refine Q7 hT (S:=Nat) (fun k=>([(1,.d (Xz m)),(2,.d (.fn (.func 123) [] [])),(15,.d (Xz l)),(16,dV l.length),(17,dV k)],⟨[],[]⟩)) (fun k=>k<=l.length/\(l=m↔l.drop k=m.drop k)) (fun k=>l.length-k) 0 ?_ ?_ ?_
 .repeat' (first|exact Tt|exact rfl|exact Qgx _|refine And.intro ?_ ?_)
 .exact⟨Qh3 _,Iff.rfl⟩
 rintro k ⟨hk,hc⟩
 have kc:Kp _:=⟨hc⟩
 clear hc
 by_cases hk2:k<l.length
 case pos =>
  have hkb:k<m.length:=by omega
  skip
  have hP:=kf.h _ (Qe hk2) _ (Qe hkb)
  by_cases e:l.getD k default=m.getD k default
  case pos =>
   rw[Qh8 e]at hP
   have kn:Kp (l=m↔l.drop (k+1)=m.drop (k+1)):=⟨by
    rw[kc.h,Qc hk2,Qc hkb,e]
    simp⟩
   clear e
   (refine gW ?_;intros)
   refine hP.call ?_
   (refine gW ?_;intros)
   refine⟨k+1,⟨by show k+1<=l.length;omega,kn.h⟩,by show l.length-(k+1)<l.length-k;omega,?_⟩
   repeat' (first|exact Tt|exact rfl|exact Qgx _|refine And.intro ?_ ?_)
  case neg =>
   rw[Qh0 e]at hP
   rw[Qh0 (fun e2=>e (by rw[e2]))]
   clear e
   (refine gW ?_;intros)
   refine hP.call ?_
   (refine gW ?_;intros)
   exact⟨rfl,Tt⟩
 rw[Qh8 (kc.h.2 (by rw[Qr Om,Qr Om]))]
 (refine gW ?_;intros)
 exact⟨rfl,Tt⟩
theorem Q8b (l m:List Prg)(hl:Qg l)(hm:Qg m)(hf:∀x∈l,∀y∈m,Pure Tryz.prog 126 [.agg (Q9 x),.agg (Q9 y),.pt [.fn (.func 123) [] []] 0] [.bool (decide (x=y))]) :
 Pure Tryz.prog 130 [Qw l,Qw m,.fn (.func 126) [] [.pt [.fn (.func 123) [] []] 0]] [.bool (decide (l=m))]:=by
 have hl:l.length<=9223372036854775807:=hl
 have hm:m.length<=9223372036854775807:=hm
 have kf:Kp _:=⟨hf⟩
 clear hf
 refine Q4 hT (T:=tab) (N:=32) (rs:=[.tmp 6]) Tryz.func130 rfl rfl rfl Kr rfl ?_
 by_cases q:l.length=m.length
 case neg =>
  rw[Qh0 (fun e=>q (by rw[e]))]
  (refine gW ?_;intros)
  exact⟨rfl,Tt⟩
 (refine gW ?_;intros)
 refine Q7 hT (S:=Nat) (fun k=>([(1,.d (Qw m)),(2,.d (.fn (.func 126) [] [.pt [.fn (.func 123) [] []] 0])),(15,.d (Qw l)),(16,dV l.length),(17,dV k)],⟨[],[]⟩)) (fun k=>k<=l.length/\(l=m↔l.drop k=m.drop k)) (fun k=>l.length-k) 0 ?_ ?_ ?_
 .repeat' (first|exact Tt|exact rfl|exact Qgx _|refine And.intro ?_ ?_)
 .exact⟨Qh3 _,Iff.rfl⟩
 rintro k ⟨hk,hc⟩
 have kc:Kp _:=⟨hc⟩
 clear hc
 by_cases hk2:k<l.length
 case pos =>
  have hkb:k<m.length:=by omega
  skip
  have hP:=kf.h _ (Qe hk2) _ (Qe hkb)
  by_cases e:l.getD k default=m.getD k default
  case pos =>
   rw[Qh8 e]at hP
   have kn:Kp (l=m↔l.drop (k+1)=m.drop (k+1)):=⟨by
    rw[kc.h,Qc hk2,Qc hkb,e]
    simp⟩
   clear e
   (refine gW ?_;intros)
   refine⟨⟨126,[],[.d (.pt [.fn (.func 123) [] []] 0)],.inr ⟨[],[.pt [.fn (.func 123) [] []] 0],rfl,rfl,rfl⟩,hP.call ?_⟩⟩
   (refine gW ?_;intros)
   refine⟨k+1,⟨by show k+1<=l.length;omega,kn.h⟩,by show l.length-(k+1)<l.length-k;omega,?_⟩
   repeat' (first|exact Tt|exact rfl|exact Qgx _|refine And.intro ?_ ?_)
  case neg =>
   rw[Qh0 e]at hP
   rw[Qh0 (fun e2=>e (by rw[e2]))]
   clear e
   (refine gW ?_;intros)
   refine⟨⟨126,[],[.d (.pt [.fn (.func 123) [] []] 0)],.inr ⟨[],[.pt [.fn (.func 123) [] []] 0],rfl,rfl,rfl⟩,hP.call ?_⟩⟩
   (refine gW ?_;intros)
   exact⟨rfl,Tt⟩
 rw[Qh8 (kc.h.2 (by rw[Qr Om,Qr Om]))]
 (refine gW ?_;intros)
 exact⟨rfl,Tt⟩
theorem Q09:∀a:Q1,wfR a->∀b:Q1,wfR b->Pure Tryz.prog 122 [.agg (Q2 a),.agg (Q2 b)] [.bool (decide (a=b))]:=by
 refine Y4 fun a ih ha b hb=>?_
 obtain⟨ha1,ha2⟩:=Ug ha
 obtain⟨hb1,hb2⟩:=Ug hb
 have hE:=Q8d a.kids b.kids (Nat.le_of_lt_succ ha1.2.2.2.2) (Nat.le_of_lt_succ hb1.2.2.2.2) fun x hx y hy=>ih x hx (ha2 x hx) y (hb2 y hy)
 clear ih ha hb ha1 ha2 hb1 hb2
 refine Q4 hT (T:=tab) (N:=45) (rs:=[.tmp 4]) Tryz.func122 rfl rfl rfl Kr rfl ?_
 by_cases q1:a.op=b.op
 case neg =>
  rw[Qh0 (fun e=>q1 (by rw[e]))]
  (refine gW ?_;intros)
  all_goals first
   |exact⟨rfl,Tt⟩
   |(refine⟨congrArg D.bool ?_,Tt⟩;simp[q1];done)
   |(exfalso;simp_all;done)
 by_cases q2:a.course=b.course
 case neg =>
  rw[Qh0 (fun e=>q2 (by rw[e]))]
  (refine gW ?_;intros)
  all_goals first
   |exact⟨rfl,Tt⟩
   |(refine⟨congrArg D.bool ?_,Tt⟩;simp[q2];done)
   |(exfalso;simp_all;done)
 by_cases q3:a.name=b.name
 case neg =>
  rw[Qh0 (fun e=>q3 (by rw[e]))]
  ((refine xW ?_ ?_)<;>intros)
  all_goals first
   |exact⟨rfl,Tt⟩
   |(refine⟨congrArg D.bool ?_,Tt⟩;simp[q3];done)
   |(exfalso;simp_all;done)
 by_cases q4:a.n=b.n
 case neg =>
  rw[Qh0 (fun e=>q4 (by rw[e]))]
  (refine gW ?_;intros)
  all_goals first
   |exact⟨rfl,Tt⟩
   |(refine⟨congrArg D.bool ?_,Tt⟩;simp[q4];done)
   |(exfalso;simp_all;done)
 by_cases q5:a.d=b.d
 case neg =>
  rw[Qh0 (fun e=>q5 (by rw[e]))]
  (refine gW ?_;intros)
  all_goals first
   |exact⟨rfl,Tt⟩
   |(refine⟨congrArg D.bool ?_,Tt⟩;simp[q5];done)
   |(exfalso;simp_all;done)
 have hiff:decide (a=b)=decide (a.kids=b.kids):=decide_eq_decide.2 (by rw[Q41];simp only[q1,q2,q3,q4,q5,true_and])
 rw[hiff]
 clear hiff
 generalize decide (a.kids=b.kids)=r at hE⊢
 ((refine xW ?_ ?_)<;>intros)
 all_goals try (exfalso;simp_all;done)
 refine hE.call ?_
 (refine gW ?_;intros)
 exact⟨congrArg D.bool (by simp[q1,q2,q3,q4,q5]),Tt⟩
theorem Q82 (a b:Crs)(ha:Yz a)(hb:Yz b):Pure Tryz.prog 121 [.agg (Q6 a),.agg (Q6 b)] [.bool (decide (a=b))]:=by
 have hN:=Q09 a.need ha.1 b.need hb.1
 have hB:=Q09 a.bar ha.2 b.bar hb.2
 refine Q4 hT (T:=tab) (N:=45) (rs:=[.tmp 4]) Tryz.func121 rfl rfl rfl Kr rfl ?_
 by_cases q1:a.name=b.name
 case neg =>
  rw[Qh0 (fun e=>q1 (by rw[e]))]
  ((refine xW ?_ ?_)<;>intros)
  all_goals first
   |exact⟨rfl,Tt⟩
   |(refine⟨congrArg D.bool ?_,Tt⟩;simp[q1];done)
   |(exfalso;simp_all;done)
 by_cases q2:a.number=b.number
 case neg =>
  rw[Qh0 (fun e=>q2 (by rw[e]))]
  (refine gW ?_;intros)
  all_goals first
   |exact⟨rfl,Tt⟩
   |(refine⟨congrArg D.bool ?_,Tt⟩;simp[q2];done)
   |(exfalso;simp_all;done)
 by_cases q3:a.credits=b.credits
 case neg =>
  rw[Qh0 (fun e=>q3 (by rw[e]))]
  (refine gW ?_;intros)
  all_goals first
   |exact⟨rfl,Tt⟩
   |(refine⟨congrArg D.bool ?_,Tt⟩;simp[q3];done)
   |(exfalso;simp_all;done)
 by_cases q4:a.rep=b.rep
 case neg =>
  rw[Qh0 (fun e=>q4 (by rw[e]))]
  (refine gW ?_;intros)
  all_goals first
   |exact⟨rfl,Tt⟩
   |(refine⟨congrArg D.bool ?_,Tt⟩;simp[q4];done)
   |(exfalso;simp_all;done)
 have hiff:decide (a=b)=(decide (a.need=b.need)&&decide (a.bar=b.bar)):=by rw[<-Bool.decide_and];exact decide_eq_decide.2 (by rw[Of];simp only[q1,q2,q3,q4,true_and])
 rw[hiff]
 clear hiff
 generalize decide (a.need=b.need)=r at hN⊢
 generalize decide (a.bar=b.bar)=s at hB⊢
 cases r
 case false =>
  ((refine xW ?_ ?_)<;>intros)
  all_goals try (exfalso;simp_all;done)
  refine hN.call ?_
  (refine gW ?_;intros)
  exact⟨congrArg D.bool (by simp[q1,q2,q3,q4]),Tt⟩
 case true =>
  ((refine xW ?_ ?_)<;>intros)
  all_goals try (exfalso;simp_all;done)
  refine hN.call ?_
  ((refine xW ?_ ?_)<;>intros)
  all_goals try (exfalso;simp_all;done)
  refine hB.call ?_
  (refine gW ?_;intros)
  exact⟨congrArg D.bool (by simp[q1,q2,q3,q4]),Tt⟩
end Go.Proofs.YtmlhghddfobmmaaGreatDoor
