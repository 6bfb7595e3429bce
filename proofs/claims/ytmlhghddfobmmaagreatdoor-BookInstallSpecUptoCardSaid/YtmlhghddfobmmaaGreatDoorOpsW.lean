import Derived.Test.YtmlhghddfobmmaaGreatDoorNrB
import Derived.Test.YtmlhghddfobmmaaGreatDoorEngAZ
import Derived.Test.YtmlhghddfobmmaaGreatDoorNmG
import Derived.Test.YtmlhghddfobmmaaGreatDoorInsP
import Derived.Test.YtmlhghddfobmmaaGreatDoorEngAP
namespace Go.Proofs.YtmlhghddfobmmaaGreatDoor
set_option linter.unusedSimpArgs false
set_option linter.unusedVariables false
open Go Go.Ab
set_option maxRecDepth 100000
set_option maxHeartbeats 0
theorem Qf7 {l:List Q1}(f:Q1->Q1){k:Nat}(hk:k<l.length)(j:Nat)(hj:j<k+1):Je k (rowsOf Q2 ((l.take k).map f)) (Jr [up (Q2 (f (l.getD k default)))]) j=rowsOf Q2 ((l.take (k+1)).map f) j:=by
 rw[Js hk,Qim]
 exact Yi Q2 _ _ (by rw[Qhb,Qhr];omega) j hj
theorem Q3w (c:Cat)(hl:c.crs.length<=1000000):∀r:Q1,Jj r<=1000000->Pure Tryz.prog 139 [.agg (Q0 c),.agg (Q2 r)] [.agg (Q2 (Qy c.crs r)),.bool (okN c.crs r)]:=by
 refine Y4 fun r ih hcn=>?_
 obtain⟨hkl,hkc⟩:=Dl hcn
 refine V3 hT (T:=tab) (N:=54) (rs:=[.cell 4 66,.tmp 5]) Tryz.func139 rfl rfl rfl Kr rfl ?_
 apply Og
 case h =>
  intro tl
  have hM:Pure Tryz.prog 179 [di r.op] [.bool (Jg r)]:=Qf4 r.op
  cases hb:Jg r with
  | true =>
    have hq:Zx c.crs r=(Qx c.crs r.name r.course).getD 0:=by rw[Zx,if_pos hb]
    have ho:Yw c.crs r=(Qx c.crs r.name r.course).isSome:=by rw[Yw,hb];rfl
    have hN:=Fu c hl r.name r.course
    rw[<-hq,<-ho]at hN
    rw[hb]at hM
    clear hq ho hb
    (refine gW ?_;intros)
    refine hM.call ?_
    (refine gW ?_;intros)
    refine hN.call ?_
    (refine gS ?_;intros)
    refine Sq.alt (Awp.le (env':=[(2,lp 0),(3,lp 1),(4,lp 2),(6,.d (.bool (Yw c.crs r)))]) (m':=⟨[bX 32 (up (Q0 c)),bX 66 (up [di r.op,di (Zx c.crs r),.str r.name,di r.n,di r.d,J0 r.kids]),bX 66 (up dZR)],[]⟩) ?_ tl.p)
    repeat' (first|exact Tt|exact rfl|exact Qgx _|refine And.intro ?_ ?_)
  | false =>
    have hq:Zx c.crs r=r.course:=by rw[Zx,if_neg (by rw[hb];exact Qhl)]
    have ho:Yw c.crs r=true:=by rw[Yw,hb];rfl
    rw[hb]at hM
    clear hb
    have kq:Kp _:=⟨hq⟩
    have ko:Kp _:=⟨ho⟩
    clear hq ho
    (refine gW ?_;intros)
    refine hM.call ?_
    (refine gS ?_;intros)
    refine Sq.go ?_;(refine gS ?_;intros)
    refine Sq.alt (Awp.le (env':=[(2,lp 0),(3,lp 1),(4,lp 2),(6,.d (.bool (Yw c.crs r)))]) (m':=⟨[bX 32 (up (Q0 c)),bX 66 (up [di r.op,di (Zx c.crs r),.str r.name,di r.n,di r.d,J0 r.kids]),bX 66 (up dZR)],[]⟩) ?_ tl.p)
    rw[kq.h,ko.h]
    repeat' (first|exact Tt|exact rfl|exact Qgx _|refine And.intro ?_ ?_)
 .obtain⟨ks,hks⟩:∃ks,r.kids=ks:=⟨_,rfl⟩
  rw[hks]at ih hkl hkc⊢
  have kE:Kp (okN c.crs r=(Yw c.crs r&&ks.all (okN c.crs))):=⟨by rw[Em,hks]⟩
  have kR:Kp (Q2 (Qy c.crs r)=[di r.op,di (Zx c.crs r),.str r.name,di r.n,di r.d,J0 (ks.map (Qy c.crs))]):=⟨by rw[Mi,hks];rfl⟩
  rw[kR.h,kE.h]
  generalize Yw c.crs r=o
  generalize Zx c.crs r=rn
  clear kE kR hks
  refine Awp.of_vc hT ?_
  (refine gW ?_;intros)
  refine Q7 hT (S:=RB) (fun z=>([(2,lp 0),(3,lp 1),(4,lp 2),(6,.d (.bool (o&&(ks.take z.k).all (okN c.crs)))),(7,.osl (.loc 3) z.g 0 z.k),(8,dV z.k)],
   ⟨[bX 32 (up (Q0 c)),bX 66 (up [di r.op,di rn,.str r.name,di r.n,di r.d,J0 ks]),bX 66 (up dZR),bV 66 6 z.g z.k (rowsOf Q2 ((ks.take z.k).map (Qy c.crs)))],[]⟩))
   (fun z=>z.k<=ks.length) (fun z=>ks.length-z.k) ⟨0,0⟩ ?_ ?_ ?_
  .repeat' (first|exact Tt|exact rfl|exact Qgx _|refine And.intro ?_ ?_)
   all_goals first
    |(intro i hi;exact absurd hi (Qhh i))
    | (show AV.d (D.bool o)=AV.d (D.bool (o && true))
       rw[Bool.and_true])
  .exact Qh3 _
  .rintro⟨k,g⟩ hk
   dsimp only at hk⊢
   by_cases hk2:k<ks.length
   .have hEr:J0 ks=.sl 6 ks.length fun i=>Q2 (ks.getD i default):=by
     unfold J0
     rw[Ri (fun e=>by rw[e]at hk2;exact absurd hk2 (Qhh _))]
    rw[hEr]
    clear hEr
    have hI:=ih _ (Qe hk2) (hkc _ (Qe hk2))
    have kA:Kp ((ks.take (k+1)).all (okN c.crs)=((ks.take k).all (okN c.crs)&&okN c.crs (ks.getD k default))):=⟨by rw[Js hk2,Qii];simp⟩
    (refine gS ?_;intros)
    refine Sq.go ?_;(refine gS ?_;intros)
    refine Sq.alt (Awp.seq (Awp.block (Awp.seq (Awp.effsF (m:=⟨[bX 32 (up (Q0 c)),bX 66 (up [di r.op,di rn,.str r.name,di r.n,di r.d,.sl 6 ks.length fun i=>Q2 (ks.getD i default)]),bX 66 (up dZR),bV 66 6 g k (rowsOf Q2 ((ks.take k).map (Qy c.crs)))],[]⟩) hT Kr Kr Kr
     ⟨[bX 32 (up (Q0 c)),bX 66 (up [di r.op,di rn,.str r.name,di r.n,di r.d,.sl 6 ks.length fun i=>Q2 (ks.getD i default)]),bX 66 (up dZR),bV 66 6 g k (rowsOf Q2 ((ks.take k).map (Qy c.crs))),none],[]⟩ 4 0
     [⟨10,.ptr (.loc 4) 0 0 0,⟨[some (.box 32 (up (Q0 c))),some (.box 66 (up [.int .i64 r.op,.int .i64 rn,.str r.name,.int .i64 r.n,.int .i64 r.d,.sl 6 ks.length fun i=>Q2 (ks.getD i default)])),some (.box 66 (up dZR)),some (.vec 66 6 g k (rowsOf Q2 ((ks.take k).map (Qy c.crs)))),some (.box 66 (up dZR))],[]⟩,[]⟩,
      ⟨11,.junk,⟨[bX 32 (up (Q0 c)),bX 66 (up [di r.op,di rn,.str r.name,di r.n,di r.d,.sl 6 ks.length fun i=>Q2 (ks.getD i default)]),bX 66 (up dZR),bV 66 6 g k (rowsOf Q2 ((ks.take k).map (Qy c.crs))),bX 66 (up (Q2 (Qy c.crs (ks.getD k default))))],[]⟩,[10]⟩]
     Kr rfl rfl (Qt.of ⟨.inl rfl,.inl rfl,.inl rfl,.inl rfl,Tt⟩ Tt)
     ⟨Qt.of ⟨.inl rfl,.inl rfl,.inl rfl,.inl rfl,Tt⟩ Tt,Qt.of ⟨.inl rfl,.inl rfl,.inl rfl,.inl rfl,Tt⟩ Tt,Tt⟩ ?_))))
    conv=>whnf
    (refine gS ?_;intros)
    refine qC hI ?_
    (refine gS ?_;intros)
    refine⟨?_,?_,?_⟩
    .conv=>whnf
     (refine gS ?_;intros)
     exact⟨rfl,rfl⟩
    .conv=>whnf
     (refine gS ?_;intros)
     exact⟨Tt,rfl⟩
    conv=>whnf
    (refine gS ?_;intros)
    refine Awp.of_vc hT ?_
    (refine gW ?_;intros)
    refine Awp.of_vc hT ?_
    (refine gW ?_;intros)
    refine⟨⟨k+1,g+1⟩,by show k+1<=ks.length;omega,by show ks.length-(k+1)<ks.length-k;omega,?_⟩
    repeat' (first|exact Tt|exact rfl|exact Qgx _|refine And.intro ?_ ?_)
    .show AV.d (D.bool (bif (o&&(ks.take k).all (okN c.crs)) then okN c.crs (ks.getD k default) else false))=AV.d (D.bool (o&&(ks.take (k+1)).all (okN c.crs)))
     rw[kA.h]
     cases o<;>cases(ks.take k).all (okN c.crs)<;>rfl
    all_goals (intro j hj;exact⟨Qf7 (Qy c.crs) hk2 j hj,rfl⟩)
   .obtain rfl:k=ks.length:=by omega
    obtain⟨F,hF,hf⟩:∃F,J0 (ks.map (Qy c.crs))=.sl 6 ks.length F/\∀i,i<ks.length->rowsOf Q2 ((ks.take ks.length).map (Qy c.crs)) i=up (F i):=⟨Uo (ks.map (Qy c.crs)),by unfold J0;rw[Qhb],fun i hi=>by
     rw[Qhp,Ri (fun e=>by have:=congrArg List.length e;rw[Qhb]at this;simp at this;subst this;exact absurd hi (Qhh _))]
     rfl⟩
    rw[hF,Qhp]
    rw[Qhp]at hf
    generalize rowsOf Q2 (ks.map (Qy c.crs))=G at hf⊢
    clear ih hkc
    (refine gW ?_;intros)
    exact⟨.agg' ⟨.d,.d,.d,.d,.d,.rows rfl (Qhz (Qh9 _)) (fun i hi=>by rw[Qh9];exact hf i hi),Tt⟩,.d,Tt⟩
theorem Ey:∀r:Q1,(Z1 r).length=Jj r:=by
 refine Y4 fun r ih=>?_
 rw[Fl,Qhs,Gg]
 have key:∀ks:List Q1,(∀k∈ks,(Z1 k).length=Jj k)->(ks.flatMap Z1).length=Z9 ks:=by
  intro ks
  induction ks with
  |nil=>intro _;rw[Ho];rfl
  | cons k ks ihk =>
    intro h
    rw[List.flatMap_cons,Qhc,h k (List.mem_cons_self ..),ihk fun x hx=>h x (List.mem_cons_of_mem _ hx),Wk]
 rw[key _ ih]
def Td (l:List Q1):D:=.sl 6 l.length fun i=>Q2 (l.getD i default)
def G0 (r:Q1)(k:Nat):List Q1:=r::(r.kids.take k).flatMap Z1
theorem Q39 {r:Q1}{k:Nat}(hk:k<r.kids.length):G0 r (k+1)=G0 r k++Z1 (r.kids.getD k default):=by
 unfold G0
 rw[Js hk,List.flatMap_append]
 simp
theorem Q37 (r:Q1):G0 r r.kids.length=Z1 r:=by
 unfold G0
 rw[Qhp,<-Fl]
theorem Q38 {r:Q1}(k:Nat):(G0 r k).length<=Jj r:=by
 rw[<-Ey,<-Q37]
 unfold G0
 rw[Qhp]
 conv=>rhs;rw[<-Qil k r.kids,List.flatMap_append]
 simp only[Qhs,Qhc]
 omega
theorem Qfb:∀r:Q1,Jj r<=1000000->Pure Tryz.prog 236 [.agg (Q2 r)] [Td (Z1 r)]:=by
 refine Y4 fun r ih hcn=>?_
 obtain⟨hkl,hkc⟩:=Dl hcn
 refine V3 hT (T:=tab) (N:=23) (rs:=[.tmp 2]) Tryz.func236 rfl rfl rfl Kr rfl ?_
 (refine gW ?_;intros)
 refine Q7 hT (S:=RB) (fun z=>([(1,lp 0),(3,.osl (.loc 1) z.g 0 (G0 r z.k).length),(4,dV z.k)],⟨[bX 66 (up (Q2 r)),bV 66 6 z.g (G0 r z.k).length (rowsOf Q2 (G0 r z.k))],[]⟩)) (fun z=>z.k<=r.kids.length) (fun z=>r.kids.length-z.k) ⟨0,0⟩ ?_ ?_ ?_
 .repeat' (first|exact Tt|exact rfl|exact Qgx _|refine And.intro ?_ ?_)
  .intro i hi
   obtain rfl:i=0:=Qi1.1 hi
   exact⟨rfl,rfl⟩
 .exact Qh3 _
 rintro⟨k,g⟩ hk
 dsimp only at hk⊢
 by_cases hk2:k<r.kids.length
 case pos =>
  have hEr:Q2 r=[di r.op,di r.course,.str r.name,di r.n,di r.d,.sl 6 r.kids.length fun i=>Q2 (r.kids.getD i default)]:=by
   show[_,_,_,_,_,J0 r.kids]=_
   unfold J0
   rw[Ri (fun e=>by rw[e]at hk2;exact absurd hk2 (Qhh _))]
  have hI:=ih _ (Qe hk2) (hkc _ (Qe hk2))
  have hL1:=Q38 (r:=r) k
  have hL2:=Q38 (r:=r) (k+1)
  rw[Q39 hk2,Qhc]at hL2
  rw[hEr]
  clear hEr
  unfold Td at hI
  (refine gW ?_;intros)
  refine hI.call ?_
  (refine gW ?_;intros)
  refine⟨⟨k+1,g+1⟩,by show k+1<=r.kids.length;omega,by show r.kids.length-(k+1)<r.kids.length-k;omega,?_⟩
  dsimp only
  rw[Q39 hk2,Qhc]
  repeat' (first|exact Tt|exact rfl|exact Qgx _|refine And.intro ?_ ?_)
  intro i hi
  refine⟨Qb1 Q2 _ _ _ (fun j _=>rfl) i (by rw[Qhc];exact hi),rfl⟩
 obtain rfl:k=r.kids.length:=by omega
 rw[Q37]
 clear ih hkc
 (refine gW ?_;intros)
 exact⟨.rows rfl (Qhz (Qh9 _)) (fun i hi=>by rw[Qh9];rfl),Tt⟩
def ndP (l:List Crs)(r:Q1):Option Nat:=if r.op=5\/r.op=6 then(if mnt l r.name r.course<l.length then some (mnt l r.name r.course) else none) else none
theorem Qby (l:List Crs)(i:Nat):nds l i=(Z1 (l.getD i default).need).filterMap (ndP l):=by
 unfold nds Z1
 rw[List.filterMap_map]
 rfl
def ndK (l:List Crs)(ps:List Q1)(k:Nat):List Int:=((ps.take k).filterMap (ndP l)).map Int.ofNat
theorem Qbw {l:List Crs}{ps:List Q1}{k:Nat}(hk:k<ps.length):ndK l ps (k+1)=ndK l ps k++(match ndP l (ps.getD k default) with|some n=>[Int.ofNat n]|none=>[]):=by
 unfold ndK
 rw[Js hk,List.filterMap_append,Qim]
 congr 1
 show List.map Int.ofNat (List.filterMap (ndP l) [ps.getD k default])=_
 cases h:ndP l (ps.getD k default) with
 |none=>rw[List.filterMap_cons_none h];rfl
 |some n=>rw[List.filterMap_cons_some h];rfl
theorem Qbv {l:List Crs}{ps:List Q1}(k:Nat):(ndK l ps k).length<=ps.length:=by
 unfold ndK
 rw[Qhb]
 exact Qhx (List.length_filterMap_le ..) (by rw[Qhr];omega)
theorem Qbu (l:List Crs)(ps:List Q1):ndK l ps ps.length=(ps.filterMap (ndP l)).map Int.ofNat:=by
 unfold ndK
 rw[Qhp]
theorem Qdp (c:Cat)(hl:c.crs.length<=1000000)(i:Nat)(hi:i<c.crs.length)(hc:Jj (c.crs.getD i default).need<=1000000):Pure Tryz.prog 216 [.agg (Q0 c),di i] [J6 ((nds c.crs i).map Int.ofNat)]:=by
 have hP:=Qfb (c.crs.getD i default).need hc
 rw[Qby]
 have hpl:(Z1 (c.crs.getD i default).need).length<=1000000:=by rw[Ey];exact hc
 generalize Z1 (c.crs.getD i default).need=ps at hP hpl⊢
 unfold Td at hP
 refine V3 hT (T:=tab) (N:=56) (rs:=[.tmp 4]) Tryz.func216 rfl rfl rfl Kr rfl ?_
 (refine gW ?_;intros)
 refine hP.call ?_
 (refine gW ?_;intros)
 refine Q7 hT (S:=RB) (fun z=>([(2,lp 0),(5,.osl (.loc 1) z.g 0 (ndK c.crs ps z.k).length),(6,.d (.sl 6 ps.length fun i=>Q2 (ps.getD i default))),(7,dV z.k)],⟨[bX 32 (up (Q0 c)),bV 3 1 z.g (ndK c.crs ps z.k).length (Jz (ndK c.crs ps z.k))],[]⟩)) (fun z=>z.k<=ps.length) (fun z=>ps.length-z.k) ⟨0,0⟩ ?_ ?_ ?_
 .repeat' (first|exact Tt|exact rfl|exact Qgx _|refine And.intro ?_ ?_)
  all_goals (intro i hi;exact absurd hi (Qhh i))
 .exact Qh3 _
 rintro⟨k,g⟩ hk
 dsimp only at hk⊢
 by_cases hk2:k<ps.length
 case pos =>
  have hL1:=Qbv (l:=c.crs) (ps:=ps) k
  have hM:=Q3v c hl (ps.getD k default).name (ps.getD k default).course
  have hS:=Qbw (l:=c.crs) hk2
  unfold ndP at hS
  unfold Wp at hM
  by_cases ho:(ps.getD k default).op=5\/(ps.getD k default).op=6
  case pos =>
   by_cases hm:mnt c.crs (ps.getD k default).name (ps.getD k default).course<c.crs.length
   case pos =>
    rw[if_pos ho,if_pos hm]at hS
    rw[if_pos hm]at hM
    dsimp only at hS
    have kS:Kp _:=⟨hS⟩
    clear hS
    generalize mnt c.crs (ps.getD k default).name (ps.getD k default).course=j at hM hm kS
    have hL2:(ndK c.crs ps (k+1)).length=(ndK c.crs ps k).length+1:=by rw[kS.h,Qhc];rfl
    rcases ho with ho|ho
    all_goals
     (refine gW ?_;intros)
     refine qC hM ?_
     (refine gW ?_;intros)
    all_goals
     refine⟨⟨k+1,g+1⟩,by show k+1<=ps.length;omega,by show ps.length-(k+1)<ps.length-k;omega,?_⟩
     dsimp only
     rw[hL2]
     repeat' (first|exact Tt|exact rfl|exact Qgx _|refine And.intro ?_ ?_)
     intro i hi
     refine⟨?_,rfl⟩
     rw[kS.h]
     exact B6 _ _ rfl i hi
   case neg =>
    rw[if_pos ho,if_neg hm]at hS
    rw[if_neg hm]at hM
    dsimp only at hS
    rw[Qih]at hS
    have kS:Kp _:=⟨hS⟩
    clear hS
    rcases ho with ho|ho
    all_goals
     (refine gW ?_;intros)
     refine qC hM ?_
     (refine gW ?_;intros)
    all_goals
     refine⟨⟨k+1,g⟩,by show k+1<=ps.length;omega,by show ps.length-(k+1)<ps.length-k;omega,?_⟩
     dsimp only
     rw[kS.h]
     repeat' (first|exact Tt|exact rfl|exact Qgx _|refine And.intro ?_ ?_)
     intro i hi
     exact⟨rfl,rfl⟩
  case neg =>
   rw[if_neg ho]at hS
   dsimp only at hS
   rw[Qih]at hS
   have kS:Kp _:=⟨hS⟩
   have h5:¬ (ps.getD k default).op=5:=fun e=>ho (.inl e)
   have h6:¬ (ps.getD k default).op=6:=fun e=>ho (.inr e)
   clear hS hM ho
   (refine gW ?_;intros)
   refine⟨⟨k+1,g⟩,by show k+1<=ps.length;omega,by show ps.length-(k+1)<ps.length-k;omega,?_⟩
   dsimp only
   rw[kS.h]
   repeat' (first|exact Tt|exact rfl|exact Qgx _|refine And.intro ?_ ?_)
   intro i hi
   exact⟨rfl,rfl⟩
 obtain rfl:k=ps.length:=by omega
 rw[Qbu]
 (refine gW ?_;intros)
 exact⟨.rows rfl (Qhz (Qh9 _)) (fun i hi=>by rw[Qh9];rfl),Tt⟩
theorem Qem (l:List Int)(hl:l.length<=1000000)(n:Int):Pure Tryz.prog 215 [J6 l,di n] [.bool (decide (n∈l))]:=by
 refine Q4 hT (T:=tab) (N:=18) (rs:=[.tmp 4]) Tryz.func215 rfl rfl rfl Kr rfl ?_
 (refine gW ?_;intros)
 refine Q7 hT (S:=Nat) (fun k=>([(0,.d (J6 l)),(1,dV n),(5,dV k)],⟨[],[]⟩)) (fun k=>k<=l.length/\n ∉ l.take k) (fun k=>l.length-k) 0 ?_ ?_ ?_
 .repeat' (first|exact Tt|exact rfl|exact Qgx _|refine And.intro ?_ ?_)
 .exact⟨Qh3 _,by rw[List.take_zero];exact Qhq⟩
 rintro k ⟨hk,hm⟩
 have km:Kp _:=⟨hm⟩
 clear hm
 by_cases hk2:k<l.length
 case pos =>
  by_cases he:l.getD k default=n
  case pos =>
   have hd:n∈l:=by
    rw[<-he]
    exact Qe hk2
   rw[Qh8 hd]
   clear hd
   (refine gW ?_;intros)
   exact⟨rfl,Tt⟩
  case neg =>
   have kq:Kp (n ∉ l.take (k+1)):=⟨by
    rw[Js hk2,Qi7]
    rintro(h|h)
    .exact km.h h
    .simp at h
     exact he h.symm⟩
   (refine gW ?_;intros)
   refine⟨k+1,⟨by show k+1<=l.length;omega,kq.h⟩,by show l.length-(k+1)<l.length-k;omega,?_⟩
   repeat' (first|exact Tt|exact rfl|exact Qgx _|refine And.intro ?_ ?_)
 have hd:n ∉ l:=by
  have:=km.h
  rwa [Qhn Om]at this
 rw[Qh0 hd]
 clear hd
 (refine gW ?_;intros)
 exact⟨rfl,Tt⟩
theorem Q3r (l:List Nat)(hl:l.length<=1000000)(n:Nat):Pure Tryz.prog 215 [J6 (l.map Int.ofNat),di n] [.bool (decide (n∈l))]:=by
 have h:=Qem (l.map Int.ofNat) (by rw[Qhb];exact hl) n
 have e:decide ((n:Int)∈l.map Int.ofNat)=decide (n∈l):=by
  refine decide_eq_decide.2 ?_
  rw[Qhw]
  exact⟨fun⟨a,ha,e⟩=>by rw[<-Int.ofNat.inj e];exact ha,fun h=>⟨n,h,rfl⟩⟩
 rw[e]at h
 exact h
structure RO where
 o:List Nat
 i:Nat
 g:Nat
theorem Ad {m:Mem}{r:Ref}(o:List Nat){e g:Nat}(h:m.get r=bV e 1 g o.length (Jz (o.map Int.ofNat))):J9 m (.osl r g 0 o.length) (J6 (o.map Int.ofNat)):=by
 unfold J6
 rw[Qhb]
 exact .rows h (Qhz (Qh9 _)) fun i hi=>by rw[Qh9];rfl
theorem Qf3 (c:Cat)(hF:Yl c):Pure Tryz.prog 181 [.agg (Q0 c)] [J6 ((lst c.crs).map Int.ofNat)]:=by
 have hcl:=hF.crs
 refine V3 hT (T:=tab) (N:=44) (rs:=[.tmp 2]) Tryz.func181 rfl rfl rfl Kr rfl ?_
 (refine gW ?_;intros)
 refine Q7 hT (S:=RO) (fun z=>([(1,lp 0),(3,.osl (.loc 1) z.g 0 z.o.length),(4,dV z.i)],⟨[bX 32 (up (Q0 c)),bV 3 1 z.g z.o.length (Jz (z.o.map Int.ofNat))],[]⟩)) (fun z=>Vm c.crs z.o/\z.i<=c.crs.length/\lst c.crs=Xn c.crs z.o z.i) (fun z=>Yt c.crs z.o z.i) ⟨[],0,0⟩ ?_ ?_ ?_
 .repeat' (first|exact Tt|exact rfl|exact Qgx _|refine And.intro ?_ ?_)
  all_goals (intro i hi;exact absurd hi (Qhh i))
 .exact⟨Vm.nil _,Qh3 _,rfl⟩
 rintro⟨o,i,g⟩ ⟨hI,hi,hE⟩
 dsimp only at hI hi hE⊢
 have hol:=hI.le
 by_cases hi2:i<c.crs.length
 case pos =>
  have hH:=Q3r o Om i
  have hN:=Qdp c Om i hi2 (hF.cnt _ (Qe hi2)).1
  have hnl:(nds c.crs i).length<=1000000:=by
   refine Qhx (List.length_filterMap_le ..) ?_
   have:=Ey (c.crs.getD i default).need
   unfold Z1 at this
   rw[Qhb]at this
   rw[this]
   exact(hF.cnt _ (Qe hi2)).1
  have kI:Kp _:=⟨hI⟩
  have kE:Kp _:=⟨hE⟩
  have kT:Kp (rdy c.crs o i=true->Xn c.crs o i=Xn c.crs (o++[i]) 0):=⟨Q1s hI hi2⟩
  have kX:Kp (¬ rdy c.crs o i=true->Xn c.crs o i=Xn c.crs o (i+1)):=⟨Q1r hI hi2⟩
  have kR:Kp (rdy c.crs o i=((nds c.crs i).all (fun n=>decide (n∈o))&&decide (i ∉ o))):=⟨rfl⟩
  clear hI hE
  generalize nds c.crs i=nd at hN hnl kR
  obtain⟨nz,hz,hzl,hzk⟩:∃nz:List Int,nd.map Int.ofNat=nz/\nz.length=nd.length/\∀k,k<nz.length->nz.getD k default=((nd.getD k default:Nat):Int):=⟨_,rfl,Qhb ..,fun k hk=>by
   rw[Qhb]at hk
   simp only[Qha,Qhe,Qgy hk]
   rfl⟩
  rw[hz]at hN
  clear hz
  have kz:Kp _:=⟨hzk⟩
  clear hzk
  (refine gW ?_;intros)
  refine hH.loan rfl ⟨Ad o rfl,.d,Tt⟩ ?_
  clear hH
  (refine gW ?_;intros)
  refine hN.call ?_
  clear hN
  (refine gW ?_;intros)
  refine Q7 hT (S:=Nat) (fun k=>([(1,lp 0),(3,.osl (.loc 1) g 0 o.length),(4,dV i),(5,.d (.bool (!decide (i∈o)&&(nd.take k).all (fun n=>decide (n∈o))))),(6,.d (J6 nz)),(7,dV k)],⟨[bX 32 (up (Q0 c)),bV 3 1 g o.length (Jz (o.map Int.ofNat))],[]⟩)) (fun k=>k<=nz.length) (fun k=>nz.length-k) 0 ?_ ?_ ?_
  .repeat' (first|exact Tt|exact rfl|exact Qgx _|refine And.intro ?_ ?_)
   all_goals first
    |(intro j hj;exact⟨rfl,rfl⟩)
    | (show AV.d (D.bool (!decide (i∈o)))=AV.d (D.bool (!decide (i∈o) && true))
       rw[Bool.and_true])
  .exact Qh3 _
  intro k hk
  dsimp only at hk⊢
  by_cases hk2:k<nz.length
  case pos =>
   have hH:Pure Tryz.prog 215 [J6 (o.map Int.ofNat),di (nz.getD k default)] [.bool (decide (nd.getD k default∈o))]:=by
    rw[kz.h k hk2]
    exact Q3r o Om (nd.getD k default)
   have kA:Kp ((!decide (i∈o)&&(nd.take (k+1)).all (fun n=>decide (n∈o)))=((!decide (i∈o)&&(nd.take k).all (fun n=>decide (n∈o)))&&decide (nd.getD k default∈o))):=⟨by
    rw[Js Om,Qii,Bool.and_assoc]
    simp⟩
   cases hf:(!decide (i∈o)&&(nd.take k).all (fun n=>decide (n∈o))) with
   | true =>
     (refine gW ?_;intros)
     refine hH.loan rfl ⟨Ad o rfl,.d,Tt⟩ ?_
     (refine gW ?_;intros)
     refine⟨k+1,by show k+1<=nz.length;omega,by show nz.length-(k+1)<nz.length-k;omega,?_⟩
     repeat' (first|exact Tt|exact rfl|exact Qgx _|refine And.intro ?_ ?_)
     .rw[kA.h,hf]
      rfl
     all_goals (intro j hj;exact⟨rfl,rfl⟩)
   | false =>
     (refine gW ?_;intros)
     refine⟨k+1,by show k+1<=nz.length;omega,by show nz.length-(k+1)<nz.length-k;omega,?_⟩
     repeat' (first|exact Tt|exact rfl|exact Qgx _|refine And.intro ?_ ?_)
     .rw[kA.h,hf]
      rfl
     all_goals (intro j hj;exact⟨rfl,rfl⟩)
  obtain rfl:k=nz.length:=by omega
  have hR:(!decide (i∈o)&&(nd.take nz.length).all (fun n=>decide (n∈o)))=rdy c.crs o i:=by
   rw[kR.h,hzl,Qhp,Bool.and_comm]
   simp
  rw[hR]
  clear hR kR
  cases hr:rdy c.crs o i with
  | true =>
    have kS:=kI.h.snoc hi2 hr
    have kM:=Dw kI.h hi2 hr
    have kT':=kE.h.trans (kT.h hr)
    clear kX kT hr
    (refine gW ?_;intros)
    refine⟨⟨o++[i],0,g+1⟩,⟨kS,Qh3 _,kT'⟩,kM,?_⟩
    dsimp only
    rw[Qhc,List.length_singleton,Qim]
    repeat' (first|exact Tt|exact rfl|exact Qgx _|refine And.intro ?_ ?_)
    intro j hj
    exact⟨B6 _ _ (Qhb ..).symm j hj,rfl⟩
  | false =>
    have kM:=Dv (o:=o) hi2
    have kT':=kE.h.trans (kX.h (by rw[hr];exact Qhl))
    clear kX kT hr
    (refine gW ?_;intros)
    refine⟨⟨o,i+1,g⟩,⟨kI.h,hi2,kT'⟩,kM,?_⟩
    repeat' (first|exact Tt|exact rfl|exact Qgx _|refine And.intro ?_ ?_)
    intro j hj
    exact⟨rfl,rfl⟩
 have e:lst c.crs=o:=hE.trans (Q1q hi2)
 rw[e]
 clear hE e hI
 (refine gW ?_;intros)
 exact⟨Ad o rfl,Tt⟩
def Q2y (c:Cat):List Int:=((lst c.crs).map Int.ofNat).map fun x=>(c.crs.getD x.toNat default).number
theorem Qdq (c:Cat)(hF:Yl c):Pure Tryz.prog 141 [.agg (Q0 c)] [bif Kq c.crs then .nils else J6 (Q2y c),di (Xp c.crs)]:=by
 have hcl:=hF.crs
 have hL:=Qf3 c hF
 have hll:=(Dx c.crs).le
 have hlt:=(Dx c.crs).lt
 unfold Xp Q2y Kq
 obtain⟨nz,hz,hzl,hzk⟩:∃nz:List Int,(lst c.crs).map Int.ofNat=nz/\nz.length=(lst c.crs).length/\∀k,k<nz.length->0<=nz.getD k default/\nz.getD k default<c.crs.length:=⟨_,rfl,Qhb ..,fun k hk=>by
  rw[Qhb]at hk
  have:=hlt _ (Qe hk)
  have e:((lst c.crs).map Int.ofNat).getD k default=((lst c.crs).getD k default:Int):=by
   simp only[Qha,Qhe,Qgy hk]
   rfl
  rw[e]
  omega⟩
 rw[hz]at hL⊢
 clear hz hlt
 generalize (lst c.crs).length=n at hll hzl
 have kz:Kp _:=⟨hzk⟩
 clear hzk
 refine V3 hT (T:=tab) (N:=35) (rs:=[.tmp 2,.tmp 3]) Tryz.func141 rfl rfl rfl Kr rfl ?_
 by_cases hn:n<c.crs.length
 case pos =>
  rw[Qh8 hn,cond_true]
  (refine gW ?_;intros)
  refine hL.call ?_
  (refine gW ?_;intros)
  exact⟨.d,.d,Tt⟩
 rw[Qh0 hn,cond_false]
 (refine gW ?_;intros)
 refine hL.call ?_
 (refine gW ?_;intros)
 refine Q7 hT (S:=RB) (fun z=>([(1,lp 0),(4,.d (J6 nz)),(5,.osl (.loc 1) z.g 0 z.k),(6,dV z.k)],⟨[bX 32 (up (Q0 c)),bV 3 1 z.g z.k (Jz ((nz.take z.k).map fun x=>(c.crs.getD x.toNat default).number))],[]⟩)) (fun z=>z.k<=nz.length) (fun z=>nz.length-z.k) ⟨0,0⟩ ?_ ?_ ?_
 .repeat' (first|exact Tt|exact rfl|exact Qgx _|refine And.intro ?_ ?_)
  all_goals (intro i hi;exact absurd hi (Qhh i))
 .exact Qh3 _
 rintro⟨k,g⟩ hk
 dsimp only at hk⊢
 by_cases hk2:k<nz.length
 case pos =>
  obtain⟨hz1,hz2⟩:=kz.h k hk2
  (refine gS ?_;intros)
  refine Sq.go ?_;(refine gS ?_;intros)
  refine Sq.alt (Awp.seq (Awp.block (Awp.effsF (m:=⟨[bX 32 (up (Q0 c)),bV 3 1 g k (Jz ((nz.take k).map fun x=>(c.crs.getD x.toNat default).number))],[]⟩) hT Kr Kr Kr
   ⟨[bX 32 (up (Q0 c)),some .opq,none],[]⟩ 2 0
   [⟨10,.osl (.loc 2) 0 0 1,⟨[some (.box 32 (up (Q0 c))),some (.vec 3 1 g k (Jz ((nz.take k).map fun x=>(c.crs.getD x.toNat default).number))),some (.vec 3 1 0 1 (Jr [[.d (.int .i64 (c.crs.getD (nz.getD k default).toNat default).number)]]))],[]⟩,[]⟩,
    ⟨11,.osl (.loc 1) (g+1) 0 (k+1),⟨[bX 32 (up (Q0 c)),bV 3 1 (g+1) (k+1) (Je k (Jz ((nz.take k).map fun x=>(c.crs.getD x.toNat default).number)) (Jr [[dV (c.crs.getD (nz.getD k default).toNat default).number]])),bV 3 1 0 1 (Jr [[dV (c.crs.getD (nz.getD k default).toNat default).number]])],[]⟩,[10]⟩]
   Kr rfl rfl (Qt.of ⟨.inl rfl,.inr ⟨_,rfl,Qo.opq⟩,Tt⟩ Tt)
   ⟨Qt.of ⟨.inl rfl,.inr ⟨_,rfl,Qo.opq⟩,Tt⟩ Tt,Qt.of ⟨.inl rfl,.inr ⟨_,rfl,Qo.opq⟩,Tt⟩ Tt,Tt⟩ ?_)))
  conv=>whnf
  (refine gS ?_;intros)
  refine⟨?_,?_,?_⟩
  .conv=>whnf
   (refine gS ?_;intros)
   exact⟨rfl,rfl⟩
  .conv=>whnf
   (refine gS ?_;intros)
   exact⟨rfl,rfl⟩
  conv=>whnf
  (refine gS ?_;intros)
  refine Awp.of_vc hT ?_
  (refine gW ?_;intros)
  refine⟨⟨k+1,g+1⟩,by show k+1<=nz.length;omega,by show nz.length-(k+1)<nz.length-k;omega,?_⟩
  repeat' (first|exact Tt|exact rfl|exact Qgx _|refine And.intro ?_ ?_)
  intro j hj
  exact⟨Aa nz (fun x=>(c.crs.getD x.toNat default).number) hk2 j hj,rfl⟩
 obtain rfl:k=nz.length:=by omega
 (refine gW ?_;intros)
 exact⟨K6 (fun x=>(c.crs.getD x.toNat default).number) nz rfl,.d,Tt⟩
noncomputable def Fz (n:Nat):Code:=Fb n (Tryz.f82.body.getD .skip)
def K7 (c:Cat):Ja:=D8 tab [.cell 2 32,.tmp 3] [.agg (Q0 (Qj c)),di (J1 c)]
def dZC:List D:=[.nils,.nils,.nils,.nils,.nils,.nils,.nils]
theorem Ud {m:Mem}{r:Ref}{α:Type}[Inhabited α](l:List α){e sz g n:Nat}{enc:α->List D}(hn:n=l.length)(h:m.get r=bV e sz g n (rowsOf enc l)) :
 J9 m (.osl r g 0 n) (.sl sz l.length fun i=>enc (l.getD i default)):=by
 subst hn
 exact .rows h (Qhz (Qh9 _)) fun i hi=>by rw[Qh9];rfl
def bxR (c:Cat)(a b d:AV):Option Blk:=bX 32 [a,b,d,.d (Qk c.classes),.d (Jk c.fees),.d (Qk c.honours),.d (Jq c.clauses)]
theorem Qfd (c:Cat)(hF:Yl c)(g1 g2 g3:Nat)(hV:Vf c=false->J1 c=110)(hW:Vf c=true->J1 c=Xp c.crs) :
 Awp Tryz.prog 264 (Fz 11) [(1,lp 0),(2,lp 1),(6,lp 2),(7,.d (.bool (Vf c)))]
  ⟨[some (.box 32 (up (Q0 c))),some (.box 32 (up dZC)),bxR c (.osl (.loc 3) g1 0 c.crs.length) (.osl (.loc 4) g2 0 c.same.length) (.osl (.loc 5) g3 0 c.prg.length),
    bV 68 16 g1 c.crs.length (rowsOf Q6 (c.crs.map (Jo c.crs))),bV 131 4 g2 c.same.length (rowsOf Qv (c.same.map (Zm c.crs))),bV 78 7 g3 c.prg.length (rowsOf Q9 (c.prg.map (Vw c.crs)))],[]⟩ (K7 c):=by
 have hO:=Qdq c hF
 unfold K7 bxR
 cases hn:Vf c with
 | false =>
   have he:=hV hn
   have hv:Qj c=Rc:=by rw[Qj,if_neg (by rw[he];decide)]
   rw[he,hv]
   clear hV hW hO hn hv he
   refine Awp.of_vc hT ?_
   (refine gW ?_;intros)
   refine⟨?_,.d,Tt⟩
   conv=>whnf
   exact .eq (y:=.agg [.nils,.nils,.nils,.nils,.nils,.nils,.nils]) (.inr ⟨rfl,rfl,rfl,rfl,rfl,rfl,rfl,Tt⟩)
 | true =>
   have he:=hW hn
   rw[he]
   obtain⟨b,hb⟩:∃b,Kq c.crs=b:=⟨_,rfl⟩
   have hv:Qj c=if b=true then Rc else Vv c:=by
    rw[Qj,he,Xp,hb]
    cases b<;>rfl
   unfold Xp
   unfold Xp at hO
   rw[hv,hb]
   rw[hb]at hO
   clear hV hW hn hv he hb
   refine Awp.of_vc hT ?_
   cases b with
   | true =>
     (refine gW ?_;intros)
     refine hO.call ?_
     (refine gW ?_;intros)
     refine⟨?_,.d,Tt⟩
     conv=>whnf
     exact .eq (y:=.agg [.nils,.nils,.nils,.nils,.nils,.nils,.nils]) (.inr ⟨rfl,rfl,rfl,rfl,rfl,rfl,rfl,Tt⟩)
   | false =>
     (refine gW ?_;intros)
     refine hO.call ?_
     (refine gW ?_;intros)
     refine⟨?_,.d,Tt⟩
     conv=>whnf
     exact .agg' ⟨Ud (c.crs.map (Jo c.crs)) (Qhb ..).symm rfl,Ud (c.same.map (Zm c.crs)) (Qhb ..).symm rfl,Ud (c.prg.map (Vw c.crs)) (Qhb ..).symm rfl,.d,.d,.d,.d,Tt⟩
noncomputable def Df (n:Nat):Code:=Fb n (Tryz.f15.body.getD .skip)
def Xk:List ResultVar:=[.cell 8 26,.tmp 9,.tmp 10]
def V9 (x:Bok)(fs:List Fct):Ja:=D8 tab Xk [.agg (Q8 x),Zd fs,di 0]
theorem Q12 (b x:Bok)(fr til kn:Int)(g g2:Nat)(fs:List Fct)(hf:fs.length<=1000) :
 Awp Tryz.prog 211 (Df 15) [(8,lp 3),(15,lp 7)]
  ⟨[none,none,none,some (.box 26 [.d (J2 x.crs),.d (Qw x.prg),.osl (.loc 9) g2 0 x.sys.length]),none,none,none,
    bX 144 [dV fr,dV til,dV kn,.osl (.loc 8) g 0 fs.length],bV 94 8 g fs.length (rowsOf Qf fs),bV 83 4 g2 x.sys.length (rowsOf Qa x.sys)],[]⟩ (V9 x fs):=by
 unfold V9
 refine Awp.frzB [9] 3 (up (Q8 x)) rfl rfl ⟨.inl rfl,.inl rfl,.inr ⟨_,rfl,Ud x.sys rfl rfl⟩,Tt⟩ ?_
 refine Awp.frzB [8] 7 (up [di fr,di til,di kn,Zd fs]) rfl rfl ⟨.inl rfl,.inl rfl,.inl rfl,.inr ⟨_,rfl,Ud fs rfl rfl⟩,Tt⟩ ?_
 refine Awp.of_vc hT ?_
 (refine gS ?_;intros)
 refine Sq.go ?_;(refine gS ?_;intros)
 refine Sq.alt (Awp.seq (Awp.effs (m:=⟨[none,none,none,bX 26 (up (Q8 x)),none,none,none,bX 144 (up [di fr,di til,di kn,Zd fs]),none,none],[]⟩) hT Kr Kr Kr ⟨[none,none,none,bX 26 (up (Q8 x)),none,none,none,bX 144 (up [di fr,di til,di kn,Zd fs]),none,none],[]⟩ [⟨3,.junk,⟨[none,none,none,bX 26 (up (Q8 x)),none,none,none,bX 144 (up [di fr,di til,di kn,Zd fs]),none,none],[]⟩,[]⟩] Kr (fun r=>.inl rfl) ⟨fun r=>.inl rfl,Tt⟩ ?_))
 conv=>whnf
 (refine gS ?_;intros)
 refine⟨?_,?_⟩
 .conv=>whnf
  (refine gS ?_;intros)
  exact⟨Tt,rfl⟩
 conv=>whnf
 (refine gW ?_;intros)
 refine Awp.of_vc hT ?_
 (refine gW ?_;intros)
 refine⟨?_,.d,.d,Tt⟩
 conv=>whnf
 exact .d
theorem Q13 (b:Bok)(l:List Crs)(p:List Prg)(q:List Sys)(fr til kn:Int)(g g2:Nat)(fs:List Fct)(hf:fs.length<=900)(hb:b.crs.length<=1000000)(hl:l.length<=1000000) :
 Awp Tryz.prog 211 (Df 14) [(4,lp 0),(8,lp 3),(15,lp 7)]
  ⟨[some (.box 26 (up (Q8 b))),none,none,some (.box 26 [.d (J2 l),.d (Qw p),.osl (.loc 9) g2 0 q.length]),none,none,none,
    bX 144 [dV fr,dV til,dV kn,.osl (.loc 8) g 0 fs.length],bV 94 8 g fs.length (rowsOf Qf fs),bV 83 4 g2 q.length (rowsOf Qa q)],[]⟩ (V9 ⟨l,p,q⟩ (L7 b.crs l kn fs)):=by
 unfold V9
 refine Awp.of_vc hT ?_
 (refine gW ?_;intros)
 refine(Q2i l hl).at [] rfl Tt (fun _ _=>⟨rfl,?_⟩)
 (refine gW ?_;intros)
 refine Y2 hT rfl rfl rfl rfl fun qs q1 q2 q3=>?_
 have hqs:=Q2h q1 q2 q3
 rw[hqs]
 clear q1 q2 q3 hqs
 (refine gW ?_;intros)
 refine(Q2i b.crs hb).at [] rfl Tt (fun _ _=>⟨rfl,?_⟩)
 (refine gW ?_;intros)
 refine Y2 hT rfl rfl rfl rfl fun ps p1 p2 p3=>?_
 have hps:=Q2h p1 p2 p3
 rw[hps]
 clear p1 p2 p3 hps qs ps
 unfold L7
 by_cases hm:Z6 b.crs<Z6 l
 .have hA:=Bv 0 1024 kn g fs Om 12 0 0 (Z6 l:Int)
  rw[if_pos hm]
  have hl2:=Bu 0 1024 kn fs (12,0,0,(Z6 l:Int))
  have he:fs++[(⟨12,0,0,(Z6 l:Int),0,1024,kn,fs.length⟩:Fct)]=Zu 0 1024 kn fs (12,0,0,(Z6 l:Int)):=rfl
  rw[he]at hA
  clear he
  generalize Zu 0 1024 kn fs (12,0,0,(Z6 l:Int))=es at hA hl2⊢
  (refine gW ?_;intros)
  refine hA.at [.loc 7,.loc 8] rfl ?_ (fun _ _=>⟨rfl,?_⟩)
  .exact⟨rfl,rfl,Tt⟩
  (refine gS ?_;intros)
  refine Sq.alt (Awp.le (env':=[(8,lp 3),(15,lp 7)]) (m':=⟨[none,none,none,bX 26 [.d (J2 l),.d (Qw p),.osl (.loc 9) g2 0 q.length],none,none,none,bX 144 [dV 0,dV 1024,dV kn,.osl (.loc 8) (g+1) 0 es.length],bV 94 8 (g+1) es.length (rowsOf Qf es),bV 83 4 g2 q.length (rowsOf Qa q)],[]⟩) ?_ (Q12 b ⟨l,p,q⟩ 0 1024 kn (g+1) g2 es Om))
  repeat' (first|exact Tt|exact rfl|exact Qgx _|refine And.intro ?_ ?_)
  all_goals (intro i hi;exact⟨rfl,rfl⟩)
 .rw[if_neg hm]
  (refine gS ?_;intros)
  refine Sq.go ?_;(refine gS ?_;intros)
  refine Sq.alt (Awp.le (env':=[(8,lp 3),(15,lp 7)]) (m':=⟨[none,none,none,bX 26 [.d (J2 l),.d (Qw p),.osl (.loc 9) g2 0 q.length],none,none,none,bX 144 [dV fr,dV til,dV kn,.osl (.loc 8) g 0 fs.length],bV 94 8 g fs.length (rowsOf Qf fs),bV 83 4 g2 q.length (rowsOf Qa q)],[]⟩) ?_ (Q12 b ⟨l,p,q⟩ fr til kn g g2 fs Om))
  repeat' (first|exact Tt|exact rfl|exact Qgx _|refine And.intro ?_ ?_)
  all_goals (intro i hi;exact⟨rfl,rfl⟩)
def O4 {α:Type}(a b:List α):Nat->List α
 |0=>[]
 |1=>a
 |_=>a++b
theorem Fx {α:Type}[Inhabited α](enc:α->List D)(a b:List α){n:Nat}(hn:n=a.length)(i:Nat):Je n (rowsOf enc a) (fun i=>up (enc (b.getD i default))) i=rowsOf enc (a++b) i:=by
 subst hn
 by_cases h:i<a.length
 .rw[Ss h]
  simp only[rowsOf,Qha]
  rw[Qhj h]
 .rw[Sr Om]
  simp only[rowsOf,Qha]
  rw[Qhu Om]
theorem Qa6 (n:Nat)(hn:n<=10000000):Qz Tryz.prog 136 [.d .nils,dV n] ⟨[],[]⟩
 (Ret (fun b:Bool=>bif b then([.osl (.loc 0) 0 0 0],⟨[bV 68 16 0 0 fun _=>[]],[]⟩) else([.d .nils],⟨[],[]⟩)) fun _=>True):=by
 refine Zv hT (T:=tab) (N:=27) (rs:=[.tmp 4]) _ _ Tryz.func136 rfl rfl rfl Kr rfl ?_
 ((refine xW ?_ ?_)<;>intros)
 .refine⟨true,Tt,?_,rfl⟩
  repeat' (first|exact Tt|exact rfl|exact Qgx _|refine And.intro ?_ ?_)
  .exact Qh3 _
  .intro i hi
   omega
 .exact⟨false,Tt,by repeat' (first|exact Tt|exact rfl|exact Qgx _|refine And.intro ?_ ?_),rfl⟩
theorem Q7e (a b:List Crs)(ha:a.length<=1000000)(hb:b.length<=1000000):Pure Tryz.prog 78 [.sl 1 2 (Yv [[J2 a],[J2 b]])] [J2 (a++b)]:=by
 obtain⟨L,l0,l1,l2⟩:∃L:Nat->Nat,L 0=0/\L 1=a.length/\L 2=a.length+b.length:=⟨fun k=>match k with|0=>0|1=>a.length|_=>a.length+b.length,rfl,rfl,rfl⟩
 obtain⟨C,c0,c1,c2⟩:∃C:Nat->List Crs,C 0=[]/\C 1=a/\C 2=a++b:=⟨O4 a b,rfl,rfl,rfl⟩
 have n0:(C 0).length=0:=by rw[c0];rfl
 have n1:(C 1).length=a.length:=by rw[c1]
 have n2:(C 2).length=a.length+b.length:=by rw[c2,Qhc]
 have kc:Kp (C 0=[]/\C 1=a/\C 2=a++b):=⟨⟨c0,c1,c2⟩⟩
 have kl:Kp (L 0=0/\L 1=a.length/\L 2=a.length+b.length):=⟨⟨l0,l1,l2⟩⟩
 have kn:Kp ((C 0).length=0/\(C 1).length=a.length/\(C 2).length=a.length+b.length):=⟨⟨n0,n1,n2⟩⟩
 clear c0 c1 c2 l0 l1 l2 n0 n1 n2
 refine Q4 hT (T:=tab) (N:=36) (rs:=[.tmp 2]) Tryz.func78 rfl rfl rfl Kr rfl ?_
 (refine gW ?_;intros)
 refine Q7 hT (S:=Nat) (fun k=>([(0,.d (.sl 1 2 (Yv [[J2 a],[J2 b]]))),(3,dV (L k)),(9,.d (.sl 1 2 (Yv [[J2 a],[J2 b]]))),(10,dV 2),(11,dV k)],⟨[],[]⟩)) (fun k=>k<=2) (fun k=>2-k) 0 ?_ ?_ ?_
 .repeat' (first|exact Tt|exact rfl|exact Qgx _|refine And.intro ?_ ?_)
  exact congrArg AV.d (congrArg (D.int .i64) (by rw[kl.h.1];rfl))
 .exact Qh3 _
 .intro k hk
  have hk':k=0\/k=1\/k=2:=by omega
  rcases hk' with rfl|rfl|rfl
  .have q:=kl.h.1
   (refine gW ?_;intros)
   refine⟨1,Dc,Dc,?_⟩
   repeat' (first|exact Tt|exact rfl|exact Qgx _|refine And.intro ?_ ?_)
   exact congrArg AV.d (congrArg (D.int .i64) (by have:=kl.h.1;have:=kl.h.2.1;omega))
  .have q:=kl.h.2.1
   (refine gW ?_;intros)
   refine⟨2,Dc,Dc,?_⟩
   repeat' (first|exact Tt|exact rfl|exact Qgx _|refine And.intro ?_ ?_)
   exact congrArg AV.d (congrArg (D.int .i64) (by have:=kl.h.2.1;have:=kl.h.2.2;omega))
  ·(refine gW ?_;intros)
   refine(Qa6 (L 2) (by have:=kl.h.2.2;omega)).at [] rfl Tt (fun s _=>?_)
   cases s
   all_goals refine⟨rfl,?_⟩
   repeat' (first|with_reducible refine Sq.go ?_|((with_reducible refine Ev.mk ?_);conv=>whnf)|with_reducible refine Dr.mk ⟨Kr,Kr⟩ ?_|with_reducible refine obG ?_|with_reducible refine Ob.mk ?_ ?_|(with_reducible first|refine brT fun h=>?_|refine brF fun h=>?_|refine Br.mk (fun h=>?_) fun h=>?_)<;>(try simp only[bsl,Qhm,bne_iff_ne,bs2]at h)<;>(try contradiction)<;>try (exfalso;omega))
   refine Awp.vec 6 68 16 (fun _=>[]) rfl ?_
   all_goals
    refine Q7 hT (S:=Nat) (fun k=>([(0,.d (.sl 1 2 (Yv [[J2 a],[J2 b]]))),(6,.osl (.loc 0) k 0 (C k).length),(25,.d (.sl 1 2 (Yv [[J2 a],[J2 b]]))),(26,dV 2),(27,dV k)],⟨[bV 68 16 k (C k).length (rowsOf Q6 (C k))],[]⟩)) (fun k=>k<=2) (fun k=>2-k) 0 ?_ ?_ ?_
    .repeat' (first|exact Tt|exact rfl|exact Qgx _|refine And.intro ?_ ?_)
     all_goals first
      |(exact congrArg (AV.osl (.loc 0) 0 0) kn.h.1.symm)
      |(exact Qhz kn.h.1)
      |(exact kn.h.1)
      |(exact kn.h.1.symm)
      | (intro i hi
         rw[kn.h.1]at hi
         exact absurd hi (Qhh i))
    .exact Qh3 _
    intro k hk
    have hk':k=0\/k=1\/k=2:=by omega
    rcases hk' with rfl|rfl|rfl
    .have q:=kn.h.1
     (refine gW ?_;intros)
     refine⟨1,Dc,Dc,?_⟩
     repeat' (first|exact Tt|exact rfl|exact Qgx _|refine And.intro ?_ ?_)
     all_goals first
      |(exact congrArg (AV.osl (.loc 0) 1 0) (by have:=kn.h.1;have:=kn.h.2.1;omega))
      |(have:=kn.h.1;have:=kn.h.2.1;omega)
      | (intro i hi
         refine⟨?_,rfl⟩
         rw[Fx Q6 (C 0) a rfl i,kc.h.1,kc.h.2.1]
         rfl)
    .have q:=kn.h.2.1
     (refine gW ?_;intros)
     refine⟨2,Dc,Dc,?_⟩
     repeat' (first|exact Tt|exact rfl|exact Qgx _|refine And.intro ?_ ?_)
     all_goals first
      |(exact congrArg (AV.osl (.loc 0) 2 0) (by have:=kn.h.2.1;have:=kn.h.2.2;omega))
      |(have:=kn.h.2.1;have:=kn.h.2.2;omega)
      | (intro i hi
         refine⟨?_,rfl⟩
         rw[Fx Q6 (C 1) b rfl i,kc.h.2.1,kc.h.2.2])
    ·(refine gW ?_;intros)
     refine⟨⟨rfl,rfl,Qhz (Qh9 _),?_,fun j hj=>?_⟩,Tt⟩
     .rw[kc.h.2.2]
     .rw[Qh9,kc.h.2.2]
      rfl
theorem Qa7 (n:Nat)(hn:n<=10000000):Qz Tryz.prog 137 [.d .nils,dV n] ⟨[],[]⟩
 (Ret (fun b:Bool=>bif b then([.osl (.loc 0) 0 0 0],⟨[bV 78 7 0 0 fun _=>[]],[]⟩) else([.d .nils],⟨[],[]⟩)) fun _=>True):=by
 refine Zv hT (T:=tab) (N:=27) (rs:=[.tmp 4]) _ _ Tryz.func137 rfl rfl rfl Kr rfl ?_
 ((refine xW ?_ ?_)<;>intros)
 .refine⟨true,Tt,?_,rfl⟩
  repeat' (first|exact Tt|exact rfl|exact Qgx _|refine And.intro ?_ ?_)
  .exact Qh3 _
  .intro i hi
   omega
 .exact⟨false,Tt,by repeat' (first|exact Tt|exact rfl|exact Qgx _|refine And.intro ?_ ?_),rfl⟩
theorem Q7f (a b:List Prg)(ha:a.length<=1000000)(hb:b.length<=1000000):Pure Tryz.prog 79 [.sl 1 2 (Yv [[Qw a],[Qw b]])] [Qw (a++b)]:=by
 obtain⟨L,l0,l1,l2⟩:∃L:Nat->Nat,L 0=0/\L 1=a.length/\L 2=a.length+b.length:=⟨fun k=>match k with|0=>0|1=>a.length|_=>a.length+b.length,rfl,rfl,rfl⟩
 obtain⟨C,c0,c1,c2⟩:∃C:Nat->List Prg,C 0=[]/\C 1=a/\C 2=a++b:=⟨O4 a b,rfl,rfl,rfl⟩
 have n0:(C 0).length=0:=by rw[c0];rfl
 have n1:(C 1).length=a.length:=by rw[c1]
 have n2:(C 2).length=a.length+b.length:=by rw[c2,Qhc]
 have kc:Kp (C 0=[]/\C 1=a/\C 2=a++b):=⟨⟨c0,c1,c2⟩⟩
 have kl:Kp (L 0=0/\L 1=a.length/\L 2=a.length+b.length):=⟨⟨l0,l1,l2⟩⟩
 have kn:Kp ((C 0).length=0/\(C 1).length=a.length/\(C 2).length=a.length+b.length):=⟨⟨n0,n1,n2⟩⟩
 clear c0 c1 c2 l0 l1 l2 n0 n1 n2
 refine Q4 hT (T:=tab) (N:=36) (rs:=[.tmp 2]) Tryz.func79 rfl rfl rfl Kr rfl ?_
 (refine gW ?_;intros)
 refine Q7 hT (S:=Nat) (fun k=>([(0,.d (.sl 1 2 (Yv [[Qw a],[Qw b]]))),(3,dV (L k)),(9,.d (.sl 1 2 (Yv [[Qw a],[Qw b]]))),(10,dV 2),(11,dV k)],⟨[],[]⟩)) (fun k=>k<=2) (fun k=>2-k) 0 ?_ ?_ ?_
 .repeat' (first|exact Tt|exact rfl|exact Qgx _|refine And.intro ?_ ?_)
  exact congrArg AV.d (congrArg (D.int .i64) (by rw[kl.h.1];rfl))
 .exact Qh3 _
 .intro k hk
  have hk':k=0\/k=1\/k=2:=by omega
  rcases hk' with rfl|rfl|rfl
  .have q:=kl.h.1
   (refine gW ?_;intros)
   refine⟨1,Dc,Dc,?_⟩
   repeat' (first|exact Tt|exact rfl|exact Qgx _|refine And.intro ?_ ?_)
   exact congrArg AV.d (congrArg (D.int .i64) (by have:=kl.h.1;have:=kl.h.2.1;omega))
  .have q:=kl.h.2.1
   (refine gW ?_;intros)
   refine⟨2,Dc,Dc,?_⟩
   repeat' (first|exact Tt|exact rfl|exact Qgx _|refine And.intro ?_ ?_)
   exact congrArg AV.d (congrArg (D.int .i64) (by have:=kl.h.2.1;have:=kl.h.2.2;omega))
  ·(refine gW ?_;intros)
   refine(Qa7 (L 2) (by have:=kl.h.2.2;omega)).at [] rfl Tt (fun s _=>?_)
   cases s
   all_goals refine⟨rfl,?_⟩
   repeat' (first|with_reducible refine Sq.go ?_|((with_reducible refine Ev.mk ?_);conv=>whnf)|with_reducible refine Dr.mk ⟨Kr,Kr⟩ ?_|with_reducible refine obG ?_|with_reducible refine Ob.mk ?_ ?_|(with_reducible first|refine brT fun h=>?_|refine brF fun h=>?_|refine Br.mk (fun h=>?_) fun h=>?_)<;>(try simp only[bsl,Qhm,bne_iff_ne,bs2]at h)<;>(try contradiction)<;>try (exfalso;omega))
   refine Awp.vec 6 78 7 (fun _=>[]) rfl ?_
   all_goals
    refine Q7 hT (S:=Nat) (fun k=>([(0,.d (.sl 1 2 (Yv [[Qw a],[Qw b]]))),(6,.osl (.loc 0) k 0 (C k).length),(25,.d (.sl 1 2 (Yv [[Qw a],[Qw b]]))),(26,dV 2),(27,dV k)],⟨[bV 78 7 k (C k).length (rowsOf Q9 (C k))],[]⟩)) (fun k=>k<=2) (fun k=>2-k) 0 ?_ ?_ ?_
    .repeat' (first|exact Tt|exact rfl|exact Qgx _|refine And.intro ?_ ?_)
     all_goals first
      |(exact congrArg (AV.osl (.loc 0) 0 0) kn.h.1.symm)
      |(exact Qhz kn.h.1)
      |(exact kn.h.1)
      |(exact kn.h.1.symm)
      | (intro i hi
         rw[kn.h.1]at hi
         exact absurd hi (Qhh i))
    .exact Qh3 _
    intro k hk
    have hk':k=0\/k=1\/k=2:=by omega
    rcases hk' with rfl|rfl|rfl
    .have q:=kn.h.1
     (refine gW ?_;intros)
     refine⟨1,Dc,Dc,?_⟩
     repeat' (first|exact Tt|exact rfl|exact Qgx _|refine And.intro ?_ ?_)
     all_goals first
      |(exact congrArg (AV.osl (.loc 0) 1 0) (by have:=kn.h.1;have:=kn.h.2.1;omega))
      |(have:=kn.h.1;have:=kn.h.2.1;omega)
      | (intro i hi
         refine⟨?_,rfl⟩
         rw[Fx Q9 (C 0) a rfl i,kc.h.1,kc.h.2.1]
         rfl)
    .have q:=kn.h.2.1
     (refine gW ?_;intros)
     refine⟨2,Dc,Dc,?_⟩
     repeat' (first|exact Tt|exact rfl|exact Qgx _|refine And.intro ?_ ?_)
     all_goals first
      |(exact congrArg (AV.osl (.loc 0) 2 0) (by have:=kn.h.2.1;have:=kn.h.2.2;omega))
      |(have:=kn.h.2.1;have:=kn.h.2.2;omega)
      | (intro i hi
         refine⟨?_,rfl⟩
         rw[Fx Q9 (C 1) b rfl i,kc.h.2.1,kc.h.2.2])
    ·(refine gW ?_;intros)
     refine⟨⟨rfl,rfl,Qhz (Qh9 _),?_,fun j hj=>?_⟩,Tt⟩
     .rw[kc.h.2.2]
     .rw[Qh9,kc.h.2.2]
      rfl
end Go.Proofs.YtmlhghddfobmmaaGreatDoor
namespace Go.Ab
set_option linter.unusedSimpArgs false
set_option linter.unusedVariables false
section
variable {P:Program}{T:Tab}{m:Mem}{env:Env}{K:AV->Mem->Prop}{o:Oper}{ro:Option Nat}
theorem Ep {t t':TypeId}{x y:Operand}(hop:o.op=.binOp .add t x y t'){k:IntKind}{a b:Int}(hx:ev env x=.d (.int k a))(hy:ev env y=.d (.int k b))(hK:K (.d (.int k (k.wrap (a+b)))) m):Ym P o env m K :=
 ⟨fun c h=>(by rw [hop] at h;cases h),fun a' w F σ hev hm=>by
  have hv:=Z5 hev x
  rw[hx]at hv
  have hv:=hv.int
  have hw:=Z5 hev y
  rw[hy]at hw
  have hw:=hw.int
  refine⟨_,.int k (k.wrap (a+b)),w,σ,F,_,_,?_,.inl rfl,hK,.d .int,hm,Step.refl σ F w,SLe.refl σ⟩
  simp[execOp,hop,hv,hw,binOp,Op.intArith,eqGuard]⟩
theorem Ou {N:Nat}:∀{a b:List Oper},Jb N (a++b)=true->Jb N a=true/\Jb N b=true
 |[],b,h=>⟨rfl,h⟩
 | o :: a,b,h=>by
   simp only[List.cons_append,Jb,Qh5]at h⊢
   obtain⟨h1,h2⟩:=Ou h.2
   exact⟨⟨h.1,h1⟩,h2⟩
end
end Go.Ab
