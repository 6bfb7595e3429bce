import Derived.Test.YtmlhghddfobmmaaGreatDoorNmA
import Derived.Test.YtmlhghddfobmmaaGreatDoorInsP
namespace Go.Proofs.YtmlhghddfobmmaaGreatDoor
set_option linter.unusedSimpArgs false
set_option linter.unusedVariables false
open Go Go.Ab
set_option maxRecDepth 100000
set_option maxHeartbeats 0
theorem Q1d (p:Crs->Bool):∀(l:List Crs) (k:Int),ix p l k=if l.findIdx p<l.length then k+(l.findIdx p:Int) else -1
 |[],k=>by simp[ix]
 | x :: r,k=>by
   rw[ix,Q1d p r (k+1),List.findIdx_cons]
   cases h:p x with
   |true=>simp
   | false =>
     simp only[cond_false,Qhs,Bool.false_eq_true,if_false]
     by_cases h1:r.findIdx p<r.length
     .rw[if_pos h1,if_pos Om]
      push_cast
      omega
     .rw[if_neg h1,if_neg Om]
theorem Q21 (l:List Crs)(s:ByteArray)(n:Int):ix (isM s n) l 0=Wp l s n:=by
 rw[Q1d,Int.zero_add]
 rfl
theorem Qbp (s:ByteArray)(n:Int)(x:Crs):Pure Tryz.prog 171 [.agg (Q6 x),.pt [.str s] 0,.pt [di n] 0] [.bool (isM s n x)]:=by
 unfold isM
 refine Q4 hT (T:=tab) (N:=15) (rs:=[.tmp 4]) Tryz.func171 rfl rfl rfl Kr rfl ?_
 by_cases h:s=.empty
 .rw[if_pos h]
  (refine gW ?_;intros)
  exact⟨rfl,Tt⟩
 .rw[if_neg h]
  (refine gW ?_;intros)
  exact⟨rfl,Tt⟩
theorem Qad (xs:List Crs)(hx:xs.length<=1000000)(f:FuncId)(c0 c1:D)(p:Crs->Bool)(hp:∀s,s∈xs->Pure Tryz.prog f [.agg (Q6 s),c0,c1] [.bool (p s)]) :
 Pure Tryz.prog 170 [J2 xs,.fn (.func f) [] [c0,c1]] [di (ix p xs 0)]:=by
 refine Q4 hT (T:=tab) (N:=19) (rs:=[.tmp 4]) Tryz.func170 rfl rfl rfl Kr rfl ?_
 (refine gW ?_;intros)
 refine Q7 hT (S:=Nat) (fun k=>([(0,.d (J2 xs)),(1,.d (.fn (.func f) [] [c0,c1])),(7,dV xs.length),(8,dV k)],⟨[],[]⟩)) (fun k=>k<=xs.length/\ix p xs 0=ix p (xs.drop k) k) (fun k=>xs.length-k) 0 ?_ ?_ ?_
 .repeat' (first|exact Tt|exact rfl|exact Qgx _|refine And.intro ?_ ?_)
 .exact⟨Qh3 _,rfl⟩
 .rintro k ⟨hk,hc⟩
  ((refine xW ?_ ?_)<;>intros)
  .refine⟨⟨f,[],[.d c0,.d c1],.inr ⟨[],[c0,c1],rfl,rfl,rfl⟩,(hp (xs.getD k default) (Qe Om)).call ?_⟩⟩
   ((refine xW ?_ ?_)<;>(intros;try rename_i h))
   .refine⟨congrArg (D.int .i64) ?_,Tt⟩
    rw[hc,Qc Om,ix,if_pos h]
   .refine⟨k+1,⟨by show k+1<=xs.length;omega,?_⟩,by show xs.length-(k+1)<xs.length-k;omega,?_⟩
    .rw[hc,Qc Om,ix,if_neg (by rw[h];exact Qhl)]
     rfl
    .repeat' (first|exact Tt|exact rfl|exact Qgx _|refine And.intro ?_ ?_)
  .refine⟨congrArg (D.int .i64) ?_,Tt⟩
   have:k=xs.length:=by omega
   rw[hc]
   simp[this,ix]
theorem Q1u (c:Cat)(hl:c.crs.length<=1000000)(s:ByteArray)(n:Int):Pure Tryz.prog 119 [.agg (Q0 c),.str s,di n] [di (Wp c.crs s n)]:=by
 have hI:=Qad c.crs hl 171 (.pt [.str s] 0) (.pt [di n] 0) (isM s n) fun x _=>Qbp s n x
 rw[Q21]at hI
 refine Q4 hT (T:=tab) (N:=11) (rs:=[.tmp 6]) Tryz.func119 rfl rfl rfl Kr rfl ?_
 (refine gW ?_;intros)
 refine hI.loan rfl ⟨.d,.fn' Tt ⟨.ptr' rfl ⟨.d,Tt⟩,.ptr' rfl ⟨.d,Tt⟩,Tt⟩,Tt⟩ ?_
 (refine gW ?_;intros)
 exact⟨rfl,Tt⟩
theorem Q2g (l:List Crs)(s:ByteArray)(n:Int):(s=.empty/\Qx l s n=some n)\/(s≠.empty/\mnt l s 0<l.length/\Qx l s n=some (l.getD (mnt l s 0) default).number)\/(s≠.empty/\¬ mnt l s 0<l.length/\Qx l s n=none):=by
 by_cases h:s=.empty
 .exact .inl ⟨h,by rw[Qx,if_pos h]⟩
 .right
  by_cases h1:mnt l s 0<l.length
  .exact .inl ⟨h,h1,by rw[Qx,if_neg h,F6 h l n 0,if_pos h1]⟩
  .exact .inr ⟨h,h1,by rw[Qx,if_neg h,F6 h l n 0,if_neg h1]⟩
theorem Lh (c:Cat)(hl:c.crs.length<=1000000)(s:ByteArray)(n:Int):Mix Tryz.prog 69 [.agg (Q0 c),.str s,di n] (Qx c.crs s n).isSome [di ((Qx c.crs s n).getD 0)] (chE 110):=by
 have hM:=Q1u c hl s 0
 refine U9 hT (T:=tab) (N:=23) (rs:=[.tmp 6]) Tryz.func69 rfl rfl rfl Kr rfl ?_
 rcases Q2g c.crs s n with ⟨h,e⟩|⟨h,h1,e⟩|⟨h,h1,e⟩
 .rw[e]
  clear hM
  (refine gW ?_;intros)
  exact⟨rfl,.d,Tt⟩
 .have hz:Wp c.crs s 0=(mnt c.crs s 0:Int):=if_pos h1
  rw[hz]at hM
  rw[e]
  clear hz e
  generalize mnt c.crs s 0=j at hM h1⊢
  (refine gW ?_;intros)
  refine hM.call ?_
  (refine gW ?_;intros)
  refine((Vp _ 110).1 (Qh8 Om)).call ?_
  (refine gW ?_;intros)
  exact⟨rfl,.d,Tt⟩
 .have hz:Wp c.crs s 0=-1:=if_neg h1
  rw[hz]at hM
  rw[e]
  clear hz e h1
  (refine gW ?_;intros)
  refine hM.call ?_
  (refine gS ?_;intros)
  refine Sq.alt (Awp.seq (Awp.pan hT 2 rfl rfl rfl Kr ?_))
  (refine gS ?_;intros)
  exact Pan.vc ((Vp _ 110).2 (Qh0 Om)) ⟨.d,.d,Tt⟩ (Ev.mk ⟨rfl,rfl⟩)
theorem Q7a (q:List Q1)(hq:q.length<=1000000):Qz Tryz.prog 118 [.d (J0 q)] ⟨[],[]⟩
 (Ret (fun _:Unit=>([.osl (.loc 0) 1 0 q.length],⟨[bV 66 6 1 q.length (rowsOf Q2 q)],[]⟩)) fun _=>True):=by
 obtain⟨F,hF,hf⟩:∃F,J0 q=.sl 6 q.length F/\∀i,i<q.length->F i=Q2 (q.getD i default):=⟨Uo q,rfl,fun i hi=>by
  rw[Ri (fun e=>by rw[e]at hi;exact absurd hi (Qhh _))]⟩
 rw[hF]
 refine Zv hT (T:=tab) (N:=8) (rs:=[.tmp 2]) _ _ Tryz.func118 rfl rfl rfl Kr rfl ?_
 (refine gW ?_;intros)
 refine Lk rfl Tryz.underlying64 rfl rfl (fun b hb=>?_)
 cases b
 ·(refine gW ?_;intros)
  refine⟨(),Tt,?_,rfl⟩
  repeat' (first|exact Tt|exact rfl|exact Qgx _|refine And.intro ?_ ?_)
  .show AV.osl (.loc 0) (0+1) 0 (0+q.length)=AV.osl (.loc 0) 1 0 q.length
   rw[Qh9 q.length]
  .show q.length<=0+q.length
   omega
  all_goals first
   | (show 0 + q.length=q.length
      omega)
   | (show 0 + q.length≤q.length
      omega)
   | (show q.length=0 + q.length
      omega)
   | (intro j hj
      refine⟨?_,rfl⟩
      rw[Je,show j.blt 0=false from rfl,cond_false,Nat.sub_zero]
      show up (F j)=up (Q2 _)
      rw[hf j hj])
 .have h0:q=[]:=Qi4 (hb rfl)
  subst h0
  (refine gS ?_;intros)
  refine Sq.go ?_
  (refine gS ?_;intros)
  refine Sq.alt (Awp.vecG 2 66 6 1 (rowsOf Q2 []) rfl (Z3 hT _ _ _ _ (Ev.o ?_)))
  (refine gW ?_;intros)
  refine⟨(),Tt,?_,rfl⟩
  repeat' (first|exact Tt|exact rfl|exact Qgx _|refine And.intro ?_ ?_)
  all_goals (intro j hj;exact absurd hj (Qhh j))
theorem T6 {P:Program}{N:Nat}{c:Operand}{x y:Code}{env:Env}{m:Mem}{Q:Ja}{b:Bool}(hb:strip (ev env c)=(.d (.bool b),[]))(h1:b=true)(h:Awp P N x env m Q):Awp P N (.cond c x y) env m Q:=by
 subst h1
 exact Awp.condT hb h
structure Wrm (p:Prop):Prop where
 p:p
theorem Og {T G:Prop}(h:Wrm T->G)(t:T):G:=h ⟨t⟩
theorem Dl {r:Q1}(h:Jj r<=1000000):r.kids.length<=1000000/\∀k∈r.kids,Jj k<=1000000:=by
 rw[Gg]at h
 have k1:∀ks:List Q1,ks.length<=Z9 ks:=fun ks=>by
  induction ks with
  |nil=>exact Qh3 _
  |cons k ks ih=>rw[Wk,Qhs,Gg];omega
 have k2:∀(k:Q1) (ks:List Q1),k∈ks->Jj k<=Z9 ks:=fun k ks=>by
  induction ks with
  |nil=>intro h;cases h
  | cons x ks ih =>
    intro h
    rw[Wk]
    rcases Qho.1 h with rfl|h
    .omega
    .have:=ih h;omega
 exact⟨Qhx (k1 r.kids) Om,fun k hk=>Qhx (k2 k _ hk) Om⟩
def dZR:List D:=[di 0,di 0,.str .empty,di 0,di 0,.nils]
theorem Q40 (c:Cat)(hl:c.crs.length<=1000000):∀r:Q1,Jj r<=1000000->Mix Tryz.prog 68 [.agg (Q0 c),.agg (Q2 r)] (okN c.crs r) [.agg (Q2 (Qy c.crs r))] (chE 110):=by
 refine Y4 fun r ih hcn=>?_
 obtain⟨hkl,hkc⟩:=Dl hcn
 cases hr:Yw c.crs r with
 | false =>
   have hb:okN c.crs r=false:=by rw[Em,hr];rfl
   rw[hb]
   clear hb ih hkl hkc
   have hn:Jg r=true/\Qx c.crs r.name r.course=none:=by
    rw[Yw,Bool.or_eq_false_iff]at hr
    exact⟨by simpa using hr.1,by simpa using hr.2⟩
   have hM:=(Lh c hl r.name r.course).2 (by rw[hn.2];rfl)
   have ho:r.op=5\/r.op=6\/r.op=9:=by simpa[Jg] using hn.1
   clear hn hr
   refine U9 hT (T:=tab) (N:=41) (rs:=[.cell 4 66]) Tryz.func68 rfl rfl rfl Kr rfl ?_
   rcases ho with h5|h6|h9
   .skip
    (refine gS ?_;intros)
    refine Sq.go ?_;(refine gS ?_;intros)
    refine Sq.go ?_;(refine gS ?_;intros)
    refine Sq.go ?_;(refine gS ?_;intros)
    refine Sq.alt (T6 rfl (Qh8 h5) (Awp.pan hT 5 rfl rfl rfl Kr ?_))
    (refine gS ?_;intros)
    exact Pan.vc hM ⟨.d,.d,.d,Tt⟩ (Ev.mk ⟨rfl,rfl⟩)
   .skip
    (refine gS ?_;intros)
    refine Sq.go ?_;(refine gS ?_;intros)
    refine Sq.go ?_;(refine gS ?_;intros)
    (refine Sq.go ?_;(refine gS ?_;intros));(refine Sq.go ?_;(refine gS ?_;intros))
    refine Sq.alt (T6 rfl (Qh8 h6) (Awp.pan hT 5 rfl rfl rfl Kr ?_))
    (refine gS ?_;intros)
    exact Pan.vc hM ⟨.d,.d,.d,Tt⟩ (Ev.mk ⟨rfl,rfl⟩)
   .skip
    (refine gS ?_;intros)
    refine Sq.go ?_;(refine gS ?_;intros)
    refine Sq.go ?_;(refine gS ?_;intros)
    (refine Sq.go ?_;(refine gS ?_;intros));(refine Sq.go ?_;(refine gS ?_;intros))
    refine Sq.alt (T6 rfl (Qh8 h9) (Awp.pan hT 5 rfl rfl rfl Kr ?_))
    (refine gS ?_;intros)
    exact Pan.vc hM ⟨.d,.d,.d,Tt⟩ (Ev.mk ⟨rfl,rfl⟩)
 |true =>
 refine U9 hT (T:=tab) (N:=41) (rs:=[.cell 4 66]) Tryz.func68 rfl rfl rfl Kr rfl ?_
 apply Og
 case h =>
  intro tl
  by_cases h5:r.op=5
  case pos =>
   obtain⟨q,hN⟩:∃q,Qx c.crs r.name r.course=some q:=by
    rw[Yw,show Jg r=true from by simp[Jg,h5]]at hr
    exact Option.isSome_iff_exists.1 hr
   have hM:=(Lh c hl r.name r.course).1 (by rw[hN];rfl)
   have hq:Zx c.crs r=q:=by rw[Zx,if_pos (by simp[Jg,h5]),hN];rfl
   rw[hN]at hM
   have kq:Kp _:=⟨hq⟩
   clear hq hN
   (refine gW ?_;intros)
   refine hM.call ?_
   (refine gS ?_;intros)
   refine Sq.alt (Awp.le (env':=[(2,lp 0),(3,lp 1),(4,lp 2)]) (m':=⟨[bX 32 (up (Q0 c)),bX 66 (up [di r.op,di (Zx c.crs r),.str r.name,di r.n,di r.d,J0 r.kids]),bX 66 (up dZR)],[]⟩) ?_ tl.p)
   repeat' (first|exact Tt|exact rfl|exact Qgx _|refine And.intro ?_ ?_)
   all_goals (rw[kq.h];rfl)
  by_cases h6:r.op=6
  case pos =>
   obtain⟨q,hN⟩:∃q,Qx c.crs r.name r.course=some q:=by
    rw[Yw,show Jg r=true from by simp[Jg,h6]]at hr
    exact Option.isSome_iff_exists.1 hr
   have hM:=(Lh c hl r.name r.course).1 (by rw[hN];rfl)
   have hq:Zx c.crs r=q:=by rw[Zx,if_pos (by simp[Jg,h6]),hN];rfl
   rw[hN]at hM
   have kq:Kp _:=⟨hq⟩
   clear hq hN
   (refine gW ?_;intros)
   refine hM.call ?_
   (refine gS ?_;intros)
   refine Sq.alt (Awp.le (env':=[(2,lp 0),(3,lp 1),(4,lp 2)]) (m':=⟨[bX 32 (up (Q0 c)),bX 66 (up [di r.op,di (Zx c.crs r),.str r.name,di r.n,di r.d,J0 r.kids]),bX 66 (up dZR)],[]⟩) ?_ tl.p)
   repeat' (first|exact Tt|exact rfl|exact Qgx _|refine And.intro ?_ ?_)
   all_goals (rw[kq.h];rfl)
  by_cases h9:r.op=9
  case pos =>
   obtain⟨q,hN⟩:∃q,Qx c.crs r.name r.course=some q:=by
    rw[Yw,show Jg r=true from by simp[Jg,h9]]at hr
    exact Option.isSome_iff_exists.1 hr
   have hM:=(Lh c hl r.name r.course).1 (by rw[hN];rfl)
   have hq:Zx c.crs r=q:=by rw[Zx,if_pos (by simp[Jg,h9]),hN];rfl
   rw[hN]at hM
   have kq:Kp _:=⟨hq⟩
   clear hq hN
   (refine gW ?_;intros)
   refine hM.call ?_
   (refine gS ?_;intros)
   refine Sq.alt (Awp.le (env':=[(2,lp 0),(3,lp 1),(4,lp 2)]) (m':=⟨[bX 32 (up (Q0 c)),bX 66 (up [di r.op,di (Zx c.crs r),.str r.name,di r.n,di r.d,J0 r.kids]),bX 66 (up dZR)],[]⟩) ?_ tl.p)
   repeat' (first|exact Tt|exact rfl|exact Qgx _|refine And.intro ?_ ?_)
   all_goals (rw[kq.h];rfl)
  have hq:Zx c.crs r=r.course:=by rw[Zx,if_neg (by simp[Jg,h5,h6,h9])]
  (refine gS ?_;intros)
  refine Sq.go ?_;(refine gS ?_;intros)
  refine Sq.go ?_;(refine gS ?_;intros)
  refine Sq.go ?_;(refine gS ?_;intros)
  refine Sq.go ?_;(refine gS ?_;intros)
  refine Sq.go ?_;(refine gS ?_;intros)
  refine Sq.alt (Awp.le (env':=[(2,lp 0),(3,lp 1),(4,lp 2)]) (m':=⟨[bX 32 (up (Q0 c)),bX 66 (up [di r.op,di (Zx c.crs r),.str r.name,di r.n,di r.d,J0 r.kids]),bX 66 (up dZR)],[]⟩) ?_ tl.p)
  rw[hq]
  repeat' (first|exact Tt|exact rfl|exact Qgx _|refine And.intro ?_ ?_)
 .obtain ⟨ks,hks⟩:∃ ks,r.kids=ks:=⟨_,rfl⟩
  rw[hks]at ih hkl hkc⊢
  have hC:=Q7a ks hkl
  have kE:Kp (okN c.crs r=ks.all (okN c.crs)):=⟨by rw[Em,hr,hks,Qhy]⟩
  refine Awp.of_vc hT ?_
  (refine gS ?_;intros)
  refine hC.at [] rfl Tt (fun _ _=>⟨rfl,?_⟩)
  (refine gW ?_;intros)
  refine Q7 hT (S:=Nat) (fun k=>([(2,lp 0),(3,lp 1),(4,lp 2),(25,.osl (.loc 3) 1 0 ks.length),(26,dV ks.length),(27,dV k)],
   ⟨[bX 32 (up (Q0 c)),bX 66 [dV r.op,dV (Zx c.crs r),.d (.str r.name),dV r.n,dV r.d,.osl (.loc 3) 1 0 ks.length],bX 66 (up dZR),bV 66 6 1 ks.length (rowsOf Q2 (J8 (Qy c.crs) ks k))],[]⟩))
   (fun k=>k<=ks.length/\(ks.take k).all (okN c.crs)=true) (fun k=>ks.length-k) 0 ?_ ?_ ?_
  .rw[M6]
   repeat' (first|exact Tt|exact rfl|exact Qgx _|refine And.intro ?_ ?_)
   all_goals (intro i hi;exact⟨rfl,rfl⟩)
  .exact⟨Qh3 _,rfl⟩
  .rintro k ⟨hk,ht⟩
   have kt:Kp _:=⟨ht⟩
   clear ht
   dsimp only at hk⊢
   have hLl:=M5 (Qy c.crs) ks k
   by_cases hk2:k<ks.length
   .have hI:=ih _ (Qe hk2) (hkc _ (Qe hk2))
    have hLk:=M3 (Qy c.crs) hk2
    rw[<-hLk]at hI
    have kS:Kp _:=⟨fun y hy j hj=>Dz (Qy c.crs) Q2 (l:=ks) (k:=k) y hy (j:=j) hj⟩
    have kA:Kp ((ks.take (k+1)).all (okN c.crs)=okN c.crs (ks.getD k default)):=⟨by rw[Js hk2,Qii,kt.h];simp⟩
    rw[<-hLk]at kA
    have kL:Kp _:=⟨hLk⟩
    clear hLk
    generalize J8 (Qy c.crs) ks k=L at hI hLl kS kA kL⊢
    cases hok:okN c.crs (L.getD k default) with
    | false =>
      have hb:okN c.crs r=false:=by
       rw[kE.h,List.all_eq_false]
       exact⟨_,Qe hk2,by rw[<-kL.h,hok];exact Qhl⟩
      rw[hok]at hI
      have hP:=hI.2 rfl
      rw[hb]
      clear hI ih hkc
      (refine gS ?_;intros)
      refine Sq.go ?_;(refine gS ?_;intros)
      refine Sq.go ?_;(refine gS ?_;intros)
      refine Sq.alt (Awp.panD hT Kr Kr Kr [5] [7] (chE 110) Kr ?_)
      conv=>whnf
      (refine gS ?_;intros)
      refine⟨?_,Ev.mk ⟨rfl,rfl⟩⟩
      conv=>whnf
      (refine gS ?_;intros)
      exact Pan.vc hP ⟨.d,.d,Tt⟩ rfl
    | true =>
      rw[hok]at hI
      have hP:=hI.1 rfl
      have hkt:=kA.h.trans hok
      clear hI ih hkc
      (refine gW ?_;intros)
      refine qC hP ?_
      (refine gW ?_;intros)
      refine⟨k+1,⟨by show k+1<=ks.length;omega,hkt⟩,by show ks.length-(k+1)<ks.length-k;omega,?_⟩
      repeat' (first|exact Tt|exact rfl|exact Qgx _|refine And.intro ?_ ?_)
      all_goals first
       | (intro j hj
          refine⟨?_,rfl⟩
          exact kS.h _ (by rw[<-kL.h];rfl) j hj)
   .obtain rfl:k=ks.length:=by omega
    have hb:okN c.crs r=true:=by
     rw[kE.h]
     have:=kt.h
     rwa [Qhp]at this
    obtain⟨F,hF,hf⟩:∃F,J0 (ks.map (Qy c.crs))=.sl 6 ks.length F/\∀i,i<ks.length->rowsOf Q2 (J8 (Qy c.crs) ks ks.length) i=up (F i):=⟨Uo (ks.map (Qy c.crs)),by unfold J0;rw[Qhb],fun i hi=>by
     rw[Ef,Ri (fun e=>by have:=congrArg List.length e;rw[Qhb]at this;simp at this;subst this;exact absurd hi (Qhh _))]
     rfl⟩
    have hR:Q2 (Qy c.crs r)=[di r.op,di (Zx c.crs r),.str r.name,di r.n,di r.d,.sl 6 ks.length F]:=by
     rw[Mi,hks]
     show[_,_,_,_,_,J0 (ks.map (Qy c.crs))]=_
     rw[hF]
     rfl
    rw[hb,hR]
    clear hb hR
    generalize rowsOf Q2 (J8 (Qy c.crs) ks ks.length)=G at hf⊢
    clear ih hkc
    (refine gW ?_;intros)
    exact⟨rfl,.agg' ⟨.d,.d,.d,.d,.d,.rows rfl (Qhz (Qh9 _)) (fun i hi=>by rw[Qh9];exact hf i hi),Tt⟩,Tt⟩
def Hc (t:Int)(s:Bool)(g x:Fct):Bool × Fct:=if Gu t x&&(!s||!Ra x g) then(true,x) else(s,g)
theorem Qfs (t:Int)(b:Option Fct)(x:Fct):(Xg t b x).isSome=(Hc t b.isSome (b.getD zF) x).1/\(Xg t b x).getD zF=(Hc t b.isSome (b.getD zF) x).2:=by
 unfold Xg Hc
 cases b<;>cases Gu t x<;>simp<;>(try (cases Ra x _<;>simp))
theorem Qca (l:List Fct)(k:Ke)(kn:Int):Qz Tryz.prog 110 [.d (Zd l),.d (.agg (eKe k)),dV kn] ⟨[],[]⟩
 (Ret (fun _:Unit=>([.fn (.func 164) [] [lp 0,lp 1,lp 2]],⟨[bX 42 [.d (Zd l)],bX 90 (up (eKe k)),bX 3 [dV kn]],[]⟩)) fun _=>True):=by
 refine Zv hT (T:=tab) (N:=8) (rs:=[.tmp 6]) _ _ Tryz.func110 rfl rfl rfl Kr rfl ?_
 (refine gW ?_;intros)
 exact⟨(),Tt,by repeat' (first|exact Tt|exact rfl|exact Qgx _|refine And.intro ?_ ?_),rfl⟩
theorem Qc8 (rec:Loop)(t:Int)(y:Nat)(l:List Fct)(hx:Qg l)(k:Ke)(kn:Int)
 (hy:∀ (q:List Fct) (x:Fct),x∈l→Zc Tryz.prog y [.d (.agg (Qf x))] ⟨[],[some (.box 42 [.d (Zd l)]),some (.box 90 (up (eKe k))),some (.box 3 [.d (.int .i64 kn)]),some (.box 3 [.d (.int .i64 t)]),some (.box 94 (up (Qf ((q.foldl (Xg t) none).getD zF)))),some (.box 4 [.d (.bool (q.foldl (Xg t) none).isSome)]),some (.loop y rec [(6,.ptr (.arg 3) 0 0 0),(10,.ptr (.arg 4) 0 0 0),(11,.ptr (.arg 5) 0 0 0)])]⟩
  (Ret (fun q:List Fct=>([.d (.bool true)],⟨[],[bX 42 [.d (Zd l)],bX 90 (up (eKe k)),bX 3 [dV kn],bX 3 [dV t],bX 94 (up (Qf ((q.foldl (Xg t) none).getD zF))),bX 4 [.d (.bool (q.foldl (Xg t) none).isSome)],some (.loop y rec [(6,ap 3),(10,ap 4),(11,ap 5)])]⟩)) fun q'=>q'=q++[x])) :
 Qz Tryz.prog 164 [.fn (.yield y) [] [],ap 0,ap 1,ap 2] ((fun q:List Fct=>⟨[],[bX 42 [.d (Zd l)],bX 90 (up (eKe k)),bX 3 [dV kn],bX 3 [dV t],bX 94 (up (Qf ((q.foldl (Xg t) none).getD zF))),bX 4 [.d (.bool (q.foldl (Xg t) none).isSome)],some (.loop y rec [(6,ap 3),(10,ap 4),(11,ap 5)])]⟩) [])
  (Ret (fun q:List Fct=>([],⟨[],[bX 42 [.d (Zd l)],bX 90 (up (eKe k)),bX 3 [dV kn],bX 3 [dV t],bX 94 (up (Qf ((q.foldl (Xg t) none).getD zF))),bX 4 [.d (.bool (q.foldl (Xg t) none).isSome)],some (.loop y rec [(6,ap 3),(10,ap 4),(11,ap 5)])]⟩)) fun q=>q=l.filter (Ut k kn)):=by
 have hx':l.length<=9223372036854775807:=hx
 refine Zv hT (T:=tab) (N:=30) (rs:=[]) _ _ Tryz.func164 rfl rfl rfl Kr rfl ?_
 (refine gW ?_;intros)
 refine Q7 hT (S:=Nat × List Fct) (fun z=>([(0,.fn (.yield y) [] []),(2,ap 1),(3,ap 2),(7,.d (Zd l)),(8,dV l.length),(9,dV z.1)],(fun q:List Fct=>⟨[],[bX 42 [.d (Zd l)],bX 90 (up (eKe k)),bX 3 [dV kn],bX 3 [dV t],bX 94 (up (Qf ((q.foldl (Xg t) none).getD zF))),bX 4 [.d (.bool (q.foldl (Xg t) none).isSome)],some (.loop y rec [(6,ap 3),(10,ap 4),(11,ap 5)])]⟩) z.2))
  (fun z=>z.1<=l.length/\l.filter (Ut k kn)=z.2++(l.drop z.1).filter (Ut k kn)) (fun z=>l.length-z.1) (0,[]) ?_ ?_ ?_
 .exact lq
  all_goals (intro i hi;exact⟨rfl,rfl⟩)
 .exact⟨Qh3 _,rfl⟩
 .rintro⟨j,q⟩ ⟨hj,hc⟩
  dsimp only at hj hc
  by_cases hj2:j<l.length
  .have hm:=Qe (xs:=l) (k:=j) hj2
   rw[Qc hj2,List.filter_cons]at hc
   have kc:Kp _:=⟨hc⟩
   clear hc
   by_cases hk:(l.getD j default).kind=k.kind/\(l.getD j default).subject=k.subject/\(l.getD j default).object=k.object
   .by_cases hn:(l.getD j default).known<=kn
    .have hh:Ut k kn (l.getD j default)=true:=by simp only[Ut,Qh5,Qia,Q1f];exact⟨hk,hn⟩
     obtain⟨hk1,hk2,hk3⟩:=hk
     (refine gP ?_;intros)
     refine(hy q (l.getD j default) hm).at [.arg 0,.arg 1,.arg 2,.arg 3,.arg 4,.arg 5,.arg 6] rfl ⟨rfl,rfl,rfl,rfl,rfl,rfl,rfl,Tt⟩ (fun s' hs'=>⟨rfl,?_⟩)
     subst hs'
     (refine gP ?_;intros)
     refine stp (j+1,q++[l.getD j default]) ?_ ⟨by show j+1<=l.length;omega,by rw[kc.h,if_pos hh];simp⟩
     exact lq
     all_goals (intro i hi;exact⟨rfl,rfl⟩)
    .have hh:¬ Ut k kn (l.getD j default)=true:=by simp only[Ut,Qh5,Qia];exact fun h=>hn h.2
     obtain⟨hk1,hk2,hk3⟩:=hk
     (refine gP ?_;intros)
     refine stp (j+1,q) ?_ ⟨by show j+1<=l.length;omega,by rw[kc.h,if_neg hh]⟩
     exact lq
     all_goals (intro i hi;exact⟨rfl,rfl⟩)
   .have hh:¬ Ut k kn (l.getD j default)=true:=by simp only[Ut,Qh5,Qia,Q1f];exact fun h=>hk h.1
    (refine gP ?_;intros)
    refine stp (j+1,q) ?_ ⟨by show j+1<=l.length;omega,by rw[kc.h,if_neg hh]⟩
    exact lq
    all_goals (intro i hi;exact⟨rfl,rfl⟩)
  .rw[Qr Om,List.filter_nil,Qih]at hc
   (refine gW ?_;intros)
   refine⟨_,hc.symm,?_,rfl⟩
   exact lq
   all_goals (intro i hi;exact⟨rfl,rfl⟩)
theorem Kl (l:List Fct) (hl:Qg l) (k:Ke) (t kn:Int):Pure Tryz.prog 40 [Zd l,.agg (eKe k),.int .i64 t,.int .i64 kn] [.int .i64 (atV l k t kn).1,.bool (atV l k t kn).2]:=by
 refine Q4 hT (T:=tab) (N:=50) (rs:=[.tmp 8,.tmp 9]) Tryz.func40 rfl rfl rfl Kr rfl ?_
 (refine gW ?_;intros)
 refine(Qca l k kn).at [] rfl Tt (fun _ _=>⟨rfl,?_⟩)
 (refine gW ?_;intros)
 refine Awp.range (caps:=[lp 4,lp 5,lp 6]) [(6,lp 1),(10,lp 2),(11,lp 3)] (.inl rfl) (nl:=7) (na:=0) ⟨⟨rfl,rfl⟩,⟨rfl,rfl⟩,⟨rfl,rfl⟩,Tt⟩ ?_
 intro y r h1 h2 h3 h4 h5 h6
 refine(Qc8 r t y l hl k kn ?_).at [.loc 4,.loc 5,.loc 6,.loc 1,.loc 2,.loc 3,.loc 7] rfl ⟨rfl,rfl,rfl,rfl,rfl,rfl,rfl,Tt⟩ (fun s hs=>⟨rfl,?_⟩)
 .intro q x hx
  obtain⟨b,hb⟩:∃b,q.foldl (Xg t) none=b:=⟨_,rfl⟩
  have hn:(q++[x]).foldl (Xg t) none=Xg t b x:=by rw[List.foldl_append,hb];rfl
  have hp:=Qfs t b x
  rw[hb]
  obtain⟨s,hs⟩:∃s,b.isSome=s:=⟨_,rfl⟩
  obtain⟨g,hg⟩:∃g,b.getD zF=g:=⟨_,rfl⟩
  rw[hs,hg]at hp⊢
  refine Mv (Mw (N:=50) (ps:=[17]) (args:=[.d (.agg (Qf x))])
   (bs:=[bX 42 [.d (Zd l)],bX 90 (up (eKe k)),bX 3 [dV kn],bX 3 [dV t],bX 94 (up (Qf g)),bX 4 [.d (.bool s)]]) (env0:=[(6,ap 3),(10,ap 4),(11,ap 5)])
   (fun z:Bool × Fct=>[bX 42 [.d (Zd l)],bX 90 (up (eKe k)),bX 3 [dV kn],bX 3 [dV t],bX 94 (up (Qf z.2)),bX 4 [.d (.bool z.1)]]) (fun _=>none) (fun z=>z=Hc t s g x) h1 h3 h4 h5 h6 rfl (by simp) ?_ rfl rfl ?_) ?_
  .exact lq
  .clear hp hn hb hs hg
   refine Awp.of_vc hT ?_
   (refine gW ?_;intros)
   refine Awp.of_vc hT ?_
   by_cases e1:x.fr<=t
   .by_cases e2:t<x.til
    .have hh:Gu t x=true:=by simp[Gu,e1,e2]
     cases s with
     | false =>
       (refine gW ?_;intros)
       exact⟨(true,x),by simp[Hc,hh],rfl,rfl,by repeat' (first|exact Tt|exact rfl|exact Qgx _|refine And.intro ?_ ?_)⟩
     | true =>
       have hC:=Q98 x g
       have hB:=Q99 x g
       cases e3:Ra x g
       .rw[e3]at hB
        have hB':0<=L1 x g:=by simpa using hB
        (refine gW ?_;intros)
        refine hC.call ?_
        (refine gW ?_;intros)
        exact⟨(true,x),by simp[Hc,hh,e3],rfl,rfl,by repeat' (first|exact Tt|exact rfl|exact Qgx _|refine And.intro ?_ ?_)⟩
       .rw[e3]at hB
        have hB':¬ 0<=L1 x g:=by simpa using hB
        (refine gW ?_;intros)
        refine hC.call ?_
        (refine gW ?_;intros)
        exact⟨(true,g),by simp[Hc,hh,e3],rfl,rfl,by repeat' (first|exact Tt|exact rfl|exact Qgx _|refine And.intro ?_ ?_)⟩
    .have hh:Gu t x=false:=by simp[Gu,e2]
     (refine gW ?_;intros)
     exact⟨(s,g),by simp[Hc,hh],rfl,rfl,by repeat' (first|exact Tt|exact rfl|exact Qgx _|refine And.intro ?_ ?_)⟩
   .have hh:Gu t x=false:=by simp[Gu,e1]
    (refine gW ?_;intros)
    exact⟨(s,g),by simp[Hc,hh],rfl,rfl,by repeat' (first|exact Tt|exact rfl|exact Qgx _|refine And.intro ?_ ?_)⟩
  .rintro A m' ⟨z,hJ,rfl,rfl⟩
   refine⟨q++[x],rfl,rfl,?_⟩
   dsimp only
   rw[hn,hp.1,hp.2,<-hJ]
   show(⟨[],[some _,some _,some _,some _,some _,some _,some (.loop y (after r none) _)]⟩:Mem)=_
   rw[Wg h1 h2]
 .have hv:s.foldl (Xg t) none=Cy l k t kn:=by rw[hs];rfl
  unfold atV
  dsimp only
  rw[hv]
  obtain⟨b,hb⟩:∃b,Cy l k t kn=b:=⟨_,rfl⟩
  rw[hb]
  have hO:atO b=if b.isSome&&!decide ((b.getD zF).value<0) then((b.getD zF).value,true) else(0,false):=by
   cases b with
   |none=>rfl
   |some f=>by_cases e:f.value<0<;>simp[atO,e]
  rw[hO]
  clear hO hb hv hs
  generalize b.isSome=s
  generalize b.getD zF=g
  cases s
  ·(refine gW ?_;intros)
   refine⟨none,by rw[Wg h1 h2];rfl,?_⟩
   show Sq _ _
   (refine gW ?_;intros)
   exact⟨rfl,rfl,Tt⟩
  .by_cases e:g.value<0
   .rw[Qh8 e]
    (refine gW ?_;intros)
    refine⟨none,by rw[Wg h1 h2];rfl,?_⟩
    show Sq _ _
    (refine gW ?_;intros)
    exact⟨rfl,rfl,Tt⟩
   .rw[Qh0 e]
    (refine gW ?_;intros)
    refine⟨none,by rw[Wg h1 h2];rfl,?_⟩
    show Sq _ _
    (refine gW ?_;intros)
    exact⟨rfl,rfl,Tt⟩
end Go.Proofs.YtmlhghddfobmmaaGreatDoor
