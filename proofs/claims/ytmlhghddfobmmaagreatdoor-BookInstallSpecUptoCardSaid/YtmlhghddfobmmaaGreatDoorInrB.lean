import Derived.Test.YtmlhghddfobmmaaGreatDoorSynC
import Derived.Test.YtmlhghddfobmmaaGreatDoorNmI
import Derived.Test.YtmlhghddfobmmaaGreatDoorInsP
import Derived.Test.YtmlhghddfobmmaaGreatDoorNmC
namespace Go.Proofs.YtmlhghddfobmmaaGreatDoor
set_option linter.unusedSimpArgs false
set_option linter.unusedVariables false
open Go Go.Ab
set_option maxRecDepth 100000
set_option maxHeartbeats 0
theorem Q87 (a b:Req)(ha:Lw a)(hb:Lw b):Pure Tryz.prog 123 [.agg (Jv a),.agg (Jv b)] [.bool (decide (a=b))]:=by
 have hN:=Q89 a.names b.names ha.1 hb.1
 have hB:=Q84 a.fr b.fr ha.2 hb.2
 obtain⟨xa,hxa⟩:∃x,a.home=x:=⟨_,rfl⟩
 obtain⟨xb,hxb⟩:∃x,b.home=x:=⟨_,rfl⟩
 rw[Pu a xa hxa,Pu b xb hxb]
 refine Q4 hT (T:=tab) (N:=45) (rs:=[.tmp 4]) Tryz.func123 rfl rfl rfl Kr rfl ?_
 by_cases q1:a.name=b.name
 case neg =>
  rw[Qh0 (fun e=>q1 (by rw[e]))]
  ((refine xW ?_ ?_)<;>intros)
  all_goals first
   |exact⟨rfl,Tt⟩
   |(refine⟨congrArg D.bool ?_,Tt⟩;simp[q1];done)
   |(exfalso;simp_all;done)
 by_cases q2:a.credits=b.credits
 case neg =>
  rw[Qh0 (fun e=>q2 (by rw[e]))]
  (refine gW ?_;intros)
  all_goals first
   |exact⟨rfl,Tt⟩
   |(refine⟨congrArg D.bool ?_,Tt⟩;simp[q2];done)
   |(exfalso;simp_all;done)
 by_cases q3:a.grade=b.grade
 case neg =>
  rw[Qh0 (fun e=>q3 (by rw[e]))]
  (refine gW ?_;intros)
  all_goals first
   |exact⟨rfl,Tt⟩
   |(refine⟨congrArg D.bool ?_,Tt⟩;simp[q3];done)
   |(exfalso;simp_all;done)
 by_cases q4:xa=xb
 case neg =>
  rw[Qh0 (fun e=>q4 (by rw[<-hxa,<-hxb,e]))]
  clear hxa hxb
  cases xa<;>cases xb<;>first|exact absurd rfl q4|skip
  all_goals
   clear q4
   (refine gP ?_;intros)
  all_goals first
   |exact⟨rfl,Tt⟩
   |(refine⟨congrArg D.bool ?_,Tt⟩;simp[q1,q2,q3];done)
   |(exfalso;simp[q1,q2,q3]at h;done)
 subst q4
 have hiff:decide (a=b)=(decide (a.names=b.names)&&decide (a.fr=b.fr)):=by rw[<-Bool.decide_and];exact decide_eq_decide.2 (by rw[Q3k];simp only[q1,q2,q3,hxa,hxb,true_and])
 rw[hiff]
 clear hiff hxa hxb
 generalize decide (a.names=b.names)=r at hN⊢
 generalize decide (a.fr=b.fr)=s at hB⊢
 cases xa
 case false =>
  cases r
  case false =>
   ((refine xP ?_ ?_)<;>intros)
   all_goals try (exfalso;simp_all;done)
   refine hN.call ?_
   (refine gP ?_;intros)
   exact⟨congrArg D.bool (by simp[q1,q2,q3]),Tt⟩
  case true =>
   ((refine xP ?_ ?_)<;>intros)
   all_goals try (exfalso;simp_all;done)
   refine hN.call ?_
   ((refine xP ?_ ?_)<;>intros)
   all_goals try (exfalso;simp_all;done)
   refine hB.call ?_
   (refine gP ?_;intros)
   exact⟨congrArg D.bool (by simp[q1,q2,q3]),Tt⟩
 case true =>
  cases r
  case false =>
   ((refine xP ?_ ?_)<;>intros)
   all_goals try (exfalso;simp_all;done)
   refine hN.call ?_
   (refine gP ?_;intros)
   exact⟨congrArg D.bool (by simp[q1,q2,q3]),Tt⟩
  case true =>
   ((refine xP ?_ ?_)<;>intros)
   all_goals try (exfalso;simp_all;done)
   refine hN.call ?_
   ((refine xP ?_ ?_)<;>intros)
   all_goals try (exfalso;simp_all;done)
   refine hB.call ?_
   (refine gP ?_;intros)
   exact⟨congrArg D.bool (by simp[q1,q2,q3]),Tt⟩
theorem Q86 (a b:Prg)(ha:Bh a)(hb:Bh b):Pure Tryz.prog 126 [.agg (Q9 a),.agg (Q9 b),.pt [.fn (.func 123) [] []] 0] [.bool (decide (a=b))]:=by
 have hN:=Q8c a.reqs b.reqs ha.1 hb.1 fun x hx y hy=>Q87 x y (ha.2 x hx) (hb.2 y hy)
 refine Q4 hT (T:=tab) (N:=47) (rs:=[.tmp 5]) Tryz.func126 rfl rfl rfl Kr rfl ?_
 by_cases q1:a.name=b.name
 case neg =>
  rw[Qh0 (fun e=>q1 (by rw[e]))]
  ((refine xW ?_ ?_)<;>intros)
  all_goals first
   |exact⟨rfl,Tt⟩
   |(refine⟨congrArg D.bool ?_,Tt⟩;simp[q1];done)
   |(exfalso;simp_all;done)
 by_cases q2:a.number=b.number
 case neg =>
  rw[Qh0 (fun e=>q2 (by rw[e]))]
  (refine gW ?_;intros)
  all_goals first
   |exact⟨rfl,Tt⟩
   |(refine⟨congrArg D.bool ?_,Tt⟩;simp[q2];done)
   |(exfalso;simp_all;done)
 by_cases q3:a.uses=b.uses
 case neg =>
  rw[Qh0 (fun e=>q3 (by rw[e]))]
  (refine gW ?_;intros)
  all_goals first
   |exact⟨rfl,Tt⟩
   |(refine⟨congrArg D.bool ?_,Tt⟩;simp[q3];done)
   |(exfalso;simp_all;done)
 by_cases q4:a.earn=b.earn
 case neg =>
  rw[Qh0 (fun e=>q4 (by rw[e]))]
  (refine gW ?_;intros)
  all_goals first
   |exact⟨rfl,Tt⟩
   |(refine⟨congrArg D.bool ?_,Tt⟩;simp[q4];done)
   |(exfalso;simp_all;done)
 by_cases q5:a.mn=b.mn
 case neg =>
  rw[Qh0 (fun e=>q5 (by rw[e]))]
  (refine gW ?_;intros)
  all_goals first
   |exact⟨rfl,Tt⟩
   |(refine⟨congrArg D.bool ?_,Tt⟩;simp[q5];done)
   |(exfalso;simp_all;done)
 by_cases q6:a.md=b.md
 case neg =>
  rw[Qh0 (fun e=>q6 (by rw[e]))]
  (refine gW ?_;intros)
  all_goals first
   |exact⟨rfl,Tt⟩
   |(refine⟨congrArg D.bool ?_,Tt⟩;simp[q6];done)
   |(exfalso;simp_all;done)
 have hiff:decide (a=b)=decide (a.reqs=b.reqs):=decide_eq_decide.2 (by rw[Q36];simp only[q1,q2,q3,q4,q5,q6,true_and,and_self])
 rw[hiff]
 clear hiff
 generalize decide (a.reqs=b.reqs)=r at hN⊢
 ((refine xW ?_ ?_)<;>intros)
 all_goals try (exfalso;simp_all;done)
 refine hN.call ?_
 (refine gW ?_;intros)
 exact⟨congrArg D.bool (by simp[q1,q2,q3,q4,q5,q6]),Tt⟩
structure Uh (c:Cat):Prop where
 crs:Qg c.crs
 wcrs:∀x∈c.crs,Yz x
 same:Qg c.same
 prg:Qg c.prg
 wprg:∀x∈c.prg,Bh x
 classes:Qg c.classes
 fees:Qg c.fees
 honours:Qg c.honours
 clauses:Qg c.clauses
noncomputable instance:DecidableEq Cat:=fun _ _=>Classical.propDecidable _
theorem T3 (a b:Cat):a=b↔a.crs=b.crs/\a.same=b.same/\a.prg=b.prg/\a.classes=b.classes/\a.fees=b.fees/\a.honours=b.honours/\a.clauses=b.clauses:=by
 cases a;cases b
 simp only[Cat.mk.injEq]
theorem Qfn (a b:Cat)(ha:Uh a)(hb:Uh b):Pure Tryz.prog 75 [.agg (Q0 a),.agg (Q0 b)] [.bool (decide (a=b))]:=by
 have hE1:=Q8a a.crs b.crs ha.crs hb.crs fun x hx y hy=>Q82 x y (ha.wcrs x hx) (hb.wcrs y hy)
 have hE2:=Q85 a.same b.same ha.same hb.same
 have hE3:=Q8b a.prg b.prg ha.prg hb.prg fun x hx y hy=>Q86 x y (ha.wprg x hx) (hb.wprg y hy)
 have hE4:=Q03 a.classes b.classes ha.classes hb.classes
 have hE5:=Q83 a.fees b.fees ha.fees hb.fees
 have hE6:=Q03 a.honours b.honours ha.honours hb.honours
 have hE7:=Q81 a.clauses b.clauses ha.clauses hb.clauses
 have hiff:decide (a=b)=(decide (a.crs=b.crs)&&(decide (a.same=b.same)&&(decide (a.prg=b.prg)&&(decide (a.classes=b.classes)&&(decide (a.fees=b.fees)&&(decide (a.honours=b.honours)&&decide (a.clauses=b.clauses))))))):=by
  simp only[<-Bool.decide_and]
  exact decide_eq_decide.2 (T3 a b)
 rw[hiff]
 clear hiff ha hb
 generalize decide (a.crs=b.crs)=b1 at hE1⊢
 generalize decide (a.same=b.same)=b2 at hE2⊢
 generalize decide (a.prg=b.prg)=b3 at hE3⊢
 generalize decide (a.classes=b.classes)=b4 at hE4⊢
 generalize decide (a.fees=b.fees)=b5 at hE5⊢
 generalize decide (a.honours=b.honours)=b6 at hE6⊢
 generalize decide (a.clauses=b.clauses)=b7 at hE7⊢
 refine Q4 hT (T:=tab) (N:=58) (rs:=[.tmp 4]) Tryz.func75 rfl rfl rfl Kr rfl ?_
 cases b1
 case false =>
  (refine gW ?_;intros)
  refine hE1.call ?_
  (refine gW ?_;intros)
  exact⟨rfl,Tt⟩
 cases b2
 case false =>
  (refine gW ?_;intros)
  refine hE1.call ?_
  (refine gW ?_;intros)
  refine hE2.call ?_
  (refine gW ?_;intros)
  exact⟨rfl,Tt⟩
 cases b3
 case false =>
  (refine gW ?_;intros)
  refine hE1.call ?_
  (refine gW ?_;intros)
  refine hE2.call ?_
  (refine gW ?_;intros)
  refine hE3.loan rfl ⟨.d,.d,.fn' Tt ⟨.ptr' rfl ⟨.d,Tt⟩,Tt⟩,Tt⟩ ?_
  (refine gW ?_;intros)
  exact⟨rfl,Tt⟩
 cases b4
 case false =>
  (refine gW ?_;intros)
  refine hE1.call ?_
  (refine gW ?_;intros)
  refine hE2.call ?_
  (refine gW ?_;intros)
  refine hE3.loan rfl ⟨.d,.d,.fn' Tt ⟨.ptr' rfl ⟨.d,Tt⟩,Tt⟩,Tt⟩ ?_
  (refine gW ?_;intros)
  refine hE4.call ?_
  (refine gW ?_;intros)
  exact⟨rfl,Tt⟩
 cases b5
 case false =>
  (refine gW ?_;intros)
  refine hE1.call ?_
  (refine gW ?_;intros)
  refine hE2.call ?_
  (refine gW ?_;intros)
  refine hE3.loan rfl ⟨.d,.d,.fn' Tt ⟨.ptr' rfl ⟨.d,Tt⟩,Tt⟩,Tt⟩ ?_
  (refine gW ?_;intros)
  refine hE4.call ?_
  (refine gW ?_;intros)
  refine hE5.call ?_
  (refine gW ?_;intros)
  exact⟨rfl,Tt⟩
 cases b6
 case false =>
  (refine gW ?_;intros)
  refine hE1.call ?_
  (refine gW ?_;intros)
  refine hE2.call ?_
  (refine gW ?_;intros)
  refine hE3.loan rfl ⟨.d,.d,.fn' Tt ⟨.ptr' rfl ⟨.d,Tt⟩,Tt⟩,Tt⟩ ?_
  (refine gW ?_;intros)
  refine hE4.call ?_
  (refine gW ?_;intros)
  refine hE5.call ?_
  (refine gW ?_;intros)
  refine hE6.call ?_
  (refine gW ?_;intros)
  exact⟨rfl,Tt⟩
 (refine gW ?_;intros)
 refine hE1.call ?_
 (refine gW ?_;intros)
 refine hE2.call ?_
 (refine gW ?_;intros)
 refine hE3.loan rfl ⟨.d,.d,.fn' Tt ⟨.ptr' rfl ⟨.d,Tt⟩,Tt⟩,Tt⟩ ?_
 (refine gW ?_;intros)
 refine hE4.call ?_
 (refine gW ?_;intros)
 refine hE5.call ?_
 (refine gW ?_;intros)
 refine hE6.call ?_
 (refine gW ?_;intros)
 refine hE7.call ?_
 (refine gW ?_;intros)
 exact⟨rfl,Tt⟩
theorem Qda (p:Pai):Pure Tryz.prog 73 [.agg (Qv p)] [.bool (Yf p)]:=by
 unfold Yf
 have hX:=V0 p.x 0 4095
 have hY:=V0 p.y 0 4095
 refine Q4 hT (T:=tab) (N:=11) (rs:=[.tmp 2]) Tryz.func73 rfl rfl rfl Kr rfl ?_
 cases h:bw p.x 0 4095<;>rw[h]at hX
 ·(refine gW ?_;intros)
  refine hX.call ?_
  (refine gW ?_;intros)
  exact⟨rfl,Tt⟩
 ·(refine gW ?_;intros)
  refine hX.call ?_
  (refine gW ?_;intros)
  refine hY.call ?_
  (refine gW ?_;intros)
  exact⟨rfl,Tt⟩
noncomputable def U5 (b:Bok)(c:Cat)(fr til kn:Int):Int :=
 if Vn b=0 then(if J1 c=0 then(if(decide (c=Vv c)&&(c.same.all Yf&&(decide (Vn ⟨c.crs,c.prg,[Qq c]⟩=0)&&B8 fr til kn)))=true then 0 else 140) else J1 c) else Vn b
noncomputable def L9 (b:Bok)(c:Cat)(fr til kn:Int):List D:=if U5 b c fr til kn=0 then[.agg (Q8 (W4 b c)),Zd (Y1 b c fr til kn),di 0] else[.agg (Q8 T1),.nils,di (U5 b c fr til kn)]
theorem Qav (b:Bok)(c:Cat)(fr til kn:Int)(hwb:Y5 b)(hwc:Y5 ⟨c.crs,c.prg,[Qq c]⟩)(hF:Yl c)(hE:Uh c)(hE2:Uh (Vv c))(h1:b.crs.length<=100)(h2:c.crs.length<=100)(h3:b.prg.length<=100)(h4:c.prg.length<=100)(h5:b.sys.length<=100)(h6:c.same.length<=100) :
 Pure Tryz.prog 15 [.agg (Q8 b),.agg (Q0 c),.agg [di fr,di til],di kn] (L9 b c fr til kn):=by
 have hB:=N2 b hwb
 have hR:=Q3p c hF
 have hM:=Qfn c (Vv c) hE hE2
 have hP:=Q5m c.same hE.same 73 Yf fun p h=>Qda p
 have hC:=N2 _ hwc
 have hI:=V0 kn 1 16777216
 have hL:=Qap b c fr til kn h1 h2 h3 h4 h5 h6
 clear hwb hwc hF hE hE2
 unfold L9 U5
 by_cases e1:Vn b=0
 case neg =>
  simp only[if_neg e1]
  generalize Vn b=e at hB e1⊢
  refine V3 hT (T:=tab) (N:=211) (rs:=Xk) Tryz.func15 rfl rfl rfl Kr rfl ?_
  (refine gW ?_;intros)
  refine hB.call ?_
  (refine gW ?_;intros)
  refine⟨?_,.d,.d,Tt⟩
  conv=>whnf
  exact .eq (y:=.agg [.nils,.nils,.nils]) (.inr ⟨rfl,rfl,rfl,Tt⟩)
 simp only[if_pos e1]
 rw[e1]at hB
 by_cases e2:J1 c=0
 case neg =>
  simp only[if_neg e2]
  generalize J1 c=e at hR e2⊢
  refine V3 hT (T:=tab) (N:=211) (rs:=Xk) Tryz.func15 rfl rfl rfl Kr rfl ?_
  (refine gW ?_;intros)
  refine hB.call ?_
  (refine gW ?_;intros)
  refine hR.call ?_
  (refine gW ?_;intros)
  refine⟨?_,.d,.d,Tt⟩
  conv=>whnf
  exact .eq (y:=.agg [.nils,.nils,.nils]) (.inr ⟨rfl,rfl,rfl,Tt⟩)
 simp only[if_pos e2]
 have hv:Qj c=Vv c:=if_pos e2
 rw[hv,e2]at hR
 rw[hv]at hL
 generalize decide (c=Vv c)=u1 at hM⊢
 generalize c.same.all Yf=u2 at hP⊢
 cases u1
 case false =>
  refine V3 hT (T:=tab) (N:=211) (rs:=Xk) Tryz.func15 rfl rfl rfl Kr rfl ?_
  (refine gW ?_;intros)
  refine hB.call ?_
  (refine gW ?_;intros)
  refine hR.call ?_
  (refine gW ?_;intros)
  refine hM.call ?_
  (refine gW ?_;intros)
  refine⟨?_,.d,.d,Tt⟩
  conv=>whnf
  exact .eq (y:=.agg [.nils,.nils,.nils]) (.inr ⟨rfl,rfl,rfl,Tt⟩)
 cases u2
 case false =>
  refine V3 hT (T:=tab) (N:=211) (rs:=Xk) Tryz.func15 rfl rfl rfl Kr rfl ?_
  (refine gW ?_;intros)
  refine hB.call ?_
  (refine gW ?_;intros)
  refine hR.call ?_
  (refine gW ?_;intros)
  refine hM.call ?_
  (refine gW ?_;intros)
  refine hP.call ?_
  (refine gW ?_;intros)
  refine⟨?_,.d,.d,Tt⟩
  conv=>whnf
  exact .eq (y:=.agg [.nils,.nils,.nils]) (.inr ⟨rfl,rfl,rfl,Tt⟩)
 simp only[Qhy]
 by_cases e3:Vn ⟨c.crs,c.prg,[Qq c]⟩=0
 case neg =>
  rw[Qh0 e3,Bool.false_and]
  generalize Vn ⟨c.crs,c.prg,[Qq c]⟩=v at hC e3
  refine V3 hT (T:=tab) (N:=211) (rs:=Xk) Tryz.func15 rfl rfl rfl Kr rfl ?_
  (refine gW ?_;intros)
  refine hB.call ?_
  (refine gW ?_;intros)
  refine hR.call ?_
  (refine gW ?_;intros)
  refine hM.call ?_
  (refine gW ?_;intros)
  refine hP.call ?_
  (refine gW ?_;intros)
  refine hC.loan rfl ⟨.agg' ⟨.d,.d,.rows rfl (Qgx _) (fun i hi=>by rw[show i=0 from Qi1.1 hi];rfl),Tt⟩,Tt⟩ ?_
  (refine gW ?_;intros)
  refine⟨?_,.d,.d,Tt⟩
  conv=>whnf
  exact .eq (y:=.agg [.nils,.nils,.nils]) (.inr ⟨rfl,rfl,rfl,Tt⟩)
 rw[Qh8 e3,Qhy]
 rw[e3]at hC
 clear e1 e2 e3 hv
 unfold B8
 by_cases s1:0<=fr
 case neg =>
  rw[Qh0 s1,Bool.false_and]
  refine V3 hT (T:=tab) (N:=211) (rs:=Xk) Tryz.func15 rfl rfl rfl Kr rfl ?_
  (refine gW ?_;intros)
  refine hB.call ?_
  (refine gW ?_;intros)
  refine hR.call ?_
  (refine gW ?_;intros)
  refine hM.call ?_
  (refine gW ?_;intros)
  refine hP.call ?_
  (refine gW ?_;intros)
  refine hC.loan rfl ⟨.agg' ⟨.d,.d,.rows rfl (Qgx _) (fun i hi=>by rw[show i=0 from Qi1.1 hi];rfl),Tt⟩,Tt⟩ ?_
  (refine gW ?_;intros)
  refine⟨?_,.d,.d,Tt⟩
  conv=>whnf
  exact .eq (y:=.agg [.nils,.nils,.nils]) (.inr ⟨rfl,rfl,rfl,Tt⟩)
 by_cases s2:fr<til
 case neg =>
  rw[Qh8 s1,Qh0 s2,Bool.false_and,Qhy]
  refine V3 hT (T:=tab) (N:=211) (rs:=Xk) Tryz.func15 rfl rfl rfl Kr rfl ?_
  (refine gW ?_;intros)
  refine hB.call ?_
  (refine gW ?_;intros)
  refine hR.call ?_
  (refine gW ?_;intros)
  refine hM.call ?_
  (refine gW ?_;intros)
  refine hP.call ?_
  (refine gW ?_;intros)
  refine hC.loan rfl ⟨.agg' ⟨.d,.d,.rows rfl (Qgx _) (fun i hi=>by rw[show i=0 from Qi1.1 hi];rfl),Tt⟩,Tt⟩ ?_
  (refine gW ?_;intros)
  refine⟨?_,.d,.d,Tt⟩
  conv=>whnf
  exact .eq (y:=.agg [.nils,.nils,.nils]) (.inr ⟨rfl,rfl,rfl,Tt⟩)
 by_cases s3:til<=1024
 case neg =>
  rw[Qh8 s1,Qh8 s2,Qh0 s3,Bool.false_and,Qhy,Qhy]
  refine V3 hT (T:=tab) (N:=211) (rs:=Xk) Tryz.func15 rfl rfl rfl Kr rfl ?_
  (refine gW ?_;intros)
  refine hB.call ?_
  (refine gW ?_;intros)
  refine hR.call ?_
  (refine gW ?_;intros)
  refine hM.call ?_
  (refine gW ?_;intros)
  refine hP.call ?_
  (refine gW ?_;intros)
  refine hC.loan rfl ⟨.agg' ⟨.d,.d,.rows rfl (Qgx _) (fun i hi=>by rw[show i=0 from Qi1.1 hi];rfl),Tt⟩,Tt⟩ ?_
  (refine gW ?_;intros)
  refine⟨?_,.d,.d,Tt⟩
  conv=>whnf
  exact .eq (y:=.agg [.nils,.nils,.nils]) (.inr ⟨rfl,rfl,rfl,Tt⟩)
 rw[Qh8 s1,Qh8 s2,Qh8 s3,Qhy,Qhy,Qhy]
 generalize bw kn 1 16777216=u5 at hI⊢
 cases u5
 case false =>
  refine V3 hT (T:=tab) (N:=211) (rs:=Xk) Tryz.func15 rfl rfl rfl Kr rfl ?_
  (refine gW ?_;intros)
  refine hB.call ?_
  (refine gW ?_;intros)
  refine hR.call ?_
  (refine gW ?_;intros)
  refine hM.call ?_
  (refine gW ?_;intros)
  refine hP.call ?_
  (refine gW ?_;intros)
  refine hC.loan rfl ⟨.agg' ⟨.d,.d,.rows rfl (Qgx _) (fun i hi=>by rw[show i=0 from Qi1.1 hi];rfl),Tt⟩,Tt⟩ ?_
  (refine gW ?_;intros)
  refine hI.call ?_
  (refine gW ?_;intros)
  refine⟨?_,.d,.d,Tt⟩
  conv=>whnf
  exact .eq (y:=.agg [.nils,.nils,.nils]) (.inr ⟨rfl,rfl,rfl,Tt⟩)
 simp only[if_true,if_pos]
 refine V3 hT (T:=tab) (N:=211) (rs:=Xk) Tryz.func15 rfl rfl rfl Kr rfl ?_
 (refine gW ?_;intros)
 refine hB.call ?_
 (refine gW ?_;intros)
 refine hR.call ?_
 (refine gW ?_;intros)
 refine hM.call ?_
 (refine gW ?_;intros)
 refine hP.call ?_
 (refine gW ?_;intros)
 refine hC.loan rfl ⟨.agg' ⟨.d,.d,.rows rfl (Qgx _) (fun i hi=>by rw[show i=0 from Qi1.1 hi];rfl),Tt⟩,Tt⟩ ?_
 (refine gW ?_;intros)
 refine hI.call ?_
 (refine gS ?_;intros)
 refine Sq.go ?_;(refine gS ?_;intros)
 refine Sq.go ?_;(refine gS ?_;intros)
 refine Sq.alt (Awp.vecCell (.loc 7) 3 144 94 8 [dV fr,dV til,dV kn,.d .nils] (rowsOf Qf []) rfl rfl (Awp.le (env':=[(4,lp 0),(5,lp 1),(8,lp 3),(13,lp 5),(15,lp 7)]) (m':=⟨[bX 26 (up (Q8 b)),bX 32 (up (Q0 c)),bX 34 (up [di fr,di til]),bX 26 (up [.nils,.nils,.nils]),bX 32 (up (Q0 (Vv c))),bX 83 (up (Qa (Qq c))),bV 83 4 0 1 (Jr [up (Qa (Qq c))]),bX 144 [dV fr,dV til,dV kn,.osl (.loc 8) 0 0 (([]:List Fct)).length],bV 94 8 0 (([]:List Fct)).length (rowsOf Qf (([]:List Fct)))],[]⟩) ?_ hL))
 repeat' (first|exact Tt|exact rfl|exact Qgx _|refine And.intro ?_ ?_)
 all_goals first
  |(intro i hi;exact⟨rfl,rfl⟩)
  |(intro i hi;exact absurd hi (Qhh i))
theorem Qaz (p:Prg)(hw:Ce p):Pure Tryz.prog 94 [.agg (Q9 p)] [.bool (G5 p)]:=by
 have hA:=Xs p.number 0 255
 have hB:=Xs p.uses 1 4
 have hC:=Xs p.earn 0 10000
 have hD:=Q3u p.mn p.md hw.1 hw.2.1
 have hl1:p.reqs.length<=9223372036854775807:=hw.2.2.1
 unfold G5
 refine Q4 hT (T:=tab) (N:=70) (rs:=[.tmp 2]) Tryz.func94 rfl rfl rfl Kr rfl ?_
 cases h1:bw p.number 0 255<;>rw[h1]at hA
 ·(refine gW ?_;intros)
  refine hA.call ?_
  (refine gW ?_;intros)
  exact⟨rfl,Tt⟩
 cases h2:bw p.uses 1 4<;>rw[h2]at hB
 ·(refine gW ?_;intros)
  refine hA.call ?_
  (refine gW ?_;intros)
  refine hB.call ?_
  (refine gW ?_;intros)
  exact⟨rfl,Tt⟩
 cases h3:bw p.earn 0 10000<;>rw[h3]at hC
 ·(refine gW ?_;intros)
  refine hA.call ?_
  (refine gW ?_;intros)
  refine hB.call ?_
  (refine gW ?_;intros)
  refine hC.call ?_
  (refine gW ?_;intros)
  exact⟨rfl,Tt⟩
 cases h4:V2 p.mn p.md<;>rw[h4]at hD
 ·(refine gW ?_;intros)
  refine hA.call ?_
  (refine gW ?_;intros)
  refine hB.call ?_
  (refine gW ?_;intros)
  refine hC.call ?_
  (refine gW ?_;intros)
  refine hD.call ?_
  (refine gW ?_;intros)
  exact⟨rfl,Tt⟩
 by_cases h5:p.reqs.length<=64
 case neg =>
  rw[Qh0 h5]
  have h6:(64:Int)<((p.reqs.length:Nat):Int):=by omega
  (refine gW ?_;intros)
  refine hA.call ?_
  (refine gW ?_;intros)
  refine hB.call ?_
  (refine gW ?_;intros)
  refine hC.call ?_
  (refine gW ?_;intros)
  refine hD.call ?_
  (refine gW ?_;intros)
  exact⟨rfl,Tt⟩
 rw[Qh8 h5]
 have h6:¬ (64:Int)<((p.reqs.length:Nat):Int):=by omega
 show Ev _
 simp only[Qhy]
 (refine gW ?_;intros)
 refine hA.call ?_
 (refine gW ?_;intros)
 refine hB.call ?_
 (refine gW ?_;intros)
 refine hC.call ?_
 (refine gW ?_;intros)
 refine hD.call ?_
 (refine gW ?_;intros)
 refine Q7 hT (S:=Nat) (fun k=>([(1,lp 0),(3,dV k)],⟨[bX 78 (up (Q9 p))],[]⟩)) (fun k=>k<=p.reqs.length/\p.reqs.all Kf=(p.reqs.drop k).all Kf) (fun k=>p.reqs.length-k) 0 ?_ ?_ ?_
 .repeat' (first|exact Tt|exact rfl|exact Qgx _|refine And.intro ?_ ?_)
 .exact⟨Qh3 _,rfl⟩
 .rintro k ⟨hk,hc⟩
  by_cases hk2:k<p.reqs.length
  .have hm:=Qe (xs:=p.reqs) (k:=k) hk2
   have hlf:(p.reqs.getD k default).fr.length<=9223372036854775807:=hw.2.2.2 _ hm
   have g1:=Xs (p.reqs.getD k default).credits 1 10000
   have g2:=Xs (p.reqs.getD k default).grade 0 12
   rw[Qc hk2,Qi5,Kf]at hc
   cases h1:bw (p.reqs.getD k default).credits 1 10000<;>rw[h1]at g1 hc
   .rw[hc]
    (refine gW ?_;intros)
    refine g1.call ?_
    (refine gW ?_;intros)
    exact⟨rfl,Tt⟩
   cases h2:bw (p.reqs.getD k default).grade 0 12<;>rw[h2]at g2 hc
   .rw[hc]
    (refine gW ?_;intros)
    refine g1.call ?_
    (refine gW ?_;intros)
    refine g2.call ?_
    (refine gW ?_;intros)
    exact⟨rfl,Tt⟩
   have kc:Kp _:=⟨hc⟩
   clear hc
   (refine gW ?_;intros)
   refine g1.call ?_
   (refine gW ?_;intros)
   refine g2.call ?_
   (refine gW ?_;intros)
   refine Q7 hT (S:=Nat) (fun j=>([(1,lp 0),(3,dV k),(4,lp 1),(5,dV j)],⟨[bX 78 (up (Q9 p)),bX 106 (up (Jv (p.reqs.getD k default)))],[]⟩)) (fun j=>j<=(p.reqs.getD k default).fr.length/\(p.reqs.getD k default).fr.all Bd=((p.reqs.getD k default).fr.drop j).all Bd) (fun j=>(p.reqs.getD k default).fr.length-j) 0 ?_ ?_ ?_
   .repeat' (first|exact Tt|exact rfl|exact Qgx _|refine And.intro ?_ ?_)
   .exact⟨Qh3 _,rfl⟩
   .rintro j ⟨hj,hcj⟩
    by_cases hj2:j<(p.reqs.getD k default).fr.length
    .have g3:=Xs ((p.reqs.getD k default).fr.getD j default) 0 4095
     rw[Qc hj2,Qi5,Bd]at hcj
     cases h3:bw ((p.reqs.getD k default).fr.getD j default) 0 4095<;>rw[h3]at g3 hcj
     .have kj:Kp (false=p.reqs.all Kf):=⟨by rw[kc.h,hcj];rfl⟩
      clear hcj
      (refine gW ?_;intros)
      refine g3.call ?_
      (refine gW ?_;intros)
      exact⟨congrArg D.bool kj.h,Tt⟩
     .have kj:Kp _:=⟨hcj⟩
      clear hcj
      (refine gW ?_;intros)
      refine g3.call ?_
      (refine gW ?_;intros)
      refine⟨j+1,⟨by show j+1<=(p.reqs.getD k default).fr.length;omega,by rw[kj.h];rfl⟩,by show(p.reqs.getD k default).fr.length-(j+1)<(p.reqs.getD k default).fr.length-j;omega,?_⟩
      repeat' (first|exact Tt|exact rfl|exact Qgx _|refine And.intro ?_ ?_)
    .rw[Qr Om,List.all_nil]at hcj
     have kj:Kp _:=⟨hcj⟩
     clear hcj
     (refine gW ?_;intros)
     refine⟨k+1,⟨by show k+1<=p.reqs.length;omega,by rw[kc.h,kj.h];rfl⟩,by show p.reqs.length-(k+1)<p.reqs.length-k;omega,?_⟩
     repeat' (first|exact Tt|exact rfl|exact Qgx _|refine And.intro ?_ ?_)
  .rw[Qr Om,List.all_nil]at hc
   rw[hc]
   (refine gW ?_;intros)
   exact⟨rfl,Tt⟩
theorem A6 (b:Bok) (hw:Y5 b) (hs:∀ c∈b.crs,Hb c):Pure Tryz.prog 20 [.agg (Q8 b)] [.int .i64 (Vn b)]:=by
 have hl1:b.crs.length<=9223372036854775807:=hw.1.1
 have hl2:b.prg.length<=9223372036854775807:=hw.2.1.1
 have hl3:b.sys.length<=9223372036854775807:=hw.2.2.1
 unfold Vn
 refine Q4 hT (T:=tab) (N:=48) (rs:=[.tmp 2]) Tryz.func20 rfl rfl rfl Kr rfl ?_
 (refine gW ?_;intros)
 refine Q7 hT (S:=Nat) (fun k=>([(1,lp 0),(3,dV k)],⟨[bX 26 (up (Q8 b))],[]⟩)) (fun k=>k<=b.crs.length/\b.crs.all Uf=(b.crs.drop k).all Uf) (fun k=>b.crs.length-k) 0 ?_ ?_ ?_
 .repeat' (first|exact Tt|exact rfl|exact Qgx _|refine And.intro ?_ ?_)
 .exact⟨Qh3 _,rfl⟩
 .rintro k ⟨hk,hc⟩
  by_cases hk2:k<b.crs.length
  .have hm:=Qe (xs:=b.crs) (k:=k) hk2
   have hF:=Qax _ (hw.1.2 _ hm) (hs _ hm)
   rw[Qc hk2,Qi5]at hc
   cases h1:Uf (b.crs.getD k default)<;>rw[h1]at hF hc
   .rw[hc]
    (refine gW ?_;intros)
    refine hF.call ?_
    (refine gW ?_;intros)
    exact⟨rfl,Tt⟩
   .have kc:Kp _:=⟨hc⟩
    clear hc
    (refine gW ?_;intros)
    refine hF.call ?_
    (refine gW ?_;intros)
    refine⟨k+1,⟨by show k+1<=b.crs.length;omega,by rw[kc.h];rfl⟩,by show b.crs.length-(k+1)<b.crs.length-k;omega,?_⟩
    repeat' (first|exact Tt|exact rfl|exact Qgx _|refine And.intro ?_ ?_)
  .rw [Qr (by omega),List.all_nil] at hc
   rw[hc,Qhy]
   (refine gW ?_;intros)
   refine Q7 hT (S:=Nat) (fun k=>([(1,lp 0),(4,dV k)],⟨[bX 26 (up (Q8 b))],[]⟩)) (fun k=>k<=b.prg.length/\b.prg.all G5=(b.prg.drop k).all G5) (fun k=>b.prg.length-k) 0 ?_ ?_ ?_
   .repeat' (first|exact Tt|exact rfl|exact Qgx _|refine And.intro ?_ ?_)
   .exact⟨Qh3 _,rfl⟩
   .clear hk hc hk2
    rintro k ⟨hk,hc⟩
    by_cases hk2:k<b.prg.length
    .have hm:=Qe (xs:=b.prg) (k:=k) hk2
     have hF:=Qaz _ (hw.2.1.2 _ hm)
     rw[Qc hk2,Qi5]at hc
     cases h1:G5 (b.prg.getD k default)<;>rw[h1]at hF hc
     .rw[hc]
      (refine gW ?_;intros)
      refine hF.call ?_
      (refine gW ?_;intros)
      exact⟨rfl,Tt⟩
     .have kc:Kp _:=⟨hc⟩
      clear hc
      (refine gW ?_;intros)
      refine hF.call ?_
      (refine gW ?_;intros)
      refine⟨k+1,⟨by show k+1<=b.prg.length;omega,by rw[kc.h];rfl⟩,by show b.prg.length-(k+1)<b.prg.length-k;omega,?_⟩
      repeat' (first|exact Tt|exact rfl|exact Qgx _|refine And.intro ?_ ?_)
    .rw [Qr (by omega),List.all_nil] at hc
     rw[hc,Qhy]
     (refine gW ?_;intros)
     refine Q7 hT (S:=Nat) (fun k=>([(1,lp 0),(5,dV k)],⟨[bX 26 (up (Q8 b))],[]⟩)) (fun k=>k<=b.sys.length/\b.sys.all Wc=(b.sys.drop k).all Wc) (fun k=>b.sys.length-k) 0 ?_ ?_ ?_
     .repeat' (first|exact Tt|exact rfl|exact Qgx _|refine And.intro ?_ ?_)
     .exact⟨Qh3 _,rfl⟩
     .clear hk hc hk2
      rintro k ⟨hk,hc⟩
      by_cases hk2:k<b.sys.length
      .have hm:=Qe (xs:=b.sys) (k:=k) hk2
       have hF:=Qb0 _ (hw.2.2.2 _ hm)
       rw[Qc hk2,Qi5]at hc
       cases h1:Wc (b.sys.getD k default)<;>rw[h1]at hF hc
       .rw[hc]
        (refine gW ?_;intros)
        refine hF.call ?_
        (refine gW ?_;intros)
        exact⟨rfl,Tt⟩
       .have kc:Kp _:=⟨hc⟩
        clear hc
        (refine gW ?_;intros)
        refine hF.call ?_
        (refine gW ?_;intros)
        refine⟨k+1,⟨by show k+1<=b.sys.length;omega,by rw[kc.h];rfl⟩,by show b.sys.length-(k+1)<b.sys.length-k;omega,?_⟩
        repeat' (first|exact Tt|exact rfl|exact Qgx _|refine And.intro ?_ ?_)
      .rw[Qr Om,List.all_nil]at hc
       rw[hc]
       (refine gW ?_;intros)
       exact⟨rfl,Tt⟩
theorem Q3q (l:List Crs)(hl:l.length<=1000000)(n:Int):Pure Tryz.prog 85 [J2 l,di n] [.bool (decide (n∈Jh l))]:=by
 have key:∀k,k<l.length->(Jh l).getD k default=(l.getD k default).number:=fun k hk=>by
  simp only[Jh,Qha,Qhe,Qgy hk]
  rfl
 have hnl:(Jh l).length=l.length:=Qhb ..
 have kk:Kp _:=⟨key⟩
 clear key
 refine Q4 hT (T:=tab) (N:=19) (rs:=[.tmp 4]) Tryz.func85 rfl rfl rfl Kr rfl ?_
 (refine gW ?_;intros)
 refine Q7 hT (S:=Nat) (fun k=>([(0,.d (J2 l)),(1,dV n),(5,dV k)],⟨[],[]⟩)) (fun k=>k<=l.length/\n ∉ (Jh l).take k) (fun k=>l.length-k) 0 ?_ ?_ ?_
 .repeat' (first|exact Tt|exact rfl|exact Qgx _|refine And.intro ?_ ?_)
 .exact⟨Qh3 _,by rw[List.take_zero];exact Qhq⟩
 rintro k ⟨hk,hm⟩
 have km:Kp _:=⟨hm⟩
 clear hm
 by_cases hk2:k<l.length
 case pos =>
  by_cases he:(l.getD k default).number=n
  case pos =>
   have hd:n∈Jh l:=by
    rw[<-he,<-kk.h k hk2]
    exact Qe Om
   rw[Qh8 hd]
   clear hd
   (refine gW ?_;intros)
   exact⟨rfl,Tt⟩
  case neg =>
   have kq:Kp (n ∉ (Jh l).take (k+1)):=⟨by
    rw[Js Om,Qi7]
    rintro(h|h)
    .exact km.h h
    .rw[kk.h k hk2]at h
     simp at h
     exact he h.symm⟩
   (refine gW ?_;intros)
   refine⟨k+1,⟨by show k+1<=l.length;omega,kq.h⟩,by show l.length-(k+1)<l.length-k;omega,?_⟩
   repeat' (first|exact Tt|exact rfl|exact Qgx _|refine And.intro ?_ ?_)
 have hd:n ∉ Jh l:=by
  have:=km.h
  rwa [Qhn Om]at this
 rw[Qh0 hd]
 clear hd
 (refine gW ?_;intros)
 exact⟨rfl,Tt⟩
theorem Qdr (x y:Int):Pure Tryz.prog 86 [di x,di y] [.agg [di 2,di (min x y),di (max x y)]]:=by
 refine V3 hT (T:=tab) (N:=12) (rs:=[.cell 4 90]) Tryz.func86 rfl rfl rfl Kr rfl ?_
 (refine gW ?_;intros)
 refine⟨?_,Tt⟩
 conv=>whnf
 exact .d
theorem Fm (c:Cat):Pure Tryz.prog 42 [.agg (Q0 c)] [.agg (Qa (Qq c))]:=by
 refine V3 hT (T:=tab) (N:=12) (rs:=[.cell 2 83]) Tryz.func42 rfl rfl rfl Kr rfl ?_
 (refine gW ?_;intros)
 refine⟨?_,Tt⟩
 conv=>whnf
 exact .d
theorem Qf1 (c:Cat)(hw:Y5 ⟨c.crs,c.prg,[Qq c]⟩)(hs:∀x∈c.crs,Hb x)(hl:Qg c.same):Pure Tryz.prog 84 [.agg (Q0 c)] [.bool (c.same.all Yf&&decide (Vn ⟨c.crs,c.prg,[Qq c]⟩=0))]:=by
 have hl:c.same.length<=9223372036854775807:=hl
 have hC:=A6 _ hw hs
 have hS:=Fm c
 refine Q4 hT (T:=tab) (N:=39) (rs:=[.tmp 2]) Tryz.func84 rfl rfl rfl Kr rfl ?_
 (refine gW ?_;intros)
 refine Q7 hT (S:=Nat) (fun k=>([(1,lp 0),(3,dV k)],⟨[bX 32 (up (Q0 c))],[]⟩)) (fun k=>k<=c.same.length/\(c.same.take k).all Yf=true) (fun k=>c.same.length-k) 0 ?_ ?_ ?_
 .repeat' (first|exact Tt|exact rfl|exact Qgx _|refine And.intro ?_ ?_)
 .exact⟨Qh3 _,rfl⟩
 rintro k ⟨hk,ht⟩
 have kt:Kp _:=⟨ht⟩
 clear ht
 dsimp only at hk⊢
 by_cases hk2:k<c.same.length
 case pos =>
  have hX:=Xs (c.same.getD k default).x 0 4095
  have hY:=Xs (c.same.getD k default).y 0 4095
  have kn:Kp ((bw (c.same.getD k default).x 0 4095&&bw (c.same.getD k default).y 0 4095)=false->c.same.all Yf=false):=⟨fun h=>List.all_eq_false.2 ⟨_,Qe hk2,by rw[show Yf (c.same.getD k default)=false from h];exact Qhl⟩⟩
  have kg:Kp ((bw (c.same.getD k default).x 0 4095&&bw (c.same.getD k default).y 0 4095)=true->(c.same.take (k+1)).all Yf=true):=⟨fun h=>by rw[Js hk2,Qii,kt.h,Qi5,show Yf (c.same.getD k default)=true from h];rfl⟩
  generalize bw (c.same.getD k default).x 0 4095=u at hX kn kg
  generalize bw (c.same.getD k default).y 0 4095=v at hY kn kg
  cases u
  case false =>
   rw[kn.h rfl]
   (refine gW ?_;intros)
   refine hX.call ?_
   (refine gW ?_;intros)
   exact⟨rfl,Tt⟩
  cases v
  case false =>
   rw[kn.h rfl]
   (refine gW ?_;intros)
   refine hX.call ?_
   (refine gW ?_;intros)
   refine hY.call ?_
   (refine gW ?_;intros)
   exact⟨rfl,Tt⟩
  have kg':=kg.h rfl
  (refine gW ?_;intros)
  refine hX.call ?_
  (refine gW ?_;intros)
  refine hY.call ?_
  (refine gW ?_;intros)
  refine⟨k+1,⟨by show k+1<=c.same.length;omega,kg'⟩,by show c.same.length-(k+1)<c.same.length-k;omega,?_⟩
  repeat' (first|exact Tt|exact rfl|exact Qgx _|refine And.intro ?_ ?_)
 obtain rfl:k=c.same.length:=by omega
 rw[show c.same.all Yf=true from by have:=kt.h;rwa [Qhp]at this,Qhy]
 clear kt
 (refine gW ?_;intros)
 refine qC hS ?_
 (refine gW ?_;intros)
 refine qC (Wx (ds:=[.agg [J2 c.crs,Qw c.prg,.sl 4 1 (Xf [Qa (Qq c)])]]) hC ⟨.inr ⟨⟨rfl,rfl,fun i hi=>rfl⟩,⟨rfl,rfl,fun i hi=>rfl⟩,⟨rfl,rfl,fun i hi=>by rw[show i=0 from Qi1.1 hi];rfl⟩,Tt⟩,Tt⟩) ?_
 (refine gW ?_;intros)
 exact⟨rfl,Tt⟩
theorem Qfz (a b:Sys):a=b↔a.classes=b.classes/\a.honours=b.honours/\a.fees=b.fees/\a.clauses=b.clauses:=by
 cases a;cases b
 simp only[Sys.mk.injEq]
 exact⟨fun h=>⟨h.1,h.2.2.1,h.2.1,h.2.2.2⟩,fun h=>⟨h.1,h.2.2.1,h.2.1,h.2.2.2⟩⟩
theorem Q9a (a b:Fee):a=b↔a.name=b.name/\a.credits=b.credits:=by
 cases a;cases b
 simp only[Fee.mk.injEq]
theorem Q6u (a b:Cla):a=b↔a.kind=b.kind/\a.whn=b.whn/\a.action=b.action/\a.til=b.til:=by
 cases a;cases b
 simp only[Cla.mk.injEq]
theorem Ah (a b:Sys)(ha:W0 a)(hb:W0 b):Pure Tryz.prog 38 [.agg (Qa a),.agg (Qa b)] [.bool (decide (a=b))]:=by
 have hA:=Q46 a.classes b.classes ha.1.1 hb.1.1
 have hB:=Q46 a.honours b.honours ha.2.1.1 hb.2.1.1
 have hl1:a.fees.length<=9223372036854775807:=ha.2.2.1
 have hl2:a.clauses.length<=9223372036854775807:=ha.2.2.2
 have hm1:b.fees.length<=9223372036854775807:=hb.2.2.1
 have hm2:b.clauses.length<=9223372036854775807:=hb.2.2.2
 refine Q4 hT (T:=tab) (N:=75) (rs:=[.tmp 4]) Tryz.func38 rfl rfl rfl Kr rfl ?_
 by_cases q1:a.classes=b.classes
 case neg =>
  rw[Qh0 q1]at hA
  rw[Qh0 (fun e=>q1 (by rw[e]))]
  clear q1
  (refine gW ?_;intros)
  refine hA.call ?_
  (refine gW ?_;intros)
  exact⟨rfl,Tt⟩
 rw[Qh8 q1]at hA
 by_cases q2:a.honours=b.honours
 case neg =>
  rw[Qh0 q2]at hB
  rw[Qh0 (fun e=>q2 (by rw[e]))]
  clear q1 q2
  (refine gW ?_;intros)
  refine hA.call ?_
  (refine gW ?_;intros)
  refine hB.call ?_
  (refine gW ?_;intros)
  exact⟨rfl,Tt⟩
 rw[Qh8 q2]at hB
 have hiff:a=b↔a.fees=b.fees/\a.clauses=b.clauses:=by rw[Qfz];simp only[q1,q2,true_and]
 have kiff:Kp _:=⟨hiff⟩
 clear hiff q1 q2
 by_cases q3:a.fees.length=b.fees.length
 case neg =>
  rw[Qh0 (fun e=>q3 (by rw[e]))]
  (refine gW ?_;intros)
  refine hA.call ?_
  (refine gW ?_;intros)
  refine hB.call ?_
  (refine gW ?_;intros)
  exact⟨rfl,Tt⟩
 by_cases q4:a.clauses.length=b.clauses.length
 case neg =>
  rw[Qh0 (fun e=>q4 (by rw[e]))]
  (refine gW ?_;intros)
  refine hA.call ?_
  (refine gW ?_;intros)
  refine hB.call ?_
  (refine gW ?_;intros)
  exact⟨rfl,Tt⟩
 (refine gW ?_;intros)
 refine hA.call ?_
 (refine gW ?_;intros)
 refine hB.call ?_
 (refine gW ?_;intros)
 refine Q7 hT (S:=Nat) (fun k=>([(2,lp 0),(3,lp 1),(4,.d (.bool false)),(5,dV k)],⟨[bX 83 (up (Qa a)),bX 83 (up (Qa b))],[]⟩)) (fun k=>k<=a.fees.length/\(a.fees=b.fees↔a.fees.drop k=b.fees.drop k)) (fun k=>a.fees.length-k) 0 ?_ ?_ ?_
 .repeat' (first|exact Tt|exact rfl|exact Qgx _|refine And.intro ?_ ?_)
 .exact⟨Qh3 _,Iff.rfl⟩
 .rintro k ⟨hk,hc⟩
  have kc:Kp _:=⟨hc⟩
  clear hc
  by_cases hk2:k<a.fees.length
  .have hkb:k<b.fees.length:=by omega
   by_cases e:(a.fees.getD k default).name=(b.fees.getD k default).name/\(a.fees.getD k default).credits=(b.fees.getD k default).credits
   .have kn:Kp (a.fees=b.fees↔a.fees.drop (k+1)=b.fees.drop (k+1)):=⟨by
     rw[kc.h,Qc hk2,Qc hkb,(Q9a _ _).2 e]
     simp⟩
    obtain⟨e1,e2⟩:=e
    ((refine xP ?_ ?_)<;>(intros;try rename_i h))
    all_goals try exact(h.elim (fun h=>h e1) fun h=>h e2).elim
    refine⟨k+1,⟨by show k+1<=a.fees.length;omega,kn.h⟩,by show a.fees.length-(k+1)<a.fees.length-k;omega,?_⟩
    repeat' (first|exact Tt|exact rfl|exact Qgx _|refine And.intro ?_ ?_)
   .rw[Qh0 (fun e2=>e (by rw[e2];exact⟨rfl,rfl⟩))]
    (refine gP ?_;intros)
    all_goals first
     |exact⟨rfl,Tt⟩
     |exact(e h).elim
  .have hnm:a.fees=b.fees:=kc.h.2 (by rw[Qr Om,Qr Om])
   have kiff2:Kp (a=b↔a.clauses=b.clauses):=⟨by rw[kiff.h];exact⟨fun h=>h.2,fun h=>⟨hnm,h⟩⟩⟩
   clear hnm
   (refine gW ?_;intros)
   refine Q7 hT (S:=Nat) (fun k=>([(2,lp 0),(3,lp 1),(4,.d (.bool false)),(6,dV k)],⟨[bX 83 (up (Qa a)),bX 83 (up (Qa b))],[]⟩)) (fun k=>k<=a.clauses.length/\(a=b↔a.clauses.drop k=b.clauses.drop k)) (fun k=>a.clauses.length-k) 0 ?_ ?_ ?_
   .repeat' (first|exact Tt|exact rfl|exact Qgx _|refine And.intro ?_ ?_)
   .exact⟨Qh3 _,kiff2.h⟩
   .clear kc hk2 hk
    rintro k ⟨hk,hc⟩
    have kc:Kp _:=⟨hc⟩
    clear hc
    by_cases hk2:k<a.clauses.length
    .have hkb:k<b.clauses.length:=by omega
     by_cases e:(a.clauses.getD k default).kind=(b.clauses.getD k default).kind/\(a.clauses.getD k default).whn=(b.clauses.getD k default).whn/\(a.clauses.getD k default).action=(b.clauses.getD k default).action/\(a.clauses.getD k default).til=(b.clauses.getD k default).til
     .have kn:Kp (a=b↔a.clauses.drop (k+1)=b.clauses.drop (k+1)):=⟨by
       rw[kc.h,Qc hk2,Qc hkb,(Q6u _ _).2 e]
       simp⟩
      obtain⟨e1,e2,e3,e4⟩:=e
      (refine gP ?_;intros)
      refine⟨k+1,⟨by show k+1<=a.clauses.length;omega,kn.h⟩,by show a.clauses.length-(k+1)<a.clauses.length-k;omega,?_⟩
      repeat' (first|exact Tt|exact rfl|exact Qgx _|refine And.intro ?_ ?_)
     .rw[Qh0 (fun e2=>e (by rw[e2];exact⟨rfl,rfl,rfl,rfl⟩))]
      (refine gP ?_;intros)
      exact⟨rfl,Tt⟩
    .rw[Qh8 (kc.h.2 (by rw[Qr Om,Qr Om]))]
     (refine gW ?_;intros)
     exact⟨rfl,Tt⟩
theorem Qfx (a b:Cat):Qq a=Qq b↔a.classes=b.classes/\a.fees=b.fees/\a.honours=b.honours/\a.clauses=b.clauses:=by
 unfold Qq
 simp only[Sys.mk.injEq]
theorem Q3x (a b:Cat)(ha:Uh a)(hb:Uh b)(wa:W0 (Qq a))(wb:W0 (Qq b)):Pure Tryz.prog 83 [.agg (Q0 a),.agg (Q0 b)] [.bool (decide (a=b))]:=by
 have l1:a.crs.length<=9223372036854775807:=ha.crs
 have l2:a.same.length<=9223372036854775807:=ha.same
 have l3:a.prg.length<=9223372036854775807:=ha.prg
 have m1:b.crs.length<=9223372036854775807:=hb.crs
 have m2:b.same.length<=9223372036854775807:=hb.same
 have m3:b.prg.length<=9223372036854775807:=hb.prg
 have hA:=Fm a
 have hB:=Fm b
 have hS:=Ah _ _ wa wb
 have kc:Kp _:=⟨ha.wcrs⟩
 have kp:Kp _:=⟨ha.wprg⟩
 have kc':Kp _:=⟨hb.wcrs⟩
 have kp':Kp _:=⟨hb.wprg⟩
 clear ha hb wa wb
 refine Q4 hT (T:=tab) (N:=97) (rs:=[.tmp 4]) Tryz.func83 rfl rfl rfl Kr rfl ?_
 by_cases q1:a.crs.length=b.crs.length
 case neg =>
  rw[Qh0 (fun e=>q1 (by rw[e]))]
  (refine gW ?_;intros)
  exact⟨rfl,Tt⟩
 by_cases q2:a.same.length=b.same.length
 case neg =>
  rw[Qh0 (fun e=>q2 (by rw[e]))]
  (refine gW ?_;intros)
  exact⟨rfl,Tt⟩
 by_cases q3:a.prg.length=b.prg.length
 case neg =>
  rw[Qh0 (fun e=>q3 (by rw[e]))]
  (refine gW ?_;intros)
  exact⟨rfl,Tt⟩
 by_cases q4:Qq a=Qq b
 case neg =>
  rw[Qh0 (fun e=>q4 (by rw[e]))]
  rw[Qh0 q4]at hS
  clear q4
  (refine gW ?_;intros)
  refine qC hA ?_
  (refine gW ?_;intros)
  refine qC hB ?_
  (refine gW ?_;intros)
  refine qC hS ?_
  (refine gW ?_;intros)
  exact⟨rfl,Tt⟩
 rw[Qh8 q4]at hS
 have ki:Kp (a=b↔a.crs.drop 0=b.crs.drop 0/\a.same=b.same/\a.prg=b.prg):=⟨by
  rw[T3]
  obtain⟨z1,z2,z3,z4⟩:=(Qfx a b).1 q4
  simp only[z1,z2,z3,z4,and_true,List.drop_zero]⟩
 clear q4
 (refine gW ?_;intros)
 refine qC hA ?_
 (refine gW ?_;intros)
 refine qC hB ?_
 (refine gW ?_;intros)
 refine qC hS ?_
 (refine gW ?_;intros)
 refine Q7 hT (S:=Nat) (fun k=>([(2,lp 0),(3,lp 1),(5,dV k)],⟨[bX 32 (up (Q0 a)),bX 32 (up (Q0 b))],[]⟩)) (fun k=>k<=a.crs.length/\(a=b↔a.crs.drop k=b.crs.drop k/\a.same=b.same/\a.prg=b.prg)) (fun k=>a.crs.length-k) 0 ?_ ?_ ?_
 .repeat' (first|exact Tt|exact rfl|exact Qgx _|refine And.intro ?_ ?_)
 .exact⟨Qh3 _,ki.h⟩
 rintro k ⟨hk,hc⟩
 have kk:Kp _:=⟨hc⟩
 clear hc
 by_cases hk2:k<a.crs.length
 case pos =>
  have hkb:k<b.crs.length:=by omega
  have hI:=Q47 _ _ (kc.h _ (Qe hk2)) (kc'.h _ (Qe hkb))
  by_cases e:a.crs.getD k default=b.crs.getD k default
  case pos =>
   have kn:Kp (a=b↔a.crs.drop (k+1)=b.crs.drop (k+1)/\a.same=b.same/\a.prg=b.prg):=⟨by
    rw[kk.h,Qc hk2,Qc hkb,e]
    simp⟩
   rw[Qh8 e]at hI
   clear e
   (refine gW ?_;intros)
   refine qC hI ?_
   (refine gW ?_;intros)
   refine⟨k+1,⟨by show k+1<=a.crs.length;omega,kn.h⟩,by show a.crs.length-(k+1)<a.crs.length-k;omega,?_⟩
   repeat' (first|exact Tt|exact rfl|exact Qgx _|refine And.intro ?_ ?_)
  case neg =>
   rw[Qh0 (fun e2=>e (by rw[e2]))]
   rw[Qh0 e]at hI
   clear e
   (refine gW ?_;intros)
   refine qC hI ?_
   (refine gW ?_;intros)
   exact⟨rfl,Tt⟩
 clear ki
 have ki:Kp (a=b↔a.same.drop 0=b.same.drop 0/\a.prg=b.prg):=⟨by
  rw[kk.h,Qr Om,Qr Om]
  simp⟩
 clear kk
 (refine gW ?_;intros)
 refine Q7 hT (S:=Nat) (fun k=>([(2,lp 0),(3,lp 1),(6,dV k)],⟨[bX 32 (up (Q0 a)),bX 32 (up (Q0 b))],[]⟩)) (fun k=>k<=a.same.length/\(a=b↔a.same.drop k=b.same.drop k/\a.prg=b.prg)) (fun k=>a.same.length-k) 0 ?_ ?_ ?_
 .repeat' (first|exact Tt|exact rfl|exact Qgx _|refine And.intro ?_ ?_)
 .exact⟨Qh3 _,ki.h⟩
 clear hk hk2
 rintro k ⟨hk,hc⟩
 have kk:Kp _:=⟨hc⟩
 clear hc
 by_cases hk2:k<a.same.length
 case pos =>
  have hkb:k<b.same.length:=by omega
  by_cases e:a.same.getD k default=b.same.getD k default
  case pos =>
   have kn:Kp (a=b↔a.same.drop (k+1)=b.same.drop (k+1)/\a.prg=b.prg):=⟨by
    rw[kk.h,Qc hk2,Qc hkb,e]
    simp⟩
   ((refine xW ?_ ?_)<;>(intros;try rename_i h))
   focus (exfalso;rw[e]at h;simp at h)
   refine⟨k+1,⟨by show k+1<=a.same.length;omega,kn.h⟩,by show a.same.length-(k+1)<a.same.length-k;omega,?_⟩
   repeat' (first|exact Tt|exact rfl|exact Qgx _|refine And.intro ?_ ?_)
  case neg =>
   rw[Qh0 (fun e2=>e (by rw[e2]))]
   ((refine xW ?_ ?_)<;>(intros;try rename_i h))
   exact⟨rfl,Tt⟩
   exact absurd ((Q32 ..).2 h) e
 clear ki
 have ki:Kp (a=b↔a.prg.drop 0=b.prg.drop 0):=⟨by
  rw[kk.h,Qr Om,Qr Om]
  simp⟩
 clear kk
 (refine gW ?_;intros)
 refine Q7 hT (S:=Nat) (fun k=>([(2,lp 0),(3,lp 1),(7,dV k)],⟨[bX 32 (up (Q0 a)),bX 32 (up (Q0 b))],[]⟩)) (fun k=>k<=a.prg.length/\(a=b↔a.prg.drop k=b.prg.drop k)) (fun k=>a.prg.length-k) 0 ?_ ?_ ?_
 .repeat' (first|exact Tt|exact rfl|exact Qgx _|refine And.intro ?_ ?_)
 .exact⟨Qh3 _,ki.h⟩
 clear hk hk2
 rintro k ⟨hk,hc⟩
 have kk:Kp _:=⟨hc⟩
 clear hc
 by_cases hk2:k<a.prg.length
 case pos =>
  have hkb:k<b.prg.length:=by omega
  have hI:=Qfk _ _ (kp.h _ (Qe hk2)) (kp'.h _ (Qe hkb))
  by_cases e:a.prg.getD k default=b.prg.getD k default
  case pos =>
   have kn:Kp (a=b↔a.prg.drop (k+1)=b.prg.drop (k+1)):=⟨by
    rw[kk.h,Qc hk2,Qc hkb,e]
    simp⟩
   rw[Qh8 e]at hI
   clear e
   (refine gW ?_;intros)
   refine qC hI ?_
   (refine gW ?_;intros)
   refine⟨k+1,⟨by show k+1<=a.prg.length;omega,kn.h⟩,by show a.prg.length-(k+1)<a.prg.length-k;omega,?_⟩
   repeat' (first|exact Tt|exact rfl|exact Qgx _|refine And.intro ?_ ?_)
  case neg =>
   rw[Qh0 (fun e2=>e (by rw[e2]))]
   rw[Qh0 e]at hI
   clear e
   (refine gW ?_;intros)
   refine qC hI ?_
   (refine gW ?_;intros)
   exact⟨rfl,Tt⟩
 rw[Qh8 (kk.h.2 (by rw[Qr Om,Qr Om]))]
 (refine gW ?_;intros)
 exact⟨rfl,Tt⟩
end Go.Proofs.YtmlhghddfobmmaaGreatDoor
