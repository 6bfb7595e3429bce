import Derived.Test.YtmlhghddfobmmaaGreatDoorBookI
import Derived.Test.YtmlhghddfobmmaaGreatDoorEngAX
namespace Go.Proofs.YtmlhghddfobmmaaGreatDoor
set_option linter.unusedSimpArgs false
set_option linter.unusedVariables false
open Go Go.Ab
set_option maxRecDepth 100000
set_option maxHeartbeats 0
noncomputable instance:DecidableEq Q1:=fun _ _=>Classical.propDecidable _
noncomputable instance:DecidableEq Crs:=fun _ _=>Classical.propDecidable _
noncomputable instance:DecidableEq Req:=fun _ _=>Classical.propDecidable _
noncomputable instance:DecidableEq Prg:=fun _ _=>Classical.propDecidable _
noncomputable instance:DecidableEq Cls:=fun _ _=>Classical.propDecidable _
noncomputable instance:DecidableEq Fee:=fun _ _=>Classical.propDecidable _
noncomputable instance:DecidableEq Cla:=fun _ _=>Classical.propDecidable _
noncomputable instance:DecidableEq Sys:=fun _ _=>Classical.propDecidable _
noncomputable instance:DecidableEq Pai:=fun _ _=>Classical.propDecidable _
theorem Q4a (xs ys:List Red)(hx:xs.length<=9223372036854775807)(hy:ys.length<=9223372036854775807):Pure Tryz.prog 26 [Wl xs,Wl ys] [.bool (decide (xs=ys))]:=by
 refine Q4 hT (T:=tab) (N:=26) (rs:=[.tmp 4]) Tryz.func26 rfl rfl rfl Kr rfl ?_
 ((refine xW ?_ ?_)<;>(intros;try rename_i h))
 .refine⟨congrArg D.bool ?_,Tt⟩
  rw[Qh0]
  intro e
  rw[e]at h
  omega
 .refine Q7 hT (S:=Nat) (fun k=>([(0,.d (Wl xs)),(1,.d (Wl ys)),(4,.d (.bool false)),(5,dV k)],⟨[],[]⟩)) (fun k=>k<=xs.length/\(xs=ys↔xs.drop k=ys.drop k)) (fun k=>xs.length-k) 0 ?_ ?_ ?_
  .exact lq
  .exact⟨Qh3 _,Iff.rfl⟩
  .rintro k ⟨hk,ht⟩
   repeat' (first|with_reducible refine Sq.go ?_|((with_reducible refine Ev.mk ?_);conv=>whnf)|with_reducible refine Dr.mk ⟨Kr,Kr⟩ ?_|with_reducible refine obG ?_|with_reducible refine Ob.mk ?_ ?_|(with_reducible first|refine brT fun h=>?_|refine brF fun h=>?_|refine Br.mk (fun h=>?_) fun h=>?_)<;>(try simp only[bsl,Qhm,bne_iff_ne,bs2]at h)<;>(try contradiction)<;>try (exfalso;omega))
   .refine⟨congrArg D.bool ?_,Tt⟩
    rw[Qh0]
    rw[ht,Qc (xs:=xs) (k:=k) Om,Qc (xs:=ys) (k:=k) Om]
    intro e
    injection e with e1 e2
    rw[e1]at h
    simp at h
   .refine⟨k+1,⟨by show k+1<=xs.length;omega,?_⟩,by show xs.length-(k+1)<xs.length-k;omega,?_⟩
    .have e:xs.getD k default=ys.getD k default:=by
      revert h
      generalize xs.getD k default=a
      generalize ys.getD k default=b
      intro h
      cases a;cases b;simp_all
     rw[ht,Qc (xs:=xs) (k:=k) Om,Qc (xs:=ys) (k:=k) Om,e]
     simp
    .exact lq
   .refine⟨congrArg D.bool ?_,Tt⟩
    rw[Qh8]
    rw[ht]
    rw[Qib Om,Qib Om]
theorem Q48 (xs ys:List Fct)(hx:xs.length<=9223372036854775807)(hy:ys.length<=9223372036854775807):Pure Tryz.prog 18 [Zd xs,Zd ys] [.bool (decide (xs=ys))]:=by
 refine Q4 hT (T:=tab) (N:=26) (rs:=[.tmp 4]) Tryz.func18 rfl rfl rfl Kr rfl ?_
 ((refine xW ?_ ?_)<;>(intros;try rename_i h))
 .refine⟨congrArg D.bool ?_,Tt⟩
  rw[Qh0]
  intro e
  rw[e]at h
  omega
 .refine Q7 hT (S:=Nat) (fun k=>([(0,.d (Zd xs)),(1,.d (Zd ys)),(4,.d (.bool false)),(5,dV k)],⟨[],[]⟩)) (fun k=>k<=xs.length/\(xs=ys↔xs.drop k=ys.drop k)) (fun k=>xs.length-k) 0 ?_ ?_ ?_
  .repeat' (first|exact Tt|exact rfl|exact Qgx _|refine And.intro ?_ ?_)
  .exact⟨Qh3 _,Iff.rfl⟩
  .rintro k ⟨hk,ht⟩
   repeat' (first|with_reducible refine Sq.go ?_|((with_reducible refine Ev.mk ?_);conv=>whnf)|with_reducible refine Dr.mk ⟨Kr,Kr⟩ ?_|with_reducible refine obG ?_|with_reducible refine Ob.mk ?_ ?_|(with_reducible first|refine brT fun h=>?_|refine brF fun h=>?_|refine Br.mk (fun h=>?_) fun h=>?_)<;>(try simp only[bsl,Qhm,bne_iff_ne,bs2]at h)<;>(try contradiction)<;>try (exfalso;omega))
   .refine⟨congrArg D.bool ?_,Tt⟩
    rw[Qh0]
    rw[ht,Qc (xs:=xs) (k:=k) Om,Qc (xs:=ys) (k:=k) Om]
    intro e
    injection e with e1 e2
    rw[e1]at h
    simp at h
   .refine⟨k+1,⟨by show k+1<=xs.length;omega,?_⟩,by show xs.length-(k+1)<xs.length-k;omega,?_⟩
    .have e:xs.getD k default=ys.getD k default:=by
      revert h
      generalize xs.getD k default=a
      generalize ys.getD k default=b
      intro h
      cases a;cases b;simp_all
     rw[ht,Qc (xs:=xs) (k:=k) Om,Qc (xs:=ys) (k:=k) Om,e]
     simp
    .repeat' (first|exact Tt|exact rfl|exact Qgx _|refine And.intro ?_ ?_)
   .refine⟨congrArg D.bool ?_,Tt⟩
    rw[Qh8]
    rw[ht]
    rw[Qib Om,Qib Om]
theorem Q49 (xs ys:List Int)(hx:xs.length<=9223372036854775807)(hy:ys.length<=9223372036854775807):Pure Tryz.prog 25 [J6 xs,J6 ys] [.bool (decide (xs=ys))]:=by
 refine Q4 hT (T:=tab) (N:=26) (rs:=[.tmp 4]) Tryz.func25 rfl rfl rfl Kr rfl ?_
 ((refine xW ?_ ?_)<;>(intros;try rename_i h))
 .refine⟨congrArg D.bool ?_,Tt⟩
  rw[Qh0]
  intro e
  rw[e]at h
  omega
 .refine Q7 hT (S:=Nat) (fun k=>([(0,.d (J6 xs)),(1,.d (J6 ys)),(4,.d (.bool false)),(5,dV k)],⟨[],[]⟩)) (fun k=>k<=xs.length/\(xs=ys↔xs.drop k=ys.drop k)) (fun k=>xs.length-k) 0 ?_ ?_ ?_
  .repeat' (first|exact Tt|exact rfl|exact Qgx _|refine And.intro ?_ ?_)
  .exact⟨Qh3 _,Iff.rfl⟩
  .rintro k ⟨hk,ht⟩
   repeat' (first|with_reducible refine Sq.go ?_|((with_reducible refine Ev.mk ?_);conv=>whnf)|with_reducible refine Dr.mk ⟨Kr,Kr⟩ ?_|with_reducible refine obG ?_|with_reducible refine Ob.mk ?_ ?_|(with_reducible first|refine brT fun h=>?_|refine brF fun h=>?_|refine Br.mk (fun h=>?_) fun h=>?_)<;>(try simp only[bsl,Qhm,bne_iff_ne,bs2]at h)<;>(try contradiction)<;>try (exfalso;omega))
   .refine⟨congrArg D.bool ?_,Tt⟩
    rw[Qh0]
    rw[ht,Qc (xs:=xs) (k:=k) Om,Qc (xs:=ys) (k:=k) Om]
    intro e
    injection e with e1 e2
    rw[e1]at h
    simp at h
   .refine⟨k+1,⟨by show k+1<=xs.length;omega,?_⟩,by show xs.length-(k+1)<xs.length-k;omega,?_⟩
    .have e:xs.getD k default=ys.getD k default:=by
      revert h
      generalize xs.getD k default=a
      generalize ys.getD k default=b
      intro h
      exact h
     rw[ht,Qc (xs:=xs) (k:=k) Om,Qc (xs:=ys) (k:=k) Om,e]
     simp
    .repeat' (first|exact Tt|exact rfl|exact Qgx _|refine And.intro ?_ ?_)
   .refine⟨congrArg D.bool ?_,Tt⟩
    rw[Qh8]
    rw[ht]
    rw[Qib Om,Qib Om]
theorem Q46 (xs ys:List Cls)(hx:xs.length<=9223372036854775807)(hy:ys.length<=9223372036854775807):Pure Tryz.prog 109 [Qk xs,Qk ys] [.bool (decide (xs=ys))]:=by
 refine Q4 hT (T:=tab) (N:=26) (rs:=[.tmp 4]) Tryz.func109 rfl rfl rfl Kr rfl ?_
 ((refine xW ?_ ?_)<;>(intros;try rename_i h))
 .refine⟨congrArg D.bool ?_,Tt⟩
  rw[Qh0]
  intro e
  rw[e]at h
  omega
 .refine Q7 hT (S:=Nat) (fun k=>([(0,.d (Qk xs)),(1,.d (Qk ys)),(4,.d (.bool false)),(5,dV k)],⟨[],[]⟩)) (fun k=>k<=xs.length/\(xs=ys↔xs.drop k=ys.drop k)) (fun k=>xs.length-k) 0 ?_ ?_ ?_
  .repeat' (first|exact Tt|exact rfl|exact Qgx _|refine And.intro ?_ ?_)
  .exact⟨Qh3 _,Iff.rfl⟩
  .rintro k ⟨hk,ht⟩
   repeat' (first|with_reducible refine Sq.go ?_|((with_reducible refine Ev.mk ?_);conv=>whnf)|with_reducible refine Dr.mk ⟨Kr,Kr⟩ ?_|with_reducible refine obG ?_|with_reducible refine Ob.mk ?_ ?_|(with_reducible first|refine brT fun h=>?_|refine brF fun h=>?_|refine Br.mk (fun h=>?_) fun h=>?_)<;>(try simp only[bsl,Qhm,bne_iff_ne,bs2]at h)<;>(try contradiction)<;>try (exfalso;omega))
   .refine⟨congrArg D.bool ?_,Tt⟩
    rw[Qh0]
    rw[ht,Qc (xs:=xs) (k:=k) Om,Qc (xs:=ys) (k:=k) Om]
    intro e
    injection e with e1 e2
    rw[e1]at h
    simp at h
   .refine⟨k+1,⟨by show k+1<=xs.length;omega,?_⟩,by show xs.length-(k+1)<xs.length-k;omega,?_⟩
    .have e:xs.getD k default=ys.getD k default:=by
      revert h
      generalize xs.getD k default=a
      generalize ys.getD k default=b
      intro h
      cases a;cases b;simp_all
     rw[ht,Qc (xs:=xs) (k:=k) Om,Qc (xs:=ys) (k:=k) Om,e]
     simp
    .repeat' (first|exact Tt|exact rfl|exact Qgx _|refine And.intro ?_ ?_)
   .refine⟨congrArg D.bool ?_,Tt⟩
    rw[Qh8]
    rw[ht]
    rw[Qib Om,Qib Om]
theorem Q41 (a b:Q1):a=b↔a.op=b.op/\a.course=b.course/\a.name=b.name/\a.n=b.n/\a.d=b.d/\a.kids=b.kids:=by
 cases a;cases b
 simp only[Q1.mk.injEq,Q1.op,Q1.course,Q1.name,Q1.n,Q1.d,Q1.kids]
theorem Te (r:Q1)(hne:r.kids≠[]):Q2 r=[di r.op,di r.course,.str r.name,di r.n,di r.d,.sl 6 r.kids.length fun i=>Q2 (r.kids.getD i default)]:=by
 unfold Q2
 rw[Gk hne]
 rfl
theorem Q4b:∀a:Q1,wfR a->∀b:Q1,wfR b->Pure Tryz.prog 104 [.agg (Q2 a),.agg (Q2 b)] [.bool (decide (a=b))]:=by
 refine Y4 fun a ih ha b hb=>?_
 obtain⟨ha1,ha2⟩:=Ug ha
 obtain⟨hb1,hb2⟩:=Ug hb
 have hla:=ha1.2.2.2.2
 have hlb:=hb1.2.2.2.2
 refine Q4 hT (T:=tab) (N:=67) (rs:=[.tmp 4]) Tryz.func104 rfl rfl rfl Kr rfl ?_
 by_cases q1:a.op=b.op
 case neg =>
  rw[Qh0 (fun e=>q1 (by rw[e]))]
  (refine gW ?_;intros)
  all_goals first
   |exact⟨rfl,Tt⟩
   |(refine⟨congrArg D.bool ?_,Tt⟩;simp[q1];done)
   |(exfalso;simp[q1]at h;done)
   |(exfalso;rename_i h1;simp[q1]at h1;done)
 by_cases q2:a.course=b.course
 case neg =>
  rw[Qh0 (fun e=>q2 (by rw[e]))]
  (refine gW ?_;intros)
  all_goals first
   |exact⟨rfl,Tt⟩
   |(refine⟨congrArg D.bool ?_,Tt⟩;simp[q2];done)
   |(exfalso;simp[q2]at h;done)
   |(exfalso;rename_i h1;simp[q2]at h1;done)
 by_cases q3:a.name=b.name
 case neg =>
  rw[Qh0 (fun e=>q3 (by rw[e]))]
  ((refine xW ?_ ?_)<;>intros)
  all_goals first
   |exact⟨rfl,Tt⟩
   |(refine⟨congrArg D.bool ?_,Tt⟩;simp[q3];done)
   |(exfalso;simp[q3]at h;done)
   |(exfalso;rename_i h1;simp[q3]at h1;done)
 by_cases q4:a.n=b.n
 case neg =>
  rw[Qh0 (fun e=>q4 (by rw[e]))]
  (refine gW ?_;intros)
  all_goals first
   |exact⟨rfl,Tt⟩
   |(refine⟨congrArg D.bool ?_,Tt⟩;simp[q4];done)
   |(exfalso;simp[q4]at h;done)
   |(exfalso;rename_i h1;simp[q4]at h1;done)
 by_cases q5:a.d=b.d
 case neg =>
  rw[Qh0 (fun e=>q5 (by rw[e]))]
  (refine gW ?_;intros)
  all_goals first
   |exact⟨rfl,Tt⟩
   |(refine⟨congrArg D.bool ?_,Tt⟩;simp[q5];done)
   |(exfalso;simp[q5]at h;done)
   |(exfalso;rename_i h1;simp[q5]at h1;done)
 by_cases q6:a.kids.length=b.kids.length
 case neg =>
  rw[Qh0 (fun e=>q6 (by rw[e]))]
  (refine gW ?_;intros)
  all_goals first
   |exact⟨rfl,Tt⟩
   |(refine⟨congrArg D.bool ?_,Tt⟩;simp[q6];done)
   |(exfalso;simp[q6]at h;done)
   |(exfalso;rename_i h1;simp[q6]at h1;done)
 have hiff:a=b↔a.kids=b.kids:=by rw[Q41];simp only[q1,q2,q3,q4,q5,true_and]
 ((refine xW ?_ ?_)<;>intros)
 all_goals try (exfalso;first|(simp[q1,q2,q3,q4,q5,q6]at h;done)|(rename_i h1;simp[q1,q2,q3,q4,q5,q6]at h1;done))
 refine Q7 hT (S:=Nat) (fun k=>([(2,lp 0),(3,lp 1),(4,.d (.bool false)),(5,dV k)],⟨[bX 66 (up (Q2 a)),bX 66 (up (Q2 b))],[]⟩)) (fun k=>k<=a.kids.length/\(a=b↔a.kids.drop k=b.kids.drop k)) (fun k=>a.kids.length-k) 0 ?_ ?_ ?_
 .repeat' (first|exact Tt|exact rfl|exact Qgx _|refine And.intro ?_ ?_)
 .exact⟨Qh3 _,hiff⟩
 .rintro k ⟨hk,hc⟩
  have kc:Kp _:=⟨hc⟩
  clear hc hiff
  by_cases hk2:k<a.kids.length
  .have hna:a.kids≠[]:=fun e=>by rw[e]at hk2;exact absurd hk2 (Qhh _)
   have hnb:b.kids≠[]:=fun e=>by rw[q6,e]at hk2;exact absurd hk2 (Qhh _)
   have hkb:k<b.kids.length:=by omega
   have hma:=Qe (xs:=a.kids) (k:=k) hk2
   have hmb:=Qe (xs:=b.kids) (k:=k) hkb
   have hI:=ih _ hma (ha2 _ hma) _ (hb2 _ hmb)
   rw[Te a hna,Te b hnb]
   by_cases e:a.kids.getD k default=b.kids.getD k default
   .rw[Qh8 e]at hI
    have kn:Kp (a=b↔a.kids.drop (k+1)=b.kids.drop (k+1)):=⟨by
     rw[kc.h,Qc hk2,Qc hkb,e]
     simp⟩
    clear e
    (refine gW ?_;intros)
    refine qC hI ?_
    (refine gW ?_;intros)
    refine⟨k+1,⟨by show k+1<=a.kids.length;omega,kn.h⟩,by show a.kids.length-(k+1)<a.kids.length-k;omega,?_⟩
    repeat' (first|exact Tt|exact rfl|exact Qgx _|refine And.intro ?_ ?_)
   .rw[Qh0 e]at hI
    rw[Qh0 (fun e2=>e (by rw[e2]))]
    clear e
    (refine gW ?_;intros)
    refine qC hI ?_
    (refine gW ?_;intros)
    exact⟨rfl,Tt⟩
  .rw[Qh8 (kc.h.2 (by rw[Qr Om,Qr Om]))]
   (refine gW ?_;intros)
   exact⟨rfl,Tt⟩
theorem Of (a b:Crs):a=b↔a.name=b.name/\a.number=b.number/\a.credits=b.credits/\a.rep=b.rep/\a.need=b.need/\a.bar=b.bar:=by
 cases a;cases b
 simp only[Crs.mk.injEq]
theorem Q47 (a b:Crs)(ha:Yz a)(hb:Yz b):Pure Tryz.prog 32 [.agg (Q6 a),.agg (Q6 b)] [.bool (decide (a=b))]:=by
 have hN:=Q4b a.need ha.1 b.need hb.1
 have hB:=Q4b a.bar ha.2 b.bar hb.2
 refine Q4 hT (T:=tab) (N:=45) (rs:=[.tmp 4]) Tryz.func32 rfl rfl rfl Kr rfl ?_
 by_cases q1:a.name=b.name
 case neg =>
  rw[Qh0 (fun e=>q1 (by rw[e]))]
  ((refine xW ?_ ?_)<;>(intros;try rename_i h))
  all_goals first
   |exact⟨rfl,Tt⟩
   |(refine⟨congrArg D.bool ?_,Tt⟩;simp[q1];done)
   |(exfalso;simp[q1]at h;done)
   |(exfalso;rename_i h1;simp[q1]at h1;done)
 by_cases q2:a.number=b.number
 case neg =>
  rw[Qh0 (fun e=>q2 (by rw[e]))]
  (refine gW ?_;intros;try rename_i h)
  all_goals first
   |exact⟨rfl,Tt⟩
   |(refine⟨congrArg D.bool ?_,Tt⟩;simp[q2];done)
   |(exfalso;simp[q2]at h;done)
   |(exfalso;rename_i h1;simp[q2]at h1;done)
 by_cases q3:a.credits=b.credits
 case neg =>
  rw[Qh0 (fun e=>q3 (by rw[e]))]
  (refine gW ?_;intros;try rename_i h)
  all_goals first
   |exact⟨rfl,Tt⟩
   |(refine⟨congrArg D.bool ?_,Tt⟩;simp[q3];done)
   |(exfalso;simp[q3]at h;done)
   |(exfalso;rename_i h1;simp[q3]at h1;done)
 by_cases q4:a.rep=b.rep
 case neg =>
  rw[Qh0 (fun e=>q4 (by rw[e]))]
  (refine gW ?_;intros;try rename_i h)
  all_goals first
   |exact⟨rfl,Tt⟩
   |(refine⟨congrArg D.bool ?_,Tt⟩;simp[q4];done)
   |(exfalso;simp[q4]at h;done)
   |(exfalso;rename_i h1;simp[q4]at h1;done)
 by_cases q5:a.need=b.need
 case neg =>
  rw[Qh0 q5]at hN
  rw[Qh0 (fun e=>q5 (by rw[e]))]
  clear q5
  ((refine xW ?_ ?_)<;>(intros;try rename_i h))
  all_goals try (exfalso;first|(simp[q1,q2,q3,q4]at h;done)|(rename_i h1;simp[q1,q2,q3,q4]at h1;done))
  refine hN.call ?_
  (refine gW ?_;intros;try rename_i h)
  all_goals try (exfalso;first|(simp[q1,q2,q3,q4]at h;done)|(rename_i h1;simp[q1,q2,q3,q4]at h1;done))
  exact⟨congrArg D.bool (by simp[q1,q2,q3,q4]),Tt⟩
 rw[Qh8 q5]at hN
 by_cases q6:a.bar=b.bar
 case neg =>
  rw[Qh0 q6]at hB
  rw[Qh0 (fun e=>q6 (by rw[e]))]
  clear q5 q6
  ((refine xW ?_ ?_)<;>(intros;try rename_i h))
  all_goals try (exfalso;first|(simp[q1,q2,q3,q4]at h;done)|(rename_i h1;simp[q1,q2,q3,q4]at h1;done))
  refine hN.call ?_
  ((refine xW ?_ ?_)<;>(intros;try rename_i h))
  all_goals try (exfalso;first|(simp[q1,q2,q3,q4]at h;done)|(rename_i h1;simp[q1,q2,q3,q4]at h1;done))
  refine hB.call ?_
  (refine gW ?_;intros;try rename_i h)
  all_goals try (exfalso;first|(simp[q1,q2,q3,q4]at h;done)|(rename_i h1;simp[q1,q2,q3,q4]at h1;done))
  exact⟨congrArg D.bool (by simp[q1,q2,q3,q4]),Tt⟩
 rw[Qh8 q6]at hB
 rw[Qh8 ((Of a b).2 ⟨q1,q2,q3,q4,q5,q6⟩)]
 clear q5 q6
 ((refine xW ?_ ?_)<;>(intros;try rename_i h))
 all_goals try (exfalso;first|(simp[q1,q2,q3,q4]at h;done)|(rename_i h1;simp[q1,q2,q3,q4]at h1;done))
 refine hN.call ?_
 ((refine xW ?_ ?_)<;>(intros;try rename_i h))
 all_goals try (exfalso;first|(simp[q1,q2,q3,q4]at h;done)|(rename_i h1;simp[q1,q2,q3,q4]at h1;done))
 refine hB.call ?_
 (refine gW ?_;intros;try rename_i h)
 all_goals try (exfalso;first|(simp[q1,q2,q3,q4]at h;done)|(rename_i h1;simp[q1,q2,q3,q4]at h1;done))
 exact⟨congrArg D.bool (by simp[q1,q2,q3,q4]),Tt⟩
theorem Q3k (a b:Req):a=b↔a.name=b.name/\a.credits=b.credits/\a.grade=b.grade/\a.home=b.home/\a.names=b.names/\a.fr=b.fr:=by
 cases a;cases b
 simp only[Req.mk.injEq]
def Lw (q:Req):Prop:=Qg q.names/\Qg q.fr
def Gj (q:Req)(h:Bool):List D:=[.str q.name,di q.credits,di q.grade,.bool h,Y0 q.names,J6 q.fr]
theorem Pu (q:Req)(h:Bool)(e:q.home=h):Jv q=Gj q h:=by rw[<-e];rfl
theorem Qfl (a b:Req) (ha:Lw a) (hb:Lw b):Pure Tryz.prog 107 [.agg (Jv a),.agg (Jv b)] [.bool (decide (a=b))]:=by
 have hla:a.names.length<=9223372036854775807:=ha.1
 have hlb:b.names.length<=9223372036854775807:=hb.1
 have hma:a.fr.length<=9223372036854775807:=ha.2
 have hmb:b.fr.length<=9223372036854775807:=hb.2
 obtain⟨xa,hxa⟩:∃x,a.home=x:=⟨_,rfl⟩
 obtain⟨xb,hxb⟩:∃x,b.home=x:=⟨_,rfl⟩
 rw[Pu a xa hxa,Pu b xb hxb]
 refine Q4 hT (T:=tab) (N:=87) (rs:=[.tmp 4]) Tryz.func107 rfl rfl rfl Kr rfl ?_
 by_cases q1:a.name=b.name
 case neg =>
  rw[Qh0 (fun e=>q1 (by rw[e]))]
  ((refine xW ?_ ?_)<;>intros)
  all_goals first
   |exact⟨rfl,Tt⟩
   |(refine⟨congrArg D.bool ?_,Tt⟩;simp[q1];done)
   |(exfalso;simp[q1]at h;done)
   |(exfalso;rename_i h1;simp[q1]at h1;done)
 by_cases q2:a.credits=b.credits
 case neg =>
  rw[Qh0 (fun e=>q2 (by rw[e]))]
  (refine gW ?_;intros)
  all_goals first
   |exact⟨rfl,Tt⟩
   |(refine⟨congrArg D.bool ?_,Tt⟩;simp[q2];done)
   |(exfalso;simp[q2]at h;done)
   |(exfalso;rename_i h1;simp[q2]at h1;done)
 by_cases q3:a.grade=b.grade
 case neg =>
  rw[Qh0 (fun e=>q3 (by rw[e]))]
  (refine gW ?_;intros)
  all_goals first
   |exact⟨rfl,Tt⟩
   |(refine⟨congrArg D.bool ?_,Tt⟩;simp[q3];done)
   |(exfalso;simp[q3]at h;done)
   |(exfalso;rename_i h1;simp[q3]at h1;done)
 by_cases q4:xa=xb
 case neg =>
  rw[Qh0 (fun e=>q4 (by rw[<-hxa,<-hxb,e]))]
  clear hxa hxb
  cases xa<;>cases xb<;>first|exact absurd rfl q4|skip
  all_goals
   clear q4
   (refine gP ?_;intros)
  all_goals first
   |exact⟨rfl,Tt⟩
   |(exfalso;simp[q1,q2,q3]at h;done)
 subst q4
 by_cases q5:a.names.length=b.names.length
 case neg =>
  rw[Qh0 (fun e=>q5 (by rw[e]))]
  (refine gW ?_;intros)
  all_goals first
   |exact⟨rfl,Tt⟩
   |(refine⟨congrArg D.bool ?_,Tt⟩;simp[q5];done)
   |(exfalso;simp[q5]at h;done)
   |(exfalso;rename_i h1;simp[q5]at h1;done)
 by_cases q6:a.fr.length=b.fr.length
 case neg =>
  rw[Qh0 (fun e=>q6 (by rw[e]))]
  (refine gW ?_;intros)
  all_goals first
   |exact⟨rfl,Tt⟩
   |(refine⟨congrArg D.bool ?_,Tt⟩;simp[q6];done)
   |(exfalso;simp[q6]at h;done)
   |(exfalso;rename_i h1;simp[q6]at h1;done)
 have hiff:a=b↔a.names=b.names/\a.fr=b.fr:=by rw[Q3k];simp only[q1,q2,q3,hxa,hxb,true_and]
 have kiff:Kp _:=⟨hiff⟩
 clear hiff
 clear hxa hxb
 cases xa
 case false =>
  ((refine xP ?_ ?_)<;>intros)
  all_goals try (exfalso;first|(simp[q1,q2,q3,q5,q6]at h;done)|(rename_i h1;simp[q1,q2,q3,q5,q6]at h1;done))
  refine Q7 hT (S:=Nat) (fun k=>([(2,lp 0),(3,lp 1),(4,.d (.bool false)),(5,dV k)],⟨[bX 106 (up (Gj a false)),bX 106 (up (Gj b false))],[]⟩)) (fun k=>k<=a.names.length/\(a.names=b.names↔a.names.drop k=b.names.drop k)) (fun k=>a.names.length-k) 0 ?_ ?_ ?_
  .repeat' (first|exact Tt|exact rfl|exact Qgx _|refine And.intro ?_ ?_)
  .exact⟨Qh3 _,Iff.rfl⟩
  .rintro k ⟨hk,hc⟩
   have kc:Kp _:=⟨hc⟩
   clear hc
   by_cases hk2:k<a.names.length
   .have hkb:k<b.names.length:=by omega
    by_cases e:a.names.getD k default=b.names.getD k default
    .have kn:Kp (a.names=b.names↔a.names.drop (k+1)=b.names.drop (k+1)):=⟨by
      rw[kc.h,Qc hk2,Qc hkb,e]
      simp⟩
     (refine gW ?_;intros)
     all_goals try exact(h e).elim
     refine⟨k+1,⟨by show k+1<=a.names.length;omega,kn.h⟩,by show a.names.length-(k+1)<a.names.length-k;omega,?_⟩
     repeat' (first|exact Tt|exact rfl|exact Qgx _|refine And.intro ?_ ?_)
    .rw[Qh0 (fun e2=>e (by rw[e2]))]
     (refine gW ?_;intros)
     all_goals first
      |exact⟨rfl,Tt⟩
      |exact(e h).elim
   .have hnm:a.names=b.names:=kc.h.2 (by rw[Qr Om,Qr Om])
    have kiff2:Kp (a=b↔a.fr=b.fr):=⟨by rw[kiff.h];exact⟨fun h=>h.2,fun h=>⟨hnm,h⟩⟩⟩
    clear hnm
    (refine gW ?_;intros)
    refine Q7 hT (S:=Nat) (fun k=>([(2,lp 0),(3,lp 1),(4,.d (.bool false)),(6,dV k)],⟨[bX 106 (up (Gj a false)),bX 106 (up (Gj b false))],[]⟩)) (fun k=>k<=a.fr.length/\(a=b↔a.fr.drop k=b.fr.drop k)) (fun k=>a.fr.length-k) 0 ?_ ?_ ?_
    .repeat' (first|exact Tt|exact rfl|exact Qgx _|refine And.intro ?_ ?_)
    .exact⟨Qh3 _,kiff2.h⟩
    .clear kc hk2 hk
     rintro k ⟨hk,hc⟩
     have kc:Kp _:=⟨hc⟩
     clear hc
     by_cases hk2:k<a.fr.length
     .have hkb:k<b.fr.length:=by omega
      by_cases e:a.fr.getD k default=b.fr.getD k default
      .have kn:Kp (a=b↔a.fr.drop (k+1)=b.fr.drop (k+1)):=⟨by
        rw[kc.h,Qc hk2,Qc hkb,e]
        simp⟩
       (refine gW ?_;intros)
       refine⟨k+1,⟨by show k+1<=a.fr.length;omega,kn.h⟩,by show a.fr.length-(k+1)<a.fr.length-k;omega,?_⟩
       repeat' (first|exact Tt|exact rfl|exact Qgx _|refine And.intro ?_ ?_)
      .rw[Qh0 (fun e2=>e (by rw[e2]))]
       (refine gW ?_;intros)
       exact⟨rfl,Tt⟩
     .rw[Qh8 (kc.h.2 (by rw[Qr Om,Qr Om]))]
      (refine gW ?_;intros)
      exact⟨rfl,Tt⟩
 case true =>
  ((refine xP ?_ ?_)<;>intros)
  all_goals try (exfalso;first|(simp[q1,q2,q3,q5,q6]at h;done)|(rename_i h1;simp[q1,q2,q3,q5,q6]at h1;done))
  refine Q7 hT (S:=Nat) (fun k=>([(2,lp 0),(3,lp 1),(4,.d (.bool false)),(5,dV k)],⟨[bX 106 (up (Gj a true)),bX 106 (up (Gj b true))],[]⟩)) (fun k=>k<=a.names.length/\(a.names=b.names↔a.names.drop k=b.names.drop k)) (fun k=>a.names.length-k) 0 ?_ ?_ ?_
  .repeat' (first|exact Tt|exact rfl|exact Qgx _|refine And.intro ?_ ?_)
  .exact⟨Qh3 _,Iff.rfl⟩
  .rintro k ⟨hk,hc⟩
   have kc:Kp _:=⟨hc⟩
   clear hc
   by_cases hk2:k<a.names.length
   .have hkb:k<b.names.length:=by omega
    by_cases e:a.names.getD k default=b.names.getD k default
    .have kn:Kp (a.names=b.names↔a.names.drop (k+1)=b.names.drop (k+1)):=⟨by
      rw[kc.h,Qc hk2,Qc hkb,e]
      simp⟩
     (refine gW ?_;intros)
     all_goals try exact(h e).elim
     refine⟨k+1,⟨by show k+1<=a.names.length;omega,kn.h⟩,by show a.names.length-(k+1)<a.names.length-k;omega,?_⟩
     repeat' (first|exact Tt|exact rfl|exact Qgx _|refine And.intro ?_ ?_)
    .rw[Qh0 (fun e2=>e (by rw[e2]))]
     (refine gW ?_;intros)
     all_goals first
      |exact⟨rfl,Tt⟩
      |exact(e h).elim
   .have hnm:a.names=b.names:=kc.h.2 (by rw[Qr Om,Qr Om])
    have kiff2:Kp (a=b↔a.fr=b.fr):=⟨by rw[kiff.h];exact⟨fun h=>h.2,fun h=>⟨hnm,h⟩⟩⟩
    clear hnm
    (refine gW ?_;intros)
    refine Q7 hT (S:=Nat) (fun k=>([(2,lp 0),(3,lp 1),(4,.d (.bool false)),(6,dV k)],⟨[bX 106 (up (Gj a true)),bX 106 (up (Gj b true))],[]⟩)) (fun k=>k<=a.fr.length/\(a=b↔a.fr.drop k=b.fr.drop k)) (fun k=>a.fr.length-k) 0 ?_ ?_ ?_
    .repeat' (first|exact Tt|exact rfl|exact Qgx _|refine And.intro ?_ ?_)
    .exact⟨Qh3 _,kiff2.h⟩
    .clear kc hk2 hk
     rintro k ⟨hk,hc⟩
     have kc:Kp _:=⟨hc⟩
     clear hc
     by_cases hk2:k<a.fr.length
     .have hkb:k<b.fr.length:=by omega
      by_cases e:a.fr.getD k default=b.fr.getD k default
      .have kn:Kp (a=b↔a.fr.drop (k+1)=b.fr.drop (k+1)):=⟨by
        rw[kc.h,Qc hk2,Qc hkb,e]
        simp⟩
       (refine gW ?_;intros)
       refine⟨k+1,⟨by show k+1<=a.fr.length;omega,kn.h⟩,by show a.fr.length-(k+1)<a.fr.length-k;omega,?_⟩
       repeat' (first|exact Tt|exact rfl|exact Qgx _|refine And.intro ?_ ?_)
      .rw[Qh0 (fun e2=>e (by rw[e2]))]
       (refine gW ?_;intros)
       exact⟨rfl,Tt⟩
     .rw[Qh8 (kc.h.2 (by rw[Qr Om,Qr Om]))]
      (refine gW ?_;intros)
      exact⟨rfl,Tt⟩
theorem Q36 (a b:Prg):a=b↔a.name=b.name/\a.number=b.number/\a.uses=b.uses/\a.earn=b.earn/\(a.mn=b.mn/\a.md=b.md)/\a.reqs=b.reqs:=by
 cases a;cases b
 simp only[Prg.mk.injEq,and_assoc]
def Bh (p:Prg):Prop:=Qg p.reqs/\∀q∈p.reqs,Lw q
theorem Qfk (a b:Prg)(ha:Bh a)(hb:Bh b):Pure Tryz.prog 35 [.agg (Q9 a),.agg (Q9 b)] [.bool (decide (a=b))]:=by
 have hla:a.reqs.length<=9223372036854775807:=ha.1
 have hlb:b.reqs.length<=9223372036854775807:=hb.1
 refine Q4 hT (T:=tab) (N:=67) (rs:=[.tmp 4]) Tryz.func35 rfl rfl rfl Kr rfl ?_
 by_cases q1:a.name=b.name
 case neg =>
  rw[Qh0 (fun e=>q1 (by rw[e]))]
  ((refine xW ?_ ?_)<;>intros)
  all_goals first
   |exact⟨rfl,Tt⟩
   |(refine⟨congrArg D.bool ?_,Tt⟩;simp[q1];done)
   |(exfalso;simp[q1]at h;done)
   |(exfalso;rename_i h1;simp[q1]at h1;done)
 by_cases q2:a.number=b.number
 case neg =>
  rw[Qh0 (fun e=>q2 (by rw[e]))]
  (refine gW ?_;intros)
  all_goals first
   |exact⟨rfl,Tt⟩
   |(refine⟨congrArg D.bool ?_,Tt⟩;simp[q2];done)
   |(exfalso;simp[q2]at h;done)
   |(exfalso;rename_i h1;simp[q2]at h1;done)
 by_cases q3:a.uses=b.uses
 case neg =>
  rw[Qh0 (fun e=>q3 (by rw[e]))]
  (refine gW ?_;intros)
  all_goals first
   |exact⟨rfl,Tt⟩
   |(refine⟨congrArg D.bool ?_,Tt⟩;simp[q3];done)
   |(exfalso;simp[q3]at h;done)
   |(exfalso;rename_i h1;simp[q3]at h1;done)
 by_cases q4:a.earn=b.earn
 case neg =>
  rw[Qh0 (fun e=>q4 (by rw[e]))]
  (refine gW ?_;intros)
  all_goals first
   |exact⟨rfl,Tt⟩
   |(refine⟨congrArg D.bool ?_,Tt⟩;simp[q4];done)
   |(exfalso;simp[q4]at h;done)
   |(exfalso;rename_i h1;simp[q4]at h1;done)
 by_cases q5:a.mn=b.mn
 case neg =>
  rw[Qh0 (fun e=>q5 (by rw[e]))]
  (refine gP ?_;intros)
  all_goals first
   |exact⟨rfl,Tt⟩
   |(exfalso;simp[q5]at h;done)
 by_cases q6:a.md=b.md
 case neg =>
  rw[Qh0 (fun e=>q6 (by rw[e]))]
  (refine gP ?_;intros)
  all_goals first
   |exact⟨rfl,Tt⟩
   |(exfalso;simp[q6]at h;done)
 by_cases q7:a.reqs.length=b.reqs.length
 case neg =>
  rw[Qh0 (fun e=>q7 (by rw[e]))]
  (refine gP ?_;intros)
  all_goals first
   |exact⟨rfl,Tt⟩
   |(exfalso;simp[q7]at h;done)
 have hiff:a=b↔a.reqs=b.reqs:=by rw[Q36];simp only[q1,q2,q3,q4,q5,q6,true_and]
 have kiff:Kp _:=⟨hiff⟩
 clear hiff
 ((refine xP ?_ ?_)<;>intros)
 all_goals try (exfalso;first|(simp[q1,q2,q3,q4,q5,q6,q7]at h;done)|(rename_i h1;simp[q1,q2,q3,q4,q5,q6,q7]at h1;done))
 refine Q7 hT (S:=Nat) (fun k=>([(2,lp 0),(3,lp 1),(4,.d (.bool false)),(5,dV k)],⟨[bX 78 (up (Q9 a)),bX 78 (up (Q9 b))],[]⟩)) (fun k=>k<=a.reqs.length/\(a=b↔a.reqs.drop k=b.reqs.drop k)) (fun k=>a.reqs.length-k) 0 ?_ ?_ ?_
 .repeat' (first|exact Tt|exact rfl|exact Qgx _|refine And.intro ?_ ?_)
 .exact⟨Qh3 _,kiff.h⟩
 .rintro k ⟨hk,hc⟩
  have kc:Kp _:=⟨hc⟩
  clear hc
  by_cases hk2:k<a.reqs.length
  .have hkb:k<b.reqs.length:=by omega
   have hI:=Qfl _ _ (ha.2 _ (Qe hk2)) (hb.2 _ (Qe hkb))
   by_cases e:a.reqs.getD k default=b.reqs.getD k default
   .rw[Qh8 e]at hI
    have kn:Kp (a=b↔a.reqs.drop (k+1)=b.reqs.drop (k+1)):=⟨by
     rw[kc.h,Qc hk2,Qc hkb,e]
     simp⟩
    clear e
    (refine gW ?_;intros)
    refine qC hI ?_
    (refine gW ?_;intros)
    refine⟨k+1,⟨by show k+1<=a.reqs.length;omega,kn.h⟩,by show a.reqs.length-(k+1)<a.reqs.length-k;omega,?_⟩
    repeat' (first|exact Tt|exact rfl|exact Qgx _|refine And.intro ?_ ?_)
   .rw[Qh0 e]at hI
    rw[Qh0 (fun e2=>e (by rw[e2]))]
    clear e
    (refine gW ?_;intros)
    refine qC hI ?_
    (refine gW ?_;intros)
    exact⟨rfl,Tt⟩
  .rw[Qh8 (kc.h.2 (by rw[Qr Om,Qr Om]))]
   (refine gW ?_;intros)
   exact⟨rfl,Tt⟩
theorem Q7u {r:Q1}(h:r.kids=[]):Q2 r=[di r.op,di r.course,.str r.name,di r.n,di r.d,J0 []]:=by
 unfold Q2
 rw[h]
def Z1 (r:Q1):List Q1:=(Jm 1 r).map Prod.snd
theorem Fl (r:Q1):Z1 r=r::r.kids.flatMap Z1:=by
 have key:∀ks:List Q1,(Vt 2 ks).map Prod.snd=ks.flatMap Z1:=by
  intro ks
  induction ks with
  |nil=>rw[Ub];rfl
  |cons k ks ih=>rw[H4,Qim,ih,List.flatMap_cons,Fk k 2 1];rfl
 unfold Z1
 rw[Xq,Qin,key]
 rfl
theorem Qdj {r k:Q1}(hk:k∈r.kids){p:Q1}(hp:p∈Z1 k):p∈Z1 r:=by
 rw[Fl r]
 exact List.mem_cons_of_mem _ (List.mem_flatMap.2 ⟨k,hk,hp⟩)
def vis {α S:Type}(step:S->α->S)(cont:S->Bool):List α->S->S
 |[],s=>s
 |x::r,s=>if cont (step s x)=true then vis step cont r (step s x) else step s x
theorem Q50 {α S:Type}(step:S->α->S)(cont:S->Bool):∀(a b:List α) (s:S),cont s=true->vis step cont (a++b) s=if cont (vis step cont a s)=true then vis step cont b (vis step cont a s) else vis step cont a s
 |[],b,s,h=>by rw[List.nil_append,vis,if_pos h]
 | x :: a,b,s,h=>by
   rw[List.cons_append,vis,vis]
   by_cases h1:cont (step s x)=true
   .rw[if_pos h1,if_pos h1,Q50 step cont a b _ h1]
   .rw[if_neg h1,if_neg h1,if_neg h1]
theorem Q2b (r:Q1):Qz Tryz.prog 214 [.d (.agg (Q2 r))] ⟨[],[]⟩
 (Ret (fun _:Unit=>([.fn (.func 235) [] [lp 0]],⟨[bX 66 (up (Q2 r))],[]⟩)) fun _=>True):=by
 refine Zv hT (T:=tab) (N:=4) (rs:=[.tmp 2]) _ _ Tryz.func214 rfl rfl rfl Kr rfl ?_
 (refine gW ?_;intros)
 exact⟨(),Tt,by repeat' (first|exact Tt|exact rfl|exact Qgx _|refine And.intro ?_ ?_),rfl⟩
def Kz {S:Type}(E:Nat->S->List (Option Blk))(y b:Nat)(rec:Loop)(cont:S->Bool):Nat->S->List (Option Blk):=fun k s =>
 bX 103 [.fn (.yield y) [] []]::(E (k+1) s++[some (.loop b (bif cont s then rec else after rec (some .ret)) [(2,.ptr (.arg k) 0 0 0)])])
theorem Q97 {S:Type}{n:Nat}{E:Nat->S->List (Option Blk)}(hE:Fam n E)(y b:Nat)(rec:Loop)(cont:S->Bool):Fam (n+2) (Kz E y b rec cont) where
 len k s:=by simp only[Kz,Qhs,Qhc,Qig,hE.len]
 ren ρ k k' s h:=by
  have h0:ρ (.arg k)=.arg k':=h 0 Om
  have h1:=hE.ren ρ (k+1) (k'+1) s fun j hj=>by
   have:=h (j+1) Om
   rwa [show k+(j+1)=k+1+j by omega,show k'+(j+1)=k'+1+j by omega]at this
  unfold Kz
  show Xr ρ _::Zh ρ (E (k+1) s++_)=_
  rw[Fs,h1]
  show bX _ [.fn (.yield y) [] []]::(E (k'+1) s++[some (.loop b _ [(2,.ptr (ρ (.arg k)) 0 0 0)])])=_
  rw[h0]
 le nl na k s h:=by
  refine⟨⟨rfl,rfl,rfl⟩,Ci rfl (hE.le nl na (k+1) s Om) ⟨⟨rfl,rfl,rfl,?_⟩,Tt⟩⟩
  show(Nat.blt k na&&true)=true
  rw[Bool.and_true]
  exact Nat.ble_eq_true_of_le Om
theorem Qc3:∀ r:Q1,Jj r≤1000000→∀ {S:Type} (n:Nat) (E:Nat→S→List (Option Blk)) (hE:Fam n E) (y:Nat) (step:S→Q1→S) (cont:S→Bool)
 (hy:∀s,cont s=true->∀p∈Z1 r,Zc Tryz.prog y [.d (.agg (Q2 p))] ⟨[],E 0 s⟩ (Ret (fun s':S=>([.d (.bool (cont s'))],⟨[],E 0 s'⟩)) fun s'=>s'=step s p)) (s0:S) (hc:cont s0=true),
 Qz Tryz.prog 235 [.fn (.yield y) [] [],ap 0] ⟨[],bX 66 (up (Q2 r))::E 1 s0⟩
  (Ret (fun s:S=>([],⟨[],bX 66 (up (Q2 r))::E 1 s⟩)) fun s=>s=vis step cont (Z1 r) s0):=by
 refine Y4 fun r ih hcn S n E hE y step cont hy s0 hc=>?_
 obtain⟨hkl,hkc⟩:=Dl hcn
 obtain⟨ks,hks⟩:∃ks,r.kids=ks:=⟨_,rfl⟩
 have kpe:Kp (Z1 r=r::ks.flatMap Z1):=⟨by rw[Fl,hks]⟩
 have kpk:Kp (∀k∈ks,∀p∈Z1 k,p∈Z1 r):=⟨fun k hk p hp=>Qdj (hks▸hk) hp⟩
 have hyr:=hy s0 hc r (by rw[kpe.h];simp)
 rw[hks]at hkl hkc ih
 have hv0:vis step cont (Z1 r) s0=if cont (step s0 r)=true then vis step cont (ks.flatMap Z1) (step s0 r) else step s0 r:=by rw[kpe.h];rfl
 rw[hv0]
 clear hv0
 by_cases hne:ks=[]
 .have hEr:Q2 r=[di r.op,di r.course,.str r.name,di r.n,di r.d,.sl 6 0 fun _=>[]]:=by rw[Q7u (hks.trans hne),Ow]
  rw[hEr]at hyr⊢
  subst hne
  clear hEr ih hkc hkl
  refine Zv hT (T:=tab) (N:=25) (rs:=[]) _ _ Tryz.func235 rfl rfl rfl Kr rfl ?_
  (refine gW ?_;intros)
  refine Zc.shD hE [bX 66 (up [di r.op,di r.course,.str r.name,di r.n,di r.d,.sl 6 0 fun _=>[]])] hyr rfl ?_
  rintro s1 rfl
  cases hc1:cont (step s0 r) with
  | false =>
    (refine gW ?_;intros)
    refine⟨_,rfl,?_,rfl⟩
    repeat' (first|exact Tt|exact rfl|exact Qgx _|refine And.intro ?_ ?_)
    exact hE.le1
  | true =>
    (refine gW ?_;intros)
    refine Q7 hT (S:=Unit) (fun _=>([(12,dV 0),(13,dV 0)],⟨[],bX 66 (up [di r.op,di r.course,.str r.name,di r.n,di r.d,.sl 6 0 fun _=>[]])::E 1 (step s0 r)⟩)) (fun _=>True) (fun _=>0) () ?_ ?_ ?_
    .repeat' (first|exact Tt|exact rfl|exact Qgx _|refine And.intro ?_ ?_)
     exact hE.le1
    .exact Tt
    .intro _ _
     (refine gW ?_;intros)
     refine⟨_,rfl,?_,rfl⟩
     repeat' (first|exact Tt|exact rfl|exact Qgx _|refine And.intro ?_ ?_)
     exact hE.le1
 .have hEr:Q2 r=[.int .i64 r.op,.int .i64 r.course,.str r.name,.int .i64 r.n,.int .i64 r.d,.sl 6 ks.length fun i=>Q2 (ks.getD i default)]:=by
   have:=Te r (by rw[hks];exact hne)
   rwa [hks]at this
  rw[hEr]at hyr⊢
  clear hEr
  refine Zv hT (T:=tab) (N:=25) (rs:=[]) _ _ Tryz.func235 rfl rfl rfl Kr rfl ?_
  (refine gW ?_;intros)
  refine Zc.shD hE [bX 66 (up [di r.op,di r.course,.str r.name,di r.n,di r.d,.sl 6 ks.length fun i=>Q2 (ks.getD i default)])] hyr rfl ?_
  rintro s1 rfl
  cases hc1:cont (step s0 r) with
  | false =>
    (refine gW ?_;intros)
    refine⟨_,rfl,?_,rfl⟩
    repeat' (first|exact Tt|exact rfl|exact Qgx _|refine And.intro ?_ ?_)
    exact hE.le1
  | true =>
    (refine gW ?_;intros)
    refine Q7 hT (S:=Nat × S) (fun z=>([(2,lp 0),(11,.d (.sl 6 ks.length fun i=>Q2 (ks.getD i default))),(12,dV ks.length),(13,dV z.1)],
     ⟨[bX 103 [.fn (.yield y) [] []]],bX 66 (up [di r.op,di r.course,.str r.name,di r.n,di r.d,.sl 6 ks.length fun i=>Q2 (ks.getD i default)])::E 1 z.2⟩))
     (fun z=>z.1<=ks.length/\cont z.2=true/\vis step cont (ks.flatMap Z1) (step s0 r)=vis step cont ((ks.drop z.1).flatMap Z1) z.2) (fun z=>ks.length-z.1) (0,step s0 r) ?_ ?_ ?_
    .repeat' (first|exact Tt|exact rfl|exact Qgx _|refine And.intro ?_ ?_)
     exact hE.le1
    .exact⟨Qh3 _,hc1,rfl⟩
    .rintro⟨k,s⟩ ⟨hk,hcs,hv⟩
     dsimp only at hk hcs hv⊢
     by_cases hk2:k<ks.length
     .rw [Qc hk2,List.flatMap_cons,Q50 step cont _ _ _ hcs] at hv
      have hkm:=Qe (xs:=ks) hk2
      have hI:=@ih _ hkm (hkc _ hkm) S
      have kv:Kp _:=⟨hv⟩
      clear hv ih hkc
      (refine gW ?_;intros)
      refine(Q2b (ks.getD k default)).at [] rfl Tt (fun _ _=>⟨rfl,?_⟩)
      (refine gW ?_;intros)
      refine Awp.range (caps:=[lp 2]) [(2,lp 0)] (.inl rfl) (nl:=3) (na:=0) ⟨⟨rfl,rfl⟩,Tt⟩ ?_
      intro b rec h1 h2 h3 h4 h5 h6
      have hI2:=hI (n+2) (Kz E y b rec cont) (Q97 hE y b rec cont) b step cont ?_ s hcs
      refine Qz.mid hE _ [.loc 2,.loc 0] [.loc 3] (Bs:=[bX 66 (up [di r.op,di r.course,.str r.name,di r.n,di r.d,.sl 6 ks.length fun i=>Q2 (ks.getD i default)])])
       (Bp:=[some (.box 66 (up (Q2 (ks.getD k default)))),some (.box 103 [.fn (.yield y) [] []])]) (Bq:=[some (.loop b rec [(2,.ptr (.arg 1) 0 0 0)])]) (s:=s) (by
        have:=hI2
        unfold Kz at this
        rw[hcs]at this
        exact this) rfl rfl rfl ⟨rfl,rfl,Tt⟩ ⟨rfl,Tt⟩ rfl ?_
      .rintro A m0 ⟨s',hs',rfl,rfl⟩
       refine⟨s',[bX 66 (up (Q2 (ks.getD k default))),bX 103 [.fn (.yield y) [] []]],[some (.loop b (bif cont s' then rec else after rec (some .ret)) [(2,ap 1)])],
        ⟨[some (.box 103 [.fn (.yield y) [] []]),some (.box 66 (up (Q2 (ks.getD k default)))),some (.box 66 (up (Q2 (ks.getD k default)))),some (.loop b (bif cont s' then rec else after rec (some .ret)) [(2,.ptr (.loc 0) 0 0 0)])],
         [bX 66 (up [di r.op,di r.course,.str r.name,di r.n,di r.d,.sl 6 ks.length fun i=>Q2 (ks.getD i default)])]⟩,rfl,rfl,rfl,rfl,?_⟩
       subst hs'
       cases hc2:cont (vis step cont (Z1 (ks.getD k default)) s) with
       | true =>
         refine⟨none,by rw[Wg h1 h2];rfl,?_⟩
         have hvv:=kv.h
         rw[if_pos hc2]at hvv
         have kw:Kp _:=⟨hvv⟩
         clear hvv
         show Sq _ _
         (refine gW ?_;intros)
         refine⟨(k+1,vis step cont (Z1 (ks.getD k default)) s),⟨by show k+1<=ks.length;omega,hc2,kw.h⟩,by show ks.length-(k+1)<ks.length-k;omega,?_⟩
         repeat' (first|exact Tt|exact rfl|exact Qgx _|refine And.intro ?_ ?_)
         exact hE.le1
       | false =>
         refine⟨some .ret,rfl,?_⟩
         have hvv:=kv.h
         rw[if_neg (by rw[hc2];exact Qhl)]at hvv
         refine Awp.of_vc hT ?_
         (refine gW ?_;intros)
         refine⟨_,rfl,?_,rfl⟩
         rw[if_pos rfl,hvv]
         repeat' (first|exact Tt|exact rfl|exact Qgx _|refine And.intro ?_ ?_)
         exact hE.le1
      .intro q hcq p hp
       have hyp:=hy q hcq p (kpk.h _ hkm p hp)
       refine Mv (K:=Ret (fun s':S=>([.d (.bool (bif cont s' then(none:Option Code) else some .ret).isNone)],⟨[],(bX 103 [.fn (.yield y) [] []]::E 1 s')++[some (.loop b (after rec (bif cont s' then none else some .ret)) [(2,ap 0)])]⟩)) fun s'=>s'=step q p) ?_ ?_
       .have hY:=Mw (P:=Tryz.prog) (b:=b) (N:=25) (r:=rec) (ps:=[19]) (args:=[.d (.agg (Q2 p))]) (bs:=bX 103 [.fn (.yield y) [] []]::E 1 q) (env0:=[(2,ap 0)])
         (fun s'=>bX 103 [.fn (.yield y) [] []]::E 1 s') (fun s'=>bif cont s' then none else some .ret) (fun s'=>s'=step q p) h1 h3 h4 h5 h6 rfl (by simp) ⟨⟨rfl,rfl,rfl⟩,hE.le1⟩ rfl rfl ?_
        .unfold Kz
         rw[hcq]
         exact hY
        .refine Awp.of_vc hT ?_
         (refine gW ?_;intros)
         refine Awp.of_vc hT ?_
         (refine gW ?_;intros)
         refine Zc.shD hE [bX 103 [.fn (.yield y) [] []]] hyp rfl ?_
         rintro s1 rfl
         have hlen:∀s',Qp (bX 103 [.fn (.yield y) [] []]::E 1 s')=Qp (bX 103 [.fn (.yield y) [] []]::E 1 q):=fun s'=>by rw[V1,V1,Qhs,Qhs,hE.len,hE.len]
         cases hc3:cont (step q p) with
         | true =>
           (refine gW ?_;intros)
           refine⟨step q p,rfl,by dsimp only;rw[hc3];rfl,hlen _,?_⟩
           repeat' (first|exact Tt|exact rfl|exact Qgx _|refine And.intro ?_ ?_)
           exact hE.le1
         | false =>
           (refine gW ?_;intros)
           refine⟨step q p,rfl,by dsimp only;rw[hc3];rfl,hlen _,?_⟩
           repeat' (first|exact Tt|exact rfl|exact Qgx _|refine And.intro ?_ ?_)
           exact hE.le1
       .rintro A m' ⟨s',rfl,rfl,rfl⟩
        refine⟨step q p,rfl,?_,?_⟩
        .dsimp only[W9]
         cases cont (step q p)<;>rfl
        .dsimp only[Kz]
         cases cont (step q p) with
         |true=>rw[cond_true,cond_true,Wg h1 h2];rfl
         |false=>rfl
     .rw[Qr Om]at hv
      have kv:Kp _:=⟨hv⟩
      clear hv ih hkc
      (refine gW ?_;intros)
      refine⟨_,rfl,?_,rfl⟩
      rw[if_pos rfl,kv.h]
      repeat' (first|exact Tt|exact rfl|exact Qgx _|refine And.intro ?_ ?_)
      exact hE.le1
end Go.Proofs.YtmlhghddfobmmaaGreatDoor
