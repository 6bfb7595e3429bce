import Derived.Test.YtmlhghddfobmmaaGreatDoorBookI
import Derived.Test.YtmlhghddfobmmaaGreatDoorEngAX
namespace Go.Proofs.YtmlhghddfobmmaaGreatDoor
set_option linter.unusedSimpArgs false
set_option linter.unusedVariables false
open Go Go.Ab
set_option maxRecDepth 100000
set_option maxHeartbeats 0
noncomputable instance:DecidableEq Rule:=fun _ _=>Classical.propDecidable _
noncomputable instance:DecidableEq Crs:=fun _ _=>Classical.propDecidable _
noncomputable instance:DecidableEq Req:=fun _ _=>Classical.propDecidable _
noncomputable instance:DecidableEq Prg:=fun _ _=>Classical.propDecidable _
noncomputable instance:DecidableEq Cls:=fun _ _=>Classical.propDecidable _
noncomputable instance:DecidableEq Fee:=fun _ _=>Classical.propDecidable _
noncomputable instance:DecidableEq Cla:=fun _ _=>Classical.propDecidable _
noncomputable instance:DecidableEq Sys:=fun _ _=>Classical.propDecidable _
noncomputable instance:DecidableEq Pai:=fun _ _=>Classical.propDecidable _
theorem sameReds_ok (xs ys:List Red)(hx:xs.length<=9223372036854775807)(hy:ys.length<=9223372036854775807):Pure Tryz.prog 26 [eReds xs,eReds ys] [.bool (decide (xs=ys))]:=by
 refine pure_rule hT (T:=tab) (N:=26) (rs:=[.tmp 4]) Tryz.func26 rfl rfl rfl Kr rfl ?_
 ((refine xW ?_ ?_)<;>(intros;try rename_i h))
 .refine⟨congrArg D.bool ?_,Tt⟩
  rw[decide_eq_false]
  intro e
  rw[e]at h
  omega
 .refine loop_rule hT (S:=Nat) (fun k=>([(0,.d (eReds xs)),(1,.d (eReds ys)),(4,.d (.bool false)),(5,dV k)],⟨[],[]⟩)) (fun k=>k<=xs.length/\(xs=ys↔xs.drop k=ys.drop k)) (fun k=>xs.length-k) 0 ?_ ?_ ?_
  .exact lq
  .exact⟨Nat.zero_le _,Iff.rfl⟩
  .rintro k ⟨hk,ht⟩
   repeat' (first|with_reducible refine Sq.go ?_|((with_reducible refine Ev.mk ?_);conv=>whnf)|with_reducible refine Dr.mk ⟨Kr,Kr⟩ ?_|with_reducible refine obG ?_|with_reducible refine Ob.mk ?_ ?_|(with_reducible first|refine brT fun h=>?_|refine brF fun h=>?_|refine Br.mk (fun h=>?_) fun h=>?_)<;>(try simp only[bsl,beq_iff_eq,bne_iff_ne,bs2]at h)<;>(try contradiction)<;>try (exfalso;omega))
   .refine⟨congrArg D.bool ?_,Tt⟩
    rw[decide_eq_false]
    rw[ht,drop_at (xs:=xs) (k:=k) Om,drop_at (xs:=ys) (k:=k) Om]
    intro e
    injection e with e1 e2
    rw[e1]at h
    simp at h
   .refine⟨k+1,⟨by show k+1<=xs.length;omega,?_⟩,by show xs.length-(k+1)<xs.length-k;omega,?_⟩
    .have e:xs.getD k default=ys.getD k default:=by
      revert h
      generalize xs.getD k default=a
      generalize ys.getD k default=b
      intro h
      cases a;cases b;simp_all
     rw[ht,drop_at (xs:=xs) (k:=k) Om,drop_at (xs:=ys) (k:=k) Om,e]
     simp
    .exact lq
   .refine⟨congrArg D.bool ?_,Tt⟩
    rw[decide_eq_true]
    rw[ht]
    rw[List.drop_eq_nil_of_le Om,List.drop_eq_nil_of_le Om]
theorem sameInts_ok (xs ys:List Int)(hx:xs.length<=9223372036854775807)(hy:ys.length<=9223372036854775807):Pure Tryz.prog 25 [eInts xs,eInts ys] [.bool (decide (xs=ys))]:=by
 refine pure_rule hT (T:=tab) (N:=26) (rs:=[.tmp 4]) Tryz.func25 rfl rfl rfl Kr rfl ?_
 ((refine xW ?_ ?_)<;>(intros;try rename_i h))
 .refine⟨congrArg D.bool ?_,Tt⟩
  rw[decide_eq_false]
  intro e
  rw[e]at h
  omega
 .refine loop_rule hT (S:=Nat) (fun k=>([(0,.d (eInts xs)),(1,.d (eInts ys)),(4,.d (.bool false)),(5,dV k)],⟨[],[]⟩)) (fun k=>k<=xs.length/\(xs=ys↔xs.drop k=ys.drop k)) (fun k=>xs.length-k) 0 ?_ ?_ ?_
  .repeat' (first|exact Tt|exact rfl|exact Nat.le_refl _|refine And.intro ?_ ?_)
  .exact⟨Nat.zero_le _,Iff.rfl⟩
  .rintro k ⟨hk,ht⟩
   repeat' (first|with_reducible refine Sq.go ?_|((with_reducible refine Ev.mk ?_);conv=>whnf)|with_reducible refine Dr.mk ⟨Kr,Kr⟩ ?_|with_reducible refine obG ?_|with_reducible refine Ob.mk ?_ ?_|(with_reducible first|refine brT fun h=>?_|refine brF fun h=>?_|refine Br.mk (fun h=>?_) fun h=>?_)<;>(try simp only[bsl,beq_iff_eq,bne_iff_ne,bs2]at h)<;>(try contradiction)<;>try (exfalso;omega))
   .refine⟨congrArg D.bool ?_,Tt⟩
    rw[decide_eq_false]
    rw[ht,drop_at (xs:=xs) (k:=k) Om,drop_at (xs:=ys) (k:=k) Om]
    intro e
    injection e with e1 e2
    rw[e1]at h
    simp at h
   .refine⟨k+1,⟨by show k+1<=xs.length;omega,?_⟩,by show xs.length-(k+1)<xs.length-k;omega,?_⟩
    .have e:xs.getD k default=ys.getD k default:=by
      revert h
      generalize xs.getD k default=a
      generalize ys.getD k default=b
      intro h
      exact h
     rw[ht,drop_at (xs:=xs) (k:=k) Om,drop_at (xs:=ys) (k:=k) Om,e]
     simp
    .repeat' (first|exact Tt|exact rfl|exact Nat.le_refl _|refine And.intro ?_ ?_)
   .refine⟨congrArg D.bool ?_,Tt⟩
    rw[decide_eq_true]
    rw[ht]
    rw[List.drop_eq_nil_of_le Om,List.drop_eq_nil_of_le Om]
theorem sameClss_ok (xs ys:List Cls)(hx:xs.length<=9223372036854775807)(hy:ys.length<=9223372036854775807):Pure Tryz.prog 109 [eClss xs,eClss ys] [.bool (decide (xs=ys))]:=by
 refine pure_rule hT (T:=tab) (N:=26) (rs:=[.tmp 4]) Tryz.func109 rfl rfl rfl Kr rfl ?_
 ((refine xW ?_ ?_)<;>(intros;try rename_i h))
 .refine⟨congrArg D.bool ?_,Tt⟩
  rw[decide_eq_false]
  intro e
  rw[e]at h
  omega
 .refine loop_rule hT (S:=Nat) (fun k=>([(0,.d (eClss xs)),(1,.d (eClss ys)),(4,.d (.bool false)),(5,dV k)],⟨[],[]⟩)) (fun k=>k<=xs.length/\(xs=ys↔xs.drop k=ys.drop k)) (fun k=>xs.length-k) 0 ?_ ?_ ?_
  .repeat' (first|exact Tt|exact rfl|exact Nat.le_refl _|refine And.intro ?_ ?_)
  .exact⟨Nat.zero_le _,Iff.rfl⟩
  .rintro k ⟨hk,ht⟩
   repeat' (first|with_reducible refine Sq.go ?_|((with_reducible refine Ev.mk ?_);conv=>whnf)|with_reducible refine Dr.mk ⟨Kr,Kr⟩ ?_|with_reducible refine obG ?_|with_reducible refine Ob.mk ?_ ?_|(with_reducible first|refine brT fun h=>?_|refine brF fun h=>?_|refine Br.mk (fun h=>?_) fun h=>?_)<;>(try simp only[bsl,beq_iff_eq,bne_iff_ne,bs2]at h)<;>(try contradiction)<;>try (exfalso;omega))
   .refine⟨congrArg D.bool ?_,Tt⟩
    rw[decide_eq_false]
    rw[ht,drop_at (xs:=xs) (k:=k) Om,drop_at (xs:=ys) (k:=k) Om]
    intro e
    injection e with e1 e2
    rw[e1]at h
    simp at h
   .refine⟨k+1,⟨by show k+1<=xs.length;omega,?_⟩,by show xs.length-(k+1)<xs.length-k;omega,?_⟩
    .have e:xs.getD k default=ys.getD k default:=by
      revert h
      generalize xs.getD k default=a
      generalize ys.getD k default=b
      intro h
      cases a;cases b;simp_all
     rw[ht,drop_at (xs:=xs) (k:=k) Om,drop_at (xs:=ys) (k:=k) Om,e]
     simp
    .repeat' (first|exact Tt|exact rfl|exact Nat.le_refl _|refine And.intro ?_ ?_)
   .refine⟨congrArg D.bool ?_,Tt⟩
    rw[decide_eq_true]
    rw[ht]
    rw[List.drop_eq_nil_of_le Om,List.drop_eq_nil_of_le Om]
theorem rule_eq (a b:Rule):a=b↔a.op=b.op/\a.course=b.course/\a.name=b.name/\a.n=b.n/\a.d=b.d/\a.kids=b.kids:=by
 cases a;cases b
 simp only[Rule.mk.injEq,Rule.op,Rule.course,Rule.name,Rule.n,Rule.d,Rule.kids]
theorem eRule_ne (r:Rule)(hne:r.kids≠[]):eRule r=[di r.op,di r.course,.str r.name,di r.n,di r.d,.sl 6 r.kids.length fun i=>eRule (r.kids.getD i default)]:=by
 unfold eRule
 rw[eRules_ne hne]
 rfl
theorem sameRule_ok:∀a:Rule,wfR a->∀b:Rule,wfR b->Pure Tryz.prog 104 [.agg (eRule a),.agg (eRule b)] [.bool (decide (a=b))]:=by
 refine rule_ind fun a ih ha b hb=>?_
 obtain⟨ha1,ha2⟩:=wfR_kids ha
 obtain⟨hb1,hb2⟩:=wfR_kids hb
 have hla:=ha1.2.2.2.2
 have hlb:=hb1.2.2.2.2
 refine pure_rule hT (T:=tab) (N:=67) (rs:=[.tmp 4]) Tryz.func104 rfl rfl rfl Kr rfl ?_
 by_cases q1:a.op=b.op
 case neg =>
  rw[decide_eq_false (fun e=>q1 (by rw[e]))]
  (refine gW ?_;intros)
  all_goals first
   |exact⟨rfl,Tt⟩
   |(refine⟨congrArg D.bool ?_,Tt⟩;simp[q1];done)
   |(exfalso;simp[q1]at h;done)
   |(exfalso;rename_i h1;simp[q1]at h1;done)
 by_cases q2:a.course=b.course
 case neg =>
  rw[decide_eq_false (fun e=>q2 (by rw[e]))]
  (refine gW ?_;intros)
  all_goals first
   |exact⟨rfl,Tt⟩
   |(refine⟨congrArg D.bool ?_,Tt⟩;simp[q2];done)
   |(exfalso;simp[q2]at h;done)
   |(exfalso;rename_i h1;simp[q2]at h1;done)
 by_cases q3:a.name=b.name
 case neg =>
  rw[decide_eq_false (fun e=>q3 (by rw[e]))]
  ((refine xW ?_ ?_)<;>intros)
  all_goals first
   |exact⟨rfl,Tt⟩
   |(refine⟨congrArg D.bool ?_,Tt⟩;simp[q3];done)
   |(exfalso;simp[q3]at h;done)
   |(exfalso;rename_i h1;simp[q3]at h1;done)
 by_cases q4:a.n=b.n
 case neg =>
  rw[decide_eq_false (fun e=>q4 (by rw[e]))]
  (refine gW ?_;intros)
  all_goals first
   |exact⟨rfl,Tt⟩
   |(refine⟨congrArg D.bool ?_,Tt⟩;simp[q4];done)
   |(exfalso;simp[q4]at h;done)
   |(exfalso;rename_i h1;simp[q4]at h1;done)
 by_cases q5:a.d=b.d
 case neg =>
  rw[decide_eq_false (fun e=>q5 (by rw[e]))]
  (refine gW ?_;intros)
  all_goals first
   |exact⟨rfl,Tt⟩
   |(refine⟨congrArg D.bool ?_,Tt⟩;simp[q5];done)
   |(exfalso;simp[q5]at h;done)
   |(exfalso;rename_i h1;simp[q5]at h1;done)
 by_cases q6:a.kids.length=b.kids.length
 case neg =>
  rw[decide_eq_false (fun e=>q6 (by rw[e]))]
  (refine gW ?_;intros)
  all_goals first
   |exact⟨rfl,Tt⟩
   |(refine⟨congrArg D.bool ?_,Tt⟩;simp[q6];done)
   |(exfalso;simp[q6]at h;done)
   |(exfalso;rename_i h1;simp[q6]at h1;done)
 have hiff:a=b↔a.kids=b.kids:=by rw[rule_eq];simp only[q1,q2,q3,q4,q5,true_and]
 ((refine xW ?_ ?_)<;>intros)
 all_goals try (exfalso;first|(simp[q1,q2,q3,q4,q5,q6]at h;done)|(rename_i h1;simp[q1,q2,q3,q4,q5,q6]at h1;done))
 refine loop_rule hT (S:=Nat) (fun k=>([(2,lp 0),(3,lp 1),(4,.d (.bool false)),(5,dV k)],⟨[bX 66 (up (eRule a)),bX 66 (up (eRule b))],[]⟩)) (fun k=>k<=a.kids.length/\(a=b↔a.kids.drop k=b.kids.drop k)) (fun k=>a.kids.length-k) 0 ?_ ?_ ?_
 .repeat' (first|exact Tt|exact rfl|exact Nat.le_refl _|refine And.intro ?_ ?_)
 .exact⟨Nat.zero_le _,hiff⟩
 .rintro k ⟨hk,hc⟩
  have kc:Kp _:=⟨hc⟩
  clear hc hiff
  by_cases hk2:k<a.kids.length
  .have hna:a.kids≠[]:=fun e=>by rw[e]at hk2;exact absurd hk2 (Nat.not_lt_zero _)
   have hnb:b.kids≠[]:=fun e=>by rw[q6,e]at hk2;exact absurd hk2 (Nat.not_lt_zero _)
   have hkb:k<b.kids.length:=by omega
   have hma:=getD_mem (xs:=a.kids) (k:=k) hk2
   have hmb:=getD_mem (xs:=b.kids) (k:=k) hkb
   have hI:=ih _ hma (ha2 _ hma) _ (hb2 _ hmb)
   rw[eRule_ne a hna,eRule_ne b hnb]
   by_cases e:a.kids.getD k default=b.kids.getD k default
   .rw[decide_eq_true e]at hI
    have kn:Kp (a=b↔a.kids.drop (k+1)=b.kids.drop (k+1)):=⟨by
     rw[kc.h,drop_at hk2,drop_at hkb,e]
     simp⟩
    clear e
    (refine gW ?_;intros)
    refine qC hI ?_
    (refine gW ?_;intros)
    refine⟨k+1,⟨by show k+1<=a.kids.length;omega,kn.h⟩,by show a.kids.length-(k+1)<a.kids.length-k;omega,?_⟩
    repeat' (first|exact Tt|exact rfl|exact Nat.le_refl _|refine And.intro ?_ ?_)
   .rw[decide_eq_false e]at hI
    rw[decide_eq_false (fun e2=>e (by rw[e2]))]
    clear e
    (refine gW ?_;intros)
    refine qC hI ?_
    (refine gW ?_;intros)
    exact⟨rfl,Tt⟩
  .rw[decide_eq_true (kc.h.2 (by rw[drop_end Om,drop_end Om]))]
   (refine gW ?_;intros)
   exact⟨rfl,Tt⟩
theorem crs_eq (a b:Crs):a=b↔a.name=b.name/\a.number=b.number/\a.credits=b.credits/\a.rep=b.rep/\a.need=b.need/\a.bar=b.bar:=by
 cases a;cases b
 simp only[Crs.mk.injEq]
theorem sameCourse_ok (a b:Crs)(ha:wfCrs a)(hb:wfCrs b):Pure Tryz.prog 32 [.agg (eCrs a),.agg (eCrs b)] [.bool (decide (a=b))]:=by
 have hN:=sameRule_ok a.need ha.1 b.need hb.1
 have hB:=sameRule_ok a.bar ha.2 b.bar hb.2
 refine pure_rule hT (T:=tab) (N:=45) (rs:=[.tmp 4]) Tryz.func32 rfl rfl rfl Kr rfl ?_
 by_cases q1:a.name=b.name
 case neg =>
  rw[decide_eq_false (fun e=>q1 (by rw[e]))]
  ((refine xW ?_ ?_)<;>(intros;try rename_i h))
  all_goals first
   |exact⟨rfl,Tt⟩
   |(refine⟨congrArg D.bool ?_,Tt⟩;simp[q1];done)
   |(exfalso;simp[q1]at h;done)
   |(exfalso;rename_i h1;simp[q1]at h1;done)
 by_cases q2:a.number=b.number
 case neg =>
  rw[decide_eq_false (fun e=>q2 (by rw[e]))]
  (refine gW ?_;intros;try rename_i h)
  all_goals first
   |exact⟨rfl,Tt⟩
   |(refine⟨congrArg D.bool ?_,Tt⟩;simp[q2];done)
   |(exfalso;simp[q2]at h;done)
   |(exfalso;rename_i h1;simp[q2]at h1;done)
 by_cases q3:a.credits=b.credits
 case neg =>
  rw[decide_eq_false (fun e=>q3 (by rw[e]))]
  (refine gW ?_;intros;try rename_i h)
  all_goals first
   |exact⟨rfl,Tt⟩
   |(refine⟨congrArg D.bool ?_,Tt⟩;simp[q3];done)
   |(exfalso;simp[q3]at h;done)
   |(exfalso;rename_i h1;simp[q3]at h1;done)
 by_cases q4:a.rep=b.rep
 case neg =>
  rw[decide_eq_false (fun e=>q4 (by rw[e]))]
  (refine gW ?_;intros;try rename_i h)
  all_goals first
   |exact⟨rfl,Tt⟩
   |(refine⟨congrArg D.bool ?_,Tt⟩;simp[q4];done)
   |(exfalso;simp[q4]at h;done)
   |(exfalso;rename_i h1;simp[q4]at h1;done)
 by_cases q5:a.need=b.need
 case neg =>
  rw[decide_eq_false q5]at hN
  rw[decide_eq_false (fun e=>q5 (by rw[e]))]
  clear q5
  ((refine xW ?_ ?_)<;>(intros;try rename_i h))
  all_goals try (exfalso;first|(simp[q1,q2,q3,q4]at h;done)|(rename_i h1;simp[q1,q2,q3,q4]at h1;done))
  refine hN.call ?_
  (refine gW ?_;intros;try rename_i h)
  all_goals try (exfalso;first|(simp[q1,q2,q3,q4]at h;done)|(rename_i h1;simp[q1,q2,q3,q4]at h1;done))
  exact⟨congrArg D.bool (by simp[q1,q2,q3,q4]),Tt⟩
 rw[decide_eq_true q5]at hN
 by_cases q6:a.bar=b.bar
 case neg =>
  rw[decide_eq_false q6]at hB
  rw[decide_eq_false (fun e=>q6 (by rw[e]))]
  clear q5 q6
  ((refine xW ?_ ?_)<;>(intros;try rename_i h))
  all_goals try (exfalso;first|(simp[q1,q2,q3,q4]at h;done)|(rename_i h1;simp[q1,q2,q3,q4]at h1;done))
  refine hN.call ?_
  ((refine xW ?_ ?_)<;>(intros;try rename_i h))
  all_goals try (exfalso;first|(simp[q1,q2,q3,q4]at h;done)|(rename_i h1;simp[q1,q2,q3,q4]at h1;done))
  refine hB.call ?_
  (refine gW ?_;intros;try rename_i h)
  all_goals try (exfalso;first|(simp[q1,q2,q3,q4]at h;done)|(rename_i h1;simp[q1,q2,q3,q4]at h1;done))
  exact⟨congrArg D.bool (by simp[q1,q2,q3,q4]),Tt⟩
 rw[decide_eq_true q6]at hB
 rw[decide_eq_true ((crs_eq a b).2 ⟨q1,q2,q3,q4,q5,q6⟩)]
 clear q5 q6
 ((refine xW ?_ ?_)<;>(intros;try rename_i h))
 all_goals try (exfalso;first|(simp[q1,q2,q3,q4]at h;done)|(rename_i h1;simp[q1,q2,q3,q4]at h1;done))
 refine hN.call ?_
 ((refine xW ?_ ?_)<;>(intros;try rename_i h))
 all_goals try (exfalso;first|(simp[q1,q2,q3,q4]at h;done)|(rename_i h1;simp[q1,q2,q3,q4]at h1;done))
 refine hB.call ?_
 (refine gW ?_;intros;try rename_i h)
 all_goals try (exfalso;first|(simp[q1,q2,q3,q4]at h;done)|(rename_i h1;simp[q1,q2,q3,q4]at h1;done))
 exact⟨congrArg D.bool (by simp[q1,q2,q3,q4]),Tt⟩
theorem req_eq (a b:Req):a=b↔a.name=b.name/\a.credits=b.credits/\a.grade=b.grade/\a.home=b.home/\a.names=b.names/\a.fr=b.fr:=by
 cases a;cases b
 simp only[Req.mk.injEq]
def wfReq (q:Req):Prop:=fitL q.names/\fitL q.fr
def eReqH (q:Req)(h:Bool):List D:=[.str q.name,di q.credits,di q.grade,.bool h,eStrs q.names,eInts q.fr]
theorem eReqH_eq (q:Req)(h:Bool)(e:q.home=h):eReq q=eReqH q h:=by rw[<-e];rfl
theorem sameReq_ok (a b:Req) (ha:wfReq a) (hb:wfReq b):Pure Tryz.prog 107 [.agg (eReq a),.agg (eReq b)] [.bool (decide (a=b))]:=by
 have hla:a.names.length<=9223372036854775807:=ha.1
 have hlb:b.names.length<=9223372036854775807:=hb.1
 have hma:a.fr.length<=9223372036854775807:=ha.2
 have hmb:b.fr.length<=9223372036854775807:=hb.2
 obtain⟨xa,hxa⟩:∃x,a.home=x:=⟨_,rfl⟩
 obtain⟨xb,hxb⟩:∃x,b.home=x:=⟨_,rfl⟩
 rw[eReqH_eq a xa hxa,eReqH_eq b xb hxb]
 refine pure_rule hT (T:=tab) (N:=87) (rs:=[.tmp 4]) Tryz.func107 rfl rfl rfl Kr rfl ?_
 by_cases q1:a.name=b.name
 case neg =>
  rw[decide_eq_false (fun e=>q1 (by rw[e]))]
  ((refine xW ?_ ?_)<;>intros)
  all_goals first
   |exact⟨rfl,Tt⟩
   |(refine⟨congrArg D.bool ?_,Tt⟩;simp[q1];done)
   |(exfalso;simp[q1]at h;done)
   |(exfalso;rename_i h1;simp[q1]at h1;done)
 by_cases q2:a.credits=b.credits
 case neg =>
  rw[decide_eq_false (fun e=>q2 (by rw[e]))]
  (refine gW ?_;intros)
  all_goals first
   |exact⟨rfl,Tt⟩
   |(refine⟨congrArg D.bool ?_,Tt⟩;simp[q2];done)
   |(exfalso;simp[q2]at h;done)
   |(exfalso;rename_i h1;simp[q2]at h1;done)
 by_cases q3:a.grade=b.grade
 case neg =>
  rw[decide_eq_false (fun e=>q3 (by rw[e]))]
  (refine gW ?_;intros)
  all_goals first
   |exact⟨rfl,Tt⟩
   |(refine⟨congrArg D.bool ?_,Tt⟩;simp[q3];done)
   |(exfalso;simp[q3]at h;done)
   |(exfalso;rename_i h1;simp[q3]at h1;done)
 by_cases q4:xa=xb
 case neg =>
  rw[decide_eq_false (fun e=>q4 (by rw[<-hxa,<-hxb,e]))]
  clear hxa hxb
  cases xa<;>cases xb<;>first|exact absurd rfl q4|skip
  all_goals
   clear q4
   (refine gP ?_;intros)
  all_goals first
   |exact⟨rfl,Tt⟩
   |(exfalso;simp[q1,q2,q3]at h;done)
 subst q4
 by_cases q5:a.names.length=b.names.length
 case neg =>
  rw[decide_eq_false (fun e=>q5 (by rw[e]))]
  (refine gW ?_;intros)
  all_goals first
   |exact⟨rfl,Tt⟩
   |(refine⟨congrArg D.bool ?_,Tt⟩;simp[q5];done)
   |(exfalso;simp[q5]at h;done)
   |(exfalso;rename_i h1;simp[q5]at h1;done)
 by_cases q6:a.fr.length=b.fr.length
 case neg =>
  rw[decide_eq_false (fun e=>q6 (by rw[e]))]
  (refine gW ?_;intros)
  all_goals first
   |exact⟨rfl,Tt⟩
   |(refine⟨congrArg D.bool ?_,Tt⟩;simp[q6];done)
   |(exfalso;simp[q6]at h;done)
   |(exfalso;rename_i h1;simp[q6]at h1;done)
 have hiff:a=b↔a.names=b.names/\a.fr=b.fr:=by rw[req_eq];simp only[q1,q2,q3,hxa,hxb,true_and]
 have kiff:Kp _:=⟨hiff⟩
 clear hiff
 clear hxa hxb
 cases xa
 case false =>
  ((refine xP ?_ ?_)<;>intros)
  all_goals try (exfalso;first|(simp[q1,q2,q3,q5,q6]at h;done)|(rename_i h1;simp[q1,q2,q3,q5,q6]at h1;done))
  refine loop_rule hT (S:=Nat) (fun k=>([(2,lp 0),(3,lp 1),(4,.d (.bool false)),(5,dV k)],⟨[bX 106 (up (eReqH a false)),bX 106 (up (eReqH b false))],[]⟩)) (fun k=>k<=a.names.length/\(a.names=b.names↔a.names.drop k=b.names.drop k)) (fun k=>a.names.length-k) 0 ?_ ?_ ?_
  .repeat' (first|exact Tt|exact rfl|exact Nat.le_refl _|refine And.intro ?_ ?_)
  .exact⟨Nat.zero_le _,Iff.rfl⟩
  .rintro k ⟨hk,hc⟩
   have kc:Kp _:=⟨hc⟩
   clear hc
   by_cases hk2:k<a.names.length
   .have hkb:k<b.names.length:=by omega
    by_cases e:a.names.getD k default=b.names.getD k default
    .have kn:Kp (a.names=b.names↔a.names.drop (k+1)=b.names.drop (k+1)):=⟨by
      rw[kc.h,drop_at hk2,drop_at hkb,e]
      simp⟩
     (refine gW ?_;intros)
     all_goals try exact(h e).elim
     refine⟨k+1,⟨by show k+1<=a.names.length;omega,kn.h⟩,by show a.names.length-(k+1)<a.names.length-k;omega,?_⟩
     repeat' (first|exact Tt|exact rfl|exact Nat.le_refl _|refine And.intro ?_ ?_)
    .rw[decide_eq_false (fun e2=>e (by rw[e2]))]
     (refine gW ?_;intros)
     all_goals first
      |exact⟨rfl,Tt⟩
      |exact(e h).elim
   .have hnm:a.names=b.names:=kc.h.2 (by rw[drop_end Om,drop_end Om])
    have kiff2:Kp (a=b↔a.fr=b.fr):=⟨by rw[kiff.h];exact⟨fun h=>h.2,fun h=>⟨hnm,h⟩⟩⟩
    clear hnm
    (refine gW ?_;intros)
    refine loop_rule hT (S:=Nat) (fun k=>([(2,lp 0),(3,lp 1),(4,.d (.bool false)),(6,dV k)],⟨[bX 106 (up (eReqH a false)),bX 106 (up (eReqH b false))],[]⟩)) (fun k=>k<=a.fr.length/\(a=b↔a.fr.drop k=b.fr.drop k)) (fun k=>a.fr.length-k) 0 ?_ ?_ ?_
    .repeat' (first|exact Tt|exact rfl|exact Nat.le_refl _|refine And.intro ?_ ?_)
    .exact⟨Nat.zero_le _,kiff2.h⟩
    .clear kc hk2 hk
     rintro k ⟨hk,hc⟩
     have kc:Kp _:=⟨hc⟩
     clear hc
     by_cases hk2:k<a.fr.length
     .have hkb:k<b.fr.length:=by omega
      by_cases e:a.fr.getD k default=b.fr.getD k default
      .have kn:Kp (a=b↔a.fr.drop (k+1)=b.fr.drop (k+1)):=⟨by
        rw[kc.h,drop_at hk2,drop_at hkb,e]
        simp⟩
       (refine gW ?_;intros)
       refine⟨k+1,⟨by show k+1<=a.fr.length;omega,kn.h⟩,by show a.fr.length-(k+1)<a.fr.length-k;omega,?_⟩
       repeat' (first|exact Tt|exact rfl|exact Nat.le_refl _|refine And.intro ?_ ?_)
      .rw[decide_eq_false (fun e2=>e (by rw[e2]))]
       (refine gW ?_;intros)
       exact⟨rfl,Tt⟩
     .rw[decide_eq_true (kc.h.2 (by rw[drop_end Om,drop_end Om]))]
      (refine gW ?_;intros)
      exact⟨rfl,Tt⟩
 case true =>
  ((refine xP ?_ ?_)<;>intros)
  all_goals try (exfalso;first|(simp[q1,q2,q3,q5,q6]at h;done)|(rename_i h1;simp[q1,q2,q3,q5,q6]at h1;done))
  refine loop_rule hT (S:=Nat) (fun k=>([(2,lp 0),(3,lp 1),(4,.d (.bool false)),(5,dV k)],⟨[bX 106 (up (eReqH a true)),bX 106 (up (eReqH b true))],[]⟩)) (fun k=>k<=a.names.length/\(a.names=b.names↔a.names.drop k=b.names.drop k)) (fun k=>a.names.length-k) 0 ?_ ?_ ?_
  .repeat' (first|exact Tt|exact rfl|exact Nat.le_refl _|refine And.intro ?_ ?_)
  .exact⟨Nat.zero_le _,Iff.rfl⟩
  .rintro k ⟨hk,hc⟩
   have kc:Kp _:=⟨hc⟩
   clear hc
   by_cases hk2:k<a.names.length
   .have hkb:k<b.names.length:=by omega
    by_cases e:a.names.getD k default=b.names.getD k default
    .have kn:Kp (a.names=b.names↔a.names.drop (k+1)=b.names.drop (k+1)):=⟨by
      rw[kc.h,drop_at hk2,drop_at hkb,e]
      simp⟩
     (refine gW ?_;intros)
     all_goals try exact(h e).elim
     refine⟨k+1,⟨by show k+1<=a.names.length;omega,kn.h⟩,by show a.names.length-(k+1)<a.names.length-k;omega,?_⟩
     repeat' (first|exact Tt|exact rfl|exact Nat.le_refl _|refine And.intro ?_ ?_)
    .rw[decide_eq_false (fun e2=>e (by rw[e2]))]
     (refine gW ?_;intros)
     all_goals first
      |exact⟨rfl,Tt⟩
      |exact(e h).elim
   .have hnm:a.names=b.names:=kc.h.2 (by rw[drop_end Om,drop_end Om])
    have kiff2:Kp (a=b↔a.fr=b.fr):=⟨by rw[kiff.h];exact⟨fun h=>h.2,fun h=>⟨hnm,h⟩⟩⟩
    clear hnm
    (refine gW ?_;intros)
    refine loop_rule hT (S:=Nat) (fun k=>([(2,lp 0),(3,lp 1),(4,.d (.bool false)),(6,dV k)],⟨[bX 106 (up (eReqH a true)),bX 106 (up (eReqH b true))],[]⟩)) (fun k=>k<=a.fr.length/\(a=b↔a.fr.drop k=b.fr.drop k)) (fun k=>a.fr.length-k) 0 ?_ ?_ ?_
    .repeat' (first|exact Tt|exact rfl|exact Nat.le_refl _|refine And.intro ?_ ?_)
    .exact⟨Nat.zero_le _,kiff2.h⟩
    .clear kc hk2 hk
     rintro k ⟨hk,hc⟩
     have kc:Kp _:=⟨hc⟩
     clear hc
     by_cases hk2:k<a.fr.length
     .have hkb:k<b.fr.length:=by omega
      by_cases e:a.fr.getD k default=b.fr.getD k default
      .have kn:Kp (a=b↔a.fr.drop (k+1)=b.fr.drop (k+1)):=⟨by
        rw[kc.h,drop_at hk2,drop_at hkb,e]
        simp⟩
       (refine gW ?_;intros)
       refine⟨k+1,⟨by show k+1<=a.fr.length;omega,kn.h⟩,by show a.fr.length-(k+1)<a.fr.length-k;omega,?_⟩
       repeat' (first|exact Tt|exact rfl|exact Nat.le_refl _|refine And.intro ?_ ?_)
      .rw[decide_eq_false (fun e2=>e (by rw[e2]))]
       (refine gW ?_;intros)
       exact⟨rfl,Tt⟩
     .rw[decide_eq_true (kc.h.2 (by rw[drop_end Om,drop_end Om]))]
      (refine gW ?_;intros)
      exact⟨rfl,Tt⟩
theorem prg_eq (a b:Prg):a=b↔a.name=b.name/\a.number=b.number/\a.uses=b.uses/\a.earn=b.earn/\(a.mn=b.mn/\a.md=b.md)/\a.reqs=b.reqs:=by
 cases a;cases b
 simp only[Prg.mk.injEq,and_assoc]
def wfPrg2 (p:Prg):Prop:=fitL p.reqs/\∀q∈p.reqs,wfReq q
theorem samePrg_ok (a b:Prg)(ha:wfPrg2 a)(hb:wfPrg2 b):Pure Tryz.prog 35 [.agg (ePrg a),.agg (ePrg b)] [.bool (decide (a=b))]:=by
 have hla:a.reqs.length<=9223372036854775807:=ha.1
 have hlb:b.reqs.length<=9223372036854775807:=hb.1
 refine pure_rule hT (T:=tab) (N:=67) (rs:=[.tmp 4]) Tryz.func35 rfl rfl rfl Kr rfl ?_
 by_cases q1:a.name=b.name
 case neg =>
  rw[decide_eq_false (fun e=>q1 (by rw[e]))]
  ((refine xW ?_ ?_)<;>intros)
  all_goals first
   |exact⟨rfl,Tt⟩
   |(refine⟨congrArg D.bool ?_,Tt⟩;simp[q1];done)
   |(exfalso;simp[q1]at h;done)
   |(exfalso;rename_i h1;simp[q1]at h1;done)
 by_cases q2:a.number=b.number
 case neg =>
  rw[decide_eq_false (fun e=>q2 (by rw[e]))]
  (refine gW ?_;intros)
  all_goals first
   |exact⟨rfl,Tt⟩
   |(refine⟨congrArg D.bool ?_,Tt⟩;simp[q2];done)
   |(exfalso;simp[q2]at h;done)
   |(exfalso;rename_i h1;simp[q2]at h1;done)
 by_cases q3:a.uses=b.uses
 case neg =>
  rw[decide_eq_false (fun e=>q3 (by rw[e]))]
  (refine gW ?_;intros)
  all_goals first
   |exact⟨rfl,Tt⟩
   |(refine⟨congrArg D.bool ?_,Tt⟩;simp[q3];done)
   |(exfalso;simp[q3]at h;done)
   |(exfalso;rename_i h1;simp[q3]at h1;done)
 by_cases q4:a.earn=b.earn
 case neg =>
  rw[decide_eq_false (fun e=>q4 (by rw[e]))]
  (refine gW ?_;intros)
  all_goals first
   |exact⟨rfl,Tt⟩
   |(refine⟨congrArg D.bool ?_,Tt⟩;simp[q4];done)
   |(exfalso;simp[q4]at h;done)
   |(exfalso;rename_i h1;simp[q4]at h1;done)
 by_cases q5:a.mn=b.mn
 case neg =>
  rw[decide_eq_false (fun e=>q5 (by rw[e]))]
  (refine gP ?_;intros)
  all_goals first
   |exact⟨rfl,Tt⟩
   |(exfalso;simp[q5]at h;done)
 by_cases q6:a.md=b.md
 case neg =>
  rw[decide_eq_false (fun e=>q6 (by rw[e]))]
  (refine gP ?_;intros)
  all_goals first
   |exact⟨rfl,Tt⟩
   |(exfalso;simp[q6]at h;done)
 by_cases q7:a.reqs.length=b.reqs.length
 case neg =>
  rw[decide_eq_false (fun e=>q7 (by rw[e]))]
  (refine gP ?_;intros)
  all_goals first
   |exact⟨rfl,Tt⟩
   |(exfalso;simp[q7]at h;done)
 have hiff:a=b↔a.reqs=b.reqs:=by rw[prg_eq];simp only[q1,q2,q3,q4,q5,q6,true_and]
 have kiff:Kp _:=⟨hiff⟩
 clear hiff
 ((refine xP ?_ ?_)<;>intros)
 all_goals try (exfalso;first|(simp[q1,q2,q3,q4,q5,q6,q7]at h;done)|(rename_i h1;simp[q1,q2,q3,q4,q5,q6,q7]at h1;done))
 refine loop_rule hT (S:=Nat) (fun k=>([(2,lp 0),(3,lp 1),(4,.d (.bool false)),(5,dV k)],⟨[bX 78 (up (ePrg a)),bX 78 (up (ePrg b))],[]⟩)) (fun k=>k<=a.reqs.length/\(a=b↔a.reqs.drop k=b.reqs.drop k)) (fun k=>a.reqs.length-k) 0 ?_ ?_ ?_
 .repeat' (first|exact Tt|exact rfl|exact Nat.le_refl _|refine And.intro ?_ ?_)
 .exact⟨Nat.zero_le _,kiff.h⟩
 .rintro k ⟨hk,hc⟩
  have kc:Kp _:=⟨hc⟩
  clear hc
  by_cases hk2:k<a.reqs.length
  .have hkb:k<b.reqs.length:=by omega
   have hI:=sameReq_ok _ _ (ha.2 _ (getD_mem hk2)) (hb.2 _ (getD_mem hkb))
   by_cases e:a.reqs.getD k default=b.reqs.getD k default
   .rw[decide_eq_true e]at hI
    have kn:Kp (a=b↔a.reqs.drop (k+1)=b.reqs.drop (k+1)):=⟨by
     rw[kc.h,drop_at hk2,drop_at hkb,e]
     simp⟩
    clear e
    (refine gW ?_;intros)
    refine qC hI ?_
    (refine gW ?_;intros)
    refine⟨k+1,⟨by show k+1<=a.reqs.length;omega,kn.h⟩,by show a.reqs.length-(k+1)<a.reqs.length-k;omega,?_⟩
    repeat' (first|exact Tt|exact rfl|exact Nat.le_refl _|refine And.intro ?_ ?_)
   .rw[decide_eq_false e]at hI
    rw[decide_eq_false (fun e2=>e (by rw[e2]))]
    clear e
    (refine gW ?_;intros)
    refine qC hI ?_
    (refine gW ?_;intros)
    exact⟨rfl,Tt⟩
  .rw[decide_eq_true (kc.h.2 (by rw[drop_end Om,drop_end Om]))]
   (refine gW ?_;intros)
   exact⟨rfl,Tt⟩
theorem eRule_fl {r:Rule}(h:r.kids=[]):eRule r=[di r.op,di r.course,.str r.name,di r.n,di r.d,eRules []]:=by
 unfold eRule
 rw[h]
def prtL (r:Rule):List Rule:=(preR 1 r).map Prod.snd
theorem prtL_eq (r:Rule):prtL r=r::r.kids.flatMap prtL:=by
 have key:∀ks:List Rule,(preL 2 ks).map Prod.snd=ks.flatMap prtL:=by
  intro ks
  induction ks with
  |nil=>rw[preL_nil];rfl
  |cons k ks ih=>rw[preL_cons,List.map_append,ih,List.flatMap_cons,preR_shift k 2 1];rfl
 unfold prtL
 rw[preR_eq,List.map_cons,key]
 rfl
theorem prtL_kid {r k:Rule}(hk:k∈r.kids){p:Rule}(hp:p∈prtL k):p∈prtL r:=by
 rw[prtL_eq r]
 exact List.mem_cons_of_mem _ (List.mem_flatMap.2 ⟨k,hk,hp⟩)
def vis {α S:Type}(step:S->α->S)(cont:S->Bool):List α->S->S
 |[],s=>s
 |x::r,s=>if cont (step s x)=true then vis step cont r (step s x) else step s x
theorem vis_app {α S:Type}(step:S->α->S)(cont:S->Bool):∀(a b:List α) (s:S),cont s=true->vis step cont (a++b) s=if cont (vis step cont a s)=true then vis step cont b (vis step cont a s) else vis step cont a s
 |[],b,s,h=>by rw[List.nil_append,vis,if_pos h]
 | x :: a,b,s,h=>by
   rw[List.cons_append,vis,vis]
   by_cases h1:cont (step s x)=true
   .rw[if_pos h1,if_pos h1,vis_app step cont a b _ h1]
   .rw[if_neg h1,if_neg h1,if_neg h1]
theorem nparts_ok (r:Rule):CallVC Tryz.prog 214 [.d (.agg (eRule r))] ⟨[],[]⟩
 (Ret (fun _:Unit=>([.fn (.func 235) [] [lp 0]],⟨[bX 66 (up (eRule r))],[]⟩)) fun _=>True):=by
 refine call_rule hT (T:=tab) (N:=4) (rs:=[.tmp 2]) _ _ Tryz.func214 rfl rfl rfl Kr rfl ?_
 (refine gW ?_;intros)
 exact⟨(),Tt,by repeat' (first|exact Tt|exact rfl|exact Nat.le_refl _|refine And.intro ?_ ?_),rfl⟩
def famY {S:Type}(E:Nat->S->List (Option Blk))(y b:Nat)(rec:Loop)(cont:S->Bool):Nat->S->List (Option Blk):=fun k s =>
 bX 103 [.fn (.yield y) [] []]::(E (k+1) s++[some (.loop b (bif cont s then rec else after rec (some .ret)) [(2,.ptr (.arg k) 0 0 0)])])
theorem famY_ok {S:Type}{n:Nat}{E:Nat->S->List (Option Blk)}(hE:Fam n E)(y b:Nat)(rec:Loop)(cont:S->Bool):Fam (n+2) (famY E y b rec cont) where
 len k s:=by simp only[famY,List.length_cons,List.length_append,List.length_nil,hE.len]
 ren ρ k k' s h:=by
  have h0:ρ (.arg k)=.arg k':=h 0 Om
  have h1:=hE.ren ρ (k+1) (k'+1) s fun j hj=>by
   have:=h (j+1) Om
   rwa [show k+(j+1)=k+1+j by omega,show k'+(j+1)=k'+1+j by omega]at this
  unfold famY
  show renO ρ _::renM ρ (E (k+1) s++_)=_
  rw[renM_app,h1]
  show bX _ [.fn (.yield y) [] []]::(E (k'+1) s++[some (.loop b _ [(2,.ptr (ρ (.arg k)) 0 0 0)])])=_
  rw[h0]
 le nl na k s h:=by
  refine⟨⟨rfl,rfl,rfl⟩,LeL_app rfl (hE.le nl na (k+1) s Om) ⟨⟨rfl,rfl,rfl,?_⟩,Tt⟩⟩
  show(Nat.blt k na&&true)=true
  rw[Bool.and_true]
  exact Nat.ble_eq_true_of_le Om
theorem nparts1_ok:∀ r:Rule,cntR r≤1000000→∀ {S:Type} (n:Nat) (E:Nat→S→List (Option Blk)) (hE:Fam n E) (y:Nat) (step:S→Rule→S) (cont:S→Bool)
 (hy:∀s,cont s=true->∀p∈prtL r,YieldVC Tryz.prog y [.d (.agg (eRule p))] ⟨[],E 0 s⟩ (Ret (fun s':S=>([.d (.bool (cont s'))],⟨[],E 0 s'⟩)) fun s'=>s'=step s p)) (s0:S) (hc:cont s0=true),
 CallVC Tryz.prog 235 [.fn (.yield y) [] [],ap 0] ⟨[],bX 66 (up (eRule r))::E 1 s0⟩
  (Ret (fun s:S=>([],⟨[],bX 66 (up (eRule r))::E 1 s⟩)) fun s=>s=vis step cont (prtL r) s0):=by
 refine rule_ind fun r ih hcn S n E hE y step cont hy s0 hc=>?_
 obtain⟨hkl,hkc⟩:=kids_cnt hcn
 obtain⟨ks,hks⟩:∃ks,r.kids=ks:=⟨_,rfl⟩
 have kpe:Kp (prtL r=r::ks.flatMap prtL):=⟨by rw[prtL_eq,hks]⟩
 have kpk:Kp (∀k∈ks,∀p∈prtL k,p∈prtL r):=⟨fun k hk p hp=>prtL_kid (hks▸hk) hp⟩
 have hyr:=hy s0 hc r (by rw[kpe.h];simp)
 rw[hks]at hkl hkc ih
 have hv0:vis step cont (prtL r) s0=if cont (step s0 r)=true then vis step cont (ks.flatMap prtL) (step s0 r) else step s0 r:=by rw[kpe.h];rfl
 rw[hv0]
 clear hv0
 by_cases hne:ks=[]
 .have hEr:eRule r=[di r.op,di r.course,.str r.name,di r.n,di r.d,.sl 6 0 fun _=>[]]:=by rw[eRule_fl (hks.trans hne),eRules_nil]
  rw[hEr]at hyr⊢
  subst hne
  clear hEr ih hkc hkl
  refine call_rule hT (T:=tab) (N:=25) (rs:=[]) _ _ Tryz.func235 rfl rfl rfl Kr rfl ?_
  (refine gW ?_;intros)
  refine YieldVC.shD hE [bX 66 (up [di r.op,di r.course,.str r.name,di r.n,di r.d,.sl 6 0 fun _=>[]])] hyr rfl ?_
  rintro s1 rfl
  cases hc1:cont (step s0 r) with
  | false =>
    (refine gW ?_;intros)
    refine⟨_,rfl,?_,rfl⟩
    repeat' (first|exact Tt|exact rfl|exact Nat.le_refl _|refine And.intro ?_ ?_)
    exact hE.le1
  | true =>
    (refine gW ?_;intros)
    refine loop_rule hT (S:=Unit) (fun _=>([(12,dV 0),(13,dV 0)],⟨[],bX 66 (up [di r.op,di r.course,.str r.name,di r.n,di r.d,.sl 6 0 fun _=>[]])::E 1 (step s0 r)⟩)) (fun _=>True) (fun _=>0) () ?_ ?_ ?_
    .repeat' (first|exact Tt|exact rfl|exact Nat.le_refl _|refine And.intro ?_ ?_)
     exact hE.le1
    .exact Tt
    .intro _ _
     (refine gW ?_;intros)
     refine⟨_,rfl,?_,rfl⟩
     repeat' (first|exact Tt|exact rfl|exact Nat.le_refl _|refine And.intro ?_ ?_)
     exact hE.le1
 .have hEr:eRule r=[.int .i64 r.op,.int .i64 r.course,.str r.name,.int .i64 r.n,.int .i64 r.d,.sl 6 ks.length fun i=>eRule (ks.getD i default)]:=by
   have:=eRule_ne r (by rw[hks];exact hne)
   rwa [hks]at this
  rw[hEr]at hyr⊢
  clear hEr
  refine call_rule hT (T:=tab) (N:=25) (rs:=[]) _ _ Tryz.func235 rfl rfl rfl Kr rfl ?_
  (refine gW ?_;intros)
  refine YieldVC.shD hE [bX 66 (up [di r.op,di r.course,.str r.name,di r.n,di r.d,.sl 6 ks.length fun i=>eRule (ks.getD i default)])] hyr rfl ?_
  rintro s1 rfl
  cases hc1:cont (step s0 r) with
  | false =>
    (refine gW ?_;intros)
    refine⟨_,rfl,?_,rfl⟩
    repeat' (first|exact Tt|exact rfl|exact Nat.le_refl _|refine And.intro ?_ ?_)
    exact hE.le1
  | true =>
    (refine gW ?_;intros)
    refine loop_rule hT (S:=Nat × S) (fun z=>([(2,lp 0),(11,.d (.sl 6 ks.length fun i=>eRule (ks.getD i default))),(12,dV ks.length),(13,dV z.1)],
     ⟨[bX 103 [.fn (.yield y) [] []]],bX 66 (up [di r.op,di r.course,.str r.name,di r.n,di r.d,.sl 6 ks.length fun i=>eRule (ks.getD i default)])::E 1 z.2⟩))
     (fun z=>z.1<=ks.length/\cont z.2=true/\vis step cont (ks.flatMap prtL) (step s0 r)=vis step cont ((ks.drop z.1).flatMap prtL) z.2) (fun z=>ks.length-z.1) (0,step s0 r) ?_ ?_ ?_
    .repeat' (first|exact Tt|exact rfl|exact Nat.le_refl _|refine And.intro ?_ ?_)
     exact hE.le1
    .exact⟨Nat.zero_le _,hc1,rfl⟩
    .rintro⟨k,s⟩ ⟨hk,hcs,hv⟩
     dsimp only at hk hcs hv⊢
     by_cases hk2:k<ks.length
     .rw [drop_at hk2,List.flatMap_cons,vis_app step cont _ _ _ hcs] at hv
      have hkm:=getD_mem (xs:=ks) hk2
      have hI:=@ih _ hkm (hkc _ hkm) S
      have kv:Kp _:=⟨hv⟩
      clear hv ih hkc
      (refine gW ?_;intros)
      refine(nparts_ok (ks.getD k default)).at [] rfl Tt (fun _ _=>⟨rfl,?_⟩)
      (refine gW ?_;intros)
      refine Awp.range (caps:=[lp 2]) [(2,lp 0)] (.inl rfl) (nl:=3) (na:=0) ⟨⟨rfl,rfl⟩,Tt⟩ ?_
      intro b rec h1 h2 h3 h4 h5 h6
      have hI2:=hI (n+2) (famY E y b rec cont) (famY_ok hE y b rec cont) b step cont ?_ s hcs
      refine CallVC.mid hE _ [.loc 2,.loc 0] [.loc 3] (Bs:=[bX 66 (up [di r.op,di r.course,.str r.name,di r.n,di r.d,.sl 6 ks.length fun i=>eRule (ks.getD i default)])])
       (Bp:=[some (.box 66 (up (eRule (ks.getD k default)))),some (.box 103 [.fn (.yield y) [] []])]) (Bq:=[some (.loop b rec [(2,.ptr (.arg 1) 0 0 0)])]) (s:=s) (by
        have:=hI2
        unfold famY at this
        rw[hcs]at this
        exact this) rfl rfl rfl ⟨rfl,rfl,Tt⟩ ⟨rfl,Tt⟩ rfl ?_
      .rintro A m0 ⟨s',hs',rfl,rfl⟩
       refine⟨s',[bX 66 (up (eRule (ks.getD k default))),bX 103 [.fn (.yield y) [] []]],[some (.loop b (bif cont s' then rec else after rec (some .ret)) [(2,ap 1)])],
        ⟨[some (.box 103 [.fn (.yield y) [] []]),some (.box 66 (up (eRule (ks.getD k default)))),some (.box 66 (up (eRule (ks.getD k default)))),some (.loop b (bif cont s' then rec else after rec (some .ret)) [(2,.ptr (.loc 0) 0 0 0)])],
         [bX 66 (up [di r.op,di r.course,.str r.name,di r.n,di r.d,.sl 6 ks.length fun i=>eRule (ks.getD i default)])]⟩,rfl,rfl,rfl,rfl,?_⟩
       subst hs'
       cases hc2:cont (vis step cont (prtL (ks.getD k default)) s) with
       | true =>
         refine⟨none,by rw[after_none h1 h2];rfl,?_⟩
         have hvv:=kv.h
         rw[if_pos hc2]at hvv
         have kw:Kp _:=⟨hvv⟩
         clear hvv
         show Sq _ _
         (refine gW ?_;intros)
         refine⟨(k+1,vis step cont (prtL (ks.getD k default)) s),⟨by show k+1<=ks.length;omega,hc2,kw.h⟩,by show ks.length-(k+1)<ks.length-k;omega,?_⟩
         repeat' (first|exact Tt|exact rfl|exact Nat.le_refl _|refine And.intro ?_ ?_)
         exact hE.le1
       | false =>
         refine⟨some .ret,rfl,?_⟩
         have hvv:=kv.h
         rw[if_neg (by rw[hc2];exact Bool.false_ne_true)]at hvv
         refine Awp.of_vc hT ?_
         (refine gW ?_;intros)
         refine⟨_,rfl,?_,rfl⟩
         rw[if_pos rfl,hvv]
         repeat' (first|exact Tt|exact rfl|exact Nat.le_refl _|refine And.intro ?_ ?_)
         exact hE.le1
      .intro q hcq p hp
       have hyp:=hy q hcq p (kpk.h _ hkm p hp)
       refine yieldMono (K:=Ret (fun s':S=>([.d (.bool (bif cont s' then(none:Option Code) else some .ret).isNone)],⟨[],(bX 103 [.fn (.yield y) [] []]::E 1 s')++[some (.loop b (after rec (bif cont s' then none else some .ret)) [(2,ap 0)])]⟩)) fun s'=>s'=step q p) ?_ ?_
       .have hY:=yield_rule (P:=Tryz.prog) (b:=b) (N:=25) (r:=rec) (ps:=[19]) (args:=[.d (.agg (eRule p))]) (bs:=bX 103 [.fn (.yield y) [] []]::E 1 q) (env0:=[(2,ap 0)])
         (fun s'=>bX 103 [.fn (.yield y) [] []]::E 1 s') (fun s'=>bif cont s' then none else some .ret) (fun s'=>s'=step q p) h1 h3 h4 h5 h6 rfl (by simp) ⟨⟨rfl,rfl,rfl⟩,hE.le1⟩ rfl rfl ?_
        .unfold famY
         rw[hcq]
         exact hY
        .refine Awp.of_vc hT ?_
         (refine gW ?_;intros)
         refine Awp.of_vc hT ?_
         (refine gW ?_;intros)
         refine YieldVC.shD hE [bX 103 [.fn (.yield y) [] []]] hyp rfl ?_
         rintro s1 rfl
         have hlen:∀s',lenL (bX 103 [.fn (.yield y) [] []]::E 1 s')=lenL (bX 103 [.fn (.yield y) [] []]::E 1 q):=fun s'=>by rw[lenL_eq,lenL_eq,List.length_cons,List.length_cons,hE.len,hE.len]
         cases hc3:cont (step q p) with
         | true =>
           (refine gW ?_;intros)
           refine⟨step q p,rfl,by dsimp only;rw[hc3];rfl,hlen _,?_⟩
           repeat' (first|exact Tt|exact rfl|exact Nat.le_refl _|refine And.intro ?_ ?_)
           exact hE.le1
         | false =>
           (refine gW ?_;intros)
           refine⟨step q p,rfl,by dsimp only;rw[hc3];rfl,hlen _,?_⟩
           repeat' (first|exact Tt|exact rfl|exact Nat.le_refl _|refine And.intro ?_ ?_)
           exact hE.le1
       .rintro A m' ⟨s',rfl,rfl,rfl⟩
        refine⟨step q p,rfl,?_,?_⟩
        .dsimp only[resA]
         cases cont (step q p)<;>rfl
        .dsimp only[famY]
         cases cont (step q p) with
         |true=>rw[cond_true,cond_true,after_none h1 h2];rfl
         |false=>rfl
     .rw[drop_end Om]at hv
      have kv:Kp _:=⟨hv⟩
      clear hv ih hkc
      (refine gW ?_;intros)
      refine⟨_,rfl,?_,rfl⟩
      rw[if_pos rfl,kv.h]
      repeat' (first|exact Tt|exact rfl|exact Nat.le_refl _|refine And.intro ?_ ?_)
      exact hE.le1
end Go.Proofs.YtmlhghddfobmmaaGreatDoor
