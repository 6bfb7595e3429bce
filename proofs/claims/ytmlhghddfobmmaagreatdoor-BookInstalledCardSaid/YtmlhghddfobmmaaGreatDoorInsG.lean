import Derived.Test.YtmlhghddfobmmaaGreatDoorSynB
import Derived.Test.YtmlhghddfobmmaaGreatDoorNmI
namespace Go.Proofs.YtmlhghddfobmmaaGreatDoor
set_option linter.unusedSimpArgs false
set_option linter.unusedVariables false
open Go Go.Ab
set_option maxRecDepth 100000
set_option maxHeartbeats 0
theorem eqfRul_ok (l m:List Rule)(hl:fitL l)(hm:fitL m)(hf:∀x∈l,∀y∈m,Pure Tryz.prog 122 [.agg (eRule x),.agg (eRule y)] [.bool (decide (x=y))]) :
 Pure Tryz.prog 174 [eRules l,eRules m,.fn (.func 122) [] []] [.bool (decide (l=m))]:=by
 have hl:l.length<=9223372036854775807:=hl
 have hm:m.length<=9223372036854775807:=hm
 have kf:Kp _:=⟨hf⟩
 clear hf
 refine pure_rule hT (T:=tab) (N:=32) (rs:=[.tmp 6]) Tryz.func174 rfl rfl rfl Kr rfl ?_
 by_cases q:l.length=m.length
 case neg =>
  rw[decide_eq_false (fun e=>q (by rw[e]))]
  (refine gW ?_;intros)
  exact⟨rfl,Tt⟩
 (refine gW ?_;intros)
 refine loop_rule hT (S:=Nat) (fun k=>([(1,.d (eRules m)),(2,.d (.fn (.func 122) [] [])),(15,.d (eRules l)),(16,dV l.length),(17,dV k)],⟨[],[]⟩)) (fun k=>k<=l.length/\(l=m↔l.drop k=m.drop k)) (fun k=>l.length-k) 0 ?_ ?_ ?_
 .repeat' (first|exact Tt|exact rfl|exact Nat.le_refl _|refine And.intro ?_ ?_)
 .exact⟨Nat.zero_le _,Iff.rfl⟩
 rintro k ⟨hk,hc⟩
 have kc:Kp _:=⟨hc⟩
 clear hc
 by_cases hk2:k<l.length
 case pos =>
  have hkb:k<m.length:=by omega
  rw[eRules_ne (ks:=l) (fun e=>by rw[e]at hk2;exact absurd hk2 (Nat.not_lt_zero _)),eRules_ne (ks:=m) (fun e=>by rw[e]at hkb;exact absurd hkb (Nat.not_lt_zero _))]
  have hP:=kf.h _ (getD_mem hk2) _ (getD_mem hkb)
  by_cases e:l.getD k default=m.getD k default
  case pos =>
   rw[decide_eq_true e]at hP
   have kn:Kp (l=m↔l.drop (k+1)=m.drop (k+1)):=⟨by
    rw[kc.h,drop_at hk2,drop_at hkb,e]
    simp⟩
   clear e
   (refine gW ?_;intros)
   refine hP.call ?_
   (refine gW ?_;intros)
   refine⟨k+1,⟨by show k+1<=l.length;omega,kn.h⟩,by show l.length-(k+1)<l.length-k;omega,?_⟩
   repeat' (first|exact Tt|exact rfl|exact Nat.le_refl _|refine And.intro ?_ ?_)
  case neg =>
   rw[decide_eq_false e]at hP
   rw[decide_eq_false (fun e2=>e (by rw[e2]))]
   clear e
   (refine gW ?_;intros)
   refine hP.call ?_
   (refine gW ?_;intros)
   exact⟨rfl,Tt⟩
 rw[decide_eq_true (kc.h.2 (by rw[drop_end Om,drop_end Om]))]
 (refine gW ?_;intros)
 exact⟨rfl,Tt⟩
theorem eqfCrs_ok (l m:List Crs)(hl:fitL l)(hm:fitL m)(hf:∀x∈l,∀y∈m,Pure Tryz.prog 121 [.agg (eCrs x),.agg (eCrs y)] [.bool (decide (x=y))]) :
 Pure Tryz.prog 128 [eCrss l,eCrss m,.fn (.func 121) [] []] [.bool (decide (l=m))]:=by
 have hl:l.length<=9223372036854775807:=hl
 have hm:m.length<=9223372036854775807:=hm
 have kf:Kp _:=⟨hf⟩
 clear hf
 refine pure_rule hT (T:=tab) (N:=32) (rs:=[.tmp 6]) Tryz.func128 rfl rfl rfl Kr rfl ?_
 by_cases q:l.length=m.length
 case neg =>
  rw[decide_eq_false (fun e=>q (by rw[e]))]
  (refine gW ?_;intros)
  exact⟨rfl,Tt⟩
 (refine gW ?_;intros)
 refine loop_rule hT (S:=Nat) (fun k=>([(1,.d (eCrss m)),(2,.d (.fn (.func 121) [] [])),(15,.d (eCrss l)),(16,dV l.length),(17,dV k)],⟨[],[]⟩)) (fun k=>k<=l.length/\(l=m↔l.drop k=m.drop k)) (fun k=>l.length-k) 0 ?_ ?_ ?_
 .repeat' (first|exact Tt|exact rfl|exact Nat.le_refl _|refine And.intro ?_ ?_)
 .exact⟨Nat.zero_le _,Iff.rfl⟩
 rintro k ⟨hk,hc⟩
 have kc:Kp _:=⟨hc⟩
 clear hc
 by_cases hk2:k<l.length
 case pos =>
  have hkb:k<m.length:=by omega
  skip
  have hP:=kf.h _ (getD_mem hk2) _ (getD_mem hkb)
  by_cases e:l.getD k default=m.getD k default
  case pos =>
   rw[decide_eq_true e]at hP
   have kn:Kp (l=m↔l.drop (k+1)=m.drop (k+1)):=⟨by
    rw[kc.h,drop_at hk2,drop_at hkb,e]
    simp⟩
   clear e
   (refine gW ?_;intros)
   refine hP.call ?_
   (refine gW ?_;intros)
   refine⟨k+1,⟨by show k+1<=l.length;omega,kn.h⟩,by show l.length-(k+1)<l.length-k;omega,?_⟩
   repeat' (first|exact Tt|exact rfl|exact Nat.le_refl _|refine And.intro ?_ ?_)
  case neg =>
   rw[decide_eq_false e]at hP
   rw[decide_eq_false (fun e2=>e (by rw[e2]))]
   clear e
   (refine gW ?_;intros)
   refine hP.call ?_
   (refine gW ?_;intros)
   exact⟨rfl,Tt⟩
 rw[decide_eq_true (kc.h.2 (by rw[drop_end Om,drop_end Om]))]
 (refine gW ?_;intros)
 exact⟨rfl,Tt⟩
theorem eqfReq_ok (l m:List Req)(hl:fitL l)(hm:fitL m)(hf:∀x∈l,∀y∈m,Pure Tryz.prog 123 [.agg (eReq x),.agg (eReq y)] [.bool (decide (x=y))]) :
 Pure Tryz.prog 127 [eReqs l,eReqs m,.fn (.func 123) [] []] [.bool (decide (l=m))]:=by
 have hl:l.length<=9223372036854775807:=hl
 have hm:m.length<=9223372036854775807:=hm
 have kf:Kp _:=⟨hf⟩
 clear hf
 refine pure_rule hT (T:=tab) (N:=32) (rs:=[.tmp 6]) Tryz.func127 rfl rfl rfl Kr rfl ?_
 by_cases q:l.length=m.length
 case neg =>
  rw[decide_eq_false (fun e=>q (by rw[e]))]
  (refine gW ?_;intros)
  exact⟨rfl,Tt⟩
 (refine gW ?_;intros)
 refine loop_rule hT (S:=Nat) (fun k=>([(1,.d (eReqs m)),(2,.d (.fn (.func 123) [] [])),(15,.d (eReqs l)),(16,dV l.length),(17,dV k)],⟨[],[]⟩)) (fun k=>k<=l.length/\(l=m↔l.drop k=m.drop k)) (fun k=>l.length-k) 0 ?_ ?_ ?_
 .repeat' (first|exact Tt|exact rfl|exact Nat.le_refl _|refine And.intro ?_ ?_)
 .exact⟨Nat.zero_le _,Iff.rfl⟩
 rintro k ⟨hk,hc⟩
 have kc:Kp _:=⟨hc⟩
 clear hc
 by_cases hk2:k<l.length
 case pos =>
  have hkb:k<m.length:=by omega
  skip
  have hP:=kf.h _ (getD_mem hk2) _ (getD_mem hkb)
  by_cases e:l.getD k default=m.getD k default
  case pos =>
   rw[decide_eq_true e]at hP
   have kn:Kp (l=m↔l.drop (k+1)=m.drop (k+1)):=⟨by
    rw[kc.h,drop_at hk2,drop_at hkb,e]
    simp⟩
   clear e
   (refine gW ?_;intros)
   refine hP.call ?_
   (refine gW ?_;intros)
   refine⟨k+1,⟨by show k+1<=l.length;omega,kn.h⟩,by show l.length-(k+1)<l.length-k;omega,?_⟩
   repeat' (first|exact Tt|exact rfl|exact Nat.le_refl _|refine And.intro ?_ ?_)
  case neg =>
   rw[decide_eq_false e]at hP
   rw[decide_eq_false (fun e2=>e (by rw[e2]))]
   clear e
   (refine gW ?_;intros)
   refine hP.call ?_
   (refine gW ?_;intros)
   exact⟨rfl,Tt⟩
 rw[decide_eq_true (kc.h.2 (by rw[drop_end Om,drop_end Om]))]
 (refine gW ?_;intros)
 exact⟨rfl,Tt⟩
theorem eqfPrg_ok (l m:List Prg)(hl:fitL l)(hm:fitL m)(hf:∀x∈l,∀y∈m,Pure Tryz.prog 126 [.agg (ePrg x),.agg (ePrg y),.pt [.fn (.func 123) [] []] 0] [.bool (decide (x=y))]) :
 Pure Tryz.prog 130 [ePrgs l,ePrgs m,.fn (.func 126) [] [.pt [.fn (.func 123) [] []] 0]] [.bool (decide (l=m))]:=by
 have hl:l.length<=9223372036854775807:=hl
 have hm:m.length<=9223372036854775807:=hm
 have kf:Kp _:=⟨hf⟩
 clear hf
 refine pure_rule hT (T:=tab) (N:=32) (rs:=[.tmp 6]) Tryz.func130 rfl rfl rfl Kr rfl ?_
 by_cases q:l.length=m.length
 case neg =>
  rw[decide_eq_false (fun e=>q (by rw[e]))]
  (refine gW ?_;intros)
  exact⟨rfl,Tt⟩
 (refine gW ?_;intros)
 refine loop_rule hT (S:=Nat) (fun k=>([(1,.d (ePrgs m)),(2,.d (.fn (.func 126) [] [.pt [.fn (.func 123) [] []] 0])),(15,.d (ePrgs l)),(16,dV l.length),(17,dV k)],⟨[],[]⟩)) (fun k=>k<=l.length/\(l=m↔l.drop k=m.drop k)) (fun k=>l.length-k) 0 ?_ ?_ ?_
 .repeat' (first|exact Tt|exact rfl|exact Nat.le_refl _|refine And.intro ?_ ?_)
 .exact⟨Nat.zero_le _,Iff.rfl⟩
 rintro k ⟨hk,hc⟩
 have kc:Kp _:=⟨hc⟩
 clear hc
 by_cases hk2:k<l.length
 case pos =>
  have hkb:k<m.length:=by omega
  skip
  have hP:=kf.h _ (getD_mem hk2) _ (getD_mem hkb)
  by_cases e:l.getD k default=m.getD k default
  case pos =>
   rw[decide_eq_true e]at hP
   have kn:Kp (l=m↔l.drop (k+1)=m.drop (k+1)):=⟨by
    rw[kc.h,drop_at hk2,drop_at hkb,e]
    simp⟩
   clear e
   (refine gW ?_;intros)
   refine⟨⟨126,[],[.d (.pt [.fn (.func 123) [] []] 0)],.inr ⟨[],[.pt [.fn (.func 123) [] []] 0],rfl,rfl,rfl⟩,hP.call ?_⟩⟩
   (refine gW ?_;intros)
   refine⟨k+1,⟨by show k+1<=l.length;omega,kn.h⟩,by show l.length-(k+1)<l.length-k;omega,?_⟩
   repeat' (first|exact Tt|exact rfl|exact Nat.le_refl _|refine And.intro ?_ ?_)
  case neg =>
   rw[decide_eq_false e]at hP
   rw[decide_eq_false (fun e2=>e (by rw[e2]))]
   clear e
   (refine gW ?_;intros)
   refine⟨⟨126,[],[.d (.pt [.fn (.func 123) [] []] 0)],.inr ⟨[],[.pt [.fn (.func 123) [] []] 0],rfl,rfl,rfl⟩,hP.call ?_⟩⟩
   (refine gW ?_;intros)
   exact⟨rfl,Tt⟩
 rw[decide_eq_true (kc.h.2 (by rw[drop_end Om,drop_end Om]))]
 (refine gW ?_;intros)
 exact⟨rfl,Tt⟩
theorem eqRule_ok:∀a:Rule,wfR a->∀b:Rule,wfR b->Pure Tryz.prog 122 [.agg (eRule a),.agg (eRule b)] [.bool (decide (a=b))]:=by
 refine rule_ind fun a ih ha b hb=>?_
 obtain⟨ha1,ha2⟩:=wfR_kids ha
 obtain⟨hb1,hb2⟩:=wfR_kids hb
 have hE:=eqfRul_ok a.kids b.kids (Nat.le_of_lt_succ ha1.2.2.2.2) (Nat.le_of_lt_succ hb1.2.2.2.2) fun x hx y hy=>ih x hx (ha2 x hx) y (hb2 y hy)
 clear ih ha hb ha1 ha2 hb1 hb2
 refine pure_rule hT (T:=tab) (N:=45) (rs:=[.tmp 4]) Tryz.func122 rfl rfl rfl Kr rfl ?_
 by_cases q1:a.op=b.op
 case neg =>
  rw[decide_eq_false (fun e=>q1 (by rw[e]))]
  (refine gW ?_;intros)
  all_goals first
   |exact⟨rfl,Tt⟩
   |(refine⟨congrArg D.bool ?_,Tt⟩;simp[q1];done)
   |(exfalso;simp[q1]at h;done)
   |(exfalso;rename_i h1;simp[q1]at h1;done)
 by_cases q2:a.course=b.course
 case neg =>
  rw[decide_eq_false (fun e=>q2 (by rw[e]))]
  (refine gW ?_;intros)
  all_goals first
   |exact⟨rfl,Tt⟩
   |(refine⟨congrArg D.bool ?_,Tt⟩;simp[q2];done)
   |(exfalso;simp[q2]at h;done)
   |(exfalso;rename_i h1;simp[q2]at h1;done)
 by_cases q3:a.name=b.name
 case neg =>
  rw[decide_eq_false (fun e=>q3 (by rw[e]))]
  ((refine xW ?_ ?_)<;>intros)
  all_goals first
   |exact⟨rfl,Tt⟩
   |(refine⟨congrArg D.bool ?_,Tt⟩;simp[q3];done)
   |(exfalso;simp[q3]at h;done)
   |(exfalso;rename_i h1;simp[q3]at h1;done)
 by_cases q4:a.n=b.n
 case neg =>
  rw[decide_eq_false (fun e=>q4 (by rw[e]))]
  (refine gW ?_;intros)
  all_goals first
   |exact⟨rfl,Tt⟩
   |(refine⟨congrArg D.bool ?_,Tt⟩;simp[q4];done)
   |(exfalso;simp[q4]at h;done)
   |(exfalso;rename_i h1;simp[q4]at h1;done)
 by_cases q5:a.d=b.d
 case neg =>
  rw[decide_eq_false (fun e=>q5 (by rw[e]))]
  (refine gW ?_;intros)
  all_goals first
   |exact⟨rfl,Tt⟩
   |(refine⟨congrArg D.bool ?_,Tt⟩;simp[q5];done)
   |(exfalso;simp[q5]at h;done)
   |(exfalso;rename_i h1;simp[q5]at h1;done)
 have hiff:decide (a=b)=decide (a.kids=b.kids):=decide_eq_decide.2 (by rw[rule_eq];simp only[q1,q2,q3,q4,q5,true_and])
 rw[hiff]
 clear hiff
 generalize decide (a.kids=b.kids)=r at hE⊢
 ((refine xW ?_ ?_)<;>intros)
 all_goals try (exfalso;first|(simp[q1,q2,q3,q4,q5]at h;done)|(rename_i h1;simp[q1,q2,q3,q4,q5]at h1;done))
 refine hE.call ?_
 (refine gW ?_;intros)
 exact⟨congrArg D.bool (by simp[q1,q2,q3,q4,q5]),Tt⟩
theorem eqCrs_ok (a b:Crs)(ha:wfCrs a)(hb:wfCrs b):Pure Tryz.prog 121 [.agg (eCrs a),.agg (eCrs b)] [.bool (decide (a=b))]:=by
 have hN:=eqRule_ok a.need ha.1 b.need hb.1
 have hB:=eqRule_ok a.bar ha.2 b.bar hb.2
 refine pure_rule hT (T:=tab) (N:=45) (rs:=[.tmp 4]) Tryz.func121 rfl rfl rfl Kr rfl ?_
 by_cases q1:a.name=b.name
 case neg =>
  rw[decide_eq_false (fun e=>q1 (by rw[e]))]
  ((refine xW ?_ ?_)<;>(intros;try rename_i h))
  all_goals first
   |exact⟨rfl,Tt⟩
   |(refine⟨congrArg D.bool ?_,Tt⟩;simp[q1];done)
   |(exfalso;simp[q1]at h;done)
   |(exfalso;rename_i h1;simp[q1]at h1;done)
 by_cases q2:a.number=b.number
 case neg =>
  rw[decide_eq_false (fun e=>q2 (by rw[e]))]
  repeat' (first|with_reducible refine Sq.go ?_|((with_reducible refine Ev.mk ?_);conv=>whnf)|with_reducible refine Dr.mk ⟨Kr,Kr⟩ ?_|with_reducible refine obG ?_|with_reducible refine Ob.mk ?_ ?_|(with_reducible first|refine brT fun h=>?_|refine brF fun h=>?_|refine Br.mk (fun h=>?_) fun h=>?_)<;>(try simp only[bsl,beq_iff_eq,bne_iff_ne,bs2]at h)<;>(try contradiction)<;>try (exfalso;omega))
  all_goals first
   |exact⟨rfl,Tt⟩
   |(refine⟨congrArg D.bool ?_,Tt⟩;simp[q2];done)
   |(exfalso;simp[q2]at h;done)
   |(exfalso;rename_i h1;simp[q2]at h1;done)
 by_cases q3:a.credits=b.credits
 case neg =>
  rw[decide_eq_false (fun e=>q3 (by rw[e]))]
  repeat' (first|with_reducible refine Sq.go ?_|((with_reducible refine Ev.mk ?_);conv=>whnf)|with_reducible refine Dr.mk ⟨Kr,Kr⟩ ?_|with_reducible refine obG ?_|with_reducible refine Ob.mk ?_ ?_|(with_reducible first|refine brT fun h=>?_|refine brF fun h=>?_|refine Br.mk (fun h=>?_) fun h=>?_)<;>(try simp only[bsl,beq_iff_eq,bne_iff_ne,bs2]at h)<;>(try contradiction)<;>try (exfalso;omega))
  all_goals first
   |exact⟨rfl,Tt⟩
   |(refine⟨congrArg D.bool ?_,Tt⟩;simp[q3];done)
   |(exfalso;simp[q3]at h;done)
   |(exfalso;rename_i h1;simp[q3]at h1;done)
 by_cases q4:a.rep=b.rep
 case neg =>
  rw[decide_eq_false (fun e=>q4 (by rw[e]))]
  repeat' (first|with_reducible refine Sq.go ?_|((with_reducible refine Ev.mk ?_);conv=>whnf)|with_reducible refine Dr.mk ⟨Kr,Kr⟩ ?_|with_reducible refine obG ?_|with_reducible refine Ob.mk ?_ ?_|(with_reducible first|refine brT fun h=>?_|refine brF fun h=>?_|refine Br.mk (fun h=>?_) fun h=>?_)<;>(try simp only[bsl,beq_iff_eq,bne_iff_ne,bs2]at h)<;>(try contradiction)<;>try (exfalso;omega))
  all_goals first
   |exact⟨rfl,Tt⟩
   |(refine⟨congrArg D.bool ?_,Tt⟩;simp[q4];done)
   |(exfalso;simp[q4]at h;done)
   |(exfalso;rename_i h1;simp[q4]at h1;done)
 have hiff:decide (a=b)=(decide (a.need=b.need)&&decide (a.bar=b.bar)):=by rw[<-Bool.decide_and];exact decide_eq_decide.2 (by rw[crs_eq];simp only[q1,q2,q3,q4,true_and])
 rw[hiff]
 clear hiff
 generalize decide (a.need=b.need)=r at hN⊢
 generalize decide (a.bar=b.bar)=s at hB⊢
 cases r
 case false =>
  repeat' (first|with_reducible refine Sq.go ?_|((with_reducible refine Ev.mk ?_);conv=>whnf)|with_reducible refine Dr.mk ⟨Kr,Kr⟩ ?_|with_reducible refine obG ?_|with_reducible refine Ob.mk ?_ ?_|(with_reducible first|refine brT fun h=>?_|refine brF fun h=>?_|refine Br.mk (fun h=>?_) fun h=>?_)<;>(try simp only[bsl,beq_iff_eq,bne_iff_ne,bs2]at h)<;>(try contradiction)<;>try (exfalso;omega))
  all_goals try (exfalso;first|(simp[q1,q2,q3,q4]at h;done)|(rename_i h1;simp[q1,q2,q3,q4]at h1;done))
  refine hN.call ?_
  repeat' (first|with_reducible refine Sq.go ?_|((with_reducible refine Ev.mk ?_);conv=>whnf)|with_reducible refine Dr.mk ⟨Kr,Kr⟩ ?_|with_reducible refine obG ?_|with_reducible refine Ob.mk ?_ ?_|(with_reducible first|refine brT fun h=>?_|refine brF fun h=>?_|refine Br.mk (fun h=>?_) fun h=>?_)<;>(try simp only[bsl,beq_iff_eq,bne_iff_ne,bs2]at h)<;>(try contradiction)<;>try (exfalso;omega))
  exact⟨congrArg D.bool (by simp[q1,q2,q3,q4]),Tt⟩
 case true =>
  repeat' (first|with_reducible refine Sq.go ?_|((with_reducible refine Ev.mk ?_);conv=>whnf)|with_reducible refine Dr.mk ⟨Kr,Kr⟩ ?_|with_reducible refine obG ?_|with_reducible refine Ob.mk ?_ ?_|(with_reducible first|refine brT fun h=>?_|refine brF fun h=>?_|refine Br.mk (fun h=>?_) fun h=>?_)<;>(try simp only[bsl,beq_iff_eq,bne_iff_ne,bs2]at h)<;>(try contradiction)<;>try (exfalso;omega))
  all_goals try (exfalso;first|(simp[q1,q2,q3,q4]at h;done)|(rename_i h1;simp[q1,q2,q3,q4]at h1;done))
  refine hN.call ?_
  repeat' (first|with_reducible refine Sq.go ?_|((with_reducible refine Ev.mk ?_);conv=>whnf)|with_reducible refine Dr.mk ⟨Kr,Kr⟩ ?_|with_reducible refine obG ?_|with_reducible refine Ob.mk ?_ ?_|(with_reducible first|refine brT fun h=>?_|refine brF fun h=>?_|refine Br.mk (fun h=>?_) fun h=>?_)<;>(try simp only[bsl,beq_iff_eq,bne_iff_ne,bs2]at h)<;>(try contradiction)<;>try (exfalso;omega))
  all_goals try (exfalso;first|(simp[q1,q2,q3,q4]at h;done)|(rename_i h1;simp[q1,q2,q3,q4]at h1;done))
  refine hB.call ?_
  repeat' (first|with_reducible refine Sq.go ?_|((with_reducible refine Ev.mk ?_);conv=>whnf)|with_reducible refine Dr.mk ⟨Kr,Kr⟩ ?_|with_reducible refine obG ?_|with_reducible refine Ob.mk ?_ ?_|(with_reducible first|refine brT fun h=>?_|refine brF fun h=>?_|refine Br.mk (fun h=>?_) fun h=>?_)<;>(try simp only[bsl,beq_iff_eq,bne_iff_ne,bs2]at h)<;>(try contradiction)<;>try (exfalso;omega))
  exact⟨congrArg D.bool (by simp[q1,q2,q3,q4]),Tt⟩
theorem eqReq_ok (a b:Req)(ha:wfReq a)(hb:wfReq b):Pure Tryz.prog 123 [.agg (eReq a),.agg (eReq b)] [.bool (decide (a=b))]:=by
 have hN:=eqStr_ok a.names b.names ha.1 hb.1
 have hB:=eqInt_ok a.fr b.fr ha.2 hb.2
 obtain⟨xa,hxa⟩:∃x,a.home=x:=⟨_,rfl⟩
 obtain⟨xb,hxb⟩:∃x,b.home=x:=⟨_,rfl⟩
 rw[eReqH_eq a xa hxa,eReqH_eq b xb hxb]
 refine pure_rule hT (T:=tab) (N:=45) (rs:=[.tmp 4]) Tryz.func123 rfl rfl rfl Kr rfl ?_
 by_cases q1:a.name=b.name
 case neg =>
  rw[decide_eq_false (fun e=>q1 (by rw[e]))]
  ((refine xW ?_ ?_)<;>intros)
  all_goals first
   |exact⟨rfl,Tt⟩
   |(refine⟨congrArg D.bool ?_,Tt⟩;simp[q1];done)
   |(exfalso;simp[q1]at h;done)
   |(exfalso;rename_i h1;simp[q1]at h1;done)
 by_cases q2:a.credits=b.credits
 case neg =>
  rw[decide_eq_false (fun e=>q2 (by rw[e]))]
  repeat' (first|with_reducible refine Sq.go ?_|((with_reducible refine Ev.mk ?_);conv=>whnf)|with_reducible refine Dr.mk ⟨Kr,Kr⟩ ?_|with_reducible refine obG ?_|with_reducible refine Ob.mk ?_ ?_|(with_reducible first|refine brT fun h=>?_|refine brF fun h=>?_|refine Br.mk (fun h=>?_) fun h=>?_)<;>(try simp only[bsl,beq_iff_eq,bne_iff_ne,bs2]at h)<;>(try contradiction)<;>try (exfalso;omega))
  all_goals first
   |exact⟨rfl,Tt⟩
   |(refine⟨congrArg D.bool ?_,Tt⟩;simp[q2];done)
   |(exfalso;simp[q2]at h;done)
   |(exfalso;rename_i h1;simp[q2]at h1;done)
 by_cases q3:a.grade=b.grade
 case neg =>
  rw[decide_eq_false (fun e=>q3 (by rw[e]))]
  repeat' (first|with_reducible refine Sq.go ?_|((with_reducible refine Ev.mk ?_);conv=>whnf)|with_reducible refine Dr.mk ⟨Kr,Kr⟩ ?_|with_reducible refine obG ?_|with_reducible refine Ob.mk ?_ ?_|(with_reducible first|refine brT fun h=>?_|refine brF fun h=>?_|refine Br.mk (fun h=>?_) fun h=>?_)<;>(try simp only[bsl,beq_iff_eq,bne_iff_ne,bs2]at h)<;>(try contradiction)<;>try (exfalso;omega))
  all_goals first
   |exact⟨rfl,Tt⟩
   |(refine⟨congrArg D.bool ?_,Tt⟩;simp[q3];done)
   |(exfalso;simp[q3]at h;done)
   |(exfalso;rename_i h1;simp[q3]at h1;done)
 by_cases q4:xa=xb
 case neg =>
  rw[decide_eq_false (fun e=>q4 (by rw[<-hxa,<-hxb,e]))]
  clear hxa hxb
  cases xa<;>cases xb<;>first|exact absurd rfl q4|skip
  all_goals
   clear q4
   repeat' (first|with_reducible refine Sq.go ?_|((with_reducible refine Ev.mk ?_);conv=>whnf)|with_reducible refine Dr.mk ⟨Kr,Kr⟩ ?_|with_reducible refine obH ?_|with_reducible refine Ob.mk ?_ ?_|(with_reducible first|refine brU fun h=>?_|refine brV fun h=>?_|refine Br.mk (fun h=>?_) fun h=>?_)<;>(try simp only[bsl,beq_iff_eq,bne_iff_ne,bs2,bbq]at h)<;>(try contradiction)<;>try (exfalso;omega))
  all_goals first
   |exact⟨rfl,Tt⟩
   |(refine⟨congrArg D.bool ?_,Tt⟩;simp[q1,q2,q3];done)
   |(exfalso;simp[q1,q2,q3]at h;done)
 subst q4
 have hiff:decide (a=b)=(decide (a.names=b.names)&&decide (a.fr=b.fr)):=by rw[<-Bool.decide_and];exact decide_eq_decide.2 (by rw[req_eq];simp only[q1,q2,q3,hxa,hxb,true_and])
 rw[hiff]
 clear hiff hxa hxb
 generalize decide (a.names=b.names)=r at hN⊢
 generalize decide (a.fr=b.fr)=s at hB⊢
 cases xa
 case false =>
  cases r
  case false =>
   repeat' (first|with_reducible refine Sq.go ?_|((with_reducible refine Ev.mk ?_);conv=>whnf)|with_reducible refine Dr.mk ⟨Kr,Kr⟩ ?_|with_reducible refine obH ?_|with_reducible refine Ob.mk ?_ ?_|(with_reducible first|refine brU fun h=>?_|refine brV fun h=>?_|refine Br.mk (fun h=>?_) fun h=>?_)<;>(try simp only[bsl,beq_iff_eq,bne_iff_ne,bs2,bbq]at h)<;>(try contradiction)<;>try (exfalso;omega))
   all_goals try (exfalso;first|(simp[q1,q2,q3]at h;done)|(rename_i h1;simp[q1,q2,q3]at h1;done))
   refine hN.call ?_
   repeat' (first|with_reducible refine Sq.go ?_|((with_reducible refine Ev.mk ?_);conv=>whnf)|with_reducible refine Dr.mk ⟨Kr,Kr⟩ ?_|with_reducible refine obH ?_|with_reducible refine Ob.mk ?_ ?_|(with_reducible first|refine brU fun h=>?_|refine brV fun h=>?_|refine Br.mk (fun h=>?_) fun h=>?_)<;>(try simp only[bsl,beq_iff_eq,bne_iff_ne,bs2,bbq]at h)<;>(try contradiction)<;>try (exfalso;omega))
   exact⟨congrArg D.bool (by simp[q1,q2,q3]),Tt⟩
  case true =>
   repeat' (first|with_reducible refine Sq.go ?_|((with_reducible refine Ev.mk ?_);conv=>whnf)|with_reducible refine Dr.mk ⟨Kr,Kr⟩ ?_|with_reducible refine obH ?_|with_reducible refine Ob.mk ?_ ?_|(with_reducible first|refine brU fun h=>?_|refine brV fun h=>?_|refine Br.mk (fun h=>?_) fun h=>?_)<;>(try simp only[bsl,beq_iff_eq,bne_iff_ne,bs2,bbq]at h)<;>(try contradiction)<;>try (exfalso;omega))
   all_goals try (exfalso;first|(simp[q1,q2,q3]at h;done)|(rename_i h1;simp[q1,q2,q3]at h1;done))
   refine hN.call ?_
   repeat' (first|with_reducible refine Sq.go ?_|((with_reducible refine Ev.mk ?_);conv=>whnf)|with_reducible refine Dr.mk ⟨Kr,Kr⟩ ?_|with_reducible refine obH ?_|with_reducible refine Ob.mk ?_ ?_|(with_reducible first|refine brU fun h=>?_|refine brV fun h=>?_|refine Br.mk (fun h=>?_) fun h=>?_)<;>(try simp only[bsl,beq_iff_eq,bne_iff_ne,bs2,bbq]at h)<;>(try contradiction)<;>try (exfalso;omega))
   all_goals try (exfalso;first|(simp[q1,q2,q3]at h;done)|(rename_i h1;simp[q1,q2,q3]at h1;done))
   refine hB.call ?_
   repeat' (first|with_reducible refine Sq.go ?_|((with_reducible refine Ev.mk ?_);conv=>whnf)|with_reducible refine Dr.mk ⟨Kr,Kr⟩ ?_|with_reducible refine obH ?_|with_reducible refine Ob.mk ?_ ?_|(with_reducible first|refine brU fun h=>?_|refine brV fun h=>?_|refine Br.mk (fun h=>?_) fun h=>?_)<;>(try simp only[bsl,beq_iff_eq,bne_iff_ne,bs2,bbq]at h)<;>(try contradiction)<;>try (exfalso;omega))
   exact⟨congrArg D.bool (by simp[q1,q2,q3]),Tt⟩
 case true =>
  cases r
  case false =>
   repeat' (first|with_reducible refine Sq.go ?_|((with_reducible refine Ev.mk ?_);conv=>whnf)|with_reducible refine Dr.mk ⟨Kr,Kr⟩ ?_|with_reducible refine obH ?_|with_reducible refine Ob.mk ?_ ?_|(with_reducible first|refine brU fun h=>?_|refine brV fun h=>?_|refine Br.mk (fun h=>?_) fun h=>?_)<;>(try simp only[bsl,beq_iff_eq,bne_iff_ne,bs2,bbq]at h)<;>(try contradiction)<;>try (exfalso;omega))
   all_goals try (exfalso;first|(simp[q1,q2,q3]at h;done)|(rename_i h1;simp[q1,q2,q3]at h1;done))
   refine hN.call ?_
   repeat' (first|with_reducible refine Sq.go ?_|((with_reducible refine Ev.mk ?_);conv=>whnf)|with_reducible refine Dr.mk ⟨Kr,Kr⟩ ?_|with_reducible refine obH ?_|with_reducible refine Ob.mk ?_ ?_|(with_reducible first|refine brU fun h=>?_|refine brV fun h=>?_|refine Br.mk (fun h=>?_) fun h=>?_)<;>(try simp only[bsl,beq_iff_eq,bne_iff_ne,bs2,bbq]at h)<;>(try contradiction)<;>try (exfalso;omega))
   exact⟨congrArg D.bool (by simp[q1,q2,q3]),Tt⟩
  case true =>
   repeat' (first|with_reducible refine Sq.go ?_|((with_reducible refine Ev.mk ?_);conv=>whnf)|with_reducible refine Dr.mk ⟨Kr,Kr⟩ ?_|with_reducible refine obH ?_|with_reducible refine Ob.mk ?_ ?_|(with_reducible first|refine brU fun h=>?_|refine brV fun h=>?_|refine Br.mk (fun h=>?_) fun h=>?_)<;>(try simp only[bsl,beq_iff_eq,bne_iff_ne,bs2,bbq]at h)<;>(try contradiction)<;>try (exfalso;omega))
   all_goals try (exfalso;first|(simp[q1,q2,q3]at h;done)|(rename_i h1;simp[q1,q2,q3]at h1;done))
   refine hN.call ?_
   repeat' (first|with_reducible refine Sq.go ?_|((with_reducible refine Ev.mk ?_);conv=>whnf)|with_reducible refine Dr.mk ⟨Kr,Kr⟩ ?_|with_reducible refine obH ?_|with_reducible refine Ob.mk ?_ ?_|(with_reducible first|refine brU fun h=>?_|refine brV fun h=>?_|refine Br.mk (fun h=>?_) fun h=>?_)<;>(try simp only[bsl,beq_iff_eq,bne_iff_ne,bs2,bbq]at h)<;>(try contradiction)<;>try (exfalso;omega))
   all_goals try (exfalso;first|(simp[q1,q2,q3]at h;done)|(rename_i h1;simp[q1,q2,q3]at h1;done))
   refine hB.call ?_
   repeat' (first|with_reducible refine Sq.go ?_|((with_reducible refine Ev.mk ?_);conv=>whnf)|with_reducible refine Dr.mk ⟨Kr,Kr⟩ ?_|with_reducible refine obH ?_|with_reducible refine Ob.mk ?_ ?_|(with_reducible first|refine brU fun h=>?_|refine brV fun h=>?_|refine Br.mk (fun h=>?_) fun h=>?_)<;>(try simp only[bsl,beq_iff_eq,bne_iff_ne,bs2,bbq]at h)<;>(try contradiction)<;>try (exfalso;omega))
   exact⟨congrArg D.bool (by simp[q1,q2,q3]),Tt⟩
theorem eqPrg_ok (a b:Prg)(ha:wfPrg2 a)(hb:wfPrg2 b):Pure Tryz.prog 126 [.agg (ePrg a),.agg (ePrg b),.pt [.fn (.func 123) [] []] 0] [.bool (decide (a=b))]:=by
 have hN:=eqfReq_ok a.reqs b.reqs ha.1 hb.1 fun x hx y hy=>eqReq_ok x y (ha.2 x hx) (hb.2 y hy)
 refine pure_rule hT (T:=tab) (N:=47) (rs:=[.tmp 5]) Tryz.func126 rfl rfl rfl Kr rfl ?_
 by_cases q1:a.name=b.name
 case neg =>
  rw[decide_eq_false (fun e=>q1 (by rw[e]))]
  ((refine xW ?_ ?_)<;>intros)
  all_goals first
   |exact⟨rfl,Tt⟩
   |(refine⟨congrArg D.bool ?_,Tt⟩;simp[q1];done)
   |(exfalso;simp[q1]at h;done)
   |(exfalso;rename_i h1;simp[q1]at h1;done)
 by_cases q2:a.number=b.number
 case neg =>
  rw[decide_eq_false (fun e=>q2 (by rw[e]))]
  (refine gW ?_;intros)
  all_goals first
   |exact⟨rfl,Tt⟩
   |(refine⟨congrArg D.bool ?_,Tt⟩;simp[q2];done)
   |(exfalso;simp[q2]at h;done)
   |(exfalso;rename_i h1;simp[q2]at h1;done)
 by_cases q3:a.uses=b.uses
 case neg =>
  rw[decide_eq_false (fun e=>q3 (by rw[e]))]
  (refine gW ?_;intros)
  all_goals first
   |exact⟨rfl,Tt⟩
   |(refine⟨congrArg D.bool ?_,Tt⟩;simp[q3];done)
   |(exfalso;simp[q3]at h;done)
   |(exfalso;rename_i h1;simp[q3]at h1;done)
 by_cases q4:a.earn=b.earn
 case neg =>
  rw[decide_eq_false (fun e=>q4 (by rw[e]))]
  (refine gW ?_;intros)
  all_goals first
   |exact⟨rfl,Tt⟩
   |(refine⟨congrArg D.bool ?_,Tt⟩;simp[q4];done)
   |(exfalso;simp[q4]at h;done)
   |(exfalso;rename_i h1;simp[q4]at h1;done)
 by_cases q5:a.mn=b.mn
 case neg =>
  rw[decide_eq_false (fun e=>q5 (by rw[e]))]
  (refine gW ?_;intros)
  all_goals first
   |exact⟨rfl,Tt⟩
   |(refine⟨congrArg D.bool ?_,Tt⟩;simp[q5];done)
   |(exfalso;simp[q5]at h;done)
   |(exfalso;rename_i h1;simp[q5]at h1;done)
 by_cases q6:a.md=b.md
 case neg =>
  rw[decide_eq_false (fun e=>q6 (by rw[e]))]
  (refine gW ?_;intros)
  all_goals first
   |exact⟨rfl,Tt⟩
   |(refine⟨congrArg D.bool ?_,Tt⟩;simp[q6];done)
   |(exfalso;simp[q6]at h;done)
   |(exfalso;rename_i h1;simp[q6]at h1;done)
 have hiff:decide (a=b)=decide (a.reqs=b.reqs):=decide_eq_decide.2 (by rw[prg_eq];simp only[q1,q2,q3,q4,q5,q6,true_and,and_self])
 rw[hiff]
 clear hiff
 generalize decide (a.reqs=b.reqs)=r at hN⊢
 ((refine xW ?_ ?_)<;>intros)
 all_goals try (exfalso;first|(simp[q1,q2,q3,q4,q5,q6]at h;done)|(rename_i h1;simp[q1,q2,q3,q4,q5,q6]at h1;done))
 refine hN.call ?_
 (refine gW ?_;intros)
 exact⟨congrArg D.bool (by simp[q1,q2,q3,q4,q5,q6]),Tt⟩
structure CatE (c:Cat):Prop where
 crs:fitL c.crs
 wcrs:∀x∈c.crs,wfCrs x
 same:fitL c.same
 prg:fitL c.prg
 wprg:∀x∈c.prg,wfPrg2 x
 classes:fitL c.classes
 fees:fitL c.fees
 honours:fitL c.honours
 clauses:fitL c.clauses
noncomputable instance:DecidableEq Cat:=fun _ _=>Classical.propDecidable _
theorem cat_eq (a b:Cat):a=b↔a.crs=b.crs/\a.same=b.same/\a.prg=b.prg/\a.classes=b.classes/\a.fees=b.fees/\a.honours=b.honours/\a.clauses=b.clauses:=by
 cases a;cases b
 simp only[Cat.mk.injEq]
theorem same_ok (a b:Cat)(ha:CatE a)(hb:CatE b):Pure Tryz.prog 75 [.agg (eCat a),.agg (eCat b)] [.bool (decide (a=b))]:=by
 have hE1:=eqfCrs_ok a.crs b.crs ha.crs hb.crs fun x hx y hy=>eqCrs_ok x y (ha.wcrs x hx) (hb.wcrs y hy)
 have hE2:=eqPai_ok a.same b.same ha.same hb.same
 have hE3:=eqfPrg_ok a.prg b.prg ha.prg hb.prg fun x hx y hy=>eqPrg_ok x y (ha.wprg x hx) (hb.wprg y hy)
 have hE4:=eqCls_ok a.classes b.classes ha.classes hb.classes
 have hE5:=eqFee_ok a.fees b.fees ha.fees hb.fees
 have hE6:=eqCls_ok a.honours b.honours ha.honours hb.honours
 have hE7:=eqCla_ok a.clauses b.clauses ha.clauses hb.clauses
 have hiff:decide (a=b)=(decide (a.crs=b.crs)&&(decide (a.same=b.same)&&(decide (a.prg=b.prg)&&(decide (a.classes=b.classes)&&(decide (a.fees=b.fees)&&(decide (a.honours=b.honours)&&decide (a.clauses=b.clauses))))))):=by
  simp only[<-Bool.decide_and]
  exact decide_eq_decide.2 (cat_eq a b)
 rw[hiff]
 clear hiff ha hb
 generalize decide (a.crs=b.crs)=b1 at hE1⊢
 generalize decide (a.same=b.same)=b2 at hE2⊢
 generalize decide (a.prg=b.prg)=b3 at hE3⊢
 generalize decide (a.classes=b.classes)=b4 at hE4⊢
 generalize decide (a.fees=b.fees)=b5 at hE5⊢
 generalize decide (a.honours=b.honours)=b6 at hE6⊢
 generalize decide (a.clauses=b.clauses)=b7 at hE7⊢
 refine pure_rule hT (T:=tab) (N:=58) (rs:=[.tmp 4]) Tryz.func75 rfl rfl rfl Kr rfl ?_
 cases b1
 case false =>
  (refine gW ?_;intros)
  refine hE1.call ?_
  (refine gW ?_;intros)
  exact⟨rfl,Tt⟩
 cases b2
 case false =>
  (refine gW ?_;intros)
  refine hE1.call ?_
  (refine gW ?_;intros)
  refine hE2.call ?_
  (refine gW ?_;intros)
  exact⟨rfl,Tt⟩
 cases b3
 case false =>
  (refine gW ?_;intros)
  refine hE1.call ?_
  (refine gW ?_;intros)
  refine hE2.call ?_
  (refine gW ?_;intros)
  refine hE3.loan rfl ⟨.d,.d,.fn' Tt ⟨.ptr' rfl ⟨.d,Tt⟩,Tt⟩,Tt⟩ ?_
  (refine gW ?_;intros)
  exact⟨rfl,Tt⟩
 cases b4
 case false =>
  (refine gW ?_;intros)
  refine hE1.call ?_
  (refine gW ?_;intros)
  refine hE2.call ?_
  (refine gW ?_;intros)
  refine hE3.loan rfl ⟨.d,.d,.fn' Tt ⟨.ptr' rfl ⟨.d,Tt⟩,Tt⟩,Tt⟩ ?_
  (refine gW ?_;intros)
  refine hE4.call ?_
  (refine gW ?_;intros)
  exact⟨rfl,Tt⟩
 cases b5
 case false =>
  (refine gW ?_;intros)
  refine hE1.call ?_
  (refine gW ?_;intros)
  refine hE2.call ?_
  (refine gW ?_;intros)
  refine hE3.loan rfl ⟨.d,.d,.fn' Tt ⟨.ptr' rfl ⟨.d,Tt⟩,Tt⟩,Tt⟩ ?_
  (refine gW ?_;intros)
  refine hE4.call ?_
  (refine gW ?_;intros)
  refine hE5.call ?_
  (refine gW ?_;intros)
  exact⟨rfl,Tt⟩
 cases b6
 case false =>
  (refine gW ?_;intros)
  refine hE1.call ?_
  (refine gW ?_;intros)
  refine hE2.call ?_
  (refine gW ?_;intros)
  refine hE3.loan rfl ⟨.d,.d,.fn' Tt ⟨.ptr' rfl ⟨.d,Tt⟩,Tt⟩,Tt⟩ ?_
  (refine gW ?_;intros)
  refine hE4.call ?_
  (refine gW ?_;intros)
  refine hE5.call ?_
  (refine gW ?_;intros)
  refine hE6.call ?_
  (refine gW ?_;intros)
  exact⟨rfl,Tt⟩
 (refine gW ?_;intros)
 refine hE1.call ?_
 (refine gW ?_;intros)
 refine hE2.call ?_
 (refine gW ?_;intros)
 refine hE3.loan rfl ⟨.d,.d,.fn' Tt ⟨.ptr' rfl ⟨.d,Tt⟩,Tt⟩,Tt⟩ ?_
 (refine gW ?_;intros)
 refine hE4.call ?_
 (refine gW ?_;intros)
 refine hE5.call ?_
 (refine gW ?_;intros)
 refine hE6.call ?_
 (refine gW ?_;intros)
 refine hE7.call ?_
 (refine gW ?_;intros)
 exact⟨rfl,Tt⟩
theorem pairB_ok (p:Pai):Pure Tryz.prog 73 [.agg (ePai p)] [.bool (pairB p)]:=by
 unfold pairB
 have hX:=in_ok p.x 0 4095
 have hY:=in_ok p.y 0 4095
 refine pure_rule hT (T:=tab) (N:=11) (rs:=[.tmp 2]) Tryz.func73 rfl rfl rfl Kr rfl ?_
 cases h:bw p.x 0 4095<;>rw[h]at hX
 ·(refine gW ?_;intros)
  refine hX.call ?_
  (refine gW ?_;intros)
  exact⟨rfl,Tt⟩
 ·(refine gW ?_;intros)
  refine hX.call ?_
  (refine gW ?_;intros)
  refine hY.call ?_
  (refine gW ?_;intros)
  exact⟨rfl,Tt⟩
noncomputable def insE (b:Bok)(c:Cat)(fr til kn:Int):Int :=
 if chkB b=0 then(if resE c=0 then(if(decide (c=resC c)&&(c.same.all pairB&&(decide (chkB ⟨c.crs,c.prg,[sysC c]⟩=0)&&spnOk fr til kn)))=true then 0 else 140) else resE c) else chkB b
noncomputable def insRes (b:Bok)(c:Cat)(fr til kn:Int):List D:=if insE b c fr til kn=0 then[.agg (eBok (insB b c)),eFcts (insF b c fr til kn),di 0] else[.agg (eBok bokZ),.nils,di (insE b c fr til kn)]
theorem install_ok (b:Bok)(c:Cat)(fr til kn:Int)(hwb:wfBok b)(hwc:wfBok ⟨c.crs,c.prg,[sysC c]⟩)(hF:CatF c)(hE:CatE c)(hE2:CatE (resC c))(h1:b.crs.length<=100)(h2:c.crs.length<=100)(h3:b.prg.length<=100)(h4:c.prg.length<=100)(h5:b.sys.length<=100)(h6:c.same.length<=100) :
 Pure Tryz.prog 15 [.agg (eBok b),.agg (eCat c),.agg [di fr,di til],di kn] (insRes b c fr til kn):=by
 have hB:=bcheck_ok b hwb
 have hR:=resolveG_ok c hF
 have hM:=same_ok c (resC c) hE hE2
 have hP:=allPai_ok c.same hE.same 73 pairB fun p h=>pairB_ok p
 have hC:=bcheck_ok _ hwc
 have hI:=in_ok kn 1 16777216
 have hL:=insLoops b c fr til kn h1 h2 h3 h4 h5 h6
 clear hwb hwc hF hE hE2
 unfold insRes insE
 by_cases e1:chkB b=0
 case neg =>
  simp only[if_neg e1]
  generalize chkB b=e at hB e1⊢
  refine pure_ruleC hT (T:=tab) (N:=211) (rs:=insR) Tryz.func15 rfl rfl rfl Kr rfl ?_
  (refine gW ?_;intros)
  refine hB.call ?_
  (refine gW ?_;intros)
  refine⟨?_,.d,.d,Tt⟩
  conv=>whnf
  exact .eq (y:=.agg [.nils,.nils,.nils]) (.inr ⟨rfl,rfl,rfl,Tt⟩)
 simp only[if_pos e1]
 rw[e1]at hB
 by_cases e2:resE c=0
 case neg =>
  simp only[if_neg e2]
  generalize resE c=e at hR e2⊢
  refine pure_ruleC hT (T:=tab) (N:=211) (rs:=insR) Tryz.func15 rfl rfl rfl Kr rfl ?_
  (refine gW ?_;intros)
  refine hB.call ?_
  (refine gW ?_;intros)
  refine hR.call ?_
  (refine gW ?_;intros)
  refine⟨?_,.d,.d,Tt⟩
  conv=>whnf
  exact .eq (y:=.agg [.nils,.nils,.nils]) (.inr ⟨rfl,rfl,rfl,Tt⟩)
 simp only[if_pos e2]
 have hv:resV c=resC c:=if_pos e2
 rw[hv,e2]at hR
 rw[hv]at hL
 generalize decide (c=resC c)=u1 at hM⊢
 generalize c.same.all pairB=u2 at hP⊢
 cases u1
 case false =>
  refine pure_ruleC hT (T:=tab) (N:=211) (rs:=insR) Tryz.func15 rfl rfl rfl Kr rfl ?_
  (refine gW ?_;intros)
  refine hB.call ?_
  (refine gW ?_;intros)
  refine hR.call ?_
  (refine gW ?_;intros)
  refine hM.call ?_
  (refine gW ?_;intros)
  refine⟨?_,.d,.d,Tt⟩
  conv=>whnf
  exact .eq (y:=.agg [.nils,.nils,.nils]) (.inr ⟨rfl,rfl,rfl,Tt⟩)
 cases u2
 case false =>
  refine pure_ruleC hT (T:=tab) (N:=211) (rs:=insR) Tryz.func15 rfl rfl rfl Kr rfl ?_
  (refine gW ?_;intros)
  refine hB.call ?_
  (refine gW ?_;intros)
  refine hR.call ?_
  (refine gW ?_;intros)
  refine hM.call ?_
  (refine gW ?_;intros)
  refine hP.call ?_
  (refine gW ?_;intros)
  refine⟨?_,.d,.d,Tt⟩
  conv=>whnf
  exact .eq (y:=.agg [.nils,.nils,.nils]) (.inr ⟨rfl,rfl,rfl,Tt⟩)
 simp only[Bool.true_and]
 by_cases e3:chkB ⟨c.crs,c.prg,[sysC c]⟩=0
 case neg =>
  rw[decide_eq_false e3,Bool.false_and]
  generalize chkB ⟨c.crs,c.prg,[sysC c]⟩=v at hC e3
  refine pure_ruleC hT (T:=tab) (N:=211) (rs:=insR) Tryz.func15 rfl rfl rfl Kr rfl ?_
  (refine gW ?_;intros)
  refine hB.call ?_
  (refine gW ?_;intros)
  refine hR.call ?_
  (refine gW ?_;intros)
  refine hM.call ?_
  (refine gW ?_;intros)
  refine hP.call ?_
  (refine gW ?_;intros)
  refine hC.loan rfl ⟨.agg' ⟨.d,.d,.rows rfl (Nat.le_refl _) (fun i hi=>by rw[show i=0 from Nat.lt_one_iff.1 hi];rfl),Tt⟩,Tt⟩ ?_
  (refine gW ?_;intros)
  refine⟨?_,.d,.d,Tt⟩
  conv=>whnf
  exact .eq (y:=.agg [.nils,.nils,.nils]) (.inr ⟨rfl,rfl,rfl,Tt⟩)
 rw[decide_eq_true e3,Bool.true_and]
 rw[e3]at hC
 clear e1 e2 e3 hv
 unfold spnOk
 by_cases s1:0<=fr
 case neg =>
  rw[decide_eq_false s1,Bool.false_and]
  refine pure_ruleC hT (T:=tab) (N:=211) (rs:=insR) Tryz.func15 rfl rfl rfl Kr rfl ?_
  (refine gW ?_;intros)
  refine hB.call ?_
  (refine gW ?_;intros)
  refine hR.call ?_
  (refine gW ?_;intros)
  refine hM.call ?_
  (refine gW ?_;intros)
  refine hP.call ?_
  (refine gW ?_;intros)
  refine hC.loan rfl ⟨.agg' ⟨.d,.d,.rows rfl (Nat.le_refl _) (fun i hi=>by rw[show i=0 from Nat.lt_one_iff.1 hi];rfl),Tt⟩,Tt⟩ ?_
  (refine gW ?_;intros)
  refine⟨?_,.d,.d,Tt⟩
  conv=>whnf
  exact .eq (y:=.agg [.nils,.nils,.nils]) (.inr ⟨rfl,rfl,rfl,Tt⟩)
 by_cases s2:fr<til
 case neg =>
  rw[decide_eq_true s1,decide_eq_false s2,Bool.false_and,Bool.true_and]
  refine pure_ruleC hT (T:=tab) (N:=211) (rs:=insR) Tryz.func15 rfl rfl rfl Kr rfl ?_
  (refine gW ?_;intros)
  refine hB.call ?_
  (refine gW ?_;intros)
  refine hR.call ?_
  (refine gW ?_;intros)
  refine hM.call ?_
  (refine gW ?_;intros)
  refine hP.call ?_
  (refine gW ?_;intros)
  refine hC.loan rfl ⟨.agg' ⟨.d,.d,.rows rfl (Nat.le_refl _) (fun i hi=>by rw[show i=0 from Nat.lt_one_iff.1 hi];rfl),Tt⟩,Tt⟩ ?_
  (refine gW ?_;intros)
  refine⟨?_,.d,.d,Tt⟩
  conv=>whnf
  exact .eq (y:=.agg [.nils,.nils,.nils]) (.inr ⟨rfl,rfl,rfl,Tt⟩)
 by_cases s3:til<=1024
 case neg =>
  rw[decide_eq_true s1,decide_eq_true s2,decide_eq_false s3,Bool.false_and,Bool.true_and,Bool.true_and]
  refine pure_ruleC hT (T:=tab) (N:=211) (rs:=insR) Tryz.func15 rfl rfl rfl Kr rfl ?_
  (refine gW ?_;intros)
  refine hB.call ?_
  (refine gW ?_;intros)
  refine hR.call ?_
  (refine gW ?_;intros)
  refine hM.call ?_
  (refine gW ?_;intros)
  refine hP.call ?_
  (refine gW ?_;intros)
  refine hC.loan rfl ⟨.agg' ⟨.d,.d,.rows rfl (Nat.le_refl _) (fun i hi=>by rw[show i=0 from Nat.lt_one_iff.1 hi];rfl),Tt⟩,Tt⟩ ?_
  (refine gW ?_;intros)
  refine⟨?_,.d,.d,Tt⟩
  conv=>whnf
  exact .eq (y:=.agg [.nils,.nils,.nils]) (.inr ⟨rfl,rfl,rfl,Tt⟩)
 rw[decide_eq_true s1,decide_eq_true s2,decide_eq_true s3,Bool.true_and,Bool.true_and,Bool.true_and]
 generalize bw kn 1 16777216=u5 at hI⊢
 cases u5
 case false =>
  refine pure_ruleC hT (T:=tab) (N:=211) (rs:=insR) Tryz.func15 rfl rfl rfl Kr rfl ?_
  (refine gW ?_;intros)
  refine hB.call ?_
  (refine gW ?_;intros)
  refine hR.call ?_
  (refine gW ?_;intros)
  refine hM.call ?_
  (refine gW ?_;intros)
  refine hP.call ?_
  (refine gW ?_;intros)
  refine hC.loan rfl ⟨.agg' ⟨.d,.d,.rows rfl (Nat.le_refl _) (fun i hi=>by rw[show i=0 from Nat.lt_one_iff.1 hi];rfl),Tt⟩,Tt⟩ ?_
  (refine gW ?_;intros)
  refine hI.call ?_
  (refine gW ?_;intros)
  refine⟨?_,.d,.d,Tt⟩
  conv=>whnf
  exact .eq (y:=.agg [.nils,.nils,.nils]) (.inr ⟨rfl,rfl,rfl,Tt⟩)
 simp only[if_true,if_pos]
 refine pure_ruleC hT (T:=tab) (N:=211) (rs:=insR) Tryz.func15 rfl rfl rfl Kr rfl ?_
 (refine gW ?_;intros)
 refine hB.call ?_
 (refine gW ?_;intros)
 refine hR.call ?_
 (refine gW ?_;intros)
 refine hM.call ?_
 (refine gW ?_;intros)
 refine hP.call ?_
 (refine gW ?_;intros)
 refine hC.loan rfl ⟨.agg' ⟨.d,.d,.rows rfl (Nat.le_refl _) (fun i hi=>by rw[show i=0 from Nat.lt_one_iff.1 hi];rfl),Tt⟩,Tt⟩ ?_
 (refine gW ?_;intros)
 refine hI.call ?_
 (refine gS ?_;intros)
 refine Sq.go ?_;(refine gS ?_;intros)
 refine Sq.go ?_;(refine gS ?_;intros)
 refine Sq.alt (Awp.vecCell (.loc 7) 3 144 94 8 [dV fr,dV til,dV kn,.d .nils] (rowsOf eFct []) rfl rfl (Awp.le (env':=[(4,lp 0),(5,lp 1),(8,lp 3),(13,lp 5),(15,lp 7)]) (m':=⟨[bX 26 (up (eBok b)),bX 32 (up (eCat c)),bX 34 (up [di fr,di til]),bX 26 (up [.nils,.nils,.nils]),bX 32 (up (eCat (resC c))),bX 83 (up (eSys (sysC c))),bV 83 4 0 1 (rowFn [up (eSys (sysC c))]),bX 144 [dV fr,dV til,dV kn,.osl (.loc 8) 0 0 (([]:List Fct)).length],bV 94 8 0 (([]:List Fct)).length (rowsOf eFct (([]:List Fct)))],[]⟩) ?_ hL))
 repeat' (first|exact Tt|exact rfl|exact Nat.le_refl _|refine And.intro ?_ ?_)
 all_goals first
  |(intro i hi;exact⟨rfl,rfl⟩)
  |(intro i hi;exact absurd hi (Nat.not_lt_zero i))
end Go.Proofs.YtmlhghddfobmmaaGreatDoor
