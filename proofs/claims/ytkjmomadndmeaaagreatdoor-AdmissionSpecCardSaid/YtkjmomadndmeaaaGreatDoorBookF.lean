import Derived.Test.YtkjmomadndmeaaaGreatDoorRuleE
namespace Go.Proofs.YtkjmomadndmeaaaGreatDoor
set_option linter.unusedSimpArgs false
set_option linter.unusedVariables false
open Go Go.Ab
set_option maxRecDepth 100000
set_option maxHeartbeats 0
structure Crs where
 name:ByteArray
 number:Int
 credits:Int
 rep:Int
 need:Rule
 bar:Rule
 deriving Inhabited
def eCrs (c:Crs):List D:=[.str c.name,di c.number,di c.credits,di c.rep,di c.need.op,di c.need.course,.str c.need.name,di c.need.n,di c.need.d,eRules c.need.kids,
 di c.bar.op,di c.bar.course,.str c.bar.name,di c.bar.n,di c.bar.d,eRules c.bar.kids]
def eCrss (xs:List Crs):D:=.sl 16 xs.length fun i=>eCrs (xs.getD i default)
def eStrs (xs:List ByteArray):D:=.sl 1 xs.length fun i=>[.str (xs.getD i default)]
structure Req where
 name:ByteArray
 credits:Int
 grade:Int
 home:Bool
 names:List ByteArray
 fr:List Int
 deriving Inhabited
def eReq (q:Req):List D:=[.str q.name,di q.credits,di q.grade,.bool q.home,eStrs q.names,eInts q.fr]
def eReqs (xs:List Req):D:=.sl 6 xs.length fun i=>eReq (xs.getD i default)
structure Prg where
 name:ByteArray
 number:Int
 uses:Int
 earn:Int
 mn:Int
 md:Int
 reqs:List Req
 deriving Inhabited
def ePrg (p:Prg):List D:=[.str p.name,di p.number,di p.uses,di p.earn,di p.mn,di p.md,eReqs p.reqs]
def ePrgs (xs:List Prg):D:=.sl 7 xs.length fun i=>ePrg (xs.getD i default)
structure Cls where
 name:ByteArray
 earn:Int
 mn:Int
 md:Int
 deriving Inhabited
def eCls (x:Cls):List D:=[.str x.name,di x.earn,di x.mn,di x.md]
def eClss (xs:List Cls):D:=.sl 4 xs.length fun i=>eCls (xs.getD i default)
structure Fee where
 name:ByteArray
 credits:Int
 deriving Inhabited
def eFee (x:Fee):List D:=[.str x.name,di x.credits]
def eFees (xs:List Fee):D:=.sl 2 xs.length fun i=>eFee (xs.getD i default)
structure Cla where
 kind:Int
 whn:Int
 action:Int
 til:Int
 deriving Inhabited
def eCla (x:Cla):List D:=[di x.kind,di x.whn,di x.action,di x.til]
def eClas (xs:List Cla):D:=.sl 4 xs.length fun i=>eCla (xs.getD i default)
structure Sys where
 classes:List Cls
 fees:List Fee
 honours:List Cls
 clauses:List Cla
 deriving Inhabited
def eSys (s:Sys):List D:=[eClss s.classes,eFees s.fees,eClss s.honours,eClas s.clauses]
def eSyss (xs:List Sys):D:=.sl 4 xs.length fun i=>eSys (xs.getD i default)
structure Pai where
 a:ByteArray
 b:ByteArray
 x:Int
 y:Int
 deriving Inhabited
structure Fct where
 kind:Int
 subject:Int
 object:Int
 value:Int
 fr:Int
 til:Int
 known:Int
 no:Int
 deriving Inhabited,DecidableEq
def eFct (f:Fct):List D:=[di f.kind,di f.subject,di f.object,di f.value,di f.fr,di f.til,di f.known,di f.no]
def eFcts (xs:List Fct):D:=.sl 8 xs.length fun i=>eFct (xs.getD i default)
structure Red where
 kind:Int
 subject:Int
 object:Int
 fr:Int
 til:Int
 deriving Inhabited,DecidableEq
def eRed (r:Red):List D:=[di r.kind,di r.subject,di r.object,di r.fr,di r.til]
def eReds (xs:List Red):D:=.sl 5 xs.length fun i=>eRed (xs.getD i default)
def fitL {α:Type}(xs:List α):Prop:=xs.length<=9223372036854775807
theorem in_ok (n lo hi:Int):Pure Tryz.prog 99 [di n,di lo,di hi] [.bool (bw n lo hi)]:=by
 refine pure_rule hT (T:=tab) (N:=15) (rs:=[.tmp 6]) Tryz.func99 rfl rfl rfl Kr rfl ?_
 by_cases h1:lo<=n<;>by_cases h2:n<=hi<;>((refine gW ?_;intros))<;>(refine⟨congrArg D.bool ?_,Tt⟩)<;>simp[bw,h1,h2]
theorem chkR_or (r:Rule):chkR r=0\/chkR r=120:=by
 unfold chkR
 split
 .exact .inl rfl
 .exact .inr rfl
def okR (r:Rule):Bool:=decide (chkR r=0)
def vCrs (c:Crs):Bool:=bw c.number 0 4095&&(bw c.credits 1 60&&(bw c.rep 0 2&&(okR c.need&&okR c.bar)))
def wfCrs (c:Crs):Prop:=wfR c.need/\wfR c.bar
theorem validCourse_ok (c:Crs)(hw:wfCrs c):Pure Tryz.prog 51 [.agg (eCrs c)] [.bool (vCrs c)]:=by
 have hA:=in_ok c.number 0 4095
 have hB:=in_ok c.credits 1 60
 have hC:=in_ok c.rep 0 2
 have hD:=check_ok c.need hw.1
 have hE:=check_ok c.bar hw.2
 unfold vCrs okR
 refine pure_rule hT (T:=tab) (N:=28) (rs:=[.tmp 2]) Tryz.func51 rfl rfl rfl Kr rfl ?_
 cases h1:bw c.number 0 4095<;>rw[h1]at hA
 ·(refine gW ?_;intros)
  refine hA.call ?_
  (refine gW ?_;intros)
  exact⟨rfl,Tt⟩
 cases h2:bw c.credits 1 60<;>rw[h2]at hB
 ·(refine gW ?_;intros)
  refine hA.call ?_
  (refine gW ?_;intros)
  refine hB.call ?_
  (refine gW ?_;intros)
  exact⟨rfl,Tt⟩
 cases h3:bw c.rep 0 2<;>rw[h3]at hC
 ·(refine gW ?_;intros)
  refine hA.call ?_
  (refine gW ?_;intros)
  refine hB.call ?_
  (refine gW ?_;intros)
  refine hC.call ?_
  (refine gW ?_;intros)
  exact⟨rfl,Tt⟩
 rcases chkR_or c.need with h4|h4<;>rw[h4]at hD⊢
 .rcases chkR_or c.bar with h5|h5<;>rw[h5]at hE⊢
  ·(refine gW ?_;intros)
   refine hA.call ?_
   (refine gW ?_;intros)
   refine hB.call ?_
   (refine gW ?_;intros)
   refine hC.call ?_
   (refine gW ?_;intros)
   refine hD.call ?_
   (refine gW ?_;intros)
   refine hE.call ?_
   (refine gW ?_;intros)
   exact⟨rfl,Tt⟩
  ·(refine gW ?_;intros)
   refine hA.call ?_
   (refine gW ?_;intros)
   refine hB.call ?_
   (refine gW ?_;intros)
   refine hC.call ?_
   (refine gW ?_;intros)
   refine hD.call ?_
   (refine gW ?_;intros)
   refine hE.call ?_
   (refine gW ?_;intros)
   exact⟨rfl,Tt⟩
 ·(refine gW ?_;intros)
  refine hA.call ?_
  (refine gW ?_;intros)
  refine hB.call ?_
  (refine gW ?_;intros)
  refine hC.call ?_
  (refine gW ?_;intros)
  refine hD.call ?_
  (refine gW ?_;intros)
  exact⟨rfl,Tt⟩
def wfPrg (p:Prg):Prop:=In .i64 p.mn/\In .i64 p.md/\fitL p.reqs/\∀q∈p.reqs,fitL q.fr
def wfCls (x:Cls):Prop:=In .i64 x.mn/\In .i64 x.md
def wfSys (s:Sys):Prop:=(fitL s.classes/\∀x∈s.classes,wfCls x)/\(fitL s.honours/\∀x∈s.honours,wfCls x)/\fitL s.fees/\fitL s.clauses
structure Bok where
 crs:List Crs
 prg:List Prg
 sys:List Sys
 deriving Inhabited
def eBok (b:Bok):List D:=[eCrss b.crs,ePrgs b.prg,eSyss b.sys]
def wfBok (b:Bok):Prop:=(fitL b.crs/\∀c∈b.crs,wfCrs c)/\(fitL b.prg/\∀p∈b.prg,wfPrg p)/\fitL b.sys/\∀s∈b.sys,wfSys s
theorem ratom_ok (n:Int):Pure Tryz.prog 240 [di n] [.bool (bw n 5 9)]:=by
 refine pure_rule hT (T:=tab) (N:=9) (rs:=[.tmp 2]) Tryz.func240 rfl rfl rfl Kr rfl ?_
 by_cases h1:5<=n<;>by_cases h2:n<=9<;>((refine gW ?_;intros))<;>(refine⟨congrArg D.bool ?_,Tt⟩)<;>simp[bw,h1,h2]
theorem rcourse_ok (n:Int):Pure Tryz.prog 241 [di n] [.bool (crsOk n)]:=by
 refine pure_rule hT (T:=tab) (N:=9) (rs:=[.tmp 2]) Tryz.func241 rfl rfl rfl Kr rfl ?_
 by_cases h1:0<=n<;>by_cases h2:n<4096<;>((refine gW ?_;intros))<;>(refine⟨congrArg D.bool ?_,Tt⟩)<;>simp[crsOk,bw,h1,h2]<;>omega
theorem rmean12_ok (n d:Int)(hn:In .i64 n)(hd:In .i64 d):Pure Tryz.prog 242 [.agg [di n,di d]] [.bool (meanQ n d)]:=by
 refine pure_rule hT (T:=tab) (N:=19) (rs:=[.tmp 2]) Tryz.func242 rfl rfl rfl Kr rfl ?_
 have hC:=rchk_ok n d hn hd
 by_cases h0:chkQ n d=0
 .have h1:=chkQ_zero h0
  rw[h0]at hC
  have hM:meanQ n d=(decide (0<=n)&&decide (n<=12*d)):=by simp[meanQ,bw,h0]
  rw[hM]
  by_cases h2:0<=n<;>by_cases h3:n<=12*d
  ·(refine gW ?_;intros)
   refine hC.call ?_
   (refine gW ?_;intros)
   refine⟨congrArg D.bool ?_,Tt⟩
   simp[h2,h3]
  ·(refine gW ?_;intros)
   refine hC.call ?_
   (refine gW ?_;intros)
   refine⟨congrArg D.bool ?_,Tt⟩
   simp[h2,h3]
  ·(refine gW ?_;intros)
   refine hC.call ?_
   (refine gW ?_;intros)
   refine⟨congrArg D.bool ?_,Tt⟩
   simp[h2,h3]
  ·(refine gW ?_;intros)
   refine hC.call ?_
   (refine gW ?_;intros)
   refine⟨congrArg D.bool ?_,Tt⟩
   simp[h2,h3]
 ·(refine gW ?_;intros)
  refine hC.call ?_
  (refine gW ?_;intros)
  refine⟨congrArg D.bool ?_,Tt⟩
  simp[meanQ,h0]
theorem parts12_ok:∀r:Rule,wfR r->cntR r<=1000000->Pure Tryz.prog 184 [.agg (eRule r)] [di (cntR r)]:=by
 refine rule_ind fun r ih hw hc=>?_
 obtain⟨hw1,hw2⟩:=wfR_kids hw
 refine pure_rule hT (T:=tab) (N:=21) (rs:=[.tmp 2]) Tryz.func184 rfl rfl rfl Kr rfl ?_
 rw[cntR_eq]at hc⊢
 have hkey:∀ks:List Rule,(∀k∈ks,cntR k<=cntRs ks):=by
  intro ks
  induction ks with
  |nil=>intro k hk;simp at hk
  | cons x xs ihx =>
    intro k hk
    rw[cntRs_cons]
    rcases List.mem_cons.1 hk with rfl|hk
    .omega
    .have:=ihx k hk;omega
 have happ:∀a b:List Rule,cntRs (a++b)=cntRs a+cntRs b:=by
  intro a b
  induction a with
  |nil=>rw[List.nil_append,cntRs_nil,Nat.zero_add]
  |cons x xs ihx=>rw[List.cons_append,cntRs_cons,cntRs_cons,ihx,Nat.add_assoc]
 have hlk:=hw1.2.2.2.2
 (refine gW ?_;intros)
 refine loop_rule hT (S:=Nat) (fun k=>([(1,lp 0),(3,dV ((cntRs (r.kids.take k)+1:Nat):Int)),(4,dV k)],⟨[bX 52 (up (eRule r))],[]⟩)) (fun k=>k<=r.kids.length) (fun k=>r.kids.length-k) 0 ?_ ?_ ?_
 .rw[List.take_zero,cntRs_nil]
  exact lq
 .exact Nat.zero_le _
 .intro k hk
  dsimp only at hk⊢
  have hsum:cntRs r.kids=cntRs (r.kids.take k)+cntRs (r.kids.drop k):=by rw[<-happ,List.take_append_drop]
  by_cases hk2:k<r.kids.length
  .have hne:r.kids≠[]:=fun e=>by rw[e]at hk2;exact absurd hk2 (Nat.not_lt_zero _)
   have hmem:r.kids.getD k default∈r.kids:=getD_mem hk2
   have hck:=hkey _ _ hmem
   have hI:=ih _ hmem (hw2 _ hmem) Om
   have hts:cntRs (r.kids.take (k+1))=cntRs (r.kids.take k)+cntR (r.kids.getD k default):=by
    have e:r.kids.take (k+1)=r.kids.take k++[r.kids.getD k default]:=by
     rw[List.take_add_one,List.getD_eq_getElem?_getD,List.getElem?_eq_getElem hk2]
     rfl
    rw[e,happ,cntRs_cons,cntRs_nil,Nat.add_zero]
   have hsum2:cntRs r.kids=cntRs (r.kids.take (k+1))+cntRs (r.kids.drop (k+1)):=by rw[<-happ,List.take_append_drop]
   have hti:((cntRs (r.kids.take (k+1))+1:Nat):Int)=((cntRs (r.kids.take k)+1:Nat):Int)+(cntR (r.kids.getD k default):Int):=by omega
   have er:eRule r=[di r.op,di r.course,.str r.name,di r.n,di r.d,.sl 6 r.kids.length fun i=>eRule (r.kids.getD i default)]:=by
    unfold eRule
    rw[eRules_ne hne]
    rfl
   rw[er]
   (refine gW ?_;intros)
   refine hI.call ?_
   (refine gW ?_;intros)
   refine⟨k+1,by show k+1<=r.kids.length;omega,by show r.kids.length-(k+1)<r.kids.length-k;omega,?_⟩
   dsimp only
   rw[hti]
   exact lq
  .have e:r.kids.take k=r.kids:=List.take_of_length_le Om
   rw[e]
   (refine gW ?_;intros)
   exact⟨rfl,Tt⟩
theorem depth12_ok:∀r:Rule,wfR r->cntR r<=1000000->Pure Tryz.prog 185 [.agg (eRule r)] [di (depR r)]:=by
 have hdc:∀r:Rule,depR r<=cntR r:=by
  refine rule_ind fun r ih=>?_
  have key:∀ks:List Rule,(∀k∈ks,depR k<=cntR k)->depRs ks<=cntRs ks:=by
   intro ks
   induction ks with
   |nil=>intro _;rw[depRs_nil,cntRs_nil];exact Nat.le_refl _
   | cons x xs ihx =>
     intro h
     have h1:=h x (by simp)
     have h2:=ihx fun k hk=>h k (by simp[hk])
     rw[depRs_cons,cntRs_cons]
     omega
  have:=key r.kids ih
  rw[depR_eq,cntR_eq]
  omega
 refine rule_ind fun r ih hw hc=>?_
 obtain⟨hw1,hw2⟩:=wfR_kids hw
 refine pure_rule hT (T:=tab) (N:=22) (rs:=[.tmp 2]) Tryz.func185 rfl rfl rfl Kr rfl ?_
 have hdr:=hdc r
 rw[cntR_eq]at hc hdr
 rw[depR_eq]at hdr⊢
 have hkey:∀ks:List Rule,(∀k∈ks,cntR k<=cntRs ks/\depR k<=depRs ks):=by
  intro ks
  induction ks with
  |nil=>intro k hk;simp at hk
  | cons x xs ihx =>
    intro k hk
    rw[cntRs_cons,depRs_cons]
    rcases List.mem_cons.1 hk with rfl|hk
    .omega
    .have:=ihx k hk;omega
 have happ:∀a b:List Rule,depRs (a++b)=max (depRs a) (depRs b):=by
  intro a b
  induction a with
  |nil=>rw[List.nil_append,depRs_nil,Nat.zero_max]
  |cons x xs ihx=>rw[List.cons_append,depRs_cons,depRs_cons,ihx,Nat.max_assoc]
 have hlk:=hw1.2.2.2.2
 (refine gW ?_;intros)
 refine loop_rule hT (S:=Nat) (fun k=>([(1,lp 0),(3,dV ((depRs (r.kids.take k):Nat):Int)),(4,dV k)],⟨[bX 52 (up (eRule r))],[]⟩)) (fun k=>k<=r.kids.length) (fun k=>r.kids.length-k) 0 ?_ ?_ ?_
 .rw[List.take_zero,depRs_nil]
  exact lq
 .exact Nat.zero_le _
 .intro k hk
  dsimp only at hk⊢
  have hsum:depRs r.kids=max (depRs (r.kids.take k)) (depRs (r.kids.drop k)):=by rw[<-happ,List.take_append_drop]
  by_cases hk2:k<r.kids.length
  .have hne:r.kids≠[]:=fun e=>by rw[e]at hk2;exact absurd hk2 (Nat.not_lt_zero _)
   have hmem:r.kids.getD k default∈r.kids:=getD_mem hk2
   have hck:=hkey _ _ hmem
   have hI:=ih _ hmem (hw2 _ hmem) Om
   have hts:depRs (r.kids.take (k+1))=max (depRs (r.kids.take k)) (depR (r.kids.getD k default)):=by
    have e:r.kids.take (k+1)=r.kids.take k++[r.kids.getD k default]:=by
     rw[List.take_add_one,List.getD_eq_getElem?_getD,List.getElem?_eq_getElem hk2]
     rfl
    rw[e,happ,depRs_cons,depRs_nil,Nat.max_zero]
   have hti:((depRs (r.kids.take (k+1)):Nat):Int)=max ((depRs (r.kids.take k):Nat):Int) (depR (r.kids.getD k default):Int):=by omega
   have er:eRule r=[di r.op,di r.course,.str r.name,di r.n,di r.d,.sl 6 r.kids.length fun i=>eRule (r.kids.getD i default)]:=by
    unfold eRule
    rw[eRules_ne hne]
    rfl
   rw[er]
   (refine gW ?_;intros)
   refine hI.call ?_
   (refine gW ?_;intros)
   refine⟨k+1,by show k+1<=r.kids.length;omega,by show r.kids.length-(k+1)<r.kids.length-k;omega,?_⟩
   dsimp only
   rw[hti,Int.max_def]
   exact lq
  .have e:r.kids.take k=r.kids:=List.take_of_length_le Om
   rw[e]
   (refine gW ?_;intros)
   exact⟨rfl,Tt⟩
theorem rformed1_ok (r:Rule)(hI:In1 r)(ho:r.op=1):Pure Tryz.prog 219 [.agg (eRule r)] [.bool (formedR r)]:=by
 have hA:=ratom_ok 1
 have hB:bw 1 5 9=false:=rfl
 have hb:bw 1 1 9=true:=rfl
 have hb4:bw 1 1 4=!false:=rfl
 have hke:r.kids.isEmpty=decide (r.kids.length=0):=by cases r.kids<;>simp
 have hC:=rcourse_ok r.course
 have hM:=rmean12_ok r.n r.d hI.2.2.1 hI.2.2.2.1
 have hlk:=hI.2.2.2.2
 rw[hB]at hA
 have hf:formedR r=(((false||decide (r.course=0))&&((false||decide (r.n=0))&&((false||decide (r.d=0))&&((!false||decide (r.kids.length=0))&&true))))):=by
  unfold formedR
  rw[ho,hb,hb4,hke]
  simp[namedR,countR,rightR,ho]
 rw[hf]
 have eo:eRule r=[di 1,di r.course,.str r.name,di r.n,di r.d,eRules r.kids]:=by rw[eRule,ho]
 rw[eo]
 refine pure_rule hT (T:=tab) (N:=152) (rs:=[.tmp 2]) Tryz.func219 rfl rfl rfl Kr rfl ?_
 ((refine xW ?_ ?_)<;>intros)
 refine hA.call ?_
 (refine gW ?_;intros)
 all_goals first
  | (refine ⟨congrArg D.bool ?_,True.intro⟩
     simp[bw]
     first|omega|(simp_all;fail)|(simp_all;omega)|grind
     done)
  | (refine ⟨congrArg D.bool ?_,True.intro⟩
     simp_all [bw]
     done)
  | (refine hC.call ?_
     (refine gW ?_;intros)
     refine⟨congrArg D.bool ?_,Tt⟩
     simp[bw]
     first|omega|(simp_all;fail)|(simp_all;omega)|grind
     done)
  | (refine hM.call ?_
     (refine gW ?_;intros)
     refine⟨congrArg D.bool ?_,Tt⟩
     simp[bw]
     first|omega|(simp_all;fail)|(simp_all;omega)|grind
     done)
theorem rformed2_ok (r:Rule)(hI:In1 r)(ho:r.op=2):Pure Tryz.prog 219 [.agg (eRule r)] [.bool (formedR r)]:=by
 have hA:=ratom_ok 2
 have hB:bw 2 5 9=false:=rfl
 have hb:bw 2 1 9=true:=rfl
 have hb4:bw 2 1 4=!false:=rfl
 have hke:r.kids.isEmpty=decide (r.kids.length=0):=by cases r.kids<;>simp
 have hC:=rcourse_ok r.course
 have hM:=rmean12_ok r.n r.d hI.2.2.1 hI.2.2.2.1
 have hlk:=hI.2.2.2.2
 rw[hB]at hA
 have hf:formedR r=(((false||decide (r.course=0))&&((false||decide (r.n=0))&&((false||decide (r.d=0))&&((!false||decide (r.kids.length=0))&&true))))):=by
  unfold formedR
  rw[ho,hb,hb4,hke]
  simp[namedR,countR,rightR,ho]
 rw[hf]
 have eo:eRule r=[di 2,di r.course,.str r.name,di r.n,di r.d,eRules r.kids]:=by rw[eRule,ho]
 rw[eo]
 refine pure_rule hT (T:=tab) (N:=152) (rs:=[.tmp 2]) Tryz.func219 rfl rfl rfl Kr rfl ?_
 ((refine xW ?_ ?_)<;>intros)
 refine hA.call ?_
 (refine gW ?_;intros)
 all_goals first
  | (refine ⟨congrArg D.bool ?_,True.intro⟩
     simp[bw]
     first|omega|(simp_all;fail)|(simp_all;omega)|grind
     done)
  | (refine ⟨congrArg D.bool ?_,True.intro⟩
     simp_all [bw]
     done)
  | (refine hC.call ?_
     (refine gW ?_;intros)
     refine⟨congrArg D.bool ?_,Tt⟩
     simp[bw]
     first|omega|(simp_all;fail)|(simp_all;omega)|grind
     done)
  | (refine hM.call ?_
     (refine gW ?_;intros)
     refine⟨congrArg D.bool ?_,Tt⟩
     simp[bw]
     first|omega|(simp_all;fail)|(simp_all;omega)|grind
     done)
theorem rformed3_ok (r:Rule)(hI:In1 r)(ho:r.op=3):Pure Tryz.prog 219 [.agg (eRule r)] [.bool (formedR r)]:=by
 have hA:=ratom_ok 3
 have hB:bw 3 5 9=false:=rfl
 have hb:bw 3 1 9=true:=rfl
 have hb4:bw 3 1 4=!false:=rfl
 have hke:r.kids.isEmpty=decide (r.kids.length=0):=by cases r.kids<;>simp
 have hC:=rcourse_ok r.course
 have hM:=rmean12_ok r.n r.d hI.2.2.1 hI.2.2.2.1
 have hlk:=hI.2.2.2.2
 rw[hB]at hA
 have hf:formedR r=(((false||decide (r.course=0))&&((true||decide (r.n=0))&&((false||decide (r.d=0))&&((!false||decide (r.kids.length=0))&&bw r.n 0 200))))):=by
  unfold formedR
  rw[ho,hb,hb4,hke]
  simp[namedR,countR,rightR,ho]
 rw[hf]
 have eo:eRule r=[di 3,di r.course,.str r.name,di r.n,di r.d,eRules r.kids]:=by rw[eRule,ho]
 rw[eo]
 refine pure_rule hT (T:=tab) (N:=152) (rs:=[.tmp 2]) Tryz.func219 rfl rfl rfl Kr rfl ?_
 repeat' (first|with_reducible refine Sq.go ?_|((with_reducible refine Ev.mk ?_);conv=>whnf)|with_reducible refine Dr.mk ⟨Kr,Kr⟩ ?_|with_reducible refine obG ?_|with_reducible refine Ob.mk ?_ ?_|(with_reducible first|refine brT fun h=>?_|refine brF fun h=>?_|refine Br.mk (fun h=>?_) fun h=>?_)<;>(try simp only[bsl,beq_iff_eq,bne_iff_ne,bs2]at h)<;>(try contradiction)<;>try (exfalso;omega))
 refine hA.call ?_
 ((refine xW ?_ ?_)<;>intros)
 all_goals first
  | (refine ⟨congrArg D.bool ?_,True.intro⟩
     simp[bw]
     first|omega|(simp_all;fail)|(simp_all;omega)|grind
     done)
  | (refine ⟨congrArg D.bool ?_,True.intro⟩
     simp_all [bw]
     done)
  | (refine hC.call ?_
     (refine gW ?_;intros)
     refine⟨congrArg D.bool ?_,Tt⟩
     simp[bw]
     first|omega|(simp_all;fail)|(simp_all;omega)|grind
     done)
  | (refine hM.call ?_
     (refine gW ?_;intros)
     refine⟨congrArg D.bool ?_,Tt⟩
     simp[bw]
     first|omega|(simp_all;fail)|(simp_all;omega)|grind
     done)
theorem rformed4_ok (r:Rule)(hI:In1 r)(ho:r.op=4):Pure Tryz.prog 219 [.agg (eRule r)] [.bool (formedR r)]:=by
 have hA:=ratom_ok 4
 have hB:bw 4 5 9=false:=rfl
 have hb:bw 4 1 9=true:=rfl
 have hb4:bw 4 1 4=!false:=rfl
 have hke:r.kids.isEmpty=decide (r.kids.length=0):=by cases r.kids<;>simp
 have hC:=rcourse_ok r.course
 have hM:=rmean12_ok r.n r.d hI.2.2.1 hI.2.2.2.1
 have hlk:=hI.2.2.2.2
 rw[hB]at hA
 have hf:formedR r=(((false||decide (r.course=0))&&((false||decide (r.n=0))&&((false||decide (r.d=0))&&((!false||decide (r.kids.length=0))&&decide (r.kids.length=1)))))):=by
  unfold formedR
  rw[ho,hb,hb4,hke]
  simp[namedR,countR,rightR,ho]
 rw[hf]
 have eo:eRule r=[di 4,di r.course,.str r.name,di r.n,di r.d,eRules r.kids]:=by rw[eRule,ho]
 rw[eo]
 refine pure_rule hT (T:=tab) (N:=152) (rs:=[.tmp 2]) Tryz.func219 rfl rfl rfl Kr rfl ?_
 ((refine xW ?_ ?_)<;>intros)
 refine hA.call ?_
 (refine gW ?_;intros)
 all_goals first
  | (refine ⟨congrArg D.bool ?_,True.intro⟩
     simp[bw]
     first|omega|(simp_all;fail)|(simp_all;omega)|grind
     done)
  | (refine ⟨congrArg D.bool ?_,True.intro⟩
     simp_all [bw]
     done)
  | (refine hC.call ?_
     (refine gW ?_;intros)
     refine⟨congrArg D.bool ?_,Tt⟩
     simp[bw]
     first|omega|(simp_all;fail)|(simp_all;omega)|grind
     done)
  | (refine hM.call ?_
     (refine gW ?_;intros)
     refine⟨congrArg D.bool ?_,Tt⟩
     simp[bw]
     first|omega|(simp_all;fail)|(simp_all;omega)|grind
     done)
theorem rformed5_ok (r:Rule)(hI:In1 r)(ho:r.op=5):Pure Tryz.prog 219 [.agg (eRule r)] [.bool (formedR r)]:=by
 have hA:=ratom_ok 5
 have hB:bw 5 5 9=true:=rfl
 have hb:bw 5 1 9=true:=rfl
 have hb4:bw 5 1 4=!true:=rfl
 have hke:r.kids.isEmpty=decide (r.kids.length=0):=by cases r.kids<;>simp
 have hC:=rcourse_ok r.course
 have hM:=rmean12_ok r.n r.d hI.2.2.1 hI.2.2.2.1
 have hlk:=hI.2.2.2.2
 rw[hB]at hA
 have hf:formedR r=(((true||decide (r.course=0))&&((true||decide (r.n=0))&&((false||decide (r.d=0))&&((!true||decide (r.kids.length=0))&&(crsOk r.course&&bw r.n 0 12)))))):=by
  unfold formedR
  rw[ho,hb,hb4,hke]
  simp[namedR,countR,rightR,ho]
 rw[hf]
 have eo:eRule r=[di 5,di r.course,.str r.name,di r.n,di r.d,eRules r.kids]:=by rw[eRule,ho]
 rw[eo]
 refine pure_rule hT (T:=tab) (N:=152) (rs:=[.tmp 2]) Tryz.func219 rfl rfl rfl Kr rfl ?_
 repeat' (first|with_reducible refine Sq.go ?_|((with_reducible refine Ev.mk ?_);conv=>whnf)|with_reducible refine Dr.mk ⟨Kr,Kr⟩ ?_|with_reducible refine obG ?_|with_reducible refine Ob.mk ?_ ?_|(with_reducible first|refine brT fun h=>?_|refine brF fun h=>?_|refine Br.mk (fun h=>?_) fun h=>?_)<;>(try simp only[bsl,beq_iff_eq,bne_iff_ne,bs2]at h)<;>(try contradiction)<;>try (exfalso;omega))
 refine hA.call ?_
 ((refine xW ?_ ?_)<;>intros)
 all_goals first
  | (refine ⟨congrArg D.bool ?_,True.intro⟩
     simp[bw]
     first|omega|(simp_all;fail)|(simp_all;omega)|grind
     done)
  | (refine ⟨congrArg D.bool ?_,True.intro⟩
     simp_all [bw]
     done)
  | (refine hC.call ?_
     (refine gW ?_;intros)
     refine⟨congrArg D.bool ?_,Tt⟩
     simp[bw]
     first|omega|(simp_all;fail)|(simp_all;omega)|grind
     done)
  | (refine hM.call ?_
     (refine gW ?_;intros)
     refine⟨congrArg D.bool ?_,Tt⟩
     simp[bw]
     first|omega|(simp_all;fail)|(simp_all;omega)|grind
     done)
theorem rformed6_ok (r:Rule)(hI:In1 r)(ho:r.op=6):Pure Tryz.prog 219 [.agg (eRule r)] [.bool (formedR r)]:=by
 have hA:=ratom_ok 6
 have hB:bw 6 5 9=true:=rfl
 have hb:bw 6 1 9=true:=rfl
 have hb4:bw 6 1 4=!true:=rfl
 have hke:r.kids.isEmpty=decide (r.kids.length=0):=by cases r.kids<;>simp
 have hC:=rcourse_ok r.course
 have hM:=rmean12_ok r.n r.d hI.2.2.1 hI.2.2.2.1
 have hlk:=hI.2.2.2.2
 rw[hB]at hA
 have hf:formedR r=(((true||decide (r.course=0))&&((true||decide (r.n=0))&&((false||decide (r.d=0))&&((!true||decide (r.kids.length=0))&&(crsOk r.course&&bw r.n 1 100)))))):=by
  unfold formedR
  rw[ho,hb,hb4,hke]
  simp[namedR,countR,rightR,ho]
 rw[hf]
 have eo:eRule r=[di 6,di r.course,.str r.name,di r.n,di r.d,eRules r.kids]:=by rw[eRule,ho]
 rw[eo]
 refine pure_rule hT (T:=tab) (N:=152) (rs:=[.tmp 2]) Tryz.func219 rfl rfl rfl Kr rfl ?_
 repeat' (first|with_reducible refine Sq.go ?_|((with_reducible refine Ev.mk ?_);conv=>whnf)|with_reducible refine Dr.mk ⟨Kr,Kr⟩ ?_|with_reducible refine obG ?_|with_reducible refine Ob.mk ?_ ?_|(with_reducible first|refine brT fun h=>?_|refine brF fun h=>?_|refine Br.mk (fun h=>?_) fun h=>?_)<;>(try simp only[bsl,beq_iff_eq,bne_iff_ne,bs2]at h)<;>(try contradiction)<;>try (exfalso;omega))
 refine hA.call ?_
 ((refine xW ?_ ?_)<;>intros)
 all_goals first
  | (refine ⟨congrArg D.bool ?_,True.intro⟩
     simp[bw]
     first|omega|(simp_all;fail)|(simp_all;omega)|grind
     done)
  | (refine ⟨congrArg D.bool ?_,True.intro⟩
     simp_all [bw]
     done)
  | (refine hC.call ?_
     (refine gW ?_;intros)
     refine⟨congrArg D.bool ?_,Tt⟩
     simp[bw]
     first|omega|(simp_all;fail)|(simp_all;omega)|grind
     done)
  | (refine hM.call ?_
     (refine gW ?_;intros)
     refine⟨congrArg D.bool ?_,Tt⟩
     simp[bw]
     first|omega|(simp_all;fail)|(simp_all;omega)|grind
     done)
theorem rformed7_ok (r:Rule)(hI:In1 r)(ho:r.op=7):Pure Tryz.prog 219 [.agg (eRule r)] [.bool (formedR r)]:=by
 have hA:=ratom_ok 7
 have hB:bw 7 5 9=true:=rfl
 have hb:bw 7 1 9=true:=rfl
 have hb4:bw 7 1 4=!true:=rfl
 have hke:r.kids.isEmpty=decide (r.kids.length=0):=by cases r.kids<;>simp
 have hC:=rcourse_ok r.course
 have hM:=rmean12_ok r.n r.d hI.2.2.1 hI.2.2.2.1
 have hlk:=hI.2.2.2.2
 rw[hB]at hA
 have hf:formedR r=(((false||decide (r.course=0))&&((true||decide (r.n=0))&&((false||decide (r.d=0))&&((!true||decide (r.kids.length=0))&&bw r.n 0 10000))))):=by
  unfold formedR
  rw[ho,hb,hb4,hke]
  simp[namedR,countR,rightR,ho]
 rw[hf]
 have eo:eRule r=[di 7,di r.course,.str r.name,di r.n,di r.d,eRules r.kids]:=by rw[eRule,ho]
 rw[eo]
 refine pure_rule hT (T:=tab) (N:=152) (rs:=[.tmp 2]) Tryz.func219 rfl rfl rfl Kr rfl ?_
 repeat' (first|with_reducible refine Sq.go ?_|((with_reducible refine Ev.mk ?_);conv=>whnf)|with_reducible refine Dr.mk ⟨Kr,Kr⟩ ?_|with_reducible refine obG ?_|with_reducible refine Ob.mk ?_ ?_|(with_reducible first|refine brT fun h=>?_|refine brF fun h=>?_|refine Br.mk (fun h=>?_) fun h=>?_)<;>(try simp only[bsl,beq_iff_eq,bne_iff_ne,bs2]at h)<;>(try contradiction)<;>try (exfalso;omega))
 refine hA.call ?_
 ((refine xW ?_ ?_)<;>intros)
 all_goals first
  | (refine ⟨congrArg D.bool ?_,True.intro⟩
     simp[bw]
     first|omega|(simp_all;fail)|(simp_all;omega)|grind
     done)
  | (refine ⟨congrArg D.bool ?_,True.intro⟩
     simp_all [bw]
     done)
  | (refine hC.call ?_
     (refine gW ?_;intros)
     refine⟨congrArg D.bool ?_,Tt⟩
     simp[bw]
     first|omega|(simp_all;fail)|(simp_all;omega)|grind
     done)
  | (refine hM.call ?_
     (refine gW ?_;intros)
     refine⟨congrArg D.bool ?_,Tt⟩
     simp[bw]
     first|omega|(simp_all;fail)|(simp_all;omega)|grind
     done)
theorem rformed8_ok (r:Rule)(hI:In1 r)(ho:r.op=8):Pure Tryz.prog 219 [.agg (eRule r)] [.bool (formedR r)]:=by
 have hA:=ratom_ok 8
 have hB:bw 8 5 9=true:=rfl
 have hb:bw 8 1 9=true:=rfl
 have hb4:bw 8 1 4=!true:=rfl
 have hke:r.kids.isEmpty=decide (r.kids.length=0):=by cases r.kids<;>simp
 have hC:=rcourse_ok r.course
 have hM:=rmean12_ok r.n r.d hI.2.2.1 hI.2.2.2.1
 have hlk:=hI.2.2.2.2
 rw[hB]at hA
 have hf:formedR r=(((false||decide (r.course=0))&&((true||decide (r.n=0))&&((true||decide (r.d=0))&&((!true||decide (r.kids.length=0))&&meanQ r.n r.d))))):=by
  unfold formedR
  rw[ho,hb,hb4,hke]
  simp[namedR,countR,rightR,ho]
 rw[hf]
 have eo:eRule r=[di 8,di r.course,.str r.name,di r.n,di r.d,eRules r.kids]:=by rw[eRule,ho]
 rw[eo]
 refine pure_rule hT (T:=tab) (N:=152) (rs:=[.tmp 2]) Tryz.func219 rfl rfl rfl Kr rfl ?_
 repeat' (first|with_reducible refine Sq.go ?_|((with_reducible refine Ev.mk ?_);conv=>whnf)|with_reducible refine Dr.mk ⟨Kr,Kr⟩ ?_|with_reducible refine obG ?_|with_reducible refine Ob.mk ?_ ?_|(with_reducible first|refine brT fun h=>?_|refine brF fun h=>?_|refine Br.mk (fun h=>?_) fun h=>?_)<;>(try simp only[bsl,beq_iff_eq,bne_iff_ne,bs2]at h)<;>(try contradiction)<;>try (exfalso;omega))
 refine hA.call ?_
 ((refine xW ?_ ?_)<;>intros)
 all_goals first
  | (refine ⟨congrArg D.bool ?_,True.intro⟩
     simp[bw]
     first|omega|(simp_all;fail)|(simp_all;omega)|grind
     done)
  | (refine ⟨congrArg D.bool ?_,True.intro⟩
     simp_all [bw]
     done)
  | (refine hC.call ?_
     (refine gW ?_;intros)
     refine⟨congrArg D.bool ?_,Tt⟩
     simp[bw]
     first|omega|(simp_all;fail)|(simp_all;omega)|grind
     done)
  | (refine hM.call ?_
     (refine gW ?_;intros)
     refine⟨congrArg D.bool ?_,Tt⟩
     simp[bw]
     first|omega|(simp_all;fail)|(simp_all;omega)|grind
     done)
theorem rformed9_ok (r:Rule)(hI:In1 r)(ho:r.op=9):Pure Tryz.prog 219 [.agg (eRule r)] [.bool (formedR r)]:=by
 have hA:=ratom_ok 9
 have hB:bw 9 5 9=true:=rfl
 have hb:bw 9 1 9=true:=rfl
 have hb4:bw 9 1 4=!true:=rfl
 have hke:r.kids.isEmpty=decide (r.kids.length=0):=by cases r.kids<;>simp
 have hC:=rcourse_ok r.course
 have hM:=rmean12_ok r.n r.d hI.2.2.1 hI.2.2.2.1
 have hlk:=hI.2.2.2.2
 rw[hB]at hA
 have hf:formedR r=(((true||decide (r.course=0))&&((false||decide (r.n=0))&&((false||decide (r.d=0))&&((!true||decide (r.kids.length=0))&&crsOk r.course))))):=by
  unfold formedR
  rw[ho,hb,hb4,hke]
  simp[namedR,countR,rightR,ho]
 rw[hf]
 have eo:eRule r=[di 9,di r.course,.str r.name,di r.n,di r.d,eRules r.kids]:=by rw[eRule,ho]
 rw[eo]
 refine pure_rule hT (T:=tab) (N:=152) (rs:=[.tmp 2]) Tryz.func219 rfl rfl rfl Kr rfl ?_
 repeat' (first|with_reducible refine Sq.go ?_|((with_reducible refine Ev.mk ?_);conv=>whnf)|with_reducible refine Dr.mk ⟨Kr,Kr⟩ ?_|with_reducible refine obG ?_|with_reducible refine Ob.mk ?_ ?_|(with_reducible first|refine brT fun h=>?_|refine brF fun h=>?_|refine Br.mk (fun h=>?_) fun h=>?_)<;>(try simp only[bsl,beq_iff_eq,bne_iff_ne,bs2]at h)<;>(try contradiction)<;>try (exfalso;omega))
 refine hA.call ?_
 ((refine xW ?_ ?_)<;>intros)
 all_goals first
  | (refine ⟨congrArg D.bool ?_,True.intro⟩
     simp[bw]
     first|omega|(simp_all;fail)|(simp_all;omega)|grind
     done)
  | (refine ⟨congrArg D.bool ?_,True.intro⟩
     simp_all [bw]
     done)
  | (refine hC.call ?_
     (refine gW ?_;intros)
     refine⟨congrArg D.bool ?_,Tt⟩
     simp[bw]
     first|omega|(simp_all;fail)|(simp_all;omega)|grind
     done)
  | (refine hM.call ?_
     (refine gW ?_;intros)
     refine⟨congrArg D.bool ?_,Tt⟩
     simp[bw]
     first|omega|(simp_all;fail)|(simp_all;omega)|grind
     done)
theorem rformed_ok (r:Rule)(hI:In1 r):Pure Tryz.prog 219 [.agg (eRule r)] [.bool (formedR r)]:=by
 by_cases ho:bw r.op 1 9=true
 .have h1:1<=r.op/\r.op<=9:=by simpa[bw] using ho
  have h2:r.op=1\/r.op=2\/r.op=3\/r.op=4\/r.op=5\/r.op=6\/r.op=7\/r.op=8\/r.op=9:=by omega
  rcases h2 with h|h|h|h|h|h|h|h|h
  .exact rformed1_ok r hI h
  .exact rformed2_ok r hI h
  .exact rformed3_ok r hI h
  .exact rformed4_ok r hI h
  .exact rformed5_ok r hI h
  .exact rformed6_ok r hI h
  .exact rformed7_ok r hI h
  .exact rformed8_ok r hI h
  .exact rformed9_ok r hI h
 .have hb:bw r.op 1 9=false:=by simpa using ho
  have hF:formedR r=false:=by simp[formedR,hb]
  have hb2:bw r.op 5 9=false:=by
   simp[bw]at hb⊢
   omega
  have hn:∀k:Int,1<=k->k<=9->r.op≠k:=fun k h1 h2 e=>by
   simp[bw]at hb
   omega
  have n1:=hn 1 Dc Dc
  have n2:=hn 2 Dc Dc
  have n3:=hn 3 Dc Dc
  have n4:=hn 4 Dc Dc
  have n5:=hn 5 Dc Dc
  have n6:=hn 6 Dc Dc
  have n7:=hn 7 Dc Dc
  have n8:=hn 8 Dc Dc
  have n9:=hn 9 Dc Dc
  have hA:=ratom_ok r.op
  rw[hb2]at hA
  rw[hF]
  refine pure_rule hT (T:=tab) (N:=152) (rs:=[.tmp 2]) Tryz.func219 rfl rfl rfl Kr rfl ?_
  ((refine xW ?_ ?_)<;>intros)
  refine hA.call ?_
  (refine gW ?_;intros)
  all_goals exact⟨rfl,Tt⟩
theorem allF_eq (r:Rule):allF r=(formedR r&&r.kids.all allF):=by
 unfold allF
 rw[preR_eq,List.all_cons]
 congr 1
 have hd:∀(k:Rule) (d e:Nat),((preR d k).all fun p=>formedR p.2)=(preR e k).all fun p=>formedR p.2:=fun k d e=>by
  have h:∀l:List (Nat × Rule),(l.all fun p=>formedR p.2)=(l.map Prod.snd).all formedR:=fun l=>by rw[List.all_map];rfl
  rw[h,h,preR_shift k d e]
 induction r.kids with
 |nil=>rw[preL_nil];rfl
 |cons k ks ih=>rw[preL_cons,List.all_append,List.all_cons,ih,hd k 2 1]
theorem allF12_ok:∀r:Rule,wfR r->Pure Tryz.prog 186 [.agg (eRule r)] [.bool (allF r)]:=by
 refine rule_ind fun r ih hw=>?_
 obtain⟨hw1,hw2⟩:=wfR_kids hw
 have hF:=rformed_ok r hw1
 have hlk:=hw1.2.2.2.2
 rw[allF_eq]
 refine pure_rule hT (T:=tab) (N:=21) (rs:=[.tmp 2]) Tryz.func186 rfl rfl rfl Kr rfl ?_
 cases h0:formedR r<;>rw[h0]at hF
 ·(refine gW ?_;intros)
  refine hF.call ?_
  (refine gW ?_;intros)
  exact⟨rfl,Tt⟩
 rw[Bool.true_and]
 (refine gW ?_;intros)
 refine hF.call ?_
 (refine gW ?_;intros)
 refine loop_rule hT (S:=Nat) (fun k=>([(1,lp 0),(3,dV k)],⟨[bX 52 (up (eRule r))],[]⟩)) (fun k=>k<=r.kids.length/\r.kids.all allF=(r.kids.drop k).all allF) (fun k=>r.kids.length-k) 0 ?_ ?_ ?_
 .exact lq
 .exact⟨Nat.zero_le _,rfl⟩
 .rintro k ⟨hk,hc⟩
  by_cases hk2:k<r.kids.length
  .have hne:r.kids≠[]:=fun e=>by rw[e]at hk2;exact absurd hk2 (Nat.not_lt_zero _)
   have hmem:r.kids.getD k default∈r.kids:=getD_mem hk2
   have hI:=ih _ hmem (hw2 _ hmem)
   have er:eRule r=[di r.op,di r.course,.str r.name,di r.n,di r.d,.sl 6 r.kids.length fun i=>eRule (r.kids.getD i default)]:=by
    unfold eRule
    rw[eRules_ne hne]
    rfl
   rw[drop_at hk2,List.all_cons]at hc
   dsimp only
   rw[er]
   cases h1:allF (r.kids.getD k default)<;>rw[h1]at hc hI
   .rw[Bool.false_and]at hc
    rw[hc]
    (refine gW ?_;intros)
    refine hI.call ?_
    (refine gW ?_;intros)
    exact⟨rfl,Tt⟩
   .rw[Bool.true_and]at hc
    (refine gW ?_;intros)
    refine hI.call ?_
    (refine gW ?_;intros)
    refine stp (k+1) ?_ ⟨by show k+1<=r.kids.length;omega,hc⟩
    exact lq
  .rw[drop_end Om,List.all_nil]at hc
   rw[hc]
   (refine gW ?_;intros)
   exact⟨rfl,Tt⟩
theorem check12_ok (r:Rule)(hw:wfR r)(hc:cntR r<=1000000):Pure Tryz.prog 137 [.agg (eRule r)] [di (chkR r)]:=by
 have hA:=parts12_ok r hw hc
 have hB:=depth12_ok r hw hc
 have hC:=allF12_ok r hw
 unfold chkR
 refine pure_rule hT (T:=tab) (N:=16) (rs:=[.tmp 2]) Tryz.func137 rfl rfl rfl Kr rfl ?_
 by_cases h1:cntR r<=200
 .by_cases h2:depR r<=16
  .cases h3:allF r<;>rw[h3]at hC
   .rw[if_neg (by simp)]
    (refine gW ?_;intros)
    refine hA.call ?_
    (refine gW ?_;intros)
    refine hB.call ?_
    (refine gW ?_;intros)
    refine hC.call ?_
    (refine gW ?_;intros)
    exact⟨rfl,Tt⟩
   .rw[if_pos ⟨h1,h2,rfl⟩]
    (refine gW ?_;intros)
    refine hA.call ?_
    (refine gW ?_;intros)
    refine hB.call ?_
    (refine gW ?_;intros)
    refine hC.call ?_
    (refine gW ?_;intros)
    exact⟨rfl,Tt⟩
  .rw[if_neg Om]
   (refine gW ?_;intros)
   refine hA.call ?_
   (refine gW ?_;intros)
   refine hB.call ?_
   (refine gW ?_;intros)
   exact⟨rfl,Tt⟩
 .rw[if_neg Om]
  (refine gW ?_;intros)
  refine hA.call ?_
  (refine gW ?_;intros)
  exact⟨rfl,Tt⟩
structure Kp (p:Prop):Prop where
 h:p
theorem rin_ok (n lo hi:Int):Pure Tryz.prog 82 [di n,di lo,di hi] [.bool (bw n lo hi)]:=by
 refine pure_rule hT (T:=tab) (N:=15) (rs:=[.tmp 6]) Tryz.func82 rfl rfl rfl Kr rfl ?_
 by_cases h1:lo<=n<;>by_cases h2:n<=hi<;>((refine gW ?_;intros))<;>(refine⟨congrArg D.bool ?_,Tt⟩)<;>simp[bw,h1,h2]
def smCrs (c:Crs):Prop:=cntR c.need<=1000000/\cntR c.bar<=1000000
theorem isCourse_ok (c:Crs)(hw:wfCrs c)(hs:smCrs c):Pure Tryz.prog 85 [.agg (eCrs c)] [.bool (vCrs c)]:=by
 have hA:=rin_ok c.number 0 4095
 have hB:=rin_ok c.credits 1 60
 have hC:=rin_ok c.rep 0 2
 have hD:=check12_ok c.need hw.1 hs.1
 have hE:=check12_ok c.bar hw.2 hs.2
 unfold vCrs okR
 refine pure_rule hT (T:=tab) (N:=28) (rs:=[.tmp 2]) Tryz.func85 rfl rfl rfl Kr rfl ?_
 cases h1:bw c.number 0 4095<;>rw[h1]at hA
 ·(refine gW ?_;intros)
  refine hA.call ?_
  (refine gW ?_;intros)
  exact⟨rfl,Tt⟩
 cases h2:bw c.credits 1 60<;>rw[h2]at hB
 ·(refine gW ?_;intros)
  refine hA.call ?_
  (refine gW ?_;intros)
  refine hB.call ?_
  (refine gW ?_;intros)
  exact⟨rfl,Tt⟩
 cases h3:bw c.rep 0 2<;>rw[h3]at hC
 ·(refine gW ?_;intros)
  refine hA.call ?_
  (refine gW ?_;intros)
  refine hB.call ?_
  (refine gW ?_;intros)
  refine hC.call ?_
  (refine gW ?_;intros)
  exact⟨rfl,Tt⟩
 rcases chkR_or c.need with h4|h4<;>rw[h4]at hD⊢
 .rcases chkR_or c.bar with h5|h5<;>rw[h5]at hE⊢
  ·(refine gW ?_;intros)
   refine hA.call ?_
   (refine gW ?_;intros)
   refine hB.call ?_
   (refine gW ?_;intros)
   refine hC.call ?_
   (refine gW ?_;intros)
   refine hD.call ?_
   (refine gW ?_;intros)
   refine hE.call ?_
   (refine gW ?_;intros)
   exact⟨rfl,Tt⟩
  ·(refine gW ?_;intros)
   refine hA.call ?_
   (refine gW ?_;intros)
   refine hB.call ?_
   (refine gW ?_;intros)
   refine hC.call ?_
   (refine gW ?_;intros)
   refine hD.call ?_
   (refine gW ?_;intros)
   refine hE.call ?_
   (refine gW ?_;intros)
   exact⟨rfl,Tt⟩
 ·(refine gW ?_;intros)
  refine hA.call ?_
  (refine gW ?_;intros)
  refine hB.call ?_
  (refine gW ?_;intros)
  refine hC.call ?_
  (refine gW ?_;intros)
  refine hD.call ?_
  (refine gW ?_;intros)
  exact⟨rfl,Tt⟩
end Go.Proofs.YtkjmomadndmeaaaGreatDoor
