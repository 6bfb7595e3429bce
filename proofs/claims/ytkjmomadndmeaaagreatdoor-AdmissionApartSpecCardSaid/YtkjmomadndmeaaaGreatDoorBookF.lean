import Derived.Test.YtkjmomadndmeaaaGreatDoorRuleE
namespace Go.Proofs.YtkjmomadndmeaaaGreatDoor
set_option linter.unusedSimpArgs false
set_option linter.unusedVariables false
open Go Go.Ab
set_option maxRecDepth 100000
set_option maxHeartbeats 0
structure Crs where
 name:ByteArray
 number:Int
 credits:Int
 rep:Int
 need:Rule
 bar:Rule
 deriving Inhabited
def eCrs (c:Crs):List D:=[.str c.name,di c.number,di c.credits,di c.rep,di c.need.op,di c.need.course,.str c.need.name,di c.need.n,di c.need.d,eRules c.need.kids,
 di c.bar.op,di c.bar.course,.str c.bar.name,di c.bar.n,di c.bar.d,eRules c.bar.kids]
def eCrss (xs:List Crs):D:=.sl 16 xs.length fun i=>eCrs (xs.getD i default)
def eStrs (xs:List ByteArray):D:=.sl 1 xs.length fun i=>[.str (xs.getD i default)]
structure Req where
 name:ByteArray
 credits:Int
 grade:Int
 home:Bool
 names:List ByteArray
 fr:List Int
 deriving Inhabited
def eReq (q:Req):List D:=[.str q.name,di q.credits,di q.grade,.bool q.home,eStrs q.names,eInts q.fr]
def eReqs (xs:List Req):D:=.sl 6 xs.length fun i=>eReq (xs.getD i default)
structure Prg where
 name:ByteArray
 number:Int
 uses:Int
 earn:Int
 mn:Int
 md:Int
 reqs:List Req
 deriving Inhabited
def ePrg (p:Prg):List D:=[.str p.name,di p.number,di p.uses,di p.earn,di p.mn,di p.md,eReqs p.reqs]
def ePrgs (xs:List Prg):D:=.sl 7 xs.length fun i=>ePrg (xs.getD i default)
structure Cls where
 name:ByteArray
 earn:Int
 mn:Int
 md:Int
 deriving Inhabited
def eCls (x:Cls):List D:=[.str x.name,di x.earn,di x.mn,di x.md]
def eClss (xs:List Cls):D:=.sl 4 xs.length fun i=>eCls (xs.getD i default)
structure Fee where
 name:ByteArray
 credits:Int
 deriving Inhabited
def eFee (x:Fee):List D:=[.str x.name,di x.credits]
def eFees (xs:List Fee):D:=.sl 2 xs.length fun i=>eFee (xs.getD i default)
structure Cla where
 kind:Int
 whn:Int
 action:Int
 til:Int
 deriving Inhabited
def eCla (x:Cla):List D:=[di x.kind,di x.whn,di x.action,di x.til]
def eClas (xs:List Cla):D:=.sl 4 xs.length fun i=>eCla (xs.getD i default)
structure Sys where
 classes:List Cls
 fees:List Fee
 honours:List Cls
 clauses:List Cla
 deriving Inhabited
def eSys (s:Sys):List D:=[eClss s.classes,eFees s.fees,eClss s.honours,eClas s.clauses]
def eSyss (xs:List Sys):D:=.sl 4 xs.length fun i=>eSys (xs.getD i default)
structure Pai where
 a:ByteArray
 b:ByteArray
 x:Int
 y:Int
 deriving Inhabited
structure Fct where
 kind:Int
 subject:Int
 object:Int
 value:Int
 fr:Int
 til:Int
 known:Int
 no:Int
 deriving Inhabited,DecidableEq
def eFct (f:Fct):List D:=[di f.kind,di f.subject,di f.object,di f.value,di f.fr,di f.til,di f.known,di f.no]
def eFcts (xs:List Fct):D:=.sl 8 xs.length fun i=>eFct (xs.getD i default)
structure Red where
 kind:Int
 subject:Int
 object:Int
 fr:Int
 til:Int
 deriving Inhabited,DecidableEq
def eRed (r:Red):List D:=[di r.kind,di r.subject,di r.object,di r.fr,di r.til]
def eReds (xs:List Red):D:=.sl 5 xs.length fun i=>eRed (xs.getD i default)
def fitL {α:Type}(xs:List α):Prop:=xs.length<=9223372036854775807
theorem in_ok (n lo hi:Int):Pure Tryz.prog 99 [di n,di lo,di hi] [.bool (bw n lo hi)]:=by
 refine pure_rule hT (T:=tab) (N:=15) (rs:=[.tmp 6]) Tryz.func99 rfl rfl rfl Kr rfl ?_
 by_cases h1:lo<=n<;>by_cases h2:n<=hi<;>((refine gW ?_;intros))<;>(refine⟨congrArg D.bool ?_,Tt⟩)<;>simp[bw,h1,h2]
theorem chkR_or (r:Rule):chkR r=0\/chkR r=120:=by
 unfold chkR
 split
 .exact .inl rfl
 .exact .inr rfl
def okR (r:Rule):Bool:=decide (chkR r=0)
def vCrs (c:Crs):Bool:=bw c.number 0 4095&&(bw c.credits 1 60&&(bw c.rep 0 2&&(okR c.need&&okR c.bar)))
def wfCrs (c:Crs):Prop:=wfR c.need/\wfR c.bar
theorem validCourse_ok (c:Crs)(hw:wfCrs c):Pure Tryz.prog 51 [.agg (eCrs c)] [.bool (vCrs c)]:=by
 have hA:=in_ok c.number 0 4095
 have hB:=in_ok c.credits 1 60
 have hC:=in_ok c.rep 0 2
 have hD:=check_ok c.need hw.1
 have hE:=check_ok c.bar hw.2
 unfold vCrs okR
 refine pure_rule hT (T:=tab) (N:=28) (rs:=[.tmp 2]) Tryz.func51 rfl rfl rfl Kr rfl ?_
 cases h1:bw c.number 0 4095<;>rw[h1]at hA
 ·(refine gW ?_;intros)
  refine hA.call ?_
  (refine gW ?_;intros)
  exact⟨rfl,Tt⟩
 cases h2:bw c.credits 1 60<;>rw[h2]at hB
 ·(refine gW ?_;intros)
  refine hA.call ?_
  (refine gW ?_;intros)
  refine hB.call ?_
  (refine gW ?_;intros)
  exact⟨rfl,Tt⟩
 cases h3:bw c.rep 0 2<;>rw[h3]at hC
 ·(refine gW ?_;intros)
  refine hA.call ?_
  (refine gW ?_;intros)
  refine hB.call ?_
  (refine gW ?_;intros)
  refine hC.call ?_
  (refine gW ?_;intros)
  exact⟨rfl,Tt⟩
 rcases chkR_or c.need with h4|h4<;>rw[h4]at hD⊢
 .rcases chkR_or c.bar with h5|h5<;>rw[h5]at hE⊢
  ·(refine gW ?_;intros)
   refine hA.call ?_
   (refine gW ?_;intros)
   refine hB.call ?_
   (refine gW ?_;intros)
   refine hC.call ?_
   (refine gW ?_;intros)
   refine hD.call ?_
   (refine gW ?_;intros)
   refine hE.call ?_
   (refine gW ?_;intros)
   exact⟨rfl,Tt⟩
  ·(refine gW ?_;intros)
   refine hA.call ?_
   (refine gW ?_;intros)
   refine hB.call ?_
   (refine gW ?_;intros)
   refine hC.call ?_
   (refine gW ?_;intros)
   refine hD.call ?_
   (refine gW ?_;intros)
   refine hE.call ?_
   (refine gW ?_;intros)
   exact⟨rfl,Tt⟩
 ·(refine gW ?_;intros)
  refine hA.call ?_
  (refine gW ?_;intros)
  refine hB.call ?_
  (refine gW ?_;intros)
  refine hC.call ?_
  (refine gW ?_;intros)
  refine hD.call ?_
  (refine gW ?_;intros)
  exact⟨rfl,Tt⟩
def wfPrg (p:Prg):Prop:=In .i64 p.mn/\In .i64 p.md/\fitL p.reqs/\∀q∈p.reqs,fitL q.fr
def wfCls (x:Cls):Prop:=In .i64 x.mn/\In .i64 x.md
def wfSys (s:Sys):Prop:=(fitL s.classes/\∀x∈s.classes,wfCls x)/\(fitL s.honours/\∀x∈s.honours,wfCls x)/\fitL s.fees/\fitL s.clauses
structure Bok where
 crs:List Crs
 prg:List Prg
 sys:List Sys
 deriving Inhabited
def eBok (b:Bok):List D:=[eCrss b.crs,ePrgs b.prg,eSyss b.sys]
def wfBok (b:Bok):Prop:=(fitL b.crs/\∀c∈b.crs,wfCrs c)/\(fitL b.prg/\∀p∈b.prg,wfPrg p)/\fitL b.sys/\∀s∈b.sys,wfSys s
structure Kp (p:Prop):Prop where
 h:p
def smCrs (c:Crs):Prop:=cntR c.need<=1000000/\cntR c.bar<=1000000
end Go.Proofs.YtkjmomadndmeaaaGreatDoor
