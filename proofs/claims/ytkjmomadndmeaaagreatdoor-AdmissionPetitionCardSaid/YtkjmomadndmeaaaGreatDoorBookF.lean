/-
  Texts put together: BookA, BookB, BookC, BookD, BookE, BookF.
-/
import Derived.Test.YtkjmomadndmeaaaGreatDoorRuleE
/-
  Chapter 14: catalogues, books and worlds as data; all elements of a list.
-/
namespace Go.Proofs.YtkjmomadndmeaaaGreatDoor
set_option linter.unusedSimpArgs false
set_option linter.unusedVariables false
open Go Go.Ab
set_option maxRecDepth 100000
set_option maxHeartbeats 0
structure Crs where
 name:ByteArray
 number:Int
 credits:Int
 rep:Int
 need:Rule
 bar:Rule
 deriving Inhabited
def eCrs (c:Crs):List D:=[.str c.name,.int .i64 c.number,.int .i64 c.credits,.int .i64 c.rep,.int .i64 c.need.op,.int .i64 c.need.course,.str c.need.name,.int .i64 c.need.n,.int .i64 c.need.d,eRules c.need.kids,
 .int .i64 c.bar.op,.int .i64 c.bar.course,.str c.bar.name,.int .i64 c.bar.n,.int .i64 c.bar.d,eRules c.bar.kids]
def eCrss (xs:List Crs):D:=.sl 16 xs.length fun i=>eCrs (xs.getD i default)
def eStrs (xs:List ByteArray):D:=.sl 1 xs.length fun i=>[.str (xs.getD i default)]
structure Req where
 name:ByteArray
 credits:Int
 grade:Int
 home:Bool
 names:List ByteArray
 fr:List Int
 deriving Inhabited
def eReq (q:Req):List D:=[.str q.name,.int .i64 q.credits,.int .i64 q.grade,.bool q.home,eStrs q.names,eInts q.fr]
def eReqs (xs:List Req):D:=.sl 6 xs.length fun i=>eReq (xs.getD i default)
structure Prg where
 name:ByteArray
 number:Int
 uses:Int
 earn:Int
 mn:Int
 md:Int
 reqs:List Req
 deriving Inhabited
def ePrg (p:Prg):List D:=[.str p.name,.int .i64 p.number,.int .i64 p.uses,.int .i64 p.earn,.int .i64 p.mn,.int .i64 p.md,eReqs p.reqs]
def ePrgs (xs:List Prg):D:=.sl 7 xs.length fun i=>ePrg (xs.getD i default)
structure Cls where
 name:ByteArray
 earn:Int
 mn:Int
 md:Int
 deriving Inhabited
def eCls (x:Cls):List D:=[.str x.name,.int .i64 x.earn,.int .i64 x.mn,.int .i64 x.md]
def eClss (xs:List Cls):D:=.sl 4 xs.length fun i=>eCls (xs.getD i default)
structure Fee where
 name:ByteArray
 credits:Int
 deriving Inhabited
def eFee (x:Fee):List D:=[.str x.name,.int .i64 x.credits]
def eFees (xs:List Fee):D:=.sl 2 xs.length fun i=>eFee (xs.getD i default)
structure Cla where
 kind:Int
 whn:Int
 action:Int
 til:Int
 deriving Inhabited
def eCla (x:Cla):List D:=[.int .i64 x.kind,.int .i64 x.whn,.int .i64 x.action,.int .i64 x.til]
def eClas (xs:List Cla):D:=.sl 4 xs.length fun i=>eCla (xs.getD i default)
structure Sys where
 classes:List Cls
 fees:List Fee
 honours:List Cls
 clauses:List Cla
 deriving Inhabited
def eSys (s:Sys):List D:=[eClss s.classes,eFees s.fees,eClss s.honours,eClas s.clauses]
def eSyss (xs:List Sys):D:=.sl 4 xs.length fun i=>eSys (xs.getD i default)
structure Pai where
 a:ByteArray
 b:ByteArray
 x:Int
 y:Int
 deriving Inhabited
structure Fct where
 kind:Int
 subject:Int
 object:Int
 value:Int
 fr:Int
 til:Int
 known:Int
 no:Int
 deriving Inhabited,DecidableEq
def eFct (f:Fct):List D:=[.int .i64 f.kind,.int .i64 f.subject,.int .i64 f.object,.int .i64 f.value,.int .i64 f.fr,.int .i64 f.til,.int .i64 f.known,.int .i64 f.no]
def eFcts (xs:List Fct):D:=.sl 8 xs.length fun i=>eFct (xs.getD i default)
structure Red where
 kind:Int
 subject:Int
 object:Int
 fr:Int
 til:Int
 deriving Inhabited,DecidableEq
def eRed (r:Red):List D:=[.int .i64 r.kind,.int .i64 r.subject,.int .i64 r.object,.int .i64 r.fr,.int .i64 r.til]
def eReds (xs:List Red):D:=.sl 5 xs.length fun i=>eRed (xs.getD i default)
def fitL {α:Type} (xs:List α):Prop:=xs.length≤9223372036854775807
end Go.Proofs.YtkjmomadndmeaaaGreatDoor
/-
  Chapter 14: which definitions are valid, by the program.
-/
namespace Go.Proofs.YtkjmomadndmeaaaGreatDoor
set_option linter.unusedSimpArgs false
set_option linter.unusedVariables false
open Go Go.Ab
set_option maxRecDepth 100000
set_option maxHeartbeats 0
theorem in_ok (n lo hi:Int):Pure Tryz.prog 99 [.int .i64 n,.int .i64 lo,.int .i64 hi] [.bool (bw n lo hi)]:=by
 refine pure_rule hT (T:=tab) (N:=15) (rs:=[.tmp 6]) Tryz.func99 rfl rfl rfl (by kernel_rfl) rfl ?_
 by_cases h1:lo≤n <;> by_cases h2:n≤hi <;> ((refine gW ?_;intros)) <;> (refine ⟨congrArg D.bool ?_,True.intro⟩) <;> simp [bw,h1,h2]
theorem chkR_or (r:Rule):chkR r=0∨chkR r=120:=by
 unfold chkR
 split
 ·exact .inl rfl
 ·exact .inr rfl
def okR (r:Rule):Bool:=decide (chkR r=0)
def vCrs (c:Crs):Bool:=bw c.number 0 4095 && (bw c.credits 1 60 && (bw c.rep 0 2 && (okR c.need && okR c.bar)))
def wfCrs (c:Crs):Prop:=wfR c.need∧wfR c.bar
theorem validCourse_ok (c:Crs) (hw:wfCrs c):Pure Tryz.prog 51 [.agg (eCrs c)] [.bool (vCrs c)]:=by
 have hA:=in_ok c.number 0 4095
 have hB:=in_ok c.credits 1 60
 have hC:=in_ok c.rep 0 2
 have hD:=check_ok c.need hw.1
 have hE:=check_ok c.bar hw.2
 unfold vCrs okR
 refine pure_rule hT (T:=tab) (N:=28) (rs:=[.tmp 2]) Tryz.func51 rfl rfl rfl (by kernel_rfl) rfl ?_
 cases h1:bw c.number 0 4095 <;> rw [h1] at hA
 ·(refine gW ?_;intros)
  refine hA.call ?_
  (refine gW ?_;intros)
  exact ⟨rfl,True.intro⟩
 cases h2:bw c.credits 1 60 <;> rw [h2] at hB
 ·(refine gW ?_;intros)
  refine hA.call ?_
  (refine gW ?_;intros)
  refine hB.call ?_
  (refine gW ?_;intros)
  exact ⟨rfl,True.intro⟩
 cases h3:bw c.rep 0 2 <;> rw [h3] at hC
 ·(refine gW ?_;intros)
  refine hA.call ?_
  (refine gW ?_;intros)
  refine hB.call ?_
  (refine gW ?_;intros)
  refine hC.call ?_
  (refine gW ?_;intros)
  exact ⟨rfl,True.intro⟩
 rcases chkR_or c.need with h4 | h4 <;> rw [h4] at hD ⊢
 ·rcases chkR_or c.bar with h5 | h5 <;> rw [h5] at hE ⊢
  ·(refine gW ?_;intros)
   refine hA.call ?_
   (refine gW ?_;intros)
   refine hB.call ?_
   (refine gW ?_;intros)
   refine hC.call ?_
   (refine gW ?_;intros)
   refine hD.call ?_
   (refine gW ?_;intros)
   refine hE.call ?_
   (refine gW ?_;intros)
   exact ⟨rfl,True.intro⟩
  ·(refine gW ?_;intros)
   refine hA.call ?_
   (refine gW ?_;intros)
   refine hB.call ?_
   (refine gW ?_;intros)
   refine hC.call ?_
   (refine gW ?_;intros)
   refine hD.call ?_
   (refine gW ?_;intros)
   refine hE.call ?_
   (refine gW ?_;intros)
   exact ⟨rfl,True.intro⟩
 ·(refine gW ?_;intros)
  refine hA.call ?_
  (refine gW ?_;intros)
  refine hB.call ?_
  (refine gW ?_;intros)
  refine hC.call ?_
  (refine gW ?_;intros)
  refine hD.call ?_
  (refine gW ?_;intros)
  exact ⟨rfl,True.intro⟩
def wfPrg (p:Prg):Prop:=In .i64 p.mn∧In .i64 p.md∧fitL p.reqs∧∀ q∈p.reqs,fitL q.fr
def wfCls (x:Cls):Prop:=In .i64 x.mn∧In .i64 x.md
def wfSys (s:Sys):Prop:=(fitL s.classes∧∀ x∈s.classes,wfCls x)∧(fitL s.honours∧∀ x∈s.honours,wfCls x)∧fitL s.fees∧fitL s.clauses
structure Bok where
 crs:List Crs
 prg:List Prg
 sys:List Sys
 deriving Inhabited
def eBok (b:Bok):List D:=[eCrss b.crs,ePrgs b.prg,eSyss b.sys]
def wfBok (b:Bok):Prop:=(fitL b.crs∧∀ c∈b.crs,wfCrs c)∧(fitL b.prg∧∀ p∈b.prg,wfPrg p)∧fitL b.sys∧∀ s∈b.sys,wfSys s
end Go.Proofs.YtkjmomadndmeaaaGreatDoor
/-
  Chapter 14: which rules are valid, by the reference.
-/
namespace Go.Proofs.YtkjmomadndmeaaaGreatDoor
set_option linter.unusedSimpArgs false
set_option linter.unusedVariables false
open Go Go.Ab
set_option maxRecDepth 100000
set_option maxHeartbeats 0
end Go.Proofs.YtkjmomadndmeaaaGreatDoor
/-
  Chapter 14: which rules are valid, by the reference: Check.
-/
namespace Go.Proofs.YtkjmomadndmeaaaGreatDoor
set_option linter.unusedSimpArgs false
set_option linter.unusedVariables false
open Go Go.Ab
set_option maxRecDepth 100000
set_option maxHeartbeats 0
end Go.Proofs.YtkjmomadndmeaaaGreatDoor
/-
  Chapter 14: which definitions are valid, by the reference.
-/
namespace Go.Proofs.YtkjmomadndmeaaaGreatDoor
set_option linter.unusedSimpArgs false
set_option linter.unusedVariables false
open Go Go.Ab
set_option maxRecDepth 100000
set_option maxHeartbeats 0
structure Kp (p:Prop):Prop where
 h:p
def smCrs (c:Crs):Prop:=cntR c.need≤1000000∧cntR c.bar≤1000000
end Go.Proofs.YtkjmomadndmeaaaGreatDoor
/-
  Chapter 14: which definitions are valid, by the reference: systems, programmes, books.
-/
namespace Go.Proofs.YtkjmomadndmeaaaGreatDoor
set_option linter.unusedSimpArgs false
set_option linter.unusedVariables false
open Go Go.Ab
set_option maxRecDepth 100000
set_option maxHeartbeats 0
end Go.Proofs.YtkjmomadndmeaaaGreatDoor
