import Derived.Test.YtmlhghddfobmmaaGreatDoorBookA
import Derived.Test.YtmlhghddfobmmaaGreatDoorRuleC
import Derived.Test.YtmlhghddfobmmaaGreatDoorEngAE
import Derived.Lib.AppendZerosOnto
import Derived.Lib.Overlaps
import Derived.Laws.CopyRow
import Derived.Test.YtmlhghddfobmmaaGreatDoorEngAP
import Derived.Laws.MakeOwn
namespace Go.Proofs.YtmlhghddfobmmaaGreatDoor
set_option linter.unusedSimpArgs false
set_option linter.unusedVariables false
open Go Go.Ab
set_option maxRecDepth 100000
set_option maxHeartbeats 0
theorem in_ok (n lo hi:Int):Pure Tryz.prog 74 [di n,di lo,di hi] [.bool (bw n lo hi)]:=by
 refine pure_rule hT (T:=tab) (N:=15) (rs:=[.tmp 6]) Tryz.func74 rfl rfl rfl Kr rfl ?_
 by_cases h1:lo<=n<;>by_cases h2:n<=hi<;>((refine gW ?_;intros))<;>(refine⟨congrArg D.bool ?_,Tt⟩)<;>simp[bw,h1,h2]
theorem isMean_ok (n d:Int)(hn:In .i64 n)(hd:In .i64 d):Pure Tryz.prog 147 [.agg [di n,di d]] [.bool (meanQ n d)]:=by
 refine pure_rule hT (T:=tab) (N:=14) (rs:=[.tmp 2]) Tryz.func147 rfl rfl rfl Kr rfl ?_
 have hC:=chk_ok n d hn hd
 by_cases h0:chkQ n d=0
 .have h1:=chkQ_zero h0
  rw[h0]at hC
  have hM:meanQ n d=bw n 0 (12*d):=by simp[meanQ,h0]
  rw[hM]
  (refine gW ?_;intros)
  refine hC.call ?_
  (refine gW ?_;intros)
  refine(in_ok n 0 (12*d)).call ?_
  (refine gW ?_;intros)
  exact⟨rfl,Tt⟩
 ·(refine gW ?_;intros)
  refine hC.call ?_
  (refine gW ?_;intros)
  refine⟨congrArg D.bool ?_,Tt⟩
  simp[meanQ,h0]
theorem chkR_or (r:Rule):chkR r=0\/chkR r=120:=by
 unfold chkR
 split
 .exact .inl rfl
 .exact .inr rfl
def okR (r:Rule):Bool:=decide (chkR r=0)
def vCrs (c:Crs):Bool:=bw c.number 0 4095&&(bw c.credits 1 60&&(bw c.rep 0 2&&(okR c.need&&okR c.bar)))
def wfCrs (c:Crs):Prop:=wfR c.need/\wfR c.bar
theorem validCourse_ok (c:Crs)(hw:wfCrs c):Pure Tryz.prog 88 [.agg (eCrs c)] [.bool (vCrs c)]:=by
 have hA:=in_ok c.number 0 4095
 have hB:=in_ok c.credits 1 60
 have hC:=in_ok c.rep 0 2
 have hD:=check_ok c.need hw.1
 have hE:=check_ok c.bar hw.2
 unfold vCrs okR
 refine pure_rule hT (T:=tab) (N:=28) (rs:=[.tmp 2]) Tryz.func88 rfl rfl rfl Kr rfl ?_
 cases h1:bw c.number 0 4095<;>rw[h1]at hA
 ·(refine gW ?_;intros)
  refine hA.call ?_
  (refine gW ?_;intros)
  exact⟨rfl,Tt⟩
 cases h2:bw c.credits 1 60<;>rw[h2]at hB
 ·(refine gW ?_;intros)
  refine hA.call ?_
  (refine gW ?_;intros)
  refine hB.call ?_
  (refine gW ?_;intros)
  exact⟨rfl,Tt⟩
 cases h3:bw c.rep 0 2<;>rw[h3]at hC
 ·(refine gW ?_;intros)
  refine hA.call ?_
  (refine gW ?_;intros)
  refine hB.call ?_
  (refine gW ?_;intros)
  refine hC.call ?_
  (refine gW ?_;intros)
  exact⟨rfl,Tt⟩
 rcases chkR_or c.need with h4|h4<;>rw[h4]at hD⊢
 .rcases chkR_or c.bar with h5|h5<;>rw[h5]at hE⊢
  ·(refine gW ?_;intros)
   refine hA.call ?_
   (refine gW ?_;intros)
   refine hB.call ?_
   (refine gW ?_;intros)
   refine hC.call ?_
   (refine gW ?_;intros)
   refine hD.call ?_
   (refine gW ?_;intros)
   refine hE.call ?_
   (refine gW ?_;intros)
   exact⟨rfl,Tt⟩
  ·(refine gW ?_;intros)
   refine hA.call ?_
   (refine gW ?_;intros)
   refine hB.call ?_
   (refine gW ?_;intros)
   refine hC.call ?_
   (refine gW ?_;intros)
   refine hD.call ?_
   (refine gW ?_;intros)
   refine hE.call ?_
   (refine gW ?_;intros)
   exact⟨rfl,Tt⟩
 ·(refine gW ?_;intros)
  refine hA.call ?_
  (refine gW ?_;intros)
  refine hB.call ?_
  (refine gW ?_;intros)
  refine hC.call ?_
  (refine gW ?_;intros)
  refine hD.call ?_
  (refine gW ?_;intros)
  exact⟨rfl,Tt⟩
def vNum (n:Int):Bool:=bw n 0 4095
theorem validNum_ok (n:Int):Pure Tryz.prog 188 [di n] [.bool (vNum n)]:=by
 refine pure_rule hT (T:=tab) (N:=5) (rs:=[.tmp 2]) Tryz.func188 rfl rfl rfl Kr rfl ?_
 (refine gW ?_;intros)
 refine(in_ok n 0 4095).call ?_
 (refine gW ?_;intros)
 exact⟨rfl,Tt⟩
def vReq (q:Req):Bool:=bw q.credits 1 10000&&(bw q.grade 0 12&&q.fr.all vNum)
theorem validReq_ok (q:Req)(hf:fitL q.fr):Pure Tryz.prog 149 [.agg (eReq q)] [.bool (vReq q)]:=by
 have hA:=in_ok q.credits 1 10000
 have hB:=in_ok q.grade 0 12
 have hC:=allNum_ok q.fr hf 188 vNum fun s _=>validNum_ok s
 unfold vReq
 refine pure_rule hT (T:=tab) (N:=18) (rs:=[.tmp 2]) Tryz.func149 rfl rfl rfl Kr rfl ?_
 cases h1:bw q.credits 1 10000<;>rw[h1]at hA
 ·(refine gW ?_;intros)
  refine hA.call ?_
  (refine gW ?_;intros)
  exact⟨rfl,Tt⟩
 cases h2:bw q.grade 0 12<;>rw[h2]at hB
 ·(refine gW ?_;intros)
  refine hA.call ?_
  (refine gW ?_;intros)
  refine hB.call ?_
  (refine gW ?_;intros)
  exact⟨rfl,Tt⟩
 (refine gW ?_;intros)
 refine hA.call ?_
 (refine gW ?_;intros)
 refine hB.call ?_
 (refine gW ?_;intros)
 refine hC.call ?_
 (refine gW ?_;intros)
 exact⟨rfl,Tt⟩
def wfPrg (p:Prg):Prop:=In .i64 p.mn/\In .i64 p.md/\fitL p.reqs/\∀q∈p.reqs,fitL q.fr
def vPrg (p:Prg):Bool:=bw p.number 0 255&&(bw p.uses 1 4&&(bw p.earn 0 10000&&(meanQ p.mn p.md&&(decide (p.reqs.length<=64)&&p.reqs.all vReq))))
theorem validPrg_ok (p:Prg)(hw:wfPrg p):Pure Tryz.prog 90 [.agg (ePrg p)] [.bool (vPrg p)]:=by
 have hA:=in_ok p.number 0 255
 have hB:=in_ok p.uses 1 4
 have hC:=in_ok p.earn 0 10000
 have hD:=isMean_ok p.mn p.md hw.1 hw.2.1
 have hE:=allReq_ok p.reqs hw.2.2.1 149 vReq fun q hq=>validReq_ok q (hw.2.2.2 q hq)
 unfold vPrg
 refine pure_rule hT (T:=tab) (N:=32) (rs:=[.tmp 2]) Tryz.func90 rfl rfl rfl Kr rfl ?_
 cases h1:bw p.number 0 255<;>rw[h1]at hA
 ·(refine gW ?_;intros)
  refine hA.call ?_
  (refine gW ?_;intros)
  exact⟨rfl,Tt⟩
 cases h2:bw p.uses 1 4<;>rw[h2]at hB
 ·(refine gW ?_;intros)
  refine hA.call ?_
  (refine gW ?_;intros)
  refine hB.call ?_
  (refine gW ?_;intros)
  exact⟨rfl,Tt⟩
 cases h3:bw p.earn 0 10000<;>rw[h3]at hC
 ·(refine gW ?_;intros)
  refine hA.call ?_
  (refine gW ?_;intros)
  refine hB.call ?_
  (refine gW ?_;intros)
  refine hC.call ?_
  (refine gW ?_;intros)
  exact⟨rfl,Tt⟩
 cases h4:meanQ p.mn p.md<;>rw[h4]at hD
 ·(refine gW ?_;intros)
  refine hA.call ?_
  (refine gW ?_;intros)
  refine hB.call ?_
  (refine gW ?_;intros)
  refine hC.call ?_
  (refine gW ?_;intros)
  refine hD.call ?_
  (refine gW ?_;intros)
  exact⟨rfl,Tt⟩
 have hfl:p.reqs.length<=9223372036854775807:=hw.2.2.1
 by_cases h5:p.reqs.length<=64
 .rw[decide_eq_true h5]
  have h6:((p.reqs.length:Nat):Int)<=64:=by omega
  (refine gW ?_;intros)
  refine hA.call ?_
  (refine gW ?_;intros)
  refine hB.call ?_
  (refine gW ?_;intros)
  refine hC.call ?_
  (refine gW ?_;intros)
  refine hD.call ?_
  (refine gW ?_;intros)
  refine hE.call ?_
  (refine gW ?_;intros)
  refine⟨congrArg D.bool ?_,Tt⟩
  simp[h6]
 .rw[decide_eq_false h5]
  have h6:¬ ((p.reqs.length:Nat):Int)<=64:=by omega
  (refine gW ?_;intros)
  refine hA.call ?_
  (refine gW ?_;intros)
  refine hB.call ?_
  (refine gW ?_;intros)
  refine hC.call ?_
  (refine gW ?_;intros)
  refine hD.call ?_
  (refine gW ?_;intros)
  refine⟨congrArg D.bool ?_,Tt⟩
  simp[h6]
def vCls (x:Cls):Bool:=bw x.earn 0 10000&&meanQ x.mn x.md
def vFee (x:Fee):Bool:=bw x.credits 0 10000
def vCla (x:Cla):Bool:=bw x.kind 1 5&&(bw x.whn 0 2&&(bw x.action 1 3&&bw x.til 0 12))
theorem validFee_ok (x:Fee):Pure Tryz.prog 153 [.agg (eFee x)] [.bool (vFee x)]:=by
 refine pure_rule hT (T:=tab) (N:=6) (rs:=[.tmp 2]) Tryz.func153 rfl rfl rfl Kr rfl ?_
 (refine gW ?_;intros)
 refine(in_ok x.credits 0 10000).call ?_
 (refine gW ?_;intros)
 exact⟨rfl,Tt⟩
theorem validCls_ok (x:Cls)(hn:In .i64 x.mn)(hd:In .i64 x.md):Pure Tryz.prog 152 [.agg (eCls x)] [.bool (vCls x)]:=by
 have hA:=in_ok x.earn 0 10000
 have hD:=isMean_ok x.mn x.md hn hd
 unfold vCls
 refine pure_rule hT (T:=tab) (N:=11) (rs:=[.tmp 2]) Tryz.func152 rfl rfl rfl Kr rfl ?_
 cases h1:bw x.earn 0 10000<;>rw[h1]at hA
 ·(refine gW ?_;intros)
  refine hA.call ?_
  (refine gW ?_;intros)
  exact⟨rfl,Tt⟩
 ·(refine gW ?_;intros)
  refine hA.call ?_
  (refine gW ?_;intros)
  refine hD.call ?_
  (refine gW ?_;intros)
  exact⟨rfl,Tt⟩
theorem validCla_ok (x:Cla):Pure Tryz.prog 154 [.agg (eCla x)] [.bool (vCla x)]:=by
 have hA:=in_ok x.kind 1 5
 have hB:=in_ok x.whn 0 2
 have hC:=in_ok x.action 1 3
 have hD:=in_ok x.til 0 12
 unfold vCla
 refine pure_rule hT (T:=tab) (N:=21) (rs:=[.tmp 2]) Tryz.func154 rfl rfl rfl Kr rfl ?_
 cases h1:bw x.kind 1 5<;>rw[h1]at hA
 ·(refine gW ?_;intros)
  refine hA.call ?_
  (refine gW ?_;intros)
  exact⟨rfl,Tt⟩
 cases h2:bw x.whn 0 2<;>rw[h2]at hB
 ·(refine gW ?_;intros)
  refine hA.call ?_
  (refine gW ?_;intros)
  refine hB.call ?_
  (refine gW ?_;intros)
  exact⟨rfl,Tt⟩
 cases h3:bw x.action 1 3<;>rw[h3]at hC
 ·(refine gW ?_;intros)
  refine hA.call ?_
  (refine gW ?_;intros)
  refine hB.call ?_
  (refine gW ?_;intros)
  refine hC.call ?_
  (refine gW ?_;intros)
  exact⟨rfl,Tt⟩
 (refine gW ?_;intros)
 refine hA.call ?_
 (refine gW ?_;intros)
 refine hB.call ?_
 (refine gW ?_;intros)
 refine hC.call ?_
 (refine gW ?_;intros)
 refine hD.call ?_
 (refine gW ?_;intros)
 exact⟨rfl,Tt⟩
def wfCls (x:Cls):Prop:=In .i64 x.mn/\In .i64 x.md
def wfSys (s:Sys):Prop:=(fitL s.classes/\∀x∈s.classes,wfCls x)/\(fitL s.honours/\∀x∈s.honours,wfCls x)/\fitL s.fees/\fitL s.clauses
def vSys (s:Sys):Bool:=s.classes.all vCls&&(s.honours.all vCls&&(s.fees.all vFee&&s.clauses.all vCla))
theorem validSys_ok (s:Sys)(hw:wfSys s):Pure Tryz.prog 92 [.agg (eSys s)] [.bool (vSys s)]:=by
 have hA:=allCls_ok s.classes hw.1.1 152 vCls fun x hx=>validCls_ok x (hw.1.2 x hx).1 (hw.1.2 x hx).2
 have hB:=allCls_ok s.honours hw.2.1.1 152 vCls fun x hx=>validCls_ok x (hw.2.1.2 x hx).1 (hw.2.1.2 x hx).2
 have hC:=allFee_ok s.fees hw.2.2.1 153 vFee fun x hx=>validFee_ok x
 have hD:=allCla_ok s.clauses hw.2.2.2 154 vCla fun x hx=>validCla_ok x
 unfold vSys
 refine pure_rule hT (T:=tab) (N:=28) (rs:=[.tmp 2]) Tryz.func92 rfl rfl rfl Kr rfl ?_
 cases h1:s.classes.all vCls<;>rw[h1]at hA
 ·(refine gW ?_;intros)
  refine hA.call ?_
  (refine gW ?_;intros)
  exact⟨rfl,Tt⟩
 cases h2:s.honours.all vCls<;>rw[h2]at hB
 ·(refine gW ?_;intros)
  refine hA.call ?_
  (refine gW ?_;intros)
  refine hB.call ?_
  (refine gW ?_;intros)
  exact⟨rfl,Tt⟩
 cases h3:s.fees.all vFee<;>rw[h3]at hC
 ·(refine gW ?_;intros)
  refine hA.call ?_
  (refine gW ?_;intros)
  refine hB.call ?_
  (refine gW ?_;intros)
  refine hC.call ?_
  (refine gW ?_;intros)
  exact⟨rfl,Tt⟩
 (refine gW ?_;intros)
 refine hA.call ?_
 (refine gW ?_;intros)
 refine hB.call ?_
 (refine gW ?_;intros)
 refine hC.call ?_
 (refine gW ?_;intros)
 refine hD.call ?_
 (refine gW ?_;intros)
 exact⟨rfl,Tt⟩
structure Bok where
 crs:List Crs
 prg:List Prg
 sys:List Sys
 deriving Inhabited
def eBok (b:Bok):List D:=[eCrss b.crs,ePrgs b.prg,eSyss b.sys]
def wfBok (b:Bok):Prop:=(fitL b.crs/\∀c∈b.crs,wfCrs c)/\(fitL b.prg/\∀p∈b.prg,wfPrg p)/\fitL b.sys/\∀s∈b.sys,wfSys s
def chkB (b:Bok):Int:=if b.crs.all vCrs&&(b.prg.all vPrg&&b.sys.all vSys) then 0 else 140
theorem bcheck_ok (b:Bok)(hw:wfBok b):Pure Tryz.prog 19 [.agg (eBok b)] [di (chkB b)]:=by
 have hA:=allCrs_ok b.crs hw.1.1 88 vCrs fun x hx=>validCourse_ok x (hw.1.2 x hx)
 have hB:=allPrg_ok b.prg hw.2.1.1 90 vPrg fun x hx=>validPrg_ok x (hw.2.1.2 x hx)
 have hC:=allSys_ok b.sys hw.2.2.1 92 vSys fun x hx=>validSys_ok x (hw.2.2.2 x hx)
 unfold chkB
 refine pure_rule hT (T:=tab) (N:=19) (rs:=[.tmp 2]) Tryz.func19 rfl rfl rfl Kr rfl ?_
 cases h1:b.crs.all vCrs<;>rw[h1]at hA
 ·(refine gW ?_;intros)
  refine hA.call ?_
  (refine gW ?_;intros)
  exact⟨rfl,Tt⟩
 cases h2:b.prg.all vPrg<;>rw[h2]at hB
 ·(refine gW ?_;intros)
  refine hA.call ?_
  (refine gW ?_;intros)
  refine hB.call ?_
  (refine gW ?_;intros)
  exact⟨rfl,Tt⟩
 cases h3:b.sys.all vSys<;>rw[h3]at hC
 ·(refine gW ?_;intros)
  refine hA.call ?_
  (refine gW ?_;intros)
  refine hB.call ?_
  (refine gW ?_;intros)
  refine hC.call ?_
  (refine gW ?_;intros)
  exact⟨rfl,Tt⟩
 ·(refine gW ?_;intros)
  refine hA.call ?_
  (refine gW ?_;intros)
  refine hB.call ?_
  (refine gW ?_;intros)
  refine hC.call ?_
  (refine gW ?_;intros)
  exact⟨rfl,Tt⟩
structure Kp (p:Prop):Prop where
 h:p
def smCrs (c:Crs):Prop:=cntR c.need<=1000000/\cntR c.bar<=1000000
def DEqL:List D->List D->Prop
 |[],[]=>True
 |x::r,y::s=>DEq x y/\DEqL r s
 |_,_=>False
theorem DEqL.len:∀{xs ys:List D},DEqL xs ys->xs.length=ys.length
 |[],[],_=>rfl
 |_::_,_::_,h=>by simp[DEqL.len h.2]
 |[],_::_,h=>h.elim
 |_::_,[],h=>h.elim
theorem DEqL.at:∀{xs ys:List D},DEqL xs ys->∀(j:Nat) y,ys[j]?=some y->∃x,xs[j]?=some x/\DEq x y
 |[],[],_,j,y,h=>by simp at h
 | a :: r,b :: s,h,j,y,hy=>by
   cases j with
   |zero=>simp at hy;subst hy;exact⟨a,by simp,h.1⟩
   |succ j=>simpa using DEqL.at h.2 j y (by simpa using hy)
 |[],_::_,h,_,_,_=>h.elim
 |_::_,[],h,_,_,_=>h.elim
theorem deqP {P:Program}{f:FuncId}{ds dargs res:List D}(h:Pure P f dargs res)(ha:DEqL ds dargs):Pure P f ds res :=
 ⟨h.1,fun F w vals hF hG hl hv=>h.2 F w vals hF hG (by rw [hl,ha.len]) (fun j y u hy hu=>by
  obtain⟨x,hx,e⟩:=ha.at j y hy
  exact DEq.ok (hv j x u hx hu) e)⟩
theorem rfD {α:Type}[Inhabited α](e:α->List D)(b:α)(f:Nat->List D)(h:f 0=e b)(sz:Nat):DEq (.sl sz 1 f) (.sl sz 1 fun i=>e ([b].getD i default)) :=
 ⟨rfl,rfl,fun i hi=>by rw[show i=0 from Nat.lt_one_iff.1 hi];exact h⟩
def cmpI (a b:Int):Int:=if a<b then -1 else if b<a then 1 else 0
theorem isNaN_ok (a:Int):Pure Tryz.prog 212 [di a] [.bool false]:=by
 refine pure_rule hT (T:=tab) (N:=6) (rs:=[.tmp 2]) Tryz.func212 rfl rfl rfl Kr rfl ?_
 (refine gW ?_;intros)
 refine⟨congrArg D.bool ?_,Tt⟩
 simp
theorem cmpI_ok (a b:Int):Pure Tryz.prog 166 [di a,di b] [di (cmpI a b)]:=by
 refine pure_rule hT (T:=tab) (N:=20) (rs:=[.tmp 4]) Tryz.func166 rfl rfl rfl Kr rfl ?_
 (refine gW ?_;intros)
 refine(isNaN_ok a).call ?_
 (refine gW ?_;intros)
 refine(isNaN_ok b).call ?_
 rcases Int.lt_trichotomy a b with h|h|h
 .rw[cmpI,if_pos h]
  (refine gW ?_;intros)
  exact⟨rfl,Tt⟩
 .rw[cmpI,if_neg Om,if_neg Om]
  (refine gW ?_;intros)
  exact⟨rfl,Tt⟩
 .rw[cmpI,if_neg Om,if_pos h]
  (refine gW ?_;intros)
  exact⟨rfl,Tt⟩
theorem orI_ok (xs:List Int)(hx:xs.length<=1000000):Pure Tryz.prog 165 [eInts xs] [di ((xs.find? fun n=>decide (n≠0)).getD 0)]:=by
 refine pure_rule hT (T:=tab) (N:=18) (rs:=[.tmp 2]) Tryz.func165 rfl rfl rfl Kr rfl ?_
 (refine gW ?_;intros)
 refine loop_rule hT (S:=Nat) (fun k=>([(3,dV 0),(6,.d (eInts xs)),(7,dV xs.length),(8,dV k)],⟨[],[]⟩)) (fun k=>k<=xs.length/\xs.find? (fun n=>decide (n≠0))=(xs.drop k).find? fun n=>decide (n≠0)) (fun k=>xs.length-k) 0 ?_ ?_ ?_
 .exact lq
 .exact⟨Nat.zero_le _,rfl⟩
 .rintro k ⟨hk,hc⟩
  by_cases hk2:k<xs.length
  .rw[drop_at hk2,List.find?_cons]at hc
   by_cases hz:xs.getD k default=0
   .rw[decide_eq_false (by simpa using hz)]at hc
    (refine gW ?_;intros)
    refine stp (k+1) ?_ ⟨by show k+1<=xs.length;omega,hc⟩
    exact lq
   .rw[decide_eq_true hz]at hc
    rw[hc]
    (refine gW ?_;intros)
    exact⟨rfl,Tt⟩
  .rw[drop_end Om,List.find?_nil]at hc
   rw[hc]
   (refine gW ?_;intros)
   exact⟨rfl,Tt⟩
def fctC (a b:Fct):Int:=if cmpI a.known b.known=0 then cmpI a.no b.no else cmpI a.known b.known
theorem fcompare_ok (a b:Fct):Pure Tryz.prog 111 [.agg (eFct a),.agg (eFct b)] [di (fctC a b)]:=by
 refine pure_rule hT (T:=tab) (N:=17) (rs:=[.tmp 4]) Tryz.func111 rfl rfl rfl Kr rfl ?_
 have h:=orI_ok [cmpI a.known b.known,cmpI a.no b.no] (show 2<=1000000 by decide)
 have e:([cmpI a.known b.known,cmpI a.no b.no].find? fun n=>decide (n≠0)).getD 0=fctC a b:=by
  unfold fctC
  by_cases h1:cmpI a.known b.known=0
  .by_cases h2:cmpI a.no b.no=0<;>simp[h1,h2]
  .simp[h1]
 rw[e]at h
 (refine gW ?_;intros)
 refine qC (cmpI_ok a.known b.known) ?_
 (refine gW ?_;intros)
 refine qC (cmpI_ok a.no b.no) ?_
 (refine gW ?_;intros)
 refine qC (deqP (ds:=[.sl 1 2 _]) h ⟨⟨rfl,rfl,fun i hi=>?_⟩,Tt⟩) ?_
 .have hi:i<2:=hi
  rcases show i=0\/i=1 by omega with rfl|rfl<;>rfl
 (refine gW ?_;intros)
 exact⟨rfl,Tt⟩
def befF (a b:Fct):Bool:=decide (a.known<b.known)||(decide (a.known=b.known)&&decide (a.no<b.no))
theorem fctC_bef (a b:Fct):decide (0<=fctC a b)=!befF a b:=by
 unfold fctC cmpI befF
 rw[Bool.eq_iff_iff]
 split<;>(try split)<;>(try split)<;>simp<;>omega
structure Ke where
 kind:Int
 subject:Int
 object:Int
 deriving Inhabited,DecidableEq
def eKe (k:Ke):List D:=[di k.kind,di k.subject,di k.object]
def kOf (f:Fct):Ke:=⟨f.kind,f.subject,f.object⟩
theorem kOf_eq (f:Fct)(k:Ke):kOf f=k↔f.kind=k.kind/\f.subject=k.subject/\f.object=k.object:=by
 cases k
 simp[kOf]
def hitK (k:Ke)(kn:Int)(f:Fct):Bool:=decide (kOf f=k)&&decide (f.known<=kn)
def hitT (t:Int)(f:Fct):Bool:=decide (f.fr<=t)&&decide (t<f.til)
def zF:Fct:=⟨0,0,0,0,0,0,0,0⟩
def stepF (t:Int)(b:Option Fct)(f:Fct):Option Fct:=if hitT t f&&(b.isNone||!befF f (b.getD zF)) then some f else b
def bestF (l:List Fct)(k:Ke)(t kn:Int):Option Fct:=(l.filter (hitK k kn)).foldl (stepF t) none
def atO (b:Option Fct):Int × Bool:=match b with
 |none=>(0,false)
 |some f=>if f.value<0 then(0,false) else(f.value,true)
def atV (l:List Fct)(k:Ke)(t kn:Int):Int × Bool:=atO (bestF l k t kn)
end Go.Proofs.YtmlhghddfobmmaaGreatDoor
namespace Go.Ab
set_option linter.unusedSimpArgs false
set_option linter.unusedVariables false
section
variable {P:Program}{T:Tab}{N:Nat}{w:World}{F:Nat->Prop}{σ:Pls}{m:Mem}{env:Env}{K:AV->Mem->Prop}{o:Oper}
end
section
variable {P:Program}{T:Tab}{N:Nat}{w:World}{F:Nat->Prop}{σ:Pls}{m:Mem}{env:Env}{K:AV->Mem->Prop}{o:Oper}
end
section
variable {P:Program}{T:Tab}{N:Nat}{w:World}{F:Nat->Prop}{σ:Pls}{m:Mem}{env:Env}{K:AV->Mem->Prop}{o:Oper}
theorem Step.same (σ:Pls)(F:Nat->Prop)(w:World):Step σ F w σ F w :=
 ⟨rfl,rfl,rfl,Nat.le_refl _,Nat.le_refl _,fun _ _ _=>rfl,fun _ h=>h,fun _ h=>.inl h,fun _ h=>.inl h⟩
theorem op_isnil {t t':TypeId} {x y:Operand} (hop:o.op=.binOp .eql t x y t') {e:TypeId} (ht:P.underlying t=some (.slice e)) (hy0:y=.const (.slice none 0 0)) {sz n:Nat} {f:Nat→List D} (hx:ev env x=.d (.sl sz n f)) (hK:∀ b:Bool,(b=true→n=0)→K (.d (.bool b)) m):OpVC P o env m K :=
 ⟨fun c h=>(by rw [hop] at h;cases h),fun a w F σ hev hm=>by
  have hv:=ev_ok hev x
  rw[hx]at hv
  obtain⟨A,cap,hval,hA⟩:∃A cap,a.eval x=.slice A n cap/\(A=none->n=0):=by
   cases hv with
   | d h =>
     generalize hvv:a.eval x=v at h
     cases h with
     | sl a0 g hc ha hl hcell h =>
       refine⟨_,_,rfl,fun hn=>?_⟩
       by_cases h0:0<n
       .have:=(ha h0).1
        rw[hn]at this
        cases this
       .omega
  refine⟨_,.bool A.isNone,w,σ,F,.d (.bool A.isNone),_,?_,.inl rfl,hK A.isNone (fun h=>hA (by simpa using h)),.d .bool,hm,Step.same σ F w,SLe.refl σ⟩
  subst hy0
  have hcst:a.eval (.const (.slice none 0 0))=.slice none 0 0:=rfl
  have he:(Op.equalIn Op.maxDepth t (.slice A n cap) (.slice none 0 0)).run P w=.ok A.isNone w:=by
   rw[show Op.maxDepth=(Op.maxDepth-1)+1 from rfl]
   cases A with
   |none=>simp[Op.equalIn,run_underlying ht]
   |some A=>simp[Op.equalIn,run_underlying ht]
  cases A with
  |none=>simp[execOp,hop,hval,hcst,binOp,eqGuard,Op.equal,he]
  |some A=>simp[execOp,hop,hval,hcst,binOp,eqGuard,Op.equal,he]⟩
end
section
variable {P:Program}{T:Tab}{m:Mem}{env:Env}{K:AV->Mem->Prop}{o:Oper}
theorem map_mem {w:World}{sh:Ksh}{has:List Int->Bool}{ks:List (List Int)}{es:Array MapEntry}(hl:ks.length=es.size)(h1:∀(i:Nat) k e,ks[i]?=some k->es[i]?=some e->sh.fits k/\e.key=sh.key k/\has k=true) :
 ∀k∈ks,sh.fits k/\has k=true:=fun k hk=>by
 obtain⟨i,hi,e⟩:=List.getElem_of_mem hk
 have hki:ks[i]?=some k:=by rw[List.getElem?_eq_getElem hi,e]
 have hei:es[i]?=some (es[i]'Om):=Array.getElem?_eq_getElem Om
 exact⟨(h1 i k _ hki hei).1,(h1 i k _ hki hei).2.2⟩
theorem op_len_map (hT:TabOk P T){t:TypeId}{x:Operand}(hop:o.op=.call {callee:=.builtin .len,args:=#[x],argTypes:=#[t]}){sh0:Ksh}{te:TI}(ht:mapOf T t=some (sh0,te)){r:Ref}{sh:Ksh}{has:List Int->Bool}{val:List Int->AV}(hx:ev env x=.mp r)(hB:m.get r=some (.map sh has val))
 (hK:∀ks:List (List Int),ks.Nodup->(∀k∈ks,sh.fits k/\has k=true)->(∀k,sh.fits k->has k=true->k∈ks)->K (.d (.int .i64 ks.length)) m):OpVC P o env m K :=
 ⟨fun c h=>(by rw [hop] at h;cases h),fun a w F σ hev hm=>by
  obtain⟨kt,et,hu,_,_⟩:=mapOf_ok hT ht
  have hv:=ev_ok hev x
  rw[hx]at hv
  obtain⟨X,hX⟩:∃X,a.eval x=X:=⟨_,rfl⟩
  rw[hX]at hv
  cases hv with
  | @mp _ _ q hr h =>
    obtain⟨h1,h2⟩:=hm.lv _ _ hr
    have hat:=Mem.get_at hB
    cases q with
    |none=>rw[h1 rfl]at hat;cases hat
    | some pl =>
      obtain⟨B,hB2,hok⟩:=h2 pl rfl
      rw[hat]at hB2
      cases hB2
      obtain⟨hg,b,hloc,es,clock,ks,hheap,hl,hn,k1,k2,hS⟩:=hok
      obtain⟨b',t',hloc',rfl⟩:=h pl rfl hg
      rw[hloc]at hloc'
      cases hloc'
      refine⟨_,_,w,σ,F,_,_,?_,.inl rfl,hK ks hn (map_mem (w:=w) hl fun i k e h1 h2=>⟨(k1 i k e h1 h2).1,(k1 i k e h1 h2).2.1,(k1 i k e h1 h2).2.2.1⟩) k2,.d .int,hm,Step.refl σ F w,SLe.refl σ⟩
      rotate_left
      simp[execOp,hop,hX,resolve,invoke,builtin,Builtin.len_,run_underlying hu,goInt,run_getObj_map _ _ _ _ hheap,hl]⟩
end
end Go.Ab
namespace Go.Proofs.YtmlhghddfobmmaaGreatDoor
set_option linter.unusedSimpArgs false
set_option linter.unusedVariables false
open Go Go.Ab
set_option maxRecDepth 100000
set_option maxHeartbeats 0
theorem len_of_both {α:Type}[DecidableEq α]{l m:List α}(hl:l.Nodup)(hm:m.Nodup)(h:∀x,x∈l↔x∈m):l.length=m.length:=Nat.le_antisymm (hl.length_le_of_subset fun x hx=>(h x).1 hx) (hm.length_le_of_subset fun x hx=>(h x).2 hx)
theorem bytesI_inj {a b:ByteArray}(h:bytesI a=bytesI b):a=b:=by rw[<-strI_bytesI a,h,strI_bytesI]
theorem nodup_map_inj {α β:Type}{f:α->β}(hf:∀a b,f a=f b->a=b):∀{l:List α},l.Nodup->(l.map f).Nodup
 |[],_=>List.nodup_nil
 | x :: r,h=>by
   rw[List.nodup_cons]at h
   rw[List.map_cons,List.nodup_cons]
   refine⟨fun hx=>?_,nodup_map_inj hf h.2⟩
   obtain⟨y,hy,e⟩:=List.mem_map.1 hx
   exact h.1 (hf _ _ e▸hy)
def hasU (ks:List (List Int))(k:Nat):List Int->Bool:=fun key=>decide (key∈ks.take k)
theorem hasU_succ {ks:List (List Int)}{k:Nat}(hk:k<ks.length)(key:List Int):(decide (key=ks.getD k default)||hasU ks k key)=hasU ks (k+1) key:=by
 unfold hasU
 rw[take_succ_at hk,Bool.eq_iff_iff,Bool.or_eq_true,decide_eq_true_iff,decide_eq_true_iff,decide_eq_true_iff,List.mem_append,List.mem_singleton]
 exact Or.comm
end Go.Proofs.YtmlhghddfobmmaaGreatDoor
namespace Go.Ab
set_option linter.unusedSimpArgs false
set_option linter.unusedVariables false
section
variable {P:Program}{T:Tab}{N:Nat}{w:World}{F:Nat->Prop}{σ:Pls}{m:Mem}{env:Env}{K:AV->Mem->Prop}{o:Oper}
theorem op_make (hT:TabOk P T){t:TypeId}{x y:Operand}(hop:o.op=.makeSlice t x y){e:TypeId}{sz:Nat}(he:elemOf T t=some (e,sz)){te:TI}(hte:T.at e=some te)(hb0:0<te.bytes)
 {n:Nat} {kx ky:IntKind} (hx:ev env x=.d (.int kx n)) (hy:ev env y=.d (.int ky n)) (hcap:n*te.bytes<=140737488355328)
 (hK:K (.osl m.new 0 0 n) (m.add (.vec e sz 0 n fun _=>up te.zero))):OpVC P o env m K :=
 ⟨fun c h=>(by rw [hop] at h;cases h),fun a w F σ hev hm=>by
  obtain⟨hu,hrs,te',hte',htsz⟩:=elemOf_ok hT he
  have hszp:=sz_pos hT he
  obtain⟨inf,z,hinf,his,hib,hz,hzs,hzsz⟩:=tiIs_info (hT _ _ hte)
  have hsize:inf.size=sz:=by
   obtain⟨i',z',hi',his',_⟩:=tiIs_info hte'
   rw[hinf]at hi'
   injection hi' with hi'
   subst hi'
   rw[his',htsz]
  have hvx:=ev_ok hev x
  rw[hx]at hvx
  have hvx:=hvx.int
  have hvy:=ev_ok hev y
  rw[hy]at hvy
  have hvy:=hvy.int
  have hbig:n<=140737488355328:=Nat.le_trans (Nat.le_mul_of_pos_right _ hb0) hcap
  have hzl:z.cells.size=sz:=by rw[hzsz,<-his,hsize]
  have hbb:(inf.bytes:Int)*(n:Int)<=281474976710656:=by
   have h:((inf.bytes*n:Nat):Int)<=281474976710656:=by
    rw[hib,Nat.mul_comm]
    omega
   rwa [Int.natCast_mul]at h
  have hrun:=run_make (P:=P) w t e inf z hu hinf hz kx ky n n Om (Int.le_refl _) hbb Om
  rw[Int.toNat_natCast,hsize]at hrun
  have hz0:CellsOk w F σ (up te.zero) z.cells.toList:=.zero hzs
  have hzat:∀i1 j,i1<n->j<sz->(madeCells z.cells (n*sz))[i1*sz+j]?=z.cells[j]?:=fun i1 j hi hj=>by
   have h1:=row_lt hi hj
   simp only[madeCells,hzl]
   rw[Array.getElem?_map,Array.getElem?_range,if_pos h1]
   have h2:(i1*sz+j) % sz=j:=by rw[Nat.mul_comm,Nat.mul_add_mod,Nat.mod_eq_of_lt hj]
   simp only[Option.map_some,h2]
   have h3:j<z.cells.size:=by omega
   simp[h3]
  have hzrows:RowsAt w F σ sz n (fun _=>up te.zero) (madeCells z.cells (n*sz)).toList:=by
   refine⟨fun i hi=>by rw[<-hz0.1,Array.length_toList,hzl],by simp[size_madeCells],fun i1 j B hi1 hB1=>?_⟩
   have hj:j<sz:=by
    have:=(List.getElem?_eq_some_iff.1 hB1).1
    rw[<-hz0.1,Array.length_toList,hzl]at this
    exact this
   have hu:z.cells.toList[j]?=some (z.cells[j]'Om):=by simp[show j<z.cells.size by omega]
   obtain⟨q1,q2⟩:=hz0.2 j B _ hB1 hu
   exact⟨_,by rw[Array.getElem?_toList,hzat i1 j hi1 hj];simp[show j<z.cells.size by omega],q1,q2⟩
  obtain⟨σ',g1,g2,g3,g4⟩:=newRow_ok (w':=w.alloc (.cells (madeCells z.cells (n*sz)) e)) (b:=w.heap.size) (tot:=n) (us:=(madeCells z.cells (n*sz)).toList) (e:=e) (sz:=sz) (n:=n) (f:=fun _=>up te.zero) hm (Nat.le_refl _) (by simp) (fun b hb=>heap_alloc_old w _ hb)
   rfl rfl rfl (Nat.le_refl _) (by rw[Array.toArray_toList];exact heap_alloc_new w _) (by simp[size_madeCells]) (Nat.le_refl _) (by unfold maxLen;omega) hzrows
  refine⟨_,_,_,σ',F,_,_,?_,.inl rfl,hK,g1,g2,g3,g4⟩
  simp[execOp,hop,hvx,hvy,hrun]⟩
end
end Go.Ab
