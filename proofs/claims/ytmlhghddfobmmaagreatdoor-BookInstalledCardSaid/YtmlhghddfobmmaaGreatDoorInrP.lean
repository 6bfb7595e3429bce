import Derived.Test.YtmlhghddfobmmaaGreatDoorBookI
import Derived.Test.YtmlhghddfobmmaaGreatDoorOpsF
import Derived.Test.YtmlhghddfobmmaaGreatDoorFrz
import Derived.Test.YtmlhghddfobmmaaGreatDoorNmC
import Derived.Test.YtmlhghddfobmmaaGreatDoorNamP
namespace Go.Proofs.YtmlhghddfobmmaaGreatDoor
set_option linter.unusedSimpArgs false
set_option linter.unusedVariables false
open Go Go.Ab
set_option maxRecDepth 100000
set_option maxHeartbeats 0
structure Wor where
 bok:Bok
 fcts:List Fct
 deriving Inhabited
def eWor (w:Wor):List D:=[eCrss w.bok.crs,ePrgs w.bok.prg,eSyss w.bok.sys,eFcts w.fcts]
def rdK (k:Ke)(t:Int):Red:=⟨k.kind,k.subject,k.object,t,t+1⟩
def readsT (k:Ke)(t:Int):List Red:=if bw t 0 1023=true then[rdK k t] else[]
def lookO {α:Type}[Inhabited α](l:List α)(t:Int)(v:Int × Bool)(ok:α->Bool):Option α:=if bw t 0 1023=true/\v.2=true/\0<=v.1/\v.1<l.length/\ok (l.getD v.1.toNat default)=true then some (l.getD v.1.toNat default) else none
theorem lookCrs_ok (w:Wor)(l:List Crs)(hl:fitL l)(hf:fitL w.fcts)(k:Ke)(t kn:Int)(f:FuncId)(y:D)(ok:Crs->Bool)(hp:∀s∈l,Pure Tryz.prog f [.agg (eCrs s),y] [.bool (ok s)]) :
 Pure Tryz.prog 103 [.agg (eWor w),eCrss l,.agg (eKe k),di t,di kn,.fn (.func f) [] [y]] [.agg (eCrs ((lookO l t (atV w.fcts k t kn) ok).getD default)),eReds (readsT k t),.bool (lookO l t (atV w.fcts k t kn) ok).isSome]:=by
 have hl':l.length<=9223372036854775807:=hl
 have hA:=at_ok w.fcts hf k t kn
 obtain⟨v,hv⟩:∃v,atV w.fcts k t kn=v:=⟨_,rfl⟩
 rw[hv]at hA⊢
 obtain⟨v,b⟩:=v
 dsimp only at hA⊢
 have hI:=in_ok t 0 1023
 refine pure_rule hT (T:=tab) (N:=63) (rs:=[.cell 12 68,.tmp 13,.tmp 14]) Tryz.func103 rfl rfl rfl Kr rfl ?_
 cases ht:bw t 0 1023<;>rw[ht]at hI
 .have e1:lookO l t (v,b) ok=none:=by simp[lookO,ht]
  have e2:readsT k t=[]:=by simp[readsT,ht]
  rw[e1,e2]
  (refine gW ?_;intros)
  refine hI.call ?_
  (refine gW ?_;intros)
  exact⟨.inr ⟨rfl,rfl,rfl,rfl,rfl,rfl,rfl,rfl,rfl,rfl,rfl,rfl,rfl,rfl,rfl,rfl,Tt⟩,rfl,rfl,Tt⟩
 have ht2:0<=t/\t<=1023:=by simpa[bw] using ht
 have ht3:In .i64 (t+1):=in64.2 Om
 have e2:readsT k t=[rdK k t]:=by simp[readsT,ht]
 rw[e2]
 cases b
 .have e1:lookO l t (v,false) ok=none:=by simp[lookO]
  rw[e1]
  (refine gW ?_;intros)
  refine hI.call ?_
  (refine gW ?_;intros)
  refine hA.call ?_
  (refine gW ?_;intros)
  exact⟨.inr ⟨rfl,rfl,rfl,rfl,rfl,rfl,rfl,rfl,rfl,rfl,rfl,rfl,rfl,rfl,rfl,rfl,Tt⟩,⟨rfl,rfl,Nat.le_refl _,rfl,fun i hi=>by rw[show i=0 from Nat.lt_one_iff.1 hi];rfl⟩,rfl,Tt⟩
 by_cases h0:0<=v
 case neg =>
  have e1:lookO l t (v,true) ok=none:=by simp only[lookO];rw[if_neg];exact fun h=>h0 h.2.2.1
  rw[e1]
  (refine gW ?_;intros)
  refine hI.call ?_
  (refine gW ?_;intros)
  refine hA.call ?_
  (refine gW ?_;intros)
  exact⟨.inr ⟨rfl,rfl,rfl,rfl,rfl,rfl,rfl,rfl,rfl,rfl,rfl,rfl,rfl,rfl,rfl,rfl,Tt⟩,⟨rfl,rfl,Nat.le_refl _,rfl,fun i hi=>by rw[show i=0 from Nat.lt_one_iff.1 hi];rfl⟩,rfl,Tt⟩
 by_cases h1:v<l.length
 case neg =>
  have e1:lookO l t (v,true) ok=none:=by simp only[lookO];rw[if_neg];exact fun h=>h1 h.2.2.2.1
  rw[e1]
  (refine gW ?_;intros)
  refine hI.call ?_
  (refine gW ?_;intros)
  refine hA.call ?_
  (refine gW ?_;intros)
  exact⟨.inr ⟨rfl,rfl,rfl,rfl,rfl,rfl,rfl,rfl,rfl,rfl,rfl,rfl,rfl,rfl,rfl,rfl,Tt⟩,⟨rfl,rfl,Nat.le_refl _,rfl,fun i hi=>by rw[show i=0 from Nat.lt_one_iff.1 hi];rfl⟩,rfl,Tt⟩
 obtain⟨n,rfl⟩:∃n:Nat,v=n:=⟨v.toNat,Om⟩
 have hn:n<l.length:=by omega
 have hP:=hp (l.getD n default) (getD_mem hn)
 cases h2:ok (l.getD n default)<;>rw[h2]at hP
 .have e1:lookO l t ((n:Int),true) ok=none:=by simp only[lookO];rw[if_neg];intro h;have:=h.2.2.2.2;rw[Int.toNat_natCast,h2]at this;cases this
  rw[e1]
  (refine gW ?_;intros)
  refine hI.call ?_
  (refine gW ?_;intros)
  refine hA.call ?_
  (refine gW ?_;intros)
  refine⟨⟨f,[],[.d y],.inr ⟨[],[y],rfl,rfl,rfl⟩,hP.call ?_⟩⟩
  (refine gW ?_;intros)
  exact⟨.inr ⟨rfl,rfl,rfl,rfl,rfl,rfl,rfl,rfl,rfl,rfl,rfl,rfl,rfl,rfl,rfl,rfl,Tt⟩,⟨rfl,rfl,Nat.le_refl _,rfl,fun i hi=>by rw[show i=0 from Nat.lt_one_iff.1 hi];rfl⟩,rfl,Tt⟩
 .have e1:lookO l t ((n:Int),true) ok=some (l.getD n default):=by simp only[lookO];rw[if_pos,Int.toNat_natCast];exact⟨ht,by trivial,h0,h1,by rw[Int.toNat_natCast];exact h2⟩
  rw[e1]
  (refine gW ?_;intros)
  refine hI.call ?_
  (refine gW ?_;intros)
  refine hA.call ?_
  (refine gW ?_;intros)
  refine⟨⟨f,[],[.d y],.inr ⟨[],[y],rfl,rfl,rfl⟩,hP.call ?_⟩⟩
  (refine gW ?_;intros)
  exact⟨.inl rfl,⟨rfl,rfl,Nat.le_refl _,rfl,fun i hi=>by rw[show i=0 from Nat.lt_one_iff.1 hi];rfl⟩,rfl,Tt⟩
theorem lookPrg_ok (w:Wor)(l:List Prg)(hl:fitL l)(hf:fitL w.fcts)(k:Ke)(t kn:Int)(f:FuncId)(y:D)(ok:Prg->Bool)(hp:∀s∈l,Pure Tryz.prog f [.agg (ePrg s),y] [.bool (ok s)]) :
 Pure Tryz.prog 106 [.agg (eWor w),ePrgs l,.agg (eKe k),di t,di kn,.fn (.func f) [] [y]] [.agg (ePrg ((lookO l t (atV w.fcts k t kn) ok).getD default)),eReds (readsT k t),.bool (lookO l t (atV w.fcts k t kn) ok).isSome]:=by
 have hl':l.length<=9223372036854775807:=hl
 have hA:=at_ok w.fcts hf k t kn
 obtain⟨v,hv⟩:∃v,atV w.fcts k t kn=v:=⟨_,rfl⟩
 rw[hv]at hA⊢
 obtain⟨v,b⟩:=v
 dsimp only at hA⊢
 have hI:=in_ok t 0 1023
 refine pure_rule hT (T:=tab) (N:=63) (rs:=[.cell 12 78,.tmp 13,.tmp 14]) Tryz.func106 rfl rfl rfl Kr rfl ?_
 cases ht:bw t 0 1023<;>rw[ht]at hI
 .have e1:lookO l t (v,b) ok=none:=by simp[lookO,ht]
  have e2:readsT k t=[]:=by simp[readsT,ht]
  rw[e1,e2]
  (refine gW ?_;intros)
  refine hI.call ?_
  (refine gW ?_;intros)
  exact⟨.inr ⟨rfl,rfl,rfl,rfl,rfl,rfl,rfl,Tt⟩,rfl,rfl,Tt⟩
 have ht2:0<=t/\t<=1023:=by simpa[bw] using ht
 have ht3:In .i64 (t+1):=in64.2 Om
 have e2:readsT k t=[rdK k t]:=by simp[readsT,ht]
 rw[e2]
 cases b
 .have e1:lookO l t (v,false) ok=none:=by simp[lookO]
  rw[e1]
  (refine gW ?_;intros)
  refine hI.call ?_
  (refine gW ?_;intros)
  refine hA.call ?_
  (refine gW ?_;intros)
  exact⟨.inr ⟨rfl,rfl,rfl,rfl,rfl,rfl,rfl,Tt⟩,⟨rfl,rfl,Nat.le_refl _,rfl,fun i hi=>by rw[show i=0 from Nat.lt_one_iff.1 hi];rfl⟩,rfl,Tt⟩
 by_cases h0:0<=v
 case neg =>
  have e1:lookO l t (v,true) ok=none:=by simp only[lookO];rw[if_neg];exact fun h=>h0 h.2.2.1
  rw[e1]
  (refine gW ?_;intros)
  refine hI.call ?_
  (refine gW ?_;intros)
  refine hA.call ?_
  (refine gW ?_;intros)
  exact⟨.inr ⟨rfl,rfl,rfl,rfl,rfl,rfl,rfl,Tt⟩,⟨rfl,rfl,Nat.le_refl _,rfl,fun i hi=>by rw[show i=0 from Nat.lt_one_iff.1 hi];rfl⟩,rfl,Tt⟩
 by_cases h1:v<l.length
 case neg =>
  have e1:lookO l t (v,true) ok=none:=by simp only[lookO];rw[if_neg];exact fun h=>h1 h.2.2.2.1
  rw[e1]
  (refine gW ?_;intros)
  refine hI.call ?_
  (refine gW ?_;intros)
  refine hA.call ?_
  (refine gW ?_;intros)
  exact⟨.inr ⟨rfl,rfl,rfl,rfl,rfl,rfl,rfl,Tt⟩,⟨rfl,rfl,Nat.le_refl _,rfl,fun i hi=>by rw[show i=0 from Nat.lt_one_iff.1 hi];rfl⟩,rfl,Tt⟩
 obtain⟨n,rfl⟩:∃n:Nat,v=n:=⟨v.toNat,Om⟩
 have hn:n<l.length:=by omega
 have hP:=hp (l.getD n default) (getD_mem hn)
 cases h2:ok (l.getD n default)<;>rw[h2]at hP
 .have e1:lookO l t ((n:Int),true) ok=none:=by simp only[lookO];rw[if_neg];intro h;have:=h.2.2.2.2;rw[Int.toNat_natCast,h2]at this;cases this
  rw[e1]
  (refine gW ?_;intros)
  refine hI.call ?_
  (refine gW ?_;intros)
  refine hA.call ?_
  (refine gW ?_;intros)
  refine⟨⟨f,[],[.d y],.inr ⟨[],[y],rfl,rfl,rfl⟩,hP.call ?_⟩⟩
  (refine gW ?_;intros)
  exact⟨.inr ⟨rfl,rfl,rfl,rfl,rfl,rfl,rfl,Tt⟩,⟨rfl,rfl,Nat.le_refl _,rfl,fun i hi=>by rw[show i=0 from Nat.lt_one_iff.1 hi];rfl⟩,rfl,Tt⟩
 .have e1:lookO l t ((n:Int),true) ok=some (l.getD n default):=by simp only[lookO];rw[if_pos,Int.toNat_natCast];exact⟨ht,by trivial,h0,h1,by rw[Int.toNat_natCast];exact h2⟩
  rw[e1]
  (refine gW ?_;intros)
  refine hI.call ?_
  (refine gW ?_;intros)
  refine hA.call ?_
  (refine gW ?_;intros)
  refine⟨⟨f,[],[.d y],.inr ⟨[],[y],rfl,rfl,rfl⟩,hP.call ?_⟩⟩
  (refine gW ?_;intros)
  exact⟨.inl rfl,⟨rfl,rfl,Nat.le_refl _,rfl,fun i hi=>by rw[show i=0 from Nat.lt_one_iff.1 hi];rfl⟩,rfl,Tt⟩
theorem lookSys_ok (w:Wor)(l:List Sys)(hl:fitL l)(hf:fitL w.fcts)(k:Ke)(t kn:Int)(f:FuncId)(ok:Sys->Bool)(hp:∀s∈l,Pure Tryz.prog f [.agg (eSys s)] [.bool (ok s)]) :
 Pure Tryz.prog 108 [.agg (eWor w),eSyss l,.agg (eKe k),di t,di kn,.fn (.func f) [] []] [.agg (eSys ((lookO l t (atV w.fcts k t kn) ok).getD default)),eReds (readsT k t),.bool (lookO l t (atV w.fcts k t kn) ok).isSome]:=by
 have hl':l.length<=9223372036854775807:=hl
 have hA:=at_ok w.fcts hf k t kn
 obtain⟨v,hv⟩:∃v,atV w.fcts k t kn=v:=⟨_,rfl⟩
 rw[hv]at hA⊢
 obtain⟨v,b⟩:=v
 dsimp only at hA⊢
 have hI:=in_ok t 0 1023
 refine pure_rule hT (T:=tab) (N:=63) (rs:=[.cell 12 83,.tmp 13,.tmp 14]) Tryz.func108 rfl rfl rfl Kr rfl ?_
 cases ht:bw t 0 1023<;>rw[ht]at hI
 .have e1:lookO l t (v,b) ok=none:=by simp[lookO,ht]
  have e2:readsT k t=[]:=by simp[readsT,ht]
  rw[e1,e2]
  (refine gW ?_;intros)
  refine hI.call ?_
  (refine gW ?_;intros)
  exact⟨.inr ⟨rfl,rfl,rfl,rfl,Tt⟩,rfl,rfl,Tt⟩
 have ht2:0<=t/\t<=1023:=by simpa[bw] using ht
 have ht3:In .i64 (t+1):=in64.2 Om
 have e2:readsT k t=[rdK k t]:=by simp[readsT,ht]
 rw[e2]
 cases b
 .have e1:lookO l t (v,false) ok=none:=by simp[lookO]
  rw[e1]
  (refine gW ?_;intros)
  refine hI.call ?_
  (refine gW ?_;intros)
  refine hA.call ?_
  (refine gW ?_;intros)
  exact⟨.inr ⟨rfl,rfl,rfl,rfl,Tt⟩,⟨rfl,rfl,Nat.le_refl _,rfl,fun i hi=>by rw[show i=0 from Nat.lt_one_iff.1 hi];rfl⟩,rfl,Tt⟩
 by_cases h0:0<=v
 case neg =>
  have e1:lookO l t (v,true) ok=none:=by simp only[lookO];rw[if_neg];exact fun h=>h0 h.2.2.1
  rw[e1]
  (refine gW ?_;intros)
  refine hI.call ?_
  (refine gW ?_;intros)
  refine hA.call ?_
  (refine gW ?_;intros)
  exact⟨.inr ⟨rfl,rfl,rfl,rfl,Tt⟩,⟨rfl,rfl,Nat.le_refl _,rfl,fun i hi=>by rw[show i=0 from Nat.lt_one_iff.1 hi];rfl⟩,rfl,Tt⟩
 by_cases h1:v<l.length
 case neg =>
  have e1:lookO l t (v,true) ok=none:=by simp only[lookO];rw[if_neg];exact fun h=>h1 h.2.2.2.1
  rw[e1]
  (refine gW ?_;intros)
  refine hI.call ?_
  (refine gW ?_;intros)
  refine hA.call ?_
  (refine gW ?_;intros)
  exact⟨.inr ⟨rfl,rfl,rfl,rfl,Tt⟩,⟨rfl,rfl,Nat.le_refl _,rfl,fun i hi=>by rw[show i=0 from Nat.lt_one_iff.1 hi];rfl⟩,rfl,Tt⟩
 obtain⟨n,rfl⟩:∃n:Nat,v=n:=⟨v.toNat,Om⟩
 have hn:n<l.length:=by omega
 have hP:=hp (l.getD n default) (getD_mem hn)
 cases h2:ok (l.getD n default)<;>rw[h2]at hP
 .have e1:lookO l t ((n:Int),true) ok=none:=by simp only[lookO];rw[if_neg];intro h;have:=h.2.2.2.2;rw[Int.toNat_natCast,h2]at this;cases this
  rw[e1]
  (refine gW ?_;intros)
  refine hI.call ?_
  (refine gW ?_;intros)
  refine hA.call ?_
  (refine gW ?_;intros)
  refine hP.call ?_
  (refine gW ?_;intros)
  exact⟨.inr ⟨rfl,rfl,rfl,rfl,Tt⟩,⟨rfl,rfl,Nat.le_refl _,rfl,fun i hi=>by rw[show i=0 from Nat.lt_one_iff.1 hi];rfl⟩,rfl,Tt⟩
 .have e1:lookO l t ((n:Int),true) ok=some (l.getD n default):=by simp only[lookO];rw[if_pos,Int.toNat_natCast];exact⟨ht,by trivial,h0,h1,by rw[Int.toNat_natCast];exact h2⟩
  rw[e1]
  (refine gW ?_;intros)
  refine hI.call ?_
  (refine gW ?_;intros)
  refine hA.call ?_
  (refine gW ?_;intros)
  refine hP.call ?_
  (refine gW ?_;intros)
  exact⟨.inl rfl,⟨rfl,rfl,Nat.le_refl _,rfl,fun i hi=>by rw[show i=0 from Nat.lt_one_iff.1 hi];rfl⟩,rfl,Tt⟩
structure WfW (w:Wor):Prop where
 bok:wfBok w.bok
 crs:∀c∈w.bok.crs,smCrs c
 fct:fitL w.fcts
def okCrs (n:Int)(c:Crs):Bool:=decide (c.number=n)&&vCrs c
def okPrg (n:Int)(p:Prg):Bool:=decide (p.number=n)&&vPrg p
theorem crsV_ok (c:Crs)(n:Int)(hw:wfCrs c):Pure Tryz.prog 102 [.agg (eCrs c),.pt [di n] 0] [.bool (okCrs n c)]:=by
 have hV:=validCourse_ok c hw
 unfold okCrs
 refine pure_rule hT (T:=tab) (N:=12) (rs:=[.tmp 3]) Tryz.func102 rfl rfl rfl Kr rfl ?_
 by_cases h:c.number=n
 ·(refine gW ?_;intros)
  refine hV.call ?_
  (refine gW ?_;intros)
  refine⟨congrArg D.bool ?_,Tt⟩
  simp[h]
 ·(refine gW ?_;intros)
  refine⟨congrArg D.bool ?_,Tt⟩
  simp[h]
theorem prgV_ok (p:Prg)(n:Int)(hw:wfPrg p):Pure Tryz.prog 105 [.agg (ePrg p),.pt [di n] 0] [.bool (okPrg n p)]:=by
 have hV:=validPrg_ok p hw
 unfold okPrg
 refine pure_rule hT (T:=tab) (N:=12) (rs:=[.tmp 3]) Tryz.func105 rfl rfl rfl Kr rfl ?_
 by_cases h:p.number=n
 ·(refine gW ?_;intros)
  refine hV.call ?_
  (refine gW ?_;intros)
  refine⟨congrArg D.bool ?_,Tt⟩
  simp[h]
 ·(refine gW ?_;intros)
  refine⟨congrArg D.bool ?_,Tt⟩
  simp[h]
def crsOf (w:Wor)(n t kn:Int):Option Crs:=lookO w.bok.crs t (atV w.fcts ⟨1,n,0⟩ t kn) (okCrs n)
def prgOf (w:Wor)(n t kn:Int):Option Prg:=lookO w.bok.prg t (atV w.fcts ⟨3,n,0⟩ t kn) (okPrg n)
def sysOf (w:Wor)(t kn:Int):Option Sys:=lookO w.bok.sys t (atV w.fcts ⟨4,0,0⟩ t kn) vSys
theorem bcourse_ok (w:Wor)(hw:WfW w)(n t kn:Int):Pure Tryz.prog 30 [.agg (eWor w),di n,di t,di kn] [.agg (eCrs ((crsOf w n t kn).getD default)),eReds (readsT ⟨1,n,0⟩ t),.bool (crsOf w n t kn).isSome]:=by
 have hL:=lookCrs_ok w w.bok.crs hw.bok.1.1 hw.fct ⟨1,n,0⟩ t kn 102 (.pt [di n] 0) (okCrs n) fun s hs=>crsV_ok s n (hw.bok.1.2 s hs)
 unfold crsOf
 refine pure_rule hT (T:=tab) (N:=26) (rs:=[.cell 8 68,.tmp 9,.tmp 10]) Tryz.func30 rfl rfl rfl Kr rfl ?_
 (refine gW ?_;intros)
 refine CallVC.frz [1] ?_ (hL.call ?_)
 .exact⟨.d,.d,.d,.d,.d,.fn' Tt ⟨.ptr' rfl ⟨.d,Tt⟩,Tt⟩,Tt⟩
 (refine gW ?_;intros)
 exact⟨.inl rfl,⟨rfl,rfl,fun i hi=>rfl⟩,rfl,Tt⟩
theorem bprogramme_ok (w:Wor)(hw:WfW w)(n t kn:Int):Pure Tryz.prog 33 [.agg (eWor w),di n,di t,di kn] [.agg (ePrg ((prgOf w n t kn).getD default)),eReds (readsT ⟨3,n,0⟩ t),.bool (prgOf w n t kn).isSome]:=by
 have hL:=lookPrg_ok w w.bok.prg hw.bok.2.1.1 hw.fct ⟨3,n,0⟩ t kn 105 (.pt [di n] 0) (okPrg n) fun s hs=>prgV_ok s n (hw.bok.2.1.2 s hs)
 unfold prgOf
 refine pure_rule hT (T:=tab) (N:=26) (rs:=[.cell 8 78,.tmp 9,.tmp 10]) Tryz.func33 rfl rfl rfl Kr rfl ?_
 (refine gW ?_;intros)
 refine CallVC.frz [1] ?_ (hL.call ?_)
 .exact⟨.d,.d,.d,.d,.d,.fn' Tt ⟨.ptr' rfl ⟨.d,Tt⟩,Tt⟩,Tt⟩
 (refine gW ?_;intros)
 exact⟨.inl rfl,⟨rfl,rfl,fun i hi=>rfl⟩,rfl,Tt⟩
theorem bsystem_ok (w:Wor)(hw:WfW w)(t kn:Int):Pure Tryz.prog 36 [.agg (eWor w),di t,di kn] [.agg (eSys ((sysOf w t kn).getD default)),eReds (readsT ⟨4,0,0⟩ t)]:=by
 have hL:=lookSys_ok w w.bok.sys hw.bok.2.2.1 hw.fct ⟨4,0,0⟩ t kn 92 vSys fun s hs=>validSys_ok s (hw.bok.2.2.2 s hs)
 unfold sysOf
 refine pure_rule hT (T:=tab) (N:=22) (rs:=[.cell 6 83,.tmp 7]) Tryz.func36 rfl rfl rfl Kr rfl ?_
 (refine gW ?_;intros)
 refine hL.call ?_
 (refine gW ?_;intros)
 exact⟨.inl rfl,⟨rfl,rfl,fun i hi=>rfl⟩,Tt⟩
theorem sys_eq (a b:Sys):a=b↔a.classes=b.classes/\a.honours=b.honours/\a.fees=b.fees/\a.clauses=b.clauses:=by
 cases a;cases b
 simp only[Sys.mk.injEq]
 exact⟨fun h=>⟨h.1,h.2.2.1,h.2.1,h.2.2.2⟩,fun h=>⟨h.1,h.2.2.1,h.2.1,h.2.2.2⟩⟩
theorem fee_eq (a b:Fee):a=b↔a.name=b.name/\a.credits=b.credits:=by
 cases a;cases b
 simp only[Fee.mk.injEq]
theorem cla_eq (a b:Cla):a=b↔a.kind=b.kind/\a.whn=b.whn/\a.action=b.action/\a.til=b.til:=by
 cases a;cases b
 simp only[Cla.mk.injEq]
theorem sameSys_ok (a b:Sys)(ha:wfSys a)(hb:wfSys b):Pure Tryz.prog 38 [.agg (eSys a),.agg (eSys b)] [.bool (decide (a=b))]:=by
 have hA:=sameClss_ok a.classes b.classes ha.1.1 hb.1.1
 have hB:=sameClss_ok a.honours b.honours ha.2.1.1 hb.2.1.1
 have hl1:a.fees.length<=9223372036854775807:=ha.2.2.1
 have hl2:a.clauses.length<=9223372036854775807:=ha.2.2.2
 have hm1:b.fees.length<=9223372036854775807:=hb.2.2.1
 have hm2:b.clauses.length<=9223372036854775807:=hb.2.2.2
 refine pure_rule hT (T:=tab) (N:=75) (rs:=[.tmp 4]) Tryz.func38 rfl rfl rfl Kr rfl ?_
 by_cases q1:a.classes=b.classes
 case neg =>
  rw[decide_eq_false q1]at hA
  rw[decide_eq_false (fun e=>q1 (by rw[e]))]
  clear q1
  (refine gW ?_;intros)
  refine hA.call ?_
  (refine gW ?_;intros)
  exact⟨rfl,Tt⟩
 rw[decide_eq_true q1]at hA
 by_cases q2:a.honours=b.honours
 case neg =>
  rw[decide_eq_false q2]at hB
  rw[decide_eq_false (fun e=>q2 (by rw[e]))]
  clear q1 q2
  (refine gW ?_;intros)
  refine hA.call ?_
  (refine gW ?_;intros)
  refine hB.call ?_
  (refine gW ?_;intros)
  exact⟨rfl,Tt⟩
 rw[decide_eq_true q2]at hB
 have hiff:a=b↔a.fees=b.fees/\a.clauses=b.clauses:=by rw[sys_eq];simp only[q1,q2,true_and]
 have kiff:Kp _:=⟨hiff⟩
 clear hiff q1 q2
 by_cases q3:a.fees.length=b.fees.length
 case neg =>
  rw[decide_eq_false (fun e=>q3 (by rw[e]))]
  (refine gW ?_;intros)
  refine hA.call ?_
  (refine gW ?_;intros)
  refine hB.call ?_
  (refine gW ?_;intros)
  exact⟨rfl,Tt⟩
 by_cases q4:a.clauses.length=b.clauses.length
 case neg =>
  rw[decide_eq_false (fun e=>q4 (by rw[e]))]
  (refine gW ?_;intros)
  refine hA.call ?_
  (refine gW ?_;intros)
  refine hB.call ?_
  (refine gW ?_;intros)
  exact⟨rfl,Tt⟩
 (refine gW ?_;intros)
 refine hA.call ?_
 (refine gW ?_;intros)
 refine hB.call ?_
 (refine gW ?_;intros)
 refine loop_rule hT (S:=Nat) (fun k=>([(2,lp 0),(3,lp 1),(4,.d (.bool false)),(5,dV k)],⟨[bX 83 (up (eSys a)),bX 83 (up (eSys b))],[]⟩)) (fun k=>k<=a.fees.length/\(a.fees=b.fees↔a.fees.drop k=b.fees.drop k)) (fun k=>a.fees.length-k) 0 ?_ ?_ ?_
 .repeat' (first|exact Tt|exact rfl|exact Nat.le_refl _|refine And.intro ?_ ?_)
 .exact⟨Nat.zero_le _,Iff.rfl⟩
 .rintro k ⟨hk,hc⟩
  have kc:Kp _:=⟨hc⟩
  clear hc
  by_cases hk2:k<a.fees.length
  .have hkb:k<b.fees.length:=by omega
   by_cases e:(a.fees.getD k default).name=(b.fees.getD k default).name/\(a.fees.getD k default).credits=(b.fees.getD k default).credits
   .have kn:Kp (a.fees=b.fees↔a.fees.drop (k+1)=b.fees.drop (k+1)):=⟨by
     rw[kc.h,drop_at hk2,drop_at hkb,(fee_eq _ _).2 e]
     simp⟩
    obtain⟨e1,e2⟩:=e
    ((refine xP ?_ ?_)<;>(intros;try rename_i h))
    all_goals try exact(h.elim (fun h=>h e1) fun h=>h e2).elim
    refine⟨k+1,⟨by show k+1<=a.fees.length;omega,kn.h⟩,by show a.fees.length-(k+1)<a.fees.length-k;omega,?_⟩
    repeat' (first|exact Tt|exact rfl|exact Nat.le_refl _|refine And.intro ?_ ?_)
   .rw[decide_eq_false (fun e2=>e (by rw[e2];exact⟨rfl,rfl⟩))]
    (refine gP ?_;intros)
    all_goals first
     |exact⟨rfl,Tt⟩
     |exact(e h).elim
  .have hnm:a.fees=b.fees:=kc.h.2 (by rw[drop_end Om,drop_end Om])
   have kiff2:Kp (a=b↔a.clauses=b.clauses):=⟨by rw[kiff.h];exact⟨fun h=>h.2,fun h=>⟨hnm,h⟩⟩⟩
   clear hnm
   (refine gW ?_;intros)
   refine loop_rule hT (S:=Nat) (fun k=>([(2,lp 0),(3,lp 1),(4,.d (.bool false)),(6,dV k)],⟨[bX 83 (up (eSys a)),bX 83 (up (eSys b))],[]⟩)) (fun k=>k<=a.clauses.length/\(a=b↔a.clauses.drop k=b.clauses.drop k)) (fun k=>a.clauses.length-k) 0 ?_ ?_ ?_
   .repeat' (first|exact Tt|exact rfl|exact Nat.le_refl _|refine And.intro ?_ ?_)
   .exact⟨Nat.zero_le _,kiff2.h⟩
   .clear kc hk2 hk
    rintro k ⟨hk,hc⟩
    have kc:Kp _:=⟨hc⟩
    clear hc
    by_cases hk2:k<a.clauses.length
    .have hkb:k<b.clauses.length:=by omega
     by_cases e:(a.clauses.getD k default).kind=(b.clauses.getD k default).kind/\(a.clauses.getD k default).whn=(b.clauses.getD k default).whn/\(a.clauses.getD k default).action=(b.clauses.getD k default).action/\(a.clauses.getD k default).til=(b.clauses.getD k default).til
     .have kn:Kp (a=b↔a.clauses.drop (k+1)=b.clauses.drop (k+1)):=⟨by
       rw[kc.h,drop_at hk2,drop_at hkb,(cla_eq _ _).2 e]
       simp⟩
      obtain⟨e1,e2,e3,e4⟩:=e
      (refine gP ?_;intros)
      refine⟨k+1,⟨by show k+1<=a.clauses.length;omega,kn.h⟩,by show a.clauses.length-(k+1)<a.clauses.length-k;omega,?_⟩
      repeat' (first|exact Tt|exact rfl|exact Nat.le_refl _|refine And.intro ?_ ?_)
     .rw[decide_eq_false (fun e2=>e (by rw[e2];exact⟨rfl,rfl,rfl,rfl⟩))]
      (refine gP ?_;intros)
      exact⟨rfl,Tt⟩
    .rw[decide_eq_true (kc.h.2 (by rw[drop_end Om,drop_end Om]))]
     (refine gW ?_;intros)
     exact⟨rfl,Tt⟩
theorem dst_le (l:List Int):(dst l).length<=l.length:=(dst_nodup l).length_le_of_subset fun _ h=>dst_mem.1 h
end Go.Proofs.YtmlhghddfobmmaaGreatDoor
