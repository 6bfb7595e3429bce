import Derived.Test.YtkjmomadndmeaaaGreatDoorBookI
import Derived.Test.YtkjmomadndmeaaaGreatDoorIntSort
import Derived.Test.YtkjmomadndmeaaaGreatDoorFrz
import Derived.Test.YtkjmomadndmeaaaGreatDoorBookF
namespace Go.Proofs.YtkjmomadndmeaaaGreatDoor
set_option linter.unusedSimpArgs false
set_option linter.unusedVariables false
open Go Go.Ab
set_option maxRecDepth 100000
set_option maxHeartbeats 0
structure Wor where
 bok:Bok
 fcts:List Fct
 deriving Inhabited
def eWor (w:Wor):List D:=[eCrss w.bok.crs,ePrgs w.bok.prg,eSyss w.bok.sys,eFcts w.fcts]
def rdK (k:Ke)(t:Int):Red:=⟨k.kind,k.subject,k.object,t,t+1⟩
def readsT (k:Ke)(t:Int):List Red:=if bw t 0 1023=true then[rdK k t] else[]
def lookO {α:Type}[Inhabited α](l:List α)(t:Int)(v:Int × Bool)(ok:α->Bool):Option α:=if bw t 0 1023=true/\v.2=true/\0<=v.1/\v.1<l.length/\ok (l.getD v.1.toNat default)=true then some (l.getD v.1.toNat default) else none
theorem lookCrs_ok (w:Wor)(l:List Crs)(hl:fitL l)(hf:fitL w.fcts)(k:Ke)(t kn:Int)(f:FuncId)(y:D)(ok:Crs->Bool)(hp:∀s∈l,Pure Tryz.prog f [.agg (eCrs s),y] [.bool (ok s)]) :
 Pure Tryz.prog 52 [.agg (eWor w),eCrss l,.agg (eKe k),di t,di kn,.fn (.func f) [] [y]] [.agg (eCrs ((lookO l t (atV w.fcts k t kn) ok).getD default)),eReds (readsT k t),.bool (lookO l t (atV w.fcts k t kn) ok).isSome]:=by
 have hl':l.length<=9223372036854775807:=hl
 have hA:=at_ok w.fcts hf k t kn
 obtain⟨v,hv⟩:∃v,atV w.fcts k t kn=v:=⟨_,rfl⟩
 rw[hv]at hA⊢
 obtain⟨v,b⟩:=v
 dsimp only at hA⊢
 have hI:=in_ok t 0 1023
 refine pure_rule hT (T:=tab) (N:=63) (rs:=[.cell 12 54,.tmp 13,.tmp 14]) Tryz.func52 rfl rfl rfl Kr rfl ?_
 cases ht:bw t 0 1023<;>rw[ht]at hI
 .have e1:lookO l t (v,b) ok=none:=by simp[lookO,ht]
  have e2:readsT k t=[]:=by simp[readsT,ht]
  rw[e1,e2]
  (refine gW ?_;intros)
  refine hI.call ?_
  (refine gW ?_;intros)
  exact⟨.inr ⟨rfl,rfl,rfl,rfl,rfl,rfl,rfl,rfl,rfl,rfl,rfl,rfl,rfl,rfl,rfl,rfl,Tt⟩,rfl,rfl,Tt⟩
 have ht2:0<=t/\t<=1023:=by simpa[bw] using ht
 have ht3:In .i64 (t+1):=in64.2 Om
 have e2:readsT k t=[rdK k t]:=by simp[readsT,ht]
 rw[e2]
 cases b
 .have e1:lookO l t (v,false) ok=none:=by simp[lookO]
  rw[e1]
  (refine gW ?_;intros)
  refine hI.call ?_
  (refine gW ?_;intros)
  refine hA.call ?_
  (refine gW ?_;intros)
  exact⟨.inr ⟨rfl,rfl,rfl,rfl,rfl,rfl,rfl,rfl,rfl,rfl,rfl,rfl,rfl,rfl,rfl,rfl,Tt⟩,⟨rfl,rfl,Nat.le_refl _,rfl,fun i hi=>by rw[show i=0 from Nat.lt_one_iff.1 hi];rfl⟩,rfl,Tt⟩
 by_cases h0:0<=v
 case neg =>
  have e1:lookO l t (v,true) ok=none:=by simp only[lookO];rw[if_neg];exact fun h=>h0 h.2.2.1
  rw[e1]
  (refine gW ?_;intros)
  refine hI.call ?_
  (refine gW ?_;intros)
  refine hA.call ?_
  (refine gW ?_;intros)
  exact⟨.inr ⟨rfl,rfl,rfl,rfl,rfl,rfl,rfl,rfl,rfl,rfl,rfl,rfl,rfl,rfl,rfl,rfl,Tt⟩,⟨rfl,rfl,Nat.le_refl _,rfl,fun i hi=>by rw[show i=0 from Nat.lt_one_iff.1 hi];rfl⟩,rfl,Tt⟩
 by_cases h1:v<l.length
 case neg =>
  have e1:lookO l t (v,true) ok=none:=by simp only[lookO];rw[if_neg];exact fun h=>h1 h.2.2.2.1
  rw[e1]
  (refine gW ?_;intros)
  refine hI.call ?_
  (refine gW ?_;intros)
  refine hA.call ?_
  (refine gW ?_;intros)
  exact⟨.inr ⟨rfl,rfl,rfl,rfl,rfl,rfl,rfl,rfl,rfl,rfl,rfl,rfl,rfl,rfl,rfl,rfl,Tt⟩,⟨rfl,rfl,Nat.le_refl _,rfl,fun i hi=>by rw[show i=0 from Nat.lt_one_iff.1 hi];rfl⟩,rfl,Tt⟩
 obtain⟨n,rfl⟩:∃n:Nat,v=n:=⟨v.toNat,Om⟩
 have hn:n<l.length:=by omega
 have hP:=hp (l.getD n default) (getD_mem hn)
 cases h2:ok (l.getD n default)<;>rw[h2]at hP
 .have e1:lookO l t ((n:Int),true) ok=none:=by simp only[lookO];rw[if_neg];intro h;have:=h.2.2.2.2;rw[Int.toNat_natCast,h2]at this;cases this
  rw[e1]
  (refine gW ?_;intros)
  refine hI.call ?_
  (refine gW ?_;intros)
  refine hA.call ?_
  (refine gW ?_;intros)
  refine⟨⟨f,[],[.d y],.inr ⟨[],[y],rfl,rfl,rfl⟩,hP.call ?_⟩⟩
  (refine gW ?_;intros)
  exact⟨.inr ⟨rfl,rfl,rfl,rfl,rfl,rfl,rfl,rfl,rfl,rfl,rfl,rfl,rfl,rfl,rfl,rfl,Tt⟩,⟨rfl,rfl,Nat.le_refl _,rfl,fun i hi=>by rw[show i=0 from Nat.lt_one_iff.1 hi];rfl⟩,rfl,Tt⟩
 .have e1:lookO l t ((n:Int),true) ok=some (l.getD n default):=by simp only[lookO];rw[if_pos,Int.toNat_natCast];exact⟨ht,by trivial,h0,h1,by rw[Int.toNat_natCast];exact h2⟩
  rw[e1]
  (refine gW ?_;intros)
  refine hI.call ?_
  (refine gW ?_;intros)
  refine hA.call ?_
  (refine gW ?_;intros)
  refine⟨⟨f,[],[.d y],.inr ⟨[],[y],rfl,rfl,rfl⟩,hP.call ?_⟩⟩
  (refine gW ?_;intros)
  exact⟨.inl rfl,⟨rfl,rfl,Nat.le_refl _,rfl,fun i hi=>by rw[show i=0 from Nat.lt_one_iff.1 hi];rfl⟩,rfl,Tt⟩
structure WfW (w:Wor):Prop where
 bok:wfBok w.bok
 crs:∀c∈w.bok.crs,smCrs c
 fct:fitL w.fcts
def okCrs (n:Int)(c:Crs):Bool:=decide (c.number=n)&&vCrs c
theorem crsV_ok (c:Crs)(n:Int)(hw:wfCrs c):Pure Tryz.prog 50 [.agg (eCrs c),.pt [di n] 0] [.bool (okCrs n c)]:=by
 have hV:=validCourse_ok c hw
 unfold okCrs
 refine pure_rule hT (T:=tab) (N:=12) (rs:=[.tmp 3]) Tryz.func50 rfl rfl rfl Kr rfl ?_
 by_cases h:c.number=n
 ·(refine gW ?_;intros)
  refine hV.call ?_
  (refine gW ?_;intros)
  refine⟨congrArg D.bool ?_,Tt⟩
  simp[h]
 ·(refine gW ?_;intros)
  refine⟨congrArg D.bool ?_,Tt⟩
  simp[h]
def crsOf (w:Wor)(n t kn:Int):Option Crs:=lookO w.bok.crs t (atV w.fcts ⟨1,n,0⟩ t kn) (okCrs n)
theorem bcourse_ok (w:Wor)(hw:WfW w)(n t kn:Int):Pure Tryz.prog 19 [.agg (eWor w),di n,di t,di kn] [.agg (eCrs ((crsOf w n t kn).getD default)),eReds (readsT ⟨1,n,0⟩ t),.bool (crsOf w n t kn).isSome]:=by
 have hL:=lookCrs_ok w w.bok.crs hw.bok.1.1 hw.fct ⟨1,n,0⟩ t kn 50 (.pt [di n] 0) (okCrs n) fun s hs=>crsV_ok s n (hw.bok.1.2 s hs)
 unfold crsOf
 refine pure_rule hT (T:=tab) (N:=26) (rs:=[.cell 8 54,.tmp 9,.tmp 10]) Tryz.func19 rfl rfl rfl Kr rfl ?_
 (refine gW ?_;intros)
 refine CallVC.frz [1] ?_ (hL.call ?_)
 .exact⟨.d,.d,.d,.d,.d,.fn' Tt ⟨.ptr' rfl ⟨.d,Tt⟩,Tt⟩,Tt⟩
 (refine gW ?_;intros)
 exact⟨.inl rfl,⟨rfl,rfl,fun i hi=>rfl⟩,rfl,Tt⟩
end Go.Proofs.YtkjmomadndmeaaaGreatDoor
