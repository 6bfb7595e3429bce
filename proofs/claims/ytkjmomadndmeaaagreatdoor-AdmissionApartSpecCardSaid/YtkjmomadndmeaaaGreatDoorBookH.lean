import Derived.Test.YtkjmomadndmeaaaGreatDoorBas
import Derived.Test.YtkjmomadndmeaaaGreatDoorBookF
namespace Go.Proofs.YtkjmomadndmeaaaGreatDoor
set_option linter.unusedSimpArgs false
set_option linter.unusedVariables false
open Go Go.Ab
def DEqL:List D->List D->Prop
 |[],[]=>True
 |x::r,y::s=>DEq x y/\DEqL r s
 |_,_=>False
theorem DEqL.len:∀{xs ys:List D},DEqL xs ys->xs.length=ys.length
 |[],[],_=>rfl
 |_::_,_::_,h=>by simp[DEqL.len h.2]
 |[],_::_,h=>h.elim
 |_::_,[],h=>h.elim
theorem DEqL.at:∀{xs ys:List D},DEqL xs ys->∀(j:Nat) y,ys[j]?=some y->∃x,xs[j]?=some x/\DEq x y
 |[],[],_,j,y,h=>by simp at h
 | a :: r,b :: s,h,j,y,hy=>by
   cases j with
   |zero=>simp at hy;subst hy;exact⟨a,by simp,h.1⟩
   |succ j=>simpa using DEqL.at h.2 j y (by simpa using hy)
 |[],_::_,h,_,_,_=>h.elim
 |_::_,[],h,_,_,_=>h.elim
theorem deqP {P:Program}{f:FuncId}{ds dargs res:List D}(h:Pure P f dargs res)(ha:DEqL ds dargs):Pure P f ds res :=
 ⟨h.1,fun F w vals hF hG hl hv=>h.2 F w vals hF hG (by rw [hl,ha.len]) (fun j y u hy hu=>by
  obtain⟨x,hx,e⟩:=ha.at j y hy
  exact DEq.ok (hv j x u hx hu) e)⟩
set_option maxRecDepth 100000
set_option maxHeartbeats 0
def cmpI (a b:Int):Int:=if a<b then -1 else if b<a then 1 else 0
theorem isNaN_ok (a:Int):Pure Tryz.prog 111 [di a] [.bool false]:=by
 refine pure_rule hT (T:=tab) (N:=6) (rs:=[.tmp 2]) Tryz.func111 rfl rfl rfl Kr rfl ?_
 (refine gW ?_;intros)
 refine⟨congrArg D.bool ?_,Tt⟩
 simp
theorem cmpI_ok (a b:Int):Pure Tryz.prog 60 [di a,di b] [di (cmpI a b)]:=by
 refine pure_rule hT (T:=tab) (N:=20) (rs:=[.tmp 4]) Tryz.func60 rfl rfl rfl Kr rfl ?_
 (refine gW ?_;intros)
 refine(isNaN_ok a).call ?_
 (refine gW ?_;intros)
 refine(isNaN_ok b).call ?_
 rcases Int.lt_trichotomy a b with h|h|h
 .rw[cmpI,if_pos h]
  (refine gW ?_;intros)
  exact⟨rfl,Tt⟩
 .rw[cmpI,if_neg Om,if_neg Om]
  (refine gW ?_;intros)
  exact⟨rfl,Tt⟩
 .rw[cmpI,if_neg Om,if_pos h]
  (refine gW ?_;intros)
  exact⟨rfl,Tt⟩
theorem orI_ok (xs:List Int)(hx:xs.length<=1000000):Pure Tryz.prog 123 [eInts xs] [di ((xs.find? fun n=>decide (n≠0)).getD 0)]:=by
 refine pure_rule hT (T:=tab) (N:=18) (rs:=[.tmp 2]) Tryz.func123 rfl rfl rfl Kr rfl ?_
 (refine gW ?_;intros)
 refine loop_rule hT (S:=Nat) (fun k=>([(3,dV 0),(6,.d (eInts xs)),(7,dV xs.length),(8,dV k)],⟨[],[]⟩)) (fun k=>k<=xs.length/\xs.find? (fun n=>decide (n≠0))=(xs.drop k).find? fun n=>decide (n≠0)) (fun k=>xs.length-k) 0 ?_ ?_ ?_
 .exact lq
 .exact⟨Nat.zero_le _,rfl⟩
 .rintro k ⟨hk,hc⟩
  by_cases hk2:k<xs.length
  .rw[drop_at hk2,List.find?_cons]at hc
   by_cases hz:xs.getD k default=0
   .rw[decide_eq_false (by simpa using hz)]at hc
    (refine gW ?_;intros)
    refine stp (k+1) ?_ ⟨by show k+1<=xs.length;omega,hc⟩
    exact lq
   .rw[decide_eq_true hz]at hc
    rw[hc]
    (refine gW ?_;intros)
    exact⟨rfl,Tt⟩
  .rw[drop_end Om,List.find?_nil]at hc
   rw[hc]
   (refine gW ?_;intros)
   exact⟨rfl,Tt⟩
def fctC (a b:Fct):Int:=if cmpI a.known b.known=0 then cmpI a.no b.no else cmpI a.known b.known
theorem fcompare_ok (a b:Fct):Pure Tryz.prog 71 [.agg (eFct a),.agg (eFct b)] [di (fctC a b)]:=by
 refine pure_rule hT (T:=tab) (N:=17) (rs:=[.tmp 4]) Tryz.func71 rfl rfl rfl Kr rfl ?_
 have h:=orI_ok [cmpI a.known b.known,cmpI a.no b.no] (show 2<=1000000 by decide)
 have e:([cmpI a.known b.known,cmpI a.no b.no].find? fun n=>decide (n≠0)).getD 0=fctC a b:=by
  unfold fctC
  by_cases h1:cmpI a.known b.known=0
  .by_cases h2:cmpI a.no b.no=0<;>simp[h1,h2]
  .simp[h1]
 rw[e]at h
 (refine gW ?_;intros)
 refine qC (cmpI_ok a.known b.known) ?_
 (refine gW ?_;intros)
 refine qC (cmpI_ok a.no b.no) ?_
 (refine gW ?_;intros)
 refine qC (deqP (ds:=[.sl 1 2 _]) h ⟨⟨rfl,rfl,fun i hi=>?_⟩,Tt⟩) ?_
 .have hi:i<2:=hi
  rcases show i=0\/i=1 by omega with rfl|rfl<;>rfl
 (refine gW ?_;intros)
 exact⟨rfl,Tt⟩
def befF (a b:Fct):Bool:=decide (a.known<b.known)||(decide (a.known=b.known)&&decide (a.no<b.no))
theorem fctC_bef (a b:Fct):decide (0<=fctC a b)=!befF a b:=by
 unfold fctC cmpI befF
 rw[Bool.eq_iff_iff]
 split<;>(try split)<;>(try split)<;>simp<;>omega
theorem before07_ok (a b:Fct):Pure Tryz.prog 136 [.agg (eFct a),.agg (eFct b)] [.bool (befF a b)]:=by
 refine pure_rule hT (T:=tab) (N:=24) (rs:=[.tmp 4]) Tryz.func136 rfl rfl rfl Kr rfl ?_
 unfold befF
 by_cases h1:a.known<b.known<;>by_cases h2:a.known=b.known<;>by_cases h3:a.no<b.no<;>((refine gW ?_;intros))<;>(refine⟨congrArg D.bool ?_,Tt⟩)<;>simp[h1,h2,h3]
structure Ke where
 kind:Int
 subject:Int
 object:Int
 deriving Inhabited,DecidableEq
def eKe (k:Ke):List D:=[di k.kind,di k.subject,di k.object]
def kOf (f:Fct):Ke:=⟨f.kind,f.subject,f.object⟩
theorem kOf_eq (f:Fct)(k:Ke):kOf f=k↔f.kind=k.kind/\f.subject=k.subject/\f.object=k.object:=by
 cases k
 simp[kOf]
def hitK (k:Ke)(kn:Int)(f:Fct):Bool:=decide (kOf f=k)&&decide (f.known<=kn)
def hitT (t:Int)(f:Fct):Bool:=decide (f.fr<=t)&&decide (t<f.til)
def zF:Fct:=⟨0,0,0,0,0,0,0,0⟩
def stepF (t:Int)(b:Option Fct)(f:Fct):Option Fct:=if hitT t f&&(b.isNone||!befF f (b.getD zF)) then some f else b
def bestF (l:List Fct)(k:Ke)(t kn:Int):Option Fct:=(l.filter (hitK k kn)).foldl (stepF t) none
def atO (b:Option Fct):Int × Bool:=match b with
 |none=>(0,false)
 |some f=>if f.value<0 then(0,false) else(f.value,true)
def atV (l:List Fct)(k:Ke)(t kn:Int):Int × Bool:=atO (bestF l k t kn)
theorem stepF_all (t:Int)(k:Ke)(kn:Int):∀(l:List Fct) (b:Option Fct),(l.filter (hitK k kn)).foldl (stepF t) b=l.foldl (fun b f=>if hitK k kn f then stepF t b f else b) b
 |[],b=>rfl
 | f :: r,b=>by
   rw[List.filter_cons,List.foldl_cons]
   cases h:hitK k kn f
   .simp only[Bool.false_eq_true,if_false]
    exact stepF_all t k kn r b
   .simp only[if_true,List.foldl_cons]
    exact stepF_all t k kn r _
end Go.Proofs.YtkjmomadndmeaaaGreatDoor
