import Derived.Test.YtkjmomadndmeaaaGreatDoorTab
import Derived.WalkKit
import Derived.LaidEql
import Derived.Stop.Asserts
import Derived.RowKitTokens
import Derived.Test.YtkjmomadndmeaaaGreatDoorBas
import Derived.Test.YtkjmomadndmeaaaGreatDoorRuleE
namespace Go.Proofs.YtkjmomadndmeaaaGreatDoor
set_option linter.unusedSimpArgs false
set_option linter.unusedVariables false
open Go.RowKit Go.Extern.Stop Go.Stop Go.Extern
set_option maxRecDepth 100000
theorem as_nil (t:Value)(w:World) :
 Calls Tryz.prog 210 #[.nilIface,t] w fun e w'=>e=.returned (.bool false)/\w'=w:=by
 go_enter Tryz.func210,Tryz.ntmps210
 go_wp2
 go_ret
 exact⟨rfl,rfl⟩
theorem as_valueOfP (t:Addr)(w:World):(ReflectliteValue.unpack (.iface 293 (.pointer (some t)))).run Tryz.prog w
 = .ok (.agg #[.pointer (some ⟨2,293,none⟩),.pointer (some ⟨w.heap.size,0,none⟩),.int .u64 150]) (w.alloc (.cells #[.pointer (some t)] 293)):=by kernel_rfl
theorem as_typeP (a:Addr)(w:World):(ReflectliteValue.methodAny (ReflectliteValue.valueError "reflectlite.Value.Type" 0) (fun t _ _ _=>ReflectliteType.toType t) #[.agg #[.pointer (some ⟨2,293,none⟩),.pointer (some a),.int .u64 150]]).run Tryz.prog w
 = .ok (.iface 330 (.agg #[.pointer (some ⟨2,293,none⟩)])) w:=by kernel_rfl
theorem as_methodKind (h:Value)(w:World):(Go.method 492 330 (.agg #[h]) "Kind").run Tryz.prog w=.ok (267,h) w:=by kernel_rfl
theorem as_kindP (w:World):((ReflectliteType.abiMethod fun t=>(fun a:Nat=>Value.int IntKind.u8 (a:Int)) <$> Rtype.kind t) #[.pointer (some ⟨2,293,none⟩)]).run Tryz.prog w=.ok (.int .u8 22) w:=by kernel_rfl
theorem as_kindF (w:World):((ReflectliteType.abiMethod fun t=>(fun a:Nat=>Value.int IntKind.u8 (a:Int)) <$> Rtype.kind t) #[.pointer (some ⟨2,291,none⟩)]).run Tryz.prog w=.ok (.int .u8 25) w:=by kernel_rfl
theorem rlm (z:Sem Value)(f:TypeId->Addr->Nat->Nat->Sem Value)(v:Value) :
 ReflectliteValue.method z f #[v]=(do match <-ReflectliteValue.parts v with|none=>z|some (t,a,fl)=>f t a fl (fl % 32)):=rfl
theorem as_partsP (a:Addr)(w:World):(ReflectliteValue.parts (.agg #[.pointer (some ⟨2,293,none⟩),.pointer (some a),.int .u64 150])).run Tryz.prog w=.ok (some (293,a,150)) w:=by kernel_rfl
theorem as_isNil (a p:Addr)(W:World)(ha:W.cell? a=some (.pointer (some p))) :
 (ReflectliteValue.method (ReflectliteValue.valueError "reflectlite.Value.IsNil" 0) ReflectliteValue.isNil #[.agg #[.pointer (some ⟨2,293,none⟩),.pointer (some a),.int .u64 150]]).run Tryz.prog W=.ok (.bool false) W:=by
 rw[rlm]
 simp only[Sem.run_bind,as_partsP,Result.andThen]
 simp[ReflectliteValue.isNil,loadVar,isAgg,underlying,Tryz.underlying293,ha,Result.andThen]
theorem as_methodElem (h:Value)(w:World):(Go.method 492 330 (.agg #[h]) "Elem").run Tryz.prog w=.ok (277,.agg #[h]) w:=by kernel_rfl
theorem as_methodImplements (h:Value)(w:World):(Go.method 492 330 (.agg #[h]) "Implements").run Tryz.prog w=.ok (278,.agg #[h]) w:=by kernel_rfl
theorem as_methodAssignableTo (h:Value)(w:World):(Go.method 492 330 (.agg #[h]) "AssignableTo").run Tryz.prog w=.ok (275,.agg #[h]) w:=by kernel_rfl
theorem as_elem (w:World):(ReflectliteType.method ReflectliteType.elem #[.agg #[.pointer (some ⟨2,293,none⟩)]]).run Tryz.prog w=.ok (.iface 330 (.agg #[.pointer (some ⟨2,291,none⟩)])) w:=by kernel_rfl
theorem as_implements (w:World):(ReflectliteType.relation "Implements" ReflectliteType.implements_ #[.agg #[.pointer (some ⟨2,291,none⟩)],.iface 330 (.agg #[.pointer (some ⟨2,261,none⟩)])]).run Tryz.prog w=.ok (.bool true) w:=by kernel_rfl
theorem as_typeOf (v:Value)(w:World):(ReflectliteType.typeOf #[.iface 291 v]).run Tryz.prog w=.ok (.iface 330 (.agg #[.pointer (some ⟨2,291,none⟩)])) w:=by kernel_rfl
theorem as_assignable (w:World):(ReflectliteType.relation "AssignableTo" ReflectliteType.assignableTo #[.agg #[.pointer (some ⟨2,291,none⟩)],.iface 330 (.agg #[.pointer (some ⟨2,291,none⟩)])]).run Tryz.prog w=.ok (.bool true) w:=by kernel_rfl
theorem as_valueOfF (e:Int)(w:World):(ReflectliteValue.unpack (.iface 291 (.agg #[.int .i64 e]))).run Tryz.prog w
 = .ok (.agg #[.pointer (some ⟨2,291,none⟩),.pointer (some ⟨w.heap.size,0,none⟩),.int .u64 153]) (w.alloc (.cells #[.int .i64 e] 291)):=by kernel_rfl
theorem as_elemOf (w:World):(Rtype.elem? 293).run Tryz.prog w=.ok (some 291) w:=by kernel_rfl
theorem as_mk (p:Addr)(w:World):(ReflectliteValue.mk 291 p ReflectliteValue.flagAddr).run Tryz.prog w=.ok (.agg #[.pointer (some ⟨2,291,none⟩),.pointer (some p),.int .u64 409]) w:=by kernel_rfl
theorem as_elemV (a p:Addr)(W:World)(ha:W.cell? a=some (.pointer (some p))) :
 (ReflectliteValue.method (ReflectliteValue.valueError "reflectlite.Value.Elem" 0) ReflectliteValue.elem #[.agg #[.pointer (some ⟨2,293,none⟩),.pointer (some a),.int .u64 150]]).run Tryz.prog W
  = .ok (.agg #[.pointer (some ⟨2,291,none⟩),.pointer (some p),.int .u64 409]) W:=by
 rw[rlm]
 simp only[Sem.run_bind,as_partsP,Result.andThen]
 simp[ReflectliteValue.elem,loadVar,isAgg,underlying,Tryz.underlying293,ha,Result.andThen,as_elemOf,as_mk]
theorem rls (v x:Value):ReflectliteValue.set #[v,x]=(do
 let (some (dst,a,fl),some (src,b,_)):=(<-ReflectliteValue.parts v,<-ReflectliteValue.parts x)
  |unsupported (.noEntry "extern/(internal/reflectlite.Value).Set.zeroValue")
 if fl / ReflectliteValue.flagAddr % 2==0 then unsupported (.noEntry "extern/(internal/reflectlite.Value).Set.unaddressable")
 let val <-loadVar src b
 if <-Rtype.directlyAssignable dst src then storeVar dst a val
 else if <-Rtype.implements dst src then
  if(<-Rtype.kind src)==20 then
   match val with
   | .nilIface=>unsupported (.noEntry "extern/reflectlite: a nil value of one interface type handed on as a value of another")
   |_=>storeVar dst a val
  else storeVar dst a (.iface src val)
 else panicString ("reflectlite.Set: value of type " ++ (<-Rtype.spelt src) ++ " is not assignable to type " ++ (<-Rtype.spelt dst))
 pure (.tuple #[])):=rfl
theorem as_partsFa (a:Addr)(w:World):(ReflectliteValue.parts (.agg #[.pointer (some ⟨2,291,none⟩),.pointer (some a),.int .u64 409])).run Tryz.prog w=.ok (some (291,a,409)) w:=by kernel_rfl
theorem as_partsF (a:Addr)(w:World):(ReflectliteValue.parts (.agg #[.pointer (some ⟨2,291,none⟩),.pointer (some a),.int .u64 153])).run Tryz.prog w=.ok (some (291,a,153)) w:=by kernel_rfl
theorem as_direct (w:World):(Rtype.directlyAssignable 291 291).run Tryz.prog w=.ok true w:=by kernel_rfl
theorem as_size (w:World):(sizeOf 291).run Tryz.prog w=.ok 1 w:=by kernel_rfl
theorem as_agg (w:World):(isAgg 291).run Tryz.prog w=.ok true w:=by kernel_rfl
theorem as_load (b:Addr)(e:Int)(W:World)(hb:W.cell? b=some (.int .i64 e)):(loadVar 291 b).run Tryz.prog W=.ok (.agg #[.int .i64 e]) W:=by
 have:=run_loadCells_list (P:=Tryz.prog) W b [.int .i64 e] (fun j v hj=>by
  match j with
  |0=>simp at hj;subst hj;rw[show b.add 0=b from Addr.add_zero' b];exact hb
  |j+1=>simp at hj)
 simp only[List.length_cons,List.length_nil,Nat.zero_add]at this
 simp[loadVar,as_agg,as_size,this]
theorem as_set (ta b:Addr)(e:Int)(old:Value)(W:World)(hb:W.cell? b=some (.int .i64 e))(ht:W.cell? ta=some old)(hf:W.frozen? ta=false) :
 (ReflectliteValue.set #[.agg #[.pointer (some ⟨2,291,none⟩),.pointer (some ta),.int .u64 409],.agg #[.pointer (some ⟨2,291,none⟩),.pointer (some b),.int .u64 153]]).run Tryz.prog W
  = .ok (.tuple #[]) (W.setCell ta (.int .i64 e)):=by
 rw[rls]
 simp only[Sem.run_bind,as_partsFa,as_partsF,Result.andThen]
 simp[ReflectliteValue.flagAddr,as_load b e W hb,Result.andThen,as_direct,storeVar,Value.cells,storeCells,Addr.add,as_size]
 rw[run_store Tryz.prog W ta _ _ (by rfl)]
 simp[ht,hf]
set_option maxHeartbeats 4000000 in
theorem as_hit (e:Int)(t:Addr)(old:Value)(w:World)(hg:w.cell? ⟨1,0,none⟩=some (.iface 330 (.agg #[.pointer (some ⟨2,261,none⟩)])))(ht0:w.cell? t=some old)(hf0:w.frozen? t=false) :
 Calls Tryz.prog 210 #[.iface 291 (.agg #[.int .i64 e]),.iface 293 (.pointer (some t))] w fun ev w'=>ev=.returned (.bool true)/\w'=((((w.alloc (.cells #[.pointer (some t)] 293)).alloc (.cells #[.pointer (some ⟨2,293,none⟩),.pointer (some ⟨w.heap.size,0,none⟩),.int .u64 150] 314)).alloc (.cells #[.pointer (some ⟨2,293,none⟩),.pointer (some ⟨w.heap.size,0,none⟩),.int .u64 150] 314)).alloc (.cells #[.int .i64 e] 291)).setCell t (.int .i64 e):=by
 have h6:=@run_callFunc_extern Tryz.prog 233 _ (fun args=>ReflectliteValue.unpack (args.getD 0 (.tuple #[]))) Tryz.func233 (by kernel_rfl) (by kernel_rfl) (by kernel_rfl) (by kernel_rfl)
 have h7:=@run_callFunc_extern Tryz.prog 234 _ (ReflectliteValue.methodAny (ReflectliteValue.valueError "reflectlite.Value.Type" 0) (fun t _ _ _=>ReflectliteType.toType t)) Tryz.func234 (by kernel_rfl) (by kernel_rfl) (by kernel_rfl) (by kernel_rfl)
 have h8:=@run_callFunc_extern Tryz.prog 235 _ (ReflectliteValue.method (ReflectliteValue.valueError "reflectlite.Value.IsNil" 0) ReflectliteValue.isNil) Tryz.func235 (by kernel_rfl) (by kernel_rfl) (by kernel_rfl) (by kernel_rfl)
 have h27:=@run_callFunc_extern Tryz.prog 267 _ (ReflectliteType.abiMethod fun t=>do pure (.int .u8 (<-Rtype.kind t))) Tryz.func267 (by kernel_rfl) (by kernel_rfl) (by kernel_rfl) (by kernel_rfl)
 have h37:=@run_callFunc_extern Tryz.prog 277 _ (ReflectliteType.method ReflectliteType.elem) Tryz.func277 (by kernel_rfl) (by kernel_rfl) (by kernel_rfl) (by kernel_rfl)
 have h38:=@run_callFunc_extern Tryz.prog 278 _ (ReflectliteType.relation "Implements" ReflectliteType.implements_) Tryz.func278 (by kernel_rfl) (by kernel_rfl) (by kernel_rfl) (by kernel_rfl)
 have h10:=@run_callFunc_extern Tryz.prog 247 _ ReflectliteType.typeOf Tryz.func247 (by kernel_rfl) (by kernel_rfl) (by kernel_rfl) (by kernel_rfl)
 have h35:=@run_callFunc_extern Tryz.prog 275 _ (ReflectliteType.relation "AssignableTo" ReflectliteType.assignableTo) Tryz.func275 (by kernel_rfl) (by kernel_rfl) (by kernel_rfl) (by kernel_rfl)
 have h11:=@run_callFunc_extern Tryz.prog 248 _ (ReflectliteValue.method (ReflectliteValue.valueError "reflectlite.Value.Elem" 0) ReflectliteValue.elem) Tryz.func248 (by kernel_rfl) (by kernel_rfl) (by kernel_rfl) (by kernel_rfl)
 have h12:=@run_callFunc_extern Tryz.prog 249 _ ReflectliteValue.set Tryz.func249 (by kernel_rfl) (by kernel_rfl) (by kernel_rfl) (by kernel_rfl)
 have tO:=as_typeOf
 have mA:=as_methodAssignableTo
 have a25:=as_assignable
 have v25:=as_valueOfF
 have f6:=as_valueOfP
 have f7:=as_typeP
 have mK:=as_methodKind
 have mE:=as_methodElem
 have mI:=as_methodImplements
 have k27:=as_kindP
 have k25:=as_kindF
 have e27:=as_elem
 have i25:=as_implements
 have n8:=as_isNil ⟨w.heap.size,0,none⟩ t ((w.alloc (.cells #[.pointer (some t)] 293)).alloc (.cells #[.pointer (some ⟨2,293,none⟩),.pointer (some ⟨w.heap.size,0,none⟩),.int .u64 150] 314)) (by simp)
 have hlt:1<w.heap.size:=by
  rcases Nat.lt_or_ge 1 w.heap.size with h|h
  .exact h
  .simp[World.cell?,Array.getElem?_eq_none h]at hg
 have hg2:((w.alloc (.cells #[.pointer (some t)] 293)).alloc (.cells #[.pointer (some ⟨2,293,none⟩),.pointer (some ⟨w.heap.size,0,none⟩),.int .u64 150] 314)).cell? ⟨1,0,none⟩=some (.iface 330 (.agg #[.pointer (some ⟨2,261,none⟩)])):=by
  rw[World.cell?_alloc_lt _ _ ⟨1,0,none⟩ (by simp<;>omega),World.cell?_alloc_lt _ _ ⟨1,0,none⟩ hlt];exact hg
 have htl:t.block<w.heap.size:=by
  rcases Nat.lt_or_ge t.block w.heap.size with h|h
  .exact h
  .simp[World.cell?,Array.getElem?_eq_none h]at ht0
 have el:=as_elemV ⟨w.heap.size,0,none⟩ t (((w.alloc (.cells #[.pointer (some t)] 293)).alloc (.cells #[.pointer (some ⟨2,293,none⟩),.pointer (some ⟨w.heap.size,0,none⟩),.int .u64 150] 314)).alloc (.cells #[.pointer (some ⟨2,293,none⟩),.pointer (some ⟨w.heap.size,0,none⟩),.int .u64 150] 314)) (by rw[World.cell?_alloc_lt _ _ ⟨w.heap.size,0,none⟩ (by simp;omega)];simp)
 have st:=as_set t ⟨w.heap.size+1+1+1,0,none⟩ e old ((((w.alloc (.cells #[.pointer (some t)] 293)).alloc (.cells #[.pointer (some ⟨2,293,none⟩),.pointer (some ⟨w.heap.size,0,none⟩),.int .u64 150] 314)).alloc (.cells #[.pointer (some ⟨2,293,none⟩),.pointer (some ⟨w.heap.size,0,none⟩),.int .u64 150] 314)).alloc (.cells #[.int .i64 e] 291))
  (by rw[World.cell?_alloc_at _ _ _ _ (by simp)];rfl)
  (by rw[World.cell?_alloc_lt _ _ t (by simp;omega),World.cell?_alloc_lt _ _ t (by simp;omega),World.cell?_alloc_lt _ _ t (by simp;omega),World.cell?_alloc_lt _ _ t htl];exact ht0)
  (by rw[World.frozen?_alloc_old _ _ t (by simp;omega),World.frozen?_alloc_old _ _ t (by simp;omega),World.frozen?_alloc_old _ _ t (by simp;omega),World.frozen?_alloc_old _ _ t (Nat.ne_of_lt htl)];exact hf0)
 go_enter Tryz.func210,Tryz.ntmps210
 go_wp2
 refine wp_loop_rounds 1 ?_
 rw[rounds_succ]
 go_wp2
 go_ret
 exact⟨rfl,rfl⟩
end Go.Proofs.YtkjmomadndmeaaaGreatDoor
namespace Go.Proofs.YtkjmomadndmeaaaGreatDoor
set_option linter.unusedSimpArgs false
set_option linter.unusedVariables false
open Go Go.Ab
set_option maxRecDepth 100000
set_option maxHeartbeats 0
structure Meet where
 day:Int
 fr:Int
 to:Int
 first:Int
 last:Int
 deriving Inhabited,DecidableEq
def eMeet (s:Meet):List D:=[di s.day,di s.fr,di s.to,di s.first,di s.last]
def eMeets (xs:List Meet):D:=.sl 5 xs.length fun i=>eMeet (xs.getD i default)
def mvalid (s:Meet):Bool:=decide (0<=s.day)&&decide (s.day<7)&&decide (0<=s.fr)&&decide (s.fr<s.to)&&decide (s.to<=1440)&&decide (0<=s.first)&&decide (s.first<=s.last)&&decide (s.last<60)
theorem mvalid_ok (s:Meet):Pure Tryz.prog 214 [.agg (eMeet s)] [.bool (mvalid s)]:=by
 refine pure_rule hT (T:=tab) (N:=45) (rs:=[.tmp 2]) Tryz.func214 rfl rfl rfl Kr rfl ?_
 (refine gW ?_;intros)
 refine⟨congrArg D.bool ?_,Tt⟩
 simp only[mvalid,Bool.cond_false_right]
def mover (s t:Meet):Bool:=decide (s.day=t.day)&&decide (max s.fr t.fr<min s.to t.to)&&decide (max s.first t.first<=min s.last t.last)
theorem mover_ok (s t:Meet):Pure Tryz.prog 178 [.agg (eMeet s),.agg (eMeet t)] [.bool (mover s t)]:=by
 refine pure_rule hT (T:=tab) (N:=36) (rs:=[.tmp 4]) Tryz.func178 rfl rfl rfl Kr rfl ?_
 (refine gW ?_;intros)
 refine⟨congrArg D.bool ?_,Tt⟩
 simp only[mover,Bool.cond_false_right,Int.max_def,Int.min_def]
 rfl
theorem pairs_ok (xs:List Meet):CallVC Tryz.prog 215 [.d (eMeets xs)] ⟨[],[]⟩
 (Ret (fun _:Unit=>([.fn (.func 239) [] [lp 0]],⟨[bX 154 [.d (eMeets xs)]],[]⟩)) fun _=>True):=by
 refine call_rule hT (T:=tab) (N:=4) (rs:=[.tmp 2]) _ _ Tryz.func215 rfl rfl rfl Kr rfl ?_
 (refine gW ?_;intros)
 exact⟨(),Tt,by repeat' (first|exact Tt|exact rfl|exact Nat.le_refl _|refine And.intro ?_ ?_),rfl⟩
def ovIn (a:Meet)(l:List Meet):Bool:=l.any (mover a)
def ovAll:List Meet->Bool
 |[]=>false
 |a::r=>ovIn a r||ovAll r
def ownP (b:Nat)(r:Loop)(xs:List Meet)(c:Bool):List (Option Blk) :=
 [bX 38 [dV (bif c then 220 else 0)],bX 154 [.d (eMeets xs)],some (.loop b (bif c then after r (some .ret) else r) [(2,ap 0)])]
theorem pairs1_ok (b:Nat)(r:Loop)(xs:List Meet)(hx:xs.length<=16)
 (hy:∀a c,YieldVC Tryz.prog b [.d (.agg (eMeet a)),.d (.agg (eMeet c))] ⟨[],ownP b r xs false⟩ (Ret (fun s:Bool=>([.d (.bool (!s))],⟨[],ownP b r xs s⟩)) fun s=>s=mover a c)) :
 CallVC Tryz.prog 239 [.fn (.yield b) [] [],ap 1] ⟨[],ownP b r xs false⟩ (Ret (fun s:Bool=>([],⟨[],ownP b r xs s⟩)) fun s=>s=ovAll xs):=by
 refine call_rule hT (T:=tab) (N:=30) (rs:=[]) _ _ Tryz.func239 rfl rfl rfl Kr rfl ?_
 (refine gW ?_;intros)
 refine loop_rule hT (S:=Nat) (fun k=>([(0,.fn (.yield b) [] []),(1,ap 1),(7,.d (eMeets xs)),(8,dV xs.length),(9,dV k)],⟨[],ownP b r xs false⟩)) (fun k=>k<=xs.length/\ovAll xs=ovAll (xs.drop k)) (fun k=>xs.length-k) 0 ?_ ?_ ?_
 .exact lq
 .exact⟨Nat.zero_le _,rfl⟩
 .rintro k ⟨hk,hc⟩
  ((refine xW ?_ ?_)<;>intros)
  .have hd:=drop_at (xs:=xs) (k:=k) Om
   refine loop_rule hT (S:=Nat) (fun i=>([(0,.fn (.yield b) [] []),(1,ap 1),(4,lp 0),(7,.d (eMeets xs)),(8,dV xs.length),(9,dV k),(17,.d (.sl 5 (xs.length-(k+1)) fun i=>eMeet (xs.getD (k+1+i) default))),(18,dV ((xs.length-(k+1):Nat):Int)),(19,dV i)],⟨[bX 266 (up (eMeet (xs.getD k default)))],ownP b r xs false⟩)) (fun i=>i<=xs.length-(k+1)/\ovAll (xs.drop k)=(ovIn (xs.getD k default) (xs.drop (k+1+i))||ovAll (xs.drop (k+1)))) (fun i=>xs.length-(k+1)-i) 0 ?_ ?_ ?_
   .exact lq
   .exact⟨Nat.zero_le _,by rw[hd,ovAll]⟩
   .rintro i ⟨hi,hci⟩
    ((refine xW ?_ ?_)<;>intros)
    .have hd2:=drop_at (xs:=xs) (k:=k+1+i) Om
     refine(hy (xs.getD k default) (xs.getD (k+1+i) default)).at [.arg 0,.arg 1,.arg 2] rfl ⟨rfl,rfl,rfl,Tt⟩ (fun s hs=>⟨rfl,?_⟩)
     cases s
     ·(refine gW ?_;intros)
      refine⟨i+1,⟨by show i+1<=xs.length-(k+1);omega,?_⟩,by show xs.length-(k+1)-(i+1)<xs.length-(k+1)-i;omega,?_⟩
      .rw[hci,hd2,ovIn,List.any_cons,<-hs,Bool.false_or]
       rfl
      .exact lq
     ·(refine gW ?_;intros)
      refine⟨true,?_,by repeat' (first|exact Tt|exact rfl|exact Nat.le_refl _|refine And.intro ?_ ?_),rfl⟩
      rw[hc,hci,hd2,ovIn,List.any_cons,<-hs]
      rfl
    .have hi2:i=xs.length-(k+1):=by omega
     refine⟨k+1,⟨by show k+1<=xs.length;omega,?_⟩,by show xs.length-(k+1)<xs.length-k;omega,?_⟩
     .rw[hc,hci,hi2,List.drop_of_length_le Om]
      rfl
     .exact lq
  .refine⟨false,?_,by repeat' (first|exact Tt|exact rfl|exact Nat.le_refl _|refine And.intro ?_ ?_),rfl⟩
   rw[hc,List.drop_of_length_le Om]
   rfl
def mcheck (xs:List Meet):Int:=if 16<xs.length then 220 else if xs.all mvalid=true/\ovAll xs=false then 0 else 220
theorem meetCheck_ok (xs:List Meet):Pure Tryz.prog 176 [eMeets xs] [di (mcheck xs)]:=by
 refine pure_rule hT (T:=tab) (N:=27) (rs:=[.cell 2 38]) Tryz.func176 rfl rfl rfl Kr rfl ?_
 ((refine xW ?_ ?_)<;>intros)
 .refine⟨congrArg (D.int .i64) ?_,Tt⟩
  rw[mcheck,if_pos Om]
 have hx:xs.length<=16:=by omega
 refine loop_rule hT (S:=Nat) (fun k=>([(0,.d (eMeets xs)),(2,lp 0),(10,.d (eMeets xs)),(11,dV xs.length),(12,dV k)],⟨[bX 38 [dV 0]],[]⟩)) (fun k=>k<=xs.length/\xs.all mvalid=(xs.drop k).all mvalid) (fun k=>xs.length-k) 0 ?_ ?_ ?_
 .exact lq
 .exact⟨Nat.zero_le _,rfl⟩
 .rintro k ⟨hk,hc⟩
  by_cases hk2:k<xs.length
  .have hd:=drop_at (xs:=xs) (k:=k) hk2
   (refine gW ?_;intros)
   refine(mvalid_ok (xs.getD k default)).call ?_
   cases hv:mvalid (xs.getD k default)
   ·(refine gW ?_;intros)
    refine⟨congrArg (D.int .i64) ?_,Tt⟩
    rw[mcheck,if_neg Om,if_neg]
    rintro⟨h1,-⟩
    rw[hc,hd,List.all_cons,hv]at h1
    cases h1
   ·(refine gW ?_;intros)
    refine⟨k+1,⟨by show k+1<=xs.length;omega,?_⟩,by show xs.length-(k+1)<xs.length-k;omega,?_⟩
    .rw[hc,hd,List.all_cons,hv]
     rfl
    .exact lq
  .have hall:xs.all mvalid=true:=by rw[hc,List.drop_of_length_le Om];rfl
   (refine gW ?_;intros)
   refine(pairs_ok xs).at [] rfl Tt (fun _ _=>⟨rfl,?_⟩)
   (refine gW ?_;intros)
   refine Awp.range (caps:=[lp 1]) [(2,lp 0)] (.inl rfl) (nl:=2) (na:=0) ⟨⟨rfl,rfl⟩,Tt⟩ ?_
   intro b r h1 h2 h3 h4 h5 h6
   refine(pairs1_ok b r xs hx ?_).at [.loc 0,.loc 1,.loc 2] rfl ⟨rfl,rfl,rfl,Tt⟩ (fun s hs=>⟨rfl,?_⟩)
   .intro a c
    refine yieldMono (yield_rule (N:=27) (ps:=[22,23]) (args:=[.d (.agg (eMeet a)),.d (.agg (eMeet c))]) (bs:=[bX 38 [dV 0],bX 154 [.d (eMeets xs)]]) (env0:=[(2,ap 0)])
     (fun s:Bool=>[bX 38 [dV (bif s then 220 else 0)],bX 154 [.d (eMeets xs)]]) (fun s:Bool=>bif s then some .ret else none) (fun s=>s=mover a c) h1 h3 h4 h5 h6 rfl (by simp) ?_ rfl rfl ?_) ?_
    .exact lq
    .refine Awp.of_vc hT ?_
     (refine gW ?_;intros)
     refine Awp.of_vc hT ?_
     (refine gW ?_;intros)
     refine(mover_ok a c).call ?_
     cases hm:mover a c
     ·(refine gW ?_;intros)
      exact⟨false,rfl,rfl,rfl,by repeat' (first|exact Tt|exact rfl|exact Nat.le_refl _|refine And.intro ?_ ?_)⟩
     ·(refine gW ?_;intros)
      exact⟨true,rfl,rfl,rfl,by repeat' (first|exact Tt|exact rfl|exact Nat.le_refl _|refine And.intro ?_ ?_)⟩
    .rintro A m' ⟨s,hJ,rfl,rfl⟩
     refine⟨s,hJ,by cases s<;>rfl,?_⟩
     cases s
     .show(⟨[],[some _,some _,some (.loop b (after r none) _)]⟩:Mem)=_
      rw[after_none h1 h2]
      rfl
     .rfl
   .cases s
    ·(refine gW ?_;intros)
     refine⟨none,by rw[after_none h1 h2];rfl,?_⟩
     show Sq _ _
     (refine gW ?_;intros)
     refine⟨congrArg (D.int .i64) ?_,Tt⟩
     rw[mcheck,if_neg Om,if_pos ⟨hall,hs.symm⟩]
    ·(refine gW ?_;intros)
     refine⟨some .ret,rfl,?_⟩
     refine Awp.of_vc hT ?_
     (refine gW ?_;intros)
     refine⟨congrArg (D.int .i64) ?_,Tt⟩
     rw[mcheck,if_neg Om,if_neg (fun h=>by have:=hs.trans h.2;cases this)]
     rfl
end Go.Proofs.YtkjmomadndmeaaaGreatDoor
namespace Go.Proofs.YtkjmomadndmeaaaGreatDoor
set_option linter.unusedSimpArgs false
set_option linter.unusedVariables false
open Go Go.Ab Go.RowKit
set_option maxRecDepth 100000
set_option maxHeartbeats 0
theorem as_hit_vc (e:Int):CallVC Tryz.prog 210 [.d (.ifc 291 (.agg [.int .i64 e])),.ifc 293 (.ptr (.arg 0) 0 0 0)] ⟨[],[some (.box 291 [.d (.int .i64 0)])]⟩
 (Ret (fun _:Unit=>([.d (.bool true)],⟨[],[some (.box 291 [.d (.int .i64 e)])]⟩)) fun _=>True):=by
 refine⟨⟨_,Tryz.func210,rfl,rfl⟩,fun σ F w vals hm ha=>?_⟩
 obtain⟨v0,v1,rfl⟩:∃v0 v1,vals=[v0,v1]:=by
  match vals,ha.1 with
  |[v,u],_=>exact⟨v,u,rfl⟩
 have h0:=ha.2 0 _ v0 rfl rfl
 have h1:=ha.2 1 _ v1 rfl rfl
 obtain rfl:v0=.iface 291 (.agg #[.int .i64 e]):=by
  cases h0 with
  | d h=>cases h with
    | ifc h=>cases h with
      | @agg cs us hl h =>
        match us,hl with
        | [u],_ =>
          have:=h 0 _ u rfl rfl
          cases this
          rfl
 obtain⟨v2,rfl,h2⟩:∃v2,v1=.iface 293 v2/\Vc w F σ (.ptr (.arg 0) 0 0 0) v2:=by
  cases h1 with
  |ifc h=>exact⟨_,rfl,h⟩
 obtain⟨pl,hr,hok,_,hat⟩:=ptr_row hm h2 (B:=.box 291 [.d (.int .i64 0)]) rfl
 obtain⟨k0,ksz,b,hloc,us,hheap,hlen,hvc⟩:=hok
 obtain⟨b',tot,hl',rfl⟩:=hat k0
 rw[hloc]at hl'
 obtain⟨rfl,rfl⟩:=Prod.mk.inj (Option.some.inj hl')
 obtain⟨u0,rfl⟩:∃u0,us=[u0]:=by
  match us,hlen with
  |[u],_=>exact⟨u,rfl⟩
 have hu0:=(hvc 0 _ u0 rfl rfl).1.int
 subst hu0
 simp only[Nat.zero_mul,Nat.zero_add]
 have hg:=(hm.gl 1 0 _ (List.Mem.head _)).2
 have hbl:b<w.heap.size:=(Array.getElem?_eq_some_iff.1 hheap).1
 have hcell:w.cell? ⟨b,0,none⟩=some (.int .i64 0):=by simp[World.cell?,hheap]
 have hfrz:w.frozen? ⟨b,0,none⟩=false:=by simp[World.frozen?,hheap]
 refine(as_hit e ⟨b,0,none⟩ (.int .i64 0) w hg hcell hfrz).mono ?_
 rintro ev w' ⟨rfl,rfl⟩
 generalize hw1:(w.alloc (.cells #[.pointer (some ⟨b,0,none⟩)] 293))=w1
 generalize hw2:w1.alloc (.cells #[.pointer (some ⟨2,293,none⟩),.pointer (some ⟨w.heap.size,0,none⟩),.int .u64 150] 314)=w2
 generalize hw3:w2.alloc (.cells #[.pointer (some ⟨2,293,none⟩),.pointer (some ⟨w.heap.size,0,none⟩),.int .u64 150] 314)=w3
 generalize hw4:w3.alloc (.cells #[.int .i64 e] 291)=w4
 have e1:w1.heap.size=w.heap.size+1:=by rw[<-hw1,size_alloc]
 have e2:w2.heap.size=w.heap.size+2:=by rw[<-hw2,size_alloc,e1]
 have e3:w3.heap.size=w.heap.size+3:=by rw[<-hw3,size_alloc,e2]
 have e4:w4.heap.size=w.heap.size+4:=by rw[<-hw4,size_alloc,e3]
 have hk4:∀c,c<w.heap.size->w4.heap[c]?=w.heap[c]?:=fun c hc=>by
  rw[<-hw4,Go.heap_alloc_old w3 _ Om,<-hw3,Go.heap_alloc_old w2 _ Om,<-hw2,Go.heap_alloc_old w1 _ Om,<-hw1,Go.heap_alloc_old w _ hc]
 have hsz:(w4.setCell ⟨b,0,none⟩ (.int .i64 e)).heap.size=w4.heap.size:=by simp
 have hkk:∀c,c<w.heap.size->c≠b->(w4.setCell ⟨b,0,none⟩ (.int .i64 e)).heap[c]?=w.heap[c]?:=fun c hc hne=>by
  rw[Below.heap_setCell w4 ⟨b,0,none⟩ _ c hne,hk4 c hc]
 have hnew:(w4.setCell ⟨b,0,none⟩ (.int .i64 e)).heap[b]?=some (.cells #[.int .i64 e] 291 (0,0)):=one_setCell (by rw[hk4 b hbl,hheap])
 obtain⟨q1,q2⟩:=change_ok (B':=.box 291 [.d (.int .i64 e)]) hm (w':=w4.setCell ⟨b,0,none⟩ (.int .i64 e)) hr (by rw[hsz];omega) (fun c hc hne=>hkk c hc fun e=>hne 1 (by rw[e];exact hloc))
  (pl':=pl) ⟨Nat.le_refl _,fun _=>rfl⟩ ⟨k0,ksz,b,hloc,[.int .i64 e],hnew,rfl,fun j A u hA hu=>by
   match j with
   |0=>simp at hA hu;subst hA;subst hu;exact⟨.d .int,rfl⟩
   |j+1=>simp at hA⟩ (fun c t h=>by rw[hloc]at h;cases h;exact⟨by rw[hsz];omega,.inl ⟨1,hloc⟩⟩)
 have hw:(w4.setCell ⟨b,0,none⟩ (.int .i64 e)).os=w.os/\(w4.setCell ⟨b,0,none⟩ (.int .i64 e)).tape=w.tape/\(w4.setCell ⟨b,0,none⟩ (.int .i64 e)).output=w.output/\(w4.setCell ⟨b,0,none⟩ (.int .i64 e)).drawn=w.drawn:=by
  refine⟨?_,?_,?_,?_⟩<;>(rw[<-hw4,<-hw3,<-hw2,<-hw1];rfl)
 exact⟨_,_,_,_,F,rfl,⟨(),trivial,rfl,rfl⟩,.d .bool,q1,⟨hw.1,hw.2.1,hw.2.2.1,Nat.le_of_eq hw.2.2.2.symm,by rw[hsz];omega,fun c hc ho=>hkk c hc fun e=>ho ⟨.arg 0,pl,1,hr,by rw[e];exact hloc⟩,fun _ h=>h,fun _ h=>.inl h,own_upd_old hr (fun b' t' h=>.inl ⟨t',h⟩)⟩,q2⟩
theorem as_nil_vc:CallVC Tryz.prog 210 [.d .nili,.ifc 293 (.ptr (.arg 0) 0 0 0)] ⟨[],[some (.box 291 [.d (.int .i64 0)])]⟩
 (Ret (fun _:Unit=>([.d (.bool false)],⟨[],[some (.box 291 [.d (.int .i64 0)])]⟩)) fun _=>True):=by
 refine⟨⟨_,Tryz.func210,rfl,rfl⟩,fun σ F w vals hm ha=>?_⟩
 obtain⟨v0,v1,rfl⟩:∃v0 v1,vals=[v0,v1]:=by
  match vals,ha.1 with
  |[v,u],_=>exact⟨v,u,rfl⟩
 have h0:=ha.2 0 _ v0 rfl rfl
 obtain rfl:v0=.nilIface:=by
  cases h0 with
  | d h=>cases h with
    |nili=>rfl
 refine(as_nil v1 w).mono ?_
 rintro ev w' ⟨rfl,rfl⟩
 exact⟨_,_,_,σ,F,rfl,⟨(),trivial,rfl,rfl⟩,.d .bool,hm,Step.refl σ F _,SLe.refl σ⟩
def eErr (e:Int):D:=if e=0 then .nili else .ifc 291 (.agg [.int .i64 e])
theorem code_ok (e:Int):Pure Tryz.prog 173 [eErr e] [.int .i64 e]:=by
 refine pure_rule hT (T:=tab) (N:=9) (rs:=[.tmp 2]) Tryz.func173 rfl rfl rfl Kr rfl ?_
 by_cases h:e=0
 .subst h
  rw[show eErr 0=.nili from rfl]
  (refine gW ?_;intros)
  refine as_nil_vc.at [.loc 0] rfl ⟨rfl,Tt⟩ (fun _ _=>⟨rfl,?_⟩)
  (refine gW ?_;intros)
  refine⟨congrArg (D.int .i64) ?_,Tt⟩
  rfl
 .rw[show eErr e=.ifc 291 (.agg [.int .i64 e]) from if_neg h]
  (refine gW ?_;intros)
  refine(as_hit_vc e).at [.loc 0] rfl ⟨rfl,Tt⟩ (fun _ _=>⟨rfl,?_⟩)
  (refine gW ?_;intros)
  refine⟨congrArg (D.int .i64) ?_,Tt⟩
  rfl
#print axioms code_ok
end Go.Proofs.YtkjmomadndmeaaaGreatDoor
namespace Go.Proofs.YtkjmomadndmeaaaGreatDoor
set_option linter.unusedSimpArgs false
set_option linter.unusedVariables false
open Go Go.Ab
set_option maxRecDepth 100000
set_option maxHeartbeats 0
structure Grp where
 g:Int
 seats:Int
 til:Int
 deriving Inhabited,DecidableEq
def eGrp (s:Grp):List D:=[di s.g,di s.seats,di s.til]
def eGrps (xs:List Grp):D:=.sl 3 xs.length fun i=>eGrp (xs.getD i default)
structure Sec where
 id:Int
 course:Int
 term:Int
 campus:Int
 seats:Int
 meets:List Meet
 groups:List Grp
 labs:List Int
 lab:Bool
 deriving Inhabited,DecidableEq
def eSec (s:Sec):List D:=[di s.id,di s.course,di s.term,di s.campus,di s.seats,eMeets s.meets,eGrps s.groups,eInts s.labs,.bool s.lab]
def eSecs (xs:List Sec):D:=.sl 9 xs.length fun i=>eSec (xs.getD i default)
def wit (n lo hi:Int):Bool:=decide (lo<=n)&&decide (n<=hi)
theorem wit_iff {n lo hi:Int}:wit n lo hi=true↔lo<=n/\n<=hi:=by simp[wit]
theorem zwithin_ok (n lo hi:Int):Pure Tryz.prog 250 [di n,di lo,di hi] [.bool (wit n lo hi)]:=by
 refine pure_rule hT (T:=tab) (N:=15) (rs:=[.tmp 6]) Tryz.func250 rfl rfl rfl Kr rfl ?_
 (refine gW ?_;intros)
 refine⟨congrArg D.bool ?_,Tt⟩
 rw[wit]
 cases decide (lo<=n)<;>rfl
def gok:Int->List Grp->Bool
 |_,[]=>true
 |last,g::r=>wit g.g (last+1) 7&&wit g.seats 0 4096&&wit g.til 0 1048576&&gok g.g r
def gsum:List Grp->Int
 |[]=>0
 |g::r=>g.seats+gsum r
theorem gsum_snoc:∀(l:List Grp) (g:Grp),gsum (l++[g])=gsum l+g.seats
 |[],g=>by simp[gsum]
 |x::r,g=>by rw[List.cons_append,gsum,gsum_snoc r g,gsum];omega
def lok:Int->List Int->Bool
 |_,[]=>true
 |last,n::r=>wit n (last+1) 3999&&lok n r
def formed (s:Sec):Bool:=gok (-1) s.groups&&lok (-1) s.labs&&(wit s.id 0 3999&&wit s.course 0 4095&&wit s.term 0 1023&&wit s.campus 0 6&&wit s.seats 0 4096&&decide ((s.groups.length:Int)<=8)&&decide (gsum s.groups<=s.seats)&&!(s.lab&&decide (0<(s.labs.length:Int))))
theorem zformed_ok (s:Sec)(hg:s.groups.length<=1000000)(hl:s.labs.length<=1000000):Pure Tryz.prog 237 [.agg (eSec s)] [.bool (formed s)]:=by
 refine pure_rule hT (T:=tab) (N:=101) (rs:=[.tmp 2]) Tryz.func237 rfl rfl rfl Kr rfl ?_
 (refine gW ?_;intros)
 refine loop_rule hT (S:=Nat × Int × Int) (fun q=>([(1,lp 0),(3,dV q.2.1),(4,dV q.2.2),(10,.d (eGrps s.groups)),(11,dV s.groups.length),(12,dV q.1)],⟨[bX 214 (up (eSec s))],[]⟩))
  (fun q=>q.1<=s.groups.length/\gok (-1) s.groups=gok q.2.2 (s.groups.drop q.1)/\q.2.1=gsum (s.groups.take q.1)/\-1<=q.2.2/\q.2.2<=7/\0<=q.2.1/\q.2.1<=4096*q.1) (fun q=>s.groups.length-q.1) (0,0,-1) ?_ ?_ ?_
 .exact lq
 .exact⟨Nat.zero_le _,rfl,rfl,Dc,Dc,Dc,Dc⟩
 .rintro⟨k,all,last⟩ ⟨hk,h1,h2,h3,h4,h5,h6⟩
  dsimp only at hk h1 h2 h3 h4 h5 h6
  by_cases hk2:k<s.groups.length
  .have hd:=drop_at (xs:=s.groups) (k:=k) hk2
   have ht:=take_succ_at (xs:=s.groups) (k:=k) hk2
   rw[hd,gok]at h1
   (refine gW ?_;intros)
   refine callB (zwithin_ok (s.groups.getD k default).g (last+1) 7) (fun hw1=>?_) (fun hw1=>?_)
   ·(refine gW ?_;intros)
    refine⟨congrArg D.bool ?_,Tt⟩
    rw[formed,h1,hw1]
    rfl
   have hw1':=wit_iff.1 hw1
   (refine gW ?_;intros)
   refine callB (zwithin_ok (s.groups.getD k default).seats 0 4096) (fun hw2=>?_) (fun hw2=>?_)
   ·(refine gW ?_;intros)
    refine⟨congrArg D.bool ?_,Tt⟩
    rw[formed,h1,hw1,hw2]
    rfl
   have hw2':=wit_iff.1 hw2
   (refine gW ?_;intros)
   refine callB (zwithin_ok (s.groups.getD k default).til 0 1048576) (fun hw3=>?_) (fun hw3=>?_)
   ·(refine gW ?_;intros)
    refine⟨congrArg D.bool ?_,Tt⟩
    rw[formed,h1,hw1,hw2,hw3]
    rfl
   rw[hw1,hw2,hw3]at h1
   (refine gW ?_;intros)
   refine⟨(k+1,all+(s.groups.getD k default).seats,(s.groups.getD k default).g),⟨by show k+1<=s.groups.length;omega,?_,?_,?_,?_,?_,?_⟩,by show s.groups.length-(k+1)<s.groups.length-k;omega,?_⟩
   .rw[h1];rfl
   .rw[ht,gsum_snoc,h2]
   .show -1<=(s.groups.getD k default).g;omega
   .show(s.groups.getD k default).g<=7;omega
   .show 0<=all+(s.groups.getD k default).seats;omega
   .show all+(s.groups.getD k default).seats<=4096*((k+1:Nat):Int);omega
   .exact lq
  .have hk3:k=s.groups.length:=by omega
   subst hk3
   rw[List.take_length]at h2
   rw[drop_end (Nat.le_refl _),gok]at h1
   (refine gW ?_;intros)
   refine loop_rule hT (S:=Nat × Int) (fun q=>([(1,lp 0),(3,dV all),(4,dV q.2),(42,.d (eInts s.labs)),(43,dV s.labs.length),(44,dV q.1)],⟨[bX 214 (up (eSec s))],[]⟩))
    (fun q=>q.1<=s.labs.length/\lok (-1) s.labs=lok q.2 (s.labs.drop q.1)/\-1<=q.2/\q.2<=3999) (fun q=>s.labs.length-q.1) (0,-1) ?_ ?_ ?_
   .exact lq
   .exact⟨Nat.zero_le _,rfl,Dc,Dc⟩
   .rintro⟨k,last⟩ ⟨hk,h7,h8,h9⟩
    dsimp only at hk h7 h8 h9
    by_cases hk2:k<s.labs.length
    .have hd:=drop_at (xs:=s.labs) (k:=k) hk2
     rw[hd,lok]at h7
     (refine gW ?_;intros)
     refine callB (zwithin_ok (s.labs.getD k default) (last+1) 3999) (fun hw1=>?_) (fun hw1=>?_)
     ·(refine gW ?_;intros)
      refine⟨congrArg D.bool ?_,Tt⟩
      rw[formed,h1,h7,hw1]
      rfl
     have hw1':=wit_iff.1 hw1
     rw[hw1]at h7
     (refine gW ?_;intros)
     refine⟨(k+1,s.labs.getD k default),⟨by show k+1<=s.labs.length;omega,?_,?_,?_⟩,by show s.labs.length-(k+1)<s.labs.length-k;omega,?_⟩
     .rw[h7];rfl
     .show -1<=s.labs.getD k default;omega
     .exact hw1'.2
     .exact lq
    .rw[drop_end Om,lok]at h7
     (refine gW ?_;intros)
     refine callB (zwithin_ok _ _ _) (fun hw1=>?_) (fun hw1=>?_)
     ·(refine gW ?_;intros)
      refine⟨congrArg D.bool ?_,Tt⟩
      simp[formed,hw1]
     (refine gW ?_;intros)
     refine callB (zwithin_ok _ _ _) (fun hw2=>?_) (fun hw2=>?_)
     ·(refine gW ?_;intros)
      refine⟨congrArg D.bool ?_,Tt⟩
      simp[formed,hw2]
     (refine gW ?_;intros)
     refine callB (zwithin_ok _ _ _) (fun hw3=>?_) (fun hw3=>?_)
     ·(refine gW ?_;intros)
      refine⟨congrArg D.bool ?_,Tt⟩
      simp[formed,hw3]
     (refine gW ?_;intros)
     refine callB (zwithin_ok _ _ _) (fun hw4=>?_) (fun hw4=>?_)
     ·(refine gW ?_;intros)
      refine⟨congrArg D.bool ?_,Tt⟩
      simp[formed,hw4]
     (refine gW ?_;intros)
     refine callB (zwithin_ok _ _ _) (fun hw5=>?_) (fun hw5=>?_)
     ·(refine gW ?_;intros)
      refine⟨congrArg D.bool ?_,Tt⟩
      simp[formed,hw5]
     (refine gW ?_;intros)
     refine⟨congrArg D.bool ?_,Tt⟩
     rw[formed,h1,h7,hw1,hw2,hw3,hw4,hw5,<-h2]
     simp
def chkS (s:Sec):Int:=if formed s=true then mcheck s.meets else 230
theorem zcheck_ok (s:Sec)(hg:s.groups.length<=1000000)(hl:s.labs.length<=1000000):Pure Tryz.prog 211 [.agg (eSec s)] [eErr (chkS s)]:=by
 refine pure_rule hT (T:=tab) (N:=17) (rs:=[.tmp 2]) Tryz.func211 rfl rfl rfl Kr rfl ?_
 (refine gW ?_;intros)
 refine callB (zformed_ok s hg hl) (fun hf=>?_) (fun hf=>?_)
 ·(refine gW ?_;intros)
  rw[show chkS s=230 by simp[chkS,hf]]
  exact⟨rfl,Tt⟩
 ·(refine gW ?_;intros)
  have hc:chkS s=mcheck s.meets:=by simp[chkS,hf]
  refine callZ (meetCheck_ok s.meets) (fun h0=>?_) (fun h0=>?_)
  ·(refine gW ?_;intros)
   rw[hc,h0]
   exact⟨rfl,Tt⟩
  ·(refine gW ?_;intros)
   rw[hc,show eErr (mcheck s.meets)=_ from if_neg h0]
   exact⟨rfl,Tt⟩
theorem idxSec_ok (xs:List Sec)(hx:xs.length<=1000000)(f:FuncId)(c0:D)(p:Sec->Bool)(hp:∀s,s∈xs->Pure Tryz.prog f [.agg (eSec s),c0] [.bool (p s)]) :
 Pure Tryz.prog 128 [eSecs xs,.fn (.func f) [] [c0]] [di (ix p xs 0)]:=by
 refine pure_rule hT (T:=tab) (N:=19) (rs:=[.tmp 4]) Tryz.func128 rfl rfl rfl Kr rfl ?_
 (refine gW ?_;intros)
 refine loop_rule hT (S:=Nat) (fun k=>([(0,.d (eSecs xs)),(1,.d (.fn (.func f) [] [c0])),(7,dV xs.length),(8,dV k)],⟨[],[]⟩)) (fun k=>k<=xs.length/\ix p xs 0=ix p (xs.drop k) k) (fun k=>xs.length-k) 0 ?_ ?_ ?_
 .exact lq
 .exact⟨Nat.zero_le _,rfl⟩
 .rintro k ⟨hk,hc⟩
  ((refine xW ?_ ?_)<;>intros)
  .refine⟨⟨f,[],[.d c0],.inr ⟨[],[c0],rfl,rfl,rfl⟩,(hp (xs.getD k default) (getD_mem Om)).call ?_⟩⟩
   ((refine xW ?_ ?_)<;>(intros;try rename_i h))
   .refine⟨congrArg (D.int .i64) ?_,Tt⟩
    rw[hc,drop_at Om,ix,if_pos h]
   .refine⟨k+1,⟨by show k+1<=xs.length;omega,?_⟩,by show xs.length-(k+1)<xs.length-k;omega,?_⟩
    .rw[hc,drop_at Om,ix,if_neg (by rw[h];exact Bool.false_ne_true)]
     rfl
    .exact lq
  .refine⟨congrArg (D.int .i64) ?_,Tt⟩
   have:k=xs.length:=by omega
   rw[hc]
   simp[this,ix]
theorem number_ok (s:Sec):Pure Tryz.prog 130 [.agg (eSec s)] [di s.id]:=by
 refine pure_rule hT (T:=tab) (N:=5) (rs:=[.tmp 2]) Tryz.func130 rfl rfl rfl Kr rfl ?_
 (refine gW ?_;intros)
 refine⟨congrArg (D.int .i64) ?_,Tt⟩
 rfl
theorem find1_ok (s:Sec)(n:Int):Pure Tryz.prog 129 [.agg (eSec s),.pt [di n] 0] [.bool (decide (s.id=n))]:=by
 refine pure_rule hT (T:=tab) (N:=8) (rs:=[.tmp 3]) Tryz.func129 rfl rfl rfl Kr rfl ?_
 (refine gW ?_;intros)
 refine qI (number_ok s) ?_
 (refine gW ?_;intros)
 refine⟨congrArg D.bool ?_,Tt⟩
 rfl
def findS (l:List Sec)(n:Int):Option Sec:=l.find? fun s=>decide (s.id=n)
def eFind (o:Option Sec):List D:=[.agg (eSec (o.getD default)),.bool o.isSome]
theorem find_ok (l:List Sec)(hx:l.length<=1000000)(n:Int):Pure Tryz.prog 76 [eSecs l,di n] (eFind (findS l n)):=by
 refine pure_rule hT (T:=tab) (N:=17) (rs:=[.cell 4 157,.tmp 5]) Tryz.func76 rfl rfl rfl Kr rfl ?_
 (refine gW ?_;intros)
 refine(idxSec_ok l hx 129 (.pt [di n] 0) _ (fun s _=>find1_ok s n)).loan rfl ⟨.d,.fn' Tt ⟨.ptr' rfl ⟨.d,Tt⟩,Tt⟩,Tt⟩ ?_
 obtain⟨hp,hn⟩:=ix_find (fun s:Sec=>decide (s.id=n)) l 0
 obtain⟨hlt,hge⟩:=ix_lt (fun s:Sec=>decide (s.id=n)) l 0 Dc
 simp only[Int.natCast_zero,Int.zero_add,Nat.sub_zero]at hp hn hlt
 generalize ix (fun s:Sec=>decide (s.id=n)) l 0=i at hp hn hlt hge
 by_cases hi:i<0
 ·(refine gW ?_;intros)
  rw[findS,hn hi]
  refine⟨Or.inr ?_,rfl,Tt⟩
  exact lq
 ·(refine gW ?_;intros)
  rw[findS,(hp Om).1]
  exact⟨Or.inl rfl,rfl,Tt⟩
def labM (l:List Sec):List Int->Option Sec:=l.foldl (fun M s=>if s.lab=true then fun k=>if k=[s.id] then some s else M k else M) fun _=>none
theorem labM_snoc (l:List Sec)(s:Sec):labM (l++[s])=if s.lab=true then fun k=>if k=[s.id] then some s else labM l k else labM l:=by
 simp[labM,List.foldl_append]
def mHas (M:List Int->Option Sec):List Int->Bool:=fun k=>(M k).isSome
def mVal (M:List Int->Option Sec):List Int->D:=fun k=>.agg (eSec ((M k).getD default))
def eLabM (M:List Int->Option Sec):D:=.mapd (.one .i64) (mHas M) (mVal M)
def misfit (M:List Int->Option Sec)(s:Sec)(n:Int):Bool:=!mHas M [n]||(!decide (((M [n]).getD default).course=s.course)||!decide (((M [n]).getD default).term=s.term))
theorem zmisfit_ok (M:List Int->Option Sec)(s:Sec)(n:Int):Pure Tryz.prog 212 [di n,.pt [eLabM M] 0,.pt (eSec s) 0] [.bool (misfit M s n)]:=by
 refine pure_rule hT (T:=tab) (N:=29) (rs:=[.tmp 4]) Tryz.func212 rfl rfl rfl Kr rfl ?_
 repeat' (first|with_reducible refine Sq.go ?_|((with_reducible refine Ev.mk ?_);conv=>whnf)|with_reducible refine Dr.mk ⟨Kr,Kr⟩ ?_|with_reducible refine obG ?_|with_reducible refine Ob.mk ?_ ?_|(with_reducible first|refine brT fun h=>?_|refine brF fun h=>?_|refine Br.mk (fun h=>?_) fun h=>?_)<;>(try simp only[bsl,beq_iff_eq,bne_iff_ne,bs2]at h)<;>(try contradiction)<;>try (exfalso;omega))
 .intro hM
  have hM:M [n]=none:=by simpa[mHas] using hM
  rw[mVal,hM]
  exact⟨rfl,rfl,rfl,rfl,rfl,rfl,rfl,rfl,rfl,Tt⟩
 .refine⟨congrArg D.bool ?_,Tt⟩
  rw[misfit]
  cases mHas M [n]<;>simp
theorem idxInt2_ok (xs:List Int)(hx:xs.length<=1000000)(f:FuncId)(c0 c1:D)(p:Int->Bool)(hp:∀s,s∈xs->Pure Tryz.prog f [di s,c0,c1] [.bool (p s)]) :
 Pure Tryz.prog 238 [eInts xs,.fn (.func f) [] [c0,c1]] [di (ix p xs 0)]:=by
 refine pure_rule hT (T:=tab) (N:=19) (rs:=[.tmp 4]) Tryz.func238 rfl rfl rfl Kr rfl ?_
 (refine gW ?_;intros)
 refine loop_rule hT (S:=Nat) (fun k=>([(0,.d (eInts xs)),(1,.d (.fn (.func f) [] [c0,c1])),(7,dV xs.length),(8,dV k)],⟨[],[]⟩)) (fun k=>k<=xs.length/\ix p xs 0=ix p (xs.drop k) k) (fun k=>xs.length-k) 0 ?_ ?_ ?_
 .exact lq
 .exact⟨Nat.zero_le _,rfl⟩
 .rintro k ⟨hk,hc⟩
  ((refine xW ?_ ?_)<;>intros)
  .refine⟨⟨f,[],[.d c0,.d c1],.inr ⟨[],[c0,c1],rfl,rfl,rfl⟩,(hp (xs.getD k default) (getD_mem Om)).call ?_⟩⟩
   ((refine xW ?_ ?_)<;>(intros;try rename_i h))
   .refine⟨congrArg (D.int .i64) ?_,Tt⟩
    rw[hc,drop_at Om,ix,if_pos h]
   .refine⟨k+1,⟨by show k+1<=xs.length;omega,?_⟩,by show xs.length-(k+1)<xs.length-k;omega,?_⟩
    .rw[hc,drop_at Om,ix,if_neg (by rw[h];exact Bool.false_ne_true)]
     rfl
    .exact lq
  .refine⟨congrArg (D.int .i64) ?_,Tt⟩
   have:k=xs.length:=by omega
   rw[hc]
   simp[this,ix]
theorem anyInt2_ok (xs:List Int)(hx:xs.length<=1000000)(f:FuncId)(c0 c1:D)(p:Int->Bool)(hp:∀s,s∈xs->Pure Tryz.prog f [di s,c0,c1] [.bool (p s)]) :
 Pure Tryz.prog 213 [eInts xs,.fn (.func f) [] [c0,c1]] [.bool (xs.any p)]:=by
 refine pure_rule hT (T:=tab) (N:=9) (rs:=[.tmp 4]) Tryz.func213 rfl rfl rfl Kr rfl ?_
 (refine gW ?_;intros)
 refine(idxInt2_ok xs hx f c0 c1 p hp).call ?_
 (refine gW ?_;intros)
 refine⟨congrArg D.bool ?_,Tt⟩
 rw[<-ix_ge p xs 0 Om]
def secP2 (M:List Int->Option Sec):Int->List Sec->Bool
 |_,[]=>true
 |last,s::r=>decide (last<s.id)&&!(s.labs.any (misfit M s))&&secP2 M s.id r
def chkE:List Sec->Int
 |[]=>0
 |s::r=>if chkS s=0 then chkE r else chkS s
def chkAll (l:List Sec):Int:=if chkE l=0 then(if secP2 (labM l) (-1) l=true then 0 else 230) else chkE l
def fewS (l:List Sec):Prop:=l.length<=1000/\∀s∈l,s.groups.length<=1000/\s.labs.length<=1000/\s.meets.length<=1000
theorem chkS_ok {s:Sec}(h:chkS s=0):formed s=true/\mcheck s.meets=0:=by
 unfold chkS at h
 split at h
 .exact⟨by assumption,h⟩
 .cases h
theorem chkE_at:∀{l:List Sec},chkE l=0->∀s∈l,chkS s=0
 |[],_=>fun s h=>by simp at h
 | x :: r,h=>fun s hs=>by
   unfold chkE at h
   split at h
   .rename_i h0
    rcases List.mem_cons.1 hs with rfl|hs
    .exact h0
    .exact chkE_at h s hs
   .rename_i h0
    exact absurd h h0
theorem formed_id {s:Sec}(h:formed s=true):0<=s.id/\s.id<=3999/\0<=s.course/\s.course<=4095/\0<=s.term/\s.term<=1023/\0<=s.seats/\s.seats<=4096:=by
 simp only[formed,Bool.and_eq_true,wit_iff]at h
 omega
theorem lab_put {l:List Sec}{k:Nat}(hk:k<l.length)(hlab:(l.getD k default).lab=true)(q:List Int) :
 (decide (q=[(l.getD k default).id])||mHas (labM (l.take k)) q)=mHas (labM (l.take (k+1))) q /\
 (bif decide (q=[(l.getD k default).id]) then AV.d (.agg (eSec (l.getD k default))) else AV.d (mVal (labM (l.take k)) q))=AV.d (mVal (labM (l.take (k+1))) q):=by
 have hM:labM (l.take (k+1))=fun q=>if q=[(l.getD k default).id] then some (l.getD k default) else labM (l.take k) q:=by rw[take_succ_at hk,labM_snoc,if_pos hlab]
 rw[hM]
 generalize l.getD k default=b at *
 by_cases e:q=[b.id]
 .simp[mHas,mVal,e]
 .simp[mHas,mVal,e]
theorem lab_not {l:List Sec}{k:Nat}(hk:k<l.length)(hlab:(l.getD k default).lab=false):labM (l.take (k+1))=labM (l.take k):=by
 rw[take_succ_at hk,labM_snoc,hlab]
 rfl
theorem checkAll_ok (l:List Sec) (hl:fewS l):Pure Tryz.prog 174 [eSecs l] [eErr (chkAll l)]:=by
 refine pure_rule hT (T:=tab) (N:=52) (rs:=[.tmp 2]) Tryz.func174 rfl rfl rfl Kr rfl ?_
 have hln:=hl.1
 (refine gW ?_;intros)
 refine loop_rule hT (S:=Nat) (fun k=>([(0,.d (eSecs l)),(3,lp 1),(12,.d (eSecs l)),(13,dV l.length),(14,dV k)],⟨[some (.map (.one .i64) (mHas (labM (l.take k))) fun q=>.d (mVal (labM (l.take k)) q)),bX 294 [.mp (.loc 0)]],[]⟩))
  (fun k=>k<=l.length/\chkE l=chkE (l.drop k)) (fun k=>l.length-k) 0 ?_ ?_ ?_
 .repeat' (first|exact Tt|exact rfl|exact Nat.le_refl _|refine And.intro ?_ ?_)
  intro k hk
  exact⟨rfl,fun h=>by cases h⟩
 .exact⟨Nat.zero_le _,rfl⟩
 .rintro k ⟨hk,hc⟩
  by_cases hk2:k<l.length
  .have hd:=drop_at (xs:=l) (k:=k) hk2
   have ht:=take_succ_at (xs:=l) (k:=k) hk2
   obtain⟨hg,hb,-⟩:=hl.2 _ (getD_mem hk2)
   rw[hd,chkE]at hc
   (refine gW ?_;intros)
   have hp:=zcheck_ok (l.getD k default) Om Om
   by_cases h0:chkS (l.getD k default)=0
   .rw[h0,show eErr 0=.nili from rfl]at hp
    rw[if_pos h0]at hc
    refine hp.call ?_
    ((refine xW ?_ ?_)<;>(intros;try rename_i h))
    .have hM:=lab_put hk2 h
     refine stp (k+1) ?_ ⟨by show k+1<=l.length;omega,hc⟩
     repeat' (first|exact Tt|exact rfl|exact Nat.le_refl _|refine And.intro ?_ ?_)
     all_goals (intro q hq;exact⟨(hM q).1,fun _=>⟨(hM q).2,rfl⟩⟩)
    .have hM:=lab_not hk2 h
     refine stp (k+1) ?_ ⟨by show k+1<=l.length;omega,hc⟩
     repeat' (first|exact Tt|exact rfl|exact Nat.le_refl _|refine And.intro ?_ ?_)
     all_goals (intro q hq;rw[hM];exact⟨rfl,fun _=>⟨rfl,rfl⟩⟩)
   .rw[show eErr (chkS (l.getD k default))=_ from if_neg h0]at hp
    rw[if_neg h0]at hc
    refine hp.call ?_
    (refine gW ?_;intros)
    have h1:chkAll l=chkS (l.getD k default):=by rw[chkAll,hc,if_neg h0]
    rw[h1,show eErr (chkS (l.getD k default))=_ from if_neg h0]
    exact⟨rfl,Tt⟩
  .have hk3:k=l.length:=by omega
   subst hk3
   rw[drop_end (Nat.le_refl _),chkE]at hc
   rw[List.take_length]
   have hch:=chkE_at hc
   (refine gW ?_;intros)
   refine loop_rule hT (S:=Nat × Int) (fun q=>([(3,lp 1),(7,dV q.2),(30,.d (eSecs l)),(31,dV l.length),(32,dV q.1)],⟨[some (.map (.one .i64) (mHas (labM l)) fun q=>.d (mVal (labM l) q)),bX 294 [.mp (.loc 0)]],[]⟩))
    (fun q=>q.1<=l.length/\secP2 (labM l) (-1) l=secP2 (labM l) q.2 (l.drop q.1)) (fun q=>l.length-q.1) (0,-1) ?_ ?_ ?_
   .exact lq
    all_goals (intro q hq;exact⟨rfl,fun _=>⟨rfl,rfl⟩⟩)
   .exact⟨Nat.zero_le _,rfl⟩
   .rintro⟨k,last⟩ ⟨hk,h7⟩
    dsimp only at hk h7
    by_cases hk2:k<l.length
    .have hd:=drop_at (xs:=l) (k:=k) hk2
     obtain⟨hg,hb,-⟩:=hl.2 _ (getD_mem hk2)
     rw[hd,secP2]at h7
     by_cases hlast:last<(l.getD k default).id
     .have hla:¬ (l.getD k default).id<=last:=by omega
      (refine gW ?_;intros)
      refine loanB (anyInt2_ok (l.getD k default).labs Om 212 (.pt [eLabM (labM l)] 0) (.pt (eSec (l.getD k default)) 0) (misfit (labM l) (l.getD k default)) (fun n _=>zmisfit_ok _ _ n))
       ⟨.d,.fn' Tt ⟨.ptr' rfl ⟨.mp rfl (fun _ _=>.d),Tt⟩,.ptr' rfl ⟨.d,.d,.d,.d,.d,.d,.d,.d,.d,Tt⟩,Tt⟩,Tt⟩ (fun hw=>?_) (fun hw=>?_)
      ·(refine gW ?_;intros)
       refine⟨(k+1,(l.getD k default).id),⟨by show k+1<=l.length;omega,?_⟩,by show l.length-(k+1)<l.length-k;omega,?_⟩
       .rw[h7,hw,decide_eq_true hlast]
        rfl
       .exact lq
        all_goals (intro q hq;exact⟨rfl,fun _=>⟨rfl,rfl⟩⟩)
      ·(refine gW ?_;intros)
       rw[show chkAll l=230 by rw[chkAll,if_pos hc,h7,hw];simp]
       exact⟨rfl,Tt⟩
     .have hla:(l.getD k default).id<=last:=by omega
      (refine gW ?_;intros)
      rw[show chkAll l=230 by rw[chkAll,if_pos hc,h7,decide_eq_false hlast];simp]
      exact⟨rfl,Tt⟩
    .rw[drop_end Om,secP2]at h7
     (refine gW ?_;intros)
     rw[show chkAll l=0 by rw[chkAll,if_pos hc,if_pos h7]]
     exact⟨rfl,Tt⟩
theorem checkAll'_ok (l:List Sec)(hl:fewS l):Pure Tryz.prog 124 [eSecs l] [di (chkAll l)]:=by
 refine pure_rule hT (T:=tab) (N:=6) (rs:=[.tmp 2]) Tryz.func124 rfl rfl rfl Kr rfl ?_
 (refine gW ?_;intros)
 refine(checkAll_ok l hl).call ?_
 (refine gW ?_;intros)
 refine(code_ok _).call ?_
 (refine gW ?_;intros)
 refine⟨congrArg (D.int .i64) ?_,Tt⟩
 rfl
theorem idxMeet_ok (xs:List Meet)(hx:xs.length<=1000000)(f:FuncId)(f0:D)(p:Meet->Bool)(hp:∀s,s∈xs->Pure Tryz.prog f [f0,.agg (eMeet s)] [.bool (p s)]) :
 Pure Tryz.prog 216 [eMeets xs,.fn (.func f) [f0] []] [di (ix p xs 0)]:=by
 refine pure_rule hT (T:=tab) (N:=19) (rs:=[.tmp 4]) Tryz.func216 rfl rfl rfl Kr rfl ?_
 (refine gW ?_;intros)
 refine loop_rule hT (S:=Nat) (fun k=>([(0,.d (eMeets xs)),(1,.d (.fn (.func f) [f0] [])),(7,dV xs.length),(8,dV k)],⟨[],[]⟩)) (fun k=>k<=xs.length/\ix p xs 0=ix p (xs.drop k) k) (fun k=>xs.length-k) 0 ?_ ?_ ?_
 .exact lq
 .exact⟨Nat.zero_le _,rfl⟩
 .rintro k ⟨hk,hc⟩
  ((refine xW ?_ ?_)<;>intros)
  .refine⟨⟨f,[.d f0],[],.inr ⟨[f0],[],rfl,rfl,rfl⟩,(hp (xs.getD k default) (getD_mem Om)).call ?_⟩⟩
   ((refine xW ?_ ?_)<;>(intros;try rename_i h))
   .refine⟨congrArg (D.int .i64) ?_,Tt⟩
    rw[hc,drop_at Om,ix,if_pos h]
   .refine⟨k+1,⟨by show k+1<=xs.length;omega,?_⟩,by show xs.length-(k+1)<xs.length-k;omega,?_⟩
    .rw[hc,drop_at Om,ix,if_neg (by rw[h];exact Bool.false_ne_true)]
     rfl
    .exact lq
  .refine⟨congrArg (D.int .i64) ?_,Tt⟩
   have:k=xs.length:=by omega
   rw[hc]
   simp[this,ix]
theorem anyMeet_ok (xs:List Meet)(hx:xs.length<=1000000)(f:FuncId)(f0:D)(p:Meet->Bool)(hp:∀s,s∈xs->Pure Tryz.prog f [f0,.agg (eMeet s)] [.bool (p s)]) :
 Pure Tryz.prog 177 [eMeets xs,.fn (.func f) [f0] []] [.bool (xs.any p)]:=by
 refine pure_rule hT (T:=tab) (N:=9) (rs:=[.tmp 4]) Tryz.func177 rfl rfl rfl Kr rfl ?_
 (refine gW ?_;intros)
 refine(idxMeet_ok xs hx f f0 p hp).call ?_
 (refine gW ?_;intros)
 refine⟨congrArg D.bool ?_,Tt⟩
 rw[<-ix_ge p xs 0 Om]
def lapM (a b:List Meet):Bool:=a.any fun m=>b.any (mover m)
theorem lapM_cons (m:Meet)(r b:List Meet):lapM (m::r) b=(b.any (mover m)||lapM r b):=rfl
def clashE (a b:List Meet):Int:=if mcheck a=0 then mcheck b else mcheck a
def clashB (a b:List Meet):Bool:=decide (clashE a b=0)&&lapM a b
theorem mclash_ok (a b:List Meet)(ha:a.length<=1000)(hb:b.length<=1000):Pure Tryz.prog 126 [eMeets a,eMeets b] [.bool (clashB a b),di (clashE a b)]:=by
 refine pure_rule hT (T:=tab) (N:=31) (rs:=[.tmp 4,.tmp 5]) Tryz.func126 rfl rfl rfl Kr rfl ?_
 (refine gW ?_;intros)
 refine callZ (meetCheck_ok a) (fun h0=>?_) (fun h0=>?_)
 ·(refine gW ?_;intros)
  refine callZ (meetCheck_ok b) (fun h1=>?_) (fun h1=>?_)
  .have he:clashE a b=0:=by rw[clashE,if_pos h0,h1]
   have hB:clashB a b=lapM a b:=by rw[clashB,he];rfl
   rw[he,hB]
   (refine gW ?_;intros)
   refine loop_rule hT (S:=Nat) (fun k=>([(1,.d (eMeets b)),(20,.d (eMeets a)),(21,dV a.length),(22,dV k)],⟨[],[]⟩)) (fun k=>k<=a.length/\lapM a b=lapM (a.drop k) b) (fun k=>a.length-k) 0 ?_ ?_ ?_
   .exact lq
   .exact⟨Nat.zero_le _,rfl⟩
   .rintro k ⟨hk,hc⟩
    by_cases hk2:k<a.length
    .rw[drop_at hk2,lapM_cons]at hc
     (refine gW ?_;intros)
     refine callB (anyMeet_ok b Om 178 (.agg (eMeet (a.getD k default))) (mover (a.getD k default)) (fun s _=>mover_ok _ _)) (fun hw=>?_) (fun hw=>?_)
     ·(refine gW ?_;intros)
      refine⟨k+1,⟨by show k+1<=a.length;omega,?_⟩,by show a.length-(k+1)<a.length-k;omega,?_⟩
      .rw[hc,hw];rfl
      .exact lq
     ·(refine gW ?_;intros)
      rw[hc,hw]
      exact⟨rfl,rfl,Tt⟩
    .rw[drop_end Om]at hc
     (refine gW ?_;intros)
     rw[hc]
     exact⟨rfl,rfl,Tt⟩
  .have he:clashE a b=mcheck b:=by rw[clashE,if_pos h0]
   have hB:clashB a b=false:=by rw[clashB,he,decide_eq_false h1];rfl
   rw[he,hB]
   (refine gW ?_;intros)
   exact⟨rfl,rfl,Tt⟩
 .have he:clashE a b=mcheck a:=by rw[clashE,if_neg h0]
  have hB:clashB a b=false:=by rw[clashB,he,decide_eq_false h0];rfl
  rw[he,hB]
  (refine gW ?_;intros)
  exact⟨rfl,rfl,Tt⟩
theorem rvalid_ok (s:Meet):Pure Tryz.prog 218 [.agg (eMeet s)] [.bool (mvalid s)]:=by
 refine pure_rule hT (T:=tab) (N:=45) (rs:=[.tmp 2]) Tryz.func218 rfl rfl rfl Kr rfl ?_
 (refine gW ?_;intros)
 refine⟨congrArg D.bool ?_,Tt⟩
 simp only[mvalid,Bool.cond_false_right]
def rover (s t:Meet):Bool:=decide (s.day=t.day)&&decide (s.fr<t.to)&&decide (t.fr<s.to)&&decide (s.first<=t.last)&&decide (t.first<=s.last)
theorem rover_ok (s t:Meet):Pure Tryz.prog 182 [.agg (eMeet s),.agg (eMeet t)] [.bool (rover s t)]:=by
 refine pure_rule hT (T:=tab) (N:=38) (rs:=[.tmp 4]) Tryz.func182 rfl rfl rfl Kr rfl ?_
 (refine gW ?_;intros)
 refine⟨congrArg D.bool ?_,Tt⟩
 simp only[rover,Bool.cond_false_right]
theorem rover_eq {s t:Meet}(hs:mvalid s=true)(ht:mvalid t=true):rover s t=mover s t:=by
 simp only[mvalid,Bool.and_eq_true,decide_eq_true_eq]at hs ht
 rw[Bool.eq_iff_iff]
 simp only[rover,mover,Bool.and_eq_true,decide_eq_true_eq]
 omega
def rovl (l:List Meet):List Meet->Bool
 |[]=>false
 |a::r=>l.any (fun b=>rover b a)||rovl (l++[a]) r
def rmc (l:List Meet):List Meet->Bool
 |[]=>true
 |a::r=>mvalid a&&(!(l.any fun b=>rover b a))&&rmc (l++[a]) r
theorem any_take_succ {l:List Meet}{k:Nat}(hk:k<l.length)(p:Meet->Bool):(l.take (k+1)).any p=((l.take k).any p||p (l.getD k default)):=by
 rw[take_succ_at hk,List.any_append]
 simp
theorem rcheckM_ok0 (xs:List Meet):Pure Tryz.prog 181 [eMeets xs] [.int .i64 (if 16 < xs.length then 220 else if rmc [] xs=true then 0 else 220)]:=by
 refine pure_rule hT (T:=tab) (N:=34) (rs:=[.tmp 2]) Tryz.func181 rfl rfl rfl Kr rfl ?_
 ((refine xW ?_ ?_)<;>intros)
 .rw[if_pos Om]
  refine⟨congrArg (D.int .i64) ?_,Tt⟩
  rfl
 rw[if_neg Om]
 have hx:xs.length<=16:=by omega
 refine loop_rule hT (S:=Nat) (fun k=>([(0,.d (eMeets xs)),(3,dV k)],⟨[],[]⟩)) (fun k=>k<=xs.length/\rmc [] xs=rmc (xs.take k) (xs.drop k)) (fun k=>xs.length-k) 0 ?_ ?_ ?_
 .exact lq
 .exact⟨Nat.zero_le _,rfl⟩
 .rintro k ⟨hk,hc⟩
  by_cases hk2:k<xs.length
  .rw [drop_at hk2,rmc] at hc
   (refine gW ?_;intros)
   refine callB (rvalid_ok (xs.getD k default)) (fun hw=>?_) (fun hw=>?_)
   ·(refine gW ?_;intros)
    rw[hc,hw]
    exact⟨rfl,Tt⟩
   .rw [hw,Bool.true_and] at hc
    (refine gW ?_;intros)
    refine loop_rule hT (S:=Nat) (fun i=>([(0,.d (eMeets xs)),(3,dV k),(4,dV i)],⟨[],[]⟩)) (fun i=>i<=k/\((xs.take i).any fun b=>rover b (xs.getD k default))=false) (fun i=>k-i) 0 ?_ ?_ ?_
    .exact lq
    .exact⟨Nat.zero_le _,rfl⟩
    .rintro i ⟨hi,hci⟩
     by_cases hi2:i<k
     .have ht:=any_take_succ (l:=xs) (k:=i) Om (fun b=>rover b (xs.getD k default))
      rw[hci,Bool.false_or]at ht
      (refine gW ?_;intros)
      refine qB (rover_ok (xs.getD i default) (xs.getD k default)) (fun hr=>?_) (fun hr=>?_)
      ·(refine gW ?_;intros)
       refine⟨i+1,⟨by show i+1<=k;omega,?_⟩,by show k-(i+1)<k-i;omega,?_⟩
       .rw[ht,hr]
       .exact lq
      ·(refine gW ?_;intros)
       have:(xs.take k).any (fun b=>rover b (xs.getD k default))=true:=by
        rw[List.any_eq_true]
        refine⟨xs.getD i default,?_,hr⟩
        have e:xs.getD i default=(xs.take k).getD i default:=by
         simp[List.getD_eq_getElem?_getD,List.getElem?_take,hi2]
        rw[e]
        exact getD_mem (by rw[List.length_take];omega)
       rw[hc,this]
       exact⟨rfl,Tt⟩
     .have:i=k:=by omega
      subst this
      (refine gW ?_;intros)
      refine⟨i+1,⟨by show i+1<=xs.length;omega,?_⟩,by show xs.length-(i+1)<xs.length-i;omega,?_⟩
      .rw[hc,hci,take_succ_at hk2]
       rfl
      .exact lq
  .rw[drop_end Om,rmc]at hc
   (refine gW ?_;intros)
   rw[hc]
   exact⟨rfl,Tt⟩
theorem ovAll_snoc (l:List Meet)(a:Meet):ovAll (l++[a])=(ovAll l||l.any fun b=>mover b a):=by
 induction l with
 |nil=>rfl
 | cons x r ih =>
   rw[List.cons_append,ovAll,ih,ovAll,List.any_cons]
   simp only[ovIn,List.any_append,List.any_cons,List.any_nil,Bool.or_false]
   cases r.any (mover x)<;>cases mover x a<;>cases ovAll r<;>simp
theorem rmc_eq:∀ (r l:List Meet),l.all mvalid=true→ovAll l=false→rmc l r=decide ((l ++ r).all mvalid=true∧ovAll (l ++ r)=false)
 |[],l,h1,h2=>by simp[rmc,h2];simpa using h1
 | a :: r,l,h1,h2=>by
   rw[rmc]
   have e:l++a::r=(l++[a])++r:=by simp
   by_cases ha:mvalid a=true
   .have hr:(l.any fun b=>rover b a)=l.any fun b=>mover b a:=by
     rw[Bool.eq_iff_iff]
     simp only[List.any_eq_true]
     constructor
     .rintro⟨b,hb,h⟩
      exact⟨b,hb,by rw[<-rover_eq (List.all_eq_true.1 h1 b hb) ha];exact h⟩
     .rintro⟨b,hb,h⟩
      exact⟨b,hb,by rw[rover_eq (List.all_eq_true.1 h1 b hb) ha];exact h⟩
    rw[hr]
    cases ho:l.any fun b=>mover b a
    .rw[ha,rmc_eq r (l++[a]) (by simp[ha];simpa using h1) (by rw[ovAll_snoc,h2,ho];rfl),e]
     rfl
    .have:ovAll (l++a::r)=true:=by
      rw[e]
      have h0:ovAll (l++[a])=true:=by rw[ovAll_snoc,ho,Bool.or_true]
      clear rmc_eq
      generalize l++[a]=m at h0
      induction m with
      |nil=>cases h0
      | cons x m ih =>
        rw[List.cons_append,ovAll]
        rw[ovAll]at h0
        simp only[ovIn,List.any_append,Bool.or_eq_true]at h0⊢
        rcases h0 with h0|h0
        .exact .inl (.inl h0)
        .exact .inr (ih h0)
     rw[this]
     simp
   .have:(l++a::r).all mvalid=false:=by simp[ha]
    rw[this]
    simp[ha]
theorem rcheckM_ok (xs:List Meet):Pure Tryz.prog 181 [eMeets xs] [di (mcheck xs)]:=by
 have:=rcheckM_ok0 xs
 rw[rmc_eq xs [] rfl rfl]at this
 simp only[decide_eq_true_eq,List.nil_append]at this
 exact this
theorem mcheck_valid {xs:List Meet}(h:mcheck xs=0):∀m∈xs,mvalid m=true:=by
 unfold mcheck at h
 split at h
 .cases h
 .split at h
  .rename_i hv;exact List.all_eq_true.1 hv.1
  .cases h
theorem rclash_ok (a b:List Meet) (ha:a.length≤1000) (hb:b.length≤1000):Pure Tryz.prog 133 [eMeets a,eMeets b] [.bool (clashB a b),.int .i64 (clashE a b)]:=by
 refine pure_rule hT (T:=tab) (N:=41) (rs:=[.tmp 4,.tmp 5]) Tryz.func133 rfl rfl rfl Kr rfl ?_
 (refine gW ?_;intros)
 refine callZ (rcheckM_ok a) (fun h0=>?_) (fun h0=>?_)
 ·(refine gW ?_;intros)
  refine callZ (rcheckM_ok b) (fun h1=>?_) (fun h1=>?_)
  .have he:clashE a b=0:=by rw [clashE,if_pos h0,h1]
   have hB:clashB a b=lapM a b:=by rw[clashB,he];rfl
   rw[he,hB]
   have va:=mcheck_valid h0
   have vb:=mcheck_valid h1
   (refine gW ?_;intros)
   refine loop_rule hT (S:=Nat) (fun k=>([(0,.d (eMeets a)),(1,.d (eMeets b)),(8,dV k)],⟨[],[]⟩)) (fun k=>k<=a.length/\lapM a b=lapM (a.drop k) b) (fun k=>a.length-k) 0 ?_ ?_ ?_
   .exact lq
   .exact⟨Nat.zero_le _,rfl⟩
   .rintro k ⟨hk,hc⟩
    by_cases hk2:k<a.length
    .rw [drop_at hk2,lapM_cons] at hc
     (refine gW ?_;intros)
     refine loop_rule hT (S:=Nat) (fun i=>([(0,.d (eMeets a)),(1,.d (eMeets b)),(8,dV k),(9,dV i)],⟨[],[]⟩)) (fun i=>i<=b.length/\b.any (mover (a.getD k default))=(b.drop i).any (mover (a.getD k default))) (fun i=>b.length-i) 0 ?_ ?_ ?_
     .exact lq
     .exact⟨Nat.zero_le _,rfl⟩
     .rintro i ⟨hi,hci⟩
      by_cases hi2:i<b.length
      .rw[drop_at hi2,List.any_cons]at hci
       rw[<-rover_eq (va _ (getD_mem hk2)) (vb _ (getD_mem hi2))]at hci
       (refine gW ?_;intros)
       refine qB (rover_ok (a.getD k default) (b.getD i default)) (fun hr=>?_) (fun hr=>?_)
       ·(refine gW ?_;intros)
        refine⟨i+1,⟨by show i+1<=b.length;omega,?_⟩,by show b.length-(i+1)<b.length-i;omega,?_⟩
        .rw[hci,hr];rfl
        .exact lq
       ·(refine gW ?_;intros)
        rw[hc,hci,hr]
        exact⟨rfl,rfl,Tt⟩
      .rw[drop_end Om]at hci
       (refine gW ?_;intros)
       refine⟨k+1,⟨by show k+1<=a.length;omega,?_⟩,by show a.length-(k+1)<a.length-k;omega,?_⟩
       .rw[hc,hci];rfl
       .exact lq
    .rw[drop_end Om]at hc
     (refine gW ?_;intros)
     rw[hc]
     exact⟨rfl,rfl,Tt⟩
  .have he:clashE a b=mcheck b:=by rw[clashE,if_pos h0]
   have hB:clashB a b=false:=by rw[clashB,he,decide_eq_false h1];rfl
   rw[he,hB]
   (refine gW ?_;intros)
   exact⟨rfl,rfl,Tt⟩
 .have he:clashE a b=mcheck a:=by rw[clashE,if_neg h0]
  have hB:clashB a b=false:=by rw[clashB,he,decide_eq_false h0];rfl
  rw[he,hB]
  (refine gW ?_;intros)
  exact⟨rfl,rfl,Tt⟩
end Go.Proofs.YtkjmomadndmeaaaGreatDoor
