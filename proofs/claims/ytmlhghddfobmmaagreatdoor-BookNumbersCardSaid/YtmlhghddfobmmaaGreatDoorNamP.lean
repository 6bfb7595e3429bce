import Derived.Test.YtmlhghddfobmmaaGreatDoorBookI
import Derived.Test.YtmlhghddfobmmaaGreatDoorOpsF
import Derived.Test.YtmlhghddfobmmaaGreatDoorFrz
import Derived.Test.YtmlhghddfobmmaaGreatDoorRuleC
namespace Go.Proofs.YtmlhghddfobmmaaGreatDoor
set_option linter.unusedSimpArgs false
set_option linter.unusedVariables false
open Go Go.Ab
set_option maxRecDepth 100000
set_option maxHeartbeats 0
structure Wor where
 bok:Bok
 fcts:List Fct
 deriving Inhabited
def eWor (w:Wor):List D:=[eCrss w.bok.crs,ePrgs w.bok.prg,eSyss w.bok.sys,eFcts w.fcts]
def rdK (k:Ke)(t:Int):Red:=⟨k.kind,k.subject,k.object,t,t+1⟩
def readsT (k:Ke)(t:Int):List Red:=if bw t 0 1023=true then[rdK k t] else[]
def lookO {α:Type}[Inhabited α](l:List α)(t:Int)(v:Int × Bool)(ok:α->Bool):Option α:=if bw t 0 1023=true/\v.2=true/\0<=v.1/\v.1<l.length/\ok (l.getD v.1.toNat default)=true then some (l.getD v.1.toNat default) else none
theorem lookCrs_ok (w:Wor)(l:List Crs)(hl:fitL l)(hf:fitL w.fcts)(k:Ke)(t kn:Int)(f:FuncId)(y:D)(ok:Crs->Bool)(hp:∀s∈l,Pure Tryz.prog f [.agg (eCrs s),y] [.bool (ok s)]) :
 Pure Tryz.prog 103 [.agg (eWor w),eCrss l,.agg (eKe k),di t,di kn,.fn (.func f) [] [y]] [.agg (eCrs ((lookO l t (atV w.fcts k t kn) ok).getD default)),eReds (readsT k t),.bool (lookO l t (atV w.fcts k t kn) ok).isSome]:=by
 have hl':l.length<=9223372036854775807:=hl
 have hA:=at_ok w.fcts hf k t kn
 obtain⟨v,hv⟩:∃v,atV w.fcts k t kn=v:=⟨_,rfl⟩
 rw[hv]at hA⊢
 obtain⟨v,b⟩:=v
 dsimp only at hA⊢
 have hI:=in_ok t 0 1023
 refine pure_rule hT (T:=tab) (N:=63) (rs:=[.cell 12 68,.tmp 13,.tmp 14]) Tryz.func103 rfl rfl rfl Kr rfl ?_
 cases ht:bw t 0 1023<;>rw[ht]at hI
 .have e1:lookO l t (v,b) ok=none:=by simp[lookO,ht]
  have e2:readsT k t=[]:=by simp[readsT,ht]
  rw[e1,e2]
  (refine gW ?_;intros)
  refine hI.call ?_
  (refine gW ?_;intros)
  exact⟨.inr ⟨rfl,rfl,rfl,rfl,rfl,rfl,rfl,rfl,rfl,rfl,rfl,rfl,rfl,rfl,rfl,rfl,Tt⟩,rfl,rfl,Tt⟩
 have ht2:0<=t/\t<=1023:=by simpa[bw] using ht
 have ht3:In .i64 (t+1):=in64.2 Om
 have e2:readsT k t=[rdK k t]:=by simp[readsT,ht]
 rw[e2]
 cases b
 .have e1:lookO l t (v,false) ok=none:=by simp[lookO]
  rw[e1]
  (refine gW ?_;intros)
  refine hI.call ?_
  (refine gW ?_;intros)
  refine hA.call ?_
  (refine gW ?_;intros)
  exact⟨.inr ⟨rfl,rfl,rfl,rfl,rfl,rfl,rfl,rfl,rfl,rfl,rfl,rfl,rfl,rfl,rfl,rfl,Tt⟩,⟨rfl,rfl,Nat.le_refl _,rfl,fun i hi=>by rw[show i=0 from Nat.lt_one_iff.1 hi];rfl⟩,rfl,Tt⟩
 by_cases h0:0<=v
 case neg =>
  have e1:lookO l t (v,true) ok=none:=by simp only[lookO];rw[if_neg];exact fun h=>h0 h.2.2.1
  rw[e1]
  (refine gW ?_;intros)
  refine hI.call ?_
  (refine gW ?_;intros)
  refine hA.call ?_
  (refine gW ?_;intros)
  exact⟨.inr ⟨rfl,rfl,rfl,rfl,rfl,rfl,rfl,rfl,rfl,rfl,rfl,rfl,rfl,rfl,rfl,rfl,Tt⟩,⟨rfl,rfl,Nat.le_refl _,rfl,fun i hi=>by rw[show i=0 from Nat.lt_one_iff.1 hi];rfl⟩,rfl,Tt⟩
 by_cases h1:v<l.length
 case neg =>
  have e1:lookO l t (v,true) ok=none:=by simp only[lookO];rw[if_neg];exact fun h=>h1 h.2.2.2.1
  rw[e1]
  (refine gW ?_;intros)
  refine hI.call ?_
  (refine gW ?_;intros)
  refine hA.call ?_
  (refine gW ?_;intros)
  exact⟨.inr ⟨rfl,rfl,rfl,rfl,rfl,rfl,rfl,rfl,rfl,rfl,rfl,rfl,rfl,rfl,rfl,rfl,Tt⟩,⟨rfl,rfl,Nat.le_refl _,rfl,fun i hi=>by rw[show i=0 from Nat.lt_one_iff.1 hi];rfl⟩,rfl,Tt⟩
 obtain⟨n,rfl⟩:∃n:Nat,v=n:=⟨v.toNat,Om⟩
 have hn:n<l.length:=by omega
 have hP:=hp (l.getD n default) (getD_mem hn)
 cases h2:ok (l.getD n default)<;>rw[h2]at hP
 .have e1:lookO l t ((n:Int),true) ok=none:=by simp only[lookO];rw[if_neg];intro h;have:=h.2.2.2.2;rw[Int.toNat_natCast,h2]at this;cases this
  rw[e1]
  (refine gW ?_;intros)
  refine hI.call ?_
  (refine gW ?_;intros)
  refine hA.call ?_
  (refine gW ?_;intros)
  refine⟨⟨f,[],[.d y],.inr ⟨[],[y],rfl,rfl,rfl⟩,hP.call ?_⟩⟩
  (refine gW ?_;intros)
  exact⟨.inr ⟨rfl,rfl,rfl,rfl,rfl,rfl,rfl,rfl,rfl,rfl,rfl,rfl,rfl,rfl,rfl,rfl,Tt⟩,⟨rfl,rfl,Nat.le_refl _,rfl,fun i hi=>by rw[show i=0 from Nat.lt_one_iff.1 hi];rfl⟩,rfl,Tt⟩
 .have e1:lookO l t ((n:Int),true) ok=some (l.getD n default):=by simp only[lookO];rw[if_pos,Int.toNat_natCast];exact⟨ht,by trivial,h0,h1,by rw[Int.toNat_natCast];exact h2⟩
  rw[e1]
  (refine gW ?_;intros)
  refine hI.call ?_
  (refine gW ?_;intros)
  refine hA.call ?_
  (refine gW ?_;intros)
  refine⟨⟨f,[],[.d y],.inr ⟨[],[y],rfl,rfl,rfl⟩,hP.call ?_⟩⟩
  (refine gW ?_;intros)
  exact⟨.inl rfl,⟨rfl,rfl,Nat.le_refl _,rfl,fun i hi=>by rw[show i=0 from Nat.lt_one_iff.1 hi];rfl⟩,rfl,Tt⟩
theorem lookSys_ok (w:Wor)(l:List Sys)(hl:fitL l)(hf:fitL w.fcts)(k:Ke)(t kn:Int)(f:FuncId)(ok:Sys->Bool)(hp:∀s∈l,Pure Tryz.prog f [.agg (eSys s)] [.bool (ok s)]) :
 Pure Tryz.prog 108 [.agg (eWor w),eSyss l,.agg (eKe k),di t,di kn,.fn (.func f) [] []] [.agg (eSys ((lookO l t (atV w.fcts k t kn) ok).getD default)),eReds (readsT k t),.bool (lookO l t (atV w.fcts k t kn) ok).isSome]:=by
 have hl':l.length<=9223372036854775807:=hl
 have hA:=at_ok w.fcts hf k t kn
 obtain⟨v,hv⟩:∃v,atV w.fcts k t kn=v:=⟨_,rfl⟩
 rw[hv]at hA⊢
 obtain⟨v,b⟩:=v
 dsimp only at hA⊢
 have hI:=in_ok t 0 1023
 refine pure_rule hT (T:=tab) (N:=63) (rs:=[.cell 12 83,.tmp 13,.tmp 14]) Tryz.func108 rfl rfl rfl Kr rfl ?_
 cases ht:bw t 0 1023<;>rw[ht]at hI
 .have e1:lookO l t (v,b) ok=none:=by simp[lookO,ht]
  have e2:readsT k t=[]:=by simp[readsT,ht]
  rw[e1,e2]
  (refine gW ?_;intros)
  refine hI.call ?_
  (refine gW ?_;intros)
  exact⟨.inr ⟨rfl,rfl,rfl,rfl,Tt⟩,rfl,rfl,Tt⟩
 have ht2:0<=t/\t<=1023:=by simpa[bw] using ht
 have ht3:In .i64 (t+1):=in64.2 Om
 have e2:readsT k t=[rdK k t]:=by simp[readsT,ht]
 rw[e2]
 cases b
 .have e1:lookO l t (v,false) ok=none:=by simp[lookO]
  rw[e1]
  (refine gW ?_;intros)
  refine hI.call ?_
  (refine gW ?_;intros)
  refine hA.call ?_
  (refine gW ?_;intros)
  exact⟨.inr ⟨rfl,rfl,rfl,rfl,Tt⟩,⟨rfl,rfl,Nat.le_refl _,rfl,fun i hi=>by rw[show i=0 from Nat.lt_one_iff.1 hi];rfl⟩,rfl,Tt⟩
 by_cases h0:0<=v
 case neg =>
  have e1:lookO l t (v,true) ok=none:=by simp only[lookO];rw[if_neg];exact fun h=>h0 h.2.2.1
  rw[e1]
  (refine gW ?_;intros)
  refine hI.call ?_
  (refine gW ?_;intros)
  refine hA.call ?_
  (refine gW ?_;intros)
  exact⟨.inr ⟨rfl,rfl,rfl,rfl,Tt⟩,⟨rfl,rfl,Nat.le_refl _,rfl,fun i hi=>by rw[show i=0 from Nat.lt_one_iff.1 hi];rfl⟩,rfl,Tt⟩
 by_cases h1:v<l.length
 case neg =>
  have e1:lookO l t (v,true) ok=none:=by simp only[lookO];rw[if_neg];exact fun h=>h1 h.2.2.2.1
  rw[e1]
  (refine gW ?_;intros)
  refine hI.call ?_
  (refine gW ?_;intros)
  refine hA.call ?_
  (refine gW ?_;intros)
  exact⟨.inr ⟨rfl,rfl,rfl,rfl,Tt⟩,⟨rfl,rfl,Nat.le_refl _,rfl,fun i hi=>by rw[show i=0 from Nat.lt_one_iff.1 hi];rfl⟩,rfl,Tt⟩
 obtain⟨n,rfl⟩:∃n:Nat,v=n:=⟨v.toNat,Om⟩
 have hn:n<l.length:=by omega
 have hP:=hp (l.getD n default) (getD_mem hn)
 cases h2:ok (l.getD n default)<;>rw[h2]at hP
 .have e1:lookO l t ((n:Int),true) ok=none:=by simp only[lookO];rw[if_neg];intro h;have:=h.2.2.2.2;rw[Int.toNat_natCast,h2]at this;cases this
  rw[e1]
  (refine gW ?_;intros)
  refine hI.call ?_
  (refine gW ?_;intros)
  refine hA.call ?_
  (refine gW ?_;intros)
  refine hP.call ?_
  (refine gW ?_;intros)
  exact⟨.inr ⟨rfl,rfl,rfl,rfl,Tt⟩,⟨rfl,rfl,Nat.le_refl _,rfl,fun i hi=>by rw[show i=0 from Nat.lt_one_iff.1 hi];rfl⟩,rfl,Tt⟩
 .have e1:lookO l t ((n:Int),true) ok=some (l.getD n default):=by simp only[lookO];rw[if_pos,Int.toNat_natCast];exact⟨ht,by trivial,h0,h1,by rw[Int.toNat_natCast];exact h2⟩
  rw[e1]
  (refine gW ?_;intros)
  refine hI.call ?_
  (refine gW ?_;intros)
  refine hA.call ?_
  (refine gW ?_;intros)
  refine hP.call ?_
  (refine gW ?_;intros)
  exact⟨.inl rfl,⟨rfl,rfl,Nat.le_refl _,rfl,fun i hi=>by rw[show i=0 from Nat.lt_one_iff.1 hi];rfl⟩,rfl,Tt⟩
structure WfW (w:Wor):Prop where
 bok:wfBok w.bok
 crs:∀c∈w.bok.crs,smCrs c
 fct:fitL w.fcts
def okCrs (n:Int)(c:Crs):Bool:=decide (c.number=n)&&vCrs c
theorem crsV_ok (c:Crs)(n:Int)(hw:wfCrs c):Pure Tryz.prog 102 [.agg (eCrs c),.pt [di n] 0] [.bool (okCrs n c)]:=by
 have hV:=validCourse_ok c hw
 unfold okCrs
 refine pure_rule hT (T:=tab) (N:=12) (rs:=[.tmp 3]) Tryz.func102 rfl rfl rfl Kr rfl ?_
 by_cases h:c.number=n
 ·(refine gW ?_;intros)
  refine hV.call ?_
  (refine gW ?_;intros)
  refine⟨congrArg D.bool ?_,Tt⟩
  simp[h]
 ·(refine gW ?_;intros)
  refine⟨congrArg D.bool ?_,Tt⟩
  simp[h]
def crsOf (w:Wor)(n t kn:Int):Option Crs:=lookO w.bok.crs t (atV w.fcts ⟨1,n,0⟩ t kn) (okCrs n)
def sysOf (w:Wor)(t kn:Int):Option Sys:=lookO w.bok.sys t (atV w.fcts ⟨4,0,0⟩ t kn) vSys
theorem bcourse_ok (w:Wor)(hw:WfW w)(n t kn:Int):Pure Tryz.prog 30 [.agg (eWor w),di n,di t,di kn] [.agg (eCrs ((crsOf w n t kn).getD default)),eReds (readsT ⟨1,n,0⟩ t),.bool (crsOf w n t kn).isSome]:=by
 have hL:=lookCrs_ok w w.bok.crs hw.bok.1.1 hw.fct ⟨1,n,0⟩ t kn 102 (.pt [di n] 0) (okCrs n) fun s hs=>crsV_ok s n (hw.bok.1.2 s hs)
 unfold crsOf
 refine pure_rule hT (T:=tab) (N:=26) (rs:=[.cell 8 68,.tmp 9,.tmp 10]) Tryz.func30 rfl rfl rfl Kr rfl ?_
 (refine gW ?_;intros)
 refine CallVC.frz [1] ?_ (hL.call ?_)
 .exact⟨.d,.d,.d,.d,.d,.fn' Tt ⟨.ptr' rfl ⟨.d,Tt⟩,Tt⟩,Tt⟩
 (refine gW ?_;intros)
 exact⟨.inl rfl,⟨rfl,rfl,fun i hi=>rfl⟩,rfl,Tt⟩
theorem bsystem_ok (w:Wor)(hw:WfW w)(t kn:Int):Pure Tryz.prog 36 [.agg (eWor w),di t,di kn] [.agg (eSys ((sysOf w t kn).getD default)),eReds (readsT ⟨4,0,0⟩ t)]:=by
 have hL:=lookSys_ok w w.bok.sys hw.bok.2.2.1 hw.fct ⟨4,0,0⟩ t kn 92 vSys fun s hs=>validSys_ok s (hw.bok.2.2.2 s hs)
 unfold sysOf
 refine pure_rule hT (T:=tab) (N:=22) (rs:=[.cell 6 83,.tmp 7]) Tryz.func36 rfl rfl rfl Kr rfl ?_
 (refine gW ?_;intros)
 refine hL.call ?_
 (refine gW ?_;intros)
 exact⟨.inl rfl,⟨rfl,rfl,fun i hi=>rfl⟩,Tt⟩
def isM (s:ByteArray)(n:Int)(x:Crs):Bool:=if s=.empty then decide (x.number=n) else decide (x.name=s)
def mnt (l:List Crs)(s:ByteArray)(n:Int):Nat:=l.findIdx (isM s n)
def mntZ (l:List Crs)(s:ByteArray)(n:Int):Int:=if mnt l s n<l.length then(mnt l s n:Int) else -1
def numO (l:List Crs)(s:ByteArray)(n:Int):Option Int:=if s=.empty then some n else if mnt l s n<l.length then some (l.getD (mnt l s n) default).number else none
theorem mnt_name {s:ByteArray}(h:s≠.empty)(l:List Crs)(n m:Int):mnt l s n=mnt l s m:=by
 unfold mnt
 congr 1
 funext x
 unfold isM
 rw[if_neg h,if_neg h]
mutual
def resR (l:List Crs):Rule->Rule
 | .mk a b c d e ks=>.mk a (if(decide (a=5)||(decide (a=6)||decide (a=9)))=true then(numO l c b).getD 0 else b) c d e (resRs l ks)
def resRs (l:List Crs):List Rule->List Rule
 |[]=>[]
 |k::ks=>resR l k::resRs l ks
end
mutual
def okN (l:List Crs):Rule->Bool
 | .mk a b c _ _ ks=>(!(decide (a=5)||(decide (a=6)||decide (a=9)))||(numO l c b).isSome)&&okNs l ks
def okNs (l:List Crs):List Rule->Bool
 |[]=>true
 |k::ks=>okN l k&&okNs l ks
end
theorem resRs_map (l:List Crs):∀ks,resRs l ks=ks.map (resR l)
 |[]=>by rw[resRs];rfl
 |k::ks=>by rw[resRs,resRs_map l ks];rfl
theorem okNs_all (l:List Crs):∀ks,okNs l ks=ks.all (okN l)
 |[]=>by rw[okNs];rfl
 |k::ks=>by rw[okNs,okNs_all l ks];rfl
def refN (l:List Crs)(r:Rule):Int:=if namedR r=true then(numO l r.name r.course).getD 0 else r.course
def refOk (l:List Crs)(r:Rule):Bool:=!namedR r||(numO l r.name r.course).isSome
theorem resR_eq (l:List Crs)(r:Rule):resR l r=.mk r.op (refN l r) r.name r.n r.d (r.kids.map (resR l)):=by
 cases r
 rw[resR,resRs_map]
 rfl
theorem okN_eq (l:List Crs)(r:Rule):okN l r=(refOk l r&&r.kids.all (okN l)):=by
 cases r
 rw[okN,okNs_all]
 rfl
def resX (l:List Crs)(x:Crs):Crs:={x with need:=resR l x.need,bar:=resR l x.bar}
def resY (l:List Crs)(p:Pai):Pai:={p with x:=(numO l p.a p.x).getD 0,y:=(numO l p.b p.y).getD 0}
def frL (l:List Crs)(q:Req):List Int:=List.zipWith (fun s n=>(numO l s n).getD 0) q.names q.fr
def resQ (l:List Crs)(q:Req):Req:={q with fr:=frL l q}
def resP (l:List Crs)(p:Prg):Prg:={p with reqs:=p.reqs.map (resQ l)}
def resC (c:Cat):Cat:={c with crs:=c.crs.map (resX c.crs),same:=c.same.map (resY c.crs),prg:=c.prg.map (resP c.crs)}
def lenQ (q:Req):Bool:=decide (q.names.length=q.fr.length)
def lenP (p:Prg):Bool:=p.reqs.all lenQ
def ndQ (p:Prg):Bool:=decide (p.reqs.map fun q=>q.name).Nodup
def okX (l:List Crs)(x:Crs):Bool:=okN l x.need&&okN l x.bar
def okY (l:List Crs)(p:Pai):Bool:=(numO l p.a p.x).isSome&&(numO l p.b p.y).isSome
def okQ (l:List Crs)(q:Req):Bool:=(List.zipWith (fun s n=>(numO l s n).isSome) q.names q.fr).all id
def okP' (l:List Crs)(p:Prg):Bool:=p.reqs.all (okQ l)
def uniC (c:Cat):Bool:=decide (c.crs.map fun x=>x.name).Nodup&&(decide (c.crs.map fun x=>x.number).Nodup&&(decide (c.prg.map fun x=>x.name).Nodup&&(decide (c.prg.map fun x=>x.number).Nodup &&
 (c.prg.all ndQ&&(decide (c.classes.map fun x=>x.name).Nodup&&(decide (c.fees.map fun x=>x.name).Nodup&&decide (c.honours.map fun x=>x.name).Nodup))))))
def namC (c:Cat):Bool:=c.crs.all (okX c.crs)&&(c.same.all (okY c.crs)&&c.prg.all (okP' c.crs))
def ndR (l:List Crs)(p:Nat × Rule):Option Nat:=if p.2.op=5\/p.2.op=6 then(if mnt l p.2.name p.2.course<l.length then some (mnt l p.2.name p.2.course) else none) else none
def nds (l:List Crs)(i:Nat):List Nat:=(preR 1 (l.getD i default).need).filterMap (ndR l)
theorem nds_lt {l:List Crs}{i n:Nat}(h:n∈nds l i):n<l.length:=by
 obtain⟨p,_,hp⟩:=List.mem_filterMap.1 h
 unfold ndR at hp
 split at hp
 .split at hp
  .injection hp with hp
   omega
  .cases hp
 .cases hp
def rdy (l:List Crs)(o:List Nat)(i:Nat):Bool:=(nds l i).all (fun n=>decide (n∈o))&&decide (i ∉ o)
def lstF (l:List Crs):Nat->List Nat->Nat->List Nat
 |0,o,_=>o
 |k+1,o,i=>if i<l.length then(if rdy l o i=true then lstF l k (o++[i]) 0 else lstF l k o (i+1)) else o
def lstM (l:List Crs)(o:List Nat)(i:Nat):Nat:=(l.length-o.length)*(l.length+1)+(l.length-i)
structure LstI (l:List Crs)(o:List Nat):Prop where
 nd:o.Nodup
 lt:∀n∈o,n<l.length
theorem LstI.le {l:List Crs}{o:List Nat}(h:LstI l o):o.length<=l.length:=by
 have:=h.nd.length_le_of_subset (l₂:=List.range l.length) fun n hn=>List.mem_range.2 (h.lt n hn)
 rwa [List.length_range]at this
theorem LstI.snoc {l:List Crs}{o:List Nat}{i:Nat}(h:LstI l o)(hi:i<l.length)(hr:rdy l o i=true):LstI l (o++[i]):=by
 unfold rdy at hr
 rw[Bool.and_eq_true,decide_eq_true_eq]at hr
 refine⟨?_,fun n hn=>?_⟩
 .rw[List.nodup_append]
  refine⟨h.nd,by simp,fun a ha b hb=>?_⟩
  simp at hb
  rintro rfl
  exact hr.2 (hb▸ha)
 .rcases List.mem_append.1 hn with hn|hn
  .exact h.lt n hn
  .simp at hn
   omega
theorem lstM_take {l:List Crs}{o:List Nat}{i:Nat}(h:LstI l o)(hi:i<l.length)(hr:rdy l o i=true):lstM l (o++[i]) 0<lstM l o i:=by
 have:=(h.snoc hi hr).le
 unfold lstM
 rw[List.length_append,List.length_singleton]at this⊢
 have e:l.length-o.length=(l.length-(o.length+1))+1:=by omega
 rw[e,Nat.add_mul]
 omega
theorem lstM_next {l:List Crs}{o:List Nat}{i:Nat}(hi:i<l.length):lstM l o (i+1)<lstM l o i:=by
 unfold lstM
 omega
theorem lstF_more {l:List Crs}:∀(k:Nat) (o:List Nat) (i j:Nat),LstI l o->lstM l o i<k->k<=j->lstF l k o i=lstF l j o i
 |0,o,i,j,_,h,_=>absurd h (Nat.not_lt_zero _)
 | k + 1,o,i,j,hI,h,hj=>by
   obtain⟨j,rfl⟩:∃j',j=j'+1:=⟨j-1,Om⟩
   rw[lstF,lstF]
   by_cases hi:i<l.length
   .rw[if_pos hi,if_pos hi]
    by_cases hr:rdy l o i=true
    .rw[if_pos hr,if_pos hr]
     have:=lstM_take hI hi hr
     exact lstF_more k _ 0 j (hI.snoc hi hr) Om Om
    .rw[if_neg hr,if_neg hr]
     have:=lstM_next (l:=l) (o:=o) hi
     exact lstF_more k _ _ j hI Om Om
   .rw[if_neg hi,if_neg hi]
def lstG (l:List Crs)(o:List Nat)(i:Nat):List Nat:=lstF l (lstM l o i+1) o i
theorem lstG_take {l:List Crs}{o:List Nat}{i:Nat}(h:LstI l o)(hi:i<l.length)(hr:rdy l o i=true):lstG l o i=lstG l (o++[i]) 0:=by
 have:=lstM_take h hi hr
 unfold lstG
 rw[lstF,if_pos hi,if_pos hr]
 exact(lstF_more _ _ _ _ (h.snoc hi hr) (Nat.lt_succ_self _) Om).symm
theorem lstG_next {l:List Crs}{o:List Nat}{i:Nat}(h:LstI l o)(hi:i<l.length)(hr:¬ rdy l o i=true):lstG l o i=lstG l o (i+1):=by
 have:=lstM_next (l:=l) (o:=o) hi
 unfold lstG
 rw[lstF,if_pos hi,if_neg hr]
 exact(lstF_more _ _ _ _ h (Nat.lt_succ_self _) Om).symm
theorem lstG_end {l:List Crs}{o:List Nat}{i:Nat}(hi:¬ i<l.length):lstG l o i=o:=by
 unfold lstG
 rw[lstF,if_neg hi]
theorem LstI.nil (l:List Crs):LstI l []:=⟨List.nodup_nil,fun n h=>(List.not_mem_nil h).elim⟩
def lst (l:List Crs):List Nat:=lstG l [] 0
theorem lstF_I {l:List Crs}:∀(k:Nat) (o:List Nat) (i:Nat),LstI l o->LstI l (lstF l k o i)
 |0,o,i,h=>h
 | k + 1,o,i,h=>by
   rw[lstF]
   split
   .rename_i hi
    split
    .rename_i hr
     exact lstF_I k _ _ (h.snoc hi hr)
    .exact lstF_I k _ _ h
   .exact h
theorem lst_I (l:List Crs):LstI l (lst l):=lstF_I _ _ _ (LstI.nil l)
def cycC (l:List Crs):Bool:=decide ((lst l).length<l.length)
def resE (c:Cat):Int:=if c.prg.all lenP=true then(if uniC c=true then(if namC c=true then(if cycC c.crs=true then 112 else 0) else 110) else 111) else 1
def catZ:Cat:=⟨[],[],[],[],[],[],[]⟩
def resV (c:Cat):Cat:=if resE c=0 then resC c else catZ
end Go.Proofs.YtmlhghddfobmmaaGreatDoor
