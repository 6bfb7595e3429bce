import Derived.Test.YtmlhghddfobmmaaGreatDoorFewB
import Derived.Test.YtmlhghddfobmmaaGreatDoorNmC
import Derived.Test.YtmlhghddfobmmaaGreatDoorInsP
import Derived.Test.YtmlhghddfobmmaaGreatDoorEngAP
import Derived.Test.YtmlhghddfobmmaaGreatDoorChecked
namespace Go.Proofs.YtmlhghddfobmmaaGreatDoor
set_option linter.unusedSimpArgs false
set_option linter.unusedVariables false
open Go Go.Ab
open Go.ChangeShapes Go.WideShapes Go.ChangeAt Go.RowKit
set_option maxRecDepth 100000
theorem own:ownKnob Tryz.prog.godebug=none:=by kernel_rfl
theorem laidOut:laidOutB Tryz.prog=true:=by kernel_rfl
theorem Wm {n:Nat}(h:n<=maxLen):n<=9223372036854775807:=Qhx h Dc
theorem Qaj {i:Int}(h:(Lit.int .i64 i).wf=true):In .i64 i:=by
 simp only[Lit.wf,Qh5,Qia]at h
 exact h
def Nr (P:Program)(w:World)(cs:List Value):List Field->List (List D)->Prop
 |[],[]=>True
 |f::fs,p::ps=>RdL w p ((cs.drop f.offset).take (P.cellsOf f.type))/\Nr P w cs fs ps
 |_,_=>False
theorem Nr.at {P:Program}{w:World}{cs:List Value}:∀{fs:List Field} {ps:List (List D)},Nr P w cs fs ps->ps.length=fs.length/\∀(j:Nat) f p,fs[j]?=some f->ps[j]?=some p->RdL w p ((cs.drop f.offset).take (P.cellsOf f.type))
 |[],[],_=>⟨rfl,fun j f p h=>by simp at h⟩
 | f :: fs,q :: ps,h=>by
   obtain⟨h1,h2⟩:=Nr.at h.2
   refine⟨by simp[h1],fun j f' p' hf hp=>?_⟩
   cases j with
   |zero=>simp at hf hp;subst hf;subst hp;exact h.1
   |succ j=>exact h2 j f' p' (by simpa using hf) (by simpa using hp)
 |[],_::_,h=>h.elim
 |_::_,[],h=>h.elim
section
variable {H:Type}{enc:TypeId × Value->H}{w:World}
theorem W6 {t:TypeId}(ht:t<Tryz.prog.types.size){fs:Array Field}(hu:Tryz.prog.underlying t=some (.struct fs)){m:Nat}{cs:List Value}{x:DataW H × List MemPlace}(h:DataW.trod enc Tryz.prog w 0 (fun _=>true) true m t cs=some x) :
 ∃ m',m=m' + 1∧(∀ (j:Nat) f,fs.toList[j]?=some f→∃ y,DataW.trod enc Tryz.prog w 0 (fun _=>true) true m' f.type ((cs.drop f.offset).take (Tryz.prog.cellsOf f.type))=some y) ∧
   ∀ps:List (List D),Nr Tryz.prog w cs fs.toList ps->RdL w ps.flatten cs:=by
 obtain⟨m',h1,h2,h3⟩:=Qcu laidOut ht hu h
 refine⟨m',h1,fun j f hj=>h2 j f (by simpa using hj),fun ps hp=>?_⟩
 obtain⟨h4,h5⟩:=hp.at
 exact h3 ps (by simpa using h4) fun j f p hj hq=>h5 j f p (by simpa using hj) hq
theorem Zr (m:Nat):Z0 enc Tryz.prog w m 3 (fun i:Int=>[D.int .i64 i]) fun i=>In .i64 i:=fun cs x h=>by
 obtain⟨i,h1,h2⟩:=Qcv Tryz.underlying3 m cs x h
 exact⟨i,Qaj h1,h2⟩
theorem H2 (m:Nat):Z0 enc Tryz.prog w m 9 (fun s:ByteArray=>[D.str s]) fun s=>s.size<=9223372036854775807:=fun cs x h=>by
 obtain⟨s,h1,h2⟩:=Qd3 Tryz.underlying9 m cs x h
 exact⟨s,Wm h1,h2⟩
theorem Qcm (m:Nat):Z0 enc Tryz.prog w m 4 (fun b:Bool=>[D.bool b]) fun _=>True:=Qco Tryz.underlying4 m
def Lj (r:Q1):Prop:=wfR r/\r.name.size<=9223372036854775807
theorem Q2x:∀(n m:Nat),m<n->Z0 enc Tryz.prog w m 66 Q2 Lj
 |0,m,hm=>absurd hm (Qhh m)
 | n + 1,m,hm=>fun cs x h=>by
   obtain⟨m',rfl,hf,hall⟩:=W6 (Qhd Kr) Tryz.underlying66 h
   obtain⟨y0,h0⟩:=hf 0 _ rfl
   obtain⟨a0,k0,r0⟩:=Zr m' _ _ h0
   obtain⟨y1,h1⟩:=hf 1 _ rfl
   obtain⟨a1,k1,r1⟩:=Zr m' _ _ h1
   obtain⟨y2,h2⟩:=hf 2 _ rfl
   obtain⟨a2,k2,r2⟩:=H2 m' _ _ h2
   obtain⟨y3,h3⟩:=hf 3 _ rfl
   obtain⟨a3,k3,r3⟩:=Zr m' _ _ h3
   obtain⟨y4,h4⟩:=hf 4 _ rfl
   obtain⟨a4,k4,r4⟩:=Zr m' _ _ h4
   obtain⟨y5,h5⟩:=hf 5 _ rfl
   obtain⟨ks,k5,r5⟩:=Ua laidOut (t:=64) (et:=66) (sz:=6) (Qhd Kr) Kr Kr Dc (e:=Q2) (ok:=Lj) (m:=m') (fun m2 hm2=>Q2x n m2 Om) _ _ h5
   have hq:DEq (D.sl 6 ks.length fun i=>Q2 (ks.getD i default)) (J0 ks):=by
    cases ks with
    |nil=>rw[Ow];exact⟨rfl,rfl,fun i hi=>absurd hi (Qhh i)⟩
    |cons r rs=>rw[Gk (by simp)];exact⟨rfl,rfl,fun i hi=>rfl⟩
   have r6:RdL w [J0 ks] ((cs.drop _).take _):=⟨r5.1,fun j d u hd hu=>by
    match j,hd with
    | 0,hd =>
      cases hd
      obtain⟨g1,g2⟩:=r5.2 0 _ u rfl hu
      exact⟨DEq.ok g1 hq,g2⟩
    |j+1,hd=>simp at hd⟩
   refine⟨.mk a0 a1 a2 a3 a4 ks,⟨?_,k2⟩,?_⟩
   .intro q hq
    rw[Xq]at hq
    rcases Qho.1 hq with rfl|hq
    .exact⟨k0,k1,k3,k4,Nat.lt_succ_of_le (Wm k5.1)⟩
    .obtain⟨k,hk,hq⟩:=Mg.1 hq
     exact I4 (k5.2 k hk).1 _ q hq
   .exact hall [[D.int .i64 a0],[D.int .i64 a1],[D.str a2],[D.int .i64 a3],[D.int .i64 a4],[J0 ks]] ⟨r0,r1,r2,r3,r4,r6,Tt⟩
theorem Q2w (m:Nat):Z0 enc Tryz.prog w m 66 Q2 Lj:=Q2x (m+1) m (Nat.lt_succ_self m)
def Mb (c:Crs):Prop:=(Lj c.need/\Lj c.bar)/\(In .i64 c.number/\In .i64 c.credits/\In .i64 c.rep)
theorem Qcs (m:Nat):Z0 enc Tryz.prog w m 68 Q6 Mb:=fun cs x h=>by
 obtain⟨m',rfl,hf,hall⟩:=W6 (Qhd Kr) Tryz.underlying68 h
 obtain⟨y0,h0⟩:=hf 0 _ rfl
 obtain⟨a0,k0,r0⟩:=H2 m' _ _ h0
 obtain⟨y1,h1⟩:=hf 1 _ rfl
 obtain⟨a1,k1,r1⟩:=Zr m' _ _ h1
 obtain⟨y2,h2⟩:=hf 2 _ rfl
 obtain⟨a2,k2,r2⟩:=Zr m' _ _ h2
 obtain⟨y3,h3⟩:=hf 3 _ rfl
 obtain⟨a3,k3,r3⟩:=Zr m' _ _ h3
 obtain⟨y4,h4⟩:=hf 4 _ rfl
 obtain⟨a4,k4,r4⟩:=Q2w m' _ _ h4
 obtain⟨y5,h5⟩:=hf 5 _ rfl
 obtain⟨a5,k5,r5⟩:=Q2w m' _ _ h5
 refine⟨⟨a0,a1,a2,a3,a4,a5⟩,⟨⟨k4,k5⟩,k1,k2,k3⟩,?_⟩
 exact hall [[D.str a0],[D.int .i64 a1],[D.int .i64 a2],[D.int .i64 a3],Q2 a4,Q2 a5] ⟨r0,r1,r2,r3,r4,r5,Tt⟩
theorem Q2s (m:Nat):Z0 enc Tryz.prog w m 22 (fun xs:List Crs=>[J2 xs]) fun xs=>Qg xs/\∀a∈xs,Mb a:=fun cs x h=>by
 obtain⟨xs,h1,h2⟩:=Ua laidOut (t:=22) (et:=68) (sz:=16) (Qhd Kr) Kr Kr Dc (e:=Q6) (ok:=Mb) (m:=m) (fun m' _=>Qcs m') cs x h
 exact⟨xs,⟨Wm h1.1,h1.2⟩,h2⟩
theorem Qd4 (m:Nat):Z0 enc Tryz.prog w m 104 (fun xs:List ByteArray=>[Y0 xs]) fun xs=>Qg xs/\∀a∈xs,(fun s:ByteArray=>s.size<=9223372036854775807) a:=fun cs x h=>by
 obtain⟨xs,h1,h2⟩:=Ua laidOut (t:=104) (et:=9) (sz:=1) (Qhd Kr) Kr Kr Dc (e:=(fun s:ByteArray=>[D.str s])) (ok:=(fun s:ByteArray=>s.size<=9223372036854775807)) (m:=m) (fun m' _=>H2 m') cs x h
 exact⟨xs,⟨Wm h1.1,h1.2⟩,h2⟩
theorem Qcw (m:Nat):Z0 enc Tryz.prog w m 53 (fun xs:List Int=>[J6 xs]) fun xs=>Qg xs/\∀a∈xs,(fun i:Int=>In .i64 i) a:=fun cs x h=>by
 obtain⟨xs,h1,h2⟩:=Ua laidOut (t:=53) (et:=3) (sz:=1) (Qhd Kr) Kr Kr Dc (e:=(fun i:Int=>[D.int .i64 i])) (ok:=(fun i:Int=>In .i64 i)) (m:=m) (fun m' _=>Zr m') cs x h
 exact⟨xs,⟨Wm h1.1,h1.2⟩,h2⟩
def Fg (q:Req):Prop:=Lw q/\(In .i64 q.credits/\In .i64 q.grade/\(∀n∈q.fr,In .i64 n))/\q.name.size<=9223372036854775807
theorem Qd0 (m:Nat):Z0 enc Tryz.prog w m 106 Jv Fg:=fun cs x h=>by
 obtain⟨m',rfl,hf,hall⟩:=W6 (Qhd Kr) Tryz.underlying106 h
 obtain⟨y0,h0⟩:=hf 0 _ rfl
 obtain⟨a0,k0,r0⟩:=H2 m' _ _ h0
 obtain⟨y1,h1⟩:=hf 1 _ rfl
 obtain⟨a1,k1,r1⟩:=Zr m' _ _ h1
 obtain⟨y2,h2⟩:=hf 2 _ rfl
 obtain⟨a2,k2,r2⟩:=Zr m' _ _ h2
 obtain⟨y3,h3⟩:=hf 3 _ rfl
 obtain⟨a3,k3,r3⟩:=Qcm m' _ _ h3
 obtain⟨y4,h4⟩:=hf 4 _ rfl
 obtain⟨a4,k4,r4⟩:=Qd4 m' _ _ h4
 obtain⟨y5,h5⟩:=hf 5 _ rfl
 obtain⟨a5,k5,r5⟩:=Qcw m' _ _ h5
 refine⟨⟨a0,a1,a2,a3,a4,a5⟩,⟨⟨k4.1,k5.1⟩,⟨k1,k2,k5.2⟩,k0⟩,?_⟩
 exact hall [[D.str a0],[D.int .i64 a1],[D.int .i64 a2],[D.bool a3],[Y0 a4],[J6 a5]] ⟨r0,r1,r2,r3,r4,r5,Tt⟩
theorem Qd1 (m:Nat):Z0 enc Tryz.prog w m 76 (fun xs:List Req=>[Xz xs]) fun xs=>Qg xs/\∀a∈xs,Fg a:=fun cs x h=>by
 obtain⟨xs,h1,h2⟩:=Ua laidOut (t:=76) (et:=106) (sz:=6) (Qhd Kr) Kr Kr Dc (e:=Jv) (ok:=Fg) (m:=m) (fun m' _=>Qd0 m') cs x h
 exact⟨xs,⟨Wm h1.1,h1.2⟩,h2⟩
def Tc (q:Int × Int):List D:=[.int .i64 q.1,.int .i64 q.2]
def En (q:Int × Int):Prop:=In .i64 q.1/\In .i64 q.2
theorem Q2v (m:Nat):Z0 enc Tryz.prog w m 75 Tc En:=fun cs x h=>by
 obtain⟨m',rfl,hf,hall⟩:=W6 (Qhd Kr) Tryz.underlying75 h
 obtain⟨y0,h0⟩:=hf 0 _ rfl
 obtain⟨a0,k0,r0⟩:=Zr m' _ _ h0
 obtain⟨y1,h1⟩:=hf 1 _ rfl
 obtain⟨a1,k1,r1⟩:=Zr m' _ _ h1
 refine⟨(a0,a1),⟨k0,k1⟩,?_⟩
 exact hall [[D.int .i64 a0],[D.int .i64 a1]] ⟨r0,r1,Tt⟩
def Md (q:Prg):Prop:=(In .i64 q.mn/\In .i64 q.md)/\(Qg q.reqs/\∀x∈q.reqs,Fg x)/\(In .i64 q.number/\In .i64 q.uses/\In .i64 q.earn)
theorem Qcz (m:Nat):Z0 enc Tryz.prog w m 78 Q9 Md:=fun cs x h=>by
 obtain⟨m',rfl,hf,hall⟩:=W6 (Qhd Kr) Tryz.underlying78 h
 obtain⟨y0,h0⟩:=hf 0 _ rfl
 obtain⟨a0,k0,r0⟩:=H2 m' _ _ h0
 obtain⟨y1,h1⟩:=hf 1 _ rfl
 obtain⟨a1,k1,r1⟩:=Zr m' _ _ h1
 obtain⟨y2,h2⟩:=hf 2 _ rfl
 obtain⟨a2,k2,r2⟩:=Zr m' _ _ h2
 obtain⟨y3,h3⟩:=hf 3 _ rfl
 obtain⟨a3,k3,r3⟩:=Zr m' _ _ h3
 obtain⟨y4,h4⟩:=hf 4 _ rfl
 obtain⟨a4,k4,r4⟩:=Q2v m' _ _ h4
 obtain⟨y5,h5⟩:=hf 5 _ rfl
 obtain⟨a5,k5,r5⟩:=Qd1 m' _ _ h5
 refine⟨⟨a0,a1,a2,a3,a4.1,a4.2,a5⟩,⟨k4,k5,k1,k2,k3⟩,?_⟩
 exact hall [[D.str a0],[D.int .i64 a1],[D.int .i64 a2],[D.int .i64 a3],Tc a4,[Xz a5]] ⟨r0,r1,r2,r3,r4,r5,Tt⟩
theorem Q2u (m:Nat):Z0 enc Tryz.prog w m 23 (fun xs:List Prg=>[Qw xs]) fun xs=>Qg xs/\∀a∈xs,Md a:=fun cs x h=>by
 obtain⟨xs,h1,h2⟩:=Ua laidOut (t:=23) (et:=78) (sz:=7) (Qhd Kr) Kr Kr Dc (e:=Q9) (ok:=Md) (m:=m) (fun m' _=>Qcz m') cs x h
 exact⟨xs,⟨Wm h1.1,h1.2⟩,h2⟩
theorem Qcr (m:Nat):Z0 enc Tryz.prog w m 122 Wz Ki:=fun cs x h=>by
 obtain⟨m',rfl,hf,hall⟩:=W6 (Qhd Kr) Tryz.underlying122 h
 obtain⟨y0,h0⟩:=hf 0 _ rfl
 obtain⟨a0,k0,r0⟩:=H2 m' _ _ h0
 obtain⟨y1,h1⟩:=hf 1 _ rfl
 obtain⟨a1,k1,r1⟩:=Zr m' _ _ h1
 obtain⟨y2,h2⟩:=hf 2 _ rfl
 obtain⟨a2,k2,r2⟩:=Q2v m' _ _ h2
 refine⟨⟨a0,a1,a2.1,a2.2⟩,k2,?_⟩
 exact hall [[D.str a0],[D.int .i64 a1],Tc a2] ⟨r0,r1,r2,Tt⟩
theorem Fi (m:Nat):Z0 enc Tryz.prog w m 28 (fun xs:List Cls=>[Qk xs]) fun xs=>Qg xs/\∀a∈xs,Ki a:=fun cs x h=>by
 obtain⟨xs,h1,h2⟩:=Ua laidOut (t:=28) (et:=122) (sz:=4) (Qhd Kr) Kr Kr Dc (e:=Wz) (ok:=Ki) (m:=m) (fun m' _=>Qcr m') cs x h
 exact⟨xs,⟨Wm h1.1,h1.2⟩,h2⟩
def Rt {α:Type}(_:α):Prop:=True
theorem Qct (m:Nat):Z0 enc Tryz.prog w m 126 U0 Rt:=fun cs x h=>by
 obtain⟨m',rfl,hf,hall⟩:=W6 (Qhd Kr) Tryz.underlying126 h
 obtain⟨y0,h0⟩:=hf 0 _ rfl
 obtain⟨a0,k0,r0⟩:=H2 m' _ _ h0
 obtain⟨y1,h1⟩:=hf 1 _ rfl
 obtain⟨a1,k1,r1⟩:=Zr m' _ _ h1
 refine⟨⟨a0,a1⟩,Tt,?_⟩
 exact hall [[D.str a0],[D.int .i64 a1]] ⟨r0,r1,Tt⟩
theorem Q2t (m:Nat):Z0 enc Tryz.prog w m 29 (fun xs:List Fee=>[Jk xs]) fun xs=>Qg xs/\∀a∈xs,Rt a:=fun cs x h=>by
 obtain⟨xs,h1,h2⟩:=Ua laidOut (t:=29) (et:=126) (sz:=2) (Qhd Kr) Kr Kr Dc (e:=U0) (ok:=Rt) (m:=m) (fun m' _=>Qct m') cs x h
 exact⟨xs,⟨Wm h1.1,h1.2⟩,h2⟩
theorem Qcq (m:Nat):Z0 enc Tryz.prog w m 168 Gi Rt:=fun cs x h=>by
 obtain⟨m',rfl,hf,hall⟩:=W6 (Qhd Kr) Tryz.underlying168 h
 obtain⟨y0,h0⟩:=hf 0 _ rfl
 obtain⟨a0,k0,r0⟩:=Zr m' _ _ h0
 obtain⟨y1,h1⟩:=hf 1 _ rfl
 obtain⟨a1,k1,r1⟩:=Zr m' _ _ h1
 obtain⟨y2,h2⟩:=hf 2 _ rfl
 obtain⟨a2,k2,r2⟩:=Zr m' _ _ h2
 obtain⟨y3,h3⟩:=hf 3 _ rfl
 obtain⟨a3,k3,r3⟩:=Zr m' _ _ h3
 refine⟨⟨a0,a1,a2,a3⟩,Tt,?_⟩
 exact hall [[D.int .i64 a0],[D.int .i64 a1],[D.int .i64 a2],[D.int .i64 a3]] ⟨r0,r1,r2,r3,Tt⟩
theorem Q2r (m:Nat):Z0 enc Tryz.prog w m 30 (fun xs:List Cla=>[Jq xs]) fun xs=>Qg xs/\∀a∈xs,Rt a:=fun cs x h=>by
 obtain⟨xs,h1,h2⟩:=Ua laidOut (t:=30) (et:=168) (sz:=4) (Qhd Kr) Kr Kr Dc (e:=Gi) (ok:=Rt) (m:=m) (fun m' _=>Qcq m') cs x h
 exact⟨xs,⟨Wm h1.1,h1.2⟩,h2⟩
theorem Qd5 (m:Nat):Z0 enc Tryz.prog w m 83 Qa W0:=fun cs x h=>by
 obtain⟨m',rfl,hf,hall⟩:=W6 (Qhd Kr) Tryz.underlying83 h
 obtain⟨y0,h0⟩:=hf 0 _ rfl
 obtain⟨a0,k0,r0⟩:=Fi m' _ _ h0
 obtain⟨y1,h1⟩:=hf 1 _ rfl
 obtain⟨a1,k1,r1⟩:=Q2t m' _ _ h1
 obtain⟨y2,h2⟩:=hf 2 _ rfl
 obtain⟨a2,k2,r2⟩:=Fi m' _ _ h2
 obtain⟨y3,h3⟩:=hf 3 _ rfl
 obtain⟨a3,k3,r3⟩:=Q2r m' _ _ h3
 refine⟨⟨a0,a1,a2,a3⟩,⟨k0,k2,k1.1,k3.1⟩,?_⟩
 exact hall [[Qk a0],[Jk a1],[Qk a2],[Jq a3]] ⟨r0,r1,r2,r3,Tt⟩
theorem Qd6 (m:Nat):Z0 enc Tryz.prog w m 24 (fun xs:List Sys=>[U1 xs]) fun xs=>Qg xs/\∀a∈xs,W0 a:=fun cs x h=>by
 obtain⟨xs,h1,h2⟩:=Ua laidOut (t:=24) (et:=83) (sz:=4) (Qhd Kr) Kr Kr Dc (e:=Qa) (ok:=W0) (m:=m) (fun m' _=>Qd5 m') cs x h
 exact⟨xs,⟨Wm h1.1,h1.2⟩,h2⟩
def Ff (q:Pai):Prop:=In .i64 q.x/\In .i64 q.y
theorem Qcx (m:Nat):Z0 enc Tryz.prog w m 131 Qv Ff:=fun cs x h=>by
 obtain⟨m',rfl,hf,hall⟩:=W6 (Qhd Kr) Tryz.underlying131 h
 obtain⟨y0,h0⟩:=hf 0 _ rfl
 obtain⟨a0,k0,r0⟩:=H2 m' _ _ h0
 obtain⟨y1,h1⟩:=hf 1 _ rfl
 obtain⟨a1,k1,r1⟩:=H2 m' _ _ h1
 obtain⟨y2,h2⟩:=hf 2 _ rfl
 obtain⟨a2,k2,r2⟩:=Zr m' _ _ h2
 obtain⟨y3,h3⟩:=hf 3 _ rfl
 obtain⟨a3,k3,r3⟩:=Zr m' _ _ h3
 refine⟨⟨a0,a1,a2,a3⟩,⟨k2,k3⟩,?_⟩
 exact hall [[D.str a0],[D.str a1],[D.int .i64 a2],[D.int .i64 a3]] ⟨r0,r1,r2,r3,Tt⟩
theorem Qcy (m:Nat):Z0 enc Tryz.prog w m 27 (fun xs:List Pai=>[Xh xs]) fun xs=>Qg xs/\∀a∈xs,Ff a:=fun cs x h=>by
 obtain⟨xs,h1,h2⟩:=Ua laidOut (t:=27) (et:=131) (sz:=4) (Qhd Kr) Kr Kr Dc (e:=Qv) (ok:=Ff) (m:=m) (fun m' _=>Qcx m') cs x h
 exact⟨xs,⟨Wm h1.1,h1.2⟩,h2⟩
def Ox (q:Int × Int):List D:=[.int .i64 q.1,.int .i64 q.2]
theorem Qd2 (m:Nat):Z0 enc Tryz.prog w m 34 Ox En:=fun cs x h=>by
 obtain⟨m',rfl,hf,hall⟩:=W6 (Qhd Kr) Tryz.underlying34 h
 obtain⟨y0,h0⟩:=hf 0 _ rfl
 obtain⟨a0,k0,r0⟩:=Zr m' _ _ h0
 obtain⟨y1,h1⟩:=hf 1 _ rfl
 obtain⟨a1,k1,r1⟩:=Zr m' _ _ h1
 refine⟨(a0,a1),⟨k0,k1⟩,?_⟩
 exact hall [[D.int .i64 a0],[D.int .i64 a1]] ⟨r0,r1,Tt⟩
def Hy (b:Bok):Prop:=(Qg b.crs/\∀c∈b.crs,Mb c)/\(Qg b.prg/\∀q∈b.prg,Md q)/\(Qg b.sys/\∀s∈b.sys,W0 s)
theorem Qcn (m:Nat):Z0 enc Tryz.prog w m 26 Q8 Hy:=fun cs x h=>by
 obtain⟨m',rfl,hf,hall⟩:=W6 (Qhd Kr) Tryz.underlying26 h
 obtain⟨y0,h0⟩:=hf 0 _ rfl
 obtain⟨a0,k0,r0⟩:=Q2s m' _ _ h0
 obtain⟨y1,h1⟩:=hf 1 _ rfl
 obtain⟨a1,k1,r1⟩:=Q2u m' _ _ h1
 obtain⟨y2,h2⟩:=hf 2 _ rfl
 obtain⟨a2,k2,r2⟩:=Qd6 m' _ _ h2
 refine⟨⟨a0,a1,a2⟩,⟨k0,k1,k2⟩,?_⟩
 exact hall [[J2 a0],[Qw a1],[U1 a2]] ⟨r0,r1,r2,Tt⟩
def Ye (c:Cat):Prop:=(Qg c.crs/\∀x∈c.crs,Mb x)/\(Qg c.same/\∀x∈c.same,Ff x)/\(Qg c.prg/\∀q∈c.prg,Md q)/\(Qg c.classes/\∀x∈c.classes,Ki x)/\Qg c.fees/\(Qg c.honours/\∀x∈c.honours,Ki x)/\Qg c.clauses
theorem Qcp (m:Nat):Z0 enc Tryz.prog w m 32 Q0 Ye:=fun cs x h=>by
 obtain⟨m',rfl,hf,hall⟩:=W6 (Qhd Kr) Tryz.underlying32 h
 obtain⟨y0,h0⟩:=hf 0 _ rfl
 obtain⟨a0,k0,r0⟩:=Q2s m' _ _ h0
 obtain⟨y1,h1⟩:=hf 1 _ rfl
 obtain⟨a1,k1,r1⟩:=Qcy m' _ _ h1
 obtain⟨y2,h2⟩:=hf 2 _ rfl
 obtain⟨a2,k2,r2⟩:=Q2u m' _ _ h2
 obtain⟨y3,h3⟩:=hf 3 _ rfl
 obtain⟨a3,k3,r3⟩:=Fi m' _ _ h3
 obtain⟨y4,h4⟩:=hf 4 _ rfl
 obtain⟨a4,k4,r4⟩:=Q2t m' _ _ h4
 obtain⟨y5,h5⟩:=hf 5 _ rfl
 obtain⟨a5,k5,r5⟩:=Fi m' _ _ h5
 obtain⟨y6,h6⟩:=hf 6 _ rfl
 obtain⟨a6,k6,r6⟩:=Q2r m' _ _ h6
 refine⟨⟨a0,a1,a2,a3,a4,a5,a6⟩,⟨k0,k1,k2,k3,k4.1,k5,k6.1⟩,?_⟩
 exact hall [[J2 a0],[Xh a1],[Qw a2],[Qk a3],[Jk a4],[Qk a5],[Jq a6]] ⟨r0,r1,r2,r3,r4,r5,r6,Tt⟩
theorem Qci {base:Nat}{v:Value}{d:DataW H}{q:List MemPlace}(hv:Value.okWide Tryz.prog w .any base 26 v)(h:DataW.Trod enc Tryz.prog w 0 (fun _=>true) true 26 v d q):∃a:Bok,Hy a/\Rd w (· < w.heap.size) (.agg (Q8 a)) v:=by
 obtain⟨a,h1,h2⟩:=Er Qcn hv h
 exact⟨a,h1,h2.1 _ Tryz.underlying26⟩
theorem Qcl {base:Nat}{v:Value}{d:DataW H}{q:List MemPlace}(hv:Value.okWide Tryz.prog w .any base 34 v)(h:DataW.Trod enc Tryz.prog w 0 (fun _=>true) true 34 v d q):∃a:Int × Int,En a/\Rd w (· < w.heap.size) (.agg (Ox a)) v:=by
 obtain⟨a,h1,h2⟩:=Er Qd2 hv h
 exact⟨a,h1,h2.1 _ Tryz.underlying34⟩
theorem Qck {base:Nat}{v:Value}{d:DataW H}{q:List MemPlace}(hv:Value.okWide Tryz.prog w .any base 3 v)(h:DataW.Trod enc Tryz.prog w 0 (fun _=>true) true 3 v d q):∃i:Int,In .i64 i/\Rd w (· < w.heap.size) (.int .i64 i) v:=by
 obtain⟨i,h1,h2⟩:=Er Zr hv h
 unfold Value.okWide at hv
 rw[Tryz.underlying3]at hv
 refine⟨i,h1,h2.2 _ rfl ?_⟩
 cases v<;>first|rfl|(simp[Cell.okWide,Cell.ok,Tryz.underlying3]at hv;done)
end
theorem Hy.wf {b:Bok}(h:Hy b):Y5 b:=⟨⟨h.1.1,fun c hc=>⟨(h.1.2 c hc).1.1.1,(h.1.2 c hc).1.2.1⟩⟩,⟨h.2.1.1,fun q hq=>⟨(h.2.1.2 q hq).1.1,(h.2.1.2 q hq).1.2,(h.2.1.2 q hq).2.1.1,fun x hx=>((h.2.1.2 q hq).2.1.2 x hx).1.2⟩⟩,h.2.2.1,h.2.2.2⟩
theorem Hy.nm {b:Bok}(h:Hy b):nmB b:=fun c hc=>⟨(h.1.2 c hc).1.1.2,(h.1.2 c hc).1.2.2⟩
end Go.Proofs.YtmlhghddfobmmaaGreatDoor
