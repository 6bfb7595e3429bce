import Derived.Test.YtmlhghddfobmmaaGreatDoorFewB
import Derived.Test.YtmlhghddfobmmaaGreatDoorOpenW
import Derived.Test.YtmlhghddfobmmaaGreatDoorNmG
import Derived.Test.YtmlhghddfobmmaaGreatDoorInrB
import Derived.Test.YtmlhghddfobmmaaGreatDoorInsP
import Derived.Test.YtmlhghddfobmmaaGreatDoorBookQ
import Derived.Test.YtmlhghddfobmmaaGreatDoorInrG
import Derived.Test.YtmlhghddfobmmaaGreatDoorBookM
import Derived.Test.YtmlhghddfobmmaaGreatDoorRows
import Derived.ChangeArms
namespace Go.Proofs.YtmlhghddfobmmaaGreatDoor
set_option linter.unusedSimpArgs false
set_option linter.unusedVariables false
open Go Go.Ab
set_option maxRecDepth 100000
theorem Qgs {r:Q1}(h1:In1 r)(h2:∀k∈r.kids,wfR k):wfR r:=fun p hp=>by
 rw[Xq]at hp
 rcases Qho.1 hp with rfl|hp
 .exact h1
 .obtain⟨k,hk,hp⟩:=Mg.1 hp
  exact I4 (h2 k hk) 2 p hp
theorem Fa {l:List Crs}(hl:∀x∈l,In .i64 x.number)(s:ByteArray){n:Int}(hn:In .i64 n):In .i64 ((Qx l s n).getD 0):=by
 unfold Qx
 split
 .exact hn
 .split
  .exact hl _ (Qe ‹_›)
  .exact Zz.2 Dc
theorem Qgt {l:List Crs}(hl:∀x∈l,In .i64 x.number):∀r:Q1,wfR r->wfR (Qy l r):=by
 refine Y4 fun r ih h=>?_
 obtain⟨⟨a1,a2,a3,a4,a5⟩,h2⟩:=Ug h
 rw[Mi]
 refine Qgs ⟨a1,?_,a3,a4,by show(r.kids.map (Qy l)).length<_;rw[Qhb];exact a5⟩ fun k hk=>?_
 .show In .i64 (Zx l r)
  unfold Zx
  split
  .exact Fa hl _ a2
  .exact a2
 .obtain⟨k0,hk0,rfl⟩:=Qhw.1 (show k∈r.kids.map (Qy l) from hk)
  exact ih k0 hk0 (h2 k0 hk0)
theorem Oa (l:List Crs):∀(f:Nat) (r:Q1),Vo f (Qy l r)=Vo f r
 |0,r=>rfl
 | f + 1,r=>by
   rw[N7,N7,Mi]
   show(if 300<(r.kids.map (Qy l)).length then 300 else(r.kids.map (Qy l)).foldl (Z2 f) 1)=_
   rw[Qhb,List.foldl_map]
   have e:(fun(n:Nat) (k:Q1)=>Z2 f n (Qy l k))=Z2 f:=by
    funext n k
    unfold Z2
    rw[Oa l f k]
   rw[e]
theorem Q3m (l:List Crs)(r:Q1):(Qy l r).name=r.name:=by
 rw[Mi]
 rfl
theorem Q0o (l:List Crs)(r:Q1):Jw (Qy l r)=Jw r:=by
 unfold Jw
 rw[Oa,Q3m]
theorem Q9g (l:List Crs)(x:Crs):Y9 (Jo l x)=Y9 x:=by
 show(Jw (Qy l x.need)&&Jw (Qy l x.bar))=_
 rw[Q0o,Q0o]
 rfl
theorem Q9f (l:List Crs)(p:Prg):Xj (Vw l p)=Xj p:=by
 show(decide ((p.reqs.map (X5 l)).length<=70)&&(p.reqs.map (X5 l)).all Gs)=_
 rw[Qhb,List.all_map]
 rfl
theorem Q9e (c:Cat):X4 (Vv c)=X4 c:=by
 have e1:decide (Gr (Vv c))=decide (Gr c):=decide_eq_decide.2 (by
  show((c.crs.map (Jo c.crs)).length<=8/\(c.same.map (Zm c.crs)).length<=8/\(c.prg.map (Vw c.crs)).length<=4/\Wt c<=20)↔_
  rw[Qhb,Qhb,Qhb]
  exact Iff.rfl)
 have e2:(Vv c).crs.all Y9=c.crs.all Y9:=by
  show(c.crs.map (Jo c.crs)).all Y9=_
  rw[List.all_map]
  exact congrArg (fun f=>c.crs.all f) (funext fun x=>Q9g c.crs x)
 have e3:(Vv c).prg.all Xj=c.prg.all Xj:=by
  show(c.prg.map (Vw c.crs)).all Xj=_
  rw[List.all_map]
  exact congrArg (fun f=>c.prg.all f) (funext fun x=>Q9f c.crs x)
 unfold X4
 rw[e1,e2,e3]
theorem Np {c:Cat}(h:X4 c=true):(c.crs.length<=8/\c.same.length<=8/\c.prg.length<=4/\Wt c<=20)/\(∀x∈c.crs,Y9 x=true)/\∀p∈c.prg,Xj p=true:=by
 unfold X4 at h
 rw[Qh5,Qh5,Qia]at h
 exact⟨h.1,Qi8.1 h.2.1,Qi8.1 h.2.2⟩
theorem Qfq {c:Cat}(_:Ye c)(hf:X4 c=true):∀x∈c.crs,Hb x:=fun x hx=>by
 have:=(Np hf).2.1 x hx
 unfold Y9 at this
 rw[Qh5]at this
 exact⟨Ht this.1,Ht this.2⟩
section
variable {c:Cat}(h:Ye c)
include h
theorem Q6p:I8 c:=by
 obtain⟨⟨h1,h2⟩,⟨h3,_⟩,⟨h5,h6⟩,_⟩:=h
 exact⟨h1,fun x hx=>(h2 x hx).1,h3,h5,fun p hp=>⟨(h6 p hp).2.1.1,fun q hq=>((h6 p hp).2.1.2 q hq).1⟩⟩
theorem N6:Uh c:=by
 obtain⟨⟨h1,h2⟩,⟨h3,_⟩,⟨h5,h6⟩,⟨h7,_⟩,h9,⟨h10,_⟩,h12⟩:=h
 exact⟨h1,fun x hx=>⟨(h2 x hx).1.1.1,(h2 x hx).1.2.1⟩,h3,h5,fun p hp=>⟨(h6 p hp).2.1.1,fun q hq=>((h6 p hp).2.1.2 q hq).1⟩,h7,h9,h10,h12⟩
theorem Q55:W0 (Qq c):=by
 obtain⟨_,_,_,h7,h9,h10,h12⟩:=h
 exact⟨h7,h10,h9,h12⟩
theorem Q53:∀p∈c.prg,Ce p:=fun p hp=>by
 obtain⟨_,_,⟨_,h6⟩,_⟩:=h
 obtain⟨g1,g2,_⟩:=h6 p hp
 exact⟨g1.1,g1.2,g2.1,fun q hq=>(g2.2 q hq).1.2⟩
theorem Q52:∀x∈c.crs,Yz x:=fun x hx=>by
 obtain⟨⟨_,h2⟩,_⟩:=h
 exact⟨(h2 x hx).1.1.1,(h2 x hx).1.2.1⟩
theorem Q51:Y5 ⟨c.crs,c.prg,[Qq c]⟩ :=
 ⟨⟨h.1.1,Q52 h⟩,⟨h.2.2.1.1,Q53 h⟩,by show(1:Nat)<=_;decide,fun s hs=>by rw[Qi9.1 hs];exact Q55 h⟩
theorem T2 (hf:X4 c=true):Yl c:=by
 obtain⟨⟨f1,f2,f3,_⟩,f5,f6⟩:=Np hf
 obtain⟨_,_,⟨_,h6⟩,⟨h7,_⟩,h9,⟨h10,_⟩,_⟩:=h
 refine⟨Om,Om,Om,h7,h9,h10,fun x hx=>?_,fun p hp=>⟨?_,fun q hq=>⟨?_,((h6 p hp).2.1.2 q hq).1.2⟩⟩⟩
 .have:=f5 x hx
  unfold Y9 at this
  rw[Qh5]at this
  exact⟨Ht this.1,Ht this.2⟩
 .have:=f6 p hp
  unfold Xj at this
  rw[Qh5,Qia]at this
  omega
 .have:=f6 p hp
  unfold Xj at this
  rw[Qh5]at this
  have:=Qi8.1 this.2 q hq
  unfold Gs at this
  rw[Qia]at this
  omega
theorem El:Ye (Vv c):=by
 obtain⟨⟨h1,h2⟩,⟨h3,h4⟩,⟨h5,h6⟩,h7⟩:=h
 have hl:∀x∈c.crs,In .i64 x.number:=fun x hx=>(h2 x hx).2.1
 have hR:∀r,Lj r->Lj (Qy c.crs r):=fun r hr=>⟨Qgt hl r hr.1,by rw[Q3m];exact hr.2⟩
 refine⟨⟨?_,fun y hy=>?_⟩,⟨?_,fun y hy=>?_⟩,⟨?_,fun y hy=>?_⟩,h7⟩
 .show(c.crs.map (Jo c.crs)).length<=_
  rw[Qhb]
  exact h1
 .obtain⟨x,hx,rfl⟩:=Qhw.1 (show y∈c.crs.map (Jo c.crs) from hy)
  obtain⟨⟨g1,g2⟩,g3⟩:=h2 x hx
  exact⟨⟨hR _ g1,hR _ g2⟩,g3⟩
 .show(c.same.map (Zm c.crs)).length<=_
  rw[Qhb]
  exact h3
 .obtain⟨x,hx,rfl⟩:=Qhw.1 (show y∈c.same.map (Zm c.crs) from hy)
  exact⟨Fa hl _ (h4 x hx).1,Fa hl _ (h4 x hx).2⟩
 .show(c.prg.map (Vw c.crs)).length<=_
  rw[Qhb]
  exact h5
 .obtain⟨p,hp,rfl⟩:=Qhw.1 (show y∈c.prg.map (Vw c.crs) from hy)
  obtain⟨g1,⟨g2,g3⟩,g4⟩:=h6 p hp
  refine⟨g1,⟨?_,fun z hz=>?_⟩,g4⟩
  .show(p.reqs.map (X5 c.crs)).length<=_
   rw[Qhb]
   exact g2
  .obtain⟨q,hq,rfl⟩:=Qhw.1 (show z∈p.reqs.map (X5 c.crs) from hz)
   obtain⟨⟨k1,k2⟩,⟨k3,k4,k5⟩,k6⟩:=g3 q hq
   refine⟨⟨k1,?_⟩,⟨k3,k4,fun n hn=>?_⟩,k6⟩
   .show(List.zipWith _ q.names q.fr).length<=_
    rw[List.length_zipWith]
    exact Qhx (Nat.min_le_right _ _) k2
   .obtain⟨i,hi,e⟩:=List.getElem_of_mem (show n∈List.zipWith (fun s n=>(Qx c.crs s n).getD 0) q.names q.fr from hn)
    rw[List.getElem_zipWith]at e
    rw[<-e]
    exact Fa hl _ (k5 _ (List.getElem_mem _))
end
theorem Qgr {b:Bok}{c:Cat}(hb:Y5 b)(hc:Ye c)(h1:b.crs.length<=1000)(h2:c.crs.length<=1000)(h3:b.prg.length<=1000)(h4:c.prg.length<=1000)(h5:b.sys.length<=1000):Y5 (W4 b c):=by
 obtain⟨⟨_,b2⟩,⟨_,b4⟩,_,b6⟩:=hb
 refine⟨⟨?_,fun x hx=>?_⟩,⟨?_,fun x hx=>?_⟩,?_,fun x hx=>?_⟩
 .show(b.crs++c.crs).length<=_
  rw[Qhc]
  omega
 .exact(Qi7.1 (show x∈b.crs++c.crs from hx)).elim (b2 x) (Q52 hc x)
 .show(b.prg++c.prg).length<=_
  rw[Qhc]
  omega
 .exact(Qi7.1 (show x∈b.prg++c.prg from hx)).elim (b4 x) (Q53 hc x)
 .show(b.sys++(if Vz c=true then[Qq c] else[])).length<=_
  rw[Qhc]
  split
  .rw[List.length_singleton];omega
  .rw[Qig];omega
 .rcases Qi7.1 (show x∈b.sys++(if Vz c=true then[Qq c] else[]) from hx) with hx|hx
  .exact b6 x hx
  .split at hx
   .rw[Qi9.1 hx]
    exact Q55 hc
   .exact(Qhq hx).elim
theorem Dg (b:Bok)(c:Cat)(fr til kn:Int)(hb:Y5 b)(h1:b.crs.length<=100)(h3:b.prg.length<=100)(h5:b.sys.length<=100)(hc:Ye c)(hf:X4 c=true) :
 Pure Tryz.prog 15 [.agg (Q8 b),.agg (Q0 c),.agg [di fr,di til],di kn] (L9 b c fr til kn):=by
 obtain⟨⟨f1,f2,f3,_⟩,_⟩:=Np hf
 exact Qav b c fr til kn hb (Q51 hc) (T2 hc hf) (N6 hc) (N6 (El hc)) h1 Om h3 Om h5 Om
theorem Qeb (c:Cat)(hc:Ye c)(hf:X4 c=true):Pure Tryz.prog 14 [.agg (Q0 c)] [.agg (Q0 (Qj c)),di (J1 c)]:=Q3p c (T2 hc hf)
theorem Q0m (c:Cat)(hc:Ye c):Pure Tryz.prog 13 [.agg (Q0 c)] [.bool (X4 c)]:=Q9c c (Q6p hc)
theorem Sp {b:Bok}{c:Cat}{fr til kn:Int}(h:U5 b c fr til kn=0):L9 b c fr til kn=[.agg (Q8 (W4 b c)),Zd (Y1 b c fr til kn),di 0]:=if_pos h
theorem Q14 {b:Bok}{c:Cat}{fr til kn:Int}(h:U5 b c fr til kn≠0):L9 b c fr til kn=[.agg (Q8 T1),.nils,di (U5 b c fr til kn)]:=if_neg h
theorem Sm {b:Bok}{c:Cat}{fr til kn:Int}(h1:Vn b=0)(h2:J1 c=0)(h3:c=Vv c)(h4:c.same.all Yf=true)(h5:Vn ⟨c.crs,c.prg,[Qq c]⟩=0):U5 b c fr til kn=if B8 fr til kn=true then 0 else 140:=by
 unfold U5
 rw[if_pos h1,if_pos h2,Qh8 h3,h4,Qh8 h5,Qhy,Qhy,Qhy]
set_option maxHeartbeats 0
section
variable {w:Wor}{t kn:Int}{ns:List Int}
end
def Pw (fr til:Int):List D:=[di fr,di til]
def Z8 (l:List Crs):Bok:=⟨l,[],[]⟩
def Xc (l:List Crs):Cat:=⟨l,[],[],[],[],[],[]⟩
def Q35 (s:ByteArray)(n:Int):Crs:=⟨s,n,4,0,.mk 1 0 .empty 0 0 [],.mk 2 0 .empty 0 0 []⟩
theorem Qdf (s:ByteArray)(n:Int):Pure Tryz.prog 45 [.str s,di n] [.agg (Q6 (Q35 s n))]:=by
 refine Q4 hT (T:=tab) (N:=10) (rs:=[.cell 4 68]) Tryz.func45 rfl rfl rfl Kr rfl ?_
 (refine gW ?_;intros)
 exact⟨.inr ⟨rfl,rfl,rfl,rfl,rfl,rfl,rfl,rfl,rfl,rfl,rfl,rfl,rfl,rfl,rfl,rfl,Tt⟩,Tt⟩
theorem Q5f:Pure Tryz.prog 46 [] [.agg (Pw 0 1024)]:=by
 refine Q4 hT (T:=tab) (N:=2) (rs:=[.cell 0 34]) Tryz.func46 rfl rfl rfl Kr rfl ?_
 (refine gW ?_;intros)
 exact⟨.inl rfl,Tt⟩
theorem Q27:Pure Tryz.prog 21 [] [.agg (Q8 (Z8 []))]:=by
 refine Q4 hT (T:=tab) (N:=2) (rs:=[.cell 0 26]) Tryz.func21 rfl rfl rfl Kr rfl ?_
 (refine gW ?_;intros)
 exact⟨.inr ⟨rfl,rfl,rfl,Tt⟩,Tt⟩
def sA:ByteArray:=⟨#[65]⟩
def cA:Crs:=Q35 sA 1
def L0:List Fct:=[⟨1,1,0,0,3,9,8,0⟩,⟨12,0,0,1,0,1024,8,1⟩]
def w0:Wor:=⟨Z8 [cA],L0⟩
def wZ:Wor:=⟨Z8 [],[]⟩
theorem f1:N9 w0 1 3 8=some cA:=by rfl
theorem f2:W8 ⟨1,1,0⟩ 3=[rdK ⟨1,1,0⟩ 3]:=by rfl
theorem f3:N9 w0 1 9 8=none:=by rfl
theorem f4:Yd w0 8=[1]:=by
 have:Li w0.fcts (atV w0.fcts ⟨12,0,0⟩ 0 8).1=[1]:=by rfl
 unfold Yd
 rw[this,Wq]
 exact List.mergeSort_singleton ..
theorem f5 (kn:Int):Yd wZ kn=[]:=by
 have:Li wZ.fcts (atV wZ.fcts ⟨12,0,0⟩ 0 kn).1=[]:=by rfl
 unfold Yd
 rw[this,Wq]
 exact List.mergeSort_nil
theorem f6:Hs wZ 3 0 8=Vb 3:=by
 have h1:Zq wZ 0 8 [] 1 (Vb 3)=Vb 3:=by rfl
 have h:=Q0b (w:=wZ) (n:=3) (t:=0) (kn:=8) (j:=1) (Qh3 _) (by rw[f5,h1];decide) (by rw[f5,h1];decide)
 rw[h,f5,h1]
theorem f7:Gn wZ 3 0 8=[3]:=by
 rw[Gn,if_pos Dc,f6]
 exact List.mergeSort_singleton ..
theorem f8:equalR wZ 3 0 8=[rdK ⟨12,0,0⟩ 0]:=by rw[equalR,if_pos Dc,f6];rfl
theorem f9:Av wZ 0 8=none:=by rfl
theorem wfA:Yz cA:=by
 refine⟨fun p hp=>?_,fun p hp=>?_⟩<;>(rw[Xq]at hp;rcases Qho.1 hp with rfl|hp)<;>first|(refine⟨?_,?_,?_,?_,Dc⟩<;>exact Zz.2 Dc)|(rw[show(Q1.kids _)=[] from rfl,Ub]at hp;cases hp)
theorem Mu {l:List Crs}(h:l.length<=1000)(hw:∀c∈l,Yz c):Y5 (Z8 l) :=
 ⟨⟨by show l.length<=_;omega,hw⟩,⟨Qh3 _,fun c hc=>(Qhq hc).elim⟩,Qh3 _,fun c hc=>(Qhq hc).elim⟩
theorem smA:Hb cA:=by
 have e1:Jj cA.need=1:=by rfl
 have e2:Jj cA.bar=1:=by rfl
 exact⟨by rw[e1];decide,by rw[e2];decide⟩
theorem Qgu:WfW w0 :=
 ⟨Mu Dc (fun c hc=>by rw[Qi9.1 hc];exact wfA),fun c hc=>by rw[Qi9.1 hc];exact smA,by show(2:Nat)<=_;decide⟩
theorem I5:WfW wZ:=⟨Mu (Qh3 _) (fun c hc=>(Qhq hc).elim),fun c hc=>(Qhq hc).elim,Qh3 _⟩
def Pm:Crs:=⟨.empty,1,0,0,default,default⟩
theorem Q6t:Vn (Z8 [Pm])=140:=by rfl
theorem wf1:Yz Pm:=by
 have h:wfR (default:Q1):=fun p hp=>by
  rw[Xq]at hp
  rcases Qho.1 hp with rfl|hp
  .refine⟨?_,?_,?_,?_,Dc⟩<;>exact Zz.2 Dc
  .rw[show(Q1.kids (default:Q1))=[] from rfl,Ub]at hp
   cases hp
 exact⟨h,h⟩
theorem okA:Ye (Xc [cA]):=by
 refine⟨⟨by show(1:Nat)<=_;decide,fun x hx=>?_⟩,⟨Qh3 _,fun x hx=>(Qhq hx).elim⟩,⟨Qh3 _,fun x hx=>(Qhq hx).elim⟩,⟨Qh3 _,fun x hx=>(Qhq hx).elim⟩,Qh3 _,⟨Qh3 _,fun x hx=>(Qhq hx).elim⟩,Qh3 _⟩
 rw[Qi9.1 hx]
 exact⟨⟨⟨wfA.1,Dc⟩,wfA.2,Dc⟩,Zz.2 Dc,Zz.2 Dc,Zz.2 Dc⟩
theorem okZ:Ye (Xc []) :=
 ⟨⟨Qh3 _,fun x hx=>(Qhq hx).elim⟩,⟨Qh3 _,fun x hx=>(Qhq hx).elim⟩,⟨Qh3 _,fun x hx=>(Qhq hx).elim⟩,⟨Qh3 _,fun x hx=>(Qhq hx).elim⟩,Qh3 _,⟨Qh3 _,fun x hx=>(Qhq hx).elim⟩,Qh3 _⟩
theorem Q0n:X4 (Xc [cA])=true:=by rfl
theorem Q0p:X4 (Xc [])=true:=by rfl
theorem W9:J1 (Xc [cA])=0:=by rfl
theorem Qea:J1 (Xc [])=0:=by rfl
theorem Qam:Y1 (Z8 []) (Xc [cA]) 3 9 8=L0:=by rfl
theorem Qak:W4 (Z8 []) (Xc [cA])=Z8 [cA]:=by rfl
theorem I6:Y5 (Z8 []):=Mu (Qh3 _) (fun c hc=>(Qhq hc).elim)
theorem Qau:Pure Tryz.prog 15 [.agg (Q8 (Z8 [])),.agg (Q0 (Xc [cA])),.agg (Pw 3 9),di 8] [.agg (Q8 (Z8 [cA])),Zd L0,di 0]:=by
 have h:=Dg (Z8 []) (Xc [cA]) 3 9 8 I6 (Qh3 _) (Qh3 _) (Qh3 _) okA Q0n
 rw[Sp (by rw[Sm rfl W9 rfl rfl rfl];rfl),Qam,Qak]at h
 exact h
theorem Qat:Pure Tryz.prog 15 [.agg (Q8 (Z8 [])),.agg (Q0 (Xc [])),.agg (Pw 0 1024),di 8] [.agg (Q8 (Z8 [])),Zd [],di 0]:=by
 have h:=Dg (Z8 []) (Xc []) 0 1024 8 I6 (Qh3 _) (Qh3 _) (Qh3 _) okZ Q0p
 rw[Sp (by rw[Sm rfl Qea rfl rfl rfl];rfl),show W4 (Z8 []) (Xc [])=Z8 [] from rfl,show Y1 (Z8 []) (Xc []) 0 1024 8=[] from rfl]at h
 exact h
theorem Qas:Pure Tryz.prog 15 [.agg (Q8 (Z8 [])),.agg (Q0 (Xc [cA])),.agg (Pw 5 5),di 8] [.agg (Q8 (Z8 [])),.nils,di 140]:=by
 have h:=Dg (Z8 []) (Xc [cA]) 5 5 8 I6 (Qh3 _) (Qh3 _) (Qh3 _) okA Q0n
 have e:U5 (Z8 []) (Xc [cA]) 5 5 8=140:=by rw[Sm rfl W9 rfl rfl rfl];rfl
 rw[Q14 (by rw[e];decide),e]at h
 exact h
theorem Qfo:Pure Tryz.prog 11 [] [.bool true]:=by
 have hPl:=Qdf sA 1
 refine Q4 hT (T:=tab) (N:=192) (rs:=[.tmp 0]) Tryz.func11 rfl rfl rfl Kr rfl ?_
 (refine gS ?_;intros)
 refine Sq.go ?_;(refine gS ?_;intros)
 refine hPl.call ?_
 (refine gS ?_;intros)
 have hNew:=Q27
 have hI1:=Qau
 have hw0:WfW w0:=Qgu
 have c1:=Iu w0 hw0 1 3 8
 have c2:=Iu w0 hw0 1 9 8
 have c3:=Ek w0 hw0 Dc 8
 rw[f1,f2]at c1
 rw[f3]at c2
 rw[f4]at c3
 have c4:=Ek wZ I5 (Qh3 _) 8
 rw[f5]at c4
 have c5:=Q8e wZ I5 (Qh3 _) 3 0 8
 rw[f7,f8]at c5
 have c6:=Q6l wZ I5 0 8
 rw[f9]at c6
 have hAll:=Q5f
 have hI2:=Qat
 have hI3:=Qas
 have hL:L0.length=2:=rfl
 unfold w0 at c1 c2 c3
 generalize L0=L at hI1 c1 c2 c3 hL
 obtain⟨ff,hff⟩:∃ff:Nat->List D,ff=fun i=>Qf (L.getD i default):=⟨_,rfl⟩
 have he:Zd L=.sl 8 2 ff:=by rw[Zd,hL,hff]
 have hew:U2 ⟨Z8 [cA],L⟩=[J2 [cA],Qw [],U1 [],.sl 8 2 ff]:=by
  rw[<-he]
  rfl
 rw[he]at hI1
 rw[hew]at c1 c2 c3
 clear hff he hew hL
 refine Sq.alt (Awp.frz [0,1] 1 (.pt (Q0 (Xc [cA])) 0) (.ptr' rfl ⟨.rows rfl (Qgx _) (fun i hi=>by rw[show i=0 from Qi1.1 hi];rfl),.eq rfl,.eq rfl,.eq rfl,.eq rfl,.eq rfl,.eq rfl,Tt⟩)
  (Awp.seq (Awp.effsF (m:=⟨[none,none],[]⟩) hT (by kernel_rfl) (by kernel_rfl) (by kernel_rfl) ⟨[none,none,none],[]⟩ 0 0
   [⟨8,lp 2,⟨[none,none,bX 26 (up [.nils,.nils,.nils])],[]⟩,[]⟩,⟨9,.junk,⟨[none,none,bX 26 (up (Q8 (Z8 [cA])))],[]⟩,[8]⟩]
   Kr rfl rfl (Qt.of Tt Tt) ⟨Qt.of Tt Tt,Qt.of Tt Tt,Tt⟩ ?_)))
 conv=>whnf
 (refine gS ?_;intros)
 refine qC hNew ?_
 (refine gS ?_;intros)
 refine qC hI1 ?_
 (refine gS ?_;intros)
 refine⟨?_,?_,?_⟩
 .conv=>whnf
  (refine gS ?_;intros)
  exact⟨rfl,rfl⟩
 .conv=>whnf
  (refine gS ?_;intros)
  exact⟨Tt,rfl⟩
 conv=>whnf
 (refine gS ?_;intros)
 refine Awp.of_vc hT ?_
 (refine gS ?_;intros)
 refine Sq.go ?_;(refine gS ?_;intros)
 refine c1.call ?_
 (refine gS ?_;intros)
 refine Sq.go ?_;(refine gS ?_;intros)
 refine c2.call ?_
 (refine gS ?_;intros)
 refine Sq.go ?_;(refine gS ?_;intros)
 refine c3.call ?_
 (refine gS ?_;intros)
 refine Sq.go ?_;(refine gS ?_;intros)
 refine Qz.frz [] ?_ (c4.call ?_)
 .exact⟨.eq (.inr ⟨rfl,rfl,rfl,rfl,Tt⟩),.d,Tt⟩
 (refine gS ?_;intros)
 refine Sq.go ?_;(refine gS ?_;intros)
 refine Qz.frz [] ?_ (c5.call ?_)
 .exact⟨.eq (.inr ⟨rfl,rfl,rfl,rfl,Tt⟩),.d,.d,.d,Tt⟩
 (refine gS ?_;intros)
 refine Sq.go ?_;(refine gS ?_;intros)
 refine Qz.frz [] ?_ (c6.call ?_)
 .exact⟨.eq (.inr ⟨rfl,rfl,rfl,rfl,Tt⟩),.d,.d,Tt⟩
 (refine gS ?_;intros)
 refine Sq.go ?_;(refine gS ?_;intros)
 refine hAll.call ?_
 (refine gS ?_;intros)
 refine Qz.frz [] ?_ (hI2.call ?_)
 .exact⟨.eq (.inr ⟨rfl,rfl,rfl,Tt⟩),.eq (.inr ⟨rfl,rfl,rfl,rfl,rfl,rfl,rfl,Tt⟩),.d,.d,Tt⟩
 (refine gS ?_;intros)
 refine Sq.go ?_;(refine gS ?_;intros)
 refine Qz.frz [] ?_ (hI3.call ?_)
 .exact⟨.eq (.inr ⟨rfl,rfl,rfl,Tt⟩),.d,.d,.d,Tt⟩
 (refine gS ?_;intros)
 refine Sq.go ?_;(refine gS ?_;intros)
 refine Sq.go ?_;(refine gS ?_;intros)
 refine Sq.go ?_;(refine gS ?_;intros)
 refine Sq.alt (Awp.frz [9,10] 26 (.pt (Q8 (Z8 [Pm])) 0) (.ptr' rfl ⟨.osl' rfl (Qgx _) (fun i hi=>by
  rw[show i=0 from Qi1.1 hi]
  exact⟨.d,.d,.d,.d,.d,.d,.d,.d,.d,.eq rfl,.d,.d,.d,.d,.d,.eq rfl,Tt⟩),.eq rfl,.eq rfl,Tt⟩)
  (Awp.frz [11] 27 (Wl [rdK ⟨1,1,0⟩ 3]) (.rows rfl (Qgx _) (fun i hi=>by rw[show i=0 from Qi1.1 hi];rfl))
  (Awp.frz [12] 28 (Wl [rdK ⟨12,0,0⟩ 0]) (.rows rfl (Qgx _) (fun i hi=>by rw[show i=0 from Qi1.1 hi];rfl)) (Z3 hT _ _ _ _ (Ev.o ?_)))))
 have d1:=Q47 cA cA wfA wfA
 have d2:=Q4a [rdK ⟨1,1,0⟩ 3] [rdK ⟨1,1,0⟩ 3] Dc Dc
 have d3:=Q49 [1] [1] Dc Dc
 have d4:=Q4a [rdK ⟨12,0,0⟩ 0] [rdK ⟨12,0,0⟩ 0] Dc Dc
 have d5:=Q49 [3] [3] Dc Dc
 have d6:=Ah default default ⟨⟨Qh3 _,fun x h=>(Qhq h).elim⟩,⟨Qh3 _,fun x h=>(Qhq h).elim⟩,Qh3 _,Qh3 _⟩ ⟨⟨Qh3 _,fun x h=>(Qhq h).elim⟩,⟨Qh3 _,fun x h=>(Qhq h).elim⟩,Qh3 _,Qh3 _⟩
 have d7:=N2 (Z8 [Pm]) (Mu Dc (fun c hc=>by rw[Qi9.1 hc];exact wf1))
 have d8:=N2 (Z8 []) (Mu Dc (fun c hc=>by cases hc))
 rw[Q6t]at d7
 rw[show Vn (Z8 [])=0 from rfl]at d8
 rw[Qh8 rfl]at d1 d2 d3 d4 d5 d6
 clear c1 c2 c3 c4 c5 c6 hI1 hI2 hI3 hNew hAll hPl hw0
 have d4c:Pure Tryz.prog 26 [N5 [rdK ⟨12,0,0⟩ 0],Wl [rdK ⟨12,0,0⟩ 0]] [.bool true]:=Wx d4 ⟨⟨rfl,rfl,fun i _=>rfl⟩,⟨rfl,rfl,fun i _=>rfl⟩,Tt⟩
 have d3c:Pure Tryz.prog 25 [J6 [1],.sl 1 1 (Xf [[di 1]])] [.bool true]:=Wx d3 ⟨⟨rfl,rfl,fun i _=>rfl⟩,rfD (fun n:Int=>[di n]) 1 _ rfl 1,Tt⟩
 have d5c:Pure Tryz.prog 25 [J6 [3],.sl 1 1 (Xf [[di 3]])] [.bool true]:=Wx d5 ⟨⟨rfl,rfl,fun i _=>rfl⟩,rfD (fun n:Int=>[di n]) 3 _ rfl 1,Tt⟩
 have d6c:Pure Tryz.prog 38 [.agg (Qa default),.agg [.nils,.nils,.nils,.nils]] [.bool true]:=Wx d6 ⟨.inl rfl,.inr ⟨rfl,rfl,rfl,rfl,Tt⟩,Tt⟩
 have d8c:Pure Tryz.prog 19 [.agg [.nils,.nils,.nils]] [di 0]:=Wx d8 ⟨.inr ⟨rfl,rfl,rfl,Tt⟩,Tt⟩
 repeat' (first|((with_reducible refine Ev.mk ?_);conv=>whnf)|with_reducible refine Dr.mk ⟨Kr,Kr⟩ ?_|with_reducible refine obG ?_|with_reducible refine Ob.mk ?_ ?_|(with_reducible first|refine brT fun h=>?_|refine brF fun h=>?_|refine Br.mk (fun h=>?_) fun h=>?_)<;>(try simp only[bsl,Qhm,bne_iff_ne,bs2]at h)<;>(try contradiction)<;>try (exfalso;omega))
 .intro _
  decide
 refine qC d1 ?_
 (refine gS ?_;intros)
 refine qC d2 ?_
 (refine gS ?_;intros)
 refine qC d3c ?_
 (refine gS ?_;intros)
 refine qC d4c ?_
 (refine gS ?_;intros)
 refine qC d4c ?_
 (refine gS ?_;intros)
 refine Sq.go ?_;(refine gS ?_;intros)
 refine d5.loan rfl ⟨.d,.rows rfl (Qgx _) (fun i hi=>by rw[show i=0 from Qi1.1 hi];rfl),Tt⟩ ?_
 (refine gS ?_;intros)
 refine d4.call ?_
 (refine gS ?_;intros)
 refine d6c.call ?_
 (refine gS ?_;intros)
 refine d7.call ?_
 (refine gS ?_;intros)
 refine d8c.call ?_
 (refine gW ?_;intros)
 exact⟨rfl,Tt⟩
abbrev Qd:=Int × Int × Int × Int
def F5 (fr til kn:Int):Nat->List Qd->List Fct
 |_,[]=>[]
 |n,q::r=>⟨q.1,q.2.1,q.2.2.1,q.2.2.2,fr,til,kn,n⟩::F5 fr til kn (n+1) r
theorem Eh (fr til kn:Int):∀(a:List Qd) (n:Nat),(F5 fr til kn n a).length=a.length
 |[],_=>rfl
 |_::r,n=>congrArg (· + 1) (Eh fr til kn r (n+1))
theorem Ie (fr til kn:Int):∀(qs:List Qd) (fs:List Fct),Qh fr til kn fs qs=fs++F5 fr til kn fs.length qs
 |[],fs=>(Qih fs).symm
 | q :: r,fs=>by
   show Qh fr til kn (Zu fr til kn fs q) r=_
   rw[Ie fr til kn r,Zu,Qhc,List.append_assoc]
   rfl
theorem Qao (b:Bok)(c:Cat)(fr til kn:Int):Y1 b c fr til kn=F5 fr til kn 0 (L8 b c++Wn b c)++(if Z6 b.crs<Z6 (b.crs++c.crs) then[⟨12,0,0,(Z6 (b.crs++c.crs):Int),0,1024,kn,(L8 b c++Wn b c).length⟩] else[]):=by
 unfold Y1 L7
 rw[Ie,List.nil_append,Qig]
 split
 .rw[Zu,Eh]
 .rw[Qih]
theorem Qar (b:Bok)(c:Cat):(L8 b c++Wn b c).length<=c.crs.length+c.prg.length+c.same.length+1:=by
 rw[Qhc,L8,Qhc,Qhc,Gh,Gh,Mm,Wn]
 split
 .rw[List.length_singleton];omega
 .rw[Qig];omega
theorem Qan (b:Bok)(c:Cat)(fr til kn:Int):(Y1 b c fr til kn).length<=c.crs.length+c.prg.length+c.same.length+2:=by
 have:=Qar b c
 rw[Qao,Qhc,Eh]
 split
 .rw[List.length_singleton];omega
 .rw[Qig];omega
def L3 (c:Cat):Prop:=c.classes.length+c.fees.length+c.honours.length+c.clauses.length<=9223372036854775807
theorem Q6o {c:Cat}(hf:X4 c=true)(h:L3 c):Mx c:=by
 obtain⟨⟨_,_,_,f4⟩,_⟩:=Np hf
 rw[Q56 h]at f4
 exact⟨Om,Om,Om⟩
theorem Sc {b:Bok}(h:Rl b=true):b.crs.length<=16/\b.prg.length<=8/\b.sys.length<=6/\∀c∈b.crs,Jw c.need=true/\Jw c.bar=true:=by
 unfold Rl at h
 simp only[Qh5,Qia]at h
 exact⟨h.2.2.1,h.2.2.2.1,h.2.2.2.2,fun c hc=>by
  have:=Qi8.1 h.1 c hc
  rwa [Qh5]at this⟩
theorem Q4f (b:Bok)(hb:Hy b)(hfb:Rl b=true)(z:Cat)(hz:Ye z)(hfz:X4 z=true)(hS:L3 z)(fr til kn:Int):∃(B:Bok) (X:D) (e:Int),
 Pure Tryz.prog 15 [.agg (Q8 b),.agg (Q0 z),.agg [di fr,di til],di kn] [.agg (Q8 B),X,di e] /\
 Pure Tryz.prog 16 [.agg (Q8 b),.agg (Q0 z),.agg [di fr,di til],di kn] [.agg (Q8 B),X,di e] /\
 Pure Tryz.prog 17 [.agg (Q8 B),.agg (Q8 B)] [.bool true]/\Pure Tryz.prog 18 [X,X] [.bool true]/\(X=.nils\/∃l:List Fct,X=Zd l):=by
 obtain⟨l1,l2,l3,l4⟩:=Sc hfb
 obtain⟨⟨f1,f2,f3,_⟩,_⟩:=Np hfz
 have hI:=Dg b z fr til kn hb.wf Om Om Om hz hfz
 have hJ:=Qf2 b z fr til kn hb.wf (fun x hx=>⟨Ht (l4 x hx).1,Ht (l4 x hx).2⟩) (Q51 hz) (Qfq hz hfz) (T2 hz hfz) (Q6o hfz hS) (N6 hz) (N6 (El hz)) Om Om Om Om Om Om hS
 by_cases e:U5 b z fr til kn=0
 .rw [Sp e] at hI hJ
  have hE:Lz (W4 b z):=by
   have hE:=N6 hz
   refine⟨?_,fun x hx=>?_,?_,fun x hx=>?_,?_,fun x hx=>?_⟩
   .show(b.crs++z.crs).length<=_
    rw[Qhc]
    omega
   .exact(Qi7.1 (show x∈b.crs++z.crs from hx)).elim (hb.wf.1.2 x) (hE.wcrs x)
   .show(b.prg++z.prg).length<=_
    rw[Qhc]
    omega
   .rcases Qi7.1 (show x∈b.prg++z.prg from hx) with hm|hm
    .have:=(hb.2.1.2 x hm).2.1
     exact⟨this.1,fun q hq=>(this.2 q hq).1⟩
    .exact hE.wprg x hm
   .show(b.sys++(if Vz z=true then[Qq z] else[])).length<=_
    rw[Qhc]
    split
    .rw[List.length_singleton];omega
    .rw[Qig];omega
   .exact(Qgr hb.wf hz Om Om Om Om Om).2.2.2 x hx
  have hB:=Ae _ _ hE hE
  rw[Qh8 rfl]at hB
  have hl:(Y1 b z fr til kn).length<=9223372036854775807:=by
   have:=Qan b z fr til kn
   omega
  have hF:=Q48 (Y1 b z fr til kn) (Y1 b z fr til kn) hl hl
  rw[Qh8 rfl]at hF
  exact⟨_,_,_,hI,hJ,hB,hF,.inr ⟨_,rfl⟩⟩
 .rw[Q14 e]at hI hJ
  have hE:Lz T1:=⟨Qh3 _,fun x h=>(Qhq h).elim,Qh3 _,fun x h=>(Qhq h).elim,Qh3 _,fun x h=>(Qhq h).elim⟩
  have hB:=Ae _ _ hE hE
  rw[Qh8 rfl]at hB
  have hF:=Q48 [] [] (Qh3 _) (Qh3 _)
  rw[Qh8 rfl]at hF
  exact⟨_,_,_,hI,hJ,hB,Wx hF ⟨rfl,rfl,Tt⟩,.inl rfl⟩
theorem Qe9 {c:Cat}(hc:Ye c)(hf:X4 c=true)(hS:L3 c):Ye (Qj c)/\X4 (Qj c)=true/\L3 (Qj c):=by
 unfold Qj
 split
 .exact⟨El hc,by rw[Q9e];exact hf,hS⟩
 .exact⟨okZ,Q0p,Qh3 _⟩
theorem Q6i (b:Bok)(hb:Hy b)(c:Cat)(hc:Ye c)(fr til kn:Int)(hS:L3 c) :
 Pure Tryz.prog 3 [.agg (Q8 b),.agg (Q0 c),.agg [di fr,di til],di kn] [.bool true]:=by
 have hA:=Qfo
 have hFB:=Q9d b hb.wf hb.nm
 have hF:=Q0m c hc
 cases hfb:Rl b
 case false =>
  rw[hfb]at hFB
  refine Q4 hT (T:=tab) (N:=89) (rs:=[.tmp 8]) Tryz.func3 rfl rfl rfl Kr rfl ?_
  (refine gW ?_;intros)
  refine hA.call ?_
  (refine gW ?_;intros)
  refine hFB.call ?_
  (refine gW ?_;intros)
  exact⟨rfl,Tt⟩
 rw[hfb]at hFB
 cases hfc:X4 c
 case false =>
  rw[hfc]at hF
  refine Q4 hT (T:=tab) (N:=89) (rs:=[.tmp 8]) Tryz.func3 rfl rfl rfl Kr rfl ?_
  (refine gW ?_;intros)
  refine hA.call ?_
  (refine gW ?_;intros)
  refine hFB.call ?_
  (refine gW ?_;intros)
  refine hF.call ?_
  (refine gW ?_;intros)
  exact⟨rfl,Tt⟩
 rw[hfc]at hF
 obtain⟨hv1,hv2,hv3⟩:=Qe9 hc hfc hS
 have hV:=Qeb c hc hfc
 have hF2:=Q0m (Qj c) hv1
 rw[hv2]at hF2
 obtain⟨B1,X1,e1,i1,j1,s1,t1,x1⟩:=Q4f b hb hfb c hc hfc hS fr til kn
 obtain⟨B2,X2,e2,i2,j2,s2,t2,x2⟩:=Q4f b hb hfb (Qj c) hv1 hv2 hv3 fr til kn
 have hs:∀x∈b.crs,Hb x:=fun x hx=>⟨Ht ((Sc hfb).2.2.2 x hx).1,Ht ((Sc hfb).2.2.2 x hx).2⟩
 have hK:=N2 b hb.wf
 have hL:=A6 b hb.wf hs
 have hN:=Q27
 have hM:=Ae (Z8 []) (Z8 []) ⟨Qh3 _,fun x h=>(Qhq h).elim,Qh3 _,fun x h=>(Qhq h).elim,Qh3 _,fun x h=>(Qhq h).elim⟩ ⟨Qh3 _,fun x h=>(Qhq h).elim,Qh3 _,fun x h=>(Qhq h).elim,Qh3 _,fun x h=>(Qhq h).elim⟩
 rw[Qh8 rfl]at hM
 have hM2:Pure Tryz.prog 17 [.agg (Q8 (Z8 [])),.agg [.nils,.nils,.nils]] [.bool true]:=Wx hM ⟨.inl rfl,.inr ⟨rfl,rfl,rfl,Tt⟩,Tt⟩
 clear hb hc hfb hfc hv1 hv2 hv3 hS hs
 generalize Vn b=ck at hK hL
 generalize J1 c=re at hV
 generalize Qj c=z at hV hF2 i2 j2
 refine Q4 hT (T:=tab) (N:=89) (rs:=[.tmp 8]) Tryz.func3 rfl rfl rfl Kr rfl ?_
 (refine gW ?_;intros)
 refine hA.call ?_
 (refine gW ?_;intros)
 refine hFB.call ?_
 (refine gW ?_;intros)
 refine hF.call ?_
 (refine gW ?_;intros)
 refine hV.call ?_
 (refine gW ?_;intros)
 refine Q7 hT (S:=Nat) (fun k=>([(3,dV kn),(4,lp 0),(6,lp 2),(36,.osl (.loc 4) 0 0 2),(37,dV 2),(38,dV k)],⟨[bX 26 (up (Q8 b)),none,bX 34 (up [di fr,di til]),none,bV 32 7 0 2 (Jr [up (Q0 c),up (Q0 z)])],[]⟩)) (fun k=>k<=2) (fun k=>2-k) 0 ?_ ?_ ?_
 .repeat' (first|exact Tt|exact rfl|exact Qgx _|refine And.intro ?_ ?_)
  all_goals first
   |(intro i hi;rcases(by omega:i=0\/i=1) with rfl|rfl<;>exact⟨rfl,rfl⟩)
 .exact Qh3 _
 intro k hk
 dsimp only at hk⊢
 rcases(by omega:k=0\/k=1\/k=2) with rfl|rfl|rfl
 .clear hk
  rcases x1 with rfl|⟨l,rfl⟩
  ·(refine gW ?_;intros)
   refine hF.call ?_
   (refine gW ?_;intros)
   refine i1.call ?_
   (refine gW ?_;intros)
   refine j1.call ?_
   (refine gW ?_;intros)
   refine s1.call ?_
   (refine gW ?_;intros)
   refine t1.call ?_
   (refine gW ?_;intros)
   refine⟨1,Dc,Dc,?_⟩
   dsimp only
   repeat' (first|exact Tt|exact rfl|exact Qgx _|refine And.intro ?_ ?_)
   all_goals first
    |(intro i hi;rcases(by omega:i=0\/i=1) with rfl|rfl<;>exact⟨rfl,rfl⟩)
  ·(refine gW ?_;intros)
   refine hF.call ?_
   (refine gW ?_;intros)
   refine i1.call ?_
   (refine gW ?_;intros)
   refine j1.call ?_
   (refine gW ?_;intros)
   refine s1.call ?_
   (refine gW ?_;intros)
   refine t1.call ?_
   (refine gW ?_;intros)
   refine⟨1,Dc,Dc,?_⟩
   dsimp only
   repeat' (first|exact Tt|exact rfl|exact Qgx _|refine And.intro ?_ ?_)
   all_goals first
    |(intro i hi;rcases(by omega:i=0\/i=1) with rfl|rfl<;>exact⟨rfl,rfl⟩)
 .clear hk
  rcases x2 with rfl|⟨l,rfl⟩
  ·(refine gW ?_;intros)
   refine hF2.call ?_
   (refine gW ?_;intros)
   refine i2.call ?_
   (refine gW ?_;intros)
   refine j2.call ?_
   (refine gW ?_;intros)
   refine s2.call ?_
   (refine gW ?_;intros)
   refine t2.call ?_
   (refine gW ?_;intros)
   refine⟨2,Dc,Dc,?_⟩
   dsimp only
   repeat' (first|exact Tt|exact rfl|exact Qgx _|refine And.intro ?_ ?_)
   all_goals first
    |(intro i hi;rcases(by omega:i=0\/i=1) with rfl|rfl<;>exact⟨rfl,rfl⟩)
  ·(refine gW ?_;intros)
   refine hF2.call ?_
   (refine gW ?_;intros)
   refine i2.call ?_
   (refine gW ?_;intros)
   refine j2.call ?_
   (refine gW ?_;intros)
   refine s2.call ?_
   (refine gW ?_;intros)
   refine t2.call ?_
   (refine gW ?_;intros)
   refine⟨2,Dc,Dc,?_⟩
   dsimp only
   repeat' (first|exact Tt|exact rfl|exact Qgx _|refine And.intro ?_ ?_)
   all_goals first
    |(intro i hi;rcases(by omega:i=0\/i=1) with rfl|rfl<;>exact⟨rfl,rfl⟩)
 (refine gS ?_;intros)
 refine Sq.go ?_;(refine gS ?_;intros)
 refine Sq.go ?_;(refine gS ?_;intros)
 refine qC hK ?_
 (refine gS ?_;intros)
 refine qC hL ?_
 (refine gS ?_;intros)
 refine qC hN ?_
 (refine gS ?_;intros)
 refine qC hM2 ?_
 (refine gS ?_;intros)
 refine Sq.go ?_;(refine gS ?_;intros)
 exact⟨congrArg D.bool (by rw[Qh8 rfl];rfl),Tt⟩
end Go.Proofs.YtmlhghddfobmmaaGreatDoor
namespace Go.Proofs.YtmlhghddfobmmaaGreatDoor
set_option linter.unusedSimpArgs false
set_option linter.unusedVariables false
open Go Go.Ab
open Go.ChangeShapes Go.WideShapes Go.RowKit Go.Deep
set_option maxRecDepth 100000
set_option maxHeartbeats 0
theorem Q6n {H:Type}(d:DataW H):1<=Rows.uptoBulk d:=by
 cases d with
 |lit l=>cases l<;>simp[Rows.uptoBulk]
 |_=>simp[Rows.uptoBulk]
theorem Q6m {H:Type}(l:List (DataW H)):l.length<=Rows.uptoBulkAll l:=by
 induction l with
 |nil=>simp[Rows.uptoBulkAll]
 | cons x r ih =>
   have:=Q6n x
   simp only[Rows.uptoBulkAll,Qhs]
   omega
theorem Q1m {α:Type}{l:List α}(h:l.length=7):∃a b c d e f g,l=[a,b,c,d,e,f,g]:=by
 match l,h with
 |[a,b,c,d,e,f,g],_=>exact⟨a,b,c,d,e,f,g,rfl⟩
section
variable {H:Type}{enc:TypeId × Value->H}{w:World}
theorem C3 {t et:TypeId}(hu:Tryz.prog.underlying t=some (.slice et)){m:Nat}{u:Value}{x:DataW H × List MemPlace}(h:DataW.trod enc Tryz.prog w 0 (fun _=>true) true m t [u]=some x){F:Nat->Prop}{sz n:Nat}{f:Nat->List D}(hr:Rd w F (.sl sz n f) u):n<=Rows.uptoBulk x.1:=by
 rcases DataW.trod_slice hu h with ⟨h1,rfl⟩|⟨a,len,cap,elems,rest,n',rfl,h1,rfl,-,-,-,hl,-⟩
 .obtain rfl:=(List.cons.inj h1).1
  cases hr
  exact Qh3 _
 .obtain rfl:=(List.cons.inj h1).1
  cases hr
  have:=Q6m (elems.map (·.1))
  rw[Qhb]at this
  simp only[Rows.uptoBulk]
  omega
theorem Qcj {base:Nat}{v:Value}{d:DataW H}{q:List MemPlace}(hv:Value.okWide Tryz.prog w .any base 32 v)(h:DataW.Trod enc Tryz.prog w 0 (fun _=>true) true 32 v d q):∃a:Cat,Ye a/\Rd w (· < w.heap.size) (.agg (Q0 a)) v/\a.classes.length+a.fees.length+a.honours.length+a.clauses.length<=Rows.uptoBulk d:=by
 obtain⟨m,hm⟩:=h
 obtain⟨a,h1,h2⟩:=Qcp m _ _ hm
 refine⟨a,h1,?_,?_⟩
 .unfold Value.okWide at hv
  rw[Tryz.underlying32]at hv
  obtain⟨cs,rfl,-,-⟩:=hv
  have:(Value.agg cs).cells.toList=cs.toList:=rfl
  rw[this]at h2
  have:=Rd.agg (w:=w) (F:=(· < w.heap.size)) (cs:=Q0 a) (us:=cs.toList) h2.1.symm (fun j x u hx hu=>(h2.2 j x u hx hu).1)
  simpa using this
 .obtain⟨xs,m',rfl,hx,hcs,hxl,hf⟩:=DataW.trod_struct Tryz.underlying32 hm
  obtain⟨rfl,-⟩:=Prod.mk.inj hx
  rw[show Tryz.prog.cellsOf 32=7 by kernel_rfl]at hcs
  obtain⟨u0,u1,u2,u3,u4,u5,u6,hL⟩:=Q1m hcs
  obtain⟨x0,x1,x2,x3,x4,x5,x6,rfl⟩:=Q1m hxl
  rw[hL]at h2 hf
  have c3:=C3 (x:=x3) Tryz.underlying28 (hf 3 _ rfl) (h2.2 3 _ u3 rfl rfl).1
  have c4:=C3 (x:=x4) Tryz.underlying29 (hf 4 _ rfl) (h2.2 4 _ u4 rfl rfl).1
  have c5:=C3 (x:=x5) Tryz.underlying28 (hf 5 _ rfl) (h2.2 5 _ u5 rfl rfl).1
  have c6:=C3 (x:=x6) Tryz.underlying30 (hf 6 _ rfl) (h2.2 6 _ u6 rfl rfl).1
  simp only[List.map,Rows.uptoBulk,Rows.uptoBulkAll]
  omega
end
end Go.Proofs.YtmlhghddfobmmaaGreatDoor
