import Derived.Test.YtmlhghddfobmmaaGreatDoorInsP
import Derived.Test.YtmlhghddfobmmaaGreatDoorRuleC
import Derived.Test.YtmlhghddfobmmaaGreatDoorEngAW
namespace Go.Proofs.YtmlhghddfobmmaaGreatDoor
set_option linter.unusedSimpArgs false
set_option linter.unusedVariables false
open Go Go.Ab
set_option maxRecDepth 100000
def isM (s:ByteArray)(n:Int)(x:Crs):Bool:=if s=.empty then decide (x.number=n) else decide (x.name=s)
def mnt (l:List Crs)(s:ByteArray)(n:Int):Nat:=l.findIdx (isM s n)
def Wp (l:List Crs)(s:ByteArray)(n:Int):Int:=if mnt l s n<l.length then(mnt l s n:Int) else -1
def Qx (l:List Crs)(s:ByteArray)(n:Int):Option Int:=if s=.empty then some n else if mnt l s n<l.length then some (l.getD (mnt l s n) default).number else none
theorem F6 {s:ByteArray}(h:s≠.empty)(l:List Crs)(n m:Int):mnt l s n=mnt l s m:=by
 unfold mnt
 congr 1
 funext x
 unfold isM
 rw[if_neg h,if_neg h]
mutual
def Qy (l:List Crs):Q1->Q1
 | .mk a b c d e ks=>.mk a (if(decide (a=5)||(decide (a=6)||decide (a=9)))=true then(Qx l c b).getD 0 else b) c d e (Mj l ks)
def Mj (l:List Crs):List Q1->List Q1
 |[]=>[]
 |k::ks=>Qy l k::Mj l ks
end
mutual
def okN (l:List Crs):Q1->Bool
 | .mk a b c _ _ ks=>(!(decide (a=5)||(decide (a=6)||decide (a=9)))||(Qx l c b).isSome)&&Mc l ks
def Mc (l:List Crs):List Q1->Bool
 |[]=>true
 |k::ks=>okN l k&&Mc l ks
end
theorem Q3n (l:List Crs):∀ks,Mj l ks=ks.map (Qy l)
 |[]=>by rw[Mj];rfl
 |k::ks=>by rw[Mj,Q3n l ks];rfl
theorem Q2l (l:List Crs):∀ks,Mc l ks=ks.all (okN l)
 |[]=>by rw[Mc];rfl
 |k::ks=>by rw[Mc,Q2l l ks];rfl
def Zx (l:List Crs)(r:Q1):Int:=if Jg r=true then(Qx l r.name r.course).getD 0 else r.course
def Yw (l:List Crs)(r:Q1):Bool:=!Jg r||(Qx l r.name r.course).isSome
theorem Mi (l:List Crs)(r:Q1):Qy l r=.mk r.op (Zx l r) r.name r.n r.d (r.kids.map (Qy l)):=by
 cases r
 rw[Qy,Q3n]
 rfl
theorem Em (l:List Crs)(r:Q1):okN l r=(Yw l r&&r.kids.all (okN l)):=by
 cases r
 rw[okN,Q2l]
 rfl
def Jo (l:List Crs)(x:Crs):Crs:={x with need:=Qy l x.need,bar:=Qy l x.bar}
def Zm (l:List Crs)(p:Pai):Pai:={p with x:=(Qx l p.a p.x).getD 0,y:=(Qx l p.b p.y).getD 0}
def frL (l:List Crs)(q:Req):List Int:=List.zipWith (fun s n=>(Qx l s n).getD 0) q.names q.fr
def X5 (l:List Crs)(q:Req):Req:={q with fr:=frL l q}
def Vw (l:List Crs)(p:Prg):Prg:={p with reqs:=p.reqs.map (X5 l)}
def Vv (c:Cat):Cat:={c with crs:=c.crs.map (Jo c.crs),same:=c.same.map (Zm c.crs),prg:=c.prg.map (Vw c.crs)}
def Vs (q:Req):Bool:=decide (q.names.length=q.fr.length)
def Vr (p:Prg):Bool:=p.reqs.all Vs
def ndQ (p:Prg):Bool:=decide (p.reqs.map fun q=>q.name).Nodup
def okX (l:List Crs)(x:Crs):Bool:=okN l x.need&&okN l x.bar
def okY (l:List Crs)(p:Pai):Bool:=(Qx l p.a p.x).isSome&&(Qx l p.b p.y).isSome
def okQ (l:List Crs)(q:Req):Bool:=(List.zipWith (fun s n=>(Qx l s n).isSome) q.names q.fr).all id
def Zk (l:List Crs)(p:Prg):Bool:=p.reqs.all (okQ l)
def Hf (c:Cat):Bool:=decide (c.crs.map fun x=>x.name).Nodup&&(decide (c.crs.map fun x=>x.number).Nodup&&(decide (c.prg.map fun x=>x.name).Nodup&&(decide (c.prg.map fun x=>x.number).Nodup &&
 (c.prg.all ndQ&&(decide (c.classes.map fun x=>x.name).Nodup&&(decide (c.fees.map fun x=>x.name).Nodup&&decide (c.honours.map fun x=>x.name).Nodup))))))
def Vf (c:Cat):Bool:=c.crs.all (okX c.crs)&&(c.same.all (okY c.crs)&&c.prg.all (Zk c.crs))
def ndR (l:List Crs)(p:Nat × Q1):Option Nat:=if p.2.op=5\/p.2.op=6 then(if mnt l p.2.name p.2.course<l.length then some (mnt l p.2.name p.2.course) else none) else none
def nds (l:List Crs)(i:Nat):List Nat:=(Jm 1 (l.getD i default).need).filterMap (ndR l)
theorem Qbx {l:List Crs}{i n:Nat}(h:n∈nds l i):n<l.length:=by
 obtain⟨p,_,hp⟩:=List.mem_filterMap.1 h
 unfold ndR at hp
 split at hp
 .split at hp
  .injection hp with hp
   omega
  .cases hp
 .cases hp
def rdy (l:List Crs)(o:List Nat)(i:Nat):Bool:=(nds l i).all (fun n=>decide (n∈o))&&decide (i ∉ o)
def Wo (l:List Crs):Nat->List Nat->Nat->List Nat
 |0,o,_=>o
 |k+1,o,i=>if i<l.length then(if rdy l o i=true then Wo l k (o++[i]) 0 else Wo l k o (i+1)) else o
def Yt (l:List Crs)(o:List Nat)(i:Nat):Nat:=(l.length-o.length)*(l.length+1)+(l.length-i)
structure Vm (l:List Crs)(o:List Nat):Prop where
 nd:o.Nodup
 lt:∀n∈o,n<l.length
theorem Vm.le {l:List Crs}{o:List Nat}(h:Vm l o):o.length<=l.length:=by
 have:=h.nd.length_le_of_subset (l₂:=List.range l.length) fun n hn=>List.mem_range.2 (h.lt n hn)
 rwa [List.length_range]at this
theorem Vm.snoc {l:List Crs}{o:List Nat}{i:Nat}(h:Vm l o)(hi:i<l.length)(hr:rdy l o i=true):Vm l (o++[i]):=by
 unfold rdy at hr
 rw[Qh5,Qia]at hr
 refine⟨?_,fun n hn=>?_⟩
 .rw[List.nodup_append]
  refine⟨h.nd,by simp,fun a ha b hb=>?_⟩
  simp at hb
  rintro rfl
  exact hr.2 (hb▸ha)
 .rcases Qi7.1 hn with hn|hn
  .exact h.lt n hn
  .simp at hn
   omega
theorem Dw {l:List Crs}{o:List Nat}{i:Nat}(h:Vm l o)(hi:i<l.length)(hr:rdy l o i=true):Yt l (o++[i]) 0<Yt l o i:=by
 have:=(h.snoc hi hr).le
 unfold Yt
 rw[Qhc,List.length_singleton]at this⊢
 have e:l.length-o.length=(l.length-(o.length+1))+1:=by omega
 rw[e,Nat.add_mul]
 omega
theorem Dv {l:List Crs}{o:List Nat}{i:Nat}(hi:i<l.length):Yt l o (i+1)<Yt l o i:=by
 unfold Yt
 omega
theorem Du {l:List Crs}:∀(k:Nat) (o:List Nat) (i j:Nat),Vm l o->Yt l o i<k->k<=j->Wo l k o i=Wo l j o i
 |0,o,i,j,_,h,_=>absurd h (Qhh _)
 | k + 1,o,i,j,hI,h,hj=>by
   obtain⟨j,rfl⟩:∃j',j=j'+1:=⟨j-1,Om⟩
   rw[Wo,Wo]
   by_cases hi:i<l.length
   .rw[if_pos hi,if_pos hi]
    by_cases hr:rdy l o i=true
    .rw[if_pos hr,if_pos hr]
     have:=Dw hI hi hr
     exact Du k _ 0 j (hI.snoc hi hr) Om Om
    .rw[if_neg hr,if_neg hr]
     have:=Dv (l:=l) (o:=o) hi
     exact Du k _ _ j hI Om Om
   .rw[if_neg hi,if_neg hi]
def Xn (l:List Crs)(o:List Nat)(i:Nat):List Nat:=Wo l (Yt l o i+1) o i
theorem Q1s {l:List Crs}{o:List Nat}{i:Nat}(h:Vm l o)(hi:i<l.length)(hr:rdy l o i=true):Xn l o i=Xn l (o++[i]) 0:=by
 have:=Dw h hi hr
 unfold Xn
 rw[Wo,if_pos hi,if_pos hr]
 exact(Du _ _ _ _ (h.snoc hi hr) (Nat.lt_succ_self _) Om).symm
theorem Q1r {l:List Crs}{o:List Nat}{i:Nat}(h:Vm l o)(hi:i<l.length)(hr:¬ rdy l o i=true):Xn l o i=Xn l o (i+1):=by
 have:=Dv (l:=l) (o:=o) hi
 unfold Xn
 rw[Wo,if_pos hi,if_neg hr]
 exact(Du _ _ _ _ h (Nat.lt_succ_self _) Om).symm
theorem Q1q {l:List Crs}{o:List Nat}{i:Nat}(hi:¬ i<l.length):Xn l o i=o:=by
 unfold Xn
 rw[Wo,if_neg hi]
theorem Vm.nil (l:List Crs):Vm l []:=⟨List.nodup_nil,fun n h=>(Qhq h).elim⟩
def lst (l:List Crs):List Nat:=Xn l [] 0
theorem E6 {l:List Crs}:∀(k:Nat) (o:List Nat) (i:Nat),Vm l o->Vm l (Wo l k o i)
 |0,o,i,h=>h
 | k + 1,o,i,h=>by
   rw[Wo]
   split
   .rename_i hi
    split
    .rename_i hr
     exact E6 k _ _ (h.snoc hi hr)
    .exact E6 k _ _ h
   .exact h
theorem Dx (l:List Crs):Vm l (lst l):=E6 _ _ _ (Vm.nil l)
def Kq (l:List Crs):Bool:=decide ((lst l).length<l.length)
def J1 (c:Cat):Int:=if c.prg.all Vr=true then(if Hf c=true then(if Vf c=true then(if Kq c.crs=true then 112 else 0) else 110) else 111) else 1
def Rc:Cat:=⟨[],[],[],[],[],[],[]⟩
def Qj (c:Cat):Cat:=if J1 c=0 then Vv c else Rc
end Go.Proofs.YtmlhghddfobmmaaGreatDoor
namespace Go.Proofs.YtmlhghddfobmmaaGreatDoor
set_option linter.unusedSimpArgs false
set_option linter.unusedVariables false
open Go Go.Ab
set_option maxRecDepth 100000
set_option maxHeartbeats 0
def chE (e:Int):List PanicEntry:=[{v:=.iface 182 (.agg #[Value.int .i64 e]),recovered:=false}]
theorem Vp (b:Bool)(e:Int):Mix Tryz.prog 50 [.bool b,di e] b [] (chE e):=by
 refine U9 hT (T:=tab) (N:=9) (rs:=[]) Tryz.func50 rfl rfl rfl Kr rfl ?_
 cases b
 ·(refine gS ?_;intros)
  refine Sq.alt (Awp.condT rfl (Awp.raise hT 3 182 (.agg #[Value.int .i64 e]) rfl rfl rfl Kr ?_))
  (refine gS ?_;intros)
  exact⟨P3.ifc1,Ev.mk ⟨rfl,rfl⟩⟩
 ·(refine gW ?_;intros)
  exact⟨rfl,Tt⟩
theorem Hx {α:Type}[DecidableEq α]:∀{ks qs:List α},qs.Nodup->(∀x,x∈qs->x∈ks)->¬ ks.Nodup->qs.length<ks.length
 |[],_,_,_,h=>absurd List.nodup_nil h
 | y :: r,qs,hq,hs,h=>by
   by_cases hy:y∈r
   .have:=hq.length_le_of_subset (l₂:=r) fun x hx=>by
     rcases Qho.1 (hs x hx) with rfl|h'
     .exact hy
     .exact h'
    rw[Qhs]
    omega
   .have hr:¬ r.Nodup:=fun h'=>h (List.nodup_cons.2 ⟨hy,h'⟩)
    have h1:=Hx (qs:=qs.erase y) (hq.erase y) (fun x hx=>by
     obtain⟨h2,h3⟩:=hq.mem_erase_iff.1 hx
     rcases Qho.1 (hs x h3) with rfl|h'
     .exact absurd rfl h2
     .exact h') hr
    have h2:qs.length<=(qs.erase y).length+1:=by
     rw[List.length_erase]
     split<;>omega
    rw[Qhs]
    omega
def V8 (ks:List (List Int))(k:Nat)(key:List Int):Nat:=(ks.take k).count key
theorem Km (ks:List (List Int))(k:Nat)(key:List Int):V8 ks k key<=k:=by
 unfold V8
 have:=List.count_le_length (a:=key) (l:=ks.take k)
 rw[Qhr]at this
 omega
theorem Kn {ks:List (List Int)}{k:Nat}{key:List Int}(h:Jc ks k key=false):V8 ks k key=0:=List.count_eq_zero.2 (of_decide_eq_false h)
theorem Ko {ks:List (List Int)}{k:Nat}(hk:k<ks.length)(key:List Int)(n:Int)(hn:n=(V8 ks k (ks.getD k default):Int)+1):(bif decide (key=ks.getD k default) then dV n else dV (V8 ks k key))=dV (V8 ks (k+1) key):=by
 have e:V8 ks (k+1) key=V8 ks k key+(if ks.getD k default=key then 1 else 0):=by
  unfold V8
  rw[Js hk,List.count_append,List.count_singleton]
  congr 1
  by_cases h:ks.getD k default=key
  .rw[if_pos h,if_pos (by simpa using h)]
  .rw[if_neg h,if_neg (by simpa using h)]
 rw[e]
 by_cases h:key=ks.getD k default
 .rw[Qh8 h,cond_true,if_pos h.symm,hn,<-h]
  rfl
 .rw[Qh0 h,cond_false,if_neg (fun e=>h e.symm)]
  rfl
theorem Qg6 (l:List Crs)(hl:l.length<=9223372036854775807)(f:FuncId)(kf:Crs->ByteArray)(hf:∀x∈l,Pure Tryz.prog f [.agg (Q6 x)] [.str (kf x)]):Mix Tryz.prog 51 [J2 l,.fn (.func f) [] []] (decide (l.map kf).Nodup) [] (chE 111):=by
 obtain⟨ks,hks⟩:∃ks:List (List Int),ks=l.map fun x=>Jf (kf x):=⟨_,rfl⟩
 have hkl:ks.length=l.length:=by rw[hks,Qhb]
 have hkn:(l.map kf).Nodup↔ks.Nodup:=by
  have e:ks=(l.map kf).map Jf:=by rw[hks,List.map_map];rfl
  rw[e]
  exact⟨Gy (fun a b=>N4),fun h=>List.Pairwise.of_map Jf (fun a b h e=>h (e▸rfl)) h⟩
 have hkg:∀k,k<l.length->ks.getD k default=(fun x=>Jf (kf x)) (l.getD k default):=fun k hk=>by
  rw[hks]
  simp only[Qha,Qhe,Qgy hk,Option.map_some,Qi3]
 have hfit:∀k∈ks,Ksh.str.fits k:=fun k hk=>by
  rw[hks]at hk
  obtain⟨x,_,rfl⟩:=Qhw.1 hk
  exact Rb _
 have kh:Kp _:=⟨hks⟩
 have kn:Kp _:=⟨hkn⟩
 clear hks hkn
 refine U9 hT (T:=tab) (N:=27) (rs:=[]) Tryz.func51 rfl rfl rfl Kr rfl ?_
 (refine gW ?_;intros)
 refine Q7 hT (S:=Nat) (fun k=>([(0,.d (J2 l)),(1,.d (.fn (.func f) [] [])),(4,.mp (.loc 0)),(8,.d (J2 l)),(9,dV l.length),(10,dV k)],⟨[some (.map Ksh.str (Jc ks k) fun key=>dV (V8 ks k key))],[]⟩)) (fun k=>k<=l.length) (fun k=>l.length-k) 0 ?_ ?_ ?_
 .repeat' (first|exact Tt|exact rfl|exact Qgx _|refine And.intro ?_ ?_)
  all_goals first
   |(intro key hf;exact⟨by simp[Jc],fun h=>(by cases h)⟩)
 .exact Qh3 _
 .intro k hk
  dsimp only at hk⊢
  by_cases hk2:k<l.length
  .have hF:=hf _ (Qe hk2)
   have hz:=@Kn ks k (Jf (kf (l.getD k default)))
   have hc:=Km ks k (Jf (kf (l.getD k default)))
   have kg:Kp _:=⟨hkg k hk2⟩
   clear hkg hf hfit
   (refine gW ?_;intros)
   refine hF.call ?_
   have hin:In .i64 ((V8 ks k (Jf (kf (l.getD k default))):Int)+1):=Zz.2 Om
   repeat' (first|with_reducible refine Sq.go ?_|((with_reducible refine Ev.mk ?_);conv=>whnf)|with_reducible refine Dr.mk ⟨Kr,Kr⟩ ?_|with_reducible refine obG ?_|with_reducible refine Ob.mk ?_ ?_|(with_reducible first|refine brT fun h=>?_|refine brF fun h=>?_|refine Br.mk (fun h=>?_) fun h=>?_)<;>(try simp only[bsl,Qhm,bne_iff_ne,bs2]at h)<;>(try contradiction)<;>try (exfalso;omega))
   .intro h0
    simp only[hz h0]
    with_unfolding_all exact rfl
   refine⟨k+1,by show k+1<=l.length;omega,by show l.length-(k+1)<l.length-k;omega,?_⟩
   repeat' (first|exact Tt|exact rfl|exact Qgx _|refine And.intro ?_ ?_)
   all_goals first
    | (intro key hf
       have e1:=Hw (show k<ks.length by omega) key
       have e2:=fun n hv=>Ko (show k<ks.length by omega) key n hv
       rw[kg.h]at e1 e2
       exact⟨e1,fun _=>⟨e2 _ rfl,rfl⟩⟩)
  .have hall:∀key,Jc ks k key=decide (key∈ks):=fun key=>by rw[Jc,Qhn Om]
   have hsub:∀qs:List (List Int),(∀key,key∈qs->Ksh.str.fits key/\Jc ks k key=true)->∀x,x∈qs->x∈ks:=fun qs h2 key h=>by
    have:=(h2 key h).2
    rw[hall]at this
    exact Qhd this
   by_cases hn:ks.Nodup
   .have hb:decide (l.map kf).Nodup=true:=Qh8 (kn.h.2 hn)
    rw[hb]
    (refine gW ?_;intros)
    refine Y2 hT rfl rfl rfl rfl fun qs h1 h2 h3=>?_
    have hlen:qs.length=l.length:=by
     rw[<-hkl]
     exact U7 h1 hn fun key=>⟨hsub qs h2 key,fun h=>h3 key (hfit key h) (by rw[hall];exact Qh8 h)⟩
    clear hall hkg hfit hf h1 h2 h3 hsub
    (refine gW ?_;intros)
    refine((Vp _ 111).1 (by rw[hlen];simp)).call ?_
    (refine gW ?_;intros)
    exact⟨rfl,Tt⟩
   .have hb:decide (l.map kf).Nodup=false:=Qh0 fun h=>hn (kn.h.1 h)
    rw[hb]
    (refine gS ?_;intros)
    refine Sq.go ?_
    (refine gS ?_;intros)
    refine Sq.alt (Awp.pan hT 5 rfl rfl rfl Kr ?_)
    (refine gS ?_;intros)
    refine Y2 hT rfl rfl rfl rfl fun qs h1 h2 h3=>?_
    have hlen:qs.length<l.length:=by
     rw[<-hkl]
     exact Hx h1 (hsub qs h2) hn
    clear hall hkg hfit hf h1 h2 h3 hsub
    (refine gS ?_;intros)
    refine Pan.vc ((Vp _ 111).2 ?_) ⟨.d,.d,Tt⟩ (Ev.mk ⟨rfl,rfl⟩)
    exact Qh0 Om
theorem Qg5 (l:List Crs)(hl:l.length<=9223372036854775807)(f:FuncId)(kf:Crs->Int)(hf:∀x∈l,Pure Tryz.prog f [.agg (Q6 x)] [di (kf x)]):Mix Tryz.prog 53 [J2 l,.fn (.func f) [] []] (decide (l.map kf).Nodup) [] (chE 111):=by
 obtain⟨ks,hks⟩:∃ks:List (List Int),ks=l.map fun x=>[kf x]:=⟨_,rfl⟩
 have hkl:ks.length=l.length:=by rw[hks,Qhb]
 have hkn:(l.map kf).Nodup↔ks.Nodup:=by
  have e:ks=(l.map kf).map (fun n:Int=>[n]):=by rw[hks,List.map_map];rfl
  rw[e]
  exact⟨Gy (fun a b h=>by injection h),fun h=>List.Pairwise.of_map (fun n:Int=>[n]) (fun a b h e=>h (e▸rfl)) h⟩
 have hkg:∀k,k<l.length->ks.getD k default=(fun x=>[kf x]) (l.getD k default):=fun k hk=>by
  rw[hks]
  simp only[Qha,Qhe,Qgy hk,Option.map_some,Qi3]
 have hfit:∀k∈ks,(Ksh.one .i64).fits k:=fun k hk=>by
  rw[hks]at hk
  obtain⟨x,_,rfl⟩:=Qhw.1 hk
  exact rfl
 have kh:Kp _:=⟨hks⟩
 have kn:Kp _:=⟨hkn⟩
 clear hks hkn
 refine U9 hT (T:=tab) (N:=27) (rs:=[]) Tryz.func53 rfl rfl rfl Kr rfl ?_
 (refine gW ?_;intros)
 refine Q7 hT (S:=Nat) (fun k=>([(0,.d (J2 l)),(1,.d (.fn (.func f) [] [])),(4,.mp (.loc 0)),(8,.d (J2 l)),(9,dV l.length),(10,dV k)],⟨[some (.map (Ksh.one .i64) (Jc ks k) fun key=>dV (V8 ks k key))],[]⟩)) (fun k=>k<=l.length) (fun k=>l.length-k) 0 ?_ ?_ ?_
 .repeat' (first|exact Tt|exact rfl|exact Qgx _|refine And.intro ?_ ?_)
  all_goals first
   |(intro key hf;exact⟨by simp[Jc],fun h=>(by cases h)⟩)
 .exact Qh3 _
 .intro k hk
  dsimp only at hk⊢
  by_cases hk2:k<l.length
  .have hF:=hf _ (Qe hk2)
   have hz:=@Kn ks k ([kf (l.getD k default)])
   have hc:=Km ks k ([kf (l.getD k default)])
   have kg:Kp _:=⟨hkg k hk2⟩
   clear hkg hf hfit
   (refine gW ?_;intros)
   refine hF.call ?_
   have hin:In .i64 ((V8 ks k ([kf (l.getD k default)]):Int)+1):=Zz.2 Om
   repeat' (first|with_reducible refine Sq.go ?_|((with_reducible refine Ev.mk ?_);conv=>whnf)|with_reducible refine Dr.mk ⟨Kr,Kr⟩ ?_|with_reducible refine obG ?_|with_reducible refine Ob.mk ?_ ?_|(with_reducible first|refine brT fun h=>?_|refine brF fun h=>?_|refine Br.mk (fun h=>?_) fun h=>?_)<;>(try simp only[bsl,Qhm,bne_iff_ne,bs2]at h)<;>(try contradiction)<;>try (exfalso;omega))
   .intro h0
    simp only[hz h0]
    with_unfolding_all exact rfl
   refine⟨k+1,by show k+1<=l.length;omega,by show l.length-(k+1)<l.length-k;omega,?_⟩
   repeat' (first|exact Tt|exact rfl|exact Qgx _|refine And.intro ?_ ?_)
   all_goals first
    | (intro key hf
       have e1:=Hw (show k<ks.length by omega) key
       have e2:=fun n hv=>Ko (show k<ks.length by omega) key n hv
       rw[kg.h]at e1 e2
       exact⟨e1,fun _=>⟨e2 _ rfl,rfl⟩⟩)
  .have hall:∀key,Jc ks k key=decide (key∈ks):=fun key=>by rw[Jc,Qhn Om]
   have hsub:∀qs:List (List Int),(∀key,key∈qs->(Ksh.one .i64).fits key/\Jc ks k key=true)->∀x,x∈qs->x∈ks:=fun qs h2 key h=>by
    have:=(h2 key h).2
    rw[hall]at this
    exact Qhd this
   by_cases hn:ks.Nodup
   .have hb:decide (l.map kf).Nodup=true:=Qh8 (kn.h.2 hn)
    rw[hb]
    (refine gW ?_;intros)
    refine Y2 hT rfl rfl rfl rfl fun qs h1 h2 h3=>?_
    have hlen:qs.length=l.length:=by
     rw[<-hkl]
     exact U7 h1 hn fun key=>⟨hsub qs h2 key,fun h=>h3 key (hfit key h) (by rw[hall];exact Qh8 h)⟩
    clear hall hkg hfit hf h1 h2 h3 hsub
    (refine gW ?_;intros)
    refine((Vp _ 111).1 (by rw[hlen];simp)).call ?_
    (refine gW ?_;intros)
    exact⟨rfl,Tt⟩
   .have hb:decide (l.map kf).Nodup=false:=Qh0 fun h=>hn (kn.h.1 h)
    rw[hb]
    (refine gS ?_;intros)
    refine Sq.go ?_
    (refine gS ?_;intros)
    refine Sq.alt (Awp.pan hT 5 rfl rfl rfl Kr ?_)
    (refine gS ?_;intros)
    refine Y2 hT rfl rfl rfl rfl fun qs h1 h2 h3=>?_
    have hlen:qs.length<l.length:=by
     rw[<-hkl]
     exact Hx h1 (hsub qs h2) hn
    clear hall hkg hfit hf h1 h2 h3 hsub
    (refine gS ?_;intros)
    refine Pan.vc ((Vp _ 111).2 ?_) ⟨.d,.d,Tt⟩ (Ev.mk ⟨rfl,rfl⟩)
    exact Qh0 Om
theorem Qg9 (l:List Prg)(hl:l.length<=9223372036854775807)(f:FuncId)(kf:Prg->ByteArray)(hf:∀x∈l,Pure Tryz.prog f [.agg (Q9 x)] [.str (kf x)]):Mix Tryz.prog 55 [Qw l,.fn (.func f) [] []] (decide (l.map kf).Nodup) [] (chE 111):=by
 obtain⟨ks,hks⟩:∃ks:List (List Int),ks=l.map fun x=>Jf (kf x):=⟨_,rfl⟩
 have hkl:ks.length=l.length:=by rw[hks,Qhb]
 have hkn:(l.map kf).Nodup↔ks.Nodup:=by
  have e:ks=(l.map kf).map Jf:=by rw[hks,List.map_map];rfl
  rw[e]
  exact⟨Gy (fun a b=>N4),fun h=>List.Pairwise.of_map Jf (fun a b h e=>h (e▸rfl)) h⟩
 have hkg:∀k,k<l.length->ks.getD k default=(fun x=>Jf (kf x)) (l.getD k default):=fun k hk=>by
  rw[hks]
  simp only[Qha,Qhe,Qgy hk,Option.map_some,Qi3]
 have hfit:∀k∈ks,Ksh.str.fits k:=fun k hk=>by
  rw[hks]at hk
  obtain⟨x,_,rfl⟩:=Qhw.1 hk
  exact Rb _
 have kh:Kp _:=⟨hks⟩
 have kn:Kp _:=⟨hkn⟩
 clear hks hkn
 refine U9 hT (T:=tab) (N:=27) (rs:=[]) Tryz.func55 rfl rfl rfl Kr rfl ?_
 (refine gW ?_;intros)
 refine Q7 hT (S:=Nat) (fun k=>([(0,.d (Qw l)),(1,.d (.fn (.func f) [] [])),(4,.mp (.loc 0)),(8,.d (Qw l)),(9,dV l.length),(10,dV k)],⟨[some (.map Ksh.str (Jc ks k) fun key=>dV (V8 ks k key))],[]⟩)) (fun k=>k<=l.length) (fun k=>l.length-k) 0 ?_ ?_ ?_
 .repeat' (first|exact Tt|exact rfl|exact Qgx _|refine And.intro ?_ ?_)
  all_goals first
   |(intro key hf;exact⟨by simp[Jc],fun h=>(by cases h)⟩)
 .exact Qh3 _
 .intro k hk
  dsimp only at hk⊢
  by_cases hk2:k<l.length
  .have hF:=hf _ (Qe hk2)
   have hz:=@Kn ks k (Jf (kf (l.getD k default)))
   have hc:=Km ks k (Jf (kf (l.getD k default)))
   have kg:Kp _:=⟨hkg k hk2⟩
   clear hkg hf hfit
   (refine gW ?_;intros)
   refine hF.call ?_
   have hin:In .i64 ((V8 ks k (Jf (kf (l.getD k default))):Int)+1):=Zz.2 Om
   repeat' (first|with_reducible refine Sq.go ?_|((with_reducible refine Ev.mk ?_);conv=>whnf)|with_reducible refine Dr.mk ⟨Kr,Kr⟩ ?_|with_reducible refine obG ?_|with_reducible refine Ob.mk ?_ ?_|(with_reducible first|refine brT fun h=>?_|refine brF fun h=>?_|refine Br.mk (fun h=>?_) fun h=>?_)<;>(try simp only[bsl,Qhm,bne_iff_ne,bs2]at h)<;>(try contradiction)<;>try (exfalso;omega))
   .intro h0
    simp only[hz h0]
    with_unfolding_all exact rfl
   refine⟨k+1,by show k+1<=l.length;omega,by show l.length-(k+1)<l.length-k;omega,?_⟩
   repeat' (first|exact Tt|exact rfl|exact Qgx _|refine And.intro ?_ ?_)
   all_goals first
    | (intro key hf
       have e1:=Hw (show k<ks.length by omega) key
       have e2:=fun n hv=>Ko (show k<ks.length by omega) key n hv
       rw[kg.h]at e1 e2
       exact⟨e1,fun _=>⟨e2 _ rfl,rfl⟩⟩)
  .have hall:∀key,Jc ks k key=decide (key∈ks):=fun key=>by rw[Jc,Qhn Om]
   have hsub:∀qs:List (List Int),(∀key,key∈qs->Ksh.str.fits key/\Jc ks k key=true)->∀x,x∈qs->x∈ks:=fun qs h2 key h=>by
    have:=(h2 key h).2
    rw[hall]at this
    exact Qhd this
   by_cases hn:ks.Nodup
   .have hb:decide (l.map kf).Nodup=true:=Qh8 (kn.h.2 hn)
    rw[hb]
    (refine gW ?_;intros)
    refine Y2 hT rfl rfl rfl rfl fun qs h1 h2 h3=>?_
    have hlen:qs.length=l.length:=by
     rw[<-hkl]
     exact U7 h1 hn fun key=>⟨hsub qs h2 key,fun h=>h3 key (hfit key h) (by rw[hall];exact Qh8 h)⟩
    clear hall hkg hfit hf h1 h2 h3 hsub
    (refine gW ?_;intros)
    refine((Vp _ 111).1 (by rw[hlen];simp)).call ?_
    (refine gW ?_;intros)
    exact⟨rfl,Tt⟩
   .have hb:decide (l.map kf).Nodup=false:=Qh0 fun h=>hn (kn.h.1 h)
    rw[hb]
    (refine gS ?_;intros)
    refine Sq.go ?_
    (refine gS ?_;intros)
    refine Sq.alt (Awp.pan hT 5 rfl rfl rfl Kr ?_)
    (refine gS ?_;intros)
    refine Y2 hT rfl rfl rfl rfl fun qs h1 h2 h3=>?_
    have hlen:qs.length<l.length:=by
     rw[<-hkl]
     exact Hx h1 (hsub qs h2) hn
    clear hall hkg hfit hf h1 h2 h3 hsub
    (refine gS ?_;intros)
    refine Pan.vc ((Vp _ 111).2 ?_) ⟨.d,.d,Tt⟩ (Ev.mk ⟨rfl,rfl⟩)
    exact Qh0 Om
theorem Qg8 (l:List Prg)(hl:l.length<=9223372036854775807)(f:FuncId)(kf:Prg->Int)(hf:∀x∈l,Pure Tryz.prog f [.agg (Q9 x)] [di (kf x)]):Mix Tryz.prog 57 [Qw l,.fn (.func f) [] []] (decide (l.map kf).Nodup) [] (chE 111):=by
 obtain⟨ks,hks⟩:∃ks:List (List Int),ks=l.map fun x=>[kf x]:=⟨_,rfl⟩
 have hkl:ks.length=l.length:=by rw[hks,Qhb]
 have hkn:(l.map kf).Nodup↔ks.Nodup:=by
  have e:ks=(l.map kf).map (fun n:Int=>[n]):=by rw[hks,List.map_map];rfl
  rw[e]
  exact⟨Gy (fun a b h=>by injection h),fun h=>List.Pairwise.of_map (fun n:Int=>[n]) (fun a b h e=>h (e▸rfl)) h⟩
 have hkg:∀k,k<l.length->ks.getD k default=(fun x=>[kf x]) (l.getD k default):=fun k hk=>by
  rw[hks]
  simp only[Qha,Qhe,Qgy hk,Option.map_some,Qi3]
 have hfit:∀k∈ks,(Ksh.one .i64).fits k:=fun k hk=>by
  rw[hks]at hk
  obtain⟨x,_,rfl⟩:=Qhw.1 hk
  exact rfl
 have kh:Kp _:=⟨hks⟩
 have kn:Kp _:=⟨hkn⟩
 clear hks hkn
 refine U9 hT (T:=tab) (N:=27) (rs:=[]) Tryz.func57 rfl rfl rfl Kr rfl ?_
 (refine gW ?_;intros)
 refine Q7 hT (S:=Nat) (fun k=>([(0,.d (Qw l)),(1,.d (.fn (.func f) [] [])),(4,.mp (.loc 0)),(8,.d (Qw l)),(9,dV l.length),(10,dV k)],⟨[some (.map (Ksh.one .i64) (Jc ks k) fun key=>dV (V8 ks k key))],[]⟩)) (fun k=>k<=l.length) (fun k=>l.length-k) 0 ?_ ?_ ?_
 .repeat' (first|exact Tt|exact rfl|exact Qgx _|refine And.intro ?_ ?_)
  all_goals first
   |(intro key hf;exact⟨by simp[Jc],fun h=>(by cases h)⟩)
 .exact Qh3 _
 .intro k hk
  dsimp only at hk⊢
  by_cases hk2:k<l.length
  .have hF:=hf _ (Qe hk2)
   have hz:=@Kn ks k ([kf (l.getD k default)])
   have hc:=Km ks k ([kf (l.getD k default)])
   have kg:Kp _:=⟨hkg k hk2⟩
   clear hkg hf hfit
   (refine gW ?_;intros)
   refine hF.call ?_
   have hin:In .i64 ((V8 ks k ([kf (l.getD k default)]):Int)+1):=Zz.2 Om
   repeat' (first|with_reducible refine Sq.go ?_|((with_reducible refine Ev.mk ?_);conv=>whnf)|with_reducible refine Dr.mk ⟨Kr,Kr⟩ ?_|with_reducible refine obG ?_|with_reducible refine Ob.mk ?_ ?_|(with_reducible first|refine brT fun h=>?_|refine brF fun h=>?_|refine Br.mk (fun h=>?_) fun h=>?_)<;>(try simp only[bsl,Qhm,bne_iff_ne,bs2]at h)<;>(try contradiction)<;>try (exfalso;omega))
   .intro h0
    simp only[hz h0]
    with_unfolding_all exact rfl
   refine⟨k+1,by show k+1<=l.length;omega,by show l.length-(k+1)<l.length-k;omega,?_⟩
   repeat' (first|exact Tt|exact rfl|exact Qgx _|refine And.intro ?_ ?_)
   all_goals first
    | (intro key hf
       have e1:=Hw (show k<ks.length by omega) key
       have e2:=fun n hv=>Ko (show k<ks.length by omega) key n hv
       rw[kg.h]at e1 e2
       exact⟨e1,fun _=>⟨e2 _ rfl,rfl⟩⟩)
  .have hall:∀key,Jc ks k key=decide (key∈ks):=fun key=>by rw[Jc,Qhn Om]
   have hsub:∀qs:List (List Int),(∀key,key∈qs->(Ksh.one .i64).fits key/\Jc ks k key=true)->∀x,x∈qs->x∈ks:=fun qs h2 key h=>by
    have:=(h2 key h).2
    rw[hall]at this
    exact Qhd this
   by_cases hn:ks.Nodup
   .have hb:decide (l.map kf).Nodup=true:=Qh8 (kn.h.2 hn)
    rw[hb]
    (refine gW ?_;intros)
    refine Y2 hT rfl rfl rfl rfl fun qs h1 h2 h3=>?_
    have hlen:qs.length=l.length:=by
     rw[<-hkl]
     exact U7 h1 hn fun key=>⟨hsub qs h2 key,fun h=>h3 key (hfit key h) (by rw[hall];exact Qh8 h)⟩
    clear hall hkg hfit hf h1 h2 h3 hsub
    (refine gW ?_;intros)
    refine((Vp _ 111).1 (by rw[hlen];simp)).call ?_
    (refine gW ?_;intros)
    exact⟨rfl,Tt⟩
   .have hb:decide (l.map kf).Nodup=false:=Qh0 fun h=>hn (kn.h.1 h)
    rw[hb]
    (refine gS ?_;intros)
    refine Sq.go ?_
    (refine gS ?_;intros)
    refine Sq.alt (Awp.pan hT 5 rfl rfl rfl Kr ?_)
    (refine gS ?_;intros)
    refine Y2 hT rfl rfl rfl rfl fun qs h1 h2 h3=>?_
    have hlen:qs.length<l.length:=by
     rw[<-hkl]
     exact Hx h1 (hsub qs h2) hn
    clear hall hkg hfit hf h1 h2 h3 hsub
    (refine gS ?_;intros)
    refine Pan.vc ((Vp _ 111).2 ?_) ⟨.d,.d,Tt⟩ (Ev.mk ⟨rfl,rfl⟩)
    exact Qh0 Om
theorem Q4q (l:List Cls)(hl:l.length<=9223372036854775807)(f:FuncId)(kf:Cls->ByteArray)(hf:∀x∈l,Pure Tryz.prog f [.agg (Wz x)] [.str (kf x)]):Mix Tryz.prog 61 [Qk l,.fn (.func f) [] []] (decide (l.map kf).Nodup) [] (chE 111):=by
 obtain⟨ks,hks⟩:∃ks:List (List Int),ks=l.map fun x=>Jf (kf x):=⟨_,rfl⟩
 have hkl:ks.length=l.length:=by rw[hks,Qhb]
 have hkn:(l.map kf).Nodup↔ks.Nodup:=by
  have e:ks=(l.map kf).map Jf:=by rw[hks,List.map_map];rfl
  rw[e]
  exact⟨Gy (fun a b=>N4),fun h=>List.Pairwise.of_map Jf (fun a b h e=>h (e▸rfl)) h⟩
 have hkg:∀k,k<l.length->ks.getD k default=(fun x=>Jf (kf x)) (l.getD k default):=fun k hk=>by
  rw[hks]
  simp only[Qha,Qhe,Qgy hk,Option.map_some,Qi3]
 have hfit:∀k∈ks,Ksh.str.fits k:=fun k hk=>by
  rw[hks]at hk
  obtain⟨x,_,rfl⟩:=Qhw.1 hk
  exact Rb _
 have kh:Kp _:=⟨hks⟩
 have kn:Kp _:=⟨hkn⟩
 clear hks hkn
 refine U9 hT (T:=tab) (N:=27) (rs:=[]) Tryz.func61 rfl rfl rfl Kr rfl ?_
 (refine gW ?_;intros)
 refine Q7 hT (S:=Nat) (fun k=>([(0,.d (Qk l)),(1,.d (.fn (.func f) [] [])),(4,.mp (.loc 0)),(8,.d (Qk l)),(9,dV l.length),(10,dV k)],⟨[some (.map Ksh.str (Jc ks k) fun key=>dV (V8 ks k key))],[]⟩)) (fun k=>k<=l.length) (fun k=>l.length-k) 0 ?_ ?_ ?_
 .repeat' (first|exact Tt|exact rfl|exact Qgx _|refine And.intro ?_ ?_)
  all_goals first
   |(intro key hf;exact⟨by simp[Jc],fun h=>(by cases h)⟩)
 .exact Qh3 _
 .intro k hk
  dsimp only at hk⊢
  by_cases hk2:k<l.length
  .have hF:=hf _ (Qe hk2)
   have hz:=@Kn ks k (Jf (kf (l.getD k default)))
   have hc:=Km ks k (Jf (kf (l.getD k default)))
   have kg:Kp _:=⟨hkg k hk2⟩
   clear hkg hf hfit
   (refine gW ?_;intros)
   refine hF.call ?_
   have hin:In .i64 ((V8 ks k (Jf (kf (l.getD k default))):Int)+1):=Zz.2 Om
   repeat' (first|with_reducible refine Sq.go ?_|((with_reducible refine Ev.mk ?_);conv=>whnf)|with_reducible refine Dr.mk ⟨Kr,Kr⟩ ?_|with_reducible refine obG ?_|with_reducible refine Ob.mk ?_ ?_|(with_reducible first|refine brT fun h=>?_|refine brF fun h=>?_|refine Br.mk (fun h=>?_) fun h=>?_)<;>(try simp only[bsl,Qhm,bne_iff_ne,bs2]at h)<;>(try contradiction)<;>try (exfalso;omega))
   .intro h0
    simp only[hz h0]
    with_unfolding_all exact rfl
   refine⟨k+1,by show k+1<=l.length;omega,by show l.length-(k+1)<l.length-k;omega,?_⟩
   repeat' (first|exact Tt|exact rfl|exact Qgx _|refine And.intro ?_ ?_)
   all_goals first
    | (intro key hf
       have e1:=Hw (show k<ks.length by omega) key
       have e2:=fun n hv=>Ko (show k<ks.length by omega) key n hv
       rw[kg.h]at e1 e2
       exact⟨e1,fun _=>⟨e2 _ rfl,rfl⟩⟩)
  .have hall:∀key,Jc ks k key=decide (key∈ks):=fun key=>by rw[Jc,Qhn Om]
   have hsub:∀qs:List (List Int),(∀key,key∈qs->Ksh.str.fits key/\Jc ks k key=true)->∀x,x∈qs->x∈ks:=fun qs h2 key h=>by
    have:=(h2 key h).2
    rw[hall]at this
    exact Qhd this
   by_cases hn:ks.Nodup
   .have hb:decide (l.map kf).Nodup=true:=Qh8 (kn.h.2 hn)
    rw[hb]
    (refine gW ?_;intros)
    refine Y2 hT rfl rfl rfl rfl fun qs h1 h2 h3=>?_
    have hlen:qs.length=l.length:=by
     rw[<-hkl]
     exact U7 h1 hn fun key=>⟨hsub qs h2 key,fun h=>h3 key (hfit key h) (by rw[hall];exact Qh8 h)⟩
    clear hall hkg hfit hf h1 h2 h3 hsub
    (refine gW ?_;intros)
    refine((Vp _ 111).1 (by rw[hlen];simp)).call ?_
    (refine gW ?_;intros)
    exact⟨rfl,Tt⟩
   .have hb:decide (l.map kf).Nodup=false:=Qh0 fun h=>hn (kn.h.1 h)
    rw[hb]
    (refine gS ?_;intros)
    refine Sq.go ?_
    (refine gS ?_;intros)
    refine Sq.alt (Awp.pan hT 5 rfl rfl rfl Kr ?_)
    (refine gS ?_;intros)
    refine Y2 hT rfl rfl rfl rfl fun qs h1 h2 h3=>?_
    have hlen:qs.length<l.length:=by
     rw[<-hkl]
     exact Hx h1 (hsub qs h2) hn
    clear hall hkg hfit hf h1 h2 h3 hsub
    (refine gS ?_;intros)
    refine Pan.vc ((Vp _ 111).2 ?_) ⟨.d,.d,Tt⟩ (Ev.mk ⟨rfl,rfl⟩)
    exact Qh0 Om
theorem Qg7 (l:List Fee)(hl:l.length<=9223372036854775807)(f:FuncId)(kf:Fee->ByteArray)(hf:∀x∈l,Pure Tryz.prog f [.agg (U0 x)] [.str (kf x)]):Mix Tryz.prog 63 [Jk l,.fn (.func f) [] []] (decide (l.map kf).Nodup) [] (chE 111):=by
 obtain⟨ks,hks⟩:∃ks:List (List Int),ks=l.map fun x=>Jf (kf x):=⟨_,rfl⟩
 have hkl:ks.length=l.length:=by rw[hks,Qhb]
 have hkn:(l.map kf).Nodup↔ks.Nodup:=by
  have e:ks=(l.map kf).map Jf:=by rw[hks,List.map_map];rfl
  rw[e]
  exact⟨Gy (fun a b=>N4),fun h=>List.Pairwise.of_map Jf (fun a b h e=>h (e▸rfl)) h⟩
 have hkg:∀k,k<l.length->ks.getD k default=(fun x=>Jf (kf x)) (l.getD k default):=fun k hk=>by
  rw[hks]
  simp only[Qha,Qhe,Qgy hk,Option.map_some,Qi3]
 have hfit:∀k∈ks,Ksh.str.fits k:=fun k hk=>by
  rw[hks]at hk
  obtain⟨x,_,rfl⟩:=Qhw.1 hk
  exact Rb _
 have kh:Kp _:=⟨hks⟩
 have kn:Kp _:=⟨hkn⟩
 clear hks hkn
 refine U9 hT (T:=tab) (N:=27) (rs:=[]) Tryz.func63 rfl rfl rfl Kr rfl ?_
 (refine gW ?_;intros)
 refine Q7 hT (S:=Nat) (fun k=>([(0,.d (Jk l)),(1,.d (.fn (.func f) [] [])),(4,.mp (.loc 0)),(8,.d (Jk l)),(9,dV l.length),(10,dV k)],⟨[some (.map Ksh.str (Jc ks k) fun key=>dV (V8 ks k key))],[]⟩)) (fun k=>k<=l.length) (fun k=>l.length-k) 0 ?_ ?_ ?_
 .repeat' (first|exact Tt|exact rfl|exact Qgx _|refine And.intro ?_ ?_)
  all_goals first
   |(intro key hf;exact⟨by simp[Jc],fun h=>(by cases h)⟩)
 .exact Qh3 _
 .intro k hk
  dsimp only at hk⊢
  by_cases hk2:k<l.length
  .have hF:=hf _ (Qe hk2)
   have hz:=@Kn ks k (Jf (kf (l.getD k default)))
   have hc:=Km ks k (Jf (kf (l.getD k default)))
   have kg:Kp _:=⟨hkg k hk2⟩
   clear hkg hf hfit
   (refine gW ?_;intros)
   refine hF.call ?_
   have hin:In .i64 ((V8 ks k (Jf (kf (l.getD k default))):Int)+1):=Zz.2 Om
   repeat' (first|with_reducible refine Sq.go ?_|((with_reducible refine Ev.mk ?_);conv=>whnf)|with_reducible refine Dr.mk ⟨Kr,Kr⟩ ?_|with_reducible refine obG ?_|with_reducible refine Ob.mk ?_ ?_|(with_reducible first|refine brT fun h=>?_|refine brF fun h=>?_|refine Br.mk (fun h=>?_) fun h=>?_)<;>(try simp only[bsl,Qhm,bne_iff_ne,bs2]at h)<;>(try contradiction)<;>try (exfalso;omega))
   .intro h0
    simp only[hz h0]
    with_unfolding_all exact rfl
   refine⟨k+1,by show k+1<=l.length;omega,by show l.length-(k+1)<l.length-k;omega,?_⟩
   repeat' (first|exact Tt|exact rfl|exact Qgx _|refine And.intro ?_ ?_)
   all_goals first
    | (intro key hf
       have e1:=Hw (show k<ks.length by omega) key
       have e2:=fun n hv=>Ko (show k<ks.length by omega) key n hv
       rw[kg.h]at e1 e2
       exact⟨e1,fun _=>⟨e2 _ rfl,rfl⟩⟩)
  .have hall:∀key,Jc ks k key=decide (key∈ks):=fun key=>by rw[Jc,Qhn Om]
   have hsub:∀qs:List (List Int),(∀key,key∈qs->Ksh.str.fits key/\Jc ks k key=true)->∀x,x∈qs->x∈ks:=fun qs h2 key h=>by
    have:=(h2 key h).2
    rw[hall]at this
    exact Qhd this
   by_cases hn:ks.Nodup
   .have hb:decide (l.map kf).Nodup=true:=Qh8 (kn.h.2 hn)
    rw[hb]
    (refine gW ?_;intros)
    refine Y2 hT rfl rfl rfl rfl fun qs h1 h2 h3=>?_
    have hlen:qs.length=l.length:=by
     rw[<-hkl]
     exact U7 h1 hn fun key=>⟨hsub qs h2 key,fun h=>h3 key (hfit key h) (by rw[hall];exact Qh8 h)⟩
    clear hall hkg hfit hf h1 h2 h3 hsub
    (refine gW ?_;intros)
    refine((Vp _ 111).1 (by rw[hlen];simp)).call ?_
    (refine gW ?_;intros)
    exact⟨rfl,Tt⟩
   .have hb:decide (l.map kf).Nodup=false:=Qh0 fun h=>hn (kn.h.1 h)
    rw[hb]
    (refine gS ?_;intros)
    refine Sq.go ?_
    (refine gS ?_;intros)
    refine Sq.alt (Awp.pan hT 5 rfl rfl rfl Kr ?_)
    (refine gS ?_;intros)
    refine Y2 hT rfl rfl rfl rfl fun qs h1 h2 h3=>?_
    have hlen:qs.length<l.length:=by
     rw[<-hkl]
     exact Hx h1 (hsub qs h2) hn
    clear hall hkg hfit hf h1 h2 h3 hsub
    (refine gS ?_;intros)
    refine Pan.vc ((Vp _ 111).2 ?_) ⟨.d,.d,Tt⟩ (Ev.mk ⟨rfl,rfl⟩)
    exact Qh0 Om
theorem Qga (l:List Req)(hl:l.length<=9223372036854775807)(f:FuncId)(kf:Req->ByteArray)(hf:∀x∈l,Pure Tryz.prog f [.agg (Jv x)] [.str (kf x)]):Mix Tryz.prog 59 [Xz l,.fn (.func f) [] []] (decide (l.map kf).Nodup) [] (chE 111):=by
 obtain⟨ks,hks⟩:∃ks:List (List Int),ks=l.map fun x=>Jf (kf x):=⟨_,rfl⟩
 have hkl:ks.length=l.length:=by rw[hks,Qhb]
 have hkn:(l.map kf).Nodup↔ks.Nodup:=by
  have e:ks=(l.map kf).map Jf:=by rw[hks,List.map_map];rfl
  rw[e]
  exact⟨Gy (fun a b=>N4),fun h=>List.Pairwise.of_map Jf (fun a b h e=>h (e▸rfl)) h⟩
 have hkg:∀k,k<l.length->ks.getD k default=(fun x=>Jf (kf x)) (l.getD k default):=fun k hk=>by
  rw[hks]
  simp only[Qha,Qhe,Qgy hk,Option.map_some,Qi3]
 have hfit:∀k∈ks,Ksh.str.fits k:=fun k hk=>by
  rw[hks]at hk
  obtain⟨x,_,rfl⟩:=Qhw.1 hk
  exact Rb _
 have kh:Kp _:=⟨hks⟩
 have kn:Kp _:=⟨hkn⟩
 clear hks hkn
 refine U9 hT (T:=tab) (N:=27) (rs:=[]) Tryz.func59 rfl rfl rfl Kr rfl ?_
 (refine gW ?_;intros)
 refine Q7 hT (S:=Nat) (fun k=>([(0,.d (Xz l)),(1,.d (.fn (.func f) [] [])),(4,.mp (.loc 0)),(8,.d (Xz l)),(9,dV l.length),(10,dV k)],⟨[some (.map Ksh.str (Jc ks k) fun key=>dV (V8 ks k key))],[]⟩)) (fun k=>k<=l.length) (fun k=>l.length-k) 0 ?_ ?_ ?_
 .repeat' (first|exact Tt|exact rfl|exact Qgx _|refine And.intro ?_ ?_)
  all_goals first
   |(intro key hf;exact⟨by simp[Jc],fun h=>(by cases h)⟩)
 .exact Qh3 _
 .intro k hk
  dsimp only at hk⊢
  by_cases hk2:k<l.length
  .have hF:=hf _ (Qe hk2)
   have hz:=@Kn ks k (Jf (kf (l.getD k default)))
   have hc:=Km ks k (Jf (kf (l.getD k default)))
   have kg:Kp _:=⟨hkg k hk2⟩
   clear hkg hf hfit
   (refine gW ?_;intros)
   refine hF.call ?_
   have hin:In .i64 ((V8 ks k (Jf (kf (l.getD k default))):Int)+1):=Zz.2 Om
   repeat' (first|with_reducible refine Sq.go ?_|((with_reducible refine Ev.mk ?_);conv=>whnf)|with_reducible refine Dr.mk ⟨Kr,Kr⟩ ?_|with_reducible refine obG ?_|with_reducible refine Ob.mk ?_ ?_|(with_reducible first|refine brT fun h=>?_|refine brF fun h=>?_|refine Br.mk (fun h=>?_) fun h=>?_)<;>(try simp only[bsl,Qhm,bne_iff_ne,bs2]at h)<;>(try contradiction)<;>try (exfalso;omega))
   .intro h0
    simp only[hz h0]
    with_unfolding_all exact rfl
   refine⟨k+1,by show k+1<=l.length;omega,by show l.length-(k+1)<l.length-k;omega,?_⟩
   repeat' (first|exact Tt|exact rfl|exact Qgx _|refine And.intro ?_ ?_)
   all_goals first
    | (intro key hf
       have e1:=Hw (show k<ks.length by omega) key
       have e2:=fun n hv=>Ko (show k<ks.length by omega) key n hv
       rw[kg.h]at e1 e2
       exact⟨e1,fun _=>⟨e2 _ rfl,rfl⟩⟩)
  .have hall:∀key,Jc ks k key=decide (key∈ks):=fun key=>by rw[Jc,Qhn Om]
   have hsub:∀qs:List (List Int),(∀key,key∈qs->Ksh.str.fits key/\Jc ks k key=true)->∀x,x∈qs->x∈ks:=fun qs h2 key h=>by
    have:=(h2 key h).2
    rw[hall]at this
    exact Qhd this
   by_cases hn:ks.Nodup
   .have hb:decide (l.map kf).Nodup=true:=Qh8 (kn.h.2 hn)
    rw[hb]
    (refine gW ?_;intros)
    refine Y2 hT rfl rfl rfl rfl fun qs h1 h2 h3=>?_
    have hlen:qs.length=l.length:=by
     rw[<-hkl]
     exact U7 h1 hn fun key=>⟨hsub qs h2 key,fun h=>h3 key (hfit key h) (by rw[hall];exact Qh8 h)⟩
    clear hall hkg hfit hf h1 h2 h3 hsub
    (refine gW ?_;intros)
    refine((Vp _ 111).1 (by rw[hlen];simp)).call ?_
    (refine gW ?_;intros)
    exact⟨rfl,Tt⟩
   .have hb:decide (l.map kf).Nodup=false:=Qh0 fun h=>hn (kn.h.1 h)
    rw[hb]
    (refine gS ?_;intros)
    refine Sq.go ?_
    (refine gS ?_;intros)
    refine Sq.alt (Awp.pan hT 5 rfl rfl rfl Kr ?_)
    (refine gS ?_;intros)
    refine Y2 hT rfl rfl rfl rfl fun qs h1 h2 h3=>?_
    have hlen:qs.length<l.length:=by
     rw[<-hkl]
     exact Hx h1 (hsub qs h2) hn
    clear hall hkg hfit hf h1 h2 h3 hsub
    (refine gS ?_;intros)
    refine Pan.vc ((Vp _ 111).2 ?_) ⟨.d,.d,Tt⟩ (Ev.mk ⟨rfl,rfl⟩)
    exact Qh0 Om
end Go.Proofs.YtmlhghddfobmmaaGreatDoor
