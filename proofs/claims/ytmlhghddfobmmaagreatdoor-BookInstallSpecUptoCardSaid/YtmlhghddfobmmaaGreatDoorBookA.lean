import Derived.Test.YtmlhghddfobmmaaGreatDoorRuleD
namespace Go.Proofs.YtmlhghddfobmmaaGreatDoor
set_option linter.unusedSimpArgs false
set_option linter.unusedVariables false
open Go Go.Ab
set_option maxRecDepth 100000
set_option maxHeartbeats 0
theorem Wg {r:Loop}(h1:r.state=.ready)(h2:r.pending=none):after r none=r:=by
 cases r
 simp only at h1 h2
 subst h1;subst h2
 rfl
theorem Mv {P:Program}{b:Nat}{args:List AV}{m:Mem}{K K':AV->Mem->Prop}(h:Zc P b args m K)(hk:∀A m',K A m'->K' A m'):Zc P b args m K' :=
 ⟨fun σ F w Q5 h1 h2=>by
  obtain⟨fn,t,a,c,hy,hr⟩:=h.run σ F w Q5 h1 h2
  exact⟨fn,t,a,c,hy,hr.mono fun _ _ ⟨v,A,m',σ',F',x,y,z⟩=>⟨v,A,m',σ',F',x,hk _ _ y,z⟩⟩⟩
def wfR (r:Q1):Prop:=∀p∈Jm 1 r,In1 p.2
theorem Fk:∀(r:Q1) (d e:Nat),(Jm d r).map Prod.snd=(Jm e r).map Prod.snd:=by
 refine Y4 fun r ih d e=>?_
 have key:∀ks:List Q1,(∀k∈ks,∀d e,(Jm d k).map Prod.snd=(Jm e k).map Prod.snd)->∀d e,(Vt d ks).map Prod.snd=(Vt e ks).map Prod.snd:=by
  intro ks
  induction ks with
  |nil=>intro _ d e;rw[Ub,Ub]
  | cons k ks ihk =>
    intro h d e
    rw[H4,H4,Qim,Qim,h k (by simp) d e,ihk (fun x hx=>h x (by simp[hx])) d e]
 rw[Xq,Xq,Qin,Qin,key r.kids ih (d+1) (e+1)]
theorem Mg {d:Nat}{p:Nat × Q1}:∀{ks:List Q1},p∈Vt d ks↔∃k∈ks,p∈Jm d k
 |[]=>by rw[Ub];simp
 |k::ks=>by rw[H4,Qi7,Mg (ks:=ks)];simp
theorem I4 {r:Q1}(h:wfR r)(d:Nat):∀p∈Jm d r,In1 p.2:=by
 intro p hp
 have h1:p.2∈(Jm d r).map Prod.snd:=List.mem_map_of_mem hp
 rw[Fk r d 1]at h1
 obtain⟨p',h2,h3⟩:=Qhw.1 h1
 rw[<-h3]
 exact h p' h2
theorem Ug {r:Q1}(h:wfR r):In1 r/\∀k∈r.kids,wfR k:=by
 refine⟨h (1,r) (by rw[Xq];simp),fun k hk p hp=>?_⟩
 have h1:p.2∈(Jm 2 k).map Prod.snd:=by rw[Fk k 2 1];exact List.mem_map_of_mem hp
 obtain⟨p',h2,h3⟩:=Qhw.1 h1
 rw[<-h3]
 refine h p' ?_
 rw[Xq]
 exact List.mem_cons_of_mem _ (Mg.2 ⟨k,hk,h2⟩)
def Vg (cont:List (Nat × Q1)->Bool):List (Nat × Q1)->List (Nat × Q1)->List (Nat × Q1)
 |[],q=>q
 |x::r,q=>if cont (q++[x])=true then Vg cont r (q++[x]) else q++[x]
theorem Q4x (cont:List (Nat × Q1)->Bool):∀(a b q:List (Nat × Q1)),cont q=true->Vg cont (a++b) q=if cont (Vg cont a q)=true then Vg cont b (Vg cont a q) else Vg cont a q
 |[],b,q,h=>by rw[List.nil_append,Vg,if_pos h]
 | x :: a,b,q,h=>by
   rw[List.cons_append,Vg,Vg]
   by_cases h1:cont (q++[x])=true
   .rw[if_pos h1,if_pos h1,Q4x cont a b _ h1]
   .rw[if_neg h1,if_neg h1,if_neg h1]
def okP (q:List (Nat × Q1)):Bool:=decide (q.length<=200)&&q.all fun p=>decide (p.1<=16)&&Qs p.2
theorem Qde (r:Q1):Qz Tryz.prog 182 [.d (.agg (Q2 r))] ⟨[],[]⟩
 (Ret (fun _:Unit=>([.fn (.func 218) [] [lp 1,lp 0]],⟨[bX 66 (up (Q2 r)),bX 261 [.fn (.func 217) [] [lp 1]]],[]⟩)) fun _=>True):=by
 refine Zv hT (T:=tab) (N:=6) (rs:=[.tmp 2]) _ _ Tryz.func182 rfl rfl rfl Kr rfl ?_
 (refine gW ?_;intros)
 exact⟨(),Tt,by repeat' (first|exact Tt|exact rfl|exact Qgx _|refine And.intro ?_ ?_),rfl⟩
theorem Qgq (rec:Loop)(r0:Q1)(y:Nat)(cont:List (Nat × Q1)->Bool):∀(r:Q1) (d:Nat) (q:List (Nat × Q1)),wfR r->d<=1000000->cont q=true->(∀q x,x∈Jm d r->cont (q++[x])=true->x.1<=999999) ->
 (∀ q:List (Nat × Q1),cont q=true→∀ x∈Jm d r,Zc Tryz.prog y [.d (.int .i64 x.1),.d (.agg (Q2 x.2))] ⟨[],[some (.box 261 [.fn (.func 217) [] [.ptr (.arg 0) 0 0 0]]),some (.box 66 (up (Q2 r0))),some (.box 38 [.d (.int .i64 (bif okP q then 0 else 120))]),some (.box 3 [.d (.int .i64 q.length)]),some (.loop y (bif okP q then rec else after rec (some .ret)) [(2,.ptr (.arg 2) 0 0 0),(3,.ptr (.arg 3) 0 0 0)])]⟩
  (Ret (fun q:List (Nat × Q1)=>([.d (.bool (cont q))],⟨[],[bX 261 [.fn (.func 217) [] [ap 0]],bX 66 (up (Q2 r0)),bX 38 [dV (bif okP q then 0 else 120)],bX 3 [dV q.length],some (.loop y (bif okP q then rec else after rec (some .ret)) [(2,ap 2),(3,ap 3)])]⟩)) fun q'=>q'=q++[x])) ->
 Qz Tryz.prog 217 [.d (.agg (Q2 r)),dV d,.fn (.yield y) [] [],ap 0] ((fun q:List (Nat × Q1)=>⟨[],[bX 261 [.fn (.func 217) [] [ap 0]],bX 66 (up (Q2 r0)),bX 38 [dV (bif okP q then 0 else 120)],bX 3 [dV q.length],some (.loop y (bif okP q then rec else after rec (some .ret)) [(2,ap 2),(3,ap 3)])]⟩) q)
  (Ret (fun q:List (Nat × Q1)=>([.d (.bool (cont q))],⟨[],[bX 261 [.fn (.func 217) [] [ap 0]],bX 66 (up (Q2 r0)),bX 38 [dV (bif okP q then 0 else 120)],bX 3 [dV q.length],some (.loop y (bif okP q then rec else after rec (some .ret)) [(2,ap 2),(3,ap 3)])]⟩)) fun q'=>q'=Vg cont (Jm d r) q):=by
 refine Y4 fun r ih d q hw hd hgo hb hy=>?_
 obtain⟨hw1,hw2⟩:=Ug hw
 refine Zv hT (T:=tab) (N:=30) (rs:=[.tmp 7]) _ _ Tryz.func217 rfl rfl rfl Kr rfl ?_
 rw[Xq,Vg]
 (refine gW ?_;intros)
 refine(hy q hgo (d,r) (by rw[Xq];simp)).at [.arg 0,.arg 1,.arg 2,.arg 3,.arg 4] rfl ⟨rfl,rfl,rfl,rfl,rfl,Tt⟩ (fun s' hs'=>⟨rfl,?_⟩)
 subst hs'
 cases hc1:cont (q++[(d,r)])
 .rw[if_neg (by simp)]
  (refine gW ?_;intros)
  refine⟨_,rfl,?_,rfl⟩
  dsimp only
  rw[hc1]
  exact lq
 .rw [if_pos rfl]
  have hd2:=hb q (d,r) (by rw[Xq];simp) hc1
  dsimp only at hd2
  have hv:Vg cont (Vt (d+1) r.kids) (q++[(d,r)])=Vg cont (Vt (d+1) (r.kids.drop 0)) (q++[(d,r)]):=rfl
  (refine gW ?_;intros)
  refine Q7 hT (S:=Nat × List (Nat × Q1)) (fun z=>([(1,dV d),(2,.fn (.yield y) [] []),(3,ap 0),(16,.d (J0 r.kids)),(17,dV r.kids.length),(18,dV z.1)],(fun q:List (Nat × Q1)=>⟨[],[bX 261 [.fn (.func 217) [] [ap 0]],bX 66 (up (Q2 r0)),bX 38 [dV (bif okP q then 0 else 120)],bX 3 [dV q.length],some (.loop y (bif okP q then rec else after rec (some .ret)) [(2,ap 2),(3,ap 3)])]⟩) z.2))
   (fun z=>z.1<=r.kids.length/\cont z.2=true/\Vg cont (Vt (d+1) r.kids) (q++[(d,r)])=Vg cont (Vt (d+1) (r.kids.drop z.1)) z.2) (fun z=>r.kids.length-z.1) (0,q++[(d,r)]) ?_ ?_ ?_
  .exact lq
  .exact⟨Qh3 _,hc1,hv⟩
  .rintro⟨k,q1⟩ ⟨hk,hcq,hc⟩
   dsimp only at hk hcq hc⊢
   have hlk:=hw1.2.2.2.2
   by_cases hk2:k<r.kids.length
   .have hne:r.kids≠[]:=fun e=>by rw[e]at hk2;exact absurd hk2 (Qhh _)
    have hmem:r.kids.getD k default∈r.kids:=Qe hk2
    have hsub:∀x∈Jm (d+1) (r.kids.getD k default),x∈Jm d r:=fun x hx=>by
     rw[Xq]
     exact List.mem_cons_of_mem _ (Mg.2 ⟨_,hmem,hx⟩)
    have hI:=ih _ hmem (d+1) q1 (hw2 _ hmem) Om hcq (fun q x hx=>hb q x (hsub x hx)) (fun q hq x hx=>hy q hq x (hsub x hx))
    rw[Qc hk2,H4,Q4x _ _ _ _ hcq]at hc
    rw[Gk hne]
    (refine gW ?_;intros)
    refine⟨⟨_,[],[ap 0],.inl rfl,hI.at [.arg 0,.arg 1,.arg 2,.arg 3,.arg 4] rfl ⟨rfl,rfl,rfl,rfl,rfl,Tt⟩ (fun s' hs'=>⟨rfl,?_⟩)⟩⟩
    subst hs'
    cases hc2:cont (Vg cont (Jm (d+1) (r.kids.getD k default)) q1)
    .rw[if_neg (by rw[hc2];simp)]at hc
     (refine gW ?_;intros)
     refine⟨_,hc.symm,?_,rfl⟩
     dsimp only
     rw[hc2]
     exact lq
    .rw[if_pos hc2]at hc
     (refine gW ?_;intros)
     refine stp ((k+1,Vg cont (Jm (d+1) (r.kids.getD k default)) q1)) ?_ ⟨by show k+1<=r.kids.length;omega,hc2,hc⟩
     exact lq
   .rw[Qr Om,Ub,Vg]at hc
    (refine gW ?_;intros)
    refine⟨_,hc.symm,?_,rfl⟩
    dsimp only
    rw[hcq]
    exact lq
theorem Qdd (rec:Loop)(y:Nat)(cont:List (Nat × Q1)->Bool)(r0:Q1)(hw:wfR r0)(hgo:cont []=true)(hb:∀q x,x∈Jm 1 r0->cont (q++[x])=true->x.1<=999999)
 (hy:∀ q:List (Nat × Q1),cont q=true→∀ x∈Jm 1 r0,Zc Tryz.prog y [.d (.int .i64 x.1),.d (.agg (Q2 x.2))] ⟨[],[some (.box 261 [.fn (.func 217) [] [.ptr (.arg 0) 0 0 0]]),some (.box 66 (up (Q2 r0))),some (.box 38 [.d (.int .i64 (bif okP q then 0 else 120))]),some (.box 3 [.d (.int .i64 q.length)]),some (.loop y (bif okP q then rec else after rec (some .ret)) [(2,.ptr (.arg 2) 0 0 0),(3,.ptr (.arg 3) 0 0 0)])]⟩
  (Ret (fun q:List (Nat × Q1)=>([.d (.bool (cont q))],⟨[],[bX 261 [.fn (.func 217) [] [ap 0]],bX 66 (up (Q2 r0)),bX 38 [dV (bif okP q then 0 else 120)],bX 3 [dV q.length],some (.loop y (bif okP q then rec else after rec (some .ret)) [(2,ap 2),(3,ap 3)])]⟩)) fun q'=>q'=q++[x])) :
 Qz Tryz.prog 218 [.fn (.yield y) [] [],ap 0,ap 1] ((fun q:List (Nat × Q1)=>⟨[],[bX 261 [.fn (.func 217) [] [ap 0]],bX 66 (up (Q2 r0)),bX 38 [dV (bif okP q then 0 else 120)],bX 3 [dV q.length],some (.loop y (bif okP q then rec else after rec (some .ret)) [(2,ap 2),(3,ap 3)])]⟩) [])
  (Ret (fun q:List (Nat × Q1)=>([],⟨[],[bX 261 [.fn (.func 217) [] [ap 0]],bX 66 (up (Q2 r0)),bX 38 [dV (bif okP q then 0 else 120)],bX 3 [dV q.length],some (.loop y (bif okP q then rec else after rec (some .ret)) [(2,ap 2),(3,ap 3)])]⟩)) fun q'=>q'=Vg cont (Jm 1 r0) []):=by
 refine Zv hT (T:=tab) (N:=8) (rs:=[]) _ _ Tryz.func218 rfl rfl rfl Kr rfl ?_
 have hW:=Qgq rec r0 y cont r0 1 [] hw Dc hgo hb hy
 (refine gW ?_;intros)
 refine⟨⟨_,[],[ap 0],.inl rfl,hW.at [.arg 0,.arg 1,.arg 2,.arg 3,.arg 4] rfl ⟨rfl,rfl,rfl,rfl,rfl,Tt⟩ (fun s' hs'=>⟨rfl,?_⟩)⟩⟩
 subst hs'
 (refine gW ?_;intros)
 refine⟨_,rfl,?_,rfl⟩
 dsimp only
 exact lq
theorem Qcc (q:List (Nat × Q1))(x:Nat × Q1)(h:okP q=true):okP (q++[x])=(decide (q.length+1<=200)&&(decide (x.1<=16)&&Qs x.2)):=by
 unfold okP at h⊢
 rw[Qh5]at h
 rw[Qii,h.2,Qhy,Qhc]
 simp
theorem Q2m (a b:List (Nat × Q1))(h:okP (a++b)=true):okP a=true:=by
 unfold okP at h⊢
 rw[Qh5,Qii,Qh5,Qhc]at h
 rw[Qh5]
 refine⟨?_,h.2.1⟩
 have:=Qhd h.1
 exact Qh8 Om
theorem Q4y (cont:List (Nat × Q1)->Bool)(hc:∀a b,cont (a++b)=true->cont a=true):∀(l q:List (Nat × Q1)),cont (Vg cont l q)=cont (q++l)
 |[],q=>by rw[Vg,Qih]
 | x :: r,q=>by
   rw[Vg]
   have e:q++x::r=(q++[x])++r:=by simp
   by_cases h:cont (q++[x])=true
   .rw[if_pos h,Q4y cont hc r,e]
   .rw[if_neg h,e]
    cases h2:cont (q++[x]++r)
    .simpa using h
    .exact absurd (hc _ _ h2) h
theorem Qcb (r:Q1):(bif okP (Jm 1 r) then(0:Int) else 120)=Gf r:=by
 unfold Gf okP
 obtain⟨h1,p,h2,h3⟩:=Qdh r 1
 rw[Qdi]
 by_cases a:Jj r<=200
 .by_cases b:Xa r<=16
  .have e:((Jm 1 r).all fun p=>decide (p.1<=16)&&Qs p.2)=Wi r:=by
    unfold Wi
    refine Bool.eq_iff_iff.2 ?_
    rw[Qi8,Qi8]
    refine⟨fun h x hx=>?_,fun h x hx=>?_⟩
    .have:=h x hx
     simp at this
     exact this.2
    .have h5:=h1 x hx
     have h6:=h x hx
     simp[h6]
     omega
   rw[e]
   cases Wi r<;>simp[a,b]
  .have e:((Jm 1 r).all fun p=>decide (p.1<=16)&&Qs p.2)=false:=by
    rw[List.all_eq_false]
    refine⟨p,h2,?_⟩
    simp
    omega
   rw[e]
   simp[b]
 .simp[a]
theorem O6 (r:Q1)(hw:wfR r):Pure Tryz.prog 144 [.agg (Q2 r)] [di (Gf r)]:=by
 rw[<-Qcb]
 refine Q4 hT (T:=tab) (N:=23) (rs:=[.cell 2 38]) Tryz.func144 rfl rfl rfl Kr rfl ?_
 (refine gW ?_;intros)
 refine(Qde r).at [] rfl Tt (fun _ _=>⟨rfl,?_⟩)
 (refine gW ?_;intros)
 refine Awp.range (caps:=[lp 4,lp 3]) [(2,lp 1),(3,lp 2)] (.inl rfl) (nl:=5) (na:=0) ⟨⟨rfl,rfl⟩,⟨rfl,rfl⟩,Tt⟩ ?_
 intro y rec h1 h2 h3 h4 h5 h6
 refine(Qdd rec y okP r hw rfl (fun q x _ h=>?_) ?_).at [.loc 4,.loc 3,.loc 1,.loc 2,.loc 5] rfl ⟨rfl,rfl,rfl,rfl,rfl,Tt⟩ (fun s hs=>⟨rfl,?_⟩)
 .have:=Q2m
  unfold okP at h
  simp at h
  omega
 .intro q hcq x hx
  have hI:=I4 hw 1 x hx
  have hql:q.length<=200:=by
   unfold okP at hcq
   rw[Qh5]at hcq
   exact Qhd hcq.1
  have hF:=Q9t x.2 hI
  rw[hcq]
  refine Mv (Mw (N:=23) (ps:=[8,9]) (args:=[dV x.1,.d (.agg (Q2 x.2))])
   (bs:=[bX 261 [.fn (.func 217) [] [ap 0]],bX 66 (up (Q2 r)),bX 38 [dV 0],bX 3 [dV q.length]]) (env0:=[(2,ap 2),(3,ap 3)])
   (fun b:Bool=>[bX 261 [.fn (.func 217) [] [ap 0]],bX 66 (up (Q2 r)),bX 38 [dV (bif b then 0 else 120)],bX 3 [dV ((q.length:Int)+1)]]) (fun b:Bool=>bif b then none else some .ret) (fun b=>b=okP (q++[x])) h1 h3 h4 h5 h6 rfl (by simp) ?_ rfl rfl ?_) ?_
  .exact lq
  .rw [Qcc q x hcq]
   refine Awp.of_vc hT ?_
   (refine gW ?_;intros)
   refine Awp.of_vc hT ?_
   by_cases e1:q.length+1<=200
   .by_cases e2:x.1<=16
    .cases e3:Qs x.2
     .rw[e3]at hF
      (refine gW ?_;intros)
      refine hF.call ?_
      (refine gW ?_;intros)
      exact⟨false,by simp,rfl,rfl,by repeat' (first|exact Tt|exact rfl|exact Qgx _|refine And.intro ?_ ?_)⟩
     .rw[e3]at hF
      (refine gW ?_;intros)
      refine hF.call ?_
      (refine gW ?_;intros)
      exact⟨true,by simp[e1,e2],rfl,rfl,by repeat' (first|exact Tt|exact rfl|exact Qgx _|refine And.intro ?_ ?_)⟩
    ·(refine gW ?_;intros)
     exact⟨false,by simp[e2],rfl,rfl,by repeat' (first|exact Tt|exact rfl|exact Qgx _|refine And.intro ?_ ?_)⟩
   ·(refine gW ?_;intros)
    exact⟨false,by simp;omega,rfl,rfl,by repeat' (first|exact Tt|exact rfl|exact Qgx _|refine And.intro ?_ ?_)⟩
  .rintro A m' ⟨b,hJ,rfl,rfl⟩
   refine⟨q++[x],rfl,?_,?_⟩
   .dsimp only
    rw[<-hJ]
    cases b<;>rfl
   .dsimp only
    rw[<-hJ,show(((q++[x]).length:Nat):Int)=(q.length:Int)+1 by rw[Jp];rfl]
    cases b
    .rfl
    .show(⟨[],[some _,some _,some _,some _,some (.loop y (after rec none) _)]⟩:Mem)=_
     rw[Wg h1 h2]
     rfl
 .have hv:okP s=okP (Jm 1 r):=by rw[hs,Q4y okP Q2m];rfl
  dsimp only
  rw[hv]
  cases okP (Jm 1 r)
  ·(refine gW ?_;intros)
   refine⟨some .ret,rfl,?_⟩
   refine Awp.of_vc hT ?_
   (refine gW ?_;intros)
   exact⟨rfl,Tt⟩
  ·(refine gW ?_;intros)
   refine⟨none,by rw[Wg h1 h2];rfl,?_⟩
   show Sq _ _
   (refine gW ?_;intros)
   exact⟨rfl,Tt⟩
structure Crs where
 name:ByteArray
 number:Int
 credits:Int
 rep:Int
 need:Q1
 bar:Q1
 deriving Inhabited
def Q6 (c:Crs):List D:=[.str c.name,di c.number,di c.credits,di c.rep,di c.need.op,di c.need.course,.str c.need.name,di c.need.n,di c.need.d,J0 c.need.kids,
 di c.bar.op,di c.bar.course,.str c.bar.name,di c.bar.n,di c.bar.d,J0 c.bar.kids]
def J2 (xs:List Crs):D:=.sl 16 xs.length fun i=>Q6 (xs.getD i default)
def Y0 (xs:List ByteArray):D:=.sl 1 xs.length fun i=>[.str (xs.getD i default)]
structure Req where
 name:ByteArray
 credits:Int
 grade:Int
 home:Bool
 names:List ByteArray
 fr:List Int
 deriving Inhabited
def Jv (q:Req):List D:=[.str q.name,di q.credits,di q.grade,.bool q.home,Y0 q.names,J6 q.fr]
def Xz (xs:List Req):D:=.sl 6 xs.length fun i=>Jv (xs.getD i default)
structure Prg where
 name:ByteArray
 number:Int
 uses:Int
 earn:Int
 mn:Int
 md:Int
 reqs:List Req
 deriving Inhabited
def Q9 (p:Prg):List D:=[.str p.name,di p.number,di p.uses,di p.earn,di p.mn,di p.md,Xz p.reqs]
def Qw (xs:List Prg):D:=.sl 7 xs.length fun i=>Q9 (xs.getD i default)
structure Cls where
 name:ByteArray
 earn:Int
 mn:Int
 md:Int
 deriving Inhabited
def Wz (x:Cls):List D:=[.str x.name,di x.earn,di x.mn,di x.md]
def Qk (xs:List Cls):D:=.sl 4 xs.length fun i=>Wz (xs.getD i default)
structure Fee where
 name:ByteArray
 credits:Int
 deriving Inhabited
def U0 (x:Fee):List D:=[.str x.name,di x.credits]
def Jk (xs:List Fee):D:=.sl 2 xs.length fun i=>U0 (xs.getD i default)
structure Cla where
 kind:Int
 whn:Int
 action:Int
 til:Int
 deriving Inhabited
def Gi (x:Cla):List D:=[di x.kind,di x.whn,di x.action,di x.til]
def Jq (xs:List Cla):D:=.sl 4 xs.length fun i=>Gi (xs.getD i default)
structure Sys where
 classes:List Cls
 fees:List Fee
 honours:List Cls
 clauses:List Cla
 deriving Inhabited
def Qa (s:Sys):List D:=[Qk s.classes,Jk s.fees,Qk s.honours,Jq s.clauses]
def U1 (xs:List Sys):D:=.sl 4 xs.length fun i=>Qa (xs.getD i default)
structure Pai where
 a:ByteArray
 b:ByteArray
 x:Int
 y:Int
 deriving Inhabited
def Qv (p:Pai):List D:=[.str p.a,.str p.b,di p.x,di p.y]
def Xh (xs:List Pai):D:=.sl 4 xs.length fun i=>Qv (xs.getD i default)
structure Fct where
 kind:Int
 subject:Int
 object:Int
 value:Int
 fr:Int
 til:Int
 known:Int
 no:Int
 deriving Inhabited,DecidableEq
def Qf (f:Fct):List D:=[di f.kind,di f.subject,di f.object,di f.value,di f.fr,di f.til,di f.known,di f.no]
def Zd (xs:List Fct):D:=.sl 8 xs.length fun i=>Qf (xs.getD i default)
structure Red where
 kind:Int
 subject:Int
 object:Int
 fr:Int
 til:Int
 deriving Inhabited,DecidableEq
def Ng (r:Red):List D:=[di r.kind,di r.subject,di r.object,di r.fr,di r.til]
def Wl (xs:List Red):D:=.sl 5 xs.length fun i=>Ng (xs.getD i default)
def Qg {α:Type}(xs:List α):Prop:=xs.length<=9223372036854775807
theorem Qab (xs:List Crs)(hx:xs.length<=9223372036854775807)(f:FuncId)(c0:D)(p:Crs->Bool)(hp:∀s,s∈xs->Pure Tryz.prog f [.agg (Q6 s),c0] [.bool (p s)]) :
 Pure Tryz.prog 170 [J2 xs,.fn (.func f) [] [c0]] [di (ix p xs 0)]:=by
 refine Q4 hT (T:=tab) (N:=19) (rs:=[.tmp 4]) Tryz.func170 rfl rfl rfl Kr rfl ?_
 (refine gW ?_;intros)
 refine Q7 hT (S:=Nat) (fun k=>([(0,.d (J2 xs)),(1,.d (.fn (.func f) [] [c0])),(7,dV xs.length),(8,dV k)],⟨[],[]⟩)) (fun k=>k<=xs.length/\ix p xs 0=ix p (xs.drop k) k) (fun k=>xs.length-k) 0 ?_ ?_ ?_
 .repeat' (first|exact Tt|exact rfl|exact Qgx _|refine And.intro ?_ ?_)
 .exact⟨Qh3 _,rfl⟩
 .rintro k ⟨hk,hc⟩
  ((refine xW ?_ ?_)<;>intros)
  .refine⟨⟨f,[],[.d c0],.inr ⟨[],[c0],rfl,rfl,rfl⟩,(hp (xs.getD k default) (Qe Om)).call ?_⟩⟩
   ((refine xW ?_ ?_)<;>(intros;try rename_i h))
   .refine⟨congrArg (D.int .i64) ?_,Tt⟩
    rw[hc,Qc Om,ix,if_pos h]
   .refine⟨k+1,⟨by show k+1<=xs.length;omega,?_⟩,by show xs.length-(k+1)<xs.length-k;omega,?_⟩
    .rw[hc,Qc Om,ix,if_neg (by rw[h];exact Qhl)]
     rfl
    .repeat' (first|exact Tt|exact rfl|exact Qgx _|refine And.intro ?_ ?_)
  .refine⟨congrArg (D.int .i64) ?_,Tt⟩
   have:k=xs.length:=by omega
   rw[hc]
   simp[this,ix]
theorem Q5t (xs:List Crs)(hx:xs.length<=9223372036854775807)(f:FuncId)(c0:D)(p:Crs->Bool)(hp:∀s,s∈xs->Pure Tryz.prog f [.agg (Q6 s),c0] [.bool (p s)]) :
 Pure Tryz.prog 142 [J2 xs,.fn (.func f) [] [c0]] [.bool (xs.any p)]:=by
 refine Q4 hT (T:=tab) (N:=9) (rs:=[.tmp 4]) Tryz.func142 rfl rfl rfl Kr rfl ?_
 (refine gW ?_;intros)
 refine(Qab xs hx f c0 p hp).call ?_
 (refine gW ?_;intros)
 refine⟨congrArg D.bool ?_,Tt⟩
 rw[<-Uu p xs 0 Om]
theorem Q6y (s:Crs)(f:FuncId)(b:Bool)(hp:Pure Tryz.prog f [.agg (Q6 s)] [.bool b]):Pure Tryz.prog 143 [.agg (Q6 s),.pt [.fn (.func f) [] []] 0] [.bool (!b)]:=by
 refine Q4 hT (T:=tab) (N:=8) (rs:=[.tmp 3]) Tryz.func143 rfl rfl rfl Kr rfl ?_
 (refine gW ?_;intros)
 refine hp.call ?_
 (refine gW ?_;intros)
 exact⟨rfl,Tt⟩
theorem Q5h (xs:List Crs)(hx:Qg xs)(f:FuncId)(p:Crs->Bool)(hp:∀s,s∈xs->Pure Tryz.prog f [.agg (Q6 s)] [.bool (p s)]):Pure Tryz.prog 87 [J2 xs,.fn (.func f) [] []] [.bool (xs.all p)]:=by
 refine Q4 hT (T:=tab) (N:=9) (rs:=[.tmp 4]) Tryz.func87 rfl rfl rfl Kr rfl ?_
 have hI:=Q5t xs hx 143 (.pt [.fn (.func f) [] []] 0) (fun s=>!p s) fun s hs=>Q6y s f (p s) (hp s hs)
 (refine gW ?_;intros)
 refine hI.loan rfl ⟨.d,.fn' Tt ⟨.ptr' rfl ⟨.d,Tt⟩,Tt⟩,Tt⟩ ?_
 (refine gW ?_;intros)
 refine⟨congrArg D.bool ?_,Tt⟩
 rw[List.not_any_eq_all_not]
 simp
theorem Qag (xs:List Prg)(hx:xs.length<=9223372036854775807)(f:FuncId)(c0:D)(p:Prg->Bool)(hp:∀s,s∈xs->Pure Tryz.prog f [.agg (Q9 s),c0] [.bool (p s)]) :
 Pure Tryz.prog 184 [Qw xs,.fn (.func f) [] [c0]] [di (ix p xs 0)]:=by
 refine Q4 hT (T:=tab) (N:=19) (rs:=[.tmp 4]) Tryz.func184 rfl rfl rfl Kr rfl ?_
 (refine gW ?_;intros)
 refine Q7 hT (S:=Nat) (fun k=>([(0,.d (Qw xs)),(1,.d (.fn (.func f) [] [c0])),(7,dV xs.length),(8,dV k)],⟨[],[]⟩)) (fun k=>k<=xs.length/\ix p xs 0=ix p (xs.drop k) k) (fun k=>xs.length-k) 0 ?_ ?_ ?_
 .repeat' (first|exact Tt|exact rfl|exact Qgx _|refine And.intro ?_ ?_)
 .exact⟨Qh3 _,rfl⟩
 .rintro k ⟨hk,hc⟩
  ((refine xW ?_ ?_)<;>intros)
  .refine⟨⟨f,[],[.d c0],.inr ⟨[],[c0],rfl,rfl,rfl⟩,(hp (xs.getD k default) (Qe Om)).call ?_⟩⟩
   ((refine xW ?_ ?_)<;>(intros;try rename_i h))
   .refine⟨congrArg (D.int .i64) ?_,Tt⟩
    rw[hc,Qc Om,ix,if_pos h]
   .refine⟨k+1,⟨by show k+1<=xs.length;omega,?_⟩,by show xs.length-(k+1)<xs.length-k;omega,?_⟩
    .rw[hc,Qc Om,ix,if_neg (by rw[h];exact Qhl)]
     rfl
    .repeat' (first|exact Tt|exact rfl|exact Qgx _|refine And.intro ?_ ?_)
  .refine⟨congrArg (D.int .i64) ?_,Tt⟩
   have:k=xs.length:=by omega
   rw[hc]
   simp[this,ix]
theorem Q5x (xs:List Prg)(hx:xs.length<=9223372036854775807)(f:FuncId)(c0:D)(p:Prg->Bool)(hp:∀s,s∈xs->Pure Tryz.prog f [.agg (Q9 s),c0] [.bool (p s)]) :
 Pure Tryz.prog 145 [Qw xs,.fn (.func f) [] [c0]] [.bool (xs.any p)]:=by
 refine Q4 hT (T:=tab) (N:=9) (rs:=[.tmp 4]) Tryz.func145 rfl rfl rfl Kr rfl ?_
 (refine gW ?_;intros)
 refine(Qag xs hx f c0 p hp).call ?_
 (refine gW ?_;intros)
 refine⟨congrArg D.bool ?_,Tt⟩
 rw[<-Uu p xs 0 Om]
theorem Q72 (s:Prg)(f:FuncId)(b:Bool)(hp:Pure Tryz.prog f [.agg (Q9 s)] [.bool b]):Pure Tryz.prog 146 [.agg (Q9 s),.pt [.fn (.func f) [] []] 0] [.bool (!b)]:=by
 refine Q4 hT (T:=tab) (N:=8) (rs:=[.tmp 3]) Tryz.func146 rfl rfl rfl Kr rfl ?_
 (refine gW ?_;intros)
 refine hp.call ?_
 (refine gW ?_;intros)
 exact⟨rfl,Tt⟩
theorem Q5n (xs:List Prg)(hx:Qg xs)(f:FuncId)(p:Prg->Bool)(hp:∀s,s∈xs->Pure Tryz.prog f [.agg (Q9 s)] [.bool (p s)]):Pure Tryz.prog 89 [Qw xs,.fn (.func f) [] []] [.bool (xs.all p)]:=by
 refine Q4 hT (T:=tab) (N:=9) (rs:=[.tmp 4]) Tryz.func89 rfl rfl rfl Kr rfl ?_
 have hI:=Q5x xs hx 146 (.pt [.fn (.func f) [] []] 0) (fun s=>!p s) fun s hs=>Q72 s f (p s) (hp s hs)
 (refine gW ?_;intros)
 refine hI.loan rfl ⟨.d,.fn' Tt ⟨.ptr' rfl ⟨.d,Tt⟩,Tt⟩,Tt⟩ ?_
 (refine gW ?_;intros)
 refine⟨congrArg D.bool ?_,Tt⟩
 rw[List.not_any_eq_all_not]
 simp
theorem Qai (xs:List Sys)(hx:xs.length<=9223372036854775807)(f:FuncId)(c0:D)(p:Sys->Bool)(hp:∀s,s∈xs->Pure Tryz.prog f [.agg (Qa s),c0] [.bool (p s)]) :
 Pure Tryz.prog 190 [U1 xs,.fn (.func f) [] [c0]] [di (ix p xs 0)]:=by
 refine Q4 hT (T:=tab) (N:=19) (rs:=[.tmp 4]) Tryz.func190 rfl rfl rfl Kr rfl ?_
 (refine gW ?_;intros)
 refine Q7 hT (S:=Nat) (fun k=>([(0,.d (U1 xs)),(1,.d (.fn (.func f) [] [c0])),(7,dV xs.length),(8,dV k)],⟨[],[]⟩)) (fun k=>k<=xs.length/\ix p xs 0=ix p (xs.drop k) k) (fun k=>xs.length-k) 0 ?_ ?_ ?_
 .repeat' (first|exact Tt|exact rfl|exact Qgx _|refine And.intro ?_ ?_)
 .exact⟨Qh3 _,rfl⟩
 .rintro k ⟨hk,hc⟩
  ((refine xW ?_ ?_)<;>intros)
  .refine⟨⟨f,[],[.d c0],.inr ⟨[],[c0],rfl,rfl,rfl⟩,(hp (xs.getD k default) (Qe Om)).call ?_⟩⟩
   ((refine xW ?_ ?_)<;>(intros;try rename_i h))
   .refine⟨congrArg (D.int .i64) ?_,Tt⟩
    rw[hc,Qc Om,ix,if_pos h]
   .refine⟨k+1,⟨by show k+1<=xs.length;omega,?_⟩,by show xs.length-(k+1)<xs.length-k;omega,?_⟩
    .rw[hc,Qc Om,ix,if_neg (by rw[h];exact Qhl)]
     rfl
    .repeat' (first|exact Tt|exact rfl|exact Qgx _|refine And.intro ?_ ?_)
  .refine⟨congrArg (D.int .i64) ?_,Tt⟩
   have:k=xs.length:=by omega
   rw[hc]
   simp[this,ix]
theorem Q5z (xs:List Sys)(hx:xs.length<=9223372036854775807)(f:FuncId)(c0:D)(p:Sys->Bool)(hp:∀s,s∈xs->Pure Tryz.prog f [.agg (Qa s),c0] [.bool (p s)]) :
 Pure Tryz.prog 150 [U1 xs,.fn (.func f) [] [c0]] [.bool (xs.any p)]:=by
 refine Q4 hT (T:=tab) (N:=9) (rs:=[.tmp 4]) Tryz.func150 rfl rfl rfl Kr rfl ?_
 (refine gW ?_;intros)
 refine(Qai xs hx f c0 p hp).call ?_
 (refine gW ?_;intros)
 refine⟨congrArg D.bool ?_,Tt⟩
 rw[<-Uu p xs 0 Om]
theorem Q74 (s:Sys)(f:FuncId)(b:Bool)(hp:Pure Tryz.prog f [.agg (Qa s)] [.bool b]):Pure Tryz.prog 151 [.agg (Qa s),.pt [.fn (.func f) [] []] 0] [.bool (!b)]:=by
 refine Q4 hT (T:=tab) (N:=8) (rs:=[.tmp 3]) Tryz.func151 rfl rfl rfl Kr rfl ?_
 (refine gW ?_;intros)
 refine hp.call ?_
 (refine gW ?_;intros)
 exact⟨rfl,Tt⟩
theorem Q5p (xs:List Sys)(hx:Qg xs)(f:FuncId)(p:Sys->Bool)(hp:∀s,s∈xs->Pure Tryz.prog f [.agg (Qa s)] [.bool (p s)]):Pure Tryz.prog 91 [U1 xs,.fn (.func f) [] []] [.bool (xs.all p)]:=by
 refine Q4 hT (T:=tab) (N:=9) (rs:=[.tmp 4]) Tryz.func91 rfl rfl rfl Kr rfl ?_
 have hI:=Q5z xs hx 151 (.pt [.fn (.func f) [] []] 0) (fun s=>!p s) fun s hs=>Q74 s f (p s) (hp s hs)
 (refine gW ?_;intros)
 refine hI.loan rfl ⟨.d,.fn' Tt ⟨.ptr' rfl ⟨.d,Tt⟩,Tt⟩,Tt⟩ ?_
 (refine gW ?_;intros)
 refine⟨congrArg D.bool ?_,Tt⟩
 rw[List.not_any_eq_all_not]
 simp
theorem Qah (xs:List Req)(hx:xs.length<=9223372036854775807)(f:FuncId)(c0:D)(p:Req->Bool)(hp:∀s,s∈xs->Pure Tryz.prog f [.agg (Jv s),c0] [.bool (p s)]) :
 Pure Tryz.prog 221 [Xz xs,.fn (.func f) [] [c0]] [di (ix p xs 0)]:=by
 refine Q4 hT (T:=tab) (N:=19) (rs:=[.tmp 4]) Tryz.func221 rfl rfl rfl Kr rfl ?_
 (refine gW ?_;intros)
 refine Q7 hT (S:=Nat) (fun k=>([(0,.d (Xz xs)),(1,.d (.fn (.func f) [] [c0])),(7,dV xs.length),(8,dV k)],⟨[],[]⟩)) (fun k=>k<=xs.length/\ix p xs 0=ix p (xs.drop k) k) (fun k=>xs.length-k) 0 ?_ ?_ ?_
 .repeat' (first|exact Tt|exact rfl|exact Qgx _|refine And.intro ?_ ?_)
 .exact⟨Qh3 _,rfl⟩
 .rintro k ⟨hk,hc⟩
  ((refine xW ?_ ?_)<;>intros)
  .refine⟨⟨f,[],[.d c0],.inr ⟨[],[c0],rfl,rfl,rfl⟩,(hp (xs.getD k default) (Qe Om)).call ?_⟩⟩
   ((refine xW ?_ ?_)<;>(intros;try rename_i h))
   .refine⟨congrArg (D.int .i64) ?_,Tt⟩
    rw[hc,Qc Om,ix,if_pos h]
   .refine⟨k+1,⟨by show k+1<=xs.length;omega,?_⟩,by show xs.length-(k+1)<xs.length-k;omega,?_⟩
    .rw[hc,Qc Om,ix,if_neg (by rw[h];exact Qhl)]
     rfl
    .repeat' (first|exact Tt|exact rfl|exact Qgx _|refine And.intro ?_ ?_)
  .refine⟨congrArg (D.int .i64) ?_,Tt⟩
   have:k=xs.length:=by omega
   rw[hc]
   simp[this,ix]
theorem Q5y (xs:List Req)(hx:xs.length<=9223372036854775807)(f:FuncId)(c0:D)(p:Req->Bool)(hp:∀s,s∈xs->Pure Tryz.prog f [.agg (Jv s),c0] [.bool (p s)]) :
 Pure Tryz.prog 186 [Xz xs,.fn (.func f) [] [c0]] [.bool (xs.any p)]:=by
 refine Q4 hT (T:=tab) (N:=9) (rs:=[.tmp 4]) Tryz.func186 rfl rfl rfl Kr rfl ?_
 (refine gW ?_;intros)
 refine(Qah xs hx f c0 p hp).call ?_
 (refine gW ?_;intros)
 refine⟨congrArg D.bool ?_,Tt⟩
 rw[<-Uu p xs 0 Om]
theorem Q73 (s:Req)(f:FuncId)(b:Bool)(hp:Pure Tryz.prog f [.agg (Jv s)] [.bool b]):Pure Tryz.prog 187 [.agg (Jv s),.pt [.fn (.func f) [] []] 0] [.bool (!b)]:=by
 refine Q4 hT (T:=tab) (N:=8) (rs:=[.tmp 3]) Tryz.func187 rfl rfl rfl Kr rfl ?_
 (refine gW ?_;intros)
 refine hp.call ?_
 (refine gW ?_;intros)
 exact⟨rfl,Tt⟩
theorem Q5o (xs:List Req)(hx:Qg xs)(f:FuncId)(p:Req->Bool)(hp:∀s,s∈xs->Pure Tryz.prog f [.agg (Jv s)] [.bool (p s)]):Pure Tryz.prog 148 [Xz xs,.fn (.func f) [] []] [.bool (xs.all p)]:=by
 refine Q4 hT (T:=tab) (N:=9) (rs:=[.tmp 4]) Tryz.func148 rfl rfl rfl Kr rfl ?_
 have hI:=Q5y xs hx 187 (.pt [.fn (.func f) [] []] 0) (fun s=>!p s) fun s hs=>Q73 s f (p s) (hp s hs)
 (refine gW ?_;intros)
 refine hI.loan rfl ⟨.d,.fn' Tt ⟨.ptr' rfl ⟨.d,Tt⟩,Tt⟩,Tt⟩ ?_
 (refine gW ?_;intros)
 refine⟨congrArg D.bool ?_,Tt⟩
 rw[List.not_any_eq_all_not]
 simp
theorem Qaa (xs:List Cls)(hx:xs.length<=9223372036854775807)(f:FuncId)(c0:D)(p:Cls->Bool)(hp:∀s,s∈xs->Pure Tryz.prog f [.agg (Wz s),c0] [.bool (p s)]) :
 Pure Tryz.prog 224 [Qk xs,.fn (.func f) [] [c0]] [di (ix p xs 0)]:=by
 refine Q4 hT (T:=tab) (N:=19) (rs:=[.tmp 4]) Tryz.func224 rfl rfl rfl Kr rfl ?_
 (refine gW ?_;intros)
 refine Q7 hT (S:=Nat) (fun k=>([(0,.d (Qk xs)),(1,.d (.fn (.func f) [] [c0])),(7,dV xs.length),(8,dV k)],⟨[],[]⟩)) (fun k=>k<=xs.length/\ix p xs 0=ix p (xs.drop k) k) (fun k=>xs.length-k) 0 ?_ ?_ ?_
 .repeat' (first|exact Tt|exact rfl|exact Qgx _|refine And.intro ?_ ?_)
 .exact⟨Qh3 _,rfl⟩
 .rintro k ⟨hk,hc⟩
  ((refine xW ?_ ?_)<;>intros)
  .refine⟨⟨f,[],[.d c0],.inr ⟨[],[c0],rfl,rfl,rfl⟩,(hp (xs.getD k default) (Qe Om)).call ?_⟩⟩
   ((refine xW ?_ ?_)<;>(intros;try rename_i h))
   .refine⟨congrArg (D.int .i64) ?_,Tt⟩
    rw[hc,Qc Om,ix,if_pos h]
   .refine⟨k+1,⟨by show k+1<=xs.length;omega,?_⟩,by show xs.length-(k+1)<xs.length-k;omega,?_⟩
    .rw[hc,Qc Om,ix,if_neg (by rw[h];exact Qhl)]
     rfl
    .repeat' (first|exact Tt|exact rfl|exact Qgx _|refine And.intro ?_ ?_)
  .refine⟨congrArg (D.int .i64) ?_,Tt⟩
   have:k=xs.length:=by omega
   rw[hc]
   simp[this,ix]
theorem Q5s (xs:List Cls)(hx:xs.length<=9223372036854775807)(f:FuncId)(c0:D)(p:Cls->Bool)(hp:∀s,s∈xs->Pure Tryz.prog f [.agg (Wz s),c0] [.bool (p s)]) :
 Pure Tryz.prog 191 [Qk xs,.fn (.func f) [] [c0]] [.bool (xs.any p)]:=by
 refine Q4 hT (T:=tab) (N:=9) (rs:=[.tmp 4]) Tryz.func191 rfl rfl rfl Kr rfl ?_
 (refine gW ?_;intros)
 refine(Qaa xs hx f c0 p hp).call ?_
 (refine gW ?_;intros)
 refine⟨congrArg D.bool ?_,Tt⟩
 rw[<-Uu p xs 0 Om]
theorem Q6x (s:Cls)(f:FuncId)(b:Bool)(hp:Pure Tryz.prog f [.agg (Wz s)] [.bool b]):Pure Tryz.prog 192 [.agg (Wz s),.pt [.fn (.func f) [] []] 0] [.bool (!b)]:=by
 refine Q4 hT (T:=tab) (N:=8) (rs:=[.tmp 3]) Tryz.func192 rfl rfl rfl Kr rfl ?_
 (refine gW ?_;intros)
 refine hp.call ?_
 (refine gW ?_;intros)
 exact⟨rfl,Tt⟩
theorem Ih (xs:List Cls)(hx:Qg xs)(f:FuncId)(p:Cls->Bool)(hp:∀s,s∈xs->Pure Tryz.prog f [.agg (Wz s)] [.bool (p s)]):Pure Tryz.prog 155 [Qk xs,.fn (.func f) [] []] [.bool (xs.all p)]:=by
 refine Q4 hT (T:=tab) (N:=9) (rs:=[.tmp 4]) Tryz.func155 rfl rfl rfl Kr rfl ?_
 have hI:=Q5s xs hx 192 (.pt [.fn (.func f) [] []] 0) (fun s=>!p s) fun s hs=>Q6x s f (p s) (hp s hs)
 (refine gW ?_;intros)
 refine hI.loan rfl ⟨.d,.fn' Tt ⟨.ptr' rfl ⟨.d,Tt⟩,Tt⟩,Tt⟩ ?_
 (refine gW ?_;intros)
 refine⟨congrArg D.bool ?_,Tt⟩
 rw[List.not_any_eq_all_not]
 simp
theorem Qac (xs:List Fee)(hx:xs.length<=9223372036854775807)(f:FuncId)(c0:D)(p:Fee->Bool)(hp:∀s,s∈xs->Pure Tryz.prog f [.agg (U0 s),c0] [.bool (p s)]) :
 Pure Tryz.prog 225 [Jk xs,.fn (.func f) [] [c0]] [di (ix p xs 0)]:=by
 refine Q4 hT (T:=tab) (N:=19) (rs:=[.tmp 4]) Tryz.func225 rfl rfl rfl Kr rfl ?_
 (refine gW ?_;intros)
 refine Q7 hT (S:=Nat) (fun k=>([(0,.d (Jk xs)),(1,.d (.fn (.func f) [] [c0])),(7,dV xs.length),(8,dV k)],⟨[],[]⟩)) (fun k=>k<=xs.length/\ix p xs 0=ix p (xs.drop k) k) (fun k=>xs.length-k) 0 ?_ ?_ ?_
 .repeat' (first|exact Tt|exact rfl|exact Qgx _|refine And.intro ?_ ?_)
 .exact⟨Qh3 _,rfl⟩
 .rintro k ⟨hk,hc⟩
  ((refine xW ?_ ?_)<;>intros)
  .refine⟨⟨f,[],[.d c0],.inr ⟨[],[c0],rfl,rfl,rfl⟩,(hp (xs.getD k default) (Qe Om)).call ?_⟩⟩
   ((refine xW ?_ ?_)<;>(intros;try rename_i h))
   .refine⟨congrArg (D.int .i64) ?_,Tt⟩
    rw[hc,Qc Om,ix,if_pos h]
   .refine⟨k+1,⟨by show k+1<=xs.length;omega,?_⟩,by show xs.length-(k+1)<xs.length-k;omega,?_⟩
    .rw[hc,Qc Om,ix,if_neg (by rw[h];exact Qhl)]
     rfl
    .repeat' (first|exact Tt|exact rfl|exact Qgx _|refine And.intro ?_ ?_)
  .refine⟨congrArg (D.int .i64) ?_,Tt⟩
   have:k=xs.length:=by omega
   rw[hc]
   simp[this,ix]
theorem Q5u (xs:List Fee)(hx:xs.length<=9223372036854775807)(f:FuncId)(c0:D)(p:Fee->Bool)(hp:∀s,s∈xs->Pure Tryz.prog f [.agg (U0 s),c0] [.bool (p s)]) :
 Pure Tryz.prog 193 [Jk xs,.fn (.func f) [] [c0]] [.bool (xs.any p)]:=by
 refine Q4 hT (T:=tab) (N:=9) (rs:=[.tmp 4]) Tryz.func193 rfl rfl rfl Kr rfl ?_
 (refine gW ?_;intros)
 refine(Qac xs hx f c0 p hp).call ?_
 (refine gW ?_;intros)
 refine⟨congrArg D.bool ?_,Tt⟩
 rw[<-Uu p xs 0 Om]
theorem Q6z (s:Fee)(f:FuncId)(b:Bool)(hp:Pure Tryz.prog f [.agg (U0 s)] [.bool b]):Pure Tryz.prog 194 [.agg (U0 s),.pt [.fn (.func f) [] []] 0] [.bool (!b)]:=by
 refine Q4 hT (T:=tab) (N:=8) (rs:=[.tmp 3]) Tryz.func194 rfl rfl rfl Kr rfl ?_
 (refine gW ?_;intros)
 refine hp.call ?_
 (refine gW ?_;intros)
 exact⟨rfl,Tt⟩
theorem Q5k (xs:List Fee)(hx:Qg xs)(f:FuncId)(p:Fee->Bool)(hp:∀s,s∈xs->Pure Tryz.prog f [.agg (U0 s)] [.bool (p s)]):Pure Tryz.prog 156 [Jk xs,.fn (.func f) [] []] [.bool (xs.all p)]:=by
 refine Q4 hT (T:=tab) (N:=9) (rs:=[.tmp 4]) Tryz.func156 rfl rfl rfl Kr rfl ?_
 have hI:=Q5u xs hx 194 (.pt [.fn (.func f) [] []] 0) (fun s=>!p s) fun s hs=>Q6z s f (p s) (hp s hs)
 (refine gW ?_;intros)
 refine hI.loan rfl ⟨.d,.fn' Tt ⟨.ptr' rfl ⟨.d,Tt⟩,Tt⟩,Tt⟩ ?_
 (refine gW ?_;intros)
 refine⟨congrArg D.bool ?_,Tt⟩
 rw[List.not_any_eq_all_not]
 simp
theorem Qa9 (xs:List Cla)(hx:xs.length<=9223372036854775807)(f:FuncId)(c0:D)(p:Cla->Bool)(hp:∀s,s∈xs->Pure Tryz.prog f [.agg (Gi s),c0] [.bool (p s)]) :
 Pure Tryz.prog 226 [Jq xs,.fn (.func f) [] [c0]] [di (ix p xs 0)]:=by
 refine Q4 hT (T:=tab) (N:=19) (rs:=[.tmp 4]) Tryz.func226 rfl rfl rfl Kr rfl ?_
 (refine gW ?_;intros)
 refine Q7 hT (S:=Nat) (fun k=>([(0,.d (Jq xs)),(1,.d (.fn (.func f) [] [c0])),(7,dV xs.length),(8,dV k)],⟨[],[]⟩)) (fun k=>k<=xs.length/\ix p xs 0=ix p (xs.drop k) k) (fun k=>xs.length-k) 0 ?_ ?_ ?_
 .repeat' (first|exact Tt|exact rfl|exact Qgx _|refine And.intro ?_ ?_)
 .exact⟨Qh3 _,rfl⟩
 .rintro k ⟨hk,hc⟩
  ((refine xW ?_ ?_)<;>intros)
  .refine⟨⟨f,[],[.d c0],.inr ⟨[],[c0],rfl,rfl,rfl⟩,(hp (xs.getD k default) (Qe Om)).call ?_⟩⟩
   ((refine xW ?_ ?_)<;>(intros;try rename_i h))
   .refine⟨congrArg (D.int .i64) ?_,Tt⟩
    rw[hc,Qc Om,ix,if_pos h]
   .refine⟨k+1,⟨by show k+1<=xs.length;omega,?_⟩,by show xs.length-(k+1)<xs.length-k;omega,?_⟩
    .rw[hc,Qc Om,ix,if_neg (by rw[h];exact Qhl)]
     rfl
    .repeat' (first|exact Tt|exact rfl|exact Qgx _|refine And.intro ?_ ?_)
  .refine⟨congrArg (D.int .i64) ?_,Tt⟩
   have:k=xs.length:=by omega
   rw[hc]
   simp[this,ix]
theorem Q5r (xs:List Cla)(hx:xs.length<=9223372036854775807)(f:FuncId)(c0:D)(p:Cla->Bool)(hp:∀s,s∈xs->Pure Tryz.prog f [.agg (Gi s),c0] [.bool (p s)]) :
 Pure Tryz.prog 195 [Jq xs,.fn (.func f) [] [c0]] [.bool (xs.any p)]:=by
 refine Q4 hT (T:=tab) (N:=9) (rs:=[.tmp 4]) Tryz.func195 rfl rfl rfl Kr rfl ?_
 (refine gW ?_;intros)
 refine(Qa9 xs hx f c0 p hp).call ?_
 (refine gW ?_;intros)
 refine⟨congrArg D.bool ?_,Tt⟩
 rw[<-Uu p xs 0 Om]
theorem Q6w (s:Cla)(f:FuncId)(b:Bool)(hp:Pure Tryz.prog f [.agg (Gi s)] [.bool b]):Pure Tryz.prog 196 [.agg (Gi s),.pt [.fn (.func f) [] []] 0] [.bool (!b)]:=by
 refine Q4 hT (T:=tab) (N:=8) (rs:=[.tmp 3]) Tryz.func196 rfl rfl rfl Kr rfl ?_
 (refine gW ?_;intros)
 refine hp.call ?_
 (refine gW ?_;intros)
 exact⟨rfl,Tt⟩
theorem Q5g (xs:List Cla)(hx:Qg xs)(f:FuncId)(p:Cla->Bool)(hp:∀s,s∈xs->Pure Tryz.prog f [.agg (Gi s)] [.bool (p s)]):Pure Tryz.prog 157 [Jq xs,.fn (.func f) [] []] [.bool (xs.all p)]:=by
 refine Q4 hT (T:=tab) (N:=9) (rs:=[.tmp 4]) Tryz.func157 rfl rfl rfl Kr rfl ?_
 have hI:=Q5r xs hx 196 (.pt [.fn (.func f) [] []] 0) (fun s=>!p s) fun s hs=>Q6w s f (p s) (hp s hs)
 (refine gW ?_;intros)
 refine hI.loan rfl ⟨.d,.fn' Tt ⟨.ptr' rfl ⟨.d,Tt⟩,Tt⟩,Tt⟩ ?_
 (refine gW ?_;intros)
 refine⟨congrArg D.bool ?_,Tt⟩
 rw[List.not_any_eq_all_not]
 simp
theorem Qaf (xs:List Pai)(hx:xs.length<=9223372036854775807)(f:FuncId)(c0:D)(p:Pai->Bool)(hp:∀s,s∈xs->Pure Tryz.prog f [.agg (Qv s),c0] [.bool (p s)]) :
 Pure Tryz.prog 175 [Xh xs,.fn (.func f) [] [c0]] [di (ix p xs 0)]:=by
 refine Q4 hT (T:=tab) (N:=19) (rs:=[.tmp 4]) Tryz.func175 rfl rfl rfl Kr rfl ?_
 (refine gW ?_;intros)
 refine Q7 hT (S:=Nat) (fun k=>([(0,.d (Xh xs)),(1,.d (.fn (.func f) [] [c0])),(7,dV xs.length),(8,dV k)],⟨[],[]⟩)) (fun k=>k<=xs.length/\ix p xs 0=ix p (xs.drop k) k) (fun k=>xs.length-k) 0 ?_ ?_ ?_
 .repeat' (first|exact Tt|exact rfl|exact Qgx _|refine And.intro ?_ ?_)
 .exact⟨Qh3 _,rfl⟩
 .rintro k ⟨hk,hc⟩
  ((refine xW ?_ ?_)<;>intros)
  .refine⟨⟨f,[],[.d c0],.inr ⟨[],[c0],rfl,rfl,rfl⟩,(hp (xs.getD k default) (Qe Om)).call ?_⟩⟩
   ((refine xW ?_ ?_)<;>(intros;try rename_i h))
   .refine⟨congrArg (D.int .i64) ?_,Tt⟩
    rw[hc,Qc Om,ix,if_pos h]
   .refine⟨k+1,⟨by show k+1<=xs.length;omega,?_⟩,by show xs.length-(k+1)<xs.length-k;omega,?_⟩
    .rw[hc,Qc Om,ix,if_neg (by rw[h];exact Qhl)]
     rfl
    .repeat' (first|exact Tt|exact rfl|exact Qgx _|refine And.intro ?_ ?_)
  .refine⟨congrArg (D.int .i64) ?_,Tt⟩
   have:k=xs.length:=by omega
   rw[hc]
   simp[this,ix]
theorem Q5w (xs:List Pai)(hx:xs.length<=9223372036854775807)(f:FuncId)(c0:D)(p:Pai->Bool)(hp:∀s,s∈xs->Pure Tryz.prog f [.agg (Qv s),c0] [.bool (p s)]) :
 Pure Tryz.prog 134 [Xh xs,.fn (.func f) [] [c0]] [.bool (xs.any p)]:=by
 refine Q4 hT (T:=tab) (N:=9) (rs:=[.tmp 4]) Tryz.func134 rfl rfl rfl Kr rfl ?_
 (refine gW ?_;intros)
 refine(Qaf xs hx f c0 p hp).call ?_
 (refine gW ?_;intros)
 refine⟨congrArg D.bool ?_,Tt⟩
 rw[<-Uu p xs 0 Om]
theorem Q71 (s:Pai)(f:FuncId)(b:Bool)(hp:Pure Tryz.prog f [.agg (Qv s)] [.bool b]):Pure Tryz.prog 135 [.agg (Qv s),.pt [.fn (.func f) [] []] 0] [.bool (!b)]:=by
 refine Q4 hT (T:=tab) (N:=8) (rs:=[.tmp 3]) Tryz.func135 rfl rfl rfl Kr rfl ?_
 (refine gW ?_;intros)
 refine hp.call ?_
 (refine gW ?_;intros)
 exact⟨rfl,Tt⟩
theorem Q5m (xs:List Pai)(hx:Qg xs)(f:FuncId)(p:Pai->Bool)(hp:∀s,s∈xs->Pure Tryz.prog f [.agg (Qv s)] [.bool (p s)]):Pure Tryz.prog 76 [Xh xs,.fn (.func f) [] []] [.bool (xs.all p)]:=by
 refine Q4 hT (T:=tab) (N:=9) (rs:=[.tmp 4]) Tryz.func76 rfl rfl rfl Kr rfl ?_
 have hI:=Q5w xs hx 135 (.pt [.fn (.func f) [] []] 0) (fun s=>!p s) fun s hs=>Q71 s f (p s) (hp s hs)
 (refine gW ?_;intros)
 refine hI.loan rfl ⟨.d,.fn' Tt ⟨.ptr' rfl ⟨.d,Tt⟩,Tt⟩,Tt⟩ ?_
 (refine gW ?_;intros)
 refine⟨congrArg D.bool ?_,Tt⟩
 rw[List.not_any_eq_all_not]
 simp
theorem Qae (xs:List Int)(hx:xs.length<=9223372036854775807)(f:FuncId)(c0:D)(p:Int->Bool)(hp:∀s,s∈xs->Pure Tryz.prog f [di s,c0] [.bool (p s)]) :
 Pure Tryz.prog 239 [J6 xs,.fn (.func f) [] [c0]] [di (ix p xs 0)]:=by
 refine Q4 hT (T:=tab) (N:=19) (rs:=[.tmp 4]) Tryz.func239 rfl rfl rfl Kr rfl ?_
 (refine gW ?_;intros)
 refine Q7 hT (S:=Nat) (fun k=>([(0,.d (J6 xs)),(1,.d (.fn (.func f) [] [c0])),(7,dV xs.length),(8,dV k)],⟨[],[]⟩)) (fun k=>k<=xs.length/\ix p xs 0=ix p (xs.drop k) k) (fun k=>xs.length-k) 0 ?_ ?_ ?_
 .exact lq
 .exact⟨Qh3 _,rfl⟩
 .rintro k ⟨hk,hc⟩
  ((refine xW ?_ ?_)<;>intros)
  .refine⟨⟨f,[],[.d c0],.inr ⟨[],[c0],rfl,rfl,rfl⟩,(hp (xs.getD k default) (Qe Om)).call ?_⟩⟩
   ((refine xW ?_ ?_)<;>(intros;try rename_i h))
   .refine⟨congrArg (D.int .i64) ?_,Tt⟩
    rw[hc,Qc Om,ix,if_pos h]
   .refine⟨k+1,⟨by show k+1<=xs.length;omega,?_⟩,by show xs.length-(k+1)<xs.length-k;omega,?_⟩
    .rw[hc,Qc Om,ix,if_neg (by rw[h];exact Qhl)]
     rfl
    .exact lq
  .refine⟨congrArg (D.int .i64) ?_,Tt⟩
   have:k=xs.length:=by omega
   rw[hc]
   simp[this,ix]
theorem Q5v (xs:List Int)(hx:xs.length<=9223372036854775807)(f:FuncId)(c0:D)(p:Int->Bool)(hp:∀s,s∈xs->Pure Tryz.prog f [di s,c0] [.bool (p s)]) :
 Pure Tryz.prog 222 [J6 xs,.fn (.func f) [] [c0]] [.bool (xs.any p)]:=by
 refine Q4 hT (T:=tab) (N:=9) (rs:=[.tmp 4]) Tryz.func222 rfl rfl rfl Kr rfl ?_
 (refine gW ?_;intros)
 refine(Qae xs hx f c0 p hp).call ?_
 (refine gW ?_;intros)
 refine⟨congrArg D.bool ?_,Tt⟩
 rw[<-Uu p xs 0 Om]
theorem Q70 (s:Int)(f:FuncId)(b:Bool)(hp:Pure Tryz.prog f [di s] [.bool b]):Pure Tryz.prog 223 [di s,.pt [.fn (.func f) [] []] 0] [.bool (!b)]:=by
 refine Q4 hT (T:=tab) (N:=8) (rs:=[.tmp 3]) Tryz.func223 rfl rfl rfl Kr rfl ?_
 (refine gW ?_;intros)
 refine hp.call ?_
 (refine gW ?_;intros)
 exact⟨rfl,Tt⟩
theorem Q5l (xs:List Int)(hx:Qg xs)(f:FuncId)(p:Int->Bool)(hp:∀s,s∈xs->Pure Tryz.prog f [di s] [.bool (p s)]):Pure Tryz.prog 189 [J6 xs,.fn (.func f) [] []] [.bool (xs.all p)]:=by
 refine Q4 hT (T:=tab) (N:=9) (rs:=[.tmp 4]) Tryz.func189 rfl rfl rfl Kr rfl ?_
 have hI:=Q5v xs hx 223 (.pt [.fn (.func f) [] []] 0) (fun s=>!p s) fun s hs=>Q70 s f (p s) (hp s hs)
 (refine gW ?_;intros)
 refine hI.loan rfl ⟨.d,.fn' Tt ⟨.ptr' rfl ⟨.d,Tt⟩,Tt⟩,Tt⟩ ?_
 (refine gW ?_;intros)
 refine⟨congrArg D.bool ?_,Tt⟩
 rw[List.not_any_eq_all_not]
 simp
end Go.Proofs.YtmlhghddfobmmaaGreatDoor
