import Derived.Test.YtmlhghddfobmmaaGreatDoorRuleD
namespace Go.Proofs.YtmlhghddfobmmaaGreatDoor
set_option linter.unusedSimpArgs false
set_option linter.unusedVariables false
open Go Go.Ab
set_option maxRecDepth 100000
set_option maxHeartbeats 0
theorem after_none {r:Loop}(h1:r.state=.ready)(h2:r.pending=none):after r none=r:=by
 cases r
 simp only at h1 h2
 subst h1;subst h2
 rfl
theorem yieldMono {P:Program}{b:Nat}{args:List AV}{m:Mem}{K K':AV->Mem->Prop}(h:YieldVC P b args m K)(hk:∀A m',K A m'->K' A m'):YieldVC P b args m K' :=
 ⟨fun σ F w vals h1 h2=>by
  obtain⟨fn,t,a,c,hy,hr⟩:=h.run σ F w vals h1 h2
  exact⟨fn,t,a,c,hy,hr.mono fun _ _ ⟨v,A,m',σ',F',x,y,z⟩=>⟨v,A,m',σ',F',x,hk _ _ y,z⟩⟩⟩
def wfR (r:Rule):Prop:=∀p∈preR 1 r,In1 p.2
theorem preR_shift:∀(r:Rule) (d e:Nat),(preR d r).map Prod.snd=(preR e r).map Prod.snd:=by
 refine rule_ind fun r ih d e=>?_
 have key:∀ks:List Rule,(∀k∈ks,∀d e,(preR d k).map Prod.snd=(preR e k).map Prod.snd)->∀d e,(preL d ks).map Prod.snd=(preL e ks).map Prod.snd:=by
  intro ks
  induction ks with
  |nil=>intro _ d e;rw[preL_nil,preL_nil]
  | cons k ks ihk =>
    intro h d e
    rw[preL_cons,preL_cons,List.map_append,List.map_append,h k (by simp) d e,ihk (fun x hx=>h x (by simp[hx])) d e]
 rw[preR_eq,preR_eq,List.map_cons,List.map_cons,key r.kids ih (d+1) (e+1)]
theorem preL_mem {d:Nat}{p:Nat × Rule}:∀{ks:List Rule},p∈preL d ks↔∃k∈ks,p∈preR d k
 |[]=>by rw[preL_nil];simp
 |k::ks=>by rw[preL_cons,List.mem_append,preL_mem (ks:=ks)];simp
theorem wfR_any {r:Rule}(h:wfR r)(d:Nat):∀p∈preR d r,In1 p.2:=by
 intro p hp
 have h1:p.2∈(preR d r).map Prod.snd:=List.mem_map_of_mem hp
 rw[preR_shift r d 1]at h1
 obtain⟨p',h2,h3⟩:=List.mem_map.1 h1
 rw[<-h3]
 exact h p' h2
theorem wfR_kids {r:Rule}(h:wfR r):In1 r/\∀k∈r.kids,wfR k:=by
 refine⟨h (1,r) (by rw[preR_eq];simp),fun k hk p hp=>?_⟩
 have h1:p.2∈(preR 2 k).map Prod.snd:=by rw[preR_shift k 2 1];exact List.mem_map_of_mem hp
 obtain⟨p',h2,h3⟩:=List.mem_map.1 h1
 rw[<-h3]
 refine h p' ?_
 rw[preR_eq]
 exact List.mem_cons_of_mem _ (preL_mem.2 ⟨k,hk,h2⟩)
def visP (cont:List (Nat × Rule)->Bool):List (Nat × Rule)->List (Nat × Rule)->List (Nat × Rule)
 |[],q=>q
 |x::r,q=>if cont (q++[x])=true then visP cont r (q++[x]) else q++[x]
theorem visP_app (cont:List (Nat × Rule)->Bool):∀(a b q:List (Nat × Rule)),cont q=true->visP cont (a++b) q=if cont (visP cont a q)=true then visP cont b (visP cont a q) else visP cont a q
 |[],b,q,h=>by rw[List.nil_append,visP,if_pos h]
 | x :: a,b,q,h=>by
   rw[List.cons_append,visP,visP]
   by_cases h1:cont (q++[x])=true
   .rw[if_pos h1,if_pos h1,visP_app cont a b _ h1]
   .rw[if_neg h1,if_neg h1,if_neg h1]
def okP (q:List (Nat × Rule)):Bool:=decide (q.length<=200)&&q.all fun p=>decide (p.1<=16)&&formedR p.2
theorem parts_ok (r:Rule):CallVC Tryz.prog 182 [.d (.agg (eRule r))] ⟨[],[]⟩
 (Ret (fun _:Unit=>([.fn (.func 218) [] [lp 1,lp 0]],⟨[bX 66 (up (eRule r)),bX 261 [.fn (.func 217) [] [lp 1]]],[]⟩)) fun _=>True):=by
 refine call_rule hT (T:=tab) (N:=6) (rs:=[.tmp 2]) _ _ Tryz.func182 rfl rfl rfl Kr rfl ?_
 (refine gW ?_;intros)
 exact⟨(),Tt,by repeat' (first|exact Tt|exact rfl|exact Nat.le_refl _|refine And.intro ?_ ?_),rfl⟩
theorem walkC_ok (rec:Loop)(r0:Rule)(y:Nat)(cont:List (Nat × Rule)->Bool):∀(r:Rule) (d:Nat) (q:List (Nat × Rule)),wfR r->d<=1000000->cont q=true->(∀q x,x∈preR d r->cont (q++[x])=true->x.1<=999999) ->
 (∀ q:List (Nat × Rule),cont q=true→∀ x∈preR d r,YieldVC Tryz.prog y [.d (.int .i64 x.1),.d (.agg (eRule x.2))] ⟨[],[some (.box 261 [.fn (.func 217) [] [.ptr (.arg 0) 0 0 0]]),some (.box 66 (up (eRule r0))),some (.box 38 [.d (.int .i64 (bif okP q then 0 else 120))]),some (.box 3 [.d (.int .i64 q.length)]),some (.loop y (bif okP q then rec else after rec (some .ret)) [(2,.ptr (.arg 2) 0 0 0),(3,.ptr (.arg 3) 0 0 0)])]⟩
  (Ret (fun q:List (Nat × Rule)=>([.d (.bool (cont q))],⟨[],[bX 261 [.fn (.func 217) [] [ap 0]],bX 66 (up (eRule r0)),bX 38 [dV (bif okP q then 0 else 120)],bX 3 [dV q.length],some (.loop y (bif okP q then rec else after rec (some .ret)) [(2,ap 2),(3,ap 3)])]⟩)) fun q'=>q'=q++[x])) ->
 CallVC Tryz.prog 217 [.d (.agg (eRule r)),dV d,.fn (.yield y) [] [],ap 0] ((fun q:List (Nat × Rule)=>⟨[],[bX 261 [.fn (.func 217) [] [ap 0]],bX 66 (up (eRule r0)),bX 38 [dV (bif okP q then 0 else 120)],bX 3 [dV q.length],some (.loop y (bif okP q then rec else after rec (some .ret)) [(2,ap 2),(3,ap 3)])]⟩) q)
  (Ret (fun q:List (Nat × Rule)=>([.d (.bool (cont q))],⟨[],[bX 261 [.fn (.func 217) [] [ap 0]],bX 66 (up (eRule r0)),bX 38 [dV (bif okP q then 0 else 120)],bX 3 [dV q.length],some (.loop y (bif okP q then rec else after rec (some .ret)) [(2,ap 2),(3,ap 3)])]⟩)) fun q'=>q'=visP cont (preR d r) q):=by
 refine rule_ind fun r ih d q hw hd hgo hb hy=>?_
 obtain⟨hw1,hw2⟩:=wfR_kids hw
 refine call_rule hT (T:=tab) (N:=30) (rs:=[.tmp 7]) _ _ Tryz.func217 rfl rfl rfl Kr rfl ?_
 rw[preR_eq,visP]
 (refine gW ?_;intros)
 refine(hy q hgo (d,r) (by rw[preR_eq];simp)).at [.arg 0,.arg 1,.arg 2,.arg 3,.arg 4] rfl ⟨rfl,rfl,rfl,rfl,rfl,Tt⟩ (fun s' hs'=>⟨rfl,?_⟩)
 subst hs'
 cases hc1:cont (q++[(d,r)])
 .rw[if_neg (by simp)]
  (refine gW ?_;intros)
  refine⟨_,rfl,?_,rfl⟩
  dsimp only
  rw[hc1]
  exact lq
 .rw [if_pos rfl]
  have hd2:=hb q (d,r) (by rw[preR_eq];simp) hc1
  dsimp only at hd2
  have hv:visP cont (preL (d+1) r.kids) (q++[(d,r)])=visP cont (preL (d+1) (r.kids.drop 0)) (q++[(d,r)]):=rfl
  (refine gW ?_;intros)
  refine loop_rule hT (S:=Nat × List (Nat × Rule)) (fun z=>([(1,dV d),(2,.fn (.yield y) [] []),(3,ap 0),(16,.d (eRules r.kids)),(17,dV r.kids.length),(18,dV z.1)],(fun q:List (Nat × Rule)=>⟨[],[bX 261 [.fn (.func 217) [] [ap 0]],bX 66 (up (eRule r0)),bX 38 [dV (bif okP q then 0 else 120)],bX 3 [dV q.length],some (.loop y (bif okP q then rec else after rec (some .ret)) [(2,ap 2),(3,ap 3)])]⟩) z.2))
   (fun z=>z.1<=r.kids.length/\cont z.2=true/\visP cont (preL (d+1) r.kids) (q++[(d,r)])=visP cont (preL (d+1) (r.kids.drop z.1)) z.2) (fun z=>r.kids.length-z.1) (0,q++[(d,r)]) ?_ ?_ ?_
  .exact lq
  .exact⟨Nat.zero_le _,hc1,hv⟩
  .rintro⟨k,q1⟩ ⟨hk,hcq,hc⟩
   dsimp only at hk hcq hc⊢
   have hlk:=hw1.2.2.2.2
   by_cases hk2:k<r.kids.length
   .have hne:r.kids≠[]:=fun e=>by rw[e]at hk2;exact absurd hk2 (Nat.not_lt_zero _)
    have hmem:r.kids.getD k default∈r.kids:=getD_mem hk2
    have hsub:∀x∈preR (d+1) (r.kids.getD k default),x∈preR d r:=fun x hx=>by
     rw[preR_eq]
     exact List.mem_cons_of_mem _ (preL_mem.2 ⟨_,hmem,hx⟩)
    have hI:=ih _ hmem (d+1) q1 (hw2 _ hmem) Om hcq (fun q x hx=>hb q x (hsub x hx)) (fun q hq x hx=>hy q hq x (hsub x hx))
    rw[drop_at hk2,preL_cons,visP_app _ _ _ _ hcq]at hc
    rw[eRules_ne hne]
    (refine gW ?_;intros)
    refine⟨⟨_,[],[ap 0],.inl rfl,hI.at [.arg 0,.arg 1,.arg 2,.arg 3,.arg 4] rfl ⟨rfl,rfl,rfl,rfl,rfl,Tt⟩ (fun s' hs'=>⟨rfl,?_⟩)⟩⟩
    subst hs'
    cases hc2:cont (visP cont (preR (d+1) (r.kids.getD k default)) q1)
    .rw[if_neg (by rw[hc2];simp)]at hc
     (refine gW ?_;intros)
     refine⟨_,hc.symm,?_,rfl⟩
     dsimp only
     rw[hc2]
     exact lq
    .rw[if_pos hc2]at hc
     (refine gW ?_;intros)
     refine stp ((k+1,visP cont (preR (d+1) (r.kids.getD k default)) q1)) ?_ ⟨by show k+1<=r.kids.length;omega,hc2,hc⟩
     exact lq
   .rw[drop_end Om,preL_nil,visP]at hc
    (refine gW ?_;intros)
    refine⟨_,hc.symm,?_,rfl⟩
    dsimp only
    rw[hcq]
    exact lq
theorem partsC_ok (rec:Loop)(y:Nat)(cont:List (Nat × Rule)->Bool)(r0:Rule)(hw:wfR r0)(hgo:cont []=true)(hb:∀q x,x∈preR 1 r0->cont (q++[x])=true->x.1<=999999)
 (hy:∀ q:List (Nat × Rule),cont q=true→∀ x∈preR 1 r0,YieldVC Tryz.prog y [.d (.int .i64 x.1),.d (.agg (eRule x.2))] ⟨[],[some (.box 261 [.fn (.func 217) [] [.ptr (.arg 0) 0 0 0]]),some (.box 66 (up (eRule r0))),some (.box 38 [.d (.int .i64 (bif okP q then 0 else 120))]),some (.box 3 [.d (.int .i64 q.length)]),some (.loop y (bif okP q then rec else after rec (some .ret)) [(2,.ptr (.arg 2) 0 0 0),(3,.ptr (.arg 3) 0 0 0)])]⟩
  (Ret (fun q:List (Nat × Rule)=>([.d (.bool (cont q))],⟨[],[bX 261 [.fn (.func 217) [] [ap 0]],bX 66 (up (eRule r0)),bX 38 [dV (bif okP q then 0 else 120)],bX 3 [dV q.length],some (.loop y (bif okP q then rec else after rec (some .ret)) [(2,ap 2),(3,ap 3)])]⟩)) fun q'=>q'=q++[x])) :
 CallVC Tryz.prog 218 [.fn (.yield y) [] [],ap 0,ap 1] ((fun q:List (Nat × Rule)=>⟨[],[bX 261 [.fn (.func 217) [] [ap 0]],bX 66 (up (eRule r0)),bX 38 [dV (bif okP q then 0 else 120)],bX 3 [dV q.length],some (.loop y (bif okP q then rec else after rec (some .ret)) [(2,ap 2),(3,ap 3)])]⟩) [])
  (Ret (fun q:List (Nat × Rule)=>([],⟨[],[bX 261 [.fn (.func 217) [] [ap 0]],bX 66 (up (eRule r0)),bX 38 [dV (bif okP q then 0 else 120)],bX 3 [dV q.length],some (.loop y (bif okP q then rec else after rec (some .ret)) [(2,ap 2),(3,ap 3)])]⟩)) fun q'=>q'=visP cont (preR 1 r0) []):=by
 refine call_rule hT (T:=tab) (N:=8) (rs:=[]) _ _ Tryz.func218 rfl rfl rfl Kr rfl ?_
 have hW:=walkC_ok rec r0 y cont r0 1 [] hw Dc hgo hb hy
 (refine gW ?_;intros)
 refine⟨⟨_,[],[ap 0],.inl rfl,hW.at [.arg 0,.arg 1,.arg 2,.arg 3,.arg 4] rfl ⟨rfl,rfl,rfl,rfl,rfl,Tt⟩ (fun s' hs'=>⟨rfl,?_⟩)⟩⟩
 subst hs'
 (refine gW ?_;intros)
 refine⟨_,rfl,?_,rfl⟩
 dsimp only
 exact lq
theorem okP_snoc (q:List (Nat × Rule))(x:Nat × Rule)(h:okP q=true):okP (q++[x])=(decide (q.length+1<=200)&&(decide (x.1<=16)&&formedR x.2)):=by
 unfold okP at h⊢
 rw[Bool.and_eq_true]at h
 rw[List.all_append,h.2,Bool.true_and,List.length_append]
 simp
theorem okP_pre (a b:List (Nat × Rule))(h:okP (a++b)=true):okP a=true:=by
 unfold okP at h⊢
 rw[Bool.and_eq_true,List.all_append,Bool.and_eq_true,List.length_append]at h
 rw[Bool.and_eq_true]
 refine⟨?_,h.2.1⟩
 have:=of_decide_eq_true h.1
 exact decide_eq_true Om
theorem visP_mono (cont:List (Nat × Rule)->Bool)(hc:∀a b,cont (a++b)=true->cont a=true):∀(l q:List (Nat × Rule)),cont (visP cont l q)=cont (q++l)
 |[],q=>by rw[visP,List.append_nil]
 | x :: r,q=>by
   rw[visP]
   have e:q++x::r=(q++[x])++r:=by simp
   by_cases h:cont (q++[x])=true
   .rw[if_pos h,visP_mono cont hc r,e]
   .rw[if_neg h,e]
    cases h2:cont (q++[x]++r)
    .simpa using h
    .exact absurd (hc _ _ h2) h
theorem okP_chk (r:Rule):(bif okP (preR 1 r) then(0:Int) else 120)=chkR r:=by
 unfold chkR okP
 obtain⟨h1,p,h2,h3⟩:=preR_dep r 1
 rw[preR_len]
 by_cases a:cntR r<=200
 .by_cases b:depR r<=16
  .have e:((preR 1 r).all fun p=>decide (p.1<=16)&&formedR p.2)=allF r:=by
    unfold allF
    refine Bool.eq_iff_iff.2 ?_
    rw[List.all_eq_true,List.all_eq_true]
    refine⟨fun h x hx=>?_,fun h x hx=>?_⟩
    .have:=h x hx
     simp at this
     exact this.2
    .have h5:=h1 x hx
     have h6:=h x hx
     simp[h6]
     omega
   rw[e]
   cases allF r<;>simp[a,b]
  .have e:((preR 1 r).all fun p=>decide (p.1<=16)&&formedR p.2)=false:=by
    rw[List.all_eq_false]
    refine⟨p,h2,?_⟩
    simp
    omega
   rw[e]
   simp[b]
 .simp[a]
theorem check_ok (r:Rule)(hw:wfR r):Pure Tryz.prog 144 [.agg (eRule r)] [di (chkR r)]:=by
 rw[<-okP_chk]
 refine pure_rule hT (T:=tab) (N:=23) (rs:=[.cell 2 38]) Tryz.func144 rfl rfl rfl Kr rfl ?_
 (refine gW ?_;intros)
 refine(parts_ok r).at [] rfl Tt (fun _ _=>⟨rfl,?_⟩)
 (refine gW ?_;intros)
 refine Awp.range (caps:=[lp 4,lp 3]) [(2,lp 1),(3,lp 2)] (.inl rfl) (nl:=5) (na:=0) ⟨⟨rfl,rfl⟩,⟨rfl,rfl⟩,Tt⟩ ?_
 intro y rec h1 h2 h3 h4 h5 h6
 refine(partsC_ok rec y okP r hw rfl (fun q x _ h=>?_) ?_).at [.loc 4,.loc 3,.loc 1,.loc 2,.loc 5] rfl ⟨rfl,rfl,rfl,rfl,rfl,Tt⟩ (fun s hs=>⟨rfl,?_⟩)
 .have:=okP_pre
  unfold okP at h
  simp at h
  omega
 .intro q hcq x hx
  have hI:=wfR_any hw 1 x hx
  have hql:q.length<=200:=by
   unfold okP at hcq
   rw[Bool.and_eq_true]at hcq
   exact of_decide_eq_true hcq.1
  have hF:=formed_ok x.2 hI
  rw[hcq]
  refine yieldMono (yield_rule (N:=23) (ps:=[8,9]) (args:=[dV x.1,.d (.agg (eRule x.2))])
   (bs:=[bX 261 [.fn (.func 217) [] [ap 0]],bX 66 (up (eRule r)),bX 38 [dV 0],bX 3 [dV q.length]]) (env0:=[(2,ap 2),(3,ap 3)])
   (fun b:Bool=>[bX 261 [.fn (.func 217) [] [ap 0]],bX 66 (up (eRule r)),bX 38 [dV (bif b then 0 else 120)],bX 3 [dV ((q.length:Int)+1)]]) (fun b:Bool=>bif b then none else some .ret) (fun b=>b=okP (q++[x])) h1 h3 h4 h5 h6 rfl (by simp) ?_ rfl rfl ?_) ?_
  .exact lq
  .rw [okP_snoc q x hcq]
   refine Awp.of_vc hT ?_
   (refine gW ?_;intros)
   refine Awp.of_vc hT ?_
   by_cases e1:q.length+1<=200
   .by_cases e2:x.1<=16
    .cases e3:formedR x.2
     .rw[e3]at hF
      (refine gW ?_;intros)
      refine hF.call ?_
      (refine gW ?_;intros)
      exact⟨false,by simp,rfl,rfl,by repeat' (first|exact Tt|exact rfl|exact Nat.le_refl _|refine And.intro ?_ ?_)⟩
     .rw[e3]at hF
      (refine gW ?_;intros)
      refine hF.call ?_
      (refine gW ?_;intros)
      exact⟨true,by simp[e1,e2],rfl,rfl,by repeat' (first|exact Tt|exact rfl|exact Nat.le_refl _|refine And.intro ?_ ?_)⟩
    ·(refine gW ?_;intros)
     exact⟨false,by simp[e2],rfl,rfl,by repeat' (first|exact Tt|exact rfl|exact Nat.le_refl _|refine And.intro ?_ ?_)⟩
   ·(refine gW ?_;intros)
    exact⟨false,by simp;omega,rfl,rfl,by repeat' (first|exact Tt|exact rfl|exact Nat.le_refl _|refine And.intro ?_ ?_)⟩
  .rintro A m' ⟨b,hJ,rfl,rfl⟩
   refine⟨q++[x],rfl,?_,?_⟩
   .dsimp only
    rw[<-hJ]
    cases b<;>rfl
   .dsimp only
    rw[<-hJ,show(((q++[x]).length:Nat):Int)=(q.length:Int)+1 by rw[len_snoc];rfl]
    cases b
    .rfl
    .show(⟨[],[some _,some _,some _,some _,some (.loop y (after rec none) _)]⟩:Mem)=_
     rw[after_none h1 h2]
     rfl
 .have hv:okP s=okP (preR 1 r):=by rw[hs,visP_mono okP okP_pre];rfl
  dsimp only
  rw[hv]
  cases okP (preR 1 r)
  ·(refine gW ?_;intros)
   refine⟨some .ret,rfl,?_⟩
   refine Awp.of_vc hT ?_
   (refine gW ?_;intros)
   exact⟨rfl,Tt⟩
  ·(refine gW ?_;intros)
   refine⟨none,by rw[after_none h1 h2];rfl,?_⟩
   show Sq _ _
   (refine gW ?_;intros)
   exact⟨rfl,Tt⟩
structure Crs where
 name:ByteArray
 number:Int
 credits:Int
 rep:Int
 need:Rule
 bar:Rule
 deriving Inhabited
def eCrs (c:Crs):List D:=[.str c.name,di c.number,di c.credits,di c.rep,di c.need.op,di c.need.course,.str c.need.name,di c.need.n,di c.need.d,eRules c.need.kids,
 di c.bar.op,di c.bar.course,.str c.bar.name,di c.bar.n,di c.bar.d,eRules c.bar.kids]
def eCrss (xs:List Crs):D:=.sl 16 xs.length fun i=>eCrs (xs.getD i default)
def eStrs (xs:List ByteArray):D:=.sl 1 xs.length fun i=>[.str (xs.getD i default)]
structure Req where
 name:ByteArray
 credits:Int
 grade:Int
 home:Bool
 names:List ByteArray
 fr:List Int
 deriving Inhabited
def eReq (q:Req):List D:=[.str q.name,di q.credits,di q.grade,.bool q.home,eStrs q.names,eInts q.fr]
def eReqs (xs:List Req):D:=.sl 6 xs.length fun i=>eReq (xs.getD i default)
structure Prg where
 name:ByteArray
 number:Int
 uses:Int
 earn:Int
 mn:Int
 md:Int
 reqs:List Req
 deriving Inhabited
def ePrg (p:Prg):List D:=[.str p.name,di p.number,di p.uses,di p.earn,di p.mn,di p.md,eReqs p.reqs]
def ePrgs (xs:List Prg):D:=.sl 7 xs.length fun i=>ePrg (xs.getD i default)
structure Cls where
 name:ByteArray
 earn:Int
 mn:Int
 md:Int
 deriving Inhabited
def eCls (x:Cls):List D:=[.str x.name,di x.earn,di x.mn,di x.md]
def eClss (xs:List Cls):D:=.sl 4 xs.length fun i=>eCls (xs.getD i default)
structure Fee where
 name:ByteArray
 credits:Int
 deriving Inhabited
def eFee (x:Fee):List D:=[.str x.name,di x.credits]
def eFees (xs:List Fee):D:=.sl 2 xs.length fun i=>eFee (xs.getD i default)
structure Cla where
 kind:Int
 whn:Int
 action:Int
 til:Int
 deriving Inhabited
def eCla (x:Cla):List D:=[di x.kind,di x.whn,di x.action,di x.til]
def eClas (xs:List Cla):D:=.sl 4 xs.length fun i=>eCla (xs.getD i default)
structure Sys where
 classes:List Cls
 fees:List Fee
 honours:List Cls
 clauses:List Cla
 deriving Inhabited
def eSys (s:Sys):List D:=[eClss s.classes,eFees s.fees,eClss s.honours,eClas s.clauses]
def eSyss (xs:List Sys):D:=.sl 4 xs.length fun i=>eSys (xs.getD i default)
structure Pai where
 a:ByteArray
 b:ByteArray
 x:Int
 y:Int
 deriving Inhabited
def ePai (p:Pai):List D:=[.str p.a,.str p.b,di p.x,di p.y]
def ePais (xs:List Pai):D:=.sl 4 xs.length fun i=>ePai (xs.getD i default)
structure Fct where
 kind:Int
 subject:Int
 object:Int
 value:Int
 fr:Int
 til:Int
 known:Int
 no:Int
 deriving Inhabited,DecidableEq
def eFct (f:Fct):List D:=[di f.kind,di f.subject,di f.object,di f.value,di f.fr,di f.til,di f.known,di f.no]
def eFcts (xs:List Fct):D:=.sl 8 xs.length fun i=>eFct (xs.getD i default)
structure Red where
 kind:Int
 subject:Int
 object:Int
 fr:Int
 til:Int
 deriving Inhabited,DecidableEq
def eRed (r:Red):List D:=[di r.kind,di r.subject,di r.object,di r.fr,di r.til]
def eReds (xs:List Red):D:=.sl 5 xs.length fun i=>eRed (xs.getD i default)
def fitL {α:Type}(xs:List α):Prop:=xs.length<=9223372036854775807
theorem idxCrs_ok (xs:List Crs)(hx:xs.length<=9223372036854775807)(f:FuncId)(c0:D)(p:Crs->Bool)(hp:∀s,s∈xs->Pure Tryz.prog f [.agg (eCrs s),c0] [.bool (p s)]) :
 Pure Tryz.prog 170 [eCrss xs,.fn (.func f) [] [c0]] [di (ix p xs 0)]:=by
 refine pure_rule hT (T:=tab) (N:=19) (rs:=[.tmp 4]) Tryz.func170 rfl rfl rfl Kr rfl ?_
 (refine gW ?_;intros)
 refine loop_rule hT (S:=Nat) (fun k=>([(0,.d (eCrss xs)),(1,.d (.fn (.func f) [] [c0])),(7,dV xs.length),(8,dV k)],⟨[],[]⟩)) (fun k=>k<=xs.length/\ix p xs 0=ix p (xs.drop k) k) (fun k=>xs.length-k) 0 ?_ ?_ ?_
 .repeat' (first|exact Tt|exact rfl|exact Nat.le_refl _|refine And.intro ?_ ?_)
 .exact⟨Nat.zero_le _,rfl⟩
 .rintro k ⟨hk,hc⟩
  ((refine xW ?_ ?_)<;>intros)
  .refine⟨⟨f,[],[.d c0],.inr ⟨[],[c0],rfl,rfl,rfl⟩,(hp (xs.getD k default) (getD_mem Om)).call ?_⟩⟩
   ((refine xW ?_ ?_)<;>(intros;try rename_i h))
   .refine⟨congrArg (D.int .i64) ?_,Tt⟩
    rw[hc,drop_at Om,ix,if_pos h]
   .refine⟨k+1,⟨by show k+1<=xs.length;omega,?_⟩,by show xs.length-(k+1)<xs.length-k;omega,?_⟩
    .rw[hc,drop_at Om,ix,if_neg (by rw[h];exact Bool.false_ne_true)]
     rfl
    .repeat' (first|exact Tt|exact rfl|exact Nat.le_refl _|refine And.intro ?_ ?_)
  .refine⟨congrArg (D.int .i64) ?_,Tt⟩
   have:k=xs.length:=by omega
   rw[hc]
   simp[this,ix]
theorem anyCrs_ok (xs:List Crs)(hx:xs.length<=9223372036854775807)(f:FuncId)(c0:D)(p:Crs->Bool)(hp:∀s,s∈xs->Pure Tryz.prog f [.agg (eCrs s),c0] [.bool (p s)]) :
 Pure Tryz.prog 142 [eCrss xs,.fn (.func f) [] [c0]] [.bool (xs.any p)]:=by
 refine pure_rule hT (T:=tab) (N:=9) (rs:=[.tmp 4]) Tryz.func142 rfl rfl rfl Kr rfl ?_
 (refine gW ?_;intros)
 refine(idxCrs_ok xs hx f c0 p hp).call ?_
 (refine gW ?_;intros)
 refine⟨congrArg D.bool ?_,Tt⟩
 rw[<-ix_ge p xs 0 Om]
theorem cloCrs_ok (s:Crs)(f:FuncId)(b:Bool)(hp:Pure Tryz.prog f [.agg (eCrs s)] [.bool b]):Pure Tryz.prog 143 [.agg (eCrs s),.pt [.fn (.func f) [] []] 0] [.bool (!b)]:=by
 refine pure_rule hT (T:=tab) (N:=8) (rs:=[.tmp 3]) Tryz.func143 rfl rfl rfl Kr rfl ?_
 (refine gW ?_;intros)
 refine hp.call ?_
 (refine gW ?_;intros)
 exact⟨rfl,Tt⟩
theorem allCrs_ok (xs:List Crs)(hx:fitL xs)(f:FuncId)(p:Crs->Bool)(hp:∀s,s∈xs->Pure Tryz.prog f [.agg (eCrs s)] [.bool (p s)]):Pure Tryz.prog 87 [eCrss xs,.fn (.func f) [] []] [.bool (xs.all p)]:=by
 refine pure_rule hT (T:=tab) (N:=9) (rs:=[.tmp 4]) Tryz.func87 rfl rfl rfl Kr rfl ?_
 have hI:=anyCrs_ok xs hx 143 (.pt [.fn (.func f) [] []] 0) (fun s=>!p s) fun s hs=>cloCrs_ok s f (p s) (hp s hs)
 (refine gW ?_;intros)
 refine hI.loan rfl ⟨.d,.fn' Tt ⟨.ptr' rfl ⟨.d,Tt⟩,Tt⟩,Tt⟩ ?_
 (refine gW ?_;intros)
 refine⟨congrArg D.bool ?_,Tt⟩
 rw[List.not_any_eq_all_not]
 simp
theorem idxPrg_ok (xs:List Prg)(hx:xs.length<=9223372036854775807)(f:FuncId)(c0:D)(p:Prg->Bool)(hp:∀s,s∈xs->Pure Tryz.prog f [.agg (ePrg s),c0] [.bool (p s)]) :
 Pure Tryz.prog 184 [ePrgs xs,.fn (.func f) [] [c0]] [di (ix p xs 0)]:=by
 refine pure_rule hT (T:=tab) (N:=19) (rs:=[.tmp 4]) Tryz.func184 rfl rfl rfl Kr rfl ?_
 (refine gW ?_;intros)
 refine loop_rule hT (S:=Nat) (fun k=>([(0,.d (ePrgs xs)),(1,.d (.fn (.func f) [] [c0])),(7,dV xs.length),(8,dV k)],⟨[],[]⟩)) (fun k=>k<=xs.length/\ix p xs 0=ix p (xs.drop k) k) (fun k=>xs.length-k) 0 ?_ ?_ ?_
 .repeat' (first|exact Tt|exact rfl|exact Nat.le_refl _|refine And.intro ?_ ?_)
 .exact⟨Nat.zero_le _,rfl⟩
 .rintro k ⟨hk,hc⟩
  ((refine xW ?_ ?_)<;>intros)
  .refine⟨⟨f,[],[.d c0],.inr ⟨[],[c0],rfl,rfl,rfl⟩,(hp (xs.getD k default) (getD_mem Om)).call ?_⟩⟩
   ((refine xW ?_ ?_)<;>(intros;try rename_i h))
   .refine⟨congrArg (D.int .i64) ?_,Tt⟩
    rw[hc,drop_at Om,ix,if_pos h]
   .refine⟨k+1,⟨by show k+1<=xs.length;omega,?_⟩,by show xs.length-(k+1)<xs.length-k;omega,?_⟩
    .rw[hc,drop_at Om,ix,if_neg (by rw[h];exact Bool.false_ne_true)]
     rfl
    .repeat' (first|exact Tt|exact rfl|exact Nat.le_refl _|refine And.intro ?_ ?_)
  .refine⟨congrArg (D.int .i64) ?_,Tt⟩
   have:k=xs.length:=by omega
   rw[hc]
   simp[this,ix]
theorem anyPrg_ok (xs:List Prg)(hx:xs.length<=9223372036854775807)(f:FuncId)(c0:D)(p:Prg->Bool)(hp:∀s,s∈xs->Pure Tryz.prog f [.agg (ePrg s),c0] [.bool (p s)]) :
 Pure Tryz.prog 145 [ePrgs xs,.fn (.func f) [] [c0]] [.bool (xs.any p)]:=by
 refine pure_rule hT (T:=tab) (N:=9) (rs:=[.tmp 4]) Tryz.func145 rfl rfl rfl Kr rfl ?_
 (refine gW ?_;intros)
 refine(idxPrg_ok xs hx f c0 p hp).call ?_
 (refine gW ?_;intros)
 refine⟨congrArg D.bool ?_,Tt⟩
 rw[<-ix_ge p xs 0 Om]
theorem cloPrg_ok (s:Prg)(f:FuncId)(b:Bool)(hp:Pure Tryz.prog f [.agg (ePrg s)] [.bool b]):Pure Tryz.prog 146 [.agg (ePrg s),.pt [.fn (.func f) [] []] 0] [.bool (!b)]:=by
 refine pure_rule hT (T:=tab) (N:=8) (rs:=[.tmp 3]) Tryz.func146 rfl rfl rfl Kr rfl ?_
 (refine gW ?_;intros)
 refine hp.call ?_
 (refine gW ?_;intros)
 exact⟨rfl,Tt⟩
theorem allPrg_ok (xs:List Prg)(hx:fitL xs)(f:FuncId)(p:Prg->Bool)(hp:∀s,s∈xs->Pure Tryz.prog f [.agg (ePrg s)] [.bool (p s)]):Pure Tryz.prog 89 [ePrgs xs,.fn (.func f) [] []] [.bool (xs.all p)]:=by
 refine pure_rule hT (T:=tab) (N:=9) (rs:=[.tmp 4]) Tryz.func89 rfl rfl rfl Kr rfl ?_
 have hI:=anyPrg_ok xs hx 146 (.pt [.fn (.func f) [] []] 0) (fun s=>!p s) fun s hs=>cloPrg_ok s f (p s) (hp s hs)
 (refine gW ?_;intros)
 refine hI.loan rfl ⟨.d,.fn' Tt ⟨.ptr' rfl ⟨.d,Tt⟩,Tt⟩,Tt⟩ ?_
 (refine gW ?_;intros)
 refine⟨congrArg D.bool ?_,Tt⟩
 rw[List.not_any_eq_all_not]
 simp
theorem idxSys_ok (xs:List Sys)(hx:xs.length<=9223372036854775807)(f:FuncId)(c0:D)(p:Sys->Bool)(hp:∀s,s∈xs->Pure Tryz.prog f [.agg (eSys s),c0] [.bool (p s)]) :
 Pure Tryz.prog 190 [eSyss xs,.fn (.func f) [] [c0]] [di (ix p xs 0)]:=by
 refine pure_rule hT (T:=tab) (N:=19) (rs:=[.tmp 4]) Tryz.func190 rfl rfl rfl Kr rfl ?_
 (refine gW ?_;intros)
 refine loop_rule hT (S:=Nat) (fun k=>([(0,.d (eSyss xs)),(1,.d (.fn (.func f) [] [c0])),(7,dV xs.length),(8,dV k)],⟨[],[]⟩)) (fun k=>k<=xs.length/\ix p xs 0=ix p (xs.drop k) k) (fun k=>xs.length-k) 0 ?_ ?_ ?_
 .repeat' (first|exact Tt|exact rfl|exact Nat.le_refl _|refine And.intro ?_ ?_)
 .exact⟨Nat.zero_le _,rfl⟩
 .rintro k ⟨hk,hc⟩
  ((refine xW ?_ ?_)<;>intros)
  .refine⟨⟨f,[],[.d c0],.inr ⟨[],[c0],rfl,rfl,rfl⟩,(hp (xs.getD k default) (getD_mem Om)).call ?_⟩⟩
   ((refine xW ?_ ?_)<;>(intros;try rename_i h))
   .refine⟨congrArg (D.int .i64) ?_,Tt⟩
    rw[hc,drop_at Om,ix,if_pos h]
   .refine⟨k+1,⟨by show k+1<=xs.length;omega,?_⟩,by show xs.length-(k+1)<xs.length-k;omega,?_⟩
    .rw[hc,drop_at Om,ix,if_neg (by rw[h];exact Bool.false_ne_true)]
     rfl
    .repeat' (first|exact Tt|exact rfl|exact Nat.le_refl _|refine And.intro ?_ ?_)
  .refine⟨congrArg (D.int .i64) ?_,Tt⟩
   have:k=xs.length:=by omega
   rw[hc]
   simp[this,ix]
theorem anySys_ok (xs:List Sys)(hx:xs.length<=9223372036854775807)(f:FuncId)(c0:D)(p:Sys->Bool)(hp:∀s,s∈xs->Pure Tryz.prog f [.agg (eSys s),c0] [.bool (p s)]) :
 Pure Tryz.prog 150 [eSyss xs,.fn (.func f) [] [c0]] [.bool (xs.any p)]:=by
 refine pure_rule hT (T:=tab) (N:=9) (rs:=[.tmp 4]) Tryz.func150 rfl rfl rfl Kr rfl ?_
 (refine gW ?_;intros)
 refine(idxSys_ok xs hx f c0 p hp).call ?_
 (refine gW ?_;intros)
 refine⟨congrArg D.bool ?_,Tt⟩
 rw[<-ix_ge p xs 0 Om]
theorem cloSys_ok (s:Sys)(f:FuncId)(b:Bool)(hp:Pure Tryz.prog f [.agg (eSys s)] [.bool b]):Pure Tryz.prog 151 [.agg (eSys s),.pt [.fn (.func f) [] []] 0] [.bool (!b)]:=by
 refine pure_rule hT (T:=tab) (N:=8) (rs:=[.tmp 3]) Tryz.func151 rfl rfl rfl Kr rfl ?_
 (refine gW ?_;intros)
 refine hp.call ?_
 (refine gW ?_;intros)
 exact⟨rfl,Tt⟩
theorem allSys_ok (xs:List Sys)(hx:fitL xs)(f:FuncId)(p:Sys->Bool)(hp:∀s,s∈xs->Pure Tryz.prog f [.agg (eSys s)] [.bool (p s)]):Pure Tryz.prog 91 [eSyss xs,.fn (.func f) [] []] [.bool (xs.all p)]:=by
 refine pure_rule hT (T:=tab) (N:=9) (rs:=[.tmp 4]) Tryz.func91 rfl rfl rfl Kr rfl ?_
 have hI:=anySys_ok xs hx 151 (.pt [.fn (.func f) [] []] 0) (fun s=>!p s) fun s hs=>cloSys_ok s f (p s) (hp s hs)
 (refine gW ?_;intros)
 refine hI.loan rfl ⟨.d,.fn' Tt ⟨.ptr' rfl ⟨.d,Tt⟩,Tt⟩,Tt⟩ ?_
 (refine gW ?_;intros)
 refine⟨congrArg D.bool ?_,Tt⟩
 rw[List.not_any_eq_all_not]
 simp
theorem idxReq_ok (xs:List Req)(hx:xs.length<=9223372036854775807)(f:FuncId)(c0:D)(p:Req->Bool)(hp:∀s,s∈xs->Pure Tryz.prog f [.agg (eReq s),c0] [.bool (p s)]) :
 Pure Tryz.prog 221 [eReqs xs,.fn (.func f) [] [c0]] [di (ix p xs 0)]:=by
 refine pure_rule hT (T:=tab) (N:=19) (rs:=[.tmp 4]) Tryz.func221 rfl rfl rfl Kr rfl ?_
 (refine gW ?_;intros)
 refine loop_rule hT (S:=Nat) (fun k=>([(0,.d (eReqs xs)),(1,.d (.fn (.func f) [] [c0])),(7,dV xs.length),(8,dV k)],⟨[],[]⟩)) (fun k=>k<=xs.length/\ix p xs 0=ix p (xs.drop k) k) (fun k=>xs.length-k) 0 ?_ ?_ ?_
 .repeat' (first|exact Tt|exact rfl|exact Nat.le_refl _|refine And.intro ?_ ?_)
 .exact⟨Nat.zero_le _,rfl⟩
 .rintro k ⟨hk,hc⟩
  ((refine xW ?_ ?_)<;>intros)
  .refine⟨⟨f,[],[.d c0],.inr ⟨[],[c0],rfl,rfl,rfl⟩,(hp (xs.getD k default) (getD_mem Om)).call ?_⟩⟩
   ((refine xW ?_ ?_)<;>(intros;try rename_i h))
   .refine⟨congrArg (D.int .i64) ?_,Tt⟩
    rw[hc,drop_at Om,ix,if_pos h]
   .refine⟨k+1,⟨by show k+1<=xs.length;omega,?_⟩,by show xs.length-(k+1)<xs.length-k;omega,?_⟩
    .rw[hc,drop_at Om,ix,if_neg (by rw[h];exact Bool.false_ne_true)]
     rfl
    .repeat' (first|exact Tt|exact rfl|exact Nat.le_refl _|refine And.intro ?_ ?_)
  .refine⟨congrArg (D.int .i64) ?_,Tt⟩
   have:k=xs.length:=by omega
   rw[hc]
   simp[this,ix]
theorem anyReq_ok (xs:List Req)(hx:xs.length<=9223372036854775807)(f:FuncId)(c0:D)(p:Req->Bool)(hp:∀s,s∈xs->Pure Tryz.prog f [.agg (eReq s),c0] [.bool (p s)]) :
 Pure Tryz.prog 186 [eReqs xs,.fn (.func f) [] [c0]] [.bool (xs.any p)]:=by
 refine pure_rule hT (T:=tab) (N:=9) (rs:=[.tmp 4]) Tryz.func186 rfl rfl rfl Kr rfl ?_
 (refine gW ?_;intros)
 refine(idxReq_ok xs hx f c0 p hp).call ?_
 (refine gW ?_;intros)
 refine⟨congrArg D.bool ?_,Tt⟩
 rw[<-ix_ge p xs 0 Om]
theorem cloReq_ok (s:Req)(f:FuncId)(b:Bool)(hp:Pure Tryz.prog f [.agg (eReq s)] [.bool b]):Pure Tryz.prog 187 [.agg (eReq s),.pt [.fn (.func f) [] []] 0] [.bool (!b)]:=by
 refine pure_rule hT (T:=tab) (N:=8) (rs:=[.tmp 3]) Tryz.func187 rfl rfl rfl Kr rfl ?_
 (refine gW ?_;intros)
 refine hp.call ?_
 (refine gW ?_;intros)
 exact⟨rfl,Tt⟩
theorem allReq_ok (xs:List Req)(hx:fitL xs)(f:FuncId)(p:Req->Bool)(hp:∀s,s∈xs->Pure Tryz.prog f [.agg (eReq s)] [.bool (p s)]):Pure Tryz.prog 148 [eReqs xs,.fn (.func f) [] []] [.bool (xs.all p)]:=by
 refine pure_rule hT (T:=tab) (N:=9) (rs:=[.tmp 4]) Tryz.func148 rfl rfl rfl Kr rfl ?_
 have hI:=anyReq_ok xs hx 187 (.pt [.fn (.func f) [] []] 0) (fun s=>!p s) fun s hs=>cloReq_ok s f (p s) (hp s hs)
 (refine gW ?_;intros)
 refine hI.loan rfl ⟨.d,.fn' Tt ⟨.ptr' rfl ⟨.d,Tt⟩,Tt⟩,Tt⟩ ?_
 (refine gW ?_;intros)
 refine⟨congrArg D.bool ?_,Tt⟩
 rw[List.not_any_eq_all_not]
 simp
theorem idxCls_ok (xs:List Cls)(hx:xs.length<=9223372036854775807)(f:FuncId)(c0:D)(p:Cls->Bool)(hp:∀s,s∈xs->Pure Tryz.prog f [.agg (eCls s),c0] [.bool (p s)]) :
 Pure Tryz.prog 224 [eClss xs,.fn (.func f) [] [c0]] [di (ix p xs 0)]:=by
 refine pure_rule hT (T:=tab) (N:=19) (rs:=[.tmp 4]) Tryz.func224 rfl rfl rfl Kr rfl ?_
 (refine gW ?_;intros)
 refine loop_rule hT (S:=Nat) (fun k=>([(0,.d (eClss xs)),(1,.d (.fn (.func f) [] [c0])),(7,dV xs.length),(8,dV k)],⟨[],[]⟩)) (fun k=>k<=xs.length/\ix p xs 0=ix p (xs.drop k) k) (fun k=>xs.length-k) 0 ?_ ?_ ?_
 .repeat' (first|exact Tt|exact rfl|exact Nat.le_refl _|refine And.intro ?_ ?_)
 .exact⟨Nat.zero_le _,rfl⟩
 .rintro k ⟨hk,hc⟩
  ((refine xW ?_ ?_)<;>intros)
  .refine⟨⟨f,[],[.d c0],.inr ⟨[],[c0],rfl,rfl,rfl⟩,(hp (xs.getD k default) (getD_mem Om)).call ?_⟩⟩
   ((refine xW ?_ ?_)<;>(intros;try rename_i h))
   .refine⟨congrArg (D.int .i64) ?_,Tt⟩
    rw[hc,drop_at Om,ix,if_pos h]
   .refine⟨k+1,⟨by show k+1<=xs.length;omega,?_⟩,by show xs.length-(k+1)<xs.length-k;omega,?_⟩
    .rw[hc,drop_at Om,ix,if_neg (by rw[h];exact Bool.false_ne_true)]
     rfl
    .repeat' (first|exact Tt|exact rfl|exact Nat.le_refl _|refine And.intro ?_ ?_)
  .refine⟨congrArg (D.int .i64) ?_,Tt⟩
   have:k=xs.length:=by omega
   rw[hc]
   simp[this,ix]
theorem anyCls_ok (xs:List Cls)(hx:xs.length<=9223372036854775807)(f:FuncId)(c0:D)(p:Cls->Bool)(hp:∀s,s∈xs->Pure Tryz.prog f [.agg (eCls s),c0] [.bool (p s)]) :
 Pure Tryz.prog 191 [eClss xs,.fn (.func f) [] [c0]] [.bool (xs.any p)]:=by
 refine pure_rule hT (T:=tab) (N:=9) (rs:=[.tmp 4]) Tryz.func191 rfl rfl rfl Kr rfl ?_
 (refine gW ?_;intros)
 refine(idxCls_ok xs hx f c0 p hp).call ?_
 (refine gW ?_;intros)
 refine⟨congrArg D.bool ?_,Tt⟩
 rw[<-ix_ge p xs 0 Om]
theorem cloCls_ok (s:Cls)(f:FuncId)(b:Bool)(hp:Pure Tryz.prog f [.agg (eCls s)] [.bool b]):Pure Tryz.prog 192 [.agg (eCls s),.pt [.fn (.func f) [] []] 0] [.bool (!b)]:=by
 refine pure_rule hT (T:=tab) (N:=8) (rs:=[.tmp 3]) Tryz.func192 rfl rfl rfl Kr rfl ?_
 (refine gW ?_;intros)
 refine hp.call ?_
 (refine gW ?_;intros)
 exact⟨rfl,Tt⟩
theorem allCls_ok (xs:List Cls)(hx:fitL xs)(f:FuncId)(p:Cls->Bool)(hp:∀s,s∈xs->Pure Tryz.prog f [.agg (eCls s)] [.bool (p s)]):Pure Tryz.prog 155 [eClss xs,.fn (.func f) [] []] [.bool (xs.all p)]:=by
 refine pure_rule hT (T:=tab) (N:=9) (rs:=[.tmp 4]) Tryz.func155 rfl rfl rfl Kr rfl ?_
 have hI:=anyCls_ok xs hx 192 (.pt [.fn (.func f) [] []] 0) (fun s=>!p s) fun s hs=>cloCls_ok s f (p s) (hp s hs)
 (refine gW ?_;intros)
 refine hI.loan rfl ⟨.d,.fn' Tt ⟨.ptr' rfl ⟨.d,Tt⟩,Tt⟩,Tt⟩ ?_
 (refine gW ?_;intros)
 refine⟨congrArg D.bool ?_,Tt⟩
 rw[List.not_any_eq_all_not]
 simp
theorem idxFee_ok (xs:List Fee)(hx:xs.length<=9223372036854775807)(f:FuncId)(c0:D)(p:Fee->Bool)(hp:∀s,s∈xs->Pure Tryz.prog f [.agg (eFee s),c0] [.bool (p s)]) :
 Pure Tryz.prog 225 [eFees xs,.fn (.func f) [] [c0]] [di (ix p xs 0)]:=by
 refine pure_rule hT (T:=tab) (N:=19) (rs:=[.tmp 4]) Tryz.func225 rfl rfl rfl Kr rfl ?_
 (refine gW ?_;intros)
 refine loop_rule hT (S:=Nat) (fun k=>([(0,.d (eFees xs)),(1,.d (.fn (.func f) [] [c0])),(7,dV xs.length),(8,dV k)],⟨[],[]⟩)) (fun k=>k<=xs.length/\ix p xs 0=ix p (xs.drop k) k) (fun k=>xs.length-k) 0 ?_ ?_ ?_
 .repeat' (first|exact Tt|exact rfl|exact Nat.le_refl _|refine And.intro ?_ ?_)
 .exact⟨Nat.zero_le _,rfl⟩
 .rintro k ⟨hk,hc⟩
  ((refine xW ?_ ?_)<;>intros)
  .refine⟨⟨f,[],[.d c0],.inr ⟨[],[c0],rfl,rfl,rfl⟩,(hp (xs.getD k default) (getD_mem Om)).call ?_⟩⟩
   ((refine xW ?_ ?_)<;>(intros;try rename_i h))
   .refine⟨congrArg (D.int .i64) ?_,Tt⟩
    rw[hc,drop_at Om,ix,if_pos h]
   .refine⟨k+1,⟨by show k+1<=xs.length;omega,?_⟩,by show xs.length-(k+1)<xs.length-k;omega,?_⟩
    .rw[hc,drop_at Om,ix,if_neg (by rw[h];exact Bool.false_ne_true)]
     rfl
    .repeat' (first|exact Tt|exact rfl|exact Nat.le_refl _|refine And.intro ?_ ?_)
  .refine⟨congrArg (D.int .i64) ?_,Tt⟩
   have:k=xs.length:=by omega
   rw[hc]
   simp[this,ix]
theorem anyFee_ok (xs:List Fee)(hx:xs.length<=9223372036854775807)(f:FuncId)(c0:D)(p:Fee->Bool)(hp:∀s,s∈xs->Pure Tryz.prog f [.agg (eFee s),c0] [.bool (p s)]) :
 Pure Tryz.prog 193 [eFees xs,.fn (.func f) [] [c0]] [.bool (xs.any p)]:=by
 refine pure_rule hT (T:=tab) (N:=9) (rs:=[.tmp 4]) Tryz.func193 rfl rfl rfl Kr rfl ?_
 (refine gW ?_;intros)
 refine(idxFee_ok xs hx f c0 p hp).call ?_
 (refine gW ?_;intros)
 refine⟨congrArg D.bool ?_,Tt⟩
 rw[<-ix_ge p xs 0 Om]
theorem cloFee_ok (s:Fee)(f:FuncId)(b:Bool)(hp:Pure Tryz.prog f [.agg (eFee s)] [.bool b]):Pure Tryz.prog 194 [.agg (eFee s),.pt [.fn (.func f) [] []] 0] [.bool (!b)]:=by
 refine pure_rule hT (T:=tab) (N:=8) (rs:=[.tmp 3]) Tryz.func194 rfl rfl rfl Kr rfl ?_
 (refine gW ?_;intros)
 refine hp.call ?_
 (refine gW ?_;intros)
 exact⟨rfl,Tt⟩
theorem allFee_ok (xs:List Fee)(hx:fitL xs)(f:FuncId)(p:Fee->Bool)(hp:∀s,s∈xs->Pure Tryz.prog f [.agg (eFee s)] [.bool (p s)]):Pure Tryz.prog 156 [eFees xs,.fn (.func f) [] []] [.bool (xs.all p)]:=by
 refine pure_rule hT (T:=tab) (N:=9) (rs:=[.tmp 4]) Tryz.func156 rfl rfl rfl Kr rfl ?_
 have hI:=anyFee_ok xs hx 194 (.pt [.fn (.func f) [] []] 0) (fun s=>!p s) fun s hs=>cloFee_ok s f (p s) (hp s hs)
 (refine gW ?_;intros)
 refine hI.loan rfl ⟨.d,.fn' Tt ⟨.ptr' rfl ⟨.d,Tt⟩,Tt⟩,Tt⟩ ?_
 (refine gW ?_;intros)
 refine⟨congrArg D.bool ?_,Tt⟩
 rw[List.not_any_eq_all_not]
 simp
theorem idxCla_ok (xs:List Cla)(hx:xs.length<=9223372036854775807)(f:FuncId)(c0:D)(p:Cla->Bool)(hp:∀s,s∈xs->Pure Tryz.prog f [.agg (eCla s),c0] [.bool (p s)]) :
 Pure Tryz.prog 226 [eClas xs,.fn (.func f) [] [c0]] [di (ix p xs 0)]:=by
 refine pure_rule hT (T:=tab) (N:=19) (rs:=[.tmp 4]) Tryz.func226 rfl rfl rfl Kr rfl ?_
 (refine gW ?_;intros)
 refine loop_rule hT (S:=Nat) (fun k=>([(0,.d (eClas xs)),(1,.d (.fn (.func f) [] [c0])),(7,dV xs.length),(8,dV k)],⟨[],[]⟩)) (fun k=>k<=xs.length/\ix p xs 0=ix p (xs.drop k) k) (fun k=>xs.length-k) 0 ?_ ?_ ?_
 .repeat' (first|exact Tt|exact rfl|exact Nat.le_refl _|refine And.intro ?_ ?_)
 .exact⟨Nat.zero_le _,rfl⟩
 .rintro k ⟨hk,hc⟩
  ((refine xW ?_ ?_)<;>intros)
  .refine⟨⟨f,[],[.d c0],.inr ⟨[],[c0],rfl,rfl,rfl⟩,(hp (xs.getD k default) (getD_mem Om)).call ?_⟩⟩
   ((refine xW ?_ ?_)<;>(intros;try rename_i h))
   .refine⟨congrArg (D.int .i64) ?_,Tt⟩
    rw[hc,drop_at Om,ix,if_pos h]
   .refine⟨k+1,⟨by show k+1<=xs.length;omega,?_⟩,by show xs.length-(k+1)<xs.length-k;omega,?_⟩
    .rw[hc,drop_at Om,ix,if_neg (by rw[h];exact Bool.false_ne_true)]
     rfl
    .repeat' (first|exact Tt|exact rfl|exact Nat.le_refl _|refine And.intro ?_ ?_)
  .refine⟨congrArg (D.int .i64) ?_,Tt⟩
   have:k=xs.length:=by omega
   rw[hc]
   simp[this,ix]
theorem anyCla_ok (xs:List Cla)(hx:xs.length<=9223372036854775807)(f:FuncId)(c0:D)(p:Cla->Bool)(hp:∀s,s∈xs->Pure Tryz.prog f [.agg (eCla s),c0] [.bool (p s)]) :
 Pure Tryz.prog 195 [eClas xs,.fn (.func f) [] [c0]] [.bool (xs.any p)]:=by
 refine pure_rule hT (T:=tab) (N:=9) (rs:=[.tmp 4]) Tryz.func195 rfl rfl rfl Kr rfl ?_
 (refine gW ?_;intros)
 refine(idxCla_ok xs hx f c0 p hp).call ?_
 (refine gW ?_;intros)
 refine⟨congrArg D.bool ?_,Tt⟩
 rw[<-ix_ge p xs 0 Om]
theorem cloCla_ok (s:Cla)(f:FuncId)(b:Bool)(hp:Pure Tryz.prog f [.agg (eCla s)] [.bool b]):Pure Tryz.prog 196 [.agg (eCla s),.pt [.fn (.func f) [] []] 0] [.bool (!b)]:=by
 refine pure_rule hT (T:=tab) (N:=8) (rs:=[.tmp 3]) Tryz.func196 rfl rfl rfl Kr rfl ?_
 (refine gW ?_;intros)
 refine hp.call ?_
 (refine gW ?_;intros)
 exact⟨rfl,Tt⟩
theorem allCla_ok (xs:List Cla)(hx:fitL xs)(f:FuncId)(p:Cla->Bool)(hp:∀s,s∈xs->Pure Tryz.prog f [.agg (eCla s)] [.bool (p s)]):Pure Tryz.prog 157 [eClas xs,.fn (.func f) [] []] [.bool (xs.all p)]:=by
 refine pure_rule hT (T:=tab) (N:=9) (rs:=[.tmp 4]) Tryz.func157 rfl rfl rfl Kr rfl ?_
 have hI:=anyCla_ok xs hx 196 (.pt [.fn (.func f) [] []] 0) (fun s=>!p s) fun s hs=>cloCla_ok s f (p s) (hp s hs)
 (refine gW ?_;intros)
 refine hI.loan rfl ⟨.d,.fn' Tt ⟨.ptr' rfl ⟨.d,Tt⟩,Tt⟩,Tt⟩ ?_
 (refine gW ?_;intros)
 refine⟨congrArg D.bool ?_,Tt⟩
 rw[List.not_any_eq_all_not]
 simp
theorem idxPai_ok (xs:List Pai)(hx:xs.length<=9223372036854775807)(f:FuncId)(c0:D)(p:Pai->Bool)(hp:∀s,s∈xs->Pure Tryz.prog f [.agg (ePai s),c0] [.bool (p s)]) :
 Pure Tryz.prog 175 [ePais xs,.fn (.func f) [] [c0]] [di (ix p xs 0)]:=by
 refine pure_rule hT (T:=tab) (N:=19) (rs:=[.tmp 4]) Tryz.func175 rfl rfl rfl Kr rfl ?_
 (refine gW ?_;intros)
 refine loop_rule hT (S:=Nat) (fun k=>([(0,.d (ePais xs)),(1,.d (.fn (.func f) [] [c0])),(7,dV xs.length),(8,dV k)],⟨[],[]⟩)) (fun k=>k<=xs.length/\ix p xs 0=ix p (xs.drop k) k) (fun k=>xs.length-k) 0 ?_ ?_ ?_
 .repeat' (first|exact Tt|exact rfl|exact Nat.le_refl _|refine And.intro ?_ ?_)
 .exact⟨Nat.zero_le _,rfl⟩
 .rintro k ⟨hk,hc⟩
  ((refine xW ?_ ?_)<;>intros)
  .refine⟨⟨f,[],[.d c0],.inr ⟨[],[c0],rfl,rfl,rfl⟩,(hp (xs.getD k default) (getD_mem Om)).call ?_⟩⟩
   ((refine xW ?_ ?_)<;>(intros;try rename_i h))
   .refine⟨congrArg (D.int .i64) ?_,Tt⟩
    rw[hc,drop_at Om,ix,if_pos h]
   .refine⟨k+1,⟨by show k+1<=xs.length;omega,?_⟩,by show xs.length-(k+1)<xs.length-k;omega,?_⟩
    .rw[hc,drop_at Om,ix,if_neg (by rw[h];exact Bool.false_ne_true)]
     rfl
    .repeat' (first|exact Tt|exact rfl|exact Nat.le_refl _|refine And.intro ?_ ?_)
  .refine⟨congrArg (D.int .i64) ?_,Tt⟩
   have:k=xs.length:=by omega
   rw[hc]
   simp[this,ix]
theorem anyPai_ok (xs:List Pai)(hx:xs.length<=9223372036854775807)(f:FuncId)(c0:D)(p:Pai->Bool)(hp:∀s,s∈xs->Pure Tryz.prog f [.agg (ePai s),c0] [.bool (p s)]) :
 Pure Tryz.prog 134 [ePais xs,.fn (.func f) [] [c0]] [.bool (xs.any p)]:=by
 refine pure_rule hT (T:=tab) (N:=9) (rs:=[.tmp 4]) Tryz.func134 rfl rfl rfl Kr rfl ?_
 (refine gW ?_;intros)
 refine(idxPai_ok xs hx f c0 p hp).call ?_
 (refine gW ?_;intros)
 refine⟨congrArg D.bool ?_,Tt⟩
 rw[<-ix_ge p xs 0 Om]
theorem cloPai_ok (s:Pai)(f:FuncId)(b:Bool)(hp:Pure Tryz.prog f [.agg (ePai s)] [.bool b]):Pure Tryz.prog 135 [.agg (ePai s),.pt [.fn (.func f) [] []] 0] [.bool (!b)]:=by
 refine pure_rule hT (T:=tab) (N:=8) (rs:=[.tmp 3]) Tryz.func135 rfl rfl rfl Kr rfl ?_
 (refine gW ?_;intros)
 refine hp.call ?_
 (refine gW ?_;intros)
 exact⟨rfl,Tt⟩
theorem allPai_ok (xs:List Pai)(hx:fitL xs)(f:FuncId)(p:Pai->Bool)(hp:∀s,s∈xs->Pure Tryz.prog f [.agg (ePai s)] [.bool (p s)]):Pure Tryz.prog 76 [ePais xs,.fn (.func f) [] []] [.bool (xs.all p)]:=by
 refine pure_rule hT (T:=tab) (N:=9) (rs:=[.tmp 4]) Tryz.func76 rfl rfl rfl Kr rfl ?_
 have hI:=anyPai_ok xs hx 135 (.pt [.fn (.func f) [] []] 0) (fun s=>!p s) fun s hs=>cloPai_ok s f (p s) (hp s hs)
 (refine gW ?_;intros)
 refine hI.loan rfl ⟨.d,.fn' Tt ⟨.ptr' rfl ⟨.d,Tt⟩,Tt⟩,Tt⟩ ?_
 (refine gW ?_;intros)
 refine⟨congrArg D.bool ?_,Tt⟩
 rw[List.not_any_eq_all_not]
 simp
theorem idxNum_ok (xs:List Int)(hx:xs.length<=9223372036854775807)(f:FuncId)(c0:D)(p:Int->Bool)(hp:∀s,s∈xs->Pure Tryz.prog f [di s,c0] [.bool (p s)]) :
 Pure Tryz.prog 239 [eInts xs,.fn (.func f) [] [c0]] [di (ix p xs 0)]:=by
 refine pure_rule hT (T:=tab) (N:=19) (rs:=[.tmp 4]) Tryz.func239 rfl rfl rfl Kr rfl ?_
 (refine gW ?_;intros)
 refine loop_rule hT (S:=Nat) (fun k=>([(0,.d (eInts xs)),(1,.d (.fn (.func f) [] [c0])),(7,dV xs.length),(8,dV k)],⟨[],[]⟩)) (fun k=>k<=xs.length/\ix p xs 0=ix p (xs.drop k) k) (fun k=>xs.length-k) 0 ?_ ?_ ?_
 .exact lq
 .exact⟨Nat.zero_le _,rfl⟩
 .rintro k ⟨hk,hc⟩
  ((refine xW ?_ ?_)<;>intros)
  .refine⟨⟨f,[],[.d c0],.inr ⟨[],[c0],rfl,rfl,rfl⟩,(hp (xs.getD k default) (getD_mem Om)).call ?_⟩⟩
   ((refine xW ?_ ?_)<;>(intros;try rename_i h))
   .refine⟨congrArg (D.int .i64) ?_,Tt⟩
    rw[hc,drop_at Om,ix,if_pos h]
   .refine⟨k+1,⟨by show k+1<=xs.length;omega,?_⟩,by show xs.length-(k+1)<xs.length-k;omega,?_⟩
    .rw[hc,drop_at Om,ix,if_neg (by rw[h];exact Bool.false_ne_true)]
     rfl
    .exact lq
  .refine⟨congrArg (D.int .i64) ?_,Tt⟩
   have:k=xs.length:=by omega
   rw[hc]
   simp[this,ix]
theorem anyNum_ok (xs:List Int)(hx:xs.length<=9223372036854775807)(f:FuncId)(c0:D)(p:Int->Bool)(hp:∀s,s∈xs->Pure Tryz.prog f [di s,c0] [.bool (p s)]) :
 Pure Tryz.prog 222 [eInts xs,.fn (.func f) [] [c0]] [.bool (xs.any p)]:=by
 refine pure_rule hT (T:=tab) (N:=9) (rs:=[.tmp 4]) Tryz.func222 rfl rfl rfl Kr rfl ?_
 (refine gW ?_;intros)
 refine(idxNum_ok xs hx f c0 p hp).call ?_
 (refine gW ?_;intros)
 refine⟨congrArg D.bool ?_,Tt⟩
 rw[<-ix_ge p xs 0 Om]
theorem cloNum_ok (s:Int)(f:FuncId)(b:Bool)(hp:Pure Tryz.prog f [di s] [.bool b]):Pure Tryz.prog 223 [di s,.pt [.fn (.func f) [] []] 0] [.bool (!b)]:=by
 refine pure_rule hT (T:=tab) (N:=8) (rs:=[.tmp 3]) Tryz.func223 rfl rfl rfl Kr rfl ?_
 (refine gW ?_;intros)
 refine hp.call ?_
 (refine gW ?_;intros)
 exact⟨rfl,Tt⟩
theorem allNum_ok (xs:List Int)(hx:fitL xs)(f:FuncId)(p:Int->Bool)(hp:∀s,s∈xs->Pure Tryz.prog f [di s] [.bool (p s)]):Pure Tryz.prog 189 [eInts xs,.fn (.func f) [] []] [.bool (xs.all p)]:=by
 refine pure_rule hT (T:=tab) (N:=9) (rs:=[.tmp 4]) Tryz.func189 rfl rfl rfl Kr rfl ?_
 have hI:=anyNum_ok xs hx 223 (.pt [.fn (.func f) [] []] 0) (fun s=>!p s) fun s hs=>cloNum_ok s f (p s) (hp s hs)
 (refine gW ?_;intros)
 refine hI.loan rfl ⟨.d,.fn' Tt ⟨.ptr' rfl ⟨.d,Tt⟩,Tt⟩,Tt⟩ ?_
 (refine gW ?_;intros)
 refine⟨congrArg D.bool ?_,Tt⟩
 rw[List.not_any_eq_all_not]
 simp
end Go.Proofs.YtmlhghddfobmmaaGreatDoor
