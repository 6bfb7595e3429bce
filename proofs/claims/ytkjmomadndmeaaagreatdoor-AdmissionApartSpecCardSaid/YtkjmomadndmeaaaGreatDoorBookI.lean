import Derived.Test.YtkjmomadndmeaaaGreatDoorBookH
namespace Go.Proofs.YtkjmomadndmeaaaGreatDoor
set_option linter.unusedSimpArgs false
set_option linter.unusedVariables false
open Go Go.Ab
set_option maxRecDepth 100000
set_option maxHeartbeats 0
def stepP (t:Int)(s:Bool)(g x:Fct):Bool × Fct:=if hitT t x&&(!s||!befF x g) then(true,x) else(s,g)
theorem stepF_pair (t:Int)(b:Option Fct)(x:Fct):(stepF t b x).isSome=(stepP t b.isSome (b.getD zF) x).1/\(stepF t b x).getD zF=(stepP t b.isSome (b.getD zF) x).2:=by
 unfold stepF stepP
 cases b<;>cases hitT t x<;>simp<;>(try (cases befF x _<;>simp))
theorem of_facts (l:List Fct)(k:Ke)(kn:Int):CallVC Tryz.prog 149 [.d (eFcts l),.d (.agg (eKe k)),dV kn] ⟨[],[]⟩
 (Ret (fun _:Unit=>([.fn (.func 191) [] [lp 0,lp 1,lp 2]],⟨[bX 27 [.d (eFcts l)],bX 72 (up (eKe k)),bX 3 [dV kn]],[]⟩)) fun _=>True):=by
 refine call_rule hT (T:=tab) (N:=8) (rs:=[.tmp 6]) _ _ Tryz.func149 rfl rfl rfl Kr rfl ?_
 (refine gW ?_;intros)
 exact⟨(),Tt,by repeat' (first|exact Tt|exact rfl|exact Nat.le_refl _|refine And.intro ?_ ?_),rfl⟩
theorem of1A_ok (rec:Loop)(t:Int)(y:Nat)(l:List Fct)(hx:fitL l)(k:Ke)(kn:Int)
 (hy:∀ (q:List Fct) (x:Fct),x∈l→YieldVC Tryz.prog y [.d (.agg (eFct x))] ⟨[],[some (.box 27 [.d (eFcts l)]),some (.box 72 (up (eKe k))),some (.box 3 [.d (.int .i64 kn)]),some (.box 3 [.d (.int .i64 t)]),some (.box 74 (up (eFct ((q.foldl (stepF t) none).getD zF)))),some (.box 4 [.d (.bool (q.foldl (stepF t) none).isSome)]),some (.loop y rec [(6,.ptr (.arg 3) 0 0 0),(10,.ptr (.arg 4) 0 0 0),(11,.ptr (.arg 5) 0 0 0)])]⟩
  (Ret (fun q:List Fct=>([.d (.bool true)],⟨[],[bX 27 [.d (eFcts l)],bX 72 (up (eKe k)),bX 3 [dV kn],bX 3 [dV t],bX 74 (up (eFct ((q.foldl (stepF t) none).getD zF))),bX 4 [.d (.bool (q.foldl (stepF t) none).isSome)],some (.loop y rec [(6,ap 3),(10,ap 4),(11,ap 5)])]⟩)) fun q'=>q'=q++[x])) :
 CallVC Tryz.prog 191 [.fn (.yield y) [] [],ap 0,ap 1,ap 2] ((fun q:List Fct=>⟨[],[bX 27 [.d (eFcts l)],bX 72 (up (eKe k)),bX 3 [dV kn],bX 3 [dV t],bX 74 (up (eFct ((q.foldl (stepF t) none).getD zF))),bX 4 [.d (.bool (q.foldl (stepF t) none).isSome)],some (.loop y rec [(6,ap 3),(10,ap 4),(11,ap 5)])]⟩) [])
  (Ret (fun q:List Fct=>([],⟨[],[bX 27 [.d (eFcts l)],bX 72 (up (eKe k)),bX 3 [dV kn],bX 3 [dV t],bX 74 (up (eFct ((q.foldl (stepF t) none).getD zF))),bX 4 [.d (.bool (q.foldl (stepF t) none).isSome)],some (.loop y rec [(6,ap 3),(10,ap 4),(11,ap 5)])]⟩)) fun q=>q=l.filter (hitK k kn)):=by
 have hx':l.length<=9223372036854775807:=hx
 refine call_rule hT (T:=tab) (N:=30) (rs:=[]) _ _ Tryz.func191 rfl rfl rfl Kr rfl ?_
 (refine gW ?_;intros)
 refine loop_rule hT (S:=Nat × List Fct) (fun z=>([(0,.fn (.yield y) [] []),(2,ap 1),(3,ap 2),(7,.d (eFcts l)),(8,dV l.length),(9,dV z.1)],(fun q:List Fct=>⟨[],[bX 27 [.d (eFcts l)],bX 72 (up (eKe k)),bX 3 [dV kn],bX 3 [dV t],bX 74 (up (eFct ((q.foldl (stepF t) none).getD zF))),bX 4 [.d (.bool (q.foldl (stepF t) none).isSome)],some (.loop y rec [(6,ap 3),(10,ap 4),(11,ap 5)])]⟩) z.2))
  (fun z=>z.1<=l.length/\l.filter (hitK k kn)=z.2++(l.drop z.1).filter (hitK k kn)) (fun z=>l.length-z.1) (0,[]) ?_ ?_ ?_
 .exact lq
  all_goals (intro i hi;exact⟨rfl,rfl⟩)
 .exact⟨Nat.zero_le _,rfl⟩
 .rintro⟨j,q⟩ ⟨hj,hc⟩
  dsimp only at hj hc
  by_cases hj2:j<l.length
  .have hm:=getD_mem (xs:=l) (k:=j) hj2
   rw[drop_at hj2,List.filter_cons]at hc
   have kc:Kp _:=⟨hc⟩
   clear hc
   by_cases hk:(l.getD j default).kind=k.kind/\(l.getD j default).subject=k.subject/\(l.getD j default).object=k.object
   .by_cases hn:(l.getD j default).known<=kn
    .have hh:hitK k kn (l.getD j default)=true:=by simp only[hitK,Bool.and_eq_true,decide_eq_true_eq,kOf_eq];exact⟨hk,hn⟩
     obtain⟨hk1,hk2,hk3⟩:=hk
     (refine gP ?_;intros)
     refine(hy q (l.getD j default) hm).at [.arg 0,.arg 1,.arg 2,.arg 3,.arg 4,.arg 5,.arg 6] rfl ⟨rfl,rfl,rfl,rfl,rfl,rfl,rfl,Tt⟩ (fun s' hs'=>⟨rfl,?_⟩)
     subst hs'
     (refine gP ?_;intros)
     refine stp (j+1,q++[l.getD j default]) ?_ ⟨by show j+1<=l.length;omega,by rw[kc.h,if_pos hh];simp⟩
     exact lq
     all_goals (intro i hi;exact⟨rfl,rfl⟩)
    .have hh:¬ hitK k kn (l.getD j default)=true:=by simp only[hitK,Bool.and_eq_true,decide_eq_true_eq];exact fun h=>hn h.2
     obtain⟨hk1,hk2,hk3⟩:=hk
     (refine gP ?_;intros)
     refine stp (j+1,q) ?_ ⟨by show j+1<=l.length;omega,by rw[kc.h,if_neg hh]⟩
     exact lq
     all_goals (intro i hi;exact⟨rfl,rfl⟩)
   .have hh:¬ hitK k kn (l.getD j default)=true:=by simp only[hitK,Bool.and_eq_true,decide_eq_true_eq,kOf_eq];exact fun h=>hk h.1
    (refine gP ?_;intros)
    refine stp (j+1,q) ?_ ⟨by show j+1<=l.length;omega,by rw[kc.h,if_neg hh]⟩
    exact lq
    all_goals (intro i hi;exact⟨rfl,rfl⟩)
  .rw[drop_end Om,List.filter_nil,List.append_nil]at hc
   (refine gW ?_;intros)
   refine⟨_,hc.symm,?_,rfl⟩
   exact lq
   all_goals (intro i hi;exact⟨rfl,rfl⟩)
theorem at_ok (l:List Fct) (hl:fitL l) (k:Ke) (t kn:Int):Pure Tryz.prog 100 [eFcts l,.agg (eKe k),.int .i64 t,.int .i64 kn] [.int .i64 (atV l k t kn).1,.bool (atV l k t kn).2]:=by
 refine pure_rule hT (T:=tab) (N:=50) (rs:=[.tmp 8,.tmp 9]) Tryz.func100 rfl rfl rfl Kr rfl ?_
 (refine gW ?_;intros)
 refine(of_facts l k kn).at [] rfl Tt (fun _ _=>⟨rfl,?_⟩)
 (refine gW ?_;intros)
 refine Awp.range (caps:=[lp 4,lp 5,lp 6]) [(6,lp 1),(10,lp 2),(11,lp 3)] (.inl rfl) (nl:=7) (na:=0) ⟨⟨rfl,rfl⟩,⟨rfl,rfl⟩,⟨rfl,rfl⟩,Tt⟩ ?_
 intro y r h1 h2 h3 h4 h5 h6
 refine(of1A_ok r t y l hl k kn ?_).at [.loc 4,.loc 5,.loc 6,.loc 1,.loc 2,.loc 3,.loc 7] rfl ⟨rfl,rfl,rfl,rfl,rfl,rfl,rfl,Tt⟩ (fun s hs=>⟨rfl,?_⟩)
 .intro q x hx
  obtain⟨b,hb⟩:∃b,q.foldl (stepF t) none=b:=⟨_,rfl⟩
  have hn:(q++[x]).foldl (stepF t) none=stepF t b x:=by rw[List.foldl_append,hb];rfl
  have hp:=stepF_pair t b x
  rw[hb]
  obtain⟨s,hs⟩:∃s,b.isSome=s:=⟨_,rfl⟩
  obtain⟨g,hg⟩:∃g,b.getD zF=g:=⟨_,rfl⟩
  rw[hs,hg]at hp⊢
  refine yieldMono (yield_rule (N:=50) (ps:=[17]) (args:=[.d (.agg (eFct x))])
   (bs:=[bX 27 [.d (eFcts l)],bX 72 (up (eKe k)),bX 3 [dV kn],bX 3 [dV t],bX 74 (up (eFct g)),bX 4 [.d (.bool s)]]) (env0:=[(6,ap 3),(10,ap 4),(11,ap 5)])
   (fun z:Bool × Fct=>[bX 27 [.d (eFcts l)],bX 72 (up (eKe k)),bX 3 [dV kn],bX 3 [dV t],bX 74 (up (eFct z.2)),bX 4 [.d (.bool z.1)]]) (fun _=>none) (fun z=>z=stepP t s g x) h1 h3 h4 h5 h6 rfl (by simp) ?_ rfl rfl ?_) ?_
  .exact lq
  .clear hp hn hb hs hg
   refine Awp.of_vc hT ?_
   (refine gW ?_;intros)
   refine Awp.of_vc hT ?_
   by_cases e1:x.fr<=t
   .by_cases e2:t<x.til
    .have hh:hitT t x=true:=by simp[hitT,e1,e2]
     cases s with
     | false =>
       (refine gW ?_;intros)
       exact⟨(true,x),by simp[stepP,hh],rfl,rfl,by repeat' (first|exact Tt|exact rfl|exact Nat.le_refl _|refine And.intro ?_ ?_)⟩
     | true =>
       have hC:=fcompare_ok x g
       have hB:=fctC_bef x g
       cases e3:befF x g
       .rw[e3]at hB
        have hB':0<=fctC x g:=by simpa using hB
        (refine gW ?_;intros)
        refine hC.call ?_
        (refine gW ?_;intros)
        exact⟨(true,x),by simp[stepP,hh,e3],rfl,rfl,by repeat' (first|exact Tt|exact rfl|exact Nat.le_refl _|refine And.intro ?_ ?_)⟩
       .rw[e3]at hB
        have hB':¬ 0<=fctC x g:=by simpa using hB
        (refine gW ?_;intros)
        refine hC.call ?_
        (refine gW ?_;intros)
        exact⟨(true,g),by simp[stepP,hh,e3],rfl,rfl,by repeat' (first|exact Tt|exact rfl|exact Nat.le_refl _|refine And.intro ?_ ?_)⟩
    .have hh:hitT t x=false:=by simp[hitT,e2]
     (refine gW ?_;intros)
     exact⟨(s,g),by simp[stepP,hh],rfl,rfl,by repeat' (first|exact Tt|exact rfl|exact Nat.le_refl _|refine And.intro ?_ ?_)⟩
   .have hh:hitT t x=false:=by simp[hitT,e1]
    (refine gW ?_;intros)
    exact⟨(s,g),by simp[stepP,hh],rfl,rfl,by repeat' (first|exact Tt|exact rfl|exact Nat.le_refl _|refine And.intro ?_ ?_)⟩
  .rintro A m' ⟨z,hJ,rfl,rfl⟩
   refine⟨q++[x],rfl,rfl,?_⟩
   dsimp only
   rw[hn,hp.1,hp.2,<-hJ]
   show(⟨[],[some _,some _,some _,some _,some _,some _,some (.loop y (after r none) _)]⟩:Mem)=_
   rw[after_none h1 h2]
 .have hv:s.foldl (stepF t) none=bestF l k t kn:=by rw[hs];rfl
  unfold atV
  dsimp only
  rw[hv]
  obtain⟨b,hb⟩:∃b,bestF l k t kn=b:=⟨_,rfl⟩
  rw[hb]
  have hO:atO b=if b.isSome&&!decide ((b.getD zF).value<0) then((b.getD zF).value,true) else(0,false):=by
   cases b with
   |none=>rfl
   |some f=>by_cases e:f.value<0<;>simp[atO,e]
  rw[hO]
  clear hO hb hv hs
  generalize b.isSome=s
  generalize b.getD zF=g
  cases s
  ·(refine gW ?_;intros)
   refine⟨none,by rw[after_none h1 h2];rfl,?_⟩
   show Sq _ _
   (refine gW ?_;intros)
   exact⟨rfl,rfl,Tt⟩
  .by_cases e:g.value<0
   .rw[decide_eq_true e]
    (refine gW ?_;intros)
    refine⟨none,by rw[after_none h1 h2];rfl,?_⟩
    show Sq _ _
    (refine gW ?_;intros)
    exact⟨rfl,rfl,Tt⟩
   .rw[decide_eq_false e]
    (refine gW ?_;intros)
    refine⟨none,by rw[after_none h1 h2];rfl,?_⟩
    show Sq _ _
    (refine gW ?_;intros)
    exact⟨rfl,rfl,Tt⟩
def stepK (k:Ke)(t kn:Int)(b:Option Fct)(f:Fct):Option Fct:=if hitK k kn f then stepF t b f else b
theorem best_all (l:List Fct)(k:Ke)(t kn:Int):bestF l k t kn=l.foldl (stepK k t kn) none:=stepF_all t k kn l none
def encB (l:List Fct)(b:Int):Option Fct:=if b<0 then none else some (l.getD b.toNat default)
theorem encB_m1 (l:List Fct):encB l (-1)=none:=rfl
theorem encB_nat (l:List Fct)(n:Nat):encB l (n:Int)=some (l.getD n default):=by rw[encB,if_neg Om,Int.toNat_natCast]
theorem rat_ok (l:List Fct) (hl:fitL l) (k:Ke) (t kn:Int):Pure Tryz.prog 84 [eFcts l,.agg (eKe k),.int .i64 t,.int .i64 kn] [.int .i64 (atV l k t kn).1,.bool (atV l k t kn).2]:=by
 have hl':l.length<=9223372036854775807:=hl
 refine pure_rule hT (T:=tab) (N:=76) (rs:=[.tmp 8,.tmp 9]) Tryz.func84 rfl rfl rfl Kr rfl ?_
 (refine gW ?_;intros)
 refine loop_rule hT (S:=Nat × Int) (fun z=>([(0,.d (eFcts l)),(2,dV t),(3,dV kn),(5,lp 0),(10,dV z.2),(11,dV z.1)],⟨[bX 72 (up (eKe k))],[]⟩))
  (fun z=>z.1<=l.length/\(z.2=-1\/∃n:Nat,z.2=n/\n<l.length)/\bestF l k t kn=(l.drop z.1).foldl (stepK k t kn) (encB l z.2)) (fun z=>l.length-z.1) (0,-1) ?_ ?_ ?_
 .exact lq
 .exact⟨Nat.zero_le _,.inl rfl,best_all l k t kn⟩
 .rintro ⟨j,b⟩ ⟨hj,hb,hc⟩
  dsimp only at hj hb hc⊢
  by_cases hj2:j<l.length
  .rw [drop_at hj2] at hc
   obtain⟨x,hx⟩:∃x,l.getD j default=x:=⟨_,rfl⟩
   have kc:Kp _:=⟨hc⟩
   have kx:Kp _:=⟨hx⟩
   rw[hx]at kc
   clear hc
   by_cases hk:x.kind=k.kind/\x.subject=k.subject/\x.object=k.object
   .obtain⟨hk1,hk2,hk3⟩:=hk
    rw[<-hx]at hk1 hk2 hk3
    by_cases e1:(l.getD j default).fr<=t
    .by_cases e2:t<(l.getD j default).til
     .by_cases e3:(l.getD j default).known<=kn
      .have hK:hitK k kn x=true:=by simp only[hitK,Bool.and_eq_true,decide_eq_true_eq,kOf_eq];rw[<-hx];exact⟨⟨hk1,hk2,hk3⟩,e3⟩
       have hH:hitT t x=true:=by rw[<-hx];simp only[hitT,e1,e2];rfl
       rcases hb with rfl|⟨n,rfl,hn⟩
       .have hs:stepK k t kn (encB l (-1)) x=encB l (j:Int):=by
         rw[encB_m1,encB_nat,hx,stepK,if_pos hK,stepF,hH]
         rfl
        clear hx
        (refine gW ?_;intros)
        refine stp (j+1,(j:Int)) ?_ ⟨by show j+1<=l.length;omega,.inr ⟨j,rfl,hj2⟩,by rw[kc.h,List.foldl_cons,hs]⟩
        exact lq
       .have hB:=before07_ok (l.getD j default) (l.getD n default)
        have he:encB l (n:Int)=some (l.getD n default):=by rw[encB,if_neg Om,Int.toNat_natCast]
        cases e4:befF (l.getD j default) (l.getD n default)
        .have hs:stepK k t kn (encB l (n:Int)) x=encB l (j:Int):=by
          rw[stepK,if_pos hK,stepF,hH,he]
          rw[hx]at e4
          simp only[Option.getD_some,e4,Option.isNone_some,Bool.false_or,Bool.not_false,Bool.and_self,if_true]
          rw[encB,if_neg Om,Int.toNat_natCast,hx]
         rw[e4]at hB
         clear hx
         (refine gW ?_;intros)
         refine qC hB ?_
         (refine gW ?_;intros)
         refine stp (j+1,(j:Int)) ?_ ⟨by show j+1<=l.length;omega,.inr ⟨j,rfl,hj2⟩,by rw[kc.h,List.foldl_cons,hs]⟩
         exact lq
        .have hs:stepK k t kn (encB l (n:Int)) x=encB l (n:Int):=by
          rw[stepK,if_pos hK,stepF,hH,he]
          rw[hx]at e4
          simp only[Option.getD_some,e4,Option.isNone_some,Bool.false_or,Bool.not_true,Bool.and_false,Bool.false_eq_true,if_false]
         rw[e4]at hB
         have hb:((n:Nat):Int)=-1\/∃m:Nat,((n:Nat):Int)=m/\m<l.length:=.inr ⟨n,rfl,hn⟩
         clear hx
         (refine gW ?_;intros)
         refine qC hB ?_
         (refine gW ?_;intros)
         refine stp (j+1,(n:Int)) ?_ ⟨by show j+1<=l.length;omega,hb,by rw[kc.h,List.foldl_cons,hs]⟩
         exact lq
      .have hs:stepK k t kn (encB l b) x=encB l b:=by
        rw[stepK,if_neg]
        simp only[hitK,Bool.and_eq_true,decide_eq_true_eq]
        rw[<-hx]
        exact fun h=>e3 h.2
       clear hx
       (refine gW ?_;intros)
       refine stp (j+1,b) ?_ ⟨by show j+1<=l.length;omega,hb,by rw[kc.h,List.foldl_cons,hs]⟩
       exact lq
     .have hs:stepK k t kn (encB l b) x=encB l b:=by
       have hH:hitT t x=false:=by rw[<-hx,hitT,decide_eq_false e2,Bool.and_false]
       rw[stepK,stepF,hH]
       simp
      clear hx
      (refine gW ?_;intros)
      refine stp (j+1,b) ?_ ⟨by show j+1<=l.length;omega,hb,by rw[kc.h,List.foldl_cons,hs]⟩
      exact lq
    .have hs:stepK k t kn (encB l b) x=encB l b:=by
      have hH:hitT t x=false:=by rw[<-hx,hitT,decide_eq_false e1,Bool.false_and]
      rw[stepK,stepF,hH]
      simp
     clear hx
     (refine gW ?_;intros)
     refine stp (j+1,b) ?_ ⟨by show j+1<=l.length;omega,hb,by rw[kc.h,List.foldl_cons,hs]⟩
     exact lq
   .have hs:stepK k t kn (encB l b) x=encB l b:=by
     rw[stepK,if_neg]
     simp only[hitK,Bool.and_eq_true,decide_eq_true_eq,kOf_eq]
     exact fun h=>hk h.1
    rw[<-hx]at hk
    clear hx
    (refine gP ?_;intros)
    refine stp (j+1,b) ?_ ⟨by show j+1<=l.length;omega,hb,by rw[kc.h,List.foldl_cons,hs]⟩
    exact lq
  .rw[drop_end Om,List.foldl_nil]at hc
   unfold atV
   rw[hc]
   rcases hb with rfl|⟨n,rfl,hn⟩
   .rw[show atO (encB l (-1))=(0,false) from rfl]
    (refine gW ?_;intros)
    exact⟨rfl,rfl,Tt⟩
   .rw[show encB l (n:Int)=some (l.getD n default) by rw[encB,if_neg Om,Int.toNat_natCast]]
    by_cases e:(l.getD n default).value<0
    .rw[show atO (some (l.getD n default))=(0,false) from if_pos e]
     (refine gW ?_;intros)
     exact⟨rfl,rfl,Tt⟩
    .rw[show atO (some (l.getD n default))=((l.getD n default).value,true) from if_neg e]
     (refine gW ?_;intros)
     exact⟨rfl,rfl,Tt⟩
end Go.Proofs.YtkjmomadndmeaaaGreatDoor
