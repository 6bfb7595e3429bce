/-
  Chapter 14: the value of a key in a term, by both sides.
-/
import Derived.Test.YtkjmomadndmeaaaGreatDoorBookH
namespace Go.Proofs.YtkjmomadndmeaaaGreatDoor
set_option linter.unusedSimpArgs false
set_option linter.unusedVariables false
open Go Go.Ab
set_option maxRecDepth 100000
set_option maxHeartbeats 0
def stepP (t:Int) (s:Bool) (g x:Fct):Bool × Fct:=if hitT t x && (!s || !befF x g) then (true,x) else (s,g)
theorem stepF_pair (t:Int) (b:Option Fct) (x:Fct):(stepF t b x).isSome=(stepP t b.isSome (b.getD zF) x).1∧(stepF t b x).getD zF=(stepP t b.isSome (b.getD zF) x).2:=by
 unfold stepF stepP
 cases b <;> cases hitT t x <;> simp <;> (try (cases befF x _ <;> simp))
theorem of_facts (l:List Fct) (k:Ke) (kn:Int):CallVC Tryz.prog 149 [.d (eFcts l),.d (.agg (eKe k)),.d (.int .i64 kn)] ⟨[],[]⟩
 (Ret (fun _:Unit=>([.fn (.func 191) [] [.ptr (.loc 0) 0 0 0,.ptr (.loc 1) 0 0 0,.ptr (.loc 2) 0 0 0]],⟨[some (.box 27 [.d (eFcts l)]),some (.box 72 (up (eKe k))),some (.box 3 [.d (.int .i64 kn)])],[]⟩)) fun _=>True):=by
 refine call_rule hT (T:=tab) (N:=8) (rs:=[.tmp 6]) _ _ Tryz.func149 rfl rfl rfl (by kernel_rfl) rfl ?_
 (refine gW ?_;intros)
 exact ⟨(),True.intro,by repeat' (first | exact True.intro | exact rfl | exact Nat.le_refl _ | refine And.intro ?_ ?_),rfl⟩
theorem of1A_ok (rec:Loop) (t:Int)(y:Nat) (l:List Fct) (hx:fitL l) (k:Ke) (kn:Int)
 (hy:∀ (q:List Fct) (x:Fct),x∈l→YieldVC Tryz.prog y [.d (.agg (eFct x))] ⟨[],[some (.box 27 [.d (eFcts l)]),some (.box 72 (up (eKe k))),some (.box 3 [.d (.int .i64 kn)]),some (.box 3 [.d (.int .i64 t)]),some (.box 74 (up (eFct ((q.foldl (stepF t) none).getD zF)))),some (.box 4 [.d (.bool (q.foldl (stepF t) none).isSome)]),some (.loop y rec [(6,.ptr (.arg 3) 0 0 0),(10,.ptr (.arg 4) 0 0 0),(11,.ptr (.arg 5) 0 0 0)])]⟩
  (Ret (fun q:List Fct=>([.d (.bool true)],⟨[],[some (.box 27 [.d (eFcts l)]),some (.box 72 (up (eKe k))),some (.box 3 [.d (.int .i64 kn)]),some (.box 3 [.d (.int .i64 t)]),some (.box 74 (up (eFct ((q.foldl (stepF t) none).getD zF)))),some (.box 4 [.d (.bool (q.foldl (stepF t) none).isSome)]),some (.loop y rec [(6,.ptr (.arg 3) 0 0 0),(10,.ptr (.arg 4) 0 0 0),(11,.ptr (.arg 5) 0 0 0)])]⟩)) fun q'=>q'=q ++ [x])) :
 CallVC Tryz.prog 191 [.fn (.yield y) [] [],.ptr (.arg 0) 0 0 0,.ptr (.arg 1) 0 0 0,.ptr (.arg 2) 0 0 0] ((fun q:List Fct=>⟨[],[some (.box 27 [.d (eFcts l)]),some (.box 72 (up (eKe k))),some (.box 3 [.d (.int .i64 kn)]),some (.box 3 [.d (.int .i64 t)]),some (.box 74 (up (eFct ((q.foldl (stepF t) none).getD zF)))),some (.box 4 [.d (.bool (q.foldl (stepF t) none).isSome)]),some (.loop y rec [(6,.ptr (.arg 3) 0 0 0),(10,.ptr (.arg 4) 0 0 0),(11,.ptr (.arg 5) 0 0 0)])]⟩) [])
  (Ret (fun q:List Fct=>([],⟨[],[some (.box 27 [.d (eFcts l)]),some (.box 72 (up (eKe k))),some (.box 3 [.d (.int .i64 kn)]),some (.box 3 [.d (.int .i64 t)]),some (.box 74 (up (eFct ((q.foldl (stepF t) none).getD zF)))),some (.box 4 [.d (.bool (q.foldl (stepF t) none).isSome)]),some (.loop y rec [(6,.ptr (.arg 3) 0 0 0),(10,.ptr (.arg 4) 0 0 0),(11,.ptr (.arg 5) 0 0 0)])]⟩)) fun q=>q=l.filter (hitK k kn)):=by
 have hx':l.length≤9223372036854775807:=hx
 refine call_rule hT (T:=tab) (N:=30) (rs:=[]) _ _ Tryz.func191 rfl rfl rfl (by kernel_rfl) rfl ?_
 (refine gW ?_;intros)
 refine loop_rule hT (S:=Nat × List Fct) (fun z=>([(0,.fn (.yield y) [] []),(2,.ptr (.arg 1) 0 0 0),(3,.ptr (.arg 2) 0 0 0),(7,.d (eFcts l)),(8,.d (.int .i64 l.length)),(9,.d (.int .i64 z.1))],(fun q:List Fct=>⟨[],[some (.box 27 [.d (eFcts l)]),some (.box 72 (up (eKe k))),some (.box 3 [.d (.int .i64 kn)]),some (.box 3 [.d (.int .i64 t)]),some (.box 74 (up (eFct ((q.foldl (stepF t) none).getD zF)))),some (.box 4 [.d (.bool (q.foldl (stepF t) none).isSome)]),some (.loop y rec [(6,.ptr (.arg 3) 0 0 0),(10,.ptr (.arg 4) 0 0 0),(11,.ptr (.arg 5) 0 0 0)])]⟩) z.2))
  (fun z=>z.1≤l.length∧l.filter (hitK k kn)=z.2 ++ (l.drop z.1).filter (hitK k kn)) (fun z=>l.length - z.1) (0,[]) ?_ ?_ ?_
 ·repeat' (first | exact True.intro | exact rfl | exact Nat.le_refl _ | refine And.intro ?_ ?_)
  all_goals (intro i hi;exact ⟨rfl,rfl⟩)
 ·exact ⟨Nat.zero_le _,rfl⟩
 ·rintro ⟨j,q⟩ ⟨hj,hc⟩
  dsimp only at hj hc
  by_cases hj2:j < l.length
  ·have hm:=getD_mem (xs:=l) (k:=j) hj2
   rw [drop_at hj2,List.filter_cons] at hc
   have kc:Kp _:=⟨hc⟩
   clear hc
   by_cases hk:(l.getD j default).kind=k.kind∧(l.getD j default).subject=k.subject∧(l.getD j default).object=k.object
   ·by_cases hn:(l.getD j default).known≤kn
    ·have hh:hitK k kn (l.getD j default)=true:=by simp only [hitK,Bool.and_eq_true,decide_eq_true_eq,kOf_eq];exact ⟨hk,hn⟩
     obtain ⟨hk1,hk2,hk3⟩:=hk
     (refine gP ?_;intros)
     refine (hy q (l.getD j default) hm).at [.arg 0,.arg 1,.arg 2,.arg 3,.arg 4,.arg 5,.arg 6] rfl ⟨rfl,rfl,rfl,rfl,rfl,rfl,rfl,True.intro⟩ (fun s' hs'=>⟨rfl,?_⟩)
     subst hs'
     (refine gP ?_;intros)
     refine ⟨(j + 1,q ++ [l.getD j default]),⟨by show j + 1≤l.length;omega,by rw [kc.h,if_pos hh];simp⟩,by show l.length - (j + 1) < l.length - j;omega,?_⟩
     repeat' (first | exact True.intro | exact rfl | exact Nat.le_refl _ | refine And.intro ?_ ?_)
     all_goals (intro i hi;exact ⟨rfl,rfl⟩)
    ·have hh:¬ hitK k kn (l.getD j default)=true:=by simp only [hitK,Bool.and_eq_true,decide_eq_true_eq];exact fun h=>hn h.2
     obtain ⟨hk1,hk2,hk3⟩:=hk
     (refine gP ?_;intros)
     refine ⟨(j + 1,q),⟨by show j + 1≤l.length;omega,by rw [kc.h,if_neg hh]⟩,by show l.length - (j + 1) < l.length - j;omega,?_⟩
     repeat' (first | exact True.intro | exact rfl | exact Nat.le_refl _ | refine And.intro ?_ ?_)
     all_goals (intro i hi;exact ⟨rfl,rfl⟩)
   ·have hh:¬ hitK k kn (l.getD j default)=true:=by simp only [hitK,Bool.and_eq_true,decide_eq_true_eq,kOf_eq];exact fun h=>hk h.1
    (refine gP ?_;intros)
    refine ⟨(j + 1,q),⟨by show j + 1≤l.length;omega,by rw [kc.h,if_neg hh]⟩,by show l.length - (j + 1) < l.length - j;omega,?_⟩
    repeat' (first | exact True.intro | exact rfl | exact Nat.le_refl _ | refine And.intro ?_ ?_)
    all_goals (intro i hi;exact ⟨rfl,rfl⟩)
  ·rw [drop_end (by omega),List.filter_nil,List.append_nil] at hc
   (refine gW ?_;intros)
   refine ⟨_,hc.symm,?_,rfl⟩
   repeat' (first | exact True.intro | exact rfl | exact Nat.le_refl _ | refine And.intro ?_ ?_)
   all_goals (intro i hi;exact ⟨rfl,rfl⟩)
theorem at_ok (l:List Fct) (hl:fitL l) (k:Ke) (t kn:Int):Pure Tryz.prog 100 [eFcts l,.agg (eKe k),.int .i64 t,.int .i64 kn] [.int .i64 (atV l k t kn).1,.bool (atV l k t kn).2]:=by
 refine pure_rule hT (T:=tab) (N:=50) (rs:=[.tmp 8,.tmp 9]) Tryz.func100 rfl rfl rfl (by kernel_rfl) rfl ?_
 (refine gW ?_;intros)
 refine (of_facts l k kn).at [] rfl True.intro (fun _ _=>⟨rfl,?_⟩)
 (refine gW ?_;intros)
 refine Awp.range (caps:=[.ptr (.loc 4) 0 0 0,.ptr (.loc 5) 0 0 0,.ptr (.loc 6) 0 0 0]) [(6,.ptr (.loc 1) 0 0 0),(10,.ptr (.loc 2) 0 0 0),(11,.ptr (.loc 3) 0 0 0)] (.inl rfl) (nl:=7) (na:=0) ⟨⟨rfl,rfl⟩,⟨rfl,rfl⟩,⟨rfl,rfl⟩,True.intro⟩ ?_
 intro y r h1 h2 h3 h4 h5 h6
 refine (of1A_ok r t y l hl k kn ?_).at [.loc 4,.loc 5,.loc 6,.loc 1,.loc 2,.loc 3,.loc 7] rfl ⟨rfl,rfl,rfl,rfl,rfl,rfl,rfl,True.intro⟩ (fun s hs=>⟨rfl,?_⟩)
 ·intro q x hx
  obtain ⟨b,hb⟩:∃ b,q.foldl (stepF t) none=b:=⟨_,rfl⟩
  have hn:(q ++ [x]).foldl (stepF t) none=stepF t b x:=by rw [List.foldl_append,hb];rfl
  have hp:=stepF_pair t b x
  rw [hb]
  obtain ⟨s,hs⟩:∃ s,b.isSome=s:=⟨_,rfl⟩
  obtain ⟨g,hg⟩:∃ g,b.getD zF=g:=⟨_,rfl⟩
  rw [hs,hg] at hp ⊢
  refine yieldMono (yield_rule (N:=50) (ps:=[17]) (args:=[.d (.agg (eFct x))])
   (bs:=[some (.box 27 [.d (eFcts l)]),some (.box 72 (up (eKe k))),some (.box 3 [.d (.int .i64 kn)]),some (.box 3 [.d (.int .i64 t)]),some (.box 74 (up (eFct g))),some (.box 4 [.d (.bool s)])]) (env0:=[(6,.ptr (.arg 3) 0 0 0),(10,.ptr (.arg 4) 0 0 0),(11,.ptr (.arg 5) 0 0 0)])
   (fun z:Bool × Fct=>[some (.box 27 [.d (eFcts l)]),some (.box 72 (up (eKe k))),some (.box 3 [.d (.int .i64 kn)]),some (.box 3 [.d (.int .i64 t)]),some (.box 74 (up (eFct z.2))),some (.box 4 [.d (.bool z.1)])]) (fun _=>none) (fun z=>z=stepP t s g x) h1 h3 h4 h5 h6 rfl (by simp) ?_ rfl rfl ?_) ?_
  ·repeat' (first | exact True.intro | exact rfl | exact Nat.le_refl _ | refine And.intro ?_ ?_)
  ·clear hp hn hb hs hg
   refine Awp.of_vc hT ?_
   (refine gW ?_;intros)
   refine Awp.of_vc hT ?_
   by_cases e1:x.fr≤t
   ·by_cases e2:t < x.til
    ·have hh:hitT t x=true:=by simp [hitT,e1,e2]
     cases s with
     | false =>
       (refine gW ?_;intros)
       exact ⟨(true,x),by simp [stepP,hh],rfl,rfl,by repeat' (first | exact True.intro | exact rfl | exact Nat.le_refl _ | refine And.intro ?_ ?_)⟩
     | true =>
       have hC:=fcompare_ok x g
       have hB:=fctC_bef x g
       cases e3:befF x g
       ·rw [e3] at hB
        have hB':0≤fctC x g:=by simpa using hB
        (refine gW ?_;intros)
        refine hC.call ?_
        (refine gW ?_;intros)
        exact ⟨(true,x),by simp [stepP,hh,e3],rfl,rfl,by repeat' (first | exact True.intro | exact rfl | exact Nat.le_refl _ | refine And.intro ?_ ?_)⟩
       ·rw [e3] at hB
        have hB':¬ 0≤fctC x g:=by simpa using hB
        (refine gW ?_;intros)
        refine hC.call ?_
        (refine gW ?_;intros)
        exact ⟨(true,g),by simp [stepP,hh,e3],rfl,rfl,by repeat' (first | exact True.intro | exact rfl | exact Nat.le_refl _ | refine And.intro ?_ ?_)⟩
    ·have hh:hitT t x=false:=by simp [hitT,e2]
     (refine gW ?_;intros)
     exact ⟨(s,g),by simp [stepP,hh],rfl,rfl,by repeat' (first | exact True.intro | exact rfl | exact Nat.le_refl _ | refine And.intro ?_ ?_)⟩
   ·have hh:hitT t x=false:=by simp [hitT,e1]
    (refine gW ?_;intros)
    exact ⟨(s,g),by simp [stepP,hh],rfl,rfl,by repeat' (first | exact True.intro | exact rfl | exact Nat.le_refl _ | refine And.intro ?_ ?_)⟩
  ·rintro A m' ⟨z,hJ,rfl,rfl⟩
   refine ⟨q ++ [x],rfl,rfl,?_⟩
   dsimp only
   rw [hn,hp.1,hp.2,← hJ]
   show (⟨[],[some _,some _,some _,some _,some _,some _,some (.loop y (after r none) _)]⟩:Mem)=_
   rw [after_none h1 h2]
 ·have hv:s.foldl (stepF t) none=bestF l k t kn:=by rw [hs];rfl
  unfold atV
  dsimp only
  rw [hv]
  obtain ⟨b,hb⟩:∃ b,bestF l k t kn=b:=⟨_,rfl⟩
  rw [hb]
  have hO:atO b=if b.isSome && !decide ((b.getD zF).value < 0) then ((b.getD zF).value,true) else (0,false):=by
   cases b with
   | none=>rfl
   | some f=>by_cases e:f.value < 0 <;> simp [atO,e]
  rw [hO]
  clear hO hb hv hs
  generalize b.isSome=s
  generalize b.getD zF=g
  cases s
  ·(refine gW ?_;intros)
   refine ⟨none,by rw [after_none h1 h2];rfl,?_⟩
   show Sq _ _
   (refine gW ?_;intros)
   exact ⟨rfl,rfl,True.intro⟩
  ·by_cases e:g.value < 0
   ·rw [decide_eq_true e]
    (refine gW ?_;intros)
    refine ⟨none,by rw [after_none h1 h2];rfl,?_⟩
    show Sq _ _
    (refine gW ?_;intros)
    exact ⟨rfl,rfl,True.intro⟩
   ·rw [decide_eq_false e]
    (refine gW ?_;intros)
    refine ⟨none,by rw [after_none h1 h2];rfl,?_⟩
    show Sq _ _
    (refine gW ?_;intros)
    exact ⟨rfl,rfl,True.intro⟩
end Go.Proofs.YtkjmomadndmeaaaGreatDoor
