import Derived.Test.YtkjmomadndmeaaaGreatDoorBunB
import Derived.Test.YtkjmomadndmeaaaGreatDoorApB
import Derived.Test.YtkjmomadndmeaaaGreatDoorPetC
namespace Go.Proofs.YtkjmomadndmeaaaGreatDoor
set_option linter.unusedSimpArgs false
set_option linter.unusedVariables false
open Go Go.Ab
set_option maxRecDepth 100000
set_option maxHeartbeats 0
inductive Parts (l:List Sec)(b:Bun):List Sec->Prop where
 |one {s:Sec} (h1:findS l b.sec=some s) (h2:s.lab=false) (h3:s.labs=[]) (h4:b.lab=-1) (h5:findS l b.lab=none):Parts l b [s]
 |two {s x:Sec} (h1:findS l b.sec=some s) (h2:s.lab=false) (h3:findS l b.lab=some x) (h4:b.lab≠-1) (h5:labOk s x b.lab=true) (h6:clashB s.meets x.meets=false):Parts l b [s,x]
theorem chk_id {l:List Sec}(h:chkAll l=0){s:Sec}(hs:s∈l):formed s=true/\mcheck s.meets=0:=by
 unfold chkAll at h
 split at h
 .rename_i h0
  exact chkS_ok (chkE_at h0 s hs)
 .rename_i h0;exact absurd h h0
theorem parts_of {l:List Sec} {b:Bun} (h:bchk l b=0):chkAll l=0∧∃ ps,Parts l b ps:=by
 unfold bchk at h
 by_cases h0:chkAll l=0
 .refine ⟨h0,?_⟩
  rw[if_pos h0]at h
  cases h1:findS l b.sec with
  |none=>rw[h1]at h;cases h
  | some s =>
    rw[h1]at h
    simp only at h
    by_cases hl:s.lab=true
    .rw[if_pos hl]at h;cases h
    .rw [if_neg hl] at h
     have hl':s.lab=false:=by simpa using hl
     have hneg:∀y,findS l b.lab=some y->b.lab≠-1:=fun y hy e=>by
      obtain⟨e1,e2⟩:=findS_id hy
      have:=(formed_id (chk_id h0 e2).1).1
      omega
     by_cases hn:s.labs.length=0/\b.lab=-1
     .refine⟨[s],.one h1 hl' (List.length_eq_zero_iff.1 hn.1) hn.2 ?_⟩
      cases h2:findS l b.lab with
      |none=>rfl
      |some y=>exact absurd hn.2 (hneg y h2)
     .rw [if_neg hn] at h
      cases h2:findS l b.lab with
      |none=>rw[h2]at h;cases h
      | some x =>
        rw[h2]at h
        simp only at h
        by_cases hk:labOk s x b.lab=true
        .rw[if_pos hk]at h
         cases hc:clashB s.meets x.meets with
         |true=>rw[hc]at h;cases h
         |false=>exact⟨[s,x],.two h1 hl' h2 (hneg x h2) hk hc⟩
        .rw[if_neg hk]at h;cases h
 .rw[if_neg h0]at h;exact absurd h h0
theorem zparts_ok (l:List Sec)(b:Bun):CallVC Tryz.prog 127 [.d (eSecs l),.d (.agg (eBun b))] ⟨[],[]⟩
 (Ret (fun _:Unit=>([.fn (.func 179) [] [lp 1,lp 0]],⟨[bX 80 [.d (eSecs l)],bX 83 (up (eBun b))],[]⟩)) fun _=>True):=by
 refine call_rule hT (T:=tab) (N:=6) (rs:=[.tmp 4]) _ _ Tryz.func127 rfl rfl rfl Kr rfl ?_
 (refine gW ?_;intros)
 exact⟨(),Tt,by repeat' (first|exact Tt|exact rfl|exact Nat.le_refl _|refine And.intro ?_ ?_),rfl⟩
def visit {S:Type}(cont:S->Bool)(step:S->Sec->S):List Sec->S->S
 |[],s=>s
 |x::r,s=>if cont (step s x)=true then visit cont step r (step s x) else step s x
def partsL (l:List Sec)(b:Bun):List Sec:=(match findS l b.sec with
 |some s=>[s]
 |none=>[])++(if b.lab=-1 then[] else match findS l b.lab with
 |some x=>[x]
 |none=>[])
theorem Parts.eq {l:List Sec}{b:Bun}{ps:List Sec}(h:Parts l b ps):ps=partsL l b:=by
 cases h with
 |one h1 h2 h3 h4 h5=>simp[partsL,h1,h4]
 |two h1 h2 h3 h4 h5 h6=>simp[partsL,h1,h3,h4]
theorem Parts.len {l:List Sec}{b:Bun}{ps:List Sec}(h:Parts l b ps):1<=ps.length/\ps.length<=2/\∀x∈ps,x∈l:=by
 cases h with
 |one h1=>exact⟨by simp,by simp,fun x hx=>by simp at hx;subst hx;exact(findS_id h1).2⟩
 |two h1 h2 h3=>exact⟨by simp,by simp,fun x hx=>by simp at hx;rcases hx with rfl|rfl;exact(findS_id h1).2;exact(findS_id h3).2⟩
theorem parts1I_ok (rec:Loop)(sx:Sec)(y:Nat)(l:List Sec)(hl:fewS l)(h0:chkAll l=0)(b:Bun){ps:List Sec}(hp:Parts l b ps)(s0:(Bool × Bool))(step:(Bool × Bool)->Sec->(Bool × Bool))(cont:(Bool × Bool)->Bool)(hgo:cont s0=true)
 (hy:∀ s:(Bool × Bool),(s=s0∨∃ z∈ps,s=step s0 z)→cont s=true→∀ x∈ps,YieldVC Tryz.prog y [.d (.agg (eSec x))] ⟨[],[some (.box 80 [.d (eSecs l)]),some (.box 83 (up (eBun b))),some (.box 4 [.d (.bool s.1)]),some (.box 157 (up (eSec sx))),some (.loop y (bif s.2 then after rec (some (.exit 0)) else rec) [(6,.ptr (.arg 2) 0 0 0),(8,.ptr (.arg 3) 0 0 0)])]⟩
  (Ret (fun s:(Bool × Bool)=>([.d (.bool (cont s))],⟨[],[bX 80 [.d (eSecs l)],bX 83 (up (eBun b)),bX 4 [.d (.bool s.1)],bX 157 (up (eSec sx)),some (.loop y (bif s.2 then after rec (some (.exit 0)) else rec) [(6,ap 2),(8,ap 3)])]⟩)) fun s'=>s'=step s x)) :
 CallVC Tryz.prog 179 [.fn (.yield y) [] [],ap 1,ap 0] ((fun s:(Bool × Bool)=>⟨[],[bX 80 [.d (eSecs l)],bX 83 (up (eBun b)),bX 4 [.d (.bool s.1)],bX 157 (up (eSec sx)),some (.loop y (bif s.2 then after rec (some (.exit 0)) else rec) [(6,ap 2),(8,ap 3)])]⟩) s0)
  (Ret (fun s:(Bool × Bool)=>([],⟨[],[bX 80 [.d (eSecs l)],bX 83 (up (eBun b)),bX 4 [.d (.bool s.1)],bX 157 (up (eSec sx)),some (.loop y (bif s.2 then after rec (some (.exit 0)) else rec) [(6,ap 2),(8,ap 3)])]⟩)) fun s=>s=visit cont step ps s0):=by
 have hln:l.length<=1000000:=by have:=hl.1;omega
 obtain⟨s,hs⟩:∃s,findS l b.sec=some s:=by cases hp with
  |one h1=>exact⟨_,h1⟩
  |two h1=>exact⟨_,h1⟩
 have hF:=find_some hln hs
 have hsec:b.sec≠-1:=by
  obtain⟨e1,e2⟩:=findS_id hs
  have:=(formed_id (chk_id h0 e2).1).1
  omega
 obtain⟨ps',rfl⟩:∃ps',ps=s::ps':=by cases hp with
  |one h1=>rw[hs]at h1;cases h1;exact⟨_,rfl⟩
  |two h1=>rw[hs]at h1;cases h1;exact⟨_,rfl⟩
 have hrest:(b.lab=-1/\ps'=[]/\findS l b.lab=none)\/(b.lab≠-1/\∃x,findS l b.lab=some x/\ps'=[x]):=by cases hp with
  |one h1 h2 h3 h4 h5=>exact .inl ⟨h4,rfl,h5⟩
  |two h1 h2 h3 h4 h5 h6=>exact .inr ⟨h4,_,h3,rfl⟩
 refine call_rule hT (T:=tab) (N:=34) (rs:=[]) _ _ Tryz.func179 rfl rfl rfl Kr rfl ?_
 (refine gW ?_;intros)
 refine loop_rule hT (S:=Nat × (Bool × Bool)) (fun q=>([(0,.fn (.yield y) [] []),(2,ap 0),(12,.d (.agg [di b.sec,di b.lab])),(13,dV q.1)],(fun s:(Bool × Bool)=>⟨[],[bX 80 [.d (eSecs l)],bX 83 (up (eBun b)),bX 4 [.d (.bool s.1)],bX 157 (up (eSec sx)),some (.loop y (bif s.2 then after rec (some (.exit 0)) else rec) [(6,ap 2),(8,ap 3)])]⟩) q.2))
  (fun q=>(q.1=0/\q.2=s0)\/(q.1=1/\q.2=step s0 s/\cont (step s0 s)=true)\/(q.1=2/\q.2=visit cont step (s::ps') s0)) (fun q=>2-q.1) (0,s0) ?_ ?_ ?_
 .exact lq
  all_goals (intro i hi;exact⟨rfl,rfl⟩)
 .exact .inl ⟨rfl,rfl⟩
 .rintro⟨k,q⟩ (⟨h1,h2⟩|⟨h1,h2,h3⟩|⟨h1,h2⟩)
  .dsimp only at h1 h2
   subst h1;subst h2
   (refine gW ?_;intros)
   refine hF.call ?_
   (refine gW ?_;intros)
   refine(hy q (.inl rfl) hgo s (by simp)).at [.arg 0,.arg 1,.arg 2,.arg 3,.arg 4] rfl ⟨rfl,rfl,rfl,rfl,rfl,Tt⟩ (fun s' hs'=>⟨rfl,?_⟩)
   subst hs'
   by_cases hc:cont (step q s)=true
   .have hc2:¬ cont (step q s)=false:=by simp[hc]
    ((refine xW ?_ ?_)<;>(intros;try rename_i h))
    .exfalso
     revert h
     simp[hc,hsec]
    refine⟨(1,step q s),.inr (.inl ⟨rfl,rfl,hc⟩),by show _<_;simp,?_⟩
    exact lq
    all_goals (intro i hi;exact⟨rfl,rfl⟩)
   .have hv:visit cont step (s::ps') q=step q s:=by rw[visit,if_neg hc]
    ((refine xW ?_ ?_)<;>(intros;try rename_i h))
    .refine⟨_,rfl,?_,rfl⟩
     rw[hv]
     exact lq
     all_goals (intro i hi;exact⟨rfl,rfl⟩)
    .exfalso
     revert h
     simp[hc,hsec]
  .dsimp only at h1 h2
   subst h1;subst h2
   rcases hrest with ⟨e1,e2,e3⟩|⟨e1,x,e2,e3⟩
   .have hF2:=find_none hln e3
    have hv:visit cont step (s::ps') s0=step s0 s:=by rw[visit,if_pos h3,e2,visit]
    (refine gW ?_;intros)
    refine hF2.call ?_
    (refine gW ?_;intros)
    refine⟨(2,step s0 s),.inr (.inr ⟨rfl,hv.symm⟩),by show _<_;simp,?_⟩
    exact lq
    all_goals (intro i hi;exact⟨rfl,rfl⟩)
   .have hF2:=find_some hln e2
    have hv:visit cont step (s::ps') s0=step (step s0 s) x:=by rw[visit,if_pos h3,e3,visit,visit];split<;>rfl
    (refine gW ?_;intros)
    refine hF2.call ?_
    (refine gW ?_;intros)
    refine(hy (step s0 s) (.inr ⟨s,by simp,rfl⟩) h3 x (by rw[e3];simp)).at [.arg 0,.arg 1,.arg 2,.arg 3,.arg 4] rfl ⟨rfl,rfl,rfl,rfl,rfl,Tt⟩ (fun s' hs'=>⟨rfl,?_⟩)
    subst hs'
    ((refine xW ?_ ?_)<;>intros)
    .refine⟨_,rfl,?_,rfl⟩
     rw[hv]
     exact lq
     all_goals (intro i hi;exact⟨rfl,rfl⟩)
    .refine⟨(2,step (step s0 s) x),.inr (.inr ⟨rfl,hv.symm⟩),by show _<_;simp,?_⟩
     exact lq
     all_goals (intro i hi;exact⟨rfl,rfl⟩)
  .dsimp only at h1 h2
   subst h1;subst h2
   (refine gW ?_;intros)
   refine⟨_,rfl,?_,rfl⟩
   exact lq
   all_goals (intro i hi;exact⟨rfl,rfl⟩)
theorem parts1O_ok (rec:Loop)(b2:Bun)(y:Nat)(l:List Sec)(hl:fewS l)(h0:chkAll l=0)(b:Bun){ps:List Sec}(hp:Parts l b ps)(s0:(Bool × Bool))(step:(Bool × Bool)->Sec->(Bool × Bool))(cont:(Bool × Bool)->Bool)(hgo:cont s0=true)
 (hy:∀ s:(Bool × Bool),(s=s0∨∃ z∈ps,s=step s0 z)→cont s=true→∀ x∈ps,YieldVC Tryz.prog y [.d (.agg (eSec x))] ⟨[],[some (.box 80 [.d (eSecs l)]),some (.box 83 (up (eBun b))),some (.box 80 [.d (eSecs l)]),some (.box 83 (up (eBun b2))),some (.box 4 [.d (.bool s.1)]),some (.loop y (bif s.2 then after rec (some (.exit 0)) else rec) [(3,.ptr (.arg 2) 0 0 0),(5,.ptr (.arg 3) 0 0 0),(6,.ptr (.arg 4) 0 0 0)])]⟩
  (Ret (fun s:(Bool × Bool)=>([.d (.bool (cont s))],⟨[],[bX 80 [.d (eSecs l)],bX 83 (up (eBun b)),bX 80 [.d (eSecs l)],bX 83 (up (eBun b2)),bX 4 [.d (.bool s.1)],some (.loop y (bif s.2 then after rec (some (.exit 0)) else rec) [(3,ap 2),(5,ap 3),(6,ap 4)])]⟩)) fun s'=>s'=step s x)) :
 CallVC Tryz.prog 179 [.fn (.yield y) [] [],ap 1,ap 0] ((fun s:(Bool × Bool)=>⟨[],[bX 80 [.d (eSecs l)],bX 83 (up (eBun b)),bX 80 [.d (eSecs l)],bX 83 (up (eBun b2)),bX 4 [.d (.bool s.1)],some (.loop y (bif s.2 then after rec (some (.exit 0)) else rec) [(3,ap 2),(5,ap 3),(6,ap 4)])]⟩) s0)
  (Ret (fun s:(Bool × Bool)=>([],⟨[],[bX 80 [.d (eSecs l)],bX 83 (up (eBun b)),bX 80 [.d (eSecs l)],bX 83 (up (eBun b2)),bX 4 [.d (.bool s.1)],some (.loop y (bif s.2 then after rec (some (.exit 0)) else rec) [(3,ap 2),(5,ap 3),(6,ap 4)])]⟩)) fun s=>s=visit cont step ps s0):=by
 have hln:l.length<=1000000:=by have:=hl.1;omega
 obtain⟨s,hs⟩:∃s,findS l b.sec=some s:=by cases hp with
  |one h1=>exact⟨_,h1⟩
  |two h1=>exact⟨_,h1⟩
 have hF:=find_some hln hs
 have hsec:b.sec≠-1:=by
  obtain⟨e1,e2⟩:=findS_id hs
  have:=(formed_id (chk_id h0 e2).1).1
  omega
 obtain⟨ps',rfl⟩:∃ps',ps=s::ps':=by cases hp with
  |one h1=>rw[hs]at h1;cases h1;exact⟨_,rfl⟩
  |two h1=>rw[hs]at h1;cases h1;exact⟨_,rfl⟩
 have hrest:(b.lab=-1/\ps'=[]/\findS l b.lab=none)\/(b.lab≠-1/\∃x,findS l b.lab=some x/\ps'=[x]):=by cases hp with
  |one h1 h2 h3 h4 h5=>exact .inl ⟨h4,rfl,h5⟩
  |two h1 h2 h3 h4 h5 h6=>exact .inr ⟨h4,_,h3,rfl⟩
 refine call_rule hT (T:=tab) (N:=34) (rs:=[]) _ _ Tryz.func179 rfl rfl rfl Kr rfl ?_
 (refine gW ?_;intros)
 refine loop_rule hT (S:=Nat × (Bool × Bool)) (fun q=>([(0,.fn (.yield y) [] []),(2,ap 0),(12,.d (.agg [di b.sec,di b.lab])),(13,dV q.1)],(fun s:(Bool × Bool)=>⟨[],[bX 80 [.d (eSecs l)],bX 83 (up (eBun b)),bX 80 [.d (eSecs l)],bX 83 (up (eBun b2)),bX 4 [.d (.bool s.1)],some (.loop y (bif s.2 then after rec (some (.exit 0)) else rec) [(3,ap 2),(5,ap 3),(6,ap 4)])]⟩) q.2))
  (fun q=>(q.1=0/\q.2=s0)\/(q.1=1/\q.2=step s0 s/\cont (step s0 s)=true)\/(q.1=2/\q.2=visit cont step (s::ps') s0)) (fun q=>2-q.1) (0,s0) ?_ ?_ ?_
 .exact lq
  all_goals (intro i hi;exact⟨rfl,rfl⟩)
 .exact .inl ⟨rfl,rfl⟩
 .rintro⟨k,q⟩ (⟨h1,h2⟩|⟨h1,h2,h3⟩|⟨h1,h2⟩)
  .dsimp only at h1 h2
   subst h1;subst h2
   (refine gW ?_;intros)
   refine hF.call ?_
   (refine gW ?_;intros)
   refine(hy q (.inl rfl) hgo s (by simp)).at [.arg 0,.arg 1,.arg 2,.arg 3,.arg 4,.arg 5] rfl ⟨rfl,rfl,rfl,rfl,rfl,rfl,Tt⟩ (fun s' hs'=>⟨rfl,?_⟩)
   subst hs'
   by_cases hc:cont (step q s)=true
   .have hc2:¬ cont (step q s)=false:=by simp[hc]
    ((refine xW ?_ ?_)<;>(intros;try rename_i h))
    .exfalso
     revert h
     simp[hc,hsec]
    refine⟨(1,step q s),.inr (.inl ⟨rfl,rfl,hc⟩),by show _<_;simp,?_⟩
    exact lq
    all_goals (intro i hi;exact⟨rfl,rfl⟩)
   .have hv:visit cont step (s::ps') q=step q s:=by rw[visit,if_neg hc]
    ((refine xW ?_ ?_)<;>(intros;try rename_i h))
    .refine⟨_,rfl,?_,rfl⟩
     rw[hv]
     exact lq
     all_goals (intro i hi;exact⟨rfl,rfl⟩)
    .exfalso
     revert h
     simp[hc,hsec]
  .dsimp only at h1 h2
   subst h1;subst h2
   rcases hrest with ⟨e1,e2,e3⟩|⟨e1,x,e2,e3⟩
   .have hF2:=find_none hln e3
    have hv:visit cont step (s::ps') s0=step s0 s:=by rw[visit,if_pos h3,e2,visit]
    (refine gW ?_;intros)
    refine hF2.call ?_
    (refine gW ?_;intros)
    refine⟨(2,step s0 s),.inr (.inr ⟨rfl,hv.symm⟩),by show _<_;simp,?_⟩
    exact lq
    all_goals (intro i hi;exact⟨rfl,rfl⟩)
   .have hF2:=find_some hln e2
    have hv:visit cont step (s::ps') s0=step (step s0 s) x:=by rw[visit,if_pos h3,e3,visit,visit];split<;>rfl
    (refine gW ?_;intros)
    refine hF2.call ?_
    (refine gW ?_;intros)
    refine(hy (step s0 s) (.inr ⟨s,by simp,rfl⟩) h3 x (by rw[e3];simp)).at [.arg 0,.arg 1,.arg 2,.arg 3,.arg 4,.arg 5] rfl ⟨rfl,rfl,rfl,rfl,rfl,rfl,Tt⟩ (fun s' hs'=>⟨rfl,?_⟩)
    subst hs'
    ((refine xW ?_ ?_)<;>intros)
    .refine⟨_,rfl,?_,rfl⟩
     rw[hv]
     exact lq
     all_goals (intro i hi;exact⟨rfl,rfl⟩)
    .refine⟨(2,step (step s0 s) x),.inr (.inr ⟨rfl,hv.symm⟩),by show _<_;simp,?_⟩
     exact lq
     all_goals (intro i hi;exact⟨rfl,rfl⟩)
  .dsimp only at h1 h2
   subst h1;subst h2
   (refine gW ?_;intros)
   refine⟨_,rfl,?_,rfl⟩
   exact lq
   all_goals (intro i hi;exact⟨rfl,rfl⟩)
def contI (q:Bool × Bool):Bool:=!q.2
def stepI (x:Sec)(q:Bool × Bool)(y:Sec):Bool × Bool:=if x.term=y.term then(clashB x.meets y.meets,clashB x.meets y.meets) else(q.1,true)
def stepO (qs:List Sec)(q:Bool × Bool)(x:Sec):Bool × Bool:=visit contI (stepI x) qs (q.1,false)
theorem visitI_eq (x:Sec):∀(qs:List Sec),(∀y∈qs,x.term=y.term)->visit contI (stepI x) qs (false,false)=(qs.any fun y=>clashB x.meets y.meets,qs.any fun y=>clashB x.meets y.meets)
 |[],_=>rfl
 | y :: r,h=>by
   have h1:stepI x (false,false) y=(clashB x.meets y.meets,clashB x.meets y.meets):=if_pos (h y (by simp))
   rw[visit,h1,List.any_cons]
   cases hc:clashB x.meets y.meets
   .rw[if_pos (show contI (false,false)=true from rfl),visitI_eq x r (fun y hy=>h y (by simp[hy]))]
    rfl
   .rfl
theorem visitO_eq (qs:List Sec):∀(ps:List Sec),(∀x∈ps,∀y∈qs,x.term=y.term)->visit contI (stepO qs) ps (false,false)=(ps.any fun x=>qs.any fun y=>clashB x.meets y.meets,ps.any fun x=>qs.any fun y=>clashB x.meets y.meets)
 |[],_=>rfl
 | x :: r,h=>by
   have h1:stepO qs (false,false) x=_:=visitI_eq x qs (h x (by simp))
   rw[visit,h1,List.any_cons]
   cases hc:qs.any fun y=>clashB x.meets y.meets
   .rw[if_pos (show contI (false,false)=true from rfl),visitO_eq qs r (fun y hy=>h y (by simp[hy]))]
    rfl
   .rfl
theorem visitI_ne (x y:Sec)(r:List Sec)(h:x.term≠y.term):visit contI (stepI x) (y::r) (false,false)=(false,true):=by
 have h1:stepI x (false,false) y=(false,true):=if_neg h
 rw[visit,h1]
 rfl
theorem visitO_ne (x y:Sec)(p r:List Sec)(h:x.term≠y.term):visit contI (stepO (y::r)) (x::p) (false,false)=(false,true):=by
 have h1:stepO (y::r) (false,false) x=(false,true):=visitI_ne x y r h
 rw[visit,h1]
 rfl
def clE (l:List Sec)(a b:Bun):Int:=if bchk l a=0 then bchk l b else bchk l a
def clV (ps qs:List Sec):Bool:=decide ((ps.headD default).term=(qs.headD default).term)&&ps.any fun x=>qs.any fun y=>clashB x.meets y.meets
def clB (l:List Sec)(a b:Bun):Bool:=decide (clE l a b=0)&&clV (partsL l a) (partsL l b)
theorem Parts.term {l:List Sec}{b:Bun}{ps:List Sec}(h:Parts l b ps):∃s r,ps=s::r/\∀x∈ps,x.term=s.term:=by
 cases h with
 |one h1 h2 h3 h4 h5=>exact⟨_,[],rfl,fun x hx=>by simp at hx;rw[hx]⟩
 |@two s x h1 h2 h3 h4 h5 h6=>exact⟨s,[x],rfl,fun z hz=>by
  simp only[labOk,Bool.and_eq_true,decide_eq_true_eq]at h5
  simp at hz
  rcases hz with rfl|rfl
  .rfl
  .exact h5.2.2⟩
theorem visit_clV {l:List Sec}{a b:Bun}{ps qs:List Sec}(hp:Parts l a ps)(hq:Parts l b qs):(visit contI (stepO qs) ps (false,false)).1=clV ps qs:=by
 obtain⟨s,r,rfl,h1⟩:=hp.term
 obtain⟨t,r2,rfl,h2⟩:=hq.term
 unfold clV
 by_cases h:s.term=t.term
 .have e:decide (((s::r).headD default).term=((t::r2).headD default).term)=true:=decide_eq_true h
  rw[visitO_eq _ _ (fun x hx y hy=>by rw[h1 x hx,h2 y hy,h]),e]
  rfl
 .have e:decide (((s::r).headD default).term=((t::r2).headD default).term)=false:=decide_eq_false h
  rw[visitO_ne s t r r2 h,e]
  rfl
theorem clash_ok (l:List Sec) (hl:fewS l) (a b:Bun):Pure Tryz.prog 75 [eSecs l,.agg (eBun a),.agg (eBun b)] [.bool (clB l a b),.int .i64 (clE l a b)]:=by
 refine pure_rule hT (T:=tab) (N:=45) (rs:=[.cell 6 4,.tmp 7]) Tryz.func75 rfl rfl rfl Kr rfl ?_
 have hA:=bcheck_ok l hl a
 have hB:=bcheck_ok l hl b
 by_cases hza:bchk l a=0
 .rw [hza] at hA
  by_cases hzb:bchk l b=0
  .rw [hzb] at hB
   obtain⟨h0,ps,hp⟩:=parts_of hza
   obtain⟨_,qs,hq⟩:=parts_of hzb
   have hE:clE l a b=0:=by rw[clE,if_pos hza,hzb]
   have hV:clB l a b=(visit contI (stepO qs) ps (false,false)).1:=by rw[visit_clV hp hq,clB,hE,<-hp.eq,<-hq.eq];rfl
   rw[hE,hV]
   (refine gW ?_;intros)
   refine hA.call ?_
   (refine gW ?_;intros)
   refine hB.call ?_
   (refine gW ?_;intros)
   refine(zparts_ok l a).at [] rfl Tt (fun _ _=>⟨rfl,?_⟩)
   (refine gW ?_;intros)
   refine Awp.range (caps:=[lp 5,lp 4]) [(3,lp 0),(5,lp 2),(6,lp 3)] (.inl rfl) (nl:=6) (na:=0) ⟨⟨rfl,rfl⟩,⟨rfl,rfl⟩,⟨rfl,rfl⟩,Tt⟩ ?_
   intro y r h1 h2 h3 h4 h5 h6
   refine(parts1O_ok r b y l hl h0 a hp (false,false) (stepO qs) contI rfl ?_).at [.loc 4,.loc 5,.loc 0,.loc 2,.loc 3,.loc 6] rfl ⟨rfl,rfl,rfl,rfl,rfl,rfl,Tt⟩ (fun s hs=>⟨rfl,?_⟩)
   .intro q _ hcq x hx
    obtain⟨v,w⟩:=q
    have hw:w=false:=by simpa[contI] using hcq
    subst hw
    have hx3:=(few_at hl (hp.len.2.2 x hx)).2.2
    refine yieldMono (yield_rule (N:=45) (ps:=[25]) (args:=[.d (.agg (eSec x))])
     (bs:=[bX 80 [.d (eSecs l)],bX 83 (up (eBun a)),bX 80 [.d (eSecs l)],bX 83 (up (eBun b)),bX 4 [.d (.bool v)]]) (env0:=[(3,ap 2),(5,ap 3),(6,ap 4)])
     (fun q:Bool × Bool=>[bX 80 [.d (eSecs l)],bX 83 (up (eBun a)),bX 80 [.d (eSecs l)],bX 83 (up (eBun b)),bX 4 [.d (.bool q.1)]])
     (fun q=>bif q.2 then some (.exit 0) else none) (fun q'=>q'=stepO qs (v,false) x) h1 h3 h4 h5 h6 rfl (by simp) ?_ rfl rfl ?_) ?_
    .exact lq
    .refine Awp.of_vc hT ?_
     (refine gW ?_;intros)
     refine Awp.of_vc hT ?_
     (refine gW ?_;intros)
     refine(zparts_ok l b).at [] rfl Tt (fun _ _=>⟨rfl,?_⟩)
     (refine gW ?_;intros)
     refine Awp.range (caps:=[lp 2,lp 1]) [(6,ap 4),(8,lp 0)] (.inl rfl) (nl:=3) (na:=5) ⟨⟨rfl,rfl⟩,⟨rfl,rfl⟩,Tt⟩ ?_
     intro y2 r2 g1 g2 g3 g4 g5 g6
     refine(parts1I_ok r2 x y2 l hl h0 b hq (v,false) (stepI x) contI rfl ?_).at [.loc 1,.loc 2,.arg 4,.loc 0,.loc 3] rfl ⟨rfl,rfl,rfl,rfl,rfl,Tt⟩ (fun s hs=>⟨rfl,?_⟩)
     .intro q2 _ hc2 z hz
      obtain⟨v2,w2⟩:=q2
      have hw2:w2=false:=by simpa[contI] using hc2
      subst hw2
      have hz3:=(few_at hl (hq.len.2.2 z hz)).2.2
      refine yieldMono (yield_rule (N:=45) (ps:=[29]) (args:=[.d (.agg (eSec z))])
       (bs:=[bX 80 [.d (eSecs l)],bX 83 (up (eBun b)),bX 4 [.d (.bool v2)],bX 157 (up (eSec x))]) (env0:=[(6,ap 2),(8,ap 3)])
       (fun q:Bool × Bool=>[bX 80 [.d (eSecs l)],bX 83 (up (eBun b)),bX 4 [.d (.bool q.1)],bX 157 (up (eSec x))])
       (fun q=>bif q.2 then some (.exit 0) else none) (fun q'=>q'=stepI x (v2,false) z) g1 g3 g4 g5 g6 rfl (by simp) ?_ rfl rfl ?_) ?_
      .exact lq
      .have hM:=mclash_ok x.meets z.meets hx3 hz3
       by_cases ht:x.term=z.term
       .have hst:stepI x (v2,false) z=(clashB x.meets z.meets,clashB x.meets z.meets):=if_pos ht
        cases hc:clashB x.meets z.meets
        .rw[hc]at hM hst
         refine Awp.of_vc hT ?_
         (refine gW ?_;intros)
         refine Awp.of_vc hT ?_
         (refine gW ?_;intros)
         refine hM.call ?_
         (refine gW ?_;intros)
         exact⟨(false,false),hst.symm,rfl,rfl,by repeat' (first|exact Tt|exact rfl|exact Nat.le_refl _|refine And.intro ?_ ?_)⟩
        .rw[hc]at hM hst
         refine Awp.of_vc hT ?_
         (refine gW ?_;intros)
         refine Awp.of_vc hT ?_
         (refine gW ?_;intros)
         refine hM.call ?_
         (refine gW ?_;intros)
         exact⟨(true,true),hst.symm,rfl,rfl,by repeat' (first|exact Tt|exact rfl|exact Nat.le_refl _|refine And.intro ?_ ?_)⟩
       .have hst:stepI x (v2,false) z=(v2,true):=if_neg ht
        refine Awp.of_vc hT ?_
        (refine gW ?_;intros)
        refine Awp.of_vc hT ?_
        (refine gW ?_;intros)
        exact⟨(v2,true),hst.symm,rfl,rfl,by repeat' (first|exact Tt|exact rfl|exact Nat.le_refl _|refine And.intro ?_ ?_)⟩
      .rintro A m' ⟨s,hJ,rfl,rfl⟩
       refine⟨s,hJ,?_,?_⟩
       .obtain⟨s1,s2⟩:=s
        cases s2<;>rfl
       .obtain⟨s1,s2⟩:=s
        cases s2
        .show(⟨[],[some _,some _,some _,some _,some (.loop y2 (after r2 none) _)]⟩:Mem)=_
         rw[after_none g1 g2]
         rfl
        .rfl
     .obtain⟨s1,s2⟩:=s
      cases s2
      .refine⟨none,by rw[after_none g1 g2];rfl,?_⟩
       refine Exists.intro (s1,false) ?_
       exact⟨hs,rfl,rfl,by repeat' (first|exact Tt|exact rfl|exact Nat.le_refl _|refine And.intro ?_ ?_)⟩
      .refine⟨some (.exit 0),rfl,?_⟩
       refine Awp.of_vc hT ?_
       (refine gW ?_;intros)
       exact⟨(s1,true),hs,rfl,rfl,by repeat' (first|exact Tt|exact rfl|exact Nat.le_refl _|refine And.intro ?_ ?_)⟩
    .rintro A m' ⟨s,hJ,rfl,rfl⟩
     refine⟨s,hJ,?_,?_⟩
     .obtain⟨s1,s2⟩:=s
      cases s2<;>rfl
     .obtain⟨s1,s2⟩:=s
      cases s2
      .show(⟨[],[some _,some _,some _,some _,some _,some (.loop y (after r none) _)]⟩:Mem)=_
       rw[after_none h1 h2]
       rfl
      .rfl
   .obtain⟨s1,s2⟩:=s
    rw[<-hs]
    cases s2
    .refine⟨none,by rw[after_none h1 h2];rfl,?_⟩
     show Sq _ _
     (refine gW ?_;intros)
     exact⟨rfl,rfl,Tt⟩
    .refine⟨some (.exit 0),rfl,?_⟩
     refine Awp.of_vc hT ?_
     (refine gW ?_;intros)
     exact⟨rfl,rfl,Tt⟩
  .have hE:clE l a b=bchk l b:=by rw[clE,if_pos hza]
   have hV:clB l a b=false:=by rw[clB,hE,decide_eq_false hzb];rfl
   rw[hE,hV]
   (refine gW ?_;intros)
   refine hA.call ?_
   (refine gW ?_;intros)
   refine hB.call ?_
   (refine gW ?_;intros)
   exact⟨rfl,rfl,Tt⟩
 .have hE:clE l a b=bchk l a:=by rw[clE,if_neg hza]
  have hV:clB l a b=false:=by rw[clB,hE,decide_eq_false hza];rfl
  rw[hE,hV]
  (refine gW ?_;intros)
  refine hA.call ?_
  (refine gW ?_;intros)
  exact⟨rfl,rfl,Tt⟩
theorem rsections_ok (l:List Sec)(hl:fewS l)(b:Bun){ps:List Sec}(hp:Parts l b ps):Pure Tryz.prog 134 [eSecs l,.agg (eBun b)] [eSecs ps]:=by
 refine pure_rule hT (T:=tab) (N:=31) (rs:=[.tmp 4]) Tryz.func134 rfl rfl rfl Kr rfl ?_
 have hln:l.length<=1000000:=by have:=hl.1;omega
 cases hp with
 | @one s h1 h2 h3 h4 h5 =>
   have hF:=rfind_some hln h1
   (refine gW ?_;intros)
   refine hF.call ?_
   (refine gW ?_;intros)
   exact⟨⟨rfl,rfl,Nat.le_refl _,rfl,fun i hi=>by rw[show i=0 from Nat.lt_one_iff.1 hi];rfl⟩,Tt⟩
 | @two s x h1 h2 h3 h4 h5 h6 =>
   have hF:=rfind_some hln h1
   have hF2:=rfind_some hln h3
   (refine gW ?_;intros)
   refine hF.call ?_
   (refine gW ?_;intros)
   refine hF2.call ?_
   (refine gW ?_;intros)
   exact⟨⟨rfl,rfl,Nat.le_refl _,rfl,fun i hi=>by rcases show i=0\/i=1 by have:i<2:=hi;omega with rfl|rfl<;>rfl⟩,Tt⟩
theorem rclashB_ok (l:List Sec) (hl:fewS l) (a b:Bun):Pure Tryz.prog 78 [eSecs l,.agg (eBun a),.agg (eBun b)] [.bool (clB l a b),.int .i64 (clE l a b)]:=by
 refine pure_rule hT (T:=tab) (N:=68) (rs:=[.tmp 6,.tmp 7]) Tryz.func78 rfl rfl rfl Kr rfl ?_
 have hA:=rbcheck_ok l hl a
 have hB:=rbcheck_ok l hl b
 by_cases hza:bchk l a=0
 .rw [hza] at hA
  by_cases hzb:bchk l b=0
  .rw [hzb] at hB
   obtain⟨h0,ps,hp⟩:=parts_of hza
   obtain⟨_,qs,hq⟩:=parts_of hzb
   obtain⟨hp1,hp2,hp3⟩:=hp.len
   obtain⟨hq1,hq2,hq3⟩:=hq.len
   have hE:clE l a b=0:=by rw[clE,if_pos hza,hzb]
   have hV:clB l a b=clV ps qs:=by rw[clB,hE,<-hp.eq,<-hq.eq];rfl
   have hph:ps.headD default=ps.getD 0 default:=by cases ps<;>rfl
   have hqh:qs.headD default=qs.getD 0 default:=by cases qs<;>rfl
   rw[hE,hV]
   (refine gW ?_;intros)
   refine hA.call ?_
   (refine gW ?_;intros)
   refine hB.call ?_
   (refine gW ?_;intros)
   refine qC (rsections_ok l hl a hp) ?_
   (refine gW ?_;intros)
   refine qC (rsections_ok l hl b hq) ?_
   ((refine xW ?_ ?_)<;>(intros;try rename_i h))
   .have h':¬ (ps.getD 0 default).term=(qs.getD 0 default).term:=h
    have hv:clV ps qs=false:=by rw[clV,hph,hqh,decide_eq_false h'];rfl
    rw[hv]
    exact⟨rfl,rfl,Tt⟩
   .have h':(ps.getD 0 default).term=(qs.getD 0 default).term:=h
    have hv:clV ps qs=ps.any fun x=>qs.any fun y=>clashB x.meets y.meets:=by rw[clV,hph,hqh,decide_eq_true h'];rfl
    rw[hv]
    refine loop_rule hT (S:=Nat) (fun k=>([(9,.d (eSecs ps)),(10,.d (eSecs qs)),(11,dV k)],⟨[],[]⟩)) (fun k=>k<=ps.length/\(ps.any fun x=>qs.any fun y=>clashB x.meets y.meets)=(ps.drop k).any fun x=>qs.any fun y=>clashB x.meets y.meets) (fun k=>ps.length-k) 0 ?_ ?_ ?_
    .exact lq
    .exact⟨Nat.zero_le _,rfl⟩
    .rintro k ⟨hk,hc⟩
     by_cases hk2:k<ps.length
     .rw [drop_at hk2,List.any_cons] at hc
      have hx3:=(few_at hl (hp3 _ (getD_mem hk2))).2.2
      (refine gW ?_;intros)
      refine loop_rule hT (S:=Nat) (fun i=>([(9,.d (eSecs ps)),(10,.d (eSecs qs)),(11,dV k),(12,dV i)],⟨[],[]⟩)) (fun i=>i<=qs.length/\(qs.any fun y=>clashB (ps.getD k default).meets y.meets)=(qs.drop i).any fun y=>clashB (ps.getD k default).meets y.meets) (fun i=>qs.length-i) 0 ?_ ?_ ?_
      .exact lq
      .exact⟨Nat.zero_le _,rfl⟩
      .rintro i ⟨hi,hci⟩
       by_cases hi2:i<qs.length
       .rw[drop_at hi2,List.any_cons]at hci
        have hy3:=(few_at hl (hq3 _ (getD_mem hi2))).2.2
        have hM:=rclash_ok (ps.getD k default).meets (qs.getD i default).meets hx3 hy3
        cases hcl:clashB (ps.getD k default).meets (qs.getD i default).meets
        .rw[hcl]at hM hci
         (refine gW ?_;intros)
         refine qC hM ?_
         (refine gW ?_;intros)
         refine⟨i+1,⟨by show i+1<=qs.length;omega,?_⟩,by show qs.length-(i+1)<qs.length-i;omega,?_⟩
         .rw[hci];rfl
         .exact lq
        .rw[hcl]at hM hci
         (refine gW ?_;intros)
         refine qC hM ?_
         (refine gW ?_;intros)
         rw[hc,hci]
         exact⟨rfl,rfl,Tt⟩
       .rw[drop_end Om]at hci
        (refine gW ?_;intros)
        refine⟨k+1,⟨by show k+1<=ps.length;omega,?_⟩,by show ps.length-(k+1)<ps.length-k;omega,?_⟩
        .rw[hc,hci];rfl
        .exact lq
     .rw[drop_end Om]at hc
      (refine gW ?_;intros)
      rw[hc]
      exact⟨rfl,rfl,Tt⟩
  .have hE:clE l a b=bchk l b:=by rw[clE,if_pos hza]
   have hV:clB l a b=false:=by rw[clB,hE,decide_eq_false hzb];rfl
   rw[hE,hV]
   (refine gW ?_;intros)
   refine hA.call ?_
   (refine gW ?_;intros)
   refine hB.call ?_
   (refine gW ?_;intros)
   exact⟨rfl,rfl,Tt⟩
 .have hE:clE l a b=bchk l a:=by rw[clE,if_neg hza]
  have hV:clB l a b=false:=by rw[clB,hE,decide_eq_false hza];rfl
  rw[hE,hV]
  (refine gW ?_;intros)
  refine hA.call ?_
  (refine gW ?_;intros)
  exact⟨rfl,rfl,Tt⟩
def few24 (l:List Sec):Bool:=decide (l.length<=10)&&l.all fun s=>decide (s.meets.length<=20)&&decide (s.groups.length<=12)&&decide (s.labs.length<=10)
theorem few24_S {l:List Sec}(h:few24 l=true):fewS l:=by
 simp only[few24,Bool.and_eq_true,decide_eq_true_eq,List.all_eq_true]at h
 obtain⟨h1,h3⟩:=h
 refine⟨Om,fun s hs=>?_⟩
 have:=h3 s hs
 omega
theorem few24_ok (l:List Sec):Pure Tryz.prog 26 [eSecs l,.nils] [.bool (few24 l)]:=by
 refine pure_rule hT (T:=tab) (N:=45) (rs:=[.tmp 4]) Tryz.func26 rfl rfl rfl Kr rfl ?_
 by_cases h1:l.length<=10
 .have hf:few24 l=l.all fun s=>decide (s.meets.length≤20) && decide (s.groups.length≤12) && decide (s.labs.length≤10):=by
   simp only[few24,h1,decide_true,Bool.true_and]
  rw[hf]
  (refine gW ?_;intros)
  refine loop_rule hT (S:=Nat) (fun k=>([(0,.d (eSecs l)),(5,dV k)],⟨[],[]⟩)) (fun k=>k<=l.length/\(l.all fun s=>decide (s.meets.length<=20)&&decide (s.groups.length<=12)&&decide (s.labs.length<=10))=((l.drop k).all fun s=>decide (s.meets.length<=20)&&decide (s.groups.length<=12)&&decide (s.labs.length<=10))) (fun k=>l.length-k) 0 ?_ ?_ ?_
  .exact lq
  .exact⟨Nat.zero_le _,rfl⟩
  .rintro k ⟨hk,hc⟩
   by_cases hk2:k<l.length
   .rw [drop_at hk2,List.all_cons] at hc
    ((refine xW ?_ ?_)<;>intros)
    .rw[hc]
     refine⟨congrArg D.bool ?_,Tt⟩
     symm
     rw[Bool.and_eq_false_iff]
     left
     simp only[Bool.and_eq_false_iff,decide_eq_false_iff_not]
     omega
    .refine⟨k+1,⟨by show k+1<=l.length;omega,?_⟩,by show l.length-(k+1)<l.length-k;omega,?_⟩
     .rw[hc]
      have:(decide ((l.getD k default).meets.length<=20)&&decide ((l.getD k default).groups.length<=12)&&decide ((l.getD k default).labs.length<=10))=true:=by
       simp only[Bool.and_eq_true,decide_eq_true_eq]
       omega
      rw[this,Bool.true_and]
     .exact lq
   .rw[drop_end Om,List.all_nil]at hc
    rw[hc]
    (refine gW ?_;intros)
    exact⟨rfl,Tt⟩
 .have hf:few24 l=false:=by
   simp only[few24,Bool.and_eq_false_iff,decide_eq_false_iff_not]
   omega
  rw[hf]
  (refine gW ?_;intros)
  exact⟨rfl,Tt⟩
def okA (c:Bool)(pv:Int):Bool:=bif !c then true else decide (0<pv)
def namA (c:Bool)(pv:Int):List Int:=if(bif c then decide (0<pv) else false)=true then[pv] else[]
theorem loadW_ok (w:Wor)(hw:WfW w)(s cr t kn:Int)(ht:In .i64 t) :
 Pure Tryz.prog 27 [.agg (eWor w),di s,di cr,di t,di kn] [.bool (okA (!decide (cr<=40)) (petW w.fcts ⟨10,s,0⟩ t kn)),eInts (namA (!decide (cr<=40)) (petW w.fcts ⟨10,s,0⟩ t kn)),eReds [rdW ⟨10,s,0⟩ t]]:=by
 have hA:=active_okW w hw 10 s 0 t kn ht
 generalize petW w.fcts ⟨10,s,0⟩ t kn=pv at hA⊢
 have hN:=named_ok (bif !decide (cr<=40) then decide (0<pv) else false) pv
 have e:okA (!decide (cr<=40)) pv=bif decide (cr<=40) then true else decide (0<pv):=by
  unfold okA
  rw[Bool.not_not]
 rw[e]
 unfold namA
 generalize (if(bif !decide (cr<=40) then decide (0<pv) else false)=true then[pv] else[])=l at hN⊢
 clear e
 refine pure_rule hT (T:=tab) (N:=39) (rs:=[.tmp 10,.tmp 11,.tmp 12]) Tryz.func27 rfl rfl rfl Kr rfl ?_
 (refine gW ?_;intros)
 refine hA.call ?_
 (refine gW ?_;intros)
 refine hN.call ?_
 (refine gW ?_;intros)
 exact⟨rfl,⟨rfl,rfl,fun i hi=>rfl⟩,⟨rfl,rfl,fun i hi=>rfl⟩,Tt⟩
theorem rloadW_ok (w:Wor)(hw:WfW w)(s cr t kn:Int)(ht:In .i64 t) :
 Pure Tryz.prog 28 [.agg (eWor w),di s,di cr,di t,di kn] [.bool (okA (!decide (cr<=40)) (petW w.fcts ⟨10,s,0⟩ t kn)),eInts (namA (!decide (cr<=40)) (petW w.fcts ⟨10,s,0⟩ t kn)),eReds [rdW ⟨10,s,0⟩ t]]:=by
 have hA:=ractive_okW w hw 10 s 0 t kn ht
 generalize petW w.fcts ⟨10,s,0⟩ t kn=pv at hA⊢
 refine pure_ruleC hT (T:=tab) (N:=33) (rs:=[.tmp 10,.tmp 11,.tmp 12]) Tryz.func28 rfl rfl rfl Kr rfl ?_
 by_cases hc:cr<=40
 .rw[decide_eq_true hc]
  (refine gW ?_;intros)
  refine hA.call ?_
  (refine gW ?_;intros)
  exact⟨.d,.eq rfl,.eq ⟨rfl,rfl,fun i hi=>rfl⟩,Tt⟩
 .rw[decide_eq_false hc]
  by_cases hp:0<pv
  .rw[decide_eq_true hp]at hA
   unfold okA namA
   rw[decide_eq_true hp]
   (refine gW ?_;intros)
   refine hA.call ?_
   (refine gW ?_;intros)
   exact⟨.d,BecP.rows rfl (Nat.le_refl _) (fun i hi=>by rw[show i=0 from Nat.lt_one_iff.1 hi];rfl),.eq ⟨rfl,rfl,fun i hi=>rfl⟩,Tt⟩
  .rw[decide_eq_false hp]at hA
   unfold okA namA
   rw[decide_eq_false hp]
   (refine gW ?_;intros)
   refine hA.call ?_
   (refine gW ?_;intros)
   exact⟨.d,.eq rfl,.eq ⟨rfl,rfl,fun i hi=>rfl⟩,Tt⟩
def apF (l:List Sec)(b:Bun)(taken:List Bun):Option Bun:=taken.find? fun x=>decide (clE l b x≠0)
def apC (l:List Sec)(b:Bun)(taken:List Bun)(k:Nat):Bool:=(taken.take k).any (clB l b)
theorem apC_succ (l:List Sec)(b:Bun){taken:List Bun}{k:Nat}(h:k<taken.length):apC l b taken (k+1)=bif apC l b taken k then true else clB l b (taken.getD k default):=by
 unfold apC
 rw[take_succ_at h,List.any_append]
 cases(taken.take k).any (clB l b)<;>simp
def crsF (l:List Sec)(b:Bun):Int:=((findS l b.sec).getD default).course
def apR (w:Wor)(l:List Sec)(s:Int)(b:Bun)(t:Int):Red:=rdW ⟨9,s,crsF l b⟩ t
def apP (w:Wor)(l:List Sec)(s:Int)(b:Bun)(t kn:Int):Int:=petW w.fcts ⟨9,s,crsF l b⟩ t kn
theorem apart_bad (w:Wor)(l:List Sec)(hl:fewS l)(s:Int)(taken:List Bun)(b:Bun)(t kn:Int)(hb:bchk l b≠0) :
 Pure Tryz.prog 29 [.agg (eWor w),eSecs l,di s,eBuns taken,.agg (eBun b),di t,di kn] [.bool false,eInts [],eReds [],di (bchk l b)]:=by
 have hC:=bcheck_ok l hl b
 generalize bchk l b=e at hC hb⊢
 refine pure_ruleC hT (T:=tab) (N:=84) (rs:=[.tmp 14,.tmp 15,.tmp 16,.tmp 17]) Tryz.func29 rfl rfl rfl Kr rfl ?_
 (refine gW ?_;intros)
 refine hC.call ?_
 (refine gW ?_;intros)
 exact⟨.d,.eq rfl,.eq rfl,.d,Tt⟩
theorem rapart_bad (w:Wor)(l:List Sec)(hl:fewS l)(s:Int)(taken:List Bun)(b:Bun)(t kn:Int)(hb:bchk l b≠0) :
 Pure Tryz.prog 30 [.agg (eWor w),eSecs l,di s,eBuns taken,.agg (eBun b),di t,di kn] [.bool false,eInts [],eReds [],di (bchk l b)]:=by
 have hC:=rbcheck_ok l hl b
 generalize bchk l b=e at hC hb⊢
 refine pure_ruleC hT (T:=tab) (N:=83) (rs:=[.tmp 14,.tmp 15,.tmp 16,.tmp 17]) Tryz.func30 rfl rfl rfl Kr rfl ?_
 (refine gW ?_;intros)
 refine hC.call ?_
 (refine gW ?_;intros)
 exact⟨.d,.eq rfl,.eq rfl,.d,Tt⟩
def apO (w:Wor)(l:List Sec)(s:Int)(taken:List Bun)(b:Bun)(t kn:Int):Bool:=match apF l b taken with
 |some _=>false
 |none=>okA (apC l b taken taken.length) (apP w l s b t kn)
def apN (w:Wor)(l:List Sec)(s:Int)(taken:List Bun)(b:Bun)(t kn:Int):List Int:=match apF l b taken with
 |some _=>[]
 |none=>namA (apC l b taken taken.length) (apP w l s b t kn)
def apD (w:Wor)(l:List Sec)(s:Int)(taken:List Bun)(b:Bun)(t:Int):List Red:=match apF l b taken with
 |some _=>[]
 |none=>[apR w l s b t]
def apE (l:List Sec)(taken:List Bun)(b:Bun):Int:=match apF l b taken with
 |some x=>clE l b x
 |none=>0
theorem apF_at {l:List Sec}{b:Bun}{taken:List Bun}{k:Nat}(h:k<taken.length):(taken.drop k).find? (fun x=>decide (clE l b x≠0))=if clE l b (taken.getD k default)=0 then(taken.drop (k+1)).find? (fun x=>decide (clE l b x≠0)) else some (taken.getD k default):=by
 rw[drop_at h]
 by_cases e:clE l b (taken.getD k default)=0
 .rw[if_pos e,List.find?_cons_of_neg (by simpa using e)]
 .rw[if_neg e,List.find?_cons_of_pos (by simpa using e)]
theorem apart_ok (w:Wor)(hw:WfW w)(l:List Sec)(hl:fewS l)(s:Int)(taken:List Bun)(htk:taken.length<=1000000)(b:Bun)(t kn:Int)(ht:In .i64 t)(hb:bchk l b=0) :
 Pure Tryz.prog 29 [.agg (eWor w),eSecs l,di s,eBuns taken,.agg (eBun b),di t,di kn] [.bool (apO w l s taken b t kn),eInts (apN w l s taken b t kn),eReds (apD w l s taken b t),di (apE l taken b)]:=by
 have hC:=bcheck_ok l hl b
 rw[hb]at hC
 have hFi:=find_ok l (by have:=hl.1;omega) b.sec
 have hA:=active_okW w hw 9 s (crsF l b) t kn ht
 have hN:=named_ok (bif apC l b taken taken.length then decide (0<apP w l s b t kn) else false) (apP w l s b t kn)
 unfold eFind at hFi
 unfold crsF at hA
 refine pure_ruleC hT (T:=tab) (N:=84) (rs:=[.tmp 14,.tmp 15,.tmp 16,.tmp 17]) Tryz.func29 rfl rfl rfl Kr rfl ?_
 (refine gW ?_;intros)
 refine hC.call ?_
 (refine gW ?_;intros)
 clear hb hC
 refine loop_rule hT (S:=Nat) (fun k=>([(1,.d (eSecs l)),(2,dV s),(5,dV t),(6,dV kn),(7,lp 0),(11,lp 1),(18,.d (.bool (apC l b taken k))),(33,.d (eBuns taken)),(34,dV taken.length),(35,dV k)],⟨[bX 29 (up (eWor w)),bX 83 (up (eBun b))],[]⟩))
  (fun k=>k<=taken.length/\apF l b taken=(taken.drop k).find? fun x=>decide (clE l b x≠0)) (fun k=>taken.length-k) 0 ?_ ?_ ?_
 .exact lq
 .exact⟨Nat.zero_le _,rfl⟩
 .rintro k ⟨hk,hc⟩
  dsimp only at hk hc⊢
  by_cases hk2:k<taken.length
  .have hCl:=clash_ok l hl b (taken.getD k default)
   have hs:=apC_succ l b hk2
   rw[apF_at hk2]at hc
   clear hFi hA hN
   by_cases he:clE l b (taken.getD k default)=0
   .rw[if_pos he]at hc
    rw[he]at hCl
    have kc:Kp _:=⟨hc⟩
    have ks:Kp _:=⟨hs⟩
    clear hc hs he
    (refine gW ?_;intros)
    refine hCl.call ?_
    (refine gW ?_;intros)
    refine stp (k+1) ?_ ⟨by show k+1<=taken.length;omega,kc.h⟩
    dsimp only
    rw[ks.h]
    exact lq
   .rw[if_neg he]at hc
    unfold apO apN apD apE
    rw[hc]
    dsimp only
    clear hc hs
    generalize clE l b (taken.getD k default)=e at hCl he⊢
    (refine gW ?_;intros)
    refine hCl.call ?_
    (refine gW ?_;intros)
    exact⟨.d,.eq rfl,.eq rfl,.d,Tt⟩
  .obtain rfl:k=taken.length:=by omega
   rw[drop_end (Nat.le_refl _),List.find?_nil]at hc
   unfold apO apN apD apE
   rw[hc]
   dsimp only
   unfold okA namA apR crsF
   unfold apP crsF at hN⊢
   clear hc
   generalize apC l b taken taken.length=cb at hN⊢
   generalize petW w.fcts ⟨9,s,((findS l b.sec).getD default).course⟩ t kn=pv at hA hN⊢
   generalize (if(bif cb then decide (0<pv) else false)=true then[pv] else[])=nm at hN⊢
   (refine gW ?_;intros)
   refine hFi.call ?_
   (refine gW ?_;intros)
   refine hA.call ?_
   (refine gW ?_;intros)
   refine hN.call ?_
   (refine gW ?_;intros)
   exact⟨.d,.d,.d,.d,Tt⟩
theorem rapart_ok (w:Wor)(hw:WfW w)(l:List Sec)(hl:fewS l)(s:Int)(taken:List Bun)(htk:taken.length<=1000000)(b:Bun)(t kn:Int)(ht:In .i64 t)(hb:bchk l b=0) :
 Pure Tryz.prog 30 [.agg (eWor w),eSecs l,di s,eBuns taken,.agg (eBun b),di t,di kn] [.bool (apO w l s taken b t kn),eInts (apN w l s taken b t kn),eReds (apD w l s taken b t),di (apE l taken b)]:=by
 have hC:=rbcheck_ok l hl b
 rw[hb]at hC
 have hFi:=rfind_ok l (by have:=hl.1;omega) b.sec
 have hA:=ractive_okW w hw 9 s (crsF l b) t kn ht
 unfold eFind at hFi
 unfold crsF at hA
 refine pure_ruleC hT (T:=tab) (N:=83) (rs:=[.tmp 14,.tmp 15,.tmp 16,.tmp 17]) Tryz.func30 rfl rfl rfl Kr rfl ?_
 (refine gW ?_;intros)
 refine hC.call ?_
 (refine gW ?_;intros)
 clear hb hC
 refine loop_rule hT (S:=Nat) (fun k=>([(1,.d (eSecs l)),(2,dV s),(3,.d (eBuns taken)),(5,dV t),(6,dV kn),(7,lp 0),(11,lp 1),(19,.d (.bool (apC l b taken k))),(20,dV k)],⟨[bX 29 (up (eWor w)),bX 83 (up (eBun b))],[]⟩))
  (fun k=>k<=taken.length/\apF l b taken=(taken.drop k).find? fun x=>decide (clE l b x≠0)) (fun k=>taken.length-k) 0 ?_ ?_ ?_
 .exact lq
 .exact⟨Nat.zero_le _,rfl⟩
 .rintro k ⟨hk,hc⟩
  dsimp only at hk hc⊢
  by_cases hk2:k<taken.length
  .have hCl:=rclashB_ok l hl b (taken.getD k default)
   have hs:=apC_succ l b hk2
   rw[apF_at hk2]at hc
   clear hFi hA
   by_cases he:clE l b (taken.getD k default)=0
   .rw[if_pos he]at hc
    rw[he]at hCl
    have kc:Kp _:=⟨hc⟩
    have ks:Kp _:=⟨hs⟩
    clear hc hs he
    (refine gW ?_;intros)
    refine qC hCl ?_
    (refine gW ?_;intros)
    refine stp (k+1) ?_ ⟨by show k+1<=taken.length;omega,kc.h⟩
    dsimp only
    rw[ks.h]
    exact lq
   .rw[if_neg he]at hc
    unfold apO apN apD apE
    rw[hc]
    dsimp only
    clear hc hs
    generalize clE l b (taken.getD k default)=e at hCl he⊢
    (refine gW ?_;intros)
    refine qC hCl ?_
    (refine gW ?_;intros)
    exact⟨.d,.eq rfl,.eq rfl,.d,Tt⟩
  .obtain rfl:k=taken.length:=by omega
   rw[drop_end (Nat.le_refl _),List.find?_nil]at hc
   unfold apO apN apD apE
   rw[hc]
   dsimp only
   unfold okA namA apR apP crsF
   clear hc
   generalize apC l b taken taken.length=cb
   generalize petW w.fcts ⟨9,s,((findS l b.sec).getD default).course⟩ t kn=pv at hA⊢
   cases cb
   ·(refine gW ?_;intros)
    refine hFi.call ?_
    (refine gW ?_;intros)
    refine hA.call ?_
    (refine gW ?_;intros)
    exact⟨.d,.eq rfl,.eq ⟨rfl,rfl,fun i hi=>rfl⟩,.d,Tt⟩
   .by_cases hp:0<pv
    .rw[decide_eq_true hp]at hA
     rw[decide_eq_true hp]
     (refine gW ?_;intros)
     refine hFi.call ?_
     (refine gW ?_;intros)
     refine hA.call ?_
     (refine gW ?_;intros)
     exact⟨.d,BecP.rows rfl (Nat.le_refl _) (fun i hi=>by rw[show i=0 from Nat.lt_one_iff.1 hi];rfl),.eq ⟨rfl,rfl,fun i hi=>rfl⟩,.d,Tt⟩
    .rw[decide_eq_false hp]at hA
     rw[decide_eq_false hp]
     (refine gW ?_;intros)
     refine hFi.call ?_
     (refine gW ?_;intros)
     refine hA.call ?_
     (refine gW ?_;intros)
     exact⟨.d,.eq rfl,.eq ⟨rfl,rfl,fun i hi=>rfl⟩,.d,Tt⟩
end Go.Proofs.YtkjmomadndmeaaaGreatDoor
