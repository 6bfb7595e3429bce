import Derived.Test.YtkjmomadndmeaaaGreatDoorPetP
import Derived.Test.YtkjmomadndmeaaaGreatDoorBookH
import Derived.Test.YtkjmomadndmeaaaGreatDoorOpsH
import Derived.Test.YtkjmomadndmeaaaGreatDoorBookM
import Derived.Test.YtkjmomadndmeaaaGreatDoorOpsJ
namespace Go.Proofs.YtkjmomadndmeaaaGreatDoor
set_option linter.unusedSimpArgs false
set_option linter.unusedVariables false
open Go Go.Ab
set_option maxRecDepth 100000
set_option maxHeartbeats 0
theorem within07_ok (n lo hi:Int):Pure Tryz.prog 122 [.int .i64 n,.int .i64 lo,.int .i64 hi] [.bool (bw n lo hi)]:=by
 refine pure_rule hT (T:=tab) (N:=15) (rs:=[.tmp 6]) Tryz.func122 rfl rfl rfl (by kernel_rfl) rfl ?_
 by_cases h1:lo≤n <;> by_cases h2:n≤hi <;> ((refine gW ?_;intros)) <;> (refine ⟨congrArg D.bool ?_,True.intro⟩) <;> simp [bw,h1,h2]
theorem ffits_ok (f:Fct):Pure Tryz.prog 70 [.agg (eFct f)] [.bool (fitF f)]:=by
 have w1:=within07_ok f.kind 1 12
 have w2:=within07_ok f.subject 0 20000
 have w3:=within07_ok f.object 0 20000
 have w4:=within07_ok f.value (-1) 1099511627776
 have w8:=within07_ok f.known 1 16777216
 have w9:=within07_ok f.no 0 65535
 unfold fitF
 refine pure_rule hT (T:=tab) (N:=55) (rs:=[.tmp 2]) Tryz.func70 rfl rfl rfl (by kernel_rfl) rfl ?_
 cases b1:bw f.kind 1 12 <;> rw [b1] at w1
 ·(refine gW ?_;intros)
  refine w1.call ?_
  (refine gW ?_;intros)
  exact ⟨rfl,True.intro⟩
 cases b2:bw f.subject 0 20000 <;> rw [b2] at w2
 ·(refine gW ?_;intros)
  refine w1.call ?_
  (refine gW ?_;intros)
  refine w2.call ?_
  (refine gW ?_;intros)
  exact ⟨rfl,True.intro⟩
 cases b3:bw f.object 0 20000 <;> rw [b3] at w3
 ·(refine gW ?_;intros)
  refine w1.call ?_
  (refine gW ?_;intros)
  refine w2.call ?_
  (refine gW ?_;intros)
  refine w3.call ?_
  (refine gW ?_;intros)
  exact ⟨rfl,True.intro⟩
 cases b4:bw f.value (-1) 1099511627776 <;> rw [b4] at w4
 ·(refine gW ?_;intros)
  refine w1.call ?_
  (refine gW ?_;intros)
  refine w2.call ?_
  (refine gW ?_;intros)
  refine w3.call ?_
  (refine gW ?_;intros)
  refine w4.call ?_
  (refine gW ?_;intros)
  exact ⟨rfl,True.intro⟩
 by_cases c5:0≤f.fr
 case neg =>
  rw [decide_eq_false c5]
  (refine gW ?_;intros)
  refine w1.call ?_
  (refine gW ?_;intros)
  refine w2.call ?_
  (refine gW ?_;intros)
  refine w3.call ?_
  (refine gW ?_;intros)
  refine w4.call ?_
  (refine gW ?_;intros)
  refine ⟨congrArg D.bool ?_,True.intro⟩
  simp [c5]
 by_cases c6:f.fr < f.til
 case neg =>
  rw [decide_eq_false c6]
  (refine gW ?_;intros)
  refine w1.call ?_
  (refine gW ?_;intros)
  refine w2.call ?_
  (refine gW ?_;intros)
  refine w3.call ?_
  (refine gW ?_;intros)
  refine w4.call ?_
  (refine gW ?_;intros)
  refine ⟨congrArg D.bool ?_,True.intro⟩
  simp [c6]
 by_cases c7:f.til≤1024
 case neg =>
  rw [decide_eq_false c7]
  (refine gW ?_;intros)
  refine w1.call ?_
  (refine gW ?_;intros)
  refine w2.call ?_
  (refine gW ?_;intros)
  refine w3.call ?_
  (refine gW ?_;intros)
  refine w4.call ?_
  (refine gW ?_;intros)
  refine ⟨congrArg D.bool ?_,True.intro⟩
  simp [c7]
 cases b8:bw f.known 1 16777216 <;> rw [b8] at w8
 ·(refine gW ?_;intros)
  refine w1.call ?_
  (refine gW ?_;intros)
  refine w2.call ?_
  (refine gW ?_;intros)
  refine w3.call ?_
  (refine gW ?_;intros)
  refine w4.call ?_
  (refine gW ?_;intros)
  refine w8.call ?_
  (refine gW ?_;intros)
  refine ⟨congrArg D.bool ?_,True.intro⟩
  simp [c5,c6,c7]
 ·(refine gW ?_;intros)
  refine w1.call ?_
  (refine gW ?_;intros)
  refine w2.call ?_
  (refine gW ?_;intros)
  refine w3.call ?_
  (refine gW ?_;intros)
  refine w4.call ?_
  (refine gW ?_;intros)
  refine w8.call ?_
  (refine gW ?_;intros)
  refine w9.call ?_
  (refine gW ?_;intros)
  refine ⟨congrArg D.bool ?_,True.intro⟩
  simp [c5,c6,c7]
theorem misfact_ok (f:Fct):Pure Tryz.prog 69 [.agg (eFct f)] [.bool (!fitF f)]:=by
 have hF:=ffits_ok f
 refine pure_rule hT (T:=tab) (N:=6) (rs:=[.tmp 2]) Tryz.func69 rfl rfl rfl (by kernel_rfl) rfl ?_
 (refine gW ?_;intros)
 refine hF.call ?_
 (refine gW ?_;intros)
 exact ⟨rfl,True.intro⟩
theorem idxFct_ok (xs:List Fct) (hx:xs.length≤9223372036854775807) (f:FuncId) (p:Fct→Bool) (hp:∀ s,s∈xs→Pure Tryz.prog f [.agg (eFct s)] [.bool (p s)]) :
 Pure Tryz.prog 121 [eFcts xs,.fn (.func f) [] []] [.int .i64 (ix p xs 0)]:=by
 refine pure_rule hT (T:=tab) (N:=19) (rs:=[.tmp 4]) Tryz.func121 rfl rfl rfl (by kernel_rfl) rfl ?_
 (refine gW ?_;intros)
 refine loop_rule hT (S:=Nat) (fun k=>([(0,.d (eFcts xs)),(1,.d (.fn (.func f) [] [])),(7,.d (.int .i64 xs.length)),(8,.d (.int .i64 k))],⟨[],[]⟩)) (fun k=>k≤xs.length∧ix p xs 0=ix p (xs.drop k) k) (fun k=>xs.length - k) 0 ?_ ?_ ?_
 ·repeat' (first | exact True.intro | exact rfl | exact Nat.le_refl _ | refine And.intro ?_ ?_)
 ·exact ⟨Nat.zero_le _,rfl⟩
 ·rintro k ⟨hk,hc⟩
  ((refine xW ?_ ?_) <;> intros)
  ·refine (hp (xs.getD k default) (getD_mem (by omega))).call ?_
   ((refine xW ?_ ?_) <;> (intros;try rename_i h))
   ·refine ⟨congrArg (D.int .i64) ?_,True.intro⟩
    rw [hc,drop_at (by omega),ix,if_pos h]
   ·refine ⟨k + 1,⟨by show k + 1≤xs.length;omega,?_⟩,by show xs.length - (k + 1) < xs.length - k;omega,?_⟩
    ·rw [hc,drop_at (by omega),ix,if_neg (by rw [h];exact Bool.false_ne_true)]
     rfl
    ·repeat' (first | exact True.intro | exact rfl | exact Nat.le_refl _ | refine And.intro ?_ ?_)
  ·refine ⟨congrArg (D.int .i64) ?_,True.intro⟩
   have:k=xs.length:=by omega
   rw [hc]
   simp [this,ix]
theorem anyFct_ok (xs:List Fct) (hx:xs.length≤9223372036854775807) (f:FuncId) (p:Fct→Bool) (hp:∀ s,s∈xs→Pure Tryz.prog f [.agg (eFct s)] [.bool (p s)]) :
 Pure Tryz.prog 68 [eFcts xs,.fn (.func f) [] []] [.bool (xs.any p)]:=by
 refine pure_rule hT (T:=tab) (N:=9) (rs:=[.tmp 4]) Tryz.func68 rfl rfl rfl (by kernel_rfl) rfl ?_
 (refine gW ?_;intros)
 refine (idxFct_ok xs hx f  p hp).call ?_
 (refine gW ?_;intros)
 refine ⟨congrArg D.bool ?_,True.intro⟩
 rw [← ix_ge p xs 0 (by omega)]
def srtK (l:List Fct) (k:Nat):Bool:=(List.range k).all fun i=>befF (l.getD i default) (l.getD (i + 1) default)
theorem srtK_succ (l:List Fct) (k:Nat):srtK l (k + 1)=(srtK l k && befF (l.getD k default) (l.getD (k + 1) default)):=by
 unfold srtK
 rw [List.range_succ,List.all_append]
 simp only [List.all_cons,List.all_nil,Bool.and_true]
theorem srtK_none {l:List Fct} {k j:Nat} (h:srtK l k=false) (hj:k≤j):srtK l j=false:=by
 unfold srtK at *
 rw [← Bool.not_eq_true,List.all_eq_true] at *
 exact fun h2=>h fun x hx=>h2 x (List.mem_range.2 (by have:=List.mem_range.1 hx;omega))
def fchk (l:List Fct):Int:=if (l.any fun f=>!fitF f)=true then 70 else if srtK l (l.length - 1)=true then 0 else 71
theorem fchk_zero {l:List Fct} (h:fchk l=0):(∀ f∈l,fitF f=true)∧srtF l:=by
 unfold fchk at h
 split at h
 ·cases h
 rename_i h1
 split at h
 ·rename_i h2
  refine ⟨fun f hf=>?_,fun i hi=>?_⟩
  ·cases hb:fitF f with
   | true=>rfl
   | false=>exact absurd (List.any_eq_true.2 ⟨f,hf,by rw [hb];rfl⟩) h1
  ·unfold srtK at h2
   rw [List.all_eq_true] at h2
   exact h2 i (List.mem_range.2 (by omega))
 ·cases h
theorem fcheck_ok (l:List Fct) (hl:l.length≤1000000):Pure Tryz.prog 23 [eFcts l] [.int .i64 (fchk l)]:=by
 have hA:=anyFct_ok l (by omega) 69 (fun f=>!fitF f) (fun s hs=>misfact_ok s)
 unfold fchk
 cases ha:(l.any fun f=>!fitF f) <;> rw [ha] at hA
 case true =>
  refine pure_rule hT (T:=tab) (N:=27) (rs:=[.tmp 2]) Tryz.func23 rfl rfl rfl (by kernel_rfl) rfl ?_
  (refine gW ?_;intros)
  refine hA.call ?_
  (refine gW ?_;intros)
  exact ⟨rfl,True.intro⟩
 rw [if_neg (by decide)]
 obtain ⟨N,hN⟩:∃ N,l.length - 1=N:=⟨_,rfl⟩
 rw [hN]
 have hm1:0≤(bif false then max 1 (l.length:Int) else min 1 (l.length:Int)):=by rw [cond_false];omega
 have hm2:(bif false then max 1 (l.length:Int) else min 1 (l.length:Int))≤l.length:=by rw [cond_false];omega
 refine pure_rule hT (T:=tab) (N:=27) (rs:=[.tmp 2]) Tryz.func23 rfl rfl rfl (by kernel_rfl) rfl ?_
 (refine gW ?_;intros)
 refine hA.call ?_
 (refine gW ?_;intros)
 refine loop_rule hT (S:=Nat) (fun k=>([(0,.d (eFcts l)),(11,.d (.int .i64 N)),(12,.d (.int .i64 k))],⟨[],[]⟩)) (fun k=>k≤N∧srtK l k=true) (fun k=>N - k) 0 ?_ ?_ ?_
 ·repeat' (first | exact True.intro | exact rfl | exact Nat.le_refl _ | refine And.intro ?_ ?_)
  all_goals first
   | exact congrArg (fun n=>AV.d (.int .i64 n)) (by simp only [cond_true,cond_false];omega)
 ·exact ⟨Nat.zero_le _,rfl⟩
 ·rintro k ⟨hk,hs⟩
  dsimp only at hk ⊢
  by_cases hk2:k < N
  ·have hC:=fcompare_ok (l.getD k default) (l.getD (k + 1) default)
   have hb:=fctC_bef (l.getD k default) (l.getD (k + 1) default)
   have hn:=srtK_succ l k
   rw [hs,Bool.true_and] at hn
   obtain ⟨cc,hcc⟩:∃ cc,fctC (l.getD k default) (l.getD (k + 1) default)=cc:=⟨_,rfl⟩
   rw [hcc] at hC hb
   cases hbf:befF (l.getD k default) (l.getD (k + 1) default)
   ·rw [hbf] at hb hn
    rw [if_neg (by rw [srtK_none hn (by omega)];decide)]
    have hc0:0≤cc:=of_decide_eq_true hb
    clear hs hcc hb hn hbf
    (refine gW ?_;intros)
    refine qC hC ?_
    (refine gW ?_;intros)
    exact ⟨rfl,True.intro⟩
   ·rw [hbf] at hb hn
    have hc0:¬ 0≤cc:=of_decide_eq_false hb
    have kn:Kp _:=⟨hn⟩
    clear hs hcc hb hn hbf
    (refine gW ?_;intros)
    refine qC hC ?_
    (refine gW ?_;intros)
    refine ⟨k + 1,⟨by show k + 1≤N;omega,kn.h⟩,by show N - (k + 1) < N - k;omega,?_⟩
    repeat' (first | exact True.intro | exact rfl | exact Nat.le_refl _ | refine And.intro ?_ ?_)
  ·obtain rfl:k=N:=by omega
   rw [if_pos hs]
   (refine gW ?_;intros)
   exact ⟨rfl,True.intro⟩
def cFcts (xs:List Fct):D:=.slc 8 xs.length fun i=>eFct (xs.getD i default)
theorem clipF_ok (l:List Fct) (hl:l.length≤1000000):Pure Tryz.prog 73 [eFcts l] [cFcts l]:=by
 refine pure_rule hT (T:=tab) (N:=9) (rs:=[.tmp 2]) Tryz.func73 rfl rfl rfl (by kernel_rfl) rfl ?_
 (refine gW ?_;intros)
 refine op_clip hT (e:=74) (sz:=8) rfl rfl rfl rfl rfl ?_
 (refine gW ?_;intros)
 exact ⟨⟨rfl,rfl,fun i hi=>rfl⟩,True.intro⟩
theorem fadd_ok (l:List Fct) (f:Fct) (hl:l.length≤1000) (hc:fchk l=0) (hf:fitF f=true) (hb:0 < l.length→befF (l.getD (l.length - 1) default) f=true):Pure Tryz.prog 25 [eFcts l,.agg (eFct f)] [eFcts (l ++ [f]),.int .i64 0]:=by
 have hC:=fcheck_ok l (by omega)
 rw [hc] at hC
 have hF:=ffits_ok f
 rw [hf] at hF
 have hcl:=clipF_ok l (by omega)
 refine pure_rule hT (T:=tab) (N:=33) (rs:=[.tmp 4,.tmp 5]) Tryz.func25 rfl rfl rfl (by kernel_rfl) rfl ?_
 by_cases h0:0 < l.length
 ·have hQ:=fcompare_ok (l.getD (l.length - 1) default) f
  have hq:=fctC_bef (l.getD (l.length - 1) default) f
  rw [hb h0] at hq
  obtain ⟨cc,hcc⟩:∃ cc,fctC (l.getD (l.length - 1) default) f=cc:=⟨_,rfl⟩
  rw [hcc] at hQ hq
  have hc0:¬ 0≤cc:=of_decide_eq_false hq
  rw [← toNat_pred] at hQ
  clear hcc hq hb
  (refine gW ?_;intros)
  refine hC.call ?_
  (refine gW ?_;intros)
  refine hF.call ?_
  (refine gW ?_;intros)
  refine qC hQ ?_
  (refine gW ?_;intros)
  refine qC hcl ?_
  (refine gW ?_;intros)
  refine FrzR.mk (fun i=>eFct ((l ++ [f]).getD i default)) (fun i hi=>join_snoc eFct l f _ rfl i (by rw [len_snoc];exact hi)) ?_
  (refine gW ?_;intros)
  exact ⟨⟨rfl,by rw [len_snoc],fun i hi=>rfl⟩,rfl,True.intro⟩
 ·clear hb
  (refine gW ?_;intros)
  refine hC.call ?_
  (refine gW ?_;intros)
  refine hF.call ?_
  (refine gW ?_;intros)
  refine qC hcl ?_
  (refine gW ?_;intros)
  refine FrzR.mk (fun i=>eFct ((l ++ [f]).getD i default)) (fun i hi=>join_snoc eFct l f _ rfl i (by rw [len_snoc];exact hi)) ?_
  (refine gW ?_;intros)
  exact ⟨⟨rfl,by rw [len_snoc],fun i hi=>rfl⟩,rfl,True.intro⟩
def scopesN:List Int:=[0,0,0,0,0,0,0,0,0,0,0,0,8,1,4096,1099511627776,4000,1099511627776,4096,1099511627776,1,1099511627776,8,1,0,0]
theorem rd_ints {w:World} {F:Nat→Prop} (ns:List Int):Rd w F (.agg (ns.map (D.int .i64))) (.agg (ns.map (Value.int .i64)).toArray) :=
 .agg (by simp) fun j x u hx hu=>by
  rw [List.getElem?_map] at hx hu
  cases h:ns[j]? with
  | none=>rw [h] at hx;cases hx
  | some n =>
    rw [h] at hx hu
    cases hx
    cases hu
    exact .int
theorem agg2 {w:World} {F:Nat→Prop} {σ:Pls} {x y:Int} {u:Value} (h:Vc w F σ (.d (.agg [.int .i64 x,.int .i64 y])) u):u=.agg #[.int .i64 x,.int .i64 y]:=by
 cases h with
 | d h =>
   cases h with
   | @agg _ us hl h =>
     have h0:=h 0 _ (us.getD 0 undef) rfl (by simp at hl;simp [show 0 < us.length by omega])
     have h1:=h 1 _ (us.getD 1 undef) rfl (by simp at hl;simp [show 1 < us.length by omega])
     match us,hl with
     | [a,b],_ =>
       cases h0
       cases h1
       rfl
theorem scopes_run (w:World):(Instr.build 150 #[(6,Value.agg #[Value.int IntKind.i64 8,Value.int IntKind.i64 1]),(11,Value.agg #[Value.int IntKind.i64 8,Value.int IntKind.i64 1]),(7,Value.agg #[Value.int IntKind.i64 4096,Value.int IntKind.i64 1099511627776]),(9,Value.agg #[Value.int IntKind.i64 4096,Value.int IntKind.i64 1099511627776]),(8,Value.agg #[Value.int IntKind.i64 4000,Value.int IntKind.i64 1099511627776]),(10,Value.agg #[Value.int IntKind.i64 1,Value.int IntKind.i64 1099511627776]),(12,Value.agg #[Value.int IntKind.i64 0,Value.int IntKind.i64 0])]).run Tryz.prog w=.ok (.agg (scopesN.map (Value.int .i64)).toArray) w:=by kernel_rfl
theorem scopes_ok:Pure Tryz.prog 72 [] [.agg (scopesN.map (D.int .i64))]:=by
 refine pure_rule hT (T:=tab) (N:=9) (rs:=[.cell 0 150]) Tryz.func72 rfl rfl rfl (by kernel_rfl) rfl ?_
 (refine gW ?_;intros)
 refine OpVC.mk (fun c h=>by cases h) fun a w F σ hev hm=>?_
 have h1:=agg2 (hev 1)
 have h2:=agg2 (hev 2)
 have h3:=agg2 (hev 3)
 have h4:=agg2 (hev 4)
 have h5:=agg2 (hev 5)
 have h6:=agg2 (hev 6)
 have h7:=agg2 (hev 7)
 refine ⟨.value (.agg (scopesN.map (Value.int .i64)).toArray),.agg (scopesN.map (Value.int .i64)).toArray,w,σ,F,.d (.agg (scopesN.map (D.int .i64))),_,?_,.inl rfl,?_,.d (rd_ints _),hm,Step.refl σ F w,SLe.refl σ⟩
 ·have e:∀ k,a.eval (.tmp k)=a.tmps.getD k undef:=fun _=>rfl
  simp only [execOp,List.map_toArray,List.map_cons,List.map_nil,e,h1,h2,h3,h4,h5,h6,h7]
  simp [scopes_run]
 ·(refine gW ?_;intros)
  exact ⟨.inl rfl,True.intro⟩
def pfC (s c n:Int):Prop:=(0≤s∧s≤19999)∧(0≤c∧c≤4095)∧(n=-1∨1≤n∧n≤1099511627776)
instance (s c n:Int):Decidable (pfC s c n):=inferInstanceAs (Decidable (_∧_))
def pfE (s c n fr til kn:Int):Int:=if pfC s c n then fchk [petF s c n fr til kn] else 270
theorem pfact_ok (s c n fr til kn:Int):Pure Tryz.prog 24 [.int .i64 7,.int .i64 s,.int .i64 c,.int .i64 n,.agg [.int .i64 fr,.int .i64 til],.int .i64 kn,.int .i64 0] [.agg (eFct (if pfE s c n fr til kn=0 then petF s c n fr til kn else zF)),.int .i64 (pfE s c n fr til kn)]:=by
 have hS:=scopes_ok
 rw [show scopesN.map (D.int .i64)=[.int .i64 0,.int .i64 0,.int .i64 0,.int .i64 0,.int .i64 0,.int .i64 0,.int .i64 0,.int .i64 0,.int .i64 0,.int .i64 0,.int .i64 0,.int .i64 0,.int .i64 8,.int .i64 1,.int .i64 4096,.int .i64 1099511627776,.int .i64 4000,.int .i64 1099511627776,.int .i64 4096,.int .i64 1099511627776,.int .i64 1,.int .i64 1099511627776,.int .i64 8,.int .i64 1,.int .i64 0,.int .i64 0] from rfl] at hS
 refine pure_rule hT (T:=tab) (N:=79) (rs:=[.cell 14 74,.tmp 15]) Tryz.func24 rfl rfl rfl (by kernel_rfl) rfl ?_
 by_cases hb:pfC s c n
 case neg =>
  have he:pfE s c n fr til kn=270:=if_neg hb
  rw [he,if_neg (by decide)]
  unfold pfC at hb
  (refine gW ?_;intros)
  refine hS.call ?_
  (refine gW ?_;intros)
  exact ⟨.inl rfl,rfl,True.intro⟩
 case pos =>
  have he:pfE s c n fr til kn=fchk [petF s c n fr til kn]:=if_pos hb
  have hC:=fcheck_ok [petF s c n fr til kn] (by simp)
  rw [he]
  unfold pfC at hb
  obtain ⟨E,hE⟩:∃ E,fchk [petF s c n fr til kn]=E:=⟨_,rfl⟩
  rw [hE] at hC ⊢
  clear hE he
  by_cases h0:E=0
  ·subst h0
   rw [if_pos rfl]
   (refine gW ?_;intros)
   refine hS.call ?_
   (refine gW ?_;intros)
   refine hC.loan rfl ⟨BecP.rows rfl (Nat.le_refl _) (fun i hi=>by rw [show i=0 from Nat.lt_one_iff.1 hi];rfl),True.intro⟩ ?_
   (refine gW ?_;intros)
   exact ⟨.inl rfl,rfl,True.intro⟩
  ·rw [if_neg h0]
   (refine gW ?_;intros)
   refine hS.call ?_
   (refine gW ?_;intros)
   refine hC.loan rfl ⟨BecP.rows rfl (Nat.le_refl _) (fun i hi=>by rw [show i=0 from Nat.lt_one_iff.1 hi];rfl),True.intro⟩ ?_
   (refine gW ?_;intros)
   exact ⟨.inl rfl,rfl,True.intro⟩
end Go.Proofs.YtkjmomadndmeaaaGreatDoor
