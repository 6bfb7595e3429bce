/-
  Texts put together: WhyP, LawCB.
-/
import Derived.Test.YtkjmomadndmeaaaGreatDoorAdmC
import Derived.Test.YtkjmomadndmeaaaGreatDoorLawCA
/-
  Chapter 28: what Why names, plain.
-/
namespace Go.Proofs.YtkjmomadndmeaaaGreatDoor
set_option linter.unusedSimpArgs false
set_option linter.unusedVariables false
open Go Go.Ab
set_option maxRecDepth 100000
set_option maxHeartbeats 0
theorem failF_nil (s:Sit) (ps:List Rule):∀ k,failF s ps k=[]↔∀ i,i < k→valR s (ps.getD i default)=true
 | 0=>by simp [failF]
 | k + 1=>by
   rw [failF,List.append_eq_nil_iff,failF_nil s ps k]
   constructor
   ·rintro ⟨h1,h2⟩ i hi
    by_cases e:i=k
    ·subst e
     cases hv:valR s (ps.getD i default) with
     | true=>rfl
     | false=>rw [hv,if_neg (by decide)] at h2;cases h2
    ·exact h1 i (by omega)
   ·intro h
    exact ⟨fun i hi=>h i (by omega),by rw [if_pos (h k (by omega))]⟩
theorem valRs_all (s:Sit):∀ ps:List Rule,valRs s ps=ps.length↔∀ p∈ps,valR s p=true
 | []=>by rw [valRs_nil];simp
 | p :: r=>by
   have hl:=valRs_le s r
   rw [valRs_cons,List.length_cons]
   constructor
   ·intro h
    have hp:valR s p=true:=by
     cases hv:valR s p with
     | true=>rfl
     | false=>rw [hv,if_neg (by decide)] at h;omega
    rw [hp,if_pos rfl] at h
    have h2:=(valRs_all s r).1 (by omega)
    intro q hq
    rcases List.mem_cons.1 hq with rfl | hq
    ·exact hp
    ·exact h2 q hq
   ·intro h
    rw [h p (by simp),if_pos rfl,(valRs_all s r).2 fun q hq=>h q (by simp [hq])]
    omega
theorem getD_all {ps:List Rule} {P:Rule→Prop}:(∀ i,i < ps.length→P (ps.getD i default))↔∀ p∈ps,P p:=by
 constructor
 ·intro h p hp
  obtain ⟨i,hi,rfl⟩:=List.getElem_of_mem hp
  have:=h i hi
  simpa [hi] using this
 ·intro h i hi
  exact h _ (getD_mem hi)
theorem fail_iff (s:Sit) (r:Rule):failF s (partsR r) (partsR r).length=[]↔valR s r=true:=by
 rw [failF_nil]
 refine Iff.trans (getD_all (P:=fun p=>valR s p=true)) ?_
 unfold partsR
 split
 ·rename_i h1
  rw [← valRs_all,valR_eq,holdB,if_pos h1,decide_eq_true_iff]
 ·simp
theorem whyL_nil (w:Wor) (s c t kn:Int) (nw:List Int):whyL w s c t kn nw=[]↔allowV w s c t kn nw=true:=by
 unfold whyL allowV
 rw [List.append_eq_nil_iff,fail_iff]
 cases valR (sitV w s t kn nw) (crsD w c t kn).bar <;> simp
structure FailI (s:Sit) (ps:List Rule) (k:Nat) (l:List Int):Prop where
 it:∀ x∈l,∃ i:Nat,x=i∧i < k∧valR s (ps.getD i default)=false
 up:l.Pairwise (· < ·)
theorem failF_I (s:Sit) (ps:List Rule):∀ k,FailI s ps k (failF s ps k)
 | 0=>⟨fun x hx=>(by cases hx),List.Pairwise.nil⟩
 | k + 1=>by
   obtain ⟨h1,h2⟩:=failF_I s ps k
   rw [failF]
   cases hv:valR s (ps.getD k default) with
   | true =>
     rw [if_pos rfl,List.append_nil]
     exact ⟨fun x hx=>by obtain ⟨i,a,b,c⟩:=h1 x hx;exact ⟨i,a,by omega,c⟩,h2⟩
   | false =>
     rw [if_neg (by decide)]
     refine ⟨fun x hx=>?_,?_⟩
     ·rcases List.mem_append.1 hx with hx | hx
      ·obtain ⟨i,a,b,c⟩:=h1 x hx
       exact ⟨i,a,by omega,c⟩
      ·rw [List.mem_singleton] at hx
       exact ⟨k,hx,by omega,hv⟩
     ·rw [List.pairwise_append]
      refine ⟨h2,List.pairwise_singleton _ _,fun x hx y hy=>?_⟩
      rw [List.mem_singleton] at hy
      obtain ⟨i,a,b,c⟩:=h1 x hx
      omega
end Go.Proofs.YtkjmomadndmeaaaGreatDoor
/-
  Chapter 28: the law AdmissionHolds.
-/
namespace Go.Proofs.YtkjmomadndmeaaaGreatDoor
set_option linter.unusedSimpArgs false
set_option linter.unusedVariables false
open Go Go.Ab
set_option maxRecDepth 100000
set_option maxHeartbeats 0
theorem law28H_ok (w:Wor) (hw:okWor w) (s c t kn:Int) (nw:List Int) (hnw0:fitL nw∧∀ x∈nw,In .i64 x):Pure Tryz.prog 4 [.agg (eWor w),.int .i64 s,.int .i64 c,.int .i64 t,.int .i64 kn,eInts nw] [.bool true]:=by
 have hnw:=hnw0.1
 have hS:=sane28_ok
 have hF:=few28_ok w hw.1.wf hw.2.1 hw.1.nm nw hnw
 cases hf:(fewW w && decide (nw.length≤10)) <;> rw [hf] at hF
 ·clear hnw0
  refine pure_rule hT (T:=tab) (N:=159) (rs:=[.tmp 12]) Tryz.func4 rfl rfl rfl (by kernel_rfl) rfl ?_
  (refine gW ?_;intros)
  refine hS.call ?_
  (refine gW ?_;intros)
  refine hF.call ?_
  (refine gW ?_;intros)
  exact ⟨rfl,True.intro⟩
 have h28:=hw.few28 hf
 cases ha:askedB s c t nw
 ·have hA:=h28.admN s c t kn ha
  clear hf ha hnw0
  refine pure_rule hT (T:=tab) (N:=159) (rs:=[.tmp 12]) Tryz.func4 rfl rfl rfl (by kernel_rfl) rfl ?_
  (refine gW ?_;intros)
  refine hS.call ?_
  (refine gW ?_;intros)
  refine hF.call ?_
  (refine gW ?_;intros)
  refine hA.call ?_
  (refine gW ?_;intros)
  exact ⟨rfl,True.intro⟩
 have hA:=h28.adm s c t kn ha
 have ht:0≤t∧t≤1023:=by
  have:=(asked_at ha).2.1
  simp only [bw,Bool.and_eq_true,decide_eq_true_iff] at this
  exact this
 have hit:In .i64 (t + 1):=in64.2 (by omega)
 have hH:=held_ok w h28.wf s t kn hit
 have hP:=active_ok w h28.wf 7 s c t kn hit
 have hC:=bcourse_ok w h28.wf c t kn
 have hp0:=petV_nn w.fcts ⟨7,s,c⟩ t kn
 rw [eDec_at,show (admV w s c t kn nw).answer=ansV w s c t kn nw from rfl,show (admV w s c t kn nw).last=ansV w s c t kn nw from rfl,show (admV w s c t kn nw).named=namV w s c t kn nw from rfl] at hA
 generalize (admV w s c t kn nw).reads=rr at hA
 generalize (admV w s c t kn nw).kind=q1 at hA
 generalize (admV w s c t kn nw).student=q2 at hA
 generalize (admV w s c t kn nw).object=q3 at hA
 generalize (admV w s c t kn nw).term=q4 at hA
 generalize (admV w s c t kn nw).known=q5 at hA
 generalize (admV w s c t kn nw).now=q6 at hA
 generalize readsT ⟨1,c,0⟩ t=r2 at hC
 generalize heldR 6 s t=r1 at hH
 cases hx:crsOf w c t kn with
 | none =>
   have hW:=h28.whyN s c t kn (by rw [hx,ha];rfl)
   have hob:outB w s c t kn=true:=by unfold outB;rw [hx];simp
   have ea:ansV w s c t kn nw=0:=by unfold ansV;rw [if_pos hob]
   have en:namV w s c t kn nw=[]:=by unfold namV;rw [if_pos hob]
   rw [ea,en] at hA
   rw [hx,show (none:Option Crs).isSome=false from rfl] at hC
   generalize (none:Option Crs).getD default=oo at hC
   generalize heldL w.fcts 6 s t kn=hl at hH
   generalize petV w.fcts ⟨7,s,c⟩ t kn=pv at hP
   clear hx hf ha hob ea en hp0 hnw0 h28
   refine pure_rule hT (T:=tab) (N:=159) (rs:=[.tmp 12]) Tryz.func4 rfl rfl rfl (by kernel_rfl) rfl ?_
   (refine gW ?_;intros)
   refine hS.call ?_
   (refine gW ?_;intros)
   refine hF.call ?_
   (refine gW ?_;intros)
   refine hA.call ?_
   (refine gW ?_;intros)
   refine hH.call ?_
   (refine gW ?_;intros)
   refine hP.call ?_
   (refine gW ?_;intros)
   refine hW.call ?_
   (refine gW ?_;intros)
   refine hC.call ?_
   (refine gW ?_;intros)
   all_goals exact ⟨rfl,True.intro⟩
 | some x =>
   have hW:=h28.why s c t kn ha x hx
   rw [hx,show (some x).isSome=true from rfl,show (some x).getD default=x from rfl] at hC
   by_cases hn:0 < (heldL w.fcts 6 s t kn).length
   ·have hob:outB w s c t kn=true:=by
     unfold outB heldN
     cases e:heldL w.fcts 6 s t kn with
     | nil=>rw [e] at hn;cases hn
     | cons a b=>rfl
    have ea:ansV w s c t kn nw=0:=by unfold ansV;rw [if_pos hob]
    have en:namV w s c t kn nw=[]:=by unfold namV;rw [if_pos hob]
    rw [ea,en] at hA
    generalize heldL w.fcts 6 s t kn=hl at hH hn
    generalize petV w.fcts ⟨7,s,c⟩ t kn=pv at hP
    generalize whyL w s c t kn nw=wl at hW
    clear hx hf ha hob ea en hp0 hnw0 h28
    refine pure_rule hT (T:=tab) (N:=159) (rs:=[.tmp 12]) Tryz.func4 rfl rfl rfl (by kernel_rfl) rfl ?_
    (refine gW ?_;intros)
    refine hS.call ?_
    (refine gW ?_;intros)
    refine hF.call ?_
    (refine gW ?_;intros)
    refine hA.call ?_
    (refine gW ?_;intros)
    refine hH.call ?_
    (refine gW ?_;intros)
    refine hP.call ?_
    (refine gW ?_;intros)
    refine hW.call ?_
    (refine gW ?_;intros)
    refine hC.call ?_
    (refine gW ?_;intros)
    all_goals exact ⟨rfl,True.intro⟩
   ·have hl0:heldL w.fcts 6 s t kn=[]:=List.eq_nil_of_length_eq_zero (by omega)
    have hob:¬ outB w s c t kn=true:=by
     unfold outB heldN
     rw [hl0,hx]
     exact (show ¬ ((false || false)=true) by decide)
    rw [hl0] at hH
    have hwn:=whyL_nil w s c t kn nw
    have hpc:petC w s c t kn=petV w.fcts ⟨7,s,c⟩ t kn:=rfl
    by_cases hal:allowV w s c t kn nw=true
    ·have ea:ansV w s c t kn nw=1:=by unfold ansV;rw [if_neg hob,if_pos hal]
     have en:namV w s c t kn nw=[]:=by unfold namV;rw [if_neg hob,if_pos hal]
     rw [ea,en] at hA
     rw [hwn.2 hal] at hW
     generalize petV w.fcts ⟨7,s,c⟩ t kn=pv at hP
     clear hx hf ha hob ea en hp0 hnw0 h28 hl0 hn hwn hpc hal
     refine pure_rule hT (T:=tab) (N:=159) (rs:=[.tmp 12]) Tryz.func4 rfl rfl rfl (by kernel_rfl) rfl ?_
     (refine gW ?_;intros)
     refine hS.call ?_
     (refine gW ?_;intros)
     refine hF.call ?_
     (refine gW ?_;intros)
     refine hA.call ?_
     (refine gW ?_;intros)
     refine hH.call ?_
     (refine gW ?_;intros)
     refine hP.call ?_
     (refine gW ?_;intros)
     refine hW.call ?_
     (refine gW ?_;intros)
     refine hC.call ?_
     (refine gW ?_;intros)
     all_goals exact ⟨rfl,True.intro⟩
    ·have hwl:0 < (whyL w s c t kn nw).length:=List.length_pos_iff.2 fun e=>hal (hwn.1 e)
     generalize whyL w s c t kn nw=wl at hW hwl
     by_cases hp:0 < petV w.fcts ⟨7,s,c⟩ t kn
     ·have ea:ansV w s c t kn nw=1:=by unfold ansV;rw [if_neg hob,if_neg hal,if_pos (by rw [hpc];exact hp)]
      have en:namV w s c t kn nw=[petV w.fcts ⟨7,s,c⟩ t kn]:=by unfold namV;rw [if_neg hob,if_neg hal,if_pos (by rw [hpc];exact hp),hpc]
      rw [ea,en] at hA
      rw [decide_eq_true hp] at hP
      have hI:=sameI28_ok [petV w.fcts ⟨7,s,c⟩ t kn] [petV w.fcts ⟨7,s,c⟩ t kn] (show (1:Nat)≤9223372036854775807 by decide) (show (1:Nat)≤9223372036854775807 by decide)
      rw [decide_eq_true rfl] at hI
      generalize petV w.fcts ⟨7,s,c⟩ t kn=pv at hP hI hA
      clear hx hf ha hob ea en hp0 hnw0 h28 hl0 hn hwn hpc hal hp
      refine pure_rule hT (T:=tab) (N:=159) (rs:=[.tmp 12]) Tryz.func4 rfl rfl rfl (by kernel_rfl) rfl ?_
      (refine gW ?_;intros)
      refine hS.call ?_
      (refine gW ?_;intros)
      refine hF.call ?_
      (refine gW ?_;intros)
      refine hA.call ?_
      (refine gW ?_;intros)
      refine hH.call ?_
      (refine gW ?_;intros)
      refine hP.call ?_
      (refine gW ?_;intros)
      refine hW.call ?_
      (refine gW ?_;intros)
      refine hC.call ?_
      (refine gW ?_;intros)
      refine hI.loan rfl ⟨.d,BecP.rows rfl (Nat.le_refl _) (fun i hi=>by rw [show i=0 from Nat.lt_one_iff.1 hi];rfl),True.intro⟩ ?_
      (refine gW ?_;intros)
      exact ⟨rfl,True.intro⟩
     ·have ea:ansV w s c t kn nw=0:=by unfold ansV;rw [if_neg hob,if_neg hal,if_neg (by rw [hpc];exact hp)]
      have en:namV w s c t kn nw=[]:=by unfold namV;rw [if_neg hob,if_neg hal,if_neg (by rw [hpc];exact hp)]
      rw [ea,en] at hA
      rw [decide_eq_false hp] at hP
      generalize petV w.fcts ⟨7,s,c⟩ t kn=pv at hP
      clear hx hf ha hob ea en hp0 hnw0 h28 hl0 hn hwn hpc hal hp
      refine pure_rule hT (T:=tab) (N:=159) (rs:=[.tmp 12]) Tryz.func4 rfl rfl rfl (by kernel_rfl) rfl ?_
      (refine gW ?_;intros)
      refine hS.call ?_
      (refine gW ?_;intros)
      refine hF.call ?_
      (refine gW ?_;intros)
      refine hA.call ?_
      (refine gW ?_;intros)
      refine hH.call ?_
      (refine gW ?_;intros)
      refine hP.call ?_
      (refine gW ?_;intros)
      refine hW.call ?_
      (refine gW ?_;intros)
      refine hC.call ?_
      (refine gW ?_;intros)
      all_goals exact ⟨rfl,True.intro⟩
end Go.Proofs.YtkjmomadndmeaaaGreatDoor
