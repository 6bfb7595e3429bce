import Derived.Test.YtkjmomadndmeaaaGreatDoorWhyP
import Derived.Test.YtkjmomadndmeaaaGreatDoorRfI
import Derived.Test.YtkjmomadndmeaaaGreatDoorRfG
namespace Go.Proofs.YtkjmomadndmeaaaGreatDoor
set_option linter.unusedSimpArgs false
set_option linter.unusedVariables false
open Go Go.Ab
set_option maxRecDepth 100000
set_option maxHeartbeats 0
theorem whyL_fit (w:Wor)(hw:WfW w)(s c t kn:Int)(nw:List Int)(x:Crs)(hx:crsOf w c t kn=some x):fitL (whyL w s c t kn nw):=by
 obtain⟨w1,w2,c1,c2⟩:=crs_some hw hx
 have hl:=(chkR_top c1).2
 have hp:(partsR x.need).length<=1000000:=by
  unfold partsR
  split
  .omega
  .simp
 have hf:=failF_len (sitV w s t kn nw) (partsR x.need) (partsR x.need).length
 unfold fitL whyL crsD
 rw[hx,List.length_append]
 show _+(failF _ (partsR x.need) (partsR x.need).length).length<=_
 have:(if valR (sitV w s t kn nw) ((some x).getD default).bar=true then[(-1:Int)] else[]).length<=1:=by split<;>simp
 omega
theorem law28S_ok (w:Wor)(hw:okWor w)(s c t kn:Int)(nw:List Int)(hnw0:fitL nw/\∀x∈nw,In .i64 x):Pure Tryz.prog 3 [.agg (eWor w),di s,di c,di t,di kn,eInts nw] [.bool true]:=by
 have hnw:=hnw0.1
 have hS:=sane28_ok
 have hF:=few28_ok w hw.1.wf hw.2.1 hw.1.nm nw hnw
 cases hf:(fewW w&&decide (nw.length<=10))<;>rw[hf]at hF
 .refine pure_rule hT (T:=tab) (N:=92) (rs:=[.tmp 12]) Tryz.func3 rfl rfl rfl Kr rfl ?_
  (refine gW ?_;intros)
  refine hS.call ?_
  (refine gW ?_;intros)
  refine hF.call ?_
  (refine gW ?_;intros)
  exact⟨rfl,Tt⟩
 have h28:=hw.few28 hf
 have hnl:nw.length<=1000000:=by have:=h28.now;omega
 cases ha:askedB s c t nw
 .have hA:=admit_bad0 w s c t kn nw hnl ha
  have hB:=radmit_bad w s c t kn nw hnl ha
  have hP:=h28.whyN s c t kn (by rw[ha];rfl)
  have hQ:=rwhy_bad w s c t kn nw hnl ha
  have hM:=same28_ok decZ decZ rfl (Nat.zero_le _) (Nat.zero_le _) (Nat.zero_le _)
  have hI:=sameI28_ok [] [] (Nat.zero_le _) (Nat.zero_le _)
  rw[decide_eq_true rfl]at hI
  generalize decZ=d at hA hB hM
  clear hf ha h28 hnw0
  refine pure_rule hT (T:=tab) (N:=92) (rs:=[.tmp 12]) Tryz.func3 rfl rfl rfl Kr rfl ?_
  (refine gW ?_;intros)
  refine hS.call ?_
  (refine gW ?_;intros)
  refine hF.call ?_
  (refine gW ?_;intros)
  refine hA.call ?_
  (refine gW ?_;intros)
  refine hB.call ?_
  (refine gW ?_;intros)
  refine hP.call ?_
  (refine gW ?_;intros)
  refine hQ.call ?_
  (refine gW ?_;intros)
  refine hM.call ?_
  (refine gW ?_;intros)
  refine hI.call ?_
  (refine gW ?_;intros)
  refine⟨congrArg D.bool ?_,Tt⟩
  simp
 have hA:=h28.adm s c t kn ha
 obtain⟨a1,a2,a3⟩:=asked_at ha
 have hT:=rsituate_ok w h28.wf h28.len h28.val s t kn nw hnl a1 a2 a3
 have hB:=radmit_ok w h28.wf h28.len s c t kn nw hnl ha hT (sitR_len h28.len s t kn)
 have hR:fitL (admV w s c t kn nw).reads:=admR_fit h28 s c t kn
 have hn1:fitL (admV w s c t kn nw).now:=hnw
 have hn2:fitL (admV w s c t kn nw).named:=namV_fit w s c t kn nw
 have hM:=same28_ok (admV w s c t kn nw) (admV w s c t kn nw) rfl hn1 hR hn2
 cases hx:crsOf w c t kn with
 | none =>
   have hP:=h28.whyN s c t kn (by rw[hx,ha];rfl)
   have hQ:=rwhy_none w h28.wf s c t kn nw (by rw[hx];rfl) hB
   have hI:=sameI28_ok [] [] (Nat.zero_le _) (Nat.zero_le _)
   rw[decide_eq_true rfl]at hI
   generalize admV w s c t kn nw=d at hA hB hM
   clear hf ha h28 hnw0 hR hn1 hn2 hT
   refine pure_rule hT (T:=tab) (N:=92) (rs:=[.tmp 12]) Tryz.func3 rfl rfl rfl Kr rfl ?_
   (refine gW ?_;intros)
   refine hS.call ?_
   (refine gW ?_;intros)
   refine hF.call ?_
   (refine gW ?_;intros)
   refine hA.call ?_
   (refine gW ?_;intros)
   refine hB.call ?_
   (refine gW ?_;intros)
   refine hP.call ?_
   (refine gW ?_;intros)
   refine hQ.call ?_
   (refine gW ?_;intros)
   refine hM.call ?_
   (refine gW ?_;intros)
   refine hI.call ?_
   (refine gW ?_;intros)
   refine⟨congrArg D.bool ?_,Tt⟩
   simp
 | some x =>
   have hP:=h28.why s c t kn ha x hx
   have hQ:=rwhy_ok w h28.wf h28.len s c t kn nw x hx hB hT
   have hwl:fitL (whyL w s c t kn nw):=whyL_fit w h28.wf s c t kn nw x hx
   have hI:=sameI28_ok (whyL w s c t kn nw) (whyL w s c t kn nw) hwl hwl
   rw[decide_eq_true rfl]at hI
   generalize admV w s c t kn nw=d at hA hB hM
   generalize whyL w s c t kn nw=wl at hP hQ hI
   clear hf ha h28 hnw0 hR hn1 hn2 hT hwl
   refine pure_rule hT (T:=tab) (N:=92) (rs:=[.tmp 12]) Tryz.func3 rfl rfl rfl Kr rfl ?_
   (refine gW ?_;intros)
   refine hS.call ?_
   (refine gW ?_;intros)
   refine hF.call ?_
   (refine gW ?_;intros)
   refine hA.call ?_
   (refine gW ?_;intros)
   refine hB.call ?_
   (refine gW ?_;intros)
   refine hP.call ?_
   (refine gW ?_;intros)
   refine hQ.call ?_
   (refine gW ?_;intros)
   refine hM.call ?_
   (refine gW ?_;intros)
   refine hI.call ?_
   (refine gW ?_;intros)
   refine⟨congrArg D.bool ?_,Tt⟩
   simp
end Go.Proofs.YtkjmomadndmeaaaGreatDoor
