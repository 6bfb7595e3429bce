/-
  Chapter 28: the law AdmissionWhy.
-/
import Derived.Test.YtkjmomadndmeaaaGreatDoorLawCB
namespace Go.Proofs.YtkjmomadndmeaaaGreatDoor
set_option linter.unusedSimpArgs false
set_option linter.unusedVariables false
open Go Go.Ab
set_option maxRecDepth 100000
set_option maxHeartbeats 0
structure WhyI (s:Sit) (x:Crs) (l:List Int):Prop where
 up:l.Pairwise (· < ·)
 it:∀ n∈l,-1≤n∧(n=-1→valR s x.bar=true)∧(0≤n→x.need.op=1→n.toNat < x.need.kids.length∧valR s (x.need.kids.getD n.toNat default)=false)
theorem whyL_I (s:Sit) (x:Crs):WhyI s x ((if valR s x.bar=true then [-1] else []) ++ failF s (partsR x.need) (partsR x.need).length):=by
 obtain ⟨h1,h2⟩:=failF_I s (partsR x.need) (partsR x.need).length
 have key:∀ n∈failF s (partsR x.need) (partsR x.need).length,0≤n∧(x.need.op=1→n.toNat < x.need.kids.length∧valR s (x.need.kids.getD n.toNat default)=false):=fun n hn=>by
  obtain ⟨i,rfl,hi,hv⟩:=h1 n hn
  refine ⟨by omega,fun ho=>?_⟩
  unfold partsR at hi hv
  rw [if_pos ho] at hi hv
  exact ⟨by simpa using hi,by simpa using hv⟩
 cases hb:valR s x.bar with
 | false =>
   rw [if_neg (by decide),List.nil_append]
   exact ⟨h2,fun n hn=>⟨by have:=(key n hn).1;omega,fun e=>by have:=(key n hn).1;omega,fun _=>(key n hn).2⟩⟩
 | true =>
   rw [if_pos rfl]
   refine ⟨?_,fun n hn=>?_⟩
   ·rw [List.pairwise_append]
    refine ⟨List.pairwise_singleton _ _,h2,fun a ha b hb=>?_⟩
    rw [List.mem_singleton] at ha
    have:=(key b hb).1
    omega
   ·rcases List.mem_append.1 hn with hn | hn
    ·rw [List.mem_singleton] at hn
     subst hn
     exact ⟨by omega,fun _=>hb,fun h=>by omega⟩
    ·exact ⟨by have:=(key n hn).1;omega,fun e=>by have:=(key n hn).1;omega,fun _=>(key n hn).2⟩
theorem WhyI.prev {s:Sit} {x:Crs} {l:List Int} (h:WhyI s x l) {k:Nat} (hk:k < l.length) (h0:0 < k):l.getD ((k:Int) - 1).toNat default < l.getD k default:=by
 rw [toNat_pred]
 have:=List.pairwise_iff_getElem.1 h.up (k - 1) k (by omega) hk (by omega)
 simpa [hk,show k - 1 < l.length by omega] using this
theorem law28W_ok (w:Wor) (hw:okWor w) (s c t kn:Int) (nw:List Int) (hnw0:fitL nw∧∀ x∈nw,In .i64 x):Pure Tryz.prog 5 [.agg (eWor w),.int .i64 s,.int .i64 c,.int .i64 t,.int .i64 kn,eInts nw] [.bool true]:=by
 have hnw:=hnw0.1
 have hS:=sane28_ok
 have hF:=few28_ok w hw.1.wf hw.2.1 hw.1.nm nw hnw
 cases hf:(fewW w && decide (nw.length≤10)) <;> rw [hf] at hF
 ·clear hnw0
  refine pure_rule hT (T:=tab) (N:=171) (rs:=[.tmp 12]) Tryz.func5 rfl rfl rfl (by kernel_rfl) rfl ?_
  (refine gW ?_;intros)
  refine hS.call ?_
  (refine gW ?_;intros)
  refine hF.call ?_
  (refine gW ?_;intros)
  exact ⟨rfl,True.intro⟩
 have h28:=hw.few28 hf
 have hC:=bcourse_ok w h28.wf c t kn
 generalize hr2:readsT ⟨1,c,0⟩ t=r2 at hC
 clear hr2
 cases hac:(askedB s c t nw && (crsOf w c t kn).isSome)
 ·have hW:=h28.whyN s c t kn hac
  generalize (crsOf w c t kn).isSome=isb at hC
  generalize (crsOf w c t kn).getD default=oo at hC
  cases hv:(bw s 0 19999 && (bw t 0 1023 && nowB (-1) nw))
  ·have hT2:=situate_bad w s t kn nw (by have:=h28.now;omega) hv
   clear hf h28 hnw0 hv
   refine pure_rule hT (T:=tab) (N:=171) (rs:=[.tmp 12]) Tryz.func5 rfl rfl rfl (by kernel_rfl) rfl ?_
   (refine gW ?_;intros)
   refine hS.call ?_
   (refine gW ?_;intros)
   refine hF.call ?_
   (refine gW ?_;intros)
   refine hW.call ?_
   (refine gW ?_;intros)
   refine hC.call ?_
   (refine gW ?_;intros)
   refine hT2.call ?_
   (refine gW ?_;intros)
   exact ⟨rfl,True.intro⟩
  ·simp only [Bool.and_eq_true] at hv
   have hT2:=h28.sit s t kn hv.1 hv.2.1 hv.2.2
   generalize sitV w s t kn nw=st at hT2
   generalize sitR w s t kn=rr at hT2
   clear hf h28 hnw0 hv
   refine pure_rule hT (T:=tab) (N:=171) (rs:=[.tmp 12]) Tryz.func5 rfl rfl rfl (by kernel_rfl) rfl ?_
   (refine gW ?_;intros)
   refine hS.call ?_
   (refine gW ?_;intros)
   refine hF.call ?_
   (refine gW ?_;intros)
   refine hW.call ?_
   (refine gW ?_;intros)
   refine hC.call ?_
   (refine gW ?_;intros)
   refine hT2.call ?_
   (refine gW ?_;intros)
   exact ⟨rfl,True.intro⟩
 simp only [Bool.and_eq_true] at hac
 obtain ⟨ha,hsm⟩:=hac
 obtain ⟨x,hx⟩:=Option.isSome_iff_exists.1 hsm
 have hW:=h28.why s c t kn ha x hx
 obtain ⟨v1,v2,v3⟩:=asked_at ha
 have hT2:=h28.sit s t kn v1 v2 v3
 obtain ⟨w1,w2,c1,c2⟩:=crs_some h28.wf hx
 have hWS:=sitV_wf (w:=w) (by have:=h28.len;omega) s t kn nw
 have hN:=holds12_ok x.need w1 c1 _ hWS
 have hB:=holds12_ok x.bar w2 c2 _ hWS
 have hwn:=whyL_nil w s c t kn nw
 have hwl:whyL w s c t kn nw=(if valR (sitV w s t kn nw) x.bar=true then [-1] else []) ++ failF (sitV w s t kn nw) (partsR x.need) (partsR x.need).length:=by
  unfold whyL crsD
  rw [hx]
  rfl
 have hal:allowV w s c t kn nw=(valR (sitV w s t kn nw) x.need && !valR (sitV w s t kn nw) x.bar):=by
  unfold allowV crsD
  rw [hx]
  rfl
 rw [hal] at hwn
 have hI:=whyL_I (sitV w s t kn nw) x
 rw [← hwl] at hI
 have hlen:(whyL w s c t kn nw).length≤9223372036854775807:=by
  have h1:=failF_len (sitV w s t kn nw) (partsR x.need) (partsR x.need).length
  have h2:(partsR x.need).length≤200:=by
   unfold partsR
   split
   ·exact (chkR_top c1).2
   ·exact (by decide:1≤200)
  rw [hwl,List.length_append]
  have h3:(if valR (sitV w s t kn nw) x.bar=true then [-1] else ([]:List Int)).length≤1:=by split <;> simp
  omega
 rw [hx,show (some x).isSome=true from rfl,show (some x).getD default=x from rfl] at hC
 have hkid:∀ p∈x.need.kids,Pure Tryz.prog 21 [.agg (eRule p),.agg (eSit (sitV w s t kn nw))] [.bool (valR (sitV w s t kn nw) p),.int .i64 0]:=fun p hp=>holds12_ok p ((wfR_kids w1).2 p hp) (chkR_kid c1 hp) _ hWS
 clear hwl hal hx hsm ha hf v1 v2 v3 hnw0 h28
 generalize sitV w s t kn nw=st at hT2 hWS hN hB hwn hI hkid
 generalize sitR w s t kn=rr at hT2
 generalize whyL w s c t kn nw=wl at hW hwn hI hlen
 have kI:Kp _:=⟨hI⟩
 have kkid:Kp _:=⟨hkid⟩
 clear hI hkid
 cases hvn:valR st x.need <;> cases hvb:valR st x.bar <;> rw [hvn] at hN <;> rw [hvb] at hB <;> rw [hvn,hvb] at hwn
 ·have hwl:0 < wl.length:=List.length_pos_iff.2 fun e=>absurd (hwn.1 e) (by decide)
  have hbr:∀ n:Int,(n=-1→valR st x.bar=true)→n≠-1:=fun n h e=>by have:=h e;rw [hvb] at this;cases this
  clear hwn hvn
  refine pure_rule hT (T:=tab) (N:=171) (rs:=[.tmp 12]) Tryz.func5 rfl rfl rfl (by kernel_rfl) rfl ?_
  (refine gW ?_;intros)
  refine hS.call ?_
  (refine gW ?_;intros)
  refine hF.call ?_
  (refine gW ?_;intros)
  refine hW.call ?_
  (refine gW ?_;intros)
  refine hC.call ?_
  (refine gW ?_;intros)
  refine hT2.call ?_
  (refine gW ?_;intros)
  refine hN.call ?_
  (refine gW ?_;intros)
  refine hB.call ?_
  ((refine xW ?_ ?_) <;> (intros;try rename_i h))
  ·exfalso
   rw [decide_eq_false (show ¬ (wl.length:Int)=0 by omega)] at h
   exact absurd h (by decide)
  refine loop_rule hT (S:=Nat) (fun k=>([(13,.d (eInts wl)),(15,.ptr (.loc 1) 0 0 0),(18,.ptr (.loc 2) 0 0 0),(23,.d (.bool false)),(25,.d (.int .i64 k))],⟨[none,some (.box 54 (up (eCrs x))),some (.box 61 (up (eSit st)))],[]⟩)) (fun k=>k≤wl.length) (fun k=>wl.length - k) 0 ?_ ?_ ?_
  ·repeat' (first | exact True.intro | exact rfl | exact Nat.le_refl _ | refine And.intro ?_ ?_)
  ·exact Nat.zero_le _
  intro k hk
  dsimp only at hk ⊢
  by_cases hk2:k < wl.length
  case neg =>
   (refine gW ?_;intros)
   exact ⟨rfl,True.intro⟩
  clear hS hF hW hC hT2 hN hB w1 w2 c1 c2 hWS hwl
  obtain ⟨n,hnk⟩:∃ n,wl.getD k default=n:=⟨_,rfl⟩
  obtain ⟨i1,i2,i3⟩:=kI.h.it n (by rw [← hnk];exact getD_mem hk2)
  have hpv:=fun h0=>kI.h.prev hk2 h0
  rw [hnk] at hpv
  have kpv:Kp _:=⟨hpv⟩
  clear hpv kI
  have hn1:=hbr n i2
  clear hbr hvb
  by_cases hk0:k=0
  case pos =>
   clear kpv i2
   have ki3:Kp _:=⟨i3⟩
   clear i3
   by_cases hn0:n < 0
   case pos =>
    exact absurd hn0 (by omega)
   by_cases ho:x.need.op=1
   case neg =>
    (refine gS ?_;intros)
    refine Sq.go ?_;(refine gS ?_;intros)
    refine Sq.go ?_;(refine gS ?_;intros)
    simp (config:={ beta:=false,eta:=false,iota:=false,proj:=false,zeta:=false,decide:=false }) only [Int.toNat_natCast,hnk]
    (refine gW ?_;intros)
    refine ⟨k + 1,by show k + 1≤wl.length;omega,by show wl.length - (k + 1) < wl.length - k;omega,?_⟩
    repeat' (first | exact True.intro | exact rfl | exact Nat.le_refl _ | refine And.intro ?_ ?_)
   obtain ⟨j1,j2⟩:=ki3.h (by omega) ho
   have hkd:=kkid.h _ (getD_mem j1)
   rw [j2] at hkd
   have hce:eCrs x=[.str x.name,.int .i64 x.number,.int .i64 x.credits,.int .i64 x.rep,.int .i64 x.need.op,.int .i64 x.need.course,.str x.need.name,.int .i64 x.need.n,.int .i64 x.need.d,.sl 6 x.need.kids.length fun i=>eRule (x.need.kids.getD i default),.int .i64 x.bar.op,.int .i64 x.bar.course,.str x.bar.name,.int .i64 x.bar.n,.int .i64 x.bar.d,eRules x.bar.kids]:=by
    unfold eCrs
    rw [eRules_ne (fun e=>by rw [e] at j1;cases j1)]
   rw [hce]
   clear ki3 hce j2 kkid
   (refine gS ?_;intros)
   refine Sq.go ?_;(refine gS ?_;intros)
   refine Sq.go ?_;(refine gS ?_;intros)
   simp (config:={ beta:=false,eta:=false,iota:=false,proj:=false,zeta:=false,decide:=false }) only [Int.toNat_natCast,hnk]
   (refine gW ?_;intros)
   refine qC hkd ?_
   (refine gW ?_;intros)
   refine ⟨k + 1,by show k + 1≤wl.length;omega,by show wl.length - (k + 1) < wl.length - k;omega,?_⟩
   repeat' (first | exact True.intro | exact rfl | exact Nat.le_refl _ | refine And.intro ?_ ?_)
  have hp1:=kpv.h (by omega)
  clear kpv i2
  have ki3:Kp _:=⟨i3⟩
  clear i3
  by_cases hn0:n < 0
  case pos =>
   exact absurd hn0 (by omega)
  by_cases ho:x.need.op=1
  case neg =>
   (refine gS ?_;intros)
   refine Sq.go ?_;(refine gS ?_;intros)
   refine Sq.go ?_;(refine gS ?_;intros)
   simp (config:={ beta:=false,eta:=false,iota:=false,proj:=false,zeta:=false,decide:=false }) only [Int.toNat_natCast,hnk]
   (refine gW ?_;intros)
   refine ⟨k + 1,by show k + 1≤wl.length;omega,by show wl.length - (k + 1) < wl.length - k;omega,?_⟩
   repeat' (first | exact True.intro | exact rfl | exact Nat.le_refl _ | refine And.intro ?_ ?_)
  obtain ⟨j1,j2⟩:=ki3.h (by omega) ho
  have hkd:=kkid.h _ (getD_mem j1)
  rw [j2] at hkd
  have hce:eCrs x=[.str x.name,.int .i64 x.number,.int .i64 x.credits,.int .i64 x.rep,.int .i64 x.need.op,.int .i64 x.need.course,.str x.need.name,.int .i64 x.need.n,.int .i64 x.need.d,.sl 6 x.need.kids.length fun i=>eRule (x.need.kids.getD i default),.int .i64 x.bar.op,.int .i64 x.bar.course,.str x.bar.name,.int .i64 x.bar.n,.int .i64 x.bar.d,eRules x.bar.kids]:=by
   unfold eCrs
   rw [eRules_ne (fun e=>by rw [e] at j1;cases j1)]
  rw [hce]
  clear ki3 hce j2 kkid
  (refine gS ?_;intros)
  refine Sq.go ?_;(refine gS ?_;intros)
  refine Sq.go ?_;(refine gS ?_;intros)
  simp (config:={ beta:=false,eta:=false,iota:=false,proj:=false,zeta:=false,decide:=false }) only [Int.toNat_natCast,hnk]
  (refine gW ?_;intros)
  refine qC hkd ?_
  (refine gW ?_;intros)
  refine ⟨k + 1,by show k + 1≤wl.length;omega,by show wl.length - (k + 1) < wl.length - k;omega,?_⟩
  repeat' (first | exact True.intro | exact rfl | exact Nat.le_refl _ | refine And.intro ?_ ?_)
 ·have hwl:0 < wl.length:=List.length_pos_iff.2 fun e=>absurd (hwn.1 e) (by decide)
  clear hwn hvn
  refine pure_rule hT (T:=tab) (N:=171) (rs:=[.tmp 12]) Tryz.func5 rfl rfl rfl (by kernel_rfl) rfl ?_
  (refine gW ?_;intros)
  refine hS.call ?_
  (refine gW ?_;intros)
  refine hF.call ?_
  (refine gW ?_;intros)
  refine hW.call ?_
  (refine gW ?_;intros)
  refine hC.call ?_
  (refine gW ?_;intros)
  refine hT2.call ?_
  (refine gW ?_;intros)
  refine hN.call ?_
  (refine gW ?_;intros)
  refine hB.call ?_
  ((refine xW ?_ ?_) <;> (intros;try rename_i h))
  ·exfalso
   rw [decide_eq_false (show ¬ (wl.length:Int)=0 by omega)] at h
   exact absurd h (by decide)
  refine loop_rule hT (S:=Nat) (fun k=>([(13,.d (eInts wl)),(15,.ptr (.loc 1) 0 0 0),(18,.ptr (.loc 2) 0 0 0),(23,.d (.bool true)),(25,.d (.int .i64 k))],⟨[none,some (.box 54 (up (eCrs x))),some (.box 61 (up (eSit st)))],[]⟩)) (fun k=>k≤wl.length) (fun k=>wl.length - k) 0 ?_ ?_ ?_
  ·repeat' (first | exact True.intro | exact rfl | exact Nat.le_refl _ | refine And.intro ?_ ?_)
  ·exact Nat.zero_le _
  intro k hk
  dsimp only at hk ⊢
  by_cases hk2:k < wl.length
  case neg =>
   (refine gW ?_;intros)
   exact ⟨rfl,True.intro⟩
  clear hS hF hW hC hT2 hN hB w1 w2 c1 c2 hWS hwl
  obtain ⟨n,hnk⟩:∃ n,wl.getD k default=n:=⟨_,rfl⟩
  obtain ⟨i1,i2,i3⟩:=kI.h.it n (by rw [← hnk];exact getD_mem hk2)
  have hpv:=fun h0=>kI.h.prev hk2 h0
  rw [hnk] at hpv
  have kpv:Kp _:=⟨hpv⟩
  clear hpv kI
  by_cases hk0:k=0
  case pos =>
   clear kpv i2
   have ki3:Kp _:=⟨i3⟩
   clear i3
   by_cases hn0:n < 0
   case pos =>
    (refine gS ?_;intros)
    refine Sq.go ?_;(refine gS ?_;intros)
    refine Sq.go ?_;(refine gS ?_;intros)
    simp (config:={ beta:=false,eta:=false,iota:=false,proj:=false,zeta:=false,decide:=false }) only [Int.toNat_natCast,hnk]
    (refine gW ?_;intros)
    refine ⟨k + 1,by show k + 1≤wl.length;omega,by show wl.length - (k + 1) < wl.length - k;omega,?_⟩
    repeat' (first | exact True.intro | exact rfl | exact Nat.le_refl _ | refine And.intro ?_ ?_)
   by_cases ho:x.need.op=1
   case neg =>
    (refine gS ?_;intros)
    refine Sq.go ?_;(refine gS ?_;intros)
    refine Sq.go ?_;(refine gS ?_;intros)
    simp (config:={ beta:=false,eta:=false,iota:=false,proj:=false,zeta:=false,decide:=false }) only [Int.toNat_natCast,hnk]
    (refine gW ?_;intros)
    refine ⟨k + 1,by show k + 1≤wl.length;omega,by show wl.length - (k + 1) < wl.length - k;omega,?_⟩
    repeat' (first | exact True.intro | exact rfl | exact Nat.le_refl _ | refine And.intro ?_ ?_)
   obtain ⟨j1,j2⟩:=ki3.h (by omega) ho
   have hkd:=kkid.h _ (getD_mem j1)
   rw [j2] at hkd
   have hce:eCrs x=[.str x.name,.int .i64 x.number,.int .i64 x.credits,.int .i64 x.rep,.int .i64 x.need.op,.int .i64 x.need.course,.str x.need.name,.int .i64 x.need.n,.int .i64 x.need.d,.sl 6 x.need.kids.length fun i=>eRule (x.need.kids.getD i default),.int .i64 x.bar.op,.int .i64 x.bar.course,.str x.bar.name,.int .i64 x.bar.n,.int .i64 x.bar.d,eRules x.bar.kids]:=by
    unfold eCrs
    rw [eRules_ne (fun e=>by rw [e] at j1;cases j1)]
   rw [hce]
   clear ki3 hce j2 kkid
   (refine gS ?_;intros)
   refine Sq.go ?_;(refine gS ?_;intros)
   refine Sq.go ?_;(refine gS ?_;intros)
   simp (config:={ beta:=false,eta:=false,iota:=false,proj:=false,zeta:=false,decide:=false }) only [Int.toNat_natCast,hnk]
   (refine gW ?_;intros)
   refine qC hkd ?_
   (refine gW ?_;intros)
   refine ⟨k + 1,by show k + 1≤wl.length;omega,by show wl.length - (k + 1) < wl.length - k;omega,?_⟩
   repeat' (first | exact True.intro | exact rfl | exact Nat.le_refl _ | refine And.intro ?_ ?_)
  have hp1:=kpv.h (by omega)
  clear kpv i2
  have ki3:Kp _:=⟨i3⟩
  clear i3
  by_cases hn0:n < 0
  case pos =>
   (refine gS ?_;intros)
   refine Sq.go ?_;(refine gS ?_;intros)
   refine Sq.go ?_;(refine gS ?_;intros)
   simp (config:={ beta:=false,eta:=false,iota:=false,proj:=false,zeta:=false,decide:=false }) only [Int.toNat_natCast,hnk]
   (refine gW ?_;intros)
   refine ⟨k + 1,by show k + 1≤wl.length;omega,by show wl.length - (k + 1) < wl.length - k;omega,?_⟩
   repeat' (first | exact True.intro | exact rfl | exact Nat.le_refl _ | refine And.intro ?_ ?_)
  by_cases ho:x.need.op=1
  case neg =>
   (refine gS ?_;intros)
   refine Sq.go ?_;(refine gS ?_;intros)
   refine Sq.go ?_;(refine gS ?_;intros)
   simp (config:={ beta:=false,eta:=false,iota:=false,proj:=false,zeta:=false,decide:=false }) only [Int.toNat_natCast,hnk]
   (refine gW ?_;intros)
   refine ⟨k + 1,by show k + 1≤wl.length;omega,by show wl.length - (k + 1) < wl.length - k;omega,?_⟩
   repeat' (first | exact True.intro | exact rfl | exact Nat.le_refl _ | refine And.intro ?_ ?_)
  obtain ⟨j1,j2⟩:=ki3.h (by omega) ho
  have hkd:=kkid.h _ (getD_mem j1)
  rw [j2] at hkd
  have hce:eCrs x=[.str x.name,.int .i64 x.number,.int .i64 x.credits,.int .i64 x.rep,.int .i64 x.need.op,.int .i64 x.need.course,.str x.need.name,.int .i64 x.need.n,.int .i64 x.need.d,.sl 6 x.need.kids.length fun i=>eRule (x.need.kids.getD i default),.int .i64 x.bar.op,.int .i64 x.bar.course,.str x.bar.name,.int .i64 x.bar.n,.int .i64 x.bar.d,eRules x.bar.kids]:=by
   unfold eCrs
   rw [eRules_ne (fun e=>by rw [e] at j1;cases j1)]
  rw [hce]
  clear ki3 hce j2 kkid
  (refine gS ?_;intros)
  refine Sq.go ?_;(refine gS ?_;intros)
  refine Sq.go ?_;(refine gS ?_;intros)
  simp (config:={ beta:=false,eta:=false,iota:=false,proj:=false,zeta:=false,decide:=false }) only [Int.toNat_natCast,hnk]
  (refine gW ?_;intros)
  refine qC hkd ?_
  (refine gW ?_;intros)
  refine ⟨k + 1,by show k + 1≤wl.length;omega,by show wl.length - (k + 1) < wl.length - k;omega,?_⟩
  repeat' (first | exact True.intro | exact rfl | exact Nat.le_refl _ | refine And.intro ?_ ?_)
 ·have hwl:wl=[]:=hwn.2 rfl
  subst hwl
  clear hwn hvn hvb kI kkid hlen
  refine pure_rule hT (T:=tab) (N:=171) (rs:=[.tmp 12]) Tryz.func5 rfl rfl rfl (by kernel_rfl) rfl ?_
  (refine gW ?_;intros)
  refine hS.call ?_
  (refine gW ?_;intros)
  refine hF.call ?_
  (refine gW ?_;intros)
  refine hW.call ?_
  (refine gW ?_;intros)
  refine hC.call ?_
  (refine gW ?_;intros)
  refine hT2.call ?_
  (refine gW ?_;intros)
  refine hN.call ?_
  (refine gW ?_;intros)
  refine hB.call ?_
  (refine gW ?_;intros)
  refine loop_rule hT (S:=Unit) (fun _=>([(13,.d (eInts [])),(25,.d (.int .i64 0))],⟨[],[]⟩)) (fun _=>True) (fun _=>0) () ?_ ?_ ?_
  ·repeat' (first | exact True.intro | exact rfl | exact Nat.le_refl _ | refine And.intro ?_ ?_)
  ·exact True.intro
  ·intro _ _
   (refine gW ?_;intros)
   exact ⟨rfl,True.intro⟩
 ·have hwl:0 < wl.length:=List.length_pos_iff.2 fun e=>absurd (hwn.1 e) (by decide)
  clear hwn hvn
  refine pure_rule hT (T:=tab) (N:=171) (rs:=[.tmp 12]) Tryz.func5 rfl rfl rfl (by kernel_rfl) rfl ?_
  (refine gW ?_;intros)
  refine hS.call ?_
  (refine gW ?_;intros)
  refine hF.call ?_
  (refine gW ?_;intros)
  refine hW.call ?_
  (refine gW ?_;intros)
  refine hC.call ?_
  (refine gW ?_;intros)
  refine hT2.call ?_
  (refine gW ?_;intros)
  refine hN.call ?_
  (refine gW ?_;intros)
  refine hB.call ?_
  ((refine xW ?_ ?_) <;> (intros;try rename_i h))
  ·exfalso
   rw [decide_eq_false (show ¬ (wl.length:Int)=0 by omega)] at h
   exact absurd h (by decide)
  refine loop_rule hT (S:=Nat) (fun k=>([(13,.d (eInts wl)),(15,.ptr (.loc 1) 0 0 0),(18,.ptr (.loc 2) 0 0 0),(23,.d (.bool true)),(25,.d (.int .i64 k))],⟨[none,some (.box 54 (up (eCrs x))),some (.box 61 (up (eSit st)))],[]⟩)) (fun k=>k≤wl.length) (fun k=>wl.length - k) 0 ?_ ?_ ?_
  ·repeat' (first | exact True.intro | exact rfl | exact Nat.le_refl _ | refine And.intro ?_ ?_)
  ·exact Nat.zero_le _
  intro k hk
  dsimp only at hk ⊢
  by_cases hk2:k < wl.length
  case neg =>
   (refine gW ?_;intros)
   exact ⟨rfl,True.intro⟩
  clear hS hF hW hC hT2 hN hB w1 w2 c1 c2 hWS hwl
  obtain ⟨n,hnk⟩:∃ n,wl.getD k default=n:=⟨_,rfl⟩
  obtain ⟨i1,i2,i3⟩:=kI.h.it n (by rw [← hnk];exact getD_mem hk2)
  have hpv:=fun h0=>kI.h.prev hk2 h0
  rw [hnk] at hpv
  have kpv:Kp _:=⟨hpv⟩
  clear hpv kI
  by_cases hk0:k=0
  case pos =>
   clear kpv i2
   have ki3:Kp _:=⟨i3⟩
   clear i3
   by_cases hn0:n < 0
   case pos =>
    (refine gS ?_;intros)
    refine Sq.go ?_;(refine gS ?_;intros)
    refine Sq.go ?_;(refine gS ?_;intros)
    simp (config:={ beta:=false,eta:=false,iota:=false,proj:=false,zeta:=false,decide:=false }) only [Int.toNat_natCast,hnk]
    (refine gW ?_;intros)
    refine ⟨k + 1,by show k + 1≤wl.length;omega,by show wl.length - (k + 1) < wl.length - k;omega,?_⟩
    repeat' (first | exact True.intro | exact rfl | exact Nat.le_refl _ | refine And.intro ?_ ?_)
   by_cases ho:x.need.op=1
   case neg =>
    (refine gS ?_;intros)
    refine Sq.go ?_;(refine gS ?_;intros)
    refine Sq.go ?_;(refine gS ?_;intros)
    simp (config:={ beta:=false,eta:=false,iota:=false,proj:=false,zeta:=false,decide:=false }) only [Int.toNat_natCast,hnk]
    (refine gW ?_;intros)
    refine ⟨k + 1,by show k + 1≤wl.length;omega,by show wl.length - (k + 1) < wl.length - k;omega,?_⟩
    repeat' (first | exact True.intro | exact rfl | exact Nat.le_refl _ | refine And.intro ?_ ?_)
   obtain ⟨j1,j2⟩:=ki3.h (by omega) ho
   have hkd:=kkid.h _ (getD_mem j1)
   rw [j2] at hkd
   have hce:eCrs x=[.str x.name,.int .i64 x.number,.int .i64 x.credits,.int .i64 x.rep,.int .i64 x.need.op,.int .i64 x.need.course,.str x.need.name,.int .i64 x.need.n,.int .i64 x.need.d,.sl 6 x.need.kids.length fun i=>eRule (x.need.kids.getD i default),.int .i64 x.bar.op,.int .i64 x.bar.course,.str x.bar.name,.int .i64 x.bar.n,.int .i64 x.bar.d,eRules x.bar.kids]:=by
    unfold eCrs
    rw [eRules_ne (fun e=>by rw [e] at j1;cases j1)]
   rw [hce]
   clear ki3 hce j2 kkid
   (refine gS ?_;intros)
   refine Sq.go ?_;(refine gS ?_;intros)
   refine Sq.go ?_;(refine gS ?_;intros)
   simp (config:={ beta:=false,eta:=false,iota:=false,proj:=false,zeta:=false,decide:=false }) only [Int.toNat_natCast,hnk]
   (refine gW ?_;intros)
   refine qC hkd ?_
   (refine gW ?_;intros)
   refine ⟨k + 1,by show k + 1≤wl.length;omega,by show wl.length - (k + 1) < wl.length - k;omega,?_⟩
   repeat' (first | exact True.intro | exact rfl | exact Nat.le_refl _ | refine And.intro ?_ ?_)
  have hp1:=kpv.h (by omega)
  clear kpv i2
  have ki3:Kp _:=⟨i3⟩
  clear i3
  by_cases hn0:n < 0
  case pos =>
   (refine gS ?_;intros)
   refine Sq.go ?_;(refine gS ?_;intros)
   refine Sq.go ?_;(refine gS ?_;intros)
   simp (config:={ beta:=false,eta:=false,iota:=false,proj:=false,zeta:=false,decide:=false }) only [Int.toNat_natCast,hnk]
   (refine gW ?_;intros)
   refine ⟨k + 1,by show k + 1≤wl.length;omega,by show wl.length - (k + 1) < wl.length - k;omega,?_⟩
   repeat' (first | exact True.intro | exact rfl | exact Nat.le_refl _ | refine And.intro ?_ ?_)
  by_cases ho:x.need.op=1
  case neg =>
   (refine gS ?_;intros)
   refine Sq.go ?_;(refine gS ?_;intros)
   refine Sq.go ?_;(refine gS ?_;intros)
   simp (config:={ beta:=false,eta:=false,iota:=false,proj:=false,zeta:=false,decide:=false }) only [Int.toNat_natCast,hnk]
   (refine gW ?_;intros)
   refine ⟨k + 1,by show k + 1≤wl.length;omega,by show wl.length - (k + 1) < wl.length - k;omega,?_⟩
   repeat' (first | exact True.intro | exact rfl | exact Nat.le_refl _ | refine And.intro ?_ ?_)
  obtain ⟨j1,j2⟩:=ki3.h (by omega) ho
  have hkd:=kkid.h _ (getD_mem j1)
  rw [j2] at hkd
  have hce:eCrs x=[.str x.name,.int .i64 x.number,.int .i64 x.credits,.int .i64 x.rep,.int .i64 x.need.op,.int .i64 x.need.course,.str x.need.name,.int .i64 x.need.n,.int .i64 x.need.d,.sl 6 x.need.kids.length fun i=>eRule (x.need.kids.getD i default),.int .i64 x.bar.op,.int .i64 x.bar.course,.str x.bar.name,.int .i64 x.bar.n,.int .i64 x.bar.d,eRules x.bar.kids]:=by
   unfold eCrs
   rw [eRules_ne (fun e=>by rw [e] at j1;cases j1)]
  rw [hce]
  clear ki3 hce j2 kkid
  (refine gS ?_;intros)
  refine Sq.go ?_;(refine gS ?_;intros)
  refine Sq.go ?_;(refine gS ?_;intros)
  simp (config:={ beta:=false,eta:=false,iota:=false,proj:=false,zeta:=false,decide:=false }) only [Int.toNat_natCast,hnk]
  (refine gW ?_;intros)
  refine qC hkd ?_
  (refine gW ?_;intros)
  refine ⟨k + 1,by show k + 1≤wl.length;omega,by show wl.length - (k + 1) < wl.length - k;omega,?_⟩
  repeat' (first | exact True.intro | exact rfl | exact Nat.le_refl _ | refine And.intro ?_ ?_)
end Go.Proofs.YtkjmomadndmeaaaGreatDoor
