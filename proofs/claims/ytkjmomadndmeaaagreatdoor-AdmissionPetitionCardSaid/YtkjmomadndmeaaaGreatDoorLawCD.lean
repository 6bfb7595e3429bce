import Derived.Test.YtkjmomadndmeaaaGreatDoorLawCA
import Derived.Test.YtkjmomadndmeaaaGreatDoorWhyP
import Derived.Test.YtkjmomadndmeaaaGreatDoorPetW
namespace Go.Proofs.YtkjmomadndmeaaaGreatDoor
set_option linter.unusedSimpArgs false
set_option linter.unusedVariables false
open Go Go.Ab
set_option maxRecDepth 100000
set_option maxHeartbeats 0
theorem lastK_in {l:List Fct} (h:∀ f∈l,fitF f=true):1≤lastK l∧lastK l≤16777216:=by
 unfold lastK
 split
 ·omega
 ·have:=h _ (getD_mem (xs:=l) (k:=l.length - 1) (by omega))
  unfold fitF at this
  simp only [Bool.and_eq_true,bw,decide_eq_true_iff] at this
  omega
theorem bef_new {l:List Fct} {s c n fr til:Int} (h:0 < l.length):befF (l.getD (l.length - 1) default) (petF s c n fr til (lastK l + 1))=true:=by
 unfold befF lastK
 rw [if_neg (by omega),decide_eq_true (show (l.getD (l.length - 1) default).known < (petF s c n fr til ((l.getD (l.length - 1) default).known + 1)).known from Int.lt_succ _)]
 rfl
structure Wrq (p:Prop):Prop where
 p:p
theorem cutP {T G:Prop} (h:Wrq T→G) (t:T):G:=h ⟨t⟩
theorem law28P_ok (w:Wor) (hw:okWor w) (s c n fr til t:Int) (nw:List Int) (hnw0:fitL nw∧∀ x∈nw,In .i64 x):Pure Tryz.prog 7 [.agg (eWor w),.int .i64 s,.int .i64 c,.int .i64 n,.agg [.int .i64 fr,.int .i64 til],.int .i64 t,eInts nw] [.bool true]:=by
 have hnw:=hnw0.1
 have hS:=sane28_ok
 have hF:=few28_ok w hw.1.wf hw.2.1 hw.1.nm nw hnw
 cases hf:(fewW w && decide (nw.length≤10)) <;> rw [hf] at hF
 ·clear hnw0
  refine pure_rule hT (T:=tab) (N:=194) (rs:=[.tmp 14]) Tryz.func7 rfl rfl rfl (by kernel_rfl) rfl ?_
  (refine gW ?_;intros)
  refine hS.call ?_
  (refine gW ?_;intros)
  refine hF.call ?_
  (refine gW ?_;intros)
  exact ⟨rfl,True.intro⟩
 have h28:=hw.few28 hf
 have hfl:w.fcts.length≤40:=by
  simp only [Bool.and_eq_true] at hf
  exact fewW_len hf.1
 have hCk:=fcheck_ok w.fcts (by omega)
 by_cases hz:fchk w.fcts=0
 case neg =>
  generalize fchk w.fcts=fz at hCk hz
  clear hf hnw0 h28
  refine pure_rule hT (T:=tab) (N:=194) (rs:=[.tmp 14]) Tryz.func7 rfl rfl rfl (by kernel_rfl) rfl ?_
  (refine gW ?_;intros)
  refine hS.call ?_
  (refine gW ?_;intros)
  refine hF.call ?_
  (refine gW ?_;intros)
  refine hCk.call ?_
  (refine gW ?_;intros)
  exact ⟨rfl,True.intro⟩
 have hz0:=hz
 rw [hz] at hCk
 obtain ⟨hz1,hz2⟩:=fchk_zero hz
 have hki:=lastK_in hz1
 clear hz
 obtain ⟨K,hKN⟩:∃ K,lastK w.fcts=K:=⟨_,rfl⟩
 rw [hKN] at hki
 refine pure_rule hT (T:=tab) (N:=194) (rs:=[.tmp 14]) Tryz.func7 rfl rfl rfl (by kernel_rfl) rfl ?_
 (refine gW ?_;intros)
 refine hS.call ?_
 (refine gW ?_;intros)
 refine hF.call ?_
 (refine gW ?_;intros)
 refine hCk.call ?_
 (refine gS ?_;intros)
 apply cutP
 case h =>
  intro htl
  by_cases h0:0 < w.fcts.length
  ·have hE:(w.fcts.getD ((w.fcts.length:Int) - 1).toNat default).known=K:=by
    rw [← hKN]
    unfold lastK
    rw [if_neg (by omega),toNat_pred]
   refine Sq.go ?_;(refine gS ?_;intros)
   refine Sq.go ?_;(refine gS ?_;intros)
   refine Sq.go ?_;(refine gS ?_;intros)
   refine Sq.go ?_;(refine gS ?_;intros)
   refine Sq.go ?_;(refine gS ?_;intros)
   simp (config:={ beta:=false,eta:=false,iota:=false,proj:=false,zeta:=false,decide:=false }) only [hE]
   refine Sq.alt (Awp.le (env':=[(1,.d (.int .i64 s)),(2,.d (.int .i64 c)),(3,.d (.int .i64 n)),(5,.d (.int .i64 t)),(6,.d (eInts nw)),(7,.ptr (.loc 0) 0 0 0),(11,.ptr (.loc 1) 0 0 0),(15,.d (.int .i64 K))]) (m':=⟨[some (.box 29 (up (eWor w))),some (.box 69 (up [.int .i64 fr,.int .i64 til]))],[]⟩) ?_ htl.p)
   repeat' (first | exact True.intro | exact rfl | exact Nat.le_refl _ | refine And.intro ?_ ?_)
   all_goals first
    | exact rfl
  ·have hE:K=7:=by
    rw [← hKN]
    unfold lastK
    rw [if_pos (by omega)]
   refine Sq.go ?_;(refine gS ?_;intros)
   refine Sq.go ?_;(refine gS ?_;intros)
   refine Sq.go ?_;(refine gS ?_;intros)
   refine Sq.go ?_;(refine gS ?_;intros)
   refine Sq.go ?_;(refine gS ?_;intros)
   refine Sq.alt (Awp.le (env':=[(1,.d (.int .i64 s)),(2,.d (.int .i64 c)),(3,.d (.int .i64 n)),(5,.d (.int .i64 t)),(6,.d (eInts nw)),(7,.ptr (.loc 0) 0 0 0),(11,.ptr (.loc 1) 0 0 0),(15,.d (.int .i64 K))]) (m':=⟨[some (.box 29 (up (eWor w))),some (.box 69 (up [.int .i64 fr,.int .i64 til]))],[]⟩) ?_ htl.p)
   repeat' (first | exact True.intro | exact rfl | exact Nat.le_refl _ | refine And.intro ?_ ?_)
   all_goals first
    | exact congrArg (fun z=>AV.d (.int .i64 z)) hE.symm
 case t =>
  have hPF:=pfact_ok s c n fr til (K + 1)
  obtain ⟨E,hE⟩:∃ E,pfE s c n fr til (K + 1)=E:=⟨_,rfl⟩
  rw [hE] at hPF
  by_cases hE0:E=0
  case neg =>
   rw [if_neg hE0] at hPF
   clear hE hz1 hz2 hf hnw0 h28 hz0 hw hnw hKN
   refine Awp.of_vc hT ?_
   (refine gW ?_;intros)
   refine hPF.call ?_
   (refine gW ?_;intros)
   exact ⟨rfl,True.intro⟩
  case pos =>
   rw [hE0,if_pos rfl] at hPF
   have hfit:fitF (petF s c n fr til (K + 1))=true:=by
    rw [hE0] at hE
    unfold pfE at hE
    split at hE
    ·exact (fchk_zero hE).1 _ (by simp)
    ·cases hE
   have hfr:(0≤fr∧fr < til)∧til≤1024:=by
    unfold fitF at hfit
    simp only [Bool.and_eq_true,decide_eq_true_iff] at hfit
    exact ⟨⟨hfit.2.2.2.2.1,hfit.2.2.2.2.2.1⟩,hfit.2.2.2.2.2.2.1⟩
   clear hE hE0
   by_cases c1:n < 1
   ·clear hz1 hz2 hf hnw0 h28 hz0 hw hnw hKN hfit
    refine Awp.of_vc hT ?_
    (refine gW ?_;intros)
    refine hPF.call ?_
    (refine gW ?_;intros)
    exact ⟨rfl,True.intro⟩
   by_cases c2:t < fr
   ·clear hz1 hz2 hf hnw0 h28 hz0 hw hnw hKN hfit
    refine Awp.of_vc hT ?_
    (refine gW ?_;intros)
    refine hPF.call ?_
    (refine gW ?_;intros)
    exact ⟨rfl,True.intro⟩
   by_cases c3:til≤t
   ·clear hz1 hz2 hf hnw0 h28 hz0 hw hnw hKN hfit
    refine Awp.of_vc hT ?_
    (refine gW ?_;intros)
    refine hPF.call ?_
    (refine gW ?_;intros)
    exact ⟨rfl,True.intro⟩
   have hAd:=fadd_ok w.fcts (petF s c n fr til (K + 1)) (by have:=h28.len;omega) hz0 hfit (fun h=>by rw [← hKN];exact bef_new h)
   have hx28:Few28 ⟨w.bok,w.fcts ++ [petF s c n fr til (K + 1)]⟩ nw:=by
    refine ⟨⟨h28.wf.bok,h28.wf.crs,?_⟩,?_,?_,h28.now⟩
    ·show (w.fcts ++ [_]).length≤9223372036854775807
     rw [len_snoc]
     have:=h28.len
     omega
    ·show (w.fcts ++ [_]).length≤50
     rw [len_snoc]
     omega
    ·intro f hf
     rcases List.mem_append.1 hf with hf | hf
     ·exact h28.val f hf
     ·rw [List.mem_singleton] at hf
      subst hf
      show n≤_
      unfold fitF at hfit
      simp only [Bool.and_eq_true,bw,decide_eq_true_iff] at hfit
      have:=hfit.2.2.2.1.2
      exact Int.le_trans this (by decide)
   have hlk:=like_pet w (petF s c n fr til (K + 1)) rfl (kn:=K) (show K < K + 1 by omega)
   have hpn:0≤t∧t≤1023→petC ⟨w.bok,w.fcts ++ [petF s c n fr til (K + 1)]⟩ s c t (K + 1)=n:=fun h=>by
    have:=pet_new (w:=w) (s:=s) (c:=c) (n:=n) (fr:=fr) (til:=til) (t:=t) hz2 (by omega) ⟨by omega,by omega⟩ h
    rw [hKN] at this
    exact this
   obtain ⟨X,hX⟩:∃ X:Wor,(⟨w.bok,w.fcts ++ [petF s c n fr til (K + 1)]⟩:Wor)=X:=⟨_,rfl⟩
   have eX:eWor X=[eCrss w.bok.crs,ePrgs w.bok.prg,eSyss w.bok.sys,eFcts (w.fcts ++ [petF s c n fr til (K + 1)])]:=by rw [← hX];rfl
   rw [hX] at hx28 hlk hpn
   clear hX
   cases ha:askedB s c t nw
   ·have hA1:=hx28.admN s c t (K + 1) ha
    have hA2:=h28.admN s c t K ha
    have hA3:=hx28.admN s c t K ha
    rw [eX] at hA1 hA3
    clear hz1 hz2 hf hnw0 h28 hx28 hlk hpn ha eX hz0 hw hnw hKN hfit
    refine Awp.of_vc hT ?_
    (refine gW ?_;intros)
    refine hPF.call ?_
    (refine gW ?_;intros)
    refine hAd.call ?_
    (refine gW ?_;intros)
    refine hA1.call ?_
    (refine gW ?_;intros)
    refine hA2.call ?_
    (refine gW ?_;intros)
    refine hA3.call ?_
    (refine gW ?_;intros)
    exact ⟨rfl,True.intro⟩
   have ht:0≤t∧t≤1023:=by
    have:=(asked_at ha).2.1
    simp only [bw,Bool.and_eq_true,decide_eq_true_iff] at this
    exact this
   have hit:In .i64 (t + 1):=in64.2 (by omega)
   have hA1:=hx28.adm s c t (K + 1) ha
   have hA2:=h28.adm s c t K ha
   have hA3:=hx28.adm s c t K ha
   rw [hlk.adm] at hA3
   have hSm:=same28_ok (admV w s c t K nw) (admV w s c t K nw) rfl (by have:=h28.now;exact Nat.le_trans this (by decide)) (admR_fit h28 s c t K) (namV_fit w s c t K nw)
   have hH:=held_ok X hx28.wf s t (K + 1) hit
   have hpn:=hpn ht
   generalize admV w s c t K nw=dd at hA2 hA3 hSm
   rw [eDec_at] at hA1
   rw [show (admV X s c t (K + 1) nw).answer=ansV X s c t (K + 1) nw from rfl,show (admV X s c t (K + 1) nw).last=ansV X s c t (K + 1) nw from rfl,show (admV X s c t (K + 1) nw).named=namV X s c t (K + 1) nw from rfl] at hA1
   generalize (admV X s c t (K + 1) nw).reads=rr at hA1
   generalize (admV X s c t (K + 1) nw).kind=q1 at hA1
   generalize (admV X s c t (K + 1) nw).student=q2 at hA1
   generalize (admV X s c t (K + 1) nw).object=q3 at hA1
   generalize (admV X s c t (K + 1) nw).term=q4 at hA1
   generalize (admV X s c t (K + 1) nw).known=q5 at hA1
   generalize (admV X s c t (K + 1) nw).now=q6 at hA1
   generalize heldR 6 s t=r1 at hH
   cases hx:crsOf X c t (K + 1) with
   | none =>
     have hW:=hx28.whyN s c t (K + 1) (by rw [hx,ha];rfl)
     have hob:outB X s c t (K + 1)=true:=by unfold outB;rw [hx];simp
     have ea:ansV X s c t (K + 1) nw=0:=by unfold ansV;rw [if_pos hob]
     rw [ea] at hA1
     generalize namV X s c t (K + 1) nw=nn at hA1
     generalize heldL X.fcts 6 s t (K + 1)=hl at hH
     rw [eX] at hA1 hA3 hH hW
     clear hz1 hz2 hf hnw0 h28 hx28 hlk hpn ha hob ea hx eX hz0 hw hnw hKN hfit
     refine Awp.of_vc hT ?_
     (refine gW ?_;intros)
     refine hPF.call ?_
     (refine gW ?_;intros)
     refine hAd.call ?_
     (refine gW ?_;intros)
     refine hA1.call ?_
     (refine gW ?_;intros)
     refine hA2.call ?_
     (refine gW ?_;intros)
     refine hA3.call ?_
     (refine gW ?_;intros)
     refine hSm.call ?_
     (refine gW ?_;intros)
     refine hH.call ?_
     (refine gW ?_;intros)
     refine hW.call ?_
     (refine gW ?_;intros)
     all_goals exact ⟨rfl,True.intro⟩
   | some x =>
     have hW:=hx28.why s c t (K + 1) ha x hx
     by_cases hn:0 < (heldL X.fcts 6 s t (K + 1)).length
     ·have hob:outB X s c t (K + 1)=true:=by
       unfold outB heldN
       cases e:heldL X.fcts 6 s t (K + 1) with
       | nil=>rw [e] at hn;cases hn
       | cons a b=>rfl
      have ea:ansV X s c t (K + 1) nw=0:=by unfold ansV;rw [if_pos hob]
      rw [ea] at hA1
      generalize namV X s c t (K + 1) nw=nn at hA1
      generalize heldL X.fcts 6 s t (K + 1)=hl at hH hn
      generalize whyL X s c t (K + 1) nw=wl at hW
      rw [eX] at hA1 hA3 hH hW
      clear hz1 hz2 hf hnw0 h28 hx28 hlk hpn ha hob ea hx eX hz0 hw hnw hKN hfit
      refine Awp.of_vc hT ?_
      (refine gW ?_;intros)
      refine hPF.call ?_
      (refine gW ?_;intros)
      refine hAd.call ?_
      (refine gW ?_;intros)
      refine hA1.call ?_
      (refine gW ?_;intros)
      refine hA2.call ?_
      (refine gW ?_;intros)
      refine hA3.call ?_
      (refine gW ?_;intros)
      refine hSm.call ?_
      (refine gW ?_;intros)
      refine hH.call ?_
      (refine gW ?_;intros)
      refine hW.call ?_
      (refine gW ?_;intros)
      all_goals exact ⟨rfl,True.intro⟩
     ·have hl0:heldL X.fcts 6 s t (K + 1)=[]:=List.eq_nil_of_length_eq_zero (by omega)
      have hob:¬ outB X s c t (K + 1)=true:=by
       unfold outB heldN
       rw [hl0,hx]
       exact (show ¬ ((false || false)=true) by decide)
      rw [hl0] at hH
      have hwn:=whyL_nil X s c t (K + 1) nw
      by_cases hal:allowV X s c t (K + 1) nw=true
      ·have ea:ansV X s c t (K + 1) nw=1:=by unfold ansV;rw [if_neg hob,if_pos hal]
       have en:namV X s c t (K + 1) nw=[]:=by unfold namV;rw [if_neg hob,if_pos hal]
       rw [ea,en] at hA1
       rw [hwn.2 hal] at hW
       rw [eX] at hA1 hA3 hH hW
       clear hz1 hz2 hf hnw0 h28 hx28 hlk hpn ha hob ea en hx hl0 hn hwn hal eX hz0 hw hnw hKN hfit
       refine Awp.of_vc hT ?_
       (refine gW ?_;intros)
       refine hPF.call ?_
       (refine gW ?_;intros)
       refine hAd.call ?_
       (refine gW ?_;intros)
       refine hA1.call ?_
       (refine gW ?_;intros)
       refine hA2.call ?_
       (refine gW ?_;intros)
       refine hA3.call ?_
       (refine gW ?_;intros)
       refine hSm.call ?_
       (refine gW ?_;intros)
       refine hH.call ?_
       (refine gW ?_;intros)
       refine hW.call ?_
       (refine gW ?_;intros)
       all_goals exact ⟨rfl,True.intro⟩
      ·have hwl:0 < (whyL X s c t (K + 1) nw).length:=List.length_pos_iff.2 fun e=>hal (hwn.1 e)
       have hp:0 < petC X s c t (K + 1):=by rw [hpn];omega
       have ea:ansV X s c t (K + 1) nw=1:=by unfold ansV;rw [if_neg hob,if_neg hal,if_pos hp]
       have en:namV X s c t (K + 1) nw=[n]:=by unfold namV;rw [if_neg hob,if_neg hal,if_pos hp,hpn]
       rw [ea,en] at hA1
       have hI:=sameI28_ok [n] [n] (show (1:Nat)≤9223372036854775807 by decide) (show (1:Nat)≤9223372036854775807 by decide)
       rw [decide_eq_true rfl] at hI
       generalize whyL X s c t (K + 1) nw=wl at hW hwl
       rw [eX] at hA1 hA3 hH hW
       clear hz1 hz2 hf hnw0 h28 hx28 hlk hpn ha hob ea en hx hl0 hn hwn hal hp eX hz0 hw hnw hKN hfit
       refine Awp.of_vc hT ?_
       (refine gW ?_;intros)
       refine hPF.call ?_
       (refine gW ?_;intros)
       refine hAd.call ?_
       (refine gW ?_;intros)
       refine hA1.call ?_
       (refine gW ?_;intros)
       refine hA2.call ?_
       (refine gW ?_;intros)
       refine hA3.call ?_
       (refine gW ?_;intros)
       refine hSm.call ?_
       (refine gW ?_;intros)
       refine hH.call ?_
       (refine gW ?_;intros)
       refine hW.call ?_
       (refine gW ?_;intros)
       refine hI.loan rfl ⟨.d,BecP.rows rfl (Nat.le_refl _) (fun i hi=>by rw [show i=0 from Nat.lt_one_iff.1 hi];rfl),True.intro⟩ ?_
       (refine gW ?_;intros)
       exact ⟨rfl,True.intro⟩
theorem law28PR_ok (w:Wor) (hw:okWor w) (s c n fr til:Int) (_:okRat (fr,til)) (t:Int) (nw:List Int) (hnw0:fitL nw∧∀ x∈nw,In .i64 x):Pure Tryz.prog 7 [.agg (eWor w),.int .i64 s,.int .i64 c,.int .i64 n,.agg [.int .i64 fr,.int .i64 til],.int .i64 t,eInts nw] [.bool true]:=law28P_ok w hw s c n fr til t nw hnw0
end Go.Proofs.YtkjmomadndmeaaaGreatDoor
