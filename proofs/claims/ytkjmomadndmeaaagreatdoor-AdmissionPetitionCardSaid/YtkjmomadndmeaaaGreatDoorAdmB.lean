/-
  Chapter 28: Admit.
-/
import Derived.Test.YtkjmomadndmeaaaGreatDoorPetC
import Derived.Test.YtkjmomadndmeaaaGreatDoorHolB
import Derived.Test.YtkjmomadndmeaaaGreatDoorEngAS
namespace Go.Proofs.YtkjmomadndmeaaaGreatDoor
set_option linter.unusedSimpArgs false
set_option linter.unusedVariables false
open Go Go.Ab
set_option maxRecDepth 100000
set_option maxHeartbeats 0
def zDec:List D:=[.int .i64 0,.int .i64 0,.int .i64 0,.int .i64 0,.int .i64 0,.int .i64 0,.int .i64 0,.nils,.nils,.nils]
theorem admit_bad (w:Wor) (s c t kn:Int) (nw:List Int) (hl:nw.length≤1000000) (h:askedB s c t nw=false) :
 Pure Tryz.prog 11 [.agg (eWor w),.int .i64 s,.int .i64 c,.int .i64 t,.int .i64 kn,eInts nw] [.agg zDec,.int .i64 280]:=by
 have hA:=asked_ok s c t nw hl
 rw [h] at hA
 refine pure_ruleC hT (T:=tab) (N:=116) (rs:=[.cell 12 37,.cell 13 38]) Tryz.func11 rfl rfl rfl (by kernel_rfl) rfl ?_
 (refine gW ?_;intros)
 refine hA.call ?_
 (refine gW ?_;intros)
 exact ⟨BecP.d,BecP.d,True.intro⟩
theorem look35_ok (g:Nat) (rs xs:List Red) (hl:rs.length≤1000000) (hx:xs.length≤1000000) :
 CallVC Tryz.prog 35 [.d (eReds xs),.ptr (.arg 0) 0 0 0] ⟨[],[some (.box 35 [.osl (.arg 1) g 0 rs.length]),some (.vec 107 5 g rs.length (rowsOf eRed rs))]⟩
  (Ret (fun _:Unit=>([],⟨[],[some (.box 35 [.osl (.arg 1) (g + 1) 0 (rs ++ xs).length]),some (.vec 107 5 (g + 1) (rs ++ xs).length (rowsOf eRed (rs ++ xs)))]⟩)) fun _=>True):=by
 refine call_rule hT (T:=tab) (N:=6) (rs:=[]) _ _ Tryz.func35 rfl rfl rfl (by kernel_rfl) rfl ?_
 (refine gW ?_;intros)
 refine ⟨(),True.intro,?_,rfl⟩
 repeat' (first | exact True.intro | exact rfl | exact Nat.le_refl _ | refine And.intro ?_ ?_)
 all_goals first
  | (intro j hj
     refine ⟨?_,rfl⟩
     exact rowsOf_catD eRed rs xs rfl j)
  | (rw [List.length_append]
     rfl)
  | (rw [List.length_append]
     exact Nat.le_refl _)
theorem crs_some {w:Wor} (hw:WfW w) {c t kn:Int} {x:Crs} (h:crsOf w c t kn=some x):wfR x.need∧wfR x.bar∧chkR x.need=0∧chkR x.bar=0:=by
 obtain ⟨hm,hv⟩:=lookO_mem2 h
 have hf:=hw.bok.1.2 x hm
 simp only [okCrs,vCrs,okR,Bool.and_eq_true,decide_eq_true_iff] at hv
 exact ⟨hf.1,hf.2,hv.2.2.2.2.1,hv.2.2.2.2.2⟩
theorem admit_ok (w:Wor) (hw:WfW w) (hl:w.fcts.length≤50) (s c t kn:Int) (nw:List Int) (hnl:nw.length≤1000000) (h:askedB s c t nw=true)
 (hS:Pure Tryz.prog 20 [.agg (eWor w),.int .i64 s,.int .i64 t,.int .i64 kn,eInts nw] [.agg (eSit (sitV w s t kn nw)),eReds (sitR w s t kn),.int .i64 0]) (hR:(sitR w s t kn).length≤500000) :
 Pure Tryz.prog 11 [.agg (eWor w),.int .i64 s,.int .i64 c,.int .i64 t,.int .i64 kn,eInts nw] [.agg (eDec (admV w s c t kn nw)),.int .i64 0]:=by
 have hA:=asked_ok s c t nw hnl
 rw [h] at hA
 have ht:0≤t∧t≤1023:=by
  simp only [askedB,bw,Bool.and_eq_true,decide_eq_true_iff] at h
  exact h.2.2.2
 have hit:In .i64 (t + 1):=in64.2 (by omega)
 have hH:=held_ok w hw s t kn hit
 have hC:=bcourse_ok w hw c t kn
 have hP:=active_ok w hw 7 s c t kn hit
 have hp0:=petV_nn w.fcts ⟨7,s,c⟩ t kn
 have hx1:(heldR 6 s t).length=8:=by simp [heldR]
 have hx2:(readsT ⟨1,c,0⟩ t).length≤1:=readsT_len _ _
 have hD:eDec (admV w s c t kn nw)=[.int .i64 1,.int .i64 s,.int .i64 c,.int .i64 t,.int .i64 (ansV w s c t kn nw),.int .i64 (ansV w s c t kn nw),.int .i64 kn,eInts nw,eReds (heldR 6 s t ++ readsT ⟨1,c,0⟩ t ++ sitR w s t kn ++ [rdK ⟨7,s,c⟩ t]),eInts (namV w s c t kn nw)]:=rfl
 rw [hD]
 have hWS:=sitV_wf (w:=w) (by omega) s t kn nw
 have hcs:=@crs_some w hw c t kn
 unfold ansV namV outB heldN allowV petC crsD
 clear hD h
 generalize sitV w s t kn nw=st at hS hWS ⊢
 generalize sitR w s t kn=r3 at hS hR ⊢
 generalize readsT ⟨1,c,0⟩ t=r2 at hC hx2 ⊢
 generalize heldR 6 s t=r1 at hH hx1 ⊢
 generalize heldL w.fcts 6 s t kn=hs at hH ⊢
 generalize crsOf w c t kn=oc at hC hcs ⊢
 generalize petV w.fcts ⟨7,s,c⟩ t kn=pv at hP hp0 ⊢
 have hL1:=look35_ok 0 [] r1 (Nat.zero_le _) (by omega)
 have hL2:=look35_ok 1 r1 r2 (by omega) (by omega)
 have hL3:=look35_ok 2 (r1 ++ r2) r3 (by rw [List.length_append];omega) (by omega)
 have hL4:=look35_ok 3 (r1 ++ r2 ++ r3) [rdK ⟨7,s,c⟩ t] (by rw [List.length_append,List.length_append];omega) (by simp)
 rw [List.nil_append] at hL1
 by_cases hn:0 < hs.length
 ·have he:hs.isEmpty=false:=by
   cases hs with
   | nil=>cases hn
   | cons=>rfl
  rw [he,show (!false || !oc.isSome)=true from rfl,if_pos rfl,if_pos rfl]
  obtain ⟨isb,hisb⟩:∃ b,oc.isSome=b:=⟨_,rfl⟩
  rw [hisb] at hC
  generalize oc.getD default=oo at hC
  clear hcs hWS hp0 hisb
  refine pureE_rule hT (f:=11) (N:=116) (rs:=[.cell 12 37,.cell 13 38]) (pre:=[_,_,_,_]) Tryz.func11 rfl rfl rfl (by kernel_rfl) rfl
   (G:=36) (r:=32) (caps:=[.tmp 13,.tmp 7,.tmp 8,.tmp 9,.tmp 12,.tmp 10,.tmp 11,.tmp 14]) rfl rfl rfl rfl rfl rfl rfl rfl rfl Tryz.func36 rfl rfl (by kernel_rfl) rfl rfl ?_
  (refine gW ?_;intros)
  refine hA.call ?_
  (refine gW ?_;intros)
  refine ⟨[0,1,2,3,4,5,6,7,8],[(29,eWor w),(3,[.int .i64 s]),(3,[.int .i64 c]),(3,[.int .i64 t]),(3,[.int .i64 kn]),(30,[eInts nw]),(37,zDec),(38,[.int .i64 0]),(35,[.nils])],
   [(6,.ptr (.arg 0) 0 0 0),(7,.ptr (.arg 1) 0 0 0),(8,.ptr (.arg 2) 0 0 0),(9,.ptr (.arg 3) 0 0 0),(10,.ptr (.arg 4) 0 0 0),(11,.ptr (.arg 5) 0 0 0),(12,.ptr (.arg 6) 0 0 0),(13,.ptr (.arg 7) 0 0 0),(14,.ptr (.arg 8) 0 0 0),(15,.fn (.func 35) [] [.ptr (.arg 8) 0 0 0])],
   [.ptr (.arg 7) 0 0 0,.ptr (.arg 1) 0 0 0,.ptr (.arg 2) 0 0 0,.ptr (.arg 3) 0 0 0,.ptr (.arg 6) 0 0 0,.ptr (.arg 4) 0 0 0,.ptr (.arg 5) 0 0 0,.ptr (.arg 8) 0 0 0],by decide,⟨rfl,rfl,rfl,rfl,rfl,rfl,rfl,rfl,rfl,True.intro⟩,⟨rfl,rfl,rfl,rfl,rfl,rfl,rfl,rfl,rfl,rfl,True.intro⟩,⟨rfl,rfl,rfl,rfl,rfl,rfl,rfl,rfl,True.intro⟩,rfl,?_⟩
  (refine gS ?_;intros)
  refine hH.call ?_
  (refine gS ?_;intros)
  refine Sq.alt (Awp.vecBox (.arg 8) 35 107 5 (rowsOf eRed []) rfl (vc_ok hT _ _ _ _ (Ev.o ?_)))
  (refine gS ?_;intros)
  refine ⟨⟨35,[],[.ptr (.arg 8) 0 0 0],.inl rfl,hL1.at [.arg 8,.loc 0] rfl ⟨rfl,rfl,True.intro⟩ (fun _ _=>⟨rfl,?_⟩)⟩⟩
  (refine gS ?_;intros)
  refine Sq.alt (Awp.le (env':=[(6,.ptr (.arg 0) 0 0 0),(7,.ptr (.arg 1) 0 0 0),(8,.ptr (.arg 2) 0 0 0),(9,.ptr (.arg 3) 0 0 0),(10,.ptr (.arg 4) 0 0 0),(11,.ptr (.arg 5) 0 0 0),(12,.ptr (.arg 6) 0 0 0),(13,.ptr (.arg 7) 0 0 0),(14,.ptr (.arg 8) 0 0 0),(15,.fn (.func 35) [] [.ptr (.arg 8) 0 0 0]),(16,.d (eInts hs))])
   (m':=⟨[some (.vec 107 5 1 (r1).length (rowsOf eRed (r1)))],[some (.box 29 (up (eWor w))),some (.box 3 [.d (.int .i64 s)]),some (.box 3 [.d (.int .i64 c)]),some (.box 3 [.d (.int .i64 t)]),some (.box 3 [.d (.int .i64 kn)]),some (.box 30 [.d (eInts nw)]),some (.box 37 (up zDec)),some (.box 38 [.d (.int .i64 0)]),some (.box 35 [.osl (.loc 0) 1 0 (r1).length])]⟩) ?_ (vc_ok hT _ _ _ _ (Ev.o ?_)))
  ·repeat' (first | exact True.intro | exact rfl | exact Nat.le_refl _ | refine And.intro ?_ ?_)
   all_goals first
    | (intro i hi;exact ⟨rfl,rfl⟩)
  (refine gW ?_;intros)
  refine hC.call ?_
  (refine gW ?_;intros)
  refine ⟨⟨35,[],[.ptr (.arg 8) 0 0 0],.inl rfl,hL2.at [.arg 8,.loc 0] rfl ⟨rfl,rfl,True.intro⟩ (fun _ _=>⟨rfl,?_⟩)⟩⟩
  (refine gS ?_;intros)
  refine Sq.alt (Awp.le (env':=[(6,.ptr (.arg 0) 0 0 0),(7,.ptr (.arg 1) 0 0 0),(8,.ptr (.arg 2) 0 0 0),(9,.ptr (.arg 3) 0 0 0),(10,.ptr (.arg 4) 0 0 0),(11,.ptr (.arg 5) 0 0 0),(12,.ptr (.arg 6) 0 0 0),(13,.ptr (.arg 7) 0 0 0),(14,.ptr (.arg 8) 0 0 0),(15,.fn (.func 35) [] [.ptr (.arg 8) 0 0 0]),(16,.d (eInts hs)),(18,.ptr (.loc 1) 0 0 0),(19,.d (.bool isb))])
   (m':=⟨[some (.vec 107 5 2 (r1 ++ r2).length (rowsOf eRed (r1 ++ r2))),some (.box 54 (up (eCrs oo)))],[some (.box 29 (up (eWor w))),some (.box 3 [.d (.int .i64 s)]),some (.box 3 [.d (.int .i64 c)]),some (.box 3 [.d (.int .i64 t)]),some (.box 3 [.d (.int .i64 kn)]),some (.box 30 [.d (eInts nw)]),some (.box 37 (up zDec)),some (.box 38 [.d (.int .i64 0)]),some (.box 35 [.osl (.loc 0) 2 0 (r1 ++ r2).length])]⟩) ?_ (vc_ok hT _ _ _ _ (Ev.o ?_)))
  ·repeat' (first | exact True.intro | exact rfl | exact Nat.le_refl _ | refine And.intro ?_ ?_)
   all_goals first
    | (intro i hi;exact ⟨rfl,rfl⟩)
  (refine gW ?_;intros)
  refine hS.call ?_
  (refine gW ?_;intros)
  refine ⟨⟨35,[],[.ptr (.arg 8) 0 0 0],.inl rfl,hL3.at [.arg 8,.loc 0] rfl ⟨rfl,rfl,True.intro⟩ (fun _ _=>⟨rfl,?_⟩)⟩⟩
  (refine gS ?_;intros)
  refine Sq.alt (Awp.le (env':=[(6,.ptr (.arg 0) 0 0 0),(7,.ptr (.arg 1) 0 0 0),(8,.ptr (.arg 2) 0 0 0),(9,.ptr (.arg 3) 0 0 0),(10,.ptr (.arg 4) 0 0 0),(11,.ptr (.arg 5) 0 0 0),(12,.ptr (.arg 6) 0 0 0),(13,.ptr (.arg 7) 0 0 0),(14,.ptr (.arg 8) 0 0 0),(15,.fn (.func 35) [] [.ptr (.arg 8) 0 0 0]),(16,.d (eInts hs)),(18,.ptr (.loc 1) 0 0 0),(19,.d (.bool isb)),(20,.ptr (.loc 2) 0 0 0)])
   (m':=⟨[some (.vec 107 5 3 (r1 ++ r2 ++ r3).length (rowsOf eRed (r1 ++ r2 ++ r3))),some (.box 54 (up (eCrs oo))),some (.box 61 (up (eSit st)))],[some (.box 29 (up (eWor w))),some (.box 3 [.d (.int .i64 s)]),some (.box 3 [.d (.int .i64 c)]),some (.box 3 [.d (.int .i64 t)]),some (.box 3 [.d (.int .i64 kn)]),some (.box 30 [.d (eInts nw)]),some (.box 37 (up zDec)),some (.box 38 [.d (.int .i64 0)]),some (.box 35 [.osl (.loc 0) 3 0 (r1 ++ r2 ++ r3).length])]⟩) ?_ (vc_ok hT _ _ _ _ (Ev.o ?_)))
  ·repeat' (first | exact True.intro | exact rfl | exact Nat.le_refl _ | refine And.intro ?_ ?_)
   all_goals first
    | (intro i hi;exact ⟨rfl,rfl⟩)
  (refine gW ?_;intros)
  refine hP.call ?_
  (refine gW ?_;intros)
  refine ⟨⟨35,[],[.ptr (.arg 8) 0 0 0],.inl rfl,hL4.at [.arg 8,.loc 0] rfl ⟨rfl,rfl,True.intro⟩ (fun _ _=>⟨rfl,?_⟩)⟩⟩
  (refine gS ?_;intros)
  refine Sq.alt (Awp.le (env':=[(6,.ptr (.arg 0) 0 0 0),(7,.ptr (.arg 1) 0 0 0),(8,.ptr (.arg 2) 0 0 0),(9,.ptr (.arg 3) 0 0 0),(10,.ptr (.arg 4) 0 0 0),(11,.ptr (.arg 5) 0 0 0),(12,.ptr (.arg 6) 0 0 0),(13,.ptr (.arg 7) 0 0 0),(14,.ptr (.arg 8) 0 0 0),(15,.fn (.func 35) [] [.ptr (.arg 8) 0 0 0]),(16,.d (eInts hs)),(18,.ptr (.loc 1) 0 0 0),(19,.d (.bool isb)),(20,.ptr (.loc 2) 0 0 0),(21,.d (.int .i64 pv)),(22,.d (.bool (decide (0 < pv))))])
   (m':=⟨[some (.vec 107 5 4 (r1 ++ r2 ++ r3 ++ [rdK ⟨7,s,c⟩ t]).length (rowsOf eRed (r1 ++ r2 ++ r3 ++ [rdK ⟨7,s,c⟩ t]))),some (.box 54 (up (eCrs oo))),some (.box 61 (up (eSit st)))],[some (.box 29 (up (eWor w))),some (.box 3 [.d (.int .i64 s)]),some (.box 3 [.d (.int .i64 c)]),some (.box 3 [.d (.int .i64 t)]),some (.box 3 [.d (.int .i64 kn)]),some (.box 30 [.d (eInts nw)]),some (.box 37 (up zDec)),some (.box 38 [.d (.int .i64 0)]),some (.box 35 [.osl (.loc 0) 4 0 (r1 ++ r2 ++ r3 ++ [rdK ⟨7,s,c⟩ t]).length])]⟩) ?_ (vc_ok hT _ _ _ _ (Ev.o ?_)))
  ·repeat' (first | exact True.intro | exact rfl | exact Nat.le_refl _ | refine And.intro ?_ ?_)
   all_goals first
    | (intro i hi;exact ⟨rfl,rfl⟩)
  (refine gW ?_;intros)
  refine ⟨rfl,?_⟩
  (refine gW ?_;intros)
  exact ⟨BecP.agg' ⟨.d,.d,.d,.d,.d,.d,.d,.d,.rows rfl (Nat.le_of_eq (Nat.zero_add _)) (fun i hi=>by rw [Nat.zero_add];rfl),.eq rfl,True.intro⟩,.d,True.intro⟩
 ·have hn0:hs=[]:=List.eq_nil_of_length_eq_zero (by omega)
  subst hn0
  rw [show (!([]:List Int).isEmpty || !oc.isSome)=!oc.isSome from rfl]
  cases oc with
  | none =>
    rw [show (none:Option Crs).isSome=false from rfl] at hC ⊢
    rw [show (!false)=true from rfl,if_pos rfl,if_pos rfl]
    generalize (none:Option Crs).getD default=oo at hC
    clear hcs hWS hp0
    refine pureE_rule hT (f:=11) (N:=116) (rs:=[.cell 12 37,.cell 13 38]) (pre:=[_,_,_,_]) Tryz.func11 rfl rfl rfl (by kernel_rfl) rfl
     (G:=36) (r:=32) (caps:=[.tmp 13,.tmp 7,.tmp 8,.tmp 9,.tmp 12,.tmp 10,.tmp 11,.tmp 14]) rfl rfl rfl rfl rfl rfl rfl rfl rfl Tryz.func36 rfl rfl (by kernel_rfl) rfl rfl ?_
    (refine gW ?_;intros)
    refine hA.call ?_
    (refine gW ?_;intros)
    refine ⟨[0,1,2,3,4,5,6,7,8],[(29,eWor w),(3,[.int .i64 s]),(3,[.int .i64 c]),(3,[.int .i64 t]),(3,[.int .i64 kn]),(30,[eInts nw]),(37,zDec),(38,[.int .i64 0]),(35,[.nils])],
     [(6,.ptr (.arg 0) 0 0 0),(7,.ptr (.arg 1) 0 0 0),(8,.ptr (.arg 2) 0 0 0),(9,.ptr (.arg 3) 0 0 0),(10,.ptr (.arg 4) 0 0 0),(11,.ptr (.arg 5) 0 0 0),(12,.ptr (.arg 6) 0 0 0),(13,.ptr (.arg 7) 0 0 0),(14,.ptr (.arg 8) 0 0 0),(15,.fn (.func 35) [] [.ptr (.arg 8) 0 0 0])],
     [.ptr (.arg 7) 0 0 0,.ptr (.arg 1) 0 0 0,.ptr (.arg 2) 0 0 0,.ptr (.arg 3) 0 0 0,.ptr (.arg 6) 0 0 0,.ptr (.arg 4) 0 0 0,.ptr (.arg 5) 0 0 0,.ptr (.arg 8) 0 0 0],by decide,⟨rfl,rfl,rfl,rfl,rfl,rfl,rfl,rfl,rfl,True.intro⟩,⟨rfl,rfl,rfl,rfl,rfl,rfl,rfl,rfl,rfl,rfl,True.intro⟩,⟨rfl,rfl,rfl,rfl,rfl,rfl,rfl,rfl,True.intro⟩,rfl,?_⟩
    (refine gS ?_;intros)
    refine hH.call ?_
    (refine gS ?_;intros)
    refine Sq.alt (Awp.vecBox (.arg 8) 35 107 5 (rowsOf eRed []) rfl (vc_ok hT _ _ _ _ (Ev.o ?_)))
    (refine gS ?_;intros)
    refine ⟨⟨35,[],[.ptr (.arg 8) 0 0 0],.inl rfl,hL1.at [.arg 8,.loc 0] rfl ⟨rfl,rfl,True.intro⟩ (fun _ _=>⟨rfl,?_⟩)⟩⟩
    (refine gS ?_;intros)
    refine Sq.alt (Awp.le (env':=[(6,.ptr (.arg 0) 0 0 0),(7,.ptr (.arg 1) 0 0 0),(8,.ptr (.arg 2) 0 0 0),(9,.ptr (.arg 3) 0 0 0),(10,.ptr (.arg 4) 0 0 0),(11,.ptr (.arg 5) 0 0 0),(12,.ptr (.arg 6) 0 0 0),(13,.ptr (.arg 7) 0 0 0),(14,.ptr (.arg 8) 0 0 0),(15,.fn (.func 35) [] [.ptr (.arg 8) 0 0 0]),(16,.d (eInts ([]:List Int)))])
     (m':=⟨[some (.vec 107 5 1 (r1).length (rowsOf eRed (r1)))],[some (.box 29 (up (eWor w))),some (.box 3 [.d (.int .i64 s)]),some (.box 3 [.d (.int .i64 c)]),some (.box 3 [.d (.int .i64 t)]),some (.box 3 [.d (.int .i64 kn)]),some (.box 30 [.d (eInts nw)]),some (.box 37 (up zDec)),some (.box 38 [.d (.int .i64 0)]),some (.box 35 [.osl (.loc 0) 1 0 (r1).length])]⟩) ?_ (vc_ok hT _ _ _ _ (Ev.o ?_)))
    ·repeat' (first | exact True.intro | exact rfl | exact Nat.le_refl _ | refine And.intro ?_ ?_)
     all_goals first
      | (intro i hi;exact ⟨rfl,rfl⟩)
    (refine gW ?_;intros)
    refine hC.call ?_
    (refine gW ?_;intros)
    refine ⟨⟨35,[],[.ptr (.arg 8) 0 0 0],.inl rfl,hL2.at [.arg 8,.loc 0] rfl ⟨rfl,rfl,True.intro⟩ (fun _ _=>⟨rfl,?_⟩)⟩⟩
    (refine gS ?_;intros)
    refine Sq.alt (Awp.le (env':=[(6,.ptr (.arg 0) 0 0 0),(7,.ptr (.arg 1) 0 0 0),(8,.ptr (.arg 2) 0 0 0),(9,.ptr (.arg 3) 0 0 0),(10,.ptr (.arg 4) 0 0 0),(11,.ptr (.arg 5) 0 0 0),(12,.ptr (.arg 6) 0 0 0),(13,.ptr (.arg 7) 0 0 0),(14,.ptr (.arg 8) 0 0 0),(15,.fn (.func 35) [] [.ptr (.arg 8) 0 0 0]),(16,.d (eInts ([]:List Int))),(18,.ptr (.loc 1) 0 0 0),(19,.d (.bool false))])
     (m':=⟨[some (.vec 107 5 2 (r1 ++ r2).length (rowsOf eRed (r1 ++ r2))),some (.box 54 (up (eCrs oo)))],[some (.box 29 (up (eWor w))),some (.box 3 [.d (.int .i64 s)]),some (.box 3 [.d (.int .i64 c)]),some (.box 3 [.d (.int .i64 t)]),some (.box 3 [.d (.int .i64 kn)]),some (.box 30 [.d (eInts nw)]),some (.box 37 (up zDec)),some (.box 38 [.d (.int .i64 0)]),some (.box 35 [.osl (.loc 0) 2 0 (r1 ++ r2).length])]⟩) ?_ (vc_ok hT _ _ _ _ (Ev.o ?_)))
    ·repeat' (first | exact True.intro | exact rfl | exact Nat.le_refl _ | refine And.intro ?_ ?_)
     all_goals first
      | (intro i hi;exact ⟨rfl,rfl⟩)
    (refine gW ?_;intros)
    refine hS.call ?_
    (refine gW ?_;intros)
    refine ⟨⟨35,[],[.ptr (.arg 8) 0 0 0],.inl rfl,hL3.at [.arg 8,.loc 0] rfl ⟨rfl,rfl,True.intro⟩ (fun _ _=>⟨rfl,?_⟩)⟩⟩
    (refine gS ?_;intros)
    refine Sq.alt (Awp.le (env':=[(6,.ptr (.arg 0) 0 0 0),(7,.ptr (.arg 1) 0 0 0),(8,.ptr (.arg 2) 0 0 0),(9,.ptr (.arg 3) 0 0 0),(10,.ptr (.arg 4) 0 0 0),(11,.ptr (.arg 5) 0 0 0),(12,.ptr (.arg 6) 0 0 0),(13,.ptr (.arg 7) 0 0 0),(14,.ptr (.arg 8) 0 0 0),(15,.fn (.func 35) [] [.ptr (.arg 8) 0 0 0]),(16,.d (eInts ([]:List Int))),(18,.ptr (.loc 1) 0 0 0),(19,.d (.bool false)),(20,.ptr (.loc 2) 0 0 0)])
     (m':=⟨[some (.vec 107 5 3 (r1 ++ r2 ++ r3).length (rowsOf eRed (r1 ++ r2 ++ r3))),some (.box 54 (up (eCrs oo))),some (.box 61 (up (eSit st)))],[some (.box 29 (up (eWor w))),some (.box 3 [.d (.int .i64 s)]),some (.box 3 [.d (.int .i64 c)]),some (.box 3 [.d (.int .i64 t)]),some (.box 3 [.d (.int .i64 kn)]),some (.box 30 [.d (eInts nw)]),some (.box 37 (up zDec)),some (.box 38 [.d (.int .i64 0)]),some (.box 35 [.osl (.loc 0) 3 0 (r1 ++ r2 ++ r3).length])]⟩) ?_ (vc_ok hT _ _ _ _ (Ev.o ?_)))
    ·repeat' (first | exact True.intro | exact rfl | exact Nat.le_refl _ | refine And.intro ?_ ?_)
     all_goals first
      | (intro i hi;exact ⟨rfl,rfl⟩)
    (refine gW ?_;intros)
    refine hP.call ?_
    (refine gW ?_;intros)
    refine ⟨⟨35,[],[.ptr (.arg 8) 0 0 0],.inl rfl,hL4.at [.arg 8,.loc 0] rfl ⟨rfl,rfl,True.intro⟩ (fun _ _=>⟨rfl,?_⟩)⟩⟩
    (refine gS ?_;intros)
    refine Sq.alt (Awp.le (env':=[(6,.ptr (.arg 0) 0 0 0),(7,.ptr (.arg 1) 0 0 0),(8,.ptr (.arg 2) 0 0 0),(9,.ptr (.arg 3) 0 0 0),(10,.ptr (.arg 4) 0 0 0),(11,.ptr (.arg 5) 0 0 0),(12,.ptr (.arg 6) 0 0 0),(13,.ptr (.arg 7) 0 0 0),(14,.ptr (.arg 8) 0 0 0),(15,.fn (.func 35) [] [.ptr (.arg 8) 0 0 0]),(16,.d (eInts ([]:List Int))),(18,.ptr (.loc 1) 0 0 0),(19,.d (.bool false)),(20,.ptr (.loc 2) 0 0 0),(21,.d (.int .i64 pv)),(22,.d (.bool (decide (0 < pv))))])
     (m':=⟨[some (.vec 107 5 4 (r1 ++ r2 ++ r3 ++ [rdK ⟨7,s,c⟩ t]).length (rowsOf eRed (r1 ++ r2 ++ r3 ++ [rdK ⟨7,s,c⟩ t]))),some (.box 54 (up (eCrs oo))),some (.box 61 (up (eSit st)))],[some (.box 29 (up (eWor w))),some (.box 3 [.d (.int .i64 s)]),some (.box 3 [.d (.int .i64 c)]),some (.box 3 [.d (.int .i64 t)]),some (.box 3 [.d (.int .i64 kn)]),some (.box 30 [.d (eInts nw)]),some (.box 37 (up zDec)),some (.box 38 [.d (.int .i64 0)]),some (.box 35 [.osl (.loc 0) 4 0 (r1 ++ r2 ++ r3 ++ [rdK ⟨7,s,c⟩ t]).length])]⟩) ?_ (vc_ok hT _ _ _ _ (Ev.o ?_)))
    ·repeat' (first | exact True.intro | exact rfl | exact Nat.le_refl _ | refine And.intro ?_ ?_)
     all_goals first
      | (intro i hi;exact ⟨rfl,rfl⟩)
    (refine gW ?_;intros)
    refine ⟨rfl,?_⟩
    (refine gW ?_;intros)
    exact ⟨BecP.agg' ⟨.d,.d,.d,.d,.d,.d,.d,.d,.rows rfl (Nat.le_of_eq (Nat.zero_add _)) (fun i hi=>by rw [Nat.zero_add];rfl),.eq rfl,True.intro⟩,.d,True.intro⟩
  | some x =>
    obtain ⟨w1,w2,c1,c2⟩:=hcs rfl
    have hN:=holds28_ok x.need w1 c1 st hWS
    have hB:=holds28_ok x.bar w2 c2 st hWS
    rw [show (some x).isSome=true from rfl] at hC ⊢
    rw [show (some x).getD default=x from rfl] at hC ⊢
    rw [show (!true)=false from rfl,if_neg (show ¬ (false=true) by decide),if_neg (show ¬ (false=true) by decide)]
    clear hcs hWS
    cases ha:valR st x.need
    ·rw [ha] at hN
     have hq:¬ ((false && !valR st x.bar)=true):=by simp
     rw [if_neg hq,if_neg hq]
     by_cases hp:0 < pv
     ·rw [if_pos hp,if_pos hp]
      have hM:=named_ok true pv
      rw [if_pos rfl] at hM
      refine pureE_rule hT (f:=11) (N:=116) (rs:=[.cell 12 37,.cell 13 38]) (pre:=[_,_,_,_]) Tryz.func11 rfl rfl rfl (by kernel_rfl) rfl
       (G:=36) (r:=32) (caps:=[.tmp 13,.tmp 7,.tmp 8,.tmp 9,.tmp 12,.tmp 10,.tmp 11,.tmp 14]) rfl rfl rfl rfl rfl rfl rfl rfl rfl Tryz.func36 rfl rfl (by kernel_rfl) rfl rfl ?_
      (refine gW ?_;intros)
      refine hA.call ?_
      (refine gW ?_;intros)
      refine ⟨[0,1,2,3,4,5,6,7,8],[(29,eWor w),(3,[.int .i64 s]),(3,[.int .i64 c]),(3,[.int .i64 t]),(3,[.int .i64 kn]),(30,[eInts nw]),(37,zDec),(38,[.int .i64 0]),(35,[.nils])],
       [(6,.ptr (.arg 0) 0 0 0),(7,.ptr (.arg 1) 0 0 0),(8,.ptr (.arg 2) 0 0 0),(9,.ptr (.arg 3) 0 0 0),(10,.ptr (.arg 4) 0 0 0),(11,.ptr (.arg 5) 0 0 0),(12,.ptr (.arg 6) 0 0 0),(13,.ptr (.arg 7) 0 0 0),(14,.ptr (.arg 8) 0 0 0),(15,.fn (.func 35) [] [.ptr (.arg 8) 0 0 0])],
       [.ptr (.arg 7) 0 0 0,.ptr (.arg 1) 0 0 0,.ptr (.arg 2) 0 0 0,.ptr (.arg 3) 0 0 0,.ptr (.arg 6) 0 0 0,.ptr (.arg 4) 0 0 0,.ptr (.arg 5) 0 0 0,.ptr (.arg 8) 0 0 0],by decide,⟨rfl,rfl,rfl,rfl,rfl,rfl,rfl,rfl,rfl,True.intro⟩,⟨rfl,rfl,rfl,rfl,rfl,rfl,rfl,rfl,rfl,rfl,True.intro⟩,⟨rfl,rfl,rfl,rfl,rfl,rfl,rfl,rfl,True.intro⟩,rfl,?_⟩
      (refine gS ?_;intros)
      refine hH.call ?_
      (refine gS ?_;intros)
      refine Sq.alt (Awp.vecBox (.arg 8) 35 107 5 (rowsOf eRed []) rfl (vc_ok hT _ _ _ _ (Ev.o ?_)))
      (refine gS ?_;intros)
      refine ⟨⟨35,[],[.ptr (.arg 8) 0 0 0],.inl rfl,hL1.at [.arg 8,.loc 0] rfl ⟨rfl,rfl,True.intro⟩ (fun _ _=>⟨rfl,?_⟩)⟩⟩
      (refine gS ?_;intros)
      refine Sq.alt (Awp.le (env':=[(6,.ptr (.arg 0) 0 0 0),(7,.ptr (.arg 1) 0 0 0),(8,.ptr (.arg 2) 0 0 0),(9,.ptr (.arg 3) 0 0 0),(10,.ptr (.arg 4) 0 0 0),(11,.ptr (.arg 5) 0 0 0),(12,.ptr (.arg 6) 0 0 0),(13,.ptr (.arg 7) 0 0 0),(14,.ptr (.arg 8) 0 0 0),(15,.fn (.func 35) [] [.ptr (.arg 8) 0 0 0]),(16,.d (eInts ([]:List Int)))])
       (m':=⟨[some (.vec 107 5 1 (r1).length (rowsOf eRed (r1)))],[some (.box 29 (up (eWor w))),some (.box 3 [.d (.int .i64 s)]),some (.box 3 [.d (.int .i64 c)]),some (.box 3 [.d (.int .i64 t)]),some (.box 3 [.d (.int .i64 kn)]),some (.box 30 [.d (eInts nw)]),some (.box 37 (up zDec)),some (.box 38 [.d (.int .i64 0)]),some (.box 35 [.osl (.loc 0) 1 0 (r1).length])]⟩) ?_ (vc_ok hT _ _ _ _ (Ev.o ?_)))
      ·repeat' (first | exact True.intro | exact rfl | exact Nat.le_refl _ | refine And.intro ?_ ?_)
       all_goals first
        | (intro i hi;exact ⟨rfl,rfl⟩)
      (refine gW ?_;intros)
      refine hC.call ?_
      (refine gW ?_;intros)
      refine ⟨⟨35,[],[.ptr (.arg 8) 0 0 0],.inl rfl,hL2.at [.arg 8,.loc 0] rfl ⟨rfl,rfl,True.intro⟩ (fun _ _=>⟨rfl,?_⟩)⟩⟩
      (refine gS ?_;intros)
      refine Sq.alt (Awp.le (env':=[(6,.ptr (.arg 0) 0 0 0),(7,.ptr (.arg 1) 0 0 0),(8,.ptr (.arg 2) 0 0 0),(9,.ptr (.arg 3) 0 0 0),(10,.ptr (.arg 4) 0 0 0),(11,.ptr (.arg 5) 0 0 0),(12,.ptr (.arg 6) 0 0 0),(13,.ptr (.arg 7) 0 0 0),(14,.ptr (.arg 8) 0 0 0),(15,.fn (.func 35) [] [.ptr (.arg 8) 0 0 0]),(16,.d (eInts ([]:List Int))),(18,.ptr (.loc 1) 0 0 0),(19,.d (.bool true))])
       (m':=⟨[some (.vec 107 5 2 (r1 ++ r2).length (rowsOf eRed (r1 ++ r2))),some (.box 54 (up (eCrs x)))],[some (.box 29 (up (eWor w))),some (.box 3 [.d (.int .i64 s)]),some (.box 3 [.d (.int .i64 c)]),some (.box 3 [.d (.int .i64 t)]),some (.box 3 [.d (.int .i64 kn)]),some (.box 30 [.d (eInts nw)]),some (.box 37 (up zDec)),some (.box 38 [.d (.int .i64 0)]),some (.box 35 [.osl (.loc 0) 2 0 (r1 ++ r2).length])]⟩) ?_ (vc_ok hT _ _ _ _ (Ev.o ?_)))
      ·repeat' (first | exact True.intro | exact rfl | exact Nat.le_refl _ | refine And.intro ?_ ?_)
       all_goals first
        | (intro i hi;exact ⟨rfl,rfl⟩)
      (refine gW ?_;intros)
      refine hS.call ?_
      (refine gW ?_;intros)
      refine ⟨⟨35,[],[.ptr (.arg 8) 0 0 0],.inl rfl,hL3.at [.arg 8,.loc 0] rfl ⟨rfl,rfl,True.intro⟩ (fun _ _=>⟨rfl,?_⟩)⟩⟩
      (refine gS ?_;intros)
      refine Sq.alt (Awp.le (env':=[(6,.ptr (.arg 0) 0 0 0),(7,.ptr (.arg 1) 0 0 0),(8,.ptr (.arg 2) 0 0 0),(9,.ptr (.arg 3) 0 0 0),(10,.ptr (.arg 4) 0 0 0),(11,.ptr (.arg 5) 0 0 0),(12,.ptr (.arg 6) 0 0 0),(13,.ptr (.arg 7) 0 0 0),(14,.ptr (.arg 8) 0 0 0),(15,.fn (.func 35) [] [.ptr (.arg 8) 0 0 0]),(16,.d (eInts ([]:List Int))),(18,.ptr (.loc 1) 0 0 0),(19,.d (.bool true)),(20,.ptr (.loc 2) 0 0 0)])
       (m':=⟨[some (.vec 107 5 3 (r1 ++ r2 ++ r3).length (rowsOf eRed (r1 ++ r2 ++ r3))),some (.box 54 (up (eCrs x))),some (.box 61 (up (eSit st)))],[some (.box 29 (up (eWor w))),some (.box 3 [.d (.int .i64 s)]),some (.box 3 [.d (.int .i64 c)]),some (.box 3 [.d (.int .i64 t)]),some (.box 3 [.d (.int .i64 kn)]),some (.box 30 [.d (eInts nw)]),some (.box 37 (up zDec)),some (.box 38 [.d (.int .i64 0)]),some (.box 35 [.osl (.loc 0) 3 0 (r1 ++ r2 ++ r3).length])]⟩) ?_ (vc_ok hT _ _ _ _ (Ev.o ?_)))
      ·repeat' (first | exact True.intro | exact rfl | exact Nat.le_refl _ | refine And.intro ?_ ?_)
       all_goals first
        | (intro i hi;exact ⟨rfl,rfl⟩)
      (refine gW ?_;intros)
      refine hP.call ?_
      (refine gW ?_;intros)
      refine ⟨⟨35,[],[.ptr (.arg 8) 0 0 0],.inl rfl,hL4.at [.arg 8,.loc 0] rfl ⟨rfl,rfl,True.intro⟩ (fun _ _=>⟨rfl,?_⟩)⟩⟩
      (refine gS ?_;intros)
      refine Sq.alt (Awp.le (env':=[(6,.ptr (.arg 0) 0 0 0),(7,.ptr (.arg 1) 0 0 0),(8,.ptr (.arg 2) 0 0 0),(9,.ptr (.arg 3) 0 0 0),(10,.ptr (.arg 4) 0 0 0),(11,.ptr (.arg 5) 0 0 0),(12,.ptr (.arg 6) 0 0 0),(13,.ptr (.arg 7) 0 0 0),(14,.ptr (.arg 8) 0 0 0),(15,.fn (.func 35) [] [.ptr (.arg 8) 0 0 0]),(16,.d (eInts ([]:List Int))),(18,.ptr (.loc 1) 0 0 0),(19,.d (.bool true)),(20,.ptr (.loc 2) 0 0 0),(21,.d (.int .i64 pv)),(22,.d (.bool (decide (0 < pv))))])
       (m':=⟨[some (.vec 107 5 4 (r1 ++ r2 ++ r3 ++ [rdK ⟨7,s,c⟩ t]).length (rowsOf eRed (r1 ++ r2 ++ r3 ++ [rdK ⟨7,s,c⟩ t]))),some (.box 54 (up (eCrs x))),some (.box 61 (up (eSit st)))],[some (.box 29 (up (eWor w))),some (.box 3 [.d (.int .i64 s)]),some (.box 3 [.d (.int .i64 c)]),some (.box 3 [.d (.int .i64 t)]),some (.box 3 [.d (.int .i64 kn)]),some (.box 30 [.d (eInts nw)]),some (.box 37 (up zDec)),some (.box 38 [.d (.int .i64 0)]),some (.box 35 [.osl (.loc 0) 4 0 (r1 ++ r2 ++ r3 ++ [rdK ⟨7,s,c⟩ t]).length])]⟩) ?_ (vc_ok hT _ _ _ _ (Ev.o ?_)))
      ·repeat' (first | exact True.intro | exact rfl | exact Nat.le_refl _ | refine And.intro ?_ ?_)
       all_goals first
        | (intro i hi;exact ⟨rfl,rfl⟩)
      (refine gW ?_;intros)
      refine hN.call ?_
      (refine gW ?_;intros)
      refine hM.call ?_
      (refine gW ?_;intros)
      refine ⟨rfl,?_⟩
      (refine gW ?_;intros)
      exact ⟨BecP.agg' ⟨.d,.d,.d,.d,.d,.d,.d,.d,.rows rfl (Nat.le_of_eq (Nat.zero_add _)) (fun i hi=>by rw [Nat.zero_add];rfl),.eq ⟨rfl,rfl,fun i hi=>rfl⟩,True.intro⟩,.d,True.intro⟩
     ·rw [if_neg hp,if_neg hp]
      refine pureE_rule hT (f:=11) (N:=116) (rs:=[.cell 12 37,.cell 13 38]) (pre:=[_,_,_,_]) Tryz.func11 rfl rfl rfl (by kernel_rfl) rfl
       (G:=36) (r:=32) (caps:=[.tmp 13,.tmp 7,.tmp 8,.tmp 9,.tmp 12,.tmp 10,.tmp 11,.tmp 14]) rfl rfl rfl rfl rfl rfl rfl rfl rfl Tryz.func36 rfl rfl (by kernel_rfl) rfl rfl ?_
      (refine gW ?_;intros)
      refine hA.call ?_
      (refine gW ?_;intros)
      refine ⟨[0,1,2,3,4,5,6,7,8],[(29,eWor w),(3,[.int .i64 s]),(3,[.int .i64 c]),(3,[.int .i64 t]),(3,[.int .i64 kn]),(30,[eInts nw]),(37,zDec),(38,[.int .i64 0]),(35,[.nils])],
       [(6,.ptr (.arg 0) 0 0 0),(7,.ptr (.arg 1) 0 0 0),(8,.ptr (.arg 2) 0 0 0),(9,.ptr (.arg 3) 0 0 0),(10,.ptr (.arg 4) 0 0 0),(11,.ptr (.arg 5) 0 0 0),(12,.ptr (.arg 6) 0 0 0),(13,.ptr (.arg 7) 0 0 0),(14,.ptr (.arg 8) 0 0 0),(15,.fn (.func 35) [] [.ptr (.arg 8) 0 0 0])],
       [.ptr (.arg 7) 0 0 0,.ptr (.arg 1) 0 0 0,.ptr (.arg 2) 0 0 0,.ptr (.arg 3) 0 0 0,.ptr (.arg 6) 0 0 0,.ptr (.arg 4) 0 0 0,.ptr (.arg 5) 0 0 0,.ptr (.arg 8) 0 0 0],by decide,⟨rfl,rfl,rfl,rfl,rfl,rfl,rfl,rfl,rfl,True.intro⟩,⟨rfl,rfl,rfl,rfl,rfl,rfl,rfl,rfl,rfl,rfl,True.intro⟩,⟨rfl,rfl,rfl,rfl,rfl,rfl,rfl,rfl,True.intro⟩,rfl,?_⟩
      (refine gS ?_;intros)
      refine hH.call ?_
      (refine gS ?_;intros)
      refine Sq.alt (Awp.vecBox (.arg 8) 35 107 5 (rowsOf eRed []) rfl (vc_ok hT _ _ _ _ (Ev.o ?_)))
      (refine gS ?_;intros)
      refine ⟨⟨35,[],[.ptr (.arg 8) 0 0 0],.inl rfl,hL1.at [.arg 8,.loc 0] rfl ⟨rfl,rfl,True.intro⟩ (fun _ _=>⟨rfl,?_⟩)⟩⟩
      (refine gS ?_;intros)
      refine Sq.alt (Awp.le (env':=[(6,.ptr (.arg 0) 0 0 0),(7,.ptr (.arg 1) 0 0 0),(8,.ptr (.arg 2) 0 0 0),(9,.ptr (.arg 3) 0 0 0),(10,.ptr (.arg 4) 0 0 0),(11,.ptr (.arg 5) 0 0 0),(12,.ptr (.arg 6) 0 0 0),(13,.ptr (.arg 7) 0 0 0),(14,.ptr (.arg 8) 0 0 0),(15,.fn (.func 35) [] [.ptr (.arg 8) 0 0 0]),(16,.d (eInts ([]:List Int)))])
       (m':=⟨[some (.vec 107 5 1 (r1).length (rowsOf eRed (r1)))],[some (.box 29 (up (eWor w))),some (.box 3 [.d (.int .i64 s)]),some (.box 3 [.d (.int .i64 c)]),some (.box 3 [.d (.int .i64 t)]),some (.box 3 [.d (.int .i64 kn)]),some (.box 30 [.d (eInts nw)]),some (.box 37 (up zDec)),some (.box 38 [.d (.int .i64 0)]),some (.box 35 [.osl (.loc 0) 1 0 (r1).length])]⟩) ?_ (vc_ok hT _ _ _ _ (Ev.o ?_)))
      ·repeat' (first | exact True.intro | exact rfl | exact Nat.le_refl _ | refine And.intro ?_ ?_)
       all_goals first
        | (intro i hi;exact ⟨rfl,rfl⟩)
      (refine gW ?_;intros)
      refine hC.call ?_
      (refine gW ?_;intros)
      refine ⟨⟨35,[],[.ptr (.arg 8) 0 0 0],.inl rfl,hL2.at [.arg 8,.loc 0] rfl ⟨rfl,rfl,True.intro⟩ (fun _ _=>⟨rfl,?_⟩)⟩⟩
      (refine gS ?_;intros)
      refine Sq.alt (Awp.le (env':=[(6,.ptr (.arg 0) 0 0 0),(7,.ptr (.arg 1) 0 0 0),(8,.ptr (.arg 2) 0 0 0),(9,.ptr (.arg 3) 0 0 0),(10,.ptr (.arg 4) 0 0 0),(11,.ptr (.arg 5) 0 0 0),(12,.ptr (.arg 6) 0 0 0),(13,.ptr (.arg 7) 0 0 0),(14,.ptr (.arg 8) 0 0 0),(15,.fn (.func 35) [] [.ptr (.arg 8) 0 0 0]),(16,.d (eInts ([]:List Int))),(18,.ptr (.loc 1) 0 0 0),(19,.d (.bool true))])
       (m':=⟨[some (.vec 107 5 2 (r1 ++ r2).length (rowsOf eRed (r1 ++ r2))),some (.box 54 (up (eCrs x)))],[some (.box 29 (up (eWor w))),some (.box 3 [.d (.int .i64 s)]),some (.box 3 [.d (.int .i64 c)]),some (.box 3 [.d (.int .i64 t)]),some (.box 3 [.d (.int .i64 kn)]),some (.box 30 [.d (eInts nw)]),some (.box 37 (up zDec)),some (.box 38 [.d (.int .i64 0)]),some (.box 35 [.osl (.loc 0) 2 0 (r1 ++ r2).length])]⟩) ?_ (vc_ok hT _ _ _ _ (Ev.o ?_)))
      ·repeat' (first | exact True.intro | exact rfl | exact Nat.le_refl _ | refine And.intro ?_ ?_)
       all_goals first
        | (intro i hi;exact ⟨rfl,rfl⟩)
      (refine gW ?_;intros)
      refine hS.call ?_
      (refine gW ?_;intros)
      refine ⟨⟨35,[],[.ptr (.arg 8) 0 0 0],.inl rfl,hL3.at [.arg 8,.loc 0] rfl ⟨rfl,rfl,True.intro⟩ (fun _ _=>⟨rfl,?_⟩)⟩⟩
      (refine gS ?_;intros)
      refine Sq.alt (Awp.le (env':=[(6,.ptr (.arg 0) 0 0 0),(7,.ptr (.arg 1) 0 0 0),(8,.ptr (.arg 2) 0 0 0),(9,.ptr (.arg 3) 0 0 0),(10,.ptr (.arg 4) 0 0 0),(11,.ptr (.arg 5) 0 0 0),(12,.ptr (.arg 6) 0 0 0),(13,.ptr (.arg 7) 0 0 0),(14,.ptr (.arg 8) 0 0 0),(15,.fn (.func 35) [] [.ptr (.arg 8) 0 0 0]),(16,.d (eInts ([]:List Int))),(18,.ptr (.loc 1) 0 0 0),(19,.d (.bool true)),(20,.ptr (.loc 2) 0 0 0)])
       (m':=⟨[some (.vec 107 5 3 (r1 ++ r2 ++ r3).length (rowsOf eRed (r1 ++ r2 ++ r3))),some (.box 54 (up (eCrs x))),some (.box 61 (up (eSit st)))],[some (.box 29 (up (eWor w))),some (.box 3 [.d (.int .i64 s)]),some (.box 3 [.d (.int .i64 c)]),some (.box 3 [.d (.int .i64 t)]),some (.box 3 [.d (.int .i64 kn)]),some (.box 30 [.d (eInts nw)]),some (.box 37 (up zDec)),some (.box 38 [.d (.int .i64 0)]),some (.box 35 [.osl (.loc 0) 3 0 (r1 ++ r2 ++ r3).length])]⟩) ?_ (vc_ok hT _ _ _ _ (Ev.o ?_)))
      ·repeat' (first | exact True.intro | exact rfl | exact Nat.le_refl _ | refine And.intro ?_ ?_)
       all_goals first
        | (intro i hi;exact ⟨rfl,rfl⟩)
      (refine gW ?_;intros)
      refine hP.call ?_
      (refine gW ?_;intros)
      refine ⟨⟨35,[],[.ptr (.arg 8) 0 0 0],.inl rfl,hL4.at [.arg 8,.loc 0] rfl ⟨rfl,rfl,True.intro⟩ (fun _ _=>⟨rfl,?_⟩)⟩⟩
      (refine gS ?_;intros)
      refine Sq.alt (Awp.le (env':=[(6,.ptr (.arg 0) 0 0 0),(7,.ptr (.arg 1) 0 0 0),(8,.ptr (.arg 2) 0 0 0),(9,.ptr (.arg 3) 0 0 0),(10,.ptr (.arg 4) 0 0 0),(11,.ptr (.arg 5) 0 0 0),(12,.ptr (.arg 6) 0 0 0),(13,.ptr (.arg 7) 0 0 0),(14,.ptr (.arg 8) 0 0 0),(15,.fn (.func 35) [] [.ptr (.arg 8) 0 0 0]),(16,.d (eInts ([]:List Int))),(18,.ptr (.loc 1) 0 0 0),(19,.d (.bool true)),(20,.ptr (.loc 2) 0 0 0),(21,.d (.int .i64 pv)),(22,.d (.bool (decide (0 < pv))))])
       (m':=⟨[some (.vec 107 5 4 (r1 ++ r2 ++ r3 ++ [rdK ⟨7,s,c⟩ t]).length (rowsOf eRed (r1 ++ r2 ++ r3 ++ [rdK ⟨7,s,c⟩ t]))),some (.box 54 (up (eCrs x))),some (.box 61 (up (eSit st)))],[some (.box 29 (up (eWor w))),some (.box 3 [.d (.int .i64 s)]),some (.box 3 [.d (.int .i64 c)]),some (.box 3 [.d (.int .i64 t)]),some (.box 3 [.d (.int .i64 kn)]),some (.box 30 [.d (eInts nw)]),some (.box 37 (up zDec)),some (.box 38 [.d (.int .i64 0)]),some (.box 35 [.osl (.loc 0) 4 0 (r1 ++ r2 ++ r3 ++ [rdK ⟨7,s,c⟩ t]).length])]⟩) ?_ (vc_ok hT _ _ _ _ (Ev.o ?_)))
      ·repeat' (first | exact True.intro | exact rfl | exact Nat.le_refl _ | refine And.intro ?_ ?_)
       all_goals first
        | (intro i hi;exact ⟨rfl,rfl⟩)
      (refine gW ?_;intros)
      refine hN.call ?_
      (refine gW ?_;intros)
      refine ⟨rfl,?_⟩
      (refine gW ?_;intros)
      exact ⟨BecP.agg' ⟨.d,.d,.d,.d,.d,.d,.d,.d,.rows rfl (Nat.le_of_eq (Nat.zero_add _)) (fun i hi=>by rw [Nat.zero_add];rfl),.eq rfl,True.intro⟩,.d,True.intro⟩
    ·rw [ha] at hN
     cases hb:valR st x.bar
     ·rw [hb] at hB
      have hq:(true && !false)=true:=rfl
      rw [if_pos hq,if_pos hq]
      have hM:=named_ok false pv
      rw [if_neg (by decide)] at hM
      refine pureE_rule hT (f:=11) (N:=116) (rs:=[.cell 12 37,.cell 13 38]) (pre:=[_,_,_,_]) Tryz.func11 rfl rfl rfl (by kernel_rfl) rfl
       (G:=36) (r:=32) (caps:=[.tmp 13,.tmp 7,.tmp 8,.tmp 9,.tmp 12,.tmp 10,.tmp 11,.tmp 14]) rfl rfl rfl rfl rfl rfl rfl rfl rfl Tryz.func36 rfl rfl (by kernel_rfl) rfl rfl ?_
      (refine gW ?_;intros)
      refine hA.call ?_
      (refine gW ?_;intros)
      refine ⟨[0,1,2,3,4,5,6,7,8],[(29,eWor w),(3,[.int .i64 s]),(3,[.int .i64 c]),(3,[.int .i64 t]),(3,[.int .i64 kn]),(30,[eInts nw]),(37,zDec),(38,[.int .i64 0]),(35,[.nils])],
       [(6,.ptr (.arg 0) 0 0 0),(7,.ptr (.arg 1) 0 0 0),(8,.ptr (.arg 2) 0 0 0),(9,.ptr (.arg 3) 0 0 0),(10,.ptr (.arg 4) 0 0 0),(11,.ptr (.arg 5) 0 0 0),(12,.ptr (.arg 6) 0 0 0),(13,.ptr (.arg 7) 0 0 0),(14,.ptr (.arg 8) 0 0 0),(15,.fn (.func 35) [] [.ptr (.arg 8) 0 0 0])],
       [.ptr (.arg 7) 0 0 0,.ptr (.arg 1) 0 0 0,.ptr (.arg 2) 0 0 0,.ptr (.arg 3) 0 0 0,.ptr (.arg 6) 0 0 0,.ptr (.arg 4) 0 0 0,.ptr (.arg 5) 0 0 0,.ptr (.arg 8) 0 0 0],by decide,⟨rfl,rfl,rfl,rfl,rfl,rfl,rfl,rfl,rfl,True.intro⟩,⟨rfl,rfl,rfl,rfl,rfl,rfl,rfl,rfl,rfl,rfl,True.intro⟩,⟨rfl,rfl,rfl,rfl,rfl,rfl,rfl,rfl,True.intro⟩,rfl,?_⟩
      (refine gS ?_;intros)
      refine hH.call ?_
      (refine gS ?_;intros)
      refine Sq.alt (Awp.vecBox (.arg 8) 35 107 5 (rowsOf eRed []) rfl (vc_ok hT _ _ _ _ (Ev.o ?_)))
      (refine gS ?_;intros)
      refine ⟨⟨35,[],[.ptr (.arg 8) 0 0 0],.inl rfl,hL1.at [.arg 8,.loc 0] rfl ⟨rfl,rfl,True.intro⟩ (fun _ _=>⟨rfl,?_⟩)⟩⟩
      (refine gS ?_;intros)
      refine Sq.alt (Awp.le (env':=[(6,.ptr (.arg 0) 0 0 0),(7,.ptr (.arg 1) 0 0 0),(8,.ptr (.arg 2) 0 0 0),(9,.ptr (.arg 3) 0 0 0),(10,.ptr (.arg 4) 0 0 0),(11,.ptr (.arg 5) 0 0 0),(12,.ptr (.arg 6) 0 0 0),(13,.ptr (.arg 7) 0 0 0),(14,.ptr (.arg 8) 0 0 0),(15,.fn (.func 35) [] [.ptr (.arg 8) 0 0 0]),(16,.d (eInts ([]:List Int)))])
       (m':=⟨[some (.vec 107 5 1 (r1).length (rowsOf eRed (r1)))],[some (.box 29 (up (eWor w))),some (.box 3 [.d (.int .i64 s)]),some (.box 3 [.d (.int .i64 c)]),some (.box 3 [.d (.int .i64 t)]),some (.box 3 [.d (.int .i64 kn)]),some (.box 30 [.d (eInts nw)]),some (.box 37 (up zDec)),some (.box 38 [.d (.int .i64 0)]),some (.box 35 [.osl (.loc 0) 1 0 (r1).length])]⟩) ?_ (vc_ok hT _ _ _ _ (Ev.o ?_)))
      ·repeat' (first | exact True.intro | exact rfl | exact Nat.le_refl _ | refine And.intro ?_ ?_)
       all_goals first
        | (intro i hi;exact ⟨rfl,rfl⟩)
      (refine gW ?_;intros)
      refine hC.call ?_
      (refine gW ?_;intros)
      refine ⟨⟨35,[],[.ptr (.arg 8) 0 0 0],.inl rfl,hL2.at [.arg 8,.loc 0] rfl ⟨rfl,rfl,True.intro⟩ (fun _ _=>⟨rfl,?_⟩)⟩⟩
      (refine gS ?_;intros)
      refine Sq.alt (Awp.le (env':=[(6,.ptr (.arg 0) 0 0 0),(7,.ptr (.arg 1) 0 0 0),(8,.ptr (.arg 2) 0 0 0),(9,.ptr (.arg 3) 0 0 0),(10,.ptr (.arg 4) 0 0 0),(11,.ptr (.arg 5) 0 0 0),(12,.ptr (.arg 6) 0 0 0),(13,.ptr (.arg 7) 0 0 0),(14,.ptr (.arg 8) 0 0 0),(15,.fn (.func 35) [] [.ptr (.arg 8) 0 0 0]),(16,.d (eInts ([]:List Int))),(18,.ptr (.loc 1) 0 0 0),(19,.d (.bool true))])
       (m':=⟨[some (.vec 107 5 2 (r1 ++ r2).length (rowsOf eRed (r1 ++ r2))),some (.box 54 (up (eCrs x)))],[some (.box 29 (up (eWor w))),some (.box 3 [.d (.int .i64 s)]),some (.box 3 [.d (.int .i64 c)]),some (.box 3 [.d (.int .i64 t)]),some (.box 3 [.d (.int .i64 kn)]),some (.box 30 [.d (eInts nw)]),some (.box 37 (up zDec)),some (.box 38 [.d (.int .i64 0)]),some (.box 35 [.osl (.loc 0) 2 0 (r1 ++ r2).length])]⟩) ?_ (vc_ok hT _ _ _ _ (Ev.o ?_)))
      ·repeat' (first | exact True.intro | exact rfl | exact Nat.le_refl _ | refine And.intro ?_ ?_)
       all_goals first
        | (intro i hi;exact ⟨rfl,rfl⟩)
      (refine gW ?_;intros)
      refine hS.call ?_
      (refine gW ?_;intros)
      refine ⟨⟨35,[],[.ptr (.arg 8) 0 0 0],.inl rfl,hL3.at [.arg 8,.loc 0] rfl ⟨rfl,rfl,True.intro⟩ (fun _ _=>⟨rfl,?_⟩)⟩⟩
      (refine gS ?_;intros)
      refine Sq.alt (Awp.le (env':=[(6,.ptr (.arg 0) 0 0 0),(7,.ptr (.arg 1) 0 0 0),(8,.ptr (.arg 2) 0 0 0),(9,.ptr (.arg 3) 0 0 0),(10,.ptr (.arg 4) 0 0 0),(11,.ptr (.arg 5) 0 0 0),(12,.ptr (.arg 6) 0 0 0),(13,.ptr (.arg 7) 0 0 0),(14,.ptr (.arg 8) 0 0 0),(15,.fn (.func 35) [] [.ptr (.arg 8) 0 0 0]),(16,.d (eInts ([]:List Int))),(18,.ptr (.loc 1) 0 0 0),(19,.d (.bool true)),(20,.ptr (.loc 2) 0 0 0)])
       (m':=⟨[some (.vec 107 5 3 (r1 ++ r2 ++ r3).length (rowsOf eRed (r1 ++ r2 ++ r3))),some (.box 54 (up (eCrs x))),some (.box 61 (up (eSit st)))],[some (.box 29 (up (eWor w))),some (.box 3 [.d (.int .i64 s)]),some (.box 3 [.d (.int .i64 c)]),some (.box 3 [.d (.int .i64 t)]),some (.box 3 [.d (.int .i64 kn)]),some (.box 30 [.d (eInts nw)]),some (.box 37 (up zDec)),some (.box 38 [.d (.int .i64 0)]),some (.box 35 [.osl (.loc 0) 3 0 (r1 ++ r2 ++ r3).length])]⟩) ?_ (vc_ok hT _ _ _ _ (Ev.o ?_)))
      ·repeat' (first | exact True.intro | exact rfl | exact Nat.le_refl _ | refine And.intro ?_ ?_)
       all_goals first
        | (intro i hi;exact ⟨rfl,rfl⟩)
      (refine gW ?_;intros)
      refine hP.call ?_
      (refine gW ?_;intros)
      refine ⟨⟨35,[],[.ptr (.arg 8) 0 0 0],.inl rfl,hL4.at [.arg 8,.loc 0] rfl ⟨rfl,rfl,True.intro⟩ (fun _ _=>⟨rfl,?_⟩)⟩⟩
      (refine gS ?_;intros)
      refine Sq.alt (Awp.le (env':=[(6,.ptr (.arg 0) 0 0 0),(7,.ptr (.arg 1) 0 0 0),(8,.ptr (.arg 2) 0 0 0),(9,.ptr (.arg 3) 0 0 0),(10,.ptr (.arg 4) 0 0 0),(11,.ptr (.arg 5) 0 0 0),(12,.ptr (.arg 6) 0 0 0),(13,.ptr (.arg 7) 0 0 0),(14,.ptr (.arg 8) 0 0 0),(15,.fn (.func 35) [] [.ptr (.arg 8) 0 0 0]),(16,.d (eInts ([]:List Int))),(18,.ptr (.loc 1) 0 0 0),(19,.d (.bool true)),(20,.ptr (.loc 2) 0 0 0),(21,.d (.int .i64 pv)),(22,.d (.bool (decide (0 < pv))))])
       (m':=⟨[some (.vec 107 5 4 (r1 ++ r2 ++ r3 ++ [rdK ⟨7,s,c⟩ t]).length (rowsOf eRed (r1 ++ r2 ++ r3 ++ [rdK ⟨7,s,c⟩ t]))),some (.box 54 (up (eCrs x))),some (.box 61 (up (eSit st)))],[some (.box 29 (up (eWor w))),some (.box 3 [.d (.int .i64 s)]),some (.box 3 [.d (.int .i64 c)]),some (.box 3 [.d (.int .i64 t)]),some (.box 3 [.d (.int .i64 kn)]),some (.box 30 [.d (eInts nw)]),some (.box 37 (up zDec)),some (.box 38 [.d (.int .i64 0)]),some (.box 35 [.osl (.loc 0) 4 0 (r1 ++ r2 ++ r3 ++ [rdK ⟨7,s,c⟩ t]).length])]⟩) ?_ (vc_ok hT _ _ _ _ (Ev.o ?_)))
      ·repeat' (first | exact True.intro | exact rfl | exact Nat.le_refl _ | refine And.intro ?_ ?_)
       all_goals first
        | (intro i hi;exact ⟨rfl,rfl⟩)
      (refine gW ?_;intros)
      refine hN.call ?_
      (refine gW ?_;intros)
      refine hB.call ?_
      (refine gW ?_;intros)
      refine hM.call ?_
      (refine gW ?_;intros)
      refine ⟨rfl,?_⟩
      (refine gW ?_;intros)
      exact ⟨BecP.agg' ⟨.d,.d,.d,.d,.d,.d,.d,.d,.rows rfl (Nat.le_of_eq (Nat.zero_add _)) (fun i hi=>by rw [Nat.zero_add];rfl),.eq ⟨rfl,rfl,fun i hi=>rfl⟩,True.intro⟩,.d,True.intro⟩
     ·rw [hb] at hB
      have hq:¬ ((true && !true)=true):=by decide
      rw [if_neg hq,if_neg hq]
      by_cases hp:0 < pv
      ·rw [if_pos hp,if_pos hp]
       have hM:=named_ok true pv
       rw [if_pos rfl] at hM
       refine pureE_rule hT (f:=11) (N:=116) (rs:=[.cell 12 37,.cell 13 38]) (pre:=[_,_,_,_]) Tryz.func11 rfl rfl rfl (by kernel_rfl) rfl
        (G:=36) (r:=32) (caps:=[.tmp 13,.tmp 7,.tmp 8,.tmp 9,.tmp 12,.tmp 10,.tmp 11,.tmp 14]) rfl rfl rfl rfl rfl rfl rfl rfl rfl Tryz.func36 rfl rfl (by kernel_rfl) rfl rfl ?_
       (refine gW ?_;intros)
       refine hA.call ?_
       (refine gW ?_;intros)
       refine ⟨[0,1,2,3,4,5,6,7,8],[(29,eWor w),(3,[.int .i64 s]),(3,[.int .i64 c]),(3,[.int .i64 t]),(3,[.int .i64 kn]),(30,[eInts nw]),(37,zDec),(38,[.int .i64 0]),(35,[.nils])],
        [(6,.ptr (.arg 0) 0 0 0),(7,.ptr (.arg 1) 0 0 0),(8,.ptr (.arg 2) 0 0 0),(9,.ptr (.arg 3) 0 0 0),(10,.ptr (.arg 4) 0 0 0),(11,.ptr (.arg 5) 0 0 0),(12,.ptr (.arg 6) 0 0 0),(13,.ptr (.arg 7) 0 0 0),(14,.ptr (.arg 8) 0 0 0),(15,.fn (.func 35) [] [.ptr (.arg 8) 0 0 0])],
        [.ptr (.arg 7) 0 0 0,.ptr (.arg 1) 0 0 0,.ptr (.arg 2) 0 0 0,.ptr (.arg 3) 0 0 0,.ptr (.arg 6) 0 0 0,.ptr (.arg 4) 0 0 0,.ptr (.arg 5) 0 0 0,.ptr (.arg 8) 0 0 0],by decide,⟨rfl,rfl,rfl,rfl,rfl,rfl,rfl,rfl,rfl,True.intro⟩,⟨rfl,rfl,rfl,rfl,rfl,rfl,rfl,rfl,rfl,rfl,True.intro⟩,⟨rfl,rfl,rfl,rfl,rfl,rfl,rfl,rfl,True.intro⟩,rfl,?_⟩
       (refine gS ?_;intros)
       refine hH.call ?_
       (refine gS ?_;intros)
       refine Sq.alt (Awp.vecBox (.arg 8) 35 107 5 (rowsOf eRed []) rfl (vc_ok hT _ _ _ _ (Ev.o ?_)))
       (refine gS ?_;intros)
       refine ⟨⟨35,[],[.ptr (.arg 8) 0 0 0],.inl rfl,hL1.at [.arg 8,.loc 0] rfl ⟨rfl,rfl,True.intro⟩ (fun _ _=>⟨rfl,?_⟩)⟩⟩
       (refine gS ?_;intros)
       refine Sq.alt (Awp.le (env':=[(6,.ptr (.arg 0) 0 0 0),(7,.ptr (.arg 1) 0 0 0),(8,.ptr (.arg 2) 0 0 0),(9,.ptr (.arg 3) 0 0 0),(10,.ptr (.arg 4) 0 0 0),(11,.ptr (.arg 5) 0 0 0),(12,.ptr (.arg 6) 0 0 0),(13,.ptr (.arg 7) 0 0 0),(14,.ptr (.arg 8) 0 0 0),(15,.fn (.func 35) [] [.ptr (.arg 8) 0 0 0]),(16,.d (eInts ([]:List Int)))])
        (m':=⟨[some (.vec 107 5 1 (r1).length (rowsOf eRed (r1)))],[some (.box 29 (up (eWor w))),some (.box 3 [.d (.int .i64 s)]),some (.box 3 [.d (.int .i64 c)]),some (.box 3 [.d (.int .i64 t)]),some (.box 3 [.d (.int .i64 kn)]),some (.box 30 [.d (eInts nw)]),some (.box 37 (up zDec)),some (.box 38 [.d (.int .i64 0)]),some (.box 35 [.osl (.loc 0) 1 0 (r1).length])]⟩) ?_ (vc_ok hT _ _ _ _ (Ev.o ?_)))
       ·repeat' (first | exact True.intro | exact rfl | exact Nat.le_refl _ | refine And.intro ?_ ?_)
        all_goals first
         | (intro i hi;exact ⟨rfl,rfl⟩)
       (refine gW ?_;intros)
       refine hC.call ?_
       (refine gW ?_;intros)
       refine ⟨⟨35,[],[.ptr (.arg 8) 0 0 0],.inl rfl,hL2.at [.arg 8,.loc 0] rfl ⟨rfl,rfl,True.intro⟩ (fun _ _=>⟨rfl,?_⟩)⟩⟩
       (refine gS ?_;intros)
       refine Sq.alt (Awp.le (env':=[(6,.ptr (.arg 0) 0 0 0),(7,.ptr (.arg 1) 0 0 0),(8,.ptr (.arg 2) 0 0 0),(9,.ptr (.arg 3) 0 0 0),(10,.ptr (.arg 4) 0 0 0),(11,.ptr (.arg 5) 0 0 0),(12,.ptr (.arg 6) 0 0 0),(13,.ptr (.arg 7) 0 0 0),(14,.ptr (.arg 8) 0 0 0),(15,.fn (.func 35) [] [.ptr (.arg 8) 0 0 0]),(16,.d (eInts ([]:List Int))),(18,.ptr (.loc 1) 0 0 0),(19,.d (.bool true))])
        (m':=⟨[some (.vec 107 5 2 (r1 ++ r2).length (rowsOf eRed (r1 ++ r2))),some (.box 54 (up (eCrs x)))],[some (.box 29 (up (eWor w))),some (.box 3 [.d (.int .i64 s)]),some (.box 3 [.d (.int .i64 c)]),some (.box 3 [.d (.int .i64 t)]),some (.box 3 [.d (.int .i64 kn)]),some (.box 30 [.d (eInts nw)]),some (.box 37 (up zDec)),some (.box 38 [.d (.int .i64 0)]),some (.box 35 [.osl (.loc 0) 2 0 (r1 ++ r2).length])]⟩) ?_ (vc_ok hT _ _ _ _ (Ev.o ?_)))
       ·repeat' (first | exact True.intro | exact rfl | exact Nat.le_refl _ | refine And.intro ?_ ?_)
        all_goals first
         | (intro i hi;exact ⟨rfl,rfl⟩)
       (refine gW ?_;intros)
       refine hS.call ?_
       (refine gW ?_;intros)
       refine ⟨⟨35,[],[.ptr (.arg 8) 0 0 0],.inl rfl,hL3.at [.arg 8,.loc 0] rfl ⟨rfl,rfl,True.intro⟩ (fun _ _=>⟨rfl,?_⟩)⟩⟩
       (refine gS ?_;intros)
       refine Sq.alt (Awp.le (env':=[(6,.ptr (.arg 0) 0 0 0),(7,.ptr (.arg 1) 0 0 0),(8,.ptr (.arg 2) 0 0 0),(9,.ptr (.arg 3) 0 0 0),(10,.ptr (.arg 4) 0 0 0),(11,.ptr (.arg 5) 0 0 0),(12,.ptr (.arg 6) 0 0 0),(13,.ptr (.arg 7) 0 0 0),(14,.ptr (.arg 8) 0 0 0),(15,.fn (.func 35) [] [.ptr (.arg 8) 0 0 0]),(16,.d (eInts ([]:List Int))),(18,.ptr (.loc 1) 0 0 0),(19,.d (.bool true)),(20,.ptr (.loc 2) 0 0 0)])
        (m':=⟨[some (.vec 107 5 3 (r1 ++ r2 ++ r3).length (rowsOf eRed (r1 ++ r2 ++ r3))),some (.box 54 (up (eCrs x))),some (.box 61 (up (eSit st)))],[some (.box 29 (up (eWor w))),some (.box 3 [.d (.int .i64 s)]),some (.box 3 [.d (.int .i64 c)]),some (.box 3 [.d (.int .i64 t)]),some (.box 3 [.d (.int .i64 kn)]),some (.box 30 [.d (eInts nw)]),some (.box 37 (up zDec)),some (.box 38 [.d (.int .i64 0)]),some (.box 35 [.osl (.loc 0) 3 0 (r1 ++ r2 ++ r3).length])]⟩) ?_ (vc_ok hT _ _ _ _ (Ev.o ?_)))
       ·repeat' (first | exact True.intro | exact rfl | exact Nat.le_refl _ | refine And.intro ?_ ?_)
        all_goals first
         | (intro i hi;exact ⟨rfl,rfl⟩)
       (refine gW ?_;intros)
       refine hP.call ?_
       (refine gW ?_;intros)
       refine ⟨⟨35,[],[.ptr (.arg 8) 0 0 0],.inl rfl,hL4.at [.arg 8,.loc 0] rfl ⟨rfl,rfl,True.intro⟩ (fun _ _=>⟨rfl,?_⟩)⟩⟩
       (refine gS ?_;intros)
       refine Sq.alt (Awp.le (env':=[(6,.ptr (.arg 0) 0 0 0),(7,.ptr (.arg 1) 0 0 0),(8,.ptr (.arg 2) 0 0 0),(9,.ptr (.arg 3) 0 0 0),(10,.ptr (.arg 4) 0 0 0),(11,.ptr (.arg 5) 0 0 0),(12,.ptr (.arg 6) 0 0 0),(13,.ptr (.arg 7) 0 0 0),(14,.ptr (.arg 8) 0 0 0),(15,.fn (.func 35) [] [.ptr (.arg 8) 0 0 0]),(16,.d (eInts ([]:List Int))),(18,.ptr (.loc 1) 0 0 0),(19,.d (.bool true)),(20,.ptr (.loc 2) 0 0 0),(21,.d (.int .i64 pv)),(22,.d (.bool (decide (0 < pv))))])
        (m':=⟨[some (.vec 107 5 4 (r1 ++ r2 ++ r3 ++ [rdK ⟨7,s,c⟩ t]).length (rowsOf eRed (r1 ++ r2 ++ r3 ++ [rdK ⟨7,s,c⟩ t]))),some (.box 54 (up (eCrs x))),some (.box 61 (up (eSit st)))],[some (.box 29 (up (eWor w))),some (.box 3 [.d (.int .i64 s)]),some (.box 3 [.d (.int .i64 c)]),some (.box 3 [.d (.int .i64 t)]),some (.box 3 [.d (.int .i64 kn)]),some (.box 30 [.d (eInts nw)]),some (.box 37 (up zDec)),some (.box 38 [.d (.int .i64 0)]),some (.box 35 [.osl (.loc 0) 4 0 (r1 ++ r2 ++ r3 ++ [rdK ⟨7,s,c⟩ t]).length])]⟩) ?_ (vc_ok hT _ _ _ _ (Ev.o ?_)))
       ·repeat' (first | exact True.intro | exact rfl | exact Nat.le_refl _ | refine And.intro ?_ ?_)
        all_goals first
         | (intro i hi;exact ⟨rfl,rfl⟩)
       (refine gW ?_;intros)
       refine hN.call ?_
       (refine gW ?_;intros)
       refine hB.call ?_
       (refine gW ?_;intros)
       refine hM.call ?_
       (refine gW ?_;intros)
       refine ⟨rfl,?_⟩
       (refine gW ?_;intros)
       exact ⟨BecP.agg' ⟨.d,.d,.d,.d,.d,.d,.d,.d,.rows rfl (Nat.le_of_eq (Nat.zero_add _)) (fun i hi=>by rw [Nat.zero_add];rfl),.eq ⟨rfl,rfl,fun i hi=>rfl⟩,True.intro⟩,.d,True.intro⟩
      ·rw [if_neg hp,if_neg hp]
       refine pureE_rule hT (f:=11) (N:=116) (rs:=[.cell 12 37,.cell 13 38]) (pre:=[_,_,_,_]) Tryz.func11 rfl rfl rfl (by kernel_rfl) rfl
        (G:=36) (r:=32) (caps:=[.tmp 13,.tmp 7,.tmp 8,.tmp 9,.tmp 12,.tmp 10,.tmp 11,.tmp 14]) rfl rfl rfl rfl rfl rfl rfl rfl rfl Tryz.func36 rfl rfl (by kernel_rfl) rfl rfl ?_
       (refine gW ?_;intros)
       refine hA.call ?_
       (refine gW ?_;intros)
       refine ⟨[0,1,2,3,4,5,6,7,8],[(29,eWor w),(3,[.int .i64 s]),(3,[.int .i64 c]),(3,[.int .i64 t]),(3,[.int .i64 kn]),(30,[eInts nw]),(37,zDec),(38,[.int .i64 0]),(35,[.nils])],
        [(6,.ptr (.arg 0) 0 0 0),(7,.ptr (.arg 1) 0 0 0),(8,.ptr (.arg 2) 0 0 0),(9,.ptr (.arg 3) 0 0 0),(10,.ptr (.arg 4) 0 0 0),(11,.ptr (.arg 5) 0 0 0),(12,.ptr (.arg 6) 0 0 0),(13,.ptr (.arg 7) 0 0 0),(14,.ptr (.arg 8) 0 0 0),(15,.fn (.func 35) [] [.ptr (.arg 8) 0 0 0])],
        [.ptr (.arg 7) 0 0 0,.ptr (.arg 1) 0 0 0,.ptr (.arg 2) 0 0 0,.ptr (.arg 3) 0 0 0,.ptr (.arg 6) 0 0 0,.ptr (.arg 4) 0 0 0,.ptr (.arg 5) 0 0 0,.ptr (.arg 8) 0 0 0],by decide,⟨rfl,rfl,rfl,rfl,rfl,rfl,rfl,rfl,rfl,True.intro⟩,⟨rfl,rfl,rfl,rfl,rfl,rfl,rfl,rfl,rfl,rfl,True.intro⟩,⟨rfl,rfl,rfl,rfl,rfl,rfl,rfl,rfl,True.intro⟩,rfl,?_⟩
       (refine gS ?_;intros)
       refine hH.call ?_
       (refine gS ?_;intros)
       refine Sq.alt (Awp.vecBox (.arg 8) 35 107 5 (rowsOf eRed []) rfl (vc_ok hT _ _ _ _ (Ev.o ?_)))
       (refine gS ?_;intros)
       refine ⟨⟨35,[],[.ptr (.arg 8) 0 0 0],.inl rfl,hL1.at [.arg 8,.loc 0] rfl ⟨rfl,rfl,True.intro⟩ (fun _ _=>⟨rfl,?_⟩)⟩⟩
       (refine gS ?_;intros)
       refine Sq.alt (Awp.le (env':=[(6,.ptr (.arg 0) 0 0 0),(7,.ptr (.arg 1) 0 0 0),(8,.ptr (.arg 2) 0 0 0),(9,.ptr (.arg 3) 0 0 0),(10,.ptr (.arg 4) 0 0 0),(11,.ptr (.arg 5) 0 0 0),(12,.ptr (.arg 6) 0 0 0),(13,.ptr (.arg 7) 0 0 0),(14,.ptr (.arg 8) 0 0 0),(15,.fn (.func 35) [] [.ptr (.arg 8) 0 0 0]),(16,.d (eInts ([]:List Int)))])
        (m':=⟨[some (.vec 107 5 1 (r1).length (rowsOf eRed (r1)))],[some (.box 29 (up (eWor w))),some (.box 3 [.d (.int .i64 s)]),some (.box 3 [.d (.int .i64 c)]),some (.box 3 [.d (.int .i64 t)]),some (.box 3 [.d (.int .i64 kn)]),some (.box 30 [.d (eInts nw)]),some (.box 37 (up zDec)),some (.box 38 [.d (.int .i64 0)]),some (.box 35 [.osl (.loc 0) 1 0 (r1).length])]⟩) ?_ (vc_ok hT _ _ _ _ (Ev.o ?_)))
       ·repeat' (first | exact True.intro | exact rfl | exact Nat.le_refl _ | refine And.intro ?_ ?_)
        all_goals first
         | (intro i hi;exact ⟨rfl,rfl⟩)
       (refine gW ?_;intros)
       refine hC.call ?_
       (refine gW ?_;intros)
       refine ⟨⟨35,[],[.ptr (.arg 8) 0 0 0],.inl rfl,hL2.at [.arg 8,.loc 0] rfl ⟨rfl,rfl,True.intro⟩ (fun _ _=>⟨rfl,?_⟩)⟩⟩
       (refine gS ?_;intros)
       refine Sq.alt (Awp.le (env':=[(6,.ptr (.arg 0) 0 0 0),(7,.ptr (.arg 1) 0 0 0),(8,.ptr (.arg 2) 0 0 0),(9,.ptr (.arg 3) 0 0 0),(10,.ptr (.arg 4) 0 0 0),(11,.ptr (.arg 5) 0 0 0),(12,.ptr (.arg 6) 0 0 0),(13,.ptr (.arg 7) 0 0 0),(14,.ptr (.arg 8) 0 0 0),(15,.fn (.func 35) [] [.ptr (.arg 8) 0 0 0]),(16,.d (eInts ([]:List Int))),(18,.ptr (.loc 1) 0 0 0),(19,.d (.bool true))])
        (m':=⟨[some (.vec 107 5 2 (r1 ++ r2).length (rowsOf eRed (r1 ++ r2))),some (.box 54 (up (eCrs x)))],[some (.box 29 (up (eWor w))),some (.box 3 [.d (.int .i64 s)]),some (.box 3 [.d (.int .i64 c)]),some (.box 3 [.d (.int .i64 t)]),some (.box 3 [.d (.int .i64 kn)]),some (.box 30 [.d (eInts nw)]),some (.box 37 (up zDec)),some (.box 38 [.d (.int .i64 0)]),some (.box 35 [.osl (.loc 0) 2 0 (r1 ++ r2).length])]⟩) ?_ (vc_ok hT _ _ _ _ (Ev.o ?_)))
       ·repeat' (first | exact True.intro | exact rfl | exact Nat.le_refl _ | refine And.intro ?_ ?_)
        all_goals first
         | (intro i hi;exact ⟨rfl,rfl⟩)
       (refine gW ?_;intros)
       refine hS.call ?_
       (refine gW ?_;intros)
       refine ⟨⟨35,[],[.ptr (.arg 8) 0 0 0],.inl rfl,hL3.at [.arg 8,.loc 0] rfl ⟨rfl,rfl,True.intro⟩ (fun _ _=>⟨rfl,?_⟩)⟩⟩
       (refine gS ?_;intros)
       refine Sq.alt (Awp.le (env':=[(6,.ptr (.arg 0) 0 0 0),(7,.ptr (.arg 1) 0 0 0),(8,.ptr (.arg 2) 0 0 0),(9,.ptr (.arg 3) 0 0 0),(10,.ptr (.arg 4) 0 0 0),(11,.ptr (.arg 5) 0 0 0),(12,.ptr (.arg 6) 0 0 0),(13,.ptr (.arg 7) 0 0 0),(14,.ptr (.arg 8) 0 0 0),(15,.fn (.func 35) [] [.ptr (.arg 8) 0 0 0]),(16,.d (eInts ([]:List Int))),(18,.ptr (.loc 1) 0 0 0),(19,.d (.bool true)),(20,.ptr (.loc 2) 0 0 0)])
        (m':=⟨[some (.vec 107 5 3 (r1 ++ r2 ++ r3).length (rowsOf eRed (r1 ++ r2 ++ r3))),some (.box 54 (up (eCrs x))),some (.box 61 (up (eSit st)))],[some (.box 29 (up (eWor w))),some (.box 3 [.d (.int .i64 s)]),some (.box 3 [.d (.int .i64 c)]),some (.box 3 [.d (.int .i64 t)]),some (.box 3 [.d (.int .i64 kn)]),some (.box 30 [.d (eInts nw)]),some (.box 37 (up zDec)),some (.box 38 [.d (.int .i64 0)]),some (.box 35 [.osl (.loc 0) 3 0 (r1 ++ r2 ++ r3).length])]⟩) ?_ (vc_ok hT _ _ _ _ (Ev.o ?_)))
       ·repeat' (first | exact True.intro | exact rfl | exact Nat.le_refl _ | refine And.intro ?_ ?_)
        all_goals first
         | (intro i hi;exact ⟨rfl,rfl⟩)
       (refine gW ?_;intros)
       refine hP.call ?_
       (refine gW ?_;intros)
       refine ⟨⟨35,[],[.ptr (.arg 8) 0 0 0],.inl rfl,hL4.at [.arg 8,.loc 0] rfl ⟨rfl,rfl,True.intro⟩ (fun _ _=>⟨rfl,?_⟩)⟩⟩
       (refine gS ?_;intros)
       refine Sq.alt (Awp.le (env':=[(6,.ptr (.arg 0) 0 0 0),(7,.ptr (.arg 1) 0 0 0),(8,.ptr (.arg 2) 0 0 0),(9,.ptr (.arg 3) 0 0 0),(10,.ptr (.arg 4) 0 0 0),(11,.ptr (.arg 5) 0 0 0),(12,.ptr (.arg 6) 0 0 0),(13,.ptr (.arg 7) 0 0 0),(14,.ptr (.arg 8) 0 0 0),(15,.fn (.func 35) [] [.ptr (.arg 8) 0 0 0]),(16,.d (eInts ([]:List Int))),(18,.ptr (.loc 1) 0 0 0),(19,.d (.bool true)),(20,.ptr (.loc 2) 0 0 0),(21,.d (.int .i64 pv)),(22,.d (.bool (decide (0 < pv))))])
        (m':=⟨[some (.vec 107 5 4 (r1 ++ r2 ++ r3 ++ [rdK ⟨7,s,c⟩ t]).length (rowsOf eRed (r1 ++ r2 ++ r3 ++ [rdK ⟨7,s,c⟩ t]))),some (.box 54 (up (eCrs x))),some (.box 61 (up (eSit st)))],[some (.box 29 (up (eWor w))),some (.box 3 [.d (.int .i64 s)]),some (.box 3 [.d (.int .i64 c)]),some (.box 3 [.d (.int .i64 t)]),some (.box 3 [.d (.int .i64 kn)]),some (.box 30 [.d (eInts nw)]),some (.box 37 (up zDec)),some (.box 38 [.d (.int .i64 0)]),some (.box 35 [.osl (.loc 0) 4 0 (r1 ++ r2 ++ r3 ++ [rdK ⟨7,s,c⟩ t]).length])]⟩) ?_ (vc_ok hT _ _ _ _ (Ev.o ?_)))
       ·repeat' (first | exact True.intro | exact rfl | exact Nat.le_refl _ | refine And.intro ?_ ?_)
        all_goals first
         | (intro i hi;exact ⟨rfl,rfl⟩)
       (refine gW ?_;intros)
       refine hN.call ?_
       (refine gW ?_;intros)
       refine hB.call ?_
       (refine gW ?_;intros)
       refine ⟨rfl,?_⟩
       (refine gW ?_;intros)
       exact ⟨BecP.agg' ⟨.d,.d,.d,.d,.d,.d,.d,.d,.rows rfl (Nat.le_of_eq (Nat.zero_add _)) (fun i hi=>by rw [Nat.zero_add];rfl),.eq rfl,True.intro⟩,.d,True.intro⟩
end Go.Proofs.YtkjmomadndmeaaaGreatDoor
