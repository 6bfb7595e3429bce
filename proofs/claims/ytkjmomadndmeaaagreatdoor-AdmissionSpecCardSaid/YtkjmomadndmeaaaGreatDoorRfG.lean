import Derived.Test.YtkjmomadndmeaaaGreatDoorRfF
import Derived.Test.YtkjmomadndmeaaaGreatDoorRecG
import Derived.Test.YtkjmomadndmeaaaGreatDoorOpsK
import Derived.Test.YtkjmomadndmeaaaGreatDoorPetC
import Derived.Test.YtkjmomadndmeaaaGreatDoorBookR
import Derived.Test.YtkjmomadndmeaaaGreatDoorEngAS
namespace Go.Proofs.YtkjmomadndmeaaaGreatDoor
set_option linter.unusedSimpArgs false
set_option linter.unusedVariables false
open Go Go.Ab
set_option maxRecDepth 100000
set_option maxHeartbeats 0
structure Wrp (p:Prop):Prop where
 p:p
theorem cutS {T G:Prop}(h:Wrp T->G)(t:T):G:=h ⟨t⟩
def senA (w:Wor)(t kn:Int)(r:List Att)(n:Int):Sen:=⟨n,(senZ (equalL w n t kn) r).1,(senZ (equalL w n t kn) r).2,false⟩
def allS (w:Wor)(t kn:Int)(r:List Att)(k:Nat):List Sen:=((nums w kn).take k).map (senA w t kn r)
theorem allS_succ (w:Wor)(t kn:Int)(r:List Att){k:Nat}(h:k<(nums w kn).length):allS w t kn r (k+1)=allS w t kn r k++[senA w t kn r ((nums w kn).getD k default)]:=by
 unfold allS
 rw[take_succ_at h,List.map_append]
 rfl
theorem allS_len (w:Wor)(t kn:Int)(r:List Att){k:Nat}(h:k<=(nums w kn).length):(allS w t kn r k).length=k:=by
 unfold allS
 rw[List.length_map,List.length_take]
 omega
def sn2 (l:List Sen)(c:Int)(b:Int × Int):Int × Int:=l.foldl (fun z x=>if x.course=c then(x.tries,x.best) else z) b
theorem sn2_succ {l:List Sen}{k:Nat}(h:k<l.length)(c:Int)(b:Int × Int):sn2 (l.take (k+1)) c b=if(l.getD k default).course=c then((l.getD k default).tries,(l.getD k default).best) else sn2 (l.take k) c b:=by
 unfold sn2
 rw[take_succ_at h,List.foldl_append]
 rfl
theorem sn2_all (w:Wor)(t kn:Int)(r:List Att)(nw:List Int)(c:Int):(⟨c,(sn2 (allS w t kn r (nums w kn).length) c (0,-1)).1,(sn2 (allS w t kn r (nums w kn).length) c (0,-1)).2,decide (c∈nw)⟩:Sen)=seS w t kn r nw c:=by
 have key:∀ (l:List Int) (b:Int × Int),sn2 (l.map (senA w t kn r)) c b=if c∈l then ((senZ (equalL w c t kn) r).1,(senZ (equalL w c t kn) r).2) else b:=by
  intro l
  induction l with
  |nil=>intro b;rfl
  | cons n l ih =>
    intro b
    unfold sn2 at *
    rw[List.map_cons,List.foldl_cons,ih]
    by_cases h1:c∈l
    .rw[if_pos h1,if_pos (List.mem_cons_of_mem _ h1)]
    .rw[if_neg h1]
     by_cases h2:n=c
     .rw[if_pos (show(senA w t kn r n).course=c from h2),if_pos (by simp[h2]),<-h2]
      rfl
     .rw[if_neg (show ¬ (senA w t kn r n).course=c from h2),if_neg (by simp[h1];exact fun h=>h2 h.symm)]
 unfold allS seS
 rw[List.take_length,key]
 split<;>rfl
theorem rows3 {α:Type}[Inhabited α](enc:α->List D)(A B C E:List α){n1 n2:Nat}(h1:n1=A.length)(h2:n2=A.length+B.length)(hE:E=A++B++C)(i:Nat):joinF n2 (joinF n1 (rowsOf enc A) (fun i=>up (enc (B.getD i default)))) (fun i=>up (enc (C.getD i default))) i=rowsOf enc E i:=by
 subst hE
 have e:joinF n1 (rowsOf enc A) (fun i=>up (enc (B.getD i default)))=rowsOf enc (A++B):=funext (rowsOf_catD enc A B h1)
 rw[e,rowsOf_catD enc (A++B) C (by rw[List.length_append,h2])]
theorem seen_fun (w:Wor)(t kn:Int)(r:List Att)(nw:List Int):∃L:Nat->List Sen,L 0=[]/\(∀k:Nat,L (k+1)=L k++(if okS (seS w t kn r nw k)=true then[seS w t kn r nw k] else[]))/\(∀k,(L k).length<=k)/\seenL w t kn r nw=L 4096 :=
 ⟨seenF w t kn r nw,rfl,fun _=>rfl,seenF_len w t kn r nw,rfl⟩
theorem senA_in {w:Wor}{t kn:Int}{r:List Att}(hf:∀a∈r,fitA a)(n:Int):(0<=(senA w t kn r n).tries/\(senA w t kn r n).tries<=100)/\-1<=(senA w t kn r n).best/\(senA w t kn r n).best<=12:=by
 have:=stpK_in hf (equalL w n t kn) r.length (Nat.le_refl _)
 rw[stpK_all]at this
 exact this
theorem rsituate_ok (w:Wor) (hw:WfW w) (hl:w.fcts.length≤50) (hi:∀ f∈w.fcts,f.value≤9223372036854775807) (s t kn:Int) (nw:List Int) (hnl:nw.length≤1000000) (hs:bw s 0 19999=true) (ht:bw t 0 1023=true) (hn:nowB (-1) nw=true) :
 Pure Tryz.prog 42 [.agg (eWor w),di s,di t,di kn,eInts nw] [.agg (eSit (sitV w s t kn nw)),eReds (sitR w s t kn),di 0]:=by
 have hW1:=rwithin16_ok s 0 19999
 have hW2:=rwithin16_ok t 0 1023
 rw[hs]at hW1
 rw[ht]at hW2
 have ht2:bw t 0 1024=true:=by simp only[bw,Bool.and_eq_true,decide_eq_true_iff]at ht⊢;omega
 have hN:=pureSl (rnumbers_ok w hw Om kn)
 have hnum:=nums_len w kn
 have hrl:=recA_len w s t kn
 have hrf:∀a∈recA w s t kn,fitA a:=recA_fit
 have hCt:=rcounted16_ok w hw s hs (recA w s t kn) Om hrf (recA_lt w s t kn) t kn ht
 have hSit:eSit (sitV w s t kn nw)=[eSens (seenL w t kn (recA w s t kn) nw),di (min (earnF (cntL w s t kn) (cntL w s t kn).length) 10000),di (meanZ (cntL w s t kn)).1,di (meanZ (cntL w s t kn)).2]:=rfl
 rw[hSit,sitR_eq]
 clear hSit
 have hcf:∀a∈cntL w s t kn,fitA a:=fun a ha=>hrf a (pick_mem ha)
 have hcl:(cntL w s t kn).length<=1000000:=Nat.le_trans (pick_len _ _) Om
 have hEa:=rearned_ok (cntL w s t kn) hcl hcf
 have hMe:=rmean15_ok (cntL w s t kn) hcl hcf
 have hea:=(sums_in hcf _ (Nat.le_refl _)).1
 have hcntd:cntA (repC w t kn) (recA w s t kn)=cntL w s t kn:=rfl
 rw[hcntd]at hCt
 have hsn2:=fun c=>sn2_all w t kn (recA w s t kn) nw c
 have hall:∀x∈allS w t kn (recA w s t kn) (nums w kn).length,(0<=x.tries/\x.tries<=100)/\-1<=x.best/\x.best<=12:=fun x hx=>by
  unfold allS at hx
  obtain⟨n,_,rfl⟩:=List.mem_map.1 hx
  exact senA_in hrf n
 have hal:=allS_len w t kn (recA w s t kn) (Nat.le_refl (nums w kn).length)
 obtain⟨L,hL0,hLs,hLl,hL4⟩:=seen_fun w t kn (recA w s t kn) nw
 rw[hL4]
 clear hL4
 generalize cntL w s t kn=cnt at hCt hEa hMe hea hcf hcl⊢
 generalize earnF cnt cnt.length=ea at hEa hea⊢
 generalize meanZ cnt=me at hMe⊢
 have hone:([rdK ⟨12,0,0⟩ 0]:List Red).length=1:=rfl
 have hofl:=zK_len w s t kn _ (Nat.le_refl _)
 rw[zK_all]at hofl
 have hrdl:=rdC_len (recA w s t kn) t _ (Nat.le_refl _)
 have heql:=eqK_len w hl t kn
 have kal:Kp _:=⟨hall⟩
 have ksn:Kp _:=⟨hsn2⟩
 have kLs:Kp _:=⟨hLs⟩
 have kLl:Kp _:=⟨hLl⟩
 have keql:Kp _:=⟨heql⟩
 clear hall hsn2 hLs hLl heql hcf
 refine pure_ruleC hT (T:=tab) (N:=204) (rs:=[.cell 10 61,.tmp 11,.tmp 12]) Tryz.func42 rfl rfl rfl Kr rfl ?_
 (refine gW ?_;intros)
 refine hW1.call ?_
 (refine gW ?_;intros)
 refine hW2.call ?_
 (refine gW ?_;intros)
 refine loop_rule hT (S:=Nat) (fun k=>([(1,dV s),(2,dV t),(3,dV kn),(4,.d (eInts nw)),(5,lp 0),(10,lp 1),(13,dV k)],⟨[bX 29 (up (eWor w)),bX 61 (up zSit)],[]⟩)) (fun k=>k<=nw.length/\-1<=lastB nw k/\nowB (lastB nw k) (nw.drop k)=true) (fun k=>nw.length-k) 0 ?_ ?_ ?_
 .exact lq
 .exact⟨Nat.zero_le _,Int.le_refl _,hn⟩
 rintro k ⟨hk,hlb,hc⟩
 dsimp only at hk hc⊢
 by_cases hk2:k<nw.length
 .rw[nowB_at hk2]at hc
  simp only[Bool.and_eq_true,decide_eq_true_iff]at hc
  obtain⟨h1,h2,h3⟩:=hc
  have hX:=rwithin16_ok (nw.getD k default) 0 4095
  rw[show bw (nw.getD k default) 0 4095=true by simp only[bw,Bool.and_eq_true,decide_eq_true_iff];omega]at hX
  have kc:Kp _:=⟨h3⟩
  clear h3
  by_cases hk0:k=0
  .subst hk0
   (refine gW ?_;intros)
   refine qC hX ?_
   (refine gW ?_;intros)
   refine stp (0+1) ?_ ⟨by show 0+1<=nw.length;omega,by rw[lastB_succ];omega,kc.h⟩
   exact lq
  .have hlk:lastB nw k=nw.getD (k-1) default:=if_neg hk0
   rw[hlk,<-toNat_pred]at h1 hlb
   clear hlk
   (refine gW ?_;intros)
   refine qC hX ?_
   (refine gW ?_;intros)
   refine stp (k+1) ?_ ⟨by show k+1<=nw.length;omega,by rw[lastB_succ];omega,kc.h⟩
   exact lq
 clear hc hlb
 apply cutS
 case h =>
  intro htail
  by_cases hne:0<(nums w kn).length
  .have hO:=rof16_ok w hw hl hi s t kn hs ht2 hne
   have kas:Kp (∀j,j<(nums w kn).length->allS w t kn (recA w s t kn) (j+1)=allS w t kn (recA w s t kn) j++[senA w t kn (recA w s t kn) ((nums w kn).getD j default)]):=⟨fun j hj=>allS_succ w t kn _ hj⟩
   have kam:Kp (∀j,j<=(nums w kn).length->(allS w t kn (recA w s t kn) j).length=j):=⟨fun j hj=>allS_len w t kn _ hj⟩
   (refine gW ?_;intros)
   refine hO.at [] rfl Tt (fun z _=>⟨rfl,?_⟩)
   obtain⟨g1,q1⟩:=z
   dsimp only
   (refine gW ?_;intros)
   refine hCt.call ?_
   (refine gW ?_;intros)
   refine hN.call ?_
   (refine gW ?_;intros)
   refine Awp.vec 21 115 4 (rowsOf eSen []) rfl ?_
   refine loop_rule hT (S:=Nat) (fun k=>([(2,dV t),(3,dV kn),(4,.d (eInts nw)),(5,lp 0),(10,lp 1),(14,lp 7),(15,.osl (.loc 6) (g1+1+1+k) 0 ((ofA w s t kn).2++rdC (recA w s t kn) t (recA w s t kn).length++[rdK ⟨12,0,0⟩ 0]++eqK w t kn k).length),(17,.d (eAtts cnt)),(20,.d (eInts (nums w kn))),(21,.osl (.loc 8) k 0 (allS w t kn (recA w s t kn) k).length),(22,dV k)],
    ⟨[bX 29 (up (eWor w)),bX 61 (up zSit),bX 29 (up (eWor w)),bX 122 (up (eRec s (recA w s t kn))),bX 122 (up (eRec s (recA w s t kn))),bV 107 5 0 1 (rowsOf eRed [q1]),bV 107 5 (g1+1+1+k) ((ofA w s t kn).2++rdC (recA w s t kn) t (recA w s t kn).length++[rdK ⟨12,0,0⟩ 0]++eqK w t kn k).length (rowsOf eRed ((ofA w s t kn).2++rdC (recA w s t kn) t (recA w s t kn).length++[rdK ⟨12,0,0⟩ 0]++eqK w t kn k)),bX 122 (up (eRec s (recA w s t kn))),bV 115 4 k (allS w t kn (recA w s t kn) k).length (rowsOf eSen (allS w t kn (recA w s t kn) k))],[]⟩)) (fun k=>k<=(nums w kn).length) (fun k=>(nums w kn).length-k) 0 ?_ ?_ ?_
   .have e0:eqK w t kn 0=[]:=rfl
    dsimp only
    rw[e0,List.append_nil,List.length_append,List.length_append]
    repeat' (first|exact Tt|exact rfl|exact Nat.le_refl _|refine And.intro ?_ ?_)
    all_goals first
     | (intro j hj
        exact⟨rows3 eRed (ofA w s t kn).2 (rdC (recA w s t kn) t (recA w s t kn).length) [rdK ⟨12,0,0⟩ 0] _ rfl rfl rfl j,rfl⟩)
     |(intro j hj;exact⟨rfl,rfl⟩)
     |(intro j hj;exact absurd hj (Nat.not_lt_zero j))
   .exact Nat.zero_le _
   .intro k hk
    dsimp only at hk⊢
    by_cases hk2:k<(nums w kn).length
    .have hE:=requal_ok w hw Om ((nums w kn).getD k default) t kn
     have hSn:=seen16_ok s (recA w s t kn) Om hrf ((nums w kn).getD k default) (equalL w ((nums w kn).getD k default) t kn) (by have:=equalL_len w ((nums w kn).getD k default) t kn;omega)
     have hEl:=equalR_len w Om ((nums w kn).getD k default) t kn
     have hEm:((nums w kn).length+1)*(nums w kn).length<=51*50:=Nat.mul_le_mul Om Om
     have hRl:=keql.h k hk
     have hRs:=eqK_succ w t kn hk2
     have has:=kas.h k hk2
     have ham:=kam.h k hk
     rw[show(⟨(nums w kn).getD k default,(senZ (equalL w ((nums w kn).getD k default) t kn) (recA w s t kn)).1,(senZ (equalL w ((nums w kn).getD k default) t kn) (recA w s t kn)).2,false⟩:Sen)=senA w t kn (recA w s t kn) ((nums w kn).getD k default) from rfl]at hSn
     have hRS:(ofA w s t kn).2++rdC (recA w s t kn) t (recA w s t kn).length++[rdK ⟨12,0,0⟩ 0]++eqK w t kn (k+1)=((ofA w s t kn).2++rdC (recA w s t kn) t (recA w s t kn).length++[rdK ⟨12,0,0⟩ 0]++eqK w t kn k)++equalR w ((nums w kn).getD k default) t kn:=by rw[hRs,<-List.append_assoc]
     have hRL:((ofA w s t kn).2++rdC (recA w s t kn) t (recA w s t kn).length++[rdK ⟨12,0,0⟩ 0]++eqK w t kn k).length<=300000:=by
      have:([rdK ⟨12,0,0⟩ 0]:List Red).length=1:=rfl
      rw[List.length_append,List.length_append,List.length_append]
      omega
     obtain⟨R,hR⟩:∃R,(ofA w s t kn).2++rdC (recA w s t kn) t (recA w s t kn).length++[rdK ⟨12,0,0⟩ 0]++eqK w t kn k=R:=⟨_,rfl⟩
     rw[hR]at hRL hRS⊢
     obtain⟨n,hn0⟩:∃n,(nums w kn).getD k default=n:=⟨_,rfl⟩
     obtain⟨E,hE0⟩:∃E,equalR w ((nums w kn).getD k default) t kn=E:=⟨_,rfl⟩
     rw[hE0]at hE hEl hRS
     obtain⟨av,has0⟩:∃av,allS w t kn (recA w s t kn) k=av:=⟨_,rfl⟩
     rw[has0]at has ham⊢
     have kRS:Kp _:=⟨hRS⟩
     have kAS:Kp _:=⟨has⟩
     clear hRS has hRs hRl hR hE0 has0 hn0
     obtain⟨r,hr0⟩:∃r,recA w s t kn=r:=⟨_,rfl⟩
     (refine gS ?_;intros)
     refine Sq.go ?_;(refine gS ?_;intros)
     refine Sq.go ?_;(refine gS ?_;intros)
     refine qC hE ?_
     (refine gS ?_;intros)
     refine Sq.go ?_;(refine gS ?_;intros)
     refine Sq.alt (Awp.le (env':=[(2,dV t),(3,dV kn),(4,.d (eInts nw)),(5,lp 0),(10,lp 1),(14,lp 7),(15,.osl (.loc 6) (g1+1+1+k+1) 0 (R.length+E.length)),(17,.d (eAtts cnt)),(20,.d (eInts (nums w kn))),(21,.osl (.loc 8) k 0 av.length),(22,dV k),(23,.d (eInts (equalL w ((nums w kn).getD k default) t kn)))])
      (m':=⟨[bX 29 (up (eWor w)),bX 61 (up zSit),bX 29 (up (eWor w)),bX 122 (up (eRec s (recA w s t kn))),bX 122 (up (eRec s (recA w s t kn))),bV 107 5 0 1 (rowsOf eRed [q1]),bV 107 5 (g1+1+1+k+1) (R.length+E.length) (rowsOf eRed (R++E)),bX 122 (up (eRec s (recA w s t kn))),bV 115 4 k av.length (rowsOf eSen av)],[]⟩) ?_
      (Awp.effsF (m:=⟨[some (.box 29 (up (eWor w))),some (.box 61 (up zSit)),some (.box 29 (up (eWor w))),some (.box 122 (up (eRec s (recA w s t kn)))),some (.box 122 (up (eRec s (recA w s t kn)))),some (.vec 107 5 0 1 (rowsOf eRed [q1])),some (.vec 107 5 (g1 + 1 + 1 + k + 1) (R.length + E.length) (rowsOf eRed (R ++ E))),some (.box 122 (up (eRec s (recA w s t kn)))),some (.vec 115 4 k av.length (rowsOf eSen av))],[]⟩) hT (by kernel_rfl) (by kernel_rfl) (by kernel_rfl)
       ⟨[bX 29 (up (eWor w)),bX 61 (up zSit),bX 29 (up (eWor w)),bX 122 (up (eRec s (recA w s t kn))),bX 122 (up (eRec s (recA w s t kn))),bV 107 5 0 1 (rowsOf eRed [q1]),bV 107 5 (g1+1+1+k+1) (R.length+E.length) (rowsOf eRed (R++E)),bX 122 (up (eRec s (recA w s t kn))),some .opq,none],[]⟩ 9 0
       [⟨8,.osl (.loc 9) 0 0 1,⟨[bX 29 (up (eWor w)),bX 61 (up zSit),bX 29 (up (eWor w)),bX 122 (up (eRec s (recA w s t kn))),bX 122 (up (eRec s (recA w s t kn))),bV 107 5 0 1 (rowsOf eRed [q1]),bV 107 5 (g1+1+1+k+1) (R.length+E.length) (rowsOf eRed (R++E)),bX 122 (up (eRec s (recA w s t kn))),bV 115 4 k av.length (rowsOf eSen av),bV 115 4 0 1 (rowFn [up (eSen (senA w t kn (recA w s t kn) ((nums w kn).getD k default)))])],[]⟩,[]⟩,⟨9,.osl (.loc 8) (k+1) 0 (av.length+1),⟨[bX 29 (up (eWor w)),bX 61 (up zSit),bX 29 (up (eWor w)),bX 122 (up (eRec s (recA w s t kn))),bX 122 (up (eRec s (recA w s t kn))),bV 107 5 0 1 (rowsOf eRed [q1]),bV 107 5 (g1+1+1+k+1) (R.length+E.length) (rowsOf eRed (R++E)),bX 122 (up (eRec s (recA w s t kn))),bV 115 4 (k+1) (av.length+1) (joinF av.length (rowsOf eSen av) (rowFn [up (eSen (senA w t kn (recA w s t kn) ((nums w kn).getD k default)))])),bV 115 4 0 1 (rowFn [up (eSen (senA w t kn (recA w s t kn) ((nums w kn).getD k default)))])],[]⟩,[8]⟩]
       Kr rfl rfl (WeakF.of ⟨.inl rfl,.inl rfl,.inl rfl,.inl rfl,.inl rfl,.inl rfl,.inl rfl,.inl rfl,.inr ⟨_,rfl,WeakB.opq⟩,Tt⟩ Tt) ⟨WeakF.of ⟨.inl rfl,.inl rfl,.inl rfl,.inl rfl,.inl rfl,.inl rfl,.inl rfl,.inl rfl,.inr ⟨_,rfl,WeakB.opq⟩,Tt⟩ Tt,WeakF.of ⟨.inl rfl,.inl rfl,.inl rfl,.inl rfl,.inl rfl,.inl rfl,.inl rfl,.inl rfl,.inr ⟨_,rfl,WeakB.opq⟩,Tt⟩ Tt,Tt⟩ ?_))
     .exact lq
     conv=>whnf
     (refine gS ?_;intros)
     refine qC hSn ?_
     (refine gS ?_;intros)
     refine⟨?_,?_,?_⟩
     .conv=>whnf
      (refine gS ?_;intros)
      exact⟨rfl,rfl⟩
     .conv=>whnf
      (refine gS ?_;intros)
      exact⟨rfl,rfl⟩
     conv=>whnf
     (refine gW ?_;intros)
     refine⟨k+1,by show k+1<=(nums w kn).length;omega,by show(nums w kn).length-(k+1)<(nums w kn).length-k;omega,?_⟩
     dsimp only
     rw[kRS.h,kAS.h,List.length_append,len_snoc]
     exact lq
    .obtain rfl:k=(nums w kn).length:=by omega
     (refine gS ?_;intros)
     refine Sq.go ?_;(refine gS ?_;intros)
     refine Sq.alt (Awp.frz [6] 15 (eReds ((ofA w s t kn).2++rdC (recA w s t kn) t (recA w s t kn).length++[rdK ⟨12,0,0⟩ 0]++eqK w t kn (nums w kn).length)) (BecP.rows rfl (Nat.le_of_eq (Nat.zero_add _)) (fun i hi=>by rw[Nat.zero_add];rfl))
      (Awp.frz [8] 21 (eSens (allS w t kn (recA w s t kn) (nums w kn).length)) (BecP.rows rfl (Nat.le_of_eq (Nat.zero_add _)) (fun i hi=>by rw[Nat.zero_add];rfl))
      (Awp.le (env':=[(4,.d (eInts nw)),(10,lp 1),(15,.d (eReds ((ofA w s t kn).2++rdC (recA w s t kn) t (recA w s t kn).length++[rdK ⟨12,0,0⟩ 0]++eqK w t kn (nums w kn).length))),(17,.d (eAtts cnt)),(21,.d (eSens (allS w t kn (recA w s t kn) (nums w kn).length)))]) (m':=⟨[none,bX 61 (up zSit)],[]⟩) ?_ htail.p)))
     exact lq
  .have hne2:nums w kn=[]:=List.eq_nil_of_length_eq_zero Om
   have hO:=rof16_nil w hw hl s t kn hs ht2 hne2
   have hof:ofA w s t kn=([],[rdK ⟨12,0,0⟩ 0]):=by unfold ofA;rw[hne2];rfl
   have hr0:recA w s t kn=[]:=by unfold recA;rw[hof];rfl
   have hRR:(ofA w s t kn).2++rdC (recA w s t kn) t (recA w s t kn).length++[rdK ⟨12,0,0⟩ 0]++eqK w t kn (nums w kn).length=[rdK ⟨12,0,0⟩ 0,rdK ⟨12,0,0⟩ 0]:=by
    unfold eqK
    rw[hr0,hof,hne2]
    rfl
   have hAl:allS w t kn (recA w s t kn) (nums w kn).length=[]:=by
    unfold allS
    rw[hne2]
    rfl
   have htp:=htail.p
   rw[hr0]at hCt
   rw[hne2]at hN
   rw[show rdC [] t ([]:List Att).length=[] from rfl]at hCt
   (refine gW ?_;intros)
   refine hO.call ?_
   (refine gW ?_;intros)
   refine hCt.call ?_
   (refine gS ?_;intros)
   refine Sq.go ?_;(refine gS ?_;intros)
   (refine gS ?_;intros)
   refine Sq.alt (Awp.of_vc hT ?_)
   (refine gS ?_;intros)
   refine Sq.alt (Awp.seq (Awp.hand Kr ?_))
   refine And.intro rfl (OpVC.read hT rfl (fun p hp=>by cases hp) ?_)
   conv=>whnf
   refine And.intro rfl (OpVC.read hT rfl (fun p hp=>by cases hp) ?_)
   conv=>whnf
   refine And.intro rfl (op_append0 hT rfl rfl rfl rfl ?_)
   conv=>whnf
   refine And.intro rfl (OpVC.read hT rfl (fun p hp=>by cases hp) ?_)
   conv=>whnf
   (refine gW ?_;intros)
   refine Awp.of_vc hT ?_
   (refine gW ?_;intros)
   refine hN.call ?_
   (refine gW ?_;intros)
   refine loop_rule hT (S:=Unit) (fun _=>([(2,dV t),(3,dV kn),(4,.d (eInts nw)),(5,lp 0),(10,lp 1),(14,lp 2),(15,.osl (.loc 3) 0 0 2),(17,.d (eAtts cnt)),(20,.d (eInts [])),(21,.d .nils),(22,dV 0)],
    ⟨[bX 29 (up (eWor w)),bX 61 (up zSit),bX 122 (up (eRec s [])),bV 107 5 0 2 (rowsOf eRed [rdK ⟨12,0,0⟩ 0,rdK ⟨12,0,0⟩ 0])],[]⟩)) (fun _=>True) (fun _=>0) () ?_ ?_ ?_
   .exact lq
   .exact Tt
   .rintro⟨⟩ _
    (refine gS ?_;intros)
    refine Sq.go ?_;(refine gS ?_;intros)
    refine Sq.alt (Awp.frz [3] 15 (eReds ((ofA w s t kn).2++rdC (recA w s t kn) t (recA w s t kn).length++[rdK ⟨12,0,0⟩ 0]++eqK w t kn (nums w kn).length)) (by rw[hRR];exact BecP.rows rfl (Nat.le_of_eq (Nat.zero_add _)) (fun i hi=>by rw[Nat.zero_add];rfl))
     (Awp.frz [] 21 (eSens (allS w t kn (recA w s t kn) (nums w kn).length)) (by rw[hAl];exact .eq rfl)
     (Awp.le (env':=[(4,.d (eInts nw)),(10,lp 1),(15,.d (eReds ((ofA w s t kn).2++rdC (recA w s t kn) t (recA w s t kn).length++[rdK ⟨12,0,0⟩ 0]++eqK w t kn (nums w kn).length))),(17,.d (eAtts cnt)),(21,.d (eSens (allS w t kn (recA w s t kn) (nums w kn).length)))]) (m':=⟨[none,bX 61 (up zSit)],[]⟩) ?_ htp)))
    exact lq
 case t =>
  refine Awp.of_vc hT ?_
  (refine gW ?_;intros)
  refine Awp.vecCell (.loc 2) 0 61 115 4 (up zSit) (rowsOf eSen []) rfl rfl ?_
  have halb:(allS w t kn (recA w s t kn) (nums w kn).length).length<=100:=by rw[hal];omega
  clear hCt hN hal hofl hrdl
  obtain⟨M,hM⟩:∃M:Nat,M=4096:=⟨_,rfl⟩
  obtain⟨all,hall0⟩:∃all,allS w t kn (recA w s t kn) (nums w kn).length=all:=⟨_,rfl⟩
  rw[hall0]at ksn kal halb⊢
  clear hall0
  refine loop_rule hT (S:=Nat × Nat) (fun z=>([(4,.d (eInts nw)),(10,lp 1),(15,.d (eReds ((ofA w s t kn).2++rdC (recA w s t kn) t (recA w s t kn).length++[rdK ⟨12,0,0⟩ 0]++eqK w t kn (nums w kn).length))),(17,.d (eAtts cnt)),(21,.d (eSens all)),(25,lp 2),(26,dV z.1)],
   ⟨[none,bX 61 (up zSit),bX 61 [.osl (.loc 3) z.2 0 (L z.1).length,dV 0,dV 0,dV 0],bV 115 4 z.2 (L z.1).length (rowsOf eSen (L z.1))],[]⟩)) (fun z=>z.1<=M) (fun z=>M-z.1) (0,0) ?_ ?_ ?_
  .dsimp only
   rw[hL0]
   exact lq
  .exact Nat.zero_le _
  .clear hL0
   rintro⟨k,g⟩ hk
   dsimp only at hk⊢
   by_cases hk2:k<M
   .have hH:=has16_ok nw (by omega) (k:Int)
    have hls:=kLs.h k
    have hll:=kLl.h k
    have hsn:=ksn.h (k:Int)
    obtain⟨l,hl0⟩:∃l,L k=l:=⟨_,rfl⟩
    rw[hl0]at hls hll⊢
    clear hl0
    obtain⟨bn,hbn⟩:∃bn,decide ((k:Int)∈nw)=bn:=⟨_,rfl⟩
    rw[hbn]at hH hsn
    clear hbn
    rw[<-hsn]at hls
    have kls:Kp _:=⟨hls⟩
    clear hls hsn
    (refine gW ?_;intros)
    refine hH.call ?_
    (refine gW ?_;intros)
    refine loop_rule hT (S:=Nat) (fun i=>([(4,.d (eInts nw)),(10,lp 1),(15,.d (eReds ((ofA w s t kn).2++rdC (recA w s t kn) t (recA w s t kn).length++[rdK ⟨12,0,0⟩ 0]++eqK w t kn (nums w kn).length))),(17,.d (eAtts cnt)),(21,.d (eSens all)),(25,lp 2),(26,dV k),(27,lp 4),(28,dV i)],
     ⟨[none,bX 61 (up zSit),bX 61 [.osl (.loc 3) g 0 l.length,dV 0,dV 0,dV 0],bV 115 4 g l.length (rowsOf eSen l),bX 115 (up [di k,di (sn2 (all.take i) k (0,-1)).1,di (sn2 (all.take i) k (0,-1)).2,.bool bn])],[]⟩)) (fun i=>i<=all.length) (fun i=>all.length-i) 0 ?_ ?_ ?_
    .exact lq
    .exact Nat.zero_le _
    .intro i hi
     dsimp only at hi⊢
     by_cases hi2:i<all.length
     .have hs2:=sn2_succ hi2 (k:Int) (0,-1)
      by_cases he:(all.getD i default).course=(k:Int)
      .rw[if_pos he]at hs2
       have ks:Kp _:=⟨hs2⟩
       clear hs2
       generalize sn2 (all.take i) (k:Int) (0,-1)=z
       (refine gW ?_;intros)
       refine⟨i+1,by show i+1<=all.length;omega,by show all.length-(i+1)<all.length-i;omega,?_⟩
       dsimp only
       rw[ks.h]
       exact lq
      .rw[if_neg he]at hs2
       have ks:Kp _:=⟨hs2⟩
       clear hs2
       (refine gW ?_;intros)
       refine⟨i+1,by show i+1<=all.length;omega,by show all.length-(i+1)<all.length-i;omega,?_⟩
       dsimp only
       rw[ks.h]
       exact lq
     .obtain rfl:i=all.length:=by omega
      rw[List.take_length]
      obtain⟨p,hp⟩:∃p,sn2 all (k:Int) (0,-1)=p:=⟨_,rfl⟩
      have hls:=kls.h
      rw[hp]at hls⊢
      obtain⟨p1,p2⟩:=p
      dsimp only at hls⊢
      clear hp
      by_cases hok:0<p1\/bn=true
      .rw[if_pos (by unfold okS;simpa using hok)]at hls
       have ks:Kp _:=⟨hls⟩
       clear hls
       by_cases hp1:0<p1
       ·(refine gW ?_;intros)
        refine stp (k+1,g+1) ?_
        dsimp only
        rw[ks.h,len_snoc]
        repeat' (first|exact Tt|exact rfl|exact Nat.le_refl _|refine And.intro ?_ ?_)
        all_goals first
         |(intro j hj;exact⟨rowsOf_join' eSen l ⟨k,p1,p2,bn⟩ rfl j hj,rfl⟩)
       .obtain rfl:bn=true:=hok.resolve_left hp1
        (refine gW ?_;intros)
        refine stp (k+1,g+1) ?_
        dsimp only
        rw[ks.h,len_snoc]
        repeat' (first|exact Tt|exact rfl|exact Nat.le_refl _|refine And.intro ?_ ?_)
        all_goals first
         |(intro j hj;exact⟨rowsOf_join' eSen l ⟨k,p1,p2,true⟩ rfl j hj,rfl⟩)
      .rw[if_neg (by unfold okS;simpa using hok),List.append_nil]at hls
       have ks:Kp _:=⟨hls⟩
       clear hls
       have hp1:¬ 0<p1:=fun h=>hok (.inl h)
       obtain rfl:bn=false:=by
        cases bn with
        |false=>rfl
        |true=>exact absurd (.inr rfl) hok
       (refine gW ?_;intros)
       refine stp (k+1,g) ?_
       dsimp only
       rw[ks.h]
       exact lq
   .obtain rfl:k=M:=by omega
    subst hM
    (refine gW ?_;intros)
    refine hEa.call ?_
    (refine gW ?_;intros)
    refine hMe.call ?_
    (refine gW ?_;intros)
    exact⟨BecP.agg' ⟨.rows rfl (Nat.le_of_eq (Nat.zero_add _)) (fun i hi=>by rw[Nat.zero_add];rfl),.d,.d,.d,Tt⟩,.d,.d,Tt⟩
end Go.Proofs.YtkjmomadndmeaaaGreatDoor
