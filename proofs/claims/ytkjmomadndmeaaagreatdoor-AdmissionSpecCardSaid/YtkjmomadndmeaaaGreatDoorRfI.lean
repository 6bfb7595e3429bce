import Derived.Test.YtkjmomadndmeaaaGreatDoorHolB
import Derived.Test.YtkjmomadndmeaaaGreatDoorPetC
import Derived.Test.YtkjmomadndmeaaaGreatDoorRecO
import Derived.Test.YtkjmomadndmeaaaGreatDoorBookP
import Derived.Test.YtkjmomadndmeaaaGreatDoorAdmB
import Derived.Test.YtkjmomadndmeaaaGreatDoorRecG
import Derived.Test.YtkjmomadndmeaaaGreatDoorAdmC
namespace Go.Proofs.YtkjmomadndmeaaaGreatDoor
set_option linter.unusedSimpArgs false
set_option linter.unusedVariables false
open Go Go.Ab
set_option maxRecDepth 100000
set_option maxHeartbeats 0
theorem rabout_ok (s:Sit)(hs:s.seen.length<=100000)(c:Int):Pure Tryz.prog 97 [.agg (eSit s),di c] [.agg (eSen (abtS s c))]:=by
 refine pure_rule hT (T:=tab) (N:=28) (rs:=[.cell 4 115]) Tryz.func97 rfl rfl rfl Kr rfl ?_
 (refine gW ?_;intros)
 refine loop_rule hT (S:=Nat) (fun k=>([(1,dV c),(2,lp 0),(4,lp 1),(5,dV k)],⟨[bX 61 (up (eSit s)),bX 115 (up [di 0,di 0,di 0,.bool false])],[]⟩))
  (fun k=>k<=s.seen.length/\(s.seen.find? fun x=>decide (x.course=c))=((s.seen.drop k).find? fun x=>decide (x.course=c))) (fun k=>s.seen.length-k) 0 ?_ ?_ ?_
 .exact lq
 .exact⟨Nat.zero_le _,rfl⟩
 .rintro k ⟨hk,hc⟩
  have kc:Kp _:=⟨hc⟩
  clear hc
  unfold abtS
  by_cases hk2:k<s.seen.length
  .by_cases he:(s.seen.getD k default).course=c
   .have:(s.seen.find? fun x=>decide (x.course=c))=some (s.seen.getD k default):=by
     rw[kc.h,drop_at hk2,List.find?_cons_of_pos (by simpa using he)]
    rw[this]
    (refine gW ?_;intros)
    exact⟨.inl rfl,Tt⟩
   ·(refine gW ?_;intros)
    refine⟨k+1,⟨by show k+1<=s.seen.length;omega,by rw[kc.h,drop_at hk2,List.find?_cons_of_neg (by simpa using he)]⟩,by show s.seen.length-(k+1)<s.seen.length-k;omega,?_⟩
    exact lq
  .rw[kc.h,drop_end Om]
   (refine gW ?_;intros)
   exact⟨.inl rfl,Tt⟩
theorem rvalueK_ok (s:Sit)(hs:WfS s)(r:Rule)(ho:r.op=1\/r.op=2\/r.op=3\/r.op=4\/r.op=5\/r.op=6\/r.op=7\/r.op=8\/r.op=9)(hl:r.kids.length<=200)(hk:∀k∈r.kids,Pure Tryz.prog 46 [.agg (eRule k),.agg (eSit s)] [.bool (valR s k)])(h8:r.op=8->In .i64 (s.mn*r.d)/\In .i64 (r.n*s.md)) :
 Pure Tryz.prog 46 [.agg (eRule r),.agg (eSit s)] [.bool (valR s r)]:=by
 rw[valR_eq]
 have hA:=rabout_ok s (Nat.le_trans hs.len Dc) r.course
 have eo:eRule r=[di r.op,di r.course,.str r.name,di r.n,di r.d,eRules r.kids]:=by rw[eRule]
 rw[eo]
 clear eo
 refine pure_rule hT (T:=tab) (N:=93) (rs:=[.tmp 4]) Tryz.func46 rfl rfl rfl Kr rfl ?_
 (refine gW ?_;intros)
 refine loop_rule hT (S:=Nat) (fun k=>([(2,lp 0),(3,lp 1),(5,dV (valRs s (r.kids.take k))),(6,dV k)],⟨[bX 52 (up [di r.op,di r.course,.str r.name,di r.n,di r.d,eRules r.kids]),bX 61 (up (eSit s))],[]⟩))
  (fun k=>k<=r.kids.length) (fun k=>r.kids.length-k) 0 ?_ ?_ ?_
 .exact lq
  all_goals (rw[List.take_zero,valRs_nil];rfl)
 .exact Nat.zero_le _
 .intro k hk1
  dsimp only at hk1⊢
  by_cases hk2:k<r.kids.length
  .have hne:r.kids≠[]:=fun e=>by rw[e]at hk2;exact absurd hk2 (Nat.not_lt_zero _)
   have hV:=hk _ (getD_mem hk2)
   have hn:=valRs_succ s hk2
   have hle:=valRs_le s (r.kids.take k)
   rw[List.length_take]at hle
   have kn:Kp _:=⟨hn⟩
   clear hn hA h8 ho
   rw[eRules_ne hne]
   cases hv:valR s (r.kids.getD k default)<;>rw[hv]at hV
   ·(refine gW ?_;intros)
    refine qC hV ?_
    (refine gW ?_;intros)
    refine⟨k+1,by show k+1<=r.kids.length;omega,by show r.kids.length-(k+1)<r.kids.length-k;omega,?_⟩
    dsimp only
    rw[kn.h,hv]
    exact lq
   ·(refine gW ?_;intros)
    refine qC hV ?_
    (refine gW ?_;intros)
    refine⟨k+1,by show k+1<=r.kids.length;omega,by show r.kids.length-(k+1)<r.kids.length-k;omega,?_⟩
    dsimp only
    rw[kn.h,hv]
    exact lq
  .have ht:r.kids.take k=r.kids:=List.take_of_length_le Om
   rw[ht]
   clear ht hk
   obtain⟨nk,hnk⟩:∃nk,valRs s r.kids=nk:=⟨_,rfl⟩
   rw[hnk]
   clear hnk hs
   rcases ho with h|h|h|h|h|h|h|h|h
   .rw[show holdB s r nk=decide (nk=r.kids.length) by simp[holdB,h]]
    clear h8 hA
    (refine gW ?_;intros)
    refine⟨congrArg D.bool ?_,Tt⟩
    exact decide_eq_decide.2 Om
   .rw[show holdB s r nk=decide (0<nk) by simp[holdB,h]]
    clear h8 hA
    (refine gW ?_;intros)
    refine⟨congrArg D.bool ?_,Tt⟩
    exact decide_eq_decide.2 Om
   .rw[show holdB s r nk=decide (r.n<=nk) by simp[holdB,h]]
    clear h8 hA
    (refine gW ?_;intros)
    refine⟨congrArg D.bool ?_,Tt⟩
    exact decide_eq_decide.2 Om
   .rw[show holdB s r nk=decide (nk=0) by simp[holdB,h]]
    clear h8 hA
    (refine gW ?_;intros)
    refine⟨congrArg D.bool ?_,Tt⟩
    exact decide_eq_decide.2 Om
   .rw[show holdB s r nk=decide (r.n<=(abtS s r.course).best) by simp[holdB,h]]
    clear h8
    (refine gW ?_;intros)
    refine qC hA ?_
    (refine gW ?_;intros)
    exact⟨rfl,Tt⟩
   .rw[show holdB s r nk=decide (r.n<=(abtS s r.course).tries) by simp[holdB,h]]
    clear h8
    (refine gW ?_;intros)
    refine qC hA ?_
    (refine gW ?_;intros)
    exact⟨rfl,Tt⟩
   .rw[show holdB s r nk=decide (r.n<=s.earned) by simp[holdB,h]]
    clear h8 hA
    (refine gW ?_;intros)
    refine⟨congrArg D.bool ?_,Tt⟩
    exact decide_eq_decide.2 Om
   .rw[show holdB s r nk=decide (r.n*s.md<=s.mn*r.d) by simp[holdB,h]]
    obtain⟨h81,h82⟩:=h8 h
    clear h8 hA
    (refine gW ?_;intros)
    exact⟨rfl,Tt⟩
   .rw[show holdB s r nk=(abtS s r.course).now by simp[holdB,h]]
    clear h8
    (refine gW ?_;intros)
    refine hA.call ?_
    (refine gW ?_;intros)
    exact⟨rfl,Tt⟩
theorem rvalue_ok (s:Sit)(hs:WfS s):∀r:Rule,wfR r->chkR r=0->Pure Tryz.prog 46 [.agg (eRule r),.agg (eSit s)] [.bool (valR s r)]:=by
 have hm:chkQ s.mn s.md=0:=by
  have:=hs.mean
  unfold meanQ at this
  rw[Bool.and_eq_true,decide_eq_true_iff]at this
  exact this.1
 refine rule_ind fun r ih hw hc=>?_
 obtain⟨hF,hk⟩:=chkR_top hc
 have hkid:∀k∈r.kids,Pure Tryz.prog 46 [.agg (eRule k),.agg (eSit s)] [.bool (valR s k)]:=fun k hk=>ih k hk ((wfR_kids hw).2 k hk) (chkR_kid hc hk)
 have ho:bw r.op 1 9=true:=by
  unfold formedR at hF
  rw[Bool.and_eq_true]at hF
  exact hF.1
 have h1:1<=r.op/\r.op<=9:=by simpa[bw] using ho
 have h8:r.op=8->In .i64 (s.mn*r.d)/\In .i64 (r.n*s.md):=fun h=>by
  have hq:chkQ r.n r.d=0:=by
   unfold formedR rightR at hF
   simp only[h,Bool.and_eq_true]at hF
   have:=hF.2.2.2.2.2
   simp[meanQ]at this
   exact this.1
  have z1:=chkQ_zero hq
  have z2:=chkQ_zero hm
  exact⟨mul_in ⟨z2.2.2.1,z2.2.2.2⟩ ⟨Om,Om⟩,mul_in ⟨z1.2.2.1,z1.2.2.2⟩ ⟨Om,Om⟩⟩
 have h2:r.op=1\/r.op=2\/r.op=3\/r.op=4\/r.op=5\/r.op=6\/r.op=7\/r.op=8\/r.op=9:=by omega
 exact rvalueK_ok s hs r h2 hk hkid h8
theorem rallows_ok (x:Crs)(w1:wfR x.need)(w2:wfR x.bar)(c1:chkR x.need=0)(c2:chkR x.bar=0)(s:Sit)(hs:WfS s):Pure Tryz.prog 44 [.agg (eCrs x),.agg (eSit s)] [.bool (valR s x.need&&!valR s x.bar)]:=by
 have h1:=rvalue_ok s hs x.need w1 c1
 have h2:=rvalue_ok s hs x.bar w2 c2
 refine pure_rule hT (T:=tab) (N:=16) (rs:=[.tmp 4]) Tryz.func44 rfl rfl rfl Kr rfl ?_
 cases a:valR s x.need<;>rw[a]at h1<;>cases b:valR s x.bar<;>rw[b]at h2
 ·(refine gW ?_;intros)
  refine h1.call ?_
  (refine gW ?_;intros)
  exact⟨rfl,Tt⟩
 ·(refine gW ?_;intros)
  refine h1.call ?_
  (refine gW ?_;intros)
  exact⟨rfl,Tt⟩
 ·(refine gW ?_;intros)
  refine h1.call ?_
  (refine gW ?_;intros)
  refine h2.call ?_
  (refine gW ?_;intros)
  exact⟨rfl,Tt⟩
 ·(refine gW ?_;intros)
  refine h1.call ?_
  (refine gW ?_;intros)
  refine h2.call ?_
  (refine gW ?_;intros)
  exact⟨rfl,Tt⟩
theorem rpoints_ok (l:List Fct)(hl:fitL l)(k:Ke)(fr til kn:Int):Pure Tryz.prog 138 [eFcts l,.agg (eKe k),di fr,di til,di kn] [ePois (pointsV l k fr til kn)]:=by
 have hA:=fun t=>rat_ok l hl k t kn
 simp only[atV_val]at hA
 unfold pointsV
 generalize valT l k kn=v at hA⊢
 obtain⟨a,ha⟩:∃a:Nat,(a:Int)=max 0 fr:=⟨(max 0 fr).toNat,Om⟩
 rw[<-ha]
 obtain⟨n,hn⟩:∃n:Nat,ptsN fr til=n:=⟨_,rfl⟩
 rw[hn]
 unfold ptsN at hn
 refine pure_rule hT (T:=tab) (N:=40) (rs:=[.tmp 10]) Tryz.func138 rfl rfl rfl Kr rfl ?_
 repeat' (first|with_reducible refine Sq.go ?_|((with_reducible refine Ev.mk ?_);conv=>whnf)|with_reducible refine Dr.mk ⟨Kr,Kr⟩ ?_|with_reducible refine obG ?_|with_reducible refine Ob.mk ?_ ?_|(with_reducible first|refine brT fun h=>?_|refine brF fun h=>?_|refine Br.mk (fun h=>?_) fun h=>?_)<;>(try simp only[bsl,beq_iff_eq,bne_iff_ne,bs2]at h)<;>(try contradiction)<;>try (exfalso;omega))
 refine loop_rule hT (S:=Nat × Nat) (fun z=>([(0,.d (eFcts l)),(3,dV til),(4,dV kn),(6,lp 0),(11,.osl (.loc 1) z.2 0 (ptsU v a z.1).length),(12,dV ((a+z.1:Nat):Int))],
  ⟨[bX 72 (up (eKe k)),bV 143 2 z.2 (ptsU v a z.1).length (rowP (ptsU v a z.1))],[]⟩)) (fun z=>z.1<=n) (fun z=>n-z.1) (0,0) ?_ ?_ ?_
 .repeat' (first|exact Tt|exact rfl|exact Nat.le_refl _|refine And.intro ?_ ?_)
  all_goals first
   |(intro i hi;exact absurd hi (Nat.not_lt_zero i))
   |exact congrArg (fun n=>dV n) (by show _=((a+0:Nat):Int);rw[Nat.add_zero,ha];rfl)
 .exact Nat.zero_le _
 .rintro⟨j,g⟩ hj
  dsimp only at hj⊢
  have hlen:=ptsU_len v a j
  have hs:=ptsU_cast v a j
  by_cases hj2:j<n
  .have hb:a+j<1024:=by omega
   have hA':=hA ((a+j:Nat):Int)
   by_cases h0:0<=v ((a+j:Nat):Int)
   .rw[if_pos h0]at hs hA'
    have ks:Kp _:=⟨hs⟩
    clear hs hA
    ((refine xW ?_ ?_)<;>(intros;try rename_i h))
    all_goals try (exfalso;simp only[cond_true,cond_false]at h;omega)
    refine hA'.call ?_
    repeat' (first|with_reducible refine Sq.go ?_|((with_reducible refine Ev.mk ?_);conv=>whnf)|with_reducible refine Dr.mk ⟨Kr,Kr⟩ ?_|with_reducible refine obG ?_|with_reducible refine Ob.mk ?_ ?_|(with_reducible first|refine brT fun h=>?_|refine brF fun h=>?_|refine Br.mk (fun h=>?_) fun h=>?_)<;>(try simp only[bsl,beq_iff_eq,bne_iff_ne,bs2]at h)<;>(try contradiction)<;>try (exfalso;omega))
    refine stp (j+1,g+1) ?_
    dsimp only
    rw[ks.h,len_snoc]
    repeat' (first|exact Tt|exact rfl|exact Nat.le_refl _|refine And.intro ?_ ?_)
    all_goals first
     |(intro i hi;exact⟨rfl,rfl⟩)
     |(intro i hi;exact⟨rowsOf_join' ePoi (ptsU v a j) ⟨((a+j:Nat):Int),v ((a+j:Nat):Int)⟩ rfl i hi,rfl⟩)
   .rw[if_neg h0,List.append_nil]at hs
    rw[if_neg h0]at hA'
    have ks:Kp _:=⟨hs⟩
    clear hs hA
    ((refine xW ?_ ?_)<;>(intros;try rename_i h))
    all_goals try (exfalso;simp only[cond_true,cond_false]at h;omega)
    refine hA'.call ?_
    (refine gW ?_;intros;try rename_i h)
    refine stp (j+1,g) ?_
    dsimp only
    rw[ks.h]
    exact lq
  .obtain rfl:j=n:=by omega
   have hd:¬ ((a+j:Nat):Int)<(bif false then max til 1024 else min til 1024):=by rw[cond_false];omega
   (refine gW ?_;intros;try rename_i h)
   refine⟨⟨rfl,rfl,?_,rfl,fun i hi=>?_⟩,Tt⟩
   .exact Nat.le_of_eq (Nat.zero_add _)
   .rw[Nat.zero_add]
    rfl
def lkB (l:List Fct)(k:Ke)(t kn:Int):Bool:=!(pointsV l k t (t+1) kn).isEmpty
theorem lkB_pos {l:List Fct}{k:Ke}{t kn:Int}(h:0<petV l k t kn):lkB l k t kn=true:=by
 unfold lkB
 unfold petV at h
 cases hp:pointsV l k t (t+1) kn with
 |nil=>rw[hp]at h;exact absurd h Dc
 |cons p r=>rfl
theorem rlook_ok (w:Wor)(hw:WfW w)(k:Ke)(t kn:Int)(ht:In .i64 (t+1)):Pure Tryz.prog 95 [.agg (eWor w),.agg (eKe k),di t,di kn] [di (petV w.fcts k t kn),.bool (lkB w.fcts k t kn),.agg (eRed (rdK k t))]:=by
 have hP:=rpoints_ok w.fcts hw.fct k t (t+1) kn
 have hl:=points_one w.fcts k t kn
 have e1:petV w.fcts k t kn=if(pointsV w.fcts k t (t+1) kn).length=0 then 0 else((pointsV w.fcts k t (t+1) kn).getD 0 default).value:=by
  unfold petV
  cases pointsV w.fcts k t (t+1) kn<;>rfl
 have e2:lkB w.fcts k t kn=decide ((pointsV w.fcts k t (t+1) kn).length≠0):=by
  unfold lkB
  cases pointsV w.fcts k t (t+1) kn<;>rfl
 rw[e1,e2]
 generalize pointsV w.fcts k t (t+1) kn=ps at hP hl⊢
 refine pure_rule hT (T:=tab) (N:=35) (rs:=[.tmp 8,.tmp 9,.cell 10 107]) Tryz.func95 rfl rfl rfl Kr rfl ?_
 by_cases h0:ps.length=0
 .rw[if_pos h0,decide_eq_false (fun h=>h h0)]
  (refine gW ?_;intros)
  refine hP.call ?_
  (refine gW ?_;intros)
  exact⟨rfl,rfl,.inl rfl,Tt⟩
 .rw[if_neg h0,decide_eq_true h0]
  (refine gW ?_;intros)
  refine hP.call ?_
  (refine gW ?_;intros)
  exact⟨rfl,rfl,.inl rfl,Tt⟩
theorem ractive_ok (w:Wor)(hw:WfW w)(kd s c t kn:Int)(ht:In .i64 (t+1)):Pure Tryz.prog 43 [.agg (eWor w),di kd,di s,di c,di t,di kn] [di (petV w.fcts ⟨kd,s,c⟩ t kn),.bool (decide (0<petV w.fcts ⟨kd,s,c⟩ t kn)),eReds [rdK ⟨kd,s,c⟩ t]]:=by
 have hL:=rlook_ok w hw ⟨kd,s,c⟩ t kn ht
 have hp:=@lkB_pos w.fcts ⟨kd,s,c⟩ t kn
 have hn:=petV_nn w.fcts ⟨kd,s,c⟩ t kn
 generalize petV w.fcts ⟨kd,s,c⟩ t kn=v at hL hp hn⊢
 generalize lkB w.fcts ⟨kd,s,c⟩ t kn=b at hL hp
 refine pure_rule hT (T:=tab) (N:=41) (rs:=[.tmp 12,.tmp 13,.tmp 14]) Tryz.func43 rfl rfl rfl Kr rfl ?_
 by_cases h0:0<v
 .rw[hp h0]at hL
  rw[decide_eq_true h0]
  clear hp
  (refine gW ?_;intros)
  refine hL.call ?_
  (refine gW ?_;intros)
  exact⟨rfl,rfl,⟨rfl,rfl,fun i hi=>by rw[show i=0 from Nat.lt_one_iff.1 hi];rfl⟩,Tt⟩
 .obtain rfl:v=0:=by omega
  clear hp hn h0
  cases b
  ·(refine gW ?_;intros)
   refine hL.call ?_
   (refine gW ?_;intros)
   exact⟨rfl,rfl,⟨rfl,rfl,fun i hi=>by rw[show i=0 from Nat.lt_one_iff.1 hi];rfl⟩,Tt⟩
  ·(refine gW ?_;intros)
   refine hL.call ?_
   (refine gW ?_;intros)
   exact⟨rfl,rfl,⟨rfl,rfl,fun i hi=>by rw[show i=0 from Nat.lt_one_iff.1 hi];rfl⟩,Tt⟩
structure RO where
 k:Nat
 g:Nat
theorem rof_ok (w:Wor)(hw:WfW w)(kd s t kn:Int)(ht:In .i64 (t+1)) :
 Pure Tryz.prog 81 [.agg (eWor w),di kd,di s,di t,di kn] [eInts (heldL w.fcts kd s t kn),eReds (heldR kd s t)]:=by
 rw[show heldL w.fcts kd s t kn=heldF w.fcts kd s t kn (keysN kd s 8).length by rw[keysN_len];rfl,heldR_eq]
 refine pure_rule hT (T:=tab) (N:=51) (rs:=[.tmp 10,.tmp 11]) Tryz.func81 rfl rfl rfl Kr rfl ?_
 (refine gW ?_;intros)
 refine loop_rule hT (S:=RO) (fun z=>([(1,dV kd),(2,dV s),(3,dV t),(4,dV kn),(5,lp 0),(12,.osl (.loc 1) z.g 0 (heldF w.fcts kd s t kn z.k).length),(13,.osl (.loc 2) z.k 0 (rdsK (keysN kd s 8) t z.k).length),(14,dV z.k)],
  ⟨[bX 29 (up (eWor w)),bV 3 1 z.g (heldF w.fcts kd s t kn z.k).length (rowsOf eI (heldF w.fcts kd s t kn z.k)),bV 107 5 z.k (rdsK (keysN kd s 8) t z.k).length (rowsOf eRed (rdsK (keysN kd s 8) t z.k))],[]⟩)) (fun z=>z.k<=8) (fun z=>8-z.k) ⟨0,0⟩ ?_ ?_ ?_
 .exact lq
 .exact Nat.zero_le _
 .rintro⟨k,g⟩ hk
  dsimp only at hk⊢
  have hkl:=keysN_len kd s 8
  by_cases hk2:k<8
  .have hL:=rlook_ok w hw ⟨kd,s,(k:Int)⟩ t kn ht
   have hr:=rdsK_succ (ks:=keysN kd s 8) t (show k<(keysN kd s 8).length by omega)
   rw[keysN_at kd s hk2]at hr
   have hrl:=rdsK_len (keysN kd s 8) t k
   have hh:heldF w.fcts kd s t kn (k+1)=heldF w.fcts kd s t kn k++(if petV w.fcts ⟨kd,s,(k:Int)⟩ t kn=1 then[(k:Int)] else[]):=rfl
   have hhl:=heldF_le w.fcts kd s t kn k
   have hp:=@lkB_pos w.fcts ⟨kd,s,(k:Int)⟩ t kn
   obtain⟨hs,hhs⟩:∃hs,heldF w.fcts kd s t kn k=hs:=⟨_,rfl⟩
   obtain⟨rs,hrs⟩:∃rs,rdsK (keysN kd s 8) t k=rs:=⟨_,rfl⟩
   rw[hhs]at hh hhl⊢
   rw[hrs]at hr hrl⊢
   have kr:Kp _:=⟨hr⟩
   clear hr hrs hhs
   generalize petV w.fcts ⟨kd,s,(k:Int)⟩ t kn=v at hL hh hp
   generalize lkB w.fcts ⟨kd,s,(k:Int)⟩ t kn=b at hL hp
   by_cases h1:v=1
   .subst h1
    rw[hp Dc]at hL
    rw[if_pos rfl]at hh
    have kh:Kp _:=⟨hh⟩
    clear hh hp
    (refine gW ?_;intros)
    refine hL.call ?_
    (refine gW ?_;intros)
    refine stp ⟨k+1,g+1⟩ ?_
    dsimp only
    rw[kr.h,kh.h,len_snoc,len_snoc]
    exact lq
   .rw[if_neg h1,List.append_nil]at hh
    have kh:Kp _:=⟨hh⟩
    clear hh hp
    cases b
    all_goals
     (refine gW ?_;intros)
     refine hL.call ?_
     (refine gW ?_;intros)
     refine stp ⟨k+1,g⟩ ?_
     dsimp only
     rw[kr.h,kh.h,len_snoc]
     exact lq
  .obtain rfl:k=8:=by omega
   rw[hkl]
   (refine gW ?_;intros)
   exact⟨⟨rfl,rfl,Nat.le_of_eq (Nat.zero_add _),rfl,fun i hi=>by rw[Nat.zero_add];rfl⟩,⟨rfl,rfl,Nat.le_of_eq (Nat.zero_add _),rfl,fun i hi=>by rw[Nat.zero_add];rfl⟩,Tt⟩
theorem rheld_ok (w:Wor)(hw:WfW w)(s t kn:Int)(ht:In .i64 (t+1)) :
 Pure Tryz.prog 40 [.agg (eWor w),di s,di t,di kn] [eInts (heldL w.fcts 6 s t kn),eReds (heldR 6 s t)]:=by
 have hO:=rof_ok w hw 6 s t kn ht
 refine pure_rule hT (T:=tab) (N:=17) (rs:=[.tmp 8,.tmp 9]) Tryz.func40 rfl rfl rfl Kr rfl ?_
 (refine gW ?_;intros)
 refine hO.call ?_
 (refine gW ?_;intros)
 exact⟨⟨rfl,rfl,fun i hi=>rfl⟩,⟨rfl,rfl,fun i hi=>rfl⟩,Tt⟩
theorem rasked_ok (s c t:Int)(nw:List Int)(hl:nw.length<=1000000):Pure Tryz.prog 39 [di s,di c,di t,eInts nw] [.bool (askedB s c t nw)]:=by
 refine pure_rule hT (T:=tab) (N:=66) (rs:=[.tmp 8]) Tryz.func39 rfl rfl rfl Kr rfl ?_
 unfold askedB
 by_cases hb:(bw s 0 19999&&(bw c 0 4095&&bw t 0 1023))=true
 case neg =>
  rw[Bool.not_eq_true]at hb
  rw[hb,Bool.and_false]
  simp only[bw,Bool.and_eq_false_iff,decide_eq_false_iff_not]at hb
  by_cases h1:s<0
  ·(refine gW ?_;intros)
   exact⟨rfl,Tt⟩
  by_cases h2:20000<=s
  ·(refine gW ?_;intros)
   exact⟨rfl,Tt⟩
  by_cases h3:c<0
  ·(refine gW ?_;intros)
   exact⟨rfl,Tt⟩
  by_cases h4:4096<=c
  ·(refine gW ?_;intros)
   exact⟨rfl,Tt⟩
  by_cases h5:t<0
  ·(refine gW ?_;intros)
   exact⟨rfl,Tt⟩
  have h6:1024<=t:=by omega
  (refine gW ?_;intros)
  exact⟨rfl,Tt⟩
 case pos =>
  rw[hb,Bool.and_true]
  simp only[bw,Bool.and_eq_true,decide_eq_true_iff]at hb
  (refine gW ?_;intros)
  refine loop_rule hT (S:=Nat) (fun k=>([(3,.d (eInts nw)),(9,dV k)],⟨[],[]⟩)) (fun k=>k<=nw.length/\(-1<=lastB nw k)/\nowB (-1) nw=nowB (lastB nw k) (nw.drop k)) (fun k=>nw.length-k) 0 ?_ ?_ ?_
  .exact lq
  .exact⟨Nat.zero_le _,Int.le_refl _,rfl⟩
  .rintro k ⟨hk,hlb,hc⟩
   dsimp only at hk hc⊢
   by_cases hk2:k<nw.length
   .rw [nowB_at hk2] at hc
    by_cases h1:lastB nw k<nw.getD k default
    case neg =>
     rw[decide_eq_false h1,Bool.false_and]at hc
     rw[hc]
     by_cases hk0:k=0
     .subst hk0
      have h1:nw.getD 0 default<0:=by
       have:lastB nw 0=-1:=rfl
       omega
      clear hc hlb
      (refine gW ?_;intros)
      exact⟨rfl,Tt⟩
     .have hlk:lastB nw k=nw.getD (k-1) default:=if_neg hk0
      rw[hlk]at h1
      rw[<-toNat_pred]at h1
      clear hc hlb hlk
      by_cases h2:nw.getD k default<0
      ·(refine gW ?_;intros)
       exact⟨rfl,Tt⟩
      by_cases h3:4096<=nw.getD k default
      ·(refine gW ?_;intros)
       exact⟨rfl,Tt⟩
      (refine gW ?_;intros)
      exact⟨rfl,Tt⟩
    case pos =>
     by_cases h2:nw.getD k default<=4095
     case neg =>
      rw[decide_eq_false h2,Bool.false_and,Bool.and_false]at hc
      rw[hc]
      clear hc
      (refine gW ?_;intros)
      exact⟨rfl,Tt⟩
     case pos =>
      rw[decide_eq_true h1,decide_eq_true h2,Bool.true_and,Bool.true_and]at hc
      have kc:Kp _:=⟨hc⟩
      clear hc
      by_cases hk0:k=0
      .subst hk0
       (refine gW ?_;intros)
       refine stp (0+1) ?_ ⟨by show 0+1<=nw.length;omega,by rw[lastB_succ];omega,kc.h⟩
       exact lq
      .have hlk:lastB nw k=nw.getD (k-1) default:=if_neg hk0
       rw[hlk,<-toNat_pred]at h1 hlb
       clear hlk
       (refine gW ?_;intros)
       refine stp (k+1) ?_ ⟨by show k+1<=nw.length;omega,by rw[lastB_succ];omega,kc.h⟩
       exact lq
   .rw[hc,drop_end Om]
    (refine gW ?_;intros)
    exact⟨rfl,Tt⟩
def decZ:Dec:=⟨0,0,0,0,0,0,0,[],[],[]⟩
theorem admit_bad0 (w:Wor)(s c t kn:Int)(nw:List Int)(hl:nw.length<=1000000)(h:askedB s c t nw=false) :
 Pure Tryz.prog 11 [.agg (eWor w),di s,di c,di t,di kn,eInts nw] [.agg (eDec decZ),di 280]:=by
 have hA:=asked_ok s c t nw hl
 rw[h]at hA
 refine pure_ruleC hT (T:=tab) (N:=116) (rs:=[.cell 12 37,.cell 13 38]) Tryz.func11 rfl rfl rfl Kr rfl ?_
 (refine gW ?_;intros)
 refine hA.call ?_
 (refine gW ?_;intros)
 exact⟨.eq (.inr ⟨rfl,rfl,rfl,rfl,rfl,rfl,rfl,rfl,rfl,rfl,Tt⟩),.d,Tt⟩
theorem radmit_bad (w:Wor)(s c t kn:Int)(nw:List Int)(hl:nw.length<=1000000)(h:askedB s c t nw=false) :
 Pure Tryz.prog 12 [.agg (eWor w),di s,di c,di t,di kn,eInts nw] [.agg (eDec decZ),di 280]:=by
 have hA:=rasked_ok s c t nw hl
 rw[h]at hA
 refine pure_ruleC hT (T:=tab) (N:=112) (rs:=[.cell 12 37,.tmp 13]) Tryz.func12 rfl rfl rfl Kr rfl ?_
 (refine gW ?_;intros)
 refine hA.call ?_
 (refine gW ?_;intros)
 exact⟨.eq (.inr ⟨rfl,rfl,rfl,rfl,rfl,rfl,rfl,rfl,rfl,rfl,Tt⟩),.d,Tt⟩
theorem rowsR4 (a b c d:List Red){f:Nat->List AV}{n1 n2 n3:Nat}(h1:n1=a.length)(h2:n2=a.length+b.length)(h3:n3=a.length+b.length+c.length)(i:Nat):joinF n3 (joinF n2 (joinF n1 (joinF 0 f (fun i=>up (eRed (a.getD i default)))) (fun i=>up (eRed (b.getD i default)))) (fun i=>up (eRed (c.getD i default)))) (fun i=>up (eRed (d.getD i default))) i=up (eRed ((a++b++c++d).getD i default)):=by
 have e0:joinF 0 f (fun i=>up (eRed (a.getD i default)))=rowsOf eRed a:=rfl
 have e1:joinF n1 (rowsOf eRed a) (fun i=>up (eRed (b.getD i default)))=rowsOf eRed (a++b):=funext (rowsOf_catD eRed a b h1)
 have e2:joinF n2 (rowsOf eRed (a++b)) (fun i=>up (eRed (c.getD i default)))=rowsOf eRed (a++b++c):=funext (rowsOf_catD eRed (a++b) c (by rw[List.length_append,h2]))
 rw[e0,e1,e2,rowsOf_catD eRed (a++b++c) d (by rw[List.length_append,List.length_append,h3])]
 rfl
theorem radmit_ok (w:Wor)(hw:WfW w)(hl:w.fcts.length<=50)(s c t kn:Int)(nw:List Int)(hnl:nw.length<=1000000)(h:askedB s c t nw=true)
 (hS:Pure Tryz.prog 42 [.agg (eWor w),di s,di t,di kn,eInts nw] [.agg (eSit (sitV w s t kn nw)),eReds (sitR w s t kn),di 0]) (hR:(sitR w s t kn).length<=500000) :
 Pure Tryz.prog 12 [.agg (eWor w),di s,di c,di t,di kn,eInts nw] [.agg (eDec (admV w s c t kn nw)),di 0]:=by
 have hA:=rasked_ok s c t nw hnl
 rw[h]at hA
 have ht:0<=t/\t<=1023:=by
  simp only[askedB,bw,Bool.and_eq_true,decide_eq_true_iff]at h
  exact h.2.2.2
 have hit:In .i64 (t+1):=in64.2 Om
 have hH:=rheld_ok w hw s t kn hit
 have hC:=rcourse14_ok w hw c t kn
 have hP:=ractive_ok w hw 7 s c t kn hit
 have hp0:=petV_nn w.fcts ⟨7,s,c⟩ t kn
 have hx1:(heldR 6 s t).length=8:=by simp[heldR]
 have hx2:(readsT ⟨1,c,0⟩ t).length<=1:=readsT_len _ _
 have hD:eDec (admV w s c t kn nw)=[di 1,di s,di c,di t,di (ansV w s c t kn nw),di (ansV w s c t kn nw),di kn,eInts nw,eReds (heldR 6 s t++readsT ⟨1,c,0⟩ t++sitR w s t kn++[rdK ⟨7,s,c⟩ t]),eInts (namV w s c t kn nw)]:=rfl
 rw[hD]
 have hWS:=sitV_wf (w:=w) Om s t kn nw
 have hcs:=@crs_some w hw c t kn
 unfold ansV namV outB heldN allowV petC crsD
 clear hD h
 generalize sitV w s t kn nw=st at hS hWS⊢
 generalize sitR w s t kn=r3 at hS hR⊢
 generalize readsT ⟨1,c,0⟩ t=r2 at hC hx2⊢
 generalize heldR 6 s t=r1 at hH hx1⊢
 obtain⟨r4,hr4⟩:∃r,[rdK ⟨7,s,c⟩ t]=r:=⟨_,rfl⟩
 have hx4:r4.length=1:=by rw[<-hr4];rfl
 rw[hr4]at hP⊢
 clear hr4
 generalize heldL w.fcts 6 s t kn=hs at hH⊢
 generalize crsOf w c t kn=oc at hC hcs⊢
 generalize petV w.fcts ⟨7,s,c⟩ t kn=pv at hP hp0⊢
 by_cases hn:0<hs.length
 .have he:hs.isEmpty=false:=by
   cases hs with
   |nil=>cases hn
   |cons=>rfl
  rw[he,show(!false||!oc.isSome)=true from rfl,if_pos rfl,if_pos rfl]
  obtain⟨isb,hisb⟩:∃b,oc.isSome=b:=⟨_,rfl⟩
  rw[hisb]at hC
  generalize oc.getD default=oo at hC
  clear hcs hWS hp0 hisb
  refine pure_ruleC hT (T:=tab) (N:=112) (rs:=[.cell 12 37,.tmp 13]) Tryz.func12 rfl rfl rfl Kr rfl ?_
  (refine gW ?_;intros)
  refine hA.call ?_
  (refine gW ?_;intros)
  refine hH.call ?_
  (refine gW ?_;intros)
  refine hC.call ?_
  (refine gW ?_;intros)
  refine hS.call ?_
  (refine gW ?_;intros)
  refine hP.call ?_
  (refine gW ?_;intros)
  exact⟨BecP.agg' ⟨.d,.d,.d,.d,.d,.d,.d,.d,rowsC (by simp only[List.length_append];omega) rfl Om (fun i hi=>by rw[Nat.zero_add];exact rowsR4 r1 r2 r3 r4 Om Om Om i),.eq rfl,Tt⟩,.d,Tt⟩
 .have hn0:hs=[]:=List.eq_nil_of_length_eq_zero Om
  subst hn0
  rw[show(!([]:List Int).isEmpty||!oc.isSome)=!oc.isSome from rfl]
  cases oc with
  | none =>
    rw[show(none:Option Crs).isSome=false from rfl]at hC⊢
    rw[show(!false)=true from rfl,if_pos rfl,if_pos rfl]
    generalize (none:Option Crs).getD default=oo at hC
    clear hcs hWS hp0
    refine pure_ruleC hT (T:=tab) (N:=112) (rs:=[.cell 12 37,.tmp 13]) Tryz.func12 rfl rfl rfl Kr rfl ?_
    (refine gW ?_;intros)
    refine hA.call ?_
    (refine gW ?_;intros)
    refine hH.call ?_
    (refine gW ?_;intros)
    refine hC.call ?_
    (refine gW ?_;intros)
    refine hS.call ?_
    (refine gW ?_;intros)
    refine hP.call ?_
    (refine gW ?_;intros)
    exact⟨BecP.agg' ⟨.d,.d,.d,.d,.d,.d,.d,.d,rowsC (by simp only[List.length_append];omega) rfl Om (fun i hi=>by rw[Nat.zero_add];exact rowsR4 r1 r2 r3 r4 Om Om Om i),.eq rfl,Tt⟩,.d,Tt⟩
  | some x =>
    obtain⟨w1,w2,c1,c2⟩:=hcs rfl
    have hAl:=rallows_ok x w1 w2 c1 c2 st hWS
    rw[show(some x).isSome=true from rfl]at hC⊢
    rw[show(some x).getD default=x from rfl]at hC⊢
    rw[show(!true)=false from rfl,if_neg (show ¬ (false=true) by decide),if_neg (show ¬ (false=true) by decide)]
    clear hcs hWS
    cases ha:valR st x.need&&!valR st x.bar
    .rw[ha]at hAl
     rw[if_neg (show ¬ (false=true) by decide),if_neg (show ¬ (false=true) by decide)]
     by_cases hp:0<pv
     .rw[if_pos hp,if_pos hp]
      rw[decide_eq_true hp]at hP
      refine pure_ruleC hT (T:=tab) (N:=112) (rs:=[.cell 12 37,.tmp 13]) Tryz.func12 rfl rfl rfl Kr rfl ?_
      (refine gW ?_;intros)
      refine hA.call ?_
      (refine gW ?_;intros)
      refine hH.call ?_
      (refine gW ?_;intros)
      refine hC.call ?_
      (refine gW ?_;intros)
      refine hS.call ?_
      (refine gW ?_;intros)
      refine hP.call ?_
      (refine gW ?_;intros)
      refine hAl.call ?_
      (refine gW ?_;intros)
      exact⟨BecP.agg' ⟨.d,.d,.d,.d,.d,.d,.d,.d,rowsC (by simp only[List.length_append];omega) rfl Om (fun i hi=>by rw[Nat.zero_add];exact rowsR4 r1 r2 r3 r4 Om Om Om i),BecP.rows rfl (Nat.le_refl _) (fun i hi=>by rw[show i=0 from Nat.lt_one_iff.1 hi];rfl),Tt⟩,.d,Tt⟩
     .rw[if_neg hp,if_neg hp]
      rw[decide_eq_false hp]at hP
      refine pure_ruleC hT (T:=tab) (N:=112) (rs:=[.cell 12 37,.tmp 13]) Tryz.func12 rfl rfl rfl Kr rfl ?_
      (refine gW ?_;intros)
      refine hA.call ?_
      (refine gW ?_;intros)
      refine hH.call ?_
      (refine gW ?_;intros)
      refine hC.call ?_
      (refine gW ?_;intros)
      refine hS.call ?_
      (refine gW ?_;intros)
      refine hP.call ?_
      (refine gW ?_;intros)
      refine hAl.call ?_
      (refine gW ?_;intros)
      exact⟨BecP.agg' ⟨.d,.d,.d,.d,.d,.d,.d,.d,rowsC (by simp only[List.length_append];omega) rfl Om (fun i hi=>by rw[Nat.zero_add];exact rowsR4 r1 r2 r3 r4 Om Om Om i),.eq rfl,Tt⟩,.d,Tt⟩
    .rw[ha]at hAl
     rw[if_pos (show true=true from rfl),if_pos (show true=true from rfl)]
     refine pure_ruleC hT (T:=tab) (N:=112) (rs:=[.cell 12 37,.tmp 13]) Tryz.func12 rfl rfl rfl Kr rfl ?_
     (refine gW ?_;intros)
     refine hA.call ?_
     (refine gW ?_;intros)
     refine hH.call ?_
     (refine gW ?_;intros)
     refine hC.call ?_
     (refine gW ?_;intros)
     refine hS.call ?_
     (refine gW ?_;intros)
     refine hP.call ?_
     (refine gW ?_;intros)
     refine hAl.call ?_
     (refine gW ?_;intros)
     exact⟨BecP.agg' ⟨.d,.d,.d,.d,.d,.d,.d,.d,rowsC (by simp only[List.length_append];omega) rfl Om (fun i hi=>by rw[Nat.zero_add];exact rowsR4 r1 r2 r3 r4 Om Om Om i),.eq rfl,Tt⟩,.d,Tt⟩
theorem rwhy_bad (w:Wor)(s c t kn:Int)(nw:List Int)(hl:nw.length<=1000000)(h:askedB s c t nw=false) :
 Pure Tryz.prog 14 [.agg (eWor w),di s,di c,di t,di kn,eInts nw] [eInts [],di 280]:=by
 have hA:=radmit_bad w s c t kn nw hl h
 refine pure_ruleC hT (T:=tab) (N:=100) (rs:=[.tmp 12,.tmp 13]) Tryz.func14 rfl rfl rfl Kr rfl ?_
 (refine gW ?_;intros)
 refine hA.call ?_
 (refine gW ?_;intros)
 exact⟨BecP.eq rfl,BecP.d,Tt⟩
theorem rwhy_none (w:Wor)(hw:WfW w)(s c t kn:Int)(nw:List Int)(h:(crsOf w c t kn).isSome=false)
 (hA:Pure Tryz.prog 12 [.agg (eWor w),di s,di c,di t,di kn,eInts nw] [.agg (eDec (admV w s c t kn nw)),di 0]) :
 Pure Tryz.prog 14 [.agg (eWor w),di s,di c,di t,di kn,eInts nw] [eInts [],di 280]:=by
 have hC:=rcourse14_ok w hw c t kn
 rw[h]at hC
 generalize (crsOf w c t kn).getD default=oo at hC
 generalize admV w s c t kn nw=dd at hA
 refine pure_ruleC hT (T:=tab) (N:=100) (rs:=[.tmp 12,.tmp 13]) Tryz.func14 rfl rfl rfl Kr rfl ?_
 (refine gW ?_;intros)
 refine hA.call ?_
 (refine gW ?_;intros)
 refine hC.call ?_
 (refine gW ?_;intros)
 exact⟨BecP.eq rfl,BecP.d,Tt⟩
theorem rwhy_ok (w:Wor) (hw:WfW w) (hl:w.fcts.length≤50) (s c t kn:Int) (nw:List Int) (x:Crs) (hx:crsOf w c t kn=some x)
 (hA:Pure Tryz.prog 12 [.agg (eWor w),di s,di c,di t,di kn,eInts nw] [.agg (eDec (admV w s c t kn nw)),di 0])
 (hS:Pure Tryz.prog 42 [.agg (eWor w),di s,di t,di kn,eInts nw] [.agg (eSit (sitV w s t kn nw)),eReds (sitR w s t kn),di 0]) :
 Pure Tryz.prog 14 [.agg (eWor w),di s,di c,di t,di kn,eInts nw] [eInts (whyL w s c t kn nw),di 0]:=by
 have hC:=rcourse14_ok w hw c t kn
 obtain⟨w1,w2,c1,c2⟩:=crs_some hw hx
 have hWS:=sitV_wf (w:=w) Om s t kn nw
 have hwl:whyL w s c t kn nw=(if valR (sitV w s t kn nw) x.bar=true then[-1] else[])++failF (sitV w s t kn nw) (partsR x.need) (partsR x.need).length:=by
  unfold whyL crsD
  rw[hx]
  rfl
 rw[hwl]
 rw[hx]at hC
 rw[show(some x).isSome=true from rfl,show(some x).getD default=x from rfl]at hC
 have hB:=rvalue_ok _ hWS x.bar w2 c2
 have hN:=rvalue_ok _ hWS x.need w1 c1
 clear hwl hx
 generalize sitV w s t kn nw=st at hS hWS hB hN⊢
 generalize sitR w s t kn=rr at hS
 generalize admV w s c t kn nw=dd at hA
 generalize readsT ⟨1,c,0⟩ t=r2 at hC
 by_cases h1:x.need.op=1
 case neg =>
  rw[show partsR x.need=[x.need] by rw[partsR,if_neg h1]]
  rw[show failF st [x.need] [x.need].length=if valR st x.need=true then[] else[0] by
   show failF st [x.need] 0++(if valR st ([x.need].getD 0 default)=true then[] else[((0:Nat):Int)])=_
   rfl]
  cases hb:valR st x.bar<;>rw[hb]at hB<;>cases hv:valR st x.need<;>rw[hv]at hN
  .rw[if_neg Dc,if_neg Dc]
   refine pure_ruleC hT (T:=tab) (N:=100) (rs:=[.tmp 12,.tmp 13]) Tryz.func14 rfl rfl rfl Kr rfl ?_
   (refine gW ?_;intros)
   refine hA.call ?_
   (refine gW ?_;intros)
   refine hC.call ?_
   (refine gW ?_;intros)
   refine hS.call ?_
   (refine gW ?_;intros)
   refine hB.call ?_
   (refine gW ?_;intros)
   refine hN.call ?_
   (refine gW ?_;intros)
   trace_state
   exact⟨BecP.rows rfl (Nat.le_refl _) (fun i hi=>by rw[show i=0 from Nat.lt_one_iff.1 hi];rfl),.d,Tt⟩
  .rw[if_neg Dc,if_pos rfl]
   refine pure_ruleC hT (T:=tab) (N:=100) (rs:=[.tmp 12,.tmp 13]) Tryz.func14 rfl rfl rfl Kr rfl ?_
   (refine gW ?_;intros)
   refine hA.call ?_
   (refine gW ?_;intros)
   refine hC.call ?_
   (refine gW ?_;intros)
   refine hS.call ?_
   (refine gW ?_;intros)
   refine hB.call ?_
   (refine gW ?_;intros)
   refine hN.call ?_
   (refine gW ?_;intros)
   exact⟨.eq rfl,.d,Tt⟩
  .rw[if_pos rfl,if_neg Dc]
   refine pure_ruleC hT (T:=tab) (N:=100) (rs:=[.tmp 12,.tmp 13]) Tryz.func14 rfl rfl rfl Kr rfl ?_
   (refine gW ?_;intros)
   refine hA.call ?_
   (refine gW ?_;intros)
   refine hC.call ?_
   (refine gW ?_;intros)
   refine hS.call ?_
   (refine gW ?_;intros)
   refine hB.call ?_
   (refine gW ?_;intros)
   refine hN.call ?_
   (refine gW ?_;intros)
   trace_state
   exact⟨BecP.rows rfl (Nat.le_refl _) (fun i hi=>by
    have hi:i<2:=hi
    rcases i with _|_|i
    .rfl
    .rfl
    .omega),.d,Tt⟩
  .rw[if_pos rfl,if_pos rfl]
   refine pure_ruleC hT (T:=tab) (N:=100) (rs:=[.tmp 12,.tmp 13]) Tryz.func14 rfl rfl rfl Kr rfl ?_
   (refine gW ?_;intros)
   refine hA.call ?_
   (refine gW ?_;intros)
   refine hC.call ?_
   (refine gW ?_;intros)
   refine hS.call ?_
   (refine gW ?_;intros)
   refine hB.call ?_
   (refine gW ?_;intros)
   refine hN.call ?_
   (refine gW ?_;intros)
   exact⟨BecP.rows rfl (Nat.le_refl _) (fun i hi=>by rw[show i=0 from Nat.lt_one_iff.1 hi];rfl),.d,Tt⟩
 case pos =>
  rw[show partsR x.need=x.need.kids by rw[partsR,if_pos h1]]
  have hkl:=(chkR_top c1).2
  have hkd:∀p∈x.need.kids,Pure Tryz.prog 46 [.agg (eRule p),.agg (eSit st)] [.bool (valR st p)]:=fun p hp=>rvalue_ok _ hWS p ((wfR_kids w1).2 p hp) (chkR_kid c1 hp)
  have kkd:Kp _:=⟨hkd⟩
  clear hkd w1 w2 c1 c2 hWS hN
  cases hb:valR st x.bar<;>rw[hb]at hB
  .rw [if_neg (by decide)]
   refine pure_ruleC hT (T:=tab) (N:=100) (rs:=[.tmp 12,.tmp 13]) Tryz.func14 rfl rfl rfl Kr rfl ?_
   (refine gW ?_;intros)
   refine hA.call ?_
   (refine gW ?_;intros)
   refine hC.call ?_
   (refine gW ?_;intros)
   refine hS.call ?_
   (refine gW ?_;intros)
   refine hB.call ?_
   (refine gW ?_;intros)
   refine Awp.vec 22 3 1 (rowsOf eI []) rfl ?_
   refine loop_rule hT (S:=Nat × Nat) (fun z=>([(16,lp 2),(19,lp 3),(22,.osl (.loc 4) z.2 0 (([]:List Int)++failF st x.need.kids z.1).length),(23,dV z.1)],⟨[none,none,bX 54 (up (eCrs x)),bX 61 (up (eSit st)),bV 3 1 z.2 (([]:List Int)++failF st x.need.kids z.1).length (rowsOf eI (([]:List Int)++failF st x.need.kids z.1))],[]⟩)) (fun z=>z.1<=x.need.kids.length) (fun z=>x.need.kids.length-z.1) (0,0) ?_ ?_ ?_
   .rw [show ([]:List Int) ++ failF st x.need.kids 0=([]:List Int) from List.append_nil _]
    repeat' (first|exact Tt|exact rfl|exact Nat.le_refl _|refine And.intro ?_ ?_)
    all_goals first
     |(intro j hj;exact absurd hj (Nat.not_lt_zero j))
     | (intro j hj
        have hj:j<1:=hj
        obtain rfl:j=0:=Nat.lt_one_iff.1 hj
        exact⟨rfl,rfl⟩)
   .exact Nat.zero_le _
   rintro⟨k,g⟩ hk
   dsimp only at hk⊢
   have hfl:=failF_len st x.need.kids k
   obtain⟨l,hl0⟩:∃l,([]:List Int)++failF st x.need.kids k=l:=⟨_,rfl⟩
   have hll:l.length<=k+1:=by
    rw[<-hl0,List.length_append]
    have:(([]:List Int)).length<=1:=by decide
    omega
   rw[hl0]
   by_cases hk2:k<x.need.kids.length
   .have hv:=kkd.h _ (getD_mem hk2)
    have hF:([]:List Int)++failF st x.need.kids (k+1)=l++(if valR st (x.need.kids.getD k default)=true then[] else[(k:Int)]):=by rw[failF,<-List.append_assoc,hl0]
    have hce:eCrs x=[.str x.name,di x.number,di x.credits,di x.rep,di x.need.op,di x.need.course,.str x.need.name,di x.need.n,di x.need.d,.sl 6 x.need.kids.length fun i=>eRule (x.need.kids.getD i default),di x.bar.op,di x.bar.course,.str x.bar.name,di x.bar.n,di x.bar.d,eRules x.bar.kids]:=by
     unfold eCrs
     rw[eRules_ne (fun e=>by rw[e]at hk2;cases hk2)]
    rw[hce]
    clear hce hl0 hfl hA hC hS hB
    cases hb2:valR st (x.need.kids.getD k default)<;>rw[hb2]at hv hF
    .rw[if_neg Dc]at hF
     have kF:Kp _:=⟨hF⟩
     clear hF kkd hb2
     (refine gW ?_;intros)
     refine qC hv ?_
     (refine gW ?_;intros)
     refine⟨(k+1,g+1),by show k+1<=x.need.kids.length;omega,by show x.need.kids.length-(k+1)<x.need.kids.length-k;omega,?_⟩
     dsimp only
     rw[kF.h,len_snoc]
     repeat' (first|exact Tt|exact rfl|exact Nat.le_refl _|refine And.intro ?_ ?_)
     all_goals first
      |(intro j hj;exact⟨rowsOf_join' eI l (k:Int) rfl j hj,rfl⟩)
      |(intro j hj;exact⟨rfl,rfl⟩)
    .rw[if_pos rfl,List.append_nil]at hF
     have kF:Kp _:=⟨hF⟩
     clear hF kkd hb2
     (refine gW ?_;intros)
     refine qC hv ?_
     (refine gW ?_;intros)
     refine⟨(k+1,g),by show k+1<=x.need.kids.length;omega,by show x.need.kids.length-(k+1)<x.need.kids.length-k;omega,?_⟩
     dsimp only
     rw[kF.h]
     repeat' (first|exact Tt|exact rfl|exact Nat.le_refl _|refine And.intro ?_ ?_)
     all_goals first
      |(intro j hj;exact⟨rfl,rfl⟩)
   .obtain rfl:k=x.need.kids.length:=by omega
    rw[hl0]
    clear kkd
    (refine gW ?_;intros)
    exact⟨BecP.rows rfl (Nat.le_of_eq (Nat.zero_add _)) (fun i hi=>by rw[Nat.zero_add];rfl),.d,Tt⟩
  .rw [if_pos rfl]
   refine pure_ruleC hT (T:=tab) (N:=100) (rs:=[.tmp 12,.tmp 13]) Tryz.func14 rfl rfl rfl Kr rfl ?_
   (refine gW ?_;intros)
   refine hA.call ?_
   (refine gW ?_;intros)
   refine hC.call ?_
   (refine gW ?_;intros)
   refine hS.call ?_
   (refine gW ?_;intros)
   refine hB.call ?_
   (refine gW ?_;intros)
   refine loop_rule hT (S:=Nat × Nat) (fun z=>([(16,lp 2),(19,lp 3),(22,.osl (.loc 5) z.2 0 (([-1]:List Int)++failF st x.need.kids z.1).length),(23,dV z.1)],⟨[none,none,bX 54 (up (eCrs x)),bX 61 (up (eSit st)),none,bV 3 1 z.2 (([-1]:List Int)++failF st x.need.kids z.1).length (rowsOf eI (([-1]:List Int)++failF st x.need.kids z.1))],[]⟩)) (fun z=>z.1<=x.need.kids.length) (fun z=>x.need.kids.length-z.1) (0,0) ?_ ?_ ?_
   .rw [show ([-1]:List Int) ++ failF st x.need.kids 0=([-1]:List Int) from List.append_nil _]
    repeat' (first|exact Tt|exact rfl|exact Nat.le_refl _|refine And.intro ?_ ?_)
    all_goals first
     |(intro j hj;exact absurd hj (Nat.not_lt_zero j))
     | (intro j hj
        have hj:j<1:=hj
        obtain rfl:j=0:=Nat.lt_one_iff.1 hj
        exact⟨rfl,rfl⟩)
   .exact Nat.zero_le _
   rintro⟨k,g⟩ hk
   dsimp only at hk⊢
   have hfl:=failF_len st x.need.kids k
   obtain⟨l,hl0⟩:∃l,([-1]:List Int)++failF st x.need.kids k=l:=⟨_,rfl⟩
   have hll:l.length<=k+1:=by
    rw[<-hl0,List.length_append]
    have:(([-1]:List Int)).length<=1:=by decide
    omega
   rw[hl0]
   by_cases hk2:k<x.need.kids.length
   .have hv:=kkd.h _ (getD_mem hk2)
    have hF:([-1]:List Int)++failF st x.need.kids (k+1)=l++(if valR st (x.need.kids.getD k default)=true then[] else[(k:Int)]):=by rw[failF,<-List.append_assoc,hl0]
    have hce:eCrs x=[.str x.name,di x.number,di x.credits,di x.rep,di x.need.op,di x.need.course,.str x.need.name,di x.need.n,di x.need.d,.sl 6 x.need.kids.length fun i=>eRule (x.need.kids.getD i default),di x.bar.op,di x.bar.course,.str x.bar.name,di x.bar.n,di x.bar.d,eRules x.bar.kids]:=by
     unfold eCrs
     rw[eRules_ne (fun e=>by rw[e]at hk2;cases hk2)]
    rw[hce]
    clear hce hl0 hfl hA hC hS hB
    cases hb2:valR st (x.need.kids.getD k default)<;>rw[hb2]at hv hF
    .rw[if_neg Dc]at hF
     have kF:Kp _:=⟨hF⟩
     clear hF kkd hb2
     (refine gW ?_;intros)
     refine qC hv ?_
     (refine gW ?_;intros)
     refine⟨(k+1,g+1),by show k+1<=x.need.kids.length;omega,by show x.need.kids.length-(k+1)<x.need.kids.length-k;omega,?_⟩
     dsimp only
     rw[kF.h,len_snoc]
     repeat' (first|exact Tt|exact rfl|exact Nat.le_refl _|refine And.intro ?_ ?_)
     all_goals first
      |(intro j hj;exact⟨rowsOf_join' eI l (k:Int) rfl j hj,rfl⟩)
      |(intro j hj;exact⟨rfl,rfl⟩)
    .rw[if_pos rfl,List.append_nil]at hF
     have kF:Kp _:=⟨hF⟩
     clear hF kkd hb2
     (refine gW ?_;intros)
     refine qC hv ?_
     (refine gW ?_;intros)
     refine⟨(k+1,g),by show k+1<=x.need.kids.length;omega,by show x.need.kids.length-(k+1)<x.need.kids.length-k;omega,?_⟩
     dsimp only
     rw[kF.h]
     repeat' (first|exact Tt|exact rfl|exact Nat.le_refl _|refine And.intro ?_ ?_)
     all_goals first
      |(intro j hj;exact⟨rfl,rfl⟩)
   .obtain rfl:k=x.need.kids.length:=by omega
    rw[hl0]
    clear kkd
    (refine gW ?_;intros)
    exact⟨BecP.rows rfl (Nat.le_of_eq (Nat.zero_add _)) (fun i hi=>by rw[Nat.zero_add];rfl),.d,Tt⟩
end Go.Proofs.YtkjmomadndmeaaaGreatDoor
