import Derived.Test.YtkjmomadndmeaaaGreatDoorRecB
import Derived.Test.YtkjmomadndmeaaaGreatDoorRuleE
import Derived.Test.YtkjmomadndmeaaaGreatDoorSitP
import Derived.Test.YtkjmomadndmeaaaGreatDoorEngAS
namespace Go.Proofs.YtkjmomadndmeaaaGreatDoor
set_option linter.unusedSimpArgs false
set_option linter.unusedVariables false
open Go Go.Ab
set_option maxRecDepth 100000
set_option maxHeartbeats 0
theorem about_ok (s:Sit)(hs:s.seen.length<=100000)(c:Int):Pure Tryz.prog 297 [.agg (eSit s),di c] [.agg (eSen (abtS s c))]:=by
 refine pure_rule hT (T:=tab) (N:=22) (rs:=[.cell 4 115]) Tryz.func297 rfl rfl rfl Kr rfl ?_
 (refine gW ?_;intros)
 refine loop_rule hT (S:=Nat) (fun k=>([(1,dV c),(4,lp 1),(8,.d (eSens s.seen)),(9,dV s.seen.length),(10,dV k)],⟨[none,bX 115 (up [di 0,di 0,di 0,.bool false])],[]⟩))
  (fun k=>k<=s.seen.length/\(s.seen.find? fun x=>decide (x.course=c))=((s.seen.drop k).find? fun x=>decide (x.course=c))) (fun k=>s.seen.length-k) 0 ?_ ?_ ?_
 .exact lq
 .exact⟨Nat.zero_le _,rfl⟩
 .rintro k ⟨hk,hc⟩
  have kc:Kp _:=⟨hc⟩
  clear hc
  unfold abtS
  by_cases hk2:k<s.seen.length
  .by_cases he:(s.seen.getD k default).course=c
   .have:(s.seen.find? fun x=>decide (x.course=c))=some (s.seen.getD k default):=by
     rw[kc.h,drop_at hk2,List.find?_cons_of_pos (by simpa using he)]
    rw[this]
    (refine gW ?_;intros)
    exact⟨.inl rfl,Tt⟩
   ·(refine gW ?_;intros)
    refine⟨k+1,⟨by show k+1<=s.seen.length;omega,by rw[kc.h,drop_at hk2,List.find?_cons_of_neg (by simpa using he)]⟩,by show s.seen.length-(k+1)<s.seen.length-k;omega,?_⟩
    exact lq
  .rw[kc.h,drop_end Om]
   (refine gW ?_;intros)
   exact⟨.inl rfl,Tt⟩
theorem hold1_ok (r:Rule)(s:Sit)(k:Nat):Pure Tryz.prog 287 [.agg (eRule r),.agg (eSit s),di k] [.bool (decide (k=r.kids.length))]:=by
 refine pure_rule hT (T:=tab) (N:=12) (rs:=[.tmp 6]) Tryz.func287 rfl rfl rfl Kr rfl ?_
 (refine gW ?_;intros)
 refine⟨congrArg D.bool ?_,Tt⟩
 exact Bool.eq_iff_iff.2 (by simp only[decide_eq_true_iff];omega)
theorem hold2_ok (r:Rule)(s:Sit)(k:Nat):Pure Tryz.prog 289 [.agg (eRule r),.agg (eSit s),di k] [.bool (decide (0<k))]:=by
 refine pure_rule hT (T:=tab) (N:=9) (rs:=[.tmp 6]) Tryz.func289 rfl rfl rfl Kr rfl ?_
 (refine gW ?_;intros)
 refine⟨congrArg D.bool ?_,Tt⟩
 exact Bool.eq_iff_iff.2 (by simp only[decide_eq_true_iff];omega)
theorem hold3_ok (r:Rule)(s:Sit)(k:Nat):Pure Tryz.prog 291 [.agg (eRule r),.agg (eSit s),di k] [.bool (decide (r.n<=k))]:=by
 refine pure_rule hT (T:=tab) (N:=11) (rs:=[.tmp 6]) Tryz.func291 rfl rfl rfl Kr rfl ?_
 (refine gW ?_;intros)
 refine⟨congrArg D.bool ?_,Tt⟩
 rfl
theorem hold4_ok (r:Rule)(s:Sit)(k:Nat):Pure Tryz.prog 293 [.agg (eRule r),.agg (eSit s),di k] [.bool (decide (k=0))]:=by
 refine pure_rule hT (T:=tab) (N:=9) (rs:=[.tmp 6]) Tryz.func293 rfl rfl rfl Kr rfl ?_
 (refine gW ?_;intros)
 refine⟨congrArg D.bool ?_,Tt⟩
 exact Bool.eq_iff_iff.2 (by simp only[decide_eq_true_iff];omega)
theorem hold5_ok (r:Rule)(s:Sit)(hs:s.seen.length<=100000)(k:Nat):Pure Tryz.prog 296 [.agg (eRule r),.agg (eSit s),di k] [.bool (decide (r.n<=(abtS s r.course).best))]:=by
 have hA:=about_ok s hs r.course
 refine pure_rule hT (T:=tab) (N:=15) (rs:=[.tmp 6]) Tryz.func296 rfl rfl rfl Kr rfl ?_
 (refine gW ?_;intros)
 refine qC hA ?_
 (refine gW ?_;intros)
 exact⟨rfl,Tt⟩
theorem hold6_ok (r:Rule)(s:Sit)(hs:s.seen.length<=100000)(k:Nat):Pure Tryz.prog 299 [.agg (eRule r),.agg (eSit s),di k] [.bool (decide (r.n<=(abtS s r.course).tries))]:=by
 have hA:=about_ok s hs r.course
 refine pure_rule hT (T:=tab) (N:=15) (rs:=[.tmp 6]) Tryz.func299 rfl rfl rfl Kr rfl ?_
 (refine gW ?_;intros)
 refine qC hA ?_
 (refine gW ?_;intros)
 exact⟨rfl,Tt⟩
theorem hold7_ok (r:Rule)(s:Sit)(k:Nat):Pure Tryz.prog 301 [.agg (eRule r),.agg (eSit s),di k] [.bool (decide (r.n<=s.earned))]:=by
 refine pure_rule hT (T:=tab) (N:=12) (rs:=[.tmp 6]) Tryz.func301 rfl rfl rfl Kr rfl ?_
 (refine gW ?_;intros)
 exact⟨rfl,Tt⟩
theorem hold9_ok (r:Rule)(s:Sit)(hs:s.seen.length<=100000)(k:Nat):Pure Tryz.prog 305 [.agg (eRule r),.agg (eSit s),di k] [.bool (abtS s r.course).now]:=by
 have hA:=about_ok s hs r.course
 refine pure_rule hT (T:=tab) (N:=12) (rs:=[.tmp 6]) Tryz.func305 rfl rfl rfl Kr rfl ?_
 (refine gW ?_;intros)
 refine hA.call ?_
 (refine gW ?_;intros)
 exact⟨rfl,Tt⟩
theorem hold8_ok (r:Rule)(s:Sit)(k:Nat)(hr:chkQ r.n r.d=0)(hs:chkQ s.mn s.md=0):Pure Tryz.prog 303 [.agg (eRule r),.agg (eSit s),di k] [.bool (decide (r.n*s.md<=s.mn*r.d))]:=by
 have hC:=compare_ok s.mn s.md r.n r.d hs hr
 have e:decide (0<=cmpI (s.mn*r.d) (r.n*s.md))=decide (r.n*s.md<=s.mn*r.d):=by
  unfold cmpI
  refine Bool.eq_iff_iff.2 ?_
  simp only[decide_eq_true_iff]
  split
  .omega
  .split<;>omega
 rw[<-e]
 refine pure_rule hT (T:=tab) (N:=22) (rs:=[.tmp 6]) Tryz.func303 rfl rfl rfl Kr rfl ?_
 (refine gW ?_;intros)
 refine hC.call ?_
 (refine gW ?_;intros)
 exact⟨rfl,Tt⟩
theorem value1_ok (s:Sit)(hs:WfS s)(r:Rule)(ho:r.op=1)(hl:r.kids.length<=200)(hk:∀k∈r.kids,Pure Tryz.prog 65 [.agg (eRule k),.agg (eSit s)] [.bool (valR s k)])(hH:∀n:Nat,Pure Tryz.prog 287 [.agg (eRule r),.agg (eSit s),di n] [.bool (holdB s r n)]) :
 Pure Tryz.prog 65 [.agg (eRule r),.agg (eSit s)] [.bool (valR s r)]:=by
 rw[valR_eq]
 have hH':=hH (valRs s r.kids)
 have eo:eRule r=[di 1,di r.course,.str r.name,di r.n,di r.d,eRules r.kids]:=by rw[eRule,ho]
 rw[eo]at hH'⊢
 refine pure_rule hT (T:=tab) (N:=30) (rs:=[.tmp 4]) Tryz.func65 rfl rfl rfl Kr rfl ?_
 (refine gW ?_;intros)
 refine loop_rule hT (S:=Nat) (fun k=>([(2,lp 0),(3,lp 1),(5,dV (valRs s (r.kids.take k))),(9,.d (eRules r.kids)),(10,dV r.kids.length),(11,dV k)],⟨[bX 52 (up [di 1,di r.course,.str r.name,di r.n,di r.d,eRules r.kids]),bX 61 (up (eSit s))],[]⟩))
  (fun k=>k<=r.kids.length) (fun k=>r.kids.length-k) 0 ?_ ?_ ?_
 .exact lq
  all_goals (rw[List.take_zero,valRs_nil];rfl)
 .exact Nat.zero_le _
 .intro k hk1
  dsimp only at hk1⊢
  by_cases hk2:k<r.kids.length
  .have hne:r.kids≠[]:=fun e=>by rw[e]at hk2;exact absurd hk2 (Nat.not_lt_zero _)
   have hV:=hk _ (getD_mem hk2)
   have hn:=valRs_succ s hk2
   have hle:=valRs_le s (r.kids.take k)
   rw[List.length_take]at hle
   have kn:Kp _:=⟨hn⟩
   clear hn
   rw[eRules_ne hne]
   cases hv:valR s (r.kids.getD k default)<;>rw[hv]at hV
   ·(refine gW ?_;intros)
    refine hV.call ?_
    (refine gW ?_;intros)
    refine⟨k+1,by show k+1<=r.kids.length;omega,by show r.kids.length-(k+1)<r.kids.length-k;omega,?_⟩
    dsimp only
    rw[kn.h,hv]
    exact lq
   ·(refine gW ?_;intros)
    refine hV.call ?_
    (refine gW ?_;intros)
    refine⟨k+1,by show k+1<=r.kids.length;omega,by show r.kids.length-(k+1)<r.kids.length-k;omega,?_⟩
    dsimp only
    rw[kn.h,hv]
    exact lq
  .have ht:r.kids.take k=r.kids:=List.take_of_length_le Om
   rw[ht]
   (refine gS ?_;intros)
   refine Sq.go ?_;(refine gS ?_;intros)
   refine Sq.alt (Awp.le (env':=[(2,lp 0),(3,lp 1),(5,dV (valRs s r.kids))]) (m':=⟨[bX 52 (up [di 1,di r.course,.str r.name,di r.n,di r.d,eRules r.kids]),bX 61 (up (eSit s))],[]⟩) ?_
    (Awp.seq (Awp.effs (m:=⟨[some (.box 52 (up [.int .i64 1,.int .i64 r.course,.str r.name,.int .i64 r.n,.int .i64 r.d,eRules r.kids])),some (.box 61 (up (eSit s)))],[]⟩) hT (by kernel_rfl) (by kernel_rfl) (by kernel_rfl)
     ⟨[bX 52 (up [di 1,di r.course,.str r.name,di r.n,di r.d,eRules r.kids]),bX 61 (up (eSit s))],[]⟩
     [⟨2,.d (.pt kindC (0+(1:Int).toNat*6)),⟨[bX 52 (up [di 1,di r.course,.str r.name,di r.n,di r.d,eRules r.kids]),bX 61 (up (eSit s))],[]⟩,[]⟩] Kr (fun r=>.inl rfl) ⟨fun r=>.inl rfl,Tt⟩ ?_)))
   .exact lq
   conv=>whnf
   (refine gS ?_;intros)
   refine qC hH' ?_
   (refine gS ?_;intros)
   refine⟨?_,?_⟩
   .conv=>whnf
    (refine gS ?_;intros)
    refine op_idx_glob rfl rfl (fun w=>rfl) kindC kind_cs rfl rfl Dc Dc ?_
    exact⟨rfl,rfl⟩
   conv=>whnf
   (refine gW ?_;intros)
   refine Awp.of_vc hT ?_
   (refine gW ?_;intros)
   exact⟨rfl,Tt⟩
theorem value2_ok (s:Sit)(hs:WfS s)(r:Rule)(ho:r.op=2)(hl:r.kids.length<=200)(hk:∀k∈r.kids,Pure Tryz.prog 65 [.agg (eRule k),.agg (eSit s)] [.bool (valR s k)])(hH:∀n:Nat,Pure Tryz.prog 289 [.agg (eRule r),.agg (eSit s),di n] [.bool (holdB s r n)]) :
 Pure Tryz.prog 65 [.agg (eRule r),.agg (eSit s)] [.bool (valR s r)]:=by
 rw[valR_eq]
 have hH':=hH (valRs s r.kids)
 have eo:eRule r=[di 2,di r.course,.str r.name,di r.n,di r.d,eRules r.kids]:=by rw[eRule,ho]
 rw[eo]at hH'⊢
 refine pure_rule hT (T:=tab) (N:=30) (rs:=[.tmp 4]) Tryz.func65 rfl rfl rfl Kr rfl ?_
 (refine gW ?_;intros)
 refine loop_rule hT (S:=Nat) (fun k=>([(2,lp 0),(3,lp 1),(5,dV (valRs s (r.kids.take k))),(9,.d (eRules r.kids)),(10,dV r.kids.length),(11,dV k)],⟨[bX 52 (up [di 2,di r.course,.str r.name,di r.n,di r.d,eRules r.kids]),bX 61 (up (eSit s))],[]⟩))
  (fun k=>k<=r.kids.length) (fun k=>r.kids.length-k) 0 ?_ ?_ ?_
 .exact lq
  all_goals (rw[List.take_zero,valRs_nil];rfl)
 .exact Nat.zero_le _
 .intro k hk1
  dsimp only at hk1⊢
  by_cases hk2:k<r.kids.length
  .have hne:r.kids≠[]:=fun e=>by rw[e]at hk2;exact absurd hk2 (Nat.not_lt_zero _)
   have hV:=hk _ (getD_mem hk2)
   have hn:=valRs_succ s hk2
   have hle:=valRs_le s (r.kids.take k)
   rw[List.length_take]at hle
   have kn:Kp _:=⟨hn⟩
   clear hn
   rw[eRules_ne hne]
   cases hv:valR s (r.kids.getD k default)<;>rw[hv]at hV
   ·(refine gW ?_;intros)
    refine hV.call ?_
    (refine gW ?_;intros)
    refine⟨k+1,by show k+1<=r.kids.length;omega,by show r.kids.length-(k+1)<r.kids.length-k;omega,?_⟩
    dsimp only
    rw[kn.h,hv]
    exact lq
   ·(refine gW ?_;intros)
    refine hV.call ?_
    (refine gW ?_;intros)
    refine⟨k+1,by show k+1<=r.kids.length;omega,by show r.kids.length-(k+1)<r.kids.length-k;omega,?_⟩
    dsimp only
    rw[kn.h,hv]
    exact lq
  .have ht:r.kids.take k=r.kids:=List.take_of_length_le Om
   rw[ht]
   (refine gS ?_;intros)
   refine Sq.go ?_;(refine gS ?_;intros)
   refine Sq.alt (Awp.le (env':=[(2,lp 0),(3,lp 1),(5,dV (valRs s r.kids))]) (m':=⟨[bX 52 (up [di 2,di r.course,.str r.name,di r.n,di r.d,eRules r.kids]),bX 61 (up (eSit s))],[]⟩) ?_
    (Awp.seq (Awp.effs (m:=⟨[some (.box 52 (up [.int .i64 2,.int .i64 r.course,.str r.name,.int .i64 r.n,.int .i64 r.d,eRules r.kids])),some (.box 61 (up (eSit s)))],[]⟩) hT (by kernel_rfl) (by kernel_rfl) (by kernel_rfl)
     ⟨[bX 52 (up [di 2,di r.course,.str r.name,di r.n,di r.d,eRules r.kids]),bX 61 (up (eSit s))],[]⟩
     [⟨2,.d (.pt kindC (0+(2:Int).toNat*6)),⟨[bX 52 (up [di 2,di r.course,.str r.name,di r.n,di r.d,eRules r.kids]),bX 61 (up (eSit s))],[]⟩,[]⟩] Kr (fun r=>.inl rfl) ⟨fun r=>.inl rfl,Tt⟩ ?_)))
   .exact lq
   conv=>whnf
   (refine gS ?_;intros)
   refine qC hH' ?_
   (refine gS ?_;intros)
   refine⟨?_,?_⟩
   .conv=>whnf
    (refine gS ?_;intros)
    refine op_idx_glob rfl rfl (fun w=>rfl) kindC kind_cs rfl rfl Dc Dc ?_
    exact⟨rfl,rfl⟩
   conv=>whnf
   (refine gW ?_;intros)
   refine Awp.of_vc hT ?_
   (refine gW ?_;intros)
   exact⟨rfl,Tt⟩
theorem value3_ok (s:Sit)(hs:WfS s)(r:Rule)(ho:r.op=3)(hl:r.kids.length<=200)(hk:∀k∈r.kids,Pure Tryz.prog 65 [.agg (eRule k),.agg (eSit s)] [.bool (valR s k)])(hH:∀n:Nat,Pure Tryz.prog 291 [.agg (eRule r),.agg (eSit s),di n] [.bool (holdB s r n)]) :
 Pure Tryz.prog 65 [.agg (eRule r),.agg (eSit s)] [.bool (valR s r)]:=by
 rw[valR_eq]
 have hH':=hH (valRs s r.kids)
 have eo:eRule r=[di 3,di r.course,.str r.name,di r.n,di r.d,eRules r.kids]:=by rw[eRule,ho]
 rw[eo]at hH'⊢
 refine pure_rule hT (T:=tab) (N:=30) (rs:=[.tmp 4]) Tryz.func65 rfl rfl rfl Kr rfl ?_
 (refine gW ?_;intros)
 refine loop_rule hT (S:=Nat) (fun k=>([(2,lp 0),(3,lp 1),(5,dV (valRs s (r.kids.take k))),(9,.d (eRules r.kids)),(10,dV r.kids.length),(11,dV k)],⟨[bX 52 (up [di 3,di r.course,.str r.name,di r.n,di r.d,eRules r.kids]),bX 61 (up (eSit s))],[]⟩))
  (fun k=>k<=r.kids.length) (fun k=>r.kids.length-k) 0 ?_ ?_ ?_
 .exact lq
  all_goals (rw[List.take_zero,valRs_nil];rfl)
 .exact Nat.zero_le _
 .intro k hk1
  dsimp only at hk1⊢
  by_cases hk2:k<r.kids.length
  .have hne:r.kids≠[]:=fun e=>by rw[e]at hk2;exact absurd hk2 (Nat.not_lt_zero _)
   have hV:=hk _ (getD_mem hk2)
   have hn:=valRs_succ s hk2
   have hle:=valRs_le s (r.kids.take k)
   rw[List.length_take]at hle
   have kn:Kp _:=⟨hn⟩
   clear hn
   rw[eRules_ne hne]
   cases hv:valR s (r.kids.getD k default)<;>rw[hv]at hV
   ·(refine gW ?_;intros)
    refine hV.call ?_
    (refine gW ?_;intros)
    refine⟨k+1,by show k+1<=r.kids.length;omega,by show r.kids.length-(k+1)<r.kids.length-k;omega,?_⟩
    dsimp only
    rw[kn.h,hv]
    exact lq
   ·(refine gW ?_;intros)
    refine hV.call ?_
    (refine gW ?_;intros)
    refine⟨k+1,by show k+1<=r.kids.length;omega,by show r.kids.length-(k+1)<r.kids.length-k;omega,?_⟩
    dsimp only
    rw[kn.h,hv]
    exact lq
  .have ht:r.kids.take k=r.kids:=List.take_of_length_le Om
   rw[ht]
   (refine gS ?_;intros)
   refine Sq.go ?_;(refine gS ?_;intros)
   refine Sq.alt (Awp.le (env':=[(2,lp 0),(3,lp 1),(5,dV (valRs s r.kids))]) (m':=⟨[bX 52 (up [di 3,di r.course,.str r.name,di r.n,di r.d,eRules r.kids]),bX 61 (up (eSit s))],[]⟩) ?_
    (Awp.seq (Awp.effs (m:=⟨[some (.box 52 (up [.int .i64 3,.int .i64 r.course,.str r.name,.int .i64 r.n,.int .i64 r.d,eRules r.kids])),some (.box 61 (up (eSit s)))],[]⟩) hT (by kernel_rfl) (by kernel_rfl) (by kernel_rfl)
     ⟨[bX 52 (up [di 3,di r.course,.str r.name,di r.n,di r.d,eRules r.kids]),bX 61 (up (eSit s))],[]⟩
     [⟨2,.d (.pt kindC (0+(3:Int).toNat*6)),⟨[bX 52 (up [di 3,di r.course,.str r.name,di r.n,di r.d,eRules r.kids]),bX 61 (up (eSit s))],[]⟩,[]⟩] Kr (fun r=>.inl rfl) ⟨fun r=>.inl rfl,Tt⟩ ?_)))
   .exact lq
   conv=>whnf
   (refine gS ?_;intros)
   refine qC hH' ?_
   (refine gS ?_;intros)
   refine⟨?_,?_⟩
   .conv=>whnf
    (refine gS ?_;intros)
    refine op_idx_glob rfl rfl (fun w=>rfl) kindC kind_cs rfl rfl Dc Dc ?_
    exact⟨rfl,rfl⟩
   conv=>whnf
   (refine gW ?_;intros)
   refine Awp.of_vc hT ?_
   (refine gW ?_;intros)
   exact⟨rfl,Tt⟩
theorem value4_ok (s:Sit)(hs:WfS s)(r:Rule)(ho:r.op=4)(hl:r.kids.length<=200)(hk:∀k∈r.kids,Pure Tryz.prog 65 [.agg (eRule k),.agg (eSit s)] [.bool (valR s k)])(hH:∀n:Nat,Pure Tryz.prog 293 [.agg (eRule r),.agg (eSit s),di n] [.bool (holdB s r n)]) :
 Pure Tryz.prog 65 [.agg (eRule r),.agg (eSit s)] [.bool (valR s r)]:=by
 rw[valR_eq]
 have hH':=hH (valRs s r.kids)
 have eo:eRule r=[di 4,di r.course,.str r.name,di r.n,di r.d,eRules r.kids]:=by rw[eRule,ho]
 rw[eo]at hH'⊢
 refine pure_rule hT (T:=tab) (N:=30) (rs:=[.tmp 4]) Tryz.func65 rfl rfl rfl Kr rfl ?_
 (refine gW ?_;intros)
 refine loop_rule hT (S:=Nat) (fun k=>([(2,lp 0),(3,lp 1),(5,dV (valRs s (r.kids.take k))),(9,.d (eRules r.kids)),(10,dV r.kids.length),(11,dV k)],⟨[bX 52 (up [di 4,di r.course,.str r.name,di r.n,di r.d,eRules r.kids]),bX 61 (up (eSit s))],[]⟩))
  (fun k=>k<=r.kids.length) (fun k=>r.kids.length-k) 0 ?_ ?_ ?_
 .exact lq
  all_goals (rw[List.take_zero,valRs_nil];rfl)
 .exact Nat.zero_le _
 .intro k hk1
  dsimp only at hk1⊢
  by_cases hk2:k<r.kids.length
  .have hne:r.kids≠[]:=fun e=>by rw[e]at hk2;exact absurd hk2 (Nat.not_lt_zero _)
   have hV:=hk _ (getD_mem hk2)
   have hn:=valRs_succ s hk2
   have hle:=valRs_le s (r.kids.take k)
   rw[List.length_take]at hle
   have kn:Kp _:=⟨hn⟩
   clear hn
   rw[eRules_ne hne]
   cases hv:valR s (r.kids.getD k default)<;>rw[hv]at hV
   ·(refine gW ?_;intros)
    refine hV.call ?_
    (refine gW ?_;intros)
    refine⟨k+1,by show k+1<=r.kids.length;omega,by show r.kids.length-(k+1)<r.kids.length-k;omega,?_⟩
    dsimp only
    rw[kn.h,hv]
    exact lq
   ·(refine gW ?_;intros)
    refine hV.call ?_
    (refine gW ?_;intros)
    refine⟨k+1,by show k+1<=r.kids.length;omega,by show r.kids.length-(k+1)<r.kids.length-k;omega,?_⟩
    dsimp only
    rw[kn.h,hv]
    exact lq
  .have ht:r.kids.take k=r.kids:=List.take_of_length_le Om
   rw[ht]
   (refine gS ?_;intros)
   refine Sq.go ?_;(refine gS ?_;intros)
   refine Sq.alt (Awp.le (env':=[(2,lp 0),(3,lp 1),(5,dV (valRs s r.kids))]) (m':=⟨[bX 52 (up [di 4,di r.course,.str r.name,di r.n,di r.d,eRules r.kids]),bX 61 (up (eSit s))],[]⟩) ?_
    (Awp.seq (Awp.effs (m:=⟨[some (.box 52 (up [.int .i64 4,.int .i64 r.course,.str r.name,.int .i64 r.n,.int .i64 r.d,eRules r.kids])),some (.box 61 (up (eSit s)))],[]⟩) hT (by kernel_rfl) (by kernel_rfl) (by kernel_rfl)
     ⟨[bX 52 (up [di 4,di r.course,.str r.name,di r.n,di r.d,eRules r.kids]),bX 61 (up (eSit s))],[]⟩
     [⟨2,.d (.pt kindC (0+(4:Int).toNat*6)),⟨[bX 52 (up [di 4,di r.course,.str r.name,di r.n,di r.d,eRules r.kids]),bX 61 (up (eSit s))],[]⟩,[]⟩] Kr (fun r=>.inl rfl) ⟨fun r=>.inl rfl,Tt⟩ ?_)))
   .exact lq
   conv=>whnf
   (refine gS ?_;intros)
   refine qC hH' ?_
   (refine gS ?_;intros)
   refine⟨?_,?_⟩
   .conv=>whnf
    (refine gS ?_;intros)
    refine op_idx_glob rfl rfl (fun w=>rfl) kindC kind_cs rfl rfl Dc Dc ?_
    exact⟨rfl,rfl⟩
   conv=>whnf
   (refine gW ?_;intros)
   refine Awp.of_vc hT ?_
   (refine gW ?_;intros)
   exact⟨rfl,Tt⟩
theorem value5_ok (s:Sit)(hs:WfS s)(r:Rule)(ho:r.op=5)(hl:r.kids.length<=200)(hk:∀k∈r.kids,Pure Tryz.prog 65 [.agg (eRule k),.agg (eSit s)] [.bool (valR s k)])(hH:∀n:Nat,Pure Tryz.prog 296 [.agg (eRule r),.agg (eSit s),di n] [.bool (holdB s r n)]) :
 Pure Tryz.prog 65 [.agg (eRule r),.agg (eSit s)] [.bool (valR s r)]:=by
 rw[valR_eq]
 have hH':=hH (valRs s r.kids)
 have eo:eRule r=[di 5,di r.course,.str r.name,di r.n,di r.d,eRules r.kids]:=by rw[eRule,ho]
 rw[eo]at hH'⊢
 refine pure_rule hT (T:=tab) (N:=30) (rs:=[.tmp 4]) Tryz.func65 rfl rfl rfl Kr rfl ?_
 (refine gW ?_;intros)
 refine loop_rule hT (S:=Nat) (fun k=>([(2,lp 0),(3,lp 1),(5,dV (valRs s (r.kids.take k))),(9,.d (eRules r.kids)),(10,dV r.kids.length),(11,dV k)],⟨[bX 52 (up [di 5,di r.course,.str r.name,di r.n,di r.d,eRules r.kids]),bX 61 (up (eSit s))],[]⟩))
  (fun k=>k<=r.kids.length) (fun k=>r.kids.length-k) 0 ?_ ?_ ?_
 .exact lq
  all_goals (rw[List.take_zero,valRs_nil];rfl)
 .exact Nat.zero_le _
 .intro k hk1
  dsimp only at hk1⊢
  by_cases hk2:k<r.kids.length
  .have hne:r.kids≠[]:=fun e=>by rw[e]at hk2;exact absurd hk2 (Nat.not_lt_zero _)
   have hV:=hk _ (getD_mem hk2)
   have hn:=valRs_succ s hk2
   have hle:=valRs_le s (r.kids.take k)
   rw[List.length_take]at hle
   have kn:Kp _:=⟨hn⟩
   clear hn
   rw[eRules_ne hne]
   cases hv:valR s (r.kids.getD k default)<;>rw[hv]at hV
   ·(refine gW ?_;intros)
    refine hV.call ?_
    (refine gW ?_;intros)
    refine⟨k+1,by show k+1<=r.kids.length;omega,by show r.kids.length-(k+1)<r.kids.length-k;omega,?_⟩
    dsimp only
    rw[kn.h,hv]
    exact lq
   ·(refine gW ?_;intros)
    refine hV.call ?_
    (refine gW ?_;intros)
    refine⟨k+1,by show k+1<=r.kids.length;omega,by show r.kids.length-(k+1)<r.kids.length-k;omega,?_⟩
    dsimp only
    rw[kn.h,hv]
    exact lq
  .have ht:r.kids.take k=r.kids:=List.take_of_length_le Om
   rw[ht]
   (refine gS ?_;intros)
   refine Sq.go ?_;(refine gS ?_;intros)
   refine Sq.alt (Awp.le (env':=[(2,lp 0),(3,lp 1),(5,dV (valRs s r.kids))]) (m':=⟨[bX 52 (up [di 5,di r.course,.str r.name,di r.n,di r.d,eRules r.kids]),bX 61 (up (eSit s))],[]⟩) ?_
    (Awp.seq (Awp.effs (m:=⟨[some (.box 52 (up [.int .i64 5,.int .i64 r.course,.str r.name,.int .i64 r.n,.int .i64 r.d,eRules r.kids])),some (.box 61 (up (eSit s)))],[]⟩) hT (by kernel_rfl) (by kernel_rfl) (by kernel_rfl)
     ⟨[bX 52 (up [di 5,di r.course,.str r.name,di r.n,di r.d,eRules r.kids]),bX 61 (up (eSit s))],[]⟩
     [⟨2,.d (.pt kindC (0+(5:Int).toNat*6)),⟨[bX 52 (up [di 5,di r.course,.str r.name,di r.n,di r.d,eRules r.kids]),bX 61 (up (eSit s))],[]⟩,[]⟩] Kr (fun r=>.inl rfl) ⟨fun r=>.inl rfl,Tt⟩ ?_)))
   .exact lq
   conv=>whnf
   (refine gS ?_;intros)
   refine qC hH' ?_
   (refine gS ?_;intros)
   refine⟨?_,?_⟩
   .conv=>whnf
    (refine gS ?_;intros)
    refine op_idx_glob rfl rfl (fun w=>rfl) kindC kind_cs rfl rfl Dc Dc ?_
    exact⟨rfl,rfl⟩
   conv=>whnf
   (refine gW ?_;intros)
   refine Awp.of_vc hT ?_
   (refine gW ?_;intros)
   exact⟨rfl,Tt⟩
theorem value6_ok (s:Sit)(hs:WfS s)(r:Rule)(ho:r.op=6)(hl:r.kids.length<=200)(hk:∀k∈r.kids,Pure Tryz.prog 65 [.agg (eRule k),.agg (eSit s)] [.bool (valR s k)])(hH:∀n:Nat,Pure Tryz.prog 299 [.agg (eRule r),.agg (eSit s),di n] [.bool (holdB s r n)]) :
 Pure Tryz.prog 65 [.agg (eRule r),.agg (eSit s)] [.bool (valR s r)]:=by
 rw[valR_eq]
 have hH':=hH (valRs s r.kids)
 have eo:eRule r=[di 6,di r.course,.str r.name,di r.n,di r.d,eRules r.kids]:=by rw[eRule,ho]
 rw[eo]at hH'⊢
 refine pure_rule hT (T:=tab) (N:=30) (rs:=[.tmp 4]) Tryz.func65 rfl rfl rfl Kr rfl ?_
 (refine gW ?_;intros)
 refine loop_rule hT (S:=Nat) (fun k=>([(2,lp 0),(3,lp 1),(5,dV (valRs s (r.kids.take k))),(9,.d (eRules r.kids)),(10,dV r.kids.length),(11,dV k)],⟨[bX 52 (up [di 6,di r.course,.str r.name,di r.n,di r.d,eRules r.kids]),bX 61 (up (eSit s))],[]⟩))
  (fun k=>k<=r.kids.length) (fun k=>r.kids.length-k) 0 ?_ ?_ ?_
 .exact lq
  all_goals (rw[List.take_zero,valRs_nil];rfl)
 .exact Nat.zero_le _
 .intro k hk1
  dsimp only at hk1⊢
  by_cases hk2:k<r.kids.length
  .have hne:r.kids≠[]:=fun e=>by rw[e]at hk2;exact absurd hk2 (Nat.not_lt_zero _)
   have hV:=hk _ (getD_mem hk2)
   have hn:=valRs_succ s hk2
   have hle:=valRs_le s (r.kids.take k)
   rw[List.length_take]at hle
   have kn:Kp _:=⟨hn⟩
   clear hn
   rw[eRules_ne hne]
   cases hv:valR s (r.kids.getD k default)<;>rw[hv]at hV
   ·(refine gW ?_;intros)
    refine hV.call ?_
    (refine gW ?_;intros)
    refine⟨k+1,by show k+1<=r.kids.length;omega,by show r.kids.length-(k+1)<r.kids.length-k;omega,?_⟩
    dsimp only
    rw[kn.h,hv]
    exact lq
   ·(refine gW ?_;intros)
    refine hV.call ?_
    (refine gW ?_;intros)
    refine⟨k+1,by show k+1<=r.kids.length;omega,by show r.kids.length-(k+1)<r.kids.length-k;omega,?_⟩
    dsimp only
    rw[kn.h,hv]
    exact lq
  .have ht:r.kids.take k=r.kids:=List.take_of_length_le Om
   rw[ht]
   (refine gS ?_;intros)
   refine Sq.go ?_;(refine gS ?_;intros)
   refine Sq.alt (Awp.le (env':=[(2,lp 0),(3,lp 1),(5,dV (valRs s r.kids))]) (m':=⟨[bX 52 (up [di 6,di r.course,.str r.name,di r.n,di r.d,eRules r.kids]),bX 61 (up (eSit s))],[]⟩) ?_
    (Awp.seq (Awp.effs (m:=⟨[some (.box 52 (up [.int .i64 6,.int .i64 r.course,.str r.name,.int .i64 r.n,.int .i64 r.d,eRules r.kids])),some (.box 61 (up (eSit s)))],[]⟩) hT (by kernel_rfl) (by kernel_rfl) (by kernel_rfl)
     ⟨[bX 52 (up [di 6,di r.course,.str r.name,di r.n,di r.d,eRules r.kids]),bX 61 (up (eSit s))],[]⟩
     [⟨2,.d (.pt kindC (0+(6:Int).toNat*6)),⟨[bX 52 (up [di 6,di r.course,.str r.name,di r.n,di r.d,eRules r.kids]),bX 61 (up (eSit s))],[]⟩,[]⟩] Kr (fun r=>.inl rfl) ⟨fun r=>.inl rfl,Tt⟩ ?_)))
   .exact lq
   conv=>whnf
   (refine gS ?_;intros)
   refine qC hH' ?_
   (refine gS ?_;intros)
   refine⟨?_,?_⟩
   .conv=>whnf
    (refine gS ?_;intros)
    refine op_idx_glob rfl rfl (fun w=>rfl) kindC kind_cs rfl rfl Dc Dc ?_
    exact⟨rfl,rfl⟩
   conv=>whnf
   (refine gW ?_;intros)
   refine Awp.of_vc hT ?_
   (refine gW ?_;intros)
   exact⟨rfl,Tt⟩
theorem value7_ok (s:Sit)(hs:WfS s)(r:Rule)(ho:r.op=7)(hl:r.kids.length<=200)(hk:∀k∈r.kids,Pure Tryz.prog 65 [.agg (eRule k),.agg (eSit s)] [.bool (valR s k)])(hH:∀n:Nat,Pure Tryz.prog 301 [.agg (eRule r),.agg (eSit s),di n] [.bool (holdB s r n)]) :
 Pure Tryz.prog 65 [.agg (eRule r),.agg (eSit s)] [.bool (valR s r)]:=by
 rw[valR_eq]
 have hH':=hH (valRs s r.kids)
 have eo:eRule r=[di 7,di r.course,.str r.name,di r.n,di r.d,eRules r.kids]:=by rw[eRule,ho]
 rw[eo]at hH'⊢
 refine pure_rule hT (T:=tab) (N:=30) (rs:=[.tmp 4]) Tryz.func65 rfl rfl rfl Kr rfl ?_
 (refine gW ?_;intros)
 refine loop_rule hT (S:=Nat) (fun k=>([(2,lp 0),(3,lp 1),(5,dV (valRs s (r.kids.take k))),(9,.d (eRules r.kids)),(10,dV r.kids.length),(11,dV k)],⟨[bX 52 (up [di 7,di r.course,.str r.name,di r.n,di r.d,eRules r.kids]),bX 61 (up (eSit s))],[]⟩))
  (fun k=>k<=r.kids.length) (fun k=>r.kids.length-k) 0 ?_ ?_ ?_
 .exact lq
  all_goals (rw[List.take_zero,valRs_nil];rfl)
 .exact Nat.zero_le _
 .intro k hk1
  dsimp only at hk1⊢
  by_cases hk2:k<r.kids.length
  .have hne:r.kids≠[]:=fun e=>by rw[e]at hk2;exact absurd hk2 (Nat.not_lt_zero _)
   have hV:=hk _ (getD_mem hk2)
   have hn:=valRs_succ s hk2
   have hle:=valRs_le s (r.kids.take k)
   rw[List.length_take]at hle
   have kn:Kp _:=⟨hn⟩
   clear hn
   rw[eRules_ne hne]
   cases hv:valR s (r.kids.getD k default)<;>rw[hv]at hV
   ·(refine gW ?_;intros)
    refine hV.call ?_
    (refine gW ?_;intros)
    refine⟨k+1,by show k+1<=r.kids.length;omega,by show r.kids.length-(k+1)<r.kids.length-k;omega,?_⟩
    dsimp only
    rw[kn.h,hv]
    exact lq
   ·(refine gW ?_;intros)
    refine hV.call ?_
    (refine gW ?_;intros)
    refine⟨k+1,by show k+1<=r.kids.length;omega,by show r.kids.length-(k+1)<r.kids.length-k;omega,?_⟩
    dsimp only
    rw[kn.h,hv]
    exact lq
  .have ht:r.kids.take k=r.kids:=List.take_of_length_le Om
   rw[ht]
   (refine gS ?_;intros)
   refine Sq.go ?_;(refine gS ?_;intros)
   refine Sq.alt (Awp.le (env':=[(2,lp 0),(3,lp 1),(5,dV (valRs s r.kids))]) (m':=⟨[bX 52 (up [di 7,di r.course,.str r.name,di r.n,di r.d,eRules r.kids]),bX 61 (up (eSit s))],[]⟩) ?_
    (Awp.seq (Awp.effs (m:=⟨[some (.box 52 (up [.int .i64 7,.int .i64 r.course,.str r.name,.int .i64 r.n,.int .i64 r.d,eRules r.kids])),some (.box 61 (up (eSit s)))],[]⟩) hT (by kernel_rfl) (by kernel_rfl) (by kernel_rfl)
     ⟨[bX 52 (up [di 7,di r.course,.str r.name,di r.n,di r.d,eRules r.kids]),bX 61 (up (eSit s))],[]⟩
     [⟨2,.d (.pt kindC (0+(7:Int).toNat*6)),⟨[bX 52 (up [di 7,di r.course,.str r.name,di r.n,di r.d,eRules r.kids]),bX 61 (up (eSit s))],[]⟩,[]⟩] Kr (fun r=>.inl rfl) ⟨fun r=>.inl rfl,Tt⟩ ?_)))
   .exact lq
   conv=>whnf
   (refine gS ?_;intros)
   refine qC hH' ?_
   (refine gS ?_;intros)
   refine⟨?_,?_⟩
   .conv=>whnf
    (refine gS ?_;intros)
    refine op_idx_glob rfl rfl (fun w=>rfl) kindC kind_cs rfl rfl Dc Dc ?_
    exact⟨rfl,rfl⟩
   conv=>whnf
   (refine gW ?_;intros)
   refine Awp.of_vc hT ?_
   (refine gW ?_;intros)
   exact⟨rfl,Tt⟩
theorem value8_ok (s:Sit)(hs:WfS s)(r:Rule)(ho:r.op=8)(hl:r.kids.length<=200)(hk:∀k∈r.kids,Pure Tryz.prog 65 [.agg (eRule k),.agg (eSit s)] [.bool (valR s k)])(hH:∀n:Nat,Pure Tryz.prog 303 [.agg (eRule r),.agg (eSit s),di n] [.bool (holdB s r n)]) :
 Pure Tryz.prog 65 [.agg (eRule r),.agg (eSit s)] [.bool (valR s r)]:=by
 rw[valR_eq]
 have hH':=hH (valRs s r.kids)
 have eo:eRule r=[di 8,di r.course,.str r.name,di r.n,di r.d,eRules r.kids]:=by rw[eRule,ho]
 rw[eo]at hH'⊢
 refine pure_rule hT (T:=tab) (N:=30) (rs:=[.tmp 4]) Tryz.func65 rfl rfl rfl Kr rfl ?_
 (refine gW ?_;intros)
 refine loop_rule hT (S:=Nat) (fun k=>([(2,lp 0),(3,lp 1),(5,dV (valRs s (r.kids.take k))),(9,.d (eRules r.kids)),(10,dV r.kids.length),(11,dV k)],⟨[bX 52 (up [di 8,di r.course,.str r.name,di r.n,di r.d,eRules r.kids]),bX 61 (up (eSit s))],[]⟩))
  (fun k=>k<=r.kids.length) (fun k=>r.kids.length-k) 0 ?_ ?_ ?_
 .exact lq
  all_goals (rw[List.take_zero,valRs_nil];rfl)
 .exact Nat.zero_le _
 .intro k hk1
  dsimp only at hk1⊢
  by_cases hk2:k<r.kids.length
  .have hne:r.kids≠[]:=fun e=>by rw[e]at hk2;exact absurd hk2 (Nat.not_lt_zero _)
   have hV:=hk _ (getD_mem hk2)
   have hn:=valRs_succ s hk2
   have hle:=valRs_le s (r.kids.take k)
   rw[List.length_take]at hle
   have kn:Kp _:=⟨hn⟩
   clear hn
   rw[eRules_ne hne]
   cases hv:valR s (r.kids.getD k default)<;>rw[hv]at hV
   ·(refine gW ?_;intros)
    refine hV.call ?_
    (refine gW ?_;intros)
    refine⟨k+1,by show k+1<=r.kids.length;omega,by show r.kids.length-(k+1)<r.kids.length-k;omega,?_⟩
    dsimp only
    rw[kn.h,hv]
    exact lq
   ·(refine gW ?_;intros)
    refine hV.call ?_
    (refine gW ?_;intros)
    refine⟨k+1,by show k+1<=r.kids.length;omega,by show r.kids.length-(k+1)<r.kids.length-k;omega,?_⟩
    dsimp only
    rw[kn.h,hv]
    exact lq
  .have ht:r.kids.take k=r.kids:=List.take_of_length_le Om
   rw[ht]
   (refine gS ?_;intros)
   refine Sq.go ?_;(refine gS ?_;intros)
   refine Sq.alt (Awp.le (env':=[(2,lp 0),(3,lp 1),(5,dV (valRs s r.kids))]) (m':=⟨[bX 52 (up [di 8,di r.course,.str r.name,di r.n,di r.d,eRules r.kids]),bX 61 (up (eSit s))],[]⟩) ?_
    (Awp.seq (Awp.effs (m:=⟨[some (.box 52 (up [.int .i64 8,.int .i64 r.course,.str r.name,.int .i64 r.n,.int .i64 r.d,eRules r.kids])),some (.box 61 (up (eSit s)))],[]⟩) hT (by kernel_rfl) (by kernel_rfl) (by kernel_rfl)
     ⟨[bX 52 (up [di 8,di r.course,.str r.name,di r.n,di r.d,eRules r.kids]),bX 61 (up (eSit s))],[]⟩
     [⟨2,.d (.pt kindC (0+(8:Int).toNat*6)),⟨[bX 52 (up [di 8,di r.course,.str r.name,di r.n,di r.d,eRules r.kids]),bX 61 (up (eSit s))],[]⟩,[]⟩] Kr (fun r=>.inl rfl) ⟨fun r=>.inl rfl,Tt⟩ ?_)))
   .exact lq
   conv=>whnf
   (refine gS ?_;intros)
   refine qC hH' ?_
   (refine gS ?_;intros)
   refine⟨?_,?_⟩
   .conv=>whnf
    (refine gS ?_;intros)
    refine op_idx_glob rfl rfl (fun w=>rfl) kindC kind_cs rfl rfl Dc Dc ?_
    exact⟨rfl,rfl⟩
   conv=>whnf
   (refine gW ?_;intros)
   refine Awp.of_vc hT ?_
   (refine gW ?_;intros)
   exact⟨rfl,Tt⟩
theorem value9_ok (s:Sit)(hs:WfS s)(r:Rule)(ho:r.op=9)(hl:r.kids.length<=200)(hk:∀k∈r.kids,Pure Tryz.prog 65 [.agg (eRule k),.agg (eSit s)] [.bool (valR s k)])(hH:∀n:Nat,Pure Tryz.prog 305 [.agg (eRule r),.agg (eSit s),di n] [.bool (holdB s r n)]) :
 Pure Tryz.prog 65 [.agg (eRule r),.agg (eSit s)] [.bool (valR s r)]:=by
 rw[valR_eq]
 have hH':=hH (valRs s r.kids)
 have eo:eRule r=[di 9,di r.course,.str r.name,di r.n,di r.d,eRules r.kids]:=by rw[eRule,ho]
 rw[eo]at hH'⊢
 refine pure_rule hT (T:=tab) (N:=30) (rs:=[.tmp 4]) Tryz.func65 rfl rfl rfl Kr rfl ?_
 (refine gW ?_;intros)
 refine loop_rule hT (S:=Nat) (fun k=>([(2,lp 0),(3,lp 1),(5,dV (valRs s (r.kids.take k))),(9,.d (eRules r.kids)),(10,dV r.kids.length),(11,dV k)],⟨[bX 52 (up [di 9,di r.course,.str r.name,di r.n,di r.d,eRules r.kids]),bX 61 (up (eSit s))],[]⟩))
  (fun k=>k<=r.kids.length) (fun k=>r.kids.length-k) 0 ?_ ?_ ?_
 .exact lq
  all_goals (rw[List.take_zero,valRs_nil];rfl)
 .exact Nat.zero_le _
 .intro k hk1
  dsimp only at hk1⊢
  by_cases hk2:k<r.kids.length
  .have hne:r.kids≠[]:=fun e=>by rw[e]at hk2;exact absurd hk2 (Nat.not_lt_zero _)
   have hV:=hk _ (getD_mem hk2)
   have hn:=valRs_succ s hk2
   have hle:=valRs_le s (r.kids.take k)
   rw[List.length_take]at hle
   have kn:Kp _:=⟨hn⟩
   clear hn
   rw[eRules_ne hne]
   cases hv:valR s (r.kids.getD k default)<;>rw[hv]at hV
   ·(refine gW ?_;intros)
    refine hV.call ?_
    (refine gW ?_;intros)
    refine⟨k+1,by show k+1<=r.kids.length;omega,by show r.kids.length-(k+1)<r.kids.length-k;omega,?_⟩
    dsimp only
    rw[kn.h,hv]
    exact lq
   ·(refine gW ?_;intros)
    refine hV.call ?_
    (refine gW ?_;intros)
    refine⟨k+1,by show k+1<=r.kids.length;omega,by show r.kids.length-(k+1)<r.kids.length-k;omega,?_⟩
    dsimp only
    rw[kn.h,hv]
    exact lq
  .have ht:r.kids.take k=r.kids:=List.take_of_length_le Om
   rw[ht]
   (refine gS ?_;intros)
   refine Sq.go ?_;(refine gS ?_;intros)
   refine Sq.alt (Awp.le (env':=[(2,lp 0),(3,lp 1),(5,dV (valRs s r.kids))]) (m':=⟨[bX 52 (up [di 9,di r.course,.str r.name,di r.n,di r.d,eRules r.kids]),bX 61 (up (eSit s))],[]⟩) ?_
    (Awp.seq (Awp.effs (m:=⟨[some (.box 52 (up [.int .i64 9,.int .i64 r.course,.str r.name,.int .i64 r.n,.int .i64 r.d,eRules r.kids])),some (.box 61 (up (eSit s)))],[]⟩) hT (by kernel_rfl) (by kernel_rfl) (by kernel_rfl)
     ⟨[bX 52 (up [di 9,di r.course,.str r.name,di r.n,di r.d,eRules r.kids]),bX 61 (up (eSit s))],[]⟩
     [⟨2,.d (.pt kindC (0+(9:Int).toNat*6)),⟨[bX 52 (up [di 9,di r.course,.str r.name,di r.n,di r.d,eRules r.kids]),bX 61 (up (eSit s))],[]⟩,[]⟩] Kr (fun r=>.inl rfl) ⟨fun r=>.inl rfl,Tt⟩ ?_)))
   .exact lq
   conv=>whnf
   (refine gS ?_;intros)
   refine qC hH' ?_
   (refine gS ?_;intros)
   refine⟨?_,?_⟩
   .conv=>whnf
    (refine gS ?_;intros)
    refine op_idx_glob rfl rfl (fun w=>rfl) kindC kind_cs rfl rfl Dc Dc ?_
    exact⟨rfl,rfl⟩
   conv=>whnf
   (refine gW ?_;intros)
   refine Awp.of_vc hT ?_
   (refine gW ?_;intros)
   exact⟨rfl,Tt⟩
theorem value_ok (s:Sit)(hs:WfS s):∀r:Rule,wfR r->chkR r=0->Pure Tryz.prog 65 [.agg (eRule r),.agg (eSit s)] [.bool (valR s r)]:=by
 have hl:s.seen.length<=100000:=Nat.le_trans hs.len Dc
 have hm:chkQ s.mn s.md=0:=by
  have:=hs.mean
  unfold meanQ at this
  rw[Bool.and_eq_true,decide_eq_true_iff]at this
  exact this.1
 refine rule_ind fun r ih hw hc=>?_
 obtain⟨hF,hk⟩:=chkR_top hc
 have hkid:∀k∈r.kids,Pure Tryz.prog 65 [.agg (eRule k),.agg (eSit s)] [.bool (valR s k)]:=fun k hk=>ih k hk ((wfR_kids hw).2 k hk) (chkR_kid hc hk)
 have ho:bw r.op 1 9=true:=by
  unfold formedR at hF
  rw[Bool.and_eq_true]at hF
  exact hF.1
 have h1:1<=r.op/\r.op<=9:=by simpa[bw] using ho
 have h2:r.op=1\/r.op=2\/r.op=3\/r.op=4\/r.op=5\/r.op=6\/r.op=7\/r.op=8\/r.op=9:=by omega
 rcases h2 with h|h|h|h|h|h|h|h|h
 .exact value1_ok s hs r h hk hkid fun n=>by have:=hold1_ok r s n;simpa[holdB,h] using this
 .exact value2_ok s hs r h hk hkid fun n=>by have:=hold2_ok r s n;simpa[holdB,h] using this
 .exact value3_ok s hs r h hk hkid fun n=>by have:=hold3_ok r s n;simpa[holdB,h] using this
 .exact value4_ok s hs r h hk hkid fun n=>by have:=hold4_ok r s n;simpa[holdB,h] using this
 .exact value5_ok s hs r h hk hkid fun n=>by have:=hold5_ok r s hl n;simpa[holdB,h] using this
 .exact value6_ok s hs r h hk hkid fun n=>by have:=hold6_ok r s hl n;simpa[holdB,h] using this
 .exact value7_ok s hs r h hk hkid fun n=>by have:=hold7_ok r s n;simpa[holdB,h] using this
 .have hq:chkQ r.n r.d=0:=by
   unfold formedR rightR at hF
   simp only[h,Bool.and_eq_true]at hF
   have:=hF.2.2.2.2.2
   simp[meanQ]at this
   exact this.1
  exact value8_ok s hs r h hk hkid fun n=>by have:=hold8_ok r s n hq hm;simpa[holdB,h] using this
 .exact value9_ok s hs r h hk hkid fun n=>by have:=hold9_ok r s hl n;simpa[holdB,h] using this
def lastS (s:Sit):Nat->Int
 |0=>-1
 |k+1=>(s.seen.getD k default).course
theorem lastS_lt {s:Sit}(hs:WfS s):∀k,k<s.seen.length->lastS s k+1<=(s.seen.getD k default).course
 | 0,h=>by
   have:=(hs.it _ (getD_mem h)).1
   show(-1:Int)+1<=_
   omega
 | k + 1,h=>by
   have:=List.pairwise_iff_getElem.1 hs.up k (k+1) Om h Om
   have h1:s.seen.getD k default=s.seen[k]:=by simp[show k<s.seen.length by omega]
   have h2:s.seen.getD (k+1) default=s.seen[k+1]:=by simp[h]
   rw[lastS,h1,h2]
   omega
theorem fits_ok (s:Sit)(hs:WfS s):Pure Tryz.prog 64 [.agg (eSit s)] [di 0]:=by
 have hlen:=hs.len
 have hE:=within_ok s.earned 0 10000
 rw[show bw s.earned 0 10000=true by simp[bw,hs.earned]]at hE
 have hz:chkQ s.mn s.md=0:=by
  have:=hs.mean
  unfold meanQ at this
  rw[Bool.and_eq_true,decide_eq_true_iff]at this
  exact this.1
 have hzz:=chkQ_zero hz
 have hM:=mean_ok s.mn s.md (in64.2 Om) (in64.2 Om)
 rw[hs.mean]at hM
 refine pure_rule hT (T:=tab) (N:=53) (rs:=[.tmp 2]) Tryz.func64 rfl rfl rfl Kr rfl ?_
 (refine gW ?_;intros)
 refine loop_rule hT (S:=Nat) (fun k=>([(1,lp 0),(3,dV (lastS s k)),(7,.d (eSens s.seen)),(8,dV s.seen.length),(9,dV k)],⟨[bX 61 (up (eSit s))],[]⟩)) (fun k=>k<=s.seen.length) (fun k=>s.seen.length-k) 0 ?_ ?_ ?_
 .exact lq
 .exact Nat.zero_le _
 .intro k hk
  dsimp only at hk⊢
  by_cases hk2:k<s.seen.length
  .have hi:=hs.it _ (getD_mem hk2)
   have hl:=lastS_lt hs k hk2
   have hn:lastS s (k+1)=(s.seen.getD k default).course:=rfl
   have kn:Kp _:=⟨hn⟩
   clear hn
   obtain⟨x,hx⟩:∃x,s.seen.getD k default=x:=⟨_,rfl⟩
   have w1:=within_ok (s.seen.getD k default).course (lastS s k+1) 4095
   have w2:=within_ok (s.seen.getD k default).tries 0 100
   have w3:=within_ok (s.seen.getD k default).best (-1) 12
   rw[show bw (s.seen.getD k default).course (lastS s k+1) 4095=true by simp only[bw,Bool.and_eq_true,decide_eq_true_iff];omega]at w1
   rw[show bw (s.seen.getD k default).tries 0 100=true by simp only[bw,Bool.and_eq_true,decide_eq_true_iff];omega]at w2
   rw[show bw (s.seen.getD k default).best (-1) 12=true by simp only[bw,Bool.and_eq_true,decide_eq_true_iff];omega]at w3
   have hll:-1<=lastS s k:=by
    cases k with
    |zero=>exact Int.le_refl _
    |succ k=>have:=(hs.it _ (getD_mem (show k<s.seen.length by omega))).1;show(-1:Int)<=(s.seen.getD k default).course;omega
   obtain⟨L,hL⟩:∃L,lastS s k=L:=⟨_,rfl⟩
   rw[hL]at hl hll w1⊢
   (refine gW ?_;intros)
   refine w1.call ?_
   (refine gW ?_;intros)
   refine w2.call ?_
   (refine gW ?_;intros)
   refine w3.call ?_
   ((refine xW ?_ ?_)<;>intros)
   .exfalso
    rename_i h
    by_cases q:0<=(s.seen.getD k default).best
    .rw[decide_eq_true q,decide_eq_true (hi.2.2.2.1 q)]at h
     simp at h
    .rw[decide_eq_false q,decide_eq_false (fun e=>q (hi.2.2.2.2 e))]at h
     simp at h
   .refine⟨k+1,by show k+1<=s.seen.length;omega,by show s.seen.length-(k+1)<s.seen.length-k;omega,?_⟩
    dsimp only
    rw[kn.h]
    exact lq
  ·(refine gW ?_;intros)
   refine hE.call ?_
   (refine gW ?_;intros)
   refine hM.call ?_
   (refine gW ?_;intros)
   exact⟨rfl,Tt⟩
theorem holds12_ok (r:Rule)(hw:wfR r)(hc:chkR r=0)(s:Sit)(hs:WfS s):Pure Tryz.prog 21 [.agg (eRule r),.agg (eSit s)] [.bool (valR s r),di 0]:=by
 have h1:=check_ok r hw
 rw[hc]at h1
 have h2:=fits_ok s hs
 have h3:=value_ok s hs r hw hc
 refine pure_rule hT (T:=tab) (N:=21) (rs:=[.tmp 4,.tmp 5]) Tryz.func21 rfl rfl rfl Kr rfl ?_
 (refine gW ?_;intros)
 refine h1.call ?_
 (refine gW ?_;intros)
 refine h2.call ?_
 (refine gW ?_;intros)
 refine h3.call ?_
 (refine gW ?_;intros)
 exact⟨rfl,rfl,Tt⟩
theorem holds28_ok (r:Rule)(hw:wfR r)(hc:chkR r=0)(s:Sit)(hs:WfS s):Pure Tryz.prog 37 [.agg (eRule r),.agg (eSit s)] [.bool (valR s r)]:=by
 have h1:=holds12_ok r hw hc s hs
 refine pure_rule hT (T:=tab) (N:=14) (rs:=[.tmp 4]) Tryz.func37 rfl rfl rfl Kr rfl ?_
 (refine gW ?_;intros)
 refine h1.call ?_
 (refine gW ?_;intros)
 exact⟨rfl,Tt⟩
end Go.Proofs.YtkjmomadndmeaaaGreatDoor
