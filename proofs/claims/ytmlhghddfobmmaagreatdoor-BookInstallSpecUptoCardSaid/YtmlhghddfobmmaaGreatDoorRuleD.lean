import Derived.Test.YtmlhghddfobmmaaGreatDoorRuleC
namespace Go.Proofs.YtmlhghddfobmmaaGreatDoor
set_option linter.unusedSimpArgs false
set_option linter.unusedVariables false
open Go Go.Ab
set_option maxRecDepth 100000
set_option maxHeartbeats 0
def Gv (c n d k:Bool)(F G:Nat):List D:=[.bool c,.bool n,.bool d,.bool k,.fn (.func F) [] [],.fn (.func G) [] []]
def Ys:List D:=[.bool false,.bool false,.bool false,.bool false,.nilf,.nilf]++(Gv false false false true 260 261++(Gv false false false true 262 263 ++
 (Gv false true false true 264 265++(Gv false false false true 266 267++(Gv true true false false 268 270 ++
 (Gv true true false false 272 273++(Gv false true false false 274 275++(Gv false true true false 276 278 ++
 Gv true false false false 269 280))))))))
def Dm:D->Value
 | .bool b=>.bool b
 | .fn f _ _=>.func f #[] #[]
 |_=>.nilFunc
def isKind:D->Bool
 | .bool _=>true
 | .fn _ [] []=>true
 | .nilf=>true
 |_=>false
theorem Q1k {d:D}(h:isKind d=true)(w:World)(F:Nat->Prop):Rd w F d (Dm d)/\(Dm d).oneCell'=true:=by
 unfold isKind at h
 split at h
 .exact⟨.bool,rfl⟩
 .refine⟨?_,rfl⟩
  exact .fn (us:=[]) (vs:=[]) rfl rfl (fun j x u hx hu=>by simp at hx) (fun j x u hx hu=>by simp at hx)
 .exact⟨.nilf,rfl⟩
 .cases h
theorem Qb8:(Ro.filter fun x=>Nat.beq x.1 0)=(List.range 60).map fun j=>(0,j,Dm (Ys.getD j .nilp)):=by kernel_rfl
theorem Qb7:(List.range 60).all (fun j=>isKind (Ys.getD j .nilp))=true:=by kernel_rfl
theorem Qb9:Ys.length=60:=by kernel_rfl
theorem Gw (j:Nat)(d:D)(h:Ys[j]?=some d):∃v,(0,j,v)∈Ro/\(∀w F,Rd w F d v)/\v.oneCell'=true:=by
 have hj:j<60:=by
  have:=(Qh7.1 h).1
  rwa [Qb9]at this
 have hd:Ys.getD j .nilp=d:=by rw[Qha,h];rfl
 have hk:isKind d=true:=by
  have:=Qi8.1 Qb7 j (List.mem_range.2 hj)
  rwa [hd]at this
 refine⟨Dm d,?_,fun w F=>(Q1k hk w F).1,(Q1k hk default (fun _=>False)).2⟩
 refine(List.mem_filter (p:=fun x:Nat × Nat × Value=>Nat.beq x.1 0)).1 ?_ |>.1
 rw[Qb8]
 exact Qhw.2 ⟨j,List.mem_range.2 hj,by rw[hd]⟩
theorem Q9k (r:Q1)(hI:In1 r)(ho:r.op=1):Pure Tryz.prog 183 [.agg (Q2 r)] [.bool (Qs r)]:=by
 have hR:=Qen r
 have hW:=Yk 1 1 9
 have hb:bw 1 1 9=true:=rfl
 have hke:r.kids.isEmpty=decide (r.kids.length=0):=by cases r.kids<;>simp
 rw[hb]at hW
 unfold Qs
 rw[ho,hb]
 have eo:Q2 r=[di 1,di r.course,.str r.name,di r.n,di r.d,J0 r.kids]:=by rw[Q2,ho]
 rw[eo]at hR⊢
 refine Q4 hT (T:=tab) (N:=55) (rs:=[.tmp 2]) Tryz.func183 rfl rfl rfl Kr rfl ?_
 (refine gW ?_;intros)
 refine hW.call ?_
 (refine gW ?_;intros)
 refine H0 rfl rfl (fun w=>rfl) Ys Gw rfl rfl Dc Dc ?_
 ((refine xW ?_ ?_)<;>intros)
 all_goals first
  | (refine hR.call ?_
     (refine gW ?_;intros)
     refine⟨congrArg D.bool ?_,Tt⟩
     simp only[Jg,Jl,Zn,ho,hke,bw]
     simp
     first|omega|(simp_all;fail)|(simp_all;omega)|grind
     done)
  | (refine ⟨congrArg D.bool ?_,True.intro⟩
     simp only[Jg,Jl,Zn,ho,hke,bw]
     simp
     first|omega|(simp_all;fail)|(simp_all;omega)|grind
     done)
theorem Q9l (r:Q1)(hI:In1 r)(ho:r.op=2):Pure Tryz.prog 183 [.agg (Q2 r)] [.bool (Qs r)]:=by
 have hR:=Qeo r
 have hW:=Yk 2 1 9
 have hb:bw 2 1 9=true:=rfl
 have hke:r.kids.isEmpty=decide (r.kids.length=0):=by cases r.kids<;>simp
 rw[hb]at hW
 unfold Qs
 rw[ho,hb]
 have eo:Q2 r=[di 2,di r.course,.str r.name,di r.n,di r.d,J0 r.kids]:=by rw[Q2,ho]
 rw[eo]at hR⊢
 refine Q4 hT (T:=tab) (N:=55) (rs:=[.tmp 2]) Tryz.func183 rfl rfl rfl Kr rfl ?_
 (refine gW ?_;intros)
 refine hW.call ?_
 (refine gW ?_;intros)
 refine H0 rfl rfl (fun w=>rfl) Ys Gw rfl rfl Dc Dc ?_
 ((refine xW ?_ ?_)<;>intros)
 all_goals first
  | (refine hR.call ?_
     (refine gW ?_;intros)
     refine⟨congrArg D.bool ?_,Tt⟩
     simp only[Jg,Jl,Zn,ho,hke,bw]
     simp
     first|omega|(simp_all;fail)|(simp_all;omega)|grind
     done)
  | (refine ⟨congrArg D.bool ?_,True.intro⟩
     simp only[Jg,Jl,Zn,ho,hke,bw]
     simp
     first|omega|(simp_all;fail)|(simp_all;omega)|grind
     done)
theorem Q9m (r:Q1)(hI:In1 r)(ho:r.op=3):Pure Tryz.prog 183 [.agg (Q2 r)] [.bool (Qs r)]:=by
 have hR:=Qep r
 have hW:=Yk 3 1 9
 have hb:bw 3 1 9=true:=rfl
 have hke:r.kids.isEmpty=decide (r.kids.length=0):=by cases r.kids<;>simp
 rw[hb]at hW
 unfold Qs
 rw[ho,hb]
 have eo:Q2 r=[di 3,di r.course,.str r.name,di r.n,di r.d,J0 r.kids]:=by rw[Q2,ho]
 rw[eo]at hR⊢
 refine Q4 hT (T:=tab) (N:=55) (rs:=[.tmp 2]) Tryz.func183 rfl rfl rfl Kr rfl ?_
 (refine gW ?_;intros)
 refine hW.call ?_
 (refine gW ?_;intros)
 refine H0 rfl rfl (fun w=>rfl) Ys Gw rfl rfl Dc Dc ?_
 ((refine xW ?_ ?_)<;>intros)
 all_goals first
  | (refine hR.call ?_
     (refine gW ?_;intros)
     refine⟨congrArg D.bool ?_,Tt⟩
     simp only[Jg,Jl,Zn,ho,hke,bw]
     simp
     first|omega|(simp_all;fail)|(simp_all;omega)|grind
     done)
  | (refine ⟨congrArg D.bool ?_,True.intro⟩
     simp only[Jg,Jl,Zn,ho,hke,bw]
     simp
     first|omega|(simp_all;fail)|(simp_all;omega)|grind
     done)
theorem Q9n (r:Q1)(hI:In1 r)(ho:r.op=4):Pure Tryz.prog 183 [.agg (Q2 r)] [.bool (Qs r)]:=by
 have hR:=Qeq r
 have hW:=Yk 4 1 9
 have hb:bw 4 1 9=true:=rfl
 have hke:r.kids.isEmpty=decide (r.kids.length=0):=by cases r.kids<;>simp
 rw[hb]at hW
 unfold Qs
 rw[ho,hb]
 have eo:Q2 r=[di 4,di r.course,.str r.name,di r.n,di r.d,J0 r.kids]:=by rw[Q2,ho]
 rw[eo]at hR⊢
 refine Q4 hT (T:=tab) (N:=55) (rs:=[.tmp 2]) Tryz.func183 rfl rfl rfl Kr rfl ?_
 (refine gW ?_;intros)
 refine hW.call ?_
 (refine gW ?_;intros)
 refine H0 rfl rfl (fun w=>rfl) Ys Gw rfl rfl Dc Dc ?_
 ((refine xW ?_ ?_)<;>intros)
 all_goals first
  | (refine hR.call ?_
     (refine gW ?_;intros)
     refine⟨congrArg D.bool ?_,Tt⟩
     simp only[Jg,Jl,Zn,ho,hke,bw]
     simp
     first|omega|(simp_all;fail)|(simp_all;omega)|grind
     done)
  | (refine ⟨congrArg D.bool ?_,True.intro⟩
     simp only[Jg,Jl,Zn,ho,hke,bw]
     simp
     first|omega|(simp_all;fail)|(simp_all;omega)|grind
     done)
theorem Q9o (r:Q1)(hI:In1 r)(ho:r.op=5):Pure Tryz.prog 183 [.agg (Q2 r)] [.bool (Qs r)]:=by
 have hR:=Qer r
 have hW:=Yk 5 1 9
 have hb:bw 5 1 9=true:=rfl
 have hke:r.kids.isEmpty=decide (r.kids.length=0):=by cases r.kids<;>simp
 rw[hb]at hW
 unfold Qs
 rw[ho,hb]
 have eo:Q2 r=[di 5,di r.course,.str r.name,di r.n,di r.d,J0 r.kids]:=by rw[Q2,ho]
 rw[eo]at hR⊢
 refine Q4 hT (T:=tab) (N:=55) (rs:=[.tmp 2]) Tryz.func183 rfl rfl rfl Kr rfl ?_
 (refine gW ?_;intros)
 refine hW.call ?_
 (refine gW ?_;intros)
 refine H0 rfl rfl (fun w=>rfl) Ys Gw rfl rfl Dc Dc ?_
 ((refine xW ?_ ?_)<;>intros)
 all_goals first
  | (refine hR.call ?_
     (refine gW ?_;intros)
     refine⟨congrArg D.bool ?_,Tt⟩
     simp only[Jg,Jl,Zn,ho,hke,bw]
     simp
     first|omega|(simp_all;fail)|(simp_all;omega)|grind
     done)
  | (refine ⟨congrArg D.bool ?_,True.intro⟩
     simp only[Jg,Jl,Zn,ho,hke,bw]
     simp
     first|omega|(simp_all;fail)|(simp_all;omega)|grind
     done)
theorem Q9p (r:Q1)(hI:In1 r)(ho:r.op=6):Pure Tryz.prog 183 [.agg (Q2 r)] [.bool (Qs r)]:=by
 have hR:=Qes r
 have hW:=Yk 6 1 9
 have hb:bw 6 1 9=true:=rfl
 have hke:r.kids.isEmpty=decide (r.kids.length=0):=by cases r.kids<;>simp
 rw[hb]at hW
 unfold Qs
 rw[ho,hb]
 have eo:Q2 r=[di 6,di r.course,.str r.name,di r.n,di r.d,J0 r.kids]:=by rw[Q2,ho]
 rw[eo]at hR⊢
 refine Q4 hT (T:=tab) (N:=55) (rs:=[.tmp 2]) Tryz.func183 rfl rfl rfl Kr rfl ?_
 (refine gW ?_;intros)
 refine hW.call ?_
 (refine gW ?_;intros)
 refine H0 rfl rfl (fun w=>rfl) Ys Gw rfl rfl Dc Dc ?_
 ((refine xW ?_ ?_)<;>intros)
 all_goals first
  | (refine hR.call ?_
     (refine gW ?_;intros)
     refine⟨congrArg D.bool ?_,Tt⟩
     simp only[Jg,Jl,Zn,ho,hke,bw]
     simp
     first|omega|(simp_all;fail)|(simp_all;omega)|grind
     done)
  | (refine ⟨congrArg D.bool ?_,True.intro⟩
     simp only[Jg,Jl,Zn,ho,hke,bw]
     simp
     first|omega|(simp_all;fail)|(simp_all;omega)|grind
     done)
theorem Q9q (r:Q1)(hI:In1 r)(ho:r.op=7):Pure Tryz.prog 183 [.agg (Q2 r)] [.bool (Qs r)]:=by
 have hR:=Qet r
 have hW:=Yk 7 1 9
 have hb:bw 7 1 9=true:=rfl
 have hke:r.kids.isEmpty=decide (r.kids.length=0):=by cases r.kids<;>simp
 rw[hb]at hW
 unfold Qs
 rw[ho,hb]
 have eo:Q2 r=[di 7,di r.course,.str r.name,di r.n,di r.d,J0 r.kids]:=by rw[Q2,ho]
 rw[eo]at hR⊢
 refine Q4 hT (T:=tab) (N:=55) (rs:=[.tmp 2]) Tryz.func183 rfl rfl rfl Kr rfl ?_
 (refine gW ?_;intros)
 refine hW.call ?_
 (refine gW ?_;intros)
 refine H0 rfl rfl (fun w=>rfl) Ys Gw rfl rfl Dc Dc ?_
 ((refine xW ?_ ?_)<;>intros)
 all_goals first
  | (refine hR.call ?_
     (refine gW ?_;intros)
     refine⟨congrArg D.bool ?_,Tt⟩
     simp only[Jg,Jl,Zn,ho,hke,bw]
     simp
     first|omega|(simp_all;fail)|(simp_all;omega)|grind
     done)
  | (refine ⟨congrArg D.bool ?_,True.intro⟩
     simp only[Jg,Jl,Zn,ho,hke,bw]
     simp
     first|omega|(simp_all;fail)|(simp_all;omega)|grind
     done)
theorem Q9r (r:Q1)(hI:In1 r)(ho:r.op=8):Pure Tryz.prog 183 [.agg (Q2 r)] [.bool (Qs r)]:=by
 have hR:=Qeu r hI.2.2.1 hI.2.2.2.1
 have hW:=Yk 8 1 9
 have hb:bw 8 1 9=true:=rfl
 have hke:r.kids.isEmpty=decide (r.kids.length=0):=by cases r.kids<;>simp
 rw[hb]at hW
 unfold Qs
 rw[ho,hb]
 have eo:Q2 r=[di 8,di r.course,.str r.name,di r.n,di r.d,J0 r.kids]:=by rw[Q2,ho]
 rw[eo]at hR⊢
 refine Q4 hT (T:=tab) (N:=55) (rs:=[.tmp 2]) Tryz.func183 rfl rfl rfl Kr rfl ?_
 (refine gW ?_;intros)
 refine hW.call ?_
 (refine gW ?_;intros)
 refine H0 rfl rfl (fun w=>rfl) Ys Gw rfl rfl Dc Dc ?_
 ((refine xW ?_ ?_)<;>intros)
 all_goals first
  | (refine hR.call ?_
     (refine gW ?_;intros)
     refine⟨congrArg D.bool ?_,Tt⟩
     simp only[Jg,Jl,Zn,ho,hke,bw]
     simp
     first|omega|(simp_all;fail)|(simp_all;omega)|grind
     done)
  | (refine ⟨congrArg D.bool ?_,True.intro⟩
     simp only[Jg,Jl,Zn,ho,hke,bw]
     simp
     first|omega|(simp_all;fail)|(simp_all;omega)|grind
     done)
theorem Q9s (r:Q1)(hI:In1 r)(ho:r.op=9):Pure Tryz.prog 183 [.agg (Q2 r)] [.bool (Qs r)]:=by
 have hR:=T7 r
 have hW:=Yk 9 1 9
 have hb:bw 9 1 9=true:=rfl
 have hke:r.kids.isEmpty=decide (r.kids.length=0):=by cases r.kids<;>simp
 rw[hb]at hW
 unfold Qs
 rw[ho,hb]
 have eo:Q2 r=[di 9,di r.course,.str r.name,di r.n,di r.d,J0 r.kids]:=by rw[Q2,ho]
 rw[eo]at hR⊢
 refine Q4 hT (T:=tab) (N:=55) (rs:=[.tmp 2]) Tryz.func183 rfl rfl rfl Kr rfl ?_
 (refine gW ?_;intros)
 refine hW.call ?_
 (refine gW ?_;intros)
 refine H0 rfl rfl (fun w=>rfl) Ys Gw rfl rfl Dc Dc ?_
 ((refine xW ?_ ?_)<;>intros)
 all_goals first
  | (refine hR.call ?_
     (refine gW ?_;intros)
     refine⟨congrArg D.bool ?_,Tt⟩
     simp only[Jg,Jl,Zn,ho,hke,bw]
     simp
     first|omega|(simp_all;fail)|(simp_all;omega)|grind
     done)
  | (refine ⟨congrArg D.bool ?_,True.intro⟩
     simp only[Jg,Jl,Zn,ho,hke,bw]
     simp
     first|omega|(simp_all;fail)|(simp_all;omega)|grind
     done)
theorem Q9t (r:Q1)(hI:In1 r):Pure Tryz.prog 183 [.agg (Q2 r)] [.bool (Qs r)]:=by
 by_cases ho:bw r.op 1 9=true
 .have h1:1<=r.op/\r.op<=9:=by simpa[bw] using ho
  have h2:r.op=1\/r.op=2\/r.op=3\/r.op=4\/r.op=5\/r.op=6\/r.op=7\/r.op=8\/r.op=9:=by omega
  rcases h2 with h|h|h|h|h|h|h|h|h
  .exact Q9k r hI h
  .exact Q9l r hI h
  .exact Q9m r hI h
  .exact Q9n r hI h
  .exact Q9o r hI h
  .exact Q9p r hI h
  .exact Q9q r hI h
  .exact Q9r r hI h
  .exact Q9s r hI h
 .have hb:bw r.op 1 9=false:=by simpa using ho
  have hW:=Yk r.op 1 9
  rw[hb]at hW
  have hF:Qs r=false:=by simp[Qs,hb]
  rw[hF]
  refine Q4 hT (T:=tab) (N:=55) (rs:=[.tmp 2]) Tryz.func183 rfl rfl rfl Kr rfl ?_
  (refine gW ?_;intros)
  refine hW.call ?_
  (refine gW ?_;intros)
  exact⟨rfl,Tt⟩
end Go.Proofs.YtmlhghddfobmmaaGreatDoor
