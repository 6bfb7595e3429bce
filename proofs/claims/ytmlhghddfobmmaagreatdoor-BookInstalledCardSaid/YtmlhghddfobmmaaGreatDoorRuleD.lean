import Derived.Test.YtmlhghddfobmmaaGreatDoorRuleC
namespace Go.Proofs.YtmlhghddfobmmaaGreatDoor
set_option linter.unusedSimpArgs false
set_option linter.unusedVariables false
open Go Go.Ab
set_option maxRecDepth 100000
set_option maxHeartbeats 0
def kindRow (c n d k:Bool)(F G:Nat):List D:=[.bool c,.bool n,.bool d,.bool k,.fn (.func F) [] [],.fn (.func G) [] []]
def kindC:List D:=[.bool false,.bool false,.bool false,.bool false,.nilf,.nilf]++(kindRow false false false true 260 261++(kindRow false false false true 262 263 ++
 (kindRow false true false true 264 265++(kindRow false false false true 266 267++(kindRow true true false false 268 270 ++
 (kindRow true true false false 272 273++(kindRow false true false false 274 275++(kindRow false true true false 276 278 ++
 kindRow true false false false 269 280))))))))
def kindV:D->Value
 | .bool b=>.bool b
 | .fn f _ _=>.func f #[] #[]
 |_=>.nilFunc
def isKind:D->Bool
 | .bool _=>true
 | .fn _ [] []=>true
 | .nilf=>true
 |_=>false
theorem kind_rd {d:D}(h:isKind d=true)(w:World)(F:Nat->Prop):Rd w F d (kindV d)/\(kindV d).oneCell'=true:=by
 unfold isKind at h
 split at h
 .exact⟨.bool,rfl⟩
 .refine⟨?_,rfl⟩
  exact .fn (us:=[]) (vs:=[]) rfl rfl (fun j x u hx hu=>by simp at hx) (fun j x u hx hu=>by simp at hx)
 .exact⟨.nilf,rfl⟩
 .cases h
theorem kind_globs:(globs.filter fun x=>Nat.beq x.1 0)=(List.range 60).map fun j=>(0,j,kindV (kindC.getD j .nilp)):=by kernel_rfl
theorem kind_all:(List.range 60).all (fun j=>isKind (kindC.getD j .nilp))=true:=by kernel_rfl
theorem kind_len:kindC.length=60:=by kernel_rfl
theorem kind_cs (j:Nat)(d:D)(h:kindC[j]?=some d):∃v,(0,j,v)∈globs/\(∀w F,Rd w F d v)/\v.oneCell'=true:=by
 have hj:j<60:=by
  have:=(List.getElem?_eq_some_iff.1 h).1
  rwa [kind_len]at this
 have hd:kindC.getD j .nilp=d:=by rw[List.getD_eq_getElem?_getD,h];rfl
 have hk:isKind d=true:=by
  have:=List.all_eq_true.1 kind_all j (List.mem_range.2 hj)
  rwa [hd]at this
 refine⟨kindV d,?_,fun w F=>(kind_rd hk w F).1,(kind_rd hk default (fun _=>False)).2⟩
 refine(List.mem_filter (p:=fun x:Nat × Nat × Value=>Nat.beq x.1 0)).1 ?_ |>.1
 rw[kind_globs]
 exact List.mem_map.2 ⟨j,List.mem_range.2 hj,by rw[hd]⟩
theorem formed1_ok (r:Rule)(hI:In1 r)(ho:r.op=1):Pure Tryz.prog 183 [.agg (eRule r)] [.bool (formedR r)]:=by
 have hR:=right1_ok r
 have hW:=within_ok 1 1 9
 have hb:bw 1 1 9=true:=rfl
 have hke:r.kids.isEmpty=decide (r.kids.length=0):=by cases r.kids<;>simp
 rw[hb]at hW
 unfold formedR
 rw[ho,hb]
 have eo:eRule r=[di 1,di r.course,.str r.name,di r.n,di r.d,eRules r.kids]:=by rw[eRule,ho]
 rw[eo]at hR⊢
 refine pure_rule hT (T:=tab) (N:=55) (rs:=[.tmp 2]) Tryz.func183 rfl rfl rfl Kr rfl ?_
 (refine gW ?_;intros)
 refine hW.call ?_
 (refine gW ?_;intros)
 refine op_idx_glob rfl rfl (fun w=>rfl) kindC kind_cs rfl rfl Dc Dc ?_
 ((refine xW ?_ ?_)<;>intros)
 all_goals first
  | (refine hR.call ?_
     (refine gW ?_;intros)
     refine⟨congrArg D.bool ?_,Tt⟩
     simp only[namedR,countR,rightR,ho,hke,bw]
     simp
     first|omega|(simp_all;fail)|(simp_all;omega)|grind
     done)
  | (refine ⟨congrArg D.bool ?_,True.intro⟩
     simp only[namedR,countR,rightR,ho,hke,bw]
     simp
     first|omega|(simp_all;fail)|(simp_all;omega)|grind
     done)
theorem formed2_ok (r:Rule)(hI:In1 r)(ho:r.op=2):Pure Tryz.prog 183 [.agg (eRule r)] [.bool (formedR r)]:=by
 have hR:=right2_ok r
 have hW:=within_ok 2 1 9
 have hb:bw 2 1 9=true:=rfl
 have hke:r.kids.isEmpty=decide (r.kids.length=0):=by cases r.kids<;>simp
 rw[hb]at hW
 unfold formedR
 rw[ho,hb]
 have eo:eRule r=[di 2,di r.course,.str r.name,di r.n,di r.d,eRules r.kids]:=by rw[eRule,ho]
 rw[eo]at hR⊢
 refine pure_rule hT (T:=tab) (N:=55) (rs:=[.tmp 2]) Tryz.func183 rfl rfl rfl Kr rfl ?_
 (refine gW ?_;intros)
 refine hW.call ?_
 (refine gW ?_;intros)
 refine op_idx_glob rfl rfl (fun w=>rfl) kindC kind_cs rfl rfl Dc Dc ?_
 ((refine xW ?_ ?_)<;>intros)
 all_goals first
  | (refine hR.call ?_
     (refine gW ?_;intros)
     refine⟨congrArg D.bool ?_,Tt⟩
     simp only[namedR,countR,rightR,ho,hke,bw]
     simp
     first|omega|(simp_all;fail)|(simp_all;omega)|grind
     done)
  | (refine ⟨congrArg D.bool ?_,True.intro⟩
     simp only[namedR,countR,rightR,ho,hke,bw]
     simp
     first|omega|(simp_all;fail)|(simp_all;omega)|grind
     done)
theorem formed3_ok (r:Rule)(hI:In1 r)(ho:r.op=3):Pure Tryz.prog 183 [.agg (eRule r)] [.bool (formedR r)]:=by
 have hR:=right3_ok r
 have hW:=within_ok 3 1 9
 have hb:bw 3 1 9=true:=rfl
 have hke:r.kids.isEmpty=decide (r.kids.length=0):=by cases r.kids<;>simp
 rw[hb]at hW
 unfold formedR
 rw[ho,hb]
 have eo:eRule r=[di 3,di r.course,.str r.name,di r.n,di r.d,eRules r.kids]:=by rw[eRule,ho]
 rw[eo]at hR⊢
 refine pure_rule hT (T:=tab) (N:=55) (rs:=[.tmp 2]) Tryz.func183 rfl rfl rfl Kr rfl ?_
 (refine gW ?_;intros)
 refine hW.call ?_
 (refine gW ?_;intros)
 refine op_idx_glob rfl rfl (fun w=>rfl) kindC kind_cs rfl rfl Dc Dc ?_
 ((refine xW ?_ ?_)<;>intros)
 all_goals first
  | (refine hR.call ?_
     (refine gW ?_;intros)
     refine⟨congrArg D.bool ?_,Tt⟩
     simp only[namedR,countR,rightR,ho,hke,bw]
     simp
     first|omega|(simp_all;fail)|(simp_all;omega)|grind
     done)
  | (refine ⟨congrArg D.bool ?_,True.intro⟩
     simp only[namedR,countR,rightR,ho,hke,bw]
     simp
     first|omega|(simp_all;fail)|(simp_all;omega)|grind
     done)
theorem formed4_ok (r:Rule)(hI:In1 r)(ho:r.op=4):Pure Tryz.prog 183 [.agg (eRule r)] [.bool (formedR r)]:=by
 have hR:=right4_ok r
 have hW:=within_ok 4 1 9
 have hb:bw 4 1 9=true:=rfl
 have hke:r.kids.isEmpty=decide (r.kids.length=0):=by cases r.kids<;>simp
 rw[hb]at hW
 unfold formedR
 rw[ho,hb]
 have eo:eRule r=[di 4,di r.course,.str r.name,di r.n,di r.d,eRules r.kids]:=by rw[eRule,ho]
 rw[eo]at hR⊢
 refine pure_rule hT (T:=tab) (N:=55) (rs:=[.tmp 2]) Tryz.func183 rfl rfl rfl Kr rfl ?_
 (refine gW ?_;intros)
 refine hW.call ?_
 (refine gW ?_;intros)
 refine op_idx_glob rfl rfl (fun w=>rfl) kindC kind_cs rfl rfl Dc Dc ?_
 ((refine xW ?_ ?_)<;>intros)
 all_goals first
  | (refine hR.call ?_
     (refine gW ?_;intros)
     refine⟨congrArg D.bool ?_,Tt⟩
     simp only[namedR,countR,rightR,ho,hke,bw]
     simp
     first|omega|(simp_all;fail)|(simp_all;omega)|grind
     done)
  | (refine ⟨congrArg D.bool ?_,True.intro⟩
     simp only[namedR,countR,rightR,ho,hke,bw]
     simp
     first|omega|(simp_all;fail)|(simp_all;omega)|grind
     done)
theorem formed5_ok (r:Rule)(hI:In1 r)(ho:r.op=5):Pure Tryz.prog 183 [.agg (eRule r)] [.bool (formedR r)]:=by
 have hR:=right5_ok r
 have hW:=within_ok 5 1 9
 have hb:bw 5 1 9=true:=rfl
 have hke:r.kids.isEmpty=decide (r.kids.length=0):=by cases r.kids<;>simp
 rw[hb]at hW
 unfold formedR
 rw[ho,hb]
 have eo:eRule r=[di 5,di r.course,.str r.name,di r.n,di r.d,eRules r.kids]:=by rw[eRule,ho]
 rw[eo]at hR⊢
 refine pure_rule hT (T:=tab) (N:=55) (rs:=[.tmp 2]) Tryz.func183 rfl rfl rfl Kr rfl ?_
 (refine gW ?_;intros)
 refine hW.call ?_
 (refine gW ?_;intros)
 refine op_idx_glob rfl rfl (fun w=>rfl) kindC kind_cs rfl rfl Dc Dc ?_
 ((refine xW ?_ ?_)<;>intros)
 all_goals first
  | (refine hR.call ?_
     (refine gW ?_;intros)
     refine⟨congrArg D.bool ?_,Tt⟩
     simp only[namedR,countR,rightR,ho,hke,bw]
     simp
     first|omega|(simp_all;fail)|(simp_all;omega)|grind
     done)
  | (refine ⟨congrArg D.bool ?_,True.intro⟩
     simp only[namedR,countR,rightR,ho,hke,bw]
     simp
     first|omega|(simp_all;fail)|(simp_all;omega)|grind
     done)
theorem formed6_ok (r:Rule)(hI:In1 r)(ho:r.op=6):Pure Tryz.prog 183 [.agg (eRule r)] [.bool (formedR r)]:=by
 have hR:=right6_ok r
 have hW:=within_ok 6 1 9
 have hb:bw 6 1 9=true:=rfl
 have hke:r.kids.isEmpty=decide (r.kids.length=0):=by cases r.kids<;>simp
 rw[hb]at hW
 unfold formedR
 rw[ho,hb]
 have eo:eRule r=[di 6,di r.course,.str r.name,di r.n,di r.d,eRules r.kids]:=by rw[eRule,ho]
 rw[eo]at hR⊢
 refine pure_rule hT (T:=tab) (N:=55) (rs:=[.tmp 2]) Tryz.func183 rfl rfl rfl Kr rfl ?_
 (refine gW ?_;intros)
 refine hW.call ?_
 (refine gW ?_;intros)
 refine op_idx_glob rfl rfl (fun w=>rfl) kindC kind_cs rfl rfl Dc Dc ?_
 ((refine xW ?_ ?_)<;>intros)
 all_goals first
  | (refine hR.call ?_
     (refine gW ?_;intros)
     refine⟨congrArg D.bool ?_,Tt⟩
     simp only[namedR,countR,rightR,ho,hke,bw]
     simp
     first|omega|(simp_all;fail)|(simp_all;omega)|grind
     done)
  | (refine ⟨congrArg D.bool ?_,True.intro⟩
     simp only[namedR,countR,rightR,ho,hke,bw]
     simp
     first|omega|(simp_all;fail)|(simp_all;omega)|grind
     done)
theorem formed7_ok (r:Rule)(hI:In1 r)(ho:r.op=7):Pure Tryz.prog 183 [.agg (eRule r)] [.bool (formedR r)]:=by
 have hR:=right7_ok r
 have hW:=within_ok 7 1 9
 have hb:bw 7 1 9=true:=rfl
 have hke:r.kids.isEmpty=decide (r.kids.length=0):=by cases r.kids<;>simp
 rw[hb]at hW
 unfold formedR
 rw[ho,hb]
 have eo:eRule r=[di 7,di r.course,.str r.name,di r.n,di r.d,eRules r.kids]:=by rw[eRule,ho]
 rw[eo]at hR⊢
 refine pure_rule hT (T:=tab) (N:=55) (rs:=[.tmp 2]) Tryz.func183 rfl rfl rfl Kr rfl ?_
 (refine gW ?_;intros)
 refine hW.call ?_
 (refine gW ?_;intros)
 refine op_idx_glob rfl rfl (fun w=>rfl) kindC kind_cs rfl rfl Dc Dc ?_
 ((refine xW ?_ ?_)<;>intros)
 all_goals first
  | (refine hR.call ?_
     (refine gW ?_;intros)
     refine⟨congrArg D.bool ?_,Tt⟩
     simp only[namedR,countR,rightR,ho,hke,bw]
     simp
     first|omega|(simp_all;fail)|(simp_all;omega)|grind
     done)
  | (refine ⟨congrArg D.bool ?_,True.intro⟩
     simp only[namedR,countR,rightR,ho,hke,bw]
     simp
     first|omega|(simp_all;fail)|(simp_all;omega)|grind
     done)
theorem formed8_ok (r:Rule)(hI:In1 r)(ho:r.op=8):Pure Tryz.prog 183 [.agg (eRule r)] [.bool (formedR r)]:=by
 have hR:=right8_ok r hI.2.2.1 hI.2.2.2.1
 have hW:=within_ok 8 1 9
 have hb:bw 8 1 9=true:=rfl
 have hke:r.kids.isEmpty=decide (r.kids.length=0):=by cases r.kids<;>simp
 rw[hb]at hW
 unfold formedR
 rw[ho,hb]
 have eo:eRule r=[di 8,di r.course,.str r.name,di r.n,di r.d,eRules r.kids]:=by rw[eRule,ho]
 rw[eo]at hR⊢
 refine pure_rule hT (T:=tab) (N:=55) (rs:=[.tmp 2]) Tryz.func183 rfl rfl rfl Kr rfl ?_
 (refine gW ?_;intros)
 refine hW.call ?_
 (refine gW ?_;intros)
 refine op_idx_glob rfl rfl (fun w=>rfl) kindC kind_cs rfl rfl Dc Dc ?_
 ((refine xW ?_ ?_)<;>intros)
 all_goals first
  | (refine hR.call ?_
     (refine gW ?_;intros)
     refine⟨congrArg D.bool ?_,Tt⟩
     simp only[namedR,countR,rightR,ho,hke,bw]
     simp
     first|omega|(simp_all;fail)|(simp_all;omega)|grind
     done)
  | (refine ⟨congrArg D.bool ?_,True.intro⟩
     simp only[namedR,countR,rightR,ho,hke,bw]
     simp
     first|omega|(simp_all;fail)|(simp_all;omega)|grind
     done)
theorem formed9_ok (r:Rule)(hI:In1 r)(ho:r.op=9):Pure Tryz.prog 183 [.agg (eRule r)] [.bool (formedR r)]:=by
 have hR:=course_ok r
 have hW:=within_ok 9 1 9
 have hb:bw 9 1 9=true:=rfl
 have hke:r.kids.isEmpty=decide (r.kids.length=0):=by cases r.kids<;>simp
 rw[hb]at hW
 unfold formedR
 rw[ho,hb]
 have eo:eRule r=[di 9,di r.course,.str r.name,di r.n,di r.d,eRules r.kids]:=by rw[eRule,ho]
 rw[eo]at hR⊢
 refine pure_rule hT (T:=tab) (N:=55) (rs:=[.tmp 2]) Tryz.func183 rfl rfl rfl Kr rfl ?_
 (refine gW ?_;intros)
 refine hW.call ?_
 (refine gW ?_;intros)
 refine op_idx_glob rfl rfl (fun w=>rfl) kindC kind_cs rfl rfl Dc Dc ?_
 ((refine xW ?_ ?_)<;>intros)
 all_goals first
  | (refine hR.call ?_
     (refine gW ?_;intros)
     refine⟨congrArg D.bool ?_,Tt⟩
     simp only[namedR,countR,rightR,ho,hke,bw]
     simp
     first|omega|(simp_all;fail)|(simp_all;omega)|grind
     done)
  | (refine ⟨congrArg D.bool ?_,True.intro⟩
     simp only[namedR,countR,rightR,ho,hke,bw]
     simp
     first|omega|(simp_all;fail)|(simp_all;omega)|grind
     done)
theorem formed_ok (r:Rule)(hI:In1 r):Pure Tryz.prog 183 [.agg (eRule r)] [.bool (formedR r)]:=by
 by_cases ho:bw r.op 1 9=true
 .have h1:1<=r.op/\r.op<=9:=by simpa[bw] using ho
  have h2:r.op=1\/r.op=2\/r.op=3\/r.op=4\/r.op=5\/r.op=6\/r.op=7\/r.op=8\/r.op=9:=by omega
  rcases h2 with h|h|h|h|h|h|h|h|h
  .exact formed1_ok r hI h
  .exact formed2_ok r hI h
  .exact formed3_ok r hI h
  .exact formed4_ok r hI h
  .exact formed5_ok r hI h
  .exact formed6_ok r hI h
  .exact formed7_ok r hI h
  .exact formed8_ok r hI h
  .exact formed9_ok r hI h
 .have hb:bw r.op 1 9=false:=by simpa using ho
  have hW:=within_ok r.op 1 9
  rw[hb]at hW
  have hF:formedR r=false:=by simp[formedR,hb]
  rw[hF]
  refine pure_rule hT (T:=tab) (N:=55) (rs:=[.tmp 2]) Tryz.func183 rfl rfl rfl Kr rfl ?_
  (refine gW ?_;intros)
  refine hW.call ?_
  (refine gW ?_;intros)
  exact⟨rfl,Tt⟩
end Go.Proofs.YtmlhghddfobmmaaGreatDoor
