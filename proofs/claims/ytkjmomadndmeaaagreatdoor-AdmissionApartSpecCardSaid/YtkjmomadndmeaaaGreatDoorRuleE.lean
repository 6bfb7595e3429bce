import Derived.Test.YtkjmomadndmeaaaGreatDoorRatA
namespace Go.Proofs.YtkjmomadndmeaaaGreatDoor
set_option linter.unusedSimpArgs false
set_option linter.unusedVariables false
open Go Go.Ab
set_option maxRecDepth 100000
set_option maxHeartbeats 0
def In1 (r:Rule):Prop:=In .i64 r.op/\In .i64 r.course/\In .i64 r.n/\In .i64 r.d/\r.kids.length<9223372036854775808
theorem within_ok (n lo hi:Int):Pure Tryz.prog 118 [di n,di lo,di hi] [.bool (bw n lo hi)]:=by
 refine pure_rule hT (T:=tab) (N:=15) (rs:=[.tmp 6]) Tryz.func118 rfl rfl rfl Kr rfl ?_
 by_cases h1:lo<=n<;>by_cases h2:n<=hi<;>((refine gW ?_;intros))<;>(refine⟨congrArg D.bool ?_,Tt⟩)<;>simp[bw,h1,h2]
theorem chkQ_zero {n d:Int}(h:chkQ n d=0):1<=d/\d<=1073741824/\-1073741824<=n/\n<=1073741824:=by
 unfold chkQ at h
 split at h
 .cases h
 .omega
theorem mean_ok (n d:Int)(hn:In .i64 n)(hd:In .i64 d):Pure Tryz.prog 119 [.agg [di n,di d]] [.bool (meanQ n d)]:=by
 refine pure_rule hT (T:=tab) (N:=19) (rs:=[.tmp 2]) Tryz.func119 rfl rfl rfl Kr rfl ?_
 have hC:=chk_ok n d hn hd
 by_cases h0:chkQ n d=0
 .have h1:=chkQ_zero h0
  rw[h0]at hC
  have hM:meanQ n d=(decide (0<=n)&&decide (n<=12*d)):=by simp[meanQ,bw,h0]
  rw[hM]
  by_cases h2:0<=n<;>by_cases h3:n<=12*d
  ·(refine gW ?_;intros)
   refine hC.call ?_
   (refine gW ?_;intros)
   refine⟨congrArg D.bool ?_,Tt⟩
   simp[h2,h3]
  ·(refine gW ?_;intros)
   refine hC.call ?_
   (refine gW ?_;intros)
   refine⟨congrArg D.bool ?_,Tt⟩
   simp[h2,h3]
  ·(refine gW ?_;intros)
   refine hC.call ?_
   (refine gW ?_;intros)
   refine⟨congrArg D.bool ?_,Tt⟩
   simp[h2,h3]
  ·(refine gW ?_;intros)
   refine hC.call ?_
   (refine gW ?_;intros)
   refine⟨congrArg D.bool ?_,Tt⟩
   simp[h2,h3]
 ·(refine gW ?_;intros)
  refine hC.call ?_
  (refine gW ?_;intros)
  refine⟨congrArg D.bool ?_,Tt⟩
  simp[meanQ,h0]
theorem course_ok (r:Rule):Pure Tryz.prog 295 [.agg (eRule r)] [.bool (crsOk r.course)]:=by
 refine pure_rule hT (T:=tab) (N:=6) (rs:=[.tmp 2]) Tryz.func295 rfl rfl rfl Kr rfl ?_
 (refine gW ?_;intros)
 refine(within_ok r.course 0 4095).call ?_
 (refine gW ?_;intros)
 exact⟨rfl,Tt⟩
theorem right1_ok (r:Rule):Pure Tryz.prog 286 [.agg (eRule r)] [.bool true]:=by
 refine pure_rule hT (T:=tab) (N:=3) (rs:=[.tmp 2]) Tryz.func286 rfl rfl rfl Kr rfl ?_
 (refine gW ?_;intros)
 exact⟨rfl,Tt⟩
theorem right2_ok (r:Rule):Pure Tryz.prog 288 [.agg (eRule r)] [.bool true]:=by
 refine pure_rule hT (T:=tab) (N:=3) (rs:=[.tmp 2]) Tryz.func288 rfl rfl rfl Kr rfl ?_
 (refine gW ?_;intros)
 exact⟨rfl,Tt⟩
theorem right3_ok (r:Rule):Pure Tryz.prog 290 [.agg (eRule r)] [.bool (bw r.n 0 200)]:=by
 refine pure_rule hT (T:=tab) (N:=6) (rs:=[.tmp 2]) Tryz.func290 rfl rfl rfl Kr rfl ?_
 (refine gW ?_;intros)
 refine(within_ok r.n 0 200).call ?_
 (refine gW ?_;intros)
 exact⟨rfl,Tt⟩
theorem right4_ok (r:Rule):Pure Tryz.prog 292 [.agg (eRule r)] [.bool (decide (r.kids.length=1))]:=by
 refine pure_rule hT (T:=tab) (N:=7) (rs:=[.tmp 2]) Tryz.func292 rfl rfl rfl Kr rfl ?_
 (refine gW ?_;intros)
 refine⟨congrArg D.bool ?_,Tt⟩
 exact decide_eq_decide.2 Om
theorem right5_ok (r:Rule):Pure Tryz.prog 294 [.agg (eRule r)] [.bool (crsOk r.course&&bw r.n 0 12)]:=by
 have hC:=course_ok r
 refine pure_rule hT (T:=tab) (N:=10) (rs:=[.tmp 2]) Tryz.func294 rfl rfl rfl Kr rfl ?_
 cases h:crsOk r.course<;>rw[h]at hC
 ·(refine gW ?_;intros)
  refine hC.call ?_
  (refine gW ?_;intros)
  exact⟨rfl,Tt⟩
 ·(refine gW ?_;intros)
  refine hC.call ?_
  (refine gW ?_;intros)
  refine(within_ok r.n 0 12).call ?_
  (refine gW ?_;intros)
  exact⟨rfl,Tt⟩
theorem right6_ok (r:Rule):Pure Tryz.prog 298 [.agg (eRule r)] [.bool (crsOk r.course&&bw r.n 1 100)]:=by
 have hC:=course_ok r
 refine pure_rule hT (T:=tab) (N:=10) (rs:=[.tmp 2]) Tryz.func298 rfl rfl rfl Kr rfl ?_
 cases h:crsOk r.course<;>rw[h]at hC
 ·(refine gW ?_;intros)
  refine hC.call ?_
  (refine gW ?_;intros)
  exact⟨rfl,Tt⟩
 ·(refine gW ?_;intros)
  refine hC.call ?_
  (refine gW ?_;intros)
  refine(within_ok r.n 1 100).call ?_
  (refine gW ?_;intros)
  exact⟨rfl,Tt⟩
theorem right7_ok (r:Rule):Pure Tryz.prog 300 [.agg (eRule r)] [.bool (bw r.n 0 10000)]:=by
 refine pure_rule hT (T:=tab) (N:=6) (rs:=[.tmp 2]) Tryz.func300 rfl rfl rfl Kr rfl ?_
 (refine gW ?_;intros)
 refine(within_ok r.n 0 10000).call ?_
 (refine gW ?_;intros)
 exact⟨rfl,Tt⟩
theorem right8_ok (r:Rule)(hn:In .i64 r.n)(hd:In .i64 r.d):Pure Tryz.prog 302 [.agg (eRule r)] [.bool (meanQ r.n r.d)]:=by
 refine pure_rule hT (T:=tab) (N:=9) (rs:=[.tmp 2]) Tryz.func302 rfl rfl rfl Kr rfl ?_
 (refine gW ?_;intros)
 refine(mean_ok r.n r.d hn hd).call ?_
 (refine gW ?_;intros)
 exact⟨rfl,Tt⟩
def kindRow (c n d k:Bool)(F G:Nat):List D:=[.bool c,.bool n,.bool d,.bool k,.fn (.func F) [] [],.fn (.func G) [] []]
def kindC:List D:=[.bool false,.bool false,.bool false,.bool false,.nilf,.nilf]++(kindRow false false false true 286 287++(kindRow false false false true 288 289 ++
 (kindRow false true false true 290 291++(kindRow false false false true 292 293++(kindRow true true false false 294 296 ++
 (kindRow true true false false 298 299++(kindRow false true false false 300 301++(kindRow false true true false 302 303 ++
 kindRow true false false false 295 305))))))))
def kindV:D->Value
 | .bool b=>.bool b
 | .fn f _ _=>.func f #[] #[]
 |_=>.nilFunc
def isKind:D->Bool
 | .bool _=>true
 | .fn _ [] []=>true
 | .nilf=>true
 |_=>false
theorem kind_rd {d:D}(h:isKind d=true)(w:World)(F:Nat->Prop):Rd w F d (kindV d)/\(kindV d).oneCell'=true:=by
 unfold isKind at h
 split at h
 .exact⟨.bool,rfl⟩
 .refine⟨?_,rfl⟩
  exact .fn (us:=[]) (vs:=[]) rfl rfl (fun j x u hx hu=>by simp at hx) (fun j x u hx hu=>by simp at hx)
 .exact⟨.nilf,rfl⟩
 .cases h
theorem kind_globs:(globs.filter fun x=>Nat.beq x.1 0)=(List.range 60).map fun j=>(0,j,kindV (kindC.getD j .nilp)):=by kernel_rfl
theorem kind_all:(List.range 60).all (fun j=>isKind (kindC.getD j .nilp))=true:=by kernel_rfl
theorem kind_len:kindC.length=60:=by kernel_rfl
theorem kind_cs (j:Nat)(d:D)(h:kindC[j]?=some d):∃v,(0,j,v)∈globs/\(∀w F,Rd w F d v)/\v.oneCell'=true:=by
 have hj:j<60:=by
  have:=(List.getElem?_eq_some_iff.1 h).1
  rwa [kind_len]at this
 have hd:kindC.getD j .nilp=d:=by rw[List.getD_eq_getElem?_getD,h];rfl
 have hk:isKind d=true:=by
  have:=List.all_eq_true.1 kind_all j (List.mem_range.2 hj)
  rwa [hd]at this
 refine⟨kindV d,?_,fun w F=>(kind_rd hk w F).1,(kind_rd hk default (fun _=>False)).2⟩
 refine(List.mem_filter (p:=fun x:Nat × Nat × Value=>Nat.beq x.1 0)).1 ?_ |>.1
 rw[kind_globs]
 exact List.mem_map.2 ⟨j,List.mem_range.2 hj,by rw[hd]⟩
theorem formed1_ok (r:Rule)(hI:In1 r)(ho:r.op=1):Pure Tryz.prog 117 [.agg (eRule r)] [.bool (formedR r)]:=by
 have hR:=right1_ok r
 have hW:=within_ok 1 1 9
 have hb:bw 1 1 9=true:=rfl
 have hke:r.kids.isEmpty=decide (r.kids.length=0):=by cases r.kids<;>simp
 rw[hb]at hW
 unfold formedR
 rw[ho,hb]
 have eo:eRule r=[di 1,di r.course,.str r.name,di r.n,di r.d,eRules r.kids]:=by rw[eRule,ho]
 rw[eo]at hR⊢
 refine pure_rule hT (T:=tab) (N:=55) (rs:=[.tmp 2]) Tryz.func117 rfl rfl rfl Kr rfl ?_
 (refine gW ?_;intros)
 refine hW.call ?_
 (refine gW ?_;intros)
 refine op_idx_glob rfl rfl (fun w=>rfl) kindC kind_cs rfl rfl Dc Dc ?_
 ((refine xW ?_ ?_)<;>intros)
 all_goals first
  | (refine hR.call ?_
     (refine gW ?_;intros)
     refine⟨congrArg D.bool ?_,Tt⟩
     simp only[namedR,countR,rightR,ho,hke,bw]
     simp
     first|omega|(simp_all;fail)|(simp_all;omega)|grind
     done)
  | (refine ⟨congrArg D.bool ?_,True.intro⟩
     simp only[namedR,countR,rightR,ho,hke,bw]
     simp
     first|omega|(simp_all;fail)|(simp_all;omega)|grind
     done)
theorem formed2_ok (r:Rule)(hI:In1 r)(ho:r.op=2):Pure Tryz.prog 117 [.agg (eRule r)] [.bool (formedR r)]:=by
 have hR:=right2_ok r
 have hW:=within_ok 2 1 9
 have hb:bw 2 1 9=true:=rfl
 have hke:r.kids.isEmpty=decide (r.kids.length=0):=by cases r.kids<;>simp
 rw[hb]at hW
 unfold formedR
 rw[ho,hb]
 have eo:eRule r=[di 2,di r.course,.str r.name,di r.n,di r.d,eRules r.kids]:=by rw[eRule,ho]
 rw[eo]at hR⊢
 refine pure_rule hT (T:=tab) (N:=55) (rs:=[.tmp 2]) Tryz.func117 rfl rfl rfl Kr rfl ?_
 (refine gW ?_;intros)
 refine hW.call ?_
 (refine gW ?_;intros)
 refine op_idx_glob rfl rfl (fun w=>rfl) kindC kind_cs rfl rfl Dc Dc ?_
 ((refine xW ?_ ?_)<;>intros)
 all_goals first
  | (refine hR.call ?_
     (refine gW ?_;intros)
     refine⟨congrArg D.bool ?_,Tt⟩
     simp only[namedR,countR,rightR,ho,hke,bw]
     simp
     first|omega|(simp_all;fail)|(simp_all;omega)|grind
     done)
  | (refine ⟨congrArg D.bool ?_,True.intro⟩
     simp only[namedR,countR,rightR,ho,hke,bw]
     simp
     first|omega|(simp_all;fail)|(simp_all;omega)|grind
     done)
theorem formed3_ok (r:Rule)(hI:In1 r)(ho:r.op=3):Pure Tryz.prog 117 [.agg (eRule r)] [.bool (formedR r)]:=by
 have hR:=right3_ok r
 have hW:=within_ok 3 1 9
 have hb:bw 3 1 9=true:=rfl
 have hke:r.kids.isEmpty=decide (r.kids.length=0):=by cases r.kids<;>simp
 rw[hb]at hW
 unfold formedR
 rw[ho,hb]
 have eo:eRule r=[di 3,di r.course,.str r.name,di r.n,di r.d,eRules r.kids]:=by rw[eRule,ho]
 rw[eo]at hR⊢
 refine pure_rule hT (T:=tab) (N:=55) (rs:=[.tmp 2]) Tryz.func117 rfl rfl rfl Kr rfl ?_
 (refine gW ?_;intros)
 refine hW.call ?_
 (refine gW ?_;intros)
 refine op_idx_glob rfl rfl (fun w=>rfl) kindC kind_cs rfl rfl Dc Dc ?_
 ((refine xW ?_ ?_)<;>intros)
 all_goals first
  | (refine hR.call ?_
     (refine gW ?_;intros)
     refine⟨congrArg D.bool ?_,Tt⟩
     simp only[namedR,countR,rightR,ho,hke,bw]
     simp
     first|omega|(simp_all;fail)|(simp_all;omega)|grind
     done)
  | (refine ⟨congrArg D.bool ?_,True.intro⟩
     simp only[namedR,countR,rightR,ho,hke,bw]
     simp
     first|omega|(simp_all;fail)|(simp_all;omega)|grind
     done)
theorem formed4_ok (r:Rule)(hI:In1 r)(ho:r.op=4):Pure Tryz.prog 117 [.agg (eRule r)] [.bool (formedR r)]:=by
 have hR:=right4_ok r
 have hW:=within_ok 4 1 9
 have hb:bw 4 1 9=true:=rfl
 have hke:r.kids.isEmpty=decide (r.kids.length=0):=by cases r.kids<;>simp
 rw[hb]at hW
 unfold formedR
 rw[ho,hb]
 have eo:eRule r=[di 4,di r.course,.str r.name,di r.n,di r.d,eRules r.kids]:=by rw[eRule,ho]
 rw[eo]at hR⊢
 refine pure_rule hT (T:=tab) (N:=55) (rs:=[.tmp 2]) Tryz.func117 rfl rfl rfl Kr rfl ?_
 (refine gW ?_;intros)
 refine hW.call ?_
 (refine gW ?_;intros)
 refine op_idx_glob rfl rfl (fun w=>rfl) kindC kind_cs rfl rfl Dc Dc ?_
 ((refine xW ?_ ?_)<;>intros)
 all_goals first
  | (refine hR.call ?_
     (refine gW ?_;intros)
     refine⟨congrArg D.bool ?_,Tt⟩
     simp only[namedR,countR,rightR,ho,hke,bw]
     simp
     first|omega|(simp_all;fail)|(simp_all;omega)|grind
     done)
  | (refine ⟨congrArg D.bool ?_,True.intro⟩
     simp only[namedR,countR,rightR,ho,hke,bw]
     simp
     first|omega|(simp_all;fail)|(simp_all;omega)|grind
     done)
theorem formed5_ok (r:Rule)(hI:In1 r)(ho:r.op=5):Pure Tryz.prog 117 [.agg (eRule r)] [.bool (formedR r)]:=by
 have hR:=right5_ok r
 have hW:=within_ok 5 1 9
 have hb:bw 5 1 9=true:=rfl
 have hke:r.kids.isEmpty=decide (r.kids.length=0):=by cases r.kids<;>simp
 rw[hb]at hW
 unfold formedR
 rw[ho,hb]
 have eo:eRule r=[di 5,di r.course,.str r.name,di r.n,di r.d,eRules r.kids]:=by rw[eRule,ho]
 rw[eo]at hR⊢
 refine pure_rule hT (T:=tab) (N:=55) (rs:=[.tmp 2]) Tryz.func117 rfl rfl rfl Kr rfl ?_
 (refine gW ?_;intros)
 refine hW.call ?_
 (refine gW ?_;intros)
 refine op_idx_glob rfl rfl (fun w=>rfl) kindC kind_cs rfl rfl Dc Dc ?_
 ((refine xW ?_ ?_)<;>intros)
 all_goals first
  | (refine hR.call ?_
     (refine gW ?_;intros)
     refine⟨congrArg D.bool ?_,Tt⟩
     simp only[namedR,countR,rightR,ho,hke,bw]
     simp
     first|omega|(simp_all;fail)|(simp_all;omega)|grind
     done)
  | (refine ⟨congrArg D.bool ?_,True.intro⟩
     simp only[namedR,countR,rightR,ho,hke,bw]
     simp
     first|omega|(simp_all;fail)|(simp_all;omega)|grind
     done)
theorem formed6_ok (r:Rule)(hI:In1 r)(ho:r.op=6):Pure Tryz.prog 117 [.agg (eRule r)] [.bool (formedR r)]:=by
 have hR:=right6_ok r
 have hW:=within_ok 6 1 9
 have hb:bw 6 1 9=true:=rfl
 have hke:r.kids.isEmpty=decide (r.kids.length=0):=by cases r.kids<;>simp
 rw[hb]at hW
 unfold formedR
 rw[ho,hb]
 have eo:eRule r=[di 6,di r.course,.str r.name,di r.n,di r.d,eRules r.kids]:=by rw[eRule,ho]
 rw[eo]at hR⊢
 refine pure_rule hT (T:=tab) (N:=55) (rs:=[.tmp 2]) Tryz.func117 rfl rfl rfl Kr rfl ?_
 (refine gW ?_;intros)
 refine hW.call ?_
 (refine gW ?_;intros)
 refine op_idx_glob rfl rfl (fun w=>rfl) kindC kind_cs rfl rfl Dc Dc ?_
 ((refine xW ?_ ?_)<;>intros)
 all_goals first
  | (refine hR.call ?_
     (refine gW ?_;intros)
     refine⟨congrArg D.bool ?_,Tt⟩
     simp only[namedR,countR,rightR,ho,hke,bw]
     simp
     first|omega|(simp_all;fail)|(simp_all;omega)|grind
     done)
  | (refine ⟨congrArg D.bool ?_,True.intro⟩
     simp only[namedR,countR,rightR,ho,hke,bw]
     simp
     first|omega|(simp_all;fail)|(simp_all;omega)|grind
     done)
theorem formed7_ok (r:Rule)(hI:In1 r)(ho:r.op=7):Pure Tryz.prog 117 [.agg (eRule r)] [.bool (formedR r)]:=by
 have hR:=right7_ok r
 have hW:=within_ok 7 1 9
 have hb:bw 7 1 9=true:=rfl
 have hke:r.kids.isEmpty=decide (r.kids.length=0):=by cases r.kids<;>simp
 rw[hb]at hW
 unfold formedR
 rw[ho,hb]
 have eo:eRule r=[di 7,di r.course,.str r.name,di r.n,di r.d,eRules r.kids]:=by rw[eRule,ho]
 rw[eo]at hR⊢
 refine pure_rule hT (T:=tab) (N:=55) (rs:=[.tmp 2]) Tryz.func117 rfl rfl rfl Kr rfl ?_
 (refine gW ?_;intros)
 refine hW.call ?_
 (refine gW ?_;intros)
 refine op_idx_glob rfl rfl (fun w=>rfl) kindC kind_cs rfl rfl Dc Dc ?_
 ((refine xW ?_ ?_)<;>intros)
 all_goals first
  | (refine hR.call ?_
     (refine gW ?_;intros)
     refine⟨congrArg D.bool ?_,Tt⟩
     simp only[namedR,countR,rightR,ho,hke,bw]
     simp
     first|omega|(simp_all;fail)|(simp_all;omega)|grind
     done)
  | (refine ⟨congrArg D.bool ?_,True.intro⟩
     simp only[namedR,countR,rightR,ho,hke,bw]
     simp
     first|omega|(simp_all;fail)|(simp_all;omega)|grind
     done)
theorem formed8_ok (r:Rule)(hI:In1 r)(ho:r.op=8):Pure Tryz.prog 117 [.agg (eRule r)] [.bool (formedR r)]:=by
 have hR:=right8_ok r hI.2.2.1 hI.2.2.2.1
 have hW:=within_ok 8 1 9
 have hb:bw 8 1 9=true:=rfl
 have hke:r.kids.isEmpty=decide (r.kids.length=0):=by cases r.kids<;>simp
 rw[hb]at hW
 unfold formedR
 rw[ho,hb]
 have eo:eRule r=[di 8,di r.course,.str r.name,di r.n,di r.d,eRules r.kids]:=by rw[eRule,ho]
 rw[eo]at hR⊢
 refine pure_rule hT (T:=tab) (N:=55) (rs:=[.tmp 2]) Tryz.func117 rfl rfl rfl Kr rfl ?_
 (refine gW ?_;intros)
 refine hW.call ?_
 (refine gW ?_;intros)
 refine op_idx_glob rfl rfl (fun w=>rfl) kindC kind_cs rfl rfl Dc Dc ?_
 ((refine xW ?_ ?_)<;>intros)
 all_goals first
  | (refine hR.call ?_
     (refine gW ?_;intros)
     refine⟨congrArg D.bool ?_,Tt⟩
     simp only[namedR,countR,rightR,ho,hke,bw]
     simp
     first|omega|(simp_all;fail)|(simp_all;omega)|grind
     done)
  | (refine ⟨congrArg D.bool ?_,True.intro⟩
     simp only[namedR,countR,rightR,ho,hke,bw]
     simp
     first|omega|(simp_all;fail)|(simp_all;omega)|grind
     done)
theorem formed9_ok (r:Rule)(hI:In1 r)(ho:r.op=9):Pure Tryz.prog 117 [.agg (eRule r)] [.bool (formedR r)]:=by
 have hR:=course_ok r
 have hW:=within_ok 9 1 9
 have hb:bw 9 1 9=true:=rfl
 have hke:r.kids.isEmpty=decide (r.kids.length=0):=by cases r.kids<;>simp
 rw[hb]at hW
 unfold formedR
 rw[ho,hb]
 have eo:eRule r=[di 9,di r.course,.str r.name,di r.n,di r.d,eRules r.kids]:=by rw[eRule,ho]
 rw[eo]at hR⊢
 refine pure_rule hT (T:=tab) (N:=55) (rs:=[.tmp 2]) Tryz.func117 rfl rfl rfl Kr rfl ?_
 (refine gW ?_;intros)
 refine hW.call ?_
 (refine gW ?_;intros)
 refine op_idx_glob rfl rfl (fun w=>rfl) kindC kind_cs rfl rfl Dc Dc ?_
 ((refine xW ?_ ?_)<;>intros)
 all_goals first
  | (refine hR.call ?_
     (refine gW ?_;intros)
     refine⟨congrArg D.bool ?_,Tt⟩
     simp only[namedR,countR,rightR,ho,hke,bw]
     simp
     first|omega|(simp_all;fail)|(simp_all;omega)|grind
     done)
  | (refine ⟨congrArg D.bool ?_,True.intro⟩
     simp only[namedR,countR,rightR,ho,hke,bw]
     simp
     first|omega|(simp_all;fail)|(simp_all;omega)|grind
     done)
theorem formed_ok (r:Rule)(hI:In1 r):Pure Tryz.prog 117 [.agg (eRule r)] [.bool (formedR r)]:=by
 by_cases ho:bw r.op 1 9=true
 .have h1:1<=r.op/\r.op<=9:=by simpa[bw] using ho
  have h2:r.op=1\/r.op=2\/r.op=3\/r.op=4\/r.op=5\/r.op=6\/r.op=7\/r.op=8\/r.op=9:=by omega
  rcases h2 with h|h|h|h|h|h|h|h|h
  .exact formed1_ok r hI h
  .exact formed2_ok r hI h
  .exact formed3_ok r hI h
  .exact formed4_ok r hI h
  .exact formed5_ok r hI h
  .exact formed6_ok r hI h
  .exact formed7_ok r hI h
  .exact formed8_ok r hI h
  .exact formed9_ok r hI h
 .have hb:bw r.op 1 9=false:=by simpa using ho
  have hW:=within_ok r.op 1 9
  rw[hb]at hW
  have hF:formedR r=false:=by simp[formedR,hb]
  rw[hF]
  refine pure_rule hT (T:=tab) (N:=55) (rs:=[.tmp 2]) Tryz.func117 rfl rfl rfl Kr rfl ?_
  (refine gW ?_;intros)
  refine hW.call ?_
  (refine gW ?_;intros)
  exact⟨rfl,Tt⟩
theorem after_none {r:Loop}(h1:r.state=.ready)(h2:r.pending=none):after r none=r:=by
 cases r
 simp only at h1 h2
 subst h1;subst h2
 rfl
theorem yieldMono {P:Program}{b:Nat}{args:List AV}{m:Mem}{K K':AV->Mem->Prop}(h:YieldVC P b args m K)(hk:∀A m',K A m'->K' A m'):YieldVC P b args m K' :=
 ⟨fun σ F w vals h1 h2=>by
  obtain⟨fn,t,a,c,hy,hr⟩:=h.run σ F w vals h1 h2
  exact⟨fn,t,a,c,hy,hr.mono fun _ _ ⟨v,A,m',σ',F',x,y,z⟩=>⟨v,A,m',σ',F',x,hk _ _ y,z⟩⟩⟩
def wfR (r:Rule):Prop:=∀p∈preR 1 r,In1 p.2
theorem preR_shift:∀(r:Rule) (d e:Nat),(preR d r).map Prod.snd=(preR e r).map Prod.snd:=by
 refine rule_ind fun r ih d e=>?_
 have key:∀ks:List Rule,(∀k∈ks,∀d e,(preR d k).map Prod.snd=(preR e k).map Prod.snd)->∀d e,(preL d ks).map Prod.snd=(preL e ks).map Prod.snd:=by
  intro ks
  induction ks with
  |nil=>intro _ d e;rw[preL_nil,preL_nil]
  | cons k ks ihk =>
    intro h d e
    rw[preL_cons,preL_cons,List.map_append,List.map_append,h k (by simp) d e,ihk (fun x hx=>h x (by simp[hx])) d e]
 rw[preR_eq,preR_eq,List.map_cons,List.map_cons,key r.kids ih (d+1) (e+1)]
theorem preL_mem {d:Nat}{p:Nat × Rule}:∀{ks:List Rule},p∈preL d ks↔∃k∈ks,p∈preR d k
 |[]=>by rw[preL_nil];simp
 |k::ks=>by rw[preL_cons,List.mem_append,preL_mem (ks:=ks)];simp
theorem wfR_any {r:Rule}(h:wfR r)(d:Nat):∀p∈preR d r,In1 p.2:=by
 intro p hp
 have h1:p.2∈(preR d r).map Prod.snd:=List.mem_map_of_mem hp
 rw[preR_shift r d 1]at h1
 obtain⟨p',h2,h3⟩:=List.mem_map.1 h1
 rw[<-h3]
 exact h p' h2
theorem wfR_kids {r:Rule}(h:wfR r):In1 r/\∀k∈r.kids,wfR k:=by
 refine⟨h (1,r) (by rw[preR_eq];simp),fun k hk p hp=>?_⟩
 have h1:p.2∈(preR 2 k).map Prod.snd:=by rw[preR_shift k 2 1];exact List.mem_map_of_mem hp
 obtain⟨p',h2,h3⟩:=List.mem_map.1 h1
 rw[<-h3]
 refine h p' ?_
 rw[preR_eq]
 exact List.mem_cons_of_mem _ (preL_mem.2 ⟨k,hk,h2⟩)
def visP (cont:List (Nat × Rule)->Bool):List (Nat × Rule)->List (Nat × Rule)->List (Nat × Rule)
 |[],q=>q
 |x::r,q=>if cont (q++[x])=true then visP cont r (q++[x]) else q++[x]
theorem visP_app (cont:List (Nat × Rule)->Bool):∀(a b q:List (Nat × Rule)),cont q=true->visP cont (a++b) q=if cont (visP cont a q)=true then visP cont b (visP cont a q) else visP cont a q
 |[],b,q,h=>by rw[List.nil_append,visP,if_pos h]
 | x :: a,b,q,h=>by
   rw[List.cons_append,visP,visP]
   by_cases h1:cont (q++[x])=true
   .rw[if_pos h1,if_pos h1,visP_app cont a b _ h1]
   .rw[if_neg h1,if_neg h1,if_neg h1]
def okP (q:List (Nat × Rule)):Bool:=decide (q.length<=200)&&q.all fun p=>decide (p.1<=16)&&formedR p.2
theorem parts_ok (r:Rule):CallVC Tryz.prog 116 [.d (.agg (eRule r))] ⟨[],[]⟩
 (Ret (fun _:Unit=>([.fn (.func 171) [] [lp 1,lp 0]],⟨[bX 52 (up (eRule r)),bX 254 [.fn (.func 170) [] [lp 1]]],[]⟩)) fun _=>True):=by
 refine call_rule hT (T:=tab) (N:=6) (rs:=[.tmp 2]) _ _ Tryz.func116 rfl rfl rfl Kr rfl ?_
 (refine gW ?_;intros)
 exact⟨(),Tt,by repeat' (first|exact Tt|exact rfl|exact Nat.le_refl _|refine And.intro ?_ ?_),rfl⟩
theorem walkC_ok (rec:Loop)(r0:Rule)(y:Nat)(cont:List (Nat × Rule)->Bool):∀(r:Rule) (d:Nat) (q:List (Nat × Rule)),wfR r->d<=1000000->cont q=true->(∀q x,x∈preR d r->cont (q++[x])=true->x.1<=999999) ->
 (∀ q:List (Nat × Rule),cont q=true→∀ x∈preR d r,YieldVC Tryz.prog y [.d (.int .i64 x.1),.d (.agg (eRule x.2))] ⟨[],[some (.box 254 [.fn (.func 170) [] [.ptr (.arg 0) 0 0 0]]),some (.box 52 (up (eRule r0))),some (.box 38 [.d (.int .i64 (bif okP q then 0 else 120))]),some (.box 3 [.d (.int .i64 q.length)]),some (.loop y (bif okP q then rec else after rec (some .ret)) [(2,.ptr (.arg 2) 0 0 0),(3,.ptr (.arg 3) 0 0 0)])]⟩
  (Ret (fun q:List (Nat × Rule)=>([.d (.bool (cont q))],⟨[],[bX 254 [.fn (.func 170) [] [ap 0]],bX 52 (up (eRule r0)),bX 38 [dV (bif okP q then 0 else 120)],bX 3 [dV q.length],some (.loop y (bif okP q then rec else after rec (some .ret)) [(2,ap 2),(3,ap 3)])]⟩)) fun q'=>q'=q++[x])) ->
 CallVC Tryz.prog 170 [.d (.agg (eRule r)),dV d,.fn (.yield y) [] [],ap 0] ((fun q:List (Nat × Rule)=>⟨[],[bX 254 [.fn (.func 170) [] [ap 0]],bX 52 (up (eRule r0)),bX 38 [dV (bif okP q then 0 else 120)],bX 3 [dV q.length],some (.loop y (bif okP q then rec else after rec (some .ret)) [(2,ap 2),(3,ap 3)])]⟩) q)
  (Ret (fun q:List (Nat × Rule)=>([.d (.bool (cont q))],⟨[],[bX 254 [.fn (.func 170) [] [ap 0]],bX 52 (up (eRule r0)),bX 38 [dV (bif okP q then 0 else 120)],bX 3 [dV q.length],some (.loop y (bif okP q then rec else after rec (some .ret)) [(2,ap 2),(3,ap 3)])]⟩)) fun q'=>q'=visP cont (preR d r) q):=by
 refine rule_ind fun r ih d q hw hd hgo hb hy=>?_
 obtain⟨hw1,hw2⟩:=wfR_kids hw
 refine call_rule hT (T:=tab) (N:=30) (rs:=[.tmp 7]) _ _ Tryz.func170 rfl rfl rfl Kr rfl ?_
 rw[preR_eq,visP]
 (refine gW ?_;intros)
 refine(hy q hgo (d,r) (by rw[preR_eq];simp)).at [.arg 0,.arg 1,.arg 2,.arg 3,.arg 4] rfl ⟨rfl,rfl,rfl,rfl,rfl,Tt⟩ (fun s' hs'=>⟨rfl,?_⟩)
 subst hs'
 cases hc1:cont (q++[(d,r)])
 .rw[if_neg (by simp)]
  (refine gW ?_;intros)
  refine⟨_,rfl,?_,rfl⟩
  dsimp only
  rw[hc1]
  exact lq
 .rw [if_pos rfl]
  have hd2:=hb q (d,r) (by rw[preR_eq];simp) hc1
  dsimp only at hd2
  have hv:visP cont (preL (d+1) r.kids) (q++[(d,r)])=visP cont (preL (d+1) (r.kids.drop 0)) (q++[(d,r)]):=rfl
  (refine gW ?_;intros)
  refine loop_rule hT (S:=Nat × List (Nat × Rule)) (fun z=>([(1,dV d),(2,.fn (.yield y) [] []),(3,ap 0),(16,.d (eRules r.kids)),(17,dV r.kids.length),(18,dV z.1)],(fun q:List (Nat × Rule)=>⟨[],[bX 254 [.fn (.func 170) [] [ap 0]],bX 52 (up (eRule r0)),bX 38 [dV (bif okP q then 0 else 120)],bX 3 [dV q.length],some (.loop y (bif okP q then rec else after rec (some .ret)) [(2,ap 2),(3,ap 3)])]⟩) z.2))
   (fun z=>z.1<=r.kids.length/\cont z.2=true/\visP cont (preL (d+1) r.kids) (q++[(d,r)])=visP cont (preL (d+1) (r.kids.drop z.1)) z.2) (fun z=>r.kids.length-z.1) (0,q++[(d,r)]) ?_ ?_ ?_
  .exact lq
  .exact⟨Nat.zero_le _,hc1,hv⟩
  .rintro⟨k,q1⟩ ⟨hk,hcq,hc⟩
   dsimp only at hk hcq hc⊢
   have hlk:=hw1.2.2.2.2
   by_cases hk2:k<r.kids.length
   .have hne:r.kids≠[]:=fun e=>by rw[e]at hk2;exact absurd hk2 (Nat.not_lt_zero _)
    have hmem:r.kids.getD k default∈r.kids:=getD_mem hk2
    have hsub:∀x∈preR (d+1) (r.kids.getD k default),x∈preR d r:=fun x hx=>by
     rw[preR_eq]
     exact List.mem_cons_of_mem _ (preL_mem.2 ⟨_,hmem,hx⟩)
    have hI:=ih _ hmem (d+1) q1 (hw2 _ hmem) Om hcq (fun q x hx=>hb q x (hsub x hx)) (fun q hq x hx=>hy q hq x (hsub x hx))
    rw[drop_at hk2,preL_cons,visP_app _ _ _ _ hcq]at hc
    rw[eRules_ne hne]
    (refine gW ?_;intros)
    refine⟨⟨_,[],[ap 0],.inl rfl,hI.at [.arg 0,.arg 1,.arg 2,.arg 3,.arg 4] rfl ⟨rfl,rfl,rfl,rfl,rfl,Tt⟩ (fun s' hs'=>⟨rfl,?_⟩)⟩⟩
    subst hs'
    cases hc2:cont (visP cont (preR (d+1) (r.kids.getD k default)) q1)
    .rw[if_neg (by rw[hc2];simp)]at hc
     (refine gW ?_;intros)
     refine⟨_,hc.symm,?_,rfl⟩
     dsimp only
     rw[hc2]
     exact lq
    .rw[if_pos hc2]at hc
     (refine gW ?_;intros)
     refine stp ((k+1,visP cont (preR (d+1) (r.kids.getD k default)) q1)) ?_ ⟨by show k+1<=r.kids.length;omega,hc2,hc⟩
     exact lq
   .rw[drop_end Om,preL_nil,visP]at hc
    (refine gW ?_;intros)
    refine⟨_,hc.symm,?_,rfl⟩
    dsimp only
    rw[hcq]
    exact lq
theorem partsC_ok (rec:Loop)(y:Nat)(cont:List (Nat × Rule)->Bool)(r0:Rule)(hw:wfR r0)(hgo:cont []=true)(hb:∀q x,x∈preR 1 r0->cont (q++[x])=true->x.1<=999999)
 (hy:∀ q:List (Nat × Rule),cont q=true→∀ x∈preR 1 r0,YieldVC Tryz.prog y [.d (.int .i64 x.1),.d (.agg (eRule x.2))] ⟨[],[some (.box 254 [.fn (.func 170) [] [.ptr (.arg 0) 0 0 0]]),some (.box 52 (up (eRule r0))),some (.box 38 [.d (.int .i64 (bif okP q then 0 else 120))]),some (.box 3 [.d (.int .i64 q.length)]),some (.loop y (bif okP q then rec else after rec (some .ret)) [(2,.ptr (.arg 2) 0 0 0),(3,.ptr (.arg 3) 0 0 0)])]⟩
  (Ret (fun q:List (Nat × Rule)=>([.d (.bool (cont q))],⟨[],[bX 254 [.fn (.func 170) [] [ap 0]],bX 52 (up (eRule r0)),bX 38 [dV (bif okP q then 0 else 120)],bX 3 [dV q.length],some (.loop y (bif okP q then rec else after rec (some .ret)) [(2,ap 2),(3,ap 3)])]⟩)) fun q'=>q'=q++[x])) :
 CallVC Tryz.prog 171 [.fn (.yield y) [] [],ap 0,ap 1] ((fun q:List (Nat × Rule)=>⟨[],[bX 254 [.fn (.func 170) [] [ap 0]],bX 52 (up (eRule r0)),bX 38 [dV (bif okP q then 0 else 120)],bX 3 [dV q.length],some (.loop y (bif okP q then rec else after rec (some .ret)) [(2,ap 2),(3,ap 3)])]⟩) [])
  (Ret (fun q:List (Nat × Rule)=>([],⟨[],[bX 254 [.fn (.func 170) [] [ap 0]],bX 52 (up (eRule r0)),bX 38 [dV (bif okP q then 0 else 120)],bX 3 [dV q.length],some (.loop y (bif okP q then rec else after rec (some .ret)) [(2,ap 2),(3,ap 3)])]⟩)) fun q'=>q'=visP cont (preR 1 r0) []):=by
 refine call_rule hT (T:=tab) (N:=8) (rs:=[]) _ _ Tryz.func171 rfl rfl rfl Kr rfl ?_
 have hW:=walkC_ok rec r0 y cont r0 1 [] hw Dc hgo hb hy
 (refine gW ?_;intros)
 refine⟨⟨_,[],[ap 0],.inl rfl,hW.at [.arg 0,.arg 1,.arg 2,.arg 3,.arg 4] rfl ⟨rfl,rfl,rfl,rfl,rfl,Tt⟩ (fun s' hs'=>⟨rfl,?_⟩)⟩⟩
 subst hs'
 (refine gW ?_;intros)
 refine⟨_,rfl,?_,rfl⟩
 dsimp only
 exact lq
theorem okP_snoc (q:List (Nat × Rule))(x:Nat × Rule)(h:okP q=true):okP (q++[x])=(decide (q.length+1<=200)&&(decide (x.1<=16)&&formedR x.2)):=by
 unfold okP at h⊢
 rw[Bool.and_eq_true]at h
 rw[List.all_append,h.2,Bool.true_and,List.length_append]
 simp
theorem okP_pre (a b:List (Nat × Rule))(h:okP (a++b)=true):okP a=true:=by
 unfold okP at h⊢
 rw[Bool.and_eq_true,List.all_append,Bool.and_eq_true,List.length_append]at h
 rw[Bool.and_eq_true]
 refine⟨?_,h.2.1⟩
 have:=of_decide_eq_true h.1
 exact decide_eq_true Om
theorem visP_mono (cont:List (Nat × Rule)->Bool)(hc:∀a b,cont (a++b)=true->cont a=true):∀(l q:List (Nat × Rule)),cont (visP cont l q)=cont (q++l)
 |[],q=>by rw[visP,List.append_nil]
 | x :: r,q=>by
   rw[visP]
   have e:q++x::r=(q++[x])++r:=by simp
   by_cases h:cont (q++[x])=true
   .rw[if_pos h,visP_mono cont hc r,e]
   .rw[if_neg h,e]
    cases h2:cont (q++[x]++r)
    .simpa using h
    .exact absurd (hc _ _ h2) h
theorem okP_chk (r:Rule):(bif okP (preR 1 r) then(0:Int) else 120)=chkR r:=by
 unfold chkR okP
 obtain⟨h1,p,h2,h3⟩:=preR_dep r 1
 rw[preR_len]
 by_cases a:cntR r<=200
 .by_cases b:depR r<=16
  .have e:((preR 1 r).all fun p=>decide (p.1<=16)&&formedR p.2)=allF r:=by
    unfold allF
    refine Bool.eq_iff_iff.2 ?_
    rw[List.all_eq_true,List.all_eq_true]
    refine⟨fun h x hx=>?_,fun h x hx=>?_⟩
    .have:=h x hx
     simp at this
     exact this.2
    .have h5:=h1 x hx
     have h6:=h x hx
     simp[h6]
     omega
   rw[e]
   cases allF r<;>simp[a,b]
  .have e:((preR 1 r).all fun p=>decide (p.1<=16)&&formedR p.2)=false:=by
    rw[List.all_eq_false]
    refine⟨p,h2,?_⟩
    simp
    omega
   rw[e]
   simp[b]
 .simp[a]
theorem check_ok (r:Rule)(hw:wfR r):Pure Tryz.prog 63 [.agg (eRule r)] [di (chkR r)]:=by
 rw[<-okP_chk]
 refine pure_rule hT (T:=tab) (N:=23) (rs:=[.cell 2 38]) Tryz.func63 rfl rfl rfl Kr rfl ?_
 (refine gW ?_;intros)
 refine(parts_ok r).at [] rfl Tt (fun _ _=>⟨rfl,?_⟩)
 (refine gW ?_;intros)
 refine Awp.range (caps:=[lp 4,lp 3]) [(2,lp 1),(3,lp 2)] (.inl rfl) (nl:=5) (na:=0) ⟨⟨rfl,rfl⟩,⟨rfl,rfl⟩,Tt⟩ ?_
 intro y rec h1 h2 h3 h4 h5 h6
 refine(partsC_ok rec y okP r hw rfl (fun q x _ h=>?_) ?_).at [.loc 4,.loc 3,.loc 1,.loc 2,.loc 5] rfl ⟨rfl,rfl,rfl,rfl,rfl,Tt⟩ (fun s hs=>⟨rfl,?_⟩)
 .have:=okP_pre
  unfold okP at h
  simp at h
  omega
 .intro q hcq x hx
  have hI:=wfR_any hw 1 x hx
  have hql:q.length<=200:=by
   unfold okP at hcq
   rw[Bool.and_eq_true]at hcq
   exact of_decide_eq_true hcq.1
  have hF:=formed_ok x.2 hI
  rw[hcq]
  refine yieldMono (yield_rule (N:=23) (ps:=[8,9]) (args:=[dV x.1,.d (.agg (eRule x.2))])
   (bs:=[bX 254 [.fn (.func 170) [] [ap 0]],bX 52 (up (eRule r)),bX 38 [dV 0],bX 3 [dV q.length]]) (env0:=[(2,ap 2),(3,ap 3)])
   (fun b:Bool=>[bX 254 [.fn (.func 170) [] [ap 0]],bX 52 (up (eRule r)),bX 38 [dV (bif b then 0 else 120)],bX 3 [dV ((q.length:Int)+1)]]) (fun b:Bool=>bif b then none else some .ret) (fun b=>b=okP (q++[x])) h1 h3 h4 h5 h6 rfl (by simp) ?_ rfl rfl ?_) ?_
  .exact lq
  .rw [okP_snoc q x hcq]
   refine Awp.of_vc hT ?_
   (refine gW ?_;intros)
   refine Awp.of_vc hT ?_
   by_cases e1:q.length+1<=200
   .by_cases e2:x.1<=16
    .cases e3:formedR x.2
     .rw[e3]at hF
      (refine gW ?_;intros)
      refine hF.call ?_
      (refine gW ?_;intros)
      exact⟨false,by simp,rfl,rfl,by repeat' (first|exact Tt|exact rfl|exact Nat.le_refl _|refine And.intro ?_ ?_)⟩
     .rw[e3]at hF
      (refine gW ?_;intros)
      refine hF.call ?_
      (refine gW ?_;intros)
      exact⟨true,by simp[e1,e2],rfl,rfl,by repeat' (first|exact Tt|exact rfl|exact Nat.le_refl _|refine And.intro ?_ ?_)⟩
    ·(refine gW ?_;intros)
     exact⟨false,by simp[e2],rfl,rfl,by repeat' (first|exact Tt|exact rfl|exact Nat.le_refl _|refine And.intro ?_ ?_)⟩
   ·(refine gW ?_;intros)
    exact⟨false,by simp;omega,rfl,rfl,by repeat' (first|exact Tt|exact rfl|exact Nat.le_refl _|refine And.intro ?_ ?_)⟩
  .rintro A m' ⟨b,hJ,rfl,rfl⟩
   refine⟨q++[x],rfl,?_,?_⟩
   .dsimp only
    rw[<-hJ]
    cases b<;>rfl
   .dsimp only
    rw[<-hJ,show(((q++[x]).length:Nat):Int)=(q.length:Int)+1 by rw[len_snoc];rfl]
    cases b
    .rfl
    .show(⟨[],[some _,some _,some _,some _,some (.loop y (after rec none) _)]⟩:Mem)=_
     rw[after_none h1 h2]
     rfl
 .have hv:okP s=okP (preR 1 r):=by rw[hs,visP_mono okP okP_pre];rfl
  dsimp only
  rw[hv]
  cases okP (preR 1 r)
  ·(refine gW ?_;intros)
   refine⟨some .ret,rfl,?_⟩
   refine Awp.of_vc hT ?_
   (refine gW ?_;intros)
   exact⟨rfl,Tt⟩
  ·(refine gW ?_;intros)
   refine⟨none,by rw[after_none h1 h2];rfl,?_⟩
   show Sq _ _
   (refine gW ?_;intros)
   exact⟨rfl,Tt⟩
end Go.Proofs.YtkjmomadndmeaaaGreatDoor
