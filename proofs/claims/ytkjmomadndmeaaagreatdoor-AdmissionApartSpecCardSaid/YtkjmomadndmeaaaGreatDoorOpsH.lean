import Derived.Test.YtkjmomadndmeaaaGreatDoorRecS
import Derived.Test.YtkjmomadndmeaaaGreatDoorBookF
import Derived.Test.YtkjmomadndmeaaaGreatDoorEngAS
import Derived.Lib.AppendZerosOnto
import Derived.Lib.Overlaps
import Derived.Laws.CopyRow
import Derived.Test.YtkjmomadndmeaaaGreatDoorBas
namespace Go.Proofs.YtkjmomadndmeaaaGreatDoor
set_option linter.unusedSimpArgs false
set_option linter.unusedVariables false
open Go Go.Ab
set_option maxRecDepth 100000
set_option maxHeartbeats 0
theorem within15_ok (n lo hi:Int):Pure Tryz.prog 152 [di n,di lo,di hi] [.bool (bw n lo hi)]:=by
 refine pure_rule hT (T:=tab) (N:=15) (rs:=[.tmp 6]) Tryz.func152 rfl rfl rfl Kr rfl ?_
 by_cases h1:lo<=n<;>by_cases h2:n<=hi<;>((refine gW ?_;intros))<;>(refine⟨congrArg D.bool ?_,Tt⟩)<;>simp[bw,h1,h2]
theorem fits15_ok (a:Att)(h:fitA a):Pure Tryz.prog 166 [.agg (eAtt a)] [.bool true]:=by
 obtain⟨h1,h2,h3,h4,h5⟩:=h
 have w1:=within15_ok a.course 0 4095
 have w2:=within15_ok a.term 0 1023
 have w3:=within15_ok a.grade 0 12
 have w4:=within15_ok a.campus 0 6
 have w5:=within15_ok a.credits 0 60
 rw[show bw a.course 0 4095=true by simp[bw,h1]]at w1
 rw[show bw a.term 0 1023=true by simp[bw,h2]]at w2
 rw[show bw a.grade 0 12=true by simp[bw,h3]]at w3
 rw[show bw a.campus 0 6=true by simp[bw,h4]]at w4
 rw[show bw a.credits 0 60=true by simp[bw,h5]]at w5
 refine pure_rule hT (T:=tab) (N:=26) (rs:=[.tmp 2]) Tryz.func166 rfl rfl rfl Kr rfl ?_
 (refine gW ?_;intros)
 refine w1.call ?_
 (refine gW ?_;intros)
 refine w2.call ?_
 (refine gW ?_;intros)
 refine w3.call ?_
 (refine gW ?_;intros)
 refine w4.call ?_
 (refine gW ?_;intros)
 refine w5.call ?_
 (refine gW ?_;intros)
 exact⟨rfl,Tt⟩
theorem misfit_ok (a:Att)(h:fitA a):Pure Tryz.prog 165 [.agg (eAtt a)] [.bool false]:=by
 have hF:=fits15_ok a h
 refine pure_rule hT (T:=tab) (N:=6) (rs:=[.tmp 2]) Tryz.func165 rfl rfl rfl Kr rfl ?_
 (refine gW ?_;intros)
 refine hF.call ?_
 (refine gW ?_;intros)
 exact⟨rfl,Tt⟩
theorem idxAtt_ok (xs:List Att)(hx:xs.length<=9223372036854775807)(f:FuncId)(p:Att->Bool)(hp:∀s,s∈xs->Pure Tryz.prog f [.agg (eAtt s)] [.bool (p s)]) :
 Pure Tryz.prog 208 [eAtts xs,.fn (.func f) [] []] [di (ix p xs 0)]:=by
 refine pure_rule hT (T:=tab) (N:=19) (rs:=[.tmp 4]) Tryz.func208 rfl rfl rfl Kr rfl ?_
 (refine gW ?_;intros)
 refine loop_rule hT (S:=Nat) (fun k=>([(0,.d (eAtts xs)),(1,.d (.fn (.func f) [] [])),(7,dV xs.length),(8,dV k)],⟨[],[]⟩)) (fun k=>k<=xs.length/\ix p xs 0=ix p (xs.drop k) k) (fun k=>xs.length-k) 0 ?_ ?_ ?_
 .exact lq
 .exact⟨Nat.zero_le _,rfl⟩
 .rintro k ⟨hk,hc⟩
  ((refine xW ?_ ?_)<;>intros)
  .refine(hp (xs.getD k default) (getD_mem Om)).call ?_
   ((refine xW ?_ ?_)<;>(intros;try rename_i h))
   .refine⟨congrArg (D.int .i64) ?_,Tt⟩
    rw[hc,drop_at Om,ix,if_pos h]
   .refine⟨k+1,⟨by show k+1<=xs.length;omega,?_⟩,by show xs.length-(k+1)<xs.length-k;omega,?_⟩
    .rw[hc,drop_at Om,ix,if_neg (by rw[h];exact Bool.false_ne_true)]
     rfl
    .exact lq
  .refine⟨congrArg (D.int .i64) ?_,Tt⟩
   have:k=xs.length:=by omega
   rw[hc]
   simp[this,ix]
theorem anyAtt_ok (xs:List Att)(hx:xs.length<=9223372036854775807)(f:FuncId)(p:Att->Bool)(hp:∀s,s∈xs->Pure Tryz.prog f [.agg (eAtt s)] [.bool (p s)]) :
 Pure Tryz.prog 164 [eAtts xs,.fn (.func f) [] []] [.bool (xs.any p)]:=by
 refine pure_rule hT (T:=tab) (N:=9) (rs:=[.tmp 4]) Tryz.func164 rfl rfl rfl Kr rfl ?_
 (refine gW ?_;intros)
 refine(idxAtt_ok xs hx f  p hp).call ?_
 (refine gW ?_;intros)
 refine⟨congrArg D.bool ?_,Tt⟩
 rw[<-ix_ge p xs 0 Om]
theorem check15_ok (l:List Att)(hl:l.length<=9223372036854775807)(hf:∀a∈l,fitA a):Pure Tryz.prog 112 [eAtts l] [di 0]:=by
 have hA:=anyAtt_ok l hl 165 (fun _=>false) (fun s hs=>misfit_ok s (hf s hs))
 have e:(l.any fun _=>false)=false:=by simp
 rw[e]at hA
 refine pure_rule hT (T:=tab) (N:=5) (rs:=[.tmp 2]) Tryz.func112 rfl rfl rfl Kr rfl ?_
 (refine gW ?_;intros)
 refine hA.call ?_
 (refine gW ?_;intros)
 exact⟨rfl,Tt⟩
theorem repl0_ok (a b:Att):Pure Tryz.prog 200 [.agg (eAtt a),.agg (eAtt b)] [.bool (repl 0 a b)]:=by
 have e:repl 0 a b=(decide (b.grade<a.grade)||(decide (a.grade=b.grade)&&decide (a.term<b.term))):=rfl
 rw[e]
 refine pure_rule hT (T:=tab) (N:=24) (rs:=[.tmp 4]) Tryz.func200 rfl rfl rfl Kr rfl ?_
 by_cases h1:b.grade<a.grade<;>by_cases h2:a.grade=b.grade<;>by_cases h3:a.term<b.term<;>((refine gW ?_;intros))<;>(refine⟨congrArg D.bool ?_,Tt⟩)<;>simp[h1,h2,h3]<;>omega
theorem repl1_ok (a b:Att):Pure Tryz.prog 201 [.agg (eAtt a),.agg (eAtt b)] [.bool (repl 1 a b)]:=by
 have e:repl 1 a b=decide (b.term<=a.term):=rfl
 rw[e]
 refine pure_rule hT (T:=tab) (N:=10) (rs:=[.tmp 4]) Tryz.func201 rfl rfl rfl Kr rfl ?_
 (refine gW ?_;intros)
 exact⟨rfl,Tt⟩
def kindsA:List D:=[.bool true,.fn (.func 200) [] [],.bool true,.fn (.func 201) [] [],.bool false,.nilf]
theorem kindsA_ok:Pure Tryz.prog 151 [] [.agg kindsA]:=by
 refine pure_rule hT (T:=tab) (N:=5) (rs:=[.cell 0 233]) Tryz.func151 rfl rfl rfl Kr rfl ?_
 (refine gW ?_;intros)
 exact⟨.inl rfl,Tt⟩
end Go.Proofs.YtkjmomadndmeaaaGreatDoor
namespace Go.Ab
set_option linter.unusedSimpArgs false
set_option linter.unusedVariables false
section
variable {P:Program}{T:Tab}{N:Nat}{w:World}{F:Nat->Prop}{σ:Pls}{m:Mem}{env:Env}{K:AV->Mem->Prop}{o:Oper}
end
section
variable {P:Program}{T:Tab}{N:Nat}{w:World}{F:Nat->Prop}{σ:Pls}{m:Mem}{env:Env}{K:AV->Mem->Prop}{o:Oper}
end
section
variable {P:Program}{T:Tab}{N:Nat}{w:World}{F:Nat->Prop}{σ:Pls}{m:Mem}{env:Env}{K:AV->Mem->Prop}{o:Oper}
end
section
variable {P:Program}{T:Tab}{m:Mem}{env:Env}{K:AV->Mem->Prop}{o:Oper}
end
end Go.Ab
