import Derived.Test.YtkjmomadndmeaaaGreatDoorBookI
import Derived.Test.YtkjmomadndmeaaaGreatDoorOpsH
import Derived.Laws.MakeOwn
import Derived.Test.YtkjmomadndmeaaaGreatDoorRecC
import Derived.Test.YtkjmomadndmeaaaGreatDoorEngAS
import Derived.Test.YtkjmomadndmeaaaGreatDoorBookP
namespace Go.Proofs.YtkjmomadndmeaaaGreatDoor
set_option linter.unusedSimpArgs false
set_option linter.unusedVariables false
open Go Go.Ab
set_option maxRecDepth 100000
set_option maxHeartbeats 0
noncomputable instance:DecidableEq Rule:=fun _ _=>Classical.propDecidable _
noncomputable instance:DecidableEq Crs:=fun _ _=>Classical.propDecidable _
noncomputable instance:DecidableEq Req:=fun _ _=>Classical.propDecidable _
noncomputable instance:DecidableEq Prg:=fun _ _=>Classical.propDecidable _
noncomputable instance:DecidableEq Cls:=fun _ _=>Classical.propDecidable _
noncomputable instance:DecidableEq Fee:=fun _ _=>Classical.propDecidable _
noncomputable instance:DecidableEq Cla:=fun _ _=>Classical.propDecidable _
noncomputable instance:DecidableEq Sys:=fun _ _=>Classical.propDecidable _
noncomputable instance:DecidableEq Pai:=fun _ _=>Classical.propDecidable _
theorem sameReds_ok (xs ys:List Red)(hx:xs.length<=9223372036854775807)(hy:ys.length<=9223372036854775807):Pure Tryz.prog 31 [eReds xs,eReds ys] [.bool (decide (xs=ys))]:=by
 refine pure_rule hT (T:=tab) (N:=26) (rs:=[.tmp 4]) Tryz.func31 rfl rfl rfl Kr rfl ?_
 ((refine xW ?_ ?_)<;>(intros;try rename_i h))
 .refine⟨congrArg D.bool ?_,Tt⟩
  rw[decide_eq_false]
  intro e
  rw[e]at h
  omega
 .refine loop_rule hT (S:=Nat) (fun k=>([(0,.d (eReds xs)),(1,.d (eReds ys)),(4,.d (.bool false)),(5,dV k)],⟨[],[]⟩)) (fun k=>k<=xs.length/\(xs=ys↔xs.drop k=ys.drop k)) (fun k=>xs.length-k) 0 ?_ ?_ ?_
  .exact lq
  .exact⟨Nat.zero_le _,Iff.rfl⟩
  .rintro k ⟨hk,ht⟩
   repeat' (first|with_reducible refine Sq.go ?_|((with_reducible refine Ev.mk ?_);conv=>whnf)|with_reducible refine Dr.mk ⟨Kr,Kr⟩ ?_|with_reducible refine obG ?_|with_reducible refine Ob.mk ?_ ?_|(with_reducible first|refine brT fun h=>?_|refine brF fun h=>?_|refine Br.mk (fun h=>?_) fun h=>?_)<;>(try simp only[bsl,beq_iff_eq,bne_iff_ne,bs2]at h)<;>(try contradiction)<;>try (exfalso;omega))
   .refine⟨congrArg D.bool ?_,Tt⟩
    rw[decide_eq_false]
    rw[ht,drop_at (xs:=xs) (k:=k) Om,drop_at (xs:=ys) (k:=k) Om]
    intro e
    injection e with e1 e2
    rw[e1]at h
    simp at h
   .refine⟨k+1,⟨by show k+1<=xs.length;omega,?_⟩,by show xs.length-(k+1)<xs.length-k;omega,?_⟩
    .have e:xs.getD k default=ys.getD k default:=by
      revert h
      generalize xs.getD k default=a
      generalize ys.getD k default=b
      intro h
      cases a;cases b;simp_all
     rw[ht,drop_at (xs:=xs) (k:=k) Om,drop_at (xs:=ys) (k:=k) Om,e]
     simp
    .exact lq
   .refine⟨congrArg D.bool ?_,Tt⟩
    rw[decide_eq_true]
    rw[ht]
    rw[List.drop_eq_nil_of_le Om,List.drop_eq_nil_of_le Om]
def wfReq (q:Req):Prop:=fitL q.names/\fitL q.fr
end Go.Proofs.YtkjmomadndmeaaaGreatDoor
namespace Go.Ab
set_option linter.unusedSimpArgs false
set_option linter.unusedVariables false
section
variable {P:Program}{T:Tab}{N:Nat}{w:World}{F:Nat->Prop}{σ:Pls}{m:Mem}{env:Env}{K:AV->Mem->Prop}{o:Oper}
theorem op_make (hT:TabOk P T){t:TypeId}{x y:Operand}(hop:o.op=.makeSlice t x y){e:TypeId}{sz:Nat}(he:elemOf T t=some (e,sz)){te:TI}(hte:T.at e=some te)(hb0:0<te.bytes)
 {n:Nat} {kx ky:IntKind} (hx:ev env x=.d (.int kx n)) (hy:ev env y=.d (.int ky n)) (hcap:n*te.bytes<=140737488355328)
 (hK:K (.osl m.new 0 0 n) (m.add (.vec e sz 0 n fun _=>up te.zero))):OpVC P o env m K :=
 ⟨fun c h=>(by rw [hop] at h;cases h),fun a w F σ hev hm=>by
  obtain⟨hu,hrs,te',hte',htsz⟩:=elemOf_ok hT he
  have hszp:=sz_pos hT he
  obtain⟨inf,z,hinf,his,hib,hz,hzs,hzsz⟩:=tiIs_info (hT _ _ hte)
  have hsize:inf.size=sz:=by
   obtain⟨i',z',hi',his',_⟩:=tiIs_info hte'
   rw[hinf]at hi'
   injection hi' with hi'
   subst hi'
   rw[his',htsz]
  have hvx:=ev_ok hev x
  rw[hx]at hvx
  have hvx:=hvx.int
  have hvy:=ev_ok hev y
  rw[hy]at hvy
  have hvy:=hvy.int
  have hbig:n<=140737488355328:=Nat.le_trans (Nat.le_mul_of_pos_right _ hb0) hcap
  have hzl:z.cells.size=sz:=by rw[hzsz,<-his,hsize]
  have hbb:(inf.bytes:Int)*(n:Int)<=281474976710656:=by
   have h:((inf.bytes*n:Nat):Int)<=281474976710656:=by
    rw[hib,Nat.mul_comm]
    omega
   rwa [Int.natCast_mul]at h
  have hrun:=run_make (P:=P) w t e inf z hu hinf hz kx ky n n Om (Int.le_refl _) hbb Om
  rw[Int.toNat_natCast,hsize]at hrun
  have hz0:CellsOk w F σ (up te.zero) z.cells.toList:=.zero hzs
  have hzat:∀i1 j,i1<n->j<sz->(madeCells z.cells (n*sz))[i1*sz+j]?=z.cells[j]?:=fun i1 j hi hj=>by
   have h1:=row_lt hi hj
   simp only[madeCells,hzl]
   rw[Array.getElem?_map,Array.getElem?_range,if_pos h1]
   have h2:(i1*sz+j) % sz=j:=by rw[Nat.mul_comm,Nat.mul_add_mod,Nat.mod_eq_of_lt hj]
   simp only[Option.map_some,h2]
   have h3:j<z.cells.size:=by omega
   simp[h3]
  have hzrows:RowsAt w F σ sz n (fun _=>up te.zero) (madeCells z.cells (n*sz)).toList:=by
   refine⟨fun i hi=>by rw[<-hz0.1,Array.length_toList,hzl],by simp[size_madeCells],fun i1 j B hi1 hB1=>?_⟩
   have hj:j<sz:=by
    have:=(List.getElem?_eq_some_iff.1 hB1).1
    rw[<-hz0.1,Array.length_toList,hzl]at this
    exact this
   have hu:z.cells.toList[j]?=some (z.cells[j]'Om):=by simp[show j<z.cells.size by omega]
   obtain⟨q1,q2⟩:=hz0.2 j B _ hB1 hu
   exact⟨_,by rw[Array.getElem?_toList,hzat i1 j hi1 hj];simp[show j<z.cells.size by omega],q1,q2⟩
  obtain⟨σ',g1,g2,g3,g4⟩:=newRow_ok (w':=w.alloc (.cells (madeCells z.cells (n*sz)) e)) (b:=w.heap.size) (tot:=n) (us:=(madeCells z.cells (n*sz)).toList) (e:=e) (sz:=sz) (n:=n) (f:=fun _=>up te.zero) hm (Nat.le_refl _) (by simp) (fun b hb=>heap_alloc_old w _ hb)
   rfl rfl rfl (Nat.le_refl _) (by rw[Array.toArray_toList];exact heap_alloc_new w _) (by simp[size_madeCells]) (Nat.le_refl _) (by unfold maxLen;omega) hzrows
  refine⟨_,_,_,σ',F,_,_,?_,.inl rfl,hK,g1,g2,g3,g4⟩
  simp[execOp,hop,hvx,hvy,hrun]⟩
end
end Go.Ab
namespace Go.Proofs.YtkjmomadndmeaaaGreatDoor
set_option linter.unusedSimpArgs false
set_option linter.unusedVariables false
open Go Go.Ab
set_option maxRecDepth 100000
set_option maxHeartbeats 0
end Go.Proofs.YtkjmomadndmeaaaGreatDoor
namespace Go.Ab
set_option linter.unusedSimpArgs false
set_option linter.unusedVariables false
end Go.Ab
namespace Go.Proofs.YtkjmomadndmeaaaGreatDoor
set_option linter.unusedSimpArgs false
set_option linter.unusedVariables false
open Go Go.Ab
set_option maxRecDepth 100000
set_option maxHeartbeats 0
def rowsOf {α:Type}[Inhabited α](enc:α->List D)(l:List α):Nat->List AV:=fun i=>up (enc (l.getD i default))
end Go.Proofs.YtkjmomadndmeaaaGreatDoor
