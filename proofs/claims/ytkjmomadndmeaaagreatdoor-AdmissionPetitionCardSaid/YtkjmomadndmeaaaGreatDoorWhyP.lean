import Derived.Test.YtkjmomadndmeaaaGreatDoorAdmC
namespace Go.Proofs.YtkjmomadndmeaaaGreatDoor
set_option linter.unusedSimpArgs false
set_option linter.unusedVariables false
open Go Go.Ab
set_option maxRecDepth 100000
set_option maxHeartbeats 0
theorem failF_nil (s:Sit) (ps:List Rule):∀ k,failF s ps k=[]↔∀ i,i < k→valR s (ps.getD i default)=true
 | 0=>by simp [failF]
 | k + 1=>by
   rw [failF,List.append_eq_nil_iff,failF_nil s ps k]
   constructor
   ·rintro ⟨h1,h2⟩ i hi
    by_cases e:i=k
    ·subst e
     cases hv:valR s (ps.getD i default) with
     | true=>rfl
     | false=>rw [hv,if_neg (by decide)] at h2;cases h2
    ·exact h1 i (by omega)
   ·intro h
    exact ⟨fun i hi=>h i (by omega),by rw [if_pos (h k (by omega))]⟩
theorem valRs_all (s:Sit):∀ ps:List Rule,valRs s ps=ps.length↔∀ p∈ps,valR s p=true
 | []=>by rw [valRs_nil];simp
 | p :: r=>by
   have hl:=valRs_le s r
   rw [valRs_cons,List.length_cons]
   constructor
   ·intro h
    have hp:valR s p=true:=by
     cases hv:valR s p with
     | true=>rfl
     | false=>rw [hv,if_neg (by decide)] at h;omega
    rw [hp,if_pos rfl] at h
    have h2:=(valRs_all s r).1 (by omega)
    intro q hq
    rcases List.mem_cons.1 hq with rfl | hq
    ·exact hp
    ·exact h2 q hq
   ·intro h
    rw [h p (by simp),if_pos rfl,(valRs_all s r).2 fun q hq=>h q (by simp [hq])]
    omega
theorem getD_all {ps:List Rule} {P:Rule→Prop}:(∀ i,i < ps.length→P (ps.getD i default))↔∀ p∈ps,P p:=by
 constructor
 ·intro h p hp
  obtain ⟨i,hi,rfl⟩:=List.getElem_of_mem hp
  have:=h i hi
  simpa [hi] using this
 ·intro h i hi
  exact h _ (getD_mem hi)
theorem fail_iff (s:Sit) (r:Rule):failF s (partsR r) (partsR r).length=[]↔valR s r=true:=by
 rw [failF_nil]
 refine Iff.trans (getD_all (P:=fun p=>valR s p=true)) ?_
 unfold partsR
 split
 ·rename_i h1
  rw [← valRs_all,valR_eq,holdB,if_pos h1,decide_eq_true_iff]
 ·simp
theorem whyL_nil (w:Wor) (s c t kn:Int) (nw:List Int):whyL w s c t kn nw=[]↔allowV w s c t kn nw=true:=by
 unfold whyL allowV
 rw [List.append_eq_nil_iff,fail_iff]
 cases valR (sitV w s t kn nw) (crsD w c t kn).bar <;> simp
end Go.Proofs.YtkjmomadndmeaaaGreatDoor
