import Derived.Test.YtkjmomadndmeaaaGreatDoorLawCD
import Derived.Test.YtkjmomadndmeaaaGreatDoorOpenK
import Derived.Test.YtkjmomadndmeaaaGreatDoorCards
import Derived.Test.YtkjmomadndmeaaaGreatDoorTie
import Derived.SevenTiedAt
namespace Go.Proofs.YtkjmomadndmeaaaGreatDoor
set_option linter.unusedSimpArgs false
set_option linter.unusedVariables false
open Go Go.Ab
open Go.ChangeShapes Go.WideShapes Go.ChangeAt Go.RowKit
set_option maxRecDepth 100000
set_option maxHeartbeats 0
theorem pL (os:Os) (started:os.Started) (H:Type) (enc:TypeId × Value→H) :
 ReturnsInHanded {} Tryz.checked os 7 .any (fun w args=>(Rows.admissionPetitionSpec.pre enc Tryz.prog Tryz.f7 [] false w args∧laidMetH Tryz.prog laidK w)∧sizedMet enc Tryz.prog Tryz.f7 (OpenSpec.ofChange Rows.admissionPetitionSpec) false w args)
  (Rows.admissionPetitionSpec.post enc Tryz.prog Tryz.f7 false true false false):=by
 refine returnsInHanded_of_change_and (C:=Tryz.checked) (X:=fun w _=>laidMetH Tryz.prog laidK w) (fun _ _ _ hh h=>h.of_heap hh) own started (by kernel_rfl) Tryz.func7
  (ChangeSpec.witness_shaped (enc:=enc) (C:=Tryz.checked) (os:=os) (X:=fun w _=>laidMetH Tryz.prog laidK w) false (World.doorLaid Tryz.prog 30 os) #[.agg #[.slice none 0 0,.slice none 0 0,.slice none 0 0,.slice none 0 0],.int .i64 0,.int .i64 0,.int .i64 0,.agg #[.int .i64 0,.int .i64 0],.int .i64 0,.slice none 0 0] 8 rfl (World.shaped_of_RefB (by kernel_rfl) (by kernel_rfl)) (by kernel_rfl) (by kernel_rfl) (by kernel_rfl) (door_met os _)) ?_
 intro W base args ds gs before hval0 hW _ _ hL _
 have hval:∀ (j:Nat) t v,Tryz.f7.params[j]?=some t→args[j]?=some v→Value.okWide Tryz.prog W .any base t v:=hval0
 have hW':=hW
 obtain ⟨p,q,hA0,hV,rfl,hfz,hnd⟩:=hW
 have hA:DataW.TrodAll enc Tryz.prog W 0 (fun _=>true) true Tryz.f7.params.toList args.toList ds p:=hA0
 rw [Tryz.params7] at hA hval
 obtain ⟨v0,v1,v2,v3,v4,v5,v6,d0,d1,d2,d3,d4,d5,d6,p0,p1,p2,p3,p4,p5,p6,rfl,rfl,rfl,h0,h1,h2,h3,h4,h5,h6⟩:=trodN_7 hA
 obtain ⟨rfl,rfl⟩:=trodVars_none hV
 obtain ⟨x0,o0,r0⟩:=open_wor (hval 0 _ v0 rfl rfl) h0
 obtain ⟨x1,o1,r1⟩:=open_i (hval 1 _ v1 rfl rfl) h1
 obtain ⟨x2,o2,r2⟩:=open_i (hval 2 _ v2 rfl rfl) h2
 obtain ⟨x3,o3,r3⟩:=open_i (hval 3 _ v3 rfl rfl) h3
 obtain ⟨x4,o4,r4⟩:=opens_arg opens_spn (hval 4 _ v4 rfl rfl) h4
 obtain ⟨x5,o5,r5⟩:=open_i (hval 5 _ v5 rfl rfl) h5
 obtain ⟨x6,o6,r6⟩:=open_is (hval 6 _ v6 rfl rfl) h6
 exact law_post laidOut (by rw [Tryz.params7];intro t ht;simp at ht;rcases ht with rfl | rfl | rfl | rfl | rfl | rfl | rfl <;> exact ⟨by kernel_rfl,of_decide_eq_true (by kernel_rfl)⟩) (by kernel_rfl) Tryz.underlying4 rfl rfl hW' (gok_of hL) _ (law28PR_ok x0 o0 x1 x2 x3 x4.1 x4.2 o4 x5 x6 o6) rfl (argsN_7 r0 r1 r2 r3 (r4.1 _ Tryz.underlying69) r5 r6)
theorem pr_and {a b:Bool} (ha:a=true) (hb:b=true):(a && b)=true:=by rw [ha,hb];rfl
theorem pF:joinedFacts Tryz.prog 7 Tryz.f7 Rows.admissionPetitionSpec Rows.admissionPetitionRow=true:=by
 unfold joinedFacts
 repeat' (with_reducible refine pr_and ?_ ?_)
 all_goals decide +kernel
theorem pN:Tryz.prog.funcNamed Rows.admissionPetitionRow.func=some 7:=by kernel_rfl
theorem pI:Tryz.f7.isInstance Tryz.prog Rows.admissionPetitionRow.origin Rows.admissionPetitionRow.targs:=of_decide_eq_true (by kernel_rfl)
theorem pW:Tryz.f7.isWrapper Tryz.prog Rows.admissionPetitionRow.wrapper Rows.admissionPetitionRow.mainSum:=by unfold Func.isWrapper;rw [if_neg (of_decide_eq_false (by kernel_rfl))];exact ⟨rfl,rfl⟩
theorem pr_row:Rows.AdmissionPetitionSaid :=
 OpenClaim.holds_of_wide 7 Tryz.f7 rfl rfl rfl rfl rfl rfl rfl ⟨rfl,rfl,rfl,rfl,rfl⟩ rfl rfl rfl rfl rfl pN Tryz.func7 pF
  pI pW
  (fun os started H enc _=>pL os started H enc)
theorem admissionPetition_holds:Rows.AdmissionPetitionCardSaid :=
 Claim7.holds_tied_plain_at .later [] [.funcs] true (true,"ce041589cce08407461416763a5fe601d0f45b4e72c79f26783d58c5f200c39d") true
  pr_row (fun _ h=>by cases h) (by kernel_rfl) (fun _ h=>by cases h) admissionPetition_row_tie rfl ⟨rfl,rfl⟩ (by kernel_rfl) rfl
  (fun f fn hf hfn=>by
   obtain rfl:f=7:=Option.some.inj ((show Tryz.prog.funcNamed "sizar/sizarlaw28.AdmissionPetition"=some 7 by kernel_rfl).symm.trans hf) |>.symm
   obtain rfl:fn=Tryz.f7:=(Option.some.inj (Tryz.func7.symm.trans hfn)).symm
   exact ⟨by kernel_rfl,fun j t ht=>by
    rw [Tryz.params7] at ht
    have hm:t∈[29,3,3,3,69,3,30]:=by simpa using Array.mem_of_getElem? ht
    have hall:([29,3,3,3,69,3,30].all fun u=>!Tryz.prog.wantsStandIn u)=true:=by kernel_rfl
    exact (show Tryz.prog.wantsStandIn t=false by simpa using List.all_eq_true.1 hall t hm)⟩)
  (by kernel_rfl)
end Go.Proofs.YtkjmomadndmeaaaGreatDoor
