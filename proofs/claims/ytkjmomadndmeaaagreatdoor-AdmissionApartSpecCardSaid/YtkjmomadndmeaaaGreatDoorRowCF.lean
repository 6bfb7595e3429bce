import Derived.Test.YtkjmomadndmeaaaGreatDoorLawCF
import Derived.Test.YtkjmomadndmeaaaGreatDoorOpenP
import Derived.Test.YtkjmomadndmeaaaGreatDoorCards
import Derived.Test.YtkjmomadndmeaaaGreatDoorTie
import Derived.SevenTiedAt
namespace Go.Proofs.YtkjmomadndmeaaaGreatDoor
set_option linter.unusedSimpArgs false
set_option linter.unusedVariables false
open Go Go.Ab
open Go.ChangeShapes Go.WideShapes Go.ChangeAt Go.RowKit
set_option maxRecDepth 100000
set_option maxHeartbeats 0
theorem admissionApartSpec_lifted (os:Os)(started:os.Started)(H:Type)(enc:TypeId × Value->H) :
 ReturnsInHanded {} Tryz.checked os 8 .any (fun w args=>(Rows.admissionApartSpecSpec.pre enc Tryz.prog Tryz.f8 [] false w args/\laidMetH Tryz.prog laidK w)/\sizedMet enc Tryz.prog Tryz.f8 (OpenSpec.ofChange Rows.admissionApartSpecSpec) false w args)
  (Rows.admissionApartSpecSpec.post enc Tryz.prog Tryz.f8 false true false false):=by
 refine returnsInHanded_of_change_and (C:=Tryz.checked) (X:=fun w _=>laidMetH Tryz.prog laidK w) (fun _ _ _ hh h=>h.of_heap hh) own started Kr Tryz.func8
  (ChangeSpec.witness_shaped (enc:=enc) (C:=Tryz.checked) (os:=os) (X:=fun w _=>laidMetH Tryz.prog laidK w) false (World.doorLaid Tryz.prog 30 os) #[.agg #[.slice none 0 0,.slice none 0 0,.slice none 0 0,.slice none 0 0],.slice none 0 0,.int .i64 0,.int .i64 0,.slice none 0 0,.agg #[.int .i64 0,.int .i64 0],.int .i64 0,.int .i64 0] 8 rfl (World.shaped_of_RefB Kr Kr) Kr Kr Kr (door_met os _)) ?_
 intro W base args ds gs before hval0 hW _ _ hL _
 have hval:∀(j:Nat) t v,Tryz.f8.params[j]?=some t->args[j]?=some v->Value.okWide Tryz.prog W .any base t v:=hval0
 have hW':=hW
 obtain⟨p,q,hA0,hV,rfl,hfz,hnd⟩:=hW
 have hA:DataW.TrodAll enc Tryz.prog W 0 (fun _=>true) true Tryz.f8.params.toList args.toList ds p:=hA0
 rw[Tryz.params8]at hA hval
 obtain⟨v0,v1,v2,v3,v4,v5,v6,v7,d0,d1,d2,d3,d4,d5,d6,d7,p0,p1,p2,p3,p4,p5,p6,p7,rfl,rfl,rfl,h0,h1,h2,h3,h4,h5,h6,h7⟩:=trodN_8 hA
 obtain⟨rfl,rfl⟩:=trodVars_none hV
 obtain⟨x0,o0,r0⟩:=open_wor (hval 0 _ v0 rfl rfl) h0
 obtain⟨x1,o1,r1⟩:=open_secs (hval 1 _ v1 rfl rfl) h1
 obtain⟨x2,o2,r2⟩:=open_i (hval 2 _ v2 rfl rfl) h2
 obtain⟨x3,o3,r3⟩:=open_i (hval 3 _ v3 rfl rfl) h3
 obtain⟨x4,o4,r4⟩:=open_buns (hval 4 _ v4 rfl rfl) h4
 obtain⟨x5,o5,r5⟩:=open_bun (hval 5 _ v5 rfl rfl) h5
 obtain⟨x6,o6,r6⟩:=open_i (hval 6 _ v6 rfl rfl) h6
 obtain⟨x7,o7,r7⟩:=open_i (hval 7 _ v7 rfl rfl) h7
 exact law_post laidOut (by rw[Tryz.params8];intro t ht;simp at ht;rcases ht with rfl|rfl|rfl|rfl|rfl|rfl|rfl|rfl<;>exact⟨Kr,of_decide_eq_true Kr⟩) Kr Tryz.underlying4 rfl rfl hW' (gok_of hL) _ (law28P_ok x0 o0 x1 x2 x3 x4 x5 x6 o6 x7) rfl (argsN_8 r0 r1 r2 r3 r4 r5 r6 r7)
theorem admissionApartSpec_and {a b:Bool}(ha:a=true)(hb:b=true):(a&&b)=true:=by rw[ha,hb];rfl
theorem admissionApartSpec_facts:joinedFacts Tryz.prog 8 Tryz.f8 Rows.admissionApartSpecSpec Rows.admissionApartSpecRow=true:=by
 unfold joinedFacts
 repeat' (with_reducible refine admissionApartSpec_and ?_ ?_)
 all_goals decide +kernel
theorem admissionApartSpec_named:Tryz.prog.funcNamed Rows.admissionApartSpecRow.func=some 8:=by kernel_rfl
theorem admissionApartSpec_inst:Tryz.f8.isInstance Tryz.prog Rows.admissionApartSpecRow.origin Rows.admissionApartSpecRow.targs:=of_decide_eq_true Kr
theorem admissionApartSpec_wrap:Tryz.f8.isWrapper Tryz.prog Rows.admissionApartSpecRow.wrapper Rows.admissionApartSpecRow.mainSum:=by unfold Func.isWrapper;rw[if_neg (of_decide_eq_false Kr)];exact⟨rfl,rfl⟩
theorem admissionApartSpec_row:Rows.AdmissionApartSpecSaid :=
 OpenClaim.holds_of_wide 8 Tryz.f8 rfl rfl rfl rfl rfl rfl rfl ⟨rfl,rfl,rfl,rfl,rfl⟩ rfl rfl rfl rfl rfl admissionApartSpec_named Tryz.func8 admissionApartSpec_facts
  admissionApartSpec_inst admissionApartSpec_wrap
  (fun os started H enc _=>admissionApartSpec_lifted os started H enc)
theorem admissionApartSpec_holds:Rows.AdmissionApartSpecCardSaid :=
 Claim7.holds_tied_plain_at .later [] [.handle,.funcs] true (true,"ce041589cce08407461416763a5fe601d0f45b4e72c79f26783d58c5f200c39d") true
  admissionApartSpec_row (fun _ h=>by cases h) Kr (fun _ h=>by cases h) admissionApartSpec_row_tie rfl ⟨rfl,rfl⟩ Kr rfl
  (fun f fn hf hfn=>by
   obtain rfl:f=8:=Option.some.inj ((show Tryz.prog.funcNamed "sizar/sizarlaw28.AdmissionApartSpec"=some 8 by kernel_rfl).symm.trans hf) |>.symm
   obtain rfl:fn=Tryz.f8:=(Option.some.inj (Tryz.func8.symm.trans hfn)).symm
   exact⟨Kr,fun j t ht=>by
    rw[Tryz.params8]at ht
    have hm:t∈[29,80,3,3,81,83,3,3]:=by simpa using Array.mem_of_getElem? ht
    have hall:([29,80,3,3,81,83,3,3].all fun u=>!Tryz.prog.wantsStandIn u)=true:=by kernel_rfl
    exact(show Tryz.prog.wantsStandIn t=false by simpa using List.all_eq_true.1 hall t hm)⟩)
  Kr
#print axioms admissionApartSpec_holds
end Go.Proofs.YtkjmomadndmeaaaGreatDoor
