import Derived.Test.YtmlhghddfobmmaaGreatDoorLawNB
import Derived.Test.YtmlhghddfobmmaaGreatDoorOpenK
import Derived.Test.YtmlhghddfobmmaaGreatDoorCards
import Derived.Test.YtmlhghddfobmmaaGreatDoorTie
import Derived.SevenTiedAt
namespace Go.Proofs.YtmlhghddfobmmaaGreatDoor
set_option linter.unusedSimpArgs false
set_option linter.unusedVariables false
open Go Go.Ab
open Go.ChangeShapes Go.WideShapes Go.ChangeAt Go.RowKit
set_option maxRecDepth 100000
set_option maxHeartbeats 0
theorem bookNumbers_lifted (os:Os)(started:os.Started)(H:Type)(enc:TypeId × Value->H) :
 ReturnsInHanded {} Tryz.checked os 6 .any (fun w args=>(Rows.bookNumbersSpec.pre enc Tryz.prog Tryz.f6 [] false w args/\laidMetH Tryz.prog laidK w)/\sizedMet enc Tryz.prog Tryz.f6 (OpenSpec.ofChange Rows.bookNumbersSpec) false w args)
  (Rows.bookNumbersSpec.post enc Tryz.prog Tryz.f6 false true false false):=by
 refine returnsInHanded_of_change_and (C:=Tryz.checked) (X:=fun w _=>laidMetH Tryz.prog laidK w) (fun _ _ _ hh h=>h.of_heap hh) own started Kr Tryz.func6
  (ChangeSpec.witness_shaped (enc:=enc) (C:=Tryz.checked) (os:=os) (X:=fun w _=>laidMetH Tryz.prog laidK w) false (World.doorLaid Tryz.prog 23 os) #[.agg #[.slice none 0 0,.slice none 0 0,.slice none 0 0,.slice none 0 0,.slice none 0 0,.slice none 0 0,.slice none 0 0],.agg #[.slice none 0 0,.slice none 0 0,.slice none 0 0,.slice none 0 0,.slice none 0 0,.slice none 0 0,.slice none 0 0],.agg #[.int .i64 0,.int .i64 0],.agg #[.int .i64 0,.int .i64 0]] 8 rfl (World.shaped_of_RefB Kr Kr) Kr Kr Kr (door_met os _)) ?_
 intro W base args ds gs before hval0 hW _ _ hL _
 have hval:∀(j:Nat) t v,Tryz.f6.params[j]?=some t->args[j]?=some v->Value.okWide Tryz.prog W .any base t v:=hval0
 have hW':=hW
 obtain⟨p,q,hA0,hV,rfl,hfz,hnd⟩:=hW
 have hA:DataW.TrodAll enc Tryz.prog W 0 (fun _=>true) true Tryz.f6.params.toList args.toList ds p:=hA0
 rw[Tryz.params6]at hA hval
 obtain⟨v0,v1,v2,v3,d0,d1,d2,d3,p0,p1,p2,p3,rfl,rfl,rfl,h0,h1,h2,h3⟩:=trodN_4 hA
 obtain⟨rfl,rfl⟩:=trodVars_none hV
 obtain⟨x0,o0,r0⟩:=open_cat (hval 0 _ v0 rfl rfl) h0
 obtain⟨x1,o1,r1⟩:=open_cat (hval 1 _ v1 rfl rfl) h1
 obtain⟨x2,o2,r2⟩:=open_spn (hval 2 _ v2 rfl rfl) h2
 obtain⟨x3,o3,r3⟩:=open_spn (hval 3 _ v3 rfl rfl) h3
 exact law_post laidOut (by rw[Tryz.params6];intro t ht;simp at ht;rcases ht with rfl|rfl|rfl|rfl<;>exact⟨Kr,of_decide_eq_true Kr⟩) Kr Tryz.underlying4 rfl rfl hW' (gok_of hL) _ (bookNumbers_law x0 o0 x1 o1 x2.1 x2.2 o2 x3.1 x3.2 o3) rfl (argsN_4 r0 r1 r2 r3)
theorem bookNumbers_and {a b:Bool}(ha:a=true)(hb:b=true):(a&&b)=true:=by rw[ha,hb];rfl
theorem bookNumbers_facts:joinedFacts Tryz.prog 6 Tryz.f6 Rows.bookNumbersSpec Rows.bookNumbersRow=true:=by
 unfold joinedFacts
 repeat' (with_reducible refine bookNumbers_and ?_ ?_)
 all_goals decide +kernel
theorem bookNumbers_named:Tryz.prog.funcNamed Rows.bookNumbersRow.func=some 6:=by kernel_rfl
theorem bookNumbers_inst:Tryz.f6.isInstance Tryz.prog Rows.bookNumbersRow.origin Rows.bookNumbersRow.targs:=of_decide_eq_true Kr
theorem bookNumbers_wrap:Tryz.f6.isWrapper Tryz.prog Rows.bookNumbersRow.wrapper Rows.bookNumbersRow.mainSum:=by unfold Func.isWrapper;rw[if_neg (of_decide_eq_false Kr)];exact⟨rfl,rfl⟩
theorem bookNumbers_row:Rows.BookNumbersSaid :=
 OpenClaim.holds_of_wide 6 Tryz.f6 rfl rfl rfl rfl rfl rfl rfl ⟨rfl,rfl,rfl,rfl,rfl⟩ rfl rfl rfl rfl rfl bookNumbers_named Tryz.func6 bookNumbers_facts
  bookNumbers_inst bookNumbers_wrap
  (fun os started H enc _=>bookNumbers_lifted os started H enc)
theorem bookNumbers_holds:Rows.BookNumbersCardSaid :=
 Claim7.holds_tied_plain_at .later [] [.funcs] true (true,"820569908eeee29bfb57ab197e6c4e42187f44ca2804ec639368d76df583f164") true
  bookNumbers_row (fun _ h=>by cases h) Kr (fun _ h=>by cases h) bookNumbers_row_tie rfl ⟨rfl,rfl⟩ Kr rfl
  (fun f fn hf hfn=>by
   obtain rfl:f=6:=Option.some.inj ((show Tryz.prog.funcNamed "sizar/sizarlaw14.BookNumbers"=some 6 by kernel_rfl).symm.trans hf) |>.symm
   obtain rfl:fn=Tryz.f6:=(Option.some.inj (Tryz.func6.symm.trans hfn)).symm
   exact⟨Kr,fun j t ht=>by
    rw[Tryz.params6]at ht
    have hm:t∈[32,32,34,34]:=by simpa using Array.mem_of_getElem? ht
    have hall:([32,32,34,34].all fun u=>!Tryz.prog.wantsStandIn u)=true:=by kernel_rfl
    exact(show Tryz.prog.wantsStandIn t=false by simpa using List.all_eq_true.1 hall t hm)⟩)
  Kr
#print axioms bookNumbers_holds
end Go.Proofs.YtmlhghddfobmmaaGreatDoor
