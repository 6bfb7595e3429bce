import Derived.Test.YtmlhghddfobmmaaGreatDoorLawIC
import Derived.Test.YtmlhghddfobmmaaGreatDoorOpenK
import Derived.Test.YtmlhghddfobmmaaGreatDoorCards
import Derived.Test.YtmlhghddfobmmaaGreatDoorTie
import Derived.SevenTiedAt
namespace Go.Proofs.YtmlhghddfobmmaaGreatDoor
set_option linter.unusedSimpArgs false
set_option linter.unusedVariables false
open Go Go.Ab
open Go.ChangeShapes Go.WideShapes Go.ChangeAt Go.RowKit
set_option maxRecDepth 100000
set_option maxHeartbeats 0
theorem bookInstalled_lifted (os:Os)(started:os.Started)(H:Type)(enc:TypeId × Value->H) :
 ReturnsInHanded {} Tryz.checked os 9 .any (fun w args=>(Rows.bookInstalledSpec.pre enc Tryz.prog Tryz.f9 [] false w args/\laidMetH Tryz.prog laidK w)/\sizedMet enc Tryz.prog Tryz.f9 (OpenSpec.ofChange Rows.bookInstalledSpec) false w args)
  (Rows.bookInstalledSpec.post enc Tryz.prog Tryz.f9 false true false false):=by
 refine returnsInHanded_of_change_and (C:=Tryz.checked) (X:=fun w _=>laidMetH Tryz.prog laidK w) (fun _ _ _ hh h=>h.of_heap hh) own started Kr Tryz.func9
  (ChangeSpec.witness_shaped (enc:=enc) (C:=Tryz.checked) (os:=os) (X:=fun w _=>laidMetH Tryz.prog laidK w) false (World.doorLaid Tryz.prog 23 os) #[.agg #[.slice none 0 0,.slice none 0 0,.slice none 0 0,.slice none 0 0],.agg #[.slice none 0 0,.slice none 0 0,.slice none 0 0,.slice none 0 0,.slice none 0 0,.slice none 0 0,.slice none 0 0],.agg #[.int .i64 0,.int .i64 0],.int .i64 0,.int .i64 0,.int .i64 0,.int .i64 0] 8 rfl (World.shaped_of_RefB Kr Kr) Kr Kr Kr (door_met os _)) ?_
 intro W base args ds gs before hval0 hW _ _ hL _
 have hval:∀(j:Nat) t v,Tryz.f9.params[j]?=some t->args[j]?=some v->Value.okWide Tryz.prog W .any base t v:=hval0
 have hW':=hW
 obtain⟨p,q,hA0,hV,rfl,hfz,hnd⟩:=hW
 have hA:DataW.TrodAll enc Tryz.prog W 0 (fun _=>true) true Tryz.f9.params.toList args.toList ds p:=hA0
 rw[Tryz.params9]at hA hval
 obtain⟨v0,v1,v2,v3,v4,v5,v6,d0,d1,d2,d3,d4,d5,d6,p0,p1,p2,p3,p4,p5,p6,rfl,rfl,rfl,h0,h1,h2,h3,h4,h5,h6⟩:=trodN_7 hA
 obtain⟨rfl,rfl⟩:=trodVars_none hV
 obtain⟨x0,o0,r0⟩:=open_wor (hval 0 _ v0 rfl rfl) h0
 obtain⟨x1,o1,r1⟩:=open_cat (hval 1 _ v1 rfl rfl) h1
 obtain⟨x2,o2,r2⟩:=open_spn (hval 2 _ v2 rfl rfl) h2
 obtain⟨x3,o3,r3⟩:=open_i (hval 3 _ v3 rfl rfl) h3
 obtain⟨x4,o4,r4⟩:=open_i (hval 4 _ v4 rfl rfl) h4
 obtain⟨x5,o5,r5⟩:=open_i (hval 5 _ v5 rfl rfl) h5
 obtain⟨x6,o6,r6⟩:=open_i (hval 6 _ v6 rfl rfl) h6
 exact law_post laidOut (by rw[Tryz.params9];intro t ht;simp at ht;rcases ht with rfl|rfl|rfl|rfl|rfl|rfl|rfl<;>exact⟨Kr,of_decide_eq_true Kr⟩) Kr Tryz.underlying4 rfl rfl hW' (gok_of hL) _ (bookInstalled_law x0 o0 x1 o1 x2.1 x2.2 o2 x3 x4 x5 x6) rfl (argsN_7 r0 r1 r2 r3 r4 r5 r6)
theorem bookInstalled_and {a b:Bool}(ha:a=true)(hb:b=true):(a&&b)=true:=by rw[ha,hb];rfl
theorem bookInstalled_facts:joinedFacts Tryz.prog 9 Tryz.f9 Rows.bookInstalledSpec Rows.bookInstalledRow=true:=by
 unfold joinedFacts
 repeat' (with_reducible refine bookInstalled_and ?_ ?_)
 all_goals decide +kernel
theorem bookInstalled_named:Tryz.prog.funcNamed Rows.bookInstalledRow.func=some 9:=by kernel_rfl
theorem bookInstalled_inst:Tryz.f9.isInstance Tryz.prog Rows.bookInstalledRow.origin Rows.bookInstalledRow.targs:=of_decide_eq_true Kr
theorem bookInstalled_wrap:Tryz.f9.isWrapper Tryz.prog Rows.bookInstalledRow.wrapper Rows.bookInstalledRow.mainSum:=by unfold Func.isWrapper;rw[if_neg (of_decide_eq_false Kr)];exact⟨rfl,rfl⟩
theorem bookInstalled_row:Rows.BookInstalledSaid :=
 OpenClaim.holds_of_wide 9 Tryz.f9 rfl rfl rfl rfl rfl rfl rfl ⟨rfl,rfl,rfl,rfl,rfl⟩ rfl rfl rfl rfl rfl bookInstalled_named Tryz.func9 bookInstalled_facts
  bookInstalled_inst bookInstalled_wrap
  (fun os started H enc _=>bookInstalled_lifted os started H enc)
theorem bookInstalled_holds:Rows.BookInstalledCardSaid :=
 Claim7.holds_tied_plain_at .later [] [.funcs] true (true,"820569908eeee29bfb57ab197e6c4e42187f44ca2804ec639368d76df583f164") true
  bookInstalled_row (fun _ h=>by cases h) Kr (fun _ h=>by cases h) bookInstalled_row_tie rfl ⟨rfl,rfl⟩ Kr rfl
  (fun f fn hf hfn=>by
   obtain rfl:f=9:=Option.some.inj ((show Tryz.prog.funcNamed "sizar/sizarlaw14.BookInstalled"=some 9 by kernel_rfl).symm.trans hf) |>.symm
   obtain rfl:fn=Tryz.f9:=(Option.some.inj (Tryz.func9.symm.trans hfn)).symm
   exact⟨Kr,fun j t ht=>by
    rw[Tryz.params9]at ht
    have hm:t∈[51,32,34,3,3,3,3]:=by simpa using Array.mem_of_getElem? ht
    have hall:([51,32,34,3,3,3,3].all fun u=>!Tryz.prog.wantsStandIn u)=true:=by kernel_rfl
    exact(show Tryz.prog.wantsStandIn t=false by simpa using List.all_eq_true.1 hall t hm)⟩)
  Kr
#print axioms bookInstalled_holds
end Go.Proofs.YtmlhghddfobmmaaGreatDoor
