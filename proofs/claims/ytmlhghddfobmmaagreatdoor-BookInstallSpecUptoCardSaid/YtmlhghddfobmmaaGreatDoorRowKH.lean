import Derived.Test.YtmlhghddfobmmaaGreatDoorOpenB
import Derived.Test.YtmlhghddfobmmaaGreatDoorOpenK
import Derived.Test.YtmlhghddfobmmaaGreatDoorCards
import Derived.Test.YtmlhghddfobmmaaGreatDoorTie
import Derived.SevenTiedAt
import Derived.Deep.DeepHandedRow
import Derived.Deep.DeepWitnessRowRef
namespace Go.Proofs.YtmlhghddfobmmaaGreatDoor
set_option linter.unusedSimpArgs false
set_option linter.unusedVariables false
open Go Go.Ab
open Go.ChangeShapes Go.WideShapes Go.ChangeAt Go.RowKit
set_option maxRecDepth 100000
set_option maxHeartbeats 0
theorem Q6j (os:Os){H:Type}(enc:TypeId × Value->H):∃places,DataW.whole enc Tryz.prog ((World.doorLaid Tryz.prog 23 os).forCall (fun _ _=>0) ⟨#[],#[.agg #[.slice none 0 0,.slice none 0 0,.slice none 0 0],.agg #[.slice none 0 0,.slice none 0 0,.slice none 0 0,.slice none 0 0,.slice none 0 0,.slice none 0 0,.slice none 0 0],.agg #[.int .i64 0,.int .i64 0],.int .i64 0],[]⟩).memory Tryz.f3.params.toList Rows.bookInstallSpecSpec.vars false #[Value.agg #[.slice none 0 0,.slice none 0 0,.slice none 0 0],.agg #[.slice none 0 0,.slice none 0 0,.slice none 0 0,.slice none 0 0,.slice none 0 0,.slice none 0 0,.slice none 0 0],.agg #[.int .i64 0,.int .i64 0],.int .i64 0].toList 8=some ([.agg [.nil,.nil,.nil],.agg [.nil,.nil,.nil,.nil,.nil,.nil,.nil],.agg [.lit (.int .i64 0),.lit (.int .i64 0)],.lit (.int .i64 0)],[],places) :=
 ⟨[],Kr⟩
theorem Q6g (os:Os)(started:os.Started)(H:Type)(enc:TypeId × Value->H)(F:Stop.Interp) :
 ReturnsInHanded {} Tryz.checked os 3 .any ((Rows.OpenSpec.upto Rows.bookInstallSpecSpec).preRow enc Tryz.prog Tryz.f3 Rows.bookInstallSpecUptoRow.domain false Rows.bookInstallSpecUptoRow.laid) (((Rows.OpenSpec.upto Rows.bookInstallSpecSpec).at F).post enc Tryz.prog Tryz.f3 false true false false):=by
 obtain⟨places,hx⟩:=Q6j os enc
 refine returnsInHanded_of_row (C:=Tryz.checked) (s:=Rows.OpenSpec.upto Rows.bookInstallSpecSpec) own started Kr Tryz.func3
  (witness_row_atRef (enc:=enc) (C:=Tryz.checked) false (World.doorLaid Tryz.prog 23 os) #[.agg #[.slice none 0 0,.slice none 0 0,.slice none 0 0],.agg #[.slice none 0 0,.slice none 0 0,.slice none 0 0,.slice none 0 0,.slice none 0 0,.slice none 0 0,.slice none 0 0],.agg #[.int .i64 0,.int .i64 0],.int .i64 0] rfl (by kernel_rfl) (by kernel_rfl) (by kernel_rfl)
   (OpenSpec.preRow_of_cond 8 hx Kr (fun k hk=>by cases hk;kernel_rfl) Kr (Q7l os _))) ?_
 intro W base args ds gs before hval0 hW _ hcond _ hL _ _
 have hval:∀(j:Nat) t v,Tryz.f3.params[j]?=some t->args[j]?=some v->Value.okWide Tryz.prog W .any base t v:=hval0
 have hW':=hW
 obtain⟨p,q,hA0,hV,rfl,hfz,hnd⟩:=hW
 have hA:DataW.TrodAll enc Tryz.prog W 0 (fun _=>true) true Tryz.f3.params.toList args.toList ds p:=hA0
 rw[Tryz.params3]at hA hval
 obtain⟨v0,v1,v2,v3,d0,d1,d2,d3,p0,p1,p2,p3,rfl,rfl,rfl,h0,h1,h2,h3⟩:=Qg4 hA
 obtain⟨rfl,rfl⟩:=trodVars_none hV
 obtain⟨x0,o0,r0⟩:=Qci (hval 0 _ v0 rfl rfl) h0
 obtain⟨x1,o1,r1,b1⟩:=Qcj (hval 1 _ v1 rfl rfl) h1
 obtain⟨x2,o2,r2⟩:=Qcl (hval 2 _ v2 rfl rfl) h2
 obtain⟨x3,o3,r3⟩:=Qck (hval 3 _ v3 rfl rfl) h3
 have hb:Rows.uptoBulkAll ([d0,d1,d2,d3]++[])<=1048576:=Qhd (hcond _ rfl)
 have hS:L3 x1:=by
  simp only[Qih,Rows.uptoBulkAll]at hb
  unfold L3
  omega
 exact Qbb laidOut (by rw[Tryz.params3];intro t ht;simp at ht;rcases ht with rfl|rfl|rfl|rfl<;>exact⟨Kr,Qhd Kr⟩) Kr Tryz.underlying4 rfl rfl hW' (Qa5 hL) _ (Q6i x0 o0 x1 o1 x2.1 x2.2 x3 hS) rfl (Q62 r0 r1 r2 r3)
theorem Q6d {a b:Bool}(ha:a=true)(hb:b=true):(a&&b)=true:=by rw[ha,hb];rfl
theorem Q6e:joinedFacts Tryz.prog 3 Tryz.f3 (Rows.OpenSpec.upto Rows.bookInstallSpecSpec).bare Rows.bookInstallSpecUptoRow=true:=by
 unfold joinedFacts
 repeat' (with_reducible refine Q6d ?_ ?_)
 all_goals decide +kernel
theorem Q6h:Tryz.prog.funcNamed Rows.bookInstallSpecUptoRow.func=some 3:=by kernel_rfl
theorem Q6f:Tryz.f3.isInstance Tryz.prog Rows.bookInstallSpecUptoRow.origin Rows.bookInstallSpecUptoRow.targs:=Qhd Kr
theorem Q6k:Tryz.f3.isWrapper Tryz.prog Rows.bookInstallSpecUptoRow.wrapper Rows.bookInstallSpecUptoRow.mainSum:=by unfold Func.isWrapper;rw[if_neg (of_decide_eq_false Kr)];exact⟨rfl,rfl⟩
theorem bookInstallSpec_row:Rows.BookInstallSpecUptoSaid :=
 OpenClaim.holds_of_cond 3 Tryz.f3 rfl rfl rfl rfl rfl rfl rfl ⟨rfl,rfl,rfl,rfl,rfl⟩ rfl rfl rfl rfl rfl Q6h Tryz.func3 Q6e
  Q6f Q6k
  (fun os started H enc _ F=>by rw[OpenClaim.pre_eq_preRow];exact Q6g os started H enc F)
theorem bookInstallSpecUpto_holds:Rows.BookInstallSpecUptoCardSaid :=
 Claim7.holds_tied_plain_at .later [] [.funcs] true (true,"820569908eeee29bfb57ab197e6c4e42187f44ca2804ec639368d76df583f164") true
  bookInstallSpec_row (fun _ h=>by cases h) Kr (fun _ h=>by cases h) bookInstallSpecUpto_row_tie rfl ⟨rfl,rfl⟩ Kr rfl
  (fun f fn hf hfn=>by
   obtain rfl:f=3:=Option.some.inj ((show Tryz.prog.funcNamed "sizar/sizarlaw14.BookInstallSpec"=some 3 by kernel_rfl).symm.trans hf) |>.symm
   obtain rfl:fn=Tryz.f3:=(Option.some.inj (Tryz.func3.symm.trans hfn)).symm
   exact⟨Kr,fun j t ht=>by
    rw[Tryz.params3]at ht
    have hm:t∈[26,32,34,3]:=by simpa using Array.mem_of_getElem? ht
    have hall:([26,32,34,3].all fun u=>!Tryz.prog.wantsStandIn u)=true:=by kernel_rfl
    exact(show Tryz.prog.wantsStandIn t=false by simpa using Qi8.1 hall t hm)⟩)
  Kr
#print axioms bookInstallSpecUpto_holds
end Go.Proofs.YtmlhghddfobmmaaGreatDoor
