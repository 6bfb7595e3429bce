/-
  Chapter 14: the statement BookLookSpec holds, for every input; its card. Nothing is assumed.
-/
import Derived.Test.YtmlhghddfobmmaaGreatDoorLawBA
import Derived.Test.YtmlhghddfobmmaaGreatDoorOpenK
import Derived.Test.YtmlhghddfobmmaaGreatDoorCards
import Derived.Test.YtmlhghddfobmmaaGreatDoorTie
import Derived.SevenTiedAt
namespace Go.Proofs.YtmlhghddfobmmaaGreatDoor
set_option linter.unusedSimpArgs false
set_option linter.unusedVariables false
open Go Go.Ab
open Go.ChangeShapes Go.WideShapes Go.ChangeAt Go.RowKit
set_option maxRecDepth 100000
theorem bookLookSpec_lifted (os : Os) (started : os.Started) (H : Type) (enc : TypeId × Value → H) :
    ReturnsInHanded {} Tryz.checked os 7 .any (fun w args => (Rows.bookLookSpecSpec.pre enc Tryz.prog Tryz.f7 [] false w args ∧ laidMetH Tryz.prog laidK w) ∧ sizedMet enc Tryz.prog Tryz.f7 (OpenSpec.ofChange Rows.bookLookSpecSpec) false w args)
      (Rows.bookLookSpecSpec.post enc Tryz.prog Tryz.f7 false true false false) := by
  refine returnsInHanded_of_change_and (C := Tryz.checked) (X := fun w _ => laidMetH Tryz.prog laidK w) (fun _ _ _ hh h => h.of_heap hh) own started (by kernel_rfl) Tryz.func7
    (ChangeSpec.witness_shaped (enc := enc) (C := Tryz.checked) (os := os) (X := fun w _ => laidMetH Tryz.prog laidK w) false (World.doorLaid Tryz.prog 23 os) #[.agg #[.slice none 0 0, .slice none 0 0, .slice none 0 0, .slice none 0 0], .int .i64 0, .int .i64 0, .int .i64 0] 8 rfl (World.shaped_of_RefB (by kernel_rfl) (by kernel_rfl)) (by kernel_rfl) (by kernel_rfl) (by kernel_rfl) (door_met os _)) ?_
  intro W base args ds gs before hval0 hW _ _ hL _
  have hval : ∀ (j : Nat) t v, Tryz.f7.params[j]? = some t → args[j]? = some v → Value.okWide Tryz.prog W .any base t v := hval0
  have hW' := hW
  obtain ⟨p, q, hA0, hV, rfl, hfz, hnd⟩ := hW
  have hA : DataW.TrodAll enc Tryz.prog W 0 (fun _ => true) true Tryz.f7.params.toList args.toList ds p := hA0
  rw [Tryz.params7] at hA hval
  obtain ⟨v0, v1, v2, v3, d0, d1, d2, d3, p0, p1, p2, p3, rfl, rfl, rfl, h0, h1, h2, h3⟩ := trodN_4 hA
  obtain ⟨rfl, rfl⟩ := trodVars_none hV
  obtain ⟨x0, o0, r0⟩ := open_wor (hval 0 _ v0 rfl rfl) h0
  obtain ⟨x1, o1, r1⟩ := open_i (hval 1 _ v1 rfl rfl) h1
  obtain ⟨x2, o2, r2⟩ := open_i (hval 2 _ v2 rfl rfl) h2
  obtain ⟨x3, o3, r3⟩ := open_i (hval 3 _ v3 rfl rfl) h3
  exact law_post laidOut (by rw [Tryz.params7]; intro t ht; simp at ht; rcases ht with rfl | rfl | rfl | rfl <;> exact ⟨by kernel_rfl, of_decide_eq_true (by kernel_rfl)⟩) (by kernel_rfl) Tryz.underlying4 rfl rfl hW' (gok_of hL) _ (lookSpec_ok x0 o0 x1 x2 x3) rfl (argsN_4 r0 r1 r2 r3)
theorem bookLookSpec_facts : joinedFacts Tryz.prog 7 Tryz.f7 Rows.bookLookSpecSpec Rows.bookLookSpecRow = true := by kernel_rfl
theorem bookLookSpec_named : Tryz.prog.funcNamed Rows.bookLookSpecRow.func = some 7 := by kernel_rfl
theorem bookLookSpec_inst : Tryz.f7.isInstance Tryz.prog Rows.bookLookSpecRow.origin Rows.bookLookSpecRow.targs := of_decide_eq_true (by kernel_rfl)
theorem bookLookSpec_wrap : Tryz.f7.isWrapper Tryz.prog Rows.bookLookSpecRow.wrapper Rows.bookLookSpecRow.mainSum := by unfold Func.isWrapper; rw [if_neg (of_decide_eq_false (by kernel_rfl))]; exact ⟨rfl, rfl⟩
theorem bookLookSpec_row : Rows.BookLookSpecSaid :=
  OpenClaim.holds_of_wide 7 Tryz.f7 rfl rfl rfl rfl rfl rfl rfl ⟨rfl, rfl, rfl, rfl, rfl⟩ rfl rfl rfl rfl rfl bookLookSpec_named Tryz.func7 bookLookSpec_facts
    bookLookSpec_inst bookLookSpec_wrap
    (fun os started H enc _ => bookLookSpec_lifted os started H enc)
theorem bookLookSpec_holds : Rows.BookLookSpecCardSaid :=
  Claim7.holds_tied_plain_at .later [] [.funcs] true (true, "820569908eeee29bfb57ab197e6c4e42187f44ca2804ec639368d76df583f164") true
    bookLookSpec_row (fun _ h => by cases h) (by kernel_rfl) (fun _ h => by cases h) bookLookSpec_row_tie rfl ⟨rfl, rfl⟩ (by kernel_rfl) rfl
    (fun f fn hf hfn => by
      obtain rfl : f = 7 := Option.some.inj ((show Tryz.prog.funcNamed "sizar/sizarlaw14.BookLookSpec" = some 7 by kernel_rfl).symm.trans hf) |>.symm
      obtain rfl : fn = Tryz.f7 := (Option.some.inj (Tryz.func7.symm.trans hfn)).symm
      exact ⟨by kernel_rfl, fun j t ht => by
        rw [Tryz.params7] at ht
        have hm : t ∈ [51, 3, 3, 3] := by simpa using Array.mem_of_getElem? ht
        have hall : ([51, 3, 3, 3].all fun u => !Tryz.prog.wantsStandIn u) = true := by kernel_rfl
        exact (show Tryz.prog.wantsStandIn t = false by simpa using List.all_eq_true.1 hall t hm)⟩)
    (by kernel_rfl)
#print axioms bookLookSpec_holds
end Go.Proofs.YtmlhghddfobmmaaGreatDoor
