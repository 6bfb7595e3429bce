/-
  Chapter 14: the statement BookAlike holds, for every input; its card. Nothing is assumed.
-/
import Derived.Test.YtmlhghddfobmmaaGreatDoorLawBB
import Derived.Test.YtmlhghddfobmmaaGreatDoorOpenK
import Derived.Test.YtmlhghddfobmmaaGreatDoorCards
import Derived.Test.YtmlhghddfobmmaaGreatDoorTie
import Derived.SevenTiedAt
namespace Go.Proofs.YtmlhghddfobmmaaGreatDoor
set_option linter.unusedSimpArgs false
set_option linter.unusedVariables false
open Go Go.Ab
open Go.ChangeShapes Go.WideShapes Go.ChangeAt Go.RowKit
set_option maxRecDepth 100000
theorem bookAlike_lifted (os : Os) (started : os.Started) (H : Type) (enc : TypeId × Value → H) :
    ReturnsInHanded {} Tryz.checked os 10 .any (fun w args => (Rows.bookAlikeSpec.pre enc Tryz.prog Tryz.f10 [] false w args ∧ laidMetH Tryz.prog laidK w) ∧ sizedMet enc Tryz.prog Tryz.f10 (OpenSpec.ofChange Rows.bookAlikeSpec) false w args)
      (Rows.bookAlikeSpec.post enc Tryz.prog Tryz.f10 false true false false) := by
  refine returnsInHanded_of_change_and (C := Tryz.checked) (X := fun w _ => laidMetH Tryz.prog laidK w) (fun _ _ _ hh h => h.of_heap hh) own started (by kernel_rfl) Tryz.func10
    (ChangeSpec.witness_shaped (enc := enc) (C := Tryz.checked) (os := os) (X := fun w _ => laidMetH Tryz.prog laidK w) false (World.doorLaid Tryz.prog 23 os) #[.agg #[.slice none 0 0, .slice none 0 0, .slice none 0 0, .slice none 0 0], .int .i64 0, .int .i64 0, .int .i64 0, .int .i64 0] 8 rfl (World.shaped_of_RefB (by kernel_rfl) (by kernel_rfl)) (by kernel_rfl) (by kernel_rfl) (by kernel_rfl) (door_met os _)) ?_
  intro W base args ds gs before hval0 hW _ _ hL _
  have hval : ∀ (j : Nat) t v, Tryz.f10.params[j]? = some t → args[j]? = some v → Value.okWide Tryz.prog W .any base t v := hval0
  have hW' := hW
  obtain ⟨p, q, hA0, hV, rfl, hfz, hnd⟩ := hW
  have hA : DataW.TrodAll enc Tryz.prog W 0 (fun _ => true) true Tryz.f10.params.toList args.toList ds p := hA0
  rw [Tryz.params10] at hA hval
  obtain ⟨v0, v1, v2, v3, v4, d0, d1, d2, d3, d4, p0, p1, p2, p3, p4, rfl, rfl, rfl, h0, h1, h2, h3, h4⟩ := trodN_5 hA
  obtain ⟨rfl, rfl⟩ := trodVars_none hV
  obtain ⟨x0, o0, r0⟩ := open_wor (hval 0 _ v0 rfl rfl) h0
  obtain ⟨x1, o1, r1⟩ := open_i (hval 1 _ v1 rfl rfl) h1
  obtain ⟨x2, o2, r2⟩ := open_i (hval 2 _ v2 rfl rfl) h2
  obtain ⟨x3, o3, r3⟩ := open_i (hval 3 _ v3 rfl rfl) h3
  obtain ⟨x4, o4, r4⟩ := open_i (hval 4 _ v4 rfl rfl) h4
  exact law_post laidOut (by rw [Tryz.params10]; intro t ht; simp at ht; rcases ht with rfl | rfl | rfl | rfl | rfl <;> exact ⟨by kernel_rfl, of_decide_eq_true (by kernel_rfl)⟩) (by kernel_rfl) Tryz.underlying4 rfl rfl hW' (gok_of hL) _ (bookAlike_ok x0 o0 x1 x2 x3 x4) rfl (argsN_5 r0 r1 r2 r3 r4)
theorem bookAlike_facts : joinedFacts Tryz.prog 10 Tryz.f10 Rows.bookAlikeSpec Rows.bookAlikeRow = true := by kernel_rfl
theorem bookAlike_named : Tryz.prog.funcNamed Rows.bookAlikeRow.func = some 10 := by kernel_rfl
theorem bookAlike_inst : Tryz.f10.isInstance Tryz.prog Rows.bookAlikeRow.origin Rows.bookAlikeRow.targs := of_decide_eq_true (by kernel_rfl)
theorem bookAlike_wrap : Tryz.f10.isWrapper Tryz.prog Rows.bookAlikeRow.wrapper Rows.bookAlikeRow.mainSum := by unfold Func.isWrapper; rw [if_neg (of_decide_eq_false (by kernel_rfl))]; exact ⟨rfl, rfl⟩
theorem bookAlike_row : Rows.BookAlikeSaid :=
  OpenClaim.holds_of_wide 10 Tryz.f10 rfl rfl rfl rfl rfl rfl rfl ⟨rfl, rfl, rfl, rfl, rfl⟩ rfl rfl rfl rfl rfl bookAlike_named Tryz.func10 bookAlike_facts
    bookAlike_inst bookAlike_wrap
    (fun os started H enc _ => bookAlike_lifted os started H enc)
theorem bookAlike_holds : Rows.BookAlikeCardSaid :=
  Claim7.holds_tied_plain_at .later [] [.funcs] true (true, "820569908eeee29bfb57ab197e6c4e42187f44ca2804ec639368d76df583f164") true
    bookAlike_row (fun _ h => by cases h) (by kernel_rfl) (fun _ h => by cases h) bookAlike_row_tie rfl ⟨rfl, rfl⟩ (by kernel_rfl) rfl
    (fun f fn hf hfn => by
      obtain rfl : f = 10 := Option.some.inj ((show Tryz.prog.funcNamed "sizar/sizarlaw14.BookAlike" = some 10 by kernel_rfl).symm.trans hf) |>.symm
      obtain rfl : fn = Tryz.f10 := (Option.some.inj (Tryz.func10.symm.trans hfn)).symm
      exact ⟨by kernel_rfl, fun j t ht => by
        rw [Tryz.params10] at ht
        have hm : t ∈ [51, 3, 3, 3, 3] := by simpa using Array.mem_of_getElem? ht
        have hall : ([51, 3, 3, 3, 3].all fun u => !Tryz.prog.wantsStandIn u) = true := by kernel_rfl
        exact (show Tryz.prog.wantsStandIn t = false by simpa using List.all_eq_true.1 hall t hm)⟩)
    (by kernel_rfl)
#print axioms bookAlike_holds
end Go.Proofs.YtmlhghddfobmmaaGreatDoor
