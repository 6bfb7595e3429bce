/-
  Chapter 30: the statement SwapsKeep holds, for every input. Nothing is assumed.
-/
import Derived.Test.YtnhadilbebgbjaaSwapX
import Derived.Test.YtnhadilbebgbjaaSwapZN
import Derived.Test.YtnhadilbebgbjaaOpenD
import Derived.Test.YtnhadilbebgbjaaRows
namespace Go.Proofs.Ytnhadilbebgbjaa
set_option linter.unusedSimpArgs false
set_option linter.unusedVariables false
open Go Go.Ab
open Go.ChangeShapes Go.WideShapes Go.ChangeAt Go.RowKit
set_option maxRecDepth 100000
theorem swapsKeep_lifted (os : Os) (started : os.Started) (H : Type) (enc : TypeId × Value → H) :
    ReturnsInHanded {} Try.checked os 7 .any (Rows.swapsKeepSpec.pre6 enc Try.prog Try.f7 Rows.swapsKeepRow.domain false) (Rows.swapsKeepSpec.post enc Try.prog Try.f7 false true false false) := by
  refine returnsInHanded_of_change (C := Try.checked) own started (by kernel_rfl) Try.func7
    (ChangeSpec.witness6 (enc := enc) (C := Try.checked) false ⟨#[], #[.slice none 0 0, .slice none 0 0, .slice none 0 0], []⟩ 8 (by kernel_rfl) (by kernel_rfl) (by kernel_rfl) (by kernel_rfl)) ?_
  intro W base args ds gs before hval0 hW hcnd _
  have hval : ∀ (j : Nat) t v, Try.f7.params[j]? = some t → args[j]? = some v → Value.okWide Try.prog W .any base t v := hval0
  have hW' := hW
  obtain ⟨p, q, hA0, hV, rfl, hfz, hnd⟩ := hW
  have hA : DataW.TrodAll enc Try.prog W 0 (fun _ => true) true Try.f7.params.toList args.toList ds p := hA0
  rw [Try.params7] at hA hval
  obtain ⟨v0, v1, v2, d0, d1, d2, p0, p1, p2, rfl, rfl, rfl, h0, h1, h2⟩ := trodAll_three hA
  obtain ⟨rfl, rfl⟩ := trodVars_none hV
  obtain ⟨x0, r0⟩ := open_seats (hval 0 _ v0 rfl rfl) h0
  obtain ⟨x1, r1⟩ := open_swaps (hval 1 _ v1 rfl rfl) h1
  obtain ⟨x2, r2⟩ := open_ints (hval 2 _ v2 rfl rfl) h2
  exact law_post laidOut (by rw [Try.params7]; intro t ht; simp at ht; rcases ht with rfl | rfl | rfl <;> exact ⟨by kernel_rfl, of_decide_eq_true (by kernel_rfl)⟩) (by kernel_rfl) Try.underlying4 rfl rfl hW' (gok _) _ (keep_ok sane30_ok execute_ok x0 x1 x2) rfl (args3 r0 r1 r2)
theorem swapsKeep_holds : Rows.SwapsKeepSaid :=
  OpenClaim.holds_of_wide 7 Try.f7 rfl rfl rfl rfl rfl rfl rfl ⟨rfl, rfl, rfl, rfl, rfl⟩ rfl rfl rfl rfl rfl (by kernel_rfl) Try.func7 (by kernel_rfl)
    (of_decide_eq_true (by kernel_rfl)) (by unfold Func.isWrapper; rw [if_neg (of_decide_eq_false (by kernel_rfl))]; exact ⟨rfl, rfl⟩)
    (fun os started H enc _ => swapsKeep_lifted os started H enc)
#print axioms swapsKeep_holds
end Go.Proofs.Ytnhadilbebgbjaa
