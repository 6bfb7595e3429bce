/-
  Chapter 30: the statement SwapsMore holds, for every input. Nothing is assumed.
-/
import Derived.Test.YtnhadilbebgbjaaSwapX
import Derived.Test.YtnhadilbebgbjaaSwapZG
import Derived.Test.YtnhadilbebgbjaaOpenD
import Derived.Test.YtnhadilbebgbjaaRows
namespace Go.Proofs.Ytnhadilbebgbjaa
set_option linter.unusedSimpArgs false
set_option linter.unusedVariables false
open Go Go.Ab
open Go.ChangeShapes Go.WideShapes Go.ChangeAt Go.RowKit
set_option maxRecDepth 100000
theorem swapsMore_lifted (os : Os) (started : os.Started) (H : Type) (enc : TypeId × Value → H) :
    ReturnsInHanded {} Try.checked os 9 .any (Rows.swapsMoreSpec.pre6 enc Try.prog Try.f9 Rows.swapsMoreRow.domain false) (Rows.swapsMoreSpec.post enc Try.prog Try.f9 false true false false) := by
  refine returnsInHanded_of_change (C := Try.checked) own started (by kernel_rfl) Try.func9
    (ChangeSpec.witness6 (enc := enc) (C := Try.checked) false ⟨#[], #[.slice none 0 0, .agg #[.int .i64 0, .int .i64 0, .int .i64 0, .int .i64 0, .int .i64 0, .int .i64 0, .int .i64 0], .int .i64 0, .agg #[.int .i64 0, .int .i64 0]], []⟩ 8 (by kernel_rfl) (by kernel_rfl) (by kernel_rfl) (by kernel_rfl)) ?_
  intro W base args ds gs before hval0 hW hcnd _
  have hval : ∀ (j : Nat) t v, Try.f9.params[j]? = some t → args[j]? = some v → Value.okWide Try.prog W .any base t v := hval0
  have hW' := hW
  obtain ⟨p, q, hA0, hV, rfl, hfz, hnd⟩ := hW
  have hA : DataW.TrodAll enc Try.prog W 0 (fun _ => true) true Try.f9.params.toList args.toList ds p := hA0
  rw [Try.params9] at hA hval
  obtain ⟨v0, v1, v2, v3, d0, d1, d2, d3, p0, p1, p2, p3, rfl, rfl, rfl, h0, h1, h2, h3⟩ := trodAll_four hA
  obtain ⟨rfl, rfl⟩ := trodVars_none hV
  obtain ⟨x0, r0⟩ := open_swaps (hval 0 _ v0 rfl rfl) h0
  obtain ⟨x1, r1⟩ := open_swap (hval 1 _ v1 rfl rfl) h1
  obtain ⟨x2, r2⟩ := open_i64 (hval 2 _ v2 rfl rfl) h2
  obtain ⟨x3, r3⟩ := open_bun (hval 3 _ v3 rfl rfl) h3
  exact law_post laidOut (by rw [Try.params9]; intro t ht; simp at ht; rcases ht with rfl | rfl | rfl | rfl <;> exact ⟨by kernel_rfl, of_decide_eq_true (by kernel_rfl)⟩) (by kernel_rfl) Try.underlying4 rfl rfl hW' (gok _) _ (more_ok sane30_ok x0 x1 x2 x3) rfl (args4 r0 r1 r2 r3)
theorem swapsMore_holds : Rows.SwapsMoreSaid :=
  OpenClaim.holds_of_wide 9 Try.f9 rfl rfl rfl rfl rfl rfl rfl ⟨rfl, rfl, rfl, rfl, rfl⟩ rfl rfl rfl rfl rfl (by kernel_rfl) Try.func9 (by kernel_rfl)
    (of_decide_eq_true (by kernel_rfl)) (by unfold Func.isWrapper; rw [if_neg (of_decide_eq_false (by kernel_rfl))]; exact ⟨rfl, rfl⟩)
    (fun os started H enc _ => swapsMore_lifted os started H enc)
#print axioms swapsMore_holds
end Go.Proofs.Ytnhadilbebgbjaa
