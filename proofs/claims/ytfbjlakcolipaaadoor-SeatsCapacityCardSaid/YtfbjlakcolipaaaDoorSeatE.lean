/-
  Seats: slices.Max, Check.
-/
import Derived.Test.YtfbjlakcolipaaaDoorSeatD
import Derived.Test.YtfbjlakcolipaaaDoorOpsB
namespace Go.Proofs.YtfbjlakcolipaaaDoor
set_option linter.unusedSimpArgs false
set_option linter.unusedVariables false
open Go Go.Ab
set_option maxRecDepth 100000
set_option maxHeartbeats 0
def maxL : List Int → Int
  | [] => 0
  | x :: r => r.foldl max x
theorem maxI_ok (xs : List Int) (h0 : 0 < xs.length) (hx : xs.length ≤ 1000000) : Pure Tryd.prog 25 [eInts xs] [.int .i64 (maxL xs)] := by
  refine pure_rule hT (T := tab) (N := 25) (rs := [.tmp 2]) Tryd.func25 rfl rfl rfl (by kernel_rfl) rfl ?_
  obtain ⟨x, r, rfl⟩ : ∃ x r, xs = x :: r := by
    cases xs with
    | nil => simp at h0
    | cons x r => exact ⟨x, r, rfl⟩
  rw [List.length_cons] at hx
  have hl : ((x :: r).length : Int) = r.length + 1 := by rw [List.length_cons]; omega
  repeat' (first | with_reducible refine Sq.go ?_ | ((with_reducible refine Ev.mk ?_); conv => whnf) | with_reducible refine Dr.mk ⟨by kernel_rfl, by kernel_rfl⟩ ?_ | with_reducible refine obG ?_ | with_reducible refine Ob.mk ?_ ?_ | (with_reducible first | refine brT fun h => ?_ | refine brF fun h => ?_ | refine Br.mk (fun h => ?_) fun h => ?_) <;> (try simp only [bsl, beq_iff_eq, bne_iff_ne, bs2] at h) <;> (try contradiction) <;> try (exfalso; omega))
  refine loop_rule hT (S := Nat × Int) (fun z => ([(0, .d (eInts (x :: r))), (3, .d (.int .i64 z.2)), (4, .d (.int .i64 ((z.1 : Int) + 1)))], ⟨[], []⟩)) (fun z => z.1 ≤ r.length ∧ maxL (x :: r) = (r.drop z.1).foldl max z.2) (fun z => r.length - z.1) (0, x) ?_ ?_ ?_
  · repeat' (first | exact True.intro | exact rfl | exact Nat.le_refl _ | refine And.intro ?_ ?_)
  · exact ⟨Nat.zero_le _, rfl⟩
  · rintro ⟨k, c⟩ ⟨hk, hc⟩
    dsimp only at hk hc
    by_cases hk2 : k < r.length
    · rw [drop_at hk2, List.foldl_cons] at hc
      repeat' (first | with_reducible refine Sq.go ?_ | ((with_reducible refine Ev.mk ?_); conv => whnf) | with_reducible refine Dr.mk ⟨by kernel_rfl, by kernel_rfl⟩ ?_ | with_reducible refine obG ?_ | with_reducible refine Ob.mk ?_ ?_ | (with_reducible first | refine brT fun h => ?_ | refine brF fun h => ?_ | refine Br.mk (fun h => ?_) fun h => ?_) <;> (try simp only [bsl, beq_iff_eq, bne_iff_ne, bs2] at h) <;> (try contradiction) <;> try (exfalso; omega))
      refine ⟨(k + 1, max c (r.getD k default)), ⟨by show k + 1 ≤ r.length; omega, hc⟩, by show r.length - (k + 1) < r.length - k; omega, ?_⟩
      repeat' (first | exact True.intro | exact rfl | exact Nat.le_refl _ | refine And.intro ?_ ?_)
      all_goals done
    · rw [drop_end (by omega), List.foldl_nil] at hc
      rw [hc]
      repeat' (first | with_reducible refine Sq.go ?_ | ((with_reducible refine Ev.mk ?_); conv => whnf) | with_reducible refine Dr.mk ⟨by kernel_rfl, by kernel_rfl⟩ ?_ | with_reducible refine obG ?_ | with_reducible refine Ob.mk ?_ ?_ | (with_reducible first | refine brT fun h => ?_ | refine brF fun h => ?_ | refine Br.mk (fun h => ?_) fun h => ?_) <;> (try simp only [bsl, beq_iff_eq, bne_iff_ne, bs2] at h) <;> (try contradiction) <;> try (exfalso; omega))
      exact ⟨rfl, True.intro⟩
end Go.Proofs.YtfbjlakcolipaaaDoor
