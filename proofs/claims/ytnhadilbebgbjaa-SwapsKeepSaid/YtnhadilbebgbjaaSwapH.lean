/-
  Swaps: Drop.
-/
import Derived.Test.YtnhadilbebgbjaaSwapG
namespace Go.Proofs.Ytnhadilbebgbjaa
set_option linter.unusedSimpArgs false
set_option linter.unusedVariables false
open Go Go.Ab
set_option maxRecDepth 100000
set_option maxHeartbeats 0
theorem drop30_ok (l : List Swap) (hl : l.length ≤ 1000) (st : Int) (b : Bun) : Pure Try.prog 17 [eSwaps l, .int .i64 st, .agg (eBun b)] [eSwaps (dropW st b l)] := by
  refine pure_rule hT (T := tab) (N := 11) (rs := [.tmp 6]) Try.func17 rfl rfl rfl (by kernel_rfl) rfl ?_
  repeat' (first | with_reducible refine Sq.go ?_ | ((with_reducible refine Ev.mk ?_); conv => whnf) | with_reducible refine Dr.mk ⟨by kernel_rfl, by kernel_rfl⟩ ?_ | with_reducible refine obG ?_ | with_reducible refine Ob.mk ?_ ?_ | (with_reducible first | refine brT fun h => ?_ | refine brF fun h => ?_ | refine Br.mk (fun h => ?_) fun h => ?_) <;> (try simp only [bsl, beq_iff_eq, bne_iff_ne, bs2] at h) <;> (try contradiction) <;> try (exfalso; omega))
  refine (clone_ok l hl).at [] rfl True.intro (fun g _ => ⟨rfl, ?_⟩)
  repeat' (first | with_reducible refine Sq.go ?_ | ((with_reducible refine Ev.mk ?_); conv => whnf) | with_reducible refine Dr.mk ⟨by kernel_rfl, by kernel_rfl⟩ ?_ | with_reducible refine obG ?_ | with_reducible refine Ob.mk ?_ ?_ | (with_reducible first | refine brT fun h => ?_ | refine brF fun h => ?_ | refine Br.mk (fun h => ?_) fun h => ?_) <;> (try simp only [bsl, beq_iff_eq, bne_iff_ne, bs2] at h) <;> (try contradiction) <;> try (exfalso; omega))
  refine (delete_ok st b l hl g).at [.loc 2, .loc 0, .loc 1] rfl ⟨rfl, rfl, rfl, True.intro⟩ (fun _ _ => ⟨rfl, ?_⟩)
  repeat' (first | with_reducible refine Sq.go ?_ | ((with_reducible refine Ev.mk ?_); conv => whnf) | with_reducible refine Dr.mk ⟨by kernel_rfl, by kernel_rfl⟩ ?_ | with_reducible refine obG ?_ | with_reducible refine Ob.mk ?_ ?_ | (with_reducible first | refine brT fun h => ?_ | refine brF fun h => ?_ | refine Br.mk (fun h => ?_) fun h => ?_) <;> (try simp only [bsl, beq_iff_eq, bne_iff_ne, bs2] at h) <;> (try contradiction) <;> try (exfalso; omega))
  exact ⟨⟨rfl, rfl, by rw [Nat.zero_add]; exact Nat.le_refl _, rfl, fun i hi => by rw [Nat.zero_add]; rfl⟩, True.intro⟩
end Go.Proofs.Ytnhadilbebgbjaa
