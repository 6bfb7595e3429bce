/-
  Swaps: the reference's Drop.
-/
import Derived.Test.YtnhadilbebgbjaaSwapC
namespace Go.Proofs.Ytnhadilbebgbjaa
set_option linter.unusedSimpArgs false
set_option linter.unusedVariables false
open Go Go.Ab
set_option maxRecDepth 100000
set_option maxHeartbeats 0
def offW (st : Int) (b : Bun) (s : Swap) : Bool := decide (s.student = st) && (decide (s.give.sec = b.sec) && decide (s.give.lab = b.lab))
def dropW (st : Int) (b : Bun) (l : List Swap) : List Swap := l.filter fun s => !offW st b s
theorem dropW_snoc (st : Int) (b : Bun) (q : List Swap) (x : Swap) : dropW st b (q ++ [x]) = if offW st b x = true then dropW st b q else dropW st b q ++ [x] := by
  unfold dropW
  rw [List.filter_append]
  by_cases h : offW st b x = true <;> simp [h]
theorem dropW_len (st : Int) (b : Bun) (q : List Swap) : (dropW st b q).length ≤ q.length := List.length_filter_le _ _
def rowsW (xs : List Swap) : Nat → List AV := fun i => up (eSwap (xs.getD i default))
theorem rdrop30_ok (l : List Swap) (hl : l.length ≤ 1000) (st : Int) (b : Bun) : Pure Try.prog 18 [eSwaps l, .int .i64 st, .agg (eBun b)] [eSwaps (dropW st b l)] := by
  refine pure_rule hT (T := tab) (N := 40) (rs := [.tmp 6]) Try.func18 rfl rfl rfl (by kernel_rfl) rfl ?_
  repeat' (first | with_reducible refine Sq.go ?_ | ((with_reducible refine Ev.mk ?_); conv => whnf) | with_reducible refine Dr.mk ⟨by kernel_rfl, by kernel_rfl⟩ ?_ | with_reducible refine obG ?_ | with_reducible refine Ob.mk ?_ ?_ | (with_reducible first | refine brT fun h => ?_ | refine brF fun h => ?_ | refine Br.mk (fun h => ?_) fun h => ?_) <;> (try simp only [bsl, beq_iff_eq, bne_iff_ne, bs2] at h) <;> (try contradiction) <;> try (exfalso; omega))
  refine loop_rule hT (S := Nat) (fun k => ([(0, .d (eSwaps l)), (1, .d (.int .i64 st)), (5, .ptr (.loc 0) 0 0 0), (7, .osl (.loc 1) (dropW st b (l.take k)).length 0 (dropW st b (l.take k)).length), (8, .d (.int .i64 k))],
    ⟨[some (.box 24 (up (eBun b))), some (.vec 26 7 (dropW st b (l.take k)).length (dropW st b (l.take k)).length (rowsW (dropW st b (l.take k))))], []⟩)) (fun k => k ≤ l.length) (fun k => l.length - k) 0 ?_ ?_ ?_
  · repeat' (first | exact True.intro | exact rfl | exact Nat.le_refl _ | refine And.intro ?_ ?_)
    all_goals (intro i hi; exact absurd hi (Nat.not_lt_zero _))
  · exact Nat.zero_le _
  · intro k hk
    have hkl := dropW_len st b (l.take k)
    have htl : (l.take k).length ≤ k := by rw [List.length_take]; omega
    by_cases hk2 : k < l.length
    · have hks := dropW_snoc st b (l.take k) (l.getD k default)
      rw [← take_succ_at hk2] at hks
      obtain ⟨R, hR⟩ : ∃ R, dropW st b (l.take k) = R := ⟨_, rfl⟩
      rw [hR] at hks hkl ⊢
      by_cases hp : offW st b (l.getD k default) = true
      · rw [if_pos hp] at hks
        have hp2 := hp
        simp only [offW, Bool.and_eq_true, decide_eq_true_eq] at hp2
        repeat' (first | with_reducible refine Sq.go ?_ | ((with_reducible refine Ev.mk ?_); conv => whnf) | with_reducible refine Dr.mk ⟨by kernel_rfl, by kernel_rfl⟩ ?_ | with_reducible refine obG ?_ | with_reducible refine Ob.mk ?_ ?_ | (with_reducible first | refine brT fun h => ?_ | refine brF fun h => ?_ | refine Br.mk (fun h => ?_) fun h => ?_) <;> (try simp only [bsl, beq_iff_eq, bne_iff_ne, bs2] at h) <;> (try contradiction) <;> try (exfalso; omega))
        all_goals
          refine ⟨k + 1, by show k + 1 ≤ l.length; omega, by show l.length - (k + 1) < l.length - k; omega, ?_⟩
          dsimp only
          rw [hks]
          repeat' (first | exact True.intro | exact rfl | exact Nat.le_refl _ | refine And.intro ?_ ?_)
        all_goals (intro i hi; exact ⟨rfl, rfl⟩)
      · rw [if_neg hp] at hks
        have hp2 := hp
        simp only [offW, Bool.and_eq_true, decide_eq_true_eq] at hp2
        have hyl := len_snoc R (l.getD k default)
        repeat' (first | with_reducible refine Sq.go ?_ | ((with_reducible refine Ev.mk ?_); conv => whnf) | with_reducible refine Dr.mk ⟨by kernel_rfl, by kernel_rfl⟩ ?_ | with_reducible refine obG ?_ | with_reducible refine Ob.mk ?_ ?_ | (with_reducible first | refine brT fun h => ?_ | refine brF fun h => ?_ | refine Br.mk (fun h => ?_) fun h => ?_) <;> (try simp only [bsl, beq_iff_eq, bne_iff_ne, bs2] at h) <;> (try contradiction) <;> try (exfalso; omega))
        all_goals
          refine ⟨k + 1, by show k + 1 ≤ l.length; omega, by show l.length - (k + 1) < l.length - k; omega, ?_⟩
          dsimp only
          rw [hks, hyl]
          repeat' (first | exact True.intro | exact rfl | exact Nat.le_refl _ | refine And.intro ?_ ?_)
        all_goals first
          | (intro i hi; rw [← hyl] at hi; exact ⟨join_snoc eSwap _ _ _ rfl i hi, rfl⟩)
          | (intro i hi; exact ⟨rfl, rfl⟩)
    · rw [List.take_of_length_le (by omega)]
      repeat' (first | with_reducible refine Sq.go ?_ | ((with_reducible refine Ev.mk ?_); conv => whnf) | with_reducible refine Dr.mk ⟨by kernel_rfl, by kernel_rfl⟩ ?_ | with_reducible refine obG ?_ | with_reducible refine Ob.mk ?_ ?_ | (with_reducible first | refine brT fun h => ?_ | refine brF fun h => ?_ | refine Br.mk (fun h => ?_) fun h => ?_) <;> (try simp only [bsl, beq_iff_eq, bne_iff_ne, bs2] at h) <;> (try contradiction) <;> try (exfalso; omega))
      exact ⟨⟨rfl, rfl, by rw [Nat.zero_add]; exact Nat.le_refl _, rfl, fun i hi => by rw [Nat.zero_add]; rfl⟩, True.intro⟩
end Go.Proofs.Ytnhadilbebgbjaa
