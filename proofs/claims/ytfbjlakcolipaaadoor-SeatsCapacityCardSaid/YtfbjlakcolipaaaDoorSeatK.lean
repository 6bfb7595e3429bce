/-
  Seats: slices.BinarySearchFunc.
-/
import Derived.Test.YtfbjlakcolipaaaDoorSeatJ
namespace Go.Proofs.YtfbjlakcolipaaaDoor
set_option linter.unusedSimpArgs false
set_option linter.unusedVariables false
open Go Go.Ab
set_option maxRecDepth 100000
set_option maxHeartbeats 0
theorem bsearch_ok (xs : List Seat) (hx : xs.length ≤ 1000) (t : Seat) (pos : Nat) (hp : pos ≤ xs.length) (h1 : ∀ j, j < pos → seatC (xs.getD j default) t < 0) (h2 : ∀ j, pos ≤ j → j < xs.length → 0 ≤ seatC (xs.getD j default) t) :
    Pure Tryd.prog 32 [eSeats xs, .agg (eSeat t), .fn (.func 23) [] []] [.int .i64 pos, .bool (decide (pos < xs.length) && decide (seatC (xs.getD pos default) t = 0))] := by
  refine pure_rule hT (T := tab) (N := 49) (rs := [.tmp 6, .tmp 7]) Tryd.func32 rfl rfl rfl (by kernel_rfl) rfl ?_
  repeat' (first | with_reducible refine Sq.go ?_ | ((with_reducible refine Ev.mk ?_); conv => whnf) | with_reducible refine Dr.mk ⟨by kernel_rfl, by kernel_rfl⟩ ?_ | with_reducible refine obG ?_ | with_reducible refine Ob.mk ?_ ?_ | (with_reducible first | refine brT fun h => ?_ | refine brF fun h => ?_ | refine Br.mk (fun h => ?_) fun h => ?_) <;> (try simp only [bsl, beq_iff_eq, bne_iff_ne, bs2] at h) <;> (try contradiction) <;> try (exfalso; omega))
  refine loop_rule hT (S := Nat × Nat) (fun z => ([(0, .d (eSeats xs)), (2, .d (.fn (.func 23) [] [])), (4, .ptr (.loc 0) 0 0 0), (8, .d (.int .i64 xs.length)), (9, .d (.int .i64 z.1)), (10, .d (.int .i64 z.2))], ⟨[some (.box 40 (up (eSeat t)))], []⟩)) (fun z => z.1 ≤ pos ∧ pos ≤ z.2 ∧ z.2 ≤ xs.length) (fun z => z.2 - z.1) (0, xs.length) ?_ ?_ ?_
  · repeat' (first | exact True.intro | exact rfl | exact Nat.le_refl _ | refine And.intro ?_ ?_)
  · exact ⟨Nat.zero_le _, hp, Nat.le_refl _⟩
  · rintro ⟨i, j⟩ ⟨hi, hj, hn⟩
    dsimp only at hi hj hn ⊢
    by_cases hij : i < j
    · have hw : In .u64 ((i : Int) + j) := by
        show _ ∧ _
        constructor <;> simp [IntKind.min, IntKind.max, IntKind.bits, IntKind.signed] <;> omega
      obtain ⟨c, hh⟩ : ∃ c : Nat, (i + j) / 2 = c := ⟨_, rfl⟩
      have hhi : i ≤ c ∧ c < j := by omega
      have he : Int.fdiv ((i : Int) + j) (2 ^ min (1 : Int).toNat IntKind.u64.bits) = (c : Int) := by
        show Int.fdiv ((i : Int) + j) 2 = c
        rw [Int.fdiv_eq_ediv_of_nonneg _ (by decide)]
        omega
      have hi64 : In .i64 (c : Int) := in64.2 (by omega)
      have hcmp := compare_ok (xs.getD c default) t
      repeat' (first | with_reducible refine Sq.go ?_ | ((with_reducible refine Ev.mk ?_); conv => whnf) | with_reducible refine Dr.mk ⟨by kernel_rfl, by kernel_rfl⟩ ?_ | with_reducible refine obG ?_ | with_reducible refine Ob.mk ?_ ?_ | (with_reducible first | refine brT fun h => ?_ | refine brF fun h => ?_ | refine Br.mk (fun h => ?_) fun h => ?_) <;> (try simp only [bsl, beq_iff_eq, bne_iff_ne, bs2] at h) <;> (try contradiction) <;> try (exfalso; omega))
      refine op_shr rfl rfl rfl (by decide) ?_
      rw [he]
      repeat' (first | with_reducible refine Sq.go ?_ | ((with_reducible refine Ev.mk ?_); conv => whnf) | with_reducible refine Dr.mk ⟨by kernel_rfl, by kernel_rfl⟩ ?_ | with_reducible refine obG ?_ | with_reducible refine Ob.mk ?_ ?_ | (with_reducible first | refine brT fun h => ?_ | refine brF fun h => ?_ | refine Br.mk (fun h => ?_) fun h => ?_) <;> (try simp only [bsl, beq_iff_eq, bne_iff_ne, bs2] at h) <;> (try contradiction) <;> try (exfalso; omega))
      refine qC hcmp ?_
      by_cases hneg : seatC (xs.getD c default) t < 0
      · have hlt : c < pos := by
          by_cases h3 : c < pos
          · exact h3
          · have := h2 c (by omega) (by omega)
            omega
        repeat' (first | with_reducible refine Sq.go ?_ | ((with_reducible refine Ev.mk ?_); conv => whnf) | with_reducible refine Dr.mk ⟨by kernel_rfl, by kernel_rfl⟩ ?_ | with_reducible refine obG ?_ | with_reducible refine Ob.mk ?_ ?_ | (with_reducible first | refine brT fun h => ?_ | refine brF fun h => ?_ | refine Br.mk (fun h => ?_) fun h => ?_) <;> (try simp only [bsl, beq_iff_eq, bne_iff_ne, bs2] at h) <;> (try contradiction) <;> try (exfalso; omega))
        refine ⟨(c + 1, j), ⟨by show c + 1 ≤ pos; omega, hj, hn⟩, by show j - (c + 1) < j - i; omega, ?_⟩
        repeat' (first | exact True.intro | exact rfl | exact Nat.le_refl _ | refine And.intro ?_ ?_)
      · have hge : pos ≤ c := by
          by_cases h3 : c < pos
          · exact absurd (h1 c h3) hneg
          · omega
        repeat' (first | with_reducible refine Sq.go ?_ | ((with_reducible refine Ev.mk ?_); conv => whnf) | with_reducible refine Dr.mk ⟨by kernel_rfl, by kernel_rfl⟩ ?_ | with_reducible refine obG ?_ | with_reducible refine Ob.mk ?_ ?_ | (with_reducible first | refine brT fun h => ?_ | refine brF fun h => ?_ | refine Br.mk (fun h => ?_) fun h => ?_) <;> (try simp only [bsl, beq_iff_eq, bne_iff_ne, bs2] at h) <;> (try contradiction) <;> try (exfalso; omega))
        refine ⟨(i, c), ⟨hi, hge, by show c ≤ xs.length; omega⟩, by show c - i < j - i; omega, ?_⟩
        repeat' (first | exact True.intro | exact rfl | exact Nat.le_refl _ | refine And.intro ?_ ?_)
    · have hip : i = pos := by omega
      subst hip
      by_cases hlast : i < xs.length
      · have hcmp := compare_ok (xs.getD i default) t
        repeat' (first | with_reducible refine Sq.go ?_ | ((with_reducible refine Ev.mk ?_); conv => whnf) | with_reducible refine Dr.mk ⟨by kernel_rfl, by kernel_rfl⟩ ?_ | with_reducible refine obG ?_ | with_reducible refine Ob.mk ?_ ?_ | (with_reducible first | refine brT fun h => ?_ | refine brF fun h => ?_ | refine Br.mk (fun h => ?_) fun h => ?_) <;> (try simp only [bsl, beq_iff_eq, bne_iff_ne, bs2] at h) <;> (try contradiction) <;> try (exfalso; omega))
        refine qC hcmp ?_
        repeat' (first | with_reducible refine Sq.go ?_ | ((with_reducible refine Ev.mk ?_); conv => whnf) | with_reducible refine Dr.mk ⟨by kernel_rfl, by kernel_rfl⟩ ?_ | with_reducible refine obG ?_ | with_reducible refine Ob.mk ?_ ?_ | (with_reducible first | refine brT fun h => ?_ | refine brF fun h => ?_ | refine Br.mk (fun h => ?_) fun h => ?_) <;> (try simp only [bsl, beq_iff_eq, bne_iff_ne, bs2] at h) <;> (try contradiction) <;> try (exfalso; omega))
        refine ⟨rfl, ?_⟩
        refine ⟨congrArg D.bool ?_, True.intro⟩
        rw [decide_eq_true hlast, decide_eq_true (show (i : Int) < xs.length by omega)]
        rfl
      · rw [decide_eq_false hlast, Bool.false_and]
        repeat' (first | with_reducible refine Sq.go ?_ | ((with_reducible refine Ev.mk ?_); conv => whnf) | with_reducible refine Dr.mk ⟨by kernel_rfl, by kernel_rfl⟩ ?_ | with_reducible refine obG ?_ | with_reducible refine Ob.mk ?_ ?_ | (with_reducible first | refine brT fun h => ?_ | refine brF fun h => ?_ | refine Br.mk (fun h => ?_) fun h => ?_) <;> (try simp only [bsl, beq_iff_eq, bne_iff_ne, bs2] at h) <;> (try contradiction) <;> try (exfalso; omega))
        refine ⟨rfl, ?_⟩
        refine ⟨congrArg D.bool ?_, True.intro⟩
        cases decide ((i : Int) < xs.length) <;> rfl
end Go.Proofs.YtfbjlakcolipaaaDoor
