/-
  Swaps: the reference's Sorted.
-/
import Derived.Test.YtnhadilbebgbjaaSwapV
import Derived.Test.YtnhadilbebgbjaaFrz
namespace Go.Proofs.Ytnhadilbebgbjaa
set_option linter.unusedSimpArgs false
set_option linter.unusedVariables false
open Go Go.Ab
set_option maxRecDepth 100000
set_option maxHeartbeats 0
theorem insS_at (b : Seat) : ∀ (acc : List Seat) (n : Nat), n ≤ acc.length → (∀ i, i < n → ¬ seatC b (acc.getD i default) < 0) → (n < acc.length → seatC b (acc.getD n default) < 0) → insS b acc = acc.take n ++ b :: acc.drop n
  | [], n, hn, _, _ => by
    have : n = 0 := by simpa using hn
    subst this
    rfl
  | x :: r, 0, _, _, h2 => by
    have := h2 (by simp)
    rw [insS, if_pos (by simpa using this)]
    rfl
  | x :: r, n + 1, hn, h1, h2 => by
    have hx := h1 0 (by omega)
    rw [insS, if_neg (by simpa using hx), insS_at b r n (by simpa using hn) (fun i hi => by simpa using h1 (i + 1) (by omega)) (fun hlt => by simpa using h2 (by simpa using hlt))]
    rfl
theorem ins_rows {α : Type} [Inhabited α] (e : α → List D) (acc : List α) (b : α) (n : Nat) (hn : n ≤ acc.length) (g : Nat → List AV) (hg : g 0 = up (e b)) (i : Nat) (hi : i < 0 + n + 1 + (acc.length - n)) :
    joinF (0 + n + 1) (joinF (0 + n) (joinF 0 (rowFn []) fun i => up (e (acc.getD i default))) g) (fun i => up (e (acc.getD (n + i) default))) i = up (e ((acc.take n ++ b :: acc.drop n).getD i default)) := by
  have hl : (acc.take n).length = n := by rw [List.length_take]; omega
  rcases Nat.lt_or_ge i (0 + n + 1) with h1 | h1
  · rw [joinF_lt h1]
    rcases Nat.lt_or_ge i (0 + n) with h2 | h2
    · rw [joinF_lt h2, joinF_ge (Nat.zero_le _), getD_append_left (by omega)]
      congr 2
      simp only [List.getD_eq_getElem?_getD, Nat.sub_zero]
      rw [List.getElem?_take_of_lt (by omega)]
    · have : i = n := by omega
      subst this
      rw [joinF_ge h2, getD_append_right (by omega), hl]
      rw [show i - (0 + i) = 0 by omega, hg]
      simp
  · rw [joinF_ge h1, getD_append_right (by omega), hl]
    have : i - n = (i - (0 + n + 1)) + 1 := by omega
    rw [this]
    congr 2
    simp only [List.getD_eq_getElem?_getD, List.getElem?_cons_succ, List.getElem?_drop]
theorem srtB_snoc (l : List Seat) (b : Seat) : srtB (l ++ [b]) = insS b (srtB l) := by
  unfold srtB
  rw [List.foldl_append]
  rfl
theorem srtB_len (l : List Seat) : (srtB l).length = l.length := (srtB_perm l).length_eq
theorem rsorted_ok (l : List Seat) (hl : l.length ≤ 1000) : Pure Try.prog 53 [eSeats l] [eSeats (srtB l)] := by
  refine pure_rule hT (T := tab) (N := 47) (rs := [.tmp 2]) Try.func53 rfl rfl rfl (by kernel_rfl) rfl ?_
  repeat' (first | with_reducible refine Sq.go ?_ | ((with_reducible refine Ev.mk ?_); conv => whnf) | with_reducible refine Dr.mk ⟨by kernel_rfl, by kernel_rfl⟩ ?_ | with_reducible refine obG ?_ | with_reducible refine Ob.mk ?_ ?_ | (with_reducible first | refine brT fun h => ?_ | refine brF fun h => ?_ | refine Br.mk (fun h => ?_) fun h => ?_) <;> (try simp only [bsl, beq_iff_eq, bne_iff_ne, bs2] at h) <;> (try contradiction) <;> try (exfalso; omega))
  refine Awp.frz [0] 3 (eSeats []) (.rows rfl (Nat.le_refl _) (fun i hi => absurd hi (Nat.not_lt_zero i))) ?_
  refine loop_rule hT (S := Nat) (fun k => ([(0, .d (eSeats l)), (3, .d (eSeats (srtB (l.take k)))), (4, .d (.int .i64 k))], ⟨[], []⟩)) (fun k => k ≤ l.length) (fun k => l.length - k) 0 ?_ ?_ ?_
  · repeat' (first | exact True.intro | exact rfl | exact Nat.le_refl _ | refine And.intro ?_ ?_)
  · exact Nat.zero_le _
  · intro k hk
    by_cases hk2 : k < l.length
    · have hst : srtB (l.take (k + 1)) = insS (l.getD k default) (srtB (l.take k)) := by rw [take_succ_at hk2, srtB_snoc]
      have hal : (srtB (l.take k)).length ≤ 1000 := by rw [srtB_len, List.length_take]; omega
      obtain ⟨acc, hacc⟩ : ∃ acc, srtB (l.take k) = acc := ⟨_, rfl⟩
      rw [hacc] at hst hal
      dsimp only
      rw [hacc]
      repeat' (first | with_reducible refine Sq.go ?_ | ((with_reducible refine Ev.mk ?_); conv => whnf) | with_reducible refine Dr.mk ⟨by kernel_rfl, by kernel_rfl⟩ ?_ | with_reducible refine obG ?_ | with_reducible refine Ob.mk ?_ ?_ | (with_reducible first | refine brT fun h => ?_ | refine brF fun h => ?_ | refine Br.mk (fun h => ?_) fun h => ?_) <;> (try simp only [bsl, beq_iff_eq, bne_iff_ne, bs2] at h) <;> (try contradiction) <;> try (exfalso; omega))
      refine loop_rule hT (S := Nat) (fun n => ([(0, .d (eSeats l)), (3, .d (eSeats acc)), (4, .d (.int .i64 k)), (5, .d (.int .i64 n))], ⟨[], []⟩)) (fun n => n ≤ acc.length ∧ ∀ i, i < n → ¬ seatC (l.getD k default) (acc.getD i default) < 0) (fun n => acc.length - n) 0 ?_ ?_ ?_
      · repeat' (first | exact True.intro | exact rfl | exact Nat.le_refl _ | refine And.intro ?_ ?_)
      · exact ⟨Nat.zero_le _, fun i hi => absurd hi (by omega)⟩
      · rintro n ⟨hn, hlt⟩
        dsimp only at hn hlt ⊢
        by_cases hgo : n < acc.length ∧ ¬ seatC (l.getD k default) (acc.getD n default) < 0
        · obtain ⟨hn2, hge⟩ := hgo
          have hB := before_ok (l.getD k default) (acc.getD n default)
          rw [decide_eq_false hge] at hB
          repeat' (first | with_reducible refine Sq.go ?_ | ((with_reducible refine Ev.mk ?_); conv => whnf) | with_reducible refine Dr.mk ⟨by kernel_rfl, by kernel_rfl⟩ ?_ | with_reducible refine obG ?_ | with_reducible refine Ob.mk ?_ ?_ | (with_reducible first | refine brT fun h => ?_ | refine brF fun h => ?_ | refine Br.mk (fun h => ?_) fun h => ?_) <;> (try simp only [bsl, beq_iff_eq, bne_iff_ne, bs2] at h) <;> (try contradiction) <;> try (exfalso; omega))
          refine qC hB ?_
          repeat' (first | with_reducible refine Sq.go ?_ | ((with_reducible refine Ev.mk ?_); conv => whnf) | with_reducible refine Dr.mk ⟨by kernel_rfl, by kernel_rfl⟩ ?_ | with_reducible refine obG ?_ | with_reducible refine Ob.mk ?_ ?_ | (with_reducible first | refine brT fun h => ?_ | refine brF fun h => ?_ | refine Br.mk (fun h => ?_) fun h => ?_) <;> (try simp only [bsl, beq_iff_eq, bne_iff_ne, bs2] at h) <;> (try contradiction) <;> try (exfalso; omega))
          refine ⟨n + 1, ⟨by show n + 1 ≤ acc.length; omega, fun i hi => ?_⟩, by show acc.length - (n + 1) < acc.length - n; omega, ?_⟩
          · rcases Nat.lt_or_ge i n with h1 | h1
            · exact hlt i h1
            · rw [show i = n by omega]
              exact hge
          · repeat' (first | exact True.intro | exact rfl | exact Nat.le_refl _ | refine And.intro ?_ ?_)
        · have hne : n < acc.length → seatC (l.getD k default) (acc.getD n default) < 0 := fun h1 => Classical.not_not.1 fun h2 => hgo ⟨h1, h2⟩
          have hins := insS_at (l.getD k default) acc n hn hlt hne
          by_cases hn2 : n < acc.length
          · have hB := before_ok (l.getD k default) (acc.getD n default)
            rw [decide_eq_true (hne hn2)] at hB
            repeat' (first | with_reducible refine Sq.go ?_ | ((with_reducible refine Ev.mk ?_); conv => whnf) | with_reducible refine Dr.mk ⟨by kernel_rfl, by kernel_rfl⟩ ?_ | with_reducible refine obG ?_ | with_reducible refine Ob.mk ?_ ?_ | (with_reducible first | refine brT fun h => ?_ | refine brF fun h => ?_ | refine Br.mk (fun h => ?_) fun h => ?_) <;> (try simp only [bsl, beq_iff_eq, bne_iff_ne, bs2] at h) <;> (try contradiction) <;> try (exfalso; omega))
            refine qC hB ?_
            repeat' (first | with_reducible refine Sq.go ?_ | ((with_reducible refine Ev.mk ?_); conv => whnf) | with_reducible refine Dr.mk ⟨by kernel_rfl, by kernel_rfl⟩ ?_ | with_reducible refine obG ?_ | with_reducible refine Ob.mk ?_ ?_ | (with_reducible first | refine brT fun h => ?_ | refine brF fun h => ?_ | refine Br.mk (fun h => ?_) fun h => ?_) <;> (try simp only [bsl, beq_iff_eq, bne_iff_ne, bs2] at h) <;> (try contradiction) <;> try (exfalso; omega))
            refine FrzR.mk (fun i => eSeat ((acc.take n ++ l.getD k default :: acc.drop n).getD i default)) (fun i hi => ?_) ?_
            · exact ins_rows eSeat acc (l.getD k default) n hn _ rfl i hi
            repeat' (first | with_reducible refine Sq.go ?_ | ((with_reducible refine Ev.mk ?_); conv => whnf) | with_reducible refine Dr.mk ⟨by kernel_rfl, by kernel_rfl⟩ ?_ | with_reducible refine obG ?_ | with_reducible refine Ob.mk ?_ ?_ | (with_reducible first | refine brT fun h => ?_ | refine brF fun h => ?_ | refine Br.mk (fun h => ?_) fun h => ?_) <;> (try simp only [bsl, beq_iff_eq, bne_iff_ne, bs2] at h) <;> (try contradiction) <;> try (exfalso; omega))
            refine ⟨k + 1, by show k + 1 ≤ l.length; omega, by show l.length - (k + 1) < l.length - k; omega, ?_⟩
            dsimp only
            rw [hst, hins]
            have hN : 0 + n + 1 + (acc.length - n) = (acc.take n ++ l.getD k default :: acc.drop n).length := by
              simp only [List.length_append, List.length_take, List.length_cons, List.length_drop]
              omega
            repeat' (first | exact True.intro | exact rfl | exact Nat.le_refl _ | refine And.intro ?_ ?_)
            all_goals first
              | exact congrArg (fun m => AV.d (D.sl 3 m _)) hN
              | exact ⟨rfl, hN, fun i hi => rfl⟩
              | trace_state
          · repeat' (first | with_reducible refine Sq.go ?_ | ((with_reducible refine Ev.mk ?_); conv => whnf) | with_reducible refine Dr.mk ⟨by kernel_rfl, by kernel_rfl⟩ ?_ | with_reducible refine obG ?_ | with_reducible refine Ob.mk ?_ ?_ | (with_reducible first | refine brT fun h => ?_ | refine brF fun h => ?_ | refine Br.mk (fun h => ?_) fun h => ?_) <;> (try simp only [bsl, beq_iff_eq, bne_iff_ne, bs2] at h) <;> (try contradiction) <;> try (exfalso; omega))
            refine FrzR.mk (fun i => eSeat ((acc.take n ++ l.getD k default :: acc.drop n).getD i default)) (fun i hi => ?_) ?_
            · exact ins_rows eSeat acc (l.getD k default) n hn _ rfl i hi
            repeat' (first | with_reducible refine Sq.go ?_ | ((with_reducible refine Ev.mk ?_); conv => whnf) | with_reducible refine Dr.mk ⟨by kernel_rfl, by kernel_rfl⟩ ?_ | with_reducible refine obG ?_ | with_reducible refine Ob.mk ?_ ?_ | (with_reducible first | refine brT fun h => ?_ | refine brF fun h => ?_ | refine Br.mk (fun h => ?_) fun h => ?_) <;> (try simp only [bsl, beq_iff_eq, bne_iff_ne, bs2] at h) <;> (try contradiction) <;> try (exfalso; omega))
            refine ⟨k + 1, by show k + 1 ≤ l.length; omega, by show l.length - (k + 1) < l.length - k; omega, ?_⟩
            dsimp only
            rw [hst, hins]
            have hN : 0 + n + 1 + (acc.length - n) = (acc.take n ++ l.getD k default :: acc.drop n).length := by
              simp only [List.length_append, List.length_take, List.length_cons, List.length_drop]
              omega
            repeat' (first | exact True.intro | exact rfl | exact Nat.le_refl _ | refine And.intro ?_ ?_)
            all_goals first
              | exact congrArg (fun m => AV.d (D.sl 3 m _)) hN
              | exact ⟨rfl, hN, fun i hi => rfl⟩
              | trace_state
    · dsimp only
      rw [List.take_of_length_le (by omega)]
      repeat' (first | with_reducible refine Sq.go ?_ | ((with_reducible refine Ev.mk ?_); conv => whnf) | with_reducible refine Dr.mk ⟨by kernel_rfl, by kernel_rfl⟩ ?_ | with_reducible refine obG ?_ | with_reducible refine Ob.mk ?_ ?_ | (with_reducible first | refine brT fun h => ?_ | refine brF fun h => ?_ | refine Br.mk (fun h => ?_) fun h => ?_) <;> (try simp only [bsl, beq_iff_eq, bne_iff_ne, bs2] at h) <;> (try contradiction) <;> try (exfalso; omega))
      exact ⟨⟨rfl, rfl, fun i hi => rfl⟩, True.intro⟩
end Go.Proofs.Ytnhadilbebgbjaa
