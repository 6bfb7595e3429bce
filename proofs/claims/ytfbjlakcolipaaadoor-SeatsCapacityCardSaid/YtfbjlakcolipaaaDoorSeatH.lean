/-
  Seats: Few, Same, the law's count, slices.Clone, IndexFunc.
-/
import Derived.Test.YtfbjlakcolipaaaDoorSeatG
namespace Go.Proofs.YtfbjlakcolipaaaDoor
set_option linter.unusedSimpArgs false
set_option linter.unusedVariables false
open Go Go.Ab
set_option maxRecDepth 100000
set_option maxHeartbeats 0
def few25 (l : List Sec) (taken : List Seat) : Bool := decide (l.length ≤ 8) && decide (taken.length ≤ 40) && l.all fun s => decide (s.meets.length ≤ 20) && decide (s.groups.length ≤ 12) && decide (s.labs.length ≤ 12)
theorem few25_S {l : List Sec} {taken : List Seat} (h : few25 l taken = true) : fewS l ∧ taken.length ≤ 40 ∧ l.length ≤ 8 := by
  simp only [few25, Bool.and_eq_true, decide_eq_true_eq, List.all_eq_true] at h
  obtain ⟨⟨h1, h2⟩, h3⟩ := h
  refine ⟨⟨by omega, fun s hs => ?_⟩, h2, h1⟩
  have := h3 s hs
  omega
theorem few25_ok (l : List Sec) (taken : List Seat) : Pure Tryd.prog 10 [eSecs l, eSeats taken] [.bool (few25 l taken)] := by
  refine pure_rule hT (T := tab) (N := 45) (rs := [.tmp 4]) Tryd.func10 rfl rfl rfl (by kernel_rfl) rfl ?_
  by_cases h0 : l.length ≤ 8 ∧ taken.length ≤ 40
  · obtain ⟨h1, h2⟩ := h0
    have hf : few25 l taken = l.all fun s => decide (s.meets.length ≤ 20) && decide (s.groups.length ≤ 12) && decide (s.labs.length ≤ 12) := by
      simp only [few25, h1, h2, decide_true, Bool.true_and]
    rw [hf]
    repeat' (first | with_reducible refine Sq.go ?_ | ((with_reducible refine Ev.mk ?_); conv => whnf) | with_reducible refine Dr.mk ⟨by kernel_rfl, by kernel_rfl⟩ ?_ | with_reducible refine obG ?_ | with_reducible refine Ob.mk ?_ ?_ | (with_reducible first | refine brT fun h => ?_ | refine brF fun h => ?_ | refine Br.mk (fun h => ?_) fun h => ?_) <;> (try simp only [bsl, beq_iff_eq, bne_iff_ne, bs2] at h) <;> (try contradiction) <;> try (exfalso; omega))
    refine loop_rule hT (S := Nat) (fun k => ([(0, .d (eSecs l)), (5, .d (.int .i64 k))], ⟨[], []⟩)) (fun k => k ≤ l.length ∧ (l.all fun s => decide (s.meets.length ≤ 20) && decide (s.groups.length ≤ 12) && decide (s.labs.length ≤ 12)) = ((l.drop k).all fun s => decide (s.meets.length ≤ 20) && decide (s.groups.length ≤ 12) && decide (s.labs.length ≤ 12))) (fun k => l.length - k) 0 ?_ ?_ ?_
    · repeat' (first | exact True.intro | exact rfl | exact Nat.le_refl _ | refine And.intro ?_ ?_)
    · exact ⟨Nat.zero_le _, rfl⟩
    · rintro k ⟨hk, hc⟩
      by_cases hk2 : k < l.length
      · rw [drop_at hk2, List.all_cons] at hc
        repeat' (first | with_reducible refine Sq.go ?_ | ((with_reducible refine Ev.mk ?_); conv => whnf) | with_reducible refine Dr.mk ⟨by kernel_rfl, by kernel_rfl⟩ ?_ | with_reducible refine obG ?_ | with_reducible refine Ob.mk ?_ ?_ | (with_reducible first | refine brT fun h => ?_ | refine brF fun h => ?_ | refine Br.mk (fun h => ?_) fun h => ?_) <;> (try simp only [bsl, beq_iff_eq, bne_iff_ne, bs2] at h) <;> (try contradiction) <;> try (exfalso; omega))
        · rw [hc]
          refine ⟨congrArg D.bool ?_, True.intro⟩
          symm
          rw [Bool.and_eq_false_iff]
          left
          simp only [Bool.and_eq_false_iff, decide_eq_false_iff_not]
          omega
        · refine ⟨k + 1, ⟨by show k + 1 ≤ l.length; omega, ?_⟩, by show l.length - (k + 1) < l.length - k; omega, ?_⟩
          · rw [hc]
            have : (decide ((l.getD k default).meets.length ≤ 20) && decide ((l.getD k default).groups.length ≤ 12) && decide ((l.getD k default).labs.length ≤ 12)) = true := by
              simp only [Bool.and_eq_true, decide_eq_true_eq]
              omega
            rw [this, Bool.true_and]
          · repeat' (first | exact True.intro | exact rfl | exact Nat.le_refl _ | refine And.intro ?_ ?_)
      · rw [drop_end (by omega), List.all_nil] at hc
        rw [hc]
        repeat' (first | with_reducible refine Sq.go ?_ | ((with_reducible refine Ev.mk ?_); conv => whnf) | with_reducible refine Dr.mk ⟨by kernel_rfl, by kernel_rfl⟩ ?_ | with_reducible refine obG ?_ | with_reducible refine Ob.mk ?_ ?_ | (with_reducible first | refine brT fun h => ?_ | refine brF fun h => ?_ | refine Br.mk (fun h => ?_) fun h => ?_) <;> (try simp only [bsl, beq_iff_eq, bne_iff_ne, bs2] at h) <;> (try contradiction) <;> try (exfalso; omega))
        exact ⟨rfl, True.intro⟩
  · have hf : few25 l taken = false := by
      simp only [few25, Bool.and_eq_false_iff, decide_eq_false_iff_not]
      omega
    rw [hf]
    repeat' (first | with_reducible refine Sq.go ?_ | ((with_reducible refine Ev.mk ?_); conv => whnf) | with_reducible refine Dr.mk ⟨by kernel_rfl, by kernel_rfl⟩ ?_ | with_reducible refine obG ?_ | with_reducible refine Ob.mk ?_ ?_ | (with_reducible first | refine brT fun h => ?_ | refine brF fun h => ?_ | refine Br.mk (fun h => ?_) fun h => ?_) <;> (try simp only [bsl, beq_iff_eq, bne_iff_ne, bs2] at h) <;> (try contradiction) <;> try (exfalso; omega))
    exact ⟨rfl, True.intro⟩
theorem sameT_ok (xs ys : List Seat) (hx : xs.length ≤ 1000000) (hy : ys.length ≤ 1000000) : Pure Tryd.prog 19 [eSeats xs, eSeats ys] [.bool (decide (xs = ys))] := by
  refine pure_rule hT (T := tab) (N := 26) (rs := [.tmp 4]) Tryd.func19 rfl rfl rfl (by kernel_rfl) rfl ?_
  repeat' (first | with_reducible refine Sq.go ?_ | ((with_reducible refine Ev.mk ?_); conv => whnf) | with_reducible refine Dr.mk ⟨by kernel_rfl, by kernel_rfl⟩ ?_ | with_reducible refine obG ?_ | with_reducible refine Ob.mk ?_ ?_ | (with_reducible first | refine brT fun h => ?_ | refine brF fun h => ?_ | refine Br.mk (fun h => ?_) fun h => ?_) <;> (try simp only [bsl, beq_iff_eq, bne_iff_ne, bs2] at h) <;> (try contradiction) <;> try (exfalso; omega))
  · refine ⟨congrArg D.bool ?_, True.intro⟩
    rw [decide_eq_false]
    intro e
    rw [e] at h
    omega
  · refine loop_rule hT (S := Nat) (fun k => ([(0, .d (eSeats xs)), (1, .d (eSeats ys)), (4, .d (.bool false)), (5, .d (.int .i64 k))], ⟨[], []⟩)) (fun k => k ≤ xs.length ∧ (xs = ys ↔ xs.drop k = ys.drop k)) (fun k => xs.length - k) 0 ?_ ?_ ?_
    · repeat' (first | exact True.intro | exact rfl | exact Nat.le_refl _ | refine And.intro ?_ ?_)
    · exact ⟨Nat.zero_le _, Iff.rfl⟩
    · rintro k ⟨hk, ht⟩
      repeat' (first | with_reducible refine Sq.go ?_ | ((with_reducible refine Ev.mk ?_); conv => whnf) | with_reducible refine Dr.mk ⟨by kernel_rfl, by kernel_rfl⟩ ?_ | with_reducible refine obG ?_ | with_reducible refine Ob.mk ?_ ?_ | (with_reducible first | refine brT fun h => ?_ | refine brF fun h => ?_ | refine Br.mk (fun h => ?_) fun h => ?_) <;> (try simp only [bsl, beq_iff_eq, bne_iff_ne, bs2] at h) <;> (try contradiction) <;> try (exfalso; omega))
      · refine ⟨congrArg D.bool ?_, True.intro⟩
        rw [decide_eq_false]
        rw [ht, drop_at (xs := xs) (k := k) (by omega), drop_at (xs := ys) (k := k) (by omega)]
        intro e
        injection e with e1 e2
        rw [e1] at h
        simp at h
      · refine ⟨k + 1, ⟨by show k + 1 ≤ xs.length; omega, ?_⟩, by show xs.length - (k + 1) < xs.length - k; omega, ?_⟩
        · have e : xs.getD k default = ys.getD k default := by
            revert h
            generalize xs.getD k default = a
            generalize ys.getD k default = b
            intro h
            cases a; cases b; simp_all
          rw [ht, drop_at (xs := xs) (k := k) (by omega), drop_at (xs := ys) (k := k) (by omega), e]
          simp
        · repeat' (first | exact True.intro | exact rfl | exact Nat.le_refl _ | refine And.intro ?_ ?_)
      · refine ⟨congrArg D.bool ?_, True.intro⟩
        rw [decide_eq_true]
        rw [ht]
        rw [List.drop_eq_nil_of_le (by omega), List.drop_eq_nil_of_le (by omega)]
/-- The law's own count. -/
def cntP (n g : Int) (x : Seat) : Bool := decide (x.sec = n) && (decide (g = -2) || decide (x.group = g))
def cntL (q : List Seat) (n g : Int) : Int := ((q.filter (cntP n g)).length : Int)
theorem cntL_snoc (q : List Seat) (x : Seat) (n g : Int) : cntL (q ++ [x]) n g = cntL q n g + if cntP n g x = true then 1 else 0 := by
  unfold cntL
  rw [List.filter_append, List.length_append]
  by_cases h : cntP n g x = true <;> simp [h]
theorem cntL_le (q : List Seat) (n g : Int) : 0 ≤ cntL q n g ∧ cntL q n g ≤ q.length := by
  unfold cntL
  have := List.length_filter_le (cntP n g) q
  omega
theorem lcount_ok (q : List Seat) (hq : q.length ≤ 1000) (n g : Int) : Pure Tryd.prog 16 [eSeats q, .int .i64 n, .int .i64 g] [.int .i64 (cntL q n g)] := by
  refine pure_rule hT (T := tab) (N := 33) (rs := [.tmp 6]) Tryd.func16 rfl rfl rfl (by kernel_rfl) rfl ?_
  repeat' (first | with_reducible refine Sq.go ?_ | ((with_reducible refine Ev.mk ?_); conv => whnf) | with_reducible refine Dr.mk ⟨by kernel_rfl, by kernel_rfl⟩ ?_ | with_reducible refine obG ?_ | with_reducible refine Ob.mk ?_ ?_ | (with_reducible first | refine brT fun h => ?_ | refine brF fun h => ?_ | refine Br.mk (fun h => ?_) fun h => ?_) <;> (try simp only [bsl, beq_iff_eq, bne_iff_ne, bs2] at h) <;> (try contradiction) <;> try (exfalso; omega))
  refine loop_rule hT (S := Nat) (fun k => ([(1, .d (.int .i64 n)), (2, .d (.int .i64 g)), (6, .d (.int .i64 (cntL (q.take k) n g))), (9, .d (eSeats q)), (10, .d (.int .i64 q.length)), (11, .d (.int .i64 k))], ⟨[], []⟩)) (fun k => k ≤ q.length) (fun k => q.length - k) 0 ?_ ?_ ?_
  · repeat' (first | exact True.intro | exact rfl | exact Nat.le_refl _ | refine And.intro ?_ ?_)
  · exact Nat.zero_le _
  · intro k hk
    have hb := cntL_le (q.take k) n g
    have hlt : (q.take k).length ≤ q.length := List.length_take_le' ..
    by_cases hk2 : k < q.length
    · have ht : cntL (q.take (k + 1)) n g = cntL (q.take k) n g + if cntP n g (q.getD k default) = true then 1 else 0 := by rw [take_succ_at hk2, cntL_snoc]
      obtain ⟨c, hcd⟩ : ∃ c, cntL (q.take k) n g = c := ⟨_, rfl⟩
      rw [hcd] at hb ht ⊢
      by_cases h1 : (q.getD k default).sec = n
      · by_cases h2 : g = -2
        · rw [if_pos (by rw [cntP, decide_eq_true h1, decide_eq_true h2]; rfl)] at ht
          repeat' (first | with_reducible refine Sq.go ?_ | ((with_reducible refine Ev.mk ?_); conv => whnf) | with_reducible refine Dr.mk ⟨by kernel_rfl, by kernel_rfl⟩ ?_ | with_reducible refine obG ?_ | with_reducible refine Ob.mk ?_ ?_ | (with_reducible first | refine brT fun h => ?_ | refine brF fun h => ?_ | refine Br.mk (fun h => ?_) fun h => ?_) <;> (try simp only [bsl, beq_iff_eq, bne_iff_ne, bs2] at h) <;> (try contradiction) <;> try (exfalso; omega))
          refine ⟨k + 1, by show k + 1 ≤ q.length; omega, by show q.length - (k + 1) < q.length - k; omega, ?_⟩
          dsimp only
          rw [ht]
          repeat' (first | exact True.intro | exact rfl | exact Nat.le_refl _ | refine And.intro ?_ ?_)
        · by_cases h3 : (q.getD k default).group = g
          · rw [if_pos (by rw [cntP, decide_eq_true h1, decide_eq_true h3, Bool.or_true]; rfl)] at ht
            repeat' (first | with_reducible refine Sq.go ?_ | ((with_reducible refine Ev.mk ?_); conv => whnf) | with_reducible refine Dr.mk ⟨by kernel_rfl, by kernel_rfl⟩ ?_ | with_reducible refine obG ?_ | with_reducible refine Ob.mk ?_ ?_ | (with_reducible first | refine brT fun h => ?_ | refine brF fun h => ?_ | refine Br.mk (fun h => ?_) fun h => ?_) <;> (try simp only [bsl, beq_iff_eq, bne_iff_ne, bs2] at h) <;> (try contradiction) <;> try (exfalso; omega))
            refine ⟨k + 1, by show k + 1 ≤ q.length; omega, by show q.length - (k + 1) < q.length - k; omega, ?_⟩
            dsimp only
            rw [ht]
            repeat' (first | exact True.intro | exact rfl | exact Nat.le_refl _ | refine And.intro ?_ ?_)
          · rw [if_neg (by rw [cntP, decide_eq_false h2, decide_eq_false h3, Bool.or_false, Bool.and_false]; exact Bool.false_ne_true), Int.add_zero] at ht
            repeat' (first | with_reducible refine Sq.go ?_ | ((with_reducible refine Ev.mk ?_); conv => whnf) | with_reducible refine Dr.mk ⟨by kernel_rfl, by kernel_rfl⟩ ?_ | with_reducible refine obG ?_ | with_reducible refine Ob.mk ?_ ?_ | (with_reducible first | refine brT fun h => ?_ | refine brF fun h => ?_ | refine Br.mk (fun h => ?_) fun h => ?_) <;> (try simp only [bsl, beq_iff_eq, bne_iff_ne, bs2] at h) <;> (try contradiction) <;> try (exfalso; omega))
            refine ⟨k + 1, by show k + 1 ≤ q.length; omega, by show q.length - (k + 1) < q.length - k; omega, ?_⟩
            dsimp only
            rw [ht]
            repeat' (first | exact True.intro | exact rfl | exact Nat.le_refl _ | refine And.intro ?_ ?_)
      · rw [if_neg (by rw [cntP, decide_eq_false h1, Bool.false_and]; exact Bool.false_ne_true), Int.add_zero] at ht
        repeat' (first | with_reducible refine Sq.go ?_ | ((with_reducible refine Ev.mk ?_); conv => whnf) | with_reducible refine Dr.mk ⟨by kernel_rfl, by kernel_rfl⟩ ?_ | with_reducible refine obG ?_ | with_reducible refine Ob.mk ?_ ?_ | (with_reducible first | refine brT fun h => ?_ | refine brF fun h => ?_ | refine Br.mk (fun h => ?_) fun h => ?_) <;> (try simp only [bsl, beq_iff_eq, bne_iff_ne, bs2] at h) <;> (try contradiction) <;> try (exfalso; omega))
        refine ⟨k + 1, by show k + 1 ≤ q.length; omega, by show q.length - (k + 1) < q.length - k; omega, ?_⟩
        dsimp only
        rw [ht]
        repeat' (first | exact True.intro | exact rfl | exact Nat.le_refl _ | refine And.intro ?_ ?_)
    · rw [show q.take k = q from List.take_of_length_le (by omega)]
      repeat' (first | with_reducible refine Sq.go ?_ | ((with_reducible refine Ev.mk ?_); conv => whnf) | with_reducible refine Dr.mk ⟨by kernel_rfl, by kernel_rfl⟩ ?_ | with_reducible refine obG ?_ | with_reducible refine Ob.mk ?_ ?_ | (with_reducible first | refine brT fun h => ?_ | refine brF fun h => ?_ | refine Br.mk (fun h => ?_) fun h => ?_) <;> (try simp only [bsl, beq_iff_eq, bne_iff_ne, bs2] at h) <;> (try contradiction) <;> try (exfalso; omega))
      exact ⟨rfl, True.intro⟩
end Go.Proofs.YtfbjlakcolipaaaDoor
