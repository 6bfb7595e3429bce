/-
  Swaps: what a swap is; valid, by the program and by the reference.
-/
import Derived.Test.YtnhadilbebgbjaaBas
namespace Go.Proofs.Ytnhadilbebgbjaa
set_option linter.unusedSimpArgs false
set_option linter.unusedVariables false
open Go Go.Ab
set_option maxRecDepth 100000
set_option maxHeartbeats 0
structure Bun where
  sec : Int
  lab : Int
  deriving Inhabited, DecidableEq
def eBun (b : Bun) : List D := [.int .i64 b.sec, .int .i64 b.lab]
structure Seat where
  student : Int
  sec : Int
  group : Int
  deriving Inhabited, DecidableEq
def eSeat (b : Seat) : List D := [.int .i64 b.student, .int .i64 b.sec, .int .i64 b.group]
def eSeats (xs : List Seat) : D := .sl 3 xs.length fun i => eSeat (xs.getD i default)
structure Swap where
  student : Int
  give : Bun
  take : Bun
  campus : Int
  no : Int
  deriving Inhabited, DecidableEq
def eSwap (s : Swap) : List D := [.int .i64 s.student, .int .i64 s.give.sec, .int .i64 s.give.lab, .int .i64 s.take.sec, .int .i64 s.take.lab, .int .i64 s.campus, .int .i64 s.no]
def eSwaps (xs : List Swap) : D := .sl 7 xs.length fun i => eSwap (xs.getD i default)
def wit (n lo hi : Int) : Bool := decide (lo ≤ n) && decide (n ≤ hi)
theorem in_ok (n lo hi : Int) : Pure Try.prog 54 [.int .i64 n, .int .i64 lo, .int .i64 hi] [.bool (wit n lo hi)] := by
  refine pure_rule hT (T := tab) (N := 15) (rs := [.tmp 6]) Try.func54 rfl rfl rfl (by kernel_rfl) rfl ?_
  repeat' (first | with_reducible refine Sq.go ?_ | ((with_reducible refine Ev.mk ?_); conv => whnf) | with_reducible refine Dr.mk ⟨by kernel_rfl, by kernel_rfl⟩ ?_ | with_reducible refine obG ?_ | with_reducible refine Ob.mk ?_ ?_ | (with_reducible first | refine brT fun h => ?_ | refine brF fun h => ?_ | refine Br.mk (fun h => ?_) fun h => ?_) <;> (try simp only [bsl, beq_iff_eq, bne_iff_ne, bs2] at h) <;> (try contradiction) <;> try (exfalso; omega))
  refine ⟨congrArg D.bool ?_, True.intro⟩
  rw [wit]
  cases decide (lo ≤ n) <;> rfl
def bunV (b : Bun) : Bool := wit b.sec 0 3999 && wit b.lab (-1) 3999 && !decide (b.lab = b.sec)
theorem validBundle_ok (b : Bun) : Pure Try.prog 55 [.agg (eBun b)] [.bool (bunV b)] := by
  refine pure_rule hT (T := tab) (N := 18) (rs := [.tmp 2]) Try.func55 rfl rfl rfl (by kernel_rfl) rfl ?_
  have h1 := in_ok b.sec 0 3999
  have h2 := in_ok b.lab (-1) 3999
  rw [bunV]
  cases e1 : wit b.sec 0 3999
  · rw [e1] at h1
    repeat' (first | with_reducible refine Sq.go ?_ | ((with_reducible refine Ev.mk ?_); conv => whnf) | with_reducible refine Dr.mk ⟨by kernel_rfl, by kernel_rfl⟩ ?_ | with_reducible refine obG ?_ | with_reducible refine Ob.mk ?_ ?_ | (with_reducible first | refine brT fun h => ?_ | refine brF fun h => ?_ | refine Br.mk (fun h => ?_) fun h => ?_) <;> (try simp only [bsl, beq_iff_eq, bne_iff_ne, bs2] at h) <;> (try contradiction) <;> try (exfalso; omega))
    refine h1.call ?_
    repeat' (first | with_reducible refine Sq.go ?_ | ((with_reducible refine Ev.mk ?_); conv => whnf) | with_reducible refine Dr.mk ⟨by kernel_rfl, by kernel_rfl⟩ ?_ | with_reducible refine obG ?_ | with_reducible refine Ob.mk ?_ ?_ | (with_reducible first | refine brT fun h => ?_ | refine brF fun h => ?_ | refine Br.mk (fun h => ?_) fun h => ?_) <;> (try simp only [bsl, beq_iff_eq, bne_iff_ne, bs2] at h) <;> (try contradiction) <;> try (exfalso; omega))
    exact ⟨rfl, True.intro⟩
  · cases e2 : wit b.lab (-1) 3999
    · rw [e1] at h1
      rw [e2] at h2
      repeat' (first | with_reducible refine Sq.go ?_ | ((with_reducible refine Ev.mk ?_); conv => whnf) | with_reducible refine Dr.mk ⟨by kernel_rfl, by kernel_rfl⟩ ?_ | with_reducible refine obG ?_ | with_reducible refine Ob.mk ?_ ?_ | (with_reducible first | refine brT fun h => ?_ | refine brF fun h => ?_ | refine Br.mk (fun h => ?_) fun h => ?_) <;> (try simp only [bsl, beq_iff_eq, bne_iff_ne, bs2] at h) <;> (try contradiction) <;> try (exfalso; omega))
      refine h1.call ?_
      repeat' (first | with_reducible refine Sq.go ?_ | ((with_reducible refine Ev.mk ?_); conv => whnf) | with_reducible refine Dr.mk ⟨by kernel_rfl, by kernel_rfl⟩ ?_ | with_reducible refine obG ?_ | with_reducible refine Ob.mk ?_ ?_ | (with_reducible first | refine brT fun h => ?_ | refine brF fun h => ?_ | refine Br.mk (fun h => ?_) fun h => ?_) <;> (try simp only [bsl, beq_iff_eq, bne_iff_ne, bs2] at h) <;> (try contradiction) <;> try (exfalso; omega))
      refine h2.call ?_
      repeat' (first | with_reducible refine Sq.go ?_ | ((with_reducible refine Ev.mk ?_); conv => whnf) | with_reducible refine Dr.mk ⟨by kernel_rfl, by kernel_rfl⟩ ?_ | with_reducible refine obG ?_ | with_reducible refine Ob.mk ?_ ?_ | (with_reducible first | refine brT fun h => ?_ | refine brF fun h => ?_ | refine Br.mk (fun h => ?_) fun h => ?_) <;> (try simp only [bsl, beq_iff_eq, bne_iff_ne, bs2] at h) <;> (try contradiction) <;> try (exfalso; omega))
      exact ⟨rfl, True.intro⟩
    · rw [e1] at h1
      rw [e2] at h2
      repeat' (first | with_reducible refine Sq.go ?_ | ((with_reducible refine Ev.mk ?_); conv => whnf) | with_reducible refine Dr.mk ⟨by kernel_rfl, by kernel_rfl⟩ ?_ | with_reducible refine obG ?_ | with_reducible refine Ob.mk ?_ ?_ | (with_reducible first | refine brT fun h => ?_ | refine brF fun h => ?_ | refine Br.mk (fun h => ?_) fun h => ?_) <;> (try simp only [bsl, beq_iff_eq, bne_iff_ne, bs2] at h) <;> (try contradiction) <;> try (exfalso; omega))
      refine h1.call ?_
      repeat' (first | with_reducible refine Sq.go ?_ | ((with_reducible refine Ev.mk ?_); conv => whnf) | with_reducible refine Dr.mk ⟨by kernel_rfl, by kernel_rfl⟩ ?_ | with_reducible refine obG ?_ | with_reducible refine Ob.mk ?_ ?_ | (with_reducible first | refine brT fun h => ?_ | refine brF fun h => ?_ | refine Br.mk (fun h => ?_) fun h => ?_) <;> (try simp only [bsl, beq_iff_eq, bne_iff_ne, bs2] at h) <;> (try contradiction) <;> try (exfalso; omega))
      refine h2.call ?_
      repeat' (first | with_reducible refine Sq.go ?_ | ((with_reducible refine Ev.mk ?_); conv => whnf) | with_reducible refine Dr.mk ⟨by kernel_rfl, by kernel_rfl⟩ ?_ | with_reducible refine obG ?_ | with_reducible refine Ob.mk ?_ ?_ | (with_reducible first | refine brT fun h => ?_ | refine brF fun h => ?_ | refine Br.mk (fun h => ?_) fun h => ?_) <;> (try simp only [bsl, beq_iff_eq, bne_iff_ne, bs2] at h) <;> (try contradiction) <;> try (exfalso; omega))
      exact ⟨rfl, True.intro⟩
theorem isBundle_ok (b : Bun) : Pure Try.prog 56 [.agg (eBun b)] [.bool (bunV b)] := by
  refine pure_rule hT (T := tab) (N := 28) (rs := [.tmp 2]) Try.func56 rfl rfl rfl (by kernel_rfl) rfl ?_
  repeat' (first | with_reducible refine Sq.go ?_ | ((with_reducible refine Ev.mk ?_); conv => whnf) | with_reducible refine Dr.mk ⟨by kernel_rfl, by kernel_rfl⟩ ?_ | with_reducible refine obG ?_ | with_reducible refine Ob.mk ?_ ?_ | (with_reducible first | refine brT fun h => ?_ | refine brF fun h => ?_ | refine Br.mk (fun h => ?_) fun h => ?_) <;> (try simp only [bsl, beq_iff_eq, bne_iff_ne, bs2] at h) <;> (try contradiction) <;> try (exfalso; omega))
  refine ⟨congrArg D.bool ?_, True.intro⟩
  by_cases h1 : 0 ≤ b.sec <;> by_cases h2 : b.sec ≤ 3999 <;> by_cases h3 : -1 ≤ b.lab <;> by_cases h4 : b.lab ≤ 3999 <;> by_cases h5 : b.lab = b.sec <;> simp [bunV, wit, h1, h2, h3, h4, h5] <;> omega
theorem few30_ok (l : List Swap) : Pure Try.prog 11 [eSwaps l] [.bool (decide (l.length ≤ 20))] := by
  refine pure_rule hT (T := tab) (N := 6) (rs := [.tmp 2]) Try.func11 rfl rfl rfl (by kernel_rfl) rfl ?_
  repeat' (first | with_reducible refine Sq.go ?_ | ((with_reducible refine Ev.mk ?_); conv => whnf) | with_reducible refine Dr.mk ⟨by kernel_rfl, by kernel_rfl⟩ ?_ | with_reducible refine obG ?_ | with_reducible refine Ob.mk ?_ ?_ | (with_reducible first | refine brT fun h => ?_ | refine brF fun h => ?_ | refine Br.mk (fun h => ?_) fun h => ?_) <;> (try simp only [bsl, beq_iff_eq, bne_iff_ne, bs2] at h) <;> (try contradiction) <;> try (exfalso; omega))
  refine ⟨congrArg D.bool ?_, True.intro⟩
  exact decide_eq_decide.2 (by omega)
theorem bundle30_ok (n : Int) : Pure Try.prog 29 [.int .i64 n] [.agg (eBun ⟨n, -1⟩)] := by
  refine pure_rule hT (T := tab) (N := 5) (rs := [.cell 2 24]) Try.func29 rfl rfl rfl (by kernel_rfl) rfl ?_
  repeat' (first | with_reducible refine Sq.go ?_ | ((with_reducible refine Ev.mk ?_); conv => whnf) | with_reducible refine Dr.mk ⟨by kernel_rfl, by kernel_rfl⟩ ?_ | with_reducible refine obG ?_ | with_reducible refine Ob.mk ?_ ?_ | (with_reducible first | refine brT fun h => ?_ | refine brF fun h => ?_ | refine Br.mk (fun h => ?_) fun h => ?_) <;> (try simp only [bsl, beq_iff_eq, bne_iff_ne, bs2] at h) <;> (try contradiction) <;> try (exfalso; omega))
  exact ⟨Or.inl rfl, True.intro⟩
theorem sameSw_ok (xs ys : List Swap) (hx : xs.length ≤ 1000000) (hy : ys.length ≤ 1000000) : Pure Try.prog 14 [eSwaps xs, eSwaps ys] [.bool (decide (xs = ys))] := by
  refine pure_rule hT (T := tab) (N := 26) (rs := [.tmp 4]) Try.func14 rfl rfl rfl (by kernel_rfl) rfl ?_
  repeat' (first | with_reducible refine Sq.go ?_ | ((with_reducible refine Ev.mk ?_); conv => whnf) | with_reducible refine Dr.mk ⟨by kernel_rfl, by kernel_rfl⟩ ?_ | with_reducible refine obG ?_ | with_reducible refine Ob.mk ?_ ?_ | (with_reducible first | refine brT fun h => ?_ | refine brF fun h => ?_ | refine Br.mk (fun h => ?_) fun h => ?_) <;> (try simp only [bsl, beq_iff_eq, bne_iff_ne, bs2] at h) <;> (try contradiction) <;> try (exfalso; omega))
  · refine ⟨congrArg D.bool ?_, True.intro⟩
    rw [decide_eq_false]
    intro e
    rw [e] at h
    omega
  · refine loop_rule hT (S := Nat) (fun k => ([(0, .d (eSwaps xs)), (1, .d (eSwaps ys)), (4, .d (.bool false)), (5, .d (.int .i64 k))], ⟨[], []⟩)) (fun k => k ≤ xs.length ∧ (xs = ys ↔ xs.drop k = ys.drop k)) (fun k => xs.length - k) 0 ?_ ?_ ?_
    · repeat' (first | exact True.intro | exact rfl | exact Nat.le_refl _ | refine And.intro ?_ ?_)
    · exact ⟨Nat.zero_le _, Iff.rfl⟩
    · rintro k ⟨hk, ht⟩
      repeat' (first | with_reducible refine Sq.go ?_ | ((with_reducible refine Ev.mk ?_); conv => whnf) | with_reducible refine Dr.mk ⟨by kernel_rfl, by kernel_rfl⟩ ?_ | with_reducible refine obG ?_ | with_reducible refine Ob.mk ?_ ?_ | (with_reducible first | refine brT fun h => ?_ | refine brF fun h => ?_ | refine Br.mk (fun h => ?_) fun h => ?_) <;> (try simp only [bsl, beq_iff_eq, bne_iff_ne, bs2] at h) <;> (try contradiction) <;> try (exfalso; omega))
      · refine ⟨congrArg D.bool ?_, True.intro⟩
        rw [decide_eq_false]
        rw [ht, drop_at (xs := xs) (k := k) (by omega), drop_at (xs := ys) (k := k) (by omega)]
        intro e
        injection e with e1 e2
        rw [e1] at h
        simp at h
      · refine ⟨k + 1, ⟨by show k + 1 ≤ xs.length; omega, ?_⟩, by show xs.length - (k + 1) < xs.length - k; omega, ?_⟩
        · have e : xs.getD k default = ys.getD k default := by
            revert h
            generalize xs.getD k default = a
            generalize ys.getD k default = b
            intro h
            rcases a with ⟨_, ⟨_, _⟩, ⟨_, _⟩, _, _⟩; rcases b with ⟨_, ⟨_, _⟩, ⟨_, _⟩, _, _⟩; simp_all
          rw [ht, drop_at (xs := xs) (k := k) (by omega), drop_at (xs := ys) (k := k) (by omega), e]
          simp
        · repeat' (first | exact True.intro | exact rfl | exact Nat.le_refl _ | refine And.intro ?_ ?_)
      · refine ⟨congrArg D.bool ?_, True.intro⟩
        rw [decide_eq_true]
        rw [ht]
        rw [List.drop_eq_nil_of_le (by omega), List.drop_eq_nil_of_le (by omega)]
theorem sameSt_ok (xs ys : List Seat) (hx : xs.length ≤ 1000000) (hy : ys.length ≤ 1000000) : Pure Try.prog 24 [eSeats xs, eSeats ys] [.bool (decide (xs = ys))] := by
  refine pure_rule hT (T := tab) (N := 26) (rs := [.tmp 4]) Try.func24 rfl rfl rfl (by kernel_rfl) rfl ?_
  repeat' (first | with_reducible refine Sq.go ?_ | ((with_reducible refine Ev.mk ?_); conv => whnf) | with_reducible refine Dr.mk ⟨by kernel_rfl, by kernel_rfl⟩ ?_ | with_reducible refine obG ?_ | with_reducible refine Ob.mk ?_ ?_ | (with_reducible first | refine brT fun h => ?_ | refine brF fun h => ?_ | refine Br.mk (fun h => ?_) fun h => ?_) <;> (try simp only [bsl, beq_iff_eq, bne_iff_ne, bs2] at h) <;> (try contradiction) <;> try (exfalso; omega))
  · refine ⟨congrArg D.bool ?_, True.intro⟩
    rw [decide_eq_false]
    intro e
    rw [e] at h
    omega
  · refine loop_rule hT (S := Nat) (fun k => ([(0, .d (eSeats xs)), (1, .d (eSeats ys)), (4, .d (.bool false)), (5, .d (.int .i64 k))], ⟨[], []⟩)) (fun k => k ≤ xs.length ∧ (xs = ys ↔ xs.drop k = ys.drop k)) (fun k => xs.length - k) 0 ?_ ?_ ?_
    · repeat' (first | exact True.intro | exact rfl | exact Nat.le_refl _ | refine And.intro ?_ ?_)
    · exact ⟨Nat.zero_le _, Iff.rfl⟩
    · rintro k ⟨hk, ht⟩
      repeat' (first | with_reducible refine Sq.go ?_ | ((with_reducible refine Ev.mk ?_); conv => whnf) | with_reducible refine Dr.mk ⟨by kernel_rfl, by kernel_rfl⟩ ?_ | with_reducible refine obG ?_ | with_reducible refine Ob.mk ?_ ?_ | (with_reducible first | refine brT fun h => ?_ | refine brF fun h => ?_ | refine Br.mk (fun h => ?_) fun h => ?_) <;> (try simp only [bsl, beq_iff_eq, bne_iff_ne, bs2] at h) <;> (try contradiction) <;> try (exfalso; omega))
      · refine ⟨congrArg D.bool ?_, True.intro⟩
        rw [decide_eq_false]
        rw [ht, drop_at (xs := xs) (k := k) (by omega), drop_at (xs := ys) (k := k) (by omega)]
        intro e
        injection e with e1 e2
        rw [e1] at h
        simp at h
      · refine ⟨k + 1, ⟨by show k + 1 ≤ xs.length; omega, ?_⟩, by show xs.length - (k + 1) < xs.length - k; omega, ?_⟩
        · have e : xs.getD k default = ys.getD k default := by
            revert h
            generalize xs.getD k default = a
            generalize ys.getD k default = b
            intro h
            cases a; cases b; simp_all
          rw [ht, drop_at (xs := xs) (k := k) (by omega), drop_at (xs := ys) (k := k) (by omega), e]
          simp
        · repeat' (first | exact True.intro | exact rfl | exact Nat.le_refl _ | refine And.intro ?_ ?_)
      · refine ⟨congrArg D.bool ?_, True.intro⟩
        rw [decide_eq_true]
        rw [ht]
        rw [List.drop_eq_nil_of_le (by omega), List.drop_eq_nil_of_le (by omega)]
theorem sameIn_ok (xs ys : List Int) (hx : xs.length ≤ 1000000) (hy : ys.length ≤ 1000000) : Pure Try.prog 21 [eInts xs, eInts ys] [.bool (decide (xs = ys))] := by
  refine pure_rule hT (T := tab) (N := 26) (rs := [.tmp 4]) Try.func21 rfl rfl rfl (by kernel_rfl) rfl ?_
  repeat' (first | with_reducible refine Sq.go ?_ | ((with_reducible refine Ev.mk ?_); conv => whnf) | with_reducible refine Dr.mk ⟨by kernel_rfl, by kernel_rfl⟩ ?_ | with_reducible refine obG ?_ | with_reducible refine Ob.mk ?_ ?_ | (with_reducible first | refine brT fun h => ?_ | refine brF fun h => ?_ | refine Br.mk (fun h => ?_) fun h => ?_) <;> (try simp only [bsl, beq_iff_eq, bne_iff_ne, bs2] at h) <;> (try contradiction) <;> try (exfalso; omega))
  · refine ⟨congrArg D.bool ?_, True.intro⟩
    rw [decide_eq_false]
    intro e
    rw [e] at h
    omega
  · refine loop_rule hT (S := Nat) (fun k => ([(0, .d (eInts xs)), (1, .d (eInts ys)), (4, .d (.bool false)), (5, .d (.int .i64 k))], ⟨[], []⟩)) (fun k => k ≤ xs.length ∧ (xs = ys ↔ xs.drop k = ys.drop k)) (fun k => xs.length - k) 0 ?_ ?_ ?_
    · repeat' (first | exact True.intro | exact rfl | exact Nat.le_refl _ | refine And.intro ?_ ?_)
    · exact ⟨Nat.zero_le _, Iff.rfl⟩
    · rintro k ⟨hk, ht⟩
      repeat' (first | with_reducible refine Sq.go ?_ | ((with_reducible refine Ev.mk ?_); conv => whnf) | with_reducible refine Dr.mk ⟨by kernel_rfl, by kernel_rfl⟩ ?_ | with_reducible refine obG ?_ | with_reducible refine Ob.mk ?_ ?_ | (with_reducible first | refine brT fun h => ?_ | refine brF fun h => ?_ | refine Br.mk (fun h => ?_) fun h => ?_) <;> (try simp only [bsl, beq_iff_eq, bne_iff_ne, bs2] at h) <;> (try contradiction) <;> try (exfalso; omega))
      · refine ⟨congrArg D.bool ?_, True.intro⟩
        rw [decide_eq_false]
        rw [ht, drop_at (xs := xs) (k := k) (by omega), drop_at (xs := ys) (k := k) (by omega)]
        intro e
        injection e with e1 e2
        rw [e1] at h
        simp at h
      · refine ⟨k + 1, ⟨by show k + 1 ≤ xs.length; omega, ?_⟩, by show xs.length - (k + 1) < xs.length - k; omega, ?_⟩
        · have e : xs.getD k default = ys.getD k default := by
            revert h
            generalize xs.getD k default = a
            generalize ys.getD k default = b
            intro h
            exact h
          rw [ht, drop_at (xs := xs) (k := k) (by omega), drop_at (xs := ys) (k := k) (by omega), e]
          simp
        · repeat' (first | exact True.intro | exact rfl | exact Nat.le_refl _ | refine And.intro ?_ ?_)
      · refine ⟨congrArg D.bool ?_, True.intro⟩
        rw [decide_eq_true]
        rw [ht]
        rw [List.drop_eq_nil_of_le (by omega), List.drop_eq_nil_of_le (by omega)]
theorem bun_eq {a b : Bun} : a = b ↔ a.sec = b.sec ∧ a.lab = b.lab := by
  cases a; cases b; simp
theorem drop1_ok (st : Int) (b : Bun) (s : Swap) : Pure Try.prog 35 [.agg (eSwap s), .pt [.int .i64 st] 0, .pt (eBun b) 0] [.bool (decide (s.student = st) && decide (s.give = b))] := by
  refine pure_rule hT (T := tab) (N := 15) (rs := [.tmp 4]) Try.func35 rfl rfl rfl (by kernel_rfl) rfl ?_
  repeat' (first | with_reducible refine Sq.go ?_ | ((with_reducible refine Ev.mk ?_); conv => whnf) | with_reducible refine Dr.mk ⟨by kernel_rfl, by kernel_rfl⟩ ?_ | with_reducible refine obG ?_ | with_reducible refine Ob.mk ?_ ?_ | (with_reducible first | refine brT fun h => ?_ | refine brF fun h => ?_ | refine Br.mk (fun h => ?_) fun h => ?_) <;> (try simp only [bsl, beq_iff_eq, bne_iff_ne, bs2] at h) <;> (try contradiction) <;> try (exfalso; omega))
  refine ⟨congrArg D.bool ?_, True.intro⟩
  by_cases h1 : s.student = st <;> by_cases h2 : s.give.sec = b.sec <;> by_cases h3 : s.give.lab = b.lab <;> simp [h1, h2, h3, bun_eq]
def swV (s : Swap) : Bool := wit s.student 0 19999 && bunV s.give && bunV s.take && !decide (s.give = s.take) && wit s.campus 0 6 && wit s.no 1 1048576
end Go.Proofs.Ytnhadilbebgbjaa
