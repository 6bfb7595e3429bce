/-
  Sections: what check, checkAll, CheckAll and Find compute.
-/
import Derived.Test.YtfbjlakcolipaaaDoorSecA
namespace Go.Proofs.YtfbjlakcolipaaaDoor
set_option linter.unusedSimpArgs false
set_option linter.unusedVariables false
open Go Go.Ab
set_option maxRecDepth 100000
set_option maxHeartbeats 0
structure Grp where
  g : Int
  seats : Int
  til : Int
  deriving Inhabited, DecidableEq
def eGrp (s : Grp) : List D := [.int .i64 s.g, .int .i64 s.seats, .int .i64 s.til]
def eGrps (xs : List Grp) : D := .sl 3 xs.length fun i => eGrp (xs.getD i default)
structure Sec where
  id : Int
  course : Int
  term : Int
  campus : Int
  seats : Int
  meets : List Meet
  groups : List Grp
  labs : List Int
  lab : Bool
  deriving Inhabited, DecidableEq
def eSec (s : Sec) : List D := [.int .i64 s.id, .int .i64 s.course, .int .i64 s.term, .int .i64 s.campus, .int .i64 s.seats, eMeets s.meets, eGrps s.groups, eInts s.labs, .bool s.lab]
def eSecs (xs : List Sec) : D := .sl 9 xs.length fun i => eSec (xs.getD i default)
def wit (n lo hi : Int) : Bool := decide (lo ≤ n) && decide (n ≤ hi)
theorem wit_iff {n lo hi : Int} : wit n lo hi = true ↔ lo ≤ n ∧ n ≤ hi := by simp [wit]
theorem within_ok (n lo hi : Int) : Pure Tryd.prog 75 [.int .i64 n, .int .i64 lo, .int .i64 hi] [.bool (wit n lo hi)] := by
  refine pure_rule hT (T := tab) (N := 15) (rs := [.tmp 6]) Tryd.func75 rfl rfl rfl (by kernel_rfl) rfl ?_
  repeat' (first | with_reducible refine Sq.go ?_ | ((with_reducible refine Ev.mk ?_); conv => whnf) | with_reducible refine Dr.mk ⟨by kernel_rfl, by kernel_rfl⟩ ?_ | with_reducible refine obG ?_ | with_reducible refine Ob.mk ?_ ?_ | (with_reducible first | refine brT fun h => ?_ | refine brF fun h => ?_ | refine Br.mk (fun h => ?_) fun h => ?_) <;> (try simp only [bsl, beq_iff_eq, bne_iff_ne, bs2] at h) <;> (try contradiction) <;> try (exfalso; omega))
  refine ⟨congrArg D.bool ?_, True.intro⟩
  rw [wit]
  cases decide (lo ≤ n) <;> rfl
def gok : Int → List Grp → Bool
  | _, [] => true
  | last, g :: r => wit g.g (last + 1) 7 && wit g.seats 0 4096 && wit g.til 0 1048576 && gok g.g r
def gsum : List Grp → Int
  | [] => 0
  | g :: r => g.seats + gsum r
theorem gsum_snoc : ∀ (l : List Grp) (g : Grp), gsum (l ++ [g]) = gsum l + g.seats
  | [], g => by simp [gsum]
  | x :: r, g => by rw [List.cons_append, gsum, gsum_snoc r g, gsum]; omega
def lok : Int → List Int → Bool
  | _, [] => true
  | last, n :: r => wit n (last + 1) 3999 && lok n r
def formed (s : Sec) : Bool := gok (-1) s.groups && lok (-1) s.labs && (wit s.id 0 3999 && wit s.course 0 4095 && wit s.term 0 1023 && wit s.campus 0 6 && wit s.seats 0 4096 && decide ((s.groups.length : Int) ≤ 8) && decide (gsum s.groups ≤ s.seats) && !(s.lab && decide (0 < (s.labs.length : Int))))
theorem formed_ok (s : Sec) (hg : s.groups.length ≤ 1000000) (hl : s.labs.length ≤ 1000000) : Pure Tryd.prog 69 [.agg (eSec s)] [.bool (formed s)] := by
  refine pure_rule hT (T := tab) (N := 101) (rs := [.tmp 2]) Tryd.func69 rfl rfl rfl (by kernel_rfl) rfl ?_
  repeat' (first | with_reducible refine Sq.go ?_ | ((with_reducible refine Ev.mk ?_); conv => whnf) | with_reducible refine Dr.mk ⟨by kernel_rfl, by kernel_rfl⟩ ?_ | with_reducible refine obG ?_ | with_reducible refine Ob.mk ?_ ?_ | (with_reducible first | refine brT fun h => ?_ | refine brF fun h => ?_ | refine Br.mk (fun h => ?_) fun h => ?_) <;> (try simp only [bsl, beq_iff_eq, bne_iff_ne, bs2] at h) <;> (try contradiction) <;> try (exfalso; omega))
  refine loop_rule hT (S := Nat × Int × Int) (fun q => ([(1, .ptr (.loc 0) 0 0 0), (3, .d (.int .i64 q.2.1)), (4, .d (.int .i64 q.2.2)), (10, .d (eGrps s.groups)), (11, .d (.int .i64 s.groups.length)), (12, .d (.int .i64 q.1))], ⟨[some (.box 85 (up (eSec s)))], []⟩))
    (fun q => q.1 ≤ s.groups.length ∧ gok (-1) s.groups = gok q.2.2 (s.groups.drop q.1) ∧ q.2.1 = gsum (s.groups.take q.1) ∧ -1 ≤ q.2.2 ∧ q.2.2 ≤ 7 ∧ 0 ≤ q.2.1 ∧ q.2.1 ≤ 4096 * q.1) (fun q => s.groups.length - q.1) (0, 0, -1) ?_ ?_ ?_
  · repeat' (first | exact True.intro | exact rfl | exact Nat.le_refl _ | refine And.intro ?_ ?_)
  · exact ⟨Nat.zero_le _, rfl, rfl, by decide, by decide, by decide, by decide⟩
  · rintro ⟨k, all, last⟩ ⟨hk, h1, h2, h3, h4, h5, h6⟩
    dsimp only at hk h1 h2 h3 h4 h5 h6
    by_cases hk2 : k < s.groups.length
    · have hd := drop_at (xs := s.groups) (k := k) hk2
      have ht := take_succ_at (xs := s.groups) (k := k) hk2
      rw [hd, gok] at h1
      repeat' (first | with_reducible refine Sq.go ?_ | ((with_reducible refine Ev.mk ?_); conv => whnf) | with_reducible refine Dr.mk ⟨by kernel_rfl, by kernel_rfl⟩ ?_ | with_reducible refine obG ?_ | with_reducible refine Ob.mk ?_ ?_ | (with_reducible first | refine brT fun h => ?_ | refine brF fun h => ?_ | refine Br.mk (fun h => ?_) fun h => ?_) <;> (try simp only [bsl, beq_iff_eq, bne_iff_ne, bs2] at h) <;> (try contradiction) <;> try (exfalso; omega))
      refine callB (within_ok (s.groups.getD k default).g (last + 1) 7) (fun hw1 => ?_) (fun hw1 => ?_)
      · repeat' (first | with_reducible refine Sq.go ?_ | ((with_reducible refine Ev.mk ?_); conv => whnf) | with_reducible refine Dr.mk ⟨by kernel_rfl, by kernel_rfl⟩ ?_ | with_reducible refine obG ?_ | with_reducible refine Ob.mk ?_ ?_ | (with_reducible first | refine brT fun h => ?_ | refine brF fun h => ?_ | refine Br.mk (fun h => ?_) fun h => ?_) <;> (try simp only [bsl, beq_iff_eq, bne_iff_ne, bs2] at h) <;> (try contradiction) <;> try (exfalso; omega))
        refine ⟨congrArg D.bool ?_, True.intro⟩
        rw [formed, h1, hw1]
        rfl
      have hw1' := wit_iff.1 hw1
      repeat' (first | with_reducible refine Sq.go ?_ | ((with_reducible refine Ev.mk ?_); conv => whnf) | with_reducible refine Dr.mk ⟨by kernel_rfl, by kernel_rfl⟩ ?_ | with_reducible refine obG ?_ | with_reducible refine Ob.mk ?_ ?_ | (with_reducible first | refine brT fun h => ?_ | refine brF fun h => ?_ | refine Br.mk (fun h => ?_) fun h => ?_) <;> (try simp only [bsl, beq_iff_eq, bne_iff_ne, bs2] at h) <;> (try contradiction) <;> try (exfalso; omega))
      refine callB (within_ok (s.groups.getD k default).seats 0 4096) (fun hw2 => ?_) (fun hw2 => ?_)
      · repeat' (first | with_reducible refine Sq.go ?_ | ((with_reducible refine Ev.mk ?_); conv => whnf) | with_reducible refine Dr.mk ⟨by kernel_rfl, by kernel_rfl⟩ ?_ | with_reducible refine obG ?_ | with_reducible refine Ob.mk ?_ ?_ | (with_reducible first | refine brT fun h => ?_ | refine brF fun h => ?_ | refine Br.mk (fun h => ?_) fun h => ?_) <;> (try simp only [bsl, beq_iff_eq, bne_iff_ne, bs2] at h) <;> (try contradiction) <;> try (exfalso; omega))
        refine ⟨congrArg D.bool ?_, True.intro⟩
        rw [formed, h1, hw1, hw2]
        rfl
      have hw2' := wit_iff.1 hw2
      repeat' (first | with_reducible refine Sq.go ?_ | ((with_reducible refine Ev.mk ?_); conv => whnf) | with_reducible refine Dr.mk ⟨by kernel_rfl, by kernel_rfl⟩ ?_ | with_reducible refine obG ?_ | with_reducible refine Ob.mk ?_ ?_ | (with_reducible first | refine brT fun h => ?_ | refine brF fun h => ?_ | refine Br.mk (fun h => ?_) fun h => ?_) <;> (try simp only [bsl, beq_iff_eq, bne_iff_ne, bs2] at h) <;> (try contradiction) <;> try (exfalso; omega))
      refine callB (within_ok (s.groups.getD k default).til 0 1048576) (fun hw3 => ?_) (fun hw3 => ?_)
      · repeat' (first | with_reducible refine Sq.go ?_ | ((with_reducible refine Ev.mk ?_); conv => whnf) | with_reducible refine Dr.mk ⟨by kernel_rfl, by kernel_rfl⟩ ?_ | with_reducible refine obG ?_ | with_reducible refine Ob.mk ?_ ?_ | (with_reducible first | refine brT fun h => ?_ | refine brF fun h => ?_ | refine Br.mk (fun h => ?_) fun h => ?_) <;> (try simp only [bsl, beq_iff_eq, bne_iff_ne, bs2] at h) <;> (try contradiction) <;> try (exfalso; omega))
        refine ⟨congrArg D.bool ?_, True.intro⟩
        rw [formed, h1, hw1, hw2, hw3]
        rfl
      rw [hw1, hw2, hw3] at h1
      repeat' (first | with_reducible refine Sq.go ?_ | ((with_reducible refine Ev.mk ?_); conv => whnf) | with_reducible refine Dr.mk ⟨by kernel_rfl, by kernel_rfl⟩ ?_ | with_reducible refine obG ?_ | with_reducible refine Ob.mk ?_ ?_ | (with_reducible first | refine brT fun h => ?_ | refine brF fun h => ?_ | refine Br.mk (fun h => ?_) fun h => ?_) <;> (try simp only [bsl, beq_iff_eq, bne_iff_ne, bs2] at h) <;> (try contradiction) <;> try (exfalso; omega))
      refine ⟨(k + 1, all + (s.groups.getD k default).seats, (s.groups.getD k default).g), ⟨by show k + 1 ≤ s.groups.length; omega, ?_, ?_, ?_, ?_, ?_, ?_⟩, by show s.groups.length - (k + 1) < s.groups.length - k; omega, ?_⟩
      · rw [h1]; rfl
      · rw [ht, gsum_snoc, h2]
      · show -1 ≤ (s.groups.getD k default).g; omega
      · show (s.groups.getD k default).g ≤ 7; omega
      · show 0 ≤ all + (s.groups.getD k default).seats; omega
      · show all + (s.groups.getD k default).seats ≤ 4096 * ((k + 1 : Nat) : Int); omega
      · repeat' (first | exact True.intro | exact rfl | exact Nat.le_refl _ | refine And.intro ?_ ?_)
    · have hk3 : k = s.groups.length := by omega
      subst hk3
      rw [List.take_length] at h2
      rw [drop_end (Nat.le_refl _), gok] at h1
      repeat' (first | with_reducible refine Sq.go ?_ | ((with_reducible refine Ev.mk ?_); conv => whnf) | with_reducible refine Dr.mk ⟨by kernel_rfl, by kernel_rfl⟩ ?_ | with_reducible refine obG ?_ | with_reducible refine Ob.mk ?_ ?_ | (with_reducible first | refine brT fun h => ?_ | refine brF fun h => ?_ | refine Br.mk (fun h => ?_) fun h => ?_) <;> (try simp only [bsl, beq_iff_eq, bne_iff_ne, bs2] at h) <;> (try contradiction) <;> try (exfalso; omega))
      refine loop_rule hT (S := Nat × Int) (fun q => ([(1, .ptr (.loc 0) 0 0 0), (3, .d (.int .i64 all)), (4, .d (.int .i64 q.2)), (42, .d (eInts s.labs)), (43, .d (.int .i64 s.labs.length)), (44, .d (.int .i64 q.1))], ⟨[some (.box 85 (up (eSec s)))], []⟩))
        (fun q => q.1 ≤ s.labs.length ∧ lok (-1) s.labs = lok q.2 (s.labs.drop q.1) ∧ -1 ≤ q.2 ∧ q.2 ≤ 3999) (fun q => s.labs.length - q.1) (0, -1) ?_ ?_ ?_
      · repeat' (first | exact True.intro | exact rfl | exact Nat.le_refl _ | refine And.intro ?_ ?_)
      · exact ⟨Nat.zero_le _, rfl, by decide, by decide⟩
      · rintro ⟨k, last⟩ ⟨hk, h7, h8, h9⟩
        dsimp only at hk h7 h8 h9
        by_cases hk2 : k < s.labs.length
        · have hd := drop_at (xs := s.labs) (k := k) hk2
          rw [hd, lok] at h7
          repeat' (first | with_reducible refine Sq.go ?_ | ((with_reducible refine Ev.mk ?_); conv => whnf) | with_reducible refine Dr.mk ⟨by kernel_rfl, by kernel_rfl⟩ ?_ | with_reducible refine obG ?_ | with_reducible refine Ob.mk ?_ ?_ | (with_reducible first | refine brT fun h => ?_ | refine brF fun h => ?_ | refine Br.mk (fun h => ?_) fun h => ?_) <;> (try simp only [bsl, beq_iff_eq, bne_iff_ne, bs2] at h) <;> (try contradiction) <;> try (exfalso; omega))
          refine callB (within_ok (s.labs.getD k default) (last + 1) 3999) (fun hw1 => ?_) (fun hw1 => ?_)
          · repeat' (first | with_reducible refine Sq.go ?_ | ((with_reducible refine Ev.mk ?_); conv => whnf) | with_reducible refine Dr.mk ⟨by kernel_rfl, by kernel_rfl⟩ ?_ | with_reducible refine obG ?_ | with_reducible refine Ob.mk ?_ ?_ | (with_reducible first | refine brT fun h => ?_ | refine brF fun h => ?_ | refine Br.mk (fun h => ?_) fun h => ?_) <;> (try simp only [bsl, beq_iff_eq, bne_iff_ne, bs2] at h) <;> (try contradiction) <;> try (exfalso; omega))
            refine ⟨congrArg D.bool ?_, True.intro⟩
            rw [formed, h1, h7, hw1]
            rfl
          have hw1' := wit_iff.1 hw1
          rw [hw1] at h7
          repeat' (first | with_reducible refine Sq.go ?_ | ((with_reducible refine Ev.mk ?_); conv => whnf) | with_reducible refine Dr.mk ⟨by kernel_rfl, by kernel_rfl⟩ ?_ | with_reducible refine obG ?_ | with_reducible refine Ob.mk ?_ ?_ | (with_reducible first | refine brT fun h => ?_ | refine brF fun h => ?_ | refine Br.mk (fun h => ?_) fun h => ?_) <;> (try simp only [bsl, beq_iff_eq, bne_iff_ne, bs2] at h) <;> (try contradiction) <;> try (exfalso; omega))
          refine ⟨(k + 1, s.labs.getD k default), ⟨by show k + 1 ≤ s.labs.length; omega, ?_, ?_, ?_⟩, by show s.labs.length - (k + 1) < s.labs.length - k; omega, ?_⟩
          · rw [h7]; rfl
          · show -1 ≤ s.labs.getD k default; omega
          · exact hw1'.2
          · repeat' (first | exact True.intro | exact rfl | exact Nat.le_refl _ | refine And.intro ?_ ?_)
        · rw [drop_end (by omega), lok] at h7
          repeat' (first | with_reducible refine Sq.go ?_ | ((with_reducible refine Ev.mk ?_); conv => whnf) | with_reducible refine Dr.mk ⟨by kernel_rfl, by kernel_rfl⟩ ?_ | with_reducible refine obG ?_ | with_reducible refine Ob.mk ?_ ?_ | (with_reducible first | refine brT fun h => ?_ | refine brF fun h => ?_ | refine Br.mk (fun h => ?_) fun h => ?_) <;> (try simp only [bsl, beq_iff_eq, bne_iff_ne, bs2] at h) <;> (try contradiction) <;> try (exfalso; omega))
          refine callB (within_ok _ _ _) (fun hw1 => ?_) (fun hw1 => ?_)
          · repeat' (first | with_reducible refine Sq.go ?_ | ((with_reducible refine Ev.mk ?_); conv => whnf) | with_reducible refine Dr.mk ⟨by kernel_rfl, by kernel_rfl⟩ ?_ | with_reducible refine obG ?_ | with_reducible refine Ob.mk ?_ ?_ | (with_reducible first | refine brT fun h => ?_ | refine brF fun h => ?_ | refine Br.mk (fun h => ?_) fun h => ?_) <;> (try simp only [bsl, beq_iff_eq, bne_iff_ne, bs2] at h) <;> (try contradiction) <;> try (exfalso; omega))
            refine ⟨congrArg D.bool ?_, True.intro⟩
            simp [formed, hw1]
          repeat' (first | with_reducible refine Sq.go ?_ | ((with_reducible refine Ev.mk ?_); conv => whnf) | with_reducible refine Dr.mk ⟨by kernel_rfl, by kernel_rfl⟩ ?_ | with_reducible refine obG ?_ | with_reducible refine Ob.mk ?_ ?_ | (with_reducible first | refine brT fun h => ?_ | refine brF fun h => ?_ | refine Br.mk (fun h => ?_) fun h => ?_) <;> (try simp only [bsl, beq_iff_eq, bne_iff_ne, bs2] at h) <;> (try contradiction) <;> try (exfalso; omega))
          refine callB (within_ok _ _ _) (fun hw2 => ?_) (fun hw2 => ?_)
          · repeat' (first | with_reducible refine Sq.go ?_ | ((with_reducible refine Ev.mk ?_); conv => whnf) | with_reducible refine Dr.mk ⟨by kernel_rfl, by kernel_rfl⟩ ?_ | with_reducible refine obG ?_ | with_reducible refine Ob.mk ?_ ?_ | (with_reducible first | refine brT fun h => ?_ | refine brF fun h => ?_ | refine Br.mk (fun h => ?_) fun h => ?_) <;> (try simp only [bsl, beq_iff_eq, bne_iff_ne, bs2] at h) <;> (try contradiction) <;> try (exfalso; omega))
            refine ⟨congrArg D.bool ?_, True.intro⟩
            simp [formed, hw2]
          repeat' (first | with_reducible refine Sq.go ?_ | ((with_reducible refine Ev.mk ?_); conv => whnf) | with_reducible refine Dr.mk ⟨by kernel_rfl, by kernel_rfl⟩ ?_ | with_reducible refine obG ?_ | with_reducible refine Ob.mk ?_ ?_ | (with_reducible first | refine brT fun h => ?_ | refine brF fun h => ?_ | refine Br.mk (fun h => ?_) fun h => ?_) <;> (try simp only [bsl, beq_iff_eq, bne_iff_ne, bs2] at h) <;> (try contradiction) <;> try (exfalso; omega))
          refine callB (within_ok _ _ _) (fun hw3 => ?_) (fun hw3 => ?_)
          · repeat' (first | with_reducible refine Sq.go ?_ | ((with_reducible refine Ev.mk ?_); conv => whnf) | with_reducible refine Dr.mk ⟨by kernel_rfl, by kernel_rfl⟩ ?_ | with_reducible refine obG ?_ | with_reducible refine Ob.mk ?_ ?_ | (with_reducible first | refine brT fun h => ?_ | refine brF fun h => ?_ | refine Br.mk (fun h => ?_) fun h => ?_) <;> (try simp only [bsl, beq_iff_eq, bne_iff_ne, bs2] at h) <;> (try contradiction) <;> try (exfalso; omega))
            refine ⟨congrArg D.bool ?_, True.intro⟩
            simp [formed, hw3]
          repeat' (first | with_reducible refine Sq.go ?_ | ((with_reducible refine Ev.mk ?_); conv => whnf) | with_reducible refine Dr.mk ⟨by kernel_rfl, by kernel_rfl⟩ ?_ | with_reducible refine obG ?_ | with_reducible refine Ob.mk ?_ ?_ | (with_reducible first | refine brT fun h => ?_ | refine brF fun h => ?_ | refine Br.mk (fun h => ?_) fun h => ?_) <;> (try simp only [bsl, beq_iff_eq, bne_iff_ne, bs2] at h) <;> (try contradiction) <;> try (exfalso; omega))
          refine callB (within_ok _ _ _) (fun hw4 => ?_) (fun hw4 => ?_)
          · repeat' (first | with_reducible refine Sq.go ?_ | ((with_reducible refine Ev.mk ?_); conv => whnf) | with_reducible refine Dr.mk ⟨by kernel_rfl, by kernel_rfl⟩ ?_ | with_reducible refine obG ?_ | with_reducible refine Ob.mk ?_ ?_ | (with_reducible first | refine brT fun h => ?_ | refine brF fun h => ?_ | refine Br.mk (fun h => ?_) fun h => ?_) <;> (try simp only [bsl, beq_iff_eq, bne_iff_ne, bs2] at h) <;> (try contradiction) <;> try (exfalso; omega))
            refine ⟨congrArg D.bool ?_, True.intro⟩
            simp [formed, hw4]
          repeat' (first | with_reducible refine Sq.go ?_ | ((with_reducible refine Ev.mk ?_); conv => whnf) | with_reducible refine Dr.mk ⟨by kernel_rfl, by kernel_rfl⟩ ?_ | with_reducible refine obG ?_ | with_reducible refine Ob.mk ?_ ?_ | (with_reducible first | refine brT fun h => ?_ | refine brF fun h => ?_ | refine Br.mk (fun h => ?_) fun h => ?_) <;> (try simp only [bsl, beq_iff_eq, bne_iff_ne, bs2] at h) <;> (try contradiction) <;> try (exfalso; omega))
          refine callB (within_ok _ _ _) (fun hw5 => ?_) (fun hw5 => ?_)
          · repeat' (first | with_reducible refine Sq.go ?_ | ((with_reducible refine Ev.mk ?_); conv => whnf) | with_reducible refine Dr.mk ⟨by kernel_rfl, by kernel_rfl⟩ ?_ | with_reducible refine obG ?_ | with_reducible refine Ob.mk ?_ ?_ | (with_reducible first | refine brT fun h => ?_ | refine brF fun h => ?_ | refine Br.mk (fun h => ?_) fun h => ?_) <;> (try simp only [bsl, beq_iff_eq, bne_iff_ne, bs2] at h) <;> (try contradiction) <;> try (exfalso; omega))
            refine ⟨congrArg D.bool ?_, True.intro⟩
            simp [formed, hw5]
          repeat' (first | with_reducible refine Sq.go ?_ | ((with_reducible refine Ev.mk ?_); conv => whnf) | with_reducible refine Dr.mk ⟨by kernel_rfl, by kernel_rfl⟩ ?_ | with_reducible refine obG ?_ | with_reducible refine Ob.mk ?_ ?_ | (with_reducible first | refine brT fun h => ?_ | refine brF fun h => ?_ | refine Br.mk (fun h => ?_) fun h => ?_) <;> (try simp only [bsl, beq_iff_eq, bne_iff_ne, bs2] at h) <;> (try contradiction) <;> try (exfalso; omega))
          refine ⟨congrArg D.bool ?_, True.intro⟩
          rw [formed, h1, h7, hw1, hw2, hw3, hw4, hw5, ← h2]
          simp
def chkS (s : Sec) : Int := if formed s = true then mcheck s.meets else 230
theorem check_ok (s : Sec) (hg : s.groups.length ≤ 1000000) (hl : s.labs.length ≤ 1000000) : Pure Tryd.prog 57 [.agg (eSec s)] [eErr (chkS s)] := by
  refine pure_rule hT (T := tab) (N := 17) (rs := [.tmp 2]) Tryd.func57 rfl rfl rfl (by kernel_rfl) rfl ?_
  repeat' (first | with_reducible refine Sq.go ?_ | ((with_reducible refine Ev.mk ?_); conv => whnf) | with_reducible refine Dr.mk ⟨by kernel_rfl, by kernel_rfl⟩ ?_ | with_reducible refine obG ?_ | with_reducible refine Ob.mk ?_ ?_ | (with_reducible first | refine brT fun h => ?_ | refine brF fun h => ?_ | refine Br.mk (fun h => ?_) fun h => ?_) <;> (try simp only [bsl, beq_iff_eq, bne_iff_ne, bs2] at h) <;> (try contradiction) <;> try (exfalso; omega))
  refine callB (formed_ok s hg hl) (fun hf => ?_) (fun hf => ?_)
  · repeat' (first | with_reducible refine Sq.go ?_ | ((with_reducible refine Ev.mk ?_); conv => whnf) | with_reducible refine Dr.mk ⟨by kernel_rfl, by kernel_rfl⟩ ?_ | with_reducible refine obG ?_ | with_reducible refine Ob.mk ?_ ?_ | (with_reducible first | refine brT fun h => ?_ | refine brF fun h => ?_ | refine Br.mk (fun h => ?_) fun h => ?_) <;> (try simp only [bsl, beq_iff_eq, bne_iff_ne, bs2] at h) <;> (try contradiction) <;> try (exfalso; omega))
    rw [show chkS s = 230 by simp [chkS, hf]]
    exact ⟨rfl, True.intro⟩
  · repeat' (first | with_reducible refine Sq.go ?_ | ((with_reducible refine Ev.mk ?_); conv => whnf) | with_reducible refine Dr.mk ⟨by kernel_rfl, by kernel_rfl⟩ ?_ | with_reducible refine obG ?_ | with_reducible refine Ob.mk ?_ ?_ | (with_reducible first | refine brT fun h => ?_ | refine brF fun h => ?_ | refine Br.mk (fun h => ?_) fun h => ?_) <;> (try simp only [bsl, beq_iff_eq, bne_iff_ne, bs2] at h) <;> (try contradiction) <;> try (exfalso; omega))
    have hc : chkS s = mcheck s.meets := by simp [chkS, hf]
    refine callZ (meetCheck_ok s.meets) (fun h0 => ?_) (fun h0 => ?_)
    · repeat' (first | with_reducible refine Sq.go ?_ | ((with_reducible refine Ev.mk ?_); conv => whnf) | with_reducible refine Dr.mk ⟨by kernel_rfl, by kernel_rfl⟩ ?_ | with_reducible refine obG ?_ | with_reducible refine Ob.mk ?_ ?_ | (with_reducible first | refine brT fun h => ?_ | refine brF fun h => ?_ | refine Br.mk (fun h => ?_) fun h => ?_) <;> (try simp only [bsl, beq_iff_eq, bne_iff_ne, bs2] at h) <;> (try contradiction) <;> try (exfalso; omega))
      rw [hc, h0]
      exact ⟨rfl, True.intro⟩
    · repeat' (first | with_reducible refine Sq.go ?_ | ((with_reducible refine Ev.mk ?_); conv => whnf) | with_reducible refine Dr.mk ⟨by kernel_rfl, by kernel_rfl⟩ ?_ | with_reducible refine obG ?_ | with_reducible refine Ob.mk ?_ ?_ | (with_reducible first | refine brT fun h => ?_ | refine brF fun h => ?_ | refine Br.mk (fun h => ?_) fun h => ?_) <;> (try simp only [bsl, beq_iff_eq, bne_iff_ne, bs2] at h) <;> (try contradiction) <;> try (exfalso; omega))
      rw [hc, show eErr (mcheck s.meets) = _ from if_neg h0]
      exact ⟨rfl, True.intro⟩
theorem idxSec_ok (xs : List Sec) (hx : xs.length ≤ 1000000) (f : FuncId) (c0 : D) (p : Sec → Bool) (hp : ∀ s, s ∈ xs → Pure Tryd.prog f [.agg (eSec s), c0] [.bool (p s)]) :
    Pure Tryd.prog 39 [eSecs xs, .fn (.func f) [] [c0]] [.int .i64 (ix p xs 0)] := by
  refine pure_rule hT (T := tab) (N := 19) (rs := [.tmp 4]) Tryd.func39 rfl rfl rfl (by kernel_rfl) rfl ?_
  repeat' (first | with_reducible refine Sq.go ?_ | ((with_reducible refine Ev.mk ?_); conv => whnf) | with_reducible refine Dr.mk ⟨by kernel_rfl, by kernel_rfl⟩ ?_ | with_reducible refine obG ?_ | with_reducible refine Ob.mk ?_ ?_ | (with_reducible first | refine brT fun h => ?_ | refine brF fun h => ?_ | refine Br.mk (fun h => ?_) fun h => ?_) <;> (try simp only [bsl, beq_iff_eq, bne_iff_ne, bs2] at h) <;> (try contradiction) <;> try (exfalso; omega))
  refine loop_rule hT (S := Nat) (fun k => ([(0, .d (eSecs xs)), (1, .d (.fn (.func f) [] [c0])), (7, .d (.int .i64 xs.length)), (8, .d (.int .i64 k))], ⟨[], []⟩)) (fun k => k ≤ xs.length ∧ ix p xs 0 = ix p (xs.drop k) k) (fun k => xs.length - k) 0 ?_ ?_ ?_
  · repeat' (first | exact True.intro | exact rfl | exact Nat.le_refl _ | refine And.intro ?_ ?_)
  · exact ⟨Nat.zero_le _, rfl⟩
  · rintro k ⟨hk, hc⟩
    repeat' (first | with_reducible refine Sq.go ?_ | ((with_reducible refine Ev.mk ?_); conv => whnf) | with_reducible refine Dr.mk ⟨by kernel_rfl, by kernel_rfl⟩ ?_ | with_reducible refine obG ?_ | with_reducible refine Ob.mk ?_ ?_ | (with_reducible first | refine brT fun h => ?_ | refine brF fun h => ?_ | refine Br.mk (fun h => ?_) fun h => ?_) <;> (try simp only [bsl, beq_iff_eq, bne_iff_ne, bs2] at h) <;> (try contradiction) <;> try (exfalso; omega))
    · refine ⟨⟨f, [], [.d c0], .inr ⟨[], [c0], rfl, rfl, rfl⟩, (hp (xs.getD k default) (getD_mem (by omega))).call ?_⟩⟩
      repeat' (first | with_reducible refine Sq.go ?_ | ((with_reducible refine Ev.mk ?_); conv => whnf) | with_reducible refine Dr.mk ⟨by kernel_rfl, by kernel_rfl⟩ ?_ | with_reducible refine obG ?_ | with_reducible refine Ob.mk ?_ ?_ | (with_reducible first | refine brT fun h => ?_ | refine brF fun h => ?_ | refine Br.mk (fun h => ?_) fun h => ?_) <;> (try simp only [bsl, beq_iff_eq, bne_iff_ne, bs2] at h) <;> (try contradiction) <;> try (exfalso; omega))
      · refine ⟨congrArg (D.int .i64) ?_, True.intro⟩
        rw [hc, drop_at (by omega), ix, if_pos h]
      · refine ⟨k + 1, ⟨by show k + 1 ≤ xs.length; omega, ?_⟩, by show xs.length - (k + 1) < xs.length - k; omega, ?_⟩
        · rw [hc, drop_at (by omega), ix, if_neg (by rw [h]; exact Bool.false_ne_true)]
          rfl
        · repeat' (first | exact True.intro | exact rfl | exact Nat.le_refl _ | refine And.intro ?_ ?_)
    · refine ⟨congrArg (D.int .i64) ?_, True.intro⟩
      have : k = xs.length := by omega
      rw [hc]
      simp [this, ix]
theorem number_ok (s : Sec) : Pure Tryd.prog 41 [.agg (eSec s)] [.int .i64 s.id] := by
  refine pure_rule hT (T := tab) (N := 5) (rs := [.tmp 2]) Tryd.func41 rfl rfl rfl (by kernel_rfl) rfl ?_
  repeat' (first | with_reducible refine Sq.go ?_ | ((with_reducible refine Ev.mk ?_); conv => whnf) | with_reducible refine Dr.mk ⟨by kernel_rfl, by kernel_rfl⟩ ?_ | with_reducible refine obG ?_ | with_reducible refine Ob.mk ?_ ?_ | (with_reducible first | refine brT fun h => ?_ | refine brF fun h => ?_ | refine Br.mk (fun h => ?_) fun h => ?_) <;> (try simp only [bsl, beq_iff_eq, bne_iff_ne, bs2] at h) <;> (try contradiction) <;> try (exfalso; omega))
  refine ⟨congrArg (D.int .i64) ?_, True.intro⟩
  rfl
theorem find1_ok (s : Sec) (n : Int) : Pure Tryd.prog 40 [.agg (eSec s), .pt [.int .i64 n] 0] [.bool (decide (s.id = n))] := by
  refine pure_rule hT (T := tab) (N := 8) (rs := [.tmp 3]) Tryd.func40 rfl rfl rfl (by kernel_rfl) rfl ?_
  repeat' (first | with_reducible refine Sq.go ?_ | ((with_reducible refine Ev.mk ?_); conv => whnf) | with_reducible refine Dr.mk ⟨by kernel_rfl, by kernel_rfl⟩ ?_ | with_reducible refine obG ?_ | with_reducible refine Ob.mk ?_ ?_ | (with_reducible first | refine brT fun h => ?_ | refine brF fun h => ?_ | refine Br.mk (fun h => ?_) fun h => ?_) <;> (try simp only [bsl, beq_iff_eq, bne_iff_ne, bs2] at h) <;> (try contradiction) <;> try (exfalso; omega))
  refine qI (number_ok s) ?_
  repeat' (first | with_reducible refine Sq.go ?_ | ((with_reducible refine Ev.mk ?_); conv => whnf) | with_reducible refine Dr.mk ⟨by kernel_rfl, by kernel_rfl⟩ ?_ | with_reducible refine obG ?_ | with_reducible refine Ob.mk ?_ ?_ | (with_reducible first | refine brT fun h => ?_ | refine brF fun h => ?_ | refine Br.mk (fun h => ?_) fun h => ?_) <;> (try simp only [bsl, beq_iff_eq, bne_iff_ne, bs2] at h) <;> (try contradiction) <;> try (exfalso; omega))
  refine ⟨congrArg D.bool ?_, True.intro⟩
  rfl
def findS (l : List Sec) (n : Int) : Option Sec := l.find? fun s => decide (s.id = n)
def eFind (o : Option Sec) : List D := [.agg (eSec (o.getD default)), .bool o.isSome]
theorem find_ok (l : List Sec) (hx : l.length ≤ 1000000) (n : Int) : Pure Tryd.prog 20 [eSecs l, .int .i64 n] (eFind (findS l n)) := by
  refine pure_rule hT (T := tab) (N := 17) (rs := [.cell 4 44, .tmp 5]) Tryd.func20 rfl rfl rfl (by kernel_rfl) rfl ?_
  repeat' (first | with_reducible refine Sq.go ?_ | ((with_reducible refine Ev.mk ?_); conv => whnf) | with_reducible refine Dr.mk ⟨by kernel_rfl, by kernel_rfl⟩ ?_ | with_reducible refine obG ?_ | with_reducible refine Ob.mk ?_ ?_ | (with_reducible first | refine brT fun h => ?_ | refine brF fun h => ?_ | refine Br.mk (fun h => ?_) fun h => ?_) <;> (try simp only [bsl, beq_iff_eq, bne_iff_ne, bs2] at h) <;> (try contradiction) <;> try (exfalso; omega))
  refine (idxSec_ok l hx 40 (.pt [.int .i64 n] 0) _ (fun s _ => find1_ok s n)).loan rfl ⟨.d, .fn' True.intro ⟨.ptr' rfl ⟨.d, True.intro⟩, True.intro⟩, True.intro⟩ ?_
  obtain ⟨hp, hn⟩ := ix_find (fun s : Sec => decide (s.id = n)) l 0
  obtain ⟨hlt, hge⟩ := ix_lt (fun s : Sec => decide (s.id = n)) l 0 (by decide)
  simp only [Int.natCast_zero, Int.zero_add, Nat.sub_zero] at hp hn hlt
  generalize ix (fun s : Sec => decide (s.id = n)) l 0 = i at hp hn hlt hge
  by_cases hi : i < 0
  · repeat' (first | with_reducible refine Sq.go ?_ | ((with_reducible refine Ev.mk ?_); conv => whnf) | with_reducible refine Dr.mk ⟨by kernel_rfl, by kernel_rfl⟩ ?_ | with_reducible refine obG ?_ | with_reducible refine Ob.mk ?_ ?_ | (with_reducible first | refine brT fun h => ?_ | refine brF fun h => ?_ | refine Br.mk (fun h => ?_) fun h => ?_) <;> (try simp only [bsl, beq_iff_eq, bne_iff_ne, bs2] at h) <;> (try contradiction) <;> try (exfalso; omega))
    rw [findS, hn hi]
    refine ⟨Or.inr ?_, rfl, True.intro⟩
    repeat' (first | exact True.intro | exact rfl | exact Nat.le_refl _ | refine And.intro ?_ ?_)
  · repeat' (first | with_reducible refine Sq.go ?_ | ((with_reducible refine Ev.mk ?_); conv => whnf) | with_reducible refine Dr.mk ⟨by kernel_rfl, by kernel_rfl⟩ ?_ | with_reducible refine obG ?_ | with_reducible refine Ob.mk ?_ ?_ | (with_reducible first | refine brT fun h => ?_ | refine brF fun h => ?_ | refine Br.mk (fun h => ?_) fun h => ?_) <;> (try simp only [bsl, beq_iff_eq, bne_iff_ne, bs2] at h) <;> (try contradiction) <;> try (exfalso; omega))
    rw [findS, (hp (by omega)).1]
    exact ⟨Or.inl rfl, rfl, True.intro⟩
end Go.Proofs.YtfbjlakcolipaaaDoor
