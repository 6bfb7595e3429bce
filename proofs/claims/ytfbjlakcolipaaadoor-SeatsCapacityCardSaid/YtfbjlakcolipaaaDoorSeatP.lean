/-
  Chapter 25: sane.
-/
import Derived.Test.YtfbjlakcolipaaaDoorSeatO
namespace Go.Proofs.YtfbjlakcolipaaaDoor
set_option linter.unusedSimpArgs false
set_option linter.unusedVariables false
open Go Go.Ab
set_option maxRecDepth 100000
set_option maxHeartbeats 0
def L0 : List Sec := [⟨5, 0, 0, 0, 3, [], [⟨2, 2, 100⟩], [], false⟩]
theorem L0F : fewS L0 := ⟨by decide, fun s hs => by
  rw [List.mem_singleton.1 hs]
  decide⟩
theorem nil25 : fewS [] := ⟨by decide, fun s hs => by cases hs⟩
def q1 : List Seat := [⟨7, 5, 2⟩]
def q2 : List Seat := [⟨3, 5, -1⟩, ⟨7, 5, 2⟩]
def q3 : List Seat := [⟨3, 5, -1⟩]
theorem sane25_ok : Pure Tryd.prog 9 [] [.bool true] := by
  have c1 := Free_ok L0 L0F [] (by decide) 5 (-1) 99
  rw [show freeT L0 [] 5 (-1) 99 = (1, 0) by decide +kernel] at c1
  have c2 := Free_ok L0 L0F [] (by decide) 5 2 99
  rw [show freeT L0 [] 5 2 99 = (3, 0) by decide +kernel] at c2
  have c3 := Free_ok L0 L0F [] (by decide) 5 (-1) 100
  rw [show freeT L0 [] 5 (-1) 100 = (3, 0) by decide +kernel] at c3
  have c4 := Take_ok L0 L0F [] (by decide) 7 ⟨5, -1⟩ [2] (by decide) 99
  rw [show takeT L0 [] 7 ⟨5, -1⟩ [2] 99 = (q1, 0) by decide +kernel] at c4
  have c5 := Take_ok L0 L0F q1 (by decide) 3 ⟨5, -1⟩ [] (by decide) 99
  rw [show takeT L0 q1 3 ⟨5, -1⟩ [] 99 = (q2, 0) by decide +kernel] at c5
  have c6 := Take_ok L0 L0F q2 (by decide) 4 ⟨5, -1⟩ [] (by decide) 99
  rw [show takeT L0 q2 4 ⟨5, -1⟩ [] 99 = ([], 251) by decide +kernel] at c6
  have c7 := leave_ok q2 (by decide) 7 ⟨5, -1⟩
  rw [show leaveT q2 7 ⟨5, -1⟩ = (q3, 0) by decide +kernel] at c7
  have c8 := Free_ok [] nil25 [] (by decide) 0 (-1) 0
  rw [show freeT [] [] 0 (-1) 0 = (0, 250) by decide +kernel] at c8
  have c9 := Free_ok [] nil25 [] (by decide) 0 8 0
  rw [show freeT [] [] 0 8 0 = (0, 1) by decide +kernel] at c9
  have c10 := leave_ok [] (by decide) 3 ⟨5, -1⟩
  rw [show leaveT [] 3 ⟨5, -1⟩ = ([], 250) by decide +kernel] at c10
  have c11 := Take_ok L0 L0F q1 (by decide) 7 ⟨5, -1⟩ [] (by decide) 99
  rw [show takeT L0 q1 7 ⟨5, -1⟩ [] 99 = ([], 250) by decide +kernel] at c11
  have d1 := sameT_ok q1 q1 (by decide) (by decide)
  rw [show decide (q1 = q1) = true by decide +kernel] at d1
  have d2 := sameT_ok q2 q2 (by decide) (by decide)
  rw [show decide (q2 = q2) = true by decide +kernel] at d2
  have d3 := sameT_ok q3 q3 (by decide) (by decide)
  rw [show decide (q3 = q3) = true by decide +kernel] at d3
  have d4 := has_ok q2 (by decide) 3 5
  rw [show tkS q2 3 5 = true by decide +kernel] at d4
  have d5 := has_ok [] (by decide) 3 5
  rw [show tkS [] 3 5 = false by decide +kernel] at d5
  have d6 := scheck_ok [] nil25 [] (by decide)
  rw [show chkT [] [] = 0 by decide +kernel] at d6
  have d7 := scheck_ok L0 L0F q1 (by decide)
  rw [show chkT L0 q1 = 0 by decide +kernel] at d7
  have d8 := scheck_ok [] nil25 q1 (by decide)
  rw [show chkT [] q1 = 250 by decide +kernel] at d8
  have hq2l : q2.length = 2 := rfl
  refine pure_rule hT (T := tab) (N := 186) (rs := [.tmp 0]) Tryd.func9 rfl rfl rfl (by kernel_rfl) rfl ?_
  repeat' (first | ((with_reducible refine Ev.mk ?_); conv => whnf) | with_reducible refine Dr.mk ⟨by kernel_rfl, by kernel_rfl⟩ ?_ | with_reducible refine obG ?_ | with_reducible refine Ob.mk ?_ ?_ | (with_reducible first | refine brT fun h => ?_ | refine brF fun h => ?_ | refine Br.mk (fun h => ?_) fun h => ?_) <;> (try simp only [bsl, beq_iff_eq, bne_iff_ne, bs2] at h) <;> (try contradiction) <;> try (exfalso; omega))
  refine Sq.go ?_
  repeat' (first | ((with_reducible refine Ev.mk ?_); conv => whnf) | with_reducible refine Dr.mk ⟨by kernel_rfl, by kernel_rfl⟩ ?_ | with_reducible refine obG ?_ | with_reducible refine Ob.mk ?_ ?_ | (with_reducible first | refine brT fun h => ?_ | refine brF fun h => ?_ | refine Br.mk (fun h => ?_) fun h => ?_) <;> (try simp only [bsl, beq_iff_eq, bne_iff_ne, bs2] at h) <;> (try contradiction) <;> try (exfalso; omega))
  refine Sq.alt (Awp.frz [0, 1] 1 (eSecs L0) (.osl' rfl (Nat.le_refl _) (fun i hi => ?_)) (vc_ok hT _ _ _ _ (Ev.o ?_)))
  · have hi : i < 1 := hi
    obtain rfl : i = 0 := by omega
    exact ⟨.d, .d, .d, .d, .d, .eq rfl, .rows rfl (Nat.le_refl _) (fun i hi => by rw [show i = 0 from Nat.lt_one_iff.1 hi]; rfl), .eq rfl, .d, True.intro⟩
  repeat' (first | with_reducible refine Sq.go ?_ | ((with_reducible refine Ev.mk ?_); conv => whnf) | with_reducible refine Dr.mk ⟨by kernel_rfl, by kernel_rfl⟩ ?_ | with_reducible refine obG ?_ | with_reducible refine Ob.mk ?_ ?_ | (with_reducible first | refine brT fun h => ?_ | refine brF fun h => ?_ | refine Br.mk (fun h => ?_) fun h => ?_) <;> (try simp only [bsl, beq_iff_eq, bne_iff_ne, bs2] at h) <;> (try contradiction) <;> try (exfalso; omega))
  refine (deqP (ds := [eSecs L0, .nils, .int .i64 5, .int .i64 (-1), .int .i64 99]) c1 ⟨⟨rfl, rfl, fun i hi => rfl⟩, rfl, rfl, rfl, rfl, True.intro⟩).call ?_
  repeat' (first | with_reducible refine Sq.go ?_ | ((with_reducible refine Ev.mk ?_); conv => whnf) | with_reducible refine Dr.mk ⟨by kernel_rfl, by kernel_rfl⟩ ?_ | with_reducible refine obG ?_ | with_reducible refine Ob.mk ?_ ?_ | (with_reducible first | refine brT fun h => ?_ | refine brF fun h => ?_ | refine Br.mk (fun h => ?_) fun h => ?_) <;> (try simp only [bsl, beq_iff_eq, bne_iff_ne, bs2] at h) <;> (try contradiction) <;> try (exfalso; omega))
  refine (deqP (ds := [eSecs L0, .nils, .int .i64 5, .int .i64 (2), .int .i64 99]) c2 ⟨⟨rfl, rfl, fun i hi => rfl⟩, rfl, rfl, rfl, rfl, True.intro⟩).call ?_
  repeat' (first | with_reducible refine Sq.go ?_ | ((with_reducible refine Ev.mk ?_); conv => whnf) | with_reducible refine Dr.mk ⟨by kernel_rfl, by kernel_rfl⟩ ?_ | with_reducible refine obG ?_ | with_reducible refine Ob.mk ?_ ?_ | (with_reducible first | refine brT fun h => ?_ | refine brF fun h => ?_ | refine Br.mk (fun h => ?_) fun h => ?_) <;> (try simp only [bsl, beq_iff_eq, bne_iff_ne, bs2] at h) <;> (try contradiction) <;> try (exfalso; omega))
  refine (deqP (ds := [eSecs L0, .nils, .int .i64 5, .int .i64 (-1), .int .i64 100]) c3 ⟨⟨rfl, rfl, fun i hi => rfl⟩, rfl, rfl, rfl, rfl, True.intro⟩).call ?_
  repeat' (first | with_reducible refine Sq.go ?_ | ((with_reducible refine Ev.mk ?_); conv => whnf) | with_reducible refine Dr.mk ⟨by kernel_rfl, by kernel_rfl⟩ ?_ | with_reducible refine obG ?_ | with_reducible refine Ob.mk ?_ ?_ | (with_reducible first | refine brT fun h => ?_ | refine brF fun h => ?_ | refine Br.mk (fun h => ?_) fun h => ?_) <;> (try simp only [bsl, beq_iff_eq, bne_iff_ne, bs2] at h) <;> (try contradiction) <;> try (exfalso; omega))
  refine CallVC.frz [3] (dargs := [eSecs L0, eSeats [], .int .i64 7, .agg (eBun ⟨5, -1⟩), eInts [2], .int .i64 99]) ⟨.d, .eq rfl, .d, .d, .rows rfl (Nat.le_refl _) (fun i hi => by rw [show i = 0 from Nat.lt_one_iff.1 hi]; rfl), .d, True.intro⟩ (c4.call ?_)
  repeat' (first | with_reducible refine Sq.go ?_ | ((with_reducible refine Ev.mk ?_); conv => whnf) | with_reducible refine Dr.mk ⟨by kernel_rfl, by kernel_rfl⟩ ?_ | with_reducible refine obG ?_ | with_reducible refine Ob.mk ?_ ?_ | (with_reducible first | refine brT fun h => ?_ | refine brF fun h => ?_ | refine Br.mk (fun h => ?_) fun h => ?_) <;> (try simp only [bsl, beq_iff_eq, bne_iff_ne, bs2] at h) <;> (try contradiction) <;> try (exfalso; omega))
  refine (deqP (ds := [eSecs L0, eSeats q1, .int .i64 3, .agg (eBun ⟨5, -1⟩), .nils, .int .i64 99]) c5 ⟨⟨rfl, rfl, fun i hi => rfl⟩, ⟨rfl, rfl, fun i hi => rfl⟩, rfl, Or.inl rfl, rfl, rfl, True.intro⟩).call ?_
  repeat' (first | with_reducible refine Sq.go ?_ | ((with_reducible refine Ev.mk ?_); conv => whnf) | with_reducible refine Dr.mk ⟨by kernel_rfl, by kernel_rfl⟩ ?_ | with_reducible refine obG ?_ | with_reducible refine Ob.mk ?_ ?_ | (with_reducible first | refine brT fun h => ?_ | refine brF fun h => ?_ | refine Br.mk (fun h => ?_) fun h => ?_) <;> (try simp only [bsl, beq_iff_eq, bne_iff_ne, bs2] at h) <;> (try contradiction) <;> try (exfalso; omega))
  refine (deqP (ds := [eSecs L0, eSeats q2, .int .i64 4, .agg (eBun ⟨5, -1⟩), .nils, .int .i64 99]) c6 ⟨⟨rfl, rfl, fun i hi => rfl⟩, ⟨rfl, rfl, fun i hi => rfl⟩, rfl, Or.inl rfl, rfl, rfl, True.intro⟩).call ?_
  repeat' (first | with_reducible refine Sq.go ?_ | ((with_reducible refine Ev.mk ?_); conv => whnf) | with_reducible refine Dr.mk ⟨by kernel_rfl, by kernel_rfl⟩ ?_ | with_reducible refine obG ?_ | with_reducible refine Ob.mk ?_ ?_ | (with_reducible first | refine brT fun h => ?_ | refine brF fun h => ?_ | refine Br.mk (fun h => ?_) fun h => ?_) <;> (try simp only [bsl, beq_iff_eq, bne_iff_ne, bs2] at h) <;> (try contradiction) <;> try (exfalso; omega))
  refine c7.call ?_
  repeat' (first | with_reducible refine Sq.go ?_ | ((with_reducible refine Ev.mk ?_); conv => whnf) | with_reducible refine Dr.mk ⟨by kernel_rfl, by kernel_rfl⟩ ?_ | with_reducible refine obG ?_ | with_reducible refine Ob.mk ?_ ?_ | (with_reducible first | refine brT fun h => ?_ | refine brF fun h => ?_ | refine Br.mk (fun h => ?_) fun h => ?_) <;> (try simp only [bsl, beq_iff_eq, bne_iff_ne, bs2] at h) <;> (try contradiction) <;> try (exfalso; omega))
  refine (deqP (ds := [.nils, .nils, .int .i64 0, .int .i64 (-1), .int .i64 0]) c8 ⟨rfl, rfl, rfl, rfl, rfl, True.intro⟩).call ?_
  repeat' (first | with_reducible refine Sq.go ?_ | ((with_reducible refine Ev.mk ?_); conv => whnf) | with_reducible refine Dr.mk ⟨by kernel_rfl, by kernel_rfl⟩ ?_ | with_reducible refine obG ?_ | with_reducible refine Ob.mk ?_ ?_ | (with_reducible first | refine brT fun h => ?_ | refine brF fun h => ?_ | refine Br.mk (fun h => ?_) fun h => ?_) <;> (try simp only [bsl, beq_iff_eq, bne_iff_ne, bs2] at h) <;> (try contradiction) <;> try (exfalso; omega))
  refine (deqP (ds := [.nils, .nils, .int .i64 0, .int .i64 8, .int .i64 0]) c9 ⟨rfl, rfl, rfl, rfl, rfl, True.intro⟩).call ?_
  repeat' (first | with_reducible refine Sq.go ?_ | ((with_reducible refine Ev.mk ?_); conv => whnf) | with_reducible refine Dr.mk ⟨by kernel_rfl, by kernel_rfl⟩ ?_ | with_reducible refine obG ?_ | with_reducible refine Ob.mk ?_ ?_ | (with_reducible first | refine brT fun h => ?_ | refine brF fun h => ?_ | refine Br.mk (fun h => ?_) fun h => ?_) <;> (try simp only [bsl, beq_iff_eq, bne_iff_ne, bs2] at h) <;> (try contradiction) <;> try (exfalso; omega))
  refine (deqP (ds := [.nils, .int .i64 3, .agg (eBun ⟨5, -1⟩)]) c10 ⟨rfl, rfl, Or.inl rfl, True.intro⟩).call ?_
  repeat' (first | with_reducible refine Sq.go ?_ | ((with_reducible refine Ev.mk ?_); conv => whnf) | with_reducible refine Dr.mk ⟨by kernel_rfl, by kernel_rfl⟩ ?_ | with_reducible refine obG ?_ | with_reducible refine Ob.mk ?_ ?_ | (with_reducible first | refine brT fun h => ?_ | refine brF fun h => ?_ | refine Br.mk (fun h => ?_) fun h => ?_) <;> (try simp only [bsl, beq_iff_eq, bne_iff_ne, bs2] at h) <;> (try contradiction) <;> try (exfalso; omega))
  refine (deqP (ds := [eSecs L0, eSeats q1, .int .i64 7, .agg (eBun ⟨5, -1⟩), .nils, .int .i64 99]) c11 ⟨⟨rfl, rfl, fun i hi => rfl⟩, ⟨rfl, rfl, fun i hi => rfl⟩, rfl, Or.inl rfl, rfl, rfl, True.intro⟩).call ?_
  repeat' (first | with_reducible refine Sq.go ?_ | ((with_reducible refine Ev.mk ?_); conv => whnf) | with_reducible refine Dr.mk ⟨by kernel_rfl, by kernel_rfl⟩ ?_ | with_reducible refine obG ?_ | with_reducible refine Ob.mk ?_ ?_ | (with_reducible first | refine brT fun h => ?_ | refine brF fun h => ?_ | refine Br.mk (fun h => ?_) fun h => ?_) <;> (try simp only [bsl, beq_iff_eq, bne_iff_ne, bs2] at h) <;> (try contradiction) <;> try (exfalso; omega))
  refine d1.loan rfl ⟨.d, .rows rfl (Nat.le_refl _) (fun i hi => by rw [show i = 0 from Nat.lt_one_iff.1 hi]; rfl), True.intro⟩ ?_
  repeat' (first | with_reducible refine Sq.go ?_ | ((with_reducible refine Ev.mk ?_); conv => whnf) | with_reducible refine Dr.mk ⟨by kernel_rfl, by kernel_rfl⟩ ?_ | with_reducible refine obG ?_ | with_reducible refine Ob.mk ?_ ?_ | (with_reducible first | refine brT fun h => ?_ | refine brF fun h => ?_ | refine Br.mk (fun h => ?_) fun h => ?_) <;> (try simp only [bsl, beq_iff_eq, bne_iff_ne, bs2] at h) <;> (try contradiction) <;> try (exfalso; omega))
  refine d2.loan rfl ⟨.d, .rows rfl (Nat.le_refl _) (fun i hi => ?_), True.intro⟩ ?_
  · have hi : i < 2 := hi
    rcases show i = 0 ∨ i = 1 by omega with rfl | rfl <;> rfl
  repeat' (first | with_reducible refine Sq.go ?_ | ((with_reducible refine Ev.mk ?_); conv => whnf) | with_reducible refine Dr.mk ⟨by kernel_rfl, by kernel_rfl⟩ ?_ | with_reducible refine obG ?_ | with_reducible refine Ob.mk ?_ ?_ | (with_reducible first | refine brT fun h => ?_ | refine brF fun h => ?_ | refine Br.mk (fun h => ?_) fun h => ?_) <;> (try simp only [bsl, beq_iff_eq, bne_iff_ne, bs2] at h) <;> (try contradiction) <;> try (exfalso; omega))
  refine (deqP (ds := [eSeats q3, .sl 3 1 fun i => eSeat (q2.getD i default)]) d3 ⟨⟨rfl, rfl, fun i hi => rfl⟩, ⟨rfl, rfl, fun i hi => ?_⟩, True.intro⟩).call ?_
  · have hi : i < 1 := hi
    obtain rfl : i = 0 := by omega
    rfl
  repeat' (first | with_reducible refine Sq.go ?_ | ((with_reducible refine Ev.mk ?_); conv => whnf) | with_reducible refine Dr.mk ⟨by kernel_rfl, by kernel_rfl⟩ ?_ | with_reducible refine obG ?_ | with_reducible refine Ob.mk ?_ ?_ | (with_reducible first | refine brT fun h => ?_ | refine brF fun h => ?_ | refine Br.mk (fun h => ?_) fun h => ?_) <;> (try simp only [bsl, beq_iff_eq, bne_iff_ne, bs2] at h) <;> (try contradiction) <;> try (exfalso; omega))
  refine d4.call ?_
  repeat' (first | with_reducible refine Sq.go ?_ | ((with_reducible refine Ev.mk ?_); conv => whnf) | with_reducible refine Dr.mk ⟨by kernel_rfl, by kernel_rfl⟩ ?_ | with_reducible refine obG ?_ | with_reducible refine Ob.mk ?_ ?_ | (with_reducible first | refine brT fun h => ?_ | refine brF fun h => ?_ | refine Br.mk (fun h => ?_) fun h => ?_) <;> (try simp only [bsl, beq_iff_eq, bne_iff_ne, bs2] at h) <;> (try contradiction) <;> try (exfalso; omega))
  refine (deqP (ds := [.nils, .int .i64 3, .int .i64 5]) d5 ⟨rfl, rfl, rfl, True.intro⟩).call ?_
  repeat' (first | with_reducible refine Sq.go ?_ | ((with_reducible refine Ev.mk ?_); conv => whnf) | with_reducible refine Dr.mk ⟨by kernel_rfl, by kernel_rfl⟩ ?_ | with_reducible refine obG ?_ | with_reducible refine Ob.mk ?_ ?_ | (with_reducible first | refine brT fun h => ?_ | refine brF fun h => ?_ | refine Br.mk (fun h => ?_) fun h => ?_) <;> (try simp only [bsl, beq_iff_eq, bne_iff_ne, bs2] at h) <;> (try contradiction) <;> try (exfalso; omega))
  refine (deqP (ds := [.nils, .nils]) d6 ⟨rfl, rfl, True.intro⟩).call ?_
  repeat' (first | with_reducible refine Sq.go ?_ | ((with_reducible refine Ev.mk ?_); conv => whnf) | with_reducible refine Dr.mk ⟨by kernel_rfl, by kernel_rfl⟩ ?_ | with_reducible refine obG ?_ | with_reducible refine Ob.mk ?_ ?_ | (with_reducible first | refine brT fun h => ?_ | refine brF fun h => ?_ | refine Br.mk (fun h => ?_) fun h => ?_) <;> (try simp only [bsl, beq_iff_eq, bne_iff_ne, bs2] at h) <;> (try contradiction) <;> try (exfalso; omega))
  refine d7.call ?_
  repeat' (first | with_reducible refine Sq.go ?_ | ((with_reducible refine Ev.mk ?_); conv => whnf) | with_reducible refine Dr.mk ⟨by kernel_rfl, by kernel_rfl⟩ ?_ | with_reducible refine obG ?_ | with_reducible refine Ob.mk ?_ ?_ | (with_reducible first | refine brT fun h => ?_ | refine brF fun h => ?_ | refine Br.mk (fun h => ?_) fun h => ?_) <;> (try simp only [bsl, beq_iff_eq, bne_iff_ne, bs2] at h) <;> (try contradiction) <;> try (exfalso; omega))
  refine (deqP (ds := [.nils, eSeats q1]) d8 ⟨rfl, ⟨rfl, rfl, fun i hi => rfl⟩, True.intro⟩).call ?_
  repeat' (first | with_reducible refine Sq.go ?_ | ((with_reducible refine Ev.mk ?_); conv => whnf) | with_reducible refine Dr.mk ⟨by kernel_rfl, by kernel_rfl⟩ ?_ | with_reducible refine obG ?_ | with_reducible refine Ob.mk ?_ ?_ | (with_reducible first | refine brT fun h => ?_ | refine brF fun h => ?_ | refine Br.mk (fun h => ?_) fun h => ?_) <;> (try simp only [bsl, beq_iff_eq, bne_iff_ne, bs2] at h) <;> (try contradiction) <;> try (exfalso; omega))
  exact ⟨rfl, True.intro⟩
end Go.Proofs.YtfbjlakcolipaaaDoor
