/-
  Rules: what is asked of a part (rules.formed), by the table of kinds.
-/
import Derived.Test.YtmlhghddfobmmaaGreatDoorRatA
namespace Go.Proofs.YtmlhghddfobmmaaGreatDoor
set_option linter.unusedSimpArgs false
set_option linter.unusedVariables false
open Go Go.Ab
set_option maxRecDepth 100000
set_option maxHeartbeats 0
/-- The numbers of a rule fit. -/
def In1 (r : Rule) : Prop := In .i64 r.op ∧ In .i64 r.course ∧ In .i64 r.n ∧ In .i64 r.d ∧ r.kids.length < 9223372036854775808
theorem within_ok (n lo hi : Int) : Pure Tryz.prog 219 [.int .i64 n, .int .i64 lo, .int .i64 hi] [.bool (bw n lo hi)] := by
  refine pure_rule hT (T := tab) (N := 15) (rs := [.tmp 6]) Tryz.func219 rfl rfl rfl (by kernel_rfl) rfl ?_
  by_cases h1 : lo ≤ n <;> by_cases h2 : n ≤ hi <;> ((refine gW ?_; intros)) <;> (refine ⟨congrArg D.bool ?_, True.intro⟩) <;> simp [bw, h1, h2]
theorem chkQ_zero {n d : Int} (h : chkQ n d = 0) : 1 ≤ d ∧ d ≤ 1073741824 ∧ -1073741824 ≤ n ∧ n ≤ 1073741824 := by
  unfold chkQ at h
  split at h
  · cases h
  · omega
theorem mean_ok (n d : Int) (hn : In .i64 n) (hd : In .i64 d) : Pure Tryz.prog 277 [.agg [.int .i64 n, .int .i64 d]] [.bool (meanQ n d)] := by
  refine pure_rule hT (T := tab) (N := 19) (rs := [.tmp 2]) Tryz.func277 rfl rfl rfl (by kernel_rfl) rfl ?_
  have hC := chk_ok n d hn hd
  by_cases h0 : chkQ n d = 0
  · have h1 := chkQ_zero h0
    rw [h0] at hC
    have hM : meanQ n d = (decide (0 ≤ n) && decide (n ≤ 12 * d)) := by simp [meanQ, bw, h0]
    rw [hM]
    by_cases h2 : 0 ≤ n <;> by_cases h3 : n ≤ 12 * d
    · (refine gW ?_; intros)
      refine hC.call ?_
      (refine gW ?_; intros)
      refine ⟨congrArg D.bool ?_, True.intro⟩
      simp [h2, h3]
    · (refine gW ?_; intros)
      refine hC.call ?_
      (refine gW ?_; intros)
      refine ⟨congrArg D.bool ?_, True.intro⟩
      simp [h2, h3]
    · (refine gW ?_; intros)
      refine hC.call ?_
      (refine gW ?_; intros)
      refine ⟨congrArg D.bool ?_, True.intro⟩
      simp [h2, h3]
    · (refine gW ?_; intros)
      refine hC.call ?_
      (refine gW ?_; intros)
      refine ⟨congrArg D.bool ?_, True.intro⟩
      simp [h2, h3]
  · (refine gW ?_; intros)
    refine hC.call ?_
    (refine gW ?_; intros)
    refine ⟨congrArg D.bool ?_, True.intro⟩
    simp [meanQ, h0]
theorem course_ok (r : Rule) : Pure Tryz.prog 269 [.agg (eRule r)] [.bool (crsOk r.course)] := by
  refine pure_rule hT (T := tab) (N := 6) (rs := [.tmp 2]) Tryz.func269 rfl rfl rfl (by kernel_rfl) rfl ?_
  (refine gW ?_; intros)
  refine (within_ok r.course 0 4095).call ?_
  (refine gW ?_; intros)
  exact ⟨rfl, True.intro⟩
theorem right1_ok (r : Rule) : Pure Tryz.prog 260 [.agg (eRule r)] [.bool true] := by
  refine pure_rule hT (T := tab) (N := 3) (rs := [.tmp 2]) Tryz.func260 rfl rfl rfl (by kernel_rfl) rfl ?_
  (refine gW ?_; intros)
  exact ⟨rfl, True.intro⟩
theorem right2_ok (r : Rule) : Pure Tryz.prog 262 [.agg (eRule r)] [.bool true] := by
  refine pure_rule hT (T := tab) (N := 3) (rs := [.tmp 2]) Tryz.func262 rfl rfl rfl (by kernel_rfl) rfl ?_
  (refine gW ?_; intros)
  exact ⟨rfl, True.intro⟩
theorem right3_ok (r : Rule) : Pure Tryz.prog 264 [.agg (eRule r)] [.bool (bw r.n 0 200)] := by
  refine pure_rule hT (T := tab) (N := 6) (rs := [.tmp 2]) Tryz.func264 rfl rfl rfl (by kernel_rfl) rfl ?_
  (refine gW ?_; intros)
  refine (within_ok r.n 0 200).call ?_
  (refine gW ?_; intros)
  exact ⟨rfl, True.intro⟩
theorem right4_ok (r : Rule) : Pure Tryz.prog 266 [.agg (eRule r)] [.bool (decide (r.kids.length = 1))] := by
  refine pure_rule hT (T := tab) (N := 7) (rs := [.tmp 2]) Tryz.func266 rfl rfl rfl (by kernel_rfl) rfl ?_
  (refine gW ?_; intros)
  refine ⟨congrArg D.bool ?_, True.intro⟩
  exact decide_eq_decide.2 (by omega)
theorem right5_ok (r : Rule) : Pure Tryz.prog 268 [.agg (eRule r)] [.bool (crsOk r.course && bw r.n 0 12)] := by
  have hC := course_ok r
  refine pure_rule hT (T := tab) (N := 10) (rs := [.tmp 2]) Tryz.func268 rfl rfl rfl (by kernel_rfl) rfl ?_
  cases h : crsOk r.course <;> rw [h] at hC
  · (refine gW ?_; intros)
    refine hC.call ?_
    (refine gW ?_; intros)
    exact ⟨rfl, True.intro⟩
  · (refine gW ?_; intros)
    refine hC.call ?_
    (refine gW ?_; intros)
    refine (within_ok r.n 0 12).call ?_
    (refine gW ?_; intros)
    exact ⟨rfl, True.intro⟩
theorem right6_ok (r : Rule) : Pure Tryz.prog 272 [.agg (eRule r)] [.bool (crsOk r.course && bw r.n 1 100)] := by
  have hC := course_ok r
  refine pure_rule hT (T := tab) (N := 10) (rs := [.tmp 2]) Tryz.func272 rfl rfl rfl (by kernel_rfl) rfl ?_
  cases h : crsOk r.course <;> rw [h] at hC
  · (refine gW ?_; intros)
    refine hC.call ?_
    (refine gW ?_; intros)
    exact ⟨rfl, True.intro⟩
  · (refine gW ?_; intros)
    refine hC.call ?_
    (refine gW ?_; intros)
    refine (within_ok r.n 1 100).call ?_
    (refine gW ?_; intros)
    exact ⟨rfl, True.intro⟩
theorem right7_ok (r : Rule) : Pure Tryz.prog 274 [.agg (eRule r)] [.bool (bw r.n 0 10000)] := by
  refine pure_rule hT (T := tab) (N := 6) (rs := [.tmp 2]) Tryz.func274 rfl rfl rfl (by kernel_rfl) rfl ?_
  (refine gW ?_; intros)
  refine (within_ok r.n 0 10000).call ?_
  (refine gW ?_; intros)
  exact ⟨rfl, True.intro⟩
theorem right8_ok (r : Rule) (hn : In .i64 r.n) (hd : In .i64 r.d) : Pure Tryz.prog 276 [.agg (eRule r)] [.bool (meanQ r.n r.d)] := by
  refine pure_rule hT (T := tab) (N := 9) (rs := [.tmp 2]) Tryz.func276 rfl rfl rfl (by kernel_rfl) rfl ?_
  (refine gW ?_; intros)
  refine (mean_ok r.n r.d hn hd).call ?_
  (refine gW ?_; intros)
  exact ⟨rfl, True.intro⟩
end Go.Proofs.YtmlhghddfobmmaaGreatDoor
