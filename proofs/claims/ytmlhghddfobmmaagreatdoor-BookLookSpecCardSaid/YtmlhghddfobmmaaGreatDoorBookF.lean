/-
  Texts put together: BookE, BookF.
-/
import Derived.Test.YtmlhghddfobmmaaGreatDoorBookD
/-
  Chapter 14: which definitions are valid, by the reference.
-/
namespace Go.Proofs.YtmlhghddfobmmaaGreatDoor
set_option linter.unusedSimpArgs false
set_option linter.unusedVariables false
open Go Go.Ab
set_option maxRecDepth 100000
set_option maxHeartbeats 0
/-- A fact that is kept out of the sight of simp_all. -/
structure Kp (p : Prop) : Prop where
  h : p
theorem rin_ok (n lo hi : Int) : Pure Tryz.prog 97 [.int .i64 n, .int .i64 lo, .int .i64 hi] [.bool (bw n lo hi)] := by
  refine pure_rule hT (T := tab) (N := 15) (rs := [.tmp 6]) Tryz.func97 rfl rfl rfl (by kernel_rfl) rfl ?_
  by_cases h1 : lo ≤ n <;> by_cases h2 : n ≤ hi <;> ((refine gW ?_; intros)) <;> (refine ⟨congrArg D.bool ?_, True.intro⟩) <;> simp [bw, h1, h2]
theorem rmean14_ok (n d : Int) (hn : In .i64 n) (hd : In .i64 d) : Pure Tryz.prog 159 [.agg [.int .i64 n, .int .i64 d]] [.bool (meanQ n d)] := by
  refine pure_rule hT (T := tab) (N := 19) (rs := [.tmp 2]) Tryz.func159 rfl rfl rfl (by kernel_rfl) rfl ?_
  have hC := rchk_ok n d hn hd
  by_cases h0 : chkQ n d = 0
  · have h1 := chkQ_zero h0
    rw [h0] at hC
    have hM : meanQ n d = (decide (0 ≤ n) && decide (n ≤ 12 * d)) := by simp [meanQ, bw, h0]
    rw [hM]
    by_cases h2 : 0 ≤ n <;> by_cases h3 : n ≤ 12 * d
    · (refine gW ?_; intros)
      refine hC.call ?_
      (refine gW ?_; intros)
      refine ⟨congrArg D.bool ?_, True.intro⟩
      simp [h2, h3]
    · (refine gW ?_; intros)
      refine hC.call ?_
      (refine gW ?_; intros)
      refine ⟨congrArg D.bool ?_, True.intro⟩
      simp [h2, h3]
    · (refine gW ?_; intros)
      refine hC.call ?_
      (refine gW ?_; intros)
      refine ⟨congrArg D.bool ?_, True.intro⟩
      simp [h2, h3]
    · (refine gW ?_; intros)
      refine hC.call ?_
      (refine gW ?_; intros)
      refine ⟨congrArg D.bool ?_, True.intro⟩
      simp [h2, h3]
  · (refine gW ?_; intros)
    refine hC.call ?_
    (refine gW ?_; intros)
    refine ⟨congrArg D.bool ?_, True.intro⟩
    simp [meanQ, h0]
/-- A course with few rules. -/
def smCrs (c : Crs) : Prop := cntR c.need ≤ 1000000 ∧ cntR c.bar ≤ 1000000
theorem isCourse_ok (c : Crs) (hw : wfCrs c) (hs : smCrs c) : Pure Tryz.prog 93 [.agg (eCrs c)] [.bool (vCrs c)] := by
  have hA := rin_ok c.number 0 4095
  have hB := rin_ok c.credits 1 60
  have hC := rin_ok c.rep 0 2
  have hD := check12_ok c.need hw.1 hs.1
  have hE := check12_ok c.bar hw.2 hs.2
  unfold vCrs okR
  refine pure_rule hT (T := tab) (N := 28) (rs := [.tmp 2]) Tryz.func93 rfl rfl rfl (by kernel_rfl) rfl ?_
  cases h1 : bw c.number 0 4095 <;> rw [h1] at hA
  · (refine gW ?_; intros)
    refine hA.call ?_
    (refine gW ?_; intros)
    exact ⟨rfl, True.intro⟩
  cases h2 : bw c.credits 1 60 <;> rw [h2] at hB
  · (refine gW ?_; intros)
    refine hA.call ?_
    (refine gW ?_; intros)
    refine hB.call ?_
    (refine gW ?_; intros)
    exact ⟨rfl, True.intro⟩
  cases h3 : bw c.rep 0 2 <;> rw [h3] at hC
  · (refine gW ?_; intros)
    refine hA.call ?_
    (refine gW ?_; intros)
    refine hB.call ?_
    (refine gW ?_; intros)
    refine hC.call ?_
    (refine gW ?_; intros)
    exact ⟨rfl, True.intro⟩
  rcases chkR_or c.need with h4 | h4 <;> rw [h4] at hD ⊢
  · rcases chkR_or c.bar with h5 | h5 <;> rw [h5] at hE ⊢
    · (refine gW ?_; intros)
      refine hA.call ?_
      (refine gW ?_; intros)
      refine hB.call ?_
      (refine gW ?_; intros)
      refine hC.call ?_
      (refine gW ?_; intros)
      refine hD.call ?_
      (refine gW ?_; intros)
      refine hE.call ?_
      (refine gW ?_; intros)
      exact ⟨rfl, True.intro⟩
    · (refine gW ?_; intros)
      refine hA.call ?_
      (refine gW ?_; intros)
      refine hB.call ?_
      (refine gW ?_; intros)
      refine hC.call ?_
      (refine gW ?_; intros)
      refine hD.call ?_
      (refine gW ?_; intros)
      refine hE.call ?_
      (refine gW ?_; intros)
      exact ⟨rfl, True.intro⟩
  · (refine gW ?_; intros)
    refine hA.call ?_
    (refine gW ?_; intros)
    refine hB.call ?_
    (refine gW ?_; intros)
    refine hC.call ?_
    (refine gW ?_; intros)
    refine hD.call ?_
    (refine gW ?_; intros)
    exact ⟨rfl, True.intro⟩
theorem isClasses_ok (l : List Cls) (hl : fitL l) (hw : ∀ x ∈ l, wfCls x) : Pure Tryz.prog 160 [eClss l] [.bool (l.all vCls)] := by
  have hl' : l.length ≤ 9223372036854775807 := hl
  refine pure_rule hT (T := tab) (N := 26) (rs := [.tmp 2]) Tryz.func160 rfl rfl rfl (by kernel_rfl) rfl ?_
  (refine gW ?_; intros)
  refine loop_rule hT (S := Nat) (fun k => ([(0, .d (eClss l)), (3, .d (.int .i64 k))], ⟨[], []⟩)) (fun k => k ≤ l.length ∧ l.all vCls = (l.drop k).all vCls) (fun k => l.length - k) 0 ?_ ?_ ?_
  · repeat' (first | exact True.intro | exact rfl | exact Nat.le_refl _ | refine And.intro ?_ ?_)
  · exact ⟨Nat.zero_le _, rfl⟩
  · rintro k ⟨hk, hc⟩
    by_cases hk2 : k < l.length
    · have hm := hw _ (getD_mem (xs := l) (k := k) hk2)
      have hA := rin_ok (l.getD k default).earn 0 10000
      have hB := rmean14_ok (l.getD k default).mn (l.getD k default).md hm.1 hm.2
      rw [drop_at hk2, List.all_cons, vCls] at hc
      cases h1 : bw (l.getD k default).earn 0 10000 <;> rw [h1] at hA hc
      · rw [hc]
        (refine gW ?_; intros)
        refine hA.call ?_
        (refine gW ?_; intros)
        exact ⟨rfl, True.intro⟩
      · cases h2 : meanQ (l.getD k default).mn (l.getD k default).md <;> rw [h2] at hB hc
        · rw [hc]
          (refine gW ?_; intros)
          refine hA.call ?_
          (refine gW ?_; intros)
          refine hB.call ?_
          (refine gW ?_; intros)
          exact ⟨rfl, True.intro⟩
        · (refine gW ?_; intros)
          refine hA.call ?_
          (refine gW ?_; intros)
          refine hB.call ?_
          (refine gW ?_; intros)
          refine ⟨k + 1, ⟨by show k + 1 ≤ l.length; omega, by rw [hc]; rfl⟩, by show l.length - (k + 1) < l.length - k; omega, ?_⟩
          repeat' (first | exact True.intro | exact rfl | exact Nat.le_refl _ | refine And.intro ?_ ?_)
    · rw [drop_end (by omega), List.all_nil] at hc
      rw [hc]
      (refine gW ?_; intros)
      exact ⟨rfl, True.intro⟩
end Go.Proofs.YtmlhghddfobmmaaGreatDoor
/-
  Chapter 14: which definitions are valid, by the reference: systems, programmes, books.
-/
namespace Go.Proofs.YtmlhghddfobmmaaGreatDoor
set_option linter.unusedSimpArgs false
set_option linter.unusedVariables false
open Go Go.Ab
set_option maxRecDepth 100000
set_option maxHeartbeats 0
theorem isSystem_ok (s : Sys) (hw : wfSys s) : Pure Tryz.prog 95 [.agg (eSys s)] [.bool (vSys s)] := by
  have hA := isClasses_ok s.classes hw.1.1 hw.1.2
  have hB := isClasses_ok s.honours hw.2.1.1 hw.2.1.2
  have hl1 : s.fees.length ≤ 9223372036854775807 := hw.2.2.1
  have hl2 : s.clauses.length ≤ 9223372036854775807 := hw.2.2.2
  have hv : vSys s = (s.fees.all vFee && (s.clauses.all vCla && (s.classes.all vCls && s.honours.all vCls))) := by
    unfold vSys
    cases s.fees.all vFee <;> cases s.clauses.all vCla <;> cases s.classes.all vCls <;> cases s.honours.all vCls <;> rfl
  rw [hv]
  refine pure_rule hT (T := tab) (N := 63) (rs := [.tmp 2]) Tryz.func95 rfl rfl rfl (by kernel_rfl) rfl ?_
  (refine gW ?_; intros)
  refine loop_rule hT (S := Nat) (fun k => ([(1, .ptr (.loc 0) 0 0 0), (3, .d (.int .i64 k))], ⟨[some (.box 83 (up (eSys s)))], []⟩)) (fun k => k ≤ s.fees.length ∧ s.fees.all vFee = (s.fees.drop k).all vFee) (fun k => s.fees.length - k) 0 ?_ ?_ ?_
  · repeat' (first | exact True.intro | exact rfl | exact Nat.le_refl _ | refine And.intro ?_ ?_)
  · exact ⟨Nat.zero_le _, rfl⟩
  · rintro k ⟨hk, hc⟩
    by_cases hk2 : k < s.fees.length
    · have hF := rin_ok (s.fees.getD k default).credits 0 10000
      rw [drop_at hk2, List.all_cons, vFee] at hc
      cases h1 : bw (s.fees.getD k default).credits 0 10000 <;> rw [h1] at hF hc
      · rw [hc]
        (refine gW ?_; intros)
        refine hF.call ?_
        (refine gW ?_; intros)
        exact ⟨rfl, True.intro⟩
      · (refine gW ?_; intros)
        refine hF.call ?_
        (refine gW ?_; intros)
        refine ⟨k + 1, ⟨by show k + 1 ≤ s.fees.length; omega, by rw [hc]; rfl⟩, by show s.fees.length - (k + 1) < s.fees.length - k; omega, ?_⟩
        repeat' (first | exact True.intro | exact rfl | exact Nat.le_refl _ | refine And.intro ?_ ?_)
    · rw [drop_end (by omega), List.all_nil] at hc
      rw [hc, Bool.true_and]
      (refine gW ?_; intros)
      refine loop_rule hT (S := Nat) (fun k => ([(1, .ptr (.loc 0) 0 0 0), (4, .d (.int .i64 k))], ⟨[some (.box 83 (up (eSys s)))], []⟩)) (fun k => k ≤ s.clauses.length ∧ s.clauses.all vCla = (s.clauses.drop k).all vCla) (fun k => s.clauses.length - k) 0 ?_ ?_ ?_
      · repeat' (first | exact True.intro | exact rfl | exact Nat.le_refl _ | refine And.intro ?_ ?_)
      · exact ⟨Nat.zero_le _, rfl⟩
      · clear hk hc hk2
        rintro k ⟨hk, hc⟩
        by_cases hk2 : k < s.clauses.length
        · have g1 := rin_ok (s.clauses.getD k default).kind 1 5
          have g2 := rin_ok (s.clauses.getD k default).whn 0 2
          have g3 := rin_ok (s.clauses.getD k default).action 1 3
          have g4 := rin_ok (s.clauses.getD k default).til 0 12
          rw [drop_at hk2, List.all_cons, vCla] at hc
          cases h1 : bw (s.clauses.getD k default).kind 1 5 <;> rw [h1] at g1 hc
          · rw [hc]
            (refine gW ?_; intros)
            refine g1.call ?_
            (refine gW ?_; intros)
            exact ⟨rfl, True.intro⟩
          cases h2 : bw (s.clauses.getD k default).whn 0 2 <;> rw [h2] at g2 hc
          · rw [hc]
            (refine gW ?_; intros)
            refine g1.call ?_
            (refine gW ?_; intros)
            refine g2.call ?_
            (refine gW ?_; intros)
            exact ⟨rfl, True.intro⟩
          cases h3 : bw (s.clauses.getD k default).action 1 3 <;> rw [h3] at g3 hc
          · rw [hc]
            (refine gW ?_; intros)
            refine g1.call ?_
            (refine gW ?_; intros)
            refine g2.call ?_
            (refine gW ?_; intros)
            refine g3.call ?_
            (refine gW ?_; intros)
            exact ⟨rfl, True.intro⟩
          cases h4 : bw (s.clauses.getD k default).til 0 12 <;> rw [h4] at g4 hc
          · rw [hc]
            (refine gW ?_; intros)
            refine g1.call ?_
            (refine gW ?_; intros)
            refine g2.call ?_
            (refine gW ?_; intros)
            refine g3.call ?_
            (refine gW ?_; intros)
            refine g4.call ?_
            (refine gW ?_; intros)
            exact ⟨rfl, True.intro⟩
          · (refine gW ?_; intros)
            refine g1.call ?_
            (refine gW ?_; intros)
            refine g2.call ?_
            (refine gW ?_; intros)
            refine g3.call ?_
            (refine gW ?_; intros)
            refine g4.call ?_
            (refine gW ?_; intros)
            refine ⟨k + 1, ⟨by show k + 1 ≤ s.clauses.length; omega, by rw [hc]; rfl⟩, by show s.clauses.length - (k + 1) < s.clauses.length - k; omega, ?_⟩
            repeat' (first | exact True.intro | exact rfl | exact Nat.le_refl _ | refine And.intro ?_ ?_)
        · rw [drop_end (by omega), List.all_nil] at hc
          rw [hc, Bool.true_and]
          cases h1 : s.classes.all vCls <;> rw [h1] at hA
          · (refine gW ?_; intros)
            refine hA.call ?_
            (refine gW ?_; intros)
            exact ⟨rfl, True.intro⟩
          · (refine gW ?_; intros)
            refine hA.call ?_
            (refine gW ?_; intros)
            refine hB.call ?_
            (refine gW ?_; intros)
            exact ⟨rfl, True.intro⟩
end Go.Proofs.YtmlhghddfobmmaaGreatDoor
