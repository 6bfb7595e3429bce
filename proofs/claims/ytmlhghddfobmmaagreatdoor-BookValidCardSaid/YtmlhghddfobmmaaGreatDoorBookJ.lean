/-
  Chapter 14: equality of definitions, by the reference.
-/
import Derived.Test.YtmlhghddfobmmaaGreatDoorBookI
namespace Go.Proofs.YtmlhghddfobmmaaGreatDoor
set_option linter.unusedSimpArgs false
set_option linter.unusedVariables false
open Go Go.Ab
set_option maxRecDepth 100000
set_option maxHeartbeats 0
noncomputable instance : DecidableEq Rule := fun _ _ => Classical.propDecidable _
noncomputable instance : DecidableEq Crs := fun _ _ => Classical.propDecidable _
noncomputable instance : DecidableEq Req := fun _ _ => Classical.propDecidable _
noncomputable instance : DecidableEq Prg := fun _ _ => Classical.propDecidable _
noncomputable instance : DecidableEq Cls := fun _ _ => Classical.propDecidable _
noncomputable instance : DecidableEq Fee := fun _ _ => Classical.propDecidable _
noncomputable instance : DecidableEq Cla := fun _ _ => Classical.propDecidable _
noncomputable instance : DecidableEq Sys := fun _ _ => Classical.propDecidable _
noncomputable instance : DecidableEq Pai := fun _ _ => Classical.propDecidable _
theorem sameReds_ok (xs ys : List Red) (hx : xs.length ≤ 9223372036854775807) (hy : ys.length ≤ 9223372036854775807) : Pure Tryz.prog 26 [eReds xs, eReds ys] [.bool (decide (xs = ys))] := by
  refine pure_rule hT (T := tab) (N := 26) (rs := [.tmp 4]) Tryz.func26 rfl rfl rfl (by kernel_rfl) rfl ?_
  ((refine xW ?_ ?_) <;> (intros; try rename_i h))
  · refine ⟨congrArg D.bool ?_, True.intro⟩
    rw [decide_eq_false]
    intro e
    rw [e] at h
    omega
  · refine loop_rule hT (S := Nat) (fun k => ([(0, .d (eReds xs)), (1, .d (eReds ys)), (4, .d (.bool false)), (5, .d (.int .i64 k))], ⟨[], []⟩)) (fun k => k ≤ xs.length ∧ (xs = ys ↔ xs.drop k = ys.drop k)) (fun k => xs.length - k) 0 ?_ ?_ ?_
    · repeat' (first | exact True.intro | exact rfl | exact Nat.le_refl _ | refine And.intro ?_ ?_)
    · exact ⟨Nat.zero_le _, Iff.rfl⟩
    · rintro k ⟨hk, ht⟩
      repeat' (first | with_reducible refine Sq.go ?_ | ((with_reducible refine Ev.mk ?_); conv => whnf) | with_reducible refine Dr.mk ⟨by kernel_rfl, by kernel_rfl⟩ ?_ | with_reducible refine obG ?_ | with_reducible refine Ob.mk ?_ ?_ | (with_reducible first | refine brT fun h => ?_ | refine brF fun h => ?_ | refine Br.mk (fun h => ?_) fun h => ?_) <;> (try simp only [bsl, beq_iff_eq, bne_iff_ne, bs2] at h) <;> (try contradiction) <;> try (exfalso; omega))
      · refine ⟨congrArg D.bool ?_, True.intro⟩
        rw [decide_eq_false]
        rw [ht, drop_at (xs := xs) (k := k) (by omega), drop_at (xs := ys) (k := k) (by omega)]
        intro e
        injection e with e1 e2
        rw [e1] at h
        simp at h
      · refine ⟨k + 1, ⟨by show k + 1 ≤ xs.length; omega, ?_⟩, by show xs.length - (k + 1) < xs.length - k; omega, ?_⟩
        · have e : xs.getD k default = ys.getD k default := by
            revert h
            generalize xs.getD k default = a
            generalize ys.getD k default = b
            intro h
            cases a; cases b; simp_all
          rw [ht, drop_at (xs := xs) (k := k) (by omega), drop_at (xs := ys) (k := k) (by omega), e]
          simp
        · repeat' (first | exact True.intro | exact rfl | exact Nat.le_refl _ | refine And.intro ?_ ?_)
      · refine ⟨congrArg D.bool ?_, True.intro⟩
        rw [decide_eq_true]
        rw [ht]
        rw [List.drop_eq_nil_of_le (by omega), List.drop_eq_nil_of_le (by omega)]
theorem sameInts_ok (xs ys : List Int) (hx : xs.length ≤ 9223372036854775807) (hy : ys.length ≤ 9223372036854775807) : Pure Tryz.prog 25 [eInts xs, eInts ys] [.bool (decide (xs = ys))] := by
  refine pure_rule hT (T := tab) (N := 26) (rs := [.tmp 4]) Tryz.func25 rfl rfl rfl (by kernel_rfl) rfl ?_
  ((refine xW ?_ ?_) <;> (intros; try rename_i h))
  · refine ⟨congrArg D.bool ?_, True.intro⟩
    rw [decide_eq_false]
    intro e
    rw [e] at h
    omega
  · refine loop_rule hT (S := Nat) (fun k => ([(0, .d (eInts xs)), (1, .d (eInts ys)), (4, .d (.bool false)), (5, .d (.int .i64 k))], ⟨[], []⟩)) (fun k => k ≤ xs.length ∧ (xs = ys ↔ xs.drop k = ys.drop k)) (fun k => xs.length - k) 0 ?_ ?_ ?_
    · repeat' (first | exact True.intro | exact rfl | exact Nat.le_refl _ | refine And.intro ?_ ?_)
    · exact ⟨Nat.zero_le _, Iff.rfl⟩
    · rintro k ⟨hk, ht⟩
      repeat' (first | with_reducible refine Sq.go ?_ | ((with_reducible refine Ev.mk ?_); conv => whnf) | with_reducible refine Dr.mk ⟨by kernel_rfl, by kernel_rfl⟩ ?_ | with_reducible refine obG ?_ | with_reducible refine Ob.mk ?_ ?_ | (with_reducible first | refine brT fun h => ?_ | refine brF fun h => ?_ | refine Br.mk (fun h => ?_) fun h => ?_) <;> (try simp only [bsl, beq_iff_eq, bne_iff_ne, bs2] at h) <;> (try contradiction) <;> try (exfalso; omega))
      · refine ⟨congrArg D.bool ?_, True.intro⟩
        rw [decide_eq_false]
        rw [ht, drop_at (xs := xs) (k := k) (by omega), drop_at (xs := ys) (k := k) (by omega)]
        intro e
        injection e with e1 e2
        rw [e1] at h
        simp at h
      · refine ⟨k + 1, ⟨by show k + 1 ≤ xs.length; omega, ?_⟩, by show xs.length - (k + 1) < xs.length - k; omega, ?_⟩
        · have e : xs.getD k default = ys.getD k default := by
            revert h
            generalize xs.getD k default = a
            generalize ys.getD k default = b
            intro h
            exact h
          rw [ht, drop_at (xs := xs) (k := k) (by omega), drop_at (xs := ys) (k := k) (by omega), e]
          simp
        · repeat' (first | exact True.intro | exact rfl | exact Nat.le_refl _ | refine And.intro ?_ ?_)
      · refine ⟨congrArg D.bool ?_, True.intro⟩
        rw [decide_eq_true]
        rw [ht]
        rw [List.drop_eq_nil_of_le (by omega), List.drop_eq_nil_of_le (by omega)]
theorem sameClss_ok (xs ys : List Cls) (hx : xs.length ≤ 9223372036854775807) (hy : ys.length ≤ 9223372036854775807) : Pure Tryz.prog 109 [eClss xs, eClss ys] [.bool (decide (xs = ys))] := by
  refine pure_rule hT (T := tab) (N := 26) (rs := [.tmp 4]) Tryz.func109 rfl rfl rfl (by kernel_rfl) rfl ?_
  ((refine xW ?_ ?_) <;> (intros; try rename_i h))
  · refine ⟨congrArg D.bool ?_, True.intro⟩
    rw [decide_eq_false]
    intro e
    rw [e] at h
    omega
  · refine loop_rule hT (S := Nat) (fun k => ([(0, .d (eClss xs)), (1, .d (eClss ys)), (4, .d (.bool false)), (5, .d (.int .i64 k))], ⟨[], []⟩)) (fun k => k ≤ xs.length ∧ (xs = ys ↔ xs.drop k = ys.drop k)) (fun k => xs.length - k) 0 ?_ ?_ ?_
    · repeat' (first | exact True.intro | exact rfl | exact Nat.le_refl _ | refine And.intro ?_ ?_)
    · exact ⟨Nat.zero_le _, Iff.rfl⟩
    · rintro k ⟨hk, ht⟩
      repeat' (first | with_reducible refine Sq.go ?_ | ((with_reducible refine Ev.mk ?_); conv => whnf) | with_reducible refine Dr.mk ⟨by kernel_rfl, by kernel_rfl⟩ ?_ | with_reducible refine obG ?_ | with_reducible refine Ob.mk ?_ ?_ | (with_reducible first | refine brT fun h => ?_ | refine brF fun h => ?_ | refine Br.mk (fun h => ?_) fun h => ?_) <;> (try simp only [bsl, beq_iff_eq, bne_iff_ne, bs2] at h) <;> (try contradiction) <;> try (exfalso; omega))
      · refine ⟨congrArg D.bool ?_, True.intro⟩
        rw [decide_eq_false]
        rw [ht, drop_at (xs := xs) (k := k) (by omega), drop_at (xs := ys) (k := k) (by omega)]
        intro e
        injection e with e1 e2
        rw [e1] at h
        simp at h
      · refine ⟨k + 1, ⟨by show k + 1 ≤ xs.length; omega, ?_⟩, by show xs.length - (k + 1) < xs.length - k; omega, ?_⟩
        · have e : xs.getD k default = ys.getD k default := by
            revert h
            generalize xs.getD k default = a
            generalize ys.getD k default = b
            intro h
            cases a; cases b; simp_all
          rw [ht, drop_at (xs := xs) (k := k) (by omega), drop_at (xs := ys) (k := k) (by omega), e]
          simp
        · repeat' (first | exact True.intro | exact rfl | exact Nat.le_refl _ | refine And.intro ?_ ?_)
      · refine ⟨congrArg D.bool ?_, True.intro⟩
        rw [decide_eq_true]
        rw [ht]
        rw [List.drop_eq_nil_of_le (by omega), List.drop_eq_nil_of_le (by omega)]
theorem rule_eq (a b : Rule) : a = b ↔ a.op = b.op ∧ a.course = b.course ∧ a.name = b.name ∧ a.n = b.n ∧ a.d = b.d ∧ a.kids = b.kids := by
  cases a; cases b
  simp only [Rule.mk.injEq, Rule.op, Rule.course, Rule.name, Rule.n, Rule.d, Rule.kids]
theorem eRule_ne (r : Rule) (hne : r.kids ≠ []) : eRule r = [.int .i64 r.op, .int .i64 r.course, .str r.name, .int .i64 r.n, .int .i64 r.d, .sl 6 r.kids.length fun i => eRule (r.kids.getD i default)] := by
  unfold eRule
  rw [eRules_ne hne]
  rfl
theorem sameRule_ok : ∀ a : Rule, wfR a → ∀ b : Rule, wfR b → Pure Tryz.prog 104 [.agg (eRule a), .agg (eRule b)] [.bool (decide (a = b))] := by
  refine rule_ind fun a ih ha b hb => ?_
  obtain ⟨ha1, ha2⟩ := wfR_kids ha
  obtain ⟨hb1, hb2⟩ := wfR_kids hb
  have hla := ha1.2.2.2.2
  have hlb := hb1.2.2.2.2
  refine pure_rule hT (T := tab) (N := 67) (rs := [.tmp 4]) Tryz.func104 rfl rfl rfl (by kernel_rfl) rfl ?_
  by_cases q1 : a.op = b.op
  case neg =>
    rw [decide_eq_false (fun e => q1 (by rw [e]))]
    (refine gW ?_; intros)
    all_goals first
      | exact ⟨rfl, True.intro⟩
      | (refine ⟨congrArg D.bool ?_, True.intro⟩; simp [q1]; done)
      | (exfalso; simp [q1] at h; done)
      | (exfalso; rename_i h1; simp [q1] at h1; done)
  by_cases q2 : a.course = b.course
  case neg =>
    rw [decide_eq_false (fun e => q2 (by rw [e]))]
    (refine gW ?_; intros)
    all_goals first
      | exact ⟨rfl, True.intro⟩
      | (refine ⟨congrArg D.bool ?_, True.intro⟩; simp [q2]; done)
      | (exfalso; simp [q2] at h; done)
      | (exfalso; rename_i h1; simp [q2] at h1; done)
  by_cases q3 : a.name = b.name
  case neg =>
    rw [decide_eq_false (fun e => q3 (by rw [e]))]
    ((refine xW ?_ ?_) <;> intros)
    all_goals first
      | exact ⟨rfl, True.intro⟩
      | (refine ⟨congrArg D.bool ?_, True.intro⟩; simp [q3]; done)
      | (exfalso; simp [q3] at h; done)
      | (exfalso; rename_i h1; simp [q3] at h1; done)
  by_cases q4 : a.n = b.n
  case neg =>
    rw [decide_eq_false (fun e => q4 (by rw [e]))]
    (refine gW ?_; intros)
    all_goals first
      | exact ⟨rfl, True.intro⟩
      | (refine ⟨congrArg D.bool ?_, True.intro⟩; simp [q4]; done)
      | (exfalso; simp [q4] at h; done)
      | (exfalso; rename_i h1; simp [q4] at h1; done)
  by_cases q5 : a.d = b.d
  case neg =>
    rw [decide_eq_false (fun e => q5 (by rw [e]))]
    (refine gW ?_; intros)
    all_goals first
      | exact ⟨rfl, True.intro⟩
      | (refine ⟨congrArg D.bool ?_, True.intro⟩; simp [q5]; done)
      | (exfalso; simp [q5] at h; done)
      | (exfalso; rename_i h1; simp [q5] at h1; done)
  by_cases q6 : a.kids.length = b.kids.length
  case neg =>
    rw [decide_eq_false (fun e => q6 (by rw [e]))]
    (refine gW ?_; intros)
    all_goals first
      | exact ⟨rfl, True.intro⟩
      | (refine ⟨congrArg D.bool ?_, True.intro⟩; simp [q6]; done)
      | (exfalso; simp [q6] at h; done)
      | (exfalso; rename_i h1; simp [q6] at h1; done)
  have hiff : a = b ↔ a.kids = b.kids := by rw [rule_eq]; simp only [q1, q2, q3, q4, q5, true_and]
  ((refine xW ?_ ?_) <;> intros)
  all_goals try (exfalso; first | (simp [q1, q2, q3, q4, q5, q6] at h; done) | (rename_i h1; simp [q1, q2, q3, q4, q5, q6] at h1; done))
  refine loop_rule hT (S := Nat) (fun k => ([(2, .ptr (.loc 0) 0 0 0), (3, .ptr (.loc 1) 0 0 0), (4, .d (.bool false)), (5, .d (.int .i64 k))], ⟨[some (.box 66 (up (eRule a))), some (.box 66 (up (eRule b)))], []⟩)) (fun k => k ≤ a.kids.length ∧ (a = b ↔ a.kids.drop k = b.kids.drop k)) (fun k => a.kids.length - k) 0 ?_ ?_ ?_
  · repeat' (first | exact True.intro | exact rfl | exact Nat.le_refl _ | refine And.intro ?_ ?_)
  · exact ⟨Nat.zero_le _, hiff⟩
  · rintro k ⟨hk, hc⟩
    have kc : Kp _ := ⟨hc⟩
    clear hc hiff
    by_cases hk2 : k < a.kids.length
    · have hna : a.kids ≠ [] := fun e => by rw [e] at hk2; exact absurd hk2 (Nat.not_lt_zero _)
      have hnb : b.kids ≠ [] := fun e => by rw [q6, e] at hk2; exact absurd hk2 (Nat.not_lt_zero _)
      have hkb : k < b.kids.length := by omega
      have hma := getD_mem (xs := a.kids) (k := k) hk2
      have hmb := getD_mem (xs := b.kids) (k := k) hkb
      have hI := ih _ hma (ha2 _ hma) _ (hb2 _ hmb)
      rw [eRule_ne a hna, eRule_ne b hnb]
      by_cases e : a.kids.getD k default = b.kids.getD k default
      · rw [decide_eq_true e] at hI
        have kn : Kp (a = b ↔ a.kids.drop (k + 1) = b.kids.drop (k + 1)) := ⟨by
          rw [kc.h, drop_at hk2, drop_at hkb, e]
          simp⟩
        clear e
        (refine gW ?_; intros)
        refine qC hI ?_
        (refine gW ?_; intros)
        refine ⟨k + 1, ⟨by show k + 1 ≤ a.kids.length; omega, kn.h⟩, by show a.kids.length - (k + 1) < a.kids.length - k; omega, ?_⟩
        repeat' (first | exact True.intro | exact rfl | exact Nat.le_refl _ | refine And.intro ?_ ?_)
      · rw [decide_eq_false e] at hI
        rw [decide_eq_false (fun e2 => e (by rw [e2]))]
        clear e
        (refine gW ?_; intros)
        refine qC hI ?_
        (refine gW ?_; intros)
        exact ⟨rfl, True.intro⟩
    · rw [decide_eq_true (kc.h.2 (by rw [drop_end (by omega), drop_end (by omega)]))]
      (refine gW ?_; intros)
      exact ⟨rfl, True.intro⟩
theorem crs_eq (a b : Crs) : a = b ↔ a.name = b.name ∧ a.number = b.number ∧ a.credits = b.credits ∧ a.rep = b.rep ∧ a.need = b.need ∧ a.bar = b.bar := by
  cases a; cases b
  simp only [Crs.mk.injEq]
theorem sameCourse_ok (a b : Crs) (ha : wfCrs a) (hb : wfCrs b) : Pure Tryz.prog 32 [.agg (eCrs a), .agg (eCrs b)] [.bool (decide (a = b))] := by
  have hN := sameRule_ok a.need ha.1 b.need hb.1
  have hB := sameRule_ok a.bar ha.2 b.bar hb.2
  refine pure_rule hT (T := tab) (N := 45) (rs := [.tmp 4]) Tryz.func32 rfl rfl rfl (by kernel_rfl) rfl ?_
  by_cases q1 : a.name = b.name
  case neg =>
    rw [decide_eq_false (fun e => q1 (by rw [e]))]
    ((refine xW ?_ ?_) <;> (intros; try rename_i h))
    all_goals first
      | exact ⟨rfl, True.intro⟩
      | (refine ⟨congrArg D.bool ?_, True.intro⟩; simp [q1]; done)
      | (exfalso; simp [q1] at h; done)
      | (exfalso; rename_i h1; simp [q1] at h1; done)
  by_cases q2 : a.number = b.number
  case neg =>
    rw [decide_eq_false (fun e => q2 (by rw [e]))]
    (refine gW ?_; intros; try rename_i h)
    all_goals first
      | exact ⟨rfl, True.intro⟩
      | (refine ⟨congrArg D.bool ?_, True.intro⟩; simp [q2]; done)
      | (exfalso; simp [q2] at h; done)
      | (exfalso; rename_i h1; simp [q2] at h1; done)
  by_cases q3 : a.credits = b.credits
  case neg =>
    rw [decide_eq_false (fun e => q3 (by rw [e]))]
    (refine gW ?_; intros; try rename_i h)
    all_goals first
      | exact ⟨rfl, True.intro⟩
      | (refine ⟨congrArg D.bool ?_, True.intro⟩; simp [q3]; done)
      | (exfalso; simp [q3] at h; done)
      | (exfalso; rename_i h1; simp [q3] at h1; done)
  by_cases q4 : a.rep = b.rep
  case neg =>
    rw [decide_eq_false (fun e => q4 (by rw [e]))]
    (refine gW ?_; intros; try rename_i h)
    all_goals first
      | exact ⟨rfl, True.intro⟩
      | (refine ⟨congrArg D.bool ?_, True.intro⟩; simp [q4]; done)
      | (exfalso; simp [q4] at h; done)
      | (exfalso; rename_i h1; simp [q4] at h1; done)
  by_cases q5 : a.need = b.need
  case neg =>
    rw [decide_eq_false q5] at hN
    rw [decide_eq_false (fun e => q5 (by rw [e]))]
    clear q5
    ((refine xW ?_ ?_) <;> (intros; try rename_i h))
    all_goals try (exfalso; first | (simp [q1, q2, q3, q4] at h; done) | (rename_i h1; simp [q1, q2, q3, q4] at h1; done))
    refine hN.call ?_
    (refine gW ?_; intros; try rename_i h)
    all_goals try (exfalso; first | (simp [q1, q2, q3, q4] at h; done) | (rename_i h1; simp [q1, q2, q3, q4] at h1; done))
    exact ⟨congrArg D.bool (by simp [q1, q2, q3, q4]), True.intro⟩
  rw [decide_eq_true q5] at hN
  by_cases q6 : a.bar = b.bar
  case neg =>
    rw [decide_eq_false q6] at hB
    rw [decide_eq_false (fun e => q6 (by rw [e]))]
    clear q5 q6
    ((refine xW ?_ ?_) <;> (intros; try rename_i h))
    all_goals try (exfalso; first | (simp [q1, q2, q3, q4] at h; done) | (rename_i h1; simp [q1, q2, q3, q4] at h1; done))
    refine hN.call ?_
    ((refine xW ?_ ?_) <;> (intros; try rename_i h))
    all_goals try (exfalso; first | (simp [q1, q2, q3, q4] at h; done) | (rename_i h1; simp [q1, q2, q3, q4] at h1; done))
    refine hB.call ?_
    (refine gW ?_; intros; try rename_i h)
    all_goals try (exfalso; first | (simp [q1, q2, q3, q4] at h; done) | (rename_i h1; simp [q1, q2, q3, q4] at h1; done))
    exact ⟨congrArg D.bool (by simp [q1, q2, q3, q4]), True.intro⟩
  rw [decide_eq_true q6] at hB
  rw [decide_eq_true ((crs_eq a b).2 ⟨q1, q2, q3, q4, q5, q6⟩)]
  clear q5 q6
  ((refine xW ?_ ?_) <;> (intros; try rename_i h))
  all_goals try (exfalso; first | (simp [q1, q2, q3, q4] at h; done) | (rename_i h1; simp [q1, q2, q3, q4] at h1; done))
  refine hN.call ?_
  ((refine xW ?_ ?_) <;> (intros; try rename_i h))
  all_goals try (exfalso; first | (simp [q1, q2, q3, q4] at h; done) | (rename_i h1; simp [q1, q2, q3, q4] at h1; done))
  refine hB.call ?_
  (refine gW ?_; intros; try rename_i h)
  all_goals try (exfalso; first | (simp [q1, q2, q3, q4] at h; done) | (rename_i h1; simp [q1, q2, q3, q4] at h1; done))
  exact ⟨congrArg D.bool (by simp [q1, q2, q3, q4]), True.intro⟩
theorem req_eq (a b : Req) : a = b ↔ a.name = b.name ∧ a.credits = b.credits ∧ a.grade = b.grade ∧ a.home = b.home ∧ a.names = b.names ∧ a.fr = b.fr := by
  cases a; cases b
  simp only [Req.mk.injEq]
/-- What is asked of a requirement. -/
def wfReq (q : Req) : Prop := fitL q.names ∧ fitL q.fr
def eReqH (q : Req) (h : Bool) : List D := [.str q.name, .int .i64 q.credits, .int .i64 q.grade, .bool h, eStrs q.names, eInts q.fr]
theorem eReqH_eq (q : Req) (h : Bool) (e : q.home = h) : eReq q = eReqH q h := by rw [← e]; rfl
theorem sameReq_ok (a b : Req) (ha : wfReq a) (hb : wfReq b) : Pure Tryz.prog 107 [.agg (eReq a), .agg (eReq b)] [.bool (decide (a = b))] := by
  have hla : a.names.length ≤ 9223372036854775807 := ha.1
  have hlb : b.names.length ≤ 9223372036854775807 := hb.1
  have hma : a.fr.length ≤ 9223372036854775807 := ha.2
  have hmb : b.fr.length ≤ 9223372036854775807 := hb.2
  obtain ⟨xa, hxa⟩ : ∃ x, a.home = x := ⟨_, rfl⟩
  obtain ⟨xb, hxb⟩ : ∃ x, b.home = x := ⟨_, rfl⟩
  rw [eReqH_eq a xa hxa, eReqH_eq b xb hxb]
  refine pure_rule hT (T := tab) (N := 87) (rs := [.tmp 4]) Tryz.func107 rfl rfl rfl (by kernel_rfl) rfl ?_
  by_cases q1 : a.name = b.name
  case neg =>
    rw [decide_eq_false (fun e => q1 (by rw [e]))]
    ((refine xW ?_ ?_) <;> intros)
    all_goals first
      | exact ⟨rfl, True.intro⟩
      | (refine ⟨congrArg D.bool ?_, True.intro⟩; simp [q1]; done)
      | (exfalso; simp [q1] at h; done)
      | (exfalso; rename_i h1; simp [q1] at h1; done)
  by_cases q2 : a.credits = b.credits
  case neg =>
    rw [decide_eq_false (fun e => q2 (by rw [e]))]
    (refine gW ?_; intros)
    all_goals first
      | exact ⟨rfl, True.intro⟩
      | (refine ⟨congrArg D.bool ?_, True.intro⟩; simp [q2]; done)
      | (exfalso; simp [q2] at h; done)
      | (exfalso; rename_i h1; simp [q2] at h1; done)
  by_cases q3 : a.grade = b.grade
  case neg =>
    rw [decide_eq_false (fun e => q3 (by rw [e]))]
    (refine gW ?_; intros)
    all_goals first
      | exact ⟨rfl, True.intro⟩
      | (refine ⟨congrArg D.bool ?_, True.intro⟩; simp [q3]; done)
      | (exfalso; simp [q3] at h; done)
      | (exfalso; rename_i h1; simp [q3] at h1; done)
  by_cases q4 : xa = xb
  case neg =>
    rw [decide_eq_false (fun e => q4 (by rw [← hxa, ← hxb, e]))]
    clear hxa hxb
    cases xa <;> cases xb <;> first | exact absurd rfl q4 | skip
    all_goals
      clear q4
      (refine gP ?_; intros)
    all_goals first
      | exact ⟨rfl, True.intro⟩
      | (exfalso; simp [q1, q2, q3] at h; done)
  subst q4
  by_cases q5 : a.names.length = b.names.length
  case neg =>
    rw [decide_eq_false (fun e => q5 (by rw [e]))]
    (refine gW ?_; intros)
    all_goals first
      | exact ⟨rfl, True.intro⟩
      | (refine ⟨congrArg D.bool ?_, True.intro⟩; simp [q5]; done)
      | (exfalso; simp [q5] at h; done)
      | (exfalso; rename_i h1; simp [q5] at h1; done)
  by_cases q6 : a.fr.length = b.fr.length
  case neg =>
    rw [decide_eq_false (fun e => q6 (by rw [e]))]
    (refine gW ?_; intros)
    all_goals first
      | exact ⟨rfl, True.intro⟩
      | (refine ⟨congrArg D.bool ?_, True.intro⟩; simp [q6]; done)
      | (exfalso; simp [q6] at h; done)
      | (exfalso; rename_i h1; simp [q6] at h1; done)
  have hiff : a = b ↔ a.names = b.names ∧ a.fr = b.fr := by rw [req_eq]; simp only [q1, q2, q3, hxa, hxb, true_and]
  have kiff : Kp _ := ⟨hiff⟩
  clear hiff
  clear hxa hxb
  cases xa
  case false =>
    ((refine xP ?_ ?_) <;> intros)
    all_goals try (exfalso; first | (simp [q1, q2, q3, q5, q6] at h; done) | (rename_i h1; simp [q1, q2, q3, q5, q6] at h1; done))
    refine loop_rule hT (S := Nat) (fun k => ([(2, .ptr (.loc 0) 0 0 0), (3, .ptr (.loc 1) 0 0 0), (4, .d (.bool false)), (5, .d (.int .i64 k))], ⟨[some (.box 106 (up (eReqH a false))), some (.box 106 (up (eReqH b false)))], []⟩)) (fun k => k ≤ a.names.length ∧ (a.names = b.names ↔ a.names.drop k = b.names.drop k)) (fun k => a.names.length - k) 0 ?_ ?_ ?_
    · repeat' (first | exact True.intro | exact rfl | exact Nat.le_refl _ | refine And.intro ?_ ?_)
    · exact ⟨Nat.zero_le _, Iff.rfl⟩
    · rintro k ⟨hk, hc⟩
      have kc : Kp _ := ⟨hc⟩
      clear hc
      by_cases hk2 : k < a.names.length
      · have hkb : k < b.names.length := by omega
        by_cases e : a.names.getD k default = b.names.getD k default
        · have kn : Kp (a.names = b.names ↔ a.names.drop (k + 1) = b.names.drop (k + 1)) := ⟨by
            rw [kc.h, drop_at hk2, drop_at hkb, e]
            simp⟩
          (refine gW ?_; intros)
          all_goals try exact (h e).elim
          refine ⟨k + 1, ⟨by show k + 1 ≤ a.names.length; omega, kn.h⟩, by show a.names.length - (k + 1) < a.names.length - k; omega, ?_⟩
          repeat' (first | exact True.intro | exact rfl | exact Nat.le_refl _ | refine And.intro ?_ ?_)
        · rw [decide_eq_false (fun e2 => e (by rw [e2]))]
          (refine gW ?_; intros)
          all_goals first
            | exact ⟨rfl, True.intro⟩
            | exact (e h).elim
      · have hnm : a.names = b.names := kc.h.2 (by rw [drop_end (by omega), drop_end (by omega)])
        have kiff2 : Kp (a = b ↔ a.fr = b.fr) := ⟨by rw [kiff.h]; exact ⟨fun h => h.2, fun h => ⟨hnm, h⟩⟩⟩
        clear hnm
        (refine gW ?_; intros)
        refine loop_rule hT (S := Nat) (fun k => ([(2, .ptr (.loc 0) 0 0 0), (3, .ptr (.loc 1) 0 0 0), (4, .d (.bool false)), (6, .d (.int .i64 k))], ⟨[some (.box 106 (up (eReqH a false))), some (.box 106 (up (eReqH b false)))], []⟩)) (fun k => k ≤ a.fr.length ∧ (a = b ↔ a.fr.drop k = b.fr.drop k)) (fun k => a.fr.length - k) 0 ?_ ?_ ?_
        · repeat' (first | exact True.intro | exact rfl | exact Nat.le_refl _ | refine And.intro ?_ ?_)
        · exact ⟨Nat.zero_le _, kiff2.h⟩
        · clear kc hk2 hk
          rintro k ⟨hk, hc⟩
          have kc : Kp _ := ⟨hc⟩
          clear hc
          by_cases hk2 : k < a.fr.length
          · have hkb : k < b.fr.length := by omega
            by_cases e : a.fr.getD k default = b.fr.getD k default
            · have kn : Kp (a = b ↔ a.fr.drop (k + 1) = b.fr.drop (k + 1)) := ⟨by
                rw [kc.h, drop_at hk2, drop_at hkb, e]
                simp⟩
              (refine gW ?_; intros)
              refine ⟨k + 1, ⟨by show k + 1 ≤ a.fr.length; omega, kn.h⟩, by show a.fr.length - (k + 1) < a.fr.length - k; omega, ?_⟩
              repeat' (first | exact True.intro | exact rfl | exact Nat.le_refl _ | refine And.intro ?_ ?_)
            · rw [decide_eq_false (fun e2 => e (by rw [e2]))]
              (refine gW ?_; intros)
              exact ⟨rfl, True.intro⟩
          · rw [decide_eq_true (kc.h.2 (by rw [drop_end (by omega), drop_end (by omega)]))]
            (refine gW ?_; intros)
            exact ⟨rfl, True.intro⟩
  case true =>
    ((refine xP ?_ ?_) <;> intros)
    all_goals try (exfalso; first | (simp [q1, q2, q3, q5, q6] at h; done) | (rename_i h1; simp [q1, q2, q3, q5, q6] at h1; done))
    refine loop_rule hT (S := Nat) (fun k => ([(2, .ptr (.loc 0) 0 0 0), (3, .ptr (.loc 1) 0 0 0), (4, .d (.bool false)), (5, .d (.int .i64 k))], ⟨[some (.box 106 (up (eReqH a true))), some (.box 106 (up (eReqH b true)))], []⟩)) (fun k => k ≤ a.names.length ∧ (a.names = b.names ↔ a.names.drop k = b.names.drop k)) (fun k => a.names.length - k) 0 ?_ ?_ ?_
    · repeat' (first | exact True.intro | exact rfl | exact Nat.le_refl _ | refine And.intro ?_ ?_)
    · exact ⟨Nat.zero_le _, Iff.rfl⟩
    · rintro k ⟨hk, hc⟩
      have kc : Kp _ := ⟨hc⟩
      clear hc
      by_cases hk2 : k < a.names.length
      · have hkb : k < b.names.length := by omega
        by_cases e : a.names.getD k default = b.names.getD k default
        · have kn : Kp (a.names = b.names ↔ a.names.drop (k + 1) = b.names.drop (k + 1)) := ⟨by
            rw [kc.h, drop_at hk2, drop_at hkb, e]
            simp⟩
          (refine gW ?_; intros)
          all_goals try exact (h e).elim
          refine ⟨k + 1, ⟨by show k + 1 ≤ a.names.length; omega, kn.h⟩, by show a.names.length - (k + 1) < a.names.length - k; omega, ?_⟩
          repeat' (first | exact True.intro | exact rfl | exact Nat.le_refl _ | refine And.intro ?_ ?_)
        · rw [decide_eq_false (fun e2 => e (by rw [e2]))]
          (refine gW ?_; intros)
          all_goals first
            | exact ⟨rfl, True.intro⟩
            | exact (e h).elim
      · have hnm : a.names = b.names := kc.h.2 (by rw [drop_end (by omega), drop_end (by omega)])
        have kiff2 : Kp (a = b ↔ a.fr = b.fr) := ⟨by rw [kiff.h]; exact ⟨fun h => h.2, fun h => ⟨hnm, h⟩⟩⟩
        clear hnm
        (refine gW ?_; intros)
        refine loop_rule hT (S := Nat) (fun k => ([(2, .ptr (.loc 0) 0 0 0), (3, .ptr (.loc 1) 0 0 0), (4, .d (.bool false)), (6, .d (.int .i64 k))], ⟨[some (.box 106 (up (eReqH a true))), some (.box 106 (up (eReqH b true)))], []⟩)) (fun k => k ≤ a.fr.length ∧ (a = b ↔ a.fr.drop k = b.fr.drop k)) (fun k => a.fr.length - k) 0 ?_ ?_ ?_
        · repeat' (first | exact True.intro | exact rfl | exact Nat.le_refl _ | refine And.intro ?_ ?_)
        · exact ⟨Nat.zero_le _, kiff2.h⟩
        · clear kc hk2 hk
          rintro k ⟨hk, hc⟩
          have kc : Kp _ := ⟨hc⟩
          clear hc
          by_cases hk2 : k < a.fr.length
          · have hkb : k < b.fr.length := by omega
            by_cases e : a.fr.getD k default = b.fr.getD k default
            · have kn : Kp (a = b ↔ a.fr.drop (k + 1) = b.fr.drop (k + 1)) := ⟨by
                rw [kc.h, drop_at hk2, drop_at hkb, e]
                simp⟩
              (refine gW ?_; intros)
              refine ⟨k + 1, ⟨by show k + 1 ≤ a.fr.length; omega, kn.h⟩, by show a.fr.length - (k + 1) < a.fr.length - k; omega, ?_⟩
              repeat' (first | exact True.intro | exact rfl | exact Nat.le_refl _ | refine And.intro ?_ ?_)
            · rw [decide_eq_false (fun e2 => e (by rw [e2]))]
              (refine gW ?_; intros)
              exact ⟨rfl, True.intro⟩
          · rw [decide_eq_true (kc.h.2 (by rw [drop_end (by omega), drop_end (by omega)]))]
            (refine gW ?_; intros)
            exact ⟨rfl, True.intro⟩
theorem prg_eq (a b : Prg) : a = b ↔ a.name = b.name ∧ a.number = b.number ∧ a.uses = b.uses ∧ a.earn = b.earn ∧ (a.mn = b.mn ∧ a.md = b.md) ∧ a.reqs = b.reqs := by
  cases a; cases b
  simp only [Prg.mk.injEq, and_assoc]
def wfPrg2 (p : Prg) : Prop := fitL p.reqs ∧ ∀ q ∈ p.reqs, wfReq q
theorem samePrg_ok (a b : Prg) (ha : wfPrg2 a) (hb : wfPrg2 b) : Pure Tryz.prog 35 [.agg (ePrg a), .agg (ePrg b)] [.bool (decide (a = b))] := by
  have hla : a.reqs.length ≤ 9223372036854775807 := ha.1
  have hlb : b.reqs.length ≤ 9223372036854775807 := hb.1
  refine pure_rule hT (T := tab) (N := 67) (rs := [.tmp 4]) Tryz.func35 rfl rfl rfl (by kernel_rfl) rfl ?_
  by_cases q1 : a.name = b.name
  case neg =>
    rw [decide_eq_false (fun e => q1 (by rw [e]))]
    ((refine xW ?_ ?_) <;> intros)
    all_goals first
      | exact ⟨rfl, True.intro⟩
      | (refine ⟨congrArg D.bool ?_, True.intro⟩; simp [q1]; done)
      | (exfalso; simp [q1] at h; done)
      | (exfalso; rename_i h1; simp [q1] at h1; done)
  by_cases q2 : a.number = b.number
  case neg =>
    rw [decide_eq_false (fun e => q2 (by rw [e]))]
    (refine gW ?_; intros)
    all_goals first
      | exact ⟨rfl, True.intro⟩
      | (refine ⟨congrArg D.bool ?_, True.intro⟩; simp [q2]; done)
      | (exfalso; simp [q2] at h; done)
      | (exfalso; rename_i h1; simp [q2] at h1; done)
  by_cases q3 : a.uses = b.uses
  case neg =>
    rw [decide_eq_false (fun e => q3 (by rw [e]))]
    (refine gW ?_; intros)
    all_goals first
      | exact ⟨rfl, True.intro⟩
      | (refine ⟨congrArg D.bool ?_, True.intro⟩; simp [q3]; done)
      | (exfalso; simp [q3] at h; done)
      | (exfalso; rename_i h1; simp [q3] at h1; done)
  by_cases q4 : a.earn = b.earn
  case neg =>
    rw [decide_eq_false (fun e => q4 (by rw [e]))]
    (refine gW ?_; intros)
    all_goals first
      | exact ⟨rfl, True.intro⟩
      | (refine ⟨congrArg D.bool ?_, True.intro⟩; simp [q4]; done)
      | (exfalso; simp [q4] at h; done)
      | (exfalso; rename_i h1; simp [q4] at h1; done)
  by_cases q5 : a.mn = b.mn
  case neg =>
    rw [decide_eq_false (fun e => q5 (by rw [e]))]
    (refine gP ?_; intros)
    all_goals first
      | exact ⟨rfl, True.intro⟩
      | (exfalso; simp [q5] at h; done)
  by_cases q6 : a.md = b.md
  case neg =>
    rw [decide_eq_false (fun e => q6 (by rw [e]))]
    (refine gP ?_; intros)
    all_goals first
      | exact ⟨rfl, True.intro⟩
      | (exfalso; simp [q6] at h; done)
  by_cases q7 : a.reqs.length = b.reqs.length
  case neg =>
    rw [decide_eq_false (fun e => q7 (by rw [e]))]
    (refine gP ?_; intros)
    all_goals first
      | exact ⟨rfl, True.intro⟩
      | (exfalso; simp [q7] at h; done)
  have hiff : a = b ↔ a.reqs = b.reqs := by rw [prg_eq]; simp only [q1, q2, q3, q4, q5, q6, true_and]
  have kiff : Kp _ := ⟨hiff⟩
  clear hiff
  ((refine xP ?_ ?_) <;> intros)
  all_goals try (exfalso; first | (simp [q1, q2, q3, q4, q5, q6, q7] at h; done) | (rename_i h1; simp [q1, q2, q3, q4, q5, q6, q7] at h1; done))
  refine loop_rule hT (S := Nat) (fun k => ([(2, .ptr (.loc 0) 0 0 0), (3, .ptr (.loc 1) 0 0 0), (4, .d (.bool false)), (5, .d (.int .i64 k))], ⟨[some (.box 78 (up (ePrg a))), some (.box 78 (up (ePrg b)))], []⟩)) (fun k => k ≤ a.reqs.length ∧ (a = b ↔ a.reqs.drop k = b.reqs.drop k)) (fun k => a.reqs.length - k) 0 ?_ ?_ ?_
  · repeat' (first | exact True.intro | exact rfl | exact Nat.le_refl _ | refine And.intro ?_ ?_)
  · exact ⟨Nat.zero_le _, kiff.h⟩
  · rintro k ⟨hk, hc⟩
    have kc : Kp _ := ⟨hc⟩
    clear hc
    by_cases hk2 : k < a.reqs.length
    · have hkb : k < b.reqs.length := by omega
      have hI := sameReq_ok _ _ (ha.2 _ (getD_mem hk2)) (hb.2 _ (getD_mem hkb))
      by_cases e : a.reqs.getD k default = b.reqs.getD k default
      · rw [decide_eq_true e] at hI
        have kn : Kp (a = b ↔ a.reqs.drop (k + 1) = b.reqs.drop (k + 1)) := ⟨by
          rw [kc.h, drop_at hk2, drop_at hkb, e]
          simp⟩
        clear e
        (refine gW ?_; intros)
        refine qC hI ?_
        (refine gW ?_; intros)
        refine ⟨k + 1, ⟨by show k + 1 ≤ a.reqs.length; omega, kn.h⟩, by show a.reqs.length - (k + 1) < a.reqs.length - k; omega, ?_⟩
        repeat' (first | exact True.intro | exact rfl | exact Nat.le_refl _ | refine And.intro ?_ ?_)
      · rw [decide_eq_false e] at hI
        rw [decide_eq_false (fun e2 => e (by rw [e2]))]
        clear e
        (refine gW ?_; intros)
        refine qC hI ?_
        (refine gW ?_; intros)
        exact ⟨rfl, True.intro⟩
    · rw [decide_eq_true (kc.h.2 (by rw [drop_end (by omega), drop_end (by omega)]))]
      (refine gW ?_; intros)
      exact ⟨rfl, True.intro⟩
end Go.Proofs.YtmlhghddfobmmaaGreatDoor
