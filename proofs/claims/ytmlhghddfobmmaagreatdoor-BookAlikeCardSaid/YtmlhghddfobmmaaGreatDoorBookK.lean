/-
  Chapter 14: equality of systems, books; few definitions.
-/
import Derived.Test.YtmlhghddfobmmaaGreatDoorBookJ
namespace Go.Proofs.YtmlhghddfobmmaaGreatDoor
set_option linter.unusedSimpArgs false
set_option linter.unusedVariables false
open Go Go.Ab
set_option maxRecDepth 100000
set_option maxHeartbeats 0
theorem sys_eq (a b : Sys) : a = b ↔ a.classes = b.classes ∧ a.honours = b.honours ∧ a.fees = b.fees ∧ a.clauses = b.clauses := by
  cases a; cases b
  simp only [Sys.mk.injEq]
  exact ⟨fun h => ⟨h.1, h.2.2.1, h.2.1, h.2.2.2⟩, fun h => ⟨h.1, h.2.2.1, h.2.1, h.2.2.2⟩⟩
theorem fee_eq (a b : Fee) : a = b ↔ a.name = b.name ∧ a.credits = b.credits := by
  cases a; cases b
  simp only [Fee.mk.injEq]
theorem cla_eq (a b : Cla) : a = b ↔ a.kind = b.kind ∧ a.whn = b.whn ∧ a.action = b.action ∧ a.til = b.til := by
  cases a; cases b
  simp only [Cla.mk.injEq]
theorem sameSys_ok (a b : Sys) (ha : wfSys a) (hb : wfSys b) : Pure Tryz.prog 38 [.agg (eSys a), .agg (eSys b)] [.bool (decide (a = b))] := by
  have hA := sameClss_ok a.classes b.classes ha.1.1 hb.1.1
  have hB := sameClss_ok a.honours b.honours ha.2.1.1 hb.2.1.1
  have hl1 : a.fees.length ≤ 9223372036854775807 := ha.2.2.1
  have hl2 : a.clauses.length ≤ 9223372036854775807 := ha.2.2.2
  have hm1 : b.fees.length ≤ 9223372036854775807 := hb.2.2.1
  have hm2 : b.clauses.length ≤ 9223372036854775807 := hb.2.2.2
  refine pure_rule hT (T := tab) (N := 75) (rs := [.tmp 4]) Tryz.func38 rfl rfl rfl (by kernel_rfl) rfl ?_
  by_cases q1 : a.classes = b.classes
  case neg =>
    rw [decide_eq_false q1] at hA
    rw [decide_eq_false (fun e => q1 (by rw [e]))]
    clear q1
    (refine gW ?_; intros)
    refine hA.call ?_
    (refine gW ?_; intros)
    exact ⟨rfl, True.intro⟩
  rw [decide_eq_true q1] at hA
  by_cases q2 : a.honours = b.honours
  case neg =>
    rw [decide_eq_false q2] at hB
    rw [decide_eq_false (fun e => q2 (by rw [e]))]
    clear q1 q2
    (refine gW ?_; intros)
    refine hA.call ?_
    (refine gW ?_; intros)
    refine hB.call ?_
    (refine gW ?_; intros)
    exact ⟨rfl, True.intro⟩
  rw [decide_eq_true q2] at hB
  have hiff : a = b ↔ a.fees = b.fees ∧ a.clauses = b.clauses := by rw [sys_eq]; simp only [q1, q2, true_and]
  have kiff : Kp _ := ⟨hiff⟩
  clear hiff q1 q2
  by_cases q3 : a.fees.length = b.fees.length
  case neg =>
    rw [decide_eq_false (fun e => q3 (by rw [e]))]
    (refine gW ?_; intros)
    refine hA.call ?_
    (refine gW ?_; intros)
    refine hB.call ?_
    (refine gW ?_; intros)
    exact ⟨rfl, True.intro⟩
  by_cases q4 : a.clauses.length = b.clauses.length
  case neg =>
    rw [decide_eq_false (fun e => q4 (by rw [e]))]
    (refine gW ?_; intros)
    refine hA.call ?_
    (refine gW ?_; intros)
    refine hB.call ?_
    (refine gW ?_; intros)
    exact ⟨rfl, True.intro⟩
  (refine gW ?_; intros)
  refine hA.call ?_
  (refine gW ?_; intros)
  refine hB.call ?_
  (refine gW ?_; intros)
  refine loop_rule hT (S := Nat) (fun k => ([(2, .ptr (.loc 0) 0 0 0), (3, .ptr (.loc 1) 0 0 0), (4, .d (.bool false)), (5, .d (.int .i64 k))], ⟨[some (.box 83 (up (eSys a))), some (.box 83 (up (eSys b)))], []⟩)) (fun k => k ≤ a.fees.length ∧ (a.fees = b.fees ↔ a.fees.drop k = b.fees.drop k)) (fun k => a.fees.length - k) 0 ?_ ?_ ?_
  · repeat' (first | exact True.intro | exact rfl | exact Nat.le_refl _ | refine And.intro ?_ ?_)
  · exact ⟨Nat.zero_le _, Iff.rfl⟩
  · rintro k ⟨hk, hc⟩
    have kc : Kp _ := ⟨hc⟩
    clear hc
    by_cases hk2 : k < a.fees.length
    · have hkb : k < b.fees.length := by omega
      by_cases e : (a.fees.getD k default).name = (b.fees.getD k default).name ∧ (a.fees.getD k default).credits = (b.fees.getD k default).credits
      · have kn : Kp (a.fees = b.fees ↔ a.fees.drop (k + 1) = b.fees.drop (k + 1)) := ⟨by
          rw [kc.h, drop_at hk2, drop_at hkb, (fee_eq _ _).2 e]
          simp⟩
        obtain ⟨e1, e2⟩ := e
        ((refine xP ?_ ?_) <;> (intros; try rename_i h))
        all_goals try exact (h.elim (fun h => h e1) fun h => h e2).elim
        refine ⟨k + 1, ⟨by show k + 1 ≤ a.fees.length; omega, kn.h⟩, by show a.fees.length - (k + 1) < a.fees.length - k; omega, ?_⟩
        repeat' (first | exact True.intro | exact rfl | exact Nat.le_refl _ | refine And.intro ?_ ?_)
      · rw [decide_eq_false (fun e2 => e (by rw [e2]; exact ⟨rfl, rfl⟩))]
        (refine gP ?_; intros)
        all_goals first
          | exact ⟨rfl, True.intro⟩
          | exact (e h).elim
    · have hnm : a.fees = b.fees := kc.h.2 (by rw [drop_end (by omega), drop_end (by omega)])
      have kiff2 : Kp (a = b ↔ a.clauses = b.clauses) := ⟨by rw [kiff.h]; exact ⟨fun h => h.2, fun h => ⟨hnm, h⟩⟩⟩
      clear hnm
      (refine gW ?_; intros)
      refine loop_rule hT (S := Nat) (fun k => ([(2, .ptr (.loc 0) 0 0 0), (3, .ptr (.loc 1) 0 0 0), (4, .d (.bool false)), (6, .d (.int .i64 k))], ⟨[some (.box 83 (up (eSys a))), some (.box 83 (up (eSys b)))], []⟩)) (fun k => k ≤ a.clauses.length ∧ (a = b ↔ a.clauses.drop k = b.clauses.drop k)) (fun k => a.clauses.length - k) 0 ?_ ?_ ?_
      · repeat' (first | exact True.intro | exact rfl | exact Nat.le_refl _ | refine And.intro ?_ ?_)
      · exact ⟨Nat.zero_le _, kiff2.h⟩
      · clear kc hk2 hk
        rintro k ⟨hk, hc⟩
        have kc : Kp _ := ⟨hc⟩
        clear hc
        by_cases hk2 : k < a.clauses.length
        · have hkb : k < b.clauses.length := by omega
          by_cases e : (a.clauses.getD k default).kind = (b.clauses.getD k default).kind ∧ (a.clauses.getD k default).whn = (b.clauses.getD k default).whn ∧ (a.clauses.getD k default).action = (b.clauses.getD k default).action ∧ (a.clauses.getD k default).til = (b.clauses.getD k default).til
          · have kn : Kp (a = b ↔ a.clauses.drop (k + 1) = b.clauses.drop (k + 1)) := ⟨by
              rw [kc.h, drop_at hk2, drop_at hkb, (cla_eq _ _).2 e]
              simp⟩
            obtain ⟨e1, e2, e3, e4⟩ := e
            (refine gP ?_; intros)
            refine ⟨k + 1, ⟨by show k + 1 ≤ a.clauses.length; omega, kn.h⟩, by show a.clauses.length - (k + 1) < a.clauses.length - k; omega, ?_⟩
            repeat' (first | exact True.intro | exact rfl | exact Nat.le_refl _ | refine And.intro ?_ ?_)
          · rw [decide_eq_false (fun e2 => e (by rw [e2]; exact ⟨rfl, rfl, rfl, rfl⟩))]
            (refine gP ?_; intros)
            exact ⟨rfl, True.intro⟩
        · rw [decide_eq_true (kc.h.2 (by rw [drop_end (by omega), drop_end (by omega)]))]
          (refine gW ?_; intros)
          exact ⟨rfl, True.intro⟩
end Go.Proofs.YtmlhghddfobmmaaGreatDoor
