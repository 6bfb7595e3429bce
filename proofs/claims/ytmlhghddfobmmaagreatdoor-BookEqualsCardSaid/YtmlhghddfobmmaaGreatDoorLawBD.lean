/-
  Chapter 14: the law BookEquals.
-/
import Derived.Test.YtmlhghddfobmmaaGreatDoorLawBA
namespace Go.Proofs.YtmlhghddfobmmaaGreatDoor
set_option linter.unusedSimpArgs false
set_option linter.unusedVariables false
open Go Go.Ab
set_option maxRecDepth 100000
set_option maxHeartbeats 0
theorem has28_ok (l : List Int) (hl : fitL l) (n : Int) : Pure Tryz.prog 28 [eInts l, .int .i64 n] [.bool (decide (n ∈ l))] := by
  have hl' : l.length ≤ 9223372036854775807 := hl
  refine pure_rule hT (T := tab) (N := 17) (rs := [.tmp 4]) Tryz.func28 rfl rfl rfl (by kernel_rfl) rfl ?_
  (refine gW ?_; intros)
  refine loop_rule hT (S := Nat) (fun k => ([(1, .d (.int .i64 n)), (7, .d (eInts l)), (8, .d (.int .i64 l.length)), (9, .d (.int .i64 k))], ⟨[], []⟩)) (fun k => k ≤ l.length ∧ (n ∈ l ↔ n ∈ l.drop k)) (fun k => l.length - k) 0 ?_ ?_ ?_
  · repeat' (first | exact True.intro | exact rfl | exact Nat.le_refl _ | refine And.intro ?_ ?_)
  · exact ⟨Nat.zero_le _, Iff.rfl⟩
  · rintro k ⟨hk, hc⟩
    have kc : Kp _ := ⟨hc⟩
    clear hc
    by_cases hk2 : k < l.length
    · have hd := drop_at (xs := l) (k := k) hk2
      have kd : Kp _ := ⟨hd⟩
      clear hd
      by_cases e : l.getD k default = n
      · rw [decide_eq_true (kc.h.2 (by rw [kd.h, e]; simp))]
        (refine gW ?_; intros)
        exact ⟨rfl, True.intro⟩
      · (refine gW ?_; intros)
        refine ⟨k + 1, ⟨by show k + 1 ≤ l.length; omega, ?_⟩, by show l.length - (k + 1) < l.length - k; omega, ?_⟩
        · rw [kc.h, kd.h, List.mem_cons]
          exact ⟨fun h => h.resolve_left (fun h => e h.symm), .inr⟩
        · repeat' (first | exact True.intro | exact rfl | exact Nat.le_refl _ | refine And.intro ?_ ?_)
    · rw [decide_eq_false (by rw [kc.h, List.drop_eq_nil_of_le (by omega)]; simp)]
      (refine gW ?_; intros)
      exact ⟨rfl, True.intro⟩
theorem and1023 (n : Int) : 0 ≤ bitAnd .i64 n 1023 ∧ bitAnd .i64 n 1023 ≤ 1023 := by
  unfold bitAnd
  have h : (BitVec.ofInt IntKind.i64.bits n &&& BitVec.ofInt IntKind.i64.bits 1023).toNat ≤ 1023 := by
    rw [BitVec.toNat_and]
    have : (BitVec.ofInt IntKind.i64.bits 1023).toNat = 1023 := by decide
    rw [this]
    exact Nat.and_le_right
  generalize (BitVec.ofInt IntKind.i64.bits n &&& BitVec.ofInt IntKind.i64.bits 1023).toNat = m at h
  have : In .i64 (m : Int) := in64.2 (by omega)
  rw [this.wrap]
  omega
theorem tmod_at {x n : Int} (hx : 0 ≤ x) (hn : 0 < n) : 0 ≤ x.tmod n ∧ x.tmod n < n := ⟨Int.tmod_nonneg _ hx, Int.tmod_lt_of_pos _ hn⟩
theorem bookEquals_ok (w : Wor) (hw : okWor w) (i k t kn : Int) : Pure Tryz.prog 5 [.agg (eWor w), .int .i64 i, .int .i64 k, .int .i64 t, .int .i64 kn] [.bool true] := by
  have hS := sane14_ok
  have hF := few14_ok w hw.1.wf hw.2.1 hw.1.nm
  refine pure_rule hT (T := tab) (N := 109) (rs := [.tmp 10]) Tryz.func5 rfl rfl rfl (by kernel_rfl) rfl ?_
  cases hf : fewW w <;> rw [hf] at hF
  · (refine gW ?_; intros)
    refine hS.call ?_
    (refine gW ?_; intros)
    refine hF.call ?_
    (refine gW ?_; intros)
    exact ⟨rfl, True.intro⟩
  have hW := hw.wfw hf
  have hl := fewW_len hf
  have h1 := numbers_ok w hW (by omega) kn
  have hnl := nums_len w kn
  obtain ⟨ns, hns⟩ : ∃ ns, nums w kn = ns := ⟨_, rfl⟩
  rw [hns] at h1 hnl
  by_cases hz : ns.length = 0
  · clear hns hf hw hW
    (refine gW ?_; intros)
    refine hS.call ?_
    (refine gW ?_; intros)
    refine hF.call ?_
    (refine gW ?_; intros)
    refine h1.call ?_
    (refine gW ?_; intros)
    exact ⟨rfl, True.intro⟩
  have hi := and1023 i
  have hk := and1023 k
  have mi := tmod_at hi.1 (show (0 : Int) < ns.length by omega)
  have mk := tmod_at hk.1 (show (0 : Int) < ns.length by omega)
  obtain ⟨a, ha⟩ : ∃ a, ns.getD ((bitAnd .i64 i 1023).tmod ns.length).toNat default = a := ⟨_, rfl⟩
  obtain ⟨b, hb⟩ : ∃ b, ns.getD ((bitAnd .i64 k 1023).tmod ns.length).toNat default = b := ⟨_, rfl⟩
  have ma : a ∈ nums w kn := by rw [hns, ← ha]; exact getD_mem (by omega)
  have mb : b ∈ nums w kn := by rw [hns, ← hb]; exact getD_mem (by omega)
  have hl2 : w.fcts.length ≤ 100000 := by omega
  have e1 := equal_ok w hW (by omega) a t kn
  have e2 := equal_ok w hW (by omega) b t kn
  have f1 := equalL_fit w hl a t kn
  have f2 := equalL_fit w hl b t kn
  have s1 := has28_ok _ f1 a
  have s2 := has28_ok _ f2 b
  have s3 := has28_ok _ f1 b
  have s4 := has28_ok _ f2 a
  have s5 := sameInts_ok _ _ f1 f2
  obtain ⟨q1, q2, q3, se, ap⟩ := equals_plain w hl2 t kn a b ma mb
  have q4 : decide (a ∈ equalL w b t kn) = decide (b ∈ equalL w a t kn) := Bool.eq_iff_iff.2 (by simp only [decide_eq_true_iff]; exact q3.symm)
  rw [q4] at s4
  rw [decide_eq_true q1] at s1
  rw [decide_eq_true q2] at s2
  clear q1 q2 q3 q4
  have s6 := has28_ok _ f2
  generalize equalL w a t kn = l at e1 f1 s1 s3 s4 s5 ap se
  generalize equalL w b t kn = m at e2 f2 s2 s4 s5 s6 ap se
  generalize equalR w a t kn = r at e1
  generalize equalR w b t kn = r2 at e2
  clear hns ma mb hf hw hW
  subst ha
  subst hb
  have hll : l.length ≤ 9223372036854775807 := f1
  by_cases hbl : ns.getD ((bitAnd .i64 k 1023).tmod ns.length).toNat default ∈ l
  · rw [decide_eq_true hbl] at s3 s4
    rw [decide_eq_true (se hbl)] at s5
    clear se ap
    (refine gW ?_; intros)
    refine hS.call ?_
    (refine gW ?_; intros)
    refine hF.call ?_
    (refine gW ?_; intros)
    refine h1.call ?_
    (refine gW ?_; intros)
    refine e1.call ?_
    (refine gW ?_; intros)
    refine e2.call ?_
    (refine gW ?_; intros)
    refine s1.call ?_
    (refine gW ?_; intros)
    refine s2.call ?_
    (refine gW ?_; intros)
    refine s3.call ?_
    (refine gW ?_; intros)
    refine s4.call ?_
    (refine gW ?_; intros)
    refine s3.call ?_
    (refine gW ?_; intros)
    refine s5.call ?_
    (refine gW ?_; intros)
    exact ⟨rfl, True.intro⟩
  · rw [decide_eq_false hbl] at s3 s4
    have hap := ap hbl
    have s6' : ∀ x ∈ l, Pure Tryz.prog 28 [eInts m, .int .i64 x] [.bool false] := fun x hx => by
      have := s6 x
      rw [decide_eq_false (hap x hx)] at this
      exact this
    clear se ap hap s6
    (refine gW ?_; intros)
    refine hS.call ?_
    (refine gW ?_; intros)
    refine hF.call ?_
    (refine gW ?_; intros)
    refine h1.call ?_
    (refine gW ?_; intros)
    refine e1.call ?_
    (refine gW ?_; intros)
    refine e2.call ?_
    (refine gW ?_; intros)
    refine s1.call ?_
    (refine gW ?_; intros)
    refine s2.call ?_
    (refine gW ?_; intros)
    refine s3.call ?_
    (refine gW ?_; intros)
    refine s4.call ?_
    (refine gW ?_; intros)
    refine s3.call ?_
    (refine gW ?_; intros)
    refine loop_rule hT (S := Nat) (fun k => ([(17, .d (eInts m)), (19, .d (.fn (.func 28) [] [])), (98, .d (eInts l)), (99, .d (.int .i64 l.length)), (100, .d (.int .i64 k))], ⟨[some (.box 51 (up (eWor w)))], []⟩)) (fun k => k ≤ l.length) (fun k => l.length - k) 0 ?_ ?_ ?_
    · repeat' (first | exact True.intro | exact rfl | exact Nat.le_refl _ | refine And.intro ?_ ?_)
    · exact Nat.zero_le _
    · intro k hk
      dsimp only at hk ⊢
      by_cases hk2 : k < l.length
      · have h6 := s6' _ (getD_mem hk2)
        (refine gW ?_; intros)
        refine h6.call ?_
        (refine gW ?_; intros)
        refine ⟨k + 1, by show k + 1 ≤ l.length; omega, by show l.length - (k + 1) < l.length - k; omega, ?_⟩
        repeat' (first | exact True.intro | exact rfl | exact Nat.le_refl _ | refine And.intro ?_ ?_)
      · (refine gW ?_; intros)
        exact ⟨rfl, True.intro⟩
end Go.Proofs.YtmlhghddfobmmaaGreatDoor
