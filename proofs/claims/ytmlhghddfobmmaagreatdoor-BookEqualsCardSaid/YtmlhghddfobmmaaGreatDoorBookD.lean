/-
  Chapter 14: which rules are valid, by the reference: Check.
-/
import Derived.Test.YtmlhghddfobmmaaGreatDoorBookC
namespace Go.Proofs.YtmlhghddfobmmaaGreatDoor
set_option linter.unusedSimpArgs false
set_option linter.unusedVariables false
open Go Go.Ab
set_option maxRecDepth 100000
set_option maxHeartbeats 0
theorem rformed_ok (r : Rule) (hI : In1 r) : Pure Tryz.prog 227 [.agg (eRule r)] [.bool (formedR r)] := by
  by_cases ho : bw r.op 1 9 = true
  · have h1 : 1 ≤ r.op ∧ r.op ≤ 9 := by simpa [bw] using ho
    have h2 : r.op = 1 ∨ r.op = 2 ∨ r.op = 3 ∨ r.op = 4 ∨ r.op = 5 ∨ r.op = 6 ∨ r.op = 7 ∨ r.op = 8 ∨ r.op = 9 := by omega
    rcases h2 with h | h | h | h | h | h | h | h | h
    · exact rformed1_ok r hI h
    · exact rformed2_ok r hI h
    · exact rformed3_ok r hI h
    · exact rformed4_ok r hI h
    · exact rformed5_ok r hI h
    · exact rformed6_ok r hI h
    · exact rformed7_ok r hI h
    · exact rformed8_ok r hI h
    · exact rformed9_ok r hI h
  · have hb : bw r.op 1 9 = false := by simpa using ho
    have hF : formedR r = false := by simp [formedR, hb]
    have hb2 : bw r.op 5 9 = false := by
      simp [bw] at hb ⊢
      omega
    have hn : ∀ k : Int, 1 ≤ k → k ≤ 9 → r.op ≠ k := fun k h1 h2 e => by
      simp [bw] at hb
      omega
    have n1 := hn 1 (by decide) (by decide)
    have n2 := hn 2 (by decide) (by decide)
    have n3 := hn 3 (by decide) (by decide)
    have n4 := hn 4 (by decide) (by decide)
    have n5 := hn 5 (by decide) (by decide)
    have n6 := hn 6 (by decide) (by decide)
    have n7 := hn 7 (by decide) (by decide)
    have n8 := hn 8 (by decide) (by decide)
    have n9 := hn 9 (by decide) (by decide)
    have hA := ratom_ok r.op
    rw [hb2] at hA
    rw [hF]
    refine pure_rule hT (T := tab) (N := 152) (rs := [.tmp 2]) Tryz.func227 rfl rfl rfl (by kernel_rfl) rfl ?_
    ((refine xW ?_ ?_) <;> intros)
    refine hA.call ?_
    (refine gW ?_; intros)
    all_goals exact ⟨rfl, True.intro⟩
/-- All parts of a rule are right if it is and all parts of its kids are. -/
theorem allF_eq (r : Rule) : allF r = (formedR r && r.kids.all allF) := by
  unfold allF
  rw [preR_eq, List.all_cons]
  congr 1
  have hd : ∀ (k : Rule) (d e : Nat), ((preR d k).all fun p => formedR p.2) = (preR e k).all fun p => formedR p.2 := fun k d e => by
    have h : ∀ l : List (Nat × Rule), (l.all fun p => formedR p.2) = (l.map Prod.snd).all formedR := fun l => by rw [List.all_map]; rfl
    rw [h, h, preR_shift k d e]
  induction r.kids with
  | nil => rw [preL_nil]; rfl
  | cons k ks ih => rw [preL_cons, List.all_append, List.all_cons, ih, hd k 2 1]
theorem allF12_ok : ∀ r : Rule, wfR r → Pure Tryz.prog 199 [.agg (eRule r)] [.bool (allF r)] := by
  refine rule_ind fun r ih hw => ?_
  obtain ⟨hw1, hw2⟩ := wfR_kids hw
  have hF := rformed_ok r hw1
  have hlk := hw1.2.2.2.2
  rw [allF_eq]
  refine pure_rule hT (T := tab) (N := 21) (rs := [.tmp 2]) Tryz.func199 rfl rfl rfl (by kernel_rfl) rfl ?_
  cases h0 : formedR r <;> rw [h0] at hF
  · (refine gW ?_; intros)
    refine hF.call ?_
    (refine gW ?_; intros)
    exact ⟨rfl, True.intro⟩
  rw [Bool.true_and]
  (refine gW ?_; intros)
  refine hF.call ?_
  (refine gW ?_; intros)
  refine loop_rule hT (S := Nat) (fun k => ([(1, .ptr (.loc 0) 0 0 0), (3, .d (.int .i64 k))], ⟨[some (.box 66 (up (eRule r)))], []⟩)) (fun k => k ≤ r.kids.length ∧ r.kids.all allF = (r.kids.drop k).all allF) (fun k => r.kids.length - k) 0 ?_ ?_ ?_
  · repeat' (first | exact True.intro | exact rfl | exact Nat.le_refl _ | refine And.intro ?_ ?_)
  · exact ⟨Nat.zero_le _, rfl⟩
  · rintro k ⟨hk, hc⟩
    by_cases hk2 : k < r.kids.length
    · have hne : r.kids ≠ [] := fun e => by rw [e] at hk2; exact absurd hk2 (Nat.not_lt_zero _)
      have hmem : r.kids.getD k default ∈ r.kids := getD_mem hk2
      have hI := ih _ hmem (hw2 _ hmem)
      have er : eRule r = [.int .i64 r.op, .int .i64 r.course, .str r.name, .int .i64 r.n, .int .i64 r.d, .sl 6 r.kids.length fun i => eRule (r.kids.getD i default)] := by
        unfold eRule
        rw [eRules_ne hne]
        rfl
      rw [drop_at hk2, List.all_cons] at hc
      dsimp only
      rw [er]
      cases h1 : allF (r.kids.getD k default) <;> rw [h1] at hc hI
      · rw [Bool.false_and] at hc
        rw [hc]
        (refine gW ?_; intros)
        refine hI.call ?_
        (refine gW ?_; intros)
        exact ⟨rfl, True.intro⟩
      · rw [Bool.true_and] at hc
        (refine gW ?_; intros)
        refine hI.call ?_
        (refine gW ?_; intros)
        refine ⟨k + 1, ⟨by show k + 1 ≤ r.kids.length; omega, hc⟩, by show r.kids.length - (k + 1) < r.kids.length - k; omega, ?_⟩
        repeat' (first | exact True.intro | exact rfl | exact Nat.le_refl _ | refine And.intro ?_ ?_)
    · rw [drop_end (by omega), List.all_nil] at hc
      rw [hc]
      (refine gW ?_; intros)
      exact ⟨rfl, True.intro⟩
theorem check12_ok (r : Rule) (hw : wfR r) (hc : cntR r ≤ 1000000) : Pure Tryz.prog 158 [.agg (eRule r)] [.int .i64 (chkR r)] := by
  have hA := parts12_ok r hw hc
  have hB := depth12_ok r hw hc
  have hC := allF12_ok r hw
  unfold chkR
  refine pure_rule hT (T := tab) (N := 16) (rs := [.tmp 2]) Tryz.func158 rfl rfl rfl (by kernel_rfl) rfl ?_
  by_cases h1 : cntR r ≤ 200
  · by_cases h2 : depR r ≤ 16
    · cases h3 : allF r <;> rw [h3] at hC
      · rw [if_neg (by simp)]
        (refine gW ?_; intros)
        refine hA.call ?_
        (refine gW ?_; intros)
        refine hB.call ?_
        (refine gW ?_; intros)
        refine hC.call ?_
        (refine gW ?_; intros)
        exact ⟨rfl, True.intro⟩
      · rw [if_pos ⟨h1, h2, rfl⟩]
        (refine gW ?_; intros)
        refine hA.call ?_
        (refine gW ?_; intros)
        refine hB.call ?_
        (refine gW ?_; intros)
        refine hC.call ?_
        (refine gW ?_; intros)
        exact ⟨rfl, True.intro⟩
    · rw [if_neg (by omega)]
      (refine gW ?_; intros)
      refine hA.call ?_
      (refine gW ?_; intros)
      refine hB.call ?_
      (refine gW ?_; intros)
      exact ⟨rfl, True.intro⟩
  · rw [if_neg (by omega)]
    (refine gW ?_; intros)
    refine hA.call ?_
    (refine gW ?_; intros)
    exact ⟨rfl, True.intro⟩
end Go.Proofs.YtmlhghddfobmmaaGreatDoor
