/-
  Chapter 14: which definitions are valid, by the reference: programmes, books.
-/
import Derived.Test.YtmlhghddfobmmaaGreatDoorBookF
namespace Go.Proofs.YtmlhghddfobmmaaGreatDoor
set_option linter.unusedSimpArgs false
set_option linter.unusedVariables false
open Go Go.Ab
set_option maxRecDepth 100000
set_option maxHeartbeats 0
theorem isProgramme_ok (p : Prg) (hw : wfPrg p) : Pure Tryz.prog 94 [.agg (ePrg p)] [.bool (vPrg p)] := by
  have hA := rin_ok p.number 0 255
  have hB := rin_ok p.uses 1 4
  have hC := rin_ok p.earn 0 10000
  have hD := rmean14_ok p.mn p.md hw.1 hw.2.1
  have hl1 : p.reqs.length ≤ 9223372036854775807 := hw.2.2.1
  unfold vPrg
  refine pure_rule hT (T := tab) (N := 70) (rs := [.tmp 2]) Tryz.func94 rfl rfl rfl (by kernel_rfl) rfl ?_
  cases h1 : bw p.number 0 255 <;> rw [h1] at hA
  · (refine gW ?_; intros)
    refine hA.call ?_
    (refine gW ?_; intros)
    exact ⟨rfl, True.intro⟩
  cases h2 : bw p.uses 1 4 <;> rw [h2] at hB
  · (refine gW ?_; intros)
    refine hA.call ?_
    (refine gW ?_; intros)
    refine hB.call ?_
    (refine gW ?_; intros)
    exact ⟨rfl, True.intro⟩
  cases h3 : bw p.earn 0 10000 <;> rw [h3] at hC
  · (refine gW ?_; intros)
    refine hA.call ?_
    (refine gW ?_; intros)
    refine hB.call ?_
    (refine gW ?_; intros)
    refine hC.call ?_
    (refine gW ?_; intros)
    exact ⟨rfl, True.intro⟩
  cases h4 : meanQ p.mn p.md <;> rw [h4] at hD
  · (refine gW ?_; intros)
    refine hA.call ?_
    (refine gW ?_; intros)
    refine hB.call ?_
    (refine gW ?_; intros)
    refine hC.call ?_
    (refine gW ?_; intros)
    refine hD.call ?_
    (refine gW ?_; intros)
    exact ⟨rfl, True.intro⟩
  by_cases h5 : p.reqs.length ≤ 64
  case neg =>
    rw [decide_eq_false h5]
    have h6 : (64 : Int) < ((p.reqs.length : Nat) : Int) := by omega
    (refine gW ?_; intros)
    refine hA.call ?_
    (refine gW ?_; intros)
    refine hB.call ?_
    (refine gW ?_; intros)
    refine hC.call ?_
    (refine gW ?_; intros)
    refine hD.call ?_
    (refine gW ?_; intros)
    exact ⟨rfl, True.intro⟩
  rw [decide_eq_true h5]
  have h6 : ¬ (64 : Int) < ((p.reqs.length : Nat) : Int) := by omega
  show Ev _
  simp only [Bool.true_and]
  (refine gW ?_; intros)
  refine hA.call ?_
  (refine gW ?_; intros)
  refine hB.call ?_
  (refine gW ?_; intros)
  refine hC.call ?_
  (refine gW ?_; intros)
  refine hD.call ?_
  (refine gW ?_; intros)
  refine loop_rule hT (S := Nat) (fun k => ([(1, .ptr (.loc 0) 0 0 0), (3, .d (.int .i64 k))], ⟨[some (.box 78 (up (ePrg p)))], []⟩)) (fun k => k ≤ p.reqs.length ∧ p.reqs.all vReq = (p.reqs.drop k).all vReq) (fun k => p.reqs.length - k) 0 ?_ ?_ ?_
  · repeat' (first | exact True.intro | exact rfl | exact Nat.le_refl _ | refine And.intro ?_ ?_)
  · exact ⟨Nat.zero_le _, rfl⟩
  · rintro k ⟨hk, hc⟩
    by_cases hk2 : k < p.reqs.length
    · have hm := getD_mem (xs := p.reqs) (k := k) hk2
      have hlf : (p.reqs.getD k default).fr.length ≤ 9223372036854775807 := hw.2.2.2 _ hm
      have g1 := rin_ok (p.reqs.getD k default).credits 1 10000
      have g2 := rin_ok (p.reqs.getD k default).grade 0 12
      rw [drop_at hk2, List.all_cons, vReq] at hc
      cases h1 : bw (p.reqs.getD k default).credits 1 10000 <;> rw [h1] at g1 hc
      · rw [hc]
        (refine gW ?_; intros)
        refine g1.call ?_
        (refine gW ?_; intros)
        exact ⟨rfl, True.intro⟩
      cases h2 : bw (p.reqs.getD k default).grade 0 12 <;> rw [h2] at g2 hc
      · rw [hc]
        (refine gW ?_; intros)
        refine g1.call ?_
        (refine gW ?_; intros)
        refine g2.call ?_
        (refine gW ?_; intros)
        exact ⟨rfl, True.intro⟩
      have kc : Kp _ := ⟨hc⟩
      clear hc
      (refine gW ?_; intros)
      refine g1.call ?_
      (refine gW ?_; intros)
      refine g2.call ?_
      (refine gW ?_; intros)
      refine loop_rule hT (S := Nat) (fun j => ([(1, .ptr (.loc 0) 0 0 0), (3, .d (.int .i64 k)), (4, .ptr (.loc 1) 0 0 0), (5, .d (.int .i64 j))], ⟨[some (.box 78 (up (ePrg p))), some (.box 106 (up (eReq (p.reqs.getD k default))))], []⟩)) (fun j => j ≤ (p.reqs.getD k default).fr.length ∧ (p.reqs.getD k default).fr.all vNum = ((p.reqs.getD k default).fr.drop j).all vNum) (fun j => (p.reqs.getD k default).fr.length - j) 0 ?_ ?_ ?_
      · repeat' (first | exact True.intro | exact rfl | exact Nat.le_refl _ | refine And.intro ?_ ?_)
      · exact ⟨Nat.zero_le _, rfl⟩
      · rintro j ⟨hj, hcj⟩
        by_cases hj2 : j < (p.reqs.getD k default).fr.length
        · have g3 := rin_ok ((p.reqs.getD k default).fr.getD j default) 0 4095
          rw [drop_at hj2, List.all_cons, vNum] at hcj
          cases h3 : bw ((p.reqs.getD k default).fr.getD j default) 0 4095 <;> rw [h3] at g3 hcj
          · have kj : Kp (false = p.reqs.all vReq) := ⟨by rw [kc.h, hcj]; rfl⟩
            clear hcj
            (refine gW ?_; intros)
            refine g3.call ?_
            (refine gW ?_; intros)
            exact ⟨congrArg D.bool kj.h, True.intro⟩
          · have kj : Kp _ := ⟨hcj⟩
            clear hcj
            (refine gW ?_; intros)
            refine g3.call ?_
            (refine gW ?_; intros)
            refine ⟨j + 1, ⟨by show j + 1 ≤ (p.reqs.getD k default).fr.length; omega, by rw [kj.h]; rfl⟩, by show (p.reqs.getD k default).fr.length - (j + 1) < (p.reqs.getD k default).fr.length - j; omega, ?_⟩
            repeat' (first | exact True.intro | exact rfl | exact Nat.le_refl _ | refine And.intro ?_ ?_)
        · rw [drop_end (by omega), List.all_nil] at hcj
          have kj : Kp _ := ⟨hcj⟩
          clear hcj
          (refine gW ?_; intros)
          refine ⟨k + 1, ⟨by show k + 1 ≤ p.reqs.length; omega, by rw [kc.h, kj.h]; rfl⟩, by show p.reqs.length - (k + 1) < p.reqs.length - k; omega, ?_⟩
          repeat' (first | exact True.intro | exact rfl | exact Nat.le_refl _ | refine And.intro ?_ ?_)
    · rw [drop_end (by omega), List.all_nil] at hc
      rw [hc]
      (refine gW ?_; intros)
      exact ⟨rfl, True.intro⟩
end Go.Proofs.YtmlhghddfobmmaaGreatDoor
