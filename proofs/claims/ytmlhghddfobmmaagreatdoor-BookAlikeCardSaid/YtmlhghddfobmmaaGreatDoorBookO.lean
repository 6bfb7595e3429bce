/-
  Chapter 14: Numbers, by the reference.
-/
import Derived.Test.YtmlhghddfobmmaaGreatDoorBookN
namespace Go.Proofs.YtmlhghddfobmmaaGreatDoor
set_option linter.unusedSimpArgs false
set_option linter.unusedVariables false
open Go Go.Ab
set_option maxRecDepth 100000
set_option maxHeartbeats 0
theorem rnumbers_ok (w : Wor) (hw : WfW w) (hl : w.fcts.length ≤ 100000) (kn : Int) : Pure Tryz.prog 39 [.agg (eWor w), .int .i64 kn] [eInts (nums w kn), cReds [rdK ⟨12, 0, 0⟩ 0]] := by
  have hA := rat_ok w.fcts hw.fct ⟨12, 0, 0⟩ 0 kn
  unfold nums
  obtain ⟨v, hv⟩ : ∃ v, atV w.fcts ⟨12, 0, 0⟩ 0 kn = v := ⟨_, rfl⟩
  rw [hv] at hA ⊢
  obtain ⟨many, b⟩ := v
  dsimp only at hA ⊢
  refine pure_rule hT (T := tab) (N := 71) (rs := [.tmp 4, .tmp 5]) Tryz.func39 rfl rfl rfl (by kernel_rfl) rfl ?_
  (refine gW ?_; intros)
  refine hA.call ?_
  (refine gW ?_; intros)
  refine loop_rule hT (S := NS) (fun z => ([(2, .ptr (.loc 0) 0 0 0), (6, .ptr (.loc 1) 0 0 0), (7, .d (.int .i64 many)), (9, .osl (.loc 2) z.g 0 z.l.length), (10, .d (.int .i64 z.k))],
    ⟨[some (.box 51 (up (eWor w))), some (.box 90 (up (eKe ⟨12, 0, 0⟩))), some (.vec 3 1 z.g z.l.length (rowN z.l))], []⟩))
    (fun z => z.k ≤ w.fcts.length ∧ z.l.length ≤ z.k ∧ numsL w.fcts many = (w.fcts.drop z.k).foldl (numStep many) z.l) (fun z => w.fcts.length - z.k) ⟨0, 0, []⟩ ?_ ?_ ?_
  · repeat' (first | exact True.intro | exact rfl | exact Nat.le_refl _ | refine And.intro ?_ ?_)
    all_goals (intro i hi; exact absurd hi (Nat.not_lt_zero i))
  · exact ⟨Nat.zero_le _, Nat.zero_le _, rfl⟩
  · rintro ⟨k, g, l⟩ ⟨hk, hlk, hc⟩
    dsimp only at hk hlk hc ⊢
    by_cases hk2 : k < w.fcts.length
    · rw [drop_at hk2, List.foldl_cons] at hc
      have kc : Kp _ := ⟨hc⟩
      clear hc
      by_cases hm : (l.length : Int) < many
      case neg =>
        have kf : Kp (numsL w.fcts many = l) := ⟨by rw [kc.h, numStep, if_pos (by omega), numFull (by omega)]⟩
        clear kc
        (refine gS ?_; intros)
        refine Sq.go ?_
        (refine gS ?_; intros)
        refine Sq.alt (Awp.frz [2] 9 (eInts l) (.rows rfl (Nat.le_of_eq (Nat.zero_add _)) (fun i hi => by rw [Nat.zero_add]; rfl)) (vc_ok hT _ _ _ _ (Ev.o ?_)))
        (refine gW ?_; intros)
        refine qC (rsorted14_ok l (by omega)) ?_
        (refine gW ?_; intros)
        refine qC (rread_ok ⟨12, 0, 0⟩ 0 ⟨by decide, by decide⟩) ?_
        (refine gW ?_; intros)
        rw [kf.h]
        exact ⟨⟨rfl, by rw [srtR_len, srtI_len], fun i hi => by rw [srt_eq]⟩, ⟨rfl, rfl, fun i hi => by rw [show i = 0 from Nat.lt_one_iff.1 hi]; rfl⟩, True.intro⟩
      · have hm' : ¬ many ≤ (l.length : Int) := by omega
        by_cases q1 : (w.fcts.getD k default).kind = 1
        case neg =>
          have hst : numStep many l (w.fcts.getD k default) = l := by exact numStep_no hm' (by rw [numOk, decide_eq_false q1, Bool.false_and])
          (refine gW ?_; intros)
          refine ⟨⟨k + 1, g, l⟩, ⟨by show k + 1 ≤ w.fcts.length; omega, by show l.length ≤ k + 1; omega, by rw [kc.h, hst]⟩, by show w.fcts.length - (k + 1) < w.fcts.length - k; omega, ?_⟩
          repeat' (first | exact True.intro | exact rfl | exact Nat.le_refl _ | refine And.intro ?_ ?_)
          all_goals first
            | (intro i hi; exact ⟨rfl, rfl⟩)
            | trace_state
        by_cases q2 : (w.fcts.getD k default).object = 0
        case neg =>
          have hst : numStep many l (w.fcts.getD k default) = l := by exact numStep_no hm' (by rw [numOk, decide_eq_false q2, Bool.false_and, Bool.and_false])
          (refine gW ?_; intros)
          refine ⟨⟨k + 1, g, l⟩, ⟨by show k + 1 ≤ w.fcts.length; omega, by show l.length ≤ k + 1; omega, by rw [kc.h, hst]⟩, by show w.fcts.length - (k + 1) < w.fcts.length - k; omega, ?_⟩
          repeat' (first | exact True.intro | exact rfl | exact Nat.le_refl _ | refine And.intro ?_ ?_)
          all_goals first
            | (intro i hi; exact ⟨rfl, rfl⟩)
            | trace_state
        have hI := rin_ok (w.fcts.getD k default).subject 0 4095
        cases q3 : bw (w.fcts.getD k default).subject 0 4095 <;> rw [q3] at hI
        · have hst : numStep many l (w.fcts.getD k default) = l := by exact numStep_no hm' (by rw [numOk, q3, Bool.and_false, Bool.and_false])
          (refine gW ?_; intros)
          refine hI.call ?_
          (refine gW ?_; intros)
          refine ⟨⟨k + 1, g, l⟩, ⟨by show k + 1 ≤ w.fcts.length; omega, by show l.length ≤ k + 1; omega, by rw [kc.h, hst]⟩, by show w.fcts.length - (k + 1) < w.fcts.length - k; omega, ?_⟩
          repeat' (first | exact True.intro | exact rfl | exact Nat.le_refl _ | refine And.intro ?_ ?_)
          all_goals first
            | (intro i hi; exact ⟨rfl, rfl⟩)
            | trace_state
        have ho : numOk (w.fcts.getD k default) = true := by rw [numOk, decide_eq_true q1, decide_eq_true q2, q3]; rfl
        have hC := contains14_ok l (show l.length ≤ 9223372036854775807 by omega) (w.fcts.getD k default).subject
        by_cases q4 : (w.fcts.getD k default).subject ∈ l
        · have hst : numStep many l (w.fcts.getD k default) = l := by rw [numStep, if_neg hm', if_neg]; exact fun h => h.2 q4
          rw [decide_eq_true q4] at hC
          clear q4
          (refine gW ?_; intros)
          refine hI.call ?_
          (refine gW ?_; intros)
          refine hC.loan rfl ⟨.rows rfl (Nat.le_of_eq (Nat.zero_add _)) (fun i hi => by rw [Nat.zero_add]; rfl), .d, True.intro⟩ ?_
          (refine gW ?_; intros)
          refine ⟨⟨k + 1, g, l⟩, ⟨by show k + 1 ≤ w.fcts.length; omega, by show l.length ≤ k + 1; omega, by rw [kc.h, hst]⟩, by show w.fcts.length - (k + 1) < w.fcts.length - k; omega, ?_⟩
          repeat' (first | exact True.intro | exact rfl | exact Nat.le_refl _ | refine And.intro ?_ ?_)
          all_goals first
            | (intro i hi; exact ⟨rfl, rfl⟩)
            | trace_state
        · have hst : numStep many l (w.fcts.getD k default) = l ++ [(w.fcts.getD k default).subject] := by rw [numStep, if_neg hm', if_pos ⟨ho, q4⟩]
          rw [decide_eq_false q4] at hC
          clear q4
          (refine gW ?_; intros)
          refine hI.call ?_
          (refine gW ?_; intros)
          refine hC.loan rfl ⟨.rows rfl (Nat.le_of_eq (Nat.zero_add _)) (fun i hi => by rw [Nat.zero_add]; rfl), .d, True.intro⟩ ?_
          (refine gW ?_; intros)
          refine ⟨⟨k + 1, g + 1, l ++ [(w.fcts.getD k default).subject]⟩, ⟨by show k + 1 ≤ w.fcts.length; omega, by show (l ++ [_]).length ≤ k + 1; rw [len_snoc]; omega, by rw [kc.h, hst]⟩, by show w.fcts.length - (k + 1) < w.fcts.length - k; omega, ?_⟩
          dsimp only
          rw [len_snoc]
          repeat' (first | exact True.intro | exact rfl | exact Nat.le_refl _ | refine And.intro ?_ ?_)
          all_goals first
            | (intro i hi; exact ⟨rowN_join l _ rfl i hi, rfl⟩)
            | trace_state
    · rw [drop_end (by omega), List.foldl_nil] at hc
      have kf : Kp (numsL w.fcts many = l) := ⟨hc⟩
      clear hc
      (refine gS ?_; intros)
      refine Sq.go ?_
      (refine gS ?_; intros)
      refine Sq.alt (Awp.frz [2] 9 (eInts l) (.rows rfl (Nat.le_of_eq (Nat.zero_add _)) (fun i hi => by rw [Nat.zero_add]; rfl)) (vc_ok hT _ _ _ _ (Ev.o ?_)))
      (refine gW ?_; intros)
      refine qC (rsorted14_ok l (by omega)) ?_
      (refine gW ?_; intros)
      refine qC (rread_ok ⟨12, 0, 0⟩ 0 ⟨by decide, by decide⟩) ?_
      (refine gW ?_; intros)
      rw [kf.h]
      exact ⟨⟨rfl, by rw [srtR_len, srtI_len], fun i hi => by rw [srt_eq]⟩, ⟨rfl, rfl, fun i hi => by rw [show i = 0 from Nat.lt_one_iff.1 hi]; rfl⟩, True.intro⟩
end Go.Proofs.YtmlhghddfobmmaaGreatDoor
