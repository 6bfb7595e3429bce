/-
  Chapter 14: the law BookValid.
-/
import Derived.Test.YtmlhghddfobmmaaGreatDoorLawBA
namespace Go.Proofs.YtmlhghddfobmmaaGreatDoor
set_option linter.unusedSimpArgs false
set_option linter.unusedVariables false
open Go Go.Ab
set_option maxRecDepth 100000
set_option maxHeartbeats 0
theorem crsOf_some {w : Wor} {n t kn : Int} {c : Crs} (h : crsOf w n t kn = some c) : c.number = n ∧ vCrs c = true ∧ c ∈ w.bok.crs := by
  have := lookO_mem h
  unfold okCrs at this
  rw [Bool.and_eq_true, decide_eq_true_iff] at this
  exact ⟨this.2.1, this.2.2, this.1⟩
theorem prgOf_some {w : Wor} {n t kn : Int} {c : Prg} (h : prgOf w n t kn = some c) : c.number = n ∧ vPrg c = true ∧ c ∈ w.bok.prg := by
  have := lookO_mem h
  unfold okPrg at this
  rw [Bool.and_eq_true, decide_eq_true_iff] at this
  exact ⟨this.2.1, this.2.2, this.1⟩
theorem sysOf_v (w : Wor) (t kn : Int) : vSys ((sysOf w t kn).getD default) = true := by
  cases h : sysOf w t kn with
  | none => rfl
  | some c => exact (lookO_mem h).2
theorem chk_c {c : Crs} (h : vCrs c = true) : chkB ⟨[c], [], []⟩ = 0 := by
  unfold chkB
  simp [h]
theorem chk_p {c : Prg} (h : vPrg c = true) : chkB ⟨[], [c], []⟩ = 0 := by
  unfold chkB
  simp [h]
theorem chk_s {c : Sys} (h : vSys c = true) : chkB ⟨[], [], [c]⟩ = 0 := by
  unfold chkB
  simp [h]
theorem wf_c {c : Crs} (h : wfCrs c) : wfBok ⟨[c], [], []⟩ := ⟨⟨Nat.le_trans (Nat.le_refl 1) (by decide), fun x hx => by rw [List.mem_singleton.1 hx]; exact h⟩, ⟨Nat.zero_le _, fun x hx => (List.not_mem_nil hx).elim⟩, Nat.zero_le _, fun x hx => (List.not_mem_nil hx).elim⟩
theorem wf_p {c : Prg} (h : wfPrg c) : wfBok ⟨[], [c], []⟩ := ⟨⟨Nat.zero_le _, fun x hx => (List.not_mem_nil hx).elim⟩, ⟨Nat.le_trans (Nat.le_refl 1) (by decide), fun x hx => by rw [List.mem_singleton.1 hx]; exact h⟩, Nat.zero_le _, fun x hx => (List.not_mem_nil hx).elim⟩
theorem wf_s {c : Sys} (h : wfSys c) : wfBok ⟨[], [], [c]⟩ := ⟨⟨Nat.zero_le _, fun x hx => (List.not_mem_nil hx).elim⟩, ⟨Nat.zero_le _, fun x hx => (List.not_mem_nil hx).elim⟩, Nat.le_trans (Nat.le_refl 1) (by decide), fun x hx => by rw [List.mem_singleton.1 hx]; exact h⟩
theorem pw_at {l : List Int} (h : l.Pairwise (· < ·)) {i j : Nat} (hij : i < j) (hj : j < l.length) : l.getD i default < l.getD j default := by
  have := List.pairwise_iff_getElem.1 h i j (by omega) hj hij
  have h1 : l.getD i default = l[i] := by simp [show i < l.length by omega]
  have h2 : l.getD j default = l[j] := by simp [hj]
  rw [h1, h2]
  exact this
theorem bookValid_ok (w : Wor) (hw : okWor w) (n t kn : Int) : Pure Tryz.prog 8 [.agg (eWor w), .int .i64 n, .int .i64 t, .int .i64 kn] [.bool true] := by
  have hS := sane14_ok
  have hF := few14_ok w hw.1.wf hw.2.1 hw.1.nm
  refine pure_rule hT (T := tab) (N := 153) (rs := [.tmp 8]) Tryz.func8 rfl rfl rfl (by kernel_rfl) rfl ?_
  cases hf : fewW w <;> rw [hf] at hF
  · (refine gW ?_; intros)
    refine hS.call ?_
    (refine gW ?_; intros)
    refine hF.call ?_
    (refine gW ?_; intros)
    exact ⟨rfl, True.intro⟩
  have hW := hw.wfw hf
  have hl := fewW_len hf
  have a1 := bcourse_ok w hW n t kn
  have b1 := bprogramme_ok w hW n t kn
  have c1 := bsystem_ok w hW t kn
  have d1 := numbers_ok w hW (by omega) kn
  have e1 := at_ok w.fcts hW.fct ⟨12, 0, 0⟩ 0 kn
  have hs := bcheck_ok ⟨[], [], [(sysOf w t kn).getD default]⟩ (wf_s (sysOf_wf hW t kn))
  rw [chk_s (sysOf_v w t kn)] at hs
  have hi := (nums_I w kn).rg
  have hp := nums_lt w kn
  have hm := (nums_I w kn).ln
  have hnl := nums_len w kn
  generalize (sysOf w t kn).getD default = s at c1 hs
  generalize (atV w.fcts ⟨12, 0, 0⟩ 0 kn).1 = v at e1 hm
  generalize (atV w.fcts ⟨12, 0, 0⟩ 0 kn).2 = v2 at e1
  generalize nums w kn = l at d1 hi hp hm hnl
  have hz1 := sameCourse_ok default default wfDC wfDC
  have hz2 := samePrg_ok default default ⟨Nat.zero_le _, fun q hq => (List.not_mem_nil hq).elim⟩ ⟨Nat.zero_le _, fun q hq => (List.not_mem_nil hq).elim⟩
  rw [decide_eq_true rfl] at hz1 hz2
  have ka : (∃ x, crsOf w n t kn = some x ∧ x.number = n ∧ Pure Tryz.prog 19 [.agg (eBok ⟨[x], [], []⟩)] [.int .i64 0]) ∨ crsOf w n t kn = none := by
    cases h : crsOf w n t kn with
    | none => exact .inr rfl
    | some x =>
      have := crsOf_some h
      have hc := bcheck_ok ⟨[x], [], []⟩ (wf_c (hW.bok.1.2 x this.2.2))
      rw [chk_c this.2.1] at hc
      exact .inl ⟨x, rfl, this.1, hc⟩
  have kb : (∃ x, prgOf w n t kn = some x ∧ x.number = n ∧ Pure Tryz.prog 19 [.agg (eBok ⟨[], [x], []⟩)] [.int .i64 0]) ∨ prgOf w n t kn = none := by
    cases h : prgOf w n t kn with
    | none => exact .inr rfl
    | some x =>
      have := prgOf_some h
      have hc := bcheck_ok ⟨[], [x], []⟩ (wf_p (hW.bok.2.1.2 x this.2.2))
      rw [chk_p this.2.1] at hc
      exact .inl ⟨x, rfl, this.1, hc⟩
  clear hf hw
  rcases ka with ⟨x, hx, hxn, hxc⟩ | hx <;> rw [hx] at a1 <;> rcases kb with ⟨y, hy, hyn, hyc⟩ | hy <;> rw [hy] at b1
  · have a1' : Pure Tryz.prog 30 [.agg (eWor w), .int .i64 n, .int .i64 t, .int .i64 kn] [.agg (eCrs x), eReds (readsT ⟨1, n, 0⟩ t), .bool true] := a1
    have b1' : Pure Tryz.prog 33 [.agg (eWor w), .int .i64 n, .int .i64 t, .int .i64 kn] [.agg (ePrg y), eReds (readsT ⟨3, n, 0⟩ t), .bool true] := b1
    clear a1 b1 hx hy hz1 hz2
    (refine gW ?_; intros)
    refine hS.call ?_
    (refine gW ?_; intros)
    refine hF.call ?_
    (refine gW ?_; intros)
    refine a1'.call ?_
    (refine gW ?_; intros)
    refine hxc.loan rfl ⟨.agg' ⟨.rows rfl (Nat.le_refl _) (fun i hi => by rw [show i = 0 from Nat.lt_one_iff.1 hi]; rfl), .eq rfl, .eq rfl, True.intro⟩, True.intro⟩ ?_
    (refine gW ?_; intros)
    refine b1'.call ?_
    (refine gW ?_; intros)
    refine hyc.loan rfl ⟨.agg' ⟨.eq rfl, .rows rfl (Nat.le_refl _) (fun i hi => by rw [show i = 0 from Nat.lt_one_iff.1 hi]; rfl), .eq rfl, True.intro⟩, True.intro⟩ ?_
    (refine gW ?_; intros)
    refine c1.call ?_
    (refine gW ?_; intros)
    refine d1.call ?_
    (refine gW ?_; intros)
    refine e1.call ?_
    (refine gW ?_; intros)
    refine loop_rule hT (S := Nat) (fun k => ([(14, .ptr (.loc 5) 0 0 0), (16, .d (eInts l)), (18, .d (.int .i64 v)), (114, .d (eInts l)), (115, .d (.int .i64 l.length)), (116, .d (.int .i64 k))], ⟨[none, none, none, none, none, some (.box 83 (up (eSys s)))], []⟩)) (fun k => k ≤ l.length) (fun k => l.length - k) 0 ?_ ?_ ?_
    · repeat' (first | exact True.intro | exact rfl | exact Nat.le_refl _ | refine And.intro ?_ ?_)
    · exact Nat.zero_le _
    · intro k hk
      dsimp only at hk ⊢
      by_cases hk2 : k < l.length
      · have hin := hi _ (getD_mem hk2)
        by_cases hk0 : k = 0
        · subst hk0
          (refine gW ?_; intros)
          refine ⟨0 + 1, by show 0 + 1 ≤ l.length; omega, by show l.length - (0 + 1) < l.length - 0; omega, ?_⟩
          repeat' (first | exact True.intro | exact rfl | exact Nat.le_refl _ | refine And.intro ?_ ?_)
        · have hq : l.getD ((k : Int) - 1).toNat default < l.getD k default := pw_at hp (by omega) hk2
          (refine gW ?_; intros)
          refine ⟨k + 1, by show k + 1 ≤ l.length; omega, by show l.length - (k + 1) < l.length - k; omega, ?_⟩
          repeat' (first | exact True.intro | exact rfl | exact Nat.le_refl _ | refine And.intro ?_ ?_)
      · (refine gW ?_; intros)
        refine hs.loan rfl ⟨.agg' ⟨.eq rfl, .eq rfl, .rows rfl (Nat.le_refl _) (fun i hi => by rw [show i = 0 from Nat.lt_one_iff.1 hi]; rfl), True.intro⟩, True.intro⟩ ?_
        (refine gW ?_; intros)
        refine ⟨congrArg D.bool ?_, True.intro⟩
        simp
        omega
  · have a1' : Pure Tryz.prog 30 [.agg (eWor w), .int .i64 n, .int .i64 t, .int .i64 kn] [.agg (eCrs x), eReds (readsT ⟨1, n, 0⟩ t), .bool true] := a1
    have b1' : Pure Tryz.prog 33 [.agg (eWor w), .int .i64 n, .int .i64 t, .int .i64 kn] [.agg (ePrg default), eReds (readsT ⟨3, n, 0⟩ t), .bool false] := b1
    clear a1 b1 hx hy hz1
    (refine gW ?_; intros)
    refine hS.call ?_
    (refine gW ?_; intros)
    refine hF.call ?_
    (refine gW ?_; intros)
    refine a1'.call ?_
    (refine gW ?_; intros)
    refine hxc.loan rfl ⟨.agg' ⟨.rows rfl (Nat.le_refl _) (fun i hi => by rw [show i = 0 from Nat.lt_one_iff.1 hi]; rfl), .eq rfl, .eq rfl, True.intro⟩, True.intro⟩ ?_
    (refine gW ?_; intros)
    refine b1'.call ?_
    (refine gW ?_; intros)
    refine CallVC.frz [] ?_ (hz2.call ?_)
    · exact ⟨.d, .eq (.inr ⟨rfl, rfl, rfl, rfl, rfl, rfl, rfl, True.intro⟩), True.intro⟩
    (refine gW ?_; intros)
    refine c1.call ?_
    (refine gW ?_; intros)
    refine d1.call ?_
    (refine gW ?_; intros)
    refine e1.call ?_
    (refine gW ?_; intros)
    refine loop_rule hT (S := Nat) (fun k => ([(14, .ptr (.loc 4) 0 0 0), (16, .d (eInts l)), (18, .d (.int .i64 v)), (114, .d (eInts l)), (115, .d (.int .i64 l.length)), (116, .d (.int .i64 k))], ⟨[none, none, none, none, some (.box 83 (up (eSys s)))], []⟩)) (fun k => k ≤ l.length) (fun k => l.length - k) 0 ?_ ?_ ?_
    · repeat' (first | exact True.intro | exact rfl | exact Nat.le_refl _ | refine And.intro ?_ ?_)
    · exact Nat.zero_le _
    · intro k hk
      dsimp only at hk ⊢
      by_cases hk2 : k < l.length
      · have hin := hi _ (getD_mem hk2)
        by_cases hk0 : k = 0
        · subst hk0
          (refine gW ?_; intros)
          refine ⟨0 + 1, by show 0 + 1 ≤ l.length; omega, by show l.length - (0 + 1) < l.length - 0; omega, ?_⟩
          repeat' (first | exact True.intro | exact rfl | exact Nat.le_refl _ | refine And.intro ?_ ?_)
        · have hq : l.getD ((k : Int) - 1).toNat default < l.getD k default := pw_at hp (by omega) hk2
          (refine gW ?_; intros)
          refine ⟨k + 1, by show k + 1 ≤ l.length; omega, by show l.length - (k + 1) < l.length - k; omega, ?_⟩
          repeat' (first | exact True.intro | exact rfl | exact Nat.le_refl _ | refine And.intro ?_ ?_)
      · (refine gW ?_; intros)
        refine hs.loan rfl ⟨.agg' ⟨.eq rfl, .eq rfl, .rows rfl (Nat.le_refl _) (fun i hi => by rw [show i = 0 from Nat.lt_one_iff.1 hi]; rfl), True.intro⟩, True.intro⟩ ?_
        (refine gW ?_; intros)
        refine ⟨congrArg D.bool ?_, True.intro⟩
        simp
        omega
  · have a1' : Pure Tryz.prog 30 [.agg (eWor w), .int .i64 n, .int .i64 t, .int .i64 kn] [.agg (eCrs default), eReds (readsT ⟨1, n, 0⟩ t), .bool false] := a1
    have b1' : Pure Tryz.prog 33 [.agg (eWor w), .int .i64 n, .int .i64 t, .int .i64 kn] [.agg (ePrg y), eReds (readsT ⟨3, n, 0⟩ t), .bool true] := b1
    clear a1 b1 hx hy hz2
    (refine gW ?_; intros)
    refine hS.call ?_
    (refine gW ?_; intros)
    refine hF.call ?_
    (refine gW ?_; intros)
    refine a1'.call ?_
    (refine gW ?_; intros)
    refine CallVC.frz [] ?_ (hz1.call ?_)
    · exact ⟨.d, .eq (.inr ⟨rfl, rfl, rfl, rfl, rfl, rfl, rfl, rfl, rfl, rfl, rfl, rfl, rfl, rfl, rfl, rfl, True.intro⟩), True.intro⟩
    (refine gW ?_; intros)
    refine b1'.call ?_
    (refine gW ?_; intros)
    refine hyc.loan rfl ⟨.agg' ⟨.eq rfl, .rows rfl (Nat.le_refl _) (fun i hi => by rw [show i = 0 from Nat.lt_one_iff.1 hi]; rfl), .eq rfl, True.intro⟩, True.intro⟩ ?_
    (refine gW ?_; intros)
    refine c1.call ?_
    (refine gW ?_; intros)
    refine d1.call ?_
    (refine gW ?_; intros)
    refine e1.call ?_
    (refine gW ?_; intros)
    refine loop_rule hT (S := Nat) (fun k => ([(14, .ptr (.loc 4) 0 0 0), (16, .d (eInts l)), (18, .d (.int .i64 v)), (114, .d (eInts l)), (115, .d (.int .i64 l.length)), (116, .d (.int .i64 k))], ⟨[none, none, none, none, some (.box 83 (up (eSys s)))], []⟩)) (fun k => k ≤ l.length) (fun k => l.length - k) 0 ?_ ?_ ?_
    · repeat' (first | exact True.intro | exact rfl | exact Nat.le_refl _ | refine And.intro ?_ ?_)
    · exact Nat.zero_le _
    · intro k hk
      dsimp only at hk ⊢
      by_cases hk2 : k < l.length
      · have hin := hi _ (getD_mem hk2)
        by_cases hk0 : k = 0
        · subst hk0
          (refine gW ?_; intros)
          refine ⟨0 + 1, by show 0 + 1 ≤ l.length; omega, by show l.length - (0 + 1) < l.length - 0; omega, ?_⟩
          repeat' (first | exact True.intro | exact rfl | exact Nat.le_refl _ | refine And.intro ?_ ?_)
        · have hq : l.getD ((k : Int) - 1).toNat default < l.getD k default := pw_at hp (by omega) hk2
          (refine gW ?_; intros)
          refine ⟨k + 1, by show k + 1 ≤ l.length; omega, by show l.length - (k + 1) < l.length - k; omega, ?_⟩
          repeat' (first | exact True.intro | exact rfl | exact Nat.le_refl _ | refine And.intro ?_ ?_)
      · (refine gW ?_; intros)
        refine hs.loan rfl ⟨.agg' ⟨.eq rfl, .eq rfl, .rows rfl (Nat.le_refl _) (fun i hi => by rw [show i = 0 from Nat.lt_one_iff.1 hi]; rfl), True.intro⟩, True.intro⟩ ?_
        (refine gW ?_; intros)
        refine ⟨congrArg D.bool ?_, True.intro⟩
        simp
        omega
  · have a1' : Pure Tryz.prog 30 [.agg (eWor w), .int .i64 n, .int .i64 t, .int .i64 kn] [.agg (eCrs default), eReds (readsT ⟨1, n, 0⟩ t), .bool false] := a1
    have b1' : Pure Tryz.prog 33 [.agg (eWor w), .int .i64 n, .int .i64 t, .int .i64 kn] [.agg (ePrg default), eReds (readsT ⟨3, n, 0⟩ t), .bool false] := b1
    clear a1 b1 hx hy
    (refine gW ?_; intros)
    refine hS.call ?_
    (refine gW ?_; intros)
    refine hF.call ?_
    (refine gW ?_; intros)
    refine a1'.call ?_
    (refine gW ?_; intros)
    refine CallVC.frz [] ?_ (hz1.call ?_)
    · exact ⟨.d, .eq (.inr ⟨rfl, rfl, rfl, rfl, rfl, rfl, rfl, rfl, rfl, rfl, rfl, rfl, rfl, rfl, rfl, rfl, True.intro⟩), True.intro⟩
    (refine gW ?_; intros)
    refine b1'.call ?_
    (refine gW ?_; intros)
    refine CallVC.frz [] ?_ (hz2.call ?_)
    · exact ⟨.d, .eq (.inr ⟨rfl, rfl, rfl, rfl, rfl, rfl, rfl, True.intro⟩), True.intro⟩
    (refine gW ?_; intros)
    refine c1.call ?_
    (refine gW ?_; intros)
    refine d1.call ?_
    (refine gW ?_; intros)
    refine e1.call ?_
    (refine gW ?_; intros)
    refine loop_rule hT (S := Nat) (fun k => ([(14, .ptr (.loc 3) 0 0 0), (16, .d (eInts l)), (18, .d (.int .i64 v)), (114, .d (eInts l)), (115, .d (.int .i64 l.length)), (116, .d (.int .i64 k))], ⟨[none, none, none, some (.box 83 (up (eSys s)))], []⟩)) (fun k => k ≤ l.length) (fun k => l.length - k) 0 ?_ ?_ ?_
    · repeat' (first | exact True.intro | exact rfl | exact Nat.le_refl _ | refine And.intro ?_ ?_)
    · exact Nat.zero_le _
    · intro k hk
      dsimp only at hk ⊢
      by_cases hk2 : k < l.length
      · have hin := hi _ (getD_mem hk2)
        by_cases hk0 : k = 0
        · subst hk0
          (refine gW ?_; intros)
          refine ⟨0 + 1, by show 0 + 1 ≤ l.length; omega, by show l.length - (0 + 1) < l.length - 0; omega, ?_⟩
          repeat' (first | exact True.intro | exact rfl | exact Nat.le_refl _ | refine And.intro ?_ ?_)
        · have hq : l.getD ((k : Int) - 1).toNat default < l.getD k default := pw_at hp (by omega) hk2
          (refine gW ?_; intros)
          refine ⟨k + 1, by show k + 1 ≤ l.length; omega, by show l.length - (k + 1) < l.length - k; omega, ?_⟩
          repeat' (first | exact True.intro | exact rfl | exact Nat.le_refl _ | refine And.intro ?_ ?_)
      · (refine gW ?_; intros)
        refine hs.loan rfl ⟨.agg' ⟨.eq rfl, .eq rfl, .rows rfl (Nat.le_refl _) (fun i hi => by rw [show i = 0 from Nat.lt_one_iff.1 hi]; rfl), True.intro⟩, True.intro⟩ ?_
        (refine gW ?_; intros)
        refine ⟨congrArg D.bool ?_, True.intro⟩
        simp
        omega
end Go.Proofs.YtmlhghddfobmmaaGreatDoor
