/-
  Chapter 14: the laws BookEqualSpec, BookLookSpec.
-/
import Derived.Test.YtmlhghddfobmmaaGreatDoorSanB
namespace Go.Proofs.YtmlhghddfobmmaaGreatDoor
set_option linter.unusedSimpArgs false
set_option linter.unusedVariables false
open Go Go.Ab
set_option maxRecDepth 100000
set_option maxHeartbeats 0
theorem equalR_fit (w : Wor) (hl : w.fcts.length ≤ 40) (n t kn : Int) : fitL (equalR w n t kn) := by
  unfold fitL equalR
  split
  · unfold equalZ
    have h := iterE_rd (w := w) (t := t) (kn := kn) (ns := nums w kn) (z := startE n) 200000
    have h2 := nums_len w kn
    have h3 : 200000 * (nums w kn).length ≤ 200000 * 40 := Nat.mul_le_mul_left _ (by omega)
    have h4 : (startE n).2.length = 1 := rfl
    omega
  · exact Nat.zero_le _
theorem equalL_fit (w : Wor) (hl : w.fcts.length ≤ 40) (n t kn : Int) : fitL (equalL w n t kn) := by
  unfold fitL equalL
  split
  · rw [srtI_len]
    unfold equalZ
    have h1 := (EqI.iter (w := w) (t := t) (kn := kn) (EqI.start (nums w kn) n) 200000).len
    have h2 := nums_len w kn
    omega
  · show (1 : Nat) ≤ _
    decide
theorem equalSpec_ok (w : Wor) (hw : okWor w) (n t kn : Int) : Pure Tryz.prog 4 [.agg (eWor w), .int .i64 n, .int .i64 t, .int .i64 kn] [.bool true] := by
  have hS := sane14_ok
  have hF := few14_ok w hw.1.wf hw.2.1 hw.1.nm
  refine pure_rule hT (T := tab) (N := 42) (rs := [.tmp 8]) Tryz.func4 rfl rfl rfl (by kernel_rfl) rfl ?_
  cases hf : fewW w <;> rw [hf] at hF
  · (refine gW ?_; intros)
    refine hS.call ?_
    (refine gW ?_; intros)
    refine hF.call ?_
    (refine gW ?_; intros)
    exact ⟨rfl, True.intro⟩
  have hW := hw.wfw hf
  have hl := fewW_len hf
  have h1 := equal_ok w hW (by omega) n t kn
  have h2 := requal_ok w hW (by omega) n t kn
  have f1 := equalL_fit w hl n t kn
  have f2 := equalR_fit w hl n t kn
  have h3 := sameInts_ok _ _ f1 f1
  have h4 := sameReds_ok _ _ f2 f2
  rw [decide_eq_true rfl] at h3 h4
  generalize equalL w n t kn = l at h1 h2 h3
  generalize equalR w n t kn = r at h1 h2 h4
  (refine gW ?_; intros)
  refine hS.call ?_
  (refine gW ?_; intros)
  refine hF.call ?_
  (refine gW ?_; intros)
  refine h1.call ?_
  (refine gW ?_; intros)
  refine h2.call ?_
  (refine gW ?_; intros)
  refine h3.call ?_
  (refine gW ?_; intros)
  refine h4.call ?_
  (refine gW ?_; intros)
  exact ⟨rfl, True.intro⟩
theorem readsT_fit (k : Ke) (t : Int) : fitL (readsT k t) := by
  unfold fitL readsT
  split
  · show (1 : Nat) ≤ _
    decide
  · exact Nat.zero_le _
theorem lookSpec_ok (w : Wor) (hw : okWor w) (n t kn : Int) : Pure Tryz.prog 7 [.agg (eWor w), .int .i64 n, .int .i64 t, .int .i64 kn] [.bool true] := by
  have hS := sane14_ok
  have hF := few14_ok w hw.1.wf hw.2.1 hw.1.nm
  refine pure_rule hT (T := tab) (N := 136) (rs := [.tmp 8]) Tryz.func7 rfl rfl rfl (by kernel_rfl) rfl ?_
  cases hf : fewW w <;> rw [hf] at hF
  · (refine gW ?_; intros)
    refine hS.call ?_
    (refine gW ?_; intros)
    refine hF.call ?_
    (refine gW ?_; intros)
    exact ⟨rfl, True.intro⟩
  have hW := hw.wfw hf
  have hl := fewW_len hf
  have a1 := bcourse_ok w hW n t kn
  have a2 := rcourse14_ok w hW n t kn
  have b1 := bprogramme_ok w hW n t kn
  have b2 := rprogramme14_ok w hW n t kn
  have c1 := bsystem_ok w hW t kn
  have c2 := rsystem14_ok w hW t kn
  have d1 := numbers_ok w hW (by omega) kn
  have d2 := rnumbers_ok w hW (by omega) kn
  have ra := sameReds_ok _ _ (readsT_fit ⟨1, n, 0⟩ t) (readsT_fit ⟨1, n, 0⟩ t)
  have rb := sameReds_ok _ _ (readsT_fit ⟨3, n, 0⟩ t) (readsT_fit ⟨3, n, 0⟩ t)
  have rc := sameReds_ok _ _ (readsT_fit ⟨4, 0, 0⟩ t) (readsT_fit ⟨4, 0, 0⟩ t)
  have sa := sameCourse_ok ((crsOf w n t kn).getD default) ((crsOf w n t kn).getD default) (crsOf_wf hW n t kn) (crsOf_wf hW n t kn)
  have sb := samePrg_ok ((prgOf w n t kn).getD default) ((prgOf w n t kn).getD default) (prgOf_wf hw n t kn) (prgOf_wf hw n t kn)
  have sc := sameSys_ok ((sysOf w t kn).getD default) ((sysOf w t kn).getD default) (sysOf_wf hW t kn) (sysOf_wf hW t kn)
  have fn : fitL (nums w kn) := by have := nums_len w kn; unfold fitL; omega
  have sd := sameInts_ok _ _ fn fn
  have rd0 := sameReds_ok [rdK ⟨12, 0, 0⟩ 0] [rdK ⟨12, 0, 0⟩ 0] (by decide) (by decide)
  have rd : Pure Tryz.prog 26 [cReds [rdK ⟨12, 0, 0⟩ 0], cReds [rdK ⟨12, 0, 0⟩ 0]] [.bool (decide ([rdK ⟨12, 0, 0⟩ 0] = [rdK ⟨12, 0, 0⟩ 0]))] := deqP rd0 ⟨⟨rfl, rfl, fun i _ => rfl⟩, ⟨rfl, rfl, fun i _ => rfl⟩, True.intro⟩
  rw [decide_eq_true rfl] at ra rb rc rd sa sb sc sd
  clear rd0
  generalize (crsOf w n t kn).getD default = x1 at a1 a2 sa
  generalize (crsOf w n t kn).isSome = y1 at a1 a2
  generalize (prgOf w n t kn).getD default = x2 at b1 b2 sb
  generalize (prgOf w n t kn).isSome = y2 at b1 b2
  generalize (sysOf w t kn).getD default = x3 at c1 c2 sc
  generalize readsT ⟨1, n, 0⟩ t = r1 at a1 a2 ra
  generalize readsT ⟨3, n, 0⟩ t = r2 at b1 b2 rb
  generalize readsT ⟨4, 0, 0⟩ t = r3 at c1 c2 rc
  generalize nums w kn = l at d1 d2 sd
  cases y1 <;> cases y2
  all_goals
    (refine gW ?_; intros)
    refine hS.call ?_
    (refine gW ?_; intros)
    refine hF.call ?_
    (refine gW ?_; intros)
    refine a1.call ?_
    (refine gW ?_; intros)
    refine a2.call ?_
    (refine gW ?_; intros)
    refine sa.call ?_
    (refine gW ?_; intros)
    refine ra.call ?_
    (refine gW ?_; intros)
    refine b1.call ?_
    (refine gW ?_; intros)
    refine b2.call ?_
    (refine gW ?_; intros)
    refine sb.call ?_
    (refine gW ?_; intros)
    refine rb.call ?_
    (refine gW ?_; intros)
    refine c1.call ?_
    (refine gW ?_; intros)
    refine c2.call ?_
    (refine gW ?_; intros)
    refine sc.call ?_
    (refine gW ?_; intros)
    refine rc.call ?_
    (refine gW ?_; intros)
    refine d1.call ?_
    (refine gW ?_; intros)
    refine d2.call ?_
    (refine gW ?_; intros)
    refine sd.call ?_
    (refine gW ?_; intros)
    refine rd.call ?_
    (refine gW ?_; intros)
    exact ⟨rfl, True.intro⟩
end Go.Proofs.YtmlhghddfobmmaaGreatDoor
