/-
  Chapter 14: the law BookAlike.
-/
import Derived.Test.YtmlhghddfobmmaaGreatDoorLawBA
import Derived.Test.YtmlhghddfobmmaaGreatDoorPtsC
namespace Go.Proofs.YtmlhghddfobmmaaGreatDoor
set_option linter.unusedSimpArgs false
set_option linter.unusedVariables false
open Go Go.Ab
set_option maxRecDepth 100000
set_option maxHeartbeats 0
theorem alike43_ok (w : Wor) (hf : fitL w.fcts) (rs : List Red) (hr : fitL rs) (b a : Int) : Pure Tryz.prog 43 [eReds rs, .pt (eWor w) 0, .pt [.int .i64 b] 0, .pt [.int .i64 a] 0] [.bool (alikeV w.fcts rs b a)] := by
  have hA := alike_ok w.fcts hf rs hr b a
  refine pure_rule hT (T := tab) (N := 12) (rs := [.tmp 5]) Tryz.func43 rfl rfl rfl (by kernel_rfl) rfl ?_
  (refine gW ?_; intros)
  refine hA.call ?_
  (refine gW ?_; intros)
  exact ⟨rfl, True.intro⟩
structure Wrap (p : Prop) : Prop where
  h : p
theorem cutT {T G : Prop} (h : Wrap T → G) (t : T) : G := h ⟨t⟩
theorem bookAlike_ok (w : Wor) (hw : okWor w) (n t b a : Int) : Pure Tryz.prog 10 [.agg (eWor w), .int .i64 n, .int .i64 t, .int .i64 b, .int .i64 a] [.bool true] := by
  have hS := sane14_ok
  have hF := few14_ok w hw.1.wf hw.2.1 hw.1.nm
  refine pure_rule hT (T := tab) (N := 165) (rs := [.tmp 10]) Tryz.func10 rfl rfl rfl (by kernel_rfl) rfl ?_
  cases hf : fewW w <;> rw [hf] at hF
  · (refine gW ?_; intros)
    refine hS.call ?_
    (refine gW ?_; intros)
    refine hF.call ?_
    (refine gW ?_; intros)
    exact ⟨rfl, True.intro⟩
  have hW := hw.wfw hf
  have hl := fewW_len hf
  have a1 := bcourse_ok w hW n t b
  have a2 := bcourse_ok w hW n t a
  have b1 := bprogramme_ok w hW n t b
  have b2 := bprogramme_ok w hW n t a
  have c1 := bsystem_ok w hW t b
  have c2 := bsystem_ok w hW t a
  have e1 := equal_ok w hW (by omega) n t b
  have e2 := equal_ok w hW (by omega) n t a
  have r1 := sameReds_ok _ _ (readsT_fit ⟨1, n, 0⟩ t) (readsT_fit ⟨1, n, 0⟩ t)
  have r2 := sameReds_ok _ _ (readsT_fit ⟨3, n, 0⟩ t) (readsT_fit ⟨3, n, 0⟩ t)
  have r3 := sameReds_ok _ _ (readsT_fit ⟨4, 0, 0⟩ t) (readsT_fit ⟨4, 0, 0⟩ t)
  have r4 := sameReds_ok _ _ (equalR_fit w hl n t b) (equalR_fit w hl n t b)
  have s1 := sameCourse_ok _ _ (crsOf_wf hW n t b) (crsOf_wf hW n t b)
  have s2 := samePrg_ok _ _ (prgOf_wf hw n t b) (prgOf_wf hw n t b)
  have s3 := sameSys_ok _ _ (sysOf_wf hW t b) (sysOf_wf hW t b)
  have s4 := sameInts_ok _ _ (equalL_fit w hl n t b) (equalL_fit w hl n t b)
  rw [decide_eq_true rfl] at r1 r2 r3 r4 s1 s2 s3 s4
  have l1 := alike43_ok w hW.fct _ (readsT_fit ⟨1, n, 0⟩ t) b a
  have l2 := alike43_ok w hW.fct _ (readsT_fit ⟨3, n, 0⟩ t) b a
  have l3 := alike43_ok w hW.fct _ (readsT_fit ⟨4, 0, 0⟩ t) b a
  have l4 := alike43_ok w hW.fct _ (equalR_fit w hl n t b) b a
  have k1 : alikeV w.fcts (readsT ⟨1, n, 0⟩ t) b a = false ∨ (alikeV w.fcts (readsT ⟨1, n, 0⟩ t) b a = true ∧ (crsOf w n t a).getD default = (crsOf w n t b).getD default ∧ (crsOf w n t a).isSome = (crsOf w n t b).isSome) := by
    cases h : alikeV w.fcts (readsT ⟨1, n, 0⟩ t) b a
    · exact .inl rfl
    · have : crsOf w n t b = crsOf w n t a := lookO_alike _ _ _ _ _ _ _ h
      rw [this]
      exact .inr ⟨rfl, rfl, rfl⟩
  have k2 : alikeV w.fcts (readsT ⟨3, n, 0⟩ t) b a = false ∨ (alikeV w.fcts (readsT ⟨3, n, 0⟩ t) b a = true ∧ (prgOf w n t a).getD default = (prgOf w n t b).getD default ∧ (prgOf w n t a).isSome = (prgOf w n t b).isSome) := by
    cases h : alikeV w.fcts (readsT ⟨3, n, 0⟩ t) b a
    · exact .inl rfl
    · have : prgOf w n t b = prgOf w n t a := lookO_alike _ _ _ _ _ _ _ h
      rw [this]
      exact .inr ⟨rfl, rfl, rfl⟩
  have k3 : alikeV w.fcts (readsT ⟨4, 0, 0⟩ t) b a = false ∨ (alikeV w.fcts (readsT ⟨4, 0, 0⟩ t) b a = true ∧ (sysOf w t a).getD default = (sysOf w t b).getD default) := by
    cases h : alikeV w.fcts (readsT ⟨4, 0, 0⟩ t) b a
    · exact .inl rfl
    · have : sysOf w t b = sysOf w t a := lookO_alike _ _ _ _ _ _ _ h
      rw [this]
      exact .inr ⟨rfl, rfl⟩
  have k4 : alikeV w.fcts (equalR w n t b) b a = false ∨ (alikeV w.fcts (equalR w n t b) b a = true ∧ equalL w n t a = equalL w n t b ∧ equalR w n t a = equalR w n t b) := by
    cases h : alikeV w.fcts (equalR w n t b) b a
    · exact .inl rfl
    · have := equal_alike w n t b a h
      exact .inr ⟨rfl, this.1.symm, this.2.symm⟩
  generalize alikeV w.fcts (readsT ⟨1, n, 0⟩ t) b a = z1 at l1 k1
  generalize alikeV w.fcts (readsT ⟨3, n, 0⟩ t) b a = z2 at l2 k2
  generalize alikeV w.fcts (readsT ⟨4, 0, 0⟩ t) b a = z3 at l3 k3
  generalize alikeV w.fcts (equalR w n t b) b a = z4 at l4 k4
  generalize (crsOf w n t b).getD default = x1 at a1 s1 k1
  generalize (crsOf w n t a).getD default = x1' at a2 k1
  generalize (crsOf w n t b).isSome = y1 at a1 k1
  generalize (crsOf w n t a).isSome = y1' at a2 k1
  generalize (prgOf w n t b).getD default = x2 at b1 s2 k2
  generalize (prgOf w n t a).getD default = x2' at b2 k2
  generalize (prgOf w n t b).isSome = y2 at b1 k2
  generalize (prgOf w n t a).isSome = y2' at b2 k2
  generalize (sysOf w t b).getD default = x3 at c1 s3 k3
  generalize (sysOf w t a).getD default = x3' at c2 k3
  generalize equalR w n t b = r5 at e1 r4 l4 k4
  generalize equalR w n t a = r5' at e2 k4
  generalize equalL w n t b = x5 at e1 s4 k4
  generalize equalL w n t a = x5' at e2 k4
  generalize readsT ⟨1, n, 0⟩ t = q1 at a1 a2 r1 l1
  generalize readsT ⟨3, n, 0⟩ t = q2 at b1 b2 r2 l2
  generalize readsT ⟨4, 0, 0⟩ t = q3 at c1 c2 r3 l3
  clear hW hw hf
  (refine gS ?_; intros)
  refine Sq.go ?_; (refine gS ?_; intros)
  refine hS.call ?_
  (refine gS ?_; intros)
  refine Sq.alt (Awp.frz [0] 5 (.pt (eWor w) 0) (.ptr' rfl (BecL.up _)) (Awp.frz [1] 8 (.pt [.int .i64 b] 0) (.ptr' rfl ⟨.d, True.intro⟩) (Awp.frz [2] 9 (.pt [.int .i64 a] 0) (.ptr' rfl ⟨.d, True.intro⟩) (vc_ok hT _ _ _ _ (Ev.o ?_)))))
  (refine gQ ?_; intros)
  refine Sq.go ?_; (refine gQ ?_; intros)
  refine hF.call ?_
  (refine gQ ?_; intros)
  refine Sq.go ?_; (refine gQ ?_; intros)
  refine Sq.go ?_; (refine gQ ?_; intros)
  refine Sq.go ?_; (refine gQ ?_; intros)
  apply cutT
  case h =>
    intro ht
    refine a1.call ?_
    (refine gQ ?_; intros)
    refine Sq.go ?_; (refine gQ ?_; intros)
    refine a2.call ?_
    (refine gQ ?_; intros)
    refine Sq.go ?_; (refine gQ ?_; intros)
    rcases k1 with rfl | ⟨rfl, rfl, rfl⟩
    · skip
      refine ⟨⟨43, [], [.d (.pt (eWor w) 0), .d (.pt [.int .i64 b] 0), .d (.pt [.int .i64 a] 0)], .inr ⟨[], [.pt (eWor w) 0, .pt [.int .i64 b] 0, .pt [.int .i64 a] 0], rfl, rfl, rfl⟩, l1.call ?_⟩⟩
      (refine gQ ?_; intros)
      refine Sq.go ?_; (refine gQ ?_; intros)
      exact Sq.alt (Awp.le (env' := [(1, .d (.int .i64 n)), (2, .d (.int .i64 t)), (5, .d (.pt (eWor w) 0)), (8, .d (.pt [.int .i64 b] 0)), (9, .d (.pt [.int .i64 a] 0)), (11, .d (.fn (.func 43) [] [.pt (eWor w) 0, .pt [.int .i64 b] 0, .pt [.int .i64 a] 0]))]) (m' := ⟨[], []⟩) (by repeat' (first | exact True.intro | exact rfl | exact Nat.le_refl _ | refine And.intro ?_ ?_)) ht.h)
    · cases y1'
      all_goals
        refine ⟨⟨43, [], [.d (.pt (eWor w) 0), .d (.pt [.int .i64 b] 0), .d (.pt [.int .i64 a] 0)], .inr ⟨[], [.pt (eWor w) 0, .pt [.int .i64 b] 0, .pt [.int .i64 a] 0], rfl, rfl, rfl⟩, l1.call ?_⟩⟩
        (refine gQ ?_; intros)
        refine s1.call ?_
        (refine gQ ?_; intros)
        refine r1.call ?_
        (refine gQ ?_; intros)
        refine Sq.go ?_; (refine gQ ?_; intros)
        exact Sq.alt (Awp.le (env' := [(1, .d (.int .i64 n)), (2, .d (.int .i64 t)), (5, .d (.pt (eWor w) 0)), (8, .d (.pt [.int .i64 b] 0)), (9, .d (.pt [.int .i64 a] 0)), (11, .d (.fn (.func 43) [] [.pt (eWor w) 0, .pt [.int .i64 b] 0, .pt [.int .i64 a] 0]))]) (m' := ⟨[], []⟩) (by repeat' (first | exact True.intro | exact rfl | exact Nat.le_refl _ | refine And.intro ?_ ?_)) ht.h)
  refine Awp.of_vc hT ?_
  (refine gQ ?_; intros)
  apply cutT
  case h =>
    intro ht
    refine b1.call ?_
    (refine gQ ?_; intros)
    refine Sq.go ?_; (refine gQ ?_; intros)
    refine b2.call ?_
    (refine gQ ?_; intros)
    refine Sq.go ?_; (refine gQ ?_; intros)
    rcases k2 with rfl | ⟨rfl, rfl, rfl⟩
    · skip
      refine ⟨⟨43, [], [.d (.pt (eWor w) 0), .d (.pt [.int .i64 b] 0), .d (.pt [.int .i64 a] 0)], .inr ⟨[], [.pt (eWor w) 0, .pt [.int .i64 b] 0, .pt [.int .i64 a] 0], rfl, rfl, rfl⟩, l2.call ?_⟩⟩
      (refine gQ ?_; intros)
      refine Sq.go ?_; (refine gQ ?_; intros)
      exact Sq.alt (Awp.le (env' := [(1, .d (.int .i64 n)), (2, .d (.int .i64 t)), (5, .d (.pt (eWor w) 0)), (8, .d (.pt [.int .i64 b] 0)), (9, .d (.pt [.int .i64 a] 0)), (11, .d (.fn (.func 43) [] [.pt (eWor w) 0, .pt [.int .i64 b] 0, .pt [.int .i64 a] 0]))]) (m' := ⟨[], []⟩) (by repeat' (first | exact True.intro | exact rfl | exact Nat.le_refl _ | refine And.intro ?_ ?_)) ht.h)
    · cases y2'
      all_goals
        refine ⟨⟨43, [], [.d (.pt (eWor w) 0), .d (.pt [.int .i64 b] 0), .d (.pt [.int .i64 a] 0)], .inr ⟨[], [.pt (eWor w) 0, .pt [.int .i64 b] 0, .pt [.int .i64 a] 0], rfl, rfl, rfl⟩, l2.call ?_⟩⟩
        (refine gQ ?_; intros)
        refine s2.call ?_
        (refine gQ ?_; intros)
        refine r2.call ?_
        (refine gQ ?_; intros)
        refine Sq.go ?_; (refine gQ ?_; intros)
        exact Sq.alt (Awp.le (env' := [(1, .d (.int .i64 n)), (2, .d (.int .i64 t)), (5, .d (.pt (eWor w) 0)), (8, .d (.pt [.int .i64 b] 0)), (9, .d (.pt [.int .i64 a] 0)), (11, .d (.fn (.func 43) [] [.pt (eWor w) 0, .pt [.int .i64 b] 0, .pt [.int .i64 a] 0]))]) (m' := ⟨[], []⟩) (by repeat' (first | exact True.intro | exact rfl | exact Nat.le_refl _ | refine And.intro ?_ ?_)) ht.h)
  refine Awp.of_vc hT ?_
  (refine gQ ?_; intros)
  apply cutT
  case h =>
    intro ht
    refine c1.call ?_
    (refine gQ ?_; intros)
    refine Sq.go ?_; (refine gQ ?_; intros)
    refine c2.call ?_
    (refine gQ ?_; intros)
    refine Sq.go ?_; (refine gQ ?_; intros)
    rcases k3 with rfl | ⟨rfl, rfl⟩
    · skip
      refine ⟨⟨43, [], [.d (.pt (eWor w) 0), .d (.pt [.int .i64 b] 0), .d (.pt [.int .i64 a] 0)], .inr ⟨[], [.pt (eWor w) 0, .pt [.int .i64 b] 0, .pt [.int .i64 a] 0], rfl, rfl, rfl⟩, l3.call ?_⟩⟩
      (refine gQ ?_; intros)
      refine Sq.go ?_; (refine gQ ?_; intros)
      exact Sq.alt (Awp.le (env' := [(1, .d (.int .i64 n)), (2, .d (.int .i64 t)), (5, .d (.pt (eWor w) 0)), (8, .d (.pt [.int .i64 b] 0)), (9, .d (.pt [.int .i64 a] 0)), (11, .d (.fn (.func 43) [] [.pt (eWor w) 0, .pt [.int .i64 b] 0, .pt [.int .i64 a] 0]))]) (m' := ⟨[], []⟩) (by repeat' (first | exact True.intro | exact rfl | exact Nat.le_refl _ | refine And.intro ?_ ?_)) ht.h)
    · skip
      all_goals
        refine ⟨⟨43, [], [.d (.pt (eWor w) 0), .d (.pt [.int .i64 b] 0), .d (.pt [.int .i64 a] 0)], .inr ⟨[], [.pt (eWor w) 0, .pt [.int .i64 b] 0, .pt [.int .i64 a] 0], rfl, rfl, rfl⟩, l3.call ?_⟩⟩
        (refine gQ ?_; intros)
        refine s3.call ?_
        (refine gQ ?_; intros)
        refine r3.call ?_
        (refine gQ ?_; intros)
        refine Sq.go ?_; (refine gQ ?_; intros)
        exact Sq.alt (Awp.le (env' := [(1, .d (.int .i64 n)), (2, .d (.int .i64 t)), (5, .d (.pt (eWor w) 0)), (8, .d (.pt [.int .i64 b] 0)), (9, .d (.pt [.int .i64 a] 0)), (11, .d (.fn (.func 43) [] [.pt (eWor w) 0, .pt [.int .i64 b] 0, .pt [.int .i64 a] 0]))]) (m' := ⟨[], []⟩) (by repeat' (first | exact True.intro | exact rfl | exact Nat.le_refl _ | refine And.intro ?_ ?_)) ht.h)
  refine Awp.of_vc hT ?_
  (refine gQ ?_; intros)
  refine e1.call ?_
  (refine gP ?_; intros)
  refine e2.call ?_
  (refine gP ?_; intros)
  rcases k4 with rfl | ⟨rfl, rfl, rfl⟩
  · skip
    refine ⟨⟨43, [], [.d (.pt (eWor w) 0), .d (.pt [.int .i64 b] 0), .d (.pt [.int .i64 a] 0)], .inr ⟨[], [.pt (eWor w) 0, .pt [.int .i64 b] 0, .pt [.int .i64 a] 0], rfl, rfl, rfl⟩, l4.call ?_⟩⟩
    (refine gP ?_; intros)
    exact ⟨rfl, True.intro⟩
  · skip
    refine ⟨⟨43, [], [.d (.pt (eWor w) 0), .d (.pt [.int .i64 b] 0), .d (.pt [.int .i64 a] 0)], .inr ⟨[], [.pt (eWor w) 0, .pt [.int .i64 b] 0, .pt [.int .i64 a] 0], rfl, rfl, rfl⟩, l4.call ?_⟩⟩
    (refine gP ?_; intros)
    refine s4.call ?_
    (refine gP ?_; intros)
    refine r4.call ?_
    (refine gP ?_; intros)
    exact ⟨rfl, True.intro⟩
end Go.Proofs.YtmlhghddfobmmaaGreatDoor
