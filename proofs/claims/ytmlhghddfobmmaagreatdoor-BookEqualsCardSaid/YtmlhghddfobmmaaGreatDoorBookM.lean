/-
  Chapter 14: Course, Programme, System, by both sides.
-/
import Derived.Test.YtmlhghddfobmmaaGreatDoorBookL
import Derived.Test.YtmlhghddfobmmaaGreatDoorBookG
import Derived.Test.YtmlhghddfobmmaaGreatDoorFrz
namespace Go.Proofs.YtmlhghddfobmmaaGreatDoor
set_option linter.unusedSimpArgs false
set_option linter.unusedVariables false
open Go Go.Ab
set_option maxRecDepth 100000
set_option maxHeartbeats 0
/-- What is asked of a world for the walk. -/
structure WfW (w : Wor) : Prop where
  bok : wfBok w.bok
  crs : ∀ c ∈ w.bok.crs, smCrs c
  fct : fitL w.fcts
def okCrs (n : Int) (c : Crs) : Bool := decide (c.number = n) && vCrs c
def okPrg (n : Int) (p : Prg) : Bool := decide (p.number = n) && vPrg p
theorem crsV_ok (c : Crs) (n : Int) (hw : wfCrs c) : Pure Tryz.prog 102 [.agg (eCrs c), .pt [.int .i64 n] 0] [.bool (okCrs n c)] := by
  have hV := validCourse_ok c hw
  unfold okCrs
  refine pure_rule hT (T := tab) (N := 12) (rs := [.tmp 3]) Tryz.func102 rfl rfl rfl (by kernel_rfl) rfl ?_
  by_cases h : c.number = n
  · (refine gW ?_; intros)
    refine hV.call ?_
    (refine gW ?_; intros)
    refine ⟨congrArg D.bool ?_, True.intro⟩
    simp [h]
  · (refine gW ?_; intros)
    refine ⟨congrArg D.bool ?_, True.intro⟩
    simp [h]
theorem prgV_ok (p : Prg) (n : Int) (hw : wfPrg p) : Pure Tryz.prog 105 [.agg (ePrg p), .pt [.int .i64 n] 0] [.bool (okPrg n p)] := by
  have hV := validPrg_ok p hw
  unfold okPrg
  refine pure_rule hT (T := tab) (N := 12) (rs := [.tmp 3]) Tryz.func105 rfl rfl rfl (by kernel_rfl) rfl ?_
  by_cases h : p.number = n
  · (refine gW ?_; intros)
    refine hV.call ?_
    (refine gW ?_; intros)
    refine ⟨congrArg D.bool ?_, True.intro⟩
    simp [h]
  · (refine gW ?_; intros)
    refine ⟨congrArg D.bool ?_, True.intro⟩
    simp [h]
def crsOf (w : Wor) (n t kn : Int) : Option Crs := lookO w.bok.crs t (atV w.fcts ⟨1, n, 0⟩ t kn) (okCrs n)
def prgOf (w : Wor) (n t kn : Int) : Option Prg := lookO w.bok.prg t (atV w.fcts ⟨3, n, 0⟩ t kn) (okPrg n)
def sysOf (w : Wor) (t kn : Int) : Option Sys := lookO w.bok.sys t (atV w.fcts ⟨4, 0, 0⟩ t kn) vSys
theorem bcourse_ok (w : Wor) (hw : WfW w) (n t kn : Int) : Pure Tryz.prog 30 [.agg (eWor w), .int .i64 n, .int .i64 t, .int .i64 kn] [.agg (eCrs ((crsOf w n t kn).getD default)), eReds (readsT ⟨1, n, 0⟩ t), .bool (crsOf w n t kn).isSome] := by
  have hL := lookCrs_ok w w.bok.crs hw.bok.1.1 hw.fct ⟨1, n, 0⟩ t kn 102 (.pt [.int .i64 n] 0) (okCrs n) fun s hs => crsV_ok s n (hw.bok.1.2 s hs)
  unfold crsOf
  refine pure_rule hT (T := tab) (N := 26) (rs := [.cell 8 68, .tmp 9, .tmp 10]) Tryz.func30 rfl rfl rfl (by kernel_rfl) rfl ?_
  (refine gW ?_; intros)
  refine CallVC.frz [1] ?_ (hL.call ?_)
  · exact ⟨.d, .d, .d, .d, .d, .fn' True.intro ⟨.ptr' rfl ⟨.d, True.intro⟩, True.intro⟩, True.intro⟩
  (refine gW ?_; intros)
  exact ⟨.inl rfl, ⟨rfl, rfl, fun i hi => rfl⟩, rfl, True.intro⟩
theorem bprogramme_ok (w : Wor) (hw : WfW w) (n t kn : Int) : Pure Tryz.prog 33 [.agg (eWor w), .int .i64 n, .int .i64 t, .int .i64 kn] [.agg (ePrg ((prgOf w n t kn).getD default)), eReds (readsT ⟨3, n, 0⟩ t), .bool (prgOf w n t kn).isSome] := by
  have hL := lookPrg_ok w w.bok.prg hw.bok.2.1.1 hw.fct ⟨3, n, 0⟩ t kn 105 (.pt [.int .i64 n] 0) (okPrg n) fun s hs => prgV_ok s n (hw.bok.2.1.2 s hs)
  unfold prgOf
  refine pure_rule hT (T := tab) (N := 26) (rs := [.cell 8 78, .tmp 9, .tmp 10]) Tryz.func33 rfl rfl rfl (by kernel_rfl) rfl ?_
  (refine gW ?_; intros)
  refine CallVC.frz [1] ?_ (hL.call ?_)
  · exact ⟨.d, .d, .d, .d, .d, .fn' True.intro ⟨.ptr' rfl ⟨.d, True.intro⟩, True.intro⟩, True.intro⟩
  (refine gW ?_; intros)
  exact ⟨.inl rfl, ⟨rfl, rfl, fun i hi => rfl⟩, rfl, True.intro⟩
theorem bsystem_ok (w : Wor) (hw : WfW w) (t kn : Int) : Pure Tryz.prog 36 [.agg (eWor w), .int .i64 t, .int .i64 kn] [.agg (eSys ((sysOf w t kn).getD default)), eReds (readsT ⟨4, 0, 0⟩ t)] := by
  have hL := lookSys_ok w w.bok.sys hw.bok.2.2.1 hw.fct ⟨4, 0, 0⟩ t kn 92 vSys fun s hs => validSys_ok s (hw.bok.2.2.2 s hs)
  unfold sysOf
  refine pure_rule hT (T := tab) (N := 22) (rs := [.cell 6 83, .tmp 7]) Tryz.func36 rfl rfl rfl (by kernel_rfl) rfl ?_
  (refine gW ?_; intros)
  refine hL.call ?_
  (refine gW ?_; intros)
  exact ⟨.inl rfl, ⟨rfl, rfl, fun i hi => rfl⟩, True.intro⟩
theorem rread_ok (k : Ke) (t : Int) (ht : 0 ≤ t ∧ t ≤ 1023) : Pure Tryz.prog 99 [.agg (eKe k), .int .i64 t] [.agg (eRed (rdK k t))] := by
  have ht3 : In .i64 (t + 1) := in64.2 (by omega)
  refine pure_rule hT (T := tab) (N := 10) (rs := [.cell 4 102]) Tryz.func99 rfl rfl rfl (by kernel_rfl) rfl ?_
  (refine gW ?_; intros)
  exact ⟨.inl rfl, True.intro⟩
theorem rlookCrs_ok (w : Wor) (hw : WfW w) (l : List Crs) (hl : fitL l) (el : l = w.bok.crs) (num t kn : Int) (hp : ∀ s ∈ l, Pure Tryz.prog 93 [.agg (eCrs s)] [.bool (vCrs s)]) :
    Pure Tryz.prog 31 [.agg (eWor w), .int .i64 num, .int .i64 t, .int .i64 kn] [.agg (eCrs ((lookO l t (atV w.fcts ⟨1, num, 0⟩ t kn) (okCrs num)).getD default)), eReds (readsT ⟨1, num, 0⟩ t), .bool (lookO l t (atV w.fcts ⟨1, num, 0⟩ t kn) (okCrs num)).isSome] := by
  have ew : eWor w = [eCrss l, ePrgs w.bok.prg, eSyss w.bok.sys, eFcts w.fcts] := by rw [el]; rfl
  rw [ew]
  clear el ew
  have hl' : l.length ≤ 9223372036854775807 := hl
  have hA := rat_ok w.fcts hw.fct ⟨1, num, 0⟩ t kn
  obtain ⟨v, hv⟩ : ∃ v, atV w.fcts ⟨1, num, 0⟩ t kn = v := ⟨_, rfl⟩
  rw [hv] at hA ⊢
  obtain ⟨v, b⟩ := v
  dsimp only at hA ⊢
  have hI := rin_ok t 0 1023
  have hJ := rin_ok v 0 ((l.length : Int) - 1)
  refine pure_rule hT (T := tab) (N := 76) (rs := [.cell 8 68, .tmp 9, .tmp 10]) Tryz.func31 rfl rfl rfl (by kernel_rfl) rfl ?_
  cases ht : bw t 0 1023 <;> rw [ht] at hI
  · have e1 : lookO l t (v, b) (okCrs num) = none := by simp [lookO, ht]
    have e2 : readsT ⟨1, num, 0⟩ t = [] := by simp [readsT, ht]
    rw [e1, e2]
    (refine gW ?_; intros)
    refine hI.call ?_
    (refine gW ?_; intros)
    exact ⟨.inr ⟨rfl, rfl, rfl, rfl, rfl, rfl, rfl, rfl, rfl, rfl, rfl, rfl, rfl, rfl, rfl, rfl, True.intro⟩, rfl, rfl, True.intro⟩
  have ht2 : 0 ≤ t ∧ t ≤ 1023 := by simpa [bw] using ht
  have hR := rread_ok ⟨1, num, 0⟩ t ht2
  have e2 : readsT ⟨1, num, 0⟩ t = [rdK ⟨1, num, 0⟩ t] := by simp [readsT, ht]
  rw [e2]
  cases b
  · have e1 : lookO l t (v, false) (okCrs num) = none := by simp [lookO]
    rw [e1]
    (refine gW ?_; intros)
    refine hI.call ?_
    (refine gW ?_; intros)
    refine hR.call ?_
    (refine gW ?_; intros)
    refine hA.call ?_
    (refine gW ?_; intros)
    exact ⟨.inr ⟨rfl, rfl, rfl, rfl, rfl, rfl, rfl, rfl, rfl, rfl, rfl, rfl, rfl, rfl, rfl, rfl, True.intro⟩, ⟨rfl, rfl, Nat.le_refl _, rfl, fun i hi => by rw [show i = 0 from Nat.lt_one_iff.1 hi]; rfl⟩, rfl, True.intro⟩
  cases h1 : bw v 0 ((l.length : Int) - 1) <;> rw [h1] at hJ
  · have e1 : lookO l t (v, true) (okCrs num) = none := by
      simp only [lookO]
      rw [if_neg]
      intro h
      have h2 : ¬ (0 ≤ v ∧ v ≤ (l.length : Int) - 1) := by simpa [bw] using h1
      exact h2 ⟨h.2.2.1, by have := h.2.2.2.1; omega⟩
    rw [e1]
    (refine gW ?_; intros)
    refine hI.call ?_
    (refine gW ?_; intros)
    refine hR.call ?_
    (refine gW ?_; intros)
    refine hA.call ?_
    (refine gW ?_; intros)
    refine hJ.call ?_
    (refine gW ?_; intros)
    exact ⟨.inr ⟨rfl, rfl, rfl, rfl, rfl, rfl, rfl, rfl, rfl, rfl, rfl, rfl, rfl, rfl, rfl, rfl, True.intro⟩, ⟨rfl, rfl, Nat.le_refl _, rfl, fun i hi => by rw [show i = 0 from Nat.lt_one_iff.1 hi]; rfl⟩, rfl, True.intro⟩
  have h1' : 0 ≤ v ∧ v ≤ (l.length : Int) - 1 := by simpa [bw] using h1
  obtain ⟨n, rfl⟩ : ∃ n : Nat, v = n := ⟨v.toNat, by omega⟩
  have hn : n < l.length := by omega
  have hP := hp (l.getD n default) (getD_mem hn)
  by_cases h2 : (l.getD n default).number = num
  case neg =>
    have e1 : lookO l t ((n : Int), true) (okCrs num) = none := by
      simp only [lookO]
      rw [if_neg]
      intro h
      have := h.2.2.2.2
      rw [Int.toNat_natCast] at this
      simp only [okCrs, Bool.and_eq_true, decide_eq_true_eq] at this
      exact h2 this.1
    rw [e1]
    (refine gW ?_; intros)
    refine hI.call ?_
    (refine gW ?_; intros)
    refine hR.call ?_
    (refine gW ?_; intros)
    refine hA.call ?_
    (refine gW ?_; intros)
    refine hJ.call ?_
    (refine gW ?_; intros)
    exact ⟨.inr ⟨rfl, rfl, rfl, rfl, rfl, rfl, rfl, rfl, rfl, rfl, rfl, rfl, rfl, rfl, rfl, rfl, True.intro⟩, ⟨rfl, rfl, Nat.le_refl _, rfl, fun i hi => by rw [show i = 0 from Nat.lt_one_iff.1 hi]; rfl⟩, rfl, True.intro⟩
  cases h3 : vCrs (l.getD n default) <;> rw [h3] at hP
  · have e1 : lookO l t ((n : Int), true) (okCrs num) = none := by
      simp only [lookO]
      rw [if_neg]
      intro h
      have := h.2.2.2.2
      rw [Int.toNat_natCast] at this
      simp only [okCrs, h3, Bool.and_false, Bool.false_eq_true] at this
    rw [e1]
    (refine gW ?_; intros)
    refine hI.call ?_
    (refine gW ?_; intros)
    refine hR.call ?_
    (refine gW ?_; intros)
    refine hA.call ?_
    (refine gW ?_; intros)
    refine hJ.call ?_
    (refine gW ?_; intros)
    refine hP.call ?_
    (refine gW ?_; intros)
    exact ⟨.inr ⟨rfl, rfl, rfl, rfl, rfl, rfl, rfl, rfl, rfl, rfl, rfl, rfl, rfl, rfl, rfl, rfl, True.intro⟩, ⟨rfl, rfl, Nat.le_refl _, rfl, fun i hi => by rw [show i = 0 from Nat.lt_one_iff.1 hi]; rfl⟩, rfl, True.intro⟩
  · have e1 : lookO l t ((n : Int), true) (okCrs num) = some (l.getD n default) := by
      simp only [lookO]
      rw [if_pos, Int.toNat_natCast]
      exact ⟨ht, by trivial, by omega, by omega, by rw [Int.toNat_natCast, okCrs, decide_eq_true h2, h3]; rfl⟩
    rw [e1]
    (refine gW ?_; intros)
    refine hI.call ?_
    (refine gW ?_; intros)
    refine hR.call ?_
    (refine gW ?_; intros)
    refine hA.call ?_
    (refine gW ?_; intros)
    refine hJ.call ?_
    (refine gW ?_; intros)
    refine hP.call ?_
    (refine gW ?_; intros)
    exact ⟨.inl rfl, ⟨rfl, rfl, Nat.le_refl _, rfl, fun i hi => by rw [show i = 0 from Nat.lt_one_iff.1 hi]; rfl⟩, rfl, True.intro⟩
theorem rlookPrg_ok (w : Wor) (hw : WfW w) (l : List Prg) (hl : fitL l) (el : l = w.bok.prg) (num t kn : Int) (hp : ∀ s ∈ l, Pure Tryz.prog 94 [.agg (ePrg s)] [.bool (vPrg s)]) :
    Pure Tryz.prog 34 [.agg (eWor w), .int .i64 num, .int .i64 t, .int .i64 kn] [.agg (ePrg ((lookO l t (atV w.fcts ⟨3, num, 0⟩ t kn) (okPrg num)).getD default)), eReds (readsT ⟨3, num, 0⟩ t), .bool (lookO l t (atV w.fcts ⟨3, num, 0⟩ t kn) (okPrg num)).isSome] := by
  have ew : eWor w = [eCrss w.bok.crs, ePrgs l, eSyss w.bok.sys, eFcts w.fcts] := by rw [el]; rfl
  rw [ew]
  clear el ew
  have hl' : l.length ≤ 9223372036854775807 := hl
  have hA := rat_ok w.fcts hw.fct ⟨3, num, 0⟩ t kn
  obtain ⟨v, hv⟩ : ∃ v, atV w.fcts ⟨3, num, 0⟩ t kn = v := ⟨_, rfl⟩
  rw [hv] at hA ⊢
  obtain ⟨v, b⟩ := v
  dsimp only at hA ⊢
  have hI := rin_ok t 0 1023
  have hJ := rin_ok v 0 ((l.length : Int) - 1)
  refine pure_rule hT (T := tab) (N := 76) (rs := [.cell 8 78, .tmp 9, .tmp 10]) Tryz.func34 rfl rfl rfl (by kernel_rfl) rfl ?_
  cases ht : bw t 0 1023 <;> rw [ht] at hI
  · have e1 : lookO l t (v, b) (okPrg num) = none := by simp [lookO, ht]
    have e2 : readsT ⟨3, num, 0⟩ t = [] := by simp [readsT, ht]
    rw [e1, e2]
    (refine gW ?_; intros)
    refine hI.call ?_
    (refine gW ?_; intros)
    exact ⟨.inr ⟨rfl, rfl, rfl, rfl, rfl, rfl, rfl, True.intro⟩, rfl, rfl, True.intro⟩
  have ht2 : 0 ≤ t ∧ t ≤ 1023 := by simpa [bw] using ht
  have hR := rread_ok ⟨3, num, 0⟩ t ht2
  have e2 : readsT ⟨3, num, 0⟩ t = [rdK ⟨3, num, 0⟩ t] := by simp [readsT, ht]
  rw [e2]
  cases b
  · have e1 : lookO l t (v, false) (okPrg num) = none := by simp [lookO]
    rw [e1]
    (refine gW ?_; intros)
    refine hI.call ?_
    (refine gW ?_; intros)
    refine hR.call ?_
    (refine gW ?_; intros)
    refine hA.call ?_
    (refine gW ?_; intros)
    exact ⟨.inr ⟨rfl, rfl, rfl, rfl, rfl, rfl, rfl, True.intro⟩, ⟨rfl, rfl, Nat.le_refl _, rfl, fun i hi => by rw [show i = 0 from Nat.lt_one_iff.1 hi]; rfl⟩, rfl, True.intro⟩
  cases h1 : bw v 0 ((l.length : Int) - 1) <;> rw [h1] at hJ
  · have e1 : lookO l t (v, true) (okPrg num) = none := by
      simp only [lookO]
      rw [if_neg]
      intro h
      have h2 : ¬ (0 ≤ v ∧ v ≤ (l.length : Int) - 1) := by simpa [bw] using h1
      exact h2 ⟨h.2.2.1, by have := h.2.2.2.1; omega⟩
    rw [e1]
    (refine gW ?_; intros)
    refine hI.call ?_
    (refine gW ?_; intros)
    refine hR.call ?_
    (refine gW ?_; intros)
    refine hA.call ?_
    (refine gW ?_; intros)
    refine hJ.call ?_
    (refine gW ?_; intros)
    exact ⟨.inr ⟨rfl, rfl, rfl, rfl, rfl, rfl, rfl, True.intro⟩, ⟨rfl, rfl, Nat.le_refl _, rfl, fun i hi => by rw [show i = 0 from Nat.lt_one_iff.1 hi]; rfl⟩, rfl, True.intro⟩
  have h1' : 0 ≤ v ∧ v ≤ (l.length : Int) - 1 := by simpa [bw] using h1
  obtain ⟨n, rfl⟩ : ∃ n : Nat, v = n := ⟨v.toNat, by omega⟩
  have hn : n < l.length := by omega
  have hP := hp (l.getD n default) (getD_mem hn)
  by_cases h2 : (l.getD n default).number = num
  case neg =>
    have e1 : lookO l t ((n : Int), true) (okPrg num) = none := by
      simp only [lookO]
      rw [if_neg]
      intro h
      have := h.2.2.2.2
      rw [Int.toNat_natCast] at this
      simp only [okPrg, Bool.and_eq_true, decide_eq_true_eq] at this
      exact h2 this.1
    rw [e1]
    (refine gW ?_; intros)
    refine hI.call ?_
    (refine gW ?_; intros)
    refine hR.call ?_
    (refine gW ?_; intros)
    refine hA.call ?_
    (refine gW ?_; intros)
    refine hJ.call ?_
    (refine gW ?_; intros)
    exact ⟨.inr ⟨rfl, rfl, rfl, rfl, rfl, rfl, rfl, True.intro⟩, ⟨rfl, rfl, Nat.le_refl _, rfl, fun i hi => by rw [show i = 0 from Nat.lt_one_iff.1 hi]; rfl⟩, rfl, True.intro⟩
  cases h3 : vPrg (l.getD n default) <;> rw [h3] at hP
  · have e1 : lookO l t ((n : Int), true) (okPrg num) = none := by
      simp only [lookO]
      rw [if_neg]
      intro h
      have := h.2.2.2.2
      rw [Int.toNat_natCast] at this
      simp only [okPrg, h3, Bool.and_false, Bool.false_eq_true] at this
    rw [e1]
    (refine gW ?_; intros)
    refine hI.call ?_
    (refine gW ?_; intros)
    refine hR.call ?_
    (refine gW ?_; intros)
    refine hA.call ?_
    (refine gW ?_; intros)
    refine hJ.call ?_
    (refine gW ?_; intros)
    refine hP.call ?_
    (refine gW ?_; intros)
    exact ⟨.inr ⟨rfl, rfl, rfl, rfl, rfl, rfl, rfl, True.intro⟩, ⟨rfl, rfl, Nat.le_refl _, rfl, fun i hi => by rw [show i = 0 from Nat.lt_one_iff.1 hi]; rfl⟩, rfl, True.intro⟩
  · have e1 : lookO l t ((n : Int), true) (okPrg num) = some (l.getD n default) := by
      simp only [lookO]
      rw [if_pos, Int.toNat_natCast]
      exact ⟨ht, by trivial, by omega, by omega, by rw [Int.toNat_natCast, okPrg, decide_eq_true h2, h3]; rfl⟩
    rw [e1]
    (refine gW ?_; intros)
    refine hI.call ?_
    (refine gW ?_; intros)
    refine hR.call ?_
    (refine gW ?_; intros)
    refine hA.call ?_
    (refine gW ?_; intros)
    refine hJ.call ?_
    (refine gW ?_; intros)
    refine hP.call ?_
    (refine gW ?_; intros)
    exact ⟨.inl rfl, ⟨rfl, rfl, Nat.le_refl _, rfl, fun i hi => by rw [show i = 0 from Nat.lt_one_iff.1 hi]; rfl⟩, rfl, True.intro⟩
theorem rlookSys_ok (w : Wor) (hw : WfW w) (l : List Sys) (hl : fitL l) (el : l = w.bok.sys) (t kn : Int) (hp : ∀ s ∈ l, Pure Tryz.prog 95 [.agg (eSys s)] [.bool (vSys s)]) :
    Pure Tryz.prog 37 [.agg (eWor w), .int .i64 t, .int .i64 kn] [.agg (eSys ((lookO l t (atV w.fcts ⟨4, 0, 0⟩ t kn) vSys).getD default)), eReds (readsT ⟨4, 0, 0⟩ t)] := by
  have ew : eWor w = [eCrss w.bok.crs, ePrgs w.bok.prg, eSyss l, eFcts w.fcts] := by rw [el]; rfl
  rw [ew]
  clear el ew
  have hl' : l.length ≤ 9223372036854775807 := hl
  have hA := rat_ok w.fcts hw.fct ⟨4, 0, 0⟩ t kn
  obtain ⟨v, hv⟩ : ∃ v, atV w.fcts ⟨4, 0, 0⟩ t kn = v := ⟨_, rfl⟩
  rw [hv] at hA ⊢
  obtain ⟨v, b⟩ := v
  dsimp only at hA ⊢
  have hI := rin_ok t 0 1023
  have hJ := rin_ok v 0 ((l.length : Int) - 1)
  refine pure_rule hT (T := tab) (N := 61) (rs := [.cell 6 83, .tmp 7]) Tryz.func37 rfl rfl rfl (by kernel_rfl) rfl ?_
  cases ht : bw t 0 1023 <;> rw [ht] at hI
  · have e1 : lookO l t (v, b) vSys = none := by simp [lookO, ht]
    have e2 : readsT ⟨4, 0, 0⟩ t = [] := by simp [readsT, ht]
    rw [e1, e2]
    (refine gW ?_; intros)
    refine hI.call ?_
    (refine gW ?_; intros)
    exact ⟨.inr ⟨rfl, rfl, rfl, rfl, True.intro⟩, rfl, True.intro⟩
  have ht2 : 0 ≤ t ∧ t ≤ 1023 := by simpa [bw] using ht
  have hR := rread_ok ⟨4, 0, 0⟩ t ht2
  have e2 : readsT ⟨4, 0, 0⟩ t = [rdK ⟨4, 0, 0⟩ t] := by simp [readsT, ht]
  rw [e2]
  cases b
  · have e1 : lookO l t (v, false) vSys = none := by simp [lookO]
    rw [e1]
    (refine gW ?_; intros)
    refine hI.call ?_
    (refine gW ?_; intros)
    refine hR.call ?_
    (refine gW ?_; intros)
    refine hA.call ?_
    (refine gW ?_; intros)
    exact ⟨.inr ⟨rfl, rfl, rfl, rfl, True.intro⟩, ⟨rfl, rfl, Nat.le_refl _, rfl, fun i hi => by rw [show i = 0 from Nat.lt_one_iff.1 hi]; rfl⟩, True.intro⟩
  cases h1 : bw v 0 ((l.length : Int) - 1) <;> rw [h1] at hJ
  · have e1 : lookO l t (v, true) vSys = none := by
      simp only [lookO]
      rw [if_neg]
      intro h
      have h2 : ¬ (0 ≤ v ∧ v ≤ (l.length : Int) - 1) := by simpa [bw] using h1
      exact h2 ⟨h.2.2.1, by have := h.2.2.2.1; omega⟩
    rw [e1]
    (refine gW ?_; intros)
    refine hI.call ?_
    (refine gW ?_; intros)
    refine hR.call ?_
    (refine gW ?_; intros)
    refine hA.call ?_
    (refine gW ?_; intros)
    refine hJ.call ?_
    (refine gW ?_; intros)
    exact ⟨.inr ⟨rfl, rfl, rfl, rfl, True.intro⟩, ⟨rfl, rfl, Nat.le_refl _, rfl, fun i hi => by rw [show i = 0 from Nat.lt_one_iff.1 hi]; rfl⟩, True.intro⟩
  have h1' : 0 ≤ v ∧ v ≤ (l.length : Int) - 1 := by simpa [bw] using h1
  obtain ⟨n, rfl⟩ : ∃ n : Nat, v = n := ⟨v.toNat, by omega⟩
  have hn : n < l.length := by omega
  have hP := hp (l.getD n default) (getD_mem hn)
  cases h3 : vSys (l.getD n default) <;> rw [h3] at hP
  · have e1 : lookO l t ((n : Int), true) vSys = none := by
      simp only [lookO]
      rw [if_neg]
      intro h
      have := h.2.2.2.2
      rw [Int.toNat_natCast, h3] at this
      cases this
    rw [e1]
    (refine gW ?_; intros)
    refine hI.call ?_
    (refine gW ?_; intros)
    refine hR.call ?_
    (refine gW ?_; intros)
    refine hA.call ?_
    (refine gW ?_; intros)
    refine hJ.call ?_
    (refine gW ?_; intros)
    refine hP.call ?_
    (refine gW ?_; intros)
    exact ⟨.inr ⟨rfl, rfl, rfl, rfl, True.intro⟩, ⟨rfl, rfl, Nat.le_refl _, rfl, fun i hi => by rw [show i = 0 from Nat.lt_one_iff.1 hi]; rfl⟩, True.intro⟩
  · have e1 : lookO l t ((n : Int), true) vSys = some (l.getD n default) := by
      simp only [lookO]
      rw [if_pos, Int.toNat_natCast]
      exact ⟨ht, by trivial, by omega, by omega, by rw [Int.toNat_natCast]; exact h3⟩
    rw [e1]
    (refine gW ?_; intros)
    refine hI.call ?_
    (refine gW ?_; intros)
    refine hR.call ?_
    (refine gW ?_; intros)
    refine hA.call ?_
    (refine gW ?_; intros)
    refine hJ.call ?_
    (refine gW ?_; intros)
    refine hP.call ?_
    (refine gW ?_; intros)
    exact ⟨.inl rfl, ⟨rfl, rfl, Nat.le_refl _, rfl, fun i hi => by rw [show i = 0 from Nat.lt_one_iff.1 hi]; rfl⟩, True.intro⟩
theorem rcourse14_ok (w : Wor) (hw : WfW w) (n t kn : Int) : Pure Tryz.prog 31 [.agg (eWor w), .int .i64 n, .int .i64 t, .int .i64 kn] [.agg (eCrs ((crsOf w n t kn).getD default)), eReds (readsT ⟨1, n, 0⟩ t), .bool (crsOf w n t kn).isSome] :=
  rlookCrs_ok w hw w.bok.crs hw.bok.1.1 rfl n t kn fun s hs => isCourse_ok s (hw.bok.1.2 s hs) (hw.crs s hs)
theorem rprogramme14_ok (w : Wor) (hw : WfW w) (n t kn : Int) : Pure Tryz.prog 34 [.agg (eWor w), .int .i64 n, .int .i64 t, .int .i64 kn] [.agg (ePrg ((prgOf w n t kn).getD default)), eReds (readsT ⟨3, n, 0⟩ t), .bool (prgOf w n t kn).isSome] :=
  rlookPrg_ok w hw w.bok.prg hw.bok.2.1.1 rfl n t kn fun s hs => isProgramme_ok s (hw.bok.2.1.2 s hs)
theorem rsystem14_ok (w : Wor) (hw : WfW w) (t kn : Int) : Pure Tryz.prog 37 [.agg (eWor w), .int .i64 t, .int .i64 kn] [.agg (eSys ((sysOf w t kn).getD default)), eReds (readsT ⟨4, 0, 0⟩ t)] :=
  rlookSys_ok w hw w.bok.sys hw.bok.2.2.1 rfl t kn fun s hs => isSystem_ok s (hw.bok.2.2.2 s hs)
end Go.Proofs.YtmlhghddfobmmaaGreatDoor
