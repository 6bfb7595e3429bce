/-
  Chapter 10: syntax.Same of a catalogue of courses without references, with itself.
-/
import Derived.Test.YtmlhghddfobmmaaGreatDoorNamE
namespace Go.Proofs.YtmlhghddfobmmaaGreatDoor
set_option linter.unusedSimpArgs false
set_option linter.unusedVariables false
open Go Go.Ab
set_option maxRecDepth 100000
set_option maxHeartbeats 0
theorem eqfRule0_ok (f : FuncId) : Pure Tryz.prog 174 [eRules [], eRules [], .fn (.func f) [] []] [.bool true] := by
  rw [eRules_nil]
  refine pure_rule hT (T := tab) (N := 32) (rs := [.tmp 6]) Tryz.func174 rfl rfl rfl (by kernel_rfl) rfl ?_
  (refine gW ?_; intros)
  refine loop_rule hT (S := Unit) (fun _ => ([(16, .d (.int .i64 0)), (17, .d (.int .i64 0))], ⟨[], []⟩)) (fun _ => True) (fun _ => 0) () ?_ ?_ ?_
  · repeat' (first | exact True.intro | exact rfl | exact Nat.le_refl _ | refine And.intro ?_ ?_)
  · exact True.intro
  · intro _ _
    (refine gW ?_; intros)
    exact ⟨rfl, True.intro⟩
theorem eqRule0_ok (r : Rule) (h : r.kids = []) : Pure Tryz.prog 122 [.agg (eRule r), .agg (eRule r)] [.bool true] := by
  have hE := eqfRule0_ok 122
  rw [eRule_flat h]
  refine pure_rule hT (T := tab) (N := 45) (rs := [.tmp 4]) Tryz.func122 rfl rfl rfl (by kernel_rfl) rfl ?_
  (refine gW ?_; intros)
  refine hE.call ?_
  (refine gW ?_; intros)
  exact ⟨congrArg D.bool (by simp), True.intro⟩
theorem eqCrs0_ok (x : Crs) (h1 : x.need.kids = []) (h2 : x.bar.kids = []) : Pure Tryz.prog 121 [.agg (eCrs x), .agg (eCrs x)] [.bool true] := by
  have hN := eqRule0_ok x.need h1
  have hB := eqRule0_ok x.bar h2
  refine pure_rule hT (T := tab) (N := 45) (rs := [.tmp 4]) Tryz.func121 rfl rfl rfl (by kernel_rfl) rfl ?_
  (refine gW ?_; intros)
  refine hN.call ?_
  (refine gW ?_; intros)
  refine hB.call ?_
  (refine gW ?_; intros)
  exact ⟨congrArg D.bool (by simp), True.intro⟩
theorem eqfCrs0_ok (l : List Crs) (hl : l.length ≤ 1000000) (h : ∀ x ∈ l, x.need.kids = [] ∧ x.bar.kids = []) : Pure Tryz.prog 128 [eCrss l, eCrss l, .fn (.func 121) [] []] [.bool true] := by
  have kp : Kp _ := ⟨h⟩
  clear h
  refine pure_rule hT (T := tab) (N := 32) (rs := [.tmp 6]) Tryz.func128 rfl rfl rfl (by kernel_rfl) rfl ?_
  (refine gW ?_; intros)
  refine loop_rule hT (S := Nat) (fun k => ([(1, .d (eCrss l)), (2, .d (.fn (.func 121) [] [])), (15, .d (eCrss l)), (16, .d (.int .i64 l.length)), (17, .d (.int .i64 k))], ⟨[], []⟩)) (fun k => k ≤ l.length) (fun k => l.length - k) 0 ?_ ?_ ?_
  · repeat' (first | exact True.intro | exact rfl | exact Nat.le_refl _ | refine And.intro ?_ ?_)
  · exact Nat.zero_le _
  · intro k hk
    dsimp only at hk ⊢
    by_cases hk2 : k < l.length
    · have hF := eqCrs0_ok (l.getD k default) (kp.h _ (getD_mem hk2)).1 (kp.h _ (getD_mem hk2)).2
      (refine gW ?_; intros)
      refine hF.call ?_
      (refine gW ?_; intros)
      refine ⟨k + 1, by show k + 1 ≤ l.length; omega, by show l.length - (k + 1) < l.length - k; omega, ?_⟩
      repeat' (first | exact True.intro | exact rfl | exact Nat.le_refl _ | refine And.intro ?_ ?_)
    · (refine gW ?_; intros)
      exact ⟨rfl, True.intro⟩
theorem eqfPrg0_ok (f : Fn) (xs : List D) : Pure Tryz.prog 130 [ePrgs [], ePrgs [], .fn f [] xs] [.bool true] := by
  refine pure_rule hT (T := tab) (N := 32) (rs := [.tmp 6]) Tryz.func130 rfl rfl rfl (by kernel_rfl) rfl ?_
  (refine gW ?_; intros)
  refine loop_rule hT (S := Unit) (fun _ => ([(16, .d (.int .i64 0)), (17, .d (.int .i64 0))], ⟨[], []⟩)) (fun _ => True) (fun _ => 0) () ?_ ?_ ?_
  · repeat' (first | exact True.intro | exact rfl | exact Nat.le_refl _ | refine And.intro ?_ ?_)
  · exact True.intro
  · intro _ _
    (refine gW ?_; intros)
    exact ⟨rfl, True.intro⟩
theorem eqPai0_ok : Pure Tryz.prog 129 [ePais [], ePais []] [.bool true] := by
  refine pure_rule hT (T := tab) (N := 26) (rs := [.tmp 4]) Tryz.func129 rfl rfl rfl (by kernel_rfl) rfl ?_
  (refine gW ?_; intros)
  refine loop_rule hT (S := Unit) (fun _ => ([(12, .d (.int .i64 0)), (13, .d (.int .i64 0))], ⟨[], []⟩)) (fun _ => True) (fun _ => 0) () ?_ ?_ ?_
  · repeat' (first | exact True.intro | exact rfl | exact Nat.le_refl _ | refine And.intro ?_ ?_)
  · exact True.intro
  · intro _ _
    (refine gW ?_; intros)
    exact ⟨rfl, True.intro⟩
theorem eqCls0_ok : Pure Tryz.prog 131 [eClss [], eClss []] [.bool true] := by
  refine pure_rule hT (T := tab) (N := 26) (rs := [.tmp 4]) Tryz.func131 rfl rfl rfl (by kernel_rfl) rfl ?_
  (refine gW ?_; intros)
  refine loop_rule hT (S := Unit) (fun _ => ([(12, .d (.int .i64 0)), (13, .d (.int .i64 0))], ⟨[], []⟩)) (fun _ => True) (fun _ => 0) () ?_ ?_ ?_
  · repeat' (first | exact True.intro | exact rfl | exact Nat.le_refl _ | refine And.intro ?_ ?_)
  · exact True.intro
  · intro _ _
    (refine gW ?_; intros)
    exact ⟨rfl, True.intro⟩
theorem eqFee0_ok : Pure Tryz.prog 132 [eFees [], eFees []] [.bool true] := by
  refine pure_rule hT (T := tab) (N := 26) (rs := [.tmp 4]) Tryz.func132 rfl rfl rfl (by kernel_rfl) rfl ?_
  (refine gW ?_; intros)
  refine loop_rule hT (S := Unit) (fun _ => ([(12, .d (.int .i64 0)), (13, .d (.int .i64 0))], ⟨[], []⟩)) (fun _ => True) (fun _ => 0) () ?_ ?_ ?_
  · repeat' (first | exact True.intro | exact rfl | exact Nat.le_refl _ | refine And.intro ?_ ?_)
  · exact True.intro
  · intro _ _
    (refine gW ?_; intros)
    exact ⟨rfl, True.intro⟩
theorem eqCla0_ok : Pure Tryz.prog 133 [eClas [], eClas []] [.bool true] := by
  refine pure_rule hT (T := tab) (N := 26) (rs := [.tmp 4]) Tryz.func133 rfl rfl rfl (by kernel_rfl) rfl ?_
  (refine gW ?_; intros)
  refine loop_rule hT (S := Unit) (fun _ => ([(12, .d (.int .i64 0)), (13, .d (.int .i64 0))], ⟨[], []⟩)) (fun _ => True) (fun _ => 0) () ?_ ?_ ?_
  · repeat' (first | exact True.intro | exact rfl | exact Nat.le_refl _ | refine And.intro ?_ ?_)
  · exact True.intro
  · intro _ _
    (refine gW ?_; intros)
    exact ⟨rfl, True.intro⟩
theorem same0_ok (l : List Crs) (hl : l.length ≤ 1000000) (h : FlatC (flatCat l)) : Pure Tryz.prog 75 [.agg (eCat (flatCat l)), .agg (eCat (flatCat l))] [.bool true] := by
  have hE := eqfCrs0_ok l hl fun x hx => ⟨(h x hx).1.kids, (h x hx).2.kids⟩
  clear h
  refine pure_rule hT (T := tab) (N := 58) (rs := [.tmp 4]) Tryz.func75 rfl rfl rfl (by kernel_rfl) rfl ?_
  (refine gW ?_; intros)
  refine hE.call ?_
  (refine gW ?_; intros)
  refine eqPai0_ok.call ?_
  (refine gW ?_; intros)
  refine (eqfPrg0_ok (.func 126) [.pt [.fn (.func 123) [] []] 0]).loan rfl ⟨.d, .d, .fn' True.intro ⟨.ptr' rfl ⟨.d, True.intro⟩, True.intro⟩, True.intro⟩ ?_
  (refine gW ?_; intros)
  refine eqCls0_ok.call ?_
  (refine gW ?_; intros)
  refine eqFee0_ok.call ?_
  (refine gW ?_; intros)
  refine eqCls0_ok.call ?_
  (refine gW ?_; intros)
  refine eqCla0_ok.call ?_
  (refine gW ?_; intros)
  exact ⟨rfl, True.intro⟩
end Go.Proofs.YtmlhghddfobmmaaGreatDoor
