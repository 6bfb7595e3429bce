/-
  Ratios: the greatest common divisor; Check, by the program and by the reference.
-/
import Derived.Test.YtmlhghddfobmmaaGreatDoorRuleB
import Derived.Test.YtmlhghddfobmmaaGreatDoorFrz
import Derived.Test.YtmlhghddfobmmaaGreatDoorEngAR
namespace Go.Proofs.YtmlhghddfobmmaaGreatDoor
set_option linter.unusedSimpArgs false
set_option linter.unusedVariables false
open Go Go.Ab
set_option maxRecDepth 100000
set_option maxHeartbeats 0
theorem size_ok (n : Int) (hn : In .i64 n) : Pure Tryz.prog 238 [.int .i64 n] [.int .u64 n.natAbs] := by
  refine pure_rule hT (T := tab) (N := 10) (rs := [.tmp 2]) Tryz.func238 rfl rfl rfl (by kernel_rfl) rfl ?_
  rw [in64] at hn
  by_cases h : n < 0
  · (refine gW ?_; intros)
    refine op_conv64 rfl rfl rfl rfl ?_
    (refine gW ?_; intros)
    refine op_neg64 rfl rfl ?_
    (refine gW ?_; intros)
    exact ⟨congrArg (D.int .u64) (by omega), True.intro⟩
  · (refine gW ?_; intros)
    refine op_conv64 rfl rfl rfl rfl ?_
    (refine gW ?_; intros)
    exact ⟨congrArg (D.int .u64) (by omega), True.intro⟩
def stepM : Mem := ⟨[], [some (.box 272 [.fn (.func 237) [] [.ptr (.arg 0) 0 0 0]])]⟩
theorem step_ok : ∀ (y x : Nat), CallVC Tryz.prog 237 [.d (.int .u64 x), .d (.int .u64 y), .ptr (.arg 0) 0 0 0] ⟨[], [some (.box 272 [.fn (.func 237) [] [.ptr (.arg 0) 0 0 0]])]⟩
    (Ret (fun _ : Unit => ([.d (.int .u64 (Nat.gcd x y))], stepM)) fun _ => True) := by
  intro y
  induction y using Nat.strongRecOn with
  | ind y ih =>
  intro x
  refine call_rule hT (T := tab) (N := 15) (rs := [.tmp 5]) _ _ Tryz.func237 rfl rfl rfl (by kernel_rfl) rfl ?_
  by_cases h : y = 0
  · subst h
    (refine gW ?_; intros)
    exact ⟨(), True.intro, by rw [Nat.gcd_zero_right]; repeat' (first | exact True.intro | exact rfl | exact Nat.le_refl _ | refine And.intro ?_ ?_), rfl⟩
  · have hI := ih (x % y) (Nat.mod_lt _ (by omega)) y
    have hg : Nat.gcd y (x % y) = Nat.gcd x y := by rw [Nat.gcd_comm, ← Nat.gcd_rec, Nat.gcd_comm]
    rw [hg] at hI
    have hmd : ((x : Int).tmod (y : Int)) = ((x % y : Nat) : Int) := rfl
    (refine gS ?_; intros)
    refine Sq.go ?_
    (refine gS ?_; intros)
    refine Sq.go ?_
    (refine gS ?_; intros)
    refine Sq.alt (Awp.seq (Awp.eff1 hT (m0 := stepM) (m1 := stepM) (B1 := .d (.int .u64 (Nat.gcd x y))) (by kernel_rfl) (by kernel_rfl) (by kernel_rfl) 5 rfl rfl rfl rfl (by kernel_rfl) (fun r => .inl rfl) (fun r => .inl rfl) ?_))
    conv => whnf
    (refine gS ?_; intros)
    refine ⟨?_, Ev.mk (vc_ok hT _ _ _ _ (Ev.o ?_))⟩
    · conv => whnf
      (refine gS ?_; intros)
      rw [hmd]
      refine ⟨⟨_, [], [.ptr (.arg 0) 0 0 0], .inl rfl, hI.at [.arg 0] rfl ⟨rfl, True.intro⟩ (fun _ _ => ⟨rfl, ?_⟩)⟩⟩
      refine Ev.mk ?_
      conv => whnf
      exact ⟨rfl, rfl⟩
    · (refine gW ?_; intros)
      exact ⟨(), True.intro, by repeat' (first | exact True.intro | exact rfl | exact Nat.le_refl _ | refine And.intro ?_ ?_), rfl⟩
theorem common_ok (a b : Int) (ha : In .i64 a) (hb : In .i64 b) : Pure Tryz.prog 220 [.int .i64 a, .int .i64 b] [.int .u64 (Nat.gcd a.natAbs b.natAbs)] := by
  refine pure_rule hT (T := tab) (N := 13) (rs := [.tmp 4]) Tryz.func220 rfl rfl rfl (by kernel_rfl) rfl ?_
  have hA := size_ok a ha
  have hB := size_ok b hb
  have hC := step_ok b.natAbs a.natAbs
  (refine gS ?_; intros)
  refine Sq.go ?_
  (refine gS ?_; intros)
  refine Sq.go ?_
  (refine gS ?_; intros)
  refine Sq.alt (Awp.seq (Awp.eff1 hT (m0 := ⟨[some (.box 272 [.fn (.func 237) [] [.ptr (.loc 0) 0 0 0]])], []⟩) (m1 := ⟨[some (.box 272 [.fn (.func 237) [] [.ptr (.loc 0) 0 0 0]])], []⟩) (B1 := .d (.int .u64 (Nat.gcd a.natAbs b.natAbs))) (by kernel_rfl) (by kernel_rfl) (by kernel_rfl) 5 rfl rfl rfl rfl (by kernel_rfl) (fun r => .inl rfl) (fun r => .inl rfl) ?_))
  conv => whnf
  (refine gS ?_; intros)
  refine qC hA ?_
  (refine gS ?_; intros)
  refine qC hB ?_
  (refine gS ?_; intros)
  refine ⟨?_, Ev.mk (vc_ok hT _ _ _ _ (Ev.o ?_))⟩
  · conv => whnf
    (refine gS ?_; intros)
    refine ⟨⟨_, [], [.ptr (.loc 0) 0 0 0], .inl rfl, hC.at [.loc 0] rfl ⟨rfl, True.intro⟩ (fun _ _ => ⟨rfl, ?_⟩)⟩⟩
    refine Ev.mk ?_
    conv => whnf
    exact ⟨rfl, rfl⟩
  · (refine gW ?_; intros)
    exact ⟨rfl, True.intro⟩
theorem chk_ok (n d : Int) (hn : In .i64 n) (hd : In .i64 d) : Pure Tryz.prog 185 [.agg [.int .i64 n, .int .i64 d]] [.int .i64 (chkQ n d)] := by
  refine pure_rule hT (T := tab) (N := 29) (rs := [.tmp 2]) Tryz.func185 rfl rfl rfl (by kernel_rfl) rfl ?_
  have hC := common_ok n d hn hd
  unfold chkQ
  by_cases h1 : d < 1 ∨ 1073741824 < d ∨ n < -1073741824 ∨ 1073741824 < n
  · rw [if_pos (by omega)]
    (refine gW ?_; intros)
    exact ⟨rfl, True.intro⟩
  · by_cases h2 : Nat.gcd n.natAbs d.natAbs = 1
    · rw [if_neg (by omega)]
      have h3 : ((Nat.gcd n.natAbs d.natAbs : Nat) : Int) = 1 := by omega
      (refine gW ?_; intros)
      refine hC.call ?_
      (refine gW ?_; intros)
      exact ⟨rfl, True.intro⟩
    · rw [if_pos (by omega)]
      have h3 : ¬ ((Nat.gcd n.natAbs d.natAbs : Nat) : Int) = 1 := by omega
      (refine gW ?_; intros)
      refine hC.call ?_
      (refine gW ?_; intros)
      exact ⟨rfl, True.intro⟩
theorem rsize_ok (n : Int) (hn : In .i64 n) : Pure Tryz.prog 229 [.int .i64 n] [.int .u64 n.natAbs] := by
  refine pure_rule hT (T := tab) (N := 10) (rs := [.tmp 2]) Tryz.func229 rfl rfl rfl (by kernel_rfl) rfl ?_
  rw [in64] at hn
  by_cases h : n < 0
  · (refine gW ?_; intros)
    refine op_conv64 rfl rfl rfl rfl ?_
    (refine gW ?_; intros)
    refine op_neg64 rfl rfl ?_
    (refine gW ?_; intros)
    exact ⟨congrArg (D.int .u64) (by omega), True.intro⟩
  · (refine gW ?_; intros)
    refine op_conv64 rfl rfl rfl rfl ?_
    (refine gW ?_; intros)
    exact ⟨congrArg (D.int .u64) (by omega), True.intro⟩
theorem rcommon_ok (a b : Nat) : Pure Tryz.prog 228 [.int .u64 a, .int .u64 b] [.int .u64 (Nat.gcd a b)] := by
  refine pure_rule hT (T := tab) (N := 12) (rs := [.tmp 4]) Tryz.func228 rfl rfl rfl (by kernel_rfl) rfl ?_
  (refine gW ?_; intros)
  refine loop_rule hT (S := Nat × Nat) (fun z => ([(0, .d (.int .u64 z.1)), (1, .d (.int .u64 z.2))], ⟨[], []⟩)) (fun z => Nat.gcd a b = Nat.gcd z.1 z.2) (fun z => z.2) (a, b) ?_ ?_ ?_
  · repeat' (first | exact True.intro | exact rfl | exact Nat.le_refl _ | refine And.intro ?_ ?_)
  · exact rfl
  · rintro ⟨x, y⟩ hc
    dsimp only at hc ⊢
    by_cases h0 : y = 0
    · subst h0
      rw [Nat.gcd_zero_right] at hc
      rw [hc]
      (refine gW ?_; intros)
      exact ⟨rfl, True.intro⟩
    · have hmd : ((x : Int).tmod (y : Int)) = ((x % y : Nat) : Int) := rfl
      (refine gW ?_; intros)
      refine ⟨(y, x % y), ?_, Nat.mod_lt _ (by omega), ?_⟩
      · show _ = Nat.gcd y (x % y)
        rw [hc, Nat.gcd_comm y, ← Nat.gcd_rec, Nat.gcd_comm]
      · repeat' (first | exact True.intro | exact rfl | exact Nat.le_refl _ | refine And.intro ?_ ?_)
theorem rchk_ok (n d : Int) (hn : In .i64 n) (hd : In .i64 d) : Pure Tryz.prog 200 [.agg [.int .i64 n, .int .i64 d]] [.int .i64 (chkQ n d)] := by
  refine pure_rule hT (T := tab) (N := 31) (rs := [.tmp 2]) Tryz.func200 rfl rfl rfl (by kernel_rfl) rfl ?_
  have hA := rsize_ok n hn
  have hB := rsize_ok d hd
  have hC := rcommon_ok n.natAbs d.natAbs
  unfold chkQ
  by_cases h1 : d < 1 ∨ 1073741824 < d ∨ n < -1073741824 ∨ 1073741824 < n
  · rw [if_pos (by omega)]
    (refine gW ?_; intros)
    exact ⟨rfl, True.intro⟩
  · by_cases h2 : Nat.gcd n.natAbs d.natAbs = 1
    · rw [if_neg (by omega)]
      have h3 : ((Nat.gcd n.natAbs d.natAbs : Nat) : Int) = 1 := by omega
      (refine gW ?_; intros)
      refine qC hA ?_
      (refine gW ?_; intros)
      refine qC hB ?_
      (refine gW ?_; intros)
      refine qC hC ?_
      (refine gW ?_; intros)
      exact ⟨rfl, True.intro⟩
    · rw [if_pos (by omega)]
      have h3 : ¬ ((Nat.gcd n.natAbs d.natAbs : Nat) : Int) = 1 := by omega
      (refine gW ?_; intros)
      refine qC hA ?_
      (refine gW ?_; intros)
      refine qC hB ?_
      (refine gW ?_; intros)
      refine qC hC ?_
      (refine gW ?_; intros)
      exact ⟨rfl, True.intro⟩
end Go.Proofs.YtmlhghddfobmmaaGreatDoor
