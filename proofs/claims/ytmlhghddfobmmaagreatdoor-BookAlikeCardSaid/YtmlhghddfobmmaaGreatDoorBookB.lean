/-
  Chapter 14: which definitions are valid, by the program.
-/
import Derived.Test.YtmlhghddfobmmaaGreatDoorBookA
namespace Go.Proofs.YtmlhghddfobmmaaGreatDoor
set_option linter.unusedSimpArgs false
set_option linter.unusedVariables false
open Go Go.Ab
set_option maxRecDepth 100000
set_option maxHeartbeats 0
theorem in_ok (n lo hi : Int) : Pure Tryz.prog 74 [.int .i64 n, .int .i64 lo, .int .i64 hi] [.bool (bw n lo hi)] := by
  refine pure_rule hT (T := tab) (N := 15) (rs := [.tmp 6]) Tryz.func74 rfl rfl rfl (by kernel_rfl) rfl ?_
  by_cases h1 : lo ≤ n <;> by_cases h2 : n ≤ hi <;> ((refine gW ?_; intros)) <;> (refine ⟨congrArg D.bool ?_, True.intro⟩) <;> simp [bw, h1, h2]
theorem isMean_ok (n d : Int) (hn : In .i64 n) (hd : In .i64 d) : Pure Tryz.prog 147 [.agg [.int .i64 n, .int .i64 d]] [.bool (meanQ n d)] := by
  refine pure_rule hT (T := tab) (N := 14) (rs := [.tmp 2]) Tryz.func147 rfl rfl rfl (by kernel_rfl) rfl ?_
  have hC := chk_ok n d hn hd
  by_cases h0 : chkQ n d = 0
  · have h1 := chkQ_zero h0
    rw [h0] at hC
    have hM : meanQ n d = bw n 0 (12 * d) := by simp [meanQ, h0]
    rw [hM]
    (refine gW ?_; intros)
    refine hC.call ?_
    (refine gW ?_; intros)
    refine (in_ok n 0 (12 * d)).call ?_
    (refine gW ?_; intros)
    exact ⟨rfl, True.intro⟩
  · (refine gW ?_; intros)
    refine hC.call ?_
    (refine gW ?_; intros)
    refine ⟨congrArg D.bool ?_, True.intro⟩
    simp [meanQ, h0]
theorem chkR_or (r : Rule) : chkR r = 0 ∨ chkR r = 120 := by
  unfold chkR
  split
  · exact .inl rfl
  · exact .inr rfl
def okR (r : Rule) : Bool := decide (chkR r = 0)
def vCrs (c : Crs) : Bool := bw c.number 0 4095 && (bw c.credits 1 60 && (bw c.rep 0 2 && (okR c.need && okR c.bar)))
def wfCrs (c : Crs) : Prop := wfR c.need ∧ wfR c.bar
theorem validCourse_ok (c : Crs) (hw : wfCrs c) : Pure Tryz.prog 88 [.agg (eCrs c)] [.bool (vCrs c)] := by
  have hA := in_ok c.number 0 4095
  have hB := in_ok c.credits 1 60
  have hC := in_ok c.rep 0 2
  have hD := check_ok c.need hw.1
  have hE := check_ok c.bar hw.2
  unfold vCrs okR
  refine pure_rule hT (T := tab) (N := 28) (rs := [.tmp 2]) Tryz.func88 rfl rfl rfl (by kernel_rfl) rfl ?_
  cases h1 : bw c.number 0 4095 <;> rw [h1] at hA
  · (refine gW ?_; intros)
    refine hA.call ?_
    (refine gW ?_; intros)
    exact ⟨rfl, True.intro⟩
  cases h2 : bw c.credits 1 60 <;> rw [h2] at hB
  · (refine gW ?_; intros)
    refine hA.call ?_
    (refine gW ?_; intros)
    refine hB.call ?_
    (refine gW ?_; intros)
    exact ⟨rfl, True.intro⟩
  cases h3 : bw c.rep 0 2 <;> rw [h3] at hC
  · (refine gW ?_; intros)
    refine hA.call ?_
    (refine gW ?_; intros)
    refine hB.call ?_
    (refine gW ?_; intros)
    refine hC.call ?_
    (refine gW ?_; intros)
    exact ⟨rfl, True.intro⟩
  rcases chkR_or c.need with h4 | h4 <;> rw [h4] at hD ⊢
  · rcases chkR_or c.bar with h5 | h5 <;> rw [h5] at hE ⊢
    · (refine gW ?_; intros)
      refine hA.call ?_
      (refine gW ?_; intros)
      refine hB.call ?_
      (refine gW ?_; intros)
      refine hC.call ?_
      (refine gW ?_; intros)
      refine hD.call ?_
      (refine gW ?_; intros)
      refine hE.call ?_
      (refine gW ?_; intros)
      exact ⟨rfl, True.intro⟩
    · (refine gW ?_; intros)
      refine hA.call ?_
      (refine gW ?_; intros)
      refine hB.call ?_
      (refine gW ?_; intros)
      refine hC.call ?_
      (refine gW ?_; intros)
      refine hD.call ?_
      (refine gW ?_; intros)
      refine hE.call ?_
      (refine gW ?_; intros)
      exact ⟨rfl, True.intro⟩
  · (refine gW ?_; intros)
    refine hA.call ?_
    (refine gW ?_; intros)
    refine hB.call ?_
    (refine gW ?_; intros)
    refine hC.call ?_
    (refine gW ?_; intros)
    refine hD.call ?_
    (refine gW ?_; intros)
    exact ⟨rfl, True.intro⟩
def vNum (n : Int) : Bool := bw n 0 4095
theorem validNum_ok (n : Int) : Pure Tryz.prog 188 [.int .i64 n] [.bool (vNum n)] := by
  refine pure_rule hT (T := tab) (N := 5) (rs := [.tmp 2]) Tryz.func188 rfl rfl rfl (by kernel_rfl) rfl ?_
  (refine gW ?_; intros)
  refine (in_ok n 0 4095).call ?_
  (refine gW ?_; intros)
  exact ⟨rfl, True.intro⟩
def vReq (q : Req) : Bool := bw q.credits 1 10000 && (bw q.grade 0 12 && q.fr.all vNum)
theorem validReq_ok (q : Req) (hf : fitL q.fr) : Pure Tryz.prog 149 [.agg (eReq q)] [.bool (vReq q)] := by
  have hA := in_ok q.credits 1 10000
  have hB := in_ok q.grade 0 12
  have hC := allNum_ok q.fr hf 188 vNum fun s _ => validNum_ok s
  unfold vReq
  refine pure_rule hT (T := tab) (N := 18) (rs := [.tmp 2]) Tryz.func149 rfl rfl rfl (by kernel_rfl) rfl ?_
  cases h1 : bw q.credits 1 10000 <;> rw [h1] at hA
  · (refine gW ?_; intros)
    refine hA.call ?_
    (refine gW ?_; intros)
    exact ⟨rfl, True.intro⟩
  cases h2 : bw q.grade 0 12 <;> rw [h2] at hB
  · (refine gW ?_; intros)
    refine hA.call ?_
    (refine gW ?_; intros)
    refine hB.call ?_
    (refine gW ?_; intros)
    exact ⟨rfl, True.intro⟩
  (refine gW ?_; intros)
  refine hA.call ?_
  (refine gW ?_; intros)
  refine hB.call ?_
  (refine gW ?_; intros)
  refine hC.call ?_
  (refine gW ?_; intros)
  exact ⟨rfl, True.intro⟩
/-- What is asked of a programme's fields for the walk. -/
def wfPrg (p : Prg) : Prop := In .i64 p.mn ∧ In .i64 p.md ∧ fitL p.reqs ∧ ∀ q ∈ p.reqs, fitL q.fr
def vPrg (p : Prg) : Bool := bw p.number 0 255 && (bw p.uses 1 4 && (bw p.earn 0 10000 && (meanQ p.mn p.md && (decide (p.reqs.length ≤ 64) && p.reqs.all vReq))))
theorem validPrg_ok (p : Prg) (hw : wfPrg p) : Pure Tryz.prog 90 [.agg (ePrg p)] [.bool (vPrg p)] := by
  have hA := in_ok p.number 0 255
  have hB := in_ok p.uses 1 4
  have hC := in_ok p.earn 0 10000
  have hD := isMean_ok p.mn p.md hw.1 hw.2.1
  have hE := allReq_ok p.reqs hw.2.2.1 149 vReq fun q hq => validReq_ok q (hw.2.2.2 q hq)
  unfold vPrg
  refine pure_rule hT (T := tab) (N := 32) (rs := [.tmp 2]) Tryz.func90 rfl rfl rfl (by kernel_rfl) rfl ?_
  cases h1 : bw p.number 0 255 <;> rw [h1] at hA
  · (refine gW ?_; intros)
    refine hA.call ?_
    (refine gW ?_; intros)
    exact ⟨rfl, True.intro⟩
  cases h2 : bw p.uses 1 4 <;> rw [h2] at hB
  · (refine gW ?_; intros)
    refine hA.call ?_
    (refine gW ?_; intros)
    refine hB.call ?_
    (refine gW ?_; intros)
    exact ⟨rfl, True.intro⟩
  cases h3 : bw p.earn 0 10000 <;> rw [h3] at hC
  · (refine gW ?_; intros)
    refine hA.call ?_
    (refine gW ?_; intros)
    refine hB.call ?_
    (refine gW ?_; intros)
    refine hC.call ?_
    (refine gW ?_; intros)
    exact ⟨rfl, True.intro⟩
  cases h4 : meanQ p.mn p.md <;> rw [h4] at hD
  · (refine gW ?_; intros)
    refine hA.call ?_
    (refine gW ?_; intros)
    refine hB.call ?_
    (refine gW ?_; intros)
    refine hC.call ?_
    (refine gW ?_; intros)
    refine hD.call ?_
    (refine gW ?_; intros)
    exact ⟨rfl, True.intro⟩
  have hfl : p.reqs.length ≤ 9223372036854775807 := hw.2.2.1
  by_cases h5 : p.reqs.length ≤ 64
  · rw [decide_eq_true h5]
    have h6 : ((p.reqs.length : Nat) : Int) ≤ 64 := by omega
    (refine gW ?_; intros)
    refine hA.call ?_
    (refine gW ?_; intros)
    refine hB.call ?_
    (refine gW ?_; intros)
    refine hC.call ?_
    (refine gW ?_; intros)
    refine hD.call ?_
    (refine gW ?_; intros)
    refine hE.call ?_
    (refine gW ?_; intros)
    refine ⟨congrArg D.bool ?_, True.intro⟩
    simp [h6]
  · rw [decide_eq_false h5]
    have h6 : ¬ ((p.reqs.length : Nat) : Int) ≤ 64 := by omega
    (refine gW ?_; intros)
    refine hA.call ?_
    (refine gW ?_; intros)
    refine hB.call ?_
    (refine gW ?_; intros)
    refine hC.call ?_
    (refine gW ?_; intros)
    refine hD.call ?_
    (refine gW ?_; intros)
    refine ⟨congrArg D.bool ?_, True.intro⟩
    simp [h6]
def vCls (x : Cls) : Bool := bw x.earn 0 10000 && meanQ x.mn x.md
def vFee (x : Fee) : Bool := bw x.credits 0 10000
def vCla (x : Cla) : Bool := bw x.kind 1 5 && (bw x.whn 0 2 && (bw x.action 1 3 && bw x.til 0 12))
theorem validFee_ok (x : Fee) : Pure Tryz.prog 153 [.agg (eFee x)] [.bool (vFee x)] := by
  refine pure_rule hT (T := tab) (N := 6) (rs := [.tmp 2]) Tryz.func153 rfl rfl rfl (by kernel_rfl) rfl ?_
  (refine gW ?_; intros)
  refine (in_ok x.credits 0 10000).call ?_
  (refine gW ?_; intros)
  exact ⟨rfl, True.intro⟩
theorem validCls_ok (x : Cls) (hn : In .i64 x.mn) (hd : In .i64 x.md) : Pure Tryz.prog 152 [.agg (eCls x)] [.bool (vCls x)] := by
  have hA := in_ok x.earn 0 10000
  have hD := isMean_ok x.mn x.md hn hd
  unfold vCls
  refine pure_rule hT (T := tab) (N := 11) (rs := [.tmp 2]) Tryz.func152 rfl rfl rfl (by kernel_rfl) rfl ?_
  cases h1 : bw x.earn 0 10000 <;> rw [h1] at hA
  · (refine gW ?_; intros)
    refine hA.call ?_
    (refine gW ?_; intros)
    exact ⟨rfl, True.intro⟩
  · (refine gW ?_; intros)
    refine hA.call ?_
    (refine gW ?_; intros)
    refine hD.call ?_
    (refine gW ?_; intros)
    exact ⟨rfl, True.intro⟩
theorem validCla_ok (x : Cla) : Pure Tryz.prog 154 [.agg (eCla x)] [.bool (vCla x)] := by
  have hA := in_ok x.kind 1 5
  have hB := in_ok x.whn 0 2
  have hC := in_ok x.action 1 3
  have hD := in_ok x.til 0 12
  unfold vCla
  refine pure_rule hT (T := tab) (N := 21) (rs := [.tmp 2]) Tryz.func154 rfl rfl rfl (by kernel_rfl) rfl ?_
  cases h1 : bw x.kind 1 5 <;> rw [h1] at hA
  · (refine gW ?_; intros)
    refine hA.call ?_
    (refine gW ?_; intros)
    exact ⟨rfl, True.intro⟩
  cases h2 : bw x.whn 0 2 <;> rw [h2] at hB
  · (refine gW ?_; intros)
    refine hA.call ?_
    (refine gW ?_; intros)
    refine hB.call ?_
    (refine gW ?_; intros)
    exact ⟨rfl, True.intro⟩
  cases h3 : bw x.action 1 3 <;> rw [h3] at hC
  · (refine gW ?_; intros)
    refine hA.call ?_
    (refine gW ?_; intros)
    refine hB.call ?_
    (refine gW ?_; intros)
    refine hC.call ?_
    (refine gW ?_; intros)
    exact ⟨rfl, True.intro⟩
  (refine gW ?_; intros)
  refine hA.call ?_
  (refine gW ?_; intros)
  refine hB.call ?_
  (refine gW ?_; intros)
  refine hC.call ?_
  (refine gW ?_; intros)
  refine hD.call ?_
  (refine gW ?_; intros)
  exact ⟨rfl, True.intro⟩
def wfCls (x : Cls) : Prop := In .i64 x.mn ∧ In .i64 x.md
def wfSys (s : Sys) : Prop := (fitL s.classes ∧ ∀ x ∈ s.classes, wfCls x) ∧ (fitL s.honours ∧ ∀ x ∈ s.honours, wfCls x) ∧ fitL s.fees ∧ fitL s.clauses
def vSys (s : Sys) : Bool := s.classes.all vCls && (s.honours.all vCls && (s.fees.all vFee && s.clauses.all vCla))
theorem validSys_ok (s : Sys) (hw : wfSys s) : Pure Tryz.prog 92 [.agg (eSys s)] [.bool (vSys s)] := by
  have hA := allCls_ok s.classes hw.1.1 152 vCls fun x hx => validCls_ok x (hw.1.2 x hx).1 (hw.1.2 x hx).2
  have hB := allCls_ok s.honours hw.2.1.1 152 vCls fun x hx => validCls_ok x (hw.2.1.2 x hx).1 (hw.2.1.2 x hx).2
  have hC := allFee_ok s.fees hw.2.2.1 153 vFee fun x hx => validFee_ok x
  have hD := allCla_ok s.clauses hw.2.2.2 154 vCla fun x hx => validCla_ok x
  unfold vSys
  refine pure_rule hT (T := tab) (N := 28) (rs := [.tmp 2]) Tryz.func92 rfl rfl rfl (by kernel_rfl) rfl ?_
  cases h1 : s.classes.all vCls <;> rw [h1] at hA
  · (refine gW ?_; intros)
    refine hA.call ?_
    (refine gW ?_; intros)
    exact ⟨rfl, True.intro⟩
  cases h2 : s.honours.all vCls <;> rw [h2] at hB
  · (refine gW ?_; intros)
    refine hA.call ?_
    (refine gW ?_; intros)
    refine hB.call ?_
    (refine gW ?_; intros)
    exact ⟨rfl, True.intro⟩
  cases h3 : s.fees.all vFee <;> rw [h3] at hC
  · (refine gW ?_; intros)
    refine hA.call ?_
    (refine gW ?_; intros)
    refine hB.call ?_
    (refine gW ?_; intros)
    refine hC.call ?_
    (refine gW ?_; intros)
    exact ⟨rfl, True.intro⟩
  (refine gW ?_; intros)
  refine hA.call ?_
  (refine gW ?_; intros)
  refine hB.call ?_
  (refine gW ?_; intros)
  refine hC.call ?_
  (refine gW ?_; intros)
  refine hD.call ?_
  (refine gW ?_; intros)
  exact ⟨rfl, True.intro⟩
/-- A book. -/
structure Bok where
  crs : List Crs
  prg : List Prg
  sys : List Sys
  deriving Inhabited
def eBok (b : Bok) : List D := [eCrss b.crs, ePrgs b.prg, eSyss b.sys]
def wfBok (b : Bok) : Prop := (fitL b.crs ∧ ∀ c ∈ b.crs, wfCrs c) ∧ (fitL b.prg ∧ ∀ p ∈ b.prg, wfPrg p) ∧ fitL b.sys ∧ ∀ s ∈ b.sys, wfSys s
def chkB (b : Bok) : Int := if b.crs.all vCrs && (b.prg.all vPrg && b.sys.all vSys) then 0 else 140
theorem bcheck_ok (b : Bok) (hw : wfBok b) : Pure Tryz.prog 19 [.agg (eBok b)] [.int .i64 (chkB b)] := by
  have hA := allCrs_ok b.crs hw.1.1 88 vCrs fun x hx => validCourse_ok x (hw.1.2 x hx)
  have hB := allPrg_ok b.prg hw.2.1.1 90 vPrg fun x hx => validPrg_ok x (hw.2.1.2 x hx)
  have hC := allSys_ok b.sys hw.2.2.1 92 vSys fun x hx => validSys_ok x (hw.2.2.2 x hx)
  unfold chkB
  refine pure_rule hT (T := tab) (N := 19) (rs := [.tmp 2]) Tryz.func19 rfl rfl rfl (by kernel_rfl) rfl ?_
  cases h1 : b.crs.all vCrs <;> rw [h1] at hA
  · (refine gW ?_; intros)
    refine hA.call ?_
    (refine gW ?_; intros)
    exact ⟨rfl, True.intro⟩
  cases h2 : b.prg.all vPrg <;> rw [h2] at hB
  · (refine gW ?_; intros)
    refine hA.call ?_
    (refine gW ?_; intros)
    refine hB.call ?_
    (refine gW ?_; intros)
    exact ⟨rfl, True.intro⟩
  cases h3 : b.sys.all vSys <;> rw [h3] at hC
  · (refine gW ?_; intros)
    refine hA.call ?_
    (refine gW ?_; intros)
    refine hB.call ?_
    (refine gW ?_; intros)
    refine hC.call ?_
    (refine gW ?_; intros)
    exact ⟨rfl, True.intro⟩
  · (refine gW ?_; intros)
    refine hA.call ?_
    (refine gW ?_; intros)
    refine hB.call ?_
    (refine gW ?_; intros)
    refine hC.call ?_
    (refine gW ?_; intros)
    exact ⟨rfl, True.intro⟩
end Go.Proofs.YtmlhghddfobmmaaGreatDoor
