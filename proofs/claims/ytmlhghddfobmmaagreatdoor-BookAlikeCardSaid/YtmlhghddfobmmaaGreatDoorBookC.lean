/-
  Chapter 14: which rules are valid, by the reference.
-/
import Derived.Test.YtmlhghddfobmmaaGreatDoorBookB
namespace Go.Proofs.YtmlhghddfobmmaaGreatDoor
set_option linter.unusedSimpArgs false
set_option linter.unusedVariables false
open Go Go.Ab
set_option maxRecDepth 100000
set_option maxHeartbeats 0
theorem ratom_ok (n : Int) : Pure Tryz.prog 240 [.int .i64 n] [.bool (bw n 5 9)] := by
  refine pure_rule hT (T := tab) (N := 9) (rs := [.tmp 2]) Tryz.func240 rfl rfl rfl (by kernel_rfl) rfl ?_
  by_cases h1 : 5 ≤ n <;> by_cases h2 : n ≤ 9 <;> ((refine gW ?_; intros)) <;> (refine ⟨congrArg D.bool ?_, True.intro⟩) <;> simp [bw, h1, h2]
theorem rcourse_ok (n : Int) : Pure Tryz.prog 241 [.int .i64 n] [.bool (crsOk n)] := by
  refine pure_rule hT (T := tab) (N := 9) (rs := [.tmp 2]) Tryz.func241 rfl rfl rfl (by kernel_rfl) rfl ?_
  by_cases h1 : 0 ≤ n <;> by_cases h2 : n < 4096 <;> ((refine gW ?_; intros)) <;> (refine ⟨congrArg D.bool ?_, True.intro⟩) <;> simp [crsOk, bw, h1, h2] <;> omega
theorem rmean12_ok (n d : Int) (hn : In .i64 n) (hd : In .i64 d) : Pure Tryz.prog 242 [.agg [.int .i64 n, .int .i64 d]] [.bool (meanQ n d)] := by
  refine pure_rule hT (T := tab) (N := 19) (rs := [.tmp 2]) Tryz.func242 rfl rfl rfl (by kernel_rfl) rfl ?_
  have hC := rchk_ok n d hn hd
  by_cases h0 : chkQ n d = 0
  · have h1 := chkQ_zero h0
    rw [h0] at hC
    have hM : meanQ n d = (decide (0 ≤ n) && decide (n ≤ 12 * d)) := by simp [meanQ, bw, h0]
    rw [hM]
    by_cases h2 : 0 ≤ n <;> by_cases h3 : n ≤ 12 * d
    · (refine gW ?_; intros)
      refine hC.call ?_
      (refine gW ?_; intros)
      refine ⟨congrArg D.bool ?_, True.intro⟩
      simp [h2, h3]
    · (refine gW ?_; intros)
      refine hC.call ?_
      (refine gW ?_; intros)
      refine ⟨congrArg D.bool ?_, True.intro⟩
      simp [h2, h3]
    · (refine gW ?_; intros)
      refine hC.call ?_
      (refine gW ?_; intros)
      refine ⟨congrArg D.bool ?_, True.intro⟩
      simp [h2, h3]
    · (refine gW ?_; intros)
      refine hC.call ?_
      (refine gW ?_; intros)
      refine ⟨congrArg D.bool ?_, True.intro⟩
      simp [h2, h3]
  · (refine gW ?_; intros)
    refine hC.call ?_
    (refine gW ?_; intros)
    refine ⟨congrArg D.bool ?_, True.intro⟩
    simp [meanQ, h0]
theorem parts12_ok : ∀ r : Rule, wfR r → cntR r ≤ 1000000 → Pure Tryz.prog 197 [.agg (eRule r)] [.int .i64 (cntR r)] := by
  refine rule_ind fun r ih hw hc => ?_
  obtain ⟨hw1, hw2⟩ := wfR_kids hw
  refine pure_rule hT (T := tab) (N := 21) (rs := [.tmp 2]) Tryz.func197 rfl rfl rfl (by kernel_rfl) rfl ?_
  rw [cntR_eq] at hc ⊢
  have hkey : ∀ ks : List Rule, (∀ k ∈ ks, cntR k ≤ cntRs ks) := by
    intro ks
    induction ks with
    | nil => intro k hk; simp at hk
    | cons x xs ihx =>
      intro k hk
      rw [cntRs_cons]
      rcases List.mem_cons.1 hk with rfl | hk
      · omega
      · have := ihx k hk; omega
  have happ : ∀ a b : List Rule, cntRs (a ++ b) = cntRs a + cntRs b := by
    intro a b
    induction a with
    | nil => rw [List.nil_append, cntRs_nil, Nat.zero_add]
    | cons x xs ihx => rw [List.cons_append, cntRs_cons, cntRs_cons, ihx, Nat.add_assoc]
  have hlk := hw1.2.2.2.2
  (refine gW ?_; intros)
  refine loop_rule hT (S := Nat) (fun k => ([(1, .ptr (.loc 0) 0 0 0), (3, .d (.int .i64 ((cntRs (r.kids.take k) + 1 : Nat) : Int))), (4, .d (.int .i64 k))], ⟨[some (.box 66 (up (eRule r)))], []⟩)) (fun k => k ≤ r.kids.length) (fun k => r.kids.length - k) 0 ?_ ?_ ?_
  · rw [List.take_zero, cntRs_nil]
    repeat' (first | exact True.intro | exact rfl | exact Nat.le_refl _ | refine And.intro ?_ ?_)
  · exact Nat.zero_le _
  · intro k hk
    dsimp only at hk ⊢
    have hsum : cntRs r.kids = cntRs (r.kids.take k) + cntRs (r.kids.drop k) := by rw [← happ, List.take_append_drop]
    by_cases hk2 : k < r.kids.length
    · have hne : r.kids ≠ [] := fun e => by rw [e] at hk2; exact absurd hk2 (Nat.not_lt_zero _)
      have hmem : r.kids.getD k default ∈ r.kids := getD_mem hk2
      have hck := hkey _ _ hmem
      have hI := ih _ hmem (hw2 _ hmem) (by omega)
      have hts : cntRs (r.kids.take (k + 1)) = cntRs (r.kids.take k) + cntR (r.kids.getD k default) := by
        have e : r.kids.take (k + 1) = r.kids.take k ++ [r.kids.getD k default] := by
          rw [List.take_add_one, List.getD_eq_getElem?_getD, List.getElem?_eq_getElem hk2]
          rfl
        rw [e, happ, cntRs_cons, cntRs_nil, Nat.add_zero]
      have hsum2 : cntRs r.kids = cntRs (r.kids.take (k + 1)) + cntRs (r.kids.drop (k + 1)) := by rw [← happ, List.take_append_drop]
      have hti : ((cntRs (r.kids.take (k + 1)) + 1 : Nat) : Int) = ((cntRs (r.kids.take k) + 1 : Nat) : Int) + (cntR (r.kids.getD k default) : Int) := by omega
      have er : eRule r = [.int .i64 r.op, .int .i64 r.course, .str r.name, .int .i64 r.n, .int .i64 r.d, .sl 6 r.kids.length fun i => eRule (r.kids.getD i default)] := by
        unfold eRule
        rw [eRules_ne hne]
        rfl
      rw [er]
      (refine gW ?_; intros)
      refine hI.call ?_
      (refine gW ?_; intros)
      refine ⟨k + 1, by show k + 1 ≤ r.kids.length; omega, by show r.kids.length - (k + 1) < r.kids.length - k; omega, ?_⟩
      dsimp only
      rw [hti]
      repeat' (first | exact True.intro | exact rfl | exact Nat.le_refl _ | refine And.intro ?_ ?_)
    · have e : r.kids.take k = r.kids := List.take_of_length_le (by omega)
      rw [e]
      (refine gW ?_; intros)
      exact ⟨rfl, True.intro⟩
theorem depth12_ok : ∀ r : Rule, wfR r → cntR r ≤ 1000000 → Pure Tryz.prog 198 [.agg (eRule r)] [.int .i64 (depR r)] := by
  have hdc : ∀ r : Rule, depR r ≤ cntR r := by
    refine rule_ind fun r ih => ?_
    have key : ∀ ks : List Rule, (∀ k ∈ ks, depR k ≤ cntR k) → depRs ks ≤ cntRs ks := by
      intro ks
      induction ks with
      | nil => intro _; rw [depRs_nil, cntRs_nil]; exact Nat.le_refl _
      | cons x xs ihx =>
        intro h
        have h1 := h x (by simp)
        have h2 := ihx fun k hk => h k (by simp [hk])
        rw [depRs_cons, cntRs_cons]
        omega
    have := key r.kids ih
    rw [depR_eq, cntR_eq]
    omega
  refine rule_ind fun r ih hw hc => ?_
  obtain ⟨hw1, hw2⟩ := wfR_kids hw
  refine pure_rule hT (T := tab) (N := 22) (rs := [.tmp 2]) Tryz.func198 rfl rfl rfl (by kernel_rfl) rfl ?_
  have hdr := hdc r
  rw [cntR_eq] at hc hdr
  rw [depR_eq] at hdr ⊢
  have hkey : ∀ ks : List Rule, (∀ k ∈ ks, cntR k ≤ cntRs ks ∧ depR k ≤ depRs ks) := by
    intro ks
    induction ks with
    | nil => intro k hk; simp at hk
    | cons x xs ihx =>
      intro k hk
      rw [cntRs_cons, depRs_cons]
      rcases List.mem_cons.1 hk with rfl | hk
      · omega
      · have := ihx k hk; omega
  have happ : ∀ a b : List Rule, depRs (a ++ b) = max (depRs a) (depRs b) := by
    intro a b
    induction a with
    | nil => rw [List.nil_append, depRs_nil, Nat.zero_max]
    | cons x xs ihx => rw [List.cons_append, depRs_cons, depRs_cons, ihx, Nat.max_assoc]
  have hlk := hw1.2.2.2.2
  (refine gW ?_; intros)
  refine loop_rule hT (S := Nat) (fun k => ([(1, .ptr (.loc 0) 0 0 0), (3, .d (.int .i64 ((depRs (r.kids.take k) : Nat) : Int))), (4, .d (.int .i64 k))], ⟨[some (.box 66 (up (eRule r)))], []⟩)) (fun k => k ≤ r.kids.length) (fun k => r.kids.length - k) 0 ?_ ?_ ?_
  · rw [List.take_zero, depRs_nil]
    repeat' (first | exact True.intro | exact rfl | exact Nat.le_refl _ | refine And.intro ?_ ?_)
  · exact Nat.zero_le _
  · intro k hk
    dsimp only at hk ⊢
    have hsum : depRs r.kids = max (depRs (r.kids.take k)) (depRs (r.kids.drop k)) := by rw [← happ, List.take_append_drop]
    by_cases hk2 : k < r.kids.length
    · have hne : r.kids ≠ [] := fun e => by rw [e] at hk2; exact absurd hk2 (Nat.not_lt_zero _)
      have hmem : r.kids.getD k default ∈ r.kids := getD_mem hk2
      have hck := hkey _ _ hmem
      have hI := ih _ hmem (hw2 _ hmem) (by omega)
      have hts : depRs (r.kids.take (k + 1)) = max (depRs (r.kids.take k)) (depR (r.kids.getD k default)) := by
        have e : r.kids.take (k + 1) = r.kids.take k ++ [r.kids.getD k default] := by
          rw [List.take_add_one, List.getD_eq_getElem?_getD, List.getElem?_eq_getElem hk2]
          rfl
        rw [e, happ, depRs_cons, depRs_nil, Nat.max_zero]
      have hti : ((depRs (r.kids.take (k + 1)) : Nat) : Int) = max ((depRs (r.kids.take k) : Nat) : Int) (depR (r.kids.getD k default) : Int) := by omega
      have er : eRule r = [.int .i64 r.op, .int .i64 r.course, .str r.name, .int .i64 r.n, .int .i64 r.d, .sl 6 r.kids.length fun i => eRule (r.kids.getD i default)] := by
        unfold eRule
        rw [eRules_ne hne]
        rfl
      rw [er]
      (refine gW ?_; intros)
      refine hI.call ?_
      (refine gW ?_; intros)
      refine ⟨k + 1, by show k + 1 ≤ r.kids.length; omega, by show r.kids.length - (k + 1) < r.kids.length - k; omega, ?_⟩
      dsimp only
      rw [hti, Int.max_def]
      repeat' (first | exact True.intro | exact rfl | exact Nat.le_refl _ | refine And.intro ?_ ?_)
    · have e : r.kids.take k = r.kids := List.take_of_length_le (by omega)
      rw [e]
      (refine gW ?_; intros)
      exact ⟨rfl, True.intro⟩
theorem rformed1_ok (r : Rule) (hI : In1 r) (ho : r.op = 1) : Pure Tryz.prog 227 [.agg (eRule r)] [.bool (formedR r)] := by
  have hA := ratom_ok 1
  have hB : bw 1 5 9 = false := rfl
  have hb : bw 1 1 9 = true := rfl
  have hb4 : bw 1 1 4 = !false := rfl
  have hke : r.kids.isEmpty = decide (r.kids.length = 0) := by cases r.kids <;> simp
  have hC := rcourse_ok r.course
  have hM := rmean12_ok r.n r.d hI.2.2.1 hI.2.2.2.1
  have hlk := hI.2.2.2.2
  rw [hB] at hA
  have hf : formedR r = (((false || decide (r.course = 0)) && ((false || decide (r.n = 0)) && ((false || decide (r.d = 0)) && ((!false || decide (r.kids.length = 0)) && true))))) := by
    unfold formedR
    rw [ho, hb, hb4, hke]
    simp [namedR, countR, rightR, ho]
  rw [hf]
  have eo : eRule r = [.int .i64 1, .int .i64 r.course, .str r.name, .int .i64 r.n, .int .i64 r.d, eRules r.kids] := by rw [eRule, ho]
  rw [eo]
  refine pure_rule hT (T := tab) (N := 152) (rs := [.tmp 2]) Tryz.func227 rfl rfl rfl (by kernel_rfl) rfl ?_
  ((refine xW ?_ ?_) <;> intros)
  refine hA.call ?_
  (refine gW ?_; intros)
  all_goals first
    | (refine ⟨congrArg D.bool ?_, True.intro⟩
       simp [bw]
       first | omega | (simp_all; fail) | (simp_all; omega) | grind
       done)
    | (refine ⟨congrArg D.bool ?_, True.intro⟩
       simp_all [bw]
       done)
    | (refine hC.call ?_
       (refine gW ?_; intros)
       refine ⟨congrArg D.bool ?_, True.intro⟩
       simp [bw]
       first | omega | (simp_all; fail) | (simp_all; omega) | grind
       done)
    | (refine hM.call ?_
       (refine gW ?_; intros)
       refine ⟨congrArg D.bool ?_, True.intro⟩
       simp [bw]
       first | omega | (simp_all; fail) | (simp_all; omega) | grind
       done)
theorem rformed2_ok (r : Rule) (hI : In1 r) (ho : r.op = 2) : Pure Tryz.prog 227 [.agg (eRule r)] [.bool (formedR r)] := by
  have hA := ratom_ok 2
  have hB : bw 2 5 9 = false := rfl
  have hb : bw 2 1 9 = true := rfl
  have hb4 : bw 2 1 4 = !false := rfl
  have hke : r.kids.isEmpty = decide (r.kids.length = 0) := by cases r.kids <;> simp
  have hC := rcourse_ok r.course
  have hM := rmean12_ok r.n r.d hI.2.2.1 hI.2.2.2.1
  have hlk := hI.2.2.2.2
  rw [hB] at hA
  have hf : formedR r = (((false || decide (r.course = 0)) && ((false || decide (r.n = 0)) && ((false || decide (r.d = 0)) && ((!false || decide (r.kids.length = 0)) && true))))) := by
    unfold formedR
    rw [ho, hb, hb4, hke]
    simp [namedR, countR, rightR, ho]
  rw [hf]
  have eo : eRule r = [.int .i64 2, .int .i64 r.course, .str r.name, .int .i64 r.n, .int .i64 r.d, eRules r.kids] := by rw [eRule, ho]
  rw [eo]
  refine pure_rule hT (T := tab) (N := 152) (rs := [.tmp 2]) Tryz.func227 rfl rfl rfl (by kernel_rfl) rfl ?_
  ((refine xW ?_ ?_) <;> intros)
  refine hA.call ?_
  (refine gW ?_; intros)
  all_goals first
    | (refine ⟨congrArg D.bool ?_, True.intro⟩
       simp [bw]
       first | omega | (simp_all; fail) | (simp_all; omega) | grind
       done)
    | (refine ⟨congrArg D.bool ?_, True.intro⟩
       simp_all [bw]
       done)
    | (refine hC.call ?_
       (refine gW ?_; intros)
       refine ⟨congrArg D.bool ?_, True.intro⟩
       simp [bw]
       first | omega | (simp_all; fail) | (simp_all; omega) | grind
       done)
    | (refine hM.call ?_
       (refine gW ?_; intros)
       refine ⟨congrArg D.bool ?_, True.intro⟩
       simp [bw]
       first | omega | (simp_all; fail) | (simp_all; omega) | grind
       done)
theorem rformed3_ok (r : Rule) (hI : In1 r) (ho : r.op = 3) : Pure Tryz.prog 227 [.agg (eRule r)] [.bool (formedR r)] := by
  have hA := ratom_ok 3
  have hB : bw 3 5 9 = false := rfl
  have hb : bw 3 1 9 = true := rfl
  have hb4 : bw 3 1 4 = !false := rfl
  have hke : r.kids.isEmpty = decide (r.kids.length = 0) := by cases r.kids <;> simp
  have hC := rcourse_ok r.course
  have hM := rmean12_ok r.n r.d hI.2.2.1 hI.2.2.2.1
  have hlk := hI.2.2.2.2
  rw [hB] at hA
  have hf : formedR r = (((false || decide (r.course = 0)) && ((true || decide (r.n = 0)) && ((false || decide (r.d = 0)) && ((!false || decide (r.kids.length = 0)) && bw r.n 0 200))))) := by
    unfold formedR
    rw [ho, hb, hb4, hke]
    simp [namedR, countR, rightR, ho]
  rw [hf]
  have eo : eRule r = [.int .i64 3, .int .i64 r.course, .str r.name, .int .i64 r.n, .int .i64 r.d, eRules r.kids] := by rw [eRule, ho]
  rw [eo]
  refine pure_rule hT (T := tab) (N := 152) (rs := [.tmp 2]) Tryz.func227 rfl rfl rfl (by kernel_rfl) rfl ?_
  repeat' (first | with_reducible refine Sq.go ?_ | ((with_reducible refine Ev.mk ?_); conv => whnf) | with_reducible refine Dr.mk ⟨by kernel_rfl, by kernel_rfl⟩ ?_ | with_reducible refine obG ?_ | with_reducible refine Ob.mk ?_ ?_ | (with_reducible first | refine brT fun h => ?_ | refine brF fun h => ?_ | refine Br.mk (fun h => ?_) fun h => ?_) <;> (try simp only [bsl, beq_iff_eq, bne_iff_ne, bs2] at h) <;> (try contradiction) <;> try (exfalso; omega))
  refine hA.call ?_
  ((refine xW ?_ ?_) <;> intros)
  all_goals first
    | (refine ⟨congrArg D.bool ?_, True.intro⟩
       simp [bw]
       first | omega | (simp_all; fail) | (simp_all; omega) | grind
       done)
    | (refine ⟨congrArg D.bool ?_, True.intro⟩
       simp_all [bw]
       done)
    | (refine hC.call ?_
       (refine gW ?_; intros)
       refine ⟨congrArg D.bool ?_, True.intro⟩
       simp [bw]
       first | omega | (simp_all; fail) | (simp_all; omega) | grind
       done)
    | (refine hM.call ?_
       (refine gW ?_; intros)
       refine ⟨congrArg D.bool ?_, True.intro⟩
       simp [bw]
       first | omega | (simp_all; fail) | (simp_all; omega) | grind
       done)
theorem rformed4_ok (r : Rule) (hI : In1 r) (ho : r.op = 4) : Pure Tryz.prog 227 [.agg (eRule r)] [.bool (formedR r)] := by
  have hA := ratom_ok 4
  have hB : bw 4 5 9 = false := rfl
  have hb : bw 4 1 9 = true := rfl
  have hb4 : bw 4 1 4 = !false := rfl
  have hke : r.kids.isEmpty = decide (r.kids.length = 0) := by cases r.kids <;> simp
  have hC := rcourse_ok r.course
  have hM := rmean12_ok r.n r.d hI.2.2.1 hI.2.2.2.1
  have hlk := hI.2.2.2.2
  rw [hB] at hA
  have hf : formedR r = (((false || decide (r.course = 0)) && ((false || decide (r.n = 0)) && ((false || decide (r.d = 0)) && ((!false || decide (r.kids.length = 0)) && decide (r.kids.length = 1)))))) := by
    unfold formedR
    rw [ho, hb, hb4, hke]
    simp [namedR, countR, rightR, ho]
  rw [hf]
  have eo : eRule r = [.int .i64 4, .int .i64 r.course, .str r.name, .int .i64 r.n, .int .i64 r.d, eRules r.kids] := by rw [eRule, ho]
  rw [eo]
  refine pure_rule hT (T := tab) (N := 152) (rs := [.tmp 2]) Tryz.func227 rfl rfl rfl (by kernel_rfl) rfl ?_
  ((refine xW ?_ ?_) <;> intros)
  refine hA.call ?_
  (refine gW ?_; intros)
  all_goals first
    | (refine ⟨congrArg D.bool ?_, True.intro⟩
       simp [bw]
       first | omega | (simp_all; fail) | (simp_all; omega) | grind
       done)
    | (refine ⟨congrArg D.bool ?_, True.intro⟩
       simp_all [bw]
       done)
    | (refine hC.call ?_
       (refine gW ?_; intros)
       refine ⟨congrArg D.bool ?_, True.intro⟩
       simp [bw]
       first | omega | (simp_all; fail) | (simp_all; omega) | grind
       done)
    | (refine hM.call ?_
       (refine gW ?_; intros)
       refine ⟨congrArg D.bool ?_, True.intro⟩
       simp [bw]
       first | omega | (simp_all; fail) | (simp_all; omega) | grind
       done)
theorem rformed5_ok (r : Rule) (hI : In1 r) (ho : r.op = 5) : Pure Tryz.prog 227 [.agg (eRule r)] [.bool (formedR r)] := by
  have hA := ratom_ok 5
  have hB : bw 5 5 9 = true := rfl
  have hb : bw 5 1 9 = true := rfl
  have hb4 : bw 5 1 4 = !true := rfl
  have hke : r.kids.isEmpty = decide (r.kids.length = 0) := by cases r.kids <;> simp
  have hC := rcourse_ok r.course
  have hM := rmean12_ok r.n r.d hI.2.2.1 hI.2.2.2.1
  have hlk := hI.2.2.2.2
  rw [hB] at hA
  have hf : formedR r = (((true || decide (r.course = 0)) && ((true || decide (r.n = 0)) && ((false || decide (r.d = 0)) && ((!true || decide (r.kids.length = 0)) && (crsOk r.course && bw r.n 0 12)))))) := by
    unfold formedR
    rw [ho, hb, hb4, hke]
    simp [namedR, countR, rightR, ho]
  rw [hf]
  have eo : eRule r = [.int .i64 5, .int .i64 r.course, .str r.name, .int .i64 r.n, .int .i64 r.d, eRules r.kids] := by rw [eRule, ho]
  rw [eo]
  refine pure_rule hT (T := tab) (N := 152) (rs := [.tmp 2]) Tryz.func227 rfl rfl rfl (by kernel_rfl) rfl ?_
  repeat' (first | with_reducible refine Sq.go ?_ | ((with_reducible refine Ev.mk ?_); conv => whnf) | with_reducible refine Dr.mk ⟨by kernel_rfl, by kernel_rfl⟩ ?_ | with_reducible refine obG ?_ | with_reducible refine Ob.mk ?_ ?_ | (with_reducible first | refine brT fun h => ?_ | refine brF fun h => ?_ | refine Br.mk (fun h => ?_) fun h => ?_) <;> (try simp only [bsl, beq_iff_eq, bne_iff_ne, bs2] at h) <;> (try contradiction) <;> try (exfalso; omega))
  refine hA.call ?_
  ((refine xW ?_ ?_) <;> intros)
  all_goals first
    | (refine ⟨congrArg D.bool ?_, True.intro⟩
       simp [bw]
       first | omega | (simp_all; fail) | (simp_all; omega) | grind
       done)
    | (refine ⟨congrArg D.bool ?_, True.intro⟩
       simp_all [bw]
       done)
    | (refine hC.call ?_
       (refine gW ?_; intros)
       refine ⟨congrArg D.bool ?_, True.intro⟩
       simp [bw]
       first | omega | (simp_all; fail) | (simp_all; omega) | grind
       done)
    | (refine hM.call ?_
       (refine gW ?_; intros)
       refine ⟨congrArg D.bool ?_, True.intro⟩
       simp [bw]
       first | omega | (simp_all; fail) | (simp_all; omega) | grind
       done)
theorem rformed6_ok (r : Rule) (hI : In1 r) (ho : r.op = 6) : Pure Tryz.prog 227 [.agg (eRule r)] [.bool (formedR r)] := by
  have hA := ratom_ok 6
  have hB : bw 6 5 9 = true := rfl
  have hb : bw 6 1 9 = true := rfl
  have hb4 : bw 6 1 4 = !true := rfl
  have hke : r.kids.isEmpty = decide (r.kids.length = 0) := by cases r.kids <;> simp
  have hC := rcourse_ok r.course
  have hM := rmean12_ok r.n r.d hI.2.2.1 hI.2.2.2.1
  have hlk := hI.2.2.2.2
  rw [hB] at hA
  have hf : formedR r = (((true || decide (r.course = 0)) && ((true || decide (r.n = 0)) && ((false || decide (r.d = 0)) && ((!true || decide (r.kids.length = 0)) && (crsOk r.course && bw r.n 1 100)))))) := by
    unfold formedR
    rw [ho, hb, hb4, hke]
    simp [namedR, countR, rightR, ho]
  rw [hf]
  have eo : eRule r = [.int .i64 6, .int .i64 r.course, .str r.name, .int .i64 r.n, .int .i64 r.d, eRules r.kids] := by rw [eRule, ho]
  rw [eo]
  refine pure_rule hT (T := tab) (N := 152) (rs := [.tmp 2]) Tryz.func227 rfl rfl rfl (by kernel_rfl) rfl ?_
  repeat' (first | with_reducible refine Sq.go ?_ | ((with_reducible refine Ev.mk ?_); conv => whnf) | with_reducible refine Dr.mk ⟨by kernel_rfl, by kernel_rfl⟩ ?_ | with_reducible refine obG ?_ | with_reducible refine Ob.mk ?_ ?_ | (with_reducible first | refine brT fun h => ?_ | refine brF fun h => ?_ | refine Br.mk (fun h => ?_) fun h => ?_) <;> (try simp only [bsl, beq_iff_eq, bne_iff_ne, bs2] at h) <;> (try contradiction) <;> try (exfalso; omega))
  refine hA.call ?_
  ((refine xW ?_ ?_) <;> intros)
  all_goals first
    | (refine ⟨congrArg D.bool ?_, True.intro⟩
       simp [bw]
       first | omega | (simp_all; fail) | (simp_all; omega) | grind
       done)
    | (refine ⟨congrArg D.bool ?_, True.intro⟩
       simp_all [bw]
       done)
    | (refine hC.call ?_
       (refine gW ?_; intros)
       refine ⟨congrArg D.bool ?_, True.intro⟩
       simp [bw]
       first | omega | (simp_all; fail) | (simp_all; omega) | grind
       done)
    | (refine hM.call ?_
       (refine gW ?_; intros)
       refine ⟨congrArg D.bool ?_, True.intro⟩
       simp [bw]
       first | omega | (simp_all; fail) | (simp_all; omega) | grind
       done)
theorem rformed7_ok (r : Rule) (hI : In1 r) (ho : r.op = 7) : Pure Tryz.prog 227 [.agg (eRule r)] [.bool (formedR r)] := by
  have hA := ratom_ok 7
  have hB : bw 7 5 9 = true := rfl
  have hb : bw 7 1 9 = true := rfl
  have hb4 : bw 7 1 4 = !true := rfl
  have hke : r.kids.isEmpty = decide (r.kids.length = 0) := by cases r.kids <;> simp
  have hC := rcourse_ok r.course
  have hM := rmean12_ok r.n r.d hI.2.2.1 hI.2.2.2.1
  have hlk := hI.2.2.2.2
  rw [hB] at hA
  have hf : formedR r = (((false || decide (r.course = 0)) && ((true || decide (r.n = 0)) && ((false || decide (r.d = 0)) && ((!true || decide (r.kids.length = 0)) && bw r.n 0 10000))))) := by
    unfold formedR
    rw [ho, hb, hb4, hke]
    simp [namedR, countR, rightR, ho]
  rw [hf]
  have eo : eRule r = [.int .i64 7, .int .i64 r.course, .str r.name, .int .i64 r.n, .int .i64 r.d, eRules r.kids] := by rw [eRule, ho]
  rw [eo]
  refine pure_rule hT (T := tab) (N := 152) (rs := [.tmp 2]) Tryz.func227 rfl rfl rfl (by kernel_rfl) rfl ?_
  repeat' (first | with_reducible refine Sq.go ?_ | ((with_reducible refine Ev.mk ?_); conv => whnf) | with_reducible refine Dr.mk ⟨by kernel_rfl, by kernel_rfl⟩ ?_ | with_reducible refine obG ?_ | with_reducible refine Ob.mk ?_ ?_ | (with_reducible first | refine brT fun h => ?_ | refine brF fun h => ?_ | refine Br.mk (fun h => ?_) fun h => ?_) <;> (try simp only [bsl, beq_iff_eq, bne_iff_ne, bs2] at h) <;> (try contradiction) <;> try (exfalso; omega))
  refine hA.call ?_
  ((refine xW ?_ ?_) <;> intros)
  all_goals first
    | (refine ⟨congrArg D.bool ?_, True.intro⟩
       simp [bw]
       first | omega | (simp_all; fail) | (simp_all; omega) | grind
       done)
    | (refine ⟨congrArg D.bool ?_, True.intro⟩
       simp_all [bw]
       done)
    | (refine hC.call ?_
       (refine gW ?_; intros)
       refine ⟨congrArg D.bool ?_, True.intro⟩
       simp [bw]
       first | omega | (simp_all; fail) | (simp_all; omega) | grind
       done)
    | (refine hM.call ?_
       (refine gW ?_; intros)
       refine ⟨congrArg D.bool ?_, True.intro⟩
       simp [bw]
       first | omega | (simp_all; fail) | (simp_all; omega) | grind
       done)
theorem rformed8_ok (r : Rule) (hI : In1 r) (ho : r.op = 8) : Pure Tryz.prog 227 [.agg (eRule r)] [.bool (formedR r)] := by
  have hA := ratom_ok 8
  have hB : bw 8 5 9 = true := rfl
  have hb : bw 8 1 9 = true := rfl
  have hb4 : bw 8 1 4 = !true := rfl
  have hke : r.kids.isEmpty = decide (r.kids.length = 0) := by cases r.kids <;> simp
  have hC := rcourse_ok r.course
  have hM := rmean12_ok r.n r.d hI.2.2.1 hI.2.2.2.1
  have hlk := hI.2.2.2.2
  rw [hB] at hA
  have hf : formedR r = (((false || decide (r.course = 0)) && ((true || decide (r.n = 0)) && ((true || decide (r.d = 0)) && ((!true || decide (r.kids.length = 0)) && meanQ r.n r.d))))) := by
    unfold formedR
    rw [ho, hb, hb4, hke]
    simp [namedR, countR, rightR, ho]
  rw [hf]
  have eo : eRule r = [.int .i64 8, .int .i64 r.course, .str r.name, .int .i64 r.n, .int .i64 r.d, eRules r.kids] := by rw [eRule, ho]
  rw [eo]
  refine pure_rule hT (T := tab) (N := 152) (rs := [.tmp 2]) Tryz.func227 rfl rfl rfl (by kernel_rfl) rfl ?_
  repeat' (first | with_reducible refine Sq.go ?_ | ((with_reducible refine Ev.mk ?_); conv => whnf) | with_reducible refine Dr.mk ⟨by kernel_rfl, by kernel_rfl⟩ ?_ | with_reducible refine obG ?_ | with_reducible refine Ob.mk ?_ ?_ | (with_reducible first | refine brT fun h => ?_ | refine brF fun h => ?_ | refine Br.mk (fun h => ?_) fun h => ?_) <;> (try simp only [bsl, beq_iff_eq, bne_iff_ne, bs2] at h) <;> (try contradiction) <;> try (exfalso; omega))
  refine hA.call ?_
  ((refine xW ?_ ?_) <;> intros)
  all_goals first
    | (refine ⟨congrArg D.bool ?_, True.intro⟩
       simp [bw]
       first | omega | (simp_all; fail) | (simp_all; omega) | grind
       done)
    | (refine ⟨congrArg D.bool ?_, True.intro⟩
       simp_all [bw]
       done)
    | (refine hC.call ?_
       (refine gW ?_; intros)
       refine ⟨congrArg D.bool ?_, True.intro⟩
       simp [bw]
       first | omega | (simp_all; fail) | (simp_all; omega) | grind
       done)
    | (refine hM.call ?_
       (refine gW ?_; intros)
       refine ⟨congrArg D.bool ?_, True.intro⟩
       simp [bw]
       first | omega | (simp_all; fail) | (simp_all; omega) | grind
       done)
theorem rformed9_ok (r : Rule) (hI : In1 r) (ho : r.op = 9) : Pure Tryz.prog 227 [.agg (eRule r)] [.bool (formedR r)] := by
  have hA := ratom_ok 9
  have hB : bw 9 5 9 = true := rfl
  have hb : bw 9 1 9 = true := rfl
  have hb4 : bw 9 1 4 = !true := rfl
  have hke : r.kids.isEmpty = decide (r.kids.length = 0) := by cases r.kids <;> simp
  have hC := rcourse_ok r.course
  have hM := rmean12_ok r.n r.d hI.2.2.1 hI.2.2.2.1
  have hlk := hI.2.2.2.2
  rw [hB] at hA
  have hf : formedR r = (((true || decide (r.course = 0)) && ((false || decide (r.n = 0)) && ((false || decide (r.d = 0)) && ((!true || decide (r.kids.length = 0)) && crsOk r.course))))) := by
    unfold formedR
    rw [ho, hb, hb4, hke]
    simp [namedR, countR, rightR, ho]
  rw [hf]
  have eo : eRule r = [.int .i64 9, .int .i64 r.course, .str r.name, .int .i64 r.n, .int .i64 r.d, eRules r.kids] := by rw [eRule, ho]
  rw [eo]
  refine pure_rule hT (T := tab) (N := 152) (rs := [.tmp 2]) Tryz.func227 rfl rfl rfl (by kernel_rfl) rfl ?_
  repeat' (first | with_reducible refine Sq.go ?_ | ((with_reducible refine Ev.mk ?_); conv => whnf) | with_reducible refine Dr.mk ⟨by kernel_rfl, by kernel_rfl⟩ ?_ | with_reducible refine obG ?_ | with_reducible refine Ob.mk ?_ ?_ | (with_reducible first | refine brT fun h => ?_ | refine brF fun h => ?_ | refine Br.mk (fun h => ?_) fun h => ?_) <;> (try simp only [bsl, beq_iff_eq, bne_iff_ne, bs2] at h) <;> (try contradiction) <;> try (exfalso; omega))
  refine hA.call ?_
  ((refine xW ?_ ?_) <;> intros)
  all_goals first
    | (refine ⟨congrArg D.bool ?_, True.intro⟩
       simp [bw]
       first | omega | (simp_all; fail) | (simp_all; omega) | grind
       done)
    | (refine ⟨congrArg D.bool ?_, True.intro⟩
       simp_all [bw]
       done)
    | (refine hC.call ?_
       (refine gW ?_; intros)
       refine ⟨congrArg D.bool ?_, True.intro⟩
       simp [bw]
       first | omega | (simp_all; fail) | (simp_all; omega) | grind
       done)
    | (refine hM.call ?_
       (refine gW ?_; intros)
       refine ⟨congrArg D.bool ?_, True.intro⟩
       simp [bw]
       first | omega | (simp_all; fail) | (simp_all; omega) | grind
       done)
end Go.Proofs.YtmlhghddfobmmaaGreatDoor
