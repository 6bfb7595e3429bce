/-
  Bundles: parts, Meetings.
-/
import Derived.Test.YteamiepijajjdaaDoorBunB
namespace Go.Proofs.YteamiepijajjdaaDoor
set_option linter.unusedSimpArgs false
set_option linter.unusedVariables false
open Go Go.Ab
set_option maxRecDepth 100000
set_option maxHeartbeats 0
/-- A valid bundle: its section, and its lab, if there is one. -/
inductive Parts (l : List Sec) (b : Bun) : List Sec → Prop where
  | one {s : Sec} (h1 : findS l b.sec = some s) (h2 : s.lab = false) (h3 : s.labs = []) (h4 : b.lab = -1) (h5 : findS l b.lab = none) : Parts l b [s]
  | two {s x : Sec} (h1 : findS l b.sec = some s) (h2 : s.lab = false) (h3 : findS l b.lab = some x) (h4 : b.lab ≠ -1) (h5 : labOk s x b.lab = true) (h6 : clashB s.meets x.meets = false) : Parts l b [s, x]
theorem chk_id {l : List Sec} (h : chkAll l = 0) {s : Sec} (hs : s ∈ l) : formed s = true ∧ mcheck s.meets = 0 := by
  unfold chkAll at h
  split at h
  · rename_i h0
    exact chkS_ok (chkE_at h0 s hs)
  · rename_i h0; exact absurd h h0
theorem parts_of {l : List Sec} {b : Bun} (h : bchk l b = 0) : chkAll l = 0 ∧ ∃ ps, Parts l b ps := by
  unfold bchk at h
  by_cases h0 : chkAll l = 0
  · refine ⟨h0, ?_⟩
    rw [if_pos h0] at h
    cases h1 : findS l b.sec with
    | none => rw [h1] at h; cases h
    | some s =>
      rw [h1] at h
      simp only at h
      by_cases hl : s.lab = true
      · rw [if_pos hl] at h; cases h
      · rw [if_neg hl] at h
        have hl' : s.lab = false := by simpa using hl
        have hneg : ∀ y, findS l b.lab = some y → b.lab ≠ -1 := fun y hy e => by
          obtain ⟨e1, e2⟩ := findS_id hy
          have := (formed_id (chk_id h0 e2).1).1
          omega
        by_cases hn : s.labs.length = 0 ∧ b.lab = -1
        · refine ⟨[s], .one h1 hl' (List.length_eq_zero_iff.1 hn.1) hn.2 ?_⟩
          cases h2 : findS l b.lab with
          | none => rfl
          | some y => exact absurd hn.2 (hneg y h2)
        · rw [if_neg hn] at h
          cases h2 : findS l b.lab with
          | none => rw [h2] at h; cases h
          | some x =>
            rw [h2] at h
            simp only at h
            by_cases hk : labOk s x b.lab = true
            · rw [if_pos hk] at h
              cases hc : clashB s.meets x.meets with
              | true => rw [hc] at h; cases h
              | false => exact ⟨[s, x], .two h1 hl' h2 (hneg x h2) hk hc⟩
            · rw [if_neg hk] at h; cases h
  · rw [if_neg h0] at h; exact absurd h h0
theorem Parts.uniq {l : List Sec} {b : Bun} {p q : List Sec} (h : Parts l b p) (k : Parts l b q) : p = q := by
  cases h with
  | one a1 a2 a3 a4 a5 => cases k with
    | one b1 b2 b3 b4 b5 => rw [a1] at b1; cases b1; rfl
    | two b1 b2 b3 b4 b5 b6 => exact absurd a4 b4
  | two a1 a2 a3 a4 a5 a6 => cases k with
    | one b1 b2 b3 b4 b5 => exact absurd b4 a4
    | two b1 b2 b3 b4 b5 b6 => rw [a1] at b1; cases b1; rw [a3] at b3; cases b3; rfl
theorem parts_ok (l : List Sec) (b : Bun) : CallVC Tryd.prog 30 [.d (eSecs l), .d (.agg (eBun b))] ⟨[], []⟩
    (Ret (fun _ : Unit => ([.fn (.func 52) [] [.ptr (.loc 1) 0 0 0, .ptr (.loc 0) 0 0 0]], ⟨[some (.box 22 [.d (eSecs l)]), some (.box 24 (up (eBun b)))], []⟩)) fun _ => True) := by
  refine call_rule hT (T := tab) (N := 6) (rs := [.tmp 4]) _ _ Tryd.func30 rfl rfl rfl (by kernel_rfl) rfl ?_
  repeat' (first | (with_reducible refine Sq.go ?_) | ((with_reducible refine Ev.mk ?_); conv => whnf) | (with_reducible refine Dr.mk ⟨by kernel_rfl, by kernel_rfl⟩ ?_) | ((with_reducible refine Ob.mk (by (first | exact rfl | assumption | omega | (intro h0; simp only [h0]; with_unfolding_all exact rfl) | (intro h1 h0; simp only [h0]; with_unfolding_all exact rfl) | (intros; first | assumption | (with_unfolding_all exact rfl) | omega | (simp only [oadd_eq, Int.toNat_natCast] <;> omega) | (simp only [in64, List.length_nil, List.length_cons] <;> omega) | (simp only [bsl, beq_iff_eq, bne_iff_ne, in64] at * <;> omega) | ((try simp only [Int.toNat_natCast]); exact Nat.le_trans (Nat.mul_le_mul_right _ (show _ ≤ 2000000 by omega)) (by with_unfolding_all decide)) | (simp_all; done)))) ?_)) | (with_reducible refine Ob.mk ?_ ?_) | ((with_reducible refine Br.mk (fun h => ?_) (fun h => ?_)) <;> (try simp only [bsl, beq_iff_eq, bne_iff_ne] at h) <;> (try simp only [not_true_eq_false, not_false_eq_true, false_or, or_false, true_and, and_true] at h) <;> (try exact absurd h (by decide)) <;> (try contradiction) <;> (try (exfalso; omega)) <;> (try (simp only [not_true_eq_false, or_self, eq_self, not_false_eq_true, Int.reduceEq, reduceCtorEq] at h; done))))
  exact ⟨(), True.intro, by repeat' (first | exact True.intro | exact rfl | exact Nat.le_refl _ | refine And.intro ?_ ?_), rfl⟩
/-- The rounds over the sections of a bundle, as long as they go on. -/
def visit {S : Type} (cont : S → Bool) (step : S → Sec → S) : List Sec → S → S
  | [], s => s
  | x :: r, s => if cont (step s x) = true then visit cont step r (step s x) else step s x
theorem parts1M_ok (rec : Loop) (y : Nat) (l : List Sec) (hl : fewS l) (h0 : chkAll l = 0) (b : Bun) {ps : List Sec} (hp : Parts l b ps) (s0 : (List Meet × Nat)) (step : (List Meet × Nat) → Sec → (List Meet × Nat)) (cont : (List Meet × Nat) → Bool) (hgo : cont s0 = true)
    (hy : ∀ s : (List Meet × Nat), (s = s0 ∨ ∃ z ∈ ps, s = step s0 z) → cont s = true → ∀ x ∈ ps, YieldVC Tryd.prog y [.d (.agg (eSec x))] ⟨[], [some (.box 22 [.d (eSecs l)]), some (.box 24 (up (eBun b))), some (.box 30 [.osl (.arg 3) s.2 0 s.1.length]), some (.vec 65 5 s.2 s.1.length fun i => up (eMeet (s.1.getD i default))), some (.loop y rec [(4, .ptr (.arg 2) 0 0 0)])]⟩
      (Ret (fun s : (List Meet × Nat) => ([.d (.bool (cont s))], ⟨[], [some (.box 22 [.d (eSecs l)]), some (.box 24 (up (eBun b))), some (.box 30 [.osl (.arg 3) s.2 0 s.1.length]), some (.vec 65 5 s.2 s.1.length fun i => up (eMeet (s.1.getD i default))), some (.loop y rec [(4, .ptr (.arg 2) 0 0 0)])]⟩)) fun s' => s' = step s x)) :
    CallVC Tryd.prog 52 [.fn (.yield y) [] [], .ptr (.arg 1) 0 0 0, .ptr (.arg 0) 0 0 0] ((fun s : (List Meet × Nat) => ⟨[], [some (.box 22 [.d (eSecs l)]), some (.box 24 (up (eBun b))), some (.box 30 [.osl (.arg 3) s.2 0 s.1.length]), some (.vec 65 5 s.2 s.1.length fun i => up (eMeet (s.1.getD i default))), some (.loop y rec [(4, .ptr (.arg 2) 0 0 0)])]⟩) s0)
      (Ret (fun s : (List Meet × Nat) => ([], ⟨[], [some (.box 22 [.d (eSecs l)]), some (.box 24 (up (eBun b))), some (.box 30 [.osl (.arg 3) s.2 0 s.1.length]), some (.vec 65 5 s.2 s.1.length fun i => up (eMeet (s.1.getD i default))), some (.loop y rec [(4, .ptr (.arg 2) 0 0 0)])]⟩)) fun s => s = visit cont step ps s0) := by
  have hln : l.length ≤ 1000000 := by have := hl.1; omega
  obtain ⟨s, hs⟩ : ∃ s, findS l b.sec = some s := by cases hp with
    | one h1 => exact ⟨_, h1⟩
    | two h1 => exact ⟨_, h1⟩
  have hF := find_some hln hs
  have hsec : b.sec ≠ -1 := by
    obtain ⟨e1, e2⟩ := findS_id hs
    have := (formed_id (chk_id h0 e2).1).1
    omega
  obtain ⟨ps', rfl⟩ : ∃ ps', ps = s :: ps' := by cases hp with
    | one h1 => rw [hs] at h1; cases h1; exact ⟨_, rfl⟩
    | two h1 => rw [hs] at h1; cases h1; exact ⟨_, rfl⟩
  have hrest : (b.lab = -1 ∧ ps' = [] ∧ findS l b.lab = none) ∨ (b.lab ≠ -1 ∧ ∃ x, findS l b.lab = some x ∧ ps' = [x]) := by cases hp with
    | one h1 h2 h3 h4 h5 => exact .inl ⟨h4, rfl, h5⟩
    | two h1 h2 h3 h4 h5 h6 => exact .inr ⟨h4, _, h3, rfl⟩
  refine call_rule hT (T := tab) (N := 34) (rs := []) _ _ Tryd.func52 rfl rfl rfl (by kernel_rfl) rfl ?_
  repeat' (first | (with_reducible refine Sq.go ?_) | ((with_reducible refine Ev.mk ?_); conv => whnf) | (with_reducible refine Dr.mk ⟨by kernel_rfl, by kernel_rfl⟩ ?_) | ((with_reducible refine Ob.mk (by (first | exact rfl | assumption | omega | (intro h0; simp only [h0]; with_unfolding_all exact rfl) | (intro h1 h0; simp only [h0]; with_unfolding_all exact rfl) | (intros; first | assumption | (with_unfolding_all exact rfl) | omega | (simp only [oadd_eq, Int.toNat_natCast] <;> omega) | (simp only [in64, List.length_nil, List.length_cons] <;> omega) | (simp only [bsl, beq_iff_eq, bne_iff_ne, in64] at * <;> omega) | ((try simp only [Int.toNat_natCast]); exact Nat.le_trans (Nat.mul_le_mul_right _ (show _ ≤ 2000000 by omega)) (by with_unfolding_all decide)) | (simp_all; done)))) ?_)) | (with_reducible refine Ob.mk ?_ ?_) | ((with_reducible refine Br.mk (fun h => ?_) (fun h => ?_)) <;> (try simp only [bsl, beq_iff_eq, bne_iff_ne] at h) <;> (try simp only [not_true_eq_false, not_false_eq_true, false_or, or_false, true_and, and_true] at h) <;> (try exact absurd h (by decide)) <;> (try contradiction) <;> (try (exfalso; omega)) <;> (try (simp only [not_true_eq_false, or_self, eq_self, not_false_eq_true, Int.reduceEq, reduceCtorEq] at h; done))))
  refine loop_rule hT (S := Nat × (List Meet × Nat)) (fun q => ([(0, .fn (.yield y) [] []), (2, .ptr (.arg 0) 0 0 0), (12, .d (.agg [.int .i64 b.sec, .int .i64 b.lab])), (13, .d (.int .i64 q.1))], (fun s : (List Meet × Nat) => ⟨[], [some (.box 22 [.d (eSecs l)]), some (.box 24 (up (eBun b))), some (.box 30 [.osl (.arg 3) s.2 0 s.1.length]), some (.vec 65 5 s.2 s.1.length fun i => up (eMeet (s.1.getD i default))), some (.loop y rec [(4, .ptr (.arg 2) 0 0 0)])]⟩) q.2))
    (fun q => (q.1 = 0 ∧ q.2 = s0) ∨ (q.1 = 1 ∧ q.2 = step s0 s ∧ cont (step s0 s) = true) ∨ (q.1 = 2 ∧ q.2 = visit cont step (s :: ps') s0)) (fun q => 2 - q.1) (0, s0) ?_ ?_ ?_
  · repeat' (first | exact True.intro | exact rfl | exact Nat.le_refl _ | refine And.intro ?_ ?_)
    all_goals (intro i hi; exact ⟨rfl, rfl⟩)
  · exact .inl ⟨rfl, rfl⟩
  · rintro ⟨k, q⟩ (⟨h1, h2⟩ | ⟨h1, h2, h3⟩ | ⟨h1, h2⟩)
    · dsimp only at h1 h2
      subst h1; subst h2
      repeat' (first | (with_reducible refine Sq.go ?_) | ((with_reducible refine Ev.mk ?_); conv => whnf) | (with_reducible refine Dr.mk ⟨by kernel_rfl, by kernel_rfl⟩ ?_) | ((with_reducible refine Ob.mk (by (first | exact rfl | assumption | omega | (intro h0; simp only [h0]; with_unfolding_all exact rfl) | (intro h1 h0; simp only [h0]; with_unfolding_all exact rfl) | (intros; first | assumption | (with_unfolding_all exact rfl) | omega | (simp only [oadd_eq, Int.toNat_natCast] <;> omega) | (simp only [in64, List.length_nil, List.length_cons] <;> omega) | (simp only [bsl, beq_iff_eq, bne_iff_ne, in64] at * <;> omega) | ((try simp only [Int.toNat_natCast]); exact Nat.le_trans (Nat.mul_le_mul_right _ (show _ ≤ 2000000 by omega)) (by with_unfolding_all decide)) | (simp_all; done)))) ?_)) | (with_reducible refine Ob.mk ?_ ?_) | ((with_reducible refine Br.mk (fun h => ?_) (fun h => ?_)) <;> (try simp only [bsl, beq_iff_eq, bne_iff_ne] at h) <;> (try simp only [not_true_eq_false, not_false_eq_true, false_or, or_false, true_and, and_true] at h) <;> (try exact absurd h (by decide)) <;> (try contradiction) <;> (try (exfalso; omega)) <;> (try (simp only [not_true_eq_false, or_self, eq_self, not_false_eq_true, Int.reduceEq, reduceCtorEq] at h; done))))
      refine hF.call ?_
      repeat' (first | (with_reducible refine Sq.go ?_) | ((with_reducible refine Ev.mk ?_); conv => whnf) | (with_reducible refine Dr.mk ⟨by kernel_rfl, by kernel_rfl⟩ ?_) | ((with_reducible refine Ob.mk (by (first | exact rfl | assumption | omega | (intro h0; simp only [h0]; with_unfolding_all exact rfl) | (intro h1 h0; simp only [h0]; with_unfolding_all exact rfl) | (intros; first | assumption | (with_unfolding_all exact rfl) | omega | (simp only [oadd_eq, Int.toNat_natCast] <;> omega) | (simp only [in64, List.length_nil, List.length_cons] <;> omega) | (simp only [bsl, beq_iff_eq, bne_iff_ne, in64] at * <;> omega) | ((try simp only [Int.toNat_natCast]); exact Nat.le_trans (Nat.mul_le_mul_right _ (show _ ≤ 2000000 by omega)) (by with_unfolding_all decide)) | (simp_all; done)))) ?_)) | (with_reducible refine Ob.mk ?_ ?_) | ((with_reducible refine Br.mk (fun h => ?_) (fun h => ?_)) <;> (try simp only [bsl, beq_iff_eq, bne_iff_ne] at h) <;> (try simp only [not_true_eq_false, not_false_eq_true, false_or, or_false, true_and, and_true] at h) <;> (try exact absurd h (by decide)) <;> (try contradiction) <;> (try (exfalso; omega)) <;> (try (simp only [not_true_eq_false, or_self, eq_self, not_false_eq_true, Int.reduceEq, reduceCtorEq] at h; done))))
      refine (hy q (.inl rfl) hgo s (by simp)).at [.arg 0, .arg 1, .arg 2, .arg 3, .arg 4] rfl ⟨rfl, rfl, rfl, rfl, rfl, True.intro⟩ (fun s' hs' => ⟨rfl, ?_⟩)
      subst hs'
      by_cases hc : cont (step q s) = true
      · have hc2 : ¬ cont (step q s) = false := by simp [hc]
        repeat' (first | (with_reducible refine Sq.go ?_) | ((with_reducible refine Ev.mk ?_); conv => whnf) | (with_reducible refine Dr.mk ⟨by kernel_rfl, by kernel_rfl⟩ ?_) | ((with_reducible refine Ob.mk (by (first | exact rfl | assumption | omega | (intro h0; simp only [h0]; with_unfolding_all exact rfl) | (intro h1 h0; simp only [h0]; with_unfolding_all exact rfl) | (intros; first | assumption | (with_unfolding_all exact rfl) | omega | (simp only [oadd_eq, Int.toNat_natCast] <;> omega) | (simp only [in64, List.length_nil, List.length_cons] <;> omega) | (simp only [bsl, beq_iff_eq, bne_iff_ne, in64] at * <;> omega) | ((try simp only [Int.toNat_natCast]); exact Nat.le_trans (Nat.mul_le_mul_right _ (show _ ≤ 2000000 by omega)) (by with_unfolding_all decide)) | (simp_all; done)))) ?_)) | (with_reducible refine Ob.mk ?_ ?_) | ((with_reducible refine Br.mk (fun h => ?_) (fun h => ?_)) <;> (try simp only [bsl, beq_iff_eq, bne_iff_ne] at h) <;> (try simp only [not_true_eq_false, not_false_eq_true, false_or, or_false, true_and, and_true] at h) <;> (try exact absurd h (by decide)) <;> (try contradiction) <;> (try (exfalso; omega)) <;> (try (simp only [not_true_eq_false, or_self, eq_self, not_false_eq_true, Int.reduceEq, reduceCtorEq] at h; done))))
        · exfalso
          revert h
          simp [hc, hsec]
        refine ⟨(1, step q s), .inr (.inl ⟨rfl, rfl, hc⟩), by show _ < _; simp, ?_⟩
        repeat' (first | exact True.intro | exact rfl | exact Nat.le_refl _ | refine And.intro ?_ ?_)
        all_goals (intro i hi; exact ⟨rfl, rfl⟩)
      · have hv : visit cont step (s :: ps') q = step q s := by rw [visit, if_neg hc]
        repeat' (first | (with_reducible refine Sq.go ?_) | ((with_reducible refine Ev.mk ?_); conv => whnf) | (with_reducible refine Dr.mk ⟨by kernel_rfl, by kernel_rfl⟩ ?_) | ((with_reducible refine Ob.mk (by (first | exact rfl | assumption | omega | (intro h0; simp only [h0]; with_unfolding_all exact rfl) | (intro h1 h0; simp only [h0]; with_unfolding_all exact rfl) | (intros; first | assumption | (with_unfolding_all exact rfl) | omega | (simp only [oadd_eq, Int.toNat_natCast] <;> omega) | (simp only [in64, List.length_nil, List.length_cons] <;> omega) | (simp only [bsl, beq_iff_eq, bne_iff_ne, in64] at * <;> omega) | ((try simp only [Int.toNat_natCast]); exact Nat.le_trans (Nat.mul_le_mul_right _ (show _ ≤ 2000000 by omega)) (by with_unfolding_all decide)) | (simp_all; done)))) ?_)) | (with_reducible refine Ob.mk ?_ ?_) | ((with_reducible refine Br.mk (fun h => ?_) (fun h => ?_)) <;> (try simp only [bsl, beq_iff_eq, bne_iff_ne] at h) <;> (try simp only [not_true_eq_false, not_false_eq_true, false_or, or_false, true_and, and_true] at h) <;> (try exact absurd h (by decide)) <;> (try contradiction) <;> (try (exfalso; omega)) <;> (try (simp only [not_true_eq_false, or_self, eq_self, not_false_eq_true, Int.reduceEq, reduceCtorEq] at h; done))))
        · refine ⟨_, rfl, ?_, rfl⟩
          rw [hv]
          repeat' (first | exact True.intro | exact rfl | exact Nat.le_refl _ | refine And.intro ?_ ?_)
          all_goals (intro i hi; exact ⟨rfl, rfl⟩)
        · exfalso
          revert h
          simp [hc, hsec]
    · dsimp only at h1 h2
      subst h1; subst h2
      rcases hrest with ⟨e1, e2, e3⟩ | ⟨e1, x, e2, e3⟩
      · have hF2 := find_none hln e3
        have hv : visit cont step (s :: ps') s0 = step s0 s := by rw [visit, if_pos h3, e2, visit]
        repeat' (first | (with_reducible refine Sq.go ?_) | ((with_reducible refine Ev.mk ?_); conv => whnf) | (with_reducible refine Dr.mk ⟨by kernel_rfl, by kernel_rfl⟩ ?_) | ((with_reducible refine Ob.mk (by (first | exact rfl | assumption | omega | (intro h0; simp only [h0]; with_unfolding_all exact rfl) | (intro h1 h0; simp only [h0]; with_unfolding_all exact rfl) | (intros; first | assumption | (with_unfolding_all exact rfl) | omega | (simp only [oadd_eq, Int.toNat_natCast] <;> omega) | (simp only [in64, List.length_nil, List.length_cons] <;> omega) | (simp only [bsl, beq_iff_eq, bne_iff_ne, in64] at * <;> omega) | ((try simp only [Int.toNat_natCast]); exact Nat.le_trans (Nat.mul_le_mul_right _ (show _ ≤ 2000000 by omega)) (by with_unfolding_all decide)) | (simp_all; done)))) ?_)) | (with_reducible refine Ob.mk ?_ ?_) | ((with_reducible refine Br.mk (fun h => ?_) (fun h => ?_)) <;> (try simp only [bsl, beq_iff_eq, bne_iff_ne] at h) <;> (try simp only [not_true_eq_false, not_false_eq_true, false_or, or_false, true_and, and_true] at h) <;> (try exact absurd h (by decide)) <;> (try contradiction) <;> (try (exfalso; omega)) <;> (try (simp only [not_true_eq_false, or_self, eq_self, not_false_eq_true, Int.reduceEq, reduceCtorEq] at h; done))))
        refine hF2.call ?_
        repeat' (first | (with_reducible refine Sq.go ?_) | ((with_reducible refine Ev.mk ?_); conv => whnf) | (with_reducible refine Dr.mk ⟨by kernel_rfl, by kernel_rfl⟩ ?_) | ((with_reducible refine Ob.mk (by (first | exact rfl | assumption | omega | (intro h0; simp only [h0]; with_unfolding_all exact rfl) | (intro h1 h0; simp only [h0]; with_unfolding_all exact rfl) | (intros; first | assumption | (with_unfolding_all exact rfl) | omega | (simp only [oadd_eq, Int.toNat_natCast] <;> omega) | (simp only [in64, List.length_nil, List.length_cons] <;> omega) | (simp only [bsl, beq_iff_eq, bne_iff_ne, in64] at * <;> omega) | ((try simp only [Int.toNat_natCast]); exact Nat.le_trans (Nat.mul_le_mul_right _ (show _ ≤ 2000000 by omega)) (by with_unfolding_all decide)) | (simp_all; done)))) ?_)) | (with_reducible refine Ob.mk ?_ ?_) | ((with_reducible refine Br.mk (fun h => ?_) (fun h => ?_)) <;> (try simp only [bsl, beq_iff_eq, bne_iff_ne] at h) <;> (try simp only [not_true_eq_false, not_false_eq_true, false_or, or_false, true_and, and_true] at h) <;> (try exact absurd h (by decide)) <;> (try contradiction) <;> (try (exfalso; omega)) <;> (try (simp only [not_true_eq_false, or_self, eq_self, not_false_eq_true, Int.reduceEq, reduceCtorEq] at h; done))))
        refine ⟨(2, step s0 s), .inr (.inr ⟨rfl, hv.symm⟩), by show _ < _; simp, ?_⟩
        repeat' (first | exact True.intro | exact rfl | exact Nat.le_refl _ | refine And.intro ?_ ?_)
        all_goals (intro i hi; exact ⟨rfl, rfl⟩)
      · have hF2 := find_some hln e2
        have hv : visit cont step (s :: ps') s0 = step (step s0 s) x := by rw [visit, if_pos h3, e3, visit, visit]; split <;> rfl
        repeat' (first | (with_reducible refine Sq.go ?_) | ((with_reducible refine Ev.mk ?_); conv => whnf) | (with_reducible refine Dr.mk ⟨by kernel_rfl, by kernel_rfl⟩ ?_) | ((with_reducible refine Ob.mk (by (first | exact rfl | assumption | omega | (intro h0; simp only [h0]; with_unfolding_all exact rfl) | (intro h1 h0; simp only [h0]; with_unfolding_all exact rfl) | (intros; first | assumption | (with_unfolding_all exact rfl) | omega | (simp only [oadd_eq, Int.toNat_natCast] <;> omega) | (simp only [in64, List.length_nil, List.length_cons] <;> omega) | (simp only [bsl, beq_iff_eq, bne_iff_ne, in64] at * <;> omega) | ((try simp only [Int.toNat_natCast]); exact Nat.le_trans (Nat.mul_le_mul_right _ (show _ ≤ 2000000 by omega)) (by with_unfolding_all decide)) | (simp_all; done)))) ?_)) | (with_reducible refine Ob.mk ?_ ?_) | ((with_reducible refine Br.mk (fun h => ?_) (fun h => ?_)) <;> (try simp only [bsl, beq_iff_eq, bne_iff_ne] at h) <;> (try simp only [not_true_eq_false, not_false_eq_true, false_or, or_false, true_and, and_true] at h) <;> (try exact absurd h (by decide)) <;> (try contradiction) <;> (try (exfalso; omega)) <;> (try (simp only [not_true_eq_false, or_self, eq_self, not_false_eq_true, Int.reduceEq, reduceCtorEq] at h; done))))
        refine hF2.call ?_
        repeat' (first | (with_reducible refine Sq.go ?_) | ((with_reducible refine Ev.mk ?_); conv => whnf) | (with_reducible refine Dr.mk ⟨by kernel_rfl, by kernel_rfl⟩ ?_) | ((with_reducible refine Ob.mk (by (first | exact rfl | assumption | omega | (intro h0; simp only [h0]; with_unfolding_all exact rfl) | (intro h1 h0; simp only [h0]; with_unfolding_all exact rfl) | (intros; first | assumption | (with_unfolding_all exact rfl) | omega | (simp only [oadd_eq, Int.toNat_natCast] <;> omega) | (simp only [in64, List.length_nil, List.length_cons] <;> omega) | (simp only [bsl, beq_iff_eq, bne_iff_ne, in64] at * <;> omega) | ((try simp only [Int.toNat_natCast]); exact Nat.le_trans (Nat.mul_le_mul_right _ (show _ ≤ 2000000 by omega)) (by with_unfolding_all decide)) | (simp_all; done)))) ?_)) | (with_reducible refine Ob.mk ?_ ?_) | ((with_reducible refine Br.mk (fun h => ?_) (fun h => ?_)) <;> (try simp only [bsl, beq_iff_eq, bne_iff_ne] at h) <;> (try simp only [not_true_eq_false, not_false_eq_true, false_or, or_false, true_and, and_true] at h) <;> (try exact absurd h (by decide)) <;> (try contradiction) <;> (try (exfalso; omega)) <;> (try (simp only [not_true_eq_false, or_self, eq_self, not_false_eq_true, Int.reduceEq, reduceCtorEq] at h; done))))
        refine (hy (step s0 s) (.inr ⟨s, by simp, rfl⟩) h3 x (by rw [e3]; simp)).at [.arg 0, .arg 1, .arg 2, .arg 3, .arg 4] rfl ⟨rfl, rfl, rfl, rfl, rfl, True.intro⟩ (fun s' hs' => ⟨rfl, ?_⟩)
        subst hs'
        repeat' (first | (with_reducible refine Sq.go ?_) | ((with_reducible refine Ev.mk ?_); conv => whnf) | (with_reducible refine Dr.mk ⟨by kernel_rfl, by kernel_rfl⟩ ?_) | ((with_reducible refine Ob.mk (by (first | exact rfl | assumption | omega | (intro h0; simp only [h0]; with_unfolding_all exact rfl) | (intro h1 h0; simp only [h0]; with_unfolding_all exact rfl) | (intros; first | assumption | (with_unfolding_all exact rfl) | omega | (simp only [oadd_eq, Int.toNat_natCast] <;> omega) | (simp only [in64, List.length_nil, List.length_cons] <;> omega) | (simp only [bsl, beq_iff_eq, bne_iff_ne, in64] at * <;> omega) | ((try simp only [Int.toNat_natCast]); exact Nat.le_trans (Nat.mul_le_mul_right _ (show _ ≤ 2000000 by omega)) (by with_unfolding_all decide)) | (simp_all; done)))) ?_)) | (with_reducible refine Ob.mk ?_ ?_) | ((with_reducible refine Br.mk (fun h => ?_) (fun h => ?_)) <;> (try simp only [bsl, beq_iff_eq, bne_iff_ne] at h) <;> (try simp only [not_true_eq_false, not_false_eq_true, false_or, or_false, true_and, and_true] at h) <;> (try exact absurd h (by decide)) <;> (try contradiction) <;> (try (exfalso; omega)) <;> (try (simp only [not_true_eq_false, or_self, eq_self, not_false_eq_true, Int.reduceEq, reduceCtorEq] at h; done))))
        · refine ⟨_, rfl, ?_, rfl⟩
          rw [hv]
          repeat' (first | exact True.intro | exact rfl | exact Nat.le_refl _ | refine And.intro ?_ ?_)
          all_goals (intro i hi; exact ⟨rfl, rfl⟩)
        · refine ⟨(2, step (step s0 s) x), .inr (.inr ⟨rfl, hv.symm⟩), by show _ < _; simp, ?_⟩
          repeat' (first | exact True.intro | exact rfl | exact Nat.le_refl _ | refine And.intro ?_ ?_)
          all_goals (intro i hi; exact ⟨rfl, rfl⟩)
    · dsimp only at h1 h2
      subst h1; subst h2
      repeat' (first | (with_reducible refine Sq.go ?_) | ((with_reducible refine Ev.mk ?_); conv => whnf) | (with_reducible refine Dr.mk ⟨by kernel_rfl, by kernel_rfl⟩ ?_) | ((with_reducible refine Ob.mk (by (first | exact rfl | assumption | omega | (intro h0; simp only [h0]; with_unfolding_all exact rfl) | (intro h1 h0; simp only [h0]; with_unfolding_all exact rfl) | (intros; first | assumption | (with_unfolding_all exact rfl) | omega | (simp only [oadd_eq, Int.toNat_natCast] <;> omega) | (simp only [in64, List.length_nil, List.length_cons] <;> omega) | (simp only [bsl, beq_iff_eq, bne_iff_ne, in64] at * <;> omega) | ((try simp only [Int.toNat_natCast]); exact Nat.le_trans (Nat.mul_le_mul_right _ (show _ ≤ 2000000 by omega)) (by with_unfolding_all decide)) | (simp_all; done)))) ?_)) | (with_reducible refine Ob.mk ?_ ?_) | ((with_reducible refine Br.mk (fun h => ?_) (fun h => ?_)) <;> (try simp only [bsl, beq_iff_eq, bne_iff_ne] at h) <;> (try simp only [not_true_eq_false, not_false_eq_true, false_or, or_false, true_and, and_true] at h) <;> (try exact absurd h (by decide)) <;> (try contradiction) <;> (try (exfalso; omega)) <;> (try (simp only [not_true_eq_false, or_self, eq_self, not_false_eq_true, Int.reduceEq, reduceCtorEq] at h; done))))
      refine ⟨_, rfl, ?_, rfl⟩
      repeat' (first | exact True.intro | exact rfl | exact Nat.le_refl _ | refine And.intro ?_ ?_)
      all_goals (intro i hi; exact ⟨rfl, rfl⟩)
def flatM (ps : List Sec) : List Meet := ps.flatMap fun s => s.meets
def partsL (l : List Sec) (b : Bun) : List Sec := (match findS l b.sec with
  | some s => [s]
  | none => []) ++ (if b.lab = -1 then [] else match findS l b.lab with
  | some x => [x]
  | none => [])
theorem Parts.eq {l : List Sec} {b : Bun} {ps : List Sec} (h : Parts l b ps) : ps = partsL l b := by
  cases h with
  | one h1 h2 h3 h4 h5 => simp [partsL, h1, h4]
  | two h1 h2 h3 h4 h5 h6 => simp [partsL, h1, h3, h4]
def mtB (l : List Sec) (b : Bun) : List Meet := if bchk l b = 0 then flatM (partsL l b) else []
def stepM (q : List Meet × Nat) (x : Sec) : List Meet × Nat := (q.1 ++ x.meets, q.2 + 1)
theorem visitM : ∀ (ps : List Sec) (q : List Meet × Nat), visit (fun _ => true) stepM ps q = (q.1 ++ flatM ps, q.2 + ps.length)
  | [], q => by simp [visit, flatM]
  | x :: r, q => by
    rw [visit, if_pos rfl, visitM r]
    simp only [stepM, flatM, List.flatMap_cons, List.append_assoc, List.length_cons]
    rw [show q.2 + 1 + r.length = q.2 + (r.length + 1) by omega]
theorem Parts.len {l : List Sec} {b : Bun} {ps : List Sec} (h : Parts l b ps) : 1 ≤ ps.length ∧ ps.length ≤ 2 ∧ ∀ x ∈ ps, x ∈ l := by
  cases h with
  | one h1 => exact ⟨by simp, by simp, fun x hx => by simp at hx; subst hx; exact (findS_id h1).2⟩
  | two h1 h2 h3 => exact ⟨by simp, by simp, fun x hx => by simp at hx; rcases hx with rfl | rfl; exact (findS_id h1).2; exact (findS_id h3).2⟩
theorem meetings_ok (l : List Sec) (hl : fewS l) (b : Bun) : Pure Tryd.prog 15 [eSecs l, .agg (eBun b)] [eMeets (mtB l b), .int .i64 (bchk l b)] := by
  refine pure_rule hT (T := tab) (N := 22) (rs := [.cell 4 30, .tmp 5]) Tryd.func15 rfl rfl rfl (by kernel_rfl) rfl ?_
  by_cases hz : bchk l b = 0
  · obtain ⟨h0, ps, hp⟩ := parts_of hz
    have hB := bcheck_ok l hl b
    rw [hz] at hB
    have hm : mtB l b = flatM ps := by rw [mtB, if_pos hz, ← hp.eq]
    rw [hz, hm]
    repeat' (first | (with_reducible refine Sq.go ?_) | ((with_reducible refine Ev.mk ?_); conv => whnf) | (with_reducible refine Dr.mk ⟨by kernel_rfl, by kernel_rfl⟩ ?_) | ((with_reducible refine Ob.mk (by (first | exact rfl | assumption | omega | (intro h0; simp only [h0]; with_unfolding_all exact rfl) | (intro h1 h0; simp only [h0]; with_unfolding_all exact rfl) | (intros; first | assumption | (with_unfolding_all exact rfl) | omega | (simp only [oadd_eq, Int.toNat_natCast] <;> omega) | (simp only [in64, List.length_nil, List.length_cons] <;> omega) | (simp only [bsl, beq_iff_eq, bne_iff_ne, in64] at * <;> omega) | ((try simp only [Int.toNat_natCast]); exact Nat.le_trans (Nat.mul_le_mul_right _ (show _ ≤ 2000000 by omega)) (by with_unfolding_all decide)) | (simp_all; done)))) ?_)) | (with_reducible refine Ob.mk ?_ ?_) | ((with_reducible refine Br.mk (fun h => ?_) (fun h => ?_)) <;> (try simp only [bsl, beq_iff_eq, bne_iff_ne] at h) <;> (try simp only [not_true_eq_false, not_false_eq_true, false_or, or_false, true_and, and_true] at h) <;> (try exact absurd h (by decide)) <;> (try contradiction) <;> (try (exfalso; omega)) <;> (try (simp only [not_true_eq_false, or_self, eq_self, not_false_eq_true, Int.reduceEq, reduceCtorEq] at h; done))))
    refine hB.call ?_
    repeat' (first | (with_reducible refine Sq.go ?_) | ((with_reducible refine Ev.mk ?_); conv => whnf) | (with_reducible refine Dr.mk ⟨by kernel_rfl, by kernel_rfl⟩ ?_) | ((with_reducible refine Ob.mk (by (first | exact rfl | assumption | omega | (intro h0; simp only [h0]; with_unfolding_all exact rfl) | (intro h1 h0; simp only [h0]; with_unfolding_all exact rfl) | (intros; first | assumption | (with_unfolding_all exact rfl) | omega | (simp only [oadd_eq, Int.toNat_natCast] <;> omega) | (simp only [in64, List.length_nil, List.length_cons] <;> omega) | (simp only [bsl, beq_iff_eq, bne_iff_ne, in64] at * <;> omega) | ((try simp only [Int.toNat_natCast]); exact Nat.le_trans (Nat.mul_le_mul_right _ (show _ ≤ 2000000 by omega)) (by with_unfolding_all decide)) | (simp_all; done)))) ?_)) | (with_reducible refine Ob.mk ?_ ?_) | ((with_reducible refine Br.mk (fun h => ?_) (fun h => ?_)) <;> (try simp only [bsl, beq_iff_eq, bne_iff_ne] at h) <;> (try simp only [not_true_eq_false, not_false_eq_true, false_or, or_false, true_and, and_true] at h) <;> (try exact absurd h (by decide)) <;> (try contradiction) <;> (try (exfalso; omega)) <;> (try (simp only [not_true_eq_false, or_self, eq_self, not_false_eq_true, Int.reduceEq, reduceCtorEq] at h; done))))
    refine (parts_ok l b).at [] rfl True.intro (fun _ _ => ⟨rfl, ?_⟩)
    repeat' (first | (with_reducible refine Sq.go ?_) | ((with_reducible refine Ev.mk ?_); conv => whnf) | (with_reducible refine Dr.mk ⟨by kernel_rfl, by kernel_rfl⟩ ?_) | ((with_reducible refine Ob.mk (by (first | exact rfl | assumption | omega | (intro h0; simp only [h0]; with_unfolding_all exact rfl) | (intro h1 h0; simp only [h0]; with_unfolding_all exact rfl) | (intros; first | assumption | (with_unfolding_all exact rfl) | omega | (simp only [oadd_eq, Int.toNat_natCast] <;> omega) | (simp only [in64, List.length_nil, List.length_cons] <;> omega) | (simp only [bsl, beq_iff_eq, bne_iff_ne, in64] at * <;> omega) | ((try simp only [Int.toNat_natCast]); exact Nat.le_trans (Nat.mul_le_mul_right _ (show _ ≤ 2000000 by omega)) (by with_unfolding_all decide)) | (simp_all; done)))) ?_)) | (with_reducible refine Ob.mk ?_ ?_) | ((with_reducible refine Br.mk (fun h => ?_) (fun h => ?_)) <;> (try simp only [bsl, beq_iff_eq, bne_iff_ne] at h) <;> (try simp only [not_true_eq_false, not_false_eq_true, false_or, or_false, true_and, and_true] at h) <;> (try exact absurd h (by decide)) <;> (try contradiction) <;> (try (exfalso; omega)) <;> (try (simp only [not_true_eq_false, or_self, eq_self, not_false_eq_true, Int.reduceEq, reduceCtorEq] at h; done))))
    refine Awp.vecBox (.loc 1) 30 65 5 (fun i => up (eMeet (([] : List Meet).getD i default))) rfl ?_
    refine Awp.range (caps := [.ptr (.loc 3) 0 0 0, .ptr (.loc 2) 0 0 0]) [(4, .ptr (.loc 1) 0 0 0)] (.inl rfl) (nl := 5) (na := 0) ⟨⟨rfl, rfl⟩, True.intro⟩ ?_
    intro y r h1 h2 h3 h4 h5 h6
    refine (parts1M_ok r y l hl h0 b hp ([], 0) stepM (fun _ => true) rfl ?_).at [.loc 2, .loc 3, .loc 1, .loc 4, .loc 5] rfl ⟨rfl, rfl, rfl, rfl, rfl, True.intro⟩ (fun s hs => ⟨rfl, ?_⟩)
    · intro q hq0 _ x hx
      have hxl := (few_at hl (hp.len.2.2 x hx)).2.2
      have hql : q.1.length ≤ 1000 := by
        rcases hq0 with rfl | ⟨z, hz, rfl⟩
        · exact Nat.zero_le _
        · have := (few_at hl (hp.len.2.2 z hz)).2.2
          simpa [stepM] using this
      refine yieldMono (yield_rule (N := 22) (ps := [16]) (args := [.d (.agg (eSec x))])
        (bs := [some (.box 22 [.d (eSecs l)]), some (.box 24 (up (eBun b))), some (.box 30 [.osl (.arg 3) q.2 0 q.1.length]), some (.vec 65 5 q.2 q.1.length fun i => up (eMeet (q.1.getD i default)))]) (env0 := [(4, .ptr (.arg 2) 0 0 0)])
        (fun q : List Meet × Nat => [some (.box 22 [.d (eSecs l)]), some (.box 24 (up (eBun b))), some (.box 30 [.osl (.arg 3) q.2 0 q.1.length]), some (.vec 65 5 q.2 q.1.length fun i => up (eMeet (q.1.getD i default)))])
        (fun _ => none) (fun q' => q' = stepM q x) h1 h3 h4 h5 h6 rfl (by simp) ?_ rfl rfl ?_) ?_
      · repeat' (first | exact True.intro | exact rfl | exact Nat.le_refl _ | refine And.intro ?_ ?_)
        all_goals (intro i hi; exact ⟨rfl, rfl⟩)
      · refine Awp.of_vc hT ?_
        repeat' (first | (with_reducible refine Sq.go ?_) | ((with_reducible refine Ev.mk ?_); conv => whnf) | (with_reducible refine Dr.mk ⟨by kernel_rfl, by kernel_rfl⟩ ?_) | ((with_reducible refine Ob.mk (by (first | exact rfl | assumption | omega | (intro h0; simp only [h0]; with_unfolding_all exact rfl) | (intro h1 h0; simp only [h0]; with_unfolding_all exact rfl) | (intros; first | assumption | (with_unfolding_all exact rfl) | omega | (simp only [oadd_eq, Int.toNat_natCast] <;> omega) | (simp only [in64, List.length_nil, List.length_cons] <;> omega) | (simp only [bsl, beq_iff_eq, bne_iff_ne, in64] at * <;> omega) | ((try simp only [Int.toNat_natCast]); exact Nat.le_trans (Nat.mul_le_mul_right _ (show _ ≤ 2000000 by omega)) (by with_unfolding_all decide)) | (simp_all; done)))) ?_)) | (with_reducible refine Ob.mk ?_ ?_) | ((with_reducible refine Br.mk (fun h => ?_) (fun h => ?_)) <;> (try simp only [bsl, beq_iff_eq, bne_iff_ne] at h) <;> (try simp only [not_true_eq_false, not_false_eq_true, false_or, or_false, true_and, and_true] at h) <;> (try exact absurd h (by decide)) <;> (try contradiction) <;> (try (exfalso; omega)) <;> (try (simp only [not_true_eq_false, or_self, eq_self, not_false_eq_true, Int.reduceEq, reduceCtorEq] at h; done))))
        refine Awp.of_vc hT ?_
        repeat' (first | (with_reducible refine Sq.go ?_) | ((with_reducible refine Ev.mk ?_); conv => whnf) | (with_reducible refine Dr.mk ⟨by kernel_rfl, by kernel_rfl⟩ ?_) | ((with_reducible refine Ob.mk (by (first | exact rfl | assumption | omega | (intro h0; simp only [h0]; with_unfolding_all exact rfl) | (intro h1 h0; simp only [h0]; with_unfolding_all exact rfl) | (intros; first | assumption | (with_unfolding_all exact rfl) | omega | (simp only [oadd_eq, Int.toNat_natCast] <;> omega) | (simp only [in64, List.length_nil, List.length_cons] <;> omega) | (simp only [bsl, beq_iff_eq, bne_iff_ne, in64] at * <;> omega) | ((try simp only [Int.toNat_natCast]); exact Nat.le_trans (Nat.mul_le_mul_right _ (show _ ≤ 2000000 by omega)) (by with_unfolding_all decide)) | (simp_all; done)))) ?_)) | (with_reducible refine Ob.mk ?_ ?_) | ((with_reducible refine Br.mk (fun h => ?_) (fun h => ?_)) <;> (try simp only [bsl, beq_iff_eq, bne_iff_ne] at h) <;> (try simp only [not_true_eq_false, not_false_eq_true, false_or, or_false, true_and, and_true] at h) <;> (try exact absurd h (by decide)) <;> (try contradiction) <;> (try (exfalso; omega)) <;> (try (simp only [not_true_eq_false, or_self, eq_self, not_false_eq_true, Int.reduceEq, reduceCtorEq] at h; done))))
        have hl1 : (q.1 ++ x.meets).length = q.1.length + x.meets.length := List.length_append
        refine ⟨stepM q x, rfl, rfl, rfl, ?_⟩
        repeat' (first | exact True.intro | exact rfl | exact Nat.le_refl _ | refine And.intro ?_ ?_)
        all_goals first
          | (show _ = [AV.osl _ _ _ (q.1 ++ x.meets).length]; rw [hl1]; rfl)
          | (show (q.1 ++ x.meets).length ≤ _; rw [hl1]; exact Nat.le_refl _)
          | (intro i hi; exact ⟨join_app eMeet q.1 x.meets _ (fun i hi => rfl) i hi, rfl⟩)
          | (intro i hi; exact ⟨rfl, rfl⟩)
      · rintro A m' ⟨s, hJ, rfl, rfl⟩
        refine ⟨s, hJ, rfl, ?_⟩
        show (⟨[], [some _, some _, some _, some _, some (.loop y (after r none) _)]⟩ : Mem) = _
        rw [after_none h1 h2]
    · rw [visitM] at hs
      subst hs
      refine ⟨none, by rw [after_none h1 h2]; rfl, ?_⟩
      show Sq _ _
      repeat' (first | (with_reducible refine Sq.go ?_) | ((with_reducible refine Ev.mk ?_); conv => whnf) | (with_reducible refine Dr.mk ⟨by kernel_rfl, by kernel_rfl⟩ ?_) | ((with_reducible refine Ob.mk (by (first | exact rfl | assumption | omega | (intro h0; simp only [h0]; with_unfolding_all exact rfl) | (intro h1 h0; simp only [h0]; with_unfolding_all exact rfl) | (intros; first | assumption | (with_unfolding_all exact rfl) | omega | (simp only [oadd_eq, Int.toNat_natCast] <;> omega) | (simp only [in64, List.length_nil, List.length_cons] <;> omega) | (simp only [bsl, beq_iff_eq, bne_iff_ne, in64] at * <;> omega) | ((try simp only [Int.toNat_natCast]); exact Nat.le_trans (Nat.mul_le_mul_right _ (show _ ≤ 2000000 by omega)) (by with_unfolding_all decide)) | (simp_all; done)))) ?_)) | (with_reducible refine Ob.mk ?_ ?_) | ((with_reducible refine Br.mk (fun h => ?_) (fun h => ?_)) <;> (try simp only [bsl, beq_iff_eq, bne_iff_ne] at h) <;> (try simp only [not_true_eq_false, not_false_eq_true, false_or, or_false, true_and, and_true] at h) <;> (try exact absurd h (by decide)) <;> (try contradiction) <;> (try (exfalso; omega)) <;> (try (simp only [not_true_eq_false, or_self, eq_self, not_false_eq_true, Int.reduceEq, reduceCtorEq] at h; done))))
      exact ⟨⟨rfl, rfl, by show 0 + (([] : List Meet) ++ flatM ps).length ≤ (([] : List Meet) ++ flatM ps).length; omega, rfl, fun i hi => by have e : 0 + i = i := Nat.zero_add i; rw [e]; rfl⟩, rfl, True.intro⟩
  · have hB := bcheck_ok l hl b
    rw [show mtB l b = [] by rw [mtB, if_neg hz]]
    repeat' (first | (with_reducible refine Sq.go ?_) | ((with_reducible refine Ev.mk ?_); conv => whnf) | (with_reducible refine Dr.mk ⟨by kernel_rfl, by kernel_rfl⟩ ?_) | ((with_reducible refine Ob.mk (by (first | exact rfl | assumption | omega | (intro h0; simp only [h0]; with_unfolding_all exact rfl) | (intro h1 h0; simp only [h0]; with_unfolding_all exact rfl) | (intros; first | assumption | (with_unfolding_all exact rfl) | omega | (simp only [oadd_eq, Int.toNat_natCast] <;> omega) | (simp only [in64, List.length_nil, List.length_cons] <;> omega) | (simp only [bsl, beq_iff_eq, bne_iff_ne, in64] at * <;> omega) | ((try simp only [Int.toNat_natCast]); exact Nat.le_trans (Nat.mul_le_mul_right _ (show _ ≤ 2000000 by omega)) (by with_unfolding_all decide)) | (simp_all; done)))) ?_)) | (with_reducible refine Ob.mk ?_ ?_) | ((with_reducible refine Br.mk (fun h => ?_) (fun h => ?_)) <;> (try simp only [bsl, beq_iff_eq, bne_iff_ne] at h) <;> (try simp only [not_true_eq_false, not_false_eq_true, false_or, or_false, true_and, and_true] at h) <;> (try exact absurd h (by decide)) <;> (try contradiction) <;> (try (exfalso; omega)) <;> (try (simp only [not_true_eq_false, or_self, eq_self, not_false_eq_true, Int.reduceEq, reduceCtorEq] at h; done))))
    refine hB.call ?_
    repeat' (first | (with_reducible refine Sq.go ?_) | ((with_reducible refine Ev.mk ?_); conv => whnf) | (with_reducible refine Dr.mk ⟨by kernel_rfl, by kernel_rfl⟩ ?_) | ((with_reducible refine Ob.mk (by (first | exact rfl | assumption | omega | (intro h0; simp only [h0]; with_unfolding_all exact rfl) | (intro h1 h0; simp only [h0]; with_unfolding_all exact rfl) | (intros; first | assumption | (with_unfolding_all exact rfl) | omega | (simp only [oadd_eq, Int.toNat_natCast] <;> omega) | (simp only [in64, List.length_nil, List.length_cons] <;> omega) | (simp only [bsl, beq_iff_eq, bne_iff_ne, in64] at * <;> omega) | ((try simp only [Int.toNat_natCast]); exact Nat.le_trans (Nat.mul_le_mul_right _ (show _ ≤ 2000000 by omega)) (by with_unfolding_all decide)) | (simp_all; done)))) ?_)) | (with_reducible refine Ob.mk ?_ ?_) | ((with_reducible refine Br.mk (fun h => ?_) (fun h => ?_)) <;> (try simp only [bsl, beq_iff_eq, bne_iff_ne] at h) <;> (try simp only [not_true_eq_false, not_false_eq_true, false_or, or_false, true_and, and_true] at h) <;> (try exact absurd h (by decide)) <;> (try contradiction) <;> (try (exfalso; omega)) <;> (try (simp only [not_true_eq_false, or_self, eq_self, not_false_eq_true, Int.reduceEq, reduceCtorEq] at h; done))))
    exact ⟨rfl, rfl, True.intro⟩
end Go.Proofs.YteamiepijajjdaaDoor
