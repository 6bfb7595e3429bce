/-
  Chapter 6: the functions that only read.
-/
import Derived.Test.YthghfcbnhdjmiaaTab
import Derived.Test.YthghfcbnhdjmiaaEngP
namespace Go.Proofs.Ythghfcbnhdjmiaa
set_option linter.unusedSimpArgs false
set_option linter.unusedVariables false
open Go Go.Ab
structure Span where
  fr : Int
  to : Int
  deriving Inhabited, DecidableEq
def eSpan (s : Span) : List D := [.int .i64 s.fr, .int .i64 s.to]
def eSpans (xs : List Span) : D := .sl 2 xs.length fun i => eSpan (xs.getD i default)
theorem in64 {n : Int} : In .i64 n ↔ -9223372036854775808 ≤ n ∧ n ≤ 9223372036854775807 := by
  simp [In, IntKind.min, IntKind.max, IntKind.signed, IntKind.bits]
/-- The error of a list of spans. -/
def chk : Int → List Span → Int
  | _, [] => 0
  | last, s :: r => if s.fr ≤ last ∨ s.fr < 0 ∨ s.to ≤ s.fr ∨ 1024 < s.to then 60 else chk s.to r
def has (xs : List Span) (t : Int) : Bool := xs.any fun s => decide (s.fr ≤ t) && decide (t < s.to)
def cnt : List Span → Int
  | [] => 0
  | s :: r => s.to - s.fr + cnt r
theorem drop_at {xs : List Span} {k : Nat} (h : k < xs.length) : xs.drop k = xs.getD k default :: xs.drop (k + 1) := by
  rw [List.drop_eq_getElem_cons h]
  simp [h]
theorem has_cons (s : Span) (r : List Span) (t : Int) : has (s :: r) t = ((decide (s.fr ≤ t) && decide (t < s.to)) || has r t) := rfl
/-- What a valid list says of each of its spans. -/
theorem chk_at : ∀ {xs : List Span} {last : Int}, chk last xs = 0 → ∀ s ∈ xs, 0 ≤ s.fr ∧ s.fr < s.to ∧ s.to ≤ 1024
  | [], _, _ => fun s h => by simp at h
  | x :: r, last, h => fun s hs => by
    unfold chk at h
    split at h
    · cases h
    · rcases List.mem_cons.1 hs with rfl | hs
      · omega
      · exact chk_at h s hs
theorem getD_mem {xs : List Span} {k : Nat} (h : k < xs.length) : xs.getD k default ∈ xs := by
  simp [List.getD_eq_getElem?_getD, h]
theorem cnt_le : ∀ {xs : List Span}, (∀ s ∈ xs, 0 ≤ s.fr ∧ s.fr < s.to ∧ s.to ≤ 1024) → 0 ≤ cnt xs ∧ cnt xs ≤ 1024 * xs.length
  | [], _ => by simp [cnt]
  | x :: r, h => by
    have h1 := h x (by simp)
    have h2 := cnt_le (xs := r) (fun s hs => h s (by simp [hs]))
    simp only [cnt, List.length_cons]
    omega
theorem span_ext : ∀ {a b : Span}, a.fr = b.fr → a.to = b.to → a = b
  | ⟨_, _⟩, ⟨_, _⟩, rfl, rfl => rfl
theorem toNat_pred (k : Nat) : ((k : Int) - 1).toNat = k - 1 := by omega
theorem by3 : bytesAt tab 3 = 8 := rfl
theorem by35 : bytesAt tab 35 = 16 := rfl
theorem by43 : bytesAt tab 43 = 24 := rfl
set_option maxRecDepth 100000

theorem check_ok (xs : List Span) (hx : xs.length ≤ 1000000) : Pure Try.prog 14 [eSpans xs] [.int .i64 (chk (-1) xs)] := by
  refine pure_rule hT (T := tab) (N := 36) (rs := [.tmp 2]) Try.func14 rfl rfl rfl (by kernel_rfl) rfl ?_
  repeat' (first | (with_reducible refine Sq.go ?_) | ((with_reducible refine Ev.mk ?_); conv => whnf) | (with_reducible refine Dr.mk ⟨by kernel_rfl, by kernel_rfl⟩ ?_) | ((with_reducible refine Ob.mk (by (first | exact rfl | omega | (intros; first | assumption | omega | (simp only [in64]; omega) | (simp only [decide_eq_true_eq, decide_eq_false_iff_not, Bool.and_eq_true, Bool.or_eq_true, Bool.not_eq_true', Bool.not_eq_false', Bool.and_eq_false_iff, Bool.or_eq_false_iff, Bool.cond_true_left, Bool.cond_false_right, Bool.cond_false_left, Bool.cond_true_right, Bool.not_true, Bool.not_false, Bool.true_eq_false, Bool.false_eq_true, Int.toNat_natCast, beq_iff_eq, bne_iff_ne, Int.not_le, Int.not_lt, Bool.and_true, Bool.true_and, Bool.or_false, Bool.false_or, Bool.and_false, Bool.false_and, Bool.or_true, Bool.true_or, not_or, not_and, in64, by3, by35, by43] at *; omega) | (simp_all; done)))) ?_)) | (with_reducible refine Ob.mk ?_ ?_) | ((with_reducible refine Br.mk (fun h => ?_) (fun h => ?_)) <;> (try simp only [decide_eq_true_eq, decide_eq_false_iff_not, Bool.and_eq_true, Bool.or_eq_true, Bool.not_eq_true', Bool.not_eq_false', Bool.and_eq_false_iff, Bool.or_eq_false_iff, Bool.cond_true_left, Bool.cond_false_right, Bool.cond_false_left, Bool.cond_true_right, Bool.not_true, Bool.not_false, Bool.true_eq_false, Bool.false_eq_true, Int.toNat_natCast, beq_iff_eq, bne_iff_ne, Int.not_le, Int.not_lt, Bool.and_true, Bool.true_and, Bool.or_false, Bool.false_or, Bool.and_false, Bool.false_and, Bool.or_true, Bool.true_or, not_or, not_and] at h) <;> (try (simp only [not_true_eq_false, or_self, eq_self, not_false_eq_true, Int.reduceEq, reduceCtorEq] at h; done))))
  refine loop_rule hT (S := Nat × Int) (fun s => ([(2, .d (.int .i64 0)), (3, .d (.int .i64 s.2)), (6, .d (eSpans xs)), (7, .d (.int .i64 xs.length)), (8, .d (.int .i64 s.1))], ⟨[], []⟩)) (fun s => s.1 ≤ xs.length ∧ chk (-1) xs = chk s.2 (xs.drop s.1)) (fun s => xs.length - s.1) (0, -1) ?_ ?_ ?_
  · repeat' (first | exact True.intro | exact rfl | exact Nat.le_refl _ | refine And.intro ?_ ?_)
  · exact ⟨Nat.zero_le _, rfl⟩
  · rintro ⟨k, last⟩ ⟨hk, hc⟩
    dsimp only at hk hc
    repeat' (first | (with_reducible refine Sq.go ?_) | ((with_reducible refine Ev.mk ?_); conv => whnf) | (with_reducible refine Dr.mk ⟨by kernel_rfl, by kernel_rfl⟩ ?_) | ((with_reducible refine Ob.mk (by (first | exact rfl | omega | (intros; first | assumption | omega | (simp only [in64]; omega) | (simp only [decide_eq_true_eq, decide_eq_false_iff_not, Bool.and_eq_true, Bool.or_eq_true, Bool.not_eq_true', Bool.not_eq_false', Bool.and_eq_false_iff, Bool.or_eq_false_iff, Bool.cond_true_left, Bool.cond_false_right, Bool.cond_false_left, Bool.cond_true_right, Bool.not_true, Bool.not_false, Bool.true_eq_false, Bool.false_eq_true, Int.toNat_natCast, beq_iff_eq, bne_iff_ne, Int.not_le, Int.not_lt, Bool.and_true, Bool.true_and, Bool.or_false, Bool.false_or, Bool.and_false, Bool.false_and, Bool.or_true, Bool.true_or, not_or, not_and, in64, by3, by35, by43] at *; omega) | (simp_all; done)))) ?_)) | (with_reducible refine Ob.mk ?_ ?_) | ((with_reducible refine Br.mk (fun h => ?_) (fun h => ?_)) <;> (try simp only [decide_eq_true_eq, decide_eq_false_iff_not, Bool.and_eq_true, Bool.or_eq_true, Bool.not_eq_true', Bool.not_eq_false', Bool.and_eq_false_iff, Bool.or_eq_false_iff, Bool.cond_true_left, Bool.cond_false_right, Bool.cond_false_left, Bool.cond_true_right, Bool.not_true, Bool.not_false, Bool.true_eq_false, Bool.false_eq_true, Int.toNat_natCast, beq_iff_eq, bne_iff_ne, Int.not_le, Int.not_lt, Bool.and_true, Bool.true_and, Bool.or_false, Bool.false_or, Bool.and_false, Bool.false_and, Bool.or_true, Bool.true_or, not_or, not_and] at h) <;> (try (simp only [not_true_eq_false, or_self, eq_self, not_false_eq_true, Int.reduceEq, reduceCtorEq] at h; done))))
    · rw [drop_at (by omega)] at hc
      refine ⟨congrArg (D.int .i64) ?_, True.intro⟩
      rw [hc, chk, if_pos (by omega)]
    · rw [drop_at (by omega)] at hc
      refine ⟨(k + 1, (xs.getD k default).to), ⟨by show k + 1 ≤ xs.length; omega, ?_⟩, by show xs.length - (k + 1) < xs.length - k; omega, ?_⟩
      · rw [hc, chk, if_neg (by omega)]
      · repeat' (first | exact True.intro | exact rfl | exact Nat.le_refl _ | refine And.intro ?_ ?_)
    · refine ⟨congrArg (D.int .i64) ?_, True.intro⟩
      have : k = xs.length := by omega
      rw [hc]
      simp [this, chk]

theorem isSpan_ok (s : Span) : Pure Try.prog 26 [.agg (eSpan s)] [.bool (decide (0 ≤ s.fr) && decide (s.fr < s.to) && decide (s.to ≤ 1024))] := by
  refine pure_rule hT (T := tab) (N := 18) (rs := [.tmp 2]) Try.func26 rfl rfl rfl (by kernel_rfl) rfl ?_
  repeat' (first | (with_reducible refine Sq.go ?_) | ((with_reducible refine Ev.mk ?_); conv => whnf) | (with_reducible refine Dr.mk ⟨by kernel_rfl, by kernel_rfl⟩ ?_) | ((with_reducible refine Ob.mk (by (first | exact rfl | omega | (intros; first | assumption | omega | (simp only [in64]; omega) | (simp only [decide_eq_true_eq, decide_eq_false_iff_not, Bool.and_eq_true, Bool.or_eq_true, Bool.not_eq_true', Bool.not_eq_false', Bool.and_eq_false_iff, Bool.or_eq_false_iff, Bool.cond_true_left, Bool.cond_false_right, Bool.cond_false_left, Bool.cond_true_right, Bool.not_true, Bool.not_false, Bool.true_eq_false, Bool.false_eq_true, Int.toNat_natCast, beq_iff_eq, bne_iff_ne, Int.not_le, Int.not_lt, Bool.and_true, Bool.true_and, Bool.or_false, Bool.false_or, Bool.and_false, Bool.false_and, Bool.or_true, Bool.true_or, not_or, not_and, in64, by3, by35, by43] at *; omega) | (simp_all; done)))) ?_)) | (with_reducible refine Ob.mk ?_ ?_) | ((with_reducible refine Br.mk (fun h => ?_) (fun h => ?_)) <;> (try simp only [decide_eq_true_eq, decide_eq_false_iff_not, Bool.and_eq_true, Bool.or_eq_true, Bool.not_eq_true', Bool.not_eq_false', Bool.and_eq_false_iff, Bool.or_eq_false_iff, Bool.cond_true_left, Bool.cond_false_right, Bool.cond_false_left, Bool.cond_true_right, Bool.not_true, Bool.not_false, Bool.true_eq_false, Bool.false_eq_true, Int.toNat_natCast, beq_iff_eq, bne_iff_ne, Int.not_le, Int.not_lt, Bool.and_true, Bool.true_and, Bool.or_false, Bool.false_or, Bool.and_false, Bool.false_and, Bool.or_true, Bool.true_or, not_or, not_and] at h) <;> (try (simp only [not_true_eq_false, or_self, eq_self, not_false_eq_true, Int.reduceEq, reduceCtorEq] at h; done))))
  refine ⟨congrArg D.bool ?_, True.intro⟩
  simp only [decide_eq_true_eq, decide_eq_false_iff_not, Bool.and_eq_true, Bool.or_eq_true, Bool.not_eq_true', Bool.not_eq_false', Bool.and_eq_false_iff, Bool.or_eq_false_iff, Bool.cond_true_left, Bool.cond_false_right, Bool.cond_false_left, Bool.cond_true_right, Bool.not_true, Bool.not_false, Bool.true_eq_false, Bool.false_eq_true, Int.toNat_natCast, beq_iff_eq, bne_iff_ne, Int.not_le, Int.not_lt, Bool.and_true, Bool.true_and, Bool.or_false, Bool.false_or, Bool.and_false, Bool.false_and, Bool.or_true, Bool.true_or, not_or, not_and]

theorem rcheck_ok (xs : List Span) (hx : xs.length ≤ 1000000) : Pure Try.prog 15 [eSpans xs] [.int .i64 (chk (-1) xs)] := by
  refine pure_rule hT (T := tab) (N := 34) (rs := [.tmp 2]) Try.func15 rfl rfl rfl (by kernel_rfl) rfl ?_
  repeat' (first | (with_reducible refine Sq.go ?_) | ((with_reducible refine Ev.mk ?_); conv => whnf) | (with_reducible refine Dr.mk ⟨by kernel_rfl, by kernel_rfl⟩ ?_) | ((with_reducible refine Ob.mk (by (first | exact rfl | omega | (intros; first | assumption | omega | (simp only [in64]; omega) | (simp only [decide_eq_true_eq, decide_eq_false_iff_not, Bool.and_eq_true, Bool.or_eq_true, Bool.not_eq_true', Bool.not_eq_false', Bool.and_eq_false_iff, Bool.or_eq_false_iff, Bool.cond_true_left, Bool.cond_false_right, Bool.cond_false_left, Bool.cond_true_right, Bool.not_true, Bool.not_false, Bool.true_eq_false, Bool.false_eq_true, Int.toNat_natCast, beq_iff_eq, bne_iff_ne, Int.not_le, Int.not_lt, Bool.and_true, Bool.true_and, Bool.or_false, Bool.false_or, Bool.and_false, Bool.false_and, Bool.or_true, Bool.true_or, not_or, not_and, in64, by3, by35, by43] at *; omega) | (simp_all; done)))) ?_)) | (with_reducible refine Ob.mk ?_ ?_) | ((with_reducible refine Br.mk (fun h => ?_) (fun h => ?_)) <;> (try simp only [decide_eq_true_eq, decide_eq_false_iff_not, Bool.and_eq_true, Bool.or_eq_true, Bool.not_eq_true', Bool.not_eq_false', Bool.and_eq_false_iff, Bool.or_eq_false_iff, Bool.cond_true_left, Bool.cond_false_right, Bool.cond_false_left, Bool.cond_true_right, Bool.not_true, Bool.not_false, Bool.true_eq_false, Bool.false_eq_true, Int.toNat_natCast, beq_iff_eq, bne_iff_ne, Int.not_le, Int.not_lt, Bool.and_true, Bool.true_and, Bool.or_false, Bool.false_or, Bool.and_false, Bool.false_and, Bool.or_true, Bool.true_or, not_or, not_and] at h) <;> (try (simp only [not_true_eq_false, or_self, eq_self, not_false_eq_true, Int.reduceEq, reduceCtorEq] at h; done))))
  refine loop_rule hT (S := Nat) (fun k => ([(0, .d (eSpans xs)), (2, .d (.int .i64 0)), (3, .d (.int .i64 k))], ⟨[], []⟩)) (fun k => k ≤ xs.length ∧ chk (-1) xs = chk (if k = 0 then -1 else (xs.getD (k - 1) default).to) (xs.drop k)) (fun k => xs.length - k) 0 ?_ ?_ ?_
  · repeat' (first | exact True.intro | exact rfl | exact Nat.le_refl _ | refine And.intro ?_ ?_)
  · exact ⟨Nat.zero_le _, rfl⟩
  · rintro k ⟨hk, hc⟩
    repeat' (first | (with_reducible refine Sq.go ?_) | ((with_reducible refine Ev.mk ?_); conv => whnf) | (with_reducible refine Dr.mk ⟨by kernel_rfl, by kernel_rfl⟩ ?_) | ((with_reducible refine Ob.mk (by (first | exact rfl | omega | (intros; first | assumption | omega | (simp only [in64]; omega) | (simp only [decide_eq_true_eq, decide_eq_false_iff_not, Bool.and_eq_true, Bool.or_eq_true, Bool.not_eq_true', Bool.not_eq_false', Bool.and_eq_false_iff, Bool.or_eq_false_iff, Bool.cond_true_left, Bool.cond_false_right, Bool.cond_false_left, Bool.cond_true_right, Bool.not_true, Bool.not_false, Bool.true_eq_false, Bool.false_eq_true, Int.toNat_natCast, beq_iff_eq, bne_iff_ne, Int.not_le, Int.not_lt, Bool.and_true, Bool.true_and, Bool.or_false, Bool.false_or, Bool.and_false, Bool.false_and, Bool.or_true, Bool.true_or, not_or, not_and, in64, by3, by35, by43] at *; omega) | (simp_all; done)))) ?_)) | (with_reducible refine Ob.mk ?_ ?_) | ((with_reducible refine Br.mk (fun h => ?_) (fun h => ?_)) <;> (try simp only [decide_eq_true_eq, decide_eq_false_iff_not, Bool.and_eq_true, Bool.or_eq_true, Bool.not_eq_true', Bool.not_eq_false', Bool.and_eq_false_iff, Bool.or_eq_false_iff, Bool.cond_true_left, Bool.cond_false_right, Bool.cond_false_left, Bool.cond_true_right, Bool.not_true, Bool.not_false, Bool.true_eq_false, Bool.false_eq_true, Int.toNat_natCast, beq_iff_eq, bne_iff_ne, Int.not_le, Int.not_lt, Bool.and_true, Bool.true_and, Bool.or_false, Bool.false_or, Bool.and_false, Bool.false_and, Bool.or_true, Bool.true_or, not_or, not_and] at h) <;> (try (simp only [not_true_eq_false, or_self, eq_self, not_false_eq_true, Int.reduceEq, reduceCtorEq] at h; done))))
    · refine ⟨_, [], [], [.agg (eSpan (xs.getD k default))], _, rfl, rfl, isSpan_ok _, rfl, ?_⟩
      repeat' (first | (with_reducible refine Sq.go ?_) | ((with_reducible refine Ev.mk ?_); conv => whnf) | (with_reducible refine Dr.mk ⟨by kernel_rfl, by kernel_rfl⟩ ?_) | ((with_reducible refine Ob.mk (by (first | exact rfl | omega | (intros; first | assumption | omega | (simp only [in64]; omega) | (simp only [decide_eq_true_eq, decide_eq_false_iff_not, Bool.and_eq_true, Bool.or_eq_true, Bool.not_eq_true', Bool.not_eq_false', Bool.and_eq_false_iff, Bool.or_eq_false_iff, Bool.cond_true_left, Bool.cond_false_right, Bool.cond_false_left, Bool.cond_true_right, Bool.not_true, Bool.not_false, Bool.true_eq_false, Bool.false_eq_true, Int.toNat_natCast, beq_iff_eq, bne_iff_ne, Int.not_le, Int.not_lt, Bool.and_true, Bool.true_and, Bool.or_false, Bool.false_or, Bool.and_false, Bool.false_and, Bool.or_true, Bool.true_or, not_or, not_and, in64, by3, by35, by43] at *; omega) | (simp_all; done)))) ?_)) | (with_reducible refine Ob.mk ?_ ?_) | ((with_reducible refine Br.mk (fun h => ?_) (fun h => ?_)) <;> (try simp only [decide_eq_true_eq, decide_eq_false_iff_not, Bool.and_eq_true, Bool.or_eq_true, Bool.not_eq_true', Bool.not_eq_false', Bool.and_eq_false_iff, Bool.or_eq_false_iff, Bool.cond_true_left, Bool.cond_false_right, Bool.cond_false_left, Bool.cond_true_right, Bool.not_true, Bool.not_false, Bool.true_eq_false, Bool.false_eq_true, Int.toNat_natCast, beq_iff_eq, bne_iff_ne, Int.not_le, Int.not_lt, Bool.and_true, Bool.true_and, Bool.or_false, Bool.false_or, Bool.and_false, Bool.false_and, Bool.or_true, Bool.true_or, not_or, not_and] at h) <;> (try (simp only [not_true_eq_false, or_self, eq_self, not_false_eq_true, Int.reduceEq, reduceCtorEq] at h; done))))
      · refine ⟨congrArg (D.int .i64) ?_, True.intro⟩
        rw [hc, drop_at (by omega), chk, if_pos]
        rw [toNat_pred] at h
        by_cases hk0 : k = 0
        · simp only [hk0, if_true] at h ⊢
          omega
        · simp only [hk0, if_false]
          omega
      · refine ⟨k + 1, ⟨by show k + 1 ≤ xs.length; omega, ?_⟩, by show xs.length - (k + 1) < xs.length - k; omega, ?_⟩
        · rw [hc, drop_at (by omega), chk, if_neg]
          · simp
          rw [toNat_pred] at h
          by_cases hk0 : k = 0
          · simp only [hk0, if_true] at h ⊢
            omega
          · simp only [hk0, if_false]
            omega
        · repeat' (first | exact True.intro | exact rfl | exact Nat.le_refl _ | refine And.intro ?_ ?_)
    · refine ⟨congrArg (D.int .i64) ?_, True.intro⟩
      have : k = xs.length := by omega
      rw [hc]
      simp [this, chk]

theorem has_ok (xs : List Span) (hx : xs.length ≤ 1000000) (t : Int) : Pure Try.prog 17 [eSpans xs, .int .i64 t] [.bool (has xs t)] := by
  refine pure_rule hT (T := tab) (N := 28) (rs := [.tmp 4]) Try.func17 rfl rfl rfl (by kernel_rfl) rfl ?_
  repeat' (first | (with_reducible refine Sq.go ?_) | ((with_reducible refine Ev.mk ?_); conv => whnf) | (with_reducible refine Dr.mk ⟨by kernel_rfl, by kernel_rfl⟩ ?_) | ((with_reducible refine Ob.mk (by (first | exact rfl | omega | (intros; first | assumption | omega | (simp only [in64]; omega) | (simp only [decide_eq_true_eq, decide_eq_false_iff_not, Bool.and_eq_true, Bool.or_eq_true, Bool.not_eq_true', Bool.not_eq_false', Bool.and_eq_false_iff, Bool.or_eq_false_iff, Bool.cond_true_left, Bool.cond_false_right, Bool.cond_false_left, Bool.cond_true_right, Bool.not_true, Bool.not_false, Bool.true_eq_false, Bool.false_eq_true, Int.toNat_natCast, beq_iff_eq, bne_iff_ne, Int.not_le, Int.not_lt, Bool.and_true, Bool.true_and, Bool.or_false, Bool.false_or, Bool.and_false, Bool.false_and, Bool.or_true, Bool.true_or, not_or, not_and, in64, by3, by35, by43] at *; omega) | (simp_all; done)))) ?_)) | (with_reducible refine Ob.mk ?_ ?_) | ((with_reducible refine Br.mk (fun h => ?_) (fun h => ?_)) <;> (try simp only [decide_eq_true_eq, decide_eq_false_iff_not, Bool.and_eq_true, Bool.or_eq_true, Bool.not_eq_true', Bool.not_eq_false', Bool.and_eq_false_iff, Bool.or_eq_false_iff, Bool.cond_true_left, Bool.cond_false_right, Bool.cond_false_left, Bool.cond_true_right, Bool.not_true, Bool.not_false, Bool.true_eq_false, Bool.false_eq_true, Int.toNat_natCast, beq_iff_eq, bne_iff_ne, Int.not_le, Int.not_lt, Bool.and_true, Bool.true_and, Bool.or_false, Bool.false_or, Bool.and_false, Bool.false_and, Bool.or_true, Bool.true_or, not_or, not_and] at h) <;> (try (simp only [not_true_eq_false, or_self, eq_self, not_false_eq_true, Int.reduceEq, reduceCtorEq] at h; done))))
  refine loop_rule hT (S := Nat) (fun k => ([(0, .d (eSpans xs)), (1, .d (.int .i64 t)), (4, .d (.bool false)), (5, .d (.int .i64 k))], ⟨[], []⟩)) (fun k => k ≤ xs.length ∧ has xs t = has (xs.drop k) t) (fun k => xs.length - k) 0 ?_ ?_ ?_
  · repeat' (first | exact True.intro | exact rfl | exact Nat.le_refl _ | refine And.intro ?_ ?_)
  · exact ⟨Nat.zero_le _, rfl⟩
  · rintro k ⟨hk, hc⟩
    repeat' (first | (with_reducible refine Sq.go ?_) | ((with_reducible refine Ev.mk ?_); conv => whnf) | (with_reducible refine Dr.mk ⟨by kernel_rfl, by kernel_rfl⟩ ?_) | ((with_reducible refine Ob.mk (by (first | exact rfl | omega | (intros; first | assumption | omega | (simp only [in64]; omega) | (simp only [decide_eq_true_eq, decide_eq_false_iff_not, Bool.and_eq_true, Bool.or_eq_true, Bool.not_eq_true', Bool.not_eq_false', Bool.and_eq_false_iff, Bool.or_eq_false_iff, Bool.cond_true_left, Bool.cond_false_right, Bool.cond_false_left, Bool.cond_true_right, Bool.not_true, Bool.not_false, Bool.true_eq_false, Bool.false_eq_true, Int.toNat_natCast, beq_iff_eq, bne_iff_ne, Int.not_le, Int.not_lt, Bool.and_true, Bool.true_and, Bool.or_false, Bool.false_or, Bool.and_false, Bool.false_and, Bool.or_true, Bool.true_or, not_or, not_and, in64, by3, by35, by43] at *; omega) | (simp_all; done)))) ?_)) | (with_reducible refine Ob.mk ?_ ?_) | ((with_reducible refine Br.mk (fun h => ?_) (fun h => ?_)) <;> (try simp only [decide_eq_true_eq, decide_eq_false_iff_not, Bool.and_eq_true, Bool.or_eq_true, Bool.not_eq_true', Bool.not_eq_false', Bool.and_eq_false_iff, Bool.or_eq_false_iff, Bool.cond_true_left, Bool.cond_false_right, Bool.cond_false_left, Bool.cond_true_right, Bool.not_true, Bool.not_false, Bool.true_eq_false, Bool.false_eq_true, Int.toNat_natCast, beq_iff_eq, bne_iff_ne, Int.not_le, Int.not_lt, Bool.and_true, Bool.true_and, Bool.or_false, Bool.false_or, Bool.and_false, Bool.false_and, Bool.or_true, Bool.true_or, not_or, not_and] at h) <;> (try (simp only [not_true_eq_false, or_self, eq_self, not_false_eq_true, Int.reduceEq, reduceCtorEq] at h; done))))
    · refine ⟨congrArg D.bool ?_, True.intro⟩
      rw [hc, drop_at (by omega), has_cons, decide_eq_true h.1, decide_eq_true h.2]
      rfl
    · refine ⟨k + 1, ⟨by show k + 1 ≤ xs.length; omega, ?_⟩, by show xs.length - (k + 1) < xs.length - k; omega, ?_⟩
      · rw [hc, drop_at (by omega), has_cons]
        have : (decide ((xs.getD k default).fr ≤ t) && decide (t < (xs.getD k default).to)) = false := by
          simp only [decide_eq_true_eq, decide_eq_false_iff_not, Bool.and_eq_true, Bool.or_eq_true, Bool.not_eq_true', Bool.not_eq_false', Bool.and_eq_false_iff, Bool.or_eq_false_iff, Bool.cond_true_left, Bool.cond_false_right, Bool.cond_false_left, Bool.cond_true_right, Bool.not_true, Bool.not_false, Bool.true_eq_false, Bool.false_eq_true, Int.toNat_natCast, beq_iff_eq, bne_iff_ne, Int.not_le, Int.not_lt, Bool.and_true, Bool.true_and, Bool.or_false, Bool.false_or, Bool.and_false, Bool.false_and, Bool.or_true, Bool.true_or, not_or, not_and]
          omega
        rw [this, Bool.false_or]
      · repeat' (first | exact True.intro | exact rfl | exact Nat.le_refl _ | refine And.intro ?_ ?_)
    · refine ⟨congrArg D.bool ?_, True.intro⟩
      have : k = xs.length := by omega
      rw [hc]
      simp [this, has]

theorem few_ok (xs : List Span) : Pure Try.prog 11 [eSpans xs] [.bool (decide ((xs.length : Int) ≤ 40))] := by
  refine pure_rule hT (T := tab) (N := 6) (rs := [.tmp 2]) Try.func11 rfl rfl rfl (by kernel_rfl) rfl ?_
  repeat' (first | (with_reducible refine Sq.go ?_) | ((with_reducible refine Ev.mk ?_); conv => whnf) | (with_reducible refine Dr.mk ⟨by kernel_rfl, by kernel_rfl⟩ ?_) | ((with_reducible refine Ob.mk (by (first | exact rfl | omega | (intros; first | assumption | omega | (simp only [in64]; omega) | (simp only [decide_eq_true_eq, decide_eq_false_iff_not, Bool.and_eq_true, Bool.or_eq_true, Bool.not_eq_true', Bool.not_eq_false', Bool.and_eq_false_iff, Bool.or_eq_false_iff, Bool.cond_true_left, Bool.cond_false_right, Bool.cond_false_left, Bool.cond_true_right, Bool.not_true, Bool.not_false, Bool.true_eq_false, Bool.false_eq_true, Int.toNat_natCast, beq_iff_eq, bne_iff_ne, Int.not_le, Int.not_lt, Bool.and_true, Bool.true_and, Bool.or_false, Bool.false_or, Bool.and_false, Bool.false_and, Bool.or_true, Bool.true_or, not_or, not_and, in64, by3, by35, by43] at *; omega) | (simp_all; done)))) ?_)) | (with_reducible refine Ob.mk ?_ ?_) | ((with_reducible refine Br.mk (fun h => ?_) (fun h => ?_)) <;> (try simp only [decide_eq_true_eq, decide_eq_false_iff_not, Bool.and_eq_true, Bool.or_eq_true, Bool.not_eq_true', Bool.not_eq_false', Bool.and_eq_false_iff, Bool.or_eq_false_iff, Bool.cond_true_left, Bool.cond_false_right, Bool.cond_false_left, Bool.cond_true_right, Bool.not_true, Bool.not_false, Bool.true_eq_false, Bool.false_eq_true, Int.toNat_natCast, beq_iff_eq, bne_iff_ne, Int.not_le, Int.not_lt, Bool.and_true, Bool.true_and, Bool.or_false, Bool.false_or, Bool.and_false, Bool.false_and, Bool.or_true, Bool.true_or, not_or, not_and] at h) <;> (try (simp only [not_true_eq_false, or_self, eq_self, not_false_eq_true, Int.reduceEq, reduceCtorEq] at h; done))))
  refine ⟨congrArg D.bool ?_, True.intro⟩
  rfl
theorem chk_hd {xs : List Span} {last : Int} {k : Nat} (h : chk last xs = 0) (hk : k < xs.length) : 0 ≤ (xs.getD k default).fr ∧ (xs.getD k default).fr < (xs.getD k default).to ∧ (xs.getD k default).to ≤ 1024 := chk_at h _ (getD_mem hk)
theorem cnt_drop : ∀ (xs : List Span) (k : Nat), cnt xs = cnt (xs.take k) + cnt (xs.drop k)
  | [], k => by simp [cnt]
  | x :: r, 0 => by simp [cnt]
  | x :: r, k + 1 => by simp only [List.take_succ_cons, List.drop_succ_cons, cnt]; rw [cnt_drop r k]; omega
theorem cnt_take_le {xs : List Span} (h : chk (-1) xs = 0) (k : Nat) : 0 ≤ cnt (xs.take k) ∧ cnt (xs.take k) ≤ 1024 * xs.length := by
  have := cnt_le (xs := xs.take k) fun s hs => chk_at h s (List.mem_of_mem_take hs)
  have h2 : (xs.take k).length ≤ xs.length := by rw [List.length_take]; omega
  omega
theorem cnt_take_succ {xs : List Span} {k : Nat} (hk : k < xs.length) : cnt (xs.take (k + 1)) = cnt (xs.take k) + ((xs.getD k default).to - (xs.getD k default).fr) := by
  have h1 := cnt_drop xs k
  have h2 := cnt_drop xs (k + 1)
  rw [drop_at hk, cnt] at h1
  omega

/-- What Count answers. -/
def cntOr (xs : List Span) : Int := if chk (-1) xs = 0 then cnt xs else 0

theorem rcount_ok (xs : List Span) (hx : xs.length ≤ 1000000) : Pure Try.prog 13 [eSpans xs] [.int .i64 (cntOr xs), .int .i64 (chk (-1) xs)] := by
  refine pure_rule hT (T := tab) (N := 32) (rs := [.tmp 2, .tmp 3]) Try.func13 rfl rfl rfl (by kernel_rfl) rfl ?_
  repeat' (first | (with_reducible refine Sq.go ?_) | ((with_reducible refine Ev.mk ?_); conv => whnf) | (with_reducible refine Dr.mk ⟨by kernel_rfl, by kernel_rfl⟩ ?_) | ((with_reducible refine Ob.mk (by (first | exact rfl | omega | (intros; first | assumption | omega | (simp only [in64]; omega) | (simp only [decide_eq_true_eq, decide_eq_false_iff_not, Bool.and_eq_true, Bool.or_eq_true, Bool.not_eq_true', Bool.not_eq_false', Bool.and_eq_false_iff, Bool.or_eq_false_iff, Bool.cond_true_left, Bool.cond_false_right, Bool.cond_false_left, Bool.cond_true_right, Bool.not_true, Bool.not_false, Bool.true_eq_false, Bool.false_eq_true, Int.toNat_natCast, beq_iff_eq, bne_iff_ne, Int.not_le, Int.not_lt, Bool.and_true, Bool.true_and, Bool.or_false, Bool.false_or, Bool.and_false, Bool.false_and, Bool.or_true, Bool.true_or, not_or, not_and, in64, by3, by35, by43] at *; omega) | (simp_all; done)))) ?_)) | (with_reducible refine Ob.mk ?_ ?_) | ((with_reducible refine Br.mk (fun h => ?_) (fun h => ?_)) <;> (try simp only [decide_eq_true_eq, decide_eq_false_iff_not, Bool.and_eq_true, Bool.or_eq_true, Bool.not_eq_true', Bool.not_eq_false', Bool.and_eq_false_iff, Bool.or_eq_false_iff, Bool.cond_true_left, Bool.cond_false_right, Bool.cond_false_left, Bool.cond_true_right, Bool.not_true, Bool.not_false, Bool.true_eq_false, Bool.false_eq_true, Int.toNat_natCast, beq_iff_eq, bne_iff_ne, Int.not_le, Int.not_lt, Bool.and_true, Bool.true_and, Bool.or_false, Bool.false_or, Bool.and_false, Bool.false_and, Bool.or_true, Bool.true_or, not_or, not_and] at h) <;> (try (simp only [not_true_eq_false, or_self, eq_self, not_false_eq_true, Int.reduceEq, reduceCtorEq] at h; done))))
  refine (rcheck_ok xs hx).call ?_
  repeat' (first | (with_reducible refine Sq.go ?_) | ((with_reducible refine Ev.mk ?_); conv => whnf) | (with_reducible refine Dr.mk ⟨by kernel_rfl, by kernel_rfl⟩ ?_) | ((with_reducible refine Ob.mk (by (first | exact rfl | omega | (intros; first | assumption | omega | (simp only [in64]; omega) | (simp only [decide_eq_true_eq, decide_eq_false_iff_not, Bool.and_eq_true, Bool.or_eq_true, Bool.not_eq_true', Bool.not_eq_false', Bool.and_eq_false_iff, Bool.or_eq_false_iff, Bool.cond_true_left, Bool.cond_false_right, Bool.cond_false_left, Bool.cond_true_right, Bool.not_true, Bool.not_false, Bool.true_eq_false, Bool.false_eq_true, Int.toNat_natCast, beq_iff_eq, bne_iff_ne, Int.not_le, Int.not_lt, Bool.and_true, Bool.true_and, Bool.or_false, Bool.false_or, Bool.and_false, Bool.false_and, Bool.or_true, Bool.true_or, not_or, not_and, in64, by3, by35, by43] at *; omega) | (simp_all; done)))) ?_)) | (with_reducible refine Ob.mk ?_ ?_) | ((with_reducible refine Br.mk (fun h => ?_) (fun h => ?_)) <;> (try simp only [decide_eq_true_eq, decide_eq_false_iff_not, Bool.and_eq_true, Bool.or_eq_true, Bool.not_eq_true', Bool.not_eq_false', Bool.and_eq_false_iff, Bool.or_eq_false_iff, Bool.cond_true_left, Bool.cond_false_right, Bool.cond_false_left, Bool.cond_true_right, Bool.not_true, Bool.not_false, Bool.true_eq_false, Bool.false_eq_true, Int.toNat_natCast, beq_iff_eq, bne_iff_ne, Int.not_le, Int.not_lt, Bool.and_true, Bool.true_and, Bool.or_false, Bool.false_or, Bool.and_false, Bool.false_and, Bool.or_true, Bool.true_or, not_or, not_and] at h) <;> (try (simp only [not_true_eq_false, or_self, eq_self, not_false_eq_true, Int.reduceEq, reduceCtorEq] at h; done))))
  · refine ⟨congrArg (D.int .i64) ?_, congrArg (D.int .i64) ?_, True.intro⟩
    · rw [cntOr, if_neg h]
    · rfl
  · refine loop_rule hT (S := Nat) (fun k => ([(0, .d (eSpans xs)), (5, .d (.int .i64 (cnt (xs.take k)))), (6, .d (.int .i64 k))], ⟨[], []⟩)) (fun k => k ≤ xs.length) (fun k => xs.length - k) 0 ?_ ?_ ?_
    · repeat' (first | exact True.intro | exact rfl | exact Nat.le_refl _ | refine And.intro ?_ ?_)
    · exact Nat.zero_le _
    · intro k hk
      have hb := cnt_take_le h k
      have hs : k < xs.length → (0 ≤ (xs.getD k default).fr ∧ (xs.getD k default).fr < (xs.getD k default).to ∧ (xs.getD k default).to ≤ 1024) := fun hk => chk_hd h hk
      repeat' (first | (with_reducible refine Sq.go ?_) | ((with_reducible refine Ev.mk ?_); conv => whnf) | (with_reducible refine Dr.mk ⟨by kernel_rfl, by kernel_rfl⟩ ?_) | ((with_reducible refine Ob.mk (by (first | exact rfl | omega | (intros; first | assumption | omega | (simp only [in64]; omega) | (simp only [decide_eq_true_eq, decide_eq_false_iff_not, Bool.and_eq_true, Bool.or_eq_true, Bool.not_eq_true', Bool.not_eq_false', Bool.and_eq_false_iff, Bool.or_eq_false_iff, Bool.cond_true_left, Bool.cond_false_right, Bool.cond_false_left, Bool.cond_true_right, Bool.not_true, Bool.not_false, Bool.true_eq_false, Bool.false_eq_true, Int.toNat_natCast, beq_iff_eq, bne_iff_ne, Int.not_le, Int.not_lt, Bool.and_true, Bool.true_and, Bool.or_false, Bool.false_or, Bool.and_false, Bool.false_and, Bool.or_true, Bool.true_or, not_or, not_and, in64, by3, by35, by43] at *; omega) | (simp_all; done)))) ?_)) | (with_reducible refine Ob.mk ?_ ?_) | ((with_reducible refine Br.mk (fun h => ?_) (fun h => ?_)) <;> (try simp only [decide_eq_true_eq, decide_eq_false_iff_not, Bool.and_eq_true, Bool.or_eq_true, Bool.not_eq_true', Bool.not_eq_false', Bool.and_eq_false_iff, Bool.or_eq_false_iff, Bool.cond_true_left, Bool.cond_false_right, Bool.cond_false_left, Bool.cond_true_right, Bool.not_true, Bool.not_false, Bool.true_eq_false, Bool.false_eq_true, Int.toNat_natCast, beq_iff_eq, bne_iff_ne, Int.not_le, Int.not_lt, Bool.and_true, Bool.true_and, Bool.or_false, Bool.false_or, Bool.and_false, Bool.false_and, Bool.or_true, Bool.true_or, not_or, not_and] at h) <;> (try (simp only [not_true_eq_false, or_self, eq_self, not_false_eq_true, Int.reduceEq, reduceCtorEq] at h; done))))
      · refine ⟨k + 1, by show k + 1 ≤ xs.length; omega, by show xs.length - (k + 1) < xs.length - k; omega, ?_⟩
        repeat' (first | exact True.intro | exact rfl | exact Nat.le_refl _ | refine And.intro ?_ ?_)
        rw [cnt_take_succ (by omega)]
        simp only [Int.toNat_natCast]
        exact congrArg AV.d (congrArg (D.int .i64) (by omega))
      · have : k = xs.length := by omega
        refine ⟨congrArg (D.int .i64) ?_, congrArg (D.int .i64) ?_, True.intro⟩
        · rw [cntOr, if_pos (by assumption), this, List.take_length]
        · rw [(by assumption : chk (-1) xs = 0)]

theorem count_ok (xs : List Span) (hx : xs.length ≤ 1000000) : Pure Try.prog 12 [eSpans xs] [.int .i64 (cntOr xs), .int .i64 (chk (-1) xs)] := by
  refine pure_rule hT (T := tab) (N := 27) (rs := [.tmp 2, .tmp 3]) Try.func12 rfl rfl rfl (by kernel_rfl) rfl ?_
  repeat' (first | (with_reducible refine Sq.go ?_) | ((with_reducible refine Ev.mk ?_); conv => whnf) | (with_reducible refine Dr.mk ⟨by kernel_rfl, by kernel_rfl⟩ ?_) | ((with_reducible refine Ob.mk (by (first | exact rfl | omega | (intros; first | assumption | omega | (simp only [in64]; omega) | (simp only [decide_eq_true_eq, decide_eq_false_iff_not, Bool.and_eq_true, Bool.or_eq_true, Bool.not_eq_true', Bool.not_eq_false', Bool.and_eq_false_iff, Bool.or_eq_false_iff, Bool.cond_true_left, Bool.cond_false_right, Bool.cond_false_left, Bool.cond_true_right, Bool.not_true, Bool.not_false, Bool.true_eq_false, Bool.false_eq_true, Int.toNat_natCast, beq_iff_eq, bne_iff_ne, Int.not_le, Int.not_lt, Bool.and_true, Bool.true_and, Bool.or_false, Bool.false_or, Bool.and_false, Bool.false_and, Bool.or_true, Bool.true_or, not_or, not_and, in64, by3, by35, by43] at *; omega) | (simp_all; done)))) ?_)) | (with_reducible refine Ob.mk ?_ ?_) | ((with_reducible refine Br.mk (fun h => ?_) (fun h => ?_)) <;> (try simp only [decide_eq_true_eq, decide_eq_false_iff_not, Bool.and_eq_true, Bool.or_eq_true, Bool.not_eq_true', Bool.not_eq_false', Bool.and_eq_false_iff, Bool.or_eq_false_iff, Bool.cond_true_left, Bool.cond_false_right, Bool.cond_false_left, Bool.cond_true_right, Bool.not_true, Bool.not_false, Bool.true_eq_false, Bool.false_eq_true, Int.toNat_natCast, beq_iff_eq, bne_iff_ne, Int.not_le, Int.not_lt, Bool.and_true, Bool.true_and, Bool.or_false, Bool.false_or, Bool.and_false, Bool.false_and, Bool.or_true, Bool.true_or, not_or, not_and] at h) <;> (try (simp only [not_true_eq_false, or_self, eq_self, not_false_eq_true, Int.reduceEq, reduceCtorEq] at h; done))))
  refine (check_ok xs hx).call ?_
  repeat' (first | (with_reducible refine Sq.go ?_) | ((with_reducible refine Ev.mk ?_); conv => whnf) | (with_reducible refine Dr.mk ⟨by kernel_rfl, by kernel_rfl⟩ ?_) | ((with_reducible refine Ob.mk (by (first | exact rfl | omega | (intros; first | assumption | omega | (simp only [in64]; omega) | (simp only [decide_eq_true_eq, decide_eq_false_iff_not, Bool.and_eq_true, Bool.or_eq_true, Bool.not_eq_true', Bool.not_eq_false', Bool.and_eq_false_iff, Bool.or_eq_false_iff, Bool.cond_true_left, Bool.cond_false_right, Bool.cond_false_left, Bool.cond_true_right, Bool.not_true, Bool.not_false, Bool.true_eq_false, Bool.false_eq_true, Int.toNat_natCast, beq_iff_eq, bne_iff_ne, Int.not_le, Int.not_lt, Bool.and_true, Bool.true_and, Bool.or_false, Bool.false_or, Bool.and_false, Bool.false_and, Bool.or_true, Bool.true_or, not_or, not_and, in64, by3, by35, by43] at *; omega) | (simp_all; done)))) ?_)) | (with_reducible refine Ob.mk ?_ ?_) | ((with_reducible refine Br.mk (fun h => ?_) (fun h => ?_)) <;> (try simp only [decide_eq_true_eq, decide_eq_false_iff_not, Bool.and_eq_true, Bool.or_eq_true, Bool.not_eq_true', Bool.not_eq_false', Bool.and_eq_false_iff, Bool.or_eq_false_iff, Bool.cond_true_left, Bool.cond_false_right, Bool.cond_false_left, Bool.cond_true_right, Bool.not_true, Bool.not_false, Bool.true_eq_false, Bool.false_eq_true, Int.toNat_natCast, beq_iff_eq, bne_iff_ne, Int.not_le, Int.not_lt, Bool.and_true, Bool.true_and, Bool.or_false, Bool.false_or, Bool.and_false, Bool.false_and, Bool.or_true, Bool.true_or, not_or, not_and] at h) <;> (try (simp only [not_true_eq_false, or_self, eq_self, not_false_eq_true, Int.reduceEq, reduceCtorEq] at h; done))))
  · refine ⟨congrArg (D.int .i64) ?_, congrArg (D.int .i64) ?_, True.intro⟩
    · rw [cntOr, if_neg h]
    · rfl
  · refine loop_rule hT (S := Nat) (fun k => ([(0, .d (eSpans xs)), (2, .d (.int .i64 (cnt (xs.take k)))), (12, .d (eSpans xs)), (13, .d (.int .i64 xs.length)), (14, .d (.int .i64 k))], ⟨[], []⟩)) (fun k => k ≤ xs.length) (fun k => xs.length - k) 0 ?_ ?_ ?_
    · repeat' (first | exact True.intro | exact rfl | exact Nat.le_refl _ | refine And.intro ?_ ?_)
    · exact Nat.zero_le _
    · intro k hk
      have hb := cnt_take_le h k
      have hs : k < xs.length → (0 ≤ (xs.getD k default).fr ∧ (xs.getD k default).fr < (xs.getD k default).to ∧ (xs.getD k default).to ≤ 1024) := fun hk => chk_hd h hk
      repeat' (first | (with_reducible refine Sq.go ?_) | ((with_reducible refine Ev.mk ?_); conv => whnf) | (with_reducible refine Dr.mk ⟨by kernel_rfl, by kernel_rfl⟩ ?_) | ((with_reducible refine Ob.mk (by (first | exact rfl | omega | (intros; first | assumption | omega | (simp only [in64]; omega) | (simp only [decide_eq_true_eq, decide_eq_false_iff_not, Bool.and_eq_true, Bool.or_eq_true, Bool.not_eq_true', Bool.not_eq_false', Bool.and_eq_false_iff, Bool.or_eq_false_iff, Bool.cond_true_left, Bool.cond_false_right, Bool.cond_false_left, Bool.cond_true_right, Bool.not_true, Bool.not_false, Bool.true_eq_false, Bool.false_eq_true, Int.toNat_natCast, beq_iff_eq, bne_iff_ne, Int.not_le, Int.not_lt, Bool.and_true, Bool.true_and, Bool.or_false, Bool.false_or, Bool.and_false, Bool.false_and, Bool.or_true, Bool.true_or, not_or, not_and, in64, by3, by35, by43] at *; omega) | (simp_all; done)))) ?_)) | (with_reducible refine Ob.mk ?_ ?_) | ((with_reducible refine Br.mk (fun h => ?_) (fun h => ?_)) <;> (try simp only [decide_eq_true_eq, decide_eq_false_iff_not, Bool.and_eq_true, Bool.or_eq_true, Bool.not_eq_true', Bool.not_eq_false', Bool.and_eq_false_iff, Bool.or_eq_false_iff, Bool.cond_true_left, Bool.cond_false_right, Bool.cond_false_left, Bool.cond_true_right, Bool.not_true, Bool.not_false, Bool.true_eq_false, Bool.false_eq_true, Int.toNat_natCast, beq_iff_eq, bne_iff_ne, Int.not_le, Int.not_lt, Bool.and_true, Bool.true_and, Bool.or_false, Bool.false_or, Bool.and_false, Bool.false_and, Bool.or_true, Bool.true_or, not_or, not_and] at h) <;> (try (simp only [not_true_eq_false, or_self, eq_self, not_false_eq_true, Int.reduceEq, reduceCtorEq] at h; done))))
      · refine ⟨k + 1, by show k + 1 ≤ xs.length; omega, by show xs.length - (k + 1) < xs.length - k; omega, ?_⟩
        repeat' (first | exact True.intro | exact rfl | exact Nat.le_refl _ | refine And.intro ?_ ?_)
        rw [cnt_take_succ (by omega)]
        simp only [Int.toNat_natCast]
        exact congrArg AV.d (congrArg (D.int .i64) (by omega))
      · have : k = xs.length := by omega
        refine ⟨congrArg (D.int .i64) ?_, congrArg (D.int .i64) ?_, True.intro⟩
        · rw [cntOr, if_pos (by assumption), this, List.take_length]
        · rw [(by assumption : chk (-1) xs = 0)]

theorem same_ok (xs ys : List Span) (hx : xs.length ≤ 1000000) (hy : ys.length ≤ 1000000) : Pure Try.prog 25 [eSpans xs, eSpans ys] [.bool (decide (xs = ys))] := by
  refine pure_rule hT (T := tab) (N := 26) (rs := [.tmp 4]) Try.func25 rfl rfl rfl (by kernel_rfl) rfl ?_
  repeat' (first | (with_reducible refine Sq.go ?_) | ((with_reducible refine Ev.mk ?_); conv => whnf) | (with_reducible refine Dr.mk ⟨by kernel_rfl, by kernel_rfl⟩ ?_) | ((with_reducible refine Ob.mk (by (first | exact rfl | omega | (intros; first | assumption | omega | (simp only [in64]; omega) | (simp only [decide_eq_true_eq, decide_eq_false_iff_not, Bool.and_eq_true, Bool.or_eq_true, Bool.not_eq_true', Bool.not_eq_false', Bool.and_eq_false_iff, Bool.or_eq_false_iff, Bool.cond_true_left, Bool.cond_false_right, Bool.cond_false_left, Bool.cond_true_right, Bool.not_true, Bool.not_false, Bool.true_eq_false, Bool.false_eq_true, Int.toNat_natCast, beq_iff_eq, bne_iff_ne, Int.not_le, Int.not_lt, Bool.and_true, Bool.true_and, Bool.or_false, Bool.false_or, Bool.and_false, Bool.false_and, Bool.or_true, Bool.true_or, not_or, not_and, in64, by3, by35, by43] at *; omega) | (simp_all; done)))) ?_)) | (with_reducible refine Ob.mk ?_ ?_) | ((with_reducible refine Br.mk (fun h => ?_) (fun h => ?_)) <;> (try simp only [decide_eq_true_eq, decide_eq_false_iff_not, Bool.and_eq_true, Bool.or_eq_true, Bool.not_eq_true', Bool.not_eq_false', Bool.and_eq_false_iff, Bool.or_eq_false_iff, Bool.cond_true_left, Bool.cond_false_right, Bool.cond_false_left, Bool.cond_true_right, Bool.not_true, Bool.not_false, Bool.true_eq_false, Bool.false_eq_true, Int.toNat_natCast, beq_iff_eq, bne_iff_ne, Int.not_le, Int.not_lt, Bool.and_true, Bool.true_and, Bool.or_false, Bool.false_or, Bool.and_false, Bool.false_and, Bool.or_true, Bool.true_or, not_or, not_and] at h) <;> (try (simp only [not_true_eq_false, or_self, eq_self, not_false_eq_true, Int.reduceEq, reduceCtorEq] at h; done))))
  · refine ⟨congrArg D.bool ?_, True.intro⟩
    rw [decide_eq_false]
    intro e
    rw [e] at h
    omega
  · refine loop_rule hT (S := Nat) (fun k => ([(0, .d (eSpans xs)), (1, .d (eSpans ys)), (4, .d (.bool false)), (5, .d (.int .i64 k))], ⟨[], []⟩)) (fun k => k ≤ xs.length ∧ (xs = ys ↔ xs.drop k = ys.drop k)) (fun k => xs.length - k) 0 ?_ ?_ ?_
    · repeat' (first | exact True.intro | exact rfl | exact Nat.le_refl _ | refine And.intro ?_ ?_)
    · exact ⟨Nat.zero_le _, Iff.rfl⟩
    · rintro k ⟨hk, ht⟩
      repeat' (first | (with_reducible refine Sq.go ?_) | ((with_reducible refine Ev.mk ?_); conv => whnf) | (with_reducible refine Dr.mk ⟨by kernel_rfl, by kernel_rfl⟩ ?_) | ((with_reducible refine Ob.mk (by (first | exact rfl | omega | (intros; first | assumption | omega | (simp only [in64]; omega) | (simp only [decide_eq_true_eq, decide_eq_false_iff_not, Bool.and_eq_true, Bool.or_eq_true, Bool.not_eq_true', Bool.not_eq_false', Bool.and_eq_false_iff, Bool.or_eq_false_iff, Bool.cond_true_left, Bool.cond_false_right, Bool.cond_false_left, Bool.cond_true_right, Bool.not_true, Bool.not_false, Bool.true_eq_false, Bool.false_eq_true, Int.toNat_natCast, beq_iff_eq, bne_iff_ne, Int.not_le, Int.not_lt, Bool.and_true, Bool.true_and, Bool.or_false, Bool.false_or, Bool.and_false, Bool.false_and, Bool.or_true, Bool.true_or, not_or, not_and, in64, by3, by35, by43] at *; omega) | (simp_all; done)))) ?_)) | (with_reducible refine Ob.mk ?_ ?_) | ((with_reducible refine Br.mk (fun h => ?_) (fun h => ?_)) <;> (try simp only [decide_eq_true_eq, decide_eq_false_iff_not, Bool.and_eq_true, Bool.or_eq_true, Bool.not_eq_true', Bool.not_eq_false', Bool.and_eq_false_iff, Bool.or_eq_false_iff, Bool.cond_true_left, Bool.cond_false_right, Bool.cond_false_left, Bool.cond_true_right, Bool.not_true, Bool.not_false, Bool.true_eq_false, Bool.false_eq_true, Int.toNat_natCast, beq_iff_eq, bne_iff_ne, Int.not_le, Int.not_lt, Bool.and_true, Bool.true_and, Bool.or_false, Bool.false_or, Bool.and_false, Bool.false_and, Bool.or_true, Bool.true_or, not_or, not_and] at h) <;> (try (simp only [not_true_eq_false, or_self, eq_self, not_false_eq_true, Int.reduceEq, reduceCtorEq] at h; done))))
      · refine ⟨congrArg D.bool ?_, True.intro⟩
        rw [decide_eq_false]
        rw [ht, drop_at (xs := xs) (k := k) (by omega), drop_at (xs := ys) (k := k) (by omega)]
        intro e
        injection e with e1 e2
        rw [e1] at h
        simp at h
      · refine ⟨k + 1, ⟨by show k + 1 ≤ xs.length; omega, ?_⟩, by show xs.length - (k + 1) < xs.length - k; omega, ?_⟩
        · rw [ht, drop_at (xs := xs) (k := k) (by omega), drop_at (xs := ys) (k := k) (by omega)]
          constructor
          · intro e
            injection e
          · intro e
            rw [e, span_ext h.1 h.2]
        · repeat' (first | exact True.intro | exact rfl | exact Nat.le_refl _ | refine And.intro ?_ ?_)
      · refine ⟨congrArg D.bool ?_, True.intro⟩
        rw [decide_eq_true]
        rw [ht]
        rw [List.drop_eq_nil_of_le (by omega), List.drop_eq_nil_of_le (by omega)]

theorem fewlaw_ok (xs ys : List Span) : Pure Try.prog 18 [eSpans xs, eSpans ys] [.bool (decide ((xs.length : Int) ≤ 40) && decide ((ys.length : Int) ≤ 40))] := by
  refine pure_rule hT (T := tab) (N := 11) (rs := [.tmp 4]) Try.func18 rfl rfl rfl (by kernel_rfl) rfl ?_
  repeat' (first | (with_reducible refine Sq.go ?_) | ((with_reducible refine Ev.mk ?_); conv => whnf) | (with_reducible refine Dr.mk ⟨by kernel_rfl, by kernel_rfl⟩ ?_) | ((with_reducible refine Ob.mk (by (first | exact rfl | omega | (intros; first | assumption | omega | (simp only [in64]; omega) | (simp only [decide_eq_true_eq, decide_eq_false_iff_not, Bool.and_eq_true, Bool.or_eq_true, Bool.not_eq_true', Bool.not_eq_false', Bool.and_eq_false_iff, Bool.or_eq_false_iff, Bool.cond_true_left, Bool.cond_false_right, Bool.cond_false_left, Bool.cond_true_right, Bool.not_true, Bool.not_false, Bool.true_eq_false, Bool.false_eq_true, Int.toNat_natCast, beq_iff_eq, bne_iff_ne, Int.not_le, Int.not_lt, Bool.and_true, Bool.true_and, Bool.or_false, Bool.false_or, Bool.and_false, Bool.false_and, Bool.or_true, Bool.true_or, not_or, not_and, in64, by3, by35, by43] at *; omega) | (simp_all; done)))) ?_)) | (with_reducible refine Ob.mk ?_ ?_) | ((with_reducible refine Br.mk (fun h => ?_) (fun h => ?_)) <;> (try simp only [decide_eq_true_eq, decide_eq_false_iff_not, Bool.and_eq_true, Bool.or_eq_true, Bool.not_eq_true', Bool.not_eq_false', Bool.and_eq_false_iff, Bool.or_eq_false_iff, Bool.cond_true_left, Bool.cond_false_right, Bool.cond_false_left, Bool.cond_true_right, Bool.not_true, Bool.not_false, Bool.true_eq_false, Bool.false_eq_true, Int.toNat_natCast, beq_iff_eq, bne_iff_ne, Int.not_le, Int.not_lt, Bool.and_true, Bool.true_and, Bool.or_false, Bool.false_or, Bool.and_false, Bool.false_and, Bool.or_true, Bool.true_or, not_or, not_and] at h) <;> (try (simp only [not_true_eq_false, or_self, eq_self, not_false_eq_true, Int.reduceEq, reduceCtorEq] at h; done))))
  refine (few_ok xs).call ?_
  repeat' (first | (with_reducible refine Sq.go ?_) | ((with_reducible refine Ev.mk ?_); conv => whnf) | (with_reducible refine Dr.mk ⟨by kernel_rfl, by kernel_rfl⟩ ?_) | ((with_reducible refine Ob.mk (by (first | exact rfl | omega | (intros; first | assumption | omega | (simp only [in64]; omega) | (simp only [decide_eq_true_eq, decide_eq_false_iff_not, Bool.and_eq_true, Bool.or_eq_true, Bool.not_eq_true', Bool.not_eq_false', Bool.and_eq_false_iff, Bool.or_eq_false_iff, Bool.cond_true_left, Bool.cond_false_right, Bool.cond_false_left, Bool.cond_true_right, Bool.not_true, Bool.not_false, Bool.true_eq_false, Bool.false_eq_true, Int.toNat_natCast, beq_iff_eq, bne_iff_ne, Int.not_le, Int.not_lt, Bool.and_true, Bool.true_and, Bool.or_false, Bool.false_or, Bool.and_false, Bool.false_and, Bool.or_true, Bool.true_or, not_or, not_and, in64, by3, by35, by43] at *; omega) | (simp_all; done)))) ?_)) | (with_reducible refine Ob.mk ?_ ?_) | ((with_reducible refine Br.mk (fun h => ?_) (fun h => ?_)) <;> (try simp only [decide_eq_true_eq, decide_eq_false_iff_not, Bool.and_eq_true, Bool.or_eq_true, Bool.not_eq_true', Bool.not_eq_false', Bool.and_eq_false_iff, Bool.or_eq_false_iff, Bool.cond_true_left, Bool.cond_false_right, Bool.cond_false_left, Bool.cond_true_right, Bool.not_true, Bool.not_false, Bool.true_eq_false, Bool.false_eq_true, Int.toNat_natCast, beq_iff_eq, bne_iff_ne, Int.not_le, Int.not_lt, Bool.and_true, Bool.true_and, Bool.or_false, Bool.false_or, Bool.and_false, Bool.false_and, Bool.or_true, Bool.true_or, not_or, not_and] at h) <;> (try (simp only [not_true_eq_false, or_self, eq_self, not_false_eq_true, Int.reduceEq, reduceCtorEq] at h; done))))
  · refine (few_ok ys).call ?_
    repeat' (first | (with_reducible refine Sq.go ?_) | ((with_reducible refine Ev.mk ?_); conv => whnf) | (with_reducible refine Dr.mk ⟨by kernel_rfl, by kernel_rfl⟩ ?_) | ((with_reducible refine Ob.mk (by (first | exact rfl | omega | (intros; first | assumption | omega | (simp only [in64]; omega) | (simp only [decide_eq_true_eq, decide_eq_false_iff_not, Bool.and_eq_true, Bool.or_eq_true, Bool.not_eq_true', Bool.not_eq_false', Bool.and_eq_false_iff, Bool.or_eq_false_iff, Bool.cond_true_left, Bool.cond_false_right, Bool.cond_false_left, Bool.cond_true_right, Bool.not_true, Bool.not_false, Bool.true_eq_false, Bool.false_eq_true, Int.toNat_natCast, beq_iff_eq, bne_iff_ne, Int.not_le, Int.not_lt, Bool.and_true, Bool.true_and, Bool.or_false, Bool.false_or, Bool.and_false, Bool.false_and, Bool.or_true, Bool.true_or, not_or, not_and, in64, by3, by35, by43] at *; omega) | (simp_all; done)))) ?_)) | (with_reducible refine Ob.mk ?_ ?_) | ((with_reducible refine Br.mk (fun h => ?_) (fun h => ?_)) <;> (try simp only [decide_eq_true_eq, decide_eq_false_iff_not, Bool.and_eq_true, Bool.or_eq_true, Bool.not_eq_true', Bool.not_eq_false', Bool.and_eq_false_iff, Bool.or_eq_false_iff, Bool.cond_true_left, Bool.cond_false_right, Bool.cond_false_left, Bool.cond_true_right, Bool.not_true, Bool.not_false, Bool.true_eq_false, Bool.false_eq_true, Int.toNat_natCast, beq_iff_eq, bne_iff_ne, Int.not_le, Int.not_lt, Bool.and_true, Bool.true_and, Bool.or_false, Bool.false_or, Bool.and_false, Bool.false_and, Bool.or_true, Bool.true_or, not_or, not_and] at h) <;> (try (simp only [not_true_eq_false, or_self, eq_self, not_false_eq_true, Int.reduceEq, reduceCtorEq] at h; done))))
    refine ⟨congrArg D.bool ?_, True.intro⟩
    simp [h]
  · refine ⟨congrArg D.bool ?_, True.intro⟩
    rw [decide_eq_false (by omega)]
    rfl

theorem has1_ok (s : Span) (t : Int) : Pure Try.prog 28 [.agg (eSpan s), .pt [.int .i64 t] 0] [.bool (decide (s.fr ≤ t) && decide (t < s.to))] := by
  refine pure_rule hT (T := tab) (N := 14) (rs := [.tmp 3]) Try.func28 rfl rfl rfl (by kernel_rfl) rfl ?_
  repeat' (first | (with_reducible refine Sq.go ?_) | ((with_reducible refine Ev.mk ?_); conv => whnf) | (with_reducible refine Dr.mk ⟨by kernel_rfl, by kernel_rfl⟩ ?_) | ((with_reducible refine Ob.mk (by (first | exact rfl | omega | (intros; first | assumption | omega | (simp only [in64]; omega) | (simp only [decide_eq_true_eq, decide_eq_false_iff_not, Bool.and_eq_true, Bool.or_eq_true, Bool.not_eq_true', Bool.not_eq_false', Bool.and_eq_false_iff, Bool.or_eq_false_iff, Bool.cond_true_left, Bool.cond_false_right, Bool.cond_false_left, Bool.cond_true_right, Bool.not_true, Bool.not_false, Bool.true_eq_false, Bool.false_eq_true, Int.toNat_natCast, beq_iff_eq, bne_iff_ne, Int.not_le, Int.not_lt, Bool.and_true, Bool.true_and, Bool.or_false, Bool.false_or, Bool.and_false, Bool.false_and, Bool.or_true, Bool.true_or, not_or, not_and, in64, by3, by35, by43] at *; omega) | (simp_all; done)))) ?_)) | (with_reducible refine Ob.mk ?_ ?_) | ((with_reducible refine Br.mk (fun h => ?_) (fun h => ?_)) <;> (try simp only [decide_eq_true_eq, decide_eq_false_iff_not, Bool.and_eq_true, Bool.or_eq_true, Bool.not_eq_true', Bool.not_eq_false', Bool.and_eq_false_iff, Bool.or_eq_false_iff, Bool.cond_true_left, Bool.cond_false_right, Bool.cond_false_left, Bool.cond_true_right, Bool.not_true, Bool.not_false, Bool.true_eq_false, Bool.false_eq_true, Int.toNat_natCast, beq_iff_eq, bne_iff_ne, Int.not_le, Int.not_lt, Bool.and_true, Bool.true_and, Bool.or_false, Bool.false_or, Bool.and_false, Bool.false_and, Bool.or_true, Bool.true_or, not_or, not_and] at h) <;> (try (simp only [not_true_eq_false, or_self, eq_self, not_false_eq_true, Int.reduceEq, reduceCtorEq] at h; done))))
  refine ⟨congrArg D.bool ?_, True.intro⟩
  simp only [decide_eq_true_eq, decide_eq_false_iff_not, Bool.and_eq_true, Bool.or_eq_true, Bool.not_eq_true', Bool.not_eq_false', Bool.and_eq_false_iff, Bool.or_eq_false_iff, Bool.cond_true_left, Bool.cond_false_right, Bool.cond_false_left, Bool.cond_true_right, Bool.not_true, Bool.not_false, Bool.true_eq_false, Bool.false_eq_true, Int.toNat_natCast, beq_iff_eq, bne_iff_ne, Int.not_le, Int.not_lt, Bool.and_true, Bool.true_and, Bool.or_false, Bool.false_or, Bool.and_false, Bool.false_and, Bool.or_true, Bool.true_or, not_or, not_and]

/-- The place of the first that meets p. -/
def ix (p : Span → Bool) : List Span → Int → Int
  | [], _ => -1
  | s :: r, k => if p s then k else ix p r (k + 1)
theorem ix_ge (p : Span → Bool) : ∀ (xs : List Span) (k : Int), 0 ≤ k → (decide (0 ≤ ix p xs k)) = xs.any p
  | [], k, _ => by simp [ix]
  | s :: r, k, h => by
    by_cases hp : p s = true
    · simp [ix, hp, h]
    · simp only [ix, hp, if_false, List.any_cons, Bool.false_or]
      exact ix_ge p r (k + 1) (by omega)

theorem indexFunc_ok (xs : List Span) (hx : xs.length ≤ 1000000) (f : FuncId) (y : D) (p : Span → Bool) (hp : ∀ s, Pure Try.prog f [.agg (eSpan s), y] [.bool (p s)]) :
    Pure Try.prog 34 [eSpans xs, .fn (.func f) [] [y]] [.int .i64 (ix p xs 0)] := by
  refine pure_rule hT (T := tab) (N := 19) (rs := [.tmp 4]) Try.func34 rfl rfl rfl (by kernel_rfl) rfl ?_
  repeat' (first | (with_reducible refine Sq.go ?_) | ((with_reducible refine Ev.mk ?_); conv => whnf) | (with_reducible refine Dr.mk ⟨by kernel_rfl, by kernel_rfl⟩ ?_) | ((with_reducible refine Ob.mk (by (first | exact rfl | omega | (intros; first | assumption | omega | (simp only [in64]; omega) | (simp only [decide_eq_true_eq, decide_eq_false_iff_not, Bool.and_eq_true, Bool.or_eq_true, Bool.not_eq_true', Bool.not_eq_false', Bool.and_eq_false_iff, Bool.or_eq_false_iff, Bool.cond_true_left, Bool.cond_false_right, Bool.cond_false_left, Bool.cond_true_right, Bool.not_true, Bool.not_false, Bool.true_eq_false, Bool.false_eq_true, Int.toNat_natCast, beq_iff_eq, bne_iff_ne, Int.not_le, Int.not_lt, Bool.and_true, Bool.true_and, Bool.or_false, Bool.false_or, Bool.and_false, Bool.false_and, Bool.or_true, Bool.true_or, not_or, not_and, in64, by3, by35, by43] at *; omega) | (simp_all; done)))) ?_)) | (with_reducible refine Ob.mk ?_ ?_) | ((with_reducible refine Br.mk (fun h => ?_) (fun h => ?_)) <;> (try simp only [decide_eq_true_eq, decide_eq_false_iff_not, Bool.and_eq_true, Bool.or_eq_true, Bool.not_eq_true', Bool.not_eq_false', Bool.and_eq_false_iff, Bool.or_eq_false_iff, Bool.cond_true_left, Bool.cond_false_right, Bool.cond_false_left, Bool.cond_true_right, Bool.not_true, Bool.not_false, Bool.true_eq_false, Bool.false_eq_true, Int.toNat_natCast, beq_iff_eq, bne_iff_ne, Int.not_le, Int.not_lt, Bool.and_true, Bool.true_and, Bool.or_false, Bool.false_or, Bool.and_false, Bool.false_and, Bool.or_true, Bool.true_or, not_or, not_and] at h) <;> (try (simp only [not_true_eq_false, or_self, eq_self, not_false_eq_true, Int.reduceEq, reduceCtorEq] at h; done))))
  refine loop_rule hT (S := Nat) (fun k => ([(0, .d (eSpans xs)), (1, .d (.fn (.func f) [] [y])), (7, .d (.int .i64 xs.length)), (8, .d (.int .i64 k))], ⟨[], []⟩)) (fun k => k ≤ xs.length ∧ ix p xs 0 = ix p (xs.drop k) k) (fun k => xs.length - k) 0 ?_ ?_ ?_
  · repeat' (first | exact True.intro | exact rfl | exact Nat.le_refl _ | refine And.intro ?_ ?_)
  · exact ⟨Nat.zero_le _, rfl⟩
  · rintro k ⟨hk, hc⟩
    repeat' (first | (with_reducible refine Sq.go ?_) | ((with_reducible refine Ev.mk ?_); conv => whnf) | (with_reducible refine Dr.mk ⟨by kernel_rfl, by kernel_rfl⟩ ?_) | ((with_reducible refine Ob.mk (by (first | exact rfl | omega | (intros; first | assumption | omega | (simp only [in64]; omega) | (simp only [decide_eq_true_eq, decide_eq_false_iff_not, Bool.and_eq_true, Bool.or_eq_true, Bool.not_eq_true', Bool.not_eq_false', Bool.and_eq_false_iff, Bool.or_eq_false_iff, Bool.cond_true_left, Bool.cond_false_right, Bool.cond_false_left, Bool.cond_true_right, Bool.not_true, Bool.not_false, Bool.true_eq_false, Bool.false_eq_true, Int.toNat_natCast, beq_iff_eq, bne_iff_ne, Int.not_le, Int.not_lt, Bool.and_true, Bool.true_and, Bool.or_false, Bool.false_or, Bool.and_false, Bool.false_and, Bool.or_true, Bool.true_or, not_or, not_and, in64, by3, by35, by43] at *; omega) | (simp_all; done)))) ?_)) | (with_reducible refine Ob.mk ?_ ?_) | ((with_reducible refine Br.mk (fun h => ?_) (fun h => ?_)) <;> (try simp only [decide_eq_true_eq, decide_eq_false_iff_not, Bool.and_eq_true, Bool.or_eq_true, Bool.not_eq_true', Bool.not_eq_false', Bool.and_eq_false_iff, Bool.or_eq_false_iff, Bool.cond_true_left, Bool.cond_false_right, Bool.cond_false_left, Bool.cond_true_right, Bool.not_true, Bool.not_false, Bool.true_eq_false, Bool.false_eq_true, Int.toNat_natCast, beq_iff_eq, bne_iff_ne, Int.not_le, Int.not_lt, Bool.and_true, Bool.true_and, Bool.or_false, Bool.false_or, Bool.and_false, Bool.false_and, Bool.or_true, Bool.true_or, not_or, not_and] at h) <;> (try (simp only [not_true_eq_false, or_self, eq_self, not_false_eq_true, Int.reduceEq, reduceCtorEq] at h; done))))
    · refine ⟨⟨f, [], [.d y], .inr ⟨[], [y], rfl, rfl, rfl⟩, (hp (xs.getD k default)).call ?_⟩⟩
      repeat' (first | (with_reducible refine Sq.go ?_) | ((with_reducible refine Ev.mk ?_); conv => whnf) | (with_reducible refine Dr.mk ⟨by kernel_rfl, by kernel_rfl⟩ ?_) | ((with_reducible refine Ob.mk (by (first | exact rfl | omega | (intros; first | assumption | omega | (simp only [in64]; omega) | (simp only [decide_eq_true_eq, decide_eq_false_iff_not, Bool.and_eq_true, Bool.or_eq_true, Bool.not_eq_true', Bool.not_eq_false', Bool.and_eq_false_iff, Bool.or_eq_false_iff, Bool.cond_true_left, Bool.cond_false_right, Bool.cond_false_left, Bool.cond_true_right, Bool.not_true, Bool.not_false, Bool.true_eq_false, Bool.false_eq_true, Int.toNat_natCast, beq_iff_eq, bne_iff_ne, Int.not_le, Int.not_lt, Bool.and_true, Bool.true_and, Bool.or_false, Bool.false_or, Bool.and_false, Bool.false_and, Bool.or_true, Bool.true_or, not_or, not_and, in64, by3, by35, by43] at *; omega) | (simp_all; done)))) ?_)) | (with_reducible refine Ob.mk ?_ ?_) | ((with_reducible refine Br.mk (fun h => ?_) (fun h => ?_)) <;> (try simp only [decide_eq_true_eq, decide_eq_false_iff_not, Bool.and_eq_true, Bool.or_eq_true, Bool.not_eq_true', Bool.not_eq_false', Bool.and_eq_false_iff, Bool.or_eq_false_iff, Bool.cond_true_left, Bool.cond_false_right, Bool.cond_false_left, Bool.cond_true_right, Bool.not_true, Bool.not_false, Bool.true_eq_false, Bool.false_eq_true, Int.toNat_natCast, beq_iff_eq, bne_iff_ne, Int.not_le, Int.not_lt, Bool.and_true, Bool.true_and, Bool.or_false, Bool.false_or, Bool.and_false, Bool.false_and, Bool.or_true, Bool.true_or, not_or, not_and] at h) <;> (try (simp only [not_true_eq_false, or_self, eq_self, not_false_eq_true, Int.reduceEq, reduceCtorEq] at h; done))))
      · refine ⟨congrArg (D.int .i64) ?_, True.intro⟩
        rw [hc, drop_at (by omega), ix, if_pos h]
      · refine ⟨k + 1, ⟨by show k + 1 ≤ xs.length; omega, ?_⟩, by show xs.length - (k + 1) < xs.length - k; omega, ?_⟩
        · rw [hc, drop_at (by omega), ix, if_neg (by rw [h]; exact Bool.false_ne_true)]
          rfl
        · repeat' (first | exact True.intro | exact rfl | exact Nat.le_refl _ | refine And.intro ?_ ?_)
    · refine ⟨congrArg (D.int .i64) ?_, True.intro⟩
      have : k = xs.length := by omega
      rw [hc]
      simp [this, ix]

theorem containsFunc_ok (xs : List Span) (hx : xs.length ≤ 1000000) (f : FuncId) (y : D) (p : Span → Bool) (hp : ∀ s, Pure Try.prog f [.agg (eSpan s), y] [.bool (p s)]) :
    Pure Try.prog 27 [eSpans xs, .fn (.func f) [] [y]] [.bool (xs.any p)] := by
  refine pure_rule hT (T := tab) (N := 9) (rs := [.tmp 4]) Try.func27 rfl rfl rfl (by kernel_rfl) rfl ?_
  repeat' (first | (with_reducible refine Sq.go ?_) | ((with_reducible refine Ev.mk ?_); conv => whnf) | (with_reducible refine Dr.mk ⟨by kernel_rfl, by kernel_rfl⟩ ?_) | ((with_reducible refine Ob.mk (by (first | exact rfl | omega | (intros; first | assumption | omega | (simp only [in64]; omega) | (simp only [decide_eq_true_eq, decide_eq_false_iff_not, Bool.and_eq_true, Bool.or_eq_true, Bool.not_eq_true', Bool.not_eq_false', Bool.and_eq_false_iff, Bool.or_eq_false_iff, Bool.cond_true_left, Bool.cond_false_right, Bool.cond_false_left, Bool.cond_true_right, Bool.not_true, Bool.not_false, Bool.true_eq_false, Bool.false_eq_true, Int.toNat_natCast, beq_iff_eq, bne_iff_ne, Int.not_le, Int.not_lt, Bool.and_true, Bool.true_and, Bool.or_false, Bool.false_or, Bool.and_false, Bool.false_and, Bool.or_true, Bool.true_or, not_or, not_and, in64, by3, by35, by43] at *; omega) | (simp_all; done)))) ?_)) | (with_reducible refine Ob.mk ?_ ?_) | ((with_reducible refine Br.mk (fun h => ?_) (fun h => ?_)) <;> (try simp only [decide_eq_true_eq, decide_eq_false_iff_not, Bool.and_eq_true, Bool.or_eq_true, Bool.not_eq_true', Bool.not_eq_false', Bool.and_eq_false_iff, Bool.or_eq_false_iff, Bool.cond_true_left, Bool.cond_false_right, Bool.cond_false_left, Bool.cond_true_right, Bool.not_true, Bool.not_false, Bool.true_eq_false, Bool.false_eq_true, Int.toNat_natCast, beq_iff_eq, bne_iff_ne, Int.not_le, Int.not_lt, Bool.and_true, Bool.true_and, Bool.or_false, Bool.false_or, Bool.and_false, Bool.false_and, Bool.or_true, Bool.true_or, not_or, not_and] at h) <;> (try (simp only [not_true_eq_false, or_self, eq_self, not_false_eq_true, Int.reduceEq, reduceCtorEq] at h; done))))
  refine (indexFunc_ok xs hx f y p hp).call ?_
  repeat' (first | (with_reducible refine Sq.go ?_) | ((with_reducible refine Ev.mk ?_); conv => whnf) | (with_reducible refine Dr.mk ⟨by kernel_rfl, by kernel_rfl⟩ ?_) | ((with_reducible refine Ob.mk (by (first | exact rfl | omega | (intros; first | assumption | omega | (simp only [in64]; omega) | (simp only [decide_eq_true_eq, decide_eq_false_iff_not, Bool.and_eq_true, Bool.or_eq_true, Bool.not_eq_true', Bool.not_eq_false', Bool.and_eq_false_iff, Bool.or_eq_false_iff, Bool.cond_true_left, Bool.cond_false_right, Bool.cond_false_left, Bool.cond_true_right, Bool.not_true, Bool.not_false, Bool.true_eq_false, Bool.false_eq_true, Int.toNat_natCast, beq_iff_eq, bne_iff_ne, Int.not_le, Int.not_lt, Bool.and_true, Bool.true_and, Bool.or_false, Bool.false_or, Bool.and_false, Bool.false_and, Bool.or_true, Bool.true_or, not_or, not_and, in64, by3, by35, by43] at *; omega) | (simp_all; done)))) ?_)) | (with_reducible refine Ob.mk ?_ ?_) | ((with_reducible refine Br.mk (fun h => ?_) (fun h => ?_)) <;> (try simp only [decide_eq_true_eq, decide_eq_false_iff_not, Bool.and_eq_true, Bool.or_eq_true, Bool.not_eq_true', Bool.not_eq_false', Bool.and_eq_false_iff, Bool.or_eq_false_iff, Bool.cond_true_left, Bool.cond_false_right, Bool.cond_false_left, Bool.cond_true_right, Bool.not_true, Bool.not_false, Bool.true_eq_false, Bool.false_eq_true, Int.toNat_natCast, beq_iff_eq, bne_iff_ne, Int.not_le, Int.not_lt, Bool.and_true, Bool.true_and, Bool.or_false, Bool.false_or, Bool.and_false, Bool.false_and, Bool.or_true, Bool.true_or, not_or, not_and] at h) <;> (try (simp only [not_true_eq_false, or_self, eq_self, not_false_eq_true, Int.reduceEq, reduceCtorEq] at h; done))))
  refine ⟨congrArg D.bool ?_, True.intro⟩
  rw [← ix_ge p xs 0 (by omega)]

theorem thas_ok (xs : List Span) (hx : xs.length ≤ 1000000) (t : Int) : Pure Try.prog 16 [eSpans xs, .int .i64 t] [.bool (has xs t)] := by
  refine pure_rule hT (T := tab) (N := 8) (rs := [.tmp 4]) Try.func16 rfl rfl rfl (by kernel_rfl) rfl ?_
  repeat' (first | (with_reducible refine Sq.go ?_) | ((with_reducible refine Ev.mk ?_); conv => whnf) | (with_reducible refine Dr.mk ⟨by kernel_rfl, by kernel_rfl⟩ ?_) | ((with_reducible refine Ob.mk (by (first | exact rfl | omega | (intros; first | assumption | omega | (simp only [in64]; omega) | (simp only [decide_eq_true_eq, decide_eq_false_iff_not, Bool.and_eq_true, Bool.or_eq_true, Bool.not_eq_true', Bool.not_eq_false', Bool.and_eq_false_iff, Bool.or_eq_false_iff, Bool.cond_true_left, Bool.cond_false_right, Bool.cond_false_left, Bool.cond_true_right, Bool.not_true, Bool.not_false, Bool.true_eq_false, Bool.false_eq_true, Int.toNat_natCast, beq_iff_eq, bne_iff_ne, Int.not_le, Int.not_lt, Bool.and_true, Bool.true_and, Bool.or_false, Bool.false_or, Bool.and_false, Bool.false_and, Bool.or_true, Bool.true_or, not_or, not_and, in64, by3, by35, by43] at *; omega) | (simp_all; done)))) ?_)) | (with_reducible refine Ob.mk ?_ ?_) | ((with_reducible refine Br.mk (fun h => ?_) (fun h => ?_)) <;> (try simp only [decide_eq_true_eq, decide_eq_false_iff_not, Bool.and_eq_true, Bool.or_eq_true, Bool.not_eq_true', Bool.not_eq_false', Bool.and_eq_false_iff, Bool.or_eq_false_iff, Bool.cond_true_left, Bool.cond_false_right, Bool.cond_false_left, Bool.cond_true_right, Bool.not_true, Bool.not_false, Bool.true_eq_false, Bool.false_eq_true, Int.toNat_natCast, beq_iff_eq, bne_iff_ne, Int.not_le, Int.not_lt, Bool.and_true, Bool.true_and, Bool.or_false, Bool.false_or, Bool.and_false, Bool.false_and, Bool.or_true, Bool.true_or, not_or, not_and] at h) <;> (try (simp only [not_true_eq_false, or_self, eq_self, not_false_eq_true, Int.reduceEq, reduceCtorEq] at h; done))))
  refine (containsFunc_ok xs hx 28 (.pt [.int .i64 t] 0) _ (fun s => has1_ok s t)).loan rfl ⟨.d, .fn' True.intro ⟨.ptr' rfl ⟨.d, True.intro⟩, True.intro⟩, True.intro⟩ ?_
  repeat' (first | (with_reducible refine Sq.go ?_) | ((with_reducible refine Ev.mk ?_); conv => whnf) | (with_reducible refine Dr.mk ⟨by kernel_rfl, by kernel_rfl⟩ ?_) | ((with_reducible refine Ob.mk (by (first | exact rfl | omega | (intros; first | assumption | omega | (simp only [in64]; omega) | (simp only [decide_eq_true_eq, decide_eq_false_iff_not, Bool.and_eq_true, Bool.or_eq_true, Bool.not_eq_true', Bool.not_eq_false', Bool.and_eq_false_iff, Bool.or_eq_false_iff, Bool.cond_true_left, Bool.cond_false_right, Bool.cond_false_left, Bool.cond_true_right, Bool.not_true, Bool.not_false, Bool.true_eq_false, Bool.false_eq_true, Int.toNat_natCast, beq_iff_eq, bne_iff_ne, Int.not_le, Int.not_lt, Bool.and_true, Bool.true_and, Bool.or_false, Bool.false_or, Bool.and_false, Bool.false_and, Bool.or_true, Bool.true_or, not_or, not_and, in64, by3, by35, by43] at *; omega) | (simp_all; done)))) ?_)) | (with_reducible refine Ob.mk ?_ ?_) | ((with_reducible refine Br.mk (fun h => ?_) (fun h => ?_)) <;> (try simp only [decide_eq_true_eq, decide_eq_false_iff_not, Bool.and_eq_true, Bool.or_eq_true, Bool.not_eq_true', Bool.not_eq_false', Bool.and_eq_false_iff, Bool.or_eq_false_iff, Bool.cond_true_left, Bool.cond_false_right, Bool.cond_false_left, Bool.cond_true_right, Bool.not_true, Bool.not_false, Bool.true_eq_false, Bool.false_eq_true, Int.toNat_natCast, beq_iff_eq, bne_iff_ne, Int.not_le, Int.not_lt, Bool.and_true, Bool.true_and, Bool.or_false, Bool.false_or, Bool.and_false, Bool.false_and, Bool.or_true, Bool.true_or, not_or, not_and] at h) <;> (try (simp only [not_true_eq_false, or_self, eq_self, not_false_eq_true, Int.reduceEq, reduceCtorEq] at h; done))))
  refine ⟨congrArg D.bool ?_, True.intro⟩
  rfl

theorem union1_ok (a b : Bool) : Pure Try.prog 30 [.bool a, .bool b] [.bool (a || b)] := by
  refine pure_rule hT (T := tab) (N := 9) (rs := [.tmp 4]) Try.func30 rfl rfl rfl (by kernel_rfl) rfl ?_
  repeat' (first | (with_reducible refine Sq.go ?_) | ((with_reducible refine Ev.mk ?_); conv => whnf) | (with_reducible refine Dr.mk ⟨by kernel_rfl, by kernel_rfl⟩ ?_) | ((with_reducible refine Ob.mk (by (first | exact rfl | omega | (intros; first | assumption | omega | (simp only [in64]; omega) | (simp only [decide_eq_true_eq, decide_eq_false_iff_not, Bool.and_eq_true, Bool.or_eq_true, Bool.not_eq_true', Bool.not_eq_false', Bool.and_eq_false_iff, Bool.or_eq_false_iff, Bool.cond_true_left, Bool.cond_false_right, Bool.cond_false_left, Bool.cond_true_right, Bool.not_true, Bool.not_false, Bool.true_eq_false, Bool.false_eq_true, Int.toNat_natCast, beq_iff_eq, bne_iff_ne, Int.not_le, Int.not_lt, Bool.and_true, Bool.true_and, Bool.or_false, Bool.false_or, Bool.and_false, Bool.false_and, Bool.or_true, Bool.true_or, not_or, not_and, in64, by3, by35, by43] at *; omega) | (simp_all; done)))) ?_)) | (with_reducible refine Ob.mk ?_ ?_) | ((with_reducible refine Br.mk (fun h => ?_) (fun h => ?_)) <;> (try simp only [decide_eq_true_eq, decide_eq_false_iff_not, Bool.and_eq_true, Bool.or_eq_true, Bool.not_eq_true', Bool.not_eq_false', Bool.and_eq_false_iff, Bool.or_eq_false_iff, Bool.cond_true_left, Bool.cond_false_right, Bool.cond_false_left, Bool.cond_true_right, Bool.not_true, Bool.not_false, Bool.true_eq_false, Bool.false_eq_true, Int.toNat_natCast, beq_iff_eq, bne_iff_ne, Int.not_le, Int.not_lt, Bool.and_true, Bool.true_and, Bool.or_false, Bool.false_or, Bool.and_false, Bool.false_and, Bool.or_true, Bool.true_or, not_or, not_and] at h) <;> (try (simp only [not_true_eq_false, or_self, eq_self, not_false_eq_true, Int.reduceEq, reduceCtorEq] at h; done))))
  refine ⟨congrArg D.bool ?_, True.intro⟩
  cases a <;> rfl
theorem meet1_ok (a b : Bool) : Pure Try.prog 32 [.bool a, .bool b] [.bool (a && b)] := by
  refine pure_rule hT (T := tab) (N := 9) (rs := [.tmp 4]) Try.func32 rfl rfl rfl (by kernel_rfl) rfl ?_
  repeat' (first | (with_reducible refine Sq.go ?_) | ((with_reducible refine Ev.mk ?_); conv => whnf) | (with_reducible refine Dr.mk ⟨by kernel_rfl, by kernel_rfl⟩ ?_) | ((with_reducible refine Ob.mk (by (first | exact rfl | omega | (intros; first | assumption | omega | (simp only [in64]; omega) | (simp only [decide_eq_true_eq, decide_eq_false_iff_not, Bool.and_eq_true, Bool.or_eq_true, Bool.not_eq_true', Bool.not_eq_false', Bool.and_eq_false_iff, Bool.or_eq_false_iff, Bool.cond_true_left, Bool.cond_false_right, Bool.cond_false_left, Bool.cond_true_right, Bool.not_true, Bool.not_false, Bool.true_eq_false, Bool.false_eq_true, Int.toNat_natCast, beq_iff_eq, bne_iff_ne, Int.not_le, Int.not_lt, Bool.and_true, Bool.true_and, Bool.or_false, Bool.false_or, Bool.and_false, Bool.false_and, Bool.or_true, Bool.true_or, not_or, not_and, in64, by3, by35, by43] at *; omega) | (simp_all; done)))) ?_)) | (with_reducible refine Ob.mk ?_ ?_) | ((with_reducible refine Br.mk (fun h => ?_) (fun h => ?_)) <;> (try simp only [decide_eq_true_eq, decide_eq_false_iff_not, Bool.and_eq_true, Bool.or_eq_true, Bool.not_eq_true', Bool.not_eq_false', Bool.and_eq_false_iff, Bool.or_eq_false_iff, Bool.cond_true_left, Bool.cond_false_right, Bool.cond_false_left, Bool.cond_true_right, Bool.not_true, Bool.not_false, Bool.true_eq_false, Bool.false_eq_true, Int.toNat_natCast, beq_iff_eq, bne_iff_ne, Int.not_le, Int.not_lt, Bool.and_true, Bool.true_and, Bool.or_false, Bool.false_or, Bool.and_false, Bool.false_and, Bool.or_true, Bool.true_or, not_or, not_and] at h) <;> (try (simp only [not_true_eq_false, or_self, eq_self, not_false_eq_true, Int.reduceEq, reduceCtorEq] at h; done))))
  refine ⟨congrArg D.bool ?_, True.intro⟩
  cases a <;> rfl
theorem minus1_ok (a b : Bool) : Pure Try.prog 33 [.bool a, .bool b] [.bool (a && !b)] := by
  refine pure_rule hT (T := tab) (N := 10) (rs := [.tmp 4]) Try.func33 rfl rfl rfl (by kernel_rfl) rfl ?_
  repeat' (first | (with_reducible refine Sq.go ?_) | ((with_reducible refine Ev.mk ?_); conv => whnf) | (with_reducible refine Dr.mk ⟨by kernel_rfl, by kernel_rfl⟩ ?_) | ((with_reducible refine Ob.mk (by (first | exact rfl | omega | (intros; first | assumption | omega | (simp only [in64]; omega) | (simp only [decide_eq_true_eq, decide_eq_false_iff_not, Bool.and_eq_true, Bool.or_eq_true, Bool.not_eq_true', Bool.not_eq_false', Bool.and_eq_false_iff, Bool.or_eq_false_iff, Bool.cond_true_left, Bool.cond_false_right, Bool.cond_false_left, Bool.cond_true_right, Bool.not_true, Bool.not_false, Bool.true_eq_false, Bool.false_eq_true, Int.toNat_natCast, beq_iff_eq, bne_iff_ne, Int.not_le, Int.not_lt, Bool.and_true, Bool.true_and, Bool.or_false, Bool.false_or, Bool.and_false, Bool.false_and, Bool.or_true, Bool.true_or, not_or, not_and, in64, by3, by35, by43] at *; omega) | (simp_all; done)))) ?_)) | (with_reducible refine Ob.mk ?_ ?_) | ((with_reducible refine Br.mk (fun h => ?_) (fun h => ?_)) <;> (try simp only [decide_eq_true_eq, decide_eq_false_iff_not, Bool.and_eq_true, Bool.or_eq_true, Bool.not_eq_true', Bool.not_eq_false', Bool.and_eq_false_iff, Bool.or_eq_false_iff, Bool.cond_true_left, Bool.cond_false_right, Bool.cond_false_left, Bool.cond_true_right, Bool.not_true, Bool.not_false, Bool.true_eq_false, Bool.false_eq_true, Int.toNat_natCast, beq_iff_eq, bne_iff_ne, Int.not_le, Int.not_lt, Bool.and_true, Bool.true_and, Bool.or_false, Bool.false_or, Bool.and_false, Bool.false_and, Bool.or_true, Bool.true_or, not_or, not_and] at h) <;> (try (simp only [not_true_eq_false, or_self, eq_self, not_false_eq_true, Int.reduceEq, reduceCtorEq] at h; done))))
  refine ⟨congrArg D.bool ?_, True.intro⟩
  cases a <;> rfl

def eInts (xs : List Int) : D := .sl 1 xs.length fun i => [.int .i64 (xs.getD i 0)]
def bounds : List Span → List Int
  | [] => []
  | s :: r => s.fr :: s.to :: bounds r
theorem bounds_len : ∀ xs : List Span, (bounds xs).length = 2 * xs.length
  | [] => rfl
  | s :: r => by simp only [bounds, List.length_cons, bounds_len r]; omega
theorem bounds_at : ∀ (xs : List Span) (k : Nat), k < xs.length → (bounds xs).getD (2 * k) 0 = (xs.getD k default).fr ∧ (bounds xs).getD (2 * k + 1) 0 = (xs.getD k default).to
  | [], k, h => by simp at h
  | s :: r, 0, _ => ⟨rfl, rfl⟩
  | s :: r, k + 1, h => by
    have := bounds_at r k (by simpa using h)
    rw [show 2 * (k + 1) = 2 * k + 1 + 1 by omega]
    simpa only [bounds, List.getD_cons_succ] using this
theorem joinF_lt {n j : Nat} {f h : Nat → List AV} (hj : j < n) : joinF n f h j = f j := by
  have : Nat.blt j n = true := Nat.ble_eq_true_of_le hj
  simp only [joinF, this, cond_true]
theorem joinF_ge {n j : Nat} {f h : Nat → List AV} (hj : n ≤ j) : joinF n f h j = h (j - n) := by
  have : Nat.blt j n = false := by
    cases e : Nat.blt j n with
    | false => rfl
    | true => have : j + 1 ≤ n := Nat.le_of_ble_eq_true e
              omega
  simp only [joinF, this, cond_false]
theorem boundaries_ok (xs : List Span) (hx : xs.length ≤ 1000000) : Pure Try.prog 36 [eSpans xs] [eInts (bounds xs)] := by
  refine pure_rule hT (T := tab) (N := 20) (rs := [.tmp 2]) Try.func36 rfl rfl rfl (by kernel_rfl) rfl ?_
  repeat' (first | (with_reducible refine Sq.go ?_) | ((with_reducible refine Ev.mk ?_); conv => whnf) | (with_reducible refine Dr.mk ⟨by kernel_rfl, by kernel_rfl⟩ ?_) | ((with_reducible refine Ob.mk (by (first | exact rfl | omega | (intros; first | assumption | omega | (simp only [in64]; omega) | (simp only [decide_eq_true_eq, decide_eq_false_iff_not, Bool.and_eq_true, Bool.or_eq_true, Bool.not_eq_true', Bool.not_eq_false', Bool.and_eq_false_iff, Bool.or_eq_false_iff, Bool.cond_true_left, Bool.cond_false_right, Bool.cond_false_left, Bool.cond_true_right, Bool.not_true, Bool.not_false, Bool.true_eq_false, Bool.false_eq_true, Int.toNat_natCast, beq_iff_eq, bne_iff_ne, Int.not_le, Int.not_lt, Bool.and_true, Bool.true_and, Bool.or_false, Bool.false_or, Bool.and_false, Bool.false_and, Bool.or_true, Bool.true_or, not_or, not_and, in64, by3, by35, by43] at *; omega) | (simp_all; done)))) ?_)) | (with_reducible refine Ob.mk ?_ ?_) | ((with_reducible refine Br.mk (fun h => ?_) (fun h => ?_)) <;> (try simp only [decide_eq_true_eq, decide_eq_false_iff_not, Bool.and_eq_true, Bool.or_eq_true, Bool.not_eq_true', Bool.not_eq_false', Bool.and_eq_false_iff, Bool.or_eq_false_iff, Bool.cond_true_left, Bool.cond_false_right, Bool.cond_false_left, Bool.cond_true_right, Bool.not_true, Bool.not_false, Bool.true_eq_false, Bool.false_eq_true, Int.toNat_natCast, beq_iff_eq, bne_iff_ne, Int.not_le, Int.not_lt, Bool.and_true, Bool.true_and, Bool.or_false, Bool.false_or, Bool.and_false, Bool.false_and, Bool.or_true, Bool.true_or, not_or, not_and] at h) <;> (try (simp only [not_true_eq_false, or_self, eq_self, not_false_eq_true, Int.reduceEq, reduceCtorEq] at h; done))))
  refine Awp.vec 2 3 1 (fun _ => []) rfl ?_
  refine loop_rule hT (S := Nat) (fun k => ([(0, .d (eSpans xs)), (2, .osl (.loc 0) k 0 (2 * k)), (5, .d (eSpans xs)), (6, .d (.int .i64 xs.length)), (7, .d (.int .i64 k))], ⟨[some (.vec 3 1 k (2 * k) fun i => [.d (.int .i64 ((bounds xs).getD i 0))])], []⟩)) (fun k => k ≤ xs.length) (fun k => xs.length - k) 0 ?_ ?_ ?_
  · repeat' (first | exact True.intro | exact rfl | exact Nat.le_refl _ | refine And.intro ?_ ?_)
    intro i hi
    omega
  · exact Nat.zero_le _
  · intro k hk
    repeat' (first | (with_reducible refine Sq.go ?_) | ((with_reducible refine Ev.mk ?_); conv => whnf) | (with_reducible refine Dr.mk ⟨by kernel_rfl, by kernel_rfl⟩ ?_) | ((with_reducible refine Ob.mk (by (first | exact rfl | omega | (intros; first | assumption | omega | (simp only [in64]; omega) | (simp only [decide_eq_true_eq, decide_eq_false_iff_not, Bool.and_eq_true, Bool.or_eq_true, Bool.not_eq_true', Bool.not_eq_false', Bool.and_eq_false_iff, Bool.or_eq_false_iff, Bool.cond_true_left, Bool.cond_false_right, Bool.cond_false_left, Bool.cond_true_right, Bool.not_true, Bool.not_false, Bool.true_eq_false, Bool.false_eq_true, Int.toNat_natCast, beq_iff_eq, bne_iff_ne, Int.not_le, Int.not_lt, Bool.and_true, Bool.true_and, Bool.or_false, Bool.false_or, Bool.and_false, Bool.false_and, Bool.or_true, Bool.true_or, not_or, not_and, in64, by3, by35, by43] at *; omega) | (simp_all; done)))) ?_)) | (with_reducible refine Ob.mk ?_ ?_) | ((with_reducible refine Br.mk (fun h => ?_) (fun h => ?_)) <;> (try simp only [decide_eq_true_eq, decide_eq_false_iff_not, Bool.and_eq_true, Bool.or_eq_true, Bool.not_eq_true', Bool.not_eq_false', Bool.and_eq_false_iff, Bool.or_eq_false_iff, Bool.cond_true_left, Bool.cond_false_right, Bool.cond_false_left, Bool.cond_true_right, Bool.not_true, Bool.not_false, Bool.true_eq_false, Bool.false_eq_true, Int.toNat_natCast, beq_iff_eq, bne_iff_ne, Int.not_le, Int.not_lt, Bool.and_true, Bool.true_and, Bool.or_false, Bool.false_or, Bool.and_false, Bool.false_and, Bool.or_true, Bool.true_or, not_or, not_and] at h) <;> (try (simp only [not_true_eq_false, or_self, eq_self, not_false_eq_true, Int.reduceEq, reduceCtorEq] at h; done))))
    · refine ⟨k + 1, by show k + 1 ≤ xs.length; omega, by show xs.length - (k + 1) < xs.length - k; omega, ?_⟩
      repeat' (first | exact True.intro | exact rfl | exact Nat.le_refl _ | refine And.intro ?_ ?_)
      intro i hi
      refine ⟨?_, rfl⟩
      have hb := bounds_at xs k (by omega)
      by_cases h1 : i < 2 * k
      · exact joinF_lt h1
      · rw [joinF_ge (by omega)]
        by_cases h2 : i = 2 * k
        · subst h2
          simp only [Nat.sub_self, hb.1, Int.toNat_natCast]
          rfl
        · have h2 : i = 2 * k + 1 := by omega
          subst h2
          simp only [Nat.add_sub_cancel_left, hb.2, Int.toNat_natCast]
          rfl
    · have hk : k = xs.length := by omega
      subst hk
      refine ⟨⟨rfl, rfl, by omega, (bounds_len xs).symm, fun i hi => ?_⟩, True.intro⟩
      rw [Nat.zero_add]
      rfl
end Go.Proofs.Ythghfcbnhdjmiaa
