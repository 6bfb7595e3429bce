/-
  Chapter 6: the functions that make rows: Grow, Concat, distinct.
-/
import Derived.Test.YthghfcbnhdjmiaaTermsA
import Derived.Test.YthghfcbnhdjmiaaOwnSort
namespace Go.Proofs.Ythghfcbnhdjmiaa
set_option linter.unusedSimpArgs false
set_option linter.unusedVariables false
open Go Go.Ab
set_option maxRecDepth 100000

theorem grow_ok (n : Nat) (hn : n ≤ 10000000) : CallVC Try.prog 41 [.d .nils, .d (.int .i64 n)] ⟨[], []⟩
    (Ret (fun b : Bool => bif b then ([.osl (.loc 0) 0 0 0], ⟨[some (.vec 3 1 0 0 fun _ => [])], []⟩) else ([.d .nils], ⟨[], []⟩)) fun _ => True) := by
  refine call_rule hT (T := tab) (N := 27) (rs := [.tmp 4]) _ _ Try.func41 rfl rfl rfl (by kernel_rfl) rfl ?_
  repeat' (first | (with_reducible refine Sq.go ?_) | ((with_reducible refine Ev.mk ?_); conv => whnf) | (with_reducible refine Dr.mk ⟨by kernel_rfl, by kernel_rfl⟩ ?_) | ((with_reducible refine Ob.mk (by (first | exact rfl | omega | (intros; first | assumption | omega | (simp only [in64, List.length_nil, List.length_cons] <;> omega) | (simp only [decide_eq_true_eq, decide_eq_false_iff_not, Bool.and_eq_true, Bool.or_eq_true, Bool.not_eq_true', Bool.not_eq_false', Bool.and_eq_false_iff, Bool.or_eq_false_iff, Bool.cond_true_left, Bool.cond_false_right, Bool.cond_false_left, Bool.cond_true_right, Bool.not_true, Bool.not_false, Bool.true_eq_false, Bool.false_eq_true, Int.toNat_natCast, beq_iff_eq, bne_iff_ne, Int.not_le, Int.not_lt, Bool.and_true, Bool.true_and, Bool.or_false, Bool.false_or, Bool.and_false, Bool.false_and, Bool.or_true, Bool.true_or, not_or, not_and, in64, by3, by35, by43] at * <;> omega) | (simp_all; done)))) ?_)) | (with_reducible refine Ob.mk ?_ ?_) | ((with_reducible refine Br.mk (fun h => ?_) (fun h => ?_)) <;> (try simp only [decide_eq_true_eq, decide_eq_false_iff_not, Bool.and_eq_true, Bool.or_eq_true, Bool.not_eq_true', Bool.not_eq_false', Bool.and_eq_false_iff, Bool.or_eq_false_iff, Bool.cond_true_left, Bool.cond_false_right, Bool.cond_false_left, Bool.cond_true_right, Bool.not_true, Bool.not_false, Bool.true_eq_false, Bool.false_eq_true, Int.toNat_natCast, beq_iff_eq, bne_iff_ne, Int.not_le, Int.not_lt, Bool.and_true, Bool.true_and, Bool.or_false, Bool.false_or, Bool.and_false, Bool.false_and, Bool.or_true, Bool.true_or, not_or, not_and] at h) <;> (try simp only [not_true_eq_false, not_false_eq_true, false_or, or_false, true_and, and_true] at h) <;> (try exact absurd h (by decide)) <;> (try (exfalso; omega)) <;> (try (simp only [not_true_eq_false, or_self, eq_self, not_false_eq_true, Int.reduceEq, reduceCtorEq] at h; done))))
  · refine ⟨true, True.intro, ?_, rfl⟩
    repeat' (first | exact True.intro | exact rfl | exact Nat.le_refl _ | refine And.intro ?_ ?_)
    · exact Nat.zero_le _
    · intro i hi
      omega
  · exact ⟨false, True.intro, by repeat' (first | exact True.intro | exact rfl | exact Nat.le_refl _ | refine And.intro ?_ ?_), rfl⟩

def eIntss (xss : List (List Int)) : D := .sl 1 xss.length fun i => [eInts (xss.getD i [])]
def lens (xss : List (List Int)) : Nat := (xss.map List.length).sum
theorem lens_take : ∀ (xss : List (List Int)) (k : Nat), k < xss.length → lens (xss.take (k + 1)) = lens (xss.take k) + (xss.getD k []).length
  | [], k, h => by simp at h
  | x :: r, 0, _ => by simp [lens]
  | x :: r, k + 1, h => by
    have := lens_take r k (by simpa using h)
    simp only [lens] at this
    simp only [lens, List.take_succ_cons, List.map_cons, List.sum_cons, List.getD_cons_succ]
    omega
theorem lens_le : ∀ (xss : List (List Int)) (k : Nat), lens (xss.take k) ≤ lens xss
  | [], k => by simp [lens]
  | x :: r, 0 => by simp [lens]
  | x :: r, k + 1 => by
    have := lens_le r k
    simp only [lens] at this
    simp only [lens, List.take_succ_cons, List.map_cons, List.sum_cons]
    omega
theorem flat_len : ∀ xss : List (List Int), xss.flatten.length = lens xss
  | [] => rfl
  | x :: r => by simp [lens]
theorem flat_take (xss : List (List Int)) (k : Nat) (h : k < xss.length) : (xss.take (k + 1)).flatten = (xss.take k).flatten ++ xss.getD k [] := by
  rw [List.take_succ_eq_append_getElem h, List.flatten_append]
  simp [h]

theorem concat_ok (xss : List (List Int)) (hx : xss.length ≤ 1000) (hl : lens xss ≤ 10000000) : CallVC Try.prog 38 [.d (eIntss xss)] ⟨[], []⟩
    (Ret (fun g : Nat => ([.osl (.loc 0) g 0 xss.flatten.length], ⟨[some (.vec 3 1 g xss.flatten.length (intRow xss.flatten))], []⟩)) fun _ => True) := by
  refine call_rule hT (T := tab) (N := 36) (rs := [.tmp 2]) _ _ Try.func38 rfl rfl rfl (by kernel_rfl) rfl ?_
  repeat' (first | (with_reducible refine Sq.go ?_) | ((with_reducible refine Ev.mk ?_); conv => whnf) | (with_reducible refine Dr.mk ⟨by kernel_rfl, by kernel_rfl⟩ ?_) | ((with_reducible refine Ob.mk (by (first | exact rfl | omega | (intros; first | assumption | omega | (simp only [in64, List.length_nil, List.length_cons] <;> omega) | (simp only [decide_eq_true_eq, decide_eq_false_iff_not, Bool.and_eq_true, Bool.or_eq_true, Bool.not_eq_true', Bool.not_eq_false', Bool.and_eq_false_iff, Bool.or_eq_false_iff, Bool.cond_true_left, Bool.cond_false_right, Bool.cond_false_left, Bool.cond_true_right, Bool.not_true, Bool.not_false, Bool.true_eq_false, Bool.false_eq_true, Int.toNat_natCast, beq_iff_eq, bne_iff_ne, Int.not_le, Int.not_lt, Bool.and_true, Bool.true_and, Bool.or_false, Bool.false_or, Bool.and_false, Bool.false_and, Bool.or_true, Bool.true_or, not_or, not_and, in64, by3, by35, by43] at * <;> omega) | (simp_all; done)))) ?_)) | (with_reducible refine Ob.mk ?_ ?_) | ((with_reducible refine Br.mk (fun h => ?_) (fun h => ?_)) <;> (try simp only [decide_eq_true_eq, decide_eq_false_iff_not, Bool.and_eq_true, Bool.or_eq_true, Bool.not_eq_true', Bool.not_eq_false', Bool.and_eq_false_iff, Bool.or_eq_false_iff, Bool.cond_true_left, Bool.cond_false_right, Bool.cond_false_left, Bool.cond_true_right, Bool.not_true, Bool.not_false, Bool.true_eq_false, Bool.false_eq_true, Int.toNat_natCast, beq_iff_eq, bne_iff_ne, Int.not_le, Int.not_lt, Bool.and_true, Bool.true_and, Bool.or_false, Bool.false_or, Bool.and_false, Bool.false_and, Bool.or_true, Bool.true_or, not_or, not_and] at h) <;> (try simp only [not_true_eq_false, not_false_eq_true, false_or, or_false, true_and, and_true] at h) <;> (try exact absurd h (by decide)) <;> (try (exfalso; omega)) <;> (try (simp only [not_true_eq_false, or_self, eq_self, not_false_eq_true, Int.reduceEq, reduceCtorEq] at h; done))))
  refine loop_rule hT (S := Nat) (fun k => ([(0, .d (eIntss xss)), (3, .d (.int .i64 (lens (xss.take k)))), (9, .d (eIntss xss)), (10, .d (.int .i64 xss.length)), (11, .d (.int .i64 k))], ⟨[], []⟩)) (fun k => k ≤ xss.length) (fun k => xss.length - k) 0 ?_ ?_ ?_
  · repeat' (first | exact True.intro | exact rfl | exact Nat.le_refl _ | refine And.intro ?_ ?_)
  · exact Nat.zero_le _
  · intro k hk
    have h1 := lens_le xss k
    have h2 := lens_le xss (k + 1)
    have h3 : k < xss.length → lens (xss.take (k + 1)) = lens (xss.take k) + (xss.getD k []).length := lens_take xss k
    repeat' (first | (with_reducible refine Sq.go ?_) | ((with_reducible refine Ev.mk ?_); conv => whnf) | (with_reducible refine Dr.mk ⟨by kernel_rfl, by kernel_rfl⟩ ?_) | ((with_reducible refine Ob.mk (by (first | exact rfl | omega | (intros; first | assumption | omega | (simp only [in64, List.length_nil, List.length_cons] <;> omega) | (simp only [decide_eq_true_eq, decide_eq_false_iff_not, Bool.and_eq_true, Bool.or_eq_true, Bool.not_eq_true', Bool.not_eq_false', Bool.and_eq_false_iff, Bool.or_eq_false_iff, Bool.cond_true_left, Bool.cond_false_right, Bool.cond_false_left, Bool.cond_true_right, Bool.not_true, Bool.not_false, Bool.true_eq_false, Bool.false_eq_true, Int.toNat_natCast, beq_iff_eq, bne_iff_ne, Int.not_le, Int.not_lt, Bool.and_true, Bool.true_and, Bool.or_false, Bool.false_or, Bool.and_false, Bool.false_and, Bool.or_true, Bool.true_or, not_or, not_and, in64, by3, by35, by43] at * <;> omega) | (simp_all; done)))) ?_)) | (with_reducible refine Ob.mk ?_ ?_) | ((with_reducible refine Br.mk (fun h => ?_) (fun h => ?_)) <;> (try simp only [decide_eq_true_eq, decide_eq_false_iff_not, Bool.and_eq_true, Bool.or_eq_true, Bool.not_eq_true', Bool.not_eq_false', Bool.and_eq_false_iff, Bool.or_eq_false_iff, Bool.cond_true_left, Bool.cond_false_right, Bool.cond_false_left, Bool.cond_true_right, Bool.not_true, Bool.not_false, Bool.true_eq_false, Bool.false_eq_true, Int.toNat_natCast, beq_iff_eq, bne_iff_ne, Int.not_le, Int.not_lt, Bool.and_true, Bool.true_and, Bool.or_false, Bool.false_or, Bool.and_false, Bool.false_and, Bool.or_true, Bool.true_or, not_or, not_and] at h) <;> (try simp only [not_true_eq_false, not_false_eq_true, false_or, or_false, true_and, and_true] at h) <;> (try exact absurd h (by decide)) <;> (try (exfalso; omega)) <;> (try (simp only [not_true_eq_false, or_self, eq_self, not_false_eq_true, Int.reduceEq, reduceCtorEq] at h; done))))
    · refine ⟨k + 1, by show k + 1 ≤ xss.length; omega, by show xss.length - (k + 1) < xss.length - k; omega, ?_⟩
      repeat' (first | exact True.intro | exact rfl | exact Nat.le_refl _ | refine And.intro ?_ ?_)
      rw [h3 (by omega), Int.toNat_natCast]
      exact congrArg AV.d (congrArg (D.int .i64) (by omega))
    · have hk : k = xss.length := by omega
      subst hk
      clear h1 h2 h3 h hk
      refine (grow_ok (lens (xss.take xss.length)) (by rw [List.take_length]; exact hl)).at [] rfl True.intro (fun s _ => ?_)
      cases s
      all_goals refine ⟨rfl, ?_⟩
      repeat' (first | (with_reducible refine Sq.go ?_) | ((with_reducible refine Ev.mk ?_); conv => whnf) | (with_reducible refine Dr.mk ⟨by kernel_rfl, by kernel_rfl⟩ ?_) | ((with_reducible refine Ob.mk (by (first | exact rfl | omega | (intros; first | assumption | omega | (simp only [in64, List.length_nil, List.length_cons] <;> omega) | (simp only [decide_eq_true_eq, decide_eq_false_iff_not, Bool.and_eq_true, Bool.or_eq_true, Bool.not_eq_true', Bool.not_eq_false', Bool.and_eq_false_iff, Bool.or_eq_false_iff, Bool.cond_true_left, Bool.cond_false_right, Bool.cond_false_left, Bool.cond_true_right, Bool.not_true, Bool.not_false, Bool.true_eq_false, Bool.false_eq_true, Int.toNat_natCast, beq_iff_eq, bne_iff_ne, Int.not_le, Int.not_lt, Bool.and_true, Bool.true_and, Bool.or_false, Bool.false_or, Bool.and_false, Bool.false_and, Bool.or_true, Bool.true_or, not_or, not_and, in64, by3, by35, by43] at * <;> omega) | (simp_all; done)))) ?_)) | (with_reducible refine Ob.mk ?_ ?_) | ((with_reducible refine Br.mk (fun h => ?_) (fun h => ?_)) <;> (try simp only [decide_eq_true_eq, decide_eq_false_iff_not, Bool.and_eq_true, Bool.or_eq_true, Bool.not_eq_true', Bool.not_eq_false', Bool.and_eq_false_iff, Bool.or_eq_false_iff, Bool.cond_true_left, Bool.cond_false_right, Bool.cond_false_left, Bool.cond_true_right, Bool.not_true, Bool.not_false, Bool.true_eq_false, Bool.false_eq_true, Int.toNat_natCast, beq_iff_eq, bne_iff_ne, Int.not_le, Int.not_lt, Bool.and_true, Bool.true_and, Bool.or_false, Bool.false_or, Bool.and_false, Bool.false_and, Bool.or_true, Bool.true_or, not_or, not_and] at h) <;> (try simp only [not_true_eq_false, not_false_eq_true, false_or, or_false, true_and, and_true] at h) <;> (try exact absurd h (by decide)) <;> (try (exfalso; omega)) <;> (try (simp only [not_true_eq_false, or_self, eq_self, not_false_eq_true, Int.reduceEq, reduceCtorEq] at h; done))))
      refine Awp.vec 6 3 1 (fun _ => []) rfl ?_
      all_goals
        refine loop_rule hT (S := Nat) (fun k => ([(0, .d (eIntss xss)), (6, .osl (.loc 0) k 0 (xss.take k).flatten.length), (25, .d (eIntss xss)), (26, .d (.int .i64 xss.length)), (27, .d (.int .i64 k))], ⟨[some (.vec 3 1 k (xss.take k).flatten.length (intRow (xss.take k).flatten))], []⟩)) (fun k => k ≤ xss.length) (fun k => xss.length - k) 0 ?_ ?_ ?_
        · repeat' (first | exact True.intro | exact rfl | exact Nat.le_refl _ | refine And.intro ?_ ?_)
          intro i hi
          simp at hi
        · exact Nat.zero_le _
        intro k hk
        have h1 := lens_le xss k
        have h2 := lens_le xss (k + 1)
        have h3 : k < xss.length → lens (xss.take (k + 1)) = lens (xss.take k) + (xss.getD k []).length := lens_take xss k
        have h4 := flat_len (xss.take k)
        repeat' (first | (with_reducible refine Sq.go ?_) | ((with_reducible refine Ev.mk ?_); conv => whnf) | (with_reducible refine Dr.mk ⟨by kernel_rfl, by kernel_rfl⟩ ?_) | ((with_reducible refine Ob.mk (by (first | exact rfl | omega | (intros; first | assumption | omega | (simp only [in64, List.length_nil, List.length_cons] <;> omega) | (simp only [decide_eq_true_eq, decide_eq_false_iff_not, Bool.and_eq_true, Bool.or_eq_true, Bool.not_eq_true', Bool.not_eq_false', Bool.and_eq_false_iff, Bool.or_eq_false_iff, Bool.cond_true_left, Bool.cond_false_right, Bool.cond_false_left, Bool.cond_true_right, Bool.not_true, Bool.not_false, Bool.true_eq_false, Bool.false_eq_true, Int.toNat_natCast, beq_iff_eq, bne_iff_ne, Int.not_le, Int.not_lt, Bool.and_true, Bool.true_and, Bool.or_false, Bool.false_or, Bool.and_false, Bool.false_and, Bool.or_true, Bool.true_or, not_or, not_and, in64, by3, by35, by43] at * <;> omega) | (simp_all; done)))) ?_)) | (with_reducible refine Ob.mk ?_ ?_) | ((with_reducible refine Br.mk (fun h => ?_) (fun h => ?_)) <;> (try simp only [decide_eq_true_eq, decide_eq_false_iff_not, Bool.and_eq_true, Bool.or_eq_true, Bool.not_eq_true', Bool.not_eq_false', Bool.and_eq_false_iff, Bool.or_eq_false_iff, Bool.cond_true_left, Bool.cond_false_right, Bool.cond_false_left, Bool.cond_true_right, Bool.not_true, Bool.not_false, Bool.true_eq_false, Bool.false_eq_true, Int.toNat_natCast, beq_iff_eq, bne_iff_ne, Int.not_le, Int.not_lt, Bool.and_true, Bool.true_and, Bool.or_false, Bool.false_or, Bool.and_false, Bool.false_and, Bool.or_true, Bool.true_or, not_or, not_and] at h) <;> (try simp only [not_true_eq_false, not_false_eq_true, false_or, or_false, true_and, and_true] at h) <;> (try exact absurd h (by decide)) <;> (try (exfalso; omega)) <;> (try (simp only [not_true_eq_false, or_self, eq_self, not_false_eq_true, Int.reduceEq, reduceCtorEq] at h; done))))
        · have hf := flat_take xss k (by omega)
          have hfl : (xss.take (k + 1)).flatten.length = (xss.take k).flatten.length + (xss.getD k []).length := by rw [hf, List.length_append]
          refine ⟨k + 1, by show k + 1 ≤ xss.length; omega, by show xss.length - (k + 1) < xss.length - k; omega, ?_⟩
          repeat' (first | exact True.intro | exact rfl | exact Nat.le_refl _ | refine And.intro ?_ ?_)
          · rw [hfl]
            rfl
          · exact Nat.le_of_eq hfl
          · intro i hi
            refine ⟨?_, rfl⟩
            by_cases h5 : i < (xss.take k).flatten.length
            · rw [joinF_lt h5]
              simp only [intRow, hf, List.getD_eq_getElem?_getD]
              rw [List.getElem?_append_left h5]
            · rw [joinF_ge (by omega)]
              simp only [intRow, hf, List.getD_eq_getElem?_getD]
              rw [List.getElem?_append_right (by omega)]
              rfl
        · have hk : k = xss.length := by omega
          subst hk
          refine ⟨xss.length, True.intro, ?_, rfl⟩
          repeat' (first | exact True.intro | exact rfl | exact Nat.le_refl _ | refine And.intro ?_ ?_)
          · simp only [List.take_length]
            rfl
          · simp only [List.take_length]
            exact Nat.le_refl _
          · intro i hi
            refine ⟨?_, rfl⟩
            simp only [List.take_length]
            done

/-- The numbers of the lists, in order, each once. -/
def dist (xss : List (List Int)) : List Int := Lib.compact (xss.flatten.mergeSort fun x y => decide (x ≤ y))
theorem distinct_ok (xss : List (List Int)) (hx : xss.length ≤ 1000) (hl : lens xss ≤ 1000000) : Pure Try.prog 35 [eIntss xss] [eInts (dist xss)] := by
  refine pure_rule hT (T := tab) (N := 10) (rs := [.tmp 2]) Try.func35 rfl rfl rfl (by kernel_rfl) rfl ?_
  have hfl := flat_len xss
  have hml : (xss.flatten.mergeSort fun x y => decide (x ≤ y)).length = xss.flatten.length := List.length_mergeSort _
  repeat' (first | (with_reducible refine Sq.go ?_) | ((with_reducible refine Ev.mk ?_); conv => whnf) | (with_reducible refine Dr.mk ⟨by kernel_rfl, by kernel_rfl⟩ ?_) | ((with_reducible refine Ob.mk (by (first | exact rfl | omega | (intros; first | assumption | omega | (simp only [in64, List.length_nil, List.length_cons] <;> omega) | (simp only [decide_eq_true_eq, decide_eq_false_iff_not, Bool.and_eq_true, Bool.or_eq_true, Bool.not_eq_true', Bool.not_eq_false', Bool.and_eq_false_iff, Bool.or_eq_false_iff, Bool.cond_true_left, Bool.cond_false_right, Bool.cond_false_left, Bool.cond_true_right, Bool.not_true, Bool.not_false, Bool.true_eq_false, Bool.false_eq_true, Int.toNat_natCast, beq_iff_eq, bne_iff_ne, Int.not_le, Int.not_lt, Bool.and_true, Bool.true_and, Bool.or_false, Bool.false_or, Bool.and_false, Bool.false_and, Bool.or_true, Bool.true_or, not_or, not_and, in64, by3, by35, by43] at * <;> omega) | (simp_all; done)))) ?_)) | (with_reducible refine Ob.mk ?_ ?_) | ((with_reducible refine Br.mk (fun h => ?_) (fun h => ?_)) <;> (try simp only [decide_eq_true_eq, decide_eq_false_iff_not, Bool.and_eq_true, Bool.or_eq_true, Bool.not_eq_true', Bool.not_eq_false', Bool.and_eq_false_iff, Bool.or_eq_false_iff, Bool.cond_true_left, Bool.cond_false_right, Bool.cond_false_left, Bool.cond_true_right, Bool.not_true, Bool.not_false, Bool.true_eq_false, Bool.false_eq_true, Int.toNat_natCast, beq_iff_eq, bne_iff_ne, Int.not_le, Int.not_lt, Bool.and_true, Bool.true_and, Bool.or_false, Bool.false_or, Bool.and_false, Bool.false_and, Bool.or_true, Bool.true_or, not_or, not_and] at h) <;> (try simp only [not_true_eq_false, not_false_eq_true, false_or, or_false, true_and, and_true] at h) <;> (try exact absurd h (by decide)) <;> (try (exfalso; omega)) <;> (try (simp only [not_true_eq_false, or_self, eq_self, not_false_eq_true, Int.reduceEq, reduceCtorEq] at h; done))))
  refine (concat_ok xss hx (by omega)).at [] rfl True.intro (fun g _ => ⟨rfl, ?_⟩)
  repeat' (first | (with_reducible refine Sq.go ?_) | ((with_reducible refine Ev.mk ?_); conv => whnf) | (with_reducible refine Dr.mk ⟨by kernel_rfl, by kernel_rfl⟩ ?_) | ((with_reducible refine Ob.mk (by (first | exact rfl | omega | (intros; first | assumption | omega | (simp only [in64, List.length_nil, List.length_cons] <;> omega) | (simp only [decide_eq_true_eq, decide_eq_false_iff_not, Bool.and_eq_true, Bool.or_eq_true, Bool.not_eq_true', Bool.not_eq_false', Bool.and_eq_false_iff, Bool.or_eq_false_iff, Bool.cond_true_left, Bool.cond_false_right, Bool.cond_false_left, Bool.cond_true_right, Bool.not_true, Bool.not_false, Bool.true_eq_false, Bool.false_eq_true, Int.toNat_natCast, beq_iff_eq, bne_iff_ne, Int.not_le, Int.not_lt, Bool.and_true, Bool.true_and, Bool.or_false, Bool.false_or, Bool.and_false, Bool.false_and, Bool.or_true, Bool.true_or, not_or, not_and, in64, by3, by35, by43] at * <;> omega) | (simp_all; done)))) ?_)) | (with_reducible refine Ob.mk ?_ ?_) | ((with_reducible refine Br.mk (fun h => ?_) (fun h => ?_)) <;> (try simp only [decide_eq_true_eq, decide_eq_false_iff_not, Bool.and_eq_true, Bool.or_eq_true, Bool.not_eq_true', Bool.not_eq_false', Bool.and_eq_false_iff, Bool.or_eq_false_iff, Bool.cond_true_left, Bool.cond_false_right, Bool.cond_false_left, Bool.cond_true_right, Bool.not_true, Bool.not_false, Bool.true_eq_false, Bool.false_eq_true, Int.toNat_natCast, beq_iff_eq, bne_iff_ne, Int.not_le, Int.not_lt, Bool.and_true, Bool.true_and, Bool.or_false, Bool.false_or, Bool.and_false, Bool.false_and, Bool.or_true, Bool.true_or, not_or, not_and] at h) <;> (try simp only [not_true_eq_false, not_false_eq_true, false_or, or_false, true_and, and_true] at h) <;> (try exact absurd h (by decide)) <;> (try (exfalso; omega)) <;> (try (simp only [not_true_eq_false, or_self, eq_self, not_false_eq_true, Int.reduceEq, reduceCtorEq] at h; done))))
  refine (sort_ok xss.flatten (by omega) g 3).at [.loc 0] rfl ⟨rfl, True.intro⟩ (fun _ _ => ⟨rfl, ?_⟩)
  repeat' (first | (with_reducible refine Sq.go ?_) | ((with_reducible refine Ev.mk ?_); conv => whnf) | (with_reducible refine Dr.mk ⟨by kernel_rfl, by kernel_rfl⟩ ?_) | ((with_reducible refine Ob.mk (by (first | exact rfl | omega | (intros; first | assumption | omega | (simp only [in64, List.length_nil, List.length_cons] <;> omega) | (simp only [decide_eq_true_eq, decide_eq_false_iff_not, Bool.and_eq_true, Bool.or_eq_true, Bool.not_eq_true', Bool.not_eq_false', Bool.and_eq_false_iff, Bool.or_eq_false_iff, Bool.cond_true_left, Bool.cond_false_right, Bool.cond_false_left, Bool.cond_true_right, Bool.not_true, Bool.not_false, Bool.true_eq_false, Bool.false_eq_true, Int.toNat_natCast, beq_iff_eq, bne_iff_ne, Int.not_le, Int.not_lt, Bool.and_true, Bool.true_and, Bool.or_false, Bool.false_or, Bool.and_false, Bool.false_and, Bool.or_true, Bool.true_or, not_or, not_and, in64, by3, by35, by43] at * <;> omega) | (simp_all; done)))) ?_)) | (with_reducible refine Ob.mk ?_ ?_) | ((with_reducible refine Br.mk (fun h => ?_) (fun h => ?_)) <;> (try simp only [decide_eq_true_eq, decide_eq_false_iff_not, Bool.and_eq_true, Bool.or_eq_true, Bool.not_eq_true', Bool.not_eq_false', Bool.and_eq_false_iff, Bool.or_eq_false_iff, Bool.cond_true_left, Bool.cond_false_right, Bool.cond_false_left, Bool.cond_true_right, Bool.not_true, Bool.not_false, Bool.true_eq_false, Bool.false_eq_true, Int.toNat_natCast, beq_iff_eq, bne_iff_ne, Int.not_le, Int.not_lt, Bool.and_true, Bool.true_and, Bool.or_false, Bool.false_or, Bool.and_false, Bool.false_and, Bool.or_true, Bool.true_or, not_or, not_and] at h) <;> (try simp only [not_true_eq_false, not_false_eq_true, false_or, or_false, true_and, and_true] at h) <;> (try exact absurd h (by decide)) <;> (try (exfalso; omega)) <;> (try (simp only [not_true_eq_false, or_self, eq_self, not_false_eq_true, Int.reduceEq, reduceCtorEq] at h; done))))
  rw [← hml]
  refine (compact_ok _ (by omega) g 3).at [.loc 0] rfl ⟨rfl, True.intro⟩ (fun _ _ => ⟨rfl, ?_⟩)
  repeat' (first | (with_reducible refine Sq.go ?_) | ((with_reducible refine Ev.mk ?_); conv => whnf) | (with_reducible refine Dr.mk ⟨by kernel_rfl, by kernel_rfl⟩ ?_) | ((with_reducible refine Ob.mk (by (first | exact rfl | omega | (intros; first | assumption | omega | (simp only [in64, List.length_nil, List.length_cons] <;> omega) | (simp only [decide_eq_true_eq, decide_eq_false_iff_not, Bool.and_eq_true, Bool.or_eq_true, Bool.not_eq_true', Bool.not_eq_false', Bool.and_eq_false_iff, Bool.or_eq_false_iff, Bool.cond_true_left, Bool.cond_false_right, Bool.cond_false_left, Bool.cond_true_right, Bool.not_true, Bool.not_false, Bool.true_eq_false, Bool.false_eq_true, Int.toNat_natCast, beq_iff_eq, bne_iff_ne, Int.not_le, Int.not_lt, Bool.and_true, Bool.true_and, Bool.or_false, Bool.false_or, Bool.and_false, Bool.false_and, Bool.or_true, Bool.true_or, not_or, not_and, in64, by3, by35, by43] at * <;> omega) | (simp_all; done)))) ?_)) | (with_reducible refine Ob.mk ?_ ?_) | ((with_reducible refine Br.mk (fun h => ?_) (fun h => ?_)) <;> (try simp only [decide_eq_true_eq, decide_eq_false_iff_not, Bool.and_eq_true, Bool.or_eq_true, Bool.not_eq_true', Bool.not_eq_false', Bool.and_eq_false_iff, Bool.or_eq_false_iff, Bool.cond_true_left, Bool.cond_false_right, Bool.cond_false_left, Bool.cond_true_right, Bool.not_true, Bool.not_false, Bool.true_eq_false, Bool.false_eq_true, Int.toNat_natCast, beq_iff_eq, bne_iff_ne, Int.not_le, Int.not_lt, Bool.and_true, Bool.true_and, Bool.or_false, Bool.false_or, Bool.and_false, Bool.false_and, Bool.or_true, Bool.true_or, not_or, not_and] at h) <;> (try simp only [not_true_eq_false, not_false_eq_true, false_or, or_false, true_and, and_true] at h) <;> (try exact absurd h (by decide)) <;> (try (exfalso; omega)) <;> (try (simp only [not_true_eq_false, or_self, eq_self, not_false_eq_true, Int.reduceEq, reduceCtorEq] at h; done))))
  refine ⟨⟨rfl, rfl, by omega, rfl, fun i hi => ?_⟩, True.intro⟩
  rw [Nat.zero_add]
  rfl
end Go.Proofs.Ythghfcbnhdjmiaa
