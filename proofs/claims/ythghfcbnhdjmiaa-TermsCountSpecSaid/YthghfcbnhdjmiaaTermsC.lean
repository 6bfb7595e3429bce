/-
  Chapter 6: terms.combine, Union, Meet, Minus.
-/
import Derived.Test.YthghfcbnhdjmiaaTermsB
namespace Go.Proofs.Ythghfcbnhdjmiaa
set_option linter.unusedSimpArgs false
set_option linter.unusedVariables false
open Go Go.Ab
set_option maxRecDepth 100000

/-- One more stretch that holds. -/
def push (acc : List Span) (lo hi : Int) : List Span :=
  if 0 < acc.length ∧ (acc.getD (acc.length - 1) default).to = lo then acc.set (acc.length - 1) ⟨(acc.getD (acc.length - 1) default).fr, hi⟩ else acc ++ [⟨lo, hi⟩]
def combN (op : Bool → Bool → Bool) (xs ys : List Span) (cs : List Int) : Nat → List Span
  | 0 => []
  | k + 1 => bif op (has xs (cs.getD k 0)) (has ys (cs.getD k 0)) then push (combN op xs ys cs k) (cs.getD k 0) (cs.getD (k + 1) 0) else combN op xs ys cs k
def cuts (xs ys : List Span) : List Int := dist [bounds xs, bounds ys]
/-- What Union, Meet and Minus hand back. -/
def comb (op : Bool → Bool → Bool) (xs ys : List Span) : List Span := if chk (-1) xs = 0 ∧ chk (-1) ys = 0 then combN op xs ys (cuts xs ys) ((cuts xs ys).length - 1) else []
def combE (xs ys : List Span) : Int := if chk (-1) xs = 0 then chk (-1) ys else chk (-1) xs
theorem push_len (acc : List Span) (lo hi : Int) : (push acc lo hi).length ≤ acc.length + 1 := by
  unfold push
  split <;> simp
theorem eSpans_nil : DEq .nils (eSpans []) := rfl

theorem combine_ok (f : FuncId) (op : Bool → Bool → Bool) (hf : ∀ a b, Pure Try.prog f [.bool a, .bool b] [.bool (op a b)]) (xs ys : List Span) (hx : xs.length ≤ 100000) (hy : ys.length ≤ 100000) :
    Pure Try.prog 29 [eSpans xs, eSpans ys, .fn (.func f) [] []] [eSpans (comb op xs ys), .int .i64 (combE xs ys)] := by
  refine pure_rule hT (T := tab) (N := 83) (rs := [.tmp 6, .tmp 7]) Try.func29 rfl rfl rfl (by kernel_rfl) rfl ?_
  repeat' (first | (with_reducible refine Sq.go ?_) | ((with_reducible refine Ev.mk ?_); conv => whnf) | (with_reducible refine Dr.mk ⟨by kernel_rfl, by kernel_rfl⟩ ?_) | ((with_reducible refine Ob.mk (by (first | exact rfl | omega | (intros; first | assumption | omega | (simp only [in64]; omega) | (simp only [decide_eq_true_eq, decide_eq_false_iff_not, Bool.and_eq_true, Bool.or_eq_true, Bool.not_eq_true', Bool.not_eq_false', Bool.and_eq_false_iff, Bool.or_eq_false_iff, Bool.cond_true_left, Bool.cond_false_right, Bool.cond_false_left, Bool.cond_true_right, Bool.not_true, Bool.not_false, Bool.true_eq_false, Bool.false_eq_true, Int.toNat_natCast, beq_iff_eq, bne_iff_ne, Int.not_le, Int.not_lt, Bool.and_true, Bool.true_and, Bool.or_false, Bool.false_or, Bool.and_false, Bool.false_and, Bool.or_true, Bool.true_or, not_or, not_and, in64, by3, by35, by43] at *; omega) | (simp_all; done)))) ?_)) | (with_reducible refine Ob.mk ?_ ?_) | ((with_reducible refine Br.mk (fun h => ?_) (fun h => ?_)) <;> (try simp only [decide_eq_true_eq, decide_eq_false_iff_not, Bool.and_eq_true, Bool.or_eq_true, Bool.not_eq_true', Bool.not_eq_false', Bool.and_eq_false_iff, Bool.or_eq_false_iff, Bool.cond_true_left, Bool.cond_false_right, Bool.cond_false_left, Bool.cond_true_right, Bool.not_true, Bool.not_false, Bool.true_eq_false, Bool.false_eq_true, Int.toNat_natCast, beq_iff_eq, bne_iff_ne, Int.not_le, Int.not_lt, Bool.and_true, Bool.true_and, Bool.or_false, Bool.false_or, Bool.and_false, Bool.false_and, Bool.or_true, Bool.true_or, not_or, not_and] at h) <;> (try (simp only [not_true_eq_false, or_self, eq_self, not_false_eq_true, Int.reduceEq, reduceCtorEq] at h; done))))
  refine (check_ok xs (by omega)).call ?_
  repeat' (first | (with_reducible refine Sq.go ?_) | ((with_reducible refine Ev.mk ?_); conv => whnf) | (with_reducible refine Dr.mk ⟨by kernel_rfl, by kernel_rfl⟩ ?_) | ((with_reducible refine Ob.mk (by (first | exact rfl | omega | (intros; first | assumption | omega | (simp only [in64]; omega) | (simp only [decide_eq_true_eq, decide_eq_false_iff_not, Bool.and_eq_true, Bool.or_eq_true, Bool.not_eq_true', Bool.not_eq_false', Bool.and_eq_false_iff, Bool.or_eq_false_iff, Bool.cond_true_left, Bool.cond_false_right, Bool.cond_false_left, Bool.cond_true_right, Bool.not_true, Bool.not_false, Bool.true_eq_false, Bool.false_eq_true, Int.toNat_natCast, beq_iff_eq, bne_iff_ne, Int.not_le, Int.not_lt, Bool.and_true, Bool.true_and, Bool.or_false, Bool.false_or, Bool.and_false, Bool.false_and, Bool.or_true, Bool.true_or, not_or, not_and, in64, by3, by35, by43] at *; omega) | (simp_all; done)))) ?_)) | (with_reducible refine Ob.mk ?_ ?_) | ((with_reducible refine Br.mk (fun h => ?_) (fun h => ?_)) <;> (try simp only [decide_eq_true_eq, decide_eq_false_iff_not, Bool.and_eq_true, Bool.or_eq_true, Bool.not_eq_true', Bool.not_eq_false', Bool.and_eq_false_iff, Bool.or_eq_false_iff, Bool.cond_true_left, Bool.cond_false_right, Bool.cond_false_left, Bool.cond_true_right, Bool.not_true, Bool.not_false, Bool.true_eq_false, Bool.false_eq_true, Int.toNat_natCast, beq_iff_eq, bne_iff_ne, Int.not_le, Int.not_lt, Bool.and_true, Bool.true_and, Bool.or_false, Bool.false_or, Bool.and_false, Bool.false_and, Bool.or_true, Bool.true_or, not_or, not_and] at h) <;> (try (simp only [not_true_eq_false, or_self, eq_self, not_false_eq_true, Int.reduceEq, reduceCtorEq] at h; done))))
  · have : comb op xs ys = [] := by rw [comb, if_neg (by omega)]
    rw [this]
    refine ⟨eSpans_nil, congrArg (D.int .i64) ?_, True.intro⟩
    rw [combE, if_neg h]
  refine (check_ok ys (by omega)).call ?_
  repeat' (first | (with_reducible refine Sq.go ?_) | ((with_reducible refine Ev.mk ?_); conv => whnf) | (with_reducible refine Dr.mk ⟨by kernel_rfl, by kernel_rfl⟩ ?_) | ((with_reducible refine Ob.mk (by (first | exact rfl | omega | (intros; first | assumption | omega | (simp only [in64]; omega) | (simp only [decide_eq_true_eq, decide_eq_false_iff_not, Bool.and_eq_true, Bool.or_eq_true, Bool.not_eq_true', Bool.not_eq_false', Bool.and_eq_false_iff, Bool.or_eq_false_iff, Bool.cond_true_left, Bool.cond_false_right, Bool.cond_false_left, Bool.cond_true_right, Bool.not_true, Bool.not_false, Bool.true_eq_false, Bool.false_eq_true, Int.toNat_natCast, beq_iff_eq, bne_iff_ne, Int.not_le, Int.not_lt, Bool.and_true, Bool.true_and, Bool.or_false, Bool.false_or, Bool.and_false, Bool.false_and, Bool.or_true, Bool.true_or, not_or, not_and, in64, by3, by35, by43] at *; omega) | (simp_all; done)))) ?_)) | (with_reducible refine Ob.mk ?_ ?_) | ((with_reducible refine Br.mk (fun h => ?_) (fun h => ?_)) <;> (try simp only [decide_eq_true_eq, decide_eq_false_iff_not, Bool.and_eq_true, Bool.or_eq_true, Bool.not_eq_true', Bool.not_eq_false', Bool.and_eq_false_iff, Bool.or_eq_false_iff, Bool.cond_true_left, Bool.cond_false_right, Bool.cond_false_left, Bool.cond_true_right, Bool.not_true, Bool.not_false, Bool.true_eq_false, Bool.false_eq_true, Int.toNat_natCast, beq_iff_eq, bne_iff_ne, Int.not_le, Int.not_lt, Bool.and_true, Bool.true_and, Bool.or_false, Bool.false_or, Bool.and_false, Bool.false_and, Bool.or_true, Bool.true_or, not_or, not_and] at h) <;> (try (simp only [not_true_eq_false, or_self, eq_self, not_false_eq_true, Int.reduceEq, reduceCtorEq] at h; done))))
  · have : comb op xs ys = [] := by rw [comb, if_neg (by omega)]
    rw [this]
    refine ⟨eSpans_nil, congrArg (D.int .i64) ?_, True.intro⟩
    rw [combE, if_pos (by assumption)]
  refine (boundaries_ok xs (by omega)).call ?_
  repeat' (first | (with_reducible refine Sq.go ?_) | ((with_reducible refine Ev.mk ?_); conv => whnf) | (with_reducible refine Dr.mk ⟨by kernel_rfl, by kernel_rfl⟩ ?_) | ((with_reducible refine Ob.mk (by (first | exact rfl | omega | (intros; first | assumption | omega | (simp only [in64]; omega) | (simp only [decide_eq_true_eq, decide_eq_false_iff_not, Bool.and_eq_true, Bool.or_eq_true, Bool.not_eq_true', Bool.not_eq_false', Bool.and_eq_false_iff, Bool.or_eq_false_iff, Bool.cond_true_left, Bool.cond_false_right, Bool.cond_false_left, Bool.cond_true_right, Bool.not_true, Bool.not_false, Bool.true_eq_false, Bool.false_eq_true, Int.toNat_natCast, beq_iff_eq, bne_iff_ne, Int.not_le, Int.not_lt, Bool.and_true, Bool.true_and, Bool.or_false, Bool.false_or, Bool.and_false, Bool.false_and, Bool.or_true, Bool.true_or, not_or, not_and, in64, by3, by35, by43] at *; omega) | (simp_all; done)))) ?_)) | (with_reducible refine Ob.mk ?_ ?_) | ((with_reducible refine Br.mk (fun h => ?_) (fun h => ?_)) <;> (try simp only [decide_eq_true_eq, decide_eq_false_iff_not, Bool.and_eq_true, Bool.or_eq_true, Bool.not_eq_true', Bool.not_eq_false', Bool.and_eq_false_iff, Bool.or_eq_false_iff, Bool.cond_true_left, Bool.cond_false_right, Bool.cond_false_left, Bool.cond_true_right, Bool.not_true, Bool.not_false, Bool.true_eq_false, Bool.false_eq_true, Int.toNat_natCast, beq_iff_eq, bne_iff_ne, Int.not_le, Int.not_lt, Bool.and_true, Bool.true_and, Bool.or_false, Bool.false_or, Bool.and_false, Bool.false_and, Bool.or_true, Bool.true_or, not_or, not_and] at h) <;> (try (simp only [not_true_eq_false, or_self, eq_self, not_false_eq_true, Int.reduceEq, reduceCtorEq] at h; done))))
  refine (boundaries_ok ys (by omega)).call ?_
  repeat' (first | (with_reducible refine Sq.go ?_) | ((with_reducible refine Ev.mk ?_); conv => whnf) | (with_reducible refine Dr.mk ⟨by kernel_rfl, by kernel_rfl⟩ ?_) | ((with_reducible refine Ob.mk (by (first | exact rfl | omega | (intros; first | assumption | omega | (simp only [in64]; omega) | (simp only [decide_eq_true_eq, decide_eq_false_iff_not, Bool.and_eq_true, Bool.or_eq_true, Bool.not_eq_true', Bool.not_eq_false', Bool.and_eq_false_iff, Bool.or_eq_false_iff, Bool.cond_true_left, Bool.cond_false_right, Bool.cond_false_left, Bool.cond_true_right, Bool.not_true, Bool.not_false, Bool.true_eq_false, Bool.false_eq_true, Int.toNat_natCast, beq_iff_eq, bne_iff_ne, Int.not_le, Int.not_lt, Bool.and_true, Bool.true_and, Bool.or_false, Bool.false_or, Bool.and_false, Bool.false_and, Bool.or_true, Bool.true_or, not_or, not_and, in64, by3, by35, by43] at *; omega) | (simp_all; done)))) ?_)) | (with_reducible refine Ob.mk ?_ ?_) | ((with_reducible refine Br.mk (fun h => ?_) (fun h => ?_)) <;> (try simp only [decide_eq_true_eq, decide_eq_false_iff_not, Bool.and_eq_true, Bool.or_eq_true, Bool.not_eq_true', Bool.not_eq_false', Bool.and_eq_false_iff, Bool.or_eq_false_iff, Bool.cond_true_left, Bool.cond_false_right, Bool.cond_false_left, Bool.cond_true_right, Bool.not_true, Bool.not_false, Bool.true_eq_false, Bool.false_eq_true, Int.toNat_natCast, beq_iff_eq, bne_iff_ne, Int.not_le, Int.not_lt, Bool.and_true, Bool.true_and, Bool.or_false, Bool.false_or, Bool.and_false, Bool.false_and, Bool.or_true, Bool.true_or, not_or, not_and] at h) <;> (try (simp only [not_true_eq_false, or_self, eq_self, not_false_eq_true, Int.reduceEq, reduceCtorEq] at h; done))))
  have hlen : lens [bounds xs, bounds ys] ≤ 1000000 := by
    simp only [lens, List.map_cons, List.map_nil, List.sum_cons, List.sum_nil, bounds_len]
    omega
  refine (distinct_ok [bounds xs, bounds ys] (show 2 ≤ 1000 by omega) hlen).give ⟨.osl' rfl (Nat.le_refl _) (fun i hi => match i, hi with
    | 0, _ => ⟨.d, True.intro⟩
    | 1, _ => ⟨.d, True.intro⟩
    | i + 2, h => absurd h (by omega)), True.intro⟩ ?_
  have hcl : (cuts xs ys).length ≤ 1000000 := by
    have h1 := compact_len ([bounds xs, bounds ys].flatten.mergeSort fun x y => decide (x ≤ y))
    rw [List.length_mergeSort, flat_len] at h1
    exact Nat.le_trans h1 hlen
  have hcomb : comb op xs ys = combN op xs ys (cuts xs ys) ((cuts xs ys).length - 1) := by rw [comb, if_pos ⟨by assumption, by assumption⟩]
  have hcombE : combE xs ys = 0 := by rw [combE, if_pos (by assumption)]; assumption
  rw [hcomb, hcombE]
  show Ev _
  change Ev (setD _ _ (.d (eInts (cuts xs ys))) _)
  generalize cuts xs ys = cs at hcl
  repeat' (first | (with_reducible refine Sq.go ?_) | ((with_reducible refine Ev.mk ?_); conv => whnf) | (with_reducible refine Dr.mk ⟨by kernel_rfl, by kernel_rfl⟩ ?_) | ((with_reducible refine Ob.mk (by (first | exact rfl | omega | (intros; first | assumption | omega | (simp only [in64]; omega) | (simp only [decide_eq_true_eq, decide_eq_false_iff_not, Bool.and_eq_true, Bool.or_eq_true, Bool.not_eq_true', Bool.not_eq_false', Bool.and_eq_false_iff, Bool.or_eq_false_iff, Bool.cond_true_left, Bool.cond_false_right, Bool.cond_false_left, Bool.cond_true_right, Bool.not_true, Bool.not_false, Bool.true_eq_false, Bool.false_eq_true, Int.toNat_natCast, beq_iff_eq, bne_iff_ne, Int.not_le, Int.not_lt, Bool.and_true, Bool.true_and, Bool.or_false, Bool.false_or, Bool.and_false, Bool.false_and, Bool.or_true, Bool.true_or, not_or, not_and, in64, by3, by35, by43] at *; omega) | (simp_all; done)))) ?_)) | (with_reducible refine Ob.mk ?_ ?_) | ((with_reducible refine Br.mk (fun h => ?_) (fun h => ?_)) <;> (try simp only [decide_eq_true_eq, decide_eq_false_iff_not, Bool.and_eq_true, Bool.or_eq_true, Bool.not_eq_true', Bool.not_eq_false', Bool.and_eq_false_iff, Bool.or_eq_false_iff, Bool.cond_true_left, Bool.cond_false_right, Bool.cond_false_left, Bool.cond_true_right, Bool.not_true, Bool.not_false, Bool.true_eq_false, Bool.false_eq_true, Int.toNat_natCast, beq_iff_eq, bne_iff_ne, Int.not_le, Int.not_lt, Bool.and_true, Bool.true_and, Bool.or_false, Bool.false_or, Bool.and_false, Bool.false_and, Bool.or_true, Bool.true_or, not_or, not_and] at h) <;> (try (simp only [not_true_eq_false, or_self, eq_self, not_false_eq_true, Int.reduceEq, reduceCtorEq] at h; done))))
  refine Awp.vec 6 35 2 (fun _ => []) rfl ?_
  refine loop_rule hT (S := Nat × Nat) (fun s => ([(0, .d (eSpans xs)), (1, .d (eSpans ys)), (2, .d (.fn (.func f) [] [])), (6, .osl (.loc 1) s.2 0 (combN op xs ys cs s.1).length), (10, .d (eInts cs)), (11, .d (.int .i64 s.1))], ⟨[none, some (.vec 35 2 s.2 (combN op xs ys cs s.1).length fun i => up (eSpan ((combN op xs ys cs s.1).getD i default)))], []⟩)) (fun s => s.1 ≤ cs.length - 1) (fun s => cs.length - s.1) (0, 0) ?_ ?_ ?_
  · repeat' (first | exact True.intro | exact rfl | exact Nat.le_refl _ | refine And.intro ?_ ?_)
    intro i hi
    exact absurd hi (Nat.not_lt_zero _)
  · exact Nat.zero_le _
  · rintro ⟨k, g⟩ hk
    dsimp only at hk
    have hacc : (combN op xs ys cs k).length ≤ k := by
      clear hk
      induction k with
      | zero => exact Nat.le_refl _
      | succ k ih =>
        have := push_len (combN op xs ys cs k) (cs.getD k 0) (cs.getD (k + 1) 0)
        simp only [combN]
        cases op (has xs (cs.getD k 0)) (has ys (cs.getD k 0)) <;> simp only [cond_true, cond_false] <;> omega
    repeat' (first | (with_reducible refine Sq.go ?_) | ((with_reducible refine Ev.mk ?_); conv => whnf) | (with_reducible refine Dr.mk ⟨by kernel_rfl, by kernel_rfl⟩ ?_) | ((with_reducible refine Ob.mk (by (first | exact rfl | omega | (intros; first | assumption | omega | (simp only [in64]; omega) | (simp only [decide_eq_true_eq, decide_eq_false_iff_not, Bool.and_eq_true, Bool.or_eq_true, Bool.not_eq_true', Bool.not_eq_false', Bool.and_eq_false_iff, Bool.or_eq_false_iff, Bool.cond_true_left, Bool.cond_false_right, Bool.cond_false_left, Bool.cond_true_right, Bool.not_true, Bool.not_false, Bool.true_eq_false, Bool.false_eq_true, Int.toNat_natCast, beq_iff_eq, bne_iff_ne, Int.not_le, Int.not_lt, Bool.and_true, Bool.true_and, Bool.or_false, Bool.false_or, Bool.and_false, Bool.false_and, Bool.or_true, Bool.true_or, not_or, not_and, in64, by3, by35, by43] at *; omega) | (simp_all; done)))) ?_)) | (with_reducible refine Ob.mk ?_ ?_) | ((with_reducible refine Br.mk (fun h => ?_) (fun h => ?_)) <;> (try simp only [decide_eq_true_eq, decide_eq_false_iff_not, Bool.and_eq_true, Bool.or_eq_true, Bool.not_eq_true', Bool.not_eq_false', Bool.and_eq_false_iff, Bool.or_eq_false_iff, Bool.cond_true_left, Bool.cond_false_right, Bool.cond_false_left, Bool.cond_true_right, Bool.not_true, Bool.not_false, Bool.true_eq_false, Bool.false_eq_true, Int.toNat_natCast, beq_iff_eq, bne_iff_ne, Int.not_le, Int.not_lt, Bool.and_true, Bool.true_and, Bool.or_false, Bool.false_or, Bool.and_false, Bool.false_and, Bool.or_true, Bool.true_or, not_or, not_and] at h) <;> (try (simp only [not_true_eq_false, or_self, eq_self, not_false_eq_true, Int.reduceEq, reduceCtorEq] at h; done))))
    · refine (thas_ok xs (by omega) _).call ?_
      repeat' (first | (with_reducible refine Sq.go ?_) | ((with_reducible refine Ev.mk ?_); conv => whnf) | (with_reducible refine Dr.mk ⟨by kernel_rfl, by kernel_rfl⟩ ?_) | ((with_reducible refine Ob.mk (by (first | exact rfl | omega | (intros; first | assumption | omega | (simp only [in64]; omega) | (simp only [decide_eq_true_eq, decide_eq_false_iff_not, Bool.and_eq_true, Bool.or_eq_true, Bool.not_eq_true', Bool.not_eq_false', Bool.and_eq_false_iff, Bool.or_eq_false_iff, Bool.cond_true_left, Bool.cond_false_right, Bool.cond_false_left, Bool.cond_true_right, Bool.not_true, Bool.not_false, Bool.true_eq_false, Bool.false_eq_true, Int.toNat_natCast, beq_iff_eq, bne_iff_ne, Int.not_le, Int.not_lt, Bool.and_true, Bool.true_and, Bool.or_false, Bool.false_or, Bool.and_false, Bool.false_and, Bool.or_true, Bool.true_or, not_or, not_and, in64, by3, by35, by43] at *; omega) | (simp_all; done)))) ?_)) | (with_reducible refine Ob.mk ?_ ?_) | ((with_reducible refine Br.mk (fun h => ?_) (fun h => ?_)) <;> (try simp only [decide_eq_true_eq, decide_eq_false_iff_not, Bool.and_eq_true, Bool.or_eq_true, Bool.not_eq_true', Bool.not_eq_false', Bool.and_eq_false_iff, Bool.or_eq_false_iff, Bool.cond_true_left, Bool.cond_false_right, Bool.cond_false_left, Bool.cond_true_right, Bool.not_true, Bool.not_false, Bool.true_eq_false, Bool.false_eq_true, Int.toNat_natCast, beq_iff_eq, bne_iff_ne, Int.not_le, Int.not_lt, Bool.and_true, Bool.true_and, Bool.or_false, Bool.false_or, Bool.and_false, Bool.false_and, Bool.or_true, Bool.true_or, not_or, not_and] at h) <;> (try (simp only [not_true_eq_false, or_self, eq_self, not_false_eq_true, Int.reduceEq, reduceCtorEq] at h; done))))
      refine (thas_ok ys (by omega) _).call ?_
      repeat' (first | (with_reducible refine Sq.go ?_) | ((with_reducible refine Ev.mk ?_); conv => whnf) | (with_reducible refine Dr.mk ⟨by kernel_rfl, by kernel_rfl⟩ ?_) | ((with_reducible refine Ob.mk (by (first | exact rfl | omega | (intros; first | assumption | omega | (simp only [in64]; omega) | (simp only [decide_eq_true_eq, decide_eq_false_iff_not, Bool.and_eq_true, Bool.or_eq_true, Bool.not_eq_true', Bool.not_eq_false', Bool.and_eq_false_iff, Bool.or_eq_false_iff, Bool.cond_true_left, Bool.cond_false_right, Bool.cond_false_left, Bool.cond_true_right, Bool.not_true, Bool.not_false, Bool.true_eq_false, Bool.false_eq_true, Int.toNat_natCast, beq_iff_eq, bne_iff_ne, Int.not_le, Int.not_lt, Bool.and_true, Bool.true_and, Bool.or_false, Bool.false_or, Bool.and_false, Bool.false_and, Bool.or_true, Bool.true_or, not_or, not_and, in64, by3, by35, by43] at *; omega) | (simp_all; done)))) ?_)) | (with_reducible refine Ob.mk ?_ ?_) | ((with_reducible refine Br.mk (fun h => ?_) (fun h => ?_)) <;> (try simp only [decide_eq_true_eq, decide_eq_false_iff_not, Bool.and_eq_true, Bool.or_eq_true, Bool.not_eq_true', Bool.not_eq_false', Bool.and_eq_false_iff, Bool.or_eq_false_iff, Bool.cond_true_left, Bool.cond_false_right, Bool.cond_false_left, Bool.cond_true_right, Bool.not_true, Bool.not_false, Bool.true_eq_false, Bool.false_eq_true, Int.toNat_natCast, beq_iff_eq, bne_iff_ne, Int.not_le, Int.not_lt, Bool.and_true, Bool.true_and, Bool.or_false, Bool.false_or, Bool.and_false, Bool.false_and, Bool.or_true, Bool.true_or, not_or, not_and] at h) <;> (try (simp only [not_true_eq_false, or_self, eq_self, not_false_eq_true, Int.reduceEq, reduceCtorEq] at h; done))))
      refine (hf _ _).call ?_
      repeat' (first | (with_reducible refine Sq.go ?_) | ((with_reducible refine Ev.mk ?_); conv => whnf) | (with_reducible refine Dr.mk ⟨by kernel_rfl, by kernel_rfl⟩ ?_) | ((with_reducible refine Ob.mk (by (first | exact rfl | omega | (intros; first | assumption | omega | (simp only [in64]; omega) | (simp only [decide_eq_true_eq, decide_eq_false_iff_not, Bool.and_eq_true, Bool.or_eq_true, Bool.not_eq_true', Bool.not_eq_false', Bool.and_eq_false_iff, Bool.or_eq_false_iff, Bool.cond_true_left, Bool.cond_false_right, Bool.cond_false_left, Bool.cond_true_right, Bool.not_true, Bool.not_false, Bool.true_eq_false, Bool.false_eq_true, Int.toNat_natCast, beq_iff_eq, bne_iff_ne, Int.not_le, Int.not_lt, Bool.and_true, Bool.true_and, Bool.or_false, Bool.false_or, Bool.and_false, Bool.false_and, Bool.or_true, Bool.true_or, not_or, not_and, in64, by3, by35, by43] at *; omega) | (simp_all; done)))) ?_)) | (with_reducible refine Ob.mk ?_ ?_) | ((with_reducible refine Br.mk (fun h => ?_) (fun h => ?_)) <;> (try simp only [decide_eq_true_eq, decide_eq_false_iff_not, Bool.and_eq_true, Bool.or_eq_true, Bool.not_eq_true', Bool.not_eq_false', Bool.and_eq_false_iff, Bool.or_eq_false_iff, Bool.cond_true_left, Bool.cond_false_right, Bool.cond_false_left, Bool.cond_true_right, Bool.not_true, Bool.not_false, Bool.true_eq_false, Bool.false_eq_true, Int.toNat_natCast, beq_iff_eq, bne_iff_ne, Int.not_le, Int.not_lt, Bool.and_true, Bool.true_and, Bool.or_false, Bool.false_or, Bool.and_false, Bool.false_and, Bool.or_true, Bool.true_or, not_or, not_and] at h) <;> (try (simp only [not_true_eq_false, or_self, eq_self, not_false_eq_true, Int.reduceEq, reduceCtorEq] at h; done))))
      · have hn : combN op xs ys cs (k + 1) = combN op xs ys cs k := by simp only [combN, h, cond_false]
        refine ⟨(k + 1, g), by show k + 1 ≤ cs.length - 1; omega, by show cs.length - (k + 1) < cs.length - k; omega, ?_⟩
        dsimp only
        rw [hn]
        repeat' (first | exact True.intro | exact rfl | exact Nat.le_refl _ | refine And.intro ?_ ?_)
        exact fun i hi => ⟨rfl, rfl⟩
      all_goals have hn : combN op xs ys cs (k + 1) = push (combN op xs ys cs k) (cs.getD k 0) (cs.getD (k + 1) 0) := by simp only [combN, ‹op (has xs (cs.getD k 0)) (has ys (cs.getD k 0)) = true›, cond_true]
      all_goals generalize combN op xs ys cs k = acc at hacc hn h ⊢
      · have e0 : 0 + ((acc.length : Int) - 1).toNat = acc.length - 1 := by omega
        have hp : push acc (cs.getD k 0) (cs.getD (k + 1) 0) = acc.set (acc.length - 1) ⟨(acc.getD (acc.length - 1) default).fr, cs.getD (k + 1) 0⟩ := by
          rw [push, if_pos]
          rw [e0] at h
          exact ⟨by omega, h.2⟩
        rw [hp] at hn
        refine ⟨(k + 1, g), by show k + 1 ≤ cs.length - 1; omega, by show cs.length - (k + 1) < cs.length - k; omega, ?_⟩
        dsimp only
        rw [hn]
        repeat' (first | exact True.intro | exact rfl | exact Nat.le_refl _ | refine And.intro ?_ ?_)
        · rw [List.length_set]
          rfl
        · rw [List.length_set]
          exact Nat.le_refl _
        · intro i hi
          rw [List.length_set] at hi
          refine ⟨?_, rfl⟩
          rw [e0]
          by_cases hi2 : i = acc.length - 1
          · subst hi2
            have : Nat.beq (acc.length - 1) (acc.length - 1) = true := Nat.beq_refl _
            simp only [this, cond_true]
            simp only [List.getD_eq_getElem?_getD, List.getElem?_set_self hi, Option.getD_some]
            rfl
          · have : Nat.beq i (acc.length - 1) = false := by
              cases hb : Nat.beq i (acc.length - 1) with
              | false => rfl
              | true => exact absurd (Nat.eq_of_beq_eq_true hb) hi2
            simp only [this, cond_false]
            simp only [List.getD_eq_getElem?_getD, List.getElem?_set_ne (Ne.symm hi2)]
      · have hp : push acc (cs.getD k 0) (cs.getD (k + 1) 0) = acc ++ [⟨cs.getD k 0, cs.getD (k + 1) 0⟩] := by
          rw [push, if_neg]
          rintro ⟨h1, h2⟩
          have e0 : 0 + ((acc.length : Int) - 1).toNat = acc.length - 1 := by omega
          rw [e0] at h
          first
            | exact h (by omega) h2
            | (rcases h with h | h <;> first | omega | exact h h2)
        rw [hp] at hn
        refine ⟨(k + 1, g + 1), by show k + 1 ≤ cs.length - 1; omega, by show cs.length - (k + 1) < cs.length - k; omega, ?_⟩
        dsimp only
        rw [hn]
        repeat' (first | exact True.intro | exact rfl | exact Nat.le_refl _ | refine And.intro ?_ ?_)
        · rw [List.length_append]
          rfl
        · rw [List.length_append]
          exact Nat.le_refl _
        · intro i hi
          rw [List.length_append] at hi
          refine ⟨?_, rfl⟩
          by_cases hi2 : i < acc.length
          · rw [joinF_lt hi2]
            simp only [List.getD_eq_getElem?_getD, List.getElem?_append_left hi2]
          · have hi3 : i = acc.length := by simp at hi; omega
            subst hi3
            rw [joinF_ge (Nat.le_refl _)]
            simp only [List.getD_eq_getElem?_getD, List.getElem?_append_right (Nat.le_refl _), Nat.sub_self]
            rfl
    · have hk : k = cs.length - 1 := by omega
      subst hk
      refine ⟨⟨rfl, rfl, by omega, rfl, fun i hi => ?_⟩, rfl, True.intro⟩
      rw [Nat.zero_add]

theorem union_ok (xs ys : List Span) (hx : xs.length ≤ 100000) (hy : ys.length ≤ 100000) :
    Pure Try.prog 19 [eSpans xs, eSpans ys] [eSpans (comb (fun a b => a || b) xs ys), .int .i64 (combE xs ys)] := by
  refine pure_rule hT (T := tab) (N := 11) (rs := [.tmp 4, .tmp 5]) Try.func19 rfl rfl rfl (by kernel_rfl) rfl ?_
  repeat' (first | (with_reducible refine Sq.go ?_) | ((with_reducible refine Ev.mk ?_); conv => whnf) | (with_reducible refine Dr.mk ⟨by kernel_rfl, by kernel_rfl⟩ ?_) | ((with_reducible refine Ob.mk (by (first | exact rfl | omega | (intros; first | assumption | omega | (simp only [in64]; omega) | (simp only [decide_eq_true_eq, decide_eq_false_iff_not, Bool.and_eq_true, Bool.or_eq_true, Bool.not_eq_true', Bool.not_eq_false', Bool.and_eq_false_iff, Bool.or_eq_false_iff, Bool.cond_true_left, Bool.cond_false_right, Bool.cond_false_left, Bool.cond_true_right, Bool.not_true, Bool.not_false, Bool.true_eq_false, Bool.false_eq_true, Int.toNat_natCast, beq_iff_eq, bne_iff_ne, Int.not_le, Int.not_lt, Bool.and_true, Bool.true_and, Bool.or_false, Bool.false_or, Bool.and_false, Bool.false_and, Bool.or_true, Bool.true_or, not_or, not_and, in64, by3, by35, by43] at *; omega) | (simp_all; done)))) ?_)) | (with_reducible refine Ob.mk ?_ ?_) | ((with_reducible refine Br.mk (fun h => ?_) (fun h => ?_)) <;> (try simp only [decide_eq_true_eq, decide_eq_false_iff_not, Bool.and_eq_true, Bool.or_eq_true, Bool.not_eq_true', Bool.not_eq_false', Bool.and_eq_false_iff, Bool.or_eq_false_iff, Bool.cond_true_left, Bool.cond_false_right, Bool.cond_false_left, Bool.cond_true_right, Bool.not_true, Bool.not_false, Bool.true_eq_false, Bool.false_eq_true, Int.toNat_natCast, beq_iff_eq, bne_iff_ne, Int.not_le, Int.not_lt, Bool.and_true, Bool.true_and, Bool.or_false, Bool.false_or, Bool.and_false, Bool.false_and, Bool.or_true, Bool.true_or, not_or, not_and] at h) <;> (try (simp only [not_true_eq_false, or_self, eq_self, not_false_eq_true, Int.reduceEq, reduceCtorEq] at h; done))))
  refine (combine_ok 30 _ union1_ok xs ys hx hy).call ?_
  repeat' (first | (with_reducible refine Sq.go ?_) | ((with_reducible refine Ev.mk ?_); conv => whnf) | (with_reducible refine Dr.mk ⟨by kernel_rfl, by kernel_rfl⟩ ?_) | ((with_reducible refine Ob.mk (by (first | exact rfl | omega | (intros; first | assumption | omega | (simp only [in64]; omega) | (simp only [decide_eq_true_eq, decide_eq_false_iff_not, Bool.and_eq_true, Bool.or_eq_true, Bool.not_eq_true', Bool.not_eq_false', Bool.and_eq_false_iff, Bool.or_eq_false_iff, Bool.cond_true_left, Bool.cond_false_right, Bool.cond_false_left, Bool.cond_true_right, Bool.not_true, Bool.not_false, Bool.true_eq_false, Bool.false_eq_true, Int.toNat_natCast, beq_iff_eq, bne_iff_ne, Int.not_le, Int.not_lt, Bool.and_true, Bool.true_and, Bool.or_false, Bool.false_or, Bool.and_false, Bool.false_and, Bool.or_true, Bool.true_or, not_or, not_and, in64, by3, by35, by43] at *; omega) | (simp_all; done)))) ?_)) | (with_reducible refine Ob.mk ?_ ?_) | ((with_reducible refine Br.mk (fun h => ?_) (fun h => ?_)) <;> (try simp only [decide_eq_true_eq, decide_eq_false_iff_not, Bool.and_eq_true, Bool.or_eq_true, Bool.not_eq_true', Bool.not_eq_false', Bool.and_eq_false_iff, Bool.or_eq_false_iff, Bool.cond_true_left, Bool.cond_false_right, Bool.cond_false_left, Bool.cond_true_right, Bool.not_true, Bool.not_false, Bool.true_eq_false, Bool.false_eq_true, Int.toNat_natCast, beq_iff_eq, bne_iff_ne, Int.not_le, Int.not_lt, Bool.and_true, Bool.true_and, Bool.or_false, Bool.false_or, Bool.and_false, Bool.false_and, Bool.or_true, Bool.true_or, not_or, not_and] at h) <;> (try (simp only [not_true_eq_false, or_self, eq_self, not_false_eq_true, Int.reduceEq, reduceCtorEq] at h; done))))
  exact ⟨⟨rfl, rfl, fun i hi => rfl⟩, rfl, True.intro⟩

theorem meet_ok (xs ys : List Span) (hx : xs.length ≤ 100000) (hy : ys.length ≤ 100000) :
    Pure Try.prog 21 [eSpans xs, eSpans ys] [eSpans (comb (fun a b => a && b) xs ys), .int .i64 (combE xs ys)] := by
  refine pure_rule hT (T := tab) (N := 11) (rs := [.tmp 4, .tmp 5]) Try.func21 rfl rfl rfl (by kernel_rfl) rfl ?_
  repeat' (first | (with_reducible refine Sq.go ?_) | ((with_reducible refine Ev.mk ?_); conv => whnf) | (with_reducible refine Dr.mk ⟨by kernel_rfl, by kernel_rfl⟩ ?_) | ((with_reducible refine Ob.mk (by (first | exact rfl | omega | (intros; first | assumption | omega | (simp only [in64]; omega) | (simp only [decide_eq_true_eq, decide_eq_false_iff_not, Bool.and_eq_true, Bool.or_eq_true, Bool.not_eq_true', Bool.not_eq_false', Bool.and_eq_false_iff, Bool.or_eq_false_iff, Bool.cond_true_left, Bool.cond_false_right, Bool.cond_false_left, Bool.cond_true_right, Bool.not_true, Bool.not_false, Bool.true_eq_false, Bool.false_eq_true, Int.toNat_natCast, beq_iff_eq, bne_iff_ne, Int.not_le, Int.not_lt, Bool.and_true, Bool.true_and, Bool.or_false, Bool.false_or, Bool.and_false, Bool.false_and, Bool.or_true, Bool.true_or, not_or, not_and, in64, by3, by35, by43] at *; omega) | (simp_all; done)))) ?_)) | (with_reducible refine Ob.mk ?_ ?_) | ((with_reducible refine Br.mk (fun h => ?_) (fun h => ?_)) <;> (try simp only [decide_eq_true_eq, decide_eq_false_iff_not, Bool.and_eq_true, Bool.or_eq_true, Bool.not_eq_true', Bool.not_eq_false', Bool.and_eq_false_iff, Bool.or_eq_false_iff, Bool.cond_true_left, Bool.cond_false_right, Bool.cond_false_left, Bool.cond_true_right, Bool.not_true, Bool.not_false, Bool.true_eq_false, Bool.false_eq_true, Int.toNat_natCast, beq_iff_eq, bne_iff_ne, Int.not_le, Int.not_lt, Bool.and_true, Bool.true_and, Bool.or_false, Bool.false_or, Bool.and_false, Bool.false_and, Bool.or_true, Bool.true_or, not_or, not_and] at h) <;> (try (simp only [not_true_eq_false, or_self, eq_self, not_false_eq_true, Int.reduceEq, reduceCtorEq] at h; done))))
  refine (combine_ok 32 _ meet1_ok xs ys hx hy).call ?_
  repeat' (first | (with_reducible refine Sq.go ?_) | ((with_reducible refine Ev.mk ?_); conv => whnf) | (with_reducible refine Dr.mk ⟨by kernel_rfl, by kernel_rfl⟩ ?_) | ((with_reducible refine Ob.mk (by (first | exact rfl | omega | (intros; first | assumption | omega | (simp only [in64]; omega) | (simp only [decide_eq_true_eq, decide_eq_false_iff_not, Bool.and_eq_true, Bool.or_eq_true, Bool.not_eq_true', Bool.not_eq_false', Bool.and_eq_false_iff, Bool.or_eq_false_iff, Bool.cond_true_left, Bool.cond_false_right, Bool.cond_false_left, Bool.cond_true_right, Bool.not_true, Bool.not_false, Bool.true_eq_false, Bool.false_eq_true, Int.toNat_natCast, beq_iff_eq, bne_iff_ne, Int.not_le, Int.not_lt, Bool.and_true, Bool.true_and, Bool.or_false, Bool.false_or, Bool.and_false, Bool.false_and, Bool.or_true, Bool.true_or, not_or, not_and, in64, by3, by35, by43] at *; omega) | (simp_all; done)))) ?_)) | (with_reducible refine Ob.mk ?_ ?_) | ((with_reducible refine Br.mk (fun h => ?_) (fun h => ?_)) <;> (try simp only [decide_eq_true_eq, decide_eq_false_iff_not, Bool.and_eq_true, Bool.or_eq_true, Bool.not_eq_true', Bool.not_eq_false', Bool.and_eq_false_iff, Bool.or_eq_false_iff, Bool.cond_true_left, Bool.cond_false_right, Bool.cond_false_left, Bool.cond_true_right, Bool.not_true, Bool.not_false, Bool.true_eq_false, Bool.false_eq_true, Int.toNat_natCast, beq_iff_eq, bne_iff_ne, Int.not_le, Int.not_lt, Bool.and_true, Bool.true_and, Bool.or_false, Bool.false_or, Bool.and_false, Bool.false_and, Bool.or_true, Bool.true_or, not_or, not_and] at h) <;> (try (simp only [not_true_eq_false, or_self, eq_self, not_false_eq_true, Int.reduceEq, reduceCtorEq] at h; done))))
  exact ⟨⟨rfl, rfl, fun i hi => rfl⟩, rfl, True.intro⟩

theorem minus_ok (xs ys : List Span) (hx : xs.length ≤ 100000) (hy : ys.length ≤ 100000) :
    Pure Try.prog 23 [eSpans xs, eSpans ys] [eSpans (comb (fun a b => a && !b) xs ys), .int .i64 (combE xs ys)] := by
  refine pure_rule hT (T := tab) (N := 11) (rs := [.tmp 4, .tmp 5]) Try.func23 rfl rfl rfl (by kernel_rfl) rfl ?_
  repeat' (first | (with_reducible refine Sq.go ?_) | ((with_reducible refine Ev.mk ?_); conv => whnf) | (with_reducible refine Dr.mk ⟨by kernel_rfl, by kernel_rfl⟩ ?_) | ((with_reducible refine Ob.mk (by (first | exact rfl | omega | (intros; first | assumption | omega | (simp only [in64]; omega) | (simp only [decide_eq_true_eq, decide_eq_false_iff_not, Bool.and_eq_true, Bool.or_eq_true, Bool.not_eq_true', Bool.not_eq_false', Bool.and_eq_false_iff, Bool.or_eq_false_iff, Bool.cond_true_left, Bool.cond_false_right, Bool.cond_false_left, Bool.cond_true_right, Bool.not_true, Bool.not_false, Bool.true_eq_false, Bool.false_eq_true, Int.toNat_natCast, beq_iff_eq, bne_iff_ne, Int.not_le, Int.not_lt, Bool.and_true, Bool.true_and, Bool.or_false, Bool.false_or, Bool.and_false, Bool.false_and, Bool.or_true, Bool.true_or, not_or, not_and, in64, by3, by35, by43] at *; omega) | (simp_all; done)))) ?_)) | (with_reducible refine Ob.mk ?_ ?_) | ((with_reducible refine Br.mk (fun h => ?_) (fun h => ?_)) <;> (try simp only [decide_eq_true_eq, decide_eq_false_iff_not, Bool.and_eq_true, Bool.or_eq_true, Bool.not_eq_true', Bool.not_eq_false', Bool.and_eq_false_iff, Bool.or_eq_false_iff, Bool.cond_true_left, Bool.cond_false_right, Bool.cond_false_left, Bool.cond_true_right, Bool.not_true, Bool.not_false, Bool.true_eq_false, Bool.false_eq_true, Int.toNat_natCast, beq_iff_eq, bne_iff_ne, Int.not_le, Int.not_lt, Bool.and_true, Bool.true_and, Bool.or_false, Bool.false_or, Bool.and_false, Bool.false_and, Bool.or_true, Bool.true_or, not_or, not_and] at h) <;> (try (simp only [not_true_eq_false, or_self, eq_self, not_false_eq_true, Int.reduceEq, reduceCtorEq] at h; done))))
  refine (combine_ok 33 _ minus1_ok xs ys hx hy).call ?_
  repeat' (first | (with_reducible refine Sq.go ?_) | ((with_reducible refine Ev.mk ?_); conv => whnf) | (with_reducible refine Dr.mk ⟨by kernel_rfl, by kernel_rfl⟩ ?_) | ((with_reducible refine Ob.mk (by (first | exact rfl | omega | (intros; first | assumption | omega | (simp only [in64]; omega) | (simp only [decide_eq_true_eq, decide_eq_false_iff_not, Bool.and_eq_true, Bool.or_eq_true, Bool.not_eq_true', Bool.not_eq_false', Bool.and_eq_false_iff, Bool.or_eq_false_iff, Bool.cond_true_left, Bool.cond_false_right, Bool.cond_false_left, Bool.cond_true_right, Bool.not_true, Bool.not_false, Bool.true_eq_false, Bool.false_eq_true, Int.toNat_natCast, beq_iff_eq, bne_iff_ne, Int.not_le, Int.not_lt, Bool.and_true, Bool.true_and, Bool.or_false, Bool.false_or, Bool.and_false, Bool.false_and, Bool.or_true, Bool.true_or, not_or, not_and, in64, by3, by35, by43] at *; omega) | (simp_all; done)))) ?_)) | (with_reducible refine Ob.mk ?_ ?_) | ((with_reducible refine Br.mk (fun h => ?_) (fun h => ?_)) <;> (try simp only [decide_eq_true_eq, decide_eq_false_iff_not, Bool.and_eq_true, Bool.or_eq_true, Bool.not_eq_true', Bool.not_eq_false', Bool.and_eq_false_iff, Bool.or_eq_false_iff, Bool.cond_true_left, Bool.cond_false_right, Bool.cond_false_left, Bool.cond_true_right, Bool.not_true, Bool.not_false, Bool.true_eq_false, Bool.false_eq_true, Int.toNat_natCast, beq_iff_eq, bne_iff_ne, Int.not_le, Int.not_lt, Bool.and_true, Bool.true_and, Bool.or_false, Bool.false_or, Bool.and_false, Bool.false_and, Bool.or_true, Bool.true_or, not_or, not_and] at h) <;> (try (simp only [not_true_eq_false, or_self, eq_self, not_false_eq_true, Int.reduceEq, reduceCtorEq] at h; done))))
  exact ⟨⟨rfl, rfl, fun i hi => rfl⟩, rfl, True.intro⟩
end Go.Proofs.Ythghfcbnhdjmiaa
