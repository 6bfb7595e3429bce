/-
  Chapter 24: the reference's Of, walked.
-/
import Derived.Test.YteamiepijajjdaaDoorBunI
namespace Go.Proofs.YteamiepijajjdaaDoor
set_option linter.unusedSimpArgs false
set_option linter.unusedVariables false
open Go Go.Ab
set_option maxRecDepth 100000
set_option maxHeartbeats 0
theorem first_ok (l : List Sec) (hl : l.length ≤ 1000000) (k : Nat) (hk : k < l.length) : Pure Tryd.prog 42 [eSecs l, .int .i64 k] [.bool (!((l.take k).any fun p => decide (p.id = (l.getD k default).id)))] := by
  refine pure_rule hT (T := tab) (N := 22) (rs := [.tmp 4]) Tryd.func42 rfl rfl rfl (by kernel_rfl) rfl ?_
  repeat' (first | (with_reducible refine Sq.go ?_) | ((with_reducible refine Ev.mk ?_); conv => whnf) | (with_reducible refine Dr.mk ⟨by kernel_rfl, by kernel_rfl⟩ ?_) | ((with_reducible refine Ob.mk (by (first | exact rfl | assumption | omega | (intro h0; simp only [h0]; with_unfolding_all exact rfl) | (intro h1 h0; simp only [h0]; with_unfolding_all exact rfl) | (intros; first | assumption | (with_unfolding_all exact rfl) | omega | (simp only [oadd_eq, Int.toNat_natCast] <;> omega) | (simp only [in64, List.length_nil, List.length_cons] <;> omega) | (simp only [bsl, beq_iff_eq, bne_iff_ne, in64] at * <;> omega) | ((try simp only [Int.toNat_natCast]); exact Nat.le_trans (Nat.mul_le_mul_right _ (show _ ≤ 2000000 by omega)) (by with_unfolding_all decide)) | (simp_all; done)))) ?_)) | (with_reducible refine Ob.mk ?_ ?_) | ((with_reducible refine Br.mk (fun h => ?_) (fun h => ?_)) <;> (try simp only [bsl, beq_iff_eq, bne_iff_ne] at h) <;> (try simp only [not_true_eq_false, not_false_eq_true, false_or, or_false, true_and, and_true] at h) <;> (try exact absurd h (by decide)) <;> (try contradiction) <;> (try (exfalso; omega)) <;> (try (simp only [not_true_eq_false, or_self, eq_self, not_false_eq_true, Int.reduceEq, reduceCtorEq] at h; done))))
  refine loop_rule hT (S := Nat) (fun j => ([(0, .d (eSecs l)), (1, .d (.int .i64 k)), (5, .d (.int .i64 j))], ⟨[], []⟩)) (fun j => j ≤ k ∧ ((l.take k).any fun p => decide (p.id = (l.getD k default).id)) = (((l.take k).drop j).any fun p => decide (p.id = (l.getD k default).id))) (fun j => k - j) 0 ?_ ?_ ?_
  · repeat' (first | exact True.intro | exact rfl | exact Nat.le_refl _ | refine And.intro ?_ ?_)
  · exact ⟨Nat.zero_le _, rfl⟩
  · rintro j ⟨hj, hc⟩
    have hlen : (l.take k).length = k := by rw [List.length_take]; omega
    by_cases hj2 : j < k
    · rw [drop_at (by rw [hlen]; exact hj2), List.any_cons] at hc
      have hg : (l.take k).getD j default = l.getD j default := by simp [List.getD_eq_getElem?_getD, List.getElem?_take, hj2]
      rw [hg] at hc
      repeat' (first | (with_reducible refine Sq.go ?_) | ((with_reducible refine Ev.mk ?_); conv => whnf) | (with_reducible refine Dr.mk ⟨by kernel_rfl, by kernel_rfl⟩ ?_) | ((with_reducible refine Ob.mk (by (first | exact rfl | assumption | omega | (intro h0; simp only [h0]; with_unfolding_all exact rfl) | (intro h1 h0; simp only [h0]; with_unfolding_all exact rfl) | (intros; first | assumption | (with_unfolding_all exact rfl) | omega | (simp only [oadd_eq, Int.toNat_natCast] <;> omega) | (simp only [in64, List.length_nil, List.length_cons] <;> omega) | (simp only [bsl, beq_iff_eq, bne_iff_ne, in64] at * <;> omega) | ((try simp only [Int.toNat_natCast]); exact Nat.le_trans (Nat.mul_le_mul_right _ (show _ ≤ 2000000 by omega)) (by with_unfolding_all decide)) | (simp_all; done)))) ?_)) | (with_reducible refine Ob.mk ?_ ?_) | ((with_reducible refine Br.mk (fun h => ?_) (fun h => ?_)) <;> (try simp only [bsl, beq_iff_eq, bne_iff_ne] at h) <;> (try simp only [not_true_eq_false, not_false_eq_true, false_or, or_false, true_and, and_true] at h) <;> (try exact absurd h (by decide)) <;> (try contradiction) <;> (try (exfalso; omega)) <;> (try (simp only [not_true_eq_false, or_self, eq_self, not_false_eq_true, Int.reduceEq, reduceCtorEq] at h; done))))
      · rw [hc, decide_eq_true h]
        exact ⟨rfl, True.intro⟩
      · refine ⟨j + 1, ⟨by show j + 1 ≤ k; omega, ?_⟩, by show k - (j + 1) < k - j; omega, ?_⟩
        · rw [hc, decide_eq_false h, Bool.false_or]
        · repeat' (first | exact True.intro | exact rfl | exact Nat.le_refl _ | refine And.intro ?_ ?_)
    · rw [drop_end (by omega), List.any_nil] at hc
      rw [hc]
      repeat' (first | (with_reducible refine Sq.go ?_) | ((with_reducible refine Ev.mk ?_); conv => whnf) | (with_reducible refine Dr.mk ⟨by kernel_rfl, by kernel_rfl⟩ ?_) | ((with_reducible refine Ob.mk (by (first | exact rfl | assumption | omega | (intro h0; simp only [h0]; with_unfolding_all exact rfl) | (intro h1 h0; simp only [h0]; with_unfolding_all exact rfl) | (intros; first | assumption | (with_unfolding_all exact rfl) | omega | (simp only [oadd_eq, Int.toNat_natCast] <;> omega) | (simp only [in64, List.length_nil, List.length_cons] <;> omega) | (simp only [bsl, beq_iff_eq, bne_iff_ne, in64] at * <;> omega) | ((try simp only [Int.toNat_natCast]); exact Nat.le_trans (Nat.mul_le_mul_right _ (show _ ≤ 2000000 by omega)) (by with_unfolding_all decide)) | (simp_all; done)))) ?_)) | (with_reducible refine Ob.mk ?_ ?_) | ((with_reducible refine Br.mk (fun h => ?_) (fun h => ?_)) <;> (try simp only [bsl, beq_iff_eq, bne_iff_ne] at h) <;> (try simp only [not_true_eq_false, not_false_eq_true, false_or, or_false, true_and, and_true] at h) <;> (try exact absurd h (by decide)) <;> (try contradiction) <;> (try (exfalso; omega)) <;> (try (simp only [not_true_eq_false, or_self, eq_self, not_false_eq_true, Int.reduceEq, reduceCtorEq] at h; done))))
      exact ⟨rfl, True.intro⟩
theorem takes_ok (taken : List Seat) (ht : taken.length ≤ 1000000) (st n : Int) : Pure Tryd.prog 43 [eSeats taken, .int .i64 st, .int .i64 n] [.bool (tk taken st n)] := by
  refine pure_rule hT (T := tab) (N := 30) (rs := [.tmp 6]) Tryd.func43 rfl rfl rfl (by kernel_rfl) rfl ?_
  repeat' (first | (with_reducible refine Sq.go ?_) | ((with_reducible refine Ev.mk ?_); conv => whnf) | (with_reducible refine Dr.mk ⟨by kernel_rfl, by kernel_rfl⟩ ?_) | ((with_reducible refine Ob.mk (by (first | exact rfl | assumption | omega | (intro h0; simp only [h0]; with_unfolding_all exact rfl) | (intro h1 h0; simp only [h0]; with_unfolding_all exact rfl) | (intros; first | assumption | (with_unfolding_all exact rfl) | omega | (simp only [oadd_eq, Int.toNat_natCast] <;> omega) | (simp only [in64, List.length_nil, List.length_cons] <;> omega) | (simp only [bsl, beq_iff_eq, bne_iff_ne, in64] at * <;> omega) | ((try simp only [Int.toNat_natCast]); exact Nat.le_trans (Nat.mul_le_mul_right _ (show _ ≤ 2000000 by omega)) (by with_unfolding_all decide)) | (simp_all; done)))) ?_)) | (with_reducible refine Ob.mk ?_ ?_) | ((with_reducible refine Br.mk (fun h => ?_) (fun h => ?_)) <;> (try simp only [bsl, beq_iff_eq, bne_iff_ne] at h) <;> (try simp only [not_true_eq_false, not_false_eq_true, false_or, or_false, true_and, and_true] at h) <;> (try exact absurd h (by decide)) <;> (try contradiction) <;> (try (exfalso; omega)) <;> (try (simp only [not_true_eq_false, or_self, eq_self, not_false_eq_true, Int.reduceEq, reduceCtorEq] at h; done))))
  refine loop_rule hT (S := Nat) (fun j => ([(0, .d (eSeats taken)), (1, .d (.int .i64 st)), (2, .d (.int .i64 n)), (7, .d (.int .i64 j))], ⟨[], []⟩)) (fun j => j ≤ taken.length ∧ tk taken st n = tk (taken.drop j) st n) (fun j => taken.length - j) 0 ?_ ?_ ?_
  · repeat' (first | exact True.intro | exact rfl | exact Nat.le_refl _ | refine And.intro ?_ ?_)
  · exact ⟨Nat.zero_le _, rfl⟩
  · rintro j ⟨hj, hc⟩
    by_cases hj2 : j < taken.length
    · have hd : tk (taken.drop j) st n = (decide ((taken.getD j default).student = st) && decide ((taken.getD j default).sec = n) || tk (taken.drop (j + 1)) st n) := by
        rw [drop_at hj2]; rfl
      rw [hd] at hc
      repeat' (first | (with_reducible refine Sq.go ?_) | ((with_reducible refine Ev.mk ?_); conv => whnf) | (with_reducible refine Dr.mk ⟨by kernel_rfl, by kernel_rfl⟩ ?_) | ((with_reducible refine Ob.mk (by (first | exact rfl | assumption | omega | (intro h0; simp only [h0]; with_unfolding_all exact rfl) | (intro h1 h0; simp only [h0]; with_unfolding_all exact rfl) | (intros; first | assumption | (with_unfolding_all exact rfl) | omega | (simp only [oadd_eq, Int.toNat_natCast] <;> omega) | (simp only [in64, List.length_nil, List.length_cons] <;> omega) | (simp only [bsl, beq_iff_eq, bne_iff_ne, in64] at * <;> omega) | ((try simp only [Int.toNat_natCast]); exact Nat.le_trans (Nat.mul_le_mul_right _ (show _ ≤ 2000000 by omega)) (by with_unfolding_all decide)) | (simp_all; done)))) ?_)) | (with_reducible refine Ob.mk ?_ ?_) | ((with_reducible refine Br.mk (fun h => ?_) (fun h => ?_)) <;> (try simp only [bsl, beq_iff_eq, bne_iff_ne] at h) <;> (try simp only [not_true_eq_false, not_false_eq_true, false_or, or_false, true_and, and_true] at h) <;> (try exact absurd h (by decide)) <;> (try contradiction) <;> (try (exfalso; omega)) <;> (try (simp only [not_true_eq_false, or_self, eq_self, not_false_eq_true, Int.reduceEq, reduceCtorEq] at h; done))))
      · rw [hc, decide_eq_true h.1, decide_eq_true h.2]
        exact ⟨rfl, True.intro⟩
      · refine ⟨j + 1, ⟨by show j + 1 ≤ taken.length; omega, ?_⟩, by show taken.length - (j + 1) < taken.length - j; omega, ?_⟩
        · rw [hc]
          have : (decide ((taken.getD j default).student = st) && decide ((taken.getD j default).sec = n)) = false := by
            rw [Bool.and_eq_false_iff]
            rcases h with h | h
            · exact .inl (decide_eq_false h)
            · exact .inr (decide_eq_false h)
          rw [this, Bool.false_or]
        · repeat' (first | exact True.intro | exact rfl | exact Nat.le_refl _ | refine And.intro ?_ ?_)
    · rw [drop_end (by omega)] at hc
      rw [hc]
      repeat' (first | (with_reducible refine Sq.go ?_) | ((with_reducible refine Ev.mk ?_); conv => whnf) | (with_reducible refine Dr.mk ⟨by kernel_rfl, by kernel_rfl⟩ ?_) | ((with_reducible refine Ob.mk (by (first | exact rfl | assumption | omega | (intro h0; simp only [h0]; with_unfolding_all exact rfl) | (intro h1 h0; simp only [h0]; with_unfolding_all exact rfl) | (intros; first | assumption | (with_unfolding_all exact rfl) | omega | (simp only [oadd_eq, Int.toNat_natCast] <;> omega) | (simp only [in64, List.length_nil, List.length_cons] <;> omega) | (simp only [bsl, beq_iff_eq, bne_iff_ne, in64] at * <;> omega) | ((try simp only [Int.toNat_natCast]); exact Nat.le_trans (Nat.mul_le_mul_right _ (show _ ≤ 2000000 by omega)) (by with_unfolding_all decide)) | (simp_all; done)))) ?_)) | (with_reducible refine Ob.mk ?_ ?_) | ((with_reducible refine Br.mk (fun h => ?_) (fun h => ?_)) <;> (try simp only [bsl, beq_iff_eq, bne_iff_ne] at h) <;> (try simp only [not_true_eq_false, not_false_eq_true, false_or, or_false, true_and, and_true] at h) <;> (try exact absurd h (by decide)) <;> (try contradiction) <;> (try (exfalso; omega)) <;> (try (simp only [not_true_eq_false, or_self, eq_self, not_false_eq_true, Int.reduceEq, reduceCtorEq] at h; done))))
      exact ⟨rfl, True.intro⟩
theorem insB_at (b : Bun) : ∀ (acc : List Bun) (n : Nat), n ≤ acc.length → (∀ i, i < n → (acc.getD i default).sec < b.sec) → (n < acc.length → ¬ (acc.getD n default).sec < b.sec) → insB b acc = acc.take n ++ b :: acc.drop n
  | [], n, hn, _, _ => by
    have : n = 0 := by simpa using hn
    subst this
    rfl
  | x :: r, 0, _, _, h2 => by
    have := h2 (by simp)
    rw [insB, if_neg (by simpa using this)]
    rfl
  | x :: r, n + 1, hn, h1, h2 => by
    have hx := h1 0 (by omega)
    rw [insB, if_pos (by simpa using hx), insB_at b r n (by simpa using hn) (fun i hi => by simpa using h1 (i + 1) (by omega)) (fun hlt => by simpa using h2 (by simpa using hlt))]
    rfl
theorem ins_rows {α : Type} [Inhabited α] (e : α → List D) (acc : List α) (b : α) (n : Nat) (hn : n ≤ acc.length) (g : Nat → List AV) (hg : g 0 = up (e b)) (i : Nat) (hi : i < 0 + n + 1 + (acc.length - n)) :
    joinF (0 + n + 1) (joinF (0 + n) (joinF 0 (rowFn []) fun i => up (e (acc.getD i default))) g) (fun i => up (e (acc.getD (n + i) default))) i = up (e ((acc.take n ++ b :: acc.drop n).getD i default)) := by
  have hl : (acc.take n).length = n := by rw [List.length_take]; omega
  rcases Nat.lt_or_ge i (0 + n + 1) with h1 | h1
  · rw [joinF_lt h1]
    rcases Nat.lt_or_ge i (0 + n) with h2 | h2
    · rw [joinF_lt h2, joinF_ge (Nat.zero_le _), getD_append_left (by omega)]
      congr 2
      simp only [List.getD_eq_getElem?_getD, Nat.sub_zero]
      rw [List.getElem?_take_of_lt (by omega)]
    · have : i = n := by omega
      subst this
      rw [joinF_ge h2, getD_append_right (by omega), hl]
      rw [show i - (0 + i) = 0 by omega, hg]
      simp
  · rw [joinF_ge h1, getD_append_right (by omega), hl]
    have : i - n = (i - (0 + n + 1)) + 1 := by omega
    rw [this]
    congr 2
    simp only [List.getD_eq_getElem?_getD, List.getElem?_cons_succ, List.getElem?_drop]
theorem sortB_snoc (xs : List Bun) (b : Bun) : sortB (xs ++ [b]) = insB b (sortB xs) := by
  unfold sortB
  rw [List.foldl_append]
  rfl
theorem sortB_len (xs : List Bun) : (sortB xs).length = xs.length := by
  obtain ⟨h, _⟩ := sortB_aux xs [] List.Pairwise.nil
  have := h.length_eq
  simpa [sortB] using this
def labFrom (taken : List Seat) (st : Int) (labs : List Int) : Int := (labs.find? fun n => tk taken st n).getD (-1)
theorem labFrom_at (taken : List Seat) (st : Int) {labs : List Int} {j : Nat} (hj : j < labs.length) : labFrom taken st (labs.drop j) = if tk taken st (labs.getD j default) = true then labs.getD j default else labFrom taken st (labs.drop (j + 1)) := by
  unfold labFrom
  rw [drop_at hj, List.find?_cons]
  split <;> simp_all
theorem rof_ok (l : List Sec) (hl : fewS l) (taken : List Seat) (ht : taken.length ≤ 1000) (st term : Int) : Pure Tryd.prog 23 [eSecs l, eSeats taken, .int .i64 st, .int .i64 term] [eBuns (ofB l taken st term)] := by
  refine pure_rule hT (T := tab) (N := 101) (rs := [.tmp 8]) Tryd.func23 rfl rfl rfl (by kernel_rfl) rfl ?_
  have hln := hl.1
  repeat' (first | (with_reducible refine Sq.go ?_) | ((with_reducible refine Ev.mk ?_); conv => whnf) | (with_reducible refine Dr.mk ⟨by kernel_rfl, by kernel_rfl⟩ ?_) | ((with_reducible refine Ob.mk (by (first | exact rfl | assumption | omega | (intro h0; simp only [h0]; with_unfolding_all exact rfl) | (intro h1 h0; simp only [h0]; with_unfolding_all exact rfl) | (intros; first | assumption | (with_unfolding_all exact rfl) | omega | (simp only [oadd_eq, Int.toNat_natCast] <;> omega) | (simp only [in64, List.length_nil, List.length_cons] <;> omega) | (simp only [bsl, beq_iff_eq, bne_iff_ne, in64] at * <;> omega) | ((try simp only [Int.toNat_natCast]); exact Nat.le_trans (Nat.mul_le_mul_right _ (show _ ≤ 2000000 by omega)) (by with_unfolding_all decide)) | (simp_all; done)))) ?_)) | (with_reducible refine Ob.mk ?_ ?_) | ((with_reducible refine Br.mk (fun h => ?_) (fun h => ?_)) <;> (try simp only [bsl, beq_iff_eq, bne_iff_ne] at h) <;> (try simp only [not_true_eq_false, not_false_eq_true, false_or, or_false, true_and, and_true] at h) <;> (try exact absurd h (by decide)) <;> (try contradiction) <;> (try (exfalso; omega)) <;> (try (simp only [not_true_eq_false, or_self, eq_self, not_false_eq_true, Int.reduceEq, reduceCtorEq] at h; done))))
  refine Awp.frz [] 9 (eBuns []) (.eq rfl) ?_
  refine loop_rule hT (S := Nat) (fun k => ([(0, .d (eSecs l)), (1, .d (eSeats taken)), (2, .d (.int .i64 st)), (3, .d (.int .i64 term)), (9, .d (eBuns (sortB (cands taken st term [] (l.take k))))), (10, .d (.int .i64 k))],
      ⟨[], []⟩)) (fun k => k ≤ l.length) (fun k => l.length - k) 0 ?_ ?_ ?_
  · repeat' (first | exact True.intro | exact rfl | exact Nat.le_refl _ | refine And.intro ?_ ?_)
  · exact Nat.zero_le _
  · intro k hk
    by_cases hk2 : k < l.length
    · have hts := take_succ_at (xs := l) (k := k) hk2
      obtain ⟨hx1, hx2, hx3⟩ := few_at hl (getD_mem hk2)
      have hcs : cands taken st term [] (l.take (k + 1)) = cands taken st term [] (l.take k) ++ (if ((l.take k).any fun p => decide (p.id = (l.getD k default).id)) = false ∧ wantS taken st term (l.getD k default) = true then [⟨(l.getD k default).id, labOf taken st (l.getD k default)⟩] else []) := by rw [hts, cands_snoc, List.nil_append]
      have hcl : (sortB (cands taken st term [] (l.take k))).length ≤ 1000 := by
        have := cands_len taken st term (l.take k) []
        rw [List.length_take] at this
        rw [sortB_len]
        omega
      obtain ⟨acc, hacc⟩ : ∃ acc, sortB (cands taken st term [] (l.take k)) = acc := ⟨_, rfl⟩
      have hFi := first_ok l (by omega) k hk2
      have hT1 := takes_ok taken (by omega) st (l.getD k default).id
      by_cases hw : ((l.take k).any fun p => decide (p.id = (l.getD k default).id)) = false ∧ wantS taken st term (l.getD k default) = true
      · obtain ⟨w0, w⟩ := hw
        rw [if_pos ⟨w0, w⟩] at hcs
        have hst : sortB (cands taken st term [] (l.take (k + 1))) = insB ⟨(l.getD k default).id, labOf taken st (l.getD k default)⟩ acc := by rw [hcs, sortB_snoc, hacc]
        simp only [wantS, Bool.and_eq_true, decide_eq_true_eq, Bool.not_eq_true'] at w
        obtain ⟨w1, w2, w3⟩ := w
        rw [w0] at hFi
        have hFi : Pure Tryd.prog 42 [eSecs l, .int .i64 k] [.bool true] := hFi
        rw [w3] at hT1
        dsimp only
        rw [hacc] at hcl ⊢
        repeat' (first | (with_reducible refine Sq.go ?_) | ((with_reducible refine Ev.mk ?_); conv => whnf) | (with_reducible refine Dr.mk ⟨by kernel_rfl, by kernel_rfl⟩ ?_) | ((with_reducible refine Ob.mk (by (first | exact rfl | assumption | omega | (intro h0; simp only [h0]; with_unfolding_all exact rfl) | (intro h1 h0; simp only [h0]; with_unfolding_all exact rfl) | (intros; first | assumption | (with_unfolding_all exact rfl) | omega | (simp only [oadd_eq, Int.toNat_natCast] <;> omega) | (simp only [in64, List.length_nil, List.length_cons] <;> omega) | (simp only [bsl, beq_iff_eq, bne_iff_ne, in64] at * <;> omega) | ((try simp only [Int.toNat_natCast]); exact Nat.le_trans (Nat.mul_le_mul_right _ (show _ ≤ 2000000 by omega)) (by with_unfolding_all decide)) | (simp_all; done)))) ?_)) | (with_reducible refine Ob.mk ?_ ?_) | ((with_reducible refine Br.mk (fun h => ?_) (fun h => ?_)) <;> (try simp only [bsl, beq_iff_eq, bne_iff_ne] at h) <;> (try simp only [not_true_eq_false, not_false_eq_true, false_or, or_false, true_and, and_true] at h) <;> (try exact absurd h (by decide)) <;> (try contradiction) <;> (try (exfalso; omega)) <;> (try (simp only [not_true_eq_false, or_self, eq_self, not_false_eq_true, Int.reduceEq, reduceCtorEq] at h; done))))
        refine hFi.call ?_
        repeat' (first | (with_reducible refine Sq.go ?_) | ((with_reducible refine Ev.mk ?_); conv => whnf) | (with_reducible refine Dr.mk ⟨by kernel_rfl, by kernel_rfl⟩ ?_) | ((with_reducible refine Ob.mk (by (first | exact rfl | assumption | omega | (intro h0; simp only [h0]; with_unfolding_all exact rfl) | (intro h1 h0; simp only [h0]; with_unfolding_all exact rfl) | (intros; first | assumption | (with_unfolding_all exact rfl) | omega | (simp only [oadd_eq, Int.toNat_natCast] <;> omega) | (simp only [in64, List.length_nil, List.length_cons] <;> omega) | (simp only [bsl, beq_iff_eq, bne_iff_ne, in64] at * <;> omega) | ((try simp only [Int.toNat_natCast]); exact Nat.le_trans (Nat.mul_le_mul_right _ (show _ ≤ 2000000 by omega)) (by with_unfolding_all decide)) | (simp_all; done)))) ?_)) | (with_reducible refine Ob.mk ?_ ?_) | ((with_reducible refine Br.mk (fun h => ?_) (fun h => ?_)) <;> (try simp only [bsl, beq_iff_eq, bne_iff_ne] at h) <;> (try simp only [not_true_eq_false, not_false_eq_true, false_or, or_false, true_and, and_true] at h) <;> (try exact absurd h (by decide)) <;> (try contradiction) <;> (try (exfalso; omega)) <;> (try (simp only [not_true_eq_false, or_self, eq_self, not_false_eq_true, Int.reduceEq, reduceCtorEq] at h; done))))
        rotate_left
        · exfalso
          rcases ‹¬ (l.getD k default).term = term ∨ (l.getD k default).lab = true› with h | h
          · exact h w1
          · rw [w2] at h; cases h
        refine hT1.call ?_
        repeat' (first | (with_reducible refine Sq.go ?_) | ((with_reducible refine Ev.mk ?_); conv => whnf) | (with_reducible refine Dr.mk ⟨by kernel_rfl, by kernel_rfl⟩ ?_) | ((with_reducible refine Ob.mk (by (first | exact rfl | assumption | omega | (intro h0; simp only [h0]; with_unfolding_all exact rfl) | (intro h1 h0; simp only [h0]; with_unfolding_all exact rfl) | (intros; first | assumption | (with_unfolding_all exact rfl) | omega | (simp only [oadd_eq, Int.toNat_natCast] <;> omega) | (simp only [in64, List.length_nil, List.length_cons] <;> omega) | (simp only [bsl, beq_iff_eq, bne_iff_ne, in64] at * <;> omega) | ((try simp only [Int.toNat_natCast]); exact Nat.le_trans (Nat.mul_le_mul_right _ (show _ ≤ 2000000 by omega)) (by with_unfolding_all decide)) | (simp_all; done)))) ?_)) | (with_reducible refine Ob.mk ?_ ?_) | ((with_reducible refine Br.mk (fun h => ?_) (fun h => ?_)) <;> (try simp only [bsl, beq_iff_eq, bne_iff_ne] at h) <;> (try simp only [not_true_eq_false, not_false_eq_true, false_or, or_false, true_and, and_true] at h) <;> (try exact absurd h (by decide)) <;> (try contradiction) <;> (try (exfalso; omega)) <;> (try (simp only [not_true_eq_false, or_self, eq_self, not_false_eq_true, Int.reduceEq, reduceCtorEq] at h; done))))
        · exfalso
          rcases h with h | h
          · exact h w1
          · rw [w2] at h; cases h
        refine loop_rule hT (S := Nat) (fun j => ([(0, .d (eSecs l)), (1, .d (eSeats taken)), (2, .d (.int .i64 st)), (3, .d (.int .i64 term)), (9, .d (eBuns acc)), (10, .d (.int .i64 k)), (11, .ptr (.loc 0) 0 0 0), (12, .ptr (.loc 1) 0 0 0), (13, .d (.int .i64 ((j : Int) - 1)))],
            ⟨[some (.box 34 (up (eSec (l.getD k default)))), some (.box 24 (up (eBun ⟨(l.getD k default).id, labFrom taken st ((l.getD k default).labs.drop j)⟩)))], []⟩)) (fun j => j ≤ (l.getD k default).labs.length) (fun j => j) (l.getD k default).labs.length ?_ ?_ ?_
        · have e0 : labFrom taken st ((l.getD k default).labs.drop (l.getD k default).labs.length) = -1 := by rw [List.drop_length]; rfl
          dsimp only
          rw [e0]
          repeat' (first | exact True.intro | exact rfl | exact Nat.le_refl _ | refine And.intro ?_ ?_)
        · exact Nat.le_refl _
        · intro j hj
          cases j with
          | zero =>
            repeat' (first | (with_reducible refine Sq.go ?_) | ((with_reducible refine Ev.mk ?_); conv => whnf) | (with_reducible refine Dr.mk ⟨by kernel_rfl, by kernel_rfl⟩ ?_) | ((with_reducible refine Ob.mk (by (first | exact rfl | assumption | omega | (intro h0; simp only [h0]; with_unfolding_all exact rfl) | (intro h1 h0; simp only [h0]; with_unfolding_all exact rfl) | (intros; first | assumption | (with_unfolding_all exact rfl) | omega | (simp only [oadd_eq, Int.toNat_natCast] <;> omega) | (simp only [in64, List.length_nil, List.length_cons] <;> omega) | (simp only [bsl, beq_iff_eq, bne_iff_ne, in64] at * <;> omega) | ((try simp only [Int.toNat_natCast]); exact Nat.le_trans (Nat.mul_le_mul_right _ (show _ ≤ 2000000 by omega)) (by with_unfolding_all decide)) | (simp_all; done)))) ?_)) | (with_reducible refine Ob.mk ?_ ?_) | ((with_reducible refine Br.mk (fun h => ?_) (fun h => ?_)) <;> (try simp only [bsl, beq_iff_eq, bne_iff_ne] at h) <;> (try simp only [not_true_eq_false, not_false_eq_true, false_or, or_false, true_and, and_true] at h) <;> (try exact absurd h (by decide)) <;> (try contradiction) <;> (try (exfalso; omega)) <;> (try (simp only [not_true_eq_false, or_self, eq_self, not_false_eq_true, Int.reduceEq, reduceCtorEq] at h; done))))
            refine loop_rule hT (S := Nat) (fun n => ([(0, .d (eSecs l)), (1, .d (eSeats taken)), (2, .d (.int .i64 st)), (3, .d (.int .i64 term)), (9, .d (eBuns acc)), (10, .d (.int .i64 k)), (12, .ptr (.loc 1) 0 0 0), (14, .d (.int .i64 n))],
                ⟨[none, some (.box 24 (up (eBun ⟨(l.getD k default).id, labFrom taken st ((l.getD k default).labs)⟩)))], []⟩)) (fun n => n ≤ acc.length ∧ ∀ i, i < n → (acc.getD i default).sec < (l.getD k default).id) (fun n => acc.length - n) 0 ?_ ?_ ?_
            · repeat' (first | exact True.intro | exact rfl | exact Nat.le_refl _ | refine And.intro ?_ ?_)
            · exact ⟨Nat.zero_le _, fun i hi => absurd hi (by omega)⟩
            · rintro n ⟨hn, hlt⟩
              repeat' (first | (with_reducible refine Sq.go ?_) | ((with_reducible refine Ev.mk ?_); conv => whnf) | (with_reducible refine Dr.mk ⟨by kernel_rfl, by kernel_rfl⟩ ?_) | ((with_reducible refine Ob.mk (by (first | exact rfl | assumption | omega | (intro h0; simp only [h0]; with_unfolding_all exact rfl) | (intro h1 h0; simp only [h0]; with_unfolding_all exact rfl) | (intros; first | assumption | (with_unfolding_all exact rfl) | omega | (simp only [oadd_eq, Int.toNat_natCast] <;> omega) | (simp only [in64, List.length_nil, List.length_cons] <;> omega) | (simp only [bsl, beq_iff_eq, bne_iff_ne, in64] at * <;> omega) | ((try simp only [Int.toNat_natCast]); exact Nat.le_trans (Nat.mul_le_mul_right _ (show _ ≤ 2000000 by omega)) (by with_unfolding_all decide)) | (simp_all; done)))) ?_)) | (with_reducible refine Ob.mk ?_ ?_) | ((with_reducible refine Br.mk (fun h => ?_) (fun h => ?_)) <;> (try simp only [bsl, beq_iff_eq, bne_iff_ne] at h) <;> (try simp only [not_true_eq_false, not_false_eq_true, false_or, or_false, true_and, and_true] at h) <;> (try exact absurd h (by decide)) <;> (try contradiction) <;> (try (exfalso; omega)) <;> (try (simp only [not_true_eq_false, or_self, eq_self, not_false_eq_true, Int.reduceEq, reduceCtorEq] at h; done))))
              · refine ⟨n + 1, ⟨by show n + 1 ≤ acc.length; omega, fun i hi => ?_⟩, by show acc.length - (n + 1) < acc.length - n; omega, ?_⟩
                · rcases Nat.lt_or_ge i n with h1 | h1
                  · exact hlt i h1
                  · rw [show i = n by omega]
                    exact h.2
                · repeat' (first | exact True.intro | exact rfl | exact Nat.le_refl _ | refine And.intro ?_ ?_)
              · have hne : n < acc.length → ¬ (acc.getD n default).sec < (l.getD k default).id := fun h1 h2 => by omega
                have hins := insB_at ⟨(l.getD k default).id, labOf taken st (l.getD k default)⟩ acc n hn hlt hne
                refine FrzR.mk (fun i => eBun ((acc.take n ++ ⟨(l.getD k default).id, labOf taken st (l.getD k default)⟩ :: acc.drop n).getD i default)) (fun i hi => ?_) ?_
                · exact ins_rows eBun acc ⟨(l.getD k default).id, labOf taken st (l.getD k default)⟩ n hn _ rfl i hi
                repeat' (first | (with_reducible refine Sq.go ?_) | ((with_reducible refine Ev.mk ?_); conv => whnf) | (with_reducible refine Dr.mk ⟨by kernel_rfl, by kernel_rfl⟩ ?_) | ((with_reducible refine Ob.mk (by (first | exact rfl | assumption | omega | (intro h0; simp only [h0]; with_unfolding_all exact rfl) | (intro h1 h0; simp only [h0]; with_unfolding_all exact rfl) | (intros; first | assumption | (with_unfolding_all exact rfl) | omega | (simp only [oadd_eq, Int.toNat_natCast] <;> omega) | (simp only [in64, List.length_nil, List.length_cons] <;> omega) | (simp only [bsl, beq_iff_eq, bne_iff_ne, in64] at * <;> omega) | ((try simp only [Int.toNat_natCast]); exact Nat.le_trans (Nat.mul_le_mul_right _ (show _ ≤ 2000000 by omega)) (by with_unfolding_all decide)) | (simp_all; done)))) ?_)) | (with_reducible refine Ob.mk ?_ ?_) | ((with_reducible refine Br.mk (fun h => ?_) (fun h => ?_)) <;> (try simp only [bsl, beq_iff_eq, bne_iff_ne] at h) <;> (try simp only [not_true_eq_false, not_false_eq_true, false_or, or_false, true_and, and_true] at h) <;> (try exact absurd h (by decide)) <;> (try contradiction) <;> (try (exfalso; omega)) <;> (try (simp only [not_true_eq_false, or_self, eq_self, not_false_eq_true, Int.reduceEq, reduceCtorEq] at h; done))))
                refine ⟨k + 1, by show k + 1 ≤ l.length; omega, by show l.length - (k + 1) < l.length - k; omega, ?_⟩
                dsimp only
                rw [hst, hins]
                have hN : 0 + n + 1 + (acc.length - n) = (acc.take n ++ (⟨(l.getD k default).id, labOf taken st (l.getD k default)⟩ : Bun) :: acc.drop n).length := by
                  simp only [List.length_append, List.length_take, List.length_cons, List.length_drop]
                  omega
                repeat' (first | exact True.intro | exact rfl | exact Nat.le_refl _ | refine And.intro ?_ ?_)
                all_goals first
                  | exact congrArg (fun m => AV.d (D.sl 2 m _)) hN
                  | exact ⟨rfl, hN, fun i hi => rfl⟩
          | succ j =>
            have e : ((((j + 1 : Nat)) : Int) - 1) = (j : Int) := by omega
            have hT2 := takes_ok taken (by omega) st ((l.getD k default).labs.getD j default)
            have hlf := labFrom_at taken st (labs := (l.getD k default).labs) (j := j) hj
            dsimp only
            rw [e]
            by_cases ht2 : tk taken st ((l.getD k default).labs.getD j default) = true
            · rw [ht2] at hT2
              rw [if_pos ht2] at hlf
              repeat' (first | (with_reducible refine Sq.go ?_) | ((with_reducible refine Ev.mk ?_); conv => whnf) | (with_reducible refine Dr.mk ⟨by kernel_rfl, by kernel_rfl⟩ ?_) | ((with_reducible refine Ob.mk (by (first | exact rfl | assumption | omega | (intro h0; simp only [h0]; with_unfolding_all exact rfl) | (intro h1 h0; simp only [h0]; with_unfolding_all exact rfl) | (intros; first | assumption | (with_unfolding_all exact rfl) | omega | (simp only [oadd_eq, Int.toNat_natCast] <;> omega) | (simp only [in64, List.length_nil, List.length_cons] <;> omega) | (simp only [bsl, beq_iff_eq, bne_iff_ne, in64] at * <;> omega) | ((try simp only [Int.toNat_natCast]); exact Nat.le_trans (Nat.mul_le_mul_right _ (show _ ≤ 2000000 by omega)) (by with_unfolding_all decide)) | (simp_all; done)))) ?_)) | (with_reducible refine Ob.mk ?_ ?_) | ((with_reducible refine Br.mk (fun h => ?_) (fun h => ?_)) <;> (try simp only [bsl, beq_iff_eq, bne_iff_ne] at h) <;> (try simp only [not_true_eq_false, not_false_eq_true, false_or, or_false, true_and, and_true] at h) <;> (try exact absurd h (by decide)) <;> (try contradiction) <;> (try (exfalso; omega)) <;> (try (simp only [not_true_eq_false, or_self, eq_self, not_false_eq_true, Int.reduceEq, reduceCtorEq] at h; done))))
              refine hT2.call ?_
              repeat' (first | (with_reducible refine Sq.go ?_) | ((with_reducible refine Ev.mk ?_); conv => whnf) | (with_reducible refine Dr.mk ⟨by kernel_rfl, by kernel_rfl⟩ ?_) | ((with_reducible refine Ob.mk (by (first | exact rfl | assumption | omega | (intro h0; simp only [h0]; with_unfolding_all exact rfl) | (intro h1 h0; simp only [h0]; with_unfolding_all exact rfl) | (intros; first | assumption | (with_unfolding_all exact rfl) | omega | (simp only [oadd_eq, Int.toNat_natCast] <;> omega) | (simp only [in64, List.length_nil, List.length_cons] <;> omega) | (simp only [bsl, beq_iff_eq, bne_iff_ne, in64] at * <;> omega) | ((try simp only [Int.toNat_natCast]); exact Nat.le_trans (Nat.mul_le_mul_right _ (show _ ≤ 2000000 by omega)) (by with_unfolding_all decide)) | (simp_all; done)))) ?_)) | (with_reducible refine Ob.mk ?_ ?_) | ((with_reducible refine Br.mk (fun h => ?_) (fun h => ?_)) <;> (try simp only [bsl, beq_iff_eq, bne_iff_ne] at h) <;> (try simp only [not_true_eq_false, not_false_eq_true, false_or, or_false, true_and, and_true] at h) <;> (try exact absurd h (by decide)) <;> (try contradiction) <;> (try (exfalso; omega)) <;> (try (simp only [not_true_eq_false, or_self, eq_self, not_false_eq_true, Int.reduceEq, reduceCtorEq] at h; done))))
              refine ⟨j, by show j ≤ _; omega, by show j < j + 1; omega, ?_⟩
              dsimp only
              rw [hlf]
              repeat' (first | exact True.intro | exact rfl | exact Nat.le_refl _ | refine And.intro ?_ ?_)
            · rw [show tk taken st ((l.getD k default).labs.getD j default) = false by simpa using ht2] at hT2
              rw [if_neg ht2] at hlf
              repeat' (first | (with_reducible refine Sq.go ?_) | ((with_reducible refine Ev.mk ?_); conv => whnf) | (with_reducible refine Dr.mk ⟨by kernel_rfl, by kernel_rfl⟩ ?_) | ((with_reducible refine Ob.mk (by (first | exact rfl | assumption | omega | (intro h0; simp only [h0]; with_unfolding_all exact rfl) | (intro h1 h0; simp only [h0]; with_unfolding_all exact rfl) | (intros; first | assumption | (with_unfolding_all exact rfl) | omega | (simp only [oadd_eq, Int.toNat_natCast] <;> omega) | (simp only [in64, List.length_nil, List.length_cons] <;> omega) | (simp only [bsl, beq_iff_eq, bne_iff_ne, in64] at * <;> omega) | ((try simp only [Int.toNat_natCast]); exact Nat.le_trans (Nat.mul_le_mul_right _ (show _ ≤ 2000000 by omega)) (by with_unfolding_all decide)) | (simp_all; done)))) ?_)) | (with_reducible refine Ob.mk ?_ ?_) | ((with_reducible refine Br.mk (fun h => ?_) (fun h => ?_)) <;> (try simp only [bsl, beq_iff_eq, bne_iff_ne] at h) <;> (try simp only [not_true_eq_false, not_false_eq_true, false_or, or_false, true_and, and_true] at h) <;> (try exact absurd h (by decide)) <;> (try contradiction) <;> (try (exfalso; omega)) <;> (try (simp only [not_true_eq_false, or_self, eq_self, not_false_eq_true, Int.reduceEq, reduceCtorEq] at h; done))))
              refine hT2.call ?_
              repeat' (first | (with_reducible refine Sq.go ?_) | ((with_reducible refine Ev.mk ?_); conv => whnf) | (with_reducible refine Dr.mk ⟨by kernel_rfl, by kernel_rfl⟩ ?_) | ((with_reducible refine Ob.mk (by (first | exact rfl | assumption | omega | (intro h0; simp only [h0]; with_unfolding_all exact rfl) | (intro h1 h0; simp only [h0]; with_unfolding_all exact rfl) | (intros; first | assumption | (with_unfolding_all exact rfl) | omega | (simp only [oadd_eq, Int.toNat_natCast] <;> omega) | (simp only [in64, List.length_nil, List.length_cons] <;> omega) | (simp only [bsl, beq_iff_eq, bne_iff_ne, in64] at * <;> omega) | ((try simp only [Int.toNat_natCast]); exact Nat.le_trans (Nat.mul_le_mul_right _ (show _ ≤ 2000000 by omega)) (by with_unfolding_all decide)) | (simp_all; done)))) ?_)) | (with_reducible refine Ob.mk ?_ ?_) | ((with_reducible refine Br.mk (fun h => ?_) (fun h => ?_)) <;> (try simp only [bsl, beq_iff_eq, bne_iff_ne] at h) <;> (try simp only [not_true_eq_false, not_false_eq_true, false_or, or_false, true_and, and_true] at h) <;> (try exact absurd h (by decide)) <;> (try contradiction) <;> (try (exfalso; omega)) <;> (try (simp only [not_true_eq_false, or_self, eq_self, not_false_eq_true, Int.reduceEq, reduceCtorEq] at h; done))))
              refine ⟨j, by show j ≤ _; omega, by show j < j + 1; omega, ?_⟩
              dsimp only
              rw [hlf]
              repeat' (first | exact True.intro | exact rfl | exact Nat.le_refl _ | refine And.intro ?_ ?_)
      · rw [if_neg hw, List.append_nil] at hcs
        have w : ((l.take k).any fun p => decide (p.id = (l.getD k default).id)) = true ∨ ((l.take k).any fun p => decide (p.id = (l.getD k default).id)) = false ∧ (¬ (l.getD k default).term = term ∨ (l.getD k default).lab = true ∨ tk taken st (l.getD k default).id = false) := by
          cases hw0 : (l.take k).any fun p => decide (p.id = (l.getD k default).id)
          · refine .inr ⟨rfl, ?_⟩
            have hwf : wantS taken st term (l.getD k default) = false := by
              cases h : wantS taken st term (l.getD k default)
              · rfl
              · exact absurd ⟨hw0, h⟩ hw
            simp only [wantS, Bool.and_eq_false_iff, decide_eq_false_iff_not, Bool.not_eq_false'] at hwf
            exact hwf
          · exact .inl rfl
        obtain ⟨tkv, htkv⟩ : ∃ b, tk taken st (l.getD k default).id = b := ⟨_, rfl⟩
        rw [htkv] at hT1 w
        obtain ⟨fv, hfv⟩ : ∃ b, ((l.take k).any fun p => decide (p.id = (l.getD k default).id)) = b := ⟨_, rfl⟩
        rw [hfv] at hFi w
        have hstep : sortB (cands taken st term [] (l.take (k + 1))) = acc := by rw [hcs, hacc]
        dsimp only
        rw [hacc] at hcl ⊢
        cases fv
        · have hFi : Pure Tryd.prog 42 [eSecs l, .int .i64 k] [.bool true] := hFi
          have w := (w.resolve_left (by simp)).2
          cases tkv
          · repeat' (first | (with_reducible refine Sq.go ?_) | ((with_reducible refine Ev.mk ?_); conv => whnf) | (with_reducible refine Dr.mk ⟨by kernel_rfl, by kernel_rfl⟩ ?_) | ((with_reducible refine Ob.mk (by (first | exact rfl | assumption | omega | (intro h0; simp only [h0]; with_unfolding_all exact rfl) | (intro h1 h0; simp only [h0]; with_unfolding_all exact rfl) | (intros; first | assumption | (with_unfolding_all exact rfl) | omega | (simp only [oadd_eq, Int.toNat_natCast] <;> omega) | (simp only [in64, List.length_nil, List.length_cons] <;> omega) | (simp only [bsl, beq_iff_eq, bne_iff_ne, in64] at * <;> omega) | ((try simp only [Int.toNat_natCast]); exact Nat.le_trans (Nat.mul_le_mul_right _ (show _ ≤ 2000000 by omega)) (by with_unfolding_all decide)) | (simp_all; done)))) ?_)) | (with_reducible refine Ob.mk ?_ ?_) | ((with_reducible refine Br.mk (fun h => ?_) (fun h => ?_)) <;> (try simp only [bsl, beq_iff_eq, bne_iff_ne] at h) <;> (try simp only [not_true_eq_false, not_false_eq_true, false_or, or_false, true_and, and_true] at h) <;> (try exact absurd h (by decide)) <;> (try contradiction) <;> (try (exfalso; omega)) <;> (try (simp only [not_true_eq_false, or_self, eq_self, not_false_eq_true, Int.reduceEq, reduceCtorEq] at h; done))))
            refine hFi.call ?_
            repeat' (first | (with_reducible refine Sq.go ?_) | ((with_reducible refine Ev.mk ?_); conv => whnf) | (with_reducible refine Dr.mk ⟨by kernel_rfl, by kernel_rfl⟩ ?_) | ((with_reducible refine Ob.mk (by (first | exact rfl | assumption | omega | (intro h0; simp only [h0]; with_unfolding_all exact rfl) | (intro h1 h0; simp only [h0]; with_unfolding_all exact rfl) | (intros; first | assumption | (with_unfolding_all exact rfl) | omega | (simp only [oadd_eq, Int.toNat_natCast] <;> omega) | (simp only [in64, List.length_nil, List.length_cons] <;> omega) | (simp only [bsl, beq_iff_eq, bne_iff_ne, in64] at * <;> omega) | ((try simp only [Int.toNat_natCast]); exact Nat.le_trans (Nat.mul_le_mul_right _ (show _ ≤ 2000000 by omega)) (by with_unfolding_all decide)) | (simp_all; done)))) ?_)) | (with_reducible refine Ob.mk ?_ ?_) | ((with_reducible refine Br.mk (fun h => ?_) (fun h => ?_)) <;> (try simp only [bsl, beq_iff_eq, bne_iff_ne] at h) <;> (try simp only [not_true_eq_false, not_false_eq_true, false_or, or_false, true_and, and_true] at h) <;> (try exact absurd h (by decide)) <;> (try contradiction) <;> (try (exfalso; omega)) <;> (try (simp only [not_true_eq_false, or_self, eq_self, not_false_eq_true, Int.reduceEq, reduceCtorEq] at h; done))))
            · refine hT1.call ?_
              repeat' (first | (with_reducible refine Sq.go ?_) | ((with_reducible refine Ev.mk ?_); conv => whnf) | (with_reducible refine Dr.mk ⟨by kernel_rfl, by kernel_rfl⟩ ?_) | ((with_reducible refine Ob.mk (by (first | exact rfl | assumption | omega | (intro h0; simp only [h0]; with_unfolding_all exact rfl) | (intro h1 h0; simp only [h0]; with_unfolding_all exact rfl) | (intros; first | assumption | (with_unfolding_all exact rfl) | omega | (simp only [oadd_eq, Int.toNat_natCast] <;> omega) | (simp only [in64, List.length_nil, List.length_cons] <;> omega) | (simp only [bsl, beq_iff_eq, bne_iff_ne, in64] at * <;> omega) | ((try simp only [Int.toNat_natCast]); exact Nat.le_trans (Nat.mul_le_mul_right _ (show _ ≤ 2000000 by omega)) (by with_unfolding_all decide)) | (simp_all; done)))) ?_)) | (with_reducible refine Ob.mk ?_ ?_) | ((with_reducible refine Br.mk (fun h => ?_) (fun h => ?_)) <;> (try simp only [bsl, beq_iff_eq, bne_iff_ne] at h) <;> (try simp only [not_true_eq_false, not_false_eq_true, false_or, or_false, true_and, and_true] at h) <;> (try exact absurd h (by decide)) <;> (try contradiction) <;> (try (exfalso; omega)) <;> (try (simp only [not_true_eq_false, or_self, eq_self, not_false_eq_true, Int.reduceEq, reduceCtorEq] at h; done))))
              refine ⟨k + 1, by show k + 1 ≤ l.length; omega, by show l.length - (k + 1) < l.length - k; omega, ?_⟩
              dsimp only
              rw [hstep]
              repeat' (first | exact True.intro | exact rfl | exact Nat.le_refl _ | refine And.intro ?_ ?_)
            · refine ⟨k + 1, by show k + 1 ≤ l.length; omega, by show l.length - (k + 1) < l.length - k; omega, ?_⟩
              dsimp only
              rw [hstep]
              repeat' (first | exact True.intro | exact rfl | exact Nat.le_refl _ | refine And.intro ?_ ?_)
          · have w : ¬ (l.getD k default).term = term ∨ (l.getD k default).lab = true := w.elim .inl fun h => h.elim .inr fun h => by cases h
            repeat' (first | (with_reducible refine Sq.go ?_) | ((with_reducible refine Ev.mk ?_); conv => whnf) | (with_reducible refine Dr.mk ⟨by kernel_rfl, by kernel_rfl⟩ ?_) | ((with_reducible refine Ob.mk (by (first | exact rfl | assumption | omega | (intro h0; simp only [h0]; with_unfolding_all exact rfl) | (intro h1 h0; simp only [h0]; with_unfolding_all exact rfl) | (intros; first | assumption | (with_unfolding_all exact rfl) | omega | (simp only [oadd_eq, Int.toNat_natCast] <;> omega) | (simp only [in64, List.length_nil, List.length_cons] <;> omega) | (simp only [bsl, beq_iff_eq, bne_iff_ne, in64] at * <;> omega) | ((try simp only [Int.toNat_natCast]); exact Nat.le_trans (Nat.mul_le_mul_right _ (show _ ≤ 2000000 by omega)) (by with_unfolding_all decide)) | (simp_all; done)))) ?_)) | (with_reducible refine Ob.mk ?_ ?_) | ((with_reducible refine Br.mk (fun h => ?_) (fun h => ?_)) <;> (try simp only [bsl, beq_iff_eq, bne_iff_ne] at h) <;> (try simp only [not_true_eq_false, not_false_eq_true, false_or, or_false, true_and, and_true] at h) <;> (try exact absurd h (by decide)) <;> (try contradiction) <;> (try (exfalso; omega)) <;> (try (simp only [not_true_eq_false, or_self, eq_self, not_false_eq_true, Int.reduceEq, reduceCtorEq] at h; done))))
            refine hFi.call ?_
            repeat' (first | (with_reducible refine Sq.go ?_) | ((with_reducible refine Ev.mk ?_); conv => whnf) | (with_reducible refine Dr.mk ⟨by kernel_rfl, by kernel_rfl⟩ ?_) | ((with_reducible refine Ob.mk (by (first | exact rfl | assumption | omega | (intro h0; simp only [h0]; with_unfolding_all exact rfl) | (intro h1 h0; simp only [h0]; with_unfolding_all exact rfl) | (intros; first | assumption | (with_unfolding_all exact rfl) | omega | (simp only [oadd_eq, Int.toNat_natCast] <;> omega) | (simp only [in64, List.length_nil, List.length_cons] <;> omega) | (simp only [bsl, beq_iff_eq, bne_iff_ne, in64] at * <;> omega) | ((try simp only [Int.toNat_natCast]); exact Nat.le_trans (Nat.mul_le_mul_right _ (show _ ≤ 2000000 by omega)) (by with_unfolding_all decide)) | (simp_all; done)))) ?_)) | (with_reducible refine Ob.mk ?_ ?_) | ((with_reducible refine Br.mk (fun h => ?_) (fun h => ?_)) <;> (try simp only [bsl, beq_iff_eq, bne_iff_ne] at h) <;> (try simp only [not_true_eq_false, not_false_eq_true, false_or, or_false, true_and, and_true] at h) <;> (try exact absurd h (by decide)) <;> (try contradiction) <;> (try (exfalso; omega)) <;> (try (simp only [not_true_eq_false, or_self, eq_self, not_false_eq_true, Int.reduceEq, reduceCtorEq] at h; done))))
            · exfalso
              rcases w with w | w
              · exact w h.1
              · rw [h.2] at w; cases w
            · refine ⟨k + 1, by show k + 1 ≤ l.length; omega, by show l.length - (k + 1) < l.length - k; omega, ?_⟩
              dsimp only
              rw [hstep]
              repeat' (first | exact True.intro | exact rfl | exact Nat.le_refl _ | refine And.intro ?_ ?_)
        · have hFi : Pure Tryd.prog 42 [eSecs l, .int .i64 k] [.bool false] := hFi
          repeat' (first | (with_reducible refine Sq.go ?_) | ((with_reducible refine Ev.mk ?_); conv => whnf) | (with_reducible refine Dr.mk ⟨by kernel_rfl, by kernel_rfl⟩ ?_) | ((with_reducible refine Ob.mk (by (first | exact rfl | assumption | omega | (intro h0; simp only [h0]; with_unfolding_all exact rfl) | (intro h1 h0; simp only [h0]; with_unfolding_all exact rfl) | (intros; first | assumption | (with_unfolding_all exact rfl) | omega | (simp only [oadd_eq, Int.toNat_natCast] <;> omega) | (simp only [in64, List.length_nil, List.length_cons] <;> omega) | (simp only [bsl, beq_iff_eq, bne_iff_ne, in64] at * <;> omega) | ((try simp only [Int.toNat_natCast]); exact Nat.le_trans (Nat.mul_le_mul_right _ (show _ ≤ 2000000 by omega)) (by with_unfolding_all decide)) | (simp_all; done)))) ?_)) | (with_reducible refine Ob.mk ?_ ?_) | ((with_reducible refine Br.mk (fun h => ?_) (fun h => ?_)) <;> (try simp only [bsl, beq_iff_eq, bne_iff_ne] at h) <;> (try simp only [not_true_eq_false, not_false_eq_true, false_or, or_false, true_and, and_true] at h) <;> (try exact absurd h (by decide)) <;> (try contradiction) <;> (try (exfalso; omega)) <;> (try (simp only [not_true_eq_false, or_self, eq_self, not_false_eq_true, Int.reduceEq, reduceCtorEq] at h; done))))
          refine hFi.call ?_
          repeat' (first | (with_reducible refine Sq.go ?_) | ((with_reducible refine Ev.mk ?_); conv => whnf) | (with_reducible refine Dr.mk ⟨by kernel_rfl, by kernel_rfl⟩ ?_) | ((with_reducible refine Ob.mk (by (first | exact rfl | assumption | omega | (intro h0; simp only [h0]; with_unfolding_all exact rfl) | (intro h1 h0; simp only [h0]; with_unfolding_all exact rfl) | (intros; first | assumption | (with_unfolding_all exact rfl) | omega | (simp only [oadd_eq, Int.toNat_natCast] <;> omega) | (simp only [in64, List.length_nil, List.length_cons] <;> omega) | (simp only [bsl, beq_iff_eq, bne_iff_ne, in64] at * <;> omega) | ((try simp only [Int.toNat_natCast]); exact Nat.le_trans (Nat.mul_le_mul_right _ (show _ ≤ 2000000 by omega)) (by with_unfolding_all decide)) | (simp_all; done)))) ?_)) | (with_reducible refine Ob.mk ?_ ?_) | ((with_reducible refine Br.mk (fun h => ?_) (fun h => ?_)) <;> (try simp only [bsl, beq_iff_eq, bne_iff_ne] at h) <;> (try simp only [not_true_eq_false, not_false_eq_true, false_or, or_false, true_and, and_true] at h) <;> (try exact absurd h (by decide)) <;> (try contradiction) <;> (try (exfalso; omega)) <;> (try (simp only [not_true_eq_false, or_self, eq_self, not_false_eq_true, Int.reduceEq, reduceCtorEq] at h; done))))
          refine ⟨k + 1, by show k + 1 ≤ l.length; omega, by show l.length - (k + 1) < l.length - k; omega, ?_⟩
          dsimp only
          rw [hstep]
          repeat' (first | exact True.intro | exact rfl | exact Nat.le_refl _ | refine And.intro ?_ ?_)
    · have hk4 : k = l.length := by omega
      subst hk4
      rw [List.take_length]
      repeat' (first | (with_reducible refine Sq.go ?_) | ((with_reducible refine Ev.mk ?_); conv => whnf) | (with_reducible refine Dr.mk ⟨by kernel_rfl, by kernel_rfl⟩ ?_) | ((with_reducible refine Ob.mk (by (first | exact rfl | assumption | omega | (intro h0; simp only [h0]; with_unfolding_all exact rfl) | (intro h1 h0; simp only [h0]; with_unfolding_all exact rfl) | (intros; first | assumption | (with_unfolding_all exact rfl) | omega | (simp only [oadd_eq, Int.toNat_natCast] <;> omega) | (simp only [in64, List.length_nil, List.length_cons] <;> omega) | (simp only [bsl, beq_iff_eq, bne_iff_ne, in64] at * <;> omega) | ((try simp only [Int.toNat_natCast]); exact Nat.le_trans (Nat.mul_le_mul_right _ (show _ ≤ 2000000 by omega)) (by with_unfolding_all decide)) | (simp_all; done)))) ?_)) | (with_reducible refine Ob.mk ?_ ?_) | ((with_reducible refine Br.mk (fun h => ?_) (fun h => ?_)) <;> (try simp only [bsl, beq_iff_eq, bne_iff_ne] at h) <;> (try simp only [not_true_eq_false, not_false_eq_true, false_or, or_false, true_and, and_true] at h) <;> (try exact absurd h (by decide)) <;> (try contradiction) <;> (try (exfalso; omega)) <;> (try (simp only [not_true_eq_false, or_self, eq_self, not_false_eq_true, Int.reduceEq, reduceCtorEq] at h; done))))
      exact ⟨⟨rfl, rfl, fun i hi => rfl⟩, True.intro⟩
end Go.Proofs.YteamiepijajjdaaDoor
