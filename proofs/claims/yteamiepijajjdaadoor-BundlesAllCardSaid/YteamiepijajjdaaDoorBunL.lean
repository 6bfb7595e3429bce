/-
  Chapter 24: the law BundlesAll, walked.
-/
import Derived.Test.YteamiepijajjdaaDoorBunK
namespace Go.Proofs.YteamiepijajjdaaDoor
set_option linter.unusedSimpArgs false
set_option linter.unusedVariables false
open Go Go.Ab
set_option maxRecDepth 100000
set_option maxHeartbeats 0
theorem fold_addB (l : List Sec) (n : Int) : ∀ (cs : List Int) (acc : List Bun), (∀ x ∈ acc, x.sec = n ∧ bchk l x = 0) → acc.Nodup →
    (∀ x ∈ cs.foldl (fun acc lab => addB l acc ⟨n, lab⟩) acc, x.sec = n ∧ bchk l x = 0) ∧ (cs.foldl (fun acc lab => addB l acc ⟨n, lab⟩) acc).Nodup ∧
      ∀ c, (⟨n, c⟩ : Bun) ∈ cs.foldl (fun acc lab => addB l acc ⟨n, lab⟩) acc ↔ (⟨n, c⟩ : Bun) ∈ acc ∨ (c ∈ cs ∧ bchk l ⟨n, c⟩ = 0)
  | [], acc, h1, h2 => ⟨h1, h2, fun c => by simp⟩
  | d :: r, acc, h1, h2 => by
    have h3 : ∀ x ∈ addB l acc ⟨n, d⟩, x.sec = n ∧ bchk l x = 0 := by
      unfold addB
      split
      · rename_i hc
        intro x hx
        rw [List.mem_append, List.mem_singleton] at hx
        rcases hx with hx | rfl
        · exact h1 x hx
        · exact ⟨rfl, hc.1⟩
      · exact h1
    have h4 : (addB l acc ⟨n, d⟩).Nodup := by
      unfold addB
      split
      · rename_i hc
        rw [List.nodup_append]
        refine ⟨h2, by simp, fun a ha b hb => ?_⟩
        rw [List.mem_singleton] at hb
        rintro rfl
        exact hc.2 (hb ▸ ha)
      · exact h2
    have h5 : ∀ c, (⟨n, c⟩ : Bun) ∈ addB l acc ⟨n, d⟩ ↔ (⟨n, c⟩ : Bun) ∈ acc ∨ (c = d ∧ bchk l ⟨n, c⟩ = 0) := by
      intro c
      unfold addB
      split
      · rename_i hc
        rw [List.mem_append, List.mem_singleton]
        refine or_congr Iff.rfl ⟨fun e => ?_, fun e => by rw [e.1]⟩
        cases e
        exact ⟨rfl, hc.1⟩
      · rename_i hc
        refine ⟨.inl, fun h => h.elim id fun e => ?_⟩
        obtain ⟨rfl, e⟩ := e
        exact Classical.byContradiction fun hn => hc ⟨e, hn⟩
    obtain ⟨a1, a2, a3⟩ := fold_addB l n r (addB l acc ⟨n, d⟩) h3 h4
    refine ⟨a1, a2, fun c => ?_⟩
    rw [List.foldl_cons, a3, h5, List.mem_cons]
    constructor
    · rintro ((h | h) | h)
      · exact .inl h
      · exact .inr ⟨.inl h.1, h.2⟩
      · exact .inr ⟨.inr h.1, h.2⟩
    · rintro (h | ⟨h | h, e⟩)
      · exact .inl (.inl h)
      · exact .inl (.inr ⟨h, e⟩)
      · exact .inr ⟨h, e⟩
theorem allB_is (l : List Sec) (b : Bun) : (∀ x ∈ allB l b.sec, x.sec = b.sec ∧ bchk l x = 0) ∧ (allB l b.sec).Nodup ∧ (b ∈ allB l b.sec ↔ bchk l b = 0) := by
  unfold allB
  cases h : findS l b.sec with
  | none =>
    refine ⟨fun x hx => by simp at hx, by simp, ⟨fun hx => by simp at hx, fun hz => ?_⟩⟩
    obtain ⟨_, ps, hp⟩ := parts_of hz
    cases hp with
    | one h1 => rw [h] at h1; cases h1
    | two h1 => rw [h] at h1; cases h1
  | some s =>
    obtain ⟨a1, a2, a3⟩ := fold_addB l b.sec ((-1) :: s.labs) [] (fun x hx => by simp at hx) List.nodup_nil
    refine ⟨a1, a2, ?_⟩
    have := a3 b.lab
    refine this.trans ⟨fun e => e.elim (fun e => by simp at e) (·.2), fun hz => .inr ⟨?_, hz⟩⟩
    obtain ⟨_, ps, hp⟩ := parts_of hz
    cases hp with
    | one h1 h2 h3 h4 => rw [h4]; simp
    | two h1 h2 h3 h4 h5 =>
      rw [h] at h1
      cases h1
      simp only [labOk, Bool.and_eq_true, decide_eq_true_eq] at h5
      exact List.mem_cons_of_mem _ h5.1
theorem count_take {X : List Bun} {k : Nat} (hk : k < X.length) (b : Bun) : (X.take (k + 1)).count b = (X.take k).count b + if X.getD k default = b then 1 else 0 := by
  rw [take_succ_at hk, List.count_append]
  congr 1
  by_cases e : X.getD k default = b
  · rw [if_pos e, e]; simp
  · rw [if_neg e, List.count_singleton]
    exact if_neg (by simpa using e)
theorem nodup_at {X : List Bun} (h : X.Nodup) {i k : Nat} (hi : i < k) (hk : k < X.length) : X.getD i default ≠ X.getD k default := by
  intro e
  have h1 : i < X.length := by omega
  have := List.pairwise_iff_getElem.1 h i k h1 hk hi
  apply this
  simpa [List.getD_eq_getElem?_getD, h1, hk] using e
theorem lawAll_ok (l : List Sec) (b : Bun) : Pure Tryd.prog 6 [eSecs l, .agg (eBun b)] [.bool true] := by
  refine pure_rule hT (T := tab) (N := 74) (rs := [.tmp 4]) Tryd.func6 rfl rfl rfl (by kernel_rfl) rfl ?_
  have hF := deqP (ds := [eSecs l, .nils]) (few_ok l []) ⟨⟨rfl, rfl, fun i hi => rfl⟩, rfl, True.intro⟩
  cases hf : few24 l []
  · rw [hf] at hF
    repeat' (first | (with_reducible refine Sq.go ?_) | ((with_reducible refine Ev.mk ?_); conv => whnf) | (with_reducible refine Dr.mk ⟨by kernel_rfl, by kernel_rfl⟩ ?_) | ((with_reducible refine Ob.mk (by (first | exact rfl | assumption | omega | (intro h0; simp only [h0]; with_unfolding_all exact rfl) | (intro h1 h0; simp only [h0]; with_unfolding_all exact rfl) | (intros; first | assumption | (with_unfolding_all exact rfl) | omega | (simp only [oadd_eq, Int.toNat_natCast] <;> omega) | (simp only [in64, List.length_nil, List.length_cons] <;> omega) | (simp only [bsl, beq_iff_eq, bne_iff_ne, in64] at * <;> omega) | ((try simp only [Int.toNat_natCast]); exact Nat.le_trans (Nat.mul_le_mul_right _ (show _ ≤ 2000000 by omega)) (by with_unfolding_all decide)) | (simp_all; done)))) ?_)) | (with_reducible refine Ob.mk ?_ ?_) | ((with_reducible refine Br.mk (fun h => ?_) (fun h => ?_)) <;> (try simp only [bsl, beq_iff_eq, bne_iff_ne] at h) <;> (try simp only [not_true_eq_false, not_false_eq_true, false_or, or_false, true_and, and_true] at h) <;> (try exact absurd h (by decide)) <;> (try contradiction) <;> (try (exfalso; omega)) <;> (try (simp only [not_true_eq_false, or_self, eq_self, not_false_eq_true, Int.reduceEq, reduceCtorEq] at h; done))))
    refine sane_ok.call ?_
    repeat' (first | (with_reducible refine Sq.go ?_) | ((with_reducible refine Ev.mk ?_); conv => whnf) | (with_reducible refine Dr.mk ⟨by kernel_rfl, by kernel_rfl⟩ ?_) | ((with_reducible refine Ob.mk (by (first | exact rfl | assumption | omega | (intro h0; simp only [h0]; with_unfolding_all exact rfl) | (intro h1 h0; simp only [h0]; with_unfolding_all exact rfl) | (intros; first | assumption | (with_unfolding_all exact rfl) | omega | (simp only [oadd_eq, Int.toNat_natCast] <;> omega) | (simp only [in64, List.length_nil, List.length_cons] <;> omega) | (simp only [bsl, beq_iff_eq, bne_iff_ne, in64] at * <;> omega) | ((try simp only [Int.toNat_natCast]); exact Nat.le_trans (Nat.mul_le_mul_right _ (show _ ≤ 2000000 by omega)) (by with_unfolding_all decide)) | (simp_all; done)))) ?_)) | (with_reducible refine Ob.mk ?_ ?_) | ((with_reducible refine Br.mk (fun h => ?_) (fun h => ?_)) <;> (try simp only [bsl, beq_iff_eq, bne_iff_ne] at h) <;> (try simp only [not_true_eq_false, not_false_eq_true, false_or, or_false, true_and, and_true] at h) <;> (try exact absurd h (by decide)) <;> (try contradiction) <;> (try (exfalso; omega)) <;> (try (simp only [not_true_eq_false, or_self, eq_self, not_false_eq_true, Int.reduceEq, reduceCtorEq] at h; done))))
    refine hF.call ?_
    repeat' (first | (with_reducible refine Sq.go ?_) | ((with_reducible refine Ev.mk ?_); conv => whnf) | (with_reducible refine Dr.mk ⟨by kernel_rfl, by kernel_rfl⟩ ?_) | ((with_reducible refine Ob.mk (by (first | exact rfl | assumption | omega | (intro h0; simp only [h0]; with_unfolding_all exact rfl) | (intro h1 h0; simp only [h0]; with_unfolding_all exact rfl) | (intros; first | assumption | (with_unfolding_all exact rfl) | omega | (simp only [oadd_eq, Int.toNat_natCast] <;> omega) | (simp only [in64, List.length_nil, List.length_cons] <;> omega) | (simp only [bsl, beq_iff_eq, bne_iff_ne, in64] at * <;> omega) | ((try simp only [Int.toNat_natCast]); exact Nat.le_trans (Nat.mul_le_mul_right _ (show _ ≤ 2000000 by omega)) (by with_unfolding_all decide)) | (simp_all; done)))) ?_)) | (with_reducible refine Ob.mk ?_ ?_) | ((with_reducible refine Br.mk (fun h => ?_) (fun h => ?_)) <;> (try simp only [bsl, beq_iff_eq, bne_iff_ne] at h) <;> (try simp only [not_true_eq_false, not_false_eq_true, false_or, or_false, true_and, and_true] at h) <;> (try exact absurd h (by decide)) <;> (try contradiction) <;> (try (exfalso; omega)) <;> (try (simp only [not_true_eq_false, or_self, eq_self, not_false_eq_true, Int.reduceEq, reduceCtorEq] at h; done))))
    exact ⟨rfl, True.intro⟩
  · rw [hf] at hF
    obtain ⟨hl, _, hl10⟩ := few24_S hf
    have c1 := all_ok l hl b.sec
    have hlen := allB_len hl b.sec
    obtain ⟨hs, hnd, hmem⟩ := allB_is l b
    have c3 := bcheck_ok l hl b
    revert c1 hlen hs hnd hmem
    generalize allB l b.sec = X
    intro c1 hlen hs hnd hmem
    repeat' (first | (with_reducible refine Sq.go ?_) | ((with_reducible refine Ev.mk ?_); conv => whnf) | (with_reducible refine Dr.mk ⟨by kernel_rfl, by kernel_rfl⟩ ?_) | ((with_reducible refine Ob.mk (by (first | exact rfl | assumption | omega | (intro h0; simp only [h0]; with_unfolding_all exact rfl) | (intro h1 h0; simp only [h0]; with_unfolding_all exact rfl) | (intros; first | assumption | (with_unfolding_all exact rfl) | omega | (simp only [oadd_eq, Int.toNat_natCast] <;> omega) | (simp only [in64, List.length_nil, List.length_cons] <;> omega) | (simp only [bsl, beq_iff_eq, bne_iff_ne, in64] at * <;> omega) | ((try simp only [Int.toNat_natCast]); exact Nat.le_trans (Nat.mul_le_mul_right _ (show _ ≤ 2000000 by omega)) (by with_unfolding_all decide)) | (simp_all; done)))) ?_)) | (with_reducible refine Ob.mk ?_ ?_) | ((with_reducible refine Br.mk (fun h => ?_) (fun h => ?_)) <;> (try simp only [bsl, beq_iff_eq, bne_iff_ne] at h) <;> (try simp only [not_true_eq_false, not_false_eq_true, false_or, or_false, true_and, and_true] at h) <;> (try exact absurd h (by decide)) <;> (try contradiction) <;> (try (exfalso; omega)) <;> (try (simp only [not_true_eq_false, or_self, eq_self, not_false_eq_true, Int.reduceEq, reduceCtorEq] at h; done))))
    refine sane_ok.call ?_
    repeat' (first | (with_reducible refine Sq.go ?_) | ((with_reducible refine Ev.mk ?_); conv => whnf) | (with_reducible refine Dr.mk ⟨by kernel_rfl, by kernel_rfl⟩ ?_) | ((with_reducible refine Ob.mk (by (first | exact rfl | assumption | omega | (intro h0; simp only [h0]; with_unfolding_all exact rfl) | (intro h1 h0; simp only [h0]; with_unfolding_all exact rfl) | (intros; first | assumption | (with_unfolding_all exact rfl) | omega | (simp only [oadd_eq, Int.toNat_natCast] <;> omega) | (simp only [in64, List.length_nil, List.length_cons] <;> omega) | (simp only [bsl, beq_iff_eq, bne_iff_ne, in64] at * <;> omega) | ((try simp only [Int.toNat_natCast]); exact Nat.le_trans (Nat.mul_le_mul_right _ (show _ ≤ 2000000 by omega)) (by with_unfolding_all decide)) | (simp_all; done)))) ?_)) | (with_reducible refine Ob.mk ?_ ?_) | ((with_reducible refine Br.mk (fun h => ?_) (fun h => ?_)) <;> (try simp only [bsl, beq_iff_eq, bne_iff_ne] at h) <;> (try simp only [not_true_eq_false, not_false_eq_true, false_or, or_false, true_and, and_true] at h) <;> (try exact absurd h (by decide)) <;> (try contradiction) <;> (try (exfalso; omega)) <;> (try (simp only [not_true_eq_false, or_self, eq_self, not_false_eq_true, Int.reduceEq, reduceCtorEq] at h; done))))
    refine hF.call ?_
    repeat' (first | (with_reducible refine Sq.go ?_) | ((with_reducible refine Ev.mk ?_); conv => whnf) | (with_reducible refine Dr.mk ⟨by kernel_rfl, by kernel_rfl⟩ ?_) | ((with_reducible refine Ob.mk (by (first | exact rfl | assumption | omega | (intro h0; simp only [h0]; with_unfolding_all exact rfl) | (intro h1 h0; simp only [h0]; with_unfolding_all exact rfl) | (intros; first | assumption | (with_unfolding_all exact rfl) | omega | (simp only [oadd_eq, Int.toNat_natCast] <;> omega) | (simp only [in64, List.length_nil, List.length_cons] <;> omega) | (simp only [bsl, beq_iff_eq, bne_iff_ne, in64] at * <;> omega) | ((try simp only [Int.toNat_natCast]); exact Nat.le_trans (Nat.mul_le_mul_right _ (show _ ≤ 2000000 by omega)) (by with_unfolding_all decide)) | (simp_all; done)))) ?_)) | (with_reducible refine Ob.mk ?_ ?_) | ((with_reducible refine Br.mk (fun h => ?_) (fun h => ?_)) <;> (try simp only [bsl, beq_iff_eq, bne_iff_ne] at h) <;> (try simp only [not_true_eq_false, not_false_eq_true, false_or, or_false, true_and, and_true] at h) <;> (try exact absurd h (by decide)) <;> (try contradiction) <;> (try (exfalso; omega)) <;> (try (simp only [not_true_eq_false, or_self, eq_self, not_false_eq_true, Int.reduceEq, reduceCtorEq] at h; done))))
    refine c1.call ?_
    repeat' (first | (with_reducible refine Sq.go ?_) | ((with_reducible refine Ev.mk ?_); conv => whnf) | (with_reducible refine Dr.mk ⟨by kernel_rfl, by kernel_rfl⟩ ?_) | ((with_reducible refine Ob.mk (by (first | exact rfl | assumption | omega | (intro h0; simp only [h0]; with_unfolding_all exact rfl) | (intro h1 h0; simp only [h0]; with_unfolding_all exact rfl) | (intros; first | assumption | (with_unfolding_all exact rfl) | omega | (simp only [oadd_eq, Int.toNat_natCast] <;> omega) | (simp only [in64, List.length_nil, List.length_cons] <;> omega) | (simp only [bsl, beq_iff_eq, bne_iff_ne, in64] at * <;> omega) | ((try simp only [Int.toNat_natCast]); exact Nat.le_trans (Nat.mul_le_mul_right _ (show _ ≤ 2000000 by omega)) (by with_unfolding_all decide)) | (simp_all; done)))) ?_)) | (with_reducible refine Ob.mk ?_ ?_) | ((with_reducible refine Br.mk (fun h => ?_) (fun h => ?_)) <;> (try simp only [bsl, beq_iff_eq, bne_iff_ne] at h) <;> (try simp only [not_true_eq_false, not_false_eq_true, false_or, or_false, true_and, and_true] at h) <;> (try exact absurd h (by decide)) <;> (try contradiction) <;> (try (exfalso; omega)) <;> (try (simp only [not_true_eq_false, or_self, eq_self, not_false_eq_true, Int.reduceEq, reduceCtorEq] at h; done))))
    refine loop_rule hT (S := Nat) (fun k => ([(0, .d (eSecs l)), (3, .ptr (.loc 0) 0 0 0), (5, .d (eBuns X)), (6, .d (.int .i64 ((X.take k).count b))), (7, .d (.int .i64 k))], ⟨[some (.box 24 (up (eBun b)))], []⟩)) (fun k => k ≤ X.length) (fun k => X.length - k) 0 ?_ ?_ ?_
    · repeat' (first | exact True.intro | exact rfl | exact Nat.le_refl _ | refine And.intro ?_ ?_)
    · exact Nat.zero_le _
    · intro k hk
      have hcl : (X.take k).count b ≤ 1001 := Nat.le_trans List.count_le_length (by rw [List.length_take]; omega)
      by_cases hk2 : k < X.length
      · obtain ⟨hsec, hz⟩ := hs _ (getD_mem hk2)
        have c2 := bcheck_ok l hl (X.getD k default)
        rw [hz] at c2
        have hct := count_take hk2 b
        have hnk : ∀ j, j < k → X.getD j default ≠ X.getD k default := fun j hj => nodup_at hnd hj hk2
        by_cases he : X.getD k default = b
        · rw [if_pos he] at hct
          have he1 := (bunEq.1 he).1
          have he2 := (bunEq.1 he).2
          repeat' (first | (with_reducible refine Sq.go ?_) | ((with_reducible refine Ev.mk ?_); conv => whnf) | (with_reducible refine Dr.mk ⟨by kernel_rfl, by kernel_rfl⟩ ?_) | ((with_reducible refine Ob.mk (by (first | exact rfl | assumption | omega | (intro h0; simp only [h0]; with_unfolding_all exact rfl) | (intro h1 h0; simp only [h0]; with_unfolding_all exact rfl) | (intros; first | assumption | (with_unfolding_all exact rfl) | omega | (simp only [oadd_eq, Int.toNat_natCast] <;> omega) | (simp only [in64, List.length_nil, List.length_cons] <;> omega) | (simp only [bsl, beq_iff_eq, bne_iff_ne, in64] at * <;> omega) | ((try simp only [Int.toNat_natCast]); exact Nat.le_trans (Nat.mul_le_mul_right _ (show _ ≤ 2000000 by omega)) (by with_unfolding_all decide)) | (simp_all; done)))) ?_)) | (with_reducible refine Ob.mk ?_ ?_) | ((with_reducible refine Br.mk (fun h => ?_) (fun h => ?_)) <;> (try simp only [bsl, beq_iff_eq, bne_iff_ne] at h) <;> (try simp only [not_true_eq_false, not_false_eq_true, false_or, or_false, true_and, and_true] at h) <;> (try exact absurd h (by decide)) <;> (try contradiction) <;> (try (exfalso; omega)) <;> (try (simp only [not_true_eq_false, or_self, eq_self, not_false_eq_true, Int.reduceEq, reduceCtorEq] at h; done))))
          refine qC c2 ?_
          repeat' (first | (with_reducible refine Sq.go ?_) | ((with_reducible refine Ev.mk ?_); conv => whnf) | (with_reducible refine Dr.mk ⟨by kernel_rfl, by kernel_rfl⟩ ?_) | ((with_reducible refine Ob.mk (by (first | exact rfl | assumption | omega | (intro h0; simp only [h0]; with_unfolding_all exact rfl) | (intro h1 h0; simp only [h0]; with_unfolding_all exact rfl) | (intros; first | assumption | (with_unfolding_all exact rfl) | omega | (simp only [oadd_eq, Int.toNat_natCast] <;> omega) | (simp only [in64, List.length_nil, List.length_cons] <;> omega) | (simp only [bsl, beq_iff_eq, bne_iff_ne, in64] at * <;> omega) | ((try simp only [Int.toNat_natCast]); exact Nat.le_trans (Nat.mul_le_mul_right _ (show _ ≤ 2000000 by omega)) (by with_unfolding_all decide)) | (simp_all; done)))) ?_)) | (with_reducible refine Ob.mk ?_ ?_) | ((with_reducible refine Br.mk (fun h => ?_) (fun h => ?_)) <;> (try simp only [bsl, beq_iff_eq, bne_iff_ne] at h) <;> (try simp only [not_true_eq_false, not_false_eq_true, false_or, or_false, true_and, and_true] at h) <;> (try exact absurd h (by decide)) <;> (try contradiction) <;> (try (exfalso; omega)) <;> (try (simp only [not_true_eq_false, or_self, eq_self, not_false_eq_true, Int.reduceEq, reduceCtorEq] at h; done))))
          refine loop_rule hT (S := Nat) (fun j => ([(0, .d (eSecs l)), (3, .ptr (.loc 0) 0 0 0), (5, .d (eBuns X)), (6, .d (.int .i64 ((X.take (k + 1)).count b))), (7, .d (.int .i64 k)), (8, .d (.int .i64 j))], ⟨[some (.box 24 (up (eBun b)))], []⟩)) (fun j => j ≤ k) (fun j => k - j) 0 ?_ ?_ ?_
          · rw [hct]
            repeat' (first | exact True.intro | exact rfl | exact Nat.le_refl _ | refine And.intro ?_ ?_)
          · exact Nat.zero_le _
          · intro j hj
            by_cases hj2 : j < k
            · have hne := hnk j hj2
              rw [Ne, bunEq] at hne
              repeat' (first | (with_reducible refine Sq.go ?_) | ((with_reducible refine Ev.mk ?_); conv => whnf) | (with_reducible refine Dr.mk ⟨by kernel_rfl, by kernel_rfl⟩ ?_) | ((with_reducible refine Ob.mk (by (first | exact rfl | assumption | omega | (intro h0; simp only [h0]; with_unfolding_all exact rfl) | (intro h1 h0; simp only [h0]; with_unfolding_all exact rfl) | (intros; first | assumption | (with_unfolding_all exact rfl) | omega | (simp only [oadd_eq, Int.toNat_natCast] <;> omega) | (simp only [in64, List.length_nil, List.length_cons] <;> omega) | (simp only [bsl, beq_iff_eq, bne_iff_ne, in64] at * <;> omega) | ((try simp only [Int.toNat_natCast]); exact Nat.le_trans (Nat.mul_le_mul_right _ (show _ ≤ 2000000 by omega)) (by with_unfolding_all decide)) | (simp_all; done)))) ?_)) | (with_reducible refine Ob.mk ?_ ?_) | ((with_reducible refine Br.mk (fun h => ?_) (fun h => ?_)) <;> (try simp only [bsl, beq_iff_eq, bne_iff_ne] at h) <;> (try simp only [not_true_eq_false, not_false_eq_true, false_or, or_false, true_and, and_true] at h) <;> (try exact absurd h (by decide)) <;> (try contradiction) <;> (try (exfalso; omega)) <;> (try (simp only [not_true_eq_false, or_self, eq_self, not_false_eq_true, Int.reduceEq, reduceCtorEq] at h; done))))
              · refine ⟨j + 1, by show j + 1 ≤ k; omega, by show k - (j + 1) < k - j; omega, ?_⟩
                repeat' (first | exact True.intro | exact rfl | exact Nat.le_refl _ | refine And.intro ?_ ?_)
            · repeat' (first | (with_reducible refine Sq.go ?_) | ((with_reducible refine Ev.mk ?_); conv => whnf) | (with_reducible refine Dr.mk ⟨by kernel_rfl, by kernel_rfl⟩ ?_) | ((with_reducible refine Ob.mk (by (first | exact rfl | assumption | omega | (intro h0; simp only [h0]; with_unfolding_all exact rfl) | (intro h1 h0; simp only [h0]; with_unfolding_all exact rfl) | (intros; first | assumption | (with_unfolding_all exact rfl) | omega | (simp only [oadd_eq, Int.toNat_natCast] <;> omega) | (simp only [in64, List.length_nil, List.length_cons] <;> omega) | (simp only [bsl, beq_iff_eq, bne_iff_ne, in64] at * <;> omega) | ((try simp only [Int.toNat_natCast]); exact Nat.le_trans (Nat.mul_le_mul_right _ (show _ ≤ 2000000 by omega)) (by with_unfolding_all decide)) | (simp_all; done)))) ?_)) | (with_reducible refine Ob.mk ?_ ?_) | ((with_reducible refine Br.mk (fun h => ?_) (fun h => ?_)) <;> (try simp only [bsl, beq_iff_eq, bne_iff_ne] at h) <;> (try simp only [not_true_eq_false, not_false_eq_true, false_or, or_false, true_and, and_true] at h) <;> (try exact absurd h (by decide)) <;> (try contradiction) <;> (try (exfalso; omega)) <;> (try (simp only [not_true_eq_false, or_self, eq_self, not_false_eq_true, Int.reduceEq, reduceCtorEq] at h; done))))
              refine ⟨k + 1, by show k + 1 ≤ X.length; omega, by show X.length - (k + 1) < X.length - k; omega, ?_⟩
              repeat' (first | exact True.intro | exact rfl | exact Nat.le_refl _ | refine And.intro ?_ ?_)
        · rw [if_neg he] at hct
          have he' := he
          rw [bunEq] at he'
          repeat' (first | (with_reducible refine Sq.go ?_) | ((with_reducible refine Ev.mk ?_); conv => whnf) | (with_reducible refine Dr.mk ⟨by kernel_rfl, by kernel_rfl⟩ ?_) | ((with_reducible refine Ob.mk (by (first | exact rfl | assumption | omega | (intro h0; simp only [h0]; with_unfolding_all exact rfl) | (intro h1 h0; simp only [h0]; with_unfolding_all exact rfl) | (intros; first | assumption | (with_unfolding_all exact rfl) | omega | (simp only [oadd_eq, Int.toNat_natCast] <;> omega) | (simp only [in64, List.length_nil, List.length_cons] <;> omega) | (simp only [bsl, beq_iff_eq, bne_iff_ne, in64] at * <;> omega) | ((try simp only [Int.toNat_natCast]); exact Nat.le_trans (Nat.mul_le_mul_right _ (show _ ≤ 2000000 by omega)) (by with_unfolding_all decide)) | (simp_all; done)))) ?_)) | (with_reducible refine Ob.mk ?_ ?_) | ((with_reducible refine Br.mk (fun h => ?_) (fun h => ?_)) <;> (try simp only [bsl, beq_iff_eq, bne_iff_ne] at h) <;> (try simp only [not_true_eq_false, not_false_eq_true, false_or, or_false, true_and, and_true] at h) <;> (try exact absurd h (by decide)) <;> (try contradiction) <;> (try (exfalso; omega)) <;> (try (simp only [not_true_eq_false, or_self, eq_self, not_false_eq_true, Int.reduceEq, reduceCtorEq] at h; done))))
          refine qC c2 ?_
          repeat' (first | (with_reducible refine Sq.go ?_) | ((with_reducible refine Ev.mk ?_); conv => whnf) | (with_reducible refine Dr.mk ⟨by kernel_rfl, by kernel_rfl⟩ ?_) | ((with_reducible refine Ob.mk (by (first | exact rfl | assumption | omega | (intro h0; simp only [h0]; with_unfolding_all exact rfl) | (intro h1 h0; simp only [h0]; with_unfolding_all exact rfl) | (intros; first | assumption | (with_unfolding_all exact rfl) | omega | (simp only [oadd_eq, Int.toNat_natCast] <;> omega) | (simp only [in64, List.length_nil, List.length_cons] <;> omega) | (simp only [bsl, beq_iff_eq, bne_iff_ne, in64] at * <;> omega) | ((try simp only [Int.toNat_natCast]); exact Nat.le_trans (Nat.mul_le_mul_right _ (show _ ≤ 2000000 by omega)) (by with_unfolding_all decide)) | (simp_all; done)))) ?_)) | (with_reducible refine Ob.mk ?_ ?_) | ((with_reducible refine Br.mk (fun h => ?_) (fun h => ?_)) <;> (try simp only [bsl, beq_iff_eq, bne_iff_ne] at h) <;> (try simp only [not_true_eq_false, not_false_eq_true, false_or, or_false, true_and, and_true] at h) <;> (try exact absurd h (by decide)) <;> (try contradiction) <;> (try (exfalso; omega)) <;> (try (simp only [not_true_eq_false, or_self, eq_self, not_false_eq_true, Int.reduceEq, reduceCtorEq] at h; done))))
          refine loop_rule hT (S := Nat) (fun j => ([(0, .d (eSecs l)), (3, .ptr (.loc 0) 0 0 0), (5, .d (eBuns X)), (6, .d (.int .i64 ((X.take (k + 1)).count b))), (7, .d (.int .i64 k)), (8, .d (.int .i64 j))], ⟨[some (.box 24 (up (eBun b)))], []⟩)) (fun j => j ≤ k) (fun j => k - j) 0 ?_ ?_ ?_
          · rw [hct]
            repeat' (first | exact True.intro | exact rfl | exact Nat.le_refl _ | refine And.intro ?_ ?_)
          · exact Nat.zero_le _
          · intro j hj
            by_cases hj2 : j < k
            · have hne := hnk j hj2
              rw [Ne, bunEq] at hne
              repeat' (first | (with_reducible refine Sq.go ?_) | ((with_reducible refine Ev.mk ?_); conv => whnf) | (with_reducible refine Dr.mk ⟨by kernel_rfl, by kernel_rfl⟩ ?_) | ((with_reducible refine Ob.mk (by (first | exact rfl | assumption | omega | (intro h0; simp only [h0]; with_unfolding_all exact rfl) | (intro h1 h0; simp only [h0]; with_unfolding_all exact rfl) | (intros; first | assumption | (with_unfolding_all exact rfl) | omega | (simp only [oadd_eq, Int.toNat_natCast] <;> omega) | (simp only [in64, List.length_nil, List.length_cons] <;> omega) | (simp only [bsl, beq_iff_eq, bne_iff_ne, in64] at * <;> omega) | ((try simp only [Int.toNat_natCast]); exact Nat.le_trans (Nat.mul_le_mul_right _ (show _ ≤ 2000000 by omega)) (by with_unfolding_all decide)) | (simp_all; done)))) ?_)) | (with_reducible refine Ob.mk ?_ ?_) | ((with_reducible refine Br.mk (fun h => ?_) (fun h => ?_)) <;> (try simp only [bsl, beq_iff_eq, bne_iff_ne] at h) <;> (try simp only [not_true_eq_false, not_false_eq_true, false_or, or_false, true_and, and_true] at h) <;> (try exact absurd h (by decide)) <;> (try contradiction) <;> (try (exfalso; omega)) <;> (try (simp only [not_true_eq_false, or_self, eq_self, not_false_eq_true, Int.reduceEq, reduceCtorEq] at h; done))))
              · refine ⟨j + 1, by show j + 1 ≤ k; omega, by show k - (j + 1) < k - j; omega, ?_⟩
                repeat' (first | exact True.intro | exact rfl | exact Nat.le_refl _ | refine And.intro ?_ ?_)
            · repeat' (first | (with_reducible refine Sq.go ?_) | ((with_reducible refine Ev.mk ?_); conv => whnf) | (with_reducible refine Dr.mk ⟨by kernel_rfl, by kernel_rfl⟩ ?_) | ((with_reducible refine Ob.mk (by (first | exact rfl | assumption | omega | (intro h0; simp only [h0]; with_unfolding_all exact rfl) | (intro h1 h0; simp only [h0]; with_unfolding_all exact rfl) | (intros; first | assumption | (with_unfolding_all exact rfl) | omega | (simp only [oadd_eq, Int.toNat_natCast] <;> omega) | (simp only [in64, List.length_nil, List.length_cons] <;> omega) | (simp only [bsl, beq_iff_eq, bne_iff_ne, in64] at * <;> omega) | ((try simp only [Int.toNat_natCast]); exact Nat.le_trans (Nat.mul_le_mul_right _ (show _ ≤ 2000000 by omega)) (by with_unfolding_all decide)) | (simp_all; done)))) ?_)) | (with_reducible refine Ob.mk ?_ ?_) | ((with_reducible refine Br.mk (fun h => ?_) (fun h => ?_)) <;> (try simp only [bsl, beq_iff_eq, bne_iff_ne] at h) <;> (try simp only [not_true_eq_false, not_false_eq_true, false_or, or_false, true_and, and_true] at h) <;> (try exact absurd h (by decide)) <;> (try contradiction) <;> (try (exfalso; omega)) <;> (try (simp only [not_true_eq_false, or_self, eq_self, not_false_eq_true, Int.reduceEq, reduceCtorEq] at h; done))))
              refine ⟨k + 1, by show k + 1 ≤ X.length; omega, by show X.length - (k + 1) < X.length - k; omega, ?_⟩
              repeat' (first | exact True.intro | exact rfl | exact Nat.le_refl _ | refine And.intro ?_ ?_)
      · have hk3 : k = X.length := by omega
        subst hk3
        have htk : X.take X.length = X := List.take_length
        dsimp only
        rw [htk] at hcl ⊢
        by_cases hb : bchk l b = 0
        · have h1 : X.count b = 1 := by
            have h2 := List.count_pos_iff.2 (hmem.2 hb)
            have h3 := List.nodup_iff_count.1 hnd b
            omega
          rw [hb] at c3
          rw [h1]
          repeat' (first | (with_reducible refine Sq.go ?_) | ((with_reducible refine Ev.mk ?_); conv => whnf) | (with_reducible refine Dr.mk ⟨by kernel_rfl, by kernel_rfl⟩ ?_) | ((with_reducible refine Ob.mk (by (first | exact rfl | assumption | omega | (intro h0; simp only [h0]; with_unfolding_all exact rfl) | (intro h1 h0; simp only [h0]; with_unfolding_all exact rfl) | (intros; first | assumption | (with_unfolding_all exact rfl) | omega | (simp only [oadd_eq, Int.toNat_natCast] <;> omega) | (simp only [in64, List.length_nil, List.length_cons] <;> omega) | (simp only [bsl, beq_iff_eq, bne_iff_ne, in64] at * <;> omega) | ((try simp only [Int.toNat_natCast]); exact Nat.le_trans (Nat.mul_le_mul_right _ (show _ ≤ 2000000 by omega)) (by with_unfolding_all decide)) | (simp_all; done)))) ?_)) | (with_reducible refine Ob.mk ?_ ?_) | ((with_reducible refine Br.mk (fun h => ?_) (fun h => ?_)) <;> (try simp only [bsl, beq_iff_eq, bne_iff_ne] at h) <;> (try simp only [not_true_eq_false, not_false_eq_true, false_or, or_false, true_and, and_true] at h) <;> (try exact absurd h (by decide)) <;> (try contradiction) <;> (try (exfalso; omega)) <;> (try (simp only [not_true_eq_false, or_self, eq_self, not_false_eq_true, Int.reduceEq, reduceCtorEq] at h; done))))
          refine c3.call ?_
          repeat' (first | (with_reducible refine Sq.go ?_) | ((with_reducible refine Ev.mk ?_); conv => whnf) | (with_reducible refine Dr.mk ⟨by kernel_rfl, by kernel_rfl⟩ ?_) | ((with_reducible refine Ob.mk (by (first | exact rfl | assumption | omega | (intro h0; simp only [h0]; with_unfolding_all exact rfl) | (intro h1 h0; simp only [h0]; with_unfolding_all exact rfl) | (intros; first | assumption | (with_unfolding_all exact rfl) | omega | (simp only [oadd_eq, Int.toNat_natCast] <;> omega) | (simp only [in64, List.length_nil, List.length_cons] <;> omega) | (simp only [bsl, beq_iff_eq, bne_iff_ne, in64] at * <;> omega) | ((try simp only [Int.toNat_natCast]); exact Nat.le_trans (Nat.mul_le_mul_right _ (show _ ≤ 2000000 by omega)) (by with_unfolding_all decide)) | (simp_all; done)))) ?_)) | (with_reducible refine Ob.mk ?_ ?_) | ((with_reducible refine Br.mk (fun h => ?_) (fun h => ?_)) <;> (try simp only [bsl, beq_iff_eq, bne_iff_ne] at h) <;> (try simp only [not_true_eq_false, not_false_eq_true, false_or, or_false, true_and, and_true] at h) <;> (try exact absurd h (by decide)) <;> (try contradiction) <;> (try (exfalso; omega)) <;> (try (simp only [not_true_eq_false, or_self, eq_self, not_false_eq_true, Int.reduceEq, reduceCtorEq] at h; done))))
          exact ⟨rfl, True.intro⟩
        · have h1 : X.count b = 0 := List.count_eq_zero.2 fun h => hb (hmem.1 h)
          rw [h1]
          repeat' (first | (with_reducible refine Sq.go ?_) | ((with_reducible refine Ev.mk ?_); conv => whnf) | (with_reducible refine Dr.mk ⟨by kernel_rfl, by kernel_rfl⟩ ?_) | ((with_reducible refine Ob.mk (by (first | exact rfl | assumption | omega | (intro h0; simp only [h0]; with_unfolding_all exact rfl) | (intro h1 h0; simp only [h0]; with_unfolding_all exact rfl) | (intros; first | assumption | (with_unfolding_all exact rfl) | omega | (simp only [oadd_eq, Int.toNat_natCast] <;> omega) | (simp only [in64, List.length_nil, List.length_cons] <;> omega) | (simp only [bsl, beq_iff_eq, bne_iff_ne, in64] at * <;> omega) | ((try simp only [Int.toNat_natCast]); exact Nat.le_trans (Nat.mul_le_mul_right _ (show _ ≤ 2000000 by omega)) (by with_unfolding_all decide)) | (simp_all; done)))) ?_)) | (with_reducible refine Ob.mk ?_ ?_) | ((with_reducible refine Br.mk (fun h => ?_) (fun h => ?_)) <;> (try simp only [bsl, beq_iff_eq, bne_iff_ne] at h) <;> (try simp only [not_true_eq_false, not_false_eq_true, false_or, or_false, true_and, and_true] at h) <;> (try exact absurd h (by decide)) <;> (try contradiction) <;> (try (exfalso; omega)) <;> (try (simp only [not_true_eq_false, or_self, eq_self, not_false_eq_true, Int.reduceEq, reduceCtorEq] at h; done))))
          refine c3.call ?_
          repeat' (first | (with_reducible refine Sq.go ?_) | ((with_reducible refine Ev.mk ?_); conv => whnf) | (with_reducible refine Dr.mk ⟨by kernel_rfl, by kernel_rfl⟩ ?_) | ((with_reducible refine Ob.mk (by (first | exact rfl | assumption | omega | (intro h0; simp only [h0]; with_unfolding_all exact rfl) | (intro h1 h0; simp only [h0]; with_unfolding_all exact rfl) | (intros; first | assumption | (with_unfolding_all exact rfl) | omega | (simp only [oadd_eq, Int.toNat_natCast] <;> omega) | (simp only [in64, List.length_nil, List.length_cons] <;> omega) | (simp only [bsl, beq_iff_eq, bne_iff_ne, in64] at * <;> omega) | ((try simp only [Int.toNat_natCast]); exact Nat.le_trans (Nat.mul_le_mul_right _ (show _ ≤ 2000000 by omega)) (by with_unfolding_all decide)) | (simp_all; done)))) ?_)) | (with_reducible refine Ob.mk ?_ ?_) | ((with_reducible refine Br.mk (fun h => ?_) (fun h => ?_)) <;> (try simp only [bsl, beq_iff_eq, bne_iff_ne] at h) <;> (try simp only [not_true_eq_false, not_false_eq_true, false_or, or_false, true_and, and_true] at h) <;> (try exact absurd h (by decide)) <;> (try contradiction) <;> (try (exfalso; omega)) <;> (try (simp only [not_true_eq_false, or_self, eq_self, not_false_eq_true, Int.reduceEq, reduceCtorEq] at h; done))))
          refine ⟨congrArg D.bool ?_, True.intro⟩
          simp
          exact hb
end Go.Proofs.YteamiepijajjdaaDoor
