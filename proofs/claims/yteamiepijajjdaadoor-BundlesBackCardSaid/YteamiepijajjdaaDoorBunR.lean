/-
  Chapter 24: the law BundlesBack, walked.
-/
import Derived.Test.YteamiepijajjdaaDoorBunQ
namespace Go.Proofs.YteamiepijajjdaaDoor
set_option linter.unusedSimpArgs false
set_option linter.unusedVariables false
open Go Go.Ab
set_option maxRecDepth 100000
set_option maxHeartbeats 0
def metB (ids : List Int) : List Int → Bool := fun q => ids.any fun n => decide (q = [n])
theorem metB_mem (ids : List Int) (n : Int) : metB ids [n] = decide (n ∈ ids) := by
  rw [Bool.eq_iff_iff]
  simp [metB]
theorem metB_snoc (ids : List Int) (n : Int) (q : List Int) : metB (ids ++ [n]) q = (decide (q = [n]) || metB ids q) := by
  simp [metB, Bool.or_comm]
theorem seatsB_snoc (st : Int) (ids : List Int) (n : Int) : seatsB st (ids ++ [n]) = seatsB st ids ++ if n = -1 then [] else [⟨st, n, -1⟩] := by
  unfold seatsB
  rw [List.filter_append, List.map_append]
  congr 1
  by_cases e : n = -1 <;> simp [e]
theorem seatsB_len (st : Int) (ids : List Int) : (seatsB st ids).length ≤ ids.length := by
  unfold seatsB
  rw [List.length_map]
  exact List.length_filter_le _ _
theorem idsB_snoc {x : List Bun} {k : Nat} (hk : k < x.length) : idsB (x.take (k + 1)) = idsB (x.take k) ++ [(x.getD k default).sec] ++ [(x.getD k default).lab] := by
  unfold idsB
  rw [take_succ_at hk, List.flatMap_append]
  simp
theorem idsB_len : ∀ x : List Bun, (idsB x).length = 2 * x.length
  | [] => rfl
  | b :: r => by
    have := idsB_len r
    simp only [idsB, List.flatMap_cons, List.length_append, List.length_cons, List.length_nil] at this ⊢
    omega
/-- The bundles so far are good. -/
structure Sofar (l : List Sec) (x : List Bun) (T : Int) (k : Nat) : Prop where
  ok : ∀ i, i < k → bchk l (x.getD i default) = 0
  term : ∀ i, i < k → ((findS l (x.getD i default).sec).getD default).term = T
  sorted : ∀ i, i + 1 < k → (x.getD i default).sec < (x.getD (i + 1) default).sec
structure Sofar2 (l : List Sec) (x : List Bun) (k : Nat) : Prop where
  own : ∀ i, i < k → ∀ n ∈ ((findS l (x.getD i default).sec).getD default).labs, n ≠ (x.getD i default).lab → metB (idsB x) [n] = false
theorem mem_at {x : List Bun} {b : Bun} (h : b ∈ x) : ∃ i, i < x.length ∧ x.getD i default = b := by
  obtain ⟨i, hi, e⟩ := List.mem_iff_getElem.1 h
  exact ⟨i, hi, by simp [hi, e]⟩
theorem sec_lt {x : List Bun} (h : ∀ i, i + 1 < x.length → (x.getD i default).sec < (x.getD (i + 1) default).sec) : ∀ (d i : Nat), i + d + 1 < x.length → (x.getD i default).sec < (x.getD (i + d + 1) default).sec
  | 0, i, hi => h i hi
  | d + 1, i, hi => by
    have h1 := sec_lt h d i (by omega)
    have h2 := h (i + d + 1) (by omega)
    rw [show i + (d + 1) + 1 = i + d + 1 + 1 by omega]
    omega
theorem good_all {l : List Sec} {x : List Bun} {T : Int} (h : Sofar l x T x.length) (h2 : Sofar2 l x x.length) : Good l x T where
  ok b hb := by
    obtain ⟨i, hi, rfl⟩ := mem_at hb
    exact h.ok i hi
  term b hb s hs := by
    obtain ⟨i, hi, rfl⟩ := mem_at hb
    have := h.term i hi
    rw [hs] at this
    exact this
  sorted := by
    rw [List.pairwise_iff_getElem]
    intro i j hi hj hij
    have := sec_lt h.sorted (j - i - 1) i (by omega)
    rw [show i + (j - i - 1) + 1 = j by omega] at this
    simpa [List.getD_eq_getElem?_getD, hi, hj] using this
  own b hb s hs n hn hne := by
    obtain ⟨i, hi, rfl⟩ := mem_at hb
    have := h2.own i hi n (by rw [hs]; exact hn) hne
    rw [metB_mem] at this
    exact of_decide_eq_false this
def idsJ (P : List Int) (a b : Int) : Nat → List Int
  | 0 => P
  | 1 => P ++ [a]
  | _ + 2 => P ++ [a] ++ [b]
theorem metB_put (M : List Int) (n : Int) (q : List Int) : (bif decide (q = [n]) then AV.d (.bool true) else AV.d (.bool (metB M q))) = AV.d (.bool (metB (M ++ [n]) q)) := by
  rw [metB_snoc]
  cases decide (q = [n]) <;> rfl
theorem lawBack_ok (l : List Sec) (x : List Bun) (st : Int) : Pure Tryd.prog 8 [eSecs l, eBuns x, .int .i64 st] [.bool true] := by
  refine pure_rule hT (T := tab) (N := 189) (rs := [.tmp 6]) Tryd.func8 rfl rfl rfl (by kernel_rfl) rfl ?_
  have hF := deqP (ds := [eSecs l, .nils]) (few_ok l []) ⟨⟨rfl, rfl, fun i hi => rfl⟩, rfl, True.intro⟩
  cases hf : few24 l []
  · rw [hf] at hF
    repeat' (first | (with_reducible refine Sq.go ?_) | ((with_reducible refine Ev.mk ?_); conv => whnf) | (with_reducible refine Dr.mk ⟨by kernel_rfl, by kernel_rfl⟩ ?_) | ((with_reducible refine Ob.mk (by (first | exact rfl | assumption | omega | (intro h0; simp only [h0]; with_unfolding_all exact rfl) | (intro h1 h0; simp only [h0]; with_unfolding_all exact rfl) | (intros; first | assumption | (with_unfolding_all exact rfl) | omega | (simp only [oadd_eq, Int.toNat_natCast] <;> omega) | (simp only [in64, List.length_nil, List.length_cons] <;> omega) | (simp only [bsl, beq_iff_eq, bne_iff_ne, in64] at * <;> omega) | ((try simp only [Int.toNat_natCast]); exact Nat.le_trans (Nat.mul_le_mul_right _ (show _ ≤ 2000000 by omega)) (by with_unfolding_all decide)) | (simp_all; done)))) ?_)) | (with_reducible refine Ob.mk ?_ ?_) | ((with_reducible refine Br.mk (fun h => ?_) (fun h => ?_)) <;> (try simp only [bsl, beq_iff_eq, bne_iff_ne] at h) <;> (try simp only [not_true_eq_false, not_false_eq_true, false_or, or_false, true_and, and_true] at h) <;> (try exact absurd h (by decide)) <;> (try contradiction) <;> (try (exfalso; omega)) <;> (try (simp only [not_true_eq_false, or_self, eq_self, not_false_eq_true, Int.reduceEq, reduceCtorEq] at h; done))))
    refine sane_ok.call ?_
    repeat' (first | (with_reducible refine Sq.go ?_) | ((with_reducible refine Ev.mk ?_); conv => whnf) | (with_reducible refine Dr.mk ⟨by kernel_rfl, by kernel_rfl⟩ ?_) | ((with_reducible refine Ob.mk (by (first | exact rfl | assumption | omega | (intro h0; simp only [h0]; with_unfolding_all exact rfl) | (intro h1 h0; simp only [h0]; with_unfolding_all exact rfl) | (intros; first | assumption | (with_unfolding_all exact rfl) | omega | (simp only [oadd_eq, Int.toNat_natCast] <;> omega) | (simp only [in64, List.length_nil, List.length_cons] <;> omega) | (simp only [bsl, beq_iff_eq, bne_iff_ne, in64] at * <;> omega) | ((try simp only [Int.toNat_natCast]); exact Nat.le_trans (Nat.mul_le_mul_right _ (show _ ≤ 2000000 by omega)) (by with_unfolding_all decide)) | (simp_all; done)))) ?_)) | (with_reducible refine Ob.mk ?_ ?_) | ((with_reducible refine Br.mk (fun h => ?_) (fun h => ?_)) <;> (try simp only [bsl, beq_iff_eq, bne_iff_ne] at h) <;> (try simp only [not_true_eq_false, not_false_eq_true, false_or, or_false, true_and, and_true] at h) <;> (try exact absurd h (by decide)) <;> (try contradiction) <;> (try (exfalso; omega)) <;> (try (simp only [not_true_eq_false, or_self, eq_self, not_false_eq_true, Int.reduceEq, reduceCtorEq] at h; done))))
    refine hF.call ?_
    repeat' (first | (with_reducible refine Sq.go ?_) | ((with_reducible refine Ev.mk ?_); conv => whnf) | (with_reducible refine Dr.mk ⟨by kernel_rfl, by kernel_rfl⟩ ?_) | ((with_reducible refine Ob.mk (by (first | exact rfl | assumption | omega | (intro h0; simp only [h0]; with_unfolding_all exact rfl) | (intro h1 h0; simp only [h0]; with_unfolding_all exact rfl) | (intros; first | assumption | (with_unfolding_all exact rfl) | omega | (simp only [oadd_eq, Int.toNat_natCast] <;> omega) | (simp only [in64, List.length_nil, List.length_cons] <;> omega) | (simp only [bsl, beq_iff_eq, bne_iff_ne, in64] at * <;> omega) | ((try simp only [Int.toNat_natCast]); exact Nat.le_trans (Nat.mul_le_mul_right _ (show _ ≤ 2000000 by omega)) (by with_unfolding_all decide)) | (simp_all; done)))) ?_)) | (with_reducible refine Ob.mk ?_ ?_) | ((with_reducible refine Br.mk (fun h => ?_) (fun h => ?_)) <;> (try simp only [bsl, beq_iff_eq, bne_iff_ne] at h) <;> (try simp only [not_true_eq_false, not_false_eq_true, false_or, or_false, true_and, and_true] at h) <;> (try exact absurd h (by decide)) <;> (try contradiction) <;> (try (exfalso; omega)) <;> (try (simp only [not_true_eq_false, or_self, eq_self, not_false_eq_true, Int.reduceEq, reduceCtorEq] at h; done))))
    exact ⟨rfl, True.intro⟩
  · rw [hf] at hF
    obtain ⟨hl, _, hl10⟩ := few24_S hf
    have hln : l.length ≤ 1000000 := by omega
    by_cases hx : x.length = 0 ∨ 6 < x.length
    · repeat' (first | (with_reducible refine Sq.go ?_) | ((with_reducible refine Ev.mk ?_); conv => whnf) | (with_reducible refine Dr.mk ⟨by kernel_rfl, by kernel_rfl⟩ ?_) | ((with_reducible refine Ob.mk (by (first | exact rfl | assumption | omega | (intro h0; simp only [h0]; with_unfolding_all exact rfl) | (intro h1 h0; simp only [h0]; with_unfolding_all exact rfl) | (intros; first | assumption | (with_unfolding_all exact rfl) | omega | (simp only [oadd_eq, Int.toNat_natCast] <;> omega) | (simp only [in64, List.length_nil, List.length_cons] <;> omega) | (simp only [bsl, beq_iff_eq, bne_iff_ne, in64] at * <;> omega) | ((try simp only [Int.toNat_natCast]); exact Nat.le_trans (Nat.mul_le_mul_right _ (show _ ≤ 2000000 by omega)) (by with_unfolding_all decide)) | (simp_all; done)))) ?_)) | (with_reducible refine Ob.mk ?_ ?_) | ((with_reducible refine Br.mk (fun h => ?_) (fun h => ?_)) <;> (try simp only [bsl, beq_iff_eq, bne_iff_ne] at h) <;> (try simp only [not_true_eq_false, not_false_eq_true, false_or, or_false, true_and, and_true] at h) <;> (try exact absurd h (by decide)) <;> (try contradiction) <;> (try (exfalso; omega)) <;> (try (simp only [not_true_eq_false, or_self, eq_self, not_false_eq_true, Int.reduceEq, reduceCtorEq] at h; done))))
      refine sane_ok.call ?_
      repeat' (first | (with_reducible refine Sq.go ?_) | ((with_reducible refine Ev.mk ?_); conv => whnf) | (with_reducible refine Dr.mk ⟨by kernel_rfl, by kernel_rfl⟩ ?_) | ((with_reducible refine Ob.mk (by (first | exact rfl | assumption | omega | (intro h0; simp only [h0]; with_unfolding_all exact rfl) | (intro h1 h0; simp only [h0]; with_unfolding_all exact rfl) | (intros; first | assumption | (with_unfolding_all exact rfl) | omega | (simp only [oadd_eq, Int.toNat_natCast] <;> omega) | (simp only [in64, List.length_nil, List.length_cons] <;> omega) | (simp only [bsl, beq_iff_eq, bne_iff_ne, in64] at * <;> omega) | ((try simp only [Int.toNat_natCast]); exact Nat.le_trans (Nat.mul_le_mul_right _ (show _ ≤ 2000000 by omega)) (by with_unfolding_all decide)) | (simp_all; done)))) ?_)) | (with_reducible refine Ob.mk ?_ ?_) | ((with_reducible refine Br.mk (fun h => ?_) (fun h => ?_)) <;> (try simp only [bsl, beq_iff_eq, bne_iff_ne] at h) <;> (try simp only [not_true_eq_false, not_false_eq_true, false_or, or_false, true_and, and_true] at h) <;> (try exact absurd h (by decide)) <;> (try contradiction) <;> (try (exfalso; omega)) <;> (try (simp only [not_true_eq_false, or_self, eq_self, not_false_eq_true, Int.reduceEq, reduceCtorEq] at h; done))))
      refine hF.call ?_
      repeat' (first | (with_reducible refine Sq.go ?_) | ((with_reducible refine Ev.mk ?_); conv => whnf) | (with_reducible refine Dr.mk ⟨by kernel_rfl, by kernel_rfl⟩ ?_) | ((with_reducible refine Ob.mk (by (first | exact rfl | assumption | omega | (intro h0; simp only [h0]; with_unfolding_all exact rfl) | (intro h1 h0; simp only [h0]; with_unfolding_all exact rfl) | (intros; first | assumption | (with_unfolding_all exact rfl) | omega | (simp only [oadd_eq, Int.toNat_natCast] <;> omega) | (simp only [in64, List.length_nil, List.length_cons] <;> omega) | (simp only [bsl, beq_iff_eq, bne_iff_ne, in64] at * <;> omega) | ((try simp only [Int.toNat_natCast]); exact Nat.le_trans (Nat.mul_le_mul_right _ (show _ ≤ 2000000 by omega)) (by with_unfolding_all decide)) | (simp_all; done)))) ?_)) | (with_reducible refine Ob.mk ?_ ?_) | ((with_reducible refine Br.mk (fun h => ?_) (fun h => ?_)) <;> (try simp only [bsl, beq_iff_eq, bne_iff_ne] at h) <;> (try simp only [not_true_eq_false, not_false_eq_true, false_or, or_false, true_and, and_true] at h) <;> (try exact absurd h (by decide)) <;> (try contradiction) <;> (try (exfalso; omega)) <;> (try (simp only [not_true_eq_false, or_self, eq_self, not_false_eq_true, Int.reduceEq, reduceCtorEq] at h; done))))
      exact ⟨rfl, True.intro⟩
    · have hx1 : 0 < x.length := by omega
      have hx6 : x.length ≤ 6 := by omega
      clear hx
      have cF : ∀ n, Pure Tryd.prog 24 [eSecs l, .int .i64 n] [.agg (eSec ((findS l n).getD default)), .bool (findS l n).isSome] := fun n => find_ok l hln n
      obtain ⟨s0, hs0⟩ : ∃ s0, (findS l (x.getD 0 default).sec).getD default = s0 := ⟨_, rfl⟩
      have hF0 := cF (x.getD 0 default).sec
      rw [hs0] at hF0
      repeat' (first | (with_reducible refine Sq.go ?_) | ((with_reducible refine Ev.mk ?_); conv => whnf) | (with_reducible refine Dr.mk ⟨by kernel_rfl, by kernel_rfl⟩ ?_) | ((with_reducible refine Ob.mk (by (first | exact rfl | assumption | omega | (intro h0; simp only [h0]; with_unfolding_all exact rfl) | (intro h1 h0; simp only [h0]; with_unfolding_all exact rfl) | (intros; first | assumption | (with_unfolding_all exact rfl) | omega | (simp only [oadd_eq, Int.toNat_natCast] <;> omega) | (simp only [in64, List.length_nil, List.length_cons] <;> omega) | (simp only [bsl, beq_iff_eq, bne_iff_ne, in64] at * <;> omega) | ((try simp only [Int.toNat_natCast]); exact Nat.le_trans (Nat.mul_le_mul_right _ (show _ ≤ 2000000 by omega)) (by with_unfolding_all decide)) | (simp_all; done)))) ?_)) | (with_reducible refine Ob.mk ?_ ?_) | ((with_reducible refine Br.mk (fun h => ?_) (fun h => ?_)) <;> (try simp only [bsl, beq_iff_eq, bne_iff_ne] at h) <;> (try simp only [not_true_eq_false, not_false_eq_true, false_or, or_false, true_and, and_true] at h) <;> (try exact absurd h (by decide)) <;> (try contradiction) <;> (try (exfalso; omega)) <;> (try (simp only [not_true_eq_false, or_self, eq_self, not_false_eq_true, Int.reduceEq, reduceCtorEq] at h; done))))
      refine sane_ok.call ?_
      repeat' (first | (with_reducible refine Sq.go ?_) | ((with_reducible refine Ev.mk ?_); conv => whnf) | (with_reducible refine Dr.mk ⟨by kernel_rfl, by kernel_rfl⟩ ?_) | ((with_reducible refine Ob.mk (by (first | exact rfl | assumption | omega | (intro h0; simp only [h0]; with_unfolding_all exact rfl) | (intro h1 h0; simp only [h0]; with_unfolding_all exact rfl) | (intros; first | assumption | (with_unfolding_all exact rfl) | omega | (simp only [oadd_eq, Int.toNat_natCast] <;> omega) | (simp only [in64, List.length_nil, List.length_cons] <;> omega) | (simp only [bsl, beq_iff_eq, bne_iff_ne, in64] at * <;> omega) | ((try simp only [Int.toNat_natCast]); exact Nat.le_trans (Nat.mul_le_mul_right _ (show _ ≤ 2000000 by omega)) (by with_unfolding_all decide)) | (simp_all; done)))) ?_)) | (with_reducible refine Ob.mk ?_ ?_) | ((with_reducible refine Br.mk (fun h => ?_) (fun h => ?_)) <;> (try simp only [bsl, beq_iff_eq, bne_iff_ne] at h) <;> (try simp only [not_true_eq_false, not_false_eq_true, false_or, or_false, true_and, and_true] at h) <;> (try exact absurd h (by decide)) <;> (try contradiction) <;> (try (exfalso; omega)) <;> (try (simp only [not_true_eq_false, or_self, eq_self, not_false_eq_true, Int.reduceEq, reduceCtorEq] at h; done))))
      refine hF.call ?_
      repeat' (first | (with_reducible refine Sq.go ?_) | ((with_reducible refine Ev.mk ?_); conv => whnf) | (with_reducible refine Dr.mk ⟨by kernel_rfl, by kernel_rfl⟩ ?_) | ((with_reducible refine Ob.mk (by (first | exact rfl | assumption | omega | (intro h0; simp only [h0]; with_unfolding_all exact rfl) | (intro h1 h0; simp only [h0]; with_unfolding_all exact rfl) | (intros; first | assumption | (with_unfolding_all exact rfl) | omega | (simp only [oadd_eq, Int.toNat_natCast] <;> omega) | (simp only [in64, List.length_nil, List.length_cons] <;> omega) | (simp only [bsl, beq_iff_eq, bne_iff_ne, in64] at * <;> omega) | ((try simp only [Int.toNat_natCast]); exact Nat.le_trans (Nat.mul_le_mul_right _ (show _ ≤ 2000000 by omega)) (by with_unfolding_all decide)) | (simp_all; done)))) ?_)) | (with_reducible refine Ob.mk ?_ ?_) | ((with_reducible refine Br.mk (fun h => ?_) (fun h => ?_)) <;> (try simp only [bsl, beq_iff_eq, bne_iff_ne] at h) <;> (try simp only [not_true_eq_false, not_false_eq_true, false_or, or_false, true_and, and_true] at h) <;> (try exact absurd h (by decide)) <;> (try contradiction) <;> (try (exfalso; omega)) <;> (try (simp only [not_true_eq_false, or_self, eq_self, not_false_eq_true, Int.reduceEq, reduceCtorEq] at h; done))))
      refine hF0.call ?_
      repeat' (first | (with_reducible refine Sq.go ?_) | ((with_reducible refine Ev.mk ?_); conv => whnf) | (with_reducible refine Dr.mk ⟨by kernel_rfl, by kernel_rfl⟩ ?_) | ((with_reducible refine Ob.mk (by (first | exact rfl | assumption | omega | (intro h0; simp only [h0]; with_unfolding_all exact rfl) | (intro h1 h0; simp only [h0]; with_unfolding_all exact rfl) | (intros; first | assumption | (with_unfolding_all exact rfl) | omega | (simp only [oadd_eq, Int.toNat_natCast] <;> omega) | (simp only [in64, List.length_nil, List.length_cons] <;> omega) | (simp only [bsl, beq_iff_eq, bne_iff_ne, in64] at * <;> omega) | ((try simp only [Int.toNat_natCast]); exact Nat.le_trans (Nat.mul_le_mul_right _ (show _ ≤ 2000000 by omega)) (by with_unfolding_all decide)) | (simp_all; done)))) ?_)) | (with_reducible refine Ob.mk ?_ ?_) | ((with_reducible refine Br.mk (fun h => ?_) (fun h => ?_)) <;> (try simp only [bsl, beq_iff_eq, bne_iff_ne] at h) <;> (try simp only [not_true_eq_false, not_false_eq_true, false_or, or_false, true_and, and_true] at h) <;> (try exact absurd h (by decide)) <;> (try contradiction) <;> (try (exfalso; omega)) <;> (try (simp only [not_true_eq_false, or_self, eq_self, not_false_eq_true, Int.reduceEq, reduceCtorEq] at h; done))))
      refine Awp.vec 7 47 3 (fun _ => []) rfl ?_
      refine loop_rule hT (S := Nat) (fun k => ([(0, .d (eSecs l)), (1, .d (eBuns x)), (2, .d (.int .i64 st)), (7, .osl (.loc 2) (seatsB st (idsB (x.take k))).length 0 (seatsB st (idsB (x.take k))).length), (8, .mp (.loc 0)), (9, .ptr (.loc 1) 0 0 0), (11, .d (.int .i64 k))],
          ⟨[some (.map (.one .i64) (metB (idsB (x.take k))) fun q => .d (.bool (metB (idsB (x.take k)) q))), some (.box 34 (up (eSec s0))), some (.vec 47 3 (seatsB st (idsB (x.take k))).length (seatsB st (idsB (x.take k))).length fun i => up (eSeat ((seatsB st (idsB (x.take k))).getD i default)))], []⟩)) (fun k => k ≤ x.length ∧ Sofar l x s0.term k) (fun k => x.length - k) 0 ?_ ?_ ?_
      · repeat' (first | exact True.intro | exact rfl | exact Nat.le_refl _ | refine And.intro ?_ ?_)
        all_goals first
          | (intro q hq; exact ⟨rfl, fun h => ⟨rfl, rfl⟩⟩)
          | (intro i hi; exact absurd hi (Nat.not_lt_zero _))
      · exact ⟨Nat.zero_le _, ⟨fun i hi => absurd hi (by omega), fun i hi => absurd hi (by omega), fun i hi => absurd hi (by omega)⟩⟩
      · rintro k ⟨hk, hG⟩
        have hil : ∀ j, j ≤ x.length → (idsB (x.take j)).length ≤ 12 := fun j hj => by
          rw [idsB_len, List.length_take]
          omega
        by_cases hk2 : k < x.length
        · have hbc := bcheck_ok l hl (x.getD k default)
          have hFk := cF (x.getD k default).sec
          obtain ⟨s1, hs1⟩ : ∃ s1, (findS l (x.getD k default).sec).getD default = s1 := ⟨_, rfl⟩
          obtain ⟨bz, hbz⟩ : ∃ bz, bchk l (x.getD k default) = bz := ⟨_, rfl⟩
          rw [hs1] at hFk
          rw [hbz] at hbc
          repeat' (first | (with_reducible refine Sq.go ?_) | ((with_reducible refine Ev.mk ?_); conv => whnf) | (with_reducible refine Dr.mk ⟨by kernel_rfl, by kernel_rfl⟩ ?_) | ((with_reducible refine Ob.mk (by (first | exact rfl | assumption | omega | (intro h0; simp only [h0]; with_unfolding_all exact rfl) | (intro h1 h0; simp only [h0]; with_unfolding_all exact rfl) | (intros; first | assumption | (with_unfolding_all exact rfl) | omega | (simp only [oadd_eq, Int.toNat_natCast] <;> omega) | (simp only [in64, List.length_nil, List.length_cons] <;> omega) | (simp only [bsl, beq_iff_eq, bne_iff_ne, in64] at * <;> omega) | ((try simp only [Int.toNat_natCast]); exact Nat.le_trans (Nat.mul_le_mul_right _ (show _ ≤ 2000000 by omega)) (by with_unfolding_all decide)) | (simp_all; done)))) ?_)) | (with_reducible refine Ob.mk ?_ ?_) | ((with_reducible refine Br.mk (fun h => ?_) (fun h => ?_)) <;> (try simp only [bsl, beq_iff_eq, bne_iff_ne] at h) <;> (try simp only [not_true_eq_false, not_false_eq_true, false_or, or_false, true_and, and_true] at h) <;> (try exact absurd h (by decide)) <;> (try contradiction) <;> (try (exfalso; omega)) <;> (try (simp only [not_true_eq_false, or_self, eq_self, not_false_eq_true, Int.reduceEq, reduceCtorEq] at h; done))))
          refine hFk.call ?_
          repeat' (first | (with_reducible refine Sq.go ?_) | ((with_reducible refine Ev.mk ?_); conv => whnf) | (with_reducible refine Dr.mk ⟨by kernel_rfl, by kernel_rfl⟩ ?_) | ((with_reducible refine Ob.mk (by (first | exact rfl | assumption | omega | (intro h0; simp only [h0]; with_unfolding_all exact rfl) | (intro h1 h0; simp only [h0]; with_unfolding_all exact rfl) | (intros; first | assumption | (with_unfolding_all exact rfl) | omega | (simp only [oadd_eq, Int.toNat_natCast] <;> omega) | (simp only [in64, List.length_nil, List.length_cons] <;> omega) | (simp only [bsl, beq_iff_eq, bne_iff_ne, in64] at * <;> omega) | ((try simp only [Int.toNat_natCast]); exact Nat.le_trans (Nat.mul_le_mul_right _ (show _ ≤ 2000000 by omega)) (by with_unfolding_all decide)) | (simp_all; done)))) ?_)) | (with_reducible refine Ob.mk ?_ ?_) | ((with_reducible refine Br.mk (fun h => ?_) (fun h => ?_)) <;> (try simp only [bsl, beq_iff_eq, bne_iff_ne] at h) <;> (try simp only [not_true_eq_false, not_false_eq_true, false_or, or_false, true_and, and_true] at h) <;> (try exact absurd h (by decide)) <;> (try contradiction) <;> (try (exfalso; omega)) <;> (try (simp only [not_true_eq_false, or_self, eq_self, not_false_eq_true, Int.reduceEq, reduceCtorEq] at h; done))))
          refine qC hbc ?_
          repeat' (first | (with_reducible refine Sq.go ?_) | ((with_reducible refine Ev.mk ?_); conv => whnf) | (with_reducible refine Dr.mk ⟨by kernel_rfl, by kernel_rfl⟩ ?_) | ((with_reducible refine Ob.mk (by (first | exact rfl | assumption | omega | (intro h0; simp only [h0]; with_unfolding_all exact rfl) | (intro h1 h0; simp only [h0]; with_unfolding_all exact rfl) | (intros; first | assumption | (with_unfolding_all exact rfl) | omega | (simp only [oadd_eq, Int.toNat_natCast] <;> omega) | (simp only [in64, List.length_nil, List.length_cons] <;> omega) | (simp only [bsl, beq_iff_eq, bne_iff_ne, in64] at * <;> omega) | ((try simp only [Int.toNat_natCast]); exact Nat.le_trans (Nat.mul_le_mul_right _ (show _ ≤ 2000000 by omega)) (by with_unfolding_all decide)) | (simp_all; done)))) ?_)) | (with_reducible refine Ob.mk ?_ ?_) | ((with_reducible refine Br.mk (fun h => ?_) (fun h => ?_)) <;> (try simp only [bsl, beq_iff_eq, bne_iff_ne] at h) <;> (try simp only [not_true_eq_false, not_false_eq_true, false_or, or_false, true_and, and_true] at h) <;> (try exact absurd h (by decide)) <;> (try contradiction) <;> (try (exfalso; omega)) <;> (try (simp only [not_true_eq_false, or_self, eq_self, not_false_eq_true, Int.reduceEq, reduceCtorEq] at h; done))))
          · exact ⟨rfl, True.intro⟩
          have hG2 : Sofar l x s0.term (k + 1) := ⟨fun i hi => by
              rcases Nat.lt_or_ge i k with h1 | h1
              · exact hG.ok i h1
              · rw [show i = k by omega, hbz]; exact h.1.1, fun i hi => by
              rcases Nat.lt_or_ge i k with h1 | h1
              · exact hG.term i h1
              · rw [show i = k by omega, hs1]; exact h.1.2, fun i hi => by
              rcases Nat.lt_or_ge (i + 1) k with h1 | h1
              · exact hG.sorted i h1
              · have h2 := h.2.resolve_left (by omega)
                rw [toNat_pred, show k - 1 = i by omega] at h2
                rw [show i + 1 = k by omega]
                exact h2⟩
          have hP := hil k hk
          obtain ⟨P, hPe⟩ : ∃ P, idsB (x.take k) = P := ⟨_, rfl⟩
          rw [hPe] at hP
          have hsn := idsB_snoc hk2
          rw [hPe] at hsn
          have hs0l := seatsB_len st P
          have hs1l := seatsB_len st (P ++ [(x.getD k default).sec])
          rw [List.length_append, List.length_singleton] at hs1l
          refine loop_rule hT (S := Nat) (fun j => ([(0, .d (eSecs l)), (1, .d (eBuns x)), (2, .d (.int .i64 st)), (7, .osl (.loc 2) (seatsB st (idsJ P (x.getD k default).sec (x.getD k default).lab j)).length 0 (seatsB st (idsJ P (x.getD k default).sec (x.getD k default).lab j)).length), (8, .mp (.loc 0)), (9, .ptr (.loc 1) 0 0 0), (11, .d (.int .i64 k)), (103, .d (.sl 1 2 (rowFnD [[.int .i64 (x.getD k default).sec], [.int .i64 (x.getD k default).lab]]))), (104, .d (.int .i64 2)), (105, .d (.int .i64 j))],
              ⟨[some (.map (.one .i64) (metB (idsJ P (x.getD k default).sec (x.getD k default).lab j)) fun q => .d (.bool (metB (idsJ P (x.getD k default).sec (x.getD k default).lab j) q))), some (.box 34 (up (eSec s0))), some (.vec 47 3 (seatsB st (idsJ P (x.getD k default).sec (x.getD k default).lab j)).length (seatsB st (idsJ P (x.getD k default).sec (x.getD k default).lab j)).length fun i => up (eSeat ((seatsB st (idsJ P (x.getD k default).sec (x.getD k default).lab j)).getD i default)))], []⟩)) (fun j => j ≤ 2) (fun j => 2 - j) 0 ?_ ?_ ?_
          · dsimp only [idsJ]
            rw [hPe]
            repeat' (first | exact True.intro | exact rfl | exact Nat.le_refl _ | refine And.intro ?_ ?_)
            all_goals first
              | (intro q hq; exact ⟨rfl, fun h => ⟨rfl, rfl⟩⟩)
              | (intro i hi; exact ⟨rfl, rfl⟩)
          · exact Nat.zero_le _
          · intro j hj
            rcases show j = 0 ∨ j = 1 ∨ j = 2 by omega with rfl | rfl | rfl
            · dsimp only [idsJ]
              by_cases hn1 : (x.getD k default).sec = -1
              · have hsb : seatsB st (P ++ [(x.getD k default).sec]) = seatsB st P := by rw [seatsB_snoc, if_pos hn1, List.append_nil]
                repeat' (first | (with_reducible refine Sq.go ?_) | ((with_reducible refine Ev.mk ?_); conv => whnf) | (with_reducible refine Dr.mk ⟨by kernel_rfl, by kernel_rfl⟩ ?_) | ((with_reducible refine Ob.mk (by (first | exact rfl | assumption | omega | (intro h0; simp only [h0]; with_unfolding_all exact rfl) | (intro h1 h0; simp only [h0]; with_unfolding_all exact rfl) | (intros; first | assumption | (with_unfolding_all exact rfl) | omega | (simp only [oadd_eq, Int.toNat_natCast] <;> omega) | (simp only [in64, List.length_nil, List.length_cons] <;> omega) | (simp only [bsl, beq_iff_eq, bne_iff_ne, in64] at * <;> omega) | ((try simp only [Int.toNat_natCast]); exact Nat.le_trans (Nat.mul_le_mul_right _ (show _ ≤ 2000000 by omega)) (by with_unfolding_all decide)) | (simp_all; done)))) ?_)) | (with_reducible refine Ob.mk ?_ ?_) | ((with_reducible refine Br.mk (fun h => ?_) (fun h => ?_)) <;> (try simp only [bsl, beq_iff_eq, bne_iff_ne] at h) <;> (try simp only [not_true_eq_false, not_false_eq_true, false_or, or_false, true_and, and_true] at h) <;> (try exact absurd h (by decide)) <;> (try contradiction) <;> (try (exfalso; omega)) <;> (try (simp only [not_true_eq_false, or_self, eq_self, not_false_eq_true, Int.reduceEq, reduceCtorEq] at h; done))))
                refine ⟨1, by decide, by decide, ?_⟩
                dsimp only [idsJ]
                rw [hsb]
                repeat' (first | exact True.intro | exact rfl | exact Nat.le_refl _ | refine And.intro ?_ ?_)
                all_goals first
                  | (intro q hq; exact ⟨(metB_snoc P (x.getD k default).sec q).symm, fun _ => ⟨metB_put P (x.getD k default).sec q, rfl⟩⟩)
                  | (intro i hi; exact ⟨rfl, rfl⟩)
              · have hsb : seatsB st (P ++ [(x.getD k default).sec]) = seatsB st P ++ [⟨st, (x.getD k default).sec, -1⟩] := by rw [seatsB_snoc, if_neg hn1]
                have hl1 := len_snoc (seatsB st P) (⟨st, (x.getD k default).sec, -1⟩ : Seat)
                repeat' (first | (with_reducible refine Sq.go ?_) | ((with_reducible refine Ev.mk ?_); conv => whnf) | (with_reducible refine Dr.mk ⟨by kernel_rfl, by kernel_rfl⟩ ?_) | ((with_reducible refine Ob.mk (by (first | exact rfl | assumption | omega | (intro h0; simp only [h0]; with_unfolding_all exact rfl) | (intro h1 h0; simp only [h0]; with_unfolding_all exact rfl) | (intros; first | assumption | (with_unfolding_all exact rfl) | omega | (simp only [oadd_eq, Int.toNat_natCast] <;> omega) | (simp only [in64, List.length_nil, List.length_cons] <;> omega) | (simp only [bsl, beq_iff_eq, bne_iff_ne, in64] at * <;> omega) | ((try simp only [Int.toNat_natCast]); exact Nat.le_trans (Nat.mul_le_mul_right _ (show _ ≤ 2000000 by omega)) (by with_unfolding_all decide)) | (simp_all; done)))) ?_)) | (with_reducible refine Ob.mk ?_ ?_) | ((with_reducible refine Br.mk (fun h => ?_) (fun h => ?_)) <;> (try simp only [bsl, beq_iff_eq, bne_iff_ne] at h) <;> (try simp only [not_true_eq_false, not_false_eq_true, false_or, or_false, true_and, and_true] at h) <;> (try exact absurd h (by decide)) <;> (try contradiction) <;> (try (exfalso; omega)) <;> (try (simp only [not_true_eq_false, or_self, eq_self, not_false_eq_true, Int.reduceEq, reduceCtorEq] at h; done))))
                · exact ⟨rfl, True.intro⟩
                refine ⟨1, by decide, by decide, ?_⟩
                dsimp only [idsJ]
                rw [hsb, hl1]
                repeat' (first | exact True.intro | exact rfl | exact Nat.le_refl _ | refine And.intro ?_ ?_)
                all_goals first
                  | (intro q hq; exact ⟨(metB_snoc P (x.getD k default).sec q).symm, fun _ => ⟨metB_put P (x.getD k default).sec q, rfl⟩⟩)
                  | (intro i hi; rw [← hl1] at hi; exact ⟨join_snoc eSeat _ _ _ rfl i hi, rfl⟩)
            · dsimp only [idsJ]
              by_cases hn1 : (x.getD k default).lab = -1
              · have hsb : seatsB st ((P ++ [(x.getD k default).sec]) ++ [(x.getD k default).lab]) = seatsB st (P ++ [(x.getD k default).sec]) := by rw [seatsB_snoc, if_pos hn1, List.append_nil]
                repeat' (first | (with_reducible refine Sq.go ?_) | ((with_reducible refine Ev.mk ?_); conv => whnf) | (with_reducible refine Dr.mk ⟨by kernel_rfl, by kernel_rfl⟩ ?_) | ((with_reducible refine Ob.mk (by (first | exact rfl | assumption | omega | (intro h0; simp only [h0]; with_unfolding_all exact rfl) | (intro h1 h0; simp only [h0]; with_unfolding_all exact rfl) | (intros; first | assumption | (with_unfolding_all exact rfl) | omega | (simp only [oadd_eq, Int.toNat_natCast] <;> omega) | (simp only [in64, List.length_nil, List.length_cons] <;> omega) | (simp only [bsl, beq_iff_eq, bne_iff_ne, in64] at * <;> omega) | ((try simp only [Int.toNat_natCast]); exact Nat.le_trans (Nat.mul_le_mul_right _ (show _ ≤ 2000000 by omega)) (by with_unfolding_all decide)) | (simp_all; done)))) ?_)) | (with_reducible refine Ob.mk ?_ ?_) | ((with_reducible refine Br.mk (fun h => ?_) (fun h => ?_)) <;> (try simp only [bsl, beq_iff_eq, bne_iff_ne] at h) <;> (try simp only [not_true_eq_false, not_false_eq_true, false_or, or_false, true_and, and_true] at h) <;> (try exact absurd h (by decide)) <;> (try contradiction) <;> (try (exfalso; omega)) <;> (try (simp only [not_true_eq_false, or_self, eq_self, not_false_eq_true, Int.reduceEq, reduceCtorEq] at h; done))))
                refine ⟨2, by decide, by decide, ?_⟩
                dsimp only [idsJ]
                rw [hsb]
                repeat' (first | exact True.intro | exact rfl | exact Nat.le_refl _ | refine And.intro ?_ ?_)
                all_goals first
                  | (intro q hq; exact ⟨(metB_snoc (P ++ [(x.getD k default).sec]) (x.getD k default).lab q).symm, fun _ => ⟨metB_put (P ++ [(x.getD k default).sec]) (x.getD k default).lab q, rfl⟩⟩)
                  | (intro i hi; exact ⟨rfl, rfl⟩)
              · have hsb : seatsB st ((P ++ [(x.getD k default).sec]) ++ [(x.getD k default).lab]) = seatsB st (P ++ [(x.getD k default).sec]) ++ [⟨st, (x.getD k default).lab, -1⟩] := by rw [seatsB_snoc, if_neg hn1]
                have hl1 := len_snoc (seatsB st (P ++ [(x.getD k default).sec])) (⟨st, (x.getD k default).lab, -1⟩ : Seat)
                repeat' (first | (with_reducible refine Sq.go ?_) | ((with_reducible refine Ev.mk ?_); conv => whnf) | (with_reducible refine Dr.mk ⟨by kernel_rfl, by kernel_rfl⟩ ?_) | ((with_reducible refine Ob.mk (by (first | exact rfl | assumption | omega | (intro h0; simp only [h0]; with_unfolding_all exact rfl) | (intro h1 h0; simp only [h0]; with_unfolding_all exact rfl) | (intros; first | assumption | (with_unfolding_all exact rfl) | omega | (simp only [oadd_eq, Int.toNat_natCast] <;> omega) | (simp only [in64, List.length_nil, List.length_cons] <;> omega) | (simp only [bsl, beq_iff_eq, bne_iff_ne, in64] at * <;> omega) | ((try simp only [Int.toNat_natCast]); exact Nat.le_trans (Nat.mul_le_mul_right _ (show _ ≤ 2000000 by omega)) (by with_unfolding_all decide)) | (simp_all; done)))) ?_)) | (with_reducible refine Ob.mk ?_ ?_) | ((with_reducible refine Br.mk (fun h => ?_) (fun h => ?_)) <;> (try simp only [bsl, beq_iff_eq, bne_iff_ne] at h) <;> (try simp only [not_true_eq_false, not_false_eq_true, false_or, or_false, true_and, and_true] at h) <;> (try exact absurd h (by decide)) <;> (try contradiction) <;> (try (exfalso; omega)) <;> (try (simp only [not_true_eq_false, or_self, eq_self, not_false_eq_true, Int.reduceEq, reduceCtorEq] at h; done))))
                · exact ⟨rfl, True.intro⟩
                refine ⟨2, by decide, by decide, ?_⟩
                dsimp only [idsJ]
                rw [hsb, hl1]
                repeat' (first | exact True.intro | exact rfl | exact Nat.le_refl _ | refine And.intro ?_ ?_)
                all_goals first
                  | (intro q hq; exact ⟨(metB_snoc (P ++ [(x.getD k default).sec]) (x.getD k default).lab q).symm, fun _ => ⟨metB_put (P ++ [(x.getD k default).sec]) (x.getD k default).lab q, rfl⟩⟩)
                  | (intro i hi; rw [← hl1] at hi; exact ⟨join_snoc eSeat _ _ _ rfl i hi, rfl⟩)
            · dsimp only [idsJ]
              repeat' (first | (with_reducible refine Sq.go ?_) | ((with_reducible refine Ev.mk ?_); conv => whnf) | (with_reducible refine Dr.mk ⟨by kernel_rfl, by kernel_rfl⟩ ?_) | ((with_reducible refine Ob.mk (by (first | exact rfl | assumption | omega | (intro h0; simp only [h0]; with_unfolding_all exact rfl) | (intro h1 h0; simp only [h0]; with_unfolding_all exact rfl) | (intros; first | assumption | (with_unfolding_all exact rfl) | omega | (simp only [oadd_eq, Int.toNat_natCast] <;> omega) | (simp only [in64, List.length_nil, List.length_cons] <;> omega) | (simp only [bsl, beq_iff_eq, bne_iff_ne, in64] at * <;> omega) | ((try simp only [Int.toNat_natCast]); exact Nat.le_trans (Nat.mul_le_mul_right _ (show _ ≤ 2000000 by omega)) (by with_unfolding_all decide)) | (simp_all; done)))) ?_)) | (with_reducible refine Ob.mk ?_ ?_) | ((with_reducible refine Br.mk (fun h => ?_) (fun h => ?_)) <;> (try simp only [bsl, beq_iff_eq, bne_iff_ne] at h) <;> (try simp only [not_true_eq_false, not_false_eq_true, false_or, or_false, true_and, and_true] at h) <;> (try exact absurd h (by decide)) <;> (try contradiction) <;> (try (exfalso; omega)) <;> (try (simp only [not_true_eq_false, or_self, eq_self, not_false_eq_true, Int.reduceEq, reduceCtorEq] at h; done))))
              refine ⟨k + 1, ⟨by show k + 1 ≤ x.length; omega, hG2⟩, by show x.length - (k + 1) < x.length - k; omega, ?_⟩
              dsimp only
              rw [hsn]
              repeat' (first | exact True.intro | exact rfl | exact Nat.le_refl _ | refine And.intro ?_ ?_)
              all_goals first
                | (intro q hq; exact ⟨rfl, fun h => ⟨rfl, rfl⟩⟩)
                | (intro i hi; exact ⟨rfl, rfl⟩)
        · have hk3 : k = x.length := by omega
          subst hk3
          have hil0 := hil x.length (Nat.le_refl _)
          dsimp only
          rw [List.take_length] at hil0 ⊢
          have hsl := seatsB_len st (idsB x)
          repeat' (first | (with_reducible refine Sq.go ?_) | ((with_reducible refine Ev.mk ?_); conv => whnf) | (with_reducible refine Dr.mk ⟨by kernel_rfl, by kernel_rfl⟩ ?_) | ((with_reducible refine Ob.mk (by (first | exact rfl | assumption | omega | (intro h0; simp only [h0]; with_unfolding_all exact rfl) | (intro h1 h0; simp only [h0]; with_unfolding_all exact rfl) | (intros; first | assumption | (with_unfolding_all exact rfl) | omega | (simp only [oadd_eq, Int.toNat_natCast] <;> omega) | (simp only [in64, List.length_nil, List.length_cons] <;> omega) | (simp only [bsl, beq_iff_eq, bne_iff_ne, in64] at * <;> omega) | ((try simp only [Int.toNat_natCast]); exact Nat.le_trans (Nat.mul_le_mul_right _ (show _ ≤ 2000000 by omega)) (by with_unfolding_all decide)) | (simp_all; done)))) ?_)) | (with_reducible refine Ob.mk ?_ ?_) | ((with_reducible refine Br.mk (fun h => ?_) (fun h => ?_)) <;> (try simp only [bsl, beq_iff_eq, bne_iff_ne] at h) <;> (try simp only [not_true_eq_false, not_false_eq_true, false_or, or_false, true_and, and_true] at h) <;> (try exact absurd h (by decide)) <;> (try contradiction) <;> (try (exfalso; omega)) <;> (try (simp only [not_true_eq_false, or_self, eq_self, not_false_eq_true, Int.reduceEq, reduceCtorEq] at h; done))))
          refine Awp.frz [2] 7 (eSeats (seatsB st (idsB x))) (.rows rfl (by show 0 + _ ≤ _; omega) (fun i hi => by rw [Nat.zero_add])) ?_
          refine loop_rule hT (S := Nat) (fun k => ([(0, .d (eSecs l)), (1, .d (eBuns x)), (2, .d (.int .i64 st)), (7, .d (eSeats (seatsB st (idsB x)))), (8, .mp (.loc 0)), (9, .ptr (.loc 1) 0 0 0), (16, .d (.int .i64 k))],
              ⟨[some (.map (.one .i64) (metB (idsB x)) fun q => .d (.bool (metB (idsB x) q))), some (.box 34 (up (eSec s0)))], []⟩)) (fun k => k ≤ x.length ∧ Sofar2 l x k) (fun k => x.length - k) 0 ?_ ?_ ?_
          · repeat' (first | exact True.intro | exact rfl | exact Nat.le_refl _ | refine And.intro ?_ ?_)
            all_goals (intro q hq; exact ⟨rfl, fun h => ⟨rfl, rfl⟩⟩)
          · exact ⟨Nat.zero_le _, ⟨fun i hi => absurd hi (by omega)⟩⟩
          · rintro k ⟨hk, hG2⟩
            by_cases hk2 : k < x.length
            · have hFk := cF (x.getD k default).sec
              have hll : ((findS l (x.getD k default).sec).getD default).labs.length ≤ 1000 := by
                cases hq : findS l (x.getD k default).sec with
                | none => exact Nat.zero_le _
                | some s => exact (few_at hl (findS_id hq).2).2.1
              obtain ⟨s1, hs1⟩ : ∃ s1, (findS l (x.getD k default).sec).getD default = s1 := ⟨_, rfl⟩
              rw [hs1] at hFk hll
              repeat' (first | (with_reducible refine Sq.go ?_) | ((with_reducible refine Ev.mk ?_); conv => whnf) | (with_reducible refine Dr.mk ⟨by kernel_rfl, by kernel_rfl⟩ ?_) | ((with_reducible refine Ob.mk (by (first | exact rfl | assumption | omega | (intro h0; simp only [h0]; with_unfolding_all exact rfl) | (intro h1 h0; simp only [h0]; with_unfolding_all exact rfl) | (intros; first | assumption | (with_unfolding_all exact rfl) | omega | (simp only [oadd_eq, Int.toNat_natCast] <;> omega) | (simp only [in64, List.length_nil, List.length_cons] <;> omega) | (simp only [bsl, beq_iff_eq, bne_iff_ne, in64] at * <;> omega) | ((try simp only [Int.toNat_natCast]); exact Nat.le_trans (Nat.mul_le_mul_right _ (show _ ≤ 2000000 by omega)) (by with_unfolding_all decide)) | (simp_all; done)))) ?_)) | (with_reducible refine Ob.mk ?_ ?_) | ((with_reducible refine Br.mk (fun h => ?_) (fun h => ?_)) <;> (try simp only [bsl, beq_iff_eq, bne_iff_ne] at h) <;> (try simp only [not_true_eq_false, not_false_eq_true, false_or, or_false, true_and, and_true] at h) <;> (try exact absurd h (by decide)) <;> (try contradiction) <;> (try (exfalso; omega)) <;> (try (simp only [not_true_eq_false, or_self, eq_self, not_false_eq_true, Int.reduceEq, reduceCtorEq] at h; done))))
              refine hFk.call ?_
              repeat' (first | (with_reducible refine Sq.go ?_) | ((with_reducible refine Ev.mk ?_); conv => whnf) | (with_reducible refine Dr.mk ⟨by kernel_rfl, by kernel_rfl⟩ ?_) | ((with_reducible refine Ob.mk (by (first | exact rfl | assumption | omega | (intro h0; simp only [h0]; with_unfolding_all exact rfl) | (intro h1 h0; simp only [h0]; with_unfolding_all exact rfl) | (intros; first | assumption | (with_unfolding_all exact rfl) | omega | (simp only [oadd_eq, Int.toNat_natCast] <;> omega) | (simp only [in64, List.length_nil, List.length_cons] <;> omega) | (simp only [bsl, beq_iff_eq, bne_iff_ne, in64] at * <;> omega) | ((try simp only [Int.toNat_natCast]); exact Nat.le_trans (Nat.mul_le_mul_right _ (show _ ≤ 2000000 by omega)) (by with_unfolding_all decide)) | (simp_all; done)))) ?_)) | (with_reducible refine Ob.mk ?_ ?_) | ((with_reducible refine Br.mk (fun h => ?_) (fun h => ?_)) <;> (try simp only [bsl, beq_iff_eq, bne_iff_ne] at h) <;> (try simp only [not_true_eq_false, not_false_eq_true, false_or, or_false, true_and, and_true] at h) <;> (try exact absurd h (by decide)) <;> (try contradiction) <;> (try (exfalso; omega)) <;> (try (simp only [not_true_eq_false, or_self, eq_self, not_false_eq_true, Int.reduceEq, reduceCtorEq] at h; done))))
              refine loop_rule hT (S := Nat) (fun n => ([(0, .d (eSecs l)), (1, .d (eBuns x)), (2, .d (.int .i64 st)), (7, .d (eSeats (seatsB st (idsB x)))), (8, .mp (.loc 0)), (9, .ptr (.loc 1) 0 0 0), (16, .d (.int .i64 k)), (17, .ptr (.loc 2) 0 0 0), (19, .d (.int .i64 n))],
                  ⟨[some (.map (.one .i64) (metB (idsB x)) fun q => .d (.bool (metB (idsB x) q))), some (.box 34 (up (eSec s0))), some (.box 34 (up (eSec s1)))], []⟩)) (fun n => n ≤ s1.labs.length ∧ ∀ i, i < n → s1.labs.getD i default ≠ (x.getD k default).lab → metB (idsB x) [s1.labs.getD i default] = false) (fun n => s1.labs.length - n) 0 ?_ ?_ ?_
              · repeat' (first | exact True.intro | exact rfl | exact Nat.le_refl _ | refine And.intro ?_ ?_)
                all_goals (intro q hq; exact ⟨rfl, fun h => ⟨rfl, rfl⟩⟩)
              · exact ⟨Nat.zero_le _, fun i hi => absurd hi (by omega)⟩
              · rintro n ⟨hn, hi2⟩
                by_cases hn2 : n < s1.labs.length
                · repeat' (first | (with_reducible refine Sq.go ?_) | ((with_reducible refine Ev.mk ?_); conv => whnf) | (with_reducible refine Dr.mk ⟨by kernel_rfl, by kernel_rfl⟩ ?_) | ((with_reducible refine Ob.mk (by (first | exact rfl | assumption | omega | (intro h0; simp only [h0]; with_unfolding_all exact rfl) | (intro h1 h0; simp only [h0]; with_unfolding_all exact rfl) | (intros; first | assumption | (with_unfolding_all exact rfl) | omega | (simp only [oadd_eq, Int.toNat_natCast] <;> omega) | (simp only [in64, List.length_nil, List.length_cons] <;> omega) | (simp only [bsl, beq_iff_eq, bne_iff_ne, in64] at * <;> omega) | ((try simp only [Int.toNat_natCast]); exact Nat.le_trans (Nat.mul_le_mul_right _ (show _ ≤ 2000000 by omega)) (by with_unfolding_all decide)) | (simp_all; done)))) ?_)) | (with_reducible refine Ob.mk ?_ ?_) | ((with_reducible refine Br.mk (fun h => ?_) (fun h => ?_)) <;> (try simp only [bsl, beq_iff_eq, bne_iff_ne] at h) <;> (try simp only [not_true_eq_false, not_false_eq_true, false_or, or_false, true_and, and_true] at h) <;> (try exact absurd h (by decide)) <;> (try contradiction) <;> (try (exfalso; omega)) <;> (try (simp only [not_true_eq_false, or_self, eq_self, not_false_eq_true, Int.reduceEq, reduceCtorEq] at h; done))))
                  · exact ⟨rfl, True.intro⟩
                  refine ⟨n + 1, ⟨by show n + 1 ≤ s1.labs.length; omega, fun i hi hne => ?_⟩, by show s1.labs.length - (n + 1) < s1.labs.length - n; omega, ?_⟩
                  · rcases Nat.lt_or_ge i n with h1 | h1
                    · exact hi2 i h1 hne
                    · have e : i = n := by omega
                      subst e
                      exact h.resolve_left hne
                  · repeat' (first | exact True.intro | exact rfl | exact Nat.le_refl _ | refine And.intro ?_ ?_)
                    all_goals (intro q hq; exact ⟨rfl, fun h => ⟨rfl, rfl⟩⟩)
                · repeat' (first | (with_reducible refine Sq.go ?_) | ((with_reducible refine Ev.mk ?_); conv => whnf) | (with_reducible refine Dr.mk ⟨by kernel_rfl, by kernel_rfl⟩ ?_) | ((with_reducible refine Ob.mk (by (first | exact rfl | assumption | omega | (intro h0; simp only [h0]; with_unfolding_all exact rfl) | (intro h1 h0; simp only [h0]; with_unfolding_all exact rfl) | (intros; first | assumption | (with_unfolding_all exact rfl) | omega | (simp only [oadd_eq, Int.toNat_natCast] <;> omega) | (simp only [in64, List.length_nil, List.length_cons] <;> omega) | (simp only [bsl, beq_iff_eq, bne_iff_ne, in64] at * <;> omega) | ((try simp only [Int.toNat_natCast]); exact Nat.le_trans (Nat.mul_le_mul_right _ (show _ ≤ 2000000 by omega)) (by with_unfolding_all decide)) | (simp_all; done)))) ?_)) | (with_reducible refine Ob.mk ?_ ?_) | ((with_reducible refine Br.mk (fun h => ?_) (fun h => ?_)) <;> (try simp only [bsl, beq_iff_eq, bne_iff_ne] at h) <;> (try simp only [not_true_eq_false, not_false_eq_true, false_or, or_false, true_and, and_true] at h) <;> (try exact absurd h (by decide)) <;> (try contradiction) <;> (try (exfalso; omega)) <;> (try (simp only [not_true_eq_false, or_self, eq_self, not_false_eq_true, Int.reduceEq, reduceCtorEq] at h; done))))
                  refine ⟨k + 1, ⟨by show k + 1 ≤ x.length; omega, ⟨fun i hi m hm hne => ?_⟩⟩, by show x.length - (k + 1) < x.length - k; omega, ?_⟩
                  · rcases Nat.lt_or_ge i k with h1 | h1
                    · exact hG2.own i h1 m hm hne
                    · have e : i = k := by omega
                      subst e
                      rw [hs1] at hm
                      obtain ⟨j, hj, e⟩ := List.mem_iff_getElem.1 hm
                      have e2 : s1.labs.getD j default = m := by simp [hj, e]
                      have := hi2 j (by omega) (by rw [e2]; exact hne)
                      rw [e2] at this
                      exact this
                  · repeat' (first | exact True.intro | exact rfl | exact Nat.le_refl _ | refine And.intro ?_ ?_)
                    all_goals (intro q hq; exact ⟨rfl, fun h => ⟨rfl, rfl⟩⟩)
            · have hk3 : k = x.length := by omega
              subst hk3
              have hgood := good_all hG hG2
              obtain ⟨o1, o2⟩ := good_of hgood st
              have c1 := of_ok l hl (seatsB st (idsB x)) (by omega) st s0.term
              have c2 := of_ok l hl (seatsB st (idsB x)) (by omega) st (s0.term + 1)
              rw [o1] at c1
              rw [o2] at c2
              have hS := sameB_ok x x (by omega) (by omega)
              rw [decide_eq_true rfl] at hS
              have hterm : s0.term ≤ 1023 := by
                have h1 := hG.ok 0 hx1
                obtain ⟨h0, ps, hp⟩ := parts_of h1
                rw [← hs0]
                cases hp with
                | one h2 => rw [h2]; have := formed_id (chk_id h0 (findS_id h2).2).1; show Sec.term _ ≤ _; simp only [Option.getD_some]; omega
                | two h2 => rw [h2]; have := formed_id (chk_id h0 (findS_id h2).2).1; show Sec.term _ ≤ _; simp only [Option.getD_some]; omega
              have hterm0 : 0 ≤ s0.term := by
                have h1 := hG.ok 0 hx1
                obtain ⟨h0, ps, hp⟩ := parts_of h1
                rw [← hs0]
                cases hp with
                | one h2 => rw [h2]; have := formed_id (chk_id h0 (findS_id h2).2).1; simp only [Option.getD_some]; omega
                | two h2 => rw [h2]; have := formed_id (chk_id h0 (findS_id h2).2).1; simp only [Option.getD_some]; omega
              repeat' (first | (with_reducible refine Sq.go ?_) | ((with_reducible refine Ev.mk ?_); conv => whnf) | (with_reducible refine Dr.mk ⟨by kernel_rfl, by kernel_rfl⟩ ?_) | ((with_reducible refine Ob.mk (by (first | exact rfl | assumption | omega | (intro h0; simp only [h0]; with_unfolding_all exact rfl) | (intro h1 h0; simp only [h0]; with_unfolding_all exact rfl) | (intros; first | assumption | (with_unfolding_all exact rfl) | omega | (simp only [oadd_eq, Int.toNat_natCast] <;> omega) | (simp only [in64, List.length_nil, List.length_cons] <;> omega) | (simp only [bsl, beq_iff_eq, bne_iff_ne, in64] at * <;> omega) | ((try simp only [Int.toNat_natCast]); exact Nat.le_trans (Nat.mul_le_mul_right _ (show _ ≤ 2000000 by omega)) (by with_unfolding_all decide)) | (simp_all; done)))) ?_)) | (with_reducible refine Ob.mk ?_ ?_) | ((with_reducible refine Br.mk (fun h => ?_) (fun h => ?_)) <;> (try simp only [bsl, beq_iff_eq, bne_iff_ne] at h) <;> (try simp only [not_true_eq_false, not_false_eq_true, false_or, or_false, true_and, and_true] at h) <;> (try exact absurd h (by decide)) <;> (try contradiction) <;> (try (exfalso; omega)) <;> (try (simp only [not_true_eq_false, or_self, eq_self, not_false_eq_true, Int.reduceEq, reduceCtorEq] at h; done))))
              refine c1.call ?_
              repeat' (first | (with_reducible refine Sq.go ?_) | ((with_reducible refine Ev.mk ?_); conv => whnf) | (with_reducible refine Dr.mk ⟨by kernel_rfl, by kernel_rfl⟩ ?_) | ((with_reducible refine Ob.mk (by (first | exact rfl | assumption | omega | (intro h0; simp only [h0]; with_unfolding_all exact rfl) | (intro h1 h0; simp only [h0]; with_unfolding_all exact rfl) | (intros; first | assumption | (with_unfolding_all exact rfl) | omega | (simp only [oadd_eq, Int.toNat_natCast] <;> omega) | (simp only [in64, List.length_nil, List.length_cons] <;> omega) | (simp only [bsl, beq_iff_eq, bne_iff_ne, in64] at * <;> omega) | ((try simp only [Int.toNat_natCast]); exact Nat.le_trans (Nat.mul_le_mul_right _ (show _ ≤ 2000000 by omega)) (by with_unfolding_all decide)) | (simp_all; done)))) ?_)) | (with_reducible refine Ob.mk ?_ ?_) | ((with_reducible refine Br.mk (fun h => ?_) (fun h => ?_)) <;> (try simp only [bsl, beq_iff_eq, bne_iff_ne] at h) <;> (try simp only [not_true_eq_false, not_false_eq_true, false_or, or_false, true_and, and_true] at h) <;> (try exact absurd h (by decide)) <;> (try contradiction) <;> (try (exfalso; omega)) <;> (try (simp only [not_true_eq_false, or_self, eq_self, not_false_eq_true, Int.reduceEq, reduceCtorEq] at h; done))))
              refine hS.call ?_
              repeat' (first | (with_reducible refine Sq.go ?_) | ((with_reducible refine Ev.mk ?_); conv => whnf) | (with_reducible refine Dr.mk ⟨by kernel_rfl, by kernel_rfl⟩ ?_) | ((with_reducible refine Ob.mk (by (first | exact rfl | assumption | omega | (intro h0; simp only [h0]; with_unfolding_all exact rfl) | (intro h1 h0; simp only [h0]; with_unfolding_all exact rfl) | (intros; first | assumption | (with_unfolding_all exact rfl) | omega | (simp only [oadd_eq, Int.toNat_natCast] <;> omega) | (simp only [in64, List.length_nil, List.length_cons] <;> omega) | (simp only [bsl, beq_iff_eq, bne_iff_ne, in64] at * <;> omega) | ((try simp only [Int.toNat_natCast]); exact Nat.le_trans (Nat.mul_le_mul_right _ (show _ ≤ 2000000 by omega)) (by with_unfolding_all decide)) | (simp_all; done)))) ?_)) | (with_reducible refine Ob.mk ?_ ?_) | ((with_reducible refine Br.mk (fun h => ?_) (fun h => ?_)) <;> (try simp only [bsl, beq_iff_eq, bne_iff_ne] at h) <;> (try simp only [not_true_eq_false, not_false_eq_true, false_or, or_false, true_and, and_true] at h) <;> (try exact absurd h (by decide)) <;> (try contradiction) <;> (try (exfalso; omega)) <;> (try (simp only [not_true_eq_false, or_self, eq_self, not_false_eq_true, Int.reduceEq, reduceCtorEq] at h; done))))
              refine c2.call ?_
              repeat' (first | (with_reducible refine Sq.go ?_) | ((with_reducible refine Ev.mk ?_); conv => whnf) | (with_reducible refine Dr.mk ⟨by kernel_rfl, by kernel_rfl⟩ ?_) | ((with_reducible refine Ob.mk (by (first | exact rfl | assumption | omega | (intro h0; simp only [h0]; with_unfolding_all exact rfl) | (intro h1 h0; simp only [h0]; with_unfolding_all exact rfl) | (intros; first | assumption | (with_unfolding_all exact rfl) | omega | (simp only [oadd_eq, Int.toNat_natCast] <;> omega) | (simp only [in64, List.length_nil, List.length_cons] <;> omega) | (simp only [bsl, beq_iff_eq, bne_iff_ne, in64] at * <;> omega) | ((try simp only [Int.toNat_natCast]); exact Nat.le_trans (Nat.mul_le_mul_right _ (show _ ≤ 2000000 by omega)) (by with_unfolding_all decide)) | (simp_all; done)))) ?_)) | (with_reducible refine Ob.mk ?_ ?_) | ((with_reducible refine Br.mk (fun h => ?_) (fun h => ?_)) <;> (try simp only [bsl, beq_iff_eq, bne_iff_ne] at h) <;> (try simp only [not_true_eq_false, not_false_eq_true, false_or, or_false, true_and, and_true] at h) <;> (try exact absurd h (by decide)) <;> (try contradiction) <;> (try (exfalso; omega)) <;> (try (simp only [not_true_eq_false, or_self, eq_self, not_false_eq_true, Int.reduceEq, reduceCtorEq] at h; done))))
              exact ⟨rfl, True.intro⟩
end Go.Proofs.YteamiepijajjdaaDoor
