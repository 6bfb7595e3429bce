/-
  Chapter 24: the law BundlesApart, walked.
-/
import Derived.Test.YteamiepijajjdaaDoorBunK
namespace Go.Proofs.YteamiepijajjdaaDoor
set_option linter.unusedSimpArgs false
set_option linter.unusedVariables false
open Go Go.Ab
set_option maxRecDepth 100000
set_option maxHeartbeats 0
theorem mover_comm (s t : Meet) : mover s t = mover t s := by
  unfold mover
  rw [show decide (s.day = t.day) = decide (t.day = s.day) by rw [Bool.eq_iff_iff]; simp [eq_comm], Int.max_comm, Int.min_comm, Int.max_comm s.first, Int.min_comm s.last]
theorem mover_self {m : Meet} (h : mvalid m = true) : mover m m = true := by
  simp only [mvalid, Bool.and_eq_true, decide_eq_true_eq] at h
  simp [mover]
  omega
theorem lapM_comm (a b : List Meet) : lapM a b = lapM b a := by
  rw [Bool.eq_iff_iff]
  simp only [lapM, List.any_eq_true]
  constructor
  · rintro ⟨x, hx, y, hy, h⟩
    exact ⟨y, hy, x, hx, by rw [mover_comm]; exact h⟩
  · rintro ⟨x, hx, y, hy, h⟩
    exact ⟨y, hy, x, hx, by rw [mover_comm]; exact h⟩
theorem lapM_self {p : List Meet} (h : ∀ m ∈ p, mvalid m = true) : lapM p p = decide (0 < p.length) := by
  cases p with
  | nil => rfl
  | cons m r =>
    rw [decide_eq_true (by simp : 0 < (m :: r).length)]
    simp only [lapM, List.any_eq_true]
    exact ⟨m, by simp, m, by simp, mover_self (h m (by simp))⟩
theorem clashE_one {m n : Meet} (hm : mvalid m = true) (hn : mvalid n = true) : clashE [m] [n] = 0 := by
  have h : ∀ m, mvalid m = true → mcheck [m] = 0 := fun m h => by
    unfold mcheck
    rw [if_neg (by simp), if_pos (by simp [h, ovAll, ovIn])]
  unfold clashE
  rw [h m hm, h n hn]
  rfl
theorem clashB_one {m n : Meet} (hm : mvalid m = true) (hn : mvalid n = true) : clashB [m] [n] = mover m n := by
  unfold clashB
  rw [clashE_one hm hn]
  simp [lapM]
theorem clashB_lap {a b : List Meet} (ha : mcheck a = 0) (hb : mcheck b = 0) : clashB a b = lapM a b := by
  have : clashE a b = 0 := by rw [clashE, if_pos ha, hb]
  rw [clashB, this]
  simp
theorem clV_lap {l : List Sec} (h0 : chkAll l = 0) {ps qs : List Sec} (hp : ∀ x ∈ ps, x ∈ l) (hq : ∀ x ∈ qs, x ∈ l) : clV ps qs = (decide ((ps.headD default).term = (qs.headD default).term) && lapM (flatM ps) (flatM qs)) := by
  unfold clV
  congr 1
  rw [Bool.eq_iff_iff]
  simp only [List.any_eq_true, lapM, flatM, List.mem_flatMap]
  constructor
  · rintro ⟨x, hx, y, hy, h⟩
    rw [clashB_lap (chk_id h0 (hp x hx)).2 (chk_id h0 (hq y hy)).2] at h
    simp only [lapM, List.any_eq_true] at h
    obtain ⟨m, hm, n, hn, h⟩ := h
    exact ⟨m, ⟨x, hx, hm⟩, n, ⟨y, hy, hn⟩, h⟩
  · rintro ⟨m, ⟨x, hx, hm⟩, n, ⟨y, hy, hn⟩, h⟩
    refine ⟨x, hx, y, hy, ?_⟩
    rw [clashB_lap (chk_id h0 (hp x hx)).2 (chk_id h0 (hq y hy)).2]
    simp only [lapM, List.any_eq_true]
    exact ⟨m, hm, n, hn, h⟩
theorem flatM_valid {l : List Sec} (h0 : chkAll l = 0) {ps : List Sec} (hp : ∀ x ∈ ps, x ∈ l) : ∀ m ∈ flatM ps, mvalid m = true := fun m hm => by
  simp only [flatM, List.mem_flatMap] at hm
  obtain ⟨x, hx, hm⟩ := hm
  exact mcheck_valid (chk_id h0 (hp x hx)).2 m hm
/-- A valid bundle, seen from outside: its section, its meetings, its lab. -/
theorem bun_is {l : List Sec} (hl : fewS l) {a : Bun} (h : bchk l a = 0) : chkAll l = 0 ∧ ∃ s, findS l a.sec = some s ∧ (partsL l a).headD default = s ∧ (∀ x ∈ partsL l a, x ∈ l) ∧ (mtB l a).length ≤ 2000 ∧ mtB l a = flatM (partsL l a) ∧
    (a.lab ≠ -1 → ∃ x, findS l a.lab = some x ∧ x.lab = true ∧ clashB s.meets x.meets = false ∧ clashE s.meets x.meets = 0) := by
  obtain ⟨h0, ps, hp⟩ := parts_of h
  have hmt : mtB l a = flatM (partsL l a) := by rw [mtB, if_pos h]
  refine ⟨h0, ?_⟩
  rw [← hp.eq] at hmt ⊢
  have hml := mtB_len hl a
  cases hp with
  | @one s h1 h2 h3 h4 h5 => exact ⟨s, h1, rfl, fun x hx => by simp at hx; subst hx; exact (findS_id h1).2, hml, hmt, fun hn => absurd h4 hn⟩
  | @two s x h1 h2 h3 h4 h5 h6 =>
    refine ⟨s, h1, rfl, fun z hx => ?_, hml, hmt, fun _ => ⟨x, h3, ?_, h6, ?_⟩⟩
    · simp at hx
      rcases hx with rfl | rfl
      · exact (findS_id h1).2
      · exact (findS_id h3).2
    · simp only [labOk, Bool.and_eq_true, decide_eq_true_eq] at h5
      exact h5.2.1
    · rw [clashE, if_pos (chk_id h0 (findS_id h1).2).2, (chk_id h0 (findS_id h3).2).2]
theorem take_any {p : List Meet} {k : Nat} (hk : k < p.length) (f : Meet → Bool) : (p.take (k + 1)).any f = ((p.take k).any f || f (p.getD k default)) := by
  rw [take_succ_at hk, List.any_append]
  simp
theorem deq_one (p : List Meet) (k : Nat) : DEq (.sl 5 (((k : Int) + 1).toNat - (k : Int).toNat) fun i => (fun i => eMeet (p.getD i default)) ((k : Int).toNat + i)) (eMeets [p.getD k default]) :=
  ⟨rfl, by show _ = 1; omega, fun i hi => by
    have : i = 0 := by
      first
        | (have h1 : i < 1 := hi; omega)
        | (have h1 : i < ((k : Int) + 1).toNat - (k : Int).toNat := hi; omega)
    subst this
    rfl⟩
theorem lawApart_ok (l : List Sec) (a b : Bun) : Pure Tryd.prog 7 [eSecs l, .agg (eBun a), .agg (eBun b)] [.bool true] := by
  refine pure_rule hT (T := tab) (N := 206) (rs := [.tmp 6]) Tryd.func7 rfl rfl rfl (by kernel_rfl) rfl ?_
  have hF := deqP (ds := [eSecs l, .nils]) (few_ok l []) ⟨⟨rfl, rfl, fun i hi => rfl⟩, rfl, True.intro⟩
  cases hf : few24 l []
  · rw [hf] at hF
    repeat' (first | (with_reducible refine Sq.go ?_) | ((with_reducible refine Ev.mk ?_); conv => whnf) | (with_reducible refine Dr.mk ⟨by kernel_rfl, by kernel_rfl⟩ ?_) | ((with_reducible refine Ob.mk (by (first | exact rfl | assumption | omega | (intro h0; simp only [h0]; with_unfolding_all exact rfl) | (intro h1 h0; simp only [h0]; with_unfolding_all exact rfl) | (intros; first | assumption | (with_unfolding_all exact rfl) | omega | (simp only [oadd_eq, Int.toNat_natCast] <;> omega) | (simp only [in64, List.length_nil, List.length_cons] <;> omega) | (simp only [bsl, beq_iff_eq, bne_iff_ne, in64] at * <;> omega) | ((try simp only [Int.toNat_natCast]); exact Nat.le_trans (Nat.mul_le_mul_right _ (show _ ≤ 2000000 by omega)) (by with_unfolding_all decide)) | (simp_all; done)))) ?_)) | (with_reducible refine Ob.mk ?_ ?_) | ((with_reducible refine Br.mk (fun h => ?_) (fun h => ?_)) <;> (try simp only [bsl, beq_iff_eq, bne_iff_ne] at h) <;> (try simp only [not_true_eq_false, not_false_eq_true, false_or, or_false, true_and, and_true] at h) <;> (try exact absurd h (by decide)) <;> (try contradiction) <;> (try (exfalso; omega)) <;> (try (simp only [not_true_eq_false, or_self, eq_self, not_false_eq_true, Int.reduceEq, reduceCtorEq] at h; done))))
    refine sane_ok.call ?_
    repeat' (first | (with_reducible refine Sq.go ?_) | ((with_reducible refine Ev.mk ?_); conv => whnf) | (with_reducible refine Dr.mk ⟨by kernel_rfl, by kernel_rfl⟩ ?_) | ((with_reducible refine Ob.mk (by (first | exact rfl | assumption | omega | (intro h0; simp only [h0]; with_unfolding_all exact rfl) | (intro h1 h0; simp only [h0]; with_unfolding_all exact rfl) | (intros; first | assumption | (with_unfolding_all exact rfl) | omega | (simp only [oadd_eq, Int.toNat_natCast] <;> omega) | (simp only [in64, List.length_nil, List.length_cons] <;> omega) | (simp only [bsl, beq_iff_eq, bne_iff_ne, in64] at * <;> omega) | ((try simp only [Int.toNat_natCast]); exact Nat.le_trans (Nat.mul_le_mul_right _ (show _ ≤ 2000000 by omega)) (by with_unfolding_all decide)) | (simp_all; done)))) ?_)) | (with_reducible refine Ob.mk ?_ ?_) | ((with_reducible refine Br.mk (fun h => ?_) (fun h => ?_)) <;> (try simp only [bsl, beq_iff_eq, bne_iff_ne] at h) <;> (try simp only [not_true_eq_false, not_false_eq_true, false_or, or_false, true_and, and_true] at h) <;> (try exact absurd h (by decide)) <;> (try contradiction) <;> (try (exfalso; omega)) <;> (try (simp only [not_true_eq_false, or_self, eq_self, not_false_eq_true, Int.reduceEq, reduceCtorEq] at h; done))))
    refine hF.call ?_
    repeat' (first | (with_reducible refine Sq.go ?_) | ((with_reducible refine Ev.mk ?_); conv => whnf) | (with_reducible refine Dr.mk ⟨by kernel_rfl, by kernel_rfl⟩ ?_) | ((with_reducible refine Ob.mk (by (first | exact rfl | assumption | omega | (intro h0; simp only [h0]; with_unfolding_all exact rfl) | (intro h1 h0; simp only [h0]; with_unfolding_all exact rfl) | (intros; first | assumption | (with_unfolding_all exact rfl) | omega | (simp only [oadd_eq, Int.toNat_natCast] <;> omega) | (simp only [in64, List.length_nil, List.length_cons] <;> omega) | (simp only [bsl, beq_iff_eq, bne_iff_ne, in64] at * <;> omega) | ((try simp only [Int.toNat_natCast]); exact Nat.le_trans (Nat.mul_le_mul_right _ (show _ ≤ 2000000 by omega)) (by with_unfolding_all decide)) | (simp_all; done)))) ?_)) | (with_reducible refine Ob.mk ?_ ?_) | ((with_reducible refine Br.mk (fun h => ?_) (fun h => ?_)) <;> (try simp only [bsl, beq_iff_eq, bne_iff_ne] at h) <;> (try simp only [not_true_eq_false, not_false_eq_true, false_or, or_false, true_and, and_true] at h) <;> (try exact absurd h (by decide)) <;> (try contradiction) <;> (try (exfalso; omega)) <;> (try (simp only [not_true_eq_false, or_self, eq_self, not_false_eq_true, Int.reduceEq, reduceCtorEq] at h; done))))
    exact ⟨rfl, True.intro⟩
  · rw [hf] at hF
    obtain ⟨hl, _, hl10⟩ := few24_S hf
    have hln : l.length ≤ 1000000 := by omega
    have c1 := clash_ok l hl a b
    have c2 := clash_ok l hl b a
    by_cases hz : bchk l a = 0 ∧ bchk l b = 0
    · obtain ⟨hza, hzb⟩ := hz
      have e1 : clE l a b = 0 := by rw [clE, if_pos hza, hzb]
      have e2 : clE l b a = 0 := by rw [clE, if_pos hzb, hza]
      have e3 : clE l a a = 0 := by rw [clE, if_pos hza, hza]
      obtain ⟨h0, s, hs, hhs, hpl, hpn, hmp, hlab⟩ := bun_is hl hza
      obtain ⟨_, t, ht, hht, hql, hqn, hmq, _⟩ := bun_is hl hzb
      have v1 : clB l a b = (decide (s.term = t.term) && lapM (mtB l a) (mtB l b)) := by
        rw [clB, e1, clV_lap h0 hpl hql, hhs, hht, hmp, hmq]
        simp
      have v2 : clB l b a = (decide (s.term = t.term) && lapM (mtB l a) (mtB l b)) := by
        rw [clB, e2, clV_lap h0 hql hpl, hhs, hht, hmp, hmq, lapM_comm]
        simp [eq_comm]
      have hvp := flatM_valid h0 hpl
      have hvq := flatM_valid h0 hql
      rw [← hmp] at hvp
      rw [← hmq] at hvq
      have v3 : clB l a a = decide (0 < (mtB l a).length) := by
        rw [clB, e3, clV_lap h0 hpl hpl, ← hmp, lapM_self hvp]
        simp
      have c3 := clash_ok l hl a a
      have c4 := meetings_ok l hl a
      have c5 := meetings_ok l hl b
      have c6 := find_some hln hs
      have c7 := find_some hln ht
      rw [v1, e1] at c1
      rw [v2, e2] at c2
      rw [v3, e3] at c3
      rw [hza] at c4
      rw [hzb] at c5
      have hms := (few_at hl (findS_id hs).2).2.2
      clear hmp hmq v1 v2 v3 hpl hql hhs hht e1 e2 e3
      obtain ⟨p, hp⟩ : ∃ p, mtB l a = p := ⟨_, rfl⟩
      obtain ⟨q, hq⟩ : ∃ q, mtB l b = q := ⟨_, rfl⟩
      rw [hp, hq] at c1 c2
      rw [hp] at c3 c4 hpn hvp
      rw [hq] at c5 hqn hvq
      obtain ⟨v, hv⟩ : ∃ v, lapM p q = v := ⟨_, rfl⟩
      obtain ⟨np, hnp⟩ : ∃ np, decide (0 < p.length) = np := ⟨_, rfl⟩
      rw [hv] at c1 c2
      rw [hnp] at c3
      have key : ∀ (k : Nat), k < p.length → ∀ n, n < q.length → Pure Tryd.prog 25 [eMeets [p.getD k default], eMeets [q.getD n default]] [.bool (mover (p.getD k default) (q.getD n default)), .int .i64 0] := fun k hk n hn => by
        have h1 := hvp _ (getD_mem hk)
        have h2 := hvq _ (getD_mem hn)
        have := mclash_ok [p.getD k default] [q.getD n default] (by simp) (by simp)
        rw [clashE_one h1 h2, clashB_one h1 h2] at this
        exact this
      repeat' (first | (with_reducible refine Sq.go ?_) | ((with_reducible refine Ev.mk ?_); conv => whnf) | (with_reducible refine Dr.mk ⟨by kernel_rfl, by kernel_rfl⟩ ?_) | ((with_reducible refine Ob.mk (by (first | exact rfl | assumption | omega | (intro h0; simp only [h0]; with_unfolding_all exact rfl) | (intro h1 h0; simp only [h0]; with_unfolding_all exact rfl) | (intros; first | assumption | (with_unfolding_all exact rfl) | omega | (simp only [oadd_eq, Int.toNat_natCast] <;> omega) | (simp only [in64, List.length_nil, List.length_cons] <;> omega) | (simp only [bsl, beq_iff_eq, bne_iff_ne, in64] at * <;> omega) | ((try simp only [Int.toNat_natCast]); exact Nat.le_trans (Nat.mul_le_mul_right _ (show _ ≤ 2000000 by omega)) (by with_unfolding_all decide)) | (simp_all; done)))) ?_)) | (with_reducible refine Ob.mk ?_ ?_) | ((with_reducible refine Br.mk (fun h => ?_) (fun h => ?_)) <;> (try simp only [bsl, beq_iff_eq, bne_iff_ne] at h) <;> (try simp only [not_true_eq_false, not_false_eq_true, false_or, or_false, true_and, and_true] at h) <;> (try exact absurd h (by decide)) <;> (try contradiction) <;> (try (exfalso; omega)) <;> (try (simp only [not_true_eq_false, or_self, eq_self, not_false_eq_true, Int.reduceEq, reduceCtorEq] at h; done))))
      refine sane_ok.call ?_
      repeat' (first | (with_reducible refine Sq.go ?_) | ((with_reducible refine Ev.mk ?_); conv => whnf) | (with_reducible refine Dr.mk ⟨by kernel_rfl, by kernel_rfl⟩ ?_) | ((with_reducible refine Ob.mk (by (first | exact rfl | assumption | omega | (intro h0; simp only [h0]; with_unfolding_all exact rfl) | (intro h1 h0; simp only [h0]; with_unfolding_all exact rfl) | (intros; first | assumption | (with_unfolding_all exact rfl) | omega | (simp only [oadd_eq, Int.toNat_natCast] <;> omega) | (simp only [in64, List.length_nil, List.length_cons] <;> omega) | (simp only [bsl, beq_iff_eq, bne_iff_ne, in64] at * <;> omega) | ((try simp only [Int.toNat_natCast]); exact Nat.le_trans (Nat.mul_le_mul_right _ (show _ ≤ 2000000 by omega)) (by with_unfolding_all decide)) | (simp_all; done)))) ?_)) | (with_reducible refine Ob.mk ?_ ?_) | ((with_reducible refine Br.mk (fun h => ?_) (fun h => ?_)) <;> (try simp only [bsl, beq_iff_eq, bne_iff_ne] at h) <;> (try simp only [not_true_eq_false, not_false_eq_true, false_or, or_false, true_and, and_true] at h) <;> (try exact absurd h (by decide)) <;> (try contradiction) <;> (try (exfalso; omega)) <;> (try (simp only [not_true_eq_false, or_self, eq_self, not_false_eq_true, Int.reduceEq, reduceCtorEq] at h; done))))
      refine hF.call ?_
      repeat' (first | (with_reducible refine Sq.go ?_) | ((with_reducible refine Ev.mk ?_); conv => whnf) | (with_reducible refine Dr.mk ⟨by kernel_rfl, by kernel_rfl⟩ ?_) | ((with_reducible refine Ob.mk (by (first | exact rfl | assumption | omega | (intro h0; simp only [h0]; with_unfolding_all exact rfl) | (intro h1 h0; simp only [h0]; with_unfolding_all exact rfl) | (intros; first | assumption | (with_unfolding_all exact rfl) | omega | (simp only [oadd_eq, Int.toNat_natCast] <;> omega) | (simp only [in64, List.length_nil, List.length_cons] <;> omega) | (simp only [bsl, beq_iff_eq, bne_iff_ne, in64] at * <;> omega) | ((try simp only [Int.toNat_natCast]); exact Nat.le_trans (Nat.mul_le_mul_right _ (show _ ≤ 2000000 by omega)) (by with_unfolding_all decide)) | (simp_all; done)))) ?_)) | (with_reducible refine Ob.mk ?_ ?_) | ((with_reducible refine Br.mk (fun h => ?_) (fun h => ?_)) <;> (try simp only [bsl, beq_iff_eq, bne_iff_ne] at h) <;> (try simp only [not_true_eq_false, not_false_eq_true, false_or, or_false, true_and, and_true] at h) <;> (try exact absurd h (by decide)) <;> (try contradiction) <;> (try (exfalso; omega)) <;> (try (simp only [not_true_eq_false, or_self, eq_self, not_false_eq_true, Int.reduceEq, reduceCtorEq] at h; done))))
      refine c1.call ?_
      repeat' (first | (with_reducible refine Sq.go ?_) | ((with_reducible refine Ev.mk ?_); conv => whnf) | (with_reducible refine Dr.mk ⟨by kernel_rfl, by kernel_rfl⟩ ?_) | ((with_reducible refine Ob.mk (by (first | exact rfl | assumption | omega | (intro h0; simp only [h0]; with_unfolding_all exact rfl) | (intro h1 h0; simp only [h0]; with_unfolding_all exact rfl) | (intros; first | assumption | (with_unfolding_all exact rfl) | omega | (simp only [oadd_eq, Int.toNat_natCast] <;> omega) | (simp only [in64, List.length_nil, List.length_cons] <;> omega) | (simp only [bsl, beq_iff_eq, bne_iff_ne, in64] at * <;> omega) | ((try simp only [Int.toNat_natCast]); exact Nat.le_trans (Nat.mul_le_mul_right _ (show _ ≤ 2000000 by omega)) (by with_unfolding_all decide)) | (simp_all; done)))) ?_)) | (with_reducible refine Ob.mk ?_ ?_) | ((with_reducible refine Br.mk (fun h => ?_) (fun h => ?_)) <;> (try simp only [bsl, beq_iff_eq, bne_iff_ne] at h) <;> (try simp only [not_true_eq_false, not_false_eq_true, false_or, or_false, true_and, and_true] at h) <;> (try exact absurd h (by decide)) <;> (try contradiction) <;> (try (exfalso; omega)) <;> (try (simp only [not_true_eq_false, or_self, eq_self, not_false_eq_true, Int.reduceEq, reduceCtorEq] at h; done))))
      refine c2.call ?_
      repeat' (first | (with_reducible refine Sq.go ?_) | ((with_reducible refine Ev.mk ?_); conv => whnf) | (with_reducible refine Dr.mk ⟨by kernel_rfl, by kernel_rfl⟩ ?_) | ((with_reducible refine Ob.mk (by (first | exact rfl | assumption | omega | (intro h0; simp only [h0]; with_unfolding_all exact rfl) | (intro h1 h0; simp only [h0]; with_unfolding_all exact rfl) | (intros; first | assumption | (with_unfolding_all exact rfl) | omega | (simp only [oadd_eq, Int.toNat_natCast] <;> omega) | (simp only [in64, List.length_nil, List.length_cons] <;> omega) | (simp only [bsl, beq_iff_eq, bne_iff_ne, in64] at * <;> omega) | ((try simp only [Int.toNat_natCast]); exact Nat.le_trans (Nat.mul_le_mul_right _ (show _ ≤ 2000000 by omega)) (by with_unfolding_all decide)) | (simp_all; done)))) ?_)) | (with_reducible refine Ob.mk ?_ ?_) | ((with_reducible refine Br.mk (fun h => ?_) (fun h => ?_)) <;> (try simp only [bsl, beq_iff_eq, bne_iff_ne] at h) <;> (try simp only [not_true_eq_false, not_false_eq_true, false_or, or_false, true_and, and_true] at h) <;> (try exact absurd h (by decide)) <;> (try contradiction) <;> (try (exfalso; omega)) <;> (try (simp only [not_true_eq_false, or_self, eq_self, not_false_eq_true, Int.reduceEq, reduceCtorEq] at h; done))))
      refine c3.call ?_
      repeat' (first | (with_reducible refine Sq.go ?_) | ((with_reducible refine Ev.mk ?_); conv => whnf) | (with_reducible refine Dr.mk ⟨by kernel_rfl, by kernel_rfl⟩ ?_) | ((with_reducible refine Ob.mk (by (first | exact rfl | assumption | omega | (intro h0; simp only [h0]; with_unfolding_all exact rfl) | (intro h1 h0; simp only [h0]; with_unfolding_all exact rfl) | (intros; first | assumption | (with_unfolding_all exact rfl) | omega | (simp only [oadd_eq, Int.toNat_natCast] <;> omega) | (simp only [in64, List.length_nil, List.length_cons] <;> omega) | (simp only [bsl, beq_iff_eq, bne_iff_ne, in64] at * <;> omega) | ((try simp only [Int.toNat_natCast]); exact Nat.le_trans (Nat.mul_le_mul_right _ (show _ ≤ 2000000 by omega)) (by with_unfolding_all decide)) | (simp_all; done)))) ?_)) | (with_reducible refine Ob.mk ?_ ?_) | ((with_reducible refine Br.mk (fun h => ?_) (fun h => ?_)) <;> (try simp only [bsl, beq_iff_eq, bne_iff_ne] at h) <;> (try simp only [not_true_eq_false, not_false_eq_true, false_or, or_false, true_and, and_true] at h) <;> (try exact absurd h (by decide)) <;> (try contradiction) <;> (try (exfalso; omega)) <;> (try (simp only [not_true_eq_false, or_self, eq_self, not_false_eq_true, Int.reduceEq, reduceCtorEq] at h; done))))
      refine c4.call ?_
      repeat' (first | (with_reducible refine Sq.go ?_) | ((with_reducible refine Ev.mk ?_); conv => whnf) | (with_reducible refine Dr.mk ⟨by kernel_rfl, by kernel_rfl⟩ ?_) | ((with_reducible refine Ob.mk (by (first | exact rfl | assumption | omega | (intro h0; simp only [h0]; with_unfolding_all exact rfl) | (intro h1 h0; simp only [h0]; with_unfolding_all exact rfl) | (intros; first | assumption | (with_unfolding_all exact rfl) | omega | (simp only [oadd_eq, Int.toNat_natCast] <;> omega) | (simp only [in64, List.length_nil, List.length_cons] <;> omega) | (simp only [bsl, beq_iff_eq, bne_iff_ne, in64] at * <;> omega) | ((try simp only [Int.toNat_natCast]); exact Nat.le_trans (Nat.mul_le_mul_right _ (show _ ≤ 2000000 by omega)) (by with_unfolding_all decide)) | (simp_all; done)))) ?_)) | (with_reducible refine Ob.mk ?_ ?_) | ((with_reducible refine Br.mk (fun h => ?_) (fun h => ?_)) <;> (try simp only [bsl, beq_iff_eq, bne_iff_ne] at h) <;> (try simp only [not_true_eq_false, not_false_eq_true, false_or, or_false, true_and, and_true] at h) <;> (try exact absurd h (by decide)) <;> (try contradiction) <;> (try (exfalso; omega)) <;> (try (simp only [not_true_eq_false, or_self, eq_self, not_false_eq_true, Int.reduceEq, reduceCtorEq] at h; done))))
      refine c5.call ?_
      repeat' (first | (with_reducible refine Sq.go ?_) | ((with_reducible refine Ev.mk ?_); conv => whnf) | (with_reducible refine Dr.mk ⟨by kernel_rfl, by kernel_rfl⟩ ?_) | ((with_reducible refine Ob.mk (by (first | exact rfl | assumption | omega | (intro h0; simp only [h0]; with_unfolding_all exact rfl) | (intro h1 h0; simp only [h0]; with_unfolding_all exact rfl) | (intros; first | assumption | (with_unfolding_all exact rfl) | omega | (simp only [oadd_eq, Int.toNat_natCast] <;> omega) | (simp only [in64, List.length_nil, List.length_cons] <;> omega) | (simp only [bsl, beq_iff_eq, bne_iff_ne, in64] at * <;> omega) | ((try simp only [Int.toNat_natCast]); exact Nat.le_trans (Nat.mul_le_mul_right _ (show _ ≤ 2000000 by omega)) (by with_unfolding_all decide)) | (simp_all; done)))) ?_)) | (with_reducible refine Ob.mk ?_ ?_) | ((with_reducible refine Br.mk (fun h => ?_) (fun h => ?_)) <;> (try simp only [bsl, beq_iff_eq, bne_iff_ne] at h) <;> (try simp only [not_true_eq_false, not_false_eq_true, false_or, or_false, true_and, and_true] at h) <;> (try exact absurd h (by decide)) <;> (try contradiction) <;> (try (exfalso; omega)) <;> (try (simp only [not_true_eq_false, or_self, eq_self, not_false_eq_true, Int.reduceEq, reduceCtorEq] at h; done))))
      refine c6.call ?_
      repeat' (first | (with_reducible refine Sq.go ?_) | ((with_reducible refine Ev.mk ?_); conv => whnf) | (with_reducible refine Dr.mk ⟨by kernel_rfl, by kernel_rfl⟩ ?_) | ((with_reducible refine Ob.mk (by (first | exact rfl | assumption | omega | (intro h0; simp only [h0]; with_unfolding_all exact rfl) | (intro h1 h0; simp only [h0]; with_unfolding_all exact rfl) | (intros; first | assumption | (with_unfolding_all exact rfl) | omega | (simp only [oadd_eq, Int.toNat_natCast] <;> omega) | (simp only [in64, List.length_nil, List.length_cons] <;> omega) | (simp only [bsl, beq_iff_eq, bne_iff_ne, in64] at * <;> omega) | ((try simp only [Int.toNat_natCast]); exact Nat.le_trans (Nat.mul_le_mul_right _ (show _ ≤ 2000000 by omega)) (by with_unfolding_all decide)) | (simp_all; done)))) ?_)) | (with_reducible refine Ob.mk ?_ ?_) | ((with_reducible refine Br.mk (fun h => ?_) (fun h => ?_)) <;> (try simp only [bsl, beq_iff_eq, bne_iff_ne] at h) <;> (try simp only [not_true_eq_false, not_false_eq_true, false_or, or_false, true_and, and_true] at h) <;> (try exact absurd h (by decide)) <;> (try contradiction) <;> (try (exfalso; omega)) <;> (try (simp only [not_true_eq_false, or_self, eq_self, not_false_eq_true, Int.reduceEq, reduceCtorEq] at h; done))))
      refine c7.call ?_
      repeat' (first | (with_reducible refine Sq.go ?_) | ((with_reducible refine Ev.mk ?_); conv => whnf) | (with_reducible refine Dr.mk ⟨by kernel_rfl, by kernel_rfl⟩ ?_) | ((with_reducible refine Ob.mk (by (first | exact rfl | assumption | omega | (intro h0; simp only [h0]; with_unfolding_all exact rfl) | (intro h1 h0; simp only [h0]; with_unfolding_all exact rfl) | (intros; first | assumption | (with_unfolding_all exact rfl) | omega | (simp only [oadd_eq, Int.toNat_natCast] <;> omega) | (simp only [in64, List.length_nil, List.length_cons] <;> omega) | (simp only [bsl, beq_iff_eq, bne_iff_ne, in64] at * <;> omega) | ((try simp only [Int.toNat_natCast]); exact Nat.le_trans (Nat.mul_le_mul_right _ (show _ ≤ 2000000 by omega)) (by with_unfolding_all decide)) | (simp_all; done)))) ?_)) | (with_reducible refine Ob.mk ?_ ?_) | ((with_reducible refine Br.mk (fun h => ?_) (fun h => ?_)) <;> (try simp only [bsl, beq_iff_eq, bne_iff_ne] at h) <;> (try simp only [not_true_eq_false, not_false_eq_true, false_or, or_false, true_and, and_true] at h) <;> (try exact absurd h (by decide)) <;> (try contradiction) <;> (try (exfalso; omega)) <;> (try (simp only [not_true_eq_false, or_self, eq_self, not_false_eq_true, Int.reduceEq, reduceCtorEq] at h; done))))
      · exfalso
        have hn' : decide ((0 : Int) < (p.length : Int)) = np := by rw [← hnp]; simp
        rw [hn'] at h
        simp at h
      refine loop_rule hT (S := Nat × Bool) (fun st => ([(0, .d (eSecs l)), (4, .ptr (.loc 0) 0 0 0), (7, .d (.bool (decide (s.term = t.term) && v))), (13, .d (eMeets p)), (15, .d (eMeets q)), (17, .ptr (.loc 2) 0 0 0), (19, .ptr (.loc 3) 0 0 0), (21, .d (.bool st.2)), (22, .d (.int .i64 st.1))],
          ⟨[some (.box 24 (up (eBun a))), none, some (.box 34 (up (eSec s))), some (.box 34 (up (eSec t)))], []⟩)) (fun st => st.1 ≤ p.length ∧ st.2 = (p.take st.1).any (fun m => q.any (mover m))) (fun st => p.length - st.1) (0, false) ?_ ?_ ?_
      · repeat' (first | exact True.intro | exact rfl | exact Nat.le_refl _ | refine And.intro ?_ ?_)
      · exact ⟨Nat.zero_le _, rfl⟩
      · rintro ⟨k, c⟩ ⟨hk, hc⟩
        dsimp only at hk hc
        by_cases hk2 : k < p.length
        · repeat' (first | (with_reducible refine Sq.go ?_) | ((with_reducible refine Ev.mk ?_); conv => whnf) | (with_reducible refine Dr.mk ⟨by kernel_rfl, by kernel_rfl⟩ ?_) | ((with_reducible refine Ob.mk (by (first | exact rfl | assumption | omega | (intro h0; simp only [h0]; with_unfolding_all exact rfl) | (intro h1 h0; simp only [h0]; with_unfolding_all exact rfl) | (intros; first | assumption | (with_unfolding_all exact rfl) | omega | (simp only [oadd_eq, Int.toNat_natCast] <;> omega) | (simp only [in64, List.length_nil, List.length_cons] <;> omega) | (simp only [bsl, beq_iff_eq, bne_iff_ne, in64] at * <;> omega) | ((try simp only [Int.toNat_natCast]); exact Nat.le_trans (Nat.mul_le_mul_right _ (show _ ≤ 2000000 by omega)) (by with_unfolding_all decide)) | (simp_all; done)))) ?_)) | (with_reducible refine Ob.mk ?_ ?_) | ((with_reducible refine Br.mk (fun h => ?_) (fun h => ?_)) <;> (try simp only [bsl, beq_iff_eq, bne_iff_ne] at h) <;> (try simp only [not_true_eq_false, not_false_eq_true, false_or, or_false, true_and, and_true] at h) <;> (try exact absurd h (by decide)) <;> (try contradiction) <;> (try (exfalso; omega)) <;> (try (simp only [not_true_eq_false, or_self, eq_self, not_false_eq_true, Int.reduceEq, reduceCtorEq] at h; done))))
          refine loop_rule hT (S := Nat × Bool) (fun st => ([(0, .d (eSecs l)), (4, .ptr (.loc 0) 0 0 0), (7, .d (.bool (decide (s.term = t.term) && v))), (13, .d (eMeets p)), (15, .d (eMeets q)), (17, .ptr (.loc 2) 0 0 0), (19, .ptr (.loc 3) 0 0 0), (21, .d (.bool st.2)), (22, .d (.int .i64 k)), (23, .d (.int .i64 st.1))],
              ⟨[some (.box 24 (up (eBun a))), none, some (.box 34 (up (eSec s))), some (.box 34 (up (eSec t)))], []⟩)) (fun st => st.1 ≤ q.length ∧ st.2 = (c || (q.take st.1).any (mover (p.getD k default)))) (fun st => q.length - st.1) (0, c) ?_ ?_ ?_
          · repeat' (first | exact True.intro | exact rfl | exact Nat.le_refl _ | refine And.intro ?_ ?_)
          · exact ⟨Nat.zero_le _, by simp⟩
          · rintro ⟨n, d⟩ ⟨hn, hd⟩
            dsimp only at hn hd
            by_cases hn2 : n < q.length
            · have kk := key k hk2 n hn2
              have hta := take_any hn2 (mover (p.getD k default))
              obtain ⟨mv, hmv⟩ : ∃ mv, mover (p.getD k default) (q.getD n default) = mv := ⟨_, rfl⟩
              rw [hmv] at kk hta
              have ff : (d || mv) = (c || (q.take (n + 1)).any (mover (p.getD k default))) := by rw [hta, ← Bool.or_assoc, ← hd]
              clear hta hmv hd
              repeat' (first | (with_reducible refine Sq.go ?_) | ((with_reducible refine Ev.mk ?_); conv => whnf) | (with_reducible refine Dr.mk ⟨by kernel_rfl, by kernel_rfl⟩ ?_) | ((with_reducible refine Ob.mk (by (first | exact rfl | assumption | omega | (intro h0; simp only [h0]; with_unfolding_all exact rfl) | (intro h1 h0; simp only [h0]; with_unfolding_all exact rfl) | (intros; first | assumption | (with_unfolding_all exact rfl) | omega | (simp only [oadd_eq, Int.toNat_natCast] <;> omega) | (simp only [in64, List.length_nil, List.length_cons] <;> omega) | (simp only [bsl, beq_iff_eq, bne_iff_ne, in64] at * <;> omega) | ((try simp only [Int.toNat_natCast]); exact Nat.le_trans (Nat.mul_le_mul_right _ (show _ ≤ 2000000 by omega)) (by with_unfolding_all decide)) | (simp_all; done)))) ?_)) | (with_reducible refine Ob.mk ?_ ?_) | ((with_reducible refine Br.mk (fun h => ?_) (fun h => ?_)) <;> (try simp only [bsl, beq_iff_eq, bne_iff_ne] at h) <;> (try simp only [not_true_eq_false, not_false_eq_true, false_or, or_false, true_and, and_true] at h) <;> (try exact absurd h (by decide)) <;> (try contradiction) <;> (try (exfalso; omega)) <;> (try (simp only [not_true_eq_false, or_self, eq_self, not_false_eq_true, Int.reduceEq, reduceCtorEq] at h; done))))
              refine qC (deqP (ds := [.sl 5 _ _, .sl 5 _ _]) kk ⟨deq_one p k, deq_one q n, True.intro⟩) ?_
              repeat' (first | (with_reducible refine Sq.go ?_) | ((with_reducible refine Ev.mk ?_); conv => whnf) | (with_reducible refine Dr.mk ⟨by kernel_rfl, by kernel_rfl⟩ ?_) | ((with_reducible refine Ob.mk (by (first | exact rfl | assumption | omega | (intro h0; simp only [h0]; with_unfolding_all exact rfl) | (intro h1 h0; simp only [h0]; with_unfolding_all exact rfl) | (intros; first | assumption | (with_unfolding_all exact rfl) | omega | (simp only [oadd_eq, Int.toNat_natCast] <;> omega) | (simp only [in64, List.length_nil, List.length_cons] <;> omega) | (simp only [bsl, beq_iff_eq, bne_iff_ne, in64] at * <;> omega) | ((try simp only [Int.toNat_natCast]); exact Nat.le_trans (Nat.mul_le_mul_right _ (show _ ≤ 2000000 by omega)) (by with_unfolding_all decide))))) ?_)) | (with_reducible refine Ob.mk ?_ ?_) | ((with_reducible refine Br.mk (fun h => ?_) (fun h => ?_)) <;> (try simp only [bsl, beq_iff_eq, bne_iff_ne] at h) <;> (try simp only [not_true_eq_false, not_false_eq_true, false_or, or_false, true_and, and_true] at h) <;> (try exact absurd h (by decide)) <;> (try contradiction) <;> (try (exfalso; omega)) <;> (try (simp only [not_true_eq_false, or_self, eq_self, not_false_eq_true, Int.reduceEq, reduceCtorEq] at h; done))))
              · intro h1
                show (!d) = true
                rw [show d = false from h1]
                rfl
              refine ⟨(n + 1, bif d then true else mv), ⟨by show n + 1 ≤ q.length; omega, by show (bif d then true else mv) = _; rw [← ff]; cases d <;> rfl⟩, by show q.length - (n + 1) < q.length - n; omega, ?_⟩
              repeat' (first | exact True.intro | exact rfl | exact Nat.le_refl _ | refine And.intro ?_ ?_)
            · repeat' (first | (with_reducible refine Sq.go ?_) | ((with_reducible refine Ev.mk ?_); conv => whnf) | (with_reducible refine Dr.mk ⟨by kernel_rfl, by kernel_rfl⟩ ?_) | ((with_reducible refine Ob.mk (by (first | exact rfl | assumption | omega | (intro h0; simp only [h0]; with_unfolding_all exact rfl) | (intro h1 h0; simp only [h0]; with_unfolding_all exact rfl) | (intros; first | assumption | (with_unfolding_all exact rfl) | omega | (simp only [oadd_eq, Int.toNat_natCast] <;> omega) | (simp only [in64, List.length_nil, List.length_cons] <;> omega) | (simp only [bsl, beq_iff_eq, bne_iff_ne, in64] at * <;> omega) | ((try simp only [Int.toNat_natCast]); exact Nat.le_trans (Nat.mul_le_mul_right _ (show _ ≤ 2000000 by omega)) (by with_unfolding_all decide)) | (simp_all; done)))) ?_)) | (with_reducible refine Ob.mk ?_ ?_) | ((with_reducible refine Br.mk (fun h => ?_) (fun h => ?_)) <;> (try simp only [bsl, beq_iff_eq, bne_iff_ne] at h) <;> (try simp only [not_true_eq_false, not_false_eq_true, false_or, or_false, true_and, and_true] at h) <;> (try exact absurd h (by decide)) <;> (try contradiction) <;> (try (exfalso; omega)) <;> (try (simp only [not_true_eq_false, or_self, eq_self, not_false_eq_true, Int.reduceEq, reduceCtorEq] at h; done))))
              refine ⟨(k + 1, d), ⟨by show k + 1 ≤ p.length; omega, by show d = _; rw [hd, take_any hk2, ← hc, show n = q.length by omega, List.take_length]⟩, by show p.length - (k + 1) < p.length - k; omega, ?_⟩
              repeat' (first | exact True.intro | exact rfl | exact Nat.le_refl _ | refine And.intro ?_ ?_)
        · have hk3 : k = p.length := by omega
          subst hk3
          rw [List.take_length] at hc
          have hcv : c = v := by rw [hc, ← hv]; rfl
          subst hcv
          clear hc hv hvp hvq key hpn hqn hp hq hnp
          by_cases hla : a.lab = -1
          · cases c
            · repeat' (first | (with_reducible refine Sq.go ?_) | ((with_reducible refine Ev.mk ?_); conv => whnf) | (with_reducible refine Dr.mk ⟨by kernel_rfl, by kernel_rfl⟩ ?_) | ((with_reducible refine Ob.mk (by (first | exact rfl | assumption | omega | (intro h0; simp only [h0]; with_unfolding_all exact rfl) | (intro h1 h0; simp only [h0]; with_unfolding_all exact rfl) | (intros; first | assumption | (with_unfolding_all exact rfl) | omega | (simp only [oadd_eq, Int.toNat_natCast] <;> omega) | (simp only [in64, List.length_nil, List.length_cons] <;> omega) | (simp only [bsl, beq_iff_eq, bne_iff_ne, in64] at * <;> omega) | ((try simp only [Int.toNat_natCast]); exact Nat.le_trans (Nat.mul_le_mul_right _ (show _ ≤ 2000000 by omega)) (by with_unfolding_all decide)) | (simp_all; done)))) ?_)) | (with_reducible refine Ob.mk ?_ ?_) | ((with_reducible refine Br.mk (fun h => ?_) (fun h => ?_)) <;> (try simp only [bsl, beq_iff_eq, bne_iff_ne] at h) <;> (try simp only [not_true_eq_false, not_false_eq_true, false_or, or_false, true_and, and_true] at h) <;> (try exact absurd h (by decide)) <;> (try contradiction) <;> (try (exfalso; omega)) <;> (try (simp only [not_true_eq_false, or_self, eq_self, not_false_eq_true, Int.reduceEq, reduceCtorEq] at h; done))))
              refine ⟨congrArg D.bool ?_, True.intro⟩
              simp
            · repeat' (first | (with_reducible refine Sq.go ?_) | ((with_reducible refine Ev.mk ?_); conv => whnf) | (with_reducible refine Dr.mk ⟨by kernel_rfl, by kernel_rfl⟩ ?_) | ((with_reducible refine Ob.mk (by (first | exact rfl | assumption | omega | (intro h0; simp only [h0]; with_unfolding_all exact rfl) | (intro h1 h0; simp only [h0]; with_unfolding_all exact rfl) | (intros; first | assumption | (with_unfolding_all exact rfl) | omega | (simp only [oadd_eq, Int.toNat_natCast] <;> omega) | (simp only [in64, List.length_nil, List.length_cons] <;> omega) | (simp only [bsl, beq_iff_eq, bne_iff_ne, in64] at * <;> omega) | ((try simp only [Int.toNat_natCast]); exact Nat.le_trans (Nat.mul_le_mul_right _ (show _ ≤ 2000000 by omega)) (by with_unfolding_all decide)) | (simp_all; done)))) ?_)) | (with_reducible refine Ob.mk ?_ ?_) | ((with_reducible refine Br.mk (fun h => ?_) (fun h => ?_)) <;> (try simp only [bsl, beq_iff_eq, bne_iff_ne] at h) <;> (try simp only [not_true_eq_false, not_false_eq_true, false_or, or_false, true_and, and_true] at h) <;> (try exact absurd h (by decide)) <;> (try contradiction) <;> (try (exfalso; omega)) <;> (try (simp only [not_true_eq_false, or_self, eq_self, not_false_eq_true, Int.reduceEq, reduceCtorEq] at h; done))))
              refine ⟨congrArg D.bool ?_, True.intro⟩
              simp
          · obtain ⟨y, hy1, hy2, hy3, hy4⟩ := hlab hla
            have c8 := find_some hln hy1
            have hmy := (few_at hl (findS_id hy1).2).2.2
            have c9 := mclash_ok s.meets y.meets hms hmy
            rw [hy3, hy4] at c9
            clear hlab hy1 hy3 hy4
            cases c
            · repeat' (first | (with_reducible refine Sq.go ?_) | ((with_reducible refine Ev.mk ?_); conv => whnf) | (with_reducible refine Dr.mk ⟨by kernel_rfl, by kernel_rfl⟩ ?_) | ((with_reducible refine Ob.mk (by (first | exact rfl | assumption | omega | (intro h0; simp only [h0]; with_unfolding_all exact rfl) | (intro h1 h0; simp only [h0]; with_unfolding_all exact rfl) | (intros; first | assumption | (with_unfolding_all exact rfl) | omega | (simp only [oadd_eq, Int.toNat_natCast] <;> omega) | (simp only [in64, List.length_nil, List.length_cons] <;> omega) | (simp only [bsl, beq_iff_eq, bne_iff_ne, in64] at * <;> omega) | ((try simp only [Int.toNat_natCast]); exact Nat.le_trans (Nat.mul_le_mul_right _ (show _ ≤ 2000000 by omega)) (by with_unfolding_all decide)) | (simp_all; done)))) ?_)) | (with_reducible refine Ob.mk ?_ ?_) | ((with_reducible refine Br.mk (fun h => ?_) (fun h => ?_)) <;> (try simp only [bsl, beq_iff_eq, bne_iff_ne] at h) <;> (try simp only [not_true_eq_false, not_false_eq_true, false_or, or_false, true_and, and_true] at h) <;> (try exact absurd h (by decide)) <;> (try contradiction) <;> (try (exfalso; omega)) <;> (try (simp only [not_true_eq_false, or_self, eq_self, not_false_eq_true, Int.reduceEq, reduceCtorEq] at h; done))))
              refine c8.call ?_
              repeat' (first | (with_reducible refine Sq.go ?_) | ((with_reducible refine Ev.mk ?_); conv => whnf) | (with_reducible refine Dr.mk ⟨by kernel_rfl, by kernel_rfl⟩ ?_) | ((with_reducible refine Ob.mk (by (first | exact rfl | assumption | omega | (intro h0; simp only [h0]; with_unfolding_all exact rfl) | (intro h1 h0; simp only [h0]; with_unfolding_all exact rfl) | (intros; first | assumption | (with_unfolding_all exact rfl) | omega | (simp only [oadd_eq, Int.toNat_natCast] <;> omega) | (simp only [in64, List.length_nil, List.length_cons] <;> omega) | (simp only [bsl, beq_iff_eq, bne_iff_ne, in64] at * <;> omega) | ((try simp only [Int.toNat_natCast]); exact Nat.le_trans (Nat.mul_le_mul_right _ (show _ ≤ 2000000 by omega)) (by with_unfolding_all decide)) | (simp_all; done)))) ?_)) | (with_reducible refine Ob.mk ?_ ?_) | ((with_reducible refine Br.mk (fun h => ?_) (fun h => ?_)) <;> (try simp only [bsl, beq_iff_eq, bne_iff_ne] at h) <;> (try simp only [not_true_eq_false, not_false_eq_true, false_or, or_false, true_and, and_true] at h) <;> (try exact absurd h (by decide)) <;> (try contradiction) <;> (try (exfalso; omega)) <;> (try (simp only [not_true_eq_false, or_self, eq_self, not_false_eq_true, Int.reduceEq, reduceCtorEq] at h; done))))
              refine c9.call ?_
              repeat' (first | (with_reducible refine Sq.go ?_) | ((with_reducible refine Ev.mk ?_); conv => whnf) | (with_reducible refine Dr.mk ⟨by kernel_rfl, by kernel_rfl⟩ ?_) | ((with_reducible refine Ob.mk (by (first | exact rfl | assumption | omega | (intro h0; simp only [h0]; with_unfolding_all exact rfl) | (intro h1 h0; simp only [h0]; with_unfolding_all exact rfl) | (intros; first | assumption | (with_unfolding_all exact rfl) | omega | (simp only [oadd_eq, Int.toNat_natCast] <;> omega) | (simp only [in64, List.length_nil, List.length_cons] <;> omega) | (simp only [bsl, beq_iff_eq, bne_iff_ne, in64] at * <;> omega) | ((try simp only [Int.toNat_natCast]); exact Nat.le_trans (Nat.mul_le_mul_right _ (show _ ≤ 2000000 by omega)) (by with_unfolding_all decide)) | (simp_all; done)))) ?_)) | (with_reducible refine Ob.mk ?_ ?_) | ((with_reducible refine Br.mk (fun h => ?_) (fun h => ?_)) <;> (try simp only [bsl, beq_iff_eq, bne_iff_ne] at h) <;> (try simp only [not_true_eq_false, not_false_eq_true, false_or, or_false, true_and, and_true] at h) <;> (try exact absurd h (by decide)) <;> (try contradiction) <;> (try (exfalso; omega)) <;> (try (simp only [not_true_eq_false, or_self, eq_self, not_false_eq_true, Int.reduceEq, reduceCtorEq] at h; done))))
              · exfalso
                simp [hy2] at h
              refine ⟨congrArg D.bool ?_, True.intro⟩
              simp
            · repeat' (first | (with_reducible refine Sq.go ?_) | ((with_reducible refine Ev.mk ?_); conv => whnf) | (with_reducible refine Dr.mk ⟨by kernel_rfl, by kernel_rfl⟩ ?_) | ((with_reducible refine Ob.mk (by (first | exact rfl | assumption | omega | (intro h0; simp only [h0]; with_unfolding_all exact rfl) | (intro h1 h0; simp only [h0]; with_unfolding_all exact rfl) | (intros; first | assumption | (with_unfolding_all exact rfl) | omega | (simp only [oadd_eq, Int.toNat_natCast] <;> omega) | (simp only [in64, List.length_nil, List.length_cons] <;> omega) | (simp only [bsl, beq_iff_eq, bne_iff_ne, in64] at * <;> omega) | ((try simp only [Int.toNat_natCast]); exact Nat.le_trans (Nat.mul_le_mul_right _ (show _ ≤ 2000000 by omega)) (by with_unfolding_all decide)) | (simp_all; done)))) ?_)) | (with_reducible refine Ob.mk ?_ ?_) | ((with_reducible refine Br.mk (fun h => ?_) (fun h => ?_)) <;> (try simp only [bsl, beq_iff_eq, bne_iff_ne] at h) <;> (try simp only [not_true_eq_false, not_false_eq_true, false_or, or_false, true_and, and_true] at h) <;> (try exact absurd h (by decide)) <;> (try contradiction) <;> (try (exfalso; omega)) <;> (try (simp only [not_true_eq_false, or_self, eq_self, not_false_eq_true, Int.reduceEq, reduceCtorEq] at h; done))))
              refine c8.call ?_
              repeat' (first | (with_reducible refine Sq.go ?_) | ((with_reducible refine Ev.mk ?_); conv => whnf) | (with_reducible refine Dr.mk ⟨by kernel_rfl, by kernel_rfl⟩ ?_) | ((with_reducible refine Ob.mk (by (first | exact rfl | assumption | omega | (intro h0; simp only [h0]; with_unfolding_all exact rfl) | (intro h1 h0; simp only [h0]; with_unfolding_all exact rfl) | (intros; first | assumption | (with_unfolding_all exact rfl) | omega | (simp only [oadd_eq, Int.toNat_natCast] <;> omega) | (simp only [in64, List.length_nil, List.length_cons] <;> omega) | (simp only [bsl, beq_iff_eq, bne_iff_ne, in64] at * <;> omega) | ((try simp only [Int.toNat_natCast]); exact Nat.le_trans (Nat.mul_le_mul_right _ (show _ ≤ 2000000 by omega)) (by with_unfolding_all decide)) | (simp_all; done)))) ?_)) | (with_reducible refine Ob.mk ?_ ?_) | ((with_reducible refine Br.mk (fun h => ?_) (fun h => ?_)) <;> (try simp only [bsl, beq_iff_eq, bne_iff_ne] at h) <;> (try simp only [not_true_eq_false, not_false_eq_true, false_or, or_false, true_and, and_true] at h) <;> (try exact absurd h (by decide)) <;> (try contradiction) <;> (try (exfalso; omega)) <;> (try (simp only [not_true_eq_false, or_self, eq_self, not_false_eq_true, Int.reduceEq, reduceCtorEq] at h; done))))
              refine c9.call ?_
              repeat' (first | (with_reducible refine Sq.go ?_) | ((with_reducible refine Ev.mk ?_); conv => whnf) | (with_reducible refine Dr.mk ⟨by kernel_rfl, by kernel_rfl⟩ ?_) | ((with_reducible refine Ob.mk (by (first | exact rfl | assumption | omega | (intro h0; simp only [h0]; with_unfolding_all exact rfl) | (intro h1 h0; simp only [h0]; with_unfolding_all exact rfl) | (intros; first | assumption | (with_unfolding_all exact rfl) | omega | (simp only [oadd_eq, Int.toNat_natCast] <;> omega) | (simp only [in64, List.length_nil, List.length_cons] <;> omega) | (simp only [bsl, beq_iff_eq, bne_iff_ne, in64] at * <;> omega) | ((try simp only [Int.toNat_natCast]); exact Nat.le_trans (Nat.mul_le_mul_right _ (show _ ≤ 2000000 by omega)) (by with_unfolding_all decide)) | (simp_all; done)))) ?_)) | (with_reducible refine Ob.mk ?_ ?_) | ((with_reducible refine Br.mk (fun h => ?_) (fun h => ?_)) <;> (try simp only [bsl, beq_iff_eq, bne_iff_ne] at h) <;> (try simp only [not_true_eq_false, not_false_eq_true, false_or, or_false, true_and, and_true] at h) <;> (try exact absurd h (by decide)) <;> (try contradiction) <;> (try (exfalso; omega)) <;> (try (simp only [not_true_eq_false, or_self, eq_self, not_false_eq_true, Int.reduceEq, reduceCtorEq] at h; done))))
              · exfalso
                simp [hy2] at h
              refine ⟨congrArg D.bool ?_, True.intro⟩
              simp
    · have hne : ¬ (clE l a b = 0) ∧ ¬ (clE l b a = 0) := by
        unfold clE
        by_cases h1 : bchk l a = 0
        · have h2 : ¬ bchk l b = 0 := fun h => hz ⟨h1, h⟩
          rw [if_pos h1, if_neg h2]
          exact ⟨h2, h2⟩
        · by_cases h2 : bchk l b = 0
          · rw [if_neg h1, if_pos h2]
            exact ⟨h1, h1⟩
          · rw [if_neg h1, if_neg h2]
            exact ⟨h1, h2⟩
      have v1 : clB l a b = false := by rw [clB, decide_eq_false hne.1, Bool.false_and]
      have v2 : clB l b a = false := by rw [clB, decide_eq_false hne.2, Bool.false_and]
      obtain ⟨h1, h2⟩ := hne
      rw [v1] at c1
      rw [v2] at c2
      revert c1 c2 h1 h2
      generalize clE l a b = e1
      generalize clE l b a = e2
      intro c1 c2 h1 h2
      repeat' (first | (with_reducible refine Sq.go ?_) | ((with_reducible refine Ev.mk ?_); conv => whnf) | (with_reducible refine Dr.mk ⟨by kernel_rfl, by kernel_rfl⟩ ?_) | ((with_reducible refine Ob.mk (by (first | exact rfl | assumption | omega | (intro h0; simp only [h0]; with_unfolding_all exact rfl) | (intro h1 h0; simp only [h0]; with_unfolding_all exact rfl) | (intros; first | assumption | (with_unfolding_all exact rfl) | omega | (simp only [oadd_eq, Int.toNat_natCast] <;> omega) | (simp only [in64, List.length_nil, List.length_cons] <;> omega) | (simp only [bsl, beq_iff_eq, bne_iff_ne, in64] at * <;> omega) | ((try simp only [Int.toNat_natCast]); exact Nat.le_trans (Nat.mul_le_mul_right _ (show _ ≤ 2000000 by omega)) (by with_unfolding_all decide)) | (simp_all; done)))) ?_)) | (with_reducible refine Ob.mk ?_ ?_) | ((with_reducible refine Br.mk (fun h => ?_) (fun h => ?_)) <;> (try simp only [bsl, beq_iff_eq, bne_iff_ne] at h) <;> (try simp only [not_true_eq_false, not_false_eq_true, false_or, or_false, true_and, and_true] at h) <;> (try exact absurd h (by decide)) <;> (try contradiction) <;> (try (exfalso; omega)) <;> (try (simp only [not_true_eq_false, or_self, eq_self, not_false_eq_true, Int.reduceEq, reduceCtorEq] at h; done))))
      refine sane_ok.call ?_
      repeat' (first | (with_reducible refine Sq.go ?_) | ((with_reducible refine Ev.mk ?_); conv => whnf) | (with_reducible refine Dr.mk ⟨by kernel_rfl, by kernel_rfl⟩ ?_) | ((with_reducible refine Ob.mk (by (first | exact rfl | assumption | omega | (intro h0; simp only [h0]; with_unfolding_all exact rfl) | (intro h1 h0; simp only [h0]; with_unfolding_all exact rfl) | (intros; first | assumption | (with_unfolding_all exact rfl) | omega | (simp only [oadd_eq, Int.toNat_natCast] <;> omega) | (simp only [in64, List.length_nil, List.length_cons] <;> omega) | (simp only [bsl, beq_iff_eq, bne_iff_ne, in64] at * <;> omega) | ((try simp only [Int.toNat_natCast]); exact Nat.le_trans (Nat.mul_le_mul_right _ (show _ ≤ 2000000 by omega)) (by with_unfolding_all decide)) | (simp_all; done)))) ?_)) | (with_reducible refine Ob.mk ?_ ?_) | ((with_reducible refine Br.mk (fun h => ?_) (fun h => ?_)) <;> (try simp only [bsl, beq_iff_eq, bne_iff_ne] at h) <;> (try simp only [not_true_eq_false, not_false_eq_true, false_or, or_false, true_and, and_true] at h) <;> (try exact absurd h (by decide)) <;> (try contradiction) <;> (try (exfalso; omega)) <;> (try (simp only [not_true_eq_false, or_self, eq_self, not_false_eq_true, Int.reduceEq, reduceCtorEq] at h; done))))
      refine hF.call ?_
      repeat' (first | (with_reducible refine Sq.go ?_) | ((with_reducible refine Ev.mk ?_); conv => whnf) | (with_reducible refine Dr.mk ⟨by kernel_rfl, by kernel_rfl⟩ ?_) | ((with_reducible refine Ob.mk (by (first | exact rfl | assumption | omega | (intro h0; simp only [h0]; with_unfolding_all exact rfl) | (intro h1 h0; simp only [h0]; with_unfolding_all exact rfl) | (intros; first | assumption | (with_unfolding_all exact rfl) | omega | (simp only [oadd_eq, Int.toNat_natCast] <;> omega) | (simp only [in64, List.length_nil, List.length_cons] <;> omega) | (simp only [bsl, beq_iff_eq, bne_iff_ne, in64] at * <;> omega) | ((try simp only [Int.toNat_natCast]); exact Nat.le_trans (Nat.mul_le_mul_right _ (show _ ≤ 2000000 by omega)) (by with_unfolding_all decide)) | (simp_all; done)))) ?_)) | (with_reducible refine Ob.mk ?_ ?_) | ((with_reducible refine Br.mk (fun h => ?_) (fun h => ?_)) <;> (try simp only [bsl, beq_iff_eq, bne_iff_ne] at h) <;> (try simp only [not_true_eq_false, not_false_eq_true, false_or, or_false, true_and, and_true] at h) <;> (try exact absurd h (by decide)) <;> (try contradiction) <;> (try (exfalso; omega)) <;> (try (simp only [not_true_eq_false, or_self, eq_self, not_false_eq_true, Int.reduceEq, reduceCtorEq] at h; done))))
      refine c1.call ?_
      repeat' (first | (with_reducible refine Sq.go ?_) | ((with_reducible refine Ev.mk ?_); conv => whnf) | (with_reducible refine Dr.mk ⟨by kernel_rfl, by kernel_rfl⟩ ?_) | ((with_reducible refine Ob.mk (by (first | exact rfl | assumption | omega | (intro h0; simp only [h0]; with_unfolding_all exact rfl) | (intro h1 h0; simp only [h0]; with_unfolding_all exact rfl) | (intros; first | assumption | (with_unfolding_all exact rfl) | omega | (simp only [oadd_eq, Int.toNat_natCast] <;> omega) | (simp only [in64, List.length_nil, List.length_cons] <;> omega) | (simp only [bsl, beq_iff_eq, bne_iff_ne, in64] at * <;> omega) | ((try simp only [Int.toNat_natCast]); exact Nat.le_trans (Nat.mul_le_mul_right _ (show _ ≤ 2000000 by omega)) (by with_unfolding_all decide)) | (simp_all; done)))) ?_)) | (with_reducible refine Ob.mk ?_ ?_) | ((with_reducible refine Br.mk (fun h => ?_) (fun h => ?_)) <;> (try simp only [bsl, beq_iff_eq, bne_iff_ne] at h) <;> (try simp only [not_true_eq_false, not_false_eq_true, false_or, or_false, true_and, and_true] at h) <;> (try exact absurd h (by decide)) <;> (try contradiction) <;> (try (exfalso; omega)) <;> (try (simp only [not_true_eq_false, or_self, eq_self, not_false_eq_true, Int.reduceEq, reduceCtorEq] at h; done))))
      refine c2.call ?_
      repeat' (first | (with_reducible refine Sq.go ?_) | ((with_reducible refine Ev.mk ?_); conv => whnf) | (with_reducible refine Dr.mk ⟨by kernel_rfl, by kernel_rfl⟩ ?_) | ((with_reducible refine Ob.mk (by (first | exact rfl | assumption | omega | (intro h0; simp only [h0]; with_unfolding_all exact rfl) | (intro h1 h0; simp only [h0]; with_unfolding_all exact rfl) | (intros; first | assumption | (with_unfolding_all exact rfl) | omega | (simp only [oadd_eq, Int.toNat_natCast] <;> omega) | (simp only [in64, List.length_nil, List.length_cons] <;> omega) | (simp only [bsl, beq_iff_eq, bne_iff_ne, in64] at * <;> omega) | ((try simp only [Int.toNat_natCast]); exact Nat.le_trans (Nat.mul_le_mul_right _ (show _ ≤ 2000000 by omega)) (by with_unfolding_all decide)) | (simp_all; done)))) ?_)) | (with_reducible refine Ob.mk ?_ ?_) | ((with_reducible refine Br.mk (fun h => ?_) (fun h => ?_)) <;> (try simp only [bsl, beq_iff_eq, bne_iff_ne] at h) <;> (try simp only [not_true_eq_false, not_false_eq_true, false_or, or_false, true_and, and_true] at h) <;> (try exact absurd h (by decide)) <;> (try contradiction) <;> (try (exfalso; omega)) <;> (try (simp only [not_true_eq_false, or_self, eq_self, not_false_eq_true, Int.reduceEq, reduceCtorEq] at h; done))))
      refine ⟨congrArg D.bool ?_, True.intro⟩
      simp [h1, h2]
end Go.Proofs.YteamiepijajjdaaDoor
