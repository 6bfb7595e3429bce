/-
  Bundles: Of, walked.
-/
import Derived.Test.YteamiepijajjdaaDoorBunF
namespace Go.Proofs.YteamiepijajjdaaDoor
set_option linter.unusedSimpArgs false
set_option linter.unusedVariables false
open Go Go.Ab
set_option maxRecDepth 100000
set_option maxHeartbeats 0
theorem nf' {b : Bool} (h : b = true) : ¬ b = false := by rw [h]; simp
theorem nt' {b : Bool} (h : b = false) : ¬ b = true := by rw [h]; simp
def metM (pre : List Sec) : List Int → Bool := fun q => pre.any fun s => decide (q = [s.id])
theorem metM_any (pre : List Sec) (n : Int) : metM pre [n] = pre.any fun p => decide (p.id = n) := by
  unfold metM
  congr 1
  funext s
  rw [Bool.eq_iff_iff]
  simp [eq_comm]
theorem metM_snoc (pre : List Sec) (s : Sec) (q : List Int) : metM (pre ++ [s]) q = (decide (q = [s.id]) || metM pre q) := by
  simp [metM, Bool.or_comm]
theorem metM_same {pre : List Sec} {s : Sec} (h : metM pre [s.id] = true) (q : List Int) : metM pre q = metM (pre ++ [s]) q := by
  rw [metM_snoc]
  by_cases e : q = [s.id]
  · rw [e, h]; simp
  · simp [e]
theorem of_ok (l : List Sec) (hl : fewS l) (taken : List Seat) (ht : taken.length ≤ 1000) (st term : Int) : Pure Tryd.prog 22 [eSecs l, eSeats taken, .int .i64 st, .int .i64 term] [eBuns (ofB l taken st term)] := by
  refine pure_rule hT (T := tab) (N := 84) (rs := [.tmp 8]) Tryd.func22 rfl rfl rfl (by kernel_rfl) rfl ?_
  have hln := hl.1
  repeat' (first | (with_reducible refine Sq.go ?_) | ((with_reducible refine Ev.mk ?_); conv => whnf) | (with_reducible refine Dr.mk ⟨by kernel_rfl, by kernel_rfl⟩ ?_) | ((with_reducible refine Ob.mk (by (first | exact rfl | assumption | omega | (intro h0; simp only [h0]; with_unfolding_all exact rfl) | (intro h1 h0; simp only [h0]; with_unfolding_all exact rfl) | (intros; first | assumption | (with_unfolding_all exact rfl) | omega | (simp only [oadd_eq, Int.toNat_natCast] <;> omega) | (simp only [in64, List.length_nil, List.length_cons] <;> omega) | (simp only [bsl, beq_iff_eq, bne_iff_ne, in64] at * <;> omega) | ((try simp only [Int.toNat_natCast]); exact Nat.le_trans (Nat.mul_le_mul_right _ (show _ ≤ 2000000 by omega)) (by with_unfolding_all decide)) | (simp_all; done)))) ?_)) | (with_reducible refine Ob.mk ?_ ?_) | ((with_reducible refine Br.mk (fun h => ?_) (fun h => ?_)) <;> (try simp only [bsl, beq_iff_eq, bne_iff_ne] at h) <;> (try simp only [not_true_eq_false, not_false_eq_true, false_or, or_false, true_and, and_true] at h) <;> (try exact absurd h (by decide)) <;> (try contradiction) <;> (try (exfalso; omega)) <;> (try (simp only [not_true_eq_false, or_self, eq_self, not_false_eq_true, Int.reduceEq, reduceCtorEq] at h; done))))
  refine loop_rule hT (S := Nat) (fun k => ([(0, .d (eSecs l)), (2, .d (.int .i64 st)), (3, .d (.int .i64 term)), (8, .d .nils), (9, .ptr (.loc 1) 0 0 0), (18, .d (eSeats taken)), (19, .d (.int .i64 taken.length)), (20, .d (.int .i64 k))],
      ⟨[some (.map (.one .i64) (ownM (taken.take k) st) fun q => .d (.bool (ownM (taken.take k) st q))), some (.box 53 [.mp (.loc 0)])], []⟩)) (fun k => k ≤ taken.length) (fun k => taken.length - k) 0 ?_ ?_ ?_
  · repeat' (first | exact True.intro | exact rfl | exact Nat.le_refl _ | refine And.intro ?_ ?_)
    all_goals (intro q hq; exact ⟨rfl, fun h => ⟨rfl, rfl⟩⟩)
  · exact Nat.zero_le _
  · intro k hk
    by_cases hk2 : k < taken.length
    · have hs : ∀ q, ownM (taken.take (k + 1)) st q = (ownM (taken.take k) st q || (decide ((taken.getD k default).student = st) && decide (q = [(taken.getD k default).sec]))) := fun q => by rw [take_succ_at hk2, ownM_snoc]
      repeat' (first | (with_reducible refine Sq.go ?_) | ((with_reducible refine Ev.mk ?_); conv => whnf) | (with_reducible refine Dr.mk ⟨by kernel_rfl, by kernel_rfl⟩ ?_) | ((with_reducible refine Ob.mk (by (first | exact rfl | assumption | omega | (intro h0; simp only [h0]; with_unfolding_all exact rfl) | (intro h1 h0; simp only [h0]; with_unfolding_all exact rfl) | (intros; first | assumption | (with_unfolding_all exact rfl) | omega | (simp only [oadd_eq, Int.toNat_natCast] <;> omega) | (simp only [in64, List.length_nil, List.length_cons] <;> omega) | (simp only [bsl, beq_iff_eq, bne_iff_ne, in64] at * <;> omega) | ((try simp only [Int.toNat_natCast]); exact Nat.le_trans (Nat.mul_le_mul_right _ (show _ ≤ 2000000 by omega)) (by with_unfolding_all decide)) | (simp_all; done)))) ?_)) | (with_reducible refine Ob.mk ?_ ?_) | ((with_reducible refine Br.mk (fun h => ?_) (fun h => ?_)) <;> (try simp only [bsl, beq_iff_eq, bne_iff_ne] at h) <;> (try simp only [not_true_eq_false, not_false_eq_true, false_or, or_false, true_and, and_true] at h) <;> (try exact absurd h (by decide)) <;> (try contradiction) <;> (try (exfalso; omega)) <;> (try (simp only [not_true_eq_false, or_self, eq_self, not_false_eq_true, Int.reduceEq, reduceCtorEq] at h; done))))
      · refine ⟨k + 1, by show k + 1 ≤ taken.length; omega, by show taken.length - (k + 1) < taken.length - k; omega, ?_⟩
        have hd : decide ((taken.getD k default).student = st) = true := decide_eq_true h
        repeat' (first | exact True.intro | exact rfl | exact Nat.le_refl _ | refine And.intro ?_ ?_)
        all_goals
          intro q hq
          have e1 : (decide (q = [(taken.getD k default).sec]) || ownM (taken.take k) st q) = ownM (taken.take (k + 1)) st q := by rw [hs, hd, Bool.true_and, Bool.or_comm]
          refine ⟨e1, fun _ => ⟨?_, rfl⟩⟩
          show (bif decide (q = [(taken.getD k default).sec]) then AV.d (.bool true) else AV.d (.bool (ownM (taken.take k) st q))) = AV.d (.bool (ownM (taken.take (k + 1)) st q))
          rw [← e1]
          cases decide (q = [(taken.getD k default).sec]) <;> rfl
      · refine ⟨k + 1, by show k + 1 ≤ taken.length; omega, by show taken.length - (k + 1) < taken.length - k; omega, ?_⟩
        have hd : decide ((taken.getD k default).student = st) = false := decide_eq_false h
        repeat' (first | exact True.intro | exact rfl | exact Nat.le_refl _ | refine And.intro ?_ ?_)
        all_goals
          intro q hq
          have e1 : ownM (taken.take k) st q = ownM (taken.take (k + 1)) st q := by rw [hs, hd, Bool.false_and, Bool.or_false]
          exact ⟨e1, fun _ => ⟨congrArg (fun b => AV.d (D.bool b)) e1, rfl⟩⟩
    · have hk3 : k = taken.length := by omega
      subst hk3
      rw [List.take_length]
      repeat' (first | (with_reducible refine Sq.go ?_) | ((with_reducible refine Ev.mk ?_); conv => whnf) | (with_reducible refine Dr.mk ⟨by kernel_rfl, by kernel_rfl⟩ ?_) | ((with_reducible refine Ob.mk (by (first | exact rfl | assumption | omega | (intro h0; simp only [h0]; with_unfolding_all exact rfl) | (intro h1 h0; simp only [h0]; with_unfolding_all exact rfl) | (intros; first | assumption | (with_unfolding_all exact rfl) | omega | (simp only [oadd_eq, Int.toNat_natCast] <;> omega) | (simp only [in64, List.length_nil, List.length_cons] <;> omega) | (simp only [bsl, beq_iff_eq, bne_iff_ne, in64] at * <;> omega) | ((try simp only [Int.toNat_natCast]); exact Nat.le_trans (Nat.mul_le_mul_right _ (show _ ≤ 2000000 by omega)) (by with_unfolding_all decide)) | (simp_all; done)))) ?_)) | (with_reducible refine Ob.mk ?_ ?_) | ((with_reducible refine Br.mk (fun h => ?_) (fun h => ?_)) <;> (try simp only [bsl, beq_iff_eq, bne_iff_ne] at h) <;> (try simp only [not_true_eq_false, not_false_eq_true, false_or, or_false, true_and, and_true] at h) <;> (try exact absurd h (by decide)) <;> (try contradiction) <;> (try (exfalso; omega)) <;> (try (simp only [not_true_eq_false, or_self, eq_self, not_false_eq_true, Int.reduceEq, reduceCtorEq] at h; done))))
      refine Awp.vec 8 24 2 (fun i => up (eBun (([] : List Bun).getD i default))) rfl ?_
      refine loop_rule hT (S := Nat) (fun k => ([(3, .d (.int .i64 term)), (8, .osl (.loc 3) (cands taken st term [] (l.take k)).length 0 (cands taken st term [] (l.take k)).length), (9, .ptr (.loc 1) 0 0 0), (12, .mp (.loc 2)), (33, .d (eSecs l)), (34, .d (.int .i64 l.length)), (35, .d (.int .i64 k))],
          ⟨[some (.map (.one .i64) (ownM taken st) fun q => .d (.bool (ownM taken st q))), some (.box 53 [.mp (.loc 0)]), some (.map (.one .i64) (metM (l.take k)) fun q => .d (.bool (metM (l.take k) q))),
            some (.vec 24 2 (cands taken st term [] (l.take k)).length (cands taken st term [] (l.take k)).length fun i => up (eBun ((cands taken st term [] (l.take k)).getD i default)))], []⟩)) (fun k => k ≤ l.length) (fun k => l.length - k) 0 ?_ ?_ ?_
      · repeat' (first | exact True.intro | exact rfl | exact Nat.le_refl _ | refine And.intro ?_ ?_)
        all_goals first
          | (intro q hq; exact ⟨rfl, fun h => ⟨rfl, rfl⟩⟩)
          | (intro i hi; exact ⟨rfl, rfl⟩)
      · exact Nat.zero_le _
      · intro k hk
        by_cases hk2 : k < l.length
        · have hts := take_succ_at (xs := l) (k := k) hk2
          obtain ⟨hx1, hx2, hx3⟩ := few_at hl (getD_mem hk2)
          have hcs : cands taken st term [] (l.take (k + 1)) = cands taken st term [] (l.take k) ++ (if ((l.take k).any fun p => decide (p.id = (l.getD k default).id)) = false ∧ wantS taken st term (l.getD k default) = true then [⟨(l.getD k default).id, labOf taken st (l.getD k default)⟩] else []) := by rw [hts, cands_snoc, List.nil_append]
          have hcl : (cands taken st term [] (l.take k)).length ≤ 1000 := by
            have := cands_len taken st term (l.take k) []
            rw [List.length_take] at this
            omega
          by_cases hmet : metM (l.take k) [(l.getD k default).id] = true
          · have hc2 : cands taken st term [] (l.take (k + 1)) = cands taken st term [] (l.take k) := by
              rw [hcs, if_neg (fun h => by rw [← metM_any, hmet] at h; cases h.1), List.append_nil]
            have hms := metM_same hmet
            rw [← hts] at hms
            have hmet2 := nf' hmet
            repeat' (first | (with_reducible refine Sq.go ?_) | ((with_reducible refine Ev.mk ?_); conv => whnf) | (with_reducible refine Dr.mk ⟨by kernel_rfl, by kernel_rfl⟩ ?_) | ((with_reducible refine Ob.mk (by (first | exact rfl | assumption | omega | (intro h0; simp only [h0]; with_unfolding_all exact rfl) | (intro h1 h0; simp only [h0]; with_unfolding_all exact rfl) | (intros; first | assumption | (with_unfolding_all exact rfl) | omega | (simp only [oadd_eq, Int.toNat_natCast] <;> omega) | (simp only [in64, List.length_nil, List.length_cons] <;> omega) | (simp only [bsl, beq_iff_eq, bne_iff_ne, in64] at * <;> omega) | ((try simp only [Int.toNat_natCast]); exact Nat.le_trans (Nat.mul_le_mul_right _ (show _ ≤ 2000000 by omega)) (by with_unfolding_all decide)) | (simp_all; done)))) ?_)) | (with_reducible refine Ob.mk ?_ ?_) | ((with_reducible refine Br.mk (fun h => ?_) (fun h => ?_)) <;> (try simp only [bsl, beq_iff_eq, bne_iff_ne] at h) <;> (try simp only [not_true_eq_false, not_false_eq_true, false_or, or_false, true_and, and_true] at h) <;> (try exact absurd h (by decide)) <;> (try contradiction) <;> (try (exfalso; omega)) <;> (try (simp only [not_true_eq_false, or_self, eq_self, not_false_eq_true, Int.reduceEq, reduceCtorEq] at h; done))))
            refine ⟨k + 1, by show k + 1 ≤ l.length; omega, by show l.length - (k + 1) < l.length - k; omega, ?_⟩
            dsimp only
            rw [hc2]
            repeat' (first | exact True.intro | exact rfl | exact Nat.le_refl _ | refine And.intro ?_ ?_)
            all_goals first
              | (intro q hq; exact ⟨hms q, fun _ => ⟨congrArg (fun b => AV.d (D.bool b)) (hms q), rfl⟩⟩)
              | (intro q hq; exact ⟨rfl, fun h => ⟨rfl, rfl⟩⟩)
              | (intro i hi; exact ⟨rfl, rfl⟩)
          · have hmet2 : metM (l.take k) [(l.getD k default).id] = false := by simpa using hmet
            have hms : ∀ q, metM (l.take (k + 1)) q = (decide (q = [(l.getD k default).id]) || metM (l.take k) q) := fun q => by rw [hts, metM_snoc]
            have hmm : ∀ q, (bif decide (q = [(l.getD k default).id]) then AV.d (.bool true) else AV.d (.bool (metM (l.take k) q))) = AV.d (.bool (metM (l.take (k + 1)) q)) := fun q => by
              rw [hms]
              cases decide (q = [(l.getD k default).id]) <;> rfl
            have hany : ((l.take k).any fun p => decide (p.id = (l.getD k default).id)) = false := by rw [← metM_any, hmet2]
            by_cases hw : wantS taken st term (l.getD k default) = true
            · have hc2 : cands taken st term [] (l.take (k + 1)) = cands taken st term [] (l.take k) ++ [⟨(l.getD k default).id, labOf taken st (l.getD k default)⟩] := by
                rw [hcs, if_pos ⟨hany, hw⟩]
              have hw' := hw
              simp only [wantS, Bool.and_eq_true, decide_eq_true_eq, Bool.not_eq_true'] at hw'
              obtain ⟨w1, w2, w3⟩ := hw'
              rw [← ownM_tk] at w3
              have w2' := nt' w2
              have w3' := nf' w3
              obtain ⟨hp, hn⟩ := ix_find (fun n => tk taken st n) (l.getD k default).labs 0
              obtain ⟨hlt, hge⟩ := ix_lt (fun n => tk taken st n) (l.getD k default).labs 0 (by decide)
              simp only [Int.natCast_zero, Int.zero_add, Nat.sub_zero] at hp hn hlt
              have hI := idxInt1_ok (l.getD k default).labs (by omega) 38 (.pt [eOwnM taken st] 0) (fun n => tk taken st n) (fun n _ => of1_ok taken st n)
              obtain ⟨i, hi⟩ : ∃ i, ix (fun n => tk taken st n) (l.getD k default).labs 0 = i := ⟨_, rfl⟩
              rw [hi] at hp hn hlt hge hI
              have hl1 := len_snoc (cands taken st term [] (l.take k)) (⟨(l.getD k default).id, labOf taken st (l.getD k default)⟩ : Bun)
              by_cases hi0 : i < 0
              · have hlo : labOf taken st (l.getD k default) = -1 := by rw [labOf, hn hi0]; rfl
                rw [hlo] at hc2 hl1
                repeat' (first | (with_reducible refine Sq.go ?_) | ((with_reducible refine Ev.mk ?_); conv => whnf) | (with_reducible refine Dr.mk ⟨by kernel_rfl, by kernel_rfl⟩ ?_) | ((with_reducible refine Ob.mk (by (first | exact rfl | assumption | omega | (intro h0; simp only [h0]; with_unfolding_all exact rfl) | (intro h1 h0; simp only [h0]; with_unfolding_all exact rfl) | (intros; first | assumption | (with_unfolding_all exact rfl) | omega | (simp only [oadd_eq, Int.toNat_natCast] <;> omega) | (simp only [in64, List.length_nil, List.length_cons] <;> omega) | (simp only [bsl, beq_iff_eq, bne_iff_ne, in64] at * <;> omega) | ((try simp only [Int.toNat_natCast]); exact Nat.le_trans (Nat.mul_le_mul_right _ (show _ ≤ 2000000 by omega)) (by with_unfolding_all decide)) | (simp_all; done)))) ?_)) | (with_reducible refine Ob.mk ?_ ?_) | ((with_reducible refine Br.mk (fun h => ?_) (fun h => ?_)) <;> (try simp only [bsl, beq_iff_eq, bne_iff_ne] at h) <;> (try simp only [not_true_eq_false, not_false_eq_true, false_or, or_false, true_and, and_true] at h) <;> (try exact absurd h (by decide)) <;> (try contradiction) <;> (try (exfalso; omega)) <;> (try (simp only [not_true_eq_false, or_self, eq_self, not_false_eq_true, Int.reduceEq, reduceCtorEq] at h; done))))
                · exfalso
                  rcases h with (h | h) | h
                  · exact h w1
                  · exact w2' h
                  · exact w3' h
                refine hI.loan rfl ⟨.d, .fn' True.intro ⟨.ptr' rfl ⟨.mp rfl (fun _ _ => .d), True.intro⟩, True.intro⟩, True.intro⟩ ?_
                repeat' (first | (with_reducible refine Sq.go ?_) | ((with_reducible refine Ev.mk ?_); conv => whnf) | (with_reducible refine Dr.mk ⟨by kernel_rfl, by kernel_rfl⟩ ?_) | ((with_reducible refine Ob.mk (by (first | exact rfl | assumption | omega | (intro h0; simp only [h0]; with_unfolding_all exact rfl) | (intro h1 h0; simp only [h0]; with_unfolding_all exact rfl) | (intros; first | assumption | (with_unfolding_all exact rfl) | omega | (simp only [oadd_eq, Int.toNat_natCast] <;> omega) | (simp only [in64, List.length_nil, List.length_cons] <;> omega) | (simp only [bsl, beq_iff_eq, bne_iff_ne, in64] at * <;> omega) | ((try simp only [Int.toNat_natCast]); exact Nat.le_trans (Nat.mul_le_mul_right _ (show _ ≤ 2000000 by omega)) (by with_unfolding_all decide)) | (simp_all; done)))) ?_)) | (with_reducible refine Ob.mk ?_ ?_) | ((with_reducible refine Br.mk (fun h => ?_) (fun h => ?_)) <;> (try simp only [bsl, beq_iff_eq, bne_iff_ne] at h) <;> (try simp only [not_true_eq_false, not_false_eq_true, false_or, or_false, true_and, and_true] at h) <;> (try exact absurd h (by decide)) <;> (try contradiction) <;> (try (exfalso; omega)) <;> (try (simp only [not_true_eq_false, or_self, eq_self, not_false_eq_true, Int.reduceEq, reduceCtorEq] at h; done))))
                refine ⟨k + 1, by show k + 1 ≤ l.length; omega, by show l.length - (k + 1) < l.length - k; omega, ?_⟩
                dsimp only
                rw [hc2, hl1]
                repeat' (first | exact True.intro | exact rfl | exact Nat.le_refl _ | refine And.intro ?_ ?_)
                all_goals first
                  | (intro q hq; exact ⟨(hms q).symm, fun _ => ⟨hmm q, rfl⟩⟩)
                  | (intro q hq; exact ⟨rfl, fun h => ⟨rfl, rfl⟩⟩)
                  | (intro i hi; rw [← hl1] at hi; exact ⟨join_snoc eBun _ _ _ rfl i hi, rfl⟩)
              · have hlo : labOf taken st (l.getD k default) = (l.getD k default).labs.getD i.toNat default := by rw [labOf, (hp (by omega)).1]; rfl
                rw [hlo] at hc2 hl1
                repeat' (first | (with_reducible refine Sq.go ?_) | ((with_reducible refine Ev.mk ?_); conv => whnf) | (with_reducible refine Dr.mk ⟨by kernel_rfl, by kernel_rfl⟩ ?_) | ((with_reducible refine Ob.mk (by (first | exact rfl | assumption | omega | (intro h0; simp only [h0]; with_unfolding_all exact rfl) | (intro h1 h0; simp only [h0]; with_unfolding_all exact rfl) | (intros; first | assumption | (with_unfolding_all exact rfl) | omega | (simp only [oadd_eq, Int.toNat_natCast] <;> omega) | (simp only [in64, List.length_nil, List.length_cons] <;> omega) | (simp only [bsl, beq_iff_eq, bne_iff_ne, in64] at * <;> omega) | ((try simp only [Int.toNat_natCast]); exact Nat.le_trans (Nat.mul_le_mul_right _ (show _ ≤ 2000000 by omega)) (by with_unfolding_all decide)) | (simp_all; done)))) ?_)) | (with_reducible refine Ob.mk ?_ ?_) | ((with_reducible refine Br.mk (fun h => ?_) (fun h => ?_)) <;> (try simp only [bsl, beq_iff_eq, bne_iff_ne] at h) <;> (try simp only [not_true_eq_false, not_false_eq_true, false_or, or_false, true_and, and_true] at h) <;> (try exact absurd h (by decide)) <;> (try contradiction) <;> (try (exfalso; omega)) <;> (try (simp only [not_true_eq_false, or_self, eq_self, not_false_eq_true, Int.reduceEq, reduceCtorEq] at h; done))))
                · exfalso
                  rcases h with (h | h) | h
                  · exact h w1
                  · exact w2' h
                  · exact w3' h
                refine hI.loan rfl ⟨.d, .fn' True.intro ⟨.ptr' rfl ⟨.mp rfl (fun _ _ => .d), True.intro⟩, True.intro⟩, True.intro⟩ ?_
                repeat' (first | (with_reducible refine Sq.go ?_) | ((with_reducible refine Ev.mk ?_); conv => whnf) | (with_reducible refine Dr.mk ⟨by kernel_rfl, by kernel_rfl⟩ ?_) | ((with_reducible refine Ob.mk (by (first | exact rfl | assumption | omega | (intro h0; simp only [h0]; with_unfolding_all exact rfl) | (intro h1 h0; simp only [h0]; with_unfolding_all exact rfl) | (intros; first | assumption | (with_unfolding_all exact rfl) | omega | (simp only [oadd_eq, Int.toNat_natCast] <;> omega) | (simp only [in64, List.length_nil, List.length_cons] <;> omega) | (simp only [bsl, beq_iff_eq, bne_iff_ne, in64] at * <;> omega) | ((try simp only [Int.toNat_natCast]); exact Nat.le_trans (Nat.mul_le_mul_right _ (show _ ≤ 2000000 by omega)) (by with_unfolding_all decide)) | (simp_all; done)))) ?_)) | (with_reducible refine Ob.mk ?_ ?_) | ((with_reducible refine Br.mk (fun h => ?_) (fun h => ?_)) <;> (try simp only [bsl, beq_iff_eq, bne_iff_ne] at h) <;> (try simp only [not_true_eq_false, not_false_eq_true, false_or, or_false, true_and, and_true] at h) <;> (try exact absurd h (by decide)) <;> (try contradiction) <;> (try (exfalso; omega)) <;> (try (simp only [not_true_eq_false, or_self, eq_self, not_false_eq_true, Int.reduceEq, reduceCtorEq] at h; done))))
                refine ⟨k + 1, by show k + 1 ≤ l.length; omega, by show l.length - (k + 1) < l.length - k; omega, ?_⟩
                dsimp only
                rw [hc2, hl1]
                repeat' (first | exact True.intro | exact rfl | exact Nat.le_refl _ | refine And.intro ?_ ?_)
                all_goals first
                  | (intro q hq; exact ⟨(hms q).symm, fun _ => ⟨hmm q, rfl⟩⟩)
                  | (intro q hq; exact ⟨rfl, fun h => ⟨rfl, rfl⟩⟩)
                  | (intro i hi; rw [← hl1] at hi; exact ⟨join_snoc eBun _ _ _ rfl i hi, rfl⟩)
            · have hc2 : cands taken st term [] (l.take (k + 1)) = cands taken st term [] (l.take k) := by
                rw [hcs, if_neg (fun h => hw h.2), List.append_nil]
              repeat' (first | (with_reducible refine Sq.go ?_) | ((with_reducible refine Ev.mk ?_); conv => whnf) | (with_reducible refine Dr.mk ⟨by kernel_rfl, by kernel_rfl⟩ ?_) | ((with_reducible refine Ob.mk (by (first | exact rfl | assumption | omega | (intro h0; simp only [h0]; with_unfolding_all exact rfl) | (intro h1 h0; simp only [h0]; with_unfolding_all exact rfl) | (intros; first | assumption | (with_unfolding_all exact rfl) | omega | (simp only [oadd_eq, Int.toNat_natCast] <;> omega) | (simp only [in64, List.length_nil, List.length_cons] <;> omega) | (simp only [bsl, beq_iff_eq, bne_iff_ne, in64] at * <;> omega) | ((try simp only [Int.toNat_natCast]); exact Nat.le_trans (Nat.mul_le_mul_right _ (show _ ≤ 2000000 by omega)) (by with_unfolding_all decide)) | (simp_all; done)))) ?_)) | (with_reducible refine Ob.mk ?_ ?_) | ((with_reducible refine Br.mk (fun h => ?_) (fun h => ?_)) <;> (try simp only [bsl, beq_iff_eq, bne_iff_ne] at h) <;> (try simp only [not_true_eq_false, not_false_eq_true, false_or, or_false, true_and, and_true] at h) <;> (try exact absurd h (by decide)) <;> (try contradiction) <;> (try (exfalso; omega)) <;> (try (simp only [not_true_eq_false, or_self, eq_self, not_false_eq_true, Int.reduceEq, reduceCtorEq] at h; done))))
              · refine ⟨k + 1, by show k + 1 ≤ l.length; omega, by show l.length - (k + 1) < l.length - k; omega, ?_⟩
                dsimp only
                rw [hc2]
                repeat' (first | exact True.intro | exact rfl | exact Nat.le_refl _ | refine And.intro ?_ ?_)
                all_goals first
                  | (intro q hq; exact ⟨(hms q).symm, fun _ => ⟨hmm q, rfl⟩⟩)
                  | (intro q hq; exact ⟨rfl, fun h => ⟨rfl, rfl⟩⟩)
                  | (intro i hi; exact ⟨rfl, rfl⟩)
              · exfalso
                apply hw
                rw [wantS, ← ownM_tk]
                simp only [Bool.and_eq_true, decide_eq_true_eq, Bool.not_eq_true']
                obtain ⟨⟨a1, a2⟩, a3⟩ := h
                exact ⟨a1, a2, a3⟩
        · have hk4 : k = l.length := by omega
          subst hk4
          have htl : l.take l.length = l := List.take_length
          have hcl : (cands taken st term [] l).length ≤ 1000 := by
            have := cands_len taken st term l []
            omega
          rw [htl]
          repeat' (first | (with_reducible refine Sq.go ?_) | ((with_reducible refine Ev.mk ?_); conv => whnf) | (with_reducible refine Dr.mk ⟨by kernel_rfl, by kernel_rfl⟩ ?_) | ((with_reducible refine Ob.mk (by (first | exact rfl | assumption | omega | (intro h0; simp only [h0]; with_unfolding_all exact rfl) | (intro h1 h0; simp only [h0]; with_unfolding_all exact rfl) | (intros; first | assumption | (with_unfolding_all exact rfl) | omega | (simp only [oadd_eq, Int.toNat_natCast] <;> omega) | (simp only [in64, List.length_nil, List.length_cons] <;> omega) | (simp only [bsl, beq_iff_eq, bne_iff_ne, in64] at * <;> omega) | ((try simp only [Int.toNat_natCast]); exact Nat.le_trans (Nat.mul_le_mul_right _ (show _ ≤ 2000000 by omega)) (by with_unfolding_all decide)) | (simp_all; done)))) ?_)) | (with_reducible refine Ob.mk ?_ ?_) | ((with_reducible refine Br.mk (fun h => ?_) (fun h => ?_)) <;> (try simp only [bsl, beq_iff_eq, bne_iff_ne] at h) <;> (try simp only [not_true_eq_false, not_false_eq_true, false_or, or_false, true_and, and_true] at h) <;> (try exact absurd h (by decide)) <;> (try contradiction) <;> (try (exfalso; omega)) <;> (try (simp only [not_true_eq_false, or_self, eq_self, not_false_eq_true, Int.reduceEq, reduceCtorEq] at h; done))))
          refine (sortBun_ok (cands taken st term [] l) (by omega) _ _).at [.loc 3] rfl ⟨rfl, True.intro⟩ (fun ts hts => ⟨rfl, ?_⟩)
          have e := sortB_uniq (cands_ne taken st term l []) hts.1 hts.2
          have e2 : ts = ofB l taken st term := e
          have hlen : ts.length = (cands taken st term [] l).length := hts.1.length_eq
          repeat' (first | (with_reducible refine Sq.go ?_) | ((with_reducible refine Ev.mk ?_); conv => whnf) | (with_reducible refine Dr.mk ⟨by kernel_rfl, by kernel_rfl⟩ ?_) | ((with_reducible refine Ob.mk (by (first | exact rfl | assumption | omega | (intro h0; simp only [h0]; with_unfolding_all exact rfl) | (intro h1 h0; simp only [h0]; with_unfolding_all exact rfl) | (intros; first | assumption | (with_unfolding_all exact rfl) | omega | (simp only [oadd_eq, Int.toNat_natCast] <;> omega) | (simp only [in64, List.length_nil, List.length_cons] <;> omega) | (simp only [bsl, beq_iff_eq, bne_iff_ne, in64] at * <;> omega) | ((try simp only [Int.toNat_natCast]); exact Nat.le_trans (Nat.mul_le_mul_right _ (show _ ≤ 2000000 by omega)) (by with_unfolding_all decide)) | (simp_all; done)))) ?_)) | (with_reducible refine Ob.mk ?_ ?_) | ((with_reducible refine Br.mk (fun h => ?_) (fun h => ?_)) <;> (try simp only [bsl, beq_iff_eq, bne_iff_ne] at h) <;> (try simp only [not_true_eq_false, not_false_eq_true, false_or, or_false, true_and, and_true] at h) <;> (try exact absurd h (by decide)) <;> (try contradiction) <;> (try (exfalso; omega)) <;> (try (simp only [not_true_eq_false, or_self, eq_self, not_false_eq_true, Int.reduceEq, reduceCtorEq] at h; done))))
          rw [← e2]
          exact ⟨⟨rfl, rfl, by rw [hlen]; omega, hlen.symm, fun i hi => by have e : 0 + i = i := Nat.zero_add i; rw [e]; rfl⟩, True.intro⟩
end Go.Proofs.YteamiepijajjdaaDoor
