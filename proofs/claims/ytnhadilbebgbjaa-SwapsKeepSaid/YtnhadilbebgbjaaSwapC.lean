/-
  Swaps: the reference's Check.
-/
import Derived.Test.YtnhadilbebgbjaaSwapB
namespace Go.Proofs.Ytnhadilbebgbjaa
set_option linter.unusedSimpArgs false
set_option linter.unusedVariables false
open Go Go.Ab
set_option maxRecDepth 100000
set_option maxHeartbeats 0
/-- Two swaps that may not stand in one list. -/
def dupS (a b : Swap) : Bool := (decide (a.campus = b.campus) && decide (a.no = b.no)) || (decide (a.student = b.student) && (decide (a.give.sec = b.give.sec) && decide (a.give.lab = b.give.lab)))
def chkW : List Swap → List Swap → Bool
  | _, [] => true
  | p, x :: r => swV x && !(p.any fun a => dupS a x) && chkW (p ++ [x]) r
def chk30 (l : List Swap) : Int := if chkW [] l = true then 0 else 300
theorem any_take_succ' {l : List Swap} {k : Nat} (hk : k < l.length) (p : Swap → Bool) : (l.take (k + 1)).any p = ((l.take k).any p || p (l.getD k default)) := by
  rw [take_succ_at hk, List.any_append, List.any_cons, List.any_nil, Bool.or_false]
theorem any_mono {l : List Swap} {i k : Nat} (hi : i ≤ k) (p : Swap → Bool) (h : (l.take i).any p = true) : (l.take k).any p = true := by
  obtain ⟨x, hx, hp⟩ := List.any_eq_true.1 h
  exact List.any_eq_true.2 ⟨x, (List.take_subset_take_left l hi) hx, hp⟩
theorem rcheck30_ok (l : List Swap) (hl : l.length ≤ 1000000) : Pure Try.prog 16 [eSwaps l] [.int .i64 (chk30 l)] := by
  refine pure_rule hT (T := tab) (N := 72) (rs := [.tmp 2]) Try.func16 rfl rfl rfl (by kernel_rfl) rfl ?_
  repeat' (first | with_reducible refine Sq.go ?_ | ((with_reducible refine Ev.mk ?_); conv => whnf) | with_reducible refine Dr.mk ⟨by kernel_rfl, by kernel_rfl⟩ ?_ | with_reducible refine obG ?_ | with_reducible refine Ob.mk ?_ ?_ | (with_reducible first | refine brT fun h => ?_ | refine brF fun h => ?_ | refine Br.mk (fun h => ?_) fun h => ?_) <;> (try simp only [bsl, beq_iff_eq, bne_iff_ne, bs2] at h) <;> (try contradiction) <;> try (exfalso; omega))
  refine loop_rule hT (S := Nat) (fun k => ([(0, .d (eSwaps l)), (3, .d (.int .i64 k))], ⟨[], []⟩)) (fun k => k ≤ l.length ∧ chkW [] l = chkW (l.take k) (l.drop k)) (fun k => l.length - k) 0 ?_ ?_ ?_
  · repeat' (first | exact True.intro | exact rfl | exact Nat.le_refl _ | refine And.intro ?_ ?_)
  · exact ⟨Nat.zero_le _, rfl⟩
  · rintro k ⟨hk, hc⟩
    by_cases hk2 : k < l.length
    · have hV := rvalid30_ok (l.getD k default)
      rw [drop_at hk2, chkW, ← take_succ_at hk2] at hc
      cases hv : swV (l.getD k default)
      · rw [hv] at hV hc
        have h3 : chk30 l = 300 := by rw [chk30, hc]; rfl
        rw [h3]
        repeat' (first | with_reducible refine Sq.go ?_ | ((with_reducible refine Ev.mk ?_); conv => whnf) | with_reducible refine Dr.mk ⟨by kernel_rfl, by kernel_rfl⟩ ?_ | with_reducible refine obG ?_ | with_reducible refine Ob.mk ?_ ?_ | (with_reducible first | refine brT fun h => ?_ | refine brF fun h => ?_ | refine Br.mk (fun h => ?_) fun h => ?_) <;> (try simp only [bsl, beq_iff_eq, bne_iff_ne, bs2] at h) <;> (try contradiction) <;> try (exfalso; omega))
        refine hV.call ?_
        repeat' (first | with_reducible refine Sq.go ?_ | ((with_reducible refine Ev.mk ?_); conv => whnf) | with_reducible refine Dr.mk ⟨by kernel_rfl, by kernel_rfl⟩ ?_ | with_reducible refine obG ?_ | with_reducible refine Ob.mk ?_ ?_ | (with_reducible first | refine brT fun h => ?_ | refine brF fun h => ?_ | refine Br.mk (fun h => ?_) fun h => ?_) <;> (try simp only [bsl, beq_iff_eq, bne_iff_ne, bs2] at h) <;> (try contradiction) <;> try (exfalso; omega))
        exact ⟨rfl, True.intro⟩
      · rw [hv] at hV hc
        rw [Bool.true_and] at hc
        repeat' (first | with_reducible refine Sq.go ?_ | ((with_reducible refine Ev.mk ?_); conv => whnf) | with_reducible refine Dr.mk ⟨by kernel_rfl, by kernel_rfl⟩ ?_ | with_reducible refine obG ?_ | with_reducible refine Ob.mk ?_ ?_ | (with_reducible first | refine brT fun h => ?_ | refine brF fun h => ?_ | refine Br.mk (fun h => ?_) fun h => ?_) <;> (try simp only [bsl, beq_iff_eq, bne_iff_ne, bs2] at h) <;> (try contradiction) <;> try (exfalso; omega))
        refine hV.call ?_
        repeat' (first | with_reducible refine Sq.go ?_ | ((with_reducible refine Ev.mk ?_); conv => whnf) | with_reducible refine Dr.mk ⟨by kernel_rfl, by kernel_rfl⟩ ?_ | with_reducible refine obG ?_ | with_reducible refine Ob.mk ?_ ?_ | (with_reducible first | refine brT fun h => ?_ | refine brF fun h => ?_ | refine Br.mk (fun h => ?_) fun h => ?_) <;> (try simp only [bsl, beq_iff_eq, bne_iff_ne, bs2] at h) <;> (try contradiction) <;> try (exfalso; omega))
        refine loop_rule hT (S := Nat) (fun i => ([(0, .d (eSwaps l)), (3, .d (.int .i64 k)), (4, .d (.int .i64 i))], ⟨[], []⟩)) (fun i => i ≤ k ∧ ((l.take i).any fun a => dupS a (l.getD k default)) = false) (fun i => k - i) 0 ?_ ?_ ?_
        · repeat' (first | exact True.intro | exact rfl | exact Nat.le_refl _ | refine And.intro ?_ ?_)
        · exact ⟨Nat.zero_le _, rfl⟩
        · rintro i ⟨hi, hn⟩
          by_cases hi2 : i < k
          · have hs := any_take_succ' (show i < l.length by omega) (fun a => dupS a (l.getD k default))
            rw [hn, Bool.false_or] at hs
            obtain ⟨dp, hdp⟩ : ∃ dp, dupS (l.getD i default) (l.getD k default) = dp := ⟨_, rfl⟩
            rw [hdp] at hs
            have hd := hdp
            unfold dupS at hd
            cases dp with
            | true =>
              have hany := any_mono (show i + 1 ≤ k by omega) (fun a => dupS a (l.getD k default)) hs
              have h3 : chk30 l = 300 := by rw [chk30, hc, hany]; rfl
              rw [h3]
              simp only [Bool.or_eq_true, Bool.and_eq_true, decide_eq_true_eq] at hd
              repeat' (first | with_reducible refine Sq.go ?_ | ((with_reducible refine Ev.mk ?_); conv => whnf) | with_reducible refine Dr.mk ⟨by kernel_rfl, by kernel_rfl⟩ ?_ | with_reducible refine obG ?_ | with_reducible refine Ob.mk ?_ ?_ | (with_reducible first | refine brT fun h => ?_ | refine brF fun h => ?_ | refine Br.mk (fun h => ?_) fun h => ?_) <;> (try simp only [bsl, beq_iff_eq, bne_iff_ne, bs2] at h) <;> (try contradiction) <;> try (exfalso; omega))
              all_goals exact ⟨rfl, True.intro⟩
            | false =>
              simp only [Bool.or_eq_false_iff, Bool.and_eq_false_iff, decide_eq_false_iff_not] at hd
              repeat' (first | with_reducible refine Sq.go ?_ | ((with_reducible refine Ev.mk ?_); conv => whnf) | with_reducible refine Dr.mk ⟨by kernel_rfl, by kernel_rfl⟩ ?_ | with_reducible refine obG ?_ | with_reducible refine Ob.mk ?_ ?_ | (with_reducible first | refine brT fun h => ?_ | refine brF fun h => ?_ | refine Br.mk (fun h => ?_) fun h => ?_) <;> (try simp only [bsl, beq_iff_eq, bne_iff_ne, bs2] at h) <;> (try contradiction) <;> try (exfalso; omega))
              all_goals
                refine ⟨i + 1, ⟨by show i + 1 ≤ k; omega, hs⟩, by show k - (i + 1) < k - i; omega, ?_⟩
                repeat' (first | exact True.intro | exact rfl | exact Nat.le_refl _ | refine And.intro ?_ ?_)
          · have : i = k := by omega
            subst this
            rw [hn, Bool.not_false, Bool.true_and] at hc
            repeat' (first | with_reducible refine Sq.go ?_ | ((with_reducible refine Ev.mk ?_); conv => whnf) | with_reducible refine Dr.mk ⟨by kernel_rfl, by kernel_rfl⟩ ?_ | with_reducible refine obG ?_ | with_reducible refine Ob.mk ?_ ?_ | (with_reducible first | refine brT fun h => ?_ | refine brF fun h => ?_ | refine Br.mk (fun h => ?_) fun h => ?_) <;> (try simp only [bsl, beq_iff_eq, bne_iff_ne, bs2] at h) <;> (try contradiction) <;> try (exfalso; omega))
            refine ⟨i + 1, ⟨by show i + 1 ≤ l.length; omega, hc⟩, by show l.length - (i + 1) < l.length - i; omega, ?_⟩
            repeat' (first | exact True.intro | exact rfl | exact Nat.le_refl _ | refine And.intro ?_ ?_)
    · rw [drop_end (by omega), chkW] at hc
      have h3 : chk30 l = 0 := by rw [chk30, hc]; rfl
      rw [h3]
      repeat' (first | with_reducible refine Sq.go ?_ | ((with_reducible refine Ev.mk ?_); conv => whnf) | with_reducible refine Dr.mk ⟨by kernel_rfl, by kernel_rfl⟩ ?_ | with_reducible refine obG ?_ | with_reducible refine Ob.mk ?_ ?_ | (with_reducible first | refine brT fun h => ?_ | refine brF fun h => ?_ | refine Br.mk (fun h => ?_) fun h => ?_) <;> (try simp only [bsl, beq_iff_eq, bne_iff_ne, bs2] at h) <;> (try contradiction) <;> try (exfalso; omega))
      exact ⟨rfl, True.intro⟩
end Go.Proofs.Ytnhadilbebgbjaa
