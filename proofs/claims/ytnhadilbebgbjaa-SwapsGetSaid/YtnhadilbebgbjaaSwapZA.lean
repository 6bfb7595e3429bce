/-
  Swaps: the next one, by the reference.
-/
import Derived.Test.YtnhadilbebgbjaaSwapZ
namespace Go.Proofs.Ytnhadilbebgbjaa
set_option linter.unusedSimpArgs false
set_option linter.unusedVariables false
open Go Go.Ab
set_option maxRecDepth 100000
set_option maxHeartbeats 0
theorem nfold_occ (l : List Swap) (d : Int → Option Int) (i k : Nat) : nfold d i (occ (giveK l) (takeK l i) (k + 1)) = if giveK l k = takeK l i ∧ ¬ k = i then nstep d (nfold d i (occ (giveK l) (takeK l i) k)) k else nfold d i (occ (giveK l) (takeK l i) k) := by
  rw [show occ (giveK l) (takeK l i) (k + 1) = if giveK l k = takeK l i then occ (giveK l) (takeK l i) k ++ [(k : Int)] else occ (giveK l) (takeK l i) k from rfl]
  by_cases h1 : giveK l k = takeK l i
  · rw [if_pos h1, nfold_snoc]
    by_cases h2 : k = i
    · rw [if_pos (by omega), if_neg (fun h => h.2 h2)]
    · rw [if_neg (by omega), if_pos ⟨h1, h2⟩]
  · rw [if_neg h1, if_neg (fun h => h1 h.1)]
theorem rnext_ok (l : List Swap) (hl : l.length ≤ 1000) (d : Int → Option Int) (hd : ∀ x m, d x = some m → 0 ≤ m ∧ m ≤ l.length) (i : Nat) (hi : i < l.length) : Pure Try.prog 40 [eSwaps l, eDs l d, .int .i64 i] [.int .i64 (nextS l d i)] := by
  refine pure_rule hT (T := tab) (N := 57) (rs := [.tmp 6]) Try.func40 rfl rfl rfl (by kernel_rfl) rfl ?_
  have hF := far_ok l hl
  repeat' (first | with_reducible refine Sq.go ?_ | ((with_reducible refine Ev.mk ?_); conv => whnf) | with_reducible refine Dr.mk ⟨by kernel_rfl, by kernel_rfl⟩ ?_ | with_reducible refine obG ?_ | with_reducible refine Ob.mk ?_ ?_ | (with_reducible first | refine brT fun h => ?_ | refine brF fun h => ?_ | refine Br.mk (fun h => ?_) fun h => ?_) <;> (try simp only [bsl, beq_iff_eq, bne_iff_ne, bs2] at h) <;> (try contradiction) <;> try (exfalso; omega))
  refine loop_rule hT (S := Nat) (fun k => ([(0, .d (eSwaps l)), (1, .d (eDs l d)), (2, .d (.int .i64 i)), (7, .d (.int .i64 (nfold d i (occ (giveK l) (takeK l i) k)))), (8, .d (.int .i64 k))], ⟨[], []⟩))
    (fun k => k ≤ l.length ∧ (nfold d i (occ (giveK l) (takeK l i) k) < 0 ∨ ∃ b mb : Nat, nfold d i (occ (giveK l) (takeK l i) k) = b ∧ b < l.length ∧ d b = some (mb : Int))) (fun k => l.length - k) 0 ?_ ?_ ?_
  · repeat' (first | exact True.intro | exact rfl | exact Nat.le_refl _ | refine And.intro ?_ ?_)
  · exact ⟨Nat.zero_le _, .inl (show (-1 : Int) < 0 by decide)⟩
  · rintro k ⟨hk, hb⟩
    dsimp only at hk hb ⊢
    by_cases hk2 : k < l.length
    · have hnx := nfold_occ l d i k
      obtain ⟨best, hbe⟩ : ∃ best, nfold d i (occ (giveK l) (takeK l i) k) = best := ⟨_, rfl⟩
      rw [hbe] at hb hnx ⊢
      by_cases c1 : k = i
      · rw [if_neg (fun h => h.2 c1)] at hnx
        have c1' : (k : Int) = i := by omega
        repeat' (first | with_reducible refine Sq.go ?_ | ((with_reducible refine Ev.mk ?_); conv => whnf) | with_reducible refine Dr.mk ⟨by kernel_rfl, by kernel_rfl⟩ ?_ | with_reducible refine obG ?_ | with_reducible refine Ob.mk ?_ ?_ | (with_reducible first | refine brT fun h => ?_ | refine brF fun h => ?_ | refine Br.mk (fun h => ?_) fun h => ?_) <;> (try simp only [bsl, beq_iff_eq, bne_iff_ne, bs2] at h) <;> (try contradiction) <;> try (exfalso; omega))
        refine ⟨k + 1, ⟨by show k + 1 ≤ l.length; omega, by rw [hnx]; exact hb⟩, by show l.length - (k + 1) < l.length - k; omega, ?_⟩
        dsimp only
        rw [hnx]
        repeat' (first | exact True.intro | exact rfl | exact Nat.le_refl _ | refine And.intro ?_ ?_)
      by_cases c2 : giveK l k = takeK l i
      rotate_left
      · rw [if_neg (fun h => c2 h.1)] at hnx
        have t0 : ¬ ((l.getD i default).take.sec = (l.getD k default).give.sec ∧ (l.getD i default).take.lab = (l.getD k default).give.lab) := fun h => c2 (by unfold takeK giveK; rw [h.1, h.2])
        repeat' (first | with_reducible refine Sq.go ?_ | ((with_reducible refine Ev.mk ?_); conv => whnf) | with_reducible refine Dr.mk ⟨by kernel_rfl, by kernel_rfl⟩ ?_ | with_reducible refine obG ?_ | with_reducible refine Ob.mk ?_ ?_ | (with_reducible first | refine brT fun h => ?_ | refine brF fun h => ?_ | refine Br.mk (fun h => ?_) fun h => ?_) <;> (try simp only [bsl, beq_iff_eq, bne_iff_ne, bs2] at h) <;> (try contradiction) <;> try (exfalso; omega))
        refine ⟨k + 1, ⟨by show k + 1 ≤ l.length; omega, by rw [hnx]; exact hb⟩, by show l.length - (k + 1) < l.length - k; omega, ?_⟩
        dsimp only
        rw [hnx]
        repeat' (first | exact True.intro | exact rfl | exact Nat.le_refl _ | refine And.intro ?_ ?_)
      rw [if_pos ⟨c2, c1⟩] at hnx
      obtain ⟨t1, t2⟩ : (l.getD i default).take.sec = (l.getD k default).give.sec ∧ (l.getD i default).take.lab = (l.getD k default).give.lab := by
        unfold takeK giveK at c2
        injection c2 with h1 h2
        injection h2 with h2 _
        exact ⟨h1.symm, h2.symm⟩
      have c1' : ¬ (k : Int) = i := by omega
      cases hdk : d k with
      | none =>
        have hv : nstep d best k = best := if_neg (fun h => by rw [hdk] at h; exact absurd h.1 (by decide))
        rw [hv] at hnx
        have hval : (d (k : Int)).getD ((l.length : Int) + 1) = (l.length : Int) + 1 := by rw [hdk]; rfl
        repeat' (first | with_reducible refine Sq.go ?_ | ((with_reducible refine Ev.mk ?_); conv => whnf) | with_reducible refine Dr.mk ⟨by kernel_rfl, by kernel_rfl⟩ ?_ | with_reducible refine obG ?_ | with_reducible refine Ob.mk ?_ ?_ | (with_reducible first | refine brT fun h => ?_ | refine brF fun h => ?_ | refine Br.mk (fun h => ?_) fun h => ?_) <;> (try simp only [bsl, beq_iff_eq, bne_iff_ne, bs2] at h) <;> (try contradiction) <;> try (exfalso; omega))
        refine qC hF ?_
        repeat' (first | with_reducible refine Sq.go ?_ | ((with_reducible refine Ev.mk ?_); conv => whnf) | with_reducible refine Dr.mk ⟨by kernel_rfl, by kernel_rfl⟩ ?_ | with_reducible refine obG ?_ | with_reducible refine Ob.mk ?_ ?_ | (with_reducible first | refine brT fun h => ?_ | refine brF fun h => ?_ | refine Br.mk (fun h => ?_) fun h => ?_) <;> (try simp only [bsl, beq_iff_eq, bne_iff_ne, bs2] at h) <;> (try contradiction) <;> try (exfalso; omega))
        refine ⟨k + 1, ⟨by show k + 1 ≤ l.length; omega, by rw [hnx]; exact hb⟩, by show l.length - (k + 1) < l.length - k; omega, ?_⟩
        dsimp only
        rw [hnx]
        repeat' (first | exact True.intro | exact rfl | exact Nat.le_refl _ | refine And.intro ?_ ?_)
      | some m =>
        obtain ⟨m0, m1⟩ := hd _ _ hdk
        have hval : (d (k : Int)).getD ((l.length : Int) + 1) = m := by rw [hdk]; rfl
        by_cases c4 : best < 0
        · have hv : nstep d best k = k := if_pos ⟨by rw [hdk]; rfl, .inl c4⟩
          rw [hv] at hnx
          repeat' (first | with_reducible refine Sq.go ?_ | ((with_reducible refine Ev.mk ?_); conv => whnf) | with_reducible refine Dr.mk ⟨by kernel_rfl, by kernel_rfl⟩ ?_ | with_reducible refine obG ?_ | with_reducible refine Ob.mk ?_ ?_ | (with_reducible first | refine brT fun h => ?_ | refine brF fun h => ?_ | refine Br.mk (fun h => ?_) fun h => ?_) <;> (try simp only [bsl, beq_iff_eq, bne_iff_ne, bs2] at h) <;> (try contradiction) <;> try (exfalso; omega))
          refine qC hF ?_
          repeat' (first | with_reducible refine Sq.go ?_ | ((with_reducible refine Ev.mk ?_); conv => whnf) | with_reducible refine Dr.mk ⟨by kernel_rfl, by kernel_rfl⟩ ?_ | with_reducible refine obG ?_ | with_reducible refine Ob.mk ?_ ?_ | (with_reducible first | refine brT fun h => ?_ | refine brF fun h => ?_ | refine Br.mk (fun h => ?_) fun h => ?_) <;> (try simp only [bsl, beq_iff_eq, bne_iff_ne, bs2] at h) <;> (try contradiction) <;> try (exfalso; omega))
          refine ⟨k + 1, ⟨by show k + 1 ≤ l.length; omega, by rw [hnx]; exact .inr ⟨k, m.toNat, rfl, hk2, by rw [hdk]; congr 1; omega⟩⟩, by show l.length - (k + 1) < l.length - k; omega, ?_⟩
          dsimp only
          rw [hnx]
          repeat' (first | exact True.intro | exact rfl | exact Nat.le_refl _ | refine And.intro ?_ ?_)
        · obtain ⟨b, mb, rfl, hbl, hdb⟩ := hb.resolve_left c4
          have hvb : (d (b : Int)).getD ((l.length : Int) + 1) = mb := by rw [hdb]; rfl
          by_cases c5 : m < mb
          · have hv : nstep d b k = k := if_pos ⟨by rw [hdk]; rfl, .inr (by rw [hdk, hdb]; exact c5)⟩
            rw [hv] at hnx
            repeat' (first | with_reducible refine Sq.go ?_ | ((with_reducible refine Ev.mk ?_); conv => whnf) | with_reducible refine Dr.mk ⟨by kernel_rfl, by kernel_rfl⟩ ?_ | with_reducible refine obG ?_ | with_reducible refine Ob.mk ?_ ?_ | (with_reducible first | refine brT fun h => ?_ | refine brF fun h => ?_ | refine Br.mk (fun h => ?_) fun h => ?_) <;> (try simp only [bsl, beq_iff_eq, bne_iff_ne, bs2] at h) <;> (try contradiction) <;> try (exfalso; omega))
            refine qC hF ?_
            repeat' (first | with_reducible refine Sq.go ?_ | ((with_reducible refine Ev.mk ?_); conv => whnf) | with_reducible refine Dr.mk ⟨by kernel_rfl, by kernel_rfl⟩ ?_ | with_reducible refine obG ?_ | with_reducible refine Ob.mk ?_ ?_ | (with_reducible first | refine brT fun h => ?_ | refine brF fun h => ?_ | refine Br.mk (fun h => ?_) fun h => ?_) <;> (try simp only [bsl, beq_iff_eq, bne_iff_ne, bs2] at h) <;> (try contradiction) <;> try (exfalso; omega))
            refine ⟨k + 1, ⟨by show k + 1 ≤ l.length; omega, by rw [hnx]; exact .inr ⟨k, m.toNat, rfl, hk2, by rw [hdk]; congr 1; omega⟩⟩, by show l.length - (k + 1) < l.length - k; omega, ?_⟩
            dsimp only
            rw [hnx]
            repeat' (first | exact True.intro | exact rfl | exact Nat.le_refl _ | refine And.intro ?_ ?_)
          · have hv : nstep d b k = b := if_neg (fun h => by
              rcases h.2 with h | h
              · omega
              · rw [hdk, hdb] at h
                exact c5 h)
            rw [hv] at hnx
            repeat' (first | with_reducible refine Sq.go ?_ | ((with_reducible refine Ev.mk ?_); conv => whnf) | with_reducible refine Dr.mk ⟨by kernel_rfl, by kernel_rfl⟩ ?_ | with_reducible refine obG ?_ | with_reducible refine Ob.mk ?_ ?_ | (with_reducible first | refine brT fun h => ?_ | refine brF fun h => ?_ | refine Br.mk (fun h => ?_) fun h => ?_) <;> (try simp only [bsl, beq_iff_eq, bne_iff_ne, bs2] at h) <;> (try contradiction) <;> try (exfalso; omega))
            refine qC hF ?_
            repeat' (first | with_reducible refine Sq.go ?_ | ((with_reducible refine Ev.mk ?_); conv => whnf) | with_reducible refine Dr.mk ⟨by kernel_rfl, by kernel_rfl⟩ ?_ | with_reducible refine obG ?_ | with_reducible refine Ob.mk ?_ ?_ | (with_reducible first | refine brT fun h => ?_ | refine brF fun h => ?_ | refine Br.mk (fun h => ?_) fun h => ?_) <;> (try simp only [bsl, beq_iff_eq, bne_iff_ne, bs2] at h) <;> (try contradiction) <;> try (exfalso; omega))
            refine ⟨k + 1, ⟨by show k + 1 ≤ l.length; omega, by rw [hnx]; exact .inr ⟨b, mb, rfl, hbl, hdb⟩⟩, by show l.length - (k + 1) < l.length - k; omega, ?_⟩
            dsimp only
            rw [hnx]
            repeat' (first | exact True.intro | exact rfl | exact Nat.le_refl _ | refine And.intro ?_ ?_)
    · have hkl : k = l.length := by omega
      subst hkl
      repeat' (first | with_reducible refine Sq.go ?_ | ((with_reducible refine Ev.mk ?_); conv => whnf) | with_reducible refine Dr.mk ⟨by kernel_rfl, by kernel_rfl⟩ ?_ | with_reducible refine obG ?_ | with_reducible refine Ob.mk ?_ ?_ | (with_reducible first | refine brT fun h => ?_ | refine brF fun h => ?_ | refine Br.mk (fun h => ?_) fun h => ?_) <;> (try simp only [bsl, beq_iff_eq, bne_iff_ne, bs2] at h) <;> (try contradiction) <;> try (exfalso; omega))
      exact ⟨rfl, True.intro⟩
end Go.Proofs.Ytnhadilbebgbjaa
