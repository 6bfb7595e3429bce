/-
  Swaps: the distances, by the reference.
-/
import Derived.Test.YtnhadilbebgbjaaSwapR
namespace Go.Proofs.Ytnhadilbebgbjaa
set_option linter.unusedSimpArgs false
set_option linter.unusedVariables false
open Go Go.Ab
set_option maxRecDepth 100000
set_option maxHeartbeats 0
theorem far_ok (l : List Swap) (hl : l.length ≤ 1000) : Pure Try.prog 59 [eSwaps l] [.int .i64 ((l.length : Int) + 1)] := by
  refine pure_rule hT (T := tab) (N := 6) (rs := [.tmp 2]) Try.func59 rfl rfl rfl (by kernel_rfl) rfl ?_
  repeat' (first | with_reducible refine Sq.go ?_ | ((with_reducible refine Ev.mk ?_); conv => whnf) | with_reducible refine Dr.mk ⟨by kernel_rfl, by kernel_rfl⟩ ?_ | with_reducible refine obG ?_ | with_reducible refine Ob.mk ?_ ?_ | (with_reducible first | refine brT fun h => ?_ | refine brF fun h => ?_ | refine Br.mk (fun h => ?_) fun h => ?_) <;> (try simp only [bsl, beq_iff_eq, bne_iff_ne, bs2] at h) <;> (try contradiction) <;> try (exfalso; omega))
  exact ⟨rfl, True.intro⟩
def rowDs (l : List Swap) (d : Int → Option Int) : Nat → List AV := fun i => [.d (.int .i64 ((d i).getD ((l.length : Int) + 1)))]
def eDs (l : List Swap) (d : Int → Option Int) : D := .sl 1 l.length fun i => [.int .i64 ((d i).getD ((l.length : Int) + 1))]
structure ES where
  j : Nat
  g : Nat
theorem rdist_ok (l : List Swap) (hl : l.length ≤ 1000) (to : Nat) (hto : to < l.length) : Pure Try.prog 39 [eSwaps l, .int .i64 to] [eDs l (bfs l to).d] := by
  refine pure_rule hT (T := tab) (N := 77) (rs := [.tmp 4]) Try.func39 rfl rfl rfl (by kernel_rfl) rfl ?_
  have hF := far_ok l hl
  repeat' (first | with_reducible refine Sq.go ?_ | ((with_reducible refine Ev.mk ?_); conv => whnf) | with_reducible refine Dr.mk ⟨by kernel_rfl, by kernel_rfl⟩ ?_ | with_reducible refine obG ?_ | with_reducible refine Ob.mk ?_ ?_ | (with_reducible first | refine brT fun h => ?_ | refine brF fun h => ?_ | refine Br.mk (fun h => ?_) fun h => ?_) <;> (try simp only [bsl, beq_iff_eq, bne_iff_ne, bs2] at h) <;> (try contradiction) <;> try (exfalso; omega))
  refine loop_rule hT (S := Nat) (fun k => ([(0, .d (eSwaps l)), (1, .d (.int .i64 to)), (5, .osl (.loc 0) k 0 k), (6, .d (.int .i64 k))], ⟨[some (.vec 3 1 k k fun _ => [.d (.int .i64 ((l.length : Int) + 1))])], []⟩)) (fun k => k ≤ l.length) (fun k => l.length - k) 0 ?_ ?_ ?_
  · repeat' (first | exact True.intro | exact rfl | exact Nat.le_refl _ | refine And.intro ?_ ?_)
    all_goals (intro i hi; exact absurd hi (Nat.not_lt_zero i))
  · exact Nat.zero_le _
  · rintro k hk
    dsimp only at hk ⊢
    by_cases hk2 : k < l.length
    · repeat' (first | with_reducible refine Sq.go ?_ | ((with_reducible refine Ev.mk ?_); conv => whnf) | with_reducible refine Dr.mk ⟨by kernel_rfl, by kernel_rfl⟩ ?_ | with_reducible refine obG ?_ | with_reducible refine Ob.mk ?_ ?_ | (with_reducible first | refine brT fun h => ?_ | refine brF fun h => ?_ | refine Br.mk (fun h => ?_) fun h => ?_) <;> (try simp only [bsl, beq_iff_eq, bne_iff_ne, bs2] at h) <;> (try contradiction) <;> try (exfalso; omega))
      refine hF.call ?_
      repeat' (first | with_reducible refine Sq.go ?_ | ((with_reducible refine Ev.mk ?_); conv => whnf) | with_reducible refine Dr.mk ⟨by kernel_rfl, by kernel_rfl⟩ ?_ | with_reducible refine obG ?_ | with_reducible refine Ob.mk ?_ ?_ | (with_reducible first | refine brT fun h => ?_ | refine brF fun h => ?_ | refine Br.mk (fun h => ?_) fun h => ?_) <;> (try simp only [bsl, beq_iff_eq, bne_iff_ne, bs2] at h) <;> (try contradiction) <;> try (exfalso; omega))
      refine ⟨k + 1, by show k + 1 ≤ l.length; omega, by show l.length - (k + 1) < l.length - k; omega, ?_⟩
      repeat' (first | exact True.intro | exact rfl | exact Nat.le_refl _ | refine And.intro ?_ ?_)
      all_goals
        intro i hi
        refine ⟨?_, rfl⟩
        rw [joinF]
        cases Nat.blt i k <;> rfl
    · have hkl : k = l.length := by omega
      subst hkl
      repeat' (first | with_reducible refine Sq.go ?_ | ((with_reducible refine Ev.mk ?_); conv => whnf) | with_reducible refine Dr.mk ⟨by kernel_rfl, by kernel_rfl⟩ ?_ | with_reducible refine obG ?_ | with_reducible refine Ob.mk ?_ ?_ | (with_reducible first | refine brT fun h => ?_ | refine brF fun h => ?_ | refine Br.mk (fun h => ?_) fun h => ?_) <;> (try simp only [bsl, beq_iff_eq, bne_iff_ne, bs2] at h) <;> (try contradiction) <;> try (exfalso; omega))
      refine loop_rule hT (S := ES) (fun y => ([(0, .d (eSwaps l)), (5, .osl (.loc 0) l.length 0 l.length), (7, .osl (.loc 1) y.g 0 (iter l y.j (bfs0 to)).q.length), (8, .d (.int .i64 y.j))],
        ⟨[some (.vec 3 1 l.length l.length (rowDs l (iter l y.j (bfs0 to)).d)), some (.vec 3 1 y.g (iter l y.j (bfs0 to)).q.length (rowI (iter l y.j (bfs0 to)).q))], []⟩))
        (fun y => y.j ≤ (iter l y.j (bfs0 to)).q.length) (fun y => l.length - y.j) ⟨0, 0⟩ ?_ ?_ ?_
      · repeat' (first | exact True.intro | exact rfl | exact Nat.le_refl _ | refine And.intro ?_ ?_)
        · intro i hi
          refine ⟨?_, rfl⟩
          show (bif Nat.beq i to then _ else _) = _
          by_cases e : i = to
          · subst e
            rw [show Nat.beq i i = true from Nat.beq_refl i]
            simp [rowDs, iter, bfs0, splice]
          · rw [show Nat.beq i to = false from Bool.eq_false_iff.2 fun h => e (Nat.eq_of_beq_eq_true h)]
            have : ¬ (i : Int) = to := by omega
            simp [rowDs, iter, bfs0, this]
        · intro i hi
          have hi : i < 1 := hi
          obtain rfl : i = 0 := by omega
          exact ⟨rfl, rfl⟩
      · exact Nat.zero_le _
      · rintro ⟨j, g⟩ hj
        dsimp only at hj ⊢
        have hB := BI.iter hto j
        have hnx : iter l (j + 1) (bfs0 to) = rnd l j (iter l j (bfs0 to)) := rfl
        obtain ⟨s, hs⟩ : ∃ s, iter l j (bfs0 to) = s := ⟨_, rfl⟩
        rw [hs] at hB hj hnx
        have hlen := hB.len
        rw [hs]
        by_cases hj2 : j < s.q.length
        · obtain ⟨ik, hik, hx⟩ := hB.rg _ (getD_mem hj2)
          obtain ⟨dk, hdk⟩ := Option.isSome_iff_exists.1 ((hB.qd _).1 (getD_mem hj2))
          rw [hx] at hdk
          rw [rnd, if_pos hj2, hx, hdk, Option.getD_some] at hnx
          have hbd := hB.bd _ _ hdk
          have hx2 : s.q.getD (oadd 0 (j : Int).toNat) default = (ik : Int) := by rw [oadd_eq, Int.toNat_natCast, Nat.zero_add]; exact hx
          repeat' (first | with_reducible refine Sq.go ?_ | ((with_reducible refine Ev.mk ?_); conv => whnf) | with_reducible refine Dr.mk ⟨by kernel_rfl, by kernel_rfl⟩ ?_ | with_reducible refine obG ?_ | with_reducible refine Ob.mk ?_ ?_ | (with_reducible first | refine brT fun h => ?_ | refine brF fun h => ?_ | refine Br.mk (fun h => ?_) fun h => ?_) <;> (try simp only [bsl, beq_iff_eq, bne_iff_ne, bs2] at h) <;> (try contradiction) <;> try (exfalso; omega))
          simp (config := { beta := false, eta := false, iota := false, proj := false, zeta := false, decide := false }) only [hx2]
          refine loop_rule hT (S := ES) (fun y => ([(0, .d (eSwaps l)), (5, .osl (.loc 0) l.length 0 l.length), (7, .osl (.loc 1) y.g 0 (visitL dk (preds l ik y.j) s).q.length), (8, .d (.int .i64 j)), (9, .d (.int .i64 ik)), (10, .d (.int .i64 y.j))],
            ⟨[some (.vec 3 1 l.length l.length (rowDs l (visitL dk (preds l ik y.j) s).d)), some (.vec 3 1 y.g (visitL dk (preds l ik y.j) s).q.length (rowI (visitL dk (preds l ik y.j) s).q))], []⟩))
            (fun y => y.j ≤ l.length) (fun y => l.length - y.j) ⟨0, g⟩ ?_ ?_ ?_
          · repeat' (first | exact True.intro | exact rfl | exact Nat.le_refl _ | refine And.intro ?_ ?_)
            all_goals (intro i hi; exact ⟨rfl, rfl⟩)
          · exact Nat.zero_le _
          · rintro ⟨i, g2⟩ hi
            dsimp only at hi ⊢
            obtain ⟨hV, hVk⟩ := BI.visitL (to := to) hbd.2 (preds l ik i) hB.up hdk (preds_in l ik i hi)
            have hge := visitL_len dk (preds l ik i) s
            obtain ⟨v, hv⟩ : ∃ v, visitL dk (preds l ik i) s = v := ⟨_, rfl⟩
            rw [hv] at hV hVk hge
            have hvl := hV.len
            by_cases hi2 : i < l.length
            · have hps : preds l ik (i + 1) = if takeK l i = giveK l ik then preds l ik i ++ [(i : Int)] else preds l ik i := rfl
              have hsn : visitL dk (preds l ik (i + 1)) s = if takeK l i = giveK l ik ∧ v.d i = none then ⟨fun x => if x = (i : Int) then some (dk + 1) else v.d x, v.q ++ [(i : Int)]⟩ else v := by
                rw [hps]
                split
                · rename_i h1
                  rw [visitL_snoc, hv, visit1]
                  by_cases h2 : v.d i = none
                  · rw [if_pos h2, if_pos ⟨h1, h2⟩]
                  · rw [if_neg h2, if_neg (fun h => h2 h.2)]
                · rename_i h1
                  rw [hv, if_neg (fun h => h1 h.1)]
              have hF2 := hF
              rw [hv]
              have hkk : (v.d ik).getD ((l.length : Int) + 1) = dk := by rw [hVk]; rfl
              have hin : In .i64 (dk + 1) := in64.2 (by omega)
              by_cases h1 : takeK l i = giveK l ik
              · obtain ⟨t1, t2⟩ : (l.getD i default).take.sec = (l.getD ik default).give.sec ∧ (l.getD i default).take.lab = (l.getD ik default).give.lab := by
                  unfold takeK giveK at h1
                  injection h1 with h1 h2
                  injection h2 with h2 _
                  exact ⟨h1, h2⟩
                cases hd : v.d i with
                | none =>
                  rw [if_pos ⟨h1, hd⟩] at hsn
                  have hfar : (v.d ((oadd 0 i : Nat) : Int)).getD ((l.length : Int) + 1) = (l.length : Int) + 1 := by rw [oadd_eq, Nat.zero_add, hd]; rfl
                  repeat' (first | with_reducible refine Sq.go ?_ | ((with_reducible refine Ev.mk ?_); conv => whnf) | with_reducible refine Dr.mk ⟨by kernel_rfl, by kernel_rfl⟩ ?_ | with_reducible refine obG ?_ | with_reducible refine Ob.mk ?_ ?_ | (with_reducible first | refine brT fun h => ?_ | refine brF fun h => ?_ | refine Br.mk (fun h => ?_) fun h => ?_) <;> (try simp only [bsl, beq_iff_eq, bne_iff_ne, bs2] at h) <;> (try contradiction) <;> try (exfalso; omega))
                  refine qC hF ?_
                  repeat' (first | with_reducible refine Sq.go ?_ | ((with_reducible refine Ev.mk ?_); conv => whnf) | with_reducible refine Dr.mk ⟨by kernel_rfl, by kernel_rfl⟩ ?_ | with_reducible refine obG ?_ | with_reducible refine Ob.mk ?_ ?_ | (with_reducible first | refine brT fun h => ?_ | refine brF fun h => ?_ | refine Br.mk (fun h => ?_) fun h => ?_) <;> (try simp only [bsl, beq_iff_eq, bne_iff_ne, bs2] at h) <;> (try contradiction) <;> try (exfalso; omega))
                  · rw [oadd_eq, Int.toNat_natCast, Nat.zero_add, hkk]
                    exact hin
                  · refine ⟨⟨i + 1, g2 + 1⟩, by show i + 1 ≤ l.length; omega, by show l.length - (i + 1) < l.length - i; omega, ?_⟩
                    dsimp only
                    rw [hsn]
                    dsimp only
                    rw [len_snoc]
                    repeat' (first | exact True.intro | exact rfl | exact Nat.le_refl _ | refine And.intro ?_ ?_)
                    · intro x hx
                      refine ⟨?_, rfl⟩
                      show (bif Nat.beq x (oadd 0 i) then splice _ 0 [AV.d (.int .i64 ((v.d ((oadd 0 ik : Nat) : Int)).getD ((l.length : Int) + 1) + 1))] else _) = _
                      simp only [oadd_eq, Nat.zero_add, hkk]
                      by_cases e : x = i
                      · subst e
                        rw [show Nat.beq x x = true from Nat.beq_refl x]
                        simp [rowDs, splice]
                      · rw [show Nat.beq x i = false from Bool.eq_false_iff.2 fun h => e (Nat.eq_of_beq_eq_true h)]
                        have : ¬ (x : Int) = i := by omega
                        simp [rowDs, this]
                    · intro x hx
                      exact ⟨rowI_join v.q (i : Int) rfl x hx, rfl⟩
                | some dd =>
                  rw [if_neg (fun h => by rw [hd] at h; cases h.2)] at hsn
                  have hdb := hV.bd _ _ hd
                  have hfar : ¬ (v.d ((oadd 0 i : Nat) : Int)).getD ((l.length : Int) + 1) = (l.length : Int) + 1 := by
                    rw [oadd_eq, Nat.zero_add, hd, Option.getD_some]
                    omega
                  repeat' (first | with_reducible refine Sq.go ?_ | ((with_reducible refine Ev.mk ?_); conv => whnf) | with_reducible refine Dr.mk ⟨by kernel_rfl, by kernel_rfl⟩ ?_ | with_reducible refine obG ?_ | with_reducible refine Ob.mk ?_ ?_ | (with_reducible first | refine brT fun h => ?_ | refine brF fun h => ?_ | refine Br.mk (fun h => ?_) fun h => ?_) <;> (try simp only [bsl, beq_iff_eq, bne_iff_ne, bs2] at h) <;> (try contradiction) <;> try (exfalso; omega))
                  refine qC hF ?_
                  repeat' (first | with_reducible refine Sq.go ?_ | ((with_reducible refine Ev.mk ?_); conv => whnf) | with_reducible refine Dr.mk ⟨by kernel_rfl, by kernel_rfl⟩ ?_ | with_reducible refine obG ?_ | with_reducible refine Ob.mk ?_ ?_ | (with_reducible first | refine brT fun h => ?_ | refine brF fun h => ?_ | refine Br.mk (fun h => ?_) fun h => ?_) <;> (try simp only [bsl, beq_iff_eq, bne_iff_ne, bs2] at h) <;> (try contradiction) <;> try (exfalso; omega))
                  · refine ⟨⟨i + 1, g2⟩, by show i + 1 ≤ l.length; omega, by show l.length - (i + 1) < l.length - i; omega, ?_⟩
                    dsimp only
                    rw [hsn]
                    repeat' (first | exact True.intro | exact rfl | exact Nat.le_refl _ | refine And.intro ?_ ?_)
                    all_goals (intro i hi; exact ⟨rfl, rfl⟩)
              · rw [if_neg (fun h => h1 h.1)] at hsn
                have t0 : ¬ ((l.getD i default).take.sec = (l.getD ik default).give.sec ∧ (l.getD i default).take.lab = (l.getD ik default).give.lab) := fun h => h1 (by unfold takeK giveK; rw [h.1, h.2])
                repeat' (first | with_reducible refine Sq.go ?_ | ((with_reducible refine Ev.mk ?_); conv => whnf) | with_reducible refine Dr.mk ⟨by kernel_rfl, by kernel_rfl⟩ ?_ | with_reducible refine obG ?_ | with_reducible refine Ob.mk ?_ ?_ | (with_reducible first | refine brT fun h => ?_ | refine brF fun h => ?_ | refine Br.mk (fun h => ?_) fun h => ?_) <;> (try simp only [bsl, beq_iff_eq, bne_iff_ne, bs2] at h) <;> (try contradiction) <;> try (exfalso; omega))
                refine ⟨⟨i + 1, g2⟩, by show i + 1 ≤ l.length; omega, by show l.length - (i + 1) < l.length - i; omega, ?_⟩
                dsimp only
                rw [hsn]
                repeat' (first | exact True.intro | exact rfl | exact Nat.le_refl _ | refine And.intro ?_ ?_)
                all_goals (intro i hi; exact ⟨rfl, rfl⟩)
            · have hil : i = l.length := by omega
              subst hil
              rw [hv] at hnx
              rw [hv]
              repeat' (first | with_reducible refine Sq.go ?_ | ((with_reducible refine Ev.mk ?_); conv => whnf) | with_reducible refine Dr.mk ⟨by kernel_rfl, by kernel_rfl⟩ ?_ | with_reducible refine obG ?_ | with_reducible refine Ob.mk ?_ ?_ | (with_reducible first | refine brT fun h => ?_ | refine brF fun h => ?_ | refine Br.mk (fun h => ?_) fun h => ?_) <;> (try simp only [bsl, beq_iff_eq, bne_iff_ne, bs2] at h) <;> (try contradiction) <;> try (exfalso; omega))
              refine ⟨⟨j + 1, g2⟩, by show j + 1 ≤ (iter l (j + 1) (bfs0 to)).q.length; rw [hnx]; omega, by show l.length - (j + 1) < l.length - j; omega, ?_⟩
              dsimp only
              rw [hnx]
              repeat' (first | exact True.intro | exact rfl | exact Nat.le_refl _ | refine And.intro ?_ ?_)
              all_goals (intro i hi; exact ⟨rfl, rfl⟩)
        · have hbe : bfs l to = s := by
            rw [← hs]
            exact iter_end (by rw [hs]; omega) _ (by omega)
          rw [hbe]
          repeat' (first | with_reducible refine Sq.go ?_ | ((with_reducible refine Ev.mk ?_); conv => whnf) | with_reducible refine Dr.mk ⟨by kernel_rfl, by kernel_rfl⟩ ?_ | with_reducible refine obG ?_ | with_reducible refine Ob.mk ?_ ?_ | (with_reducible first | refine brT fun h => ?_ | refine brF fun h => ?_ | refine Br.mk (fun h => ?_) fun h => ?_) <;> (try simp only [bsl, beq_iff_eq, bne_iff_ne, bs2] at h) <;> (try contradiction) <;> try (exfalso; omega))
          exact ⟨⟨rfl, rfl, by omega, rfl, fun i hi => by rw [Nat.zero_add]; rfl⟩, True.intro⟩
end Go.Proofs.Ytnhadilbebgbjaa
