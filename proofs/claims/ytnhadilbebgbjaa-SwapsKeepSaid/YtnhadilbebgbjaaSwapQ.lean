/-
  Swaps: Cycle, by the program.
-/
import Derived.Test.YtnhadilbebgbjaaSwapP
namespace Go.Proofs.Ytnhadilbebgbjaa
set_option linter.unusedSimpArgs false
set_option linter.unusedVariables false
open Go Go.Ab
set_option maxRecDepth 100000
set_option maxHeartbeats 0
structure CS where
  k : Nat
  w : List Int
theorem cycle_ok (l : List Swap) (hl : l.length ≤ 1000) : Pure Try.prog 19 [eSwaps l] [eInts (cycW l), .bool (cycB l)] := by
  refine pure_rule hT (T := tab) (N := 41) (rs := [.tmp 2, .tmp 3]) Try.func19 rfl rfl rfl (by kernel_rfl) rfl ?_
  repeat' (first | with_reducible refine Sq.go ?_ | ((with_reducible refine Ev.mk ?_); conv => whnf) | with_reducible refine Dr.mk ⟨by kernel_rfl, by kernel_rfl⟩ ?_ | with_reducible refine obG ?_ | with_reducible refine Ob.mk ?_ ?_ | (with_reducible first | refine brT fun h => ?_ | refine brF fun h => ?_ | refine Br.mk (fun h => ?_) fun h => ?_) <;> (try simp only [bsl, beq_iff_eq, bne_iff_ne, bs2] at h) <;> (try contradiction) <;> try (exfalso; omega))
  refine (newGraph_ok l hl).call ?_
  repeat' (first | with_reducible refine Sq.go ?_ | ((with_reducible refine Ev.mk ?_); conv => whnf) | with_reducible refine Dr.mk ⟨by kernel_rfl, by kernel_rfl⟩ ?_ | with_reducible refine obG ?_ | with_reducible refine Ob.mk ?_ ?_ | (with_reducible first | refine brT fun h => ?_ | refine brF fun h => ?_ | refine Br.mk (fun h => ?_) fun h => ?_) <;> (try simp only [bsl, beq_iff_eq, bne_iff_ne, bs2] at h) <;> (try contradiction) <;> try (exfalso; omega))
  refine loop_rule hT (S := Nat) (fun r => ([(2, .d .nils), (4, .ptr (.loc 0) 0 0 0), (11, .d (.int .i64 l.length)), (12, .d (.int .i64 r))], ⟨[some (.box 69 (up (eGraph l)))], []⟩))
    (fun r => r ≤ l.length ∧ cycL l = ((List.range l.length).drop r).findSome? (cycF l)) (fun r => l.length - r) 0 ?_ ?_ ?_
  · repeat' (first | exact True.intro | exact rfl | exact Nat.le_refl _ | refine And.intro ?_ ?_)
  · exact ⟨Nat.zero_le _, rfl⟩
  · rintro i ⟨hi, hc⟩
    by_cases hi2 : i < l.length
    · rw [find_drop _ hi2] at hc
      have hB := BI.iter hi2 l.length
      rw [show iter l l.length (bfs0 i) = bfs l i from rfl] at hB
      obtain ⟨s, hs⟩ : ∃ s, bfs l i = s := ⟨_, rfl⟩
      have hD := distances_ok l hl i hi2
      rw [hs] at hB hD
      have hN := next_ok l hl s.d
      obtain ⟨k0, hk0⟩ : ∃ k0, nextS l s.d i = k0 := ⟨_, rfl⟩
      have hN0 := hN i hi2
      rw [hk0] at hN0
      unfold cycF at hc
      rw [hs, hk0] at hc
      have hnb := next_nb l s.d i
      rw [hk0] at hnb
      repeat' (first | with_reducible refine Sq.go ?_ | ((with_reducible refine Ev.mk ?_); conv => whnf) | with_reducible refine Dr.mk ⟨by kernel_rfl, by kernel_rfl⟩ ?_ | with_reducible refine obG ?_ | with_reducible refine Ob.mk ?_ ?_ | (with_reducible first | refine brT fun h => ?_ | refine brF fun h => ?_ | refine Br.mk (fun h => ?_) fun h => ?_) <;> (try simp only [bsl, beq_iff_eq, bne_iff_ne, bs2] at h) <;> (try contradiction) <;> try (exfalso; omega))
      refine hD.call ?_
      repeat' (first | with_reducible refine Sq.go ?_ | ((with_reducible refine Ev.mk ?_); conv => whnf) | with_reducible refine Dr.mk ⟨by kernel_rfl, by kernel_rfl⟩ ?_ | with_reducible refine obG ?_ | with_reducible refine Ob.mk ?_ ?_ | (with_reducible first | refine brT fun h => ?_ | refine brF fun h => ?_ | refine Br.mk (fun h => ?_) fun h => ?_) <;> (try simp only [bsl, beq_iff_eq, bne_iff_ne, bs2] at h) <;> (try contradiction) <;> try (exfalso; omega))
      refine hN0.call ?_
      by_cases hn : k0 < 0
      · rw [if_pos hn] at hc
        repeat' (first | with_reducible refine Sq.go ?_ | ((with_reducible refine Ev.mk ?_); conv => whnf) | with_reducible refine Dr.mk ⟨by kernel_rfl, by kernel_rfl⟩ ?_ | with_reducible refine obG ?_ | with_reducible refine Ob.mk ?_ ?_ | (with_reducible first | refine brT fun h => ?_ | refine brF fun h => ?_ | refine Br.mk (fun h => ?_) fun h => ?_) <;> (try simp only [bsl, beq_iff_eq, bne_iff_ne, bs2] at h) <;> (try contradiction) <;> try (exfalso; omega))
        refine ⟨i + 1, ⟨by show i + 1 ≤ l.length; omega, hc⟩, by show l.length - (i + 1) < l.length - i; omega, ?_⟩
        repeat' (first | exact True.intro | exact rfl | exact Nat.le_refl _ | refine And.intro ?_ ?_)
      · rw [if_neg hn] at hc
        obtain ⟨g1, g2, g3, _⟩ := hnb.yes (by omega)
        obtain ⟨kn, hkn, rfl, _⟩ := fol_mem.1 g1
        obtain ⟨m0, hm0⟩ := Option.isSome_iff_exists.1 g3
        have hbd := hB.bd _ _ hm0
        obtain ⟨m, rfl⟩ : ∃ m : Nat, m0 = m := ⟨m0.toNat, by omega⟩
        rw [chain_fuel hB (l.length + 1) kn m hm0 (by omega)] at hc
        repeat' (first | with_reducible refine Sq.go ?_ | ((with_reducible refine Ev.mk ?_); conv => whnf) | with_reducible refine Dr.mk ⟨by kernel_rfl, by kernel_rfl⟩ ?_ | with_reducible refine obG ?_ | with_reducible refine Ob.mk ?_ ?_ | (with_reducible first | refine brT fun h => ?_ | refine brF fun h => ?_ | refine Br.mk (fun h => ?_) fun h => ?_) <;> (try simp only [bsl, beq_iff_eq, bne_iff_ne, bs2] at h) <;> (try contradiction) <;> try (exfalso; omega))
        refine loop_rule hT (S := CS) (fun z => ([(2, .osl (.loc 2) z.w.length 0 (z.w.length + 1)), (4, .ptr (.loc 0) 0 0 0), (5, .d (.int .i64 i)), (6, .d (eDist s.d)), (7, .d (.int .i64 z.k))],
          ⟨[some (.box 69 (up (eGraph l))), none, some (.vec 3 1 z.w.length (z.w.length + 1) (rowI ((i : Int) :: z.w)))], []⟩))
          (fun z => z.k < l.length ∧ ∃ m : Nat, s.d z.k = some (m : Int) ∧ z.w.length + m ≤ l.length ∧ cycL l = some ((i : Int) :: z.w ++ chainL l s.d i (m + 1) z.k)) (fun z => ((s.d z.k).getD 0).toNat) ⟨kn, []⟩ ?_ ?_ ?_
        · repeat' (first | exact True.intro | exact rfl | exact Nat.le_refl _ | refine And.intro ?_ ?_)
          all_goals
            intro i1 h1
            have h1 : i1 < 0 + 1 := h1
            obtain rfl : i1 = 0 := by omega
            exact ⟨rfl, rfl⟩
        · exact ⟨hkn, m, hm0, by show 0 + m ≤ _; omega, hc⟩
        · rintro ⟨k, w⟩ ⟨hk, m, hm, hw, hc⟩
          dsimp only at hk hm hw hc ⊢
          by_cases hki : (k : Int) = i
          · have hm00 : m = 0 := by
              have := (hB.z k).2 hki
              rw [hm] at this
              injection this with this
              omega
            rw [chainL, if_pos hki, List.append_nil] at hc
            have e1 : cycW l = (i : Int) :: w := by rw [cycW, hc]; rfl
            have e2 : cycB l = true := by rw [cycB, hc]; rfl
            rw [e1, e2]
            repeat' (first | with_reducible refine Sq.go ?_ | ((with_reducible refine Ev.mk ?_); conv => whnf) | with_reducible refine Dr.mk ⟨by kernel_rfl, by kernel_rfl⟩ ?_ | with_reducible refine obG ?_ | with_reducible refine Ob.mk ?_ ?_ | (with_reducible first | refine brT fun h => ?_ | refine brF fun h => ?_ | refine Br.mk (fun h => ?_) fun h => ?_) <;> (try simp only [bsl, beq_iff_eq, bne_iff_ne, bs2] at h) <;> (try contradiction) <;> try (exfalso; omega))
            exact ⟨⟨rfl, rfl, by rw [Nat.zero_add]; exact Nat.le_refl _, rfl, fun j hj => by rw [Nat.zero_add]; rfl⟩, rfl, True.intro⟩
          · obtain ⟨k', m', e, hk', hm', hlt, hch⟩ := chain_step hB hm hki
            rw [hch] at hc
            have hN1 := hN k hk
            rw [e] at hN1
            repeat' (first | with_reducible refine Sq.go ?_ | ((with_reducible refine Ev.mk ?_); conv => whnf) | with_reducible refine Dr.mk ⟨by kernel_rfl, by kernel_rfl⟩ ?_ | with_reducible refine obG ?_ | with_reducible refine Ob.mk ?_ ?_ | (with_reducible first | refine brT fun h => ?_ | refine brF fun h => ?_ | refine Br.mk (fun h => ?_) fun h => ?_) <;> (try simp only [bsl, beq_iff_eq, bne_iff_ne, bs2] at h) <;> (try contradiction) <;> try (exfalso; omega))
            refine hN1.call ?_
            repeat' (first | with_reducible refine Sq.go ?_ | ((with_reducible refine Ev.mk ?_); conv => whnf) | with_reducible refine Dr.mk ⟨by kernel_rfl, by kernel_rfl⟩ ?_ | with_reducible refine obG ?_ | with_reducible refine Ob.mk ?_ ?_ | (with_reducible first | refine brT fun h => ?_ | refine brF fun h => ?_ | refine Br.mk (fun h => ?_) fun h => ?_) <;> (try simp only [bsl, beq_iff_eq, bne_iff_ne, bs2] at h) <;> (try contradiction) <;> try (exfalso; omega))
            refine ⟨⟨k', w ++ [(k : Int)]⟩, ⟨hk', m', hm', by show (w ++ [(k : Int)]).length + m' ≤ _; rw [len_snoc]; omega, by show cycL l = some ((i : Int) :: (w ++ [(k : Int)]) ++ _); rw [hc]; simp⟩, by show ((s.d k').getD 0).toNat < ((s.d k).getD 0).toNat; rw [hm', hm]; simp; omega, ?_⟩
            dsimp only
            rw [len_snoc]
            repeat' (first | exact True.intro | exact rfl | exact Nat.le_refl _ | refine And.intro ?_ ?_)
            all_goals
              intro i1 h1
              have h1 : i1 < w.length + 1 + 1 := h1
              exact ⟨rowI_join ((i : Int) :: w) k rfl i1 h1, rfl⟩
    · rw [drop_end (by simp; omega)] at hc
      have e1 : cycW l = [] := by rw [cycW, hc]; rfl
      have e2 : cycB l = false := by rw [cycB, hc]; rfl
      rw [e1, e2]
      repeat' (first | with_reducible refine Sq.go ?_ | ((with_reducible refine Ev.mk ?_); conv => whnf) | with_reducible refine Dr.mk ⟨by kernel_rfl, by kernel_rfl⟩ ?_ | with_reducible refine obG ?_ | with_reducible refine Ob.mk ?_ ?_ | (with_reducible first | refine brT fun h => ?_ | refine brF fun h => ?_ | refine Br.mk (fun h => ?_) fun h => ?_) <;> (try simp only [bsl, beq_iff_eq, bne_iff_ne, bs2] at h) <;> (try contradiction) <;> try (exfalso; omega))
      exact ⟨rfl, rfl, True.intro⟩
end Go.Proofs.Ytnhadilbebgbjaa
