/-
  Swaps: IsCycle, by the reference.
-/
import Derived.Test.YtnhadilbebgbjaaSwapR
namespace Go.Proofs.Ytnhadilbebgbjaa
set_option linter.unusedSimpArgs false
set_option linter.unusedVariables false
open Go Go.Ab
set_option maxRecDepth 100000
set_option maxHeartbeats 0
theorem isC_no {l : List Swap} {w : List Int} {k : Nat} (hk : k < w.length) (h : cyS l w k = false) : isC l w = false := by
  unfold isC
  rw [Bool.and_eq_false_iff]
  refine .inl (Bool.eq_false_iff.2 fun h2 => ?_)
  rw [List.all_eq_true] at h2
  have := h2 k (List.mem_range.2 hk)
  rw [h] at this
  cases this
theorem isC_yes {l : List Swap} {w : List Int} (h2 : 2 ≤ w.length) (h : ∀ k, k < w.length → cyS l w k = true) : isC l w = true := by
  unfold isC
  rw [decide_eq_true h2, Bool.and_true, List.all_eq_true]
  exact fun k hk => h k (List.mem_range.1 hk)
def okI (l : List Swap) (w : List Int) (k : Nat) : Bool := inR l (w.getD k default) && !((w.take k).any fun a => decide (w.getD k default = a))
theorem nx_mem {w : List Int} {k : Nat} (hk : k < w.length) : ∃ j, j < w.length ∧ nxI w k = w.getD j default := ⟨(k + 1) % w.length, Nat.mod_lt _ (by omega), rfl⟩
theorem cy_of {l : List Swap} {w : List Int} (h1 : ∀ k, k < w.length → okI l w k = true) {k : Nat} (hk : k < w.length) : cyS l w k = folB l (w.getD k default) (nxI w k) := by
  obtain ⟨j, hj, hn⟩ := nx_mem hk
  have a1 := h1 k hk
  have a2 := h1 j hj
  unfold okI at a1 a2
  rw [Bool.and_eq_true] at a1 a2
  unfold cyS
  rw [hn, a1.1, a2.1, a1.2, Bool.true_and, Bool.true_and, Bool.true_and]
theorem isC_short {l : List Swap} {w : List Int} (h : ¬ 2 ≤ w.length) : isC l w = false := by
  unfold isC
  rw [decide_eq_false h, Bool.and_false]
theorem okI_no {l : List Swap} {w : List Int} {k : Nat} (hk : k < w.length) (h : okI l w k = false) : isC l w = false := by
  refine isC_no hk ?_
  unfold cyS
  unfold okI at h
  rw [Bool.and_eq_false_iff] at h
  rcases h with h | h
  · rw [h, Bool.false_and]
  · rw [h]
    simp
theorem in_no {l : List Swap} {x : Int} (h : ¬ (0 ≤ x ∧ x < l.length)) : inR l x = false := by
  cases e : inR l x
  · rfl
  · exact absurd (wit_in e) h
theorem in_yes {l : List Swap} {x : Int} (h : 0 ≤ x ∧ x < l.length) : inR l x = true := by
  unfold inR wit
  rw [decide_eq_true h.1, decide_eq_true (by omega)]
  rfl
theorem any_no {w : List Int} {k : Nat} (hk : k < w.length) (h : ∀ j, j < k → ¬ w.getD j default = w.getD k default) : ((w.take k).any fun a => decide (w.getD k default = a)) = false := by
  rw [List.any_eq_false]
  intro a ha
  obtain ⟨j, hj, rfl⟩ := List.getElem_of_mem ha
  have hjk : j < k := by
    have := hj
    rw [List.length_take] at this
    omega
  have := h j hjk
  rw [decide_eq_true_eq]
  intro e
  apply this
  rw [List.getElem_take] at e
  rw [e, List.getD_eq_getElem?_getD, List.getElem?_eq_getElem (by omega)]
  rfl
theorem any_yes {w : List Int} {k j : Nat} (hk : k < w.length) (hj : j < k) (h : w.getD j default = w.getD k default) : ((w.take k).any fun a => decide (w.getD k default = a)) = true := by
  rw [List.any_eq_true]
  refine ⟨w.getD j default, ?_, decide_eq_true h.symm⟩
  rw [List.getD_eq_getElem?_getD, List.getElem?_eq_getElem (by omega)]
  exact List.mem_take_iff_getElem.2 ⟨j, by omega, rfl⟩
theorem risCycle_ok (l : List Swap) (hl : l.length ≤ 1000) (w : List Int) (hw : w.length ≤ 1000000) : Pure Try.prog 49 [eSwaps l, eInts w] [.bool (isC l w)] := by
  refine pure_rule hT (T := tab) (N := 72) (rs := [.tmp 4]) Try.func49 rfl rfl rfl (by kernel_rfl) rfl ?_
  by_cases h2 : 2 ≤ w.length
  rotate_left
  · rw [isC_short h2]
    repeat' (first | with_reducible refine Sq.go ?_ | ((with_reducible refine Ev.mk ?_); conv => whnf) | with_reducible refine Dr.mk ⟨by kernel_rfl, by kernel_rfl⟩ ?_ | with_reducible refine obG ?_ | with_reducible refine Ob.mk ?_ ?_ | (with_reducible first | refine brT fun h => ?_ | refine brF fun h => ?_ | refine Br.mk (fun h => ?_) fun h => ?_) <;> (try simp only [bsl, beq_iff_eq, bne_iff_ne, bs2] at h) <;> (try contradiction) <;> try (exfalso; omega))
    exact ⟨rfl, True.intro⟩
  repeat' (first | with_reducible refine Sq.go ?_ | ((with_reducible refine Ev.mk ?_); conv => whnf) | with_reducible refine Dr.mk ⟨by kernel_rfl, by kernel_rfl⟩ ?_ | with_reducible refine obG ?_ | with_reducible refine Ob.mk ?_ ?_ | (with_reducible first | refine brT fun h => ?_ | refine brF fun h => ?_ | refine Br.mk (fun h => ?_) fun h => ?_) <;> (try simp only [bsl, beq_iff_eq, bne_iff_ne, bs2] at h) <;> (try contradiction) <;> try (exfalso; omega))
  refine loop_rule hT (S := Nat) (fun k => ([(0, .d (eSwaps l)), (1, .d (eInts w)), (5, .d (.int .i64 k))], ⟨[], []⟩)) (fun k => k ≤ w.length ∧ ∀ j, j < k → okI l w j = true) (fun k => w.length - k) 0 ?_ ?_ ?_
  · repeat' (first | exact True.intro | exact rfl | exact Nat.le_refl _ | refine And.intro ?_ ?_)
  · exact ⟨Nat.zero_le _, fun j hj => absurd hj (Nat.not_lt_zero j)⟩
  · rintro k ⟨hk, hc⟩
    dsimp only at hk hc ⊢
    by_cases hk2 : k < w.length
    · by_cases hin : 0 ≤ w.getD k default ∧ w.getD k default < l.length
      · have hin' : 0 ≤ w.getD (k : Int).toNat default ∧ w.getD (k : Int).toNat default < l.length := hin
        repeat' (first | with_reducible refine Sq.go ?_ | ((with_reducible refine Ev.mk ?_); conv => whnf) | with_reducible refine Dr.mk ⟨by kernel_rfl, by kernel_rfl⟩ ?_ | with_reducible refine obG ?_ | with_reducible refine Ob.mk ?_ ?_ | (with_reducible first | refine brT fun h => ?_ | refine brF fun h => ?_ | refine Br.mk (fun h => ?_) fun h => ?_) <;> (try simp only [bsl, beq_iff_eq, bne_iff_ne, bs2] at h) <;> (try contradiction) <;> try (exfalso; omega))
        refine loop_rule hT (S := Nat) (fun m => ([(0, .d (eSwaps l)), (1, .d (eInts w)), (5, .d (.int .i64 k)), (6, .d (.int .i64 m))], ⟨[], []⟩)) (fun m => m ≤ k ∧ ∀ j, j < m → ¬ w.getD j default = w.getD k default) (fun m => k - m) 0 ?_ ?_ ?_
        · repeat' (first | exact True.intro | exact rfl | exact Nat.le_refl _ | refine And.intro ?_ ?_)
        · exact ⟨Nat.zero_le _, fun j hj => absurd hj (Nat.not_lt_zero j)⟩
        · rintro m ⟨hm, hd⟩
          dsimp only at hm hd ⊢
          by_cases hm2 : m < k
          · by_cases he : w.getD m default = w.getD k default
            · have hno : isC l w = false := okI_no hk2 (by unfold okI; rw [any_yes hk2 hm2 he]; simp)
              rw [hno]
              repeat' (first | with_reducible refine Sq.go ?_ | ((with_reducible refine Ev.mk ?_); conv => whnf) | with_reducible refine Dr.mk ⟨by kernel_rfl, by kernel_rfl⟩ ?_ | with_reducible refine obG ?_ | with_reducible refine Ob.mk ?_ ?_ | (with_reducible first | refine brT fun h => ?_ | refine brF fun h => ?_ | refine Br.mk (fun h => ?_) fun h => ?_) <;> (try simp only [bsl, beq_iff_eq, bne_iff_ne, bs2] at h) <;> (try contradiction) <;> try (exfalso; omega))
              exact ⟨rfl, True.intro⟩
            · repeat' (first | with_reducible refine Sq.go ?_ | ((with_reducible refine Ev.mk ?_); conv => whnf) | with_reducible refine Dr.mk ⟨by kernel_rfl, by kernel_rfl⟩ ?_ | with_reducible refine obG ?_ | with_reducible refine Ob.mk ?_ ?_ | (with_reducible first | refine brT fun h => ?_ | refine brF fun h => ?_ | refine Br.mk (fun h => ?_) fun h => ?_) <;> (try simp only [bsl, beq_iff_eq, bne_iff_ne, bs2] at h) <;> (try contradiction) <;> try (exfalso; omega))
              refine ⟨m + 1, ⟨by show m + 1 ≤ k; omega, fun j hj => ?_⟩, by show k - (m + 1) < k - m; omega, ?_⟩
              · rcases Nat.lt_succ_iff_lt_or_eq.1 hj with h | rfl
                · exact hd j h
                · exact he
              repeat' (first | exact True.intro | exact rfl | exact Nat.le_refl _ | refine And.intro ?_ ?_)
          · have hmk : m = k := by omega
            subst hmk
            repeat' (first | with_reducible refine Sq.go ?_ | ((with_reducible refine Ev.mk ?_); conv => whnf) | with_reducible refine Dr.mk ⟨by kernel_rfl, by kernel_rfl⟩ ?_ | with_reducible refine obG ?_ | with_reducible refine Ob.mk ?_ ?_ | (with_reducible first | refine brT fun h => ?_ | refine brF fun h => ?_ | refine Br.mk (fun h => ?_) fun h => ?_) <;> (try simp only [bsl, beq_iff_eq, bne_iff_ne, bs2] at h) <;> (try contradiction) <;> try (exfalso; omega))
            refine ⟨m + 1, ⟨by show m + 1 ≤ w.length; omega, fun j hj => ?_⟩, by show w.length - (m + 1) < w.length - m; omega, ?_⟩
            · rcases Nat.lt_succ_iff_lt_or_eq.1 hj with h | rfl
              · exact hc j h
              · unfold okI
                rw [in_yes hin, any_no hk2 hd]
                rfl
            repeat' (first | exact True.intro | exact rfl | exact Nat.le_refl _ | refine And.intro ?_ ?_)
      · have hno : isC l w = false := okI_no hk2 (by unfold okI; rw [in_no hin]; rfl)
        rw [hno]
        repeat' (first | with_reducible refine Sq.go ?_ | ((with_reducible refine Ev.mk ?_); conv => whnf) | with_reducible refine Dr.mk ⟨by kernel_rfl, by kernel_rfl⟩ ?_ | with_reducible refine obG ?_ | with_reducible refine Ob.mk ?_ ?_ | (with_reducible first | refine brT fun h => ?_ | refine brF fun h => ?_ | refine Br.mk (fun h => ?_) fun h => ?_) <;> (try simp only [bsl, beq_iff_eq, bne_iff_ne, bs2] at h) <;> (try contradiction) <;> try (exfalso; omega))
        exact ⟨rfl, True.intro⟩
    · have hkl : k = w.length := by omega
      subst hkl
      repeat' (first | with_reducible refine Sq.go ?_ | ((with_reducible refine Ev.mk ?_); conv => whnf) | with_reducible refine Dr.mk ⟨by kernel_rfl, by kernel_rfl⟩ ?_ | with_reducible refine obG ?_ | with_reducible refine Ob.mk ?_ ?_ | (with_reducible first | refine brT fun h => ?_ | refine brF fun h => ?_ | refine Br.mk (fun h => ?_) fun h => ?_) <;> (try simp only [bsl, beq_iff_eq, bne_iff_ne, bs2] at h) <;> (try contradiction) <;> try (exfalso; omega))
      refine loop_rule hT (S := Nat) (fun k => ([(0, .d (eSwaps l)), (1, .d (eInts w)), (7, .d (.int .i64 k))], ⟨[], []⟩)) (fun k => k ≤ w.length ∧ ∀ j, j < k → folB l (w.getD j default) (nxI w j) = true) (fun k => w.length - k) 0 ?_ ?_ ?_
      · repeat' (first | exact True.intro | exact rfl | exact Nat.le_refl _ | refine And.intro ?_ ?_)
      · exact ⟨Nat.zero_le _, fun j hj => absurd hj (Nat.not_lt_zero j)⟩
      · rintro k ⟨hk, hd⟩
        dsimp only at hk hd ⊢
        by_cases hk2 : k < w.length
        · have hcy := cy_of hc hk2
          have hmod := tmod_nat k w.length
          have hlt := Nat.mod_lt (k + 1) (show 0 < w.length by omega)
          have htm : 0 ≤ ((k : Int) + 1).tmod (w.length : Int) ∧ ((k : Int) + 1).tmod (w.length : Int) < w.length := by rw [hmod]; omega
          have hinm : In .i64 (((k : Int) + 1).tmod (w.length : Int)) := in64.2 (by omega)
          have hy : w.getD (((k : Int) + 1).tmod (w.length : Int)).toNat default = nxI w k := by rw [hmod, Int.toNat_natCast]; rfl
          have a1 := hc k hk2
          obtain ⟨jn, hjn, hnj⟩ := nx_mem hk2
          have a2 := hc jn hjn
          unfold okI at a1 a2
          rw [Bool.and_eq_true] at a1 a2
          have hyb : 0 ≤ w.getD (((k : Int) + 1).tmod (w.length : Int)).toNat default ∧ w.getD (((k : Int) + 1).tmod (w.length : Int)).toNat default < l.length := by rw [hy, hnj]; exact wit_in a2.1
          have hxb : 0 ≤ w.getD (k : Int).toNat default ∧ w.getD (k : Int).toNat default < l.length := wit_in a1.1
          cases hf : folB l (w.getD k default) (nxI w k)
          · have hno : isC l w = false := isC_no hk2 (by rw [hcy, hf])
            rw [hno]
            rw [← hy] at hf
            repeat' (first | with_reducible refine Sq.go ?_ | ((with_reducible refine Ev.mk ?_); conv => whnf) | with_reducible refine Dr.mk ⟨by kernel_rfl, by kernel_rfl⟩ ?_ | with_reducible refine obG ?_ | with_reducible refine Ob.mk ?_ ?_ | (with_reducible first | refine brT fun h => ?_ | refine brF fun h => ?_ | refine Br.mk (fun h => ?_) fun h => ?_) <;> (try simp only [bsl, beq_iff_eq, bne_iff_ne, bs2] at h) <;> (try contradiction) <;> try (exfalso; omega))
            · exact ⟨rfl, True.intro⟩
            · exfalso
              unfold folB at hf
              rw [decide_eq_true h.1, decide_eq_true h.2] at hf
              cases hf
          · have hf0 := hf
            rw [← hy] at hf
            unfold folB at hf
            rw [Bool.and_eq_true, decide_eq_true_eq, decide_eq_true_eq] at hf
            repeat' (first | with_reducible refine Sq.go ?_ | ((with_reducible refine Ev.mk ?_); conv => whnf) | with_reducible refine Dr.mk ⟨by kernel_rfl, by kernel_rfl⟩ ?_ | with_reducible refine obG ?_ | with_reducible refine Ob.mk ?_ ?_ | (with_reducible first | refine brT fun h => ?_ | refine brF fun h => ?_ | refine Br.mk (fun h => ?_) fun h => ?_) <;> (try simp only [bsl, beq_iff_eq, bne_iff_ne, bs2] at h) <;> (try contradiction) <;> try (exfalso; omega))
            · refine ⟨k + 1, ⟨by show k + 1 ≤ w.length; omega, fun j hj => ?_⟩, by show w.length - (k + 1) < w.length - k; omega, ?_⟩
              · rcases Nat.lt_succ_iff_lt_or_eq.1 hj with h | rfl
                · exact hd j h
                · exact hf0
              repeat' (first | exact True.intro | exact rfl | exact Nat.le_refl _ | refine And.intro ?_ ?_)
        · have hkl : k = w.length := by omega
          have hyes : isC l w = true := isC_yes h2 fun j hj => by rw [cy_of hc hj]; exact hd j (by omega)
          rw [hyes]
          repeat' (first | with_reducible refine Sq.go ?_ | ((with_reducible refine Ev.mk ?_); conv => whnf) | with_reducible refine Dr.mk ⟨by kernel_rfl, by kernel_rfl⟩ ?_ | with_reducible refine obG ?_ | with_reducible refine Ob.mk ?_ ?_ | (with_reducible first | refine brT fun h => ?_ | refine brF fun h => ?_ | refine Br.mk (fun h => ?_) fun h => ?_) <;> (try simp only [bsl, beq_iff_eq, bne_iff_ne, bs2] at h) <;> (try contradiction) <;> try (exfalso; omega))
          exact ⟨rfl, True.intro⟩
end Go.Proofs.Ytnhadilbebgbjaa
