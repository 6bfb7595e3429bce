/-
  Swaps: slices.Clone, slices.DeleteFunc, Drop.
-/
import Derived.Test.YtnhadilbebgbjaaSwapF
import Derived.Test.YtnhadilbebgbjaaOpsD
namespace Go.Proofs.Ytnhadilbebgbjaa
set_option linter.unusedSimpArgs false
set_option linter.unusedVariables false
open Go Go.Ab
set_option maxRecDepth 100000
set_option maxHeartbeats 0
theorem drop1'_ok (st : Int) (b : Bun) (s : Swap) : Pure Try.prog 35 [.agg (eSwap s), .pt [.int .i64 st] 0, .pt (eBun b) 0] [.bool (offW st b s)] := by
  have h := drop1_ok st b s
  rw [show (decide (s.student = st) && decide (s.give = b)) = offW st b s by
    rw [offW, show decide (s.give = b) = (decide (s.give.sec = b.sec) && decide (s.give.lab = b.lab)) by rw [Bool.eq_iff_iff, Bool.and_eq_true, decide_eq_true_eq, decide_eq_true_eq, decide_eq_true_eq, bun_eq]]] at h
  exact h
theorem dropW_all {st : Int} {b : Bun} : ∀ {q : List Swap}, (∀ x ∈ q, offW st b x = false) → dropW st b q = q := fun {q} h => List.filter_eq_self.2 fun x hx => by rw [h x hx]; rfl
theorem idxSw2_ok (xs : List Swap) (hx : xs.length ≤ 1000000) (f : FuncId) (c0 c1 : D) (p : Swap → Bool) (hp : ∀ s, s ∈ xs → Pure Try.prog f [.agg (eSwap s), c0, c1] [.bool (p s)]) :
    Pure Try.prog 57 [eSwaps xs, .fn (.func f) [] [c0, c1]] [.int .i64 (ix p xs 0)] := by
  refine pure_rule hT (T := tab) (N := 19) (rs := [.tmp 4]) Try.func57 rfl rfl rfl (by kernel_rfl) rfl ?_
  repeat' (first | with_reducible refine Sq.go ?_ | ((with_reducible refine Ev.mk ?_); conv => whnf) | with_reducible refine Dr.mk ⟨by kernel_rfl, by kernel_rfl⟩ ?_ | with_reducible refine obG ?_ | with_reducible refine Ob.mk ?_ ?_ | (with_reducible first | refine brT fun h => ?_ | refine brF fun h => ?_ | refine Br.mk (fun h => ?_) fun h => ?_) <;> (try simp only [bsl, beq_iff_eq, bne_iff_ne, bs2] at h) <;> (try contradiction) <;> try (exfalso; omega))
  refine loop_rule hT (S := Nat) (fun k => ([(0, .d (eSwaps xs)), (1, .d (.fn (.func f) [] [c0, c1])), (7, .d (.int .i64 xs.length)), (8, .d (.int .i64 k))], ⟨[], []⟩)) (fun k => k ≤ xs.length ∧ ix p xs 0 = ix p (xs.drop k) k) (fun k => xs.length - k) 0 ?_ ?_ ?_
  · repeat' (first | exact True.intro | exact rfl | exact Nat.le_refl _ | refine And.intro ?_ ?_)
  · exact ⟨Nat.zero_le _, rfl⟩
  · rintro k ⟨hk, hc⟩
    repeat' (first | with_reducible refine Sq.go ?_ | ((with_reducible refine Ev.mk ?_); conv => whnf) | with_reducible refine Dr.mk ⟨by kernel_rfl, by kernel_rfl⟩ ?_ | with_reducible refine obG ?_ | with_reducible refine Ob.mk ?_ ?_ | (with_reducible first | refine brT fun h => ?_ | refine brF fun h => ?_ | refine Br.mk (fun h => ?_) fun h => ?_) <;> (try simp only [bsl, beq_iff_eq, bne_iff_ne, bs2] at h) <;> (try contradiction) <;> try (exfalso; omega))
    · refine ⟨⟨f, [], [.d c0, .d c1], .inr ⟨[], [c0, c1], rfl, rfl, rfl⟩, (hp (xs.getD k default) (getD_mem (by omega))).call ?_⟩⟩
      repeat' (first | with_reducible refine Sq.go ?_ | ((with_reducible refine Ev.mk ?_); conv => whnf) | with_reducible refine Dr.mk ⟨by kernel_rfl, by kernel_rfl⟩ ?_ | with_reducible refine obG ?_ | with_reducible refine Ob.mk ?_ ?_ | (with_reducible first | refine brT fun h => ?_ | refine brF fun h => ?_ | refine Br.mk (fun h => ?_) fun h => ?_) <;> (try simp only [bsl, beq_iff_eq, bne_iff_ne, bs2] at h) <;> (try contradiction) <;> try (exfalso; omega))
      · refine ⟨congrArg (D.int .i64) ?_, True.intro⟩
        rw [hc, drop_at (by omega), ix, if_pos h]
      · refine ⟨k + 1, ⟨by show k + 1 ≤ xs.length; omega, ?_⟩, by show xs.length - (k + 1) < xs.length - k; omega, ?_⟩
        · rw [hc, drop_at (by omega), ix, if_neg (by rw [h]; exact Bool.false_ne_true)]
          rfl
        · repeat' (first | exact True.intro | exact rfl | exact Nat.le_refl _ | refine And.intro ?_ ?_)
    · refine ⟨congrArg (D.int .i64) ?_, True.intro⟩
      have : k = xs.length := by omega
      rw [hc]
      simp [this, ix]
theorem clone_ok (q : List Swap) (hq : q.length ≤ 1000) : CallVC Try.prog 34 [.d (eSwaps q)] ⟨[], []⟩
    (Ret (fun g : Nat => ([.osl (.loc 0) g 0 q.length], ⟨[some (.vec 26 7 g q.length (rowsW q))], []⟩)) fun _ => True) := by
  refine call_rule hT (T := tab) (N := 8) (rs := [.tmp 2]) _ _ Try.func34 rfl rfl rfl (by kernel_rfl) rfl ?_
  repeat' (first | with_reducible refine Sq.go ?_ | ((with_reducible refine Ev.mk ?_); conv => whnf) | with_reducible refine Dr.mk ⟨by kernel_rfl, by kernel_rfl⟩ ?_ | with_reducible refine obG ?_ | with_reducible refine Ob.mk ?_ ?_ | (with_reducible first | refine brT fun h => ?_ | refine brF fun h => ?_ | refine Br.mk (fun h => ?_) fun h => ?_) <;> (try simp only [bsl, beq_iff_eq, bne_iff_ne, bs2] at h) <;> (try contradiction) <;> try (exfalso; omega))
  refine op_isnil rfl Try.underlying22 rfl rfl (fun b hb => ?_)
  cases b
  · repeat' (first | with_reducible refine Sq.go ?_ | ((with_reducible refine Ev.mk ?_); conv => whnf) | with_reducible refine Dr.mk ⟨by kernel_rfl, by kernel_rfl⟩ ?_ | with_reducible refine obG ?_ | with_reducible refine Ob.mk ?_ ?_ | (with_reducible first | refine brT fun h => ?_ | refine brF fun h => ?_ | refine Br.mk (fun h => ?_) fun h => ?_) <;> (try simp only [bsl, beq_iff_eq, bne_iff_ne, bs2] at h) <;> (try contradiction) <;> try (exfalso; omega))
    refine ⟨1, True.intro, ?_, rfl⟩
    repeat' (first | exact True.intro | exact rfl | exact Nat.le_refl _ | refine And.intro ?_ ?_)
    · show AV.osl (.loc 0) (0 + 1) 0 (0 + q.length) = AV.osl (.loc 0) 1 0 q.length
      rw [Nat.zero_add q.length]
    · show q.length ≤ 0 + q.length
      omega
    all_goals first
      | (show 0 + q.length = q.length
         omega)
      | (show 0 + q.length ≤ q.length
         omega)
      | (show q.length = 0 + q.length
         omega)
      | (intro j hj
         refine ⟨?_, rfl⟩
         rw [joinF, show j.blt 0 = false from rfl]
         rfl)
  · have h0 : q = [] := List.eq_nil_of_length_eq_zero (hb rfl)
    subst h0
    repeat' (first | ((with_reducible refine Ev.mk ?_); conv => whnf) | with_reducible refine Dr.mk ⟨by kernel_rfl, by kernel_rfl⟩ ?_ | with_reducible refine obG ?_ | with_reducible refine Ob.mk ?_ ?_ | (with_reducible first | refine brT fun h => ?_ | refine brF fun h => ?_ | refine Br.mk (fun h => ?_) fun h => ?_) <;> (try simp only [bsl, beq_iff_eq, bne_iff_ne, bs2] at h) <;> (try contradiction) <;> try (exfalso; omega))
    refine Sq.go ?_
    repeat' (first | ((with_reducible refine Ev.mk ?_); conv => whnf) | with_reducible refine Dr.mk ⟨by kernel_rfl, by kernel_rfl⟩ ?_ | with_reducible refine obG ?_ | with_reducible refine Ob.mk ?_ ?_ | (with_reducible first | refine brT fun h => ?_ | refine brF fun h => ?_ | refine Br.mk (fun h => ?_) fun h => ?_) <;> (try simp only [bsl, beq_iff_eq, bne_iff_ne, bs2] at h) <;> (try contradiction) <;> try (exfalso; omega))
    refine Sq.alt (Awp.vec 2 26 7 (rowsW []) rfl (vc_ok hT _ _ _ _ (Ev.o ?_)))
    repeat' (first | with_reducible refine Sq.go ?_ | ((with_reducible refine Ev.mk ?_); conv => whnf) | with_reducible refine Dr.mk ⟨by kernel_rfl, by kernel_rfl⟩ ?_ | with_reducible refine obG ?_ | with_reducible refine Ob.mk ?_ ?_ | (with_reducible first | refine brT fun h => ?_ | refine brF fun h => ?_ | refine Br.mk (fun h => ?_) fun h => ?_) <;> (try simp only [bsl, beq_iff_eq, bne_iff_ne, bs2] at h) <;> (try contradiction) <;> try (exfalso; omega))
    refine ⟨0, True.intro, ?_, rfl⟩
    repeat' (first | exact True.intro | exact rfl | exact Nat.le_refl _ | refine And.intro ?_ ?_)
    all_goals (intro j hj; exact absurd hj (Nat.not_lt_zero j))
theorem ix_none {α : Type} (p : α → Bool) : ∀ (xs : List α) (k : Int), 0 ≤ k → ix p xs k = -1 → ∀ x ∈ xs, p x = false
  | [], _, _, _ => fun x hx => by cases hx
  | y :: r, k, hk, h => fun x hx => by
    unfold ix at h
    split at h
    · omega
    · rename_i hp
      rcases List.mem_cons.1 hx with rfl | hx
      · simpa using hp
      · exact ix_none p r (k + 1) (by omega) h x hx
theorem ix_first {α : Type} [Inhabited α] (p : α → Bool) : ∀ (xs : List α) (k : Int), 0 ≤ k → ∀ n : Nat, ix p xs k = k + n → n < xs.length ∧ p (xs.getD n default) = true ∧ ∀ x ∈ xs.take n, p x = false
  | [], k, hk, n, h => by simp [ix] at h; omega
  | y :: r, k, hk, n, h => by
    unfold ix at h
    split at h
    · rename_i hp
      have : n = 0 := by omega
      subst this
      exact ⟨by simp, hp, fun x hx => by simp at hx⟩
    · rename_i hp
      cases n with
      | zero =>
        have := ix_lt p r (k + 1) (by omega)
        have h2 : ∀ (ys : List α) (j : Int), 0 ≤ j → ix p ys j = -1 ∨ j ≤ ix p ys j := by
          intro ys
          induction ys with
          | nil => intro j _; exact .inl rfl
          | cons z zs ih =>
            intro j hj
            unfold ix
            split
            · exact .inr (Int.le_refl _)
            · rcases ih (j + 1) (by omega) with h | h
              · exact .inl h
              · exact .inr (by omega)
        rcases h2 r (k + 1) (by omega) with h3 | h3 <;> omega
      | succ n =>
        obtain ⟨h1, h2, h3⟩ := ix_first p r (k + 1) (by omega) n (by omega)
        refine ⟨by simp; omega, by simpa using h2, fun x hx => ?_⟩
        rw [List.take_succ_cons] at hx
        rcases List.mem_cons.1 hx with rfl | hx
        · simpa using hp
        · exact h3 x hx
theorem delete_ok (st : Int) (b : Bun) (q : List Swap) (hq : q.length ≤ 1000) (g : Nat) :
    CallVC Try.prog 33 [.osl (.arg 0) g 0 q.length, .fn (.func 35) [] [.ptr (.arg 1) 0 0 0, .ptr (.arg 2) 0 0 0]]
      ⟨[], [some (.vec 26 7 g q.length (rowsW q)), some (.box 3 [.d (.int .i64 st)]), some (.box 24 (up (eBun b)))]⟩
    (Ret (fun _ : Unit => ([.osl (.arg 0) g 0 (dropW st b q).length],
      ⟨[], [some (.vec 26 7 g (dropW st b q).length (rowsW (dropW st b q))), some (.box 3 [.d (.int .i64 st)]), some (.box 24 (up (eBun b)))]⟩
      )) fun _ => True) := by
  refine call_rule hT (T := tab) (N := 42) (rs := [.tmp 4]) _ _ Try.func33 rfl rfl rfl (by kernel_rfl) rfl ?_
  have hI := idxSw2_ok q (by omega) 35 (.pt [.int .i64 st] 0) (.pt (eBun b) 0) (offW st b) (fun x _ => drop1'_ok st b x)
  obtain ⟨i, hi⟩ : ∃ i, ix (offW st b) q 0 = i := ⟨_, rfl⟩
  have hlt := ix_lt (offW st b) q 0 (by decide)
  rw [hi] at hI hlt
  by_cases hi1 : i = -1
  · subst hi1
    have hk : dropW st b q = q := dropW_all (ix_none _ q 0 (by decide) hi)
    rw [hk]
    repeat' (first | with_reducible refine Sq.go ?_ | ((with_reducible refine Ev.mk ?_); conv => whnf) | with_reducible refine Dr.mk ⟨by kernel_rfl, by kernel_rfl⟩ ?_ | with_reducible refine obG ?_ | with_reducible refine Ob.mk ?_ ?_ | (with_reducible first | refine brT fun h => ?_ | refine brF fun h => ?_ | refine Br.mk (fun h => ?_) fun h => ?_) <;> (try simp only [bsl, beq_iff_eq, bne_iff_ne, bs2] at h) <;> (try contradiction) <;> try (exfalso; omega))
    refine hI.loan rfl ⟨.rows rfl (by omega) (fun i hi => by rw [Nat.zero_add]; rfl), .fn' True.intro ⟨.ptr' rfl ⟨.d, True.intro⟩, .ptr' rfl (BecL.up _), True.intro⟩, True.intro⟩ ?_
    repeat' (first | with_reducible refine Sq.go ?_ | ((with_reducible refine Ev.mk ?_); conv => whnf) | with_reducible refine Dr.mk ⟨by kernel_rfl, by kernel_rfl⟩ ?_ | with_reducible refine obG ?_ | with_reducible refine Ob.mk ?_ ?_ | (with_reducible first | refine brT fun h => ?_ | refine brF fun h => ?_ | refine Br.mk (fun h => ?_) fun h => ?_) <;> (try simp only [bsl, beq_iff_eq, bne_iff_ne, bs2] at h) <;> (try contradiction) <;> try (exfalso; omega))
    refine ⟨(), True.intro, ?_, rfl⟩
    repeat' (first | exact True.intro | exact rfl | exact Nat.le_refl _ | refine And.intro ?_ ?_)
    all_goals (intro j hj; exact ⟨rfl, rfl⟩)
  · obtain ⟨n, rfl⟩ : ∃ n : Nat, i = n := ⟨i.toNat, by omega⟩
    obtain ⟨hn1, hn2, hn3⟩ := ix_first (offW st b) q 0 (by decide) n (by rw [hi]; omega)
    have hk0 : dropW st b (q.take n) = q.take n := dropW_all hn3
    have hk1 : dropW st b (q.take (n + 1)) = q.take n := by rw [take_succ_at hn1, dropW_snoc, if_pos hn2, hk0]
    have hnl : (q.take n).length = n := by rw [List.length_take]; omega
    repeat' (first | with_reducible refine Sq.go ?_ | ((with_reducible refine Ev.mk ?_); conv => whnf) | with_reducible refine Dr.mk ⟨by kernel_rfl, by kernel_rfl⟩ ?_ | with_reducible refine obG ?_ | with_reducible refine Ob.mk ?_ ?_ | (with_reducible first | refine brT fun h => ?_ | refine brF fun h => ?_ | refine Br.mk (fun h => ?_) fun h => ?_) <;> (try simp only [bsl, beq_iff_eq, bne_iff_ne, bs2] at h) <;> (try contradiction) <;> try (exfalso; omega))
    refine hI.loan rfl ⟨.rows rfl (by omega) (fun i hi => by rw [Nat.zero_add]; rfl), .fn' True.intro ⟨.ptr' rfl ⟨.d, True.intro⟩, .ptr' rfl (BecL.up _), True.intro⟩, True.intro⟩ ?_
    repeat' (first | with_reducible refine Sq.go ?_ | ((with_reducible refine Ev.mk ?_); conv => whnf) | with_reducible refine Dr.mk ⟨by kernel_rfl, by kernel_rfl⟩ ?_ | with_reducible refine obG ?_ | with_reducible refine Ob.mk ?_ ?_ | (with_reducible first | refine brT fun h => ?_ | refine brF fun h => ?_ | refine Br.mk (fun h => ?_) fun h => ?_) <;> (try simp only [bsl, beq_iff_eq, bne_iff_ne, bs2] at h) <;> (try contradiction) <;> try (exfalso; omega))
    refine loop_rule hT (S := Nat × List Swap) (fun z => ([(0, .osl (.arg 0) g 0 q.length), (1, .fn (.func 35) [] [.ptr (.arg 1) 0 0 0, .ptr (.arg 2) 0 0 0]), (5, .d (.int .i64 ((dropW st b (q.take z.1)).length : Int))), (6, .d (.int .i64 z.1))],
      ⟨[], [some (.vec 26 7 g q.length (rowsW z.2)), some (.box 3 [.d (.int .i64 st)]), some (.box 24 (up (eBun b)))]⟩
      )) (fun z => z.1 ≤ q.length ∧ z.2.length = q.length ∧ (dropW st b (q.take z.1)).length < z.1 ∧ z.2.take (dropW st b (q.take z.1)).length = dropW st b (q.take z.1) ∧ ∀ i, (dropW st b (q.take z.1)).length ≤ i → z.2.getD i default = q.getD i default) (fun z => q.length - z.1) (n + 1, q) ?_ ?_ ?_
    · dsimp only
      rw [hk1, hnl]
      repeat' (first | exact True.intro | exact rfl | exact Nat.le_refl _ | refine And.intro ?_ ?_)
      all_goals first
        | (intro j hj; exact ⟨rfl, rfl⟩)
        | (show _ = _; simp)
    · refine ⟨by show n + 1 ≤ q.length; omega, rfl, ?_, ?_, ?_⟩
      · show (dropW st b (q.take (n + 1))).length < n + 1
        rw [hk1, hnl]
        omega
      · show q.take (dropW st b (q.take (n + 1))).length = _
        rw [hk1, hnl]
      · exact fun i _ => rfl
    · rintro ⟨j, L⟩ ⟨hj, hL, hc, ht, hr⟩
      dsimp only at hj hL hc ht hr ⊢
      obtain ⟨c, hcd⟩ : ∃ c, (dropW st b (q.take j)).length = c := ⟨_, rfl⟩
      rw [hcd] at hc ht hr ⊢
      by_cases hj2 : j < q.length
      · have hx := hr j (by omega)
        have hcall := drop1'_ok st b (L.getD j default)
        have hks := dropW_snoc st b (q.take j) (q.getD j default)
        rw [← take_succ_at hj2, ← hx] at hks
        by_cases hp : offW st b (L.getD j default) = true
        · rw [hp] at hcall
          rw [if_pos hp] at hks
          repeat' (first | with_reducible refine Sq.go ?_ | ((with_reducible refine Ev.mk ?_); conv => whnf) | with_reducible refine Dr.mk ⟨by kernel_rfl, by kernel_rfl⟩ ?_ | with_reducible refine obG ?_ | with_reducible refine Ob.mk ?_ ?_ | (with_reducible first | refine brT fun h => ?_ | refine brF fun h => ?_ | refine Br.mk (fun h => ?_) fun h => ?_) <;> (try simp only [bsl, beq_iff_eq, bne_iff_ne, bs2] at h) <;> (try contradiction) <;> try (exfalso; omega))
          refine ⟨⟨_, [], [.ptr (.arg 1) 0 0 0, .ptr (.arg 2) 0 0 0], .inl rfl, hcall.loan rfl ⟨.d, .ptr' rfl ⟨.d, True.intro⟩, .ptr' rfl (BecL.up _), True.intro⟩ ?_⟩⟩
          repeat' (first | with_reducible refine Sq.go ?_ | ((with_reducible refine Ev.mk ?_); conv => whnf) | with_reducible refine Dr.mk ⟨by kernel_rfl, by kernel_rfl⟩ ?_ | with_reducible refine obG ?_ | with_reducible refine Ob.mk ?_ ?_ | (with_reducible first | refine brT fun h => ?_ | refine brF fun h => ?_ | refine Br.mk (fun h => ?_) fun h => ?_) <;> (try simp only [bsl, beq_iff_eq, bne_iff_ne, bs2] at h) <;> (try contradiction) <;> try (exfalso; omega))
          refine ⟨(j + 1, L), ⟨by show j + 1 ≤ q.length; omega, hL, ?_, ?_, ?_⟩, by show q.length - (j + 1) < q.length - j; omega, ?_⟩
          · dsimp only
            rw [hks]
            omega
          · dsimp only
            rw [hks, hcd]
            exact ht
          · dsimp only
            rw [hks, hcd]
            exact hr
          · dsimp only
            rw [hks, hcd]
            repeat' (first | exact True.intro | exact rfl | exact Nat.le_refl _ | refine And.intro ?_ ?_)
            all_goals (intro j hj; exact ⟨rfl, rfl⟩)
        · have hp' : offW st b (L.getD j default) = false := by simpa using hp
          rw [hp'] at hcall
          rw [if_neg hp] at hks
          have hkl : (dropW st b (q.take j) ++ [L.getD j default]).length = c + 1 := by rw [len_snoc, hcd]
          repeat' (first | with_reducible refine Sq.go ?_ | ((with_reducible refine Ev.mk ?_); conv => whnf) | with_reducible refine Dr.mk ⟨by kernel_rfl, by kernel_rfl⟩ ?_ | with_reducible refine obG ?_ | with_reducible refine Ob.mk ?_ ?_ | (with_reducible first | refine brT fun h => ?_ | refine brF fun h => ?_ | refine Br.mk (fun h => ?_) fun h => ?_) <;> (try simp only [bsl, beq_iff_eq, bne_iff_ne, bs2] at h) <;> (try contradiction) <;> try (exfalso; omega))
          refine ⟨⟨_, [], [.ptr (.arg 1) 0 0 0, .ptr (.arg 2) 0 0 0], .inl rfl, hcall.loan rfl ⟨.d, .ptr' rfl ⟨.d, True.intro⟩, .ptr' rfl (BecL.up _), True.intro⟩ ?_⟩⟩
          repeat' (first | with_reducible refine Sq.go ?_ | ((with_reducible refine Ev.mk ?_); conv => whnf) | with_reducible refine Dr.mk ⟨by kernel_rfl, by kernel_rfl⟩ ?_ | with_reducible refine obG ?_ | with_reducible refine Ob.mk ?_ ?_ | (with_reducible first | refine brT fun h => ?_ | refine brF fun h => ?_ | refine Br.mk (fun h => ?_) fun h => ?_) <;> (try simp only [bsl, beq_iff_eq, bne_iff_ne, bs2] at h) <;> (try contradiction) <;> try (exfalso; omega))
          refine ⟨(j + 1, L.set c (L.getD j default)), ⟨by show j + 1 ≤ q.length; omega, by show (L.set _ _).length = _; rw [List.length_set, hL], ?_, ?_, ?_⟩, by show q.length - (j + 1) < q.length - j; omega, ?_⟩
          · dsimp only
            rw [hks, hkl]
            omega
          · dsimp only
            rw [hks, hkl, ← ht, take_succ_at (by rw [List.length_set]; omega)]
            rw [List.take_set_of_le (Nat.le_refl _)]
            congr 2
            simp [List.getD_eq_getElem?_getD, List.getElem?_set, show c < L.length by omega]
          · dsimp only
            rw [hks, hkl]
            intro i hi
            rw [← hr i (by omega)]
            simp [List.getD_eq_getElem?_getD, List.getElem?_set, show c ≠ i by omega]
          · dsimp only
            rw [hks, hkl]
            repeat' (first | exact True.intro | exact rfl | exact Nat.le_refl _ | refine And.intro ?_ ?_)
            intro i hi
            refine ⟨?_, rfl⟩
            dsimp only
            by_cases hic : i = c
            · subst hic
              have hb : i.beq (oadd 0 (i : Int).toNat) = true := Nat.beq_refl i
              rw [hb]
              have hset : (L.set i (L.getD j default)).getD i default = L.getD j default := by simp [List.getD_eq_getElem?_getD, List.getElem?_set, show i < L.length by omega]
              unfold rowsW
              rw [hset]
              rfl
            · have hb : i.beq (oadd 0 (c : Int).toNat) = false := by
                cases e : i.beq (oadd 0 (c : Int).toNat) with
                | false => rfl
                | true => exact absurd (Nat.eq_of_beq_eq_true e) hic
              rw [hb]
              have hset : (L.set c (L.getD j default)).getD i default = L.getD i default := by simp [List.getD_eq_getElem?_getD, List.getElem?_set, show c ≠ i from fun e => hic e.symm]
              unfold rowsW
              rw [hset]
              rfl
      · have hjn : j = q.length := by omega
        rw [hjn, List.take_length] at hcd ht
        repeat' (first | with_reducible refine Sq.go ?_ | ((with_reducible refine Ev.mk ?_); conv => whnf) | with_reducible refine Dr.mk ⟨by kernel_rfl, by kernel_rfl⟩ ?_ | with_reducible refine obG ?_ | with_reducible refine Ob.mk ?_ ?_ | (with_reducible first | refine brT fun h => ?_ | refine brF fun h => ?_ | refine Br.mk (fun h => ?_) fun h => ?_) <;> (try simp only [bsl, beq_iff_eq, bne_iff_ne, bs2] at h) <;> (try contradiction) <;> try (exfalso; omega))
        refine op_clear hT rfl rfl rfl rfl (by show 0 + (c : Int).toNat ≤ _; omega) ?_
        conv => whnf
        repeat' (first | with_reducible refine Sq.go ?_ | ((with_reducible refine Ev.mk ?_); conv => whnf) | with_reducible refine Dr.mk ⟨by kernel_rfl, by kernel_rfl⟩ ?_ | with_reducible refine obG ?_ | with_reducible refine Ob.mk ?_ ?_ | (with_reducible first | refine brT fun h => ?_ | refine brF fun h => ?_ | refine Br.mk (fun h => ?_) fun h => ?_) <;> (try simp only [bsl, beq_iff_eq, bne_iff_ne, bs2] at h) <;> (try contradiction) <;> try (exfalso; omega))
        refine ⟨(), True.intro, ?_, rfl⟩
        have hcl : c ≤ L.length := by rw [hL]; omega
        rw [hcd]
        repeat' (first | exact True.intro | exact rfl | exact Nat.le_refl _ | refine And.intro ?_ ?_)
        all_goals first
          | (show c ≤ 0 + c; omega)
          | (intro i hi
             refine ⟨?_, rfl⟩
             unfold rowsW
             rw [← ht]
             simp [List.getD_eq_getElem?_getD, List.getElem?_take, hi])
end Go.Proofs.Ytnhadilbebgbjaa
