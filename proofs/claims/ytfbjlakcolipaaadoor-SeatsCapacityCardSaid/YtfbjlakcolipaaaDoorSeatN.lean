/-
  Seats: Leave.
-/
import Derived.Test.YtfbjlakcolipaaaDoorSeatL
import Derived.Test.YtfbjlakcolipaaaDoorOpsD
namespace Go.Proofs.YtfbjlakcolipaaaDoor
set_option linter.unusedSimpArgs false
set_option linter.unusedVariables false
open Go Go.Ab
set_option maxRecDepth 100000
set_option maxHeartbeats 0
theorem partsI_len (b : Bun) : (partsI b).length ≤ 2 := by
  unfold partsI
  split <;> simp
theorem leave1_ok (st : Int) (b : Bun) (x : Seat) : Pure Tryd.prog 36 [.agg (eSeat x), .pt [.int .i64 st] 0, .pt (eBun b) 0] [.bool (ofPart st b x)] := by
  refine pure_rule hT (T := tab) (N := 16) (rs := [.tmp 4]) Tryd.func36 rfl rfl rfl (by kernel_rfl) rfl ?_
  by_cases h : x.student = st
  · have hP := partsI_ok b
    have hC := hasInt_ok (partsI b) (by have := partsI_len b; omega) x.sec
    repeat' (first | with_reducible refine Sq.go ?_ | ((with_reducible refine Ev.mk ?_); conv => whnf) | with_reducible refine Dr.mk ⟨by kernel_rfl, by kernel_rfl⟩ ?_ | with_reducible refine obG ?_ | with_reducible refine Ob.mk ?_ ?_ | (with_reducible first | refine brT fun h => ?_ | refine brF fun h => ?_ | refine Br.mk (fun h => ?_) fun h => ?_) <;> (try simp only [bsl, beq_iff_eq, bne_iff_ne, bs2] at h) <;> (try contradiction) <;> try (exfalso; omega))
    refine qC hP ?_
    repeat' (first | with_reducible refine Sq.go ?_ | ((with_reducible refine Ev.mk ?_); conv => whnf) | with_reducible refine Dr.mk ⟨by kernel_rfl, by kernel_rfl⟩ ?_ | with_reducible refine obG ?_ | with_reducible refine Ob.mk ?_ ?_ | (with_reducible first | refine brT fun h => ?_ | refine brF fun h => ?_ | refine Br.mk (fun h => ?_) fun h => ?_) <;> (try simp only [bsl, beq_iff_eq, bne_iff_ne, bs2] at h) <;> (try contradiction) <;> try (exfalso; omega))
    refine qC hC ?_
    repeat' (first | with_reducible refine Sq.go ?_ | ((with_reducible refine Ev.mk ?_); conv => whnf) | with_reducible refine Dr.mk ⟨by kernel_rfl, by kernel_rfl⟩ ?_ | with_reducible refine obG ?_ | with_reducible refine Ob.mk ?_ ?_ | (with_reducible first | refine brT fun h => ?_ | refine brF fun h => ?_ | refine Br.mk (fun h => ?_) fun h => ?_) <;> (try simp only [bsl, beq_iff_eq, bne_iff_ne, bs2] at h) <;> (try contradiction) <;> try (exfalso; omega))
    refine ⟨congrArg D.bool ?_, True.intro⟩
    rw [ofPart, decide_eq_true h, Bool.true_and]
    rfl
  · repeat' (first | with_reducible refine Sq.go ?_ | ((with_reducible refine Ev.mk ?_); conv => whnf) | with_reducible refine Dr.mk ⟨by kernel_rfl, by kernel_rfl⟩ ?_ | with_reducible refine obG ?_ | with_reducible refine Ob.mk ?_ ?_ | (with_reducible first | refine brT fun h => ?_ | refine brF fun h => ?_ | refine Br.mk (fun h => ?_) fun h => ?_) <;> (try simp only [bsl, beq_iff_eq, bne_iff_ne, bs2] at h) <;> (try contradiction) <;> try (exfalso; omega))
    refine ⟨congrArg D.bool ?_, True.intro⟩
    rw [ofPart, decide_eq_false h, Bool.false_and]
    rfl
theorem idxSeat2_ok (xs : List Seat) (hx : xs.length ≤ 1000000) (f : FuncId) (c0 c1 : D) (p : Seat → Bool) (hp : ∀ s, s ∈ xs → Pure Tryd.prog f [.agg (eSeat s), c0, c1] [.bool (p s)]) :
    Pure Tryd.prog 51 [eSeats xs, .fn (.func f) [] [c0, c1]] [.int .i64 (ix p xs 0)] := by
  refine pure_rule hT (T := tab) (N := 19) (rs := [.tmp 4]) Tryd.func51 rfl rfl rfl (by kernel_rfl) rfl ?_
  repeat' (first | with_reducible refine Sq.go ?_ | ((with_reducible refine Ev.mk ?_); conv => whnf) | with_reducible refine Dr.mk ⟨by kernel_rfl, by kernel_rfl⟩ ?_ | with_reducible refine obG ?_ | with_reducible refine Ob.mk ?_ ?_ | (with_reducible first | refine brT fun h => ?_ | refine brF fun h => ?_ | refine Br.mk (fun h => ?_) fun h => ?_) <;> (try simp only [bsl, beq_iff_eq, bne_iff_ne, bs2] at h) <;> (try contradiction) <;> try (exfalso; omega))
  refine loop_rule hT (S := Nat) (fun k => ([(0, .d (eSeats xs)), (1, .d (.fn (.func f) [] [c0, c1])), (7, .d (.int .i64 xs.length)), (8, .d (.int .i64 k))], ⟨[], []⟩)) (fun k => k ≤ xs.length ∧ ix p xs 0 = ix p (xs.drop k) k) (fun k => xs.length - k) 0 ?_ ?_ ?_
  · repeat' (first | exact True.intro | exact rfl | exact Nat.le_refl _ | refine And.intro ?_ ?_)
  · exact ⟨Nat.zero_le _, rfl⟩
  · rintro k ⟨hk, hc⟩
    repeat' (first | with_reducible refine Sq.go ?_ | ((with_reducible refine Ev.mk ?_); conv => whnf) | with_reducible refine Dr.mk ⟨by kernel_rfl, by kernel_rfl⟩ ?_ | with_reducible refine obG ?_ | with_reducible refine Ob.mk ?_ ?_ | (with_reducible first | refine brT fun h => ?_ | refine brF fun h => ?_ | refine Br.mk (fun h => ?_) fun h => ?_) <;> (try simp only [bsl, beq_iff_eq, bne_iff_ne, bs2] at h) <;> (try contradiction) <;> try (exfalso; omega))
    · refine ⟨⟨f, [], [.d c0, .d c1], .inr ⟨[], [c0, c1], rfl, rfl, rfl⟩, (hp (xs.getD k default) (getD_mem (by omega))).call ?_⟩⟩
      repeat' (first | with_reducible refine Sq.go ?_ | ((with_reducible refine Ev.mk ?_); conv => whnf) | with_reducible refine Dr.mk ⟨by kernel_rfl, by kernel_rfl⟩ ?_ | with_reducible refine obG ?_ | with_reducible refine Ob.mk ?_ ?_ | (with_reducible first | refine brT fun h => ?_ | refine brF fun h => ?_ | refine Br.mk (fun h => ?_) fun h => ?_) <;> (try simp only [bsl, beq_iff_eq, bne_iff_ne, bs2] at h) <;> (try contradiction) <;> try (exfalso; omega))
      · refine ⟨congrArg (D.int .i64) ?_, True.intro⟩
        rw [hc, drop_at (by omega), ix, if_pos h]
      · refine ⟨k + 1, ⟨by show k + 1 ≤ xs.length; omega, ?_⟩, by show xs.length - (k + 1) < xs.length - k; omega, ?_⟩
        · rw [hc, drop_at (by omega), ix, if_neg (by rw [h]; exact Bool.false_ne_true)]
          rfl
        · repeat' (first | exact True.intro | exact rfl | exact Nat.le_refl _ | refine And.intro ?_ ?_)
    · refine ⟨congrArg (D.int .i64) ?_, True.intro⟩
      have : k = xs.length := by omega
      rw [hc]
      simp [this, ix]
def keepS (st : Int) (b : Bun) (q : List Seat) : List Seat := q.filter fun x => !ofPart st b x
theorem keepS_snoc (st : Int) (b : Bun) (q : List Seat) (x : Seat) : keepS st b (q ++ [x]) = if ofPart st b x = true then keepS st b q else keepS st b q ++ [x] := by
  unfold keepS
  rw [List.filter_append]
  by_cases h : ofPart st b x = true <;> simp [h]
theorem keepS_len (st : Int) (b : Bun) (q : List Seat) : (keepS st b q).length ≤ q.length := List.length_filter_le _ _
theorem keepS_all {st : Int} {b : Bun} : ∀ {q : List Seat}, (∀ x ∈ q, ofPart st b x = false) → keepS st b q = q := fun {q} h => List.filter_eq_self.2 fun x hx => by rw [h x hx]; rfl
theorem ix_none {α : Type} (p : α → Bool) : ∀ (xs : List α) (k : Int), 0 ≤ k → ix p xs k = -1 → ∀ x ∈ xs, p x = false
  | [], _, _, _ => fun x hx => by cases hx
  | y :: r, k, hk, h => fun x hx => by
    unfold ix at h
    split at h
    · omega
    · rename_i hp
      rcases List.mem_cons.1 hx with rfl | hx
      · simpa using hp
      · exact ix_none p r (k + 1) (by omega) h x hx
theorem ix_first {α : Type} [Inhabited α] (p : α → Bool) : ∀ (xs : List α) (k : Int), 0 ≤ k → ∀ n : Nat, ix p xs k = k + n → n < xs.length ∧ p (xs.getD n default) = true ∧ ∀ x ∈ xs.take n, p x = false
  | [], k, hk, n, h => by simp [ix] at h; omega
  | y :: r, k, hk, n, h => by
    unfold ix at h
    split at h
    · rename_i hp
      have : n = 0 := by omega
      subst this
      exact ⟨by simp, hp, fun x hx => by simp at hx⟩
    · rename_i hp
      cases n with
      | zero =>
        have := ix_lt p r (k + 1) (by omega)
        have h2 : ∀ (ys : List α) (j : Int), 0 ≤ j → ix p ys j = -1 ∨ j ≤ ix p ys j := by
          intro ys
          induction ys with
          | nil => intro j _; exact .inl rfl
          | cons z zs ih =>
            intro j hj
            unfold ix
            split
            · exact .inr (Int.le_refl _)
            · rcases ih (j + 1) (by omega) with h | h
              · exact .inl h
              · exact .inr (by omega)
        rcases h2 r (k + 1) (by omega) with h3 | h3 <;> omega
      | succ n =>
        obtain ⟨h1, h2, h3⟩ := ix_first p r (k + 1) (by omega) n (by omega)
        refine ⟨by simp; omega, by simpa using h2, fun x hx => ?_⟩
        rw [List.take_succ_cons] at hx
        rcases List.mem_cons.1 hx with rfl | hx
        · simpa using hp
        · exact h3 x hx
theorem delete_ok (st : Int) (b : Bun) (q : List Seat) (hq : q.length ≤ 1000) (g : Nat) :
    CallVC Tryd.prog 35 [.osl (.arg 0) g 0 q.length, .fn (.func 36) [] [.ptr (.arg 1) 0 0 0, .ptr (.arg 2) 0 0 0]]
      ⟨[], [some (.vec 40 3 g q.length (rowsS q)), some (.box 3 [.d (.int .i64 st)]), some (.box 32 (up (eBun b)))]⟩
    (Ret (fun _ : Unit => ([.osl (.arg 0) g 0 (keepS st b q).length],
      ⟨[], [some (.vec 40 3 g (keepS st b q).length (rowsS (keepS st b q))), some (.box 3 [.d (.int .i64 st)]), some (.box 32 (up (eBun b)))]⟩
      )) fun _ => True) := by
  refine call_rule hT (T := tab) (N := 42) (rs := [.tmp 4]) _ _ Tryd.func35 rfl rfl rfl (by kernel_rfl) rfl ?_
  have hI := idxSeat2_ok q (by omega) 36 (.pt [.int .i64 st] 0) (.pt (eBun b) 0) (ofPart st b) (fun x _ => leave1_ok st b x)
  obtain ⟨i, hi⟩ : ∃ i, ix (ofPart st b) q 0 = i := ⟨_, rfl⟩
  have hlt := ix_lt (ofPart st b) q 0 (by decide)
  rw [hi] at hI hlt
  by_cases hi1 : i = -1
  · subst hi1
    have hk : keepS st b q = q := keepS_all (ix_none _ q 0 (by decide) hi)
    rw [hk]
    repeat' (first | with_reducible refine Sq.go ?_ | ((with_reducible refine Ev.mk ?_); conv => whnf) | with_reducible refine Dr.mk ⟨by kernel_rfl, by kernel_rfl⟩ ?_ | with_reducible refine obG ?_ | with_reducible refine Ob.mk ?_ ?_ | (with_reducible first | refine brT fun h => ?_ | refine brF fun h => ?_ | refine Br.mk (fun h => ?_) fun h => ?_) <;> (try simp only [bsl, beq_iff_eq, bne_iff_ne, bs2] at h) <;> (try contradiction) <;> try (exfalso; omega))
    refine hI.loan rfl ⟨.rows rfl (by omega) (fun i hi => by rw [Nat.zero_add]; rfl), .fn' True.intro ⟨.ptr' rfl ⟨.d, True.intro⟩, .ptr' rfl (BecL.up _), True.intro⟩, True.intro⟩ ?_
    repeat' (first | with_reducible refine Sq.go ?_ | ((with_reducible refine Ev.mk ?_); conv => whnf) | with_reducible refine Dr.mk ⟨by kernel_rfl, by kernel_rfl⟩ ?_ | with_reducible refine obG ?_ | with_reducible refine Ob.mk ?_ ?_ | (with_reducible first | refine brT fun h => ?_ | refine brF fun h => ?_ | refine Br.mk (fun h => ?_) fun h => ?_) <;> (try simp only [bsl, beq_iff_eq, bne_iff_ne, bs2] at h) <;> (try contradiction) <;> try (exfalso; omega))
    refine ⟨(), True.intro, ?_, rfl⟩
    repeat' (first | exact True.intro | exact rfl | exact Nat.le_refl _ | refine And.intro ?_ ?_)
    all_goals (intro j hj; exact ⟨rfl, rfl⟩)
  · obtain ⟨n, rfl⟩ : ∃ n : Nat, i = n := ⟨i.toNat, by omega⟩
    obtain ⟨hn1, hn2, hn3⟩ := ix_first (ofPart st b) q 0 (by decide) n (by rw [hi]; omega)
    have hk0 : keepS st b (q.take n) = q.take n := keepS_all hn3
    have hk1 : keepS st b (q.take (n + 1)) = q.take n := by rw [take_succ_at hn1, keepS_snoc, if_pos hn2, hk0]
    have hnl : (q.take n).length = n := by rw [List.length_take]; omega
    repeat' (first | with_reducible refine Sq.go ?_ | ((with_reducible refine Ev.mk ?_); conv => whnf) | with_reducible refine Dr.mk ⟨by kernel_rfl, by kernel_rfl⟩ ?_ | with_reducible refine obG ?_ | with_reducible refine Ob.mk ?_ ?_ | (with_reducible first | refine brT fun h => ?_ | refine brF fun h => ?_ | refine Br.mk (fun h => ?_) fun h => ?_) <;> (try simp only [bsl, beq_iff_eq, bne_iff_ne, bs2] at h) <;> (try contradiction) <;> try (exfalso; omega))
    refine hI.loan rfl ⟨.rows rfl (by omega) (fun i hi => by rw [Nat.zero_add]; rfl), .fn' True.intro ⟨.ptr' rfl ⟨.d, True.intro⟩, .ptr' rfl (BecL.up _), True.intro⟩, True.intro⟩ ?_
    repeat' (first | with_reducible refine Sq.go ?_ | ((with_reducible refine Ev.mk ?_); conv => whnf) | with_reducible refine Dr.mk ⟨by kernel_rfl, by kernel_rfl⟩ ?_ | with_reducible refine obG ?_ | with_reducible refine Ob.mk ?_ ?_ | (with_reducible first | refine brT fun h => ?_ | refine brF fun h => ?_ | refine Br.mk (fun h => ?_) fun h => ?_) <;> (try simp only [bsl, beq_iff_eq, bne_iff_ne, bs2] at h) <;> (try contradiction) <;> try (exfalso; omega))
    refine loop_rule hT (S := Nat × List Seat) (fun z => ([(0, .osl (.arg 0) g 0 q.length), (1, .fn (.func 36) [] [.ptr (.arg 1) 0 0 0, .ptr (.arg 2) 0 0 0]), (5, .d (.int .i64 ((keepS st b (q.take z.1)).length : Int))), (6, .d (.int .i64 z.1))],
      ⟨[], [some (.vec 40 3 g q.length (rowsS z.2)), some (.box 3 [.d (.int .i64 st)]), some (.box 32 (up (eBun b)))]⟩
      )) (fun z => z.1 ≤ q.length ∧ z.2.length = q.length ∧ (keepS st b (q.take z.1)).length < z.1 ∧ z.2.take (keepS st b (q.take z.1)).length = keepS st b (q.take z.1) ∧ ∀ i, (keepS st b (q.take z.1)).length ≤ i → z.2.getD i default = q.getD i default) (fun z => q.length - z.1) (n + 1, q) ?_ ?_ ?_
    · dsimp only
      rw [hk1, hnl]
      repeat' (first | exact True.intro | exact rfl | exact Nat.le_refl _ | refine And.intro ?_ ?_)
      all_goals first
        | (intro j hj; exact ⟨rfl, rfl⟩)
        | (show _ = _; simp)
    · refine ⟨by show n + 1 ≤ q.length; omega, rfl, ?_, ?_, ?_⟩
      · show (keepS st b (q.take (n + 1))).length < n + 1
        rw [hk1, hnl]
        omega
      · show q.take (keepS st b (q.take (n + 1))).length = _
        rw [hk1, hnl]
      · exact fun i _ => rfl
    · rintro ⟨j, L⟩ ⟨hj, hL, hc, ht, hr⟩
      dsimp only at hj hL hc ht hr ⊢
      obtain ⟨c, hcd⟩ : ∃ c, (keepS st b (q.take j)).length = c := ⟨_, rfl⟩
      rw [hcd] at hc ht hr ⊢
      by_cases hj2 : j < q.length
      · have hx := hr j (by omega)
        have hcall := leave1_ok st b (L.getD j default)
        have hks := keepS_snoc st b (q.take j) (q.getD j default)
        rw [← take_succ_at hj2, ← hx] at hks
        by_cases hp : ofPart st b (L.getD j default) = true
        · rw [hp] at hcall
          rw [if_pos hp] at hks
          repeat' (first | with_reducible refine Sq.go ?_ | ((with_reducible refine Ev.mk ?_); conv => whnf) | with_reducible refine Dr.mk ⟨by kernel_rfl, by kernel_rfl⟩ ?_ | with_reducible refine obG ?_ | with_reducible refine Ob.mk ?_ ?_ | (with_reducible first | refine brT fun h => ?_ | refine brF fun h => ?_ | refine Br.mk (fun h => ?_) fun h => ?_) <;> (try simp only [bsl, beq_iff_eq, bne_iff_ne, bs2] at h) <;> (try contradiction) <;> try (exfalso; omega))
          refine ⟨⟨_, [], [.ptr (.arg 1) 0 0 0, .ptr (.arg 2) 0 0 0], .inl rfl, hcall.loan rfl ⟨.d, .ptr' rfl ⟨.d, True.intro⟩, .ptr' rfl (BecL.up _), True.intro⟩ ?_⟩⟩
          repeat' (first | with_reducible refine Sq.go ?_ | ((with_reducible refine Ev.mk ?_); conv => whnf) | with_reducible refine Dr.mk ⟨by kernel_rfl, by kernel_rfl⟩ ?_ | with_reducible refine obG ?_ | with_reducible refine Ob.mk ?_ ?_ | (with_reducible first | refine brT fun h => ?_ | refine brF fun h => ?_ | refine Br.mk (fun h => ?_) fun h => ?_) <;> (try simp only [bsl, beq_iff_eq, bne_iff_ne, bs2] at h) <;> (try contradiction) <;> try (exfalso; omega))
          refine ⟨(j + 1, L), ⟨by show j + 1 ≤ q.length; omega, hL, ?_, ?_, ?_⟩, by show q.length - (j + 1) < q.length - j; omega, ?_⟩
          · dsimp only
            rw [hks]
            omega
          · dsimp only
            rw [hks, hcd]
            exact ht
          · dsimp only
            rw [hks, hcd]
            exact hr
          · dsimp only
            rw [hks, hcd]
            repeat' (first | exact True.intro | exact rfl | exact Nat.le_refl _ | refine And.intro ?_ ?_)
            all_goals (intro j hj; exact ⟨rfl, rfl⟩)
        · have hp' : ofPart st b (L.getD j default) = false := by simpa using hp
          rw [hp'] at hcall
          rw [if_neg hp] at hks
          have hkl : (keepS st b (q.take j) ++ [L.getD j default]).length = c + 1 := by rw [len_snoc, hcd]
          repeat' (first | with_reducible refine Sq.go ?_ | ((with_reducible refine Ev.mk ?_); conv => whnf) | with_reducible refine Dr.mk ⟨by kernel_rfl, by kernel_rfl⟩ ?_ | with_reducible refine obG ?_ | with_reducible refine Ob.mk ?_ ?_ | (with_reducible first | refine brT fun h => ?_ | refine brF fun h => ?_ | refine Br.mk (fun h => ?_) fun h => ?_) <;> (try simp only [bsl, beq_iff_eq, bne_iff_ne, bs2] at h) <;> (try contradiction) <;> try (exfalso; omega))
          refine ⟨⟨_, [], [.ptr (.arg 1) 0 0 0, .ptr (.arg 2) 0 0 0], .inl rfl, hcall.loan rfl ⟨.d, .ptr' rfl ⟨.d, True.intro⟩, .ptr' rfl (BecL.up _), True.intro⟩ ?_⟩⟩
          repeat' (first | with_reducible refine Sq.go ?_ | ((with_reducible refine Ev.mk ?_); conv => whnf) | with_reducible refine Dr.mk ⟨by kernel_rfl, by kernel_rfl⟩ ?_ | with_reducible refine obG ?_ | with_reducible refine Ob.mk ?_ ?_ | (with_reducible first | refine brT fun h => ?_ | refine brF fun h => ?_ | refine Br.mk (fun h => ?_) fun h => ?_) <;> (try simp only [bsl, beq_iff_eq, bne_iff_ne, bs2] at h) <;> (try contradiction) <;> try (exfalso; omega))
          refine ⟨(j + 1, L.set c (L.getD j default)), ⟨by show j + 1 ≤ q.length; omega, by show (L.set _ _).length = _; rw [List.length_set, hL], ?_, ?_, ?_⟩, by show q.length - (j + 1) < q.length - j; omega, ?_⟩
          · dsimp only
            rw [hks, hkl]
            omega
          · dsimp only
            rw [hks, hkl, ← ht, take_succ_at (by rw [List.length_set]; omega)]
            rw [List.take_set_of_le (Nat.le_refl _)]
            congr 2
            simp [List.getD_eq_getElem?_getD, List.getElem?_set, show c < L.length by omega]
          · dsimp only
            rw [hks, hkl]
            intro i hi
            rw [← hr i (by omega)]
            simp [List.getD_eq_getElem?_getD, List.getElem?_set, show c ≠ i by omega]
          · dsimp only
            rw [hks, hkl]
            repeat' (first | exact True.intro | exact rfl | exact Nat.le_refl _ | refine And.intro ?_ ?_)
            intro i hi
            refine ⟨?_, rfl⟩
            dsimp only
            by_cases hic : i = c
            · subst hic
              have hb : i.beq (oadd 0 (i : Int).toNat) = true := Nat.beq_refl i
              rw [hb]
              have hset : (L.set i (L.getD j default)).getD i default = L.getD j default := by simp [List.getD_eq_getElem?_getD, List.getElem?_set, show i < L.length by omega]
              unfold rowsS
              rw [hset]
              rfl
            · have hb : i.beq (oadd 0 (c : Int).toNat) = false := by
                cases e : i.beq (oadd 0 (c : Int).toNat) with
                | false => rfl
                | true => exact absurd (Nat.eq_of_beq_eq_true e) hic
              rw [hb]
              have hset : (L.set c (L.getD j default)).getD i default = L.getD i default := by simp [List.getD_eq_getElem?_getD, List.getElem?_set, show c ≠ i from fun e => hic e.symm]
              unfold rowsS
              rw [hset]
              rfl
      · have hjn : j = q.length := by omega
        rw [hjn, List.take_length] at hcd ht
        repeat' (first | with_reducible refine Sq.go ?_ | ((with_reducible refine Ev.mk ?_); conv => whnf) | with_reducible refine Dr.mk ⟨by kernel_rfl, by kernel_rfl⟩ ?_ | with_reducible refine obG ?_ | with_reducible refine Ob.mk ?_ ?_ | (with_reducible first | refine brT fun h => ?_ | refine brF fun h => ?_ | refine Br.mk (fun h => ?_) fun h => ?_) <;> (try simp only [bsl, beq_iff_eq, bne_iff_ne, bs2] at h) <;> (try contradiction) <;> try (exfalso; omega))
        refine op_clear hT rfl rfl rfl rfl (by show 0 + (c : Int).toNat ≤ _; omega) ?_
        conv => whnf
        repeat' (first | with_reducible refine Sq.go ?_ | ((with_reducible refine Ev.mk ?_); conv => whnf) | with_reducible refine Dr.mk ⟨by kernel_rfl, by kernel_rfl⟩ ?_ | with_reducible refine obG ?_ | with_reducible refine Ob.mk ?_ ?_ | (with_reducible first | refine brT fun h => ?_ | refine brF fun h => ?_ | refine Br.mk (fun h => ?_) fun h => ?_) <;> (try simp only [bsl, beq_iff_eq, bne_iff_ne, bs2] at h) <;> (try contradiction) <;> try (exfalso; omega))
        refine ⟨(), True.intro, ?_, rfl⟩
        have hcl : c ≤ L.length := by rw [hL]; omega
        rw [hcd]
        repeat' (first | exact True.intro | exact rfl | exact Nat.le_refl _ | refine And.intro ?_ ?_)
        all_goals first
          | (show c ≤ 0 + c; omega)
          | (intro i hi
             refine ⟨?_, rfl⟩
             unfold rowsS
             rw [← ht]
             simp [List.getD_eq_getElem?_getD, List.getElem?_take, hi])
theorem leave_ok (q : List Seat) (hq : q.length ≤ 1000) (st : Int) (b : Bun) : Pure Tryd.prog 15 [eSeats q, .int .i64 st, .agg (eBun b)] [eSeats (leaveT q st b).1, .int .i64 (leaveT q st b).2] := by
  refine pure_rule hT (T := tab) (N := 27) (rs := [.tmp 6, .tmp 7]) Tryd.func15 rfl rfl rfl (by kernel_rfl) rfl ?_
  have hP := partsI_ok b
  have hpl := partsI_len b
  obtain ⟨ps, hps⟩ : ∃ ps, partsI b = ps := ⟨_, rfl⟩
  have hT' : leaveT q st b = if ps.all (tkS q st) = true then (keepS st b q, 0) else ([], 250) := by rw [← hps]; rfl
  rw [hps] at hP hpl
  repeat' (first | with_reducible refine Sq.go ?_ | ((with_reducible refine Ev.mk ?_); conv => whnf) | with_reducible refine Dr.mk ⟨by kernel_rfl, by kernel_rfl⟩ ?_ | with_reducible refine obG ?_ | with_reducible refine Ob.mk ?_ ?_ | (with_reducible first | refine brT fun h => ?_ | refine brF fun h => ?_ | refine Br.mk (fun h => ?_) fun h => ?_) <;> (try simp only [bsl, beq_iff_eq, bne_iff_ne, bs2] at h) <;> (try contradiction) <;> try (exfalso; omega))
  refine hP.call ?_
  repeat' (first | with_reducible refine Sq.go ?_ | ((with_reducible refine Ev.mk ?_); conv => whnf) | with_reducible refine Dr.mk ⟨by kernel_rfl, by kernel_rfl⟩ ?_ | with_reducible refine obG ?_ | with_reducible refine Ob.mk ?_ ?_ | (with_reducible first | refine brT fun h => ?_ | refine brF fun h => ?_ | refine Br.mk (fun h => ?_) fun h => ?_) <;> (try simp only [bsl, beq_iff_eq, bne_iff_ne, bs2] at h) <;> (try contradiction) <;> try (exfalso; omega))
  refine loop_rule hT (S := Nat) (fun k => ([(0, .d (eSeats q)), (4, .ptr (.loc 0) 0 0 0), (5, .ptr (.loc 1) 0 0 0), (11, .d (eInts ps)), (12, .d (.int .i64 ps.length)), (13, .d (.int .i64 k))], ⟨[some (.box 3 [.d (.int .i64 st)]), some (.box 32 (up (eBun b)))], []⟩)) (fun k => k ≤ ps.length ∧ ps.all (tkS q st) = (ps.drop k).all (tkS q st)) (fun k => ps.length - k) 0 ?_ ?_ ?_
  · repeat' (first | exact True.intro | exact rfl | exact Nat.le_refl _ | refine And.intro ?_ ?_)
  · exact ⟨Nat.zero_le _, rfl⟩
  · rintro k ⟨hk, hc⟩
    by_cases hk2 : k < ps.length
    · rw [drop_at hk2, List.all_cons] at hc
      have hH := has_ok q (by omega) st (ps.getD k default)
      cases hh : tkS q st (ps.getD k default)
      · rw [hh] at hH hc
        rw [Bool.false_and] at hc
        rw [if_neg (by rw [hc]; exact Bool.false_ne_true)] at hT'
        rw [hT']
        repeat' (first | with_reducible refine Sq.go ?_ | ((with_reducible refine Ev.mk ?_); conv => whnf) | with_reducible refine Dr.mk ⟨by kernel_rfl, by kernel_rfl⟩ ?_ | with_reducible refine obG ?_ | with_reducible refine Ob.mk ?_ ?_ | (with_reducible first | refine brT fun h => ?_ | refine brF fun h => ?_ | refine Br.mk (fun h => ?_) fun h => ?_) <;> (try simp only [bsl, beq_iff_eq, bne_iff_ne, bs2] at h) <;> (try contradiction) <;> try (exfalso; omega))
        refine hH.call ?_
        repeat' (first | with_reducible refine Sq.go ?_ | ((with_reducible refine Ev.mk ?_); conv => whnf) | with_reducible refine Dr.mk ⟨by kernel_rfl, by kernel_rfl⟩ ?_ | with_reducible refine obG ?_ | with_reducible refine Ob.mk ?_ ?_ | (with_reducible first | refine brT fun h => ?_ | refine brF fun h => ?_ | refine Br.mk (fun h => ?_) fun h => ?_) <;> (try simp only [bsl, beq_iff_eq, bne_iff_ne, bs2] at h) <;> (try contradiction) <;> try (exfalso; omega))
        exact ⟨rfl, rfl, True.intro⟩
      · rw [hh] at hH hc
        rw [Bool.true_and] at hc
        repeat' (first | with_reducible refine Sq.go ?_ | ((with_reducible refine Ev.mk ?_); conv => whnf) | with_reducible refine Dr.mk ⟨by kernel_rfl, by kernel_rfl⟩ ?_ | with_reducible refine obG ?_ | with_reducible refine Ob.mk ?_ ?_ | (with_reducible first | refine brT fun h => ?_ | refine brF fun h => ?_ | refine Br.mk (fun h => ?_) fun h => ?_) <;> (try simp only [bsl, beq_iff_eq, bne_iff_ne, bs2] at h) <;> (try contradiction) <;> try (exfalso; omega))
        refine hH.call ?_
        repeat' (first | with_reducible refine Sq.go ?_ | ((with_reducible refine Ev.mk ?_); conv => whnf) | with_reducible refine Dr.mk ⟨by kernel_rfl, by kernel_rfl⟩ ?_ | with_reducible refine obG ?_ | with_reducible refine Ob.mk ?_ ?_ | (with_reducible first | refine brT fun h => ?_ | refine brF fun h => ?_ | refine Br.mk (fun h => ?_) fun h => ?_) <;> (try simp only [bsl, beq_iff_eq, bne_iff_ne, bs2] at h) <;> (try contradiction) <;> try (exfalso; omega))
        refine ⟨k + 1, ⟨by show k + 1 ≤ ps.length; omega, hc⟩, by show ps.length - (k + 1) < ps.length - k; omega, ?_⟩
        repeat' (first | exact True.intro | exact rfl | exact Nat.le_refl _ | refine And.intro ?_ ?_)
    · rw [drop_end (by omega), List.all_nil] at hc
      rw [if_pos hc] at hT'
      rw [hT']
      repeat' (first | with_reducible refine Sq.go ?_ | ((with_reducible refine Ev.mk ?_); conv => whnf) | with_reducible refine Dr.mk ⟨by kernel_rfl, by kernel_rfl⟩ ?_ | with_reducible refine obG ?_ | with_reducible refine Ob.mk ?_ ?_ | (with_reducible first | refine brT fun h => ?_ | refine brF fun h => ?_ | refine Br.mk (fun h => ?_) fun h => ?_) <;> (try simp only [bsl, beq_iff_eq, bne_iff_ne, bs2] at h) <;> (try contradiction) <;> try (exfalso; omega))
      refine (clone_ok q hq).at [] rfl True.intro (fun g _ => ⟨rfl, ?_⟩)
      repeat' (first | with_reducible refine Sq.go ?_ | ((with_reducible refine Ev.mk ?_); conv => whnf) | with_reducible refine Dr.mk ⟨by kernel_rfl, by kernel_rfl⟩ ?_ | with_reducible refine obG ?_ | with_reducible refine Ob.mk ?_ ?_ | (with_reducible first | refine brT fun h => ?_ | refine brF fun h => ?_ | refine Br.mk (fun h => ?_) fun h => ?_) <;> (try simp only [bsl, beq_iff_eq, bne_iff_ne, bs2] at h) <;> (try contradiction) <;> try (exfalso; omega))
      refine (delete_ok st b q hq g).at [.loc 2, .loc 0, .loc 1] rfl ⟨rfl, rfl, rfl, True.intro⟩ (fun _ _ => ⟨rfl, ?_⟩)
      repeat' (first | with_reducible refine Sq.go ?_ | ((with_reducible refine Ev.mk ?_); conv => whnf) | with_reducible refine Dr.mk ⟨by kernel_rfl, by kernel_rfl⟩ ?_ | with_reducible refine obG ?_ | with_reducible refine Ob.mk ?_ ?_ | (with_reducible first | refine brT fun h => ?_ | refine brF fun h => ?_ | refine Br.mk (fun h => ?_) fun h => ?_) <;> (try simp only [bsl, beq_iff_eq, bne_iff_ne, bs2] at h) <;> (try contradiction) <;> try (exfalso; omega))
      exact ⟨⟨rfl, rfl, by rw [Nat.zero_add]; exact Nat.le_refl _, rfl, fun i hi => by rw [Nat.zero_add]; rfl⟩, rfl, True.intro⟩
end Go.Proofs.YtfbjlakcolipaaaDoor
