/-
  Swaps: seats in order: a seat's place; slices.Clone, slices.BinarySearchFunc at seats.
-/
import Derived.Test.YtnhadilbebgbjaaSwapR
namespace Go.Proofs.Ytnhadilbebgbjaa
set_option linter.unusedSimpArgs false
set_option linter.unusedVariables false
open Go Go.Ab
set_option maxRecDepth 100000
set_option maxHeartbeats 0
def rowsS (xs : List Seat) : Nat → List AV := fun i => up (eSeat (xs.getD i default))
def posS : List Seat → Seat → Nat
  | [], _ => 0
  | x :: r, t => if seatC x t < 0 then posS r t + 1 else 0
theorem posS_le : ∀ (q : List Seat) (t : Seat), posS q t ≤ q.length
  | [], _ => Nat.le_refl _
  | x :: r, t => by
    have := posS_le r t
    unfold posS
    rw [List.length_cons]
    split <;> omega
theorem posS_before : ∀ (q : List Seat) (t : Seat) (j : Nat), j < posS q t → seatC (q.getD j default) t < 0
  | [], _, j, h => absurd h (Nat.not_lt_zero j)
  | x :: r, t, j, h => by
    unfold posS at h
    split at h
    · rename_i h0
      cases j with
      | zero => exact h0
      | succ j => exact posS_before r t j (by omega)
    · exact absurd h (Nat.not_lt_zero j)
def srtS (q : List Seat) : Prop := q.Pairwise fun a b => seatC a b < 0
theorem seatC_trans {a b c : Seat} (h1 : seatC a b < 0) (h2 : seatC b c < 0) : seatC a c < 0 := by
  rw [seatC_neg] at *
  omega
theorem posS_after : ∀ (q : List Seat) (t : Seat), srtS q → ∀ j, posS q t ≤ j → j < q.length → 0 ≤ seatC (q.getD j default) t
  | [], _, _, j, _, h => absurd h (Nat.not_lt_zero j)
  | x :: r, t, hs, j, h1, h2 => by
    obtain ⟨hx, hr⟩ := List.pairwise_cons.1 hs
    unfold posS at h1
    split at h1
    · cases j with
      | zero => omega
      | succ j => exact posS_after r t hr j (by omega) (by simpa using h2)
    · rename_i h0
      cases j with
      | zero => exact Int.not_lt.1 h0
      | succ j =>
        refine Int.not_lt.1 fun h3 => h0 ?_
        have hm : r.getD j default ∈ r := getD_mem (by simpa using h2)
        exact seatC_trans (hx _ hm) h3
theorem cloneS_ok (q : List Seat) (hq : q.length ≤ 1000) : CallVC Try.prog 43 [.d (eSeats q)] ⟨[], []⟩
    (Ret (fun g : Nat => ([.osl (.loc 0) g 0 q.length], ⟨[some (.vec 51 3 g q.length (rowsS q))], []⟩)) fun _ => True) := by
  refine call_rule hT (T := tab) (N := 8) (rs := [.tmp 2]) _ _ Try.func43 rfl rfl rfl (by kernel_rfl) rfl ?_
  repeat' (first | with_reducible refine Sq.go ?_ | ((with_reducible refine Ev.mk ?_); conv => whnf) | with_reducible refine Dr.mk ⟨by kernel_rfl, by kernel_rfl⟩ ?_ | with_reducible refine obG ?_ | with_reducible refine Ob.mk ?_ ?_ | (with_reducible first | refine brT fun h => ?_ | refine brF fun h => ?_ | refine Br.mk (fun h => ?_) fun h => ?_) <;> (try simp only [bsl, beq_iff_eq, bne_iff_ne, bs2] at h) <;> (try contradiction) <;> try (exfalso; omega))
  refine op_isnil rfl Try.underlying40 rfl rfl (fun b hb => ?_)
  cases b
  · repeat' (first | with_reducible refine Sq.go ?_ | ((with_reducible refine Ev.mk ?_); conv => whnf) | with_reducible refine Dr.mk ⟨by kernel_rfl, by kernel_rfl⟩ ?_ | with_reducible refine obG ?_ | with_reducible refine Ob.mk ?_ ?_ | (with_reducible first | refine brT fun h => ?_ | refine brF fun h => ?_ | refine Br.mk (fun h => ?_) fun h => ?_) <;> (try simp only [bsl, beq_iff_eq, bne_iff_ne, bs2] at h) <;> (try contradiction) <;> try (exfalso; omega))
    refine ⟨1, True.intro, ?_, rfl⟩
    repeat' (first | exact True.intro | exact rfl | exact Nat.le_refl _ | refine And.intro ?_ ?_)
    · show AV.osl (.loc 0) (0 + 1) 0 (0 + q.length) = AV.osl (.loc 0) 1 0 q.length
      rw [Nat.zero_add q.length]
    · show q.length ≤ 0 + q.length
      omega
    all_goals first
      | (show 0 + q.length = q.length
         omega)
      | (show 0 + q.length ≤ q.length
         omega)
      | (show q.length = 0 + q.length
         omega)
      | (intro j hj
         refine ⟨?_, rfl⟩
         rw [joinF, show j.blt 0 = false from rfl]
         rfl)
  · have h0 : q = [] := List.eq_nil_of_length_eq_zero (hb rfl)
    subst h0
    repeat' (first | ((with_reducible refine Ev.mk ?_); conv => whnf) | with_reducible refine Dr.mk ⟨by kernel_rfl, by kernel_rfl⟩ ?_ | with_reducible refine obG ?_ | with_reducible refine Ob.mk ?_ ?_ | (with_reducible first | refine brT fun h => ?_ | refine brF fun h => ?_ | refine Br.mk (fun h => ?_) fun h => ?_) <;> (try simp only [bsl, beq_iff_eq, bne_iff_ne, bs2] at h) <;> (try contradiction) <;> try (exfalso; omega))
    refine Sq.go ?_
    repeat' (first | ((with_reducible refine Ev.mk ?_); conv => whnf) | with_reducible refine Dr.mk ⟨by kernel_rfl, by kernel_rfl⟩ ?_ | with_reducible refine obG ?_ | with_reducible refine Ob.mk ?_ ?_ | (with_reducible first | refine brT fun h => ?_ | refine brF fun h => ?_ | refine Br.mk (fun h => ?_) fun h => ?_) <;> (try simp only [bsl, beq_iff_eq, bne_iff_ne, bs2] at h) <;> (try contradiction) <;> try (exfalso; omega))
    refine Sq.alt (Awp.vec 2 51 3 (rowsS []) rfl (vc_ok hT _ _ _ _ (Ev.o ?_)))
    repeat' (first | with_reducible refine Sq.go ?_ | ((with_reducible refine Ev.mk ?_); conv => whnf) | with_reducible refine Dr.mk ⟨by kernel_rfl, by kernel_rfl⟩ ?_ | with_reducible refine obG ?_ | with_reducible refine Ob.mk ?_ ?_ | (with_reducible first | refine brT fun h => ?_ | refine brF fun h => ?_ | refine Br.mk (fun h => ?_) fun h => ?_) <;> (try simp only [bsl, beq_iff_eq, bne_iff_ne, bs2] at h) <;> (try contradiction) <;> try (exfalso; omega))
    refine ⟨0, True.intro, ?_, rfl⟩
    repeat' (first | exact True.intro | exact rfl | exact Nat.le_refl _ | refine And.intro ?_ ?_)
    all_goals (intro j hj; exact absurd hj (Nat.not_lt_zero j))
theorem bsearch_ok (xs : List Seat) (hx : xs.length ≤ 1000) (t : Seat) (pos : Nat) (hp : pos ≤ xs.length) (h1 : ∀ j, j < pos → seatC (xs.getD j default) t < 0) (h2 : ∀ j, pos ≤ j → j < xs.length → 0 ≤ seatC (xs.getD j default) t) :
    Pure Try.prog 45 [eSeats xs, .agg (eSeat t), .fn (.func 46) [] []] [.int .i64 pos, .bool (decide (pos < xs.length) && decide (seatC (xs.getD pos default) t = 0))] := by
  refine pure_rule hT (T := tab) (N := 49) (rs := [.tmp 6, .tmp 7]) Try.func45 rfl rfl rfl (by kernel_rfl) rfl ?_
  repeat' (first | with_reducible refine Sq.go ?_ | ((with_reducible refine Ev.mk ?_); conv => whnf) | with_reducible refine Dr.mk ⟨by kernel_rfl, by kernel_rfl⟩ ?_ | with_reducible refine obG ?_ | with_reducible refine Ob.mk ?_ ?_ | (with_reducible first | refine brT fun h => ?_ | refine brF fun h => ?_ | refine Br.mk (fun h => ?_) fun h => ?_) <;> (try simp only [bsl, beq_iff_eq, bne_iff_ne, bs2] at h) <;> (try contradiction) <;> try (exfalso; omega))
  refine loop_rule hT (S := Nat × Nat) (fun z => ([(0, .d (eSeats xs)), (2, .d (.fn (.func 46) [] [])), (4, .ptr (.loc 0) 0 0 0), (8, .d (.int .i64 xs.length)), (9, .d (.int .i64 z.1)), (10, .d (.int .i64 z.2))], ⟨[some (.box 51 (up (eSeat t)))], []⟩)) (fun z => z.1 ≤ pos ∧ pos ≤ z.2 ∧ z.2 ≤ xs.length) (fun z => z.2 - z.1) (0, xs.length) ?_ ?_ ?_
  · repeat' (first | exact True.intro | exact rfl | exact Nat.le_refl _ | refine And.intro ?_ ?_)
  · exact ⟨Nat.zero_le _, hp, Nat.le_refl _⟩
  · rintro ⟨i, j⟩ ⟨hi, hj, hn⟩
    dsimp only at hi hj hn ⊢
    by_cases hij : i < j
    · have hw : In .u64 ((i : Int) + j) := by
        show _ ∧ _
        constructor <;> simp [IntKind.min, IntKind.max, IntKind.bits, IntKind.signed] <;> omega
      obtain ⟨c, hh⟩ : ∃ c : Nat, (i + j) / 2 = c := ⟨_, rfl⟩
      have hhi : i ≤ c ∧ c < j := by omega
      have he : Int.fdiv ((i : Int) + j) (2 ^ min (1 : Int).toNat IntKind.u64.bits) = (c : Int) := by
        show Int.fdiv ((i : Int) + j) 2 = c
        rw [Int.fdiv_eq_ediv_of_nonneg _ (by decide)]
        omega
      have hi64 : In .i64 (c : Int) := in64.2 (by omega)
      have hcmp := compare_ok (xs.getD c default) t
      repeat' (first | with_reducible refine Sq.go ?_ | ((with_reducible refine Ev.mk ?_); conv => whnf) | with_reducible refine Dr.mk ⟨by kernel_rfl, by kernel_rfl⟩ ?_ | with_reducible refine obG ?_ | with_reducible refine Ob.mk ?_ ?_ | (with_reducible first | refine brT fun h => ?_ | refine brF fun h => ?_ | refine Br.mk (fun h => ?_) fun h => ?_) <;> (try simp only [bsl, beq_iff_eq, bne_iff_ne, bs2] at h) <;> (try contradiction) <;> try (exfalso; omega))
      refine op_shr rfl rfl rfl (by decide) ?_
      rw [he]
      repeat' (first | with_reducible refine Sq.go ?_ | ((with_reducible refine Ev.mk ?_); conv => whnf) | with_reducible refine Dr.mk ⟨by kernel_rfl, by kernel_rfl⟩ ?_ | with_reducible refine obG ?_ | with_reducible refine Ob.mk ?_ ?_ | (with_reducible first | refine brT fun h => ?_ | refine brF fun h => ?_ | refine Br.mk (fun h => ?_) fun h => ?_) <;> (try simp only [bsl, beq_iff_eq, bne_iff_ne, bs2] at h) <;> (try contradiction) <;> try (exfalso; omega))
      refine qC hcmp ?_
      by_cases hneg : seatC (xs.getD c default) t < 0
      · have hlt : c < pos := by
          by_cases h3 : c < pos
          · exact h3
          · have := h2 c (by omega) (by omega)
            omega
        repeat' (first | with_reducible refine Sq.go ?_ | ((with_reducible refine Ev.mk ?_); conv => whnf) | with_reducible refine Dr.mk ⟨by kernel_rfl, by kernel_rfl⟩ ?_ | with_reducible refine obG ?_ | with_reducible refine Ob.mk ?_ ?_ | (with_reducible first | refine brT fun h => ?_ | refine brF fun h => ?_ | refine Br.mk (fun h => ?_) fun h => ?_) <;> (try simp only [bsl, beq_iff_eq, bne_iff_ne, bs2] at h) <;> (try contradiction) <;> try (exfalso; omega))
        refine ⟨(c + 1, j), ⟨by show c + 1 ≤ pos; omega, hj, hn⟩, by show j - (c + 1) < j - i; omega, ?_⟩
        repeat' (first | exact True.intro | exact rfl | exact Nat.le_refl _ | refine And.intro ?_ ?_)
      · have hge : pos ≤ c := by
          by_cases h3 : c < pos
          · exact absurd (h1 c h3) hneg
          · omega
        repeat' (first | with_reducible refine Sq.go ?_ | ((with_reducible refine Ev.mk ?_); conv => whnf) | with_reducible refine Dr.mk ⟨by kernel_rfl, by kernel_rfl⟩ ?_ | with_reducible refine obG ?_ | with_reducible refine Ob.mk ?_ ?_ | (with_reducible first | refine brT fun h => ?_ | refine brF fun h => ?_ | refine Br.mk (fun h => ?_) fun h => ?_) <;> (try simp only [bsl, beq_iff_eq, bne_iff_ne, bs2] at h) <;> (try contradiction) <;> try (exfalso; omega))
        refine ⟨(i, c), ⟨hi, hge, by show c ≤ xs.length; omega⟩, by show c - i < j - i; omega, ?_⟩
        repeat' (first | exact True.intro | exact rfl | exact Nat.le_refl _ | refine And.intro ?_ ?_)
    · have hip : i = pos := by omega
      subst hip
      by_cases hlast : i < xs.length
      · have hcmp := compare_ok (xs.getD i default) t
        repeat' (first | with_reducible refine Sq.go ?_ | ((with_reducible refine Ev.mk ?_); conv => whnf) | with_reducible refine Dr.mk ⟨by kernel_rfl, by kernel_rfl⟩ ?_ | with_reducible refine obG ?_ | with_reducible refine Ob.mk ?_ ?_ | (with_reducible first | refine brT fun h => ?_ | refine brF fun h => ?_ | refine Br.mk (fun h => ?_) fun h => ?_) <;> (try simp only [bsl, beq_iff_eq, bne_iff_ne, bs2] at h) <;> (try contradiction) <;> try (exfalso; omega))
        refine qC hcmp ?_
        repeat' (first | with_reducible refine Sq.go ?_ | ((with_reducible refine Ev.mk ?_); conv => whnf) | with_reducible refine Dr.mk ⟨by kernel_rfl, by kernel_rfl⟩ ?_ | with_reducible refine obG ?_ | with_reducible refine Ob.mk ?_ ?_ | (with_reducible first | refine brT fun h => ?_ | refine brF fun h => ?_ | refine Br.mk (fun h => ?_) fun h => ?_) <;> (try simp only [bsl, beq_iff_eq, bne_iff_ne, bs2] at h) <;> (try contradiction) <;> try (exfalso; omega))
        refine ⟨rfl, ?_⟩
        refine ⟨congrArg D.bool ?_, True.intro⟩
        rw [decide_eq_true hlast, decide_eq_true (show (i : Int) < xs.length by omega)]
        rfl
      · rw [decide_eq_false hlast, Bool.false_and]
        repeat' (first | with_reducible refine Sq.go ?_ | ((with_reducible refine Ev.mk ?_); conv => whnf) | with_reducible refine Dr.mk ⟨by kernel_rfl, by kernel_rfl⟩ ?_ | with_reducible refine obG ?_ | with_reducible refine Ob.mk ?_ ?_ | (with_reducible first | refine brT fun h => ?_ | refine brF fun h => ?_ | refine Br.mk (fun h => ?_) fun h => ?_) <;> (try simp only [bsl, beq_iff_eq, bne_iff_ne, bs2] at h) <;> (try contradiction) <;> try (exfalso; omega))
        refine ⟨rfl, ?_⟩
        refine ⟨congrArg D.bool ?_, True.intro⟩
        cases decide ((i : Int) < xs.length) <;> rfl
theorem ordS_srt : ∀ {l : List Seat}, ordS l = true → srtS l
  | [], _ => List.Pairwise.nil
  | [a], _ => List.pairwise_singleton _ _
  | a :: b :: r, h => by
    rw [ordS, Bool.and_eq_true, decide_eq_true_eq] at h
    have ih := ordS_srt h.2
    refine List.pairwise_cons.2 ⟨fun x hx => ?_, ih⟩
    rcases List.mem_cons.1 hx with rfl | hx
    · exact h.1
    · exact seatC_trans h.1 ((List.pairwise_cons.1 ih).1 x hx)
theorem srt_ordS : ∀ {l : List Seat}, srtS l → ordS l = true
  | [], _ => rfl
  | [a], _ => rfl
  | a :: b :: r, h => by
    obtain ⟨h1, h2⟩ := List.pairwise_cons.1 h
    rw [ordS, Bool.and_eq_true, decide_eq_true_eq]
    exact ⟨h1 b (by simp), srt_ordS h2⟩
theorem ix_is {α : Type} [Inhabited α] (p : α → Bool) : ∀ (xs : List α) (k : Int) (n : Nat), n < xs.length → p (xs.getD n default) = true → (∀ j, j < n → p (xs.getD j default) = false) → ix p xs k = k + n
  | [], _, n, h, _, _ => by simp at h
  | x :: r, k, 0, _, h, _ => by
    have h : p x = true := h
    simp [ix, h]
  | x :: r, k, n + 1, hn, h, hb => by
    have h0 : p x = false := hb 0 (by omega)
    rw [ix, h0]
    have := ix_is p r (k + 1) n (by simpa using hn) (by simpa using h) (fun j hj => by simpa using hb (j + 1) (by omega))
    simp only [Bool.false_eq_true, if_false, this]
    omega
theorem ix_no {α : Type} [Inhabited α] (p : α → Bool) : ∀ (xs : List α) (k : Int), (∀ x ∈ xs, p x = false) → ix p xs k = -1
  | [], _, _ => rfl
  | x :: r, k, h => by
    rw [ix, h x (by simp)]
    simp only [Bool.false_eq_true, if_false]
    exact ix_no p r (k + 1) fun y hy => h y (by simp [hy])
theorem seatB_zero (st sec : Int) (x : Seat) : seatB st sec x = decide (seatC x ⟨st, sec, 0⟩ = 0) := by
  rw [Bool.eq_iff_iff, seatB, Bool.and_eq_true, decide_eq_true_eq, decide_eq_true_eq, decide_eq_true_eq, seatC_zero]
  exact ⟨fun h => ⟨h.2, h.1⟩, fun h => ⟨h.2, h.1⟩⟩
/-- Where the search ends. -/
theorem seat_at {q : List Seat} (h : srtS q) (st sec : Int) : if posS q ⟨st, sec, 0⟩ < q.length ∧ seatC (q.getD (posS q ⟨st, sec, 0⟩) default) ⟨st, sec, 0⟩ = 0 then ix (seatB st sec) q 0 = posS q ⟨st, sec, 0⟩ else ix (seatB st sec) q 0 = -1 := by
  have hb := posS_before q ⟨st, sec, 0⟩
  have ha := posS_after q ⟨st, sec, 0⟩ h
  split
  · rename_i hc
    have := ix_is (seatB st sec) q 0 (posS q ⟨st, sec, 0⟩) hc.1 (by rw [seatB_zero, decide_eq_true hc.2]) (fun j hj => by
      rw [seatB_zero, decide_eq_false_iff_not]
      have := hb j hj
      omega)
    omega
  · rename_i hc
    refine ix_no _ _ _ fun x hx => ?_
    rw [seatB_zero, decide_eq_false_iff_not]
    intro h0
    obtain ⟨j, hj, rfl⟩ := List.getElem_of_mem hx
    have hg : q.getD j default = q[j] := by simp [List.getD_eq_getElem?_getD, hj]
    rcases Nat.lt_trichotomy j (posS q ⟨st, sec, 0⟩) with h1 | h1 | h1
    · have := hb j h1
      rw [hg, h0] at this
      omega
    · exact hc ⟨by omega, by rw [← h1, hg]; exact h0⟩
    · have h2 : posS q ⟨st, sec, 0⟩ < q.length := by omega
      have h3 := ha _ (Nat.le_refl _) h2
      have h4 : seatC (q.getD (posS q ⟨st, sec, 0⟩) default) (q.getD j default) < 0 := by
        rw [hg, show q.getD (posS q ⟨st, sec, 0⟩) default = q[posS q ⟨st, sec, 0⟩] by simp [List.getD_eq_getElem?_getD, h2]]
        exact List.pairwise_iff_getElem.1 h _ _ h2 hj h1
      rw [hg] at h4
      rw [seatC_neg] at h4
      rw [seatC_zero] at h0
      have h5 : seatC (q.getD (posS q ⟨st, sec, 0⟩) default) ⟨st, sec, 0⟩ < 0 := by
        rw [seatC_neg, ← h0.1, ← h0.2]
        exact h4
      omega
theorem search_ok (xs : List Seat) (hx : xs.length ≤ 1000) (hs : ordS xs = true) (st sec : Int) : ∃ p : Nat, Pure Try.prog 45 [eSeats xs, .agg (eSeat ⟨st, sec, 0⟩), .fn (.func 46) [] []] [.int .i64 p, .bool (decide (0 ≤ ix (seatB st sec) xs 0))] ∧ (0 ≤ ix (seatB st sec) xs 0 → ix (seatB st sec) xs 0 = p) := by
  have h := ordS_srt hs
  have hb := bsearch_ok xs hx ⟨st, sec, 0⟩ (posS xs ⟨st, sec, 0⟩) (posS_le _ _) (posS_before _ _) (posS_after _ _ h)
  have ha := seat_at h st sec
  refine ⟨posS xs ⟨st, sec, 0⟩, ?_, ?_⟩
  · split at ha
    · rename_i hc
      rw [decide_eq_true hc.1, decide_eq_true hc.2] at hb
      rw [ha, decide_eq_true (by omega)]
      exact hb
    · rename_i hc
      rw [ha]
      have e : (decide (posS xs ⟨st, sec, 0⟩ < xs.length) && decide (seatC (xs.getD (posS xs ⟨st, sec, 0⟩) default) ⟨st, sec, 0⟩ = 0)) = false := by
        rw [Bool.and_eq_false_iff, decide_eq_false_iff_not, decide_eq_false_iff_not]
        by_cases h1 : posS xs ⟨st, sec, 0⟩ < xs.length
        · exact .inr fun h2 => hc ⟨h1, h2⟩
        · exact .inl h1
      rw [e] at hb
      exact hb
  · intro h0
    split at ha
    · exact ha
    · rw [ha] at h0; exact absurd h0 (by decide)
end Go.Proofs.Ytnhadilbebgbjaa
