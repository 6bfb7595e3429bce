/-
  Seats: count, Kept, free.
-/
import Derived.Test.YtfbjlakcolipaaaDoorSeatB
namespace Go.Proofs.YtfbjlakcolipaaaDoor
set_option linter.unusedSimpArgs false
set_option linter.unusedVariables false
open Go Go.Ab
set_option maxRecDepth 100000
set_option maxHeartbeats 0
/-- How many of these seats are of a group. -/
def cntG (q : List Seat) (g : Int) : Int := ((q.filter fun x => decide (x.group = g)).length : Int)
theorem cntG_snoc (q : List Seat) (x : Seat) (g : Int) : cntG (q ++ [x]) g = cntG q g + if x.group = g then 1 else 0 := by
  unfold cntG
  rw [List.filter_append, List.length_append]
  by_cases h : x.group = g <;> simp [h]
theorem cntG_le (q : List Seat) (g : Int) : 0 ≤ cntG q g ∧ cntG q g ≤ q.length := by
  unfold cntG
  have := List.length_filter_le (fun x : Seat => decide (x.group = g)) q
  omega
def eCnt (q : List Seat) : List D := [.int .i64 (cntG q 0), .int .i64 (cntG q 1), .int .i64 (cntG q 2), .int .i64 (cntG q 3), .int .i64 (cntG q 4), .int .i64 (cntG q 5), .int .i64 (cntG q 6), .int .i64 (cntG q 7), .int .i64 (cntG q (-1)), .int .i64 q.length]
theorem of1C_ok (rec : Loop) (y : Nat) (taken : List Seat) (hx : taken.length ≤ 1000000) (n : Int) (cont : List Seat → Bool) (hgo : cont [] = true)
    (hy : ∀ q : List Seat, q.length ≤ 1000000 → cont q = true → ∀ x ∈ taken, YieldVC Tryd.prog y [.d (.agg (eSeat x))] ⟨[], [some (.box 28 [.d (eSeats taken)]), some (.box 3 [.d (.int .i64 n)]), some (.box 63 (up (eCnt q))), some (.loop y rec [(4, .ptr (.arg 2) 0 0 0)])]⟩
      (Ret (fun q : List Seat => ([.d (.bool (cont q))], ⟨[], [some (.box 28 [.d (eSeats taken)]), some (.box 3 [.d (.int .i64 n)]), some (.box 63 (up (eCnt q))), some (.loop y rec [(4, .ptr (.arg 2) 0 0 0)])]⟩)) fun q' => q' = q ++ [x])) :
    CallVC Tryd.prog 48 [.fn (.yield y) [] [], .ptr (.arg 0) 0 0 0, .ptr (.arg 1) 0 0 0] ((fun q : List Seat => ⟨[], [some (.box 28 [.d (eSeats taken)]), some (.box 3 [.d (.int .i64 n)]), some (.box 63 (up (eCnt q))), some (.loop y rec [(4, .ptr (.arg 2) 0 0 0)])]⟩) [])
      (Ret (fun q : List Seat => ([], ⟨[], [some (.box 28 [.d (eSeats taken)]), some (.box 3 [.d (.int .i64 n)]), some (.box 63 (up (eCnt q))), some (.loop y rec [(4, .ptr (.arg 2) 0 0 0)])]⟩)) fun q => q = visitL cont (secL taken n) []) := by
  refine call_rule hT (T := tab) (N := 23) (rs := []) _ _ Tryd.func48 rfl rfl rfl (by kernel_rfl) rfl ?_
  repeat' (first | with_reducible refine Sq.go ?_ | ((with_reducible refine Ev.mk ?_); conv => whnf) | with_reducible refine Dr.mk ⟨by kernel_rfl, by kernel_rfl⟩ ?_ | with_reducible refine obG ?_ | with_reducible refine Ob.mk ?_ ?_ | (with_reducible first | refine brT fun h => ?_ | refine brF fun h => ?_ | refine Br.mk (fun h => ?_) fun h => ?_) <;> (try simp only [bsl, beq_iff_eq, bne_iff_ne, bs2] at h) <;> (try contradiction) <;> try (exfalso; omega))
  refine loop_rule hT (S := Nat × List Seat) (fun z => ([(0, .fn (.yield y) [] []), (2, .ptr (.arg 1) 0 0 0), (6, .d (eSeats taken)), (7, .d (.int .i64 taken.length)), (8, .d (.int .i64 z.1))], (fun q : List Seat => ⟨[], [some (.box 28 [.d (eSeats taken)]), some (.box 3 [.d (.int .i64 n)]), some (.box 63 (up (eCnt q))), some (.loop y rec [(4, .ptr (.arg 2) 0 0 0)])]⟩) z.2))
    (fun z => z.1 ≤ taken.length ∧ z.2.length ≤ z.1 ∧ cont z.2 = true ∧ visitL cont (secL taken n) [] = visitL cont (secL (taken.drop z.1) n) z.2) (fun z => taken.length - z.1) (0, []) ?_ ?_ ?_
  · repeat' (first | exact True.intro | exact rfl | exact Nat.le_refl _ | refine And.intro ?_ ?_)
  · exact ⟨Nat.zero_le _, Nat.le_refl _, hgo, rfl⟩
  · rintro ⟨k, q⟩ ⟨hk, hq, hcq, hc⟩
    dsimp only at hk hq hcq hc
    by_cases hk2 : k < taken.length
    · rw [drop_at hk2, secL_cons] at hc
      by_cases hs : (taken.getD k default).sec = n
      · rw [if_pos hs, visitL] at hc
        repeat' (first | with_reducible refine Sq.go ?_ | ((with_reducible refine Ev.mk ?_); conv => whnf) | with_reducible refine Dr.mk ⟨by kernel_rfl, by kernel_rfl⟩ ?_ | with_reducible refine obG ?_ | with_reducible refine Ob.mk ?_ ?_ | (with_reducible first | refine brT fun h => ?_ | refine brF fun h => ?_ | refine Br.mk (fun h => ?_) fun h => ?_) <;> (try simp only [bsl, beq_iff_eq, bne_iff_ne, bs2] at h) <;> (try contradiction) <;> try (exfalso; omega))
        refine (hy q (by omega) hcq (taken.getD k default) (getD_mem hk2)).at [.arg 0, .arg 1, .arg 2, .arg 3] rfl ⟨rfl, rfl, rfl, rfl, True.intro⟩ (fun s' hs' => ⟨rfl, ?_⟩)
        subst hs'
        cases hcn : cont (q ++ [taken.getD k default])
        · rw [if_neg (by rw [hcn]; simp)] at hc
          repeat' (first | with_reducible refine Sq.go ?_ | ((with_reducible refine Ev.mk ?_); conv => whnf) | with_reducible refine Dr.mk ⟨by kernel_rfl, by kernel_rfl⟩ ?_ | with_reducible refine obG ?_ | with_reducible refine Ob.mk ?_ ?_ | (with_reducible first | refine brT fun h => ?_ | refine brF fun h => ?_ | refine Br.mk (fun h => ?_) fun h => ?_) <;> (try simp only [bsl, beq_iff_eq, bne_iff_ne, bs2] at h) <;> (try contradiction) <;> try (exfalso; omega))
          refine ⟨_, rfl, ?_, rfl⟩
          rw [hc]
          repeat' (first | exact True.intro | exact rfl | exact Nat.le_refl _ | refine And.intro ?_ ?_)
        · rw [if_pos hcn] at hc
          repeat' (first | with_reducible refine Sq.go ?_ | ((with_reducible refine Ev.mk ?_); conv => whnf) | with_reducible refine Dr.mk ⟨by kernel_rfl, by kernel_rfl⟩ ?_ | with_reducible refine obG ?_ | with_reducible refine Ob.mk ?_ ?_ | (with_reducible first | refine brT fun h => ?_ | refine brF fun h => ?_ | refine Br.mk (fun h => ?_) fun h => ?_) <;> (try simp only [bsl, beq_iff_eq, bne_iff_ne, bs2] at h) <;> (try contradiction) <;> try (exfalso; omega))
          refine ⟨(k + 1, q ++ [taken.getD k default]), ⟨by show k + 1 ≤ taken.length; omega, by show (q ++ [_]).length ≤ k + 1; rw [len_snoc]; omega, hcn, hc⟩, by show taken.length - (k + 1) < taken.length - k; omega, ?_⟩
          repeat' (first | exact True.intro | exact rfl | exact Nat.le_refl _ | refine And.intro ?_ ?_)
      · rw [if_neg hs] at hc
        repeat' (first | with_reducible refine Sq.go ?_ | ((with_reducible refine Ev.mk ?_); conv => whnf) | with_reducible refine Dr.mk ⟨by kernel_rfl, by kernel_rfl⟩ ?_ | with_reducible refine obG ?_ | with_reducible refine Ob.mk ?_ ?_ | (with_reducible first | refine brT fun h => ?_ | refine brF fun h => ?_ | refine Br.mk (fun h => ?_) fun h => ?_) <;> (try simp only [bsl, beq_iff_eq, bne_iff_ne, bs2] at h) <;> (try contradiction) <;> try (exfalso; omega))
        refine ⟨(k + 1, q), ⟨by show k + 1 ≤ taken.length; omega, by show q.length ≤ k + 1; omega, hcq, hc⟩, by show taken.length - (k + 1) < taken.length - k; omega, ?_⟩
        repeat' (first | exact True.intro | exact rfl | exact Nat.le_refl _ | refine And.intro ?_ ?_)
    · rw [drop_end (by omega)] at hc
      repeat' (first | with_reducible refine Sq.go ?_ | ((with_reducible refine Ev.mk ?_); conv => whnf) | with_reducible refine Dr.mk ⟨by kernel_rfl, by kernel_rfl⟩ ?_ | with_reducible refine obG ?_ | with_reducible refine Ob.mk ?_ ?_ | (with_reducible first | refine brT fun h => ?_ | refine brF fun h => ?_ | refine Br.mk (fun h => ?_) fun h => ?_) <;> (try simp only [bsl, beq_iff_eq, bne_iff_ne, bs2] at h) <;> (try contradiction) <;> try (exfalso; omega))
      refine ⟨_, rfl, ?_, rfl⟩
      rw [hc]
      repeat' (first | exact True.intro | exact rfl | exact Nat.le_refl _ | refine And.intro ?_ ?_)
theorem count_ok (taken : List Seat) (hx : taken.length ≤ 1000000) (n : Int) : Pure Tryd.prog 24 [eSeats taken, .int .i64 n] [.agg (eCnt (secL taken n))] := by
  refine pure_rule hT (T := tab) (N := 33) (rs := [.cell 4 63]) Tryd.func24 rfl rfl rfl (by kernel_rfl) rfl ?_
  repeat' (first | with_reducible refine Sq.go ?_ | ((with_reducible refine Ev.mk ?_); conv => whnf) | with_reducible refine Dr.mk ⟨by kernel_rfl, by kernel_rfl⟩ ?_ | with_reducible refine obG ?_ | with_reducible refine Ob.mk ?_ ?_ | (with_reducible first | refine brT fun h => ?_ | refine brF fun h => ?_ | refine Br.mk (fun h => ?_) fun h => ?_) <;> (try simp only [bsl, beq_iff_eq, bne_iff_ne, bs2] at h) <;> (try contradiction) <;> try (exfalso; omega))
  refine (of_seats taken n).at [] rfl True.intro (fun _ _ => ⟨rfl, ?_⟩)
  repeat' (first | with_reducible refine Sq.go ?_ | ((with_reducible refine Ev.mk ?_); conv => whnf) | with_reducible refine Dr.mk ⟨by kernel_rfl, by kernel_rfl⟩ ?_ | with_reducible refine obG ?_ | with_reducible refine Ob.mk ?_ ?_ | (with_reducible first | refine brT fun h => ?_ | refine brF fun h => ?_ | refine Br.mk (fun h => ?_) fun h => ?_) <;> (try simp only [bsl, beq_iff_eq, bne_iff_ne, bs2] at h) <;> (try contradiction) <;> try (exfalso; omega))
  refine Awp.range (caps := [.ptr (.loc 1) 0 0 0, .ptr (.loc 2) 0 0 0]) [(4, .ptr (.loc 0) 0 0 0)] (.inl rfl) (nl := 3) (na := 0) ⟨⟨rfl, rfl⟩, True.intro⟩ ?_
  intro y r h1 h2 h3 h4 h5 h6
  refine (of1C_ok r y taken hx n (fun _ => true) rfl ?_).at [.loc 1, .loc 2, .loc 0, .loc 3] rfl ⟨rfl, rfl, rfl, rfl, True.intro⟩ (fun s hs => ⟨rfl, ?_⟩)
  · intro q hql _ x hx
    refine yieldMono (yield_rule (N := 33) (ps := [9]) (args := [.d (.agg (eSeat x))])
      (bs := [some (.box 28 [.d (eSeats taken)]), some (.box 3 [.d (.int .i64 n)]), some (.box 63 (up (eCnt q)))]) (env0 := [(4, .ptr (.arg 2) 0 0 0)])
      (fun _ : Unit => [some (.box 28 [.d (eSeats taken)]), some (.box 3 [.d (.int .i64 n)]), some (.box 63 (up (eCnt (q ++ [x]))))]) (fun _ => none) (fun _ => True) h1 h3 h4 h5 h6 rfl (by simp) ?_ rfl rfl ?_) ?_
    · repeat' (first | exact True.intro | exact rfl | exact Nat.le_refl _ | refine And.intro ?_ ?_)
    · refine Awp.of_vc hT ?_
      repeat' (first | with_reducible refine Sq.go ?_ | ((with_reducible refine Ev.mk ?_); conv => whnf) | with_reducible refine Dr.mk ⟨by kernel_rfl, by kernel_rfl⟩ ?_ | with_reducible refine obG ?_ | with_reducible refine Ob.mk ?_ ?_ | (with_reducible first | refine brT fun h => ?_ | refine brF fun h => ?_ | refine Br.mk (fun h => ?_) fun h => ?_) <;> (try simp only [bsl, beq_iff_eq, bne_iff_ne, bs2] at h) <;> (try contradiction) <;> try (exfalso; omega))
      refine Awp.of_vc hT ?_
      have hb := fun g => cntG_le q g
      have b0 := hb 0
      have b1 := hb 1
      have b2 := hb 2
      have b3 := hb 3
      have b4 := hb 4
      have b5 := hb 5
      have b6 := hb 6
      have b7 := hb 7
      have b8 := hb (-1)
      by_cases hin : -1 ≤ x.group ∧ x.group < 8
      · rcases show x.group = -1 ∨ x.group = 0 ∨ x.group = 1 ∨ x.group = 2 ∨ x.group = 3 ∨ x.group = 4 ∨ x.group = 5 ∨ x.group = 6 ∨ x.group = 7 by omega with hg | hg | hg | hg | hg | hg | hg | hg | hg
        · obtain ⟨a1, a2, a3⟩ := x
          dsimp only at hg
          subst hg
          have e : eCnt (q ++ [⟨a1, a2, -1⟩]) = [.int .i64 (cntG q 0), .int .i64 (cntG q 1), .int .i64 (cntG q 2), .int .i64 (cntG q 3), .int .i64 (cntG q 4), .int .i64 (cntG q 5), .int .i64 (cntG q 6), .int .i64 (cntG q 7), .int .i64 (cntG q (-1) + 1), .int .i64 ((q.length : Int) + 1)] := by simp [eCnt, cntG_snoc]
          repeat' (first | with_reducible refine Sq.go ?_ | ((with_reducible refine Ev.mk ?_); conv => whnf) | with_reducible refine Dr.mk ⟨by kernel_rfl, by kernel_rfl⟩ ?_ | with_reducible refine obG ?_ | with_reducible refine Ob.mk ?_ ?_ | (with_reducible first | refine brT fun h => ?_ | refine brF fun h => ?_ | refine Br.mk (fun h => ?_) fun h => ?_) <;> (try simp only [bsl, beq_iff_eq, bne_iff_ne, bs2] at h) <;> (try contradiction) <;> try (exfalso; omega))
          refine ⟨(), True.intro, rfl, rfl, ?_⟩
          dsimp only
          rw [e]
          repeat' (first | exact True.intro | exact rfl | exact Nat.le_refl _ | refine And.intro ?_ ?_)
        · obtain ⟨a1, a2, a3⟩ := x
          dsimp only at hg
          subst hg
          have e : eCnt (q ++ [⟨a1, a2, 0⟩]) = [.int .i64 (cntG q 0 + 1), .int .i64 (cntG q 1), .int .i64 (cntG q 2), .int .i64 (cntG q 3), .int .i64 (cntG q 4), .int .i64 (cntG q 5), .int .i64 (cntG q 6), .int .i64 (cntG q 7), .int .i64 (cntG q (-1)), .int .i64 ((q.length : Int) + 1)] := by simp [eCnt, cntG_snoc]
          repeat' (first | with_reducible refine Sq.go ?_ | ((with_reducible refine Ev.mk ?_); conv => whnf) | with_reducible refine Dr.mk ⟨by kernel_rfl, by kernel_rfl⟩ ?_ | with_reducible refine obG ?_ | with_reducible refine Ob.mk ?_ ?_ | (with_reducible first | refine brT fun h => ?_ | refine brF fun h => ?_ | refine Br.mk (fun h => ?_) fun h => ?_) <;> (try simp only [bsl, beq_iff_eq, bne_iff_ne, bs2] at h) <;> (try contradiction) <;> try (exfalso; omega))
          refine ⟨(), True.intro, rfl, rfl, ?_⟩
          dsimp only
          rw [e]
          repeat' (first | exact True.intro | exact rfl | exact Nat.le_refl _ | refine And.intro ?_ ?_)
        · obtain ⟨a1, a2, a3⟩ := x
          dsimp only at hg
          subst hg
          have e : eCnt (q ++ [⟨a1, a2, 1⟩]) = [.int .i64 (cntG q 0), .int .i64 (cntG q 1 + 1), .int .i64 (cntG q 2), .int .i64 (cntG q 3), .int .i64 (cntG q 4), .int .i64 (cntG q 5), .int .i64 (cntG q 6), .int .i64 (cntG q 7), .int .i64 (cntG q (-1)), .int .i64 ((q.length : Int) + 1)] := by simp [eCnt, cntG_snoc]
          repeat' (first | with_reducible refine Sq.go ?_ | ((with_reducible refine Ev.mk ?_); conv => whnf) | with_reducible refine Dr.mk ⟨by kernel_rfl, by kernel_rfl⟩ ?_ | with_reducible refine obG ?_ | with_reducible refine Ob.mk ?_ ?_ | (with_reducible first | refine brT fun h => ?_ | refine brF fun h => ?_ | refine Br.mk (fun h => ?_) fun h => ?_) <;> (try simp only [bsl, beq_iff_eq, bne_iff_ne, bs2] at h) <;> (try contradiction) <;> try (exfalso; omega))
          refine ⟨(), True.intro, rfl, rfl, ?_⟩
          dsimp only
          rw [e]
          repeat' (first | exact True.intro | exact rfl | exact Nat.le_refl _ | refine And.intro ?_ ?_)
        · obtain ⟨a1, a2, a3⟩ := x
          dsimp only at hg
          subst hg
          have e : eCnt (q ++ [⟨a1, a2, 2⟩]) = [.int .i64 (cntG q 0), .int .i64 (cntG q 1), .int .i64 (cntG q 2 + 1), .int .i64 (cntG q 3), .int .i64 (cntG q 4), .int .i64 (cntG q 5), .int .i64 (cntG q 6), .int .i64 (cntG q 7), .int .i64 (cntG q (-1)), .int .i64 ((q.length : Int) + 1)] := by simp [eCnt, cntG_snoc]
          repeat' (first | with_reducible refine Sq.go ?_ | ((with_reducible refine Ev.mk ?_); conv => whnf) | with_reducible refine Dr.mk ⟨by kernel_rfl, by kernel_rfl⟩ ?_ | with_reducible refine obG ?_ | with_reducible refine Ob.mk ?_ ?_ | (with_reducible first | refine brT fun h => ?_ | refine brF fun h => ?_ | refine Br.mk (fun h => ?_) fun h => ?_) <;> (try simp only [bsl, beq_iff_eq, bne_iff_ne, bs2] at h) <;> (try contradiction) <;> try (exfalso; omega))
          refine ⟨(), True.intro, rfl, rfl, ?_⟩
          dsimp only
          rw [e]
          repeat' (first | exact True.intro | exact rfl | exact Nat.le_refl _ | refine And.intro ?_ ?_)
        · obtain ⟨a1, a2, a3⟩ := x
          dsimp only at hg
          subst hg
          have e : eCnt (q ++ [⟨a1, a2, 3⟩]) = [.int .i64 (cntG q 0), .int .i64 (cntG q 1), .int .i64 (cntG q 2), .int .i64 (cntG q 3 + 1), .int .i64 (cntG q 4), .int .i64 (cntG q 5), .int .i64 (cntG q 6), .int .i64 (cntG q 7), .int .i64 (cntG q (-1)), .int .i64 ((q.length : Int) + 1)] := by simp [eCnt, cntG_snoc]
          repeat' (first | with_reducible refine Sq.go ?_ | ((with_reducible refine Ev.mk ?_); conv => whnf) | with_reducible refine Dr.mk ⟨by kernel_rfl, by kernel_rfl⟩ ?_ | with_reducible refine obG ?_ | with_reducible refine Ob.mk ?_ ?_ | (with_reducible first | refine brT fun h => ?_ | refine brF fun h => ?_ | refine Br.mk (fun h => ?_) fun h => ?_) <;> (try simp only [bsl, beq_iff_eq, bne_iff_ne, bs2] at h) <;> (try contradiction) <;> try (exfalso; omega))
          refine ⟨(), True.intro, rfl, rfl, ?_⟩
          dsimp only
          rw [e]
          repeat' (first | exact True.intro | exact rfl | exact Nat.le_refl _ | refine And.intro ?_ ?_)
        · obtain ⟨a1, a2, a3⟩ := x
          dsimp only at hg
          subst hg
          have e : eCnt (q ++ [⟨a1, a2, 4⟩]) = [.int .i64 (cntG q 0), .int .i64 (cntG q 1), .int .i64 (cntG q 2), .int .i64 (cntG q 3), .int .i64 (cntG q 4 + 1), .int .i64 (cntG q 5), .int .i64 (cntG q 6), .int .i64 (cntG q 7), .int .i64 (cntG q (-1)), .int .i64 ((q.length : Int) + 1)] := by simp [eCnt, cntG_snoc]
          repeat' (first | with_reducible refine Sq.go ?_ | ((with_reducible refine Ev.mk ?_); conv => whnf) | with_reducible refine Dr.mk ⟨by kernel_rfl, by kernel_rfl⟩ ?_ | with_reducible refine obG ?_ | with_reducible refine Ob.mk ?_ ?_ | (with_reducible first | refine brT fun h => ?_ | refine brF fun h => ?_ | refine Br.mk (fun h => ?_) fun h => ?_) <;> (try simp only [bsl, beq_iff_eq, bne_iff_ne, bs2] at h) <;> (try contradiction) <;> try (exfalso; omega))
          refine ⟨(), True.intro, rfl, rfl, ?_⟩
          dsimp only
          rw [e]
          repeat' (first | exact True.intro | exact rfl | exact Nat.le_refl _ | refine And.intro ?_ ?_)
        · obtain ⟨a1, a2, a3⟩ := x
          dsimp only at hg
          subst hg
          have e : eCnt (q ++ [⟨a1, a2, 5⟩]) = [.int .i64 (cntG q 0), .int .i64 (cntG q 1), .int .i64 (cntG q 2), .int .i64 (cntG q 3), .int .i64 (cntG q 4), .int .i64 (cntG q 5 + 1), .int .i64 (cntG q 6), .int .i64 (cntG q 7), .int .i64 (cntG q (-1)), .int .i64 ((q.length : Int) + 1)] := by simp [eCnt, cntG_snoc]
          repeat' (first | with_reducible refine Sq.go ?_ | ((with_reducible refine Ev.mk ?_); conv => whnf) | with_reducible refine Dr.mk ⟨by kernel_rfl, by kernel_rfl⟩ ?_ | with_reducible refine obG ?_ | with_reducible refine Ob.mk ?_ ?_ | (with_reducible first | refine brT fun h => ?_ | refine brF fun h => ?_ | refine Br.mk (fun h => ?_) fun h => ?_) <;> (try simp only [bsl, beq_iff_eq, bne_iff_ne, bs2] at h) <;> (try contradiction) <;> try (exfalso; omega))
          refine ⟨(), True.intro, rfl, rfl, ?_⟩
          dsimp only
          rw [e]
          repeat' (first | exact True.intro | exact rfl | exact Nat.le_refl _ | refine And.intro ?_ ?_)
        · obtain ⟨a1, a2, a3⟩ := x
          dsimp only at hg
          subst hg
          have e : eCnt (q ++ [⟨a1, a2, 6⟩]) = [.int .i64 (cntG q 0), .int .i64 (cntG q 1), .int .i64 (cntG q 2), .int .i64 (cntG q 3), .int .i64 (cntG q 4), .int .i64 (cntG q 5), .int .i64 (cntG q 6 + 1), .int .i64 (cntG q 7), .int .i64 (cntG q (-1)), .int .i64 ((q.length : Int) + 1)] := by simp [eCnt, cntG_snoc]
          repeat' (first | with_reducible refine Sq.go ?_ | ((with_reducible refine Ev.mk ?_); conv => whnf) | with_reducible refine Dr.mk ⟨by kernel_rfl, by kernel_rfl⟩ ?_ | with_reducible refine obG ?_ | with_reducible refine Ob.mk ?_ ?_ | (with_reducible first | refine brT fun h => ?_ | refine brF fun h => ?_ | refine Br.mk (fun h => ?_) fun h => ?_) <;> (try simp only [bsl, beq_iff_eq, bne_iff_ne, bs2] at h) <;> (try contradiction) <;> try (exfalso; omega))
          refine ⟨(), True.intro, rfl, rfl, ?_⟩
          dsimp only
          rw [e]
          repeat' (first | exact True.intro | exact rfl | exact Nat.le_refl _ | refine And.intro ?_ ?_)
        · obtain ⟨a1, a2, a3⟩ := x
          dsimp only at hg
          subst hg
          have e : eCnt (q ++ [⟨a1, a2, 7⟩]) = [.int .i64 (cntG q 0), .int .i64 (cntG q 1), .int .i64 (cntG q 2), .int .i64 (cntG q 3), .int .i64 (cntG q 4), .int .i64 (cntG q 5), .int .i64 (cntG q 6), .int .i64 (cntG q 7 + 1), .int .i64 (cntG q (-1)), .int .i64 ((q.length : Int) + 1)] := by simp [eCnt, cntG_snoc]
          repeat' (first | with_reducible refine Sq.go ?_ | ((with_reducible refine Ev.mk ?_); conv => whnf) | with_reducible refine Dr.mk ⟨by kernel_rfl, by kernel_rfl⟩ ?_ | with_reducible refine obG ?_ | with_reducible refine Ob.mk ?_ ?_ | (with_reducible first | refine brT fun h => ?_ | refine brF fun h => ?_ | refine Br.mk (fun h => ?_) fun h => ?_) <;> (try simp only [bsl, beq_iff_eq, bne_iff_ne, bs2] at h) <;> (try contradiction) <;> try (exfalso; omega))
          refine ⟨(), True.intro, rfl, rfl, ?_⟩
          dsimp only
          rw [e]
          repeat' (first | exact True.intro | exact rfl | exact Nat.le_refl _ | refine And.intro ?_ ?_)
      · have e : eCnt (q ++ [x]) = [.int .i64 (cntG q 0), .int .i64 (cntG q 1), .int .i64 (cntG q 2), .int .i64 (cntG q 3), .int .i64 (cntG q 4), .int .i64 (cntG q 5), .int .i64 (cntG q 6), .int .i64 (cntG q 7), .int .i64 (cntG q (-1)), .int .i64 ((q.length : Int) + 1)] := by
          have hn : ∀ g : Int, -1 ≤ g → g < 8 → ¬ x.group = g := fun g h1 h2 h3 => hin (by omega)
          simp only [eCnt, cntG_snoc, hn 0 (by omega) (by omega), hn 1 (by omega) (by omega), hn 2 (by omega) (by omega), hn 3 (by omega) (by omega), hn 4 (by omega) (by omega), hn 5 (by omega) (by omega), hn 6 (by omega) (by omega), hn 7 (by omega) (by omega), hn (-1) (by omega) (by omega), if_false, Int.add_zero, len_snoc]
          rfl
        repeat' (first | with_reducible refine Sq.go ?_ | ((with_reducible refine Ev.mk ?_); conv => whnf) | with_reducible refine Dr.mk ⟨by kernel_rfl, by kernel_rfl⟩ ?_ | with_reducible refine obG ?_ | with_reducible refine Ob.mk ?_ ?_ | (with_reducible first | refine brT fun h => ?_ | refine brF fun h => ?_ | refine Br.mk (fun h => ?_) fun h => ?_) <;> (try simp only [bsl, beq_iff_eq, bne_iff_ne, bs2] at h) <;> (try contradiction) <;> try (exfalso; omega))
        refine ⟨(), True.intro, rfl, rfl, ?_⟩
        dsimp only
        rw [e]
        repeat' (first | exact True.intro | exact rfl | exact Nat.le_refl _ | refine And.intro ?_ ?_)
    · rintro A m' ⟨b, hJ, rfl, rfl⟩
      refine ⟨q ++ [x], rfl, rfl, ?_⟩
      show (⟨[], [some _, some _, some _, some (.loop y (after r none) _)]⟩ : Mem) = _
      rw [after_none h1 h2]
  · have hv : s = secL taken n := by rw [hs, visitL_all]; rfl
    subst hv
    refine ⟨none, by rw [after_none h1 h2]; rfl, ?_⟩
    show Sq _ _
    repeat' (first | with_reducible refine Sq.go ?_ | ((with_reducible refine Ev.mk ?_); conv => whnf) | with_reducible refine Dr.mk ⟨by kernel_rfl, by kernel_rfl⟩ ?_ | with_reducible refine obG ?_ | with_reducible refine Ob.mk ?_ ?_ | (with_reducible first | refine brT fun h => ?_ | refine brF fun h => ?_ | refine Br.mk (fun h => ?_) fun h => ?_) <;> (try simp only [bsl, beq_iff_eq, bne_iff_ne, bs2] at h) <;> (try contradiction) <;> try (exfalso; omega))
    exact ⟨Or.inl rfl, True.intro⟩
theorem idxGrp1_ok (xs : List Grp) (hx : xs.length ≤ 1000000) (f : FuncId) (c0 : D) (p : Grp → Bool) (hp : ∀ s, s ∈ xs → Pure Tryd.prog f [.agg (eGrp s), c0] [.bool (p s)]) :
    Pure Tryd.prog 42 [eGrps xs, .fn (.func f) [] [c0]] [.int .i64 (ix p xs 0)] := by
  refine pure_rule hT (T := tab) (N := 19) (rs := [.tmp 4]) Tryd.func42 rfl rfl rfl (by kernel_rfl) rfl ?_
  repeat' (first | with_reducible refine Sq.go ?_ | ((with_reducible refine Ev.mk ?_); conv => whnf) | with_reducible refine Dr.mk ⟨by kernel_rfl, by kernel_rfl⟩ ?_ | with_reducible refine obG ?_ | with_reducible refine Ob.mk ?_ ?_ | (with_reducible first | refine brT fun h => ?_ | refine brF fun h => ?_ | refine Br.mk (fun h => ?_) fun h => ?_) <;> (try simp only [bsl, beq_iff_eq, bne_iff_ne, bs2] at h) <;> (try contradiction) <;> try (exfalso; omega))
  refine loop_rule hT (S := Nat) (fun k => ([(0, .d (eGrps xs)), (1, .d (.fn (.func f) [] [c0])), (7, .d (.int .i64 xs.length)), (8, .d (.int .i64 k))], ⟨[], []⟩)) (fun k => k ≤ xs.length ∧ ix p xs 0 = ix p (xs.drop k) k) (fun k => xs.length - k) 0 ?_ ?_ ?_
  · repeat' (first | exact True.intro | exact rfl | exact Nat.le_refl _ | refine And.intro ?_ ?_)
  · exact ⟨Nat.zero_le _, rfl⟩
  · rintro k ⟨hk, hc⟩
    repeat' (first | with_reducible refine Sq.go ?_ | ((with_reducible refine Ev.mk ?_); conv => whnf) | with_reducible refine Dr.mk ⟨by kernel_rfl, by kernel_rfl⟩ ?_ | with_reducible refine obG ?_ | with_reducible refine Ob.mk ?_ ?_ | (with_reducible first | refine brT fun h => ?_ | refine brF fun h => ?_ | refine Br.mk (fun h => ?_) fun h => ?_) <;> (try simp only [bsl, beq_iff_eq, bne_iff_ne, bs2] at h) <;> (try contradiction) <;> try (exfalso; omega))
    · refine ⟨⟨f, [], [.d c0], .inr ⟨[], [c0], rfl, rfl, rfl⟩, (hp (xs.getD k default) (getD_mem (by omega))).call ?_⟩⟩
      repeat' (first | with_reducible refine Sq.go ?_ | ((with_reducible refine Ev.mk ?_); conv => whnf) | with_reducible refine Dr.mk ⟨by kernel_rfl, by kernel_rfl⟩ ?_ | with_reducible refine obG ?_ | with_reducible refine Ob.mk ?_ ?_ | (with_reducible first | refine brT fun h => ?_ | refine brF fun h => ?_ | refine Br.mk (fun h => ?_) fun h => ?_) <;> (try simp only [bsl, beq_iff_eq, bne_iff_ne, bs2] at h) <;> (try contradiction) <;> try (exfalso; omega))
      · refine ⟨congrArg (D.int .i64) ?_, True.intro⟩
        rw [hc, drop_at (by omega), ix, if_pos h]
      · refine ⟨k + 1, ⟨by show k + 1 ≤ xs.length; omega, ?_⟩, by show xs.length - (k + 1) < xs.length - k; omega, ?_⟩
        · rw [hc, drop_at (by omega), ix, if_neg (by rw [h]; exact Bool.false_ne_true)]
          rfl
        · repeat' (first | exact True.intro | exact rfl | exact Nat.le_refl _ | refine And.intro ?_ ?_)
    · refine ⟨congrArg (D.int .i64) ?_, True.intro⟩
      have : k = xs.length := by omega
      rw [hc]
      simp [this, ix]
theorem kept1_ok (s : Grp) (n : Int) : Pure Tryd.prog 43 [.agg (eGrp s), .pt [.int .i64 n] 0] [.bool (decide (s.g = n))] := by
  refine pure_rule hT (T := tab) (N := 8) (rs := [.tmp 3]) Tryd.func43 rfl rfl rfl (by kernel_rfl) rfl ?_
  repeat' (first | with_reducible refine Sq.go ?_ | ((with_reducible refine Ev.mk ?_); conv => whnf) | with_reducible refine Dr.mk ⟨by kernel_rfl, by kernel_rfl⟩ ?_ | with_reducible refine obG ?_ | with_reducible refine Ob.mk ?_ ?_ | (with_reducible first | refine brT fun h => ?_ | refine brF fun h => ?_ | refine Br.mk (fun h => ?_) fun h => ?_) <;> (try simp only [bsl, beq_iff_eq, bne_iff_ne, bs2] at h) <;> (try contradiction) <;> try (exfalso; omega))
  refine ⟨congrArg D.bool ?_, True.intro⟩
  rfl
/-- The seats that are kept for a group. -/
def keptI (s : Sec) (g now : Int) : Int := match s.groups.find? fun x => decide (x.g = g) with
  | none => 0
  | some x => if now < x.til then x.seats else 0
theorem kept_ok (s : Sec) (hg : s.groups.length ≤ 1000000) (g now : Int) : Pure Tryd.prog 21 [.agg (eSec s), .int .i64 g, .int .i64 now] [.int .i64 (keptI s g now)] := by
  refine pure_rule hT (T := tab) (N := 30) (rs := [.tmp 6]) Tryd.func21 rfl rfl rfl (by kernel_rfl) rfl ?_
  have hI := idxGrp1_ok s.groups hg 43 (.pt [.int .i64 g] 0) (fun x => decide (x.g = g)) (fun x _ => kept1_ok x g)
  obtain ⟨hp, hn⟩ := ix_find (fun x : Grp => decide (x.g = g)) s.groups 0
  obtain ⟨hlt, hge⟩ := ix_lt (fun x : Grp => decide (x.g = g)) s.groups 0 (by decide)
  simp only [Int.natCast_zero, Int.zero_add, Nat.sub_zero] at hp hn hlt
  obtain ⟨i, hi⟩ : ∃ i, ix (fun x : Grp => decide (x.g = g)) s.groups 0 = i := ⟨_, rfl⟩
  rw [hi] at hp hn hlt hge hI
  by_cases hi0 : i < 0
  · have hk : keptI s g now = 0 := by rw [keptI, hn hi0]
    rw [hk]
    repeat' (first | with_reducible refine Sq.go ?_ | ((with_reducible refine Ev.mk ?_); conv => whnf) | with_reducible refine Dr.mk ⟨by kernel_rfl, by kernel_rfl⟩ ?_ | with_reducible refine obG ?_ | with_reducible refine Ob.mk ?_ ?_ | (with_reducible first | refine brT fun h => ?_ | refine brF fun h => ?_ | refine Br.mk (fun h => ?_) fun h => ?_) <;> (try simp only [bsl, beq_iff_eq, bne_iff_ne, bs2] at h) <;> (try contradiction) <;> try (exfalso; omega))
    refine hI.loan rfl ⟨.d, .fn' True.intro ⟨.ptr' rfl ⟨.d, True.intro⟩, True.intro⟩, True.intro⟩ ?_
    repeat' (first | with_reducible refine Sq.go ?_ | ((with_reducible refine Ev.mk ?_); conv => whnf) | with_reducible refine Dr.mk ⟨by kernel_rfl, by kernel_rfl⟩ ?_ | with_reducible refine obG ?_ | with_reducible refine Ob.mk ?_ ?_ | (with_reducible first | refine brT fun h => ?_ | refine brF fun h => ?_ | refine Br.mk (fun h => ?_) fun h => ?_) <;> (try simp only [bsl, beq_iff_eq, bne_iff_ne, bs2] at h) <;> (try contradiction) <;> try (exfalso; omega))
    exact ⟨rfl, True.intro⟩
  · have hk : keptI s g now = if now < (s.groups.getD i.toNat default).til then (s.groups.getD i.toNat default).seats else 0 := by rw [keptI, (hp (by omega)).1]
    by_cases ht : now < (s.groups.getD i.toNat default).til
    · rw [hk, if_pos ht]
      repeat' (first | with_reducible refine Sq.go ?_ | ((with_reducible refine Ev.mk ?_); conv => whnf) | with_reducible refine Dr.mk ⟨by kernel_rfl, by kernel_rfl⟩ ?_ | with_reducible refine obG ?_ | with_reducible refine Ob.mk ?_ ?_ | (with_reducible first | refine brT fun h => ?_ | refine brF fun h => ?_ | refine Br.mk (fun h => ?_) fun h => ?_) <;> (try simp only [bsl, beq_iff_eq, bne_iff_ne, bs2] at h) <;> (try contradiction) <;> try (exfalso; omega))
      refine hI.loan rfl ⟨.d, .fn' True.intro ⟨.ptr' rfl ⟨.d, True.intro⟩, True.intro⟩, True.intro⟩ ?_
      repeat' (first | with_reducible refine Sq.go ?_ | ((with_reducible refine Ev.mk ?_); conv => whnf) | with_reducible refine Dr.mk ⟨by kernel_rfl, by kernel_rfl⟩ ?_ | with_reducible refine obG ?_ | with_reducible refine Ob.mk ?_ ?_ | (with_reducible first | refine brT fun h => ?_ | refine brF fun h => ?_ | refine Br.mk (fun h => ?_) fun h => ?_) <;> (try simp only [bsl, beq_iff_eq, bne_iff_ne, bs2] at h) <;> (try contradiction) <;> try (exfalso; omega))
      exact ⟨rfl, True.intro⟩
    · rw [hk, if_neg ht]
      repeat' (first | with_reducible refine Sq.go ?_ | ((with_reducible refine Ev.mk ?_); conv => whnf) | with_reducible refine Dr.mk ⟨by kernel_rfl, by kernel_rfl⟩ ?_ | with_reducible refine obG ?_ | with_reducible refine Ob.mk ?_ ?_ | (with_reducible first | refine brT fun h => ?_ | refine brF fun h => ?_ | refine Br.mk (fun h => ?_) fun h => ?_) <;> (try simp only [bsl, beq_iff_eq, bne_iff_ne, bs2] at h) <;> (try contradiction) <;> try (exfalso; omega))
      refine hI.loan rfl ⟨.d, .fn' True.intro ⟨.ptr' rfl ⟨.d, True.intro⟩, True.intro⟩, True.intro⟩ ?_
      repeat' (first | with_reducible refine Sq.go ?_ | ((with_reducible refine Ev.mk ?_); conv => whnf) | with_reducible refine Dr.mk ⟨by kernel_rfl, by kernel_rfl⟩ ?_ | with_reducible refine obG ?_ | with_reducible refine Ob.mk ?_ ?_ | (with_reducible first | refine brT fun h => ?_ | refine brF fun h => ?_ | refine Br.mk (fun h => ?_) fun h => ?_) <;> (try simp only [bsl, beq_iff_eq, bne_iff_ne, bs2] at h) <;> (try contradiction) <;> try (exfalso; omega))
      exact ⟨rfl, True.intro⟩
end Go.Proofs.YtfbjlakcolipaaaDoor
