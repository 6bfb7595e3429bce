/-
  The reference of chapter 25: Count, Reserved, All, Has, Groups, Kept, FreeFor, General, Insert.
-/
import Derived.Test.YtfbjlakcolipaaaGreatDoorSeatQ
namespace Go.Proofs.YtfbjlakcolipaaaGreatDoor
set_option linter.unusedSimpArgs false
set_option linter.unusedVariables false
open Go Go.Ab
set_option maxRecDepth 100000
set_option maxHeartbeats 0
theorem rcount_ok (q : List Seat) (hq : q.length ≤ 1000) (n g : Int) : Pure Tryz.prog 67 [eSeats q, .int .i64 n, .int .i64 g] [.int .i64 (cntL q n g)] := by
  refine pure_rule hT (T := tab) (N := 38) (rs := [.tmp 6]) Tryz.func67 rfl rfl rfl (by kernel_rfl) rfl ?_
  repeat' (first | with_reducible refine Sq.go ?_ | ((with_reducible refine Ev.mk ?_); conv => whnf) | with_reducible refine Dr.mk ⟨by kernel_rfl, by kernel_rfl⟩ ?_ | with_reducible refine obG ?_ | with_reducible refine Ob.mk ?_ ?_ | (with_reducible first | refine brT fun h => ?_ | refine brF fun h => ?_ | refine Br.mk (fun h => ?_) fun h => ?_) <;> (try simp only [bsl, beq_iff_eq, bne_iff_ne, bs2] at h) <;> (try contradiction) <;> try (exfalso; omega))
  refine loop_rule hT (S := Nat) (fun k => ([(0, .d (eSeats q)), (1, .d (.int .i64 n)), (2, .d (.int .i64 g)), (7, .d (.int .i64 (cntL (q.take k) n g))), (8, .d (.int .i64 k))], ⟨[], []⟩)) (fun k => k ≤ q.length) (fun k => q.length - k) 0 ?_ ?_ ?_
  · repeat' (first | exact True.intro | exact rfl | exact Nat.le_refl _ | refine And.intro ?_ ?_)
  · exact Nat.zero_le _
  · intro k hk
    have hb := cntL_le (q.take k) n g
    have hlt : (q.take k).length ≤ q.length := List.length_take_le' ..
    by_cases hk2 : k < q.length
    · have ht : cntL (q.take (k + 1)) n g = cntL (q.take k) n g + if cntP n g (q.getD k default) = true then 1 else 0 := by rw [take_succ_at hk2, cntL_snoc]
      obtain ⟨c, hcd⟩ : ∃ c, cntL (q.take k) n g = c := ⟨_, rfl⟩
      rw [hcd] at hb ht ⊢
      by_cases h1 : (q.getD k default).sec = n
      · by_cases h2 : g = -2
        · rw [if_pos (by rw [cntP, decide_eq_true h1, decide_eq_true h2]; rfl)] at ht
          repeat' (first | with_reducible refine Sq.go ?_ | ((with_reducible refine Ev.mk ?_); conv => whnf) | with_reducible refine Dr.mk ⟨by kernel_rfl, by kernel_rfl⟩ ?_ | with_reducible refine obG ?_ | with_reducible refine Ob.mk ?_ ?_ | (with_reducible first | refine brT fun h => ?_ | refine brF fun h => ?_ | refine Br.mk (fun h => ?_) fun h => ?_) <;> (try simp only [bsl, beq_iff_eq, bne_iff_ne, bs2] at h) <;> (try contradiction) <;> try (exfalso; omega))
          refine ⟨k + 1, by show k + 1 ≤ q.length; omega, by show q.length - (k + 1) < q.length - k; omega, ?_⟩
          dsimp only
          rw [ht]
          repeat' (first | exact True.intro | exact rfl | exact Nat.le_refl _ | refine And.intro ?_ ?_)
        · by_cases h3 : (q.getD k default).group = g
          · rw [if_pos (by rw [cntP, decide_eq_true h1, decide_eq_true h3, Bool.or_true]; rfl)] at ht
            repeat' (first | with_reducible refine Sq.go ?_ | ((with_reducible refine Ev.mk ?_); conv => whnf) | with_reducible refine Dr.mk ⟨by kernel_rfl, by kernel_rfl⟩ ?_ | with_reducible refine obG ?_ | with_reducible refine Ob.mk ?_ ?_ | (with_reducible first | refine brT fun h => ?_ | refine brF fun h => ?_ | refine Br.mk (fun h => ?_) fun h => ?_) <;> (try simp only [bsl, beq_iff_eq, bne_iff_ne, bs2] at h) <;> (try contradiction) <;> try (exfalso; omega))
            refine ⟨k + 1, by show k + 1 ≤ q.length; omega, by show q.length - (k + 1) < q.length - k; omega, ?_⟩
            dsimp only
            rw [ht]
            repeat' (first | exact True.intro | exact rfl | exact Nat.le_refl _ | refine And.intro ?_ ?_)
          · rw [if_neg (by rw [cntP, decide_eq_false h2, decide_eq_false h3, Bool.or_false, Bool.and_false]; exact Bool.false_ne_true), Int.add_zero] at ht
            repeat' (first | with_reducible refine Sq.go ?_ | ((with_reducible refine Ev.mk ?_); conv => whnf) | with_reducible refine Dr.mk ⟨by kernel_rfl, by kernel_rfl⟩ ?_ | with_reducible refine obG ?_ | with_reducible refine Ob.mk ?_ ?_ | (with_reducible first | refine brT fun h => ?_ | refine brF fun h => ?_ | refine Br.mk (fun h => ?_) fun h => ?_) <;> (try simp only [bsl, beq_iff_eq, bne_iff_ne, bs2] at h) <;> (try contradiction) <;> try (exfalso; omega))
            refine ⟨k + 1, by show k + 1 ≤ q.length; omega, by show q.length - (k + 1) < q.length - k; omega, ?_⟩
            dsimp only
            rw [ht]
            repeat' (first | exact True.intro | exact rfl | exact Nat.le_refl _ | refine And.intro ?_ ?_)
      · rw [if_neg (by rw [cntP, decide_eq_false h1, Bool.false_and]; exact Bool.false_ne_true), Int.add_zero] at ht
        repeat' (first | with_reducible refine Sq.go ?_ | ((with_reducible refine Ev.mk ?_); conv => whnf) | with_reducible refine Dr.mk ⟨by kernel_rfl, by kernel_rfl⟩ ?_ | with_reducible refine obG ?_ | with_reducible refine Ob.mk ?_ ?_ | (with_reducible first | refine brT fun h => ?_ | refine brF fun h => ?_ | refine Br.mk (fun h => ?_) fun h => ?_) <;> (try simp only [bsl, beq_iff_eq, bne_iff_ne, bs2] at h) <;> (try contradiction) <;> try (exfalso; omega))
        refine ⟨k + 1, by show k + 1 ≤ q.length; omega, by show q.length - (k + 1) < q.length - k; omega, ?_⟩
        dsimp only
        rw [ht]
        repeat' (first | exact True.intro | exact rfl | exact Nat.le_refl _ | refine And.intro ?_ ?_)
    · rw [show q.take k = q from List.take_of_length_le (by omega)]
      repeat' (first | with_reducible refine Sq.go ?_ | ((with_reducible refine Ev.mk ?_); conv => whnf) | with_reducible refine Dr.mk ⟨by kernel_rfl, by kernel_rfl⟩ ?_ | with_reducible refine obG ?_ | with_reducible refine Ob.mk ?_ ?_ | (with_reducible first | refine brT fun h => ?_ | refine brF fun h => ?_ | refine Br.mk (fun h => ?_) fun h => ?_) <;> (try simp only [bsl, beq_iff_eq, bne_iff_ne, bs2] at h) <;> (try contradiction) <;> try (exfalso; omega))
      exact ⟨rfl, True.intro⟩
def rsvF (gs : List Grp) (g : Int) : Int := match gs.find? fun x => decide (x.g = g) with
  | none => 0
  | some x => x.seats
theorem rresv_ok (s : Sec) (hg : s.groups.length ≤ 1000000) (g : Int) : Pure Tryz.prog 68 [.agg (eSec s), .int .i64 g] [.int .i64 (rsvF s.groups g)] := by
  refine pure_rule hT (T := tab) (N := 27) (rs := [.tmp 4]) Tryz.func68 rfl rfl rfl (by kernel_rfl) rfl ?_
  repeat' (first | with_reducible refine Sq.go ?_ | ((with_reducible refine Ev.mk ?_); conv => whnf) | with_reducible refine Dr.mk ⟨by kernel_rfl, by kernel_rfl⟩ ?_ | with_reducible refine obG ?_ | with_reducible refine Ob.mk ?_ ?_ | (with_reducible first | refine brT fun h => ?_ | refine brF fun h => ?_ | refine Br.mk (fun h => ?_) fun h => ?_) <;> (try simp only [bsl, beq_iff_eq, bne_iff_ne, bs2] at h) <;> (try contradiction) <;> try (exfalso; omega))
  refine loop_rule hT (S := Nat) (fun k => ([(1, .d (.int .i64 g)), (2, .ptr (.loc 0) 0 0 0), (5, .d (.int .i64 k))], ⟨[some (.box 40 (up (eSec s)))], []⟩)) (fun k => k ≤ s.groups.length ∧ rsvF s.groups g = rsvF (s.groups.drop k) g) (fun k => s.groups.length - k) 0 ?_ ?_ ?_
  · repeat' (first | exact True.intro | exact rfl | exact Nat.le_refl _ | refine And.intro ?_ ?_)
  · exact ⟨Nat.zero_le _, rfl⟩
  · rintro k ⟨hk, hc⟩
    by_cases hk2 : k < s.groups.length
    · rw [drop_at hk2] at hc
      by_cases h1 : (s.groups.getD k default).g = g
      · have hc' : rsvF s.groups g = (s.groups.getD k default).seats := by rw [hc, rsvF, List.find?_cons_of_pos (by simpa using h1)]
        rw [hc']
        repeat' (first | with_reducible refine Sq.go ?_ | ((with_reducible refine Ev.mk ?_); conv => whnf) | with_reducible refine Dr.mk ⟨by kernel_rfl, by kernel_rfl⟩ ?_ | with_reducible refine obG ?_ | with_reducible refine Ob.mk ?_ ?_ | (with_reducible first | refine brT fun h => ?_ | refine brF fun h => ?_ | refine Br.mk (fun h => ?_) fun h => ?_) <;> (try simp only [bsl, beq_iff_eq, bne_iff_ne, bs2] at h) <;> (try contradiction) <;> try (exfalso; omega))
        exact ⟨rfl, True.intro⟩
      · have hc' : rsvF s.groups g = rsvF (s.groups.drop (k + 1)) g := by rw [hc, rsvF, List.find?_cons_of_neg (by simpa using h1)]; rfl
        repeat' (first | with_reducible refine Sq.go ?_ | ((with_reducible refine Ev.mk ?_); conv => whnf) | with_reducible refine Dr.mk ⟨by kernel_rfl, by kernel_rfl⟩ ?_ | with_reducible refine obG ?_ | with_reducible refine Ob.mk ?_ ?_ | (with_reducible first | refine brT fun h => ?_ | refine brF fun h => ?_ | refine Br.mk (fun h => ?_) fun h => ?_) <;> (try simp only [bsl, beq_iff_eq, bne_iff_ne, bs2] at h) <;> (try contradiction) <;> try (exfalso; omega))
        refine ⟨k + 1, ⟨by show k + 1 ≤ s.groups.length; omega, hc'⟩, by show s.groups.length - (k + 1) < s.groups.length - k; omega, ?_⟩
        repeat' (first | exact True.intro | exact rfl | exact Nat.le_refl _ | refine And.intro ?_ ?_)
    · rw [drop_end (by omega)] at hc
      rw [hc]
      repeat' (first | with_reducible refine Sq.go ?_ | ((with_reducible refine Ev.mk ?_); conv => whnf) | with_reducible refine Dr.mk ⟨by kernel_rfl, by kernel_rfl⟩ ?_ | with_reducible refine obG ?_ | with_reducible refine Ob.mk ?_ ?_ | (with_reducible first | refine brT fun h => ?_ | refine brF fun h => ?_ | refine Br.mk (fun h => ?_) fun h => ?_) <;> (try simp only [bsl, beq_iff_eq, bne_iff_ne, bs2] at h) <;> (try contradiction) <;> try (exfalso; omega))
      exact ⟨rfl, True.intro⟩
def kptF (gs : List Grp) (g now : Int) : Int := match gs.find? fun x => decide (x.g = g) with
  | none => 0
  | some x => if now < x.til then x.seats else 0
theorem rkept25_ok (s : Sec) (hg : s.groups.length ≤ 1000000) (g now : Int) : Pure Tryz.prog 71 [.agg (eSec s), .int .i64 g, .int .i64 now] [.int .i64 (keptI s g now)] := by
  refine pure_rule hT (T := tab) (N := 37) (rs := [.tmp 6]) Tryz.func71 rfl rfl rfl (by kernel_rfl) rfl ?_
  rw [show keptI s g now = kptF s.groups g now from rfl]
  repeat' (first | with_reducible refine Sq.go ?_ | ((with_reducible refine Ev.mk ?_); conv => whnf) | with_reducible refine Dr.mk ⟨by kernel_rfl, by kernel_rfl⟩ ?_ | with_reducible refine obG ?_ | with_reducible refine Ob.mk ?_ ?_ | (with_reducible first | refine brT fun h => ?_ | refine brF fun h => ?_ | refine Br.mk (fun h => ?_) fun h => ?_) <;> (try simp only [bsl, beq_iff_eq, bne_iff_ne, bs2] at h) <;> (try contradiction) <;> try (exfalso; omega))
  refine loop_rule hT (S := Nat) (fun k => ([(1, .d (.int .i64 g)), (2, .d (.int .i64 now)), (3, .ptr (.loc 0) 0 0 0), (7, .d (.int .i64 k))], ⟨[some (.box 40 (up (eSec s)))], []⟩)) (fun k => k ≤ s.groups.length ∧ kptF s.groups g now = kptF (s.groups.drop k) g now) (fun k => s.groups.length - k) 0 ?_ ?_ ?_
  · repeat' (first | exact True.intro | exact rfl | exact Nat.le_refl _ | refine And.intro ?_ ?_)
  · exact ⟨Nat.zero_le _, rfl⟩
  · rintro k ⟨hk, hc⟩
    by_cases hk2 : k < s.groups.length
    · rw [drop_at hk2] at hc
      by_cases h1 : (s.groups.getD k default).g = g
      · have hc' : kptF s.groups g now = if now < (s.groups.getD k default).til then (s.groups.getD k default).seats else 0 := by rw [hc, kptF, List.find?_cons_of_pos (by simpa using h1)]
        by_cases h2 : now < (s.groups.getD k default).til
        · rw [hc', if_pos h2]
          repeat' (first | with_reducible refine Sq.go ?_ | ((with_reducible refine Ev.mk ?_); conv => whnf) | with_reducible refine Dr.mk ⟨by kernel_rfl, by kernel_rfl⟩ ?_ | with_reducible refine obG ?_ | with_reducible refine Ob.mk ?_ ?_ | (with_reducible first | refine brT fun h => ?_ | refine brF fun h => ?_ | refine Br.mk (fun h => ?_) fun h => ?_) <;> (try simp only [bsl, beq_iff_eq, bne_iff_ne, bs2] at h) <;> (try contradiction) <;> try (exfalso; omega))
          exact ⟨rfl, True.intro⟩
        · rw [hc', if_neg h2]
          repeat' (first | with_reducible refine Sq.go ?_ | ((with_reducible refine Ev.mk ?_); conv => whnf) | with_reducible refine Dr.mk ⟨by kernel_rfl, by kernel_rfl⟩ ?_ | with_reducible refine obG ?_ | with_reducible refine Ob.mk ?_ ?_ | (with_reducible first | refine brT fun h => ?_ | refine brF fun h => ?_ | refine Br.mk (fun h => ?_) fun h => ?_) <;> (try simp only [bsl, beq_iff_eq, bne_iff_ne, bs2] at h) <;> (try contradiction) <;> try (exfalso; omega))
          exact ⟨rfl, True.intro⟩
      · have hc' : kptF s.groups g now = kptF (s.groups.drop (k + 1)) g now := by rw [hc, kptF, List.find?_cons_of_neg (by simpa using h1)]; rfl
        repeat' (first | with_reducible refine Sq.go ?_ | ((with_reducible refine Ev.mk ?_); conv => whnf) | with_reducible refine Dr.mk ⟨by kernel_rfl, by kernel_rfl⟩ ?_ | with_reducible refine obG ?_ | with_reducible refine Ob.mk ?_ ?_ | (with_reducible first | refine brT fun h => ?_ | refine brF fun h => ?_ | refine Br.mk (fun h => ?_) fun h => ?_) <;> (try simp only [bsl, beq_iff_eq, bne_iff_ne, bs2] at h) <;> (try contradiction) <;> try (exfalso; omega))
        refine ⟨k + 1, ⟨by show k + 1 ≤ s.groups.length; omega, hc'⟩, by show s.groups.length - (k + 1) < s.groups.length - k; omega, ?_⟩
        repeat' (first | exact True.intro | exact rfl | exact Nat.le_refl _ | refine And.intro ?_ ?_)
    · rw [drop_end (by omega)] at hc
      rw [hc]
      repeat' (first | with_reducible refine Sq.go ?_ | ((with_reducible refine Ev.mk ?_); conv => whnf) | with_reducible refine Dr.mk ⟨by kernel_rfl, by kernel_rfl⟩ ?_ | with_reducible refine obG ?_ | with_reducible refine Ob.mk ?_ ?_ | (with_reducible first | refine brT fun h => ?_ | refine brF fun h => ?_ | refine Br.mk (fun h => ?_) fun h => ?_) <;> (try simp only [bsl, beq_iff_eq, bne_iff_ne, bs2] at h) <;> (try contradiction) <;> try (exfalso; omega))
      exact ⟨rfl, True.intro⟩
theorem rall_ok (s : Sec) (hs : Small s) (q : List Seat) (hq : q.length ≤ 1000) : Pure Tryz.prog 72 [.agg (eSec s), eSeats q] [.int .i64 (s.seats - ((secL q s.id).length : Int))] := by
  refine pure_rule hT (T := tab) (N := 12) (rs := [.tmp 4]) Tryz.func72 rfl rfl rfl (by kernel_rfl) rfl ?_
  have hC := rcount_ok q hq s.id (-2)
  rw [cntL_all] at hC
  have hl := secL_len q s.id
  have := hs.lo
  have := hs.hi
  repeat' (first | with_reducible refine Sq.go ?_ | ((with_reducible refine Ev.mk ?_); conv => whnf) | with_reducible refine Dr.mk ⟨by kernel_rfl, by kernel_rfl⟩ ?_ | with_reducible refine obG ?_ | with_reducible refine Ob.mk ?_ ?_ | (with_reducible first | refine brT fun h => ?_ | refine brF fun h => ?_ | refine Br.mk (fun h => ?_) fun h => ?_) <;> (try simp only [bsl, beq_iff_eq, bne_iff_ne, bs2] at h) <;> (try contradiction) <;> try (exfalso; omega))
  refine qC hC ?_
  repeat' (first | with_reducible refine Sq.go ?_ | ((with_reducible refine Ev.mk ?_); conv => whnf) | with_reducible refine Dr.mk ⟨by kernel_rfl, by kernel_rfl⟩ ?_ | with_reducible refine obG ?_ | with_reducible refine Ob.mk ?_ ?_ | (with_reducible first | refine brT fun h => ?_ | refine brF fun h => ?_ | refine Br.mk (fun h => ?_) fun h => ?_) <;> (try simp only [bsl, beq_iff_eq, bne_iff_ne, bs2] at h) <;> (try contradiction) <;> try (exfalso; omega))
  exact ⟨rfl, True.intro⟩
theorem tkS_cons (x : Seat) (r : List Seat) (st n : Int) : tkS (x :: r) st n = ((decide (x.student = st) && decide (x.sec = n)) || tkS r st n) := by
  rw [Bool.eq_iff_iff, Bool.or_eq_true, Bool.and_eq_true, decide_eq_true_eq, decide_eq_true_eq, tkS_iff, tkS_iff]
  constructor
  · rintro ⟨y, hy, h1, h2⟩
    rcases List.mem_cons.1 hy with rfl | hy
    · exact .inl ⟨h2, h1⟩
    · exact .inr ⟨y, hy, h1, h2⟩
  · rintro (⟨h2, h1⟩ | ⟨y, hy, h1, h2⟩)
    · exact ⟨x, List.mem_cons_self .., h1, h2⟩
    · exact ⟨y, List.mem_cons_of_mem _ hy, h1, h2⟩
theorem rhas25_ok (q : List Seat) (hq : q.length ≤ 1000000) (st n : Int) : Pure Tryz.prog 28 [eSeats q, .int .i64 st, .int .i64 n] [.bool (tkS q st n)] := by
  refine pure_rule hT (T := tab) (N := 30) (rs := [.tmp 6]) Tryz.func28 rfl rfl rfl (by kernel_rfl) rfl ?_
  repeat' (first | with_reducible refine Sq.go ?_ | ((with_reducible refine Ev.mk ?_); conv => whnf) | with_reducible refine Dr.mk ⟨by kernel_rfl, by kernel_rfl⟩ ?_ | with_reducible refine obG ?_ | with_reducible refine Ob.mk ?_ ?_ | (with_reducible first | refine brT fun h => ?_ | refine brF fun h => ?_ | refine Br.mk (fun h => ?_) fun h => ?_) <;> (try simp only [bsl, beq_iff_eq, bne_iff_ne, bs2] at h) <;> (try contradiction) <;> try (exfalso; omega))
  refine loop_rule hT (S := Nat) (fun k => ([(0, .d (eSeats q)), (1, .d (.int .i64 st)), (2, .d (.int .i64 n)), (7, .d (.int .i64 k))], ⟨[], []⟩)) (fun k => k ≤ q.length ∧ tkS q st n = tkS (q.drop k) st n) (fun k => q.length - k) 0 ?_ ?_ ?_
  · repeat' (first | exact True.intro | exact rfl | exact Nat.le_refl _ | refine And.intro ?_ ?_)
  · exact ⟨Nat.zero_le _, rfl⟩
  · rintro k ⟨hk, hc⟩
    by_cases hk2 : k < q.length
    · rw [drop_at hk2, tkS_cons] at hc
      by_cases h1 : (q.getD k default).student = st ∧ (q.getD k default).sec = n
      · rw [decide_eq_true h1.1, decide_eq_true h1.2] at hc
        rw [hc]
        repeat' (first | with_reducible refine Sq.go ?_ | ((with_reducible refine Ev.mk ?_); conv => whnf) | with_reducible refine Dr.mk ⟨by kernel_rfl, by kernel_rfl⟩ ?_ | with_reducible refine obG ?_ | with_reducible refine Ob.mk ?_ ?_ | (with_reducible first | refine brT fun h => ?_ | refine brF fun h => ?_ | refine Br.mk (fun h => ?_) fun h => ?_) <;> (try simp only [bsl, beq_iff_eq, bne_iff_ne, bs2] at h) <;> (try contradiction) <;> try (exfalso; omega))
        exact ⟨rfl, True.intro⟩
      · rw [show (decide ((q.getD k default).student = st) && decide ((q.getD k default).sec = n)) = false by rw [Bool.and_eq_false_iff, decide_eq_false_iff_not, decide_eq_false_iff_not]; omega, Bool.false_or] at hc
        repeat' (first | with_reducible refine Sq.go ?_ | ((with_reducible refine Ev.mk ?_); conv => whnf) | with_reducible refine Dr.mk ⟨by kernel_rfl, by kernel_rfl⟩ ?_ | with_reducible refine obG ?_ | with_reducible refine Ob.mk ?_ ?_ | (with_reducible first | refine brT fun h => ?_ | refine brF fun h => ?_ | refine Br.mk (fun h => ?_) fun h => ?_) <;> (try simp only [bsl, beq_iff_eq, bne_iff_ne, bs2] at h) <;> (try contradiction) <;> try (exfalso; omega))
        all_goals
          refine ⟨k + 1, ⟨by show k + 1 ≤ q.length; omega, hc⟩, by show q.length - (k + 1) < q.length - k; omega, ?_⟩
          repeat' (first | exact True.intro | exact rfl | exact Nat.le_refl _ | refine And.intro ?_ ?_)
    · rw [drop_end (by omega)] at hc
      rw [hc]
      repeat' (first | with_reducible refine Sq.go ?_ | ((with_reducible refine Ev.mk ?_); conv => whnf) | with_reducible refine Dr.mk ⟨by kernel_rfl, by kernel_rfl⟩ ?_ | with_reducible refine obG ?_ | with_reducible refine Ob.mk ?_ ?_ | (with_reducible first | refine brT fun h => ?_ | refine brF fun h => ?_ | refine Br.mk (fun h => ?_) fun h => ?_) <;> (try simp only [bsl, beq_iff_eq, bne_iff_ne, bs2] at h) <;> (try contradiction) <;> try (exfalso; omega))
      exact ⟨rfl, True.intro⟩
theorem rgrps_ok (gs : List Int) (hx : gs.length ≤ 1000000) : Pure Tryz.prog 27 [eInts gs] [.bool (grpsB (-1) gs)] := by
  refine pure_rule hT (T := tab) (N := 38) (rs := [.tmp 2]) Tryz.func27 rfl rfl rfl (by kernel_rfl) rfl ?_
  repeat' (first | with_reducible refine Sq.go ?_ | ((with_reducible refine Ev.mk ?_); conv => whnf) | with_reducible refine Dr.mk ⟨by kernel_rfl, by kernel_rfl⟩ ?_ | with_reducible refine obG ?_ | with_reducible refine Ob.mk ?_ ?_ | (with_reducible first | refine brT fun h => ?_ | refine brF fun h => ?_ | refine Br.mk (fun h => ?_) fun h => ?_) <;> (try simp only [bsl, beq_iff_eq, bne_iff_ne, bs2] at h) <;> (try contradiction) <;> try (exfalso; omega))
  refine loop_rule hT (S := Nat) (fun k => ([(0, .d (eInts gs)), (3, .d (.int .i64 k))], ⟨[], []⟩)) (fun k => k ≤ gs.length ∧ grpsB (-1) gs = grpsB (prevI gs k) (gs.drop k) ∧ -1 ≤ prevI gs k) (fun k => gs.length - k) 0 ?_ ?_ ?_
  · repeat' (first | exact True.intro | exact rfl | exact Nat.le_refl _ | refine And.intro ?_ ?_)
  · exact ⟨Nat.zero_le _, rfl, Int.le_refl _⟩
  · rintro k ⟨hk, hc, hp⟩
    by_cases hk2 : k < gs.length
    · rw [drop_at hk2, grpsB, ← prevI_succ gs k] at hc
      by_cases h1 : prevI gs k < gs.getD k default ∧ gs.getD k default < 8
      · rw [prevI_succ, decide_eq_true h1.1, decide_eq_true h1.2] at hc
        have hc2 : grpsB (-1) gs = grpsB (prevI gs (k + 1)) (gs.drop (k + 1)) := by rw [prevI_succ]; exact hc
        have h2 : k = 0 ∨ 0 < k ∧ gs.getD ((k : Int) - 1).toNat default < gs.getD k default := by
          by_cases hk0 : k = 0
          · exact .inl hk0
          · refine .inr ⟨by omega, ?_⟩
            have := h1.1
            rw [prevI, if_neg hk0] at this
            exact this
        have h3 : 0 ≤ gs.getD k default := by omega
        have h4 := h1.2
        repeat' (first | with_reducible refine Sq.go ?_ | ((with_reducible refine Ev.mk ?_); conv => whnf) | with_reducible refine Dr.mk ⟨by kernel_rfl, by kernel_rfl⟩ ?_ | with_reducible refine obG ?_ | with_reducible refine Ob.mk ?_ ?_ | (with_reducible first | refine brT fun h => ?_ | refine brF fun h => ?_ | refine Br.mk (fun h => ?_) fun h => ?_) <;> (try simp only [bsl, beq_iff_eq, bne_iff_ne, bs2] at h) <;> (try contradiction) <;> try (exfalso; omega))
        all_goals
          refine ⟨k + 1, ⟨by show k + 1 ≤ gs.length; omega, hc2, by show -1 ≤ prevI gs (k + 1); rw [prevI_succ]; omega⟩, by show gs.length - (k + 1) < gs.length - k; omega, ?_⟩
          repeat' (first | exact True.intro | exact rfl | exact Nat.le_refl _ | refine And.intro ?_ ?_)
      · have hc2 : grpsB (-1) gs = false := by
          rw [hc, prevI_succ, show (decide (prevI gs k < gs.getD k default) && decide (gs.getD k default < 8)) = false by rw [Bool.and_eq_false_iff, decide_eq_false_iff_not, decide_eq_false_iff_not]; omega]
          rfl
        have h2 : gs.getD k default < 0 ∨ 8 ≤ gs.getD k default ∨ 0 < k ∧ gs.getD k default ≤ gs.getD ((k : Int) - 1).toNat default := by
          by_cases hk0 : k = 0
          · rw [prevI, if_pos hk0] at h1
            omega
          · rw [prevI, if_neg hk0] at h1
            omega
        rw [hc2]
        repeat' (first | with_reducible refine Sq.go ?_ | ((with_reducible refine Ev.mk ?_); conv => whnf) | with_reducible refine Dr.mk ⟨by kernel_rfl, by kernel_rfl⟩ ?_ | with_reducible refine obG ?_ | with_reducible refine Ob.mk ?_ ?_ | (with_reducible first | refine brT fun h => ?_ | refine brF fun h => ?_ | refine Br.mk (fun h => ?_) fun h => ?_) <;> (try simp only [bsl, beq_iff_eq, bne_iff_ne, bs2] at h) <;> (try contradiction) <;> try (exfalso; omega))
        all_goals exact ⟨rfl, True.intro⟩
    · rw [drop_end (by omega)] at hc
      rw [hc]
      repeat' (first | with_reducible refine Sq.go ?_ | ((with_reducible refine Ev.mk ?_); conv => whnf) | with_reducible refine Dr.mk ⟨by kernel_rfl, by kernel_rfl⟩ ?_ | with_reducible refine obG ?_ | with_reducible refine Ob.mk ?_ ?_ | (with_reducible first | refine brT fun h => ?_ | refine brF fun h => ?_ | refine Br.mk (fun h => ?_) fun h => ?_) <;> (try simp only [bsl, beq_iff_eq, bne_iff_ne, bs2] at h) <;> (try contradiction) <;> try (exfalso; omega))
      exact ⟨rfl, True.intro⟩
theorem rfreefor_ok (s : Sec) (hs : Small s) (q : List Seat) (hq : q.length ≤ 1000) (g now : Int) (hg : g ≠ -2) : Pure Tryz.prog 51 [.agg (eSec s), eSeats q, .int .i64 g, .int .i64 now] [.int .i64 (resI s (secL q s.id) now g)] := by
  refine pure_rule hT (T := tab) (N := 26) (rs := [.tmp 8]) Tryz.func51 rfl rfl rfl (by kernel_rfl) rfl ?_
  have hK := rkept25_ok s hs.groups g now
  have hC := rcount_ok q hq s.id g
  rw [cntL_grp _ _ _ hg] at hC
  have hA := rall_ok s hs q hq
  have hl := secL_len q s.id
  have hb := hs.kept g now
  have hcb := cntG_le (secL q s.id) g
  have hlo := hs.lo
  have hhi := hs.hi
  repeat' (first | with_reducible refine Sq.go ?_ | ((with_reducible refine Ev.mk ?_); conv => whnf) | with_reducible refine Dr.mk ⟨by kernel_rfl, by kernel_rfl⟩ ?_ | with_reducible refine obG ?_ | with_reducible refine Ob.mk ?_ ?_ | (with_reducible first | refine brT fun h => ?_ | refine brF fun h => ?_ | refine Br.mk (fun h => ?_) fun h => ?_) <;> (try simp only [bsl, beq_iff_eq, bne_iff_ne, bs2] at h) <;> (try contradiction) <;> try (exfalso; omega))
  refine qC hK ?_
  repeat' (first | with_reducible refine Sq.go ?_ | ((with_reducible refine Ev.mk ?_); conv => whnf) | with_reducible refine Dr.mk ⟨by kernel_rfl, by kernel_rfl⟩ ?_ | with_reducible refine obG ?_ | with_reducible refine Ob.mk ?_ ?_ | (with_reducible first | refine brT fun h => ?_ | refine brF fun h => ?_ | refine Br.mk (fun h => ?_) fun h => ?_) <;> (try simp only [bsl, beq_iff_eq, bne_iff_ne, bs2] at h) <;> (try contradiction) <;> try (exfalso; omega))
  refine qC hC ?_
  repeat' (first | with_reducible refine Sq.go ?_ | ((with_reducible refine Ev.mk ?_); conv => whnf) | with_reducible refine Dr.mk ⟨by kernel_rfl, by kernel_rfl⟩ ?_ | with_reducible refine obG ?_ | with_reducible refine Ob.mk ?_ ?_ | (with_reducible first | refine brT fun h => ?_ | refine brF fun h => ?_ | refine Br.mk (fun h => ?_) fun h => ?_) <;> (try simp only [bsl, beq_iff_eq, bne_iff_ne, bs2] at h) <;> (try contradiction) <;> try (exfalso; omega))
  refine hA.call ?_
  repeat' (first | with_reducible refine Sq.go ?_ | ((with_reducible refine Ev.mk ?_); conv => whnf) | with_reducible refine Dr.mk ⟨by kernel_rfl, by kernel_rfl⟩ ?_ | with_reducible refine obG ?_ | with_reducible refine Ob.mk ?_ ?_ | (with_reducible first | refine brT fun h => ?_ | refine brF fun h => ?_ | refine Br.mk (fun h => ?_) fun h => ?_) <;> (try simp only [bsl, beq_iff_eq, bne_iff_ne, bs2] at h) <;> (try contradiction) <;> try (exfalso; omega))
  exact ⟨rfl, True.intro⟩
theorem rgeneral_ok (s : Sec) (hs : Small s) (q : List Seat) (hq : q.length ≤ 1000) (now : Int) : Pure Tryz.prog 53 [.agg (eSec s), eSeats q, .int .i64 now] [.int .i64 (genS s q now)] := by
  refine pure_rule hT (T := tab) (N := 34) (rs := [.tmp 6]) Tryz.func53 rfl rfl rfl (by kernel_rfl) rfl ?_
  have hC := rcount_ok q hq s.id (-1)
  rw [cntL_grp _ _ _ (by decide)] at hC
  have hl := secL_len q s.id
  have hcb0 := cntG_le (secL q s.id) (-1)
  have hlo := hs.lo
  have hhi := hs.hi
  repeat' (first | with_reducible refine Sq.go ?_ | ((with_reducible refine Ev.mk ?_); conv => whnf) | with_reducible refine Dr.mk ⟨by kernel_rfl, by kernel_rfl⟩ ?_ | with_reducible refine obG ?_ | with_reducible refine Ob.mk ?_ ?_ | (with_reducible first | refine brT fun h => ?_ | refine brF fun h => ?_ | refine Br.mk (fun h => ?_) fun h => ?_) <;> (try simp only [bsl, beq_iff_eq, bne_iff_ne, bs2] at h) <;> (try contradiction) <;> try (exfalso; omega))
  refine qC hC ?_
  repeat' (first | with_reducible refine Sq.go ?_ | ((with_reducible refine Ev.mk ?_); conv => whnf) | with_reducible refine Dr.mk ⟨by kernel_rfl, by kernel_rfl⟩ ?_ | with_reducible refine obG ?_ | with_reducible refine Ob.mk ?_ ?_ | (with_reducible first | refine brT fun h => ?_ | refine brF fun h => ?_ | refine Br.mk (fun h => ?_) fun h => ?_) <;> (try simp only [bsl, beq_iff_eq, bne_iff_ne, bs2] at h) <;> (try contradiction) <;> try (exfalso; omega))
  refine loop_rule hT (S := Nat) (fun k => ([(1, .d (eSeats q)), (2, .d (.int .i64 now)), (3, .ptr (.loc 0) 0 0 0), (7, .d (.int .i64 (genI s (secL q s.id) now k))), (8, .d (.int .i64 k))], ⟨[some (.box 40 (up (eSec s)))], []⟩)) (fun k => k ≤ 8) (fun k => 8 - k) 0 ?_ ?_ ?_
  · repeat' (first | exact True.intro | exact rfl | exact Nat.le_refl _ | refine And.intro ?_ ?_)
  · exact Nat.zero_le _
  · intro k hk
    have hgb := genI_bd hs (show (secL q s.id).length ≤ 1000 by omega) now k
    by_cases hk2 : k < 8
    · have hK := rkept25_ok s hs.groups k now
      have hC2 := rcount_ok q hq s.id k
      rw [cntL_grp _ _ _ (by omega)] at hC2
      have hcb := cntG_le (secL q s.id) k
      have hkb := hs.kept k now
      have hgs : genI s (secL q s.id) now (k + 1) = genI s (secL q s.id) now k - max (keptI s k now) (cntG (secL q s.id) k) := rfl
      obtain ⟨a, ha⟩ : ∃ a, genI s (secL q s.id) now k = a := ⟨_, rfl⟩
      obtain ⟨b, hb⟩ : ∃ b, keptI s k now = b := ⟨_, rfl⟩
      obtain ⟨c, hc⟩ : ∃ c, cntG (secL q s.id) k = c := ⟨_, rfl⟩
      rw [ha] at hgb hgs ⊢
      rw [hb] at hK hkb hgs
      rw [hc] at hC2 hcb hgs
      have hI : In .i64 (a - max b c) := in64.2 (by omega)
      repeat' (first | with_reducible refine Sq.go ?_ | ((with_reducible refine Ev.mk ?_); conv => whnf) | with_reducible refine Dr.mk ⟨by kernel_rfl, by kernel_rfl⟩ ?_ | with_reducible refine obG ?_ | with_reducible refine Ob.mk ?_ ?_ | (with_reducible first | refine brT fun h => ?_ | refine brF fun h => ?_ | refine Br.mk (fun h => ?_) fun h => ?_) <;> (try simp only [bsl, beq_iff_eq, bne_iff_ne, bs2] at h) <;> (try contradiction) <;> try (exfalso; omega))
      refine qC hK ?_
      repeat' (first | with_reducible refine Sq.go ?_ | ((with_reducible refine Ev.mk ?_); conv => whnf) | with_reducible refine Dr.mk ⟨by kernel_rfl, by kernel_rfl⟩ ?_ | with_reducible refine obG ?_ | with_reducible refine Ob.mk ?_ ?_ | (with_reducible first | refine brT fun h => ?_ | refine brF fun h => ?_ | refine Br.mk (fun h => ?_) fun h => ?_) <;> (try simp only [bsl, beq_iff_eq, bne_iff_ne, bs2] at h) <;> (try contradiction) <;> try (exfalso; omega))
      refine qC hC2 ?_
      repeat' (first | with_reducible refine Sq.go ?_ | ((with_reducible refine Ev.mk ?_); conv => whnf) | with_reducible refine Dr.mk ⟨by kernel_rfl, by kernel_rfl⟩ ?_ | with_reducible refine obG ?_ | with_reducible refine Ob.mk ?_ ?_ | (with_reducible first | refine brT fun h => ?_ | refine brF fun h => ?_ | refine Br.mk (fun h => ?_) fun h => ?_) <;> (try simp only [bsl, beq_iff_eq, bne_iff_ne, bs2] at h) <;> (try contradiction) <;> try (exfalso; omega))
      refine ⟨k + 1, by show k + 1 ≤ 8; omega, by show 8 - (k + 1) < 8 - k; omega, ?_⟩
      dsimp only
      rw [hgs]
      repeat' (first | exact True.intro | exact rfl | exact Nat.le_refl _ | refine And.intro ?_ ?_)
    · have : k = 8 := by omega
      subst this
      repeat' (first | with_reducible refine Sq.go ?_ | ((with_reducible refine Ev.mk ?_); conv => whnf) | with_reducible refine Dr.mk ⟨by kernel_rfl, by kernel_rfl⟩ ?_ | with_reducible refine obG ?_ | with_reducible refine Ob.mk ?_ ?_ | (with_reducible first | refine brT fun h => ?_ | refine brF fun h => ?_ | refine Br.mk (fun h => ?_) fun h => ?_) <;> (try simp only [bsl, beq_iff_eq, bne_iff_ne, bs2] at h) <;> (try contradiction) <;> try (exfalso; omega))
      exact ⟨rfl, True.intro⟩
end Go.Proofs.YtfbjlakcolipaaaGreatDoor
