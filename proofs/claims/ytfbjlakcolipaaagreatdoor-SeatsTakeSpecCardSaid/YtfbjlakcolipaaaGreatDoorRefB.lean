/-
  The reference of chapter 25: Insert, one, Take, Leave.
-/
import Derived.Test.YtfbjlakcolipaaaGreatDoorRefA
import Derived.Test.YtfbjlakcolipaaaGreatDoorSeatU
namespace Go.Proofs.YtfbjlakcolipaaaGreatDoor
set_option linter.unusedSimpArgs false
set_option linter.unusedVariables false
open Go Go.Ab
set_option maxRecDepth 100000
set_option maxHeartbeats 0
theorem posS_stop : ∀ (q : List Seat) (t : Seat), posS q t < q.length → ¬ seatC (q.getD (posS q t) default) t < 0
  | [], t, h => absurd h (Nat.not_lt_zero _)
  | x :: r, t, h => by
    by_cases h0 : seatC x t < 0
    · have e : posS (x :: r) t = posS r t + 1 := by rw [posS, if_pos h0]
      rw [e] at h ⊢
      exact posS_stop r t (by simpa using h)
    · have e : posS (x :: r) t = 0 := by rw [posS, if_neg h0]
      rw [e]
      exact h0
theorem ins_rows (q : List Seat) (k : Nat) (t : Seat) (hkq : k ≤ q.length) (i : Nat) (hi : i < q.length + 1) :
    joinF (0 + k + 1) (joinF (0 + k) (joinF 0 (rowFn []) fun i => up ((fun i => eSeat (q.getD i default)) i)) (rowFn [up [D.int .i64 t.student, D.int .i64 t.sec, D.int .i64 t.group]])) (fun i => up ((fun i => (fun i => eSeat (q.getD i default)) (k + i)) i)) i = up (eSeat ((insAt q k t).getD i default)) := by
  have hr := insAt_row q k t hkq i
  unfold rowsS at hr
  refine Eq.trans ?_ hr.symm
  dsimp only
  by_cases h1 : i < k
  · rw [if_pos h1, joinF_lt (show i < 0 + k + 1 by omega), joinF_lt (show i < 0 + k by omega), joinF_ge (Nat.zero_le _)]
    rfl
  · rw [if_neg h1]
    by_cases h2 : i = k
    · subst h2
      rw [if_pos rfl, joinF_lt (show i < 0 + i + 1 by omega), joinF_ge (show 0 + i ≤ i by omega)]
      rfl
    · rw [if_neg h2, joinF_ge (show 0 + k + 1 ≤ i by omega), show k + (i - (0 + k + 1)) = i - 1 by omega]
theorem rinsert_ok (q : List Seat) (hq : q.length ≤ 1000) (t : Seat) : Pure Tryz.prog 52 [eSeats q, .agg (eSeat t)] [eSeats (insS q t)] := by
  refine pure_rule hT (T := tab) (N := 57) (rs := [.tmp 4]) Tryz.func52 rfl rfl rfl (by kernel_rfl) rfl ?_
  have hpl := posS_le q t
  repeat' (first | with_reducible refine Sq.go ?_ | ((with_reducible refine Ev.mk ?_); conv => whnf) | with_reducible refine Dr.mk ⟨by kernel_rfl, by kernel_rfl⟩ ?_ | with_reducible refine obG ?_ | with_reducible refine Ob.mk ?_ ?_ | (with_reducible first | refine brT fun h => ?_ | refine brF fun h => ?_ | refine Br.mk (fun h => ?_) fun h => ?_) <;> (try simp only [bsl, beq_iff_eq, bne_iff_ne, bs2] at h) <;> (try contradiction) <;> try (exfalso; omega))
  refine loop_rule hT (S := Nat) (fun k => ([(0, .d (eSeats q)), (3, .ptr (.loc 0) 0 0 0), (5, .d (.int .i64 k))], ⟨[some (.box 44 (up (eSeat t)))], []⟩)) (fun k => k ≤ posS q t) (fun k => q.length - k) 0 ?_ ?_ ?_
  · repeat' (first | exact True.intro | exact rfl | exact Nat.le_refl _ | refine And.intro ?_ ?_)
  · exact Nat.zero_le _
  · intro k hk
    by_cases hk2 : k < posS q t
    · have hlt := posS_before q t k hk2
      rw [seatC_neg] at hlt
      repeat' (first | with_reducible refine Sq.go ?_ | ((with_reducible refine Ev.mk ?_); conv => whnf) | with_reducible refine Dr.mk ⟨by kernel_rfl, by kernel_rfl⟩ ?_ | with_reducible refine obG ?_ | with_reducible refine Ob.mk ?_ ?_ | (with_reducible first | refine brT fun h => ?_ | refine brF fun h => ?_ | refine Br.mk (fun h => ?_) fun h => ?_) <;> (try simp only [bsl, beq_iff_eq, bne_iff_ne, bs2] at h) <;> (try contradiction) <;> try (exfalso; omega))
      all_goals
        refine ⟨k + 1, by show k + 1 ≤ posS q t; omega, by show q.length - (k + 1) < q.length - k; omega, ?_⟩
        repeat' (first | exact True.intro | exact rfl | exact Nat.le_refl _ | refine And.intro ?_ ?_)
    · have hkp : k = posS q t := by omega
      have hstop : k < q.length → ¬ ((q.getD k default).sec < t.sec ∨ (q.getD k default).sec = t.sec ∧ (q.getD k default).student < t.student) := fun h => by
        rw [← seatC_neg, hkp]
        exact posS_stop q t (by rw [← hkp]; exact h)
      rw [insS_at, ← hkp]
      have hkq : k ≤ q.length := by omega
      have hil : (insAt q k t).length = q.length + 1 := by
        unfold insAt
        rw [List.length_append, List.length_take, List.length_cons, List.length_drop]
        omega
      have hb1 : (0 + (k : Int).toNat) * bytesAt tab 44 ≤ 140737488355328 := Nat.le_trans (Nat.mul_le_mul_right _ (show _ ≤ 2000000 by omega)) (by with_unfolding_all decide)
      have hb2 : (0 + (k : Int).toNat + 1) * bytesAt tab 44 ≤ 140737488355328 := Nat.le_trans (Nat.mul_le_mul_right _ (show _ ≤ 2000000 by omega)) (by with_unfolding_all decide)
      have hb3 : (0 + (k : Int).toNat + 1 + (q.length - (k : Int).toNat)) * bytesAt tab 44 ≤ 140737488355328 := Nat.le_trans (Nat.mul_le_mul_right _ (show _ ≤ 2000000 by omega)) (by with_unfolding_all decide)
      clear hkp hk2 hk
      repeat' (first | with_reducible refine Sq.go ?_ | ((with_reducible refine Ev.mk ?_); conv => whnf) | with_reducible refine Dr.mk ⟨by kernel_rfl, by kernel_rfl⟩ ?_ | with_reducible refine obG ?_ | with_reducible refine Ob.mk ?_ ?_ | (with_reducible first | refine brT fun h => ?_ | refine brF fun h => ?_ | refine Br.mk (fun h => ?_) fun h => ?_) <;> (try simp only [bsl, beq_iff_eq, bne_iff_ne, bs2] at h) <;> (try contradiction) <;> try (exfalso; omega))
      refine ⟨⟨rfl, rfl, ?_, ?_, fun i hi => ?_⟩, True.intro⟩
      · show 0 + (0 + k + 1 + (q.length - k)) ≤ 0 + k + 1 + (q.length - k)
        omega
      · show 0 + k + 1 + (q.length - k) = (insAt q k t).length
        omega
      · have hi2 : i < q.length + 1 := by
          have : i < (insAt q k t).length := hi
          omega
        exact Eq.trans (congrArg _ (Nat.zero_add i)) (ins_rows q k t hkq i hi2)
def rOne (o : Option (List Seat)) : List D := [eSeats (o.getD []), .bool o.isSome]
theorem one_ok (l : List Sec) (hl : l.length ≤ 1000000) (q : List Seat) (hq : q.length ≤ 1000) (st sec : Int) (gs : List Int) (hgl : gs.length ≤ 1000000) (hgs : ∀ g ∈ gs, -1 < g ∧ g < 8) (now : Int) {s : Sec} (hf : findS l sec = some s) (hs : Small s) :
    Pure Tryz.prog 29 [eSecs l, eSeats q, .int .i64 st, .int .i64 sec, eInts gs, .int .i64 now] (rOne (take1 s q st sec gs now)) := by
  refine pure_rule hT (T := tab) (N := 57) (rs := [.tmp 12, .tmp 13]) Tryz.func29 rfl rfl rfl (by kernel_rfl) rfl ?_
  have hF := rfind_some hl hf
  have hG := rgeneral_ok s hs q hq now
  repeat' (first | with_reducible refine Sq.go ?_ | ((with_reducible refine Ev.mk ?_); conv => whnf) | with_reducible refine Dr.mk ⟨by kernel_rfl, by kernel_rfl⟩ ?_ | with_reducible refine obG ?_ | with_reducible refine Ob.mk ?_ ?_ | (with_reducible first | refine brT fun h => ?_ | refine brF fun h => ?_ | refine Br.mk (fun h => ?_) fun h => ?_) <;> (try simp only [bsl, beq_iff_eq, bne_iff_ne, bs2] at h) <;> (try contradiction) <;> try (exfalso; omega))
  refine hF.call ?_
  repeat' (first | with_reducible refine Sq.go ?_ | ((with_reducible refine Ev.mk ?_); conv => whnf) | with_reducible refine Dr.mk ⟨by kernel_rfl, by kernel_rfl⟩ ?_ | with_reducible refine obG ?_ | with_reducible refine Ob.mk ?_ ?_ | (with_reducible first | refine brT fun h => ?_ | refine brF fun h => ?_ | refine Br.mk (fun h => ?_) fun h => ?_) <;> (try simp only [bsl, beq_iff_eq, bne_iff_ne, bs2] at h) <;> (try contradiction) <;> try (exfalso; omega))
  refine loop_rule hT (S := Nat) (fun k => ([(1, .d (eSeats q)), (2, .d (.int .i64 st)), (3, .d (.int .i64 sec)), (4, .d (eInts gs)), (5, .d (.int .i64 now)), (14, .ptr (.loc 0) 0 0 0), (16, .d (.int .i64 k))], ⟨[some (.box 40 (up (eSec s)))], []⟩)) (fun k => k ≤ gs.length ∧ grpFor s q now gs = grpFor s q now (gs.drop k)) (fun k => gs.length - k) 0 ?_ ?_ ?_
  · repeat' (first | exact True.intro | exact rfl | exact Nat.le_refl _ | refine And.intro ?_ ?_)
  · exact ⟨Nat.zero_le _, rfl⟩
  · rintro k ⟨hk, hc⟩
    by_cases hk2 : k < gs.length
    · have hgk := hgs _ (getD_mem hk2)
      have hfr := rfreefor_ok s hs q hq (gs.getD k default) now (by omega)
      rw [drop_at hk2] at hc
      obtain ⟨r, hr⟩ : ∃ r, resI s (secL q s.id) now (gs.getD k default) = r := ⟨_, rfl⟩
      rw [hr] at hfr
      by_cases h1 : r > 0
      · have hc' : grpFor s q now gs = some (gs.getD k default) := by rw [hc, grpFor, List.find?_cons_of_pos (by rw [hr]; exact decide_eq_true h1)]
        have hI := rinsert_ok q hq ⟨st, sec, gs.getD k default⟩
        rw [show rOne (take1 s q st sec gs now) = [eSeats (insS q ⟨st, sec, gs.getD k default⟩), .bool true] by rw [take1, hc']; rfl]
        repeat' (first | with_reducible refine Sq.go ?_ | ((with_reducible refine Ev.mk ?_); conv => whnf) | with_reducible refine Dr.mk ⟨by kernel_rfl, by kernel_rfl⟩ ?_ | with_reducible refine obG ?_ | with_reducible refine Ob.mk ?_ ?_ | (with_reducible first | refine brT fun h => ?_ | refine brF fun h => ?_ | refine Br.mk (fun h => ?_) fun h => ?_) <;> (try simp only [bsl, beq_iff_eq, bne_iff_ne, bs2] at h) <;> (try contradiction) <;> try (exfalso; omega))
        refine qC hfr ?_
        repeat' (first | with_reducible refine Sq.go ?_ | ((with_reducible refine Ev.mk ?_); conv => whnf) | with_reducible refine Dr.mk ⟨by kernel_rfl, by kernel_rfl⟩ ?_ | with_reducible refine obG ?_ | with_reducible refine Ob.mk ?_ ?_ | (with_reducible first | refine brT fun h => ?_ | refine brF fun h => ?_ | refine Br.mk (fun h => ?_) fun h => ?_) <;> (try simp only [bsl, beq_iff_eq, bne_iff_ne, bs2] at h) <;> (try contradiction) <;> try (exfalso; omega))
        refine hI.call ?_
        repeat' (first | with_reducible refine Sq.go ?_ | ((with_reducible refine Ev.mk ?_); conv => whnf) | with_reducible refine Dr.mk ⟨by kernel_rfl, by kernel_rfl⟩ ?_ | with_reducible refine obG ?_ | with_reducible refine Ob.mk ?_ ?_ | (with_reducible first | refine brT fun h => ?_ | refine brF fun h => ?_ | refine Br.mk (fun h => ?_) fun h => ?_) <;> (try simp only [bsl, beq_iff_eq, bne_iff_ne, bs2] at h) <;> (try contradiction) <;> try (exfalso; omega))
        exact ⟨⟨rfl, rfl, fun i hi => rfl⟩, rfl, True.intro⟩
      · have hc' : grpFor s q now gs = grpFor s q now (gs.drop (k + 1)) := by rw [hc, grpFor, List.find?_cons_of_neg (by rw [hr]; simpa using h1)]; rfl
        repeat' (first | with_reducible refine Sq.go ?_ | ((with_reducible refine Ev.mk ?_); conv => whnf) | with_reducible refine Dr.mk ⟨by kernel_rfl, by kernel_rfl⟩ ?_ | with_reducible refine obG ?_ | with_reducible refine Ob.mk ?_ ?_ | (with_reducible first | refine brT fun h => ?_ | refine brF fun h => ?_ | refine Br.mk (fun h => ?_) fun h => ?_) <;> (try simp only [bsl, beq_iff_eq, bne_iff_ne, bs2] at h) <;> (try contradiction) <;> try (exfalso; omega))
        refine qC hfr ?_
        repeat' (first | with_reducible refine Sq.go ?_ | ((with_reducible refine Ev.mk ?_); conv => whnf) | with_reducible refine Dr.mk ⟨by kernel_rfl, by kernel_rfl⟩ ?_ | with_reducible refine obG ?_ | with_reducible refine Ob.mk ?_ ?_ | (with_reducible first | refine brT fun h => ?_ | refine brF fun h => ?_ | refine Br.mk (fun h => ?_) fun h => ?_) <;> (try simp only [bsl, beq_iff_eq, bne_iff_ne, bs2] at h) <;> (try contradiction) <;> try (exfalso; omega))
        refine ⟨k + 1, ⟨by show k + 1 ≤ gs.length; omega, hc'⟩, by show gs.length - (k + 1) < gs.length - k; omega, ?_⟩
        repeat' (first | exact True.intro | exact rfl | exact Nat.le_refl _ | refine And.intro ?_ ?_)
    · rw [drop_end (by omega)] at hc
      have hn : grpFor s q now gs = none := hc
      obtain ⟨gn, hgn⟩ : ∃ gn, genS s q now = gn := ⟨_, rfl⟩
      have hge : 0 ≤ gn := by rw [← hgn]; unfold genS; omega
      rw [hgn] at hG
      by_cases hz : gn = 0
      · rw [show rOne (take1 s q st sec gs now) = [eSeats [], .bool false] by rw [take1, hn]; dsimp only; rw [hgn, if_pos hz]; rfl]
        repeat' (first | with_reducible refine Sq.go ?_ | ((with_reducible refine Ev.mk ?_); conv => whnf) | with_reducible refine Dr.mk ⟨by kernel_rfl, by kernel_rfl⟩ ?_ | with_reducible refine obG ?_ | with_reducible refine Ob.mk ?_ ?_ | (with_reducible first | refine brT fun h => ?_ | refine brF fun h => ?_ | refine Br.mk (fun h => ?_) fun h => ?_) <;> (try simp only [bsl, beq_iff_eq, bne_iff_ne, bs2] at h) <;> (try contradiction) <;> try (exfalso; omega))
        refine hG.call ?_
        repeat' (first | with_reducible refine Sq.go ?_ | ((with_reducible refine Ev.mk ?_); conv => whnf) | with_reducible refine Dr.mk ⟨by kernel_rfl, by kernel_rfl⟩ ?_ | with_reducible refine obG ?_ | with_reducible refine Ob.mk ?_ ?_ | (with_reducible first | refine brT fun h => ?_ | refine brF fun h => ?_ | refine Br.mk (fun h => ?_) fun h => ?_) <;> (try simp only [bsl, beq_iff_eq, bne_iff_ne, bs2] at h) <;> (try contradiction) <;> try (exfalso; omega))
        exact ⟨rfl, rfl, True.intro⟩
      · have hI := rinsert_ok q hq ⟨st, sec, -1⟩
        rw [show rOne (take1 s q st sec gs now) = [eSeats (insS q ⟨st, sec, -1⟩), .bool true] by rw [take1, hn]; dsimp only; rw [hgn, if_neg hz]; rfl]
        repeat' (first | with_reducible refine Sq.go ?_ | ((with_reducible refine Ev.mk ?_); conv => whnf) | with_reducible refine Dr.mk ⟨by kernel_rfl, by kernel_rfl⟩ ?_ | with_reducible refine obG ?_ | with_reducible refine Ob.mk ?_ ?_ | (with_reducible first | refine brT fun h => ?_ | refine brF fun h => ?_ | refine Br.mk (fun h => ?_) fun h => ?_) <;> (try simp only [bsl, beq_iff_eq, bne_iff_ne, bs2] at h) <;> (try contradiction) <;> try (exfalso; omega))
        refine hG.call ?_
        repeat' (first | with_reducible refine Sq.go ?_ | ((with_reducible refine Ev.mk ?_); conv => whnf) | with_reducible refine Dr.mk ⟨by kernel_rfl, by kernel_rfl⟩ ?_ | with_reducible refine obG ?_ | with_reducible refine Ob.mk ?_ ?_ | (with_reducible first | refine brT fun h => ?_ | refine brF fun h => ?_ | refine Br.mk (fun h => ?_) fun h => ?_) <;> (try simp only [bsl, beq_iff_eq, bne_iff_ne, bs2] at h) <;> (try contradiction) <;> try (exfalso; omega))
        refine hI.call ?_
        repeat' (first | with_reducible refine Sq.go ?_ | ((with_reducible refine Ev.mk ?_); conv => whnf) | with_reducible refine Dr.mk ⟨by kernel_rfl, by kernel_rfl⟩ ?_ | with_reducible refine obG ?_ | with_reducible refine Ob.mk ?_ ?_ | (with_reducible first | refine brT fun h => ?_ | refine brF fun h => ?_ | refine Br.mk (fun h => ?_) fun h => ?_) <;> (try simp only [bsl, beq_iff_eq, bne_iff_ne, bs2] at h) <;> (try contradiction) <;> try (exfalso; omega))
        exact ⟨⟨rfl, rfl, fun i hi => rfl⟩, rfl, True.intro⟩
theorem rTake_ok (l : List Sec) (hl : fewS l) (q : List Seat) (hq : q.length ≤ 800) (hA : Pure Tryz.prog 25 [eSecs l, eSeats q] [.int .i64 (chkT l q)]) (st : Int) (b : Bun) (gs : List Int) (hgl : gs.length ≤ 1000) (now : Int) :
    Pure Tryz.prog 7 [eSecs l, eSeats q, .int .i64 st, .agg (eBun b), eInts gs, .int .i64 now] [eSeats (takeT l q st b gs now).1, .int .i64 (takeT l q st b gs now).2] := by
  refine pure_rule hT (T := tab) (N := 91) (rs := [.tmp 12, .tmp 13]) Tryz.func7 rfl rfl rfl (by kernel_rfl) rfl ?_
  have hB := rbcheck_ok l hl b
  have hln : l.length ≤ 1000000 := by have := hl.1; omega
  by_cases h0 : chkT l q = 0
  · rw [h0] at hA
    by_cases h1 : bchk l b = 0
    · rw [h1] at hB
      have hT0 : takeT l q st b gs now = if (decide (0 ≤ st) && decide (st < 20000) && grpsB (-1) gs) = true then (if (partsI b).any (tkS q st) = true then ([], (250 : Int)) else (match takeP l st gs now (partsI b) q with
          | none => ([], 251)
          | some x => (x, 0))) else ([], 1) := by rw [takeT, if_pos h0, if_pos h1]; rfl
      have hG := rgrps_ok gs (by omega)
      by_cases h2 : st < 0
      · rw [hT0, if_neg (by rw [decide_eq_false (by omega)]; exact Bool.false_ne_true)]
        repeat' (first | with_reducible refine Sq.go ?_ | ((with_reducible refine Ev.mk ?_); conv => whnf) | with_reducible refine Dr.mk ⟨by kernel_rfl, by kernel_rfl⟩ ?_ | with_reducible refine obG ?_ | with_reducible refine Ob.mk ?_ ?_ | (with_reducible first | refine brT fun h => ?_ | refine brF fun h => ?_ | refine Br.mk (fun h => ?_) fun h => ?_) <;> (try simp only [bsl, beq_iff_eq, bne_iff_ne, bs2] at h) <;> (try contradiction) <;> try (exfalso; omega))
        refine hA.call ?_
        repeat' (first | with_reducible refine Sq.go ?_ | ((with_reducible refine Ev.mk ?_); conv => whnf) | with_reducible refine Dr.mk ⟨by kernel_rfl, by kernel_rfl⟩ ?_ | with_reducible refine obG ?_ | with_reducible refine Ob.mk ?_ ?_ | (with_reducible first | refine brT fun h => ?_ | refine brF fun h => ?_ | refine Br.mk (fun h => ?_) fun h => ?_) <;> (try simp only [bsl, beq_iff_eq, bne_iff_ne, bs2] at h) <;> (try contradiction) <;> try (exfalso; omega))
        refine hB.call ?_
        repeat' (first | with_reducible refine Sq.go ?_ | ((with_reducible refine Ev.mk ?_); conv => whnf) | with_reducible refine Dr.mk ⟨by kernel_rfl, by kernel_rfl⟩ ?_ | with_reducible refine obG ?_ | with_reducible refine Ob.mk ?_ ?_ | (with_reducible first | refine brT fun h => ?_ | refine brF fun h => ?_ | refine Br.mk (fun h => ?_) fun h => ?_) <;> (try simp only [bsl, beq_iff_eq, bne_iff_ne, bs2] at h) <;> (try contradiction) <;> try (exfalso; omega))
        exact ⟨rfl, rfl, True.intro⟩
      by_cases h3 : st ≥ 20000
      · rw [hT0, if_neg (by rw [decide_eq_false (show ¬ st < 20000 by omega), Bool.and_false]; exact Bool.false_ne_true)]
        repeat' (first | with_reducible refine Sq.go ?_ | ((with_reducible refine Ev.mk ?_); conv => whnf) | with_reducible refine Dr.mk ⟨by kernel_rfl, by kernel_rfl⟩ ?_ | with_reducible refine obG ?_ | with_reducible refine Ob.mk ?_ ?_ | (with_reducible first | refine brT fun h => ?_ | refine brF fun h => ?_ | refine Br.mk (fun h => ?_) fun h => ?_) <;> (try simp only [bsl, beq_iff_eq, bne_iff_ne, bs2] at h) <;> (try contradiction) <;> try (exfalso; omega))
        refine hA.call ?_
        repeat' (first | with_reducible refine Sq.go ?_ | ((with_reducible refine Ev.mk ?_); conv => whnf) | with_reducible refine Dr.mk ⟨by kernel_rfl, by kernel_rfl⟩ ?_ | with_reducible refine obG ?_ | with_reducible refine Ob.mk ?_ ?_ | (with_reducible first | refine brT fun h => ?_ | refine brF fun h => ?_ | refine Br.mk (fun h => ?_) fun h => ?_) <;> (try simp only [bsl, beq_iff_eq, bne_iff_ne, bs2] at h) <;> (try contradiction) <;> try (exfalso; omega))
        refine hB.call ?_
        repeat' (first | with_reducible refine Sq.go ?_ | ((with_reducible refine Ev.mk ?_); conv => whnf) | with_reducible refine Dr.mk ⟨by kernel_rfl, by kernel_rfl⟩ ?_ | with_reducible refine obG ?_ | with_reducible refine Ob.mk ?_ ?_ | (with_reducible first | refine brT fun h => ?_ | refine brF fun h => ?_ | refine Br.mk (fun h => ?_) fun h => ?_) <;> (try simp only [bsl, beq_iff_eq, bne_iff_ne, bs2] at h) <;> (try contradiction) <;> try (exfalso; omega))
        exact ⟨rfl, rfl, True.intro⟩
      rw [decide_eq_true (show 0 ≤ st by omega), decide_eq_true (show st < 20000 by omega), Bool.true_and, Bool.true_and] at hT0
      cases h4 : grpsB (-1) gs with
      | false =>
        rw [h4] at hG hT0
        rw [hT0, if_neg Bool.false_ne_true]
        repeat' (first | with_reducible refine Sq.go ?_ | ((with_reducible refine Ev.mk ?_); conv => whnf) | with_reducible refine Dr.mk ⟨by kernel_rfl, by kernel_rfl⟩ ?_ | with_reducible refine obG ?_ | with_reducible refine Ob.mk ?_ ?_ | (with_reducible first | refine brT fun h => ?_ | refine brF fun h => ?_ | refine Br.mk (fun h => ?_) fun h => ?_) <;> (try simp only [bsl, beq_iff_eq, bne_iff_ne, bs2] at h) <;> (try contradiction) <;> try (exfalso; omega))
        refine hA.call ?_
        repeat' (first | with_reducible refine Sq.go ?_ | ((with_reducible refine Ev.mk ?_); conv => whnf) | with_reducible refine Dr.mk ⟨by kernel_rfl, by kernel_rfl⟩ ?_ | with_reducible refine obG ?_ | with_reducible refine Ob.mk ?_ ?_ | (with_reducible first | refine brT fun h => ?_ | refine brF fun h => ?_ | refine Br.mk (fun h => ?_) fun h => ?_) <;> (try simp only [bsl, beq_iff_eq, bne_iff_ne, bs2] at h) <;> (try contradiction) <;> try (exfalso; omega))
        refine hB.call ?_
        repeat' (first | with_reducible refine Sq.go ?_ | ((with_reducible refine Ev.mk ?_); conv => whnf) | with_reducible refine Dr.mk ⟨by kernel_rfl, by kernel_rfl⟩ ?_ | with_reducible refine obG ?_ | with_reducible refine Ob.mk ?_ ?_ | (with_reducible first | refine brT fun h => ?_ | refine brF fun h => ?_ | refine Br.mk (fun h => ?_) fun h => ?_) <;> (try simp only [bsl, beq_iff_eq, bne_iff_ne, bs2] at h) <;> (try contradiction) <;> try (exfalso; omega))
        refine hG.call ?_
        repeat' (first | with_reducible refine Sq.go ?_ | ((with_reducible refine Ev.mk ?_); conv => whnf) | with_reducible refine Dr.mk ⟨by kernel_rfl, by kernel_rfl⟩ ?_ | with_reducible refine obG ?_ | with_reducible refine Ob.mk ?_ ?_ | (with_reducible first | refine brT fun h => ?_ | refine brF fun h => ?_ | refine Br.mk (fun h => ?_) fun h => ?_) <;> (try simp only [bsl, beq_iff_eq, bne_iff_ne, bs2] at h) <;> (try contradiction) <;> try (exfalso; omega))
        exact ⟨rfl, rfl, True.intro⟩
      | true =>
        rw [h4] at hG hT0
        rw [if_pos rfl] at hT0
        have hgs := grpsB_mem h4
        have hH1 := rhas25_ok q (by omega) st b.sec
        obtain ⟨hpf, hpn, hlab⟩ := bun_parts h1
        obtain ⟨s, hs⟩ := hpf b.sec (sec_in b)
        have hsm := small_of (chkT_iff.1 h0).1 (findS_id hs).2
        have hO := one_ok l hln q (by omega) st b.sec gs (by omega) hgs now hs hsm
        rcases hlab with hlab | ⟨hlab, hne⟩
        · have hp : partsI b = [b.sec] := by rw [partsI, if_pos hlab]
          rw [hp, List.any_cons, List.any_nil, Bool.or_false, takeP, hs, Option.getD_some] at hT0
          cases h5 : tkS q st b.sec with
          | true =>
            rw [h5] at hH1 hT0
            rw [hT0, if_pos rfl]
            repeat' (first | with_reducible refine Sq.go ?_ | ((with_reducible refine Ev.mk ?_); conv => whnf) | with_reducible refine Dr.mk ⟨by kernel_rfl, by kernel_rfl⟩ ?_ | with_reducible refine obG ?_ | with_reducible refine Ob.mk ?_ ?_ | (with_reducible first | refine brT fun h => ?_ | refine brF fun h => ?_ | refine Br.mk (fun h => ?_) fun h => ?_) <;> (try simp only [bsl, beq_iff_eq, bne_iff_ne, bs2] at h) <;> (try contradiction) <;> try (exfalso; omega))
            refine hA.call ?_
            repeat' (first | with_reducible refine Sq.go ?_ | ((with_reducible refine Ev.mk ?_); conv => whnf) | with_reducible refine Dr.mk ⟨by kernel_rfl, by kernel_rfl⟩ ?_ | with_reducible refine obG ?_ | with_reducible refine Ob.mk ?_ ?_ | (with_reducible first | refine brT fun h => ?_ | refine brF fun h => ?_ | refine Br.mk (fun h => ?_) fun h => ?_) <;> (try simp only [bsl, beq_iff_eq, bne_iff_ne, bs2] at h) <;> (try contradiction) <;> try (exfalso; omega))
            refine hB.call ?_
            repeat' (first | with_reducible refine Sq.go ?_ | ((with_reducible refine Ev.mk ?_); conv => whnf) | with_reducible refine Dr.mk ⟨by kernel_rfl, by kernel_rfl⟩ ?_ | with_reducible refine obG ?_ | with_reducible refine Ob.mk ?_ ?_ | (with_reducible first | refine brT fun h => ?_ | refine brF fun h => ?_ | refine Br.mk (fun h => ?_) fun h => ?_) <;> (try simp only [bsl, beq_iff_eq, bne_iff_ne, bs2] at h) <;> (try contradiction) <;> try (exfalso; omega))
            refine hG.call ?_
            repeat' (first | with_reducible refine Sq.go ?_ | ((with_reducible refine Ev.mk ?_); conv => whnf) | with_reducible refine Dr.mk ⟨by kernel_rfl, by kernel_rfl⟩ ?_ | with_reducible refine obG ?_ | with_reducible refine Ob.mk ?_ ?_ | (with_reducible first | refine brT fun h => ?_ | refine brF fun h => ?_ | refine Br.mk (fun h => ?_) fun h => ?_) <;> (try simp only [bsl, beq_iff_eq, bne_iff_ne, bs2] at h) <;> (try contradiction) <;> try (exfalso; omega))
            refine hH1.call ?_
            repeat' (first | with_reducible refine Sq.go ?_ | ((with_reducible refine Ev.mk ?_); conv => whnf) | with_reducible refine Dr.mk ⟨by kernel_rfl, by kernel_rfl⟩ ?_ | with_reducible refine obG ?_ | with_reducible refine Ob.mk ?_ ?_ | (with_reducible first | refine brT fun h => ?_ | refine brF fun h => ?_ | refine Br.mk (fun h => ?_) fun h => ?_) <;> (try simp only [bsl, beq_iff_eq, bne_iff_ne, bs2] at h) <;> (try contradiction) <;> try (exfalso; omega))
            exact ⟨rfl, rfl, True.intro⟩
          | false =>
            rw [h5] at hH1 hT0
            rw [if_neg Bool.false_ne_true] at hT0
            cases h6 : take1 s q st b.sec gs now with
            | none =>
              rw [h6] at hO hT0
              rw [hT0]
              repeat' (first | with_reducible refine Sq.go ?_ | ((with_reducible refine Ev.mk ?_); conv => whnf) | with_reducible refine Dr.mk ⟨by kernel_rfl, by kernel_rfl⟩ ?_ | with_reducible refine obG ?_ | with_reducible refine Ob.mk ?_ ?_ | (with_reducible first | refine brT fun h => ?_ | refine brF fun h => ?_ | refine Br.mk (fun h => ?_) fun h => ?_) <;> (try simp only [bsl, beq_iff_eq, bne_iff_ne, bs2] at h) <;> (try contradiction) <;> try (exfalso; omega))
              refine hA.call ?_
              repeat' (first | with_reducible refine Sq.go ?_ | ((with_reducible refine Ev.mk ?_); conv => whnf) | with_reducible refine Dr.mk ⟨by kernel_rfl, by kernel_rfl⟩ ?_ | with_reducible refine obG ?_ | with_reducible refine Ob.mk ?_ ?_ | (with_reducible first | refine brT fun h => ?_ | refine brF fun h => ?_ | refine Br.mk (fun h => ?_) fun h => ?_) <;> (try simp only [bsl, beq_iff_eq, bne_iff_ne, bs2] at h) <;> (try contradiction) <;> try (exfalso; omega))
              refine hB.call ?_
              repeat' (first | with_reducible refine Sq.go ?_ | ((with_reducible refine Ev.mk ?_); conv => whnf) | with_reducible refine Dr.mk ⟨by kernel_rfl, by kernel_rfl⟩ ?_ | with_reducible refine obG ?_ | with_reducible refine Ob.mk ?_ ?_ | (with_reducible first | refine brT fun h => ?_ | refine brF fun h => ?_ | refine Br.mk (fun h => ?_) fun h => ?_) <;> (try simp only [bsl, beq_iff_eq, bne_iff_ne, bs2] at h) <;> (try contradiction) <;> try (exfalso; omega))
              refine hG.call ?_
              repeat' (first | with_reducible refine Sq.go ?_ | ((with_reducible refine Ev.mk ?_); conv => whnf) | with_reducible refine Dr.mk ⟨by kernel_rfl, by kernel_rfl⟩ ?_ | with_reducible refine obG ?_ | with_reducible refine Ob.mk ?_ ?_ | (with_reducible first | refine brT fun h => ?_ | refine brF fun h => ?_ | refine Br.mk (fun h => ?_) fun h => ?_) <;> (try simp only [bsl, beq_iff_eq, bne_iff_ne, bs2] at h) <;> (try contradiction) <;> try (exfalso; omega))
              refine hH1.call ?_
              repeat' (first | with_reducible refine Sq.go ?_ | ((with_reducible refine Ev.mk ?_); conv => whnf) | with_reducible refine Dr.mk ⟨by kernel_rfl, by kernel_rfl⟩ ?_ | with_reducible refine obG ?_ | with_reducible refine Ob.mk ?_ ?_ | (with_reducible first | refine brT fun h => ?_ | refine brF fun h => ?_ | refine Br.mk (fun h => ?_) fun h => ?_) <;> (try simp only [bsl, beq_iff_eq, bne_iff_ne, bs2] at h) <;> (try contradiction) <;> try (exfalso; omega))
              refine hO.call ?_
              repeat' (first | with_reducible refine Sq.go ?_ | ((with_reducible refine Ev.mk ?_); conv => whnf) | with_reducible refine Dr.mk ⟨by kernel_rfl, by kernel_rfl⟩ ?_ | with_reducible refine obG ?_ | with_reducible refine Ob.mk ?_ ?_ | (with_reducible first | refine brT fun h => ?_ | refine brF fun h => ?_ | refine Br.mk (fun h => ?_) fun h => ?_) <;> (try simp only [bsl, beq_iff_eq, bne_iff_ne, bs2] at h) <;> (try contradiction) <;> try (exfalso; omega))
              exact ⟨rfl, rfl, True.intro⟩
            | some x =>
              rw [h6] at hO hT0
              rw [hT0]
              repeat' (first | with_reducible refine Sq.go ?_ | ((with_reducible refine Ev.mk ?_); conv => whnf) | with_reducible refine Dr.mk ⟨by kernel_rfl, by kernel_rfl⟩ ?_ | with_reducible refine obG ?_ | with_reducible refine Ob.mk ?_ ?_ | (with_reducible first | refine brT fun h => ?_ | refine brF fun h => ?_ | refine Br.mk (fun h => ?_) fun h => ?_) <;> (try simp only [bsl, beq_iff_eq, bne_iff_ne, bs2] at h) <;> (try contradiction) <;> try (exfalso; omega))
              refine hA.call ?_
              repeat' (first | with_reducible refine Sq.go ?_ | ((with_reducible refine Ev.mk ?_); conv => whnf) | with_reducible refine Dr.mk ⟨by kernel_rfl, by kernel_rfl⟩ ?_ | with_reducible refine obG ?_ | with_reducible refine Ob.mk ?_ ?_ | (with_reducible first | refine brT fun h => ?_ | refine brF fun h => ?_ | refine Br.mk (fun h => ?_) fun h => ?_) <;> (try simp only [bsl, beq_iff_eq, bne_iff_ne, bs2] at h) <;> (try contradiction) <;> try (exfalso; omega))
              refine hB.call ?_
              repeat' (first | with_reducible refine Sq.go ?_ | ((with_reducible refine Ev.mk ?_); conv => whnf) | with_reducible refine Dr.mk ⟨by kernel_rfl, by kernel_rfl⟩ ?_ | with_reducible refine obG ?_ | with_reducible refine Ob.mk ?_ ?_ | (with_reducible first | refine brT fun h => ?_ | refine brF fun h => ?_ | refine Br.mk (fun h => ?_) fun h => ?_) <;> (try simp only [bsl, beq_iff_eq, bne_iff_ne, bs2] at h) <;> (try contradiction) <;> try (exfalso; omega))
              refine hG.call ?_
              repeat' (first | with_reducible refine Sq.go ?_ | ((with_reducible refine Ev.mk ?_); conv => whnf) | with_reducible refine Dr.mk ⟨by kernel_rfl, by kernel_rfl⟩ ?_ | with_reducible refine obG ?_ | with_reducible refine Ob.mk ?_ ?_ | (with_reducible first | refine brT fun h => ?_ | refine brF fun h => ?_ | refine Br.mk (fun h => ?_) fun h => ?_) <;> (try simp only [bsl, beq_iff_eq, bne_iff_ne, bs2] at h) <;> (try contradiction) <;> try (exfalso; omega))
              refine hH1.call ?_
              repeat' (first | with_reducible refine Sq.go ?_ | ((with_reducible refine Ev.mk ?_); conv => whnf) | with_reducible refine Dr.mk ⟨by kernel_rfl, by kernel_rfl⟩ ?_ | with_reducible refine obG ?_ | with_reducible refine Ob.mk ?_ ?_ | (with_reducible first | refine brT fun h => ?_ | refine brF fun h => ?_ | refine Br.mk (fun h => ?_) fun h => ?_) <;> (try simp only [bsl, beq_iff_eq, bne_iff_ne, bs2] at h) <;> (try contradiction) <;> try (exfalso; omega))
              refine hO.call ?_
              repeat' (first | with_reducible refine Sq.go ?_ | ((with_reducible refine Ev.mk ?_); conv => whnf) | with_reducible refine Dr.mk ⟨by kernel_rfl, by kernel_rfl⟩ ?_ | with_reducible refine obG ?_ | with_reducible refine Ob.mk ?_ ?_ | (with_reducible first | refine brT fun h => ?_ | refine brF fun h => ?_ | refine Br.mk (fun h => ?_) fun h => ?_) <;> (try simp only [bsl, beq_iff_eq, bne_iff_ne, bs2] at h) <;> (try contradiction) <;> try (exfalso; omega))
              exact ⟨⟨rfl, rfl, fun i hi => rfl⟩, rfl, True.intro⟩
        · have hp : partsI b = [b.sec, b.lab] := by rw [partsI, if_neg (by omega)]
          obtain ⟨s2, hs2⟩ := hpf b.lab (lab_in (by omega))
          have hsm2 := small_of (chkT_iff.1 h0).1 (findS_id hs2).2
          have hH2 := rhas25_ok q (by omega) st b.lab
          rw [hp, List.any_cons, List.any_cons, List.any_nil, Bool.or_false, takeP, hs, Option.getD_some] at hT0
          cases h5 : tkS q st b.sec with
          | true =>
            rw [h5] at hH1 hT0
            rw [Bool.true_or] at hT0
            rw [hT0, if_pos rfl]
            repeat' (first | with_reducible refine Sq.go ?_ | ((with_reducible refine Ev.mk ?_); conv => whnf) | with_reducible refine Dr.mk ⟨by kernel_rfl, by kernel_rfl⟩ ?_ | with_reducible refine obG ?_ | with_reducible refine Ob.mk ?_ ?_ | (with_reducible first | refine brT fun h => ?_ | refine brF fun h => ?_ | refine Br.mk (fun h => ?_) fun h => ?_) <;> (try simp only [bsl, beq_iff_eq, bne_iff_ne, bs2] at h) <;> (try contradiction) <;> try (exfalso; omega))
            refine hA.call ?_
            repeat' (first | with_reducible refine Sq.go ?_ | ((with_reducible refine Ev.mk ?_); conv => whnf) | with_reducible refine Dr.mk ⟨by kernel_rfl, by kernel_rfl⟩ ?_ | with_reducible refine obG ?_ | with_reducible refine Ob.mk ?_ ?_ | (with_reducible first | refine brT fun h => ?_ | refine brF fun h => ?_ | refine Br.mk (fun h => ?_) fun h => ?_) <;> (try simp only [bsl, beq_iff_eq, bne_iff_ne, bs2] at h) <;> (try contradiction) <;> try (exfalso; omega))
            refine hB.call ?_
            repeat' (first | with_reducible refine Sq.go ?_ | ((with_reducible refine Ev.mk ?_); conv => whnf) | with_reducible refine Dr.mk ⟨by kernel_rfl, by kernel_rfl⟩ ?_ | with_reducible refine obG ?_ | with_reducible refine Ob.mk ?_ ?_ | (with_reducible first | refine brT fun h => ?_ | refine brF fun h => ?_ | refine Br.mk (fun h => ?_) fun h => ?_) <;> (try simp only [bsl, beq_iff_eq, bne_iff_ne, bs2] at h) <;> (try contradiction) <;> try (exfalso; omega))
            refine hG.call ?_
            repeat' (first | with_reducible refine Sq.go ?_ | ((with_reducible refine Ev.mk ?_); conv => whnf) | with_reducible refine Dr.mk ⟨by kernel_rfl, by kernel_rfl⟩ ?_ | with_reducible refine obG ?_ | with_reducible refine Ob.mk ?_ ?_ | (with_reducible first | refine brT fun h => ?_ | refine brF fun h => ?_ | refine Br.mk (fun h => ?_) fun h => ?_) <;> (try simp only [bsl, beq_iff_eq, bne_iff_ne, bs2] at h) <;> (try contradiction) <;> try (exfalso; omega))
            refine hH1.call ?_
            repeat' (first | with_reducible refine Sq.go ?_ | ((with_reducible refine Ev.mk ?_); conv => whnf) | with_reducible refine Dr.mk ⟨by kernel_rfl, by kernel_rfl⟩ ?_ | with_reducible refine obG ?_ | with_reducible refine Ob.mk ?_ ?_ | (with_reducible first | refine brT fun h => ?_ | refine brF fun h => ?_ | refine Br.mk (fun h => ?_) fun h => ?_) <;> (try simp only [bsl, beq_iff_eq, bne_iff_ne, bs2] at h) <;> (try contradiction) <;> try (exfalso; omega))
            exact ⟨rfl, rfl, True.intro⟩
          | false =>
            rw [h5] at hH1 hT0
            rw [Bool.false_or] at hT0
            cases h7 : tkS q st b.lab with
            | true =>
              rw [h7] at hH2 hT0
              rw [hT0, if_pos rfl]
              repeat' (first | with_reducible refine Sq.go ?_ | ((with_reducible refine Ev.mk ?_); conv => whnf) | with_reducible refine Dr.mk ⟨by kernel_rfl, by kernel_rfl⟩ ?_ | with_reducible refine obG ?_ | with_reducible refine Ob.mk ?_ ?_ | (with_reducible first | refine brT fun h => ?_ | refine brF fun h => ?_ | refine Br.mk (fun h => ?_) fun h => ?_) <;> (try simp only [bsl, beq_iff_eq, bne_iff_ne, bs2] at h) <;> (try contradiction) <;> try (exfalso; omega))
              refine hA.call ?_
              repeat' (first | with_reducible refine Sq.go ?_ | ((with_reducible refine Ev.mk ?_); conv => whnf) | with_reducible refine Dr.mk ⟨by kernel_rfl, by kernel_rfl⟩ ?_ | with_reducible refine obG ?_ | with_reducible refine Ob.mk ?_ ?_ | (with_reducible first | refine brT fun h => ?_ | refine brF fun h => ?_ | refine Br.mk (fun h => ?_) fun h => ?_) <;> (try simp only [bsl, beq_iff_eq, bne_iff_ne, bs2] at h) <;> (try contradiction) <;> try (exfalso; omega))
              refine hB.call ?_
              repeat' (first | with_reducible refine Sq.go ?_ | ((with_reducible refine Ev.mk ?_); conv => whnf) | with_reducible refine Dr.mk ⟨by kernel_rfl, by kernel_rfl⟩ ?_ | with_reducible refine obG ?_ | with_reducible refine Ob.mk ?_ ?_ | (with_reducible first | refine brT fun h => ?_ | refine brF fun h => ?_ | refine Br.mk (fun h => ?_) fun h => ?_) <;> (try simp only [bsl, beq_iff_eq, bne_iff_ne, bs2] at h) <;> (try contradiction) <;> try (exfalso; omega))
              refine hG.call ?_
              repeat' (first | with_reducible refine Sq.go ?_ | ((with_reducible refine Ev.mk ?_); conv => whnf) | with_reducible refine Dr.mk ⟨by kernel_rfl, by kernel_rfl⟩ ?_ | with_reducible refine obG ?_ | with_reducible refine Ob.mk ?_ ?_ | (with_reducible first | refine brT fun h => ?_ | refine brF fun h => ?_ | refine Br.mk (fun h => ?_) fun h => ?_) <;> (try simp only [bsl, beq_iff_eq, bne_iff_ne, bs2] at h) <;> (try contradiction) <;> try (exfalso; omega))
              refine hH1.call ?_
              repeat' (first | with_reducible refine Sq.go ?_ | ((with_reducible refine Ev.mk ?_); conv => whnf) | with_reducible refine Dr.mk ⟨by kernel_rfl, by kernel_rfl⟩ ?_ | with_reducible refine obG ?_ | with_reducible refine Ob.mk ?_ ?_ | (with_reducible first | refine brT fun h => ?_ | refine brF fun h => ?_ | refine Br.mk (fun h => ?_) fun h => ?_) <;> (try simp only [bsl, beq_iff_eq, bne_iff_ne, bs2] at h) <;> (try contradiction) <;> try (exfalso; omega))
              refine hH2.call ?_
              repeat' (first | with_reducible refine Sq.go ?_ | ((with_reducible refine Ev.mk ?_); conv => whnf) | with_reducible refine Dr.mk ⟨by kernel_rfl, by kernel_rfl⟩ ?_ | with_reducible refine obG ?_ | with_reducible refine Ob.mk ?_ ?_ | (with_reducible first | refine brT fun h => ?_ | refine brF fun h => ?_ | refine Br.mk (fun h => ?_) fun h => ?_) <;> (try simp only [bsl, beq_iff_eq, bne_iff_ne, bs2] at h) <;> (try contradiction) <;> try (exfalso; omega))
              exact ⟨rfl, rfl, True.intro⟩
            | false =>
              rw [h7] at hH2 hT0
              rw [if_neg Bool.false_ne_true] at hT0
              cases h6 : take1 s q st b.sec gs now with
              | none =>
                rw [h6] at hO hT0
                rw [hT0]
                repeat' (first | with_reducible refine Sq.go ?_ | ((with_reducible refine Ev.mk ?_); conv => whnf) | with_reducible refine Dr.mk ⟨by kernel_rfl, by kernel_rfl⟩ ?_ | with_reducible refine obG ?_ | with_reducible refine Ob.mk ?_ ?_ | (with_reducible first | refine brT fun h => ?_ | refine brF fun h => ?_ | refine Br.mk (fun h => ?_) fun h => ?_) <;> (try simp only [bsl, beq_iff_eq, bne_iff_ne, bs2] at h) <;> (try contradiction) <;> try (exfalso; omega))
                refine hA.call ?_
                repeat' (first | with_reducible refine Sq.go ?_ | ((with_reducible refine Ev.mk ?_); conv => whnf) | with_reducible refine Dr.mk ⟨by kernel_rfl, by kernel_rfl⟩ ?_ | with_reducible refine obG ?_ | with_reducible refine Ob.mk ?_ ?_ | (with_reducible first | refine brT fun h => ?_ | refine brF fun h => ?_ | refine Br.mk (fun h => ?_) fun h => ?_) <;> (try simp only [bsl, beq_iff_eq, bne_iff_ne, bs2] at h) <;> (try contradiction) <;> try (exfalso; omega))
                refine hB.call ?_
                repeat' (first | with_reducible refine Sq.go ?_ | ((with_reducible refine Ev.mk ?_); conv => whnf) | with_reducible refine Dr.mk ⟨by kernel_rfl, by kernel_rfl⟩ ?_ | with_reducible refine obG ?_ | with_reducible refine Ob.mk ?_ ?_ | (with_reducible first | refine brT fun h => ?_ | refine brF fun h => ?_ | refine Br.mk (fun h => ?_) fun h => ?_) <;> (try simp only [bsl, beq_iff_eq, bne_iff_ne, bs2] at h) <;> (try contradiction) <;> try (exfalso; omega))
                refine hG.call ?_
                repeat' (first | with_reducible refine Sq.go ?_ | ((with_reducible refine Ev.mk ?_); conv => whnf) | with_reducible refine Dr.mk ⟨by kernel_rfl, by kernel_rfl⟩ ?_ | with_reducible refine obG ?_ | with_reducible refine Ob.mk ?_ ?_ | (with_reducible first | refine brT fun h => ?_ | refine brF fun h => ?_ | refine Br.mk (fun h => ?_) fun h => ?_) <;> (try simp only [bsl, beq_iff_eq, bne_iff_ne, bs2] at h) <;> (try contradiction) <;> try (exfalso; omega))
                refine hH1.call ?_
                repeat' (first | with_reducible refine Sq.go ?_ | ((with_reducible refine Ev.mk ?_); conv => whnf) | with_reducible refine Dr.mk ⟨by kernel_rfl, by kernel_rfl⟩ ?_ | with_reducible refine obG ?_ | with_reducible refine Ob.mk ?_ ?_ | (with_reducible first | refine brT fun h => ?_ | refine brF fun h => ?_ | refine Br.mk (fun h => ?_) fun h => ?_) <;> (try simp only [bsl, beq_iff_eq, bne_iff_ne, bs2] at h) <;> (try contradiction) <;> try (exfalso; omega))
                refine hH2.call ?_
                repeat' (first | with_reducible refine Sq.go ?_ | ((with_reducible refine Ev.mk ?_); conv => whnf) | with_reducible refine Dr.mk ⟨by kernel_rfl, by kernel_rfl⟩ ?_ | with_reducible refine obG ?_ | with_reducible refine Ob.mk ?_ ?_ | (with_reducible first | refine brT fun h => ?_ | refine brF fun h => ?_ | refine Br.mk (fun h => ?_) fun h => ?_) <;> (try simp only [bsl, beq_iff_eq, bne_iff_ne, bs2] at h) <;> (try contradiction) <;> try (exfalso; omega))
                refine hO.call ?_
                repeat' (first | with_reducible refine Sq.go ?_ | ((with_reducible refine Ev.mk ?_); conv => whnf) | with_reducible refine Dr.mk ⟨by kernel_rfl, by kernel_rfl⟩ ?_ | with_reducible refine obG ?_ | with_reducible refine Ob.mk ?_ ?_ | (with_reducible first | refine brT fun h => ?_ | refine brF fun h => ?_ | refine Br.mk (fun h => ?_) fun h => ?_) <;> (try simp only [bsl, beq_iff_eq, bne_iff_ne, bs2] at h) <;> (try contradiction) <;> try (exfalso; omega))
                exact ⟨rfl, rfl, True.intro⟩
              | some x =>
                rw [h6] at hO hT0
                obtain ⟨gg, hxi, _⟩ := take1_some h6
                have hxl : x.length = q.length + 1 := by rw [hxi, insS_len]
                have hO2 := one_ok l hln x (by omega) st b.lab gs (by omega) hgs now hs2 hsm2
                dsimp only at hT0
                rw [takeP, hs2, Option.getD_some] at hT0
                cases h8 : take1 s2 x st b.lab gs now with
                | none =>
                  rw [h8] at hO2 hT0
                  rw [hT0]
                  repeat' (first | with_reducible refine Sq.go ?_ | ((with_reducible refine Ev.mk ?_); conv => whnf) | with_reducible refine Dr.mk ⟨by kernel_rfl, by kernel_rfl⟩ ?_ | with_reducible refine obG ?_ | with_reducible refine Ob.mk ?_ ?_ | (with_reducible first | refine brT fun h => ?_ | refine brF fun h => ?_ | refine Br.mk (fun h => ?_) fun h => ?_) <;> (try simp only [bsl, beq_iff_eq, bne_iff_ne, bs2] at h) <;> (try contradiction) <;> try (exfalso; omega))
                  refine hA.call ?_
                  repeat' (first | with_reducible refine Sq.go ?_ | ((with_reducible refine Ev.mk ?_); conv => whnf) | with_reducible refine Dr.mk ⟨by kernel_rfl, by kernel_rfl⟩ ?_ | with_reducible refine obG ?_ | with_reducible refine Ob.mk ?_ ?_ | (with_reducible first | refine brT fun h => ?_ | refine brF fun h => ?_ | refine Br.mk (fun h => ?_) fun h => ?_) <;> (try simp only [bsl, beq_iff_eq, bne_iff_ne, bs2] at h) <;> (try contradiction) <;> try (exfalso; omega))
                  refine hB.call ?_
                  repeat' (first | with_reducible refine Sq.go ?_ | ((with_reducible refine Ev.mk ?_); conv => whnf) | with_reducible refine Dr.mk ⟨by kernel_rfl, by kernel_rfl⟩ ?_ | with_reducible refine obG ?_ | with_reducible refine Ob.mk ?_ ?_ | (with_reducible first | refine brT fun h => ?_ | refine brF fun h => ?_ | refine Br.mk (fun h => ?_) fun h => ?_) <;> (try simp only [bsl, beq_iff_eq, bne_iff_ne, bs2] at h) <;> (try contradiction) <;> try (exfalso; omega))
                  refine hG.call ?_
                  repeat' (first | with_reducible refine Sq.go ?_ | ((with_reducible refine Ev.mk ?_); conv => whnf) | with_reducible refine Dr.mk ⟨by kernel_rfl, by kernel_rfl⟩ ?_ | with_reducible refine obG ?_ | with_reducible refine Ob.mk ?_ ?_ | (with_reducible first | refine brT fun h => ?_ | refine brF fun h => ?_ | refine Br.mk (fun h => ?_) fun h => ?_) <;> (try simp only [bsl, beq_iff_eq, bne_iff_ne, bs2] at h) <;> (try contradiction) <;> try (exfalso; omega))
                  refine hH1.call ?_
                  repeat' (first | with_reducible refine Sq.go ?_ | ((with_reducible refine Ev.mk ?_); conv => whnf) | with_reducible refine Dr.mk ⟨by kernel_rfl, by kernel_rfl⟩ ?_ | with_reducible refine obG ?_ | with_reducible refine Ob.mk ?_ ?_ | (with_reducible first | refine brT fun h => ?_ | refine brF fun h => ?_ | refine Br.mk (fun h => ?_) fun h => ?_) <;> (try simp only [bsl, beq_iff_eq, bne_iff_ne, bs2] at h) <;> (try contradiction) <;> try (exfalso; omega))
                  refine hH2.call ?_
                  repeat' (first | with_reducible refine Sq.go ?_ | ((with_reducible refine Ev.mk ?_); conv => whnf) | with_reducible refine Dr.mk ⟨by kernel_rfl, by kernel_rfl⟩ ?_ | with_reducible refine obG ?_ | with_reducible refine Ob.mk ?_ ?_ | (with_reducible first | refine brT fun h => ?_ | refine brF fun h => ?_ | refine Br.mk (fun h => ?_) fun h => ?_) <;> (try simp only [bsl, beq_iff_eq, bne_iff_ne, bs2] at h) <;> (try contradiction) <;> try (exfalso; omega))
                  refine hO.call ?_
                  repeat' (first | with_reducible refine Sq.go ?_ | ((with_reducible refine Ev.mk ?_); conv => whnf) | with_reducible refine Dr.mk ⟨by kernel_rfl, by kernel_rfl⟩ ?_ | with_reducible refine obG ?_ | with_reducible refine Ob.mk ?_ ?_ | (with_reducible first | refine brT fun h => ?_ | refine brF fun h => ?_ | refine Br.mk (fun h => ?_) fun h => ?_) <;> (try simp only [bsl, beq_iff_eq, bne_iff_ne, bs2] at h) <;> (try contradiction) <;> try (exfalso; omega))
                  refine hO2.call ?_
                  repeat' (first | with_reducible refine Sq.go ?_ | ((with_reducible refine Ev.mk ?_); conv => whnf) | with_reducible refine Dr.mk ⟨by kernel_rfl, by kernel_rfl⟩ ?_ | with_reducible refine obG ?_ | with_reducible refine Ob.mk ?_ ?_ | (with_reducible first | refine brT fun h => ?_ | refine brF fun h => ?_ | refine Br.mk (fun h => ?_) fun h => ?_) <;> (try simp only [bsl, beq_iff_eq, bne_iff_ne, bs2] at h) <;> (try contradiction) <;> try (exfalso; omega))
                  exact ⟨rfl, rfl, True.intro⟩
                | some y =>
                  rw [h8] at hO2 hT0
                  rw [hT0]
                  repeat' (first | with_reducible refine Sq.go ?_ | ((with_reducible refine Ev.mk ?_); conv => whnf) | with_reducible refine Dr.mk ⟨by kernel_rfl, by kernel_rfl⟩ ?_ | with_reducible refine obG ?_ | with_reducible refine Ob.mk ?_ ?_ | (with_reducible first | refine brT fun h => ?_ | refine brF fun h => ?_ | refine Br.mk (fun h => ?_) fun h => ?_) <;> (try simp only [bsl, beq_iff_eq, bne_iff_ne, bs2] at h) <;> (try contradiction) <;> try (exfalso; omega))
                  refine hA.call ?_
                  repeat' (first | with_reducible refine Sq.go ?_ | ((with_reducible refine Ev.mk ?_); conv => whnf) | with_reducible refine Dr.mk ⟨by kernel_rfl, by kernel_rfl⟩ ?_ | with_reducible refine obG ?_ | with_reducible refine Ob.mk ?_ ?_ | (with_reducible first | refine brT fun h => ?_ | refine brF fun h => ?_ | refine Br.mk (fun h => ?_) fun h => ?_) <;> (try simp only [bsl, beq_iff_eq, bne_iff_ne, bs2] at h) <;> (try contradiction) <;> try (exfalso; omega))
                  refine hB.call ?_
                  repeat' (first | with_reducible refine Sq.go ?_ | ((with_reducible refine Ev.mk ?_); conv => whnf) | with_reducible refine Dr.mk ⟨by kernel_rfl, by kernel_rfl⟩ ?_ | with_reducible refine obG ?_ | with_reducible refine Ob.mk ?_ ?_ | (with_reducible first | refine brT fun h => ?_ | refine brF fun h => ?_ | refine Br.mk (fun h => ?_) fun h => ?_) <;> (try simp only [bsl, beq_iff_eq, bne_iff_ne, bs2] at h) <;> (try contradiction) <;> try (exfalso; omega))
                  refine hG.call ?_
                  repeat' (first | with_reducible refine Sq.go ?_ | ((with_reducible refine Ev.mk ?_); conv => whnf) | with_reducible refine Dr.mk ⟨by kernel_rfl, by kernel_rfl⟩ ?_ | with_reducible refine obG ?_ | with_reducible refine Ob.mk ?_ ?_ | (with_reducible first | refine brT fun h => ?_ | refine brF fun h => ?_ | refine Br.mk (fun h => ?_) fun h => ?_) <;> (try simp only [bsl, beq_iff_eq, bne_iff_ne, bs2] at h) <;> (try contradiction) <;> try (exfalso; omega))
                  refine hH1.call ?_
                  repeat' (first | with_reducible refine Sq.go ?_ | ((with_reducible refine Ev.mk ?_); conv => whnf) | with_reducible refine Dr.mk ⟨by kernel_rfl, by kernel_rfl⟩ ?_ | with_reducible refine obG ?_ | with_reducible refine Ob.mk ?_ ?_ | (with_reducible first | refine brT fun h => ?_ | refine brF fun h => ?_ | refine Br.mk (fun h => ?_) fun h => ?_) <;> (try simp only [bsl, beq_iff_eq, bne_iff_ne, bs2] at h) <;> (try contradiction) <;> try (exfalso; omega))
                  refine hH2.call ?_
                  repeat' (first | with_reducible refine Sq.go ?_ | ((with_reducible refine Ev.mk ?_); conv => whnf) | with_reducible refine Dr.mk ⟨by kernel_rfl, by kernel_rfl⟩ ?_ | with_reducible refine obG ?_ | with_reducible refine Ob.mk ?_ ?_ | (with_reducible first | refine brT fun h => ?_ | refine brF fun h => ?_ | refine Br.mk (fun h => ?_) fun h => ?_) <;> (try simp only [bsl, beq_iff_eq, bne_iff_ne, bs2] at h) <;> (try contradiction) <;> try (exfalso; omega))
                  refine hO.call ?_
                  repeat' (first | with_reducible refine Sq.go ?_ | ((with_reducible refine Ev.mk ?_); conv => whnf) | with_reducible refine Dr.mk ⟨by kernel_rfl, by kernel_rfl⟩ ?_ | with_reducible refine obG ?_ | with_reducible refine Ob.mk ?_ ?_ | (with_reducible first | refine brT fun h => ?_ | refine brF fun h => ?_ | refine Br.mk (fun h => ?_) fun h => ?_) <;> (try simp only [bsl, beq_iff_eq, bne_iff_ne, bs2] at h) <;> (try contradiction) <;> try (exfalso; omega))
                  refine hO2.call ?_
                  repeat' (first | with_reducible refine Sq.go ?_ | ((with_reducible refine Ev.mk ?_); conv => whnf) | with_reducible refine Dr.mk ⟨by kernel_rfl, by kernel_rfl⟩ ?_ | with_reducible refine obG ?_ | with_reducible refine Ob.mk ?_ ?_ | (with_reducible first | refine brT fun h => ?_ | refine brF fun h => ?_ | refine Br.mk (fun h => ?_) fun h => ?_) <;> (try simp only [bsl, beq_iff_eq, bne_iff_ne, bs2] at h) <;> (try contradiction) <;> try (exfalso; omega))
                  exact ⟨⟨rfl, rfl, fun i hi => rfl⟩, rfl, True.intro⟩
    · have hT' : takeT l q st b gs now = ([], bchk l b) := by rw [takeT, if_pos h0, if_neg h1]
      rw [hT']
      repeat' (first | with_reducible refine Sq.go ?_ | ((with_reducible refine Ev.mk ?_); conv => whnf) | with_reducible refine Dr.mk ⟨by kernel_rfl, by kernel_rfl⟩ ?_ | with_reducible refine obG ?_ | with_reducible refine Ob.mk ?_ ?_ | (with_reducible first | refine brT fun h => ?_ | refine brF fun h => ?_ | refine Br.mk (fun h => ?_) fun h => ?_) <;> (try simp only [bsl, beq_iff_eq, bne_iff_ne, bs2] at h) <;> (try contradiction) <;> try (exfalso; omega))
      refine hA.call ?_
      repeat' (first | with_reducible refine Sq.go ?_ | ((with_reducible refine Ev.mk ?_); conv => whnf) | with_reducible refine Dr.mk ⟨by kernel_rfl, by kernel_rfl⟩ ?_ | with_reducible refine obG ?_ | with_reducible refine Ob.mk ?_ ?_ | (with_reducible first | refine brT fun h => ?_ | refine brF fun h => ?_ | refine Br.mk (fun h => ?_) fun h => ?_) <;> (try simp only [bsl, beq_iff_eq, bne_iff_ne, bs2] at h) <;> (try contradiction) <;> try (exfalso; omega))
      refine hB.call ?_
      repeat' (first | with_reducible refine Sq.go ?_ | ((with_reducible refine Ev.mk ?_); conv => whnf) | with_reducible refine Dr.mk ⟨by kernel_rfl, by kernel_rfl⟩ ?_ | with_reducible refine obG ?_ | with_reducible refine Ob.mk ?_ ?_ | (with_reducible first | refine brT fun h => ?_ | refine brF fun h => ?_ | refine Br.mk (fun h => ?_) fun h => ?_) <;> (try simp only [bsl, beq_iff_eq, bne_iff_ne, bs2] at h) <;> (try contradiction) <;> try (exfalso; omega))
      exact ⟨rfl, rfl, True.intro⟩
  · have hT' : takeT l q st b gs now = ([], chkT l q) := by rw [takeT, if_neg h0]
    rw [hT']
    repeat' (first | with_reducible refine Sq.go ?_ | ((with_reducible refine Ev.mk ?_); conv => whnf) | with_reducible refine Dr.mk ⟨by kernel_rfl, by kernel_rfl⟩ ?_ | with_reducible refine obG ?_ | with_reducible refine Ob.mk ?_ ?_ | (with_reducible first | refine brT fun h => ?_ | refine brF fun h => ?_ | refine Br.mk (fun h => ?_) fun h => ?_) <;> (try simp only [bsl, beq_iff_eq, bne_iff_ne, bs2] at h) <;> (try contradiction) <;> try (exfalso; omega))
    refine hA.call ?_
    repeat' (first | with_reducible refine Sq.go ?_ | ((with_reducible refine Ev.mk ?_); conv => whnf) | with_reducible refine Dr.mk ⟨by kernel_rfl, by kernel_rfl⟩ ?_ | with_reducible refine obG ?_ | with_reducible refine Ob.mk ?_ ?_ | (with_reducible first | refine brT fun h => ?_ | refine brF fun h => ?_ | refine Br.mk (fun h => ?_) fun h => ?_) <;> (try simp only [bsl, beq_iff_eq, bne_iff_ne, bs2] at h) <;> (try contradiction) <;> try (exfalso; omega))
    exact ⟨rfl, rfl, True.intro⟩
theorem rLeave_ok (q : List Seat) (hq : q.length ≤ 1000) (st : Int) (b : Bun) : Pure Tryz.prog 9 [eSeats q, .int .i64 st, .agg (eBun b)] [eSeats (leaveT q st b).1, .int .i64 (leaveT q st b).2] := by
  refine pure_rule hT (T := tab) (N := 69) (rs := [.tmp 6, .tmp 7]) Tryz.func9 rfl rfl rfl (by kernel_rfl) rfl ?_
  have hH1 := rhas25_ok q (by omega) st b.sec
  have hH2 := rhas25_ok q (by omega) st b.lab
  have hL : leaveT q st b = if (partsI b).all (tkS q st) = true then (keepS st b q, 0) else ([], 250) := rfl
  cases h1 : tkS q st b.sec with
  | false =>
    rw [h1] at hH1
    have hn : (partsI b).all (tkS q st) = false := by
      obtain ⟨r, hr⟩ := parts_cons b
      rw [hr, List.all_cons, h1]
      rfl
    rw [hL, if_neg (by rw [hn]; exact Bool.false_ne_true)]
    repeat' (first | with_reducible refine Sq.go ?_ | ((with_reducible refine Ev.mk ?_); conv => whnf) | with_reducible refine Dr.mk ⟨by kernel_rfl, by kernel_rfl⟩ ?_ | with_reducible refine obG ?_ | with_reducible refine Ob.mk ?_ ?_ | (with_reducible first | refine brT fun h => ?_ | refine brF fun h => ?_ | refine Br.mk (fun h => ?_) fun h => ?_) <;> (try simp only [bsl, beq_iff_eq, bne_iff_ne, bs2] at h) <;> (try contradiction) <;> try (exfalso; omega))
    refine hH1.call ?_
    repeat' (first | with_reducible refine Sq.go ?_ | ((with_reducible refine Ev.mk ?_); conv => whnf) | with_reducible refine Dr.mk ⟨by kernel_rfl, by kernel_rfl⟩ ?_ | with_reducible refine obG ?_ | with_reducible refine Ob.mk ?_ ?_ | (with_reducible first | refine brT fun h => ?_ | refine brF fun h => ?_ | refine Br.mk (fun h => ?_) fun h => ?_) <;> (try simp only [bsl, beq_iff_eq, bne_iff_ne, bs2] at h) <;> (try contradiction) <;> try (exfalso; omega))
    exact ⟨rfl, rfl, True.intro⟩
  | true =>
    rw [h1] at hH1
    by_cases hbad : b.lab ≠ -1 ∧ tkS q st b.lab = false
    · obtain ⟨hl, h2⟩ := hbad
      rw [h2] at hH2
      have hn : (partsI b).all (tkS q st) = false := by
        rw [partsI, if_neg hl, List.all_cons, List.all_cons, h2, h1]
        rfl
      rw [hL, if_neg (by rw [hn]; exact Bool.false_ne_true)]
      repeat' (first | with_reducible refine Sq.go ?_ | ((with_reducible refine Ev.mk ?_); conv => whnf) | with_reducible refine Dr.mk ⟨by kernel_rfl, by kernel_rfl⟩ ?_ | with_reducible refine obG ?_ | with_reducible refine Ob.mk ?_ ?_ | (with_reducible first | refine brT fun h => ?_ | refine brF fun h => ?_ | refine Br.mk (fun h => ?_) fun h => ?_) <;> (try simp only [bsl, beq_iff_eq, bne_iff_ne, bs2] at h) <;> (try contradiction) <;> try (exfalso; omega))
      refine hH1.call ?_
      repeat' (first | with_reducible refine Sq.go ?_ | ((with_reducible refine Ev.mk ?_); conv => whnf) | with_reducible refine Dr.mk ⟨by kernel_rfl, by kernel_rfl⟩ ?_ | with_reducible refine obG ?_ | with_reducible refine Ob.mk ?_ ?_ | (with_reducible first | refine brT fun h => ?_ | refine brF fun h => ?_ | refine Br.mk (fun h => ?_) fun h => ?_) <;> (try simp only [bsl, beq_iff_eq, bne_iff_ne, bs2] at h) <;> (try contradiction) <;> try (exfalso; omega))
      refine hH2.call ?_
      repeat' (first | with_reducible refine Sq.go ?_ | ((with_reducible refine Ev.mk ?_); conv => whnf) | with_reducible refine Dr.mk ⟨by kernel_rfl, by kernel_rfl⟩ ?_ | with_reducible refine obG ?_ | with_reducible refine Ob.mk ?_ ?_ | (with_reducible first | refine brT fun h => ?_ | refine brF fun h => ?_ | refine Br.mk (fun h => ?_) fun h => ?_) <;> (try simp only [bsl, beq_iff_eq, bne_iff_ne, bs2] at h) <;> (try contradiction) <;> try (exfalso; omega))
      exact ⟨rfl, rfl, True.intro⟩
    · have hy : (partsI b).all (tkS q st) = true := by
        unfold partsI
        split
        · rw [List.all_cons, h1]
          rfl
        · rename_i hl
          have h2 : tkS q st b.lab = true := by
            cases h3 : tkS q st b.lab with
            | true => rfl
            | false => exact absurd ⟨hl, h3⟩ hbad
          rw [List.all_cons, List.all_cons, h1, h2]
          rfl
      rw [hL, if_pos hy]
      by_cases hl : b.lab = -1
      · repeat' (first | with_reducible refine Sq.go ?_ | ((with_reducible refine Ev.mk ?_); conv => whnf) | with_reducible refine Dr.mk ⟨by kernel_rfl, by kernel_rfl⟩ ?_ | with_reducible refine obG ?_ | with_reducible refine Ob.mk ?_ ?_ | (with_reducible first | refine brT fun h => ?_ | refine brF fun h => ?_ | refine Br.mk (fun h => ?_) fun h => ?_) <;> (try simp only [bsl, beq_iff_eq, bne_iff_ne, bs2] at h) <;> (try contradiction) <;> try (exfalso; omega))
        refine hH1.call ?_
        repeat' (first | with_reducible refine Sq.go ?_ | ((with_reducible refine Ev.mk ?_); conv => whnf) | with_reducible refine Dr.mk ⟨by kernel_rfl, by kernel_rfl⟩ ?_ | with_reducible refine obG ?_ | with_reducible refine Ob.mk ?_ ?_ | (with_reducible first | refine brT fun h => ?_ | refine brF fun h => ?_ | refine Br.mk (fun h => ?_) fun h => ?_) <;> (try simp only [bsl, beq_iff_eq, bne_iff_ne, bs2] at h) <;> (try contradiction) <;> try (exfalso; omega))
        refine loop_rule hT (S := Nat) (fun k => ([(0, .d (eSeats q)), (1, .d (.int .i64 st)), (5, .ptr (.loc 0) 0 0 0), (8, .osl (.loc 1) (keepS st b (q.take k)).length 0 (keepS st b (q.take k)).length), (9, .d (.int .i64 k))],
          ⟨[some (.box 25 (up (eBun b))), some (.vec 44 3 (keepS st b (q.take k)).length (keepS st b (q.take k)).length (rowsS (keepS st b (q.take k))))], []⟩)) (fun k => k ≤ q.length) (fun k => q.length - k) 0 ?_ ?_ ?_
        · repeat' (first | exact True.intro | exact rfl | exact Nat.le_refl _ | refine And.intro ?_ ?_)
          all_goals (intro i hi; exact absurd hi (Nat.not_lt_zero _))
        · exact Nat.zero_le _
        · intro k hk
          have hkl := keepS_len st b (q.take k)
          have htl : (q.take k).length ≤ k := by rw [List.length_take]; omega
          by_cases hk2 : k < q.length
          · have hks := keepS_snoc st b (q.take k) (q.getD k default)
            rw [← take_succ_at hk2] at hks
            obtain ⟨R, hR⟩ : ∃ R, keepS st b (q.take k) = R := ⟨_, rfl⟩
            rw [hR] at hks hkl ⊢
            by_cases hp : ofPart st b (q.getD k default) = true
            · rw [if_pos hp] at hks
              have hp2 := hp
              simp only [ofPart, partsI, if_pos hl, Bool.and_eq_true, decide_eq_true_eq, List.mem_singleton] at hp2
              repeat' (first | with_reducible refine Sq.go ?_ | ((with_reducible refine Ev.mk ?_); conv => whnf) | with_reducible refine Dr.mk ⟨by kernel_rfl, by kernel_rfl⟩ ?_ | with_reducible refine obG ?_ | with_reducible refine Ob.mk ?_ ?_ | (with_reducible first | refine brT fun h => ?_ | refine brF fun h => ?_ | refine Br.mk (fun h => ?_) fun h => ?_) <;> (try simp only [bsl, beq_iff_eq, bne_iff_ne, bs2] at h) <;> (try contradiction) <;> try (exfalso; omega))
              all_goals
                refine ⟨k + 1, by show k + 1 ≤ q.length; omega, by show q.length - (k + 1) < q.length - k; omega, ?_⟩
                dsimp only
                rw [hks]
                repeat' (first | exact True.intro | exact rfl | exact Nat.le_refl _ | refine And.intro ?_ ?_)
              all_goals (intro i hi; exact ⟨rfl, rfl⟩)
            · rw [if_neg hp] at hks
              have hp2 := hp
              simp only [ofPart, partsI, if_pos hl, Bool.and_eq_true, decide_eq_true_eq, List.mem_singleton] at hp2
              have hyl := len_snoc R (q.getD k default)
              repeat' (first | with_reducible refine Sq.go ?_ | ((with_reducible refine Ev.mk ?_); conv => whnf) | with_reducible refine Dr.mk ⟨by kernel_rfl, by kernel_rfl⟩ ?_ | with_reducible refine obG ?_ | with_reducible refine Ob.mk ?_ ?_ | (with_reducible first | refine brT fun h => ?_ | refine brF fun h => ?_ | refine Br.mk (fun h => ?_) fun h => ?_) <;> (try simp only [bsl, beq_iff_eq, bne_iff_ne, bs2] at h) <;> (try contradiction) <;> try (exfalso; omega))
              all_goals
                refine ⟨k + 1, by show k + 1 ≤ q.length; omega, by show q.length - (k + 1) < q.length - k; omega, ?_⟩
                dsimp only
                rw [hks, hyl]
                repeat' (first | exact True.intro | exact rfl | exact Nat.le_refl _ | refine And.intro ?_ ?_)
              all_goals first
                | (intro i hi; rw [← hyl] at hi; exact ⟨join_snoc eSeat _ _ _ rfl i hi, rfl⟩)
                | (intro i hi; exact ⟨rfl, rfl⟩)
          · rw [List.take_of_length_le (by omega)]
            repeat' (first | with_reducible refine Sq.go ?_ | ((with_reducible refine Ev.mk ?_); conv => whnf) | with_reducible refine Dr.mk ⟨by kernel_rfl, by kernel_rfl⟩ ?_ | with_reducible refine obG ?_ | with_reducible refine Ob.mk ?_ ?_ | (with_reducible first | refine brT fun h => ?_ | refine brF fun h => ?_ | refine Br.mk (fun h => ?_) fun h => ?_) <;> (try simp only [bsl, beq_iff_eq, bne_iff_ne, bs2] at h) <;> (try contradiction) <;> try (exfalso; omega))
            exact ⟨⟨rfl, rfl, by rw [Nat.zero_add]; exact Nat.le_refl _, rfl, fun i hi => by rw [Nat.zero_add]; rfl⟩, rfl, True.intro⟩
      · have h2 : tkS q st b.lab = true := by
          cases h3 : tkS q st b.lab with
          | true => rfl
          | false => exact absurd ⟨hl, h3⟩ hbad
        rw [h2] at hH2
        repeat' (first | with_reducible refine Sq.go ?_ | ((with_reducible refine Ev.mk ?_); conv => whnf) | with_reducible refine Dr.mk ⟨by kernel_rfl, by kernel_rfl⟩ ?_ | with_reducible refine obG ?_ | with_reducible refine Ob.mk ?_ ?_ | (with_reducible first | refine brT fun h => ?_ | refine brF fun h => ?_ | refine Br.mk (fun h => ?_) fun h => ?_) <;> (try simp only [bsl, beq_iff_eq, bne_iff_ne, bs2] at h) <;> (try contradiction) <;> try (exfalso; omega))
        refine hH1.call ?_
        repeat' (first | with_reducible refine Sq.go ?_ | ((with_reducible refine Ev.mk ?_); conv => whnf) | with_reducible refine Dr.mk ⟨by kernel_rfl, by kernel_rfl⟩ ?_ | with_reducible refine obG ?_ | with_reducible refine Ob.mk ?_ ?_ | (with_reducible first | refine brT fun h => ?_ | refine brF fun h => ?_ | refine Br.mk (fun h => ?_) fun h => ?_) <;> (try simp only [bsl, beq_iff_eq, bne_iff_ne, bs2] at h) <;> (try contradiction) <;> try (exfalso; omega))
        refine hH2.call ?_
        repeat' (first | with_reducible refine Sq.go ?_ | ((with_reducible refine Ev.mk ?_); conv => whnf) | with_reducible refine Dr.mk ⟨by kernel_rfl, by kernel_rfl⟩ ?_ | with_reducible refine obG ?_ | with_reducible refine Ob.mk ?_ ?_ | (with_reducible first | refine brT fun h => ?_ | refine brF fun h => ?_ | refine Br.mk (fun h => ?_) fun h => ?_) <;> (try simp only [bsl, beq_iff_eq, bne_iff_ne, bs2] at h) <;> (try contradiction) <;> try (exfalso; omega))
        refine loop_rule hT (S := Nat) (fun k => ([(0, .d (eSeats q)), (1, .d (.int .i64 st)), (5, .ptr (.loc 0) 0 0 0), (8, .osl (.loc 1) (keepS st b (q.take k)).length 0 (keepS st b (q.take k)).length), (9, .d (.int .i64 k))],
          ⟨[some (.box 25 (up (eBun b))), some (.vec 44 3 (keepS st b (q.take k)).length (keepS st b (q.take k)).length (rowsS (keepS st b (q.take k))))], []⟩)) (fun k => k ≤ q.length) (fun k => q.length - k) 0 ?_ ?_ ?_
        · repeat' (first | exact True.intro | exact rfl | exact Nat.le_refl _ | refine And.intro ?_ ?_)
          all_goals (intro i hi; exact absurd hi (Nat.not_lt_zero _))
        · exact Nat.zero_le _
        · intro k hk
          have hkl := keepS_len st b (q.take k)
          have htl : (q.take k).length ≤ k := by rw [List.length_take]; omega
          by_cases hk2 : k < q.length
          · have hks := keepS_snoc st b (q.take k) (q.getD k default)
            rw [← take_succ_at hk2] at hks
            obtain ⟨R, hR⟩ : ∃ R, keepS st b (q.take k) = R := ⟨_, rfl⟩
            rw [hR] at hks hkl ⊢
            by_cases hp : ofPart st b (q.getD k default) = true
            · rw [if_pos hp] at hks
              have hp2 := hp
              simp only [ofPart, partsI, if_neg hl, Bool.and_eq_true, decide_eq_true_eq, List.mem_cons, List.not_mem_nil, or_false] at hp2
              repeat' (first | with_reducible refine Sq.go ?_ | ((with_reducible refine Ev.mk ?_); conv => whnf) | with_reducible refine Dr.mk ⟨by kernel_rfl, by kernel_rfl⟩ ?_ | with_reducible refine obG ?_ | with_reducible refine Ob.mk ?_ ?_ | (with_reducible first | refine brT fun h => ?_ | refine brF fun h => ?_ | refine Br.mk (fun h => ?_) fun h => ?_) <;> (try simp only [bsl, beq_iff_eq, bne_iff_ne, bs2] at h) <;> (try contradiction) <;> try (exfalso; omega))
              all_goals
                refine ⟨k + 1, by show k + 1 ≤ q.length; omega, by show q.length - (k + 1) < q.length - k; omega, ?_⟩
                dsimp only
                rw [hks]
                repeat' (first | exact True.intro | exact rfl | exact Nat.le_refl _ | refine And.intro ?_ ?_)
              all_goals (intro i hi; exact ⟨rfl, rfl⟩)
            · rw [if_neg hp] at hks
              have hp2 := hp
              simp only [ofPart, partsI, if_neg hl, Bool.and_eq_true, decide_eq_true_eq, List.mem_cons, List.not_mem_nil, or_false] at hp2
              have hyl := len_snoc R (q.getD k default)
              repeat' (first | with_reducible refine Sq.go ?_ | ((with_reducible refine Ev.mk ?_); conv => whnf) | with_reducible refine Dr.mk ⟨by kernel_rfl, by kernel_rfl⟩ ?_ | with_reducible refine obG ?_ | with_reducible refine Ob.mk ?_ ?_ | (with_reducible first | refine brT fun h => ?_ | refine brF fun h => ?_ | refine Br.mk (fun h => ?_) fun h => ?_) <;> (try simp only [bsl, beq_iff_eq, bne_iff_ne, bs2] at h) <;> (try contradiction) <;> try (exfalso; omega))
              all_goals
                refine ⟨k + 1, by show k + 1 ≤ q.length; omega, by show q.length - (k + 1) < q.length - k; omega, ?_⟩
                dsimp only
                rw [hks, hyl]
                repeat' (first | exact True.intro | exact rfl | exact Nat.le_refl _ | refine And.intro ?_ ?_)
              all_goals first
                | (intro i hi; rw [← hyl] at hi; exact ⟨join_snoc eSeat _ _ _ rfl i hi, rfl⟩)
                | (intro i hi; exact ⟨rfl, rfl⟩)
          · rw [List.take_of_length_le (by omega)]
            repeat' (first | with_reducible refine Sq.go ?_ | ((with_reducible refine Ev.mk ?_); conv => whnf) | with_reducible refine Dr.mk ⟨by kernel_rfl, by kernel_rfl⟩ ?_ | with_reducible refine obG ?_ | with_reducible refine Ob.mk ?_ ?_ | (with_reducible first | refine brT fun h => ?_ | refine brF fun h => ?_ | refine Br.mk (fun h => ?_) fun h => ?_) <;> (try simp only [bsl, beq_iff_eq, bne_iff_ne, bs2] at h) <;> (try contradiction) <;> try (exfalso; omega))
            exact ⟨⟨rfl, rfl, by rw [Nat.zero_add]; exact Nat.le_refl _, rfl, fun i hi => by rw [Nat.zero_add]; rfl⟩, rfl, True.intro⟩
end Go.Proofs.YtfbjlakcolipaaaGreatDoor
