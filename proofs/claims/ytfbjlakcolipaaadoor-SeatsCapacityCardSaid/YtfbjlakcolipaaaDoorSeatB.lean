/-
  Seats: compare, of, Has, parts, count.
-/
import Derived.Test.YtfbjlakcolipaaaDoorSeatA
namespace Go.Proofs.YtfbjlakcolipaaaDoor
set_option linter.unusedSimpArgs false
set_option linter.unusedVariables false
open Go Go.Ab
set_option maxRecDepth 100000
set_option maxHeartbeats 0
def cmpI (a b : Int) : Int := if a < b then -1 else if b < a then 1 else 0
theorem isNaN_ok (a : Int) : Pure Tryd.prog 60 [.int .i64 a] [.bool false] := by
  refine pure_rule hT (T := tab) (N := 6) (rs := [.tmp 2]) Tryd.func60 rfl rfl rfl (by kernel_rfl) rfl ?_
  repeat' (first | with_reducible refine Sq.go ?_ | ((with_reducible refine Ev.mk ?_); conv => whnf) | with_reducible refine Dr.mk ⟨by kernel_rfl, by kernel_rfl⟩ ?_ | with_reducible refine obG ?_ | with_reducible refine Ob.mk ?_ ?_ | (with_reducible first | refine brT fun h => ?_ | refine brF fun h => ?_ | refine Br.mk (fun h => ?_) fun h => ?_) <;> (try simp only [bsl, beq_iff_eq, bne_iff_ne, bs2] at h) <;> (try contradiction) <;> try (exfalso; omega))
  refine ⟨congrArg D.bool ?_, True.intro⟩
  simp
theorem cmpI_ok (a b : Int) : Pure Tryd.prog 47 [.int .i64 a, .int .i64 b] [.int .i64 (cmpI a b)] := by
  refine pure_rule hT (T := tab) (N := 20) (rs := [.tmp 4]) Tryd.func47 rfl rfl rfl (by kernel_rfl) rfl ?_
  repeat' (first | with_reducible refine Sq.go ?_ | ((with_reducible refine Ev.mk ?_); conv => whnf) | with_reducible refine Dr.mk ⟨by kernel_rfl, by kernel_rfl⟩ ?_ | with_reducible refine obG ?_ | with_reducible refine Ob.mk ?_ ?_ | (with_reducible first | refine brT fun h => ?_ | refine brF fun h => ?_ | refine Br.mk (fun h => ?_) fun h => ?_) <;> (try simp only [bsl, beq_iff_eq, bne_iff_ne, bs2] at h) <;> (try contradiction) <;> try (exfalso; omega))
  refine (isNaN_ok a).call ?_
  repeat' (first | with_reducible refine Sq.go ?_ | ((with_reducible refine Ev.mk ?_); conv => whnf) | with_reducible refine Dr.mk ⟨by kernel_rfl, by kernel_rfl⟩ ?_ | with_reducible refine obG ?_ | with_reducible refine Ob.mk ?_ ?_ | (with_reducible first | refine brT fun h => ?_ | refine brF fun h => ?_ | refine Br.mk (fun h => ?_) fun h => ?_) <;> (try simp only [bsl, beq_iff_eq, bne_iff_ne, bs2] at h) <;> (try contradiction) <;> try (exfalso; omega))
  refine (isNaN_ok b).call ?_
  rcases Int.lt_trichotomy a b with h | h | h
  · rw [cmpI, if_pos h]
    repeat' (first | with_reducible refine Sq.go ?_ | ((with_reducible refine Ev.mk ?_); conv => whnf) | with_reducible refine Dr.mk ⟨by kernel_rfl, by kernel_rfl⟩ ?_ | with_reducible refine obG ?_ | with_reducible refine Ob.mk ?_ ?_ | (with_reducible first | refine brT fun h => ?_ | refine brF fun h => ?_ | refine Br.mk (fun h => ?_) fun h => ?_) <;> (try simp only [bsl, beq_iff_eq, bne_iff_ne, bs2] at h) <;> (try contradiction) <;> try (exfalso; omega))
    exact ⟨rfl, True.intro⟩
  · rw [cmpI, if_neg (by omega), if_neg (by omega)]
    repeat' (first | with_reducible refine Sq.go ?_ | ((with_reducible refine Ev.mk ?_); conv => whnf) | with_reducible refine Dr.mk ⟨by kernel_rfl, by kernel_rfl⟩ ?_ | with_reducible refine obG ?_ | with_reducible refine Ob.mk ?_ ?_ | (with_reducible first | refine brT fun h => ?_ | refine brF fun h => ?_ | refine Br.mk (fun h => ?_) fun h => ?_) <;> (try simp only [bsl, beq_iff_eq, bne_iff_ne, bs2] at h) <;> (try contradiction) <;> try (exfalso; omega))
    exact ⟨rfl, True.intro⟩
  · rw [cmpI, if_neg (by omega), if_pos h]
    repeat' (first | with_reducible refine Sq.go ?_ | ((with_reducible refine Ev.mk ?_); conv => whnf) | with_reducible refine Dr.mk ⟨by kernel_rfl, by kernel_rfl⟩ ?_ | with_reducible refine obG ?_ | with_reducible refine Ob.mk ?_ ?_ | (with_reducible first | refine brT fun h => ?_ | refine brF fun h => ?_ | refine Br.mk (fun h => ?_) fun h => ?_) <;> (try simp only [bsl, beq_iff_eq, bne_iff_ne, bs2] at h) <;> (try contradiction) <;> try (exfalso; omega))
    exact ⟨rfl, True.intro⟩
theorem orI_ok (xs : List Int) (hx : xs.length ≤ 1000000) : Pure Tryd.prog 46 [eInts xs] [.int .i64 ((xs.find? fun n => decide (n ≠ 0)).getD 0)] := by
  refine pure_rule hT (T := tab) (N := 18) (rs := [.tmp 2]) Tryd.func46 rfl rfl rfl (by kernel_rfl) rfl ?_
  repeat' (first | with_reducible refine Sq.go ?_ | ((with_reducible refine Ev.mk ?_); conv => whnf) | with_reducible refine Dr.mk ⟨by kernel_rfl, by kernel_rfl⟩ ?_ | with_reducible refine obG ?_ | with_reducible refine Ob.mk ?_ ?_ | (with_reducible first | refine brT fun h => ?_ | refine brF fun h => ?_ | refine Br.mk (fun h => ?_) fun h => ?_) <;> (try simp only [bsl, beq_iff_eq, bne_iff_ne, bs2] at h) <;> (try contradiction) <;> try (exfalso; omega))
  refine loop_rule hT (S := Nat) (fun k => ([(3, .d (.int .i64 0)), (6, .d (eInts xs)), (7, .d (.int .i64 xs.length)), (8, .d (.int .i64 k))], ⟨[], []⟩)) (fun k => k ≤ xs.length ∧ xs.find? (fun n => decide (n ≠ 0)) = (xs.drop k).find? fun n => decide (n ≠ 0)) (fun k => xs.length - k) 0 ?_ ?_ ?_
  · repeat' (first | exact True.intro | exact rfl | exact Nat.le_refl _ | refine And.intro ?_ ?_)
  · exact ⟨Nat.zero_le _, rfl⟩
  · rintro k ⟨hk, hc⟩
    by_cases hk2 : k < xs.length
    · rw [drop_at hk2, List.find?_cons] at hc
      by_cases hz : xs.getD k default = 0
      · rw [decide_eq_false (by simpa using hz)] at hc
        repeat' (first | with_reducible refine Sq.go ?_ | ((with_reducible refine Ev.mk ?_); conv => whnf) | with_reducible refine Dr.mk ⟨by kernel_rfl, by kernel_rfl⟩ ?_ | with_reducible refine obG ?_ | with_reducible refine Ob.mk ?_ ?_ | (with_reducible first | refine brT fun h => ?_ | refine brF fun h => ?_ | refine Br.mk (fun h => ?_) fun h => ?_) <;> (try simp only [bsl, beq_iff_eq, bne_iff_ne, bs2] at h) <;> (try contradiction) <;> try (exfalso; omega))
        refine ⟨k + 1, ⟨by show k + 1 ≤ xs.length; omega, hc⟩, by show xs.length - (k + 1) < xs.length - k; omega, ?_⟩
        repeat' (first | exact True.intro | exact rfl | exact Nat.le_refl _ | refine And.intro ?_ ?_)
      · rw [decide_eq_true hz] at hc
        rw [hc]
        repeat' (first | with_reducible refine Sq.go ?_ | ((with_reducible refine Ev.mk ?_); conv => whnf) | with_reducible refine Dr.mk ⟨by kernel_rfl, by kernel_rfl⟩ ?_ | with_reducible refine obG ?_ | with_reducible refine Ob.mk ?_ ?_ | (with_reducible first | refine brT fun h => ?_ | refine brF fun h => ?_ | refine Br.mk (fun h => ?_) fun h => ?_) <;> (try simp only [bsl, beq_iff_eq, bne_iff_ne, bs2] at h) <;> (try contradiction) <;> try (exfalso; omega))
        exact ⟨rfl, True.intro⟩
    · rw [drop_end (by omega), List.find?_nil] at hc
      rw [hc]
      repeat' (first | with_reducible refine Sq.go ?_ | ((with_reducible refine Ev.mk ?_); conv => whnf) | with_reducible refine Dr.mk ⟨by kernel_rfl, by kernel_rfl⟩ ?_ | with_reducible refine obG ?_ | with_reducible refine Ob.mk ?_ ?_ | (with_reducible first | refine brT fun h => ?_ | refine brF fun h => ?_ | refine Br.mk (fun h => ?_) fun h => ?_) <;> (try simp only [bsl, beq_iff_eq, bne_iff_ne, bs2] at h) <;> (try contradiction) <;> try (exfalso; omega))
      exact ⟨rfl, True.intro⟩
def seatC (a b : Seat) : Int := if cmpI a.sec b.sec = 0 then cmpI a.student b.student else cmpI a.sec b.sec
theorem compare_ok (a b : Seat) : Pure Tryd.prog 23 [.agg (eSeat a), .agg (eSeat b)] [.int .i64 (seatC a b)] := by
  refine pure_rule hT (T := tab) (N := 17) (rs := [.tmp 4]) Tryd.func23 rfl rfl rfl (by kernel_rfl) rfl ?_
  have h := orI_ok [cmpI a.sec b.sec, cmpI a.student b.student] (show 2 ≤ 1000000 by decide)
  have e : ([cmpI a.sec b.sec, cmpI a.student b.student].find? fun n => decide (n ≠ 0)).getD 0 = seatC a b := by
    unfold seatC
    by_cases h1 : cmpI a.sec b.sec = 0
    · by_cases h2 : cmpI a.student b.student = 0 <;> simp [h1, h2]
    · simp [h1]
  rw [e] at h
  repeat' (first | with_reducible refine Sq.go ?_ | ((with_reducible refine Ev.mk ?_); conv => whnf) | with_reducible refine Dr.mk ⟨by kernel_rfl, by kernel_rfl⟩ ?_ | with_reducible refine obG ?_ | with_reducible refine Ob.mk ?_ ?_ | (with_reducible first | refine brT fun h => ?_ | refine brF fun h => ?_ | refine Br.mk (fun h => ?_) fun h => ?_) <;> (try simp only [bsl, beq_iff_eq, bne_iff_ne, bs2] at h) <;> (try contradiction) <;> try (exfalso; omega))
  refine qC (cmpI_ok a.sec b.sec) ?_
  repeat' (first | with_reducible refine Sq.go ?_ | ((with_reducible refine Ev.mk ?_); conv => whnf) | with_reducible refine Dr.mk ⟨by kernel_rfl, by kernel_rfl⟩ ?_ | with_reducible refine obG ?_ | with_reducible refine Ob.mk ?_ ?_ | (with_reducible first | refine brT fun h => ?_ | refine brF fun h => ?_ | refine Br.mk (fun h => ?_) fun h => ?_) <;> (try simp only [bsl, beq_iff_eq, bne_iff_ne, bs2] at h) <;> (try contradiction) <;> try (exfalso; omega))
  refine qC (cmpI_ok a.student b.student) ?_
  repeat' (first | with_reducible refine Sq.go ?_ | ((with_reducible refine Ev.mk ?_); conv => whnf) | with_reducible refine Dr.mk ⟨by kernel_rfl, by kernel_rfl⟩ ?_ | with_reducible refine obG ?_ | with_reducible refine Ob.mk ?_ ?_ | (with_reducible first | refine brT fun h => ?_ | refine brF fun h => ?_ | refine Br.mk (fun h => ?_) fun h => ?_) <;> (try simp only [bsl, beq_iff_eq, bne_iff_ne, bs2] at h) <;> (try contradiction) <;> try (exfalso; omega))
  refine qC (deqP (ds := [.sl 1 2 _]) h ⟨⟨rfl, rfl, fun i hi => ?_⟩, True.intro⟩) ?_
  · have hi : i < 2 := hi
    rcases show i = 0 ∨ i = 1 by omega with rfl | rfl <;> rfl
  repeat' (first | with_reducible refine Sq.go ?_ | ((with_reducible refine Ev.mk ?_); conv => whnf) | with_reducible refine Dr.mk ⟨by kernel_rfl, by kernel_rfl⟩ ?_ | with_reducible refine obG ?_ | with_reducible refine Ob.mk ?_ ?_ | (with_reducible first | refine brT fun h => ?_ | refine brF fun h => ?_ | refine Br.mk (fun h => ?_) fun h => ?_) <;> (try simp only [bsl, beq_iff_eq, bne_iff_ne, bs2] at h) <;> (try contradiction) <;> try (exfalso; omega))
  exact ⟨rfl, True.intro⟩
theorem seatC_neg (a b : Seat) : seatC a b < 0 ↔ a.sec < b.sec ∨ a.sec = b.sec ∧ a.student < b.student := by
  unfold seatC cmpI
  split <;> split <;> (try split) <;> omega
theorem seatC_zero (a b : Seat) : seatC a b = 0 ↔ a.sec = b.sec ∧ a.student = b.student := by
  unfold seatC cmpI
  split <;> split <;> (try split) <;> omega
def secL (taken : List Seat) (n : Int) : List Seat := taken.filter fun x => decide (x.sec = n)
theorem secL_cons (x : Seat) (r : List Seat) (n : Int) : secL (x :: r) n = if x.sec = n then x :: secL r n else secL r n := by
  unfold secL
  rw [List.filter_cons]
  by_cases h : x.sec = n <;> simp [h]
def tkS (taken : List Seat) (st n : Int) : Bool := (secL taken n).any fun x => decide (x.student = st)
/-- The rounds over seats, as long as they go on: those that were met. -/
def visitL (cont : List Seat → Bool) : List Seat → List Seat → List Seat
  | [], q => q
  | x :: r, q => if cont (q ++ [x]) = true then visitL cont r (q ++ [x]) else q ++ [x]
theorem visitL_all : ∀ (l q : List Seat), visitL (fun _ => true) l q = q ++ l
  | [], q => by simp [visitL]
  | x :: r, q => by rw [visitL, if_pos rfl, visitL_all r]; simp
theorem visitL_any (f : Seat → Bool) : ∀ (l q : List Seat), (visitL (fun q => !q.any f) l q).any f = (q.any f || l.any f)
  | [], q => by simp [visitL]
  | x :: r, q => by
    rw [visitL]
    by_cases h : (q ++ [x]).any f = true
    · rw [if_neg (by rw [h]; simp), h]
      rw [List.any_append] at h
      rw [List.any_cons, ← Bool.or_assoc]
      have : (q.any f || f x) = true := by simpa using h
      rw [this]
      rfl
    · have h' : (q ++ [x]).any f = false := by simpa using h
      rw [if_pos (by rw [h']; rfl), visitL_any f r, h', Bool.false_or]
      rw [List.any_append] at h'
      have h2 := (Bool.or_eq_false_iff.1 h')
      have h3 : f x = false := by simpa using h2.2
      rw [h2.1, List.any_cons, h3]
      rfl
theorem of_seats (taken : List Seat) (n : Int) : CallVC Tryd.prog 26 [.d (eSeats taken), .d (.int .i64 n)] ⟨[], []⟩
    (Ret (fun _ : Unit => ([.fn (.func 48) [] [.ptr (.loc 0) 0 0 0, .ptr (.loc 1) 0 0 0]], ⟨[some (.box 28 [.d (eSeats taken)]), some (.box 3 [.d (.int .i64 n)])], []⟩)) fun _ => True) := by
  refine call_rule hT (T := tab) (N := 6) (rs := [.tmp 4]) _ _ Tryd.func26 rfl rfl rfl (by kernel_rfl) rfl ?_
  repeat' (first | with_reducible refine Sq.go ?_ | ((with_reducible refine Ev.mk ?_); conv => whnf) | with_reducible refine Dr.mk ⟨by kernel_rfl, by kernel_rfl⟩ ?_ | with_reducible refine obG ?_ | with_reducible refine Ob.mk ?_ ?_ | (with_reducible first | refine brT fun h => ?_ | refine brF fun h => ?_ | refine Br.mk (fun h => ?_) fun h => ?_) <;> (try simp only [bsl, beq_iff_eq, bne_iff_ne, bs2] at h) <;> (try contradiction) <;> try (exfalso; omega))
  exact ⟨(), True.intro, by repeat' (first | exact True.intro | exact rfl | exact Nat.le_refl _ | refine And.intro ?_ ?_), rfl⟩
theorem of1H_ok (rec : Loop) (st : Int) (y : Nat) (taken : List Seat) (hx : taken.length ≤ 1000000) (n : Int) (cont : List Seat → Bool) (hgo : cont [] = true)
    (hy : ∀ q : List Seat, q.length ≤ 1000000 → cont q = true → ∀ x ∈ taken, YieldVC Tryd.prog y [.d (.agg (eSeat x))] ⟨[], [some (.box 28 [.d (eSeats taken)]), some (.box 3 [.d (.int .i64 n)]), some (.box 3 [.d (.int .i64 st)]), some (.box 4 [.d (.bool (q.any fun x => decide (x.student = st)))]), some (.loop y (bif (q.any fun x => decide (x.student = st)) then after rec (some .ret) else rec) [(4, .ptr (.arg 2) 0 0 0), (6, .ptr (.arg 3) 0 0 0)])]⟩
      (Ret (fun q : List Seat => ([.d (.bool (cont q))], ⟨[], [some (.box 28 [.d (eSeats taken)]), some (.box 3 [.d (.int .i64 n)]), some (.box 3 [.d (.int .i64 st)]), some (.box 4 [.d (.bool (q.any fun x => decide (x.student = st)))]), some (.loop y (bif (q.any fun x => decide (x.student = st)) then after rec (some .ret) else rec) [(4, .ptr (.arg 2) 0 0 0), (6, .ptr (.arg 3) 0 0 0)])]⟩)) fun q' => q' = q ++ [x])) :
    CallVC Tryd.prog 48 [.fn (.yield y) [] [], .ptr (.arg 0) 0 0 0, .ptr (.arg 1) 0 0 0] ((fun q : List Seat => ⟨[], [some (.box 28 [.d (eSeats taken)]), some (.box 3 [.d (.int .i64 n)]), some (.box 3 [.d (.int .i64 st)]), some (.box 4 [.d (.bool (q.any fun x => decide (x.student = st)))]), some (.loop y (bif (q.any fun x => decide (x.student = st)) then after rec (some .ret) else rec) [(4, .ptr (.arg 2) 0 0 0), (6, .ptr (.arg 3) 0 0 0)])]⟩) [])
      (Ret (fun q : List Seat => ([], ⟨[], [some (.box 28 [.d (eSeats taken)]), some (.box 3 [.d (.int .i64 n)]), some (.box 3 [.d (.int .i64 st)]), some (.box 4 [.d (.bool (q.any fun x => decide (x.student = st)))]), some (.loop y (bif (q.any fun x => decide (x.student = st)) then after rec (some .ret) else rec) [(4, .ptr (.arg 2) 0 0 0), (6, .ptr (.arg 3) 0 0 0)])]⟩)) fun q => q = visitL cont (secL taken n) []) := by
  refine call_rule hT (T := tab) (N := 23) (rs := []) _ _ Tryd.func48 rfl rfl rfl (by kernel_rfl) rfl ?_
  repeat' (first | with_reducible refine Sq.go ?_ | ((with_reducible refine Ev.mk ?_); conv => whnf) | with_reducible refine Dr.mk ⟨by kernel_rfl, by kernel_rfl⟩ ?_ | with_reducible refine obG ?_ | with_reducible refine Ob.mk ?_ ?_ | (with_reducible first | refine brT fun h => ?_ | refine brF fun h => ?_ | refine Br.mk (fun h => ?_) fun h => ?_) <;> (try simp only [bsl, beq_iff_eq, bne_iff_ne, bs2] at h) <;> (try contradiction) <;> try (exfalso; omega))
  refine loop_rule hT (S := Nat × List Seat) (fun z => ([(0, .fn (.yield y) [] []), (2, .ptr (.arg 1) 0 0 0), (6, .d (eSeats taken)), (7, .d (.int .i64 taken.length)), (8, .d (.int .i64 z.1))], (fun q : List Seat => ⟨[], [some (.box 28 [.d (eSeats taken)]), some (.box 3 [.d (.int .i64 n)]), some (.box 3 [.d (.int .i64 st)]), some (.box 4 [.d (.bool (q.any fun x => decide (x.student = st)))]), some (.loop y (bif (q.any fun x => decide (x.student = st)) then after rec (some .ret) else rec) [(4, .ptr (.arg 2) 0 0 0), (6, .ptr (.arg 3) 0 0 0)])]⟩) z.2))
    (fun z => z.1 ≤ taken.length ∧ z.2.length ≤ z.1 ∧ cont z.2 = true ∧ visitL cont (secL taken n) [] = visitL cont (secL (taken.drop z.1) n) z.2) (fun z => taken.length - z.1) (0, []) ?_ ?_ ?_
  · repeat' (first | exact True.intro | exact rfl | exact Nat.le_refl _ | refine And.intro ?_ ?_)
  · exact ⟨Nat.zero_le _, Nat.le_refl _, hgo, rfl⟩
  · rintro ⟨k, q⟩ ⟨hk, hq, hcq, hc⟩
    dsimp only at hk hq hcq hc
    by_cases hk2 : k < taken.length
    · rw [drop_at hk2, secL_cons] at hc
      by_cases hs : (taken.getD k default).sec = n
      · rw [if_pos hs, visitL] at hc
        repeat' (first | with_reducible refine Sq.go ?_ | ((with_reducible refine Ev.mk ?_); conv => whnf) | with_reducible refine Dr.mk ⟨by kernel_rfl, by kernel_rfl⟩ ?_ | with_reducible refine obG ?_ | with_reducible refine Ob.mk ?_ ?_ | (with_reducible first | refine brT fun h => ?_ | refine brF fun h => ?_ | refine Br.mk (fun h => ?_) fun h => ?_) <;> (try simp only [bsl, beq_iff_eq, bne_iff_ne, bs2] at h) <;> (try contradiction) <;> try (exfalso; omega))
        refine (hy q (by omega) hcq (taken.getD k default) (getD_mem hk2)).at [.arg 0, .arg 1, .arg 2, .arg 3, .arg 4] rfl ⟨rfl, rfl, rfl, rfl, rfl, True.intro⟩ (fun s' hs' => ⟨rfl, ?_⟩)
        subst hs'
        cases hcn : cont (q ++ [taken.getD k default])
        · rw [if_neg (by rw [hcn]; simp)] at hc
          repeat' (first | with_reducible refine Sq.go ?_ | ((with_reducible refine Ev.mk ?_); conv => whnf) | with_reducible refine Dr.mk ⟨by kernel_rfl, by kernel_rfl⟩ ?_ | with_reducible refine obG ?_ | with_reducible refine Ob.mk ?_ ?_ | (with_reducible first | refine brT fun h => ?_ | refine brF fun h => ?_ | refine Br.mk (fun h => ?_) fun h => ?_) <;> (try simp only [bsl, beq_iff_eq, bne_iff_ne, bs2] at h) <;> (try contradiction) <;> try (exfalso; omega))
          refine ⟨_, rfl, ?_, rfl⟩
          rw [hc]
          repeat' (first | exact True.intro | exact rfl | exact Nat.le_refl _ | refine And.intro ?_ ?_)
        · rw [if_pos hcn] at hc
          repeat' (first | with_reducible refine Sq.go ?_ | ((with_reducible refine Ev.mk ?_); conv => whnf) | with_reducible refine Dr.mk ⟨by kernel_rfl, by kernel_rfl⟩ ?_ | with_reducible refine obG ?_ | with_reducible refine Ob.mk ?_ ?_ | (with_reducible first | refine brT fun h => ?_ | refine brF fun h => ?_ | refine Br.mk (fun h => ?_) fun h => ?_) <;> (try simp only [bsl, beq_iff_eq, bne_iff_ne, bs2] at h) <;> (try contradiction) <;> try (exfalso; omega))
          refine ⟨(k + 1, q ++ [taken.getD k default]), ⟨by show k + 1 ≤ taken.length; omega, by show (q ++ [_]).length ≤ k + 1; rw [len_snoc]; omega, hcn, hc⟩, by show taken.length - (k + 1) < taken.length - k; omega, ?_⟩
          repeat' (first | exact True.intro | exact rfl | exact Nat.le_refl _ | refine And.intro ?_ ?_)
      · rw [if_neg hs] at hc
        repeat' (first | with_reducible refine Sq.go ?_ | ((with_reducible refine Ev.mk ?_); conv => whnf) | with_reducible refine Dr.mk ⟨by kernel_rfl, by kernel_rfl⟩ ?_ | with_reducible refine obG ?_ | with_reducible refine Ob.mk ?_ ?_ | (with_reducible first | refine brT fun h => ?_ | refine brF fun h => ?_ | refine Br.mk (fun h => ?_) fun h => ?_) <;> (try simp only [bsl, beq_iff_eq, bne_iff_ne, bs2] at h) <;> (try contradiction) <;> try (exfalso; omega))
        refine ⟨(k + 1, q), ⟨by show k + 1 ≤ taken.length; omega, by show q.length ≤ k + 1; omega, hcq, hc⟩, by show taken.length - (k + 1) < taken.length - k; omega, ?_⟩
        repeat' (first | exact True.intro | exact rfl | exact Nat.le_refl _ | refine And.intro ?_ ?_)
    · rw [drop_end (by omega)] at hc
      repeat' (first | with_reducible refine Sq.go ?_ | ((with_reducible refine Ev.mk ?_); conv => whnf) | with_reducible refine Dr.mk ⟨by kernel_rfl, by kernel_rfl⟩ ?_ | with_reducible refine obG ?_ | with_reducible refine Ob.mk ?_ ?_ | (with_reducible first | refine brT fun h => ?_ | refine brF fun h => ?_ | refine Br.mk (fun h => ?_) fun h => ?_) <;> (try simp only [bsl, beq_iff_eq, bne_iff_ne, bs2] at h) <;> (try contradiction) <;> try (exfalso; omega))
      refine ⟨_, rfl, ?_, rfl⟩
      rw [hc]
      repeat' (first | exact True.intro | exact rfl | exact Nat.le_refl _ | refine And.intro ?_ ?_)
theorem has_ok (taken : List Seat) (hx : taken.length ≤ 1000000) (st n : Int) : Pure Tryd.prog 12 [eSeats taken, .int .i64 st, .int .i64 n] [.bool (tkS taken st n)] := by
  refine pure_rule hT (T := tab) (N := 16) (rs := [.cell 6 4]) Tryd.func12 rfl rfl rfl (by kernel_rfl) rfl ?_
  repeat' (first | with_reducible refine Sq.go ?_ | ((with_reducible refine Ev.mk ?_); conv => whnf) | with_reducible refine Dr.mk ⟨by kernel_rfl, by kernel_rfl⟩ ?_ | with_reducible refine obG ?_ | with_reducible refine Ob.mk ?_ ?_ | (with_reducible first | refine brT fun h => ?_ | refine brF fun h => ?_ | refine Br.mk (fun h => ?_) fun h => ?_) <;> (try simp only [bsl, beq_iff_eq, bne_iff_ne, bs2] at h) <;> (try contradiction) <;> try (exfalso; omega))
  refine (of_seats taken n).at [] rfl True.intro (fun _ _ => ⟨rfl, ?_⟩)
  repeat' (first | with_reducible refine Sq.go ?_ | ((with_reducible refine Ev.mk ?_); conv => whnf) | with_reducible refine Dr.mk ⟨by kernel_rfl, by kernel_rfl⟩ ?_ | with_reducible refine obG ?_ | with_reducible refine Ob.mk ?_ ?_ | (with_reducible first | refine brT fun h => ?_ | refine brF fun h => ?_ | refine Br.mk (fun h => ?_) fun h => ?_) <;> (try simp only [bsl, beq_iff_eq, bne_iff_ne, bs2] at h) <;> (try contradiction) <;> try (exfalso; omega))
  refine Awp.range (caps := [.ptr (.loc 2) 0 0 0, .ptr (.loc 3) 0 0 0]) [(4, .ptr (.loc 0) 0 0 0), (6, .ptr (.loc 1) 0 0 0)] (.inl rfl) (nl := 4) (na := 0) ⟨⟨rfl, rfl⟩, ⟨rfl, rfl⟩, True.intro⟩ ?_
  intro y r h1 h2 h3 h4 h5 h6
  refine (of1H_ok r st y taken hx n (fun q => !q.any fun x => decide (x.student = st)) rfl ?_).at [.loc 2, .loc 3, .loc 0, .loc 1, .loc 4] rfl ⟨rfl, rfl, rfl, rfl, rfl, True.intro⟩ (fun s hs => ⟨rfl, ?_⟩)
  · intro q hql hcq x hx
    have hq0 : (q.any fun x => decide (x.student = st)) = false := by simpa using hcq
    rw [hq0]
    refine yieldMono (yield_rule (N := 16) (ps := [11]) (args := [.d (.agg (eSeat x))])
      (bs := [some (.box 28 [.d (eSeats taken)]), some (.box 3 [.d (.int .i64 n)]), some (.box 3 [.d (.int .i64 st)]), some (.box 4 [.d (.bool false)])]) (env0 := [(4, .ptr (.arg 2) 0 0 0), (6, .ptr (.arg 3) 0 0 0)])
      (fun b : Bool => [some (.box 28 [.d (eSeats taken)]), some (.box 3 [.d (.int .i64 n)]), some (.box 3 [.d (.int .i64 st)]), some (.box 4 [.d (.bool b)])]) (fun b : Bool => bif b then some .ret else none) (fun b => b = decide (x.student = st)) h1 h3 h4 h5 h6 rfl (by simp) ?_ rfl rfl ?_) ?_
    · repeat' (first | exact True.intro | exact rfl | exact Nat.le_refl _ | refine And.intro ?_ ?_)
    · refine Awp.of_vc hT ?_
      repeat' (first | with_reducible refine Sq.go ?_ | ((with_reducible refine Ev.mk ?_); conv => whnf) | with_reducible refine Dr.mk ⟨by kernel_rfl, by kernel_rfl⟩ ?_ | with_reducible refine obG ?_ | with_reducible refine Ob.mk ?_ ?_ | (with_reducible first | refine brT fun h => ?_ | refine brF fun h => ?_ | refine Br.mk (fun h => ?_) fun h => ?_) <;> (try simp only [bsl, beq_iff_eq, bne_iff_ne, bs2] at h) <;> (try contradiction) <;> try (exfalso; omega))
      refine Awp.of_vc hT ?_
      by_cases he : x.student = st
      · repeat' (first | with_reducible refine Sq.go ?_ | ((with_reducible refine Ev.mk ?_); conv => whnf) | with_reducible refine Dr.mk ⟨by kernel_rfl, by kernel_rfl⟩ ?_ | with_reducible refine obG ?_ | with_reducible refine Ob.mk ?_ ?_ | (with_reducible first | refine brT fun h => ?_ | refine brF fun h => ?_ | refine Br.mk (fun h => ?_) fun h => ?_) <;> (try simp only [bsl, beq_iff_eq, bne_iff_ne, bs2] at h) <;> (try contradiction) <;> try (exfalso; omega))
        exact ⟨true, (decide_eq_true he).symm, rfl, rfl, by repeat' (first | exact True.intro | exact rfl | exact Nat.le_refl _ | refine And.intro ?_ ?_)⟩
      · repeat' (first | with_reducible refine Sq.go ?_ | ((with_reducible refine Ev.mk ?_); conv => whnf) | with_reducible refine Dr.mk ⟨by kernel_rfl, by kernel_rfl⟩ ?_ | with_reducible refine obG ?_ | with_reducible refine Ob.mk ?_ ?_ | (with_reducible first | refine brT fun h => ?_ | refine brF fun h => ?_ | refine Br.mk (fun h => ?_) fun h => ?_) <;> (try simp only [bsl, beq_iff_eq, bne_iff_ne, bs2] at h) <;> (try contradiction) <;> try (exfalso; omega))
        exact ⟨false, (decide_eq_false he).symm, rfl, rfl, by repeat' (first | exact True.intro | exact rfl | exact Nat.le_refl _ | refine And.intro ?_ ?_)⟩
    · rintro A m' ⟨b, hJ, rfl, rfl⟩
      have hqa : ((q ++ [x]).any fun x => decide (x.student = st)) = b := by rw [List.any_append, hq0, hJ]; simp
      refine ⟨q ++ [x], rfl, ?_, ?_⟩
      · dsimp only
        rw [hqa]
        cases b <;> rfl
      · dsimp only
        rw [hqa]
        cases b
        · show (⟨[], [some _, some _, some _, some _, some (.loop y (after r none) _)]⟩ : Mem) = _
          rw [after_none h1 h2]
          rfl
        · rfl
  · have hv : (s.any fun x => decide (x.student = st)) = tkS taken st n := by rw [hs, visitL_any]; rfl
    dsimp only
    rw [hv]
    cases tkS taken st n
    · repeat' (first | with_reducible refine Sq.go ?_ | ((with_reducible refine Ev.mk ?_); conv => whnf) | with_reducible refine Dr.mk ⟨by kernel_rfl, by kernel_rfl⟩ ?_ | with_reducible refine obG ?_ | with_reducible refine Ob.mk ?_ ?_ | (with_reducible first | refine brT fun h => ?_ | refine brF fun h => ?_ | refine Br.mk (fun h => ?_) fun h => ?_) <;> (try simp only [bsl, beq_iff_eq, bne_iff_ne, bs2] at h) <;> (try contradiction) <;> try (exfalso; omega))
      refine ⟨none, by rw [after_none h1 h2]; rfl, ?_⟩
      show Sq _ _
      repeat' (first | with_reducible refine Sq.go ?_ | ((with_reducible refine Ev.mk ?_); conv => whnf) | with_reducible refine Dr.mk ⟨by kernel_rfl, by kernel_rfl⟩ ?_ | with_reducible refine obG ?_ | with_reducible refine Ob.mk ?_ ?_ | (with_reducible first | refine brT fun h => ?_ | refine brF fun h => ?_ | refine Br.mk (fun h => ?_) fun h => ?_) <;> (try simp only [bsl, beq_iff_eq, bne_iff_ne, bs2] at h) <;> (try contradiction) <;> try (exfalso; omega))
      exact ⟨rfl, True.intro⟩
    · repeat' (first | with_reducible refine Sq.go ?_ | ((with_reducible refine Ev.mk ?_); conv => whnf) | with_reducible refine Dr.mk ⟨by kernel_rfl, by kernel_rfl⟩ ?_ | with_reducible refine obG ?_ | with_reducible refine Ob.mk ?_ ?_ | (with_reducible first | refine brT fun h => ?_ | refine brF fun h => ?_ | refine Br.mk (fun h => ?_) fun h => ?_) <;> (try simp only [bsl, beq_iff_eq, bne_iff_ne, bs2] at h) <;> (try contradiction) <;> try (exfalso; omega))
      refine ⟨some .ret, rfl, ?_⟩
      refine Awp.of_vc hT ?_
      repeat' (first | with_reducible refine Sq.go ?_ | ((with_reducible refine Ev.mk ?_); conv => whnf) | with_reducible refine Dr.mk ⟨by kernel_rfl, by kernel_rfl⟩ ?_ | with_reducible refine obG ?_ | with_reducible refine Ob.mk ?_ ?_ | (with_reducible first | refine brT fun h => ?_ | refine brF fun h => ?_ | refine Br.mk (fun h => ?_) fun h => ?_) <;> (try simp only [bsl, beq_iff_eq, bne_iff_ne, bs2] at h) <;> (try contradiction) <;> try (exfalso; omega))
      exact ⟨rfl, True.intro⟩
def partsI (b : Bun) : List Int := if b.lab = -1 then [b.sec] else [b.sec, b.lab]
theorem partsI_ok (b : Bun) : Pure Tryd.prog 34 [.agg (eBun b)] [eInts (partsI b)] := by
  refine pure_rule hT (T := tab) (N := 14) (rs := [.tmp 2]) Tryd.func34 rfl rfl rfl (by kernel_rfl) rfl ?_
  by_cases h1 : b.lab = -1
  · rw [partsI, if_pos h1]
    repeat' (first | with_reducible refine Sq.go ?_ | ((with_reducible refine Ev.mk ?_); conv => whnf) | with_reducible refine Dr.mk ⟨by kernel_rfl, by kernel_rfl⟩ ?_ | with_reducible refine obG ?_ | with_reducible refine Ob.mk ?_ ?_ | (with_reducible first | refine brT fun h => ?_ | refine brF fun h => ?_ | refine Br.mk (fun h => ?_) fun h => ?_) <;> (try simp only [bsl, beq_iff_eq, bne_iff_ne, bs2] at h) <;> (try contradiction) <;> try (exfalso; omega))
    exact ⟨⟨rfl, rfl, Nat.le_refl _, rfl, fun i hi => by rw [show i = 0 from Nat.lt_one_iff.1 hi]; rfl⟩, True.intro⟩
  · rw [partsI, if_neg h1]
    repeat' (first | with_reducible refine Sq.go ?_ | ((with_reducible refine Ev.mk ?_); conv => whnf) | with_reducible refine Dr.mk ⟨by kernel_rfl, by kernel_rfl⟩ ?_ | with_reducible refine obG ?_ | with_reducible refine Ob.mk ?_ ?_ | (with_reducible first | refine brT fun h => ?_ | refine brF fun h => ?_ | refine Br.mk (fun h => ?_) fun h => ?_) <;> (try simp only [bsl, beq_iff_eq, bne_iff_ne, bs2] at h) <;> (try contradiction) <;> try (exfalso; omega))
    exact ⟨⟨rfl, rfl, Nat.le_refl _, rfl, fun i hi => by
      have hi : i < 2 := hi
      rcases show i = 0 ∨ i = 1 by omega with rfl | rfl <;> rfl⟩, True.intro⟩
end Go.Proofs.YtfbjlakcolipaaaDoor
