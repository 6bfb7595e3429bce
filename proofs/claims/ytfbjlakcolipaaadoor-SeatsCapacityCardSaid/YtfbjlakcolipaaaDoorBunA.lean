/-
  Bundles: Check, and the reference's.
-/
import Derived.Test.YtfbjlakcolipaaaDoorSecF
namespace Go.Proofs.YtfbjlakcolipaaaDoor
set_option linter.unusedSimpArgs false
set_option linter.unusedVariables false
open Go Go.Ab
set_option maxRecDepth 100000
set_option maxHeartbeats 0
structure Bun where
  sec : Int
  lab : Int
  deriving Inhabited, DecidableEq
def eBun (b : Bun) : List D := [.int .i64 b.sec, .int .i64 b.lab]
def eBuns (xs : List Bun) : D := .sl 2 xs.length fun i => eBun (xs.getD i default)
structure Seat where
  student : Int
  sec : Int
  group : Int
  deriving Inhabited, DecidableEq
def eSeat (b : Seat) : List D := [.int .i64 b.student, .int .i64 b.sec, .int .i64 b.group]
def eSeats (xs : List Seat) : D := .sl 3 xs.length fun i => eSeat (xs.getD i default)
theorem idxInt_ok (xs : List Int) (hx : xs.length ≤ 1000000) (v : Int) : Pure Tryd.prog 52 [eInts xs, .int .i64 v] [.int .i64 (ix (fun s => decide (v = s)) xs 0)] := by
  refine pure_rule hT (T := tab) (N := 19) (rs := [.tmp 4]) Tryd.func52 rfl rfl rfl (by kernel_rfl) rfl ?_
  repeat' (first | with_reducible refine Sq.go ?_ | ((with_reducible refine Ev.mk ?_); conv => whnf) | with_reducible refine Dr.mk ⟨by kernel_rfl, by kernel_rfl⟩ ?_ | with_reducible refine obG ?_ | with_reducible refine Ob.mk ?_ ?_ | (with_reducible first | refine brT fun h => ?_ | refine brF fun h => ?_ | refine Br.mk (fun h => ?_) fun h => ?_) <;> (try simp only [bsl, beq_iff_eq, bne_iff_ne, bs2] at h) <;> (try contradiction) <;> try (exfalso; omega))
  refine loop_rule hT (S := Nat) (fun k => ([(0, .d (eInts xs)), (1, .d (.int .i64 v)), (7, .d (.int .i64 xs.length)), (8, .d (.int .i64 k))], ⟨[], []⟩)) (fun k => k ≤ xs.length ∧ ix (fun s => decide (v = s)) xs 0 = ix (fun s => decide (v = s)) (xs.drop k) k) (fun k => xs.length - k) 0 ?_ ?_ ?_
  · repeat' (first | exact True.intro | exact rfl | exact Nat.le_refl _ | refine And.intro ?_ ?_)
  · exact ⟨Nat.zero_le _, rfl⟩
  · rintro k ⟨hk, hc⟩
    repeat' (first | with_reducible refine Sq.go ?_ | ((with_reducible refine Ev.mk ?_); conv => whnf) | with_reducible refine Dr.mk ⟨by kernel_rfl, by kernel_rfl⟩ ?_ | with_reducible refine obG ?_ | with_reducible refine Ob.mk ?_ ?_ | (with_reducible first | refine brT fun h => ?_ | refine brF fun h => ?_ | refine Br.mk (fun h => ?_) fun h => ?_) <;> (try simp only [bsl, beq_iff_eq, bne_iff_ne, bs2] at h) <;> (try contradiction) <;> try (exfalso; omega))
    · refine ⟨congrArg (D.int .i64) ?_, True.intro⟩
      rw [hc, drop_at (by omega), ix, if_pos (decide_eq_true h)]
    · refine ⟨k + 1, ⟨by show k + 1 ≤ xs.length; omega, ?_⟩, by show xs.length - (k + 1) < xs.length - k; omega, ?_⟩
      · rw [hc, drop_at (by omega), ix, if_neg (by simpa using h)]
        rfl
      · repeat' (first | exact True.intro | exact rfl | exact Nat.le_refl _ | refine And.intro ?_ ?_)
    · refine ⟨congrArg (D.int .i64) ?_, True.intro⟩
      have : k = xs.length := by omega
      rw [hc]
      simp [this, ix]
theorem hasInt_ok (xs : List Int) (hx : xs.length ≤ 1000000) (v : Int) : Pure Tryd.prog 37 [eInts xs, .int .i64 v] [.bool (decide (v ∈ xs))] := by
  refine pure_rule hT (T := tab) (N := 9) (rs := [.tmp 4]) Tryd.func37 rfl rfl rfl (by kernel_rfl) rfl ?_
  repeat' (first | with_reducible refine Sq.go ?_ | ((with_reducible refine Ev.mk ?_); conv => whnf) | with_reducible refine Dr.mk ⟨by kernel_rfl, by kernel_rfl⟩ ?_ | with_reducible refine obG ?_ | with_reducible refine Ob.mk ?_ ?_ | (with_reducible first | refine brT fun h => ?_ | refine brF fun h => ?_ | refine Br.mk (fun h => ?_) fun h => ?_) <;> (try simp only [bsl, beq_iff_eq, bne_iff_ne, bs2] at h) <;> (try contradiction) <;> try (exfalso; omega))
  refine (idxInt_ok xs hx v).call ?_
  repeat' (first | with_reducible refine Sq.go ?_ | ((with_reducible refine Ev.mk ?_); conv => whnf) | with_reducible refine Dr.mk ⟨by kernel_rfl, by kernel_rfl⟩ ?_ | with_reducible refine obG ?_ | with_reducible refine Ob.mk ?_ ?_ | (with_reducible first | refine brT fun h => ?_ | refine brF fun h => ?_ | refine Br.mk (fun h => ?_) fun h => ?_) <;> (try simp only [bsl, beq_iff_eq, bne_iff_ne, bs2] at h) <;> (try contradiction) <;> try (exfalso; omega))
  refine ⟨congrArg D.bool ?_, True.intro⟩
  rw [ix_ge (fun s => decide (v = s)) xs 0 (by omega)]
  exact any_mem v xs
theorem find_none {l : List Sec} (hx : l.length ≤ 1000000) {n : Int} (h : findS l n = none) : Pure Tryd.prog 20 [eSecs l, .int .i64 n] [.agg (eSec default), .bool false] := by
  have := find_ok l hx n
  rw [h] at this
  exact this
theorem find_some {l : List Sec} (hx : l.length ≤ 1000000) {n : Int} {s : Sec} (h : findS l n = some s) : Pure Tryd.prog 20 [eSecs l, .int .i64 n] [.agg (eSec s), .bool true] := by
  have := find_ok l hx n
  rw [h] at this
  exact this
theorem findS_id {l : List Sec} {n : Int} {s : Sec} (h : findS l n = some s) : s.id = n ∧ s ∈ l := by
  have h1 := List.find?_some h
  exact ⟨by simpa using h1, List.mem_of_find?_eq_some h⟩
/-- May the second section be the lab of the first? -/
def labOk (s x : Sec) (n : Int) : Bool := decide (n ∈ s.labs) && (x.lab && decide (x.term = s.term))
def bchk (l : List Sec) (b : Bun) : Int :=
  if chkAll l = 0 then
    match findS l b.sec with
    | none => 240
    | some s => if s.lab = true then 240 else if s.labs.length = 0 ∧ b.lab = -1 then 0 else
      match findS l b.lab with
      | none => 240
      | some x => if labOk s x b.lab = true then (if clashB s.meets x.meets = true then 240 else 0) else 240
  else chkAll l
theorem few_at {l : List Sec} (hl : fewS l) {s : Sec} (h : s ∈ l) : s.groups.length ≤ 1000 ∧ s.labs.length ≤ 1000 ∧ s.meets.length ≤ 1000 := hl.2 s h
theorem bcheck_ok (l : List Sec) (hl : fewS l) (b : Bun) : Pure Tryd.prog 17 [eSecs l, .agg (eBun b)] [.int .i64 (bchk l b)] := by
  refine pure_rule hT (T := tab) (N := 77) (rs := [.tmp 4]) Tryd.func17 rfl rfl rfl (by kernel_rfl) rfl ?_
  have hln : l.length ≤ 1000000 := by have := hl.1; omega
  by_cases h0 : chkAll l = 0
  · have hA := checkAll'_ok l hl
    rw [h0] at hA
    cases h1 : findS l b.sec with
    | none =>
      have hF := find_none hln h1
      repeat' (first | with_reducible refine Sq.go ?_ | ((with_reducible refine Ev.mk ?_); conv => whnf) | with_reducible refine Dr.mk ⟨by kernel_rfl, by kernel_rfl⟩ ?_ | with_reducible refine obG ?_ | with_reducible refine Ob.mk ?_ ?_ | (with_reducible first | refine brT fun h => ?_ | refine brF fun h => ?_ | refine Br.mk (fun h => ?_) fun h => ?_) <;> (try simp only [bsl, beq_iff_eq, bne_iff_ne, bs2] at h) <;> (try contradiction) <;> try (exfalso; omega))
      refine hA.call ?_
      repeat' (first | with_reducible refine Sq.go ?_ | ((with_reducible refine Ev.mk ?_); conv => whnf) | with_reducible refine Dr.mk ⟨by kernel_rfl, by kernel_rfl⟩ ?_ | with_reducible refine obG ?_ | with_reducible refine Ob.mk ?_ ?_ | (with_reducible first | refine brT fun h => ?_ | refine brF fun h => ?_ | refine Br.mk (fun h => ?_) fun h => ?_) <;> (try simp only [bsl, beq_iff_eq, bne_iff_ne, bs2] at h) <;> (try contradiction) <;> try (exfalso; omega))
      refine hF.call ?_
      repeat' (first | with_reducible refine Sq.go ?_ | ((with_reducible refine Ev.mk ?_); conv => whnf) | with_reducible refine Dr.mk ⟨by kernel_rfl, by kernel_rfl⟩ ?_ | with_reducible refine obG ?_ | with_reducible refine Ob.mk ?_ ?_ | (with_reducible first | refine brT fun h => ?_ | refine brF fun h => ?_ | refine Br.mk (fun h => ?_) fun h => ?_) <;> (try simp only [bsl, beq_iff_eq, bne_iff_ne, bs2] at h) <;> (try contradiction) <;> try (exfalso; omega))
      rw [show bchk l b = 240 by simp [bchk, h0, h1]]
      exact ⟨rfl, True.intro⟩
    | some s =>
      have hF := find_some hln h1
      obtain ⟨hid, hmem⟩ := findS_id h1
      obtain ⟨hs1, hs2, hs3⟩ := few_at hl hmem
      cases hlab : s.lab
      · have hlab2 : ¬ s.lab = true := by simp [hlab]
        by_cases hno : s.labs.length = 0 ∧ b.lab = -1
        · have hb : bchk l b = 0 := by
            simp only [bchk, h0, h1, if_true]
            rw [if_neg hlab2, if_pos hno]
          obtain ⟨hno1, hno2⟩ := hno
          have hno3 : ((s.labs.length : Nat) : Int) = 0 := by omega
          repeat' (first | with_reducible refine Sq.go ?_ | ((with_reducible refine Ev.mk ?_); conv => whnf) | with_reducible refine Dr.mk ⟨by kernel_rfl, by kernel_rfl⟩ ?_ | with_reducible refine obG ?_ | with_reducible refine Ob.mk ?_ ?_ | (with_reducible first | refine brT fun h => ?_ | refine brF fun h => ?_ | refine Br.mk (fun h => ?_) fun h => ?_) <;> (try simp only [bsl, beq_iff_eq, bne_iff_ne, bs2] at h) <;> (try contradiction) <;> try (exfalso; omega))
          refine hA.call ?_
          repeat' (first | with_reducible refine Sq.go ?_ | ((with_reducible refine Ev.mk ?_); conv => whnf) | with_reducible refine Dr.mk ⟨by kernel_rfl, by kernel_rfl⟩ ?_ | with_reducible refine obG ?_ | with_reducible refine Ob.mk ?_ ?_ | (with_reducible first | refine brT fun h => ?_ | refine brF fun h => ?_ | refine Br.mk (fun h => ?_) fun h => ?_) <;> (try simp only [bsl, beq_iff_eq, bne_iff_ne, bs2] at h) <;> (try contradiction) <;> try (exfalso; omega))
          refine hF.call ?_
          repeat' (first | with_reducible refine Sq.go ?_ | ((with_reducible refine Ev.mk ?_); conv => whnf) | with_reducible refine Dr.mk ⟨by kernel_rfl, by kernel_rfl⟩ ?_ | with_reducible refine obG ?_ | with_reducible refine Ob.mk ?_ ?_ | (with_reducible first | refine brT fun h => ?_ | refine brF fun h => ?_ | refine Br.mk (fun h => ?_) fun h => ?_) <;> (try simp only [bsl, beq_iff_eq, bne_iff_ne, bs2] at h) <;> (try contradiction) <;> try (exfalso; omega))
          rw [hb]
          exact ⟨rfl, True.intro⟩
        · cases h2 : findS l b.lab with
          | none =>
            have hF2 := find_none hln h2
            have hb : bchk l b = 240 := by
              simp only [bchk, h0, h1, h2, if_true]
              rw [if_neg hlab2, if_neg hno]
            rw [hb]
            repeat' (first | with_reducible refine Sq.go ?_ | ((with_reducible refine Ev.mk ?_); conv => whnf) | with_reducible refine Dr.mk ⟨by kernel_rfl, by kernel_rfl⟩ ?_ | with_reducible refine obG ?_ | with_reducible refine Ob.mk ?_ ?_ | (with_reducible first | refine brT fun h => ?_ | refine brF fun h => ?_ | refine Br.mk (fun h => ?_) fun h => ?_) <;> (try simp only [bsl, beq_iff_eq, bne_iff_ne, bs2] at h) <;> (try contradiction) <;> try (exfalso; omega))
            refine hA.call ?_
            repeat' (first | with_reducible refine Sq.go ?_ | ((with_reducible refine Ev.mk ?_); conv => whnf) | with_reducible refine Dr.mk ⟨by kernel_rfl, by kernel_rfl⟩ ?_ | with_reducible refine obG ?_ | with_reducible refine Ob.mk ?_ ?_ | (with_reducible first | refine brT fun h => ?_ | refine brF fun h => ?_ | refine Br.mk (fun h => ?_) fun h => ?_) <;> (try simp only [bsl, beq_iff_eq, bne_iff_ne, bs2] at h) <;> (try contradiction) <;> try (exfalso; omega))
            refine hF.call ?_
            repeat' (first | with_reducible refine Sq.go ?_ | ((with_reducible refine Ev.mk ?_); conv => whnf) | with_reducible refine Dr.mk ⟨by kernel_rfl, by kernel_rfl⟩ ?_ | with_reducible refine obG ?_ | with_reducible refine Ob.mk ?_ ?_ | (with_reducible first | refine brT fun h => ?_ | refine brF fun h => ?_ | refine Br.mk (fun h => ?_) fun h => ?_) <;> (try simp only [bsl, beq_iff_eq, bne_iff_ne, bs2] at h) <;> (try contradiction) <;> try (exfalso; omega))
            refine hF2.call ?_
            repeat' (first | with_reducible refine Sq.go ?_ | ((with_reducible refine Ev.mk ?_); conv => whnf) | with_reducible refine Dr.mk ⟨by kernel_rfl, by kernel_rfl⟩ ?_ | with_reducible refine obG ?_ | with_reducible refine Ob.mk ?_ ?_ | (with_reducible first | refine brT fun h => ?_ | refine brF fun h => ?_ | refine Br.mk (fun h => ?_) fun h => ?_) <;> (try simp only [bsl, beq_iff_eq, bne_iff_ne, bs2] at h) <;> (try contradiction) <;> try (exfalso; omega))
            exact ⟨rfl, True.intro⟩
          | some x =>
            have hF2 := find_some hln h2
            obtain ⟨hid2, hmem2⟩ := findS_id h2
            obtain ⟨hx1, hx2, hx3⟩ := few_at hl hmem2
            have hb : bchk l b = if labOk s x b.lab = true then (if clashB s.meets x.meets = true then 240 else 0) else 240 := by
              simp only [bchk, h0, h1, h2, if_true]
              rw [if_neg hlab2, if_neg hno]
            rw [hb]
            repeat' (first | with_reducible refine Sq.go ?_ | ((with_reducible refine Ev.mk ?_); conv => whnf) | with_reducible refine Dr.mk ⟨by kernel_rfl, by kernel_rfl⟩ ?_ | with_reducible refine obG ?_ | with_reducible refine Ob.mk ?_ ?_ | (with_reducible first | refine brT fun h => ?_ | refine brF fun h => ?_ | refine Br.mk (fun h => ?_) fun h => ?_) <;> (try simp only [bsl, beq_iff_eq, bne_iff_ne, bs2] at h) <;> (try contradiction) <;> try (exfalso; omega))
            refine hA.call ?_
            repeat' (first | with_reducible refine Sq.go ?_ | ((with_reducible refine Ev.mk ?_); conv => whnf) | with_reducible refine Dr.mk ⟨by kernel_rfl, by kernel_rfl⟩ ?_ | with_reducible refine obG ?_ | with_reducible refine Ob.mk ?_ ?_ | (with_reducible first | refine brT fun h => ?_ | refine brF fun h => ?_ | refine Br.mk (fun h => ?_) fun h => ?_) <;> (try simp only [bsl, beq_iff_eq, bne_iff_ne, bs2] at h) <;> (try contradiction) <;> try (exfalso; omega))
            refine hF.call ?_
            repeat' (first | with_reducible refine Sq.go ?_ | ((with_reducible refine Ev.mk ?_); conv => whnf) | with_reducible refine Dr.mk ⟨by kernel_rfl, by kernel_rfl⟩ ?_ | with_reducible refine obG ?_ | with_reducible refine Ob.mk ?_ ?_ | (with_reducible first | refine brT fun h => ?_ | refine brF fun h => ?_ | refine Br.mk (fun h => ?_) fun h => ?_) <;> (try simp only [bsl, beq_iff_eq, bne_iff_ne, bs2] at h) <;> (try contradiction) <;> try (exfalso; omega))
            refine hF2.call ?_
            repeat' (first | with_reducible refine Sq.go ?_ | ((with_reducible refine Ev.mk ?_); conv => whnf) | with_reducible refine Dr.mk ⟨by kernel_rfl, by kernel_rfl⟩ ?_ | with_reducible refine obG ?_ | with_reducible refine Ob.mk ?_ ?_ | (with_reducible first | refine brT fun h => ?_ | refine brF fun h => ?_ | refine Br.mk (fun h => ?_) fun h => ?_) <;> (try simp only [bsl, beq_iff_eq, bne_iff_ne, bs2] at h) <;> (try contradiction) <;> try (exfalso; omega))
            refine callB (hasInt_ok s.labs (by omega) b.lab) (fun hw => ?_) (fun hw => ?_)
            · rw [decide_eq_false_iff_not] at hw
              repeat' (first | with_reducible refine Sq.go ?_ | ((with_reducible refine Ev.mk ?_); conv => whnf) | with_reducible refine Dr.mk ⟨by kernel_rfl, by kernel_rfl⟩ ?_ | with_reducible refine obG ?_ | with_reducible refine Ob.mk ?_ ?_ | (with_reducible first | refine brT fun h => ?_ | refine brF fun h => ?_ | refine Br.mk (fun h => ?_) fun h => ?_) <;> (try simp only [bsl, beq_iff_eq, bne_iff_ne, bs2] at h) <;> (try contradiction) <;> try (exfalso; omega))
              rw [if_neg (by simp [labOk, hw])]
              exact ⟨rfl, True.intro⟩
            · rw [decide_eq_true_iff] at hw
              by_cases hk : labOk s x b.lab = true
              · have hk' := hk
                simp only [labOk, Bool.and_eq_true, decide_eq_true_eq] at hk'
                obtain ⟨_, hk2, hk3⟩ := hk'
                have hk4 : ¬ x.lab = false := by simp [hk2]
                rw [if_pos hk]
                have hM := mclash_ok s.meets x.meets hs3 hx3
                repeat' (first | with_reducible refine Sq.go ?_ | ((with_reducible refine Ev.mk ?_); conv => whnf) | with_reducible refine Dr.mk ⟨by kernel_rfl, by kernel_rfl⟩ ?_ | with_reducible refine obG ?_ | with_reducible refine Ob.mk ?_ ?_ | (with_reducible first | refine brT fun h => ?_ | refine brF fun h => ?_ | refine Br.mk (fun h => ?_) fun h => ?_) <;> (try simp only [bsl, beq_iff_eq, bne_iff_ne, bs2] at h) <;> (try contradiction) <;> try (exfalso; omega))
                · exact absurd hk3 (h.resolve_left hk4)
                cases hc : clashB s.meets x.meets
                · rw [hc] at hM
                  refine hM.call ?_
                  repeat' (first | with_reducible refine Sq.go ?_ | ((with_reducible refine Ev.mk ?_); conv => whnf) | with_reducible refine Dr.mk ⟨by kernel_rfl, by kernel_rfl⟩ ?_ | with_reducible refine obG ?_ | with_reducible refine Ob.mk ?_ ?_ | (with_reducible first | refine brT fun h => ?_ | refine brF fun h => ?_ | refine Br.mk (fun h => ?_) fun h => ?_) <;> (try simp only [bsl, beq_iff_eq, bne_iff_ne, bs2] at h) <;> (try contradiction) <;> try (exfalso; omega))
                  exact ⟨rfl, True.intro⟩
                · rw [hc] at hM
                  refine hM.call ?_
                  repeat' (first | with_reducible refine Sq.go ?_ | ((with_reducible refine Ev.mk ?_); conv => whnf) | with_reducible refine Dr.mk ⟨by kernel_rfl, by kernel_rfl⟩ ?_ | with_reducible refine obG ?_ | with_reducible refine Ob.mk ?_ ?_ | (with_reducible first | refine brT fun h => ?_ | refine brF fun h => ?_ | refine Br.mk (fun h => ?_) fun h => ?_) <;> (try simp only [bsl, beq_iff_eq, bne_iff_ne, bs2] at h) <;> (try contradiction) <;> try (exfalso; omega))
                  exact ⟨rfl, True.intro⟩
              · rw [if_neg hk]
                have hk2 : x.lab = true → ¬ x.term = s.term := fun h1 h2 => hk (by simp [labOk, hw, h1, h2])
                repeat' (first | with_reducible refine Sq.go ?_ | ((with_reducible refine Ev.mk ?_); conv => whnf) | with_reducible refine Dr.mk ⟨by kernel_rfl, by kernel_rfl⟩ ?_ | with_reducible refine obG ?_ | with_reducible refine Ob.mk ?_ ?_ | (with_reducible first | refine brT fun h => ?_ | refine brF fun h => ?_ | refine Br.mk (fun h => ?_) fun h => ?_) <;> (try simp only [bsl, beq_iff_eq, bne_iff_ne, bs2] at h) <;> (try contradiction) <;> try (exfalso; omega))
                · exact ⟨rfl, True.intro⟩
                · exact absurd h.2 (hk2 h.1)
      · have hlab2 : ¬ s.lab = false := by simp [hlab]
        repeat' (first | with_reducible refine Sq.go ?_ | ((with_reducible refine Ev.mk ?_); conv => whnf) | with_reducible refine Dr.mk ⟨by kernel_rfl, by kernel_rfl⟩ ?_ | with_reducible refine obG ?_ | with_reducible refine Ob.mk ?_ ?_ | (with_reducible first | refine brT fun h => ?_ | refine brF fun h => ?_ | refine Br.mk (fun h => ?_) fun h => ?_) <;> (try simp only [bsl, beq_iff_eq, bne_iff_ne, bs2] at h) <;> (try contradiction) <;> try (exfalso; omega))
        refine hA.call ?_
        repeat' (first | with_reducible refine Sq.go ?_ | ((with_reducible refine Ev.mk ?_); conv => whnf) | with_reducible refine Dr.mk ⟨by kernel_rfl, by kernel_rfl⟩ ?_ | with_reducible refine obG ?_ | with_reducible refine Ob.mk ?_ ?_ | (with_reducible first | refine brT fun h => ?_ | refine brF fun h => ?_ | refine Br.mk (fun h => ?_) fun h => ?_) <;> (try simp only [bsl, beq_iff_eq, bne_iff_ne, bs2] at h) <;> (try contradiction) <;> try (exfalso; omega))
        refine hF.call ?_
        repeat' (first | with_reducible refine Sq.go ?_ | ((with_reducible refine Ev.mk ?_); conv => whnf) | with_reducible refine Dr.mk ⟨by kernel_rfl, by kernel_rfl⟩ ?_ | with_reducible refine obG ?_ | with_reducible refine Ob.mk ?_ ?_ | (with_reducible first | refine brT fun h => ?_ | refine brF fun h => ?_ | refine Br.mk (fun h => ?_) fun h => ?_) <;> (try simp only [bsl, beq_iff_eq, bne_iff_ne, bs2] at h) <;> (try contradiction) <;> try (exfalso; omega))
        rw [show bchk l b = 240 by simp [bchk, h0, h1, hlab]]
        exact ⟨rfl, True.intro⟩
  · have hA := checkAll'_ok l hl
    repeat' (first | with_reducible refine Sq.go ?_ | ((with_reducible refine Ev.mk ?_); conv => whnf) | with_reducible refine Dr.mk ⟨by kernel_rfl, by kernel_rfl⟩ ?_ | with_reducible refine obG ?_ | with_reducible refine Ob.mk ?_ ?_ | (with_reducible first | refine brT fun h => ?_ | refine brF fun h => ?_ | refine Br.mk (fun h => ?_) fun h => ?_) <;> (try simp only [bsl, beq_iff_eq, bne_iff_ne, bs2] at h) <;> (try contradiction) <;> try (exfalso; omega))
    refine hA.call ?_
    repeat' (first | with_reducible refine Sq.go ?_ | ((with_reducible refine Ev.mk ?_); conv => whnf) | with_reducible refine Dr.mk ⟨by kernel_rfl, by kernel_rfl⟩ ?_ | with_reducible refine obG ?_ | with_reducible refine Ob.mk ?_ ?_ | (with_reducible first | refine brT fun h => ?_ | refine brF fun h => ?_ | refine Br.mk (fun h => ?_) fun h => ?_) <;> (try simp only [bsl, beq_iff_eq, bne_iff_ne, bs2] at h) <;> (try contradiction) <;> try (exfalso; omega))
    rw [show bchk l b = chkAll l by simp [bchk, h0]]
    exact ⟨rfl, True.intro⟩
end Go.Proofs.YtfbjlakcolipaaaDoor
