/-
  Swaps: the law that each gets what it wanted.
-/
import Derived.Test.YtnhadilbebgbjaaSwapZO
import Derived.Test.YtnhadilbebgbjaaFrz
namespace Go.Proofs.Ytnhadilbebgbjaa
set_option linter.unusedSimpArgs false
set_option linter.unusedVariables false
open Go Go.Ab
set_option maxRecDepth 100000
set_option maxHeartbeats 0
theorem has30_ok (x : List Seat) (hx : x.length ≤ 1000000) (st sec : Int) : Pure Try.prog 26 [.int .i64 st, .int .i64 sec, .pt [eSeats x] 0] [.bool (x.any (seatB st sec))] := by
  refine pure_rule hT (T := tab) (N := 25) (rs := [.tmp 5]) Try.func26 rfl rfl rfl (by kernel_rfl) rfl ?_
  repeat' (first | with_reducible refine Sq.go ?_ | ((with_reducible refine Ev.mk ?_); conv => whnf) | with_reducible refine Dr.mk ⟨by kernel_rfl, by kernel_rfl⟩ ?_ | with_reducible refine obG ?_ | with_reducible refine Ob.mk ?_ ?_ | (with_reducible first | refine brT fun h => ?_ | refine brF fun h => ?_ | refine Br.mk (fun h => ?_) fun h => ?_) <;> (try simp only [bsl, beq_iff_eq, bne_iff_ne, bs2] at h) <;> (try contradiction) <;> try (exfalso; omega))
  refine loop_rule hT (S := Nat) (fun k => ([(0, .d (.int .i64 st)), (1, .d (.int .i64 sec)), (8, .d (eSeats x)), (9, .d (.int .i64 x.length)), (10, .d (.int .i64 k))], ⟨[], []⟩)) (fun k => k ≤ x.length ∧ x.any (seatB st sec) = (x.drop k).any (seatB st sec)) (fun k => x.length - k) 0 ?_ ?_ ?_
  · repeat' (first | exact True.intro | exact rfl | exact Nat.le_refl _ | refine And.intro ?_ ?_)
  · exact ⟨Nat.zero_le _, rfl⟩
  · rintro k ⟨hk, hc⟩
    by_cases hk2 : k < x.length
    · rw [drop_at hk2, List.any_cons] at hc
      by_cases h1 : (x.getD k default).student = st ∧ (x.getD k default).sec = sec
      · rw [seatB_iff.2 h1, Bool.true_or] at hc
        rw [hc]
        repeat' (first | with_reducible refine Sq.go ?_ | ((with_reducible refine Ev.mk ?_); conv => whnf) | with_reducible refine Dr.mk ⟨by kernel_rfl, by kernel_rfl⟩ ?_ | with_reducible refine obG ?_ | with_reducible refine Ob.mk ?_ ?_ | (with_reducible first | refine brT fun h => ?_ | refine brF fun h => ?_ | refine Br.mk (fun h => ?_) fun h => ?_) <;> (try simp only [bsl, beq_iff_eq, bne_iff_ne, bs2] at h) <;> (try contradiction) <;> try (exfalso; omega))
        exact ⟨rfl, True.intro⟩
      · rw [show seatB st sec (x.getD k default) = false from Bool.eq_false_iff.2 fun h => h1 (seatB_iff.1 h), Bool.false_or] at hc
        repeat' (first | with_reducible refine Sq.go ?_ | ((with_reducible refine Ev.mk ?_); conv => whnf) | with_reducible refine Dr.mk ⟨by kernel_rfl, by kernel_rfl⟩ ?_ | with_reducible refine obG ?_ | with_reducible refine Ob.mk ?_ ?_ | (with_reducible first | refine brT fun h => ?_ | refine brF fun h => ?_ | refine Br.mk (fun h => ?_) fun h => ?_) <;> (try simp only [bsl, beq_iff_eq, bne_iff_ne, bs2] at h) <;> (try contradiction) <;> try (exfalso; omega))
        all_goals
          refine ⟨k + 1, ⟨by show k + 1 ≤ x.length; omega, hc⟩, by show x.length - (k + 1) < x.length - k; omega, ?_⟩
          repeat' (first | exact True.intro | exact rfl | exact Nat.le_refl _ | refine And.intro ?_ ?_)
    · rw [drop_end (by omega)] at hc
      rw [hc]
      repeat' (first | with_reducible refine Sq.go ?_ | ((with_reducible refine Ev.mk ?_); conv => whnf) | with_reducible refine Dr.mk ⟨by kernel_rfl, by kernel_rfl⟩ ?_ | with_reducible refine obG ?_ | with_reducible refine Ob.mk ?_ ?_ | (with_reducible first | refine brT fun h => ?_ | refine brF fun h => ?_ | refine Br.mk (fun h => ?_) fun h => ?_) <;> (try simp only [bsl, beq_iff_eq, bne_iff_ne, bs2] at h) <;> (try contradiction) <;> try (exfalso; omega))
      exact ⟨rfl, True.intro⟩
theorem secs30_ok (b : Bun) : Pure Try.prog 27 [.agg (eBun b)] [eInts (partsI b)] := by
  refine pure_rule hT (T := tab) (N := 14) (rs := [.tmp 2]) Try.func27 rfl rfl rfl (by kernel_rfl) rfl ?_
  by_cases h1 : b.lab = -1
  · rw [partsI, if_pos h1]
    repeat' (first | with_reducible refine Sq.go ?_ | ((with_reducible refine Ev.mk ?_); conv => whnf) | with_reducible refine Dr.mk ⟨by kernel_rfl, by kernel_rfl⟩ ?_ | with_reducible refine obG ?_ | with_reducible refine Ob.mk ?_ ?_ | (with_reducible first | refine brT fun h => ?_ | refine brF fun h => ?_ | refine Br.mk (fun h => ?_) fun h => ?_) <;> (try simp only [bsl, beq_iff_eq, bne_iff_ne, bs2] at h) <;> (try contradiction) <;> try (exfalso; omega))
    exact ⟨⟨rfl, rfl, Nat.le_refl _, rfl, fun i hi => by rw [show i = 0 from Nat.lt_one_iff.1 hi]; rfl⟩, True.intro⟩
  · rw [partsI, if_neg h1]
    repeat' (first | with_reducible refine Sq.go ?_ | ((with_reducible refine Ev.mk ?_); conv => whnf) | with_reducible refine Dr.mk ⟨by kernel_rfl, by kernel_rfl⟩ ?_ | with_reducible refine obG ?_ | with_reducible refine Ob.mk ?_ ?_ | (with_reducible first | refine brT fun h => ?_ | refine brF fun h => ?_ | refine Br.mk (fun h => ?_) fun h => ?_) <;> (try simp only [bsl, beq_iff_eq, bne_iff_ne, bs2] at h) <;> (try contradiction) <;> try (exfalso; omega))
    exact ⟨⟨rfl, rfl, Nat.le_refl _, rfl, fun i hi => by
      have hi : i < 2 := hi
      rcases show i = 0 ∨ i = 1 by omega with rfl | rfl <;> rfl⟩, True.intro⟩
def hasL (keys : List (List Int)) : List Int → Bool := fun key => keys.any fun a => decide (key = a)
theorem hasL_snoc (keys : List (List Int)) (k key : List Int) : (decide (key = k) || hasL keys key) = hasL (keys ++ [k]) key := by
  unfold hasL
  rw [List.any_append, List.any_cons, List.any_nil, Bool.or_false, Bool.or_comm]
/-- What a swap gets: its student, and each section of what it takes. -/
def getK (l : List Swap) (w : List Int) (k : Nat) : List (List Int) := (partsI (swA l w k).take).map fun n => [(swA l w k).student, n]
def allK (l : List Swap) (w : List Int) (k : Nat) : List (List Int) := (List.range k).flatMap (getK l w)
theorem allK_succ (l : List Swap) (w : List Int) (k : Nat) : allK l w (k + 1) = allK l w k ++ getK l w k := by
  unfold allK
  rw [List.range_succ, List.flatMap_append, List.flatMap_cons, List.flatMap_nil, List.append_nil]
theorem mem_allK {l : List Swap} {w : List Int} {k : Nat} {key : List Int} : key ∈ allK l w k ↔ ∃ j, j < k ∧ ∃ n ∈ partsI (swA l w j).take, key = [(swA l w j).student, n] := by
  simp only [allK, List.mem_flatMap, List.mem_range, getK, List.mem_map]
  constructor
  · rintro ⟨j, hj, n, hn, rfl⟩
    exact ⟨j, hj, n, hn, rfl⟩
  · rintro ⟨j, hj, n, hn, rfl⟩
    exact ⟨j, hj, n, hn, rfl⟩
theorem hasL_iff {keys : List (List Int)} {key : List Int} : hasL keys key = true ↔ key ∈ keys := by
  unfold hasL
  rw [List.any_eq_true]
  constructor
  · rintro ⟨a, ha, h⟩
    rw [of_decide_eq_true h]
    exact ha
  · exact fun h => ⟨key, h, decide_eq_true rfl⟩
theorem partsI_len (b : Bun) : (partsI b).length ≤ 2 := by unfold partsI; split <;> simp
theorem get_ok (hS : Pure Try.prog 10 [] [.bool true]) (hE : ∀ (taken : List Seat) (_ : taken.length ≤ 1000) (l : List Swap) (_ : l.length ≤ 1000) (w : List Int) (_ : w.length ≤ 1000000), Pure Try.prog 22 [eSeats taken, eSwaps l, eInts w] [eSeats (exX taken l w), eSwaps (exR taken l w), .int .i64 (exE taken l w)])
    (taken : List Seat) (l : List Swap) : Pure Try.prog 8 [eSeats taken, eSwaps l] [.bool true] := by
  refine pure_rule hT (T := tab) (N := 137) (rs := [.tmp 4]) Try.func8 rfl rfl rfl (by kernel_rfl) rfl ?_
  have hF := few30_ok l
  by_cases h20 : l.length ≤ 20
  rotate_left
  · rw [decide_eq_false h20] at hF
    repeat' (first | with_reducible refine Sq.go ?_ | ((with_reducible refine Ev.mk ?_); conv => whnf) | with_reducible refine Dr.mk ⟨by kernel_rfl, by kernel_rfl⟩ ?_ | with_reducible refine obG ?_ | with_reducible refine Ob.mk ?_ ?_ | (with_reducible first | refine brT fun h => ?_ | refine brF fun h => ?_ | refine Br.mk (fun h => ?_) fun h => ?_) <;> (try simp only [bsl, beq_iff_eq, bne_iff_ne, bs2] at h) <;> (try contradiction) <;> try (exfalso; omega))
    refine hS.call ?_
    repeat' (first | with_reducible refine Sq.go ?_ | ((with_reducible refine Ev.mk ?_); conv => whnf) | with_reducible refine Dr.mk ⟨by kernel_rfl, by kernel_rfl⟩ ?_ | with_reducible refine obG ?_ | with_reducible refine Ob.mk ?_ ?_ | (with_reducible first | refine brT fun h => ?_ | refine brF fun h => ?_ | refine Br.mk (fun h => ?_) fun h => ?_) <;> (try simp only [bsl, beq_iff_eq, bne_iff_ne, bs2] at h) <;> (try contradiction) <;> try (exfalso; omega))
    refine hF.call ?_
    repeat' (first | with_reducible refine Sq.go ?_ | ((with_reducible refine Ev.mk ?_); conv => whnf) | with_reducible refine Dr.mk ⟨by kernel_rfl, by kernel_rfl⟩ ?_ | with_reducible refine obG ?_ | with_reducible refine Ob.mk ?_ ?_ | (with_reducible first | refine brT fun h => ?_ | refine brF fun h => ?_ | refine Br.mk (fun h => ?_) fun h => ?_) <;> (try simp only [bsl, beq_iff_eq, bne_iff_ne, bs2] at h) <;> (try contradiction) <;> try (exfalso; omega))
    exact ⟨rfl, True.intro⟩
  rw [decide_eq_true h20] at hF
  by_cases ht : taken.length ≤ 40
  rotate_left
  · repeat' (first | with_reducible refine Sq.go ?_ | ((with_reducible refine Ev.mk ?_); conv => whnf) | with_reducible refine Dr.mk ⟨by kernel_rfl, by kernel_rfl⟩ ?_ | with_reducible refine obG ?_ | with_reducible refine Ob.mk ?_ ?_ | (with_reducible first | refine brT fun h => ?_ | refine brF fun h => ?_ | refine Br.mk (fun h => ?_) fun h => ?_) <;> (try simp only [bsl, beq_iff_eq, bne_iff_ne, bs2] at h) <;> (try contradiction) <;> try (exfalso; omega))
    refine hS.call ?_
    repeat' (first | with_reducible refine Sq.go ?_ | ((with_reducible refine Ev.mk ?_); conv => whnf) | with_reducible refine Dr.mk ⟨by kernel_rfl, by kernel_rfl⟩ ?_ | with_reducible refine obG ?_ | with_reducible refine Ob.mk ?_ ?_ | (with_reducible first | refine brT fun h => ?_ | refine brF fun h => ?_ | refine Br.mk (fun h => ?_) fun h => ?_) <;> (try simp only [bsl, beq_iff_eq, bne_iff_ne, bs2] at h) <;> (try contradiction) <;> try (exfalso; omega))
    refine hF.call ?_
    repeat' (first | with_reducible refine Sq.go ?_ | ((with_reducible refine Ev.mk ?_); conv => whnf) | with_reducible refine Dr.mk ⟨by kernel_rfl, by kernel_rfl⟩ ?_ | with_reducible refine obG ?_ | with_reducible refine Ob.mk ?_ ?_ | (with_reducible first | refine brT fun h => ?_ | refine brF fun h => ?_ | refine Br.mk (fun h => ?_) fun h => ?_) <;> (try simp only [bsl, beq_iff_eq, bne_iff_ne, bs2] at h) <;> (try contradiction) <;> try (exfalso; omega))
    exact ⟨rfl, True.intro⟩
  have hC := cycle_ok l (by omega)
  have hfl := cycW_le l
  obtain ⟨w, hfd⟩ : ∃ w, cycW l = w := ⟨_, rfl⟩
  rw [hfd] at hC hfl
  obtain ⟨ok, hok⟩ : ∃ ok, cycB l = ok := ⟨_, rfl⟩
  rw [hok] at hC
  have hX := hE taken (by omega) l (by omega) w (by omega)
  cases ok with
  | false =>
    repeat' (first | with_reducible refine Sq.go ?_ | ((with_reducible refine Ev.mk ?_); conv => whnf) | with_reducible refine Dr.mk ⟨by kernel_rfl, by kernel_rfl⟩ ?_ | with_reducible refine obG ?_ | with_reducible refine Ob.mk ?_ ?_ | (with_reducible first | refine brT fun h => ?_ | refine brF fun h => ?_ | refine Br.mk (fun h => ?_) fun h => ?_) <;> (try simp only [bsl, beq_iff_eq, bne_iff_ne, bs2] at h) <;> (try contradiction) <;> try (exfalso; omega))
    refine hS.call ?_
    repeat' (first | with_reducible refine Sq.go ?_ | ((with_reducible refine Ev.mk ?_); conv => whnf) | with_reducible refine Dr.mk ⟨by kernel_rfl, by kernel_rfl⟩ ?_ | with_reducible refine obG ?_ | with_reducible refine Ob.mk ?_ ?_ | (with_reducible first | refine brT fun h => ?_ | refine brF fun h => ?_ | refine Br.mk (fun h => ?_) fun h => ?_) <;> (try simp only [bsl, beq_iff_eq, bne_iff_ne, bs2] at h) <;> (try contradiction) <;> try (exfalso; omega))
    refine hF.call ?_
    repeat' (first | with_reducible refine Sq.go ?_ | ((with_reducible refine Ev.mk ?_); conv => whnf) | with_reducible refine Dr.mk ⟨by kernel_rfl, by kernel_rfl⟩ ?_ | with_reducible refine obG ?_ | with_reducible refine Ob.mk ?_ ?_ | (with_reducible first | refine brT fun h => ?_ | refine brF fun h => ?_ | refine Br.mk (fun h => ?_) fun h => ?_) <;> (try simp only [bsl, beq_iff_eq, bne_iff_ne, bs2] at h) <;> (try contradiction) <;> try (exfalso; omega))
    refine hC.call ?_
    repeat' (first | with_reducible refine Sq.go ?_ | ((with_reducible refine Ev.mk ?_); conv => whnf) | with_reducible refine Dr.mk ⟨by kernel_rfl, by kernel_rfl⟩ ?_ | with_reducible refine obG ?_ | with_reducible refine Ob.mk ?_ ?_ | (with_reducible first | refine brT fun h => ?_ | refine brF fun h => ?_ | refine Br.mk (fun h => ?_) fun h => ?_) <;> (try simp only [bsl, beq_iff_eq, bne_iff_ne, bs2] at h) <;> (try contradiction) <;> try (exfalso; omega))
    refine hX.call ?_
    repeat' (first | with_reducible refine Sq.go ?_ | ((with_reducible refine Ev.mk ?_); conv => whnf) | with_reducible refine Dr.mk ⟨by kernel_rfl, by kernel_rfl⟩ ?_ | with_reducible refine obG ?_ | with_reducible refine Ob.mk ?_ ?_ | (with_reducible first | refine brT fun h => ?_ | refine brF fun h => ?_ | refine Br.mk (fun h => ?_) fun h => ?_) <;> (try simp only [bsl, beq_iff_eq, bne_iff_ne, bs2] at h) <;> (try contradiction) <;> try (exfalso; omega))
    exact ⟨rfl, True.intro⟩
  | true =>
    cases he : exeX taken l w with
    | none =>
      obtain ⟨e1, e2, e3⟩ := ex_none he
      rw [e1, e2, e3] at hX
      repeat' (first | with_reducible refine Sq.go ?_ | ((with_reducible refine Ev.mk ?_); conv => whnf) | with_reducible refine Dr.mk ⟨by kernel_rfl, by kernel_rfl⟩ ?_ | with_reducible refine obG ?_ | with_reducible refine Ob.mk ?_ ?_ | (with_reducible first | refine brT fun h => ?_ | refine brF fun h => ?_ | refine Br.mk (fun h => ?_) fun h => ?_) <;> (try simp only [bsl, beq_iff_eq, bne_iff_ne, bs2] at h) <;> (try contradiction) <;> try (exfalso; omega))
      refine hS.call ?_
      repeat' (first | with_reducible refine Sq.go ?_ | ((with_reducible refine Ev.mk ?_); conv => whnf) | with_reducible refine Dr.mk ⟨by kernel_rfl, by kernel_rfl⟩ ?_ | with_reducible refine obG ?_ | with_reducible refine Ob.mk ?_ ?_ | (with_reducible first | refine brT fun h => ?_ | refine brF fun h => ?_ | refine Br.mk (fun h => ?_) fun h => ?_) <;> (try simp only [bsl, beq_iff_eq, bne_iff_ne, bs2] at h) <;> (try contradiction) <;> try (exfalso; omega))
      refine hF.call ?_
      repeat' (first | with_reducible refine Sq.go ?_ | ((with_reducible refine Ev.mk ?_); conv => whnf) | with_reducible refine Dr.mk ⟨by kernel_rfl, by kernel_rfl⟩ ?_ | with_reducible refine obG ?_ | with_reducible refine Ob.mk ?_ ?_ | (with_reducible first | refine brT fun h => ?_ | refine brF fun h => ?_ | refine Br.mk (fun h => ?_) fun h => ?_) <;> (try simp only [bsl, beq_iff_eq, bne_iff_ne, bs2] at h) <;> (try contradiction) <;> try (exfalso; omega))
      refine hC.call ?_
      repeat' (first | with_reducible refine Sq.go ?_ | ((with_reducible refine Ev.mk ?_); conv => whnf) | with_reducible refine Dr.mk ⟨by kernel_rfl, by kernel_rfl⟩ ?_ | with_reducible refine obG ?_ | with_reducible refine Ob.mk ?_ ?_ | (with_reducible first | refine brT fun h => ?_ | refine brF fun h => ?_ | refine Br.mk (fun h => ?_) fun h => ?_) <;> (try simp only [bsl, beq_iff_eq, bne_iff_ne, bs2] at h) <;> (try contradiction) <;> try (exfalso; omega))
      refine hX.call ?_
      repeat' (first | with_reducible refine Sq.go ?_ | ((with_reducible refine Ev.mk ?_); conv => whnf) | with_reducible refine Dr.mk ⟨by kernel_rfl, by kernel_rfl⟩ ?_ | with_reducible refine obG ?_ | with_reducible refine Ob.mk ?_ ?_ | (with_reducible first | refine brT fun h => ?_ | refine brF fun h => ?_ | refine Br.mk (fun h => ?_) fun h => ?_) <;> (try simp only [bsl, beq_iff_eq, bne_iff_ne, bs2] at h) <;> (try contradiction) <;> try (exfalso; omega))
      exact ⟨rfl, True.intro⟩
    | some y =>
      obtain ⟨x, r⟩ := y
      obtain ⟨e1, e2, e3⟩ := ex_some he
      rw [e1, e2, e3] at hX
      dsimp only at hX
      obtain ⟨z, hD⟩ := exe_done he
      have hxl : x.length ≤ 1000 := by have := (exeX_len he).1; dsimp only at this; omega
      have hHas := fun st sec => has30_ok x (by omega) st sec
      have hcy := fun k (hk : k < w.length) => isC_at hD.cyc hk
      repeat' (first | with_reducible refine Sq.go ?_ | ((with_reducible refine Ev.mk ?_); conv => whnf) | with_reducible refine Dr.mk ⟨by kernel_rfl, by kernel_rfl⟩ ?_ | with_reducible refine obG ?_ | with_reducible refine Ob.mk ?_ ?_ | (with_reducible first | refine brT fun h => ?_ | refine brF fun h => ?_ | refine Br.mk (fun h => ?_) fun h => ?_) <;> (try simp only [bsl, beq_iff_eq, bne_iff_ne, bs2] at h) <;> (try contradiction) <;> try (exfalso; omega))
      refine hS.call ?_
      repeat' (first | with_reducible refine Sq.go ?_ | ((with_reducible refine Ev.mk ?_); conv => whnf) | with_reducible refine Dr.mk ⟨by kernel_rfl, by kernel_rfl⟩ ?_ | with_reducible refine obG ?_ | with_reducible refine Ob.mk ?_ ?_ | (with_reducible first | refine brT fun h => ?_ | refine brF fun h => ?_ | refine Br.mk (fun h => ?_) fun h => ?_) <;> (try simp only [bsl, beq_iff_eq, bne_iff_ne, bs2] at h) <;> (try contradiction) <;> try (exfalso; omega))
      refine hF.call ?_
      repeat' (first | with_reducible refine Sq.go ?_ | ((with_reducible refine Ev.mk ?_); conv => whnf) | with_reducible refine Dr.mk ⟨by kernel_rfl, by kernel_rfl⟩ ?_ | with_reducible refine obG ?_ | with_reducible refine Ob.mk ?_ ?_ | (with_reducible first | refine brT fun h => ?_ | refine brF fun h => ?_ | refine Br.mk (fun h => ?_) fun h => ?_) <;> (try simp only [bsl, beq_iff_eq, bne_iff_ne, bs2] at h) <;> (try contradiction) <;> try (exfalso; omega))
      refine hC.call ?_
      repeat' (first | with_reducible refine Sq.go ?_ | ((with_reducible refine Ev.mk ?_); conv => whnf) | with_reducible refine Dr.mk ⟨by kernel_rfl, by kernel_rfl⟩ ?_ | with_reducible refine obG ?_ | with_reducible refine Ob.mk ?_ ?_ | (with_reducible first | refine brT fun h => ?_ | refine brF fun h => ?_ | refine Br.mk (fun h => ?_) fun h => ?_) <;> (try simp only [bsl, beq_iff_eq, bne_iff_ne, bs2] at h) <;> (try contradiction) <;> try (exfalso; omega))
      refine hX.call ?_
      repeat' (first | with_reducible refine Sq.go ?_ | ((with_reducible refine Ev.mk ?_); conv => whnf) | with_reducible refine Dr.mk ⟨by kernel_rfl, by kernel_rfl⟩ ?_ | with_reducible refine obG ?_ | with_reducible refine Ob.mk ?_ ?_ | (with_reducible first | refine brT fun h => ?_ | refine brF fun h => ?_ | refine Br.mk (fun h => ?_) fun h => ?_) <;> (try simp only [bsl, beq_iff_eq, bne_iff_ne, bs2] at h) <;> (try contradiction) <;> try (exfalso; omega))
      refine Awp.frz [0] 10 (.fn (.func 26) [] [.pt [eSeats x] 0]) (.fn' True.intro ⟨.ptr' rfl ⟨.d, True.intro⟩, True.intro⟩) ?_
      refine loop_rule hT (S := Nat × List (List Int)) (fun y => ([(1, .d (eSwaps l)), (5, .d (eInts w)), (10, .d (.fn (.func 26) [] [.pt [eSeats x] 0])), (11, .d (.fn (.func 27) [] [])), (12, .mp (.loc 1)), (52, .d (eInts w)), (53, .d (.int .i64 w.length)), (54, .d (.int .i64 y.1))],
        ⟨[none, some (.map (.many [.i64, .i64]) (hasL y.2) fun x => .d (.bool (hasL y.2 x)))], []⟩)) (fun y => y.1 ≤ w.length ∧ y.2 = allK l w y.1) (fun y => w.length - y.1) (0, []) ?_ ?_ ?_
      · repeat' (first | exact True.intro | exact rfl | exact Nat.le_refl _ | refine And.intro ?_ ?_)
        all_goals
          intro key hf
          exact ⟨rfl, fun h => by cases h⟩
      · exact ⟨Nat.zero_le _, rfl⟩
      · rintro ⟨k, keys⟩ ⟨hk, hkeys⟩
        dsimp only at hk hkeys ⊢
        by_cases hk2 : k < w.length
        · obtain ⟨x0, x1⟩ := (hcy k hk2).1
          have hsw : l.getD (w.getD (k : Int).toNat default).toNat default = swA l w k := rfl
          have hgh := fun n hn => get_has hD hk2 (n := n) hn
          have hxb : 0 ≤ w.getD (k : Int).toNat default ∧ w.getD (k : Int).toNat default < l.length := ⟨x0, x1⟩
          have hP := secs30_ok (swA l w k).take
          have hpl := partsI_len (swA l w k).take
          have hgk : getK l w k = (partsI (swA l w k).take).map fun n => [(swA l w k).student, n] := rfl
          have hnext := allK_succ l w k
          rw [hgk, ← hkeys] at hnext
          repeat' (first | ((with_reducible refine Ev.mk ?_); conv => whnf) | with_reducible refine Dr.mk ⟨by kernel_rfl, by kernel_rfl⟩ ?_ | with_reducible refine obG ?_ | with_reducible refine Ob.mk ?_ ?_ | (with_reducible first | refine brT fun h => ?_ | refine brF fun h => ?_ | refine Br.mk (fun h => ?_) fun h => ?_) <;> (try simp only [bsl, beq_iff_eq, bne_iff_ne, bs2] at h) <;> (try contradiction) <;> try (exfalso; omega))
          refine Sq.go ?_
          repeat' (first | ((with_reducible refine Ev.mk ?_); conv => whnf) | with_reducible refine Dr.mk ⟨by kernel_rfl, by kernel_rfl⟩ ?_ | with_reducible refine obG ?_ | with_reducible refine Ob.mk ?_ ?_ | (with_reducible first | refine brT fun h => ?_ | refine brF fun h => ?_ | refine Br.mk (fun h => ?_) fun h => ?_) <;> (try simp only [bsl, beq_iff_eq, bne_iff_ne, bs2] at h) <;> (try contradiction) <;> try (exfalso; omega))
          refine Sq.go ?_
          repeat' (first | ((with_reducible refine Ev.mk ?_); conv => whnf) | with_reducible refine Dr.mk ⟨by kernel_rfl, by kernel_rfl⟩ ?_ | with_reducible refine obG ?_ | with_reducible refine Ob.mk ?_ ?_ | (with_reducible first | refine brT fun h => ?_ | refine brF fun h => ?_ | refine Br.mk (fun h => ?_) fun h => ?_) <;> (try simp only [bsl, beq_iff_eq, bne_iff_ne, bs2] at h) <;> (try contradiction) <;> try (exfalso; omega))
          refine Sq.go ?_
          repeat' (first | with_reducible refine Sq.go ?_ | ((with_reducible refine Ev.mk ?_); conv => whnf) | with_reducible refine Dr.mk ⟨by kernel_rfl, by kernel_rfl⟩ ?_ | with_reducible refine obG ?_ | with_reducible refine Ob.mk ?_ ?_ | (with_reducible first | refine brT fun h => ?_ | refine brF fun h => ?_ | refine Br.mk (fun h => ?_) fun h => ?_) <;> (try simp only [bsl, beq_iff_eq, bne_iff_ne, bs2] at h) <;> (try contradiction) <;> try (exfalso; omega))
          simp (config := { beta := false, eta := false, iota := false, proj := false, zeta := false, decide := false }) only [hsw]
          refine hP.call ?_
          repeat' (first | with_reducible refine Sq.go ?_ | ((with_reducible refine Ev.mk ?_); conv => whnf) | with_reducible refine Dr.mk ⟨by kernel_rfl, by kernel_rfl⟩ ?_ | with_reducible refine obG ?_ | with_reducible refine Ob.mk ?_ ?_ | (with_reducible first | refine brT fun h => ?_ | refine brF fun h => ?_ | refine Br.mk (fun h => ?_) fun h => ?_) <;> (try simp only [bsl, beq_iff_eq, bne_iff_ne, bs2] at h) <;> (try contradiction) <;> try (exfalso; omega))
          obtain ⟨ps, hps⟩ : ∃ ps, partsI (swA l w k).take = ps := ⟨_, rfl⟩
          rw [hps] at hnext hpl
          have hgh2 := fun n (hn : n ∈ ps) => hgh n (by rw [hps]; exact hn)
          refine loop_rule hT (S := Nat × List (List Int)) (fun y => ([(1, .d (eSwaps l)), (5, .d (eInts w)), (10, .d (.fn (.func 26) [] [.pt [eSeats x] 0])), (11, .d (.fn (.func 27) [] [])), (12, .mp (.loc 1)), (14, .d (.int .i64 (w.getD (k : Int).toNat default))), (52, .d (eInts w)), (53, .d (.int .i64 w.length)), (54, .d (.int .i64 k)), (72, .d (eInts ps)), (73, .d (.int .i64 ps.length)), (74, .d (.int .i64 y.1))],
            ⟨[none, some (.map (.many [.i64, .i64]) (hasL y.2) fun x => .d (.bool (hasL y.2 x)))], []⟩)) (fun y => y.1 ≤ ps.length ∧ y.2 = keys ++ (ps.take y.1).map fun n => [(swA l w k).student, n]) (fun y => ps.length - y.1) (0, keys) ?_ ?_ ?_
          · repeat' (first | exact True.intro | exact rfl | exact Nat.le_refl _ | refine And.intro ?_ ?_)
            all_goals first
              | (intro key hf; exact ⟨rfl, fun _ => ⟨rfl, rfl⟩⟩)
              | (rw [← hps]; rfl)
          · exact ⟨Nat.zero_le _, by simp⟩
          · rintro ⟨m, keys2⟩ ⟨hm, hkm⟩
            dsimp only at hm hkm ⊢
            by_cases hm2 : m < ps.length
            · have hH := hHas (swA l w k).student (ps.getD m default)
              rw [hgh2 _ (getD_mem hm2)] at hH
              have hks : keys ++ (ps.take (m + 1)).map (fun n => [(swA l w k).student, n]) = keys2 ++ [[(swA l w k).student, ps.getD m default]] := by rw [take_succ_at hm2, List.map_append, ← List.append_assoc, ← hkm]; rfl
              repeat' (first | with_reducible refine Sq.go ?_ | ((with_reducible refine Ev.mk ?_); conv => whnf) | with_reducible refine Dr.mk ⟨by kernel_rfl, by kernel_rfl⟩ ?_ | with_reducible refine obG ?_ | with_reducible refine Ob.mk ?_ ?_ | (with_reducible first | refine brT fun h => ?_ | refine brF fun h => ?_ | refine Br.mk (fun h => ?_) fun h => ?_) <;> (try simp only [bsl, beq_iff_eq, bne_iff_ne, bs2] at h) <;> (try contradiction) <;> try (exfalso; omega))
              simp (config := { beta := false, eta := false, iota := false, proj := false, zeta := false, decide := false }) only [hsw]
              refine ⟨⟨_, [], [.d (.pt [eSeats x] 0)], .inr ⟨[], [.pt [eSeats x] 0], rfl, rfl, rfl⟩, hH.call ?_⟩⟩
              repeat' (first | with_reducible refine Sq.go ?_ | ((with_reducible refine Ev.mk ?_); conv => whnf) | with_reducible refine Dr.mk ⟨by kernel_rfl, by kernel_rfl⟩ ?_ | with_reducible refine obG ?_ | with_reducible refine Ob.mk ?_ ?_ | (with_reducible first | refine brT fun h => ?_ | refine brF fun h => ?_ | refine Br.mk (fun h => ?_) fun h => ?_) <;> (try simp only [bsl, beq_iff_eq, bne_iff_ne, bs2] at h) <;> (try contradiction) <;> try (exfalso; omega))
              refine ⟨(m + 1, keys2 ++ [[(swA l w k).student, ps.getD m default]]), ⟨by show m + 1 ≤ ps.length; omega, hks.symm⟩, by show ps.length - (m + 1) < ps.length - m; omega, ?_⟩
              repeat' (first | exact True.intro | exact rfl | exact Nat.le_refl _ | refine And.intro ?_ ?_)
              all_goals
                intro key hf
                have hs := hasL_snoc keys2 [(swA l w k).student, ps.getD m default] key
                exact ⟨hs, fun hh => ⟨(mapT hh).trans (congrArg (fun b => AV.d (D.bool b)) (hh.symm.trans hs)), rfl⟩⟩
            · rw [List.take_of_length_le (by omega)] at hkm
              repeat' (first | with_reducible refine Sq.go ?_ | ((with_reducible refine Ev.mk ?_); conv => whnf) | with_reducible refine Dr.mk ⟨by kernel_rfl, by kernel_rfl⟩ ?_ | with_reducible refine obG ?_ | with_reducible refine Ob.mk ?_ ?_ | (with_reducible first | refine brT fun h => ?_ | refine brF fun h => ?_ | refine Br.mk (fun h => ?_) fun h => ?_) <;> (try simp only [bsl, beq_iff_eq, bne_iff_ne, bs2] at h) <;> (try contradiction) <;> try (exfalso; omega))
              refine ⟨(k + 1, keys2), ⟨by show k + 1 ≤ w.length; omega, by rw [hkm, hnext]⟩, by show w.length - (k + 1) < w.length - k; omega, ?_⟩
              repeat' (first | exact True.intro | exact rfl | exact Nat.le_refl _ | refine And.intro ?_ ?_)
              all_goals (intro key hf; exact ⟨rfl, fun _ => ⟨rfl, rfl⟩⟩)
        · have hkw : k = w.length := by omega
          subst hkw
          subst hkeys
          have hback := fun j (hj : j < w.length) n hn hh => get_back hD hj (n := n) hn hh
          repeat' (first | with_reducible refine Sq.go ?_ | ((with_reducible refine Ev.mk ?_); conv => whnf) | with_reducible refine Dr.mk ⟨by kernel_rfl, by kernel_rfl⟩ ?_ | with_reducible refine obG ?_ | with_reducible refine Ob.mk ?_ ?_ | (with_reducible first | refine brT fun h => ?_ | refine brF fun h => ?_ | refine Br.mk (fun h => ?_) fun h => ?_) <;> (try simp only [bsl, beq_iff_eq, bne_iff_ne, bs2] at h) <;> (try contradiction) <;> try (exfalso; omega))
          refine loop_rule hT (S := Nat) (fun k => ([(1, .d (eSwaps l)), (10, .d (.fn (.func 26) [] [.pt [eSeats x] 0])), (11, .d (.fn (.func 27) [] [])), (12, .mp (.loc 1)), (97, .d (eInts w)), (98, .d (.int .i64 w.length)), (99, .d (.int .i64 k))],
            ⟨[none, some (.map (.many [.i64, .i64]) (hasL (allK l w w.length)) fun x => .d (.bool (hasL (allK l w w.length) x)))], []⟩)) (fun k => k ≤ w.length) (fun k => w.length - k) 0 ?_ ?_ ?_
          · repeat' (first | exact True.intro | exact rfl | exact Nat.le_refl _ | refine And.intro ?_ ?_)
            all_goals (intro key hf; exact ⟨rfl, fun _ => ⟨rfl, rfl⟩⟩)
          · exact Nat.zero_le _
          · intro k hk
            dsimp only
            by_cases hk2 : k < w.length
            · obtain ⟨x0, x1⟩ := (hcy k hk2).1
              have hsw : l.getD (w.getD (k : Int).toNat default).toNat default = swA l w k := rfl
              have hxb : 0 ≤ w.getD (k : Int).toNat default ∧ w.getD (k : Int).toNat default < l.length := ⟨x0, x1⟩
              have hP := secs30_ok (swA l w k).give
              have hpl := partsI_len (swA l w k).give
              have hb := hback k hk2
              repeat' (first | with_reducible refine Sq.go ?_ | ((with_reducible refine Ev.mk ?_); conv => whnf) | with_reducible refine Dr.mk ⟨by kernel_rfl, by kernel_rfl⟩ ?_ | with_reducible refine obG ?_ | with_reducible refine Ob.mk ?_ ?_ | (with_reducible first | refine brT fun h => ?_ | refine brF fun h => ?_ | refine Br.mk (fun h => ?_) fun h => ?_) <;> (try simp only [bsl, beq_iff_eq, bne_iff_ne, bs2] at h) <;> (try contradiction) <;> try (exfalso; omega))
              simp (config := { beta := false, eta := false, iota := false, proj := false, zeta := false, decide := false }) only [hsw]
              refine hP.call ?_
              repeat' (first | with_reducible refine Sq.go ?_ | ((with_reducible refine Ev.mk ?_); conv => whnf) | with_reducible refine Dr.mk ⟨by kernel_rfl, by kernel_rfl⟩ ?_ | with_reducible refine obG ?_ | with_reducible refine Ob.mk ?_ ?_ | (with_reducible first | refine brT fun h => ?_ | refine brF fun h => ?_ | refine Br.mk (fun h => ?_) fun h => ?_) <;> (try simp only [bsl, beq_iff_eq, bne_iff_ne, bs2] at h) <;> (try contradiction) <;> try (exfalso; omega))
              obtain ⟨ps, hps⟩ : ∃ ps, partsI (swA l w k).give = ps := ⟨_, rfl⟩
              rw [hps] at hpl hb
              refine loop_rule hT (S := Nat) (fun m => ([(1, .d (eSwaps l)), (10, .d (.fn (.func 26) [] [.pt [eSeats x] 0])), (11, .d (.fn (.func 27) [] [])), (12, .mp (.loc 1)), (18, .d (.int .i64 (w.getD (k : Int).toNat default))), (97, .d (eInts w)), (98, .d (.int .i64 w.length)), (99, .d (.int .i64 k)), (109, .d (eInts ps)), (110, .d (.int .i64 ps.length)), (111, .d (.int .i64 m))],
                ⟨[none, some (.map (.many [.i64, .i64]) (hasL (allK l w w.length)) fun x => .d (.bool (hasL (allK l w w.length) x)))], []⟩)) (fun m => m ≤ ps.length) (fun m => ps.length - m) 0 ?_ ?_ ?_
              · repeat' (first | exact True.intro | exact rfl | exact Nat.le_refl _ | refine And.intro ?_ ?_)
                all_goals first
                  | (intro key hf; exact ⟨rfl, fun _ => ⟨rfl, rfl⟩⟩)
                  | (rw [← hps]; rfl)
              · exact Nat.zero_le _
              · intro m hm
                dsimp only
                by_cases hm2 : m < ps.length
                · have hH := hHas (swA l w k).student (ps.getD m default)
                  have hb2 := hb (ps.getD m default) (getD_mem hm2)
                  cases hh : x.any (seatB (swA l w k).student (ps.getD m default))
                  · rw [hh] at hH
                    repeat' (first | with_reducible refine Sq.go ?_ | ((with_reducible refine Ev.mk ?_); conv => whnf) | with_reducible refine Dr.mk ⟨by kernel_rfl, by kernel_rfl⟩ ?_ | with_reducible refine obG ?_ | with_reducible refine Ob.mk ?_ ?_ | (with_reducible first | refine brT fun h => ?_ | refine brF fun h => ?_ | refine Br.mk (fun h => ?_) fun h => ?_) <;> (try simp only [bsl, beq_iff_eq, bne_iff_ne, bs2] at h) <;> (try contradiction) <;> try (exfalso; omega))
                    simp (config := { beta := false, eta := false, iota := false, proj := false, zeta := false, decide := false }) only [hsw]
                    refine ⟨⟨_, [], [.d (.pt [eSeats x] 0)], .inr ⟨[], [.pt [eSeats x] 0], rfl, rfl, rfl⟩, hH.call ?_⟩⟩
                    repeat' (first | with_reducible refine Sq.go ?_ | ((with_reducible refine Ev.mk ?_); conv => whnf) | with_reducible refine Dr.mk ⟨by kernel_rfl, by kernel_rfl⟩ ?_ | with_reducible refine obG ?_ | with_reducible refine Ob.mk ?_ ?_ | (with_reducible first | refine brT fun h => ?_ | refine brF fun h => ?_ | refine Br.mk (fun h => ?_) fun h => ?_) <;> (try simp only [bsl, beq_iff_eq, bne_iff_ne, bs2] at h) <;> (try contradiction) <;> try (exfalso; omega))
                    refine ⟨m + 1, by show m + 1 ≤ ps.length; omega, by show ps.length - (m + 1) < ps.length - m; omega, ?_⟩
                    repeat' (first | exact True.intro | exact rfl | exact Nat.le_refl _ | refine And.intro ?_ ?_)
                    all_goals (intro key hf; exact ⟨rfl, fun _ => ⟨rfl, rfl⟩⟩)
                  · rw [hh] at hH hb2
                    obtain ⟨k', g1, g2, g3⟩ := hb2 rfl
                    have hin : hasL (allK l w w.length) [(swA l w k).student, ps.getD m default] = true := hasL_iff.2 (mem_allK.2 ⟨k', g1, _, g3, by rw [g2]⟩)
                    repeat' (first | with_reducible refine Sq.go ?_ | ((with_reducible refine Ev.mk ?_); conv => whnf) | with_reducible refine Dr.mk ⟨by kernel_rfl, by kernel_rfl⟩ ?_ | with_reducible refine obG ?_ | with_reducible refine Ob.mk ?_ ?_ | (with_reducible first | refine brT fun h => ?_ | refine brF fun h => ?_ | refine Br.mk (fun h => ?_) fun h => ?_) <;> (try simp only [bsl, beq_iff_eq, bne_iff_ne, bs2] at h) <;> (try contradiction) <;> try (exfalso; omega))
                    simp (config := { beta := false, eta := false, iota := false, proj := false, zeta := false, decide := false }) only [hsw]
                    refine ⟨⟨_, [], [.d (.pt [eSeats x] 0)], .inr ⟨[], [.pt [eSeats x] 0], rfl, rfl, rfl⟩, hH.call ?_⟩⟩
                    repeat' (first | with_reducible refine Sq.go ?_ | ((with_reducible refine Ev.mk ?_); conv => whnf) | with_reducible refine Dr.mk ⟨by kernel_rfl, by kernel_rfl⟩ ?_ | with_reducible refine obG ?_ | with_reducible refine Ob.mk ?_ ?_ | (with_reducible first | refine brT fun h => ?_ | refine brF fun h => ?_ | refine Br.mk (fun h => ?_) fun h => ?_) <;> (try simp only [bsl, beq_iff_eq, bne_iff_ne, bs2] at h) <;> (try contradiction) <;> try (exfalso; omega))
                    · exact absurd h (nf hin)
                    · refine ⟨m + 1, by show m + 1 ≤ ps.length; omega, by show ps.length - (m + 1) < ps.length - m; omega, ?_⟩
                      repeat' (first | exact True.intro | exact rfl | exact Nat.le_refl _ | refine And.intro ?_ ?_)
                      all_goals (intro key hf; exact ⟨rfl, fun _ => ⟨rfl, rfl⟩⟩)
                · repeat' (first | with_reducible refine Sq.go ?_ | ((with_reducible refine Ev.mk ?_); conv => whnf) | with_reducible refine Dr.mk ⟨by kernel_rfl, by kernel_rfl⟩ ?_ | with_reducible refine obG ?_ | with_reducible refine Ob.mk ?_ ?_ | (with_reducible first | refine brT fun h => ?_ | refine brF fun h => ?_ | refine Br.mk (fun h => ?_) fun h => ?_) <;> (try simp only [bsl, beq_iff_eq, bne_iff_ne, bs2] at h) <;> (try contradiction) <;> try (exfalso; omega))
                  refine ⟨k + 1, by show k + 1 ≤ w.length; omega, by show w.length - (k + 1) < w.length - k; omega, ?_⟩
                  repeat' (first | exact True.intro | exact rfl | exact Nat.le_refl _ | refine And.intro ?_ ?_)
                  all_goals (intro key hf; exact ⟨rfl, fun _ => ⟨rfl, rfl⟩⟩)
            · repeat' (first | with_reducible refine Sq.go ?_ | ((with_reducible refine Ev.mk ?_); conv => whnf) | with_reducible refine Dr.mk ⟨by kernel_rfl, by kernel_rfl⟩ ?_ | with_reducible refine obG ?_ | with_reducible refine Ob.mk ?_ ?_ | (with_reducible first | refine brT fun h => ?_ | refine brF fun h => ?_ | refine Br.mk (fun h => ?_) fun h => ?_) <;> (try simp only [bsl, beq_iff_eq, bne_iff_ne, bs2] at h) <;> (try contradiction) <;> try (exfalso; omega))
              exact ⟨rfl, True.intro⟩
end Go.Proofs.Ytnhadilbebgbjaa
