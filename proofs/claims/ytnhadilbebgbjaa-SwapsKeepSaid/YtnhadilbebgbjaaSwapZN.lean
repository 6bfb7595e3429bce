/-
  Swaps: the law about what is kept.
-/
import Derived.Test.YtnhadilbebgbjaaSwapZP
import Derived.Test.YtnhadilbebgbjaaEngAM
namespace Go.Proofs.Ytnhadilbebgbjaa
set_option linter.unusedSimpArgs false
set_option linter.unusedVariables false
open Go Go.Ab
set_option maxRecDepth 100000
set_option maxHeartbeats 0
def hasS (f : Seat → List Int) (a b : List Seat) : List Int → Bool := hasL ((a ++ b).map f)
def valS (f : Seat → List Int) (a b : List Seat) : List Int → AV := fun key => .d (.int .i64 (cnt f a key - cnt f b key))
theorem hasS_left (f : Seat → List Int) (a : List Seat) (s : Seat) (key : List Int) : (decide (key = f s) || hasS f a [] key) = hasS f (a ++ [s]) [] key := by
  unfold hasS
  rw [List.append_nil, List.append_nil, List.map_append, hasL_snoc]
  rfl
theorem hasS_right (f : Seat → List Int) (a b : List Seat) (s : Seat) (key : List Int) : (decide (key = f s) || hasS f a b key) = hasS f a (b ++ [s]) key := by
  unfold hasS
  rw [← List.append_assoc, List.map_append (l₂ := [s]), hasL_snoc]
  rfl
theorem valS_left (f : Seat → List Int) (a : List Seat) (s : Seat) (key : List Int) : (bif decide (key = f s) then AV.d (.int .i64 (cnt f a (f s) - cnt f [] (f s) + 1)) else valS f a [] key) = valS f (a ++ [s]) [] key := by
  unfold valS
  rw [cnt_snoc]
  by_cases h : key = f s
  · subst h
    rw [decide_eq_true rfl, if_pos rfl, cond_true]
    exact congrArg (fun n => AV.d (.int .i64 n)) (by omega)
  · rw [decide_eq_false h, if_neg (fun e => h e.symm), cond_false, Int.add_zero]
theorem valS_right (f : Seat → List Int) (a b : List Seat) (s : Seat) (key : List Int) : (bif decide (key = f s) then AV.d (.int .i64 (cnt f a (f s) - cnt f b (f s) - 1)) else valS f a b key) = valS f a (b ++ [s]) key := by
  unfold valS
  rw [cnt_snoc]
  by_cases h : key = f s
  · subst h
    rw [decide_eq_true rfl, if_pos rfl, cond_true]
    exact congrArg (fun n => AV.d (.int .i64 n)) (by omega)
  · rw [decide_eq_false h, if_neg (fun e => h e.symm), cond_false, Int.add_zero]
theorem valS_none {f : Seat → List Int} {a b : List Seat} {key : List Int} (h : hasS f a b key = false) : cnt f a key - cnt f b key = 0 := by
  have h1 : hasL (a.map f) key = false := by
    cases e : hasL (a.map f) key with
    | false => rfl
    | true =>
      have := hasL_iff.1 e
      have h2 : hasS f a b key = true := hasL_iff.2 (by rw [List.map_append]; exact List.mem_append_left _ this)
      rw [h2] at h
      cases h
  have h2 : hasL (b.map f) key = false := by
    cases e : hasL (b.map f) key with
    | false => rfl
    | true =>
      have := hasL_iff.1 e
      have h2 : hasS f a b key = true := hasL_iff.2 (by rw [List.map_append]; exact List.mem_append_right _ this)
      rw [h2] at h
      cases h
  rw [cnt_none h1, cnt_none h2]
  rfl
theorem conK_succ {l : List Swap} {w : List Int} {k : Nat} (hk : k < w.length) : conK l w (k + 1) = conK l w k ++ [[(swA l w k).student]] := by
  unfold conK
  rw [take_succ_at hk, List.map_append]
  rfl
theorem keep_ok (hS : Pure Try.prog 10 [] [.bool true]) (hE : ∀ (taken : List Seat) (_ : taken.length ≤ 1000) (l : List Swap) (_ : l.length ≤ 1000) (w : List Int) (_ : w.length ≤ 1000000), Pure Try.prog 22 [eSeats taken, eSwaps l, eInts w] [eSeats (exX taken l w), eSwaps (exR taken l w), .int .i64 (exE taken l w)])
    (taken : List Seat) (l : List Swap) (which : List Int) : Pure Try.prog 7 [eSeats taken, eSwaps l, eInts which] [.bool true] := by
  refine pure_rule hT (T := tab) (N := 219) (rs := [.tmp 6]) Try.func7 rfl rfl rfl (by kernel_rfl) rfl ?_
  have hF := few30_ok l
  by_cases h20 : l.length ≤ 20
  rotate_left
  · rw [decide_eq_false h20] at hF
    repeat' (first | with_reducible refine Sq.go ?_ | ((with_reducible refine Ev.mk ?_); conv => whnf) | with_reducible refine Dr.mk ⟨by kernel_rfl, by kernel_rfl⟩ ?_ | with_reducible refine obG ?_ | with_reducible refine Ob.mk ?_ ?_ | (with_reducible first | refine brT fun h => ?_ | refine brF fun h => ?_ | refine Br.mk (fun h => ?_) fun h => ?_) <;> (try simp only [bsl, beq_iff_eq, bne_iff_ne, bs2] at h) <;> (try contradiction) <;> try (exfalso; omega))
    refine hS.call ?_
    repeat' (first | with_reducible refine Sq.go ?_ | ((with_reducible refine Ev.mk ?_); conv => whnf) | with_reducible refine Dr.mk ⟨by kernel_rfl, by kernel_rfl⟩ ?_ | with_reducible refine obG ?_ | with_reducible refine Ob.mk ?_ ?_ | (with_reducible first | refine brT fun h => ?_ | refine brF fun h => ?_ | refine Br.mk (fun h => ?_) fun h => ?_) <;> (try simp only [bsl, beq_iff_eq, bne_iff_ne, bs2] at h) <;> (try contradiction) <;> try (exfalso; omega))
    refine hF.call ?_
    repeat' (first | with_reducible refine Sq.go ?_ | ((with_reducible refine Ev.mk ?_); conv => whnf) | with_reducible refine Dr.mk ⟨by kernel_rfl, by kernel_rfl⟩ ?_ | with_reducible refine obG ?_ | with_reducible refine Ob.mk ?_ ?_ | (with_reducible first | refine brT fun h => ?_ | refine brF fun h => ?_ | refine Br.mk (fun h => ?_) fun h => ?_) <;> (try simp only [bsl, beq_iff_eq, bne_iff_ne, bs2] at h) <;> (try contradiction) <;> try (exfalso; omega))
    exact ⟨rfl, True.intro⟩
  rw [decide_eq_true h20] at hF
  by_cases ht : taken.length ≤ 40 ∧ which.length ≤ 30
  rotate_left
  · repeat' (first | with_reducible refine Sq.go ?_ | ((with_reducible refine Ev.mk ?_); conv => whnf) | with_reducible refine Dr.mk ⟨by kernel_rfl, by kernel_rfl⟩ ?_ | with_reducible refine obG ?_ | with_reducible refine Ob.mk ?_ ?_ | (with_reducible first | refine brT fun h => ?_ | refine brF fun h => ?_ | refine Br.mk (fun h => ?_) fun h => ?_) <;> (try simp only [bsl, beq_iff_eq, bne_iff_ne, bs2] at h) <;> (try contradiction) <;> try (exfalso; omega))
    refine hS.call ?_
    repeat' (first | with_reducible refine Sq.go ?_ | ((with_reducible refine Ev.mk ?_); conv => whnf) | with_reducible refine Dr.mk ⟨by kernel_rfl, by kernel_rfl⟩ ?_ | with_reducible refine obG ?_ | with_reducible refine Ob.mk ?_ ?_ | (with_reducible first | refine brT fun h => ?_ | refine brF fun h => ?_ | refine Br.mk (fun h => ?_) fun h => ?_) <;> (try simp only [bsl, beq_iff_eq, bne_iff_ne, bs2] at h) <;> (try contradiction) <;> try (exfalso; omega))
    refine hF.call ?_
    repeat' (first | with_reducible refine Sq.go ?_ | ((with_reducible refine Ev.mk ?_); conv => whnf) | with_reducible refine Dr.mk ⟨by kernel_rfl, by kernel_rfl⟩ ?_ | with_reducible refine obG ?_ | with_reducible refine Ob.mk ?_ ?_ | (with_reducible first | refine brT fun h => ?_ | refine brF fun h => ?_ | refine Br.mk (fun h => ?_) fun h => ?_) <;> (try simp only [bsl, beq_iff_eq, bne_iff_ne, bs2] at h) <;> (try contradiction) <;> try (exfalso; omega))
    exact ⟨rfl, True.intro⟩
  obtain ⟨ht, hw⟩ := ht
  have hC := cycle_ok l (by omega)
  have hfl := cycW_le l
  obtain ⟨found, hfd⟩ : ∃ found, cycW l = found := ⟨_, rfl⟩
  rw [hfd] at hC hfl
  have hws : ∀ k, k < 2 → ([which, found].getD k default).length ≤ 1000 := fun k hk => by
    rcases show k = 0 ∨ k = 1 by omega with rfl | rfl
    · show which.length ≤ 1000; omega
    · show found.length ≤ 1000; omega
  repeat' (first | with_reducible refine Sq.go ?_ | ((with_reducible refine Ev.mk ?_); conv => whnf) | with_reducible refine Dr.mk ⟨by kernel_rfl, by kernel_rfl⟩ ?_ | with_reducible refine obG ?_ | with_reducible refine Ob.mk ?_ ?_ | (with_reducible first | refine brT fun h => ?_ | refine brF fun h => ?_ | refine Br.mk (fun h => ?_) fun h => ?_) <;> (try simp only [bsl, beq_iff_eq, bne_iff_ne, bs2] at h) <;> (try contradiction) <;> try (exfalso; omega))
  refine hS.call ?_
  repeat' (first | with_reducible refine Sq.go ?_ | ((with_reducible refine Ev.mk ?_); conv => whnf) | with_reducible refine Dr.mk ⟨by kernel_rfl, by kernel_rfl⟩ ?_ | with_reducible refine obG ?_ | with_reducible refine Ob.mk ?_ ?_ | (with_reducible first | refine brT fun h => ?_ | refine brF fun h => ?_ | refine Br.mk (fun h => ?_) fun h => ?_) <;> (try simp only [bsl, beq_iff_eq, bne_iff_ne, bs2] at h) <;> (try contradiction) <;> try (exfalso; omega))
  refine hF.call ?_
  repeat' (first | with_reducible refine Sq.go ?_ | ((with_reducible refine Ev.mk ?_); conv => whnf) | with_reducible refine Dr.mk ⟨by kernel_rfl, by kernel_rfl⟩ ?_ | with_reducible refine obG ?_ | with_reducible refine Ob.mk ?_ ?_ | (with_reducible first | refine brT fun h => ?_ | refine brF fun h => ?_ | refine Br.mk (fun h => ?_) fun h => ?_) <;> (try simp only [bsl, beq_iff_eq, bne_iff_ne, bs2] at h) <;> (try contradiction) <;> try (exfalso; omega))
  refine hC.call ?_
  repeat' (first | with_reducible refine Sq.go ?_ | ((with_reducible refine Ev.mk ?_); conv => whnf) | with_reducible refine Dr.mk ⟨by kernel_rfl, by kernel_rfl⟩ ?_ | with_reducible refine obG ?_ | with_reducible refine Ob.mk ?_ ?_ | (with_reducible first | refine brT fun h => ?_ | refine brF fun h => ?_ | refine Br.mk (fun h => ?_) fun h => ?_) <;> (try simp only [bsl, beq_iff_eq, bne_iff_ne, bs2] at h) <;> (try contradiction) <;> try (exfalso; omega))
  refine loop_rule hT (S := Nat) (fun k => ([(0, .d (eSeats taken)), (1, .d (eSwaps l)), (49, .osl (.loc 0) 0 0 2), (50, .d (.int .i64 2)), (51, .d (.int .i64 k))], ⟨[some (.vec 36 1 0 2 (rowWs [which, found]))], []⟩)) (fun k => k ≤ 2) (fun k => 2 - k) 0 ?_ ?_ ?_
  · repeat' (first | exact True.intro | exact rfl | exact Nat.le_refl _ | refine And.intro ?_ ?_)
    · intro i hi
      have hi : i < 2 := hi
      rcases show i = 0 ∨ i = 1 by omega with rfl | rfl <;> exact ⟨rfl, rfl⟩
  · decide
  · intro kw hk
    by_cases hk2 : kw < 2
    rotate_left
    · repeat' (first | with_reducible refine Sq.go ?_ | ((with_reducible refine Ev.mk ?_); conv => whnf) | with_reducible refine Dr.mk ⟨by kernel_rfl, by kernel_rfl⟩ ?_ | with_reducible refine obG ?_ | with_reducible refine Ob.mk ?_ ?_ | (with_reducible first | refine brT fun h => ?_ | refine brF fun h => ?_ | refine Br.mk (fun h => ?_) fun h => ?_) <;> (try simp only [bsl, beq_iff_eq, bne_iff_ne, bs2] at h) <;> (try contradiction) <;> try (exfalso; omega))
      exact ⟨rfl, True.intro⟩
    have hwl := hws kw hk2
    obtain ⟨w, hwd⟩ : ∃ w, [which, found].getD kw default = w := ⟨_, rfl⟩
    rw [hwd] at hwl
    have hwo : [which, found].getD (oadd 0 (kw : Int).toNat) default = w := by rw [oadd_eq, Nat.zero_add]; exact hwd
    have hX := hE taken (by omega) l (by omega) w (by omega)
    cases he : exeX taken l w with
    | none =>
      obtain ⟨e1, e2, e3⟩ := ex_none he
      rw [e1, e2, e3] at hX
      repeat' (first | ((with_reducible refine Ev.mk ?_); conv => whnf) | with_reducible refine Dr.mk ⟨by kernel_rfl, by kernel_rfl⟩ ?_ | with_reducible refine obG ?_ | with_reducible refine Ob.mk ?_ ?_ | (with_reducible first | refine brT fun h => ?_ | refine brF fun h => ?_ | refine Br.mk (fun h => ?_) fun h => ?_) <;> (try simp only [bsl, beq_iff_eq, bne_iff_ne, bs2] at h) <;> (try contradiction) <;> try (exfalso; omega))
      refine Sq.go ?_
      repeat' (first | ((with_reducible refine Ev.mk ?_); conv => whnf) | with_reducible refine Dr.mk ⟨by kernel_rfl, by kernel_rfl⟩ ?_ | with_reducible refine obG ?_ | with_reducible refine Ob.mk ?_ ?_ | (with_reducible first | refine brT fun h => ?_ | refine brF fun h => ?_ | refine Br.mk (fun h => ?_) fun h => ?_) <;> (try simp only [bsl, beq_iff_eq, bne_iff_ne, bs2] at h) <;> (try contradiction) <;> try (exfalso; omega))
      refine Sq.go ?_
      repeat' (first | ((with_reducible refine Ev.mk ?_); conv => whnf) | with_reducible refine Dr.mk ⟨by kernel_rfl, by kernel_rfl⟩ ?_ | with_reducible refine obG ?_ | with_reducible refine Ob.mk ?_ ?_ | (with_reducible first | refine brT fun h => ?_ | refine brF fun h => ?_ | refine Br.mk (fun h => ?_) fun h => ?_) <;> (try simp only [bsl, beq_iff_eq, bne_iff_ne, bs2] at h) <;> (try contradiction) <;> try (exfalso; omega))
      refine Sq.go ?_
      repeat' (first | ((with_reducible refine Ev.mk ?_); conv => whnf) | with_reducible refine Dr.mk ⟨by kernel_rfl, by kernel_rfl⟩ ?_ | with_reducible refine obG ?_ | with_reducible refine Ob.mk ?_ ?_ | (with_reducible first | refine brT fun h => ?_ | refine brF fun h => ?_ | refine Br.mk (fun h => ?_) fun h => ?_) <;> (try simp only [bsl, beq_iff_eq, bne_iff_ne, bs2] at h) <;> (try contradiction) <;> try (exfalso; omega))
      simp (config := { beta := false, eta := false, iota := false, proj := false, zeta := false, decide := false }) only [hwo]
      repeat' (first | with_reducible refine Sq.go ?_ | ((with_reducible refine Ev.mk ?_); conv => whnf) | with_reducible refine Dr.mk ⟨by kernel_rfl, by kernel_rfl⟩ ?_ | with_reducible refine obG ?_ | with_reducible refine Ob.mk ?_ ?_ | (with_reducible first | refine brT fun h => ?_ | refine brF fun h => ?_ | refine Br.mk (fun h => ?_) fun h => ?_) <;> (try simp only [bsl, beq_iff_eq, bne_iff_ne, bs2] at h) <;> (try contradiction) <;> try (exfalso; omega))
      refine hX.call ?_
      repeat' (first | with_reducible refine Sq.go ?_ | ((with_reducible refine Ev.mk ?_); conv => whnf) | with_reducible refine Dr.mk ⟨by kernel_rfl, by kernel_rfl⟩ ?_ | with_reducible refine obG ?_ | with_reducible refine Ob.mk ?_ ?_ | (with_reducible first | refine brT fun h => ?_ | refine brF fun h => ?_ | refine Br.mk (fun h => ?_) fun h => ?_) <;> (try simp only [bsl, beq_iff_eq, bne_iff_ne, bs2] at h) <;> (try contradiction) <;> try (exfalso; omega))
      refine ⟨kw + 1, by show kw + 1 ≤ 2; omega, by show 2 - (kw + 1) < 2 - kw; omega, ?_⟩
      repeat' (first | exact True.intro | exact rfl | exact Nat.le_refl _ | refine And.intro ?_ ?_)
      all_goals (intro i hi; exact ⟨rfl, rfl⟩)
    | some y =>
      obtain ⟨x, r⟩ := y
      obtain ⟨e1, e2, e3⟩ := ex_some he
      rw [e1, e2, e3] at hX
      dsimp only at hX
      obtain ⟨z, hD⟩ := exe_done he
      have hxl : x.length ≤ 1000 := by have := (exeX_len he).1; dsimp only at this; omega
      have hrl : r.length ≤ 1000 := by have := (exeX_len he).2; dsimp only at this; omega
      have hcy := fun k (hk : k < w.length) => isC_at hD.cyc hk
      repeat' (first | ((with_reducible refine Ev.mk ?_); conv => whnf) | with_reducible refine Dr.mk ⟨by kernel_rfl, by kernel_rfl⟩ ?_ | with_reducible refine obG ?_ | with_reducible refine Ob.mk ?_ ?_ | (with_reducible first | refine brT fun h => ?_ | refine brF fun h => ?_ | refine Br.mk (fun h => ?_) fun h => ?_) <;> (try simp only [bsl, beq_iff_eq, bne_iff_ne, bs2] at h) <;> (try contradiction) <;> try (exfalso; omega))
      refine Sq.go ?_
      repeat' (first | ((with_reducible refine Ev.mk ?_); conv => whnf) | with_reducible refine Dr.mk ⟨by kernel_rfl, by kernel_rfl⟩ ?_ | with_reducible refine obG ?_ | with_reducible refine Ob.mk ?_ ?_ | (with_reducible first | refine brT fun h => ?_ | refine brF fun h => ?_ | refine Br.mk (fun h => ?_) fun h => ?_) <;> (try simp only [bsl, beq_iff_eq, bne_iff_ne, bs2] at h) <;> (try contradiction) <;> try (exfalso; omega))
      refine Sq.go ?_
      repeat' (first | ((with_reducible refine Ev.mk ?_); conv => whnf) | with_reducible refine Dr.mk ⟨by kernel_rfl, by kernel_rfl⟩ ?_ | with_reducible refine obG ?_ | with_reducible refine Ob.mk ?_ ?_ | (with_reducible first | refine brT fun h => ?_ | refine brF fun h => ?_ | refine Br.mk (fun h => ?_) fun h => ?_) <;> (try simp only [bsl, beq_iff_eq, bne_iff_ne, bs2] at h) <;> (try contradiction) <;> try (exfalso; omega))
      refine Sq.go ?_
      repeat' (first | ((with_reducible refine Ev.mk ?_); conv => whnf) | with_reducible refine Dr.mk ⟨by kernel_rfl, by kernel_rfl⟩ ?_ | with_reducible refine obG ?_ | with_reducible refine Ob.mk ?_ ?_ | (with_reducible first | refine brT fun h => ?_ | refine brF fun h => ?_ | refine Br.mk (fun h => ?_) fun h => ?_) <;> (try simp only [bsl, beq_iff_eq, bne_iff_ne, bs2] at h) <;> (try contradiction) <;> try (exfalso; omega))
      simp (config := { beta := false, eta := false, iota := false, proj := false, zeta := false, decide := false }) only [hwo]
      repeat' (first | with_reducible refine Sq.go ?_ | ((with_reducible refine Ev.mk ?_); conv => whnf) | with_reducible refine Dr.mk ⟨by kernel_rfl, by kernel_rfl⟩ ?_ | with_reducible refine obG ?_ | with_reducible refine Ob.mk ?_ ?_ | (with_reducible first | refine brT fun h => ?_ | refine brF fun h => ?_ | refine Br.mk (fun h => ?_) fun h => ?_) <;> (try simp only [bsl, beq_iff_eq, bne_iff_ne, bs2] at h) <;> (try contradiction) <;> try (exfalso; omega))
      refine hX.call ?_
      repeat' (first | with_reducible refine Sq.go ?_ | ((with_reducible refine Ev.mk ?_); conv => whnf) | with_reducible refine Dr.mk ⟨by kernel_rfl, by kernel_rfl⟩ ?_ | with_reducible refine obG ?_ | with_reducible refine Ob.mk ?_ ?_ | (with_reducible first | refine brT fun h => ?_ | refine brF fun h => ?_ | refine Br.mk (fun h => ?_) fun h => ?_) <;> (try simp only [bsl, beq_iff_eq, bne_iff_ne, bs2] at h) <;> (try contradiction) <;> try (exfalso; omega))
      refine loop_rule hT (S := Nat) (fun k => ([(0, .d (eSeats taken)), (1, .d (eSwaps l)), (10, .d (eInts w)), (11, .d (eSeats x)), (12, .d (eSwaps r)), (14, .mp (.loc 1)), (49, .osl (.loc 0) 0 0 2), (50, .d (.int .i64 2)), (51, .d (.int .i64 kw)), (76, .d (eInts w)), (77, .d (.int .i64 w.length)), (78, .d (.int .i64 k))],
        ⟨[some (.vec 36 1 0 2 (rowWs [which, found])), some (.map (.one .i64) (hasL (conK l w k)) fun x => .d (.bool (hasL (conK l w k) x)))], []⟩)) (fun k => k ≤ w.length) (fun k => w.length - k) 0 ?_ ?_ ?_
      · repeat' (first | exact True.intro | exact rfl | exact Nat.le_refl _ | refine And.intro ?_ ?_)
        all_goals first
          | (intro i hi; exact ⟨rfl, rfl⟩)
          | (intro key hf; exact ⟨rfl, fun h => by cases h⟩)
          | trace_state
      · exact Nat.zero_le _
      · intro k hk
        by_cases hk2 : k < w.length
        · obtain ⟨x0, x1⟩ := (hcy k hk2).1
          have hsw : l.getD (w.getD (k : Int).toNat default).toNat default = swA l w k := rfl
          have hxb : 0 ≤ w.getD (k : Int).toNat default ∧ w.getD (k : Int).toNat default < l.length := ⟨x0, x1⟩
          have hsn := conK_succ (l := l) hk2
          repeat' (first | with_reducible refine Sq.go ?_ | ((with_reducible refine Ev.mk ?_); conv => whnf) | with_reducible refine Dr.mk ⟨by kernel_rfl, by kernel_rfl⟩ ?_ | with_reducible refine obG ?_ | with_reducible refine Ob.mk ?_ ?_ | (with_reducible first | refine brT fun h => ?_ | refine brF fun h => ?_ | refine Br.mk (fun h => ?_) fun h => ?_) <;> (try simp only [bsl, beq_iff_eq, bne_iff_ne, bs2] at h) <;> (try contradiction) <;> try (exfalso; omega))
          simp (config := { beta := false, eta := false, iota := false, proj := false, zeta := false, decide := false }) only [hsw]
          refine ⟨k + 1, by show k + 1 ≤ w.length; omega, by show w.length - (k + 1) < w.length - k; omega, ?_⟩
          dsimp only
          rw [hsn]
          repeat' (first | exact True.intro | exact rfl | exact Nat.le_refl _ | refine And.intro ?_ ?_)
          all_goals first
            | (intro i hi; exact ⟨rfl, rfl⟩)
            | (intro key hf
               have hs := hasL_snoc (conK l w k) [(swA l w k).student] key
               exact ⟨hs, fun hh => ⟨(mapT hh).trans (congrArg (fun b => AV.d (D.bool b)) (hh.symm.trans hs)), rfl⟩⟩)
            | trace_state
        · have hkw2 : k = w.length := by omega
          subst hkw2
          repeat' (first | with_reducible refine Sq.go ?_ | ((with_reducible refine Ev.mk ?_); conv => whnf) | with_reducible refine Dr.mk ⟨by kernel_rfl, by kernel_rfl⟩ ?_ | with_reducible refine obG ?_ | with_reducible refine Ob.mk ?_ ?_ | (with_reducible first | refine brT fun h => ?_ | refine brF fun h => ?_ | refine Br.mk (fun h => ?_) fun h => ?_) <;> (try simp only [bsl, beq_iff_eq, bne_iff_ne, bs2] at h) <;> (try contradiction) <;> try (exfalso; omega))
          refine loop_rule hT (S := Nat) (fun k => ([(0, .d (eSeats taken)), (1, .d (eSwaps l)), (10, .d (eInts w)), (11, .d (eSeats x)), (12, .d (eSwaps r)), (14, .mp (.loc 1)), (17, .mp (.loc 2)), (18, .mp (.loc 3)), (49, .osl (.loc 0) 0 0 2), (50, .d (.int .i64 2)), (51, .d (.int .i64 kw)), (99, .d (eSeats taken)), (100, .d (.int .i64 taken.length)), (101, .d (.int .i64 k))],
            ⟨[some (.vec 36 1 0 2 (rowWs [which, found])), some (.map (.one .i64) (hasL (conK l w w.length)) fun x => .d (.bool (hasL (conK l w w.length) x))), some (.map (.many [.i64, .i64]) (hasS plK (taken.take k) []) (valS plK (taken.take k) [])), some (.map (.many [.i64, .i64, .i64]) (hasS owK (taken.take k) []) (valS owK (taken.take k) []))], []⟩)) (fun k => k ≤ taken.length) (fun k => taken.length - k) 0 ?_ ?_ ?_
          · repeat' (first | exact True.intro | exact rfl | exact Nat.le_refl _ | refine And.intro ?_ ?_)
            all_goals first
              | (intro i hi; exact ⟨rfl, rfl⟩)
              | (intro key hf; exact ⟨rfl, fun h => by cases h⟩)
              | (intro key hf; exact ⟨rfl, fun _ => ⟨rfl, rfl⟩⟩)
              | trace_state
          · exact Nat.zero_le _
          · intro k hk
            by_cases hk2 : k < taken.length
            · have hts := take_succ_at hk2
              obtain ⟨s, hs⟩ : ∃ s, taken.getD k default = s := ⟨_, rfl⟩
              rw [hs] at hts
              have hs2 : taken.getD (k : Int).toNat default = s := hs
              have htkl : (taken.take k).length ≤ 1000 := by rw [List.length_take]; omega
              obtain ⟨tk, htk⟩ : ∃ tk, taken.take k = tk := ⟨_, rfl⟩
              dsimp only
              rw [htk] at htkl hts ⊢
              have hnil : ([] : List Seat).length ≤ 1000 := Nat.zero_le _
              repeat' (first | ((with_reducible refine Ev.mk ?_); conv => whnf) | with_reducible refine Dr.mk ⟨by kernel_rfl, by kernel_rfl⟩ ?_ | with_reducible refine obG ?_ | with_reducible refine Ob.mk ?_ ?_ | (with_reducible first | refine brT fun h => ?_ | refine brF fun h => ?_ | refine Br.mk (fun h => ?_) fun h => ?_) <;> (try simp only [bsl, beq_iff_eq, bne_iff_ne, bs2] at h) <;> (try contradiction) <;> try (exfalso; omega))
              refine Sq.go ?_
              repeat' (first | ((with_reducible refine Ev.mk ?_); conv => whnf) | with_reducible refine Dr.mk ⟨by kernel_rfl, by kernel_rfl⟩ ?_ | with_reducible refine obG ?_ | with_reducible refine Ob.mk ?_ ?_ | (with_reducible first | refine brT fun h => ?_ | refine brF fun h => ?_ | refine Br.mk (fun h => ?_) fun h => ?_) <;> (try simp only [bsl, beq_iff_eq, bne_iff_ne, bs2] at h) <;> (try contradiction) <;> try (exfalso; omega))
              refine Sq.go ?_
              repeat' (first | ((with_reducible refine Ev.mk ?_); conv => whnf) | with_reducible refine Dr.mk ⟨by kernel_rfl, by kernel_rfl⟩ ?_ | with_reducible refine obG ?_ | with_reducible refine Ob.mk ?_ ?_ | (with_reducible first | refine brT fun h => ?_ | refine brF fun h => ?_ | refine Br.mk (fun h => ?_) fun h => ?_) <;> (try simp only [bsl, beq_iff_eq, bne_iff_ne, bs2] at h) <;> (try contradiction) <;> try (exfalso; omega))
              simp (config := { beta := false, eta := false, iota := false, proj := false, zeta := false, decide := false }) only [hs2]
              refine Sq.alt (Awp.seq (Awp.inc hT (by kernel_rfl) (by kernel_rfl) (by kernel_rfl) 8 10 rfl rfl rfl (by kernel_rfl) rfl (by kernel_rfl) rfl rfl rfl rfl (by kernel_rfl) (by kernel_rfl) (by kernel_rfl) rfl (r := .loc 2) rfl (key := plK s) rfl (fun h => ?_) (new := .d (.int .i64 (cnt plK tk (plK s) - cnt plK [] (plK s) + 1))) (fun c => ?_)))
              · show ZFit _ (.d (.int .i64 _))
                rw [valS_none h]
                exact rfl
              conv => whnf
              repeat' (first | ((with_reducible refine Ev.mk ?_); conv => whnf) | with_reducible refine Dr.mk ⟨by kernel_rfl, by kernel_rfl⟩ ?_ | with_reducible refine obG ?_ | with_reducible refine Ob.mk ?_ ?_ | (with_reducible first | refine brT fun h => ?_ | refine brF fun h => ?_ | refine Br.mk (fun h => ?_) fun h => ?_) <;> (try simp only [bsl, beq_iff_eq, bne_iff_ne, bs2] at h) <;> (try contradiction) <;> try (exfalso; omega))
              · intro h
                show ZFit _ (.d (.int .i64 _))
                rw [valS_none h]
                exact rfl
              · have b1 := cnt_le plK tk (plK s)
                have b2 := cnt_le plK [] (plK s)
                exact in64.2 (by omega)
              refine ⟨rfl, rfl, rfl, rfl, rfl, Ev.mk ?_⟩
              refine (Awp.inc hT (by kernel_rfl) (by kernel_rfl) (by kernel_rfl) 4 6 rfl rfl rfl (by kernel_rfl) rfl (by kernel_rfl) rfl rfl rfl rfl (by kernel_rfl) (by kernel_rfl) (by kernel_rfl) rfl (r := .loc 3) rfl (key := owK s) rfl (fun h => ?_) (new := .d (.int .i64 (cnt owK tk (owK s) - cnt owK [] (owK s) + 1))) (fun c => ?_))
              · show ZFit _ (.d (.int .i64 _))
                rw [valS_none h]
                exact rfl
              conv => whnf
              repeat' (first | ((with_reducible refine Ev.mk ?_); conv => whnf) | with_reducible refine Dr.mk ⟨by kernel_rfl, by kernel_rfl⟩ ?_ | with_reducible refine obG ?_ | with_reducible refine Ob.mk ?_ ?_ | (with_reducible first | refine brT fun h => ?_ | refine brF fun h => ?_ | refine Br.mk (fun h => ?_) fun h => ?_) <;> (try simp only [bsl, beq_iff_eq, bne_iff_ne, bs2] at h) <;> (try contradiction) <;> try (exfalso; omega))
              · intro h
                show ZFit _ (.d (.int .i64 _))
                rw [valS_none h]
                exact rfl
              · have b1 := cnt_le owK tk (owK s)
                have b2 := cnt_le owK [] (owK s)
                exact in64.2 (by omega)
              refine ⟨rfl, rfl, rfl, rfl, rfl, Ev.mk ?_⟩
              repeat' (first | with_reducible refine Sq.go ?_ | ((with_reducible refine Ev.mk ?_); conv => whnf) | with_reducible refine Dr.mk ⟨by kernel_rfl, by kernel_rfl⟩ ?_ | with_reducible refine obG ?_ | with_reducible refine Ob.mk ?_ ?_ | (with_reducible first | refine brT fun h => ?_ | refine brF fun h => ?_ | refine Br.mk (fun h => ?_) fun h => ?_) <;> (try simp only [bsl, beq_iff_eq, bne_iff_ne, bs2] at h) <;> (try contradiction) <;> try (exfalso; omega))
              refine ⟨k + 1, by show k + 1 ≤ taken.length; omega, by show taken.length - (k + 1) < taken.length - k; omega, ?_⟩
              dsimp only
              rw [hts]
              repeat' (first | exact True.intro | exact rfl | exact Nat.le_refl _ | refine And.intro ?_ ?_)
              all_goals first
                | (intro i hi; exact ⟨rfl, rfl⟩)
                | (intro key hf; exact ⟨rfl, fun _ => ⟨rfl, rfl⟩⟩)
                | (intro key hf; exact ⟨hasS_left _ _ _ _, fun _ => ⟨valS_left _ _ _ _, rfl⟩⟩)
                | trace_state
            · have hkt : k = taken.length := by omega
              subst hkt
              dsimp only
              rw [List.take_length]
              repeat' (first | with_reducible refine Sq.go ?_ | ((with_reducible refine Ev.mk ?_); conv => whnf) | with_reducible refine Dr.mk ⟨by kernel_rfl, by kernel_rfl⟩ ?_ | with_reducible refine obG ?_ | with_reducible refine Ob.mk ?_ ?_ | (with_reducible first | refine brT fun h => ?_ | refine brF fun h => ?_ | refine Br.mk (fun h => ?_) fun h => ?_) <;> (try simp only [bsl, beq_iff_eq, bne_iff_ne, bs2] at h) <;> (try contradiction) <;> try (exfalso; omega))
              refine loop_rule hT (S := Nat) (fun k => ([(0, .d (eSeats taken)), (1, .d (eSwaps l)), (10, .d (eInts w)), (11, .d (eSeats x)), (12, .d (eSwaps r)), (14, .mp (.loc 1)), (17, .mp (.loc 2)), (18, .mp (.loc 3)), (49, .osl (.loc 0) 0 0 2), (50, .d (.int .i64 2)), (51, .d (.int .i64 kw)), (122, .d (eSeats x)), (123, .d (.int .i64 x.length)), (124, .d (.int .i64 k))],
                ⟨[some (.vec 36 1 0 2 (rowWs [which, found])), some (.map (.one .i64) (hasL (conK l w w.length)) fun x => .d (.bool (hasL (conK l w w.length) x))), some (.map (.many [.i64, .i64]) (hasS plK taken (x.take k)) (valS plK taken (x.take k))), some (.map (.many [.i64, .i64, .i64]) (hasS owK taken (x.take k)) (valS owK taken (x.take k)))], []⟩)) (fun k => k ≤ x.length) (fun k => x.length - k) 0 ?_ ?_ ?_
              · repeat' (first | exact True.intro | exact rfl | exact Nat.le_refl _ | refine And.intro ?_ ?_)
                all_goals first
                  | (intro i hi; exact ⟨rfl, rfl⟩)
                  | (intro key hf; exact ⟨rfl, fun _ => ⟨rfl, rfl⟩⟩)
                  | trace_state
              · exact Nat.zero_le _
              · intro k hk
                by_cases hk2 : k < x.length
                · have hts := take_succ_at hk2
                  obtain ⟨s, hs⟩ : ∃ s, x.getD k default = s := ⟨_, rfl⟩
                  rw [hs] at hts
                  have hs2 : x.getD (k : Int).toNat default = s := hs
                  have htkl : (x.take k).length ≤ 1000 := by rw [List.length_take]; omega
                  obtain ⟨tk, htk⟩ : ∃ tk, x.take k = tk := ⟨_, rfl⟩
                  dsimp only
                  rw [htk] at htkl hts ⊢
                  repeat' (first | ((with_reducible refine Ev.mk ?_); conv => whnf) | with_reducible refine Dr.mk ⟨by kernel_rfl, by kernel_rfl⟩ ?_ | with_reducible refine obG ?_ | with_reducible refine Ob.mk ?_ ?_ | (with_reducible first | refine brT fun h => ?_ | refine brF fun h => ?_ | refine Br.mk (fun h => ?_) fun h => ?_) <;> (try simp only [bsl, beq_iff_eq, bne_iff_ne, bs2] at h) <;> (try contradiction) <;> try (exfalso; omega))
                  refine Sq.go ?_
                  repeat' (first | ((with_reducible refine Ev.mk ?_); conv => whnf) | with_reducible refine Dr.mk ⟨by kernel_rfl, by kernel_rfl⟩ ?_ | with_reducible refine obG ?_ | with_reducible refine Ob.mk ?_ ?_ | (with_reducible first | refine brT fun h => ?_ | refine brF fun h => ?_ | refine Br.mk (fun h => ?_) fun h => ?_) <;> (try simp only [bsl, beq_iff_eq, bne_iff_ne, bs2] at h) <;> (try contradiction) <;> try (exfalso; omega))
                  refine Sq.go ?_
                  repeat' (first | ((with_reducible refine Ev.mk ?_); conv => whnf) | with_reducible refine Dr.mk ⟨by kernel_rfl, by kernel_rfl⟩ ?_ | with_reducible refine obG ?_ | with_reducible refine Ob.mk ?_ ?_ | (with_reducible first | refine brT fun h => ?_ | refine brF fun h => ?_ | refine Br.mk (fun h => ?_) fun h => ?_) <;> (try simp only [bsl, beq_iff_eq, bne_iff_ne, bs2] at h) <;> (try contradiction) <;> try (exfalso; omega))
                  simp (config := { beta := false, eta := false, iota := false, proj := false, zeta := false, decide := false }) only [hs2]
                  refine Sq.alt (Awp.seq (Awp.inc hT (by kernel_rfl) (by kernel_rfl) (by kernel_rfl) 8 10 rfl rfl rfl (by kernel_rfl) rfl (by kernel_rfl) rfl rfl rfl rfl (by kernel_rfl) (by kernel_rfl) (by kernel_rfl) rfl (r := .loc 2) rfl (key := plK s) rfl (fun h => ?_) (new := .d (.int .i64 (cnt plK taken (plK s) - cnt plK tk (plK s) - 1))) (fun c => ?_)))
                  · show ZFit _ (.d (.int .i64 _))
                    rw [valS_none h]
                    exact rfl
                  conv => whnf
                  repeat' (first | ((with_reducible refine Ev.mk ?_); conv => whnf) | with_reducible refine Dr.mk ⟨by kernel_rfl, by kernel_rfl⟩ ?_ | with_reducible refine obG ?_ | with_reducible refine Ob.mk ?_ ?_ | (with_reducible first | refine brT fun h => ?_ | refine brF fun h => ?_ | refine Br.mk (fun h => ?_) fun h => ?_) <;> (try simp only [bsl, beq_iff_eq, bne_iff_ne, bs2] at h) <;> (try contradiction) <;> try (exfalso; omega))
                  · intro h
                    show ZFit _ (.d (.int .i64 _))
                    rw [valS_none h]
                    exact rfl
                  · have b1 := cnt_le plK taken (plK s)
                    have b2 := cnt_le plK tk (plK s)
                    exact in64.2 (by omega)
                  refine ⟨rfl, rfl, rfl, rfl, rfl, Ev.mk ?_⟩
                  refine Awp.seq (Awp.inc hT (by kernel_rfl) (by kernel_rfl) (by kernel_rfl) 4 6 rfl rfl rfl (by kernel_rfl) rfl (by kernel_rfl) rfl rfl rfl rfl (by kernel_rfl) (by kernel_rfl) (by kernel_rfl) rfl (r := .loc 3) rfl (key := owK s) rfl (fun h => ?_) (new := .d (.int .i64 (cnt owK taken (owK s) - cnt owK tk (owK s) - 1))) (fun c => ?_))
                  · show ZFit _ (.d (.int .i64 _))
                    rw [valS_none h]
                    exact rfl
                  conv => whnf
                  repeat' (first | ((with_reducible refine Ev.mk ?_); conv => whnf) | with_reducible refine Dr.mk ⟨by kernel_rfl, by kernel_rfl⟩ ?_ | with_reducible refine obG ?_ | with_reducible refine Ob.mk ?_ ?_ | (with_reducible first | refine brT fun h => ?_ | refine brF fun h => ?_ | refine Br.mk (fun h => ?_) fun h => ?_) <;> (try simp only [bsl, beq_iff_eq, bne_iff_ne, bs2] at h) <;> (try contradiction) <;> try (exfalso; omega))
                  · intro h
                    show ZFit _ (.d (.int .i64 _))
                    rw [valS_none h]
                    exact rfl
                  · have b1 := cnt_le owK taken (owK s)
                    have b2 := cnt_le owK tk (owK s)
                    exact in64.2 (by omega)
                  refine ⟨rfl, rfl, rfl, rfl, rfl, Ev.mk (vc_ok hT _ _ _ _ (Ev.o ?_))⟩
                  cases k with
                  | zero =>
                    repeat' (first | with_reducible refine Sq.go ?_ | ((with_reducible refine Ev.mk ?_); conv => whnf) | with_reducible refine Dr.mk ⟨by kernel_rfl, by kernel_rfl⟩ ?_ | with_reducible refine obG ?_ | with_reducible refine Ob.mk ?_ ?_ | (with_reducible first | refine brT fun h => ?_ | refine brF fun h => ?_ | refine Br.mk (fun h => ?_) fun h => ?_) <;> (try simp only [bsl, beq_iff_eq, bne_iff_ne, bs2] at h) <;> (try contradiction) <;> try (exfalso; omega))
                    refine ⟨0 + 1, by show 0 + 1 ≤ x.length; omega, by show x.length - (0 + 1) < x.length - 0; omega, ?_⟩
                    dsimp only
                    rw [hts]
                    repeat' (first | exact True.intro | exact rfl | exact Nat.le_refl _ | refine And.intro ?_ ?_)
                    all_goals first
                      | (intro i hi; exact ⟨rfl, rfl⟩)
                      | (intro key hf; exact ⟨rfl, fun _ => ⟨rfl, rfl⟩⟩)
                      | (intro key hf; exact ⟨hasS_right _ _ _ _ _, fun _ => ⟨valS_right _ _ _ _ _, rfl⟩⟩)
                      | trace_state
                  | succ j =>
                    have e1 : (((j + 1 : Nat) : Int) - 1).toNat = j := by omega
                    have hno := ord_next hD.ordx hk2
                    rw [hs] at hno
                    repeat' (first | with_reducible refine Sq.go ?_ | ((with_reducible refine Ev.mk ?_); conv => whnf) | with_reducible refine Dr.mk ⟨by kernel_rfl, by kernel_rfl⟩ ?_ | with_reducible refine obG ?_ | with_reducible refine Ob.mk ?_ ?_ | (with_reducible first | refine brT fun h => ?_ | refine brF fun h => ?_ | refine Br.mk (fun h => ?_) fun h => ?_) <;> (try simp only [bsl, beq_iff_eq, bne_iff_ne, bs2] at h) <;> (try contradiction) <;> try (exfalso; omega))
                    · exfalso
                      rw [e1] at h
                      omega
                    · skip
                      refine ⟨(j + 1) + 1, by show (j + 1) + 1 ≤ x.length; omega, by show x.length - ((j + 1) + 1) < x.length - (j + 1); omega, ?_⟩
                      dsimp only
                      rw [hts]
                      repeat' (first | exact True.intro | exact rfl | exact Nat.le_refl _ | refine And.intro ?_ ?_)
                      all_goals first
                        | (intro i hi; exact ⟨rfl, rfl⟩)
                        | (intro key hf; exact ⟨rfl, fun _ => ⟨rfl, rfl⟩⟩)
                        | (intro key hf; exact ⟨hasS_right _ _ _ _ _, fun _ => ⟨valS_right _ _ _ _ _, rfl⟩⟩)
                        | trace_state
                · have hkt : k = x.length := by omega
                  subst hkt
                  dsimp only
                  rw [List.take_length]
                  repeat' (first | ((with_reducible refine Ev.mk ?_); conv => whnf) | with_reducible refine Dr.mk ⟨by kernel_rfl, by kernel_rfl⟩ ?_ | with_reducible refine obG ?_ | with_reducible refine Ob.mk ?_ ?_ | (with_reducible first | refine brT fun h => ?_ | refine brF fun h => ?_ | refine Br.mk (fun h => ?_) fun h => ?_) <;> (try simp only [bsl, beq_iff_eq, bne_iff_ne, bs2] at h) <;> (try contradiction) <;> try (exfalso; omega))
                  refine Sq.go ?_
                  repeat' (first | ((with_reducible refine Ev.mk ?_); conv => whnf) | with_reducible refine Dr.mk ⟨by kernel_rfl, by kernel_rfl⟩ ?_ | with_reducible refine obG ?_ | with_reducible refine Ob.mk ?_ ?_ | (with_reducible first | refine brT fun h => ?_ | refine brF fun h => ?_ | refine Br.mk (fun h => ?_) fun h => ?_) <;> (try simp only [bsl, beq_iff_eq, bne_iff_ne, bs2] at h) <;> (try contradiction) <;> try (exfalso; omega))
                  refine Sq.alt (Awp.frz [2] 17 (.mapd (.many [.i64, .i64]) (hasS plK taken x) fun key => .int .i64 (cnt plK taken key - cnt plK x key)) (.mp rfl fun k hk => .d) (vc_ok hT _ _ _ _ (Ev.o ?_)))
                  repeat' (first | with_reducible refine Sq.go ?_ | ((with_reducible refine Ev.mk ?_); conv => whnf) | with_reducible refine Dr.mk ⟨by kernel_rfl, by kernel_rfl⟩ ?_ | with_reducible refine obG ?_ | with_reducible refine Ob.mk ?_ ?_ | (with_reducible first | refine brT fun h => ?_ | refine brF fun h => ?_ | refine Br.mk (fun h => ?_) fun h => ?_) <;> (try simp only [bsl, beq_iff_eq, bne_iff_ne, bs2] at h) <;> (try contradiction) <;> try (exfalso; omega))
                  refine op_range hT rfl rfl rfl (fun left hnd hmem => ?_)
                  repeat' (first | with_reducible refine Sq.go ?_ | ((with_reducible refine Ev.mk ?_); conv => whnf) | with_reducible refine Dr.mk ⟨by kernel_rfl, by kernel_rfl⟩ ?_ | with_reducible refine obG ?_ | with_reducible refine Ob.mk ?_ ?_ | (with_reducible first | refine brT fun h => ?_ | refine brF fun h => ?_ | refine Br.mk (fun h => ?_) fun h => ?_) <;> (try simp only [bsl, beq_iff_eq, bne_iff_ne, bs2] at h) <;> (try contradiction) <;> try (exfalso; omega))
                  have hpl : ∀ key, cnt plK taken key - cnt plK x key = 0 := fun key => by have := keep_place hD key; omega
                  refine loop_rule hT (S := List (List Int) × Option (List Int)) (fun y => ([(0, .d (eSeats taken)), (1, .d (eSwaps l)), (10, .d (eInts w)), (12, .d (eSwaps r)), (14, .mp (.loc 1)), (18, .mp (.loc 3)), (49, .osl (.loc 0) 0 0 2), (50, .d (.int .i64 2)), (51, .d (.int .i64 kw)), (182, .ptr (.loc 4) 0 0 0)],
                    ⟨[some (.vec 36 1 0 2 (rowWs [which, found])), some (.map (.one .i64) (hasL (conK l w w.length)) fun x => .d (.bool (hasL (conK l w w.length) x))), none, some (.map (.many [.i64, .i64, .i64]) (hasS owK taken x) (valS owK taken x)), some (.iter (.many [.i64, .i64]) (hasS plK taken x) (fun key => .int .i64 (cnt plK taken key - cnt plK x key)) y.1 y.2)], []⟩)) (fun y => True) (fun y => y.1.length) (left, none) ?_ ?_ ?_
                  · repeat' (first | exact True.intro | exact rfl | exact Nat.le_refl _ | refine And.intro ?_ ?_)
                    all_goals first
                      | (intro i hi; exact ⟨rfl, rfl⟩)
                      | (intro key hf; exact ⟨rfl, fun _ => ⟨rfl, rfl⟩⟩)
                      | trace_state
                  · exact True.intro
                  · rintro ⟨left, cur⟩ _
                    dsimp only
                    repeat' (first | with_reducible refine Sq.go ?_ | ((with_reducible refine Ev.mk ?_); conv => whnf) | with_reducible refine Dr.mk ⟨by kernel_rfl, by kernel_rfl⟩ ?_ | with_reducible refine obG ?_ | with_reducible refine Ob.mk ?_ ?_ | (with_reducible first | refine brT fun h => ?_ | refine brF fun h => ?_ | refine Br.mk (fun h => ?_) fun h => ?_) <;> (try simp only [bsl, beq_iff_eq, bne_iff_ne, bs2] at h) <;> (try contradiction) <;> try (exfalso; omega))
                    refine op_next rfl rfl rfl (fun hl => ?_) (fun key hkey => ?_)
                    · repeat' (first | ((with_reducible refine Ev.mk ?_); conv => whnf) | with_reducible refine Dr.mk ⟨by kernel_rfl, by kernel_rfl⟩ ?_ | with_reducible refine obG ?_ | with_reducible refine Ob.mk ?_ ?_ | (with_reducible first | refine brT fun h => ?_ | refine brF fun h => ?_ | refine Br.mk (fun h => ?_) fun h => ?_) <;> (try simp only [bsl, beq_iff_eq, bne_iff_ne, bs2] at h) <;> (try contradiction) <;> try (exfalso; omega))
                      refine Sq.go ?_
                      repeat' (first | ((with_reducible refine Ev.mk ?_); conv => whnf) | with_reducible refine Dr.mk ⟨by kernel_rfl, by kernel_rfl⟩ ?_ | with_reducible refine obG ?_ | with_reducible refine Ob.mk ?_ ?_ | (with_reducible first | refine brT fun h => ?_ | refine brF fun h => ?_ | refine Br.mk (fun h => ?_) fun h => ?_) <;> (try simp only [bsl, beq_iff_eq, bne_iff_ne, bs2] at h) <;> (try contradiction) <;> try (exfalso; omega))
                      refine Sq.alt (Awp.frz [3] 18 (.mapd (.many [.i64, .i64, .i64]) (hasS owK taken x) fun key => .int .i64 (cnt owK taken key - cnt owK x key)) (.mp rfl fun k hk => .d) (vc_ok hT _ _ _ _ (Ev.o ?_)))
                      repeat' (first | with_reducible refine Sq.go ?_ | ((with_reducible refine Ev.mk ?_); conv => whnf) | with_reducible refine Dr.mk ⟨by kernel_rfl, by kernel_rfl⟩ ?_ | with_reducible refine obG ?_ | with_reducible refine Ob.mk ?_ ?_ | (with_reducible first | refine brT fun h => ?_ | refine brF fun h => ?_ | refine Br.mk (fun h => ?_) fun h => ?_) <;> (try simp only [bsl, beq_iff_eq, bne_iff_ne, bs2] at h) <;> (try contradiction) <;> try (exfalso; omega))
                      refine op_range hT rfl rfl rfl (fun left2 hnd2 hmem2 => ?_)
                      repeat' (first | with_reducible refine Sq.go ?_ | ((with_reducible refine Ev.mk ?_); conv => whnf) | with_reducible refine Dr.mk ⟨by kernel_rfl, by kernel_rfl⟩ ?_ | with_reducible refine obG ?_ | with_reducible refine Ob.mk ?_ ?_ | (with_reducible first | refine brT fun h => ?_ | refine brF fun h => ?_ | refine Br.mk (fun h => ?_) fun h => ?_) <;> (try simp only [bsl, beq_iff_eq, bne_iff_ne, bs2] at h) <;> (try contradiction) <;> try (exfalso; omega))
                      refine loop_rule hT (S := List (List Int) × Option (List Int)) (fun y => ([(0, .d (eSeats taken)), (1, .d (eSwaps l)), (10, .d (eInts w)), (12, .d (eSwaps r)), (14, .mp (.loc 1)), (49, .osl (.loc 0) 0 0 2), (50, .d (.int .i64 2)), (51, .d (.int .i64 kw)), (190, .ptr (.loc 5) 0 0 0)],
                        ⟨[some (.vec 36 1 0 2 (rowWs [which, found])), some (.map (.one .i64) (hasL (conK l w w.length)) fun x => .d (.bool (hasL (conK l w w.length) x))), none, none, none, some (.iter (.many [.i64, .i64, .i64]) (hasS owK taken x) (fun key => .int .i64 (cnt owK taken key - cnt owK x key)) y.1 y.2)], []⟩)) (fun y => ∀ k ∈ y.1, k.length = 3) (fun y => y.1.length) (left2, none) ?_ ?_ ?_
                      · repeat' (first | exact True.intro | exact rfl | exact Nat.le_refl _ | refine And.intro ?_ ?_)
                        all_goals first
                          | (intro i hi; exact ⟨rfl, rfl⟩)
                          | (intro key hf; exact ⟨rfl, fun _ => ⟨rfl, rfl⟩⟩)
                          | trace_state
                      · exact fun k hk => ((hmem2 k).1 hk).1
                      · rintro ⟨left2, cur2⟩ hfit
                        dsimp only at hfit ⊢
                        repeat' (first | with_reducible refine Sq.go ?_ | ((with_reducible refine Ev.mk ?_); conv => whnf) | with_reducible refine Dr.mk ⟨by kernel_rfl, by kernel_rfl⟩ ?_ | with_reducible refine obG ?_ | with_reducible refine Ob.mk ?_ ?_ | (with_reducible first | refine brT fun h => ?_ | refine brF fun h => ?_ | refine Br.mk (fun h => ?_) fun h => ?_) <;> (try simp only [bsl, beq_iff_eq, bne_iff_ne, bs2] at h) <;> (try contradiction) <;> try (exfalso; omega))
                        refine op_next rfl rfl rfl (fun hl => ?_) (fun key hkey => ?_)
                        · have hrest := rest_len hD.cyc
                          have hchk := check30_ok r (by omega)
                          have hr0 : chk30 r = 0 := by rw [hD.rest]; exact rest_chk w hD.chk
                          rw [hr0] at hchk
                          rw [← hD.rest] at hrest
                          repeat' (first | with_reducible refine Sq.go ?_ | ((with_reducible refine Ev.mk ?_); conv => whnf) | with_reducible refine Dr.mk ⟨by kernel_rfl, by kernel_rfl⟩ ?_ | with_reducible refine obG ?_ | with_reducible refine Ob.mk ?_ ?_ | (with_reducible first | refine brT fun h => ?_ | refine brF fun h => ?_ | refine Br.mk (fun h => ?_) fun h => ?_) <;> (try simp only [bsl, beq_iff_eq, bne_iff_ne, bs2] at h) <;> (try contradiction) <;> try (exfalso; omega))
                          refine hchk.call ?_
                          repeat' (first | with_reducible refine Sq.go ?_ | ((with_reducible refine Ev.mk ?_); conv => whnf) | with_reducible refine Dr.mk ⟨by kernel_rfl, by kernel_rfl⟩ ?_ | with_reducible refine obG ?_ | with_reducible refine Ob.mk ?_ ?_ | (with_reducible first | refine brT fun h => ?_ | refine brF fun h => ?_ | refine Br.mk (fun h => ?_) fun h => ?_) <;> (try simp only [bsl, beq_iff_eq, bne_iff_ne, bs2] at h) <;> (try contradiction) <;> try (exfalso; omega))
                          refine ⟨kw + 1, by show kw + 1 ≤ 2; omega, by show 2 - (kw + 1) < 2 - kw; omega, ?_⟩
                          repeat' (first | exact True.intro | exact rfl | exact Nat.le_refl _ | refine And.intro ?_ ?_)
                          all_goals (intro i hi; exact ⟨rfl, rfl⟩)
                        · have hf3 := hfit key hkey
                          obtain ⟨a, b, c, rfl⟩ : ∃ a b c, key = [a, b, c] := by
                            match key, hf3 with
                            | [a, b, c], _ => exact ⟨a, b, c, rfl⟩
                          have hmeas : (left2.erase [a, b, c]).length < left2.length := by
                            have := List.length_pos_of_mem hkey
                            rw [List.length_erase_of_mem hkey]
                            omega
                          have hfit2 : ∀ k ∈ left2.erase [a, b, c], k.length = 3 := fun k hk => hfit k (List.mem_of_mem_erase hk)
                          cases hcn : hasL (conK l w w.length) [a]
                          · have hv := keep_own hD (b := b) (c := c) hcn
                            have hv : cnt owK taken [a, b, c] - cnt owK x [a, b, c] = 0 := by omega
                            repeat' (first | with_reducible refine Sq.go ?_ | ((with_reducible refine Ev.mk ?_); conv => whnf) | with_reducible refine Dr.mk ⟨by kernel_rfl, by kernel_rfl⟩ ?_ | with_reducible refine obG ?_ | with_reducible refine Ob.mk ?_ ?_ | (with_reducible first | refine brT fun h => ?_ | refine brF fun h => ?_ | refine Br.mk (fun h => ?_) fun h => ?_) <;> (try simp only [bsl, beq_iff_eq, bne_iff_ne, bs2] at h) <;> (try contradiction) <;> try (exfalso; omega))
                            refine op_entry rfl rfl rfl ?_
                            repeat' (first | with_reducible refine Sq.go ?_ | ((with_reducible refine Ev.mk ?_); conv => whnf) | with_reducible refine Dr.mk ⟨by kernel_rfl, by kernel_rfl⟩ ?_ | with_reducible refine obG ?_ | with_reducible refine Ob.mk ?_ ?_ | (with_reducible first | refine brT fun h => ?_ | refine brF fun h => ?_ | refine Br.mk (fun h => ?_) fun h => ?_) <;> (try simp only [bsl, beq_iff_eq, bne_iff_ne, bs2] at h) <;> (try contradiction) <;> try (exfalso; omega))
                            refine ⟨(left2.erase [a, b, c], some [a, b, c]), hfit2, hmeas, ?_⟩
                            repeat' (first | exact True.intro | exact rfl | exact Nat.le_refl _ | refine And.intro ?_ ?_)
                            all_goals first
                              | (intro i hi; exact ⟨rfl, rfl⟩)
                              | (intro key hf; exact ⟨rfl, fun _ => ⟨rfl, rfl⟩⟩)
                              | trace_state
                          · repeat' (first | with_reducible refine Sq.go ?_ | ((with_reducible refine Ev.mk ?_); conv => whnf) | with_reducible refine Dr.mk ⟨by kernel_rfl, by kernel_rfl⟩ ?_ | with_reducible refine obG ?_ | with_reducible refine Ob.mk ?_ ?_ | (with_reducible first | refine brT fun h => ?_ | refine brF fun h => ?_ | refine Br.mk (fun h => ?_) fun h => ?_) <;> (try simp only [bsl, beq_iff_eq, bne_iff_ne, bs2] at h) <;> (try contradiction) <;> try (exfalso; omega))
                            refine op_entry rfl rfl rfl ?_
                            repeat' (first | with_reducible refine Sq.go ?_ | ((with_reducible refine Ev.mk ?_); conv => whnf) | with_reducible refine Dr.mk ⟨by kernel_rfl, by kernel_rfl⟩ ?_ | with_reducible refine obG ?_ | with_reducible refine Ob.mk ?_ ?_ | (with_reducible first | refine brT fun h => ?_ | refine brF fun h => ?_ | refine Br.mk (fun h => ?_) fun h => ?_) <;> (try simp only [bsl, beq_iff_eq, bne_iff_ne, bs2] at h) <;> (try contradiction) <;> try (exfalso; omega))
                            · exact absurd h.1 (nf hcn)
                            · skip
                              refine ⟨(left2.erase [a, b, c], some [a, b, c]), hfit2, hmeas, ?_⟩
                              repeat' (first | exact True.intro | exact rfl | exact Nat.le_refl _ | refine And.intro ?_ ?_)
                              all_goals first
                                | (intro i hi; exact ⟨rfl, rfl⟩)
                                | (intro key hf; exact ⟨rfl, fun _ => ⟨rfl, rfl⟩⟩)
                                | trace_state
                    · have hv := hpl key
                      repeat' (first | with_reducible refine Sq.go ?_ | ((with_reducible refine Ev.mk ?_); conv => whnf) | with_reducible refine Dr.mk ⟨by kernel_rfl, by kernel_rfl⟩ ?_ | with_reducible refine obG ?_ | with_reducible refine Ob.mk ?_ ?_ | (with_reducible first | refine brT fun h => ?_ | refine brF fun h => ?_ | refine Br.mk (fun h => ?_) fun h => ?_) <;> (try simp only [bsl, beq_iff_eq, bne_iff_ne, bs2] at h) <;> (try contradiction) <;> try (exfalso; omega))
                      refine op_entry rfl rfl rfl ?_
                      repeat' (first | with_reducible refine Sq.go ?_ | ((with_reducible refine Ev.mk ?_); conv => whnf) | with_reducible refine Dr.mk ⟨by kernel_rfl, by kernel_rfl⟩ ?_ | with_reducible refine obG ?_ | with_reducible refine Ob.mk ?_ ?_ | (with_reducible first | refine brT fun h => ?_ | refine brF fun h => ?_ | refine Br.mk (fun h => ?_) fun h => ?_) <;> (try simp only [bsl, beq_iff_eq, bne_iff_ne, bs2] at h) <;> (try contradiction) <;> try (exfalso; omega))
                      refine ⟨(left.erase key, some key), True.intro, ?_, ?_⟩
                      · show (left.erase key).length < left.length
                        have := List.length_pos_of_mem hkey
                        rw [List.length_erase_of_mem hkey]
                        omega
                      repeat' (first | exact True.intro | exact rfl | exact Nat.le_refl _ | refine And.intro ?_ ?_)
                      all_goals first
                        | (intro i hi; exact ⟨rfl, rfl⟩)
                        | (intro key hf; exact ⟨rfl, fun _ => ⟨rfl, rfl⟩⟩)
                        | trace_state
end Go.Proofs.Ytnhadilbebgbjaa
