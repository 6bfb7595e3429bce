/-
  Swaps: Execute's own function, by which one seat is handed over.
-/
import Derived.Test.YtnhadilbebgbjaaSwapT
namespace Go.Proofs.Ytnhadilbebgbjaa
set_option linter.unusedSimpArgs false
set_option linter.unusedVariables false
open Go Go.Ab
set_option maxRecDepth 100000
set_option maxHeartbeats 0
def setSt (x : List Seat) (i : Nat) (to : Int) : List Seat := x.set i { x.getD i default with student := to }
theorem setSt_len (x : List Seat) (i : Nat) (to : Int) : (setSt x i to).length = x.length := List.length_set
theorem setSt_at (x : List Seat) (i : Nat) (to : Int) (hi : i < x.length) (j : Nat) : (setSt x i to).getD j default = if j = i then { x.getD i default with student := to } else x.getD j default := by
  unfold setSt
  rw [List.getD_eq_getElem?_getD]
  by_cases h : j = i
  · subst h
    rw [List.getElem?_set_self hi, if_pos rfl]
    rfl
  · rw [List.getElem?_set_ne (fun e => h e.symm), if_neg h, List.getD_eq_getElem?_getD]
theorem setSt_row (x : List Seat) (i : Nat) (to : Int) (hi : i < x.length) (j : Nat) : rowsS (setSt x i to) j = bif Nat.beq j i then splice (rowsS x i) 0 [.d (.int .i64 to)] else rowsS x j := by
  unfold rowsS
  rw [setSt_at x i to hi j]
  by_cases h : j = i
  · subst h
    rw [if_pos rfl, show Nat.beq j j = true from Nat.beq_refl j]
    rfl
  · rw [if_neg h, show Nat.beq j i = false from Bool.eq_false_iff.2 fun e => h (Nat.eq_of_beq_eq_true e)]
    rfl
def hasH (done : List Nat) : List Int → Bool := fun key => done.any fun a => decide (key = [(a : Int)])
theorem hasH_one (done : List Nat) (p : Nat) : hasH done [(p : Int)] = done.any fun a => decide (p = a) := by
  unfold hasH
  congr 1
  funext a
  rw [Bool.eq_iff_iff, decide_eq_true_eq, decide_eq_true_eq]
  constructor
  · intro h
    injection h with h
    omega
  · rintro rfl
    rfl
/-- What is handed: which seats have been, and the seats as they are then; none: it cannot be. -/
def hand (taken : List Seat) (z : List Nat × List Seat) (st sec to : Int) : Option (List Nat × List Seat) :=
  if 0 ≤ ix (seatB st sec) taken 0 then
    if z.1.any (fun a => decide ((ix (seatB st sec) taken 0).toNat = a)) = true then none
    else some ((ix (seatB st sec) taken 0).toNat :: z.1, setSt z.2 (ix (seatB st sec) taken 0).toNat to)
  else none
theorem hand_len {taken : List Seat} {z z' : List Nat × List Seat} {st sec to : Int} (h : hand taken z st sec to = some z') : z'.2.length = z.2.length := by
  unfold hand at h
  split at h <;> try (cases h; done)
  split at h <;> try (cases h; done)
  injection h with h
  subst h
  exact setSt_len _ _ _
def hMem (taken : List Seat) (g : Nat) (z : List Nat × List Seat) : Mem := ⟨[], [some (.box 40 [.d (eSeats taken)]), some (.box 47 [.mp (.arg 3)]), some (.box 40 [.osl (.arg 4) g 0 z.2.length]), some (.map (.one .i64) (hasH z.1) fun x => .d (.bool (hasH z.1 x))), some (.vec 51 3 g z.2.length (rowsS z.2))]⟩
theorem hand_ok (taken : List Seat) (ht : taken.length ≤ 1000) (hs : ordS taken = true) (z : List Nat × List Seat) (hx : z.2.length = taken.length) (st sec to : Int) (g : Nat) : CallVC Try.prog 44 [.d (.int .i64 st), .d (.int .i64 sec), .d (.int .i64 to), .ptr (.arg 0) 0 0 0, .ptr (.arg 1) 0 0 0, .ptr (.arg 2) 0 0 0]
    ⟨[], [some (.box 40 [.d (eSeats taken)]), some (.box 47 [.mp (.arg 3)]), some (.box 40 [.osl (.arg 4) g 0 z.2.length]), some (.map (.one .i64) (hasH z.1) fun x => .d (.bool (hasH z.1 x))), some (.vec 51 3 g z.2.length (rowsS z.2))]⟩
    (Ret (fun y : Bool × List Nat × List Seat => ([.d (.bool y.1)], ⟨[], [some (.box 40 [.d (eSeats taken)]), some (.box 47 [.mp (.arg 3)]), some (.box 40 [.osl (.arg 4) g 0 y.2.2.length]), some (.map (.one .i64) (hasH y.2.1) fun x => .d (.bool (hasH y.2.1 x))), some (.vec 51 3 g y.2.2.length (rowsS y.2.2))]⟩)) fun y => y = match hand taken z st sec to with
      | none => (false, z)
      | some z' => (true, z')) := by
  obtain ⟨done, x⟩ := z
  dsimp only at hx ⊢
  refine call_rule hT (T := tab) (N := 34) (rs := [.tmp 9]) _ _ Try.func44 rfl rfl rfl (by kernel_rfl) rfl ?_
  obtain ⟨p, hB, hp⟩ := search_ok taken ht hs st sec
  have hlt := (ix_lt (seatB st sec) taken 0 (by decide)).1
  by_cases h0 : 0 ≤ ix (seatB st sec) taken 0
  · have hp := hp h0
    rw [hp] at hlt hB
    rw [decide_eq_true (show (0 : Int) ≤ (p : Int) by omega)] at hB
    have hpl : p < x.length := by omega
    have hh : hand taken (done, x) st sec to = if done.any (fun a => decide (p = a)) = true then none else some (p :: done, setSt x p to) := by
      unfold hand
      rw [if_pos h0, hp, Int.toNat_natCast]
    have hone := hasH_one done p
    cases hd : hasH done [(p : Int)]
    · rw [← hone, hd, if_neg Bool.false_ne_true] at hh
      repeat' (first | with_reducible refine Sq.go ?_ | ((with_reducible refine Ev.mk ?_); conv => whnf) | with_reducible refine Dr.mk ⟨by kernel_rfl, by kernel_rfl⟩ ?_ | with_reducible refine obG ?_ | with_reducible refine Ob.mk ?_ ?_ | (with_reducible first | refine brT fun h => ?_ | refine brF fun h => ?_ | refine Br.mk (fun h => ?_) fun h => ?_) <;> (try simp only [bsl, beq_iff_eq, bne_iff_ne, bs2] at h) <;> (try contradiction) <;> try (exfalso; omega))
      refine hB.call ?_
      repeat' (first | with_reducible refine Sq.go ?_ | ((with_reducible refine Ev.mk ?_); conv => whnf) | with_reducible refine Dr.mk ⟨by kernel_rfl, by kernel_rfl⟩ ?_ | with_reducible refine obG ?_ | with_reducible refine Ob.mk ?_ ?_ | (with_reducible first | refine brT fun h => ?_ | refine brF fun h => ?_ | refine Br.mk (fun h => ?_) fun h => ?_) <;> (try simp only [bsl, beq_iff_eq, bne_iff_ne, bs2] at h) <;> (try contradiction) <;> try (exfalso; omega))
      · exact absurd (hd.symm.trans h) Bool.false_ne_true
      refine ⟨(true, p :: done, setSt x p to), by rw [hh], ?_, rfl⟩
      dsimp only
      rw [setSt_len]
      repeat' (first | exact True.intro | exact rfl | exact Nat.le_refl _ | refine And.intro ?_ ?_)
      · intro key hf
        exact ⟨rfl, fun hh => ⟨(mapT hh).trans (congrArg (fun b => AV.d (D.bool b)) hh.symm), rfl⟩⟩
      · intro j hj
        exact ⟨(setSt_row x p to hpl j).symm, rfl⟩
    · rw [← hone, hd, if_pos rfl] at hh
      repeat' (first | with_reducible refine Sq.go ?_ | ((with_reducible refine Ev.mk ?_); conv => whnf) | with_reducible refine Dr.mk ⟨by kernel_rfl, by kernel_rfl⟩ ?_ | with_reducible refine obG ?_ | with_reducible refine Ob.mk ?_ ?_ | (with_reducible first | refine brT fun h => ?_ | refine brF fun h => ?_ | refine Br.mk (fun h => ?_) fun h => ?_) <;> (try simp only [bsl, beq_iff_eq, bne_iff_ne, bs2] at h) <;> (try contradiction) <;> try (exfalso; omega))
      refine hB.call ?_
      repeat' (first | with_reducible refine Sq.go ?_ | ((with_reducible refine Ev.mk ?_); conv => whnf) | with_reducible refine Dr.mk ⟨by kernel_rfl, by kernel_rfl⟩ ?_ | with_reducible refine obG ?_ | with_reducible refine Ob.mk ?_ ?_ | (with_reducible first | refine brT fun h => ?_ | refine brF fun h => ?_ | refine Br.mk (fun h => ?_) fun h => ?_) <;> (try simp only [bsl, beq_iff_eq, bne_iff_ne, bs2] at h) <;> (try contradiction) <;> try (exfalso; omega))
      rotate_left
      · exact absurd (h.symm.trans hd) Bool.false_ne_true
      refine ⟨(false, done, x), by rw [hh], ?_, rfl⟩
      dsimp only
      repeat' (first | exact True.intro | exact rfl | exact Nat.le_refl _ | refine And.intro ?_ ?_)
      · intro key hf
        exact ⟨rfl, fun _ => ⟨rfl, rfl⟩⟩
      · intro j hj
        exact ⟨rfl, rfl⟩
  · have hh : hand taken (done, x) st sec to = none := by
      unfold hand
      rw [if_neg h0]
    rw [decide_eq_false h0] at hB
    repeat' (first | with_reducible refine Sq.go ?_ | ((with_reducible refine Ev.mk ?_); conv => whnf) | with_reducible refine Dr.mk ⟨by kernel_rfl, by kernel_rfl⟩ ?_ | with_reducible refine obG ?_ | with_reducible refine Ob.mk ?_ ?_ | (with_reducible first | refine brT fun h => ?_ | refine brF fun h => ?_ | refine Br.mk (fun h => ?_) fun h => ?_) <;> (try simp only [bsl, beq_iff_eq, bne_iff_ne, bs2] at h) <;> (try contradiction) <;> try (exfalso; omega))
    refine hB.call ?_
    repeat' (first | with_reducible refine Sq.go ?_ | ((with_reducible refine Ev.mk ?_); conv => whnf) | with_reducible refine Dr.mk ⟨by kernel_rfl, by kernel_rfl⟩ ?_ | with_reducible refine obG ?_ | with_reducible refine Ob.mk ?_ ?_ | (with_reducible first | refine brT fun h => ?_ | refine brF fun h => ?_ | refine Br.mk (fun h => ?_) fun h => ?_) <;> (try simp only [bsl, beq_iff_eq, bne_iff_ne, bs2] at h) <;> (try contradiction) <;> try (exfalso; omega))
    refine ⟨(false, done, x), by rw [hh], ?_, rfl⟩
    dsimp only
    repeat' (first | exact True.intro | exact rfl | exact Nat.le_refl _ | refine And.intro ?_ ?_)
    · intro key hf
      exact ⟨rfl, fun _ => ⟨rfl, rfl⟩⟩
    · intro j hj
      exact ⟨rfl, rfl⟩
end Go.Proofs.Ytnhadilbebgbjaa
