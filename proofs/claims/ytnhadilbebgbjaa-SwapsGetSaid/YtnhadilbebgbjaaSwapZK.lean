/-
  Swaps: Execute, by the reference.
-/
import Derived.Test.YtnhadilbebgbjaaSwapZJ
import Derived.Test.YtnhadilbebgbjaaSwapZD
import Derived.Test.YtnhadilbebgbjaaOpsF
namespace Go.Proofs.Ytnhadilbebgbjaa
set_option linter.unusedSimpArgs false
set_option linter.unusedVariables false
open Go Go.Ab
set_option maxRecDepth 100000
set_option maxHeartbeats 0
def handL (taken : List Seat) (st to : Int) : List Int → List Nat × List Seat → Option (List Nat × List Seat)
  | [], z => some z
  | c :: r, z => match hand taken z st c to with
    | none => none
    | some z' => handL taken st to r z'
theorem stepX_parts {taken : List Seat} {l : List Swap} {w : List Int} {k : Nat} (hb : -1 ≤ (gvr l w k).give.lab) (z : List Nat × List Seat) : stepX taken l w k z = handL taken (gvr l w k).student (tkr l w k) (partsI (gvr l w k).give) z := by
  unfold stepX partsI
  cases h1 : hand taken z (gvr l w k).student (gvr l w k).give.sec (tkr l w k) with
  | none =>
    dsimp only
    split <;> simp only [handL, h1]
  | some z1 =>
    dsimp only
    by_cases h : (gvr l w k).give.lab = -1
    · rw [if_pos h, if_neg (by omega)]
      simp only [handL, h1]
    · rw [if_neg h, if_pos (by omega)]
      simp only [handL, h1]
      cases hand taken z1 (gvr l w k).student (gvr l w k).give.lab (tkr l w k) <;> rfl
theorem chkW_all : ∀ (l p : List Swap), chkW p l = true → ∀ x ∈ l, swV x = true
  | [], p, _, x, hx => by simp at hx
  | y :: r, p, h, x, hx => by
    rw [chkW, Bool.and_eq_true, Bool.and_eq_true] at h
    rcases List.mem_cons.1 hx with rfl | hx
    · exact h.1.1
    · exact chkW_all r _ h.2 x hx
theorem chk_valid {l : List Swap} (h : chk30 l = 0) : ∀ x ∈ l, swV x = true := by
  unfold chk30 at h
  split at h
  · exact chkW_all l [] ‹_›
  · cases h
theorem swV_lab {s : Swap} (h : swV s = true) : -1 ≤ s.give.lab ∧ -1 ≤ s.take.lab := by
  unfold swV bunV wit at h
  simp only [Bool.and_eq_true, decide_eq_true_eq] at h
  omega
theorem handL_drop {taken : List Seat} {st to : Int} {ps : List Int} {m : Nat} (h : m < ps.length) (z : List Nat × List Seat) : handL taken st to (ps.drop m) z = match hand taken z st (ps.getD m default) to with
    | none => none
    | some z' => handL taken st to (ps.drop (m + 1)) z' := by
  rw [drop_at h]
  rfl
def doneB (done : List Nat) (i : Nat) : Bool := done.any fun a => decide (i = a)
def rowDn (done : List Nat) : Nat → List AV := fun i => [.d (.bool (doneB done i))]
theorem doneB_cons (p : Nat) (done : List Nat) (i : Nat) : (bif Nat.beq i (oadd 0 p) then splice (rowDn done (oadd 0 p)) 0 [AV.d (.bool true)] else rowDn done i) = rowDn (p :: done) i := by
  rw [oadd_eq, Nat.zero_add]
  by_cases e : i = p
  · subst e
    rw [show Nat.beq i i = true from Nat.beq_refl i]
    simp [rowDn, splice, doneB]
  · rw [show Nat.beq i p = false from Bool.eq_false_iff.2 fun h => e (Nat.eq_of_beq_eq_true h)]
    simp [rowDn, doneB, e]
structure ZS where
  k : Nat
  z : List Nat × List Seat
theorem rexecute_ok (taken : List Seat) (ht : taken.length ≤ 1000) (l : List Swap) (hl : l.length ≤ 1000) (w : List Int) (hw : w.length ≤ 1000000) : Pure Try.prog 23 [eSeats taken, eSwaps l, eInts w] [eSeats (exX taken l w), eSwaps (exR taken l w), .int .i64 (exE taken l w)] := by
  refine pure_rule hT (T := tab) (N := 135) (rs := [.tmp 6, .tmp 7, .tmp 8]) Try.func23 rfl rfl rfl (by kernel_rfl) rfl ?_
  have hC := rcheck30_ok l (by omega)
  have hI := risCycle_ok l hl w hw
  have hO := rordered_ok taken (by omega)
  rcases chk30_case l with h1 | h1
  rotate_left
  · rw [h1] at hC
    obtain ⟨e1, e2, e3⟩ := ex_none (if_neg (fun h => by rw [h1] at h; exact absurd h.1 (by decide)) : exeX taken l w = none)
    rw [e1, e2, e3]
    repeat' (first | with_reducible refine Sq.go ?_ | ((with_reducible refine Ev.mk ?_); conv => whnf) | with_reducible refine Dr.mk ⟨by kernel_rfl, by kernel_rfl⟩ ?_ | with_reducible refine obG ?_ | with_reducible refine Ob.mk ?_ ?_ | (with_reducible first | refine brT fun h => ?_ | refine brF fun h => ?_ | refine Br.mk (fun h => ?_) fun h => ?_) <;> (try simp only [bsl, beq_iff_eq, bne_iff_ne, bs2] at h) <;> (try contradiction) <;> try (exfalso; omega))
    refine hC.call ?_
    repeat' (first | with_reducible refine Sq.go ?_ | ((with_reducible refine Ev.mk ?_); conv => whnf) | with_reducible refine Dr.mk ⟨by kernel_rfl, by kernel_rfl⟩ ?_ | with_reducible refine obG ?_ | with_reducible refine Ob.mk ?_ ?_ | (with_reducible first | refine brT fun h => ?_ | refine brF fun h => ?_ | refine Br.mk (fun h => ?_) fun h => ?_) <;> (try simp only [bsl, beq_iff_eq, bne_iff_ne, bs2] at h) <;> (try contradiction) <;> try (exfalso; omega))
    exact ⟨rfl, rfl, rfl, True.intro⟩
  rw [h1] at hC
  cases h2 : isC l w
  · rw [h2] at hI
    obtain ⟨e1, e2, e3⟩ := ex_none (if_neg (fun h => by rw [h2] at h; exact absurd h.2.1 Bool.false_ne_true) : exeX taken l w = none)
    rw [e1, e2, e3]
    repeat' (first | with_reducible refine Sq.go ?_ | ((with_reducible refine Ev.mk ?_); conv => whnf) | with_reducible refine Dr.mk ⟨by kernel_rfl, by kernel_rfl⟩ ?_ | with_reducible refine obG ?_ | with_reducible refine Ob.mk ?_ ?_ | (with_reducible first | refine brT fun h => ?_ | refine brF fun h => ?_ | refine Br.mk (fun h => ?_) fun h => ?_) <;> (try simp only [bsl, beq_iff_eq, bne_iff_ne, bs2] at h) <;> (try contradiction) <;> try (exfalso; omega))
    refine hC.call ?_
    repeat' (first | with_reducible refine Sq.go ?_ | ((with_reducible refine Ev.mk ?_); conv => whnf) | with_reducible refine Dr.mk ⟨by kernel_rfl, by kernel_rfl⟩ ?_ | with_reducible refine obG ?_ | with_reducible refine Ob.mk ?_ ?_ | (with_reducible first | refine brT fun h => ?_ | refine brF fun h => ?_ | refine Br.mk (fun h => ?_) fun h => ?_) <;> (try simp only [bsl, beq_iff_eq, bne_iff_ne, bs2] at h) <;> (try contradiction) <;> try (exfalso; omega))
    refine hI.call ?_
    repeat' (first | with_reducible refine Sq.go ?_ | ((with_reducible refine Ev.mk ?_); conv => whnf) | with_reducible refine Dr.mk ⟨by kernel_rfl, by kernel_rfl⟩ ?_ | with_reducible refine obG ?_ | with_reducible refine Ob.mk ?_ ?_ | (with_reducible first | refine brT fun h => ?_ | refine brF fun h => ?_ | refine Br.mk (fun h => ?_) fun h => ?_) <;> (try simp only [bsl, beq_iff_eq, bne_iff_ne, bs2] at h) <;> (try contradiction) <;> try (exfalso; omega))
    exact ⟨rfl, rfl, rfl, True.intro⟩
  rw [h2] at hI
  cases h3 : ordS taken
  · rw [h3] at hO
    obtain ⟨e1, e2, e3⟩ := ex_none (if_neg (fun h => by rw [h3] at h; exact absurd h.2.2 Bool.false_ne_true) : exeX taken l w = none)
    rw [e1, e2, e3]
    repeat' (first | with_reducible refine Sq.go ?_ | ((with_reducible refine Ev.mk ?_); conv => whnf) | with_reducible refine Dr.mk ⟨by kernel_rfl, by kernel_rfl⟩ ?_ | with_reducible refine obG ?_ | with_reducible refine Ob.mk ?_ ?_ | (with_reducible first | refine brT fun h => ?_ | refine brF fun h => ?_ | refine Br.mk (fun h => ?_) fun h => ?_) <;> (try simp only [bsl, beq_iff_eq, bne_iff_ne, bs2] at h) <;> (try contradiction) <;> try (exfalso; omega))
    refine hC.call ?_
    repeat' (first | with_reducible refine Sq.go ?_ | ((with_reducible refine Ev.mk ?_); conv => whnf) | with_reducible refine Dr.mk ⟨by kernel_rfl, by kernel_rfl⟩ ?_ | with_reducible refine obG ?_ | with_reducible refine Ob.mk ?_ ?_ | (with_reducible first | refine brT fun h => ?_ | refine brF fun h => ?_ | refine Br.mk (fun h => ?_) fun h => ?_) <;> (try simp only [bsl, beq_iff_eq, bne_iff_ne, bs2] at h) <;> (try contradiction) <;> try (exfalso; omega))
    refine hI.call ?_
    repeat' (first | with_reducible refine Sq.go ?_ | ((with_reducible refine Ev.mk ?_); conv => whnf) | with_reducible refine Dr.mk ⟨by kernel_rfl, by kernel_rfl⟩ ?_ | with_reducible refine obG ?_ | with_reducible refine Ob.mk ?_ ?_ | (with_reducible first | refine brT fun h => ?_ | refine brF fun h => ?_ | refine Br.mk (fun h => ?_) fun h => ?_) <;> (try simp only [bsl, beq_iff_eq, bne_iff_ne, bs2] at h) <;> (try contradiction) <;> try (exfalso; omega))
    refine hO.call ?_
    repeat' (first | with_reducible refine Sq.go ?_ | ((with_reducible refine Ev.mk ?_); conv => whnf) | with_reducible refine Dr.mk ⟨by kernel_rfl, by kernel_rfl⟩ ?_ | with_reducible refine obG ?_ | with_reducible refine Ob.mk ?_ ?_ | (with_reducible first | refine brT fun h => ?_ | refine brF fun h => ?_ | refine Br.mk (fun h => ?_) fun h => ?_) <;> (try simp only [bsl, beq_iff_eq, bne_iff_ne, bs2] at h) <;> (try contradiction) <;> try (exfalso; omega))
    exact ⟨rfl, rfl, rfl, True.intro⟩
  rw [h3] at hO
  have hx : exeX taken l w = match runX taken l w (List.range w.length) ([], taken) with
    | none => none
    | some z => if ordS (srtB z.2) = true then some (srtB z.2, restX l w) else none := if_pos ⟨h1, h2, h3⟩
  repeat' (first | with_reducible refine Sq.go ?_ | ((with_reducible refine Ev.mk ?_); conv => whnf) | with_reducible refine Dr.mk ⟨by kernel_rfl, by kernel_rfl⟩ ?_ | with_reducible refine obG ?_ | with_reducible refine Ob.mk ?_ ?_ | (with_reducible first | refine brT fun h => ?_ | refine brF fun h => ?_ | refine Br.mk (fun h => ?_) fun h => ?_) <;> (try simp only [bsl, beq_iff_eq, bne_iff_ne, bs2] at h) <;> (try contradiction) <;> try (exfalso; omega))
  refine hC.call ?_
  repeat' (first | with_reducible refine Sq.go ?_ | ((with_reducible refine Ev.mk ?_); conv => whnf) | with_reducible refine Dr.mk ⟨by kernel_rfl, by kernel_rfl⟩ ?_ | with_reducible refine obG ?_ | with_reducible refine Ob.mk ?_ ?_ | (with_reducible first | refine brT fun h => ?_ | refine brF fun h => ?_ | refine Br.mk (fun h => ?_) fun h => ?_) <;> (try simp only [bsl, beq_iff_eq, bne_iff_ne, bs2] at h) <;> (try contradiction) <;> try (exfalso; omega))
  refine hI.call ?_
  repeat' (first | with_reducible refine Sq.go ?_ | ((with_reducible refine Ev.mk ?_); conv => whnf) | with_reducible refine Dr.mk ⟨by kernel_rfl, by kernel_rfl⟩ ?_ | with_reducible refine obG ?_ | with_reducible refine Ob.mk ?_ ?_ | (with_reducible first | refine brT fun h => ?_ | refine brF fun h => ?_ | refine Br.mk (fun h => ?_) fun h => ?_) <;> (try simp only [bsl, beq_iff_eq, bne_iff_ne, bs2] at h) <;> (try contradiction) <;> try (exfalso; omega))
  refine hO.call ?_
  repeat' (first | with_reducible refine Sq.go ?_ | ((with_reducible refine Ev.mk ?_); conv => whnf) | with_reducible refine Dr.mk ⟨by kernel_rfl, by kernel_rfl⟩ ?_ | with_reducible refine obG ?_ | with_reducible refine Ob.mk ?_ ?_ | (with_reducible first | refine brT fun h => ?_ | refine brF fun h => ?_ | refine Br.mk (fun h => ?_) fun h => ?_) <;> (try simp only [bsl, beq_iff_eq, bne_iff_ne, bs2] at h) <;> (try contradiction) <;> try (exfalso; omega))
  refine op_make hT rfl rfl rfl (by decide) rfl rfl (by show taken.length * 1 ≤ _; omega) ?_
  repeat' (first | with_reducible refine Sq.go ?_ | ((with_reducible refine Ev.mk ?_); conv => whnf) | with_reducible refine Dr.mk ⟨by kernel_rfl, by kernel_rfl⟩ ?_ | with_reducible refine obG ?_ | with_reducible refine Ob.mk ?_ ?_ | (with_reducible first | refine brT fun h => ?_ | refine brF fun h => ?_ | refine Br.mk (fun h => ?_) fun h => ?_) <;> (try simp only [bsl, beq_iff_eq, bne_iff_ne, bs2] at h) <;> (try contradiction) <;> try (exfalso; omega))
  refine loop_rule hT (S := ZS) (fun y => ([(0, .d (eSeats taken)), (1, .d (eSwaps l)), (2, .d (eInts w)), (9, .osl (.loc 0) 1 0 taken.length), (10, .osl (.loc 1) 0 0 taken.length), (11, .d (.int .i64 y.k))],
    ⟨[some (.vec 51 3 1 taken.length (rowsS y.z.2)), some (.vec 4 1 0 taken.length (rowDn y.z.1))], []⟩)) (fun y => y.k ≤ w.length ∧ y.z.2.length = taken.length ∧ runX taken l w (List.range w.length) ([], taken) = runX taken l w ((List.range w.length).drop y.k) y.z) (fun y => w.length - y.k) ⟨0, [], taken⟩ ?_ ?_ ?_
  · repeat' (first | exact True.intro | exact rfl | exact Nat.le_refl _ | refine And.intro ?_ ?_)
    · show AV.osl (.loc 0) 1 0 (0 + taken.length) = AV.osl (.loc 0) 1 0 taken.length
      rw [Nat.zero_add]
    · omega
    · intro i hi
      exact ⟨by rw [joinF_ge (Nat.zero_le _), Nat.sub_zero]; rfl, rfl⟩
    · intro i hi
      exact ⟨rfl, rfl⟩
  · exact ⟨Nat.zero_le _, rfl, rfl⟩
  · rintro ⟨k, z⟩ ⟨hk, hzl, hc⟩
    dsimp only at hk hzl hc ⊢
    by_cases hk2 : k < w.length
    · rw [runX_drop taken l w hk2] at hc
      obtain ⟨⟨x0, x1⟩, y0, y1⟩ := isC_at h2 hk2
      have hmod := tmod_nat k w.length
      have hlt := Nat.mod_lt (k + 1) (show 0 < w.length by omega)
      have htm : 0 ≤ ((k : Int) + 1).tmod (w.length : Int) ∧ ((k : Int) + 1).tmod (w.length : Int) < w.length := by rw [hmod]; omega
      have hinm : In .i64 (((k : Int) + 1).tmod (w.length : Int)) := in64.2 (by omega)
      have hy : w.getD (((k : Int) + 1).tmod (w.length : Int)).toNat default = nxI w k := by rw [hmod, Int.toNat_natCast]; rfl
      have hyb : 0 ≤ w.getD (((k : Int) + 1).tmod (w.length : Int)).toNat default ∧ w.getD (((k : Int) + 1).tmod (w.length : Int)).toNat default < l.length := by rw [hy]; exact ⟨y0, y1⟩
      have hxb : 0 ≤ w.getD (k : Int).toNat default ∧ w.getD (k : Int).toNat default < l.length := ⟨x0, x1⟩
      have hgv : l.getD (w.getD (((k : Int) + 1).tmod (w.length : Int)).toNat default).toNat default = gvr l w k := by rw [hy]; rfl
      have hto : (l.getD (w.getD (k : Int).toNat default).toNat default).student = tkr l w k := rfl
      have hlab : -1 ≤ (gvr l w k).give.lab := (swV_lab (chk_valid h1 _ (getD_mem (by omega)))).1
      rw [stepX_parts hlab] at hc
      obtain ⟨gv, hgv2⟩ : ∃ gv, gvr l w k = gv := ⟨_, rfl⟩
      obtain ⟨to, hto2⟩ : ∃ to, tkr l w k = to := ⟨_, rfl⟩
      rw [hgv2] at hgv hc
      rw [hto2] at hto hc
      have hP := partsI_ok gv.give
      repeat' (first | with_reducible refine Sq.go ?_ | ((with_reducible refine Ev.mk ?_); conv => whnf) | with_reducible refine Dr.mk ⟨by kernel_rfl, by kernel_rfl⟩ ?_ | with_reducible refine obG ?_ | with_reducible refine Ob.mk ?_ ?_ | (with_reducible first | refine brT fun h => ?_ | refine brF fun h => ?_ | refine Br.mk (fun h => ?_) fun h => ?_) <;> (try simp only [bsl, beq_iff_eq, bne_iff_ne, bs2] at h) <;> (try contradiction) <;> try (exfalso; omega))
      simp (config := { beta := false, eta := false, iota := false, proj := false, zeta := false, decide := false }) only [hgv]
      refine hP.call ?_
      repeat' (first | with_reducible refine Sq.go ?_ | ((with_reducible refine Ev.mk ?_); conv => whnf) | with_reducible refine Dr.mk ⟨by kernel_rfl, by kernel_rfl⟩ ?_ | with_reducible refine obG ?_ | with_reducible refine Ob.mk ?_ ?_ | (with_reducible first | refine brT fun h => ?_ | refine brF fun h => ?_ | refine Br.mk (fun h => ?_) fun h => ?_) <;> (try simp only [bsl, beq_iff_eq, bne_iff_ne, bs2] at h) <;> (try contradiction) <;> try (exfalso; omega))
      have hpl : (partsI gv.give).length ≤ 2 := by unfold partsI; split <;> simp
      obtain ⟨ps, hps⟩ : ∃ ps, partsI gv.give = ps := ⟨_, rfl⟩
      rw [hps] at hpl hc
      refine loop_rule hT (S := ZS) (fun y => ([(0, .d (eSeats taken)), (1, .d (eSwaps l)), (2, .d (eInts w)), (9, .osl (.loc 0) 1 0 taken.length), (10, .osl (.loc 1) 0 0 taken.length), (11, .d (.int .i64 k)), (12, .ptr (.loc 2) 0 0 0), (13, .d (eInts ps)), (14, .d (.int .i64 y.k))],
        ⟨[some (.vec 51 3 1 taken.length (rowsS y.z.2)), some (.vec 4 1 0 taken.length (rowDn y.z.1)), some (.box 26 (up (eSwap gv)))], []⟩)) (fun y => y.k ≤ ps.length ∧ y.z.2.length = taken.length ∧ handL taken gv.student to ps z = handL taken gv.student to (ps.drop y.k) y.z) (fun y => ps.length - y.k) ⟨0, z⟩ ?_ ?_ ?_
      · repeat' (first | exact True.intro | exact rfl | exact Nat.le_refl _ | refine And.intro ?_ ?_)
        all_goals first
          | (intro i hi; exact ⟨rfl, rfl⟩)
          | (rw [← hps]; rfl)
          | trace_state
      · exact ⟨Nat.zero_le _, hzl, rfl⟩
      · rintro ⟨m, z0⟩ ⟨hm, hz0, hd⟩
        dsimp only at hm hz0 hd ⊢
        by_cases hm2 : m < ps.length
        · rw [handL_drop hm2] at hd
          have hS := seat_ok taken (by omega) gv.student (ps.getD m default)
          have hixl := (ix_lt (seatB gv.student (ps.getD m default)) taken 0 (by decide)).1
          unfold hand at hd
          obtain ⟨q, hq⟩ : ∃ q, ix (seatB gv.student (ps.getD m default)) taken 0 = q := ⟨_, rfl⟩
          rw [hq] at hS hixl hd
          by_cases h0 : 0 ≤ q
          · obtain ⟨p, rfl⟩ : ∃ p : Nat, q = p := ⟨q.toNat, by omega⟩
            rw [if_pos h0, Int.toNat_natCast] at hd
            by_cases hdn : z0.1.any (fun a => decide (p = a)) = true
            · rw [if_pos hdn] at hd
              dsimp only at hd
              rw [hd] at hc
              rw [hc] at hx
              obtain ⟨e1, e2, e3⟩ := ex_none hx
              rw [e1, e2, e3]
              have hd2 : doneB z0.1 (oadd 0 p) = true := by rw [oadd_eq, Nat.zero_add]; exact hdn
              repeat' (first | with_reducible refine Sq.go ?_ | ((with_reducible refine Ev.mk ?_); conv => whnf) | with_reducible refine Dr.mk ⟨by kernel_rfl, by kernel_rfl⟩ ?_ | with_reducible refine obG ?_ | with_reducible refine Ob.mk ?_ ?_ | (with_reducible first | refine brT fun h => ?_ | refine brF fun h => ?_ | refine Br.mk (fun h => ?_) fun h => ?_) <;> (try simp only [bsl, beq_iff_eq, bne_iff_ne, bs2] at h) <;> (try contradiction) <;> try (exfalso; omega))
              refine qC hS ?_
              repeat' (first | with_reducible refine Sq.go ?_ | ((with_reducible refine Ev.mk ?_); conv => whnf) | with_reducible refine Dr.mk ⟨by kernel_rfl, by kernel_rfl⟩ ?_ | with_reducible refine obG ?_ | with_reducible refine Ob.mk ?_ ?_ | (with_reducible first | refine brT fun h => ?_ | refine brF fun h => ?_ | refine Br.mk (fun h => ?_) fun h => ?_) <;> (try simp only [bsl, beq_iff_eq, bne_iff_ne, bs2] at h) <;> (try contradiction) <;> try (exfalso; omega))
              · exact ⟨rfl, rfl, rfl, True.intro⟩
              · exfalso
                first
                  | exact absurd hd2 (nt h)
                  | exact absurd hd2 (nt h.2)
            · rw [if_neg hdn] at hd
              dsimp only at hd
              have hd2 : doneB z0.1 (oadd 0 p) = false := by rw [oadd_eq, Nat.zero_add]; exact Bool.eq_false_iff.2 hdn
              repeat' (first | with_reducible refine Sq.go ?_ | ((with_reducible refine Ev.mk ?_); conv => whnf) | with_reducible refine Dr.mk ⟨by kernel_rfl, by kernel_rfl⟩ ?_ | with_reducible refine obG ?_ | with_reducible refine Ob.mk ?_ ?_ | (with_reducible first | refine brT fun h => ?_ | refine brF fun h => ?_ | refine Br.mk (fun h => ?_) fun h => ?_) <;> (try simp only [bsl, beq_iff_eq, bne_iff_ne, bs2] at h) <;> (try contradiction) <;> try (exfalso; omega))
              refine qC hS ?_
              repeat' (first | with_reducible refine Sq.go ?_ | ((with_reducible refine Ev.mk ?_); conv => whnf) | with_reducible refine Dr.mk ⟨by kernel_rfl, by kernel_rfl⟩ ?_ | with_reducible refine obG ?_ | with_reducible refine Ob.mk ?_ ?_ | (with_reducible first | refine brT fun h => ?_ | refine brF fun h => ?_ | refine Br.mk (fun h => ?_) fun h => ?_) <;> (try simp only [bsl, beq_iff_eq, bne_iff_ne, bs2] at h) <;> (try contradiction) <;> try (exfalso; omega))
              · exfalso
                first
                  | exact absurd h (nt hd2)
                  | (rcases h with h | h
                     · omega
                     · exact absurd h (nt hd2))
              · refine ⟨⟨m + 1, (p :: z0.1, setSt z0.2 p to)⟩, ⟨by show m + 1 ≤ ps.length; omega, (setSt_len _ _ _).trans hz0, hd⟩, by show ps.length - (m + 1) < ps.length - m; omega, ?_⟩
                dsimp only
                repeat' (first | exact True.intro | exact rfl | exact Nat.le_refl _ | refine And.intro ?_ ?_)
                · intro i hi
                  refine ⟨?_, rfl⟩
                  rw [hto]
                  exact (setSt_row z0.2 p to (by omega) i).symm
                · intro i hi
                  exact ⟨doneB_cons p z0.1 i, rfl⟩
          · rw [if_neg h0] at hd
            dsimp only at hd
            rw [hd] at hc
            rw [hc] at hx
            obtain ⟨e1, e2, e3⟩ := ex_none hx
            rw [e1, e2, e3]
            repeat' (first | with_reducible refine Sq.go ?_ | ((with_reducible refine Ev.mk ?_); conv => whnf) | with_reducible refine Dr.mk ⟨by kernel_rfl, by kernel_rfl⟩ ?_ | with_reducible refine obG ?_ | with_reducible refine Ob.mk ?_ ?_ | (with_reducible first | refine brT fun h => ?_ | refine brF fun h => ?_ | refine Br.mk (fun h => ?_) fun h => ?_) <;> (try simp only [bsl, beq_iff_eq, bne_iff_ne, bs2] at h) <;> (try contradiction) <;> try (exfalso; omega))
            refine qC hS ?_
            repeat' (first | with_reducible refine Sq.go ?_ | ((with_reducible refine Ev.mk ?_); conv => whnf) | with_reducible refine Dr.mk ⟨by kernel_rfl, by kernel_rfl⟩ ?_ | with_reducible refine obG ?_ | with_reducible refine Ob.mk ?_ ?_ | (with_reducible first | refine brT fun h => ?_ | refine brF fun h => ?_ | refine Br.mk (fun h => ?_) fun h => ?_) <;> (try simp only [bsl, beq_iff_eq, bne_iff_ne, bs2] at h) <;> (try contradiction) <;> try (exfalso; omega))
            exact ⟨rfl, rfl, rfl, True.intro⟩
        · rw [drop_end (by omega)] at hd
          replace hd : handL taken gv.student to ps z = some z0 := hd
          rw [hd] at hc
          dsimp only at hc
          repeat' (first | with_reducible refine Sq.go ?_ | ((with_reducible refine Ev.mk ?_); conv => whnf) | with_reducible refine Dr.mk ⟨by kernel_rfl, by kernel_rfl⟩ ?_ | with_reducible refine obG ?_ | with_reducible refine Ob.mk ?_ ?_ | (with_reducible first | refine brT fun h => ?_ | refine brF fun h => ?_ | refine Br.mk (fun h => ?_) fun h => ?_) <;> (try simp only [bsl, beq_iff_eq, bne_iff_ne, bs2] at h) <;> (try contradiction) <;> try (exfalso; omega))
          refine ⟨⟨k + 1, z0⟩, ⟨by show k + 1 ≤ w.length; omega, hz0, hc⟩, by show w.length - (k + 1) < w.length - k; omega, ?_⟩
          repeat' (first | exact True.intro | exact rfl | exact Nat.le_refl _ | refine And.intro ?_ ?_)
          all_goals (intro i hi; exact ⟨rfl, rfl⟩)
    · rw [drop_end (by simp; omega)] at hc
      replace hc : runX taken l w (List.range w.length) ([], taken) = some z := hc
      rw [hc] at hx
      have hSo := rsorted_ok z.2 (by omega)
      rw [show eSeats z.2 = .sl 3 taken.length fun i => eSeat (z.2.getD i default) by unfold eSeats; rw [hzl]] at hSo
      have hO2 := rordered_ok (srtB z.2) (by rw [srtB_len]; omega)
      repeat' (first | with_reducible refine Sq.go ?_ | ((with_reducible refine Ev.mk ?_); conv => whnf) | with_reducible refine Dr.mk ⟨by kernel_rfl, by kernel_rfl⟩ ?_ | with_reducible refine obG ?_ | with_reducible refine Ob.mk ?_ ?_ | (with_reducible first | refine brT fun h => ?_ | refine brF fun h => ?_ | refine Br.mk (fun h => ?_) fun h => ?_) <;> (try simp only [bsl, beq_iff_eq, bne_iff_ne, bs2] at h) <;> (try contradiction) <;> try (exfalso; omega))
      refine CallVC.frz [0] (dargs := [.sl 3 taken.length fun i => eSeat (z.2.getD i default)]) ⟨.rows rfl (by show 0 + taken.length ≤ taken.length; omega) (fun i hi => by rw [Nat.zero_add]; rfl), True.intro⟩ (hSo.call ?_)
      repeat' (first | with_reducible refine Sq.go ?_ | ((with_reducible refine Ev.mk ?_); conv => whnf) | with_reducible refine Dr.mk ⟨by kernel_rfl, by kernel_rfl⟩ ?_ | with_reducible refine obG ?_ | with_reducible refine Ob.mk ?_ ?_ | (with_reducible first | refine brT fun h => ?_ | refine brF fun h => ?_ | refine Br.mk (fun h => ?_) fun h => ?_) <;> (try simp only [bsl, beq_iff_eq, bne_iff_ne, bs2] at h) <;> (try contradiction) <;> try (exfalso; omega))
      refine hO2.call ?_
      dsimp only at hx
      cases h4 : ordS (srtB z.2)
      · have hx : exeX taken l w = none := by rw [hx]; exact if_neg (nt h4)
        obtain ⟨e1, e2, e3⟩ := ex_none hx
        rw [e1, e2, e3]
        repeat' (first | with_reducible refine Sq.go ?_ | ((with_reducible refine Ev.mk ?_); conv => whnf) | with_reducible refine Dr.mk ⟨by kernel_rfl, by kernel_rfl⟩ ?_ | with_reducible refine obG ?_ | with_reducible refine Ob.mk ?_ ?_ | (with_reducible first | refine brT fun h => ?_ | refine brF fun h => ?_ | refine Br.mk (fun h => ?_) fun h => ?_) <;> (try simp only [bsl, beq_iff_eq, bne_iff_ne, bs2] at h) <;> (try contradiction) <;> try (exfalso; omega))
        exact ⟨rfl, rfl, rfl, True.intro⟩
      · have hx : exeX taken l w = some (srtB z.2, restX l w) := by rw [hx]; exact if_pos h4
        obtain ⟨e1, e2, e3⟩ := ex_some hx
        rw [e1, e2, e3]
        repeat' (first | with_reducible refine Sq.go ?_ | ((with_reducible refine Ev.mk ?_); conv => whnf) | with_reducible refine Dr.mk ⟨by kernel_rfl, by kernel_rfl⟩ ?_ | with_reducible refine obG ?_ | with_reducible refine Ob.mk ?_ ?_ | (with_reducible first | refine brT fun h => ?_ | refine brF fun h => ?_ | refine Br.mk (fun h => ?_) fun h => ?_) <;> (try simp only [bsl, beq_iff_eq, bne_iff_ne, bs2] at h) <;> (try contradiction) <;> try (exfalso; omega))
        refine loop_rule hT (S := Nat × List Swap) (fun y => ([(1, .d (eSwaps l)), (2, .d (eInts w)), (9, .d (eSeats (srtB z.2))), (16, .osl (.loc 2) y.2.length 0 y.2.length), (17, .d (.int .i64 y.1))],
          ⟨[none, none, some (.vec 26 7 y.2.length y.2.length (rowsW y.2))], []⟩))
          (fun y => y.1 ≤ l.length ∧ y.2.length ≤ y.1 ∧ restX l w = y.2 ++ (((List.range l.length).drop y.1).filter (keepX w)).map (fun i => l.getD i default)) (fun y => l.length - y.1) (0, []) ?_ ?_ ?_
        · repeat' (first | exact True.intro | exact rfl | exact Nat.le_refl _ | refine And.intro ?_ ?_)
          · intro i hi
            exact absurd hi (Nat.not_lt_zero i)
        · exact ⟨Nat.zero_le _, Nat.le_refl _, rfl⟩
        · rintro ⟨k, acc⟩ ⟨hk, hal, hc⟩
          dsimp only at hk hal hc ⊢
          by_cases hk2 : k < l.length
          · rw [rest_drop w hk2] at hc
            repeat' (first | with_reducible refine Sq.go ?_ | ((with_reducible refine Ev.mk ?_); conv => whnf) | with_reducible refine Dr.mk ⟨by kernel_rfl, by kernel_rfl⟩ ?_ | with_reducible refine obG ?_ | with_reducible refine Ob.mk ?_ ?_ | (with_reducible first | refine brT fun h => ?_ | refine brF fun h => ?_ | refine Br.mk (fun h => ?_) fun h => ?_) <;> (try simp only [bsl, beq_iff_eq, bne_iff_ne, bs2] at h) <;> (try contradiction) <;> try (exfalso; omega))
            refine loop_rule hT (S := Nat) (fun m => ([(1, .d (eSwaps l)), (2, .d (eInts w)), (9, .d (eSeats (srtB z.2))), (16, .osl (.loc 2) acc.length 0 acc.length), (17, .d (.int .i64 k)), (18, .d (.bool ((w.take m).any fun a => decide ((k : Int) = a)))), (19, .d (.int .i64 m))],
              ⟨[none, none, some (.vec 26 7 acc.length acc.length (rowsW acc))], []⟩)) (fun m => m ≤ w.length) (fun m => w.length - m) 0 ?_ ?_ ?_
            · repeat' (first | exact True.intro | exact rfl | exact Nat.le_refl _ | refine And.intro ?_ ?_)
              all_goals (intro i hi; exact ⟨rfl, rfl⟩)
            · exact Nat.zero_le _
            · intro m hm
              by_cases hm2 : m < w.length
              · have hsn : ((w.take (m + 1)).any fun a => decide ((k : Int) = a)) = (((w.take m).any fun a => decide ((k : Int) = a)) || decide ((k : Int) = w.getD m default)) := by
                  rw [take_succ_at hm2, List.any_append, List.any_cons, List.any_nil, Bool.or_false]
                obtain ⟨b, hb⟩ : ∃ b, ((w.take m).any fun a => decide ((k : Int) = a)) = b := ⟨_, rfl⟩
                rw [hb] at hsn
                dsimp only
                rw [hb]
                repeat' (first | with_reducible refine Sq.go ?_ | ((with_reducible refine Ev.mk ?_); conv => whnf) | with_reducible refine Dr.mk ⟨by kernel_rfl, by kernel_rfl⟩ ?_ | with_reducible refine obG ?_ | with_reducible refine Ob.mk ?_ ?_ | (with_reducible first | refine brT fun h => ?_ | refine brF fun h => ?_ | refine Br.mk (fun h => ?_) fun h => ?_) <;> (try simp only [bsl, beq_iff_eq, bne_iff_ne, bs2] at h) <;> (try contradiction) <;> try (exfalso; omega))
                refine ⟨m + 1, by show m + 1 ≤ w.length; omega, by show w.length - (m + 1) < w.length - m; omega, ?_⟩
                dsimp only
                rw [hsn]
                repeat' (first | exact True.intro | exact rfl | exact Nat.le_refl _ | refine And.intro ?_ ?_)
                · refine congrArg (fun b => AV.d (D.bool b)) ?_
                  show (bif b then true else decide (w.getD (m : Int).toNat default = (k : Int))) = _
                  rw [Int.toNat_natCast, show decide (w.getD m default = (k : Int)) = decide ((k : Int) = w.getD m default) from decide_eq_decide.2 eq_comm]
                  cases b <;> rfl
                · intro i hi
                  exact ⟨rfl, rfl⟩
              · dsimp only
                rw [List.take_of_length_le (by omega)]
                unfold keepX at hc
                cases hb : w.any fun a => decide ((k : Int) = a)
                · rw [hb] at hc
                  rw [if_pos (show (!false) = true from rfl)] at hc
                  repeat' (first | with_reducible refine Sq.go ?_ | ((with_reducible refine Ev.mk ?_); conv => whnf) | with_reducible refine Dr.mk ⟨by kernel_rfl, by kernel_rfl⟩ ?_ | with_reducible refine obG ?_ | with_reducible refine Ob.mk ?_ ?_ | (with_reducible first | refine brT fun h => ?_ | refine brF fun h => ?_ | refine Br.mk (fun h => ?_) fun h => ?_) <;> (try simp only [bsl, beq_iff_eq, bne_iff_ne, bs2] at h) <;> (try contradiction) <;> try (exfalso; omega))
                  refine ⟨(k + 1, acc ++ [l.getD k default]), ⟨by show k + 1 ≤ l.length; omega, by show (acc ++ [_]).length ≤ k + 1; rw [len_snoc]; omega, by rw [hc, List.append_assoc]; rfl⟩, by show l.length - (k + 1) < l.length - k; omega, ?_⟩
                  dsimp only
                  rw [len_snoc]
                  repeat' (first | exact True.intro | exact rfl | exact Nat.le_refl _ | refine And.intro ?_ ?_)
                  · intro i hi
                    exact ⟨join_snoc eSwap acc _ _ rfl i (by rw [len_snoc]; exact hi), rfl⟩
                · rw [hb] at hc
                  rw [if_neg (by simp)] at hc
                  repeat' (first | with_reducible refine Sq.go ?_ | ((with_reducible refine Ev.mk ?_); conv => whnf) | with_reducible refine Dr.mk ⟨by kernel_rfl, by kernel_rfl⟩ ?_ | with_reducible refine obG ?_ | with_reducible refine Ob.mk ?_ ?_ | (with_reducible first | refine brT fun h => ?_ | refine brF fun h => ?_ | refine Br.mk (fun h => ?_) fun h => ?_) <;> (try simp only [bsl, beq_iff_eq, bne_iff_ne, bs2] at h) <;> (try contradiction) <;> try (exfalso; omega))
                  refine ⟨(k + 1, acc), ⟨by show k + 1 ≤ l.length; omega, by show acc.length ≤ k + 1; omega, hc⟩, by show l.length - (k + 1) < l.length - k; omega, ?_⟩
                  repeat' (first | exact True.intro | exact rfl | exact Nat.le_refl _ | refine And.intro ?_ ?_)
                  all_goals (intro i hi; exact ⟨rfl, rfl⟩)
          · rw [drop_end (by simp; omega), List.filter_nil, List.map_nil, List.append_nil] at hc
            rw [hc]
            repeat' (first | with_reducible refine Sq.go ?_ | ((with_reducible refine Ev.mk ?_); conv => whnf) | with_reducible refine Dr.mk ⟨by kernel_rfl, by kernel_rfl⟩ ?_ | with_reducible refine obG ?_ | with_reducible refine Ob.mk ?_ ?_ | (with_reducible first | refine brT fun h => ?_ | refine brF fun h => ?_ | refine Br.mk (fun h => ?_) fun h => ?_) <;> (try simp only [bsl, beq_iff_eq, bne_iff_ne, bs2] at h) <;> (try contradiction) <;> try (exfalso; omega))
            exact ⟨⟨rfl, rfl, fun i hi => rfl⟩, ⟨rfl, rfl, by omega, rfl, fun i hi => by rw [Nat.zero_add]; rfl⟩, rfl, True.intro⟩
end Go.Proofs.Ytnhadilbebgbjaa
