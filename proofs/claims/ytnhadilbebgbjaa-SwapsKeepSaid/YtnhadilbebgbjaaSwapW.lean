/-
  Swaps: Execute, by the program.
-/
import Derived.Test.YtnhadilbebgbjaaSwapV
namespace Go.Proofs.Ytnhadilbebgbjaa
set_option linter.unusedSimpArgs false
set_option linter.unusedVariables false
open Go Go.Ab
set_option maxRecDepth 100000
set_option maxHeartbeats 0
structure XS where
  k : Nat
  z : List Nat × List Seat
theorem execute_ok (taken : List Seat) (ht : taken.length ≤ 1000) (l : List Swap) (hl : l.length ≤ 1000) (w : List Int) (hw : w.length ≤ 1000000) : Pure Try.prog 22 [eSeats taken, eSwaps l, eInts w] [eSeats (exX taken l w), eSwaps (exR taken l w), .int .i64 (exE taken l w)] := by
  refine pure_rule hT (T := tab) (N := 111) (rs := [.cell 6 40, .tmp 7, .tmp 8]) Try.func22 rfl rfl rfl (by kernel_rfl) rfl ?_
  have hC := check30_ok l (by omega)
  have hI := isCycle_ok l hl w hw
  have hO := ordered_ok taken (by omega)
  rcases chk30_case l with h1 | h1
  rotate_left
  · rw [h1] at hC
    obtain ⟨e1, e2, e3⟩ := ex_none (if_neg (fun h => by rw [h1] at h; exact absurd h.1 (by decide)) : exeX taken l w = none)
    rw [e1, e2, e3]
    repeat' (first | with_reducible refine Sq.go ?_ | ((with_reducible refine Ev.mk ?_); conv => whnf) | with_reducible refine Dr.mk ⟨by kernel_rfl, by kernel_rfl⟩ ?_ | with_reducible refine obG ?_ | with_reducible refine Ob.mk ?_ ?_ | (with_reducible first | refine brT fun h => ?_ | refine brF fun h => ?_ | refine Br.mk (fun h => ?_) fun h => ?_) <;> (try simp only [bsl, beq_iff_eq, bne_iff_ne, bs2] at h) <;> (try contradiction) <;> try (exfalso; omega))
    refine hC.call ?_
    repeat' (first | with_reducible refine Sq.go ?_ | ((with_reducible refine Ev.mk ?_); conv => whnf) | with_reducible refine Dr.mk ⟨by kernel_rfl, by kernel_rfl⟩ ?_ | with_reducible refine obG ?_ | with_reducible refine Ob.mk ?_ ?_ | (with_reducible first | refine brT fun h => ?_ | refine brF fun h => ?_ | refine Br.mk (fun h => ?_) fun h => ?_) <;> (try simp only [bsl, beq_iff_eq, bne_iff_ne, bs2] at h) <;> (try contradiction) <;> try (exfalso; omega))
    exact ⟨rfl, rfl, rfl, True.intro⟩
  rw [h1] at hC
  cases h2 : isC l w
  · rw [h2] at hI
    obtain ⟨e1, e2, e3⟩ := ex_none (if_neg (fun h => by rw [h2] at h; exact absurd h.2.1 Bool.false_ne_true) : exeX taken l w = none)
    rw [e1, e2, e3]
    repeat' (first | with_reducible refine Sq.go ?_ | ((with_reducible refine Ev.mk ?_); conv => whnf) | with_reducible refine Dr.mk ⟨by kernel_rfl, by kernel_rfl⟩ ?_ | with_reducible refine obG ?_ | with_reducible refine Ob.mk ?_ ?_ | (with_reducible first | refine brT fun h => ?_ | refine brF fun h => ?_ | refine Br.mk (fun h => ?_) fun h => ?_) <;> (try simp only [bsl, beq_iff_eq, bne_iff_ne, bs2] at h) <;> (try contradiction) <;> try (exfalso; omega))
    refine hC.call ?_
    repeat' (first | with_reducible refine Sq.go ?_ | ((with_reducible refine Ev.mk ?_); conv => whnf) | with_reducible refine Dr.mk ⟨by kernel_rfl, by kernel_rfl⟩ ?_ | with_reducible refine obG ?_ | with_reducible refine Ob.mk ?_ ?_ | (with_reducible first | refine brT fun h => ?_ | refine brF fun h => ?_ | refine Br.mk (fun h => ?_) fun h => ?_) <;> (try simp only [bsl, beq_iff_eq, bne_iff_ne, bs2] at h) <;> (try contradiction) <;> try (exfalso; omega))
    refine hI.call ?_
    repeat' (first | with_reducible refine Sq.go ?_ | ((with_reducible refine Ev.mk ?_); conv => whnf) | with_reducible refine Dr.mk ⟨by kernel_rfl, by kernel_rfl⟩ ?_ | with_reducible refine obG ?_ | with_reducible refine Ob.mk ?_ ?_ | (with_reducible first | refine brT fun h => ?_ | refine brF fun h => ?_ | refine Br.mk (fun h => ?_) fun h => ?_) <;> (try simp only [bsl, beq_iff_eq, bne_iff_ne, bs2] at h) <;> (try contradiction) <;> try (exfalso; omega))
    exact ⟨rfl, rfl, rfl, True.intro⟩
  rw [h2] at hI
  cases h3 : ordS taken
  · rw [h3] at hO
    obtain ⟨e1, e2, e3⟩ := ex_none (if_neg (fun h => by rw [h3] at h; exact absurd h.2.2 Bool.false_ne_true) : exeX taken l w = none)
    rw [e1, e2, e3]
    repeat' (first | with_reducible refine Sq.go ?_ | ((with_reducible refine Ev.mk ?_); conv => whnf) | with_reducible refine Dr.mk ⟨by kernel_rfl, by kernel_rfl⟩ ?_ | with_reducible refine obG ?_ | with_reducible refine Ob.mk ?_ ?_ | (with_reducible first | refine brT fun h => ?_ | refine brF fun h => ?_ | refine Br.mk (fun h => ?_) fun h => ?_) <;> (try simp only [bsl, beq_iff_eq, bne_iff_ne, bs2] at h) <;> (try contradiction) <;> try (exfalso; omega))
    refine hC.call ?_
    repeat' (first | with_reducible refine Sq.go ?_ | ((with_reducible refine Ev.mk ?_); conv => whnf) | with_reducible refine Dr.mk ⟨by kernel_rfl, by kernel_rfl⟩ ?_ | with_reducible refine obG ?_ | with_reducible refine Ob.mk ?_ ?_ | (with_reducible first | refine brT fun h => ?_ | refine brF fun h => ?_ | refine Br.mk (fun h => ?_) fun h => ?_) <;> (try simp only [bsl, beq_iff_eq, bne_iff_ne, bs2] at h) <;> (try contradiction) <;> try (exfalso; omega))
    refine hI.call ?_
    repeat' (first | with_reducible refine Sq.go ?_ | ((with_reducible refine Ev.mk ?_); conv => whnf) | with_reducible refine Dr.mk ⟨by kernel_rfl, by kernel_rfl⟩ ?_ | with_reducible refine obG ?_ | with_reducible refine Ob.mk ?_ ?_ | (with_reducible first | refine brT fun h => ?_ | refine brF fun h => ?_ | refine Br.mk (fun h => ?_) fun h => ?_) <;> (try simp only [bsl, beq_iff_eq, bne_iff_ne, bs2] at h) <;> (try contradiction) <;> try (exfalso; omega))
    refine hO.call ?_
    repeat' (first | with_reducible refine Sq.go ?_ | ((with_reducible refine Ev.mk ?_); conv => whnf) | with_reducible refine Dr.mk ⟨by kernel_rfl, by kernel_rfl⟩ ?_ | with_reducible refine obG ?_ | with_reducible refine Ob.mk ?_ ?_ | (with_reducible first | refine brT fun h => ?_ | refine brF fun h => ?_ | refine Br.mk (fun h => ?_) fun h => ?_) <;> (try simp only [bsl, beq_iff_eq, bne_iff_ne, bs2] at h) <;> (try contradiction) <;> try (exfalso; omega))
    exact ⟨rfl, rfl, rfl, True.intro⟩
  rw [h3] at hO
  have hx : exeX taken l w = match runX taken l w (List.range w.length) ([], taken) with
    | none => none
    | some z => if ordS (srtB z.2) = true then some (srtB z.2, restX l w) else none := if_pos ⟨h1, h2, h3⟩
  repeat' (first | with_reducible refine Sq.go ?_ | ((with_reducible refine Ev.mk ?_); conv => whnf) | with_reducible refine Dr.mk ⟨by kernel_rfl, by kernel_rfl⟩ ?_ | with_reducible refine obG ?_ | with_reducible refine Ob.mk ?_ ?_ | (with_reducible first | refine brT fun h => ?_ | refine brF fun h => ?_ | refine Br.mk (fun h => ?_) fun h => ?_) <;> (try simp only [bsl, beq_iff_eq, bne_iff_ne, bs2] at h) <;> (try contradiction) <;> try (exfalso; omega))
  refine hC.call ?_
  repeat' (first | with_reducible refine Sq.go ?_ | ((with_reducible refine Ev.mk ?_); conv => whnf) | with_reducible refine Dr.mk ⟨by kernel_rfl, by kernel_rfl⟩ ?_ | with_reducible refine obG ?_ | with_reducible refine Ob.mk ?_ ?_ | (with_reducible first | refine brT fun h => ?_ | refine brF fun h => ?_ | refine Br.mk (fun h => ?_) fun h => ?_) <;> (try simp only [bsl, beq_iff_eq, bne_iff_ne, bs2] at h) <;> (try contradiction) <;> try (exfalso; omega))
  refine hI.call ?_
  repeat' (first | with_reducible refine Sq.go ?_ | ((with_reducible refine Ev.mk ?_); conv => whnf) | with_reducible refine Dr.mk ⟨by kernel_rfl, by kernel_rfl⟩ ?_ | with_reducible refine obG ?_ | with_reducible refine Ob.mk ?_ ?_ | (with_reducible first | refine brT fun h => ?_ | refine brF fun h => ?_ | refine Br.mk (fun h => ?_) fun h => ?_) <;> (try simp only [bsl, beq_iff_eq, bne_iff_ne, bs2] at h) <;> (try contradiction) <;> try (exfalso; omega))
  refine hO.call ?_
  repeat' (first | with_reducible refine Sq.go ?_ | ((with_reducible refine Ev.mk ?_); conv => whnf) | with_reducible refine Dr.mk ⟨by kernel_rfl, by kernel_rfl⟩ ?_ | with_reducible refine obG ?_ | with_reducible refine Ob.mk ?_ ?_ | (with_reducible first | refine brT fun h => ?_ | refine brF fun h => ?_ | refine Br.mk (fun h => ?_) fun h => ?_) <;> (try simp only [bsl, beq_iff_eq, bne_iff_ne, bs2] at h) <;> (try contradiction) <;> try (exfalso; omega))
  refine (cloneS_ok taken ht).at [] rfl True.intro (fun g _ => ⟨rfl, ?_⟩)
  repeat' (first | with_reducible refine Sq.go ?_ | ((with_reducible refine Ev.mk ?_); conv => whnf) | with_reducible refine Dr.mk ⟨by kernel_rfl, by kernel_rfl⟩ ?_ | with_reducible refine obG ?_ | with_reducible refine Ob.mk ?_ ?_ | (with_reducible first | refine brT fun h => ?_ | refine brF fun h => ?_ | refine Br.mk (fun h => ?_) fun h => ?_) <;> (try simp only [bsl, beq_iff_eq, bne_iff_ne, bs2] at h) <;> (try contradiction) <;> try (exfalso; omega))
  refine loop_rule hT (S := XS) (fun y => ([(1, .d (eSwaps l)), (2, .d (eInts w)), (3, .ptr (.loc 0) 0 0 0), (6, .ptr (.loc 1) 0 0 0), (7, .d .nils), (8, .d (.int .i64 0)), (10, .ptr (.loc 4) 0 0 0), (11, .fn (.func 44) [] [.ptr (.loc 0) 0 0 0, .ptr (.loc 4) 0 0 0, .ptr (.loc 1) 0 0 0]), (35, .d (eInts w)), (36, .d (.int .i64 w.length)), (37, .d (.int .i64 y.k))], ⟨[
    some (.box 40 [.d (eSeats taken)]), some (.box 40 [.osl (.loc 2) g 0 y.z.2.length]), some (.vec 51 3 g y.z.2.length (rowsS y.z.2)), some (.map (.one .i64) (hasH y.z.1) fun x => .d (.bool (hasH y.z.1 x))), some (.box 47 [.mp (.loc 3)])
    ], []⟩)) (fun y => y.k ≤ w.length ∧ y.z.2.length = taken.length ∧ runX taken l w (List.range w.length) ([], taken) = runX taken l w ((List.range w.length).drop y.k) y.z) (fun y => w.length - y.k) ⟨0, [], taken⟩ ?_ ?_ ?_
  · repeat' (first | exact True.intro | exact rfl | exact Nat.le_refl _ | refine And.intro ?_ ?_)
    · intro i hi
      exact ⟨rfl, rfl⟩
    · intro key hf
      exact ⟨rfl, fun h => by cases h⟩
  · exact ⟨Nat.zero_le _, rfl, rfl⟩
  · rintro ⟨k, z⟩ ⟨hk, hzl, hc⟩
    dsimp only at hk hzl hc ⊢
    by_cases hk2 : k < w.length
    · rw [runX_drop taken l w hk2] at hc
      obtain ⟨⟨x0, x1⟩, y0, y1⟩ := isC_at h2 hk2
      have hmod := tmod_nat k w.length
      have hlt := Nat.mod_lt (k + 1) (show 0 < w.length by omega)
      have htm : 0 ≤ ((k : Int) + 1).tmod (w.length : Int) ∧ ((k : Int) + 1).tmod (w.length : Int) < w.length := by rw [hmod]; omega
      have hinm : In .i64 (((k : Int) + 1).tmod (w.length : Int)) := in64.2 (by omega)
      have hy : w.getD (((k : Int) + 1).tmod (w.length : Int)).toNat default = nxI w k := by rw [hmod, Int.toNat_natCast]; rfl
      have hyb : 0 ≤ w.getD (((k : Int) + 1).tmod (w.length : Int)).toNat default ∧ w.getD (((k : Int) + 1).tmod (w.length : Int)).toNat default < l.length := by rw [hy]; exact ⟨y0, y1⟩
      have hxb : 0 ≤ w.getD (k : Int).toNat default ∧ w.getD (k : Int).toNat default < l.length := ⟨x0, x1⟩
      have hgv : l.getD (w.getD (((k : Int) + 1).tmod (w.length : Int)).toNat default).toNat default = gvr l w k := by rw [hy]; rfl
      have hto : (l.getD (w.getD (k : Int).toNat default).toNat default).student = tkr l w k := rfl
      unfold stepX at hc
      obtain ⟨gv, hgv2⟩ : ∃ gv, gvr l w k = gv := ⟨_, rfl⟩
      obtain ⟨to, hto2⟩ : ∃ to, tkr l w k = to := ⟨_, rfl⟩
      rw [hgv2] at hgv hc
      rw [hto2] at hto hc
      have hH := hand_ok taken ht h3 z hzl gv.student gv.give.sec to g
      repeat' (first | ((with_reducible refine Ev.mk ?_); conv => whnf) | with_reducible refine Dr.mk ⟨by kernel_rfl, by kernel_rfl⟩ ?_ | with_reducible refine obG ?_ | with_reducible refine Ob.mk ?_ ?_ | (with_reducible first | refine brT fun h => ?_ | refine brF fun h => ?_ | refine Br.mk (fun h => ?_) fun h => ?_) <;> (try simp only [bsl, beq_iff_eq, bne_iff_ne, bs2] at h) <;> (try contradiction) <;> try (exfalso; omega))
      refine Sq.go ?_
      repeat' (first | ((with_reducible refine Ev.mk ?_); conv => whnf) | with_reducible refine Dr.mk ⟨by kernel_rfl, by kernel_rfl⟩ ?_ | with_reducible refine obG ?_ | with_reducible refine Ob.mk ?_ ?_ | (with_reducible first | refine brT fun h => ?_ | refine brF fun h => ?_ | refine Br.mk (fun h => ?_) fun h => ?_) <;> (try simp only [bsl, beq_iff_eq, bne_iff_ne, bs2] at h) <;> (try contradiction) <;> try (exfalso; omega))
      refine Sq.go ?_
      repeat' (first | ((with_reducible refine Ev.mk ?_); conv => whnf) | with_reducible refine Dr.mk ⟨by kernel_rfl, by kernel_rfl⟩ ?_ | with_reducible refine obG ?_ | with_reducible refine Ob.mk ?_ ?_ | (with_reducible first | refine brT fun h => ?_ | refine brF fun h => ?_ | refine Br.mk (fun h => ?_) fun h => ?_) <;> (try simp only [bsl, beq_iff_eq, bne_iff_ne, bs2] at h) <;> (try contradiction) <;> try (exfalso; omega))
      refine Sq.go ?_
      repeat' (first | ((with_reducible refine Ev.mk ?_); conv => whnf) | with_reducible refine Dr.mk ⟨by kernel_rfl, by kernel_rfl⟩ ?_ | with_reducible refine obG ?_ | with_reducible refine Ob.mk ?_ ?_ | (with_reducible first | refine brT fun h => ?_ | refine brF fun h => ?_ | refine Br.mk (fun h => ?_) fun h => ?_) <;> (try simp only [bsl, beq_iff_eq, bne_iff_ne, bs2] at h) <;> (try contradiction) <;> try (exfalso; omega))
      simp (config := { beta := false, eta := false, iota := false, proj := false, zeta := false, decide := false }) only [hgv]
      cases hh : hand taken z gv.student gv.give.sec to with
      | none =>
        rw [hh] at hH hc
        rw [hc] at hx
        obtain ⟨e1, e2, e3⟩ := ex_none hx
        rw [e1, e2, e3]
        refine Sq.alt (Awp.seq (Awp.eff1 hT (m0 :=
          ⟨[some (.box 40 [.d (eSeats taken)]), some .opq, some .opq, some .opq, some (.box 47 [.mp (.loc 3)]), some (.box 26 (up (eSwap gv)))], []⟩
          ) (m1 := ⟨[
          some (.box 40 [.d (eSeats taken)]), some (.box 40 [.osl (.loc 2) g 0 z.2.length]), some (.vec 51 3 g z.2.length (rowsS z.2)), some (.map (.one .i64) (hasH z.1) fun x => .d (.bool (hasH z.1 x))), some (.box 47 [.mp (.loc 3)])
          , some (.box 26 (up (eSwap gv)))], []⟩) (B1 := .d (.bool false)) (by kernel_rfl) (by kernel_rfl) (by kernel_rfl) 11 rfl rfl rfl rfl (by kernel_rfl) (Weak.of ⟨.inl rfl, .inr ⟨rfl, _, rfl⟩, .inr ⟨rfl, _, rfl⟩, .inr ⟨rfl, _, rfl⟩, .inl rfl, .inl rfl, True.intro⟩ True.intro) (Weak.of ⟨.inl rfl, .inr ⟨rfl, _, rfl⟩, .inr ⟨rfl, _, rfl⟩, .inr ⟨rfl, _, rfl⟩, .inl rfl, .inl rfl, True.intro⟩ True.intro) ?_))
        conv => whnf
        repeat' (first | ((with_reducible refine Ev.mk ?_); conv => whnf) | with_reducible refine Dr.mk ⟨by kernel_rfl, by kernel_rfl⟩ ?_ | with_reducible refine obG ?_ | with_reducible refine Ob.mk ?_ ?_ | (with_reducible first | refine brT fun h => ?_ | refine brF fun h => ?_ | refine Br.mk (fun h => ?_) fun h => ?_) <;> (try simp only [bsl, beq_iff_eq, bne_iff_ne, bs2] at h) <;> (try contradiction) <;> try (exfalso; omega))
        refine ⟨?_, Ev.mk (vc_ok hT _ _ _ _ (Ev.o ?_))⟩
        · skip
          conv => whnf
          repeat' (first | ((with_reducible refine Ev.mk ?_); conv => whnf) | with_reducible refine Dr.mk ⟨by kernel_rfl, by kernel_rfl⟩ ?_ | with_reducible refine obG ?_ | with_reducible refine Ob.mk ?_ ?_ | (with_reducible first | refine brT fun h => ?_ | refine brF fun h => ?_ | refine Br.mk (fun h => ?_) fun h => ?_) <;> (try simp only [bsl, beq_iff_eq, bne_iff_ne, bs2] at h) <;> (try contradiction) <;> try (exfalso; omega))
          simp (config := { beta := false, eta := false, iota := false, proj := false, zeta := false, decide := false }) only [hto]
          refine ⟨⟨_, [], [.ptr (.loc 0) 0 0 0, .ptr (.loc 4) 0 0 0, .ptr (.loc 1) 0 0 0], .inl rfl, hH.at [.loc 0, .loc 4, .loc 1, .loc 3, .loc 2] rfl ⟨rfl, rfl, rfl, rfl, rfl, True.intro⟩ (fun y hy => ⟨rfl, ?_⟩)⟩⟩
          subst hy
          refine Ev.mk ?_
          conv => whnf
          exact ⟨rfl, rfl⟩
        · repeat' (first | with_reducible refine Sq.go ?_ | ((with_reducible refine Ev.mk ?_); conv => whnf) | with_reducible refine Dr.mk ⟨by kernel_rfl, by kernel_rfl⟩ ?_ | with_reducible refine obG ?_ | with_reducible refine Ob.mk ?_ ?_ | (with_reducible first | refine brT fun h => ?_ | refine brF fun h => ?_ | refine Br.mk (fun h => ?_) fun h => ?_) <;> (try simp only [bsl, beq_iff_eq, bne_iff_ne, bs2] at h) <;> (try contradiction) <;> try (exfalso; omega))
          exact ⟨rfl, rfl, rfl, True.intro⟩
      | some z1 =>
        rw [hh] at hH hc
        have hz1 : z1.2.length = taken.length := (hand_len hh).trans hzl
        dsimp only at hH hc
        have hH2 := hand_ok taken ht h3 z1 hz1 gv.student gv.give.lab to g
        by_cases hlab : 0 ≤ gv.give.lab
        · rw [if_pos hlab] at hc
          cases hh2 : hand taken z1 gv.student gv.give.lab to with
          | none =>
            rw [hh2] at hH2 hc
            rw [hc] at hx
            obtain ⟨e1, e2, e3⟩ := ex_none hx
            rw [e1, e2, e3]
            refine Sq.alt (Awp.seq (Awp.eff2 hT (m0 :=
              ⟨[some (.box 40 [.d (eSeats taken)]), some .opq, some .opq, some .opq, some (.box 47 [.mp (.loc 3)]), some (.box 26 (up (eSwap gv)))], []⟩
              ) (m1 := ⟨[
              some (.box 40 [.d (eSeats taken)]), some (.box 40 [.osl (.loc 2) g 0 z1.2.length]), some (.vec 51 3 g z1.2.length (rowsS z1.2)), some (.map (.one .i64) (hasH z1.1) fun x => .d (.bool (hasH z1.1 x))), some (.box 47 [.mp (.loc 3)])
              , some (.box 26 (up (eSwap gv)))], []⟩) (m2 := ⟨[
              some (.box 40 [.d (eSeats taken)]), some (.box 40 [.osl (.loc 2) g 0 z1.2.length]), some (.vec 51 3 g z1.2.length (rowsS z1.2)), some (.map (.one .i64) (hasH z1.1) fun x => .d (.bool (hasH z1.1 x))), some (.box 47 [.mp (.loc 3)])
              , some (.box 26 (up (eSwap gv)))], []⟩) (B1 := .d (.bool true)) (B2 := .d (.bool false)) (by kernel_rfl) (by kernel_rfl) (by kernel_rfl) 11 30 [18, 13, 11] rfl rfl rfl rfl rfl rfl rfl rfl rfl (by kernel_rfl) rfl (by kernel_rfl) (by kernel_rfl) (Weak.of ⟨.inl rfl, .inr ⟨rfl, _, rfl⟩, .inr ⟨rfl, _, rfl⟩, .inr ⟨rfl, _, rfl⟩, .inl rfl, .inl rfl, True.intro⟩ True.intro) (Weak.of ⟨.inl rfl, .inr ⟨rfl, _, rfl⟩, .inr ⟨rfl, _, rfl⟩, .inr ⟨rfl, _, rfl⟩, .inl rfl, .inl rfl, True.intro⟩ True.intro) (Weak.of ⟨.inl rfl, .inr ⟨rfl, _, rfl⟩, .inr ⟨rfl, _, rfl⟩, .inr ⟨rfl, _, rfl⟩, .inl rfl, .inl rfl, True.intro⟩ True.intro) ?_))
            conv => whnf
            repeat' (first | ((with_reducible refine Ev.mk ?_); conv => whnf) | with_reducible refine Dr.mk ⟨by kernel_rfl, by kernel_rfl⟩ ?_ | with_reducible refine obG ?_ | with_reducible refine Ob.mk ?_ ?_ | (with_reducible first | refine brT fun h => ?_ | refine brF fun h => ?_ | refine Br.mk (fun h => ?_) fun h => ?_) <;> (try simp only [bsl, beq_iff_eq, bne_iff_ne, bs2] at h) <;> (try contradiction) <;> try (exfalso; omega))
            refine ⟨?_, ?_, ?_, Ev.mk (vc_ok hT _ _ _ _ (Ev.o ?_))⟩
            · skip
              conv => whnf
              repeat' (first | ((with_reducible refine Ev.mk ?_); conv => whnf) | with_reducible refine Dr.mk ⟨by kernel_rfl, by kernel_rfl⟩ ?_ | with_reducible refine obG ?_ | with_reducible refine Ob.mk ?_ ?_ | (with_reducible first | refine brT fun h => ?_ | refine brF fun h => ?_ | refine Br.mk (fun h => ?_) fun h => ?_) <;> (try simp only [bsl, beq_iff_eq, bne_iff_ne, bs2] at h) <;> (try contradiction) <;> try (exfalso; omega))
              simp (config := { beta := false, eta := false, iota := false, proj := false, zeta := false, decide := false }) only [hto]
              refine ⟨⟨_, [], [.ptr (.loc 0) 0 0 0, .ptr (.loc 4) 0 0 0, .ptr (.loc 1) 0 0 0], .inl rfl, hH.at [.loc 0, .loc 4, .loc 1, .loc 3, .loc 2] rfl ⟨rfl, rfl, rfl, rfl, rfl, True.intro⟩ (fun y hy => ⟨rfl, ?_⟩)⟩⟩
              subst hy
              refine Ev.mk ?_
              conv => whnf
              exact ⟨rfl, rfl⟩
            · show some (true && decide (0 ≤ gv.give.lab)) = some true
              rw [decide_eq_true hlab]
              rfl
            · skip
              conv => whnf
              repeat' (first | ((with_reducible refine Ev.mk ?_); conv => whnf) | with_reducible refine Dr.mk ⟨by kernel_rfl, by kernel_rfl⟩ ?_ | with_reducible refine obG ?_ | with_reducible refine Ob.mk ?_ ?_ | (with_reducible first | refine brT fun h => ?_ | refine brF fun h => ?_ | refine Br.mk (fun h => ?_) fun h => ?_) <;> (try simp only [bsl, beq_iff_eq, bne_iff_ne, bs2] at h) <;> (try contradiction) <;> try (exfalso; omega))
              simp (config := { beta := false, eta := false, iota := false, proj := false, zeta := false, decide := false }) only [hto]
              refine ⟨⟨_, [], [.ptr (.loc 0) 0 0 0, .ptr (.loc 4) 0 0 0, .ptr (.loc 1) 0 0 0], .inl rfl, hH2.at [.loc 0, .loc 4, .loc 1, .loc 3, .loc 2] rfl ⟨rfl, rfl, rfl, rfl, rfl, True.intro⟩ (fun y hy => ⟨rfl, ?_⟩)⟩⟩
              subst hy
              refine Ev.mk ?_
              conv => whnf
              exact ⟨rfl, rfl⟩
            · repeat' (first | with_reducible refine Sq.go ?_ | ((with_reducible refine Ev.mk ?_); conv => whnf) | with_reducible refine Dr.mk ⟨by kernel_rfl, by kernel_rfl⟩ ?_ | with_reducible refine obG ?_ | with_reducible refine Ob.mk ?_ ?_ | (with_reducible first | refine brT fun h => ?_ | refine brF fun h => ?_ | refine Br.mk (fun h => ?_) fun h => ?_) <;> (try simp only [bsl, beq_iff_eq, bne_iff_ne, bs2] at h) <;> (try contradiction) <;> try (exfalso; omega))
              exact ⟨rfl, rfl, rfl, True.intro⟩
          | some z2 =>
            rw [hh2] at hH2 hc
            have hz2 : z2.2.length = taken.length := (hand_len hh2).trans hz1
            refine Sq.alt (Awp.seq (Awp.eff2 hT (m0 :=
              ⟨[some (.box 40 [.d (eSeats taken)]), some .opq, some .opq, some .opq, some (.box 47 [.mp (.loc 3)]), some (.box 26 (up (eSwap gv)))], []⟩
              ) (m1 := ⟨[
              some (.box 40 [.d (eSeats taken)]), some (.box 40 [.osl (.loc 2) g 0 z1.2.length]), some (.vec 51 3 g z1.2.length (rowsS z1.2)), some (.map (.one .i64) (hasH z1.1) fun x => .d (.bool (hasH z1.1 x))), some (.box 47 [.mp (.loc 3)])
              , some (.box 26 (up (eSwap gv)))], []⟩) (m2 := ⟨[
              some (.box 40 [.d (eSeats taken)]), some (.box 40 [.osl (.loc 2) g 0 z2.2.length]), some (.vec 51 3 g z2.2.length (rowsS z2.2)), some (.map (.one .i64) (hasH z2.1) fun x => .d (.bool (hasH z2.1 x))), some (.box 47 [.mp (.loc 3)])
              , some (.box 26 (up (eSwap gv)))], []⟩) (B1 := .d (.bool true)) (B2 := .d (.bool true)) (by kernel_rfl) (by kernel_rfl) (by kernel_rfl) 11 30 [18, 13, 11] rfl rfl rfl rfl rfl rfl rfl rfl rfl (by kernel_rfl) rfl (by kernel_rfl) (by kernel_rfl) (Weak.of ⟨.inl rfl, .inr ⟨rfl, _, rfl⟩, .inr ⟨rfl, _, rfl⟩, .inr ⟨rfl, _, rfl⟩, .inl rfl, .inl rfl, True.intro⟩ True.intro) (Weak.of ⟨.inl rfl, .inr ⟨rfl, _, rfl⟩, .inr ⟨rfl, _, rfl⟩, .inr ⟨rfl, _, rfl⟩, .inl rfl, .inl rfl, True.intro⟩ True.intro) (Weak.of ⟨.inl rfl, .inr ⟨rfl, _, rfl⟩, .inr ⟨rfl, _, rfl⟩, .inr ⟨rfl, _, rfl⟩, .inl rfl, .inl rfl, True.intro⟩ True.intro) ?_))
            conv => whnf
            repeat' (first | ((with_reducible refine Ev.mk ?_); conv => whnf) | with_reducible refine Dr.mk ⟨by kernel_rfl, by kernel_rfl⟩ ?_ | with_reducible refine obG ?_ | with_reducible refine Ob.mk ?_ ?_ | (with_reducible first | refine brT fun h => ?_ | refine brF fun h => ?_ | refine Br.mk (fun h => ?_) fun h => ?_) <;> (try simp only [bsl, beq_iff_eq, bne_iff_ne, bs2] at h) <;> (try contradiction) <;> try (exfalso; omega))
            refine ⟨?_, ?_, ?_, Ev.mk (vc_ok hT _ _ _ _ (Ev.o ?_))⟩
            · skip
              conv => whnf
              repeat' (first | ((with_reducible refine Ev.mk ?_); conv => whnf) | with_reducible refine Dr.mk ⟨by kernel_rfl, by kernel_rfl⟩ ?_ | with_reducible refine obG ?_ | with_reducible refine Ob.mk ?_ ?_ | (with_reducible first | refine brT fun h => ?_ | refine brF fun h => ?_ | refine Br.mk (fun h => ?_) fun h => ?_) <;> (try simp only [bsl, beq_iff_eq, bne_iff_ne, bs2] at h) <;> (try contradiction) <;> try (exfalso; omega))
              simp (config := { beta := false, eta := false, iota := false, proj := false, zeta := false, decide := false }) only [hto]
              refine ⟨⟨_, [], [.ptr (.loc 0) 0 0 0, .ptr (.loc 4) 0 0 0, .ptr (.loc 1) 0 0 0], .inl rfl, hH.at [.loc 0, .loc 4, .loc 1, .loc 3, .loc 2] rfl ⟨rfl, rfl, rfl, rfl, rfl, True.intro⟩ (fun y hy => ⟨rfl, ?_⟩)⟩⟩
              subst hy
              refine Ev.mk ?_
              conv => whnf
              exact ⟨rfl, rfl⟩
            · show some (true && decide (0 ≤ gv.give.lab)) = some true
              rw [decide_eq_true hlab]
              rfl
            · skip
              conv => whnf
              repeat' (first | ((with_reducible refine Ev.mk ?_); conv => whnf) | with_reducible refine Dr.mk ⟨by kernel_rfl, by kernel_rfl⟩ ?_ | with_reducible refine obG ?_ | with_reducible refine Ob.mk ?_ ?_ | (with_reducible first | refine brT fun h => ?_ | refine brF fun h => ?_ | refine Br.mk (fun h => ?_) fun h => ?_) <;> (try simp only [bsl, beq_iff_eq, bne_iff_ne, bs2] at h) <;> (try contradiction) <;> try (exfalso; omega))
              simp (config := { beta := false, eta := false, iota := false, proj := false, zeta := false, decide := false }) only [hto]
              refine ⟨⟨_, [], [.ptr (.loc 0) 0 0 0, .ptr (.loc 4) 0 0 0, .ptr (.loc 1) 0 0 0], .inl rfl, hH2.at [.loc 0, .loc 4, .loc 1, .loc 3, .loc 2] rfl ⟨rfl, rfl, rfl, rfl, rfl, True.intro⟩ (fun y hy => ⟨rfl, ?_⟩)⟩⟩
              subst hy
              refine Ev.mk ?_
              conv => whnf
              exact ⟨rfl, rfl⟩
            · repeat' (first | with_reducible refine Sq.go ?_ | ((with_reducible refine Ev.mk ?_); conv => whnf) | with_reducible refine Dr.mk ⟨by kernel_rfl, by kernel_rfl⟩ ?_ | with_reducible refine obG ?_ | with_reducible refine Ob.mk ?_ ?_ | (with_reducible first | refine brT fun h => ?_ | refine brF fun h => ?_ | refine Br.mk (fun h => ?_) fun h => ?_) <;> (try simp only [bsl, beq_iff_eq, bne_iff_ne, bs2] at h) <;> (try contradiction) <;> try (exfalso; omega))
              refine ⟨⟨k + 1, z2⟩, ⟨by show k + 1 ≤ w.length; omega, hz2, hc⟩, by show w.length - (k + 1) < w.length - k; omega, ?_⟩
              repeat' (first | exact True.intro | exact rfl | exact Nat.le_refl _ | refine And.intro ?_ ?_)
              · intro i hi
                exact ⟨rfl, rfl⟩
              · intro key hf
                exact ⟨rfl, fun _ => ⟨rfl, rfl⟩⟩
        · rw [if_neg hlab] at hc
          refine Sq.alt (Awp.seq (Awp.eff1 hT (m0 :=
            ⟨[some (.box 40 [.d (eSeats taken)]), some .opq, some .opq, some .opq, some (.box 47 [.mp (.loc 3)]), some (.box 26 (up (eSwap gv)))], []⟩
            ) (m1 := ⟨[
            some (.box 40 [.d (eSeats taken)]), some (.box 40 [.osl (.loc 2) g 0 z1.2.length]), some (.vec 51 3 g z1.2.length (rowsS z1.2)), some (.map (.one .i64) (hasH z1.1) fun x => .d (.bool (hasH z1.1 x))), some (.box 47 [.mp (.loc 3)])
            , some (.box 26 (up (eSwap gv)))], []⟩) (B1 := .d (.bool true)) (by kernel_rfl) (by kernel_rfl) (by kernel_rfl) 11 rfl rfl rfl rfl (by kernel_rfl) (Weak.of ⟨.inl rfl, .inr ⟨rfl, _, rfl⟩, .inr ⟨rfl, _, rfl⟩, .inr ⟨rfl, _, rfl⟩, .inl rfl, .inl rfl, True.intro⟩ True.intro) (Weak.of ⟨.inl rfl, .inr ⟨rfl, _, rfl⟩, .inr ⟨rfl, _, rfl⟩, .inr ⟨rfl, _, rfl⟩, .inl rfl, .inl rfl, True.intro⟩ True.intro) ?_))
          conv => whnf
          repeat' (first | ((with_reducible refine Ev.mk ?_); conv => whnf) | with_reducible refine Dr.mk ⟨by kernel_rfl, by kernel_rfl⟩ ?_ | with_reducible refine obG ?_ | with_reducible refine Ob.mk ?_ ?_ | (with_reducible first | refine brT fun h => ?_ | refine brF fun h => ?_ | refine Br.mk (fun h => ?_) fun h => ?_) <;> (try simp only [bsl, beq_iff_eq, bne_iff_ne, bs2] at h) <;> (try contradiction) <;> try (exfalso; omega))
          refine ⟨?_, Ev.mk (vc_ok hT _ _ _ _ (Ev.o ?_))⟩
          · skip
            conv => whnf
            repeat' (first | ((with_reducible refine Ev.mk ?_); conv => whnf) | with_reducible refine Dr.mk ⟨by kernel_rfl, by kernel_rfl⟩ ?_ | with_reducible refine obG ?_ | with_reducible refine Ob.mk ?_ ?_ | (with_reducible first | refine brT fun h => ?_ | refine brF fun h => ?_ | refine Br.mk (fun h => ?_) fun h => ?_) <;> (try simp only [bsl, beq_iff_eq, bne_iff_ne, bs2] at h) <;> (try contradiction) <;> try (exfalso; omega))
            simp (config := { beta := false, eta := false, iota := false, proj := false, zeta := false, decide := false }) only [hto]
            refine ⟨⟨_, [], [.ptr (.loc 0) 0 0 0, .ptr (.loc 4) 0 0 0, .ptr (.loc 1) 0 0 0], .inl rfl, hH.at [.loc 0, .loc 4, .loc 1, .loc 3, .loc 2] rfl ⟨rfl, rfl, rfl, rfl, rfl, True.intro⟩ (fun y hy => ⟨rfl, ?_⟩)⟩⟩
            subst hy
            refine Ev.mk ?_
            conv => whnf
            exact ⟨rfl, rfl⟩
          · repeat' (first | with_reducible refine Sq.go ?_ | ((with_reducible refine Ev.mk ?_); conv => whnf) | with_reducible refine Dr.mk ⟨by kernel_rfl, by kernel_rfl⟩ ?_ | with_reducible refine obG ?_ | with_reducible refine Ob.mk ?_ ?_ | (with_reducible first | refine brT fun h => ?_ | refine brF fun h => ?_ | refine Br.mk (fun h => ?_) fun h => ?_) <;> (try simp only [bsl, beq_iff_eq, bne_iff_ne, bs2] at h) <;> (try contradiction) <;> try (exfalso; omega))
            refine ⟨⟨k + 1, z1⟩, ⟨by show k + 1 ≤ w.length; omega, hz1, hc⟩, by show w.length - (k + 1) < w.length - k; omega, ?_⟩
            repeat' (first | exact True.intro | exact rfl | exact Nat.le_refl _ | refine And.intro ?_ ?_)
            · intro i hi
              exact ⟨rfl, rfl⟩
            · intro key hf
              exact ⟨rfl, fun _ => ⟨rfl, rfl⟩⟩
    · rw [drop_end (by simp; omega)] at hc
      replace hc : runX taken l w (List.range w.length) ([], taken) = some z := hc
      rw [hc] at hx
      repeat' (first | with_reducible refine Sq.go ?_ | ((with_reducible refine Ev.mk ?_); conv => whnf) | with_reducible refine Dr.mk ⟨by kernel_rfl, by kernel_rfl⟩ ?_ | with_reducible refine obG ?_ | with_reducible refine Ob.mk ?_ ?_ | (with_reducible first | refine brT fun h => ?_ | refine brF fun h => ?_ | refine Br.mk (fun h => ?_) fun h => ?_) <;> (try simp only [bsl, beq_iff_eq, bne_iff_ne, bs2] at h) <;> (try contradiction) <;> try (exfalso; omega))
      refine (sortSeat_ok z.2 (by omega) g 51).at [.loc 2] rfl ⟨rfl, True.intro⟩ (fun ts hts => ⟨rfl, ?_⟩)
      obtain ⟨hp, hs⟩ := hts
      have hlen := hp.length_eq
      obtain ⟨s1, s2⟩ := srt_same hp hs
      have hsl : eSeats ts = .sl 3 z.2.length fun i => eSeat (ts.getD i default) := by unfold eSeats; rw [hlen]
      have hO2 := ordered_ok ts (by omega)
      rw [hsl] at hO2
      repeat' (first | with_reducible refine Sq.go ?_ | ((with_reducible refine Ev.mk ?_); conv => whnf) | with_reducible refine Dr.mk ⟨by kernel_rfl, by kernel_rfl⟩ ?_ | with_reducible refine obG ?_ | with_reducible refine Ob.mk ?_ ?_ | (with_reducible first | refine brT fun h => ?_ | refine brF fun h => ?_ | refine Br.mk (fun h => ?_) fun h => ?_) <;> (try simp only [bsl, beq_iff_eq, bne_iff_ne, bs2] at h) <;> (try contradiction) <;> try (exfalso; omega))
      refine hO2.loan rfl ⟨.rows rfl (by show 0 + z.2.length ≤ z.2.length; omega) (fun i hi => by rw [Nat.zero_add]; rfl), True.intro⟩ ?_
      rw [s1]
      cases h4 : ordS (srtB z.2)
      · have hx : exeX taken l w = none := by rw [hx]; exact if_neg (nt h4)
        obtain ⟨e1, e2, e3⟩ := ex_none hx
        rw [e1, e2, e3]
        repeat' (first | with_reducible refine Sq.go ?_ | ((with_reducible refine Ev.mk ?_); conv => whnf) | with_reducible refine Dr.mk ⟨by kernel_rfl, by kernel_rfl⟩ ?_ | with_reducible refine obG ?_ | with_reducible refine Ob.mk ?_ ?_ | (with_reducible first | refine brT fun h => ?_ | refine brF fun h => ?_ | refine Br.mk (fun h => ?_) fun h => ?_) <;> (try simp only [bsl, beq_iff_eq, bne_iff_ne, bs2] at h) <;> (try contradiction) <;> try (exfalso; omega))
        exact ⟨rfl, rfl, rfl, True.intro⟩
      · have hx : exeX taken l w = some (srtB z.2, restX l w) := by rw [hx]; exact if_pos h4
        obtain ⟨e1, e2, e3⟩ := ex_some hx
        rw [e1, e2, e3]
        have hts := s2 h4
        dsimp only
        repeat' (first | ((with_reducible refine Ev.mk ?_); conv => whnf) | with_reducible refine Dr.mk ⟨by kernel_rfl, by kernel_rfl⟩ ?_ | with_reducible refine obG ?_ | with_reducible refine Ob.mk ?_ ?_ | (with_reducible first | refine brT fun h => ?_ | refine brF fun h => ?_ | refine Br.mk (fun h => ?_) fun h => ?_) <;> (try simp only [bsl, beq_iff_eq, bne_iff_ne, bs2] at h) <;> (try contradiction) <;> try (exfalso; omega))
        refine Sq.go ?_
        repeat' (first | ((with_reducible refine Ev.mk ?_); conv => whnf) | with_reducible refine Dr.mk ⟨by kernel_rfl, by kernel_rfl⟩ ?_ | with_reducible refine obG ?_ | with_reducible refine Ob.mk ?_ ?_ | (with_reducible first | refine brT fun h => ?_ | refine brF fun h => ?_ | refine Br.mk (fun h => ?_) fun h => ?_) <;> (try simp only [bsl, beq_iff_eq, bne_iff_ne, bs2] at h) <;> (try contradiction) <;> try (exfalso; omega))
        refine Sq.alt (Awp.vec 7 26 7 (rowsW []) rfl (vc_ok hT _ _ _ _ (Ev.o ?_)))
        repeat' (first | with_reducible refine Sq.go ?_ | ((with_reducible refine Ev.mk ?_); conv => whnf) | with_reducible refine Dr.mk ⟨by kernel_rfl, by kernel_rfl⟩ ?_ | with_reducible refine obG ?_ | with_reducible refine Ob.mk ?_ ?_ | (with_reducible first | refine brT fun h => ?_ | refine brF fun h => ?_ | refine Br.mk (fun h => ?_) fun h => ?_) <;> (try simp only [bsl, beq_iff_eq, bne_iff_ne, bs2] at h) <;> (try contradiction) <;> try (exfalso; omega))
        refine loop_rule hT (S := Nat × List Swap) (fun y => ([(1, .d (eSwaps l)), (2, .d (eInts w)), (6, .ptr (.loc 1) 0 0 0), (7, .osl (.loc 5) y.2.length 0 y.2.length), (93, .d (eSwaps l)), (94, .d (.int .i64 l.length)), (95, .d (.int .i64 y.1))],
          ⟨[none, some (.box 40 [.osl (.loc 2) g 0 z.2.length]), some (.vec 51 3 g z.2.length (rowsS ts)), none, none, some (.vec 26 7 y.2.length y.2.length (rowsW y.2))], []⟩))
          (fun y => y.1 ≤ l.length ∧ y.2.length ≤ y.1 ∧ restX l w = y.2 ++ (((List.range l.length).drop y.1).filter (keepX w)).map (fun i => l.getD i default)) (fun y => l.length - y.1) (0, []) ?_ ?_ ?_
        · repeat' (first | exact True.intro | exact rfl | exact Nat.le_refl _ | refine And.intro ?_ ?_)
          · intro i hi
            exact ⟨rfl, rfl⟩
          · intro i hi
            exact absurd hi (Nat.not_lt_zero i)
        · exact ⟨Nat.zero_le _, Nat.le_refl _, rfl⟩
        · rintro ⟨k, acc⟩ ⟨hk, hal, hc⟩
          dsimp only at hk hal hc ⊢
          by_cases hk2 : k < l.length
          · rw [rest_drop w hk2] at hc
            have hK := hasInt_ok w hw (k : Int)
            rw [← any_mem] at hK
            unfold keepX at hc
            cases hb : w.any fun a => decide ((k : Int) = a)
            · rw [hb] at hK hc
              rw [if_pos (show (!false) = true from rfl)] at hc
              repeat' (first | with_reducible refine Sq.go ?_ | ((with_reducible refine Ev.mk ?_); conv => whnf) | with_reducible refine Dr.mk ⟨by kernel_rfl, by kernel_rfl⟩ ?_ | with_reducible refine obG ?_ | with_reducible refine Ob.mk ?_ ?_ | (with_reducible first | refine brT fun h => ?_ | refine brF fun h => ?_ | refine Br.mk (fun h => ?_) fun h => ?_) <;> (try simp only [bsl, beq_iff_eq, bne_iff_ne, bs2] at h) <;> (try contradiction) <;> try (exfalso; omega))
              refine hK.call ?_
              repeat' (first | with_reducible refine Sq.go ?_ | ((with_reducible refine Ev.mk ?_); conv => whnf) | with_reducible refine Dr.mk ⟨by kernel_rfl, by kernel_rfl⟩ ?_ | with_reducible refine obG ?_ | with_reducible refine Ob.mk ?_ ?_ | (with_reducible first | refine brT fun h => ?_ | refine brF fun h => ?_ | refine Br.mk (fun h => ?_) fun h => ?_) <;> (try simp only [bsl, beq_iff_eq, bne_iff_ne, bs2] at h) <;> (try contradiction) <;> try (exfalso; omega))
              refine ⟨(k + 1, acc ++ [l.getD k default]), ⟨by show k + 1 ≤ l.length; omega, by show (acc ++ [_]).length ≤ k + 1; rw [len_snoc]; omega, by rw [hc, List.append_assoc]; rfl⟩, by show l.length - (k + 1) < l.length - k; omega, ?_⟩
              dsimp only
              rw [len_snoc]
              repeat' (first | exact True.intro | exact rfl | exact Nat.le_refl _ | refine And.intro ?_ ?_)
              · intro i hi
                exact ⟨rfl, rfl⟩
              · intro i hi
                exact ⟨join_snoc eSwap acc _ _ rfl i (by rw [len_snoc]; exact hi), rfl⟩
            · rw [hb] at hK hc
              rw [if_neg (by simp)] at hc
              repeat' (first | with_reducible refine Sq.go ?_ | ((with_reducible refine Ev.mk ?_); conv => whnf) | with_reducible refine Dr.mk ⟨by kernel_rfl, by kernel_rfl⟩ ?_ | with_reducible refine obG ?_ | with_reducible refine Ob.mk ?_ ?_ | (with_reducible first | refine brT fun h => ?_ | refine brF fun h => ?_ | refine Br.mk (fun h => ?_) fun h => ?_) <;> (try simp only [bsl, beq_iff_eq, bne_iff_ne, bs2] at h) <;> (try contradiction) <;> try (exfalso; omega))
              refine hK.call ?_
              repeat' (first | with_reducible refine Sq.go ?_ | ((with_reducible refine Ev.mk ?_); conv => whnf) | with_reducible refine Dr.mk ⟨by kernel_rfl, by kernel_rfl⟩ ?_ | with_reducible refine obG ?_ | with_reducible refine Ob.mk ?_ ?_ | (with_reducible first | refine brT fun h => ?_ | refine brF fun h => ?_ | refine Br.mk (fun h => ?_) fun h => ?_) <;> (try simp only [bsl, beq_iff_eq, bne_iff_ne, bs2] at h) <;> (try contradiction) <;> try (exfalso; omega))
              refine ⟨(k + 1, acc), ⟨by show k + 1 ≤ l.length; omega, by show acc.length ≤ k + 1; omega, hc⟩, by show l.length - (k + 1) < l.length - k; omega, ?_⟩
              repeat' (first | exact True.intro | exact rfl | exact Nat.le_refl _ | refine And.intro ?_ ?_)
              all_goals (intro i hi; exact ⟨rfl, rfl⟩)
          · rw [drop_end (by simp; omega), List.filter_nil, List.map_nil, List.append_nil] at hc
            rw [hc, ← hts]
            repeat' (first | with_reducible refine Sq.go ?_ | ((with_reducible refine Ev.mk ?_); conv => whnf) | with_reducible refine Dr.mk ⟨by kernel_rfl, by kernel_rfl⟩ ?_ | with_reducible refine obG ?_ | with_reducible refine Ob.mk ?_ ?_ | (with_reducible first | refine brT fun h => ?_ | refine brF fun h => ?_ | refine Br.mk (fun h => ?_) fun h => ?_) <;> (try simp only [bsl, beq_iff_eq, bne_iff_ne, bs2] at h) <;> (try contradiction) <;> try (exfalso; omega))
            exact ⟨⟨rfl, rfl, by omega, hlen.symm, fun i hi => by rw [Nat.zero_add]; rfl⟩, ⟨rfl, rfl, by omega, rfl, fun i hi => by rw [Nat.zero_add]; rfl⟩, rfl, True.intro⟩
end Go.Proofs.Ytnhadilbebgbjaa
