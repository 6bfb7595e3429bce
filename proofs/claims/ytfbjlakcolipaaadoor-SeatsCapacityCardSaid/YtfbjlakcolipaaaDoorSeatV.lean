/-
  Seats: the law SeatsCapacity.
-/
import Derived.Test.YtfbjlakcolipaaaDoorSeatU
namespace Go.Proofs.YtfbjlakcolipaaaDoor
set_option linter.unusedSimpArgs false
set_option linter.unusedVariables false
open Go Go.Ab
set_option maxRecDepth 100000
set_option maxHeartbeats 0
structure Wrap (p : Prop) : Prop where
  h : p
theorem cutT {T G : Prop} (h : Wrap T → G) (t : T) : G := h ⟨t⟩
def eSteps (xs : List Step) : D := .sl 6 xs.length fun i => eStep (xs.getD i default)
theorem capacity_law (l : List Sec) (steps : List Step) : Pure Tryd.prog 3 [eSecs l, eSteps steps] [.bool true] := by
  refine pure_rule hT (T := tab) (N := 203) (rs := [.tmp 4]) Tryd.func3 rfl rfl rfl (by kernel_rfl) rfl ?_
  have hS := sane25_ok
  have hF := deqP (ds := [eSecs l, .nils]) (few25_ok l []) ⟨⟨rfl, rfl, fun i hi => rfl⟩, rfl, True.intro⟩
  cases hfew : few25 l [] with
  | false =>
    rw [hfew] at hF
    repeat' (first | with_reducible refine Sq.go ?_ | ((with_reducible refine Ev.mk ?_); conv => whnf) | with_reducible refine Dr.mk ⟨by kernel_rfl, by kernel_rfl⟩ ?_ | with_reducible refine obG ?_ | with_reducible refine Ob.mk ?_ ?_ | (with_reducible first | refine brT fun h => ?_ | refine brF fun h => ?_ | refine Br.mk (fun h => ?_) fun h => ?_) <;> (try simp only [bsl, beq_iff_eq, bne_iff_ne, bs2] at h) <;> (try contradiction) <;> try (exfalso; omega))
    refine hS.call ?_
    repeat' (first | with_reducible refine Sq.go ?_ | ((with_reducible refine Ev.mk ?_); conv => whnf) | with_reducible refine Dr.mk ⟨by kernel_rfl, by kernel_rfl⟩ ?_ | with_reducible refine obG ?_ | with_reducible refine Ob.mk ?_ ?_ | (with_reducible first | refine brT fun h => ?_ | refine brF fun h => ?_ | refine Br.mk (fun h => ?_) fun h => ?_) <;> (try simp only [bsl, beq_iff_eq, bne_iff_ne, bs2] at h) <;> (try contradiction) <;> try (exfalso; omega))
    refine hF.call ?_
    repeat' (first | with_reducible refine Sq.go ?_ | ((with_reducible refine Ev.mk ?_); conv => whnf) | with_reducible refine Dr.mk ⟨by kernel_rfl, by kernel_rfl⟩ ?_ | with_reducible refine obG ?_ | with_reducible refine Ob.mk ?_ ?_ | (with_reducible first | refine brT fun h => ?_ | refine brF fun h => ?_ | refine Br.mk (fun h => ?_) fun h => ?_) <;> (try simp only [bsl, beq_iff_eq, bne_iff_ne, bs2] at h) <;> (try contradiction) <;> try (exfalso; omega))
    exact ⟨rfl, True.intro⟩
  | true =>
    rw [hfew] at hF
    obtain ⟨hfs, _, hll⟩ := few25_S hfew
    by_cases hsl : steps.length > 20
    · repeat' (first | with_reducible refine Sq.go ?_ | ((with_reducible refine Ev.mk ?_); conv => whnf) | with_reducible refine Dr.mk ⟨by kernel_rfl, by kernel_rfl⟩ ?_ | with_reducible refine obG ?_ | with_reducible refine Ob.mk ?_ ?_ | (with_reducible first | refine brT fun h => ?_ | refine brF fun h => ?_ | refine Br.mk (fun h => ?_) fun h => ?_) <;> (try simp only [bsl, beq_iff_eq, bne_iff_ne, bs2] at h) <;> (try contradiction) <;> try (exfalso; omega))
      refine hS.call ?_
      repeat' (first | with_reducible refine Sq.go ?_ | ((with_reducible refine Ev.mk ?_); conv => whnf) | with_reducible refine Dr.mk ⟨by kernel_rfl, by kernel_rfl⟩ ?_ | with_reducible refine obG ?_ | with_reducible refine Ob.mk ?_ ?_ | (with_reducible first | refine brT fun h => ?_ | refine brF fun h => ?_ | refine Br.mk (fun h => ?_) fun h => ?_) <;> (try simp only [bsl, beq_iff_eq, bne_iff_ne, bs2] at h) <;> (try contradiction) <;> try (exfalso; omega))
      refine hF.call ?_
      repeat' (first | with_reducible refine Sq.go ?_ | ((with_reducible refine Ev.mk ?_); conv => whnf) | with_reducible refine Dr.mk ⟨by kernel_rfl, by kernel_rfl⟩ ?_ | with_reducible refine obG ?_ | with_reducible refine Ob.mk ?_ ?_ | (with_reducible first | refine brT fun h => ?_ | refine brF fun h => ?_ | refine Br.mk (fun h => ?_) fun h => ?_) <;> (try simp only [bsl, beq_iff_eq, bne_iff_ne, bs2] at h) <;> (try contradiction) <;> try (exfalso; omega))
      exact ⟨rfl, True.intro⟩
    have hA := deqP (ds := [eSecs l, .nils]) (scheck_ok l hfs [] (by decide)) ⟨⟨rfl, rfl, fun i hi => rfl⟩, rfl, True.intro⟩
    by_cases h0 : chkT l [] = 0
    · rw [h0] at hA
      repeat' (first | with_reducible refine Sq.go ?_ | ((with_reducible refine Ev.mk ?_); conv => whnf) | with_reducible refine Dr.mk ⟨by kernel_rfl, by kernel_rfl⟩ ?_ | with_reducible refine obG ?_ | with_reducible refine Ob.mk ?_ ?_ | (with_reducible first | refine brT fun h => ?_ | refine brF fun h => ?_ | refine Br.mk (fun h => ?_) fun h => ?_) <;> (try simp only [bsl, beq_iff_eq, bne_iff_ne, bs2] at h) <;> (try contradiction) <;> try (exfalso; omega))
      refine hS.call ?_
      repeat' (first | with_reducible refine Sq.go ?_ | ((with_reducible refine Ev.mk ?_); conv => whnf) | with_reducible refine Dr.mk ⟨by kernel_rfl, by kernel_rfl⟩ ?_ | with_reducible refine obG ?_ | with_reducible refine Ob.mk ?_ ?_ | (with_reducible first | refine brT fun h => ?_ | refine brF fun h => ?_ | refine Br.mk (fun h => ?_) fun h => ?_) <;> (try simp only [bsl, beq_iff_eq, bne_iff_ne, bs2] at h) <;> (try contradiction) <;> try (exfalso; omega))
      refine hF.call ?_
      repeat' (first | with_reducible refine Sq.go ?_ | ((with_reducible refine Ev.mk ?_); conv => whnf) | with_reducible refine Dr.mk ⟨by kernel_rfl, by kernel_rfl⟩ ?_ | with_reducible refine obG ?_ | with_reducible refine Ob.mk ?_ ?_ | (with_reducible first | refine brT fun h => ?_ | refine brF fun h => ?_ | refine Br.mk (fun h => ?_) fun h => ?_) <;> (try simp only [bsl, beq_iff_eq, bne_iff_ne, bs2] at h) <;> (try contradiction) <;> try (exfalso; omega))
      refine hA.call ?_
      repeat' (first | with_reducible refine Sq.go ?_ | ((with_reducible refine Ev.mk ?_); conv => whnf) | with_reducible refine Dr.mk ⟨by kernel_rfl, by kernel_rfl⟩ ?_ | with_reducible refine obG ?_ | with_reducible refine Ob.mk ?_ ?_ | (with_reducible first | refine brT fun h => ?_ | refine brF fun h => ?_ | refine Br.mk (fun h => ?_) fun h => ?_) <;> (try simp only [bsl, beq_iff_eq, bne_iff_ne, bs2] at h) <;> (try contradiction) <;> try (exfalso; omega))
      refine Awp.frz [] 5 (eSeats []) (.eq rfl) ?_
      refine loop_rule hT (S := Nat × List Seat) (fun z => ([(0, .d (eSecs l)), (5, .d (eSeats z.2)), (35, .d (eSteps steps)), (36, .d (.int .i64 steps.length)), (37, .d (.int .i64 z.1))], ⟨[], []⟩)) (fun z => z.1 ≤ steps.length ∧ z.2.length ≤ 2 * z.1 ∧ chkT l z.2 = 0) (fun z => steps.length - z.1) (0, []) ?_ ?_ ?_
      · repeat' (first | exact True.intro | exact rfl | exact Nat.le_refl _ | refine And.intro ?_ ?_)
      · exact ⟨Nat.zero_le _, Nat.le_refl _, h0⟩
      · rintro ⟨k, T⟩ ⟨hk, hTl, hT0⟩
        dsimp only at hk hTl hT0 ⊢
        by_cases hk2 : k < steps.length
        · obtain ⟨⟨st, sec, lab, now, grp, lv⟩, hsp⟩ : ∃ sp, steps.getD k default = sp := ⟨_, rfl⟩
          have hH := has_ok T (by omega) st sec
          have hG := groups_ok ⟨st, sec, lab, now, grp, lv⟩
          have hGl := bitsL_len grp 8
          have hTk := Take_ok l hfs T (by omega) st ⟨sec, lab⟩ (bitsL grp 8) (by omega) now
          obtain ⟨gs, hgsd⟩ : ∃ gs, bitsL grp 8 = gs := ⟨_, rfl⟩
          rw [show bitsL (Step.groups ⟨st, sec, lab, now, grp, lv⟩) 8 = gs from hgsd] at hG
          rw [hgsd] at hTk
          obtain ⟨x, e, hte⟩ : ∃ x e, takeT l T st ⟨sec, lab⟩ gs now = (x, e) := ⟨_, _, rfl⟩
          rw [hte] at hTk
          cases lv with
          | false =>
            by_cases he : e = 0
            · subst he
              have hcap := cap_take hte
              have hcl := hcap.len
              have h1 : tkS T st sec = false := hcap.had
              have hcn : (x.length : Int) ≤ T.length + 2 := by
                unfold nOf at hcl
                split at hcl <;> omega
              rw [h1] at hH
              apply cutT
              case h =>
                intro ht
                have h2 := has_ok x (by omega) st sec
                rw [show tkS x st sec = true from hcap.has] at h2
                have hC := scheck_ok l hfs x (by omega)
                rw [hcap.chk] at hC
                by_cases hl0 : 0 ≤ lab
                · have h3 := has_ok x (by omega) st lab
                  rw [show tkS x st lab = true from hcap.lab hl0] at h3
                  by_cases hl1 : lab = sec
                  · have hn : nOf ⟨sec, lab⟩ = 1 := if_neg (fun h => h.2 hl1)
                    rw [hn] at hcl
                    skip
                    repeat' (first | with_reducible refine Sq.go ?_ | ((with_reducible refine Ev.mk ?_); conv => whnf) | with_reducible refine Dr.mk ⟨by kernel_rfl, by kernel_rfl⟩ ?_ | with_reducible refine obH ?_ | with_reducible refine Ob.mk ?_ ?_ | (with_reducible first | refine brU fun h => ?_ | refine brV fun h => ?_ | refine Br.mk (fun h => ?_) fun h => ?_) <;> (try simp only [bsl, beq_iff_eq, bne_iff_ne, bs2, bbq] at h) <;> (try contradiction) <;> try (exfalso; omega))
                    simp (config := { beta := false, eta := false, iota := false, proj := false, zeta := false, decide := false }) only [Int.toNat_natCast, hsp]
                    refine hH.call ?_
                    repeat' (first | with_reducible refine Sq.go ?_ | ((with_reducible refine Ev.mk ?_); conv => whnf) | with_reducible refine Dr.mk ⟨by kernel_rfl, by kernel_rfl⟩ ?_ | with_reducible refine obH ?_ | with_reducible refine Ob.mk ?_ ?_ | (with_reducible first | refine brU fun h => ?_ | refine brV fun h => ?_ | refine Br.mk (fun h => ?_) fun h => ?_) <;> (try simp only [bsl, beq_iff_eq, bne_iff_ne, bs2, bbq] at h) <;> (try contradiction) <;> try (exfalso; omega))
                    refine qC hG ?_
                    repeat' (first | with_reducible refine Sq.go ?_ | ((with_reducible refine Ev.mk ?_); conv => whnf) | with_reducible refine Dr.mk ⟨by kernel_rfl, by kernel_rfl⟩ ?_ | with_reducible refine obH ?_ | with_reducible refine Ob.mk ?_ ?_ | (with_reducible first | refine brU fun h => ?_ | refine brV fun h => ?_ | refine Br.mk (fun h => ?_) fun h => ?_) <;> (try simp only [bsl, beq_iff_eq, bne_iff_ne, bs2, bbq] at h) <;> (try contradiction) <;> try (exfalso; omega))
                    refine qC hTk ?_
                    repeat' (first | with_reducible refine Sq.go ?_ | ((with_reducible refine Ev.mk ?_); conv => whnf) | with_reducible refine Dr.mk ⟨by kernel_rfl, by kernel_rfl⟩ ?_ | with_reducible refine obH ?_ | with_reducible refine Ob.mk ?_ ?_ | (with_reducible first | refine brU fun h => ?_ | refine brV fun h => ?_ | refine Br.mk (fun h => ?_) fun h => ?_) <;> (try simp only [bsl, beq_iff_eq, bne_iff_ne, bs2, bbq] at h) <;> (try contradiction) <;> try (exfalso; omega))
                    skip
                    refine h2.call ?_
                    repeat' (first | with_reducible refine Sq.go ?_ | ((with_reducible refine Ev.mk ?_); conv => whnf) | with_reducible refine Dr.mk ⟨by kernel_rfl, by kernel_rfl⟩ ?_ | with_reducible refine obH ?_ | with_reducible refine Ob.mk ?_ ?_ | (with_reducible first | refine brU fun h => ?_ | refine brV fun h => ?_ | refine Br.mk (fun h => ?_) fun h => ?_) <;> (try simp only [bsl, beq_iff_eq, bne_iff_ne, bs2, bbq] at h) <;> (try contradiction) <;> try (exfalso; omega))
                    refine h3.call ?_
                    repeat' (first | with_reducible refine Sq.go ?_ | ((with_reducible refine Ev.mk ?_); conv => whnf) | with_reducible refine Dr.mk ⟨by kernel_rfl, by kernel_rfl⟩ ?_ | with_reducible refine obH ?_ | with_reducible refine Ob.mk ?_ ?_ | (with_reducible first | refine brU fun h => ?_ | refine brV fun h => ?_ | refine Br.mk (fun h => ?_) fun h => ?_) <;> (try simp only [bsl, beq_iff_eq, bne_iff_ne, bs2, bbq] at h) <;> (try contradiction) <;> try (exfalso; omega))
                    refine hC.call ?_
                    repeat' (first | with_reducible refine Sq.go ?_ | ((with_reducible refine Ev.mk ?_); conv => whnf) | with_reducible refine Dr.mk ⟨by kernel_rfl, by kernel_rfl⟩ ?_ | with_reducible refine obH ?_ | with_reducible refine Ob.mk ?_ ?_ | (with_reducible first | refine brU fun h => ?_ | refine brV fun h => ?_ | refine Br.mk (fun h => ?_) fun h => ?_) <;> (try simp only [bsl, beq_iff_eq, bne_iff_ne, bs2, bbq] at h) <;> (try contradiction) <;> try (exfalso; omega))
                    refine Awp.le (env' := [
                      (0, .d (eSecs l)), (5, .d (eSeats T)), (35, .d (eSteps steps)), (36, .d (.int .i64 steps.length)), (37, .d (.int .i64 k))
                      , (7, .ptr (.loc 0) 0 0 0), (8, .ptr (.loc 1) 0 0 0), (10, .d (eSeats x)), (137, .d (eSeats x)), (138, .d (.int .i64 x.length)), (139, .d (.int .i64 0))]) (m' := ⟨[some (.box 30 (up (eStep ⟨st, sec, lab, now, grp, false⟩))), some (.box 32 (up (eBun ⟨sec, lab⟩)))], []⟩) ?_ ht.1
                    repeat' (first | exact True.intro | exact rfl | exact Nat.le_refl _ | refine And.intro ?_ ?_)
                  · have hn : nOf ⟨sec, lab⟩ = 2 := if_pos ⟨hl0, hl1⟩
                    rw [hn] at hcl
                    skip
                    repeat' (first | with_reducible refine Sq.go ?_ | ((with_reducible refine Ev.mk ?_); conv => whnf) | with_reducible refine Dr.mk ⟨by kernel_rfl, by kernel_rfl⟩ ?_ | with_reducible refine obH ?_ | with_reducible refine Ob.mk ?_ ?_ | (with_reducible first | refine brU fun h => ?_ | refine brV fun h => ?_ | refine Br.mk (fun h => ?_) fun h => ?_) <;> (try simp only [bsl, beq_iff_eq, bne_iff_ne, bs2, bbq] at h) <;> (try contradiction) <;> try (exfalso; omega))
                    simp (config := { beta := false, eta := false, iota := false, proj := false, zeta := false, decide := false }) only [Int.toNat_natCast, hsp]
                    refine hH.call ?_
                    repeat' (first | with_reducible refine Sq.go ?_ | ((with_reducible refine Ev.mk ?_); conv => whnf) | with_reducible refine Dr.mk ⟨by kernel_rfl, by kernel_rfl⟩ ?_ | with_reducible refine obH ?_ | with_reducible refine Ob.mk ?_ ?_ | (with_reducible first | refine brU fun h => ?_ | refine brV fun h => ?_ | refine Br.mk (fun h => ?_) fun h => ?_) <;> (try simp only [bsl, beq_iff_eq, bne_iff_ne, bs2, bbq] at h) <;> (try contradiction) <;> try (exfalso; omega))
                    refine qC hG ?_
                    repeat' (first | with_reducible refine Sq.go ?_ | ((with_reducible refine Ev.mk ?_); conv => whnf) | with_reducible refine Dr.mk ⟨by kernel_rfl, by kernel_rfl⟩ ?_ | with_reducible refine obH ?_ | with_reducible refine Ob.mk ?_ ?_ | (with_reducible first | refine brU fun h => ?_ | refine brV fun h => ?_ | refine Br.mk (fun h => ?_) fun h => ?_) <;> (try simp only [bsl, beq_iff_eq, bne_iff_ne, bs2, bbq] at h) <;> (try contradiction) <;> try (exfalso; omega))
                    refine qC hTk ?_
                    repeat' (first | with_reducible refine Sq.go ?_ | ((with_reducible refine Ev.mk ?_); conv => whnf) | with_reducible refine Dr.mk ⟨by kernel_rfl, by kernel_rfl⟩ ?_ | with_reducible refine obH ?_ | with_reducible refine Ob.mk ?_ ?_ | (with_reducible first | refine brU fun h => ?_ | refine brV fun h => ?_ | refine Br.mk (fun h => ?_) fun h => ?_) <;> (try simp only [bsl, beq_iff_eq, bne_iff_ne, bs2, bbq] at h) <;> (try contradiction) <;> try (exfalso; omega))
                    skip
                    refine h2.call ?_
                    repeat' (first | with_reducible refine Sq.go ?_ | ((with_reducible refine Ev.mk ?_); conv => whnf) | with_reducible refine Dr.mk ⟨by kernel_rfl, by kernel_rfl⟩ ?_ | with_reducible refine obH ?_ | with_reducible refine Ob.mk ?_ ?_ | (with_reducible first | refine brU fun h => ?_ | refine brV fun h => ?_ | refine Br.mk (fun h => ?_) fun h => ?_) <;> (try simp only [bsl, beq_iff_eq, bne_iff_ne, bs2, bbq] at h) <;> (try contradiction) <;> try (exfalso; omega))
                    refine h3.call ?_
                    repeat' (first | with_reducible refine Sq.go ?_ | ((with_reducible refine Ev.mk ?_); conv => whnf) | with_reducible refine Dr.mk ⟨by kernel_rfl, by kernel_rfl⟩ ?_ | with_reducible refine obH ?_ | with_reducible refine Ob.mk ?_ ?_ | (with_reducible first | refine brU fun h => ?_ | refine brV fun h => ?_ | refine Br.mk (fun h => ?_) fun h => ?_) <;> (try simp only [bsl, beq_iff_eq, bne_iff_ne, bs2, bbq] at h) <;> (try contradiction) <;> try (exfalso; omega))
                    refine hC.call ?_
                    repeat' (first | with_reducible refine Sq.go ?_ | ((with_reducible refine Ev.mk ?_); conv => whnf) | with_reducible refine Dr.mk ⟨by kernel_rfl, by kernel_rfl⟩ ?_ | with_reducible refine obH ?_ | with_reducible refine Ob.mk ?_ ?_ | (with_reducible first | refine brU fun h => ?_ | refine brV fun h => ?_ | refine Br.mk (fun h => ?_) fun h => ?_) <;> (try simp only [bsl, beq_iff_eq, bne_iff_ne, bs2, bbq] at h) <;> (try contradiction) <;> try (exfalso; omega))
                    refine Awp.le (env' := [
                      (0, .d (eSecs l)), (5, .d (eSeats T)), (35, .d (eSteps steps)), (36, .d (.int .i64 steps.length)), (37, .d (.int .i64 k))
                      , (7, .ptr (.loc 0) 0 0 0), (8, .ptr (.loc 1) 0 0 0), (10, .d (eSeats x)), (137, .d (eSeats x)), (138, .d (.int .i64 x.length)), (139, .d (.int .i64 0))]) (m' := ⟨[some (.box 30 (up (eStep ⟨st, sec, lab, now, grp, false⟩))), some (.box 32 (up (eBun ⟨sec, lab⟩)))], []⟩) ?_ ht.1
                    repeat' (first | exact True.intro | exact rfl | exact Nat.le_refl _ | refine And.intro ?_ ?_)
                · have hn : nOf ⟨sec, lab⟩ = 1 := if_neg (fun h => hl0 h.1)
                  rw [hn] at hcl
                  skip
                  repeat' (first | with_reducible refine Sq.go ?_ | ((with_reducible refine Ev.mk ?_); conv => whnf) | with_reducible refine Dr.mk ⟨by kernel_rfl, by kernel_rfl⟩ ?_ | with_reducible refine obH ?_ | with_reducible refine Ob.mk ?_ ?_ | (with_reducible first | refine brU fun h => ?_ | refine brV fun h => ?_ | refine Br.mk (fun h => ?_) fun h => ?_) <;> (try simp only [bsl, beq_iff_eq, bne_iff_ne, bs2, bbq] at h) <;> (try contradiction) <;> try (exfalso; omega))
                  simp (config := { beta := false, eta := false, iota := false, proj := false, zeta := false, decide := false }) only [Int.toNat_natCast, hsp]
                  refine hH.call ?_
                  repeat' (first | with_reducible refine Sq.go ?_ | ((with_reducible refine Ev.mk ?_); conv => whnf) | with_reducible refine Dr.mk ⟨by kernel_rfl, by kernel_rfl⟩ ?_ | with_reducible refine obH ?_ | with_reducible refine Ob.mk ?_ ?_ | (with_reducible first | refine brU fun h => ?_ | refine brV fun h => ?_ | refine Br.mk (fun h => ?_) fun h => ?_) <;> (try simp only [bsl, beq_iff_eq, bne_iff_ne, bs2, bbq] at h) <;> (try contradiction) <;> try (exfalso; omega))
                  refine qC hG ?_
                  repeat' (first | with_reducible refine Sq.go ?_ | ((with_reducible refine Ev.mk ?_); conv => whnf) | with_reducible refine Dr.mk ⟨by kernel_rfl, by kernel_rfl⟩ ?_ | with_reducible refine obH ?_ | with_reducible refine Ob.mk ?_ ?_ | (with_reducible first | refine brU fun h => ?_ | refine brV fun h => ?_ | refine Br.mk (fun h => ?_) fun h => ?_) <;> (try simp only [bsl, beq_iff_eq, bne_iff_ne, bs2, bbq] at h) <;> (try contradiction) <;> try (exfalso; omega))
                  refine qC hTk ?_
                  repeat' (first | with_reducible refine Sq.go ?_ | ((with_reducible refine Ev.mk ?_); conv => whnf) | with_reducible refine Dr.mk ⟨by kernel_rfl, by kernel_rfl⟩ ?_ | with_reducible refine obH ?_ | with_reducible refine Ob.mk ?_ ?_ | (with_reducible first | refine brU fun h => ?_ | refine brV fun h => ?_ | refine Br.mk (fun h => ?_) fun h => ?_) <;> (try simp only [bsl, beq_iff_eq, bne_iff_ne, bs2, bbq] at h) <;> (try contradiction) <;> try (exfalso; omega))
                  skip
                  refine h2.call ?_
                  repeat' (first | with_reducible refine Sq.go ?_ | ((with_reducible refine Ev.mk ?_); conv => whnf) | with_reducible refine Dr.mk ⟨by kernel_rfl, by kernel_rfl⟩ ?_ | with_reducible refine obH ?_ | with_reducible refine Ob.mk ?_ ?_ | (with_reducible first | refine brU fun h => ?_ | refine brV fun h => ?_ | refine Br.mk (fun h => ?_) fun h => ?_) <;> (try simp only [bsl, beq_iff_eq, bne_iff_ne, bs2, bbq] at h) <;> (try contradiction) <;> try (exfalso; omega))
                  refine hC.call ?_
                  repeat' (first | with_reducible refine Sq.go ?_ | ((with_reducible refine Ev.mk ?_); conv => whnf) | with_reducible refine Dr.mk ⟨by kernel_rfl, by kernel_rfl⟩ ?_ | with_reducible refine obH ?_ | with_reducible refine Ob.mk ?_ ?_ | (with_reducible first | refine brU fun h => ?_ | refine brV fun h => ?_ | refine Br.mk (fun h => ?_) fun h => ?_) <;> (try simp only [bsl, beq_iff_eq, bne_iff_ne, bs2, bbq] at h) <;> (try contradiction) <;> try (exfalso; omega))
                  refine Awp.le (env' := [
                    (0, .d (eSecs l)), (5, .d (eSeats T)), (35, .d (eSteps steps)), (36, .d (.int .i64 steps.length)), (37, .d (.int .i64 k))
                    , (7, .ptr (.loc 0) 0 0 0), (8, .ptr (.loc 1) 0 0 0), (10, .d (eSeats x)), (137, .d (eSeats x)), (138, .d (.int .i64 x.length)), (139, .d (.int .i64 0))]) (m' := ⟨[some (.box 30 (up (eStep ⟨st, sec, lab, now, grp, false⟩))), some (.box 32 (up (eBun ⟨sec, lab⟩)))], []⟩) ?_ ht.1
                  repeat' (first | exact True.intro | exact rfl | exact Nat.le_refl _ | refine And.intro ?_ ?_)
              case t =>
                skip
                refine loop_rule hT (S := Nat) (fun j => ([
                  (0, .d (eSecs l)), (5, .d (eSeats T)), (35, .d (eSteps steps)), (36, .d (.int .i64 steps.length)), (37, .d (.int .i64 k))
                  , (7, .ptr (.loc 0) 0 0 0), (8, .ptr (.loc 1) 0 0 0), (10, .d (eSeats x)), (137, .d (eSeats x)), (138, .d (.int .i64 x.length)), (139, .d (.int .i64 j))], ⟨[some (.box 30 (up (eStep ⟨st, sec, lab, now, grp, false⟩))), some (.box 32 (up (eBun ⟨sec, lab⟩)))], []⟩)) (fun j => j ≤ x.length) (fun j => x.length - j) 0 ?_ ?_ ?_
                · repeat' (first | exact True.intro | exact rfl | exact Nat.le_refl _ | refine And.intro ?_ ?_)
                · exact Nat.zero_le _
                · intro j hj
                  by_cases hj2 : j < x.length
                  · by_cases hm : (x.getD j default).student = st ∧ ((x.getD j default).sec = sec ∨ (x.getD j default).sec = lab)
                    · repeat' (first | with_reducible refine Sq.go ?_ | ((with_reducible refine Ev.mk ?_); conv => whnf) | with_reducible refine Dr.mk ⟨by kernel_rfl, by kernel_rfl⟩ ?_ | with_reducible refine obH ?_ | with_reducible refine Ob.mk ?_ ?_ | (with_reducible first | refine brU fun h => ?_ | refine brV fun h => ?_ | refine Br.mk (fun h => ?_) fun h => ?_) <;> (try simp only [bsl, beq_iff_eq, bne_iff_ne, bs2, bbq] at h) <;> (try contradiction) <;> try (exfalso; omega))
                      all_goals
                        refine ⟨j + 1, by show j + 1 ≤ x.length; omega, by show x.length - (j + 1) < x.length - j; omega, ?_⟩
                        repeat' (first | exact True.intro | exact rfl | exact Nat.le_refl _ | refine And.intro ?_ ?_)
                    · have hy := has_ok T (by omega) (x.getD j default).student (x.getD j default).sec
                      rw [hcap.old _ (getD_mem hj2) hm] at hy
                      repeat' (first | with_reducible refine Sq.go ?_ | ((with_reducible refine Ev.mk ?_); conv => whnf) | with_reducible refine Dr.mk ⟨by kernel_rfl, by kernel_rfl⟩ ?_ | with_reducible refine obH ?_ | with_reducible refine Ob.mk ?_ ?_ | (with_reducible first | refine brU fun h => ?_ | refine brV fun h => ?_ | refine Br.mk (fun h => ?_) fun h => ?_) <;> (try simp only [bsl, beq_iff_eq, bne_iff_ne, bs2, bbq] at h) <;> (try contradiction) <;> try (exfalso; omega))
                      all_goals
                        refine hy.call ?_
                        repeat' (first | with_reducible refine Sq.go ?_ | ((with_reducible refine Ev.mk ?_); conv => whnf) | with_reducible refine Dr.mk ⟨by kernel_rfl, by kernel_rfl⟩ ?_ | with_reducible refine obH ?_ | with_reducible refine Ob.mk ?_ ?_ | (with_reducible first | refine brU fun h => ?_ | refine brV fun h => ?_ | refine Br.mk (fun h => ?_) fun h => ?_) <;> (try simp only [bsl, beq_iff_eq, bne_iff_ne, bs2, bbq] at h) <;> (try contradiction) <;> try (exfalso; omega))
                        refine ⟨j + 1, by show j + 1 ≤ x.length; omega, by show x.length - (j + 1) < x.length - j; omega, ?_⟩
                        repeat' (first | exact True.intro | exact rfl | exact Nat.le_refl _ | refine And.intro ?_ ?_)
                  · repeat' (first | with_reducible refine Sq.go ?_ | ((with_reducible refine Ev.mk ?_); conv => whnf) | with_reducible refine Dr.mk ⟨by kernel_rfl, by kernel_rfl⟩ ?_ | with_reducible refine obH ?_ | with_reducible refine Ob.mk ?_ ?_ | (with_reducible first | refine brU fun h => ?_ | refine brV fun h => ?_ | refine Br.mk (fun h => ?_) fun h => ?_) <;> (try simp only [bsl, beq_iff_eq, bne_iff_ne, bs2, bbq] at h) <;> (try contradiction) <;> try (exfalso; omega))
                    refine loop_rule hT (S := Nat) (fun i => ([
                      (0, .d (eSecs l)), (5, .d (eSeats x)), (35, .d (eSteps steps)), (36, .d (.int .i64 steps.length)), (37, .d (.int .i64 k))
                      , (171, .d (eSecs l)), (172, .d (.int .i64 l.length)), (173, .d (.int .i64 i))], ⟨[], []⟩)) (fun i => i ≤ l.length) (fun i => l.length - i) 0 ?_ ?_ ?_
                    · repeat' (first | exact True.intro | exact rfl | exact Nat.le_refl _ | refine And.intro ?_ ?_)
                    · exact Nat.zero_le _
                    · intro i hi
                      by_cases hi2 : i < l.length
                      · obtain ⟨hc1, hc2⟩ := cap_counts hcap.chk (getD_mem hi2)
                        have hL := lcount_ok x (by omega) (l.getD i default).id (-2)
                        have hgl := (hfs.2 _ (getD_mem hi2)).1
                        obtain ⟨c, hcd⟩ : ∃ c, cntL x (l.getD i default).id (-2) = c := ⟨_, rfl⟩
                        rw [hcd] at hL hc1
                        repeat' (first | with_reducible refine Sq.go ?_ | ((with_reducible refine Ev.mk ?_); conv => whnf) | with_reducible refine Dr.mk ⟨by kernel_rfl, by kernel_rfl⟩ ?_ | with_reducible refine obH ?_ | with_reducible refine Ob.mk ?_ ?_ | (with_reducible first | refine brU fun h => ?_ | refine brV fun h => ?_ | refine Br.mk (fun h => ?_) fun h => ?_) <;> (try simp only [bsl, beq_iff_eq, bne_iff_ne, bs2, bbq] at h) <;> (try contradiction) <;> try (exfalso; omega))
                        refine qC hL ?_
                        repeat' (first | with_reducible refine Sq.go ?_ | ((with_reducible refine Ev.mk ?_); conv => whnf) | with_reducible refine Dr.mk ⟨by kernel_rfl, by kernel_rfl⟩ ?_ | with_reducible refine obH ?_ | with_reducible refine Ob.mk ?_ ?_ | (with_reducible first | refine brU fun h => ?_ | refine brV fun h => ?_ | refine Br.mk (fun h => ?_) fun h => ?_) <;> (try simp only [bsl, beq_iff_eq, bne_iff_ne, bs2, bbq] at h) <;> (try contradiction) <;> try (exfalso; omega))
                        refine loop_rule hT (S := Nat) (fun w => ([
                          (0, .d (eSecs l)), (5, .d (eSeats x)), (35, .d (eSteps steps)), (36, .d (.int .i64 steps.length)), (37, .d (.int .i64 k))
                          , (17, .ptr (.loc 0) 0 0 0), (171, .d (eSecs l)), (172, .d (.int .i64 l.length)), (173, .d (.int .i64 i)), (185, .d (eGrps (l.getD i default).groups)), (186, .d (.int .i64 (l.getD i default).groups.length)), (187, .d (.int .i64 w))], ⟨[some (.box 44 (up (eSec (l.getD i default))))], []⟩)) (fun w => w ≤ (l.getD i default).groups.length) (fun w => (l.getD i default).groups.length - w) 0 ?_ ?_ ?_
                        · repeat' (first | exact True.intro | exact rfl | exact Nat.le_refl _ | refine And.intro ?_ ?_)
                        · exact Nat.zero_le _
                        · intro w hh
                          by_cases hh2 : w < (l.getD i default).groups.length
                          · have hg := hc2 _ (getD_mem hh2)
                            have hL2 := lcount_ok x (by omega) (l.getD i default).id ((l.getD i default).groups.getD w default).g
                            obtain ⟨c2, hcd2⟩ : ∃ c, cntL x (l.getD i default).id ((l.getD i default).groups.getD w default).g = c := ⟨_, rfl⟩
                            rw [hcd2] at hL2 hg
                            repeat' (first | with_reducible refine Sq.go ?_ | ((with_reducible refine Ev.mk ?_); conv => whnf) | with_reducible refine Dr.mk ⟨by kernel_rfl, by kernel_rfl⟩ ?_ | with_reducible refine obH ?_ | with_reducible refine Ob.mk ?_ ?_ | (with_reducible first | refine brU fun h => ?_ | refine brV fun h => ?_ | refine Br.mk (fun h => ?_) fun h => ?_) <;> (try simp only [bsl, beq_iff_eq, bne_iff_ne, bs2, bbq] at h) <;> (try contradiction) <;> try (exfalso; omega))
                            refine qC hL2 ?_
                            repeat' (first | with_reducible refine Sq.go ?_ | ((with_reducible refine Ev.mk ?_); conv => whnf) | with_reducible refine Dr.mk ⟨by kernel_rfl, by kernel_rfl⟩ ?_ | with_reducible refine obH ?_ | with_reducible refine Ob.mk ?_ ?_ | (with_reducible first | refine brU fun h => ?_ | refine brV fun h => ?_ | refine Br.mk (fun h => ?_) fun h => ?_) <;> (try simp only [bsl, beq_iff_eq, bne_iff_ne, bs2, bbq] at h) <;> (try contradiction) <;> try (exfalso; omega))
                            refine ⟨w + 1, by show w + 1 ≤ (l.getD i default).groups.length; omega, by show (l.getD i default).groups.length - (w + 1) < (l.getD i default).groups.length - w; omega, ?_⟩
                            repeat' (first | exact True.intro | exact rfl | exact Nat.le_refl _ | refine And.intro ?_ ?_)
                          · repeat' (first | with_reducible refine Sq.go ?_ | ((with_reducible refine Ev.mk ?_); conv => whnf) | with_reducible refine Dr.mk ⟨by kernel_rfl, by kernel_rfl⟩ ?_ | with_reducible refine obH ?_ | with_reducible refine Ob.mk ?_ ?_ | (with_reducible first | refine brU fun h => ?_ | refine brV fun h => ?_ | refine Br.mk (fun h => ?_) fun h => ?_) <;> (try simp only [bsl, beq_iff_eq, bne_iff_ne, bs2, bbq] at h) <;> (try contradiction) <;> try (exfalso; omega))
                            refine ⟨i + 1, by show i + 1 ≤ l.length; omega, by show l.length - (i + 1) < l.length - i; omega, ?_⟩
                            repeat' (first | exact True.intro | exact rfl | exact Nat.le_refl _ | refine And.intro ?_ ?_)
                      · repeat' (first | with_reducible refine Sq.go ?_ | ((with_reducible refine Ev.mk ?_); conv => whnf) | with_reducible refine Dr.mk ⟨by kernel_rfl, by kernel_rfl⟩ ?_ | with_reducible refine obH ?_ | with_reducible refine Ob.mk ?_ ?_ | (with_reducible first | refine brU fun h => ?_ | refine brV fun h => ?_ | refine Br.mk (fun h => ?_) fun h => ?_) <;> (try simp only [bsl, beq_iff_eq, bne_iff_ne, bs2, bbq] at h) <;> (try contradiction) <;> try (exfalso; omega))
                        refine ⟨(k + 1, x), ⟨by show k + 1 ≤ steps.length; omega, by show x.length ≤ 2 * (k + 1); omega, hcap.chk⟩, by show steps.length - (k + 1) < steps.length - k; omega, ?_⟩
                        repeat' (first | exact True.intro | exact rfl | exact Nat.le_refl _ | refine And.intro ?_ ?_)
            · have hx := takeT_err hte he
              subst hx
              repeat' (first | with_reducible refine Sq.go ?_ | ((with_reducible refine Ev.mk ?_); conv => whnf) | with_reducible refine Dr.mk ⟨by kernel_rfl, by kernel_rfl⟩ ?_ | with_reducible refine obG ?_ | with_reducible refine Ob.mk ?_ ?_ | (with_reducible first | refine brT fun h => ?_ | refine brF fun h => ?_ | refine Br.mk (fun h => ?_) fun h => ?_) <;> (try simp only [bsl, beq_iff_eq, bne_iff_ne, bs2] at h) <;> (try contradiction) <;> try (exfalso; omega))
              simp (config := { beta := false, eta := false, iota := false, proj := false, zeta := false, decide := false }) only [Int.toNat_natCast, hsp]
              refine hH.call ?_
              repeat' (first | with_reducible refine Sq.go ?_ | ((with_reducible refine Ev.mk ?_); conv => whnf) | with_reducible refine Dr.mk ⟨by kernel_rfl, by kernel_rfl⟩ ?_ | with_reducible refine obG ?_ | with_reducible refine Ob.mk ?_ ?_ | (with_reducible first | refine brT fun h => ?_ | refine brF fun h => ?_ | refine Br.mk (fun h => ?_) fun h => ?_) <;> (try simp only [bsl, beq_iff_eq, bne_iff_ne, bs2] at h) <;> (try contradiction) <;> try (exfalso; omega))
              refine qC hG ?_
              repeat' (first | with_reducible refine Sq.go ?_ | ((with_reducible refine Ev.mk ?_); conv => whnf) | with_reducible refine Dr.mk ⟨by kernel_rfl, by kernel_rfl⟩ ?_ | with_reducible refine obG ?_ | with_reducible refine Ob.mk ?_ ?_ | (with_reducible first | refine brT fun h => ?_ | refine brF fun h => ?_ | refine Br.mk (fun h => ?_) fun h => ?_) <;> (try simp only [bsl, beq_iff_eq, bne_iff_ne, bs2] at h) <;> (try contradiction) <;> try (exfalso; omega))
              refine qC hTk ?_
              skip
              repeat' (first | with_reducible refine Sq.go ?_ | ((with_reducible refine Ev.mk ?_); conv => whnf) | with_reducible refine Dr.mk ⟨by kernel_rfl, by kernel_rfl⟩ ?_ | with_reducible refine obG ?_ | with_reducible refine Ob.mk ?_ ?_ | (with_reducible first | refine brT fun h => ?_ | refine brF fun h => ?_ | refine Br.mk (fun h => ?_) fun h => ?_) <;> (try simp only [bsl, beq_iff_eq, bne_iff_ne, bs2] at h) <;> (try contradiction) <;> try (exfalso; omega))
              refine ⟨(k + 1, T), ⟨by show k + 1 ≤ steps.length; omega, by show T.length ≤ 2 * (k + 1); omega, hT0⟩, by show steps.length - (k + 1) < steps.length - k; omega, ?_⟩
              repeat' (first | exact True.intro | exact rfl | exact Nat.le_refl _ | refine And.intro ?_ ?_)
          | true =>
            have hLv := leave_ok T (by omega) st ⟨sec, lab⟩
            obtain ⟨x, e, hle⟩ : ∃ x e, leaveT T st ⟨sec, lab⟩ = (x, e) := ⟨_, _, rfl⟩
            rw [hle] at hLv
            by_cases he : e = 0
            · subst he
              have hcap := cap_leave hT0 hle
              have hcl := hcap.len
              have h1 : tkS T st sec = true := hcap.had
              have hcn : (x.length : Int) ≤ T.length := by
                unfold nOf at hcl
                split at hcl <;> omega
              rw [h1] at hH
              apply cutT
              case h =>
                intro ht
                have h2 := has_ok x (by omega) st sec
                rw [show tkS x st sec = false from hcap.has] at h2
                have hC := scheck_ok l hfs x (by omega)
                rw [hcap.chk] at hC
                by_cases hl0 : 0 ≤ lab
                · have h3 := has_ok x (by omega) st lab
                  rw [show tkS x st lab = false from hcap.lab hl0] at h3
                  by_cases hl1 : lab = sec
                  · have hn : nOf ⟨sec, lab⟩ = 1 := if_neg (fun h => h.2 hl1)
                    rw [hn] at hcl
                    skip
                    repeat' (first | with_reducible refine Sq.go ?_ | ((with_reducible refine Ev.mk ?_); conv => whnf) | with_reducible refine Dr.mk ⟨by kernel_rfl, by kernel_rfl⟩ ?_ | with_reducible refine obH ?_ | with_reducible refine Ob.mk ?_ ?_ | (with_reducible first | refine brU fun h => ?_ | refine brV fun h => ?_ | refine Br.mk (fun h => ?_) fun h => ?_) <;> (try simp only [bsl, beq_iff_eq, bne_iff_ne, bs2, bbq] at h) <;> (try contradiction) <;> try (exfalso; omega))
                    simp (config := { beta := false, eta := false, iota := false, proj := false, zeta := false, decide := false }) only [Int.toNat_natCast, hsp]
                    refine hH.call ?_
                    repeat' (first | with_reducible refine Sq.go ?_ | ((with_reducible refine Ev.mk ?_); conv => whnf) | with_reducible refine Dr.mk ⟨by kernel_rfl, by kernel_rfl⟩ ?_ | with_reducible refine obH ?_ | with_reducible refine Ob.mk ?_ ?_ | (with_reducible first | refine brU fun h => ?_ | refine brV fun h => ?_ | refine Br.mk (fun h => ?_) fun h => ?_) <;> (try simp only [bsl, beq_iff_eq, bne_iff_ne, bs2, bbq] at h) <;> (try contradiction) <;> try (exfalso; omega))
                    refine qC hG ?_
                    repeat' (first | with_reducible refine Sq.go ?_ | ((with_reducible refine Ev.mk ?_); conv => whnf) | with_reducible refine Dr.mk ⟨by kernel_rfl, by kernel_rfl⟩ ?_ | with_reducible refine obH ?_ | with_reducible refine Ob.mk ?_ ?_ | (with_reducible first | refine brU fun h => ?_ | refine brV fun h => ?_ | refine Br.mk (fun h => ?_) fun h => ?_) <;> (try simp only [bsl, beq_iff_eq, bne_iff_ne, bs2, bbq] at h) <;> (try contradiction) <;> try (exfalso; omega))
                    refine qC hTk ?_
                    repeat' (first | with_reducible refine Sq.go ?_ | ((with_reducible refine Ev.mk ?_); conv => whnf) | with_reducible refine Dr.mk ⟨by kernel_rfl, by kernel_rfl⟩ ?_ | with_reducible refine obH ?_ | with_reducible refine Ob.mk ?_ ?_ | (with_reducible first | refine brU fun h => ?_ | refine brV fun h => ?_ | refine Br.mk (fun h => ?_) fun h => ?_) <;> (try simp only [bsl, beq_iff_eq, bne_iff_ne, bs2, bbq] at h) <;> (try contradiction) <;> try (exfalso; omega))
                    refine hLv.call ?_
                    repeat' (first | with_reducible refine Sq.go ?_ | ((with_reducible refine Ev.mk ?_); conv => whnf) | with_reducible refine Dr.mk ⟨by kernel_rfl, by kernel_rfl⟩ ?_ | with_reducible refine obH ?_ | with_reducible refine Ob.mk ?_ ?_ | (with_reducible first | refine brU fun h => ?_ | refine brV fun h => ?_ | refine Br.mk (fun h => ?_) fun h => ?_) <;> (try simp only [bsl, beq_iff_eq, bne_iff_ne, bs2, bbq] at h) <;> (try contradiction) <;> try (exfalso; omega))
                    refine h2.call ?_
                    repeat' (first | with_reducible refine Sq.go ?_ | ((with_reducible refine Ev.mk ?_); conv => whnf) | with_reducible refine Dr.mk ⟨by kernel_rfl, by kernel_rfl⟩ ?_ | with_reducible refine obH ?_ | with_reducible refine Ob.mk ?_ ?_ | (with_reducible first | refine brU fun h => ?_ | refine brV fun h => ?_ | refine Br.mk (fun h => ?_) fun h => ?_) <;> (try simp only [bsl, beq_iff_eq, bne_iff_ne, bs2, bbq] at h) <;> (try contradiction) <;> try (exfalso; omega))
                    refine h3.call ?_
                    repeat' (first | with_reducible refine Sq.go ?_ | ((with_reducible refine Ev.mk ?_); conv => whnf) | with_reducible refine Dr.mk ⟨by kernel_rfl, by kernel_rfl⟩ ?_ | with_reducible refine obH ?_ | with_reducible refine Ob.mk ?_ ?_ | (with_reducible first | refine brU fun h => ?_ | refine brV fun h => ?_ | refine Br.mk (fun h => ?_) fun h => ?_) <;> (try simp only [bsl, beq_iff_eq, bne_iff_ne, bs2, bbq] at h) <;> (try contradiction) <;> try (exfalso; omega))
                    refine hC.call ?_
                    repeat' (first | with_reducible refine Sq.go ?_ | ((with_reducible refine Ev.mk ?_); conv => whnf) | with_reducible refine Dr.mk ⟨by kernel_rfl, by kernel_rfl⟩ ?_ | with_reducible refine obH ?_ | with_reducible refine Ob.mk ?_ ?_ | (with_reducible first | refine brU fun h => ?_ | refine brV fun h => ?_ | refine Br.mk (fun h => ?_) fun h => ?_) <;> (try simp only [bsl, beq_iff_eq, bne_iff_ne, bs2, bbq] at h) <;> (try contradiction) <;> try (exfalso; omega))
                    refine Awp.le (env' := [
                      (0, .d (eSecs l)), (5, .d (eSeats T)), (35, .d (eSteps steps)), (36, .d (.int .i64 steps.length)), (37, .d (.int .i64 k))
                      , (7, .ptr (.loc 0) 0 0 0), (8, .ptr (.loc 1) 0 0 0), (10, .d (eSeats x)), (137, .d (eSeats x)), (138, .d (.int .i64 x.length)), (139, .d (.int .i64 0))]) (m' := ⟨[some (.box 30 (up (eStep ⟨st, sec, lab, now, grp, true⟩))), some (.box 32 (up (eBun ⟨sec, lab⟩)))], []⟩) ?_ ht.1
                    repeat' (first | exact True.intro | exact rfl | exact Nat.le_refl _ | refine And.intro ?_ ?_)
                  · have hn : nOf ⟨sec, lab⟩ = 2 := if_pos ⟨hl0, hl1⟩
                    rw [hn] at hcl
                    skip
                    repeat' (first | with_reducible refine Sq.go ?_ | ((with_reducible refine Ev.mk ?_); conv => whnf) | with_reducible refine Dr.mk ⟨by kernel_rfl, by kernel_rfl⟩ ?_ | with_reducible refine obH ?_ | with_reducible refine Ob.mk ?_ ?_ | (with_reducible first | refine brU fun h => ?_ | refine brV fun h => ?_ | refine Br.mk (fun h => ?_) fun h => ?_) <;> (try simp only [bsl, beq_iff_eq, bne_iff_ne, bs2, bbq] at h) <;> (try contradiction) <;> try (exfalso; omega))
                    simp (config := { beta := false, eta := false, iota := false, proj := false, zeta := false, decide := false }) only [Int.toNat_natCast, hsp]
                    refine hH.call ?_
                    repeat' (first | with_reducible refine Sq.go ?_ | ((with_reducible refine Ev.mk ?_); conv => whnf) | with_reducible refine Dr.mk ⟨by kernel_rfl, by kernel_rfl⟩ ?_ | with_reducible refine obH ?_ | with_reducible refine Ob.mk ?_ ?_ | (with_reducible first | refine brU fun h => ?_ | refine brV fun h => ?_ | refine Br.mk (fun h => ?_) fun h => ?_) <;> (try simp only [bsl, beq_iff_eq, bne_iff_ne, bs2, bbq] at h) <;> (try contradiction) <;> try (exfalso; omega))
                    refine qC hG ?_
                    repeat' (first | with_reducible refine Sq.go ?_ | ((with_reducible refine Ev.mk ?_); conv => whnf) | with_reducible refine Dr.mk ⟨by kernel_rfl, by kernel_rfl⟩ ?_ | with_reducible refine obH ?_ | with_reducible refine Ob.mk ?_ ?_ | (with_reducible first | refine brU fun h => ?_ | refine brV fun h => ?_ | refine Br.mk (fun h => ?_) fun h => ?_) <;> (try simp only [bsl, beq_iff_eq, bne_iff_ne, bs2, bbq] at h) <;> (try contradiction) <;> try (exfalso; omega))
                    refine qC hTk ?_
                    repeat' (first | with_reducible refine Sq.go ?_ | ((with_reducible refine Ev.mk ?_); conv => whnf) | with_reducible refine Dr.mk ⟨by kernel_rfl, by kernel_rfl⟩ ?_ | with_reducible refine obH ?_ | with_reducible refine Ob.mk ?_ ?_ | (with_reducible first | refine brU fun h => ?_ | refine brV fun h => ?_ | refine Br.mk (fun h => ?_) fun h => ?_) <;> (try simp only [bsl, beq_iff_eq, bne_iff_ne, bs2, bbq] at h) <;> (try contradiction) <;> try (exfalso; omega))
                    refine hLv.call ?_
                    repeat' (first | with_reducible refine Sq.go ?_ | ((with_reducible refine Ev.mk ?_); conv => whnf) | with_reducible refine Dr.mk ⟨by kernel_rfl, by kernel_rfl⟩ ?_ | with_reducible refine obH ?_ | with_reducible refine Ob.mk ?_ ?_ | (with_reducible first | refine brU fun h => ?_ | refine brV fun h => ?_ | refine Br.mk (fun h => ?_) fun h => ?_) <;> (try simp only [bsl, beq_iff_eq, bne_iff_ne, bs2, bbq] at h) <;> (try contradiction) <;> try (exfalso; omega))
                    refine h2.call ?_
                    repeat' (first | with_reducible refine Sq.go ?_ | ((with_reducible refine Ev.mk ?_); conv => whnf) | with_reducible refine Dr.mk ⟨by kernel_rfl, by kernel_rfl⟩ ?_ | with_reducible refine obH ?_ | with_reducible refine Ob.mk ?_ ?_ | (with_reducible first | refine brU fun h => ?_ | refine brV fun h => ?_ | refine Br.mk (fun h => ?_) fun h => ?_) <;> (try simp only [bsl, beq_iff_eq, bne_iff_ne, bs2, bbq] at h) <;> (try contradiction) <;> try (exfalso; omega))
                    refine h3.call ?_
                    repeat' (first | with_reducible refine Sq.go ?_ | ((with_reducible refine Ev.mk ?_); conv => whnf) | with_reducible refine Dr.mk ⟨by kernel_rfl, by kernel_rfl⟩ ?_ | with_reducible refine obH ?_ | with_reducible refine Ob.mk ?_ ?_ | (with_reducible first | refine brU fun h => ?_ | refine brV fun h => ?_ | refine Br.mk (fun h => ?_) fun h => ?_) <;> (try simp only [bsl, beq_iff_eq, bne_iff_ne, bs2, bbq] at h) <;> (try contradiction) <;> try (exfalso; omega))
                    refine hC.call ?_
                    repeat' (first | with_reducible refine Sq.go ?_ | ((with_reducible refine Ev.mk ?_); conv => whnf) | with_reducible refine Dr.mk ⟨by kernel_rfl, by kernel_rfl⟩ ?_ | with_reducible refine obH ?_ | with_reducible refine Ob.mk ?_ ?_ | (with_reducible first | refine brU fun h => ?_ | refine brV fun h => ?_ | refine Br.mk (fun h => ?_) fun h => ?_) <;> (try simp only [bsl, beq_iff_eq, bne_iff_ne, bs2, bbq] at h) <;> (try contradiction) <;> try (exfalso; omega))
                    refine Awp.le (env' := [
                      (0, .d (eSecs l)), (5, .d (eSeats T)), (35, .d (eSteps steps)), (36, .d (.int .i64 steps.length)), (37, .d (.int .i64 k))
                      , (7, .ptr (.loc 0) 0 0 0), (8, .ptr (.loc 1) 0 0 0), (10, .d (eSeats x)), (137, .d (eSeats x)), (138, .d (.int .i64 x.length)), (139, .d (.int .i64 0))]) (m' := ⟨[some (.box 30 (up (eStep ⟨st, sec, lab, now, grp, true⟩))), some (.box 32 (up (eBun ⟨sec, lab⟩)))], []⟩) ?_ ht.1
                    repeat' (first | exact True.intro | exact rfl | exact Nat.le_refl _ | refine And.intro ?_ ?_)
                · have hn : nOf ⟨sec, lab⟩ = 1 := if_neg (fun h => hl0 h.1)
                  rw [hn] at hcl
                  skip
                  repeat' (first | with_reducible refine Sq.go ?_ | ((with_reducible refine Ev.mk ?_); conv => whnf) | with_reducible refine Dr.mk ⟨by kernel_rfl, by kernel_rfl⟩ ?_ | with_reducible refine obH ?_ | with_reducible refine Ob.mk ?_ ?_ | (with_reducible first | refine brU fun h => ?_ | refine brV fun h => ?_ | refine Br.mk (fun h => ?_) fun h => ?_) <;> (try simp only [bsl, beq_iff_eq, bne_iff_ne, bs2, bbq] at h) <;> (try contradiction) <;> try (exfalso; omega))
                  simp (config := { beta := false, eta := false, iota := false, proj := false, zeta := false, decide := false }) only [Int.toNat_natCast, hsp]
                  refine hH.call ?_
                  repeat' (first | with_reducible refine Sq.go ?_ | ((with_reducible refine Ev.mk ?_); conv => whnf) | with_reducible refine Dr.mk ⟨by kernel_rfl, by kernel_rfl⟩ ?_ | with_reducible refine obH ?_ | with_reducible refine Ob.mk ?_ ?_ | (with_reducible first | refine brU fun h => ?_ | refine brV fun h => ?_ | refine Br.mk (fun h => ?_) fun h => ?_) <;> (try simp only [bsl, beq_iff_eq, bne_iff_ne, bs2, bbq] at h) <;> (try contradiction) <;> try (exfalso; omega))
                  refine qC hG ?_
                  repeat' (first | with_reducible refine Sq.go ?_ | ((with_reducible refine Ev.mk ?_); conv => whnf) | with_reducible refine Dr.mk ⟨by kernel_rfl, by kernel_rfl⟩ ?_ | with_reducible refine obH ?_ | with_reducible refine Ob.mk ?_ ?_ | (with_reducible first | refine brU fun h => ?_ | refine brV fun h => ?_ | refine Br.mk (fun h => ?_) fun h => ?_) <;> (try simp only [bsl, beq_iff_eq, bne_iff_ne, bs2, bbq] at h) <;> (try contradiction) <;> try (exfalso; omega))
                  refine qC hTk ?_
                  repeat' (first | with_reducible refine Sq.go ?_ | ((with_reducible refine Ev.mk ?_); conv => whnf) | with_reducible refine Dr.mk ⟨by kernel_rfl, by kernel_rfl⟩ ?_ | with_reducible refine obH ?_ | with_reducible refine Ob.mk ?_ ?_ | (with_reducible first | refine brU fun h => ?_ | refine brV fun h => ?_ | refine Br.mk (fun h => ?_) fun h => ?_) <;> (try simp only [bsl, beq_iff_eq, bne_iff_ne, bs2, bbq] at h) <;> (try contradiction) <;> try (exfalso; omega))
                  refine hLv.call ?_
                  repeat' (first | with_reducible refine Sq.go ?_ | ((with_reducible refine Ev.mk ?_); conv => whnf) | with_reducible refine Dr.mk ⟨by kernel_rfl, by kernel_rfl⟩ ?_ | with_reducible refine obH ?_ | with_reducible refine Ob.mk ?_ ?_ | (with_reducible first | refine brU fun h => ?_ | refine brV fun h => ?_ | refine Br.mk (fun h => ?_) fun h => ?_) <;> (try simp only [bsl, beq_iff_eq, bne_iff_ne, bs2, bbq] at h) <;> (try contradiction) <;> try (exfalso; omega))
                  refine h2.call ?_
                  repeat' (first | with_reducible refine Sq.go ?_ | ((with_reducible refine Ev.mk ?_); conv => whnf) | with_reducible refine Dr.mk ⟨by kernel_rfl, by kernel_rfl⟩ ?_ | with_reducible refine obH ?_ | with_reducible refine Ob.mk ?_ ?_ | (with_reducible first | refine brU fun h => ?_ | refine brV fun h => ?_ | refine Br.mk (fun h => ?_) fun h => ?_) <;> (try simp only [bsl, beq_iff_eq, bne_iff_ne, bs2, bbq] at h) <;> (try contradiction) <;> try (exfalso; omega))
                  refine hC.call ?_
                  repeat' (first | with_reducible refine Sq.go ?_ | ((with_reducible refine Ev.mk ?_); conv => whnf) | with_reducible refine Dr.mk ⟨by kernel_rfl, by kernel_rfl⟩ ?_ | with_reducible refine obH ?_ | with_reducible refine Ob.mk ?_ ?_ | (with_reducible first | refine brU fun h => ?_ | refine brV fun h => ?_ | refine Br.mk (fun h => ?_) fun h => ?_) <;> (try simp only [bsl, beq_iff_eq, bne_iff_ne, bs2, bbq] at h) <;> (try contradiction) <;> try (exfalso; omega))
                  refine Awp.le (env' := [
                    (0, .d (eSecs l)), (5, .d (eSeats T)), (35, .d (eSteps steps)), (36, .d (.int .i64 steps.length)), (37, .d (.int .i64 k))
                    , (7, .ptr (.loc 0) 0 0 0), (8, .ptr (.loc 1) 0 0 0), (10, .d (eSeats x)), (137, .d (eSeats x)), (138, .d (.int .i64 x.length)), (139, .d (.int .i64 0))]) (m' := ⟨[some (.box 30 (up (eStep ⟨st, sec, lab, now, grp, true⟩))), some (.box 32 (up (eBun ⟨sec, lab⟩)))], []⟩) ?_ ht.1
                  repeat' (first | exact True.intro | exact rfl | exact Nat.le_refl _ | refine And.intro ?_ ?_)
              case t =>
                skip
                refine loop_rule hT (S := Nat) (fun j => ([
                  (0, .d (eSecs l)), (5, .d (eSeats T)), (35, .d (eSteps steps)), (36, .d (.int .i64 steps.length)), (37, .d (.int .i64 k))
                  , (7, .ptr (.loc 0) 0 0 0), (8, .ptr (.loc 1) 0 0 0), (10, .d (eSeats x)), (137, .d (eSeats x)), (138, .d (.int .i64 x.length)), (139, .d (.int .i64 j))], ⟨[some (.box 30 (up (eStep ⟨st, sec, lab, now, grp, true⟩))), some (.box 32 (up (eBun ⟨sec, lab⟩)))], []⟩)) (fun j => j ≤ x.length) (fun j => x.length - j) 0 ?_ ?_ ?_
                · repeat' (first | exact True.intro | exact rfl | exact Nat.le_refl _ | refine And.intro ?_ ?_)
                · exact Nat.zero_le _
                · intro j hj
                  by_cases hj2 : j < x.length
                  · by_cases hm : (x.getD j default).student = st ∧ ((x.getD j default).sec = sec ∨ (x.getD j default).sec = lab)
                    · repeat' (first | with_reducible refine Sq.go ?_ | ((with_reducible refine Ev.mk ?_); conv => whnf) | with_reducible refine Dr.mk ⟨by kernel_rfl, by kernel_rfl⟩ ?_ | with_reducible refine obH ?_ | with_reducible refine Ob.mk ?_ ?_ | (with_reducible first | refine brU fun h => ?_ | refine brV fun h => ?_ | refine Br.mk (fun h => ?_) fun h => ?_) <;> (try simp only [bsl, beq_iff_eq, bne_iff_ne, bs2, bbq] at h) <;> (try contradiction) <;> try (exfalso; omega))
                      all_goals
                        refine ⟨j + 1, by show j + 1 ≤ x.length; omega, by show x.length - (j + 1) < x.length - j; omega, ?_⟩
                        repeat' (first | exact True.intro | exact rfl | exact Nat.le_refl _ | refine And.intro ?_ ?_)
                    · have hy := has_ok T (by omega) (x.getD j default).student (x.getD j default).sec
                      rw [hcap.old _ (getD_mem hj2) hm] at hy
                      repeat' (first | with_reducible refine Sq.go ?_ | ((with_reducible refine Ev.mk ?_); conv => whnf) | with_reducible refine Dr.mk ⟨by kernel_rfl, by kernel_rfl⟩ ?_ | with_reducible refine obH ?_ | with_reducible refine Ob.mk ?_ ?_ | (with_reducible first | refine brU fun h => ?_ | refine brV fun h => ?_ | refine Br.mk (fun h => ?_) fun h => ?_) <;> (try simp only [bsl, beq_iff_eq, bne_iff_ne, bs2, bbq] at h) <;> (try contradiction) <;> try (exfalso; omega))
                      all_goals
                        refine hy.call ?_
                        repeat' (first | with_reducible refine Sq.go ?_ | ((with_reducible refine Ev.mk ?_); conv => whnf) | with_reducible refine Dr.mk ⟨by kernel_rfl, by kernel_rfl⟩ ?_ | with_reducible refine obH ?_ | with_reducible refine Ob.mk ?_ ?_ | (with_reducible first | refine brU fun h => ?_ | refine brV fun h => ?_ | refine Br.mk (fun h => ?_) fun h => ?_) <;> (try simp only [bsl, beq_iff_eq, bne_iff_ne, bs2, bbq] at h) <;> (try contradiction) <;> try (exfalso; omega))
                        refine ⟨j + 1, by show j + 1 ≤ x.length; omega, by show x.length - (j + 1) < x.length - j; omega, ?_⟩
                        repeat' (first | exact True.intro | exact rfl | exact Nat.le_refl _ | refine And.intro ?_ ?_)
                  · repeat' (first | with_reducible refine Sq.go ?_ | ((with_reducible refine Ev.mk ?_); conv => whnf) | with_reducible refine Dr.mk ⟨by kernel_rfl, by kernel_rfl⟩ ?_ | with_reducible refine obH ?_ | with_reducible refine Ob.mk ?_ ?_ | (with_reducible first | refine brU fun h => ?_ | refine brV fun h => ?_ | refine Br.mk (fun h => ?_) fun h => ?_) <;> (try simp only [bsl, beq_iff_eq, bne_iff_ne, bs2, bbq] at h) <;> (try contradiction) <;> try (exfalso; omega))
                    refine loop_rule hT (S := Nat) (fun i => ([
                      (0, .d (eSecs l)), (5, .d (eSeats x)), (35, .d (eSteps steps)), (36, .d (.int .i64 steps.length)), (37, .d (.int .i64 k))
                      , (171, .d (eSecs l)), (172, .d (.int .i64 l.length)), (173, .d (.int .i64 i))], ⟨[], []⟩)) (fun i => i ≤ l.length) (fun i => l.length - i) 0 ?_ ?_ ?_
                    · repeat' (first | exact True.intro | exact rfl | exact Nat.le_refl _ | refine And.intro ?_ ?_)
                    · exact Nat.zero_le _
                    · intro i hi
                      by_cases hi2 : i < l.length
                      · obtain ⟨hc1, hc2⟩ := cap_counts hcap.chk (getD_mem hi2)
                        have hL := lcount_ok x (by omega) (l.getD i default).id (-2)
                        have hgl := (hfs.2 _ (getD_mem hi2)).1
                        obtain ⟨c, hcd⟩ : ∃ c, cntL x (l.getD i default).id (-2) = c := ⟨_, rfl⟩
                        rw [hcd] at hL hc1
                        repeat' (first | with_reducible refine Sq.go ?_ | ((with_reducible refine Ev.mk ?_); conv => whnf) | with_reducible refine Dr.mk ⟨by kernel_rfl, by kernel_rfl⟩ ?_ | with_reducible refine obH ?_ | with_reducible refine Ob.mk ?_ ?_ | (with_reducible first | refine brU fun h => ?_ | refine brV fun h => ?_ | refine Br.mk (fun h => ?_) fun h => ?_) <;> (try simp only [bsl, beq_iff_eq, bne_iff_ne, bs2, bbq] at h) <;> (try contradiction) <;> try (exfalso; omega))
                        refine qC hL ?_
                        repeat' (first | with_reducible refine Sq.go ?_ | ((with_reducible refine Ev.mk ?_); conv => whnf) | with_reducible refine Dr.mk ⟨by kernel_rfl, by kernel_rfl⟩ ?_ | with_reducible refine obH ?_ | with_reducible refine Ob.mk ?_ ?_ | (with_reducible first | refine brU fun h => ?_ | refine brV fun h => ?_ | refine Br.mk (fun h => ?_) fun h => ?_) <;> (try simp only [bsl, beq_iff_eq, bne_iff_ne, bs2, bbq] at h) <;> (try contradiction) <;> try (exfalso; omega))
                        refine loop_rule hT (S := Nat) (fun w => ([
                          (0, .d (eSecs l)), (5, .d (eSeats x)), (35, .d (eSteps steps)), (36, .d (.int .i64 steps.length)), (37, .d (.int .i64 k))
                          , (17, .ptr (.loc 0) 0 0 0), (171, .d (eSecs l)), (172, .d (.int .i64 l.length)), (173, .d (.int .i64 i)), (185, .d (eGrps (l.getD i default).groups)), (186, .d (.int .i64 (l.getD i default).groups.length)), (187, .d (.int .i64 w))], ⟨[some (.box 44 (up (eSec (l.getD i default))))], []⟩)) (fun w => w ≤ (l.getD i default).groups.length) (fun w => (l.getD i default).groups.length - w) 0 ?_ ?_ ?_
                        · repeat' (first | exact True.intro | exact rfl | exact Nat.le_refl _ | refine And.intro ?_ ?_)
                        · exact Nat.zero_le _
                        · intro w hh
                          by_cases hh2 : w < (l.getD i default).groups.length
                          · have hg := hc2 _ (getD_mem hh2)
                            have hL2 := lcount_ok x (by omega) (l.getD i default).id ((l.getD i default).groups.getD w default).g
                            obtain ⟨c2, hcd2⟩ : ∃ c, cntL x (l.getD i default).id ((l.getD i default).groups.getD w default).g = c := ⟨_, rfl⟩
                            rw [hcd2] at hL2 hg
                            repeat' (first | with_reducible refine Sq.go ?_ | ((with_reducible refine Ev.mk ?_); conv => whnf) | with_reducible refine Dr.mk ⟨by kernel_rfl, by kernel_rfl⟩ ?_ | with_reducible refine obH ?_ | with_reducible refine Ob.mk ?_ ?_ | (with_reducible first | refine brU fun h => ?_ | refine brV fun h => ?_ | refine Br.mk (fun h => ?_) fun h => ?_) <;> (try simp only [bsl, beq_iff_eq, bne_iff_ne, bs2, bbq] at h) <;> (try contradiction) <;> try (exfalso; omega))
                            refine qC hL2 ?_
                            repeat' (first | with_reducible refine Sq.go ?_ | ((with_reducible refine Ev.mk ?_); conv => whnf) | with_reducible refine Dr.mk ⟨by kernel_rfl, by kernel_rfl⟩ ?_ | with_reducible refine obH ?_ | with_reducible refine Ob.mk ?_ ?_ | (with_reducible first | refine brU fun h => ?_ | refine brV fun h => ?_ | refine Br.mk (fun h => ?_) fun h => ?_) <;> (try simp only [bsl, beq_iff_eq, bne_iff_ne, bs2, bbq] at h) <;> (try contradiction) <;> try (exfalso; omega))
                            refine ⟨w + 1, by show w + 1 ≤ (l.getD i default).groups.length; omega, by show (l.getD i default).groups.length - (w + 1) < (l.getD i default).groups.length - w; omega, ?_⟩
                            repeat' (first | exact True.intro | exact rfl | exact Nat.le_refl _ | refine And.intro ?_ ?_)
                          · repeat' (first | with_reducible refine Sq.go ?_ | ((with_reducible refine Ev.mk ?_); conv => whnf) | with_reducible refine Dr.mk ⟨by kernel_rfl, by kernel_rfl⟩ ?_ | with_reducible refine obH ?_ | with_reducible refine Ob.mk ?_ ?_ | (with_reducible first | refine brU fun h => ?_ | refine brV fun h => ?_ | refine Br.mk (fun h => ?_) fun h => ?_) <;> (try simp only [bsl, beq_iff_eq, bne_iff_ne, bs2, bbq] at h) <;> (try contradiction) <;> try (exfalso; omega))
                            refine ⟨i + 1, by show i + 1 ≤ l.length; omega, by show l.length - (i + 1) < l.length - i; omega, ?_⟩
                            repeat' (first | exact True.intro | exact rfl | exact Nat.le_refl _ | refine And.intro ?_ ?_)
                      · repeat' (first | with_reducible refine Sq.go ?_ | ((with_reducible refine Ev.mk ?_); conv => whnf) | with_reducible refine Dr.mk ⟨by kernel_rfl, by kernel_rfl⟩ ?_ | with_reducible refine obH ?_ | with_reducible refine Ob.mk ?_ ?_ | (with_reducible first | refine brU fun h => ?_ | refine brV fun h => ?_ | refine Br.mk (fun h => ?_) fun h => ?_) <;> (try simp only [bsl, beq_iff_eq, bne_iff_ne, bs2, bbq] at h) <;> (try contradiction) <;> try (exfalso; omega))
                        refine ⟨(k + 1, x), ⟨by show k + 1 ≤ steps.length; omega, by show x.length ≤ 2 * (k + 1); omega, hcap.chk⟩, by show steps.length - (k + 1) < steps.length - k; omega, ?_⟩
                        repeat' (first | exact True.intro | exact rfl | exact Nat.le_refl _ | refine And.intro ?_ ?_)
            · have hx := leaveT_err hle he
              subst hx
              skip
              repeat' (first | with_reducible refine Sq.go ?_ | ((with_reducible refine Ev.mk ?_); conv => whnf) | with_reducible refine Dr.mk ⟨by kernel_rfl, by kernel_rfl⟩ ?_ | with_reducible refine obH ?_ | with_reducible refine Ob.mk ?_ ?_ | (with_reducible first | refine brU fun h => ?_ | refine brV fun h => ?_ | refine Br.mk (fun h => ?_) fun h => ?_) <;> (try simp only [bsl, beq_iff_eq, bne_iff_ne, bs2, bbq] at h) <;> (try contradiction) <;> try (exfalso; omega))
              simp (config := { beta := false, eta := false, iota := false, proj := false, zeta := false, decide := false }) only [Int.toNat_natCast, hsp]
              refine hH.call ?_
              repeat' (first | with_reducible refine Sq.go ?_ | ((with_reducible refine Ev.mk ?_); conv => whnf) | with_reducible refine Dr.mk ⟨by kernel_rfl, by kernel_rfl⟩ ?_ | with_reducible refine obH ?_ | with_reducible refine Ob.mk ?_ ?_ | (with_reducible first | refine brU fun h => ?_ | refine brV fun h => ?_ | refine Br.mk (fun h => ?_) fun h => ?_) <;> (try simp only [bsl, beq_iff_eq, bne_iff_ne, bs2, bbq] at h) <;> (try contradiction) <;> try (exfalso; omega))
              refine qC hG ?_
              repeat' (first | with_reducible refine Sq.go ?_ | ((with_reducible refine Ev.mk ?_); conv => whnf) | with_reducible refine Dr.mk ⟨by kernel_rfl, by kernel_rfl⟩ ?_ | with_reducible refine obH ?_ | with_reducible refine Ob.mk ?_ ?_ | (with_reducible first | refine brU fun h => ?_ | refine brV fun h => ?_ | refine Br.mk (fun h => ?_) fun h => ?_) <;> (try simp only [bsl, beq_iff_eq, bne_iff_ne, bs2, bbq] at h) <;> (try contradiction) <;> try (exfalso; omega))
              refine qC hTk ?_
              repeat' (first | with_reducible refine Sq.go ?_ | ((with_reducible refine Ev.mk ?_); conv => whnf) | with_reducible refine Dr.mk ⟨by kernel_rfl, by kernel_rfl⟩ ?_ | with_reducible refine obH ?_ | with_reducible refine Ob.mk ?_ ?_ | (with_reducible first | refine brU fun h => ?_ | refine brV fun h => ?_ | refine Br.mk (fun h => ?_) fun h => ?_) <;> (try simp only [bsl, beq_iff_eq, bne_iff_ne, bs2, bbq] at h) <;> (try contradiction) <;> try (exfalso; omega))
              refine hLv.call ?_
              skip
              repeat' (first | with_reducible refine Sq.go ?_ | ((with_reducible refine Ev.mk ?_); conv => whnf) | with_reducible refine Dr.mk ⟨by kernel_rfl, by kernel_rfl⟩ ?_ | with_reducible refine obG ?_ | with_reducible refine Ob.mk ?_ ?_ | (with_reducible first | refine brT fun h => ?_ | refine brF fun h => ?_ | refine Br.mk (fun h => ?_) fun h => ?_) <;> (try simp only [bsl, beq_iff_eq, bne_iff_ne, bs2] at h) <;> (try contradiction) <;> try (exfalso; omega))
              refine ⟨(k + 1, T), ⟨by show k + 1 ≤ steps.length; omega, by show T.length ≤ 2 * (k + 1); omega, hT0⟩, by show steps.length - (k + 1) < steps.length - k; omega, ?_⟩
              repeat' (first | exact True.intro | exact rfl | exact Nat.le_refl _ | refine And.intro ?_ ?_)
        · repeat' (first | with_reducible refine Sq.go ?_ | ((with_reducible refine Ev.mk ?_); conv => whnf) | with_reducible refine Dr.mk ⟨by kernel_rfl, by kernel_rfl⟩ ?_ | with_reducible refine obG ?_ | with_reducible refine Ob.mk ?_ ?_ | (with_reducible first | refine brT fun h => ?_ | refine brF fun h => ?_ | refine Br.mk (fun h => ?_) fun h => ?_) <;> (try simp only [bsl, beq_iff_eq, bne_iff_ne, bs2] at h) <;> (try contradiction) <;> try (exfalso; omega))
          exact ⟨rfl, True.intro⟩
    · repeat' (first | with_reducible refine Sq.go ?_ | ((with_reducible refine Ev.mk ?_); conv => whnf) | with_reducible refine Dr.mk ⟨by kernel_rfl, by kernel_rfl⟩ ?_ | with_reducible refine obG ?_ | with_reducible refine Ob.mk ?_ ?_ | (with_reducible first | refine brT fun h => ?_ | refine brF fun h => ?_ | refine Br.mk (fun h => ?_) fun h => ?_) <;> (try simp only [bsl, beq_iff_eq, bne_iff_ne, bs2] at h) <;> (try contradiction) <;> try (exfalso; omega))
      refine hS.call ?_
      repeat' (first | with_reducible refine Sq.go ?_ | ((with_reducible refine Ev.mk ?_); conv => whnf) | with_reducible refine Dr.mk ⟨by kernel_rfl, by kernel_rfl⟩ ?_ | with_reducible refine obG ?_ | with_reducible refine Ob.mk ?_ ?_ | (with_reducible first | refine brT fun h => ?_ | refine brF fun h => ?_ | refine Br.mk (fun h => ?_) fun h => ?_) <;> (try simp only [bsl, beq_iff_eq, bne_iff_ne, bs2] at h) <;> (try contradiction) <;> try (exfalso; omega))
      refine hF.call ?_
      repeat' (first | with_reducible refine Sq.go ?_ | ((with_reducible refine Ev.mk ?_); conv => whnf) | with_reducible refine Dr.mk ⟨by kernel_rfl, by kernel_rfl⟩ ?_ | with_reducible refine obG ?_ | with_reducible refine Ob.mk ?_ ?_ | (with_reducible first | refine brT fun h => ?_ | refine brF fun h => ?_ | refine Br.mk (fun h => ?_) fun h => ?_) <;> (try simp only [bsl, beq_iff_eq, bne_iff_ne, bs2] at h) <;> (try contradiction) <;> try (exfalso; omega))
      refine hA.call ?_
      repeat' (first | with_reducible refine Sq.go ?_ | ((with_reducible refine Ev.mk ?_); conv => whnf) | with_reducible refine Dr.mk ⟨by kernel_rfl, by kernel_rfl⟩ ?_ | with_reducible refine obG ?_ | with_reducible refine Ob.mk ?_ ?_ | (with_reducible first | refine brT fun h => ?_ | refine brF fun h => ?_ | refine Br.mk (fun h => ?_) fun h => ?_) <;> (try simp only [bsl, beq_iff_eq, bne_iff_ne, bs2] at h) <;> (try contradiction) <;> try (exfalso; omega))
      exact ⟨rfl, True.intro⟩
end Go.Proofs.YtfbjlakcolipaaaDoor
