/-
  Swaps: the program's Check.
-/
import Derived.Test.YtnhadilbebgbjaaSwapJ
import Derived.Test.YtnhadilbebgbjaaEngAM
namespace Go.Proofs.Ytnhadilbebgbjaa
set_option linter.unusedSimpArgs false
set_option linter.unusedVariables false
open Go Go.Ab
set_option maxRecDepth 100000
set_option maxHeartbeats 0
def hasR (l : List Swap) (k : Nat) : List Int → Bool := fun key => (l.take k).any fun a => decide (key = [a.campus, a.no])
def hasW (l : List Swap) (k : Nat) : List Int → Bool := fun key => (l.take k).any fun a => decide (key = [a.student, a.give.sec, a.give.lab])
theorem hasR_succ {l : List Swap} {k : Nat} (hk : k < l.length) (key : List Int) : (decide (key = [(l.getD k default).campus, (l.getD k default).no]) || hasR l k key) = hasR l (k + 1) key := by
  unfold hasR
  rw [any_take_succ' hk, Bool.or_comm]
theorem hasW_succ {l : List Swap} {k : Nat} (hk : k < l.length) (key : List Int) : (decide (key = [(l.getD k default).student, (l.getD k default).give.sec, (l.getD k default).give.lab]) || hasW l k key) = hasW l (k + 1) key := by
  unfold hasW
  rw [any_take_succ' hk, Bool.or_comm]
theorem dup_any (p : List Swap) (x : Swap) : (p.any fun a => dupS a x) = ((p.any fun a => decide ([x.campus, x.no] = [a.campus, a.no])) || p.any fun a => decide ([x.student, x.give.sec, x.give.lab] = [a.student, a.give.sec, a.give.lab])) := by
  induction p with
  | nil => rfl
  | cons a r ih =>
    simp only [List.any_cons, ih]
    have e1 : decide ([x.campus, x.no] = [a.campus, a.no]) = (decide (a.campus = x.campus) && decide (a.no = x.no)) := by
      rw [Bool.eq_iff_iff, Bool.and_eq_true, decide_eq_true_eq, decide_eq_true_eq, decide_eq_true_eq]
      exact ⟨fun h => by injection h with h1 h2; injection h2 with h2; exact ⟨h1.symm, h2.symm⟩, fun ⟨h1, h2⟩ => by rw [h1, h2]⟩
    have e2 : decide ([x.student, x.give.sec, x.give.lab] = [a.student, a.give.sec, a.give.lab]) = (decide (a.student = x.student) && (decide (a.give.sec = x.give.sec) && decide (a.give.lab = x.give.lab))) := by
      rw [Bool.eq_iff_iff, Bool.and_eq_true, Bool.and_eq_true, decide_eq_true_eq, decide_eq_true_eq, decide_eq_true_eq, decide_eq_true_eq]
      exact ⟨fun h => by injection h with h1 h2; injection h2 with h2 h3; injection h3 with h3; exact ⟨h1.symm, h2.symm, h3.symm⟩, fun ⟨h1, h2, h3⟩ => by rw [h1, h2, h3]⟩
    rw [e1, e2, dupS]
    generalize (decide (a.campus = x.campus) && decide (a.no = x.no)) = u
    generalize (decide (a.student = x.student) && (decide (a.give.sec = x.give.sec) && decide (a.give.lab = x.give.lab))) = v
    cases u <;> cases v <;> simp
theorem mapT {c h : Bool} (hh : (c || h) = true) : (bif c then AV.d (.bool true) else AV.d (.bool h)) = AV.d (.bool true) := by
  cases c
  · rw [Bool.false_or] at hh; rw [hh]; rfl
  · rfl
def shR : Ksh := .many [.i64, .i64]
def shW : Ksh := .many [.i64, .i64, .i64]
theorem check30_ok (l : List Swap) (hl : l.length ≤ 1000000) : Pure Try.prog 15 [eSwaps l] [.int .i64 (chk30 l)] := by
  refine pure_rule hT (T := tab) (N := 45) (rs := [.tmp 2]) Try.func15 rfl rfl rfl (by kernel_rfl) rfl ?_
  repeat' (first | with_reducible refine Sq.go ?_ | ((with_reducible refine Ev.mk ?_); conv => whnf) | with_reducible refine Dr.mk ⟨by kernel_rfl, by kernel_rfl⟩ ?_ | with_reducible refine obG ?_ | with_reducible refine Ob.mk ?_ ?_ | (with_reducible first | refine brT fun h => ?_ | refine brF fun h => ?_ | refine Br.mk (fun h => ?_) fun h => ?_) <;> (try simp only [bsl, beq_iff_eq, bne_iff_ne, bs2] at h) <;> (try contradiction) <;> try (exfalso; omega))
  refine loop_rule hT (S := Nat) (fun k => ([(3, .mp (.loc 0)), (4, .mp (.loc 1)), (11, .d (eSwaps l)), (12, .d (.int .i64 l.length)), (13, .d (.int .i64 k))],
    ⟨[some (.map shR (hasR l k) fun x => .d (.bool (hasR l k x))), some (.map shW (hasW l k) fun x => .d (.bool (hasW l k x)))], []⟩)) (fun k => k ≤ l.length ∧ chkW [] l = chkW (l.take k) (l.drop k)) (fun k => l.length - k) 0 ?_ ?_ ?_
  · repeat' (first | exact True.intro | exact rfl | exact Nat.le_refl _ | refine And.intro ?_ ?_)
    all_goals
      intro key hf
      exact ⟨rfl, fun h => by cases h⟩
  · exact ⟨Nat.zero_le _, rfl⟩
  · rintro k ⟨hk, hc⟩
    by_cases hk2 : k < l.length
    · have hV := valid30_ok (l.getD k default)
      rw [drop_at hk2, chkW, ← take_succ_at hk2, dup_any] at hc
      repeat' (first | ((with_reducible refine Ev.mk ?_); conv => whnf) | with_reducible refine Dr.mk ⟨by kernel_rfl, by kernel_rfl⟩ ?_ | with_reducible refine obG ?_ | with_reducible refine Ob.mk ?_ ?_ | (with_reducible first | refine brT fun h => ?_ | refine brF fun h => ?_ | refine Br.mk (fun h => ?_) fun h => ?_) <;> (try simp only [bsl, beq_iff_eq, bne_iff_ne, bs2] at h) <;> (try contradiction) <;> try (exfalso; omega))
      refine Sq.go ?_
      repeat' (first | ((with_reducible refine Ev.mk ?_); conv => whnf) | with_reducible refine Dr.mk ⟨by kernel_rfl, by kernel_rfl⟩ ?_ | with_reducible refine obG ?_ | with_reducible refine Ob.mk ?_ ?_ | (with_reducible first | refine brT fun h => ?_ | refine brF fun h => ?_ | refine Br.mk (fun h => ?_) fun h => ?_) <;> (try simp only [bsl, beq_iff_eq, bne_iff_ne, bs2] at h) <;> (try contradiction) <;> try (exfalso; omega))
      refine Sq.go ?_
      repeat' (first | ((with_reducible refine Ev.mk ?_); conv => whnf) | with_reducible refine Dr.mk ⟨by kernel_rfl, by kernel_rfl⟩ ?_ | with_reducible refine obG ?_ | with_reducible refine Ob.mk ?_ ?_ | (with_reducible first | refine brT fun h => ?_ | refine brF fun h => ?_ | refine Br.mk (fun h => ?_) fun h => ?_) <;> (try simp only [bsl, beq_iff_eq, bne_iff_ne, bs2] at h) <;> (try contradiction) <;> try (exfalso; omega))
      refine Sq.alt (Awp.seq (Awp.twoN hT 10 ⟨7, 57, 21, 4, [.int .i64 (l.getD k default).campus, .int .i64 (l.getD k default).no]⟩ ⟨8, 64, 26, 9, [.int .i64 (l.getD k default).student, .int .i64 (l.getD k default).give.sec, .int .i64 (l.getD k default).give.lab]⟩
        (by kernel_rfl) (by kernel_rfl) (by kernel_rfl) (by kernel_rfl) (BoxOk.of rfl ⟨rfl, rfl, rfl⟩ rfl ⟨rfl, rfl, rfl⟩ rfl rfl rfl rfl rfl rfl rfl rfl rfl) (BoxOk.of rfl ⟨rfl, rfl, rfl⟩ rfl ⟨rfl, rfl, rfl⟩ rfl rfl rfl rfl rfl rfl rfl rfl rfl) rfl rfl rfl ?_))
      conv => whnf
      repeat' (first | ((with_reducible refine Ev.mk ?_); conv => whnf) | with_reducible refine Dr.mk ⟨by kernel_rfl, by kernel_rfl⟩ ?_ | with_reducible refine obG ?_ | with_reducible refine Ob.mk ?_ ?_ | (with_reducible first | refine brT fun h => ?_ | refine brF fun h => ?_ | refine Br.mk (fun h => ?_) fun h => ?_) <;> (try simp only [bsl, beq_iff_eq, bne_iff_ne, bs2] at h) <;> (try contradiction) <;> try (exfalso; omega))
      refine ⟨⟨rfl, rfl⟩, Ev.mk (vc_ok hT _ _ _ _ (Ev.o ?_))⟩
      have hany : (l.take k).any (fun a => dupS a (l.getD k default)) = (hasR l k [(l.getD k default).campus, (l.getD k default).no] || hasW l k [(l.getD k default).student, (l.getD k default).give.sec, (l.getD k default).give.lab]) := dup_any _ _
      rw [← dup_any, hany] at hc
      cases hv : swV (l.getD k default)
      · rw [hv] at hV hc
        have h3 : chk30 l = 300 := by rw [chk30, hc]; rfl
        rw [h3]
        repeat' (first | with_reducible refine Sq.go ?_ | ((with_reducible refine Ev.mk ?_); conv => whnf) | with_reducible refine Dr.mk ⟨by kernel_rfl, by kernel_rfl⟩ ?_ | with_reducible refine obG ?_ | with_reducible refine Ob.mk ?_ ?_ | (with_reducible first | refine brT fun h => ?_ | refine brF fun h => ?_ | refine Br.mk (fun h => ?_) fun h => ?_) <;> (try simp only [bsl, beq_iff_eq, bne_iff_ne, bs2] at h) <;> (try contradiction) <;> try (exfalso; omega))
        refine hV.call ?_
        repeat' (first | with_reducible refine Sq.go ?_ | ((with_reducible refine Ev.mk ?_); conv => whnf) | with_reducible refine Dr.mk ⟨by kernel_rfl, by kernel_rfl⟩ ?_ | with_reducible refine obG ?_ | with_reducible refine Ob.mk ?_ ?_ | (with_reducible first | refine brT fun h => ?_ | refine brF fun h => ?_ | refine Br.mk (fun h => ?_) fun h => ?_) <;> (try simp only [bsl, beq_iff_eq, bne_iff_ne, bs2] at h) <;> (try contradiction) <;> try (exfalso; omega))
        exact ⟨rfl, True.intro⟩
      rw [hv] at hV hc
      rw [Bool.true_and] at hc
      cases hr : hasR l k [(l.getD k default).campus, (l.getD k default).no]
      rotate_left
      · rw [hr] at hc
        have h3 : chk30 l = 300 := by rw [chk30, hc]; rfl
        rw [h3]
        repeat' (first | with_reducible refine Sq.go ?_ | ((with_reducible refine Ev.mk ?_); conv => whnf) | with_reducible refine Dr.mk ⟨by kernel_rfl, by kernel_rfl⟩ ?_ | with_reducible refine obG ?_ | with_reducible refine Ob.mk ?_ ?_ | (with_reducible first | refine brT fun h => ?_ | refine brF fun h => ?_ | refine Br.mk (fun h => ?_) fun h => ?_) <;> (try simp only [bsl, beq_iff_eq, bne_iff_ne, bs2] at h) <;> (try contradiction) <;> try (exfalso; omega))
        refine hV.call ?_
        repeat' (first | with_reducible refine Sq.go ?_ | ((with_reducible refine Ev.mk ?_); conv => whnf) | with_reducible refine Dr.mk ⟨by kernel_rfl, by kernel_rfl⟩ ?_ | with_reducible refine obG ?_ | with_reducible refine Ob.mk ?_ ?_ | (with_reducible first | refine brT fun h => ?_ | refine brF fun h => ?_ | refine Br.mk (fun h => ?_) fun h => ?_) <;> (try simp only [bsl, beq_iff_eq, bne_iff_ne, bs2] at h) <;> (try contradiction) <;> try (exfalso; omega))
        all_goals first
          | exact ⟨rfl, True.intro⟩
          | exact absurd h.1 (nf hr)
      rw [hr] at hc
      cases hw : hasW l k [(l.getD k default).student, (l.getD k default).give.sec, (l.getD k default).give.lab]
      rotate_left
      · rw [hw] at hc
        have h3 : chk30 l = 300 := by rw [chk30, hc]; rfl
        rw [h3]
        repeat' (first | with_reducible refine Sq.go ?_ | ((with_reducible refine Ev.mk ?_); conv => whnf) | with_reducible refine Dr.mk ⟨by kernel_rfl, by kernel_rfl⟩ ?_ | with_reducible refine obG ?_ | with_reducible refine Ob.mk ?_ ?_ | (with_reducible first | refine brT fun h => ?_ | refine brF fun h => ?_ | refine Br.mk (fun h => ?_) fun h => ?_) <;> (try simp only [bsl, beq_iff_eq, bne_iff_ne, bs2] at h) <;> (try contradiction) <;> try (exfalso; omega))
        refine hV.call ?_
        repeat' (first | with_reducible refine Sq.go ?_ | ((with_reducible refine Ev.mk ?_); conv => whnf) | with_reducible refine Dr.mk ⟨by kernel_rfl, by kernel_rfl⟩ ?_ | with_reducible refine obG ?_ | with_reducible refine Ob.mk ?_ ?_ | (with_reducible first | refine brT fun h => ?_ | refine brF fun h => ?_ | refine Br.mk (fun h => ?_) fun h => ?_) <;> (try simp only [bsl, beq_iff_eq, bne_iff_ne, bs2] at h) <;> (try contradiction) <;> try (exfalso; omega))
        all_goals first
          | exact ⟨rfl, True.intro⟩
          | exact absurd h.2 (nf hw)
      rw [hw] at hc
      repeat' (first | ((with_reducible refine Ev.mk ?_); conv => whnf) | with_reducible refine Dr.mk ⟨by kernel_rfl, by kernel_rfl⟩ ?_ | with_reducible refine obG ?_ | with_reducible refine Ob.mk ?_ ?_ | (with_reducible first | refine brT fun h => ?_ | refine brF fun h => ?_ | refine Br.mk (fun h => ?_) fun h => ?_) <;> (try simp only [bsl, beq_iff_eq, bne_iff_ne, bs2] at h) <;> (try contradiction) <;> try (exfalso; omega))
      refine hV.call ?_
      repeat' (first | ((with_reducible refine Ev.mk ?_); conv => whnf) | with_reducible refine Dr.mk ⟨by kernel_rfl, by kernel_rfl⟩ ?_ | with_reducible refine obG ?_ | with_reducible refine Ob.mk ?_ ?_ | (with_reducible first | refine brT fun h => ?_ | refine brF fun h => ?_ | refine Br.mk (fun h => ?_) fun h => ?_) <;> (try simp only [bsl, beq_iff_eq, bne_iff_ne, bs2] at h) <;> (try contradiction) <;> try (exfalso; omega))
      refine Sq.go ?_
      repeat' (first | ((with_reducible refine Ev.mk ?_); conv => whnf) | with_reducible refine Dr.mk ⟨by kernel_rfl, by kernel_rfl⟩ ?_ | with_reducible refine obG ?_ | with_reducible refine Ob.mk ?_ ?_ | (with_reducible first | refine brT fun h => ?_ | refine brF fun h => ?_ | refine Br.mk (fun h => ?_) fun h => ?_) <;> (try simp only [bsl, beq_iff_eq, bne_iff_ne, bs2] at h) <;> (try contradiction) <;> try (exfalso; omega))
      all_goals try exact h.elim (fun h => absurd h (nt hr)) (fun h => absurd h (nt hw))
      refine Sq.alt (Awp.mapsN hT 4 ⟨56, 40, 41, true, 0, 1, .loc 0, .d (.agg [.int .i64 (l.getD k default).campus, .int .i64 (l.getD k default).no])⟩ ⟨62, 42, 43, true, 2, 3, .loc 1, .d (.agg [.int .i64 (l.getD k default).student, .int .i64 (l.getD k default).give.sec, .int .i64 (l.getD k default).give.lab])⟩
        (by kernel_rfl) (by kernel_rfl) (by kernel_rfl) (by kernel_rfl) (MapOp.of rfl ⟨rfl, rfl, rfl⟩ rfl rfl rfl rfl rfl rfl rfl rfl) (MapOp.of rfl ⟨rfl, rfl, rfl⟩ rfl rfl rfl rfl rfl rfl rfl rfl) rfl rfl rfl rfl (fun e => by cases e) ?_)
      conv => whnf
      repeat' (first | ((with_reducible refine Ev.mk ?_); conv => whnf) | with_reducible refine Dr.mk ⟨by kernel_rfl, by kernel_rfl⟩ ?_ | with_reducible refine obG ?_ | with_reducible refine Ob.mk ?_ ?_ | (with_reducible first | refine brT fun h => ?_ | refine brF fun h => ?_ | refine Br.mk (fun h => ?_) fun h => ?_) <;> (try simp only [bsl, beq_iff_eq, bne_iff_ne, bs2] at h) <;> (try contradiction) <;> try (exfalso; omega))
      refine ⟨⟨rfl, rfl, rfl, rfl⟩, ?_⟩
      repeat' (first | with_reducible refine Sq.go ?_ | ((with_reducible refine Ev.mk ?_); conv => whnf) | with_reducible refine Dr.mk ⟨by kernel_rfl, by kernel_rfl⟩ ?_ | with_reducible refine obG ?_ | with_reducible refine Ob.mk ?_ ?_ | (with_reducible first | refine brT fun h => ?_ | refine brF fun h => ?_ | refine Br.mk (fun h => ?_) fun h => ?_) <;> (try simp only [bsl, beq_iff_eq, bne_iff_ne, bs2] at h) <;> (try contradiction) <;> try (exfalso; omega))
      refine ⟨k + 1, ⟨by show k + 1 ≤ l.length; omega, by rw [hc]; rfl⟩, by show l.length - (k + 1) < l.length - k; omega, ?_⟩
      repeat' (first | exact True.intro | exact rfl | exact Nat.le_refl _ | refine And.intro ?_ ?_)
      · intro key hf
        refine ⟨hasR_succ hk2 key, fun hh => ⟨?_, rfl⟩⟩
        exact (mapT hh).trans (congrArg (fun b => AV.d (D.bool b)) (hh.symm.trans (hasR_succ hk2 key)))
      · intro key hf
        refine ⟨hasW_succ hk2 key, fun hh => ⟨?_, rfl⟩⟩
        exact (mapT hh).trans (congrArg (fun b => AV.d (D.bool b)) (hh.symm.trans (hasW_succ hk2 key)))
    · rw [drop_end (by omega), chkW] at hc
      have h3 : chk30 l = 0 := by rw [chk30, hc]; rfl
      rw [h3]
      repeat' (first | with_reducible refine Sq.go ?_ | ((with_reducible refine Ev.mk ?_); conv => whnf) | with_reducible refine Dr.mk ⟨by kernel_rfl, by kernel_rfl⟩ ?_ | with_reducible refine obG ?_ | with_reducible refine Ob.mk ?_ ?_ | (with_reducible first | refine brT fun h => ?_ | refine brF fun h => ?_ | refine Br.mk (fun h => ?_) fun h => ?_) <;> (try simp only [bsl, beq_iff_eq, bne_iff_ne, bs2] at h) <;> (try contradiction) <;> try (exfalso; omega))
      exact ⟨rfl, True.intro⟩
end Go.Proofs.Ytnhadilbebgbjaa
