/-
  Swaps: isCycle by the program, IsCycle by the reference.
-/
import Derived.Test.YtnhadilbebgbjaaSwapQ
namespace Go.Proofs.Ytnhadilbebgbjaa
set_option linter.unusedSimpArgs false
set_option linter.unusedVariables false
open Go Go.Ab
set_option maxRecDepth 100000
set_option maxHeartbeats 0
def inR (l : List Swap) (x : Int) : Bool := wit x 0 ((l.length : Int) - 1)
def nxI (w : List Int) (k : Nat) : Int := w.getD ((k + 1) % w.length) default
def folB (l : List Swap) (x y : Int) : Bool := decide ((l.getD x.toNat default).take.sec = (l.getD y.toNat default).give.sec) && decide ((l.getD x.toNat default).take.lab = (l.getD y.toNat default).give.lab)
def cyS (l : List Swap) (w : List Int) (k : Nat) : Bool := inR l (w.getD k default) && (inR l (nxI w k) && (!((w.take k).any fun a => decide (w.getD k default = a)) && folB l (w.getD k default) (nxI w k)))
def isC (l : List Swap) (w : List Int) : Bool := (List.range w.length).all (cyS l w) && decide (2 ≤ w.length)
def hasM (w : List Int) (k : Nat) : List Int → Bool := fun key => (w.take k).any fun a => decide (key = [a])
theorem hasM_one (w : List Int) (k : Nat) (x : Int) : hasM w k [x] = (w.take k).any fun a => decide (x = a) := by
  unfold hasM
  congr 1
  funext a
  simp
theorem hasM_succ {w : List Int} {k : Nat} (hk : k < w.length) (key : List Int) : (decide (key = [w.getD k default]) || hasM w k key) = hasM w (k + 1) key := by
  unfold hasM
  rw [take_succ_at hk, List.any_append, List.any_cons, List.any_nil, Bool.or_false, Bool.or_comm]
theorem all_drop {n k : Nat} (h : k < n) (p : Nat → Bool) : ((List.range n).drop k).all p = (p k && ((List.range n).drop (k + 1)).all p) := by
  rw [range_drop h, List.all_cons]
theorem tmod_nat (k n : Nat) : ((k : Int) + 1).tmod (n : Int) = (((k + 1) % n : Nat) : Int) := by
  rw [show (k : Int) + 1 = ((k + 1 : Nat) : Int) by omega]
  rfl
theorem wit_in {l : List Swap} {x : Int} (h : inR l x = true) : 0 ≤ x ∧ x < l.length := by
  unfold inR wit at h
  rw [Bool.and_eq_true, decide_eq_true_eq, decide_eq_true_eq] at h
  omega
theorem isCycle_ok (l : List Swap) (hl : l.length ≤ 1000) (w : List Int) (hw : w.length ≤ 1000000) : Pure Try.prog 41 [eSwaps l, eInts w] [.bool (isC l w)] := by
  refine pure_rule hT (T := tab) (N := 63) (rs := [.tmp 4]) Try.func41 rfl rfl rfl (by kernel_rfl) rfl ?_
  repeat' (first | with_reducible refine Sq.go ?_ | ((with_reducible refine Ev.mk ?_); conv => whnf) | with_reducible refine Dr.mk ⟨by kernel_rfl, by kernel_rfl⟩ ?_ | with_reducible refine obG ?_ | with_reducible refine Ob.mk ?_ ?_ | (with_reducible first | refine brT fun h => ?_ | refine brF fun h => ?_ | refine Br.mk (fun h => ?_) fun h => ?_) <;> (try simp only [bsl, beq_iff_eq, bne_iff_ne, bs2] at h) <;> (try contradiction) <;> try (exfalso; omega))
  refine loop_rule hT (S := Nat) (fun k => ([(0, .d (eSwaps l)), (1, .d (eInts w)), (5, .mp (.loc 0)), (10, .d (eInts w)), (11, .d (.int .i64 w.length)), (12, .d (.int .i64 k))], ⟨[some (.map (.one .i64) (hasM w k) fun x => .d (.bool (hasM w k x)))], []⟩))
    (fun k => k ≤ w.length ∧ isC l w = (((List.range w.length).drop k).all (cyS l w) && decide (2 ≤ w.length))) (fun k => w.length - k) 0 ?_ ?_ ?_
  · repeat' (first | exact True.intro | exact rfl | exact Nat.le_refl _ | refine And.intro ?_ ?_)
    all_goals
      intro key hf
      exact ⟨rfl, fun h => by cases h⟩
  · exact ⟨Nat.zero_le _, rfl⟩
  · rintro k ⟨hk, hc⟩
    by_cases hk2 : k < w.length
    · rw [all_drop hk2] at hc
      have hmod := tmod_nat k w.length
      have hlt := Nat.mod_lt (k + 1) (show 0 < w.length by omega)
      have hmx := hasM_one w k (w.getD k default)
      have hI1 := in_ok (w.getD k default) 0 ((l.length : Int) - 1)
      have hI2 := in_ok (nxI w k) 0 ((l.length : Int) - 1)
      rw [show wit (w.getD k default) 0 ((l.length : Int) - 1) = inR l (w.getD k default) from rfl] at hI1
      rw [show wit (nxI w k) 0 ((l.length : Int) - 1) = inR l (nxI w k) from rfl] at hI2
      rw [show cyS l w k = (inR l (w.getD k default) && (inR l (nxI w k) && (!((w.take k).any fun a => decide (w.getD k default = a)) && folB l (w.getD k default) (nxI w k)))) from rfl, ← hmx] at hc
      obtain ⟨x, hx⟩ : ∃ x, w.getD k default = x := ⟨_, rfl⟩
      obtain ⟨y, hy⟩ : ∃ y, nxI w k = y := ⟨_, rfl⟩
      have hy2 : w.getD (((k : Int) + 1).tmod (w.length : Int)).toNat default = y := by rw [hmod, Int.toNat_natCast]; exact hy
      have htm : 0 ≤ ((k : Int) + 1).tmod (w.length : Int) ∧ ((k : Int) + 1).tmod (w.length : Int) < w.length := by rw [hmod]; omega
      have hinm : In .i64 (((k : Int) + 1).tmod (w.length : Int)) := in64.2 (by omega)
      rw [hx] at hI1 hc
      rw [hy] at hI2 hc
      have hx2 : w.getD (k : Int).toNat default = x := hx
      cases a1 : inR l x
      · rw [a1] at hI1 hc
        rw [hc]
        repeat' (first | with_reducible refine Sq.go ?_ | ((with_reducible refine Ev.mk ?_); conv => whnf) | with_reducible refine Dr.mk ⟨by kernel_rfl, by kernel_rfl⟩ ?_ | with_reducible refine obG ?_ | with_reducible refine Ob.mk ?_ ?_ | (with_reducible first | refine brT fun h => ?_ | refine brF fun h => ?_ | refine Br.mk (fun h => ?_) fun h => ?_) <;> (try simp only [bsl, beq_iff_eq, bne_iff_ne, bs2] at h) <;> (try contradiction) <;> try (exfalso; omega))
        simp (config := { beta := false, eta := false, iota := false, proj := false, zeta := false, decide := false }) only [hx2, hy2]
        refine qC hI1 ?_
        repeat' (first | with_reducible refine Sq.go ?_ | ((with_reducible refine Ev.mk ?_); conv => whnf) | with_reducible refine Dr.mk ⟨by kernel_rfl, by kernel_rfl⟩ ?_ | with_reducible refine obG ?_ | with_reducible refine Ob.mk ?_ ?_ | (with_reducible first | refine brT fun h => ?_ | refine brF fun h => ?_ | refine Br.mk (fun h => ?_) fun h => ?_) <;> (try simp only [bsl, beq_iff_eq, bne_iff_ne, bs2] at h) <;> (try contradiction) <;> try (exfalso; omega))
        exact ⟨rfl, True.intro⟩
      rw [a1] at hI1 hc
      obtain ⟨x0, x1⟩ := wit_in a1
      cases a2 : inR l y
      · rw [a2] at hI2 hc
        rw [hc]
        repeat' (first | with_reducible refine Sq.go ?_ | ((with_reducible refine Ev.mk ?_); conv => whnf) | with_reducible refine Dr.mk ⟨by kernel_rfl, by kernel_rfl⟩ ?_ | with_reducible refine obG ?_ | with_reducible refine Ob.mk ?_ ?_ | (with_reducible first | refine brT fun h => ?_ | refine brF fun h => ?_ | refine Br.mk (fun h => ?_) fun h => ?_) <;> (try simp only [bsl, beq_iff_eq, bne_iff_ne, bs2] at h) <;> (try contradiction) <;> try (exfalso; omega))
        simp (config := { beta := false, eta := false, iota := false, proj := false, zeta := false, decide := false }) only [hx2, hy2]
        refine qC hI1 ?_
        repeat' (first | with_reducible refine Sq.go ?_ | ((with_reducible refine Ev.mk ?_); conv => whnf) | with_reducible refine Dr.mk ⟨by kernel_rfl, by kernel_rfl⟩ ?_ | with_reducible refine obG ?_ | with_reducible refine Ob.mk ?_ ?_ | (with_reducible first | refine brT fun h => ?_ | refine brF fun h => ?_ | refine Br.mk (fun h => ?_) fun h => ?_) <;> (try simp only [bsl, beq_iff_eq, bne_iff_ne, bs2] at h) <;> (try contradiction) <;> try (exfalso; omega))
        refine qC hI2 ?_
        repeat' (first | with_reducible refine Sq.go ?_ | ((with_reducible refine Ev.mk ?_); conv => whnf) | with_reducible refine Dr.mk ⟨by kernel_rfl, by kernel_rfl⟩ ?_ | with_reducible refine obG ?_ | with_reducible refine Ob.mk ?_ ?_ | (with_reducible first | refine brT fun h => ?_ | refine brF fun h => ?_ | refine Br.mk (fun h => ?_) fun h => ?_) <;> (try simp only [bsl, beq_iff_eq, bne_iff_ne, bs2] at h) <;> (try contradiction) <;> try (exfalso; omega))
        exact ⟨rfl, True.intro⟩
      rw [a2] at hI2 hc
      obtain ⟨y0, y1⟩ := wit_in a2
      cases a3 : hasM w k [x]
      rotate_left
      · rw [a3] at hc
        rw [hc]
        repeat' (first | with_reducible refine Sq.go ?_ | ((with_reducible refine Ev.mk ?_); conv => whnf) | with_reducible refine Dr.mk ⟨by kernel_rfl, by kernel_rfl⟩ ?_ | with_reducible refine obG ?_ | with_reducible refine Ob.mk ?_ ?_ | (with_reducible first | refine brT fun h => ?_ | refine brF fun h => ?_ | refine Br.mk (fun h => ?_) fun h => ?_) <;> (try simp only [bsl, beq_iff_eq, bne_iff_ne, bs2] at h) <;> (try contradiction) <;> try (exfalso; omega))
        simp (config := { beta := false, eta := false, iota := false, proj := false, zeta := false, decide := false }) only [hx2, hy2]
        refine qC hI1 ?_
        repeat' (first | with_reducible refine Sq.go ?_ | ((with_reducible refine Ev.mk ?_); conv => whnf) | with_reducible refine Dr.mk ⟨by kernel_rfl, by kernel_rfl⟩ ?_ | with_reducible refine obG ?_ | with_reducible refine Ob.mk ?_ ?_ | (with_reducible first | refine brT fun h => ?_ | refine brF fun h => ?_ | refine Br.mk (fun h => ?_) fun h => ?_) <;> (try simp only [bsl, beq_iff_eq, bne_iff_ne, bs2] at h) <;> (try contradiction) <;> try (exfalso; omega))
        refine qC hI2 ?_
        repeat' (first | with_reducible refine Sq.go ?_ | ((with_reducible refine Ev.mk ?_); conv => whnf) | with_reducible refine Dr.mk ⟨by kernel_rfl, by kernel_rfl⟩ ?_ | with_reducible refine obG ?_ | with_reducible refine Ob.mk ?_ ?_ | (with_reducible first | refine brT fun h => ?_ | refine brF fun h => ?_ | refine Br.mk (fun h => ?_) fun h => ?_) <;> (try simp only [bsl, beq_iff_eq, bne_iff_ne, bs2] at h) <;> (try contradiction) <;> try (exfalso; omega))
        all_goals first
          | exact absurd h.1 (nf a3)
          | exact ⟨rfl, True.intro⟩
      rw [a3] at hc
      cases a4 : folB l x y
      · rw [a4] at hc
        rw [hc]
        have a5 : ¬ ((l.getD x.toNat default).take.sec = (l.getD y.toNat default).give.sec ∧ (l.getD x.toNat default).take.lab = (l.getD y.toNat default).give.lab) := fun h => by
          rw [folB, decide_eq_true h.1, decide_eq_true h.2] at a4
          cases a4
        repeat' (first | with_reducible refine Sq.go ?_ | ((with_reducible refine Ev.mk ?_); conv => whnf) | with_reducible refine Dr.mk ⟨by kernel_rfl, by kernel_rfl⟩ ?_ | with_reducible refine obG ?_ | with_reducible refine Ob.mk ?_ ?_ | (with_reducible first | refine brT fun h => ?_ | refine brF fun h => ?_ | refine Br.mk (fun h => ?_) fun h => ?_) <;> (try simp only [bsl, beq_iff_eq, bne_iff_ne, bs2] at h) <;> (try contradiction) <;> try (exfalso; omega))
        simp (config := { beta := false, eta := false, iota := false, proj := false, zeta := false, decide := false }) only [hx2, hy2]
        refine qC hI1 ?_
        repeat' (first | with_reducible refine Sq.go ?_ | ((with_reducible refine Ev.mk ?_); conv => whnf) | with_reducible refine Dr.mk ⟨by kernel_rfl, by kernel_rfl⟩ ?_ | with_reducible refine obG ?_ | with_reducible refine Ob.mk ?_ ?_ | (with_reducible first | refine brT fun h => ?_ | refine brF fun h => ?_ | refine Br.mk (fun h => ?_) fun h => ?_) <;> (try simp only [bsl, beq_iff_eq, bne_iff_ne, bs2] at h) <;> (try contradiction) <;> try (exfalso; omega))
        refine qC hI2 ?_
        repeat' (first | with_reducible refine Sq.go ?_ | ((with_reducible refine Ev.mk ?_); conv => whnf) | with_reducible refine Dr.mk ⟨by kernel_rfl, by kernel_rfl⟩ ?_ | with_reducible refine obG ?_ | with_reducible refine Ob.mk ?_ ?_ | (with_reducible first | refine brT fun h => ?_ | refine brF fun h => ?_ | refine Br.mk (fun h => ?_) fun h => ?_) <;> (try simp only [bsl, beq_iff_eq, bne_iff_ne, bs2] at h) <;> (try contradiction) <;> try (exfalso; omega))
        all_goals first
          | exact absurd h.2 a5
          | exact ⟨rfl, True.intro⟩
      · rw [a4] at hc
        have a5 : (l.getD x.toNat default).take.sec = (l.getD y.toNat default).give.sec ∧ (l.getD x.toNat default).take.lab = (l.getD y.toNat default).give.lab := by
          rw [folB, Bool.and_eq_true, decide_eq_true_eq, decide_eq_true_eq] at a4
          exact a4
        repeat' (first | with_reducible refine Sq.go ?_ | ((with_reducible refine Ev.mk ?_); conv => whnf) | with_reducible refine Dr.mk ⟨by kernel_rfl, by kernel_rfl⟩ ?_ | with_reducible refine obG ?_ | with_reducible refine Ob.mk ?_ ?_ | (with_reducible first | refine brT fun h => ?_ | refine brF fun h => ?_ | refine Br.mk (fun h => ?_) fun h => ?_) <;> (try simp only [bsl, beq_iff_eq, bne_iff_ne, bs2] at h) <;> (try contradiction) <;> try (exfalso; omega))
        simp (config := { beta := false, eta := false, iota := false, proj := false, zeta := false, decide := false }) only [hx2, hy2]
        refine qC hI1 ?_
        repeat' (first | with_reducible refine Sq.go ?_ | ((with_reducible refine Ev.mk ?_); conv => whnf) | with_reducible refine Dr.mk ⟨by kernel_rfl, by kernel_rfl⟩ ?_ | with_reducible refine obG ?_ | with_reducible refine Ob.mk ?_ ?_ | (with_reducible first | refine brT fun h => ?_ | refine brF fun h => ?_ | refine Br.mk (fun h => ?_) fun h => ?_) <;> (try simp only [bsl, beq_iff_eq, bne_iff_ne, bs2] at h) <;> (try contradiction) <;> try (exfalso; omega))
        refine qC hI2 ?_
        repeat' (first | with_reducible refine Sq.go ?_ | ((with_reducible refine Ev.mk ?_); conv => whnf) | with_reducible refine Dr.mk ⟨by kernel_rfl, by kernel_rfl⟩ ?_ | with_reducible refine obG ?_ | with_reducible refine Ob.mk ?_ ?_ | (with_reducible first | refine brT fun h => ?_ | refine brF fun h => ?_ | refine Br.mk (fun h => ?_) fun h => ?_) <;> (try simp only [bsl, beq_iff_eq, bne_iff_ne, bs2] at h) <;> (try contradiction) <;> try (exfalso; omega))
        all_goals try exact h.elim (fun h => absurd h (nt a3)) (fun h => h.elim (fun h => absurd a5.1 h) (fun h => absurd a5.2 h))
        refine ⟨k + 1, ⟨by show k + 1 ≤ w.length; omega, hc⟩, by show w.length - (k + 1) < w.length - k; omega, ?_⟩
        repeat' (first | exact True.intro | exact rfl | exact Nat.le_refl _ | refine And.intro ?_ ?_)
        all_goals
          intro key hf
          have hs : (decide (key = [x]) || hasM w k key) = hasM w (k + 1) key := by rw [← hx]; exact hasM_succ hk2 key
          exact ⟨hs, fun hh => ⟨(mapT hh).trans (congrArg (fun b => AV.d (D.bool b)) (hh.symm.trans hs)), rfl⟩⟩
    · rw [drop_end (by simp; omega), List.all_nil, Bool.true_and] at hc
      rw [hc]
      repeat' (first | with_reducible refine Sq.go ?_ | ((with_reducible refine Ev.mk ?_); conv => whnf) | with_reducible refine Dr.mk ⟨by kernel_rfl, by kernel_rfl⟩ ?_ | with_reducible refine obG ?_ | with_reducible refine Ob.mk ?_ ?_ | (with_reducible first | refine brT fun h => ?_ | refine brF fun h => ?_ | refine Br.mk (fun h => ?_) fun h => ?_) <;> (try simp only [bsl, beq_iff_eq, bne_iff_ne, bs2] at h) <;> (try contradiction) <;> try (exfalso; omega))
      refine ⟨congrArg D.bool ?_, True.intro⟩
      exact decide_eq_decide.2 (by omega)
end Go.Proofs.Ytnhadilbebgbjaa
