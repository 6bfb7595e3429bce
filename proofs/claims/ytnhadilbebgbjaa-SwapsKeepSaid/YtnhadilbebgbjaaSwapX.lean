/-
  Swaps: sane.
-/
import Derived.Test.YtnhadilbebgbjaaSwapW
import Derived.Test.YtnhadilbebgbjaaFrz
namespace Go.Proofs.Ytnhadilbebgbjaa
set_option linter.unusedSimpArgs false
set_option linter.unusedVariables false
open Go Go.Ab
set_option maxRecDepth 100000
set_option maxHeartbeats 0
theorem swap_ok (st g t no : Int) : Pure Try.prog 28 [.int .i64 st, .int .i64 g, .int .i64 t, .int .i64 no] [.agg (eSwap ⟨st, ⟨g, -1⟩, ⟨t, -1⟩, 0, no⟩)] := by
  refine pure_rule hT (T := tab) (N := 16) (rs := [.cell 8 26]) Try.func28 rfl rfl rfl (by kernel_rfl) rfl ?_
  repeat' (first | with_reducible refine Sq.go ?_ | ((with_reducible refine Ev.mk ?_); conv => whnf) | with_reducible refine Dr.mk ⟨by kernel_rfl, by kernel_rfl⟩ ?_ | with_reducible refine obG ?_ | with_reducible refine Ob.mk ?_ ?_ | (with_reducible first | refine brT fun h => ?_ | refine brF fun h => ?_ | refine Br.mk (fun h => ?_) fun h => ?_) <;> (try simp only [bsl, beq_iff_eq, bne_iff_ne, bs2] at h) <;> (try contradiction) <;> try (exfalso; omega))
  refine (bundle30_ok g).call ?_
  repeat' (first | with_reducible refine Sq.go ?_ | ((with_reducible refine Ev.mk ?_); conv => whnf) | with_reducible refine Dr.mk ⟨by kernel_rfl, by kernel_rfl⟩ ?_ | with_reducible refine obG ?_ | with_reducible refine Ob.mk ?_ ?_ | (with_reducible first | refine brT fun h => ?_ | refine brF fun h => ?_ | refine Br.mk (fun h => ?_) fun h => ?_) <;> (try simp only [bsl, beq_iff_eq, bne_iff_ne, bs2] at h) <;> (try contradiction) <;> try (exfalso; omega))
  refine (bundle30_ok t).call ?_
  repeat' (first | with_reducible refine Sq.go ?_ | ((with_reducible refine Ev.mk ?_); conv => whnf) | with_reducible refine Dr.mk ⟨by kernel_rfl, by kernel_rfl⟩ ?_ | with_reducible refine obG ?_ | with_reducible refine Ob.mk ?_ ?_ | (with_reducible first | refine brT fun h => ?_ | refine brF fun h => ?_ | refine Br.mk (fun h => ?_) fun h => ?_) <;> (try simp only [bsl, beq_iff_eq, bne_iff_ne, bs2] at h) <;> (try contradiction) <;> try (exfalso; omega))
  exact ⟨Or.inl rfl, True.intro⟩
def sA : Swap := ⟨7, ⟨3, -1⟩, ⟨4, -1⟩, 0, 1⟩
def sB : Swap := ⟨8, ⟨4, -1⟩, ⟨3, -1⟩, 0, 2⟩
def sC : Swap := ⟨7, ⟨3, -1⟩, ⟨3, -1⟩, 0, 1⟩
def sD : Swap := ⟨7, ⟨3, -1⟩, ⟨5, -1⟩, 0, 9⟩
def tk0 : List Seat := [⟨7, 3, 1⟩, ⟨9, 3, -1⟩, ⟨8, 4, -1⟩]
def tk1 : List Seat := [⟨8, 3, 1⟩, ⟨9, 3, -1⟩, ⟨7, 4, -1⟩]
theorem sane30_ok : Pure Try.prog 10 [] [.bool true] := by
  have w1 := swap_ok 7 3 4 1
  have w2 := swap_ok 8 4 3 2
  have w3 := swap_ok 7 3 3 1
  have w4 := swap_ok 7 3 5 9
  have a1 := add30_ok [] sA (by decide)
  rw [show addL [] sA = [sA] by decide +kernel, show addE [] sA = 0 by decide +kernel] at a1
  have a2 := add30_ok [sA] sB (by decide)
  rw [show addL [sA] sB = [sA, sB] by decide +kernel, show addE [sA] sB = 0 by decide +kernel] at a2
  have a3 := add30_ok [] sC (by decide)
  rw [show addL [] sC = [] by decide +kernel, show addE [] sC = 300 by decide +kernel] at a3
  have a4 := add30_ok [sA] sD (by decide)
  rw [show addL [sA] sD = [] by decide +kernel, show addE [sA] sD = 300 by decide +kernel] at a4
  have y1 := cycle_ok [sA, sB] (by decide)
  rw [show cycW [sA, sB] = [0, 1] by decide +kernel, show cycB [sA, sB] = true by decide +kernel] at y1
  have y2 := cycle_ok [] (by decide)
  rw [show cycW [] = [] by decide +kernel, show cycB [] = false by decide +kernel] at y2
  have x1 := execute_ok tk0 (by decide) [sA, sB] (by decide) [0, 1] (by decide)
  rw [show exX tk0 [sA, sB] [0, 1] = tk1 by decide +kernel, show exR tk0 [sA, sB] [0, 1] = [] by decide +kernel, show exE tk0 [sA, sB] [0, 1] = 0 by decide +kernel] at x1
  have x2 := execute_ok [] (by decide) [] (by decide) [] (by decide)
  rw [show exX [] [] [] = [] by decide +kernel, show exR [] [] [] = [] by decide +kernel, show exE [] [] [] = 300 by decide +kernel] at x2
  have d1 := sameIn_ok [0, 1] [0, 1] (by decide) (by decide)
  rw [show decide (([0, 1] : List Int) = [0, 1]) = true by decide +kernel] at d1
  have d2 := sameSt_ok tk1 tk1 (by decide) (by decide)
  rw [show decide (tk1 = tk1) = true by decide +kernel] at d2
  have k1 := check30_ok [] (by decide)
  rw [show chk30 [] = 0 by decide +kernel] at k1
  have p1 := drop30_ok [sA, sB] (by decide) 7 ⟨3, -1⟩
  rw [show dropW 7 ⟨3, -1⟩ [sA, sB] = [sB] by decide +kernel] at p1
  have d3 := sameSw_ok [sB] [sB] (by decide) (by decide)
  rw [show decide ([sB] = [sB]) = true by decide +kernel] at d3
  refine pure_rule hT (T := tab) (N := 133) (rs := [.tmp 0]) Try.func10 rfl rfl rfl (by kernel_rfl) rfl ?_
  repeat' (first | with_reducible refine Sq.go ?_ | ((with_reducible refine Ev.mk ?_); conv => whnf) | with_reducible refine Dr.mk ⟨by kernel_rfl, by kernel_rfl⟩ ?_ | with_reducible refine obG ?_ | with_reducible refine Ob.mk ?_ ?_ | (with_reducible first | refine brT fun h => ?_ | refine brF fun h => ?_ | refine Br.mk (fun h => ?_) fun h => ?_) <;> (try simp only [bsl, beq_iff_eq, bne_iff_ne, bs2] at h) <;> (try contradiction) <;> try (exfalso; omega))
  refine w1.call ?_
  repeat' (first | with_reducible refine Sq.go ?_ | ((with_reducible refine Ev.mk ?_); conv => whnf) | with_reducible refine Dr.mk ⟨by kernel_rfl, by kernel_rfl⟩ ?_ | with_reducible refine obG ?_ | with_reducible refine Ob.mk ?_ ?_ | (with_reducible first | refine brT fun h => ?_ | refine brF fun h => ?_ | refine Br.mk (fun h => ?_) fun h => ?_) <;> (try simp only [bsl, beq_iff_eq, bne_iff_ne, bs2] at h) <;> (try contradiction) <;> try (exfalso; omega))
  refine w2.call ?_
  repeat' (first | with_reducible refine Sq.go ?_ | ((with_reducible refine Ev.mk ?_); conv => whnf) | with_reducible refine Dr.mk ⟨by kernel_rfl, by kernel_rfl⟩ ?_ | with_reducible refine obG ?_ | with_reducible refine Ob.mk ?_ ?_ | (with_reducible first | refine brT fun h => ?_ | refine brF fun h => ?_ | refine Br.mk (fun h => ?_) fun h => ?_) <;> (try simp only [bsl, beq_iff_eq, bne_iff_ne, bs2] at h) <;> (try contradiction) <;> try (exfalso; omega))
  refine (deqP (ds := [.nils, .agg (eSwap sA)]) a1 ⟨rfl, Or.inl rfl, True.intro⟩).call ?_
  repeat' (first | with_reducible refine Sq.go ?_ | ((with_reducible refine Ev.mk ?_); conv => whnf) | with_reducible refine Dr.mk ⟨by kernel_rfl, by kernel_rfl⟩ ?_ | with_reducible refine obG ?_ | with_reducible refine Ob.mk ?_ ?_ | (with_reducible first | refine brT fun h => ?_ | refine brF fun h => ?_ | refine Br.mk (fun h => ?_) fun h => ?_) <;> (try simp only [bsl, beq_iff_eq, bne_iff_ne, bs2] at h) <;> (try contradiction) <;> try (exfalso; omega))
  refine a2.call ?_
  repeat' (first | with_reducible refine Sq.go ?_ | ((with_reducible refine Ev.mk ?_); conv => whnf) | with_reducible refine Dr.mk ⟨by kernel_rfl, by kernel_rfl⟩ ?_ | with_reducible refine obG ?_ | with_reducible refine Ob.mk ?_ ?_ | (with_reducible first | refine brT fun h => ?_ | refine brF fun h => ?_ | refine Br.mk (fun h => ?_) fun h => ?_) <;> (try simp only [bsl, beq_iff_eq, bne_iff_ne, bs2] at h) <;> (try contradiction) <;> try (exfalso; omega))
  refine y1.call ?_
  repeat' (first | with_reducible refine Sq.go ?_ | ((with_reducible refine Ev.mk ?_); conv => whnf) | with_reducible refine Dr.mk ⟨by kernel_rfl, by kernel_rfl⟩ ?_ | with_reducible refine obG ?_ | with_reducible refine Ob.mk ?_ ?_ | (with_reducible first | refine brT fun h => ?_ | refine brF fun h => ?_ | refine Br.mk (fun h => ?_) fun h => ?_) <;> (try simp only [bsl, beq_iff_eq, bne_iff_ne, bs2] at h) <;> (try contradiction) <;> try (exfalso; omega))
  refine CallVC.frz [2] (dargs := [eSeats tk0, eSwaps [sA, sB], eInts [0, 1]]) ⟨.rows rfl (Nat.le_refl _) (fun i hi => ?_), .d, .d, True.intro⟩ (x1.call ?_)
  · rcases show i = 0 ∨ i = 1 ∨ i = 2 by omega with rfl | rfl | rfl <;> rfl
  repeat' (first | with_reducible refine Sq.go ?_ | ((with_reducible refine Ev.mk ?_); conv => whnf) | with_reducible refine Dr.mk ⟨by kernel_rfl, by kernel_rfl⟩ ?_ | with_reducible refine obG ?_ | with_reducible refine Ob.mk ?_ ?_ | (with_reducible first | refine brT fun h => ?_ | refine brF fun h => ?_ | refine Br.mk (fun h => ?_) fun h => ?_) <;> (try simp only [bsl, beq_iff_eq, bne_iff_ne, bs2] at h) <;> (try contradiction) <;> try (exfalso; omega))
  refine (deqP (ds := [.nils]) y2 ⟨rfl, True.intro⟩).call ?_
  repeat' (first | with_reducible refine Sq.go ?_ | ((with_reducible refine Ev.mk ?_); conv => whnf) | with_reducible refine Dr.mk ⟨by kernel_rfl, by kernel_rfl⟩ ?_ | with_reducible refine obG ?_ | with_reducible refine Ob.mk ?_ ?_ | (with_reducible first | refine brT fun h => ?_ | refine brF fun h => ?_ | refine Br.mk (fun h => ?_) fun h => ?_) <;> (try simp only [bsl, beq_iff_eq, bne_iff_ne, bs2] at h) <;> (try contradiction) <;> try (exfalso; omega))
  refine w3.call ?_
  repeat' (first | with_reducible refine Sq.go ?_ | ((with_reducible refine Ev.mk ?_); conv => whnf) | with_reducible refine Dr.mk ⟨by kernel_rfl, by kernel_rfl⟩ ?_ | with_reducible refine obG ?_ | with_reducible refine Ob.mk ?_ ?_ | (with_reducible first | refine brT fun h => ?_ | refine brF fun h => ?_ | refine Br.mk (fun h => ?_) fun h => ?_) <;> (try simp only [bsl, beq_iff_eq, bne_iff_ne, bs2] at h) <;> (try contradiction) <;> try (exfalso; omega))
  refine (deqP (ds := [.nils, .agg (eSwap sC)]) a3 ⟨rfl, Or.inl rfl, True.intro⟩).call ?_
  repeat' (first | with_reducible refine Sq.go ?_ | ((with_reducible refine Ev.mk ?_); conv => whnf) | with_reducible refine Dr.mk ⟨by kernel_rfl, by kernel_rfl⟩ ?_ | with_reducible refine obG ?_ | with_reducible refine Ob.mk ?_ ?_ | (with_reducible first | refine brT fun h => ?_ | refine brF fun h => ?_ | refine Br.mk (fun h => ?_) fun h => ?_) <;> (try simp only [bsl, beq_iff_eq, bne_iff_ne, bs2] at h) <;> (try contradiction) <;> try (exfalso; omega))
  refine (deqP (ds := [.nils, .nils, .nils]) x2 ⟨rfl, rfl, rfl, True.intro⟩).call ?_
  repeat' (first | with_reducible refine Sq.go ?_ | ((with_reducible refine Ev.mk ?_); conv => whnf) | with_reducible refine Dr.mk ⟨by kernel_rfl, by kernel_rfl⟩ ?_ | with_reducible refine obG ?_ | with_reducible refine Ob.mk ?_ ?_ | (with_reducible first | refine brT fun h => ?_ | refine brF fun h => ?_ | refine Br.mk (fun h => ?_) fun h => ?_) <;> (try simp only [bsl, beq_iff_eq, bne_iff_ne, bs2] at h) <;> (try contradiction) <;> try (exfalso; omega))
  refine qC w4 ?_
  repeat' (first | with_reducible refine Sq.go ?_ | ((with_reducible refine Ev.mk ?_); conv => whnf) | with_reducible refine Dr.mk ⟨by kernel_rfl, by kernel_rfl⟩ ?_ | with_reducible refine obG ?_ | with_reducible refine Ob.mk ?_ ?_ | (with_reducible first | refine brT fun h => ?_ | refine brF fun h => ?_ | refine Br.mk (fun h => ?_) fun h => ?_) <;> (try simp only [bsl, beq_iff_eq, bne_iff_ne, bs2] at h) <;> (try contradiction) <;> try (exfalso; omega))
  refine qC (deqP (ds := [.sl 7 1 (rowFnD [eSwap sA]), .agg (eSwap sD)]) a4 ⟨⟨rfl, rfl, fun i hi => by rw [show i = 0 from Nat.lt_one_iff.1 hi]; rfl⟩, Or.inl rfl, True.intro⟩) ?_
  repeat' (first | ((with_reducible refine Ev.mk ?_); conv => whnf) | with_reducible refine Dr.mk ⟨by kernel_rfl, by kernel_rfl⟩ ?_ | with_reducible refine obG ?_ | with_reducible refine Ob.mk ?_ ?_ | (with_reducible first | refine brT fun h => ?_ | refine brF fun h => ?_ | refine Br.mk (fun h => ?_) fun h => ?_) <;> (try simp only [bsl, beq_iff_eq, bne_iff_ne, bs2] at h) <;> (try contradiction) <;> try (exfalso; omega))
  refine Sq.go ?_
  repeat' (first | ((with_reducible refine Ev.mk ?_); conv => whnf) | with_reducible refine Dr.mk ⟨by kernel_rfl, by kernel_rfl⟩ ?_ | with_reducible refine obG ?_ | with_reducible refine Ob.mk ?_ ?_ | (with_reducible first | refine brT fun h => ?_ | refine brF fun h => ?_ | refine Br.mk (fun h => ?_) fun h => ?_) <;> (try simp only [bsl, beq_iff_eq, bne_iff_ne, bs2] at h) <;> (try contradiction) <;> try (exfalso; omega))
  refine Sq.alt (Awp.frz [3] 21 (eSeats tk1) (.rows rfl (Nat.le_refl _) (fun i hi => ?_)) (vc_ok hT _ _ _ _ (Ev.o ?_)))
  · have hi : i < 3 := hi
    rcases show i = 0 ∨ i = 1 ∨ i = 2 by omega with rfl | rfl | rfl <;> rfl
  repeat' (first | with_reducible refine Sq.go ?_ | ((with_reducible refine Ev.mk ?_); conv => whnf) | with_reducible refine Dr.mk ⟨by kernel_rfl, by kernel_rfl⟩ ?_ | with_reducible refine obG ?_ | with_reducible refine Ob.mk ?_ ?_ | (with_reducible first | refine brT fun h => ?_ | refine brF fun h => ?_ | refine Br.mk (fun h => ?_) fun h => ?_) <;> (try simp only [bsl, beq_iff_eq, bne_iff_ne, bs2] at h) <;> (try contradiction) <;> try (exfalso; omega))
  refine qC (deqP (ds := [eInts [0, 1], .sl 1 2 (rowFnD [[.int .i64 0], [.int .i64 1]])]) d1 ⟨⟨rfl, rfl, fun i hi => rfl⟩, ⟨rfl, rfl, fun i hi => by
    have hi : i < 2 := hi
    rcases show i = 0 ∨ i = 1 by omega with rfl | rfl <;> rfl⟩, True.intro⟩) ?_
  repeat' (first | with_reducible refine Sq.go ?_ | ((with_reducible refine Ev.mk ?_); conv => whnf) | with_reducible refine Dr.mk ⟨by kernel_rfl, by kernel_rfl⟩ ?_ | with_reducible refine obG ?_ | with_reducible refine Ob.mk ?_ ?_ | (with_reducible first | refine brT fun h => ?_ | refine brF fun h => ?_ | refine Br.mk (fun h => ?_) fun h => ?_) <;> (try simp only [bsl, beq_iff_eq, bne_iff_ne, bs2] at h) <;> (try contradiction) <;> try (exfalso; omega))
  refine qC d2 ?_
  repeat' (first | with_reducible refine Sq.go ?_ | ((with_reducible refine Ev.mk ?_); conv => whnf) | with_reducible refine Dr.mk ⟨by kernel_rfl, by kernel_rfl⟩ ?_ | with_reducible refine obG ?_ | with_reducible refine Ob.mk ?_ ?_ | (with_reducible first | refine brT fun h => ?_ | refine brF fun h => ?_ | refine Br.mk (fun h => ?_) fun h => ?_) <;> (try simp only [bsl, beq_iff_eq, bne_iff_ne, bs2] at h) <;> (try contradiction) <;> try (exfalso; omega))
  refine qC (deqP (ds := [.nils]) k1 ⟨rfl, True.intro⟩) ?_
  repeat' (first | with_reducible refine Sq.go ?_ | ((with_reducible refine Ev.mk ?_); conv => whnf) | with_reducible refine Dr.mk ⟨by kernel_rfl, by kernel_rfl⟩ ?_ | with_reducible refine obG ?_ | with_reducible refine Ob.mk ?_ ?_ | (with_reducible first | refine brT fun h => ?_ | refine brF fun h => ?_ | refine Br.mk (fun h => ?_) fun h => ?_) <;> (try simp only [bsl, beq_iff_eq, bne_iff_ne, bs2] at h) <;> (try contradiction) <;> try (exfalso; omega))
  refine qC (bundle30_ok 3) ?_
  repeat' (first | with_reducible refine Sq.go ?_ | ((with_reducible refine Ev.mk ?_); conv => whnf) | with_reducible refine Dr.mk ⟨by kernel_rfl, by kernel_rfl⟩ ?_ | with_reducible refine obG ?_ | with_reducible refine Ob.mk ?_ ?_ | (with_reducible first | refine brT fun h => ?_ | refine brF fun h => ?_ | refine Br.mk (fun h => ?_) fun h => ?_) <;> (try simp only [bsl, beq_iff_eq, bne_iff_ne, bs2] at h) <;> (try contradiction) <;> try (exfalso; omega))
  refine qC p1 ?_
  repeat' (first | with_reducible refine Sq.go ?_ | ((with_reducible refine Ev.mk ?_); conv => whnf) | with_reducible refine Dr.mk ⟨by kernel_rfl, by kernel_rfl⟩ ?_ | with_reducible refine obG ?_ | with_reducible refine Ob.mk ?_ ?_ | (with_reducible first | refine brT fun h => ?_ | refine brF fun h => ?_ | refine Br.mk (fun h => ?_) fun h => ?_) <;> (try simp only [bsl, beq_iff_eq, bne_iff_ne, bs2] at h) <;> (try contradiction) <;> try (exfalso; omega))
  refine qC (deqP (ds := [eSwaps [sB], .sl 7 1 (rowFnD [eSwap sB])]) d3 ⟨⟨rfl, rfl, fun i hi => rfl⟩, ⟨rfl, rfl, fun i hi => by rw [show i = 0 from Nat.lt_one_iff.1 hi]; rfl⟩, True.intro⟩) ?_
  repeat' (first | with_reducible refine Sq.go ?_ | ((with_reducible refine Ev.mk ?_); conv => whnf) | with_reducible refine Dr.mk ⟨by kernel_rfl, by kernel_rfl⟩ ?_ | with_reducible refine obG ?_ | with_reducible refine Ob.mk ?_ ?_ | (with_reducible first | refine brT fun h => ?_ | refine brF fun h => ?_ | refine Br.mk (fun h => ?_) fun h => ?_) <;> (try simp only [bsl, beq_iff_eq, bne_iff_ne, bs2] at h) <;> (try contradiction) <;> try (exfalso; omega))
  exact ⟨rfl, True.intro⟩
end Go.Proofs.Ytnhadilbebgbjaa
