/-
  Swaps: slices.Clip, Add by the program and by the reference.
-/
import Derived.Test.YtnhadilbebgbjaaSwapK
namespace Go.Ab
set_option linter.unusedSimpArgs false
set_option linter.unusedVariables false
section
variable {P : Program} {T : Tab} {m : Mem} {env : Env} {K : AV → Mem → Prop} {o : Oper}
theorem addr0 (a : Addr) : a.add 0 = a := by
  unfold Addr.add
  split <;> simp_all
/-- s[:n:n] of a slice of n elements: no room is left behind it. -/
theorem op_clip (hT : TabOk P T) {t : TypeId} {x h y : Operand} (hop : o.op = .slice t x none (some h) (some y)) {e : TypeId} {sz n : Nat} {f : Nat → List D} (he : elemOf T t = some (e, sz)) (hx : ev env x = .d (.sl sz n f)) {kh ky : IntKind} (hh : ev env h = .d (.int kh n)) (hy : ev env y = .d (.int ky n))
    (hK : K (.d (.slc sz n f)) m) : OpVC P o env m K :=
  ⟨fun c h => (by rw [hop] at h; cases h), fun a w F σ hev hm => by
    obtain ⟨hu, hs, _⟩ := elemOf_ok hT he
    have hel := elem_eq hu
    have hu' : P.underlying t = some (.slice (P.elem t)) := by rw [hel]; exact hu
    have hv := ev_ok hev x
    rw [hx] at hv
    have hvh := ev_ok hev h
    rw [hh] at hvh
    have hvh := hvh.int
    have hvy := ev_ok hev y
    rw [hy] at hvy
    have hvy := hvy.int
    obtain ⟨X, hX⟩ : ∃ X, a.eval x = X := ⟨_, rfl⟩
    rw [hX] at hv
    cases hv with
    | d hv =>
      have hv0 := hv
      cases hv with
      | @sl _ _ _ B cap a0 g hc hA hl hcell hrd =>
        have hsl : sliced B 0 n n sz = .slice B n n := by
          unfold sliced
          split
          · rfl
          · cases B with
            | none => rfl
            | some b => simp [addr0]
        refine ⟨_, .slice B n n, w, σ, F, _, _, ?_, .inl rfl, hK, .d (.slc ?_), hm, Step.refl σ F w, SLe.refl σ⟩
        · have hrun : (Instr.sliceAt t (a.eval x) none (some (a.eval h)) (some (a.eval y))).run P w = .ok (.slice B n n) w := by
            rw [hX, hvh, hvy, run_sliceAt_slice _ _ _ _ _ _ hu', run_slice_hm _ _ _ _ _ hu' _ _ _ _ (by omega) (by omega) (by omega), hel, hs]
            show Result.ok (sliced B 0 (n : Int).toNat (n : Int).toNat sz) w = _
            rw [Int.toNat_natCast, hsl]
          simp [execOp, hop, hrun]
        · exact .sl a0 g (Nat.le_refl _) hA hl hcell hrd⟩
end
end Go.Ab
namespace Go.Proofs.Ytnhadilbebgbjaa
set_option linter.unusedSimpArgs false
set_option linter.unusedVariables false
open Go Go.Ab
set_option maxRecDepth 100000
set_option maxHeartbeats 0
def cSwaps (xs : List Swap) : D := .slc 7 xs.length fun i => eSwap (xs.getD i default)
theorem clip_ok (l : List Swap) (hl : l.length ≤ 1000000) : Pure Try.prog 30 [eSwaps l] [cSwaps l] := by
  refine pure_rule hT (T := tab) (N := 9) (rs := [.tmp 2]) Try.func30 rfl rfl rfl (by kernel_rfl) rfl ?_
  repeat' (first | with_reducible refine Sq.go ?_ | ((with_reducible refine Ev.mk ?_); conv => whnf) | with_reducible refine Dr.mk ⟨by kernel_rfl, by kernel_rfl⟩ ?_ | with_reducible refine obG ?_ | with_reducible refine Ob.mk ?_ ?_ | (with_reducible first | refine brT fun h => ?_ | refine brF fun h => ?_ | refine Br.mk (fun h => ?_) fun h => ?_) <;> (try simp only [bsl, beq_iff_eq, bne_iff_ne, bs2] at h) <;> (try contradiction) <;> try (exfalso; omega))
  refine op_clip hT rfl rfl rfl rfl rfl ?_
  repeat' (first | with_reducible refine Sq.go ?_ | ((with_reducible refine Ev.mk ?_); conv => whnf) | with_reducible refine Dr.mk ⟨by kernel_rfl, by kernel_rfl⟩ ?_ | with_reducible refine obG ?_ | with_reducible refine Ob.mk ?_ ?_ | (with_reducible first | refine brT fun h => ?_ | refine brF fun h => ?_ | refine Br.mk (fun h => ?_) fun h => ?_) <;> (try simp only [bsl, beq_iff_eq, bne_iff_ne, bs2] at h) <;> (try contradiction) <;> try (exfalso; omega))
  exact ⟨rfl, True.intro⟩
theorem add_snoc (l : List Swap) (s : Swap) (i : Nat) (hi : i < (l ++ [s]).length) : joinF l.length (fun i => up (eSwap (l.getD i default))) (rowFn [up (eSwap s)]) i = up (eSwap ((l ++ [s]).getD i default)) := join_snoc eSwap l s _ rfl i hi
def addL (l : List Swap) (s : Swap) : List Swap := if chk30 l = 0 ∧ chk30 (l ++ [s]) = 0 then l ++ [s] else []
def addE (l : List Swap) (s : Swap) : Int := if chk30 l = 0 ∧ chk30 (l ++ [s]) = 0 then 0 else 300
theorem chk30_case (l : List Swap) : chk30 l = 0 ∨ chk30 l = 300 := by
  unfold chk30
  split
  · exact .inl rfl
  · exact .inr rfl
theorem add30_ok (l : List Swap) (s : Swap) (hl : l.length ≤ 1000) : Pure Try.prog 12 [eSwaps l, .agg (eSwap s)] [eSwaps (addL l s), .int .i64 (addE l s)] := by
  refine pure_rule hT (T := tab) (N := 24) (rs := [.tmp 4, .tmp 5]) Try.func12 rfl rfl rfl (by kernel_rfl) rfl ?_
  have hC := check30_ok l (by omega)
  have hC2 := check30_ok (l ++ [s]) (by rw [len_snoc]; omega)
  have hcl := clip_ok l (by omega)
  rcases chk30_case l with h1 | h1
  · rw [h1] at hC
    repeat' (first | with_reducible refine Sq.go ?_ | ((with_reducible refine Ev.mk ?_); conv => whnf) | with_reducible refine Dr.mk ⟨by kernel_rfl, by kernel_rfl⟩ ?_ | with_reducible refine obG ?_ | with_reducible refine Ob.mk ?_ ?_ | (with_reducible first | refine brT fun h => ?_ | refine brF fun h => ?_ | refine Br.mk (fun h => ?_) fun h => ?_) <;> (try simp only [bsl, beq_iff_eq, bne_iff_ne, bs2] at h) <;> (try contradiction) <;> try (exfalso; omega))
    refine hC.call ?_
    repeat' (first | with_reducible refine Sq.go ?_ | ((with_reducible refine Ev.mk ?_); conv => whnf) | with_reducible refine Dr.mk ⟨by kernel_rfl, by kernel_rfl⟩ ?_ | with_reducible refine obG ?_ | with_reducible refine Ob.mk ?_ ?_ | (with_reducible first | refine brT fun h => ?_ | refine brF fun h => ?_ | refine Br.mk (fun h => ?_) fun h => ?_) <;> (try simp only [bsl, beq_iff_eq, bne_iff_ne, bs2] at h) <;> (try contradiction) <;> try (exfalso; omega))
    refine qC hcl ?_
    repeat' (first | with_reducible refine Sq.go ?_ | ((with_reducible refine Ev.mk ?_); conv => whnf) | with_reducible refine Dr.mk ⟨by kernel_rfl, by kernel_rfl⟩ ?_ | with_reducible refine obG ?_ | with_reducible refine Ob.mk ?_ ?_ | (with_reducible first | refine brT fun h => ?_ | refine brF fun h => ?_ | refine Br.mk (fun h => ?_) fun h => ?_) <;> (try simp only [bsl, beq_iff_eq, bne_iff_ne, bs2] at h) <;> (try contradiction) <;> try (exfalso; omega))
    refine FrzR.mk (fun i => eSwap ((l ++ [s]).getD i default)) (fun i hi => add_snoc l s i (by rw [len_snoc]; exact hi)) ?_
    repeat' (first | with_reducible refine Sq.go ?_ | ((with_reducible refine Ev.mk ?_); conv => whnf) | with_reducible refine Dr.mk ⟨by kernel_rfl, by kernel_rfl⟩ ?_ | with_reducible refine obG ?_ | with_reducible refine Ob.mk ?_ ?_ | (with_reducible first | refine brT fun h => ?_ | refine brF fun h => ?_ | refine Br.mk (fun h => ?_) fun h => ?_) <;> (try simp only [bsl, beq_iff_eq, bne_iff_ne, bs2] at h) <;> (try contradiction) <;> try (exfalso; omega))
    rw [show eSwaps (l ++ [s]) = .sl 7 (l.length + 1) (fun i => eSwap ((l ++ [s]).getD i default)) by unfold eSwaps; rw [len_snoc]] at hC2
    rcases chk30_case (l ++ [s]) with h2 | h2
    · rw [h2] at hC2
      have e1 : addL l s = l ++ [s] := if_pos ⟨h1, h2⟩
      have e2 : addE l s = 0 := if_pos ⟨h1, h2⟩
      rw [e1, e2]
      refine hC2.call ?_
      repeat' (first | with_reducible refine Sq.go ?_ | ((with_reducible refine Ev.mk ?_); conv => whnf) | with_reducible refine Dr.mk ⟨by kernel_rfl, by kernel_rfl⟩ ?_ | with_reducible refine obG ?_ | with_reducible refine Ob.mk ?_ ?_ | (with_reducible first | refine brT fun h => ?_ | refine brF fun h => ?_ | refine Br.mk (fun h => ?_) fun h => ?_) <;> (try simp only [bsl, beq_iff_eq, bne_iff_ne, bs2] at h) <;> (try contradiction) <;> try (exfalso; omega))
      exact ⟨⟨rfl, by rw [len_snoc], fun i hi => rfl⟩, rfl, True.intro⟩
    · rw [h2] at hC2
      have e1 : addL l s = [] := if_neg (fun h => by rw [h2] at h; exact absurd h.2 (by decide))
      have e2 : addE l s = 300 := if_neg (fun h => by rw [h2] at h; exact absurd h.2 (by decide))
      rw [e1, e2]
      refine hC2.call ?_
      repeat' (first | with_reducible refine Sq.go ?_ | ((with_reducible refine Ev.mk ?_); conv => whnf) | with_reducible refine Dr.mk ⟨by kernel_rfl, by kernel_rfl⟩ ?_ | with_reducible refine obG ?_ | with_reducible refine Ob.mk ?_ ?_ | (with_reducible first | refine brT fun h => ?_ | refine brF fun h => ?_ | refine Br.mk (fun h => ?_) fun h => ?_) <;> (try simp only [bsl, beq_iff_eq, bne_iff_ne, bs2] at h) <;> (try contradiction) <;> try (exfalso; omega))
      exact ⟨rfl, rfl, True.intro⟩
  · rw [h1] at hC
    have e1 : addL l s = [] := if_neg (fun h => by rw [h1] at h; exact absurd h.1 (by decide))
    have e2 : addE l s = 300 := if_neg (fun h => by rw [h1] at h; exact absurd h.1 (by decide))
    rw [e1, e2]
    repeat' (first | with_reducible refine Sq.go ?_ | ((with_reducible refine Ev.mk ?_); conv => whnf) | with_reducible refine Dr.mk ⟨by kernel_rfl, by kernel_rfl⟩ ?_ | with_reducible refine obG ?_ | with_reducible refine Ob.mk ?_ ?_ | (with_reducible first | refine brT fun h => ?_ | refine brF fun h => ?_ | refine Br.mk (fun h => ?_) fun h => ?_) <;> (try simp only [bsl, beq_iff_eq, bne_iff_ne, bs2] at h) <;> (try contradiction) <;> try (exfalso; omega))
    refine hC.call ?_
    repeat' (first | with_reducible refine Sq.go ?_ | ((with_reducible refine Ev.mk ?_); conv => whnf) | with_reducible refine Dr.mk ⟨by kernel_rfl, by kernel_rfl⟩ ?_ | with_reducible refine obG ?_ | with_reducible refine Ob.mk ?_ ?_ | (with_reducible first | refine brT fun h => ?_ | refine brF fun h => ?_ | refine Br.mk (fun h => ?_) fun h => ?_) <;> (try simp only [bsl, beq_iff_eq, bne_iff_ne, bs2] at h) <;> (try contradiction) <;> try (exfalso; omega))
    exact ⟨rfl, rfl, True.intro⟩
theorem radd30_ok (l : List Swap) (s : Swap) (hl : l.length ≤ 1000) : Pure Try.prog 13 [eSwaps l, .agg (eSwap s)] [eSwaps (addL l s), .int .i64 (addE l s)] := by
  refine pure_rule hT (T := tab) (N := 22) (rs := [.tmp 4, .tmp 5]) Try.func13 rfl rfl rfl (by kernel_rfl) rfl ?_
  have hC := rcheck30_ok l (by omega)
  have hC2 := rcheck30_ok (l ++ [s]) (by rw [len_snoc]; omega)
  rw [show eSwaps (l ++ [s]) = .sl 7 (0 + l.length + 1) (fun i => eSwap ((l ++ [s]).getD i default)) by unfold eSwaps; rw [len_snoc, Nat.zero_add]] at hC2
  repeat' (first | with_reducible refine Sq.go ?_ | ((with_reducible refine Ev.mk ?_); conv => whnf) | with_reducible refine Dr.mk ⟨by kernel_rfl, by kernel_rfl⟩ ?_ | with_reducible refine obG ?_ | with_reducible refine Ob.mk ?_ ?_ | (with_reducible first | refine brT fun h => ?_ | refine brF fun h => ?_ | refine Br.mk (fun h => ?_) fun h => ?_) <;> (try simp only [bsl, beq_iff_eq, bne_iff_ne, bs2] at h) <;> (try contradiction) <;> try (exfalso; omega))
  refine FrzR.mk (fun i => eSwap ((l ++ [s]).getD i default)) (fun i hi => ?_) ?_
  · by_cases h1 : i < l.length
    · rw [joinF_lt (by omega), joinF_ge (Nat.zero_le _), Nat.sub_zero, getD_append_left h1]
    · have h2 : i = l.length := by omega
      subst h2
      rw [joinF_ge (by omega), getD_append_right (Nat.le_refl _), show l.length - (0 + l.length) = 0 by omega, Nat.sub_self]
      rfl
  rcases chk30_case l with h1 | h1
  · rw [h1] at hC
    rcases chk30_case (l ++ [s]) with h2 | h2
    · rw [h2] at hC2
      have e1 : addL l s = l ++ [s] := if_pos ⟨h1, h2⟩
      have e2 : addE l s = 0 := if_pos ⟨h1, h2⟩
      rw [e1, e2]
      repeat' (first | with_reducible refine Sq.go ?_ | ((with_reducible refine Ev.mk ?_); conv => whnf) | with_reducible refine Dr.mk ⟨by kernel_rfl, by kernel_rfl⟩ ?_ | with_reducible refine obG ?_ | with_reducible refine Ob.mk ?_ ?_ | (with_reducible first | refine brT fun h => ?_ | refine brF fun h => ?_ | refine Br.mk (fun h => ?_) fun h => ?_) <;> (try simp only [bsl, beq_iff_eq, bne_iff_ne, bs2] at h) <;> (try contradiction) <;> try (exfalso; omega))
      refine hC.call ?_
      repeat' (first | with_reducible refine Sq.go ?_ | ((with_reducible refine Ev.mk ?_); conv => whnf) | with_reducible refine Dr.mk ⟨by kernel_rfl, by kernel_rfl⟩ ?_ | with_reducible refine obG ?_ | with_reducible refine Ob.mk ?_ ?_ | (with_reducible first | refine brT fun h => ?_ | refine brF fun h => ?_ | refine Br.mk (fun h => ?_) fun h => ?_) <;> (try simp only [bsl, beq_iff_eq, bne_iff_ne, bs2] at h) <;> (try contradiction) <;> try (exfalso; omega))
      refine hC2.call ?_
      repeat' (first | with_reducible refine Sq.go ?_ | ((with_reducible refine Ev.mk ?_); conv => whnf) | with_reducible refine Dr.mk ⟨by kernel_rfl, by kernel_rfl⟩ ?_ | with_reducible refine obG ?_ | with_reducible refine Ob.mk ?_ ?_ | (with_reducible first | refine brT fun h => ?_ | refine brF fun h => ?_ | refine Br.mk (fun h => ?_) fun h => ?_) <;> (try simp only [bsl, beq_iff_eq, bne_iff_ne, bs2] at h) <;> (try contradiction) <;> try (exfalso; omega))
      exact ⟨⟨rfl, by rw [len_snoc, Nat.zero_add], fun i hi => rfl⟩, rfl, True.intro⟩
    · rw [h2] at hC2
      have e1 : addL l s = [] := if_neg (fun h => by rw [h2] at h; exact absurd h.2 (by decide))
      have e2 : addE l s = 300 := if_neg (fun h => by rw [h2] at h; exact absurd h.2 (by decide))
      rw [e1, e2]
      repeat' (first | with_reducible refine Sq.go ?_ | ((with_reducible refine Ev.mk ?_); conv => whnf) | with_reducible refine Dr.mk ⟨by kernel_rfl, by kernel_rfl⟩ ?_ | with_reducible refine obG ?_ | with_reducible refine Ob.mk ?_ ?_ | (with_reducible first | refine brT fun h => ?_ | refine brF fun h => ?_ | refine Br.mk (fun h => ?_) fun h => ?_) <;> (try simp only [bsl, beq_iff_eq, bne_iff_ne, bs2] at h) <;> (try contradiction) <;> try (exfalso; omega))
      refine hC.call ?_
      repeat' (first | with_reducible refine Sq.go ?_ | ((with_reducible refine Ev.mk ?_); conv => whnf) | with_reducible refine Dr.mk ⟨by kernel_rfl, by kernel_rfl⟩ ?_ | with_reducible refine obG ?_ | with_reducible refine Ob.mk ?_ ?_ | (with_reducible first | refine brT fun h => ?_ | refine brF fun h => ?_ | refine Br.mk (fun h => ?_) fun h => ?_) <;> (try simp only [bsl, beq_iff_eq, bne_iff_ne, bs2] at h) <;> (try contradiction) <;> try (exfalso; omega))
      refine hC2.call ?_
      repeat' (first | with_reducible refine Sq.go ?_ | ((with_reducible refine Ev.mk ?_); conv => whnf) | with_reducible refine Dr.mk ⟨by kernel_rfl, by kernel_rfl⟩ ?_ | with_reducible refine obG ?_ | with_reducible refine Ob.mk ?_ ?_ | (with_reducible first | refine brT fun h => ?_ | refine brF fun h => ?_ | refine Br.mk (fun h => ?_) fun h => ?_) <;> (try simp only [bsl, beq_iff_eq, bne_iff_ne, bs2] at h) <;> (try contradiction) <;> try (exfalso; omega))
      exact ⟨rfl, rfl, True.intro⟩
  · rw [h1] at hC
    have e1 : addL l s = [] := if_neg (fun h => by rw [h1] at h; exact absurd h.1 (by decide))
    have e2 : addE l s = 300 := if_neg (fun h => by rw [h1] at h; exact absurd h.1 (by decide))
    rw [e1, e2]
    repeat' (first | with_reducible refine Sq.go ?_ | ((with_reducible refine Ev.mk ?_); conv => whnf) | with_reducible refine Dr.mk ⟨by kernel_rfl, by kernel_rfl⟩ ?_ | with_reducible refine obG ?_ | with_reducible refine Ob.mk ?_ ?_ | (with_reducible first | refine brT fun h => ?_ | refine brF fun h => ?_ | refine Br.mk (fun h => ?_) fun h => ?_) <;> (try simp only [bsl, beq_iff_eq, bne_iff_ne, bs2] at h) <;> (try contradiction) <;> try (exfalso; omega))
    refine hC.call ?_
    repeat' (first | with_reducible refine Sq.go ?_ | ((with_reducible refine Ev.mk ?_); conv => whnf) | with_reducible refine Dr.mk ⟨by kernel_rfl, by kernel_rfl⟩ ?_ | with_reducible refine obG ?_ | with_reducible refine Ob.mk ?_ ?_ | (with_reducible first | refine brT fun h => ?_ | refine brF fun h => ?_ | refine Br.mk (fun h => ?_) fun h => ?_) <;> (try simp only [bsl, beq_iff_eq, bne_iff_ne, bs2] at h) <;> (try contradiction) <;> try (exfalso; omega))
    exact ⟨rfl, rfl, True.intro⟩
end Go.Proofs.Ytnhadilbebgbjaa
