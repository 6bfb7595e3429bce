/-
  Operations, part E: shifts and masks behind a guard.
-/
import Derived.Test.YtfbjlakcolipaaaDoorOpsD
namespace Go.Ab
set_option linter.unusedSimpArgs false
set_option linter.unusedVariables false
section
variable {P : Program} {T : Tab} {N : Nat} {w : World} {F : Nat → Prop} {σ : Pls} {m : Mem} {env : Env} {K : AV → Mem → Prop} {o : Oper}
theorem op_shr' {t t' : TypeId} {x y : Operand} (hop : o.op = .binOp .shr t x y t') {k ky : IntKind} {n b : Int} {px py : List Prop} (hx : strip (ev env x) = (.d (.int k n), px)) (hpx : ∀ p ∈ px, p) (hy : strip (ev env y) = (.d (.int ky b), py)) (hpy : ∀ p ∈ py, p) (hb : 0 ≤ b)
    (hK : K (.d (.int k (n.fdiv (2 ^ min b.toNat k.bits)))) m) : OpVC P o env m K :=
  ⟨fun c h => (by rw [hop] at h; cases h), fun a w F σ hev hm => by
    have hv := strip_ok (ev_ok hev x) (by rw [hx]; exact hpx)
    rw [hx] at hv
    have hv := hv.int
    have hw := strip_ok (ev_ok hev y) (by rw [hy]; exact hpy)
    rw [hy] at hw
    have hw := hw.int
    refine ⟨_, .int k (n.fdiv (2 ^ min b.toNat k.bits)), w, σ, F, _, _, ?_, .inl rfl, hK, .d .int, hm, Step.same σ F w, SLe.refl σ⟩
    have hb' : ¬ b < 0 := by omega
    simp [execOp, hop, hv, hw, binOp, Op.shift, hb', eqGuard]⟩
theorem op_and' {t t' : TypeId} {x y : Operand} (hop : o.op = .binOp .and t x y t') {k : IntKind} {n b : Int} {px : List Prop} (hx : strip (ev env x) = (.d (.int k n), px)) (hpx : ∀ p ∈ px, p) (hy : ev env y = .d (.int k b)) (hK : K (.d (.int k (k.wrap ((BitVec.ofInt k.bits n &&& BitVec.ofInt k.bits b).toNat : Int)))) m) : OpVC P o env m K :=
  ⟨fun c h => (by rw [hop] at h; cases h), fun a w F σ hev hm => by
    have hv := strip_ok (ev_ok hev x) (by rw [hx]; exact hpx)
    rw [hx] at hv
    have hv := hv.int
    have hw := ev_ok hev y
    rw [hy] at hw
    have hw := hw.int
    refine ⟨_, .int k (k.wrap ((BitVec.ofInt k.bits n &&& BitVec.ofInt k.bits b).toNat : Int)), w, σ, F, _, _, ?_, .inl rfl, hK, .d .int, hm, Step.same σ F w, SLe.refl σ⟩
    simp [execOp, hop, hv, hw, binOp, Op.intBits, eqGuard]⟩
end
end Go.Ab
