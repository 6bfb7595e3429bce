/-
  Operations, part C: integers converted, shifted to the right, masked.
-/
import Derived.Test.YtnhadilbebgbjaaOpsB
namespace Go.Ab
set_option linter.unusedSimpArgs false
set_option linter.unusedVariables false
section
variable {P : Program} {T : Tab} {N : Nat} {w : World} {F : Nat → Prop} {σ : Pls} {m : Mem} {env : Env} {K : AV → Mem → Prop} {o : Oper}
theorem Step.same (σ : Pls) (F : Nat → Prop) (w : World) : Step σ F w σ F w :=
  ⟨rfl, rfl, rfl, Nat.le_refl _, Nat.le_refl _, fun _ _ _ => rfl, fun _ h => h, fun _ h => .inl h, fun _ h => .inl h⟩
theorem op_convert {s t : TypeId} {x : Operand} (hop : o.op = .convert s t x) {k k' : IntKind} (hs : P.underlying s = some (.int k)) (ht : P.underlying t = some (.int k')) {n : Int} (hx : ev env x = .d (.int k n)) (hK : K (.d (.int k' (k'.wrap n))) m) : OpVC P o env m K :=
  ⟨fun c h => (by rw [hop] at h; cases h), fun a w F σ hev hm => by
    have hv := ev_ok hev x
    rw [hx] at hv
    have hv := hv.int
    refine ⟨_, .int k' (k'.wrap n), w, σ, F, _, _, ?_, .inl rfl, hK, .d .int, hm, Step.same σ F w, SLe.refl σ⟩
    simp [execOp, hop, hv, convert, run_underlying hs, run_underlying ht, Conv.intToInt]⟩
theorem op_shr {t t' : TypeId} {x y : Operand} (hop : o.op = .binOp .shr t x y t') {k ky : IntKind} {n b : Int} (hx : ev env x = .d (.int k n)) (hy : ev env y = .d (.int ky b)) (hb : 0 ≤ b) (hK : K (.d (.int k (n.fdiv (2 ^ min b.toNat k.bits)))) m) : OpVC P o env m K :=
  ⟨fun c h => (by rw [hop] at h; cases h), fun a w F σ hev hm => by
    have hv := ev_ok hev x
    rw [hx] at hv
    have hv := hv.int
    have hw := ev_ok hev y
    rw [hy] at hw
    have hw := hw.int
    refine ⟨_, .int k (n.fdiv (2 ^ min b.toNat k.bits)), w, σ, F, _, _, ?_, .inl rfl, hK, .d .int, hm, Step.same σ F w, SLe.refl σ⟩
    have hb' : ¬ b < 0 := by omega
    simp [execOp, hop, hv, hw, binOp, Op.shift, hb', eqGuard]⟩
theorem op_and {t t' : TypeId} {x y : Operand} (hop : o.op = .binOp .and t x y t') {k : IntKind} {n b : Int} (hx : ev env x = .d (.int k n)) (hy : ev env y = .d (.int k b)) (hK : K (.d (.int k (k.wrap ((BitVec.ofInt k.bits n &&& BitVec.ofInt k.bits b).toNat : Int)))) m) : OpVC P o env m K :=
  ⟨fun c h => (by rw [hop] at h; cases h), fun a w F σ hev hm => by
    have hv := ev_ok hev x
    rw [hx] at hv
    have hv := hv.int
    have hw := ev_ok hev y
    rw [hy] at hw
    have hw := hw.int
    refine ⟨_, .int k (k.wrap ((BitVec.ofInt k.bits n &&& BitVec.ofInt k.bits b).toNat : Int)), w, σ, F, _, _, ?_, .inl rfl, hK, .d .int, hm, Step.same σ F w, SLe.refl σ⟩
    simp [execOp, hop, hv, hw, binOp, Op.intBits, eqGuard]⟩
/-- x == nil, of a slice that is data: either way if it is empty. -/
theorem op_isnil {t t' : TypeId} {x y : Operand} (hop : o.op = .binOp .eql t x y t') {e : TypeId} (ht : P.underlying t = some (.slice e)) (hy0 : y = .const (.slice none 0 0)) {sz n : Nat} {f : Nat → List D} (hx : ev env x = .d (.sl sz n f)) (hK : ∀ b : Bool, (b = true → n = 0) → K (.d (.bool b)) m) : OpVC P o env m K :=
  ⟨fun c h => (by rw [hop] at h; cases h), fun a w F σ hev hm => by
    have hv := ev_ok hev x
    rw [hx] at hv
    obtain ⟨A, cap, hval, hA⟩ : ∃ A cap, a.eval x = .slice A n cap ∧ (A = none → n = 0) := by
      cases hv with
      | d h =>
        generalize hvv : a.eval x = v at h
        cases h with
        | sl a0 g hc ha hl hcell h =>
          refine ⟨_, _, rfl, fun hn => ?_⟩
          by_cases h0 : 0 < n
          · have := (ha h0).1
            rw [hn] at this
            cases this
          · omega
    refine ⟨_, .bool A.isNone, w, σ, F, .d (.bool A.isNone), _, ?_, .inl rfl, hK A.isNone (fun h => hA (by simpa using h)), .d .bool, hm, Step.same σ F w, SLe.refl σ⟩
    subst hy0
    have hcst : a.eval (.const (.slice none 0 0)) = .slice none 0 0 := rfl
    have he : (Op.equalIn Op.maxDepth t (.slice A n cap) (.slice none 0 0)).run P w = .ok A.isNone w := by
      rw [show Op.maxDepth = (Op.maxDepth - 1) + 1 from rfl]
      cases A with
      | none => simp [Op.equalIn, run_underlying ht]
      | some A => simp [Op.equalIn, run_underlying ht]
    cases A with
    | none => simp [execOp, hop, hval, hcst, binOp, eqGuard, Op.equal, he]
    | some A => simp [execOp, hop, hval, hcst, binOp, eqGuard, Op.equal, he]⟩
/-- &p[i], of a pointer to an array that is data. -/
theorem op_idx_pt (hT : TabOk P T) {t : TypeId} {x i : Operand} (hop : o.op = .indexAddr t x i) {n : Nat} {e : TypeId} (ha : arrOf T t = some (n, e)) {cs : List D} {off : Nat} (hx : ev env x = .d (.pt cs off)) {ki : IntKind} {k : Int} (hi : ev env i = .d (.int ki k)) (h0 : 0 ≤ k) (h1 : k < n) (hK : K (.d (.pt cs (off + k.toNat))) m) : OpVC P o env m K :=
  ⟨fun c h => (by rw [hop] at h; cases h), fun a w F σ hev hm => by
    obtain ⟨hu, hs, _⟩ := arrOf_ok hT ha
    have hv := ev_ok hev x
    rw [hx] at hv
    have hvi := ev_ok hev i
    rw [hi] at hvi
    have hvi := hvi.int
    cases hv with
    | d h =>
      generalize hvv : a.eval x = v at h
      cases h with
      | pt a0 g hF hcell hr =>
        refine ⟨_, .pointer (some (a0.add (off + k.toNat))), w, σ, F, _, _, ?_, .inl rfl, hK, .d (.pt a0 g hF hcell hr), hm, Step.same σ F w, SLe.refl σ⟩
        have hadd : (a0.add off).add k.toNat = a0.add (off + k.toNat) := by
          obtain ⟨j, hj⟩ : ∃ j, k.toNat = j := ⟨_, rfl⟩
          rw [hj]
          unfold Addr.add
          by_cases h3 : off = 0 <;> by_cases h4 : j = 0 <;> simp [h3, h4, Nat.add_assoc]
        simp [execOp, hop, hvv, hvi, Instr.indexAt, run_underlying hu, asIntOf, h0, h1, hs, Instr.sureAddr, hadd]⟩
end
end Go.Ab
