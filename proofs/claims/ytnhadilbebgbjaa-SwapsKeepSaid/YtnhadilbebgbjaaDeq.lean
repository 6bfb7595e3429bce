/-
  Contracts at arguments that read the same.
-/
import Derived.Test.YtnhadilbebgbjaaBas
namespace Go.Proofs.Ytnhadilbebgbjaa
set_option linter.unusedSimpArgs false
set_option linter.unusedVariables false
open Go Go.Ab
/-- Data that may be said for others: a contract's arguments. -/
def DEqL : List D → List D → Prop
  | [], [] => True
  | x :: r, y :: s => DEq x y ∧ DEqL r s
  | _, _ => False
theorem DEqL.len : ∀ {xs ys : List D}, DEqL xs ys → xs.length = ys.length
  | [], [], _ => rfl
  | _ :: _, _ :: _, h => by simp [DEqL.len h.2]
  | [], _ :: _, h => h.elim
  | _ :: _, [], h => h.elim
theorem DEqL.at : ∀ {xs ys : List D}, DEqL xs ys → ∀ (j : Nat) y, ys[j]? = some y → ∃ x, xs[j]? = some x ∧ DEq x y
  | [], [], _, j, y, h => by simp at h
  | a :: r, b :: s, h, j, y, hy => by
    cases j with
    | zero => simp at hy; subst hy; exact ⟨a, by simp, h.1⟩
    | succ j => simpa using DEqL.at h.2 j y (by simpa using hy)
  | [], _ :: _, h, _, _, _ => h.elim
  | _ :: _, [], h, _, _, _ => h.elim
theorem deqP {P : Program} {f : FuncId} {ds dargs res : List D} (h : Pure P f dargs res) (ha : DEqL ds dargs) : Pure P f ds res :=
  ⟨h.1, fun F w vals hF hG hl hv => h.2 F w vals hF hG (by rw [hl, ha.len]) (fun j y u hy hu => by
    obtain ⟨x, hx, e⟩ := ha.at j y hy
    exact DEq.ok (hv j x u hx hu) e)⟩
theorem deqR {P : Program} {f : FuncId} {ds : List D} {r r' : List D} (h : Pure P f ds r) (e : r = r') : Pure P f ds r' := e ▸ h
theorem rfD {α : Type} [Inhabited α] (e : α → List D) (b : α) (f : Nat → List D) (h : f 0 = e b) (sz : Nat) : DEq (.sl sz 1 f) (.sl sz 1 fun i => e ([b].getD i default)) :=
  ⟨rfl, rfl, fun i hi => by rw [show i = 0 from Nat.lt_one_iff.1 hi]; exact h⟩
end Go.Proofs.Ytnhadilbebgbjaa
