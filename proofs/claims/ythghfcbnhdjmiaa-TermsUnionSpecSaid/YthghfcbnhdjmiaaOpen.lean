/-
  Chapter 6: the arguments of the laws, as data.
-/
import Derived.Test.YthghfcbnhdjmiaaTermsA
import Derived.Test.YthghfcbnhdjmiaaChecked
import Derived.Test.YthghfcbnhdjmiaaEngT
namespace Go.Proofs.Ythghfcbnhdjmiaa
set_option linter.unusedSimpArgs false
set_option linter.unusedVariables false
open Go Go.Ab
open Go.ChangeShapes Go.WideShapes Go.ChangeAt Go.RowKit
set_option maxRecDepth 100000
theorem own : ownKnob Try.prog.godebug = none := by kernel_rfl
theorem laidOut : laidOutB Try.prog = true := by kernel_rfl
def unSpan : List D → Span
  | [.int _ a, .int _ b] => ⟨a, b⟩
  | _ => default
theorem ofTy_int {n : Nat} {ds : List D} (h : OfTy Try.prog (n + 1) 3 ds) : ∃ i : Int, ds = [.int .i64 i] := by
  simp only [OfTy, Try.underlying3] at h
  obtain ⟨i, rfl, -⟩ := h
  exact ⟨i, rfl⟩
theorem ofTy_span {n : Nat} {ds : List D} (h : OfTy Try.prog (n + 2) 35 ds) : ds = eSpan (unSpan ds) := by
  rw [OfTy] at h
  simp only [Try.underlying35] at h
  obtain ⟨ps, rfl, hl, hf⟩ := h
  match ps, hl with
  | [p, q], _ =>
    obtain ⟨a, rfl⟩ := ofTy_int (hf 0 _ p rfl rfl)
    obtain ⟨b, rfl⟩ := ofTy_int (hf 1 _ q rfl rfl)
    rfl
theorem ofTy_spans {x : D} (h : OfTy Try.prog 4 22 [x]) : ∃ xs : List Span, DEq x (eSpans xs) := by
  rw [OfTy] at h
  simp only [Try.underlying22] at h
  obtain ⟨k, f, he, -, hf⟩ := h
  cases he
  refine ⟨(List.range k).map fun i => unSpan (f i), by kernel_rfl, by simp, fun i hi => ?_⟩
  have hi' : i < k := by simpa using hi
  rw [ofTy_span (hf i hi')]
  simp [hi']
theorem open_spans {w : World} {base : Nat} {H : Type} {enc : TypeId × Value → H} {v : Value} {d : DataW H} {p : List MemPlace} (hv : Value.okWide Try.prog w .any base 22 v)
    (h : DataW.Trod enc Try.prog w 0 (fun _ => true) true 22 v d p) : ∃ xs : List Span, Rd w (· < w.heap.size) (eSpans xs) v := by
  obtain ⟨ds, h1, -, h2, -⟩ := rd_arg laidOut (n := 4) (of_decide_eq_true (by kernel_rfl)) (by kernel_rfl) hv h
  obtain ⟨x, rfl, hr⟩ := h2 (fun fs hf => by rw [Try.underlying22] at hf; cases hf)
  obtain ⟨xs, hx⟩ := ofTy_spans h1
  exact ⟨xs, DEq.ok hr hx⟩
theorem open_i64 {w : World} {base : Nat} {H : Type} {enc : TypeId × Value → H} {v : Value} {d : DataW H} {p : List MemPlace} (hv : Value.okWide Try.prog w .any base 3 v)
    (h : DataW.Trod enc Try.prog w 0 (fun _ => true) true 3 v d p) : ∃ i : Int, Rd w (· < w.heap.size) (.int .i64 i) v := by
  obtain ⟨n, rfl, -⟩ := open_int Try.underlying3 hv h
  exact ⟨n, .int⟩
theorem args2 {w : World} {x0 x1 : D} {v0 v1 : Value} (h0 : Rd w (· < w.heap.size) x0 v0) (h1 : Rd w (· < w.heap.size) x1 v1) : ∀ (j : Nat) x u, [x0, x1][j]? = some x → [v0, v1][j]? = some u → Rd w (· < w.heap.size) x u
  | 0, _, _, hx, hu => by cases hx; cases hu; exact h0
  | 1, _, _, hx, hu => by cases hx; cases hu; exact h1
  | _ + 2, _, _, hx, _ => by simp at hx
theorem args3 {w : World} {x0 x1 x2 : D} {v0 v1 v2 : Value} (h0 : Rd w (· < w.heap.size) x0 v0) (h1 : Rd w (· < w.heap.size) x1 v1) (h2 : Rd w (· < w.heap.size) x2 v2) : ∀ (j : Nat) x u, [x0, x1, x2][j]? = some x → [v0, v1, v2][j]? = some u → Rd w (· < w.heap.size) x u
  | 0, _, _, hx, hu => by cases hx; cases hu; exact h0
  | 1, _, _, hx, hu => by cases hx; cases hu; exact h1
  | 2, _, _, hx, hu => by cases hx; cases hu; exact h2
  | _ + 3, _, _, hx, _ => by simp at hx
end Go.Proofs.Ythghfcbnhdjmiaa
