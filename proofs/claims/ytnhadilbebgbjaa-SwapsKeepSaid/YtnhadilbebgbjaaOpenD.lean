/-
  Chapter 30: the arguments of the laws, as data.
-/
import Derived.Test.YtnhadilbebgbjaaBas
import Derived.Test.YtnhadilbebgbjaaSwapA
import Derived.Test.YtnhadilbebgbjaaChecked
import Derived.Test.YtnhadilbebgbjaaEngAG
namespace Go.Proofs.Ytnhadilbebgbjaa
set_option linter.unusedSimpArgs false
set_option linter.unusedVariables false
open Go Go.Ab
open Go.ChangeShapes Go.WideShapes Go.ChangeAt Go.RowKit
set_option maxRecDepth 100000
theorem own : ownKnob Try.prog.godebug = none := by kernel_rfl
theorem laidOut : laidOutB Try.prog = true := by kernel_rfl
def eI (n : Int) : List D := [.int .i64 n]
def unInt : List D → Int
  | [.int _ a] => a
  | _ => default
def unBun : List D → Bun
  | [.int _ a, .int _ b] => ⟨a, b⟩
  | _ => default
theorem ofTy_int {n : Nat} {ds : List D} (h : OfTy Try.prog (n + 1) 3 ds) : ∃ i : Int, ds = [.int .i64 i] := by
  simp only [OfTy, Try.underlying3] at h
  obtain ⟨i, rfl, -⟩ := h
  exact ⟨i, rfl⟩
theorem ofTy_int' {n : Nat} {ds : List D} (h : OfTy Try.prog (n + 1) 3 ds) : ds = eI (unInt ds) := by
  obtain ⟨i, rfl⟩ := ofTy_int h
  rfl
theorem ofTy_bun {n : Nat} {ds : List D} (h : OfTy Try.prog (n + 2) 24 ds) : ds = eBun (unBun ds) := by
  rw [OfTy] at h
  simp only [Try.underlying24] at h
  obtain ⟨ps, rfl, hl, hf⟩ := h
  match ps, hl with
  | [p, q], _ =>
    obtain ⟨a, rfl⟩ := ofTy_int (hf 0 _ p rfl rfl)
    obtain ⟨b, rfl⟩ := ofTy_int (hf 1 _ q rfl rfl)
    rfl
theorem ofTy_sl {α : Type} [Inhabited α] (e : α → List D) (un : List D → α) {n : Nat} {et st : TypeId} {sz : Nat} (hst : Try.prog.underlying st = some (.slice et)) (hc : Try.prog.cellsOf et = sz)
    (he : ∀ ds, OfTy Try.prog n et ds → ds = e (un ds)) {ds : List D} (h : OfTy Try.prog (n + 1) st ds) : ∃ (x : D) (xs : List α), ds = [x] ∧ DEq x (.sl sz xs.length fun i => e (xs.getD i default)) := by
  rw [OfTy] at h
  simp only [hst] at h
  obtain ⟨k, f, rfl, -, hf⟩ := h
  refine ⟨_, (List.range k).map fun i => un (f i), rfl, hc, by simp, fun i hi => ?_⟩
  have hi' : i < k := by simpa using hi
  rw [he _ (hf i hi')]
  simp [hi', ← he _ (hf i hi')]
def unSwap : List D → Swap
  | [.int _ a, .int _ b, .int _ c, .int _ d, .int _ e, .int _ f, .int _ g] => ⟨a, ⟨b, c⟩, ⟨d, e⟩, f, g⟩
  | _ => default
theorem open_bun {w : World} {base : Nat} {H : Type} {enc : TypeId × Value → H} {v : Value} {d : DataW H} {p : List MemPlace} (hv : Value.okWide Try.prog w .any base 24 v)
    (h : DataW.Trod enc Try.prog w 0 (fun _ => true) true 24 v d p) : ∃ b : Bun, Rd w (· < w.heap.size) (.agg (eBun b)) v := by
  obtain ⟨ds, h1, -, -, h2⟩ := rd_arg laidOut (n := 4) (of_decide_eq_true (by kernel_rfl)) (by kernel_rfl) hv h
  have hr := h2 _ Try.underlying24
  rw [ofTy_bun h1] at hr
  exact ⟨_, hr⟩
theorem open_i64 {w : World} {base : Nat} {H : Type} {enc : TypeId × Value → H} {v : Value} {d : DataW H} {p : List MemPlace} (hv : Value.okWide Try.prog w .any base 3 v)
    (h : DataW.Trod enc Try.prog w 0 (fun _ => true) true 3 v d p) : ∃ i : Int, Rd w (· < w.heap.size) (.int .i64 i) v := by
  obtain ⟨n, rfl, -⟩ := open_int Try.underlying3 hv h
  exact ⟨n, .int⟩
def unSeat : List D → Seat
  | [.int _ a, .int _ b, .int _ c] => ⟨a, b, c⟩
  | _ => default
theorem ofTy_seat {n : Nat} {ds : List D} (h : OfTy Try.prog (n + 2) 51 ds) : ds = eSeat (unSeat ds) := by
  rw [OfTy] at h
  simp only [Try.underlying51] at h
  obtain ⟨ps, rfl, hl, hf⟩ := h
  match ps, hl with
  | [p, q, r], _ =>
    obtain ⟨a, rfl⟩ := ofTy_int (hf 0 _ p rfl rfl)
    obtain ⟨b, rfl⟩ := ofTy_int (hf 1 _ q rfl rfl)
    obtain ⟨c, rfl⟩ := ofTy_int (hf 2 _ r rfl rfl)
    rfl
theorem open_seats {w : World} {base : Nat} {H : Type} {enc : TypeId × Value → H} {v : Value} {d : DataW H} {p : List MemPlace} (hv : Value.okWide Try.prog w .any base 40 v)
    (h : DataW.Trod enc Try.prog w 0 (fun _ => true) true 40 v d p) : ∃ xs : List Seat, Rd w (· < w.heap.size) (eSeats xs) v := by
  obtain ⟨ds, h1, -, h2, -⟩ := rd_arg laidOut (n := 5) (of_decide_eq_true (by kernel_rfl)) (by kernel_rfl) hv h
  obtain ⟨x, rfl, hr⟩ := h2 (fun fs hf => by rw [Try.underlying40] at hf; cases hf)
  obtain ⟨y, xs, he, hq⟩ := ofTy_sl eSeat unSeat (by kernel_rfl) (by kernel_rfl) (fun ds h => ofTy_seat h) h1
  cases he
  exact ⟨xs, DEq.ok hr hq⟩
theorem open_ints {w : World} {base : Nat} {H : Type} {enc : TypeId × Value → H} {v : Value} {d : DataW H} {p : List MemPlace} (hv : Value.okWide Try.prog w .any base 36 v)
    (h : DataW.Trod enc Try.prog w 0 (fun _ => true) true 36 v d p) : ∃ xs : List Int, Rd w (· < w.heap.size) (eInts xs) v := by
  obtain ⟨ds, h1, -, h2, -⟩ := rd_arg laidOut (n := 5) (of_decide_eq_true (by kernel_rfl)) (by kernel_rfl) hv h
  obtain ⟨x, rfl, hr⟩ := h2 (fun fs hf => by rw [Try.underlying36] at hf; cases hf)
  obtain ⟨y, xs, he, hq⟩ := ofTy_sl eI unInt (by kernel_rfl) (by kernel_rfl) (fun ds h => ofTy_int' h) h1
  cases he
  exact ⟨xs, DEq.ok hr hq⟩
theorem trodAll_four {H : Type} {enc : TypeId × Value → H} {P : Program} {w : World} {base : Nat} {spare : Nat → Bool} {held : Bool} {t0 t1 t2 t3 : TypeId} {args : Array Value} {ds : List (DataW H)} {ps : List MemPlace} (h : DataW.TrodAll enc P w base spare held [t0, t1, t2, t3] args.toList ds ps) :
    ∃ v0 v1 v2 v3 d0 d1 d2 d3 p0 p1 p2 p3, args = #[v0, v1, v2, v3] ∧ ds = [d0, d1, d2, d3] ∧ ps = p0 ++ p1 ++ p2 ++ p3 ∧ DataW.Trod enc P w base spare held t0 v0 d0 p0 ∧ DataW.Trod enc P w base spare held t1 v1 d1 p1 ∧ DataW.Trod enc P w base spare held t2 v2 d2 p2 ∧ DataW.Trod enc P w base spare held t3 v3 d3 p3 := by
  obtain ⟨v0, vs0, d0, ds0, p0, q0, hargs, rfl, rfl, k0, h0⟩ := trodAll_cons h
  obtain ⟨v1, vs1, d1, ds1, p1, q1, rfl, rfl, rfl, k1, h1⟩ := trodAll_cons h0
  obtain ⟨v2, vs2, d2, ds2, p2, q2, rfl, rfl, rfl, k2, h2⟩ := trodAll_cons h1
  obtain ⟨v3, vs3, d3, ds3, p3, q3, rfl, rfl, rfl, k3, h3⟩ := trodAll_cons h2
  obtain ⟨rfl, rfl, rfl⟩ := trodAll_nil h3
  exact ⟨v0, v1, v2, v3, d0, d1, d2, d3, p0, p1, p2, p3, by cases args; simp_all, rfl, by simp, k0, k1, k2, k3⟩
theorem args4 {w : World} {x0 x1 x2 x3 : D} {v0 v1 v2 v3 : Value} (h0 : Rd w (· < w.heap.size) x0 v0) (h1 : Rd w (· < w.heap.size) x1 v1) (h2 : Rd w (· < w.heap.size) x2 v2) (h3 : Rd w (· < w.heap.size) x3 v3) : ∀ (j : Nat) x u, [x0, x1, x2, x3][j]? = some x → [v0, v1, v2, v3][j]? = some u → Rd w (· < w.heap.size) x u
  | 0, _, _, hx, hu => by cases hx; cases hu; exact h0
  | 1, _, _, hx, hu => by cases hx; cases hu; exact h1
  | 2, _, _, hx, hu => by cases hx; cases hu; exact h2
  | 3, _, _, hx, hu => by cases hx; cases hu; exact h3
  | _ + 4, _, _, hx, _ => by simp at hx
theorem args2 {w : World} {x0 x1 : D} {v0 v1 : Value} (h0 : Rd w (· < w.heap.size) x0 v0) (h1 : Rd w (· < w.heap.size) x1 v1) : ∀ (j : Nat) x u, [x0, x1][j]? = some x → [v0, v1][j]? = some u → Rd w (· < w.heap.size) x u
  | 0, _, _, hx, hu => by cases hx; cases hu; exact h0
  | 1, _, _, hx, hu => by cases hx; cases hu; exact h1
  | _ + 2, _, _, hx, _ => by simp at hx
theorem args3 {w : World} {x0 x1 x2 : D} {v0 v1 v2 : Value} (h0 : Rd w (· < w.heap.size) x0 v0) (h1 : Rd w (· < w.heap.size) x1 v1) (h2 : Rd w (· < w.heap.size) x2 v2) : ∀ (j : Nat) x u, [x0, x1, x2][j]? = some x → [v0, v1, v2][j]? = some u → Rd w (· < w.heap.size) x u
  | 0, _, _, hx, hu => by cases hx; cases hu; exact h0
  | 1, _, _, hx, hu => by cases hx; cases hu; exact h1
  | 2, _, _, hx, hu => by cases hx; cases hu; exact h2
  | _ + 3, _, _, hx, _ => by simp at hx
theorem ofTy_swap {n : Nat} {ds : List D} (h : OfTy Try.prog (n + 3) 26 ds) : ds = eSwap (unSwap ds) := by
  rw [OfTy] at h
  simp only [Try.underlying26] at h
  obtain ⟨ps, rfl, hl, hf⟩ := h
  match ps, hl with
  | [p, q, r, s, t], _ =>
    obtain ⟨a, rfl⟩ := ofTy_int (hf 0 _ p rfl rfl)
    have hq := ofTy_bun (hf 1 _ q rfl rfl)
    have hr := ofTy_bun (hf 2 _ r rfl rfl)
    obtain ⟨d, rfl⟩ := ofTy_int (hf 3 _ s rfl rfl)
    obtain ⟨e, rfl⟩ := ofTy_int (hf 4 _ t rfl rfl)
    rw [hq, hr]
    rfl
theorem open_swap {w : World} {base : Nat} {H : Type} {enc : TypeId × Value → H} {v : Value} {d : DataW H} {p : List MemPlace} (hv : Value.okWide Try.prog w .any base 26 v)
    (h : DataW.Trod enc Try.prog w 0 (fun _ => true) true 26 v d p) : ∃ b : Swap, Rd w (· < w.heap.size) (.agg (eSwap b)) v := by
  obtain ⟨ds, h1, -, -, h2⟩ := rd_arg laidOut (n := 5) (of_decide_eq_true (by kernel_rfl)) (by kernel_rfl) hv h
  have hr := h2 _ Try.underlying26
  rw [ofTy_swap h1] at hr
  exact ⟨_, hr⟩
theorem open_swaps {w : World} {base : Nat} {H : Type} {enc : TypeId × Value → H} {v : Value} {d : DataW H} {p : List MemPlace} (hv : Value.okWide Try.prog w .any base 22 v)
    (h : DataW.Trod enc Try.prog w 0 (fun _ => true) true 22 v d p) : ∃ xs : List Swap, Rd w (· < w.heap.size) (eSwaps xs) v := by
  obtain ⟨ds, h1, -, h2, -⟩ := rd_arg laidOut (n := 6) (of_decide_eq_true (by kernel_rfl)) (by kernel_rfl) hv h
  obtain ⟨x, rfl, hr⟩ := h2 (fun fs hf => by rw [Try.underlying22] at hf; cases hf)
  obtain ⟨y, xs, he, hq⟩ := ofTy_sl eSwap unSwap (by kernel_rfl) (by kernel_rfl) (fun ds h => ofTy_swap h) h1
  cases he
  exact ⟨xs, DEq.ok hr hq⟩
theorem gok (W : World) : GOk (· < W.heap.size) W := fun g v h => by cases h
end Go.Proofs.Ytnhadilbebgbjaa
