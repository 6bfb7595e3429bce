/-
  Chapter 25: the arguments of the laws, as data; the listed variable.
-/
import Derived.Test.YtfbjlakcolipaaaDoorSeatP
import Derived.Test.YtfbjlakcolipaaaDoorChecked
import Derived.Test.YtfbjlakcolipaaaDoorEngT
import Derived.Test.YtfbjlakcolipaaaDoorRows
import Derived.LaidLaws
import Derived.LaidHandle
import Derived.Stop.Joined
import Derived.ChangeSame
import Derived.ChangeVars
import Derived.JoinedOf
import Derived.RowKit
import Derived.RowKitTokens
namespace Go.Proofs.YtfbjlakcolipaaaDoor
set_option linter.unusedSimpArgs false
set_option linter.unusedVariables false
open Go Go.Ab
open Go.ChangeShapes Go.WideShapes Go.ChangeAt Go.RowKit
set_option maxRecDepth 100000
theorem own : ownKnob Tryd.prog.godebug = none := by kernel_rfl
theorem laidOut : laidOutB Tryd.prog = true := by kernel_rfl
def eI (n : Int) : List D := [.int .i64 n]
def unInt : List D → Int
  | [.int _ a] => a
  | _ => default
def unMeet : List D → Meet
  | [.int _ a, .int _ b, .int _ c, .int _ d, .int _ e] => ⟨a, b, c, d, e⟩
  | _ => default
def unGrp : List D → Grp
  | [.int _ a, .int _ b, .int _ c] => ⟨a, b, c⟩
  | _ => default
def unBun : List D → Bun
  | [.int _ a, .int _ b] => ⟨a, b⟩
  | _ => default
theorem ofTy_int {n : Nat} {ds : List D} (h : OfTy Tryd.prog (n + 1) 3 ds) : ∃ i : Int, ds = [.int .i64 i] := by
  simp only [OfTy, Tryd.underlying3] at h
  obtain ⟨i, rfl, -⟩ := h
  exact ⟨i, rfl⟩
theorem ofTy_bool {n : Nat} {ds : List D} (h : OfTy Tryd.prog (n + 1) 4 ds) : ∃ i : Bool, ds = [.bool i] := by
  simp only [OfTy, Tryd.underlying4] at h
  exact h
theorem ofTy_int' {n : Nat} {ds : List D} (h : OfTy Tryd.prog (n + 1) 3 ds) : ds = eI (unInt ds) := by
  obtain ⟨i, rfl⟩ := ofTy_int h
  rfl
theorem ofTy_meet {n : Nat} {ds : List D} (h : OfTy Tryd.prog (n + 2) 102 ds) : ds = eMeet (unMeet ds) := by
  rw [OfTy] at h
  simp only [Tryd.underlying102] at h
  obtain ⟨ps, rfl, hl, hf⟩ := h
  match ps, hl with
  | [p, q, r, s, t], _ =>
    obtain ⟨a, rfl⟩ := ofTy_int (hf 0 _ p rfl rfl)
    obtain ⟨b, rfl⟩ := ofTy_int (hf 1 _ q rfl rfl)
    obtain ⟨c, rfl⟩ := ofTy_int (hf 2 _ r rfl rfl)
    obtain ⟨d, rfl⟩ := ofTy_int (hf 3 _ s rfl rfl)
    obtain ⟨e, rfl⟩ := ofTy_int (hf 4 _ t rfl rfl)
    rfl
theorem ofTy_grp {n : Nat} {ds : List D} (h : OfTy Tryd.prog (n + 2) 47 ds) : ds = eGrp (unGrp ds) := by
  rw [OfTy] at h
  simp only [Tryd.underlying47] at h
  obtain ⟨ps, rfl, hl, hf⟩ := h
  match ps, hl with
  | [p, q, r], _ =>
    obtain ⟨a, rfl⟩ := ofTy_int (hf 0 _ p rfl rfl)
    obtain ⟨b, rfl⟩ := ofTy_int (hf 1 _ q rfl rfl)
    obtain ⟨c, rfl⟩ := ofTy_int (hf 2 _ r rfl rfl)
    rfl
theorem ofTy_bun {n : Nat} {ds : List D} (h : OfTy Tryd.prog (n + 2) 32 ds) : ds = eBun (unBun ds) := by
  rw [OfTy] at h
  simp only [Tryd.underlying32] at h
  obtain ⟨ps, rfl, hl, hf⟩ := h
  match ps, hl with
  | [p, q], _ =>
    obtain ⟨a, rfl⟩ := ofTy_int (hf 0 _ p rfl rfl)
    obtain ⟨b, rfl⟩ := ofTy_int (hf 1 _ q rfl rfl)
    rfl
theorem ofTy_sl {α : Type} [Inhabited α] (e : α → List D) (un : List D → α) {n : Nat} {et st : TypeId} {sz : Nat} (hst : Tryd.prog.underlying st = some (.slice et)) (hc : Tryd.prog.cellsOf et = sz)
    (he : ∀ ds, OfTy Tryd.prog n et ds → ds = e (un ds)) {ds : List D} (h : OfTy Tryd.prog (n + 1) st ds) : ∃ (x : D) (xs : List α), ds = [x] ∧ DEq x (.sl sz xs.length fun i => e (xs.getD i default)) := by
  rw [OfTy] at h
  simp only [hst] at h
  obtain ⟨k, f, rfl, -, hf⟩ := h
  refine ⟨_, (List.range k).map fun i => un (f i), rfl, hc, by simp, fun i hi => ?_⟩
  have hi' : i < k := by simpa using hi
  rw [he _ (hf i hi')]
  simp [hi', ← he _ (hf i hi')]
theorem ofTy_sec {n : Nat} {ds : List D} (h : OfTy Tryd.prog (n + 4) 44 ds) : ∃ s : Sec, DEqL ds (eSec s) := by
  rw [OfTy] at h
  simp only [Tryd.underlying44] at h
  obtain ⟨ps, rfl, hl, hf⟩ := h
  match ps, hl with
  | [p0, p1, p2, p3, p4, p5, p6, p7, p8], _ =>
    obtain ⟨a0, rfl⟩ := ofTy_int (hf 0 _ p0 rfl rfl)
    obtain ⟨a1, rfl⟩ := ofTy_int (hf 1 _ p1 rfl rfl)
    obtain ⟨a2, rfl⟩ := ofTy_int (hf 2 _ p2 rfl rfl)
    obtain ⟨a3, rfl⟩ := ofTy_int (hf 3 _ p3 rfl rfl)
    obtain ⟨a4, rfl⟩ := ofTy_int (hf 4 _ p4 rfl rfl)
    obtain ⟨x5, a5, rfl, h5⟩ := ofTy_sl eMeet unMeet (by kernel_rfl) (by kernel_rfl) (fun ds h => ofTy_meet h) (hf 5 _ p5 rfl rfl)
    obtain ⟨x6, a6, rfl, h6⟩ := ofTy_sl eGrp unGrp (by kernel_rfl) (by kernel_rfl) (fun ds h => ofTy_grp h) (hf 6 _ p6 rfl rfl)
    obtain ⟨x7, a7, rfl, h7⟩ := ofTy_sl eI unInt (by kernel_rfl) (by kernel_rfl) (fun ds h => ofTy_int' h) (hf 7 _ p7 rfl rfl)
    obtain ⟨a8, rfl⟩ := ofTy_bool (hf 8 _ p8 rfl rfl)
    exact ⟨⟨a0, a1, a2, a3, a4, a5, a6, a7, a8⟩, rfl, rfl, rfl, rfl, rfl, h5, h6, h7, rfl, True.intro⟩
theorem rd_slL {w : World} {F : Nat → Prop} {sz n : Nat} {f g : Nat → List D} {v : Value} (h : Rd w F (.sl sz n f) v) (hg : ∀ i, i < n → DEqL (f i) (g i)) : Rd w F (.sl sz n g) v := by
  cases h with
  | sl B us h1 h2 h3 h4 h5 => exact .sl B us h1 h2 (fun i hi => by rw [← (hg i hi).len]; exact h3 i hi) h4 (fun i j x hi hx => by
      obtain ⟨y, hy, e⟩ := (hg i hi).at j x hx
      exact DEq.ok (h5 i j y hi hy) e)
theorem open_secsL {w : World} {base : Nat} {H : Type} {enc : TypeId × Value → H} {v : Value} {d : DataW H} {p : List MemPlace} (hv : Value.okWide Tryd.prog w .any base 22 v)
    (h : DataW.Trod enc Tryd.prog w 0 (fun _ => true) true 22 v d p) : ∃ xs : List Sec, xs.length ≤ 9223372036854775807 ∧ Rd w (· < w.heap.size) (eSecs xs) v := by
  obtain ⟨ds, h1, -, h2, -⟩ := rd_arg laidOut (n := 6) (of_decide_eq_true (by kernel_rfl)) (by kernel_rfl) hv h
  obtain ⟨x, rfl, hr⟩ := h2 (fun fs hf => by rw [Tryd.underlying22] at hf; cases hf)
  rw [OfTy] at h1
  simp only [Tryd.underlying22] at h1
  obtain ⟨k, f, he, hml, hf⟩ := h1
  cases he
  have : ∀ i, ∃ s : Sec, i < k → DEqL (f i) (eSec s) := fun i => by
    by_cases hi : i < k
    · obtain ⟨s, hs⟩ := ofTy_sec (hf i hi)
      exact ⟨s, fun _ => hs⟩
    · exact ⟨default, fun h => absurd h hi⟩
  obtain ⟨g, hg⟩ := Classical.axiomOfChoice this
  refine ⟨(List.range k).map g, by simpa [maxLen] using hml, ?_⟩
  have hc : Tryd.prog.cellsOf 44 = 9 := by kernel_rfl
  rw [hc] at hr
  have e : ((List.range k).map g).length = k := by simp
  rw [eSecs, e]
  exact rd_slL hr fun i hi => by
    have : ((List.range k).map g).getD i default = g i := by simp [hi]
    rw [this]
    exact hg i hi
theorem open_secs {w : World} {base : Nat} {H : Type} {enc : TypeId × Value → H} {v : Value} {d : DataW H} {p : List MemPlace} (hv : Value.okWide Tryd.prog w .any base 22 v)
    (h : DataW.Trod enc Tryd.prog w 0 (fun _ => true) true 22 v d p) : ∃ xs : List Sec, Rd w (· < w.heap.size) (eSecs xs) v := by
  obtain ⟨xs, -, h⟩ := open_secsL hv h
  exact ⟨xs, h⟩
theorem open_bun {w : World} {base : Nat} {H : Type} {enc : TypeId × Value → H} {v : Value} {d : DataW H} {p : List MemPlace} (hv : Value.okWide Tryd.prog w .any base 32 v)
    (h : DataW.Trod enc Tryd.prog w 0 (fun _ => true) true 32 v d p) : ∃ b : Bun, Rd w (· < w.heap.size) (.agg (eBun b)) v := by
  obtain ⟨ds, h1, -, -, h2⟩ := rd_arg laidOut (n := 4) (of_decide_eq_true (by kernel_rfl)) (by kernel_rfl) hv h
  have hr := h2 _ Tryd.underlying32
  rw [ofTy_bun h1] at hr
  exact ⟨_, hr⟩
theorem open_i64 {w : World} {base : Nat} {H : Type} {enc : TypeId × Value → H} {v : Value} {d : DataW H} {p : List MemPlace} (hv : Value.okWide Tryd.prog w .any base 3 v)
    (h : DataW.Trod enc Tryd.prog w 0 (fun _ => true) true 3 v d p) : ∃ i : Int, Rd w (· < w.heap.size) (.int .i64 i) v := by
  obtain ⟨n, rfl, -⟩ := open_int Tryd.underlying3 hv h
  exact ⟨n, .int⟩
def unSeat : List D → Seat
  | [.int _ a, .int _ b, .int _ c] => ⟨a, b, c⟩
  | _ => default
theorem ofTy_seat {n : Nat} {ds : List D} (h : OfTy Tryd.prog (n + 2) 40 ds) : ds = eSeat (unSeat ds) := by
  rw [OfTy] at h
  simp only [Tryd.underlying40] at h
  obtain ⟨ps, rfl, hl, hf⟩ := h
  match ps, hl with
  | [p, q, r], _ =>
    obtain ⟨a, rfl⟩ := ofTy_int (hf 0 _ p rfl rfl)
    obtain ⟨b, rfl⟩ := ofTy_int (hf 1 _ q rfl rfl)
    obtain ⟨c, rfl⟩ := ofTy_int (hf 2 _ r rfl rfl)
    rfl
theorem open_seats {w : World} {base : Nat} {H : Type} {enc : TypeId × Value → H} {v : Value} {d : DataW H} {p : List MemPlace} (hv : Value.okWide Tryd.prog w .any base 28 v)
    (h : DataW.Trod enc Tryd.prog w 0 (fun _ => true) true 28 v d p) : ∃ xs : List Seat, Rd w (· < w.heap.size) (eSeats xs) v := by
  obtain ⟨ds, h1, -, h2, -⟩ := rd_arg laidOut (n := 5) (of_decide_eq_true (by kernel_rfl)) (by kernel_rfl) hv h
  obtain ⟨x, rfl, hr⟩ := h2 (fun fs hf => by rw [Tryd.underlying28] at hf; cases hf)
  obtain ⟨y, xs, he, hq⟩ := ofTy_sl eSeat unSeat (by kernel_rfl) (by kernel_rfl) (fun ds h => ofTy_seat h) h1
  cases he
  exact ⟨xs, DEq.ok hr hq⟩
theorem open_ints {w : World} {base : Nat} {H : Type} {enc : TypeId × Value → H} {v : Value} {d : DataW H} {p : List MemPlace} (hv : Value.okWide Tryd.prog w .any base 36 v)
    (h : DataW.Trod enc Tryd.prog w 0 (fun _ => true) true 36 v d p) : ∃ xs : List Int, Rd w (· < w.heap.size) (eInts xs) v := by
  obtain ⟨ds, h1, -, h2, -⟩ := rd_arg laidOut (n := 5) (of_decide_eq_true (by kernel_rfl)) (by kernel_rfl) hv h
  obtain ⟨x, rfl, hr⟩ := h2 (fun fs hf => by rw [Tryd.underlying36] at hf; cases hf)
  obtain ⟨y, xs, he, hq⟩ := ofTy_sl eI unInt (by kernel_rfl) (by kernel_rfl) (fun ds h => ofTy_int' h) h1
  cases he
  exact ⟨xs, DEq.ok hr hq⟩
def unStep : List D → Step
  | [.int _ a, .int _ b, .int _ c, .int _ d, .int _ e, .bool f] => ⟨a, b, c, d, e, f⟩
  | _ => default
theorem ofTy_u8 {n : Nat} {ds : List D} (h : OfTy Tryd.prog (n + 1) 5 ds) : ∃ i : Int, ds = [.int .u8 i] := by
  simp only [OfTy, Tryd.underlying5] at h
  obtain ⟨i, rfl, -⟩ := h
  exact ⟨i, rfl⟩
theorem ofTy_step {n : Nat} {ds : List D} (h : OfTy Tryd.prog (n + 2) 30 ds) : ds = eStep (unStep ds) := by
  rw [OfTy] at h
  simp only [Tryd.underlying30] at h
  obtain ⟨ps, rfl, hl, hf⟩ := h
  match ps, hl with
  | [p, q, r, s, t, u], _ =>
    obtain ⟨a, rfl⟩ := ofTy_int (hf 0 _ p rfl rfl)
    obtain ⟨b, rfl⟩ := ofTy_int (hf 1 _ q rfl rfl)
    obtain ⟨c, rfl⟩ := ofTy_int (hf 2 _ r rfl rfl)
    obtain ⟨d, rfl⟩ := ofTy_int (hf 3 _ s rfl rfl)
    obtain ⟨e, rfl⟩ := ofTy_u8 (hf 4 _ t rfl rfl)
    obtain ⟨f, rfl⟩ := ofTy_bool (hf 5 _ u rfl rfl)
    rfl
theorem open_step {w : World} {base : Nat} {H : Type} {enc : TypeId × Value → H} {v : Value} {d : DataW H} {p : List MemPlace} (hv : Value.okWide Tryd.prog w .any base 30 v)
    (h : DataW.Trod enc Tryd.prog w 0 (fun _ => true) true 30 v d p) : ∃ b : Step, Rd w (· < w.heap.size) (.agg (eStep b)) v := by
  obtain ⟨ds, h1, -, -, h2⟩ := rd_arg laidOut (n := 4) (of_decide_eq_true (by kernel_rfl)) (by kernel_rfl) hv h
  have hr := h2 _ Tryd.underlying30
  rw [ofTy_step h1] at hr
  exact ⟨_, hr⟩
theorem open_steps {w : World} {base : Nat} {H : Type} {enc : TypeId × Value → H} {v : Value} {d : DataW H} {p : List MemPlace} (hv : Value.okWide Tryd.prog w .any base 23 v)
    (h : DataW.Trod enc Tryd.prog w 0 (fun _ => true) true 23 v d p) : ∃ xs : List Step, Rd w (· < w.heap.size) (.sl 6 xs.length fun i => eStep (xs.getD i default)) v := by
  obtain ⟨ds, h1, -, h2, -⟩ := rd_arg laidOut (n := 5) (of_decide_eq_true (by kernel_rfl)) (by kernel_rfl) hv h
  obtain ⟨x, rfl, hr⟩ := h2 (fun fs hf => by rw [Tryd.underlying23] at hf; cases hf)
  obtain ⟨y, xs, he, hq⟩ := ofTy_sl eStep unStep (by kernel_rfl) (by kernel_rfl) (fun ds h => ofTy_step h) h1
  cases he
  exact ⟨xs, DEq.ok hr hq⟩
theorem trodAll_four {H : Type} {enc : TypeId × Value → H} {P : Program} {w : World} {base : Nat} {spare : Nat → Bool} {held : Bool} {t0 t1 t2 t3 : TypeId} {args : Array Value} {ds : List (DataW H)} {ps : List MemPlace} (h : DataW.TrodAll enc P w base spare held [t0, t1, t2, t3] args.toList ds ps) :
    ∃ v0 v1 v2 v3 d0 d1 d2 d3 p0 p1 p2 p3, args = #[v0, v1, v2, v3] ∧ ds = [d0, d1, d2, d3] ∧ ps = p0 ++ p1 ++ p2 ++ p3 ∧ DataW.Trod enc P w base spare held t0 v0 d0 p0 ∧ DataW.Trod enc P w base spare held t1 v1 d1 p1 ∧ DataW.Trod enc P w base spare held t2 v2 d2 p2 ∧ DataW.Trod enc P w base spare held t3 v3 d3 p3 := by
  obtain ⟨v0, vs0, d0, ds0, p0, q0, hargs, rfl, rfl, k0, h0⟩ := trodAll_cons h
  obtain ⟨v1, vs1, d1, ds1, p1, q1, rfl, rfl, rfl, k1, h1⟩ := trodAll_cons h0
  obtain ⟨v2, vs2, d2, ds2, p2, q2, rfl, rfl, rfl, k2, h2⟩ := trodAll_cons h1
  obtain ⟨v3, vs3, d3, ds3, p3, q3, rfl, rfl, rfl, k3, h3⟩ := trodAll_cons h2
  obtain ⟨rfl, rfl, rfl⟩ := trodAll_nil h3
  exact ⟨v0, v1, v2, v3, d0, d1, d2, d3, p0, p1, p2, p3, by cases args; simp_all, rfl, by simp, k0, k1, k2, k3⟩
theorem args4 {w : World} {x0 x1 x2 x3 : D} {v0 v1 v2 v3 : Value} (h0 : Rd w (· < w.heap.size) x0 v0) (h1 : Rd w (· < w.heap.size) x1 v1) (h2 : Rd w (· < w.heap.size) x2 v2) (h3 : Rd w (· < w.heap.size) x3 v3) : ∀ (j : Nat) x u, [x0, x1, x2, x3][j]? = some x → [v0, v1, v2, v3][j]? = some u → Rd w (· < w.heap.size) x u
  | 0, _, _, hx, hu => by cases hx; cases hu; exact h0
  | 1, _, _, hx, hu => by cases hx; cases hu; exact h1
  | 2, _, _, hx, hu => by cases hx; cases hu; exact h2
  | 3, _, _, hx, hu => by cases hx; cases hu; exact h3
  | _ + 4, _, _, hx, _ => by simp at hx
theorem trodAll_five {H : Type} {enc : TypeId × Value → H} {P : Program} {w : World} {base : Nat} {spare : Nat → Bool} {held : Bool} {t0 t1 t2 t3 t4 : TypeId} {args : Array Value} {ds : List (DataW H)} {ps : List MemPlace} (h : DataW.TrodAll enc P w base spare held [t0, t1, t2, t3, t4] args.toList ds ps) :
    ∃ v0 v1 v2 v3 v4 d0 d1 d2 d3 d4 p0 p1 p2 p3 p4, args = #[v0, v1, v2, v3, v4] ∧ ds = [d0, d1, d2, d3, d4] ∧ ps = p0 ++ p1 ++ p2 ++ p3 ++ p4 ∧ DataW.Trod enc P w base spare held t0 v0 d0 p0 ∧ DataW.Trod enc P w base spare held t1 v1 d1 p1 ∧ DataW.Trod enc P w base spare held t2 v2 d2 p2 ∧ DataW.Trod enc P w base spare held t3 v3 d3 p3 ∧ DataW.Trod enc P w base spare held t4 v4 d4 p4 := by
  obtain ⟨v0, vs0, d0, ds0, p0, q0, hargs, rfl, rfl, k0, h0⟩ := trodAll_cons h
  obtain ⟨v1, vs1, d1, ds1, p1, q1, rfl, rfl, rfl, k1, h1⟩ := trodAll_cons h0
  obtain ⟨v2, vs2, d2, ds2, p2, q2, rfl, rfl, rfl, k2, h2⟩ := trodAll_cons h1
  obtain ⟨v3, vs3, d3, ds3, p3, q3, rfl, rfl, rfl, k3, h3⟩ := trodAll_cons h2
  obtain ⟨v4, vs4, d4, ds4, p4, q4, rfl, rfl, rfl, k4, h4⟩ := trodAll_cons h3
  obtain ⟨rfl, rfl, rfl⟩ := trodAll_nil h4
  exact ⟨v0, v1, v2, v3, v4, d0, d1, d2, d3, d4, p0, p1, p2, p3, p4, by cases args; simp_all, rfl, by simp, k0, k1, k2, k3, k4⟩
theorem args5 {w : World} {x0 x1 x2 x3 x4 : D} {v0 v1 v2 v3 v4 : Value} (h0 : Rd w (· < w.heap.size) x0 v0) (h1 : Rd w (· < w.heap.size) x1 v1) (h2 : Rd w (· < w.heap.size) x2 v2) (h3 : Rd w (· < w.heap.size) x3 v3) (h4 : Rd w (· < w.heap.size) x4 v4) : ∀ (j : Nat) x u, [x0, x1, x2, x3, x4][j]? = some x → [v0, v1, v2, v3, v4][j]? = some u → Rd w (· < w.heap.size) x u
  | 0, _, _, hx, hu => by cases hx; cases hu; exact h0
  | 1, _, _, hx, hu => by cases hx; cases hu; exact h1
  | 2, _, _, hx, hu => by cases hx; cases hu; exact h2
  | 3, _, _, hx, hu => by cases hx; cases hu; exact h3
  | 4, _, _, hx, hu => by cases hx; cases hu; exact h4
  | _ + 5, _, _, hx, _ => by simp at hx
theorem trodAll_six {H : Type} {enc : TypeId × Value → H} {P : Program} {w : World} {base : Nat} {spare : Nat → Bool} {held : Bool} {t0 t1 t2 t3 t4 t5 : TypeId} {args : Array Value} {ds : List (DataW H)} {ps : List MemPlace} (h : DataW.TrodAll enc P w base spare held [t0, t1, t2, t3, t4, t5] args.toList ds ps) :
    ∃ v0 v1 v2 v3 v4 v5 d0 d1 d2 d3 d4 d5 p0 p1 p2 p3 p4 p5, args = #[v0, v1, v2, v3, v4, v5] ∧ ds = [d0, d1, d2, d3, d4, d5] ∧ ps = p0 ++ p1 ++ p2 ++ p3 ++ p4 ++ p5 ∧ DataW.Trod enc P w base spare held t0 v0 d0 p0 ∧ DataW.Trod enc P w base spare held t1 v1 d1 p1 ∧ DataW.Trod enc P w base spare held t2 v2 d2 p2 ∧ DataW.Trod enc P w base spare held t3 v3 d3 p3 ∧ DataW.Trod enc P w base spare held t4 v4 d4 p4 ∧ DataW.Trod enc P w base spare held t5 v5 d5 p5 := by
  obtain ⟨v0, vs0, d0, ds0, p0, q0, hargs, rfl, rfl, k0, h0⟩ := trodAll_cons h
  obtain ⟨v1, vs1, d1, ds1, p1, q1, rfl, rfl, rfl, k1, h1⟩ := trodAll_cons h0
  obtain ⟨v2, vs2, d2, ds2, p2, q2, rfl, rfl, rfl, k2, h2⟩ := trodAll_cons h1
  obtain ⟨v3, vs3, d3, ds3, p3, q3, rfl, rfl, rfl, k3, h3⟩ := trodAll_cons h2
  obtain ⟨v4, vs4, d4, ds4, p4, q4, rfl, rfl, rfl, k4, h4⟩ := trodAll_cons h3
  obtain ⟨v5, vs5, d5, ds5, p5, q5, rfl, rfl, rfl, k5, h5⟩ := trodAll_cons h4
  obtain ⟨rfl, rfl, rfl⟩ := trodAll_nil h5
  exact ⟨v0, v1, v2, v3, v4, v5, d0, d1, d2, d3, d4, d5, p0, p1, p2, p3, p4, p5, by cases args; simp_all, rfl, by simp, k0, k1, k2, k3, k4, k5⟩
theorem args6 {w : World} {x0 x1 x2 x3 x4 x5 : D} {v0 v1 v2 v3 v4 v5 : Value} (h0 : Rd w (· < w.heap.size) x0 v0) (h1 : Rd w (· < w.heap.size) x1 v1) (h2 : Rd w (· < w.heap.size) x2 v2) (h3 : Rd w (· < w.heap.size) x3 v3) (h4 : Rd w (· < w.heap.size) x4 v4) (h5 : Rd w (· < w.heap.size) x5 v5) : ∀ (j : Nat) x u, [x0, x1, x2, x3, x4, x5][j]? = some x → [v0, v1, v2, v3, v4, v5][j]? = some u → Rd w (· < w.heap.size) x u
  | 0, _, _, hx, hu => by cases hx; cases hu; exact h0
  | 1, _, _, hx, hu => by cases hx; cases hu; exact h1
  | 2, _, _, hx, hu => by cases hx; cases hu; exact h2
  | 3, _, _, hx, hu => by cases hx; cases hu; exact h3
  | 4, _, _, hx, hu => by cases hx; cases hu; exact h4
  | 5, _, _, hx, hu => by cases hx; cases hu; exact h5
  | _ + 6, _, _, hx, _ => by simp at hx
theorem args2 {w : World} {x0 x1 : D} {v0 v1 : Value} (h0 : Rd w (· < w.heap.size) x0 v0) (h1 : Rd w (· < w.heap.size) x1 v1) : ∀ (j : Nat) x u, [x0, x1][j]? = some x → [v0, v1][j]? = some u → Rd w (· < w.heap.size) x u
  | 0, _, _, hx, hu => by cases hx; cases hu; exact h0
  | 1, _, _, hx, hu => by cases hx; cases hu; exact h1
  | _ + 2, _, _, hx, _ => by simp at hx
theorem args3 {w : World} {x0 x1 x2 : D} {v0 v1 v2 : Value} (h0 : Rd w (· < w.heap.size) x0 v0) (h1 : Rd w (· < w.heap.size) x1 v1) (h2 : Rd w (· < w.heap.size) x2 v2) : ∀ (j : Nat) x u, [x0, x1, x2][j]? = some x → [v0, v1, v2][j]? = some u → Rd w (· < w.heap.size) x u
  | 0, _, _, hx, hu => by cases hx; cases hu; exact h0
  | 1, _, _, hx, hu => by cases hx; cases hu; exact h1
  | 2, _, _, hx, hu => by cases hx; cases hu; exact h2
  | _ + 3, _, _, hx, _ => by simp at hx
theorem et : Tryd.prog.globalNamed "errors.errorType" = some 0 := by kernel_rfl
theorem rt : (Tryd.prog.cutTypes.find? (·.1 == "internal/reflectlite.rtype")).map (·.2) = some 132 := by kernel_rfl
theorem oneRow : ((List.range Tryd.prog.types.size).filter fun t => Tryd.prog.rowNamed t [101, 114, 114, 111, 114]) = [92] := by kernel_rfl
theorem handle_of_laid {W : World} (h : laidMetH Tryd.prog [("errors.errorType", Rows.laid_errors_errorType)] W) : W.cell? ⟨0, 0, none⟩ = some (.iface 132 (.agg #[.pointer (some ⟨1, 92, none⟩)])) := by
  have h' : laidMet Tryd.prog [] W ∧ handlesMet Tryd.prog [("errors.errorType", Rows.laid_errors_errorType)] W := h
  obtain ⟨name, u, ty, e1, e2, e3, e4, e5⟩ := h'.2 _ (List.mem_singleton.2 rfl)
  have en : name = [101, 114, 114, 111, 114] := (Option.some.inj e1).symm
  subst en
  obtain rfl := Option.some.inj (rt.symm.trans e2)
  have hm : ty ∈ (List.range Tryd.prog.types.size).filter fun t => Tryd.prog.rowNamed t [101, 114, 114, 111, 114] := List.mem_filter.2 ⟨List.mem_range.2 e3, e4⟩
  rw [oneRow] at hm
  obtain rfl := List.mem_singleton.1 hm
  have hh : typeHandle Tryd.prog 92 = .pointer (some ⟨1, 92, none⟩) := by kernel_rfl
  rw [hh] at e5
  simpa using World.var?_cell et e5 0
noncomputable def laidWorld (os : Os) : World :=
  let w0 := World.holding Tryd.prog os ⟨#[], #[], []⟩
  { w0 with heap := w0.heap.modify 0 fun
      | .cells _ t frozen => .cells #[.iface 132 (.agg #[.pointer (some ⟨1, 92, none⟩)])] t frozen
      | o => o }
theorem laidWorld_met (os : Os) (args : Array Value) : laidMetH Tryd.prog [("errors.errorType", Rows.laid_errors_errorType)] ((laidWorld os).forCall (fun _ _ => 0) ⟨#[], args, []⟩).memory :=
  laidMetH_of_parts (laidMet_nil _ _) (by kernel_rfl)
theorem gok_of {W : World} (h : laidMetH Tryd.prog [("errors.errorType", Rows.laid_errors_errorType)] W) : GOk (· < W.heap.size) W := by
  intro g v hg
  have hc := handle_of_laid h
  simp only [globs, List.mem_singleton, Prod.mk.injEq] at hg
  obtain ⟨rfl, rfl⟩ := hg
  refine ⟨?_, hc⟩
  cases hs : W.heap[0]? with
  | none => simp [World.cell?, hs] at hc
  | some o => exact (Array.getElem?_eq_some_iff.1 hs).1
end Go.Proofs.YtfbjlakcolipaaaDoor
