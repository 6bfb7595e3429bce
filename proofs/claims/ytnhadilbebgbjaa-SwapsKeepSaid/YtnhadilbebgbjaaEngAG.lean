/-
  Texts put together: EngP, EngQ, EngR, EngS, EngV, EngT, EngAE, EngAG.
-/
import Derived.Test.YtnhadilbebgbjaaEngO
import Derived.RangeFuncNested
import Derived.Deep.Slices
import Derived.Deep.Fields
import Derived.ChangeSame
import Derived.ProofKit
import Derived.Carry
import Derived.JoinedOf
/-
  The engine, part P: what is ours lent to a call that only computes, or given away for good; calls that hand back a row of their own.
-/
namespace Go.Ab
set_option linter.unusedSimpArgs false
set_option linter.unusedVariables false

/-- What is ours, read as a datum. -/
inductive BecP (m : Mem) : AV → D → Prop where
  | d {x} : BecP m (.d x) x
  | eq {y x} (h : DEq y x) : BecP m (.d y) x
  | ptr {r e off} {cs : List AV} {xs : List D} (h : m.get r = some (.box e cs)) (hl : cs.length = xs.length) (hc : ∀ (j : Nat) A x, cs[j]? = some A → xs[j]? = some x → BecP m A x) : BecP m (.ptr r 0 0 off) (.pt xs off)
  | osl {r e sz g off n k} {f : Nat → List AV} {f' : Nat → List D} (h : m.get r = some (.vec e sz g k f)) (hn : off + n ≤ k) (hl : ∀ i, i < n → (f (off + i)).length = (f' i).length)
      (hc : ∀ (i j : Nat) A x, i < n → (f (off + i))[j]? = some A → (f' i)[j]? = some x → BecP m A x) : BecP m (.osl r g off n) (.sl sz n f')
  | fn {f} {xs ys : List AV} {xs' ys' : List D} (h1 : xs.length = xs'.length) (h2 : ys.length = ys'.length) (h3 : ∀ (j : Nat) A x, xs[j]? = some A → xs'[j]? = some x → BecP m A x) (h4 : ∀ (j : Nat) A x, ys[j]? = some A → ys'[j]? = some x → BecP m A x) :
      BecP m (.fn f xs ys) (.fn f xs' ys')
  | agg {cs : List AV} {xs : List D} (hl : cs.length = xs.length) (hc : ∀ (j : Nat) A x, cs[j]? = some A → xs[j]? = some x → BecP m A x) : BecP m (.agg cs) (.agg xs)
  | ifc {t A x} (h : BecP m A x) : BecP m (.ifc t A) (.ifc t x)
  | mp {r sh has val} {val' : List Int → D} (h : m.get r = some (.map sh has val)) (hc : ∀ k, has k = true → BecP m (val k) (val' k)) : BecP m (.mp r) (.mapd sh has val')

/-- Lists, side by side: computed, for literal lists. -/
def BecL (m : Mem) : List AV → List D → Prop
  | [], [] => True
  | A :: r, x :: s => BecP m A x ∧ BecL m r s
  | _, _ => False
theorem BecL.len {m : Mem} : ∀ {as : List AV} {xs : List D}, BecL m as xs → as.length = xs.length
  | [], [], _ => rfl
  | _ :: _, _ :: _, h => by simp [BecL.len h.2]
  | [], _ :: _, h => h.elim
  | _ :: _, [], h => h.elim
theorem BecL.at {m : Mem} : ∀ {as : List AV} {xs : List D}, BecL m as xs → ∀ (j : Nat) A x, as[j]? = some A → xs[j]? = some x → BecP m A x
  | [], [], _, j, A, x, h, _ => by simp at h
  | a :: r, y :: s, h, j, A, x, hA, hx => by
    cases j with
    | zero => simp at hA hx; subst hA; subst hx; exact h.1
    | succ j => exact BecL.at h.2 j A x (by simpa using hA) (by simpa using hx)
  | [], _ :: _, h, _, _, _, _, _ => h.elim
  | _ :: _, [], h, _, _, _, _, _ => h.elim
theorem BecP.ptr' {m : Mem} {r e off} {cs : List AV} {xs : List D} (h : m.get r = some (.box e cs)) (hc : BecL m cs xs) : BecP m (.ptr r 0 0 off) (.pt xs off) := .ptr h hc.len hc.at
theorem BecP.osl' {m : Mem} {r e sz g off n k} {f : Nat → List AV} {f' : Nat → List D} (h : m.get r = some (.vec e sz g k f)) (hn : off + n ≤ k) (hc : ∀ i, i < n → BecL m (f (off + i)) (f' i)) : BecP m (.osl r g off n) (.sl sz n f') :=
  .osl h hn (fun i hi => (hc i hi).len) fun i j A x hi => (hc i hi).at j A x
theorem BecL.up {m : Mem} : ∀ l : List D, BecL m (up l) l
  | [] => True.intro
  | _ :: r => ⟨.d, BecL.up r⟩
theorem BecP.rows {m : Mem} {r e sz g off n k} {f : Nat → List AV} {f' : Nat → List D} (h : m.get r = some (.vec e sz g k f)) (hn : off + n ≤ k) (hc : ∀ i, i < n → f (off + i) = Ab.up (f' i)) : BecP m (.osl r g off n) (.sl sz n f') :=
  .osl' h hn fun i hi => by rw [hc i hi]; exact BecL.up _
theorem BecP.fn' {m : Mem} {f} {xs ys : List AV} {xs' ys' : List D} (h1 : BecL m xs xs') (h2 : BecL m ys ys') : BecP m (.fn f xs ys) (.fn f xs' ys') := .fn h1.len h2.len h1.at h2.at
theorem BecP.agg' {m : Mem} {cs : List AV} {xs : List D} (h : BecL m cs xs) : BecP m (.agg cs) (.agg xs) := .agg h.len h.at

section
variable {P : Program} {T : Tab} {w : World} {F : Nat → Prop} {σ : Pls} {m : Mem}
theorem BecP.ok (hm : MemOk m σ F w) {A : AV} {x : D} (e : BecP m A x) : ∀ {v : Value}, Vc w F σ A v → Rd w (Given F σ) x v := by
  induction e with
  | d => intro v h; cases h with | d h => exact h.mono (fun _ h => .inl h) (fun _ _ => rfl)
  | eq he => intro v h; cases h with | d h => exact DEq.ok (h.mono (fun _ h => .inl h) (fun _ _ => rfl)) he
  | @ptr r e off cs xs hB hl _ ih =>
    intro v h
    obtain ⟨pl, hr, hok, _, hat⟩ := ptr_row hm h (Mem.get_at hB)
    obtain ⟨h0, hsz, b, hloc, us, hheap, hlen, hvc⟩ := hok
    obtain ⟨b', tot, hl', rfl⟩ := hat h0
    rw [hloc] at hl'
    obtain ⟨rfl, rfl⟩ := Prod.mk.inj (Option.some.inj hl')
    have := Rd.pt (w := w) (F := Given F σ) (cs := xs) (off := off) ⟨b, 0, none⟩ (fun j => us.getD j undef) (.inr ⟨r, pl, 1, hr, hloc⟩)
      (fun j hj => by
        have hu : us[j]? = some (us[j]'(by omega)) := List.getElem?_eq_getElem (by omega)
        have hA : cs[j]? = some (cs[j]'(by omega)) := List.getElem?_eq_getElem (by omega)
        rw [add_at, Nat.zero_add, cell_of_row w b j us.toArray e (0, 0) hheap]
        have := (hvc j _ _ hA hu).2
        simp only [List.getD_eq_getElem?_getD, hu, Option.getD_some]
        exact ⟨by simp, this⟩)
      (fun j x hx => by
        have hj := (List.getElem?_eq_some_iff.1 hx).1
        have hu : us[j]? = some (us[j]'(by omega)) := List.getElem?_eq_getElem (by omega)
        have hA : cs[j]? = some (cs[j]'(by omega)) := List.getElem?_eq_getElem (by omega)
        simp only [List.getD_eq_getElem?_getD, hu, Option.getD_some]
        exact ih j _ x hA hx (hvc j _ _ hA hu).1)
    rw [add_at] at this
    simpa only [Nat.zero_mul, Nat.zero_add] using this
  | @osl r e sz g off n k f f' hB hn hl _ ih =>
    intro v h
    obtain ⟨pl, hr, hok, _, hat⟩ := osl_row hm h (Mem.get_at hB)
    obtain ⟨h0, hsz, hn0, hrow, hlo⟩ := hok
    have hsl := hat h0
    unfold SlAt at hsl
    split at hsl
    · obtain ⟨rfl, _, rfl⟩ := hsl
      exact .sl ⟨0, 0, none⟩ (fun _ _ => undef) (Nat.le_refl _) (fun h => absurd h (by omega)) (fun i hi => absurd hi (by omega)) (fun i j hi => absurd hi (by omega)) (fun i j x hi => absurd hi (by omega))
    · rename_i b tot hloc
      obtain ⟨B, cap, rfl, hnc, hoc, hA⟩ := hsl
      obtain ⟨hnt, htm, us, hheap, hlen, hvc⟩ := hlo b tot hloc
      have hlen' : ∀ i, i < n → (f' i).length = sz := fun i hi => by rw [← hl i hi]; exact hrow _ (by omega)
      have hcell : ∀ i j, i < n → j < sz → ∃ u, us[(off + i) * sz + j]? = some u ∧ u.oneCell' = true ∧ ∀ x, (f' i)[j]? = some x → Rd w (Given F σ) x u := fun i j hi hj => by
        have hA1 : (f (off + i))[j]? = some ((f (off + i))[j]'(by rw [hrow _ (by omega)]; exact hj)) := List.getElem?_eq_getElem _
        obtain ⟨u, hu, hv, h1⟩ := hvc (off + i) j _ (by omega) hA1
        exact ⟨u, hu, h1, fun x hx => ih i j _ x hi hA1 hx hv⟩
      refine .sl ⟨b, off * sz, none⟩ (fun i j => us.getD ((off + i) * sz + j) undef) hnc (fun hn => ⟨by rw [hA (.inl (by omega)), hsz], .inr ⟨r, pl, tot, hr, hloc⟩⟩) hlen' (fun i j hi hj => ?_) (fun i j x hi hx => ?_)
      · obtain ⟨u, hu, h1, _⟩ := hcell i j hi hj
        rw [add_at, cell_of_row w b _ us.toArray e (0, 0) hheap]
        have e1 : off * sz + (i * sz + j) = (off + i) * sz + j := by rw [Nat.add_mul]; omega
        rw [e1]
        simp [hu, h1]
      · have hj : j < sz := by rw [← hlen' i hi]; exact (List.getElem?_eq_some_iff.1 hx).1
        obtain ⟨u, hu, _, h2⟩ := hcell i j hi hj
        simp only [List.getD_eq_getElem?_getD, hu, Option.getD_some]
        exact h2 x hx
  | fn h1 h2 _ _ i3 i4 =>
    intro v h
    cases h with
    | fn l1 l2 r1 r2 =>
      refine .fn (by omega) (by omega) (fun j x u hx hu => ?_) (fun j x u hx hu => ?_)
      · have hj := (List.getElem?_eq_some_iff.1 hu).1
        exact i3 j _ x (List.getElem?_eq_getElem (by omega)) hx (r1 j _ u (List.getElem?_eq_getElem (by omega)) hu)
      · have hj := (List.getElem?_eq_some_iff.1 hu).1
        exact i4 j _ x (List.getElem?_eq_getElem (by omega)) hx (r2 j _ u (List.getElem?_eq_getElem (by omega)) hu)
  | agg hl _ ih =>
    intro v h
    cases h with
    | agg l1 r1 =>
      refine .agg (by omega) (fun j x u hx hu => ?_)
      have hj := (List.getElem?_eq_some_iff.1 hu).1
      exact ih j _ x (List.getElem?_eq_getElem (by omega)) hx (r1 j _ u (List.getElem?_eq_getElem (by omega)) hu)
  | ifc _ ih => intro v h; cases h with | ifc h => exact .ifc (ih h)
  | @mp r sh has val val' hB _ ih =>
    intro v h
    obtain ⟨pl, b, hr, _, hl, rfl, h1, b', hl', es, clock, ks, g1, g2, g3, g4, g5⟩ := map_row hm h (Mem.get_at hB)
    rw [hl] at hl'
    obtain ⟨rfl, _⟩ := Prod.mk.inj (Option.some.inj hl')
    exact .mapd b es clock ks (.inr ⟨r, pl, 1, hr, hl⟩) g1 g2 g3 (fun i k e hi he => ⟨(g4 i k e hi he).1, (g4 i k e hi he).2.1, (g4 i k e hi he).2.2.1⟩) g5.1 g5.2 (fun i k e hi he => ih k (g4 i k e hi he).2.2.1 (g4 i k e hi he).2.2.2)

theorem BecL.args (hm : MemOk m σ F w) {as : List AV} {xs : List D} {vals : List Value} (h : BecL m as xs) (ha : ArgsOk w F σ as vals) : vals.length = xs.length ∧ ∀ (j : Nat) x u, xs[j]? = some x → vals[j]? = some u → Rd w (Given F σ) x u :=
  ⟨by rw [ha.1, h.len], fun j x u hx hu => by
    have hj : j < as.length := by rw [h.len]; exact (List.getElem?_eq_some_iff.1 hx).1
    have hA : as[j]? = some as[j] := List.getElem?_eq_getElem hj
    exact (h.at j _ x hA hx).ok hm (ha.2 j _ u hA hu)⟩
theorem given_lt (hm : MemOk m σ F w) : ∀ b, Given F σ b → b < w.heap.size := fun b hb => by
  rcases hb with hb | ⟨r, pl, t, h1, h2⟩
  · exact hm.fl b hb
  · exact (hm.nf r pl b t h1 h2).2

/-- Data that point to no memory. -/
def D.flat : D → Bool
  | .int _ _ | .bool _ | .str _ | .nilp | .nili | .nilf | .nilm | .nils => true
  | _ => false
def allFlat : List D → Bool
  | [] => true
  | x :: r => x.flat && allFlat r
theorem Rd.flat {w w' : World} {F F' : Nat → Prop} {x : D} {v : Value} (h : Rd w F x v) (hx : x.flat = true) : Rd w' F' x v := by
  cases h <;> first | (simp [D.flat] at hx; done) | constructor
theorem allFlat_mem : ∀ {l : List D}, allFlat l = true → ∀ x ∈ l, x.flat = true
  | [], _ => fun x h => by simp at h
  | y :: r, h => fun x hx => by
    simp only [allFlat, Bool.and_eq_true] at h
    rcases List.mem_cons.1 hx with rfl | hx
    · exact h.1
    · exact allFlat_mem h.2 x hx
theorem resFlat {w w' : World} {F F' : Nat → Prop} {σ σ' : Pls} {res : List D} {v : Value} (hf : allFlat res = true) (h : Vc w F σ (resAV res) v) : Vc w' F' σ' (resAV res) v := by
  match res, hf, h with
  | [x], hf, h => cases h with | d h => exact .d (h.flat (allFlat_mem hf x (by simp)))
  | [], _, h =>
    simp only [resAV] at h ⊢
    cases h with
    | tup hl h => exact .tup hl fun j A u hA hu => by simp [up] at hA
  | x :: y :: r, hf, h =>
    simp only [resAV] at h ⊢
    cases h with
    | tup hl hh =>
      refine .tup hl fun j A u hA hu => ?_
      obtain ⟨x, hx, rfl⟩ := up_at hA
      have := hh j (.d x) u (by rw [up_eq, List.getElem?_map, hx]; rfl) hu
      cases this with | d h => exact .d (h.flat (allFlat_mem hf x (List.mem_of_getElem? hx)))

/-- What is ours is lent: the call hands back numbers and truths alone. -/
theorem Pure.loan {f : FuncId} {dargs res : List D} (h : Pure P f dargs res) {as : List AV} {K : AV → Mem → Prop} (hs : allFlat res = true) (ha : BecL m as dargs) (hk : K (resAV res) m) : CallVC P f as m K :=
  ⟨h.1, fun σ F w vals hm hv => by
    obtain ⟨h1, h2⟩ := ha.args hm hv
    refine (h.2 (Given F σ) w vals (given_lt hm) (hm.gl.mono (fun _ h => .inl h) fun _ _ => rfl) h1 h2).mono ?_
    rintro e w' ⟨v, F', he, hg, hr⟩
    have hkeep : ∀ b, b < w.heap.size → w'.heap[b]? = w.heap[b]? := hg.keep
    have hm' : MemOk m σ F w' := hm.world hg.size fun b hb => hkeep b (given_lt hm b hb)
    exact ⟨v, resAV res, m, σ, F, he, hk, resFlat hs (hr σ), hm', ⟨hg.os, hg.tape, hg.output, hg.drawn, hg.size, fun b hb _ => hkeep b hb, fun _ h => h, fun _ h => .inl h, fun _ h => .inl h⟩, SLe.refl σ⟩⟩

def dead : List (Option Blk) → List (Option Blk)
  | [] => []
  | _ :: r => none :: dead r
theorem dead_at : ∀ (l : List (Option Blk)) (j : Nat), (dead l)[j]? = (l[j]?).map fun _ => none
  | [], _ => by simp [dead]
  | _ :: _, 0 => by simp [dead]
  | _ :: r, j + 1 => by simpa [dead] using dead_at r j
/-- What is ours is given away: it is never written again. -/
theorem Pure.give {f : FuncId} {dargs res : List D} (h : Pure P f dargs res) {as : List AV} {K : AV → Mem → Prop} (ha : BecL m as dargs) (hk : K (resAV res) ⟨dead m.loc, dead m.own⟩) : CallVC P f as m K :=
  ⟨h.1, fun σ F w vals hm hv => by
    obtain ⟨h1, h2⟩ := ha.args hm hv
    refine (h.2 (Given F σ) w vals (given_lt hm) (hm.gl.mono (fun _ h => .inl h) fun _ _ => rfl) h1 h2).mono ?_
    rintro e w' ⟨v, F', he, hg, hr⟩
    let σ' : Pls := fun r => (σ r).map fun _ => none
    have hat : ∀ r, (⟨dead m.loc, dead m.own⟩ : Mem).at r = (m.at r).map fun _ => none := fun r => by
      cases r with
      | loc j => exact dead_at _ _
      | arg j => exact dead_at _ _
      | bad => rfl
    have hm' : MemOk ⟨dead m.loc, dead m.own⟩ σ' F' w' := ⟨fun r => by
        rw [hat]; have := hm.dom r; simp [σ', this], fun r q hq => by
        simp only [σ', Option.map_eq_some_iff] at hq
        obtain ⟨q0, h3, rfl⟩ := hq
        refine ⟨fun _ => ?_, fun pl h => by cases h⟩
        rw [hat]
        cases hr0 : m.at r with
        | none => rw [(hm.dom r).2 hr0] at h3; cases h3
        | some b => rfl, fun r r' p p' b t t' h3 => by simp [σ'] at h3, fun r p b t h3 => by simp [σ'] at h3, hg.lt, hm.gl.mono (fun b hb => hg.fro b (.inl hb)) fun b hb => hg.keep b (hm.fl b hb)⟩
    refine ⟨v, resAV res, _, σ', F', he, hk, hr σ', hm', ⟨hg.os, hg.tape, hg.output, hg.drawn, hg.size, fun b hb _ => hg.keep b hb, fun b hb => hg.fro b (.inl hb), fun b hb => ?_, fun b ⟨r, p, t, h3, _⟩ => by simp [σ'] at h3⟩, fun r q hq => ⟨none, by simp [σ', hq], QLe.none q⟩⟩
    rcases hg.fro' b hb with (h3 | h3) | h3
    · exact .inl h3
    · exact .inr (.inl h3)
    · exact .inr (.inr h3)⟩
end

/-! ### what is handed back, rows within rows -/
def FinP : List ResultVar → List D → Env → Mem → Prop
  | [], [], _, _ => True
  | .tmp t :: rs, x :: xs, env, m => BecP m (get env t) x ∧ FinP rs xs env m
  | _, _, _, _ => False
def finQP (rs : List ResultVar) (res : List D) : Post := fun e env m => match e with
  | .ret => FinP rs res env m
  | .normal => FinP rs res env m
  | _ => False
section
variable {P : Program} {T : Tab} {w : World} {F : Nat → Prop} {σ : Pls} {m : Mem}
theorem finP_ok (hm : MemOk m σ F w) {env : Env} {tmps : Array Value} (he : EnvOk env w F σ tmps) : ∀ (rs : List ResultVar) (res : List D), FinP rs res env m →
    ∃ vs : List Value, (rs.mapM (resOne tmps)).run P w = .ok vs w ∧ vs.length = res.length ∧ ∀ (j : Nat) x u, res[j]? = some x → vs[j]? = some u → Rd w (Given F σ) x u
  | [], [], _ => ⟨[], by simp, rfl, fun j x u h => by simp at h⟩
  | .tmp t :: rs, x :: xs, h => by
    obtain ⟨h1, h2⟩ := h
    obtain ⟨vs, g1, g2, g3⟩ := finP_ok hm he rs xs h2
    refine ⟨tmps.getD t undef :: vs, by simp [List.mapM_cons, resOne, g1], by simp [g2], fun j y u hy hu => ?_⟩
    cases j with
    | zero => simp at hy hu; subst hy; subst hu; simpa using (he t |> fun hv => BecP.ok hm h1 hv)
    | succ j => exact g3 j y u (by simpa using hy) (by simpa using hu)
  | .cell _ _ :: _, _ :: _, h => by cases h
  | [], _ :: _, h => by cases h
  | .tmp _ :: _, [], h => by cases h
  | .cell _ _ :: _, [], h => by cases h
theorem pure_ruleP (hT : TabOk P T) {f : FuncId} {fn : Func} {c : Code} {N : Nat} {rs : List ResultVar} {args res : List D} (hf : P.funcs[f]? = some fn) (hb : fn.body = some c) (hN : fn.ntmps = N) (hrs : fn.results = rs.toArray)
    (hname : (fn.name == "runtime.NumGoroutine") = false) (hargs : Nat.ble args.length N = true) (h : Ev (vc P T N c (envOf 0 args) ⟨[], []⟩ (finQP rs res))) : Pure P f args res := by
  refine ⟨⟨fn, hf, hname, by simp [hb]⟩, fun F w vals hF hG hl hv => ?_⟩
  refine callsFen.1 (callsIn_of_wp_marks (F := Fen none) (n := 0) hf hb trivial ?_ rfl)
  let σ0 : Pls := fun _ => none
  have hm0 : MemOk ⟨[], []⟩ σ0 F w := ⟨fun r => by cases r <;> simp [σ0, Mem.at], fun r q h => (by cases h), fun r r' p p' b t t' h => (by cases h), fun r p b t h => (by cases h), hF, hG⟩
  have hle := Nat.le_of_ble_eq_true hargs
  have hwp := (vc_ok hT c (envOf 0 args) ⟨[], []⟩ (finQP rs res) h.o).run none w.heap.size { tmps := vals.toArray ++ Array.replicate (fn.ntmps - vals.toArray.size) undef, defers := [] } w σ0 F (by simp [hN]; omega) Ctx.nil (envOf_ok hl hv _) hm0
  refine wpIn_mono hwp ?_
  rintro e a w1 ⟨env', m', σ', F', q1, q2, q3, q4, q5, q6, q7⟩
  have hend : FinP rs res env' m' → LeavesInM (Fen none) 0 P fn a.tmps (fun e w' => ∃ v F', e = .returned v ∧ Grew F w F' w' ∧ ∀ σ, Vc w' F' σ (resAV res) v) a.defers .returning w1 := by
    intro hfin
    obtain ⟨Ds, hDs, hnd, hD⟩ := q3.marks
    rw [hDs]
    refine leaves_marks Ds w1 hnd (fun D h => (hD D h).2.1) fun w' k1 k2 k3 kd k4 k5 => ?_
    have kF : ∀ b, F' b → w'.heap[b]? = w1.heap[b]? := fun b hb => k5 b fun hm => (hD b hm).2.2.2 hb
    have kO : ∀ b, Owned σ' b → w'.heap[b]? = w1.heap[b]? := fun b hb => k5 b fun hm => (hD b hm).2.2.1 hb
    replace q4 : EnvOk env' w' F' σ' a.tmps := q4.mono (fun _ h => h) kF (SLe.refl σ')
    replace q5 : MemOk m' σ' F' w' := q5.world (by omega) fun b hb => by
      rcases hb with hb | hb
      · exact kF b hb
      · exact kO b hb
    replace q6 : Step σ0 F w σ' F' w' := ⟨k1.trans q6.os, k2.trans q6.tape, k3.trans q6.output, Nat.le_trans q6.drawn (Nat.le_of_eq kd.symm), by rw [k4]; exact q6.size, fun b hb ho => (k5 b fun hm => by have := (hD b hm).1; omega).trans (q6.keep b hb ho), q6.fro, q6.fro', q6.own⟩
    obtain ⟨vs, g1, g2, g3⟩ := finP_ok (P := P) q5 q4 rs res hfin
    have hrun : (results fn a.tmps).run P w' = .ok (if h : vs.toArray.size = 1 then vs.toArray[0] else .tuple vs.toArray) w' := by
      have e : results fn a.tmps = (do let vs ← fn.results.mapM (resOne a.tmps); pure (if h : vs.size = 1 then vs[0] else .tuple vs)) := by
        unfold results
        congr 1
      rw [e, hrs, Array.mapM_eq_mapM_toList]
      simp [g1]
    refine ⟨_, hrun, _, Given F' σ', rfl, ⟨q6.os, q6.tape, q6.output, q6.drawn, q6.size, fun b hb => q6.keep b hb (fun ⟨r, p, t, h1, _⟩ => by cases h1), fun b hb => .inl (q6.fro b hb), fun b hb => ?_, fun b hb => ?_⟩, fun σ => ?_⟩
    · rcases hb with hb | hb
      · rcases q6.fro' b hb with h1 | ⟨r, p, t, h1, _⟩ | h1
        · exact .inl h1
        · cases h1
        · exact .inr h1
      · rcases q6.own b hb with ⟨r, p, t, h1, _⟩ | h1
        · cases h1
        · exact .inr h1
    · rcases hb with hb | ⟨r, p, t, h1, h2⟩
      · exact q5.fl b hb
      · exact (q5.nf r p b t h1 h2).2
    · have tup : Vc w' (Given F' σ') σ (.tup (up res)) (.tuple vs.toArray) := .tup (by rw [up_eq, List.length_map, g2]) fun j A u hA hu => by
        obtain ⟨x, hx, rfl⟩ := up_at hA
        exact .d (g3 j x u hx hu)
      match res, vs, g2, g3, tup with
      | [], [], _, _, tup => simpa [resAV] using tup
      | [x], [v], _, g3, _ => simpa [resAV] using Vc.d (g3 0 x v rfl rfl)
      | x :: y :: xs, a :: b :: vs, _, _, tup => simpa [resAV] using tup
      | [], _ :: _, h, _, _ => simp at h
      | _ :: _, [], h, _, _ => simp at h
      | [_], _ :: _ :: _, h, _, _ => simp at h
      | _ :: _ :: _, [_], h, _, _ => simp at h
  cases e with
  | normal => exact hend q1
  | ret => exact hend q1
  | _ => exact q1.elim
end
end Go.Ab
/-
  The engine, part Q: contracts of functions that are handed memory of their own; the frame around them.
-/
namespace Go.Ab
set_option linter.unusedSimpArgs false
set_option linter.unusedVariables false

/-! ### names of blocks written anew -/
mutual
def ren (ρ : Ref → Ref) : AV → AV
  | .d x => .d x
  | .agg cs => .agg (renL ρ cs)
  | .tup cs => .tup (renL ρ cs)
  | .ifc t x => .ifc t (ren ρ x)
  | .fn f xs ys => .fn f (renL ρ xs) (renL ρ ys)
  | .ptr r g i off => .ptr (ρ r) g i off
  | .osl r g off n => .osl (ρ r) g off n
  | .mp r => .mp (ρ r)
  | .gd b x => .gd b (ren ρ x)
  | .junk => .junk
def renL (ρ : Ref → Ref) : List AV → List AV
  | [] => []
  | A :: r => ren ρ A :: renL ρ r
end
def renE (ρ : Ref → Ref) : List (Nat × AV) → List (Nat × AV)
  | [] => []
  | (t, A) :: r => (t, ren ρ A) :: renE ρ r
theorem renE_eq (ρ : Ref → Ref) : ∀ l : List (Nat × AV), renE ρ l = l.map fun p => (p.1, ren ρ p.2)
  | [] => rfl
  | (t, A) :: r => by simp [renE, renE_eq ρ r]
def renB (ρ : Ref → Ref) : Blk → Blk
  | .box e cs => .box e (renL ρ cs)
  | .vec e sz g n f => .vec e sz g n fun i => renL ρ (f i)
  | .loop b r env => .loop b r (renE ρ env)
  | .map sh has val => .map sh has fun k => ren ρ (val k)
  | .room e sz g n c f => .room e sz g n c fun i => renL ρ (f i)
  | .ent sh has val key c => .ent sh has (fun k => ren ρ (val k)) key c
  | .opq => .opq
  | .iter sh has val left cur => .iter sh has val left cur
  | .look sh key v hk => .look sh key (ren ρ v) hk
def renO (ρ : Ref → Ref) : Option Blk → Option Blk
  | none => none
  | some B => some (renB ρ B)
def renM (ρ : Ref → Ref) : List (Option Blk) → List (Option Blk)
  | [] => []
  | b :: r => renO ρ b :: renM ρ r
theorem renL_eq (ρ : Ref → Ref) : ∀ l : List AV, renL ρ l = l.map (ren ρ)
  | [] => by simp [renL]
  | A :: r => by simp [renL, renL_eq ρ r]
theorem renM_eq (ρ : Ref → Ref) : ∀ l : List (Option Blk), renM ρ l = l.map (renO ρ)
  | [] => rfl
  | A :: r => by simp [renM, renM_eq ρ r]
theorem renL_up (ρ : Ref → Ref) (l : List D) : renL ρ (up l) = up l := by
  induction l with
  | nil => simp [up, renL]
  | cons x r ih => simp [up, renL, ren, ih]

/-- Where the callee's own blocks lie with the caller. -/
def nth : List Ref → Nat → Ref
  | [], _ => .bad
  | r :: _, 0 => r
  | _ :: s, j + 1 => nth s j
def inn (rs : List Ref) : Ref → Ref
  | .arg j => nth rs j
  | _ => .bad
def out (k : Nat) (rs : List Ref) : Ref → Ref
  | .arg j => nth rs j
  | .loc j => .loc (k + j)
  | .bad => .bad
def putAll : Mem → List Ref → List (Option Blk) → Mem
  | m, r :: rs, b :: bs => putAll (m.put r b) rs bs
  | m, _, _ => m
def app : List (Option Blk) → List (Option Blk) → List (Option Blk)
  | [], l => l
  | b :: r, l => b :: app r l
def back (m : Mem) (rs : List Ref) (m0 : Mem) : Mem :=
  match putAll m rs (renM (out (lenL m.loc) rs) m0.own) with
  | ⟨l, o⟩ => ⟨app l (renM (out (lenL m.loc) rs) m0.loc), o⟩
def memR (r : Ref) : List Ref → Bool
  | [] => false
  | s :: t => decide (s = r) || memR r t
def nodupR : List Ref → Bool
  | [] => true
  | r :: s => !memR r s && nodupR s
def Picks (m : Mem) (ρ : Ref → Ref) : List Ref → List (Option Blk) → Prop
  | [], [] => True
  | r :: rs, b :: bs => m.at r = some (renO ρ b) ∧ Picks m ρ rs bs
  | _, _ => False

section
variable {P : Program} {T : Tab} {w : World} {F : Nat → Prop} {σ σ' : Pls} {m : Mem}

theorem Vc.inn {ρ : Ref → Ref} : ∀ {B : AV} {v : Value}, Vc w F σ B v → ∀ {A : AV}, B = ren ρ A → Vc w F (fun r => σ (ρ r)) A v := by
  intro B v h
  induction h with
  | d h => intro A e; cases A <;> simp [ren] at e; subst e; exact .d h
  | agg hl h ih =>
    intro A e
    cases A <;> simp [ren] at e
    subst e
    rw [renL_eq] at hl
    refine .agg (by simpa using hl) fun j x u hx hu => ih j _ u (by rw [renL_eq, List.getElem?_map, hx]; rfl) hu rfl
  | tup hl h ih =>
    intro A e
    cases A <;> simp [ren] at e
    subst e
    rw [renL_eq] at hl
    refine .tup (by simpa using hl) fun j x u hx hu => ih j _ u (by rw [renL_eq, List.getElem?_map, hx]; rfl) hu rfl
  | ifc h ih =>
    intro A e
    cases A <;> simp [ren] at e
    obtain ⟨rfl, rfl⟩ := e
    exact .ifc (ih rfl)
  | fn h1 h2 h3 h4 i3 i4 =>
    intro A e
    cases A <;> simp [ren] at e
    obtain ⟨rfl, rfl, rfl⟩ := e
    rw [renL_eq] at h1 h2
    refine .fn (by simpa using h1) (by simpa using h2) (fun j x u hx hu => i3 j _ u (by rw [renL_eq, List.getElem?_map, hx]; rfl) hu rfl) (fun j x u hx hu => i4 j _ u (by rw [renL_eq, List.getElem?_map, hx]; rfl) hu rfl)
  | ptr hr h =>
    intro A e
    cases A <;> simp [ren] at e
    obtain ⟨rfl, rfl, rfl, rfl⟩ := e
    exact .ptr hr h
  | osl hr h =>
    intro A e
    cases A <;> simp [ren] at e
    obtain ⟨rfl, rfl, rfl, rfl⟩ := e
    exact .osl hr h
  | mp hr h =>
    intro A e
    cases A <;> simp [ren] at e
    subst e
    exact .mp hr h
  | gd h h' ih =>
    intro A e
    cases A <;> simp [ren] at e
    obtain ⟨rfl, rfl⟩ := e
    exact .gd (fun hb => ih hb rfl) h'
  | junk => intro A e; cases A <;> simp [ren] at e; exact .junk

theorem Vc.out {ρ : Ref → Ref} (hs : ∀ r q, σ r = some q → σ' (ρ r) = some q) : ∀ {A : AV} {v : Value}, Vc w F σ A v → Vc w F σ' (ren ρ A) v := by
  intro A v h
  induction h with
  | d h => simp only [ren]; exact .d h
  | agg hl h ih =>
    simp only [ren, renL_eq]
    refine .agg (by simpa using hl) fun j x u hx hu => ?_
    rw [List.getElem?_map, Option.map_eq_some_iff] at hx
    obtain ⟨y, hy, rfl⟩ := hx
    exact ih j y u hy hu
  | tup hl h ih =>
    simp only [ren, renL_eq]
    refine .tup (by simpa using hl) fun j x u hx hu => ?_
    rw [List.getElem?_map, Option.map_eq_some_iff] at hx
    obtain ⟨y, hy, rfl⟩ := hx
    exact ih j y u hy hu
  | ifc h ih => simp only [ren]; exact .ifc ih
  | fn h1 h2 h3 h4 i3 i4 =>
    simp only [ren, renL_eq]
    refine .fn (by simpa using h1) (by simpa using h2) (fun j x u hx hu => ?_) (fun j x u hx hu => ?_)
    · rw [List.getElem?_map, Option.map_eq_some_iff] at hx
      obtain ⟨y, hy, rfl⟩ := hx
      exact i3 j y u hy hu
    · rw [List.getElem?_map, Option.map_eq_some_iff] at hx
      obtain ⟨y, hy, rfl⟩ := hx
      exact i4 j y u hy hu
  | ptr hr h => simp only [ren]; exact .ptr (hs _ _ hr) h
  | osl hr h => simp only [ren]; exact .osl (hs _ _ hr) h
  | mp hr h => simp only [ren]; exact .mp (hs _ _ hr) h
  | gd h h' ih => simp only [ren]; exact .gd (fun hb => ih hb) h'
  | junk => simp only [ren]; exact .junk

theorem VecOk.inn {ρ : Ref → Ref} {e sz g n : Nat} {f : Nat → List AV} {pl : Pl} (h : VecOk w F σ e sz g n (fun i => renL ρ (f i)) pl) : VecOk w F (fun r => σ (ρ r)) e sz g n f pl := by
  obtain ⟨h1, h2, h3, h4, h5⟩ := h
  refine ⟨h1, h2, h3, fun i hi => by have : (renL ρ (f i)).length = sz := h4 i hi; rw [renL_eq] at this; simpa using this, fun b tot hl => ?_⟩
  obtain ⟨h6, h6', us, h7, h8, h9⟩ := h5 b tot hl
  refine ⟨h6, h6', us, h7, h8, fun i j A hi hA => ?_⟩
  obtain ⟨u, hu, hv, h1⟩ := h9 i j (ren ρ A) hi (by show (renL ρ (f i))[j]? = _; rw [renL_eq, List.getElem?_map, hA]; rfl)
  exact ⟨u, hu, hv.inn rfl, h1⟩
theorem BlkOk.inn {ρ : Ref → Ref} {B : Blk} {pl : Pl} (h : BlkOk w F σ (renB ρ B) pl) : BlkOk w F (fun r => σ (ρ r)) B pl := by
  cases B with
  | box e cs =>
    obtain ⟨h1, h2, b, h3, us, h4, h5, h6⟩ := h
    rw [renL_eq] at h2 h5
    refine ⟨h1, by simpa using h2, b, h3, us, h4, by simpa using h5, fun j A u hA hu => ?_⟩
    have := h6 j _ u (by rw [renL_eq, List.getElem?_map, hA]; rfl) hu
    exact ⟨this.1.inn rfl, this.2⟩
  | vec e sz g n f =>
    obtain ⟨h1, h2, h3, h4, h5⟩ := h
    refine ⟨h1, h2, h3, fun i hi => by have : (renL ρ (f i)).length = sz := h4 i hi; rw [renL_eq] at this; simpa using this, fun b tot hl => ?_⟩
    obtain ⟨h6, h6', us, h7, h8, h9⟩ := h5 b tot hl
    refine ⟨h6, h6', us, h7, h8, fun i j A hi hA => ?_⟩
    obtain ⟨u, hu, hv, h1⟩ := h9 i j (ren ρ A) hi (by show (renL ρ (f i))[j]? = _; rw [renL_eq, List.getElem?_map, hA]; rfl)
    exact ⟨u, hu, hv.inn rfl, h1⟩
  | loop b r env =>
    obtain ⟨h1, h2, h3, h4⟩ := h
    exact ⟨h1, h2, h3, fun j t A hj => (h4 j t (ren ρ A) (by rw [renE_eq, List.getElem?_map, hj]; rfl)).inn rfl⟩
  | map sh has val =>
    obtain ⟨h1, b, h2, es, clock, ks, h3, h4, h5, h6, h7⟩ := h
    exact ⟨h1, b, h2, es, clock, ks, h3, h4, h5, fun i k e hi he => ⟨(h6 i k e hi he).1, (h6 i k e hi he).2.1, (h6 i k e hi he).2.2.1, (h6 i k e hi he).2.2.2.inn rfl⟩, h7⟩
  | room e sz g n c f => exact ⟨VecOk.inn h.1, h.2⟩
  | ent sh has val key c =>
    obtain ⟨h1, b, h2, es, clock, ks, h3, h4, h5, h6, h7⟩ := h
    exact ⟨h1, b, h2, es, clock, ks, h3, h4, h5, fun i k e hi he => ⟨(h6 i k e hi he).1, (h6 i k e hi he).2.1, (h6 i k e hi he).2.2.1, fun hk => ((h6 i k e hi he).2.2.2 hk).inn rfl⟩, h7⟩
  | opq => exact h
  | iter => exact h
  | look sh key v hk =>
    obtain ⟨h1, b, h2, es, clock, ks, h3, h4, h5, h6, h7⟩ := h
    exact ⟨h1, b, h2, es, clock, ks, h3, h4, h5, h6, fun i e hi he => (h7 i e hi he).inn rfl⟩
theorem VecOk.out {ρ : Ref → Ref} (hs : ∀ r q, σ r = some q → σ' (ρ r) = some q) {e sz g n : Nat} {f : Nat → List AV} {pl : Pl} (h : VecOk w F σ e sz g n f pl) : VecOk w F σ' e sz g n (fun i => renL ρ (f i)) pl := by
  obtain ⟨h1, h2, h3, h4, h5⟩ := h
  refine ⟨h1, h2, h3, fun i hi => by simpa [renL_eq] using h4 i hi, fun b tot hl => ?_⟩
  obtain ⟨h6, h6', us, h7, h8, h9⟩ := h5 b tot hl
  refine ⟨h6, h6', us, h7, h8, fun i j A hi hA => ?_⟩
  replace hA : (renL ρ (f i))[j]? = some A := hA
  rw [renL_eq, List.getElem?_map, Option.map_eq_some_iff] at hA
  obtain ⟨A0, hA0, rfl⟩ := hA
  obtain ⟨u, hu, hv, h1⟩ := h9 i j A0 hi hA0
  exact ⟨u, hu, hv.out hs, h1⟩
theorem BlkOk.out {ρ : Ref → Ref} (hs : ∀ r q, σ r = some q → σ' (ρ r) = some q) {B : Blk} {pl : Pl} (h : BlkOk w F σ B pl) : BlkOk w F σ' (renB ρ B) pl := by
  cases B with
  | box e cs =>
    obtain ⟨h1, h2, b, h3, us, h4, h5, h6⟩ := h
    refine ⟨h1, by simpa [renL_eq] using h2, b, h3, us, h4, by simpa [renL_eq] using h5, fun j A u hA hu => ?_⟩
    rw [renL_eq, List.getElem?_map, Option.map_eq_some_iff] at hA
    obtain ⟨A0, hA0, rfl⟩ := hA
    exact ⟨(h6 j A0 u hA0 hu).1.out hs, (h6 j A0 u hA0 hu).2⟩
  | vec e sz g n f =>
    obtain ⟨h1, h2, h3, h4, h5⟩ := h
    refine ⟨h1, h2, h3, fun i hi => by simpa [renL_eq] using h4 i hi, fun b tot hl => ?_⟩
    obtain ⟨h6, h6', us, h7, h8, h9⟩ := h5 b tot hl
    refine ⟨h6, h6', us, h7, h8, fun i j A hi hA => ?_⟩
    replace hA : (renL ρ (f i))[j]? = some A := hA
    rw [renL_eq, List.getElem?_map, Option.map_eq_some_iff] at hA
    obtain ⟨A0, hA0, rfl⟩ := hA
    obtain ⟨u, hu, hv, h1⟩ := h9 i j A0 hi hA0
    exact ⟨u, hu, hv.out hs, h1⟩
  | loop b r env =>
    obtain ⟨h1, h2, h3, h4⟩ := h
    refine ⟨h1, h2, h3, fun j t A hj => ?_⟩
    rw [renE_eq, List.getElem?_map, Option.map_eq_some_iff] at hj
    obtain ⟨⟨t0, A0⟩, hj0, e⟩ := hj
    simp only [Prod.mk.injEq] at e
    obtain ⟨rfl, rfl⟩ := e
    exact (h4 j t0 A0 hj0).out hs
  | map sh has val =>
    obtain ⟨h1, b, h2, es, clock, ks, h3, h4, h5, h6, h7⟩ := h
    exact ⟨h1, b, h2, es, clock, ks, h3, h4, h5, fun i k e hi he => ⟨(h6 i k e hi he).1, (h6 i k e hi he).2.1, (h6 i k e hi he).2.2.1, (h6 i k e hi he).2.2.2.out hs⟩, h7⟩
  | room e sz g n c f => exact ⟨VecOk.out hs h.1, h.2⟩
  | ent sh has val key c =>
    obtain ⟨h1, b, h2, es, clock, ks, h3, h4, h5, h6, h7⟩ := h
    exact ⟨h1, b, h2, es, clock, ks, h3, h4, h5, fun i k e hi he => ⟨(h6 i k e hi he).1, (h6 i k e hi he).2.1, (h6 i k e hi he).2.2.1, fun hk => ((h6 i k e hi he).2.2.2 hk).out hs⟩, h7⟩
  | opq => exact h
  | iter => exact h
  | look sh key v hk =>
    obtain ⟨h1, b, h2, es, clock, ks, h3, h4, h5, h6, h7⟩ := h
    exact ⟨h1, b, h2, es, clock, ks, h3, h4, h5, h6, fun i e hi he => (h7 i e hi he).out hs⟩

theorem nth_mem : ∀ {rs : List Ref} {j : Nat}, j < rs.length → memR (nth rs j) rs = true
  | r :: s, 0, _ => by simp [nth, memR]
  | r :: s, j + 1, h => by simp only [nth, memR, nth_mem (rs := s) (j := j) (by simpa using h), Bool.or_true]
  | [], _, h => by simp at h
theorem mem_nth : ∀ {rs : List Ref} {r : Ref}, memR r rs = true → ∃ j, j < rs.length ∧ nth rs j = r
  | [], r, h => by simp [memR] at h
  | s :: t, r, h => by
    simp only [memR, Bool.or_eq_true, decide_eq_true_eq] at h
    rcases h with rfl | h
    · exact ⟨0, by simp, rfl⟩
    · obtain ⟨j, h1, h2⟩ := mem_nth h
      exact ⟨j + 1, by simpa using h1, h2⟩
theorem nth_inj : ∀ {rs : List Ref}, nodupR rs = true → ∀ {i j : Nat}, i < rs.length → j < rs.length → nth rs i = nth rs j → i = j
  | [], _, i, _, h, _, _ => by simp at h
  | r :: s, hn, i, j, hi, hj, e => by
    simp only [nodupR, Bool.and_eq_true, Bool.not_eq_true'] at hn
    cases i with
    | zero => cases j with
      | zero => rfl
      | succ j =>
        have := nth_mem (rs := s) (j := j) (by simpa using hj)
        simp only [nth] at e
        rw [← e, hn.1] at this
        cases this
    | succ i => cases j with
      | zero =>
        have := nth_mem (rs := s) (j := i) (by simpa using hi)
        simp only [nth] at e
        rw [e, hn.1] at this
        cases this
      | succ j => exact congrArg (· + 1) (nth_inj hn.2 (i := i) (j := j) (by simpa using hi) (by simpa using hj) (by simpa [nth] using e))
theorem nth_bad : ∀ {rs : List Ref} {j : Nat}, rs.length ≤ j → nth rs j = .bad
  | [], _, _ => rfl
  | _ :: _, 0, h => by simp at h
  | _ :: s, j + 1, h => nth_bad (rs := s) (by simpa using h)
theorem Picks.len {ρ : Ref → Ref} : ∀ {rs : List Ref} {bs : List (Option Blk)}, Picks m ρ rs bs → rs.length = bs.length
  | [], [], _ => rfl
  | _ :: _, _ :: _, h => by simp [Picks.len h.2]
  | [], _ :: _, h => h.elim
  | _ :: _, [], h => h.elim
theorem Picks.get {ρ : Ref → Ref} : ∀ {rs : List Ref} {bs : List (Option Blk)}, Picks m ρ rs bs → ∀ {j : Nat} {b}, bs[j]? = some b → m.at (nth rs j) = some (renO ρ b)
  | [], [], _, j, b, h => by simp at h
  | r :: rs, b :: bs, h, j, b', hb => by
    cases j with
    | zero => simp at hb; subst hb; exact h.1
    | succ j => exact Picks.get h.2 (by simpa using hb)
  | [], _ :: _, h, _, _, _ => h.elim
  | _ :: _, [], h, _, _, _ => h.elim
theorem putAll_other : ∀ {rs : List Ref} {bs : List (Option Blk)} {m : Mem} {r : Ref}, memR r rs = false → (putAll m rs bs).at r = m.at r
  | [], _, m, r, _ => by simp [putAll]
  | s :: t, [], m, r, _ => by simp [putAll]
  | s :: t, b :: bs, m, r, h => by
    simp only [memR, Bool.or_eq_false_iff, decide_eq_false_iff_not] at h
    simp only [putAll]
    rw [putAll_other h.2, put_other]
    exact fun e => h.1 e.symm
theorem put_dom {r s : Ref} (b : Option Blk) : (∃ x, m.at s = some x) → ∃ x, (m.put r b).at s = some x := fun ⟨x, hx⟩ => by
  by_cases e : s = r
  · subst e; exact ⟨b, put_self b hx⟩
  · exact ⟨x, by rw [put_other b e]; exact hx⟩
theorem putAll_at : ∀ {rs : List Ref} {bs : List (Option Blk)} {m : Mem}, nodupR rs = true → (∀ j, j < rs.length → ∃ x, m.at (nth rs j) = some x) → ∀ {j : Nat} {b}, j < rs.length → bs[j]? = some b → (putAll m rs bs).at (nth rs j) = some b
  | [], _, m, _, _, j, b, h, _ => by simp at h
  | s :: t, [], m, _, _, j, b, _, h => by simp at h
  | s :: t, c :: bs, m, hn, hd, j, b, hj, hb => by
    simp only [nodupR, Bool.and_eq_true, Bool.not_eq_true'] at hn
    simp only [putAll]
    cases j with
    | zero =>
      simp only [nth]
      simp only [List.getElem?_cons_zero, Option.some.injEq] at hb
      subst hb
      rw [putAll_other hn.1]
      obtain ⟨x, hx⟩ := hd 0 (by simp)
      exact put_self _ hx
    | succ j =>
      simp only [nth]
      exact putAll_at hn.2 (fun i hi => put_dom c (hd (i + 1) (by simpa using hi))) (by simpa using hj) (by simpa using hb)
theorem put_lens (r : Ref) (b : Option Blk) : (m.put r b).loc.length = m.loc.length ∧ (m.put r b).own.length = m.own.length := by
  cases r <;> simp [Mem.put, putAt_eq]
theorem putAll_lens : ∀ (rs : List Ref) (bs : List (Option Blk)) (m : Mem), (putAll m rs bs).loc.length = m.loc.length ∧ (putAll m rs bs).own.length = m.own.length
  | [], _, m => by simp [putAll]
  | s :: t, [], m => by simp [putAll]
  | s :: t, c :: bs, m => by
    simp only [putAll]
    have h1 := putAll_lens t bs (m.put s c)
    have h2 := put_lens (m := m) s c
    exact ⟨h1.1.trans h2.1, h1.2.trans h2.2⟩
theorem app_eq (l k : List (Option Blk)) : app l k = l ++ k := by
  induction l with
  | nil => rfl
  | cons b r ih => simp [app, ih]

theorem back_at {rs : List Ref} {m0 : Mem} (hn : nodupR rs = true) (hd : ∀ j, j < rs.length → ∃ x, m.at (nth rs j) = some x) (hl : m0.own.length = rs.length) :
    (∀ r, memR r rs = false → (∀ j, r ≠ .loc (m.loc.length + j)) → (back m rs m0).at r = m.at r) ∧
    (∀ r b, m0.at r = some b → (back m rs m0).at (out m.loc.length rs r) = some (renO (out m.loc.length rs) b)) ∧
    (∀ j, m0.loc[j]? = none → (back m rs m0).at (.loc (m.loc.length + j)) = none) := by
  have hlen := putAll_lens rs (renM (out (lenL m.loc) rs) m0.own) m
  have hb : back m rs m0 = ⟨(putAll m rs (renM (out m.loc.length rs) m0.own)).loc ++ renM (out m.loc.length rs) m0.loc, (putAll m rs (renM (out m.loc.length rs) m0.own)).own⟩ := by
    simp only [back, app_eq, lenL_eq]
  rw [lenL_eq] at hlen
  generalize hM : putAll m rs (renM (out m.loc.length rs) m0.own) = M at hb hlen
  have hin : ∀ r, (∀ j, r ≠ .loc (m.loc.length + j)) → (back m rs m0).at r = M.at r := fun r hr => by
    rw [hb]
    cases r with
    | loc j =>
      have : j < m.loc.length := by
        rcases Nat.lt_or_ge j m.loc.length with h | h
        · exact h
        · exact absurd (by congr 1; omega) (hr (j - m.loc.length))
      simp only [Mem.at]
      rw [List.getElem?_append_left (by omega)]
    | _ => rfl
  have hnl : ∀ j, j < rs.length → ∀ i, nth rs j ≠ .loc (m.loc.length + i) := fun j hj i e => by
    obtain ⟨x, hx⟩ := hd j hj
    rw [e] at hx
    simp [Mem.at] at hx
  refine ⟨fun r hr hl => ?_, fun r b hr => ?_, fun j hj => ?_⟩
  · rw [hin r hl, ← hM, putAll_other hr]
  · cases r with
    | loc j =>
      simp only [out, hb, Mem.at]
      rw [List.getElem?_append_right (by omega), hlen.1, Nat.add_sub_cancel_left, renM_eq, List.getElem?_map]
      simp only [Mem.at] at hr
      rw [hr]; rfl
    | arg j =>
      simp only [Mem.at] at hr
      have hj : j < rs.length := by rw [← hl]; exact (List.getElem?_eq_some_iff.1 hr).1
      simp only [out]
      rw [hin _ (hnl j hj), ← hM]
      exact putAll_at hn hd hj (by rw [renM_eq, List.getElem?_map, hr]; rfl)
    | bad => cases hr
  · rw [hb]
    simp only [Mem.at]
    rw [List.getElem?_append_right (by omega), hlen.1, Nat.add_sub_cancel_left, renM_eq, List.getElem?_map, hj]
    rfl

/-- THE FRAME: a contract over the blocks that the callee owns serves wherever they lie. -/
theorem CallVC.frame {f : FuncId} {as : List AV} {own : List (Option Blk)} {K0 K : AV → Mem → Prop} (h : CallVC P f as ⟨[], own⟩ K0) (rs : List Ref)
    (hn : nodupR rs = true) (hp : Picks m (inn rs) rs own)
    (hk : ∀ A m0, K0 A m0 → lenL m0.own = lenL own ∧ K (ren (out (lenL m.loc) rs) A) (back m rs m0)) : CallVC P f (renL (inn rs) as) m K := by
  refine ⟨h.can, fun σ F w vals hm ha => ?_⟩
  have hlen := hp.len
  let σ0 : Pls := fun r => σ (inn rs r)
  have hbad : σ .bad = none := (hm.dom .bad).2 rfl
  have h0loc : ∀ j, σ0 (.loc j) = none := fun j => hbad
  have h0 : ∀ r q, σ0 r = some q → ∃ j, r = .arg j ∧ j < rs.length ∧ σ (nth rs j) = some q := fun r q hq => by
    cases r with
    | loc j => rw [h0loc] at hq; cases hq
    | bad => rw [show σ0 .bad = none from hbad] at hq; cases hq
    | arg j =>
      refine ⟨j, rfl, ?_, hq⟩
      rcases Nat.lt_or_ge j rs.length with h' | h'
      · exact h'
      · have : σ0 (.arg j) = σ .bad := by simp only [σ0, inn, nth_bad h']
        rw [this, hbad] at hq; cases hq
  have hownat : ∀ j, j < rs.length → ∃ b, own[j]? = some b ∧ m.at (nth rs j) = some (renO (inn rs) b) := fun j hj => by
    have : own[j]? = some own[j] := List.getElem?_eq_getElem (by omega)
    exact ⟨_, this, hp.get this⟩
  have hm0 : MemOk ⟨[], own⟩ σ0 F w := by
    refine ⟨fun r => ?_, fun r q hq => ?_, fun r r' pl pl' b t t' e1 e2 e3 e4 => ?_, fun r pl b t e1 e2 => ?_, hm.fl, hm.gl⟩
    · cases r with
      | loc j => simp [h0loc, Mem.at]
      | bad => simp [show σ0 .bad = none from hbad, Mem.at]
      | arg j =>
        simp only [Mem.at]
        rcases Nat.lt_or_ge j rs.length with h' | h'
        · obtain ⟨b, e1, e2⟩ := hownat j h'
          have hne : σ0 (.arg j) ≠ none := fun e => by
            have := (hm.dom (nth rs j)).1 e
            rw [e2] at this; cases this
          rw [e1]
          constructor
          · intro e; exact absurd e hne
          · intro e; cases e
        · have e1 : σ0 (.arg j) = none := by simp only [σ0, inn, nth_bad h', hbad]
          rw [e1, List.getElem?_eq_none (by omega)]
          exact ⟨fun _ => rfl, fun _ => rfl⟩
    · obtain ⟨j, rfl, hj, hq'⟩ := h0 r q hq
      obtain ⟨b, e1, e2⟩ := hownat j hj
      obtain ⟨l1, l2⟩ := hm.lv _ _ hq'
      refine ⟨fun e => ?_, fun pl e => ?_⟩
      · have := l1 e
        rw [e2] at this
        cases b with
        | none => simpa [Mem.at] using e1
        | some B => simp [renO] at this
      · obtain ⟨B, g1, g2⟩ := l2 pl e
        rw [e2] at g1
        cases b with
        | none => simp [renO] at g1
        | some B0 =>
          simp only [renO, Option.some.injEq] at g1
          subst g1
          exact ⟨B0, e1, g2.inn⟩
    · obtain ⟨i, rfl, hi, e1'⟩ := h0 r _ e1
      obtain ⟨j, rfl, hj, e2'⟩ := h0 r' _ e2
      have := hm.inj _ _ _ _ _ _ _ e1' e2' e3 e4
      rw [nth_inj hn hi hj this]
    · obtain ⟨j, rfl, hj, e1'⟩ := h0 r _ e1
      exact hm.nf _ _ _ _ e1' e2
  have ha0 : ArgsOk w F σ0 as vals := by
    obtain ⟨a1, a2⟩ := ha
    rw [renL_eq] at a1
    exact ⟨by simpa using a1, fun j A u hA hu => (a2 j _ u (by rw [renL_eq, List.getElem?_map, hA]; rfl) hu).inn rfl⟩
  refine (h.run σ0 F w vals hm0 ha0).mono ?_
  rintro e w' ⟨v, A, m1, σ1, F', he, hK, hv, hm1, hs, hle⟩
  obtain ⟨hlo, hk⟩ := hk A m1 hK
  rw [lenL_eq, lenL_eq, ← hlen] at hlo
  rw [lenL_eq] at hk
  have hd : ∀ j, j < rs.length → ∃ x, m.at (nth rs j) = some x := fun j hj => by
    obtain ⟨b, _, e2⟩ := hownat j hj
    exact ⟨_, e2⟩
  obtain ⟨b1, b2, b3⟩ := back_at (m := m) (rs := rs) (m0 := m1) hn hd hlo
  let ρ := out m.loc.length rs
  -- the names that the callee's result speaks of, and those that it does not
  have hcase : ∀ r, (∃ s, ρ s = r ∧ m1.at s ≠ none) ∨ (memR r rs = false ∧ (∀ j, r ≠ .loc (m.loc.length + j))) ∨ (∃ j, r = .loc (m.loc.length + j) ∧ m1.loc[j]? = none) := fun r => by
    cases hr : memR r rs with
    | true =>
      obtain ⟨j, hj, rfl⟩ := mem_nth hr
      refine .inl ⟨.arg j, rfl, ?_⟩
      simp only [Mem.at]
      rw [List.getElem?_eq_getElem (by omega)]
      simp
    | false =>
      by_cases hl : ∃ j, r = .loc (m.loc.length + j)
      · obtain ⟨j, rfl⟩ := hl
        cases hj : m1.loc[j]? with
        | none => exact .inr (.inr ⟨j, rfl, hj⟩)
        | some b => exact .inl ⟨.loc j, rfl, by simp [Mem.at, hj]⟩
      · exact .inr (.inl ⟨rfl, fun j e => hl ⟨j, e⟩⟩)
  have hρinj : ∀ s s', m1.at s ≠ none → m1.at s' ≠ none → ρ s = ρ s' → s = s' := fun s s' h1 h2 e => by
    have key : ∀ j, m1.at (.arg j) ≠ none → j < rs.length := fun j h => by
      rw [← hlo]
      rcases Nat.lt_or_ge j m1.own.length with h' | h'
      · exact h'
      · exact absurd (by simp only [Mem.at]; exact List.getElem?_eq_none h') h
    have hnl : ∀ j, j < rs.length → ∀ i, nth rs j ≠ .loc (m.loc.length + i) := fun j hj i e => by
      obtain ⟨x, hx⟩ := hd j hj
      rw [e] at hx
      simp [Mem.at] at hx
    cases s with
    | bad => exact absurd rfl h1
    | loc i => cases s' with
      | bad => exact absurd rfl h2
      | loc j => simp [ρ, out] at e; rw [e]
      | arg j => exact absurd e.symm (hnl j (key j h2) i)
    | arg i => cases s' with
      | bad => exact absurd rfl h2
      | loc j => exact absurd e (hnl i (key i h1) j)
      | arg j => rw [nth_inj hn (key i h1) (key j h2) e]
  classical
  let σ' : Pls := fun r => if h : ∃ s, ρ s = r ∧ m1.at s ≠ none then σ1 (Classical.choose h) else σ r
  have hin : ∀ s, m1.at s ≠ none → σ' (ρ s) = σ1 s := fun s hs' => by
    have hex : ∃ s', ρ s' = ρ s ∧ m1.at s' ≠ none := ⟨s, rfl, hs'⟩
    simp only [σ', hex, dif_pos]
    obtain ⟨g1, g2⟩ := Classical.choose_spec hex
    rw [hρinj _ _ g2 hs' g1]
  have hlive : ∀ s q, σ1 s = some q → m1.at s ≠ none := fun s q h e => by
    rw [(hm1.dom s).2 e] at h; cases h
  have hin' : ∀ s q, σ1 s = some q → σ' (ρ s) = some q := fun s q hq => by rw [hin s (hlive s q hq), hq]
  have hold : ∀ r, ¬ (∃ s, ρ s = r ∧ m1.at s ≠ none) → σ' r = σ r := fun r h => by simp only [σ', h, dif_neg, not_false_eq_true]
  have hown0 : ∀ b, Owned σ0 b → Owned σ b := fun b ⟨r, pl, t, e1, e2⟩ => ⟨_, pl, t, e1, e2⟩
  have hown1 : ∀ b, Owned σ1 b → Owned σ0 b ∨ w.heap.size ≤ b := hs.own
  -- an old name that the callee was not handed
  have holdn : ∀ r q, ¬ (∃ s, ρ s = r ∧ m1.at s ≠ none) → σ r = some q → memR r rs = false ∧ (∀ j, r ≠ .loc (m.loc.length + j)) := fun r q hne hq => by
    rcases hcase r with h1 | h1 | ⟨j, rfl, hj⟩
    · exact absurd h1 hne
    · exact h1
    · have := (hm.dom (.loc (m.loc.length + j))).2 (by simp [Mem.at])
      rw [this] at hq; cases hq
  have hnown : ∀ r pl b t, memR r rs = false → σ r = some (some pl) → pl.loc = some (b, t) → ¬ Owned σ0 b := fun r pl b t hr e1 e2 ⟨s, pl', t', g1, g2⟩ => by
    obtain ⟨j, rfl, hj, g1'⟩ := h0 s _ g1
    have := hm.inj _ _ _ _ _ _ _ e1 g1' e2 g2
    rw [this, nth_mem hj] at hr
    cases hr
  have hsle : SLe σ σ' := fun r q hq => by
    by_cases hex : ∃ s, ρ s = r ∧ m1.at s ≠ none
    · obtain ⟨s, rfl, hs'⟩ := hex
      rw [hin s hs']
      cases s with
      | bad => exact absurd rfl hs'
      | loc j =>
        have := (hm.dom (.loc (m.loc.length + j))).2 (by simp [Mem.at])
        rw [show ρ (.loc j) = .loc (m.loc.length + j) from rfl, this] at hq
        cases hq
      | arg j => exact hle (.arg j) q hq
    · rw [hold r hex]
      exact ⟨q, hq, QLe.refl q⟩
  have hfkeep : ∀ b, F b → w'.heap[b]? = w.heap[b]? := fun b hb => hs.keep b (hm.fl b hb) fun ⟨r, pl, t, e1, e2⟩ => (hm.nf _ pl b t e1 e2).1 hb
  have hm' : MemOk (back m rs m1) σ' F' w' := by
    refine ⟨fun r => ?_, fun r q hq => ?_, fun r r' pl pl' b t t' e1 e2 e3 e4 => ?_, fun r pl b t e1 e2 => ?_, hm1.fl, hm1.gl⟩
    · rcases hcase r with ⟨s, rfl, hs'⟩ | h1 | ⟨j, rfl, hj⟩
      · rw [hin s hs', hm1.dom s]
        cases hb : m1.at s with
        | none => exact absurd hb hs'
        | some b => rw [b2 s b hb]; simp
      · rw [b1 r h1.1 h1.2, ← hm.dom r]
        have : ¬ (∃ s, ρ s = r ∧ m1.at s ≠ none) := fun ⟨s, e, hs'⟩ => by
          subst e
          cases s with
          | bad => exact absurd rfl hs'
          | loc j => exact h1.2 j rfl
          | arg j =>
            have : j < rs.length := by
              rw [← hlo]
              rcases Nat.lt_or_ge j m1.own.length with h' | h'
              · exact h'
              · exact absurd (by simp only [Mem.at]; exact List.getElem?_eq_none h') hs'
            have h2 := h1.1
            rw [show ρ (.arg j) = nth rs j from rfl, nth_mem this] at h2
            cases h2
        rw [hold r this]
      · rw [b3 j hj]
        have : ¬ (∃ s, ρ s = .loc (m.loc.length + j) ∧ m1.at s ≠ none) := fun ⟨s, e, hs'⟩ => by
          cases s with
          | bad => exact absurd rfl hs'
          | loc i =>
            simp [ρ, out] at e
            subst e
            exact hs' hj
          | arg i =>
            have hi : i < rs.length := by
              rw [← hlo]
              rcases Nat.lt_or_ge i m1.own.length with h' | h'
              · exact h'
              · exact absurd (by simp only [Mem.at]; exact List.getElem?_eq_none h') hs'
            obtain ⟨x, hx⟩ := hd i hi
            rw [show nth rs i = .loc (m.loc.length + j) from e] at hx
            simp [Mem.at] at hx
        rw [hold _ this, hm.dom]
        simp [Mem.at]
    · by_cases hex : ∃ s, ρ s = r ∧ m1.at s ≠ none
      · obtain ⟨s, rfl, hs'⟩ := hex
        rw [hin s hs'] at hq
        obtain ⟨l1, l2⟩ := hm1.lv s q hq
        refine ⟨fun e => by rw [b2 s none (l1 e)]; rfl, fun pl e => ?_⟩
        obtain ⟨B, g1, g2⟩ := l2 pl e
        exact ⟨renB ρ B, by rw [b2 s _ g1]; rfl, g2.out hin'⟩
      · rw [hold r hex] at hq
        obtain ⟨n1, n2⟩ := holdn r q hex hq
        obtain ⟨l1, l2⟩ := hm.lv r q hq
        rw [b1 r n1 n2]
        refine ⟨l1, fun pl e => ?_⟩
        obtain ⟨B, g1, g2⟩ := l2 pl e
        refine ⟨B, g1, g2.mono hs.fro hfkeep hsle fun b t hl => ?_⟩
        subst e
        exact hs.keep b (hm.nf r pl b t hq hl).2 (hnown r pl b t n1 hq hl)
    · have mixed : ∀ s r' pl pl' b t t', m1.at s ≠ none → ¬ (∃ s, ρ s = r' ∧ m1.at s ≠ none) → σ1 s = some (some pl) → σ r' = some (some pl') → pl.loc = some (b, t) → pl'.loc = some (b, t') → False := by
        intro s r' pl pl' b t t' hs' hne e1 e2 e3 e4
        obtain ⟨n1, n2⟩ := holdn r' _ hne e2
        rcases hown1 b ⟨s, pl, t, e1, e3⟩ with h1 | h1
        · exact hnown r' pl' b t' n1 e2 e4 h1
        · have := (hm.nf r' pl' b t' e2 e4).2; omega
      by_cases hex : ∃ s, ρ s = r ∧ m1.at s ≠ none
      · obtain ⟨s, rfl, hs'⟩ := hex
        rw [hin s hs'] at e1
        by_cases hex' : ∃ s, ρ s = r' ∧ m1.at s ≠ none
        · obtain ⟨s', rfl, hs2⟩ := hex'
          rw [hin s' hs2] at e2
          rw [hm1.inj _ _ _ _ _ _ _ e1 e2 e3 e4]
        · rw [hold r' hex'] at e2
          exact (mixed s r' pl pl' b t t' hs' hex' e1 e2 e3 e4).elim
      · rw [hold r hex] at e1
        by_cases hex' : ∃ s, ρ s = r' ∧ m1.at s ≠ none
        · obtain ⟨s', rfl, hs2⟩ := hex'
          rw [hin s' hs2] at e2
          exact (mixed s' r pl' pl b t' t hs2 hex e2 e1 e4 e3).elim
        · rw [hold r' hex'] at e2
          exact hm.inj _ _ _ _ _ _ _ e1 e2 e3 e4
    · by_cases hex : ∃ s, ρ s = r ∧ m1.at s ≠ none
      · obtain ⟨s, rfl, hs'⟩ := hex
        rw [hin s hs'] at e1
        exact hm1.nf s pl b t e1 e2
      · rw [hold r hex] at e1
        obtain ⟨n1, n2⟩ := holdn r _ hex e1
        obtain ⟨g1, g2⟩ := hm.nf r pl b t e1 e2
        refine ⟨fun hb => ?_, Nat.lt_of_lt_of_le g2 hs.size⟩
        rcases hs.fro' b hb with h1 | h1 | h1
        · exact g1 h1
        · exact hnown r pl b t n1 e1 e2 h1
        · omega
  refine ⟨v, ren ρ A, back m rs m1, σ', F', he, hk, hv.out hin', hm', ⟨hs.os, hs.tape, hs.output, hs.drawn, hs.size, fun b hb hn' => hs.keep b hb fun h => hn' (hown0 b h), hs.fro, fun b hb => ?_, fun b ⟨r, pl, t, e1, e2⟩ => ?_⟩, hsle⟩
  · rcases hs.fro' b hb with h1 | h1 | h1
    · exact .inl h1
    · exact .inr (.inl (hown0 b h1))
    · exact .inr (.inr h1)
  · by_cases hex : ∃ s, ρ s = r ∧ m1.at s ≠ none
    · obtain ⟨s, rfl, hs'⟩ := hex
      rw [hin s hs'] at e1
      rcases hown1 b ⟨s, pl, t, e1, e2⟩ with h1 | h1
      · exact .inl (hown0 b h1)
      · exact .inr h1
    · rw [hold r hex] at e1
      exact .inl ⟨r, pl, t, e1, e2⟩
end
end Go.Ab
/-
  The engine, part R: the rule for a function that is handed memory of its own, or that makes some.
-/
namespace Go.Ab
set_option linter.unusedSimpArgs false
set_option linter.unusedVariables false

def envA : Nat → List AV → Env
  | _, [] => []
  | k, x :: r => (k, x) :: envA (k + 1) r
def evRes (T : Tab) (m : Mem) (env : Env) : List ResultVar → Option (List AV × List Prop)
  | [] => some ([], [])
  | .tmp t :: rs => match strip (get env t) with
    | (A, p) => match evRes T m env rs with
      | some (l, q) => some (A :: l, cat p q)
      | none => none
  | .cell t ty :: rs => match evLoad T m ty (get env t) with
    | some (A, p) => match evRes T m env rs with
      | some (l, q) => some (A :: l, cat p q)
      | none => none
    | none => none
def resA : List AV → AV
  | [x] => x
  | xs => .tup xs
/-- What is handed back is one of the states s. -/
def FinR {S : Type} (T : Tab) (rs : List ResultVar) (enc : S → List AV × Mem) (J : S → Prop) (env : Env) (m : Mem) : Prop := match evRes T m env rs with
  | some (l, p) => obs p (∃ s, J s ∧ Le (envA 0 l) m (envA 0 (enc s).1) (enc s).2 ∧ lenL2 l = lenL2 (enc s).1)
  | none => False
where lenL2 : List AV → Nat
  | [] => 0
  | _ :: r => lenL2 r + 1
def finR {S : Type} (T : Tab) (rs : List ResultVar) (enc : S → List AV × Mem) (J : S → Prop) : Post := fun e env m => match e with
  | .ret => FinR T rs enc J env m
  | .normal => FinR T rs enc J env m
  | _ => False
theorem lenL2_eq (l : List AV) : FinR.lenL2 l = l.length := by
  induction l with
  | nil => rfl
  | cons x r ih => simp [FinR.lenL2, ih]
/-- The contract: what is handed back and what is left is one of the states s. -/
def Ret {S : Type} (enc : S → List AV × Mem) (J : S → Prop) : AV → Mem → Prop := fun A m => ∃ s, J s ∧ A = resA (enc s).1 ∧ m = (enc s).2

section
variable {P : Program} {T : Tab} {w : World} {F : Nat → Prop} {σ : Pls} {m : Mem}
theorem envA_get : ∀ (ys : List AV) (k t : Nat), get (envA k ys) t = (if k ≤ t then match ys[t - k]? with | some x => x | none => .junk else .junk)
  | [], k, t => by simp [envA, get]
  | y :: r, k, t => by
    simp only [envA, get]
    cases hk : Nat.beq k t with
    | true =>
      have := Nat.eq_of_beq_eq_true hk
      subst this
      simp
    | false =>
      have hne := Nat.ne_of_beq_eq_false hk
      simp only [cond_false]
      rw [envA_get r (k + 1) t]
      by_cases hle : k + 1 ≤ t
      · rw [if_pos hle, if_pos (by omega)]
        have : t - k = (t - (k + 1)) + 1 := by omega
        rw [this, List.getElem?_cons_succ]
      · rw [if_neg hle, if_neg (by omega)]
theorem envA_ok {as : List AV} {vals : List Value} (h : ArgsOk w F σ as vals) (n : Nat) : EnvOk (envA 0 as) w F σ (vals.toArray ++ Array.replicate n undef) := by
  intro t
  rw [envA_get, if_pos (Nat.zero_le _), Nat.sub_zero]
  split
  · rename_i x hx
    have ht : t < vals.length := by rw [h.1]; exact (List.getElem?_eq_some_iff.1 hx).1
    have hu : vals[t]? = some vals[t] := List.getElem?_eq_getElem ht
    have : (vals.toArray ++ Array.replicate n undef).getD t undef = vals[t] := by
      rw [Array.getD_eq_getD_getElem?, Array.getElem?_append_left (by simpa using ht)]
      simp [hu]
    rw [this]
    exact h.2 t x _ hx hu
  · exact .junk
theorem evRes_ok (hT : TabOk P T) (hm : MemOk m σ F w) {env : Env} {tmps : Array Value} (he : EnvOk env w F σ tmps) : ∀ (rs : List ResultVar) (l : List AV) (p : List Prop), evRes T m env rs = some (l, p) → (∀ q ∈ p, q) →
    ∃ vs : List Value, (rs.mapM (resOne tmps)).run P w = .ok vs w ∧ ArgsOk w F σ l vs
  | [], l, p, h, _ => by
    simp only [evRes, Option.some.injEq, Prod.mk.injEq] at h
    obtain ⟨rfl, rfl⟩ := h
    exact ⟨[], by simp, rfl, fun j x u h => by simp at h⟩
  | .tmp t :: rs, l, p, h, hp => by
    unfold evRes at h
    split at h
    rename_i A p1 e1
    split at h <;> try (cases h; done)
    rename_i l1 q1 e2
    simp only [Option.some.injEq, Prod.mk.injEq] at h
    obtain ⟨rfl, rfl⟩ := h
    obtain ⟨hp1, hp2⟩ := all_cat hp
    obtain ⟨vs, g1, g2, g3⟩ := evRes_ok hT hm he rs l1 q1 e2 hp2
    have hv := strip_ok (he t) (by rw [e1]; exact hp1)
    rw [e1] at hv
    refine ⟨tmps.getD t undef :: vs, by simp [List.mapM_cons, resOne, g1], by simp [g2], fun j y u hy hu => ?_⟩
    cases j with
    | zero => simp at hy hu; subst hy; subst hu; simpa using hv
    | succ j => exact g3 j y u (by simpa using hy) (by simpa using hu)
  | .cell t ty :: rs, l, p, h, hp => by
    unfold evRes at h
    split at h <;> try (cases h; done)
    rename_i A p1 hl
    split at h <;> try (cases h; done)
    rename_i l1 q1 e2
    simp only [Option.some.injEq, Prod.mk.injEq] at h
    obtain ⟨rfl, rfl⟩ := h
    obtain ⟨hp1, hp2⟩ := all_cat hp
    obtain ⟨vs, g1, g2, g3⟩ := evRes_ok hT hm he rs l1 q1 e2 hp2
    obtain ⟨u0, hu0, hrun⟩ := evLoad_ok hT hm (he t) hl hp1
    have hr := hrun w (Agree.refl F σ w)
    have hptr : ∃ a, tmps.getD t undef = .pointer (some a) := by
      unfold Instr.loadAt Instr.sureAddr at hr
      generalize tmps.getD t undef = X at hr
      split at hr
      · exact ⟨_, rfl⟩
      · simp at hr
    obtain ⟨ad, had⟩ := hptr
    rw [had] at hr
    have hr' : (loadVar ty ad).run P w = .ok u0 w := by simpa [Instr.loadAt, Instr.sureAddr] using hr
    refine ⟨u0 :: vs, by simp [List.mapM_cons, resOne, g1, had, asAddr, hr'], by simp [g2], fun j y u hy hu => ?_⟩
    cases j with
    | zero => simp at hy hu; subst hy; subst hu; exact hu0
    | succ j => exact g3 j y u (by simpa using hy) (by simpa using hu)

/-- THE RULE FOR A FUNCTION THAT IS HANDED ITS OWN MEMORY, OR MAKES SOME. -/
theorem call_rule (hT : TabOk P T) {f : FuncId} {fn : Func} {c : Code} {N : Nat} {rs : List ResultVar} {as : List AV} {own : List (Option Blk)} {S : Type} (enc : S → List AV × Mem) (J : S → Prop) (hf : P.funcs[f]? = some fn) (hb : fn.body = some c) (hN : fn.ntmps = N) (hrs : fn.results = rs.toArray)
    (hname : (fn.name == "runtime.NumGoroutine") = false) (hargs : Nat.ble as.length N = true) (h : Ev (vc P T N c (envA 0 as) ⟨[], own⟩ (finR T rs enc J))) : CallVC P f as ⟨[], own⟩ (Ret enc J) := by
  refine ⟨⟨fn, hf, hname, by simp [hb]⟩, fun σ F w vals hm ha => ?_⟩
  refine callsFen.1 (callsIn_of_wp_marks (F := Fen none) (n := 0) hf hb trivial ?_ rfl)
  have hle := Nat.le_of_ble_eq_true hargs
  have hl := ha.1
  have hwp := (vc_ok hT c (envA 0 as) ⟨[], own⟩ (finR T rs enc J) h.o).run none w.heap.size { tmps := vals.toArray ++ Array.replicate (fn.ntmps - vals.toArray.size) undef, defers := [] } w σ F (by simp [hN]; omega) Ctx.nil (envA_ok ha _) hm
  refine wpIn_mono hwp ?_
  rintro e a w1 ⟨env', m', σ', F', q1, q2, q3, q4, q5, q6, q7⟩
  have hsle : ∀ σ2 : Pls, SArg σ' σ2 → SLe σ σ2 := fun σ2 h r q hq => by
    cases r with
    | arg j => exact (q7.trans h) j q hq
    | loc j => rw [(hm.dom (.loc j)).2 (by simp [Mem.at])] at hq; cases hq
    | bad => rw [(hm.dom .bad).2 rfl] at hq; cases hq
  have hend : FinR T rs enc J env' m' → LeavesInM (Fen none) 0 P fn a.tmps (fun e w' => ∃ v A m' σ' F', e = .returned v ∧ Ret enc J A m' ∧ Vc w' F' σ' A v ∧ MemOk m' σ' F' w' ∧ Step σ F w σ' F' w' ∧ SLe σ σ') a.defers .returning w1 := by
    intro hfin
    obtain ⟨Ds, hDs, hnd, hD⟩ := q3.marks
    rw [hDs]
    refine leaves_marks Ds w1 hnd (fun D h => (hD D h).2.1) fun w' k1 k2 k3 kd k4 k5 => ?_
    have kF : ∀ b, F' b → w'.heap[b]? = w1.heap[b]? := fun b hb => k5 b fun hm => (hD b hm).2.2.2 hb
    have kO : ∀ b, Owned σ' b → w'.heap[b]? = w1.heap[b]? := fun b hb => k5 b fun hm => (hD b hm).2.2.1 hb
    replace q4 : EnvOk env' w' F' σ' a.tmps := q4.mono (fun _ h => h) kF (SLe.refl σ')
    replace q5 : MemOk m' σ' F' w' := q5.world (by omega) fun b hb => by
      rcases hb with hb | hb
      · exact kF b hb
      · exact kO b hb
    replace q6 : Step σ F w σ' F' w' := ⟨k1.trans q6.os, k2.trans q6.tape, k3.trans q6.output, Nat.le_trans q6.drawn (Nat.le_of_eq kd.symm), by rw [k4]; exact q6.size, fun b hb ho => (k5 b fun hm => by have := (hD b hm).1; omega).trans (q6.keep b hb ho), q6.fro, q6.fro', q6.own⟩
    unfold FinR at hfin
    split at hfin <;> try exact hfin.elim
    rename_i l p hl
    obtain ⟨hp, s, hJ, hLe, hlen⟩ := obs_ok hfin
    obtain ⟨vs, g1, g2⟩ := evRes_ok hT q5 q4 rs l p hl hp
    have hrun : (results fn a.tmps).run P w' = .ok (if h : vs.toArray.size = 1 then vs.toArray[0] else .tuple vs.toArray) w' := by
      have e : results fn a.tmps = (do let vs ← fn.results.mapM (resOne a.tmps); pure (if h : vs.size = 1 then vs[0] else .tuple vs)) := by
        unfold results
        congr 1
      rw [e, hrs, Array.mapM_eq_mapM_toList]
      simp [g1]
    have hE := envA_ok g2 0
    simp only [Array.replicate_zero, Array.append_empty] at hE
    obtain ⟨σ2, r1, r2, r3, r4⟩ := le_ok hLe hE q5
    have hlen' : vs.length = (enc s).1.length := by rw [g2.1, ← lenL2_eq, hlen, lenL2_eq]
    have hat : ∀ (j : Nat) A u, (enc s).1[j]? = some A → vs[j]? = some u → Vc w' F' σ2 A u := fun j A u hA hu => by
      have := r1 j
      rw [envA_get, if_pos (Nat.zero_le _), Nat.sub_zero, hA] at this
      simpa [hu] using this
    refine ⟨_, hrun, _, resA (enc s).1, (enc s).2, σ2, F', rfl, ⟨s, hJ, rfl, rfl⟩, ?_, r2, q6.trans r3, hsle σ2 r4⟩
    have tup : Vc w' F' σ2 (.tup (enc s).1) (.tuple vs.toArray) := .tup hlen' hat
    generalize (enc s).1 = L at hlen' hat tup
    match L, vs, hlen', hat, tup with
    | [], [], _, _, tup => simpa [resA] using tup
    | [x], [v], _, hat, _ => simpa [resA] using hat 0 x v rfl rfl
    | x :: y :: xs, a :: b :: vs, _, _, tup => simpa [resA] using tup
    | [], _ :: _, h, _, _ => simp at h
    | _ :: _, [], h, _, _ => simp at h
    | [_], _ :: _ :: _, h, _, _ => simp at h
    | _ :: _ :: _, [_], h, _, _ => simp at h
  cases e with
  | normal => exact hend q1
  | ret => exact hend q1
  | _ => exact q1.elim

/-- The use of such a contract at a call. -/
theorem CallVC.at {f : FuncId} {as : List AV} {own : List (Option Blk)} {S : Type} {enc : S → List AV × Mem} {J : S → Prop} {K : AV → Mem → Prop} (h : CallVC P f as ⟨[], own⟩ (Ret enc J)) (rs : List Ref)
    (hn : nodupR rs = true) (hp : Picks m (inn rs) rs own)
    (hk : ∀ s, J s → lenL (enc s).2.own = lenL own ∧ Ev (frc (ren (out (lenL m.loc) rs) (resA (enc s).1)) fun A => frcM (back m rs (enc s).2) fun m => K A m)) : CallVC P f (renL (inn rs) as) m K :=
  h.frame rs hn hp fun A m0 ⟨s, hJ, e1, e2⟩ => by
    subst e1; subst e2
    have := hk s hJ
    rw [frc_eq, frcM_eq] at this
    exact ⟨this.1, this.2.o⟩
end
end Go.Ab
/-
  The engine, part S: an own row is turned into data for good.
-/
namespace Go.Ab
set_option linter.unusedSimpArgs false
set_option linter.unusedVariables false

def shiftF (off : Nat) (f' : Nat → List D) : Nat → List D :=
  match off with
  | 0 => f'
  | off + 1 => fun i => f' (off + 1 + i)
theorem shiftF_eq (off : Nat) (f' : Nat → List D) : shiftF off f' = fun i => f' (off + i) := by
  cases off with
  | zero => funext i; simp [shiftF]
  | succ k => rfl
def frzA (r : Ref) (sz g n : Nat) (f' : Nat → List D) : AV → AV × List Prop
  | .osl r' g' off k => bif decide (r' = r) then (.d (.sl sz k (shiftF off f')), [g' = g, off + k ≤ n]) else (.osl r' g' off k, [])
  | .ptr r' g' i off => bif decide (r' = r) then (.junk, []) else (.ptr r' g' i off, [])
  | .d x => (.d x, [])
  | .mp r' => (.mp r', [])
  | _ => (.junk, [])
def frzEnv (r : Ref) (sz g n : Nat) (f' : Nat → List D) : Env → Env × List Prop
  | [] => ([], [])
  | (t, A) :: e => match frzA r sz g n f' A with
    | (A', p) => match frzEnv r sz g n f' e with
      | (e', q) => ((t, A') :: e', cat p q)

section
variable {P : Program} {T : Tab} {w : World} {F : Nat → Prop} {σ : Pls} {m : Mem}
theorem frzEnv_get {r : Ref} {sz g n : Nat} {f' : Nat → List D} : ∀ (env : Env) (t : Nat), (∀ p ∈ (frzEnv r sz g n f' env).2, p) → get (frzEnv r sz g n f' env).1 t = (frzA r sz g n f' (get env t)).1 ∧ ∀ p ∈ (frzA r sz g n f' (get env t)).2, p
  | [], t, _ => ⟨rfl, fun p hp => by simp [get, frzA] at hp⟩
  | (t0, A) :: e, t, hob => by
    simp only [frzEnv] at hob ⊢
    obtain ⟨h1, h2⟩ := all_cat hob
    have ih := frzEnv_get e t h2
    simp only [get]
    cases Nat.beq t0 t with
    | true => exact ⟨rfl, h1⟩
    | false => exact ih

theorem Awp.freeze {N : Nat} {c : Code} {env : Env} {m : Mem} {Q : Post} (r : Ref) {e sz g n : Nat} {f : Nat → List AV} (f' : Nat → List D) (hB : m.get r = some (.vec e sz g n f)) (hf : ∀ i, i < n → f i = up (f' i))
    (hob : ∀ p ∈ (frzEnv r sz g n f' env).2, p) (k : Awp P N c (frzEnv r sz g n f' env).1 (m.put r none) Q) : Awp P N c env m Q :=
  ⟨fun ro lo a w σ F hN hD he hm => by
    have hat := Mem.get_at hB
    obtain ⟨pl, hr⟩ : ∃ pl, σ r = some (some pl) := by
      cases hs : σ r with
      | none => rw [(hm.dom r).1 hs] at hat; cases hat
      | some q => cases q with
        | none => rw [(hm.lv r _ hs).1 rfl] at hat; cases hat
        | some pl => exact ⟨pl, rfl⟩
    let F' : Nat → Prop := fun b => F b ∨ ∃ t, pl.loc = some (b, t)
    let σ' := upd σ r none
    have hsle : SLe σ σ' := SLe.upd_old hr (QLe.none _)
    have hFF : ∀ b, F b → F' b := fun b h => .inl h
    have hm' : MemOk (m.put r none) σ' F' w := by
      refine ⟨fun r' => ?_, fun r' q hq => ?_, fun r1 r2 p1 p2 b t t' h1 h2 => ?_, fun r' p b t h1 h2 => ?_, fun b hb => ?_, hm.gl.mono hFF fun _ _ => rfl⟩
      · by_cases hr' : r' = r
        · subst hr'
          rw [put_self none hat]
          simp [σ', upd_self]
        · rw [put_other none hr']
          simp only [σ', upd_other σ none hr']
          exact hm.dom r'
      · by_cases hr' : r' = r
        · subst hr'
          simp only [σ', upd_self, Option.some.injEq] at hq
          subst hq
          exact ⟨fun _ => put_self none hat, fun p h => by cases h⟩
        · simp only [σ', upd_other σ none hr'] at hq
          rw [put_other none hr']
          refine ⟨(hm.lv r' q hq).1, fun p hp => ?_⟩
          obtain ⟨B, h1, h2⟩ := (hm.lv r' q hq).2 p hp
          exact ⟨B, h1, h2.mono hFF (fun _ _ => rfl) hsle (fun _ _ _ => rfl)⟩
      · have n1 : r1 ≠ r := fun e => by subst e; simp [σ', upd_self] at h1
        have n2 : r2 ≠ r := fun e => by subst e; simp [σ', upd_self] at h2
        simp only [σ', upd_other σ none n1] at h1
        simp only [σ', upd_other σ none n2] at h2
        exact hm.inj _ _ _ _ _ _ _ h1 h2
      · have n1 : r' ≠ r := fun e => by subst e; simp [σ', upd_self] at h1
        simp only [σ', upd_other σ none n1] at h1
        obtain ⟨g1, g2⟩ := hm.nf r' p b t h1 h2
        refine ⟨fun h => ?_, g2⟩
        rcases h with h | ⟨t', h⟩
        · exact g1 h
        · exact n1 (hm.inj _ _ _ _ _ _ _ h1 hr h2 h)
      · rcases hb with h | ⟨t', h⟩
        · exact hm.fl b h
        · exact (hm.nf r pl b t' hr h).2
    have he' : EnvOk (frzEnv r sz g n f' env).1 w F' σ' a.tmps := fun t => by
      obtain ⟨e1, e2⟩ := frzEnv_get env t hob
      rw [e1]
      have hv := he t
      generalize get env t = A at hv e2
      cases A with
      | osl r' g' off k0 =>
        by_cases hr' : r' = r
        · subst hr'
          simp only [frzA, decide_true, cond_true] at e2 ⊢
          have q1 : g' = g := e2 _ (by simp)
          have q2 : off + k0 ≤ n := e2 (off + k0 ≤ n) (by simp)
          subst q1
          rw [shiftF_eq]
          exact .d (osl_data hm hFF hv hB q2 hf fun pl' b tot h1 h2 => by
            rw [hr] at h1
            injection h1 with h1
            injection h1 with h1
            subst h1
            exact .inr ⟨tot, h2⟩)
        · simp only [frzA, hr', decide_false, cond_false]
          exact hv.mono hFF (fun _ _ => rfl) hsle
      | ptr r' g' i off =>
        by_cases hr' : r' = r
        · subst hr'
          simp only [frzA, decide_true, cond_true]
          exact .junk
        · simp only [frzA, hr', decide_false, cond_false]
          exact hv.mono hFF (fun _ _ => rfl) hsle
      | d x => exact hv.mono hFF (fun _ _ => rfl) hsle
      | mp r' => exact hv.mono hFF (fun _ _ => rfl) hsle
      | _ => exact .junk
    have hst : Step σ F w σ' F' w := by
      refine ⟨rfl, rfl, rfl, Nat.le_refl _, Nat.le_refl _, fun _ _ _ => rfl, hFF, fun b hb => ?_, fun b ⟨r', p, t, h1, h3⟩ => ?_⟩
      · rcases hb with h | ⟨t, h⟩
        · exact .inl h
        · exact .inr (.inl ⟨r, pl, t, hr, h⟩)
      · have n1 : r' ≠ r := fun e => by subst e; simp [σ', upd_self] at h1
        simp only [σ', upd_other σ none n1] at h1
        exact .inl ⟨r', p, t, h1, h3⟩
    exact wpIn_mono (k.run ro lo a w σ' F' hN (hD.step hst) he' hm') fun e2 a2 w2 h2 => lift_trans hst (.of hsle) h2⟩
theorem Awp.freeze' {N : Nat} {c : Code} {env : Env} {m : Mem} {Q : Post} (r : Ref) {e sz g n : Nat} {f : Nat → List AV} (f' : Nat → List D) (hB : m.get r = some (.vec e sz g n f)) (hf : ∀ i, i < n → f i = up (f' i))
    (k : Ev (obs (frzEnv r sz g n f' env).2 (Awp P N c (frzEnv r sz g n f' env).1 (m.put r none) Q))) : Awp P N c env m Q :=
  have h := obs_ok k.o
  Awp.freeze r f' hB hf h.1 h.2
theorem Awp.of_vc (hT : TabOk P T) {N : Nat} {c : Code} {env : Env} {m : Mem} {Q : Post} (h : Ev (vc P T N c env m Q)) : Awp P N c env m Q := vc_ok hT c env m Q h.o
end
end Go.Ab
/-
  The engine, part V: a range over a function: the rounds; the statement.
-/
namespace Go.Ab
set_option linter.unusedSimpArgs false
set_option linter.unusedVariables false
open Go.RowKit

theorem get_mem : ∀ (env : Env) (t : Nat), (∃ j : Nat, env[j]? = some (t, get env t)) ∨ get env t = .junk
  | [], t => .inr rfl
  | (k, A) :: r, t => by
    simp only [get]
    cases hk : Nat.beq k t with
    | true =>
      have := Nat.eq_of_beq_eq_true hk
      subst this
      exact .inl ⟨0, rfl⟩
    | false =>
      rcases get_mem r t with ⟨j, hj⟩ | h
      · exact .inl ⟨j + 1, by simpa using hj⟩
      · exact .inr h
/-- The loop's variables, laid over the environment at the loop's head. -/
def bindE : List Nat → List AV → Env → Env
  | p :: ps, A :: as, e => bindE ps as ((p, A) :: e)
  | _, _, e => e
theorem bind_ok {w : World} {F : Nat → Prop} {σ : Pls} : ∀ (ps : List Nat) (args : List AV) (vals : List Value) (env : Env) (tmps : Array Value), EnvOk env w F σ tmps → (∀ p ∈ ps, p < tmps.size) → ArgsOk w F σ args vals → ps.length = args.length →
    EnvOk (bindE ps args env) w F σ ((ps.zip vals).foldl (fun t (p : Nat × Value) => t.setIfInBounds p.1 p.2) tmps)
  | [], args, vals, env, tmps, he, _, _, _ => by simpa [bindE] using he
  | p :: ps, [], vals, env, tmps, _, _, _, hl => by simp at hl
  | p :: ps, A :: as, [], env, tmps, _, _, ha, _ => by have := ha.1; simp at this
  | p :: ps, A :: as, v :: vals, env, tmps, he, hp, ha, hl => by
    simp only [bindE, List.zip_cons_cons, List.foldl_cons]
    refine bind_ok ps as vals ((p, A) :: env) _ ?_ (fun q hq => by rw [Array.size_setIfInBounds]; exact hp q (by simp [hq])) ⟨by have := ha.1; simpa using this, fun j B u hB hu => ha.2 (j + 1) B u (by simpa using hB) (by simpa using hu)⟩ (by simpa using hl)
    exact put_ok (a := { tmps := tmps, defers := [] }) rfl (hp p (by simp)) he (ha.2 0 A v rfl rfl)

section
variable {P : Program} {m : Mem}
theorem YieldVC.frame {f : Nat} {as : List AV} {own : List (Option Blk)} {K0 K : AV → Mem → Prop} (h : YieldVC P f as ⟨[], own⟩ K0) (rs : List Ref)
    (hn : nodupR rs = true) (hp : Picks m (inn rs) rs own)
    (hk : ∀ A m0, K0 A m0 → lenL m0.own = lenL own ∧ K (ren (out (lenL m.loc) rs) A) (back m rs m0)) : YieldVC P f (renL (inn rs) as) m K := by
  refine ⟨fun σ F w vals hm ha => ?_⟩
  have hlen := hp.len
  let σ0 : Pls := fun r => σ (inn rs r)
  have hbad : σ .bad = none := (hm.dom .bad).2 rfl
  have h0loc : ∀ j, σ0 (.loc j) = none := fun j => hbad
  have h0 : ∀ r q, σ0 r = some q → ∃ j, r = .arg j ∧ j < rs.length ∧ σ (nth rs j) = some q := fun r q hq => by
    cases r with
    | loc j => rw [h0loc] at hq; cases hq
    | bad => rw [show σ0 .bad = none from hbad] at hq; cases hq
    | arg j =>
      refine ⟨j, rfl, ?_, hq⟩
      rcases Nat.lt_or_ge j rs.length with h' | h'
      · exact h'
      · have : σ0 (.arg j) = σ .bad := by simp only [σ0, inn, nth_bad h']
        rw [this, hbad] at hq; cases hq
  have hownat : ∀ j, j < rs.length → ∃ b, own[j]? = some b ∧ m.at (nth rs j) = some (renO (inn rs) b) := fun j hj => by
    have : own[j]? = some own[j] := List.getElem?_eq_getElem (by omega)
    exact ⟨_, this, hp.get this⟩
  have hm0 : MemOk ⟨[], own⟩ σ0 F w := by
    refine ⟨fun r => ?_, fun r q hq => ?_, fun r r' pl pl' b t t' e1 e2 e3 e4 => ?_, fun r pl b t e1 e2 => ?_, hm.fl, hm.gl⟩
    · cases r with
      | loc j => simp [h0loc, Mem.at]
      | bad => simp [show σ0 .bad = none from hbad, Mem.at]
      | arg j =>
        simp only [Mem.at]
        rcases Nat.lt_or_ge j rs.length with h' | h'
        · obtain ⟨b, e1, e2⟩ := hownat j h'
          have hne : σ0 (.arg j) ≠ none := fun e => by
            have := (hm.dom (nth rs j)).1 e
            rw [e2] at this; cases this
          rw [e1]
          constructor
          · intro e; exact absurd e hne
          · intro e; cases e
        · have e1 : σ0 (.arg j) = none := by simp only [σ0, inn, nth_bad h', hbad]
          rw [e1, List.getElem?_eq_none (by omega)]
          exact ⟨fun _ => rfl, fun _ => rfl⟩
    · obtain ⟨j, rfl, hj, hq'⟩ := h0 r q hq
      obtain ⟨b, e1, e2⟩ := hownat j hj
      obtain ⟨l1, l2⟩ := hm.lv _ _ hq'
      refine ⟨fun e => ?_, fun pl e => ?_⟩
      · have := l1 e
        rw [e2] at this
        cases b with
        | none => simpa [Mem.at] using e1
        | some B => simp [renO] at this
      · obtain ⟨B, g1, g2⟩ := l2 pl e
        rw [e2] at g1
        cases b with
        | none => simp [renO] at g1
        | some B0 =>
          simp only [renO, Option.some.injEq] at g1
          subst g1
          exact ⟨B0, e1, g2.inn⟩
    · obtain ⟨i, rfl, hi, e1'⟩ := h0 r _ e1
      obtain ⟨j, rfl, hj, e2'⟩ := h0 r' _ e2
      have := hm.inj _ _ _ _ _ _ _ e1' e2' e3 e4
      rw [nth_inj hn hi hj this]
    · obtain ⟨j, rfl, hj, e1'⟩ := h0 r _ e1
      exact hm.nf _ _ _ _ e1' e2
  have ha0 : ArgsOk w F σ0 as vals := by
    obtain ⟨a1, a2⟩ := ha
    rw [renL_eq] at a1
    exact ⟨by simpa using a1, fun j A u hA hu => (a2 j _ u (by rw [renL_eq, List.getElem?_map, hA]; rfl) hu).inn rfl⟩
  obtain ⟨fn, tmps, asg, bdy, hy, hr⟩ := h.run σ0 F w vals hm0 ha0
  refine ⟨fn, tmps, asg, bdy, hy, hr.mono ?_⟩
  rintro e w' ⟨v, A, m1, σ1, F', he, hK, hv, hm1, hs, hle⟩
  obtain ⟨hlo, hk⟩ := hk A m1 hK
  rw [lenL_eq, lenL_eq, ← hlen] at hlo
  rw [lenL_eq] at hk
  have hd : ∀ j, j < rs.length → ∃ x, m.at (nth rs j) = some x := fun j hj => by
    obtain ⟨b, _, e2⟩ := hownat j hj
    exact ⟨_, e2⟩
  obtain ⟨b1, b2, b3⟩ := back_at (m := m) (rs := rs) (m0 := m1) hn hd hlo
  let ρ := out m.loc.length rs
  -- the names that the callee's result speaks of, and those that it does not
  have hcase : ∀ r, (∃ s, ρ s = r ∧ m1.at s ≠ none) ∨ (memR r rs = false ∧ (∀ j, r ≠ .loc (m.loc.length + j))) ∨ (∃ j, r = .loc (m.loc.length + j) ∧ m1.loc[j]? = none) := fun r => by
    cases hr : memR r rs with
    | true =>
      obtain ⟨j, hj, rfl⟩ := mem_nth hr
      refine .inl ⟨.arg j, rfl, ?_⟩
      simp only [Mem.at]
      rw [List.getElem?_eq_getElem (by omega)]
      simp
    | false =>
      by_cases hl : ∃ j, r = .loc (m.loc.length + j)
      · obtain ⟨j, rfl⟩ := hl
        cases hj : m1.loc[j]? with
        | none => exact .inr (.inr ⟨j, rfl, hj⟩)
        | some b => exact .inl ⟨.loc j, rfl, by simp [Mem.at, hj]⟩
      · exact .inr (.inl ⟨rfl, fun j e => hl ⟨j, e⟩⟩)
  have hρinj : ∀ s s', m1.at s ≠ none → m1.at s' ≠ none → ρ s = ρ s' → s = s' := fun s s' h1 h2 e => by
    have key : ∀ j, m1.at (.arg j) ≠ none → j < rs.length := fun j h => by
      rw [← hlo]
      rcases Nat.lt_or_ge j m1.own.length with h' | h'
      · exact h'
      · exact absurd (by simp only [Mem.at]; exact List.getElem?_eq_none h') h
    have hnl : ∀ j, j < rs.length → ∀ i, nth rs j ≠ .loc (m.loc.length + i) := fun j hj i e => by
      obtain ⟨x, hx⟩ := hd j hj
      rw [e] at hx
      simp [Mem.at] at hx
    cases s with
    | bad => exact absurd rfl h1
    | loc i => cases s' with
      | bad => exact absurd rfl h2
      | loc j => simp [ρ, out] at e; rw [e]
      | arg j => exact absurd e.symm (hnl j (key j h2) i)
    | arg i => cases s' with
      | bad => exact absurd rfl h2
      | loc j => exact absurd e (hnl i (key i h1) j)
      | arg j => rw [nth_inj hn (key i h1) (key j h2) e]
  classical
  let σ' : Pls := fun r => if h : ∃ s, ρ s = r ∧ m1.at s ≠ none then σ1 (Classical.choose h) else σ r
  have hin : ∀ s, m1.at s ≠ none → σ' (ρ s) = σ1 s := fun s hs' => by
    have hex : ∃ s', ρ s' = ρ s ∧ m1.at s' ≠ none := ⟨s, rfl, hs'⟩
    simp only [σ', hex, dif_pos]
    obtain ⟨g1, g2⟩ := Classical.choose_spec hex
    rw [hρinj _ _ g2 hs' g1]
  have hlive : ∀ s q, σ1 s = some q → m1.at s ≠ none := fun s q h e => by
    rw [(hm1.dom s).2 e] at h; cases h
  have hin' : ∀ s q, σ1 s = some q → σ' (ρ s) = some q := fun s q hq => by rw [hin s (hlive s q hq), hq]
  have hold : ∀ r, ¬ (∃ s, ρ s = r ∧ m1.at s ≠ none) → σ' r = σ r := fun r h => by simp only [σ', h, dif_neg, not_false_eq_true]
  have hown0 : ∀ b, Owned σ0 b → Owned σ b := fun b ⟨r, pl, t, e1, e2⟩ => ⟨_, pl, t, e1, e2⟩
  have hown1 : ∀ b, Owned σ1 b → Owned σ0 b ∨ w.heap.size ≤ b := hs.own
  -- an old name that the callee was not handed
  have holdn : ∀ r q, ¬ (∃ s, ρ s = r ∧ m1.at s ≠ none) → σ r = some q → memR r rs = false ∧ (∀ j, r ≠ .loc (m.loc.length + j)) := fun r q hne hq => by
    rcases hcase r with h1 | h1 | ⟨j, rfl, hj⟩
    · exact absurd h1 hne
    · exact h1
    · have := (hm.dom (.loc (m.loc.length + j))).2 (by simp [Mem.at])
      rw [this] at hq; cases hq
  have hnown : ∀ r pl b t, memR r rs = false → σ r = some (some pl) → pl.loc = some (b, t) → ¬ Owned σ0 b := fun r pl b t hr e1 e2 ⟨s, pl', t', g1, g2⟩ => by
    obtain ⟨j, rfl, hj, g1'⟩ := h0 s _ g1
    have := hm.inj _ _ _ _ _ _ _ e1 g1' e2 g2
    rw [this, nth_mem hj] at hr
    cases hr
  have hsle : SLe σ σ' := fun r q hq => by
    by_cases hex : ∃ s, ρ s = r ∧ m1.at s ≠ none
    · obtain ⟨s, rfl, hs'⟩ := hex
      rw [hin s hs']
      cases s with
      | bad => exact absurd rfl hs'
      | loc j =>
        have := (hm.dom (.loc (m.loc.length + j))).2 (by simp [Mem.at])
        rw [show ρ (.loc j) = .loc (m.loc.length + j) from rfl, this] at hq
        cases hq
      | arg j => exact hle (.arg j) q hq
    · rw [hold r hex]
      exact ⟨q, hq, QLe.refl q⟩
  have hfkeep : ∀ b, F b → w'.heap[b]? = w.heap[b]? := fun b hb => hs.keep b (hm.fl b hb) fun ⟨r, pl, t, e1, e2⟩ => (hm.nf _ pl b t e1 e2).1 hb
  have hm' : MemOk (back m rs m1) σ' F' w' := by
    refine ⟨fun r => ?_, fun r q hq => ?_, fun r r' pl pl' b t t' e1 e2 e3 e4 => ?_, fun r pl b t e1 e2 => ?_, hm1.fl, hm1.gl⟩
    · rcases hcase r with ⟨s, rfl, hs'⟩ | h1 | ⟨j, rfl, hj⟩
      · rw [hin s hs', hm1.dom s]
        cases hb : m1.at s with
        | none => exact absurd hb hs'
        | some b => rw [b2 s b hb]; simp
      · rw [b1 r h1.1 h1.2, ← hm.dom r]
        have : ¬ (∃ s, ρ s = r ∧ m1.at s ≠ none) := fun ⟨s, e, hs'⟩ => by
          subst e
          cases s with
          | bad => exact absurd rfl hs'
          | loc j => exact h1.2 j rfl
          | arg j =>
            have : j < rs.length := by
              rw [← hlo]
              rcases Nat.lt_or_ge j m1.own.length with h' | h'
              · exact h'
              · exact absurd (by simp only [Mem.at]; exact List.getElem?_eq_none h') hs'
            have h2 := h1.1
            rw [show ρ (.arg j) = nth rs j from rfl, nth_mem this] at h2
            cases h2
        rw [hold r this]
      · rw [b3 j hj]
        have : ¬ (∃ s, ρ s = .loc (m.loc.length + j) ∧ m1.at s ≠ none) := fun ⟨s, e, hs'⟩ => by
          cases s with
          | bad => exact absurd rfl hs'
          | loc i =>
            simp [ρ, out] at e
            subst e
            exact hs' hj
          | arg i =>
            have hi : i < rs.length := by
              rw [← hlo]
              rcases Nat.lt_or_ge i m1.own.length with h' | h'
              · exact h'
              · exact absurd (by simp only [Mem.at]; exact List.getElem?_eq_none h') hs'
            obtain ⟨x, hx⟩ := hd i hi
            rw [show nth rs i = .loc (m.loc.length + j) from e] at hx
            simp [Mem.at] at hx
        rw [hold _ this, hm.dom]
        simp [Mem.at]
    · by_cases hex : ∃ s, ρ s = r ∧ m1.at s ≠ none
      · obtain ⟨s, rfl, hs'⟩ := hex
        rw [hin s hs'] at hq
        obtain ⟨l1, l2⟩ := hm1.lv s q hq
        refine ⟨fun e => by rw [b2 s none (l1 e)]; rfl, fun pl e => ?_⟩
        obtain ⟨B, g1, g2⟩ := l2 pl e
        exact ⟨renB ρ B, by rw [b2 s _ g1]; rfl, g2.out hin'⟩
      · rw [hold r hex] at hq
        obtain ⟨n1, n2⟩ := holdn r q hex hq
        obtain ⟨l1, l2⟩ := hm.lv r q hq
        rw [b1 r n1 n2]
        refine ⟨l1, fun pl e => ?_⟩
        obtain ⟨B, g1, g2⟩ := l2 pl e
        refine ⟨B, g1, g2.mono hs.fro hfkeep hsle fun b t hl => ?_⟩
        subst e
        exact hs.keep b (hm.nf r pl b t hq hl).2 (hnown r pl b t n1 hq hl)
    · have mixed : ∀ s r' pl pl' b t t', m1.at s ≠ none → ¬ (∃ s, ρ s = r' ∧ m1.at s ≠ none) → σ1 s = some (some pl) → σ r' = some (some pl') → pl.loc = some (b, t) → pl'.loc = some (b, t') → False := by
        intro s r' pl pl' b t t' hs' hne e1 e2 e3 e4
        obtain ⟨n1, n2⟩ := holdn r' _ hne e2
        rcases hown1 b ⟨s, pl, t, e1, e3⟩ with h1 | h1
        · exact hnown r' pl' b t' n1 e2 e4 h1
        · have := (hm.nf r' pl' b t' e2 e4).2; omega
      by_cases hex : ∃ s, ρ s = r ∧ m1.at s ≠ none
      · obtain ⟨s, rfl, hs'⟩ := hex
        rw [hin s hs'] at e1
        by_cases hex' : ∃ s, ρ s = r' ∧ m1.at s ≠ none
        · obtain ⟨s', rfl, hs2⟩ := hex'
          rw [hin s' hs2] at e2
          rw [hm1.inj _ _ _ _ _ _ _ e1 e2 e3 e4]
        · rw [hold r' hex'] at e2
          exact (mixed s r' pl pl' b t t' hs' hex' e1 e2 e3 e4).elim
      · rw [hold r hex] at e1
        by_cases hex' : ∃ s, ρ s = r' ∧ m1.at s ≠ none
        · obtain ⟨s', rfl, hs2⟩ := hex'
          rw [hin s' hs2] at e2
          exact (mixed s' r pl' pl b t' t hs2 hex e2 e1 e4 e3).elim
        · rw [hold r' hex'] at e2
          exact hm.inj _ _ _ _ _ _ _ e1 e2 e3 e4
    · by_cases hex : ∃ s, ρ s = r ∧ m1.at s ≠ none
      · obtain ⟨s, rfl, hs'⟩ := hex
        rw [hin s hs'] at e1
        exact hm1.nf s pl b t e1 e2
      · rw [hold r hex] at e1
        obtain ⟨n1, n2⟩ := holdn r _ hex e1
        obtain ⟨g1, g2⟩ := hm.nf r pl b t e1 e2
        refine ⟨fun hb => ?_, Nat.lt_of_lt_of_le g2 hs.size⟩
        rcases hs.fro' b hb with h1 | h1 | h1
        · exact g1 h1
        · exact hnown r pl b t n1 e1 e2 h1
        · omega
  refine ⟨v, ren ρ A, back m rs m1, σ', F', he, hk, hv.out hin', hm', ⟨hs.os, hs.tape, hs.output, hs.drawn, hs.size, fun b hb hn' => hs.keep b hb fun h => hn' (hown0 b h), hs.fro, fun b hb => ?_, fun b ⟨r, pl, t, e1, e2⟩ => ?_⟩, hsle⟩
  · rcases hs.fro' b hb with h1 | h1 | h1
    · exact .inl h1
    · exact .inr (.inl (hown0 b h1))
    · exact .inr (.inr h1)
  · by_cases hex : ∃ s, ρ s = r ∧ m1.at s ≠ none
    · obtain ⟨s, rfl, hs'⟩ := hex
      rw [hin s hs'] at e1
      rcases hown1 b ⟨s, pl, t, e1, e2⟩ with h1 | h1
      · exact .inl (hown0 b h1)
      · exact .inr h1
    · rw [hold r hex] at e1
      exact .inl ⟨r, pl, t, e1, e2⟩

theorem YieldVC.at {f : Nat} {as : List AV} {own : List (Option Blk)} {S : Type} {enc : S → List AV × Mem} {J : S → Prop} {K : AV → Mem → Prop} (h : YieldVC P f as ⟨[], own⟩ (Ret enc J)) (rs : List Ref)
    (hn : nodupR rs = true) (hp : Picks m (inn rs) rs own)
    (hk : ∀ s, J s → lenL (enc s).2.own = lenL own ∧ Ev (frc (ren (out (lenL m.loc) rs) (resA (enc s).1)) fun A => frcM (back m rs (enc s).2) fun m => K A m)) : YieldVC P f (renL (inn rs) as) m K :=
  h.frame rs hn hp fun A m0 ⟨s, hJ, e1, e2⟩ => by
    subst e1; subst e2
    have := hk s hJ
    rw [frc_eq, frcM_eq] at this
    exact ⟨this.1, this.2.o⟩
end
/-- How a round may be left, and the jump that is then pending. -/
def jumpOf : Exit → Option (Option Code)
  | .normal => some none
  | .ret => some (some .ret)
  | .exit i => some (some (.exit i))
  | .goto l => some (some (.goto l))
  | _ => none
def YieldQ {S : Type} (E : S → List (Option Blk)) (jump : S → Option Code) (J : S → Prop) (n : Nat) : Post := fun e _ m => ∃ s, J s ∧ jumpOf e = some (jump s) ∧ lenL (E s) = n ∧ Le [] m [] ⟨[], E s⟩
/-- Behind the assignments to the loop's variables the body is walked. -/
def AssignQ {S : Type} (P : Program) (N : Nat) (body : Code) (E : S → List (Option Blk)) (jump : S → Option Code) (J : S → Prop) (n : Nat) : Post := fun e env m => match e with
  | .normal => Awp P N body env m (YieldQ E jump J n)
  | _ => False
/-- The record behind a round. -/
def after (r : Loop) (j : Option Code) : Loop := { r with state := if j.isNone then .ready else .done, pending := j }

theorem yield_rule {P : Program} {b N : Nat} {r : Loop} {env0 : Env} {bs : List (Option Blk)} {args : List AV} {ps : List Nat} {assign body : Code} {S : Type} (E : S → List (Option Blk)) (jump : S → Option Code) (J : S → Prop)
    (hst : r.state = .ready) (hN : r.tmps.size = N) (hps : r.params = ps.toArray) (has : r.assign = assign) (hbo : r.body = body)
    (hal : ps.length = args.length) (hlt : ∀ p ∈ ps, p < N)
    (hbs : LeL 0 (lenL bs) bs bs) (hen : allIn 0 (lenL bs) (env0.map (·.2)) = true) (har : allIn 0 (lenL bs) args = true)
    (h : Awp P N assign (bindE ps args env0) ⟨[], bs⟩ (AssignQ P N body E jump J (lenL bs))) :
    YieldVC P b args ⟨[], bs ++ [some (.loop b r env0)]⟩ (Ret (fun s => ([.d (.bool (jump s).isNone)], ⟨[], E s ++ [some (.loop b (after r (jump s)) env0)]⟩)) J) := by
  refine ⟨fun σ F w vals hm ha => ?_⟩
  rw [lenL_eq] at hbs hen har h
  generalize hj : bs.length = j at hbs hen har h
  have hatj : (bs ++ [some (Blk.loop b r env0)])[j]? = some (some (.loop b r env0)) := by rw [← hj]; simp
  have hlow : ∀ i, i < j → (bs ++ [some (Blk.loop b r env0)])[i]? = bs[i]? := fun i hi => List.getElem?_append_left (by omega)
  have hhigh : ∀ i, j < i → (bs ++ [some (Blk.loop b r env0)])[i]? = none ∧ bs[i]? = none := fun i hi => ⟨List.getElem?_eq_none (by simp; omega), List.getElem?_eq_none (by omega)⟩
  obtain ⟨pl, hpl, hok⟩ : ∃ pl, σ (.arg j) = some (some pl) ∧ BlkOk w F σ (.loop b r env0) pl := by
    cases hq : σ (.arg j) with
    | none =>
      have := (hm.dom (.arg j)).1 hq
      simp only [Mem.at] at this
      rw [hatj] at this
      cases this
    | some q =>
      obtain ⟨h1, h2⟩ := hm.lv (.arg j) q hq
      cases q with
      | none =>
        have := h1 rfl
        simp only [Mem.at] at this
        rw [hatj] at this
        cases this
      | some pl =>
        obtain ⟨B, hB, hok⟩ := h2 pl rfl
        simp only [Mem.at] at hB
        rw [hatj] at hB
        cases hB
        exact ⟨pl, rfl, hok⟩
  obtain ⟨hg, hloc, hheap, hentries⟩ := hok
  have hFb : ¬ F b := (hm.nf _ pl b 1 hpl hloc).1
  have hbl : b < w.heap.size := (hm.nf _ pl b 1 hpl hloc).2
  let σ1 : Pls := fun rf => if rf = .arg j then none else σ rf
  have hs1 : ∀ rf, rf ≠ .arg j → σ1 rf = σ rf := fun rf h => if_neg h
  have hsub : ∀ rf q, refIn 0 j rf = true → σ rf = some q → ∃ q', σ1 rf = some q' ∧ QLe q q' := fun rf q hr hq => by
    refine ⟨q, ?_, QLe.refl q⟩
    rw [hs1 rf (fun e => by subst e; simp [refIn] at hr), hq]
  have hown1 : ∀ rf pl' c t, σ1 rf = some (some pl') → pl'.loc = some (c, t) → σ rf = some (some pl') ∧ c ≠ b := fun rf pl' c t h1 h2 => by
    by_cases e : rf = .arg j
    · subst e; simp [σ1] at h1
    · rw [hs1 rf e] at h1
      refine ⟨h1, fun ec => e ?_⟩
      subst ec
      exact hm.inj rf (.arg j) pl' pl c t 1 h1 hpl h2 hloc
  let busy : Loop := { r with state := .busy }
  let w1 : World := w.putObj b (.loop busy)
  have hk1 : ∀ c, c ≠ b → w1.heap[c]? = w.heap[c]? := fun c hc => World.putObj_heap_other hc
  have hkF1 : ∀ c, F c → w1.heap[c]? = w.heap[c]? := fun c hc => hk1 c fun e => hFb (e ▸ hc)
  have hb1 : w1.heap[b]? = some (.loop busy) := World.putObj_heap_same hbl
  have hm1 : MemOk ⟨[], bs⟩ σ1 F w := by
    refine ⟨fun rf => ?_, fun rf q hq => ?_, fun r1 r2 p1 p2 c t1 t2 h1 h2 h3 h4 => hm.inj r1 r2 p1 p2 c t1 t2 (hown1 r1 p1 c t1 h1 h3).1 (hown1 r2 p2 c t2 h2 h4).1 h3 h4, fun rf p c t h1 h2 => ?_, fun c hc => ?_, hm.gl⟩
    · cases rf with
      | loc i => rw [hs1 _ (fun e => by cases e)]; exact hm.dom (.loc i)
      | bad => rw [hs1 _ (fun e => by cases e)]; exact hm.dom .bad
      | arg i =>
        rcases Nat.lt_trichotomy i j with hi | hi | hi
        · rw [hs1 _ (fun e => by cases e; omega), hm.dom (.arg i)]
          simp only [Mem.at]
          rw [hlow i hi]
        · subst hi
          simp only [Mem.at]
          exact ⟨fun _ => List.getElem?_eq_none (by omega), fun _ => if_pos rfl⟩
        · rw [hs1 _ (fun e => by cases e; omega), hm.dom (.arg i)]
          simp only [Mem.at]
          rw [(hhigh i hi).1, (hhigh i hi).2]
    · have e : rf ≠ .arg j := fun e => by subst e; simp [σ1] at hq
      have hq0 : σ rf = some q := by rw [← hs1 rf e]; exact hq
      have hat : ∀ x, (⟨[], bs ++ [some (Blk.loop b r env0)]⟩ : Mem).at rf = some x → (⟨[], bs⟩ : Mem).at rf = some x := fun x hx => by
        cases rf with
        | loc i => exact hx
        | bad => exact hx
        | arg i =>
          simp only [Mem.at] at hx ⊢
          rcases Nat.lt_trichotomy i j with hi | hi | hi
          · rw [← hlow i hi]; exact hx
          · subst hi; exact absurd rfl e
          · rw [(hhigh i hi).1] at hx; cases hx
      obtain ⟨h1, h2⟩ := hm.lv rf q hq0
      refine ⟨fun hqn => hat _ (h1 hqn), fun p hp => ?_⟩
      obtain ⟨B, hB, hok⟩ := h2 p hp
      have hB' := hat _ hB
      refine ⟨B, hB', ?_⟩
      have hble : BlkLe 0 j B B := by
        cases rf with
        | loc i => simp [Mem.at] at hB'
        | bad => simp [Mem.at] at hB'
        | arg i =>
          simp only [Mem.at] at hB'
          obtain ⟨b', k1, k2⟩ := LeL_at hbs i _ hB'
          obtain ⟨B0, k3, k4⟩ := k2 B rfl
          rw [hB'] at k1
          cases k1
          cases k3
          exact k4
      exact hok.restrict hble hsub
    · obtain ⟨h3, h4⟩ := hown1 rf p c t h1 h2
      exact hm.nf rf p c t h3 h2
    · exact hm.fl c hc
  have hv1 : ∀ {A : AV} {v : Value}, Vc w F σ A v → avIn 0 j A = true → Vc w F σ1 A v := fun hv hin => hv.restrict hin hsub
  have he0 : EnvOk env0 w F σ1 r.tmps := fun t => by
    rcases get_mem env0 t with ⟨i, hi⟩ | hjk
    · exact hv1 (hentries i t _ hi) (allIn_mem hen _ (List.mem_map.2 ⟨_, List.mem_of_getElem? hi, rfl⟩))
    · rw [hjk]; exact .junk
  have ha1 : ArgsOk w F σ1 args vals := ⟨ha.1, fun i A u hA hu => hv1 (ha.2 i A u hA hu) (allIn_mem har A (List.mem_of_getElem? hA))⟩
  have he1 := bind_ok ps args vals env0 r.tmps he0 (fun p hp => by rw [hN]; exact hlt p hp) ha1 hal
  generalize htm : (ps.zip vals).foldl (fun t (p : Nat × Value) => t.setIfInBounds p.1 p.2) r.tmps = tmps1 at he1
  have htms : tmps1.size = N := by
    rw [← htm, ← hN]
    clear htm he1
    generalize ps.zip vals = l
    generalize r.tmps = t0
    induction l generalizing t0 with
    | nil => rfl
    | cons p l ih => simp only [List.foldl_cons]; rw [ih]; simp
  have hctx : Ctx (some b) 0 [] σ1 F w := ⟨⟨[], rfl, List.nodup_nil, fun _ h => by cases h⟩, Nat.zero_le _, fun l hl => by
    cases hl
    exact ⟨⟨_, hheap⟩, fun ⟨rf, p, t, h1, h2⟩ => (hown1 rf p b t h1 h2).2 rfl, hFb⟩⟩
  have hwp := h.run (some b) 0 { tmps := tmps1, defers := [] } w σ1 F htms hctx he1 hm1
  refine ⟨r.fn, tmps1, assign, body, ?_, ?_⟩
  · rw [run_yield hheap (by rw [hps]; simp [ha.1, hal])]
    rw [has, hbo, hps]
    congr 2
    rw [← htm]
    simp
  · refine roundIn_of_wpIn (F := Fen none) (n := 0) trivial (wpIn_mono hwp ?_)
    rintro e0 a0 w2 ⟨env2, m2, σ2, F2, hqa, p2, p3, p4, p5, p6, p7⟩
    have hno1' : ¬ Owned σ1 b := fun ⟨rf, p, t, h1, h2⟩ => (hown1 rf p b t h1 h2).2 rfl
    have hb2 : w2.heap[b]? = some (.loop r) := (p6.keep b hbl hno1').trans hheap
    obtain ⟨-, hno2, hnF2⟩ := p3.rd b rfl
    have hlt2 : b < w2.heap.size := (Array.getElem?_eq_some_iff.1 hb2).1
    have hk2 : ∀ c, c ≠ b → (w2.putObj b (.loop busy)).heap[c]? = w2.heap[c]? := fun c hc => World.putObj_heap_other hc
    have hz2 : (w2.putObj b (.loop busy)).heap.size = w2.heap.size := World.putObj_size
    have hz1 : w1.heap.size = w.heap.size := World.putObj_size
    cases e0 with
    | exit _ => exact hqa.elim
    | goto _ => exact hqa.elim
    | ret => exact hqa.elim
    | panic _ => exact hqa.elim
    | outgrown => exact hqa.elim
    | normal =>
    refine ⟨_, run_beginRound hb2 hst, ?_⟩
    have hm2 : MemOk m2 σ2 F2 (w2.putObj b (.loop busy)) := p5.world (by omega) fun c hc => hk2 c fun e => by
      subst e
      rcases hc with hc | hc
      · exact hnF2 hc
      · exact hno2 hc
    have he2 : EnvOk env2 (w2.putObj b (.loop busy)) F2 σ2 a0.tmps := p4.mono (fun _ h => h) (fun c hc => hk2 c fun e => hnF2 (e ▸ hc)) (SLe.refl σ2)
    have hS1 : Step σ1 F w1 σ2 F2 (w2.putObj b (.loop busy)) := ⟨p6.os, p6.tape, p6.output, p6.drawn, by rw [hz2, hz1]; exact p6.size, fun c hc ho => by
        by_cases e : c = b
        · subst e
          rw [World.putObj_heap_same hlt2, hb1]
        · rw [hk2 c e, p6.keep c (by rw [← hz1]; exact hc) ho, hk1 c e],
      p6.fro, fun c hc => by rw [hz1]; exact p6.fro' c hc, fun c hc => by rw [hz1]; exact p6.own c hc⟩
    have hC2 : Ctx (some b) 0 a0.defers σ2 F2 (w2.putObj b (.loop busy)) := by
      obtain ⟨Ds, e, nd, hD⟩ := p3.marks
      refine ⟨⟨Ds, e, nd, fun D h => ?_⟩, Nat.zero_le _, fun l hl => ?_⟩
      · obtain ⟨k1, k2, k3⟩ := hD D h
        exact ⟨k1, by rw [hk2 D (fun e => by rw [e, hb2] at k2; cases k2)]; exact k2, k3⟩
      · cases hl
        exact ⟨⟨busy, World.putObj_heap_same hlt2⟩, hno2, hnF2⟩
    have hqa' : Awp P N body env2 m2 (YieldQ E jump J j) := hqa
    refine wpIn_mono (hqa'.run (some b) 0 a0 _ σ2 F2 p2 hC2 he2 hm2) ?_
    rintro e a w3 ⟨env', m', σ3, F3, ⟨s, hJ, hjump, hlE, hLe⟩, q2, q3, q4, q5, q6, q7⟩
    replace q6 := hS1.trans q6
    replace q7 := p7.trans q7
    obtain ⟨σ4, r1, r2, r3, r4⟩ := le_ok (env' := []) hLe (env := []) (tmps := #[]) (fun t => by simp [get]; exact .junk) q5
    have hb3 : w3.heap[b]? = some (.loop busy) := (q6.keep b (by show b < (w.putObj b _).heap.size; rw [World.putObj_size]; exact hbl) (fun ⟨rf, p, t, h1, h2⟩ => (hown1 rf p b t h1 h2).2 rfl)).trans hb1
    have q6' := q6.trans r3
    have hlE' : (E s).length = j := by rw [← lenL_eq, hlE]
    have hend := run_endRound (P := P) (jump s) hb3
    have hrec : ({ busy with state := if (jump s).isNone then .ready else .done, pending := jump s } : Loop) = after r (jump s) := rfl
    rw [hrec] at hend
    have hR : ∃ v A m' σ' F', (Ending.returned (.bool (jump s).isNone)) = .returned v ∧ Ret (fun s => ([AV.d (.bool (jump s).isNone)], (⟨[], E s ++ [some (.loop b (after r (jump s)) env0)]⟩ : Mem))) J A m' ∧ Vc (w3.putObj b (.loop (after r (jump s)))) F' σ' A v ∧ MemOk m' σ' F' (w3.putObj b (.loop (after r (jump s)))) ∧ Step σ F w σ' F' (w3.putObj b (.loop (after r (jump s)))) ∧ SLe σ σ' := by
      let σ5 : Pls := upd σ4 (.arg j) (some pl)
      have hσ4j : σ4 (.arg j) = none := (r2.dom (.arg j)).2 (List.getElem?_eq_none (by show (E s).length ≤ j; omega))
      have hs5 : SLe σ4 σ5 := SLe.upd_new (some pl) hσ4j
      have hsz : w1.heap.size = w.heap.size := World.putObj_size
      have hsz4 : (w3.putObj b (.loop (after r (jump s)))).heap.size = w3.heap.size := World.putObj_size
      have hno1 : ¬ Owned σ1 b := fun ⟨rf, p, t, h1, h2⟩ => (hown1 rf p b t h1 h2).2 rfl
      have hno4 : ¬ Owned σ4 b := fun ho => by
        rcases q6'.own b ho with ho | ho
        · exact hno1 ho
        · omega
      have hnF3 : ¬ F3 b := fun ho => by
        rcases q6'.fro' b ho with ho | ho | ho
        · exact hFb ho
        · exact hno1 ho
        · omega
      have hk4 : ∀ c, c ≠ b → (w3.putObj b (.loop (after r (jump s)))).heap[c]? = w3.heap[c]? := fun c hc => World.putObj_heap_other hc
      have hb3l : b < w3.heap.size := (Array.getElem?_eq_some_iff.1 hb3).1
      have hoo : ∀ c, Owned σ1 c → Owned σ c := fun c ⟨rf, p, t, h1, h2⟩ => ⟨rf, p, t, (hown1 rf p c t h1 h2).1, h2⟩
      have harg : ∀ i q, i < j → σ (.arg i) = some q → ∃ q', σ5 (.arg i) = some q' ∧ QLe q q' := fun i q hi hq => by
        have hne : Ref.arg i ≠ .arg j := fun e => by cases e; omega
        obtain ⟨q1, k1, k2⟩ := q7 i q (by rw [hs1 _ hne]; exact hq)
        obtain ⟨q2', k3, k4⟩ := r4 i q1 k1
        exact ⟨q2', by rw [show σ5 (.arg i) = σ4 (.arg i) from upd_other σ4 _ hne]; exact k3, k2.trans k4⟩
      have hkF4 : ∀ c, F c → (w3.putObj b (.loop (after r (jump s)))).heap[c]? = w.heap[c]? := fun c hc => by
        have hcb : c ≠ b := fun e => hFb (e ▸ hc)
        rw [hk4 c hcb, q6'.keep c (by rw [hsz]; exact hm.fl c hc) (fun ho => by
          obtain ⟨rf, p, t, h1, h2⟩ := hoo c ho
          exact (hm.nf rf p c t h1 h2).1 hc), hk1 c hcb]
      have hatE : ∀ i, i < j → (E s ++ [some (Blk.loop b (after r (jump s)) env0)])[i]? = (E s)[i]? := fun i hi => List.getElem?_append_left (by omega)
      have hatEj : (E s ++ [some (Blk.loop b (after r (jump s)) env0)])[j]? = some (some (.loop b (after r (jump s)) env0)) := by rw [← hlE']; simp
      have hatEh : ∀ i, j < i → (E s ++ [some (Blk.loop b (after r (jump s)) env0)])[i]? = none ∧ (E s)[i]? = none := fun i hi => ⟨List.getElem?_eq_none (by simp; omega), List.getElem?_eq_none (by omega)⟩
      have hcb4 : ∀ rf p c t, σ4 rf = some (some p) → p.loc = some (c, t) → c ≠ b := fun rf p c t h1 h2 e => hno4 ⟨rf, p, t, h1, by rw [← e]; exact h2⟩
      refine ⟨_, _, _, σ5, F3, rfl, ⟨s, hJ, rfl, rfl⟩, .d .bool, ?_, ?_, ?_⟩
      · refine ⟨fun rf => ?_, fun rf q hq => ?_, fun f1 f2 p1 p2 c t1 t2 h1 h2 h3 h4 => ?_, fun rf p c t h1 h2 => ?_, fun c hc => by rw [hsz4]; exact r2.fl c hc, r2.gl.mono (fun _ h => h) fun c hc => hk4 c fun e => hnF3 (e ▸ hc)⟩
        · by_cases e : rf = .arg j
          · subst e
            simp only [Mem.at]
            rw [hatEj, show σ5 (.arg j) = some (some pl) from upd_self σ4 _ _]
            exact ⟨(fun h => by cases h), (fun h => by cases h)⟩
          · rw [show σ5 rf = σ4 rf from upd_other σ4 _ e, r2.dom rf]
            cases rf with
            | loc i => exact Iff.rfl
            | bad => exact Iff.rfl
            | arg i =>
              simp only [Mem.at]
              rcases Nat.lt_trichotomy i j with hi | hi | hi
              · rw [hatE i hi]
              · subst hi; exact absurd rfl e
              · rw [(hatEh i hi).1, (hatEh i hi).2]
        · by_cases e : rf = .arg j
          · subst e
            rw [show σ5 (.arg j) = some (some pl) from upd_self σ4 _ _] at hq
            cases hq
            refine ⟨(fun h => by cases h), fun p hp => ?_⟩
            cases hp
            refine ⟨.loop b (after r (jump s)) env0, by simp only [Mem.at]; exact hatEj, hg, hloc, World.putObj_heap_same hb3l, fun i t A hi => ?_⟩
            have hvc := hentries i t A hi
            have hin : avIn 0 j A = true := allIn_mem hen _ (List.mem_map.2 ⟨_, List.mem_of_getElem? hi, rfl⟩)
            refine (hvc.restrict hin (σ' := σ5) fun rf q hr hq => ?_).mono q6'.fro hkF4 (SLe.refl σ5)
            cases rf with
            | loc i => simp [refIn] at hr
            | bad => simp [refIn] at hr
            | arg i =>
              simp only [refIn] at hr
              exact harg i q (Nat.blt_eq.mp hr) hq
          · rw [show σ5 rf = σ4 rf from upd_other σ4 _ e] at hq
            obtain ⟨h1, h2⟩ := r2.lv rf q hq
            have hat : ∀ x, (⟨[], E s⟩ : Mem).at rf = some x → (⟨[], E s ++ [some (Blk.loop b (after r (jump s)) env0)]⟩ : Mem).at rf = some x := fun x hx => by
              cases rf with
              | loc i => exact hx
              | bad => exact hx
              | arg i =>
                simp only [Mem.at] at hx ⊢
                have := (List.getElem?_eq_some_iff.1 hx).1
                rw [hatE i (by omega)]
                exact hx
            refine ⟨fun hqn => hat _ (h1 hqn), fun p hp => ?_⟩
            obtain ⟨B, hB, hok⟩ := h2 p hp
            exact ⟨B, hat _ hB, hok.mono (fun _ h => h) (fun c hc => hk4 c fun e => hnF3 (e ▸ hc)) hs5 (fun c t hc => hk4 c (hcb4 rf p c t (by rw [hq, hp]) hc))⟩
        · by_cases e1 : f1 = .arg j
          · by_cases e2 : f2 = .arg j
            · rw [e1, e2]
            · exfalso
              subst e1
              rw [show σ5 (.arg j) = some (some pl) from upd_self σ4 _ _] at h1
              cases h1
              rw [hloc] at h3
              cases h3
              exact hcb4 f2 p2 b t2 (by rw [← h2]; exact (upd_other σ4 _ e2).symm) h4 rfl
          · by_cases e2 : f2 = .arg j
            · exfalso
              subst e2
              rw [show σ5 (.arg j) = some (some pl) from upd_self σ4 _ _] at h2
              cases h2
              rw [hloc] at h4
              cases h4
              exact hcb4 f1 p1 b t1 (by rw [← h1]; exact (upd_other σ4 _ e1).symm) h3 rfl
            · exact r2.inj f1 f2 p1 p2 c t1 t2 (by rw [← h1]; exact (upd_other σ4 _ e1).symm) (by rw [← h2]; exact (upd_other σ4 _ e2).symm) h3 h4
        · rw [hsz4]
          by_cases e : rf = .arg j
          · subst e
            rw [show σ5 (.arg j) = some (some pl) from upd_self σ4 _ _] at h1
            cases h1
            rw [hloc] at h2
            cases h2
            exact ⟨hnF3, hb3l⟩
          · exact r2.nf rf p c t (by rw [← h1]; exact (upd_other σ4 _ e).symm) h2
      · refine ⟨q6'.os, q6'.tape, q6'.output, q6'.drawn, by rw [hsz4, ← hsz]; exact q6'.size, fun c hc ho => ?_, q6'.fro, fun c hc => ?_, fun c ho => ?_⟩
        · have hcb : c ≠ b := fun e => ho ⟨_, pl, 1, hpl, by rw [e]; exact hloc⟩
          rw [hk4 c hcb, q6'.keep c (by rw [hsz]; exact hc) (fun h => ho (hoo c h)), hk1 c hcb]
        · rcases q6'.fro' c hc with h | h | h
          · exact .inl h
          · exact .inr (.inl (hoo c h))
          · exact .inr (.inr (by omega))
        · obtain ⟨rf, p, t, h1, h2⟩ := ho
          by_cases e : rf = .arg j
          · subst e
            rw [show σ5 (.arg j) = some (some pl) from upd_self σ4 _ _] at h1
            cases h1
            exact .inl ⟨_, pl, t, hpl, h2⟩
          · rcases q6'.own c ⟨rf, p, t, by rw [← h1]; exact (upd_other σ4 _ e).symm, h2⟩ with h | h
            · exact .inl (hoo c h)
            · exact .inr (by omega)
      · intro rf q hq
        cases rf with
        | loc i => rw [(hm.dom (.loc i)).2 (by simp [Mem.at])] at hq; cases hq
        | bad => rw [(hm.dom .bad).2 rfl] at hq; cases hq
        | arg i =>
          rcases Nat.lt_trichotomy i j with hi | hi | hi
          · exact harg i q hi hq
          · subst hi
            rw [hpl] at hq
            cases hq
            exact ⟨some pl, upd_self σ4 _ _, QLe.refl _⟩
          · rw [(hm.dom (.arg i)).2 (by simp only [Mem.at]; exact (hhigh i hi).1)] at hq
            cases hq
    cases e with
    | normal => simp only [jumpOf, Option.some.injEq] at hjump; rw [← hjump] at hend; exact ⟨_, _, hend, by rw [← hjump] at hR; exact hR⟩
    | ret => simp only [jumpOf, Option.some.injEq] at hjump; rw [← hjump] at hend; exact ⟨_, _, hend, by rw [← hjump] at hR; exact hR⟩
    | exit i => simp only [jumpOf, Option.some.injEq] at hjump; rw [← hjump] at hend; exact ⟨_, _, hend, by rw [← hjump] at hR; exact hR⟩
    | goto l => simp only [jumpOf, Option.some.injEq] at hjump; rw [← hjump] at hend; exact ⟨_, _, hend, by rw [← hjump] at hR; exact hR⟩
    | panic ch => simp [jumpOf] at hjump
    | outgrown => simp [jumpOf] at hjump

/-- What the iterator's call must come to: the record stands again, its jump is gone after. -/
def RangeQ (P : Program) (N : Nat) (env : Env) (b : Nat) (r : Loop) (env0 : Env) (k : Nat) (Q : Post) : AV → Mem → Prop := fun _ m' =>
  ∃ jmp : Option Code, m'.get (.loc k) = some (.loop b (after r jmp) env0) ∧ match jmp with
    | none => Q .normal env (m'.put (.loc k) none)
    | some c => Awp P N c env (m'.put (.loc k) none) Q
theorem leEnv_mem {nl na : Nat} {env : Env} : ∀ {env0 : Env}, LeEnv nl na env env0 → ∀ (j : Nat) t A, env0[j]? = some (t, A) → get env t = A
  | [], _, j, t, A, h => by simp at h
  | (k, B) :: r, hl, j, t, A, h => by
    cases j with
    | zero => simp at h; obtain ⟨rfl, rfl⟩ := h; exact hl.1.1
    | succ j => exact leEnv_mem hl.2 j t A (by simpa using h)
section
variable {P : Program} {w w' : World} {F : Nat → Prop} {σ : Pls} {m : Mem}
theorem kill_ok (hm : MemOk m σ F w) {r : Ref} {q : Option Pl} (hr : σ r = some q) : MemOk (m.put r none) (upd σ r none) F w ∧ SLe σ (upd σ r none) := by
  have hs : SLe σ (upd σ r none) := SLe.upd_old hr (QLe.none q)
  have hat : ∃ x, m.at r = some x := by
    cases h : m.at r with
    | none => have := (hm.dom r).2 h; rw [this] at hr; cases hr
    | some x => exact ⟨x, rfl⟩
  obtain ⟨x, hx⟩ := hat
  have hne : ∀ rf p, upd σ r none rf = some (some p) → rf ≠ r := fun rf p h e => by subst e; rw [upd_self] at h; cases h
  refine ⟨⟨fun rf => ?_, fun rf q' hq => ?_, fun r1 r2 p1 p2 b t1 t2 h1 h2 => ?_, fun rf p b t h1 h2 => ?_, hm.fl, hm.gl⟩, hs⟩
  · by_cases e : rf = r
    · subst e
      rw [upd_self, put_self none hx]
      exact ⟨(fun h => by cases h), (fun h => by cases h)⟩
    · rw [upd_other σ none e, put_other none e]; exact hm.dom rf
  · by_cases e : rf = r
    · subst e
      rw [upd_self] at hq
      cases hq
      exact ⟨fun _ => put_self none hx, fun p hp => by cases hp⟩
    · rw [upd_other σ none e] at hq
      rw [put_other none e]
      obtain ⟨h1, h2⟩ := hm.lv rf q' hq
      exact ⟨h1, fun p hp => by
        obtain ⟨B, hB, hok⟩ := h2 p hp
        exact ⟨B, hB, hok.mono (fun _ h => h) (fun _ _ => rfl) hs (fun _ _ _ => rfl)⟩⟩
  · have e1 := hne r1 p1 h1
    have e2 := hne r2 p2 h2
    rw [upd_other σ none e1] at h1
    rw [upd_other σ none e2] at h2
    exact hm.inj r1 r2 p1 p2 b t1 t2 h1 h2
  · have e1 := hne rf p h1
    rw [upd_other σ none e1] at h1
    exact hm.nf rf p b t h1 h2

/-- What entering the statement lays. -/
theorem enter_ok {ro : Option Nat} {lo : Nat} {ds : List Deferred} (hc : Ctx ro lo ds σ F w) (fn : FuncId) (tmps : Array Value) (ps : Array Tmp) (assign body : Code) :
    ∃ (l : Nat) (Ms : List Nat) (w1 : World) (rec : Loop), (Instr.enterLoop fn tmps ps assign body ro).run P w = .ok (l, Ms.map mark) w1 ∧ w1.heap[l]? = some (.loop rec) ∧ rec.state = .ready ∧ rec.tmps = tmps ∧ rec.params = ps ∧ rec.assign = assign ∧ rec.body = body ∧
      rec.pending = none ∧ w.heap.size ≤ l ∧ l < w1.heap.size ∧ w.heap.size ≤ w1.heap.size ∧ (∀ b, b < w.heap.size → w1.heap[b]? = w.heap[b]?) ∧ w1.os = w.os ∧ w1.tape = w.tape ∧ w1.output = w.output ∧ w.drawn ≤ w1.drawn ∧ Ms.Nodup ∧ ∀ D ∈ Ms, w.heap.size ≤ D ∧ D ≠ l ∧ w1.heap[D]? = some (.deferred (some [])) := by
  cases ro with
  | none =>
    refine ⟨w.heap.size + 1, [w.heap.size], _, { state := .ready, pending := none, fn, tmps, params := ps, assign, body, defers := w.heap.size }, run_enterLoop_outer fn tmps ps assign body, ?_, rfl, rfl, rfl, rfl, rfl, rfl, by omega, by simp, by simp; omega, fun b hb => ?_, rfl, rfl, rfl, Nat.le_refl _, by simp, fun D hD => ?_⟩
    · have := World.alloc_heap_new (w.alloc (.deferred (some []))) (.loop { state := .ready, pending := none, fn, tmps, params := ps, assign, body, defers := w.heap.size })
      rwa [World.size_alloc] at this
    · rw [Below.heap_alloc _ _ b (by simp; omega), Below.heap_alloc _ _ b hb]
    · simp only [List.mem_singleton] at hD
      subst hD
      refine ⟨Nat.le_refl _, by omega, ?_⟩
      rw [Below.heap_alloc _ _ _ (by simp)]
      exact World.alloc_heap_new w _
  | some l0 =>
    obtain ⟨⟨r0, h0⟩, _⟩ := hc.rd l0 rfl
    refine ⟨w.heap.size, [], _, { state := .ready, pending := none, fn, tmps, params := ps, assign, body, defers := r0.defers }, run_enterLoop_inner h0 fn tmps ps assign body, World.alloc_heap_new w _, rfl, rfl, rfl, rfl, rfl, rfl, Nat.le_refl _, by simp, by simp, fun b hb => Below.heap_alloc w _ b hb, rfl, rfl, rfl, Nat.le_refl _, List.nodup_nil, fun D hD => by cases hD⟩

/-- THE RULE FOR A RANGE OVER A FUNCTION. -/
theorem Awp.range {N : Nat} {f : Operand} {ps : Array Tmp} {assign body : Code} {env : Env} {m : Mem} {Q : Post} {g : FuncId} {caps : List AV} (env0 : Env)
    (hf : ev env f = .fn (.func g) [] caps ∨ ∃ xs, ev env f = .d (.fn (.func g) [] xs) ∧ caps = up xs) {nl na : Nat} (he0 : LeEnv nl na env env0)
    (h : ∀ (b : Nat) (r : Loop), r.state = .ready → r.pending = none → r.tmps.size = N → r.params = ps → r.assign = assign → r.body = body →
      CallVC P g (.fn (.yield b) [] [] :: caps) (m.add (.loop b r env0)) (RangeQ P N env b r env0 (lenL m.loc) Q)) : Awp P N (.rangeFunc f ps assign body) env m Q := by
  refine ⟨fun ro lo a w σ F hN hC he hm => wpIn_rangeFunc fun fn _ => ?_⟩
  obtain ⟨l, Ms, w1, rec, hent, hl1, hst, htm, hps, has, hbo, hpe, hll, hlw, hsz, hk, hos, htape, hout, hdr, hnd, hMs⟩ := enter_ok (P := P) hC fn a.tmps ps assign body
  obtain ⟨us, hfv, hus⟩ : ∃ us : List Value, a.eval f = .func (.func g) #[] us.toArray ∧ ArgsOk w F σ caps us := by
    have hv := ev_ok he f
    rcases hf with hf | ⟨xs, hf, rfl⟩
    · rw [hf] at hv
      generalize a.eval f = X at hv
      cases hv with
      | @fn _ _ _ us vs h1 h2 h3 h4 =>
        have : us = [] := by simpa using h1
        subst this
        exact ⟨vs, rfl, h2, h4⟩
    · rw [hf] at hv
      generalize a.eval f = X at hv
      cases hv with
      | d hv => cases hv with
        | @fn _ _ _ us vs h1 h2 h3 h4 =>
          have : us = [] := by simpa using h1
          subst this
          exact ⟨vs, rfl, .ofD h2 h4⟩
  let pl : Pl := ⟨0, 0, some (l, 1)⟩
  have hkF : ∀ b, F b → w1.heap[b]? = w.heap[b]? := fun b hb => hk b (hm.fl b hb)
  have hs1 : SLe σ (upd σ m.new (some pl)) := SLe.upd_new (some pl) (new_none hm)
  obtain ⟨hm1, -⟩ := fresh_ok (w' := w1) (pl := pl) (B := .loop l rec env0) hm hsz hk
    ⟨rfl, rfl, hl1, fun j t A hj => by
      have := he t
      rw [leEnv_mem he0 j t A hj] at this
      rw [htm]
      exact this.mono (fun _ h => h) hkF hs1⟩
    (fun b t hb => by simp only [pl, Option.some.injEq, Prod.mk.injEq] at hb; obtain ⟨rfl, _⟩ := hb; exact ⟨hll, hlw⟩)
  have hst1 : Step σ F w (upd σ m.new (some pl)) F w1 := ⟨hos, htape, hout, hdr, hsz, fun b hb _ => hk b hb, fun _ h => h, fun _ h => .inl h, own_upd_new fun b t hb => by simp only [pl, Option.some.injEq, Prod.mk.injEq] at hb; omega⟩
  have hC1 : Ctx ro lo (Ms.map mark ++ a.defers) (upd σ m.new (some pl)) F w1 := by
    have hC0 := hC.step hst1
    obtain ⟨Ds, e, nd, hD⟩ := hC0.marks
    obtain ⟨Ds', e', nd', hD'⟩ := hC.marks
    have hinj : ∀ {A B : List Nat}, A.map mark = B.map mark → A = B := fun {A B} hAB => by
      have hm0 : ∀ x y, mark x = mark y → x = y := fun x y hxy => by simpa [mark] using hxy
      induction A generalizing B with
      | nil => cases B with
        | nil => rfl
        | cons => simp at hAB
      | cons x A ih => cases B with
        | nil => simp at hAB
        | cons y B => simp only [List.map_cons, List.cons.injEq] at hAB; rw [hm0 x y hAB.1, ih hAB.2]
    have hDs : Ds = Ds' := hinj (e.symm.trans e')
    subst hDs
    refine ⟨⟨Ms ++ Ds, by rw [List.map_append, e], ?_, fun D hDm => ?_⟩, hC0.low, hC0.rd⟩
    · rw [List.nodup_append]
      refine ⟨hnd, nd, fun x hx y hy e => ?_⟩
      subst e
      have h1 := (hMs x hx).1
      have h2 := (Array.getElem?_eq_some_iff.1 (hD' x hy).2.1).1
      omega
    · rcases List.mem_append.1 hDm with hDm | hDm
      · obtain ⟨k1, k2, k3⟩ := hMs D hDm
        refine ⟨Nat.le_trans hC.low k1, k3, fun ⟨rf, p, t, h1, h2⟩ => ?_, fun hF => ?_⟩
        · by_cases e : rf = m.new
          · subst e
            rw [upd_self] at h1
            cases h1
            simp only [pl, Option.some.injEq, Prod.mk.injEq] at h2
            exact k2 h2.1.symm
          · rw [upd_other σ _ e] at h1
            have := (hm.nf rf p D t h1 h2).2
            omega
        · have := hm.fl D hF
          omega
      · exact hD D hDm
  have hcv := h l rec hst hpe (by rw [htm]; exact hN) hps has hbo
  have hargs : ArgsOk w1 F (upd σ m.new (some pl)) (.fn (.yield l) [] [] :: caps) (.func (.yield l) #[] #[] :: us) := by
    refine ⟨by simp [hus.1], fun j A u hA hu => ?_⟩
    cases j with
    | zero =>
      simp at hA hu
      subst hA; subst hu
      exact .fn (us := []) (vs := []) rfl rfl (fun j x u h => by simp at h) (fun j x u h => by simp at h)
    | succ j => exact (hus.2 j A u (by simpa using hA) (by simpa using hu)).mono (fun _ h => h) hkF hs1
  have hcall := hcv.run _ F w1 _ hm1 hargs
  refine ⟨l, Ms.map mark, w1, { target := .fn (.func g) us.toArray, args := #[.func (.yield l) #[] #[]] }, w1, g, (.func (.yield l) #[] #[] :: us).toArray, w1, hent, ?_, fun _ _ => trivial, ?_, Fen_depth, callsFen.2 (hcall.mono ?_)⟩
  · simp only [resolve, hfv]
    simp [go_sem]
  · have := run_callFunc hcv.can (.func (.yield l) #[] #[] :: us).toArray w1
    simp only [invoke]
    have e : (#[.func (.yield l) #[] #[]] : Array Value) ++ us.toArray = (.func (.yield l) #[] #[] :: us).toArray := by simp
    rw [e]
    exact this
  · rintro e w' ⟨v, A, m', σ', F', rfl, ⟨jmp, hget, hq⟩, hv, hm', hst2, hs2⟩
    have hat := Mem.get_at hget
    have hnew : m.new = .loc (lenL m.loc) := rfl
    obtain ⟨q', hq', hqle⟩ := hs2 m.new (some pl) (upd_self σ _ _)
    rw [hnew] at hq'
    obtain ⟨pl', e1, hok⟩ : ∃ pl', q' = some pl' ∧ BlkOk w' F' σ' (.loop l (after rec jmp) env0) pl' := by
      obtain ⟨h1, h2⟩ := hm'.lv _ q' hq'
      cases q' with
      | none => have := h1 rfl; rw [hat] at this; cases this
      | some pl' =>
        obtain ⟨B, hB, hok⟩ := h2 pl' rfl
        rw [hat] at hB
        cases hB
        exact ⟨pl', rfl, hok⟩
    subst e1
    obtain ⟨-, hloc', hheap', -⟩ := hok
    have hnb : (after rec jmp).state ≠ .busy := by cases jmp <;> simp [after]
    refine ⟨jmp, _, run_endLoop hheap' hnb, ?_⟩
    obtain ⟨hm2, hs3⟩ := kill_ok hm' hq'
    generalize hσ4 : upd σ' (.loc (lenL m.loc)) none = σ4 at hm2 hs3
    generalize hex : ({ after rec jmp with state := .exhausted } : Loop) = ex
    have hFl : ¬ F' l := (hm'.nf _ pl' l 1 hq' hloc').1
    have hlw' : l < w'.heap.size := (hm'.nf _ pl' l 1 hq' hloc').2
    have hOl : ¬ Owned σ4 l := fun ⟨rf, p, t, h1, h2⟩ => by
      subst hσ4
      by_cases e : rf = .loc (lenL m.loc)
      · subst e; rw [upd_self] at h1; cases h1
      · rw [upd_other σ' none e] at h1
        exact e (hm'.inj rf _ p pl' l t 1 h1 hq' h2 hloc')
    have hkx : ∀ b, b ≠ l → (w'.putObj l (.loop ex)).heap[b]? = w'.heap[b]? := fun b hb => World.putObj_heap_other hb
    have hszx : (w'.putObj l (.loop ex)).heap.size = w'.heap.size := World.putObj_size
    have hm4 : MemOk (m'.put (.loc (lenL m.loc)) none) σ4 F' (w'.putObj l (.loop ex)) := hm2.world (by omega) fun b hb => hkx b fun e => by
      subst e
      rcases hb with hb | hb
      · exact hFl hb
      · exact hOl hb
    have hst4 : Step σ' F' w' σ4 F' (w'.putObj l (.loop ex)) := ⟨rfl, rfl, rfl, Nat.le_refl _, by omega, fun b hb ho => hkx b fun e => ho ⟨_, pl', 1, hq', by rw [e]; exact hloc'⟩, fun _ h => h, fun _ h => .inl h, fun b ⟨rf, p, t, h1, h2⟩ => by
      subst hσ4
      by_cases e : rf = .loc (lenL m.loc)
      · subst e; rw [upd_self] at h1; cases h1
      · rw [upd_other σ' none e] at h1
        exact .inl ⟨rf, p, t, h1, h2⟩⟩
    have hstep := (hst1.trans hst2).trans hst4
    have hsle : SLe σ σ4 := fun r q hr => by
      obtain ⟨q1, k1, k2⟩ := hs1 r q hr
      obtain ⟨q2, k3, k4⟩ := hs2 r q1 k1
      obtain ⟨q3, k5, k6⟩ := hs3 r q2 k3
      exact ⟨q3, k5, (k2.trans k4).trans k6⟩
    have he4 : EnvOk env (w'.putObj l (.loop ex)) F' σ4 a.tmps := he.mono hstep.fro (hstep.frozen hm) hsle
    have hC4 : Ctx ro lo (Ms.map mark ++ a.defers) σ4 F' (w'.putObj l (.loop ex)) := (hC1.step hst2).step hst4
    have hpend : (after rec jmp).pending = jmp := rfl
    cases jmp with
    | none => exact ⟨env, _, σ4, F', hq, hN, hC4, he4, hm4, hstep, .of hsle⟩
    | some c => exact wpIn_mono ((show Awp P N c env _ Q from hq).run ro lo { a with defers := Ms.map mark ++ a.defers } _ σ4 F' hN hC4 he4 hm4) fun e a2 w2 h2 => lift_trans hstep (.of hsle) h2
end
end Go.Ab
/-
  The engine, part T: what is handed to a law reads as data; a law that answers true for all data proves its row.
-/
namespace Go.Ab
set_option linter.unusedSimpArgs false
set_option linter.unusedVariables false
open Go.ChangeShapes Go.WideShapes Go.RowKit Go.Deep

/-- Types that are made of truths, integers, strings, slices and structs alone. -/
def simpleT (P : Program) : Nat → TypeId → Bool
  | 0, _ => false
  | n + 1, t => match P.underlying t with
    | some .bool | some (.int _) | some .string => true
    | some (.slice e) => decide (0 < P.cellsOf e) && simpleT P n e
    | some (.struct fs) => fs.all fun f => simpleT P n f.type
    | _ => false
/-- The cells of a type, as data. -/
def OfTy (P : Program) : Nat → TypeId → List D → Prop
  | 0, _, _ => False
  | n + 1, t, ds => match P.underlying t with
    | some .bool => ∃ b, ds = [.bool b]
    | some (.int k) => ∃ i, ds = [.int k i] ∧ (Lit.int k i).wf = true
    | some .string => ∃ s : ByteArray, ds = [.str s] ∧ s.size ≤ maxLen
    | some (.slice e) => ∃ k f, ds = [.sl (P.cellsOf e) k f] ∧ k ≤ maxLen ∧ ∀ i, i < k → OfTy P n e (f i)
    | some (.struct fs) => ∃ ps : List (List D), ds = ps.flatten ∧ ps.length = fs.size ∧ ∀ (j : Nat) f p, fs[j]? = some f → ps[j]? = some p → OfTy P n f.type p
    | _ => False

section
variable {H : Type} {enc : TypeId × Value → H} {P : Program} {w : World}
/-- Every cell of the list is read by the datum beside it. -/
def RdL (w : World) (ds : List D) (cs : List Value) : Prop :=
  ds.length = cs.length ∧ ∀ (j : Nat) d u, ds[j]? = some d → cs[j]? = some u → Rd w (· < w.heap.size) d u ∧ u.oneCell' = true
theorem RdL.append {ds ds' : List D} {cs cs' : List Value} (h : RdL w ds cs) (h' : RdL w ds' cs') : RdL w (ds ++ ds') (cs ++ cs') := by
  refine ⟨by simp [h.1, h'.1], fun j d u hd hu => ?_⟩
  rw [List.getElem?_append] at hd hu
  rw [h.1] at hd
  split at hd
  · rename_i hj; rw [if_pos hj] at hu; exact h.2 j d u hd hu
  · rename_i hj; rw [if_neg hj] at hu; exact h'.2 _ d u hd hu
theorem RdL.one {d : D} {u : Value} (h : Rd w (· < w.heap.size) d u) (h1 : u.oneCell' = true) : RdL w [d] [u] :=
  ⟨rfl, fun j d' u' hd hu => by
    match j with
    | 0 => simp at hd hu; subst hd; subst hu; exact ⟨h, h1⟩
    | j + 1 => simp at hd⟩

theorem kids_slice_row (hl : laidOutB P = true) {t e : TypeId} (ht : t < P.types.size) (hu : P.underlying t = some (.slice e)) : e < P.types.size := kid_slice hl ht hu
theorem rd_of_trod (hl : laidOutB P = true) : ∀ (n : Nat) (t : TypeId) (m : Nat) (cs : List Value) (x : DataW H × List MemPlace), t < P.types.size → simpleT P n t = true →
    DataW.trod enc P w 0 (fun _ => true) true m t cs = some x → ∃ ds, RdL w ds cs ∧ OfTy P n t ds := by
  intro n
  induction n with
  | zero => intro t m cs x _ h; simp [simpleT] at h
  | succ n ih =>
    intro t m cs x hlt hs h
    unfold simpleT at hs
    unfold OfTy
    split at hs
    · rename_i hu
      obtain ⟨b, rfl, -⟩ := DataW.trod_bool hu h
      exact ⟨[.bool b], .one .bool rfl, b, rfl⟩
    · rename_i k hu
      obtain ⟨i, rfl, -, hw⟩ := DataW.trod_int hu h
      exact ⟨[.int k i], .one .int rfl, i, rfl, hw⟩
    · rename_i hu
      obtain ⟨s, rfl, -, hs'⟩ := DataW.trod_string hu h
      exact ⟨[.str s], .one .str rfl, s, rfl, hs'⟩
    · rename_i e hu
      simp only [Bool.and_eq_true, decide_eq_true_eq] at hs
      rcases open_slice hu h with ⟨rfl, -⟩ | ⟨a, len, cap, k, m', D0, Pl, rfl, -, hlc, hcap, hk, -, hel⟩
      · refine ⟨[.sl (P.cellsOf e) 0 fun _ => []], .one (.sl ⟨0, 0, none⟩ (fun _ _ => undef) (Nat.le_refl _) (fun h => absurd h (by omega)) (fun i hi => absurd hi (by omega)) (fun i j hi => absurd hi (by omega)) (fun i j x hi => absurd hi (by omega))) rfl, 0, _, rfl, by omega, fun i hi => absurd hi (by omega)⟩
      · have hlt' : e < P.types.size := (kids_slice_row hl) hlt hu
        have hex : ∀ i, ∃ q : List D × List Value, i < len → w.cells? 0 (a.add (i * P.cellsOf e)) (P.cellsOf e) = some q.2 ∧ RdL w q.1 q.2 ∧ OfTy P n e q.1 := fun i => by
          by_cases hi : i < len
          · obtain ⟨cs', hc, ht'⟩ := hel i (by simp only [if_true] at hk; omega)
            obtain ⟨ds, h1, h2⟩ := ih e m' cs' _ hlt' hs.2 ht'
            exact ⟨(ds, cs'), fun _ => ⟨hc, h1, h2⟩⟩
          · exact ⟨([], []), fun h => absurd h hi⟩
        have hq := fun i => (hex i).choose_spec
        have hcl : ∀ i j, i < len → j < P.cellsOf e → w.cell? (a.add (i * P.cellsOf e + j)) = some ((hex i).choose.2.getD j undef) ∧ (hex i).choose.2[j]? = some ((hex i).choose.2.getD j undef) := fun i j hi hj => by
          obtain ⟨hc, -, -⟩ := hq i hi
          obtain ⟨-, h2, h3⟩ := World.cells?_some hc
          have : (hex i).choose.2[j]? = some ((hex i).choose.2.getD j undef) := by
            rw [List.getD_eq_getElem?_getD, List.getElem?_eq_getElem (by omega)]; rfl
          refine ⟨?_, this⟩
          rw [← this, ← h3 j hj, Go.Deep.add_add]
        refine ⟨[.sl (P.cellsOf e) len fun i => (hex i).choose.1], .one (.sl a (fun i j => (hex i).choose.2.getD j undef) hlc (fun h0 => ⟨rfl, ?_⟩) (fun i hi => ?_) (fun i j hi hj => ⟨(hcl i j hi hj).1, ?_⟩) (fun i j x hi hx => ?_)) rfl, len, _, rfl, by omega, fun i hi => (hq i hi).2.2⟩
        · have := World.block_lt_of_cell? w _ (hcl 0 0 h0 hs.1).1
          rwa [add_block] at this
        · obtain ⟨hc, h1, -⟩ := hq i hi
          rw [h1.1, (World.cells?_some hc).2.1]
        · obtain ⟨hc, h1, -⟩ := hq i hi
          have hlen := (World.cells?_some hc).2.1
          have hd : (hex i).choose.1[j]? = some ((hex i).choose.1[j]'(by rw [h1.1]; omega)) := List.getElem?_eq_getElem _
          exact (h1.2 j _ _ hd (hcl i j hi hj).2).2
        · obtain ⟨hc, h1, -⟩ := hq i hi
          have hj : j < P.cellsOf e := by
            have := (List.getElem?_eq_some_iff.1 hx).1
            rw [h1.1, (World.cells?_some hc).2.1] at this
            exact this
          exact (h1.2 j x _ hx (hcl i j hi hj).2).1
    · rename_i fs hu
      obtain ⟨xs, m', -, -, hcs, hxl, hf⟩ := DataW.trod_struct hu h
      obtain ⟨kt, ksum, koff⟩ := kid_struct hl hlt hu
      have hfs : ∀ (j : Nat) f, fs[j]? = some f → simpleT P n f.type = true := fun j f hj => by
        have := Array.all_eq_true_iff_forall_mem.1 hs f (Array.mem_of_getElem? hj)
        exact this
      have hex : ∀ j : Nat, ∃ ds : List D, ∀ f : Field, fs[j]? = some f → RdL w ds ((cs.drop f.offset).take (P.cellsOf f.type)) ∧ OfTy P n f.type ds := fun j => by
        cases hj : fs[j]? with
        | none => exact ⟨[], fun f h => by cases h⟩
        | some f =>
          have hx := hf j f hj
          have hjl : j < xs.length := by have := (Array.getElem?_eq_some_iff.1 hj).1; omega
          rw [List.getElem?_eq_getElem hjl] at hx
          obtain ⟨ds, h1, h2⟩ := ih f.type m' _ _ (kt f (by simpa using Array.mem_of_getElem? hj)) (hfs j f hj) hx
          exact ⟨ds, fun f' h => by cases h; exact ⟨h1, h2⟩⟩
      have hq := fun j => (hex j).choose_spec
      refine ⟨((List.range fs.size).map fun j => (hex j).choose).flatten, ?_, _, rfl, by simp, fun j f p hj hp => ?_⟩
      · have key : ∀ k, k ≤ fs.size → RdL w ((List.range k).map fun j => (hex j).choose).flatten (cs.take (((fs.toList.map fun f => P.cellsOf f.type).take k).sum)) := by
          intro k
          induction k with
          | zero => intro _; exact ⟨by simp, fun j d u h => by simp at h⟩
          | succ k ihk =>
            intro hk
            have hj : fs[k]? = some fs[k] := Array.getElem?_eq_getElem (by omega)
            rw [List.range_succ, List.map_append, List.flatten_append]
            have e1 : (fs.toList.map fun f => P.cellsOf f.type).take (k + 1) = (fs.toList.map fun f => P.cellsOf f.type).take k ++ [P.cellsOf fs[k].type] := by
              rw [List.take_add_one, List.getElem?_map]
              simp [hj]
            rw [e1, List.sum_append, List.take_add]
            refine (ihk (by omega)).append ?_
            have := (hq k _ hj).1
            rw [koff k _ (by simp)] at this
            simpa [List.map_take] using this
        have h1 := key fs.size (Nat.le_refl _)
        rw [List.take_of_length_le (i := fs.size) (by simp), ← ksum, ← hcs, List.take_length] at h1
        exact h1
      · rw [List.getElem?_map] at hp
        have hjl : j < fs.size := (Array.getElem?_eq_some_iff.1 hj).1
        rw [List.getElem?_range hjl] at hp
        simp only [Option.map_some, Option.some.injEq] at hp
        subst hp
        exact (hq j f hj).2
    · cases hs

/-- An argument, as data: its top is a struct's value or one cell. -/
theorem rd_arg (hl : laidOutB P = true) {n : Nat} {t : TypeId} {v : Value} {d : DataW H} {ps : List MemPlace} {base : Nat} (ht : t < P.types.size) (hs : simpleT P n t = true) (hv : Value.okWide P w .any base t v)
    (h : DataW.Trod enc P w 0 (fun _ => true) true t v d ps) : ∃ ds, OfTy P n t ds ∧ ((∃ x, ds = [x] ∧ Rd w (· < w.heap.size) x v) ∨ Rd w (· < w.heap.size) (.agg ds) v) ∧ ((∀ fs, P.underlying t ≠ some (.struct fs)) → ∃ x, ds = [x] ∧ Rd w (· < w.heap.size) x v) ∧ (∀ fs, P.underlying t = some (.struct fs) → Rd w (· < w.heap.size) (.agg ds) v) := by
  obtain ⟨m, hm⟩ := h
  obtain ⟨ds, h1, h2⟩ := rd_of_trod hl n t m _ _ ht hs hm
  have hagg : ∀ fs, P.underlying t = some (.struct fs) → Rd w (· < w.heap.size) (.agg ds) v := fun fs hu => by
    unfold Value.okWide at hv
    rw [hu] at hv
    obtain ⟨cs, rfl, -, -⟩ := hv
    have : (Value.agg cs).cells.toList = cs.toList := rfl
    rw [this] at h1
    have := Rd.agg (w := w) (F := (· < w.heap.size)) (cs := ds) (us := cs.toList) h1.1.symm (fun j x u hx hu => (h1.2 j x u hx hu).1)
    simpa using this
  have hone : (∀ fs, P.underlying t ≠ some (.struct fs)) → ∃ x, ds = [x] ∧ Rd w (· < w.heap.size) x v := fun hns => by
    have hc : v.cells.toList = [v] := by
      cases n with
      | zero => simp [simpleT] at hs
      | succ n =>
        unfold simpleT at hs
        unfold Value.okWide at hv
        split at hs <;> first | (rename_i hu; rw [hu] at hv; cases v <;> first | rfl | (simp [Cell.okWide, Cell.ok, hu] at hv; done)) | (rename_i hu; exact absurd hu (hns _)) | cases hs
    rw [hc] at h1
    match ds, h1 with
    | [x], h1 => exact ⟨x, rfl, (h1.2 0 x v rfl rfl).1⟩
    | [], h1 => exact absurd h1.1 (by simp)
    | _ :: _ :: _, h1 => exact absurd h1.1 (by simp)
  refine ⟨ds, h2, ?_, hone, hagg⟩
  by_cases hst : ∃ fs, P.underlying t = some (.struct fs)
  · obtain ⟨fs, hu⟩ := hst
    exact .inr (hagg fs hu)
  · exact .inl (hone fun fs hu => hst ⟨fs, hu⟩)

theorem below_trodAll (hl : laidOutB P = true) {W W' : World} (hb : Below W.heap.size W W') : ∀ {ts : List TypeId} {vs : List Value} {ds : List (DataW H)} {ps : List MemPlace}, (∀ t ∈ ts, P.readableRec t = true ∧ t < P.types.size) →
    DataW.TrodAll enc P W 0 (fun _ => true) true ts vs ds ps → (∀ x ∈ ps, x.block < W.heap.size) → DataW.TrodAll enc P W' 0 (fun b => decide (b < W.heap.size)) true ts vs ds ps
  | [], [], [], _, _, h, _ => h
  | t :: _, _ :: _, _ :: _, _, ht, ⟨p, q, h1, h2, e⟩, hp =>
    ⟨p, q, Below.trod hl (ht t (by simp)).1 (ht t (by simp)).2 h1 hb (fun x hx => hp x (by rw [e]; exact List.mem_append_left _ hx)),
      below_trodAll hl hb (fun t h => ht t (by simp [h])) h2 (fun x hx => hp x (by rw [e]; exact List.mem_append_right _ hx)), e⟩

/-- A law that answers true for all data: what its row says behind the call. -/
theorem law_post (hl : laidOutB P = true) {f : FuncId} {fn : Func} {s : ChangeSpec} {apart fresh handsOn : Bool} {W : World} {args : Array Value} {ds gs : List (DataW H)} {before : List MemPlace} {tb : TypeId}
    (hts : ∀ t ∈ fn.params.toList, P.readableRec t = true ∧ t < P.types.size) (hrt : fn.resultTypes = #[tb]) (hb : P.underlying tb = some .bool) (hsv : s.vars = [])
    (hsf : s.fn H (ds ++ gs) = { results := [.lit (.bool true)], args := ds })
    (hW : DataW.Whole enc P fn.params.toList s.vars apart W args.toList ds gs before)
    (hG : GOk (· < W.heap.size) W) (xs : List D) (hp : Pure P f xs [.bool true]) (hlen : args.toList.length = xs.length) (hr : ∀ (j : Nat) x u, xs[j]? = some x → args.toList[j]? = some u → Rd W (· < W.heap.size) x u) :
    Calls P f args W fun e W' => ∃ v, e = .returned v ∧ s.post enc P fn apart fresh handsOn false W args v W' := by
  have := hp.2 (· < W.heap.size) W args.toList (fun _ h => h) hG hlen hr
  rw [Array.toArray_toList] at this
  refine this.mono ?_
  rintro e W' ⟨v, F', rfl, hg, hv⟩
  have hv' := hv fun _ => none
  have ev : v = .bool true := by cases hv' with | d h => cases h; rfl
  subst ev
  refine ⟨_, rfl, ?_⟩
  have hbl : Below W.heap.size W W' := ⟨hg.os, hg.tape, hg.output, hg.size, hg.keep⟩
  have hlt := hW.lt
  obtain ⟨p, q, hA, hV, hpq, hfz, hnd⟩ := hW
  have hq : q = [] := by
    rw [hsv] at hV
    match gs, hV with
    | [], hV => exact hV
  subst hq
  rw [List.append_nil] at hpq
  subst hpq
  refine ⟨ds, gs, before, [], before, [], ⟨before, [], hA, hV, by simp, hfz, hnd⟩, ?_, ?_, ?_, ?_, fun h => by cases h⟩
  · rw [hrt, hsf]
    exact trodAll_mk1 (shut_bool hb true)
  · rw [hsf]
    exact below_trodAll hl hbl hts hA hlt
  · rw [hsf, hsv]
    exact rfl
  · have hsame : W.keptBut W' (fun _ => False) := by
      refine ⟨hg.os, hg.output, fun i hi => ?_⟩
      rw [hg.keep i hi]
      cases h : W.heap[i]? with
      | none => rfl
      | some o => cases o <;> simp
    exact World.keptBut_mono (fun _ h => h.elim) hsame
end
end Go.Ab
/-
  The engine, part AE: maps whose values are rows that grow: m[k] = append(m[k], x).
-/
namespace Go.Ab
set_option linter.unusedSimpArgs false
set_option linter.unusedVariables false
def Mem.addArg (m : Mem) (b : Blk) : Mem := ⟨m.loc, snoc m.own (some b)⟩
def Mem.newArg (m : Mem) : Ref := .arg (lenL m.own)
section
variable {P : Program} {T : Tab} {N : Nat} {w w' : World} {F : Nat → Prop} {σ : Pls} {m m' : Mem} {env : Env} {K : AV → Mem → Prop} {o : Oper}
theorem forgetN_ok (hm : MemOk m σ F w) {r : Ref} {q : Option Pl} (hr : σ r = some q) : MemOk (m.put r none) (upd σ r none) F w ∧ SLe σ (upd σ r none) := by
  have hs := SLe.upd_old hr (QLe.none q)
  have hat : ∃ b, m.at r = some b := by
    cases h : m.at r with
    | none => rw [(hm.dom r).2 h] at hr; cases hr
    | some b => exact ⟨b, rfl⟩
  obtain ⟨b0, hb0⟩ := hat
  refine ⟨⟨fun r' => ?_, fun r' q' hq => ?_, fun r1 r2 p p' b t t' h1 h2 h3 h4 => ?_, fun r' p b t h1 h2 => ?_, hm.fl, hm.gl⟩, hs⟩
  · by_cases e : r' = r
    · subst e; rw [upd_self, put_self _ hb0]; simp
    · rw [upd_other σ _ e, put_other _ e]; exact hm.dom r'
  · by_cases e : r' = r
    · subst e
      rw [upd_self] at hq
      injection hq with hq
      subst hq
      exact ⟨fun _ => put_self _ hb0, fun p hp => by cases hp⟩
    · rw [upd_other σ _ e] at hq
      rw [put_other _ e]
      refine ⟨(hm.lv r' q' hq).1, fun p hp => ?_⟩
      obtain ⟨B1, h1, h2⟩ := (hm.lv r' q' hq).2 p hp
      exact ⟨B1, h1, h2.mono (fun _ h => h) (fun _ _ => rfl) hs (fun b t hl => rfl)⟩
  · have e1 : r1 ≠ r := fun e => by rw [e, upd_self] at h1; cases h1
    have e2 : r2 ≠ r := fun e => by rw [e, upd_self] at h2; cases h2
    rw [upd_other σ _ e1] at h1
    rw [upd_other σ _ e2] at h2
    exact hm.inj r1 r2 p p' b t t' h1 h2 h3 h4
  · have e1 : r' ≠ r := fun e => by rw [e, upd_self] at h1; cases h1
    rw [upd_other σ _ e1] at h1
    exact hm.nf r' p b t h1 h2
/-- A block that lies in nobody's hands becomes ours, under a new name. -/
theorem takeN_ok (hm : MemOk m σ F w) {r : Ref} {B : Blk} {pl : Pl} (hr : σ r = none) (hat : m'.at r = some (some B)) (hoth : ∀ r', r' ≠ r → m'.at r' = m.at r') (hB : BlkOk w F (upd σ r (some pl)) B pl)
    (hl : ∀ b t, pl.loc = some (b, t) → ¬ Owned σ b ∧ ¬ F b ∧ b < w.heap.size) : MemOk m' (upd σ r (some pl)) F w ∧ SLe σ (upd σ r (some pl)) := by
  have hs := SLe.upd_new (σ := σ) (r := r) (some pl) hr
  refine ⟨⟨fun r' => ?_, fun r' q hq => ?_, fun r1 r2 p p' b t t' h1 h2 h3 h4 => ?_, fun r' p b t h1 h2 => ?_, hm.fl, hm.gl⟩, hs⟩
  · by_cases e : r' = r
    · subst e; rw [upd_self, hat]; simp
    · rw [upd_other σ _ e, hoth _ e]; exact hm.dom r'
  · by_cases e : r' = r
    · subst e
      rw [upd_self] at hq
      injection hq with hq
      subst hq
      exact ⟨(fun h => by cases h), fun p hp => by injection hp with hp; subst hp; exact ⟨B, hat, hB⟩⟩
    · rw [upd_other σ _ e] at hq
      rw [hoth _ e]
      refine ⟨(hm.lv r' q hq).1, fun p hp => ?_⟩
      obtain ⟨B', h1, h2⟩ := (hm.lv r' q hq).2 p hp
      exact ⟨B', h1, h2.mono (fun _ h => h) (fun _ _ => rfl) hs (fun b t hl => rfl)⟩
  · by_cases e : r1 = r <;> by_cases e' : r2 = r
    · rw [e, e']
    · exfalso
      subst e
      rw [upd_self] at h1
      injection h1 with h1
      injection h1 with h1
      subst h1
      rw [upd_other σ _ e'] at h2
      exact (hl b t h3).1 ⟨r2, p', t', h2, h4⟩
    · exfalso
      subst e'
      rw [upd_self] at h2
      injection h2 with h2
      injection h2 with h2
      subst h2
      rw [upd_other σ _ e] at h1
      exact (hl b t' h4).1 ⟨r1, p, t, h1, h3⟩
    · rw [upd_other σ _ e] at h1
      rw [upd_other σ _ e'] at h2
      exact hm.inj r1 r2 p p' b t t' h1 h2 h3 h4
  · by_cases e : r' = r
    · subst e
      rw [upd_self] at h1
      injection h1 with h1
      injection h1 with h1
      subst h1
      exact (hl b t h2).2
    · rw [upd_other σ _ e] at h1
      exact hm.nf r' p b t h1 h2
/-- A block of ours takes another name. -/
theorem moveN_ok (hm : MemOk m σ F w) {r r1 : Ref} {B : Blk} {pl : Pl} (hr : σ r = some (some pl)) (hB0 : m.at r = some (some B)) (hn : σ r1 = none) (hat : m'.at r1 = some (some B)) (hoth : ∀ r', r' ≠ r1 → m'.at r' = (m.put r none).at r') :
    MemOk m' (upd (upd σ r none) r1 (some pl)) F w ∧ SLe σ (upd (upd σ r none) r1 (some pl)) ∧ ∀ b, Owned (upd (upd σ r none) r1 (some pl)) b → Owned σ b := by
  obtain ⟨q1, q2⟩ := forgetN_ok hm hr
  have hne : r1 ≠ r := fun e => by rw [e, hr] at hn; cases hn
  have hok : BlkOk w F σ B pl := by
    obtain ⟨B', hB', h⟩ := (hm.lv r _ hr).2 pl rfl
    rw [hB0] at hB'
    injection hB' with hB'
    injection hB' with hB'
    subst hB'
    exact h
  have hn' : upd σ r none r1 = none := by rw [upd_other σ _ hne]; exact hn
  have hs2 := SLe.upd_new (σ := upd σ r none) (r := r1) (some pl) hn'
  have hsl : SLe σ (upd (upd σ r none) r1 (some pl)) := fun r' q hq => by
    obtain ⟨q', e1, e2⟩ := q2 r' q hq
    obtain ⟨q'', e3, e4⟩ := hs2 r' q' e1
    exact ⟨q'', e3, e2.trans e4⟩
  obtain ⟨g1, _⟩ := takeN_ok (m' := m') q1 hn' hat hoth (hok.mono (fun _ h => h) (fun _ _ => rfl) hsl (fun _ _ _ => rfl)) (fun b t h => by
    refine ⟨fun ⟨r', p, t', e1, e2⟩ => ?_, (hm.nf r pl b t hr h).1, (hm.nf r pl b t hr h).2⟩
    have e3 : r' ≠ r := fun e => by rw [e, upd_self] at e1; cases e1
    rw [upd_other σ _ e3] at e1
    exact e3 (hm.inj r' r p pl b t' t e1 hr e2 h))
  refine ⟨g1, hsl, fun b ⟨r', p, t, e1, e2⟩ => ?_⟩
  by_cases e : r' = r1
  · subst e
    rw [upd_self] at e1
    injection e1 with e1
    injection e1 with e1
    subst e1
    exact ⟨r, pl, t, hr, e2⟩
  · rw [upd_other _ _ e] at e1
    have e3 : r' ≠ r := fun e => by rw [e, upd_self] at e1; cases e1
    rw [upd_other σ _ e3] at e1
    exact ⟨r', p, t, e1, e2⟩
theorem addArg_new (B : Blk) : (m.addArg B).at m.newArg = some (some B) := by
  simp [Mem.addArg, Mem.at, Mem.newArg, snoc_eq, lenL_eq]
theorem addArg_old {r : Ref} (B : Blk) (h : r ≠ m.newArg) : (m.addArg B).at r = m.at r := by
  cases r with
  | arg j =>
    have : j ≠ m.own.length := fun e => h (by simp [Mem.newArg, lenL_eq, e])
    simp only [Mem.addArg, Mem.at, snoc_eq]
    rcases Nat.lt_or_ge j m.own.length with h' | h'
    · rw [List.getElem?_append_left h']
    · rw [List.getElem?_eq_none (by simp; omega), List.getElem?_eq_none h']
  | _ => rfl
theorem newArg_none (hm : MemOk m σ F w) : σ m.newArg = none := (hm.dom _).2 (by simp [Mem.newArg, Mem.at, lenL_eq])
theorem put_new (r : Ref) (b : Option Blk) : (m.put r b).new = m.new := by
  cases r <;> simp [Mem.put, Mem.new, lenL_eq, putAt_eq]
theorem put_newArg (r : Ref) (b : Option Blk) : (m.put r b).newArg = m.newArg := by
  cases r <;> simp [Mem.put, Mem.newArg, lenL_eq, putAt_eq]
theorem stp_find {es : Array MapEntry} {clock i : Nat} {e : MapEntry} (h : Stp es clock) (he : es[i]? = some e) : es.findIdx? (fun x => (x.born : Int) == (e.born : Int)) = some i := by
  obtain ⟨hi, rfl⟩ := Array.getElem?_eq_some_iff.1 he
  rw [Array.findIdx?_eq_some_iff_getElem]
  refine ⟨hi, by simp, fun j hj => ?_⟩
  simp only [beq_iff_eq, Int.natCast_inj, Bool.not_eq_true]
  intro hb
  have hj' : j < es.size := by omega
  have h1 : (es.toList.map (·.born))[j]? = some es[j].born := by simp [hj']
  have h2 : (es.toList.map (·.born))[i]? = some es[i].born := by simp [hi]
  have a1 := List.getElem?_eq_some_iff.1 h1
  have a2 := List.getElem?_eq_some_iff.1 h2
  have : j = i := (List.getElem_inj h.2).1 (a1.2.trans (hb.trans a2.2.symm))
  omega
/-- An entry is laid hold of: a new one. -/
theorem op_entryNew (hT : TabOk P T) {t : TypeId} {x k : Operand} (hop : o.op = .mapEntry t x k) {sh : Ksh} {te : TI} (hmt : mapOf T t = some (sh, te)) (hz : ZFit te (.d .nils)) {r : Ref} (hx : ev env x = .mp r)
    {has : List Int → Bool} {val : List Int → AV} (hB : m.get r = some (.map sh has val)) {key : List Int} (hkey : keyOf sh (ev env k) = some key) (hn : has key = false) (e sz : Nat) (f : Nat → List AV)
    (hK : ∀ c : Nat, K (.tup [.osl m.new 0 0 0, .d (.int .i64 c)]) ((m.put r (some (.ent sh (fun x => decide (x = key) || has x) val key c))).add (.vec e sz 0 0 f))) : OpVC P o env m K :=
  ⟨fun c h => (by rw [hop] at h; cases h), fun a w F σ hev hm => by
    obtain ⟨kt, et, hu, hs, hte⟩ := mapOf_ok hT hmt
    have hv := ev_ok hev x
    rw [hx] at hv
    obtain ⟨hfit, hkv⟩ := keyOf_ok hkey (ev_ok hev k)
    obtain ⟨pl, b, hr, h0, hl, hxv, h1, b', hl', es, clock, ks, g1, g2, g3, g4, g5, gst⟩ := map_row hm hv (Mem.get_at hB)
    rw [hl] at hl'
    obtain ⟨rfl, _⟩ := Prod.mk.inj (Option.some.inj hl')
    have hks : KeysAre sh ks es := ⟨g2, fun i k e hi he => ⟨(g4 i k e hi he).1, (g4 i k e hi he).2.1⟩⟩
    rcases run_find hs hks hfit with ⟨e1, e2⟩ | ⟨i, e0, e1, e2, e3⟩
    · obtain ⟨z, hz1, hz2⟩ := ZFit.ok (w := w) (F := F) (σ := σ) hte hz w
      have hzv : z = .slice none 0 0 := by cases hz2 with | d hz2 => cases hz2; rfl
      subst hzv
      let w1 : World := { w with heap := w.heap.setIfInBounds b (.map (es.push { key := sh.key key, val := .slice none 0 0, born := clock }) (clock + 1)) }
      have hlt : b < w.heap.size := (Array.getElem?_eq_some_iff.1 g1).1
      have hF : ¬ F b := (hm.nf r pl b 1 hr hl).1
      have hs0 : SLe σ (upd σ r (some pl)) := SLe.upd_old hr (QLe.refl _)
      obtain ⟨s1, s2⟩ := MapKept.heap_set (o' := .map (es.push { key := sh.key key, val := .slice none 0 0, born := clock }) (clock + 1)) g1
      have hsz : w1.heap.size = w.heap.size := by simp [w1]
      have hkF : ∀ b', F b' → w1.heap[b']? = w.heap[b']? := fun b' hb' => s2 b' (fun e => hF (by rw [← e]; exact hb'))
      have hlast : (ks ++ [key])[es.size]? = some key := by rw [← g2]; simp
      have hB' : BlkOk w1 F (upd σ r (some pl)) (.ent sh (fun x => decide (x = key) || has x) val key clock) pl := by
        refine ⟨h0, b, hl, es.push { key := sh.key key, val := .slice none 0 0, born := clock }, clock + 1, ks ++ [key], s1, by simp [g2], nodup_snoc g3 e1, fun j k' e hj he => ?_, fun k' hk' hh => ?_, stp_push gst, es.size, { key := sh.key key, val := .slice none 0 0, born := clock }, by simp, hlast, rfl⟩
        · rw [List.getElem?_append] at hj
          rw [Array.getElem?_push] at he
          by_cases hjl : j < ks.length
          · rw [if_pos hjl] at hj
            rw [if_neg (by omega)] at he
            obtain ⟨q1, q2, q3, q4⟩ := g4 j k' e hj he
            exact ⟨q1, q2, by simp [q3], fun _ => q4.mono (fun _ h => h) hkF hs0⟩
          · rw [if_neg hjl] at hj
            have hj0 : j - ks.length = 0 := by
              rcases Nat.eq_zero_or_pos (j - ks.length) with h | h
              · exact h
              · rw [List.getElem?_eq_none (by simp; omega)] at hj; cases hj
            rw [hj0] at hj
            simp at hj
            subst hj
            rw [if_pos (by omega)] at he
            simp at he
            subst he
            exact ⟨hfit, rfl, by simp, fun h => absurd rfl h⟩
        · simp only [Bool.or_eq_true, decide_eq_true_eq] at hh
          rcases hh with rfl | hh
          · simp
          · exact List.mem_append_left _ (g5 k' hk' hh)
      obtain ⟨q1, q2⟩ := change_ok hm (w' := w1) hr (by rw [hsz]; exact Nat.le_refl _) (fun b' _ hne => s2 b' (fun e => hne 1 (by rw [e]; exact hl)))
        ⟨Nat.le_refl _, fun _ => rfl⟩ hB' (fun b' t' h => by rw [hsz]; exact ⟨by rw [hl] at h; cases h; exact hlt, .inl ⟨t', h⟩⟩)
      let pl0 : Pl := ⟨0, sz, none⟩
      obtain ⟨q3, q4⟩ := fresh_ok (w' := w1) (pl := pl0) (B := .vec e sz 0 0 f) q1 (Nat.le_refl _) (fun _ _ => rfl) ⟨rfl, rfl, fun _ => rfl, fun i hi => absurd hi (by omega), fun b t h => by simp [pl0] at h⟩ (fun b t h => by simp [pl0] at h)
      have hst1 : Step σ F w (upd σ r (some pl)) F w1 := ⟨rfl, rfl, rfl, Nat.le_refl _, by rw [hsz]; exact Nat.le_refl _, fun b' _ ho => s2 b' (fun e => ho ⟨r, pl, 1, hr, by rw [e]; exact hl⟩), fun _ h => h, fun _ h => .inl h, own_upd_old hr (fun b' t' h => .inl ⟨t', h⟩)⟩
      have hst2 : Step (upd σ r (some pl)) F w1 (upd (upd σ r (some pl)) (m.put r (some (.ent sh (fun x => decide (x = key) || has x) val key clock))).new (some pl0)) F w1 := ⟨rfl, rfl, rfl, Nat.le_refl _, Nat.le_refl _, fun _ _ _ => rfl, fun _ h => h, fun _ h => .inl h, own_upd_new fun b t h => by simp [pl0] at h⟩
      refine ⟨_, .tuple #[.slice none 0 0, .int .i64 clock], w1, _, F, _, _, ?_, .inl rfl, hK clock, ?_, q3, hst1.trans hst2, fun r' q hq => ?_⟩
      · simp [execOp, hop, hxv, hkv, Instr.mapEntry, run_underlying hu, MapKept.run_getObj_map g1, run_check hs hfit, e2, hz1, MapKept.run_setObj_map _ g1, goInt, w1]
      · refine .tup (us := [.slice none 0 0, .int .i64 clock]) rfl fun j A u hA hu => ?_
        match j with
        | 0 =>
          simp at hA hu
          subst hA; subst hu
          refine .osl (q := some pl0) (by rw [put_new]; exact upd_self _ _ _) fun p hp => ?_
          injection hp with hp
          subst hp
          exact ⟨Nat.le_refl _, fun _ => ⟨rfl, rfl, rfl⟩⟩
        | 1 => simp at hA hu; subst hA; subst hu; exact .d .int
        | j + 2 => simp at hA
      · obtain ⟨q', e1, e2⟩ := q2 r' q hq
        obtain ⟨q'', e3, e4⟩ := q4 r' q' e1
        exact ⟨q'', e3, e2.trans e4⟩
    · obtain ⟨_, _, hh, _⟩ := g4 i key e0 e2 e1
      rw [hn] at hh; cases hh⟩
/-- An entry is laid hold of: one that is there, whose value is a row of our own. -/
theorem op_entryOld (hT : TabOk P T) {t : TypeId} {x k : Operand} (hop : o.op = .mapEntry t x k) {sh : Ksh} {te : TI} (hmt : mapOf T t = some (sh, te)) {r : Ref} (hx : ev env x = .mp r)
    {has : List Int → Bool} {val : List Int → AV} (hB : m.get r = some (.map sh has val)) {key : List Int} (hkey : keyOf sh (ev env k) = some key) (hn : has key = true) {ra : Ref} {g n : Nat} (hval : val key = .osl ra g 0 n) {e sz : Nat} {f : Nat → List AV}
    (hra : m.at ra = some (some (.vec e sz g n f)))
    (hK : ∀ c : Nat, K (.tup [.osl m.new g 0 n, .d (.int .i64 c)]) (((m.put r (some (.ent sh (fun x => decide (x = key) || has x) val key c))).put ra none).add (.vec e sz g n f))) : OpVC P o env m K :=
  ⟨fun c h => (by rw [hop] at h; cases h), fun a w F σ hev hm => by
    obtain ⟨kt, et, hu, hs, hte⟩ := mapOf_ok hT hmt
    have hv := ev_ok hev x
    rw [hx] at hv
    obtain ⟨hfit, hkv⟩ := keyOf_ok hkey (ev_ok hev k)
    obtain ⟨pl, b, hr, h0, hl, hxv, h1, b', hl', es, clock, ks, g1, g2, g3, g4, g5, gst⟩ := map_row hm hv (Mem.get_at hB)
    rw [hl] at hl'
    obtain ⟨rfl, _⟩ := Prod.mk.inj (Option.some.inj hl')
    have hks : KeysAre sh ks es := ⟨g2, fun i k e hi he => ⟨(g4 i k e hi he).1, (g4 i k e hi he).2.1⟩⟩
    rcases run_find hs hks hfit with ⟨e1, e2⟩ | ⟨i, e0, e1, e2, e3⟩
    · exact absurd (g5 key hfit hn) e1
    · obtain ⟨p1, p2, p3, p4⟩ := g4 i key e0 e2 e1
      let es1 := es.modify i fun e => { e with key := sh.key key }
      let w1 : World := { w with heap := w.heap.setIfInBounds b (.map es1 clock) }
      have hlt : b < w.heap.size := (Array.getElem?_eq_some_iff.1 g1).1
      have hF : ¬ F b := (hm.nf r pl b 1 hr hl).1
      have hs0 : SLe σ (upd σ r (some pl)) := SLe.upd_old hr (QLe.refl _)
      obtain ⟨s1, s2⟩ := MapKept.heap_set (o' := .map es1 clock) g1
      have hsz : w1.heap.size = w.heap.size := by simp [w1]
      have hkF : ∀ b', F b' → w1.heap[b']? = w.heap[b']? := fun b' hb' => s2 b' (fun e => hF (by rw [← e]; exact hb'))
      have hes1 : es1 = es := by
        apply Array.ext_getElem?
        intro j
        simp only [es1, Array.getElem?_modify]
        by_cases hij : i = j
        · subst hij
          rw [if_pos rfl, e1, ← p2]
          rfl
        · rw [if_neg hij]
      have hB' : BlkOk w1 F (upd σ r (some pl)) (.ent sh (fun x => decide (x = key) || has x) val key e0.born) pl := by
        refine ⟨h0, b, hl, es, clock, ks, by rw [s1, hes1], g2, g3, fun j k' e hj he => ?_, fun k' hk' hh => ?_, gst, i, e0, e1, e2, rfl⟩
        · obtain ⟨q1, q2, q3, q4⟩ := g4 j k' e hj he
          exact ⟨q1, q2, by simp [q3], fun _ => q4.mono (fun _ h => h) hkF hs0⟩
        · simp only [Bool.or_eq_true, decide_eq_true_eq] at hh
          rcases hh with rfl | hh
          · exact List.mem_of_getElem? e2
          · exact g5 k' hk' hh
      obtain ⟨q1, q2⟩ := change_ok hm (w' := w1) hr (by rw [hsz]; exact Nat.le_refl _) (fun b' _ hne => s2 b' (fun e => hne 1 (by rw [e]; exact hl)))
        ⟨Nat.le_refl _, fun _ => rfl⟩ hB' (fun b' t' h => by rw [hsz]; exact ⟨by rw [hl] at h; cases h; exact hlt, .inl ⟨t', h⟩⟩)
      rw [hval] at p4
      have hrne : ra ≠ r := fun h => by
        rw [h, Mem.get_at hB] at hra
        cases hra
      obtain ⟨pa, hpa, hoka, _, hata⟩ := osl_row hm p4 hra
      have hpa1 : upd σ r (some pl) ra = some (some pa) := by rw [upd_other σ _ hrne]; exact hpa
      obtain ⟨q3, q4, q5⟩ := moveN_ok (r := ra) (r1 := m.new) (B := .vec e sz g n f) (m' := ((m.put r (some (.ent sh (fun x => decide (x = key) || has x) val key e0.born))).put ra none).add (.vec e sz g n f)) q1 hpa1 (by rw [put_other _ hrne]; exact hra)
        (by have := new_none q1; rwa [put_new] at this) (by have := add_new (m := (m.put r (some (.ent sh (fun x => decide (x = key) || has x) val key e0.born))).put ra none) (.vec e sz g n f); rwa [put_new, put_new] at this)
        (fun r' h => add_old _ (by rw [put_new, put_new]; exact h))
      have hst1 : Step σ F w (upd σ r (some pl)) F w1 := ⟨rfl, rfl, rfl, Nat.le_refl _, by rw [hsz]; exact Nat.le_refl _, fun b' _ ho => s2 b' (fun e => ho ⟨r, pl, 1, hr, by rw [e]; exact hl⟩), fun _ h => h, fun _ h => .inl h, own_upd_old hr (fun b' t' h => .inl ⟨t', h⟩)⟩
      have hst2 : Step (upd σ r (some pl)) F w1 (upd (upd (upd σ r (some pl)) ra none) m.new (some pa)) F w1 := ⟨rfl, rfl, rfl, Nat.le_refl _, Nat.le_refl _, fun _ _ _ => rfl, fun _ h => h, fun _ h => .inl h, fun b hb => .inl (q5 b hb)⟩
      refine ⟨_, .tuple #[e0.val, .int .i64 e0.born], w1, _, F, _, _, ?_, .inl rfl, hK e0.born, ?_, q3, hst1.trans hst2, fun r' q hq => ?_⟩
      · simp [execOp, hop, hxv, hkv, Instr.mapEntry, run_underlying hu, MapKept.run_getObj_map g1, run_check hs hfit, e3, e1, p2, run_stays hs, MapKept.run_setObj_map _ g1, goInt, w1, es1]
      · refine .tup (us := [e0.val, .int .i64 e0.born]) rfl fun j A u hA hu => ?_
        match j with
        | 0 =>
          simp at hA hu
          subst hA; subst hu
          refine .osl (q := some pa) (upd_self _ _ _) fun p hp => ?_
          injection hp with hp
          subst hp
          exact ⟨by assumption, hata⟩
        | 1 => simp at hA hu; subst hA; subst hu; exact .d .int
        | j + 2 => simp at hA
      · obtain ⟨q', e1, e2⟩ := q2 r' q hq
        obtain ⟨q'', e3, e4⟩ := q4 r' q' e1
        exact ⟨q'', e3, e2.trans e4⟩⟩
/-- A row of our own is stored in the entry that is held. -/
theorem op_entryStore {t : TypeId} {x s v : Operand} (hop : o.op = .entryStore t x s v) {r : Ref} (hx : ev env x = .mp r) {sh : Ksh} {has : List Int → Bool} {val : List Int → AV} {key : List Int} {c : Nat}
    (hB : m.get r = some (.ent sh has val key c)) (hs : ev env s = .d (.int .i64 c)) {rv : Ref} {g n : Nat} (hv : ev env v = .osl rv g 0 n) {e sz : Nat} {f : Nat → List AV} (hBv : m.get rv = some (.vec e sz g n f))
    (hK : K .junk (((m.put rv none).addArg (.vec e sz g n f)).put r (some (.map sh has fun k => bif decide (k = key) then .osl m.newArg g 0 n else val k)))) : OpVC P o env m K :=
  ⟨fun c h => (by rw [hop] at h; cases h), fun a w F σ hev hm => by
    have hxv := ev_ok hev x
    rw [hx] at hxv
    have hsv := ev_ok hev s
    rw [hs] at hsv
    have hsv := hsv.int
    have hvv := ev_ok hev v
    rw [hv] at hvv
    have hBa := Mem.get_at hB
    have hBva := Mem.get_at hBv
    have hrne : rv ≠ r := fun h => by rw [h, hBa] at hBva; cases hBva
    obtain ⟨pv, hpv, hokv, hgv, hatv⟩ := osl_row hm hvv hBva
    have hna := newArg_none hm
    have hnr : r ≠ m.newArg := fun h => by
      rw [h, (hm.dom _).1 hna] at hBa; cases hBa
    obtain ⟨q1, q2, q3⟩ := moveN_ok (r := rv) (r1 := m.newArg) (B := .vec e sz g n f) (m' := (m.put rv none).addArg (.vec e sz g n f)) hm hpv hBva hna
      (by have := addArg_new (m := m.put rv none) (.vec e sz g n f); rwa [put_newArg] at this) (fun r' h => addArg_old _ (by rw [put_newArg]; exact h))
    obtain ⟨σ1, hσ1⟩ : ∃ σ1, upd (upd σ rv none) m.newArg (some pv) = σ1 := ⟨_, rfl⟩
    have hnv : σ1 m.newArg = some (some pv) := by rw [← hσ1]; exact upd_self _ _ _
    rw [hσ1] at q1 q2 q3
    have hBa1 : ((m.put rv none).addArg (.vec e sz g n f)).at r = some (some (.ent sh has val key c)) := by
      rw [addArg_old _ (by rw [put_newArg]; exact hnr), put_other _ (fun h => hrne h.symm)]
      exact hBa
    have hxv1 := hxv.mono (w' := w) (F' := F) (σ' := σ1) (fun _ h => h) (fun _ _ => rfl) q2
    obtain ⟨pl, hr, hok, hpl⟩ : ∃ pl, σ1 r = some (some pl) ∧ BlkOk w F σ1 (.ent sh has val key c) pl ∧ (pl.g = 0 → ∃ b t, pl.loc = some (b, t) ∧ a.eval x = .map (some b)) := by
      generalize a.eval x = X at hxv1
      cases hxv1 with
      | @mp _ _ q hr h =>
        cases q with
        | none => have := (q1.lv r _ hr).1 rfl; rw [hBa1] at this; cases this
        | some pl =>
          obtain ⟨B', hB', hok⟩ := (q1.lv r _ hr).2 pl rfl
          rw [hBa1] at hB'
          injection hB' with hB'
          injection hB' with hB'
          subst hB'
          exact ⟨pl, hr, hok, h pl rfl⟩
    obtain ⟨h0, b, hl, es, clock, ks, g1, g2, g3, g4, g5, gst, i, e0, e1, e2, e3⟩ := hok
    obtain ⟨b', t', hl', hX⟩ := hpl h0
    rw [hl] at hl'
    obtain ⟨rfl, _⟩ := Prod.mk.inj (Option.some.inj hl')
    let es1 := es.modify i fun e => { e with val := a.eval v }
    let w1 : World := { w with heap := w.heap.setIfInBounds b (.map es1 clock) }
    have hlt : b < w.heap.size := (Array.getElem?_eq_some_iff.1 g1).1
    have hF : ¬ F b := (q1.nf r pl b 1 hr hl).1
    have hs0 : SLe σ1 (upd σ1 r (some pl)) := SLe.upd_old hr (QLe.refl _)
    obtain ⟨s1, s2⟩ := MapKept.heap_set (o' := .map es1 clock) g1
    have hsz : w1.heap.size = w.heap.size := by simp [w1]
    have hkF : ∀ b', F b' → w1.heap[b']? = w.heap[b']? := fun b' hb' => s2 b' (fun e => hF (by rw [← e]; exact hb'))
    have hB' : BlkOk w1 F (upd σ1 r (some pl)) (.map sh has fun k => bif decide (k = key) then .osl m.newArg g 0 n else val k) pl := by
      refine ⟨h0, b, hl, es1, clock, ks, s1, by simp [es1, g2], g3, fun j k' e hj he => ?_, g5, stp_modify gst fun _ => rfl⟩
      simp only [es1, Array.getElem?_modify] at he
      by_cases hij : i = j
      · subst hij
        rw [if_pos rfl, e1] at he
        simp at he
        subst he
        rw [e2] at hj
        injection hj with hj
        subst hj
        obtain ⟨p1, p2, p3, p4⟩ := g4 i key e0 e2 e1
        refine ⟨p1, p2, p3, ?_⟩
        simp only [decide_true, cond_true]
        refine .osl (q := some pv) (by rw [upd_other _ _ (fun h => hnr h.symm)]; exact hnv) fun p hp => ?_
        injection hp with hp
        subst hp
        exact ⟨hgv, hatv⟩
      · rw [if_neg hij] at he
        obtain ⟨p1, p2, p3, p4⟩ := g4 j k' e hj he
        have hne : k' ≠ key := fun e => by
          subst e
          have hi := (List.getElem?_eq_some_iff.1 e2)
          have hj2 := (List.getElem?_eq_some_iff.1 hj)
          exact hij ((List.getElem_inj g3).1 (hi.2.trans hj2.2.symm))
        refine ⟨p1, p2, p3, ?_⟩
        simp only [decide_eq_false hne, cond_false]
        exact (p4 hne).mono (fun _ h => h) hkF hs0
    obtain ⟨q4, q5⟩ := change_ok q1 (w' := w1) hr (by rw [hsz]; exact Nat.le_refl _) (fun b' _ hne => s2 b' (fun e => hne 1 (by rw [e]; exact hl)))
      ⟨Nat.le_refl _, fun _ => rfl⟩ hB' (fun b' t' h => by rw [hsz]; exact ⟨by rw [hl] at h; cases h; exact hlt, .inl ⟨t', h⟩⟩)
    have hst1 : Step σ F w σ1 F w := ⟨rfl, rfl, rfl, Nat.le_refl _, Nat.le_refl _, fun _ _ _ => rfl, fun _ h => h, fun _ h => .inl h, fun b hb => .inl (q3 b hb)⟩
    have hst2 : Step σ1 F w (upd σ1 r (some pl)) F w1 := ⟨rfl, rfl, rfl, Nat.le_refl _, by rw [hsz]; exact Nat.le_refl _, fun b' _ ho => s2 b' (fun e => ho ⟨r, pl, 1, hr, by rw [e]; exact hl⟩), fun _ h => h, fun _ h => .inl h, own_upd_old hr (fun b' t' h => .inl ⟨t', h⟩)⟩
    have hfind := stp_find gst e1
    rw [e3] at hfind
    refine ⟨.skip, undef, w1, _, F, .junk, _, ?_, .inr ⟨rfl, rfl⟩, hK, .junk, q4, hst1.trans hst2, fun r' q hq => ?_⟩
    · simp [execOp, hop, hX, hsv, Instr.entryStore, MapKept.run_getObj_map g1, asInt, asIntOf, hfind, MapKept.run_setObj_map _ g1, w1, es1]
    · obtain ⟨q', e1, e2⟩ := q2 r' q hq
      obtain ⟨q'', e3, e4⟩ := q5 r' q' e1
      exact ⟨q'', e3, e2.trans e4⟩⟩
/-- What is handed back is ours, with all that it holds. -/
def FinC (T : Tab) : List ResultVar → List D → Env → Mem → Prop
  | [], [], _, _ => True
  | .tmp t :: rs, x :: xs, env, m => BecP m (get env t) x ∧ FinC T rs xs env m
  | .cell t ty :: rs, x :: xs, env, m => (match evLoad T m ty (get env t) with
    | some (A, l) => obs l (BecP m A x)
    | none => False) ∧ FinC T rs xs env m
  | _, _, _, _ => False
theorem finC_ok (hT : TabOk P T) (hm : MemOk m σ F w) {env : Env} {tmps : Array Value} (he : EnvOk env w F σ tmps) : ∀ (rs : List ResultVar) (res : List D), FinC T rs res env m →
    ∃ vs : List Value, (rs.mapM (resOne tmps)).run P w = .ok vs w ∧ vs.length = res.length ∧ ∀ (j : Nat) x u, res[j]? = some x → vs[j]? = some u → Rd w (Given F σ) x u
  | [], [], _ => ⟨[], by simp, rfl, fun j x u h => by simp at h⟩
  | .tmp t :: rs, x :: xs, h => by
    obtain ⟨h1, h2⟩ := h
    obtain ⟨vs, g1, g2, g3⟩ := finC_ok hT hm he rs xs h2
    refine ⟨tmps.getD t undef :: vs, by simp [List.mapM_cons, resOne, g1], by simp [g2], fun j y u hy hu => ?_⟩
    cases j with
    | zero => simp at hy hu; subst hy; subst hu; simpa using (he t |> fun hv => BecP.ok hm h1 hv)
    | succ j => exact g3 j y u (by simpa using hy) (by simpa using hu)
  | .cell t ty :: rs, x :: xs, h => by
    obtain ⟨h1, h2⟩ := h
    obtain ⟨vs, g1, g2, g3⟩ := finC_ok hT hm he rs xs h2
    split at h1 <;> try exact h1.elim
    rename_i A l hl
    obtain ⟨hl2, hb⟩ := obs_ok h1
    obtain ⟨u0, hu0, hrun⟩ := evLoad_ok hT hm (he t) hl hl2
    have hr := hrun w (Agree.refl F σ w)
    have hptr : ∃ a, tmps.getD t undef = .pointer (some a) := by
      unfold Instr.loadAt Instr.sureAddr at hr
      generalize tmps.getD t undef = X at hr
      split at hr
      · exact ⟨_, rfl⟩
      · simp at hr
    obtain ⟨ad, had⟩ := hptr
    rw [had] at hr
    have hr' : (loadVar ty ad).run P w = .ok u0 w := by simpa [Instr.loadAt, Instr.sureAddr] using hr
    refine ⟨u0 :: vs, by simp [List.mapM_cons, resOne, g1, had, asAddr, hr'], by simp [g2], fun j y u hy hu => ?_⟩
    cases j with
    | zero => simp at hy hu; subst hy; subst hu; exact BecP.ok hm hb hu0
    | succ j => exact g3 j y u (by simpa using hy) (by simpa using hu)
  | [], _ :: _, h => by cases h
  | .tmp _ :: _, [], h => by cases h
  | .cell _ _ :: _, [], h => by cases h
def finC (T : Tab) (rs : List ResultVar) (res : List D) : Post := fun e env m => match e with
  | .ret => FinC T rs res env m
  | .normal => FinC T rs res env m
  | _ => False
theorem pure_ruleC (hT : TabOk P T) {f : FuncId} {fn : Func} {c : Code} {N : Nat} {rs : List ResultVar} {args res : List D} (hf : P.funcs[f]? = some fn) (hb : fn.body = some c) (hN : fn.ntmps = N) (hrs : fn.results = rs.toArray)
    (hname : (fn.name == "runtime.NumGoroutine") = false) (hargs : Nat.ble args.length N = true) (h : Ev (vc P T N c (envOf 0 args) ⟨[], []⟩ (finC T rs res))) : Pure P f args res :=
  pure_rule0 hT hf hb hN hrs hname hargs (Q := finC T rs res) (fun e env m hq => by
    cases e with
    | normal => exact ⟨.inl rfl, fun w F σ tmps hm he => finC_ok hT hm he rs res hq⟩
    | ret => exact ⟨.inr rfl, fun w F σ tmps hm he => finC_ok hT hm he rs res hq⟩
    | _ => exact hq.elim) h
/-- Rows that nothing of the rest looks at stand as they are. -/
theorem LeL_refl {nl na : Nat} : ∀ (l : List (Option Blk)), (∀ B, some B ∈ l → BlkLe nl na B B) → LeL nl na l l
  | [], _ => True.intro
  | b :: r, h => ⟨by
      cases b with
      | none => exact True.intro
      | some B => exact h B (by simp), LeL_refl r fun B hB => h B (by simp [hB])⟩
end
end Go.Ab
/-
  The engine, part AG: statements that leave their order open, with operations that turn memory of which the others read nothing.
-/
namespace Go.Ab
set_option linter.unusedSimpArgs false
set_option linter.unusedVariables false
section
variable {P : Program} {T : Tab} {m : Mem} {σ : Pls}
variable {ro : Option Nat}
/-- What the slots read as, in the midst of a statement that leaves its order open. -/
def Slots (ops : Array Oper) (n : Nat) (env : Env) (σ : Pls) (As : Nat → AV) (listed : Array Bool) (F : Nat → Prop) (w : World) (tmps : Array Value) : Prop :=
  ∀ t, (∀ (j : Nat) o, j < n → ops[j]? = some o → o.dst = some t → listed.getD j true = true → Vc w F σ (As j) (tmps.getD t undef)) ∧
    ((∀ (j : Nat) o, ops[j]? = some o → o.dst = some t → listed.getD j true = false) → Vc w F σ (get env t) (tmps.getD t undef))
theorem drawn_tail {id N : Nat} {ops : Array Oper} {F : Nat → Prop} {w : World} {a : Act} {env : Env} {K : Env → Prop} {Q : Exit → Act → World → Prop}
    (h1 : P.follows .mixedOrders = true) (h2 : okR ops.toList = true) (hT : TabOk P T) (hm : MemOk m σ F w) (hd : dstsIn N ops.toList = true) {pre suf : List Oper} (hsp : ops.toList = pre ++ suf) (h : vcR P T ops.toList m pre env K) (hN : a.tmps.size = N) (he : EnvOk env w F σ a.tmps)
    (R : Array Bool → Act → World → (Nat → Prop) → Prop)
    (hR0 : R (Array.replicate ops.size false) a { w with drawn := w.drawn + 1 } F)
    (hRq : ∀ listed a' w' F' F2 w2 v (i : Nat) o, R listed a' w' F' → Grew F' w' F2 w2 → i < pre.length → ops[i]? = some o → listed.size = ops.size → a'.tmps.size = N → R (listed.setIfInBounds i true) (a'.put o.dst v) w2 F2)
    (hRe : ∀ As listed a' w' F' (i : Nat) o, (∀ (j : Nat) o d, ops[j]? = some o → o.dst = some d → j < pre.length → get (envsOf env ops.toList As pre.length) d = As j) → K (envsOf env ops.toList As pre.length) → pre.length ≤ i → ops[i]? = some o → listed.getD i true = false → (∀ e ∈ o.after, Region.binds .any e = true → listed.getD e.on true = true) → listed.size = ops.size → a'.tmps.size = N → a'.defers = a.defers → MemOk m σ F' w' → Slots ops pre.length env σ As listed F' w' a'.tmps → R listed a' w' F' →
      ∀ next : Act → World → Prop, (∀ v w2 F2, MemOk m σ F2 w2 → (∀ A u, Vc w' F' σ A u → Vc w2 F2 σ A u) → R (listed.setIfInBounds i true) (a'.put o.dst v) w2 F2 → next (a'.put o.dst v) w2) → wpOpIn (Fen ro) 0 P ops Q i next a' w')
    (hQ : ∀ As a' w' F', K (envsOf env ops.toList As pre.length) → (∀ (j : Nat) o d, ops[j]? = some o → o.dst = some d → j < pre.length → get (envsOf env ops.toList As pre.length) d = As j) → a'.tmps.size = N → a'.defers = a.defers → MemOk m σ F' w' →
      (∀ t, (∀ (j : Nat) o, pre.length ≤ j → ops[j]? = some o → o.dst ≠ some t) → Vc w' F' σ (get (envsOf env ops.toList As pre.length) t) (a'.tmps.getD t undef)) → (∀ listed, (∀ i, i < ops.size → listed.getD i true = true) → R listed a' w' F' → Q .normal a' w')) : (Code.region id ops true).wpIn (Fen ro) 0 P Q a w := by
  obtain ⟨As, hK, hD0⟩ := vcR_ext (σ := σ) hT pre env h
  have hpl : ∀ (k : Nat) o, k < pre.length → ops[k]? = some o → pre[k]? = some o := fun k o hk ho => by
    rw [← Array.getElem?_toList, hsp, List.getElem?_append_left hk] at ho
    exact ho
  have hEp : ∀ k, k ≤ pre.length → envsOf env ops.toList As k = envsOf env pre As k := fun k hk => by
    rw [hsp]
    exact envsOf_pre env pre suf As k hk
  have hlen : pre.length ≤ ops.toList.length := by rw [hsp]; simp
  have hD : ∀ (k : Nat) o, k < pre.length → ops[k]? = some o → DoesG P m σ ops.toList o (envsOf env ops.toList As k) (As k) := fun k o hk ho => by
    rw [hEp k (by omega)]
    exact hD0 k o (hpl k o hk ho)
  have hO : ∀ (i : Nat) o, ops[i]? = some o → OrdAt ops.toList i o := fun i o ho => by
    have := okFrom_at h2 i o (by rw [Array.getElem?_toList]; exact ho)
    rwa [Nat.zero_add] at this
  have hdst : ∀ (i : Nat) o d, ops[i]? = some o → o.dst = some d → d < N := by
    have : ∀ (l : List Oper), dstsIn N l = true → ∀ (i : Nat) o d, l[i]? = some o → o.dst = some d → d < N := by
      intro l
      induction l with
      | nil => intro _ i o d ho; simp at ho
      | cons x r ih =>
        intro hl i o d ho hdo
        simp only [dstsIn, Bool.and_eq_true] at hl
        cases i with
        | zero =>
          simp at ho
          subst ho
          have := hl.1
          rw [hdo] at this
          exact Nat.le_of_ble_eq_true this
        | succ i => exact ih hl.2 i o d (by simpa using ho) hdo
    exact fun i o d ho hdo => this ops.toList hd i o d (by rw [Array.getElem?_toList]; exact ho) hdo
  rw [← hEp pre.length (Nat.le_refl _)] at hK
  have hsize : ops.toList.length = ops.size := Array.length_toList
  have hEd : ∀ (i : Nat) o d, ops[i]? = some o → o.dst = some d → ∀ k, i < k → k ≤ ops.toList.length → get (envsOf env ops.toList As k) d = As i := by
    intro i o d ho hdo k hk hkn
    have hol : ops.toList[i]? = some o := by rw [Array.getElem?_toList]; exact ho
    rw [envs_stable (i := i + 1) k (by omega) (fun j o' h3 h4 ho' hd' => by
        have := (hO i o ho).once d hdo j o' ho' hd'
        omega)]
    rw [envsOf, hol]
    exact get_step_self hdo
  have hE0 : ∀ t k, k ≤ ops.toList.length → (∀ (j : Nat) o, ops[j]? = some o → o.dst = some t → k ≤ j) → get (envsOf env ops.toList As k) t = get env t := fun t k hk hno =>
    envs_stable (i := 0) k (Nat.zero_le _) (fun j o _ hj ho hdo => by
      rw [Array.getElem?_toList] at ho
      have := hno j o ho hdo
      omega)
  have hEd' : ∀ (j : Nat) o d, ops[j]? = some o → o.dst = some d → j < pre.length → get (envsOf env ops.toList As pre.length) d = As j := fun j o d ho hdo hj => hEd j o d ho hdo _ hj hlen
  let Inv : Array Bool → Act → World → Prop := fun listed a' w' => a'.tmps.size = N ∧ a'.defers = a.defers ∧ (∀ (j : Nat) o, ops[j]? = some o → listed.getD j true = true → ∀ e ∈ o.after, Region.binds .any e = true → listed.getD e.on true = true) ∧
    ∃ F', MemOk m σ F' w' ∧ Slots ops pre.length env σ As listed F' w' a'.tmps ∧ R listed a' w' F'
  have done : ∀ (fuel : Nat) (listed : Array Bool) (a' : Act) (w' : World), listed.size = ops.size → (∀ i, i < ops.size → listed.getD i true = true) → Q .normal a' w' → wpAnyIn (Fen ro) 0 P .any ops Q fuel listed a' w' := by
    intro fuel listed a' w' hls hall hq
    have hnil : Region.ready .any ops listed = [] := List.eq_nil_iff_forall_not_mem.2 fun i hi => by
      obtain ⟨g1, o, ho, _⟩ := mem_ready.1 hi
      rw [hall i (Array.getElem?_eq_some_iff.1 ho).1] at g1
      cases g1
    cases fuel with
    | zero => exact ⟨hnil, hq⟩
    | succ fuel => exact ⟨fun _ => hq, fun i hi => by rw [hnil] at hi; cases hi⟩
  have fin : ∀ (listed : Array Bool) (a' : Act) (w' : World), (∀ i, i < ops.size → listed.getD i true = true) → Inv listed a' w' → Q .normal a' w' := by
    rintro listed a' w' hall ⟨i1, i2, ic, F', i3, i4, i5⟩
    refine hQ As a' w' F' hK hEd' i1 i2 i3 (fun t ht => ?_) listed hall i5
    by_cases hex : ∃ (j : Nat) (o : Oper), j < pre.length ∧ ops[j]? = some o ∧ o.dst = some t
    · obtain ⟨j, o, hj, ho, hdo⟩ := hex
      rw [hEd j o t ho hdo _ hj hlen]
      exact (i4 t).1 j o hj ho hdo (hall j (by omega))
    · rw [hE0 t _ hlen (fun j o ho hdo => by
        rcases Nat.lt_or_ge j pre.length with h | h
        · exact absurd ⟨j, o, h, ho, hdo⟩ hex
        · exact h)]
      exact (i4 t).2 fun j o ho hdo => by
        rcases Nat.lt_or_ge j pre.length with h | h
        · exact absurd ⟨j, o, h, ho, hdo⟩ hex
        · exact absurd hdo (ht j o h ho)
  have main : ∀ (fuel : Nat) (listed : Array Bool) (a' : Act) (w' : World), listed.size = ops.size → unl listed.toList ≤ fuel → Inv listed a' w' → wpAnyIn (Fen ro) 0 P .any ops Q fuel listed a' w' := by
    intro fuel
    induction fuel with
    | zero =>
      intro listed a' w' hls hun hI
      have hall : ∀ i, i < ops.size → listed.getD i true = true := fun i hi => by
        rw [getD_list]
        cases hb : listed.toList[i]? with
        | none => rfl
        | some b => exact unl_zero (by omega) i b hb
      exact done 0 listed a' w' hls hall (fin listed a' w' hall hI)
    | succ fuel ih =>
      intro listed a' w' hls hun hI
      refine ⟨fun hnil => ?_, fun i hi => ?_⟩
      · have hall : ∀ i, i < ops.size → listed.getD i true = true := by
          intro i
          induction i using Nat.strongRecOn with
          | _ i ihi =>
            intro hi
            cases hb : listed.getD i true with
            | true => rfl
            | false =>
              exfalso
              have ho : ops[i]? = some ops[i] := Array.getElem?_eq_getElem hi
              have : i ∈ Region.ready .any ops listed := mem_ready.2 ⟨hb, _, ho, fun e he hbe => by
                have hlt := (hO i _ ho).back e he hbe
                have := ihi e.on hlt (by omega)
                rw [getD_list] at this ⊢
                have hin : e.on < listed.toList.length := by rw [Array.length_toList, hls]; omega
                rw [List.getElem?_eq_getElem hin] at this ⊢
                exact this⟩
              rw [hnil] at this
              cases this
        exact fin listed a' w' hall hI
      · obtain ⟨g1, o, ho, g2⟩ := mem_ready.1 hi
        have hin : i < ops.size := (Array.getElem?_eq_some_iff.1 ho).1
        have hoi := hO i o ho
        obtain ⟨i1, i2, ic, F', hmw, i4, i5⟩ := hI
        have toT : ∀ j, j < ops.size → listed.getD j false = true → listed.getD j true = true := fun j hj h => by
          rw [getD_list] at h ⊢
          have hin2 : j < listed.toList.length := by rw [Array.length_toList, hls]; omega
          rw [List.getElem?_eq_getElem hin2] at h ⊢
          exact h
        have hlist : listed.toList[i]? = some false := by
          rw [getD_list] at g1
          cases hb : listed.toList[i]? with
          | none => rw [hb] at g1; cases g1
          | some b => rw [hb] at g1; simp at g1; rw [g1]
        have hset : ∀ j, j ≠ i → (listed.setIfInBounds i true).getD j true = listed.getD j true := fun j hne => by
          rw [getD_list, Array.toList_setIfInBounds, List.getElem?_set_ne (fun e => hne e.symm), ← getD_list]
        have hsetm : ∀ j, listed.getD j true = true → (listed.setIfInBounds i true).getD j true = true := fun j h => by
          by_cases e : j = i
          · subst e; rw [h] at g1; cases g1
          · rw [hset j e]; exact h
        have hseti : (listed.setIfInBounds i true).getD i true = true := by
          rw [getD_list, Array.toList_setIfInBounds, List.getElem?_set_self (by rw [Array.length_toList, hls]; exact hin)]
          rfl
        have hclosed : ∀ (j : Nat) o, ops[j]? = some o → (listed.setIfInBounds i true).getD j true = true → ∀ e ∈ o.after, Region.binds .any e = true → (listed.setIfInBounds i true).getD e.on true = true := fun j o' ho' hj e he hb => by
          by_cases hji : j = i
          · subst hji
            rw [ho] at ho'
            cases ho'
            have hlt := hoi.back e he hb
            exact hsetm _ (toT _ (by omega) (g2 e he hb))
          · rw [hset j hji] at hj
            exact hsetm _ (ic j o' ho' hj e he hb)
        have hun' : unl (listed.setIfInBounds i true).toList ≤ fuel := by
          have := unl_set hlist
          rw [Array.toList_setIfInBounds]
          omega
        have putv : ∀ (v : Value) t, o.dst ≠ some t → (a'.put o.dst v).tmps.getD t undef = a'.tmps.getD t undef := fun v t hdt => by
          cases hdo : o.dst with
          | none => rfl
          | some d =>
            simp only [Act.put, Array.getD_eq_getD_getElem?]
            rw [Array.getElem?_setIfInBounds_ne (fun e => hdt (by rw [hdo, e]))]
        have puts : ∀ (v : Value) t, o.dst = some t → (a'.put o.dst v).tmps.getD t undef = v := fun v t hdt => by
          have hdN := hdst i o t ho hdt
          rw [hdt]
          simp only [Act.put, Array.getD_eq_getD_getElem?]
          rw [Array.getElem?_setIfInBounds_self_of_lt (by rw [i1]; exact hdN)]
          rfl
        have slots2 : ∀ (v : Value) (w2 : World) (F2 : Nat → Prop), (∀ A u, Vc w' F' σ A u → Vc w2 F2 σ A u) → (i < pre.length → Vc w2 F2 σ (As i) v) → Slots ops pre.length env σ As (listed.setIfInBounds i true) F2 w2 (a'.put o.dst v).tmps := fun v w2 F2 mono hv t => by
          by_cases hdt : o.dst = some t
          · rw [puts v t hdt]
            refine ⟨fun j o' hjp ho' hd' _ => ?_, fun hno => ?_⟩
            · have := hoi.once t hdt j o' (by rw [Array.getElem?_toList]; exact ho') hd'
              subst this
              exact hv hjp
            · have := hno i o ho hdt
              rw [hseti] at this
              cases this
          · rw [putv v t hdt]
            have hne : ∀ (j : Nat) o', ops[j]? = some o' → o'.dst = some t → j ≠ i := fun j o' ho' hd' e => by
              subst e
              rw [ho] at ho'
              cases ho'
              exact hdt hd'
            refine ⟨fun j o' hjp ho' hd' hj => ?_, fun hno => ?_⟩
            · rw [hset j (hne j o' ho' hd')] at hj
              exact mono _ _ ((i4 t).1 j o' hjp ho' hd' hj)
            · exact mono _ _ ((i4 t).2 fun j o' ho' hd' => by
                have := hno j o' ho' hd'
                rwa [hset j (hne j o' ho' hd')] at this)
        rcases Nat.lt_or_ge i pre.length with hiP | hiP
        rotate_left
        · refine hRe As listed a' w' F' i o hEd' hK hiP ho g1 (fun e he hb => toT _ (by have := hoi.back e he hb; omega) (g2 e he hb)) hls i1 i2 hmw i4 i5 _ fun v w2 F2 k1 k2 k3 => ?_
          exact ih _ _ _ (by simp [hls]) hun' ⟨by rw [put_size]; exact i1, by rw [put_defers]; exact i2, hclosed, F2, k1, slots2 v w2 F2 k2 (fun h => by omega), k3⟩
        have hslots : ∀ t ∈ slots ops.toList o, Vc w' F' σ (get (envsOf env ops.toList As i) t) (a'.tmps.getD t undef) := fun t ht => by
          by_cases hex : ∃ (j : Nat) (o' : Oper), ops[j]? = some o' ∧ o'.dst = some t
          · obtain ⟨j, o', ho', hdo'⟩ := hex
            have hj : j < ops.size := (Array.getElem?_eq_some_iff.1 ho').1
            have honce : ∀ (j2 : Nat) o2, ops[j2]? = some o2 → o2.dst = some t → j2 = j := fun j2 o2 h3 h4 => (hO j o' ho').once t hdo' j2 o2 (by rw [Array.getElem?_toList]; exact h3) h4
            rcases hoi.defs t ht j o' (by rw [Array.getElem?_toList]; exact ho') hdo' with ⟨hji, e, hee, heon, heb⟩ | ⟨hij, hcase⟩
            · rw [hEd j o' t ho' hdo' i hji (by omega)]
              refine (i4 t).1 j o' (by omega) ho' hdo' ?_
              have := g2 e hee heb
              rw [heon] at this
              exact toT j hj this
            · rw [hE0 t i (by omega) (fun j2 o2 h3 h4 => by rw [honce j2 o2 h3 h4]; exact hij)]
              refine (i4 t).2 fun j2 o2 h3 h4 => ?_
              have hj2 := honce j2 o2 h3 h4
              subst hj2
              rcases hcase with rfl | ⟨e, hee, heon, heb⟩
              · exact g1
              · cases hb : listed.getD j2 true with
                | false => rfl
                | true =>
                  have := ic j2 o' ho' hb e hee heb
                  rw [heon, g1] at this
                  cases this
          · rw [hE0 t i (by omega) (fun j2 o2 h3 h4 => absurd ⟨j2, o2, h3, h4⟩ hex)]
            exact (i4 t).2 fun j2 o2 h3 h4 => absurd ⟨j2, o2, h3, h4⟩ hex
        have hdoes := hD i o hiP ho F' w' a' hmw hslots
        have hy : ops.toList.toArray = ops := Array.toArray_toList
        rw [hy] at hdoes
        have next : ∀ (v : Value) (w2 : World) (F2 : Nat → Prop), Grew F' w' F2 w2 → Vc w2 F2 σ (As i) v → wpAnyIn (Fen ro) 0 P .any ops Q fuel (listed.setIfInBounds i true) (a'.put o.dst v) w2 := by
          intro v w2 F2 hg hv
          exact ih _ _ _ (by simp [hls]) hun' ⟨by rw [put_size]; exact i1, by rw [put_defers]; exact i2, hclosed, F2, hg.mem hmw, slots2 v w2 F2 (fun A u h => h.mono hg.fro (fun b hb => hg.keep b (hmw.fl b hb)) (SLe.refl σ)) (fun _ => hv), hRq listed a' w' F' F2 w2 v i o i5 hg hiP ho hls i1⟩
        unfold wpOpIn
        simp only [ho]
        cases hw : Region.wanted o (yielded ops a'.tmps) with
        | false =>
          simp only [Bool.false_eq_true, if_false]
          exact ⟨fun _ _ => trivial, next _ _ _ (Grew.refl hmw.fl) (hdoes.2 hw _ _)⟩
        | true =>
          simp only [if_true]
          have h3 := hdoes.1 hw
          have hdef : ∀ c, o.op ≠ .defer c := fun c hc => by
            simp only [execOp, hc, Sem.run_bind] at h3
            cases hr : (resolve a'.eval c o.type).run P w' <;> simp [hr, Result.andThen, YieldR] at h3
          refine wpIn_at hdef ?_
          generalize (execOp a'.eval o).run P w' = r at h3
          cases r with
          | ok x w2 =>
            cases x <;> simp only [YieldR] at h3 <;> simp only [Oper.uponIn]
            case value u =>
              obtain ⟨F2, k1, k2⟩ := h3
              exact next u w2 F2 k1 k2
            case enter f args =>
              obtain ⟨e1, hc⟩ := h3
              rw [e1]
              exact ⟨Fen_depth, callsFen.2 (hc.mono fun e w3 ⟨u, F3, he, k1, k2⟩ => by subst he; exact next u w3 F3 k1 k2)⟩
          | halt x w2 => simp only [YieldR] at h3
  have hrep : ∀ j, j < ops.size → (Array.replicate ops.size false).getD j true = false := fun j hj => by
    rw [getD_list, Array.toList_replicate, List.getElem?_replicate, if_pos hj]
    rfl
  refine wpIn_region_any h1 (main ops.size _ a _ (by simp) ?_ ⟨hN, rfl, fun j o ho hj => ?_, F, (Grew.drew hm.fl).mem hm, fun t => ⟨fun j o _ ho _ hj => ?_, fun _ => ?_⟩, hR0⟩)
  · have : ∀ k, unl (List.replicate k false) = k := fun k => by
      induction k with
      | zero => rfl
      | succ k ih => rw [List.replicate_succ, unl, ih]; simp; omega
    rw [Array.toList_replicate, this]
    exact Nat.le_refl _
  · rw [hrep j (Array.getElem?_eq_some_iff.1 ho).1] at hj
    cases hj
  · rw [hrep j (Array.getElem?_eq_some_iff.1 ho).1] at hj
    cases hj
  · exact Vc.mono (w := w) (w' := { w with drawn := w.drawn + 1 }) (fun _ h => h) (fun _ _ => rfl) (SLe.refl σ) (he t)
end
end Go.Ab
