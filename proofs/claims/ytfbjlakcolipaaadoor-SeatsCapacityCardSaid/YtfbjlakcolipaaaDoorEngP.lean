/-
  The engine, part P: what is ours lent to a call that only computes, or given away for good; calls that hand back a row of their own.
-/
import Derived.Test.YtfbjlakcolipaaaDoorEngO
namespace Go.Ab
set_option linter.unusedSimpArgs false
set_option linter.unusedVariables false

/-- What is ours, read as a datum. -/
inductive BecP (m : Mem) : AV → D → Prop where
  | d {x} : BecP m (.d x) x
  | eq {y x} (h : DEq y x) : BecP m (.d y) x
  | ptr {r e off} {cs : List AV} {xs : List D} (h : m.get r = some (.box e cs)) (hl : cs.length = xs.length) (hc : ∀ (j : Nat) A x, cs[j]? = some A → xs[j]? = some x → BecP m A x) : BecP m (.ptr r 0 0 off) (.pt xs off)
  | osl {r e sz g off n k} {f : Nat → List AV} {f' : Nat → List D} (h : m.get r = some (.vec e sz g k f)) (hn : off + n ≤ k) (hl : ∀ i, i < n → (f (off + i)).length = (f' i).length)
      (hc : ∀ (i j : Nat) A x, i < n → (f (off + i))[j]? = some A → (f' i)[j]? = some x → BecP m A x) : BecP m (.osl r g off n) (.sl sz n f')
  | fn {f} {xs ys : List AV} {xs' ys' : List D} (h1 : xs.length = xs'.length) (h2 : ys.length = ys'.length) (h3 : ∀ (j : Nat) A x, xs[j]? = some A → xs'[j]? = some x → BecP m A x) (h4 : ∀ (j : Nat) A x, ys[j]? = some A → ys'[j]? = some x → BecP m A x) :
      BecP m (.fn f xs ys) (.fn f xs' ys')
  | agg {cs : List AV} {xs : List D} (hl : cs.length = xs.length) (hc : ∀ (j : Nat) A x, cs[j]? = some A → xs[j]? = some x → BecP m A x) : BecP m (.agg cs) (.agg xs)
  | ifc {t A x} (h : BecP m A x) : BecP m (.ifc t A) (.ifc t x)
  | mp {r sh has val} {val' : List Int → D} (h : m.get r = some (.map sh has val)) (hc : ∀ k, has k = true → BecP m (val k) (val' k)) : BecP m (.mp r) (.mapd sh has val')

/-- Lists, side by side: computed, for literal lists. -/
def BecL (m : Mem) : List AV → List D → Prop
  | [], [] => True
  | A :: r, x :: s => BecP m A x ∧ BecL m r s
  | _, _ => False
theorem BecL.len {m : Mem} : ∀ {as : List AV} {xs : List D}, BecL m as xs → as.length = xs.length
  | [], [], _ => rfl
  | _ :: _, _ :: _, h => by simp [BecL.len h.2]
  | [], _ :: _, h => h.elim
  | _ :: _, [], h => h.elim
theorem BecL.at {m : Mem} : ∀ {as : List AV} {xs : List D}, BecL m as xs → ∀ (j : Nat) A x, as[j]? = some A → xs[j]? = some x → BecP m A x
  | [], [], _, j, A, x, h, _ => by simp at h
  | a :: r, y :: s, h, j, A, x, hA, hx => by
    cases j with
    | zero => simp at hA hx; subst hA; subst hx; exact h.1
    | succ j => exact BecL.at h.2 j A x (by simpa using hA) (by simpa using hx)
  | [], _ :: _, h, _, _, _, _, _ => h.elim
  | _ :: _, [], h, _, _, _, _, _ => h.elim
theorem BecP.ptr' {m : Mem} {r e off} {cs : List AV} {xs : List D} (h : m.get r = some (.box e cs)) (hc : BecL m cs xs) : BecP m (.ptr r 0 0 off) (.pt xs off) := .ptr h hc.len hc.at
theorem BecP.osl' {m : Mem} {r e sz g off n k} {f : Nat → List AV} {f' : Nat → List D} (h : m.get r = some (.vec e sz g k f)) (hn : off + n ≤ k) (hc : ∀ i, i < n → BecL m (f (off + i)) (f' i)) : BecP m (.osl r g off n) (.sl sz n f') :=
  .osl h hn (fun i hi => (hc i hi).len) fun i j A x hi => (hc i hi).at j A x
theorem BecL.up {m : Mem} : ∀ l : List D, BecL m (up l) l
  | [] => True.intro
  | _ :: r => ⟨.d, BecL.up r⟩
theorem BecP.rows {m : Mem} {r e sz g off n k} {f : Nat → List AV} {f' : Nat → List D} (h : m.get r = some (.vec e sz g k f)) (hn : off + n ≤ k) (hc : ∀ i, i < n → f (off + i) = Ab.up (f' i)) : BecP m (.osl r g off n) (.sl sz n f') :=
  .osl' h hn fun i hi => by rw [hc i hi]; exact BecL.up _
theorem BecP.fn' {m : Mem} {f} {xs ys : List AV} {xs' ys' : List D} (h1 : BecL m xs xs') (h2 : BecL m ys ys') : BecP m (.fn f xs ys) (.fn f xs' ys') := .fn h1.len h2.len h1.at h2.at
theorem BecP.agg' {m : Mem} {cs : List AV} {xs : List D} (h : BecL m cs xs) : BecP m (.agg cs) (.agg xs) := .agg h.len h.at

section
variable {P : Program} {T : Tab} {w : World} {F : Nat → Prop} {σ : Pls} {m : Mem}
theorem BecP.ok (hm : MemOk m σ F w) {A : AV} {x : D} (e : BecP m A x) : ∀ {v : Value}, Vc w F σ A v → Rd w (Given F σ) x v := by
  induction e with
  | d => intro v h; cases h with | d h => exact h.mono (fun _ h => .inl h) (fun _ _ => rfl)
  | eq he => intro v h; cases h with | d h => exact DEq.ok (h.mono (fun _ h => .inl h) (fun _ _ => rfl)) he
  | @ptr r e off cs xs hB hl _ ih =>
    intro v h
    obtain ⟨pl, hr, hok, _, hat⟩ := ptr_row hm h (Mem.get_at hB)
    obtain ⟨h0, hsz, b, hloc, us, hheap, hlen, hvc⟩ := hok
    obtain ⟨b', tot, hl', rfl⟩ := hat h0
    rw [hloc] at hl'
    obtain ⟨rfl, rfl⟩ := Prod.mk.inj (Option.some.inj hl')
    have := Rd.pt (w := w) (F := Given F σ) (cs := xs) (off := off) ⟨b, 0, none⟩ (fun j => us.getD j undef) (.inr ⟨r, pl, 1, hr, hloc⟩)
      (fun j hj => by
        have hu : us[j]? = some (us[j]'(by omega)) := List.getElem?_eq_getElem (by omega)
        have hA : cs[j]? = some (cs[j]'(by omega)) := List.getElem?_eq_getElem (by omega)
        rw [add_at, Nat.zero_add, cell_of_row w b j us.toArray e (0, 0) hheap]
        have := (hvc j _ _ hA hu).2
        simp only [List.getD_eq_getElem?_getD, hu, Option.getD_some]
        exact ⟨by simp, this⟩)
      (fun j x hx => by
        have hj := (List.getElem?_eq_some_iff.1 hx).1
        have hu : us[j]? = some (us[j]'(by omega)) := List.getElem?_eq_getElem (by omega)
        have hA : cs[j]? = some (cs[j]'(by omega)) := List.getElem?_eq_getElem (by omega)
        simp only [List.getD_eq_getElem?_getD, hu, Option.getD_some]
        exact ih j _ x hA hx (hvc j _ _ hA hu).1)
    rw [add_at] at this
    simpa only [Nat.zero_mul, Nat.zero_add] using this
  | @osl r e sz g off n k f f' hB hn hl _ ih =>
    intro v h
    obtain ⟨pl, hr, hok, _, hat⟩ := osl_row hm h (Mem.get_at hB)
    obtain ⟨h0, hsz, hn0, hrow, hlo⟩ := hok
    have hsl := hat h0
    unfold SlAt at hsl
    split at hsl
    · obtain ⟨rfl, _, rfl⟩ := hsl
      exact .sl ⟨0, 0, none⟩ (fun _ _ => undef) (Nat.le_refl _) (fun h => absurd h (by omega)) (fun i hi => absurd hi (by omega)) (fun i j hi => absurd hi (by omega)) (fun i j x hi => absurd hi (by omega))
    · rename_i b tot hloc
      obtain ⟨B, cap, rfl, hnc, hoc, hA⟩ := hsl
      obtain ⟨hnt, htm, us, hheap, hlen, hvc⟩ := hlo b tot hloc
      have hlen' : ∀ i, i < n → (f' i).length = sz := fun i hi => by rw [← hl i hi]; exact hrow _ (by omega)
      have hcell : ∀ i j, i < n → j < sz → ∃ u, us[(off + i) * sz + j]? = some u ∧ u.oneCell' = true ∧ ∀ x, (f' i)[j]? = some x → Rd w (Given F σ) x u := fun i j hi hj => by
        have hA1 : (f (off + i))[j]? = some ((f (off + i))[j]'(by rw [hrow _ (by omega)]; exact hj)) := List.getElem?_eq_getElem _
        obtain ⟨u, hu, hv, h1⟩ := hvc (off + i) j _ (by omega) hA1
        exact ⟨u, hu, h1, fun x hx => ih i j _ x hi hA1 hx hv⟩
      refine .sl ⟨b, off * sz, none⟩ (fun i j => us.getD ((off + i) * sz + j) undef) hnc (fun hn => ⟨by rw [hA (.inl (by omega)), hsz], .inr ⟨r, pl, tot, hr, hloc⟩⟩) hlen' (fun i j hi hj => ?_) (fun i j x hi hx => ?_)
      · obtain ⟨u, hu, h1, _⟩ := hcell i j hi hj
        rw [add_at, cell_of_row w b _ us.toArray e (0, 0) hheap]
        have e1 : off * sz + (i * sz + j) = (off + i) * sz + j := by rw [Nat.add_mul]; omega
        rw [e1]
        simp [hu, h1]
      · have hj : j < sz := by rw [← hlen' i hi]; exact (List.getElem?_eq_some_iff.1 hx).1
        obtain ⟨u, hu, _, h2⟩ := hcell i j hi hj
        simp only [List.getD_eq_getElem?_getD, hu, Option.getD_some]
        exact h2 x hx
  | fn h1 h2 _ _ i3 i4 =>
    intro v h
    cases h with
    | fn l1 l2 r1 r2 =>
      refine .fn (by omega) (by omega) (fun j x u hx hu => ?_) (fun j x u hx hu => ?_)
      · have hj := (List.getElem?_eq_some_iff.1 hu).1
        exact i3 j _ x (List.getElem?_eq_getElem (by omega)) hx (r1 j _ u (List.getElem?_eq_getElem (by omega)) hu)
      · have hj := (List.getElem?_eq_some_iff.1 hu).1
        exact i4 j _ x (List.getElem?_eq_getElem (by omega)) hx (r2 j _ u (List.getElem?_eq_getElem (by omega)) hu)
  | agg hl _ ih =>
    intro v h
    cases h with
    | agg l1 r1 =>
      refine .agg (by omega) (fun j x u hx hu => ?_)
      have hj := (List.getElem?_eq_some_iff.1 hu).1
      exact ih j _ x (List.getElem?_eq_getElem (by omega)) hx (r1 j _ u (List.getElem?_eq_getElem (by omega)) hu)
  | ifc _ ih => intro v h; cases h with | ifc h => exact .ifc (ih h)
  | @mp r sh has val val' hB _ ih =>
    intro v h
    obtain ⟨pl, b, hr, _, hl, rfl, h1, b', hl', es, clock, ks, g1, g2, g3, g4, g5⟩ := map_row hm h (Mem.get_at hB)
    rw [hl] at hl'
    obtain ⟨rfl, _⟩ := Prod.mk.inj (Option.some.inj hl')
    exact .mapd b es clock ks (.inr ⟨r, pl, 1, hr, hl⟩) g1 g2 g3 (fun i k e hi he => ⟨(g4 i k e hi he).1, (g4 i k e hi he).2.1, (g4 i k e hi he).2.2.1⟩) g5 (fun i k e hi he => ih k (g4 i k e hi he).2.2.1 (g4 i k e hi he).2.2.2)

theorem BecL.args (hm : MemOk m σ F w) {as : List AV} {xs : List D} {vals : List Value} (h : BecL m as xs) (ha : ArgsOk w F σ as vals) : vals.length = xs.length ∧ ∀ (j : Nat) x u, xs[j]? = some x → vals[j]? = some u → Rd w (Given F σ) x u :=
  ⟨by rw [ha.1, h.len], fun j x u hx hu => by
    have hj : j < as.length := by rw [h.len]; exact (List.getElem?_eq_some_iff.1 hx).1
    have hA : as[j]? = some as[j] := List.getElem?_eq_getElem hj
    exact (h.at j _ x hA hx).ok hm (ha.2 j _ u hA hu)⟩
theorem given_lt (hm : MemOk m σ F w) : ∀ b, Given F σ b → b < w.heap.size := fun b hb => by
  rcases hb with hb | ⟨r, pl, t, h1, h2⟩
  · exact hm.fl b hb
  · exact (hm.nf r pl b t h1 h2).2

/-- Data that point to no memory. -/
def D.flat : D → Bool
  | .int _ _ | .bool _ | .str _ | .nilp | .nili | .nilf | .nilm | .nils => true
  | _ => false
def allFlat : List D → Bool
  | [] => true
  | x :: r => x.flat && allFlat r
theorem Rd.flat {w w' : World} {F F' : Nat → Prop} {x : D} {v : Value} (h : Rd w F x v) (hx : x.flat = true) : Rd w' F' x v := by
  cases h <;> first | (simp [D.flat] at hx; done) | constructor
theorem allFlat_mem : ∀ {l : List D}, allFlat l = true → ∀ x ∈ l, x.flat = true
  | [], _ => fun x h => by simp at h
  | y :: r, h => fun x hx => by
    simp only [allFlat, Bool.and_eq_true] at h
    rcases List.mem_cons.1 hx with rfl | hx
    · exact h.1
    · exact allFlat_mem h.2 x hx
theorem resFlat {w w' : World} {F F' : Nat → Prop} {σ σ' : Pls} {res : List D} {v : Value} (hf : allFlat res = true) (h : Vc w F σ (resAV res) v) : Vc w' F' σ' (resAV res) v := by
  match res, hf, h with
  | [x], hf, h => cases h with | d h => exact .d (h.flat (allFlat_mem hf x (by simp)))
  | [], _, h =>
    simp only [resAV] at h ⊢
    cases h with
    | tup hl h => exact .tup hl fun j A u hA hu => by simp [up] at hA
  | x :: y :: r, hf, h =>
    simp only [resAV] at h ⊢
    cases h with
    | tup hl hh =>
      refine .tup hl fun j A u hA hu => ?_
      obtain ⟨x, hx, rfl⟩ := up_at hA
      have := hh j (.d x) u (by rw [up_eq, List.getElem?_map, hx]; rfl) hu
      cases this with | d h => exact .d (h.flat (allFlat_mem hf x (List.mem_of_getElem? hx)))

/-- What is ours is lent: the call hands back numbers and truths alone. -/
theorem Pure.loan {f : FuncId} {dargs res : List D} (h : Pure P f dargs res) {as : List AV} {K : AV → Mem → Prop} (hs : allFlat res = true) (ha : BecL m as dargs) (hk : K (resAV res) m) : CallVC P f as m K :=
  ⟨h.1, fun σ F w vals hm hv => by
    obtain ⟨h1, h2⟩ := ha.args hm hv
    refine (h.2 (Given F σ) w vals (given_lt hm) (hm.gl.mono (fun _ h => .inl h) fun _ _ => rfl) h1 h2).mono ?_
    rintro e w' ⟨v, F', he, hg, hr⟩
    have hkeep : ∀ b, b < w.heap.size → w'.heap[b]? = w.heap[b]? := hg.keep
    have hm' : MemOk m σ F w' := hm.world hg.size fun b hb => hkeep b (given_lt hm b hb)
    exact ⟨v, resAV res, m, σ, F, he, hk, resFlat hs (hr σ), hm', ⟨hg.os, hg.tape, hg.output, hg.size, fun b hb _ => hkeep b hb, fun _ h => h, fun _ h => .inl h, fun _ h => .inl h⟩, SLe.refl σ⟩⟩

def dead : List (Option Blk) → List (Option Blk)
  | [] => []
  | _ :: r => none :: dead r
theorem dead_at : ∀ (l : List (Option Blk)) (j : Nat), (dead l)[j]? = (l[j]?).map fun _ => none
  | [], _ => by simp [dead]
  | _ :: _, 0 => by simp [dead]
  | _ :: r, j + 1 => by simpa [dead] using dead_at r j
/-- What is ours is given away: it is never written again. -/
theorem Pure.give {f : FuncId} {dargs res : List D} (h : Pure P f dargs res) {as : List AV} {K : AV → Mem → Prop} (ha : BecL m as dargs) (hk : K (resAV res) ⟨dead m.loc, dead m.own⟩) : CallVC P f as m K :=
  ⟨h.1, fun σ F w vals hm hv => by
    obtain ⟨h1, h2⟩ := ha.args hm hv
    refine (h.2 (Given F σ) w vals (given_lt hm) (hm.gl.mono (fun _ h => .inl h) fun _ _ => rfl) h1 h2).mono ?_
    rintro e w' ⟨v, F', he, hg, hr⟩
    let σ' : Pls := fun r => (σ r).map fun _ => none
    have hat : ∀ r, (⟨dead m.loc, dead m.own⟩ : Mem).at r = (m.at r).map fun _ => none := fun r => by
      cases r with
      | loc j => exact dead_at _ _
      | arg j => exact dead_at _ _
      | bad => rfl
    have hm' : MemOk ⟨dead m.loc, dead m.own⟩ σ' F' w' := ⟨fun r => by
        rw [hat]; have := hm.dom r; simp [σ', this], fun r q hq => by
        simp only [σ', Option.map_eq_some_iff] at hq
        obtain ⟨q0, h3, rfl⟩ := hq
        refine ⟨fun _ => ?_, fun pl h => by cases h⟩
        rw [hat]
        cases hr0 : m.at r with
        | none => rw [(hm.dom r).2 hr0] at h3; cases h3
        | some b => rfl, fun r r' p p' b t t' h3 => by simp [σ'] at h3, fun r p b t h3 => by simp [σ'] at h3, hg.lt, hm.gl.mono (fun b hb => hg.fro b (.inl hb)) fun b hb => hg.keep b (hm.fl b hb)⟩
    refine ⟨v, resAV res, _, σ', F', he, hk, hr σ', hm', ⟨hg.os, hg.tape, hg.output, hg.size, fun b hb _ => hg.keep b hb, fun b hb => hg.fro b (.inl hb), fun b hb => ?_, fun b ⟨r, p, t, h3, _⟩ => by simp [σ'] at h3⟩, fun r q hq => ⟨none, by simp [σ', hq], QLe.none q⟩⟩
    rcases hg.fro' b hb with (h3 | h3) | h3
    · exact .inl h3
    · exact .inr (.inl h3)
    · exact .inr (.inr h3)⟩
end

/-! ### what is handed back, rows within rows -/
def FinP : List ResultVar → List D → Env → Mem → Prop
  | [], [], _, _ => True
  | .tmp t :: rs, x :: xs, env, m => BecP m (get env t) x ∧ FinP rs xs env m
  | _, _, _, _ => False
def finQP (rs : List ResultVar) (res : List D) : Post := fun e env m => match e with
  | .ret => FinP rs res env m
  | .normal => FinP rs res env m
  | _ => False
section
variable {P : Program} {T : Tab} {w : World} {F : Nat → Prop} {σ : Pls} {m : Mem}
theorem finP_ok (hm : MemOk m σ F w) {env : Env} {tmps : Array Value} (he : EnvOk env w F σ tmps) : ∀ (rs : List ResultVar) (res : List D), FinP rs res env m →
    ∃ vs : List Value, (rs.mapM (resOne tmps)).run P w = .ok vs w ∧ vs.length = res.length ∧ ∀ (j : Nat) x u, res[j]? = some x → vs[j]? = some u → Rd w (Given F σ) x u
  | [], [], _ => ⟨[], by simp, rfl, fun j x u h => by simp at h⟩
  | .tmp t :: rs, x :: xs, h => by
    obtain ⟨h1, h2⟩ := h
    obtain ⟨vs, g1, g2, g3⟩ := finP_ok hm he rs xs h2
    refine ⟨tmps.getD t undef :: vs, by simp [List.mapM_cons, resOne, g1], by simp [g2], fun j y u hy hu => ?_⟩
    cases j with
    | zero => simp at hy hu; subst hy; subst hu; simpa using (he t |> fun hv => BecP.ok hm h1 hv)
    | succ j => exact g3 j y u (by simpa using hy) (by simpa using hu)
  | .cell _ _ :: _, _ :: _, h => by cases h
  | [], _ :: _, h => by cases h
  | .tmp _ :: _, [], h => by cases h
  | .cell _ _ :: _, [], h => by cases h
theorem pure_ruleP (hT : TabOk P T) {f : FuncId} {fn : Func} {c : Code} {N : Nat} {rs : List ResultVar} {args res : List D} (hf : P.funcs[f]? = some fn) (hb : fn.body = some c) (hN : fn.ntmps = N) (hrs : fn.results = rs.toArray)
    (hname : (fn.name == "runtime.NumGoroutine") = false) (hargs : Nat.ble args.length N = true) (h : Ev (vc P T N c (envOf 0 args) ⟨[], []⟩ (finQP rs res))) : Pure P f args res := by
  refine ⟨⟨fn, hf, hname, by simp [hb]⟩, fun F w vals hF hG hl hv => ?_⟩
  refine callsFen.1 (callsIn_of_wp_marks (F := Fen none) (n := 0) hf hb trivial ?_ rfl)
  let σ0 : Pls := fun _ => none
  have hm0 : MemOk ⟨[], []⟩ σ0 F w := ⟨fun r => by cases r <;> simp [σ0, Mem.at], fun r q h => (by cases h), fun r r' p p' b t t' h => (by cases h), fun r p b t h => (by cases h), hF, hG⟩
  have hle := Nat.le_of_ble_eq_true hargs
  have hwp := (vc_ok hT c (envOf 0 args) ⟨[], []⟩ (finQP rs res) h.o).run none w.heap.size { tmps := vals.toArray ++ Array.replicate (fn.ntmps - vals.toArray.size) undef, defers := [] } w σ0 F (by simp [hN]; omega) Ctx.nil (envOf_ok hl hv _) hm0
  refine wpIn_mono hwp ?_
  rintro e a w1 ⟨env', m', σ', F', q1, q2, q3, q4, q5, q6, q7⟩
  have hend : FinP rs res env' m' → LeavesInM (Fen none) 0 P fn a.tmps (fun e w' => ∃ v F', e = .returned v ∧ Grew F w F' w' ∧ ∀ σ, Vc w' F' σ (resAV res) v) a.defers .returning w1 := by
    intro hfin
    obtain ⟨Ds, hDs, hnd, hD⟩ := q3.marks
    rw [hDs]
    refine leaves_marks Ds w1 hnd (fun D h => (hD D h).2.1) fun w' k1 k2 k3 k4 k5 => ?_
    have kF : ∀ b, F' b → w'.heap[b]? = w1.heap[b]? := fun b hb => k5 b fun hm => (hD b hm).2.2.2 hb
    have kO : ∀ b, Owned σ' b → w'.heap[b]? = w1.heap[b]? := fun b hb => k5 b fun hm => (hD b hm).2.2.1 hb
    replace q4 : EnvOk env' w' F' σ' a.tmps := q4.mono (fun _ h => h) kF (SLe.refl σ')
    replace q5 : MemOk m' σ' F' w' := q5.world (by omega) fun b hb => by
      rcases hb with hb | hb
      · exact kF b hb
      · exact kO b hb
    replace q6 : Step σ0 F w σ' F' w' := ⟨k1.trans q6.os, k2.trans q6.tape, k3.trans q6.output, by rw [k4]; exact q6.size, fun b hb ho => (k5 b fun hm => by have := (hD b hm).1; omega).trans (q6.keep b hb ho), q6.fro, q6.fro', q6.own⟩
    obtain ⟨vs, g1, g2, g3⟩ := finP_ok (P := P) q5 q4 rs res hfin
    have hrun : (results fn a.tmps).run P w' = .ok (if h : vs.toArray.size = 1 then vs.toArray[0] else .tuple vs.toArray) w' := by
      have e : results fn a.tmps = (do let vs ← fn.results.mapM (resOne a.tmps); pure (if h : vs.size = 1 then vs[0] else .tuple vs)) := by
        unfold results
        congr 1
      rw [e, hrs, Array.mapM_eq_mapM_toList]
      simp [g1]
    refine ⟨_, hrun, _, Given F' σ', rfl, ⟨q6.os, q6.tape, q6.output, q6.size, fun b hb => q6.keep b hb (fun ⟨r, p, t, h1, _⟩ => by cases h1), fun b hb => .inl (q6.fro b hb), fun b hb => ?_, fun b hb => ?_⟩, fun σ => ?_⟩
    · rcases hb with hb | hb
      · rcases q6.fro' b hb with h1 | ⟨r, p, t, h1, _⟩ | h1
        · exact .inl h1
        · cases h1
        · exact .inr h1
      · rcases q6.own b hb with ⟨r, p, t, h1, _⟩ | h1
        · cases h1
        · exact .inr h1
    · rcases hb with hb | ⟨r, p, t, h1, h2⟩
      · exact q5.fl b hb
      · exact (q5.nf r p b t h1 h2).2
    · have tup : Vc w' (Given F' σ') σ (.tup (up res)) (.tuple vs.toArray) := .tup (by rw [up_eq, List.length_map, g2]) fun j A u hA hu => by
        obtain ⟨x, hx, rfl⟩ := up_at hA
        exact .d (g3 j x u hx hu)
      match res, vs, g2, g3, tup with
      | [], [], _, _, tup => simpa [resAV] using tup
      | [x], [v], _, g3, _ => simpa [resAV] using Vc.d (g3 0 x v rfl rfl)
      | x :: y :: xs, a :: b :: vs, _, _, tup => simpa [resAV] using tup
      | [], _ :: _, h, _, _ => simp at h
      | _ :: _, [], h, _, _ => simp at h
      | [_], _ :: _ :: _, h, _, _ => simp at h
      | _ :: _ :: _, [_], h, _, _ => simp at h
  cases e with
  | normal => exact hend q1
  | ret => exact hend q1
  | _ => exact q1.elim
end
end Go.Ab
