/-
  The engine, part N: code; loops; what a state may be taken for.
-/
import Derived.Test.YthghfcbnhdjmiaaEngM
namespace Go.Ab

def SArg (σ σ' : Pls) : Prop := ∀ j q, σ (.arg j) = some q → ∃ q', σ' (.arg j) = some q' ∧ QLe q q'
theorem SArg.refl (σ : Pls) : SArg σ σ := fun _ q h => ⟨q, h, QLe.refl q⟩
theorem SArg.of {σ σ' : Pls} (h : SLe σ σ') : SArg σ σ' := fun j q hq => h (.arg j) q hq
theorem SArg.trans {σ σ' σ'' : Pls} (h : SArg σ σ') (k : SArg σ' σ'') : SArg σ σ'' := fun j q hq => by
  obtain ⟨q1, h1, h2⟩ := h j q hq
  obtain ⟨q2, h3, h4⟩ := k j q1 h1
  exact ⟨q2, h3, h2.trans h4⟩

abbrev Post := Exit → Env → Mem → Prop
def lift (N : Nat) (Q : Post) (σ : Pls) (F : Nat → Prop) (w : World) : Exit → Act → World → Prop := fun e a' w' =>
  ∃ env' m' σ' F', Q e env' m' ∧ a'.tmps.size = N ∧ a'.defers = [] ∧ EnvOk env' w' F' σ' a'.tmps ∧ MemOk m' σ' F' w' ∧ Step σ F w σ' F' w' ∧ SArg σ σ'
structure Awp (P : Program) (N : Nat) (c : Code) (env : Env) (m : Mem) (Q : Post) : Prop where
  run : ∀ (a : Act) (w : World) (σ : Pls) (F : Nat → Prop), a.tmps.size = N → a.defers = [] → EnvOk env w F σ a.tmps → MemOk m σ F w → c.wp P (lift N Q σ F w) a w

/-! ### pure calls -/
def resAV : List D → AV
  | [x] => .d x
  | xs => .tup (up xs)
/-- Nothing that was there has turned. -/
structure Grew (F : Nat → Prop) (w : World) (F' : Nat → Prop) (w' : World) : Prop where
  os : w'.os = w.os
  tape : w'.tape = w.tape
  output : w'.output = w.output
  size : w.heap.size ≤ w'.heap.size
  keep : ∀ b, b < w.heap.size → w'.heap[b]? = w.heap[b]?
  fro : ∀ b, F b → F' b
  fro' : ∀ b, F' b → F b ∨ w.heap.size ≤ b
  lt : ∀ b, F' b → b < w'.heap.size
/-- A function that only computes: from data to data. -/
def Pure (P : Program) (f : FuncId) (args res : List D) : Prop :=
  CanEnter P f ∧ ∀ (F : Nat → Prop) (w : World) (vals : List Value), (∀ b, F b → b < w.heap.size) → vals.length = args.length → (∀ (j : Nat) x u, args[j]? = some x → vals[j]? = some u → Rd w F x u) →
    Calls P f vals.toArray w fun e w' => ∃ v F', e = .returned v ∧ Grew F w F' w' ∧ ∀ σ, Vc w' F' σ (resAV res) v

theorem Grew.step {F F' : Nat → Prop} {w w' : World} (h : Grew F w F' w') (σ : Pls) : Step σ F w σ F' w' :=
  ⟨h.os, h.tape, h.output, h.size, fun b hb _ => h.keep b hb, h.fro, fun b hb => (h.fro' b hb).elim .inl (fun h => .inr (.inr h)), fun _ h => .inl h⟩
theorem Grew.mem {F F' : Nat → Prop} {w w' : World} (h : Grew F w F' w') {m : Mem} {σ : Pls} (hm : MemOk m σ F w) : MemOk m σ F' w' where
  dom := hm.dom
  lv r q hq := ⟨(hm.lv r q hq).1, fun pl e => by
    obtain ⟨B, hB, hok⟩ := (hm.lv r q hq).2 pl e
    exact ⟨B, hB, hok.mono h.fro (fun b hb => h.keep b (hm.fl b hb)) (SLe.refl σ) (fun b t hl => h.keep b (hm.nf r pl b t (by rw [hq, e]) hl).2)⟩⟩
  inj := hm.inj
  nf r pl b t h1 h2 := ⟨fun hF => by
    rcases h.fro' b hF with h3 | h3
    · exact (hm.nf r pl b t h1 h2).1 h3
    · have := (hm.nf r pl b t h1 h2).2; omega, Nat.lt_of_lt_of_le (hm.nf r pl b t h1 h2).2 h.size⟩
  fl := h.lt

theorem ArgsOk.data {w : World} {F : Nat → Prop} {σ : Pls} {xs : List D} {vals : List Value} (h : ArgsOk w F σ (up xs) vals) : vals.length = xs.length ∧ ∀ (j : Nat) x u, xs[j]? = some x → vals[j]? = some u → Rd w F x u :=
  ⟨by rw [h.1, up_eq, List.length_map], fun j x u hx hu => by
    have := h.2 j (.d x) u (by rw [up_eq, List.getElem?_map, hx]; rfl) hu
    cases this with | d h => exact h⟩
theorem Pure.call {P : Program} {f : FuncId} {args res : List D} (h : Pure P f args res) {m : Mem} {K : AV → Mem → Prop} (hk : K (resAV res) m) : CallVC P f (up args) m K :=
  ⟨h.1, fun σ F w vals hm ha => (h.2 F w vals hm.fl ha.data.1 ha.data.2).mono fun _ _ ⟨v, F', he, hg, hv⟩ => ⟨v, resAV res, m, σ, F', he, hk, hv σ, hg.mem hm, hg.step σ, SLe.refl σ⟩⟩

/-- A call, in a statement that leaves its order open, of a function that only computes one number or truth. -/
def D.scalar : D → Bool
  | .int _ _ | .bool _ => true
  | _ => false
structure QCall (P : Program) (fn : AV) (as : List AV) (K : AV → Prop) : Prop where
  q : ∃ (f : FuncId) (xs ys args : List D) (res : D), fn = .d (.fn (.func f) xs ys) ∧ as = up args ∧ Pure P f (xs ++ args ++ ys) [res] ∧ res.scalar = true ∧ K (.d res)

/-- A list of operations that only read and make such calls. -/
noncomputable def vcQ (P : Program) (T : Tab) (full : List Oper) (m : Mem) (ops : List Oper) : Env → (Env → Prop) → Prop :=
  List.rec (motive := fun _ => Env → (Env → Prop) → Prop) (fun env K => K env) (fun o _ ih env K => match o.guard with
    | none => match evRead T env m o.op with
      | some (v, l) => obs l (frc v fun v => setD env o.dst v fun env => ih env K)
      | none => match o.op with
        | .call { callee := .value f, args, .. } => match strip (ev env f) with
          | (fn, p) => match stripAll env args.toList with
            | (as, q) => obs (cat p q) (QCall P fn as fun v => Ev (setD env o.dst v fun env => ih env K))
        | _ => False
    | some (j, want) => match guardOf full env j want with
      | none => False
      | some g => match evRead T env m o.op with
        | some (v, l) => obs (under g l) (frc v fun v => setD env o.dst (.gd g v) fun env => ih env K)
        | none => match o.op with
          | .call { callee := .value f, args, .. } => match strip (ev env f) with
            | (fn, p) => match stripAll env args.toList with
              | (as, q) => Br g (Ev (obs (cat p q) (QCall P fn as fun v => Ev (setD env o.dst v fun env => ih env K)))) (Ev (setD env o.dst (.gd false (.d (.bool false))) fun env => ih env K))
          | _ => False) ops
theorem vcQ_cons (P : Program) (T : Tab) (full : List Oper) (m : Mem) (o : Oper) (rest : List Oper) (env : Env) (K : Env → Prop) : vcQ P T full m (o :: rest) env K = match o.guard with
    | none => match evRead T env m o.op with
      | some (v, l) => obs l (frc v fun v => setD env o.dst v fun env => vcQ P T full m rest env K)
      | none => match o.op with
        | .call { callee := .value f, args, .. } => match strip (ev env f) with
          | (fn, p) => match stripAll env args.toList with
            | (as, q) => obs (cat p q) (QCall P fn as fun v => Ev (setD env o.dst v fun env => vcQ P T full m rest env K))
        | _ => False
    | some (j, want) => match guardOf full env j want with
      | none => False
      | some g => match evRead T env m o.op with
        | some (v, l) => obs (under g l) (frc v fun v => setD env o.dst (.gd g v) fun env => vcQ P T full m rest env K)
        | none => match o.op with
          | .call { callee := .value f, args, .. } => match strip (ev env f) with
            | (fn, p) => match stripAll env args.toList with
              | (as, q) => Br g (Ev (obs (cat p q) (QCall P fn as fun v => Ev (setD env o.dst v fun env => vcQ P T full m rest env K)))) (Ev (setD env o.dst (.gd false (.d (.bool false))) fun env => vcQ P T full m rest env K))
          | _ => False := rfl

/-- Between two parts of the code: either way serves. -/
inductive Sq (p q : Prop) : Prop where
  | go (h : p)
  | alt (h : q)
noncomputable def vc (P : Program) (T : Tab) (N : Nat) (c : Code) : Env → Mem → Post → Prop :=
  Code.rec (motive := fun _ => Env → Mem → Post → Prop)
    (fun env m Q => Q .normal env m)
    (fun _ ops draw env m Q => bif dstsIn N ops.toList then match draw with
      | false => vcOps P T ops.toList ops.toList env m fun env m => Ev (Q .normal env m)
      | true => Dr (P.follows .mixedOrders = true ∧ Region.lexB .any ops = true) (Ev (vcQ P T ops.toList m ops.toList env fun env => Ev (Q .normal env m)))
    else False)
    (fun _ y ihx ihy env m Q => ihx env m fun e env m => match e with
    | .normal => Sq (Ev (ihy env m Q)) (Awp P N y env m Q)
    | .exit i => Q (.exit i) env m
    | .goto i => Q (.goto i) env m
    | .ret => Q .ret env m
    | .panic ch => Q (.panic ch) env m
    | .outgrown => Q .outgrown env m)
    (fun c _ _ ihx ihy env m Q => match strip (ev env c) with
    | (C, l) => match C with
      | .d (.bool b) => obs l (Br b (Ev (ihx env m Q)) (Ev (ihy env m Q)))
      | _ => False)
    (fun id _ ihx env m Q => ihx env m fun e env m => match e with
    | .exit i => bif Nat.beq i id then Q .normal env m else Q (.exit i) env m
    | .normal => Q .normal env m
    | .goto i => Q (.goto i) env m
    | .ret => Q .ret env m
    | .panic ch => Q (.panic ch) env m
    | .outgrown => Q .outgrown env m)
    (fun c _ env m Q => Awp P N (.loop c) env m Q)
    (fun _ _ _ _ _ _ _ _ _ => False)
    (fun id env m Q => Q (.exit id) env m)
    (fun _ _ _ _ _ => False)
    (fun _ _ _ _ => False)
    (fun _ _ _ _ => False)
    (fun env m Q => Q .ret env m)
    (fun _ _ _ _ => False) c
theorem vc_region (P : Program) (T : Tab) (N id : Nat) (ops : Array Oper) (draw : Bool) (env : Env) (m : Mem) (Q : Post) : vc P T N (.region id ops draw) env m Q = bif dstsIn N ops.toList then match draw with
      | false => vcOps P T ops.toList ops.toList env m fun env m => Ev (Q .normal env m)
      | true => Dr (P.follows .mixedOrders = true ∧ Region.lexB .any ops = true) (Ev (vcQ P T ops.toList m ops.toList env fun env => Ev (Q .normal env m)))
    else False := rfl
theorem vc_cond (P : Program) (T : Tab) (N : Nat) (c : Operand) (x y : Code) (env : Env) (m : Mem) (Q : Post) : vc P T N (.cond c x y) env m Q = match strip (ev env c) with
    | (C, l) => match C with
      | .d (.bool b) => obs l (Br b (Ev (vc P T N x env m Q)) (Ev (vc P T N y env m Q)))
      | _ => False := rfl

section sound
variable {P : Program} {T : Tab}

theorem lift_trans {N : Nat} {Q : Post} {σ σ' : Pls} {F F' : Nat → Prop} {w w' : World} (hs : Step σ F w σ' F' w') (ha : SArg σ σ') {e : Exit} {a : Act} {w2 : World} (h : lift N Q σ' F' w' e a w2) : lift N Q σ F w e a w2 := by
  obtain ⟨env, m, σ2, F2, h1, h2, h3, h4, h5, h6, h7⟩ := h
  exact ⟨env, m, σ2, F2, h1, h2, h3, h4, h5, hs.trans h6, ha.trans h7⟩

theorem vcQ_ok (hT : TabOk P T) {full : List Oper} {ops : Array Oper} (hfull : ops = full.toArray) {N : Nat} {m : Mem} {σ : Pls} {F : Nat → Prop} {w : World} (hm : MemOk m σ F w) {K : Env → Prop} {Q : Act → Prop} {D0 : List Deferred}
    (hQ : ∀ env a, K env → a.tmps.size = N → a.defers = D0 → EnvOk env w F σ a.tmps → Q a) :
    ∀ (rest : List Oper) (env : Env) (a : Act), dstsIn N rest = true → vcQ P T full m rest env K → a.tmps.size = N → a.defers = D0 → EnvOk env w F σ a.tmps →
      wpQuiet P ops (fun w' => ∃ F', Grew F w F' w') Q rest a
  | [], env, a, _, h, hN, hD, he => hQ env a h hN hD he
  | o :: rest, env, a, hd, h, hN, hD, he => by
    simp only [dstsIn, Bool.and_eq_true] at hd
    have cont : ∀ env' v, vcQ P T full m rest env' K → EnvOk env' w F σ (a.put o.dst v).tmps → wpQuiet P ops (fun w' => ∃ F', Grew F w F' w') Q rest (a.put o.dst v) := fun env' v hk he' =>
      vcQ_ok hT hfull hm hQ rest env' _ hd.2 hk (by rw [put_size]; exact hN) (by rw [put_defers]; exact hD) he'
    have read : ∀ {v : AV} {l : List Prop}, evRead T env m o.op = some (v, l) → (∀ p ∈ l, p) → ∃ u, Vc w F σ v u ∧ ∀ w', (∃ F', Grew F w F' w') → o.quietAt P a (fun w' => ∃ F', Grew F w F' w') w' u := by
      intro v l hr hl
      obtain ⟨u, hu, hrun⟩ := evRead_ok hT hm he hr hl
      refine ⟨u, hu, fun w' ⟨F', hg⟩ => ?_⟩
      have hag : Agree F σ w w' := fun b hb => hg.keep b (by
        rcases hb with hb | ⟨r, pl, t, h1, h2⟩
        · exact hm.fl b hb
        · exact (hm.nf r pl b t h1 h2).2)
      unfold Oper.quietAt
      rw [hrun w' hag]
      exact ⟨rfl, rfl⟩
    have call : ∀ {f : Operand} {args : Array Operand} {at_ : Array TypeId} {K' : AV → Prop}, o.op = .call { callee := .value f, args, argTypes := at_ } → (∀ p ∈ cat (strip (ev env f)).2 (stripAll env args.toList).2, p) → QCall P (strip (ev env f)).1 (stripAll env args.toList).1 K' →
        ∃ A u, K' A ∧ Vc w F σ A u ∧ ∀ w', (∃ F', Grew F w F' w') → o.quietAt P a (fun w' => ∃ F', Grew F w F' w') w' u := by
      rintro f args at_ K' hop hl ⟨id, xs, ys, das, res, hfn, has, hp, hsc, hk⟩
      obtain ⟨h1, h2⟩ := all_cat hl
      have hf := strip_ok (ev_ok he f) h1
      have ha := stripAll_ok he args.toList h2
      rw [hfn] at hf
      rw [has] at ha
      have hu : ∃ u, Vc w F σ (.d res) u ∧ ∀ (w' : World) (F' : Nat → Prop) v, Vc w' F' σ (.d res) v → v = u := by
        cases res <;> simp [D.scalar] at hsc
        · exact ⟨_, .d .int, fun w' F' v hv => hv.int⟩
        · exact ⟨_, .d .bool, fun w' F' v hv => hv.bool⟩
      obtain ⟨u, hu1, hu2⟩ := hu
      refine ⟨.d res, u, hk, hu1, fun w' ⟨F1, hg⟩ => ?_⟩
      unfold Oper.quietAt
      generalize hX : a.eval f = X at hf
      cases hf with
      | d hf => cases hf with
        | @fn _ _ _ us vs l1 l2 r1 r2 =>
          have ad := ha.data
          have hcall := hp.2 F1 w' (us ++ args.toList.map a.eval ++ vs) hg.lt (by simp [l1, l2]; have := ad.1; simp at this; omega) (fun j x u hx hu => by
            have mono : ∀ {x u}, Rd w F x u → Rd w' F1 x u := fun h => h.mono hg.fro (fun b hb => hg.keep b (hm.fl b hb))
            have ha1 : ArgsOk w F σ (up xs) us := .ofD l1 r1
            have ha2 : ArgsOk w F σ (up ys) vs := .ofD l2 r2
            have hall := ((ha1.app ha).app ha2)
            have e : up xs ++ up das ++ up ys = up (xs ++ das ++ ys) := by simp [up_eq]
            rw [e] at hall
            exact mono (hall.data.2 j x u hx hu))
          have hrun : (execOp a.eval o).run P w' = .ok (.enter id (us ++ args.toList.map a.eval ++ vs).toArray) w' := by
            have e : us.toArray ++ Array.map a.eval args ++ vs.toArray = (us ++ args.toList.map a.eval ++ vs).toArray := by apply Array.ext'; simp
            simp only [execOp, hop, Sem.run_bind, resolve, Deferred.ofValue, hX, invoke, Sem.run_pure, Result.andThen_ok, e]
            exact run_callFunc hp.1 _ w'
          rw [hrun]
          refine ⟨rfl, hcall.mono fun e w2 ⟨v, F2, he2, hg2, hv⟩ => ?_⟩
          have := hu2 w2 F2 v (hv σ)
          subst this
          exact ⟨he2, F2, hg2.os.trans hg.os, hg2.tape.trans hg.tape, hg2.output.trans hg.output, Nat.le_trans hg.size hg2.size, fun b hb => (hg2.keep b (Nat.lt_of_lt_of_le hb hg.size)).trans (hg.keep b hb), fun b hb => hg2.fro b (hg.fro b hb),
            fun b hb => by
              rcases hg2.fro' b hb with h3 | h3
              · exact hg.fro' b h3
              · exact .inr (Nat.le_trans hg.size h3), hg2.lt⟩
    rw [vcQ_cons] at h
    split at h
    · rename_i hg
      have hw : Region.wanted o (yielded ops a.tmps) = true := by simp [Region.wanted, hg]
      refine wpQuiet_step fun K' hK' => ?_
      rw [if_pos hw]
      split at h
      · rename_i v l hr
        obtain ⟨hl, h⟩ := obs_ok h
        rw [frc_eq] at h
        obtain ⟨u, hu, hq⟩ := read hr hl
        obtain ⟨env', hk, he'⟩ := setD_ok hN hd.1 he hu h
        exact ⟨u, hq, hK' _ (cont env' u hk he')⟩
      · split at h <;> try (cases h; done)
        rename_i f args at_ hop
        obtain ⟨hl, h⟩ := obs_ok h
        obtain ⟨A, u, hk, hu, hq⟩ := call hop hl h
        obtain ⟨env', hk, he'⟩ := setD_ok hN hd.1 he hu hk.o
        exact ⟨u, hq, hK' _ (cont env' u hk he')⟩
    · rename_i j want hg
      split at h <;> try (cases h; done)
      rename_i g hgo
      have hw : Region.wanted o (yielded ops a.tmps) = g := by
        subst hfull
        simp only [Region.wanted, hg]
        exact guardOf_ok he hgo
      have skip : ∀ (A : AV), Vc w F σ A undef → (setD env o.dst A fun env => vcQ P T full m rest env K) → wpQuiet P ops (fun w' => ∃ F', Grew F w F' w') Q rest (a.put o.dst undef) := by
        intro A hA hk
        obtain ⟨env', hk, he'⟩ := setD_ok hN hd.1 he hA hk
        exact cont env' undef hk he'
      refine wpQuiet_step fun K' hK' => ?_
      rw [hw]
      split at h
      · rename_i v l hr
        obtain ⟨hl, h⟩ := obs_ok h
        rw [frc_eq] at h
        cases g with
        | true =>
          simp only [if_true]
          obtain ⟨u, hu, hq⟩ := read hr (under_ok hl rfl)
          obtain ⟨env', hk, he'⟩ := setD_ok hN hd.1 he (Vc.gd (fun _ => hu) (fun h => by cases h)) h
          exact ⟨u, hq, hK' _ (cont env' u hk he')⟩
        | false =>
          simp only [Bool.false_eq_true, if_false]
          exact hK' _ (skip _ (.gd (fun h => by cases h) fun _ => rfl) h)
      · split at h <;> try (cases h; done)
        rename_i f args at_ hop
        cases g with
        | true =>
          simp only [if_true]
          obtain ⟨hl, h⟩ := obs_ok (h.t rfl).o
          obtain ⟨A, u, hk, hu, hq⟩ := call hop hl h
          obtain ⟨env', hk, he'⟩ := setD_ok hN hd.1 he hu hk.o
          exact ⟨u, hq, hK' _ (cont env' u hk he')⟩
        | false =>
          simp only [Bool.false_eq_true, if_false]
          exact hK' _ (skip _ (.gd (fun h => by cases h) fun _ => rfl) (h.f rfl).o)

theorem Grew.drew {w : World} {F : Nat → Prop} (h : ∀ b, F b → b < w.heap.size) : Grew F w F { w with drawn := w.drawn + 1 } := ⟨rfl, rfl, rfl, Nat.le_refl _, fun _ _ => rfl, fun _ h => h, fun _ h => .inl h, h⟩

theorem vc_ok (hT : TabOk P T) {N : Nat} : ∀ (c : Code) (env : Env) (m : Mem) (Q : Post), vc P T N c env m Q → Awp P N c env m Q
  | .skip, env, m, Q, h => ⟨fun a w σ F hN hD he hm => wp_skip ⟨env, m, σ, F, h, hN, hD, he, hm, Step.refl σ F w, SArg.refl σ⟩⟩
  | .region id ops draw, env, m, Q, h => ⟨fun a w σ F hN hD he hm => by
    rw [vc_region] at h
    cases hd : dstsIn N ops.toList with
    | false => rw [hd] at h; cases h
    | true =>
      rw [hd] at h
      simp only [cond_true] at h
      cases draw with
      | false =>
        refine wp_region_list (vcOps_ok hT (full := ops.toList) (by simp) ops.toList env m hd h a w F σ hN he hm ?_)
        intro env' m' a' w' σ' F' k1 k2 k3 k4 k5 k6 k7
        exact ⟨env', m', σ', F', k1.o, k2, by rw [k3, hD], k4, k5, k6, .of k7⟩
      | true =>
        obtain ⟨⟨h1, h2⟩, ⟨h3⟩⟩ := h
        refine wp_region_quiet (C := fun w' => ∃ F', Grew F w F' w') h1 h2 ⟨F, Grew.drew hm.fl⟩ ?_
        refine vcQ_ok hT (full := ops.toList) (by simp) hm (fun env' a' hk hN' hD' he' w' hC => ?_) ops.toList env a hd h3 hN hD he
        obtain ⟨F', hg⟩ := hC
        exact ⟨env', m, σ, F', hk.o, hN', hD', he'.mono hg.fro (fun b hb => hg.keep b (hm.fl b hb)) (SLe.refl σ), hg.mem hm, hg.step σ, SArg.refl σ⟩⟩
  | .seq x y, env, m, Q, h => ⟨fun a w σ F hN hD he hm => by
    refine wp_seq (wp_mono ((vc_ok hT x env m _ h).run a w σ F hN hD he hm) ?_)
    rintro e a1 w1 ⟨env1, m1, σ1, F1, k1, k2, k3, k4, k5, k6, k7⟩
    cases e with
    | normal =>
      have k1 : Sq (Ev (vc P T N y env1 m1 Q)) (Awp P N y env1 m1 Q) := k1
      have hy : Awp P N y env1 m1 Q := match k1 with
        | .go h => vc_ok hT y env1 m1 Q h.o
        | .alt h => h
      exact wp_mono (hy.run a1 w1 σ1 F1 k2 k3 k4 k5) fun e a2 w2 h2 => lift_trans k6 k7 h2
    | _ => exact ⟨env1, m1, σ1, F1, k1, k2, k3, k4, k5, k6, k7⟩⟩
  | .cond c x y, env, m, Q, h => ⟨fun a w σ F hN hD he hm => by
    rw [vc_cond] at h
    split at h
    rename_i C l hb
    split at h <;> try (cases h; done)
    obtain ⟨hl, h⟩ := obs_ok h
    have hv := strip_ok (ev_ok he c) (by rw [hb]; exact hl)
    rw [hb] at hv
    refine wp_cond_split hv.bool (fun e => ?_) (fun e => ?_)
    · exact (vc_ok hT x env m Q (h.t e).o).run a w σ F hN hD he hm
    · exact (vc_ok hT y env m Q (h.f e).o).run a w σ F hN hD he hm⟩
  | .block id c, env, m, Q, h => ⟨fun a w σ F hN hD he hm => by
    refine wp_block (wp_mono ((vc_ok hT c env m _ h).run a w σ F hN hD he hm) ?_)
    rintro e a1 w1 ⟨env1, m1, σ1, F1, k1, k2⟩
    cases e with
    | exit i =>
      simp only [Exit.inBlock]
      cases hi : Nat.beq i id with
      | true =>
        have := Nat.eq_of_beq_eq_true hi
        subst this
        simp only [if_true]
        simp only [hi, cond_true] at k1
        exact ⟨env1, m1, σ1, F1, k1, k2⟩
      | false =>
        rw [if_neg (Nat.ne_of_beq_eq_false hi)]
        simp only [hi, cond_false] at k1
        exact ⟨env1, m1, σ1, F1, k1, k2⟩
    | _ => exact ⟨env1, m1, σ1, F1, k1, k2⟩⟩
  | .loop c, env, m, Q, h => h
  | .exit id, env, m, Q, h => ⟨fun a w σ F hN hD he hm => wp_exit ⟨env, m, σ, F, h, hN, hD, he, hm, Step.refl σ F w, SArg.refl σ⟩⟩
  | .ret, env, m, Q, h => ⟨fun a w σ F hN hD he hm => wp_ret ⟨env, m, σ, F, h, hN, hD, he, hm, Step.refl σ F w, SArg.refl σ⟩⟩
  | .rangeFunc .., _, _, _, h => by cases h
  | .scope _, _, _, _, h => by cases h
  | .label _, _, _, _, h => by cases h
  | .goto _, _, _, _, h => by cases h
  | .refuse _, _, _, _, h => by cases h
end sound
end Go.Ab
