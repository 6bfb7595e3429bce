/-
  The engine, part M: lists of operations, calls, and code.
-/
import Derived.Test.YteamiepijajjdaaDoorEngL
import Derived.Test.YteamiepijajjdaaDoorEngU
namespace Go.Ab
set_option linter.unusedSimpArgs false
set_option linter.unusedVariables false

/-- May the function be entered by a call? -/
def CanEnter (P : Program) (f : FuncId) : Prop := ∃ fn, P.funcs[f]? = some fn ∧ (fn.name == "runtime.NumGoroutine") = false ∧ fn.body.isNone = false

def ArgsOk (w : World) (F : Nat → Prop) (σ : Pls) (args : List AV) (vals : List Value) : Prop :=
  vals.length = args.length ∧ ∀ (j : Nat) A u, args[j]? = some A → vals[j]? = some u → Vc w F σ A u

/-- A call of a function: it returns, what it returns and leaves in our memory meets K. -/
structure CallVC (P : Program) (f : FuncId) (args : List AV) (m : Mem) (K : AV → Mem → Prop) : Prop where
  can : CanEnter P f
  run : ∀ (σ : Pls) (F : Nat → Prop) (w : World) (vals : List Value), MemOk m σ F w → ArgsOk w F σ args vals →
    Calls P f vals.toArray w fun e w' => ∃ v A m' σ' F', e = .returned v ∧ K A m' ∧ Vc w' F' σ' A v ∧ MemOk m' σ' F' w' ∧ Step σ F w σ' F' w' ∧ SLe σ σ'
theorem CallVC.mono {P : Program} {f : FuncId} {args : List AV} {m : Mem} {K K' : AV → Mem → Prop} (h : CallVC P f args m K) (hk : ∀ A m', K A m' → K' A m') : CallVC P f args m K' :=
  ⟨h.can, fun σ F w vals h1 h2 => (h.run σ F w vals h1 h2).mono fun _ _ ⟨v, A, m', σ', F', a, b, c⟩ => ⟨v, A, m', σ', F', a, hk _ _ b, c⟩⟩

/-- A call of the yield of the loop whose record lies at block b. -/
structure YieldVC (P : Program) (b : Nat) (args : List AV) (m : Mem) (K : AV → Mem → Prop) : Prop where
  run : ∀ (σ : Pls) (F : Nat → Prop) (w : World) (vals : List Value), MemOk m σ F w → ArgsOk w F σ args vals →
    ∃ fn tmps assign body, (Instr.yield b vals.toArray).run P w = .ok (.round b fn tmps assign body) w ∧
      RoundIn (Fen none) 0 P b fn tmps assign body w fun e w' => ∃ v A m' σ' F', e = .returned v ∧ K A m' ∧ Vc w' F' σ' A v ∧ MemOk m' σ' F' w' ∧ Step σ F w σ' F' w' ∧ SLe σ σ'
/-- A call of a function value. -/
structure FnVC (P : Program) (fn : AV) (args : List AV) (m : Mem) (K : AV → Mem → Prop) : Prop where
  q : ∃ (f : FuncId) (first cap : List AV), (fn = .fn (.func f) first cap ∨ ∃ xs ys, fn = .d (.fn (.func f) xs ys) ∧ first = up xs ∧ cap = up ys) ∧ CallVC P f (first ++ args ++ cap) m K
def vcCall (P : Program) (fn : AV) (args : List AV) (m : Mem) (K : AV → Mem → Prop) : Prop :=
  match fn with
  | .d x => match x with
    | .fn f xs ys => match f with
      | .func f => match xs, ys with
        | [], [] => CallVC P f args m K
        | xs, ys => FnVC P (.d (.fn (.func f) xs ys)) args m K
      | f => FnVC P (.d (.fn f xs ys)) args m K
    | _ => False
  | .fn f xs ys => match f with
    | .yield b => match xs, ys with
      | [], [] => YieldVC P b args m K
      | _, _ => False
    | f => FnVC P (.fn f xs ys) args m K
  | _ => False

def stripAll (env : Env) : List Operand → List AV × List Prop
  | [] => ([], [])
  | x :: r => match strip (ev env x) with
    | (A, p) => match stripAll env r with
      | (l, q) => (A :: l, cat p q)

def dstOf : List Oper → Nat → Option Tmp
  | [], _ => none
  | o :: _, 0 => o.dst
  | _ :: r, j + 1 => dstOf r j
/-- When is a guarded operation carried out? -/
def guardOf (full : List Oper) (env : Env) (j : Nat) (want : Bool) : Option Bool :=
  match dstOf full j with
  | some t => match get env t with
    | .d (.bool b) => match want with
      | true => some b
      | false => some (!b)
    | .gd c (.d (.bool b)) => match want with
      | true => some (c && b)
      | false => some (c && !b)
    | _ => none
  | none => none
def setD (env : Env) (d : Option Tmp) (A : AV) (K : Env → Prop) : Prop :=
  match d with
  | some t => K ((t, A) :: env)
  | none => K env

noncomputable def vcOp (P : Program) (T : Tab) (o : Oper) (env : Env) (m : Mem) (K : Env → Mem → Prop) : Prop :=
  match evRead T env m o.op with
  | some (v, l) => obs l (frc v fun v => setD env o.dst v fun env => K env m)
  | none => match evEff T env m o.op with
    | some (v, m', l) => obs l (frc v fun v => frcM m' fun m' => setD env o.dst v fun env => K env m')
    | none => match o.op with
      | .call { callee := .value f, args, .. } => match strip (ev env f) with
        | (fn, p) => match stripAll env args.toList with
          | (as, q) => obs (cat p q) (vcCall P fn as m fun v m' => Ev (setD env o.dst v fun env => K env m'))
      | _ => False
noncomputable def vcOps (P : Program) (T : Tab) (full ops : List Oper) : Env → Mem → (Env → Mem → Prop) → Prop :=
  List.rec (motive := fun _ => Env → Mem → (Env → Mem → Prop) → Prop) (fun env m K => K env m)
    (fun o _ ih env m K => match o.guard with
      | none => vcOp P T o env m fun env m => ih env m K
      | some (j, want) => match guardOf full env j want with
        | none => False
        | some g => match evRead T env m o.op with
          | some (v, l) => obs (under g l) (frc v fun v => setD env o.dst (.gd g v) fun env => ih env m K)
          | none => Br g (Ev (vcOp P T o env m fun env m => ih env m K)) (Ev (setD env o.dst (.gd false (.d (.bool false))) fun env => ih env m K))) ops
theorem vcOps_cons (P : Program) (T : Tab) (full : List Oper) (o : Oper) (rest : List Oper) (env : Env) (m : Mem) (K : Env → Mem → Prop) : vcOps P T full (o :: rest) env m K = match o.guard with
    | none => vcOp P T o env m fun env m => vcOps P T full rest env m K
    | some (j, want) => match guardOf full env j want with
      | none => False
      | some g => match evRead T env m o.op with
        | some (v, l) => obs (under g l) (frc v fun v => setD env o.dst (.gd g v) fun env => vcOps P T full rest env m K)
        | none => Br g (Ev (vcOp P T o env m fun env m => vcOps P T full rest env m K)) (Ev (setD env o.dst (.gd false (.d (.bool false))) fun env => vcOps P T full rest env m K)) := rfl

/-- What stands in an operation's slot is in its place. -/
def dstsIn (N : Nat) : List Oper → Bool
  | [] => true
  | o :: r => (match o.dst with
    | some d => Nat.blt d N
    | none => true) && dstsIn N r

section sound
variable {P : Program} {T : Tab} {ro : Option Nat}
theorem evRead_defer (T : Tab) (env : Env) (m : Mem) (c : Call) : evRead T env m (.defer c) = none := rfl
theorem evEff_defer (T : Tab) (env : Env) (m : Mem) (c : Call) : evEff T env m (.defer c) = none := rfl

theorem put_ok {w : World} {F : Nat → Prop} {σ : Pls} {env : Env} {a : Act} {N d : Nat} {A : AV} {v : Value} (hN : a.tmps.size = N) (hd : d < N) (he : EnvOk env w F σ a.tmps) (hv : Vc w F σ A v) :
    EnvOk ((d, A) :: env) w F σ (a.put (some d) v).tmps := by
  intro t
  simp only [get, Act.put]
  cases hb : Nat.beq d t with
  | true =>
    have := Nat.eq_of_beq_eq_true hb
    subst this
    simp only [cond_true, Array.getD_eq_getD_getElem?]
    rw [Array.getElem?_setIfInBounds_self_of_lt (by omega)]
    exact hv
  | false =>
    have hne := Nat.ne_of_beq_eq_false hb
    simp only [cond_false, Array.getD_eq_getD_getElem?]
    rw [Array.getElem?_setIfInBounds_ne hne, ← Array.getD_eq_getD_getElem?]
    exact he t
theorem put_size (a : Act) (d : Option Tmp) (v : Value) : (a.put d v).tmps.size = a.tmps.size := by cases d <;> simp [Act.put]
theorem put_defers (a : Act) (d : Option Tmp) (v : Value) : (a.put d v).defers = a.defers := by cases d <;> rfl
theorem EnvOk.mono {w w' : World} {F F' : Nat → Prop} {σ σ' : Pls} {env : Env} {t : Array Value} (hF : ∀ b, F b → F' b) (hh : ∀ b, F b → w'.heap[b]? = w.heap[b]?) (hs : SLe σ σ') (h : EnvOk env w F σ t) : EnvOk env w' F' σ' t :=
  fun k => (h k).mono hF hh hs
theorem setD_ok {w : World} {F : Nat → Prop} {σ : Pls} {env : Env} {a : Act} {N : Nat} {d : Option Tmp} {A : AV} {v : Value} {K : Env → Prop} (hN : a.tmps.size = N) (hd : (match d with | some d => Nat.blt d N | none => true) = true) (he : EnvOk env w F σ a.tmps) (hv : Vc w F σ A v)
    (h : setD env d A K) : ∃ env', K env' ∧ EnvOk env' w F σ (a.put d v).tmps := by
  cases d with
  | none => exact ⟨env, h, he⟩
  | some d => exact ⟨_, h, put_ok hN (Nat.le_of_ble_eq_true hd) he hv⟩

theorem dstOf_eq : ∀ (l : List Oper) (j : Nat), dstOf l j = (l[j]?).bind (·.dst)
  | [], _ => by simp [dstOf]
  | _ :: _, 0 => rfl
  | _ :: r, j + 1 => by simpa [dstOf] using dstOf_eq r j
theorem guardOf_ok {w : World} {F : Nat → Prop} {σ : Pls} {env : Env} {full : List Oper} {tmps : Array Value} (he : EnvOk env w F σ tmps) {j : Nat} {want g : Bool} (h : guardOf full env j want = some g) :
    (yielded full.toArray tmps j == some want) = g := by
  unfold guardOf at h
  split at h <;> try (cases h; done)
  rename_i t ht
  rw [dstOf_eq] at ht
  have hy : yielded full.toArray tmps j = match tmps[t]? with | some (.bool b) => some b | _ => none := by
    unfold yielded
    have : ((full.toArray[j]?).bind (·.dst)) = some t := by simpa using ht
    rw [this]
    rfl
  have hv := he t
  have hget : ∀ b, tmps.getD t undef = .bool b → tmps[t]? = some (.bool b) := fun b hb => by
    rw [Array.getD_eq_getD_getElem?] at hb
    cases hc : tmps[t]? with
    | none => rw [hc] at hb; simp [undef] at hb
    | some v => rw [hc] at hb; simp at hb; rw [hb]
  split at h <;> try (cases h; done)
  · rename_i b e
    rw [e] at hv
    rw [hy, hget b hv.bool]
    cases want <;> simp at h <;> subst h <;> first | (cases b <;> rfl) | (cases g <;> rfl)
  · rename_i c b e
    rw [e] at hv
    cases hv with
    | gd h1 h2 =>
      cases c with
      | true =>
        rw [hy, hget b (h1 rfl).bool]
        cases want <;> simp at h <;> subst h <;> first | (cases b <;> rfl) | (cases g <;> rfl)
      | false =>
        have hu := h2 rfl
        have : yielded full.toArray tmps j = none := by
          rw [hy]
          rw [Array.getD_eq_getD_getElem?] at hu
          cases hc : tmps[t]? with
          | none => rfl
          | some v => rw [hc] at hu; simp at hu; subst hu; rfl
        rw [this]
        cases want <;> simp at h <;> subst h <;> rfl

theorem stripAll_ok {w : World} {F : Nat → Prop} {σ : Pls} {env : Env} {a : Act} (he : EnvOk env w F σ a.tmps) : ∀ (l : List Operand), (∀ p ∈ (stripAll env l).2, p) → ArgsOk w F σ (stripAll env l).1 (l.map a.eval)
  | [], _ => ⟨rfl, fun j A u h => by simp [stripAll] at h⟩
  | x :: r, hp => by
    simp only [stripAll] at hp ⊢
    obtain ⟨h1, h2⟩ := all_cat hp
    obtain ⟨h3, h4⟩ := stripAll_ok he r h2
    refine ⟨by simp [← h3], fun j A u hA hu => ?_⟩
    cases j with
    | zero => simp at hA hu; subst hA; subst hu; exact strip_ok (ev_ok he x) h1
    | succ j => exact h4 j A u (by simpa using hA) (by simpa using hu)

theorem ArgsOk.app {w : World} {F : Nat → Prop} {σ : Pls} {as bs : List AV} {us vs : List Value} (h : ArgsOk w F σ as us) (k : ArgsOk w F σ bs vs) : ArgsOk w F σ (as ++ bs) (us ++ vs) := by
  refine ⟨by simp [h.1, k.1], fun j A u hA hu => ?_⟩
  by_cases hj : j < as.length
  · rw [List.getElem?_append_left hj] at hA
    rw [List.getElem?_append_left (by rw [h.1]; exact hj)] at hu
    exact h.2 j A u hA hu
  · rw [List.getElem?_append_right (by omega)] at hA
    rw [List.getElem?_append_right (by rw [h.1]; omega), h.1] at hu
    exact k.2 _ A u hA hu
theorem ArgsOk.ofD {w : World} {F : Nat → Prop} {σ : Pls} {xs : List D} {us : List Value} (hl : us.length = xs.length) (h : ∀ (j : Nat) x u, xs[j]? = some x → us[j]? = some u → Rd w F x u) : ArgsOk w F σ (up xs) us :=
  ⟨by rw [up_eq, List.length_map, hl], fun j A u hA hu => by obtain ⟨x, hx, rfl⟩ := up_at hA; exact .d (h j x u hx hu)⟩

theorem run_callFunc {f : FuncId} (h : CanEnter P f) (args : Array Value) (w : World) : (callFunc f args).run P w = .ok (.enter f args) w := by
  obtain ⟨fn, h1, h2, h3⟩ := h
  simp only [callFunc, Sem.run_bind, run_program, Result.andThen_ok, h1, h2, h3, Bool.false_eq_true, if_false, Sem.run_pure]

/-- The call of a function value, in the machine. -/
theorem vcCall_ok {o : Oper} {f : Operand} {args : Array Operand} {at_ : Array TypeId} (hop : o.op = .call { callee := .value f, args, argTypes := at_ }) {a : Act} {w : World} {F : Nat → Prop} {σ : Pls} {m : Mem} (hm : MemOk m σ F w) {fn : AV} {as : List AV} (hf : Vc w F σ fn (a.eval f)) (ha : ArgsOk w F σ as (args.toList.map a.eval))
    {K : AV → Mem → Prop} (h : vcCall P fn as m K) {next : Act → World → Prop} {Q : Exit → Act → World → Prop}
    (hn : ∀ v A m' σ' F' w', K A m' → Vc w' F' σ' A v → MemOk m' σ' F' w' → Step σ F w σ' F' w' → SLe σ σ' → next (a.put o.dst v) w') : o.wpIn (Fen ro) 0 P a w next Q := by
  have main : ∀ (id : FuncId) (first cap : List AV) (us vs : List Value), a.eval f = .func (.func id) us.toArray vs.toArray → ArgsOk w F σ first us → ArgsOk w F σ cap vs → CallVC P id (first ++ as ++ cap) m K → o.wpIn (Fen ro) 0 P a w next Q := by
    intro id first cap us vs hfv h1 h2 hc
    have hall := (h1.app ha).app h2
    have hcall := hc.run σ F w _ hm hall
    have hrun : (execOp a.eval o).run P w = .ok (.enter id (us ++ args.toList.map a.eval ++ vs).toArray) w := by
      have e : us.toArray ++ Array.map a.eval args ++ vs.toArray = (us ++ args.toList.map a.eval ++ vs).toArray := by apply Array.ext'; simp
      simp only [execOp, hop, Sem.run_bind, resolve, Deferred.ofValue, hfv, invoke, Sem.run_pure, Result.andThen_ok, e]
      exact run_callFunc hc.can _ w
    refine wpIn_at (by rw [hop]; exact fun _ h => nomatch h) ?_
    rw [hrun, Oper.uponIn_enter]
    refine ⟨Fen_depth, callsFen.2 ?_⟩
    exact hcall.mono fun e w' ⟨v, A, m', σ', F', he, hk, hv, hm', hs, hle⟩ => by subst he; exact hn v A m' σ' F' w' hk hv hm' hs hle
  have viaFn : FnVC P fn as m K → o.wpIn (Fen ro) 0 P a w next Q := by
    rintro ⟨id, first, cap, hcase, hc⟩
    rcases hcase with rfl | ⟨xs, ys, rfl, rfl, rfl⟩
    · generalize hX : a.eval f = X at hf
      cases hf with
      | fn h1 h2 h3 h4 => exact main id first cap _ _ hX ⟨h1, h3⟩ ⟨h2, h4⟩ hc
    · generalize hX : a.eval f = X at hf
      cases hf with
      | d hf => cases hf with
        | fn h1 h2 h3 h4 => exact main id (up xs) (up ys) _ _ hX (.ofD h1 h3) (.ofD h2 h4) hc
  unfold vcCall at h
  split at h <;> try (cases h; done)
  · split at h <;> try (cases h; done)
    split at h
    · split at h
      · generalize hX : a.eval f = X at hf
        cases hf with
        | d hf => cases hf with
          | fn h1 h2 h3 h4 => exact main _ [] [] _ _ hX ⟨by simpa using h1, fun j A u h => by simp at h⟩ ⟨by simpa using h2, fun j A u h => by simp at h⟩ (by simpa using h)
      · exact viaFn h
    · exact viaFn h
  · split at h
    · rename_i b
      split at h <;> try (cases h; done)
      generalize hX : a.eval f = X at hf
      cases hf with
      | @fn _ _ _ us vs h1 h2 h3 h4 =>
        have e1 : us = [] := by simpa using h1
        have e2 : vs = [] := by simpa using h2
        subst e1; subst e2
        obtain ⟨fn, tmps, assign, body, hy, hr⟩ := h.run σ F w (args.toList.map a.eval) hm ha
        refine wpIn_at (by rw [hop]; exact fun _ h => nomatch h) ?_
        have hrun : (execOp a.eval o).run P w = .ok (.round b fn tmps assign body) w := by
          have e : ([] : List Value).toArray ++ Array.map a.eval args = (args.toList.map a.eval).toArray := by apply Array.ext'; simp
          simp only [execOp, hop, Sem.run_bind, resolve, Deferred.ofValue, hX, Sem.run_pure, Result.andThen_ok, invoke, e]
          exact hy
        rw [hrun, Oper.uponIn_round]
        exact ⟨Fen_depth, hr.mono fun e w' ⟨v, A, m', σ', F', he, hk, hv, hm', hs, hle⟩ => by subst he; exact hn v A m' σ' F' w' hk hv hm' hs hle⟩
    · exact viaFn h

theorem vcOp_ok (hT : TabOk P T) {o : Oper} {N : Nat} {env : Env} {m : Mem} {K : Env → Mem → Prop} (h : vcOp P T o env m K) (hd : (match o.dst with | some d => Nat.blt d N | none => true) = true)
    {a : Act} {w : World} {F : Nat → Prop} {σ : Pls} (hN : a.tmps.size = N) (he : EnvOk env w F σ a.tmps) (hm : MemOk m σ F w) {next : Act → World → Prop} {Q : Exit → Act → World → Prop}
    (hn : ∀ env' m' v w' σ' F', K env' m' → EnvOk env' w' F' σ' (a.put o.dst v).tmps → MemOk m' σ' F' w' → Step σ F w σ' F' w' → SLe σ σ' → next (a.put o.dst v) w') : o.wpIn (Fen ro) 0 P a w next Q := by
  unfold vcOp at h
  split at h
  · rename_i v l hr
    obtain ⟨hl, h⟩ := obs_ok h
    rw [frc_eq] at h
    obtain ⟨u, hu, hrun⟩ := evRead_ok hT hm he hr hl
    obtain ⟨env', hk, he'⟩ := setD_ok hN hd he hu h
    refine wpIn_at (fun c hc => by rw [hc, evRead_defer] at hr; cases hr) ?_
    rw [hrun w (Agree.refl F σ w), Oper.uponIn_value]
    exact hn env' m u w σ F hk he' hm (Step.refl σ F w) (SLe.refl σ)
  · split at h
    · rename_i v m' l hr
      obtain ⟨hl, h⟩ := obs_ok h
      rw [frc_eq, frcM_eq] at h
      obtain ⟨n, u, w', σ', hrun, hcase, hu, hm', hs, hle⟩ := evEff_ok hT hm he hr hl
      have he1 := he.mono (w' := w') hs.fro (hs.frozen hm) hle
      obtain ⟨env', hk, he'⟩ := setD_ok hN hd he1 hu h
      refine wpIn_at (fun c hc => by rw [hc, evEff_defer] at hr; cases hr) ?_
      rw [hrun]
      rcases hcase with rfl | ⟨rfl, rfl⟩
      · rw [Oper.uponIn_value]; exact hn env' m' u w' σ' F hk he' hm' hs hle
      · rw [Oper.uponIn_skip]; exact hn env' m' undef w' σ' F hk he' hm' hs hle
    · split at h <;> try (cases h; done)
      rename_i f args at_ hop
      obtain ⟨hl, h⟩ := obs_ok h
      obtain ⟨h1, h2⟩ := all_cat hl
      refine vcCall_ok hop hm (strip_ok (ev_ok he f) h1) (stripAll_ok he args.toList h2) h fun v A m' σ' F' w' hk hv hm' hs hle => ?_
      obtain ⟨env', hk', he'⟩ := setD_ok hN hd (he.mono hs.fro (hs.frozen hm) hle) hv hk.o
      exact hn env' m' v w' σ' F' hk' he' hm' hs hle

theorem vcOps_ok (hT : TabOk P T) {full : List Oper} {ops : Array Oper} (hfull : ops = full.toArray) {N : Nat} {K : Env → Mem → Prop} {Q : Exit → Act → World → Prop} :
    ∀ (rest : List Oper) (env : Env) (m : Mem), dstsIn N rest = true → vcOps P T full rest env m K → ∀ (a : Act) (w : World) (F : Nat → Prop) (σ : Pls), a.tmps.size = N → EnvOk env w F σ a.tmps → MemOk m σ F w →
      (∀ env' m' a' w' σ' F', K env' m' → a'.tmps.size = N → a'.defers = a.defers → EnvOk env' w' F' σ' a'.tmps → MemOk m' σ' F' w' → Step σ F w σ' F' w' → SLe σ σ' → Q .normal a' w') → wpListIn (Fen ro) 0 P ops Q rest a w
  | [], env, m, _, h, a, w, F, σ, hN, he, hm, hn => wpListIn_nil (hn env m a w σ F h hN rfl he hm (Step.refl σ F w) (SLe.refl σ))
  | o :: rest, env, m, hd, h, a, w, F, σ, hN, he, hm, hn => by
    simp only [dstsIn, Bool.and_eq_true] at hd
    have cont : ∀ env' m' v w' σ' F', vcOps P T full rest env' m' K → EnvOk env' w' F' σ' (a.put o.dst v).tmps → MemOk m' σ' F' w' → Step σ F w σ' F' w' → SLe σ σ' → wpListIn (Fen ro) 0 P ops Q rest (a.put o.dst v) w' := by
      intro env' m' v w' σ' F' hk he' hm' hs hle
      refine vcOps_ok hT hfull rest env' m' hd.2 hk (a.put o.dst v) w' F' σ' (by rw [put_size]; exact hN) he' hm' ?_
      intro env2 m2 a2 w2 σ2 F2 k1 k2 k3 k4 k5 k6 k7
      exact hn env2 m2 a2 w2 σ2 F2 k1 k2 (by rw [k3, put_defers]) k4 k5 (hs.trans k6) (fun r q hq => by
        obtain ⟨q1, h1, h2⟩ := hle r q hq
        obtain ⟨q2, h3, h4⟩ := k7 r q1 h1
        exact ⟨q2, h3, h2.trans h4⟩)
    have skip : ∀ (A : AV), Vc w F σ A undef → (setD env o.dst A fun env => vcOps P T full rest env m K) → wpListIn (Fen ro) 0 P ops Q rest (a.put o.dst undef) w := by
      intro A hA hk
      obtain ⟨env', hk, he'⟩ := setD_ok hN hd.1 he hA hk
      exact cont env' m undef w σ F hk he' hm (Step.refl σ F w) (SLe.refl σ)
    rw [vcOps_cons] at h
    split at h
    · rename_i hg
      exact wpListIn_plain hg fun K' hK' => vcOp_ok hT h hd.1 hN he hm fun env' m' v w' σ' F' hk he' hm' hs hle => hK' _ _ (cont env' m' v w' σ' F' hk he' hm' hs hle)
    · rename_i j want hg
      split at h <;> try (cases h; done)
      rename_i g hgo
      have hw : Region.wanted o (yielded ops a.tmps) = g := by
        subst hfull
        simp only [Region.wanted, hg]
        exact guardOf_ok he hgo
      split at h
      · rename_i v l hr
        obtain ⟨hl, h⟩ := obs_ok h
        rw [frc_eq] at h
        refine wpListIn_step fun K' hK' => ?_
        rw [hw]
        cases g with
        | true =>
          simp only [if_true]
          obtain ⟨u, hu, hrun⟩ := evRead_ok hT hm he hr (under_ok hl rfl)
          obtain ⟨env', hk, he'⟩ := setD_ok hN hd.1 he (Vc.gd (fun _ => hu) (fun h => by cases h)) h
          refine wpIn_at (fun c hc => by rw [hc, evRead_defer] at hr; cases hr) ?_
          rw [hrun w (Agree.refl F σ w), Oper.uponIn_value]
          exact hK' _ _ (cont env' m u w σ F hk he' hm (Step.refl σ F w) (SLe.refl σ))
        | false =>
          simp only [Bool.false_eq_true, if_false]
          exact ⟨fun _ _ => trivial, hK' _ _ (skip _ (.gd (fun h => by cases h) fun _ => rfl) h)⟩
      · refine wpListIn_step fun K' hK' => ?_
        rw [hw]
        cases g with
        | true =>
          simp only [if_true]
          exact vcOp_ok hT (h.t rfl).o hd.1 hN he hm fun env' m' v w' σ' F' hk he' hm' hs hle => hK' _ _ (cont env' m' v w' σ' F' hk he' hm' hs hle)
        | false =>
          simp only [Bool.false_eq_true, if_false]
          exact ⟨fun _ _ => trivial, hK' _ _ (skip _ (.gd (fun h => by cases h) fun _ => rfl) (h.f rfl).o)⟩
end sound
end Go.Ab
