/-
  The engine, part G: all reading operations as one function, and that it is right.
-/
import Derived.Test.YteamiepijajjdaaDoorEngW
namespace Go.Ab
set_option linter.unusedSimpArgs false
set_option linter.unusedVariables false

def un (x : AV × List Prop) (f : AV → Option (AV × List Prop)) : Option (AV × List Prop) :=
  match x with
  | (a, p) => match f a with
    | some (v, o) => some (v, cat p o)
    | none => none
def un? (x : Option (AV × List Prop)) (f : Option AV → Option (AV × List Prop)) : Option (AV × List Prop) :=
  match x with
  | none => f none
  | some (a, p) => match f (some a) with
    | some (v, o) => some (v, cat p o)
    | none => none
def evNot : AV → Option (AV × List Prop)
  | .d (.bool b) => some (.d (.bool (!b)), [])
  | _ => none
def evNeg : AV → Option (AV × List Prop)
  | .d (.int k a) => some (.d (.int k (0 - a)), [In k (0 - a)])
  | _ => none
def evExtract (k : Nat) : AV → Option (AV × List Prop)
  | .tup vs => match alook vs k with
    | some v => some (v, [])
    | none => none
  | _ => none
def evAll (env : Env) : List Operand → List AV
  | [] => []
  | x :: r => ev env x :: evAll env r
def evFn (f : Fn) (first cap : List AV) : Option (AV × List Prop) :=
  match allD first, allD cap with
  | some xs, some ys => some (.d (.fn f xs ys), [])
  | _, _ => some (.fn f first cap, [])
def evParts (env : Env) : List (Nat × Operand) → List (Nat × AV)
  | [] => []
  | (i, x) :: r => (i, ev env x) :: evParts env r
def evMinMax (mx : Bool) : AV → AV → Option (AV × List Prop)
  | .d (.int k a), .d (.int k' b) => bif decide (k = k') then some (.d (.int k (bif mx then max a b else min a b)), []) else none
  | _, _ => none
def evNil (m : Mem) : AV → Option (AV × List Prop)
  | .d (.pt cs off) => some (.d (.pt cs off), [])
  | .d (.ifc t x) => some (.d (.ifc t x), [])
  | .ptr r g i off => match liveAt m r g i with
    | some l => some (.ptr r g i off, l)
    | none => none
  | _ => none

def stripParts : List (Nat × AV) → List (Nat × AV) × List Prop
  | [] => ([], [])
  | (i, A) :: r => match strip A with
    | (B, p) => match stripParts r with
      | (l, q) => ((i, B) :: l, cat p q)
def evRead (T : Tab) (env : Env) (m : Mem) (op : Op) : Option (AV × List Prop) :=
  match op with
  | .move x => evMove (ev env x)
  | .assign x => evMove (ev env x)
  | .pick c a b => evPick (strip (ev env c)) (strip (ev env a)) (strip (ev env b))
  | .binOp op t x y _ => un (strip (ev env x)) fun a => un (strip (ev env y)) fun b => match evBin op a b with
    | some r => some r
    | none => match evEq T op t a b with
      | some r => some r
      | none => evNilEq T op t y a
  | .unOp .not _ x => un (strip (ev env x)) evNot
  | .unOp .neg _ x => un (strip (ev env x)) evNeg
  | .load t x => un (strip (ev env x)) (evLoad T m t)
  | .fieldAddr t x k => un (strip (ev env x)) (evFieldAddr T m t k)
  | .indexAddr t x i => un (strip (ev env x)) fun a => un (strip (ev env i)) fun b => evIndexAddr T m t a b
  | .field t x k => un (strip (ev env x)) (evField T t k)
  | .index t x i => un (strip (ev env x)) fun a => un (strip (ev env i)) fun b => evIndex T t a b
  | .extract x k => un (strip (ev env x)) (evExtract k)
  | .makeInterface t x => un (strip (ev env x)) (evIfc T t)
  | .convert s d x => un (strip (ev env x)) (evConv T s d)
  | .makeFunc f first cap => evFn f (evAll env first.toList) (evAll env cap.toList)
  | .build t parts => match stripParts (evParts env parts.toList) with
    | (l0, p) => match evBuild T m t l0 with
      | some (A, q) => some (A, cat p q)
      | none => none
  | .slice t x lo hi none => un (strip (ev env x)) fun a => un? (lo.map fun l => strip (ev env l)) fun l => un? (hi.map fun h => strip (ev env h)) fun h => evSlice T m t a l h
  | .nilCheck x => un (strip (ev env x)) (evNil m)
  | .lookup t x k ok => un (strip (ev env x)) fun a => un (strip (ev env k)) fun b => evLookup T m t ok a b
  | .call { callee := .builtin .len, args, argTypes } =>
    match args.toList with
    | [x] => match argTypes.toList with
      | [t] => un (strip (ev env x)) (evLenOwn T m t)
      | _ => none
    | _ => none
  | .call { callee := .builtin .cap, args, argTypes } =>
    match args.toList with
    | [x] => match argTypes.toList with
      | [t] => un (strip (ev env x)) (evCap T t)
      | _ => none
    | _ => none
  | .call { callee := .builtin .max, args, argTypes := _ } =>
    match args.toList with
    | [x, y] => un (strip (ev env x)) fun a => un (strip (ev env y)) fun b => evMinMax true a b
    | _ => none
  | .call { callee := .builtin .min, args, argTypes := _ } =>
    match args.toList with
    | [x, y] => un (strip (ev env x)) fun a => un (strip (ev env y)) fun b => evMinMax false a b
    | _ => none
  | _ => none

section sound
variable {P : Program} {T : Tab} {w : World} {F : Nat → Prop} {σ : Pls} {m : Mem}

theorem un_ok {x : AV × List Prop} {f : AV → Option (AV × List Prop)} {A : AV} {obs : List Prop} (h : un x f = some (A, obs)) (hob : ∀ p ∈ obs, p) :
    (∀ p ∈ x.2, p) ∧ ∃ o, f x.1 = some (A, o) ∧ ∀ p ∈ o, p := by
  obtain ⟨a, p⟩ := x
  simp only [un] at h
  split at h <;> try (cases h; done)
  rename_i v o ho
  simp only [Option.some.injEq, Prod.mk.injEq] at h
  obtain ⟨rfl, rfl⟩ := h
  exact ⟨(all_cat hob).1, o, ho, (all_cat hob).2⟩
theorem un?_ok {x : Option (AV × List Prop)} {f : Option AV → Option (AV × List Prop)} {A : AV} {obs : List Prop} (h : un? x f = some (A, obs)) (hob : ∀ p ∈ obs, p) :
    (∀ y, x = some y → ∀ p ∈ y.2, p) ∧ ∃ o, f (x.map (·.1)) = some (A, o) ∧ ∀ p ∈ o, p := by
  cases x with
  | none => exact ⟨(fun y e => by cases e), obs, h, hob⟩
  | some x =>
    obtain ⟨a, p⟩ := x
    simp only [un?] at h
    split at h <;> try (cases h; done)
    rename_i v o ho
    simp only [Option.some.injEq, Prod.mk.injEq] at h
    obtain ⟨rfl, rfl⟩ := h
    exact ⟨fun y e => by injection e with e; subst e; exact (all_cat hob).1, o, ho, (all_cat hob).2⟩

/-- An operation hands back a value that is as said, in every world that reads as this one. -/
def ReadsOp (P : Program) (F : Nat → Prop) (σ : Pls) (w : World) (ρ : Operand → Value) (o : Oper) (A : AV) : Prop :=
  ∃ u, Vc w F σ A u ∧ ∀ w', Agree F σ w w' → (execOp ρ o).run P w' = .ok (.value u) w'
theorem ReadsAs.op {ρ : Operand → Value} {o : Oper} {A : AV} {s : Sem Value} (h : ReadsAs P F σ w s A) (he : execOp ρ o = (do pure (.value (← s)))) : ReadsOp P F σ w ρ o A := by
  obtain ⟨u, h1, h2⟩ := h
  exact ⟨u, h1, fun w' hw' => by rw [he]; simp [h2 w' hw']⟩

theorem evAll_ok {env : Env} {a : Act} (he : EnvOk env w F σ a.tmps) : ∀ (l : List Operand), (l.map a.eval).length = (evAll env l).length ∧ ∀ (j : Nat) A u, (evAll env l)[j]? = some A → (l.map a.eval)[j]? = some u → Vc w F σ A u
  | [] => ⟨rfl, fun j A u h => by simp [evAll] at h⟩
  | x :: r => by
    obtain ⟨h1, h2⟩ := evAll_ok he r
    refine ⟨by simp [evAll, ← h1], fun j A u hA hu => ?_⟩
    cases j with
    | zero => simp [evAll] at hA hu; subst hA; subst hu; exact ev_ok he x
    | succ j => exact h2 j A u (by simpa [evAll] using hA) (by simpa using hu)
theorem evParts_ok {env : Env} {a : Act} (he : EnvOk env w F σ a.tmps) : ∀ (l : List (Nat × Operand)), (l.map fun (i, x) => (i, a.eval x)).map (·.1) = (evParts env l).map (·.1) ∧
    ∀ (j : Nat) A u, (evParts env l)[j]? = some A → (l.map fun (i, x) => (i, a.eval x))[j]? = some u → Vc w F σ A.2 u.2
  | [] => ⟨rfl, fun j A u h => by simp [evParts] at h⟩
  | (i, x) :: r => by
    obtain ⟨h1, h2⟩ := evParts_ok he r
    refine ⟨by simp only [List.map_cons, evParts, List.cons.injEq]; first | exact ⟨rfl, h1⟩ | exact ⟨trivial, h1⟩, fun j A u hA hu => ?_⟩
    cases j with
    | zero => simp [evParts] at hA hu; subst hA; subst hu; exact ev_ok he x
    | succ j => exact h2 j A u (by simpa [evParts] using hA) (by simpa using hu)

theorem stripParts_fst : ∀ l : List (Nat × AV), (stripParts l).1.map (·.1) = l.map (·.1)
  | [] => rfl
  | (i, A) :: r => by simp [stripParts, stripParts_fst r]
theorem stripParts_ok : ∀ (l : List (Nat × AV)), (∀ p ∈ (stripParts l).2, p) → ∀ (j : Nat) B, (stripParts l).1[j]? = some B → ∃ A, l[j]? = some A ∧ ∀ v, Vc w F σ A.2 v → Vc w F σ B.2 v
  | [], _, j, B, h => by simp [stripParts] at h
  | (i, A) :: r, hp, j, B, h => by
    simp only [stripParts] at hp h
    obtain ⟨h1, h2⟩ := all_cat hp
    cases j with
    | zero =>
      simp only [List.getElem?_cons_zero, Option.some.injEq] at h
      subst h
      exact ⟨(i, A), rfl, fun v hv => strip_ok hv h1⟩
    | succ j => exact stripParts_ok r h2 j B (by simpa using h)
theorem evBuild_ok (hT : TabOk P T) (hm : MemOk m σ F w) {a : Act} {t : TypeId} {parts : Array (Nat × Operand)} {l0 : List (Nat × AV)} (hk1 : (parts.toList.map fun (i, x) => (i, a.eval x)).map (·.1) = l0.map (·.1)) (hk2 : ∀ (j : Nat) A u, l0[j]? = some A → (parts.toList.map fun (i, x) => (i, a.eval x))[j]? = some u → Vc w F σ A.2 u.2) {A : AV} {obs : List Prop}
    (h : evBuild T m t l0 = some (A, obs)) (hob : ∀ p ∈ obs, p) : ReadsAs P F σ w (Instr.build t (parts.map fun (i, x) => (i, a.eval x))) A := by
  unfold evBuild at h
  split at h <;> try (cases h; done)
  rename_i ti hti
  split at h <;> try (cases h; done)
  rotate_left
  · rename_i n' e hk
    split at h <;> try (cases h; done)
    split at h <;> try (cases h; done)
    rename_i te hte
    simp only [Option.some.injEq, Prod.mk.injEq] at h
    obtain ⟨rfl, rfl⟩ := h
    have ht := hT t ti hti
    have hk' := tiIs_kind ht
    rw [hk] at hk'
    have hu := kindIs_arr hk'
    obtain ⟨i, z, hi, his, _, hz, hzs, _⟩ := tiIs_info ht
    obtain ⟨ie, _, hie, _⟩ := tiIs_info (hT _ _ hte)
    have hp0 : parts = #[] := by
      have h1 := hk1
      have h2 : parts.toList = [] := by simpa using h1
      simpa using h2
    obtain ⟨h1, h2⟩ := sameZs_sound (w := w) (F := F) hzs
    refine ⟨.agg z.cells, .d ?_, fun w' _ => run_build w' t _ _ ?_⟩
    · have := Rd.agg (w := w) (F := F) (cs := ti.zero) (us := z.cells.toList) h1 (fun j x u hx hu => (h2 j x u hx hu).1)
      simpa using this
    · unfold Program.built
      simp only [hi, hu, hz, hie, hp0]
      simp [Instr.fill]
  rename_i gs hk
  split at h <;> try (cases h; done)
  rename_i cs p hfill
  simp only [Option.some.injEq, Prod.mk.injEq] at h
  obtain ⟨rfl, rfl⟩ := h
  have ht := hT t ti hti
  have hk' := tiIs_kind ht
  rw [hk] at hk'
  obtain ⟨fields, hu, hsz, hf⟩ := kindIs_st hk'
  obtain ⟨i, z, hi, his, _, hz, hzs, _⟩ := tiIs_info ht
  have hpl : ∃ places, fields.toList.mapM (fun f => (P.info? f.type).map fun i => (f.offset, i.size)) = some places := by
    have hall : ∀ f ∈ fields.toList, ∃ j, P.info? f.type = some j := by
      intro f hfm
      obtain ⟨k, hkl, hkf⟩ := List.getElem_of_mem hfm
      have hkg : k < gs.length := by rw [← hsz]; simpa using hkl
      obtain ⟨f', hf1, hf2, hf3, hf4⟩ := hf k (gs[k]).1 (gs[k]).2 (List.getElem?_eq_getElem hkg)
      have : f' = f := by
        have e1 : fields.toList[k]? = some f' := by simpa using hf1
        rw [List.getElem?_eq_getElem hkl, hkf] at e1
        injection e1 with e1
        exact e1.symm
      subst this
      cases hinf : P.info? f'.type with
      | none => rw [← hf3] at hf4; simp [Program.cellsOf, hinf] at hf4
      | some j => exact ⟨j, rfl⟩
    clear hfill hsz hf hu hk hk'
    generalize fields.toList = fs at hall
    induction fs with
    | nil => exact ⟨[], rfl⟩
    | cons f r ih =>
      obtain ⟨j, hj⟩ := hall f (by simp)
      obtain ⟨pl, hpl⟩ := ih (fun g hg => hall g (by simp [hg]))
      exact ⟨(f.offset, j.size) :: pl, by simp [List.mapM_cons, hj, hpl]⟩
  obtain ⟨places, hpl⟩ := hpl
  have hz0 : CellsOk w F σ (up ti.zero) z.cells.toList := .zero hzs
  obtain ⟨_, vs', e1, e2⟩ := fillSt_ok hT hm hu hpl _ _ _ z.cells.toList [] cs p hk1 hk2 hz0 hfill hob
  refine ⟨.agg vs'.toArray, foldD_ok e2.1 fun j A u hA hu => (e2.2 j A u hA hu).1, fun w' _ => run_build w' t _ _ ?_⟩
  unfold Program.built
  simp only [hi, hu, hz, hpl]
  have : (parts.map fun (i, x) => (i, a.eval x)).toList = parts.toList.map fun (i, x) => (i, a.eval x) := by simp
  rw [this]
  simpa using e1

theorem elem_eq {t e : TypeId} (hu : P.underlying t = some (.slice e)) : P.elem t = e := by simp [Program.elem, hu]

theorem evSlice_ok (hT : TabOk P T) (hm : MemOk m σ F w) {t : TypeId} {x : AV} {X : Value} {lo hi : Option AV} {LO HI : Option Value} {A : AV} {obs : List Prop} (hx : Vc w F σ x X)
    (hlo : ∀ y, lo = some y → ∃ Y, LO = some Y ∧ Vc w F σ y Y) (hlo' : lo = none → LO = none) (hhi : ∀ y, hi = some y → ∃ Y, HI = some Y ∧ Vc w F σ y Y) (hhi' : hi = none → HI = none)
    (h : evSlice T m t x lo hi = some (A, obs)) (hob : ∀ p ∈ obs, p) : ReadsAs P F σ w (Instr.sliceAt t X LO HI none) A := by
  unfold evSlice at h
  split at h <;> try (cases h; done)
  rename_i e sz he
  obtain ⟨hu, hs, _⟩ := elemOf_ok hT he
  have hel := elem_eq hu
  have hu' : P.underlying t = some (.slice (P.elem t)) := by rw [hel]; exact hu
  split at h <;> try (cases h; done)
  · rename_i sz' n f
    cases hz : Nat.beq sz' sz with
    | false => rw [hz] at h; cases h
    | true =>
      rw [hz] at h
      simp only [cond_true] at h
      have hz' := Nat.eq_of_beq_eq_true hz
      subst hz'
      cases hx with
      | d hx => cases hx with
        | @sl _ _ _ B cap a0 g hc hA hl hcell hrd =>
          have key : ∀ (l k : Nat), l ≤ k → k ≤ n → Rd w F (.sl sz' (k - l) fun i => f (l + i)) (sliced B l k cap sz') := by
            intro l k hlk hkn
            refine .sl (a0.add (l * sz')) (fun i j => g (l + i) j) (by omega) (fun h0 => ?_) (fun i hi => hl _ (by omega)) (fun i j hi hj => ?_) (fun i j x hi hx => hrd (l + i) j x (by omega) hx)
            · obtain ⟨rfl, hF⟩ := hA (by omega)
              rw [if_neg (by omega)]
              exact ⟨rfl, by rw [add_block]; exact hF⟩
            · rw [add_add, ← Nat.add_assoc, ← Nat.add_mul]
              exact hcell (l + i) j (by omega) hj
          split at h
          · have := hlo' rfl; subst this
            split at h
            · have := hhi' rfl; subst this
              simp only [Option.some.injEq, Prod.mk.injEq] at h
              obtain ⟨rfl, rfl⟩ := h
              refine .const (u := sliced B 0 n cap sz') (.d ?_) fun w' => by rw [run_sliceAt_slice _ _ _ _ _ _ hu', run_slice_all _ _ _ _ _ hu', hel, hs]; rfl
              have := key 0 n (by omega) (Nat.le_refl _)
              simpa using this
            · rename_i kh hh
              obtain ⟨Y, rfl, hY⟩ := hhi _ rfl
              have := hY.int; subst this
              simp only [Option.some.injEq, Prod.mk.injEq] at h
              obtain ⟨rfl, rfl⟩ := h
              have h1 : 0 ≤ hh := hob _ (by simp)
              have h2 : hh ≤ n := hob _ (by simp)
              refine .const (u := sliced B 0 hh.toNat cap sz') (.d ?_) fun w' => by rw [run_sliceAt_slice _ _ _ _ _ _ hu', run_slice_h _ _ _ _ _ hu' _ _ h1 (by omega), hel, hs]; rfl
              have := key 0 hh.toNat (by omega) (by omega)
              simpa using this
            · cases h
          · rename_i kl ll
            obtain ⟨Y, rfl, hY⟩ := hlo _ rfl
            have := hY.int; subst this
            split at h
            · have := hhi' rfl; subst this
              simp only [Option.some.injEq, Prod.mk.injEq] at h
              obtain ⟨rfl, rfl⟩ := h
              have h1 : 0 ≤ ll := hob _ (by simp)
              have h2 : ll ≤ n := hob _ (by simp)
              exact .const (u := sliced B ll.toNat n cap sz') (.d (key _ _ (by omega) (Nat.le_refl _))) fun w' => by rw [run_sliceAt_slice _ _ _ _ _ _ hu', run_slice_l _ _ _ _ _ hu' _ _ h1 h2, hel, hs]; rfl
            · rename_i kh hh
              obtain ⟨Y', rfl, hY'⟩ := hhi _ rfl
              have := hY'.int; subst this
              simp only [Option.some.injEq, Prod.mk.injEq] at h
              obtain ⟨rfl, rfl⟩ := h
              have h1 : 0 ≤ ll := hob _ (by simp)
              have h2 : ll ≤ hh := hob _ (by simp)
              have h3 : hh ≤ n := hob _ (by simp)
              exact .const (u := sliced B ll.toNat hh.toNat cap sz') (.d (key _ _ (by omega) (by omega))) fun w' => by rw [run_sliceAt_slice _ _ _ _ _ _ hu', run_slice_lh _ _ _ _ _ hu' _ _ _ _ h1 h2 (by omega), hel, hs]; rfl
            · cases h
          · cases h
  · cases hx with | d hx => cases hx with
    | nils =>
    have key : sliced none 0 0 0 sz = .slice none 0 0 := by simp [sliced]
    have hR : Vc w F σ (.d .nils) (sliced none 0 0 0 sz) := by rw [key]; exact .d .nils
    split at h
    · have := hlo' rfl; subst this
      split at h
      · have := hhi' rfl; subst this
        simp only [Option.some.injEq, Prod.mk.injEq] at h
        obtain ⟨rfl, rfl⟩ := h
        exact .const (u := sliced none 0 0 0 sz) hR fun w' => by rw [run_sliceAt_slice _ _ _ _ _ _ hu', run_slice_all _ _ _ _ _ hu', hel, hs]; rfl
      · rename_i kh hh
        obtain ⟨Y, rfl, hY⟩ := hhi _ rfl
        have := hY.int; subst this
        simp only [Option.some.injEq, Prod.mk.injEq] at h
        obtain ⟨rfl, rfl⟩ := h
        have h1 : hh = 0 := hob _ (by simp)
        subst h1
        exact .const (u := sliced none 0 0 0 sz) hR fun w' => by rw [run_sliceAt_slice _ _ _ _ _ _ hu', run_slice_h _ _ _ _ _ hu' _ _ (by omega) (by omega), hel, hs]; rfl
      · cases h
    · rename_i kl ll
      obtain ⟨Y, rfl, hY⟩ := hlo _ rfl
      have := hY.int; subst this
      split at h
      · have := hhi' rfl; subst this
        simp only [Option.some.injEq, Prod.mk.injEq] at h
        obtain ⟨rfl, rfl⟩ := h
        have h1 : ll = 0 := hob _ (by simp)
        subst h1
        exact .const (u := sliced none 0 0 0 sz) hR fun w' => by rw [run_sliceAt_slice _ _ _ _ _ _ hu', run_slice_l _ _ _ _ _ hu' _ _ (by omega) (by omega), hel, hs]; rfl
      · rename_i kh hh
        obtain ⟨Y', rfl, hY'⟩ := hhi _ rfl
        have := hY'.int; subst this
        simp only [Option.some.injEq, Prod.mk.injEq] at h
        obtain ⟨rfl, rfl⟩ := h
        have h1 : ll = 0 := hob _ (by simp)
        have h2 : hh = 0 := hob _ (by simp)
        subst h1; subst h2
        exact .const (u := sliced none 0 0 0 sz) hR fun w' => by rw [run_sliceAt_slice _ _ _ _ _ _ hu', run_slice_lh _ _ _ _ _ hu' _ _ _ _ (by omega) (by omega) (by omega), hel, hs]; rfl
      · cases h
    · cases h
  · rename_i r g off n
    split at h <;> try (cases h; done)
    rename_i e' sz' g' n' f' hB
    cases hz : Nat.beq sz' sz with
    | false => rw [hz] at h; cases h
    | true =>
      rw [hz] at h
      simp only [cond_true] at h
      have hz' := Nat.eq_of_beq_eq_true hz
      subst hz'
      obtain ⟨pl, hr, hok, _, hat⟩ := osl_row hm hx (Mem.get_at hB)
      have hpsz : pl.sz = sz' := hok.2.1
      have key : g' = g → ∃ B cap, X = .slice B n cap ∧ n ≤ cap ∧ ∀ (l k : Nat), l ≤ k → k ≤ n → Vc w F σ (.osl r g (off + l) (k - l)) (sliced B l k cap sz') := by
        intro hg
        subst hg
        have hsl := hat hok.1
        unfold SlAt at hsl
        split at hsl
        · rename_i hl
          obtain ⟨rfl, rfl, rfl⟩ := hsl
          refine ⟨none, 0, rfl, Nat.le_refl _, fun l k h1 h2 => ?_⟩
          have : l = 0 := by omega
          subst this
          have : k = 0 := by omega
          subst this
          refine .osl hr fun pl' e => ?_
          injection e with e
          subst e
          refine ⟨by rw [hok.1]; exact Nat.le_refl _, fun _ => ?_⟩
          unfold SlAt
          rw [hl]
          exact ⟨rfl, rfl, by simp [sliced]⟩
        · rename_i b tot hl
          obtain ⟨B, cap, rfl, hnc, hoc, hA⟩ := hsl
          refine ⟨B, cap, rfl, hnc, fun l k h1 h2 => ?_⟩
          refine .osl hr fun pl' e => ?_
          injection e with e
          subst e
          refine ⟨by rw [hok.1]; exact Nat.le_refl _, fun _ => ?_⟩
          unfold SlAt
          rw [hl]
          refine ⟨_, cap - l, rfl, by omega, by omega, fun h3 => ?_⟩
          by_cases hcl : cap = l
          · rw [if_pos hcl]
            have h0 : off + l = 0 := by omega
            have hoff : off = 0 := by omega
            have hll : l = 0 := by omega
            subst hoff; subst hll
            exact hA (.inr rfl)
          · rw [if_neg hcl, hA (.inl (by omega)), Option.map_some, add_at, hpsz, ← Nat.add_mul]
      have hg : g' = g := by
        split at h <;> (try (cases h; done)) <;> split at h <;> (try (cases h; done)) <;> (simp only [Option.some.injEq, Prod.mk.injEq] at h; obtain ⟨rfl, rfl⟩ := h; exact hob _ (by simp))
      obtain ⟨B, cap, rfl, hnc, key⟩ := key hg
      split at h
      · have := hlo' rfl; subst this
        split at h
        · have := hhi' rfl; subst this
          simp only [Option.some.injEq, Prod.mk.injEq] at h
          obtain ⟨rfl, rfl⟩ := h
          refine .const (u := sliced B 0 n cap sz') ?_ fun w' => by rw [run_sliceAt_slice _ _ _ _ _ _ hu', run_slice_all _ _ _ _ _ hu', hel, hs]; rfl
          simpa using key 0 n (by omega) (Nat.le_refl _)
        · rename_i kh hh
          obtain ⟨Y, rfl, hY⟩ := hhi _ rfl
          have := hY.int; subst this
          simp only [Option.some.injEq, Prod.mk.injEq] at h
          obtain ⟨rfl, rfl⟩ := h
          have h1 : 0 ≤ hh := hob _ (by simp)
          have h2 : hh ≤ n := hob _ (by simp)
          refine .const (u := sliced B 0 hh.toNat cap sz') ?_ fun w' => by rw [run_sliceAt_slice _ _ _ _ _ _ hu', run_slice_h _ _ _ _ _ hu' _ _ h1 (by omega), hel, hs]; rfl
          simpa using key 0 hh.toNat (by omega) (by omega)
        · cases h
      · rename_i kl ll
        obtain ⟨Y, rfl, hY⟩ := hlo _ rfl
        have := hY.int; subst this
        split at h
        · have := hhi' rfl; subst this
          simp only [Option.some.injEq, Prod.mk.injEq] at h
          obtain ⟨rfl, rfl⟩ := h
          have h1 : 0 ≤ ll := hob _ (by simp)
          have h2 : ll ≤ n := hob _ (by simp)
          exact .const (u := sliced B ll.toNat n cap sz') (key _ _ (by omega) (Nat.le_refl _)) fun w' => by rw [run_sliceAt_slice _ _ _ _ _ _ hu', run_slice_l _ _ _ _ _ hu' _ _ h1 h2, hel, hs]; rfl
        · rename_i kh hh
          obtain ⟨Y', rfl, hY'⟩ := hhi _ rfl
          have := hY'.int; subst this
          simp only [Option.some.injEq, Prod.mk.injEq] at h
          obtain ⟨rfl, rfl⟩ := h
          have h1 : 0 ≤ ll := hob _ (by simp)
          have h2 : ll ≤ hh := hob _ (by simp)
          have h3 : hh ≤ n := hob _ (by simp)
          exact .const (u := sliced B ll.toNat hh.toNat cap sz') (key _ _ (by omega) (by omega)) fun w' => by rw [run_sliceAt_slice _ _ _ _ _ _ hu', run_slice_lh _ _ _ _ _ hu' _ _ _ _ h1 h2 (by omega), hel, hs]; rfl
        · cases h
      · cases h
end sound
end Go.Ab
