/-
  The engine, part H: the reading operations are right.
-/
import Derived.Test.YteamiepijajjdaaDoorEngG
namespace Go.Ab
set_option linter.unusedSimpArgs false
set_option linter.unusedVariables false
section sound
variable {P : Program} {T : Tab} {w : World} {F : Nat → Prop} {σ : Pls} {m : Mem}

theorem evMove_ok {x : AV} {X : Value} {A : AV} {obs : List Prop} (hx : Vc w F σ x X) (h : evMove x = some (A, obs)) (hob : ∀ p ∈ obs, p) : Vc w F σ A X := by
  simp only [evMove, Option.some.injEq] at h
  have := strip_ok hx (by rw [h]; exact hob)
  rw [h] at this
  exact this
theorem evNot_ok {x : AV} {X : Value} {A : AV} {obs : List Prop} (hx : Vc w F σ x X) (h : evNot x = some (A, obs)) : ReadsAs P F σ w (Op.unary .not X) A := by
  unfold evNot at h
  split at h <;> try (cases h; done)
  simp only [Option.some.injEq, Prod.mk.injEq] at h
  obtain ⟨rfl, _⟩ := h
  have := hx.bool
  subst this
  exact .const (.d .bool) fun w' => by simp [Op.unary]
theorem evNeg_ok {x : AV} {X : Value} {A : AV} {obs : List Prop} (hx : Vc w F σ x X) (h : evNeg x = some (A, obs)) (hob : ∀ p ∈ obs, p) : ReadsAs P F σ w (Op.unary .neg X) A := by
  unfold evNeg at h
  split at h <;> try (cases h; done)
  simp only [Option.some.injEq, Prod.mk.injEq] at h
  obtain ⟨rfl, rfl⟩ := h
  have := hx.int
  subst this
  rename_i k a
  have hi : In k (0 - a) := hob _ (by simp)
  exact .const (.d .int) fun w' => by
    have := hi.wrap
    simp only [Op.unary, Op.intArith, Sem.run_pure, this]
theorem evExtract_ok {x : AV} {X : Value} {k : Nat} {A : AV} {obs : List Prop} (hx : Vc w F σ x X) (h : evExtract k x = some (A, obs)) : ReadsAs P F σ w (Instr.extract X k) A := by
  unfold evExtract at h
  split at h <;> try (cases h; done)
  split at h <;> try (cases h; done)
  rename_i v hv
  simp only [Option.some.injEq, Prod.mk.injEq] at h
  obtain ⟨rfl, _⟩ := h
  rw [alook_eq] at hv
  cases hx with
  | @tup _ us hl hh =>
    have hlt := (List.getElem?_eq_some_iff.1 hv).1
    have hu : us[k]? = some (us[k]'(by omega)) := List.getElem?_eq_getElem (by omega)
    exact .const (hh k v _ hv hu) fun w' => by simp [Instr.extract, hu]
theorem concrete_of {t : TypeId} {ti : TI} (h : tiIs P t ti = true) (h1 : ti.k ≠ .ifc) (h2 : ti.k ≠ .other) : P.concrete t = true := by
  have hk := tiIs_kind h
  unfold Program.concrete
  cases e : ti.k <;> rw [e] at hk <;> first | exact absurd e h1 | exact absurd e h2 | (simp only [kindIs] at hk; split at hk <;> simp_all)
theorem evIfc_ok (hT : TabOk P T) {x : AV} {X : Value} {t : TypeId} {A : AV} {obs : List Prop} (hx : Vc w F σ x X) (h : evIfc T t x = some (A, obs)) : ReadsAs P F σ w (Instr.makeInterface t X) A := by
  unfold evIfc at h
  split at h <;> try (cases h; done)
  rename_i ti hti
  have key : ti.k ≠ .ifc → ti.k ≠ .other → ∀ w' : World, (Instr.makeInterface t X).run P w' = .ok (.iface t X) w' := fun h1 h2 w' => run_makeInterface w' t X (concrete_of (hT t ti hti) h1 h2)
  split at h <;> try (cases h; done)
  rename_i h1 h2
  split at h
  · simp only [Option.some.injEq, Prod.mk.injEq] at h
    obtain ⟨rfl, _⟩ := h
    cases hx with | d hx => exact .const (.d (.ifc hx)) (key h1 h2)
  · simp only [Option.some.injEq, Prod.mk.injEq] at h
    obtain ⟨rfl, _⟩ := h
    exact .const (.ifc hx) (key h1 h2)
theorem evConv_ok (hT : TabOk P T) {x : AV} {X : Value} {s d : TypeId} {A : AV} {obs : List Prop} (hx : Vc w F σ x X) (h : evConv T s d x = some (A, obs)) (hob : ∀ p ∈ obs, p) : ReadsAs P F σ w (convert s d X) A := by
  unfold evConv at h
  split at h <;> try (cases h; done)
  rename_i k0 n
  split at h <;> try (cases h; done)
  rename_i ti hti
  split at h <;> try (cases h; done)
  rename_i ks hks
  split at h <;> try (cases h; done)
  rename_i tj htj
  split at h <;> try (cases h; done)
  rename_i kd hkd
  simp only [Option.some.injEq, Prod.mk.injEq] at h
  obtain ⟨rfl, rfl⟩ := h
  have := hx.int
  subst this
  have hi : In kd n := hob _ (by simp)
  have h1 := tiIs_kind (hT _ _ hti)
  rw [hks] at h1
  have h2 := tiIs_kind (hT _ _ htj)
  rw [hkd] at h2
  exact .const (.d .int) fun w' => by simp [convert, run_underlying (kindIs_int h1), run_underlying (kindIs_int h2), Conv.intToInt, hi.wrap]
theorem evMinMax_ok {x y : AV} {X Y : Value} {mx : Bool} {at_ : Array TypeId} {ty : TypeId} {A : AV} {obs : List Prop} (hx : Vc w F σ x X) (hy : Vc w F σ y Y) (h : evMinMax mx x y = some (A, obs)) :
    ReadsAs P F σ w (bif mx then Builtin.max_ at_ ty #[X, Y] else Builtin.min_ at_ ty #[X, Y]) A := by
  unfold evMinMax at h
  split at h <;> try (cases h; done)
  rename_i k a k' b
  cases hk : decide (k = k') with
  | false => rw [hk] at h; cases h
  | true =>
    rw [hk] at h
    simp only [cond_true, Option.some.injEq, Prod.mk.injEq] at h
    obtain ⟨rfl, _⟩ := h
    have := hx.int; subst this
    have := hy.int; subst this
    cases mx with
    | true =>
      refine .const (.d .int) fun w' => ?_
      have e : max a b = if b > a then b else a := by rw [Int.max_def]; split <;> split <;> omega
      simp [Builtin.max_, Builtin.max2, e]
    | false =>
      refine .const (.d .int) fun w' => ?_
      have e : min a b = if b < a then b else a := by rw [Int.min_def]; split <;> split <;> omega
      simp [Builtin.min_, Builtin.min2, e]
theorem evIndex_ok (hT : TabOk P T) {x y : AV} {X Y : Value} {t : TypeId} {A : AV} {obs : List Prop} (hx : Vc w F σ x X) (hy : Vc w F σ y Y) (h : evIndex T t x y = some (A, obs)) (hob : ∀ p ∈ obs, p) : ReadsAs P F σ w (Instr.index t X Y) A := by
  unfold evIndex at h
  split at h <;> try (cases h; done)
  rename_i n e he
  obtain ⟨hu, hs, _⟩ := arrOf_ok hT he
  split at h <;> try (cases h; done)
  rename_i te hte
  cases hagg : te.k.agg with
  | true => rw [hagg] at h; cases h
  | false =>
    rw [hagg] at h
    simp only [cond_false] at h
    split at h <;> try (cases h; done)
    rename_i cs
    split at h <;> try (cases h; done)
    rename_i k i
    simp only [Option.some.injEq, Prod.mk.injEq] at h
    obtain ⟨rfl, rfl⟩ := h
    have h0 : 0 ≤ i := hob _ (by simp)
    have h1 : i < (n : Int) := hob (i < (n : Int)) (by simp)
    have h2 : cs.length = n := hob (cs.length = n) (by simp)
    have := hy.int
    subst this
    cases hx with | d hx => cases hx with | @agg _ us hl hrd =>
    have hi : i.toNat < us.length := by omega
    have hv : us[i.toNat]? = some (us[i.toNat]'hi) := List.getElem?_eq_getElem hi
    have hd : cs[i.toNat]? = some (cs.getD i.toNat .nilp) := by
      rw [List.getD_eq_getElem?_getD, List.getElem?_eq_getElem (by omega)]
      rfl
    refine .const (.d (hrd _ _ _ hd hv)) fun w' => ?_
    simp [Instr.index, asIntOf, run_underlying hu, h0, h1, hs, part, run_isAgg (hT _ _ hte), hagg, hv]
theorem evField_ok (hT : TabOk P T) {x : AV} {X : Value} {t : TypeId} {k : Nat} {A : AV} {obs : List Prop} (hx : Vc w F σ x X) (h : evField T t k x = some (A, obs)) : ReadsAs P F σ w (Instr.field t X k) A := by
  unfold evField at h
  split at h <;> try (cases h; done)
  rename_i o u hf
  obtain ⟨fs, f, hu, hfk, ho, hft, _⟩ := fieldOf_ok hT hf
  split at h <;> try (cases h; done)
  rename_i ti hti
  have ht := hT _ _ hti
  have key : ∀ (us : List Value), (∀ w', ∃ s, (Instr.field t (.agg us.toArray) k).run P w' = s.run P w' ∧ s = part u us.toArray o) := fun us w' => ⟨_, by simp [Instr.field, run_underlying hu, hfk, asAgg, ho, hft], rfl⟩
  have kagg : ∀ (us : List Value) w', ti.k.agg = true → (Instr.field t (.agg us.toArray) k).run P w' = .ok (.agg ((us.drop o).take ti.size).toArray) w' := fun us w' hagg => by
    obtain ⟨s, h1, rfl⟩ := key us w'
    rw [h1]
    simp [part, run_isAgg ht, hagg, run_sizeOf ht, List.extract_eq_take_drop]
  have kone : ∀ (us : List Value) w' v, ti.k.agg = false → us[o]? = some v → (Instr.field t (.agg us.toArray) k).run P w' = .ok v w' := fun us w' v hagg hv => by
    obtain ⟨s, h1, rfl⟩ := key us w'
    rw [h1]
    simp [part, run_isAgg ht, hagg, hv]
  split at h <;> try (cases h; done)
  · rename_i cs
    cases hx with | d hx => cases hx with | @agg _ us hl hrd =>
    cases hagg : ti.k.agg with
    | true =>
      rw [hagg] at h
      simp only [cond_true] at h
      split at h <;> try (cases h; done)
      rename_i l hcut
      simp only [Option.some.injEq, Prod.mk.injEq] at h
      obtain ⟨rfl, _⟩ := h
      obtain ⟨h1, h2⟩ := dcut_eq hcut
      refine .const (.d (.agg (us := (us.drop o).take ti.size) ?_ fun j x u hx hu => ?_)) fun w' => kagg us w' hagg
      · rw [h1]; simp
        rcases Nat.eq_zero_or_pos ti.size with h0 | h0
        · omega
        · have := (h2 (ti.size - 1) (by omega)).2; omega
      · rw [List.getElem?_take] at hu
        split at hu
        · rename_i hj
          exact hrd (o + j) x u (by rw [← (h2 j hj).1]; exact hx) (by simpa [List.getElem?_drop] using hu)
        · cases hu
    | false =>
      rw [hagg] at h
      simp only [cond_false] at h
      split at h <;> try (cases h; done)
      rename_i x hlk
      simp only [Option.some.injEq, Prod.mk.injEq] at h
      obtain ⟨rfl, _⟩ := h
      rw [dlook_eq] at hlk
      have hlt := (List.getElem?_eq_some_iff.1 hlk).1
      have hu' : us[o]? = some (us[o]'(by omega)) := List.getElem?_eq_getElem (by omega)
      exact .const (.d (hrd o x _ hlk hu')) fun w' => kone us w' _ hagg hu'
  · rename_i cs
    cases hx with | @agg _ us hl hrd =>
    cases hagg : ti.k.agg with
    | true =>
      rw [hagg] at h
      simp only [cond_true] at h
      split at h <;> try (cases h; done)
      rename_i l hcut
      simp only [Option.some.injEq, Prod.mk.injEq] at h
      obtain ⟨rfl, _⟩ := h
      obtain ⟨h1, h2⟩ := acut_eq hcut
      refine .const (.agg (us := (us.drop o).take ti.size) ?_ fun j x u hx hu => ?_) fun w' => kagg us w' hagg
      · rw [h1]; simp
        rcases Nat.eq_zero_or_pos ti.size with h0 | h0
        · omega
        · have := (h2 (ti.size - 1) (by omega)).2; omega
      · rw [List.getElem?_take] at hu
        split at hu
        · rename_i hj
          exact hrd (o + j) x u (by rw [← (h2 j hj).1]; exact hx) (by simpa [List.getElem?_drop] using hu)
        · cases hu
    | false =>
      rw [hagg] at h
      simp only [cond_false] at h
      split at h <;> try (cases h; done)
      rename_i x hlk
      simp only [Option.some.injEq, Prod.mk.injEq] at h
      obtain ⟨rfl, _⟩ := h
      rw [alook_eq] at hlk
      have hlt := (List.getElem?_eq_some_iff.1 hlk).1
      have hu' : us[o]? = some (us[o]'(by omega)) := List.getElem?_eq_getElem (by omega)
      exact .const (hrd o x _ hlk hu') fun w' => kone us w' _ hagg hu'

theorem evRead_ok (hT : TabOk P T) (hm : MemOk m σ F w) {env : Env} {a : Act} (he : EnvOk env w F σ a.tmps) {o : Oper} {A : AV} {obs : List Prop}
    (h : evRead T env m o.op = some (A, obs)) (hob : ∀ p ∈ obs, p) : ReadsOp P F σ w a.eval o A := by
  have st : ∀ x, (∀ p ∈ (strip (ev env x)).2, p) → Vc w F σ (strip (ev env x)).1 (a.eval x) := fun x hx => strip_ok (ev_ok he x) hx
  unfold evRead at h
  split at h <;> try (cases h; done)
  · rename_i x hop
    exact ⟨a.eval x, evMove_ok (ev_ok he x) h hob, fun w' _ => by simp [execOp, hop]⟩
  · rename_i x hop
    exact ⟨a.eval x, evMove_ok (ev_ok he x) h hob, fun w' _ => by simp [execOp, hop]⟩
  · rename_i c x y hop
    exact (evPick_ok (ev_ok he c) (ev_ok he x) (ev_ok he y) h hob).op (by simp [execOp, hop])
  · rename_i op t x y ty hop
    obtain ⟨h1, o1, h, hob⟩ := un_ok h hob
    obtain ⟨h2, o2, h, hob⟩ := un_ok h hob
    split at h
    · rename_i r hr
      injection h with h
      subst h
      exact (evBin_ok (t := t) (x := x) (y := y) (st x h1) (st y h2) hr hob).op (by simp [execOp, hop])
    · split at h
      · rename_i r hr
        injection h with h
        subst h
        exact (evEq_ok hT (t := t) (p := x) (q := y) (st x h1) (st y h2) hr).op (by simp [execOp, hop])
      · exact (evNilEq_ok hT (t := t) (p := x) (q := y) (Y := a.eval y) (st x h1) (fun v e => by rw [e]; rfl) h).op (by simp [execOp, hop])
  · rename_i t x hop
    obtain ⟨h1, o1, h, hob⟩ := un_ok h hob
    exact (evNot_ok (st x h1) h).op (by simp [execOp, hop])
  · rename_i t x hop
    obtain ⟨h1, o1, h, hob⟩ := un_ok h hob
    exact (evNeg_ok (st x h1) h hob).op (by simp [execOp, hop])
  · rename_i t x hop
    obtain ⟨h1, o1, h, hob⟩ := un_ok h hob
    exact (evLoad_ok hT hm (st x h1) h hob).op (by simp [execOp, hop])
  · rename_i t x k hop
    obtain ⟨h1, o1, h, hob⟩ := un_ok h hob
    exact (evFieldAddr_ok hT (st x h1) hm h hob).op (by simp [execOp, hop])
  · rename_i t x i hop
    obtain ⟨h1, o1, h, hob⟩ := un_ok h hob
    obtain ⟨h2, o2, h, hob⟩ := un_ok h hob
    exact (evIndexAddr_ok hT hm (st x h1) (st i h2) h hob).op (by simp [execOp, hop])
  · rename_i t x k hop
    obtain ⟨h1, o1, h, hob⟩ := un_ok h hob
    exact (evField_ok hT (st x h1) h).op (by simp [execOp, hop])
  · rename_i t x i hop
    obtain ⟨h1, o1, h, hob⟩ := un_ok h hob
    obtain ⟨h2, o2, h, hob⟩ := un_ok h hob
    exact (evIndex_ok hT (st x h1) (st i h2) h hob).op (by simp [execOp, hop])
  · rename_i x k hop
    obtain ⟨h1, o1, h, hob⟩ := un_ok h hob
    exact (evExtract_ok (st x h1) h).op (by simp [execOp, hop])
  · rename_i t x hop
    obtain ⟨h1, o1, h, hob⟩ := un_ok h hob
    exact (evIfc_ok hT (st x h1) h).op (by simp [execOp, hop])
  · rename_i s d x hop
    obtain ⟨h1, o1, h, hob⟩ := un_ok h hob
    exact (evConv_ok hT (st x h1) h hob).op (by simp [execOp, hop])
  · rename_i f first cap hop
    obtain ⟨l1, v1⟩ := evAll_ok he first.toList
    obtain ⟨l2, v2⟩ := evAll_ok he cap.toList
    have hrun : ∀ w', (execOp a.eval o).run P w' = .ok (.value (.func f (first.toList.map a.eval).toArray (cap.toList.map a.eval).toArray)) w' := fun w' => by
      have e1 : first.map a.eval = (first.toList.map a.eval).toArray := by apply Array.ext'; simp
      have e2 : cap.map a.eval = (cap.toList.map a.eval).toArray := by apply Array.ext'; simp
      simp [execOp, hop, Instr.makeFunc, e1, e2]
    unfold evFn at h
    split at h
    · rename_i xs ys e1 e2
      simp only [Option.some.injEq, Prod.mk.injEq] at h
      obtain ⟨rfl, _⟩ := h
      have e1 := allD_eq e1
      have e2 := allD_eq e2
      rw [e1] at l1 v1
      rw [e2] at l2 v2
      have dv : ∀ {cs : List D} {us : List Value}, (∀ (j : Nat) A u, (up cs)[j]? = some A → us[j]? = some u → Vc w F σ A u) → ∀ (j : Nat) x u, cs[j]? = some x → us[j]? = some u → Rd w F x u := fun hh j x u hx hu => by
        have := hh j (.d x) u (by rw [up_eq, List.getElem?_map, hx]; rfl) hu
        cases this with | d h => exact h
      exact ⟨_, .d (.fn (by rw [l1, up_eq, List.length_map]) (by rw [l2, up_eq, List.length_map]) (dv v1) (dv v2)), fun w' _ => hrun w'⟩
    · simp only [Option.some.injEq, Prod.mk.injEq] at h
      obtain ⟨rfl, _⟩ := h
      exact ⟨_, .fn l1 l2 v1 v2, fun w' _ => hrun w'⟩
  · rename_i t parts hop
    split at h
    rename_i l0 p0 el
    split at h <;> try (cases h; done)
    rename_i A1 q1 hbs
    simp only [Option.some.injEq, Prod.mk.injEq] at h
    obtain ⟨rfl, rfl⟩ := h
    obtain ⟨hp1, hp2⟩ := all_cat hob
    obtain ⟨hk1, hk2⟩ := evParts_ok he parts.toList
    exact (evBuild_ok (a := a) (parts := parts) hT hm (hk1.trans (by have := stripParts_fst (evParts env parts.toList); rw [el] at this; exact this.symm)) (fun j B u hB hu => by
      obtain ⟨A0, e1, e2⟩ := stripParts_ok (evParts env parts.toList) (by rw [el]; exact hp1) j B (by rw [el]; exact hB)
      exact e2 _ (hk2 j A0 u e1 hu)) hbs hp2).op (by simp [execOp, hop])
  · rename_i t x lo hi hop
    obtain ⟨h1, o1, h, hob⟩ := un_ok h hob
    obtain ⟨h2, o2, h, hob⟩ := un?_ok h hob
    obtain ⟨h3, o3, h, hob⟩ := un?_ok h hob
    refine (evSlice_ok hT hm (LO := lo.map a.eval) (HI := hi.map a.eval) (st x h1) ?_ ?_ ?_ ?_ h hob).op (by simp [execOp, hop])
    · intro y hy
      cases lo with
      | none => simp at hy
      | some l => simp at hy; subst hy; exact ⟨_, rfl, st l (h2 _ rfl)⟩
    · intro hy; cases lo <;> simp at hy ⊢
    · intro y hy
      cases hi with
      | none => simp at hy
      | some l => simp at hy; subst hy; exact ⟨_, rfl, st l (h3 _ rfl)⟩
    · intro hy; cases hi <;> simp at hy ⊢
  · rename_i x hop
    obtain ⟨h1, o1, h, hob⟩ := un_ok h hob
    have hx := st x h1
    refine ⟨a.eval x, ?_⟩
    unfold evNil at h
    split at h <;> try (cases h; done)
    · rename_i e
      simp only [Option.some.injEq, Prod.mk.injEq] at h
      obtain ⟨rfl, _⟩ := h
      rw [e] at hx
      refine ⟨hx, fun w' _ => ?_⟩
      cases hx with | d hx =>
      generalize hX : a.eval x = X at hx
      cases hx
      simp [execOp, hop, hX]
    · rename_i e
      simp only [Option.some.injEq, Prod.mk.injEq] at h
      obtain ⟨rfl, _⟩ := h
      rw [e] at hx
      refine ⟨hx, fun w' _ => ?_⟩
      cases hx with | d hx =>
      generalize hX : a.eval x = X at hx
      cases hx
      simp [execOp, hop, hX]
    · rename_i e
      split at h <;> try (cases h; done)
      rename_i l hl
      simp only [Option.some.injEq, Prod.mk.injEq] at h
      obtain ⟨rfl, rfl⟩ := h
      rw [e] at hx
      obtain ⟨pl, b, tot, _, _, _, hX⟩ := liveAt_ok hm hx hl hob
      exact ⟨hx, fun w' _ => by simp [execOp, hop, hX]⟩
  · rename_i t x k ok hop
    obtain ⟨h1, o1, h, hob⟩ := un_ok h hob
    obtain ⟨h2, o2, h, hob⟩ := un_ok h hob
    exact (evLookup_ok hT hm (st x h1) (st k h2) h hob).op (by simp [execOp, hop])
  · rename_i args argTypes hop
    split at h <;> try (cases h; done)
    rename_i x ea
    split at h <;> try (cases h; done)
    rename_i t et
    obtain ⟨h1, o1, h, hob⟩ := un_ok h hob
    have ea : args = #[x] := by apply Array.ext'; simpa using ea
    have et : argTypes = #[t] := by apply Array.ext'; simpa using et
    subst ea; subst et
    exact (evLenOwn_ok (ty := o.type) hT hm (st x h1) h hob).op (by simp [execOp, hop, resolve, invoke, builtin])
  · rename_i args argTypes hop
    split at h <;> try (cases h; done)
    rename_i x ea
    split at h <;> try (cases h; done)
    rename_i t et
    obtain ⟨h1, o1, h, hob⟩ := un_ok h hob
    have ea : args = #[x] := by apply Array.ext'; simpa using ea
    have et : argTypes = #[t] := by apply Array.ext'; simpa using et
    subst ea; subst et
    refine ReadsAs.op (s := Builtin.cap_ #[t] o.type #[a.eval x]) ?_ (by simp [execOp, hop, resolve, invoke, builtin])
    have hx := st x h1
    unfold evCap at h
    split at h <;> try (cases h; done)
    rename_i es he
    obtain ⟨hu, _, _⟩ := elemOf_ok hT (e := es.1) (sz := es.2) he
    split at h <;> try (cases h; done)
    rename_i e
    simp only [Option.some.injEq, Prod.mk.injEq] at h
    obtain ⟨rfl, rfl⟩ := h
    rw [e] at hx
    generalize a.eval x = X at hx
    cases hx with | d hx => cases hx with
    | nils => exact .const (u := .int .i64 0) (.d .int) fun w' => by simp [Builtin.cap_, run_underlying hu, goInt]
  · rename_i args argTypes hop
    split at h <;> try (cases h; done)
    rename_i x y ea
    obtain ⟨h1, o1, h, hob⟩ := un_ok h hob
    obtain ⟨h2, o2, h, hob⟩ := un_ok h hob
    have ea : args = #[x, y] := by apply Array.ext'; simpa using ea
    subst ea
    exact (evMinMax_ok (mx := true) (at_ := argTypes) (ty := o.type) (st x h1) (st y h2) h).op (by simp [execOp, hop, resolve, invoke, builtin])
  · rename_i args argTypes hop
    split at h <;> try (cases h; done)
    rename_i x y ea
    obtain ⟨h1, o1, h, hob⟩ := un_ok h hob
    obtain ⟨h2, o2, h, hob⟩ := un_ok h hob
    have ea : args = #[x, y] := by apply Array.ext'; simpa using ea
    subst ea
    exact (evMinMax_ok (mx := false) (at_ := argTypes) (ty := o.type) (st x h1) (st y h2) h).op (by simp [execOp, hop, resolve, invoke, builtin])
end sound
end Go.Ab
