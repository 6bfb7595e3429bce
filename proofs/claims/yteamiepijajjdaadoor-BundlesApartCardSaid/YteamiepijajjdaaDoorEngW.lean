/-
  The engine, part W: maps: what is read.
-/
import Derived.Test.YteamiepijajjdaaDoorEngF
import Derived.MapKept
namespace Go.Ab
set_option linter.unusedSimpArgs false
set_option linter.unusedVariables false

/-- A datum that may be said for another: one cell. -/
def DEq0 : D → D → Prop
  | .sl sz n f, x => match x with
    | .sl sz' n' f' => sz = sz' ∧ n = n' ∧ ∀ i, i < n' → f i = f' i
    | _ => False
  | .nils, x => match x with
    | .sl _ n _ => n = 0
    | .nils => True
    | _ => False
  | y, x => y = x
/-- A zero value may be said to be this. -/
def ZAll : List D → List D → Prop
  | [], [] => True
  | z :: r, x :: s => DEq0 z x ∧ ZAll r s
  | _, _ => False
/-- A datum that may be said for another. -/
def DEq : D → D → Prop
  | .agg ys, x => match x with
    | .agg xs => ys = xs ∨ ZAll ys xs
    | _ => False
  | y, x => DEq0 y x
def ZAllV : List D → List AV → Prop
  | [], [] => True
  | z :: r, A :: s => (match A with
    | .d x => DEq0 z x
    | _ => False) ∧ ZAllV r s
  | _, _ => False
def ZFit (ti : TI) (A : AV) : Prop :=
  match A with
  | .d x => match ti.k.agg with
    | true => match x with
      | .agg xs => ZAll ti.zero xs
      | _ => False
    | false => match ti.zero with
      | [z] => DEq0 z x
      | _ => False
  | .agg cs => ti.k.agg = true ∧ ZAllV ti.zero cs
  | _ => False
/-- A type of maps: what its keys are made of, its elements' row. -/
def mapOf (T : Tab) (t : TypeId) : Option (Ksh × TI) :=
  match T.at t with
  | some ti => match ti.k with
    | .map kt et => match T.at kt with
      | some tk => match tk.k with
        | .int k => match T.at et with
          | some te => some (.one k, te)
          | none => none
        | _ => none
      | none => none
    | _ => none
  | none => none
def keyOf (sh : Ksh) (A : AV) : Option (List Int) :=
  match sh with
  | .one k => match A with
    | .d (.int k' n) => bif decide (k' = k) then some [n] else none
    | _ => none
  | .many _ => none
def eqSh : Ksh → Ksh → Bool
  | .one k, .one k' => decide (k = k')
  | _, _ => false
def evLookup (T : Tab) (m : Mem) (t : TypeId) (ok : Bool) (A K : AV) : Option (AV × List Prop) :=
  match mapOf T t with
  | none => none
  | some (sh, te) => match A with
    | .mp r => match m.get r with
      | some (.map sh' has val) => match keyOf sh K with
        | some k => bif eqSh sh sh' then some (bif ok then .tup [val k, .d (.bool (has k))] else val k, [has k = false → ZFit te (val k)]) else none
        | none => none
      | _ => none
    | .d x => match x with
      | .mapd sh' has val => match keyOf sh K with
        | some k => bif eqSh sh sh' then some (bif ok then .tup [.d (val k), .d (.bool (has k))] else .d (val k), [has k = false → ZFit te (.d (val k))]) else none
        | none => none
      | _ => none
    | _ => none

section
variable {P : Program} {T : Tab} {w : World} {F : Nat → Prop} {σ : Pls} {m : Mem}
theorem DEq0.ok {y x : D} {v : Value} (h : Rd w F y v) (e : DEq0 y x) : Rd w F x v := by
  unfold DEq0 at e
  split at e
  · split at e
    · obtain ⟨rfl, rfl, hf⟩ := e
      cases h with
      | sl a g h1 h2 h3 h4 h5 => exact .sl a g h1 h2 (fun i hi => by rw [← hf i hi]; exact h3 i hi) h4 (fun i j x hi hx => h5 i j x hi (by rw [hf i hi]; exact hx))
    · exact e.elim
  · split at e
    · subst e
      cases h
      exact .sl ⟨0, 0, none⟩ (fun _ _ => undef) (Nat.le_refl _) (fun h => absurd h (by omega)) (fun i hi => absurd hi (by omega)) (fun i j hi => absurd hi (by omega)) (fun i j x hi => absurd hi (by omega))
    · exact h
    · exact e.elim
  · subst e; exact h
theorem ZAll.ok : ∀ {zs xs : List D} {us : List Value}, ZAll zs xs → us.length = zs.length → (∀ (j : Nat) z u, zs[j]? = some z → us[j]? = some u → Rd w F z u) →
    us.length = xs.length ∧ ∀ (j : Nat) x u, xs[j]? = some x → us[j]? = some u → Rd w F x u
  | [], [], us, _, hl, _ => ⟨hl, fun j x u h => by simp at h⟩
  | z :: r, x :: s, u0 :: us, h, hl, hr => by
    obtain ⟨h1, h2⟩ := ZAll.ok (us := us) h.2 (by simpa using hl) (fun j z u hz hu => hr (j + 1) z u (by simpa using hz) (by simpa using hu))
    refine ⟨by simp [h1], fun j y u hy hu => ?_⟩
    cases j with
    | zero => simp at hy hu; subst hy; subst hu; exact DEq0.ok (hr 0 z u0 rfl rfl) h.1
    | succ j => exact h2 j y u (by simpa using hy) (by simpa using hu)
  | z :: r, x :: s, [], h, hl, _ => by simp at hl
  | [], _ :: _, _, h, _, _ => h.elim
  | _ :: _, [], _, h, _, _ => h.elim
theorem DEq.ok {y x : D} {v : Value} (h : Rd w F y v) (e : DEq y x) : Rd w F x v := by
  unfold DEq at e
  split at e
  · split at e
    · rcases e with rfl | e
      · exact h
      · cases h with
        | agg hl h =>
          obtain ⟨g1, g2⟩ := ZAll.ok (w := w) (F := F) e hl h
          exact .agg g1 g2
    · exact e.elim
  · exact DEq0.ok h e
theorem ZAllV.ok : ∀ {zs : List D} {xs : List AV} {us : List Value}, ZAllV zs xs → us.length = zs.length → (∀ (j : Nat) z u, zs[j]? = some z → us[j]? = some u → Rd w F z u) →
    us.length = xs.length ∧ ∀ (j : Nat) x u, xs[j]? = some x → us[j]? = some u → Vc w F σ x u
  | [], [], us, _, hl, _ => ⟨hl, fun j x u h => by simp at h⟩
  | z :: r, x :: s, u0 :: us, h, hl, hr => by
    obtain ⟨h0, h⟩ := h
    obtain ⟨h1, h2⟩ := ZAllV.ok (us := us) h (by simpa using hl) (fun j z u hz hu => hr (j + 1) z u (by simpa using hz) (by simpa using hu))
    refine ⟨by simp [h1], fun j y u hy hu => ?_⟩
    cases j with
    | zero =>
      simp at hy hu; subst hy; subst hu
      split at h0
      · exact .d (DEq0.ok (hr 0 z u0 rfl rfl) h0)
      · exact h0.elim
    | succ j => exact h2 j y u (by simpa using hy) (by simpa using hu)
  | z :: r, x :: s, [], h, hl, _ => by simp at hl
  | [], _ :: _, _, h, _, _ => h.elim
  | _ :: _, [], _, h, _, _ => h.elim
theorem ZFit.ok {t : TypeId} {ti : TI} (ht : tiIs P t ti = true) {A : AV} (h : ZFit ti A) (w' : World) : ∃ z, (zeroValue t).run P w' = .ok z w' ∧ Vc w F σ A z := by
  obtain ⟨z, hz, h1, h2⟩ := run_zeroValue ht w'
  have ha := tiIs_zagg ht w' hz
  obtain ⟨k1, k2⟩ := sameZs_sound (w := w) (F := F) h1
  refine ⟨z, hz, ?_⟩
  unfold ZFit at h
  split at h
  · rename_i x
    split at h
    · rename_i hagg
      rw [hagg] at ha
      cases z <;> simp [isAggV] at ha
      rename_i cs
      split at h
      · have hl : cs.toList.length = ti.zero.length := k1
        obtain ⟨g1, g2⟩ := ZAll.ok (w := w) (F := F) h hl (fun j z u hz hu => (k2 j z u hz hu).1)
        have := Rd.agg g1 g2
        rw [Array.toArray_toList] at this
        exact .d this
      · exact h.elim
    · rename_i hagg
      rw [hagg] at ha
      have hc : z.cells = #[z] := by cases z <;> first | rfl | (simp [isAggV] at ha)
      split at h
      · rename_i z0 e0
        rw [hc, e0] at k2
        exact .d (DEq0.ok (k2 0 z0 z rfl rfl).1 h)
      · exact h.elim
  · rename_i cs0
    obtain ⟨hagg, h⟩ := h
    rw [hagg] at ha
    cases z <;> simp [isAggV] at ha
    rename_i cs
    have hl : cs.toList.length = ti.zero.length := k1
    obtain ⟨g1, g2⟩ := ZAllV.ok (w := w) (F := F) (σ := σ) h hl (fun j z u hz hu => (k2 j z u hz hu).1)
    have := Vc.agg g1 g2
    rw [Array.toArray_toList] at this
    exact this
  · exact h.elim

/-- The keys' type is made so. -/
def ShIs (P : Program) (kt : TypeId) : Ksh → Prop
  | .one k => P.underlying kt = some (.int k)
  | .many _ => False
theorem mapOf_ok (hT : TabOk P T) {t : TypeId} {sh : Ksh} {te : TI} (h : mapOf T t = some (sh, te)) :
    ∃ kt et, P.underlying t = some (.map kt et) ∧ ShIs P kt sh ∧ tiIs P et te = true := by
  unfold mapOf at h
  split at h <;> try (cases h; done)
  rename_i ti hti
  split at h <;> try (cases h; done)
  rename_i kt et hk
  split at h <;> try (cases h; done)
  rename_i tk htk
  split at h <;> try (cases h; done)
  rename_i k hkk
  split at h <;> try (cases h; done)
  rename_i te' hte
  simp only [Option.some.injEq, Prod.mk.injEq] at h
  obtain ⟨rfl, rfl⟩ := h
  have h1 := tiIs_kind (hT _ _ hti)
  rw [hk] at h1
  have h2 := tiIs_kind (hT _ _ htk)
  rw [hkk] at h2
  exact ⟨kt, et, kindIs_map h1, kindIs_int h2, hT _ _ hte⟩
theorem keyOf_ok {sh : Ksh} {A : AV} {v : Value} {k : List Int} (h : keyOf sh A = some k) (hv : Vc w F σ A v) : sh.fits k ∧ v = sh.key k := by
  unfold keyOf at h
  split at h <;> try (cases h; done)
  split at h <;> try (cases h; done)
  rename_i k0 _ k' n
  cases hk : decide (k' = k0) with
  | false => rw [hk] at h; cases h
  | true =>
    rw [hk] at h
    simp only [cond_true, Option.some.injEq] at h
    subst h
    have := of_decide_eq_true hk
    subst this
    exact ⟨rfl, hv.int⟩
theorem eqSh_eq {a b : Ksh} (h : eqSh a b = true) : a = b := by
  cases a <;> cases b <;> simp [eqSh] at h
  rw [h]
def KeysAre (sh : Ksh) (ks : List (List Int)) (es : Array MapEntry) : Prop :=
  ks.length = es.size ∧ ∀ (i : Nat) k e, ks[i]? = some k → es[i]? = some e → sh.fits k ∧ e.key = sh.key k
theorem key_inj {sh : Ksh} {k k' : List Int} {kt : TypeId} (hs : ShIs P kt sh) (h : sh.fits k) (h' : sh.fits k') (e : sh.key k = sh.key k') : k = k' := by
  cases sh with
  | one i =>
    simp only [Ksh.fits] at h h'
    match k, k', h, h' with
    | [a], [b], _, _ => simpa [Ksh.key] using e
  | many => exact hs.elim
theorem run_check {kt : TypeId} {sh : Ksh} (hs : ShIs P kt sh) {k : List Int} (b : Bool) (w' : World) : (Instr.checkKey b 10000 kt (sh.key k)).run P w' = .ok () w' := by
  cases sh with
  | one i => exact MapKept.run_checkKey (d := .int i) hs (show MapKept.IsKey (.int i) ((Ksh.one i).key k) from rfl) b 9999
  | many => exact hs.elim
theorem run_stays {kt : TypeId} {sh : Ksh} (hs : ShIs P kt sh) {k : List Int} (w' : World) : (Instr.keyThatStays (sh.key k) (sh.key k)).run P w' = .ok (sh.key k) w' := by
  cases sh with
  | one i => exact MapKept.run_keyThatStays (d := .int i) (show MapKept.IsKey (.int i) ((Ksh.one i).key k) from rfl)
  | many => exact hs.elim
theorem run_find {kt : TypeId} {sh : Ksh} (hs : ShIs P kt sh) {ks : List (List Int)} {es : Array MapEntry} (hks : KeysAre sh ks es) {k : List Int} (hk : sh.fits k) :
    (k ∉ ks ∧ ∀ w', (Instr.findKey kt (sh.key k) es.toList).run P w' = .ok none w') ∨
    ∃ i e, es[i]? = some e ∧ ks[i]? = some k ∧ ∀ w', (Instr.findKey kt (sh.key k) es.toList).run P w' = .ok (some (i, e.val)) w' := by
  cases sh with
  | many => exact hs.elim
  | one i0 =>
    have hall : ∀ x ∈ es.toList, MapKept.IsKey (.int i0) x.key := fun x hx => by
      obtain ⟨i, hi, rfl⟩ := List.getElem_of_mem hx
      have hi' : i < ks.length := by rw [hks.1]; simpa using hi
      rw [(hks.2 i ks[i] es.toList[i] (List.getElem?_eq_getElem hi') (by rw [← Array.getElem?_toList]; exact List.getElem?_eq_getElem hi)).2]
      rfl
    rcases MapKept.findNow_spec (d := .int i0) (k := (Ksh.one i0).key k) rfl es.toList 0 hall with ⟨h1, h2⟩ | ⟨j, e, h1, h2, h3⟩
    · refine .inl ⟨fun hm => ?_, fun w' => MapKept.run_findKey hs h1⟩
      obtain ⟨i, hi, rfl⟩ := List.getElem_of_mem hm
      have hi' : i < es.size := by rw [← hks.1]; exact hi
      exact h2 es[i] (by simp) (hks.2 i ks[i] es[i] (List.getElem?_eq_getElem hi) (Array.getElem?_eq_getElem hi')).2
    · rw [Nat.zero_add] at h1
      rw [Array.getElem?_toList] at h2
      have hj : j < es.size := (Array.getElem?_eq_some_iff.1 h2).1
      have hj' : j < ks.length := by rw [hks.1]; exact hj
      obtain ⟨g1, g2⟩ := hks.2 j ks[j] e (List.getElem?_eq_getElem hj') h2
      exact .inr ⟨j, e, h2, by rw [List.getElem?_eq_getElem hj', key_inj (P := P) (kt := kt) hs g1 hk (g2.symm.trans h3)], fun w' => MapKept.run_findKey hs h1⟩
/-- What the memory of ours says of a map. -/
theorem map_row (hm : MemOk m σ F w) {r : Ref} {v : Value} (h : Vc w F σ (.mp r) v) {sh : Ksh} {has : List Int → Bool} {val : List Int → AV} (hB : m.at r = some (some (.map sh has val))) :
    ∃ pl b, σ r = some (some pl) ∧ pl.g = 0 ∧ pl.loc = some (b, 1) ∧ v = .map (some b) ∧ BlkOk w F σ (.map sh has val) pl := by
  cases h with
  | @mp _ _ q hr h =>
    cases q with
    | none => have := (hm.lv r _ hr).1 rfl; rw [hB] at this; cases this
    | some pl =>
      obtain ⟨B', hB', hok⟩ := (hm.lv r _ hr).2 pl rfl
      rw [hB] at hB'
      injection hB' with hB'
      injection hB' with hB'
      subst hB'
      have hok' := hok
      obtain ⟨h1, b, h2, _⟩ := hok
      obtain ⟨b', t, h3, h4⟩ := h pl rfl h1
      rw [h2] at h3
      obtain ⟨rfl, rfl⟩ := Prod.mk.inj (Option.some.inj h3)
      exact ⟨pl, b, hr, h1, h2, h4, hok'⟩
theorem evLookup_ok (hT : TabOk P T) (hm : MemOk m σ F w) {x y : AV} {X Y : Value} {t : TypeId} {ok : Bool} {A : AV} {obs : List Prop} (hx : Vc w F σ x X) (hy : Vc w F σ y Y)
    (h : evLookup T m t ok x y = some (A, obs)) (hob : ∀ p ∈ obs, p) : ReadsAs P F σ w (Instr.lookup t X Y ok) A := by
  unfold evLookup at h
  split at h <;> try (cases h; done)
  rename_i sh te hmt
  obtain ⟨kt, et, hu, hs, hte⟩ := mapOf_ok hT hmt
  split at h <;> try (cases h; done)
  rotate_left
  · split at h <;> try (cases h; done)
    rename_i sh' has val
    split at h <;> try (cases h; done)
    rename_i k hkey
    cases hsh : eqSh sh sh' with
    | false => rw [hsh] at h; cases h
    | true =>
      rw [hsh] at h
      simp only [cond_true, Option.some.injEq, Prod.mk.injEq] at h
      obtain ⟨rfl, rfl⟩ := h
      have := eqSh_eq hsh
      subst this
      have hz : has k = false → ZFit te (.d (val k)) := hob _ (by simp)
      obtain ⟨hfit, rfl⟩ := keyOf_ok hkey hy
      obtain ⟨b, rfl, es, clock, ks, hF, g1, g2, g3, g4, g5, g6⟩ : ∃ b, X = .map (some b) ∧ ∃ es clock, ∃ ks : List (List Int), F b ∧ w.heap[b]? = some (.map es clock) ∧ ks.length = es.size ∧ ks.Nodup ∧
          (∀ (i : Nat) k e, ks[i]? = some k → es[i]? = some e → sh.fits k ∧ e.key = sh.key k ∧ has k = true) ∧ (∀ k, sh.fits k → has k = true → k ∈ ks) ∧ (∀ (i : Nat) k e, ks[i]? = some k → es[i]? = some e → Rd w F (val k) e.val) := by
        cases hx with
        | d hx => cases hx with
          | mapd b es clock ks g1 g2 g3 g4 g5 g6 g7 => exact ⟨b, rfl, es, clock, ks, g1, g2, g3, g4, g5, g6, g7⟩
      have hks : KeysAre sh ks es := ⟨g2, fun i k e hi he => ⟨(g4 i k e hi he).1, (g4 i k e hi he).2.1⟩⟩
      have key : ∃ v, Vc w F σ (.d (val k)) v ∧ ∀ w', Agree F σ w w' → (Instr.lookup t (.map (some b)) (sh.key k) ok).run P w' = .ok (if ok then .tuple #[v, .bool (has k)] else v) w' := by
        have hobj : ∀ w', Agree F σ w w' → w'.heap[b]? = some (.map es clock) := fun w' ha => by rw [ha b (.inl hF)]; exact g1
        rcases run_find hs hks hfit with ⟨e1, e2⟩ | ⟨i, e, e1, e2, e3⟩
        · have hh : has k = false := by
            cases hh : has k with
            | false => rfl
            | true => exact absurd (g5 k hfit hh) e1
          obtain ⟨z, hz1, hz2⟩ := ZFit.ok (w := w) (F := F) (σ := σ) hte (hz hh) w
          refine ⟨z, hz2, fun w' ha => ?_⟩
          have hz' := run_zeroValue_any hte hz1 w'
          cases ok <;> simp [Instr.lookup, run_underlying hu, MapKept.run_getObj_map (hobj w' ha), run_check hs, e2, hz', hh]
        · obtain ⟨_, _, hh⟩ := g4 i k e e2 e1
          refine ⟨e.val, .d (g6 i k e e2 e1), fun w' ha => ?_⟩
          cases ok <;> simp [Instr.lookup, run_underlying hu, MapKept.run_getObj_map (hobj w' ha), run_check hs, e3, hh]
      obtain ⟨v, hv, hrun⟩ := key
      cases ok with
      | false => exact ⟨v, hv, fun w' ha => by rw [hrun w' ha]; rfl⟩
      | true =>
        refine ⟨.tuple #[v, .bool (has k)], ?_, fun w' ha => by rw [hrun w' ha]; rfl⟩
        refine .tup (us := [v, .bool (has k)]) rfl fun j x u hx hu => ?_
        match j with
        | 0 => simp at hx hu; subst hx; subst hu; exact hv
        | 1 => simp at hx hu; subst hx; subst hu; exact .d .bool
        | j + 2 => simp at hx
  rename_i r
  split at h <;> try (cases h; done)
  rename_i sh' has val hB
  split at h <;> try (cases h; done)
  rename_i k hkey
  cases hsh : eqSh sh sh' with
  | false => rw [hsh] at h; cases h
  | true =>
    rw [hsh] at h
    simp only [cond_true, Option.some.injEq, Prod.mk.injEq] at h
    obtain ⟨rfl, rfl⟩ := h
    have := eqSh_eq hsh
    subst this
    have hz : has k = false → ZFit te (val k) := hob _ (by simp)
    obtain ⟨hfit, rfl⟩ := keyOf_ok hkey hy
    obtain ⟨pl, b, hr, _, hl, rfl, h1, b', hl', es, clock, ks, g1, g2, g3, g4, g5⟩ := map_row hm hx (Mem.get_at hB)
    rw [hl] at hl'
    obtain ⟨rfl, _⟩ := Prod.mk.inj (Option.some.inj hl')
    have hks : KeysAre sh ks es := ⟨g2, fun i k e hi he => ⟨(g4 i k e hi he).1, (g4 i k e hi he).2.1⟩⟩
    have key : ∃ v, Vc w F σ (val k) v ∧ ∀ w', Agree F σ w w' → (Instr.lookup t (.map (some b)) (sh.key k) ok).run P w' = .ok (if ok then .tuple #[v, .bool (has k)] else v) w' := by
      have hobj : ∀ w', Agree F σ w w' → w'.heap[b]? = some (.map es clock) := fun w' ha => by rw [ha b (.inr ⟨r, pl, 1, hr, hl⟩)]; exact g1
      rcases run_find hs hks hfit with ⟨e1, e2⟩ | ⟨i, e, e1, e2, e3⟩
      · have hh : has k = false := by
          cases hh : has k with
          | false => rfl
          | true => exact absurd (g5 k hfit hh) e1
        obtain ⟨z, hz1, hz2⟩ := ZFit.ok (w := w) (F := F) (σ := σ) hte (hz hh) w
        refine ⟨z, hz2, fun w' ha => ?_⟩
        have hz' := run_zeroValue_any hte hz1 w'
        cases ok <;> simp [Instr.lookup, run_underlying hu, MapKept.run_getObj_map (hobj w' ha), run_check hs, e2, hz', hh]
      · obtain ⟨_, _, hh, hv⟩ := g4 i k e e2 e1
        refine ⟨e.val, hv, fun w' ha => ?_⟩
        cases ok <;> simp [Instr.lookup, run_underlying hu, MapKept.run_getObj_map (hobj w' ha), run_check hs, e3, hh]
    obtain ⟨v, hv, hrun⟩ := key
    cases ok with
    | false => exact ⟨v, hv, fun w' ha => by rw [hrun w' ha]; rfl⟩
    | true =>
      refine ⟨.tuple #[v, .bool (has k)], ?_, fun w' ha => by rw [hrun w' ha]; rfl⟩
      refine .tup (us := [v, .bool (has k)]) rfl fun j x u hx hu => ?_
      match j with
      | 0 => simp at hx hu; subst hx; subst hu; exact hv
      | 1 => simp at hx hu; subst hx; subst hu; exact .d .bool
      | j + 2 => simp at hx
end
end Go.Ab
