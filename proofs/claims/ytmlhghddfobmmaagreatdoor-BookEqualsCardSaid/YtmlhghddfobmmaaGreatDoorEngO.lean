/-
  Texts put together: EngZ, EngAA, EngAC, EngN, EngO.
-/
import Derived.Test.YtmlhghddfobmmaaGreatDoorEngY
import Derived.RangeFuncLeaves
/-
 The engine, part Z: a statement that leaves its order open: one walk in the order of the text serves every order.
-/
namespace Go.Ab
set_option linter.unusedSimpArgs false
set_option linter.unusedVariables false

def stepE (o : Oper) (A : AV) (env : Env) : Env := match o.dst with
 | some t => (t, A) :: env
 | none => env
theorem setD_step {o : Oper} {A : AV} {env : Env} {K : Env → Prop} (h : setD env o.dst A K) : K (stepE o A env) := by
 unfold setD at h
 unfold stepE
 cases hd : o.dst <;> simp only [hd] at h ⊢ <;> exact h
def envsOf (env : Env) (ops : List Oper) (As : Nat → AV) : Nat → Env
 | 0 => env
 | k + 1 => match ops[k]? with
  | some o => stepE o (As k) (envsOf env ops As k)
  | none => envsOf env ops As k
def consA (A : AV) (As : Nat → AV) : Nat → AV
 | 0 => A
 | k + 1 => As k
theorem envsOf_cons (env : Env) (o : Oper) (r : List Oper) (A : AV) (As : Nat → AV) : ∀ k, envsOf env (o :: r) (consA A As) (k + 1) = envsOf (stepE o A env) r As k
 | 0 => rfl
 | k + 1 => by
  rw [envsOf, List.getElem?_cons_succ]
  rw [envsOf_cons env o r A As k]
  rw [envsOf]
  rfl
def slots (full : List Oper) (o : Oper) : List Nat := app2 (tmpsOf o.op) (gTmp full o.guard)
section
variable {P : Program} {T : Tab} {m : Mem} {σ : Pls}
theorem YieldR.mono {F : Nat → Prop} {w : World} {A A' : AV} (hA : ∀ w F u, Vc w F σ A u → Vc w F σ A' u) : ∀ {r : Result Next}, YieldR P σ F w A r → YieldR P σ F w A' r
 | .ok (.value u) w2, ⟨F2, h1, h2⟩ => ⟨F2, h1, hA _ _ _ h2⟩
 | .ok (.enter f args) w2, ⟨h1, h2⟩ => ⟨h1, h2.mono fun e w3 ⟨u, F3, g1, g2, g3⟩ => ⟨u, F3, g1, g2, hA _ _ _ g3⟩⟩
def DoesG (P : Program) (m : Mem) (σ : Pls) (full : List Oper) (o : Oper) (env : Env) (A : AV) : Prop :=
 ∀ (F : Nat → Prop) (w : World) (a : Act), MemOk m σ F w → (∀ t ∈ slots full o, Vc w F σ (get env t) (a.tmps.getD t undef)) →
  (Region.wanted o (yielded full.toArray a.tmps) = true → YieldR P σ F w A ((execOp a.eval o).run P w)) ∧
  (Region.wanted o (yielded full.toArray a.tmps) = false → ∀ w F, Vc w F σ A undef)
theorem vcR_ext (hT : TabOk P T) {full : List Oper} {K : Env → Prop} : ∀ (rest : List Oper) (env : Env), vcR P T full m rest env K →
  ∃ As : Nat → AV, K (envsOf env rest As rest.length) ∧ ∀ (k : Nat) o, rest[k]? = some o → DoesG P m σ full o (envsOf env rest As k) (As k)
 | [], env, h => ⟨fun _ => .junk, h, fun k o ho => by simp at ho⟩
 | o :: r, env, h => by
  have key : ∃ A, vcR P T full m r (stepE o A env) K ∧ DoesG P m σ full o env A := by
   rw [vcR_cons] at h
   have hs1 : ∀ t ∈ tmpsOf o.op, t ∈ slots full o := fun t ht => mem_app2.2 (.inl ht)
   split at h
   ·rename_i hg
    obtain ⟨A, hK, hD⟩ := vcR1_ok hT h
    refine ⟨A, setD_step hK, fun F w a hm he => ⟨fun _ => hD F w a hm (sel_ok fun t ht => he t (hs1 t ht)), fun hw => ?_⟩⟩
    simp [Region.wanted, hg] at hw
   ·rename_i j want hg
    have hs2 : ∀ t ∈ gTmp full (some (j, want)), t ∈ slots full o := fun t ht => mem_app2.2 (.inr (by rw [hg]; exact ht))
    split at h <;> try (cases h; done)
    rename_i g hgo
    have hw : ∀ (F : Nat → Prop) (w : World) (a : Act), (∀ t ∈ slots full o, Vc w F σ (get env t) (a.tmps.getD t undef)) → Region.wanted o (yielded full.toArray a.tmps) = g := fun F w a he => by
     simp only [Region.wanted, hg]
     exact guardOf_ok (sel_ok fun t ht => he t (hs2 t ht)) hgo
    split at h
    ·rename_i v l hr
     obtain ⟨hl, h⟩ := obs_ok h
     rw [frc_eq] at h
     refine ⟨.gd g v, setD_step h, fun F w a hm he => ?_⟩
     rw [hw F w a he]
     refine ⟨fun hgt => ?_, fun hgf w F => .gd (fun h => by rw [hgf] at h; cases h) fun _ => rfl⟩
     exact YieldR.mono (fun w F u hu => .gd (fun _ => hu) fun h => by rw [hgt] at h; cases h) (evRead_does hT hr (under_ok hl hgt) F w a hm (sel_ok fun t ht => he t (hs1 t ht)))
    ·cases g with
     | true =>
      obtain ⟨A, hK, hD⟩ := vcR1_ok hT (h.t rfl).o
      refine ⟨A, setD_step hK, fun F w a hm he => ⟨fun _ => hD F w a hm (sel_ok fun t ht => he t (hs1 t ht)), fun hwf => ?_⟩⟩
      rw [hw F w a he] at hwf
      cases hwf
     | false =>
      refine ⟨_, setD_step (h.f rfl).o, fun F w a hm he => ⟨fun hwt => ?_, fun _ w F => .gd (fun h => by cases h) fun _ => rfl⟩⟩
      rw [hw F w a he] at hwt
      cases hwt
  obtain ⟨A, hr, hD⟩ := key
  obtain ⟨As, hK, hAs⟩ := vcR_ext hT r _ hr
  refine ⟨consA A As, ?_, fun k o' ho => ?_⟩
  ·rw [List.length_cons, envsOf_cons]
   exact hK
  ·cases k with
   | zero => simp at ho; subst ho; exact hD
   | succ k =>
    rw [envsOf_cons]
    exact hAs k o' (by simpa using ho)

/-! ### the order -/
structure OrdAt (full : List Oper) (i : Nat) (o : Oper) : Prop where
 back : ∀ e ∈ o.after, Region.binds .any e = true → e.on < i
 once : ∀ d, o.dst = some d → ∀ (j : Nat) o', full[j]? = some o' → o'.dst = some d → j = i
 defs : ∀ t ∈ slots full o, ∀ (j : Nat) o', full[j]? = some o' → o'.dst = some t → (j < i ∧ ∃ e ∈ o.after, e.on = j ∧ Region.binds .any e = true) ∨ (i ≤ j ∧ (j = i ∨ ∃ e ∈ o'.after, e.on = i ∧ Region.binds .any e = true))
theorem dstOnce_at {d i : Nat} : ∀ {l : List Oper} {k : Nat}, dstOnce d i k l = true → ∀ (j : Nat) o, l[j]? = some o → o.dst = some d → k + j = i
 | [], k, _, j, o, h, _ => by simp at h
 | x :: r, k, hk, j, o, h, hd => by
  simp only [dstOnce, Bool.and_eq_true] at hk
  cases j with
  | zero =>
   simp at h
   subst h
   have h1 := hk.1
   rw [hd] at h1
   simp only [Nat.beq_refl, cond_true] at h1
   exact Nat.eq_of_beq_eq_true h1
  | succ j =>
   have := dstOnce_at hk.2 j o (by simpa using h) hd
   omega
theorem defsOk_at {t i : Nat} {es : List Edge} : ∀ {l : List Oper} {k : Nat}, defsOk t i es k l = true → ∀ (j : Nat) o, l[j]? = some o → o.dst = some t →
  (k + j < i ∧ edgeOn es (k + j) = true) ∨ (i ≤ k + j ∧ (k + j = i ∨ edgeOn o.after.toList i = true))
 | [], k, _, j, o, h, _ => by simp at h
 | x :: r, k, hk, j, o, h, hd => by
  simp only [defsOk, Bool.and_eq_true] at hk
  cases j with
  | zero =>
   simp at h
   subst h
   have h1 := hk.1
   rw [hd] at h1
   simp only [Nat.beq_refl, cond_true, Bool.or_eq_true, Bool.and_eq_true] at h1
   rcases h1 with h1 | h1 | h1
   ·exact .inl ⟨Nat.le_of_ble_eq_true h1.1, h1.2⟩
   ·have := Nat.eq_of_beq_eq_true h1
    exact .inr ⟨by omega, .inl this⟩
   ·have : i + 1 ≤ k := Nat.le_of_ble_eq_true h1.1
    exact .inr ⟨by omega, .inr h1.2⟩
  | succ j =>
   have := defsOk_at hk.2 j o (by simpa using h) hd
   rw [show k + (j + 1) = k + 1 + j by omega]
   exact this
theorem okFrom_at {full : List Oper} : ∀ {l : List Oper} {k : Nat}, okFrom full k l = true → ∀ (j : Nat) o, l[j]? = some o → OrdAt full (k + j) o
 | [], k, _, j, o, h => by simp at h
 | x :: r, k, hk, j, o, h => by
  simp only [okFrom, Bool.and_eq_true] at hk
  obtain ⟨⟨h1, h2, h3⟩, h4⟩ := hk
  cases j with
  | zero =>
   simp at h
   subst h
   refine ⟨fun e he hb => ?_, fun d hd j o' ho' hd' => ?_, fun t ht j o' ho' hd' => ?_⟩
   ·have := List.all_eq_true.1 h1 e (Array.mem_toList_iff.2 he)
    rw [hb] at this
    exact Nat.le_of_ble_eq_true (by simpa [Nat.blt] using this)
   ·rw [hd] at h2
    have := dstOnce_at h2 j o' ho' hd'
    omega
   ·have := List.all_eq_true.1 h3 t ht
    have edge : ∀ (es : Array Edge) i, edgeOn es.toList i = true → ∃ e ∈ es, e.on = i ∧ Region.binds .any e = true := fun es i g2 => by
     unfold edgeOn at g2
     obtain ⟨e, he, h⟩ := List.any_eq_true.1 g2
     simp only [Bool.and_eq_true] at h
     exact ⟨e, Array.mem_toList_iff.1 he, Nat.eq_of_beq_eq_true h.1, h.2⟩
    rcases defsOk_at this j o' ho' hd' with ⟨g1, g2⟩ | ⟨g1, g2⟩
    ·obtain ⟨e, he, h⟩ := edge _ _ g2
     rw [Nat.zero_add] at g1 h
     exact .inl ⟨by omega, e, he, h⟩
    ·rw [Nat.zero_add] at g1 g2
     refine .inr ⟨by omega, ?_⟩
     rcases g2 with g2 | g2
     ·exact .inl (by omega)
     ·exact .inr (edge _ _ g2)
  | succ j =>
   rw [show k + (j + 1) = k + 1 + j by omega]
   exact okFrom_at h4 j o (by simpa using h)
theorem get_step {o : Oper} {A : AV} {env : Env} {t : Nat} (h : o.dst ≠ some t) : get (stepE o A env) t = get env t := by
 unfold stepE
 cases hd : o.dst with
 | none => rfl
 | some d =>
  have : Nat.beq d t = false := by
   cases hb : Nat.beq d t with
   | false => rfl
   | true =>
    have := Nat.eq_of_beq_eq_true hb
    subst this
    exact absurd hd h
  simp only [get, this, cond_false]
theorem get_step_self {o : Oper} {A : AV} {env : Env} {t : Nat} (h : o.dst = some t) : get (stepE o A env) t = A := by
 unfold stepE
 rw [h]
 simp [get]
theorem envs_stable {env : Env} {full : List Oper} {As : Nat → AV} {t i : Nat} : ∀ k, i ≤ k → (∀ (j : Nat) o, i ≤ j → j < k → full[j]? = some o → o.dst ≠ some t) → get (envsOf env full As k) t = get (envsOf env full As i) t
 | 0, h, _ => by rw [show i = 0 by omega]
 | k + 1, h, hn => by
  by_cases e : i = k + 1
  ·rw [e]
  ·rw [envsOf]
   cases hk : full[k]? with
   | none => exact envs_stable k (by omega) fun j o h1 h2 => hn j o h1 (by omega)
   | some o =>
    rw [get_step (hn k o (by omega) (by omega) hk)]
    exact envs_stable k (by omega) fun j o h1 h2 => hn j o h1 (by omega)
def unl : List Bool → Nat
 | [] => 0
 | b :: r => (bif b then 0 else 1) + unl r
theorem unl_set : ∀ {l : List Bool} {i : Nat}, l[i]? = some false → unl (l.set i true) + 1 = unl l
 | [], _, h => by simp at h
 | b :: r, 0, h => by simp at h; subst h; simp [unl]; omega
 | b :: r, i + 1, h => by
  have := unl_set (l := r) (i := i) (by simpa using h)
  simp only [List.set_cons_succ, unl]
  omega
theorem unl_zero : ∀ {l : List Bool}, unl l = 0 → ∀ (i : Nat) b, l[i]? = some b → b = true
 | [], _, i, b, h => by simp at h
 | x :: r, hz, i, b, h => by
  simp only [unl] at hz
  cases i with
  | zero =>
   simp at h
   subst h
   cases x with
   | true => rfl
   | false => simp at hz
  | succ i => exact unl_zero (l := r) (by omega) i b (by simpa using h)
theorem getD_list {l : Array Bool} {i : Nat} {d : Bool} : l.getD i d = (l.toList[i]?).getD d := by
 rw [Array.getD_eq_getD_getElem?, Array.getElem?_toList]
variable {ro : Option Nat}
theorem drawn_region {id N n : Nat} {ops : Array Oper} {F : Nat → Prop} {w : World} {a : Act} {env : Env} {K : Env → Prop} {Q : Exit → Act → World → Prop}
  (h1 : P.follows .mixedOrders = true) (h2 : okR ops.toList = true) (hT : TabOk P T) (hm : MemOk m σ F w) (hd : dstsIn N ops.toList = true) (h : vcR P T ops.toList m ops.toList env K) (hN : a.tmps.size = N) (he : EnvOk env w F σ a.tmps)
  (hQ : ∀ env' a' w' F', K env' → a'.tmps.size = N → a'.defers = a.defers → Grew F w F' w' → EnvOk env' w' F' σ a'.tmps → Q .normal a' w') : (Code.region id ops true).wpIn (Fen ro) n P Q a w := by
 obtain ⟨As, hK, hD⟩ := vcR_ext (σ := σ) hT ops.toList env h
 have hO : ∀ (i : Nat) o, ops[i]? = some o → OrdAt ops.toList i o := fun i o ho => by
  have := okFrom_at h2 i o (by rw [Array.getElem?_toList]; exact ho)
  rwa [Nat.zero_add] at this
 have hdst : ∀ (i : Nat) o d, ops[i]? = some o → o.dst = some d → d < N := by
  have : ∀ (l : List Oper), dstsIn N l = true → ∀ (i : Nat) o d, l[i]? = some o → o.dst = some d → d < N := by
   intro l
   induction l with
   | nil => intro _ i o d ho; simp at ho
   | cons x r ih =>
    intro hl i o d ho hdo
    simp only [dstsIn, Bool.and_eq_true] at hl
    cases i with
    | zero =>
     simp at ho
     subst ho
     have := hl.1
     rw [hdo] at this
     exact Nat.le_of_ble_eq_true this
    | succ i => exact ih hl.2 i o d (by simpa using ho) hdo
  exact fun i o d ho hdo => this ops.toList hd i o d (by rw [Array.getElem?_toList]; exact ho) hdo
 generalize hE : envsOf env ops.toList As ops.toList.length = E at hK
 have hsize : ops.toList.length = ops.size := Array.length_toList
 have hEd : ∀ (i : Nat) o d, ops[i]? = some o → o.dst = some d → ∀ k, i < k → k ≤ ops.toList.length → get (envsOf env ops.toList As k) d = As i := by
  intro i o d ho hdo k hk hkn
  have hol : ops.toList[i]? = some o := by rw [Array.getElem?_toList]; exact ho
  rw [envs_stable (i := i + 1) k (by omega) (fun j o' h3 h4 ho' hd' => by
    have := (hO i o ho).once d hdo j o' ho' hd'
    omega)]
  rw [envsOf, hol]
  exact get_step_self hdo
 have hE0 : ∀ t k, k ≤ ops.toList.length → (∀ (j : Nat) o, ops[j]? = some o → o.dst = some t → k ≤ j) → get (envsOf env ops.toList As k) t = get env t := fun t k hk hno =>
  envs_stable (i := 0) k (Nat.zero_le _) (fun j o _ hj ho hdo => by
   rw [Array.getElem?_toList] at ho
   have := hno j o ho hdo
   omega)
 let Inv : Array Bool → Act → World → Prop := fun listed a' w' => a'.tmps.size = N ∧ a'.defers = a.defers ∧ (∀ (j : Nat) o, ops[j]? = some o → listed.getD j true = true → ∀ e ∈ o.after, Region.binds .any e = true → listed.getD e.on true = true) ∧
  ∃ F', Grew F w F' w' ∧ ∀ t, (∀ (j : Nat) o, ops[j]? = some o → o.dst = some t → listed.getD j true = true → Vc w' F' σ (As j) (a'.tmps.getD t undef)) ∧
   ((∀ (j : Nat) o, ops[j]? = some o → o.dst = some t → listed.getD j true = false) → Vc w' F' σ (get env t) (a'.tmps.getD t undef))
 have fin : ∀ listed a' w', (∀ i, i < ops.size → listed.getD i true = true) → Inv listed a' w' → Q .normal a' w' := fun listed a' w' hall ⟨i1, i2, _, F', i3, i4⟩ =>
  hQ E a' w' F' hK i1 i2 i3 fun t => by
   by_cases hex : ∃ (j : Nat) (o : Oper), ops[j]? = some o ∧ o.dst = some t
   ·obtain ⟨j, o, ho, hdo⟩ := hex
    have hj : j < ops.size := (Array.getElem?_eq_some_iff.1 ho).1
    rw [← hE, hEd j o t ho hdo _ (by omega) (Nat.le_refl _)]
    exact (i4 t).1 j o ho hdo (hall j hj)
   ·rw [← hE, hE0 t _ (Nat.le_refl _) (fun j o ho hdo => absurd ⟨j, o, ho, hdo⟩ hex)]
    exact (i4 t).2 fun j o ho hdo => absurd ⟨j, o, ho, hdo⟩ hex
 have main : ∀ (fuel : Nat) (listed : Array Bool) (a' : Act) (w' : World), listed.size = ops.size → unl listed.toList ≤ fuel → Inv listed a' w' → wpAnyIn (Fen ro) n P .any ops Q fuel listed a' w' := by
  intro fuel
  induction fuel with
  | zero =>
   intro listed a' w' hls hun hI
   have hall : ∀ i, i < ops.size → listed.getD i true = true := fun i hi => by
    rw [getD_list]
    cases hb : listed.toList[i]? with
    | none => rfl
    | some b => exact unl_zero (by omega) i b hb
   refine ⟨List.eq_nil_iff_forall_not_mem.2 fun i hi => ?_, fin _ _ _ hall hI⟩
   obtain ⟨g1, o, ho, _⟩ := mem_ready.1 hi
   rw [hall i (Array.getElem?_eq_some_iff.1 ho).1] at g1
   cases g1
  | succ fuel ih =>
   intro listed a' w' hls hun hI
   refine ⟨fun hnil => fin _ _ _ (fun i => ?_) hI, fun i hi => ?_⟩
   ·induction i using Nat.strongRecOn with
    | _ i ihi =>
     intro hi
     cases hb : listed.getD i true with
     | true => rfl
     | false =>
      exfalso
      have ho : ops[i]? = some ops[i] := Array.getElem?_eq_getElem hi
      have : i ∈ Region.ready .any ops listed := mem_ready.2 ⟨hb, _, ho, fun e he hbe => by
       have hlt := (hO i _ ho).back e he hbe
       have := ihi e.on hlt (by omega)
       rw [getD_list] at this ⊢
       have hin : e.on < listed.toList.length := by rw [Array.length_toList, hls]; omega
       rw [List.getElem?_eq_getElem hin] at this ⊢
       exact this⟩
      rw [hnil] at this
      cases this
   ·obtain ⟨g1, o, ho, g2⟩ := mem_ready.1 hi
    have hin : i < ops.size := (Array.getElem?_eq_some_iff.1 ho).1
    have hoi := hO i o ho
    obtain ⟨i1, i2, ic, F', i3, i4⟩ := hI
    have hmw : MemOk m σ F' w' := i3.mem hm
    have toT : ∀ j, j < ops.size → listed.getD j false = true → listed.getD j true = true := fun j hj h => by
     rw [getD_list] at h ⊢
     have hin2 : j < listed.toList.length := by rw [Array.length_toList, hls]; omega
     rw [List.getElem?_eq_getElem hin2] at h ⊢
     exact h
    have hslots : ∀ t ∈ slots ops.toList o, Vc w' F' σ (get (envsOf env ops.toList As i) t) (a'.tmps.getD t undef) := fun t ht => by
     by_cases hex : ∃ (j : Nat) (o' : Oper), ops[j]? = some o' ∧ o'.dst = some t
     ·obtain ⟨j, o', ho', hdo'⟩ := hex
      have hj : j < ops.size := (Array.getElem?_eq_some_iff.1 ho').1
      have honce : ∀ (j2 : Nat) o2, ops[j2]? = some o2 → o2.dst = some t → j2 = j := fun j2 o2 h3 h4 => (hO j o' ho').once t hdo' j2 o2 (by rw [Array.getElem?_toList]; exact h3) h4
      rcases hoi.defs t ht j o' (by rw [Array.getElem?_toList]; exact ho') hdo' with ⟨hji, e, hee, heon, heb⟩ | ⟨hij, hcase⟩
      ·rw [hEd j o' t ho' hdo' i hji (by omega)]
       refine (i4 t).1 j o' ho' hdo' ?_
       have := g2 e hee heb
       rw [heon] at this
       exact toT j hj this
      ·rw [hE0 t i (by omega) (fun j2 o2 h3 h4 => by rw [honce j2 o2 h3 h4]; exact hij)]
       refine (i4 t).2 fun j2 o2 h3 h4 => ?_
       have hj2 := honce j2 o2 h3 h4
       subst hj2
       rcases hcase with rfl | ⟨e, hee, heon, heb⟩
       ·exact g1
       ·cases hb : listed.getD j2 true with
        | false => rfl
        | true =>
         have := ic j2 o' ho' hb e hee heb
         rw [heon, g1] at this
         cases this
     ·rw [hE0 t i (by omega) (fun j2 o2 h3 h4 => absurd ⟨j2, o2, h3, h4⟩ hex)]
      exact (i4 t).2 fun j2 o2 h3 h4 => absurd ⟨j2, o2, h3, h4⟩ hex
    have hdoes := hD i o (by rw [Array.getElem?_toList]; exact ho) F' w' a' hmw hslots
    have hy : ops.toList.toArray = ops := Array.toArray_toList
    rw [hy] at hdoes
    have hlist : listed.toList[i]? = some false := by
     rw [getD_list] at g1
     cases hb : listed.toList[i]? with
     | none => rw [hb] at g1; cases g1
     | some b => rw [hb] at g1; simp at g1; rw [g1]
    have next : ∀ (v : Value) (w2 : World) (F2 : Nat → Prop), Grew F' w' F2 w2 → Vc w2 F2 σ (As i) v → wpAnyIn (Fen ro) n P .any ops Q fuel (listed.setIfInBounds i true) (a'.put o.dst v) w2 := by
     intro v w2 F2 hg hv
     have hset : ∀ j, j ≠ i → (listed.setIfInBounds i true).getD j true = listed.getD j true := fun j hne => by
      rw [getD_list, Array.toList_setIfInBounds, List.getElem?_set_ne (fun e => hne e.symm), ← getD_list]
     have hsetm : ∀ j, listed.getD j true = true → (listed.setIfInBounds i true).getD j true = true := fun j h => by
      by_cases e : j = i
      ·subst e; rw [h] at g1; cases g1
      ·rw [hset j e]; exact h
     have hseti : (listed.setIfInBounds i true).getD i true = true := by
      rw [getD_list, Array.toList_setIfInBounds, List.getElem?_set_self (by rw [Array.length_toList, hls]; exact hin)]
      rfl
     refine ih _ _ _ (by simp [hls]) ?_ ⟨by rw [put_size]; exact i1, by rw [put_defers]; exact i2, fun j o' ho' hj e he hb => ?_, F2, i3.trans hg, fun t => ?_⟩
     ·have := unl_set hlist
      rw [Array.toList_setIfInBounds]
      omega
     ·by_cases hji : j = i
      ·subst hji
       rw [ho] at ho'
       cases ho'
       have hlt := hoi.back e he hb
       exact hsetm _ (toT _ (by omega) (g2 e he hb))
      ·rw [hset j hji] at hj
       exact hsetm _ (ic j o' ho' hj e he hb)
     ·have mono : ∀ {A u}, Vc w' F' σ A u → Vc w2 F2 σ A u := fun h => h.mono hg.fro (fun b hb => hg.keep b (i3.lt b hb)) (SLe.refl σ)
      by_cases hdt : o.dst = some t
      ·have hdN := hdst i o t ho hdt
       have hval : (a'.put o.dst v).tmps.getD t undef = v := by
        rw [hdt]
        simp only [Act.put, Array.getD_eq_getD_getElem?]
        rw [Array.getElem?_setIfInBounds_self_of_lt (by rw [i1]; exact hdN)]
        rfl
       rw [hval]
       refine ⟨fun j o' ho' hd' _ => ?_, fun hno => ?_⟩
       ·have := hoi.once t hdt j o' (by rw [Array.getElem?_toList]; exact ho') hd'
        subst this
        exact hv
       ·have := hno i o ho hdt
        rw [hseti] at this
        cases this
      ·have hval : (a'.put o.dst v).tmps.getD t undef = a'.tmps.getD t undef := by
        cases hdo : o.dst with
        | none => rfl
        | some d =>
         simp only [Act.put, Array.getD_eq_getD_getElem?]
         rw [Array.getElem?_setIfInBounds_ne (fun e => hdt (by rw [hdo, e]))]
       rw [hval]
       have hne : ∀ (j : Nat) o', ops[j]? = some o' → o'.dst = some t → j ≠ i := fun j o' ho' hd' e => by
        subst e
        rw [ho] at ho'
        cases ho'
        exact hdt hd'
       refine ⟨fun j o' ho' hd' hj => ?_, fun hno => ?_⟩
       ·rw [hset j (hne j o' ho' hd')] at hj
        exact mono ((i4 t).1 j o' ho' hd' hj)
       ·exact mono ((i4 t).2 fun j o' ho' hd' => by
         have := hno j o' ho' hd'
         rwa [hset j (hne j o' ho' hd')] at this)
    unfold wpOpIn
    simp only [ho]
    cases hw : Region.wanted o (yielded ops a'.tmps) with
    | false =>
     simp only [Bool.false_eq_true, if_false]
     exact ⟨fun _ _ => trivial, next _ _ _ (Grew.refl hmw.fl) (hdoes.2 hw _ _)⟩
    | true =>
     simp only [if_true]
     have h3 := hdoes.1 hw
     have hdef : ∀ c, o.op ≠ .defer c := fun c hc => by
      simp only [execOp, hc, Sem.run_bind] at h3
      cases hr : (resolve a'.eval c o.type).run P w' <;> simp [hr, Result.andThen, YieldR] at h3
     refine wpIn_at hdef ?_
     generalize (execOp a'.eval o).run P w' = r at h3
     cases r with
     | ok x w2 =>
      cases x <;> simp only [YieldR] at h3 <;> simp only [Oper.uponIn]
      case value u =>
       obtain ⟨F2, k1, k2⟩ := h3
       exact next u w2 F2 k1 k2
      case enter f args =>
       obtain ⟨e1, hc⟩ := h3
       rw [e1]
       exact ⟨Fen_depth, callsFen.2 (hc.mono fun e w3 ⟨u, F3, he, k1, k2⟩ => by subst he; exact next u w3 F3 k1 k2)⟩
     | halt x w2 => simp only [YieldR] at h3
 have hrep : ∀ j, j < ops.size → (Array.replicate ops.size false).getD j true = false := fun j hj => by
  rw [getD_list, Array.toList_replicate, List.getElem?_replicate, if_pos hj]
  rfl
 refine wpIn_region_any h1 (main ops.size _ a _ (by simp) ?_ ⟨hN, rfl, fun j o ho hj => ?_, F, Grew.drew hm.fl, fun t => ⟨fun j o ho _ hj => ?_, fun _ => ?_⟩⟩)
 ·have : ∀ k, unl (List.replicate k false) = k := fun k => by
   induction k with
   | zero => rfl
   | succ k ih => rw [List.replicate_succ, unl, ih]; simp; omega
  rw [Array.toList_replicate, this]
  exact Nat.le_refl _
 ·rw [hrep j (Array.getElem?_eq_some_iff.1 ho).1] at hj
  cases hj
 ·rw [hrep j (Array.getElem?_eq_some_iff.1 ho).1] at hj
  cases hj
 ·exact Vc.mono (w := w) (w' := { w with drawn := w.drawn + 1 }) (fun _ h => h) (fun _ _ => rfl) (SLe.refl σ) (he t)
end
end Go.Ab
/-
 The engine, part AA: statements that leave their order open, with rows made in them: append of append.
-/
namespace Go.Ab
set_option linter.unusedSimpArgs false
set_option linter.unusedVariables false

/-- A row made in the statement: which operation made it, the slot that names it, what it is, its memory. -/
structure Row where
 idx : Nat
 tmp : Nat
 val : AV
 mem : Mem
/-- The slot that is appended to. -/
def headArg : Op → Option Nat
 | .call { callee := .builtin .append, args, .. } => match args.toList with
  | .tmp t :: _ => some t
  | _ => none
 | _ => none
def feeds (t : Nat) : List Oper → Bool
 | [] => false
 | o :: r => (match headArg o.op with
  | some u => Nat.beq u t
  | none => false) || feeds t r
def chainOp (full : List Oper) (o : Oper) : Bool := match o.guard with
 | some _ => false
 | none => match o.dst with
  | none => false
  | some d => match o.op with
   | .buildSlice _ _ _ => feeds d full
   | .call { callee := .builtin .append, .. } => true
   | _ => false
def hasChain (full : List Oper) : List Oper → Bool
 | [] => false
 | o :: r => chainOp full o || hasChain full r
def takeRow (t : Nat) : List Row → Option (Row × List Row)
 | [] => none
 | r :: l => bif Nat.beq r.tmp t then some (r, l) else match takeRow t l with
  | some (x, l') => some (x, r :: l')
  | none => none
def takeFor (op : Op) (l : List Row) : Option Row × List Row := match headArg op with
 | some t => match takeRow t l with
  | some (x, l') => (some x, l')
  | none => (none, l)
 | none => (none, l)
def rowEnv (x : Option Row) (e : Env) : Env := match x with
 | some r => (r.tmp, r.val) :: e
 | none => e
def rowMem : Option Row → Mem
 | some r => r.mem
 | none => ⟨[], []⟩
def onlyD : Env → Env
 | [] => []
 | (t, A) :: r => (t, match A with
  | .d x => .d x
  | _ => .junk) :: onlyD r
/-- A row that is never written again: it reads as data. -/
inductive FrzR (n : Nat) (f : Nat → List AV) (K : (Nat → List D) → Prop) : Prop where
 | mk (h : Nat → List D) (e : ∀ i, i < n → f i = up (h i)) (k : K h)
def vcFrz (v : AV) (mc : Mem) (K : AV → Prop) : Prop := match v with
 | .osl r g off n => match mc.get r with
  | some (.vec _ sz g' k f) => bif Nat.beq off 0 then obs [g' = g, k = n] (FrzR k f fun h => Ev (K (.d (.sl sz n h)))) else False
  | _ => False
 | _ => False
noncomputable def vcX (P : Program) (T : Tab) (full : List Oper) (m : Mem) (ops : List Oper) : Nat → Env → List Row → (Env → Prop) → Prop :=
 List.rec (motive := fun _ => Nat → Env → List Row → (Env → Prop) → Prop) (fun _ env _ K => K env) (fun o _ ih k env rows K => bif chainOp full o then
   match takeFor o.op rows with
   | (x, rest) => match evEff T (rowEnv x (onlyD (sel env (tmpsOf o.op)))) (rowMem x) o.op with
    | none => False
    | some (v, mc, l) => match o.dst with
     | none => False
     | some d => obs l (frc v fun v => frcM mc fun mc => bif feeds d full then ih (k + 1) ((d, .junk) :: env) (⟨k, d, v, mc⟩ :: rest) K
      else vcFrz v mc fun A => ih (k + 1) ((d, A) :: env) rest K)
  else match o.guard with
  | none => vcR1 P T m (sel env (tmpsOf o.op)) o fun v => setD env o.dst v fun env => ih (k + 1) env rows K
  | some (j, want) => match guardOf full (sel env (gTmp full (some (j, want)))) j want with
   | none => False
   | some g => match evRead T (sel env (tmpsOf o.op)) m o.op with
    | some (v, l) => obs (under g l) (frc v fun v => setD env o.dst (.gd g v) fun env => ih (k + 1) env rows K)
    | none => Br g (Ev (vcR1 P T m (sel env (tmpsOf o.op)) o fun v => setD env o.dst v fun env => ih (k + 1) env rows K)) (Ev (setD env o.dst (.gd false (.d (.bool false))) fun env => ih (k + 1) env rows K))) ops
theorem vcX_cons (P : Program) (T : Tab) (full : List Oper) (m : Mem) (o : Oper) (rest : List Oper) (k : Nat) (env : Env) (rows : List Row) (K : Env → Prop) : vcX P T full m (o :: rest) k env rows K = bif chainOp full o then
   match takeFor o.op rows with
   | (x, rest') => match evEff T (rowEnv x (onlyD (sel env (tmpsOf o.op)))) (rowMem x) o.op with
    | none => False
    | some (v, mc, l) => match o.dst with
     | none => False
     | some d => obs l (frc v fun v => frcM mc fun mc => bif feeds d full then vcX P T full m rest (k + 1) ((d, .junk) :: env) (⟨k, d, v, mc⟩ :: rest') K
      else vcFrz v mc fun A => vcX P T full m rest (k + 1) ((d, A) :: env) rest' K)
  else match o.guard with
  | none => vcR1 P T m (sel env (tmpsOf o.op)) o fun v => setD env o.dst v fun env => vcX P T full m rest (k + 1) env rows K
  | some (j, want) => match guardOf full (sel env (gTmp full (some (j, want)))) j want with
   | none => False
   | some g => match evRead T (sel env (tmpsOf o.op)) m o.op with
    | some (v, l) => obs (under g l) (frc v fun v => setD env o.dst (.gd g v) fun env => vcX P T full m rest (k + 1) env rows K)
    | none => Br g (Ev (vcR1 P T m (sel env (tmpsOf o.op)) o fun v => setD env o.dst v fun env => vcX P T full m rest (k + 1) env rows K)) (Ev (setD env o.dst (.gd false (.d (.bool false))) fun env => vcX P T full m rest (k + 1) env rows K)) := rfl

/-- What was there has turned at most in these blocks. -/
structure Chg (F : Nat → Prop) (w : World) (B : Nat → Prop) (F' : Nat → Prop) (w' : World) : Prop where
 os : w'.os = w.os
 tape : w'.tape = w.tape
 output : w'.output = w.output
 drawn : w.drawn ≤ w'.drawn
 size : w.heap.size ≤ w'.heap.size
 keep : ∀ b, b < w.heap.size → ¬ B b → w'.heap[b]? = w.heap[b]?
 fro : ∀ b, F b → F' b
 fro' : ∀ b, F' b → F b ∨ B b ∨ w.heap.size ≤ b
 lt : ∀ b, F' b → b < w'.heap.size
section
variable {F F0 F' : Nat → Prop} {w w0 w' : World} {B : Nat → Prop} {m : Mem} {σ : Pls}
theorem Grew.chg (h : Grew F w F' w') : Chg F w B F' w' :=
 ⟨h.os, h.tape, h.output, h.drawn, h.size, fun b hb _ => h.keep b hb, h.fro, fun b hb => (h.fro' b hb).elim .inl fun h => .inr (.inr h), h.lt⟩
theorem Chg.grew (h0 : Grew F0 w0 F w) (h : Chg F w B F' w') (hB : ∀ b, B b → w0.heap.size ≤ b) : Grew F0 w0 F' w' :=
 ⟨h.os.trans h0.os, h.tape.trans h0.tape, h.output.trans h0.output, Nat.le_trans h0.drawn h.drawn, Nat.le_trans h0.size h.size,
  fun b hb => (h.keep b (Nat.lt_of_lt_of_le hb h0.size) (fun hBb => by have := hB b hBb; omega)).trans (h0.keep b hb), fun b hb => h.fro b (h0.fro b hb),
  fun b hb => by
   rcases h.fro' b hb with h1 | h1 | h1
   ·exact h0.fro' b h1
   ·exact .inr (hB b h1)
   ·exact .inr (Nat.le_trans h0.size h1), h.lt⟩
theorem Chg.mem (hm : MemOk m σ F w) (h : Chg F w B F' w') (hB : ∀ b, B b → ¬ Owned σ b) (hBF : ∀ b, B b → ¬ F b) : MemOk m σ F' w' := by
 have hk : ∀ b, F b → w'.heap[b]? = w.heap[b]? := fun b hb => h.keep b (hm.fl b hb) fun h2 => hBF b h2 hb
 refine ⟨hm.dom, fun r q hq => ⟨(hm.lv r q hq).1, fun pl e => ?_⟩, hm.inj, fun r pl b t h1 h2 => ⟨fun hF => ?_, Nat.lt_of_lt_of_le (hm.nf r pl b t h1 h2).2 h.size⟩, h.lt, hm.gl.mono h.fro hk⟩
 ·obtain ⟨B', hB', hok⟩ := (hm.lv r q hq).2 pl e
  exact ⟨B', hB', hok.mono h.fro hk (SLe.refl σ) (fun b t hl => h.keep b (hm.nf r pl b t (by rw [hq, e]) hl).2 fun hb => hB b hb ⟨r, pl, t, by rw [hq, e], hl⟩)⟩
 ·have hnf := hm.nf r pl b t h1 h2
  rcases h.fro' b hF with h3 | h3 | h3
  ·exact hnf.1 h3
  ·exact hB b h3 ⟨r, pl, t, h1, h2⟩
  ·omega
theorem owned_nf (hm : MemOk m σ F w) : ∀ b, Owned σ b → ¬ F b ∧ b < w.heap.size := fun b ⟨r, pl, t, h1, h2⟩ => hm.nf r pl b t h1 h2
theorem Chg.frozen (hm : MemOk m σ F w) (h : Chg F w B F' w') (hBF : ∀ b, B b → ¬ F b) : ∀ b, F b → w'.heap[b]? = w.heap[b]? := fun b hb => h.keep b (hm.fl b hb) fun h2 => hBF b h2 hb
end
def BOf : Option Row → Pls → Nat → Prop
 | none, _ => fun _ => False
 | some _, σ => Owned σ
def YieldV (P : Program) (σ σr : Pls) (F : Nat → Prop) (w : World) (A : AV) (took made : Option Row) (u : Value) (w2 : World) : Prop :=
 ∃ F2, Chg F w (BOf took σr) F2 w2 ∧ Vc w2 F2 σ A u ∧ ∀ r, made = some r → ∃ σ2, MemOk r.mem σ2 F2 w2 ∧ Vc w2 F2 σ2 r.val u ∧ ∀ b, Owned σ2 b → BOf took σr b ∨ w.heap.size ≤ b
def YieldX (P : Program) (σ σr : Pls) (F : Nat → Prop) (w : World) (A : AV) (took made : Option Row) : Result Next → Prop
 | .ok (.value u) w2 => YieldV P σ σr F w A took made u w2
 | .ok .skip w2 => YieldV P σ σr F w A took made undef w2
 | .ok (.enter f args) w2 => took = none ∧ made = none ∧ w2 = w ∧ Calls P f args w fun e w3 => ∃ u F3, e = .returned u ∧ Grew F w F3 w3 ∧ Vc w3 F3 σ A u
 | _ => False
def DoesX (P : Program) (m : Mem) (σ : Pls) (full : List Oper) (o : Oper) (env : Env) (A : AV) (took made : Option Row) : Prop :=
 ∀ (F : Nat → Prop) (w : World) (a : Act) (σr : Pls), MemOk m σ F w → (∀ t ∈ slots full o, Vc w F σ (get env t) (a.tmps.getD t undef)) →
  (∀ r, took = some r → MemOk r.mem σr F w ∧ Vc w F σr r.val (a.tmps.getD r.tmp undef)) →
  (Region.wanted o (yielded full.toArray a.tmps) = true → YieldX P σ σr F w A took made ((execOp a.eval o).run P w)) ∧
  (Region.wanted o (yielded full.toArray a.tmps) = false → took = none ∧ made = none ∧ ∀ w F, Vc w F σ A undef)
section
variable {P : Program} {T : Tab} {m : Mem} {σ : Pls}
theorem YieldR.x {F : Nat → Prop} {w : World} {A : AV} {σr : Pls} : ∀ {r : Result Next}, YieldR P σ F w A r → YieldX P σ σr F w A none none r
 | .ok (.value u) w2, ⟨F2, h1, h2⟩ => ⟨F2, h1.chg, h2, fun r h => by cases h⟩
 | .ok (.enter f args) w2, ⟨h1, h2⟩ => ⟨rfl, rfl, h1, h2⟩
theorem DoesG.x {full : List Oper} {o : Oper} {env : Env} {A : AV} (h : DoesG P m σ full o env A) : DoesX P m σ full o env A none none :=
 fun F w a σr hm hs _ => ⟨fun hw => ((h F w a hm hs).1 hw).x, fun hw => ⟨rfl, rfl, (h F w a hm hs).2 hw⟩⟩
theorem get_onlyD (e : Env) (t : Nat) : get (onlyD e) t = match get e t with
  | .d x => .d x
  | _ => .junk := by
 induction e with
 | nil => rfl
 | cons p r ih =>
  obtain ⟨k, A⟩ := p
  simp only [onlyD, get]
  cases Nat.beq k t with
  | true => rfl
  | false => exact ih
theorem onlyD_ok {env : Env} {ts : List Nat} {w : World} {F : Nat → Prop} {σ σ' : Pls} {tmps : Array Value} (h : ∀ t ∈ ts, Vc w F σ (get env t) (tmps.getD t undef)) : EnvOk (onlyD (sel env ts)) w F σ' tmps := fun t => by
 rw [get_onlyD]
 rcases get_sel env t ts with ⟨h1, h2⟩ | h2
 ·rw [h2]
  have := h t h1
  split
  ·rename_i x e
   rw [e] at this
   cases this with | d h => exact .d h
  ·exact .junk
 ·rw [h2]; exact .junk
theorem rowEnv_ok {e : Env} {w : World} {F : Nat → Prop} {σ : Pls} {tmps : Array Value} {x : Option Row} (h : EnvOk e w F σ tmps) (hx : ∀ r, x = some r → Vc w F σ r.val (tmps.getD r.tmp undef)) : EnvOk (rowEnv x e) w F σ tmps := by
 cases x with
 | none => exact h
 | some r =>
  intro t
  simp only [rowEnv, get]
  cases hb : Nat.beq r.tmp t with
  | false => exact h t
  | true =>
   have := Nat.eq_of_beq_eq_true hb
   subst this
   exact hx r rfl
def rowPls (x : Option Row) (σr : Pls) : Pls := match x with
 | none => fun _ => none
 | some _ => σr
theorem chain_does (hT : TabOk P T) {full : List Oper} {o : Oper} {env : Env} {x : Option Row} {v : AV} {mc : Mem} {l : List Prop} (hg : o.guard = none) (h : evEff T (rowEnv x (onlyD (sel env (tmpsOf o.op)))) (rowMem x) o.op = some (v, mc, l)) (hl : ∀ p ∈ l, p)
  {F : Nat → Prop} {w : World} {a : Act} {σr : Pls} (hm : MemOk m σ F w) (hs : ∀ t ∈ slots full o, Vc w F σ (get env t) (a.tmps.getD t undef)) (hx : ∀ r, x = some r → MemOk r.mem σr F w ∧ Vc w F σr r.val (a.tmps.getD r.tmp undef)) :
  Region.wanted o (yielded full.toArray a.tmps) = true ∧ ∃ n u w' σ', (execOp a.eval o).run P w = .ok n w' ∧ (n = .value u ∨ (n = .skip ∧ u = undef)) ∧ Vc w' F σ' v u ∧ MemOk mc σ' F w' ∧ Chg F w (BOf x σr) F w' ∧ ∀ b, Owned σ' b → BOf x σr b ∨ w.heap.size ≤ b := by
 refine ⟨by simp [Region.wanted, hg], ?_⟩
 have hm0 : MemOk (rowMem x) (rowPls x σr) F w := by
  cases x with
  | none => exact memNone hm.fl hm.gl
  | some r => exact (hx r rfl).1
 have he : EnvOk (rowEnv x (onlyD (sel env (tmpsOf o.op)))) w F (rowPls x σr) a.tmps := rowEnv_ok (onlyD_ok fun t ht => hs t (mem_app2.2 (.inl ht))) fun r hr => by
  subst hr
  exact (hx r rfl).2
 obtain ⟨n, u, w', σ', h1, h2, h3, h4, h5, h6⟩ := evEff_ok hT hm0 he h hl
 have hO : ∀ b, Owned (rowPls x σr) b → BOf x σr b := fun b hb => by
  cases x with
  | none =>
   obtain ⟨r, pl, t, h, _⟩ := hb
   cases h
  | some r => exact hb
 exact ⟨n, u, w', σ', h1, h2, h3, h4, ⟨h5.os, h5.tape, h5.output, h5.drawn, h5.size, fun b hb hnb => h5.keep b hb fun ho => hnb (hO b ho), fun _ h => h, fun _ h => .inl h, h4.fl⟩, fun b hb => (h5.own b hb).imp (hO b) id⟩
theorem takeRow_is {t : Nat} : ∀ {l : List Row} {x : Row} {l' : List Row}, takeRow t l = some (x, l') → x ∈ l ∧ x.tmp = t ∧ (∀ r ∈ l', r ∈ l) ∧ ((l.map (·.idx)).Nodup → (l'.map (·.idx)).Nodup ∧ ∀ r ∈ l', r.idx ≠ x.idx)
 | [], x, l', h => by simp [takeRow] at h
 | r :: l, x, l', h => by
  simp only [takeRow] at h
  cases hb : Nat.beq r.tmp t with
  | true =>
   rw [hb] at h
   simp only [cond_true, Option.some.injEq, Prod.mk.injEq] at h
   obtain ⟨rfl, rfl⟩ := h
   refine ⟨by simp, Nat.eq_of_beq_eq_true hb, fun r hr => by simp [hr], fun hn => ?_⟩
   simp only [List.map_cons, List.nodup_cons] at hn
   exact ⟨hn.2, fun r' hr' e => hn.1 (by rw [← e]; exact List.mem_map.2 ⟨r', hr', rfl⟩)⟩
  | false =>
   rw [hb] at h
   simp only [cond_false] at h
   split at h <;> try (cases h; done)
   rename_i y l2 hy
   simp only [Option.some.injEq, Prod.mk.injEq] at h
   obtain ⟨rfl, rfl⟩ := h
   obtain ⟨h1, h2, h3, h4⟩ := takeRow_is hy
   refine ⟨by simp [h1], h2, fun r' hr' => ?_, fun hn => ?_⟩
   ·rcases List.mem_cons.1 hr' with rfl | hr'
    ·simp
    ·simp [h3 r' hr']
   ·simp only [List.map_cons, List.nodup_cons] at hn
    obtain ⟨g1, g2⟩ := h4 hn.2
    refine ⟨?_, fun r' hr' => ?_⟩
    ·simp only [List.map_cons, List.nodup_cons]
     refine ⟨fun hm => hn.1 ?_, g1⟩
     obtain ⟨r2, hr2, e⟩ := List.mem_map.1 hm
     exact List.mem_map.2 ⟨r2, h3 r2 hr2, e⟩
    ·rcases List.mem_cons.1 hr' with rfl | hr'
     ·intro e
      exact hn.1 (by rw [e]; exact List.mem_map.2 ⟨y, h1, rfl⟩)
     ·exact g2 r' hr'
theorem headArg_tmps {op : Op} {t : Nat} (h : headArg op = some t) : t ∈ tmpsOf op := by
 unfold headArg at h
 split at h <;> try (cases h; done)
 rename_i args _ _
 split at h <;> try (cases h; done)
 rename_i t' r e
 injection h with h
 subst h
 simp only [tmpsOf]
 rw [e]
 simp [tmpOs]
theorem takeFor_is {op : Op} {l l' : List Row} {x : Option Row} (h : takeFor op l = (x, l')) : (∀ r, x = some r → r ∈ l ∧ r.tmp ∈ tmpsOf op) ∧ (∀ r ∈ l', r ∈ l) ∧ ((l.map (·.idx)).Nodup → (l'.map (·.idx)).Nodup ∧ ∀ r, x = some r → ∀ r' ∈ l', r'.idx ≠ r.idx) := by
 unfold takeFor at h
 split at h
 ·rename_i t ht
  split at h
  ·rename_i y l2 hy
   simp only [Prod.mk.injEq] at h
   obtain ⟨rfl, rfl⟩ := h
   obtain ⟨h1, h2, h3, h4⟩ := takeRow_is hy
   refine ⟨fun r hr => ?_, h3, fun hn => ⟨(h4 hn).1, fun r hr => ?_⟩⟩
   ·cases hr
    rw [h2]
    exact ⟨h1, headArg_tmps ht⟩
   ·cases hr
    exact (h4 hn).2
  ·simp only [Prod.mk.injEq] at h
   obtain ⟨rfl, rfl⟩ := h
   exact ⟨fun r hr => (by cases hr), fun r hr => hr, fun hn => ⟨hn, fun r hr => (by cases hr)⟩⟩
 ·simp only [Prod.mk.injEq] at h
  obtain ⟨rfl, rfl⟩ := h
  exact ⟨fun r hr => (by cases hr), fun r hr => hr, fun hn => ⟨hn, fun r hr => (by cases hr)⟩⟩
def consR (x : Option Row) (f : Nat → Option Row) : Nat → Option Row
 | 0 => x
 | k + 1 => f k
theorem vcFrz_ok {v : AV} {mc : Mem} {K : AV → Prop} (h : vcFrz v mc K) : ∃ r g n e sz f h0, v = .osl r g 0 n ∧ mc.get r = some (.vec e sz g n f) ∧ (∀ i, i < n → f i = up (h0 i)) ∧ K (.d (.sl sz n h0)) := by
 unfold vcFrz at h
 cases v <;> simp only at h <;> try exact h.elim
 rename_i r g off n
 split at h <;> try exact h.elim
 rename_i e0 sz g' k f hget
 cases hoff : Nat.beq off 0 with
 | false => rw [hoff] at h; exact h.elim
 | true =>
  rw [hoff] at h
  simp only [cond_true] at h
  have hoff := Nat.eq_of_beq_eq_true hoff
  subst hoff
  obtain ⟨hp, h1⟩ := obs_ok (l := [g' = g, k = n]) h
  have e1 : g' = g := hp _ (by simp)
  have e2 : k = n := hp _ (by simp)
  subst e1; subst e2
  obtain ⟨h0, hfe, hk⟩ := h1
  have hk := hk.o
  exact ⟨r, g', k, e0, sz, f, h0, rfl, hget, hfe, hk⟩
structure ExtX (P : Program) (m : Mem) (σ : Pls) (full rest : List Oper) (base : Nat) (env : Env) (rows : List Row) (K : Env → Prop) (As : Nat → AV) (took made : Nat → Option Row) : Prop where
 k : K (envsOf env rest As rest.length)
 does : ∀ (k : Nat) o, rest[k]? = some o → DoesX P m σ full o (envsOf env rest As k) (As k) (took k) (made k)
 madeAt : ∀ k r, made k = some r → r.idx = base + k ∧ ∃ o, rest[k]? = some o ∧ o.dst = some r.tmp
 tookAt : ∀ k r, took k = some r → (r ∈ rows ∨ ∃ j, j < k ∧ made j = some r) ∧ ∃ o, rest[k]? = some o ∧ r.tmp ∈ tmpsOf o.op
 once : ∀ k k' r r', took k = some r → took k' = some r' → r.idx = r'.idx → k = k'
theorem ExtX.cons {full rest : List Oper} {o : Oper} {base : Nat} {env : Env} {rows rows' : List Row} {K : Env → Prop} {As : Nat → AV} {took made : Nat → Option Row} {A : AV} {x y : Option Row}
  (hd : DoesX P m σ full o env A x y) (hy : ∀ r, y = some r → r.idx = base ∧ o.dst = some r.tmp) (hx : ∀ r, x = some r → r ∈ rows ∧ r.tmp ∈ tmpsOf o.op)
  (hr : ∀ r ∈ rows', r ∈ rows ∨ y = some r) (hxr : ∀ r, x = some r → ∀ r' ∈ rows', r'.idx ≠ r.idx) (hlt : ∀ r ∈ rows, r.idx < base)
  (h : ExtX P m σ full rest (base + 1) (stepE o A env) rows' K As took made) : ExtX P m σ full (o :: rest) base env rows K (consA A As) (consR x took) (consR y made) where
 k := by
  rw [List.length_cons, envsOf_cons]
  exact h.k
 does k o' ho := by
  cases k with
  | zero => simp at ho; subst ho; exact hd
  | succ k =>
   rw [envsOf_cons]
   exact h.does k o' (by simpa using ho)
 madeAt k r hk := by
  cases k with
  | zero =>
   obtain ⟨h1, h2⟩ := hy r hk
   exact ⟨by omega, o, rfl, h2⟩
  | succ k =>
   obtain ⟨h1, o', h2, h3⟩ := h.madeAt k r hk
   exact ⟨by omega, o', by simpa using h2, h3⟩
 tookAt k r hk := by
  cases k with
  | zero =>
   obtain ⟨h1, h2⟩ := hx r hk
   exact ⟨.inl h1, o, rfl, h2⟩
  | succ k =>
   obtain ⟨h1, o', h2, h3⟩ := h.tookAt k r hk
   refine ⟨?_, o', by simpa using h2, h3⟩
   rcases h1 with h1 | ⟨j, hj, h1⟩
   ·rcases hr r h1 with h4 | h4
    ·exact .inl h4
    ·exact .inr ⟨0, by omega, h4⟩
   ·exact .inr ⟨j + 1, by omega, h1⟩
 once k k' r r' hk hk' e := by
  have key : ∀ k r r', x = some r → took k = some r' → r.idx = r'.idx → False := fun k r r' h1 h2 e => by
   obtain ⟨h3, _⟩ := h.tookAt k r' h2
   rcases h3 with h3 | ⟨j, hj, h3⟩
   ·exact hxr r h1 r' h3 e.symm
   ·have := (h.madeAt j r' h3).1
    have := hlt r (hx r h1).1
    omega
  cases k with
  | zero => cases k' with
   | zero => rfl
   | succ k' => exact (key k' r r' hk hk' e).elim
  | succ k => cases k' with
   | zero => exact (key k r' r hk' hk e.symm).elim
   | succ k' => rw [h.once k k' r r' hk hk' e]
theorem vcX_ext (hT : TabOk P T) {full : List Oper} {K : Env → Prop} : ∀ (rest : List Oper) (base : Nat) (env : Env) (rows : List Row), (rows.map (·.idx)).Nodup → (∀ r ∈ rows, r.idx < base) → vcX P T full m rest base env rows K →
  ∃ As took made, ExtX P m σ full rest base env rows K As took made
 | [], base, env, rows, hn, hlt, h => ⟨fun _ => .junk, fun _ => none, fun _ => none, ⟨h, fun k o ho => (by simp at ho), fun k r h => (by cases h), fun k r h => (by cases h), fun k k' r r' h => (by cases h)⟩⟩
 | o :: r, base, env, rows, hn, hlt, h => by
  rw [vcX_cons] at h
  cases hc : chainOp full o with
  | false =>
   rw [hc] at h
   simp only [cond_false] at h
   have key : ∃ A, vcX P T full m r (base + 1) (stepE o A env) rows K ∧ DoesG P m σ full o env A := by
    have hs1 : ∀ t ∈ tmpsOf o.op, t ∈ slots full o := fun t ht => mem_app2.2 (.inl ht)
    split at h
    ·rename_i hg
     obtain ⟨A, hK, hD⟩ := vcR1_ok hT h
     refine ⟨A, setD_step hK, fun F w a hm he => ⟨fun _ => hD F w a hm (sel_ok fun t ht => he t (hs1 t ht)), fun hw => ?_⟩⟩
     simp [Region.wanted, hg] at hw
    ·rename_i j want hg
     have hs2 : ∀ t ∈ gTmp full (some (j, want)), t ∈ slots full o := fun t ht => mem_app2.2 (.inr (by rw [hg]; exact ht))
     split at h <;> try (cases h; done)
     rename_i g hgo
     have hw : ∀ (F : Nat → Prop) (w : World) (a : Act), (∀ t ∈ slots full o, Vc w F σ (get env t) (a.tmps.getD t undef)) → Region.wanted o (yielded full.toArray a.tmps) = g := fun F w a he => by
      simp only [Region.wanted, hg]
      exact guardOf_ok (sel_ok fun t ht => he t (hs2 t ht)) hgo
     split at h
     ·rename_i v l hr
      obtain ⟨hl, h⟩ := obs_ok h
      rw [frc_eq] at h
      refine ⟨.gd g v, setD_step h, fun F w a hm he => ?_⟩
      rw [hw F w a he]
      refine ⟨fun hgt => ?_, fun hgf w F => .gd (fun h => by rw [hgf] at h; cases h) fun _ => rfl⟩
      exact YieldR.mono (fun w F u hu => .gd (fun _ => hu) fun h => by rw [hgt] at h; cases h) (evRead_does hT hr (under_ok hl hgt) F w a hm (sel_ok fun t ht => he t (hs1 t ht)))
     ·cases g with
      | true =>
       obtain ⟨A, hK, hD⟩ := vcR1_ok hT (h.t rfl).o
       refine ⟨A, setD_step hK, fun F w a hm he => ⟨fun _ => hD F w a hm (sel_ok fun t ht => he t (hs1 t ht)), fun hwf => ?_⟩⟩
       rw [hw F w a he] at hwf
       cases hwf
      | false =>
       refine ⟨_, setD_step (h.f rfl).o, fun F w a hm he => ⟨fun hwt => ?_, fun _ w F => .gd (fun h => by cases h) fun _ => rfl⟩⟩
       rw [hw F w a he] at hwt
       cases hwt
   obtain ⟨A, hr, hD⟩ := key
   obtain ⟨As, took, made, hE⟩ := vcX_ext hT r (base + 1) _ rows hn (fun r hr => Nat.lt_succ_of_lt (hlt r hr)) hr
   exact ⟨_, _, _, hE.cons (x := none) (y := none) hD.x (fun r h => by cases h) (fun r h => by cases h) (fun r hr => .inl hr) (fun r h => by cases h) hlt⟩
  | true =>
   rw [hc] at h
   simp only [cond_true] at h
   have hg : o.guard = none := by
    unfold chainOp at hc
    split at hc
    ·cases hc
    ·rename_i h; exact h
   obtain ⟨x, rest', htk⟩ : ∃ x r', takeFor o.op rows = (x, r') := ⟨_, _, rfl⟩
   rw [htk] at h
   simp only at h
   obtain ⟨k1, k2, k3⟩ := takeFor_is htk
   obtain ⟨k4, k5⟩ := k3 hn
   split at h <;> try (cases h; done)
   rename_i v mc l hev
   split at h <;> try (cases h; done)
   rename_i d hd
   obtain ⟨hl, h⟩ := obs_ok h
   rw [frc_eq, frcM_eq] at h
   have hlt' : ∀ r ∈ rest', r.idx < base + 1 := fun r hr => Nat.lt_succ_of_lt (hlt r (k2 r hr))
   cases hf : feeds d full with
   | true =>
    rw [hf] at h
    simp only [cond_true] at h
    have hstep : stepE o .junk env = (d, .junk) :: env := by unfold stepE; rw [hd]
    obtain ⟨As, took, made, hE⟩ := vcX_ext hT r (base + 1) _ (⟨base, d, v, mc⟩ :: rest') (by
     simp only [List.map_cons, List.nodup_cons]
     refine ⟨fun hm => ?_, k4⟩
     obtain ⟨r2, hr2, e⟩ := List.mem_map.1 hm
     have := hlt r2 (k2 r2 hr2)
     omega) (fun r hr => by
      rcases List.mem_cons.1 hr with rfl | hr
      ·exact Nat.lt_succ_self _
      ·exact hlt' r hr) h
    rw [← hstep] at hE
    refine ⟨_, _, _, hE.cons (x := x) (y := some ⟨base, d, v, mc⟩) (fun F w a σr hm hs hx => ?_) (fun r h => by cases h; exact ⟨rfl, hd⟩) k1 (fun r hr => ?_) (fun r hr r' hr' => ?_) hlt⟩
    ·obtain ⟨hw, n, u, w', σ', g1, g2, g3, g4, g5, g6⟩ := chain_does hT hg hev hl hm hs hx
     refine ⟨fun _ => ?_, fun hwf => by rw [hw] at hwf; cases hwf⟩
     have hY : YieldV P σ σr F w .junk x (some ⟨base, d, v, mc⟩) u w' := ⟨F, g5, .junk, fun r hr => by cases hr; exact ⟨σ', g4, g3, g6⟩⟩
     rw [g1]
     rcases g2 with rfl | ⟨rfl, rfl⟩
     ·exact hY
     ·exact hY
    ·rcases List.mem_cons.1 hr with rfl | hr
     ·exact .inr rfl
     ·exact .inl (k2 r hr)
    ·rcases List.mem_cons.1 hr' with rfl | hr'
     ·have := hlt r (k1 r hr).1
      show base ≠ r.idx
      omega
     ·exact k5 r hr r' hr'
   | false =>
    rw [hf] at h
    simp only [cond_false] at h
    obtain ⟨rr, g', k, e0, sz, f, h0, rfl, hget, hfe, hk⟩ := vcFrz_ok h
    ·skip
     have hstep : stepE o (.d (.sl sz k h0)) env = (d, .d (.sl sz k h0)) :: env := by unfold stepE; rw [hd]
     obtain ⟨As, took, made, hE⟩ := vcX_ext hT r (base + 1) _ rest' k4 hlt' hk
     rw [← hstep] at hE
     refine ⟨_, _, _, hE.cons (x := x) (y := none) (fun F w a σr hm hs hx => ?_) (fun r h => by cases h) k1 (fun r hr => .inl (k2 r hr)) k5 hlt⟩
     obtain ⟨hw, n, u, w', σ', g1, g2, g3, g4, g5, g6⟩ := chain_does hT hg hev hl hm hs hx
     refine ⟨fun _ => ?_, fun hwf => by rw [hw] at hwf; cases hwf⟩
     have hrd := osl_data (F' := fun b => F b ∨ Owned σ' b) g4 (fun b hb => .inl hb) g3 hget (by omega) hfe (fun pl b tot h1 h2 => .inr ⟨_, pl, tot, h1, h2⟩)
     have e3 : (fun i => h0 (0 + i)) = h0 := by funext i; rw [Nat.zero_add]
     rw [e3] at hrd
     have hY : YieldV P σ σr F w (.d (.sl sz k h0)) x none u w' := ⟨fun b => F b ∨ Owned σ' b, ⟨g5.os, g5.tape, g5.output, g5.drawn, g5.size, g5.keep, fun b hb => .inl hb, fun b hb => hb.elim .inl fun h => .inr (g6 b h), fun b hb => hb.elim (g4.fl b) fun h => (owned_nf g4 b h).2⟩, .d hrd, fun r hr => by cases hr⟩
     rw [g1]
     rcases g2 with rfl | ⟨rfl, rfl⟩
     ·exact hY
     ·exact hY
end
section
variable {P : Program} {T : Tab} {m : Mem} {σ : Pls}
variable {ro : Option Nat}
theorem drawn_regionX {id N n : Nat} {ops : Array Oper} {F : Nat → Prop} {w : World} {a : Act} {env : Env} {K : Env → Prop} {Q : Exit → Act → World → Prop}
  (h1 : P.follows .mixedOrders = true) (h2 : okR ops.toList = true) (hT : TabOk P T) (hm : MemOk m σ F w) (hd : dstsIn N ops.toList = true) (h : vcX P T ops.toList m ops.toList 0 env [] K) (hN : a.tmps.size = N) (he : EnvOk env w F σ a.tmps)
  (hQ : ∀ env' a' w' F', K env' → a'.tmps.size = N → a'.defers = a.defers → Grew F w F' w' → EnvOk env' w' F' σ a'.tmps → Q .normal a' w') : (Code.region id ops true).wpIn (Fen ro) n P Q a w := by
 obtain ⟨As, took, made, hX⟩ := vcX_ext (σ := σ) hT ops.toList 0 env [] (by simp) (fun r hr => by simp at hr) h
 have hK := hX.k
 have hD := hX.does
 have hMade : ∀ k r, made k = some r → r.idx = k ∧ ∃ o, ops[k]? = some o ∧ o.dst = some r.tmp := fun k r hk => by
  obtain ⟨h1, o, h2, h3⟩ := hX.madeAt k r hk
  rw [Array.getElem?_toList] at h2
  exact ⟨by omega, o, h2, h3⟩
 have hTook : ∀ k r, took k = some r → r.idx < k ∧ made r.idx = some r ∧ ∃ o, ops[k]? = some o ∧ r.tmp ∈ tmpsOf o.op := fun k r hk => by
  obtain ⟨h1, o, h2, h3⟩ := hX.tookAt k r hk
  rw [Array.getElem?_toList] at h2
  rcases h1 with h1 | ⟨j, hj, h1⟩
  ·simp at h1
  ·have := (hMade j r h1).1
   subst this
   exact ⟨hj, h1, o, h2, h3⟩
 have hO : ∀ (i : Nat) o, ops[i]? = some o → OrdAt ops.toList i o := fun i o ho => by
  have := okFrom_at h2 i o (by rw [Array.getElem?_toList]; exact ho)
  rwa [Nat.zero_add] at this
 have hdst : ∀ (i : Nat) o d, ops[i]? = some o → o.dst = some d → d < N := by
  have : ∀ (l : List Oper), dstsIn N l = true → ∀ (i : Nat) o d, l[i]? = some o → o.dst = some d → d < N := by
   intro l
   induction l with
   | nil => intro _ i o d ho; simp at ho
   | cons x r ih =>
    intro hl i o d ho hdo
    simp only [dstsIn, Bool.and_eq_true] at hl
    cases i with
    | zero =>
     simp at ho
     subst ho
     have := hl.1
     rw [hdo] at this
     exact Nat.le_of_ble_eq_true this
    | succ i => exact ih hl.2 i o d (by simpa using ho) hdo
  exact fun i o d ho hdo => this ops.toList hd i o d (by rw [Array.getElem?_toList]; exact ho) hdo
 generalize hE : envsOf env ops.toList As ops.toList.length = E at hK
 have hsize : ops.toList.length = ops.size := Array.length_toList
 have hEd : ∀ (i : Nat) o d, ops[i]? = some o → o.dst = some d → ∀ k, i < k → k ≤ ops.toList.length → get (envsOf env ops.toList As k) d = As i := by
  intro i o d ho hdo k hk hkn
  have hol : ops.toList[i]? = some o := by rw [Array.getElem?_toList]; exact ho
  rw [envs_stable (i := i + 1) k (by omega) (fun j o' h3 h4 ho' hd' => by
    have := (hO i o ho).once d hdo j o' ho' hd'
    omega)]
  rw [envsOf, hol]
  exact get_step_self hdo
 have hE0 : ∀ t k, k ≤ ops.toList.length → (∀ (j : Nat) o, ops[j]? = some o → o.dst = some t → k ≤ j) → get (envsOf env ops.toList As k) t = get env t := fun t k hk hno =>
  envs_stable (i := 0) k (Nat.zero_le _) (fun j o _ hj ho hdo => by
   rw [Array.getElem?_toList] at ho
   have := hno j o ho hdo
   omega)
 let Live : Array Bool → Nat → Row → Prop := fun listed k r => made k = some r ∧ listed.getD k true = true ∧ ∀ k', took k' = some r → listed.getD k' true = false
 let Inv : Array Bool → Act → World → Prop := fun listed a' w' => a'.tmps.size = N ∧ a'.defers = a.defers ∧ (∀ (j : Nat) o, ops[j]? = some o → listed.getD j true = true → ∀ e ∈ o.after, Region.binds .any e = true → listed.getD e.on true = true) ∧
  ∃ (F' : Nat → Prop) (S : Nat → Pls), Grew F w F' w' ∧ (∀ t, (∀ (j : Nat) o, ops[j]? = some o → o.dst = some t → listed.getD j true = true → Vc w' F' σ (As j) (a'.tmps.getD t undef)) ∧
   ((∀ (j : Nat) o, ops[j]? = some o → o.dst = some t → listed.getD j true = false) → Vc w' F' σ (get env t) (a'.tmps.getD t undef))) ∧
   (∀ k r, Live listed k r → MemOk r.mem (S k) F' w' ∧ Vc w' F' (S k) r.val (a'.tmps.getD r.tmp undef) ∧ ∀ b, Owned (S k) b → w.heap.size ≤ b) ∧
   ∀ k r k2 r2, Live listed k r → Live listed k2 r2 → k ≠ k2 → ∀ b, Owned (S k) b → ¬ Owned (S k2) b
 have fin : ∀ listed a' w', (∀ i, i < ops.size → listed.getD i true = true) → Inv listed a' w' → Q .normal a' w' := fun listed a' w' hall ⟨i1, i2, _, F', S, i3, i4, _, _⟩ =>
  hQ E a' w' F' hK i1 i2 i3 fun t => by
   by_cases hex : ∃ (j : Nat) (o : Oper), ops[j]? = some o ∧ o.dst = some t
   ·obtain ⟨j, o, ho, hdo⟩ := hex
    have hj : j < ops.size := (Array.getElem?_eq_some_iff.1 ho).1
    rw [← hE, hEd j o t ho hdo _ (by omega) (Nat.le_refl _)]
    exact (i4 t).1 j o ho hdo (hall j hj)
   ·rw [← hE, hE0 t _ (Nat.le_refl _) (fun j o ho hdo => absurd ⟨j, o, ho, hdo⟩ hex)]
    exact (i4 t).2 fun j o ho hdo => absurd ⟨j, o, ho, hdo⟩ hex
 have main : ∀ (fuel : Nat) (listed : Array Bool) (a' : Act) (w' : World), listed.size = ops.size → unl listed.toList ≤ fuel → Inv listed a' w' → wpAnyIn (Fen ro) n P .any ops Q fuel listed a' w' := by
  intro fuel
  induction fuel with
  | zero =>
   intro listed a' w' hls hun hI
   have hall : ∀ i, i < ops.size → listed.getD i true = true := fun i hi => by
    rw [getD_list]
    cases hb : listed.toList[i]? with
    | none => rfl
    | some b => exact unl_zero (by omega) i b hb
   refine ⟨List.eq_nil_iff_forall_not_mem.2 fun i hi => ?_, fin _ _ _ hall hI⟩
   obtain ⟨g1, o, ho, _⟩ := mem_ready.1 hi
   rw [hall i (Array.getElem?_eq_some_iff.1 ho).1] at g1
   cases g1
  | succ fuel ih =>
   intro listed a' w' hls hun hI
   refine ⟨fun hnil => fin _ _ _ (fun i => ?_) hI, fun i hi => ?_⟩
   ·induction i using Nat.strongRecOn with
    | _ i ihi =>
     intro hi
     cases hb : listed.getD i true with
     | true => rfl
     | false =>
      exfalso
      have ho : ops[i]? = some ops[i] := Array.getElem?_eq_getElem hi
      have : i ∈ Region.ready .any ops listed := mem_ready.2 ⟨hb, _, ho, fun e he hbe => by
       have hlt := (hO i _ ho).back e he hbe
       have := ihi e.on hlt (by omega)
       rw [getD_list] at this ⊢
       have hin : e.on < listed.toList.length := by rw [Array.length_toList, hls]; omega
       rw [List.getElem?_eq_getElem hin] at this ⊢
       exact this⟩
      rw [hnil] at this
      cases this
   ·obtain ⟨g1, o, ho, g2⟩ := mem_ready.1 hi
    have hin : i < ops.size := (Array.getElem?_eq_some_iff.1 ho).1
    have hoi := hO i o ho
    obtain ⟨i1, i2, ic, F', S, i3, i4, i5, i6⟩ := hI
    have hmw : MemOk m σ F' w' := i3.mem hm
    have toT : ∀ j, j < ops.size → listed.getD j false = true → listed.getD j true = true := fun j hj h => by
     rw [getD_list] at h ⊢
     have hin2 : j < listed.toList.length := by rw [Array.length_toList, hls]; omega
     rw [List.getElem?_eq_getElem hin2] at h ⊢
     exact h
    have hslots : ∀ t ∈ slots ops.toList o, Vc w' F' σ (get (envsOf env ops.toList As i) t) (a'.tmps.getD t undef) := fun t ht => by
     by_cases hex : ∃ (j : Nat) (o' : Oper), ops[j]? = some o' ∧ o'.dst = some t
     ·obtain ⟨j, o', ho', hdo'⟩ := hex
      have hj : j < ops.size := (Array.getElem?_eq_some_iff.1 ho').1
      have honce : ∀ (j2 : Nat) o2, ops[j2]? = some o2 → o2.dst = some t → j2 = j := fun j2 o2 h3 h4 => (hO j o' ho').once t hdo' j2 o2 (by rw [Array.getElem?_toList]; exact h3) h4
      rcases hoi.defs t ht j o' (by rw [Array.getElem?_toList]; exact ho') hdo' with ⟨hji, e, hee, heon, heb⟩ | ⟨hij, hcase⟩
      ·rw [hEd j o' t ho' hdo' i hji (by omega)]
       refine (i4 t).1 j o' ho' hdo' ?_
       have := g2 e hee heb
       rw [heon] at this
       exact toT j hj this
      ·rw [hE0 t i (by omega) (fun j2 o2 h3 h4 => by rw [honce j2 o2 h3 h4]; exact hij)]
       refine (i4 t).2 fun j2 o2 h3 h4 => ?_
       have hj2 := honce j2 o2 h3 h4
       subst hj2
       rcases hcase with rfl | ⟨e, hee, heon, heb⟩
       ·exact g1
       ·cases hb : listed.getD j2 true with
        | false => rfl
        | true =>
         have := ic j2 o' ho' hb e hee heb
         rw [heon, g1] at this
         cases this
     ·rw [hE0 t i (by omega) (fun j2 o2 h3 h4 => absurd ⟨j2, o2, h3, h4⟩ hex)]
      exact (i4 t).2 fun j2 o2 h3 h4 => absurd ⟨j2, o2, h3, h4⟩ hex
    let σr : Pls := match took i with
     | some r => S r.idx
     | none => σ
    have hlive : ∀ r, took i = some r → Live listed r.idx r := fun r hr => by
     obtain ⟨g3, g4, o', g5, g6⟩ := hTook i r hr
     rw [ho] at g5
     cases g5
     obtain ⟨_, o2, g7, g8⟩ := hMade _ _ g4
     refine ⟨g4, ?_, fun k' hk' => by rw [hX.once k' i r r hk' hr rfl]; exact g1⟩
     rcases hoi.defs r.tmp (mem_app2.2 (.inl g6)) r.idx o2 (by rw [Array.getElem?_toList]; exact g7) g8 with ⟨hji, e, hee, heon, heb⟩ | ⟨hij, _⟩
     ·have := g2 e hee heb
      rw [heon] at this
      exact toT _ (Array.getElem?_eq_some_iff.1 g7).1 this
     ·omega
    have hσr : ∀ r, took i = some r → σr = S r.idx := fun r hr => by simp only [σr, hr]
    have hdoes := hD i o (by rw [Array.getElem?_toList]; exact ho) F' w' a' σr hmw hslots (fun r hr => by
     rw [hσr r hr]
     exact ⟨(i5 _ r (hlive r hr)).1, (i5 _ r (hlive r hr)).2.1⟩)
    have hy : ops.toList.toArray = ops := Array.toArray_toList
    rw [hy] at hdoes
    have hlist : listed.toList[i]? = some false := by
     rw [getD_list] at g1
     cases hb : listed.toList[i]? with
     | none => rw [hb] at g1; cases g1
     | some b => rw [hb] at g1; simp at g1; rw [g1]
    have next : ∀ (v : Value) (w2 : World), YieldV P σ σr F' w' (As i) (took i) (made i) v w2 → wpAnyIn (Fen ro) n P .any ops Q fuel (listed.setIfInBounds i true) (a'.put o.dst v) w2 := by
     rintro v w2 ⟨F2, hc, hv, hmk⟩
     have hBof : ∀ b, BOf (took i) σr b → ∃ r, took i = some r ∧ Owned (S r.idx) b := fun b hb => by
      cases ht : took i with
      | none => rw [ht] at hb; exact hb.elim
      | some r => rw [ht] at hb; rw [hσr r ht] at hb; exact ⟨r, rfl, hb⟩
     have hB0 : ∀ b, BOf (took i) σr b → w.heap.size ≤ b := fun b hb => by
      obtain ⟨r, hr, hb⟩ := hBof b hb
      exact (i5 _ r (hlive r hr)).2.2 b hb
     have hBF : ∀ b, BOf (took i) σr b → ¬ F' b := fun b hb => by
      obtain ⟨r, hr, hb⟩ := hBof b hb
      exact (owned_nf (i5 _ r (hlive r hr)).1 b hb).1
     have hg : Grew F w F2 w2 := hc.grew i3 hB0
     have hfz := hc.frozen hmw hBF
     have hset : ∀ j, j ≠ i → (listed.setIfInBounds i true).getD j true = listed.getD j true := fun j hne => by
      rw [getD_list, Array.toList_setIfInBounds, List.getElem?_set_ne (fun e => hne e.symm), ← getD_list]
     have hsetm : ∀ j, listed.getD j true = true → (listed.setIfInBounds i true).getD j true = true := fun j h => by
      by_cases e : j = i
      ·subst e; rw [h] at g1; cases g1
      ·rw [hset j e]; exact h
     have hseti : (listed.setIfInBounds i true).getD i true = true := by
      rw [getD_list, Array.toList_setIfInBounds, List.getElem?_set_self (by rw [Array.length_toList, hls]; exact hin)]
      rfl
     have hput : ∀ t, o.dst = some t → (a'.put o.dst v).tmps.getD t undef = v := fun t hdt => by
      have hdN := hdst i o t ho hdt
      rw [hdt]
      simp only [Act.put, Array.getD_eq_getD_getElem?]
      rw [Array.getElem?_setIfInBounds_self_of_lt (by rw [i1]; exact hdN)]
      rfl
     have hputn : ∀ t, o.dst ≠ some t → (a'.put o.dst v).tmps.getD t undef = a'.tmps.getD t undef := fun t hdt => by
      cases hdo : o.dst with
      | none => rfl
      | some d =>
       simp only [Act.put, Array.getD_eq_getD_getElem?]
       rw [Array.getElem?_setIfInBounds_ne (fun e => hdt (by rw [hdo, e]))]
     have hback : ∀ k r, k ≠ i → Live (listed.setIfInBounds i true) k r → Live listed k r ∧ took i ≠ some r := fun k r hne ⟨l1, l2, l3⟩ => by
      have hni : took i ≠ some r := fun e => by
       have := l3 i e
       rw [hseti] at this
       cases this
      refine ⟨⟨l1, by rw [← hset k hne]; exact l2, fun k' hk' => ?_⟩, hni⟩
      have hne' : k' ≠ i := fun e => hni (by rw [← e]; exact hk')
      rw [← hset k' hne']
      exact l3 k' hk'
     have hdisj : ∀ k r, k ≠ i → Live (listed.setIfInBounds i true) k r → ∀ b, BOf (took i) σr b → ¬ Owned (S k) b := fun k r hne hl b hb => by
      obtain ⟨r1, hr1, hb1⟩ := hBof b hb
      obtain ⟨hl', hni⟩ := hback k r hne hl
      refine i6 r1.idx r1 k r (hlive r1 hr1) hl' (fun e => hni ?_) b hb1
      have := (hlive r1 hr1).1
      rw [e, hl'.1] at this
      rw [hr1, this]
     obtain ⟨σ2, hσ2⟩ : ∃ σ2 : Pls, ∀ r, made i = some r → MemOk r.mem σ2 F2 w2 ∧ Vc w2 F2 σ2 r.val v ∧ ∀ b, Owned σ2 b → BOf (took i) σr b ∨ w'.heap.size ≤ b := by
      cases hmi : made i with
      | none => exact ⟨σ, fun r hr => by cases hr⟩
      | some r =>
       obtain ⟨σ2, q⟩ := hmk r hmi
       exact ⟨σ2, fun r' hr' => by cases hr'; exact q⟩
     let S2 : Nat → Pls := fun k => if k = i then σ2 else S k
     have hS2i : S2 i = σ2 := if_pos rfl
     have hS2n : ∀ k, k ≠ i → S2 k = S k := fun k h => if_neg h
     refine ih _ _ _ (by simp [hls]) ?_ ⟨by rw [put_size]; exact i1, by rw [put_defers]; exact i2, fun j o' ho' hj e he hb => ?_, F2, S2, hg, fun t => ?_, fun k r hl => ?_, fun k r k2 r2 hl hl2 hne b hb hb2 => ?_⟩
     ·have := unl_set hlist
      rw [Array.toList_setIfInBounds]
      omega
     ·by_cases hji : j = i
      ·subst hji
       rw [ho] at ho'
       cases ho'
       have hlt := hoi.back e he hb
       exact hsetm _ (toT _ (by omega) (g2 e he hb))
      ·rw [hset j hji] at hj
       exact hsetm _ (ic j o' ho' hj e he hb)
     ·have mono : ∀ {A u}, Vc w' F' σ A u → Vc w2 F2 σ A u := fun h => h.mono hc.fro hfz (SLe.refl σ)
      by_cases hdt : o.dst = some t
      ·rw [hput t hdt]
       refine ⟨fun j o' ho' hd' _ => ?_, fun hno => ?_⟩
       ·have := hoi.once t hdt j o' (by rw [Array.getElem?_toList]; exact ho') hd'
        subst this
        exact hv
       ·have := hno i o ho hdt
        rw [hseti] at this
        cases this
      ·rw [hputn t hdt]
       have hne : ∀ (j : Nat) o', ops[j]? = some o' → o'.dst = some t → j ≠ i := fun j o' ho' hd' e => by
        subst e
        rw [ho] at ho'
        cases ho'
        exact hdt hd'
       refine ⟨fun j o' ho' hd' hj => ?_, fun hno => ?_⟩
       ·rw [hset j (hne j o' ho' hd')] at hj
        exact mono ((i4 t).1 j o' ho' hd' hj)
       ·exact mono ((i4 t).2 fun j o' ho' hd' => by
         have := hno j o' ho' hd'
         rwa [hset j (hne j o' ho' hd')] at this)
     ·by_cases hk : k = i
      ·subst hk
       obtain ⟨q1, q2, q3⟩ := hσ2 r hl.1
       obtain ⟨_, o2, q4, q5⟩ := hMade _ _ hl.1
       rw [ho] at q4
       cases q4
       rw [hS2i, hput _ q5]
       refine ⟨q1, q2, fun b hb => ?_⟩
       rcases q3 b hb with h | h
       ·exact hB0 b h
       ·exact Nat.le_trans i3.size h
      ·obtain ⟨hl', hni⟩ := hback k r hk hl
       obtain ⟨q1, q2, q3⟩ := i5 k r hl'
       obtain ⟨_, o2, q4, q5⟩ := hMade _ _ hl'.1
       have hdt : o.dst ≠ some r.tmp := fun e => hk (hoi.once _ e k o2 (by rw [Array.getElem?_toList]; exact q4) q5)
       rw [hS2n k hk, hputn _ hdt]
       exact ⟨Chg.mem q1 hc (hdisj k r hk hl) hBF, q2.mono hc.fro hfz (SLe.refl _), q3⟩
     ·by_cases hk : k = i
      ·subst hk
       rw [hS2i] at hb
       rw [hS2n k2 (fun e => hne e.symm)] at hb2
       obtain ⟨hl2', _⟩ := hback k2 r2 (fun e => hne e.symm) hl2
       rcases (hσ2 r hl.1).2.2 b hb with h | h
       ·exact hdisj k2 r2 (fun e => hne e.symm) hl2 b h hb2
       ·have := (owned_nf (i5 k2 r2 hl2').1 b hb2).2
        omega
      ·obtain ⟨hl', _⟩ := hback k r hk hl
       rw [hS2n k hk] at hb
       by_cases hk2 : k2 = i
       ·subst hk2
        rw [hS2i] at hb2
        rcases (hσ2 r2 hl2.1).2.2 b hb2 with h | h
        ·exact hdisj k r hk hl b h hb
        ·have := (owned_nf (i5 k r hl').1 b hb).2
         omega
       ·obtain ⟨hl2', _⟩ := hback k2 r2 hk2 hl2
        rw [hS2n k2 hk2] at hb2
        exact i6 k r k2 r2 hl' hl2' hne b hb hb2
    unfold wpOpIn
    simp only [ho]
    cases hw : Region.wanted o (yielded ops a'.tmps) with
    | false =>
     simp only [Bool.false_eq_true, if_false]
     obtain ⟨t1, t2, t3⟩ := hdoes.2 hw
     exact ⟨fun _ _ => trivial, next _ _ ⟨F', (Grew.refl hmw.fl).chg, t3 _ _, fun r hr => by rw [t2] at hr; cases hr⟩⟩
    | true =>
     simp only [if_true]
     have h3 := hdoes.1 hw
     have hdef : ∀ c, o.op ≠ .defer c := fun c hc => by
      simp only [execOp, hc, Sem.run_bind] at h3
      cases hr : (resolve a'.eval c o.type).run P w' <;> simp [hr, Result.andThen, YieldX] at h3
     refine wpIn_at hdef ?_
     generalize (execOp a'.eval o).run P w' = r at h3
     cases r with
     | ok x w2 =>
      cases x <;> simp only [YieldX] at h3 <;> simp only [Oper.uponIn]
      case value u => exact next u w2 h3
      case skip => exact next undef w2 h3
      case enter f args =>
       obtain ⟨t1, t2, e1, hc⟩ := h3
       rw [e1]
       exact ⟨Fen_depth, callsFen.2 (hc.mono fun e w3 ⟨u, F3, he, k1, k2⟩ => by subst he; exact next u w3 ⟨F3, k1.chg, k2, fun r hr => by rw [t2] at hr; cases hr⟩)⟩
     | halt x w2 => simp only [YieldX] at h3
 have hrep : ∀ j, j < ops.size → (Array.replicate ops.size false).getD j true = false := fun j hj => by
  rw [getD_list, Array.toList_replicate, List.getElem?_replicate, if_pos hj]
  rfl
 refine wpIn_region_any h1 (main ops.size _ a _ (by simp) ?_ ⟨hN, rfl, fun j o ho hj => ?_, F, fun _ => σ, Grew.drew hm.fl, fun t => ⟨fun j o ho _ hj => ?_, fun _ => ?_⟩, fun k r hl => ?_, fun k r k2 r2 hl => ?_⟩)
 ·have : ∀ k, unl (List.replicate k false) = k := fun k => by
   induction k with
   | zero => rfl
   | succ k ih => rw [List.replicate_succ, unl, ih]; simp; omega
  rw [Array.toList_replicate, this]
  exact Nat.le_refl _
 ·rw [hrep j (Array.getElem?_eq_some_iff.1 ho).1] at hj
  cases hj
 ·rw [hrep j (Array.getElem?_eq_some_iff.1 ho).1] at hj
  cases hj
 ·exact Vc.mono (w := w) (w' := { w with drawn := w.drawn + 1 }) (fun _ h => h) (fun _ _ => rfl) (SLe.refl σ) (he t)
 ·obtain ⟨_, o, ho, _⟩ := hMade k r hl.1
  have := hl.2.1
  rw [hrep k (Array.getElem?_eq_some_iff.1 ho).1] at this
  cases this
 ·obtain ⟨_, o, ho, _⟩ := hMade k r hl.1
  have := hl.2.1
  rw [hrep k (Array.getElem?_eq_some_iff.1 ho).1] at this
  cases this
end
end Go.Ab
/-
 The engine, part AC: statements that leave their order open, and end in one operation that turns memory.
-/
namespace Go.Ab
set_option linter.unusedSimpArgs false
set_option linter.unusedVariables false
def anyEdge (i : Nat) : Nat → List Oper → Bool
 | _, [] => false
 | j, o :: r => (Nat.blt i j && edgeOn o.after.toList i) || anyEdge i (j + 1) r
def allLater (full : List Oper) : Nat → Bool
 | 0 => true
 | i + 1 => anyEdge i 0 full && allLater full i
def splitLast : List Oper → Option (List Oper × Oper)
 | [] => none
 | [o] => some ([], o)
 | o :: r => match splitLast r with
  | some (p, l) => some (o :: p, l)
  | none => none
def isCopy : Op → Bool
 | .call { callee := .builtin .copy, .. } => true
 | .store _ _ _ => true
 | _ => false
def lenO : List Oper → Nat
 | [] => 0
 | _ :: r => lenO r + 1
def noG : Option (Nat × Bool) → Bool
 | none => true
 | some _ => false
/-- Does the statement end in one operation that turns memory, behind all others? -/
def lastEff (full : List Oper) : Bool := match splitLast full with
 | some (pre, o) => isCopy o.op && (noG o.guard && allLater full (lenO pre))
 | none => false
noncomputable def vcL (P : Program) (T : Tab) (full : List Oper) (m : Mem) (env : Env) (K : Env → Mem → Prop) : Prop := match splitLast full with
 | some (pre, o) => vcR P T full m pre env fun env => Ev (vcOp P T o env m K)
 | none => False
theorem lenO_eq (l : List Oper) : lenO l = l.length := by
 induction l with
 | nil => rfl
 | cons o r ih => simp [lenO, ih]
theorem splitLast_is : ∀ {l pre : List Oper} {o : Oper}, splitLast l = some (pre, o) → l = pre ++ [o]
 | [], pre, o, h => by simp [splitLast] at h
 | [x], pre, o, h => by simp [splitLast] at h; obtain ⟨rfl, rfl⟩ := h; rfl
 | x :: y :: r, pre, o, h => by
  simp only [splitLast] at h
  split at h <;> try (cases h; done)
  rename_i p l hp
  simp only [Option.some.injEq, Prod.mk.injEq] at h
  obtain ⟨rfl, rfl⟩ := h
  rw [splitLast_is hp]
  rfl
theorem anyEdge_at {i : Nat} : ∀ {l : List Oper} {k : Nat}, anyEdge i k l = true → ∃ (j : Nat) (o : Oper), i < k + j ∧ l[j]? = some o ∧ ∃ e ∈ o.after, e.on = i ∧ Region.binds .any e = true
 | [], k, h => by simp [anyEdge] at h
 | x :: r, k, h => by
  simp only [anyEdge, Bool.or_eq_true, Bool.and_eq_true] at h
  rcases h with ⟨h1, h2⟩ | h
  ·unfold edgeOn at h2
   obtain ⟨e, he, h⟩ := List.any_eq_true.1 h2
   simp only [Bool.and_eq_true] at h
   exact ⟨0, x, Nat.le_of_ble_eq_true h1, rfl, e, Array.mem_toList_iff.1 he, Nat.eq_of_beq_eq_true h.1, h.2⟩
  ·obtain ⟨j, o, h1, h2, h3⟩ := anyEdge_at h
   exact ⟨j + 1, o, by omega, by simpa using h2, h3⟩
theorem allLater_at {full : List Oper} : ∀ {n : Nat}, allLater full n = true → ∀ i, i < n → ∃ (j : Nat) (o : Oper), i < j ∧ full[j]? = some o ∧ ∃ e ∈ o.after, e.on = i ∧ Region.binds .any e = true
 | 0, _, i, hi => by omega
 | n + 1, h, i, hi => by
  simp only [allLater, Bool.and_eq_true] at h
  by_cases e : i = n
  ·subst e
   obtain ⟨j, o, h1, h2⟩ := anyEdge_at h.1
   exact ⟨j, o, by omega, h2⟩
  ·exact allLater_at h.2 i (by omega)
theorem envsOf_pre (env : Env) (pre post : List Oper) (As : Nat → AV) : ∀ k, k ≤ pre.length → envsOf env (pre ++ post) As k = envsOf env pre As k
 | 0, _ => rfl
 | k + 1, h => by
  rw [envsOf, envsOf, List.getElem?_append_left (by omega), envsOf_pre env pre post As k (by omega)]
section
variable {P : Program} {T : Tab} {m : Mem} {σ : Pls}
variable {ro : Option Nat}
theorem drawn_last {id N : Nat} {ops : Array Oper} {F : Nat → Prop} {w : World} {a : Act} {env : Env} {K : Env → Mem → Prop} {Q : Exit → Act → World → Prop}
  (h1 : P.follows .mixedOrders = true) (h2 : okR ops.toList = true) (hT : TabOk P T) (hm : MemOk m σ F w) (hd : dstsIn N ops.toList = true) {pre : List Oper} {oL : Oper} (hsp : ops.toList = pre ++ [oL]) (hgL : oL.guard = none) (hlat : allLater ops.toList pre.length = true) (h : vcR P T ops.toList m pre env fun env => Ev (vcOp P T oL env m K)) (hN : a.tmps.size = N) (he : EnvOk env w F σ a.tmps)
  (hQ : ∀ env' m' a' w' σ' F', K env' m' → a'.tmps.size = N → a'.defers = a.defers → EnvOk env' w' F' σ' a'.tmps → MemOk m' σ' F' w' → Step σ F w σ' F' w' → SLe σ σ' → Q .normal a' w') : (Code.region id ops true).wpIn (Fen ro) 0 P Q a w := by
 obtain ⟨As, hK, hD0⟩ := vcR_ext (σ := σ) hT pre env h
 have hpl : ∀ (k : Nat) o, k < pre.length → ops[k]? = some o → pre[k]? = some o := fun k o hk ho => by
  rw [← Array.getElem?_toList, hsp, List.getElem?_append_left hk] at ho
  exact ho
 have hEp : ∀ k, k ≤ pre.length → envsOf env ops.toList As k = envsOf env pre As k := fun k hk => by
  rw [hsp]
  exact envsOf_pre env pre [oL] As k hk
 have hlen : ops.toList.length = pre.length + 1 := by rw [hsp]; simp
 have hLast : ops[pre.length]? = some oL := by rw [← Array.getElem?_toList, hsp]; simp
 have hD : ∀ (k : Nat) o, k < pre.length → ops[k]? = some o → DoesG P m σ ops.toList o (envsOf env ops.toList As k) (As k) := fun k o hk ho => by
  rw [hEp k (by omega)]
  exact hD0 k o (hpl k o hk ho)
 have hO : ∀ (i : Nat) o, ops[i]? = some o → OrdAt ops.toList i o := fun i o ho => by
  have := okFrom_at h2 i o (by rw [Array.getElem?_toList]; exact ho)
  rwa [Nat.zero_add] at this
 have hdst : ∀ (i : Nat) o d, ops[i]? = some o → o.dst = some d → d < N := by
  have : ∀ (l : List Oper), dstsIn N l = true → ∀ (i : Nat) o d, l[i]? = some o → o.dst = some d → d < N := by
   intro l
   induction l with
   | nil => intro _ i o d ho; simp at ho
   | cons x r ih =>
    intro hl i o d ho hdo
    simp only [dstsIn, Bool.and_eq_true] at hl
    cases i with
    | zero =>
     simp at ho
     subst ho
     have := hl.1
     rw [hdo] at this
     exact Nat.le_of_ble_eq_true this
    | succ i => exact ih hl.2 i o d (by simpa using ho) hdo
  exact fun i o d ho hdo => this ops.toList hd i o d (by rw [Array.getElem?_toList]; exact ho) hdo
 rw [← hEp pre.length (Nat.le_refl _)] at hK
 generalize hE : envsOf env ops.toList As pre.length = E at hK
 have hsize : ops.toList.length = ops.size := Array.length_toList
 have hEd : ∀ (i : Nat) o d, ops[i]? = some o → o.dst = some d → ∀ k, i < k → k ≤ ops.toList.length → get (envsOf env ops.toList As k) d = As i := by
  intro i o d ho hdo k hk hkn
  have hol : ops.toList[i]? = some o := by rw [Array.getElem?_toList]; exact ho
  rw [envs_stable (i := i + 1) k (by omega) (fun j o' h3 h4 ho' hd' => by
    have := (hO i o ho).once d hdo j o' ho' hd'
    omega)]
  rw [envsOf, hol]
  exact get_step_self hdo
 have hE0 : ∀ t k, k ≤ ops.toList.length → (∀ (j : Nat) o, ops[j]? = some o → o.dst = some t → k ≤ j) → get (envsOf env ops.toList As k) t = get env t := fun t k hk hno =>
  envs_stable (i := 0) k (Nat.zero_le _) (fun j o _ hj ho hdo => by
   rw [Array.getElem?_toList] at ho
   have := hno j o ho hdo
   omega)
 let Inv : Array Bool → Act → World → Prop := fun listed a' w' => listed.getD pre.length true = false ∧ a'.tmps.size = N ∧ a'.defers = a.defers ∧ (∀ (j : Nat) o, ops[j]? = some o → listed.getD j true = true → ∀ e ∈ o.after, Region.binds .any e = true → listed.getD e.on true = true) ∧
  ∃ F', Grew F w F' w' ∧ ∀ t, (∀ (j : Nat) o, ops[j]? = some o → o.dst = some t → listed.getD j true = true → Vc w' F' σ (As j) (a'.tmps.getD t undef)) ∧
   ((∀ (j : Nat) o, ops[j]? = some o → o.dst = some t → listed.getD j true = false) → Vc w' F' σ (get env t) (a'.tmps.getD t undef))
 have done : ∀ (fuel : Nat) (listed : Array Bool) (a' : Act) (w' : World), listed.size = ops.size → (∀ i, i < ops.size → listed.getD i true = true) → Q .normal a' w' → wpAnyIn (Fen ro) 0 P .any ops Q fuel listed a' w' := by
  intro fuel listed a' w' hls hall hq
  have hnil : Region.ready .any ops listed = [] := List.eq_nil_iff_forall_not_mem.2 fun i hi => by
   obtain ⟨g1, o, ho, _⟩ := mem_ready.1 hi
   rw [hall i (Array.getElem?_eq_some_iff.1 ho).1] at g1
   cases g1
  cases fuel with
  | zero => exact ⟨hnil, hq⟩
  | succ fuel => exact ⟨fun _ => hq, fun i hi => by rw [hnil] at hi; cases hi⟩
 have hLater : ∀ i, i < pre.length → ∃ j o, i < j ∧ ops[j]? = some o ∧ ∃ e ∈ o.after, e.on = i ∧ Region.binds .any e = true := fun i hi => by
  obtain ⟨j, o, h1, h2, h3⟩ := allLater_at hlat i hi
  exact ⟨j, o, h1, by rw [← Array.getElem?_toList]; exact h2, h3⟩
 have main : ∀ (fuel : Nat) (listed : Array Bool) (a' : Act) (w' : World), listed.size = ops.size → unl listed.toList ≤ fuel → Inv listed a' w' → wpAnyIn (Fen ro) 0 P .any ops Q fuel listed a' w' := by
  intro fuel
  induction fuel with
  | zero =>
   intro listed a' w' hls hun hI
   have hall : ∀ i, i < ops.size → listed.getD i true = true := fun i hi => by
    rw [getD_list]
    cases hb : listed.toList[i]? with
    | none => rfl
    | some b => exact unl_zero (by omega) i b hb
   have := hall pre.length (by omega)
   rw [hI.1] at this
   cases this
  | succ fuel ih =>
   intro listed a' w' hls hun hI
   refine ⟨fun hnil => ?_, fun i hi => ?_⟩
   ·exfalso
    have hall : ∀ i, i < ops.size → listed.getD i true = true := by
     intro i
     induction i using Nat.strongRecOn with
     | _ i ihi =>
      intro hi
      cases hb : listed.getD i true with
      | true => rfl
      | false =>
       exfalso
       have ho : ops[i]? = some ops[i] := Array.getElem?_eq_getElem hi
       have : i ∈ Region.ready .any ops listed := mem_ready.2 ⟨hb, _, ho, fun e he hbe => by
        have hlt := (hO i _ ho).back e he hbe
        have := ihi e.on hlt (by omega)
        rw [getD_list] at this ⊢
        have hin : e.on < listed.toList.length := by rw [Array.length_toList, hls]; omega
        rw [List.getElem?_eq_getElem hin] at this ⊢
        exact this⟩
       rw [hnil] at this
       cases this
    have := hall pre.length (by omega)
    rw [hI.1] at this
    cases this
   ·obtain ⟨g1, o, ho, g2⟩ := mem_ready.1 hi
    have hin : i < ops.size := (Array.getElem?_eq_some_iff.1 ho).1
    have hoi := hO i o ho
    obtain ⟨i0, i1, i2, ic, F', i3, i4⟩ := hI
    have hmw : MemOk m σ F' w' := i3.mem hm
    have toT : ∀ j, j < ops.size → listed.getD j false = true → listed.getD j true = true := fun j hj h => by
     rw [getD_list] at h ⊢
     have hin2 : j < listed.toList.length := by rw [Array.length_toList, hls]; omega
     rw [List.getElem?_eq_getElem hin2] at h ⊢
     exact h
    by_cases hiL : i = pre.length
    ·subst hiL
     rw [hLast] at ho
     cases ho
     have hall : ∀ k, k < pre.length → listed.getD k true = true := by
      have : ∀ d k, k < pre.length → pre.length - k ≤ d → listed.getD k true = true := by
       intro d
       induction d with
       | zero => intro k hk hd; omega
       | succ d ihd =>
        intro k hk hd
        obtain ⟨j, o2, h3, h4, e, h5, h6, h7⟩ := hLater k hk
        have hj : j < ops.size := (Array.getElem?_eq_some_iff.1 h4).1
        by_cases hjL : j = pre.length
        ·subst hjL
         rw [hLast] at h4
         cases h4
         have := g2 e h5 h7
         rw [h6] at this
         exact toT k (by omega) this
        ·have := ic j o2 h4 (ihd j (by omega) (by omega)) e h5 h7
         rw [h6] at this
         exact this
      exact fun k hk => this pre.length k hk (by omega)
     have he' : EnvOk E w' F' σ a'.tmps := fun t => by
      by_cases hex : ∃ (j : Nat) (o : Oper), j < pre.length ∧ ops[j]? = some o ∧ o.dst = some t
      ·obtain ⟨j, o, hj, ho, hdo⟩ := hex
       rw [← hE, hEd j o t ho hdo _ hj (by omega)]
       exact (i4 t).1 j o ho hdo (hall j hj)
      ·rw [← hE, hE0 t _ (by omega) (fun j o ho hdo => by
        rcases Nat.lt_or_ge j pre.length with h | h
        ·exact absurd ⟨j, o, h, ho, hdo⟩ hex
        ·exact h)]
       exact (i4 t).2 fun j o ho hdo => by
        rcases Nat.lt_or_ge j pre.length with h | h
        ·exact absurd ⟨j, o, h, ho, hdo⟩ hex
        ·have hj : j < ops.size := (Array.getElem?_eq_some_iff.1 ho).1
         rw [show j = pre.length by omega]
         exact i0
     have hw : Region.wanted oL (yielded ops a'.tmps) = true := by simp [Region.wanted, hgL]
     unfold wpOpIn
     simp only [hLast, hw, if_true]
     refine vcOp_ok hT hK.o (N := N) ?_ i1 he' hmw fun env' m' v w2 σ' F2 k1 k2 k3 k4 k5 => ?_
     ·cases hdo : oL.dst with
      | none => rfl
      | some d => exact Nat.ble_eq_true_of_le (hdst _ _ d hLast hdo)
     refine done fuel _ _ _ (by simp [hls]) (fun k hk => ?_) (hQ env' m' _ w2 σ' F2 k1 (by rw [put_size]; exact i1) (by rw [put_defers]; exact i2) k2 k3 ((i3.step σ).trans k4) k5)
     by_cases hkL : k = pre.length
     ·subst hkL
      rw [getD_list, Array.toList_setIfInBounds, List.getElem?_set_self (show pre.length < listed.toList.length by rw [show listed.toList.length = ops.size from Array.length_toList.trans hls]; exact hk)]
      rfl
     ·rw [getD_list, Array.toList_setIfInBounds, List.getElem?_set_ne (fun e => hkL e.symm), ← getD_list]
      exact hall k (by omega)
    have hiP : i < pre.length := by omega
    have hslots : ∀ t ∈ slots ops.toList o, Vc w' F' σ (get (envsOf env ops.toList As i) t) (a'.tmps.getD t undef) := fun t ht => by
     by_cases hex : ∃ (j : Nat) (o' : Oper), ops[j]? = some o' ∧ o'.dst = some t
     ·obtain ⟨j, o', ho', hdo'⟩ := hex
      have hj : j < ops.size := (Array.getElem?_eq_some_iff.1 ho').1
      have honce : ∀ (j2 : Nat) o2, ops[j2]? = some o2 → o2.dst = some t → j2 = j := fun j2 o2 h3 h4 => (hO j o' ho').once t hdo' j2 o2 (by rw [Array.getElem?_toList]; exact h3) h4
      rcases hoi.defs t ht j o' (by rw [Array.getElem?_toList]; exact ho') hdo' with ⟨hji, e, hee, heon, heb⟩ | ⟨hij, hcase⟩
      ·rw [hEd j o' t ho' hdo' i hji (by omega)]
       refine (i4 t).1 j o' ho' hdo' ?_
       have := g2 e hee heb
       rw [heon] at this
       exact toT j hj this
      ·rw [hE0 t i (by omega) (fun j2 o2 h3 h4 => by rw [honce j2 o2 h3 h4]; exact hij)]
       refine (i4 t).2 fun j2 o2 h3 h4 => ?_
       have hj2 := honce j2 o2 h3 h4
       subst hj2
       rcases hcase with rfl | ⟨e, hee, heon, heb⟩
       ·exact g1
       ·cases hb : listed.getD j2 true with
        | false => rfl
        | true =>
         have := ic j2 o' ho' hb e hee heb
         rw [heon, g1] at this
         cases this
     ·rw [hE0 t i (by omega) (fun j2 o2 h3 h4 => absurd ⟨j2, o2, h3, h4⟩ hex)]
      exact (i4 t).2 fun j2 o2 h3 h4 => absurd ⟨j2, o2, h3, h4⟩ hex
    have hdoes := hD i o hiP ho F' w' a' hmw hslots
    have hy : ops.toList.toArray = ops := Array.toArray_toList
    rw [hy] at hdoes
    have hlist : listed.toList[i]? = some false := by
     rw [getD_list] at g1
     cases hb : listed.toList[i]? with
     | none => rw [hb] at g1; cases g1
     | some b => rw [hb] at g1; simp at g1; rw [g1]
    have next : ∀ (v : Value) (w2 : World) (F2 : Nat → Prop), Grew F' w' F2 w2 → Vc w2 F2 σ (As i) v → wpAnyIn (Fen ro) 0 P .any ops Q fuel (listed.setIfInBounds i true) (a'.put o.dst v) w2 := by
     intro v w2 F2 hg hv
     have hset : ∀ j, j ≠ i → (listed.setIfInBounds i true).getD j true = listed.getD j true := fun j hne => by
      rw [getD_list, Array.toList_setIfInBounds, List.getElem?_set_ne (fun e => hne e.symm), ← getD_list]
     have hsetm : ∀ j, listed.getD j true = true → (listed.setIfInBounds i true).getD j true = true := fun j h => by
      by_cases e : j = i
      ·subst e; rw [h] at g1; cases g1
      ·rw [hset j e]; exact h
     have hseti : (listed.setIfInBounds i true).getD i true = true := by
      rw [getD_list, Array.toList_setIfInBounds, List.getElem?_set_self (by rw [Array.length_toList, hls]; exact hin)]
      rfl
     refine ih _ _ _ (by simp [hls]) ?_ ⟨by rw [hset _ (fun e => hiL e.symm)]; exact i0, by rw [put_size]; exact i1, by rw [put_defers]; exact i2, fun j o' ho' hj e he hb => ?_, F2, i3.trans hg, fun t => ?_⟩
     ·have := unl_set hlist
      rw [Array.toList_setIfInBounds]
      omega
     ·by_cases hji : j = i
      ·subst hji
       rw [ho] at ho'
       cases ho'
       have hlt := hoi.back e he hb
       exact hsetm _ (toT _ (by omega) (g2 e he hb))
      ·rw [hset j hji] at hj
       exact hsetm _ (ic j o' ho' hj e he hb)
     ·have mono : ∀ {A u}, Vc w' F' σ A u → Vc w2 F2 σ A u := fun h => h.mono hg.fro (fun b hb => hg.keep b (i3.lt b hb)) (SLe.refl σ)
      by_cases hdt : o.dst = some t
      ·have hdN := hdst i o t ho hdt
       have hval : (a'.put o.dst v).tmps.getD t undef = v := by
        rw [hdt]
        simp only [Act.put, Array.getD_eq_getD_getElem?]
        rw [Array.getElem?_setIfInBounds_self_of_lt (by rw [i1]; exact hdN)]
        rfl
       rw [hval]
       refine ⟨fun j o' ho' hd' _ => ?_, fun hno => ?_⟩
       ·have := hoi.once t hdt j o' (by rw [Array.getElem?_toList]; exact ho') hd'
        subst this
        exact hv
       ·have := hno i o ho hdt
        rw [hseti] at this
        cases this
      ·have hval : (a'.put o.dst v).tmps.getD t undef = a'.tmps.getD t undef := by
        cases hdo : o.dst with
        | none => rfl
        | some d =>
         simp only [Act.put, Array.getD_eq_getD_getElem?]
         rw [Array.getElem?_setIfInBounds_ne (fun e => hdt (by rw [hdo, e]))]
       rw [hval]
       have hne : ∀ (j : Nat) o', ops[j]? = some o' → o'.dst = some t → j ≠ i := fun j o' ho' hd' e => by
        subst e
        rw [ho] at ho'
        cases ho'
        exact hdt hd'
       refine ⟨fun j o' ho' hd' hj => ?_, fun hno => ?_⟩
       ·rw [hset j (hne j o' ho' hd')] at hj
        exact mono ((i4 t).1 j o' ho' hd' hj)
       ·exact mono ((i4 t).2 fun j o' ho' hd' => by
         have := hno j o' ho' hd'
         rwa [hset j (hne j o' ho' hd')] at this)
    unfold wpOpIn
    simp only [ho]
    cases hw : Region.wanted o (yielded ops a'.tmps) with
    | false =>
     simp only [Bool.false_eq_true, if_false]
     exact ⟨fun _ _ => trivial, next _ _ _ (Grew.refl hmw.fl) (hdoes.2 hw _ _)⟩
    | true =>
     simp only [if_true]
     have h3 := hdoes.1 hw
     have hdef : ∀ c, o.op ≠ .defer c := fun c hc => by
      simp only [execOp, hc, Sem.run_bind] at h3
      cases hr : (resolve a'.eval c o.type).run P w' <;> simp [hr, Result.andThen, YieldR] at h3
     refine wpIn_at hdef ?_
     generalize (execOp a'.eval o).run P w' = r at h3
     cases r with
     | ok x w2 =>
      cases x <;> simp only [YieldR] at h3 <;> simp only [Oper.uponIn]
      case value u =>
       obtain ⟨F2, k1, k2⟩ := h3
       exact next u w2 F2 k1 k2
      case enter f args =>
       obtain ⟨e1, hc⟩ := h3
       rw [e1]
       exact ⟨Fen_depth, callsFen.2 (hc.mono fun e w3 ⟨u, F3, he, k1, k2⟩ => by subst he; exact next u w3 F3 k1 k2)⟩
     | halt x w2 => simp only [YieldR] at h3
 have hrep : ∀ j, j < ops.size → (Array.replicate ops.size false).getD j true = false := fun j hj => by
  rw [getD_list, Array.toList_replicate, List.getElem?_replicate, if_pos hj]
  rfl
 refine wpIn_region_any h1 (main ops.size _ a _ (by simp) ?_ ⟨hrep _ (by omega), hN, rfl, fun j o ho hj => ?_, F, Grew.drew hm.fl, fun t => ⟨fun j o ho _ hj => ?_, fun _ => ?_⟩⟩)
 ·have : ∀ k, unl (List.replicate k false) = k := fun k => by
   induction k with
   | zero => rfl
   | succ k ih => rw [List.replicate_succ, unl, ih]; simp; omega
  rw [Array.toList_replicate, this]
  exact Nat.le_refl _
 ·rw [hrep j (Array.getElem?_eq_some_iff.1 ho).1] at hj
  cases hj
 ·rw [hrep j (Array.getElem?_eq_some_iff.1 ho).1] at hj
  cases hj
 ·exact Vc.mono (w := w) (w' := { w with drawn := w.drawn + 1 }) (fun _ h => h) (fun _ _ => rfl) (SLe.refl σ) (he t)
end
end Go.Ab
/-
 The engine, part N: code; loops; what a state may be taken for.
-/
namespace Go.Ab
set_option linter.unusedSimpArgs false
set_option linter.unusedVariables false

/-- Between two parts of the code: either way serves. -/
inductive Sq (p q : Prop) : Prop where
 | go (h : p)
 | alt (h : q)
noncomputable def vc (P : Program) (T : Tab) (N : Nat) (c : Code) : Env → Mem → Post → Prop :=
 Code.rec (motive := fun _ => Env → Mem → Post → Prop)
  (fun env m Q => Q .normal env m)
  (fun _ ops draw env m Q => bif dstsIn N ops.toList then match draw with
   | false => vcOps P T ops.toList ops.toList env m fun env m => Ev (Q .normal env m)
   | true => Dr (P.follows .mixedOrders = true ∧ okR ops.toList = true) (Ev (bif hasChain ops.toList ops.toList then vcX P T ops.toList m ops.toList 0 env [] fun env => Ev (Q .normal env m) else bif lastEff ops.toList then vcL P T ops.toList m env fun env m => Ev (Q .normal env m) else vcR P T ops.toList m ops.toList env fun env => Ev (Q .normal env m)))
  else False)
  (fun _ y ihx ihy env m Q => ihx env m fun e env m => match e with
  | .normal => Sq (Ev (ihy env m Q)) (Awp P N y env m Q)
  | .exit i => Q (.exit i) env m
  | .goto i => Q (.goto i) env m
  | .ret => Q .ret env m
  | .panic ch => Q (.panic ch) env m
  | .outgrown => Q .outgrown env m)
  (fun c _ _ ihx ihy env m Q => match strip (ev env c) with
  | (C, l) => match C with
   | .d (.bool b) => obs l (Br b (Ev (ihx env m Q)) (Ev (ihy env m Q)))
   | _ => False)
  (fun id _ ihx env m Q => ihx env m fun e env m => match e with
  | .exit i => bif Nat.beq i id then Q .normal env m else Q (.exit i) env m
  | .normal => Q .normal env m
  | .goto i => Q (.goto i) env m
  | .ret => Q .ret env m
  | .panic ch => Q (.panic ch) env m
  | .outgrown => Q .outgrown env m)
  (fun c _ env m Q => Awp P N (.loop c) env m Q)
  (fun f ps a c _ _ env m Q => Awp P N (.rangeFunc f ps a c) env m Q)
  (fun id env m Q => Q (.exit id) env m)
  (fun _ ihx env m Q => ihx env m fun e env m => match e with
  | .normal => Q .normal env m
  | .exit i => Q (.exit i) env m
  | .goto _ => False
  | .ret => Q .ret env m
  | .panic ch => Q (.panic ch) env m
  | .outgrown => Q .outgrown env m)
  (fun _ env m Q => Q .normal env m)
  (fun _ _ _ _ => False)
  (fun env m Q => Q .ret env m)
  (fun _ _ _ _ => False) c
theorem vc_region (P : Program) (T : Tab) (N id : Nat) (ops : Array Oper) (draw : Bool) (env : Env) (m : Mem) (Q : Post) : vc P T N (.region id ops draw) env m Q = bif dstsIn N ops.toList then match draw with
   | false => vcOps P T ops.toList ops.toList env m fun env m => Ev (Q .normal env m)
   | true => Dr (P.follows .mixedOrders = true ∧ okR ops.toList = true) (Ev (bif hasChain ops.toList ops.toList then vcX P T ops.toList m ops.toList 0 env [] fun env => Ev (Q .normal env m) else bif lastEff ops.toList then vcL P T ops.toList m env fun env m => Ev (Q .normal env m) else vcR P T ops.toList m ops.toList env fun env => Ev (Q .normal env m)))
  else False := rfl
theorem vc_cond (P : Program) (T : Tab) (N : Nat) (c : Operand) (x y : Code) (env : Env) (m : Mem) (Q : Post) : vc P T N (.cond c x y) env m Q = match strip (ev env c) with
  | (C, l) => match C with
   | .d (.bool b) => obs l (Br b (Ev (vc P T N x env m Q)) (Ev (vc P T N y env m Q)))
   | _ => False := rfl

section sound
variable {P : Program} {T : Tab}

theorem lift_trans {N : Nat} {Q : Post} {ro : Option Nat} {lo : Lo} {σ σ' : Pls} {F F' : Nat → Prop} {w w' : World} (hs : Step σ F w σ' F' w') (ha : SArg σ σ') {e : Exit} {a : Act} {w2 : World} (h : lift N Q ro lo σ' F' w' e a w2) : lift N Q ro lo σ F w e a w2 := by
 obtain ⟨env, m, σ2, F2, h1, h2, h3, h4, h5, h6, h7⟩ := h
 exact ⟨env, m, σ2, F2, h1, h2, h3, h4, h5, hs.trans h6, ha.trans h7⟩

theorem stepR_scope {P : Program} {b : Frame} {a : Act} {k : List Item} {cs : List Frame} {w : World} {c : Code} : step P (lone (b.atR a (.code (.scope c) :: k)) cs w) = .next (lone (b.atR a (.code c :: .inScope c :: k)) cs w) :=
 step_lone_go (by simp [stepG, stepG.exec, Frame.atR])
theorem stepR_inScope {P : Program} {b : Frame} {a : Act} {k : List Item} {cs : List Frame} {w : World} {c : Code} : step P (lone (b.atR a (.inScope c :: k)) cs w) = .next (lone (b.atR a k) cs w) :=
 step_lone_go (by simp [stepG, stepG.exec, Frame.atR])
theorem wpIn_scope_straight {F : Fence} {n : Nat} {P : Program} {Q : Exit → Act → World → Prop} {a : Act} {w : World} {c : Code} (h : c.wpIn F n P (fun e a w => (∀ l, e ≠ .goto l) ∧ Q e a w) a w) : (Code.scope c).wpIn F n P Q a w := by
 intro b k cs hro hb hr
 obtain ⟨e, a1, w1, ⟨hg, hq⟩, harr⟩ := h b (.inScope c :: k) cs hro hb hr
 have h0 : (lone (b.atR a (.code (.scope c) :: k)) cs w).fenced P F := fenced_calm hb hr rfl
 cases e with
 | normal => exact ⟨.normal, a1, w1, hq, .head h0 stepR_scope (StepsIn.trans harr (.one (fenced_calm hb hr rfl) stepR_inScope))⟩
 | exit id => exact ⟨.exit id, a1, w1, hq, .of_steps (.one h0 stepR_scope) ⟨fun k' hk => harr.1 k' (by simp [exitTo, hk]), fun hr' hk => harr.2 hr' (by simp [exitTo, hk])⟩⟩
 | goto l => exact absurd rfl (hg l)
 | ret => exact ⟨_, a1, w1, hq, .of_steps (.one h0 stepR_scope) harr⟩
 | panic ch => exact ⟨_, a1, w1, hq, .of_steps (.one h0 stepR_scope) harr⟩
 | outgrown => exact ⟨_, a1, w1, hq, .of_steps (.one h0 stepR_scope) harr⟩
theorem vc_ok (hT : TabOk P T) {N : Nat} : ∀ (c : Code) (env : Env) (m : Mem) (Q : Post), vc P T N c env m Q → Awp P N c env m Q
 | .skip, env, m, Q, h => ⟨fun ro lo a w σ F hN hD he hm => wpIn_skip ⟨env, m, σ, F, h, hN, hD, he, hm, Step.refl σ F w, SArg.refl σ⟩⟩
 | .region id ops draw, env, m, Q, h => ⟨fun ro lo a w σ F hN hD he hm => by
  rw [vc_region] at h
  cases hd : dstsIn N ops.toList with
  | false => rw [hd] at h; cases h
  | true =>
   rw [hd] at h
   simp only [cond_true] at h
   cases draw with
   | false =>
    refine wpIn_region_list (vcOps_ok hT (full := ops.toList) (by simp) ops.toList env m hd h a w F σ hN he hm ?_)
    intro env' m' a' w' σ' F' k1 k2 k3 k4 k5 k6 k7
    exact ⟨env', m', σ', F', k1.o, k2, by rw [k3]; exact hD.step k6, k4, k5, k6, .of k7⟩
   | true =>
    obtain ⟨⟨h1, h2⟩, ⟨h3⟩⟩ := h
    cases hch : hasChain ops.toList ops.toList with
    | true =>
     rw [hch] at h3
     simp only [cond_true, cond_false] at h3
     refine drawn_regionX h1 h2 hT hm hd h3 hN he fun env' a' w' F' hk hN' hD' hg he' => ?_
     exact ⟨env', m, σ, F', hk.o, hN', by rw [hD']; exact hD.step (hg.step σ), he', hg.mem hm, hg.step σ, SArg.refl σ⟩
    | false =>
     rw [hch] at h3
     simp only [cond_true, cond_false] at h3
     cases hle : lastEff ops.toList with
     | true =>
      rw [hle] at h3
      simp only [cond_true] at h3
      unfold vcL at h3
      unfold lastEff at hle
      cases hsp : splitLast ops.toList with
      | none => rw [hsp] at h3; exact h3.elim
      | some q =>
       obtain ⟨pre, oL⟩ := q
       rw [hsp] at h3 hle
       simp only [Bool.and_eq_true] at h3 hle
       rw [lenO_eq] at hle
       have hgL : oL.guard = none := by
        cases hg : oL.guard with
        | none => rfl
        | some g => rw [hg] at hle; exact absurd hle.2.1 (by simp [noG])
       refine drawn_last h1 h2 hT hm hd (splitLast_is hsp) hgL hle.2.2 h3 hN he fun env' m' a' w' σ' F' hk hN' hD' he' hm' hst hsl => ?_
       exact ⟨env', m', σ', F', hk.o, hN', by rw [hD']; exact hD.step hst, he', hm', hst, .of hsl⟩
     | false =>
     rw [hle] at h3
     simp only [cond_false] at h3
     refine drawn_region h1 h2 hT hm hd h3 hN he fun env' a' w' F' hk hN' hD' hg he' => ?_
     exact ⟨env', m, σ, F', hk.o, hN', by rw [hD']; exact hD.step (hg.step σ), he', hg.mem hm, hg.step σ, SArg.refl σ⟩⟩
 | .seq x y, env, m, Q, h => ⟨fun ro lo a w σ F hN hD he hm => by
  refine wpIn_seq (wpIn_mono ((vc_ok hT x env m _ h).run ro lo a w σ F hN hD he hm) ?_)
  rintro e a1 w1 ⟨env1, m1, σ1, F1, k1, k2, k3, k4, k5, k6, k7⟩
  cases e with
  | normal =>
   have k1 : Sq (Ev (vc P T N y env1 m1 Q)) (Awp P N y env1 m1 Q) := k1
   have hy : Awp P N y env1 m1 Q := match k1 with
    | .go h => vc_ok hT y env1 m1 Q h.o
    | .alt h => h
   exact wpIn_mono (hy.run ro lo a1 w1 σ1 F1 k2 k3 k4 k5) fun e a2 w2 h2 => lift_trans k6 k7 h2
  | _ => exact ⟨env1, m1, σ1, F1, k1, k2, k3, k4, k5, k6, k7⟩⟩
 | .cond c x y, env, m, Q, h => ⟨fun ro lo a w σ F hN hD he hm => by
  rw [vc_cond] at h
  split at h
  rename_i C l hb
  split at h <;> try (cases h; done)
  obtain ⟨hl, h⟩ := obs_ok h
  have hv := strip_ok (ev_ok he c) (by rw [hb]; exact hl)
  rw [hb] at hv
  refine wpIn_cond_split hv.bool (fun e => ?_) (fun e => ?_)
  ·exact (vc_ok hT x env m Q (h.t e).o).run ro lo a w σ F hN hD he hm
  ·exact (vc_ok hT y env m Q (h.f e).o).run ro lo a w σ F hN hD he hm⟩
 | .block id c, env, m, Q, h => ⟨fun ro lo a w σ F hN hD he hm => by
  refine wpIn_block (wpIn_mono ((vc_ok hT c env m _ h).run ro lo a w σ F hN hD he hm) ?_)
  rintro e a1 w1 ⟨env1, m1, σ1, F1, k1, k2⟩
  cases e with
  | exit i =>
   simp only [Exit.inBlock]
   cases hi : Nat.beq i id with
   | true =>
    have := Nat.eq_of_beq_eq_true hi
    subst this
    simp only [if_true]
    simp only [hi, cond_true] at k1
    exact ⟨env1, m1, σ1, F1, k1, k2⟩
   | false =>
    rw [if_neg (Nat.ne_of_beq_eq_false hi)]
    simp only [hi, cond_false] at k1
    exact ⟨env1, m1, σ1, F1, k1, k2⟩
  | _ => exact ⟨env1, m1, σ1, F1, k1, k2⟩⟩
 | .loop c, env, m, Q, h => h
 | .exit id, env, m, Q, h => ⟨fun ro lo a w σ F hN hD he hm => wpIn_exit ⟨env, m, σ, F, h, hN, hD, he, hm, Step.refl σ F w, SArg.refl σ⟩⟩
 | .ret, env, m, Q, h => ⟨fun ro lo a w σ F hN hD he hm => wpIn_ret ⟨env, m, σ, F, h, hN, hD, he, hm, Step.refl σ F w, SArg.refl σ⟩⟩
 | .rangeFunc .., env, m, Q, h => h
 | .scope c, env, m, Q, h => ⟨fun ro lo a w σ F hN hD he hm => by
  refine wpIn_scope_straight (wpIn_mono ((vc_ok hT c env m _ h).run ro lo a w σ F hN hD he hm) ?_)
  rintro e a1 w1 ⟨env1, m1, σ1, F1, k1, k2⟩
  cases e with
  | goto l => exact k1.elim
  | _ => exact ⟨(fun l h => Exit.noConfusion h), env1, m1, σ1, F1, k1, k2⟩⟩
 | .label l, env, m, Q, h => ⟨fun ro lo a w σ F hN hD he hm => wpIn_label ⟨env, m, σ, F, h, hN, hD, he, hm, Step.refl σ F w, SArg.refl σ⟩⟩
 | .goto _, _, _, _, h => by cases h
 | .refuse _, _, _, _, h => by cases h
end sound
end Go.Ab
/-
 The engine, part O: loops, and functions that only compute.
-/
namespace Go.Ab
set_option linter.unusedSimpArgs false
set_option linter.unusedVariables false

/-! ### what a state may be taken for -/
def refIn (nl na : Nat) : Ref → Bool
 | .loc j => Nat.blt j nl
 | .arg j => Nat.blt j na
 | .bad => false
def avIn0 (nl na : Nat) : AV → Bool
 | .d _ => true
 | .ptr r _ _ _ => refIn nl na r
 | .osl r _ _ _ => refIn nl na r
 | .mp r => refIn nl na r
 | .junk => true
 | _ => false
def allIn0 (nl na : Nat) : List AV → Bool
 | [] => true
 | A :: r => avIn0 nl na A && allIn0 nl na r
def avIn (nl na : Nat) : AV → Bool
 | .fn _ xs ys => allIn0 nl na xs && allIn0 nl na ys
 | .agg cs => allIn0 nl na cs
 | A => avIn0 nl na A
def allIn (nl na : Nat) : List AV → Bool
 | [] => true
 | A :: r => avIn nl na A && allIn nl na r
def LeEnv (nl na : Nat) (env : Env) : Env → Prop
 | [] => True
 | (t, A) :: r => (get env t = A ∧ avIn nl na A = true) ∧ LeEnv nl na env r
def BlkLe (nl na : Nat) : Blk → Blk → Prop
 | .box e cs, .box e' cs' => e = e' ∧ cs = cs' ∧ allIn nl na cs' = true
 | .vec e sz g n f, .vec e' sz' g' n' f' => e = e' ∧ sz = sz' ∧ g = g' ∧ n' ≤ n ∧ ∀ i, i < n' → f i = f' i ∧ allIn nl na (f' i) = true
 | .loop b r env, .loop b' r' env' => b = b' ∧ r = r' ∧ env = env' ∧ allIn nl na (env'.map (·.2)) = true
 | .map sh has val, .map sh' has' val' => sh = sh' ∧ ∀ k, sh.fits k → has k = has' k ∧ (has k = true → val k = val' k ∧ avIn nl na (val' k) = true)
 | .room e sz g n c f, .vec e' sz' g' n' f' => e = e' ∧ sz = sz' ∧ g = g' ∧ n' ≤ n ∧ ∀ i, i < n' → f i = f' i ∧ allIn nl na (f' i) = true
 | .room e sz g n c f, .room e' sz' g' n' c' f' => c = c' ∧ e = e' ∧ sz = sz' ∧ g = g' ∧ n' ≤ n ∧ ∀ i, i < n' → f i = f' i ∧ allIn nl na (f' i) = true
 | .iter sh has val left cur, .iter sh' has' val' left' cur' => sh = sh' ∧ has = has' ∧ val = val' ∧ left = left' ∧ cur = cur'
 | _, _ => False
def LeL (nl na : Nat) : List (Option Blk) → List (Option Blk) → Prop
 | _, [] => True
 | [], _ :: _ => False
 | b :: r, b' :: s => (match b' with
  | none => True
  | some B' => match b with
   | some B => BlkLe nl na B B'
   | none => False) ∧ LeL nl na r s
def Le (env : Env) (m : Mem) (env' : Env) (m' : Mem) : Prop :=
 LeEnv (lenL m'.loc) (lenL m'.own) env env' ∧ LeL (lenL m'.loc) (lenL m'.own) m.loc m'.loc ∧ (lenL m.own = lenL m'.own ∧ LeL (lenL m'.loc) (lenL m'.own) m.own m'.own)

section
variable {w : World} {F : Nat → Prop} {σ σ' : Pls} {nl na : Nat}
theorem allIn_mem : ∀ {l : List AV}, allIn nl na l = true → ∀ A ∈ l, avIn nl na A = true
 | [], _ => fun A h => by simp at h
 | x :: r, h => fun A hA => by
  simp only [allIn, Bool.and_eq_true] at h
  rcases List.mem_cons.1 hA with rfl | hA
  ·exact h.1
  ·exact allIn_mem h.2 A hA
theorem Vc.restrict0 {A : AV} {v : Value} (h : Vc w F σ A v) (hin : avIn0 nl na A = true) (hs : ∀ r q, refIn nl na r = true → σ r = some q → ∃ q', σ' r = some q' ∧ QLe q q') : Vc w F σ' A v := by
 cases h with
 | d h => exact .d h
 | ptr hr h =>
  obtain ⟨q', hq, hle⟩ := hs _ _ hin hr
  refine .ptr hq fun pl' e => ?_
  obtain ⟨pl, e1, e2, e3⟩ := hle pl' e
  obtain ⟨h1, h2⟩ := h pl e1
  refine ⟨by omega, fun e4 => ?_⟩
  have h5 : pl'.g = pl.g := by omega
  rw [e3 h5]; exact h2 (by omega)
 | osl hr h =>
  obtain ⟨q', hq, hle⟩ := hs _ _ hin hr
  refine .osl hq fun pl' e => ?_
  obtain ⟨pl, e1, e2, e3⟩ := hle pl' e
  obtain ⟨h1, h2⟩ := h pl e1
  refine ⟨by omega, fun e4 => ?_⟩
  have h5 : pl'.g = pl.g := by omega
  rw [e3 h5]; exact h2 (by omega)
 | mp hr h =>
  obtain ⟨q', hq, hle⟩ := hs _ _ hin hr
  refine .mp hq fun pl' e e0 => ?_
  obtain ⟨pl, e1, e2, e3⟩ := hle pl' e
  rw [e3 (by omega)]
  exact h pl e1 (by omega)
 | junk => exact .junk
 | _ => simp [avIn0] at hin
theorem allIn0_at : ∀ {l : List AV}, allIn0 nl na l = true → ∀ (j : Nat) A, l[j]? = some A → avIn0 nl na A = true
 | [], _, j, A, h => by simp at h
 | x :: r, h, j, A, hA => by
  simp only [allIn0, Bool.and_eq_true] at h
  cases j with
  | zero => simp at hA; subst hA; exact h.1
  | succ j => exact allIn0_at h.2 j A (by simpa using hA)
theorem Vc.restrict {A : AV} {v : Value} (h : Vc w F σ A v) (hin : avIn nl na A = true) (hs : ∀ r q, refIn nl na r = true → σ r = some q → ∃ q', σ' r = some q' ∧ QLe q q') : Vc w F σ' A v := by
 by_cases hfn : ∃ f xs ys, A = .fn f xs ys
 ·obtain ⟨f, xs, ys, rfl⟩ := hfn
  simp only [avIn, Bool.and_eq_true] at hin
  cases h with
  | fn h1 h2 h3 h4 => exact .fn h1 h2 (fun j x u hx hu => (h3 j x u hx hu).restrict0 (allIn0_at hin.1 j x hx) hs) (fun j x u hx hu => (h4 j x u hx hu).restrict0 (allIn0_at hin.2 j x hx) hs)
 ·by_cases hag : ∃ cs, A = .agg cs
  ·obtain ⟨cs, rfl⟩ := hag
   simp only [avIn] at hin
   cases h with
   | agg h1 h2 => exact .agg h1 fun j x u hx hu => (h2 j x u hx hu).restrict0 (allIn0_at hin j x hx) hs
  ·refine h.restrict0 ?_ hs
   cases A <;> first | exact hin | exact absurd ⟨_, _, _, rfl⟩ hfn | exact absurd ⟨_, rfl⟩ hag
theorem VecOk.restrict {e sz g n n' : Nat} {f f' : Nat → List AV} {pl : Pl} (h : VecOk w F σ e sz g n f pl) (hnn : n' ≤ n) (hf : ∀ i, i < n' → f i = f' i ∧ allIn nl na (f' i) = true) (hs : ∀ r q, refIn nl na r = true → σ r = some q → ∃ q', σ' r = some q' ∧ QLe q q') : VecOk w F σ' e sz g n' f' pl := by
 obtain ⟨h1, h2, h3, h4, h5⟩ := h
 refine ⟨h1, h2, fun h => by have := h3 h; omega, fun i hi => by rw [← (hf i hi).1]; exact h4 i (by omega), fun b tot hl => ?_⟩
 obtain ⟨h6, h7, us, h8, h9, h10⟩ := h5 b tot hl
 refine ⟨by omega, h7, us, h8, h9, fun i j A hi hA => ?_⟩
 obtain ⟨u, hu, hv, h1⟩ := h10 i j A (by omega) (by rw [(hf i hi).1]; exact hA)
 exact ⟨u, hu, hv.restrict (allIn_mem (hf i hi).2 A (List.mem_of_getElem? hA)) hs, h1⟩
theorem BlkOk.restrict {B B' : Blk} {pl : Pl} (h : BlkOk w F σ B pl) (hle : BlkLe nl na B B') (hs : ∀ r q, refIn nl na r = true → σ r = some q → ∃ q', σ' r = some q' ∧ QLe q q') : BlkOk w F σ' B' pl := by
 cases B with
 | box e cs =>
  cases B' with
  | box e' cs' =>
   obtain ⟨rfl, rfl, hin⟩ := hle
   obtain ⟨h1, h2, b, h3, us, h4, h5, h6⟩ := h
   exact ⟨h1, h2, b, h3, us, h4, h5, fun j A u hA hu => ⟨(h6 j A u hA hu).1.restrict (allIn_mem hin A (List.mem_of_getElem? hA)) hs, (h6 j A u hA hu).2⟩⟩
  | vec => exact hle.elim
  | loop => exact hle.elim
  | map => exact hle.elim
  | room => exact hle.elim
  | ent => exact hle.elim
  | opq => exact hle.elim
  | iter => exact hle.elim
  | look => exact hle.elim
 | vec e sz g n f =>
  cases B' with
  | box => exact hle.elim
  | loop => exact hle.elim
  | map => exact hle.elim
  | room => exact hle.elim
  | ent => exact hle.elim
  | opq => exact hle.elim
  | iter => exact hle.elim
  | look => exact hle.elim
  | vec e' sz' g' n' f' =>
   obtain ⟨rfl, rfl, rfl, hnn, hf⟩ := hle
   obtain ⟨h1, h2, h3, h4, h5⟩ := h
   refine ⟨h1, h2, fun h => by have := h3 h; omega, fun i hi => by rw [← (hf i hi).1]; exact h4 i (by omega), fun b tot hl => ?_⟩
   obtain ⟨h6, h7, us, h8, h9, h10⟩ := h5 b tot hl
   refine ⟨by omega, h7, us, h8, h9, fun i j A hi hA => ?_⟩
   obtain ⟨u, hu, hv, h1⟩ := h10 i j A (by omega) (by rw [(hf i hi).1]; exact hA)
   exact ⟨u, hu, hv.restrict (allIn_mem (hf i hi).2 A (List.mem_of_getElem? hA)) hs, h1⟩
 | loop b r env =>
  cases B' with
  | box => exact hle.elim
  | vec => exact hle.elim
  | map => exact hle.elim
  | room => exact hle.elim
  | ent => exact hle.elim
  | opq => exact hle.elim
  | iter => exact hle.elim
  | look => exact hle.elim
  | loop b' r' env' =>
   obtain ⟨rfl, rfl, rfl, hin⟩ := hle
   obtain ⟨h1, h2, h3, h4⟩ := h
   exact ⟨h1, h2, h3, fun j t A hj => (h4 j t A hj).restrict (allIn_mem hin A (List.mem_map.2 ⟨(t, A), List.mem_of_getElem? hj, rfl⟩)) hs⟩
 | map sh has val =>
  cases B' with
  | box => exact hle.elim
  | vec => exact hle.elim
  | loop => exact hle.elim
  | room => exact hle.elim
  | ent => exact hle.elim
  | opq => exact hle.elim
  | iter => exact hle.elim
  | look => exact hle.elim
  | map sh' has' val' =>
   obtain ⟨rfl, hle⟩ := hle
   obtain ⟨h1, b, h2, es, clock, ks, h3, h4, h5, h6, h7⟩ := h
   refine ⟨h1, b, h2, es, clock, ks, h3, h4, h5, fun i k e hi he => ?_, ⟨fun k hk hh => h7.1 k hk ((hle k hk).1.trans hh), h7.2⟩⟩
   obtain ⟨g1, g2, g3, g4⟩ := h6 i k e hi he
   obtain ⟨e1, e2⟩ := hle k g1
   obtain ⟨e2, e3⟩ := e2 g3
   refine ⟨g1, g2, by rw [← e1]; exact g3, ?_⟩
   rw [← e2]
   exact g4.restrict (by rw [e2]; exact e3) hs
 | ent => cases B' <;> exact hle.elim
 | opq => cases B' <;> exact hle.elim
 | look => cases B' <;> exact hle.elim
 | iter sh has val left cur =>
  cases B' with
  | iter sh' has' val' left' cur' =>
   obtain ⟨rfl, rfl, rfl, rfl, rfl⟩ := hle
   exact h
  | _ => exact hle.elim
 | room e sz g n c f =>
  cases B' with
  | ent => exact hle.elim
  | opq => exact hle.elim
  | iter => exact hle.elim
  | look => exact hle.elim
  | box => exact hle.elim
  | loop => exact hle.elim
  | map => exact hle.elim
  | vec e' sz' g' n' f' =>
   obtain ⟨rfl, rfl, rfl, hnn, hf⟩ := hle
   exact VecOk.restrict h.1 hnn hf hs
  | room e' sz' g' n' c' f' =>
   obtain ⟨rfl, rfl, rfl, rfl, hnn, hf⟩ := hle
   exact ⟨VecOk.restrict h.1 hnn hf hs, h.2⟩
theorem LeL_at : ∀ {l l' : List (Option Blk)}, LeL nl na l l' → ∀ (j : Nat) b', l'[j]? = some b' → ∃ b, l[j]? = some b ∧ ∀ B', b' = some B' → ∃ B, b = some B ∧ BlkLe nl na B B'
 | _, [], _, j, b', h => by simp at h
 | [], _ :: _, h, _, _, _ => h.elim
 | b :: r, b0 :: s, h, j, b', hj => by
  obtain ⟨h1, h2⟩ := h
  cases j with
  | zero =>
   simp at hj
   subst hj
   refine ⟨b, rfl, fun B' e => ?_⟩
   subst e
   simp only at h1
   split at h1
   ·exact ⟨_, rfl, h1⟩
   ·exact h1.elim
  | succ j => simpa using LeL_at h2 j b' (by simpa using hj)
theorem le_ok {env env' : Env} {m m' : Mem} {tmps : Array Value} (h : Le env m env' m') (he : EnvOk env w F σ tmps) (hm : MemOk m σ F w) :
  ∃ σ', EnvOk env' w F σ' tmps ∧ MemOk m' σ' F w ∧ Step σ F w σ' F w ∧ SArg σ σ' := by
 obtain ⟨h1, h2, h3, h4⟩ := h
 let σ0 : Pls := fun r => match m'.at r with
  | none => none
  | some none => some none
  | some (some _) => σ r
 have hat : ∀ r b', m'.at r = some b' → ∃ b, m.at r = some b ∧ ∀ B', b' = some B' → ∃ B, b = some B ∧ BlkLe (lenL m'.loc) (lenL m'.own) B B' := by
  intro r b' hr
  cases r with
  | loc j => exact LeL_at h2 j b' hr
  | arg j => exact LeL_at h4 j b' hr
  | bad => cases hr
 have hlive : ∀ r B', m'.at r = some (some B') → ∃ pl B, σ r = some (some pl) ∧ σ0 r = some (some pl) ∧ m.at r = some (some B) ∧ BlkLe (lenL m'.loc) (lenL m'.own) B B' ∧ BlkOk w F σ B pl := by
  intro r B' hr
  obtain ⟨b, hb, hB⟩ := hat r _ hr
  obtain ⟨B, rfl, hle⟩ := hB B' rfl
  cases hs : σ r with
  | none => rw [(hm.dom r).1 hs] at hb; cases hb
  | some q =>
   cases q with
   | none => rw [(hm.lv r _ hs).1 rfl] at hb; cases hb
   | some pl =>
    obtain ⟨B1, hB1, hok⟩ := (hm.lv r _ hs).2 pl rfl
    rw [hb] at hB1
    injection hB1 with hB1
    injection hB1 with hB1
    subst hB1
    exact ⟨pl, B, rfl, by simp only [σ0, hr, hs], hb, hle, hok⟩
 have hin : ∀ r, refIn (lenL m'.loc) (lenL m'.own) r = true → ∃ b', m'.at r = some b' := by
  intro r hr
  cases r with
  | loc j =>
   have : j < m'.loc.length := by rw [← lenL_eq]; exact Nat.le_of_ble_eq_true hr
   exact ⟨_, List.getElem?_eq_getElem this⟩
  | arg j =>
   have : j < m'.own.length := by rw [← lenL_eq]; exact Nat.le_of_ble_eq_true hr
   exact ⟨_, List.getElem?_eq_getElem this⟩
  | bad => cases hr
 have hs : ∀ r q, refIn (lenL m'.loc) (lenL m'.own) r = true → σ r = some q → ∃ q', σ0 r = some q' ∧ QLe q q' := by
  intro r q hr hq
  obtain ⟨b', hb'⟩ := hin r hr
  cases b' with
  | none => exact ⟨none, by simp only [σ0, hb'], QLe.none q⟩
  | some B' => exact ⟨q, by simp only [σ0, hb', hq], QLe.refl q⟩
 have hsub : ∀ r pl, σ0 r = some (some pl) → σ r = some (some pl) ∧ ∃ B', m'.at r = some (some B') := by
  intro r pl hr
  simp only [σ0] at hr
  split at hr
  ·cases hr
  ·cases hr
  ·rename_i B' e; exact ⟨hr, B', e⟩
 refine ⟨σ0, fun t => ?_, ⟨fun r => ?_, fun r q hq => ?_, fun r r' p p' b t t' k1 k2 k3 k4 => ?_, fun r p b t k1 k2 => ?_, hm.fl, hm.gl⟩, ⟨rfl, rfl, rfl, Nat.le_refl _, Nat.le_refl _, fun _ _ _ => rfl, fun _ h => h, fun _ h => .inl h, fun b ⟨r, p, t, k1, k2⟩ => .inl ⟨r, p, t, (hsub r p k1).1, k2⟩⟩, fun j q hq => ?_⟩
 · -- the slots
  have : ∀ (l : Env), LeEnv (lenL m'.loc) (lenL m'.own) env l → Vc w F σ0 (get l t) (tmps.getD t undef) := by
   intro l
   induction l with
   | nil => intro _; exact .junk
   | cons x r ih =>
    intro hl
    obtain ⟨k, A⟩ := x
    obtain ⟨⟨e1, e2⟩, e3⟩ := hl
    simp only [get]
    cases hk : Nat.beq k t with
    | true =>
     have := Nat.eq_of_beq_eq_true hk
     subst this
     simp only [cond_true]
     have hv := he k
     rw [e1] at hv
     exact hv.restrict e2 hs
    | false => exact ih e3
  exact this env' h1
 ·simp only [σ0]
  split
  ·rename_i e; simp [e]
  ·rename_i e; simp [e]
  ·rename_i B' e
   obtain ⟨pl, B, k1, _⟩ := hlive r B' e
   simp [k1, e]
 ·simp only [σ0] at hq
  split at hq
  ·cases hq
  ·rename_i e
   injection hq with hq
   subst hq
   exact ⟨fun _ => e, fun pl h => by cases h⟩
  ·rename_i B' e
   obtain ⟨pl, B, k1, k2, k3, k4, k5⟩ := hlive r B' e
   rw [k1] at hq
   injection hq with hq
   subst hq
   exact ⟨(fun h => by cases h), fun pl1 h => by injection h with h; subst h; exact ⟨B', e, k5.restrict k4 hs⟩⟩
 ·exact hm.inj r r' p p' b t t' (hsub r p k1).1 (hsub r' p' k2).1 k3 k4
 ·exact hm.nf r p b t (hsub r p k1).1 k2
 ·have hj : j < m.own.length := by
   rcases Nat.lt_or_ge j m.own.length with h | h
   ·exact h
   ·rw [(hm.dom (.arg j)).2 (by simp [Mem.at, List.getElem?_eq_none h])] at hq; cases hq
  exact hs (.arg j) q (Nat.ble_eq_true_of_le (by rw [← h3, lenL_eq]; exact hj)) hq
end

theorem Awp.le {P : Program} {N : Nat} {c : Code} {env env' : Env} {m m' : Mem} {Q : Post} (h : Le env m env' m') (k : Awp P N c env' m' Q) : Awp P N c env m Q :=
 ⟨fun ro lo a w σ F hN hD he hm => by
  obtain ⟨σ', h1, h2, h3, h4⟩ := le_ok h he hm
  exact wpIn_mono (k.run ro lo a w σ' F hN (hD.step h3) h1 h2) fun e a2 w2 h5 => lift_trans h3 h4 h5⟩

/-- A nil slice taken for an empty row of our own. -/
theorem Awp.vec {P : Program} {N : Nat} {c : Code} {env : Env} {m : Mem} {Q : Post} (t e sz : Nat) (f : Nat → List AV) (ht : get env t = .d .nils)
  (k : Awp P N c ((t, .osl m.new 0 0 0) :: env) (m.add (.vec e sz 0 0 f)) Q) : Awp P N c env m Q :=
 ⟨fun ro lo a w σ F hN hD he hm => by
  let pl : Pl := ⟨0, sz, none⟩
  obtain ⟨g1, g2⟩ := fresh_ok (w' := w) (pl := pl) (B := .vec e sz 0 0 f) hm (Nat.le_refl _) (fun _ _ => rfl) ⟨rfl, rfl, fun _ => rfl, fun i hi => absurd hi (by omega), fun b t h => by simp [pl] at h⟩ (fun b t h => by simp [pl] at h)
  have he' : EnvOk ((t, .osl m.new 0 0 0) :: env) w F (upd σ m.new (some pl)) a.tmps := by
   intro k
   simp only [get]
   cases hk : Nat.beq t k with
   | true =>
    have := Nat.eq_of_beq_eq_true hk
    subst this
    simp only [cond_true]
    have hv := he t
    rw [ht] at hv
    refine .osl (upd_self σ m.new (some pl)) fun p hp => ?_
    injection hp with hp
    subst hp
    refine ⟨Nat.le_refl _, fun _ => ⟨rfl, rfl, ?_⟩⟩
    generalize a.tmps.getD t undef = X at hv
    cases hv with | d hv => cases hv; rfl
   | false => exact (he k).mono (fun _ h => h) (fun _ _ => rfl) g2
  have hst : Step σ F w (upd σ m.new (some pl)) F w := ⟨rfl, rfl, rfl, Nat.le_refl _, Nat.le_refl _, fun _ _ _ => rfl, fun _ h => h, fun _ h => .inl h, own_upd_new fun b t h => by simp [pl] at h⟩
  exact wpIn_mono (k.run ro lo a w _ F hN (hD.step hst) he' g1) fun e a2 w2 h5 => lift_trans hst (.of g2) h5⟩

/-- What a loop's round must come to. -/
def LoopQ {S : Type} (enc : S → Env × Mem) (J : S → Prop) (μ : S → Nat) (s : S) (Q : Post) : Post := fun e env m =>
 match e with
 | .normal => ∃ s', J s' ∧ μ s' < μ s ∧ Le env m (enc s').1 (enc s').2
 | .exit i => Q (.exit i) env m
 | .goto i => Q (.goto i) env m
 | .ret => Q .ret env m
 | .panic ch => Q (.panic ch) env m
 | .outgrown => Q .outgrown env m
theorem loop_rule {P : Program} {T : Tab} (hT : TabOk P T) {N : Nat} {c : Code} {env : Env} {m : Mem} {Q : Post} {S : Type} (enc : S → Env × Mem) (J : S → Prop) (μ : S → Nat) (s0 : S)
  (h0 : Le env m (enc s0).1 (enc s0).2) (hJ : J s0) (h : ∀ s, J s → Ev (vc P T N c (enc s).1 (enc s).2 (LoopQ enc J μ s Q))) : Awp P N (.loop c) env m Q := by
 refine Awp.le h0 ⟨fun ro lo a w σ F hN hD he hm => ?_⟩
 -- the relation of every round's head
 let I : Nat → Act → World → Prop := fun n a' w' => ∃ s σ' F', μ s = n ∧ J s ∧ a'.tmps.size = N ∧ Ctx ro lo a'.defers σ' F' w' ∧ EnvOk (enc s).1 w' F' σ' a'.tmps ∧ MemOk (enc s).2 σ' F' w' ∧ Step σ F w σ' F' w' ∧ SArg σ σ'
 intro b k cs hro hb hroom
 have key : ∀ n a w', I n a w' → ∃ e a' w2, lift N Q ro lo σ F w e a' w2 ∧ ArrivesIn (Machine.fenced P (Fen ro)) P (lone (b.atR a (.code c :: .inLoop c :: k)) cs w') b k cs e a' w2 := by
  intro n
  induction n using Nat.strongRecOn with
  | _ n ih =>
   rintro a1 w1 ⟨s, σ1, F1, hμ, hJ1, i1, i2, i3, i4, i5, i6⟩
   obtain ⟨e, a2, w2, hq, harr⟩ := (vc_ok hT c _ _ _ (h s hJ1).o).run ro lo a1 w1 σ1 F1 i1 i2 i3 i4 b (.inLoop c :: k) cs hro hb hroom
   obtain ⟨env2, m2, σ2, F2, q1, q2, q3, q4, q5, q6, q7⟩ := hq
   have rest : Q e env2 m2 → lift N Q ro lo σ F w e a2 w2 := fun hq => ⟨env2, m2, σ2, F2, hq, q2, q3, q4, q5, i5.trans q6, i6.trans q7⟩
   cases e with
   | normal =>
    obtain ⟨s', j1, j2, j3⟩ := q1
    obtain ⟨σ3, r1, r2, r3, r4⟩ := le_ok j3 q4 q5
    obtain ⟨e3, a3, w3, hq3, harr3⟩ := ih (μ s') (by omega) a2 w2 ⟨s', σ3, F2, rfl, j1, q2, q3.step r3, r1, r2, (i5.trans q6).trans r3, (i6.trans q7).trans r4⟩
    exact ⟨e3, a3, w3, hq3, .of_steps (StepsIn.trans harr (.one (fenced_calm hb hroom rfl) stepR_inLoop)) harr3⟩
   | exit id => exact ⟨_, a2, w2, rest q1, .pass (x := .inLoop c) rfl (fun _ _ => .inl (by simp)) harr⟩
   | goto l => exact ⟨_, a2, w2, rest q1, .pass (x := .inLoop c) rfl (fun _ _ => .inl (by simp)) harr⟩
   | ret => exact ⟨_, a2, w2, rest q1, .pass (x := .inLoop c) rfl (fun _ _ => .inl (by simp)) harr⟩
   | panic ch => exact ⟨_, a2, w2, rest q1, .pass (x := .inLoop c) rfl (fun _ _ => .inl (by simp)) harr⟩
   | outgrown => exact ⟨_, a2, w2, rest q1, .pass (x := .inLoop c) rfl (fun _ _ => .inl (by simp)) harr⟩
 obtain ⟨e, a', w', hq, harr⟩ := key (μ s0) a w ⟨s0, σ, F, rfl, hJ, hN, hD, he, hm, Step.refl σ F w, SArg.refl σ⟩
 exact ⟨e, a', w', hq, .of_steps (.one (fenced_calm hb hroom rfl) stepR_loop) harr⟩

/-! ### the end of a function -/
/-- The marks are come to, one by one: nothing but their own blocks turns. -/
theorem leaves_marks {P : Program} {fn : Func} {tmps : Array Value} {R : Ending → World → Prop} : ∀ (Ds : List Nat) (w : World), Ds.Nodup → (∀ D ∈ Ds, w.heap[D]? = some (.deferred (some []))) →
  (∀ w' : World, w'.os = w.os → w'.tape = w.tape → w'.output = w.output → w'.drawn = w.drawn → w'.heap.size = w.heap.size → (∀ b, b ∉ Ds → w'.heap[b]? = w.heap[b]?) → ∃ v, (results fn tmps).run P w' = .ok v w' ∧ R (.returned v) w') →
  LeavesInM (Fen none) 0 P fn tmps R (Ds.map mark) .returning w
 | [], w, _, _, h => h w rfl rfl rfl rfl rfl fun _ _ => rfl
 | D :: Ds, w, hn, hD, h => by
  have hlt : D < w.heap.size := (Array.getElem?_eq_some_iff.1 (hD D (by simp))).1
  rw [List.nodup_cons] at hn
  rw [List.map_cons]
  unfold LeavesInM
  refine ⟨(fun h => by cases h), .inl ⟨D, _, rfl, run_takeDeferred (hD D (by simp)), leaves_marks Ds _ hn.2 (fun D' hD' => ?_) (fun w' h1 h2 h3 hd h4 h5 => ?_)⟩⟩
  ·rw [World.putObj_heap_other (k := D') (r := D) (fun e => hn.1 (by rw [← e]; exact hD'))]
   exact hD D' (by simp [hD'])
  ·refine h w' h1 h2 h3 hd (h4.trans World.putObj_size) fun b hb => ?_
   simp only [List.mem_cons, not_or] at hb
   rw [h5 b hb.2, World.putObj_heap_other hb.1]
/-- Cells, side by side, some of which may be said otherwise. -/
def BecA : List AV → List D → Prop
 | [], [] => True
 | .d y :: r, x :: s => DEq y x ∧ BecA r s
 | _, _ => False
theorem BecA.ok {w : World} {F : Nat → Prop} {σ : Pls} : ∀ {cs : List AV} {xs : List D}, BecA cs xs → cs.length = xs.length ∧ ∀ (j : Nat) A x u, cs[j]? = some A → xs[j]? = some x → Vc w F σ A u → Rd w F x u
 | [], [], _ => ⟨rfl, fun j A x u h => by simp at h⟩
 | .d y :: r, x :: s, h => by
  obtain ⟨h1, h2⟩ := BecA.ok (w := w) (F := F) (σ := σ) h.2
  refine ⟨by simp [h1], fun j A z u hA hz hv => ?_⟩
  cases j with
  | zero =>
   simp at hA hz
   subst hA; subst hz
   cases hv with | d hv => exact DEq.ok hv h.1
  | succ j => exact h2 j A z u (by simpa using hA) (by simpa using hz) hv
 | [], _ :: _, h => h.elim
 | A :: _, [], h => by cases A <;> exact h.elim
 | .agg _ :: _, _ :: _, h => h.elim
 | .tup _ :: _, _ :: _, h => h.elim
 | .ifc _ _ :: _, _ :: _, h => h.elim
 | .fn _ _ _ :: _, _ :: _, h => h.elim
 | .ptr _ _ _ _ :: _, _ :: _, h => h.elim
 | .osl _ _ _ _ :: _, _ :: _, h => h.elim
 | .mp _ :: _, _ :: _, h => h.elim
 | .gd _ _ :: _, _ :: _, h => h.elim
 | .junk :: _, _ :: _, h => h.elim
/-- What is handed back, as a datum. -/
def Bec (m : Mem) (A : AV) (x : D) : Prop :=
 match A with
 | .d y => DEq y x
 | .osl r g off n => match x with
  | .sl sz n' f' => match m.get r with
   | some (.vec _ sz' g' k f) => sz' = sz ∧ g' = g ∧ off + n ≤ k ∧ n = n' ∧ ∀ i, i < n' → f (off + i) = up (f' i)
   | _ => False
  | _ => False
 | .agg cs => match x with
  | .agg xs => cs = up xs ∨ BecA cs xs
  | _ => False
 | .ifc t (.d y) => match x with
  | .ifc t' y' => t = t' ∧ y = y'
  | _ => False
 | _ => False
def Fin (T : Tab) : List ResultVar → List D → Env → Mem → Prop
 | [], [], _, _ => True
 | .tmp t :: rs, x :: xs, env, m => Bec m (get env t) x ∧ Fin T rs xs env m
 | .cell t ty :: rs, x :: xs, env, m => (match evLoad T m ty (get env t) with
  | some (A, l) => obs l (Bec m A x)
  | none => False) ∧ Fin T rs xs env m
 | _, _, _, _ => False
def finQ (T : Tab) (rs : List ResultVar) (res : List D) : Post := fun e env m => match e with
 | .ret => Fin T rs res env m
 | .normal => Fin T rs res env m
 | _ => False
def envOf : Nat → List D → Env
 | _, [] => []
 | k, x :: r => (k, .d x) :: envOf (k + 1) r

section
variable {P : Program} {T : Tab} {w : World} {F : Nat → Prop} {σ : Pls} {m : Mem}
/-- All that is ours is given away. -/
def Given (F : Nat → Prop) (σ : Pls) : Nat → Prop := fun b => F b ∨ Owned σ b
theorem Bec.ok (hm : MemOk m σ F w) {A : AV} {x : D} {v : Value} (h : Vc w F σ A v) (e : Bec m A x) : Rd w (Given F σ) x v := by
 have up' : ∀ {y : D} {u : Value}, Rd w F y u → Rd w (Given F σ) y u := fun h => h.mono (fun _ h => .inl h) (fun _ _ => rfl)
 unfold Bec at e
 split at e
 ·cases h with | d h => exact DEq.ok (up' h) e
 ·rename_i r g off n
  split at e <;> try exact e.elim
  rename_i sz n' f'
  split at e <;> try exact e.elim
  rename_i e0 sz' g' k f hB
  obtain ⟨rfl, rfl, hk, rfl, hf⟩ := e
  obtain ⟨pl, hr, hok, _, hat⟩ := osl_row hm h (Mem.get_at hB)
  obtain ⟨h0, hsz, hn0, hrow, hl⟩ := hok
  have hsl := hat h0
  unfold SlAt at hsl
  split at hsl
  ·obtain ⟨rfl, _, rfl⟩ := hsl
   exact .sl ⟨0, 0, none⟩ (fun _ _ => undef) (Nat.le_refl _) (fun h => absurd h (by omega)) (fun i hi => absurd hi (by omega)) (fun i j hi => absurd hi (by omega)) (fun i j x hi => absurd hi (by omega))
  ·rename_i b tot hloc
   obtain ⟨B, cap, rfl, hnc, hoc, hA⟩ := hsl
   obtain ⟨hnt, htm, us, hheap, hlen, hvc⟩ := hl b tot hloc
   have hlen' : ∀ i, i < n → (f' i).length = sz' := fun i hi => by
    have := hrow (off + i) (by omega)
    rw [hf i hi, up_eq, List.length_map] at this
    exact this
   have hcell : ∀ i j, i < n → j < sz' → ∃ u, us[(off + i) * sz' + j]? = some u ∧ u.oneCell' = true ∧ ∀ x, (f' i)[j]? = some x → Rd w F x u := fun i j hi hj => by
    have hx : (f' i)[j]? = some ((f' i)[j]'(by rw [hlen' i hi]; exact hj)) := List.getElem?_eq_getElem _
    obtain ⟨u, hu, hv, h1⟩ := hvc (off + i) j (.d _) (by omega) (by rw [hf i hi, up_eq, List.getElem?_map, hx]; rfl)
    refine ⟨u, hu, h1, fun x hx' => ?_⟩
    rw [hx] at hx'
    injection hx' with hx'
    subst hx'
    cases hv with | d hv => exact hv
   refine .sl ⟨b, off * sz', none⟩ (fun i j => us.getD ((off + i) * sz' + j) undef) hnc (fun hn => ⟨by rw [hA (.inl (by omega)), hsz], .inr ⟨r, pl, tot, hr, hloc⟩⟩) hlen' (fun i j hi hj => ?_) (fun i j x hi hx => ?_)
   ·obtain ⟨u, hu, h1, _⟩ := hcell i j hi hj
    rw [add_at, cell_of_row w b _ us.toArray e0 (0, 0) hheap]
    have e1 : off * sz' + (i * sz' + j) = (off + i) * sz' + j := by rw [Nat.add_mul]; omega
    rw [e1]
    simp [hu, h1]
   ·have hj : j < sz' := by rw [← hlen' i hi]; exact (List.getElem?_eq_some_iff.1 hx).1
    obtain ⟨u, hu, _, h2⟩ := hcell i j hi hj
    simp only [List.getD_eq_getElem?_getD, hu, Option.getD_some]
    exact up' (h2 x hx)
 ·split at e <;> try exact e.elim
  rcases e with e | e
  ·subst e
   cases h with
   | agg hl h =>
    refine .agg (by rw [hl, up_eq, List.length_map]) fun j x u hx hu => ?_
    have := h j (.d x) u (by rw [up_eq, List.getElem?_map, hx]; rfl) hu
    cases this with | d h => exact up' h
  ·cases h with
   | agg hl h =>
    obtain ⟨g1, g2⟩ := BecA.ok (w := w) (F := F) (σ := σ) e
    refine .agg (by rw [hl, g1]) fun j x u hx hu => ?_
    have hj := (List.getElem?_eq_some_iff.1 hx).1
    have hA := List.getElem?_eq_getElem (l := _) (i := j) (by rw [g1]; exact hj)
    exact up' (g2 j _ x u hA hx (h j _ u hA hu))
 ·split at e <;> try exact e.elim
  obtain ⟨rfl, rfl⟩ := e
  cases h with | ifc h => cases h with | d h => exact .ifc (up' h)
 ·exact e.elim

def resOne (tmps : Array Value) : ResultVar → Sem Value
 | .tmp t => pure (tmps.getD t undef)
 | .cell a t => do loadVar t (← asAddr (tmps.getD a undef))
theorem fin_ok (hT : TabOk P T) (hm : MemOk m σ F w) {env : Env} {tmps : Array Value} (he : EnvOk env w F σ tmps) : ∀ (rs : List ResultVar) (res : List D), Fin T rs res env m →
  ∃ vs : List Value, (rs.mapM (resOne tmps)).run P w = .ok vs w ∧ vs.length = res.length ∧ ∀ (j : Nat) x u, res[j]? = some x → vs[j]? = some u → Rd w (Given F σ) x u
 | [], [], _ => ⟨[], by simp, rfl, fun j x u h => by simp at h⟩
 | .tmp t :: rs, x :: xs, h => by
  obtain ⟨h1, h2⟩ := h
  obtain ⟨vs, g1, g2, g3⟩ := fin_ok hT hm he rs xs h2
  refine ⟨tmps.getD t undef :: vs, by simp [List.mapM_cons, resOne, g1], by simp [g2], fun j y u hy hu => ?_⟩
  cases j with
  | zero => simp at hy hu; subst hy; subst hu; simpa using (he t |> fun hv => Bec.ok hm hv h1)
  | succ j => exact g3 j y u (by simpa using hy) (by simpa using hu)
 | .cell t ty :: rs, x :: xs, h => by
  obtain ⟨h1, h2⟩ := h
  obtain ⟨vs, g1, g2, g3⟩ := fin_ok hT hm he rs xs h2
  split at h1 <;> try exact h1.elim
  rename_i A l hl
  obtain ⟨hl2, hb⟩ := obs_ok h1
  obtain ⟨u0, hu0, hrun⟩ := evLoad_ok hT hm (he t) hl hl2
  have hr := hrun w (Agree.refl F σ w)
  have hptr : ∃ a, tmps.getD t undef = .pointer (some a) := by
   unfold Instr.loadAt Instr.sureAddr at hr
   generalize tmps.getD t undef = X at hr
   split at hr
   ·exact ⟨_, rfl⟩
   ·simp at hr
  obtain ⟨ad, had⟩ := hptr
  rw [had] at hr
  have hr' : (loadVar ty ad).run P w = .ok u0 w := by simpa [Instr.loadAt, Instr.sureAddr] using hr
  refine ⟨u0 :: vs, by simp [List.mapM_cons, resOne, g1, had, asAddr, hr'], by simp [g2], fun j y u hy hu => ?_⟩
  cases j with
  | zero => simp at hy hu; subst hy; subst hu; exact Bec.ok hm hu0 hb
  | succ j => exact g3 j y u (by simpa using hy) (by simpa using hu)
 | [], _ :: _, h => by cases h
 | .tmp _ :: _, [], h => by cases h
 | .cell _ _ :: _, [], h => by cases h

theorem envOf_ok {xs : List D} {vals : List Value} (hl : vals.length = xs.length) (h : ∀ (j : Nat) x u, xs[j]? = some x → vals[j]? = some u → Rd w F x u) (n : Nat) : EnvOk (envOf 0 xs) w F σ (vals.toArray ++ Array.replicate n undef) := by
 have key : ∀ (ys : List D) (k t : Nat), (∀ j, ys[j]? = xs[k + j]?) → get (envOf k ys) t = (if k ≤ t then match ys[t - k]? with | some x => .d x | none => .junk else .junk) := by
  intro ys
  induction ys with
  | nil => intro k t _; simp [envOf, get]
  | cons y r ih =>
   intro k t hy
   simp only [envOf, get]
   cases hk : Nat.beq k t with
   | true =>
    have := Nat.eq_of_beq_eq_true hk
    subst this
    simp
   | false =>
    have hne := Nat.ne_of_beq_eq_false hk
    simp only [cond_false]
    rw [ih (k + 1) t (fun j => by have := hy (j + 1); simp at this; rw [this]; congr 1; omega)]
    by_cases hle : k + 1 ≤ t
    ·rw [if_pos hle, if_pos (by omega)]
     have : t - k = (t - (k + 1)) + 1 := by omega
     rw [this, List.getElem?_cons_succ]
    ·rw [if_neg hle, if_neg (by omega)]
 intro t
 rw [key xs 0 t (fun j => by rw [Nat.zero_add]), if_pos (Nat.zero_le _), Nat.sub_zero]
 split
 ·rename_i x hx
  have ht : t < vals.length := by rw [hl]; exact (List.getElem?_eq_some_iff.1 hx).1
  have hu : vals[t]? = some vals[t] := List.getElem?_eq_getElem ht
  have : (vals.toArray ++ Array.replicate n undef).getD t undef = vals[t] := by
   rw [Array.getD_eq_getD_getElem?, Array.getElem?_append_left (by simpa using ht)]
   simp [hu]
  rw [this]
  exact .d (h t x _ hx hu)
 ·exact .junk

/-- What is handed back at the end, whatever the state is said to be. -/
def EndsAs (P : Program) (rs : List ResultVar) (res : List D) (e : Exit) (env : Env) (m : Mem) : Prop := (e = .normal ∨ e = .ret) ∧ ∀ (w : World) (F : Nat → Prop) (σ : Pls) (tmps : Array Value), MemOk m σ F w → EnvOk env w F σ tmps →
  ∃ vs : List Value, (rs.mapM (resOne tmps)).run P w = .ok vs w ∧ vs.length = res.length ∧ ∀ (j : Nat) x u, res[j]? = some x → vs[j]? = some u → Rd w (Given F σ) x u
/-- The rule for a function that only computes, with an end of any kind. -/
theorem pure_rule0 (hT : TabOk P T) {f : FuncId} {fn : Func} {c : Code} {N : Nat} {rs : List ResultVar} {args res : List D} (hf : P.funcs[f]? = some fn) (hb : fn.body = some c) (hN : fn.ntmps = N) (hrs : fn.results = rs.toArray)
  (hname : (fn.name == "runtime.NumGoroutine") = false) (hargs : Nat.ble args.length N = true) {Q : Post} (hQ : ∀ e env m, Q e env m → EndsAs P rs res e env m) (h : Ev (vc P T N c (envOf 0 args) ⟨[], []⟩ Q)) : Pure P f args res := by
 refine ⟨⟨fn, hf, hname, by simp [hb]⟩, fun F w vals hF hG hl hv => ?_⟩
 refine callsFen.1 (callsIn_of_wp_marks (F := Fen none) (n := 0) hf hb trivial ?_ rfl)
 let σ0 : Pls := fun _ => none
 have hm0 : MemOk ⟨[], []⟩ σ0 F w := ⟨fun r => by cases r <;> simp [σ0, Mem.at], fun r q h => (by cases h), fun r r' p p' b t t' h => (by cases h), fun r p b t h => (by cases h), hF, hG⟩
 have hle := Nat.le_of_ble_eq_true hargs
 have hwp := (vc_ok hT c (envOf 0 args) ⟨[], []⟩ Q h.o).run none ⟨w.heap.size, []⟩ { tmps := vals.toArray ++ Array.replicate (fn.ntmps - vals.toArray.size) undef, defers := [] } w σ0 F (by simp [hN]; omega) Ctx.nil (envOf_ok hl hv _) hm0
 refine wpIn_mono hwp ?_
 rintro e a w1 ⟨env', m', σ', F', q1, q2, q3, q4, q5, q6, q7⟩
 obtain ⟨hexit, hfin⟩ := hQ e env' m' q1
 have hend : LeavesInM (Fen none) 0 P fn a.tmps (fun e w' => ∃ v F', e = .returned v ∧ Grew F w F' w' ∧ ∀ σ, Vc w' F' σ (resAV res) v) a.defers .returning w1 := by
  obtain ⟨Ds, hDs, hnd, hD⟩ := q3.marks
  rw [hDs, List.append_nil]
  refine leaves_marks Ds w1 hnd (fun D h => (hD D h).2.1) fun w' k1 k2 k3 kd k4 k5 => ?_
  have kF : ∀ b, F' b → w'.heap[b]? = w1.heap[b]? := fun b hb => k5 b fun hm => (hD b hm).2.2.2 hb
  have kO : ∀ b, Owned σ' b → w'.heap[b]? = w1.heap[b]? := fun b hb => k5 b fun hm => (hD b hm).2.2.1 hb
  replace q4 : EnvOk env' w' F' σ' a.tmps := q4.mono (fun _ h => h) kF (SLe.refl σ')
  replace q5 : MemOk m' σ' F' w' := q5.world (by omega) fun b hb => by
   rcases hb with hb | hb
   ·exact kF b hb
   ·exact kO b hb
  replace q6 : Step σ0 F w σ' F' w' := ⟨k1.trans q6.os, k2.trans q6.tape, k3.trans q6.output, Nat.le_trans q6.drawn (Nat.le_of_eq kd.symm), by rw [k4]; exact q6.size, fun b hb ho => (k5 b fun hm => by have : w.heap.size ≤ b := (hD b hm).1; omega).trans (q6.keep b hb ho), q6.fro, q6.fro', q6.own⟩
  obtain ⟨vs, g1, g2, g3⟩ := hfin _ _ _ _ q5 q4
  have hrun : (results fn a.tmps).run P w' = .ok (if h : vs.toArray.size = 1 then vs.toArray[0] else .tuple vs.toArray) w' := by
   have e : results fn a.tmps = (do let vs ← fn.results.mapM (resOne a.tmps); pure (if h : vs.size = 1 then vs[0] else .tuple vs)) := by
    unfold results
    congr 1
   rw [e, hrs, Array.mapM_eq_mapM_toList]
   simp [g1]
  refine ⟨_, hrun, _, Given F' σ', rfl, ⟨q6.os, q6.tape, q6.output, q6.drawn, q6.size, fun b hb => q6.keep b hb (fun ⟨r, p, t, h1, _⟩ => by cases h1), fun b hb => .inl (q6.fro b hb), fun b hb => ?_, fun b hb => ?_⟩, fun σ => ?_⟩
  ·rcases hb with hb | hb
   ·rcases q6.fro' b hb with h1 | ⟨r, p, t, h1, _⟩ | h1
    ·exact .inl h1
    ·cases h1
    ·exact .inr h1
   ·rcases q6.own b hb with ⟨r, p, t, h1, _⟩ | h1
    ·cases h1
    ·exact .inr h1
  ·rcases hb with hb | ⟨r, p, t, h1, h2⟩
   ·exact q5.fl b hb
   ·exact (q5.nf r p b t h1 h2).2
  ·have tup : Vc w' (Given F' σ') σ (.tup (up res)) (.tuple vs.toArray) := .tup (by rw [up_eq, List.length_map, g2]) fun j A u hA hu => by
    obtain ⟨x, hx, rfl⟩ := up_at hA
    exact .d (g3 j x u hx hu)
   match res, vs, g2, g3, tup with
   | [], [], _, _, tup => simpa [resAV] using tup
   | [x], [v], _, g3, _ => simpa [resAV] using Vc.d (g3 0 x v rfl rfl)
   | x :: y :: xs, a :: b :: vs, _, _, tup => simpa [resAV] using tup
   | [], _ :: _, h, _, _ => simp at h
   | _ :: _, [], h, _, _ => simp at h
   | [_], _ :: _ :: _, h, _, _ => simp at h
   | _ :: _ :: _, [_], h, _, _ => simp at h
 rcases hexit with rfl | rfl <;> exact hend
/-- THE RULE FOR A FUNCTION THAT ONLY COMPUTES. -/
theorem pure_rule (hT : TabOk P T) {f : FuncId} {fn : Func} {c : Code} {N : Nat} {rs : List ResultVar} {args res : List D} (hf : P.funcs[f]? = some fn) (hb : fn.body = some c) (hN : fn.ntmps = N) (hrs : fn.results = rs.toArray)
  (hname : (fn.name == "runtime.NumGoroutine") = false) (hargs : Nat.ble args.length N = true) (h : Ev (vc P T N c (envOf 0 args) ⟨[], []⟩ (finQ T rs res))) : Pure P f args res :=
 pure_rule0 hT hf hb hN hrs hname hargs (Q := finQ T rs res) (fun e env m hq => by
  cases e with
  | normal => exact ⟨.inl rfl, fun w F σ tmps hm he => fin_ok hT hm he rs res hq⟩
  | ret => exact ⟨.inr rfl, fun w F σ tmps hm he => fin_ok hT hm he rs res hq⟩
  | _ => exact hq.elim) h
end
end Go.Ab
