/-
  Texts put together: EngL, EngU, EngM, EngY, EngZ, EngAA, EngAC, EngN, EngO.
-/
import Derived.Test.YtnhadilbebgbjaaEngX
import Derived.Deep.Quiet
import Derived.Lib.AppendZerosOnto
import Derived.Sort.QuietThIn
import Derived.RangeFuncIn
import Derived.RangeFuncRecord
import Derived.TacticsIn
import Derived.RangeFuncLeaves
/-
  The engine, part L: the generator of verification conditions, and that it is right.
-/
namespace Go.Ab
set_option linter.unusedSimpArgs false
set_option linter.unusedVariables false

/-! ### what is left to be shown -/
structure Ob (p K : Prop) : Prop where
  o : p
  k : K
structure Br (b : Bool) (x y : Prop) : Prop where
  t : b = true → x
  f : b = false → y
structure Ev (p : Prop) : Prop where
  o : p
structure Dr (p K : Prop) : Prop where
  o : p
  k : K
/- Written with the recursor itself, so that what is unfolded here and there is one term. -/
noncomputable def obs (l : List Prop) (K : Prop) : Prop := List.rec (motive := fun _ => Prop) K (fun p _ ih => Ob p (Ev ih)) l
def under (g : Bool) : List Prop → List Prop
  | [] => []
  | p :: r => (g = true → p) :: under g r
theorem obs_ok {K : Prop} : ∀ {l : List Prop}, obs l K → (∀ p ∈ l, p) ∧ K
  | [], h => ⟨fun p hp => by simp at hp, h⟩
  | p :: r, h => by
    have h' : Ob p (Ev (obs r K)) := h
    refine ⟨fun q hq => ?_, (obs_ok h'.k.o).2⟩
    rcases List.mem_cons.1 hq with rfl | hq
    · exact h'.o
    · exact (obs_ok h'.k.o).1 q hq
theorem under_ok {g : Bool} {l : List Prop} (h : ∀ p ∈ under g l, p) (hg : g = true) : ∀ p ∈ l, p := by
  induction l with
  | nil => intro p hp; simp at hp
  | cons a r ih =>
    intro p hp
    rcases List.mem_cons.1 hp with rfl | hp
    · exact h (g = true → p) (by simp [under]) hg
    · exact ih (fun q hq => h q (by simp [under, hq])) p hp

/-! ### values and memory brought into sight -/
def frcN (n : Nat) (K : Nat → Prop) : Prop :=
  match n with
  | 0 => K 0 | 1 => K 1 | 2 => K 2 | 3 => K 3 | 4 => K 4 | 5 => K 5 | 6 => K 6 | 7 => K 7 | 8 => K 8 | 9 => K 9 | 10 => K 10 | 11 => K 11 | 12 => K 12
  | n => K n
def frcR (r : Ref) (K : Ref → Prop) : Prop :=
  match r with
  | .loc j => frcN j fun j => K (.loc j)
  | .arg j => frcN j fun j => K (.arg j)
  | .bad => K .bad
def frcD (x : D) (K : D → Prop) : Prop :=
  match x with
  | .int k n => K (.int k n)
  | .bool b => K (.bool b)
  | .str s => K (.str s)
  | .nilp => K .nilp
  | .nili => K .nili
  | .nilf => K .nilf
  | .nilm => K .nilm
  | .nils => K .nils
  | .agg cs => K (.agg cs)
  | .ifc t x => K (.ifc t x)
  | .sl sz n f => K (.sl sz n f)
  | .pt cs off => K (.pt cs off)
  | .fn f xs ys => K (.fn f xs ys)
  | .mapd sh has val => K (.mapd sh has val)
  | .slc sz n f => K (.slc sz n f)
def frc (A : AV) (K : AV → Prop) : Prop :=
  match A with
  | .d x => frcD x fun x => K (.d x)
  | .agg cs => K (.agg cs)
  | .tup cs => K (.tup cs)
  | .ifc t x => K (.ifc t x)
  | .fn f xs ys => K (.fn f xs ys)
  | .ptr r g i off => frcR r fun r => K (.ptr r g i off)
  | .osl r g off n => frcR r fun r => K (.osl r g off n)
  | .mp r => frcR r fun r => K (.mp r)
  | .gd b x => K (.gd b x)
  | .junk => K .junk
def frcB (B : Option Blk) (K : Option Blk → Prop) : Prop :=
  match B with
  | none => K none
  | some (.box e cs) => K (some (.box e cs))
  | some (.vec e sz g n f) => K (some (.vec e sz g n f))
  | some (.loop b r env) => K (some (.loop b r env))
  | some (.map sh has val) => K (some (.map sh has val))
  | some (.room e sz g n c f) => K (some (.room e sz g n c f))
  | some (.ent sh has val key c) => K (some (.ent sh has val key c))
  | some .opq => K (some .opq)
  | some (.iter sh has val left cur) => K (some (.iter sh has val left cur))
  | some (.look sh key v hk) => K (some (.look sh key v hk))
def frcL : List (Option Blk) → (List (Option Blk) → Prop) → Prop
  | [], K => K []
  | b :: r, K => frcB b fun b => frcL r fun r => K (b :: r)
def frcM (m : Mem) (K : Mem → Prop) : Prop :=
  match m with
  | ⟨l, o⟩ => frcL l fun l => K ⟨l, o⟩
theorem frcN_eq (n : Nat) (K : Nat → Prop) : frcN n K = K n := by unfold frcN; split <;> rfl
theorem frcR_eq (r : Ref) (K : Ref → Prop) : frcR r K = K r := by cases r <;> simp [frcR, frcN_eq]
theorem frcD_eq (x : D) (K : D → Prop) : frcD x K = K x := by cases x <;> rfl
theorem frc_eq (A : AV) (K : AV → Prop) : frc A K = K A := by cases A <;> simp [frc, frcD_eq, frcR_eq]
theorem frcB_eq (B : Option Blk) (K : Option Blk → Prop) : frcB B K = K B := by
  cases B with
  | none => rfl
  | some b => cases b <;> rfl
theorem frcL_eq : ∀ (l : List (Option Blk)) (K : List (Option Blk) → Prop), frcL l K = K l
  | [], _ => rfl
  | b :: r, K => by simp [frcL, frcB_eq, frcL_eq r]
theorem frcM_eq (m : Mem) (K : Mem → Prop) : frcM m K = K m := by cases m; simp [frcM, frcL_eq]

/-- append(s, make([]E, k)...) onto a nil slice. -/
def evZeros (T : Tab) (m : Mem) (t t' : TypeId) (s x : AV) : Option (AV × Mem × List Prop) :=
  match elemOf T t with
  | none => none
  | some (e, sz) => match T.at e with
    | none => none
    | some te => match T.at t' with
      | some tn => match tn.k with
        | .int _ => match s with
          | .d .nils => match x with
            | .d (.int _ k) => bif Nat.beq te.bytes 0 then none else some (.osl m.new 0 0 k.toNat, m.add (.vec e sz 0 k.toNat fun _ => up te.zero), [0 < k, k.toNat * te.bytes ≤ 140737488355328])
            | _ => none
          | _ => none
        | _ => none
      | none => none

/-- A whole array variable is written over. -/
def arrStore (T : Tab) (m : Mem) (t : TypeId) (X V : AV) : Option (Mem × List Prop) :=
  match arrOf T t with
  | none => none
  | some (n, _) => match X with
    | .ptr r g i off => match m.get r with
      | some (.vec e sz g' n' _) => match V with
        | .d (.agg xs) => bif Nat.beq i 0 && (Nat.beq off 0 && Nat.beq sz 1) then
            some (m.put r (some (.vec e sz g' n fun j => [.d (xs.getD j .nilp)])), [g' = g, n' = n, xs.length = n, ∀ x, x ∈ xs → x.one = true]) else none
        | _ => none
      | _ => none
    | _ => none

/-! ### operations that turn memory, as one function -/
def evEff (T : Tab) (env : Env) (m : Mem) (op : Op) : Option (AV × Mem × List Prop) :=
  match op with
  | .box t x => match strip (ev env x) with
    | (A, p) => match arrOf T t with
      | some (n, _) => match A with
        | .d (.agg xs) => some (.ptr m.new 0 0 0, m.add (.vec t 1 0 n fun j => [.d (xs.getD j .nilp)]), cat p [xs.length = n, n ≤ maxLen, ∀ x, x ∈ xs → x.one = true])
        | _ => none
      | none => match cellsOf m A with
        | some (cs, q) => some (.ptr m.new 0 0 0, m.add (.box t cs), cat p q)
        | none => none
  | .alloc t => match T.at t with
    | some ti => match arrOf T t with
      | some (n, _) => some (.ptr m.new 0 0 0, m.add (.vec t 1 0 n fun j => [.d (ti.zero.getD j .nilp)]), [n ≤ maxLen])
      | none => some (.ptr m.new 0 0 0, m.add (.box t (up ti.zero)), [])
    | none => none
  | .store t x v => match strip (ev env x) with
    | (X, p) => match strip (ev env v) with
      | (V, q) => match arrStore T m t X V with
        | some (m', o) => some (.junk, m', cat p (cat q o))
        | none => match cellsOf m V with
          | none => none
          | some (cs, q') => match evStore T m t X cs with
            | none => none
            | some (m', o) => some (.junk, m', cat p (cat q (cat q' o)))
  | .buildSlice t n parts => match stripParts (evParts env parts.toList) with
    | (l0, p) => match evBuildSlice T m t n l0 with
      | some (A, m', q) => some (A, m', cat p q)
      | none => none
  | .build t parts => match stripParts (evParts env parts.toList) with
    | (l0, p) => match evBuildArr T m t l0 with
      | some (A, q) => some (A, m, cat p q)
      | none => none
  | .makeMap t none => match evMakeMap T m t with
    | some (A, m') => some (A, m', [])
    | none => none
  | .mapUpdate t x k v => match strip (ev env x) with
    | (X, p) => match strip (ev env k) with
      | (K, q) => match strip (ev env v) with
        | (V, o) => match evMapUpdate T m t X K V with
          | some m' => some (.junk, m', cat p (cat q o))
          | none => none
  | .insert t x k v => match strip (ev env x) with
    | (X, p) => match strip (ev env k) with
      | (K, q) => match strip (ev env v) with
        | (V, o) => match evMapUpdate T m t X K V with
          | some m' => some (.junk, m', cat p (cat q o))
          | none => none
  | .call { callee := .builtin .append, args, argTypes } =>
    match args.toList with
    | [s, x] => match argTypes.toList with
      | [t, t'] => bif Nat.beq t t' then match strip (ev env s) with
          | (S, p) => match strip (ev env x) with
            | (X, q) => match evAppend T m t S X with
              | some (A, m', o) => some (A, m', cat p (cat q o))
              | none => none
        else match strip (ev env s) with
          | (S, p) => match strip (ev env x) with
            | (X, q) => match evZeros T m t t' S X with
              | some (A, m', o) => some (A, m', cat p (cat q o))
              | none => none
      | _ => none
    | _ => none
  | _ => none

section sound
variable {P : Program} {T : Tab} {w : World} {F : Nat → Prop} {σ : Pls} {m : Mem}
theorem evZeros_ok (hT : TabOk P T) (hm : MemOk m σ F w) {t t' ty : TypeId} {s x : AV} {S X : Value} {A : AV} {m' : Mem} {obs : List Prop} (hs : Vc w F σ s S) (hx : Vc w F σ x X)
    (h : evZeros T m t t' s x = some (A, m', obs)) (hob : ∀ p ∈ obs, p) :
    ∃ u w' σ', (Builtin.append_ #[t, t'] ty #[S, X]).run P w = .ok u w' ∧ Vc w' F σ' A u ∧ MemOk m' σ' F w' ∧ Step σ F w σ' F w' ∧ SLe σ σ' := by
  unfold evZeros at h
  split at h <;> try (cases h; done)
  rename_i e sz he
  split at h <;> try (cases h; done)
  rename_i te hte
  split at h <;> try (cases h; done)
  rename_i tn htn
  split at h <;> try (cases h; done)
  rename_i kn hkn
  split at h <;> try (cases h; done)
  split at h <;> try (cases h; done)
  rename_i kq k
  cases hb0 : Nat.beq te.bytes 0 with
  | true => rw [hb0] at h; cases h
  | false =>
  rw [hb0] at h
  simp only [cond_false, Option.some.injEq, Prod.mk.injEq] at h
  obtain ⟨rfl, rfl, rfl⟩ := h
  have h0 : 0 < k := hob _ (List.mem_cons_self ..)
  have hcap : k.toNat * te.bytes ≤ 140737488355328 := hob (k.toNat * te.bytes ≤ 140737488355328) (by simp)
  cases hs with | d hs => cases hs with
  | nils =>
  cases hx with | d hx => cases hx with
  | int =>
  obtain ⟨hu, hrs, te', hte', htsz⟩ := elemOf_ok hT he
  have hsz := sz_pos hT he
  obtain ⟨i, z, hi, his, hib, hz, hzs, hzsz⟩ := tiIs_info (hT _ _ hte)
  have hsize : i.size = sz := by
    obtain ⟨i', z', hi', his', _⟩ := tiIs_info hte'
    rw [hi] at hi'
    injection hi' with hi'
    subst hi'
    rw [his', htsz]
  have hnu : P.underlying t' = some (.int kn) := kindIs_int (by
    have := hT _ _ htn
    unfold tiIs at this
    simp only [Bool.and_eq_true] at this
    rw [hkn] at this
    exact this.1.2)
  obtain ⟨n, hn⟩ : ∃ n : Nat, k = n := ⟨k.toNat, by omega⟩
  subst hn
  simp only [Int.toNat_natCast] at hcap ⊢
  have hn0 : 0 < n := by omega
  have hbpos : 0 < te.bytes := by have := Nat.ne_of_beq_eq_false hb0; omega
  have hbig : n ≤ 140737488355328 := Nat.le_trans (Nat.le_mul_of_pos_right n hbpos) hcap
  have hrun := Lib.run_append_grow_zeros w t t' ty e i z kq kn hu hnu hi hz none 0 0 [] (run_firstCells_none ..) n hn0 (by rw [hsize]; exact hsz) (by omega) (by omega) (by rw [hib]; omega) (by rw [Nat.zero_add, hib]; exact growslice_fits (by omega) hcap)
  rw [Nat.zero_add] at hrun
  have hG1 := grownCap_ge w n 0 e
  have hG2 := grownCap_le_maxLen w n 0 e (by unfold maxLen; omega)
  generalize grownCap w n 0 e = G at hrun hG1 hG2
  have hz0 : CellsOk w F σ (up te.zero) z.cells.toList := .zero hzs
  have hzl : z.cells.size = sz := by
    obtain ⟨i', z', hi', his', _⟩ := tiIs_info hte'
    rw [hzsz, ← his, hsize]
  have hzat : ∀ i j, i < n → j < sz → (Builtin.zeroCells z.cells n)[i * sz + j]? = z.cells[j]? := fun i j hi hj => by
    have h1 := row_lt hi hj
    simp only [Builtin.zeroCells, hzl]
    rw [Array.getElem?_map, Array.getElem?_range, if_pos h1]
    have h2 : (i * sz + j) % sz = j := by rw [Nat.mul_comm, Nat.mul_add_mod, Nat.mod_eq_of_lt hj]
    simp only [Option.map_some, h2]
    have h3 : j < z.cells.size := by omega
    simp [h3]
  obtain ⟨σ', g1, g2, g3, g4⟩ := newRow_ok (w' := w.drew.alloc (.cells (([] : List Value).toArray ++ Builtin.zeroCells z.cells n ++ Builtin.zeroCells z.cells (G - n)) e)) (b := w.heap.size) (tot := G) (us := ((([] : List Value).toArray ++ Builtin.zeroCells z.cells n ++ Builtin.zeroCells z.cells (G - n))).toList) (e := e) (sz := sz) (n := n) (f := fun _ => up te.zero) hm (Nat.le_refl _) (by simp) (fun b hb => heap_alloc_old w.drew _ b hb) rfl rfl rfl (Nat.le_succ _)
    (by rw [Array.toArray_toList]; exact heap_alloc_new w.drew _)
    (by
      simp only [Array.length_toList, Array.size_append, size_zeroCells, hzl, List.size_toArray, List.length_nil, Nat.zero_add, ← Nat.add_mul]
      congr 1; omega) hG1 hG2
    ⟨fun i hi => by rw [← hz0.1, Array.length_toList, hzl], by
      simp only [Array.length_toList, Array.size_append, size_zeroCells, hzl, List.size_toArray, List.length_nil, Nat.zero_add]
      omega, fun i j A hi hA => by
      have hj : j < sz := by
        have := (List.getElem?_eq_some_iff.1 hA).1
        rw [← hz0.1, Array.length_toList, hzl] at this
        exact this
      have h1 := row_lt hi hj
      have hu : z.cells.toList[j]? = some (z.cells[j]'(by omega)) := by simp [show j < z.cells.size by omega]
      obtain ⟨q1, q2⟩ := hz0.2 j A _ hA hu
      refine ⟨_, ?_, q1, q2⟩
      rw [Array.getElem?_toList, Array.getElem?_append_left (by simp [size_zeroCells, hzl]; omega)]
      have : (([] : List Value).toArray ++ Builtin.zeroCells z.cells n) = Builtin.zeroCells z.cells n := by simp
      rw [this, hzat i j hi hj]
      simp [show j < z.cells.size by omega]⟩
  exact ⟨_, _, σ', hrun, g1, g2, g3, g4⟩
theorem arr_ok (hm : MemOk m σ F w) {t : TypeId} {n : Nat} {xs : List D} {us : List Value} (hl : us.length = n) (hx : xs.length = n) (hmx : n ≤ maxLen)
    (h : ∀ (j : Nat) x u, xs[j]? = some x → us[j]? = some u → Rd w F x u ∧ u.oneCell' = true) :
    ∃ σ', Vc (w.alloc (.cells us.toArray t)) F σ' (.ptr m.new 0 0 0) (.pointer (some ⟨w.heap.size, 0, none⟩)) ∧ MemOk (m.add (.vec t 1 0 n fun j => [.d (xs.getD j .nilp)])) σ' F (w.alloc (.cells us.toArray t)) ∧ Step σ F w σ' F (w.alloc (.cells us.toArray t)) ∧ SLe σ σ' := by
  let pl : Pl := ⟨0, 1, some (w.heap.size, n)⟩
  have hn := new_none hm
  have hs := SLe.upd_new (σ := σ) (r := m.new) (some pl) hn
  have hkF : ∀ b, F b → (w.alloc (.cells us.toArray t)).heap[b]? = w.heap[b]? := fun b hb => heap_alloc_old w _ b (hm.fl b hb)
  have hB : BlkOk (w.alloc (.cells us.toArray t)) F (upd σ m.new (some pl)) (.vec t 1 0 n fun j => [.d (xs.getD j .nilp)]) pl :=
    ⟨rfl, rfl, fun h => by simp [pl] at h, fun i hi => rfl, fun b1 t1 h1 => by
      simp only [pl, Option.some.injEq, Prod.mk.injEq] at h1
      obtain ⟨rfl, rfl⟩ := h1
      refine ⟨Nat.le_refl _, hmx, us, heap_alloc_new w _, by omega, fun i j A hi hA => ?_⟩
      have hxi : xs[i]? = some (xs.getD i .nilp) := by rw [List.getD_eq_getElem?_getD, List.getElem?_eq_getElem (by omega)]; rfl
      have hui : us[i]? = some (us[i]'(by omega)) := List.getElem?_eq_getElem (by omega)
      match j, hA with
      | 0, hA =>
        simp only [List.getElem?_cons_zero, Option.some.injEq] at hA
        subst hA
        obtain ⟨g1, g2⟩ := h i _ _ hxi hui
        exact ⟨us[i]'(by omega), by rw [show i * 1 + 0 = i by omega]; exact hui, .d (g1.mono (fun _ h => h) hkF), g2⟩
      | j + 1, hA => simp at hA⟩
  obtain ⟨h1, h2⟩ := fresh_ok (w' := w.alloc (.cells us.toArray t)) hm (by rw [size_alloc]; omega) (fun b hb => heap_alloc_old w _ b hb) hB (fun b t' h => by
    simp only [pl, Option.some.injEq, Prod.mk.injEq] at h
    obtain ⟨rfl, _⟩ := h
    exact ⟨Nat.le_refl _, by rw [size_alloc]; omega⟩)
  refine ⟨_, .ptr (upd_self σ m.new (some pl)) fun p hp => ?_, h1, step_alloc (fun b t' h => ?_), h2⟩
  · injection hp with hp
    subst hp
    exact ⟨Nat.le_refl _, fun _ => ⟨w.heap.size, n, rfl, by simp⟩⟩
  · simp only [pl, Option.some.injEq, Prod.mk.injEq] at h
    omega
theorem arrStore_ok (hT : TabOk P T) (hm : MemOk m σ F w) {t : TypeId} {x y : AV} {X V : Value} {m' : Mem} {p : List Prop} (hx : Vc w F σ x X) (hy : Vc w F σ y V)
    (h : arrStore T m t x y = some (m', p)) (hp : ∀ q ∈ p, q) : ∃ w' σ', (Instr.storeAt t X V).run P w = .ok () w' ∧ MemOk m' σ' F w' ∧ Step σ F w σ' F w' ∧ SLe σ σ' := by
  unfold arrStore at h
  split at h <;> try (cases h; done)
  rename_i n e he
  obtain ⟨hu, hs, ti, hti, ht, hsize, hagg⟩ := arrOf_ok hT he
  split at h <;> try (cases h; done)
  rename_i r g i off
  split at h <;> try (cases h; done)
  rename_i e' sz g' n' f hB
  split at h <;> try (cases h; done)
  rename_i xs
  cases hz : (Nat.beq i 0 && (Nat.beq off 0 && Nat.beq sz 1)) with
  | false => rw [hz] at h; cases h
  | true =>
    rw [hz] at h
    simp only [cond_true, Option.some.injEq, Prod.mk.injEq] at h
    obtain ⟨rfl, rfl⟩ := h
    simp only [Bool.and_eq_true] at hz
    have e1 := Nat.eq_of_beq_eq_true hz.1
    have e2 := Nat.eq_of_beq_eq_true hz.2.1
    have e3 := Nat.eq_of_beq_eq_true hz.2.2
    subst e1; subst e2; subst e3
    have hg : g' = g := hp _ (by simp)
    have hn : n' = n := hp _ (by simp)
    have hxl : xs.length = n := hp _ (by simp)
    have hone : ∀ x, x ∈ xs → x.one = true := hp _ (by simp)
    subst hg; subst hn
    obtain ⟨pl, hr, hok, _, hat⟩ := ptr_row hm hx (Mem.get_at hB)
    obtain ⟨h0, hsz, hn0, hrow, hl⟩ := hok
    obtain ⟨b, tot, hl', hX⟩ := hat h0
    obtain ⟨hnt, htm, us, hheap, hlen, hvc⟩ := hl b tot hl'
    subst hX
    cases hy with
    | d hy => cases hy with
      | @agg _ vs hvl hrd =>
        have hv : ∀ v ∈ vs, v.oneCell' = true := fun v hvm => by
          obtain ⟨j, hj, rfl⟩ := List.getElem_of_mem hvm
          have hj' : j < xs.length := by omega
          exact (hrd j _ _ (List.getElem?_eq_getElem hj') (List.getElem?_eq_getElem hj)).one_ok (hone _ (List.getElem_mem hj'))
        have hfit : 0 + vs.length ≤ us.length := by omega
        have hr1 : (Instr.storeAt t (.pointer (some ⟨b, 0 * pl.sz + 0, none⟩)) (.agg vs.toArray)).run P w = .ok () (w.setRow b (us.take 0 ++ vs ++ us.drop (0 + vs.length)).toArray) := by
          have := run_storeCells_at P b 0 e' vs 0 us.toArray w hheap (by simpa using hfit) hv
          simp only [Nat.add_zero] at this
          have hc : (Value.agg vs.toArray).cells = vs.toArray := rfl
          simp [Instr.storeAt, Instr.sureAddr, storeVar, hc, run_sizeOf ht, hvl, hxl, hsize]
          have h3 : vs.length = n' := by omega
          simp only [h3] at this ⊢
          simpa using this
        have hstep := step_setRow (F := F) (w := w) hr hl' (us.take 0 ++ vs ++ us.drop (0 + vs.length)).toArray
        have hsl := SLe.upd_old hr (QLe.refl (some pl))
        have hkF : ∀ b', F b' → (w.setRow b (us.take 0 ++ vs ++ us.drop (0 + vs.length)).toArray).heap[b']? = w.heap[b']? := fun b' hb' => setRow_other w b b' _ (fun e => (hm.nf r pl b tot hr hl').1 (e ▸ hb'))
        obtain ⟨h1, h2⟩ := change_ok (w' := w.setRow b (us.take 0 ++ vs ++ us.drop (0 + vs.length)).toArray) (pl' := pl) (B' := .vec e' 1 g' n' fun j => [.d (xs.getD j .nilp)]) hm hr (by rw [size_setRow]; exact Nat.le_refl _) (fun b' _ ht => setRow_other w b b' _ (fun e => ht tot (by rw [hl', e]))) ⟨Nat.le_refl _, fun _ => rfl⟩
          ⟨h0, hsz, hn0, fun k hk => rfl, fun b1 tot1 hl1 => by
              rw [hl'] at hl1
              obtain ⟨rfl, rfl⟩ := Prod.mk.inj (Option.some.inj hl1)
              refine ⟨hnt, htm, _, setRow_heap w b us.toArray _ e' (0, 0) hheap, by rw [mid_length hfit]; exact hlen, fun k j A hk hA => ?_⟩
              rw [mid_at hfit]
              match j, hA with
              | 0, hA =>
                simp only [List.getElem?_cons_zero, Option.some.injEq] at hA
                subst hA
                have hxi : xs[k]? = some (xs.getD k .nilp) := by rw [List.getD_eq_getElem?_getD, List.getElem?_eq_getElem (by omega)]; rfl
                have hui : vs[k]? = some (vs[k]'(by omega)) := List.getElem?_eq_getElem (by omega)
                have hk2 := hrd k _ _ hxi hui
                refine ⟨vs[k]'(by omega), by rw [if_pos (by omega), show k * 1 + 0 - 0 = k by omega]; exact hui, .d (hk2.mono (fun _ h => h) hkF), hk2.one_ok (hone _ (List.mem_of_getElem? hxi))⟩
              | j + 1, hA => simp at hA⟩
          (fun b' t' h => ⟨by rw [size_setRow]; exact (hm.nf r pl b' t' hr h).2, .inl ⟨t', h⟩⟩)
        exact ⟨_, _, hr1, h1, hstep, h2⟩
theorem evEff_ok (hT : TabOk P T) (hm : MemOk m σ F w) {env : Env} {a : Act} (he : EnvOk env w F σ a.tmps) {o : Oper} {A : AV} {m' : Mem} {l : List Prop}
    (h : evEff T env m o.op = some (A, m', l)) (hob : ∀ p ∈ l, p) : EffOp P F σ w a.eval o A m' := by
  have st : ∀ x, (∀ p ∈ (strip (ev env x)).2, p) → Vc w F σ (strip (ev env x)).1 (a.eval x) := fun x hx => strip_ok (ev_ok he x) hx
  unfold evEff at h
  split at h <;> try (cases h; done)
  · rename_i t x hop
    split at h <;> try (cases h; done)
    rename_i B p eB
    split at h
    · rename_i n e he
      split at h <;> try (cases h; done)
      rename_i xs
      simp only [Option.some.injEq, Prod.mk.injEq] at h
      obtain ⟨rfl, rfl, rfl⟩ := h
      obtain ⟨h1, h2⟩ := all_cat hob
      have hx := st x (by rw [eB]; exact h1)
      rw [eB] at hx
      have k1 : xs.length = n := h2 _ (by simp)
      have k2 : n ≤ maxLen := h2 _ (by simp)
      have k3 : ∀ x, x ∈ xs → x.one = true := h2 _ (by simp)
      obtain ⟨X0, hX0⟩ : ∃ X0, a.eval x = X0 := ⟨_, rfl⟩
      rw [hX0] at hx
      cases hx with
      | d hx => cases hx with
        | @agg _ us hvl hrd =>
          obtain ⟨σ', g1, g2, g3, g4⟩ := arr_ok (t := t) hm (n := n) (by omega) k1 k2 fun j x u hx hu => ⟨hrd j x u hx hu, (hrd j x u hx hu).one_ok (k3 x (List.mem_of_getElem? hx))⟩
          have hc : (Value.agg us.toArray).cells = us.toArray := rfl
          exact ⟨.value (.pointer (some ⟨w.heap.size, 0, none⟩)), _, _, σ', by simp [execOp, hop, Instr.box, newVar, newRow, hX0, hc], .inl rfl, g1, g2, g3, g4⟩
    split at h <;> try (cases h; done)
    rename_i cs q hcs
    simp only [Option.some.injEq, Prod.mk.injEq] at h
    obtain ⟨rfl, rfl, rfl⟩ := h
    obtain ⟨h1, h2⟩ := all_cat hob
    have hx := st x (by rw [eB]; exact h1)
    rw [eB] at hx
    obtain ⟨us, e1, e2, e3⟩ := cellsOf_ok hm hx hcs h2
    obtain ⟨σ', g1, g2, g3, g4⟩ := box_ok (t := t) hm ⟨e2, e3⟩
    exact ⟨.value (.pointer (some ⟨w.heap.size, 0, none⟩)), _, _, σ', by simp [execOp, hop, Instr.box, newVar, newRow, e1], .inl rfl, g1, g2, g3, g4⟩
  · rename_i t hop
    split at h <;> try (cases h; done)
    rename_i ti hti
    split at h
    · rename_i n e he
      simp only [Option.some.injEq, Prod.mk.injEq] at h
      obtain ⟨rfl, rfl, rfl⟩ := h
      have hmx : n ≤ maxLen := hob _ (by simp)
      obtain ⟨_, _, ti', hti', _, hsize, _⟩ := arrOf_ok hT he
      rw [hti] at hti'
      cases hti'
      obtain ⟨z, hz, hzs, hzn⟩ := run_zeroValue (hT _ _ hti) w
      obtain ⟨k1, k2⟩ := sameZs_sound (w := w) (F := F) hzs
      obtain ⟨σ', g1, g2, g3, g4⟩ := arr_ok (t := t) hm (n := n) (us := z.cells.toList) (xs := ti.zero) (by simp; omega) (by rw [← k1]; simp; omega) hmx k2
      rw [Array.toArray_toList] at g1 g2 g3
      exact ⟨.value (.pointer (some ⟨w.heap.size, 0, none⟩)), _, w.alloc (.cells z.cells t), σ', by simp [execOp, hop, Instr.alloc, newVar, newRow, hz], .inl rfl, g1, g2, g3, g4⟩
    simp only [Option.some.injEq, Prod.mk.injEq] at h
    obtain ⟨rfl, rfl, rfl⟩ := h
    obtain ⟨z, hz, hzs, _⟩ := run_zeroValue (hT _ _ hti) w
    obtain ⟨σ', g1, g2, g3, g4⟩ := box_ok (t := t) hm (.zero hzs)
    rw [Array.toArray_toList] at g1 g2 g3
    exact ⟨.value (.pointer (some ⟨w.heap.size, 0, none⟩)), _, w.alloc (.cells z.cells t), σ', by simp [execOp, hop, Instr.alloc, newVar, newRow, hz], .inl rfl, g1, g2, g3, g4⟩
  · rename_i t x v hop
    split at h <;> try (cases h; done)
    rename_i X p eX
    split at h <;> try (cases h; done)
    rename_i V q eV
    split at h
    · rename_i m1 o1 hst
      simp only [Option.some.injEq, Prod.mk.injEq] at h
      obtain ⟨rfl, rfl, rfl⟩ := h
      obtain ⟨h1, h2⟩ := all_cat hob
      obtain ⟨h2, h3⟩ := all_cat h2
      have hx := st x (by rw [eX]; exact h1)
      rw [eX] at hx
      have hv := st v (by rw [eV]; exact h2)
      rw [eV] at hv
      obtain ⟨w', σ', g0, g1, g2, g3⟩ := arrStore_ok hT hm hx hv hst h3
      exact ⟨.skip, undef, w', σ', by simp [execOp, hop, g0], .inr ⟨rfl, rfl⟩, .junk, g1, g2, g3⟩
    split at h <;> try (cases h; done)
    rename_i cs q' hcs
    split at h <;> try (cases h; done)
    rename_i m1 o1 hst
    simp only [Option.some.injEq, Prod.mk.injEq] at h
    obtain ⟨rfl, rfl, rfl⟩ := h
    obtain ⟨h1, h2⟩ := all_cat hob
    obtain ⟨h2, h3⟩ := all_cat h2
    obtain ⟨h3, h4⟩ := all_cat h3
    have hx := st x (by rw [eX]; exact h1)
    rw [eX] at hx
    have hv := st v (by rw [eV]; exact h2)
    rw [eV] at hv
    obtain ⟨us, e1, e2, e3⟩ := cellsOf_ok hm hv hcs h3
    obtain ⟨w', σ', g0, g1, g2, g3⟩ := evStore_ok hT hm hx e1 ⟨e2, e3⟩ hst h4
    exact ⟨.skip, undef, w', σ', by simp [execOp, hop, g0], .inr ⟨rfl, rfl⟩, .junk, g1, g2, g3⟩
  · rename_i t n parts hop
    split at h
    rename_i l0 p0 el
    split at h <;> try (cases h; done)
    rename_i A1 m1 q1 hbs
    simp only [Option.some.injEq, Prod.mk.injEq] at h
    obtain ⟨rfl, rfl, rfl⟩ := h
    obtain ⟨hp1, hp2⟩ := all_cat hob
    obtain ⟨hk1, hk2⟩ := evParts_ok he parts.toList
    obtain ⟨u, w', σ', g0, g1, g2, g3, g4⟩ := evBuildSlice_ok (a := a) (parts := parts) hT hm (hk1.trans (by have := stripParts_fst (evParts env parts.toList); rw [el] at this; exact this.symm)) (fun j B u hB hu => by
      obtain ⟨A0, e1, e2⟩ := stripParts_ok (evParts env parts.toList) (by rw [el]; exact hp1) j B (by rw [el]; exact hB)
      exact e2 _ (hk2 j A0 u e1 hu)) hbs hp2
    exact ⟨.value u, u, w', σ', by simp [execOp, hop, g0], .inl rfl, g1, g2, g3, g4⟩
  · rename_i t parts hop
    split at h
    rename_i l0 p0 el
    split at h <;> try (cases h; done)
    rename_i A1 q1 hbs
    simp only [Option.some.injEq, Prod.mk.injEq] at h
    obtain ⟨rfl, rfl, rfl⟩ := h
    obtain ⟨hp1, hp2⟩ := all_cat hob
    obtain ⟨hk1, hk2⟩ := evParts_ok he parts.toList
    obtain ⟨u, g0, g1⟩ := evBuildArr_ok (a := a) (parts := parts) hT hm (hk1.trans (by have := stripParts_fst (evParts env parts.toList); rw [el] at this; exact this.symm)) (fun j B u hB hu => by
      obtain ⟨A0, e1, e2⟩ := stripParts_ok (evParts env parts.toList) (by rw [el]; exact hp1) j B (by rw [el]; exact hB)
      exact e2 _ (hk2 j A0 u e1 hu)) hbs hp2
    exact ⟨.value u, u, w, σ, by simp [execOp, hop, g0], .inl rfl, g1, hm, Step.refl σ F w, SLe.refl σ⟩
  · rename_i t hop
    split at h <;> try (cases h; done)
    rename_i A1 m1 hmk
    simp only [Option.some.injEq, Prod.mk.injEq] at h
    obtain ⟨rfl, rfl, rfl⟩ := h
    obtain ⟨u, w', σ', g0, g1, g2, g3, g4⟩ := evMakeMap_ok hT hm hmk
    exact ⟨.value u, u, w', σ', by simp [execOp, hop, g0], .inl rfl, g1, g2, g3, g4⟩
  · rename_i t x k v hop
    split at h <;> try (cases h; done)
    rename_i X p eX
    split at h <;> try (cases h; done)
    rename_i K q eK
    split at h <;> try (cases h; done)
    rename_i V o eV
    split at h <;> try (cases h; done)
    rename_i m1 hmu
    simp only [Option.some.injEq, Prod.mk.injEq] at h
    obtain ⟨rfl, rfl, rfl⟩ := h
    obtain ⟨h1, h2⟩ := all_cat hob
    obtain ⟨h2, h3⟩ := all_cat h2
    have hx := st x (by rw [eX]; exact h1)
    rw [eX] at hx
    have hk := st k (by rw [eK]; exact h2)
    rw [eK] at hk
    have hv := st v (by rw [eV]; exact h3)
    rw [eV] at hv
    obtain ⟨w', σ', g0, g1, g2, g3⟩ := evMapUpdate_ok hT hm hx hk hv hmu
    exact ⟨.skip, undef, w', σ', by simp [execOp, hop, g0], .inr ⟨rfl, rfl⟩, .junk, g1, g2, g3⟩
  · rename_i t x k v hop
    split at h <;> try (cases h; done)
    rename_i X p eX
    split at h <;> try (cases h; done)
    rename_i K q eK
    split at h <;> try (cases h; done)
    rename_i V o eV
    split at h <;> try (cases h; done)
    rename_i m1 hmu
    simp only [Option.some.injEq, Prod.mk.injEq] at h
    obtain ⟨rfl, rfl, rfl⟩ := h
    obtain ⟨h1, h2⟩ := all_cat hob
    obtain ⟨h2, h3⟩ := all_cat h2
    have hx := st x (by rw [eX]; exact h1)
    rw [eX] at hx
    have hk := st k (by rw [eK]; exact h2)
    rw [eK] at hk
    have hv := st v (by rw [eV]; exact h3)
    rw [eV] at hv
    obtain ⟨w', σ', g0, g1, g2, g3⟩ := evMapUpdate_ok hT hm hx hk hv hmu
    exact ⟨.skip, undef, w', σ', by simp [execOp, hop, g0], .inr ⟨rfl, rfl⟩, .junk, g1, g2, g3⟩
  · rename_i args argTypes hop
    split at h <;> try (cases h; done)
    rename_i s x ea
    split at h <;> try (cases h; done)
    rename_i t t' et
    cases htt : Nat.beq t t' with
    | false =>
      rw [htt] at h
      simp only [cond_false] at h
      split at h <;> try (cases h; done)
      rename_i A1 m1 o1 hap
      simp only [Option.some.injEq, Prod.mk.injEq] at h
      obtain ⟨rfl, rfl, rfl⟩ := h
      obtain ⟨h1, h2⟩ := all_cat hob
      obtain ⟨h2, h3⟩ := all_cat h2
      have hs := st s h1
      have hx := st x h2
      have ea : args = #[s, x] := by apply Array.ext'; simpa using ea
      have et : argTypes = #[t, t'] := by apply Array.ext'; simpa using et
      subst ea; subst et
      obtain ⟨u, w', σ', g0, g1, g2, g3, g4⟩ := evZeros_ok (ty := o.type) hT hm hs hx hap h3
      exact ⟨.value u, u, w', σ', by simp [execOp, hop, resolve, invoke, builtin, g0], .inl rfl, g1, g2, g3, g4⟩
    | true =>
      rw [htt] at h
      simp only [cond_true] at h
      have := Nat.eq_of_beq_eq_true htt
      subst this
      split at h <;> try (cases h; done)
      rename_i A1 m1 o1 hap
      simp only [Option.some.injEq, Prod.mk.injEq] at h
      obtain ⟨rfl, rfl, rfl⟩ := h
      obtain ⟨h1, h2⟩ := all_cat hob
      obtain ⟨h2, h3⟩ := all_cat h2
      have hs := st s h1
      have hx := st x h2
      have ea : args = #[s, x] := by apply Array.ext'; simpa using ea
      have et : argTypes = #[t, t] := by apply Array.ext'; simpa using et
      subst ea; subst et
      obtain ⟨u, w', σ', g0, g1, g2, g3, g4⟩ := evAppend_ok (ty := o.type) hT hm hs hx hap h3
      exact ⟨.value u, u, w', σ', by simp [execOp, hop, resolve, invoke, builtin, g0], .inl rfl, g1, g2, g3, g4⟩
end sound
end Go.Ab
/-
  The engine, part U: the fenced layer at the widest fence, in a round or not.
-/
namespace Go.Ab
set_option linter.unusedSimpArgs false
set_option linter.unusedVariables false

/-- The widest fence; the round that the activation is of. -/
def Fen (ro : Option Nat) : Fence := { Fence.wide with round := ro }
variable {ro : Option Nat} {n : Nat} {P : Program} {ops : Array Oper} {C : World → Prop} {md : Region.Mode}
theorem callsFen {f : FuncId} {args : Array Value} {w : World} {R : Ending → World → Prop} : CallsIn (Fen ro) n P f args w R ↔ Calls P f args w R :=
  callsIn_wide (n := n)
theorem Fen_fn (f : FuncId) : (Fen ro).fn f := trivial
theorem Fen_depth : (Fen ro).depth.isSome = true → 1 ≤ n := fun h => by cases h
theorem Fen_room (k : Nat) : (Fen ro).room k := fun d hd => by cases hd
theorem wpIn_at {o : Oper} {a : Act} {w : World} {next : Act → World → Prop} {Q : Exit → Act → World → Prop} (hd : ∀ c, o.op ≠ .defer c)
    (h : o.uponIn (Fen ro) n P a next Q ((execOp a.eval o).run P w)) : o.wpIn (Fen ro) n P a w next Q :=
  ⟨fun _ _ => trivial, by rw [Oper.semAt_eq _ _ _ hd]; exact h⟩

/-! ### statements that leave their order open, in a round too -/
theorem quiet_wpIn {o : Oper} {a : Act} {K : Act → Prop} {K' : Act → World → Prop} {Q' : Exit → Act → World → Prop} {w : World} (hw : C w) (h : ∀ a w', C w' → K a → K' a w')
    (hh : o.quiet P a C K) : o.wpIn (Fen ro) n P a w K' Q' := by
  obtain ⟨v, h1, h2⟩ := hh
  have h3 := h1 w hw
  unfold Oper.quietAt at h3
  have hd : ∀ c, o.op ≠ .defer c := fun c hc => by
    simp only [execOp, hc, Sem.run_bind] at h3
    cases hr : (resolve a.eval c o.type).run P w <;> simp [hr, Result.andThen, Oper.quietUpon] at h3
  refine wpIn_at hd ?_
  generalize (execOp a.eval o).run P w = r at *
  cases r with
  | ok x w' =>
    cases x <;> simp only [Oper.quietUpon] at h3 <;> simp only [Oper.uponIn]
    case value u =>
      obtain ⟨e1, e2⟩ := h3
      rw [e1, e2]
      exact h _ _ hw h2
    case skip =>
      obtain ⟨e1, e2⟩ := h3
      rw [e1, ← e2]
      exact h _ _ hw h2
    case enter f args =>
      obtain ⟨e1, hc⟩ := h3
      rw [e1]
      exact ⟨Fen_depth, callsFen.2 (hc.mono fun e w'' ⟨he, hw''⟩ => by subst he; exact h _ _ hw'' h2)⟩
  | halt x w' => simp only [Oper.quietUpon] at h3
theorem qOp_wpIn {i : Nat} {a : Act} {K : Act → Prop} {K' : Act → World → Prop} {Q' : Exit → Act → World → Prop} {w : World} (hC : C w) (h : ∀ a w', C w' → K a → K' a w')
    (hh : qOp P ops C i K a) : wpOpIn (Fen ro) n P ops Q' i K' a w := by
  unfold qOp at hh
  unfold wpOpIn
  split
  · rename_i ho; simp only [ho] at hh; exact h _ _ hC hh
  · rename_i o ho
    simp only [ho] at hh
    split
    · rename_i hw; simp only [hw, if_true] at hh; exact quiet_wpIn hC h hh
    · rename_i hw; simp only [hw] at hh; exact ⟨fun _ _ => trivial, h _ _ hC hh⟩
theorem anyQ_wpIn {Q : Act → Prop} {Q' : Exit → Act → World → Prop} (hQ : ∀ a w, C w → Q a → Q' .normal a w) : ∀ (fuel : Nat) (listed : Array Bool) (a : Act) (w : World), C w →
    wpAnyQ P md ops C Q fuel listed a → wpAnyIn (Fen ro) n P md ops Q' fuel listed a w
  | 0, _, _, _, hw, h => ⟨h.1, hQ _ _ hw h.2⟩
  | fuel + 1, _, _, _, hw, h => ⟨fun h0 => hQ _ _ hw (h.1 h0), fun i hi => qOp_wpIn hw (fun a' w' hw' => anyQ_wpIn hQ fuel _ a' w' hw') (h.2 i hi)⟩
theorem quiet_region {id : Nat} {Q : Exit → Act → World → Prop} {a : Act} {w : World} (hm : P.follows .mixedOrders = true) (hB : Region.lexB .any ops = true) (hC : C { w with drawn := w.drawn + 1 })
    (h : wpQuiet P ops C (fun a' => ∀ w', C w' → Q .normal a' w') ops.toList a) : (Code.region id ops true).wpIn (Fen ro) n P Q a w := by
  simp only [Region.lexB, Bool.and_eq_true] at hB
  refine wpIn_region_any hm (anyQ_wpIn (Q := fun a' => ∀ w', C w' → Q .normal a' w') (fun _ w' hw' h => h w' hw') _ _ _ _ hC ?_)
  have := wpAnyQ_lex (C := C) (md := .any) hB.1 ops.toList 0 (Array.replicate ops.size false) a (by simp) (by simpa using hB.2) h
  simpa using this
end Go.Ab
/-
  The engine, part M: lists of operations, calls, and code.
-/
namespace Go.Ab
set_option linter.unusedSimpArgs false
set_option linter.unusedVariables false

/-- May the function be entered by a call? -/
def CanEnter (P : Program) (f : FuncId) : Prop := ∃ fn, P.funcs[f]? = some fn ∧ (fn.name == "runtime.NumGoroutine") = false ∧ fn.body.isNone = false

def ArgsOk (w : World) (F : Nat → Prop) (σ : Pls) (args : List AV) (vals : List Value) : Prop :=
  vals.length = args.length ∧ ∀ (j : Nat) A u, args[j]? = some A → vals[j]? = some u → Vc w F σ A u

/-- A call of a function: it returns, what it returns and leaves in our memory meets K. -/
structure CallVC (P : Program) (f : FuncId) (args : List AV) (m : Mem) (K : AV → Mem → Prop) : Prop where
  can : CanEnter P f
  run : ∀ (σ : Pls) (F : Nat → Prop) (w : World) (vals : List Value), MemOk m σ F w → ArgsOk w F σ args vals →
    Calls P f vals.toArray w fun e w' => ∃ v A m' σ' F', e = .returned v ∧ K A m' ∧ Vc w' F' σ' A v ∧ MemOk m' σ' F' w' ∧ Step σ F w σ' F' w' ∧ SLe σ σ'
theorem CallVC.mono {P : Program} {f : FuncId} {args : List AV} {m : Mem} {K K' : AV → Mem → Prop} (h : CallVC P f args m K) (hk : ∀ A m', K A m' → K' A m') : CallVC P f args m K' :=
  ⟨h.can, fun σ F w vals h1 h2 => (h.run σ F w vals h1 h2).mono fun _ _ ⟨v, A, m', σ', F', a, b, c⟩ => ⟨v, A, m', σ', F', a, hk _ _ b, c⟩⟩

/-- A call of the yield of the loop whose record lies at block b. -/
structure YieldVC (P : Program) (b : Nat) (args : List AV) (m : Mem) (K : AV → Mem → Prop) : Prop where
  run : ∀ (σ : Pls) (F : Nat → Prop) (w : World) (vals : List Value), MemOk m σ F w → ArgsOk w F σ args vals →
    ∃ fn tmps assign body, (Instr.yield b vals.toArray).run P w = .ok (.round b fn tmps assign body) w ∧
      RoundIn (Fen none) 0 P b fn tmps assign body w fun e w' => ∃ v A m' σ' F', e = .returned v ∧ K A m' ∧ Vc w' F' σ' A v ∧ MemOk m' σ' F' w' ∧ Step σ F w σ' F' w' ∧ SLe σ σ'
/-- A call of a function value. -/
structure FnVC (P : Program) (fn : AV) (args : List AV) (m : Mem) (K : AV → Mem → Prop) : Prop where
  q : ∃ (f : FuncId) (first cap : List AV), (fn = .fn (.func f) first cap ∨ ∃ xs ys, fn = .d (.fn (.func f) xs ys) ∧ first = up xs ∧ cap = up ys) ∧ CallVC P f (first ++ args ++ cap) m K
def vcCall (P : Program) (fn : AV) (args : List AV) (m : Mem) (K : AV → Mem → Prop) : Prop :=
  match fn with
  | .d x => match x with
    | .fn f xs ys => match f with
      | .func f => match xs, ys with
        | [], [] => CallVC P f args m K
        | xs, ys => FnVC P (.d (.fn (.func f) xs ys)) args m K
      | f => FnVC P (.d (.fn f xs ys)) args m K
    | _ => False
  | .fn f xs ys => match f with
    | .yield b => match xs, ys with
      | [], [] => YieldVC P b args m K
      | _, _ => False
    | f => FnVC P (.fn f xs ys) args m K
  | _ => False

def stripAll (env : Env) : List Operand → List AV × List Prop
  | [] => ([], [])
  | x :: r => match strip (ev env x) with
    | (A, p) => match stripAll env r with
      | (l, q) => (A :: l, cat p q)

def dstOf : List Oper → Nat → Option Tmp
  | [], _ => none
  | o :: _, 0 => o.dst
  | _ :: r, j + 1 => dstOf r j
/-- When is a guarded operation carried out? -/
def guardOf (full : List Oper) (env : Env) (j : Nat) (want : Bool) : Option Bool :=
  match dstOf full j with
  | some t => match get env t with
    | .d (.bool b) => match want with
      | true => some b
      | false => some (!b)
    | .gd c (.d (.bool b)) => match want with
      | true => some (c && b)
      | false => some (c && !b)
    | _ => none
  | none => none
def setD (env : Env) (d : Option Tmp) (A : AV) (K : Env → Prop) : Prop :=
  match d with
  | some t => K ((t, A) :: env)
  | none => K env

/-- An operation, shown by hand. -/
structure OpVC (P : Program) (o : Oper) (env : Env) (m : Mem) (K : AV → Mem → Prop) : Prop where
  nd : ∀ c, o.op ≠ .defer c
  run : ∀ (a : Act) (w : World) (F : Nat → Prop) (σ : Pls), EnvOk env w F σ a.tmps → MemOk m σ F w →
    ∃ n u w' σ' F' A m', (execOp a.eval o).run P w = .ok n w' ∧ (n = .value u ∨ (n = .skip ∧ u = undef)) ∧ K A m' ∧ Vc w' F' σ' A u ∧ MemOk m' σ' F' w' ∧ Step σ F w σ' F' w' ∧ SLe σ σ'
def memN (n : Nat) : List Nat → Bool
  | [] => false
  | k :: r => Nat.beq k n || memN n r
def isExt : Operand → Bool
  | .func f => memN f exts
  | _ => false
noncomputable def vcOp (P : Program) (T : Tab) (o : Oper) (env : Env) (m : Mem) (K : Env → Mem → Prop) : Prop :=
  match evRead T env m o.op with
  | some (v, l) => obs l (frc v fun v => setD env o.dst v fun env => K env m)
  | none => match evEff T env m o.op with
    | some (v, m', l) => obs l (frc v fun v => frcM m' fun m' => setD env o.dst v fun env => K env m')
    | none => match o.op with
      | .call { callee := .value f, args, .. } => bif isExt f then OpVC P o env m fun v m' => Ev (setD env o.dst v fun env => K env m') else match strip (ev env f) with
        | (fn, p) => match stripAll env args.toList with
          | (as, q) => obs (cat p q) (vcCall P fn as m fun v m' => Ev (setD env o.dst v fun env => K env m'))
      | _ => OpVC P o env m fun v m' => Ev (setD env o.dst v fun env => K env m')
noncomputable def vcOps (P : Program) (T : Tab) (full ops : List Oper) : Env → Mem → (Env → Mem → Prop) → Prop :=
  List.rec (motive := fun _ => Env → Mem → (Env → Mem → Prop) → Prop) (fun env m K => K env m)
    (fun o _ ih env m K => match o.guard with
      | none => vcOp P T o env m fun env m => ih env m K
      | some (j, want) => match guardOf full env j want with
        | none => False
        | some g => match evRead T env m o.op with
          | some (v, l) => obs (under g l) (frc v fun v => setD env o.dst (.gd g v) fun env => ih env m K)
          | none => Br g (Ev (vcOp P T o env m fun env m => ih env m K)) (Ev (setD env o.dst (.gd false (.d (.bool false))) fun env => ih env m K))) ops
theorem vcOps_cons (P : Program) (T : Tab) (full : List Oper) (o : Oper) (rest : List Oper) (env : Env) (m : Mem) (K : Env → Mem → Prop) : vcOps P T full (o :: rest) env m K = match o.guard with
    | none => vcOp P T o env m fun env m => vcOps P T full rest env m K
    | some (j, want) => match guardOf full env j want with
      | none => False
      | some g => match evRead T env m o.op with
        | some (v, l) => obs (under g l) (frc v fun v => setD env o.dst (.gd g v) fun env => vcOps P T full rest env m K)
        | none => Br g (Ev (vcOp P T o env m fun env m => vcOps P T full rest env m K)) (Ev (setD env o.dst (.gd false (.d (.bool false))) fun env => vcOps P T full rest env m K)) := rfl

/-- What stands in an operation's slot is in its place. -/
def dstsIn (N : Nat) : List Oper → Bool
  | [] => true
  | o :: r => (match o.dst with
    | some d => Nat.blt d N
    | none => true) && dstsIn N r

section sound
variable {P : Program} {T : Tab} {ro : Option Nat}
theorem evRead_defer (T : Tab) (env : Env) (m : Mem) (c : Call) : evRead T env m (.defer c) = none := rfl
theorem evEff_defer (T : Tab) (env : Env) (m : Mem) (c : Call) : evEff T env m (.defer c) = none := rfl

theorem put_ok {w : World} {F : Nat → Prop} {σ : Pls} {env : Env} {a : Act} {N d : Nat} {A : AV} {v : Value} (hN : a.tmps.size = N) (hd : d < N) (he : EnvOk env w F σ a.tmps) (hv : Vc w F σ A v) :
    EnvOk ((d, A) :: env) w F σ (a.put (some d) v).tmps := by
  intro t
  simp only [get, Act.put]
  cases hb : Nat.beq d t with
  | true =>
    have := Nat.eq_of_beq_eq_true hb
    subst this
    simp only [cond_true, Array.getD_eq_getD_getElem?]
    rw [Array.getElem?_setIfInBounds_self_of_lt (by omega)]
    exact hv
  | false =>
    have hne := Nat.ne_of_beq_eq_false hb
    simp only [cond_false, Array.getD_eq_getD_getElem?]
    rw [Array.getElem?_setIfInBounds_ne hne, ← Array.getD_eq_getD_getElem?]
    exact he t
theorem put_size (a : Act) (d : Option Tmp) (v : Value) : (a.put d v).tmps.size = a.tmps.size := by cases d <;> simp [Act.put]
theorem put_defers (a : Act) (d : Option Tmp) (v : Value) : (a.put d v).defers = a.defers := by cases d <;> rfl
theorem EnvOk.mono {w w' : World} {F F' : Nat → Prop} {σ σ' : Pls} {env : Env} {t : Array Value} (hF : ∀ b, F b → F' b) (hh : ∀ b, F b → w'.heap[b]? = w.heap[b]?) (hs : SLe σ σ') (h : EnvOk env w F σ t) : EnvOk env w' F' σ' t :=
  fun k => (h k).mono hF hh hs
theorem setD_ok {w : World} {F : Nat → Prop} {σ : Pls} {env : Env} {a : Act} {N : Nat} {d : Option Tmp} {A : AV} {v : Value} {K : Env → Prop} (hN : a.tmps.size = N) (hd : (match d with | some d => Nat.blt d N | none => true) = true) (he : EnvOk env w F σ a.tmps) (hv : Vc w F σ A v)
    (h : setD env d A K) : ∃ env', K env' ∧ EnvOk env' w F σ (a.put d v).tmps := by
  cases d with
  | none => exact ⟨env, h, he⟩
  | some d => exact ⟨_, h, put_ok hN (Nat.le_of_ble_eq_true hd) he hv⟩

theorem dstOf_eq : ∀ (l : List Oper) (j : Nat), dstOf l j = (l[j]?).bind (·.dst)
  | [], _ => by simp [dstOf]
  | _ :: _, 0 => rfl
  | _ :: r, j + 1 => by simpa [dstOf] using dstOf_eq r j
theorem guardOf_ok {w : World} {F : Nat → Prop} {σ : Pls} {env : Env} {full : List Oper} {tmps : Array Value} (he : EnvOk env w F σ tmps) {j : Nat} {want g : Bool} (h : guardOf full env j want = some g) :
    (yielded full.toArray tmps j == some want) = g := by
  unfold guardOf at h
  split at h <;> try (cases h; done)
  rename_i t ht
  rw [dstOf_eq] at ht
  have hy : yielded full.toArray tmps j = match tmps[t]? with | some (.bool b) => some b | _ => none := by
    unfold yielded
    have : ((full.toArray[j]?).bind (·.dst)) = some t := by simpa using ht
    rw [this]
    rfl
  have hv := he t
  have hget : ∀ b, tmps.getD t undef = .bool b → tmps[t]? = some (.bool b) := fun b hb => by
    rw [Array.getD_eq_getD_getElem?] at hb
    cases hc : tmps[t]? with
    | none => rw [hc] at hb; simp [undef] at hb
    | some v => rw [hc] at hb; simp at hb; rw [hb]
  split at h <;> try (cases h; done)
  · rename_i b e
    rw [e] at hv
    rw [hy, hget b hv.bool]
    cases want <;> simp at h <;> subst h <;> first | (cases b <;> rfl) | (cases g <;> rfl)
  · rename_i c b e
    rw [e] at hv
    cases hv with
    | gd h1 h2 =>
      cases c with
      | true =>
        rw [hy, hget b (h1 rfl).bool]
        cases want <;> simp at h <;> subst h <;> first | (cases b <;> rfl) | (cases g <;> rfl)
      | false =>
        have hu := h2 rfl
        have : yielded full.toArray tmps j = none := by
          rw [hy]
          rw [Array.getD_eq_getD_getElem?] at hu
          cases hc : tmps[t]? with
          | none => rfl
          | some v => rw [hc] at hu; simp at hu; subst hu; rfl
        rw [this]
        cases want <;> simp at h <;> subst h <;> rfl

theorem stripAll_ok {w : World} {F : Nat → Prop} {σ : Pls} {env : Env} {a : Act} (he : EnvOk env w F σ a.tmps) : ∀ (l : List Operand), (∀ p ∈ (stripAll env l).2, p) → ArgsOk w F σ (stripAll env l).1 (l.map a.eval)
  | [], _ => ⟨rfl, fun j A u h => by simp [stripAll] at h⟩
  | x :: r, hp => by
    simp only [stripAll] at hp ⊢
    obtain ⟨h1, h2⟩ := all_cat hp
    obtain ⟨h3, h4⟩ := stripAll_ok he r h2
    refine ⟨by simp [← h3], fun j A u hA hu => ?_⟩
    cases j with
    | zero => simp at hA hu; subst hA; subst hu; exact strip_ok (ev_ok he x) h1
    | succ j => exact h4 j A u (by simpa using hA) (by simpa using hu)

theorem ArgsOk.app {w : World} {F : Nat → Prop} {σ : Pls} {as bs : List AV} {us vs : List Value} (h : ArgsOk w F σ as us) (k : ArgsOk w F σ bs vs) : ArgsOk w F σ (as ++ bs) (us ++ vs) := by
  refine ⟨by simp [h.1, k.1], fun j A u hA hu => ?_⟩
  by_cases hj : j < as.length
  · rw [List.getElem?_append_left hj] at hA
    rw [List.getElem?_append_left (by rw [h.1]; exact hj)] at hu
    exact h.2 j A u hA hu
  · rw [List.getElem?_append_right (by omega)] at hA
    rw [List.getElem?_append_right (by rw [h.1]; omega), h.1] at hu
    exact k.2 _ A u hA hu
theorem ArgsOk.ofD {w : World} {F : Nat → Prop} {σ : Pls} {xs : List D} {us : List Value} (hl : us.length = xs.length) (h : ∀ (j : Nat) x u, xs[j]? = some x → us[j]? = some u → Rd w F x u) : ArgsOk w F σ (up xs) us :=
  ⟨by rw [up_eq, List.length_map, hl], fun j A u hA hu => by obtain ⟨x, hx, rfl⟩ := up_at hA; exact .d (h j x u hx hu)⟩

theorem run_callFunc {f : FuncId} (h : CanEnter P f) (args : Array Value) (w : World) : (callFunc f args).run P w = .ok (.enter f args) w := by
  obtain ⟨fn, h1, h2, h3⟩ := h
  simp only [callFunc, Sem.run_bind, run_program, Result.andThen_ok, h1, h2, h3, Bool.false_eq_true, if_false, Sem.run_pure]

/-- The call of a function value, in the machine. -/
theorem vcCall_ok {o : Oper} {f : Operand} {args : Array Operand} {at_ : Array TypeId} (hop : o.op = .call { callee := .value f, args, argTypes := at_ }) {a : Act} {w : World} {F : Nat → Prop} {σ : Pls} {m : Mem} (hm : MemOk m σ F w) {fn : AV} {as : List AV} (hf : Vc w F σ fn (a.eval f)) (ha : ArgsOk w F σ as (args.toList.map a.eval))
    {K : AV → Mem → Prop} (h : vcCall P fn as m K) {next : Act → World → Prop} {Q : Exit → Act → World → Prop}
    (hn : ∀ v A m' σ' F' w', K A m' → Vc w' F' σ' A v → MemOk m' σ' F' w' → Step σ F w σ' F' w' → SLe σ σ' → next (a.put o.dst v) w') : o.wpIn (Fen ro) 0 P a w next Q := by
  have main : ∀ (id : FuncId) (first cap : List AV) (us vs : List Value), a.eval f = .func (.func id) us.toArray vs.toArray → ArgsOk w F σ first us → ArgsOk w F σ cap vs → CallVC P id (first ++ as ++ cap) m K → o.wpIn (Fen ro) 0 P a w next Q := by
    intro id first cap us vs hfv h1 h2 hc
    have hall := (h1.app ha).app h2
    have hcall := hc.run σ F w _ hm hall
    have hrun : (execOp a.eval o).run P w = .ok (.enter id (us ++ args.toList.map a.eval ++ vs).toArray) w := by
      have e : us.toArray ++ Array.map a.eval args ++ vs.toArray = (us ++ args.toList.map a.eval ++ vs).toArray := by apply Array.ext'; simp
      simp only [execOp, hop, Sem.run_bind, resolve, Deferred.ofValue, hfv, invoke, Sem.run_pure, Result.andThen_ok, e]
      exact run_callFunc hc.can _ w
    refine wpIn_at (by rw [hop]; exact fun _ h => nomatch h) ?_
    rw [hrun, Oper.uponIn_enter]
    refine ⟨Fen_depth, callsFen.2 ?_⟩
    exact hcall.mono fun e w' ⟨v, A, m', σ', F', he, hk, hv, hm', hs, hle⟩ => by subst he; exact hn v A m' σ' F' w' hk hv hm' hs hle
  have viaFn : FnVC P fn as m K → o.wpIn (Fen ro) 0 P a w next Q := by
    rintro ⟨id, first, cap, hcase, hc⟩
    rcases hcase with rfl | ⟨xs, ys, rfl, rfl, rfl⟩
    · generalize hX : a.eval f = X at hf
      cases hf with
      | fn h1 h2 h3 h4 => exact main id first cap _ _ hX ⟨h1, h3⟩ ⟨h2, h4⟩ hc
    · generalize hX : a.eval f = X at hf
      cases hf with
      | d hf => cases hf with
        | fn h1 h2 h3 h4 => exact main id (up xs) (up ys) _ _ hX (.ofD h1 h3) (.ofD h2 h4) hc
  unfold vcCall at h
  split at h <;> try (cases h; done)
  · split at h <;> try (cases h; done)
    split at h
    · split at h
      · generalize hX : a.eval f = X at hf
        cases hf with
        | d hf => cases hf with
          | fn h1 h2 h3 h4 => exact main _ [] [] _ _ hX ⟨by simpa using h1, fun j A u h => by simp at h⟩ ⟨by simpa using h2, fun j A u h => by simp at h⟩ (by simpa using h)
      · exact viaFn h
    · exact viaFn h
  · split at h
    · rename_i b
      split at h <;> try (cases h; done)
      generalize hX : a.eval f = X at hf
      cases hf with
      | @fn _ _ _ us vs h1 h2 h3 h4 =>
        have e1 : us = [] := by simpa using h1
        have e2 : vs = [] := by simpa using h2
        subst e1; subst e2
        obtain ⟨fn, tmps, assign, body, hy, hr⟩ := h.run σ F w (args.toList.map a.eval) hm ha
        refine wpIn_at (by rw [hop]; exact fun _ h => nomatch h) ?_
        have hrun : (execOp a.eval o).run P w = .ok (.round b fn tmps assign body) w := by
          have e : ([] : List Value).toArray ++ Array.map a.eval args = (args.toList.map a.eval).toArray := by apply Array.ext'; simp
          simp only [execOp, hop, Sem.run_bind, resolve, Deferred.ofValue, hX, Sem.run_pure, Result.andThen_ok, invoke, e]
          exact hy
        rw [hrun, Oper.uponIn_round]
        exact ⟨Fen_depth, hr.mono fun e w' ⟨v, A, m', σ', F', he, hk, hv, hm', hs, hle⟩ => by subst he; exact hn v A m' σ' F' w' hk hv hm' hs hle⟩
    · exact viaFn h

theorem vcOp_ok (hT : TabOk P T) {o : Oper} {N : Nat} {env : Env} {m : Mem} {K : Env → Mem → Prop} (h : vcOp P T o env m K) (hd : (match o.dst with | some d => Nat.blt d N | none => true) = true)
    {a : Act} {w : World} {F : Nat → Prop} {σ : Pls} (hN : a.tmps.size = N) (he : EnvOk env w F σ a.tmps) (hm : MemOk m σ F w) {next : Act → World → Prop} {Q : Exit → Act → World → Prop}
    (hn : ∀ env' m' v w' σ' F', K env' m' → EnvOk env' w' F' σ' (a.put o.dst v).tmps → MemOk m' σ' F' w' → Step σ F w σ' F' w' → SLe σ σ' → next (a.put o.dst v) w') : o.wpIn (Fen ro) 0 P a w next Q := by
  unfold vcOp at h
  split at h
  · rename_i v l hr
    obtain ⟨hl, h⟩ := obs_ok h
    rw [frc_eq] at h
    obtain ⟨u, hu, hrun⟩ := evRead_ok hT hm he hr hl
    obtain ⟨env', hk, he'⟩ := setD_ok hN hd he hu h
    refine wpIn_at (fun c hc => by rw [hc, evRead_defer] at hr; cases hr) ?_
    rw [hrun w (Agree.refl F σ w), Oper.uponIn_value]
    exact hn env' m u w σ F hk he' hm (Step.refl σ F w) (SLe.refl σ)
  · split at h
    · rename_i v m' l hr
      obtain ⟨hl, h⟩ := obs_ok h
      rw [frc_eq, frcM_eq] at h
      obtain ⟨n, u, w', σ', hrun, hcase, hu, hm', hs, hle⟩ := evEff_ok hT hm he hr hl
      have he1 := he.mono (w' := w') hs.fro (hs.frozen hm) hle
      obtain ⟨env', hk, he'⟩ := setD_ok hN hd he1 hu h
      refine wpIn_at (fun c hc => by rw [hc, evEff_defer] at hr; cases hr) ?_
      rw [hrun]
      rcases hcase with rfl | ⟨rfl, rfl⟩
      · rw [Oper.uponIn_value]; exact hn env' m' u w' σ' F hk he' hm' hs hle
      · rw [Oper.uponIn_skip]; exact hn env' m' undef w' σ' F hk he' hm' hs hle
    · have custom : OpVC P o env m (fun v m' => Ev (setD env o.dst v fun env => K env m')) → o.wpIn (Fen ro) 0 P a w next Q := fun h => by
        obtain ⟨n, u, w', σ', F', A, m', hrun, hcase, hk, hu, hm', hs, hle⟩ := h.run a w F σ he hm
        have he1 := he.mono (w' := w') hs.fro (hs.frozen hm) hle
        obtain ⟨env', hk, he'⟩ := setD_ok hN hd he1 hu hk.o
        refine wpIn_at h.nd ?_
        rw [hrun]
        rcases hcase with rfl | ⟨rfl, rfl⟩
        · rw [Oper.uponIn_value]; exact hn env' m' u w' σ' F' hk he' hm' hs hle
        · rw [Oper.uponIn_skip]; exact hn env' m' undef w' σ' F' hk he' hm' hs hle
      split at h
      rotate_left
      · exact custom h
      rename_i f args at_ hop
      cases hx : isExt f with
      | true =>
        rw [hx] at h
        exact custom h
      | false =>
      rw [hx] at h
      simp only [cond_false] at h
      obtain ⟨hl, h⟩ := obs_ok h
      obtain ⟨h1, h2⟩ := all_cat hl
      refine vcCall_ok hop hm (strip_ok (ev_ok he f) h1) (stripAll_ok he args.toList h2) h fun v A m' σ' F' w' hk hv hm' hs hle => ?_
      obtain ⟨env', hk', he'⟩ := setD_ok hN hd (he.mono hs.fro (hs.frozen hm) hle) hv hk.o
      exact hn env' m' v w' σ' F' hk' he' hm' hs hle

theorem vcOps_ok (hT : TabOk P T) {full : List Oper} {ops : Array Oper} (hfull : ops = full.toArray) {N : Nat} {K : Env → Mem → Prop} {Q : Exit → Act → World → Prop} :
    ∀ (rest : List Oper) (env : Env) (m : Mem), dstsIn N rest = true → vcOps P T full rest env m K → ∀ (a : Act) (w : World) (F : Nat → Prop) (σ : Pls), a.tmps.size = N → EnvOk env w F σ a.tmps → MemOk m σ F w →
      (∀ env' m' a' w' σ' F', K env' m' → a'.tmps.size = N → a'.defers = a.defers → EnvOk env' w' F' σ' a'.tmps → MemOk m' σ' F' w' → Step σ F w σ' F' w' → SLe σ σ' → Q .normal a' w') → wpListIn (Fen ro) 0 P ops Q rest a w
  | [], env, m, _, h, a, w, F, σ, hN, he, hm, hn => wpListIn_nil (hn env m a w σ F h hN rfl he hm (Step.refl σ F w) (SLe.refl σ))
  | o :: rest, env, m, hd, h, a, w, F, σ, hN, he, hm, hn => by
    simp only [dstsIn, Bool.and_eq_true] at hd
    have cont : ∀ env' m' v w' σ' F', vcOps P T full rest env' m' K → EnvOk env' w' F' σ' (a.put o.dst v).tmps → MemOk m' σ' F' w' → Step σ F w σ' F' w' → SLe σ σ' → wpListIn (Fen ro) 0 P ops Q rest (a.put o.dst v) w' := by
      intro env' m' v w' σ' F' hk he' hm' hs hle
      refine vcOps_ok hT hfull rest env' m' hd.2 hk (a.put o.dst v) w' F' σ' (by rw [put_size]; exact hN) he' hm' ?_
      intro env2 m2 a2 w2 σ2 F2 k1 k2 k3 k4 k5 k6 k7
      exact hn env2 m2 a2 w2 σ2 F2 k1 k2 (by rw [k3, put_defers]) k4 k5 (hs.trans k6) (fun r q hq => by
        obtain ⟨q1, h1, h2⟩ := hle r q hq
        obtain ⟨q2, h3, h4⟩ := k7 r q1 h1
        exact ⟨q2, h3, h2.trans h4⟩)
    have skip : ∀ (A : AV), Vc w F σ A undef → (setD env o.dst A fun env => vcOps P T full rest env m K) → wpListIn (Fen ro) 0 P ops Q rest (a.put o.dst undef) w := by
      intro A hA hk
      obtain ⟨env', hk, he'⟩ := setD_ok hN hd.1 he hA hk
      exact cont env' m undef w σ F hk he' hm (Step.refl σ F w) (SLe.refl σ)
    rw [vcOps_cons] at h
    split at h
    · rename_i hg
      exact wpListIn_plain hg fun K' hK' => vcOp_ok hT h hd.1 hN he hm fun env' m' v w' σ' F' hk he' hm' hs hle => hK' _ _ (cont env' m' v w' σ' F' hk he' hm' hs hle)
    · rename_i j want hg
      split at h <;> try (cases h; done)
      rename_i g hgo
      have hw : Region.wanted o (yielded ops a.tmps) = g := by
        subst hfull
        simp only [Region.wanted, hg]
        exact guardOf_ok he hgo
      split at h
      · rename_i v l hr
        obtain ⟨hl, h⟩ := obs_ok h
        rw [frc_eq] at h
        refine wpListIn_step fun K' hK' => ?_
        rw [hw]
        cases g with
        | true =>
          simp only [if_true]
          obtain ⟨u, hu, hrun⟩ := evRead_ok hT hm he hr (under_ok hl rfl)
          obtain ⟨env', hk, he'⟩ := setD_ok hN hd.1 he (Vc.gd (fun _ => hu) (fun h => by cases h)) h
          refine wpIn_at (fun c hc => by rw [hc, evRead_defer] at hr; cases hr) ?_
          rw [hrun w (Agree.refl F σ w), Oper.uponIn_value]
          exact hK' _ _ (cont env' m u w σ F hk he' hm (Step.refl σ F w) (SLe.refl σ))
        | false =>
          simp only [Bool.false_eq_true, if_false]
          exact ⟨fun _ _ => trivial, hK' _ _ (skip _ (.gd (fun h => by cases h) fun _ => rfl) h)⟩
      · refine wpListIn_step fun K' hK' => ?_
        rw [hw]
        cases g with
        | true =>
          simp only [if_true]
          exact vcOp_ok hT (h.t rfl).o hd.1 hN he hm fun env' m' v w' σ' F' hk he' hm' hs hle => hK' _ _ (cont env' m' v w' σ' F' hk he' hm' hs hle)
        | false =>
          simp only [Bool.false_eq_true, if_false]
          exact ⟨fun _ _ => trivial, hK' _ _ (skip _ (.gd (fun h => by cases h) fun _ => rfl) (h.f rfl).o)⟩
end sound
end Go.Ab
/-
  The engine, part Y: functions that only compute; statements that leave their order open.
-/
namespace Go.Ab
set_option linter.unusedSimpArgs false
set_option linter.unusedVariables false

def SArg (σ σ' : Pls) : Prop := ∀ j q, σ (.arg j) = some q → ∃ q', σ' (.arg j) = some q' ∧ QLe q q'
theorem SArg.refl (σ : Pls) : SArg σ σ := fun _ q h => ⟨q, h, QLe.refl q⟩
theorem SArg.of {σ σ' : Pls} (h : SLe σ σ') : SArg σ σ' := fun j q hq => h (.arg j) q hq
theorem SArg.trans {σ σ' σ'' : Pls} (h : SArg σ σ') (k : SArg σ' σ'') : SArg σ σ'' := fun j q hq => by
  obtain ⟨q1, h1, h2⟩ := h j q hq
  obtain ⟨q2, h3, h4⟩ := k j q1 h1
  exact ⟨q2, h3, h2.trans h4⟩

abbrev Post := Exit → Env → Mem → Prop
/-- The mark that a range over a function leaves among the deferred calls. -/
def mark (D : Nat) : Deferred := { target := .collected D, args := #[] }
/-- What stands around: the deferred calls are marks of blocks that none of ours is; in a round the loop's record lies there. -/
structure Ctx (ro : Option Nat) (lo : Nat) (ds : List Deferred) (σ : Pls) (F : Nat → Prop) (w : World) : Prop where
  marks : ∃ Ds : List Nat, ds = Ds.map mark ∧ Ds.Nodup ∧ ∀ D ∈ Ds, lo ≤ D ∧ w.heap[D]? = some (.deferred (some [])) ∧ ¬ Owned σ D ∧ ¬ F D
  low : lo ≤ w.heap.size
  rd : ∀ l, ro = some l → (∃ r, w.heap[l]? = some (.loop r)) ∧ ¬ Owned σ l ∧ ¬ F l
theorem Ctx.nil {σ : Pls} {F : Nat → Prop} {w : World} : Ctx none w.heap.size [] σ F w := ⟨⟨[], rfl, List.nodup_nil, fun _ h => by cases h⟩, Nat.le_refl _, fun _ h => by cases h⟩
theorem Ctx.step {ro : Option Nat} {lo : Nat} {ds : List Deferred} {σ σ' : Pls} {F F' : Nat → Prop} {w w' : World} (h : Ctx ro lo ds σ F w) (s : Step σ F w σ' F' w') : Ctx ro lo ds σ' F' w' := by
  have key : ∀ D o, w.heap[D]? = some o → ¬ Owned σ D → ¬ F D → w'.heap[D]? = some o ∧ ¬ Owned σ' D ∧ ¬ F' D := fun D o h1 h2 h3 => by
    have hlt : D < w.heap.size := (Array.getElem?_eq_some_iff.1 h1).1
    refine ⟨(s.keep D hlt h2).trans h1, fun h => ?_, fun h => ?_⟩
    · rcases s.own D h with h | h
      · exact h2 h
      · omega
    · rcases s.fro' D h with h | h | h
      · exact h3 h
      · exact h2 h
      · omega
  obtain ⟨Ds, e, nd, hm⟩ := h.marks
  refine ⟨⟨Ds, e, nd, fun D hD => ?_⟩, Nat.le_trans h.low s.size, fun l hl => ?_⟩
  · obtain ⟨h0, h1, h2, h3⟩ := hm D hD
    exact ⟨h0, key D _ h1 h2 h3⟩
  · obtain ⟨⟨r, h1⟩, h2, h3⟩ := h.rd l hl
    have := key l _ h1 h2 h3
    exact ⟨⟨r, this.1⟩, this.2⟩
def lift (N : Nat) (Q : Post) (ro : Option Nat) (lo : Nat) (σ : Pls) (F : Nat → Prop) (w : World) : Exit → Act → World → Prop := fun e a' w' =>
  ∃ env' m' σ' F', Q e env' m' ∧ a'.tmps.size = N ∧ Ctx ro lo a'.defers σ' F' w' ∧ EnvOk env' w' F' σ' a'.tmps ∧ MemOk m' σ' F' w' ∧ Step σ F w σ' F' w' ∧ SArg σ σ'
structure Awp (P : Program) (N : Nat) (c : Code) (env : Env) (m : Mem) (Q : Post) : Prop where
  run : ∀ (ro : Option Nat) (lo : Nat) (a : Act) (w : World) (σ : Pls) (F : Nat → Prop), a.tmps.size = N → Ctx ro lo a.defers σ F w → EnvOk env w F σ a.tmps → MemOk m σ F w → c.wpIn (Fen ro) 0 P (lift N Q ro lo σ F w) a w

/-! ### pure calls -/
def resAV : List D → AV
  | [x] => .d x
  | xs => .tup (up xs)
/-- Nothing that was there has turned. -/
structure Grew (F : Nat → Prop) (w : World) (F' : Nat → Prop) (w' : World) : Prop where
  os : w'.os = w.os
  tape : w'.tape = w.tape
  output : w'.output = w.output
  drawn : w.drawn ≤ w'.drawn
  size : w.heap.size ≤ w'.heap.size
  keep : ∀ b, b < w.heap.size → w'.heap[b]? = w.heap[b]?
  fro : ∀ b, F b → F' b
  fro' : ∀ b, F' b → F b ∨ w.heap.size ≤ b
  lt : ∀ b, F' b → b < w'.heap.size
/-- A function that only computes: from data to data. -/
def Pure (P : Program) (f : FuncId) (args res : List D) : Prop :=
  CanEnter P f ∧ ∀ (F : Nat → Prop) (w : World) (vals : List Value), (∀ b, F b → b < w.heap.size) → GOk F w → vals.length = args.length → (∀ (j : Nat) x u, args[j]? = some x → vals[j]? = some u → Rd w F x u) →
    Calls P f vals.toArray w fun e w' => ∃ v F', e = .returned v ∧ Grew F w F' w' ∧ ∀ σ, Vc w' F' σ (resAV res) v

theorem Grew.step {F F' : Nat → Prop} {w w' : World} (h : Grew F w F' w') (σ : Pls) : Step σ F w σ F' w' :=
  ⟨h.os, h.tape, h.output, h.drawn, h.size, fun b hb _ => h.keep b hb, h.fro, fun b hb => (h.fro' b hb).elim .inl (fun h => .inr (.inr h)), fun _ h => .inl h⟩
theorem Grew.mem {F F' : Nat → Prop} {w w' : World} (h : Grew F w F' w') {m : Mem} {σ : Pls} (hm : MemOk m σ F w) : MemOk m σ F' w' where
  dom := hm.dom
  lv r q hq := ⟨(hm.lv r q hq).1, fun pl e => by
    obtain ⟨B, hB, hok⟩ := (hm.lv r q hq).2 pl e
    exact ⟨B, hB, hok.mono h.fro (fun b hb => h.keep b (hm.fl b hb)) (SLe.refl σ) (fun b t hl => h.keep b (hm.nf r pl b t (by rw [hq, e]) hl).2)⟩⟩
  inj := hm.inj
  nf r pl b t h1 h2 := ⟨fun hF => by
    rcases h.fro' b hF with h3 | h3
    · exact (hm.nf r pl b t h1 h2).1 h3
    · have := (hm.nf r pl b t h1 h2).2; omega, Nat.lt_of_lt_of_le (hm.nf r pl b t h1 h2).2 h.size⟩
  fl := h.lt
  gl := hm.gl.mono h.fro (fun b hb => h.keep b (hm.fl b hb))

theorem ArgsOk.data {w : World} {F : Nat → Prop} {σ : Pls} {xs : List D} {vals : List Value} (h : ArgsOk w F σ (up xs) vals) : vals.length = xs.length ∧ ∀ (j : Nat) x u, xs[j]? = some x → vals[j]? = some u → Rd w F x u :=
  ⟨by rw [h.1, up_eq, List.length_map], fun j x u hx hu => by
    have := h.2 j (.d x) u (by rw [up_eq, List.getElem?_map, hx]; rfl) hu
    cases this with | d h => exact h⟩
theorem Pure.call {P : Program} {f : FuncId} {args res : List D} (h : Pure P f args res) {m : Mem} {K : AV → Mem → Prop} (hk : K (resAV res) m) : CallVC P f (up args) m K :=
  ⟨h.1, fun σ F w vals hm ha => (h.2 F w vals hm.fl hm.gl ha.data.1 ha.data.2).mono fun _ _ ⟨v, F', he, hg, hv⟩ => ⟨v, resAV res, m, σ, F', he, hk, hv σ, hg.mem hm, hg.step σ, SLe.refl σ⟩⟩


/-- A call, in a statement that leaves its order open, of a function that only computes. -/
structure QCall (P : Program) (fn : AV) (as : List AV) (K : AV → Prop) : Prop where
  q : ∃ (f : FuncId) (xs ys args res : List D), fn = .d (.fn (.func f) xs ys) ∧ as = up args ∧ Pure P f (xs ++ args ++ ys) res ∧ K (resAV res)

/-! ### which slots an operation reads -/
def tmpO : Operand → List Nat
  | .tmp t => [t]
  | _ => []
def tmpOs : List Operand → List Nat
  | [] => []
  | .tmp t :: r => t :: tmpOs r
  | _ :: r => tmpOs r
def tmpPs : List (Nat × Operand) → List Nat
  | [] => []
  | (_, .tmp t) :: r => t :: tmpPs r
  | _ :: r => tmpPs r
def tmpM : Option Operand → List Nat
  | some (.tmp t) => [t]
  | _ => []
def app2 : List Nat → List Nat → List Nat
  | [], l => l
  | x :: r, l => x :: app2 r l
def tmpsOf : Op → List Nat
  | .move x => tmpO x
  | .assign x => tmpO x
  | .pick c a b => app2 (tmpO c) (app2 (tmpO a) (tmpO b))
  | .binOp _ _ x y _ => app2 (tmpO x) (tmpO y)
  | .unOp _ _ x => tmpO x
  | .load _ x => tmpO x
  | .fieldAddr _ x _ => tmpO x
  | .indexAddr _ x i => app2 (tmpO x) (tmpO i)
  | .field _ x _ => tmpO x
  | .extract x _ => tmpO x
  | .makeInterface _ x => tmpO x
  | .convert _ _ x => tmpO x
  | .makeFunc _ f c => app2 (tmpOs f.toList) (tmpOs c.toList)
  | .build _ ps => tmpPs ps.toList
  | .buildSlice _ _ ps => tmpPs ps.toList
  | .slice _ x lo hi mx => app2 (tmpO x) (app2 (tmpM lo) (app2 (tmpM hi) (tmpM mx)))
  | .nilCheck x => tmpO x
  | .lookup _ x k _ => app2 (tmpO x) (tmpO k)
  | .call c => match c.callee with
    | .value f => app2 (tmpO f) (tmpOs c.args.toList)
    | _ => tmpOs c.args.toList
  | _ => []
def gTmp (full : List Oper) : Option (Nat × Bool) → List Nat
  | some (j, _) => match dstOf full j with
    | some t => [t]
    | none => []
  | none => []
/-- The environment, but for these slots. -/
def sel (env : Env) : List Nat → Env
  | [] => []
  | t :: r => (t, get env t) :: sel env r
theorem get_sel (env : Env) (t : Nat) : ∀ ts : List Nat, (t ∈ ts ∧ get (sel env ts) t = get env t) ∨ get (sel env ts) t = .junk
  | [] => .inr rfl
  | u :: r => by
    simp only [sel, get]
    cases h : Nat.beq u t with
    | true =>
      have := Nat.eq_of_beq_eq_true h
      subst this
      exact .inl ⟨by simp, rfl⟩
    | false =>
      rcases get_sel env t r with ⟨h1, h2⟩ | h2
      · exact .inl ⟨by simp [h1], h2⟩
      · exact .inr h2
theorem sel_ok {env : Env} {ts : List Nat} {w : World} {F : Nat → Prop} {σ : Pls} {tmps : Array Value} (h : ∀ t ∈ ts, Vc w F σ (get env t) (tmps.getD t undef)) : EnvOk (sel env ts) w F σ tmps := fun t => by
  rcases get_sel env t ts with ⟨h1, h2⟩ | h2
  · rw [h2]; exact h t h1
  · rw [h2]; exact .junk
/-- Rows, all of data. -/
def allRows : List (List AV) → Option (List (List D))
  | [] => some []
  | c :: r => match allD c with
    | some x => match allRows r with
      | some l => some (x :: l)
      | none => none
    | none => none
def nthD : List (List D) → Nat → List D
  | [], _ => []
  | c :: _, 0 => c
  | _ :: r, i + 1 => nthD r i
def rowFnD : List (List D) → Nat → List D
  | [c] => fun _ => c
  | l => nthD l
def allDP : List (Nat × AV) → Bool
  | [] => true
  | (_, .d _) :: r => allDP r
  | _ => false
def evFresh (T : Tab) (e : Env) (op : Op) : Option (AV × List Prop) :=
  match op with
  | .buildSlice t n parts => match stripParts (evParts e parts.toList) with
    | (l0, p) => bif allDP l0 then match elemOf T t with
      | none => none
      | some (_, sz) => match rowsOf ⟨[], []⟩ sz 0 l0 with
        | none => none
        | some (rows, q) => match allRows rows with
          | none => none
          | some ds => bif Nat.beq (countR rows) n && Nat.ble (n * sz) 65536 then some (.d (.sl sz n (rowFnD ds)), cat p q) else none
      else none
  | _ => none
noncomputable def vcR1 (P : Program) (T : Tab) (m : Mem) (e : Env) (o : Oper) (K : AV → Prop) : Prop :=
  match evRead T e m o.op with
  | some (v, l) => obs l (frc v K)
  | none => match evFresh T e o.op with
    | some (v, l) => obs l (frc v K)
    | none => match o.op with
      | .call { callee := .value f, args, .. } => match strip (ev e f) with
        | (fn, p) => match stripAll e args.toList with
          | (as, q) => obs (cat p q) (QCall P fn as fun v => Ev (K v))
      | .build t parts => match stripParts (evParts e parts.toList) with
        | (l0, p) => match evBuildArr T m t l0 with
          | some (A, q) => obs (cat p q) (frc A K)
          | none => False
      | _ => False
noncomputable def vcR (P : Program) (T : Tab) (full : List Oper) (m : Mem) (ops : List Oper) : Env → (Env → Prop) → Prop :=
  List.rec (motive := fun _ => Env → (Env → Prop) → Prop) (fun env K => K env) (fun o _ ih env K => match o.guard with
    | none => vcR1 P T m (sel env (tmpsOf o.op)) o fun v => setD env o.dst v fun env => ih env K
    | some (j, want) => match guardOf full (sel env (gTmp full (some (j, want)))) j want with
      | none => False
      | some g => match evRead T (sel env (tmpsOf o.op)) m o.op with
        | some (v, l) => obs (under g l) (frc v fun v => setD env o.dst (.gd g v) fun env => ih env K)
        | none => Br g (Ev (vcR1 P T m (sel env (tmpsOf o.op)) o fun v => setD env o.dst v fun env => ih env K)) (Ev (setD env o.dst (.gd false (.d (.bool false))) fun env => ih env K))) ops
theorem vcR_cons (P : Program) (T : Tab) (full : List Oper) (m : Mem) (o : Oper) (rest : List Oper) (env : Env) (K : Env → Prop) : vcR P T full m (o :: rest) env K = match o.guard with
    | none => vcR1 P T m (sel env (tmpsOf o.op)) o fun v => setD env o.dst v fun env => vcR P T full m rest env K
    | some (j, want) => match guardOf full (sel env (gTmp full (some (j, want)))) j want with
      | none => False
      | some g => match evRead T (sel env (tmpsOf o.op)) m o.op with
        | some (v, l) => obs (under g l) (frc v fun v => setD env o.dst (.gd g v) fun env => vcR P T full m rest env K)
        | none => Br g (Ev (vcR1 P T m (sel env (tmpsOf o.op)) o fun v => setD env o.dst v fun env => vcR P T full m rest env K)) (Ev (setD env o.dst (.gd false (.d (.bool false))) fun env => vcR P T full m rest env K)) := rfl

/-! ### the order -/
def edgeOn (es : List Edge) (j : Nat) : Bool := es.any fun e => Nat.beq e.on j && Region.binds .any e
def defsOk (t i : Nat) (es : List Edge) : Nat → List Oper → Bool
  | _, [] => true
  | j, o :: r => (match o.dst with
    | some d => bif Nat.beq d t then (Nat.blt j i && edgeOn es j) || (Nat.beq j i || (Nat.blt i j && edgeOn o.after.toList i)) else true
    | none => true) && defsOk t i es (j + 1) r
def dstOnce (d i : Nat) : Nat → List Oper → Bool
  | _, [] => true
  | j, o :: r => (match o.dst with
    | some d' => bif Nat.beq d' d then Nat.beq j i else true
    | none => true) && dstOnce d i (j + 1) r
def okFrom (full : List Oper) : Nat → List Oper → Bool
  | _, [] => true
  | i, o :: r => (o.after.toList.all fun e => !Region.binds .any e || Nat.blt e.on i) && ((match o.dst with
    | some d => dstOnce d i 0 full
    | none => true) && ((app2 (tmpsOf o.op) (gTmp full o.guard)).all fun t => defsOk t i o.after.toList 0 full)) && okFrom full (i + 1) r
def okR (full : List Oper) : Bool := okFrom full 0 full

theorem Grew.drew {w : World} {F : Nat → Prop} (h : ∀ b, F b → b < w.heap.size) : Grew F w F { w with drawn := w.drawn + 1 } := ⟨rfl, rfl, rfl, Nat.le_succ _, Nat.le_refl _, fun _ _ => rfl, fun _ h => h, fun _ h => .inl h, h⟩
theorem Grew.refl {w : World} {F : Nat → Prop} (h : ∀ b, F b → b < w.heap.size) : Grew F w F w := ⟨rfl, rfl, rfl, Nat.le_refl _, Nat.le_refl _, fun _ _ => rfl, fun _ h => h, fun _ h => .inl h, h⟩
theorem Grew.trans {w w1 w2 : World} {F F1 F2 : Nat → Prop} (hg : Grew F w F1 w1) (hg2 : Grew F1 w1 F2 w2) : Grew F w F2 w2 :=
  ⟨hg2.os.trans hg.os, hg2.tape.trans hg.tape, hg2.output.trans hg.output, Nat.le_trans hg.drawn hg2.drawn, Nat.le_trans hg.size hg2.size, fun b hb => (hg2.keep b (Nat.lt_of_lt_of_le hb hg.size)).trans (hg.keep b hb), fun b hb => hg2.fro b (hg.fro b hb),
    fun b hb => by
      rcases hg2.fro' b hb with h3 | h3
      · exact hg.fro' b h3
      · exact .inr (Nat.le_trans hg.size h3), hg2.lt⟩
theorem mem_app2 {x : Nat} : ∀ {a b : List Nat}, x ∈ app2 a b ↔ x ∈ a ∨ x ∈ b
  | [], b => by simp [app2]
  | y :: r, b => by simp [app2, mem_app2 (a := r), or_assoc]
section
variable {P : Program} {T : Tab}
/-- What an operation does in any world that has grown: it hands back a value that reads as A. -/
def YieldR (P : Program) (σ : Pls) (F : Nat → Prop) (w : World) (A : AV) : Result Next → Prop
  | .ok (.value u) w2 => ∃ F2, Grew F w F2 w2 ∧ Vc w2 F2 σ A u
  | .ok (.enter f args) w2 => w2 = w ∧ Calls P f args w fun e w3 => ∃ u F3, e = .returned u ∧ Grew F w F3 w3 ∧ Vc w3 F3 σ A u
  | _ => False
def Does1 (P : Program) (m : Mem) (σ : Pls) (o : Oper) (e : Env) (A : AV) : Prop :=
  ∀ (F : Nat → Prop) (w : World) (a : Act), MemOk m σ F w → EnvOk e w F σ a.tmps → YieldR P σ F w A ((execOp a.eval o).run P w)
theorem allD_rows : ∀ {rows : List (List AV)} {ds : List (List D)}, allRows rows = some ds → rows.length = ds.length ∧ ∀ (i : Nat) (h : i < rows.length) (h' : i < ds.length), rows[i] = up ds[i]
  | [], ds, h => by simp [allRows] at h; subst h; exact ⟨rfl, fun i h => by simp at h⟩
  | c :: r, ds, h => by
    simp only [allRows] at h
    split at h <;> try (cases h; done)
    rename_i x hx
    split at h <;> try (cases h; done)
    rename_i l hl
    injection h with h
    subst h
    obtain ⟨h1, h2⟩ := allD_rows hl
    refine ⟨by simp [h1], fun i hi hi' => ?_⟩
    cases i with
    | zero => exact allD_eq0 hx
    | succ i => exact h2 i (by simpa using hi) (by simpa using hi')
theorem nthD_eq : ∀ {l : List (List D)} {i : Nat} (hi : i < l.length), nthD l i = l[i]
  | c :: r, 0, _ => rfl
  | c :: r, i + 1, hi => by simpa [nthD] using nthD_eq (l := r) (i := i) (by simpa using hi)
theorem rowFnD_eq {l : List (List D)} {i : Nat} (hi : i < l.length) : rowFnD l i = l[i] := by
  unfold rowFnD
  split
  · simp at hi
    subst hi
    rfl
  · exact nthD_eq hi
theorem allDP_at : ∀ {l : List (Nat × AV)}, allDP l = true → ∀ (j : Nat) B, l[j]? = some B → ∃ x, B.2 = .d x
  | [], _, j, B, h => by simp at h
  | (i, .d x) :: r, h, j, B, hB => by
    cases j with
    | zero => simp at hB; subst hB; exact ⟨x, rfl⟩
    | succ j => exact allDP_at (l := r) h j B (by simpa using hB)
  | (_, .agg _) :: _, h, _, _, _ => by simp [allDP] at h
  | (_, .tup _) :: _, h, _, _, _ => by simp [allDP] at h
  | (_, .ifc _ _) :: _, h, _, _, _ => by simp [allDP] at h
  | (_, .fn _ _ _) :: _, h, _, _, _ => by simp [allDP] at h
  | (_, .ptr _ _ _ _) :: _, h, _, _, _ => by simp [allDP] at h
  | (_, .osl _ _ _ _) :: _, h, _, _, _ => by simp [allDP] at h
  | (_, .mp _) :: _, h, _, _, _ => by simp [allDP] at h
  | (_, .gd _ _) :: _, h, _, _, _ => by simp [allDP] at h
  | (_, .junk) :: _, h, _, _, _ => by simp [allDP] at h
section
variable {w : World} {F : Nat → Prop} {σ : Pls} {m : Mem}
theorem osl_data (hm : MemOk m σ F w) {F' : Nat → Prop} (hF : ∀ b, F b → F' b) {r : Ref} {g off n : Nat} {v : Value} (h : Vc w F σ (.osl r g off n) v) {e sz k : Nat} {f : Nat → List AV} {f' : Nat → List D}
    (hB : m.get r = some (.vec e sz g k f)) (hk : off + n ≤ k) (hf : ∀ i, i < k → f i = up (f' i)) (hF' : ∀ pl b tot, σ r = some (some pl) → pl.loc = some (b, tot) → F' b) : Rd w F' (.sl sz n fun i => f' (off + i)) v := by
  have up' : ∀ {y : D} {u : Value}, Rd w F y u → Rd w F' y u := fun h => h.mono hF (fun _ _ => rfl)
  obtain ⟨pl, hr, hok, _, hat⟩ := osl_row hm h (Mem.get_at hB)
  obtain ⟨h0, hsz, hn0, hrow, hl⟩ := hok
  have hsl := hat h0
  unfold SlAt at hsl
  split at hsl
  · obtain ⟨rfl, _, rfl⟩ := hsl
    exact .sl ⟨0, 0, none⟩ (fun _ _ => undef) (Nat.le_refl _) (fun h => absurd h (by omega)) (fun i hi => absurd hi (by omega)) (fun i j hi => absurd hi (by omega)) (fun i j x hi => absurd hi (by omega))
  · rename_i b tot hloc
    obtain ⟨B, cap, rfl, hnc, hoc, hA⟩ := hsl
    obtain ⟨hnt, htm, us, hheap, hlen, hvc⟩ := hl b tot hloc
    have hlen' : ∀ i, i < n → (f' (off + i)).length = sz := fun i hi => by
      have := hrow (off + i) (by omega)
      rw [hf _ (by omega), up_eq, List.length_map] at this
      exact this
    have hcell : ∀ i j, i < n → j < sz → ∃ u, us[(off + i) * sz + j]? = some u ∧ u.oneCell' = true ∧ ∀ x, (f' (off + i))[j]? = some x → Rd w F x u := fun i j hi hj => by
      have hx : (f' (off + i))[j]? = some ((f' (off + i))[j]'(by rw [hlen' i hi]; exact hj)) := List.getElem?_eq_getElem _
      obtain ⟨u, hu, hv, h1⟩ := hvc (off + i) j (.d _) (by omega) (by rw [hf _ (by omega), up_eq, List.getElem?_map, hx]; rfl)
      refine ⟨u, hu, h1, fun x hx' => ?_⟩
      rw [hx] at hx'
      injection hx' with hx'
      subst hx'
      cases hv with | d hv => exact hv
    refine .sl ⟨b, off * sz, none⟩ (fun i j => us.getD ((off + i) * sz + j) undef) hnc (fun hn => ⟨by rw [hA (.inl (by omega)), hsz], hF' pl b tot hr hloc⟩) hlen' (fun i j hi hj => ?_) (fun i j x hi hx => ?_)
    · obtain ⟨u, hu, h1, _⟩ := hcell i j hi hj
      rw [add_at, cell_of_row w b _ us.toArray e (0, 0) hheap]
      have e1 : off * sz + (i * sz + j) = (off + i) * sz + j := by rw [Nat.add_mul]; omega
      rw [e1]
      simp [hu, h1]
    · have hj : j < sz := by rw [← hlen' i hi]; exact (List.getElem?_eq_some_iff.1 hx).1
      obtain ⟨u, hu, _, h2⟩ := hcell i j hi hj
      simp only [List.getD_eq_getElem?_getD, hu, Option.getD_some]
      exact up' (h2 x hx)

end
theorem memNone {F : Nat → Prop} {w : World} (hf : ∀ b, F b → b < w.heap.size) (hg : GOk F w) : MemOk ⟨[], []⟩ (fun _ => none) F w where
  dom r := by cases r <;> simp [Mem.at]
  lv r q h := by cases h
  inj r r' pl pl' b t t' h := by cases h
  nf r pl b t h := by cases h
  fl := hf
  gl := hg
theorem evFresh_ok (hT : TabOk P T) {m : Mem} {σ : Pls} {e : Env} {o : Oper} {A : AV} {l : List Prop} (h : evFresh T e o.op = some (A, l)) (hl : ∀ p ∈ l, p) : Does1 P m σ o e A := by
  intro F w a hm he
  unfold evFresh at h
  split at h <;> try (cases h; done)
  rename_i t n parts hop
  split at h
  rename_i l0 p hsp
  cases hdp : allDP l0 with
  | false => rw [hdp] at h; cases h
  | true =>
    rw [hdp] at h
    simp only [cond_true] at h
    split at h <;> try (cases h; done)
    rename_i e0 sz hel
    split at h <;> try (cases h; done)
    rename_i rows q hrows
    split at h <;> try (cases h; done)
    rename_i ds hds
    cases hc : (Nat.beq (countR rows) n && Nat.ble (n * sz) 65536) with
    | false => rw [hc] at h; cases h
    | true =>
      rw [hc] at h
      simp only [cond_true, Option.some.injEq, Prod.mk.injEq] at h
      obtain ⟨rfl, rfl⟩ := h
      obtain ⟨hp, hq⟩ := all_cat hl
      have hm0 := memNone hm.fl hm.gl
      have hev : evBuildSlice T ⟨[], []⟩ t n l0 = some (.osl (.loc 0) 0 0 n, ⟨[some (.vec e0 sz 0 n (rowFn rows))], []⟩, q) := by
        unfold evBuildSlice
        rw [hel]
        simp only
        rw [hrows]
        simp only [hc, cond_true]
        rfl
      obtain ⟨k1, k2⟩ := evParts_ok he parts.toList
      have hfst := stripParts_fst (evParts e parts.toList)
      rw [hsp] at hfst
      obtain ⟨u, w', σ', g1, g2, g3, g4, g5⟩ := evBuildSlice_ok (a := a) (parts := parts) hT hm0 (k1.trans hfst.symm) (fun j B u hB hu => by
        obtain ⟨A', hA', hv⟩ := stripParts_ok (w := w) (F := F) (σ := σ) (evParts e parts.toList) (by rw [hsp]; exact hp) j B (by rw [hsp]; exact hB)
        have := hv u.2 (k2 j A' u hA' hu)
        obtain ⟨x, hx⟩ := allDP_at hdp j B hB
        rw [hx] at this ⊢
        cases this with | d h => exact .d h) hev hq
      simp only [Bool.and_eq_true, countR_eq] at hc
      have hn := Nat.eq_of_beq_eq_true hc.1
      obtain ⟨e1, e2⟩ := allD_rows hds
      have hrun : (execOp a.eval o).run P w = .ok (.value u) w' := by simp [execOp, hop, g1]
      rw [hrun]
      let F2 : Nat → Prop := fun b => F b ∨ w.heap.size ≤ b ∧ b < w'.heap.size
      have hk : ∀ b, b < w.heap.size → w'.heap[b]? = w.heap[b]? := fun b hb => g4.keep b hb (fun ⟨r, pl, t, h, _⟩ => by cases h)
      have hrd := osl_data (F' := F2) (e := e0) (sz := sz) (k := n) (f := rowFn rows) (f' := rowFnD ds) g3 (fun b hb => .inl hb) g2 rfl (by omega) (fun i hi => by
        rw [rowFn_eq (by omega), rowFnD_eq (by omega)]
        exact e2 i (by omega) (by omega)) (fun pl b tot h1 h2 => by
          have hb := g3.nf _ pl b tot h1 h2
          rcases g4.own b ⟨_, pl, tot, h1, h2⟩ with ⟨_, _, _, h, _⟩ | h
          · cases h
          · exact .inr ⟨h, hb.2⟩)
      refine ⟨F2, ⟨g4.os, g4.tape, g4.output, g4.drawn, g4.size, hk, fun b hb => .inl hb, fun b hb => hb.elim .inl (fun h => .inr h.1), fun b hb => ?_⟩, .d ?_⟩
      · rcases hb with hb | hb
        · exact Nat.lt_of_lt_of_le (hm.fl b hb) g4.size
        · exact hb.2
      · have e3 : (fun i => rowFnD ds (0 + i)) = rowFnD ds := by funext i; rw [Nat.zero_add]
        rw [e3] at hrd
        exact hrd
theorem evRead_does (hT : TabOk P T) {m : Mem} {σ : Pls} {e : Env} {o : Oper} {A : AV} {l : List Prop} (h : evRead T e m o.op = some (A, l)) (hl : ∀ p ∈ l, p) : Does1 P m σ o e A := by
  intro F w a hm he
  obtain ⟨u, hu, hrun⟩ := evRead_ok hT hm he h hl
  rw [hrun w (Agree.refl F σ w)]
  exact ⟨F, Grew.refl hm.fl, hu⟩
theorem vcR1_okA (hT : TabOk P T) {m : Mem} {e : Env} {o : Oper} {K : AV → Prop} (h : vcR1 P T m e o K) : ∃ A, K A ∧ ∀ σ : Pls, Does1 P m σ o e A := by
  unfold vcR1 at h
  split at h
  · rename_i v l hr
    obtain ⟨hl, h⟩ := obs_ok h
    rw [frc_eq] at h
    exact ⟨v, h, fun σ => evRead_does hT hr hl⟩
  · split at h
    · rename_i v l hr
      obtain ⟨hl, h⟩ := obs_ok h
      rw [frc_eq] at h
      exact ⟨v, h, fun σ => evFresh_ok hT hr hl⟩
    · split at h <;> try (cases h; done)
      rotate_left
      · rename_i t parts hop
        split at h
        rename_i l0 p el
        split at h <;> try (cases h; done)
        rename_i A q hA
        obtain ⟨hl, h⟩ := obs_ok h
        rw [frc_eq] at h
        refine ⟨A, h, fun σ F w a hm he => ?_⟩
        obtain ⟨h1, h2⟩ := all_cat hl
        obtain ⟨hk1, hk2⟩ := evParts_ok he parts.toList
        obtain ⟨u, g0, g1⟩ := evBuildArr_ok (a := a) (parts := parts) hT hm (hk1.trans (by have := stripParts_fst (evParts e parts.toList); rw [el] at this; exact this.symm)) (fun j B u hB hu => by
          obtain ⟨A0, e1, e2⟩ := stripParts_ok (evParts e parts.toList) (by rw [el]; exact h1) j B (by rw [el]; exact hB)
          exact e2 _ (hk2 j A0 u e1 hu)) hA h2
        have hrun : (execOp a.eval o).run P w = .ok (.value u) w := by simp [execOp, hop, g0]
        rw [hrun]
        exact ⟨F, Grew.refl hm.fl, g1⟩
      rename_i f args at_ hop
      obtain ⟨hl, h⟩ := obs_ok h
      obtain ⟨id, xs, ys, das, res, hfn, has, hp, hk⟩ := h.q
      refine ⟨resAV res, hk.o, fun σ F w a hm he => ?_⟩
      obtain ⟨h1, h2⟩ := all_cat hl
      have hf := strip_ok (ev_ok he f) h1
      have ha := stripAll_ok he args.toList h2
      rw [hfn] at hf
      rw [has] at ha
      generalize hX : a.eval f = X at hf
      cases hf with
      | d hf => cases hf with
        | @fn _ _ _ us vs l1 l2 r1 r2 =>
          have hcall := hp.2 F w (us ++ args.toList.map a.eval ++ vs) hm.fl hm.gl (by simp [l1, l2]; have := ha.data.1; simp at this; omega) (fun j x u hx hu => by
            have ha1 : ArgsOk w F σ (up xs) us := .ofD l1 r1
            have ha2 : ArgsOk w F σ (up ys) vs := .ofD l2 r2
            have hall := ((ha1.app ha).app ha2)
            have e : up xs ++ up das ++ up ys = up (xs ++ das ++ ys) := by simp [up_eq]
            rw [e] at hall
            exact hall.data.2 j x u hx hu)
          have hrun : (execOp a.eval o).run P w = .ok (.enter id (us ++ args.toList.map a.eval ++ vs).toArray) w := by
            have e : us.toArray ++ Array.map a.eval args ++ vs.toArray = (us ++ args.toList.map a.eval ++ vs).toArray := by apply Array.ext'; simp
            simp only [execOp, hop, Sem.run_bind, resolve, Deferred.ofValue, hX, invoke, Sem.run_pure, Result.andThen_ok, e]
            exact run_callFunc hp.1 _ w
          rw [hrun]
          exact ⟨rfl, hcall.mono fun e w2 ⟨v, F2, he2, hg2, hv⟩ => ⟨v, F2, he2, hg2, hv σ⟩⟩
theorem vcR1_ok (hT : TabOk P T) {m : Mem} {σ : Pls} {e : Env} {o : Oper} {K : AV → Prop} (h : vcR1 P T m e o K) : ∃ A, K A ∧ Does1 P m σ o e A := by
  obtain ⟨A, h1, h2⟩ := vcR1_okA hT h
  exact ⟨A, h1, h2 σ⟩
end
end Go.Ab
/-
  The engine, part Z: a statement that leaves its order open: one walk in the order of the text serves every order.
-/
namespace Go.Ab
set_option linter.unusedSimpArgs false
set_option linter.unusedVariables false

def stepE (o : Oper) (A : AV) (env : Env) : Env := match o.dst with
  | some t => (t, A) :: env
  | none => env
theorem setD_step {o : Oper} {A : AV} {env : Env} {K : Env → Prop} (h : setD env o.dst A K) : K (stepE o A env) := by
  unfold setD at h
  unfold stepE
  cases hd : o.dst <;> simp only [hd] at h ⊢ <;> exact h
def envsOf (env : Env) (ops : List Oper) (As : Nat → AV) : Nat → Env
  | 0 => env
  | k + 1 => match ops[k]? with
    | some o => stepE o (As k) (envsOf env ops As k)
    | none => envsOf env ops As k
def consA (A : AV) (As : Nat → AV) : Nat → AV
  | 0 => A
  | k + 1 => As k
theorem envsOf_cons (env : Env) (o : Oper) (r : List Oper) (A : AV) (As : Nat → AV) : ∀ k, envsOf env (o :: r) (consA A As) (k + 1) = envsOf (stepE o A env) r As k
  | 0 => rfl
  | k + 1 => by
    rw [envsOf, List.getElem?_cons_succ]
    rw [envsOf_cons env o r A As k]
    rw [envsOf]
    rfl
def slots (full : List Oper) (o : Oper) : List Nat := app2 (tmpsOf o.op) (gTmp full o.guard)
section
variable {P : Program} {T : Tab} {m : Mem} {σ : Pls}
theorem YieldR.mono {F : Nat → Prop} {w : World} {A A' : AV} (hA : ∀ w F u, Vc w F σ A u → Vc w F σ A' u) : ∀ {r : Result Next}, YieldR P σ F w A r → YieldR P σ F w A' r
  | .ok (.value u) w2, ⟨F2, h1, h2⟩ => ⟨F2, h1, hA _ _ _ h2⟩
  | .ok (.enter f args) w2, ⟨h1, h2⟩ => ⟨h1, h2.mono fun e w3 ⟨u, F3, g1, g2, g3⟩ => ⟨u, F3, g1, g2, hA _ _ _ g3⟩⟩
def DoesG (P : Program) (m : Mem) (σ : Pls) (full : List Oper) (o : Oper) (env : Env) (A : AV) : Prop :=
  ∀ (F : Nat → Prop) (w : World) (a : Act), MemOk m σ F w → (∀ t ∈ slots full o, Vc w F σ (get env t) (a.tmps.getD t undef)) →
    (Region.wanted o (yielded full.toArray a.tmps) = true → YieldR P σ F w A ((execOp a.eval o).run P w)) ∧
    (Region.wanted o (yielded full.toArray a.tmps) = false → ∀ w F, Vc w F σ A undef)
theorem vcR_ext (hT : TabOk P T) {full : List Oper} {K : Env → Prop} : ∀ (rest : List Oper) (env : Env), vcR P T full m rest env K →
    ∃ As : Nat → AV, K (envsOf env rest As rest.length) ∧ ∀ (k : Nat) o, rest[k]? = some o → DoesG P m σ full o (envsOf env rest As k) (As k)
  | [], env, h => ⟨fun _ => .junk, h, fun k o ho => by simp at ho⟩
  | o :: r, env, h => by
    have key : ∃ A, vcR P T full m r (stepE o A env) K ∧ DoesG P m σ full o env A := by
      rw [vcR_cons] at h
      have hs1 : ∀ t ∈ tmpsOf o.op, t ∈ slots full o := fun t ht => mem_app2.2 (.inl ht)
      split at h
      · rename_i hg
        obtain ⟨A, hK, hD⟩ := vcR1_ok hT h
        refine ⟨A, setD_step hK, fun F w a hm he => ⟨fun _ => hD F w a hm (sel_ok fun t ht => he t (hs1 t ht)), fun hw => ?_⟩⟩
        simp [Region.wanted, hg] at hw
      · rename_i j want hg
        have hs2 : ∀ t ∈ gTmp full (some (j, want)), t ∈ slots full o := fun t ht => mem_app2.2 (.inr (by rw [hg]; exact ht))
        split at h <;> try (cases h; done)
        rename_i g hgo
        have hw : ∀ (F : Nat → Prop) (w : World) (a : Act), (∀ t ∈ slots full o, Vc w F σ (get env t) (a.tmps.getD t undef)) → Region.wanted o (yielded full.toArray a.tmps) = g := fun F w a he => by
          simp only [Region.wanted, hg]
          exact guardOf_ok (sel_ok fun t ht => he t (hs2 t ht)) hgo
        split at h
        · rename_i v l hr
          obtain ⟨hl, h⟩ := obs_ok h
          rw [frc_eq] at h
          refine ⟨.gd g v, setD_step h, fun F w a hm he => ?_⟩
          rw [hw F w a he]
          refine ⟨fun hgt => ?_, fun hgf w F => .gd (fun h => by rw [hgf] at h; cases h) fun _ => rfl⟩
          exact YieldR.mono (fun w F u hu => .gd (fun _ => hu) fun h => by rw [hgt] at h; cases h) (evRead_does hT hr (under_ok hl hgt) F w a hm (sel_ok fun t ht => he t (hs1 t ht)))
        · cases g with
          | true =>
            obtain ⟨A, hK, hD⟩ := vcR1_ok hT (h.t rfl).o
            refine ⟨A, setD_step hK, fun F w a hm he => ⟨fun _ => hD F w a hm (sel_ok fun t ht => he t (hs1 t ht)), fun hwf => ?_⟩⟩
            rw [hw F w a he] at hwf
            cases hwf
          | false =>
            refine ⟨_, setD_step (h.f rfl).o, fun F w a hm he => ⟨fun hwt => ?_, fun _ w F => .gd (fun h => by cases h) fun _ => rfl⟩⟩
            rw [hw F w a he] at hwt
            cases hwt
    obtain ⟨A, hr, hD⟩ := key
    obtain ⟨As, hK, hAs⟩ := vcR_ext hT r _ hr
    refine ⟨consA A As, ?_, fun k o' ho => ?_⟩
    · rw [List.length_cons, envsOf_cons]
      exact hK
    · cases k with
      | zero => simp at ho; subst ho; exact hD
      | succ k =>
        rw [envsOf_cons]
        exact hAs k o' (by simpa using ho)

/-! ### the order -/
structure OrdAt (full : List Oper) (i : Nat) (o : Oper) : Prop where
  back : ∀ e ∈ o.after, Region.binds .any e = true → e.on < i
  once : ∀ d, o.dst = some d → ∀ (j : Nat) o', full[j]? = some o' → o'.dst = some d → j = i
  defs : ∀ t ∈ slots full o, ∀ (j : Nat) o', full[j]? = some o' → o'.dst = some t → (j < i ∧ ∃ e ∈ o.after, e.on = j ∧ Region.binds .any e = true) ∨ (i ≤ j ∧ (j = i ∨ ∃ e ∈ o'.after, e.on = i ∧ Region.binds .any e = true))
theorem dstOnce_at {d i : Nat} : ∀ {l : List Oper} {k : Nat}, dstOnce d i k l = true → ∀ (j : Nat) o, l[j]? = some o → o.dst = some d → k + j = i
  | [], k, _, j, o, h, _ => by simp at h
  | x :: r, k, hk, j, o, h, hd => by
    simp only [dstOnce, Bool.and_eq_true] at hk
    cases j with
    | zero =>
      simp at h
      subst h
      have h1 := hk.1
      rw [hd] at h1
      simp only [Nat.beq_refl, cond_true] at h1
      exact Nat.eq_of_beq_eq_true h1
    | succ j =>
      have := dstOnce_at hk.2 j o (by simpa using h) hd
      omega
theorem defsOk_at {t i : Nat} {es : List Edge} : ∀ {l : List Oper} {k : Nat}, defsOk t i es k l = true → ∀ (j : Nat) o, l[j]? = some o → o.dst = some t →
    (k + j < i ∧ edgeOn es (k + j) = true) ∨ (i ≤ k + j ∧ (k + j = i ∨ edgeOn o.after.toList i = true))
  | [], k, _, j, o, h, _ => by simp at h
  | x :: r, k, hk, j, o, h, hd => by
    simp only [defsOk, Bool.and_eq_true] at hk
    cases j with
    | zero =>
      simp at h
      subst h
      have h1 := hk.1
      rw [hd] at h1
      simp only [Nat.beq_refl, cond_true, Bool.or_eq_true, Bool.and_eq_true] at h1
      rcases h1 with h1 | h1 | h1
      · exact .inl ⟨Nat.le_of_ble_eq_true h1.1, h1.2⟩
      · have := Nat.eq_of_beq_eq_true h1
        exact .inr ⟨by omega, .inl this⟩
      · have : i + 1 ≤ k := Nat.le_of_ble_eq_true h1.1
        exact .inr ⟨by omega, .inr h1.2⟩
    | succ j =>
      have := defsOk_at hk.2 j o (by simpa using h) hd
      rw [show k + (j + 1) = k + 1 + j by omega]
      exact this
theorem okFrom_at {full : List Oper} : ∀ {l : List Oper} {k : Nat}, okFrom full k l = true → ∀ (j : Nat) o, l[j]? = some o → OrdAt full (k + j) o
  | [], k, _, j, o, h => by simp at h
  | x :: r, k, hk, j, o, h => by
    simp only [okFrom, Bool.and_eq_true] at hk
    obtain ⟨⟨h1, h2, h3⟩, h4⟩ := hk
    cases j with
    | zero =>
      simp at h
      subst h
      refine ⟨fun e he hb => ?_, fun d hd j o' ho' hd' => ?_, fun t ht j o' ho' hd' => ?_⟩
      · have := List.all_eq_true.1 h1 e (Array.mem_toList_iff.2 he)
        rw [hb] at this
        exact Nat.le_of_ble_eq_true (by simpa [Nat.blt] using this)
      · rw [hd] at h2
        have := dstOnce_at h2 j o' ho' hd'
        omega
      · have := List.all_eq_true.1 h3 t ht
        have edge : ∀ (es : Array Edge) i, edgeOn es.toList i = true → ∃ e ∈ es, e.on = i ∧ Region.binds .any e = true := fun es i g2 => by
          unfold edgeOn at g2
          obtain ⟨e, he, h⟩ := List.any_eq_true.1 g2
          simp only [Bool.and_eq_true] at h
          exact ⟨e, Array.mem_toList_iff.1 he, Nat.eq_of_beq_eq_true h.1, h.2⟩
        rcases defsOk_at this j o' ho' hd' with ⟨g1, g2⟩ | ⟨g1, g2⟩
        · obtain ⟨e, he, h⟩ := edge _ _ g2
          rw [Nat.zero_add] at g1 h
          exact .inl ⟨by omega, e, he, h⟩
        · rw [Nat.zero_add] at g1 g2
          refine .inr ⟨by omega, ?_⟩
          rcases g2 with g2 | g2
          · exact .inl (by omega)
          · exact .inr (edge _ _ g2)
    | succ j =>
      rw [show k + (j + 1) = k + 1 + j by omega]
      exact okFrom_at h4 j o (by simpa using h)
theorem get_step {o : Oper} {A : AV} {env : Env} {t : Nat} (h : o.dst ≠ some t) : get (stepE o A env) t = get env t := by
  unfold stepE
  cases hd : o.dst with
  | none => rfl
  | some d =>
    have : Nat.beq d t = false := by
      cases hb : Nat.beq d t with
      | false => rfl
      | true =>
        have := Nat.eq_of_beq_eq_true hb
        subst this
        exact absurd hd h
    simp only [get, this, cond_false]
theorem get_step_self {o : Oper} {A : AV} {env : Env} {t : Nat} (h : o.dst = some t) : get (stepE o A env) t = A := by
  unfold stepE
  rw [h]
  simp [get]
theorem envs_stable {env : Env} {full : List Oper} {As : Nat → AV} {t i : Nat} : ∀ k, i ≤ k → (∀ (j : Nat) o, i ≤ j → j < k → full[j]? = some o → o.dst ≠ some t) → get (envsOf env full As k) t = get (envsOf env full As i) t
  | 0, h, _ => by rw [show i = 0 by omega]
  | k + 1, h, hn => by
    by_cases e : i = k + 1
    · rw [e]
    · rw [envsOf]
      cases hk : full[k]? with
      | none => exact envs_stable k (by omega) fun j o h1 h2 => hn j o h1 (by omega)
      | some o =>
        rw [get_step (hn k o (by omega) (by omega) hk)]
        exact envs_stable k (by omega) fun j o h1 h2 => hn j o h1 (by omega)
def unl : List Bool → Nat
  | [] => 0
  | b :: r => (bif b then 0 else 1) + unl r
theorem unl_set : ∀ {l : List Bool} {i : Nat}, l[i]? = some false → unl (l.set i true) + 1 = unl l
  | [], _, h => by simp at h
  | b :: r, 0, h => by simp at h; subst h; simp [unl]; omega
  | b :: r, i + 1, h => by
    have := unl_set (l := r) (i := i) (by simpa using h)
    simp only [List.set_cons_succ, unl]
    omega
theorem unl_zero : ∀ {l : List Bool}, unl l = 0 → ∀ (i : Nat) b, l[i]? = some b → b = true
  | [], _, i, b, h => by simp at h
  | x :: r, hz, i, b, h => by
    simp only [unl] at hz
    cases i with
    | zero =>
      simp at h
      subst h
      cases x with
      | true => rfl
      | false => simp at hz
    | succ i => exact unl_zero (l := r) (by omega) i b (by simpa using h)
theorem getD_list {l : Array Bool} {i : Nat} {d : Bool} : l.getD i d = (l.toList[i]?).getD d := by
  rw [Array.getD_eq_getD_getElem?, Array.getElem?_toList]
variable {ro : Option Nat}
theorem drawn_region {id N n : Nat} {ops : Array Oper} {F : Nat → Prop} {w : World} {a : Act} {env : Env} {K : Env → Prop} {Q : Exit → Act → World → Prop}
    (h1 : P.follows .mixedOrders = true) (h2 : okR ops.toList = true) (hT : TabOk P T) (hm : MemOk m σ F w) (hd : dstsIn N ops.toList = true) (h : vcR P T ops.toList m ops.toList env K) (hN : a.tmps.size = N) (he : EnvOk env w F σ a.tmps)
    (hQ : ∀ env' a' w' F', K env' → a'.tmps.size = N → a'.defers = a.defers → Grew F w F' w' → EnvOk env' w' F' σ a'.tmps → Q .normal a' w') : (Code.region id ops true).wpIn (Fen ro) n P Q a w := by
  obtain ⟨As, hK, hD⟩ := vcR_ext (σ := σ) hT ops.toList env h
  have hO : ∀ (i : Nat) o, ops[i]? = some o → OrdAt ops.toList i o := fun i o ho => by
    have := okFrom_at h2 i o (by rw [Array.getElem?_toList]; exact ho)
    rwa [Nat.zero_add] at this
  have hdst : ∀ (i : Nat) o d, ops[i]? = some o → o.dst = some d → d < N := by
    have : ∀ (l : List Oper), dstsIn N l = true → ∀ (i : Nat) o d, l[i]? = some o → o.dst = some d → d < N := by
      intro l
      induction l with
      | nil => intro _ i o d ho; simp at ho
      | cons x r ih =>
        intro hl i o d ho hdo
        simp only [dstsIn, Bool.and_eq_true] at hl
        cases i with
        | zero =>
          simp at ho
          subst ho
          have := hl.1
          rw [hdo] at this
          exact Nat.le_of_ble_eq_true this
        | succ i => exact ih hl.2 i o d (by simpa using ho) hdo
    exact fun i o d ho hdo => this ops.toList hd i o d (by rw [Array.getElem?_toList]; exact ho) hdo
  generalize hE : envsOf env ops.toList As ops.toList.length = E at hK
  have hsize : ops.toList.length = ops.size := Array.length_toList
  have hEd : ∀ (i : Nat) o d, ops[i]? = some o → o.dst = some d → ∀ k, i < k → k ≤ ops.toList.length → get (envsOf env ops.toList As k) d = As i := by
    intro i o d ho hdo k hk hkn
    have hol : ops.toList[i]? = some o := by rw [Array.getElem?_toList]; exact ho
    rw [envs_stable (i := i + 1) k (by omega) (fun j o' h3 h4 ho' hd' => by
        have := (hO i o ho).once d hdo j o' ho' hd'
        omega)]
    rw [envsOf, hol]
    exact get_step_self hdo
  have hE0 : ∀ t k, k ≤ ops.toList.length → (∀ (j : Nat) o, ops[j]? = some o → o.dst = some t → k ≤ j) → get (envsOf env ops.toList As k) t = get env t := fun t k hk hno =>
    envs_stable (i := 0) k (Nat.zero_le _) (fun j o _ hj ho hdo => by
      rw [Array.getElem?_toList] at ho
      have := hno j o ho hdo
      omega)
  let Inv : Array Bool → Act → World → Prop := fun listed a' w' => a'.tmps.size = N ∧ a'.defers = a.defers ∧ (∀ (j : Nat) o, ops[j]? = some o → listed.getD j true = true → ∀ e ∈ o.after, Region.binds .any e = true → listed.getD e.on true = true) ∧
    ∃ F', Grew F w F' w' ∧ ∀ t, (∀ (j : Nat) o, ops[j]? = some o → o.dst = some t → listed.getD j true = true → Vc w' F' σ (As j) (a'.tmps.getD t undef)) ∧
      ((∀ (j : Nat) o, ops[j]? = some o → o.dst = some t → listed.getD j true = false) → Vc w' F' σ (get env t) (a'.tmps.getD t undef))
  have fin : ∀ listed a' w', (∀ i, i < ops.size → listed.getD i true = true) → Inv listed a' w' → Q .normal a' w' := fun listed a' w' hall ⟨i1, i2, _, F', i3, i4⟩ =>
    hQ E a' w' F' hK i1 i2 i3 fun t => by
      by_cases hex : ∃ (j : Nat) (o : Oper), ops[j]? = some o ∧ o.dst = some t
      · obtain ⟨j, o, ho, hdo⟩ := hex
        have hj : j < ops.size := (Array.getElem?_eq_some_iff.1 ho).1
        rw [← hE, hEd j o t ho hdo _ (by omega) (Nat.le_refl _)]
        exact (i4 t).1 j o ho hdo (hall j hj)
      · rw [← hE, hE0 t _ (Nat.le_refl _) (fun j o ho hdo => absurd ⟨j, o, ho, hdo⟩ hex)]
        exact (i4 t).2 fun j o ho hdo => absurd ⟨j, o, ho, hdo⟩ hex
  have main : ∀ (fuel : Nat) (listed : Array Bool) (a' : Act) (w' : World), listed.size = ops.size → unl listed.toList ≤ fuel → Inv listed a' w' → wpAnyIn (Fen ro) n P .any ops Q fuel listed a' w' := by
    intro fuel
    induction fuel with
    | zero =>
      intro listed a' w' hls hun hI
      have hall : ∀ i, i < ops.size → listed.getD i true = true := fun i hi => by
        rw [getD_list]
        cases hb : listed.toList[i]? with
        | none => rfl
        | some b => exact unl_zero (by omega) i b hb
      refine ⟨List.eq_nil_iff_forall_not_mem.2 fun i hi => ?_, fin _ _ _ hall hI⟩
      obtain ⟨g1, o, ho, _⟩ := mem_ready.1 hi
      rw [hall i (Array.getElem?_eq_some_iff.1 ho).1] at g1
      cases g1
    | succ fuel ih =>
      intro listed a' w' hls hun hI
      refine ⟨fun hnil => fin _ _ _ (fun i => ?_) hI, fun i hi => ?_⟩
      · induction i using Nat.strongRecOn with
        | _ i ihi =>
          intro hi
          cases hb : listed.getD i true with
          | true => rfl
          | false =>
            exfalso
            have ho : ops[i]? = some ops[i] := Array.getElem?_eq_getElem hi
            have : i ∈ Region.ready .any ops listed := mem_ready.2 ⟨hb, _, ho, fun e he hbe => by
              have hlt := (hO i _ ho).back e he hbe
              have := ihi e.on hlt (by omega)
              rw [getD_list] at this ⊢
              have hin : e.on < listed.toList.length := by rw [Array.length_toList, hls]; omega
              rw [List.getElem?_eq_getElem hin] at this ⊢
              exact this⟩
            rw [hnil] at this
            cases this
      · obtain ⟨g1, o, ho, g2⟩ := mem_ready.1 hi
        have hin : i < ops.size := (Array.getElem?_eq_some_iff.1 ho).1
        have hoi := hO i o ho
        obtain ⟨i1, i2, ic, F', i3, i4⟩ := hI
        have hmw : MemOk m σ F' w' := i3.mem hm
        have toT : ∀ j, j < ops.size → listed.getD j false = true → listed.getD j true = true := fun j hj h => by
          rw [getD_list] at h ⊢
          have hin2 : j < listed.toList.length := by rw [Array.length_toList, hls]; omega
          rw [List.getElem?_eq_getElem hin2] at h ⊢
          exact h
        have hslots : ∀ t ∈ slots ops.toList o, Vc w' F' σ (get (envsOf env ops.toList As i) t) (a'.tmps.getD t undef) := fun t ht => by
          by_cases hex : ∃ (j : Nat) (o' : Oper), ops[j]? = some o' ∧ o'.dst = some t
          · obtain ⟨j, o', ho', hdo'⟩ := hex
            have hj : j < ops.size := (Array.getElem?_eq_some_iff.1 ho').1
            have honce : ∀ (j2 : Nat) o2, ops[j2]? = some o2 → o2.dst = some t → j2 = j := fun j2 o2 h3 h4 => (hO j o' ho').once t hdo' j2 o2 (by rw [Array.getElem?_toList]; exact h3) h4
            rcases hoi.defs t ht j o' (by rw [Array.getElem?_toList]; exact ho') hdo' with ⟨hji, e, hee, heon, heb⟩ | ⟨hij, hcase⟩
            · rw [hEd j o' t ho' hdo' i hji (by omega)]
              refine (i4 t).1 j o' ho' hdo' ?_
              have := g2 e hee heb
              rw [heon] at this
              exact toT j hj this
            · rw [hE0 t i (by omega) (fun j2 o2 h3 h4 => by rw [honce j2 o2 h3 h4]; exact hij)]
              refine (i4 t).2 fun j2 o2 h3 h4 => ?_
              have hj2 := honce j2 o2 h3 h4
              subst hj2
              rcases hcase with rfl | ⟨e, hee, heon, heb⟩
              · exact g1
              · cases hb : listed.getD j2 true with
                | false => rfl
                | true =>
                  have := ic j2 o' ho' hb e hee heb
                  rw [heon, g1] at this
                  cases this
          · rw [hE0 t i (by omega) (fun j2 o2 h3 h4 => absurd ⟨j2, o2, h3, h4⟩ hex)]
            exact (i4 t).2 fun j2 o2 h3 h4 => absurd ⟨j2, o2, h3, h4⟩ hex
        have hdoes := hD i o (by rw [Array.getElem?_toList]; exact ho) F' w' a' hmw hslots
        have hy : ops.toList.toArray = ops := Array.toArray_toList
        rw [hy] at hdoes
        have hlist : listed.toList[i]? = some false := by
          rw [getD_list] at g1
          cases hb : listed.toList[i]? with
          | none => rw [hb] at g1; cases g1
          | some b => rw [hb] at g1; simp at g1; rw [g1]
        have next : ∀ (v : Value) (w2 : World) (F2 : Nat → Prop), Grew F' w' F2 w2 → Vc w2 F2 σ (As i) v → wpAnyIn (Fen ro) n P .any ops Q fuel (listed.setIfInBounds i true) (a'.put o.dst v) w2 := by
          intro v w2 F2 hg hv
          have hset : ∀ j, j ≠ i → (listed.setIfInBounds i true).getD j true = listed.getD j true := fun j hne => by
            rw [getD_list, Array.toList_setIfInBounds, List.getElem?_set_ne (fun e => hne e.symm), ← getD_list]
          have hsetm : ∀ j, listed.getD j true = true → (listed.setIfInBounds i true).getD j true = true := fun j h => by
            by_cases e : j = i
            · subst e; rw [h] at g1; cases g1
            · rw [hset j e]; exact h
          have hseti : (listed.setIfInBounds i true).getD i true = true := by
            rw [getD_list, Array.toList_setIfInBounds, List.getElem?_set_self (by rw [Array.length_toList, hls]; exact hin)]
            rfl
          refine ih _ _ _ (by simp [hls]) ?_ ⟨by rw [put_size]; exact i1, by rw [put_defers]; exact i2, fun j o' ho' hj e he hb => ?_, F2, i3.trans hg, fun t => ?_⟩
          · have := unl_set hlist
            rw [Array.toList_setIfInBounds]
            omega
          · by_cases hji : j = i
            · subst hji
              rw [ho] at ho'
              cases ho'
              have hlt := hoi.back e he hb
              exact hsetm _ (toT _ (by omega) (g2 e he hb))
            · rw [hset j hji] at hj
              exact hsetm _ (ic j o' ho' hj e he hb)
          · have mono : ∀ {A u}, Vc w' F' σ A u → Vc w2 F2 σ A u := fun h => h.mono hg.fro (fun b hb => hg.keep b (i3.lt b hb)) (SLe.refl σ)
            by_cases hdt : o.dst = some t
            · have hdN := hdst i o t ho hdt
              have hval : (a'.put o.dst v).tmps.getD t undef = v := by
                rw [hdt]
                simp only [Act.put, Array.getD_eq_getD_getElem?]
                rw [Array.getElem?_setIfInBounds_self_of_lt (by rw [i1]; exact hdN)]
                rfl
              rw [hval]
              refine ⟨fun j o' ho' hd' _ => ?_, fun hno => ?_⟩
              · have := hoi.once t hdt j o' (by rw [Array.getElem?_toList]; exact ho') hd'
                subst this
                exact hv
              · have := hno i o ho hdt
                rw [hseti] at this
                cases this
            · have hval : (a'.put o.dst v).tmps.getD t undef = a'.tmps.getD t undef := by
                cases hdo : o.dst with
                | none => rfl
                | some d =>
                  simp only [Act.put, Array.getD_eq_getD_getElem?]
                  rw [Array.getElem?_setIfInBounds_ne (fun e => hdt (by rw [hdo, e]))]
              rw [hval]
              have hne : ∀ (j : Nat) o', ops[j]? = some o' → o'.dst = some t → j ≠ i := fun j o' ho' hd' e => by
                subst e
                rw [ho] at ho'
                cases ho'
                exact hdt hd'
              refine ⟨fun j o' ho' hd' hj => ?_, fun hno => ?_⟩
              · rw [hset j (hne j o' ho' hd')] at hj
                exact mono ((i4 t).1 j o' ho' hd' hj)
              · exact mono ((i4 t).2 fun j o' ho' hd' => by
                  have := hno j o' ho' hd'
                  rwa [hset j (hne j o' ho' hd')] at this)
        unfold wpOpIn
        simp only [ho]
        cases hw : Region.wanted o (yielded ops a'.tmps) with
        | false =>
          simp only [Bool.false_eq_true, if_false]
          exact ⟨fun _ _ => trivial, next _ _ _ (Grew.refl hmw.fl) (hdoes.2 hw _ _)⟩
        | true =>
          simp only [if_true]
          have h3 := hdoes.1 hw
          have hdef : ∀ c, o.op ≠ .defer c := fun c hc => by
            simp only [execOp, hc, Sem.run_bind] at h3
            cases hr : (resolve a'.eval c o.type).run P w' <;> simp [hr, Result.andThen, YieldR] at h3
          refine wpIn_at hdef ?_
          generalize (execOp a'.eval o).run P w' = r at h3
          cases r with
          | ok x w2 =>
            cases x <;> simp only [YieldR] at h3 <;> simp only [Oper.uponIn]
            case value u =>
              obtain ⟨F2, k1, k2⟩ := h3
              exact next u w2 F2 k1 k2
            case enter f args =>
              obtain ⟨e1, hc⟩ := h3
              rw [e1]
              exact ⟨Fen_depth, callsFen.2 (hc.mono fun e w3 ⟨u, F3, he, k1, k2⟩ => by subst he; exact next u w3 F3 k1 k2)⟩
          | halt x w2 => simp only [YieldR] at h3
  have hrep : ∀ j, j < ops.size → (Array.replicate ops.size false).getD j true = false := fun j hj => by
    rw [getD_list, Array.toList_replicate, List.getElem?_replicate, if_pos hj]
    rfl
  refine wpIn_region_any h1 (main ops.size _ a _ (by simp) ?_ ⟨hN, rfl, fun j o ho hj => ?_, F, Grew.drew hm.fl, fun t => ⟨fun j o ho _ hj => ?_, fun _ => ?_⟩⟩)
  · have : ∀ k, unl (List.replicate k false) = k := fun k => by
      induction k with
      | zero => rfl
      | succ k ih => rw [List.replicate_succ, unl, ih]; simp; omega
    rw [Array.toList_replicate, this]
    exact Nat.le_refl _
  · rw [hrep j (Array.getElem?_eq_some_iff.1 ho).1] at hj
    cases hj
  · rw [hrep j (Array.getElem?_eq_some_iff.1 ho).1] at hj
    cases hj
  · exact Vc.mono (w := w) (w' := { w with drawn := w.drawn + 1 }) (fun _ h => h) (fun _ _ => rfl) (SLe.refl σ) (he t)
end
end Go.Ab
/-
  The engine, part AA: statements that leave their order open, with rows made in them: append of append.
-/
namespace Go.Ab
set_option linter.unusedSimpArgs false
set_option linter.unusedVariables false

/-- A row made in the statement: which operation made it, the slot that names it, what it is, its memory. -/
structure Row where
  idx : Nat
  tmp : Nat
  val : AV
  mem : Mem
/-- The slot that is appended to. -/
def headArg : Op → Option Nat
  | .call { callee := .builtin .append, args, .. } => match args.toList with
    | .tmp t :: _ => some t
    | _ => none
  | _ => none
def feeds (t : Nat) : List Oper → Bool
  | [] => false
  | o :: r => (match headArg o.op with
    | some u => Nat.beq u t
    | none => false) || feeds t r
def chainOp (full : List Oper) (o : Oper) : Bool := match o.guard with
  | some _ => false
  | none => match o.dst with
    | none => false
    | some d => match o.op with
      | .buildSlice _ _ _ => feeds d full
      | .call { callee := .builtin .append, .. } => true
      | _ => false
def hasChain (full : List Oper) : List Oper → Bool
  | [] => false
  | o :: r => chainOp full o || hasChain full r
def takeRow (t : Nat) : List Row → Option (Row × List Row)
  | [] => none
  | r :: l => bif Nat.beq r.tmp t then some (r, l) else match takeRow t l with
    | some (x, l') => some (x, r :: l')
    | none => none
def takeFor (op : Op) (l : List Row) : Option Row × List Row := match headArg op with
  | some t => match takeRow t l with
    | some (x, l') => (some x, l')
    | none => (none, l)
  | none => (none, l)
def rowEnv (x : Option Row) (e : Env) : Env := match x with
  | some r => (r.tmp, r.val) :: e
  | none => e
def rowMem : Option Row → Mem
  | some r => r.mem
  | none => ⟨[], []⟩
def onlyD : Env → Env
  | [] => []
  | (t, A) :: r => (t, match A with
    | .d x => .d x
    | _ => .junk) :: onlyD r
/-- A row that is never written again: it reads as data. -/
inductive FrzR (n : Nat) (f : Nat → List AV) (K : (Nat → List D) → Prop) : Prop where
  | mk (h : Nat → List D) (e : ∀ i, i < n → f i = up (h i)) (k : K h)
def vcFrz (v : AV) (mc : Mem) (K : AV → Prop) : Prop := match v with
  | .osl r g off n => match mc.get r with
    | some (.vec _ sz g' k f) => bif Nat.beq off 0 then obs [g' = g, k = n] (FrzR k f fun h => Ev (K (.d (.sl sz n h)))) else False
    | _ => False
  | _ => False
noncomputable def vcX (P : Program) (T : Tab) (full : List Oper) (m : Mem) (ops : List Oper) : Nat → Env → List Row → (Env → Prop) → Prop :=
  List.rec (motive := fun _ => Nat → Env → List Row → (Env → Prop) → Prop) (fun _ env _ K => K env) (fun o _ ih k env rows K => bif chainOp full o then
      match takeFor o.op rows with
      | (x, rest) => match evEff T (rowEnv x (onlyD (sel env (tmpsOf o.op)))) (rowMem x) o.op with
        | none => False
        | some (v, mc, l) => match o.dst with
          | none => False
          | some d => obs l (frc v fun v => frcM mc fun mc => bif feeds d full then ih (k + 1) ((d, .junk) :: env) (⟨k, d, v, mc⟩ :: rest) K
            else vcFrz v mc fun A => ih (k + 1) ((d, A) :: env) rest K)
    else match o.guard with
    | none => vcR1 P T m (sel env (tmpsOf o.op)) o fun v => setD env o.dst v fun env => ih (k + 1) env rows K
    | some (j, want) => match guardOf full (sel env (gTmp full (some (j, want)))) j want with
      | none => False
      | some g => match evRead T (sel env (tmpsOf o.op)) m o.op with
        | some (v, l) => obs (under g l) (frc v fun v => setD env o.dst (.gd g v) fun env => ih (k + 1) env rows K)
        | none => Br g (Ev (vcR1 P T m (sel env (tmpsOf o.op)) o fun v => setD env o.dst v fun env => ih (k + 1) env rows K)) (Ev (setD env o.dst (.gd false (.d (.bool false))) fun env => ih (k + 1) env rows K))) ops
theorem vcX_cons (P : Program) (T : Tab) (full : List Oper) (m : Mem) (o : Oper) (rest : List Oper) (k : Nat) (env : Env) (rows : List Row) (K : Env → Prop) : vcX P T full m (o :: rest) k env rows K = bif chainOp full o then
      match takeFor o.op rows with
      | (x, rest') => match evEff T (rowEnv x (onlyD (sel env (tmpsOf o.op)))) (rowMem x) o.op with
        | none => False
        | some (v, mc, l) => match o.dst with
          | none => False
          | some d => obs l (frc v fun v => frcM mc fun mc => bif feeds d full then vcX P T full m rest (k + 1) ((d, .junk) :: env) (⟨k, d, v, mc⟩ :: rest') K
            else vcFrz v mc fun A => vcX P T full m rest (k + 1) ((d, A) :: env) rest' K)
    else match o.guard with
    | none => vcR1 P T m (sel env (tmpsOf o.op)) o fun v => setD env o.dst v fun env => vcX P T full m rest (k + 1) env rows K
    | some (j, want) => match guardOf full (sel env (gTmp full (some (j, want)))) j want with
      | none => False
      | some g => match evRead T (sel env (tmpsOf o.op)) m o.op with
        | some (v, l) => obs (under g l) (frc v fun v => setD env o.dst (.gd g v) fun env => vcX P T full m rest (k + 1) env rows K)
        | none => Br g (Ev (vcR1 P T m (sel env (tmpsOf o.op)) o fun v => setD env o.dst v fun env => vcX P T full m rest (k + 1) env rows K)) (Ev (setD env o.dst (.gd false (.d (.bool false))) fun env => vcX P T full m rest (k + 1) env rows K)) := rfl

/-- What was there has turned at most in these blocks. -/
structure Chg (F : Nat → Prop) (w : World) (B : Nat → Prop) (F' : Nat → Prop) (w' : World) : Prop where
  os : w'.os = w.os
  tape : w'.tape = w.tape
  output : w'.output = w.output
  drawn : w.drawn ≤ w'.drawn
  size : w.heap.size ≤ w'.heap.size
  keep : ∀ b, b < w.heap.size → ¬ B b → w'.heap[b]? = w.heap[b]?
  fro : ∀ b, F b → F' b
  fro' : ∀ b, F' b → F b ∨ B b ∨ w.heap.size ≤ b
  lt : ∀ b, F' b → b < w'.heap.size
section
variable {F F0 F' : Nat → Prop} {w w0 w' : World} {B : Nat → Prop} {m : Mem} {σ : Pls}
theorem Grew.chg (h : Grew F w F' w') : Chg F w B F' w' :=
  ⟨h.os, h.tape, h.output, h.drawn, h.size, fun b hb _ => h.keep b hb, h.fro, fun b hb => (h.fro' b hb).elim .inl fun h => .inr (.inr h), h.lt⟩
theorem Chg.grew (h0 : Grew F0 w0 F w) (h : Chg F w B F' w') (hB : ∀ b, B b → w0.heap.size ≤ b) : Grew F0 w0 F' w' :=
  ⟨h.os.trans h0.os, h.tape.trans h0.tape, h.output.trans h0.output, Nat.le_trans h0.drawn h.drawn, Nat.le_trans h0.size h.size,
    fun b hb => (h.keep b (Nat.lt_of_lt_of_le hb h0.size) (fun hBb => by have := hB b hBb; omega)).trans (h0.keep b hb), fun b hb => h.fro b (h0.fro b hb),
    fun b hb => by
      rcases h.fro' b hb with h1 | h1 | h1
      · exact h0.fro' b h1
      · exact .inr (hB b h1)
      · exact .inr (Nat.le_trans h0.size h1), h.lt⟩
theorem Chg.mem (hm : MemOk m σ F w) (h : Chg F w B F' w') (hB : ∀ b, B b → ¬ Owned σ b) (hBF : ∀ b, B b → ¬ F b) : MemOk m σ F' w' := by
  have hk : ∀ b, F b → w'.heap[b]? = w.heap[b]? := fun b hb => h.keep b (hm.fl b hb) fun h2 => hBF b h2 hb
  refine ⟨hm.dom, fun r q hq => ⟨(hm.lv r q hq).1, fun pl e => ?_⟩, hm.inj, fun r pl b t h1 h2 => ⟨fun hF => ?_, Nat.lt_of_lt_of_le (hm.nf r pl b t h1 h2).2 h.size⟩, h.lt, hm.gl.mono h.fro hk⟩
  · obtain ⟨B', hB', hok⟩ := (hm.lv r q hq).2 pl e
    exact ⟨B', hB', hok.mono h.fro hk (SLe.refl σ) (fun b t hl => h.keep b (hm.nf r pl b t (by rw [hq, e]) hl).2 fun hb => hB b hb ⟨r, pl, t, by rw [hq, e], hl⟩)⟩
  · have hnf := hm.nf r pl b t h1 h2
    rcases h.fro' b hF with h3 | h3 | h3
    · exact hnf.1 h3
    · exact hB b h3 ⟨r, pl, t, h1, h2⟩
    · omega
theorem owned_nf (hm : MemOk m σ F w) : ∀ b, Owned σ b → ¬ F b ∧ b < w.heap.size := fun b ⟨r, pl, t, h1, h2⟩ => hm.nf r pl b t h1 h2
theorem Chg.frozen (hm : MemOk m σ F w) (h : Chg F w B F' w') (hBF : ∀ b, B b → ¬ F b) : ∀ b, F b → w'.heap[b]? = w.heap[b]? := fun b hb => h.keep b (hm.fl b hb) fun h2 => hBF b h2 hb
end
def BOf : Option Row → Pls → Nat → Prop
  | none, _ => fun _ => False
  | some _, σ => Owned σ
def YieldV (P : Program) (σ σr : Pls) (F : Nat → Prop) (w : World) (A : AV) (took made : Option Row) (u : Value) (w2 : World) : Prop :=
  ∃ F2, Chg F w (BOf took σr) F2 w2 ∧ Vc w2 F2 σ A u ∧ ∀ r, made = some r → ∃ σ2, MemOk r.mem σ2 F2 w2 ∧ Vc w2 F2 σ2 r.val u ∧ ∀ b, Owned σ2 b → BOf took σr b ∨ w.heap.size ≤ b
def YieldX (P : Program) (σ σr : Pls) (F : Nat → Prop) (w : World) (A : AV) (took made : Option Row) : Result Next → Prop
  | .ok (.value u) w2 => YieldV P σ σr F w A took made u w2
  | .ok .skip w2 => YieldV P σ σr F w A took made undef w2
  | .ok (.enter f args) w2 => took = none ∧ made = none ∧ w2 = w ∧ Calls P f args w fun e w3 => ∃ u F3, e = .returned u ∧ Grew F w F3 w3 ∧ Vc w3 F3 σ A u
  | _ => False
def DoesX (P : Program) (m : Mem) (σ : Pls) (full : List Oper) (o : Oper) (env : Env) (A : AV) (took made : Option Row) : Prop :=
  ∀ (F : Nat → Prop) (w : World) (a : Act) (σr : Pls), MemOk m σ F w → (∀ t ∈ slots full o, Vc w F σ (get env t) (a.tmps.getD t undef)) →
    (∀ r, took = some r → MemOk r.mem σr F w ∧ Vc w F σr r.val (a.tmps.getD r.tmp undef)) →
    (Region.wanted o (yielded full.toArray a.tmps) = true → YieldX P σ σr F w A took made ((execOp a.eval o).run P w)) ∧
    (Region.wanted o (yielded full.toArray a.tmps) = false → took = none ∧ made = none ∧ ∀ w F, Vc w F σ A undef)
section
variable {P : Program} {T : Tab} {m : Mem} {σ : Pls}
theorem YieldR.x {F : Nat → Prop} {w : World} {A : AV} {σr : Pls} : ∀ {r : Result Next}, YieldR P σ F w A r → YieldX P σ σr F w A none none r
  | .ok (.value u) w2, ⟨F2, h1, h2⟩ => ⟨F2, h1.chg, h2, fun r h => by cases h⟩
  | .ok (.enter f args) w2, ⟨h1, h2⟩ => ⟨rfl, rfl, h1, h2⟩
theorem DoesG.x {full : List Oper} {o : Oper} {env : Env} {A : AV} (h : DoesG P m σ full o env A) : DoesX P m σ full o env A none none :=
  fun F w a σr hm hs _ => ⟨fun hw => ((h F w a hm hs).1 hw).x, fun hw => ⟨rfl, rfl, (h F w a hm hs).2 hw⟩⟩
theorem get_onlyD (e : Env) (t : Nat) : get (onlyD e) t = match get e t with
    | .d x => .d x
    | _ => .junk := by
  induction e with
  | nil => rfl
  | cons p r ih =>
    obtain ⟨k, A⟩ := p
    simp only [onlyD, get]
    cases Nat.beq k t with
    | true => rfl
    | false => exact ih
theorem onlyD_ok {env : Env} {ts : List Nat} {w : World} {F : Nat → Prop} {σ σ' : Pls} {tmps : Array Value} (h : ∀ t ∈ ts, Vc w F σ (get env t) (tmps.getD t undef)) : EnvOk (onlyD (sel env ts)) w F σ' tmps := fun t => by
  rw [get_onlyD]
  rcases get_sel env t ts with ⟨h1, h2⟩ | h2
  · rw [h2]
    have := h t h1
    split
    · rename_i x e
      rw [e] at this
      cases this with | d h => exact .d h
    · exact .junk
  · rw [h2]; exact .junk
theorem rowEnv_ok {e : Env} {w : World} {F : Nat → Prop} {σ : Pls} {tmps : Array Value} {x : Option Row} (h : EnvOk e w F σ tmps) (hx : ∀ r, x = some r → Vc w F σ r.val (tmps.getD r.tmp undef)) : EnvOk (rowEnv x e) w F σ tmps := by
  cases x with
  | none => exact h
  | some r =>
    intro t
    simp only [rowEnv, get]
    cases hb : Nat.beq r.tmp t with
    | false => exact h t
    | true =>
      have := Nat.eq_of_beq_eq_true hb
      subst this
      exact hx r rfl
def rowPls (x : Option Row) (σr : Pls) : Pls := match x with
  | none => fun _ => none
  | some _ => σr
theorem chain_does (hT : TabOk P T) {full : List Oper} {o : Oper} {env : Env} {x : Option Row} {v : AV} {mc : Mem} {l : List Prop} (hg : o.guard = none) (h : evEff T (rowEnv x (onlyD (sel env (tmpsOf o.op)))) (rowMem x) o.op = some (v, mc, l)) (hl : ∀ p ∈ l, p)
    {F : Nat → Prop} {w : World} {a : Act} {σr : Pls} (hm : MemOk m σ F w) (hs : ∀ t ∈ slots full o, Vc w F σ (get env t) (a.tmps.getD t undef)) (hx : ∀ r, x = some r → MemOk r.mem σr F w ∧ Vc w F σr r.val (a.tmps.getD r.tmp undef)) :
    Region.wanted o (yielded full.toArray a.tmps) = true ∧ ∃ n u w' σ', (execOp a.eval o).run P w = .ok n w' ∧ (n = .value u ∨ (n = .skip ∧ u = undef)) ∧ Vc w' F σ' v u ∧ MemOk mc σ' F w' ∧ Chg F w (BOf x σr) F w' ∧ ∀ b, Owned σ' b → BOf x σr b ∨ w.heap.size ≤ b := by
  refine ⟨by simp [Region.wanted, hg], ?_⟩
  have hm0 : MemOk (rowMem x) (rowPls x σr) F w := by
    cases x with
    | none => exact memNone hm.fl hm.gl
    | some r => exact (hx r rfl).1
  have he : EnvOk (rowEnv x (onlyD (sel env (tmpsOf o.op)))) w F (rowPls x σr) a.tmps := rowEnv_ok (onlyD_ok fun t ht => hs t (mem_app2.2 (.inl ht))) fun r hr => by
    subst hr
    exact (hx r rfl).2
  obtain ⟨n, u, w', σ', h1, h2, h3, h4, h5, h6⟩ := evEff_ok hT hm0 he h hl
  have hO : ∀ b, Owned (rowPls x σr) b → BOf x σr b := fun b hb => by
    cases x with
    | none =>
      obtain ⟨r, pl, t, h, _⟩ := hb
      cases h
    | some r => exact hb
  exact ⟨n, u, w', σ', h1, h2, h3, h4, ⟨h5.os, h5.tape, h5.output, h5.drawn, h5.size, fun b hb hnb => h5.keep b hb fun ho => hnb (hO b ho), fun _ h => h, fun _ h => .inl h, h4.fl⟩, fun b hb => (h5.own b hb).imp (hO b) id⟩
theorem takeRow_is {t : Nat} : ∀ {l : List Row} {x : Row} {l' : List Row}, takeRow t l = some (x, l') → x ∈ l ∧ x.tmp = t ∧ (∀ r ∈ l', r ∈ l) ∧ ((l.map (·.idx)).Nodup → (l'.map (·.idx)).Nodup ∧ ∀ r ∈ l', r.idx ≠ x.idx)
  | [], x, l', h => by simp [takeRow] at h
  | r :: l, x, l', h => by
    simp only [takeRow] at h
    cases hb : Nat.beq r.tmp t with
    | true =>
      rw [hb] at h
      simp only [cond_true, Option.some.injEq, Prod.mk.injEq] at h
      obtain ⟨rfl, rfl⟩ := h
      refine ⟨by simp, Nat.eq_of_beq_eq_true hb, fun r hr => by simp [hr], fun hn => ?_⟩
      simp only [List.map_cons, List.nodup_cons] at hn
      exact ⟨hn.2, fun r' hr' e => hn.1 (by rw [← e]; exact List.mem_map.2 ⟨r', hr', rfl⟩)⟩
    | false =>
      rw [hb] at h
      simp only [cond_false] at h
      split at h <;> try (cases h; done)
      rename_i y l2 hy
      simp only [Option.some.injEq, Prod.mk.injEq] at h
      obtain ⟨rfl, rfl⟩ := h
      obtain ⟨h1, h2, h3, h4⟩ := takeRow_is hy
      refine ⟨by simp [h1], h2, fun r' hr' => ?_, fun hn => ?_⟩
      · rcases List.mem_cons.1 hr' with rfl | hr'
        · simp
        · simp [h3 r' hr']
      · simp only [List.map_cons, List.nodup_cons] at hn
        obtain ⟨g1, g2⟩ := h4 hn.2
        refine ⟨?_, fun r' hr' => ?_⟩
        · simp only [List.map_cons, List.nodup_cons]
          refine ⟨fun hm => hn.1 ?_, g1⟩
          obtain ⟨r2, hr2, e⟩ := List.mem_map.1 hm
          exact List.mem_map.2 ⟨r2, h3 r2 hr2, e⟩
        · rcases List.mem_cons.1 hr' with rfl | hr'
          · intro e
            exact hn.1 (by rw [e]; exact List.mem_map.2 ⟨y, h1, rfl⟩)
          · exact g2 r' hr'
theorem headArg_tmps {op : Op} {t : Nat} (h : headArg op = some t) : t ∈ tmpsOf op := by
  unfold headArg at h
  split at h <;> try (cases h; done)
  rename_i args _ _
  split at h <;> try (cases h; done)
  rename_i t' r e
  injection h with h
  subst h
  simp only [tmpsOf]
  rw [e]
  simp [tmpOs]
theorem takeFor_is {op : Op} {l l' : List Row} {x : Option Row} (h : takeFor op l = (x, l')) : (∀ r, x = some r → r ∈ l ∧ r.tmp ∈ tmpsOf op) ∧ (∀ r ∈ l', r ∈ l) ∧ ((l.map (·.idx)).Nodup → (l'.map (·.idx)).Nodup ∧ ∀ r, x = some r → ∀ r' ∈ l', r'.idx ≠ r.idx) := by
  unfold takeFor at h
  split at h
  · rename_i t ht
    split at h
    · rename_i y l2 hy
      simp only [Prod.mk.injEq] at h
      obtain ⟨rfl, rfl⟩ := h
      obtain ⟨h1, h2, h3, h4⟩ := takeRow_is hy
      refine ⟨fun r hr => ?_, h3, fun hn => ⟨(h4 hn).1, fun r hr => ?_⟩⟩
      · cases hr
        rw [h2]
        exact ⟨h1, headArg_tmps ht⟩
      · cases hr
        exact (h4 hn).2
    · simp only [Prod.mk.injEq] at h
      obtain ⟨rfl, rfl⟩ := h
      exact ⟨fun r hr => (by cases hr), fun r hr => hr, fun hn => ⟨hn, fun r hr => (by cases hr)⟩⟩
  · simp only [Prod.mk.injEq] at h
    obtain ⟨rfl, rfl⟩ := h
    exact ⟨fun r hr => (by cases hr), fun r hr => hr, fun hn => ⟨hn, fun r hr => (by cases hr)⟩⟩
def consR (x : Option Row) (f : Nat → Option Row) : Nat → Option Row
  | 0 => x
  | k + 1 => f k
theorem vcFrz_ok {v : AV} {mc : Mem} {K : AV → Prop} (h : vcFrz v mc K) : ∃ r g n e sz f h0, v = .osl r g 0 n ∧ mc.get r = some (.vec e sz g n f) ∧ (∀ i, i < n → f i = up (h0 i)) ∧ K (.d (.sl sz n h0)) := by
  unfold vcFrz at h
  cases v <;> simp only at h <;> try exact h.elim
  rename_i r g off n
  split at h <;> try exact h.elim
  rename_i e0 sz g' k f hget
  cases hoff : Nat.beq off 0 with
  | false => rw [hoff] at h; exact h.elim
  | true =>
    rw [hoff] at h
    simp only [cond_true] at h
    have hoff := Nat.eq_of_beq_eq_true hoff
    subst hoff
    obtain ⟨hp, h1⟩ := obs_ok (l := [g' = g, k = n]) h
    have e1 : g' = g := hp _ (by simp)
    have e2 : k = n := hp _ (by simp)
    subst e1; subst e2
    obtain ⟨h0, hfe, hk⟩ := h1
    have hk := hk.o
    exact ⟨r, g', k, e0, sz, f, h0, rfl, hget, hfe, hk⟩
structure ExtX (P : Program) (m : Mem) (σ : Pls) (full rest : List Oper) (base : Nat) (env : Env) (rows : List Row) (K : Env → Prop) (As : Nat → AV) (took made : Nat → Option Row) : Prop where
  k : K (envsOf env rest As rest.length)
  does : ∀ (k : Nat) o, rest[k]? = some o → DoesX P m σ full o (envsOf env rest As k) (As k) (took k) (made k)
  madeAt : ∀ k r, made k = some r → r.idx = base + k ∧ ∃ o, rest[k]? = some o ∧ o.dst = some r.tmp
  tookAt : ∀ k r, took k = some r → (r ∈ rows ∨ ∃ j, j < k ∧ made j = some r) ∧ ∃ o, rest[k]? = some o ∧ r.tmp ∈ tmpsOf o.op
  once : ∀ k k' r r', took k = some r → took k' = some r' → r.idx = r'.idx → k = k'
theorem ExtX.cons {full rest : List Oper} {o : Oper} {base : Nat} {env : Env} {rows rows' : List Row} {K : Env → Prop} {As : Nat → AV} {took made : Nat → Option Row} {A : AV} {x y : Option Row}
    (hd : DoesX P m σ full o env A x y) (hy : ∀ r, y = some r → r.idx = base ∧ o.dst = some r.tmp) (hx : ∀ r, x = some r → r ∈ rows ∧ r.tmp ∈ tmpsOf o.op)
    (hr : ∀ r ∈ rows', r ∈ rows ∨ y = some r) (hxr : ∀ r, x = some r → ∀ r' ∈ rows', r'.idx ≠ r.idx) (hlt : ∀ r ∈ rows, r.idx < base)
    (h : ExtX P m σ full rest (base + 1) (stepE o A env) rows' K As took made) : ExtX P m σ full (o :: rest) base env rows K (consA A As) (consR x took) (consR y made) where
  k := by
    rw [List.length_cons, envsOf_cons]
    exact h.k
  does k o' ho := by
    cases k with
    | zero => simp at ho; subst ho; exact hd
    | succ k =>
      rw [envsOf_cons]
      exact h.does k o' (by simpa using ho)
  madeAt k r hk := by
    cases k with
    | zero =>
      obtain ⟨h1, h2⟩ := hy r hk
      exact ⟨by omega, o, rfl, h2⟩
    | succ k =>
      obtain ⟨h1, o', h2, h3⟩ := h.madeAt k r hk
      exact ⟨by omega, o', by simpa using h2, h3⟩
  tookAt k r hk := by
    cases k with
    | zero =>
      obtain ⟨h1, h2⟩ := hx r hk
      exact ⟨.inl h1, o, rfl, h2⟩
    | succ k =>
      obtain ⟨h1, o', h2, h3⟩ := h.tookAt k r hk
      refine ⟨?_, o', by simpa using h2, h3⟩
      rcases h1 with h1 | ⟨j, hj, h1⟩
      · rcases hr r h1 with h4 | h4
        · exact .inl h4
        · exact .inr ⟨0, by omega, h4⟩
      · exact .inr ⟨j + 1, by omega, h1⟩
  once k k' r r' hk hk' e := by
    have key : ∀ k r r', x = some r → took k = some r' → r.idx = r'.idx → False := fun k r r' h1 h2 e => by
      obtain ⟨h3, _⟩ := h.tookAt k r' h2
      rcases h3 with h3 | ⟨j, hj, h3⟩
      · exact hxr r h1 r' h3 e.symm
      · have := (h.madeAt j r' h3).1
        have := hlt r (hx r h1).1
        omega
    cases k with
    | zero => cases k' with
      | zero => rfl
      | succ k' => exact (key k' r r' hk hk' e).elim
    | succ k => cases k' with
      | zero => exact (key k r' r hk' hk e.symm).elim
      | succ k' => rw [h.once k k' r r' hk hk' e]
theorem vcX_ext (hT : TabOk P T) {full : List Oper} {K : Env → Prop} : ∀ (rest : List Oper) (base : Nat) (env : Env) (rows : List Row), (rows.map (·.idx)).Nodup → (∀ r ∈ rows, r.idx < base) → vcX P T full m rest base env rows K →
    ∃ As took made, ExtX P m σ full rest base env rows K As took made
  | [], base, env, rows, hn, hlt, h => ⟨fun _ => .junk, fun _ => none, fun _ => none, ⟨h, fun k o ho => (by simp at ho), fun k r h => (by cases h), fun k r h => (by cases h), fun k k' r r' h => (by cases h)⟩⟩
  | o :: r, base, env, rows, hn, hlt, h => by
    rw [vcX_cons] at h
    cases hc : chainOp full o with
    | false =>
      rw [hc] at h
      simp only [cond_false] at h
      have key : ∃ A, vcX P T full m r (base + 1) (stepE o A env) rows K ∧ DoesG P m σ full o env A := by
        have hs1 : ∀ t ∈ tmpsOf o.op, t ∈ slots full o := fun t ht => mem_app2.2 (.inl ht)
        split at h
        · rename_i hg
          obtain ⟨A, hK, hD⟩ := vcR1_ok hT h
          refine ⟨A, setD_step hK, fun F w a hm he => ⟨fun _ => hD F w a hm (sel_ok fun t ht => he t (hs1 t ht)), fun hw => ?_⟩⟩
          simp [Region.wanted, hg] at hw
        · rename_i j want hg
          have hs2 : ∀ t ∈ gTmp full (some (j, want)), t ∈ slots full o := fun t ht => mem_app2.2 (.inr (by rw [hg]; exact ht))
          split at h <;> try (cases h; done)
          rename_i g hgo
          have hw : ∀ (F : Nat → Prop) (w : World) (a : Act), (∀ t ∈ slots full o, Vc w F σ (get env t) (a.tmps.getD t undef)) → Region.wanted o (yielded full.toArray a.tmps) = g := fun F w a he => by
            simp only [Region.wanted, hg]
            exact guardOf_ok (sel_ok fun t ht => he t (hs2 t ht)) hgo
          split at h
          · rename_i v l hr
            obtain ⟨hl, h⟩ := obs_ok h
            rw [frc_eq] at h
            refine ⟨.gd g v, setD_step h, fun F w a hm he => ?_⟩
            rw [hw F w a he]
            refine ⟨fun hgt => ?_, fun hgf w F => .gd (fun h => by rw [hgf] at h; cases h) fun _ => rfl⟩
            exact YieldR.mono (fun w F u hu => .gd (fun _ => hu) fun h => by rw [hgt] at h; cases h) (evRead_does hT hr (under_ok hl hgt) F w a hm (sel_ok fun t ht => he t (hs1 t ht)))
          · cases g with
            | true =>
              obtain ⟨A, hK, hD⟩ := vcR1_ok hT (h.t rfl).o
              refine ⟨A, setD_step hK, fun F w a hm he => ⟨fun _ => hD F w a hm (sel_ok fun t ht => he t (hs1 t ht)), fun hwf => ?_⟩⟩
              rw [hw F w a he] at hwf
              cases hwf
            | false =>
              refine ⟨_, setD_step (h.f rfl).o, fun F w a hm he => ⟨fun hwt => ?_, fun _ w F => .gd (fun h => by cases h) fun _ => rfl⟩⟩
              rw [hw F w a he] at hwt
              cases hwt
      obtain ⟨A, hr, hD⟩ := key
      obtain ⟨As, took, made, hE⟩ := vcX_ext hT r (base + 1) _ rows hn (fun r hr => Nat.lt_succ_of_lt (hlt r hr)) hr
      exact ⟨_, _, _, hE.cons (x := none) (y := none) hD.x (fun r h => by cases h) (fun r h => by cases h) (fun r hr => .inl hr) (fun r h => by cases h) hlt⟩
    | true =>
      rw [hc] at h
      simp only [cond_true] at h
      have hg : o.guard = none := by
        unfold chainOp at hc
        split at hc
        · cases hc
        · rename_i h; exact h
      obtain ⟨x, rest', htk⟩ : ∃ x r', takeFor o.op rows = (x, r') := ⟨_, _, rfl⟩
      rw [htk] at h
      simp only at h
      obtain ⟨k1, k2, k3⟩ := takeFor_is htk
      obtain ⟨k4, k5⟩ := k3 hn
      split at h <;> try (cases h; done)
      rename_i v mc l hev
      split at h <;> try (cases h; done)
      rename_i d hd
      obtain ⟨hl, h⟩ := obs_ok h
      rw [frc_eq, frcM_eq] at h
      have hlt' : ∀ r ∈ rest', r.idx < base + 1 := fun r hr => Nat.lt_succ_of_lt (hlt r (k2 r hr))
      cases hf : feeds d full with
      | true =>
        rw [hf] at h
        simp only [cond_true] at h
        have hstep : stepE o .junk env = (d, .junk) :: env := by unfold stepE; rw [hd]
        obtain ⟨As, took, made, hE⟩ := vcX_ext hT r (base + 1) _ (⟨base, d, v, mc⟩ :: rest') (by
          simp only [List.map_cons, List.nodup_cons]
          refine ⟨fun hm => ?_, k4⟩
          obtain ⟨r2, hr2, e⟩ := List.mem_map.1 hm
          have := hlt r2 (k2 r2 hr2)
          omega) (fun r hr => by
            rcases List.mem_cons.1 hr with rfl | hr
            · exact Nat.lt_succ_self _
            · exact hlt' r hr) h
        rw [← hstep] at hE
        refine ⟨_, _, _, hE.cons (x := x) (y := some ⟨base, d, v, mc⟩) (fun F w a σr hm hs hx => ?_) (fun r h => by cases h; exact ⟨rfl, hd⟩) k1 (fun r hr => ?_) (fun r hr r' hr' => ?_) hlt⟩
        · obtain ⟨hw, n, u, w', σ', g1, g2, g3, g4, g5, g6⟩ := chain_does hT hg hev hl hm hs hx
          refine ⟨fun _ => ?_, fun hwf => by rw [hw] at hwf; cases hwf⟩
          have hY : YieldV P σ σr F w .junk x (some ⟨base, d, v, mc⟩) u w' := ⟨F, g5, .junk, fun r hr => by cases hr; exact ⟨σ', g4, g3, g6⟩⟩
          rw [g1]
          rcases g2 with rfl | ⟨rfl, rfl⟩
          · exact hY
          · exact hY
        · rcases List.mem_cons.1 hr with rfl | hr
          · exact .inr rfl
          · exact .inl (k2 r hr)
        · rcases List.mem_cons.1 hr' with rfl | hr'
          · have := hlt r (k1 r hr).1
            show base ≠ r.idx
            omega
          · exact k5 r hr r' hr'
      | false =>
        rw [hf] at h
        simp only [cond_false] at h
        obtain ⟨rr, g', k, e0, sz, f, h0, rfl, hget, hfe, hk⟩ := vcFrz_ok h
        · skip
          have hstep : stepE o (.d (.sl sz k h0)) env = (d, .d (.sl sz k h0)) :: env := by unfold stepE; rw [hd]
          obtain ⟨As, took, made, hE⟩ := vcX_ext hT r (base + 1) _ rest' k4 hlt' hk
          rw [← hstep] at hE
          refine ⟨_, _, _, hE.cons (x := x) (y := none) (fun F w a σr hm hs hx => ?_) (fun r h => by cases h) k1 (fun r hr => .inl (k2 r hr)) k5 hlt⟩
          obtain ⟨hw, n, u, w', σ', g1, g2, g3, g4, g5, g6⟩ := chain_does hT hg hev hl hm hs hx
          refine ⟨fun _ => ?_, fun hwf => by rw [hw] at hwf; cases hwf⟩
          have hrd := osl_data (F' := fun b => F b ∨ Owned σ' b) g4 (fun b hb => .inl hb) g3 hget (by omega) hfe (fun pl b tot h1 h2 => .inr ⟨_, pl, tot, h1, h2⟩)
          have e3 : (fun i => h0 (0 + i)) = h0 := by funext i; rw [Nat.zero_add]
          rw [e3] at hrd
          have hY : YieldV P σ σr F w (.d (.sl sz k h0)) x none u w' := ⟨fun b => F b ∨ Owned σ' b, ⟨g5.os, g5.tape, g5.output, g5.drawn, g5.size, g5.keep, fun b hb => .inl hb, fun b hb => hb.elim .inl fun h => .inr (g6 b h), fun b hb => hb.elim (g4.fl b) fun h => (owned_nf g4 b h).2⟩, .d hrd, fun r hr => by cases hr⟩
          rw [g1]
          rcases g2 with rfl | ⟨rfl, rfl⟩
          · exact hY
          · exact hY
end
section
variable {P : Program} {T : Tab} {m : Mem} {σ : Pls}
variable {ro : Option Nat}
theorem drawn_regionX {id N n : Nat} {ops : Array Oper} {F : Nat → Prop} {w : World} {a : Act} {env : Env} {K : Env → Prop} {Q : Exit → Act → World → Prop}
    (h1 : P.follows .mixedOrders = true) (h2 : okR ops.toList = true) (hT : TabOk P T) (hm : MemOk m σ F w) (hd : dstsIn N ops.toList = true) (h : vcX P T ops.toList m ops.toList 0 env [] K) (hN : a.tmps.size = N) (he : EnvOk env w F σ a.tmps)
    (hQ : ∀ env' a' w' F', K env' → a'.tmps.size = N → a'.defers = a.defers → Grew F w F' w' → EnvOk env' w' F' σ a'.tmps → Q .normal a' w') : (Code.region id ops true).wpIn (Fen ro) n P Q a w := by
  obtain ⟨As, took, made, hX⟩ := vcX_ext (σ := σ) hT ops.toList 0 env [] (by simp) (fun r hr => by simp at hr) h
  have hK := hX.k
  have hD := hX.does
  have hMade : ∀ k r, made k = some r → r.idx = k ∧ ∃ o, ops[k]? = some o ∧ o.dst = some r.tmp := fun k r hk => by
    obtain ⟨h1, o, h2, h3⟩ := hX.madeAt k r hk
    rw [Array.getElem?_toList] at h2
    exact ⟨by omega, o, h2, h3⟩
  have hTook : ∀ k r, took k = some r → r.idx < k ∧ made r.idx = some r ∧ ∃ o, ops[k]? = some o ∧ r.tmp ∈ tmpsOf o.op := fun k r hk => by
    obtain ⟨h1, o, h2, h3⟩ := hX.tookAt k r hk
    rw [Array.getElem?_toList] at h2
    rcases h1 with h1 | ⟨j, hj, h1⟩
    · simp at h1
    · have := (hMade j r h1).1
      subst this
      exact ⟨hj, h1, o, h2, h3⟩
  have hO : ∀ (i : Nat) o, ops[i]? = some o → OrdAt ops.toList i o := fun i o ho => by
    have := okFrom_at h2 i o (by rw [Array.getElem?_toList]; exact ho)
    rwa [Nat.zero_add] at this
  have hdst : ∀ (i : Nat) o d, ops[i]? = some o → o.dst = some d → d < N := by
    have : ∀ (l : List Oper), dstsIn N l = true → ∀ (i : Nat) o d, l[i]? = some o → o.dst = some d → d < N := by
      intro l
      induction l with
      | nil => intro _ i o d ho; simp at ho
      | cons x r ih =>
        intro hl i o d ho hdo
        simp only [dstsIn, Bool.and_eq_true] at hl
        cases i with
        | zero =>
          simp at ho
          subst ho
          have := hl.1
          rw [hdo] at this
          exact Nat.le_of_ble_eq_true this
        | succ i => exact ih hl.2 i o d (by simpa using ho) hdo
    exact fun i o d ho hdo => this ops.toList hd i o d (by rw [Array.getElem?_toList]; exact ho) hdo
  generalize hE : envsOf env ops.toList As ops.toList.length = E at hK
  have hsize : ops.toList.length = ops.size := Array.length_toList
  have hEd : ∀ (i : Nat) o d, ops[i]? = some o → o.dst = some d → ∀ k, i < k → k ≤ ops.toList.length → get (envsOf env ops.toList As k) d = As i := by
    intro i o d ho hdo k hk hkn
    have hol : ops.toList[i]? = some o := by rw [Array.getElem?_toList]; exact ho
    rw [envs_stable (i := i + 1) k (by omega) (fun j o' h3 h4 ho' hd' => by
        have := (hO i o ho).once d hdo j o' ho' hd'
        omega)]
    rw [envsOf, hol]
    exact get_step_self hdo
  have hE0 : ∀ t k, k ≤ ops.toList.length → (∀ (j : Nat) o, ops[j]? = some o → o.dst = some t → k ≤ j) → get (envsOf env ops.toList As k) t = get env t := fun t k hk hno =>
    envs_stable (i := 0) k (Nat.zero_le _) (fun j o _ hj ho hdo => by
      rw [Array.getElem?_toList] at ho
      have := hno j o ho hdo
      omega)
  let Live : Array Bool → Nat → Row → Prop := fun listed k r => made k = some r ∧ listed.getD k true = true ∧ ∀ k', took k' = some r → listed.getD k' true = false
  let Inv : Array Bool → Act → World → Prop := fun listed a' w' => a'.tmps.size = N ∧ a'.defers = a.defers ∧ (∀ (j : Nat) o, ops[j]? = some o → listed.getD j true = true → ∀ e ∈ o.after, Region.binds .any e = true → listed.getD e.on true = true) ∧
    ∃ (F' : Nat → Prop) (S : Nat → Pls), Grew F w F' w' ∧ (∀ t, (∀ (j : Nat) o, ops[j]? = some o → o.dst = some t → listed.getD j true = true → Vc w' F' σ (As j) (a'.tmps.getD t undef)) ∧
      ((∀ (j : Nat) o, ops[j]? = some o → o.dst = some t → listed.getD j true = false) → Vc w' F' σ (get env t) (a'.tmps.getD t undef))) ∧
      (∀ k r, Live listed k r → MemOk r.mem (S k) F' w' ∧ Vc w' F' (S k) r.val (a'.tmps.getD r.tmp undef) ∧ ∀ b, Owned (S k) b → w.heap.size ≤ b) ∧
      ∀ k r k2 r2, Live listed k r → Live listed k2 r2 → k ≠ k2 → ∀ b, Owned (S k) b → ¬ Owned (S k2) b
  have fin : ∀ listed a' w', (∀ i, i < ops.size → listed.getD i true = true) → Inv listed a' w' → Q .normal a' w' := fun listed a' w' hall ⟨i1, i2, _, F', S, i3, i4, _, _⟩ =>
    hQ E a' w' F' hK i1 i2 i3 fun t => by
      by_cases hex : ∃ (j : Nat) (o : Oper), ops[j]? = some o ∧ o.dst = some t
      · obtain ⟨j, o, ho, hdo⟩ := hex
        have hj : j < ops.size := (Array.getElem?_eq_some_iff.1 ho).1
        rw [← hE, hEd j o t ho hdo _ (by omega) (Nat.le_refl _)]
        exact (i4 t).1 j o ho hdo (hall j hj)
      · rw [← hE, hE0 t _ (Nat.le_refl _) (fun j o ho hdo => absurd ⟨j, o, ho, hdo⟩ hex)]
        exact (i4 t).2 fun j o ho hdo => absurd ⟨j, o, ho, hdo⟩ hex
  have main : ∀ (fuel : Nat) (listed : Array Bool) (a' : Act) (w' : World), listed.size = ops.size → unl listed.toList ≤ fuel → Inv listed a' w' → wpAnyIn (Fen ro) n P .any ops Q fuel listed a' w' := by
    intro fuel
    induction fuel with
    | zero =>
      intro listed a' w' hls hun hI
      have hall : ∀ i, i < ops.size → listed.getD i true = true := fun i hi => by
        rw [getD_list]
        cases hb : listed.toList[i]? with
        | none => rfl
        | some b => exact unl_zero (by omega) i b hb
      refine ⟨List.eq_nil_iff_forall_not_mem.2 fun i hi => ?_, fin _ _ _ hall hI⟩
      obtain ⟨g1, o, ho, _⟩ := mem_ready.1 hi
      rw [hall i (Array.getElem?_eq_some_iff.1 ho).1] at g1
      cases g1
    | succ fuel ih =>
      intro listed a' w' hls hun hI
      refine ⟨fun hnil => fin _ _ _ (fun i => ?_) hI, fun i hi => ?_⟩
      · induction i using Nat.strongRecOn with
        | _ i ihi =>
          intro hi
          cases hb : listed.getD i true with
          | true => rfl
          | false =>
            exfalso
            have ho : ops[i]? = some ops[i] := Array.getElem?_eq_getElem hi
            have : i ∈ Region.ready .any ops listed := mem_ready.2 ⟨hb, _, ho, fun e he hbe => by
              have hlt := (hO i _ ho).back e he hbe
              have := ihi e.on hlt (by omega)
              rw [getD_list] at this ⊢
              have hin : e.on < listed.toList.length := by rw [Array.length_toList, hls]; omega
              rw [List.getElem?_eq_getElem hin] at this ⊢
              exact this⟩
            rw [hnil] at this
            cases this
      · obtain ⟨g1, o, ho, g2⟩ := mem_ready.1 hi
        have hin : i < ops.size := (Array.getElem?_eq_some_iff.1 ho).1
        have hoi := hO i o ho
        obtain ⟨i1, i2, ic, F', S, i3, i4, i5, i6⟩ := hI
        have hmw : MemOk m σ F' w' := i3.mem hm
        have toT : ∀ j, j < ops.size → listed.getD j false = true → listed.getD j true = true := fun j hj h => by
          rw [getD_list] at h ⊢
          have hin2 : j < listed.toList.length := by rw [Array.length_toList, hls]; omega
          rw [List.getElem?_eq_getElem hin2] at h ⊢
          exact h
        have hslots : ∀ t ∈ slots ops.toList o, Vc w' F' σ (get (envsOf env ops.toList As i) t) (a'.tmps.getD t undef) := fun t ht => by
          by_cases hex : ∃ (j : Nat) (o' : Oper), ops[j]? = some o' ∧ o'.dst = some t
          · obtain ⟨j, o', ho', hdo'⟩ := hex
            have hj : j < ops.size := (Array.getElem?_eq_some_iff.1 ho').1
            have honce : ∀ (j2 : Nat) o2, ops[j2]? = some o2 → o2.dst = some t → j2 = j := fun j2 o2 h3 h4 => (hO j o' ho').once t hdo' j2 o2 (by rw [Array.getElem?_toList]; exact h3) h4
            rcases hoi.defs t ht j o' (by rw [Array.getElem?_toList]; exact ho') hdo' with ⟨hji, e, hee, heon, heb⟩ | ⟨hij, hcase⟩
            · rw [hEd j o' t ho' hdo' i hji (by omega)]
              refine (i4 t).1 j o' ho' hdo' ?_
              have := g2 e hee heb
              rw [heon] at this
              exact toT j hj this
            · rw [hE0 t i (by omega) (fun j2 o2 h3 h4 => by rw [honce j2 o2 h3 h4]; exact hij)]
              refine (i4 t).2 fun j2 o2 h3 h4 => ?_
              have hj2 := honce j2 o2 h3 h4
              subst hj2
              rcases hcase with rfl | ⟨e, hee, heon, heb⟩
              · exact g1
              · cases hb : listed.getD j2 true with
                | false => rfl
                | true =>
                  have := ic j2 o' ho' hb e hee heb
                  rw [heon, g1] at this
                  cases this
          · rw [hE0 t i (by omega) (fun j2 o2 h3 h4 => absurd ⟨j2, o2, h3, h4⟩ hex)]
            exact (i4 t).2 fun j2 o2 h3 h4 => absurd ⟨j2, o2, h3, h4⟩ hex
        let σr : Pls := match took i with
          | some r => S r.idx
          | none => σ
        have hlive : ∀ r, took i = some r → Live listed r.idx r := fun r hr => by
          obtain ⟨g3, g4, o', g5, g6⟩ := hTook i r hr
          rw [ho] at g5
          cases g5
          obtain ⟨_, o2, g7, g8⟩ := hMade _ _ g4
          refine ⟨g4, ?_, fun k' hk' => by rw [hX.once k' i r r hk' hr rfl]; exact g1⟩
          rcases hoi.defs r.tmp (mem_app2.2 (.inl g6)) r.idx o2 (by rw [Array.getElem?_toList]; exact g7) g8 with ⟨hji, e, hee, heon, heb⟩ | ⟨hij, _⟩
          · have := g2 e hee heb
            rw [heon] at this
            exact toT _ (Array.getElem?_eq_some_iff.1 g7).1 this
          · omega
        have hσr : ∀ r, took i = some r → σr = S r.idx := fun r hr => by simp only [σr, hr]
        have hdoes := hD i o (by rw [Array.getElem?_toList]; exact ho) F' w' a' σr hmw hslots (fun r hr => by
          rw [hσr r hr]
          exact ⟨(i5 _ r (hlive r hr)).1, (i5 _ r (hlive r hr)).2.1⟩)
        have hy : ops.toList.toArray = ops := Array.toArray_toList
        rw [hy] at hdoes
        have hlist : listed.toList[i]? = some false := by
          rw [getD_list] at g1
          cases hb : listed.toList[i]? with
          | none => rw [hb] at g1; cases g1
          | some b => rw [hb] at g1; simp at g1; rw [g1]
        have next : ∀ (v : Value) (w2 : World), YieldV P σ σr F' w' (As i) (took i) (made i) v w2 → wpAnyIn (Fen ro) n P .any ops Q fuel (listed.setIfInBounds i true) (a'.put o.dst v) w2 := by
          rintro v w2 ⟨F2, hc, hv, hmk⟩
          have hBof : ∀ b, BOf (took i) σr b → ∃ r, took i = some r ∧ Owned (S r.idx) b := fun b hb => by
            cases ht : took i with
            | none => rw [ht] at hb; exact hb.elim
            | some r => rw [ht] at hb; rw [hσr r ht] at hb; exact ⟨r, rfl, hb⟩
          have hB0 : ∀ b, BOf (took i) σr b → w.heap.size ≤ b := fun b hb => by
            obtain ⟨r, hr, hb⟩ := hBof b hb
            exact (i5 _ r (hlive r hr)).2.2 b hb
          have hBF : ∀ b, BOf (took i) σr b → ¬ F' b := fun b hb => by
            obtain ⟨r, hr, hb⟩ := hBof b hb
            exact (owned_nf (i5 _ r (hlive r hr)).1 b hb).1
          have hg : Grew F w F2 w2 := hc.grew i3 hB0
          have hfz := hc.frozen hmw hBF
          have hset : ∀ j, j ≠ i → (listed.setIfInBounds i true).getD j true = listed.getD j true := fun j hne => by
            rw [getD_list, Array.toList_setIfInBounds, List.getElem?_set_ne (fun e => hne e.symm), ← getD_list]
          have hsetm : ∀ j, listed.getD j true = true → (listed.setIfInBounds i true).getD j true = true := fun j h => by
            by_cases e : j = i
            · subst e; rw [h] at g1; cases g1
            · rw [hset j e]; exact h
          have hseti : (listed.setIfInBounds i true).getD i true = true := by
            rw [getD_list, Array.toList_setIfInBounds, List.getElem?_set_self (by rw [Array.length_toList, hls]; exact hin)]
            rfl
          have hput : ∀ t, o.dst = some t → (a'.put o.dst v).tmps.getD t undef = v := fun t hdt => by
            have hdN := hdst i o t ho hdt
            rw [hdt]
            simp only [Act.put, Array.getD_eq_getD_getElem?]
            rw [Array.getElem?_setIfInBounds_self_of_lt (by rw [i1]; exact hdN)]
            rfl
          have hputn : ∀ t, o.dst ≠ some t → (a'.put o.dst v).tmps.getD t undef = a'.tmps.getD t undef := fun t hdt => by
            cases hdo : o.dst with
            | none => rfl
            | some d =>
              simp only [Act.put, Array.getD_eq_getD_getElem?]
              rw [Array.getElem?_setIfInBounds_ne (fun e => hdt (by rw [hdo, e]))]
          have hback : ∀ k r, k ≠ i → Live (listed.setIfInBounds i true) k r → Live listed k r ∧ took i ≠ some r := fun k r hne ⟨l1, l2, l3⟩ => by
            have hni : took i ≠ some r := fun e => by
              have := l3 i e
              rw [hseti] at this
              cases this
            refine ⟨⟨l1, by rw [← hset k hne]; exact l2, fun k' hk' => ?_⟩, hni⟩
            have hne' : k' ≠ i := fun e => hni (by rw [← e]; exact hk')
            rw [← hset k' hne']
            exact l3 k' hk'
          have hdisj : ∀ k r, k ≠ i → Live (listed.setIfInBounds i true) k r → ∀ b, BOf (took i) σr b → ¬ Owned (S k) b := fun k r hne hl b hb => by
            obtain ⟨r1, hr1, hb1⟩ := hBof b hb
            obtain ⟨hl', hni⟩ := hback k r hne hl
            refine i6 r1.idx r1 k r (hlive r1 hr1) hl' (fun e => hni ?_) b hb1
            have := (hlive r1 hr1).1
            rw [e, hl'.1] at this
            rw [hr1, this]
          obtain ⟨σ2, hσ2⟩ : ∃ σ2 : Pls, ∀ r, made i = some r → MemOk r.mem σ2 F2 w2 ∧ Vc w2 F2 σ2 r.val v ∧ ∀ b, Owned σ2 b → BOf (took i) σr b ∨ w'.heap.size ≤ b := by
            cases hmi : made i with
            | none => exact ⟨σ, fun r hr => by cases hr⟩
            | some r =>
              obtain ⟨σ2, q⟩ := hmk r hmi
              exact ⟨σ2, fun r' hr' => by cases hr'; exact q⟩
          let S2 : Nat → Pls := fun k => if k = i then σ2 else S k
          have hS2i : S2 i = σ2 := if_pos rfl
          have hS2n : ∀ k, k ≠ i → S2 k = S k := fun k h => if_neg h
          refine ih _ _ _ (by simp [hls]) ?_ ⟨by rw [put_size]; exact i1, by rw [put_defers]; exact i2, fun j o' ho' hj e he hb => ?_, F2, S2, hg, fun t => ?_, fun k r hl => ?_, fun k r k2 r2 hl hl2 hne b hb hb2 => ?_⟩
          · have := unl_set hlist
            rw [Array.toList_setIfInBounds]
            omega
          · by_cases hji : j = i
            · subst hji
              rw [ho] at ho'
              cases ho'
              have hlt := hoi.back e he hb
              exact hsetm _ (toT _ (by omega) (g2 e he hb))
            · rw [hset j hji] at hj
              exact hsetm _ (ic j o' ho' hj e he hb)
          · have mono : ∀ {A u}, Vc w' F' σ A u → Vc w2 F2 σ A u := fun h => h.mono hc.fro hfz (SLe.refl σ)
            by_cases hdt : o.dst = some t
            · rw [hput t hdt]
              refine ⟨fun j o' ho' hd' _ => ?_, fun hno => ?_⟩
              · have := hoi.once t hdt j o' (by rw [Array.getElem?_toList]; exact ho') hd'
                subst this
                exact hv
              · have := hno i o ho hdt
                rw [hseti] at this
                cases this
            · rw [hputn t hdt]
              have hne : ∀ (j : Nat) o', ops[j]? = some o' → o'.dst = some t → j ≠ i := fun j o' ho' hd' e => by
                subst e
                rw [ho] at ho'
                cases ho'
                exact hdt hd'
              refine ⟨fun j o' ho' hd' hj => ?_, fun hno => ?_⟩
              · rw [hset j (hne j o' ho' hd')] at hj
                exact mono ((i4 t).1 j o' ho' hd' hj)
              · exact mono ((i4 t).2 fun j o' ho' hd' => by
                  have := hno j o' ho' hd'
                  rwa [hset j (hne j o' ho' hd')] at this)
          · by_cases hk : k = i
            · subst hk
              obtain ⟨q1, q2, q3⟩ := hσ2 r hl.1
              obtain ⟨_, o2, q4, q5⟩ := hMade _ _ hl.1
              rw [ho] at q4
              cases q4
              rw [hS2i, hput _ q5]
              refine ⟨q1, q2, fun b hb => ?_⟩
              rcases q3 b hb with h | h
              · exact hB0 b h
              · exact Nat.le_trans i3.size h
            · obtain ⟨hl', hni⟩ := hback k r hk hl
              obtain ⟨q1, q2, q3⟩ := i5 k r hl'
              obtain ⟨_, o2, q4, q5⟩ := hMade _ _ hl'.1
              have hdt : o.dst ≠ some r.tmp := fun e => hk (hoi.once _ e k o2 (by rw [Array.getElem?_toList]; exact q4) q5)
              rw [hS2n k hk, hputn _ hdt]
              exact ⟨Chg.mem q1 hc (hdisj k r hk hl) hBF, q2.mono hc.fro hfz (SLe.refl _), q3⟩
          · by_cases hk : k = i
            · subst hk
              rw [hS2i] at hb
              rw [hS2n k2 (fun e => hne e.symm)] at hb2
              obtain ⟨hl2', _⟩ := hback k2 r2 (fun e => hne e.symm) hl2
              rcases (hσ2 r hl.1).2.2 b hb with h | h
              · exact hdisj k2 r2 (fun e => hne e.symm) hl2 b h hb2
              · have := (owned_nf (i5 k2 r2 hl2').1 b hb2).2
                omega
            · obtain ⟨hl', _⟩ := hback k r hk hl
              rw [hS2n k hk] at hb
              by_cases hk2 : k2 = i
              · subst hk2
                rw [hS2i] at hb2
                rcases (hσ2 r2 hl2.1).2.2 b hb2 with h | h
                · exact hdisj k r hk hl b h hb
                · have := (owned_nf (i5 k r hl').1 b hb).2
                  omega
              · obtain ⟨hl2', _⟩ := hback k2 r2 hk2 hl2
                rw [hS2n k2 hk2] at hb2
                exact i6 k r k2 r2 hl' hl2' hne b hb hb2
        unfold wpOpIn
        simp only [ho]
        cases hw : Region.wanted o (yielded ops a'.tmps) with
        | false =>
          simp only [Bool.false_eq_true, if_false]
          obtain ⟨t1, t2, t3⟩ := hdoes.2 hw
          exact ⟨fun _ _ => trivial, next _ _ ⟨F', (Grew.refl hmw.fl).chg, t3 _ _, fun r hr => by rw [t2] at hr; cases hr⟩⟩
        | true =>
          simp only [if_true]
          have h3 := hdoes.1 hw
          have hdef : ∀ c, o.op ≠ .defer c := fun c hc => by
            simp only [execOp, hc, Sem.run_bind] at h3
            cases hr : (resolve a'.eval c o.type).run P w' <;> simp [hr, Result.andThen, YieldX] at h3
          refine wpIn_at hdef ?_
          generalize (execOp a'.eval o).run P w' = r at h3
          cases r with
          | ok x w2 =>
            cases x <;> simp only [YieldX] at h3 <;> simp only [Oper.uponIn]
            case value u => exact next u w2 h3
            case skip => exact next undef w2 h3
            case enter f args =>
              obtain ⟨t1, t2, e1, hc⟩ := h3
              rw [e1]
              exact ⟨Fen_depth, callsFen.2 (hc.mono fun e w3 ⟨u, F3, he, k1, k2⟩ => by subst he; exact next u w3 ⟨F3, k1.chg, k2, fun r hr => by rw [t2] at hr; cases hr⟩)⟩
          | halt x w2 => simp only [YieldX] at h3
  have hrep : ∀ j, j < ops.size → (Array.replicate ops.size false).getD j true = false := fun j hj => by
    rw [getD_list, Array.toList_replicate, List.getElem?_replicate, if_pos hj]
    rfl
  refine wpIn_region_any h1 (main ops.size _ a _ (by simp) ?_ ⟨hN, rfl, fun j o ho hj => ?_, F, fun _ => σ, Grew.drew hm.fl, fun t => ⟨fun j o ho _ hj => ?_, fun _ => ?_⟩, fun k r hl => ?_, fun k r k2 r2 hl => ?_⟩)
  · have : ∀ k, unl (List.replicate k false) = k := fun k => by
      induction k with
      | zero => rfl
      | succ k ih => rw [List.replicate_succ, unl, ih]; simp; omega
    rw [Array.toList_replicate, this]
    exact Nat.le_refl _
  · rw [hrep j (Array.getElem?_eq_some_iff.1 ho).1] at hj
    cases hj
  · rw [hrep j (Array.getElem?_eq_some_iff.1 ho).1] at hj
    cases hj
  · exact Vc.mono (w := w) (w' := { w with drawn := w.drawn + 1 }) (fun _ h => h) (fun _ _ => rfl) (SLe.refl σ) (he t)
  · obtain ⟨_, o, ho, _⟩ := hMade k r hl.1
    have := hl.2.1
    rw [hrep k (Array.getElem?_eq_some_iff.1 ho).1] at this
    cases this
  · obtain ⟨_, o, ho, _⟩ := hMade k r hl.1
    have := hl.2.1
    rw [hrep k (Array.getElem?_eq_some_iff.1 ho).1] at this
    cases this
end
end Go.Ab
/-
  The engine, part AC: statements that leave their order open, and end in one operation that turns memory.
-/
namespace Go.Ab
set_option linter.unusedSimpArgs false
set_option linter.unusedVariables false
def anyEdge (i : Nat) : Nat → List Oper → Bool
  | _, [] => false
  | j, o :: r => (Nat.blt i j && edgeOn o.after.toList i) || anyEdge i (j + 1) r
def allLater (full : List Oper) : Nat → Bool
  | 0 => true
  | i + 1 => anyEdge i 0 full && allLater full i
def splitLast : List Oper → Option (List Oper × Oper)
  | [] => none
  | [o] => some ([], o)
  | o :: r => match splitLast r with
    | some (p, l) => some (o :: p, l)
    | none => none
def isCopy : Op → Bool
  | .call { callee := .builtin .copy, .. } => true
  | .store _ _ _ => true
  | _ => false
def lenO : List Oper → Nat
  | [] => 0
  | _ :: r => lenO r + 1
def noG : Option (Nat × Bool) → Bool
  | none => true
  | some _ => false
/-- Does the statement end in one operation that turns memory, behind all others? -/
def lastEff (full : List Oper) : Bool := match splitLast full with
  | some (pre, o) => isCopy o.op && (noG o.guard && allLater full (lenO pre))
  | none => false
noncomputable def vcL (P : Program) (T : Tab) (full : List Oper) (m : Mem) (env : Env) (K : Env → Mem → Prop) : Prop := match splitLast full with
  | some (pre, o) => vcR P T full m pre env fun env => Ev (vcOp P T o env m K)
  | none => False
theorem lenO_eq (l : List Oper) : lenO l = l.length := by
  induction l with
  | nil => rfl
  | cons o r ih => simp [lenO, ih]
theorem splitLast_is : ∀ {l pre : List Oper} {o : Oper}, splitLast l = some (pre, o) → l = pre ++ [o]
  | [], pre, o, h => by simp [splitLast] at h
  | [x], pre, o, h => by simp [splitLast] at h; obtain ⟨rfl, rfl⟩ := h; rfl
  | x :: y :: r, pre, o, h => by
    simp only [splitLast] at h
    split at h <;> try (cases h; done)
    rename_i p l hp
    simp only [Option.some.injEq, Prod.mk.injEq] at h
    obtain ⟨rfl, rfl⟩ := h
    rw [splitLast_is hp]
    rfl
theorem anyEdge_at {i : Nat} : ∀ {l : List Oper} {k : Nat}, anyEdge i k l = true → ∃ (j : Nat) (o : Oper), i < k + j ∧ l[j]? = some o ∧ ∃ e ∈ o.after, e.on = i ∧ Region.binds .any e = true
  | [], k, h => by simp [anyEdge] at h
  | x :: r, k, h => by
    simp only [anyEdge, Bool.or_eq_true, Bool.and_eq_true] at h
    rcases h with ⟨h1, h2⟩ | h
    · unfold edgeOn at h2
      obtain ⟨e, he, h⟩ := List.any_eq_true.1 h2
      simp only [Bool.and_eq_true] at h
      exact ⟨0, x, Nat.le_of_ble_eq_true h1, rfl, e, Array.mem_toList_iff.1 he, Nat.eq_of_beq_eq_true h.1, h.2⟩
    · obtain ⟨j, o, h1, h2, h3⟩ := anyEdge_at h
      exact ⟨j + 1, o, by omega, by simpa using h2, h3⟩
theorem allLater_at {full : List Oper} : ∀ {n : Nat}, allLater full n = true → ∀ i, i < n → ∃ (j : Nat) (o : Oper), i < j ∧ full[j]? = some o ∧ ∃ e ∈ o.after, e.on = i ∧ Region.binds .any e = true
  | 0, _, i, hi => by omega
  | n + 1, h, i, hi => by
    simp only [allLater, Bool.and_eq_true] at h
    by_cases e : i = n
    · subst e
      obtain ⟨j, o, h1, h2⟩ := anyEdge_at h.1
      exact ⟨j, o, by omega, h2⟩
    · exact allLater_at h.2 i (by omega)
theorem envsOf_pre (env : Env) (pre post : List Oper) (As : Nat → AV) : ∀ k, k ≤ pre.length → envsOf env (pre ++ post) As k = envsOf env pre As k
  | 0, _ => rfl
  | k + 1, h => by
    rw [envsOf, envsOf, List.getElem?_append_left (by omega), envsOf_pre env pre post As k (by omega)]
section
variable {P : Program} {T : Tab} {m : Mem} {σ : Pls}
variable {ro : Option Nat}
theorem drawn_last {id N : Nat} {ops : Array Oper} {F : Nat → Prop} {w : World} {a : Act} {env : Env} {K : Env → Mem → Prop} {Q : Exit → Act → World → Prop}
    (h1 : P.follows .mixedOrders = true) (h2 : okR ops.toList = true) (hT : TabOk P T) (hm : MemOk m σ F w) (hd : dstsIn N ops.toList = true) {pre : List Oper} {oL : Oper} (hsp : ops.toList = pre ++ [oL]) (hgL : oL.guard = none) (hlat : allLater ops.toList pre.length = true) (h : vcR P T ops.toList m pre env fun env => Ev (vcOp P T oL env m K)) (hN : a.tmps.size = N) (he : EnvOk env w F σ a.tmps)
    (hQ : ∀ env' m' a' w' σ' F', K env' m' → a'.tmps.size = N → a'.defers = a.defers → EnvOk env' w' F' σ' a'.tmps → MemOk m' σ' F' w' → Step σ F w σ' F' w' → SLe σ σ' → Q .normal a' w') : (Code.region id ops true).wpIn (Fen ro) 0 P Q a w := by
  obtain ⟨As, hK, hD0⟩ := vcR_ext (σ := σ) hT pre env h
  have hpl : ∀ (k : Nat) o, k < pre.length → ops[k]? = some o → pre[k]? = some o := fun k o hk ho => by
    rw [← Array.getElem?_toList, hsp, List.getElem?_append_left hk] at ho
    exact ho
  have hEp : ∀ k, k ≤ pre.length → envsOf env ops.toList As k = envsOf env pre As k := fun k hk => by
    rw [hsp]
    exact envsOf_pre env pre [oL] As k hk
  have hlen : ops.toList.length = pre.length + 1 := by rw [hsp]; simp
  have hLast : ops[pre.length]? = some oL := by rw [← Array.getElem?_toList, hsp]; simp
  have hD : ∀ (k : Nat) o, k < pre.length → ops[k]? = some o → DoesG P m σ ops.toList o (envsOf env ops.toList As k) (As k) := fun k o hk ho => by
    rw [hEp k (by omega)]
    exact hD0 k o (hpl k o hk ho)
  have hO : ∀ (i : Nat) o, ops[i]? = some o → OrdAt ops.toList i o := fun i o ho => by
    have := okFrom_at h2 i o (by rw [Array.getElem?_toList]; exact ho)
    rwa [Nat.zero_add] at this
  have hdst : ∀ (i : Nat) o d, ops[i]? = some o → o.dst = some d → d < N := by
    have : ∀ (l : List Oper), dstsIn N l = true → ∀ (i : Nat) o d, l[i]? = some o → o.dst = some d → d < N := by
      intro l
      induction l with
      | nil => intro _ i o d ho; simp at ho
      | cons x r ih =>
        intro hl i o d ho hdo
        simp only [dstsIn, Bool.and_eq_true] at hl
        cases i with
        | zero =>
          simp at ho
          subst ho
          have := hl.1
          rw [hdo] at this
          exact Nat.le_of_ble_eq_true this
        | succ i => exact ih hl.2 i o d (by simpa using ho) hdo
    exact fun i o d ho hdo => this ops.toList hd i o d (by rw [Array.getElem?_toList]; exact ho) hdo
  rw [← hEp pre.length (Nat.le_refl _)] at hK
  generalize hE : envsOf env ops.toList As pre.length = E at hK
  have hsize : ops.toList.length = ops.size := Array.length_toList
  have hEd : ∀ (i : Nat) o d, ops[i]? = some o → o.dst = some d → ∀ k, i < k → k ≤ ops.toList.length → get (envsOf env ops.toList As k) d = As i := by
    intro i o d ho hdo k hk hkn
    have hol : ops.toList[i]? = some o := by rw [Array.getElem?_toList]; exact ho
    rw [envs_stable (i := i + 1) k (by omega) (fun j o' h3 h4 ho' hd' => by
        have := (hO i o ho).once d hdo j o' ho' hd'
        omega)]
    rw [envsOf, hol]
    exact get_step_self hdo
  have hE0 : ∀ t k, k ≤ ops.toList.length → (∀ (j : Nat) o, ops[j]? = some o → o.dst = some t → k ≤ j) → get (envsOf env ops.toList As k) t = get env t := fun t k hk hno =>
    envs_stable (i := 0) k (Nat.zero_le _) (fun j o _ hj ho hdo => by
      rw [Array.getElem?_toList] at ho
      have := hno j o ho hdo
      omega)
  let Inv : Array Bool → Act → World → Prop := fun listed a' w' => listed.getD pre.length true = false ∧ a'.tmps.size = N ∧ a'.defers = a.defers ∧ (∀ (j : Nat) o, ops[j]? = some o → listed.getD j true = true → ∀ e ∈ o.after, Region.binds .any e = true → listed.getD e.on true = true) ∧
    ∃ F', Grew F w F' w' ∧ ∀ t, (∀ (j : Nat) o, ops[j]? = some o → o.dst = some t → listed.getD j true = true → Vc w' F' σ (As j) (a'.tmps.getD t undef)) ∧
      ((∀ (j : Nat) o, ops[j]? = some o → o.dst = some t → listed.getD j true = false) → Vc w' F' σ (get env t) (a'.tmps.getD t undef))
  have done : ∀ (fuel : Nat) (listed : Array Bool) (a' : Act) (w' : World), listed.size = ops.size → (∀ i, i < ops.size → listed.getD i true = true) → Q .normal a' w' → wpAnyIn (Fen ro) 0 P .any ops Q fuel listed a' w' := by
    intro fuel listed a' w' hls hall hq
    have hnil : Region.ready .any ops listed = [] := List.eq_nil_iff_forall_not_mem.2 fun i hi => by
      obtain ⟨g1, o, ho, _⟩ := mem_ready.1 hi
      rw [hall i (Array.getElem?_eq_some_iff.1 ho).1] at g1
      cases g1
    cases fuel with
    | zero => exact ⟨hnil, hq⟩
    | succ fuel => exact ⟨fun _ => hq, fun i hi => by rw [hnil] at hi; cases hi⟩
  have hLater : ∀ i, i < pre.length → ∃ j o, i < j ∧ ops[j]? = some o ∧ ∃ e ∈ o.after, e.on = i ∧ Region.binds .any e = true := fun i hi => by
    obtain ⟨j, o, h1, h2, h3⟩ := allLater_at hlat i hi
    exact ⟨j, o, h1, by rw [← Array.getElem?_toList]; exact h2, h3⟩
  have main : ∀ (fuel : Nat) (listed : Array Bool) (a' : Act) (w' : World), listed.size = ops.size → unl listed.toList ≤ fuel → Inv listed a' w' → wpAnyIn (Fen ro) 0 P .any ops Q fuel listed a' w' := by
    intro fuel
    induction fuel with
    | zero =>
      intro listed a' w' hls hun hI
      have hall : ∀ i, i < ops.size → listed.getD i true = true := fun i hi => by
        rw [getD_list]
        cases hb : listed.toList[i]? with
        | none => rfl
        | some b => exact unl_zero (by omega) i b hb
      have := hall pre.length (by omega)
      rw [hI.1] at this
      cases this
    | succ fuel ih =>
      intro listed a' w' hls hun hI
      refine ⟨fun hnil => ?_, fun i hi => ?_⟩
      · exfalso
        have hall : ∀ i, i < ops.size → listed.getD i true = true := by
          intro i
          induction i using Nat.strongRecOn with
          | _ i ihi =>
            intro hi
            cases hb : listed.getD i true with
            | true => rfl
            | false =>
              exfalso
              have ho : ops[i]? = some ops[i] := Array.getElem?_eq_getElem hi
              have : i ∈ Region.ready .any ops listed := mem_ready.2 ⟨hb, _, ho, fun e he hbe => by
                have hlt := (hO i _ ho).back e he hbe
                have := ihi e.on hlt (by omega)
                rw [getD_list] at this ⊢
                have hin : e.on < listed.toList.length := by rw [Array.length_toList, hls]; omega
                rw [List.getElem?_eq_getElem hin] at this ⊢
                exact this⟩
              rw [hnil] at this
              cases this
        have := hall pre.length (by omega)
        rw [hI.1] at this
        cases this
      · obtain ⟨g1, o, ho, g2⟩ := mem_ready.1 hi
        have hin : i < ops.size := (Array.getElem?_eq_some_iff.1 ho).1
        have hoi := hO i o ho
        obtain ⟨i0, i1, i2, ic, F', i3, i4⟩ := hI
        have hmw : MemOk m σ F' w' := i3.mem hm
        have toT : ∀ j, j < ops.size → listed.getD j false = true → listed.getD j true = true := fun j hj h => by
          rw [getD_list] at h ⊢
          have hin2 : j < listed.toList.length := by rw [Array.length_toList, hls]; omega
          rw [List.getElem?_eq_getElem hin2] at h ⊢
          exact h
        by_cases hiL : i = pre.length
        · subst hiL
          rw [hLast] at ho
          cases ho
          have hall : ∀ k, k < pre.length → listed.getD k true = true := by
            have : ∀ d k, k < pre.length → pre.length - k ≤ d → listed.getD k true = true := by
              intro d
              induction d with
              | zero => intro k hk hd; omega
              | succ d ihd =>
                intro k hk hd
                obtain ⟨j, o2, h3, h4, e, h5, h6, h7⟩ := hLater k hk
                have hj : j < ops.size := (Array.getElem?_eq_some_iff.1 h4).1
                by_cases hjL : j = pre.length
                · subst hjL
                  rw [hLast] at h4
                  cases h4
                  have := g2 e h5 h7
                  rw [h6] at this
                  exact toT k (by omega) this
                · have := ic j o2 h4 (ihd j (by omega) (by omega)) e h5 h7
                  rw [h6] at this
                  exact this
            exact fun k hk => this pre.length k hk (by omega)
          have he' : EnvOk E w' F' σ a'.tmps := fun t => by
            by_cases hex : ∃ (j : Nat) (o : Oper), j < pre.length ∧ ops[j]? = some o ∧ o.dst = some t
            · obtain ⟨j, o, hj, ho, hdo⟩ := hex
              rw [← hE, hEd j o t ho hdo _ hj (by omega)]
              exact (i4 t).1 j o ho hdo (hall j hj)
            · rw [← hE, hE0 t _ (by omega) (fun j o ho hdo => by
                rcases Nat.lt_or_ge j pre.length with h | h
                · exact absurd ⟨j, o, h, ho, hdo⟩ hex
                · exact h)]
              exact (i4 t).2 fun j o ho hdo => by
                rcases Nat.lt_or_ge j pre.length with h | h
                · exact absurd ⟨j, o, h, ho, hdo⟩ hex
                · have hj : j < ops.size := (Array.getElem?_eq_some_iff.1 ho).1
                  rw [show j = pre.length by omega]
                  exact i0
          have hw : Region.wanted oL (yielded ops a'.tmps) = true := by simp [Region.wanted, hgL]
          unfold wpOpIn
          simp only [hLast, hw, if_true]
          refine vcOp_ok hT hK.o (N := N) ?_ i1 he' hmw fun env' m' v w2 σ' F2 k1 k2 k3 k4 k5 => ?_
          · cases hdo : oL.dst with
            | none => rfl
            | some d => exact Nat.ble_eq_true_of_le (hdst _ _ d hLast hdo)
          refine done fuel _ _ _ (by simp [hls]) (fun k hk => ?_) (hQ env' m' _ w2 σ' F2 k1 (by rw [put_size]; exact i1) (by rw [put_defers]; exact i2) k2 k3 ((i3.step σ).trans k4) k5)
          by_cases hkL : k = pre.length
          · subst hkL
            rw [getD_list, Array.toList_setIfInBounds, List.getElem?_set_self (show pre.length < listed.toList.length by rw [show listed.toList.length = ops.size from Array.length_toList.trans hls]; exact hk)]
            rfl
          · rw [getD_list, Array.toList_setIfInBounds, List.getElem?_set_ne (fun e => hkL e.symm), ← getD_list]
            exact hall k (by omega)
        have hiP : i < pre.length := by omega
        have hslots : ∀ t ∈ slots ops.toList o, Vc w' F' σ (get (envsOf env ops.toList As i) t) (a'.tmps.getD t undef) := fun t ht => by
          by_cases hex : ∃ (j : Nat) (o' : Oper), ops[j]? = some o' ∧ o'.dst = some t
          · obtain ⟨j, o', ho', hdo'⟩ := hex
            have hj : j < ops.size := (Array.getElem?_eq_some_iff.1 ho').1
            have honce : ∀ (j2 : Nat) o2, ops[j2]? = some o2 → o2.dst = some t → j2 = j := fun j2 o2 h3 h4 => (hO j o' ho').once t hdo' j2 o2 (by rw [Array.getElem?_toList]; exact h3) h4
            rcases hoi.defs t ht j o' (by rw [Array.getElem?_toList]; exact ho') hdo' with ⟨hji, e, hee, heon, heb⟩ | ⟨hij, hcase⟩
            · rw [hEd j o' t ho' hdo' i hji (by omega)]
              refine (i4 t).1 j o' ho' hdo' ?_
              have := g2 e hee heb
              rw [heon] at this
              exact toT j hj this
            · rw [hE0 t i (by omega) (fun j2 o2 h3 h4 => by rw [honce j2 o2 h3 h4]; exact hij)]
              refine (i4 t).2 fun j2 o2 h3 h4 => ?_
              have hj2 := honce j2 o2 h3 h4
              subst hj2
              rcases hcase with rfl | ⟨e, hee, heon, heb⟩
              · exact g1
              · cases hb : listed.getD j2 true with
                | false => rfl
                | true =>
                  have := ic j2 o' ho' hb e hee heb
                  rw [heon, g1] at this
                  cases this
          · rw [hE0 t i (by omega) (fun j2 o2 h3 h4 => absurd ⟨j2, o2, h3, h4⟩ hex)]
            exact (i4 t).2 fun j2 o2 h3 h4 => absurd ⟨j2, o2, h3, h4⟩ hex
        have hdoes := hD i o hiP ho F' w' a' hmw hslots
        have hy : ops.toList.toArray = ops := Array.toArray_toList
        rw [hy] at hdoes
        have hlist : listed.toList[i]? = some false := by
          rw [getD_list] at g1
          cases hb : listed.toList[i]? with
          | none => rw [hb] at g1; cases g1
          | some b => rw [hb] at g1; simp at g1; rw [g1]
        have next : ∀ (v : Value) (w2 : World) (F2 : Nat → Prop), Grew F' w' F2 w2 → Vc w2 F2 σ (As i) v → wpAnyIn (Fen ro) 0 P .any ops Q fuel (listed.setIfInBounds i true) (a'.put o.dst v) w2 := by
          intro v w2 F2 hg hv
          have hset : ∀ j, j ≠ i → (listed.setIfInBounds i true).getD j true = listed.getD j true := fun j hne => by
            rw [getD_list, Array.toList_setIfInBounds, List.getElem?_set_ne (fun e => hne e.symm), ← getD_list]
          have hsetm : ∀ j, listed.getD j true = true → (listed.setIfInBounds i true).getD j true = true := fun j h => by
            by_cases e : j = i
            · subst e; rw [h] at g1; cases g1
            · rw [hset j e]; exact h
          have hseti : (listed.setIfInBounds i true).getD i true = true := by
            rw [getD_list, Array.toList_setIfInBounds, List.getElem?_set_self (by rw [Array.length_toList, hls]; exact hin)]
            rfl
          refine ih _ _ _ (by simp [hls]) ?_ ⟨by rw [hset _ (fun e => hiL e.symm)]; exact i0, by rw [put_size]; exact i1, by rw [put_defers]; exact i2, fun j o' ho' hj e he hb => ?_, F2, i3.trans hg, fun t => ?_⟩
          · have := unl_set hlist
            rw [Array.toList_setIfInBounds]
            omega
          · by_cases hji : j = i
            · subst hji
              rw [ho] at ho'
              cases ho'
              have hlt := hoi.back e he hb
              exact hsetm _ (toT _ (by omega) (g2 e he hb))
            · rw [hset j hji] at hj
              exact hsetm _ (ic j o' ho' hj e he hb)
          · have mono : ∀ {A u}, Vc w' F' σ A u → Vc w2 F2 σ A u := fun h => h.mono hg.fro (fun b hb => hg.keep b (i3.lt b hb)) (SLe.refl σ)
            by_cases hdt : o.dst = some t
            · have hdN := hdst i o t ho hdt
              have hval : (a'.put o.dst v).tmps.getD t undef = v := by
                rw [hdt]
                simp only [Act.put, Array.getD_eq_getD_getElem?]
                rw [Array.getElem?_setIfInBounds_self_of_lt (by rw [i1]; exact hdN)]
                rfl
              rw [hval]
              refine ⟨fun j o' ho' hd' _ => ?_, fun hno => ?_⟩
              · have := hoi.once t hdt j o' (by rw [Array.getElem?_toList]; exact ho') hd'
                subst this
                exact hv
              · have := hno i o ho hdt
                rw [hseti] at this
                cases this
            · have hval : (a'.put o.dst v).tmps.getD t undef = a'.tmps.getD t undef := by
                cases hdo : o.dst with
                | none => rfl
                | some d =>
                  simp only [Act.put, Array.getD_eq_getD_getElem?]
                  rw [Array.getElem?_setIfInBounds_ne (fun e => hdt (by rw [hdo, e]))]
              rw [hval]
              have hne : ∀ (j : Nat) o', ops[j]? = some o' → o'.dst = some t → j ≠ i := fun j o' ho' hd' e => by
                subst e
                rw [ho] at ho'
                cases ho'
                exact hdt hd'
              refine ⟨fun j o' ho' hd' hj => ?_, fun hno => ?_⟩
              · rw [hset j (hne j o' ho' hd')] at hj
                exact mono ((i4 t).1 j o' ho' hd' hj)
              · exact mono ((i4 t).2 fun j o' ho' hd' => by
                  have := hno j o' ho' hd'
                  rwa [hset j (hne j o' ho' hd')] at this)
        unfold wpOpIn
        simp only [ho]
        cases hw : Region.wanted o (yielded ops a'.tmps) with
        | false =>
          simp only [Bool.false_eq_true, if_false]
          exact ⟨fun _ _ => trivial, next _ _ _ (Grew.refl hmw.fl) (hdoes.2 hw _ _)⟩
        | true =>
          simp only [if_true]
          have h3 := hdoes.1 hw
          have hdef : ∀ c, o.op ≠ .defer c := fun c hc => by
            simp only [execOp, hc, Sem.run_bind] at h3
            cases hr : (resolve a'.eval c o.type).run P w' <;> simp [hr, Result.andThen, YieldR] at h3
          refine wpIn_at hdef ?_
          generalize (execOp a'.eval o).run P w' = r at h3
          cases r with
          | ok x w2 =>
            cases x <;> simp only [YieldR] at h3 <;> simp only [Oper.uponIn]
            case value u =>
              obtain ⟨F2, k1, k2⟩ := h3
              exact next u w2 F2 k1 k2
            case enter f args =>
              obtain ⟨e1, hc⟩ := h3
              rw [e1]
              exact ⟨Fen_depth, callsFen.2 (hc.mono fun e w3 ⟨u, F3, he, k1, k2⟩ => by subst he; exact next u w3 F3 k1 k2)⟩
          | halt x w2 => simp only [YieldR] at h3
  have hrep : ∀ j, j < ops.size → (Array.replicate ops.size false).getD j true = false := fun j hj => by
    rw [getD_list, Array.toList_replicate, List.getElem?_replicate, if_pos hj]
    rfl
  refine wpIn_region_any h1 (main ops.size _ a _ (by simp) ?_ ⟨hrep _ (by omega), hN, rfl, fun j o ho hj => ?_, F, Grew.drew hm.fl, fun t => ⟨fun j o ho _ hj => ?_, fun _ => ?_⟩⟩)
  · have : ∀ k, unl (List.replicate k false) = k := fun k => by
      induction k with
      | zero => rfl
      | succ k ih => rw [List.replicate_succ, unl, ih]; simp; omega
    rw [Array.toList_replicate, this]
    exact Nat.le_refl _
  · rw [hrep j (Array.getElem?_eq_some_iff.1 ho).1] at hj
    cases hj
  · rw [hrep j (Array.getElem?_eq_some_iff.1 ho).1] at hj
    cases hj
  · exact Vc.mono (w := w) (w' := { w with drawn := w.drawn + 1 }) (fun _ h => h) (fun _ _ => rfl) (SLe.refl σ) (he t)
end
end Go.Ab
/-
  The engine, part N: code; loops; what a state may be taken for.
-/
namespace Go.Ab
set_option linter.unusedSimpArgs false
set_option linter.unusedVariables false

/-- Between two parts of the code: either way serves. -/
inductive Sq (p q : Prop) : Prop where
  | go (h : p)
  | alt (h : q)
noncomputable def vc (P : Program) (T : Tab) (N : Nat) (c : Code) : Env → Mem → Post → Prop :=
  Code.rec (motive := fun _ => Env → Mem → Post → Prop)
    (fun env m Q => Q .normal env m)
    (fun _ ops draw env m Q => bif dstsIn N ops.toList then match draw with
      | false => vcOps P T ops.toList ops.toList env m fun env m => Ev (Q .normal env m)
      | true => Dr (P.follows .mixedOrders = true ∧ okR ops.toList = true) (Ev (bif hasChain ops.toList ops.toList then vcX P T ops.toList m ops.toList 0 env [] fun env => Ev (Q .normal env m) else bif lastEff ops.toList then vcL P T ops.toList m env fun env m => Ev (Q .normal env m) else vcR P T ops.toList m ops.toList env fun env => Ev (Q .normal env m)))
    else False)
    (fun _ y ihx ihy env m Q => ihx env m fun e env m => match e with
    | .normal => Sq (Ev (ihy env m Q)) (Awp P N y env m Q)
    | .exit i => Q (.exit i) env m
    | .goto i => Q (.goto i) env m
    | .ret => Q .ret env m
    | .panic ch => Q (.panic ch) env m
    | .outgrown => Q .outgrown env m)
    (fun c _ _ ihx ihy env m Q => match strip (ev env c) with
    | (C, l) => match C with
      | .d (.bool b) => obs l (Br b (Ev (ihx env m Q)) (Ev (ihy env m Q)))
      | _ => False)
    (fun id _ ihx env m Q => ihx env m fun e env m => match e with
    | .exit i => bif Nat.beq i id then Q .normal env m else Q (.exit i) env m
    | .normal => Q .normal env m
    | .goto i => Q (.goto i) env m
    | .ret => Q .ret env m
    | .panic ch => Q (.panic ch) env m
    | .outgrown => Q .outgrown env m)
    (fun c _ env m Q => Awp P N (.loop c) env m Q)
    (fun f ps a c _ _ env m Q => Awp P N (.rangeFunc f ps a c) env m Q)
    (fun id env m Q => Q (.exit id) env m)
    (fun _ ihx env m Q => ihx env m fun e env m => match e with
    | .normal => Q .normal env m
    | .exit i => Q (.exit i) env m
    | .goto _ => False
    | .ret => Q .ret env m
    | .panic ch => Q (.panic ch) env m
    | .outgrown => Q .outgrown env m)
    (fun _ env m Q => Q .normal env m)
    (fun _ _ _ _ => False)
    (fun env m Q => Q .ret env m)
    (fun _ _ _ _ => False) c
theorem vc_region (P : Program) (T : Tab) (N id : Nat) (ops : Array Oper) (draw : Bool) (env : Env) (m : Mem) (Q : Post) : vc P T N (.region id ops draw) env m Q = bif dstsIn N ops.toList then match draw with
      | false => vcOps P T ops.toList ops.toList env m fun env m => Ev (Q .normal env m)
      | true => Dr (P.follows .mixedOrders = true ∧ okR ops.toList = true) (Ev (bif hasChain ops.toList ops.toList then vcX P T ops.toList m ops.toList 0 env [] fun env => Ev (Q .normal env m) else bif lastEff ops.toList then vcL P T ops.toList m env fun env m => Ev (Q .normal env m) else vcR P T ops.toList m ops.toList env fun env => Ev (Q .normal env m)))
    else False := rfl
theorem vc_cond (P : Program) (T : Tab) (N : Nat) (c : Operand) (x y : Code) (env : Env) (m : Mem) (Q : Post) : vc P T N (.cond c x y) env m Q = match strip (ev env c) with
    | (C, l) => match C with
      | .d (.bool b) => obs l (Br b (Ev (vc P T N x env m Q)) (Ev (vc P T N y env m Q)))
      | _ => False := rfl

section sound
variable {P : Program} {T : Tab}

theorem lift_trans {N : Nat} {Q : Post} {ro : Option Nat} {lo : Nat} {σ σ' : Pls} {F F' : Nat → Prop} {w w' : World} (hs : Step σ F w σ' F' w') (ha : SArg σ σ') {e : Exit} {a : Act} {w2 : World} (h : lift N Q ro lo σ' F' w' e a w2) : lift N Q ro lo σ F w e a w2 := by
  obtain ⟨env, m, σ2, F2, h1, h2, h3, h4, h5, h6, h7⟩ := h
  exact ⟨env, m, σ2, F2, h1, h2, h3, h4, h5, hs.trans h6, ha.trans h7⟩

theorem stepR_scope {P : Program} {b : Frame} {a : Act} {k : List Item} {cs : List Frame} {w : World} {c : Code} : step P (lone (b.atR a (.code (.scope c) :: k)) cs w) = .next (lone (b.atR a (.code c :: .inScope c :: k)) cs w) :=
  step_lone_go (by simp [stepG, stepG.exec, Frame.atR])
theorem stepR_inScope {P : Program} {b : Frame} {a : Act} {k : List Item} {cs : List Frame} {w : World} {c : Code} : step P (lone (b.atR a (.inScope c :: k)) cs w) = .next (lone (b.atR a k) cs w) :=
  step_lone_go (by simp [stepG, stepG.exec, Frame.atR])
theorem wpIn_scope_straight {F : Fence} {n : Nat} {P : Program} {Q : Exit → Act → World → Prop} {a : Act} {w : World} {c : Code} (h : c.wpIn F n P (fun e a w => (∀ l, e ≠ .goto l) ∧ Q e a w) a w) : (Code.scope c).wpIn F n P Q a w := by
  intro b k cs hro hb hr
  obtain ⟨e, a1, w1, ⟨hg, hq⟩, harr⟩ := h b (.inScope c :: k) cs hro hb hr
  have h0 : (lone (b.atR a (.code (.scope c) :: k)) cs w).fenced P F := fenced_calm hb hr rfl
  cases e with
  | normal => exact ⟨.normal, a1, w1, hq, .head h0 stepR_scope (StepsIn.trans harr (.one (fenced_calm hb hr rfl) stepR_inScope))⟩
  | exit id => exact ⟨.exit id, a1, w1, hq, .of_steps (.one h0 stepR_scope) ⟨fun k' hk => harr.1 k' (by simp [exitTo, hk]), fun hr' hk => harr.2 hr' (by simp [exitTo, hk])⟩⟩
  | goto l => exact absurd rfl (hg l)
  | ret => exact ⟨_, a1, w1, hq, .of_steps (.one h0 stepR_scope) harr⟩
  | panic ch => exact ⟨_, a1, w1, hq, .of_steps (.one h0 stepR_scope) harr⟩
  | outgrown => exact ⟨_, a1, w1, hq, .of_steps (.one h0 stepR_scope) harr⟩
theorem vc_ok (hT : TabOk P T) {N : Nat} : ∀ (c : Code) (env : Env) (m : Mem) (Q : Post), vc P T N c env m Q → Awp P N c env m Q
  | .skip, env, m, Q, h => ⟨fun ro lo a w σ F hN hD he hm => wpIn_skip ⟨env, m, σ, F, h, hN, hD, he, hm, Step.refl σ F w, SArg.refl σ⟩⟩
  | .region id ops draw, env, m, Q, h => ⟨fun ro lo a w σ F hN hD he hm => by
    rw [vc_region] at h
    cases hd : dstsIn N ops.toList with
    | false => rw [hd] at h; cases h
    | true =>
      rw [hd] at h
      simp only [cond_true] at h
      cases draw with
      | false =>
        refine wpIn_region_list (vcOps_ok hT (full := ops.toList) (by simp) ops.toList env m hd h a w F σ hN he hm ?_)
        intro env' m' a' w' σ' F' k1 k2 k3 k4 k5 k6 k7
        exact ⟨env', m', σ', F', k1.o, k2, by rw [k3]; exact hD.step k6, k4, k5, k6, .of k7⟩
      | true =>
        obtain ⟨⟨h1, h2⟩, ⟨h3⟩⟩ := h
        cases hch : hasChain ops.toList ops.toList with
        | true =>
          rw [hch] at h3
          simp only [cond_true, cond_false] at h3
          refine drawn_regionX h1 h2 hT hm hd h3 hN he fun env' a' w' F' hk hN' hD' hg he' => ?_
          exact ⟨env', m, σ, F', hk.o, hN', by rw [hD']; exact hD.step (hg.step σ), he', hg.mem hm, hg.step σ, SArg.refl σ⟩
        | false =>
          rw [hch] at h3
          simp only [cond_true, cond_false] at h3
          cases hle : lastEff ops.toList with
          | true =>
            rw [hle] at h3
            simp only [cond_true] at h3
            unfold vcL at h3
            unfold lastEff at hle
            cases hsp : splitLast ops.toList with
            | none => rw [hsp] at h3; exact h3.elim
            | some q =>
              obtain ⟨pre, oL⟩ := q
              rw [hsp] at h3 hle
              simp only [Bool.and_eq_true] at h3 hle
              rw [lenO_eq] at hle
              have hgL : oL.guard = none := by
                cases hg : oL.guard with
                | none => rfl
                | some g => rw [hg] at hle; exact absurd hle.2.1 (by simp [noG])
              refine drawn_last h1 h2 hT hm hd (splitLast_is hsp) hgL hle.2.2 h3 hN he fun env' m' a' w' σ' F' hk hN' hD' he' hm' hst hsl => ?_
              exact ⟨env', m', σ', F', hk.o, hN', by rw [hD']; exact hD.step hst, he', hm', hst, .of hsl⟩
          | false =>
          rw [hle] at h3
          simp only [cond_false] at h3
          refine drawn_region h1 h2 hT hm hd h3 hN he fun env' a' w' F' hk hN' hD' hg he' => ?_
          exact ⟨env', m, σ, F', hk.o, hN', by rw [hD']; exact hD.step (hg.step σ), he', hg.mem hm, hg.step σ, SArg.refl σ⟩⟩
  | .seq x y, env, m, Q, h => ⟨fun ro lo a w σ F hN hD he hm => by
    refine wpIn_seq (wpIn_mono ((vc_ok hT x env m _ h).run ro lo a w σ F hN hD he hm) ?_)
    rintro e a1 w1 ⟨env1, m1, σ1, F1, k1, k2, k3, k4, k5, k6, k7⟩
    cases e with
    | normal =>
      have k1 : Sq (Ev (vc P T N y env1 m1 Q)) (Awp P N y env1 m1 Q) := k1
      have hy : Awp P N y env1 m1 Q := match k1 with
        | .go h => vc_ok hT y env1 m1 Q h.o
        | .alt h => h
      exact wpIn_mono (hy.run ro lo a1 w1 σ1 F1 k2 k3 k4 k5) fun e a2 w2 h2 => lift_trans k6 k7 h2
    | _ => exact ⟨env1, m1, σ1, F1, k1, k2, k3, k4, k5, k6, k7⟩⟩
  | .cond c x y, env, m, Q, h => ⟨fun ro lo a w σ F hN hD he hm => by
    rw [vc_cond] at h
    split at h
    rename_i C l hb
    split at h <;> try (cases h; done)
    obtain ⟨hl, h⟩ := obs_ok h
    have hv := strip_ok (ev_ok he c) (by rw [hb]; exact hl)
    rw [hb] at hv
    refine wpIn_cond_split hv.bool (fun e => ?_) (fun e => ?_)
    · exact (vc_ok hT x env m Q (h.t e).o).run ro lo a w σ F hN hD he hm
    · exact (vc_ok hT y env m Q (h.f e).o).run ro lo a w σ F hN hD he hm⟩
  | .block id c, env, m, Q, h => ⟨fun ro lo a w σ F hN hD he hm => by
    refine wpIn_block (wpIn_mono ((vc_ok hT c env m _ h).run ro lo a w σ F hN hD he hm) ?_)
    rintro e a1 w1 ⟨env1, m1, σ1, F1, k1, k2⟩
    cases e with
    | exit i =>
      simp only [Exit.inBlock]
      cases hi : Nat.beq i id with
      | true =>
        have := Nat.eq_of_beq_eq_true hi
        subst this
        simp only [if_true]
        simp only [hi, cond_true] at k1
        exact ⟨env1, m1, σ1, F1, k1, k2⟩
      | false =>
        rw [if_neg (Nat.ne_of_beq_eq_false hi)]
        simp only [hi, cond_false] at k1
        exact ⟨env1, m1, σ1, F1, k1, k2⟩
    | _ => exact ⟨env1, m1, σ1, F1, k1, k2⟩⟩
  | .loop c, env, m, Q, h => h
  | .exit id, env, m, Q, h => ⟨fun ro lo a w σ F hN hD he hm => wpIn_exit ⟨env, m, σ, F, h, hN, hD, he, hm, Step.refl σ F w, SArg.refl σ⟩⟩
  | .ret, env, m, Q, h => ⟨fun ro lo a w σ F hN hD he hm => wpIn_ret ⟨env, m, σ, F, h, hN, hD, he, hm, Step.refl σ F w, SArg.refl σ⟩⟩
  | .rangeFunc .., env, m, Q, h => h
  | .scope c, env, m, Q, h => ⟨fun ro lo a w σ F hN hD he hm => by
    refine wpIn_scope_straight (wpIn_mono ((vc_ok hT c env m _ h).run ro lo a w σ F hN hD he hm) ?_)
    rintro e a1 w1 ⟨env1, m1, σ1, F1, k1, k2⟩
    cases e with
    | goto l => exact k1.elim
    | _ => exact ⟨(fun l h => Exit.noConfusion h), env1, m1, σ1, F1, k1, k2⟩⟩
  | .label l, env, m, Q, h => ⟨fun ro lo a w σ F hN hD he hm => wpIn_label ⟨env, m, σ, F, h, hN, hD, he, hm, Step.refl σ F w, SArg.refl σ⟩⟩
  | .goto _, _, _, _, h => by cases h
  | .refuse _, _, _, _, h => by cases h
end sound
end Go.Ab
/-
  The engine, part O: loops, and functions that only compute.
-/
namespace Go.Ab
set_option linter.unusedSimpArgs false
set_option linter.unusedVariables false

/-! ### what a state may be taken for -/
def refIn (nl na : Nat) : Ref → Bool
  | .loc j => Nat.blt j nl
  | .arg j => Nat.blt j na
  | .bad => false
def avIn0 (nl na : Nat) : AV → Bool
  | .d _ => true
  | .ptr r _ _ _ => refIn nl na r
  | .osl r _ _ _ => refIn nl na r
  | .mp r => refIn nl na r
  | .junk => true
  | _ => false
def allIn0 (nl na : Nat) : List AV → Bool
  | [] => true
  | A :: r => avIn0 nl na A && allIn0 nl na r
def avIn (nl na : Nat) : AV → Bool
  | .fn _ xs ys => allIn0 nl na xs && allIn0 nl na ys
  | .agg cs => allIn0 nl na cs
  | A => avIn0 nl na A
def allIn (nl na : Nat) : List AV → Bool
  | [] => true
  | A :: r => avIn nl na A && allIn nl na r
def LeEnv (nl na : Nat) (env : Env) : Env → Prop
  | [] => True
  | (t, A) :: r => (get env t = A ∧ avIn nl na A = true) ∧ LeEnv nl na env r
def BlkLe (nl na : Nat) : Blk → Blk → Prop
  | .box e cs, .box e' cs' => e = e' ∧ cs = cs' ∧ allIn nl na cs' = true
  | .vec e sz g n f, .vec e' sz' g' n' f' => e = e' ∧ sz = sz' ∧ g = g' ∧ n' ≤ n ∧ ∀ i, i < n' → f i = f' i ∧ allIn nl na (f' i) = true
  | .loop b r env, .loop b' r' env' => b = b' ∧ r = r' ∧ env = env' ∧ allIn nl na (env'.map (·.2)) = true
  | .map sh has val, .map sh' has' val' => sh = sh' ∧ ∀ k, sh.fits k → has k = has' k ∧ (has k = true → val k = val' k ∧ avIn nl na (val' k) = true)
  | .room e sz g n c f, .vec e' sz' g' n' f' => e = e' ∧ sz = sz' ∧ g = g' ∧ n' ≤ n ∧ ∀ i, i < n' → f i = f' i ∧ allIn nl na (f' i) = true
  | .room e sz g n c f, .room e' sz' g' n' c' f' => c = c' ∧ e = e' ∧ sz = sz' ∧ g = g' ∧ n' ≤ n ∧ ∀ i, i < n' → f i = f' i ∧ allIn nl na (f' i) = true
  | .iter sh has val left cur, .iter sh' has' val' left' cur' => sh = sh' ∧ has = has' ∧ val = val' ∧ left = left' ∧ cur = cur'
  | _, _ => False
def LeL (nl na : Nat) : List (Option Blk) → List (Option Blk) → Prop
  | _, [] => True
  | [], _ :: _ => False
  | b :: r, b' :: s => (match b' with
    | none => True
    | some B' => match b with
      | some B => BlkLe nl na B B'
      | none => False) ∧ LeL nl na r s
def Le (env : Env) (m : Mem) (env' : Env) (m' : Mem) : Prop :=
  LeEnv (lenL m'.loc) (lenL m'.own) env env' ∧ LeL (lenL m'.loc) (lenL m'.own) m.loc m'.loc ∧ (lenL m.own = lenL m'.own ∧ LeL (lenL m'.loc) (lenL m'.own) m.own m'.own)

section
variable {w : World} {F : Nat → Prop} {σ σ' : Pls} {nl na : Nat}
theorem allIn_up (l : List D) : allIn nl na (up l) = true := by
  induction l with
  | nil => rfl
  | cons x r ih => simp [up, allIn, avIn, avIn0, ih]
theorem allIn_mem : ∀ {l : List AV}, allIn nl na l = true → ∀ A ∈ l, avIn nl na A = true
  | [], _ => fun A h => by simp at h
  | x :: r, h => fun A hA => by
    simp only [allIn, Bool.and_eq_true] at h
    rcases List.mem_cons.1 hA with rfl | hA
    · exact h.1
    · exact allIn_mem h.2 A hA
theorem Vc.restrict0 {A : AV} {v : Value} (h : Vc w F σ A v) (hin : avIn0 nl na A = true) (hs : ∀ r q, refIn nl na r = true → σ r = some q → ∃ q', σ' r = some q' ∧ QLe q q') : Vc w F σ' A v := by
  cases h with
  | d h => exact .d h
  | ptr hr h =>
    obtain ⟨q', hq, hle⟩ := hs _ _ hin hr
    refine .ptr hq fun pl' e => ?_
    obtain ⟨pl, e1, e2, e3⟩ := hle pl' e
    obtain ⟨h1, h2⟩ := h pl e1
    refine ⟨by omega, fun e4 => ?_⟩
    have h5 : pl'.g = pl.g := by omega
    rw [e3 h5]; exact h2 (by omega)
  | osl hr h =>
    obtain ⟨q', hq, hle⟩ := hs _ _ hin hr
    refine .osl hq fun pl' e => ?_
    obtain ⟨pl, e1, e2, e3⟩ := hle pl' e
    obtain ⟨h1, h2⟩ := h pl e1
    refine ⟨by omega, fun e4 => ?_⟩
    have h5 : pl'.g = pl.g := by omega
    rw [e3 h5]; exact h2 (by omega)
  | mp hr h =>
    obtain ⟨q', hq, hle⟩ := hs _ _ hin hr
    refine .mp hq fun pl' e e0 => ?_
    obtain ⟨pl, e1, e2, e3⟩ := hle pl' e
    rw [e3 (by omega)]
    exact h pl e1 (by omega)
  | junk => exact .junk
  | _ => simp [avIn0] at hin
theorem allIn0_at : ∀ {l : List AV}, allIn0 nl na l = true → ∀ (j : Nat) A, l[j]? = some A → avIn0 nl na A = true
  | [], _, j, A, h => by simp at h
  | x :: r, h, j, A, hA => by
    simp only [allIn0, Bool.and_eq_true] at h
    cases j with
    | zero => simp at hA; subst hA; exact h.1
    | succ j => exact allIn0_at h.2 j A (by simpa using hA)
theorem Vc.restrict {A : AV} {v : Value} (h : Vc w F σ A v) (hin : avIn nl na A = true) (hs : ∀ r q, refIn nl na r = true → σ r = some q → ∃ q', σ' r = some q' ∧ QLe q q') : Vc w F σ' A v := by
  by_cases hfn : ∃ f xs ys, A = .fn f xs ys
  · obtain ⟨f, xs, ys, rfl⟩ := hfn
    simp only [avIn, Bool.and_eq_true] at hin
    cases h with
    | fn h1 h2 h3 h4 => exact .fn h1 h2 (fun j x u hx hu => (h3 j x u hx hu).restrict0 (allIn0_at hin.1 j x hx) hs) (fun j x u hx hu => (h4 j x u hx hu).restrict0 (allIn0_at hin.2 j x hx) hs)
  · by_cases hag : ∃ cs, A = .agg cs
    · obtain ⟨cs, rfl⟩ := hag
      simp only [avIn] at hin
      cases h with
      | agg h1 h2 => exact .agg h1 fun j x u hx hu => (h2 j x u hx hu).restrict0 (allIn0_at hin j x hx) hs
    · refine h.restrict0 ?_ hs
      cases A <;> first | exact hin | exact absurd ⟨_, _, _, rfl⟩ hfn | exact absurd ⟨_, rfl⟩ hag
theorem VecOk.restrict {e sz g n n' : Nat} {f f' : Nat → List AV} {pl : Pl} (h : VecOk w F σ e sz g n f pl) (hnn : n' ≤ n) (hf : ∀ i, i < n' → f i = f' i ∧ allIn nl na (f' i) = true) (hs : ∀ r q, refIn nl na r = true → σ r = some q → ∃ q', σ' r = some q' ∧ QLe q q') : VecOk w F σ' e sz g n' f' pl := by
  obtain ⟨h1, h2, h3, h4, h5⟩ := h
  refine ⟨h1, h2, fun h => by have := h3 h; omega, fun i hi => by rw [← (hf i hi).1]; exact h4 i (by omega), fun b tot hl => ?_⟩
  obtain ⟨h6, h7, us, h8, h9, h10⟩ := h5 b tot hl
  refine ⟨by omega, h7, us, h8, h9, fun i j A hi hA => ?_⟩
  obtain ⟨u, hu, hv, h1⟩ := h10 i j A (by omega) (by rw [(hf i hi).1]; exact hA)
  exact ⟨u, hu, hv.restrict (allIn_mem (hf i hi).2 A (List.mem_of_getElem? hA)) hs, h1⟩
theorem BlkOk.restrict {B B' : Blk} {pl : Pl} (h : BlkOk w F σ B pl) (hle : BlkLe nl na B B') (hs : ∀ r q, refIn nl na r = true → σ r = some q → ∃ q', σ' r = some q' ∧ QLe q q') : BlkOk w F σ' B' pl := by
  cases B with
  | box e cs =>
    cases B' with
    | box e' cs' =>
      obtain ⟨rfl, rfl, hin⟩ := hle
      obtain ⟨h1, h2, b, h3, us, h4, h5, h6⟩ := h
      exact ⟨h1, h2, b, h3, us, h4, h5, fun j A u hA hu => ⟨(h6 j A u hA hu).1.restrict (allIn_mem hin A (List.mem_of_getElem? hA)) hs, (h6 j A u hA hu).2⟩⟩
    | vec => exact hle.elim
    | loop => exact hle.elim
    | map => exact hle.elim
    | room => exact hle.elim
    | ent => exact hle.elim
    | opq => exact hle.elim
    | iter => exact hle.elim
    | look => exact hle.elim
  | vec e sz g n f =>
    cases B' with
    | box => exact hle.elim
    | loop => exact hle.elim
    | map => exact hle.elim
    | room => exact hle.elim
    | ent => exact hle.elim
    | opq => exact hle.elim
    | iter => exact hle.elim
    | look => exact hle.elim
    | vec e' sz' g' n' f' =>
      obtain ⟨rfl, rfl, rfl, hnn, hf⟩ := hle
      obtain ⟨h1, h2, h3, h4, h5⟩ := h
      refine ⟨h1, h2, fun h => by have := h3 h; omega, fun i hi => by rw [← (hf i hi).1]; exact h4 i (by omega), fun b tot hl => ?_⟩
      obtain ⟨h6, h7, us, h8, h9, h10⟩ := h5 b tot hl
      refine ⟨by omega, h7, us, h8, h9, fun i j A hi hA => ?_⟩
      obtain ⟨u, hu, hv, h1⟩ := h10 i j A (by omega) (by rw [(hf i hi).1]; exact hA)
      exact ⟨u, hu, hv.restrict (allIn_mem (hf i hi).2 A (List.mem_of_getElem? hA)) hs, h1⟩
  | loop b r env =>
    cases B' with
    | box => exact hle.elim
    | vec => exact hle.elim
    | map => exact hle.elim
    | room => exact hle.elim
    | ent => exact hle.elim
    | opq => exact hle.elim
    | iter => exact hle.elim
    | look => exact hle.elim
    | loop b' r' env' =>
      obtain ⟨rfl, rfl, rfl, hin⟩ := hle
      obtain ⟨h1, h2, h3, h4⟩ := h
      exact ⟨h1, h2, h3, fun j t A hj => (h4 j t A hj).restrict (allIn_mem hin A (List.mem_map.2 ⟨(t, A), List.mem_of_getElem? hj, rfl⟩)) hs⟩
  | map sh has val =>
    cases B' with
    | box => exact hle.elim
    | vec => exact hle.elim
    | loop => exact hle.elim
    | room => exact hle.elim
    | ent => exact hle.elim
    | opq => exact hle.elim
    | iter => exact hle.elim
    | look => exact hle.elim
    | map sh' has' val' =>
      obtain ⟨rfl, hle⟩ := hle
      obtain ⟨h1, b, h2, es, clock, ks, h3, h4, h5, h6, h7⟩ := h
      refine ⟨h1, b, h2, es, clock, ks, h3, h4, h5, fun i k e hi he => ?_, ⟨fun k hk hh => h7.1 k hk ((hle k hk).1.trans hh), h7.2⟩⟩
      obtain ⟨g1, g2, g3, g4⟩ := h6 i k e hi he
      obtain ⟨e1, e2⟩ := hle k g1
      obtain ⟨e2, e3⟩ := e2 g3
      refine ⟨g1, g2, by rw [← e1]; exact g3, ?_⟩
      rw [← e2]
      exact g4.restrict (by rw [e2]; exact e3) hs
  | ent => cases B' <;> exact hle.elim
  | opq => cases B' <;> exact hle.elim
  | look => cases B' <;> exact hle.elim
  | iter sh has val left cur =>
    cases B' with
    | iter sh' has' val' left' cur' =>
      obtain ⟨rfl, rfl, rfl, rfl, rfl⟩ := hle
      exact h
    | _ => exact hle.elim
  | room e sz g n c f =>
    cases B' with
    | ent => exact hle.elim
    | opq => exact hle.elim
    | iter => exact hle.elim
    | look => exact hle.elim
    | box => exact hle.elim
    | loop => exact hle.elim
    | map => exact hle.elim
    | vec e' sz' g' n' f' =>
      obtain ⟨rfl, rfl, rfl, hnn, hf⟩ := hle
      exact VecOk.restrict h.1 hnn hf hs
    | room e' sz' g' n' c' f' =>
      obtain ⟨rfl, rfl, rfl, rfl, hnn, hf⟩ := hle
      exact ⟨VecOk.restrict h.1 hnn hf hs, h.2⟩
theorem LeL_at : ∀ {l l' : List (Option Blk)}, LeL nl na l l' → ∀ (j : Nat) b', l'[j]? = some b' → ∃ b, l[j]? = some b ∧ ∀ B', b' = some B' → ∃ B, b = some B ∧ BlkLe nl na B B'
  | _, [], _, j, b', h => by simp at h
  | [], _ :: _, h, _, _, _ => h.elim
  | b :: r, b0 :: s, h, j, b', hj => by
    obtain ⟨h1, h2⟩ := h
    cases j with
    | zero =>
      simp at hj
      subst hj
      refine ⟨b, rfl, fun B' e => ?_⟩
      subst e
      simp only at h1
      split at h1
      · exact ⟨_, rfl, h1⟩
      · exact h1.elim
    | succ j => simpa using LeL_at h2 j b' (by simpa using hj)
theorem le_ok {env env' : Env} {m m' : Mem} {tmps : Array Value} (h : Le env m env' m') (he : EnvOk env w F σ tmps) (hm : MemOk m σ F w) :
    ∃ σ', EnvOk env' w F σ' tmps ∧ MemOk m' σ' F w ∧ Step σ F w σ' F w ∧ SArg σ σ' := by
  obtain ⟨h1, h2, h3, h4⟩ := h
  let σ0 : Pls := fun r => match m'.at r with
    | none => none
    | some none => some none
    | some (some _) => σ r
  have hat : ∀ r b', m'.at r = some b' → ∃ b, m.at r = some b ∧ ∀ B', b' = some B' → ∃ B, b = some B ∧ BlkLe (lenL m'.loc) (lenL m'.own) B B' := by
    intro r b' hr
    cases r with
    | loc j => exact LeL_at h2 j b' hr
    | arg j => exact LeL_at h4 j b' hr
    | bad => cases hr
  have hlive : ∀ r B', m'.at r = some (some B') → ∃ pl B, σ r = some (some pl) ∧ σ0 r = some (some pl) ∧ m.at r = some (some B) ∧ BlkLe (lenL m'.loc) (lenL m'.own) B B' ∧ BlkOk w F σ B pl := by
    intro r B' hr
    obtain ⟨b, hb, hB⟩ := hat r _ hr
    obtain ⟨B, rfl, hle⟩ := hB B' rfl
    cases hs : σ r with
    | none => rw [(hm.dom r).1 hs] at hb; cases hb
    | some q =>
      cases q with
      | none => rw [(hm.lv r _ hs).1 rfl] at hb; cases hb
      | some pl =>
        obtain ⟨B1, hB1, hok⟩ := (hm.lv r _ hs).2 pl rfl
        rw [hb] at hB1
        injection hB1 with hB1
        injection hB1 with hB1
        subst hB1
        exact ⟨pl, B, rfl, by simp only [σ0, hr, hs], hb, hle, hok⟩
  have hin : ∀ r, refIn (lenL m'.loc) (lenL m'.own) r = true → ∃ b', m'.at r = some b' := by
    intro r hr
    cases r with
    | loc j =>
      have : j < m'.loc.length := by rw [← lenL_eq]; exact Nat.le_of_ble_eq_true hr
      exact ⟨_, List.getElem?_eq_getElem this⟩
    | arg j =>
      have : j < m'.own.length := by rw [← lenL_eq]; exact Nat.le_of_ble_eq_true hr
      exact ⟨_, List.getElem?_eq_getElem this⟩
    | bad => cases hr
  have hs : ∀ r q, refIn (lenL m'.loc) (lenL m'.own) r = true → σ r = some q → ∃ q', σ0 r = some q' ∧ QLe q q' := by
    intro r q hr hq
    obtain ⟨b', hb'⟩ := hin r hr
    cases b' with
    | none => exact ⟨none, by simp only [σ0, hb'], QLe.none q⟩
    | some B' => exact ⟨q, by simp only [σ0, hb', hq], QLe.refl q⟩
  have hsub : ∀ r pl, σ0 r = some (some pl) → σ r = some (some pl) ∧ ∃ B', m'.at r = some (some B') := by
    intro r pl hr
    simp only [σ0] at hr
    split at hr
    · cases hr
    · cases hr
    · rename_i B' e; exact ⟨hr, B', e⟩
  refine ⟨σ0, fun t => ?_, ⟨fun r => ?_, fun r q hq => ?_, fun r r' p p' b t t' k1 k2 k3 k4 => ?_, fun r p b t k1 k2 => ?_, hm.fl, hm.gl⟩, ⟨rfl, rfl, rfl, Nat.le_refl _, Nat.le_refl _, fun _ _ _ => rfl, fun _ h => h, fun _ h => .inl h, fun b ⟨r, p, t, k1, k2⟩ => .inl ⟨r, p, t, (hsub r p k1).1, k2⟩⟩, fun j q hq => ?_⟩
  · -- the slots
    have : ∀ (l : Env), LeEnv (lenL m'.loc) (lenL m'.own) env l → Vc w F σ0 (get l t) (tmps.getD t undef) := by
      intro l
      induction l with
      | nil => intro _; exact .junk
      | cons x r ih =>
        intro hl
        obtain ⟨k, A⟩ := x
        obtain ⟨⟨e1, e2⟩, e3⟩ := hl
        simp only [get]
        cases hk : Nat.beq k t with
        | true =>
          have := Nat.eq_of_beq_eq_true hk
          subst this
          simp only [cond_true]
          have hv := he k
          rw [e1] at hv
          exact hv.restrict e2 hs
        | false => exact ih e3
    exact this env' h1
  · simp only [σ0]
    split
    · rename_i e; simp [e]
    · rename_i e; simp [e]
    · rename_i B' e
      obtain ⟨pl, B, k1, _⟩ := hlive r B' e
      simp [k1, e]
  · simp only [σ0] at hq
    split at hq
    · cases hq
    · rename_i e
      injection hq with hq
      subst hq
      exact ⟨fun _ => e, fun pl h => by cases h⟩
    · rename_i B' e
      obtain ⟨pl, B, k1, k2, k3, k4, k5⟩ := hlive r B' e
      rw [k1] at hq
      injection hq with hq
      subst hq
      exact ⟨(fun h => by cases h), fun pl1 h => by injection h with h; subst h; exact ⟨B', e, k5.restrict k4 hs⟩⟩
  · exact hm.inj r r' p p' b t t' (hsub r p k1).1 (hsub r' p' k2).1 k3 k4
  · exact hm.nf r p b t (hsub r p k1).1 k2
  · have hj : j < m.own.length := by
      rcases Nat.lt_or_ge j m.own.length with h | h
      · exact h
      · rw [(hm.dom (.arg j)).2 (by simp [Mem.at, List.getElem?_eq_none h])] at hq; cases hq
    exact hs (.arg j) q (Nat.ble_eq_true_of_le (by rw [← h3, lenL_eq]; exact hj)) hq
end

theorem Awp.le {P : Program} {N : Nat} {c : Code} {env env' : Env} {m m' : Mem} {Q : Post} (h : Le env m env' m') (k : Awp P N c env' m' Q) : Awp P N c env m Q :=
  ⟨fun ro lo a w σ F hN hD he hm => by
    obtain ⟨σ', h1, h2, h3, h4⟩ := le_ok h he hm
    exact wpIn_mono (k.run ro lo a w σ' F hN (hD.step h3) h1 h2) fun e a2 w2 h5 => lift_trans h3 h4 h5⟩

/-- A nil slice taken for an empty row of our own. -/
theorem Awp.vec {P : Program} {N : Nat} {c : Code} {env : Env} {m : Mem} {Q : Post} (t e sz : Nat) (f : Nat → List AV) (ht : get env t = .d .nils)
    (k : Awp P N c ((t, .osl m.new 0 0 0) :: env) (m.add (.vec e sz 0 0 f)) Q) : Awp P N c env m Q :=
  ⟨fun ro lo a w σ F hN hD he hm => by
    let pl : Pl := ⟨0, sz, none⟩
    obtain ⟨g1, g2⟩ := fresh_ok (w' := w) (pl := pl) (B := .vec e sz 0 0 f) hm (Nat.le_refl _) (fun _ _ => rfl) ⟨rfl, rfl, fun _ => rfl, fun i hi => absurd hi (by omega), fun b t h => by simp [pl] at h⟩ (fun b t h => by simp [pl] at h)
    have he' : EnvOk ((t, .osl m.new 0 0 0) :: env) w F (upd σ m.new (some pl)) a.tmps := by
      intro k
      simp only [get]
      cases hk : Nat.beq t k with
      | true =>
        have := Nat.eq_of_beq_eq_true hk
        subst this
        simp only [cond_true]
        have hv := he t
        rw [ht] at hv
        refine .osl (upd_self σ m.new (some pl)) fun p hp => ?_
        injection hp with hp
        subst hp
        refine ⟨Nat.le_refl _, fun _ => ⟨rfl, rfl, ?_⟩⟩
        generalize a.tmps.getD t undef = X at hv
        cases hv with | d hv => cases hv; rfl
      | false => exact (he k).mono (fun _ h => h) (fun _ _ => rfl) g2
    have hst : Step σ F w (upd σ m.new (some pl)) F w := ⟨rfl, rfl, rfl, Nat.le_refl _, Nat.le_refl _, fun _ _ _ => rfl, fun _ h => h, fun _ h => .inl h, own_upd_new fun b t h => by simp [pl] at h⟩
    exact wpIn_mono (k.run ro lo a w _ F hN (hD.step hst) he' g1) fun e a2 w2 h5 => lift_trans hst (.of g2) h5⟩

/-- A nil slice in a variable of its own may be taken for a row of our own. -/
theorem Awp.vecBox {P : Program} {N : Nat} {c : Code} {env : Env} {m : Mem} {Q : Post} (r : Ref) (e0 e sz : Nat) (f : Nat → List AV) (hB : m.get r = some (.box e0 [.d .nils]))
    (k : Awp P N c env ((m.add (.vec e sz 0 0 f)).put r (some (.box e0 [.osl m.new 0 0 0]))) Q) : Awp P N c env m Q :=
  ⟨fun ro lo a w σ F hN hD he hm => by
    let pl : Pl := ⟨0, sz, none⟩
    obtain ⟨g1, g2⟩ := fresh_ok (w' := w) (pl := pl) (B := .vec e sz 0 0 f) hm (Nat.le_refl _) (fun _ _ => rfl) ⟨rfl, rfl, fun _ => rfl, fun i hi => absurd hi (by omega), fun b t h => by simp [pl] at h⟩ (fun b t h => by simp [pl] at h)
    have hat := Mem.get_at hB
    obtain ⟨plr, hr⟩ : ∃ plr, σ r = some (some plr) := by
      cases hs : σ r with
      | none => rw [(hm.dom r).1 hs] at hat; cases hat
      | some q => cases q with
        | none => rw [(hm.lv r _ hs).1 rfl] at hat; cases hat
        | some pl => exact ⟨pl, rfl⟩
    have hne : m.new ≠ r := fun h => by
      have := new_none hm
      rw [h, hr] at this
      cases this
    obtain ⟨B, hB', hok⟩ := (hm.lv r _ hr).2 plr rfl
    rw [hat] at hB'
    injection hB' with hB'
    injection hB' with hB'
    subst hB'
    obtain ⟨k1, k2, b, k3, us, k4, k5, k6⟩ := hok
    obtain ⟨u, rfl⟩ : ∃ u, us = [u] := by
      match us, k5 with
      | [u], _ => exact ⟨u, rfl⟩
    obtain ⟨hu, hu1⟩ := k6 0 _ u rfl rfl
    have hun : u = .slice none 0 0 := by cases hu with | d hu => cases hu; rfl
    subst hun
    have hr1 : upd σ m.new (some pl) r = some (some plr) := by rw [upd_other σ _ (fun h => hne h.symm)]; exact hr
    obtain ⟨q1, q2⟩ := change_ok (B' := .box e0 [.osl m.new 0 0 0]) g1 (w' := w) (pl' := plr) hr1 (Nat.le_refl _) (fun _ _ _ => rfl) ⟨Nat.le_refl _, fun _ => rfl⟩
      ⟨k1, k2, b, k3, [.slice none 0 0], k4, rfl, fun j A u hA hu => by
        match j with
        | 0 =>
          simp at hA hu
          subst hA; subst hu
          refine ⟨.osl (q := some pl) (by rw [upd_other _ _ hne]; exact upd_self σ m.new (some pl)) fun p hp => ?_, rfl⟩
          injection hp with hp
          subst hp
          exact ⟨Nat.le_refl _, fun _ => ⟨rfl, rfl, rfl⟩⟩
        | j + 1 => simp at hA⟩
      (fun b' t h => by rw [k3] at h; cases h; exact ⟨(hm.nf r plr _ 1 hr k3).2, .inl ⟨1, k3⟩⟩)
    have hsle : SLe σ (upd (upd σ m.new (some pl)) r (some plr)) := fun r' q hq => by
      obtain ⟨q', e1, e2⟩ := g2 r' q hq
      obtain ⟨q'', e3, e4⟩ := q2 r' q' e1
      exact ⟨q'', e3, e2.trans e4⟩
    have hst : Step σ F w (upd (upd σ m.new (some pl)) r (some plr)) F w := ⟨rfl, rfl, rfl, Nat.le_refl _, Nat.le_refl _, fun _ _ _ => rfl, fun _ h => h, fun _ h => .inl h, fun b' ⟨rf, p, t, h1, h2⟩ => by
      by_cases e1 : rf = r
      · subst e1
        rw [upd_self] at h1
        cases h1
        exact .inl ⟨rf, plr, t, hr, h2⟩
      · rw [upd_other _ _ e1] at h1
        by_cases e2 : rf = m.new
        · subst e2
          rw [upd_self] at h1
          cases h1
          simp [pl] at h2
        · rw [upd_other σ _ e2] at h1
          exact .inl ⟨rf, p, t, h1, h2⟩⟩
    exact wpIn_mono (k.run ro lo a w _ F hN (hD.step hst) (he.mono (fun _ h => h) (fun _ _ => rfl) hsle) q1) fun e a2 w2 h5 => lift_trans hst (.of hsle) h5⟩
/-- What a loop's round must come to. -/
def LoopQ {S : Type} (enc : S → Env × Mem) (J : S → Prop) (μ : S → Nat) (s : S) (Q : Post) : Post := fun e env m =>
  match e with
  | .normal => ∃ s', J s' ∧ μ s' < μ s ∧ Le env m (enc s').1 (enc s').2
  | .exit i => Q (.exit i) env m
  | .goto i => Q (.goto i) env m
  | .ret => Q .ret env m
  | .panic ch => Q (.panic ch) env m
  | .outgrown => Q .outgrown env m
theorem loop_rule {P : Program} {T : Tab} (hT : TabOk P T) {N : Nat} {c : Code} {env : Env} {m : Mem} {Q : Post} {S : Type} (enc : S → Env × Mem) (J : S → Prop) (μ : S → Nat) (s0 : S)
    (h0 : Le env m (enc s0).1 (enc s0).2) (hJ : J s0) (h : ∀ s, J s → Ev (vc P T N c (enc s).1 (enc s).2 (LoopQ enc J μ s Q))) : Awp P N (.loop c) env m Q := by
  refine Awp.le h0 ⟨fun ro lo a w σ F hN hD he hm => ?_⟩
  -- the relation of every round's head
  let I : Nat → Act → World → Prop := fun n a' w' => ∃ s σ' F', μ s = n ∧ J s ∧ a'.tmps.size = N ∧ Ctx ro lo a'.defers σ' F' w' ∧ EnvOk (enc s).1 w' F' σ' a'.tmps ∧ MemOk (enc s).2 σ' F' w' ∧ Step σ F w σ' F' w' ∧ SArg σ σ'
  intro b k cs hro hb hroom
  have key : ∀ n a w', I n a w' → ∃ e a' w2, lift N Q ro lo σ F w e a' w2 ∧ ArrivesIn (Machine.fenced P (Fen ro)) P (lone (b.atR a (.code c :: .inLoop c :: k)) cs w') b k cs e a' w2 := by
    intro n
    induction n using Nat.strongRecOn with
    | _ n ih =>
      rintro a1 w1 ⟨s, σ1, F1, hμ, hJ1, i1, i2, i3, i4, i5, i6⟩
      obtain ⟨e, a2, w2, hq, harr⟩ := (vc_ok hT c _ _ _ (h s hJ1).o).run ro lo a1 w1 σ1 F1 i1 i2 i3 i4 b (.inLoop c :: k) cs hro hb hroom
      obtain ⟨env2, m2, σ2, F2, q1, q2, q3, q4, q5, q6, q7⟩ := hq
      have rest : Q e env2 m2 → lift N Q ro lo σ F w e a2 w2 := fun hq => ⟨env2, m2, σ2, F2, hq, q2, q3, q4, q5, i5.trans q6, i6.trans q7⟩
      cases e with
      | normal =>
        obtain ⟨s', j1, j2, j3⟩ := q1
        obtain ⟨σ3, r1, r2, r3, r4⟩ := le_ok j3 q4 q5
        obtain ⟨e3, a3, w3, hq3, harr3⟩ := ih (μ s') (by omega) a2 w2 ⟨s', σ3, F2, rfl, j1, q2, q3.step r3, r1, r2, (i5.trans q6).trans r3, (i6.trans q7).trans r4⟩
        exact ⟨e3, a3, w3, hq3, .of_steps (StepsIn.trans harr (.one (fenced_calm hb hroom rfl) stepR_inLoop)) harr3⟩
      | exit id => exact ⟨_, a2, w2, rest q1, .pass (x := .inLoop c) rfl (fun _ _ => .inl (by simp)) harr⟩
      | goto l => exact ⟨_, a2, w2, rest q1, .pass (x := .inLoop c) rfl (fun _ _ => .inl (by simp)) harr⟩
      | ret => exact ⟨_, a2, w2, rest q1, .pass (x := .inLoop c) rfl (fun _ _ => .inl (by simp)) harr⟩
      | panic ch => exact ⟨_, a2, w2, rest q1, .pass (x := .inLoop c) rfl (fun _ _ => .inl (by simp)) harr⟩
      | outgrown => exact ⟨_, a2, w2, rest q1, .pass (x := .inLoop c) rfl (fun _ _ => .inl (by simp)) harr⟩
  obtain ⟨e, a', w', hq, harr⟩ := key (μ s0) a w ⟨s0, σ, F, rfl, hJ, hN, hD, he, hm, Step.refl σ F w, SArg.refl σ⟩
  exact ⟨e, a', w', hq, .of_steps (.one (fenced_calm hb hroom rfl) stepR_loop) harr⟩

/-! ### the end of a function -/
/-- The marks are come to, one by one: nothing but their own blocks turns. -/
theorem leaves_marks {P : Program} {fn : Func} {tmps : Array Value} {R : Ending → World → Prop} : ∀ (Ds : List Nat) (w : World), Ds.Nodup → (∀ D ∈ Ds, w.heap[D]? = some (.deferred (some []))) →
    (∀ w' : World, w'.os = w.os → w'.tape = w.tape → w'.output = w.output → w'.drawn = w.drawn → w'.heap.size = w.heap.size → (∀ b, b ∉ Ds → w'.heap[b]? = w.heap[b]?) → ∃ v, (results fn tmps).run P w' = .ok v w' ∧ R (.returned v) w') →
    LeavesInM (Fen none) 0 P fn tmps R (Ds.map mark) .returning w
  | [], w, _, _, h => h w rfl rfl rfl rfl rfl fun _ _ => rfl
  | D :: Ds, w, hn, hD, h => by
    have hlt : D < w.heap.size := (Array.getElem?_eq_some_iff.1 (hD D (by simp))).1
    rw [List.nodup_cons] at hn
    rw [List.map_cons]
    unfold LeavesInM
    refine ⟨(fun h => by cases h), .inl ⟨D, _, rfl, run_takeDeferred (hD D (by simp)), leaves_marks Ds _ hn.2 (fun D' hD' => ?_) (fun w' h1 h2 h3 hd h4 h5 => ?_)⟩⟩
    · rw [World.putObj_heap_other (k := D') (r := D) (fun e => hn.1 (by rw [← e]; exact hD'))]
      exact hD D' (by simp [hD'])
    · refine h w' h1 h2 h3 hd (h4.trans World.putObj_size) fun b hb => ?_
      simp only [List.mem_cons, not_or] at hb
      rw [h5 b hb.2, World.putObj_heap_other hb.1]
/-- Cells, side by side, some of which may be said otherwise. -/
def BecA : List AV → List D → Prop
  | [], [] => True
  | .d y :: r, x :: s => DEq y x ∧ BecA r s
  | _, _ => False
theorem BecA.ok {w : World} {F : Nat → Prop} {σ : Pls} : ∀ {cs : List AV} {xs : List D}, BecA cs xs → cs.length = xs.length ∧ ∀ (j : Nat) A x u, cs[j]? = some A → xs[j]? = some x → Vc w F σ A u → Rd w F x u
  | [], [], _ => ⟨rfl, fun j A x u h => by simp at h⟩
  | .d y :: r, x :: s, h => by
    obtain ⟨h1, h2⟩ := BecA.ok (w := w) (F := F) (σ := σ) h.2
    refine ⟨by simp [h1], fun j A z u hA hz hv => ?_⟩
    cases j with
    | zero =>
      simp at hA hz
      subst hA; subst hz
      cases hv with | d hv => exact DEq.ok hv h.1
    | succ j => exact h2 j A z u (by simpa using hA) (by simpa using hz) hv
  | [], _ :: _, h => h.elim
  | A :: _, [], h => by cases A <;> exact h.elim
  | .agg _ :: _, _ :: _, h => h.elim
  | .tup _ :: _, _ :: _, h => h.elim
  | .ifc _ _ :: _, _ :: _, h => h.elim
  | .fn _ _ _ :: _, _ :: _, h => h.elim
  | .ptr _ _ _ _ :: _, _ :: _, h => h.elim
  | .osl _ _ _ _ :: _, _ :: _, h => h.elim
  | .mp _ :: _, _ :: _, h => h.elim
  | .gd _ _ :: _, _ :: _, h => h.elim
  | .junk :: _, _ :: _, h => h.elim
/-- What is handed back, as a datum. -/
def Bec (m : Mem) (A : AV) (x : D) : Prop :=
  match A with
  | .d y => DEq y x
  | .osl r g off n => match x with
    | .sl sz n' f' => match m.get r with
      | some (.vec _ sz' g' k f) => sz' = sz ∧ g' = g ∧ off + n ≤ k ∧ n = n' ∧ ∀ i, i < n' → f (off + i) = up (f' i)
      | _ => False
    | _ => False
  | .agg cs => match x with
    | .agg xs => cs = up xs ∨ BecA cs xs
    | _ => False
  | .ifc t (.d y) => match x with
    | .ifc t' y' => t = t' ∧ y = y'
    | _ => False
  | _ => False
def Fin (T : Tab) : List ResultVar → List D → Env → Mem → Prop
  | [], [], _, _ => True
  | .tmp t :: rs, x :: xs, env, m => Bec m (get env t) x ∧ Fin T rs xs env m
  | .cell t ty :: rs, x :: xs, env, m => (match evLoad T m ty (get env t) with
    | some (A, l) => obs l (Bec m A x)
    | none => False) ∧ Fin T rs xs env m
  | _, _, _, _ => False
def finQ (T : Tab) (rs : List ResultVar) (res : List D) : Post := fun e env m => match e with
  | .ret => Fin T rs res env m
  | .normal => Fin T rs res env m
  | _ => False
def envOf : Nat → List D → Env
  | _, [] => []
  | k, x :: r => (k, .d x) :: envOf (k + 1) r

section
variable {P : Program} {T : Tab} {w : World} {F : Nat → Prop} {σ : Pls} {m : Mem}
/-- All that is ours is given away. -/
def Given (F : Nat → Prop) (σ : Pls) : Nat → Prop := fun b => F b ∨ Owned σ b
theorem Bec.ok (hm : MemOk m σ F w) {A : AV} {x : D} {v : Value} (h : Vc w F σ A v) (e : Bec m A x) : Rd w (Given F σ) x v := by
  have up' : ∀ {y : D} {u : Value}, Rd w F y u → Rd w (Given F σ) y u := fun h => h.mono (fun _ h => .inl h) (fun _ _ => rfl)
  unfold Bec at e
  split at e
  · cases h with | d h => exact DEq.ok (up' h) e
  · rename_i r g off n
    split at e <;> try exact e.elim
    rename_i sz n' f'
    split at e <;> try exact e.elim
    rename_i e0 sz' g' k f hB
    obtain ⟨rfl, rfl, hk, rfl, hf⟩ := e
    obtain ⟨pl, hr, hok, _, hat⟩ := osl_row hm h (Mem.get_at hB)
    obtain ⟨h0, hsz, hn0, hrow, hl⟩ := hok
    have hsl := hat h0
    unfold SlAt at hsl
    split at hsl
    · obtain ⟨rfl, _, rfl⟩ := hsl
      exact .sl ⟨0, 0, none⟩ (fun _ _ => undef) (Nat.le_refl _) (fun h => absurd h (by omega)) (fun i hi => absurd hi (by omega)) (fun i j hi => absurd hi (by omega)) (fun i j x hi => absurd hi (by omega))
    · rename_i b tot hloc
      obtain ⟨B, cap, rfl, hnc, hoc, hA⟩ := hsl
      obtain ⟨hnt, htm, us, hheap, hlen, hvc⟩ := hl b tot hloc
      have hlen' : ∀ i, i < n → (f' i).length = sz' := fun i hi => by
        have := hrow (off + i) (by omega)
        rw [hf i hi, up_eq, List.length_map] at this
        exact this
      have hcell : ∀ i j, i < n → j < sz' → ∃ u, us[(off + i) * sz' + j]? = some u ∧ u.oneCell' = true ∧ ∀ x, (f' i)[j]? = some x → Rd w F x u := fun i j hi hj => by
        have hx : (f' i)[j]? = some ((f' i)[j]'(by rw [hlen' i hi]; exact hj)) := List.getElem?_eq_getElem _
        obtain ⟨u, hu, hv, h1⟩ := hvc (off + i) j (.d _) (by omega) (by rw [hf i hi, up_eq, List.getElem?_map, hx]; rfl)
        refine ⟨u, hu, h1, fun x hx' => ?_⟩
        rw [hx] at hx'
        injection hx' with hx'
        subst hx'
        cases hv with | d hv => exact hv
      refine .sl ⟨b, off * sz', none⟩ (fun i j => us.getD ((off + i) * sz' + j) undef) hnc (fun hn => ⟨by rw [hA (.inl (by omega)), hsz], .inr ⟨r, pl, tot, hr, hloc⟩⟩) hlen' (fun i j hi hj => ?_) (fun i j x hi hx => ?_)
      · obtain ⟨u, hu, h1, _⟩ := hcell i j hi hj
        rw [add_at, cell_of_row w b _ us.toArray e0 (0, 0) hheap]
        have e1 : off * sz' + (i * sz' + j) = (off + i) * sz' + j := by rw [Nat.add_mul]; omega
        rw [e1]
        simp [hu, h1]
      · have hj : j < sz' := by rw [← hlen' i hi]; exact (List.getElem?_eq_some_iff.1 hx).1
        obtain ⟨u, hu, _, h2⟩ := hcell i j hi hj
        simp only [List.getD_eq_getElem?_getD, hu, Option.getD_some]
        exact up' (h2 x hx)
  · split at e <;> try exact e.elim
    rcases e with e | e
    · subst e
      cases h with
      | agg hl h =>
        refine .agg (by rw [hl, up_eq, List.length_map]) fun j x u hx hu => ?_
        have := h j (.d x) u (by rw [up_eq, List.getElem?_map, hx]; rfl) hu
        cases this with | d h => exact up' h
    · cases h with
      | agg hl h =>
        obtain ⟨g1, g2⟩ := BecA.ok (w := w) (F := F) (σ := σ) e
        refine .agg (by rw [hl, g1]) fun j x u hx hu => ?_
        have hj := (List.getElem?_eq_some_iff.1 hx).1
        have hA := List.getElem?_eq_getElem (l := _) (i := j) (by rw [g1]; exact hj)
        exact up' (g2 j _ x u hA hx (h j _ u hA hu))
  · split at e <;> try exact e.elim
    obtain ⟨rfl, rfl⟩ := e
    cases h with | ifc h => cases h with | d h => exact .ifc (up' h)
  · exact e.elim

def resOne (tmps : Array Value) : ResultVar → Sem Value
  | .tmp t => pure (tmps.getD t undef)
  | .cell a t => do loadVar t (← asAddr (tmps.getD a undef))
theorem fin_ok (hT : TabOk P T) (hm : MemOk m σ F w) {env : Env} {tmps : Array Value} (he : EnvOk env w F σ tmps) : ∀ (rs : List ResultVar) (res : List D), Fin T rs res env m →
    ∃ vs : List Value, (rs.mapM (resOne tmps)).run P w = .ok vs w ∧ vs.length = res.length ∧ ∀ (j : Nat) x u, res[j]? = some x → vs[j]? = some u → Rd w (Given F σ) x u
  | [], [], _ => ⟨[], by simp, rfl, fun j x u h => by simp at h⟩
  | .tmp t :: rs, x :: xs, h => by
    obtain ⟨h1, h2⟩ := h
    obtain ⟨vs, g1, g2, g3⟩ := fin_ok hT hm he rs xs h2
    refine ⟨tmps.getD t undef :: vs, by simp [List.mapM_cons, resOne, g1], by simp [g2], fun j y u hy hu => ?_⟩
    cases j with
    | zero => simp at hy hu; subst hy; subst hu; simpa using (he t |> fun hv => Bec.ok hm hv h1)
    | succ j => exact g3 j y u (by simpa using hy) (by simpa using hu)
  | .cell t ty :: rs, x :: xs, h => by
    obtain ⟨h1, h2⟩ := h
    obtain ⟨vs, g1, g2, g3⟩ := fin_ok hT hm he rs xs h2
    split at h1 <;> try exact h1.elim
    rename_i A l hl
    obtain ⟨hl2, hb⟩ := obs_ok h1
    obtain ⟨u0, hu0, hrun⟩ := evLoad_ok hT hm (he t) hl hl2
    have hr := hrun w (Agree.refl F σ w)
    have hptr : ∃ a, tmps.getD t undef = .pointer (some a) := by
      unfold Instr.loadAt Instr.sureAddr at hr
      generalize tmps.getD t undef = X at hr
      split at hr
      · exact ⟨_, rfl⟩
      · simp at hr
    obtain ⟨ad, had⟩ := hptr
    rw [had] at hr
    have hr' : (loadVar ty ad).run P w = .ok u0 w := by simpa [Instr.loadAt, Instr.sureAddr] using hr
    refine ⟨u0 :: vs, by simp [List.mapM_cons, resOne, g1, had, asAddr, hr'], by simp [g2], fun j y u hy hu => ?_⟩
    cases j with
    | zero => simp at hy hu; subst hy; subst hu; exact Bec.ok hm hu0 hb
    | succ j => exact g3 j y u (by simpa using hy) (by simpa using hu)
  | [], _ :: _, h => by cases h
  | .tmp _ :: _, [], h => by cases h
  | .cell _ _ :: _, [], h => by cases h

theorem envOf_ok {xs : List D} {vals : List Value} (hl : vals.length = xs.length) (h : ∀ (j : Nat) x u, xs[j]? = some x → vals[j]? = some u → Rd w F x u) (n : Nat) : EnvOk (envOf 0 xs) w F σ (vals.toArray ++ Array.replicate n undef) := by
  have key : ∀ (ys : List D) (k t : Nat), (∀ j, ys[j]? = xs[k + j]?) → get (envOf k ys) t = (if k ≤ t then match ys[t - k]? with | some x => .d x | none => .junk else .junk) := by
    intro ys
    induction ys with
    | nil => intro k t _; simp [envOf, get]
    | cons y r ih =>
      intro k t hy
      simp only [envOf, get]
      cases hk : Nat.beq k t with
      | true =>
        have := Nat.eq_of_beq_eq_true hk
        subst this
        simp
      | false =>
        have hne := Nat.ne_of_beq_eq_false hk
        simp only [cond_false]
        rw [ih (k + 1) t (fun j => by have := hy (j + 1); simp at this; rw [this]; congr 1; omega)]
        by_cases hle : k + 1 ≤ t
        · rw [if_pos hle, if_pos (by omega)]
          have : t - k = (t - (k + 1)) + 1 := by omega
          rw [this, List.getElem?_cons_succ]
        · rw [if_neg hle, if_neg (by omega)]
  intro t
  rw [key xs 0 t (fun j => by rw [Nat.zero_add]), if_pos (Nat.zero_le _), Nat.sub_zero]
  split
  · rename_i x hx
    have ht : t < vals.length := by rw [hl]; exact (List.getElem?_eq_some_iff.1 hx).1
    have hu : vals[t]? = some vals[t] := List.getElem?_eq_getElem ht
    have : (vals.toArray ++ Array.replicate n undef).getD t undef = vals[t] := by
      rw [Array.getD_eq_getD_getElem?, Array.getElem?_append_left (by simpa using ht)]
      simp [hu]
    rw [this]
    exact .d (h t x _ hx hu)
  · exact .junk

/-- What is handed back at the end, whatever the state is said to be. -/
def EndsAs (P : Program) (rs : List ResultVar) (res : List D) (e : Exit) (env : Env) (m : Mem) : Prop := (e = .normal ∨ e = .ret) ∧ ∀ (w : World) (F : Nat → Prop) (σ : Pls) (tmps : Array Value), MemOk m σ F w → EnvOk env w F σ tmps →
    ∃ vs : List Value, (rs.mapM (resOne tmps)).run P w = .ok vs w ∧ vs.length = res.length ∧ ∀ (j : Nat) x u, res[j]? = some x → vs[j]? = some u → Rd w (Given F σ) x u
/-- The rule for a function that only computes, with an end of any kind. -/
theorem pure_rule0 (hT : TabOk P T) {f : FuncId} {fn : Func} {c : Code} {N : Nat} {rs : List ResultVar} {args res : List D} (hf : P.funcs[f]? = some fn) (hb : fn.body = some c) (hN : fn.ntmps = N) (hrs : fn.results = rs.toArray)
    (hname : (fn.name == "runtime.NumGoroutine") = false) (hargs : Nat.ble args.length N = true) {Q : Post} (hQ : ∀ e env m, Q e env m → EndsAs P rs res e env m) (h : Ev (vc P T N c (envOf 0 args) ⟨[], []⟩ Q)) : Pure P f args res := by
  refine ⟨⟨fn, hf, hname, by simp [hb]⟩, fun F w vals hF hG hl hv => ?_⟩
  refine callsFen.1 (callsIn_of_wp_marks (F := Fen none) (n := 0) hf hb trivial ?_ rfl)
  let σ0 : Pls := fun _ => none
  have hm0 : MemOk ⟨[], []⟩ σ0 F w := ⟨fun r => by cases r <;> simp [σ0, Mem.at], fun r q h => (by cases h), fun r r' p p' b t t' h => (by cases h), fun r p b t h => (by cases h), hF, hG⟩
  have hle := Nat.le_of_ble_eq_true hargs
  have hwp := (vc_ok hT c (envOf 0 args) ⟨[], []⟩ Q h.o).run none w.heap.size { tmps := vals.toArray ++ Array.replicate (fn.ntmps - vals.toArray.size) undef, defers := [] } w σ0 F (by simp [hN]; omega) Ctx.nil (envOf_ok hl hv _) hm0
  refine wpIn_mono hwp ?_
  rintro e a w1 ⟨env', m', σ', F', q1, q2, q3, q4, q5, q6, q7⟩
  obtain ⟨hexit, hfin⟩ := hQ e env' m' q1
  have hend : LeavesInM (Fen none) 0 P fn a.tmps (fun e w' => ∃ v F', e = .returned v ∧ Grew F w F' w' ∧ ∀ σ, Vc w' F' σ (resAV res) v) a.defers .returning w1 := by
    obtain ⟨Ds, hDs, hnd, hD⟩ := q3.marks
    rw [hDs]
    refine leaves_marks Ds w1 hnd (fun D h => (hD D h).2.1) fun w' k1 k2 k3 kd k4 k5 => ?_
    have kF : ∀ b, F' b → w'.heap[b]? = w1.heap[b]? := fun b hb => k5 b fun hm => (hD b hm).2.2.2 hb
    have kO : ∀ b, Owned σ' b → w'.heap[b]? = w1.heap[b]? := fun b hb => k5 b fun hm => (hD b hm).2.2.1 hb
    replace q4 : EnvOk env' w' F' σ' a.tmps := q4.mono (fun _ h => h) kF (SLe.refl σ')
    replace q5 : MemOk m' σ' F' w' := q5.world (by omega) fun b hb => by
      rcases hb with hb | hb
      · exact kF b hb
      · exact kO b hb
    replace q6 : Step σ0 F w σ' F' w' := ⟨k1.trans q6.os, k2.trans q6.tape, k3.trans q6.output, Nat.le_trans q6.drawn (Nat.le_of_eq kd.symm), by rw [k4]; exact q6.size, fun b hb ho => (k5 b fun hm => by have := (hD b hm).1; omega).trans (q6.keep b hb ho), q6.fro, q6.fro', q6.own⟩
    obtain ⟨vs, g1, g2, g3⟩ := hfin _ _ _ _ q5 q4
    have hrun : (results fn a.tmps).run P w' = .ok (if h : vs.toArray.size = 1 then vs.toArray[0] else .tuple vs.toArray) w' := by
      have e : results fn a.tmps = (do let vs ← fn.results.mapM (resOne a.tmps); pure (if h : vs.size = 1 then vs[0] else .tuple vs)) := by
        unfold results
        congr 1
      rw [e, hrs, Array.mapM_eq_mapM_toList]
      simp [g1]
    refine ⟨_, hrun, _, Given F' σ', rfl, ⟨q6.os, q6.tape, q6.output, q6.drawn, q6.size, fun b hb => q6.keep b hb (fun ⟨r, p, t, h1, _⟩ => by cases h1), fun b hb => .inl (q6.fro b hb), fun b hb => ?_, fun b hb => ?_⟩, fun σ => ?_⟩
    · rcases hb with hb | hb
      · rcases q6.fro' b hb with h1 | ⟨r, p, t, h1, _⟩ | h1
        · exact .inl h1
        · cases h1
        · exact .inr h1
      · rcases q6.own b hb with ⟨r, p, t, h1, _⟩ | h1
        · cases h1
        · exact .inr h1
    · rcases hb with hb | ⟨r, p, t, h1, h2⟩
      · exact q5.fl b hb
      · exact (q5.nf r p b t h1 h2).2
    · have tup : Vc w' (Given F' σ') σ (.tup (up res)) (.tuple vs.toArray) := .tup (by rw [up_eq, List.length_map, g2]) fun j A u hA hu => by
        obtain ⟨x, hx, rfl⟩ := up_at hA
        exact .d (g3 j x u hx hu)
      match res, vs, g2, g3, tup with
      | [], [], _, _, tup => simpa [resAV] using tup
      | [x], [v], _, g3, _ => simpa [resAV] using Vc.d (g3 0 x v rfl rfl)
      | x :: y :: xs, a :: b :: vs, _, _, tup => simpa [resAV] using tup
      | [], _ :: _, h, _, _ => simp at h
      | _ :: _, [], h, _, _ => simp at h
      | [_], _ :: _ :: _, h, _, _ => simp at h
      | _ :: _ :: _, [_], h, _, _ => simp at h
  rcases hexit with rfl | rfl <;> exact hend
/-- THE RULE FOR A FUNCTION THAT ONLY COMPUTES. -/
theorem pure_rule (hT : TabOk P T) {f : FuncId} {fn : Func} {c : Code} {N : Nat} {rs : List ResultVar} {args res : List D} (hf : P.funcs[f]? = some fn) (hb : fn.body = some c) (hN : fn.ntmps = N) (hrs : fn.results = rs.toArray)
    (hname : (fn.name == "runtime.NumGoroutine") = false) (hargs : Nat.ble args.length N = true) (h : Ev (vc P T N c (envOf 0 args) ⟨[], []⟩ (finQ T rs res))) : Pure P f args res :=
  pure_rule0 hT hf hb hN hrs hname hargs (Q := finQ T rs res) (fun e env m hq => by
    cases e with
    | normal => exact ⟨.inl rfl, fun w F σ tmps hm he => fin_ok hT hm he rs res hq⟩
    | ret => exact ⟨.inr rfl, fun w F σ tmps hm he => fin_ok hT hm he rs res hq⟩
    | _ => exact hq.elim) h
end
end Go.Ab
