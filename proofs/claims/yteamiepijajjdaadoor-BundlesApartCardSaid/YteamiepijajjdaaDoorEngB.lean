/-
  The engine, part B: the table of types; what an operation that only reads hands back; that this is so.
-/
import Derived.Test.YteamiepijajjdaaDoorEngA
namespace Go.Ab
set_option linter.unusedSimpArgs false
set_option linter.unusedVariables false

/-! ### The table of types -/

inductive TK : Type where
  | int (k : IntKind) | bool | str
  | ptr (e : TypeId) | sl (e : TypeId) | arr (n : Nat) (e : TypeId) | st (fs : List (Nat × TypeId))
  | map (k e : TypeId) | fn | ifc | other
structure TI where
  k : TK
  size : Nat
  bytes : Nat
  zero : List D
  eq : Bool := false
abbrev Tab := List (Nat × TI)
def Tab.at : Tab → Nat → Option TI
  | [], _ => none
  | (k, v) :: r, t => bif Nat.beq k t then some v else Tab.at r t
def TK.agg : TK → Bool
  | .arr _ _ | .st _ => true
  | _ => false

def zval : D → Value
  | .int k n => .int k n
  | .bool b => .bool b
  | .str s => .string s
  | .nilp => .pointer none
  | .nili => .nilIface
  | .nilf => .nilFunc
  | .nilm => .map none
  | .nils => .slice none 0 0
  | _ => undef
def sameZ : Value → D → Bool
  | .int k n, .int k' n' => decide (k = k') && decide (n = n')
  | .bool b, .bool b' => decide (b = b')
  | .string s, .str s' => decide (s = s')
  | .pointer none, .nilp => true
  | .nilIface, .nili => true
  | .nilFunc, .nilf => true
  | .map none, .nilm => true
  | .slice none 0 0, .nils => true
  | _, _ => false
def sameZs : List Value → List D → Bool
  | [], [] => true
  | v :: r, x :: s => sameZ v x && sameZs r s
  | _, _ => false

theorem sameZ_sound {w : World} {F : Nat → Prop} {v : Value} {x : D} (h : sameZ v x = true) : Rd w F x v ∧ v.oneCell' = true := by
  unfold sameZ at h
  split at h <;> simp at h
  · obtain ⟨rfl, rfl⟩ := h; exact ⟨.int, rfl⟩
  · subst h; exact ⟨.bool, rfl⟩
  · subst h; exact ⟨.str, rfl⟩
  · exact ⟨.nilp, rfl⟩
  · exact ⟨.nili, rfl⟩
  · exact ⟨.nilf, rfl⟩
  · exact ⟨.nilm, rfl⟩
  · exact ⟨.nils, rfl⟩
theorem sameZs_sound {w : World} {F : Nat → Prop} : ∀ {vs : List Value} {xs : List D}, sameZs vs xs = true →
    vs.length = xs.length ∧ ∀ (j : Nat) x u, xs[j]? = some x → vs[j]? = some u → Rd w F x u ∧ u.oneCell' = true
  | [], [], _ => ⟨rfl, fun j x u h => by simp at h⟩
  | v :: r, x :: s, h => by
    simp only [sameZs, Bool.and_eq_true] at h
    obtain ⟨h1, h2⟩ := sameZs_sound h.2
    refine ⟨by simp [h1], fun j y u hy hu => ?_⟩
    cases j with
    | zero => simp at hy hu; subst hy; subst hu; exact sameZ_sound h.1
    | succ j => exact h2 j y u (by simpa using hy) (by simpa using hu)
  | [], _ :: _, h => by simp [sameZs] at h
  | _ :: _, [], h => by simp [sameZs] at h

def fieldsAre (P : Program) : List Field → List (Nat × TypeId) → Bool
  | [], [] => true
  | f :: r, (o, t) :: s => Nat.beq f.offset o && Nat.beq f.type t && !Nat.beq (P.cellsOf t) 0 && fieldsAre P r s
  | _, _ => false
def kindIs (P : Program) (t : TypeId) : TK → Bool
  | .int k => match P.underlying t with | some (.int k') => decide (k' = k) | _ => false
  | .bool => match P.underlying t with | some .bool => true | _ => false
  | .str => match P.underlying t with | some .string => true | _ => false
  | .ptr e => match P.underlying t with | some (.pointer e') => Nat.beq e' e | _ => false
  | .sl e => match P.underlying t with | some (.slice e') => Nat.beq e' e && !Nat.beq (P.cellsOf e) 0 | _ => false
  | .arr n e => match P.underlying t with | some (.array n' e') => Nat.beq n' n && Nat.beq e' e | _ => false
  | .st fs => match P.underlying t with | some (.struct fs') => fieldsAre P fs'.toList fs | _ => false
  | .map k e => match P.underlying t with | some (.map k' e') => Nat.beq k' k && Nat.beq e' e | _ => false
  | .fn => match P.underlying t with | some (.func _ _ _) => true | _ => false
  | .ifc => match P.underlying t with | some (.interface _) => true | _ => false
  | .other => match P.underlying t with | some (.struct _) | some (.array _ _) | none => false | _ => true
/-- May two values of the struct type be compared, cell by cell? -/
def eqIs (P : Program) (t : TypeId) : Bool :=
  !P.stoodInHeld t && !P.eqGuardType P.depth t && match P.underlying t with
    | some (.struct fs) => fs.toList.all fun f => decide (f.name ≠ "_")
    | _ => false
def isAggV : Value → Bool
  | .agg _ => true
  | _ => false
def tiIs (P : Program) (t : TypeId) (ti : TI) : Bool :=
  (!ti.eq || eqIs P t) && kindIs P t ti.k && match P.info? t with
    | some i => Nat.beq i.size ti.size && Nat.beq i.bytes ti.bytes && match i.zero with
      | some z => sameZs z.cells.toList ti.zero && Nat.beq z.cells.size ti.size && (isAggV z == ti.k.agg)
      | none => false
    | none => false
def tabIs (P : Program) : Tab → Bool
  | [] => true
  | (t, ti) :: r => tiIs P t ti && tabIs P r
def TabOk (P : Program) (T : Tab) : Prop := ∀ t ti, T.at t = some ti → tiIs P t ti = true
theorem tabOk_of {P : Program} : ∀ {T : Tab}, tabIs P T = true → TabOk P T
  | [], _ => fun t ti h => by simp [Tab.at] at h
  | (k, v) :: r, h => fun t ti ht => by
    simp only [tabIs, Bool.and_eq_true] at h
    unfold Tab.at at ht
    cases hk : Nat.beq k t with
    | true =>
      rw [hk] at ht
      simp at ht
      have := Nat.eq_of_beq_eq_true hk
      subst this; subst ht
      exact h.1
    | false => rw [hk] at ht; exact tabOk_of h.2 t ti ht

section table
variable {P : Program} {T : Tab} {t : TypeId} {ti : TI}
theorem tiIs_info (h : tiIs P t ti = true) : ∃ i z, P.info? t = some i ∧ i.size = ti.size ∧ i.bytes = ti.bytes ∧ i.zero = some z ∧ sameZs z.cells.toList ti.zero = true ∧ z.cells.size = ti.size := by
  unfold tiIs at h
  simp only [Bool.and_eq_true] at h
  obtain ⟨_, h⟩ := h
  split at h
  · rename_i i hi
    simp only [Bool.and_eq_true] at h
    obtain ⟨⟨h1, h2⟩, h3⟩ := h
    split at h3
    · rename_i z hz
      simp only [Bool.and_eq_true] at h3
      exact ⟨i, z, hi, Nat.eq_of_beq_eq_true h1, Nat.eq_of_beq_eq_true h2, hz, h3.1.1, Nat.eq_of_beq_eq_true h3.1.2⟩
    · cases h3
  · cases h
theorem tiIs_kind (h : tiIs P t ti = true) : kindIs P t ti.k = true := by
  unfold tiIs at h
  simp only [Bool.and_eq_true] at h
  exact h.1.2
theorem tiIs_eq (h : tiIs P t ti = true) (he : ti.eq = true) : P.stoodInHeld t = false ∧ P.eqGuardType P.depth t = false ∧ ∀ fs, P.underlying t = some (.struct fs) → ∀ f ∈ fs.toList, f.name ≠ "_" := by
  unfold tiIs at h
  simp only [Bool.and_eq_true, he, Bool.not_true, Bool.false_or] at h
  have h := h.1.1
  unfold eqIs at h
  simp only [Bool.and_eq_true, Bool.not_eq_true'] at h
  obtain ⟨⟨h1, h2⟩, h3⟩ := h
  refine ⟨h1, h2, fun fs hfs f hf => ?_⟩
  rw [hfs] at h3
  simp only [List.all_eq_true] at h3
  exact of_decide_eq_true (h3 f hf)
theorem kindIs_sl {e : TypeId} (h : kindIs P t (.sl e) = true) : P.underlying t = some (.slice e) := by
  simp only [kindIs] at h
  split at h
  · rename_i e' he
    simp only [Bool.and_eq_true] at h
    rw [he, Nat.eq_of_beq_eq_true h.1]
  · cases h
theorem kindIs_map {k e : TypeId} (h : kindIs P t (.map k e) = true) : P.underlying t = some (.map k e) := by
  simp only [kindIs] at h
  split at h <;> simp at h
  rename_i k' e' hu
  obtain ⟨rfl, rfl⟩ := h
  exact hu
theorem kindIs_arr {n : Nat} {e : TypeId} (h : kindIs P t (.arr n e) = true) : P.underlying t = some (.array n e) := by
  simp only [kindIs] at h
  split at h
  · rename_i n' e' he
    simp only [Bool.and_eq_true] at h
    rw [he, Nat.eq_of_beq_eq_true h.1, Nat.eq_of_beq_eq_true h.2]
  · cases h
theorem fieldsAre_at : ∀ {fs : List Field} {gs : List (Nat × TypeId)}, fieldsAre P fs gs = true → fs.length = gs.length ∧ ∀ (k o : Nat) (u : TypeId), gs[k]? = some (o, u) →
    ∃ f, fs[k]? = some f ∧ f.offset = o ∧ f.type = u ∧ P.cellsOf u ≠ 0
  | [], [], _ => ⟨rfl, fun k o u h => by simp at h⟩
  | f :: r, (o, u) :: s, h => by
    simp only [fieldsAre, Bool.and_eq_true, Bool.not_eq_true'] at h
    obtain ⟨⟨⟨h1, h2⟩, h3⟩, h4⟩ := h
    obtain ⟨h5, h6⟩ := fieldsAre_at h4
    refine ⟨by simp [h5], fun k o' u' hk => ?_⟩
    cases k with
    | zero =>
      simp at hk
      obtain ⟨rfl, rfl⟩ := hk
      exact ⟨f, rfl, Nat.eq_of_beq_eq_true h1, Nat.eq_of_beq_eq_true h2, Nat.ne_of_beq_eq_false h3⟩
    | succ k => simpa using h6 k o' u' (by simpa using hk)
  | [], _ :: _, h => by simp [fieldsAre] at h
  | _ :: _, [], h => by simp [fieldsAre] at h
theorem kindIs_st {gs : List (Nat × TypeId)} (h : kindIs P t (.st gs) = true) : ∃ fs : Array Field, P.underlying t = some (.struct fs) ∧ fs.size = gs.length ∧ ∀ (k o : Nat) (u : TypeId), gs[k]? = some (o, u) →
    ∃ f, fs[k]? = some f ∧ f.offset = o ∧ f.type = u ∧ P.cellsOf u ≠ 0 := by
  simp only [kindIs] at h
  split at h
  · rename_i fs he
    obtain ⟨h1, h2⟩ := fieldsAre_at h
    exact ⟨fs, he, by simpa using h1, fun k o u hk => by obtain ⟨f, hf, r⟩ := h2 k o u hk; exact ⟨f, by simpa using hf, r⟩⟩
  · cases h
theorem run_isAgg (h : tiIs P t ti = true) (w : World) : (isAgg t).run P w = .ok ti.k.agg w := by
  have hk := tiIs_kind h
  unfold isAgg
  cases e : ti.k with
  | arr n el => rw [e] at hk; simp [run_underlying (kindIs_arr hk), TK.agg]
  | st gs => rw [e] at hk; obtain ⟨fs, hu, _⟩ := kindIs_st hk; simp [run_underlying hu, TK.agg]
  | _ =>
    rw [e] at hk
    simp only [kindIs] at hk
    split at hk <;> first | (simp at hk; done) | skip
    all_goals first
      | (rename_i hu; simp [run_underlying hu, TK.agg]; done)
      | (cases hu : P.underlying t with
         | none => simp_all
         | some d => cases d <;> simp_all [run_underlying hu, TK.agg])
theorem run_sizeOf (h : tiIs P t ti = true) (w : World) : (sizeOf t).run P w = .ok ti.size w := by
  obtain ⟨i, z, hi, hs, _⟩ := tiIs_info h
  simp [sizeOf, typeInfo, hi, hs]
theorem run_zeroValue (h : tiIs P t ti = true) (w : World) : ∃ z, (zeroValue t).run P w = .ok z w ∧ sameZs z.cells.toList ti.zero = true ∧ z.cells.size = ti.size := by
  obtain ⟨i, z, hi, _, _, hz, h1, h2⟩ := tiIs_info h
  exact ⟨z, by simp [zeroValue, typeInfo, hi, hz], h1, h2⟩
theorem tiIs_zagg (h : tiIs P t ti = true) (w : World) {z : Value} (hz : (zeroValue t).run P w = .ok z w) : isAggV z = ti.k.agg := by
  unfold tiIs at h
  simp only [Bool.and_eq_true] at h
  obtain ⟨_, h⟩ := h
  split at h
  · rename_i i hi
    simp only [Bool.and_eq_true] at h
    obtain ⟨_, h3⟩ := h
    split at h3
    · rename_i z' hz'
      simp only [Bool.and_eq_true, beq_iff_eq] at h3
      simp [zeroValue, typeInfo, hi, hz'] at hz
      rw [← hz]
      exact h3.2
    · cases h3
  · cases h
theorem run_zeroValue_any (h : tiIs P t ti = true) {w : World} {z : Value} (hz : (zeroValue t).run P w = .ok z w) (w' : World) : (zeroValue t).run P w' = .ok z w' := by
  obtain ⟨i, z', hi, _, _, hz', _, _⟩ := tiIs_info h
  simp [zeroValue, typeInfo, hi, hz'] at hz ⊢
  exact hz
end table
end Go.Ab
