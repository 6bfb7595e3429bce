/-
  The engine, part C: what an operation that only reads hands back, and that it does.
-/
import Derived.Test.YteamiepijajjdaaDoorEngB
namespace Go.Ab
set_option linter.unusedSimpArgs false
set_option linter.unusedVariables false

abbrev Env := List (Nat × AV)
def get : Env → Nat → AV
  | [], _ => .junk
  | (k, v) :: r, t => bif Nat.beq k t then v else get r t

def look : List (Option Blk) → Nat → Option Blk
  | [], _ => none
  | b :: _, 0 => b
  | _ :: r, j + 1 => look r j
def Mem.get (m : Mem) : Ref → Option Blk
  | .loc j => look m.loc j
  | .arg j => look m.own j
  | .bad => none

def dlook : List D → Nat → Option D
  | [], _ => none
  | b :: _, 0 => some b
  | _ :: r, j + 1 => dlook r j
def alook : List AV → Nat → Option AV
  | [], _ => none
  | b :: _, 0 => some b
  | _ :: r, j + 1 => alook r j
def dcut (cs : List D) : Nat → Nat → Option (List D)
  | _, 0 => some []
  | o, m + 1 => match dlook cs o with
    | some x => match dcut cs (o + 1) m with
      | some r => some (x :: r)
      | none => none
    | none => none
def acut (cs : List AV) : Nat → Nat → Option (List AV)
  | _, 0 => some []
  | o, m + 1 => match alook cs o with
    | some x => match acut cs (o + 1) m with
      | some r => some (x :: r)
      | none => none
    | none => none
def up : List D → List AV
  | [] => []
  | x :: r => .d x :: up r
/-- Is a datum one cell? -/
def D.one : D → Bool
  | .agg _ => false
  | _ => true
/-- Cells as data, if all of them are. -/
def allD : List AV → Option (List D)
  | [] => some []
  | .d x :: r => match allD r with
    | some l => some (x :: l)
    | none => none
  | _ :: _ => none

/-- The datum of a constant of the code. -/
def ofConst : Value → AV
  | .int k n => .d (.int k n)
  | .bool b => .d (.bool b)
  | .string s => .d (.str s)
  | .pointer none => .d .nilp
  | .nilIface => .d .nili
  | .nilFunc => .d .nilf
  | .map none => .d .nilm
  | .slice none 0 0 => .d .nils
  | _ => .junk
def ev (env : Env) : Operand → AV
  | .tmp t => get env t
  | .const v => ofConst v
  | .func f => .d (.fn (.func f) [] [])
  | .global _ => .junk

def cat : List Prop → List Prop → List Prop
  | [], q => q
  | p :: r, q => p :: cat r q
/-- A value out of its guards, and under which conditions it is one. -/
def strip : AV → AV × List Prop
  | .gd b x => match strip x with
    | (y, l) => (y, (b = true) :: l)
  | x => (x, [])

def In (k : IntKind) (n : Int) : Prop := k.min ≤ n ∧ n ≤ k.max

/-- Is one plain datum equal to another? -/
def deq : D → D → Option Bool
  | .int k a, .int k' b => bif decide (k = k') then some (decide (a = b)) else none
  | .bool a, .bool b => some (a == b)
  | .str a, .str b => some (a == b)
  | _, _ => none

def binInt (op : BinOp) (k : IntKind) (a b : Int) : Option (AV × List Prop) :=
  match op with
  | .add => some (.d (.int k (a + b)), [In k (a + b)])
  | .sub => some (.d (.int k (a - b)), [In k (a - b)])
  | .mul => some (.d (.int k (a * b)), [In k (a * b)])
  | .quo => some (.d (.int k (a.tdiv b)), [b ≠ 0, In k (a.tdiv b)])
  | .rem => some (.d (.int k (a.tmod b)), [b ≠ 0])
  | .eql => some (.d (.bool (decide (a = b))), [])
  | .neq => some (.d (.bool (!decide (a = b))), [])
  | .lss => some (.d (.bool (decide (a < b))), [])
  | .leq => some (.d (.bool (decide (a ≤ b))), [])
  | .gtr => some (.d (.bool (decide (b < a))), [])
  | .geq => some (.d (.bool (decide (b ≤ a))), [])
  | _ => none

section sound
variable {P : Program} {T : Tab} {w : World} {F : Nat → Prop} {σ : Pls}

theorem look_at : ∀ {l : List (Option Blk)} {j : Nat} {b : Blk}, look l j = some b → l[j]? = some (some b)
  | [], _, _, h => by simp [look] at h
  | b :: _, 0, _, h => by simpa [look] using h
  | _ :: r, j + 1, _, h => by simpa using look_at (l := r) (j := j) (by simpa [look] using h)
theorem Mem.get_at {m : Mem} {r : Ref} {b : Blk} (h : m.get r = some b) : m.at r = some (some b) := by
  cases r with
  | loc j => exact look_at h
  | arg j => exact look_at h
  | bad => cases h
theorem dlook_eq : ∀ (l : List D) (j : Nat), dlook l j = l[j]?
  | [], _ => by simp [dlook]
  | _ :: _, 0 => rfl
  | _ :: r, j + 1 => by simpa [dlook] using dlook_eq r j
theorem alook_eq : ∀ (l : List AV) (j : Nat), alook l j = l[j]?
  | [], _ => by simp [alook]
  | _ :: _, 0 => rfl
  | _ :: r, j + 1 => by simpa [alook] using alook_eq r j
theorem dcut_eq {cs : List D} : ∀ {m o : Nat} {l : List D}, dcut cs o m = some l → l.length = m ∧ ∀ j, j < m → l[j]? = cs[o + j]? ∧ o + j < cs.length
  | 0, o, l, h => by simp [dcut] at h; subst h; exact ⟨rfl, fun j hj => absurd hj (by omega)⟩
  | m + 1, o, l, h => by
    simp only [dcut] at h
    split at h
    · rename_i x hx
      split at h
      · rename_i r hr
        injection h with h
        subst h
        obtain ⟨h1, h2⟩ := dcut_eq hr
        rw [dlook_eq] at hx
        refine ⟨by simp [h1], fun j hj => ?_⟩
        cases j with
        | zero => exact ⟨by simpa using hx.symm, (List.getElem?_eq_some_iff.1 hx).1⟩
        | succ j =>
          obtain ⟨h3, h4⟩ := h2 j (by omega)
          have e : o + (j + 1) = o + 1 + j := by omega
          exact ⟨by rw [e]; simpa using h3, by omega⟩
      · cases h
    · cases h
theorem acut_eq {cs : List AV} : ∀ {m o : Nat} {l : List AV}, acut cs o m = some l → l.length = m ∧ ∀ j, j < m → l[j]? = cs[o + j]? ∧ o + j < cs.length
  | 0, o, l, h => by simp [acut] at h; subst h; exact ⟨rfl, fun j hj => absurd hj (by omega)⟩
  | m + 1, o, l, h => by
    simp only [acut] at h
    split at h
    · rename_i x hx
      split at h
      · rename_i r hr
        injection h with h
        subst h
        obtain ⟨h1, h2⟩ := acut_eq hr
        rw [alook_eq] at hx
        refine ⟨by simp [h1], fun j hj => ?_⟩
        cases j with
        | zero => exact ⟨by simpa using hx.symm, (List.getElem?_eq_some_iff.1 hx).1⟩
        | succ j =>
          obtain ⟨h3, h4⟩ := h2 j (by omega)
          have e : o + (j + 1) = o + 1 + j := by omega
          exact ⟨by rw [e]; simpa using h3, by omega⟩
      · cases h
    · cases h
theorem up_eq : ∀ (l : List D), up l = l.map .d
  | [] => rfl
  | x :: r => by simp [up, up_eq r]
theorem up_at {l : List D} {j : Nat} {A : AV} (h : (up l)[j]? = some A) : ∃ x, l[j]? = some x ∧ A = .d x := by
  rw [up_eq] at h
  simp at h
  obtain ⟨x, h1, h2⟩ := h
  exact ⟨x, h1, h2.symm⟩
theorem all_cat {p q : List Prop} (h : ∀ x ∈ cat p q, x) : (∀ x ∈ p, x) ∧ ∀ x ∈ q, x := by
  induction p with
  | nil => exact ⟨fun x hx => by simp at hx, h⟩
  | cons a r ih =>
    have := ih (fun x hx => h x (by simp [cat, hx]))
    exact ⟨fun x hx => by
      rcases List.mem_cons.1 hx with rfl | hx
      · exact h _ (by simp [cat])
      · exact this.1 x hx, this.2⟩

def EnvOk (env : Env) (w : World) (F : Nat → Prop) (σ : Pls) (tmps : Array Value) : Prop := ∀ t, Vc w F σ (get env t) (tmps.getD t undef)

theorem ofConst_ok (v : Value) : Vc w F σ (ofConst v) v := by
  unfold ofConst
  split
  · exact .d .int
  · exact .d .bool
  · exact .d .str
  · exact .d .nilp
  · exact .d .nili
  · exact .d .nilf
  · exact .d .nilm
  · exact .d .nils
  · exact .junk
theorem ev_ok {env : Env} {a : Act} (he : EnvOk env w F σ a.tmps) (x : Operand) : Vc w F σ (ev env x) (a.eval x) := by
  cases x with
  | tmp t => exact he t
  | const v => exact ofConst_ok v
  | func f => exact .d (.fn (us := []) (vs := []) rfl rfl (fun j x u h => by simp at h) (fun j x u h => by simp at h))
  | global g => exact .junk
theorem strip_ok {x : AV} {v : Value} (h : Vc w F σ x v) (hp : ∀ p ∈ (strip x).2, p) : Vc w F σ (strip x).1 v := by
  induction h with
  | @gd b x v h _ ih =>
    simp only [strip] at hp ⊢
    exact ih (hp (b = true) (by simp)) (fun p hpp => hp p (by simp [hpp]))
  | d h => exact .d h
  | agg hl h => exact .agg hl h
  | tup hl h => exact .tup hl h
  | ifc h => exact .ifc h
  | fn h1 h2 h3 h4 => exact .fn h1 h2 h3 h4
  | ptr hr h => exact .ptr hr h
  | osl hr h => exact .osl hr h
  | mp hr h => exact .mp hr h
  | junk => exact .junk

/-- All that is ours reads alike in the two worlds. -/
def Agree (F : Nat → Prop) (σ : Pls) (w w' : World) : Prop := ∀ b, (F b ∨ ∃ r pl t, σ r = some (some pl) ∧ pl.loc = some (b, t)) → w'.heap[b]? = w.heap[b]?
theorem Agree.refl (F : Nat → Prop) (σ : Pls) (w : World) : Agree F σ w w := fun _ _ => rfl

/-! inversions -/
theorem Vc.int {k n v} (h : Vc w F σ (.d (.int k n)) v) : v = .int k n := by cases h with | d h => cases h; rfl
theorem Vc.bool {b v} (h : Vc w F σ (.d (.bool b)) v) : v = .bool b := by cases h with | d h => cases h; rfl
theorem Vc.str {s v} (h : Vc w F σ (.d (.str s)) v) : v = .string s := by cases h with | d h => cases h; rfl

theorem In.wrap {k : IntKind} {n : Int} (h : In k n) : k.wrap n = n := by
  obtain ⟨h1, h2⟩ := h
  cases k <;> simp [IntKind.min, IntKind.max, IntKind.signed, IntKind.bits] at h1 h2
  · exact IntWalk.i8_in n ⟨by omega, by omega⟩
  · exact IntWalk.i16_in n ⟨by omega, by omega⟩
  · exact IntWalk.i32_in n ⟨by omega, by omega⟩
  · exact IntWalk.i64_in n ⟨by omega, by omega⟩
  · exact IntWalk.u8_in n ⟨by omega, by omega⟩
  · exact IntWalk.u16_in n ⟨by omega, by omega⟩
  · exact IntWalk.u32_in n ⟨by omega, by omega⟩
  · exact IntWalk.u64_in n ⟨by omega, by omega⟩

/-- What is to be shown of an operation that only reads: it hands back a value that is as said, in every world that reads as this one. -/
def ReadsAs (P : Program) (F : Nat → Prop) (σ : Pls) (w : World) (s : Sem Value) (A : AV) : Prop :=
  ∃ u, Vc w F σ A u ∧ ∀ w', Agree F σ w w' → s.run P w' = .ok u w'
theorem ReadsAs.const {s : Sem Value} {A : AV} {u : Value} (h : Vc w F σ A u) (hs : ∀ w', s.run P w' = .ok u w') : ReadsAs P F σ w s A := ⟨u, h, fun w' _ => hs w'⟩

theorem binInt_ok {op : BinOp} {t : TypeId} {x y : Operand} {k : IntKind} {a b : Int} {A : AV} {obs : List Prop} (h : binInt op k a b = some (A, obs)) (hob : ∀ p ∈ obs, p) :
    ReadsAs P F σ w (do eqGuard op t x y (.int k a) (.int k b); binOp op t (.int k a) (.int k b)) A := by
  unfold binInt at h
  cases op <;> simp only [Option.some.injEq, Prod.mk.injEq, reduceCtorEq] at h <;> obtain ⟨rfl, rfl⟩ := h
  case add =>
    have hi : In k (a + b) := hob _ (by simp)
    exact .const (.d .int) fun w' => by simp [eqGuard, binOp, Op.intArith, hi.wrap]
  case sub =>
    have hi : In k (a - b) := hob _ (by simp)
    exact .const (.d .int) fun w' => by simp [eqGuard, binOp, Op.intArith, hi.wrap]
  case mul =>
    have hi : In k (a * b) := hob _ (by simp)
    exact .const (.d .int) fun w' => by simp [eqGuard, binOp, Op.intArith, hi.wrap]
  case quo =>
    have hb : b ≠ 0 := hob _ (by simp)
    have hi : In k (a.tdiv b) := hob _ (by simp)
    exact .const (.d .int) fun w' => by simp [eqGuard, binOp, Op.intDiv, hb, hi.wrap]
  case rem =>
    have hb : b ≠ 0 := hob _ (by simp)
    exact .const (.d .int) fun w' => by simp [eqGuard, binOp, Op.intDiv, hb]
  case eql => exact .const (.d .bool) fun w' => by simp [eqGuard, binOp, Op.intCmp]; exact Bool.eq_iff_iff.2 (by simp)
  case neq => exact .const (.d .bool) fun w' => by simp [eqGuard, binOp, Op.intCmp]; exact Bool.eq_iff_iff.2 (by simp)
  case lss => exact .const (.d .bool) fun w' => by simp [eqGuard, binOp, Op.intCmp]
  case leq => exact .const (.d .bool) fun w' => by simp [eqGuard, binOp, Op.intCmp]
  case gtr => exact .const (.d .bool) fun w' => by simp [eqGuard, binOp, Op.intCmp]
  case geq => exact .const (.d .bool) fun w' => by simp [eqGuard, binOp, Op.intCmp]
end sound
end Go.Ab
