/-
  Texts put together: EngI, EngJ, EngK, EngX, EngL, EngU, EngM, EngY.
-/
import Derived.Test.YtmlhghddfobmmaaGreatDoorEngH
import Derived.ArgAppend
import Derived.Deep.Quiet
import Derived.Lib.AppendZerosOnto
import Derived.Sort.QuietThIn
import Derived.RangeFuncIn
import Derived.RangeFuncRecord
import Derived.TacticsIn
/-
 The engine, part I: memory that changes: new blocks, stores, append.
-/
namespace Go.Ab
set_option linter.unusedSimpArgs false
set_option linter.unusedVariables false

def Owned (σ : Pls) (b : Nat) : Prop := ∃ r pl t, σ r = some (some pl) ∧ pl.loc = some (b, t)

/-- What a piece of a run may do to memory. -/
structure Step (σ : Pls) (F : Nat → Prop) (w : World) (σ' : Pls) (F' : Nat → Prop) (w' : World) : Prop where
 os : w'.os = w.os
 tape : w'.tape = w.tape
 output : w'.output = w.output
 drawn : w.drawn ≤ w'.drawn
 size : w.heap.size ≤ w'.heap.size
 keep : ∀ b, b < w.heap.size → ¬ Owned σ b → w'.heap[b]? = w.heap[b]?
 fro : ∀ b, F b → F' b
 fro' : ∀ b, F' b → F b ∨ Owned σ b ∨ w.heap.size ≤ b
 own : ∀ b, Owned σ' b → Owned σ b ∨ w.heap.size ≤ b

section
variable {σ σ' σ'' : Pls} {F F' F'' : Nat → Prop} {w w' w'' : World} {m : Mem}
theorem Step.refl (σ : Pls) (F : Nat → Prop) (w : World) : Step σ F w σ F w :=
 ⟨rfl, rfl, rfl, Nat.le_refl _, Nat.le_refl _, fun _ _ _ => rfl, fun _ h => h, fun _ h => .inl h, fun _ h => .inl h⟩
theorem Step.trans (h : Step σ F w σ' F' w') (k : Step σ' F' w' σ'' F'' w'') : Step σ F w σ'' F'' w'' where
 os := k.os.trans h.os
 tape := k.tape.trans h.tape
 output := k.output.trans h.output
 drawn := Nat.le_trans h.drawn k.drawn
 size := Nat.le_trans h.size k.size
 keep b hb ho := by
  have h1 := h.keep b hb ho
  rw [← h1]
  exact k.keep b (Nat.lt_of_lt_of_le hb h.size) (fun h2 => by
   rcases h.own b h2 with h3 | h3
   ·exact ho h3
   ·omega)
 fro b hb := k.fro b (h.fro b hb)
 fro' b hb := by
  rcases k.fro' b hb with h1 | h1 | h1
  ·exact h.fro' b h1
  ·rcases h.own b h1 with h2 | h2
   ·exact .inr (.inl h2)
   ·exact .inr (.inr h2)
  ·exact .inr (.inr (Nat.le_trans h.size h1))
 own b hb := by
  rcases k.own b hb with h1 | h1
  ·exact h.own b h1
  ·exact .inr (Nat.le_trans h.size h1)
theorem Step.frozen (h : Step σ F w σ' F' w') (hm : MemOk m σ F w) : ∀ b, F b → w'.heap[b]? = w.heap[b]? :=
 fun b hb => h.keep b (hm.fl b hb) (fun ⟨r, pl, t, h1, h2⟩ => (hm.nf r pl b t h1 h2).1 hb)
end

def upd (σ : Pls) (r : Ref) (q : Option Pl) : Pls := fun r' => if r' = r then some q else σ r'
theorem upd_self (σ : Pls) (r : Ref) (q : Option Pl) : upd σ r q r = some q := if_pos rfl
theorem upd_other (σ : Pls) {r r' : Ref} (q : Option Pl) (h : r' ≠ r) : upd σ r q r' = σ r' := if_neg h
theorem SLe.upd_new {σ : Pls} {r : Ref} (q : Option Pl) (h : σ r = none) : SLe σ (upd σ r q) := fun r' q' hq => by
 have : r' ≠ r := fun e => by subst e; rw [h] at hq; cases hq
 exact ⟨q', by rw [upd_other σ q this]; exact hq, QLe.refl q'⟩
theorem SLe.upd_old {σ : Pls} {r : Ref} {q q' : Option Pl} (h : σ r = some q) (hq : QLe q q') : SLe σ (upd σ r q') := fun r' p hp => by
 by_cases e : r' = r
 ·subst e
  rw [h] at hp
  injection hp with hp
  subst hp
  exact ⟨q', upd_self σ _ q', hq⟩
 ·exact ⟨p, by rw [upd_other σ q' e]; exact hp, QLe.refl p⟩

def snoc : List (Option Blk) → Option Blk → List (Option Blk)
 | [], x => [x]
 | b :: r, x => b :: snoc r x
def lenL : List (Option Blk) → Nat
 | [] => 0
 | _ :: r => lenL r + 1
def putAt : List (Option Blk) → Nat → Option Blk → List (Option Blk)
 | [], _, _ => []
 | _ :: r, 0, x => x :: r
 | b :: r, j + 1, x => b :: putAt r j x
def Mem.put (m : Mem) (r : Ref) (b : Option Blk) : Mem :=
 match r with
 | .loc j => ⟨putAt m.loc j b, m.own⟩
 | .arg j => ⟨m.loc, putAt m.own j b⟩
 | .bad => m
def Mem.add (m : Mem) (b : Blk) : Mem := ⟨snoc m.loc (some b), m.own⟩
def Mem.new (m : Mem) : Ref := .loc (lenL m.loc)

section
variable {σ : Pls} {F : Nat → Prop} {w w' : World} {m : Mem}
theorem snoc_eq (l : List (Option Blk)) (x : Option Blk) : snoc l x = l ++ [x] := by
 induction l with
 | nil => rfl
 | cons b r ih => simp [snoc, ih]
theorem lenL_eq (l : List (Option Blk)) : lenL l = l.length := by
 induction l with
 | nil => rfl
 | cons b r ih => simp [lenL, ih]
theorem putAt_eq : ∀ (l : List (Option Blk)) (j : Nat) (x : Option Blk), putAt l j x = l.set j x
 | [], _, _ => rfl
 | _ :: _, 0, _ => rfl
 | b :: r, j + 1, x => by simp [putAt, putAt_eq r j x]
theorem put_self {r : Ref} {b : Option Blk} (x : Option Blk) (h : m.at r = some b) : (m.put r x).at r = some x := by
 cases r with
 | loc j =>
  simp only [Mem.put, Mem.at, putAt_eq]
  have : j < m.loc.length := by
   rcases Nat.lt_or_ge j m.loc.length with h' | h'
   ·exact h'
   ·simp [Mem.at, List.getElem?_eq_none h'] at h
  simp [this]
 | arg j =>
  simp only [Mem.put, Mem.at, putAt_eq]
  have : j < m.own.length := by
   rcases Nat.lt_or_ge j m.own.length with h' | h'
   ·exact h'
   ·simp [Mem.at, List.getElem?_eq_none h'] at h
  simp [this]
 | bad => cases h
theorem put_other {r r' : Ref} (x : Option Blk) (h : r' ≠ r) : (m.put r x).at r' = m.at r' := by
 cases r with
 | loc j =>
  cases r' with
  | loc j' =>
   have : j ≠ j' := fun e => h (by rw [e])
   simp [Mem.put, Mem.at, putAt_eq, this]
  | _ => rfl
 | arg j =>
  cases r' with
  | arg j' =>
   have : j ≠ j' := fun e => h (by rw [e])
   simp [Mem.put, Mem.at, putAt_eq, this]
  | _ => rfl
 | bad => rfl
theorem new_none (hm : MemOk m σ F w) : σ m.new = none := (hm.dom _).2 (by simp [Mem.new, Mem.at, lenL_eq])
theorem add_new (B : Blk) : (m.add B).at m.new = some (some B) := by
 simp [Mem.add, Mem.at, Mem.new, snoc_eq, lenL_eq]
theorem add_old {r : Ref} (B : Blk) (h : r ≠ m.new) : (m.add B).at r = m.at r := by
 cases r with
 | loc j =>
  have : j ≠ m.loc.length := fun e => h (by simp [Mem.new, lenL_eq, e])
  simp only [Mem.add, Mem.at, snoc_eq]
  rcases Nat.lt_or_ge j m.loc.length with h' | h'
  ·rw [List.getElem?_append_left h']
  ·rw [List.getElem?_eq_none (by simp; omega), List.getElem?_eq_none h']
 | _ => rfl

/-- A block of ours comes new into being. -/
theorem fresh_ok (hm : MemOk m σ F w) {B : Blk} {pl : Pl} (hsz : w.heap.size ≤ w'.heap.size) (hk : ∀ b, b < w.heap.size → w'.heap[b]? = w.heap[b]?)
  (hB : BlkOk w' F (upd σ m.new (some pl)) B pl) (hl : ∀ b t, pl.loc = some (b, t) → w.heap.size ≤ b ∧ b < w'.heap.size) :
  MemOk (m.add B) (upd σ m.new (some pl)) F w' ∧ SLe σ (upd σ m.new (some pl)) := by
 have hn := new_none hm
 have hs := SLe.upd_new (σ := σ) (r := m.new) (some pl) hn
 have hkF : ∀ b, F b → w'.heap[b]? = w.heap[b]? := fun b hb => hk b (hm.fl b hb)
 refine ⟨⟨fun r => ?_, fun r q hq => ?_, fun r r' p p' b t t' h1 h2 h3 h4 => ?_, fun r p b t h1 h2 => ?_, fun b hb => Nat.lt_of_lt_of_le (hm.fl b hb) hsz, hm.gl.mono (fun _ h => h) hkF⟩, hs⟩
 ·by_cases e : r = m.new
  ·subst e; rw [upd_self, add_new]; simp
  ·rw [upd_other σ _ e, add_old B e]; exact hm.dom r
 ·by_cases e : r = m.new
  ·subst e
   rw [upd_self] at hq
   injection hq with hq
   subst hq
   exact ⟨(fun h => by cases h), fun p hp => by injection hp with hp; subst hp; exact ⟨B, add_new B, hB⟩⟩
  ·rw [upd_other σ _ e] at hq
   rw [add_old B e]
   refine ⟨(hm.lv r q hq).1, fun p hp => ?_⟩
   obtain ⟨B', h1, h2⟩ := (hm.lv r q hq).2 p hp
   exact ⟨B', h1, h2.mono (fun _ h => h) hkF hs (fun b t hl => hk b (hm.nf r p b t (by rw [hq, hp]) hl).2)⟩
 ·by_cases e : r = m.new <;> by_cases e' : r' = m.new
  ·rw [e, e']
  ·exfalso
   subst e
   rw [upd_self] at h1
   injection h1 with h1
   injection h1 with h1
   subst h1
   rw [upd_other σ _ e'] at h2
   have := (hm.nf r' p' b t' h2 h4).2
   have := (hl b t h3).1
   omega
  ·exfalso
   subst e'
   rw [upd_self] at h2
   injection h2 with h2
   injection h2 with h2
   subst h2
   rw [upd_other σ _ e] at h1
   have := (hm.nf r p b t h1 h3).2
   have := (hl b t' h4).1
   omega
  ·rw [upd_other σ _ e] at h1
   rw [upd_other σ _ e'] at h2
   exact hm.inj r r' p p' b t t' h1 h2 h3 h4
 ·by_cases e : r = m.new
  ·subst e
   rw [upd_self] at h1
   injection h1 with h1
   injection h1 with h1
   subst h1
   refine ⟨fun hF => ?_, (hl b t h2).2⟩
   have := hm.fl b hF
   have := (hl b t h2).1
   omega
  ·rw [upd_other σ _ e] at h1
   exact ⟨(hm.nf r p b t h1 h2).1, Nat.lt_of_lt_of_le (hm.nf r p b t h1 h2).2 hsz⟩

/-- A block of ours turns: it is written, or another takes its place. -/
theorem change_ok (hm : MemOk m σ F w) {r : Ref} {pl pl' : Pl} {B' : Blk} (hr : σ r = some (some pl)) (hsz : w.heap.size ≤ w'.heap.size)
  (hk : ∀ b, b < w.heap.size → (∀ t, pl.loc ≠ some (b, t)) → w'.heap[b]? = w.heap[b]?)
  (hle : pl.g ≤ pl'.g ∧ (pl'.g = pl.g → pl' = pl)) (hB : BlkOk w' F (upd σ r (some pl')) B' pl')
  (hl : ∀ b t, pl'.loc = some (b, t) → b < w'.heap.size ∧ ((∃ t', pl.loc = some (b, t')) ∨ w.heap.size ≤ b)) :
  MemOk (m.put r (some B')) (upd σ r (some pl')) F w' ∧ SLe σ (upd σ r (some pl')) := by
 have hq : QLe (some pl) (some pl') := fun p hp => by injection hp with hp; subst hp; exact ⟨pl, rfl, hle.1, hle.2⟩
 have hs := SLe.upd_old hr hq
 obtain ⟨B, hB0, _⟩ := (hm.lv r _ hr).2 pl rfl
 have hkF : ∀ b, F b → w'.heap[b]? = w.heap[b]? := fun b hb => hk b (hm.fl b hb) (fun t ht => (hm.nf r pl b t hr ht).1 hb)
 refine ⟨⟨fun r' => ?_, fun r' q hq => ?_, fun r1 r2 p p' b t t' h1 h2 h3 h4 => ?_, fun r' p b t h1 h2 => ?_, fun b hb => Nat.lt_of_lt_of_le (hm.fl b hb) hsz, hm.gl.mono (fun _ h => h) hkF⟩, hs⟩
 ·by_cases e : r' = r
  ·subst e; rw [upd_self, put_self _ hB0]; simp
  ·rw [upd_other σ _ e, put_other _ e]; exact hm.dom r'
 ·by_cases e : r' = r
  ·subst e
   rw [upd_self] at hq
   injection hq with hq
   subst hq
   exact ⟨(fun h => by cases h), fun p hp => by injection hp with hp; subst hp; exact ⟨B', put_self _ hB0, hB⟩⟩
  ·rw [upd_other σ _ e] at hq
   rw [put_other _ e]
   refine ⟨(hm.lv r' q hq).1, fun p hp => ?_⟩
   obtain ⟨B1, h1, h2⟩ := (hm.lv r' q hq).2 p hp
   refine ⟨B1, h1, h2.mono (fun _ h => h) hkF hs (fun b t hl => hk b (hm.nf r' p b t (by rw [hq, hp]) hl).2 (fun t' ht' => e ?_))⟩
   exact hm.inj r' r p pl b t t' (by rw [hq, hp]) hr hl ht'
 ·by_cases e : r1 = r <;> by_cases e' : r2 = r
  ·rw [e, e']
  ·exfalso
   subst e
   rw [upd_self] at h1
   injection h1 with h1
   injection h1 with h1
   subst h1
   rw [upd_other σ _ e'] at h2
   rcases (hl b t h3).2 with ⟨t1, ht1⟩ | h5
   ·exact e' (hm.inj _ _ p' pl b t' t1 h2 hr h4 ht1)
   ·have := (hm.nf r2 p' b t' h2 h4).2; omega
  ·exfalso
   subst e'
   rw [upd_self] at h2
   injection h2 with h2
   injection h2 with h2
   subst h2
   rw [upd_other σ _ e] at h1
   rcases (hl b t' h4).2 with ⟨t1, ht1⟩ | h5
   ·exact e (hm.inj _ _ p pl b t t1 h1 hr h3 ht1)
   ·have := (hm.nf r1 p b t h1 h3).2; omega
  ·rw [upd_other σ _ e] at h1
   rw [upd_other σ _ e'] at h2
   exact hm.inj r1 r2 p p' b t t' h1 h2 h3 h4
 ·by_cases e : r' = r
  ·subst e
   rw [upd_self] at h1
   injection h1 with h1
   injection h1 with h1
   subst h1
   refine ⟨fun hF => ?_, (hl b t h2).1⟩
   rcases (hl b t h2).2 with ⟨t1, ht1⟩ | h5
   ·exact (hm.nf r' pl b t1 hr ht1).1 hF
   ·have := hm.fl b hF; omega
  ·rw [upd_other σ _ e] at h1
   exact ⟨(hm.nf r' p b t h1 h2).1, Nat.lt_of_lt_of_le (hm.nf r' p b t h1 h2).2 hsz⟩
theorem own_upd_new {pl : Pl} {r : Ref} (hl : ∀ b t, pl.loc = some (b, t) → w.heap.size ≤ b) : ∀ b, Owned (upd σ r (some pl)) b → Owned σ b ∨ w.heap.size ≤ b := fun b ⟨r', p, t, h1, h2⟩ => by
 by_cases e : r' = r
 ·subst e
  rw [upd_self] at h1
  injection h1 with h1
  injection h1 with h1
  subst h1
  exact .inr (hl b t h2)
 ·rw [upd_other σ _ e] at h1
  exact .inl ⟨r', p, t, h1, h2⟩
theorem own_upd_old {pl pl' : Pl} {r : Ref} (hr : σ r = some (some pl)) (hl : ∀ b t, pl'.loc = some (b, t) → (∃ t', pl.loc = some (b, t')) ∨ w.heap.size ≤ b) : ∀ b, Owned (upd σ r (some pl')) b → Owned σ b ∨ w.heap.size ≤ b := fun b ⟨r', p, t, h1, h2⟩ => by
 by_cases e : r' = r
 ·subst e
  rw [upd_self] at h1
  injection h1 with h1
  injection h1 with h1
  subst h1
  rcases hl b t h2 with ⟨t', ht'⟩ | h3
  ·exact .inl ⟨r', pl, t', hr, ht'⟩
  ·exact .inr h3
 ·rw [upd_other σ _ e] at h1
  exact .inl ⟨r', p, t, h1, h2⟩
end
end Go.Ab
/-
 The engine, part J: boxes, variables, stores, slice literals.
-/
namespace Go.Ab
set_option linter.unusedSimpArgs false
set_option linter.unusedVariables false

def evStore (T : Tab) (m : Mem) (t : TypeId) (X : AV) (new : List AV) : Option (Mem × List Prop) :=
 match T.at t with
 | none => none
 | some ti => bif Nat.beq (count new) ti.size then
   match X with
   | .ptr r g i off => match m.get r with
    | some (.box e cs) => bif Nat.beq g 0 && Nat.beq i 0 && Nat.ble (off + ti.size) (count cs) then some (m.put r (some (.box e (splice cs off new))), []) else none
    | some (.vec e sz g' n f) => bif Nat.ble (off + ti.size) sz then
      some (m.put r (some (.vec e sz g' n fun j => bif Nat.beq j i then splice (f i) off new else f j)), [g' = g, i < n]) else none
    | _ => none
   | _ => none
  else none
/-- The rows of a slice's literal: all places written, in order. -/
def rowsOf (m : Mem) (sz : Nat) : Nat → List (Nat × AV) → Option (List (List AV) × List Prop)
 | _, [] => some ([], [])
 | k, (i, A) :: r => bif Nat.beq i k then match cellsOf m A with
   | none => none
   | some (cs, p) => bif Nat.beq (count cs) sz then match rowsOf m sz (k + 1) r with
     | none => none
     | some (l, q) => some (cs :: l, cat p q)
    else none
  else none
def nthRow : List (List AV) → Nat → List AV
 | [], _ => []
 | c :: _, 0 => c
 | _ :: r, i + 1 => nthRow r i
def rowFn : List (List AV) → Nat → List AV
 | [c] => fun _ => c
 | l => nthRow l
def countR : List (List AV) → Nat
 | [] => 0
 | _ :: r => countR r + 1
def evBuildSlice (T : Tab) (m : Mem) (t : TypeId) (n : Nat) (parts : List (Nat × AV)) : Option (AV × Mem × List Prop) :=
 match elemOf T t with
 | none => none
 | some (e, sz) => match rowsOf m sz 0 parts with
  | none => none
  | some (rows, p) => bif Nat.beq (countR rows) n && Nat.ble (n * sz) 65536 then some (.osl m.new 0 0 n, m.add (.vec e sz 0 n (rowFn rows)), p) else none

section sound
variable {P : Program} {T : Tab} {w : World} {F : Nat → Prop} {σ : Pls} {m : Mem}

/-- What is to be shown of an operation that turns memory. -/
def EffOp (P : Program) (F : Nat → Prop) (σ : Pls) (w : World) (ρ : Operand → Value) (o : Oper) (A : AV) (m' : Mem) : Prop :=
 ∃ n u w' σ', (execOp ρ o).run P w = .ok n w' ∧ (n = .value u ∨ (n = .skip ∧ u = undef)) ∧ Vc w' F σ' A u ∧ MemOk m' σ' F w' ∧ Step σ F w σ' F w' ∧ SLe σ σ'

theorem size_alloc (w : World) (o : Obj) : (w.alloc o).heap.size = w.heap.size + 1 := World.size_alloc w o
theorem step_alloc {pl : Pl} {o : Obj} (hl : ∀ b t, pl.loc = some (b, t) → w.heap.size ≤ b) : Step σ F w (upd σ m.new (some pl)) F (w.alloc o) where
 os := rfl
 tape := rfl
 output := rfl
 drawn := Nat.le_refl _
 size := by rw [size_alloc]; omega
 keep b hb _ := heap_alloc_old w o b hb
 fro _ h := h
 fro' _ h := .inl h
 own := own_upd_new hl

theorem box_ok (hm : MemOk m σ F w) {t : TypeId} {cs : List AV} {us : List Value} (hc : CellsOk w F σ cs us) :
  ∃ σ', Vc (w.alloc (.cells us.toArray t)) F σ' (.ptr m.new 0 0 0) (.pointer (some ⟨w.heap.size, 0, none⟩)) ∧ MemOk (m.add (.box t cs)) σ' F (w.alloc (.cells us.toArray t)) ∧ Step σ F w σ' F (w.alloc (.cells us.toArray t)) ∧ SLe σ σ' := by
 let pl : Pl := ⟨0, cs.length, some (w.heap.size, 1)⟩
 have hn := new_none hm
 have hs := SLe.upd_new (σ := σ) (r := m.new) (some pl) hn
 have hkF : ∀ b, F b → (w.alloc (.cells us.toArray t)).heap[b]? = w.heap[b]? := fun b hb => heap_alloc_old w _ b (hm.fl b hb)
 have hB : BlkOk (w.alloc (.cells us.toArray t)) F (upd σ m.new (some pl)) (.box t cs) pl :=
  ⟨rfl, rfl, w.heap.size, rfl, us, heap_alloc_new w _, hc.1, fun j A u hA hu => ⟨(hc.2 j A u hA hu).1.mono (fun _ h => h) hkF hs, (hc.2 j A u hA hu).2⟩⟩
 obtain ⟨h1, h2⟩ := fresh_ok (w' := w.alloc (.cells us.toArray t)) hm (by rw [size_alloc]; omega) (fun b hb => heap_alloc_old w _ b hb) hB (fun b t' h => by
  simp only [pl, Option.some.injEq, Prod.mk.injEq] at h
  obtain ⟨rfl, _⟩ := h
  exact ⟨Nat.le_refl _, by rw [size_alloc]; omega⟩)
 refine ⟨_, .ptr (upd_self σ m.new (some pl)) fun p hp => ?_, h1, step_alloc (fun b t' h => ?_), h2⟩
 ·injection hp with hp
  subst hp
  exact ⟨Nat.le_refl _, fun _ => ⟨w.heap.size, 1, rfl, by simp⟩⟩
 ·simp only [pl, Option.some.injEq, Prod.mk.injEq] at h
  omega

theorem mid_at {us vs : List Value} {o : Nat} (h : o + vs.length ≤ us.length) (k : Nat) :
  (us.take o ++ vs ++ us.drop (o + vs.length))[k]? = if o ≤ k ∧ k < o + vs.length then vs[k - o]? else us[k]? := by
 by_cases h1 : k < o
 ·rw [if_neg (by omega), List.append_assoc, List.getElem?_append_left (by simp; omega)]
  simp [h1]
 ·by_cases h2 : k < o + vs.length
  ·rw [if_pos ⟨by omega, h2⟩, List.getElem?_append_left (by simp; omega), List.getElem?_append_right (by simp; omega)]
   simp [Nat.min_eq_left (show o ≤ us.length by omega)]
  ·rw [if_neg (by omega), List.getElem?_append_right (by simp; omega)]
   simp only [List.length_append, List.length_take, Nat.min_eq_left (show o ≤ us.length by omega), List.getElem?_drop]
   congr 1
   omega
theorem mid_length {us vs : List Value} {o : Nat} (h : o + vs.length ≤ us.length) : (us.take o ++ vs ++ us.drop (o + vs.length)).length = us.length := by simp; omega

theorem step_setRow {r : Ref} {pl : Pl} {b tot : Nat} (hr : σ r = some (some pl)) (hl : pl.loc = some (b, tot)) (cs : Array Value) : Step σ F w (upd σ r (some pl)) F (w.setRow b cs) where
 os := rfl
 tape := rfl
 output := rfl
 drawn := Nat.le_refl _
 size := by rw [size_setRow]; exact Nat.le_refl _
 keep b' _ ho := setRow_other w b b' cs (fun e => ho ⟨r, pl, tot, hr, by rw [e]; exact hl⟩)
 fro _ h := h
 fro' _ h := .inl h
 own := own_upd_old hr (fun b' t h => .inl ⟨t, h⟩)

theorem evStore_ok (hT : TabOk P T) (hm : MemOk m σ F w) {t : TypeId} {x : AV} {X V : Value} {new : List AV} {vs : List Value} {m' : Mem} {p : List Prop} (hx : Vc w F σ x X) (hv : V.cells = vs.toArray) (hc : CellsOk w F σ new vs)
  (h : evStore T m t x new = some (m', p)) (hp : ∀ q ∈ p, q) : ∃ w' σ', (Instr.storeAt t X V).run P w = .ok () w' ∧ MemOk m' σ' F w' ∧ Step σ F w σ' F w' ∧ SLe σ σ' := by
 unfold evStore at h
 split at h <;> try (cases h; done)
 rename_i ti hti
 have ht := hT _ _ hti
 cases hcn : Nat.beq (count new) ti.size with
 | false => rw [hcn] at h; cases h
 | true =>
  rw [hcn] at h
  simp only [cond_true] at h
  have hcn := Nat.eq_of_beq_eq_true hcn
  rw [count_eq] at hcn
  have hvs : vs.length = ti.size := by rw [hc.1, hcn]
  have hone : ∀ v ∈ vs, v.oneCell' = true := fun v hvm => by
   obtain ⟨j, hj, rfl⟩ := List.getElem_of_mem hvm
   have hj' : j < new.length := by rw [← hc.1]; exact hj
   exact (hc.2 j _ _ (List.getElem?_eq_getElem hj') (List.getElem?_eq_getElem hj)).2
  have hrun : ∀ (b o : Nat) (cur : List Value) (e : TypeId), w.heap[b]? = some (.cells cur.toArray e (0, 0)) → o + vs.length ≤ cur.length →
    (Instr.storeAt t (.pointer (some ⟨b, o, none⟩)) V).run P w = .ok () (w.setRow b (cur.take o ++ vs ++ cur.drop (o + vs.length)).toArray) := by
   intro b o cur e hh hfit
   have := run_storeCells_at P b o e vs 0 cur.toArray w hh (by simpa using hfit) hone
   simp only [Nat.add_zero] at this
   simp [Instr.storeAt, Instr.sureAddr, storeVar, hv, run_sizeOf ht, hvs, this]
  split at h <;> try (cases h; done)
  rename_i r g i off
  split at h <;> try (cases h; done)
  ·rename_i e cs hB
   cases hgi : (Nat.beq g 0 && Nat.beq i 0 && Nat.ble (off + ti.size) (count cs)) with
   | false => rw [hgi] at h; cases h
   | true =>
    rw [hgi] at h
    simp only [cond_true, Option.some.injEq, Prod.mk.injEq] at h
    obtain ⟨rfl, rfl⟩ := h
    simp only [Bool.and_eq_true, count_eq] at hgi
    have hg := Nat.eq_of_beq_eq_true hgi.1.1
    have hi := Nat.eq_of_beq_eq_true hgi.1.2
    have hfit := Nat.le_of_ble_eq_true hgi.2
    subst hg; subst hi
    obtain ⟨pl, hr, hok, _, hat⟩ := ptr_row hm hx (Mem.get_at hB)
    obtain ⟨h0, hsz, b, hl, us, hheap, hlen, hvc⟩ := hok
    obtain ⟨b', tot, hl', hX⟩ := hat h0
    rw [hl] at hl'
    obtain ⟨rfl, rfl⟩ := Prod.mk.inj (Option.some.inj hl')
    subst hX
    have hfit' : off + vs.length ≤ us.length := by omega
    have hr1 := hrun b off us e hheap hfit'
    have hsp := CellsOk.splice (cs := cs) (us := us) (new := new) (vs := vs) (o := off) ⟨hlen, hvc⟩ hc (by omega)
    have hstep := step_setRow (F := F) (w := w) hr hl (us.take off ++ vs ++ us.drop (off + vs.length)).toArray
    have hq : QLe (some pl) (some pl) := QLe.refl _
    have hs := SLe.upd_old hr hq
    have hkF : ∀ b', F b' → (w.setRow b (us.take off ++ vs ++ us.drop (off + vs.length)).toArray).heap[b']? = w.heap[b']? := fun b' hb' => setRow_other w b b' _ (fun e => (hm.nf r pl b 1 hr hl).1 (e ▸ hb'))
    obtain ⟨h1, h2⟩ := change_ok (w' := w.setRow b (us.take off ++ vs ++ us.drop (off + vs.length)).toArray) (pl' := pl) (B' := .box e (splice cs off new)) hm hr (by rw [size_setRow]; exact Nat.le_refl _) (fun b' _ ht => setRow_other w b b' _ (fun e => ht 1 (by rw [hl, e]))) ⟨Nat.le_refl _, fun _ => rfl⟩
     ⟨h0, by rw [hsz, splice_length], b, hl, _, setRow_heap w b us.toArray _ e (0, 0) hheap, hsp.1, fun j A u hA hu => ⟨(hsp.2 j A u hA hu).1.mono (fun _ h => h) hkF hs, (hsp.2 j A u hA hu).2⟩⟩
     (fun b' t' h => ⟨by rw [size_setRow]; exact (hm.nf r pl b' t' hr h).2, .inl ⟨t', h⟩⟩)
    refine ⟨_, _, ?_, h1, hstep, h2⟩
    simpa using hr1
  ·rename_i e sz g' n f hB
   cases hgi : Nat.ble (off + ti.size) sz with
   | false => rw [hgi] at h; cases h
   | true =>
    rw [hgi] at h
    simp only [cond_true, Option.some.injEq, Prod.mk.injEq] at h
    obtain ⟨rfl, rfl⟩ := h
    have hfit := Nat.le_of_ble_eq_true hgi
    have hg : g' = g := hp _ (by simp)
    have hi : i < n := hp _ (by simp)
    subst hg
    obtain ⟨pl, hr, hok, _, hat⟩ := ptr_row hm hx (Mem.get_at hB)
    obtain ⟨h0, hsz, hn0, hrow, hl⟩ := hok
    obtain ⟨b, tot, hl', hX⟩ := hat h0
    obtain ⟨hnt, htm, us, hheap, hlen, hvc⟩ := hl b tot hl'
    subst hX
    have hmul : ∀ a c : Nat, a < c → a * sz + sz ≤ c * sz := fun a c hac => by
     have := Nat.mul_le_mul_right sz (show a + 1 ≤ c from hac)
     rw [Nat.add_mul] at this
     omega
    have hin := hmul i tot (by omega)
    have hfit' : i * sz + off + vs.length ≤ us.length := by omega
    have hr1 := hrun b (i * sz + off) us e hheap hfit'
    have hstep := step_setRow (F := F) (w := w) hr hl' (us.take (i * sz + off) ++ vs ++ us.drop (i * sz + off + vs.length)).toArray
    have hs := SLe.upd_old hr (QLe.refl (some pl))
    have hkF : ∀ b', F b' → (w.setRow b (us.take (i * sz + off) ++ vs ++ us.drop (i * sz + off + vs.length)).toArray).heap[b']? = w.heap[b']? := fun b' hb' => setRow_other w b b' _ (fun e => (hm.nf r pl b tot hr hl').1 (e ▸ hb'))
    have hlenf : off + new.length ≤ (f i).length := by rw [hrow i hi]; omega
    obtain ⟨h1, h2⟩ := change_ok (w' := w.setRow b (us.take (i * sz + off) ++ vs ++ us.drop (i * sz + off + vs.length)).toArray) (pl' := pl) (B' := .vec e sz g' n fun j => bif Nat.beq j i then splice (f i) off new else f j) hm hr (by rw [size_setRow]; exact Nat.le_refl _) (fun b' _ ht => setRow_other w b b' _ (fun e => ht tot (by rw [hl', e]))) ⟨Nat.le_refl _, fun _ => rfl⟩
     ⟨h0, hsz, hn0, fun k hk => by
       show (bif Nat.beq k i then splice (f i) off new else f k).length = sz
       cases hki : Nat.beq k i with
       | true => simp only [cond_true, splice_length]; exact hrow i hi
       | false => simp only [cond_false]; exact hrow k hk,
      fun b1 tot1 hl1 => by
       rw [hl'] at hl1
       obtain ⟨rfl, rfl⟩ := Prod.mk.inj (Option.some.inj hl1)
       refine ⟨hnt, htm, _, setRow_heap w b us.toArray _ e (0, 0) hheap, by rw [mid_length hfit']; exact hlen, fun k j A hk hA => ?_⟩
       rw [mid_at hfit']
       replace hA : (bif Nat.beq k i then splice (f i) off new else f k)[j]? = some A := hA
       cases hki : Nat.beq k i with
       | true =>
        have := Nat.eq_of_beq_eq_true hki
        subst this
        rw [hki] at hA
        simp only [cond_true] at hA
        rw [splice_at _ _ _ _ hlenf] at hA
        by_cases hj : off ≤ j ∧ j < off + new.length
        ·rw [if_pos hj] at hA
         have hjv : j - off < vs.length := by omega
         refine ⟨vs[j - off], ?_, ?_⟩
         ·rw [if_pos (by omega)]
          have : k * sz + j - (k * sz + off) = j - off := by omega
          rw [this]
          exact List.getElem?_eq_getElem hjv
         ·have := hc.2 (j - off) A _ hA (List.getElem?_eq_getElem hjv)
          exact ⟨this.1.mono (fun _ h => h) hkF hs, this.2⟩
        ·rw [if_neg hj] at hA
         obtain ⟨u, hu, hvu, h1u⟩ := hvc k j A hk hA
         exact ⟨u, by rw [if_neg (by omega)]; exact hu, hvu.mono (fun _ h => h) hkF hs, h1u⟩
       | false =>
        have hne := Nat.ne_of_beq_eq_false hki
        rw [hki] at hA
        simp only [cond_false] at hA
        obtain ⟨u, hu, hvu, h1u⟩ := hvc k j A hk hA
        have hjs : j < sz := by rw [← hrow k hk]; exact (List.getElem?_eq_some_iff.1 hA).1
        refine ⟨u, ?_, hvu.mono (fun _ h => h) hkF hs, h1u⟩
        rw [if_neg]
        ·exact hu
        ·rcases Nat.lt_or_gt_of_ne hne with h3 | h3
         ·have := hmul k i h3; omega
         ·have := hmul i k h3; omega⟩
     (fun b' t' h => ⟨by rw [size_setRow]; exact (hm.nf r pl b' t' hr h).2, .inl ⟨t', h⟩⟩)
    refine ⟨_, _, ?_, h1, hstep, h2⟩
    rw [hsz]
    exact hr1
end sound
end Go.Ab
/-
 The engine, part K: slice literals and append; all operations that turn memory.
-/
namespace Go.Ab
set_option linter.unusedSimpArgs false
set_option linter.unusedVariables false

/-- Rows that are read to be appended: how many, and what they hold. -/
def srcOf (m : Mem) (sz : Nat) : AV → Option (Nat × (Nat → List AV) × List Prop)
 | .d .nils => some (0, fun _ => [], [])
 | .d (.sl sz' n f) => bif Nat.beq sz' sz then some (n, fun i => up (f i), []) else none
 | .osl r g off n => match m.get r with
  | some (.vec _ sz' g' n' f) => bif Nat.beq sz' sz then bif Nat.beq off 0 then some (n, f, [g' = g, n ≤ n']) else some (n, fun i => f (off + i), [g' = g, off + n ≤ n']) else none
  | _ => none
 | _ => none
def bytesAt (T : Tab) (e : TypeId) : Nat :=
 match T.at e with
 | some ti => ti.bytes
 | none => 0
def joinF (n : Nat) (f h : Nat → List AV) : Nat → List AV := fun j => bif Nat.blt j n then f j else h (j - n)
def evAppend (T : Tab) (m : Mem) (t : TypeId) (s x : AV) : Option (AV × Mem × List Prop) :=
 match elemOf T t with
 | none => none
 | some (e, sz) => bif Nat.beq (bytesAt T e) 0 then none else match srcOf m sz x with
  | none => none
  | some (k, h, p) => match s with
   | .d .nils => some (.osl m.new 0 0 k, m.add (.vec e sz 0 k h), cat p [k * bytesAt T e ≤ 140737488355328])
   | .d (.slc sz' n f) => bif Nat.beq sz' sz then some (.osl m.new 0 0 (n + k), m.add (.vec e sz 0 (n + k) (joinF n (fun i => up (f i)) h)), cat p [0 < k, (n + k) * bytesAt T e ≤ 140737488355328]) else none
   | .osl r g off n => match m.get r with
    | some (.vec e' sz' g' n' f) => bif Nat.beq e' e && Nat.beq sz' sz && Nat.beq off 0 then
      some (.osl r (g + 1) 0 (n + k), m.put r (some (.vec e sz (g + 1) (n + k) (joinF n f h))), cat p [g' = g, n' = n, (n + k) * bytesAt T e ≤ 140737488355328])
      else none
    | _ => none
   | _ => none

section sound
variable {P : Program} {T : Tab} {w : World} {F : Nat → Prop} {σ : Pls} {m : Mem}

/-- Rows of cells, abstract and true. -/
def RowsAt (w : World) (F : Nat → Prop) (σ : Pls) (sz n : Nat) (f : Nat → List AV) (us : List Value) : Prop :=
 (∀ i, i < n → (f i).length = sz) ∧ n * sz ≤ us.length ∧ ∀ (i j : Nat) A, i < n → (f i)[j]? = some A → ∃ u, us[i * sz + j]? = some u ∧ Vc w F σ A u ∧ u.oneCell' = true

theorem row_lt {i j n sz : Nat} (hi : i < n) (hj : j < sz) : i * sz + j < n * sz := by
 have := Nat.mul_le_mul_right sz (show i + 1 ≤ n from hi)
 rw [Nat.add_mul] at this
 omega

theorem nthRow_eq : ∀ (l : List (List AV)) (i : Nat) (hi : i < l.length), nthRow l i = l[i]
 | c :: _, 0, _ => rfl
 | _ :: r, i + 1, hi => by simpa [nthRow] using nthRow_eq r i (by simpa using hi)
theorem rowFn_eq {l : List (List AV)} {i : Nat} (hi : i < l.length) : rowFn l i = l[i] := by
 unfold rowFn
 split
 ·simp at hi
  subst hi
  rfl
 ·exact nthRow_eq l i hi
theorem countR_eq : ∀ l : List (List AV), countR l = l.length
 | [] => rfl
 | _ :: r => by simp [countR, countR_eq r]

theorem rowsOf_ok (hm : MemOk m σ F w) {sz : Nat} : ∀ (parts : List (Nat × AV)) (vals : List (Nat × Value)) (k : Nat) (rows : List (List AV)) (p : List Prop) (cur : List Value),
  vals.map (·.1) = parts.map (·.1) → (∀ (j : Nat) a b, parts[j]? = some a → vals[j]? = some b → Vc w F σ a.2 b.2) → rowsOf m sz k parts = some (rows, p) → (∀ q ∈ p, q) → (k + parts.length) * sz ≤ cur.length →
  ∃ us : List Value, us.length = rows.length * sz ∧ rows.length = parts.length ∧ Instr.fill (fun i => some (i * sz, sz)) cur.toArray vals = some (cur.take (k * sz) ++ us ++ cur.drop (k * sz + us.length)).toArray ∧
   ∀ (i j : Nat) (hi : i < rows.length), (rows[i].length = sz) ∧ ∀ A, rows[i][j]? = some A → ∃ u, us[i * sz + j]? = some u ∧ Vc w F σ A u ∧ u.oneCell' = true
 | [], vals, k, rows, p, cur, hk, hv, h, hp, hfit => by
  have : vals = [] := by simpa using hk
  subst this
  simp [rowsOf] at h
  obtain ⟨rfl, rfl⟩ := h
  exact ⟨[], by simp, rfl, by simp [Instr.fill], fun i j hi => absurd hi (by simp)⟩
 | (i0, A0) :: r, vals, k, rows, p, cur, hk, hv, h, hp, hfit => by
  cases vals with
  | nil => simp at hk
  | cons iv vals =>
   obtain ⟨i1, v⟩ := iv
   simp only [List.map_cons, List.cons.injEq] at hk
   obtain ⟨hi, hk2⟩ := hk
   subst hi
   simp only [rowsOf] at h
   cases hb : Nat.beq i1 k with
   | false => rw [hb] at h; cases h
   | true =>
    rw [hb] at h
    simp only [cond_true] at h
    have hik := Nat.eq_of_beq_eq_true hb
    subst hik
    split at h <;> try (cases h; done)
    rename_i cs q hcells
    cases hc : Nat.beq (count cs) sz with
    | false => rw [hc] at h; cases h
    | true =>
     rw [hc] at h
     simp only [cond_true] at h
     split at h <;> try (cases h; done)
     rename_i l q' hrest
     simp only [Option.some.injEq, Prod.mk.injEq] at h
     obtain ⟨rfl, rfl⟩ := h
     have hcs := Nat.eq_of_beq_eq_true hc
     rw [count_eq] at hcs
     obtain ⟨us0, e1, e2, e3⟩ := cellsOf_ok hm (hv 0 (i1, A0) (i1, v) rfl rfl) hcells (all_cat hp).1
     have hus0 : us0.length = sz := by omega
     have hfit' : (i1 + 1 + r.length) * sz ≤ cur.length := by rw [show i1 + 1 + r.length = i1 + ((i1, A0) :: r).length by simp; omega]; exact hfit
     have hmul : (i1 + 1) * sz ≤ (i1 + 1 + r.length) * sz := Nat.mul_le_mul_right _ (by omega)
     have hmul1 : (i1 + 1) * sz = i1 * sz + sz := by rw [Nat.add_mul, Nat.one_mul]
     have hf0 : i1 * sz + us0.length ≤ cur.length := by omega
     obtain ⟨us, f1, f2, f3, f4⟩ := rowsOf_ok hm r vals (i1 + 1) l q' (cur.take (i1 * sz) ++ us0 ++ cur.drop (i1 * sz + us0.length)) hk2 (fun j a b ha hb => hv (j + 1) a b (by simpa using ha) (by simpa using hb)) hrest (all_cat hp).2 (by rw [mid_length hf0]; exact hfit')
     refine ⟨us0 ++ us, by simp [f1, hus0, Nat.add_mul]; omega, by simp [f2], ?_, fun i j hi => ?_⟩
     ·rw [run_fill_one (place := fun i => some (i * sz, sz)) rfl e1 hus0 (by omega), f3]
      congr 2
      have ht : (cur.take (i1 * sz)).length = i1 * sz := by rw [List.length_take]; omega
      generalize hA : cur.take (i1 * sz) = A at ht ⊢
      have g1 : (A ++ us0 ++ cur.drop (i1 * sz + us0.length)).take ((i1 + 1) * sz) = A ++ us0 := by
       rw [List.take_append_of_le_length (by simp; omega), List.take_of_length_le (by simp; omega)]
      have g2 : (A ++ us0 ++ cur.drop (i1 * sz + us0.length)).drop ((i1 + 1) * sz + us.length) = cur.drop (i1 * sz + (us0 ++ us).length) := by
       rw [List.drop_append, List.drop_eq_nil_of_le (by simp; omega), List.nil_append, List.drop_drop]
       congr 1
       simp
       omega
      rw [g1, g2]
      simp
     ·cases i with
      | zero =>
       refine ⟨hcs, fun A hA => ?_⟩
       have hj : j < cs.length := (List.getElem?_eq_some_iff.1 hA).1
       have hu : us0[j]? = some (us0[j]'(by omega)) := List.getElem?_eq_getElem (by omega)
       refine ⟨us0[j]'(by omega), ?_, e3 j A _ hA hu⟩
       rw [Nat.zero_mul, Nat.zero_add, List.getElem?_append_left (by omega)]
       exact hu
      | succ i =>
       obtain ⟨g1, g2⟩ := f4 i j (by simpa using hi)
       refine ⟨by simpa using g1, fun A hA => ?_⟩
       obtain ⟨u, hu, hv⟩ := g2 A (by simpa using hA)
       refine ⟨u, ?_, hv⟩
       rw [List.getElem?_append_right (by rw [Nat.add_mul]; omega)]
       rw [← hu]
       congr 1
       rw [Nat.add_mul]
       omega

/-- Rows of one datum each. -/
def dOnes : List (List AV) → Option (List D)
 | [] => some []
 | [.d x] :: r => match dOnes r with
  | some l => some (x :: l)
  | none => none
 | _ => none
theorem dOnes_eq : ∀ {rows : List (List AV)} {xs : List D}, dOnes rows = some xs → rows.length = xs.length ∧ ∀ (i : Nat) x, xs[i]? = some x → rows[i]? = some [.d x]
 | [], xs, h => by simp [dOnes] at h; subst h; exact ⟨rfl, fun i x h => by simp at h⟩
 | c :: r, xs, h => by
  unfold dOnes at h
  split at h <;> try (cases h; done)
  ·rename_i e; cases e
  ·rename_i x0 r0 e
   injection e with e1 e2
   subst e1; subst e2
   split at h <;> try (cases h; done)
   rename_i l hl
   injection h with h
   subst h
   obtain ⟨h1, h2⟩ := dOnes_eq hl
   refine ⟨by simp [h1], fun i x hx => ?_⟩
   cases i with
   | zero => simp at hx; subst hx; rfl
   | succ i => simpa using h2 i x (by simpa using hx)
/-- An array's literal, each element of one cell, all of them given. -/
def evBuildArr (T : Tab) (m : Mem) (t : TypeId) (parts : List (Nat × AV)) : Option (AV × List Prop) :=
 match arrOf T t with
 | none => none
 | some (n, _) => match rowsOf m 1 0 parts with
  | none => none
  | some (rows, p) => match dOnes rows with
   | none => none
   | some xs => bif Nat.beq (countR rows) n then some (.d (.agg xs), p) else none
theorem evBuildArr_ok (hT : TabOk P T) (hm : MemOk m σ F w) {a : Act} {t : TypeId} {parts : Array (Nat × Operand)} {l0 : List (Nat × AV)} (hk1 : (parts.toList.map fun (i, x) => (i, a.eval x)).map (·.1) = l0.map (·.1)) (hk2 : ∀ (j : Nat) A u, l0[j]? = some A → (parts.toList.map fun (i, x) => (i, a.eval x))[j]? = some u → Vc w F σ A.2 u.2) {A : AV} {obs : List Prop}
  (h : evBuildArr T m t l0 = some (A, obs)) (hob : ∀ p ∈ obs, p) : ∃ u, (Instr.build t (parts.map fun (i, x) => (i, a.eval x))).run P w = .ok u w ∧ Vc w F σ A u := by
 unfold evBuildArr at h
 split at h <;> try (cases h; done)
 rename_i n e he'
 obtain ⟨hu, hs, ti, hti, ht, hsz, _⟩ := arrOf_ok hT he'
 split at h <;> try (cases h; done)
 rename_i rows p hrows
 split at h <;> try (cases h; done)
 rename_i xs hxs
 cases hc : Nat.beq (countR rows) n with
 | false => rw [hc] at h; cases h
 | true =>
  rw [hc] at h
  simp only [cond_true, Option.some.injEq, Prod.mk.injEq] at h
  obtain ⟨rfl, rfl⟩ := h
  have hn := Nat.eq_of_beq_eq_true hc
  rw [countR_eq] at hn
  obtain ⟨z, hz, hzs, hzsz⟩ := run_zeroValue ht w
  have hz1 := (sameZs_sound (w := w) (F := F) hzs).1
  have hpl : l0.length = rows.length ∨ True := .inr trivial
  obtain ⟨us, f1, f2, f3, f4⟩ := rowsOf_ok hm l0 _ 0 rows p z.cells.toList hk1 hk2 hrows hob (by
   have : l0.length ≤ rows.length := by
    have key : ∀ (l : List (Nat × AV)) (k : Nat) (rows : List (List AV)) (p : List Prop), rowsOf m 1 k l = some (rows, p) → l.length ≤ rows.length := by
     intro l
     induction l with
     | nil => intro k rows p _; simp
     | cons x r ih =>
      intro k rows p h
      obtain ⟨i, B⟩ := x
      simp only [rowsOf] at h
      cases hi : Nat.beq i k with
      | false => rw [hi] at h; cases h
      | true =>
       rw [hi] at h
       simp only [cond_true] at h
       split at h <;> try (cases h; done)
       cases hcc : Nat.beq (count _) 1 with
       | false => rw [hcc] at h; cases h
       | true =>
        rw [hcc] at h
        simp only [cond_true] at h
        split at h <;> try (cases h; done)
        rename_i l' q' hl'
        simp only [Option.some.injEq, Prod.mk.injEq] at h
        obtain ⟨rfl, _⟩ := h
        have := ih _ _ _ hl'
        simpa using this
    exact key _ _ _ _ hrows
   have e2 : z.cells.toList.length = n := by rw [Array.length_toList, hzsz, hsz]
   omega)
  rw [Array.toArray_toList] at f3
  have hlen : us.length = z.cells.toList.length := by
   have e2 : z.cells.toList.length = n := by rw [Array.length_toList, hzsz, hsz]
   omega
  have hcs : z.cells.toList.take (0 * 1) ++ us ++ z.cells.toList.drop (0 * 1 + us.length) = us := by
   rw [Nat.zero_mul, Nat.zero_add, List.take_zero, List.drop_eq_nil_of_le (by omega)]
   simp
  rw [hcs] at f3
  have hpp : (parts.map fun (i, x) => (i, a.eval x)).toList = parts.toList.map fun (i, x) => (i, a.eval x) := by simp
  obtain ⟨d1, d2⟩ := dOnes_eq hxs
  refine ⟨.agg us.toArray, ?_, .d (.agg (by omega) fun j x u hx hu' => ?_)⟩
  ·simp only [Instr.build, Sem.run_bind, hz, Result.andThen_ok, run_underlying hu, hs, hpp, f3]
   rfl
  ·have hr := d2 j x hx
   have hj : j < rows.length := (List.getElem?_eq_some_iff.1 hr).1
   have hrj : rows[j] = [.d x] := by
    rw [List.getElem?_eq_getElem hj] at hr
    injection hr
   obtain ⟨u', hu2, hv, _⟩ := (f4 j 0 hj).2 (.d x) (by rw [hrj]; rfl)
   rw [Nat.mul_one, Nat.add_zero, hu'] at hu2
   injection hu2 with hu2
   subst hu2
   cases hv with | d h => exact h

/-- A new row of our own. -/
theorem newRow_ok (hm : MemOk m σ F w) {e : TypeId} {sz n tot : Nat} {f : Nat → List AV} {us : List Value} {w' : World} {b : Nat} (hsz : w.heap.size ≤ b) (hb : b < w'.heap.size) (hk : ∀ b, b < w.heap.size → w'.heap[b]? = w.heap[b]?)
  (hos : w'.os = w.os) (htape : w'.tape = w.tape) (hout : w'.output = w.output) (hdr : w.drawn ≤ w'.drawn)
  (hheap : w'.heap[b]? = some (.cells us.toArray e (0, 0))) (hlen : us.length = tot * sz) (hnt : n ≤ tot) (htm : tot ≤ maxLen) (hrows : RowsAt w F σ sz n f us) :
  ∃ σ', Vc w' F σ' (.osl m.new 0 0 n) (.slice (some ⟨b, 0, none⟩) n tot) ∧ MemOk (m.add (.vec e sz 0 n f)) σ' F w' ∧ Step σ F w σ' F w' ∧ SLe σ σ' := by
 let pl : Pl := ⟨0, sz, some (b, tot)⟩
 have hs := SLe.upd_new (σ := σ) (r := m.new) (some pl) (new_none hm)
 have hkF : ∀ b, F b → w'.heap[b]? = w.heap[b]? := fun b hb => hk b (hm.fl b hb)
 obtain ⟨h1, h2⟩ := fresh_ok (w' := w') (pl := pl) (B := .vec e sz 0 n f) hm (by omega) hk
  ⟨rfl, rfl, fun h => by simp [pl] at h, hrows.1, fun b1 t1 h => by
   simp only [pl, Option.some.injEq, Prod.mk.injEq] at h
   obtain ⟨rfl, rfl⟩ := h
   exact ⟨hnt, htm, us, hheap, hlen, fun i j A hi hA => by
    obtain ⟨u, hu, hv, h1⟩ := hrows.2.2 i j A hi hA
    exact ⟨u, hu, hv.mono (fun _ h => h) hkF hs, h1⟩⟩⟩
  (fun b1 t1 h => by
   simp only [pl, Option.some.injEq, Prod.mk.injEq] at h
   obtain ⟨rfl, _⟩ := h
   exact ⟨hsz, hb⟩)
 refine ⟨_, .osl (upd_self σ m.new (some pl)) fun p hp => ?_, h1, ⟨hos, htape, hout, hdr, by omega, fun b hb _ => hk b hb, fun _ h => h, fun _ h => .inl h, own_upd_new fun b1 t1 h => ?_⟩, h2⟩
 ·injection hp with hp
  subst hp
  exact ⟨Nat.le_refl _, fun _ => ⟨_, tot, rfl, hnt, by simp, fun _ => by simp⟩⟩
 ·simp only [pl, Option.some.injEq, Prod.mk.injEq] at h
  omega

theorem evBuildSlice_ok (hT : TabOk P T) (hm : MemOk m σ F w) {a : Act} {t : TypeId} {n : Nat} {parts : Array (Nat × Operand)} {l0 : List (Nat × AV)} (hk1 : (parts.toList.map fun (i, x) => (i, a.eval x)).map (·.1) = l0.map (·.1)) (hk2 : ∀ (j : Nat) A u, l0[j]? = some A → (parts.toList.map fun (i, x) => (i, a.eval x))[j]? = some u → Vc w F σ A.2 u.2) {A : AV} {m' : Mem} {obs : List Prop}
  (h : evBuildSlice T m t n l0 = some (A, m', obs)) (hob : ∀ p ∈ obs, p) :
  ∃ u w' σ', (Instr.buildSlice t n (parts.map fun (i, x) => (i, a.eval x))).run P w = .ok u w' ∧ Vc w' F σ' A u ∧ MemOk m' σ' F w' ∧ Step σ F w σ' F w' ∧ SLe σ σ' ∧ ∃ A0, u = .slice A0 n n := by
 unfold evBuildSlice at h
 split at h <;> try (cases h; done)
 rename_i e sz he'
 obtain ⟨hu, hs, te, hte, htsz⟩ := elemOf_ok hT he'
 split at h <;> try (cases h; done)
 rename_i rows p hrows
 cases hc : (Nat.beq (countR rows) n && Nat.ble (n * sz) 65536) with
 | false => rw [hc] at h; cases h
 | true =>
  rw [hc] at h
  simp only [cond_true, Option.some.injEq, Prod.mk.injEq] at h
  obtain ⟨rfl, rfl, rfl⟩ := h
  simp only [Bool.and_eq_true, countR_eq] at hc
  have hn := Nat.eq_of_beq_eq_true hc.1
  have hsmall := Nat.le_of_ble_eq_true hc.2
  subst hn
  obtain ⟨z, hz, hzs, hzsz⟩ := run_zeroValue hte w
  let Z : Array Value := if rows.length * sz = 0 then #[] else z.cells
  let cur : List Value := (((Array.range (rows.length * sz)).map (Z[· % Z.size]!))).toList
  have hcur : cur.length = rows.length * sz := by simp [cur]
  have hpl : rows.length = l0.length := by
   have : ∀ (l : List (Nat × AV)) (k : Nat) (rows : List (List AV)) (p : List Prop), rowsOf m sz k l = some (rows, p) → rows.length = l.length := by
    intro l
    induction l with
    | nil => intro k rows p h; simp [rowsOf] at h; obtain ⟨rfl, _⟩ := h; rfl
    | cons x r ih =>
     intro k rows p h
     obtain ⟨i, A⟩ := x
     simp only [rowsOf] at h
     cases h1 : Nat.beq i k <;> rw [h1] at h <;> simp only [cond_true, cond_false] at h
     ·cases h
     ·split at h <;> try (cases h; done)
      rename_i cs q _
      cases h2 : Nat.beq (count cs) sz <;> rw [h2] at h <;> simp only [cond_true, cond_false] at h
      ·cases h
      ·split at h <;> try (cases h; done)
       rename_i l q' hr
       simp only [Option.some.injEq, Prod.mk.injEq] at h
       obtain ⟨rfl, _⟩ := h
       simp [ih _ _ _ hr]
   exact this _ _ _ _ hrows
  obtain ⟨us, f1, _, f3, f4⟩ := rowsOf_ok hm _ _ 0 rows p cur hk1 hk2 hrows hob (by rw [hcur, Nat.zero_add, ← hpl]; exact Nat.le_refl _)
  have husd : cur.take (0 * sz) ++ us ++ cur.drop (0 * sz + us.length) = us := by
   have : cur.drop us.length = [] := List.drop_eq_nil_of_le (by omega)
   simp [this]
  rw [husd] at f3
  have hmap : (parts.map fun (i, x) => (i, a.eval x)).toList = parts.toList.map fun (i, x) => (i, a.eval x) := by simp
  have hrun : (Instr.buildSlice t rows.length (parts.map fun (i, x) => (i, a.eval x))).run P w = .ok (.slice (some ⟨w.heap.size, 0, none⟩) rows.length rows.length) (w.alloc (.cells us.toArray e)) := by
   have hZ : (if rows.length * sz = 0 then (pure #[] : Sem (Array Value)) else do pure (← zeroValue e).cells).run P w = .ok Z w := by
    by_cases h0 : rows.length * sz = 0
    ·rw [if_pos h0]; simp [Z, h0]
    ·rw [if_neg h0]; simp [Z, h0, hz]
   unfold Instr.buildSlice
   simp only [Sem.run_bind, run_underlying hu, Result.andThen_ok, hs, Sem.run_ite]
   rw [if_neg (by omega)]
   simp only [Sem.run_ite] at hZ
   have f3' : Instr.fill (fun i => some (i * sz, sz)) ((Array.range (rows.length * sz)).map (Z[· % Z.size]!)) (parts.map fun (i, x) => (i, a.eval x)).toList = some us.toArray := by
    rw [hmap]
    rw [show cur.toArray = (Array.range (rows.length * sz)).map (Z[· % Z.size]!) from Array.toArray_toList] at f3
    exact f3
   by_cases h0 : rows.length * sz = 0
   ·have hZ0 : Z = #[] := by simp [Z, h0]
    rw [hZ0] at f3'
    simp [h0] at f3' ⊢
    rw [f3']
    simp [newRow]
   ·have hZ0 : Z = z.cells := by simp [Z, h0]
    rw [hZ0] at f3'
    simp only [h0, if_false, hz, Result.andThen_ok, Sem.run_pure]
    rw [f3']
    simp [newRow]
  have hR : RowsAt w F σ sz rows.length (rowFn rows) us := ⟨fun i hi => by rw [rowFn_eq hi]; exact (f4 i 0 hi).1, by omega, fun i j A hi hA => by
   rw [rowFn_eq hi] at hA
   exact (f4 i j hi).2 A hA⟩
  obtain ⟨σ', g1, g2, g3, g4⟩ := newRow_ok (w' := w.alloc (.cells us.toArray e)) (b := w.heap.size) (tot := rows.length) hm (Nat.le_refl _) (by rw [size_alloc]; omega) (fun b hb => heap_alloc_old w _ b hb) rfl rfl rfl (Nat.le_refl _) (heap_alloc_new w _) f1 (Nat.le_refl _)
   (by
    have hte0 := kindIs_elem hu he' hT
    have : rows.length ≤ rows.length * sz := Nat.le_mul_of_pos_right _ (by omega)
    unfold maxLen; omega) hR
  exact ⟨_, _, σ', hrun, g1, g2, g3, g4, _, rfl⟩
where
 kindIs_elem {t e : TypeId} {sz : Nat} (_hu : P.underlying t = some (.slice e)) (he : elemOf T t = some (e, sz)) (hT : TabOk P T) : 0 < sz := by
  unfold elemOf at he
  split at he <;> try (cases he; done)
  rename_i ti hti
  split at he <;> try (cases he; done)
  rename_i e' hk
  split at he <;> try (cases he; done)
  rename_i te hte
  injection he with he
  obtain ⟨rfl, rfl⟩ := Prod.mk.inj he
  have hkk := tiIs_kind (hT _ _ hti)
  rw [hk] at hkk
  simp only [kindIs] at hkk
  split at hkk <;> try (cases hkk; done)
  simp only [Bool.and_eq_true, Bool.not_eq_true'] at hkk
  have hne := Nat.ne_of_beq_eq_false hkk.2
  obtain ⟨i, z, hi, hs, _⟩ := tiIs_info (hT _ _ hte)
  simp [Program.cellsOf, hi, hs] at hne
  omega

theorem srcOf_ok (hm : MemOk m σ F w) {sz : Nat} {x : AV} {X : Value} {k : Nat} {h : Nat → List AV} {p : List Prop} (hx : Vc w F σ x X) (hs : srcOf m sz x = some (k, h, p)) (hp : ∀ q ∈ p, q) :
  ∃ (A : Option Addr) (c : Nat) (news : List Value), X = .slice A k c ∧ news.length = k * sz ∧ (A = none → k = 0) ∧ (∀ a, A = some a → ∀ (j : Nat) u, news[j]? = some u → w.cell? (a.add j) = some u) ∧ (∀ u ∈ news, u.oneCell' = true) ∧ RowsAt w F σ sz k h news := by
 unfold srcOf at hs
 split at hs <;> try (cases hs; done)
 ·simp only [Option.some.injEq, Prod.mk.injEq] at hs
  obtain ⟨rfl, rfl, rfl⟩ := hs
  cases hx with | d hx => cases hx with
  | nils => exact ⟨none, 0, [], rfl, by simp, fun _ => rfl, (fun a h => by cases h), (fun u hu => by simp at hu), fun i hi => absurd hi (by omega), by simp, fun i j A hi => absurd hi (by omega)⟩
 ·rename_i sz' n f
  cases hz : Nat.beq sz' sz with
  | false => rw [hz] at hs; cases hs
  | true =>
   rw [hz] at hs
   simp only [cond_true, Option.some.injEq, Prod.mk.injEq] at hs
   obtain ⟨rfl, rfl, rfl⟩ := hs
   have := Nat.eq_of_beq_eq_true hz
   subst this
   cases hx with | d hx => cases hx with
   | @sl _ _ _ B cap a0 g hc hA hl hcell hrd =>
    have hsplit : ∀ q, q < n * sz' → q / sz' < n ∧ q % sz' < sz' ∧ q / sz' * sz' + q % sz' = q := fun q hq => by
     have h0 : 0 < sz' := by
      rcases Nat.eq_zero_or_pos sz' with e | e
      ·subst e; omega
      ·exact e
     exact ⟨(Nat.div_lt_iff_lt_mul h0).2 hq, Nat.mod_lt _ h0, by rw [Nat.mul_comm]; exact Nat.div_add_mod q sz'⟩
    have hat : ∀ q, q < n * sz' → ((List.range (n * sz')).map fun q => g (q / sz') (q % sz'))[q]? = some (g (q / sz') (q % sz')) := fun q hq => by
     rw [List.getElem?_map, List.getElem?_range hq]; rfl
    refine ⟨B, cap, (List.range (n * sz')).map fun q => g (q / sz') (q % sz'), rfl, by simp, fun hB => ?_, fun a ha j u hu => ?_, fun u hu => ?_, fun i hi => by show (up (f i)).length = sz'; rw [up_eq, List.length_map]; exact hl i hi, by simp, fun i j A hi hA2 => ?_⟩
    ·rcases Nat.eq_zero_or_pos n with e | e
     ·exact e
     ·have := (hA e).1; rw [hB] at this; cases this
    ·have hj : j < n * sz' := by have := (List.getElem?_eq_some_iff.1 hu).1; simpa using this
     rw [hat j hj] at hu
     injection hu with hu
     subst hu
     obtain ⟨h1, h2, h3⟩ := hsplit j hj
     have := (hA (Nat.lt_of_le_of_lt (Nat.zero_le _) h1)).1
     rw [ha] at this
     injection this with this
     subst this
     have := (hcell (j / sz') (j % sz') h1 h2).1
     rwa [h3] at this
    ·obtain ⟨q, hq, rfl⟩ := List.mem_map.1 hu
     obtain ⟨h1, h2, h3⟩ := hsplit q (List.mem_range.1 hq)
     exact (hcell _ _ h1 h2).2
    ·obtain ⟨y, hy, rfl⟩ := up_at hA2
     have hj : j < sz' := by rw [← hl i hi]; exact (List.getElem?_eq_some_iff.1 hy).1
     have hlt := row_lt hi hj
     refine ⟨g i j, ?_, .d (hrd i j y hi hy), (hcell i j hi hj).2⟩
     rw [hat _ hlt]
     have e1 : (i * sz' + j) / sz' = i := by rw [Nat.mul_comm, Nat.mul_add_div (by omega), Nat.div_eq_of_lt hj, Nat.add_zero]
     have e2 : (i * sz' + j) % sz' = j := by rw [Nat.mul_comm, Nat.mul_add_mod, Nat.mod_eq_of_lt hj]
     rw [e1, e2]
 ·rename_i r g off n
  split at hs <;> try (cases hs; done)
  rename_i e' sz' g' n' f hB
  cases hz : Nat.beq sz' sz with
  | false => rw [hz] at hs; cases hs
  | true =>
   rw [hz] at hs
   simp only [cond_true] at hs
   have := Nat.eq_of_beq_eq_true hz
   subst this
   have hcase : n = k ∧ g' = g ∧ off + n ≤ n' ∧ ∀ i, h i = f (off + i) := by
    cases ho : Nat.beq off 0 with
    | true =>
     rw [ho] at hs
     simp only [cond_true, Option.some.injEq, Prod.mk.injEq] at hs
     obtain ⟨rfl, rfl, rfl⟩ := hs
     have := Nat.eq_of_beq_eq_true ho
     subst this
     exact ⟨rfl, hp _ (by simp), by have : n ≤ n' := hp _ (by simp); omega, fun i => by rw [Nat.zero_add]⟩
    | false =>
     rw [ho] at hs
     simp only [cond_false, Option.some.injEq, Prod.mk.injEq] at hs
     obtain ⟨rfl, rfl, rfl⟩ := hs
     exact ⟨rfl, hp _ (by simp), hp (off + n ≤ n') (by simp), fun i => rfl⟩
   obtain ⟨rfl, rfl, hfit, hh⟩ := hcase
   obtain ⟨pl, hr, hok, _, hat⟩ := osl_row hm hx (Mem.get_at hB)
   obtain ⟨h0, hsz, hn0, hrow, hl⟩ := hok
   have hsl := hat h0
   unfold SlAt at hsl
   split at hsl
   ·obtain ⟨rfl, rfl, rfl⟩ := hsl
    exact ⟨none, 0, [], rfl, by simp, fun _ => rfl, (fun a h => by cases h), (fun u hu => by simp at hu), fun i hi => absurd hi (by omega), by simp, fun i j A hi => absurd hi (by omega)⟩
   ·rename_i b tot hloc
    obtain ⟨B, cap, rfl, hnc, hoc, hA⟩ := hsl
    obtain ⟨hnt, htm, us, hheap, hlen, hvc⟩ := hl b tot hloc
    have hm1 : (off + n) * sz' ≤ tot * sz' := Nat.mul_le_mul_right _ (by omega)
    rw [Nat.add_mul] at hm1
    have hB : 0 < n → B = some ⟨b, off * sz', none⟩ := fun h => by rw [hA (.inl (by omega)), hsz]
    have hone : ∀ (j : Nat), j < n * sz' → ∃ u, ((us.drop (off * sz')).take (n * sz'))[j]? = some u ∧ u.oneCell' = true ∧ us[off * sz' + j]? = some u := fun j hj => by
     have h0 : 0 < sz' := by
      rcases Nat.eq_zero_or_pos sz' with e | e
      ·subst e; omega
      ·exact e
     have h1 : j / sz' < n := (Nat.div_lt_iff_lt_mul h0).2 hj
     have h2 : j % sz' < sz' := Nat.mod_lt _ h0
     have h3 : j / sz' * sz' + j % sz' = j := by rw [Nat.mul_comm]; exact Nat.div_add_mod j sz'
     have hr1 := hrow (off + j / sz') (by omega)
     have hA1 : (f (off + j / sz'))[j % sz']? = some ((f (off + j / sz'))[j % sz']'(by omega)) := List.getElem?_eq_getElem (by omega)
     obtain ⟨u, hu, _, hu1⟩ := hvc (off + j / sz') (j % sz') _ (by omega) hA1
     have e : (off + j / sz') * sz' + j % sz' = off * sz' + j := by rw [Nat.add_mul]; omega
     rw [e] at hu
     exact ⟨u, by simp [hj, List.getElem?_drop, hu], hu1, hu⟩
    refine ⟨B, cap, (us.drop (off * sz')).take (n * sz'), rfl, by simp; omega, fun hB0 => ?_, fun a ha j u hu => ?_, fun u hu => ?_, fun i hi => by rw [hh]; exact hrow _ (by omega), by simp; omega, fun i j A hi hA2 => ?_⟩
    ·rcases Nat.eq_zero_or_pos n with e | e
     ·exact e
     ·have := hB e; rw [hB0] at this; cases this
    ·have hj : j < n * sz' := by have := (List.getElem?_eq_some_iff.1 hu).1; simp at this; omega
     obtain ⟨u', h1, _, h3⟩ := hone j hj
     rw [h1] at hu
     injection hu with hu
     subst hu
     have hn : 0 < n := by
      rcases Nat.eq_zero_or_pos n with e | e
      ·subst e; omega
      ·exact e
     have := hB hn
     rw [ha] at this
     injection this with this
     subst this
     rw [add_at, cell_of_row w b _ us.toArray e' (0, 0) hheap]
     simpa using h3
    ·obtain ⟨j, hj, rfl⟩ := List.getElem_of_mem hu
     have hj' : j < n * sz' := by simp at hj; omega
     obtain ⟨u', h1, h2, _⟩ := hone j hj'
     rw [List.getElem?_eq_getElem hj] at h1
     injection h1 with h1
     rw [h1]; exact h2
    ·rw [hh] at hA2
     obtain ⟨u, hu, hv, h1⟩ := hvc (off + i) j A (by omega) hA2
     have hj : j < sz' := by rw [← hrow (off + i) (by omega)]; exact (List.getElem?_eq_some_iff.1 hA2).1
     refine ⟨u, ?_, hv, h1⟩
     have hlt := row_lt hi hj
     have e : (off + i) * sz' + j = off * sz' + (i * sz' + j) := by rw [Nat.add_mul]; omega
     rw [e] at hu
     simp [hlt, List.getElem?_drop, hu]

theorem sz_pos (hT : TabOk P T) {t e : TypeId} {sz : Nat} (he : elemOf T t = some (e, sz)) : 0 < sz := evBuildSlice_ok.kindIs_elem (elemOf_ok hT he).1 he hT

theorem joinF_rows {n k sz : Nat} {f h : Nat → List AV} {us vs : List Value} (h1 : RowsAt w F σ sz n f us) (hl : us.length = n * sz) (h2 : RowsAt w F σ sz k h vs) : RowsAt w F σ sz (n + k) (joinF n f h) (us ++ vs) := by
 obtain ⟨a1, a2, a3⟩ := h1
 obtain ⟨b1, b2, b3⟩ := h2
 refine ⟨fun i hi => ?_, by rw [List.length_append, Nat.add_mul]; omega, fun i j A hi hA => ?_⟩
 ·unfold joinF
  cases hb : Nat.blt i n with
  | true => exact a1 i (Nat.le_of_ble_eq_true hb)
  | false =>
   have : n ≤ i := by
    rcases Nat.lt_or_ge i n with h | h
    ·rw [show Nat.blt i n = true from Nat.ble_eq_true_of_le h] at hb; cases hb
    ·exact h
   exact b1 (i - n) (by omega)
 ·unfold joinF at hA
  cases hb : Nat.blt i n with
  | true =>
   rw [hb] at hA
   have hin : i < n := Nat.le_of_ble_eq_true hb
   obtain ⟨u, hu, r⟩ := a3 i j A hin hA
   exact ⟨u, by rw [List.getElem?_append_left (List.getElem?_eq_some_iff.1 hu).1]; exact hu, r⟩
  | false =>
   rw [hb] at hA
   have hge : n ≤ i := by
    rcases Nat.lt_or_ge i n with h | h
    ·rw [show Nat.blt i n = true from Nat.ble_eq_true_of_le h] at hb; cases hb
    ·exact h
   obtain ⟨u, hu, r⟩ := b3 (i - n) j A (by omega) hA
   have e : i * sz = n * sz + (i - n) * sz := by rw [← Nat.add_mul]; congr 1; omega
   refine ⟨u, ?_, r⟩
   rw [List.getElem?_append_right (by omega)]
   rw [← hu]
   congr 1
   omega

theorem evAppend_ok (hT : TabOk P T) (hm : MemOk m σ F w) {t ty : TypeId} {s x : AV} {S X : Value} {A : AV} {m' : Mem} {obs : List Prop} (hs : Vc w F σ s S) (hx : Vc w F σ x X)
  (h : evAppend T m t s x = some (A, m', obs)) (hob : ∀ p ∈ obs, p) :
  ∃ u w' σ', (Builtin.append_ #[t, t] ty #[S, X]).run P w = .ok u w' ∧ Vc w' F σ' A u ∧ MemOk m' σ' F w' ∧ Step σ F w σ' F w' ∧ SLe σ σ' := by
 unfold evAppend at h
 split at h <;> try (cases h; done)
 rename_i e sz he
 obtain ⟨hu, hrs, te, hte, htsz⟩ := elemOf_ok hT he
 have hsz := sz_pos hT he
 obtain ⟨i, z, hi, his, hib, hz, hzs, hzsz⟩ := tiIs_info hte
 have hbytes : bytesAt T e = te.bytes := by
  unfold elemOf at he
  split at he <;> try (cases he; done)
  split at he <;> try (cases he; done)
  split at he <;> try (cases he; done)
  rename_i te' hte'
  injection he with he
  obtain ⟨rfl, _⟩ := Prod.mk.inj he
  obtain ⟨i', z', hi', _, hib', _⟩ := tiIs_info (hT _ _ hte')
  rw [hi] at hi'
  injection hi' with hi'
  subst hi'
  simp [bytesAt, hte', ← hib', ← hib]
 cases hb0 : Nat.beq (bytesAt T e) 0 with
 | true => rw [hb0] at h; cases h
 | false =>
  rw [hb0] at h
  simp only [cond_false] at h
  have hbpos : 0 < te.bytes := by have := Nat.ne_of_beq_eq_false hb0; omega
  have hmax : ∀ q, q * te.bytes ≤ 140737488355328 → q ≤ maxLen := fun q hq => by
   have := Nat.le_mul_of_pos_right q hbpos
   unfold maxLen
   omega
  split at h <;> try (cases h; done)
  rename_i k hh p hsrc
  -- the run of the built-in function, over a row of our own
  have key : ∀ (n : Nat) (xs : List Value), w.ownsRow 0 e sz S n xs → (∀ q ∈ p, q) → (n + k) * te.bytes ≤ 140737488355328 →
    ∃ news v' w', (Builtin.append_ #[t, t] ty #[S, X]).run P w = .ok v' w' ∧ news.length = k * sz ∧ RowsAt w F σ sz k hh news ∧ w'.ownsRow 0 e sz v' (n + k) (xs ++ news) ∧ w.grownBy w' S.ownBlock ∧ (v'.ownBlock = S.ownBlock ∨ v'.ownBlock = some w.heap.size) := by
   intro n xs hown hp hcap
   obtain ⟨B, c, news, rfl, hl, hnone, hcells, hone, hrows⟩ := srcOf_ok hm hx hsrc hp
   cases B with
   | none =>
    have hk := hnone rfl
    subst hk
    have hn : news = [] := List.eq_nil_of_length_eq_zero (by simpa using hl)
    subst hn
    refine ⟨[], S, w, ?_, hl, hrows, by simpa using hown, ⟨rfl, rfl, rfl, Nat.le_refl _, fun _ _ _ => rfl⟩, .inl rfl⟩
    rcases hown.2 with ⟨rfl, rfl⟩ | ⟨g, cap, cur, rfl, _, _, hnc, _⟩
    ·simp [Builtin.append_, run_underlying hu, sizeOf, typeInfo, hi, Builtin.lenOf, Builtin.firstCells]
    ·simp [Builtin.append_, run_underlying hu, sizeOf, typeInfo, hi, Builtin.lenOf, Builtin.firstCells, hnc, storeCells]
   | some a0 =>
    obtain ⟨v', w', h1, h2, h3, _, h5⟩ := run_append_own_at (P := P) w 0 t ty e i z sz te.bytes hu hi hz (by rw [his, htsz]) hib (by rw [hzsz, htsz]) hsz S n xs hown a0 k c news hl (hcells a0 rfl) hone (hmax _ hcap) hcap (Nat.zero_le _)
    exact ⟨news, v', w', h1, hl, hrows, h2, h3, h5⟩
  split at h <;> try (cases h; done)
  ·simp only [Option.some.injEq, Prod.mk.injEq] at h
   obtain ⟨rfl, rfl, rfl⟩ := h
   obtain ⟨hp1, hp2⟩ := all_cat hob
   have hcap : k * te.bytes ≤ 140737488355328 := by rw [← hbytes]; exact hp2 _ (by simp)
   cases hs with | d hs => cases hs with
   | nils =>
   obtain ⟨news, v', w', h1, h2, h3, h4, h5, h6⟩ := key 0 [] (World.ownsRow_nil w 0 e sz) hp1 (by rw [Nat.zero_add]; exact hcap)
   rw [Nat.zero_add, List.nil_append] at h4
   have hk : ∀ b, b < w.heap.size → w'.heap[b]? = w.heap[b]? := fun b hb => h5.block b hb (by simp [Value.ownBlock])
   rcases h4.2 with ⟨rfl, rfl⟩ | ⟨g, cap, cur, rfl, _, hheap, hkc, hcm, hcs, htake⟩
   · -- nothing came of nothing
    let pl : Pl := ⟨0, sz, none⟩
    have hs' := SLe.upd_new (σ := σ) (r := m.new) (some pl) (new_none hm)
    obtain ⟨g1, g2⟩ := fresh_ok (w' := w') (pl := pl) (B := .vec e sz 0 0 hh) hm h5.size hk ⟨rfl, rfl, fun _ => rfl, fun i hi => absurd hi (by omega), fun b t h => by simp [pl] at h⟩ (fun b t h => by simp [pl] at h)
    refine ⟨_, w', _, h1, .osl (upd_self σ m.new (some pl)) fun p hp => ?_, g1, ⟨h5.os, h5.tape, h5.output, run_drawn _ h1, h5.size, fun b hb _ => hk b hb, fun _ h => h, fun _ h => .inl h, own_upd_new fun b t h => by simp [pl] at h⟩, g2⟩
    injection hp with hp
    subst hp
    exact ⟨Nat.le_refl _, fun _ => ⟨rfl, rfl, rfl⟩⟩
   ·have hg : g = w.heap.size := by
     rcases h6 with h6 | h6 <;> simp [Value.ownBlock] at h6
     exact h6
    subst hg
    obtain ⟨σ', g1, g2, g3, g4⟩ := newRow_ok (w' := w') (b := w.heap.size) (tot := cap) (us := cur.toList) (e := e) (sz := sz) (n := k) (f := hh) hm (Nat.le_refl _) (Array.getElem?_eq_some_iff.1 hheap).1 hk h5.os h5.tape h5.output (run_drawn _ h1) (by simpa using hheap) (by simpa using hcs) hkc hcm
     ⟨h3.1, by have := Nat.mul_le_mul_right sz hkc; simp [hcs]; exact this, fun i j A hi hA => by
      obtain ⟨u, hu, r⟩ := h3.2.2 i j A hi hA
      rw [← htake, List.getElem?_take] at hu
      split at hu
      ·exact ⟨u, hu, r⟩
      ·cases hu⟩
    exact ⟨_, w', σ', h1, g1, g2, g3, g4⟩
  ·rename_i sz' n f
   cases hc : Nat.beq sz' sz with
   | false => rw [hc] at h; cases h
   | true =>
    rw [hc] at h
    simp only [cond_true, Option.some.injEq, Prod.mk.injEq] at h
    obtain ⟨rfl, rfl, rfl⟩ := h
    have q1 := Nat.eq_of_beq_eq_true hc
    subst q1
    obtain ⟨hp1, hp2⟩ := all_cat hob
    have hk0 : 0 < k := hp2 _ (by simp)
    have hcap : (n + k) * te.bytes ≤ 140737488355328 := by rw [← hbytes]; exact hp2 ((n + k) * bytesAt T e ≤ 140737488355328) (by simp)
    have hS : ∃ A0, S = .slice A0 n n ∧ Vc w F σ (.d (.sl sz' n f)) S := by
     cases hs with | d hs => cases hs with
     | slc hs => exact ⟨_, rfl, .d hs⟩
    obtain ⟨A0, hS0, hSv⟩ := hS
    obtain ⟨A1, c1, olds, hS1, ol, onone, ocells, oone, orows⟩ := srcOf_ok (sz := sz') (k := n) (h := fun i => up (f i)) (p := []) hm hSv (by
     show (bif Nat.beq sz' sz' then some (n, (fun i => up (f i)), []) else none) = _
     rw [hc]; rfl) (fun q hq => by simp at hq)
    rw [hS0] at hS1
    obtain ⟨rfl, _, rfl⟩ : A0 = A1 ∧ True ∧ n = c1 := by injection hS1 with e1 e2 e3; exact ⟨e1, trivial, e3⟩
    obtain ⟨B, c, news, hX, nl, nnone, ncells, none1, nrows⟩ := srcOf_ok hm hx hsrc hp1
    obtain ⟨b0, rfl⟩ : ∃ b0, B = some b0 := by
     cases B with
     | none => have := nnone rfl; omega
     | some b0 => exact ⟨b0, rfl⟩
    have main : ∃ v' w', (Builtin.append_ #[t, t] ty #[S, X]).run P w = .ok v' w' ∧ (∃ base, w'.ownsRow base e sz' v' (n + k) (olds ++ news)) ∧ w.grownBy w' none ∧ ∀ g, v'.ownBlock = some g → w.heap.size ≤ g := by
     cases A0 with
     | none =>
      have hn := onone rfl
      subst hn
      have ho : olds = [] := List.eq_nil_of_length_eq_zero (by simpa using ol)
      subst ho
      rw [hS0, hX]
      obtain ⟨v', w', h1, h2, h3, _, h5⟩ := run_append_own_at (P := P) w 0 t ty e i z sz' te.bytes hu hi hz (by rw [his, htsz]) hib (by rw [hzsz, htsz]) hsz (.slice none 0 0) 0 [] (World.ownsRow_nil w 0 e sz') b0 k c news nl (ncells b0 rfl) none1 (hmax _ (by simpa using hcap)) (by simpa using hcap) (Nat.zero_le _)
      refine ⟨v', w', h1, ⟨0, by simpa using h2⟩, by simpa [Value.ownBlock] using h3, fun g hg => ?_⟩
      rcases h5 with h5 | h5
      ·rw [hg] at h5; simp [Value.ownBlock] at h5
      ·rw [hg] at h5; injection h5 with h5; omega
     | some a1 =>
      rw [hS0, hX]
      obtain ⟨v', w', h1, h2, h3⟩ := run_append_arg_grows (P := P) w t ty e i z sz' te.bytes hu hi hz (by rw [his, htsz]) hib (by rw [hzsz, htsz]) hsz a1 n n olds ol (ocells a1 rfl) b0 k c news nl (ncells b0 rfl) (by omega) (hmax _ hcap) hcap
      refine ⟨v', w', h1, ⟨_, h2⟩, h3, fun g hg => ?_⟩
      rcases h2.2 with ⟨rfl, h0⟩ | ⟨g', cap, cur, rfl, hge, _⟩
      ·omega
      ·simp [Value.ownBlock] at hg; omega
    obtain ⟨v', w', h1, ⟨base, h4⟩, h5, h6⟩ := main
    have hk : ∀ b, b < w.heap.size → w'.heap[b]? = w.heap[b]? := fun b hb => h5.block b hb (by simp)
    have hjoin := joinF_rows orows ol nrows
    rcases h4.2 with ⟨rfl, h0⟩ | ⟨g, cap, cur, rfl, _, hheap, hkc, hcm, hcs, htake⟩
    ·omega
    ·have hg : w.heap.size ≤ g := h6 g (by simp [Value.ownBlock])
     obtain ⟨σ', g1, g2, g3, g4⟩ := newRow_ok (w' := w') (b := g) (tot := cap) (us := cur.toList) (e := e) (sz := sz') (n := n + k) (f := joinF n (fun i => up (f i)) hh) hm hg (Array.getElem?_eq_some_iff.1 hheap).1 hk h5.os h5.tape h5.output (run_drawn _ h1) (by simpa using hheap) (by simpa using hcs) hkc hcm
      ⟨hjoin.1, by have := Nat.mul_le_mul_right sz' hkc; simp [hcs]; exact this, fun i j A hi hA => by
       obtain ⟨u, hu, r⟩ := hjoin.2.2 i j A hi hA
       rw [← htake, List.getElem?_take] at hu
       split at hu
       ·exact ⟨u, hu, r⟩
       ·cases hu⟩
     exact ⟨_, w', σ', h1, g1, g2, g3, g4⟩
  ·rename_i r g off n
   split at h <;> try (cases h; done)
   rename_i e' sz' g' n' f hB
   cases hc : (Nat.beq e' e && Nat.beq sz' sz && Nat.beq off 0) with
   | false => rw [hc] at h; cases h
   | true =>
    rw [hc] at h
    simp only [cond_true, Option.some.injEq, Prod.mk.injEq] at h
    obtain ⟨rfl, rfl, rfl⟩ := h
    simp only [Bool.and_eq_true] at hc
    have q1 := Nat.eq_of_beq_eq_true hc.1.1
    have q2 := Nat.eq_of_beq_eq_true hc.1.2
    have q3 := Nat.eq_of_beq_eq_true hc.2
    subst q1; subst q2; subst q3
    obtain ⟨hp1, hp2⟩ := all_cat hob
    have hg : g' = g := hp2 _ (by simp)
    have hn : n' = n := hp2 _ (by simp)
    subst hg; subst hn
    have hcap : (n' + k) * te.bytes ≤ 140737488355328 := by rw [← hbytes]; exact hp2 ((n' + k) * bytesAt T e' ≤ 140737488355328) (by simp)
    obtain ⟨pl, hr, hok, _, hat⟩ := osl_row hm hs (Mem.get_at hB)
    obtain ⟨h0, hpsz, hn0, hrow, hl⟩ := hok
    have hsl := hat h0
    -- the row as the kit's law wants it
    have hown : ∃ xs, w.ownsRow 0 e' sz' S n' xs ∧ RowsAt w F σ sz' n' f xs ∧ (∀ b, S.ownBlock = some b → ∃ t, pl.loc = some (b, t)) ∧ (pl.loc = none → S.ownBlock = none) := by
     unfold SlAt at hsl
     split at hsl
     ·rename_i hloc
      obtain ⟨rfl, _, rfl⟩ := hsl
      exact ⟨[], World.ownsRow_nil w 0 e' sz', ⟨fun i hi => absurd hi (by omega), by simp, fun i j A hi => absurd hi (by omega)⟩, (fun b h => by simp [Value.ownBlock] at h), fun _ => rfl⟩
     ·rename_i b tot hloc
      obtain ⟨B, cap, rfl, hnc, hoc, hA⟩ := hsl
      obtain ⟨hnt, htm, us, hheap, hlen, hvc⟩ := hl b tot hloc
      have := hA (.inr rfl)
      subst this
      have hct : cap = tot := by omega
      subst hct
      have hm1 := Nat.mul_le_mul_right sz' hnc
      refine ⟨us.take (n' * sz'), ⟨by simp; omega, .inr ⟨b, cap, us.toArray, by rw [Nat.zero_mul], Nat.zero_le _, hheap, hnc, htm, by simpa using hlen, by simp⟩⟩,
       ⟨hrow, by simp; omega, fun i j A hi hA => ?_⟩, fun b' h => ?_, fun h => by rw [hloc] at h; cases h⟩
      ·obtain ⟨u, hu, r⟩ := hvc i j A hi hA
       have hj : j < sz' := by rw [← hrow i hi]; exact (List.getElem?_eq_some_iff.1 hA).1
       exact ⟨u, by simp [row_lt hi hj, hu], r⟩
      ·simp [Value.ownBlock] at h
       exact ⟨cap, by rw [hloc, h]⟩
    obtain ⟨xs, hown, hxr, hblk, hnblk⟩ := hown
    obtain ⟨news, v', w', h1, h2, h3, h4, h5, h6⟩ := key n' xs hown hp1 hcap
    have hjoin := joinF_rows hxr hown.1 h3
    -- where it lies now
    have hk : ∀ b, b < w.heap.size → (∀ t, pl.loc ≠ some (b, t)) → w'.heap[b]? = w.heap[b]? := fun b hb ht => h5.block b hb (fun e => by
     obtain ⟨t, h⟩ := hblk b e.symm
     exact ht t h)
    have hkF : ∀ b, F b → w'.heap[b]? = w.heap[b]? := fun b hb => hk b (hm.fl b hb) (fun t ht => (hm.nf r pl b t hr ht).1 hb)
    rcases h4.2 with ⟨rfl, hzero⟩ | ⟨gg, cap, cur, rfl, _, hheap, hkc, hcm, hcs, htake⟩
    ·let pl' : Pl := ⟨g' + 1, sz', none⟩
     have hq : pl.g ≤ pl'.g ∧ (pl'.g = pl.g → pl' = pl) := ⟨by simp [pl']; omega, fun h => by simp [pl'] at h; omega⟩
     obtain ⟨g1, g2⟩ := change_ok (w' := w') (pl' := pl') (B' := .vec e' sz' (g' + 1) (n' + k) (joinF n' f hh)) hm hr h5.size hk hq ⟨rfl, rfl, fun _ => hzero, fun i hi => by omega, fun b t h => by simp [pl'] at h⟩ (fun b t h => by simp [pl'] at h)
     refine ⟨_, w', _, h1, .osl (upd_self σ r (some pl')) fun p hp => ?_, g1, ⟨h5.os, h5.tape, h5.output, run_drawn _ h1, h5.size, fun b hb ho => hk b hb (fun t ht => ho ⟨r, pl, t, hr, ht⟩), fun _ h => h, fun _ h => .inl h, own_upd_old hr fun b t h => by simp [pl'] at h⟩, g2⟩
     injection hp with hp
     subst hp
     exact ⟨Nat.le_refl _, fun _ => ⟨hzero, rfl, rfl⟩⟩
    ·let pl' : Pl := ⟨g' + 1, sz', some (gg, cap)⟩
     have hq : pl.g ≤ pl'.g ∧ (pl'.g = pl.g → pl' = pl) := ⟨by simp [pl']; omega, fun h => by simp [pl'] at h; omega⟩
     have hgg : (∃ t', pl.loc = some (gg, t')) ∨ w.heap.size ≤ gg := by
      rcases h6 with h6 | h6
      ·exact .inl (hblk gg (by rw [← h6]; rfl))
      ·simp [Value.ownBlock] at h6; exact .inr (by omega)
     have hs' := SLe.upd_old (q' := some pl') hr (fun p hp => by injection hp with hp; subst hp; exact ⟨pl, rfl, hq.1, hq.2⟩)
     have hB' : BlkOk w' F (upd σ r (some pl')) (.vec e' sz' (g' + 1) (n' + k) (joinF n' f hh)) pl' :=
      ⟨rfl, rfl, fun h => by simp [pl'] at h, hjoin.1, fun b t h => by
       simp only [pl', Option.some.injEq, Prod.mk.injEq] at h
       obtain ⟨rfl, rfl⟩ := h
       refine ⟨hkc, hcm, cur.toList, by simpa using hheap, by simpa using hcs, fun i j A hi hA => ?_⟩
       obtain ⟨u, hu, hv, h1⟩ := hjoin.2.2 i j A hi hA
       rw [← htake, List.getElem?_take] at hu
       split at hu
       ·exact ⟨u, hu, hv.mono (fun _ h => h) hkF hs', h1⟩
       ·cases hu⟩
     obtain ⟨g1, g2⟩ := change_ok (w' := w') (pl' := pl') hm hr h5.size hk hq hB' (fun b t h => by
      simp only [pl', Option.some.injEq, Prod.mk.injEq] at h
      obtain ⟨rfl, rfl⟩ := h
      exact ⟨(Array.getElem?_eq_some_iff.1 hheap).1, hgg⟩)
     refine ⟨_, w', _, h1, .osl (upd_self σ r (some pl')) fun p hp => ?_, g1, ⟨h5.os, h5.tape, h5.output, run_drawn _ h1, h5.size, fun b hb ho => hk b hb (fun t ht => ho ⟨r, pl, t, hr, ht⟩), fun _ h => h, fun _ h => .inl h, own_upd_old hr fun b t h => ?_⟩, g2⟩
     ·injection hp with hp
      subst hp
      exact ⟨Nat.le_refl _, fun _ => ⟨_, cap, rfl, hkc, by simp, fun _ => by simp⟩⟩
     ·simp only [pl', Option.some.injEq, Prod.mk.injEq] at h
      obtain ⟨rfl, rfl⟩ := h
      exact hgg
end sound
end Go.Ab
/-
 The engine, part X: maps: a new one; an element is set.
-/
namespace Go.Ab
set_option linter.unusedSimpArgs false
set_option linter.unusedVariables false

def zeroAV (te : TI) : AV :=
 match te.k.agg with
 | true => .d (.agg te.zero)
 | false => match te.zero with
  | [z] => .d z
  | _ => .junk
def evMakeMap (T : Tab) (m : Mem) (t : TypeId) : Option (AV × Mem) :=
 match mapOf T t with
 | none => none
 | some (sh, te) => some (.mp m.new, m.add (.map sh (fun _ => false) fun _ => zeroAV te))
def evMapUpdate (T : Tab) (m : Mem) (t : TypeId) (A K V : AV) : Option Mem :=
 match mapOf T t with
 | none => none
 | some (sh, _) => match A with
  | .mp r => match m.get r with
   | some (.map sh' has val) => match keyOf sh K with
    | some k => bif eqSh sh sh' then some (m.put r (some (.map sh' (fun x => decide (x = k) || has x) fun x => bif decide (x = k) then V else val x))) else none
    | none => none
   | _ => none
  | _ => none

section
variable {P : Program} {T : Tab} {w : World} {F : Nat → Prop} {σ : Pls} {m : Mem}
theorem evMakeMap_ok (hT : TabOk P T) (hm : MemOk m σ F w) {t : TypeId} {A : AV} {m' : Mem} (h : evMakeMap T m t = some (A, m')) :
  ∃ u w' σ', (Instr.makeMap t none).run P w = .ok u w' ∧ Vc w' F σ' A u ∧ MemOk m' σ' F w' ∧ Step σ F w σ' F w' ∧ SLe σ σ' := by
 unfold evMakeMap at h
 split at h <;> try (cases h; done)
 rename_i sh te hmt
 simp only [Option.some.injEq, Prod.mk.injEq] at h
 obtain ⟨rfl, rfl⟩ := h
 let pl : Pl := ⟨0, 0, some (w.heap.size, 1)⟩
 have hB : BlkOk (w.alloc (.map #[] 0)) F (upd σ m.new (some pl)) (.map sh (fun _ => false) fun _ => zeroAV te) pl :=
  ⟨rfl, w.heap.size, rfl, #[], 0, [], (MapKept.heap_alloc w _).1, rfl, List.nodup_nil, fun i k e h => by simp at h, fun k _ h => (by cases h), by simp, by simp⟩
 obtain ⟨g1, g2⟩ := fresh_ok hm (w' := w.alloc (.map #[] 0)) (pl := pl) (by rw [size_alloc]; omega) (fun b hb => heap_alloc_old w _ b hb) hB
  (fun b t h => by cases h; rw [size_alloc]; exact ⟨Nat.le_refl _, by omega⟩)
 exact ⟨.map (some w.heap.size), _, _, by simp [Instr.makeMap, newObj, Sem.run], .mp (upd_self σ m.new (some pl)) (fun p hp _ => by injection hp with hp; subst hp; exact ⟨_, _, rfl, rfl⟩), g1,
  step_alloc (fun b t h => by cases h; exact Nat.le_refl _), g2⟩
theorem stp_push {es : Array MapEntry} {clock : Nat} {key val : Value} (h : Stp es clock) : Stp (es.push { key, val, born := clock }) (clock + 1) := by
 obtain ⟨h1, h2⟩ := h
 refine ⟨fun x hx => ?_, ?_⟩
 ·simp only [Array.toList_push, List.mem_append, List.mem_singleton] at hx
  rcases hx with hx | rfl
  ·exact Nat.lt_succ_of_lt (h1 x hx)
  ·exact Nat.lt_succ_self _
 ·simp only [Array.toList_push, List.map_append, List.map_cons, List.map_nil]
  refine List.nodup_append.2 ⟨h2, by simp, fun a ha b hb => ?_⟩
  simp only [List.mem_singleton] at hb
  subst hb
  obtain ⟨x, hx, rfl⟩ := List.mem_map.1 ha
  exact Nat.ne_of_lt (h1 x hx)
theorem stp_modify {es : Array MapEntry} {clock i : Nat} {f : MapEntry → MapEntry} (h : Stp es clock) (hf : ∀ e, (f e).born = e.born) : Stp (es.modify i f) clock := by
 have hb : (es.modify i f).toList.map (·.born) = es.toList.map (·.born) := by
  apply List.ext_getElem?
  intro j
  simp only [List.getElem?_map, Array.getElem?_toList, Array.getElem?_modify]
  by_cases hij : i = j
  ·subst hij
   cases he : es[i]? with
   | none => simp
   | some e => simp [hf e]
  ·simp [hij]
 refine ⟨fun x hx => ?_, by rw [hb]; exact h.2⟩
 have : x.born ∈ (es.modify i f).toList.map (·.born) := List.mem_map.2 ⟨x, hx, rfl⟩
 rw [hb] at this
 obtain ⟨y, hy, e⟩ := List.mem_map.1 this
 rw [← e]
 exact h.1 y hy
theorem nodup_snoc {k : List Int} {ks : List (List Int)} (h : ks.Nodup) (hk : k ∉ ks) : (ks ++ [k]).Nodup := by
 rw [List.nodup_append]
 exact ⟨h, by simp, fun a ha b hb e => by simp at hb; subst hb; subst e; exact hk ha⟩
theorem evMapUpdate_same (hT : TabOk P T) (hm : MemOk m σ F w) {t : TypeId} {x y z : AV} {X Y Z : Value} {m' : Mem} (hx : Vc w F σ x X) (hy : Vc w F σ y Y) (hz : Vc w F σ z Z)
  (h : evMapUpdate T m t x y z = some m') : ∃ w', (Instr.mapUpdate t X Y Z).run P w = .ok () w' ∧ MemOk m' σ F w' ∧ Step σ F w σ F w' := by
 unfold evMapUpdate at h
 split at h <;> try (cases h; done)
 rename_i sh te hmt
 obtain ⟨kt, et, hu, hs, hte⟩ := mapOf_ok hT hmt
 split at h <;> try (cases h; done)
 rename_i r
 split at h <;> try (cases h; done)
 rename_i sh' has val hB
 split at h <;> try (cases h; done)
 rename_i k hkey
 cases hsh : eqSh sh sh' with
 | false => rw [hsh] at h; cases h
 | true =>
  rw [hsh] at h
  simp only [cond_true, Option.some.injEq] at h
  subst h
  have := eqSh_eq hsh
  subst this
  obtain ⟨hfit, rfl⟩ := keyOf_ok hkey hy
  obtain ⟨pl, b, hr, h0, hl, rfl, h1, b', hl', es, clock, ks, g1, g2, g3, g4, g5, gst⟩ := map_row hm hx (Mem.get_at hB)
  rw [hl] at hl'
  obtain ⟨rfl, _⟩ := Prod.mk.inj (Option.some.inj hl')
  have hks : KeysAre sh ks es := ⟨g2, fun i k e hi he => ⟨(g4 i k e hi he).1, (g4 i k e hi he).2.1⟩⟩
  have hlt : b < w.heap.size := (Array.getElem?_eq_some_iff.1 g1).1
  have hF : ¬ F b := (hm.nf r pl b 1 hr hl).1
  have hs0 : SLe σ (upd σ r (some pl)) := SLe.upd_old hr (QLe.refl _)
  have fin : ∀ (es' : Array MapEntry) (clock' : Nat) (ks' : List (List Int)), ks'.length = es'.size → ks'.Nodup →
    (∀ (i : Nat) k' e, ks'[i]? = some k' → es'[i]? = some e → sh.fits k' ∧ e.key = sh.key k' ∧ (decide (k' = k) || has k') = true ∧ Vc w F σ (bif decide (k' = k) then z else val k') e.val) →
    (∀ k', sh.fits k' → (decide (k' = k) || has k') = true → k' ∈ ks') → Stp es' clock' →
    (Instr.mapUpdate t (.map (some b)) (sh.key k) Z).run P w = .ok () { w with heap := w.heap.setIfInBounds b (.map es' clock') } →
    ∃ w', (Instr.mapUpdate t (.map (some b)) (sh.key k) Z).run P w = .ok () w' ∧ MemOk (m.put r (some (.map sh (fun x => decide (x = k) || has x) fun x => bif decide (x = k) then z else val x))) σ F w' ∧ Step σ F w σ F w' := by
   intro es' clock' ks' e1 e2 e3 e4 est hrun
   obtain ⟨s1, s2⟩ := MapKept.heap_set (o' := .map es' clock') g1
   have hsz : ({ w with heap := w.heap.setIfInBounds b (.map es' clock') } : World).heap.size = w.heap.size := by simp
   have hkF : ∀ b', F b' → ({ w with heap := w.heap.setIfInBounds b (.map es' clock') } : World).heap[b']? = w.heap[b']? := fun b' hb' => s2 b' (fun e => hF (by rw [← e]; exact hb'))
   have hB' : BlkOk { w with heap := w.heap.setIfInBounds b (.map es' clock') } F (upd σ r (some pl)) (.map sh (fun x => decide (x = k) || has x) fun x => bif decide (x = k) then z else val x) pl :=
    ⟨h0, b, hl, es', clock', ks', s1, e1, e2, fun i k' e hi he => ⟨(e3 i k' e hi he).1, (e3 i k' e hi he).2.1, (e3 i k' e hi he).2.2.1, (e3 i k' e hi he).2.2.2.mono (fun _ h => h) hkF hs0⟩, e4, est⟩
   obtain ⟨q1, q2⟩ := change_ok hm (w' := { w with heap := w.heap.setIfInBounds b (.map es' clock') }) hr (by rw [hsz]; exact Nat.le_refl _) (fun b' _ hne => s2 b' (fun e => hne 1 (by rw [e]; exact hl)))
    ⟨Nat.le_refl _, fun _ => rfl⟩ hB' (fun b' t' h => by rw [hsz]; exact ⟨by rw [hl] at h; cases h; exact hlt, .inl ⟨t', h⟩⟩)
   have hσ : upd σ r (some pl) = σ := funext fun r' => by
    by_cases e : r' = r
    ·subst e; rw [upd_self]; exact hr.symm
    ·exact upd_other σ _ e
   rw [hσ] at q1
   exact ⟨_, hrun, q1, ⟨rfl, rfl, rfl, Nat.le_refl _, by rw [hsz]; exact Nat.le_refl _, fun b' _ ho => s2 b' (fun e => ho ⟨r, pl, 1, hr, by rw [e]; exact hl⟩), fun _ h => h, fun _ h => .inl h, fun _ h => .inl h⟩⟩
  rcases run_find hs hks hfit with ⟨e1, e2⟩ | ⟨i, e, e1, e2, e3⟩
  ·refine fin (es.push { key := sh.key k, val := Z, born := clock }) (clock + 1) (ks ++ [k]) (by simp [g2]) (nodup_snoc g3 e1) (fun j k' e hj he => ?_) (fun k' hk' hh => ?_) (stp_push gst) ?_
   ·rw [List.getElem?_append] at hj
    rw [Array.getElem?_push] at he
    by_cases hjl : j < ks.length
    ·rw [if_pos hjl] at hj
     rw [if_neg (by omega)] at he
     obtain ⟨q1, q2, q3, q4⟩ := g4 j k' e hj he
     have hne : k' ≠ k := fun e => e1 (by rw [← e]; exact List.mem_of_getElem? hj)
     refine ⟨q1, q2, by simp [q3], by simp only [hne, decide_false, cond_false]; exact q4⟩
    ·rw [if_neg hjl] at hj
     have hj0 : j - ks.length = 0 := by
      rcases Nat.eq_zero_or_pos (j - ks.length) with h | h
      ·exact h
      ·rw [List.getElem?_eq_none (by simp; omega)] at hj; cases hj
     rw [hj0] at hj
     simp at hj
     subst hj
     rw [if_pos (by omega)] at he
     simp at he
     subst he
     exact ⟨hfit, rfl, by simp, by simpa using hz⟩
   ·simp only [Bool.or_eq_true, decide_eq_true_eq] at hh
    rcases hh with rfl | hh
    ·simp
    ·exact List.mem_append_left _ (g5 k' hk' hh)
   ·simp [Instr.mapUpdate, run_underlying hu, MapKept.run_getObj_map g1, run_check hs hfit, e2, MapKept.run_setObj_map _ g1]
  ·obtain ⟨p1, p2, p3, p4⟩ := g4 i k e e2 e1
   refine fin (es.modify i fun e => { e with key := sh.key k, val := Z }) clock ks (by simp [g2]) g3 (fun j k' e' hj he => ?_) (fun k' hk' hh => ?_) (stp_modify gst fun _ => rfl) ?_
   ·rw [Array.getElem?_modify] at he
    by_cases hij : i = j
    ·subst hij
     rw [if_pos rfl, e1] at he
     simp at he
     subst he
     rw [e2] at hj
     injection hj with hj
     subst hj
     exact ⟨hfit, rfl, by simp, by simpa using hz⟩
    ·rw [if_neg hij] at he
     obtain ⟨q1, q2, q3, q4⟩ := g4 j k' e' hj he
     have hne : k' ≠ k := fun e => by
      subst e
      have hi := (List.getElem?_eq_some_iff.1 e2)
      have hj2 := (List.getElem?_eq_some_iff.1 hj)
      exact hij ((List.getElem_inj g3).1 (hi.2.trans hj2.2.symm))
     exact ⟨q1, q2, by simp [q3], by simp only [hne, decide_false, cond_false]; exact q4⟩
   ·simp only [Bool.or_eq_true, decide_eq_true_eq] at hh
    rcases hh with rfl | hh
    ·exact List.mem_of_getElem? e2
    ·exact g5 k' hk' hh
   ·simp [Instr.mapUpdate, run_underlying hu, MapKept.run_getObj_map g1, run_check hs hfit, e3, e1, p2, run_stays hs, MapKept.run_setObj_map _ g1]
theorem evMapUpdate_ok (hT : TabOk P T) (hm : MemOk m σ F w) {t : TypeId} {x y z : AV} {X Y Z : Value} {m' : Mem} (hx : Vc w F σ x X) (hy : Vc w F σ y Y) (hz : Vc w F σ z Z)
  (h : evMapUpdate T m t x y z = some m') : ∃ w' σ', (Instr.mapUpdate t X Y Z).run P w = .ok () w' ∧ MemOk m' σ' F w' ∧ Step σ F w σ' F w' ∧ SLe σ σ' := by
 obtain ⟨w', h1, h2, h3⟩ := evMapUpdate_same hT hm hx hy hz h
 exact ⟨w', σ, h1, h2, h3, SLe.refl σ⟩
end
end Go.Ab
/-
 The engine, part L: the generator of verification conditions, and that it is right.
-/
namespace Go.Ab
set_option linter.unusedSimpArgs false
set_option linter.unusedVariables false

/-! ### what is left to be shown -/
structure Ob (p K : Prop) : Prop where
 o : p
 k : K
structure Br (b : Bool) (x y : Prop) : Prop where
 t : b = true → x
 f : b = false → y
structure Ev (p : Prop) : Prop where
 o : p
structure Dr (p K : Prop) : Prop where
 o : p
 k : K
/- Written with the recursor itself, so that what is unfolded here and there is one term. -/
noncomputable def obs (l : List Prop) (K : Prop) : Prop := List.rec (motive := fun _ => Prop) K (fun p _ ih => Ob p (Ev ih)) l
def under (g : Bool) : List Prop → List Prop
 | [] => []
 | p :: r => (g = true → p) :: under g r
theorem obs_ok {K : Prop} : ∀ {l : List Prop}, obs l K → (∀ p ∈ l, p) ∧ K
 | [], h => ⟨fun p hp => by simp at hp, h⟩
 | p :: r, h => by
  have h' : Ob p (Ev (obs r K)) := h
  refine ⟨fun q hq => ?_, (obs_ok h'.k.o).2⟩
  rcases List.mem_cons.1 hq with rfl | hq
  ·exact h'.o
  ·exact (obs_ok h'.k.o).1 q hq
theorem under_ok {g : Bool} {l : List Prop} (h : ∀ p ∈ under g l, p) (hg : g = true) : ∀ p ∈ l, p := by
 induction l with
 | nil => intro p hp; simp at hp
 | cons a r ih =>
  intro p hp
  rcases List.mem_cons.1 hp with rfl | hp
  ·exact h (g = true → p) (by simp [under]) hg
  ·exact ih (fun q hq => h q (by simp [under, hq])) p hp

/-! ### values and memory brought into sight -/
def frcN (n : Nat) (K : Nat → Prop) : Prop :=
 match n with
 | 0 => K 0 | 1 => K 1 | 2 => K 2 | 3 => K 3 | 4 => K 4 | 5 => K 5 | 6 => K 6 | 7 => K 7 | 8 => K 8 | 9 => K 9 | 10 => K 10 | 11 => K 11 | 12 => K 12
 | n => K n
def frcR (r : Ref) (K : Ref → Prop) : Prop :=
 match r with
 | .loc j => frcN j fun j => K (.loc j)
 | .arg j => frcN j fun j => K (.arg j)
 | .bad => K .bad
def frcD (x : D) (K : D → Prop) : Prop :=
 match x with
 | .int k n => K (.int k n)
 | .bool b => K (.bool b)
 | .str s => K (.str s)
 | .nilp => K .nilp
 | .nili => K .nili
 | .nilf => K .nilf
 | .nilm => K .nilm
 | .nils => K .nils
 | .agg cs => K (.agg cs)
 | .ifc t x => K (.ifc t x)
 | .sl sz n f => K (.sl sz n f)
 | .pt cs off => K (.pt cs off)
 | .fn f xs ys => K (.fn f xs ys)
 | .mapd sh has val => K (.mapd sh has val)
 | .slc sz n f => K (.slc sz n f)
def frc (A : AV) (K : AV → Prop) : Prop :=
 match A with
 | .d x => frcD x fun x => K (.d x)
 | .agg cs => K (.agg cs)
 | .tup cs => K (.tup cs)
 | .ifc t x => K (.ifc t x)
 | .fn f xs ys => K (.fn f xs ys)
 | .ptr r g i off => frcR r fun r => K (.ptr r g i off)
 | .osl r g off n => frcR r fun r => K (.osl r g off n)
 | .mp r => frcR r fun r => K (.mp r)
 | .gd b x => K (.gd b x)
 | .junk => K .junk
def frcB (B : Option Blk) (K : Option Blk → Prop) : Prop :=
 match B with
 | none => K none
 | some (.box e cs) => K (some (.box e cs))
 | some (.vec e sz g n f) => K (some (.vec e sz g n f))
 | some (.loop b r env) => K (some (.loop b r env))
 | some (.map sh has val) => K (some (.map sh has val))
 | some (.room e sz g n c f) => K (some (.room e sz g n c f))
 | some (.ent sh has val key c) => K (some (.ent sh has val key c))
 | some .opq => K (some .opq)
 | some (.iter sh has val left cur) => K (some (.iter sh has val left cur))
 | some (.look sh key v hk) => K (some (.look sh key v hk))
def frcL : List (Option Blk) → (List (Option Blk) → Prop) → Prop
 | [], K => K []
 | b :: r, K => frcB b fun b => frcL r fun r => K (b :: r)
def frcM (m : Mem) (K : Mem → Prop) : Prop :=
 match m with
 | ⟨l, o⟩ => frcL l fun l => K ⟨l, o⟩
theorem frcN_eq (n : Nat) (K : Nat → Prop) : frcN n K = K n := by unfold frcN; split <;> rfl
theorem frcR_eq (r : Ref) (K : Ref → Prop) : frcR r K = K r := by cases r <;> simp [frcR, frcN_eq]
theorem frcD_eq (x : D) (K : D → Prop) : frcD x K = K x := by cases x <;> rfl
theorem frc_eq (A : AV) (K : AV → Prop) : frc A K = K A := by cases A <;> simp [frc, frcD_eq, frcR_eq]
theorem frcB_eq (B : Option Blk) (K : Option Blk → Prop) : frcB B K = K B := by
 cases B with
 | none => rfl
 | some b => cases b <;> rfl
theorem frcL_eq : ∀ (l : List (Option Blk)) (K : List (Option Blk) → Prop), frcL l K = K l
 | [], _ => rfl
 | b :: r, K => by simp [frcL, frcB_eq, frcL_eq r]
theorem frcM_eq (m : Mem) (K : Mem → Prop) : frcM m K = K m := by cases m; simp [frcM, frcL_eq]

/-- append(s, make([]E, k)...) onto a nil slice. -/
def evZeros (T : Tab) (m : Mem) (t t' : TypeId) (s x : AV) : Option (AV × Mem × List Prop) :=
 match elemOf T t with
 | none => none
 | some (e, sz) => match T.at e with
  | none => none
  | some te => match T.at t' with
   | some tn => match tn.k with
    | .int _ => match s with
     | .d .nils => match x with
      | .d (.int _ k) => bif Nat.beq te.bytes 0 then none else some (.osl m.new 0 0 k.toNat, m.add (.vec e sz 0 k.toNat fun _ => up te.zero), [0 < k, k.toNat * te.bytes ≤ 140737488355328])
      | _ => none
     | _ => none
    | _ => none
   | none => none

/-- A whole array variable is written over. -/
def arrStore (T : Tab) (m : Mem) (t : TypeId) (X V : AV) : Option (Mem × List Prop) :=
 match arrOf T t with
 | none => none
 | some (n, _) => match X with
  | .ptr r g i off => match m.get r with
   | some (.vec e sz g' n' _) => match V with
    | .d (.agg xs) => bif Nat.beq i 0 && (Nat.beq off 0 && Nat.beq sz 1) then
      some (m.put r (some (.vec e sz g' n fun j => [.d (xs.getD j .nilp)])), [g' = g, n' = n, xs.length = n, ∀ x, x ∈ xs → x.one = true]) else none
    | _ => none
   | _ => none
  | _ => none

/-! ### operations that turn memory, as one function -/
def evEff (T : Tab) (env : Env) (m : Mem) (op : Op) : Option (AV × Mem × List Prop) :=
 match op with
 | .box t x => match strip (ev env x) with
  | (A, p) => match arrOf T t with
   | some (n, _) => match A with
    | .d (.agg xs) => some (.ptr m.new 0 0 0, m.add (.vec t 1 0 n fun j => [.d (xs.getD j .nilp)]), cat p [xs.length = n, n ≤ maxLen, ∀ x, x ∈ xs → x.one = true])
    | _ => none
   | none => match cellsOf m A with
    | some (cs, q) => some (.ptr m.new 0 0 0, m.add (.box t cs), cat p q)
    | none => none
 | .alloc t => match T.at t with
  | some ti => match arrOf T t with
   | some (n, _) => some (.ptr m.new 0 0 0, m.add (.vec t 1 0 n fun j => [.d (ti.zero.getD j .nilp)]), [n ≤ maxLen])
   | none => match bigOf T t with
    | some (n, sz) => some (.ptr m.new 0 0 0, m.add (.vec t sz 0 n fun _ => up (ti.zero.take sz)), [n ≤ maxLen, ∀ i j, i < n → j < sz → ti.zero[i * sz + j]? = ti.zero[j]?])
    | none => some (.ptr m.new 0 0 0, m.add (.box t (up ti.zero)), [])
  | none => none
 | .store t x v => match strip (ev env x) with
  | (X, p) => match strip (ev env v) with
   | (V, q) => match arrStore T m t X V with
    | some (m', o) => some (.junk, m', cat p (cat q o))
    | none => match cellsOf m V with
     | none => none
     | some (cs, q') => match evStore T m t X cs with
      | none => none
      | some (m', o) => some (.junk, m', cat p (cat q (cat q' o)))
 | .buildSlice t n parts => match stripParts (evParts env parts.toList) with
  | (l0, p) => match evBuildSlice T m t n l0 with
   | some (A, m', q) => some (A, m', cat p q)
   | none => none
 | .build t parts => match stripParts (evParts env parts.toList) with
  | (l0, p) => match evBuildArr T m t l0 with
   | some (A, q) => some (A, m, cat p q)
   | none => none
 | .makeMap t none => match evMakeMap T m t with
  | some (A, m') => some (A, m', [])
  | none => none
 | .mapUpdate t x k v => match strip (ev env x) with
  | (X, p) => match strip (ev env k) with
   | (K, q) => match strip (ev env v) with
    | (V, o) => match evMapUpdate T m t X K V with
     | some m' => some (.junk, m', cat p (cat q o))
     | none => none
 | .insert t x k v => match strip (ev env x) with
  | (X, p) => match strip (ev env k) with
   | (K, q) => match strip (ev env v) with
    | (V, o) => match evMapUpdate T m t X K V with
     | some m' => some (.junk, m', cat p (cat q o))
     | none => none
 | .call { callee := .builtin .append, args, argTypes } =>
  match args.toList with
  | [s, x] => match argTypes.toList with
   | [t, t'] => bif Nat.beq t t' then match strip (ev env s) with
     | (S, p) => match strip (ev env x) with
      | (X, q) => match evAppend T m t S X with
       | some (A, m', o) => some (A, m', cat p (cat q o))
       | none => none
    else match strip (ev env s) with
     | (S, p) => match strip (ev env x) with
      | (X, q) => match evZeros T m t t' S X with
       | some (A, m', o) => some (A, m', cat p (cat q o))
       | none => none
   | _ => none
  | _ => none
 | _ => none

section sound
variable {P : Program} {T : Tab} {w : World} {F : Nat → Prop} {σ : Pls} {m : Mem}
theorem evZeros_ok (hT : TabOk P T) (hm : MemOk m σ F w) {t t' ty : TypeId} {s x : AV} {S X : Value} {A : AV} {m' : Mem} {obs : List Prop} (hs : Vc w F σ s S) (hx : Vc w F σ x X)
  (h : evZeros T m t t' s x = some (A, m', obs)) (hob : ∀ p ∈ obs, p) :
  ∃ u w' σ', (Builtin.append_ #[t, t'] ty #[S, X]).run P w = .ok u w' ∧ Vc w' F σ' A u ∧ MemOk m' σ' F w' ∧ Step σ F w σ' F w' ∧ SLe σ σ' := by
 unfold evZeros at h
 split at h <;> try (cases h; done)
 rename_i e sz he
 split at h <;> try (cases h; done)
 rename_i te hte
 split at h <;> try (cases h; done)
 rename_i tn htn
 split at h <;> try (cases h; done)
 rename_i kn hkn
 split at h <;> try (cases h; done)
 split at h <;> try (cases h; done)
 rename_i kq k
 cases hb0 : Nat.beq te.bytes 0 with
 | true => rw [hb0] at h; cases h
 | false =>
 rw [hb0] at h
 simp only [cond_false, Option.some.injEq, Prod.mk.injEq] at h
 obtain ⟨rfl, rfl, rfl⟩ := h
 have h0 : 0 < k := hob _ (List.mem_cons_self ..)
 have hcap : k.toNat * te.bytes ≤ 140737488355328 := hob (k.toNat * te.bytes ≤ 140737488355328) (by simp)
 cases hs with | d hs => cases hs with
 | nils =>
 cases hx with | d hx => cases hx with
 | int =>
 obtain ⟨hu, hrs, te', hte', htsz⟩ := elemOf_ok hT he
 have hsz := sz_pos hT he
 obtain ⟨i, z, hi, his, hib, hz, hzs, hzsz⟩ := tiIs_info (hT _ _ hte)
 have hsize : i.size = sz := by
  obtain ⟨i', z', hi', his', _⟩ := tiIs_info hte'
  rw [hi] at hi'
  injection hi' with hi'
  subst hi'
  rw [his', htsz]
 have hnu : P.underlying t' = some (.int kn) := kindIs_int (by
  have := hT _ _ htn
  unfold tiIs at this
  simp only [Bool.and_eq_true] at this
  rw [hkn] at this
  exact this.1.2)
 obtain ⟨n, hn⟩ : ∃ n : Nat, k = n := ⟨k.toNat, by omega⟩
 subst hn
 simp only [Int.toNat_natCast] at hcap ⊢
 have hn0 : 0 < n := by omega
 have hbpos : 0 < te.bytes := by have := Nat.ne_of_beq_eq_false hb0; omega
 have hbig : n ≤ 140737488355328 := Nat.le_trans (Nat.le_mul_of_pos_right n hbpos) hcap
 have hrun := Lib.run_append_grow_zeros w t t' ty e i z kq kn hu hnu hi hz none 0 0 [] (run_firstCells_none ..) n hn0 (by rw [hsize]; exact hsz) (by omega) (by omega) (by rw [hib]; omega) (by rw [Nat.zero_add, hib]; exact growslice_fits (by omega) hcap)
 rw [Nat.zero_add] at hrun
 have hG1 := grownCap_ge w n 0 e
 have hG2 := grownCap_le_maxLen w n 0 e (by unfold maxLen; omega)
 generalize grownCap w n 0 e = G at hrun hG1 hG2
 have hz0 : CellsOk w F σ (up te.zero) z.cells.toList := .zero hzs
 have hzl : z.cells.size = sz := by
  obtain ⟨i', z', hi', his', _⟩ := tiIs_info hte'
  rw [hzsz, ← his, hsize]
 have hzat : ∀ i j, i < n → j < sz → (Builtin.zeroCells z.cells n)[i * sz + j]? = z.cells[j]? := fun i j hi hj => by
  have h1 := row_lt hi hj
  simp only [Builtin.zeroCells, hzl]
  rw [Array.getElem?_map, Array.getElem?_range, if_pos h1]
  have h2 : (i * sz + j) % sz = j := by rw [Nat.mul_comm, Nat.mul_add_mod, Nat.mod_eq_of_lt hj]
  simp only [Option.map_some, h2]
  have h3 : j < z.cells.size := by omega
  simp [h3]
 obtain ⟨σ', g1, g2, g3, g4⟩ := newRow_ok (w' := w.drew.alloc (.cells (([] : List Value).toArray ++ Builtin.zeroCells z.cells n ++ Builtin.zeroCells z.cells (G - n)) e)) (b := w.heap.size) (tot := G) (us := ((([] : List Value).toArray ++ Builtin.zeroCells z.cells n ++ Builtin.zeroCells z.cells (G - n))).toList) (e := e) (sz := sz) (n := n) (f := fun _ => up te.zero) hm (Nat.le_refl _) (by simp) (fun b hb => heap_alloc_old w.drew _ b hb) rfl rfl rfl (Nat.le_succ _)
  (by rw [Array.toArray_toList]; exact heap_alloc_new w.drew _)
  (by
   simp only [Array.length_toList, Array.size_append, size_zeroCells, hzl, List.size_toArray, List.length_nil, Nat.zero_add, ← Nat.add_mul]
   congr 1; omega) hG1 hG2
  ⟨fun i hi => by rw [← hz0.1, Array.length_toList, hzl], by
   simp only [Array.length_toList, Array.size_append, size_zeroCells, hzl, List.size_toArray, List.length_nil, Nat.zero_add]
   omega, fun i j A hi hA => by
   have hj : j < sz := by
    have := (List.getElem?_eq_some_iff.1 hA).1
    rw [← hz0.1, Array.length_toList, hzl] at this
    exact this
   have h1 := row_lt hi hj
   have hu : z.cells.toList[j]? = some (z.cells[j]'(by omega)) := by simp [show j < z.cells.size by omega]
   obtain ⟨q1, q2⟩ := hz0.2 j A _ hA hu
   refine ⟨_, ?_, q1, q2⟩
   rw [Array.getElem?_toList, Array.getElem?_append_left (by simp [size_zeroCells, hzl]; omega)]
   have : (([] : List Value).toArray ++ Builtin.zeroCells z.cells n) = Builtin.zeroCells z.cells n := by simp
   rw [this, hzat i j hi hj]
   simp [show j < z.cells.size by omega]⟩
 exact ⟨_, _, σ', hrun, g1, g2, g3, g4⟩
theorem arr_ok (hm : MemOk m σ F w) {t : TypeId} {n : Nat} {xs : List D} {us : List Value} (hl : us.length = n) (hx : xs.length = n) (hmx : n ≤ maxLen)
  (h : ∀ (j : Nat) x u, xs[j]? = some x → us[j]? = some u → Rd w F x u ∧ u.oneCell' = true) :
  ∃ σ', Vc (w.alloc (.cells us.toArray t)) F σ' (.ptr m.new 0 0 0) (.pointer (some ⟨w.heap.size, 0, none⟩)) ∧ MemOk (m.add (.vec t 1 0 n fun j => [.d (xs.getD j .nilp)])) σ' F (w.alloc (.cells us.toArray t)) ∧ Step σ F w σ' F (w.alloc (.cells us.toArray t)) ∧ SLe σ σ' := by
 let pl : Pl := ⟨0, 1, some (w.heap.size, n)⟩
 have hn := new_none hm
 have hs := SLe.upd_new (σ := σ) (r := m.new) (some pl) hn
 have hkF : ∀ b, F b → (w.alloc (.cells us.toArray t)).heap[b]? = w.heap[b]? := fun b hb => heap_alloc_old w _ b (hm.fl b hb)
 have hB : BlkOk (w.alloc (.cells us.toArray t)) F (upd σ m.new (some pl)) (.vec t 1 0 n fun j => [.d (xs.getD j .nilp)]) pl :=
  ⟨rfl, rfl, fun h => by simp [pl] at h, fun i hi => rfl, fun b1 t1 h1 => by
   simp only [pl, Option.some.injEq, Prod.mk.injEq] at h1
   obtain ⟨rfl, rfl⟩ := h1
   refine ⟨Nat.le_refl _, hmx, us, heap_alloc_new w _, by omega, fun i j A hi hA => ?_⟩
   have hxi : xs[i]? = some (xs.getD i .nilp) := by rw [List.getD_eq_getElem?_getD, List.getElem?_eq_getElem (by omega)]; rfl
   have hui : us[i]? = some (us[i]'(by omega)) := List.getElem?_eq_getElem (by omega)
   match j, hA with
   | 0, hA =>
    simp only [List.getElem?_cons_zero, Option.some.injEq] at hA
    subst hA
    obtain ⟨g1, g2⟩ := h i _ _ hxi hui
    exact ⟨us[i]'(by omega), by rw [show i * 1 + 0 = i by omega]; exact hui, .d (g1.mono (fun _ h => h) hkF), g2⟩
   | j + 1, hA => simp at hA⟩
 obtain ⟨h1, h2⟩ := fresh_ok (w' := w.alloc (.cells us.toArray t)) hm (by rw [size_alloc]; omega) (fun b hb => heap_alloc_old w _ b hb) hB (fun b t' h => by
  simp only [pl, Option.some.injEq, Prod.mk.injEq] at h
  obtain ⟨rfl, _⟩ := h
  exact ⟨Nat.le_refl _, by rw [size_alloc]; omega⟩)
 refine ⟨_, .ptr (upd_self σ m.new (some pl)) fun p hp => ?_, h1, step_alloc (fun b t' h => ?_), h2⟩
 ·injection hp with hp
  subst hp
  exact ⟨Nat.le_refl _, fun _ => ⟨w.heap.size, n, rfl, by simp⟩⟩
 ·simp only [pl, Option.some.injEq, Prod.mk.injEq] at h
  omega
theorem big_ok (hm : MemOk m σ F w) {t : TypeId} {n sz : Nat} {xs : List D} {us : List Value} (hl : us.length = n * sz) (hx : xs.length = n * sz) (hmx : n ≤ maxLen) (hp : ∀ i j, i < n → j < sz → xs[i * sz + j]? = xs[j]?)
  (h : ∀ (j : Nat) x u, xs[j]? = some x → us[j]? = some u → Rd w F x u ∧ u.oneCell' = true) :
  ∃ σ', Vc (w.alloc (.cells us.toArray t)) F σ' (.ptr m.new 0 0 0) (.pointer (some ⟨w.heap.size, 0, none⟩)) ∧ MemOk (m.add (.vec t sz 0 n fun _ => up (xs.take sz))) σ' F (w.alloc (.cells us.toArray t)) ∧ Step σ F w σ' F (w.alloc (.cells us.toArray t)) ∧ SLe σ σ' := by
 let pl : Pl := ⟨0, sz, some (w.heap.size, n)⟩
 have hn := new_none hm
 have hs := SLe.upd_new (σ := σ) (r := m.new) (some pl) hn
 have hkF : ∀ b, F b → (w.alloc (.cells us.toArray t)).heap[b]? = w.heap[b]? := fun b hb => heap_alloc_old w _ b (hm.fl b hb)
 have hrl : ∀ i, i < n → (up (xs.take sz)).length = sz := fun i hi => by
  have : 1 * sz ≤ n * sz := Nat.mul_le_mul_right sz (by omega)
  rw [up_eq, List.length_map, List.length_take]
  omega
 have hB : BlkOk (w.alloc (.cells us.toArray t)) F (upd σ m.new (some pl)) (.vec t sz 0 n fun _ => up (xs.take sz)) pl :=
  ⟨rfl, rfl, fun h => by simp [pl] at h, hrl, fun b1 t1 h1 => by
   simp only [pl, Option.some.injEq, Prod.mk.injEq] at h1
   obtain ⟨rfl, rfl⟩ := h1
   refine ⟨Nat.le_refl _, hmx, us, heap_alloc_new w _, by omega, fun i j A hi hA => ?_⟩
   have hj : j < sz := by
    have := (List.getElem?_eq_some_iff.1 hA).1
    rw [hrl i hi] at this
    exact this
   have hij : i * sz + j < n * sz := row_lt hi hj
   obtain ⟨x, hx1, rfl⟩ := up_at hA
   rw [List.getElem?_take_of_lt hj] at hx1
   have hxi : xs[i * sz + j]? = some x := by rw [hp i j hi hj]; exact hx1
   have hui : us[i * sz + j]? = some (us[i * sz + j]'(by omega)) := List.getElem?_eq_getElem (by omega)
   obtain ⟨g1, g2⟩ := h _ _ _ hxi hui
   exact ⟨_, hui, .d (g1.mono (fun _ h => h) hkF), g2⟩⟩
 obtain ⟨h1, h2⟩ := fresh_ok (w' := w.alloc (.cells us.toArray t)) hm (by rw [size_alloc]; omega) (fun b hb => heap_alloc_old w _ b hb) hB (fun b t' h => by
  simp only [pl, Option.some.injEq, Prod.mk.injEq] at h
  obtain ⟨rfl, _⟩ := h
  exact ⟨Nat.le_refl _, by rw [size_alloc]; omega⟩)
 refine ⟨_, .ptr (upd_self σ m.new (some pl)) fun p hp => ?_, h1, step_alloc (fun b t' h => ?_), h2⟩
 ·injection hp with hp
  subst hp
  exact ⟨Nat.le_refl _, fun _ => ⟨w.heap.size, n, rfl, by simp⟩⟩
 ·simp only [pl, Option.some.injEq, Prod.mk.injEq] at h
  omega
theorem arrStore_ok (hT : TabOk P T) (hm : MemOk m σ F w) {t : TypeId} {x y : AV} {X V : Value} {m' : Mem} {p : List Prop} (hx : Vc w F σ x X) (hy : Vc w F σ y V)
  (h : arrStore T m t x y = some (m', p)) (hp : ∀ q ∈ p, q) : ∃ w' σ', (Instr.storeAt t X V).run P w = .ok () w' ∧ MemOk m' σ' F w' ∧ Step σ F w σ' F w' ∧ SLe σ σ' := by
 unfold arrStore at h
 split at h <;> try (cases h; done)
 rename_i n e he
 obtain ⟨hu, hs, ti, hti, ht, hsize, hagg⟩ := arrOf_ok hT he
 split at h <;> try (cases h; done)
 rename_i r g i off
 split at h <;> try (cases h; done)
 rename_i e' sz g' n' f hB
 split at h <;> try (cases h; done)
 rename_i xs
 cases hz : (Nat.beq i 0 && (Nat.beq off 0 && Nat.beq sz 1)) with
 | false => rw [hz] at h; cases h
 | true =>
  rw [hz] at h
  simp only [cond_true, Option.some.injEq, Prod.mk.injEq] at h
  obtain ⟨rfl, rfl⟩ := h
  simp only [Bool.and_eq_true] at hz
  have e1 := Nat.eq_of_beq_eq_true hz.1
  have e2 := Nat.eq_of_beq_eq_true hz.2.1
  have e3 := Nat.eq_of_beq_eq_true hz.2.2
  subst e1; subst e2; subst e3
  have hg : g' = g := hp _ (by simp)
  have hn : n' = n := hp _ (by simp)
  have hxl : xs.length = n := hp _ (by simp)
  have hone : ∀ x, x ∈ xs → x.one = true := hp _ (by simp)
  subst hg; subst hn
  obtain ⟨pl, hr, hok, _, hat⟩ := ptr_row hm hx (Mem.get_at hB)
  obtain ⟨h0, hsz, hn0, hrow, hl⟩ := hok
  obtain ⟨b, tot, hl', hX⟩ := hat h0
  obtain ⟨hnt, htm, us, hheap, hlen, hvc⟩ := hl b tot hl'
  subst hX
  cases hy with
  | d hy => cases hy with
   | @agg _ vs hvl hrd =>
    have hv : ∀ v ∈ vs, v.oneCell' = true := fun v hvm => by
     obtain ⟨j, hj, rfl⟩ := List.getElem_of_mem hvm
     have hj' : j < xs.length := by omega
     exact (hrd j _ _ (List.getElem?_eq_getElem hj') (List.getElem?_eq_getElem hj)).one_ok (hone _ (List.getElem_mem hj'))
    have hfit : 0 + vs.length ≤ us.length := by omega
    have hr1 : (Instr.storeAt t (.pointer (some ⟨b, 0 * pl.sz + 0, none⟩)) (.agg vs.toArray)).run P w = .ok () (w.setRow b (us.take 0 ++ vs ++ us.drop (0 + vs.length)).toArray) := by
     have := run_storeCells_at P b 0 e' vs 0 us.toArray w hheap (by simpa using hfit) hv
     simp only [Nat.add_zero] at this
     have hc : (Value.agg vs.toArray).cells = vs.toArray := rfl
     simp [Instr.storeAt, Instr.sureAddr, storeVar, hc, run_sizeOf ht, hvl, hxl, hsize]
     have h3 : vs.length = n' := by omega
     simp only [h3] at this ⊢
     simpa using this
    have hstep := step_setRow (F := F) (w := w) hr hl' (us.take 0 ++ vs ++ us.drop (0 + vs.length)).toArray
    have hsl := SLe.upd_old hr (QLe.refl (some pl))
    have hkF : ∀ b', F b' → (w.setRow b (us.take 0 ++ vs ++ us.drop (0 + vs.length)).toArray).heap[b']? = w.heap[b']? := fun b' hb' => setRow_other w b b' _ (fun e => (hm.nf r pl b tot hr hl').1 (e ▸ hb'))
    obtain ⟨h1, h2⟩ := change_ok (w' := w.setRow b (us.take 0 ++ vs ++ us.drop (0 + vs.length)).toArray) (pl' := pl) (B' := .vec e' 1 g' n' fun j => [.d (xs.getD j .nilp)]) hm hr (by rw [size_setRow]; exact Nat.le_refl _) (fun b' _ ht => setRow_other w b b' _ (fun e => ht tot (by rw [hl', e]))) ⟨Nat.le_refl _, fun _ => rfl⟩
     ⟨h0, hsz, hn0, fun k hk => rfl, fun b1 tot1 hl1 => by
       rw [hl'] at hl1
       obtain ⟨rfl, rfl⟩ := Prod.mk.inj (Option.some.inj hl1)
       refine ⟨hnt, htm, _, setRow_heap w b us.toArray _ e' (0, 0) hheap, by rw [mid_length hfit]; exact hlen, fun k j A hk hA => ?_⟩
       rw [mid_at hfit]
       match j, hA with
       | 0, hA =>
        simp only [List.getElem?_cons_zero, Option.some.injEq] at hA
        subst hA
        have hxi : xs[k]? = some (xs.getD k .nilp) := by rw [List.getD_eq_getElem?_getD, List.getElem?_eq_getElem (by omega)]; rfl
        have hui : vs[k]? = some (vs[k]'(by omega)) := List.getElem?_eq_getElem (by omega)
        have hk2 := hrd k _ _ hxi hui
        refine ⟨vs[k]'(by omega), by rw [if_pos (by omega), show k * 1 + 0 - 0 = k by omega]; exact hui, .d (hk2.mono (fun _ h => h) hkF), hk2.one_ok (hone _ (List.mem_of_getElem? hxi))⟩
       | j + 1, hA => simp at hA⟩
     (fun b' t' h => ⟨by rw [size_setRow]; exact (hm.nf r pl b' t' hr h).2, .inl ⟨t', h⟩⟩)
    exact ⟨_, _, hr1, h1, hstep, h2⟩
theorem evEff_ok (hT : TabOk P T) (hm : MemOk m σ F w) {env : Env} {a : Act} (he : EnvOk env w F σ a.tmps) {o : Oper} {A : AV} {m' : Mem} {l : List Prop}
  (h : evEff T env m o.op = some (A, m', l)) (hob : ∀ p ∈ l, p) : EffOp P F σ w a.eval o A m' := by
 have st : ∀ x, (∀ p ∈ (strip (ev env x)).2, p) → Vc w F σ (strip (ev env x)).1 (a.eval x) := fun x hx => strip_ok (ev_ok he x) hx
 unfold evEff at h
 split at h <;> try (cases h; done)
 ·rename_i t x hop
  split at h <;> try (cases h; done)
  rename_i B p eB
  split at h
  ·rename_i n e he
   split at h <;> try (cases h; done)
   rename_i xs
   simp only [Option.some.injEq, Prod.mk.injEq] at h
   obtain ⟨rfl, rfl, rfl⟩ := h
   obtain ⟨h1, h2⟩ := all_cat hob
   have hx := st x (by rw [eB]; exact h1)
   rw [eB] at hx
   have k1 : xs.length = n := h2 _ (by simp)
   have k2 : n ≤ maxLen := h2 _ (by simp)
   have k3 : ∀ x, x ∈ xs → x.one = true := h2 _ (by simp)
   obtain ⟨X0, hX0⟩ : ∃ X0, a.eval x = X0 := ⟨_, rfl⟩
   rw [hX0] at hx
   cases hx with
   | d hx => cases hx with
    | @agg _ us hvl hrd =>
     obtain ⟨σ', g1, g2, g3, g4⟩ := arr_ok (t := t) hm (n := n) (by omega) k1 k2 fun j x u hx hu => ⟨hrd j x u hx hu, (hrd j x u hx hu).one_ok (k3 x (List.mem_of_getElem? hx))⟩
     have hc : (Value.agg us.toArray).cells = us.toArray := rfl
     exact ⟨.value (.pointer (some ⟨w.heap.size, 0, none⟩)), _, _, σ', by simp [execOp, hop, Instr.box, newVar, newRow, hX0, hc], .inl rfl, g1, g2, g3, g4⟩
  split at h <;> try (cases h; done)
  rename_i cs q hcs
  simp only [Option.some.injEq, Prod.mk.injEq] at h
  obtain ⟨rfl, rfl, rfl⟩ := h
  obtain ⟨h1, h2⟩ := all_cat hob
  have hx := st x (by rw [eB]; exact h1)
  rw [eB] at hx
  obtain ⟨us, e1, e2, e3⟩ := cellsOf_ok hm hx hcs h2
  obtain ⟨σ', g1, g2, g3, g4⟩ := box_ok (t := t) hm ⟨e2, e3⟩
  exact ⟨.value (.pointer (some ⟨w.heap.size, 0, none⟩)), _, _, σ', by simp [execOp, hop, Instr.box, newVar, newRow, e1], .inl rfl, g1, g2, g3, g4⟩
 ·rename_i t hop
  split at h <;> try (cases h; done)
  rename_i ti hti
  split at h
  ·rename_i n e he
   simp only [Option.some.injEq, Prod.mk.injEq] at h
   obtain ⟨rfl, rfl, rfl⟩ := h
   have hmx : n ≤ maxLen := hob _ (by simp)
   obtain ⟨_, _, ti', hti', _, hsize, _⟩ := arrOf_ok hT he
   rw [hti] at hti'
   cases hti'
   obtain ⟨z, hz, hzs, hzn⟩ := run_zeroValue (hT _ _ hti) w
   obtain ⟨k1, k2⟩ := sameZs_sound (w := w) (F := F) hzs
   obtain ⟨σ', g1, g2, g3, g4⟩ := arr_ok (t := t) hm (n := n) (us := z.cells.toList) (xs := ti.zero) (by simp; omega) (by rw [← k1]; simp; omega) hmx k2
   rw [Array.toArray_toList] at g1 g2 g3
   exact ⟨.value (.pointer (some ⟨w.heap.size, 0, none⟩)), _, w.alloc (.cells z.cells t), σ', by simp [execOp, hop, Instr.alloc, newVar, newRow, hz], .inl rfl, g1, g2, g3, g4⟩
  split at h
  ·rename_i n sz he
   simp only [Option.some.injEq, Prod.mk.injEq] at h
   obtain ⟨rfl, rfl, rfl⟩ := h
   have hmx : n ≤ maxLen := hob _ (by simp)
   have hper : ∀ i j, i < n → j < sz → ti.zero[i * sz + j]? = ti.zero[j]? := hob _ (by simp)
   obtain ⟨_, _, _, ti', hti', _, hsize⟩ := bigOf_ok hT he
   rw [hti] at hti'
   cases hti'
   obtain ⟨z, hz, hzs, hzn⟩ := run_zeroValue (hT _ _ hti) w
   obtain ⟨k1, k2⟩ := sameZs_sound (w := w) (F := F) hzs
   obtain ⟨σ', g1, g2, g3, g4⟩ := big_ok (t := t) hm (n := n) (sz := sz) (us := z.cells.toList) (xs := ti.zero) (by simp; omega) (by rw [← k1]; simp; omega) hmx hper k2
   rw [Array.toArray_toList] at g1 g2 g3
   exact ⟨.value (.pointer (some ⟨w.heap.size, 0, none⟩)), _, w.alloc (.cells z.cells t), σ', by simp [execOp, hop, Instr.alloc, newVar, newRow, hz], .inl rfl, g1, g2, g3, g4⟩
  simp only [Option.some.injEq, Prod.mk.injEq] at h
  obtain ⟨rfl, rfl, rfl⟩ := h
  obtain ⟨z, hz, hzs, _⟩ := run_zeroValue (hT _ _ hti) w
  obtain ⟨σ', g1, g2, g3, g4⟩ := box_ok (t := t) hm (.zero hzs)
  rw [Array.toArray_toList] at g1 g2 g3
  exact ⟨.value (.pointer (some ⟨w.heap.size, 0, none⟩)), _, w.alloc (.cells z.cells t), σ', by simp [execOp, hop, Instr.alloc, newVar, newRow, hz], .inl rfl, g1, g2, g3, g4⟩
 ·rename_i t x v hop
  split at h <;> try (cases h; done)
  rename_i X p eX
  split at h <;> try (cases h; done)
  rename_i V q eV
  split at h
  ·rename_i m1 o1 hst
   simp only [Option.some.injEq, Prod.mk.injEq] at h
   obtain ⟨rfl, rfl, rfl⟩ := h
   obtain ⟨h1, h2⟩ := all_cat hob
   obtain ⟨h2, h3⟩ := all_cat h2
   have hx := st x (by rw [eX]; exact h1)
   rw [eX] at hx
   have hv := st v (by rw [eV]; exact h2)
   rw [eV] at hv
   obtain ⟨w', σ', g0, g1, g2, g3⟩ := arrStore_ok hT hm hx hv hst h3
   exact ⟨.skip, undef, w', σ', by simp [execOp, hop, g0], .inr ⟨rfl, rfl⟩, .junk, g1, g2, g3⟩
  split at h <;> try (cases h; done)
  rename_i cs q' hcs
  split at h <;> try (cases h; done)
  rename_i m1 o1 hst
  simp only [Option.some.injEq, Prod.mk.injEq] at h
  obtain ⟨rfl, rfl, rfl⟩ := h
  obtain ⟨h1, h2⟩ := all_cat hob
  obtain ⟨h2, h3⟩ := all_cat h2
  obtain ⟨h3, h4⟩ := all_cat h3
  have hx := st x (by rw [eX]; exact h1)
  rw [eX] at hx
  have hv := st v (by rw [eV]; exact h2)
  rw [eV] at hv
  obtain ⟨us, e1, e2, e3⟩ := cellsOf_ok hm hv hcs h3
  obtain ⟨w', σ', g0, g1, g2, g3⟩ := evStore_ok hT hm hx e1 ⟨e2, e3⟩ hst h4
  exact ⟨.skip, undef, w', σ', by simp [execOp, hop, g0], .inr ⟨rfl, rfl⟩, .junk, g1, g2, g3⟩
 ·rename_i t n parts hop
  split at h
  rename_i l0 p0 el
  split at h <;> try (cases h; done)
  rename_i A1 m1 q1 hbs
  simp only [Option.some.injEq, Prod.mk.injEq] at h
  obtain ⟨rfl, rfl, rfl⟩ := h
  obtain ⟨hp1, hp2⟩ := all_cat hob
  obtain ⟨hk1, hk2⟩ := evParts_ok he parts.toList
  obtain ⟨u, w', σ', g0, g1, g2, g3, g4, _⟩ := evBuildSlice_ok (a := a) (parts := parts) hT hm (hk1.trans (by have := stripParts_fst (evParts env parts.toList); rw [el] at this; exact this.symm)) (fun j B u hB hu => by
   obtain ⟨A0, e1, e2⟩ := stripParts_ok (evParts env parts.toList) (by rw [el]; exact hp1) j B (by rw [el]; exact hB)
   exact e2 _ (hk2 j A0 u e1 hu)) hbs hp2
  exact ⟨.value u, u, w', σ', by simp [execOp, hop, g0], .inl rfl, g1, g2, g3, g4⟩
 ·rename_i t parts hop
  split at h
  rename_i l0 p0 el
  split at h <;> try (cases h; done)
  rename_i A1 q1 hbs
  simp only [Option.some.injEq, Prod.mk.injEq] at h
  obtain ⟨rfl, rfl, rfl⟩ := h
  obtain ⟨hp1, hp2⟩ := all_cat hob
  obtain ⟨hk1, hk2⟩ := evParts_ok he parts.toList
  obtain ⟨u, g0, g1⟩ := evBuildArr_ok (a := a) (parts := parts) hT hm (hk1.trans (by have := stripParts_fst (evParts env parts.toList); rw [el] at this; exact this.symm)) (fun j B u hB hu => by
   obtain ⟨A0, e1, e2⟩ := stripParts_ok (evParts env parts.toList) (by rw [el]; exact hp1) j B (by rw [el]; exact hB)
   exact e2 _ (hk2 j A0 u e1 hu)) hbs hp2
  exact ⟨.value u, u, w, σ, by simp [execOp, hop, g0], .inl rfl, g1, hm, Step.refl σ F w, SLe.refl σ⟩
 ·rename_i t hop
  split at h <;> try (cases h; done)
  rename_i A1 m1 hmk
  simp only [Option.some.injEq, Prod.mk.injEq] at h
  obtain ⟨rfl, rfl, rfl⟩ := h
  obtain ⟨u, w', σ', g0, g1, g2, g3, g4⟩ := evMakeMap_ok hT hm hmk
  exact ⟨.value u, u, w', σ', by simp [execOp, hop, g0], .inl rfl, g1, g2, g3, g4⟩
 ·rename_i t x k v hop
  split at h <;> try (cases h; done)
  rename_i X p eX
  split at h <;> try (cases h; done)
  rename_i K q eK
  split at h <;> try (cases h; done)
  rename_i V o eV
  split at h <;> try (cases h; done)
  rename_i m1 hmu
  simp only [Option.some.injEq, Prod.mk.injEq] at h
  obtain ⟨rfl, rfl, rfl⟩ := h
  obtain ⟨h1, h2⟩ := all_cat hob
  obtain ⟨h2, h3⟩ := all_cat h2
  have hx := st x (by rw [eX]; exact h1)
  rw [eX] at hx
  have hk := st k (by rw [eK]; exact h2)
  rw [eK] at hk
  have hv := st v (by rw [eV]; exact h3)
  rw [eV] at hv
  obtain ⟨w', σ', g0, g1, g2, g3⟩ := evMapUpdate_ok hT hm hx hk hv hmu
  exact ⟨.skip, undef, w', σ', by simp [execOp, hop, g0], .inr ⟨rfl, rfl⟩, .junk, g1, g2, g3⟩
 ·rename_i t x k v hop
  split at h <;> try (cases h; done)
  rename_i X p eX
  split at h <;> try (cases h; done)
  rename_i K q eK
  split at h <;> try (cases h; done)
  rename_i V o eV
  split at h <;> try (cases h; done)
  rename_i m1 hmu
  simp only [Option.some.injEq, Prod.mk.injEq] at h
  obtain ⟨rfl, rfl, rfl⟩ := h
  obtain ⟨h1, h2⟩ := all_cat hob
  obtain ⟨h2, h3⟩ := all_cat h2
  have hx := st x (by rw [eX]; exact h1)
  rw [eX] at hx
  have hk := st k (by rw [eK]; exact h2)
  rw [eK] at hk
  have hv := st v (by rw [eV]; exact h3)
  rw [eV] at hv
  obtain ⟨w', σ', g0, g1, g2, g3⟩ := evMapUpdate_ok hT hm hx hk hv hmu
  exact ⟨.skip, undef, w', σ', by simp [execOp, hop, g0], .inr ⟨rfl, rfl⟩, .junk, g1, g2, g3⟩
 ·rename_i args argTypes hop
  split at h <;> try (cases h; done)
  rename_i s x ea
  split at h <;> try (cases h; done)
  rename_i t t' et
  cases htt : Nat.beq t t' with
  | false =>
   rw [htt] at h
   simp only [cond_false] at h
   split at h <;> try (cases h; done)
   rename_i A1 m1 o1 hap
   simp only [Option.some.injEq, Prod.mk.injEq] at h
   obtain ⟨rfl, rfl, rfl⟩ := h
   obtain ⟨h1, h2⟩ := all_cat hob
   obtain ⟨h2, h3⟩ := all_cat h2
   have hs := st s h1
   have hx := st x h2
   have ea : args = #[s, x] := by apply Array.ext'; simpa using ea
   have et : argTypes = #[t, t'] := by apply Array.ext'; simpa using et
   subst ea; subst et
   obtain ⟨u, w', σ', g0, g1, g2, g3, g4⟩ := evZeros_ok (ty := o.type) hT hm hs hx hap h3
   exact ⟨.value u, u, w', σ', by simp [execOp, hop, resolve, invoke, builtin, g0], .inl rfl, g1, g2, g3, g4⟩
  | true =>
   rw [htt] at h
   simp only [cond_true] at h
   have := Nat.eq_of_beq_eq_true htt
   subst this
   split at h <;> try (cases h; done)
   rename_i A1 m1 o1 hap
   simp only [Option.some.injEq, Prod.mk.injEq] at h
   obtain ⟨rfl, rfl, rfl⟩ := h
   obtain ⟨h1, h2⟩ := all_cat hob
   obtain ⟨h2, h3⟩ := all_cat h2
   have hs := st s h1
   have hx := st x h2
   have ea : args = #[s, x] := by apply Array.ext'; simpa using ea
   have et : argTypes = #[t, t] := by apply Array.ext'; simpa using et
   subst ea; subst et
   obtain ⟨u, w', σ', g0, g1, g2, g3, g4⟩ := evAppend_ok (ty := o.type) hT hm hs hx hap h3
   exact ⟨.value u, u, w', σ', by simp [execOp, hop, resolve, invoke, builtin, g0], .inl rfl, g1, g2, g3, g4⟩
end sound
end Go.Ab
/-
 The engine, part U: the fenced layer at the widest fence, in a round or not.
-/
namespace Go.Ab
set_option linter.unusedSimpArgs false
set_option linter.unusedVariables false

/-- The widest fence; the round that the activation is of. -/
def Fen (ro : Option Nat) : Fence := { Fence.wide with round := ro }
variable {ro : Option Nat} {n : Nat} {P : Program} {ops : Array Oper} {C : World → Prop} {md : Region.Mode}
theorem callsFen {f : FuncId} {args : Array Value} {w : World} {R : Ending → World → Prop} : CallsIn (Fen ro) n P f args w R ↔ Calls P f args w R :=
 callsIn_wide (n := n)
theorem Fen_depth : (Fen ro).depth.isSome = true → 1 ≤ n := fun h => by cases h
theorem wpIn_at {o : Oper} {a : Act} {w : World} {next : Act → World → Prop} {Q : Exit → Act → World → Prop} (hd : ∀ c, o.op ≠ .defer c)
  (h : o.uponIn (Fen ro) n P a next Q ((execOp a.eval o).run P w)) : o.wpIn (Fen ro) n P a w next Q :=
 ⟨fun _ _ => trivial, by rw [Oper.semAt_eq _ _ _ hd]; exact h⟩

/-! ### statements that leave their order open, in a round too -/
end Go.Ab
/-
 The engine, part M: lists of operations, calls, and code.
-/
namespace Go.Ab
set_option linter.unusedSimpArgs false
set_option linter.unusedVariables false

/-- May the function be entered by a call? -/
def CanEnter (P : Program) (f : FuncId) : Prop := ∃ fn, P.funcs[f]? = some fn ∧ (fn.name == "runtime.NumGoroutine") = false ∧ fn.body.isNone = false

def ArgsOk (w : World) (F : Nat → Prop) (σ : Pls) (args : List AV) (vals : List Value) : Prop :=
 vals.length = args.length ∧ ∀ (j : Nat) A u, args[j]? = some A → vals[j]? = some u → Vc w F σ A u

/-- A call of a function: it returns, what it returns and leaves in our memory meets K. -/
structure CallVC (P : Program) (f : FuncId) (args : List AV) (m : Mem) (K : AV → Mem → Prop) : Prop where
 can : CanEnter P f
 run : ∀ (σ : Pls) (F : Nat → Prop) (w : World) (vals : List Value), MemOk m σ F w → ArgsOk w F σ args vals →
  Calls P f vals.toArray w fun e w' => ∃ v A m' σ' F', e = .returned v ∧ K A m' ∧ Vc w' F' σ' A v ∧ MemOk m' σ' F' w' ∧ Step σ F w σ' F' w' ∧ SLe σ σ'
/-- A call of the yield of the loop whose record lies at block b. -/
structure YieldVC (P : Program) (b : Nat) (args : List AV) (m : Mem) (K : AV → Mem → Prop) : Prop where
 run : ∀ (σ : Pls) (F : Nat → Prop) (w : World) (vals : List Value), MemOk m σ F w → ArgsOk w F σ args vals →
  ∃ fn tmps assign body, (Instr.yield b vals.toArray).run P w = .ok (.round b fn tmps assign body) w ∧
   RoundIn (Fen none) 0 P b fn tmps assign body w fun e w' => ∃ v A m' σ' F', e = .returned v ∧ K A m' ∧ Vc w' F' σ' A v ∧ MemOk m' σ' F' w' ∧ Step σ F w σ' F' w' ∧ SLe σ σ'
/-- A call of a function value. -/
structure FnVC (P : Program) (fn : AV) (args : List AV) (m : Mem) (K : AV → Mem → Prop) : Prop where
 q : ∃ (f : FuncId) (first cap : List AV), (fn = .fn (.func f) first cap ∨ ∃ xs ys, fn = .d (.fn (.func f) xs ys) ∧ first = up xs ∧ cap = up ys) ∧ CallVC P f (first ++ args ++ cap) m K
def vcCall (P : Program) (fn : AV) (args : List AV) (m : Mem) (K : AV → Mem → Prop) : Prop :=
 match fn with
 | .d x => match x with
  | .fn f xs ys => match f with
   | .func f => match xs, ys with
    | [], [] => CallVC P f args m K
    | xs, ys => FnVC P (.d (.fn (.func f) xs ys)) args m K
   | f => FnVC P (.d (.fn f xs ys)) args m K
  | _ => False
 | .fn f xs ys => match f with
  | .yield b => match xs, ys with
   | [], [] => YieldVC P b args m K
   | _, _ => False
  | f => FnVC P (.fn f xs ys) args m K
 | _ => False

def stripAll (env : Env) : List Operand → List AV × List Prop
 | [] => ([], [])
 | x :: r => match strip (ev env x) with
  | (A, p) => match stripAll env r with
   | (l, q) => (A :: l, cat p q)

def dstOf : List Oper → Nat → Option Tmp
 | [], _ => none
 | o :: _, 0 => o.dst
 | _ :: r, j + 1 => dstOf r j
/-- When is a guarded operation carried out? -/
def guardOf (full : List Oper) (env : Env) (j : Nat) (want : Bool) : Option Bool :=
 match dstOf full j with
 | some t => match get env t with
  | .d (.bool b) => match want with
   | true => some b
   | false => some (!b)
  | .gd c (.d (.bool b)) => match want with
   | true => some (c && b)
   | false => some (c && !b)
  | _ => none
 | none => none
def setD (env : Env) (d : Option Tmp) (A : AV) (K : Env → Prop) : Prop :=
 match d with
 | some t => K ((t, A) :: env)
 | none => K env

/-- An operation, shown by hand. -/
structure OpVC (P : Program) (o : Oper) (env : Env) (m : Mem) (K : AV → Mem → Prop) : Prop where
 nd : ∀ c, o.op ≠ .defer c
 run : ∀ (a : Act) (w : World) (F : Nat → Prop) (σ : Pls), EnvOk env w F σ a.tmps → MemOk m σ F w →
  ∃ n u w' σ' F' A m', (execOp a.eval o).run P w = .ok n w' ∧ (n = .value u ∨ (n = .skip ∧ u = undef)) ∧ K A m' ∧ Vc w' F' σ' A u ∧ MemOk m' σ' F' w' ∧ Step σ F w σ' F' w' ∧ SLe σ σ'
def memN (n : Nat) : List Nat → Bool
 | [] => false
 | k :: r => Nat.beq k n || memN n r
def isExt : Operand → Bool
 | .func f => memN f exts
 | _ => false
noncomputable def vcOp (P : Program) (T : Tab) (o : Oper) (env : Env) (m : Mem) (K : Env → Mem → Prop) : Prop :=
 match evRead T env m o.op with
 | some (v, l) => obs l (frc v fun v => setD env o.dst v fun env => K env m)
 | none => match evEff T env m o.op with
  | some (v, m', l) => obs l (frc v fun v => frcM m' fun m' => setD env o.dst v fun env => K env m')
  | none => match o.op with
   | .call { callee := .value f, args, .. } => bif isExt f then OpVC P o env m fun v m' => Ev (setD env o.dst v fun env => K env m') else match strip (ev env f) with
    | (fn, p) => match stripAll env args.toList with
     | (as, q) => obs (cat p q) (vcCall P fn as m fun v m' => Ev (setD env o.dst v fun env => K env m'))
   | _ => OpVC P o env m fun v m' => Ev (setD env o.dst v fun env => K env m')
noncomputable def vcOps (P : Program) (T : Tab) (full ops : List Oper) : Env → Mem → (Env → Mem → Prop) → Prop :=
 List.rec (motive := fun _ => Env → Mem → (Env → Mem → Prop) → Prop) (fun env m K => K env m)
  (fun o _ ih env m K => match o.guard with
   | none => vcOp P T o env m fun env m => ih env m K
   | some (j, want) => match guardOf full env j want with
    | none => False
    | some g => match evRead T env m o.op with
     | some (v, l) => obs (under g l) (frc v fun v => setD env o.dst (.gd g v) fun env => ih env m K)
     | none => Br g (Ev (vcOp P T o env m fun env m => ih env m K)) (Ev (setD env o.dst (.gd false (.d (.bool false))) fun env => ih env m K))) ops
theorem vcOps_cons (P : Program) (T : Tab) (full : List Oper) (o : Oper) (rest : List Oper) (env : Env) (m : Mem) (K : Env → Mem → Prop) : vcOps P T full (o :: rest) env m K = match o.guard with
  | none => vcOp P T o env m fun env m => vcOps P T full rest env m K
  | some (j, want) => match guardOf full env j want with
   | none => False
   | some g => match evRead T env m o.op with
    | some (v, l) => obs (under g l) (frc v fun v => setD env o.dst (.gd g v) fun env => vcOps P T full rest env m K)
    | none => Br g (Ev (vcOp P T o env m fun env m => vcOps P T full rest env m K)) (Ev (setD env o.dst (.gd false (.d (.bool false))) fun env => vcOps P T full rest env m K)) := rfl

/-- What stands in an operation's slot is in its place. -/
def dstsIn (N : Nat) : List Oper → Bool
 | [] => true
 | o :: r => (match o.dst with
  | some d => Nat.blt d N
  | none => true) && dstsIn N r

section sound
variable {P : Program} {T : Tab} {ro : Option Nat}
theorem evRead_defer (T : Tab) (env : Env) (m : Mem) (c : Call) : evRead T env m (.defer c) = none := rfl
theorem evEff_defer (T : Tab) (env : Env) (m : Mem) (c : Call) : evEff T env m (.defer c) = none := rfl

theorem put_ok {w : World} {F : Nat → Prop} {σ : Pls} {env : Env} {a : Act} {N d : Nat} {A : AV} {v : Value} (hN : a.tmps.size = N) (hd : d < N) (he : EnvOk env w F σ a.tmps) (hv : Vc w F σ A v) :
  EnvOk ((d, A) :: env) w F σ (a.put (some d) v).tmps := by
 intro t
 simp only [get, Act.put]
 cases hb : Nat.beq d t with
 | true =>
  have := Nat.eq_of_beq_eq_true hb
  subst this
  simp only [cond_true, Array.getD_eq_getD_getElem?]
  rw [Array.getElem?_setIfInBounds_self_of_lt (by omega)]
  exact hv
 | false =>
  have hne := Nat.ne_of_beq_eq_false hb
  simp only [cond_false, Array.getD_eq_getD_getElem?]
  rw [Array.getElem?_setIfInBounds_ne hne, ← Array.getD_eq_getD_getElem?]
  exact he t
theorem put_size (a : Act) (d : Option Tmp) (v : Value) : (a.put d v).tmps.size = a.tmps.size := by cases d <;> simp [Act.put]
theorem put_defers (a : Act) (d : Option Tmp) (v : Value) : (a.put d v).defers = a.defers := by cases d <;> rfl
theorem EnvOk.mono {w w' : World} {F F' : Nat → Prop} {σ σ' : Pls} {env : Env} {t : Array Value} (hF : ∀ b, F b → F' b) (hh : ∀ b, F b → w'.heap[b]? = w.heap[b]?) (hs : SLe σ σ') (h : EnvOk env w F σ t) : EnvOk env w' F' σ' t :=
 fun k => (h k).mono hF hh hs
theorem setD_ok {w : World} {F : Nat → Prop} {σ : Pls} {env : Env} {a : Act} {N : Nat} {d : Option Tmp} {A : AV} {v : Value} {K : Env → Prop} (hN : a.tmps.size = N) (hd : (match d with | some d => Nat.blt d N | none => true) = true) (he : EnvOk env w F σ a.tmps) (hv : Vc w F σ A v)
  (h : setD env d A K) : ∃ env', K env' ∧ EnvOk env' w F σ (a.put d v).tmps := by
 cases d with
 | none => exact ⟨env, h, he⟩
 | some d => exact ⟨_, h, put_ok hN (Nat.le_of_ble_eq_true hd) he hv⟩

theorem dstOf_eq : ∀ (l : List Oper) (j : Nat), dstOf l j = (l[j]?).bind (·.dst)
 | [], _ => by simp [dstOf]
 | _ :: _, 0 => rfl
 | _ :: r, j + 1 => by simpa [dstOf] using dstOf_eq r j
theorem guardOf_ok {w : World} {F : Nat → Prop} {σ : Pls} {env : Env} {full : List Oper} {tmps : Array Value} (he : EnvOk env w F σ tmps) {j : Nat} {want g : Bool} (h : guardOf full env j want = some g) :
  (yielded full.toArray tmps j == some want) = g := by
 unfold guardOf at h
 split at h <;> try (cases h; done)
 rename_i t ht
 rw [dstOf_eq] at ht
 have hy : yielded full.toArray tmps j = match tmps[t]? with | some (.bool b) => some b | _ => none := by
  unfold yielded
  have : ((full.toArray[j]?).bind (·.dst)) = some t := by simpa using ht
  rw [this]
  rfl
 have hv := he t
 have hget : ∀ b, tmps.getD t undef = .bool b → tmps[t]? = some (.bool b) := fun b hb => by
  rw [Array.getD_eq_getD_getElem?] at hb
  cases hc : tmps[t]? with
  | none => rw [hc] at hb; simp [undef] at hb
  | some v => rw [hc] at hb; simp at hb; rw [hb]
 split at h <;> try (cases h; done)
 ·rename_i b e
  rw [e] at hv
  rw [hy, hget b hv.bool]
  cases want <;> simp at h <;> subst h <;> first | (cases b <;> rfl) | (cases g <;> rfl)
 ·rename_i c b e
  rw [e] at hv
  cases hv with
  | gd h1 h2 =>
   cases c with
   | true =>
    rw [hy, hget b (h1 rfl).bool]
    cases want <;> simp at h <;> subst h <;> first | (cases b <;> rfl) | (cases g <;> rfl)
   | false =>
    have hu := h2 rfl
    have : yielded full.toArray tmps j = none := by
     rw [hy]
     rw [Array.getD_eq_getD_getElem?] at hu
     cases hc : tmps[t]? with
     | none => rfl
     | some v => rw [hc] at hu; simp at hu; subst hu; rfl
    rw [this]
    cases want <;> simp at h <;> subst h <;> rfl

theorem stripAll_ok {w : World} {F : Nat → Prop} {σ : Pls} {env : Env} {a : Act} (he : EnvOk env w F σ a.tmps) : ∀ (l : List Operand), (∀ p ∈ (stripAll env l).2, p) → ArgsOk w F σ (stripAll env l).1 (l.map a.eval)
 | [], _ => ⟨rfl, fun j A u h => by simp [stripAll] at h⟩
 | x :: r, hp => by
  simp only [stripAll] at hp ⊢
  obtain ⟨h1, h2⟩ := all_cat hp
  obtain ⟨h3, h4⟩ := stripAll_ok he r h2
  refine ⟨by simp [← h3], fun j A u hA hu => ?_⟩
  cases j with
  | zero => simp at hA hu; subst hA; subst hu; exact strip_ok (ev_ok he x) h1
  | succ j => exact h4 j A u (by simpa using hA) (by simpa using hu)

theorem ArgsOk.app {w : World} {F : Nat → Prop} {σ : Pls} {as bs : List AV} {us vs : List Value} (h : ArgsOk w F σ as us) (k : ArgsOk w F σ bs vs) : ArgsOk w F σ (as ++ bs) (us ++ vs) := by
 refine ⟨by simp [h.1, k.1], fun j A u hA hu => ?_⟩
 by_cases hj : j < as.length
 ·rw [List.getElem?_append_left hj] at hA
  rw [List.getElem?_append_left (by rw [h.1]; exact hj)] at hu
  exact h.2 j A u hA hu
 ·rw [List.getElem?_append_right (by omega)] at hA
  rw [List.getElem?_append_right (by rw [h.1]; omega), h.1] at hu
  exact k.2 _ A u hA hu
theorem ArgsOk.ofD {w : World} {F : Nat → Prop} {σ : Pls} {xs : List D} {us : List Value} (hl : us.length = xs.length) (h : ∀ (j : Nat) x u, xs[j]? = some x → us[j]? = some u → Rd w F x u) : ArgsOk w F σ (up xs) us :=
 ⟨by rw [up_eq, List.length_map, hl], fun j A u hA hu => by obtain ⟨x, hx, rfl⟩ := up_at hA; exact .d (h j x u hx hu)⟩

theorem run_callFunc {f : FuncId} (h : CanEnter P f) (args : Array Value) (w : World) : (callFunc f args).run P w = .ok (.enter f args) w := by
 obtain ⟨fn, h1, h2, h3⟩ := h
 simp only [callFunc, Sem.run_bind, run_program, Result.andThen_ok, h1, h2, h3, Bool.false_eq_true, if_false, Sem.run_pure]

/-- The call of a function value, in the machine. -/
theorem vcCall_ok {o : Oper} {f : Operand} {args : Array Operand} {at_ : Array TypeId} (hop : o.op = .call { callee := .value f, args, argTypes := at_ }) {a : Act} {w : World} {F : Nat → Prop} {σ : Pls} {m : Mem} (hm : MemOk m σ F w) {fn : AV} {as : List AV} (hf : Vc w F σ fn (a.eval f)) (ha : ArgsOk w F σ as (args.toList.map a.eval))
  {K : AV → Mem → Prop} (h : vcCall P fn as m K) {next : Act → World → Prop} {Q : Exit → Act → World → Prop}
  (hn : ∀ v A m' σ' F' w', K A m' → Vc w' F' σ' A v → MemOk m' σ' F' w' → Step σ F w σ' F' w' → SLe σ σ' → next (a.put o.dst v) w') : o.wpIn (Fen ro) 0 P a w next Q := by
 have main : ∀ (id : FuncId) (first cap : List AV) (us vs : List Value), a.eval f = .func (.func id) us.toArray vs.toArray → ArgsOk w F σ first us → ArgsOk w F σ cap vs → CallVC P id (first ++ as ++ cap) m K → o.wpIn (Fen ro) 0 P a w next Q := by
  intro id first cap us vs hfv h1 h2 hc
  have hall := (h1.app ha).app h2
  have hcall := hc.run σ F w _ hm hall
  have hrun : (execOp a.eval o).run P w = .ok (.enter id (us ++ args.toList.map a.eval ++ vs).toArray) w := by
   have e : us.toArray ++ Array.map a.eval args ++ vs.toArray = (us ++ args.toList.map a.eval ++ vs).toArray := by apply Array.ext'; simp
   simp only [execOp, hop, Sem.run_bind, resolve, Deferred.ofValue, hfv, invoke, Sem.run_pure, Result.andThen_ok, e]
   exact run_callFunc hc.can _ w
  refine wpIn_at (by rw [hop]; exact fun _ h => nomatch h) ?_
  rw [hrun, Oper.uponIn_enter]
  refine ⟨Fen_depth, callsFen.2 ?_⟩
  exact hcall.mono fun e w' ⟨v, A, m', σ', F', he, hk, hv, hm', hs, hle⟩ => by subst he; exact hn v A m' σ' F' w' hk hv hm' hs hle
 have viaFn : FnVC P fn as m K → o.wpIn (Fen ro) 0 P a w next Q := by
  rintro ⟨id, first, cap, hcase, hc⟩
  rcases hcase with rfl | ⟨xs, ys, rfl, rfl, rfl⟩
  ·generalize hX : a.eval f = X at hf
   cases hf with
   | fn h1 h2 h3 h4 => exact main id first cap _ _ hX ⟨h1, h3⟩ ⟨h2, h4⟩ hc
  ·generalize hX : a.eval f = X at hf
   cases hf with
   | d hf => cases hf with
    | fn h1 h2 h3 h4 => exact main id (up xs) (up ys) _ _ hX (.ofD h1 h3) (.ofD h2 h4) hc
 unfold vcCall at h
 split at h <;> try (cases h; done)
 ·split at h <;> try (cases h; done)
  split at h
  ·split at h
   ·generalize hX : a.eval f = X at hf
    cases hf with
    | d hf => cases hf with
     | fn h1 h2 h3 h4 => exact main _ [] [] _ _ hX ⟨by simpa using h1, fun j A u h => by simp at h⟩ ⟨by simpa using h2, fun j A u h => by simp at h⟩ (by simpa using h)
   ·exact viaFn h
  ·exact viaFn h
 ·split at h
  ·rename_i b
   split at h <;> try (cases h; done)
   generalize hX : a.eval f = X at hf
   cases hf with
   | @fn _ _ _ us vs h1 h2 h3 h4 =>
    have e1 : us = [] := by simpa using h1
    have e2 : vs = [] := by simpa using h2
    subst e1; subst e2
    obtain ⟨fn, tmps, assign, body, hy, hr⟩ := h.run σ F w (args.toList.map a.eval) hm ha
    refine wpIn_at (by rw [hop]; exact fun _ h => nomatch h) ?_
    have hrun : (execOp a.eval o).run P w = .ok (.round b fn tmps assign body) w := by
     have e : ([] : List Value).toArray ++ Array.map a.eval args = (args.toList.map a.eval).toArray := by apply Array.ext'; simp
     simp only [execOp, hop, Sem.run_bind, resolve, Deferred.ofValue, hX, Sem.run_pure, Result.andThen_ok, invoke, e]
     exact hy
    rw [hrun, Oper.uponIn_round]
    exact ⟨Fen_depth, hr.mono fun e w' ⟨v, A, m', σ', F', he, hk, hv, hm', hs, hle⟩ => by subst he; exact hn v A m' σ' F' w' hk hv hm' hs hle⟩
  ·exact viaFn h

theorem vcOp_ok (hT : TabOk P T) {o : Oper} {N : Nat} {env : Env} {m : Mem} {K : Env → Mem → Prop} (h : vcOp P T o env m K) (hd : (match o.dst with | some d => Nat.blt d N | none => true) = true)
  {a : Act} {w : World} {F : Nat → Prop} {σ : Pls} (hN : a.tmps.size = N) (he : EnvOk env w F σ a.tmps) (hm : MemOk m σ F w) {next : Act → World → Prop} {Q : Exit → Act → World → Prop}
  (hn : ∀ env' m' v w' σ' F', K env' m' → EnvOk env' w' F' σ' (a.put o.dst v).tmps → MemOk m' σ' F' w' → Step σ F w σ' F' w' → SLe σ σ' → next (a.put o.dst v) w') : o.wpIn (Fen ro) 0 P a w next Q := by
 unfold vcOp at h
 split at h
 ·rename_i v l hr
  obtain ⟨hl, h⟩ := obs_ok h
  rw [frc_eq] at h
  obtain ⟨u, hu, hrun⟩ := evRead_ok hT hm he hr hl
  obtain ⟨env', hk, he'⟩ := setD_ok hN hd he hu h
  refine wpIn_at (fun c hc => by rw [hc, evRead_defer] at hr; cases hr) ?_
  rw [hrun w (Agree.refl F σ w), Oper.uponIn_value]
  exact hn env' m u w σ F hk he' hm (Step.refl σ F w) (SLe.refl σ)
 ·split at h
  ·rename_i v m' l hr
   obtain ⟨hl, h⟩ := obs_ok h
   rw [frc_eq, frcM_eq] at h
   obtain ⟨n, u, w', σ', hrun, hcase, hu, hm', hs, hle⟩ := evEff_ok hT hm he hr hl
   have he1 := he.mono (w' := w') hs.fro (hs.frozen hm) hle
   obtain ⟨env', hk, he'⟩ := setD_ok hN hd he1 hu h
   refine wpIn_at (fun c hc => by rw [hc, evEff_defer] at hr; cases hr) ?_
   rw [hrun]
   rcases hcase with rfl | ⟨rfl, rfl⟩
   ·rw [Oper.uponIn_value]; exact hn env' m' u w' σ' F hk he' hm' hs hle
   ·rw [Oper.uponIn_skip]; exact hn env' m' undef w' σ' F hk he' hm' hs hle
  ·have custom : OpVC P o env m (fun v m' => Ev (setD env o.dst v fun env => K env m')) → o.wpIn (Fen ro) 0 P a w next Q := fun h => by
    obtain ⟨n, u, w', σ', F', A, m', hrun, hcase, hk, hu, hm', hs, hle⟩ := h.run a w F σ he hm
    have he1 := he.mono (w' := w') hs.fro (hs.frozen hm) hle
    obtain ⟨env', hk, he'⟩ := setD_ok hN hd he1 hu hk.o
    refine wpIn_at h.nd ?_
    rw [hrun]
    rcases hcase with rfl | ⟨rfl, rfl⟩
    ·rw [Oper.uponIn_value]; exact hn env' m' u w' σ' F' hk he' hm' hs hle
    ·rw [Oper.uponIn_skip]; exact hn env' m' undef w' σ' F' hk he' hm' hs hle
   split at h
   rotate_left
   ·exact custom h
   rename_i f args at_ hop
   cases hx : isExt f with
   | true =>
    rw [hx] at h
    exact custom h
   | false =>
   rw [hx] at h
   simp only [cond_false] at h
   obtain ⟨hl, h⟩ := obs_ok h
   obtain ⟨h1, h2⟩ := all_cat hl
   refine vcCall_ok hop hm (strip_ok (ev_ok he f) h1) (stripAll_ok he args.toList h2) h fun v A m' σ' F' w' hk hv hm' hs hle => ?_
   obtain ⟨env', hk', he'⟩ := setD_ok hN hd (he.mono hs.fro (hs.frozen hm) hle) hv hk.o
   exact hn env' m' v w' σ' F' hk' he' hm' hs hle

theorem vcOps_ok (hT : TabOk P T) {full : List Oper} {ops : Array Oper} (hfull : ops = full.toArray) {N : Nat} {K : Env → Mem → Prop} {Q : Exit → Act → World → Prop} :
  ∀ (rest : List Oper) (env : Env) (m : Mem), dstsIn N rest = true → vcOps P T full rest env m K → ∀ (a : Act) (w : World) (F : Nat → Prop) (σ : Pls), a.tmps.size = N → EnvOk env w F σ a.tmps → MemOk m σ F w →
   (∀ env' m' a' w' σ' F', K env' m' → a'.tmps.size = N → a'.defers = a.defers → EnvOk env' w' F' σ' a'.tmps → MemOk m' σ' F' w' → Step σ F w σ' F' w' → SLe σ σ' → Q .normal a' w') → wpListIn (Fen ro) 0 P ops Q rest a w
 | [], env, m, _, h, a, w, F, σ, hN, he, hm, hn => wpListIn_nil (hn env m a w σ F h hN rfl he hm (Step.refl σ F w) (SLe.refl σ))
 | o :: rest, env, m, hd, h, a, w, F, σ, hN, he, hm, hn => by
  simp only [dstsIn, Bool.and_eq_true] at hd
  have cont : ∀ env' m' v w' σ' F', vcOps P T full rest env' m' K → EnvOk env' w' F' σ' (a.put o.dst v).tmps → MemOk m' σ' F' w' → Step σ F w σ' F' w' → SLe σ σ' → wpListIn (Fen ro) 0 P ops Q rest (a.put o.dst v) w' := by
   intro env' m' v w' σ' F' hk he' hm' hs hle
   refine vcOps_ok hT hfull rest env' m' hd.2 hk (a.put o.dst v) w' F' σ' (by rw [put_size]; exact hN) he' hm' ?_
   intro env2 m2 a2 w2 σ2 F2 k1 k2 k3 k4 k5 k6 k7
   exact hn env2 m2 a2 w2 σ2 F2 k1 k2 (by rw [k3, put_defers]) k4 k5 (hs.trans k6) (fun r q hq => by
    obtain ⟨q1, h1, h2⟩ := hle r q hq
    obtain ⟨q2, h3, h4⟩ := k7 r q1 h1
    exact ⟨q2, h3, h2.trans h4⟩)
  have skip : ∀ (A : AV), Vc w F σ A undef → (setD env o.dst A fun env => vcOps P T full rest env m K) → wpListIn (Fen ro) 0 P ops Q rest (a.put o.dst undef) w := by
   intro A hA hk
   obtain ⟨env', hk, he'⟩ := setD_ok hN hd.1 he hA hk
   exact cont env' m undef w σ F hk he' hm (Step.refl σ F w) (SLe.refl σ)
  rw [vcOps_cons] at h
  split at h
  ·rename_i hg
   exact wpListIn_plain hg fun K' hK' => vcOp_ok hT h hd.1 hN he hm fun env' m' v w' σ' F' hk he' hm' hs hle => hK' _ _ (cont env' m' v w' σ' F' hk he' hm' hs hle)
  ·rename_i j want hg
   split at h <;> try (cases h; done)
   rename_i g hgo
   have hw : Region.wanted o (yielded ops a.tmps) = g := by
    subst hfull
    simp only [Region.wanted, hg]
    exact guardOf_ok he hgo
   split at h
   ·rename_i v l hr
    obtain ⟨hl, h⟩ := obs_ok h
    rw [frc_eq] at h
    refine wpListIn_step fun K' hK' => ?_
    rw [hw]
    cases g with
    | true =>
     simp only [if_true]
     obtain ⟨u, hu, hrun⟩ := evRead_ok hT hm he hr (under_ok hl rfl)
     obtain ⟨env', hk, he'⟩ := setD_ok hN hd.1 he (Vc.gd (fun _ => hu) (fun h => by cases h)) h
     refine wpIn_at (fun c hc => by rw [hc, evRead_defer] at hr; cases hr) ?_
     rw [hrun w (Agree.refl F σ w), Oper.uponIn_value]
     exact hK' _ _ (cont env' m u w σ F hk he' hm (Step.refl σ F w) (SLe.refl σ))
    | false =>
     simp only [Bool.false_eq_true, if_false]
     exact ⟨fun _ _ => trivial, hK' _ _ (skip _ (.gd (fun h => by cases h) fun _ => rfl) h)⟩
   ·refine wpListIn_step fun K' hK' => ?_
    rw [hw]
    cases g with
    | true =>
     simp only [if_true]
     exact vcOp_ok hT (h.t rfl).o hd.1 hN he hm fun env' m' v w' σ' F' hk he' hm' hs hle => hK' _ _ (cont env' m' v w' σ' F' hk he' hm' hs hle)
    | false =>
     simp only [Bool.false_eq_true, if_false]
     exact ⟨fun _ _ => trivial, hK' _ _ (skip _ (.gd (fun h => by cases h) fun _ => rfl) (h.f rfl).o)⟩
end sound
end Go.Ab
/-
 The engine, part Y: functions that only compute; statements that leave their order open.
-/
namespace Go.Ab
set_option linter.unusedSimpArgs false
set_option linter.unusedVariables false

def SArg (σ σ' : Pls) : Prop := ∀ j q, σ (.arg j) = some q → ∃ q', σ' (.arg j) = some q' ∧ QLe q q'
theorem SArg.refl (σ : Pls) : SArg σ σ := fun _ q h => ⟨q, h, QLe.refl q⟩
theorem SArg.of {σ σ' : Pls} (h : SLe σ σ') : SArg σ σ' := fun j q hq => h (.arg j) q hq
theorem SArg.trans {σ σ' σ'' : Pls} (h : SArg σ σ') (k : SArg σ' σ'') : SArg σ σ'' := fun j q hq => by
 obtain ⟨q1, h1, h2⟩ := h j q hq
 obtain ⟨q2, h3, h4⟩ := k j q1 h1
 exact ⟨q2, h3, h2.trans h4⟩

abbrev Post := Exit → Env → Mem → Prop
/-- The mark that a range over a function leaves among the deferred calls. -/
def mark (D : Nat) : Deferred := { target := .collected D, args := #[] }
/-- Where blocks of this activation begin; the deferred calls that it was left with. -/
structure Lo where
 n : Nat
 base : List Deferred
/-- What stands around: the deferred calls are marks of blocks that none of ours is; in a round the loop's record lies there. -/
structure Ctx (ro : Option Nat) (lo : Lo) (ds : List Deferred) (σ : Pls) (F : Nat → Prop) (w : World) : Prop where
 marks : ∃ Ds : List Nat, ds = Ds.map mark ++ lo.base ∧ Ds.Nodup ∧ ∀ D ∈ Ds, lo.n ≤ D ∧ w.heap[D]? = some (.deferred (some [])) ∧ ¬ Owned σ D ∧ ¬ F D
 low : lo.n ≤ w.heap.size
 rd : ∀ l, ro = some l → (∃ r, w.heap[l]? = some (.loop r)) ∧ ¬ Owned σ l ∧ ¬ F l
theorem Ctx.nil {σ : Pls} {F : Nat → Prop} {w : World} : Ctx none ⟨w.heap.size, []⟩ [] σ F w := ⟨⟨[], rfl, List.nodup_nil, fun _ h => by cases h⟩, Nat.le_refl _, fun _ h => by cases h⟩
theorem Ctx.step {ro : Option Nat} {lo : Lo} {ds : List Deferred} {σ σ' : Pls} {F F' : Nat → Prop} {w w' : World} (h : Ctx ro lo ds σ F w) (s : Step σ F w σ' F' w') : Ctx ro lo ds σ' F' w' := by
 have key : ∀ D o, w.heap[D]? = some o → ¬ Owned σ D → ¬ F D → w'.heap[D]? = some o ∧ ¬ Owned σ' D ∧ ¬ F' D := fun D o h1 h2 h3 => by
  have hlt : D < w.heap.size := (Array.getElem?_eq_some_iff.1 h1).1
  refine ⟨(s.keep D hlt h2).trans h1, fun h => ?_, fun h => ?_⟩
  ·rcases s.own D h with h | h
   ·exact h2 h
   ·omega
  ·rcases s.fro' D h with h | h | h
   ·exact h3 h
   ·exact h2 h
   ·omega
 obtain ⟨Ds, e, nd, hm⟩ := h.marks
 refine ⟨⟨Ds, e, nd, fun D hD => ?_⟩, Nat.le_trans h.low s.size, fun l hl => ?_⟩
 ·obtain ⟨h0, h1, h2, h3⟩ := hm D hD
  exact ⟨h0, key D _ h1 h2 h3⟩
 ·obtain ⟨⟨r, h1⟩, h2, h3⟩ := h.rd l hl
  have := key l _ h1 h2 h3
  exact ⟨⟨r, this.1⟩, this.2⟩
def lift (N : Nat) (Q : Post) (ro : Option Nat) (lo : Lo) (σ : Pls) (F : Nat → Prop) (w : World) : Exit → Act → World → Prop := fun e a' w' =>
 ∃ env' m' σ' F', Q e env' m' ∧ a'.tmps.size = N ∧ Ctx ro lo a'.defers σ' F' w' ∧ EnvOk env' w' F' σ' a'.tmps ∧ MemOk m' σ' F' w' ∧ Step σ F w σ' F' w' ∧ SArg σ σ'
structure Awp (P : Program) (N : Nat) (c : Code) (env : Env) (m : Mem) (Q : Post) : Prop where
 run : ∀ (ro : Option Nat) (lo : Lo) (a : Act) (w : World) (σ : Pls) (F : Nat → Prop), a.tmps.size = N → Ctx ro lo a.defers σ F w → EnvOk env w F σ a.tmps → MemOk m σ F w → c.wpIn (Fen ro) 0 P (lift N Q ro lo σ F w) a w

/-! ### pure calls -/
def resAV : List D → AV
 | [x] => .d x
 | xs => .tup (up xs)
/-- Nothing that was there has turned. -/
structure Grew (F : Nat → Prop) (w : World) (F' : Nat → Prop) (w' : World) : Prop where
 os : w'.os = w.os
 tape : w'.tape = w.tape
 output : w'.output = w.output
 drawn : w.drawn ≤ w'.drawn
 size : w.heap.size ≤ w'.heap.size
 keep : ∀ b, b < w.heap.size → w'.heap[b]? = w.heap[b]?
 fro : ∀ b, F b → F' b
 fro' : ∀ b, F' b → F b ∨ w.heap.size ≤ b
 lt : ∀ b, F' b → b < w'.heap.size
/-- A function that only computes: from data to data. -/
def Pure (P : Program) (f : FuncId) (args res : List D) : Prop :=
 CanEnter P f ∧ ∀ (F : Nat → Prop) (w : World) (vals : List Value), (∀ b, F b → b < w.heap.size) → GOk F w → vals.length = args.length → (∀ (j : Nat) x u, args[j]? = some x → vals[j]? = some u → Rd w F x u) →
  Calls P f vals.toArray w fun e w' => ∃ v F', e = .returned v ∧ Grew F w F' w' ∧ ∀ σ, Vc w' F' σ (resAV res) v

theorem Grew.step {F F' : Nat → Prop} {w w' : World} (h : Grew F w F' w') (σ : Pls) : Step σ F w σ F' w' :=
 ⟨h.os, h.tape, h.output, h.drawn, h.size, fun b hb _ => h.keep b hb, h.fro, fun b hb => (h.fro' b hb).elim .inl (fun h => .inr (.inr h)), fun _ h => .inl h⟩
theorem Grew.mem {F F' : Nat → Prop} {w w' : World} (h : Grew F w F' w') {m : Mem} {σ : Pls} (hm : MemOk m σ F w) : MemOk m σ F' w' where
 dom := hm.dom
 lv r q hq := ⟨(hm.lv r q hq).1, fun pl e => by
  obtain ⟨B, hB, hok⟩ := (hm.lv r q hq).2 pl e
  exact ⟨B, hB, hok.mono h.fro (fun b hb => h.keep b (hm.fl b hb)) (SLe.refl σ) (fun b t hl => h.keep b (hm.nf r pl b t (by rw [hq, e]) hl).2)⟩⟩
 inj := hm.inj
 nf r pl b t h1 h2 := ⟨fun hF => by
  rcases h.fro' b hF with h3 | h3
  ·exact (hm.nf r pl b t h1 h2).1 h3
  ·have := (hm.nf r pl b t h1 h2).2; omega, Nat.lt_of_lt_of_le (hm.nf r pl b t h1 h2).2 h.size⟩
 fl := h.lt
 gl := hm.gl.mono h.fro (fun b hb => h.keep b (hm.fl b hb))

theorem ArgsOk.data {w : World} {F : Nat → Prop} {σ : Pls} {xs : List D} {vals : List Value} (h : ArgsOk w F σ (up xs) vals) : vals.length = xs.length ∧ ∀ (j : Nat) x u, xs[j]? = some x → vals[j]? = some u → Rd w F x u :=
 ⟨by rw [h.1, up_eq, List.length_map], fun j x u hx hu => by
  have := h.2 j (.d x) u (by rw [up_eq, List.getElem?_map, hx]; rfl) hu
  cases this with | d h => exact h⟩
theorem Pure.call {P : Program} {f : FuncId} {args res : List D} (h : Pure P f args res) {m : Mem} {K : AV → Mem → Prop} (hk : K (resAV res) m) : CallVC P f (up args) m K :=
 ⟨h.1, fun σ F w vals hm ha => (h.2 F w vals hm.fl hm.gl ha.data.1 ha.data.2).mono fun _ _ ⟨v, F', he, hg, hv⟩ => ⟨v, resAV res, m, σ, F', he, hk, hv σ, hg.mem hm, hg.step σ, SLe.refl σ⟩⟩


/-- A call, in a statement that leaves its order open, of a function that only computes. -/
structure QCall (P : Program) (fn : AV) (as : List AV) (K : AV → Prop) : Prop where
 q : ∃ (f : FuncId) (xs ys args res : List D), fn = .d (.fn (.func f) xs ys) ∧ as = up args ∧ Pure P f (xs ++ args ++ ys) res ∧ K (resAV res)

/-! ### which slots an operation reads -/
def tmpO : Operand → List Nat
 | .tmp t => [t]
 | _ => []
def tmpOs : List Operand → List Nat
 | [] => []
 | .tmp t :: r => t :: tmpOs r
 | _ :: r => tmpOs r
def tmpPs : List (Nat × Operand) → List Nat
 | [] => []
 | (_, .tmp t) :: r => t :: tmpPs r
 | _ :: r => tmpPs r
def tmpM : Option Operand → List Nat
 | some (.tmp t) => [t]
 | _ => []
def app2 : List Nat → List Nat → List Nat
 | [], l => l
 | x :: r, l => x :: app2 r l
def tmpsOf : Op → List Nat
 | .move x => tmpO x
 | .assign x => tmpO x
 | .pick c a b => app2 (tmpO c) (app2 (tmpO a) (tmpO b))
 | .binOp _ _ x y _ => app2 (tmpO x) (tmpO y)
 | .unOp _ _ x => tmpO x
 | .load _ x => tmpO x
 | .fieldAddr _ x _ => tmpO x
 | .indexAddr _ x i => app2 (tmpO x) (tmpO i)
 | .field _ x _ => tmpO x
 | .extract x _ => tmpO x
 | .makeInterface _ x => tmpO x
 | .convert _ _ x => tmpO x
 | .makeFunc _ f c => app2 (tmpOs f.toList) (tmpOs c.toList)
 | .build _ ps => tmpPs ps.toList
 | .buildSlice _ _ ps => tmpPs ps.toList
 | .slice _ x lo hi mx => app2 (tmpO x) (app2 (tmpM lo) (app2 (tmpM hi) (tmpM mx)))
 | .nilCheck x => tmpO x
 | .lookup _ x k _ => app2 (tmpO x) (tmpO k)
 | .call c => match c.callee with
  | .value f => app2 (tmpO f) (tmpOs c.args.toList)
  | _ => tmpOs c.args.toList
 | _ => []
def gTmp (full : List Oper) : Option (Nat × Bool) → List Nat
 | some (j, _) => match dstOf full j with
  | some t => [t]
  | none => []
 | none => []
/-- The environment, but for these slots. -/
def sel (env : Env) : List Nat → Env
 | [] => []
 | t :: r => (t, get env t) :: sel env r
theorem get_sel (env : Env) (t : Nat) : ∀ ts : List Nat, (t ∈ ts ∧ get (sel env ts) t = get env t) ∨ get (sel env ts) t = .junk
 | [] => .inr rfl
 | u :: r => by
  simp only [sel, get]
  cases h : Nat.beq u t with
  | true =>
   have := Nat.eq_of_beq_eq_true h
   subst this
   exact .inl ⟨by simp, rfl⟩
  | false =>
   rcases get_sel env t r with ⟨h1, h2⟩ | h2
   ·exact .inl ⟨by simp [h1], h2⟩
   ·exact .inr h2
theorem sel_ok {env : Env} {ts : List Nat} {w : World} {F : Nat → Prop} {σ : Pls} {tmps : Array Value} (h : ∀ t ∈ ts, Vc w F σ (get env t) (tmps.getD t undef)) : EnvOk (sel env ts) w F σ tmps := fun t => by
 rcases get_sel env t ts with ⟨h1, h2⟩ | h2
 ·rw [h2]; exact h t h1
 ·rw [h2]; exact .junk
/-- Rows, all of data. -/
def allRows : List (List AV) → Option (List (List D))
 | [] => some []
 | c :: r => match allD c with
  | some x => match allRows r with
   | some l => some (x :: l)
   | none => none
  | none => none
def nthD : List (List D) → Nat → List D
 | [], _ => []
 | c :: _, 0 => c
 | _ :: r, i + 1 => nthD r i
def rowFnD : List (List D) → Nat → List D
 | [c] => fun _ => c
 | l => nthD l
def allDP : List (Nat × AV) → Bool
 | [] => true
 | (_, .d _) :: r => allDP r
 | _ => false
def evFresh (T : Tab) (e : Env) (op : Op) : Option (AV × List Prop) :=
 match op with
 | .buildSlice t n parts => match stripParts (evParts e parts.toList) with
  | (l0, p) => bif allDP l0 then match elemOf T t with
   | none => none
   | some (_, sz) => match rowsOf ⟨[], []⟩ sz 0 l0 with
    | none => none
    | some (rows, q) => match allRows rows with
     | none => none
     | some ds => bif Nat.beq (countR rows) n && Nat.ble (n * sz) 65536 then some (.d (bif memN t slcs then .slc sz n (rowFnD ds) else .sl sz n (rowFnD ds)), cat p q) else none
   else none
 | _ => none
noncomputable def vcR1 (P : Program) (T : Tab) (m : Mem) (e : Env) (o : Oper) (K : AV → Prop) : Prop :=
 match evRead T e m o.op with
 | some (v, l) => obs l (frc v K)
 | none => match evFresh T e o.op with
  | some (v, l) => obs l (frc v K)
  | none => match o.op with
   | .call { callee := .value f, args, .. } => match strip (ev e f) with
    | (fn, p) => match stripAll e args.toList with
     | (as, q) => obs (cat p q) (QCall P fn as fun v => Ev (K v))
   | .build t parts => match stripParts (evParts e parts.toList) with
    | (l0, p) => match evBuildArr T m t l0 with
     | some (A, q) => obs (cat p q) (frc A K)
     | none => False
   | _ => False
noncomputable def vcR (P : Program) (T : Tab) (full : List Oper) (m : Mem) (ops : List Oper) : Env → (Env → Prop) → Prop :=
 List.rec (motive := fun _ => Env → (Env → Prop) → Prop) (fun env K => K env) (fun o _ ih env K => match o.guard with
  | none => vcR1 P T m (sel env (tmpsOf o.op)) o fun v => setD env o.dst v fun env => ih env K
  | some (j, want) => match guardOf full (sel env (gTmp full (some (j, want)))) j want with
   | none => False
   | some g => match evRead T (sel env (tmpsOf o.op)) m o.op with
    | some (v, l) => obs (under g l) (frc v fun v => setD env o.dst (.gd g v) fun env => ih env K)
    | none => Br g (Ev (vcR1 P T m (sel env (tmpsOf o.op)) o fun v => setD env o.dst v fun env => ih env K)) (Ev (setD env o.dst (.gd false (.d (.bool false))) fun env => ih env K))) ops
theorem vcR_cons (P : Program) (T : Tab) (full : List Oper) (m : Mem) (o : Oper) (rest : List Oper) (env : Env) (K : Env → Prop) : vcR P T full m (o :: rest) env K = match o.guard with
  | none => vcR1 P T m (sel env (tmpsOf o.op)) o fun v => setD env o.dst v fun env => vcR P T full m rest env K
  | some (j, want) => match guardOf full (sel env (gTmp full (some (j, want)))) j want with
   | none => False
   | some g => match evRead T (sel env (tmpsOf o.op)) m o.op with
    | some (v, l) => obs (under g l) (frc v fun v => setD env o.dst (.gd g v) fun env => vcR P T full m rest env K)
    | none => Br g (Ev (vcR1 P T m (sel env (tmpsOf o.op)) o fun v => setD env o.dst v fun env => vcR P T full m rest env K)) (Ev (setD env o.dst (.gd false (.d (.bool false))) fun env => vcR P T full m rest env K)) := rfl

/-! ### the order -/
def edgeOn (es : List Edge) (j : Nat) : Bool := es.any fun e => Nat.beq e.on j && Region.binds .any e
def defsOk (t i : Nat) (es : List Edge) : Nat → List Oper → Bool
 | _, [] => true
 | j, o :: r => (match o.dst with
  | some d => bif Nat.beq d t then (Nat.blt j i && edgeOn es j) || (Nat.beq j i || (Nat.blt i j && edgeOn o.after.toList i)) else true
  | none => true) && defsOk t i es (j + 1) r
def dstOnce (d i : Nat) : Nat → List Oper → Bool
 | _, [] => true
 | j, o :: r => (match o.dst with
  | some d' => bif Nat.beq d' d then Nat.beq j i else true
  | none => true) && dstOnce d i (j + 1) r
def okFrom (full : List Oper) : Nat → List Oper → Bool
 | _, [] => true
 | i, o :: r => (o.after.toList.all fun e => !Region.binds .any e || Nat.blt e.on i) && ((match o.dst with
  | some d => dstOnce d i 0 full
  | none => true) && ((app2 (tmpsOf o.op) (gTmp full o.guard)).all fun t => defsOk t i o.after.toList 0 full)) && okFrom full (i + 1) r
def okR (full : List Oper) : Bool := okFrom full 0 full

theorem Grew.drew {w : World} {F : Nat → Prop} (h : ∀ b, F b → b < w.heap.size) : Grew F w F { w with drawn := w.drawn + 1 } := ⟨rfl, rfl, rfl, Nat.le_succ _, Nat.le_refl _, fun _ _ => rfl, fun _ h => h, fun _ h => .inl h, h⟩
theorem Grew.refl {w : World} {F : Nat → Prop} (h : ∀ b, F b → b < w.heap.size) : Grew F w F w := ⟨rfl, rfl, rfl, Nat.le_refl _, Nat.le_refl _, fun _ _ => rfl, fun _ h => h, fun _ h => .inl h, h⟩
theorem Grew.trans {w w1 w2 : World} {F F1 F2 : Nat → Prop} (hg : Grew F w F1 w1) (hg2 : Grew F1 w1 F2 w2) : Grew F w F2 w2 :=
 ⟨hg2.os.trans hg.os, hg2.tape.trans hg.tape, hg2.output.trans hg.output, Nat.le_trans hg.drawn hg2.drawn, Nat.le_trans hg.size hg2.size, fun b hb => (hg2.keep b (Nat.lt_of_lt_of_le hb hg.size)).trans (hg.keep b hb), fun b hb => hg2.fro b (hg.fro b hb),
  fun b hb => by
   rcases hg2.fro' b hb with h3 | h3
   ·exact hg.fro' b h3
   ·exact .inr (Nat.le_trans hg.size h3), hg2.lt⟩
theorem mem_app2 {x : Nat} : ∀ {a b : List Nat}, x ∈ app2 a b ↔ x ∈ a ∨ x ∈ b
 | [], b => by simp [app2]
 | y :: r, b => by simp [app2, mem_app2 (a := r), or_assoc]
section
variable {P : Program} {T : Tab}
/-- What an operation does in any world that has grown: it hands back a value that reads as A. -/
def YieldR (P : Program) (σ : Pls) (F : Nat → Prop) (w : World) (A : AV) : Result Next → Prop
 | .ok (.value u) w2 => ∃ F2, Grew F w F2 w2 ∧ Vc w2 F2 σ A u
 | .ok (.enter f args) w2 => w2 = w ∧ Calls P f args w fun e w3 => ∃ u F3, e = .returned u ∧ Grew F w F3 w3 ∧ Vc w3 F3 σ A u
 | _ => False
def Does1 (P : Program) (m : Mem) (σ : Pls) (o : Oper) (e : Env) (A : AV) : Prop :=
 ∀ (F : Nat → Prop) (w : World) (a : Act), MemOk m σ F w → EnvOk e w F σ a.tmps → YieldR P σ F w A ((execOp a.eval o).run P w)
theorem allD_rows : ∀ {rows : List (List AV)} {ds : List (List D)}, allRows rows = some ds → rows.length = ds.length ∧ ∀ (i : Nat) (h : i < rows.length) (h' : i < ds.length), rows[i] = up ds[i]
 | [], ds, h => by simp [allRows] at h; subst h; exact ⟨rfl, fun i h => by simp at h⟩
 | c :: r, ds, h => by
  simp only [allRows] at h
  split at h <;> try (cases h; done)
  rename_i x hx
  split at h <;> try (cases h; done)
  rename_i l hl
  injection h with h
  subst h
  obtain ⟨h1, h2⟩ := allD_rows hl
  refine ⟨by simp [h1], fun i hi hi' => ?_⟩
  cases i with
  | zero => exact allD_eq0 hx
  | succ i => exact h2 i (by simpa using hi) (by simpa using hi')
theorem nthD_eq : ∀ {l : List (List D)} {i : Nat} (hi : i < l.length), nthD l i = l[i]
 | c :: r, 0, _ => rfl
 | c :: r, i + 1, hi => by simpa [nthD] using nthD_eq (l := r) (i := i) (by simpa using hi)
theorem rowFnD_eq {l : List (List D)} {i : Nat} (hi : i < l.length) : rowFnD l i = l[i] := by
 unfold rowFnD
 split
 ·simp at hi
  subst hi
  rfl
 ·exact nthD_eq hi
theorem allDP_at : ∀ {l : List (Nat × AV)}, allDP l = true → ∀ (j : Nat) B, l[j]? = some B → ∃ x, B.2 = .d x
 | [], _, j, B, h => by simp at h
 | (i, .d x) :: r, h, j, B, hB => by
  cases j with
  | zero => simp at hB; subst hB; exact ⟨x, rfl⟩
  | succ j => exact allDP_at (l := r) h j B (by simpa using hB)
 | (_, .agg _) :: _, h, _, _, _ => by simp [allDP] at h
 | (_, .tup _) :: _, h, _, _, _ => by simp [allDP] at h
 | (_, .ifc _ _) :: _, h, _, _, _ => by simp [allDP] at h
 | (_, .fn _ _ _) :: _, h, _, _, _ => by simp [allDP] at h
 | (_, .ptr _ _ _ _) :: _, h, _, _, _ => by simp [allDP] at h
 | (_, .osl _ _ _ _) :: _, h, _, _, _ => by simp [allDP] at h
 | (_, .mp _) :: _, h, _, _, _ => by simp [allDP] at h
 | (_, .gd _ _) :: _, h, _, _, _ => by simp [allDP] at h
 | (_, .junk) :: _, h, _, _, _ => by simp [allDP] at h
section
variable {w : World} {F : Nat → Prop} {σ : Pls} {m : Mem}
theorem osl_data (hm : MemOk m σ F w) {F' : Nat → Prop} (hF : ∀ b, F b → F' b) {r : Ref} {g off n : Nat} {v : Value} (h : Vc w F σ (.osl r g off n) v) {e sz k : Nat} {f : Nat → List AV} {f' : Nat → List D}
  (hB : m.get r = some (.vec e sz g k f)) (hk : off + n ≤ k) (hf : ∀ i, i < k → f i = up (f' i)) (hF' : ∀ pl b tot, σ r = some (some pl) → pl.loc = some (b, tot) → F' b) : Rd w F' (.sl sz n fun i => f' (off + i)) v := by
 have up' : ∀ {y : D} {u : Value}, Rd w F y u → Rd w F' y u := fun h => h.mono hF (fun _ _ => rfl)
 obtain ⟨pl, hr, hok, _, hat⟩ := osl_row hm h (Mem.get_at hB)
 obtain ⟨h0, hsz, hn0, hrow, hl⟩ := hok
 have hsl := hat h0
 unfold SlAt at hsl
 split at hsl
 ·obtain ⟨rfl, _, rfl⟩ := hsl
  exact .sl ⟨0, 0, none⟩ (fun _ _ => undef) (Nat.le_refl _) (fun h => absurd h (by omega)) (fun i hi => absurd hi (by omega)) (fun i j hi => absurd hi (by omega)) (fun i j x hi => absurd hi (by omega))
 ·rename_i b tot hloc
  obtain ⟨B, cap, rfl, hnc, hoc, hA⟩ := hsl
  obtain ⟨hnt, htm, us, hheap, hlen, hvc⟩ := hl b tot hloc
  have hlen' : ∀ i, i < n → (f' (off + i)).length = sz := fun i hi => by
   have := hrow (off + i) (by omega)
   rw [hf _ (by omega), up_eq, List.length_map] at this
   exact this
  have hcell : ∀ i j, i < n → j < sz → ∃ u, us[(off + i) * sz + j]? = some u ∧ u.oneCell' = true ∧ ∀ x, (f' (off + i))[j]? = some x → Rd w F x u := fun i j hi hj => by
   have hx : (f' (off + i))[j]? = some ((f' (off + i))[j]'(by rw [hlen' i hi]; exact hj)) := List.getElem?_eq_getElem _
   obtain ⟨u, hu, hv, h1⟩ := hvc (off + i) j (.d _) (by omega) (by rw [hf _ (by omega), up_eq, List.getElem?_map, hx]; rfl)
   refine ⟨u, hu, h1, fun x hx' => ?_⟩
   rw [hx] at hx'
   injection hx' with hx'
   subst hx'
   cases hv with | d hv => exact hv
  refine .sl ⟨b, off * sz, none⟩ (fun i j => us.getD ((off + i) * sz + j) undef) hnc (fun hn => ⟨by rw [hA (.inl (by omega)), hsz], hF' pl b tot hr hloc⟩) hlen' (fun i j hi hj => ?_) (fun i j x hi hx => ?_)
  ·obtain ⟨u, hu, h1, _⟩ := hcell i j hi hj
   rw [add_at, cell_of_row w b _ us.toArray e (0, 0) hheap]
   have e1 : off * sz + (i * sz + j) = (off + i) * sz + j := by rw [Nat.add_mul]; omega
   rw [e1]
   simp [hu, h1]
  ·have hj : j < sz := by rw [← hlen' i hi]; exact (List.getElem?_eq_some_iff.1 hx).1
   obtain ⟨u, hu, _, h2⟩ := hcell i j hi hj
   simp only [List.getD_eq_getElem?_getD, hu, Option.getD_some]
   exact up' (h2 x hx)

end
theorem memNone {F : Nat → Prop} {w : World} (hf : ∀ b, F b → b < w.heap.size) (hg : GOk F w) : MemOk ⟨[], []⟩ (fun _ => none) F w where
 dom r := by cases r <;> simp [Mem.at]
 lv r q h := by cases h
 inj r r' pl pl' b t t' h := by cases h
 nf r pl b t h := by cases h
 fl := hf
 gl := hg
theorem evFresh_ok (hT : TabOk P T) {m : Mem} {σ : Pls} {e : Env} {o : Oper} {A : AV} {l : List Prop} (h : evFresh T e o.op = some (A, l)) (hl : ∀ p ∈ l, p) : Does1 P m σ o e A := by
 intro F w a hm he
 unfold evFresh at h
 split at h <;> try (cases h; done)
 rename_i t n parts hop
 split at h
 rename_i l0 p hsp
 cases hdp : allDP l0 with
 | false => rw [hdp] at h; cases h
 | true =>
  rw [hdp] at h
  simp only [cond_true] at h
  split at h <;> try (cases h; done)
  rename_i e0 sz hel
  split at h <;> try (cases h; done)
  rename_i rows q hrows
  split at h <;> try (cases h; done)
  rename_i ds hds
  cases hc : (Nat.beq (countR rows) n && Nat.ble (n * sz) 65536) with
  | false => rw [hc] at h; cases h
  | true =>
   rw [hc] at h
   simp only [cond_true, Option.some.injEq, Prod.mk.injEq] at h
   obtain ⟨rfl, rfl⟩ := h
   obtain ⟨hp, hq⟩ := all_cat hl
   have hm0 := memNone hm.fl hm.gl
   have hev : evBuildSlice T ⟨[], []⟩ t n l0 = some (.osl (.loc 0) 0 0 n, ⟨[some (.vec e0 sz 0 n (rowFn rows))], []⟩, q) := by
    unfold evBuildSlice
    rw [hel]
    simp only
    rw [hrows]
    simp only [hc, cond_true]
    rfl
   obtain ⟨k1, k2⟩ := evParts_ok he parts.toList
   have hfst := stripParts_fst (evParts e parts.toList)
   rw [hsp] at hfst
   obtain ⟨u, w', σ', g1, g2, g3, g4, g5, hcap⟩ := evBuildSlice_ok (a := a) (parts := parts) hT hm0 (k1.trans hfst.symm) (fun j B u hB hu => by
    obtain ⟨A', hA', hv⟩ := stripParts_ok (w := w) (F := F) (σ := σ) (evParts e parts.toList) (by rw [hsp]; exact hp) j B (by rw [hsp]; exact hB)
    have := hv u.2 (k2 j A' u hA' hu)
    obtain ⟨x, hx⟩ := allDP_at hdp j B hB
    rw [hx] at this ⊢
    cases this with | d h => exact .d h) hev hq
   simp only [Bool.and_eq_true, countR_eq] at hc
   have hn := Nat.eq_of_beq_eq_true hc.1
   obtain ⟨e1, e2⟩ := allD_rows hds
   have hrun : (execOp a.eval o).run P w = .ok (.value u) w' := by simp [execOp, hop, g1]
   rw [hrun]
   let F2 : Nat → Prop := fun b => F b ∨ w.heap.size ≤ b ∧ b < w'.heap.size
   have hk : ∀ b, b < w.heap.size → w'.heap[b]? = w.heap[b]? := fun b hb => g4.keep b hb (fun ⟨r, pl, t, h, _⟩ => by cases h)
   have hrd := osl_data (F' := F2) (e := e0) (sz := sz) (k := n) (f := rowFn rows) (f' := rowFnD ds) g3 (fun b hb => .inl hb) g2 rfl (by omega) (fun i hi => by
    rw [rowFn_eq (by omega), rowFnD_eq (by omega)]
    exact e2 i (by omega) (by omega)) (fun pl b tot h1 h2 => by
     have hb := g3.nf _ pl b tot h1 h2
     rcases g4.own b ⟨_, pl, tot, h1, h2⟩ with ⟨_, _, _, h, _⟩ | h
     ·cases h
     ·exact .inr ⟨h, hb.2⟩)
   refine ⟨F2, ⟨g4.os, g4.tape, g4.output, g4.drawn, g4.size, hk, fun b hb => .inl hb, fun b hb => hb.elim .inl (fun h => .inr h.1), fun b hb => ?_⟩, .d ?_⟩
   ·rcases hb with hb | hb
    ·exact Nat.lt_of_lt_of_le (hm.fl b hb) g4.size
    ·exact hb.2
   ·have e3 : (fun i => rowFnD ds (0 + i)) = rowFnD ds := by funext i; rw [Nat.zero_add]
    rw [e3] at hrd
    cases memN t slcs with
    | false => exact hrd
    | true =>
     obtain ⟨A0, rfl⟩ := hcap
     exact .slc hrd
theorem evRead_does (hT : TabOk P T) {m : Mem} {σ : Pls} {e : Env} {o : Oper} {A : AV} {l : List Prop} (h : evRead T e m o.op = some (A, l)) (hl : ∀ p ∈ l, p) : Does1 P m σ o e A := by
 intro F w a hm he
 obtain ⟨u, hu, hrun⟩ := evRead_ok hT hm he h hl
 rw [hrun w (Agree.refl F σ w)]
 exact ⟨F, Grew.refl hm.fl, hu⟩
theorem vcR1_okA (hT : TabOk P T) {m : Mem} {e : Env} {o : Oper} {K : AV → Prop} (h : vcR1 P T m e o K) : ∃ A, K A ∧ ∀ σ : Pls, Does1 P m σ o e A := by
 unfold vcR1 at h
 split at h
 ·rename_i v l hr
  obtain ⟨hl, h⟩ := obs_ok h
  rw [frc_eq] at h
  exact ⟨v, h, fun σ => evRead_does hT hr hl⟩
 ·split at h
  ·rename_i v l hr
   obtain ⟨hl, h⟩ := obs_ok h
   rw [frc_eq] at h
   exact ⟨v, h, fun σ => evFresh_ok hT hr hl⟩
  ·split at h <;> try (cases h; done)
   rotate_left
   ·rename_i t parts hop
    split at h
    rename_i l0 p el
    split at h <;> try (cases h; done)
    rename_i A q hA
    obtain ⟨hl, h⟩ := obs_ok h
    rw [frc_eq] at h
    refine ⟨A, h, fun σ F w a hm he => ?_⟩
    obtain ⟨h1, h2⟩ := all_cat hl
    obtain ⟨hk1, hk2⟩ := evParts_ok he parts.toList
    obtain ⟨u, g0, g1⟩ := evBuildArr_ok (a := a) (parts := parts) hT hm (hk1.trans (by have := stripParts_fst (evParts e parts.toList); rw [el] at this; exact this.symm)) (fun j B u hB hu => by
     obtain ⟨A0, e1, e2⟩ := stripParts_ok (evParts e parts.toList) (by rw [el]; exact h1) j B (by rw [el]; exact hB)
     exact e2 _ (hk2 j A0 u e1 hu)) hA h2
    have hrun : (execOp a.eval o).run P w = .ok (.value u) w := by simp [execOp, hop, g0]
    rw [hrun]
    exact ⟨F, Grew.refl hm.fl, g1⟩
   rename_i f args at_ hop
   obtain ⟨hl, h⟩ := obs_ok h
   obtain ⟨id, xs, ys, das, res, hfn, has, hp, hk⟩ := h.q
   refine ⟨resAV res, hk.o, fun σ F w a hm he => ?_⟩
   obtain ⟨h1, h2⟩ := all_cat hl
   have hf := strip_ok (ev_ok he f) h1
   have ha := stripAll_ok he args.toList h2
   rw [hfn] at hf
   rw [has] at ha
   generalize hX : a.eval f = X at hf
   cases hf with
   | d hf => cases hf with
    | @fn _ _ _ us vs l1 l2 r1 r2 =>
     have hcall := hp.2 F w (us ++ args.toList.map a.eval ++ vs) hm.fl hm.gl (by simp [l1, l2]; have := ha.data.1; simp at this; omega) (fun j x u hx hu => by
      have ha1 : ArgsOk w F σ (up xs) us := .ofD l1 r1
      have ha2 : ArgsOk w F σ (up ys) vs := .ofD l2 r2
      have hall := ((ha1.app ha).app ha2)
      have e : up xs ++ up das ++ up ys = up (xs ++ das ++ ys) := by simp [up_eq]
      rw [e] at hall
      exact hall.data.2 j x u hx hu)
     have hrun : (execOp a.eval o).run P w = .ok (.enter id (us ++ args.toList.map a.eval ++ vs).toArray) w := by
      have e : us.toArray ++ Array.map a.eval args ++ vs.toArray = (us ++ args.toList.map a.eval ++ vs).toArray := by apply Array.ext'; simp
      simp only [execOp, hop, Sem.run_bind, resolve, Deferred.ofValue, hX, invoke, Sem.run_pure, Result.andThen_ok, e]
      exact run_callFunc hp.1 _ w
     rw [hrun]
     exact ⟨rfl, hcall.mono fun e w2 ⟨v, F2, he2, hg2, hv⟩ => ⟨v, F2, he2, hg2, hv σ⟩⟩
theorem vcR1_ok (hT : TabOk P T) {m : Mem} {σ : Pls} {e : Env} {o : Oper} {K : AV → Prop} (h : vcR1 P T m e o K) : ∃ A, K A ∧ Does1 P m σ o e A := by
 obtain ⟨A, h1, h2⟩ := vcR1_okA hT h
 exact ⟨A, h1, h2 σ⟩
end
end Go.Ab
