/-
  The engine, part I: memory that changes: new blocks, stores, append.
-/
import Derived.Test.YteamiepijajjdaaDoorEngH
namespace Go.Ab
set_option linter.unusedSimpArgs false
set_option linter.unusedVariables false

def Owned (σ : Pls) (b : Nat) : Prop := ∃ r pl t, σ r = some (some pl) ∧ pl.loc = some (b, t)

/-- What a piece of a run may do to memory. -/
structure Step (σ : Pls) (F : Nat → Prop) (w : World) (σ' : Pls) (F' : Nat → Prop) (w' : World) : Prop where
  os : w'.os = w.os
  tape : w'.tape = w.tape
  output : w'.output = w.output
  size : w.heap.size ≤ w'.heap.size
  keep : ∀ b, b < w.heap.size → ¬ Owned σ b → w'.heap[b]? = w.heap[b]?
  fro : ∀ b, F b → F' b
  fro' : ∀ b, F' b → F b ∨ Owned σ b ∨ w.heap.size ≤ b
  own : ∀ b, Owned σ' b → Owned σ b ∨ w.heap.size ≤ b

section
variable {σ σ' σ'' : Pls} {F F' F'' : Nat → Prop} {w w' w'' : World} {m : Mem}
theorem Step.refl (σ : Pls) (F : Nat → Prop) (w : World) : Step σ F w σ F w :=
  ⟨rfl, rfl, rfl, Nat.le_refl _, fun _ _ _ => rfl, fun _ h => h, fun _ h => .inl h, fun _ h => .inl h⟩
theorem Step.trans (h : Step σ F w σ' F' w') (k : Step σ' F' w' σ'' F'' w'') : Step σ F w σ'' F'' w'' where
  os := k.os.trans h.os
  tape := k.tape.trans h.tape
  output := k.output.trans h.output
  size := Nat.le_trans h.size k.size
  keep b hb ho := by
    have h1 := h.keep b hb ho
    rw [← h1]
    exact k.keep b (Nat.lt_of_lt_of_le hb h.size) (fun h2 => by
      rcases h.own b h2 with h3 | h3
      · exact ho h3
      · omega)
  fro b hb := k.fro b (h.fro b hb)
  fro' b hb := by
    rcases k.fro' b hb with h1 | h1 | h1
    · exact h.fro' b h1
    · rcases h.own b h1 with h2 | h2
      · exact .inr (.inl h2)
      · exact .inr (.inr h2)
    · exact .inr (.inr (Nat.le_trans h.size h1))
  own b hb := by
    rcases k.own b hb with h1 | h1
    · exact h.own b h1
    · exact .inr (Nat.le_trans h.size h1)
theorem Step.frozen (h : Step σ F w σ' F' w') (hm : MemOk m σ F w) : ∀ b, F b → w'.heap[b]? = w.heap[b]? :=
  fun b hb => h.keep b (hm.fl b hb) (fun ⟨r, pl, t, h1, h2⟩ => (hm.nf r pl b t h1 h2).1 hb)
end

def upd (σ : Pls) (r : Ref) (q : Option Pl) : Pls := fun r' => if r' = r then some q else σ r'
theorem upd_self (σ : Pls) (r : Ref) (q : Option Pl) : upd σ r q r = some q := if_pos rfl
theorem upd_other (σ : Pls) {r r' : Ref} (q : Option Pl) (h : r' ≠ r) : upd σ r q r' = σ r' := if_neg h
theorem SLe.upd_new {σ : Pls} {r : Ref} (q : Option Pl) (h : σ r = none) : SLe σ (upd σ r q) := fun r' q' hq => by
  have : r' ≠ r := fun e => by subst e; rw [h] at hq; cases hq
  exact ⟨q', by rw [upd_other σ q this]; exact hq, QLe.refl q'⟩
theorem SLe.upd_old {σ : Pls} {r : Ref} {q q' : Option Pl} (h : σ r = some q) (hq : QLe q q') : SLe σ (upd σ r q') := fun r' p hp => by
  by_cases e : r' = r
  · subst e
    rw [h] at hp
    injection hp with hp
    subst hp
    exact ⟨q', upd_self σ _ q', hq⟩
  · exact ⟨p, by rw [upd_other σ q' e]; exact hp, QLe.refl p⟩

def snoc : List (Option Blk) → Option Blk → List (Option Blk)
  | [], x => [x]
  | b :: r, x => b :: snoc r x
def lenL : List (Option Blk) → Nat
  | [] => 0
  | _ :: r => lenL r + 1
def putAt : List (Option Blk) → Nat → Option Blk → List (Option Blk)
  | [], _, _ => []
  | _ :: r, 0, x => x :: r
  | b :: r, j + 1, x => b :: putAt r j x
def Mem.put (m : Mem) (r : Ref) (b : Option Blk) : Mem :=
  match r with
  | .loc j => ⟨putAt m.loc j b, m.own⟩
  | .arg j => ⟨m.loc, putAt m.own j b⟩
  | .bad => m
def Mem.add (m : Mem) (b : Blk) : Mem := ⟨snoc m.loc (some b), m.own⟩
def Mem.new (m : Mem) : Ref := .loc (lenL m.loc)

section
variable {σ : Pls} {F : Nat → Prop} {w w' : World} {m : Mem}
theorem snoc_eq (l : List (Option Blk)) (x : Option Blk) : snoc l x = l ++ [x] := by
  induction l with
  | nil => rfl
  | cons b r ih => simp [snoc, ih]
theorem lenL_eq (l : List (Option Blk)) : lenL l = l.length := by
  induction l with
  | nil => rfl
  | cons b r ih => simp [lenL, ih]
theorem putAt_eq : ∀ (l : List (Option Blk)) (j : Nat) (x : Option Blk), putAt l j x = l.set j x
  | [], _, _ => rfl
  | _ :: _, 0, _ => rfl
  | b :: r, j + 1, x => by simp [putAt, putAt_eq r j x]
theorem put_self {r : Ref} {b : Option Blk} (x : Option Blk) (h : m.at r = some b) : (m.put r x).at r = some x := by
  cases r with
  | loc j =>
    simp only [Mem.put, Mem.at, putAt_eq]
    have : j < m.loc.length := by
      rcases Nat.lt_or_ge j m.loc.length with h' | h'
      · exact h'
      · simp [Mem.at, List.getElem?_eq_none h'] at h
    simp [this]
  | arg j =>
    simp only [Mem.put, Mem.at, putAt_eq]
    have : j < m.own.length := by
      rcases Nat.lt_or_ge j m.own.length with h' | h'
      · exact h'
      · simp [Mem.at, List.getElem?_eq_none h'] at h
    simp [this]
  | bad => cases h
theorem put_other {r r' : Ref} (x : Option Blk) (h : r' ≠ r) : (m.put r x).at r' = m.at r' := by
  cases r with
  | loc j =>
    cases r' with
    | loc j' =>
      have : j ≠ j' := fun e => h (by rw [e])
      simp [Mem.put, Mem.at, putAt_eq, this]
    | _ => rfl
  | arg j =>
    cases r' with
    | arg j' =>
      have : j ≠ j' := fun e => h (by rw [e])
      simp [Mem.put, Mem.at, putAt_eq, this]
    | _ => rfl
  | bad => rfl
theorem new_none (hm : MemOk m σ F w) : σ m.new = none := (hm.dom _).2 (by simp [Mem.new, Mem.at, lenL_eq])
theorem add_new (B : Blk) : (m.add B).at m.new = some (some B) := by
  simp [Mem.add, Mem.at, Mem.new, snoc_eq, lenL_eq]
theorem add_old {r : Ref} (B : Blk) (h : r ≠ m.new) : (m.add B).at r = m.at r := by
  cases r with
  | loc j =>
    have : j ≠ m.loc.length := fun e => h (by simp [Mem.new, lenL_eq, e])
    simp only [Mem.add, Mem.at, snoc_eq]
    rcases Nat.lt_or_ge j m.loc.length with h' | h'
    · rw [List.getElem?_append_left h']
    · rw [List.getElem?_eq_none (by simp; omega), List.getElem?_eq_none h']
  | _ => rfl

/-- A block of ours comes new into being. -/
theorem fresh_ok (hm : MemOk m σ F w) {B : Blk} {pl : Pl} (hsz : w.heap.size ≤ w'.heap.size) (hk : ∀ b, b < w.heap.size → w'.heap[b]? = w.heap[b]?)
    (hB : BlkOk w' F (upd σ m.new (some pl)) B pl) (hl : ∀ b t, pl.loc = some (b, t) → w.heap.size ≤ b ∧ b < w'.heap.size) :
    MemOk (m.add B) (upd σ m.new (some pl)) F w' ∧ SLe σ (upd σ m.new (some pl)) := by
  have hn := new_none hm
  have hs := SLe.upd_new (σ := σ) (r := m.new) (some pl) hn
  have hkF : ∀ b, F b → w'.heap[b]? = w.heap[b]? := fun b hb => hk b (hm.fl b hb)
  refine ⟨⟨fun r => ?_, fun r q hq => ?_, fun r r' p p' b t t' h1 h2 h3 h4 => ?_, fun r p b t h1 h2 => ?_, fun b hb => Nat.lt_of_lt_of_le (hm.fl b hb) hsz, hm.gl.mono (fun _ h => h) hkF⟩, hs⟩
  · by_cases e : r = m.new
    · subst e; rw [upd_self, add_new]; simp
    · rw [upd_other σ _ e, add_old B e]; exact hm.dom r
  · by_cases e : r = m.new
    · subst e
      rw [upd_self] at hq
      injection hq with hq
      subst hq
      exact ⟨(fun h => by cases h), fun p hp => by injection hp with hp; subst hp; exact ⟨B, add_new B, hB⟩⟩
    · rw [upd_other σ _ e] at hq
      rw [add_old B e]
      refine ⟨(hm.lv r q hq).1, fun p hp => ?_⟩
      obtain ⟨B', h1, h2⟩ := (hm.lv r q hq).2 p hp
      exact ⟨B', h1, h2.mono (fun _ h => h) hkF hs (fun b t hl => hk b (hm.nf r p b t (by rw [hq, hp]) hl).2)⟩
  · by_cases e : r = m.new <;> by_cases e' : r' = m.new
    · rw [e, e']
    · exfalso
      subst e
      rw [upd_self] at h1
      injection h1 with h1
      injection h1 with h1
      subst h1
      rw [upd_other σ _ e'] at h2
      have := (hm.nf r' p' b t' h2 h4).2
      have := (hl b t h3).1
      omega
    · exfalso
      subst e'
      rw [upd_self] at h2
      injection h2 with h2
      injection h2 with h2
      subst h2
      rw [upd_other σ _ e] at h1
      have := (hm.nf r p b t h1 h3).2
      have := (hl b t' h4).1
      omega
    · rw [upd_other σ _ e] at h1
      rw [upd_other σ _ e'] at h2
      exact hm.inj r r' p p' b t t' h1 h2 h3 h4
  · by_cases e : r = m.new
    · subst e
      rw [upd_self] at h1
      injection h1 with h1
      injection h1 with h1
      subst h1
      refine ⟨fun hF => ?_, (hl b t h2).2⟩
      have := hm.fl b hF
      have := (hl b t h2).1
      omega
    · rw [upd_other σ _ e] at h1
      exact ⟨(hm.nf r p b t h1 h2).1, Nat.lt_of_lt_of_le (hm.nf r p b t h1 h2).2 hsz⟩

/-- A block of ours turns: it is written, or another takes its place. -/
theorem change_ok (hm : MemOk m σ F w) {r : Ref} {pl pl' : Pl} {B' : Blk} (hr : σ r = some (some pl)) (hsz : w.heap.size ≤ w'.heap.size)
    (hk : ∀ b, b < w.heap.size → (∀ t, pl.loc ≠ some (b, t)) → w'.heap[b]? = w.heap[b]?)
    (hle : pl.g ≤ pl'.g ∧ (pl'.g = pl.g → pl' = pl)) (hB : BlkOk w' F (upd σ r (some pl')) B' pl')
    (hl : ∀ b t, pl'.loc = some (b, t) → b < w'.heap.size ∧ ((∃ t', pl.loc = some (b, t')) ∨ w.heap.size ≤ b)) :
    MemOk (m.put r (some B')) (upd σ r (some pl')) F w' ∧ SLe σ (upd σ r (some pl')) := by
  have hq : QLe (some pl) (some pl') := fun p hp => by injection hp with hp; subst hp; exact ⟨pl, rfl, hle.1, hle.2⟩
  have hs := SLe.upd_old hr hq
  obtain ⟨B, hB0, _⟩ := (hm.lv r _ hr).2 pl rfl
  have hkF : ∀ b, F b → w'.heap[b]? = w.heap[b]? := fun b hb => hk b (hm.fl b hb) (fun t ht => (hm.nf r pl b t hr ht).1 hb)
  refine ⟨⟨fun r' => ?_, fun r' q hq => ?_, fun r1 r2 p p' b t t' h1 h2 h3 h4 => ?_, fun r' p b t h1 h2 => ?_, fun b hb => Nat.lt_of_lt_of_le (hm.fl b hb) hsz, hm.gl.mono (fun _ h => h) hkF⟩, hs⟩
  · by_cases e : r' = r
    · subst e; rw [upd_self, put_self _ hB0]; simp
    · rw [upd_other σ _ e, put_other _ e]; exact hm.dom r'
  · by_cases e : r' = r
    · subst e
      rw [upd_self] at hq
      injection hq with hq
      subst hq
      exact ⟨(fun h => by cases h), fun p hp => by injection hp with hp; subst hp; exact ⟨B', put_self _ hB0, hB⟩⟩
    · rw [upd_other σ _ e] at hq
      rw [put_other _ e]
      refine ⟨(hm.lv r' q hq).1, fun p hp => ?_⟩
      obtain ⟨B1, h1, h2⟩ := (hm.lv r' q hq).2 p hp
      refine ⟨B1, h1, h2.mono (fun _ h => h) hkF hs (fun b t hl => hk b (hm.nf r' p b t (by rw [hq, hp]) hl).2 (fun t' ht' => e ?_))⟩
      exact hm.inj r' r p pl b t t' (by rw [hq, hp]) hr hl ht'
  · by_cases e : r1 = r <;> by_cases e' : r2 = r
    · rw [e, e']
    · exfalso
      subst e
      rw [upd_self] at h1
      injection h1 with h1
      injection h1 with h1
      subst h1
      rw [upd_other σ _ e'] at h2
      rcases (hl b t h3).2 with ⟨t1, ht1⟩ | h5
      · exact e' (hm.inj _ _ p' pl b t' t1 h2 hr h4 ht1)
      · have := (hm.nf r2 p' b t' h2 h4).2; omega
    · exfalso
      subst e'
      rw [upd_self] at h2
      injection h2 with h2
      injection h2 with h2
      subst h2
      rw [upd_other σ _ e] at h1
      rcases (hl b t' h4).2 with ⟨t1, ht1⟩ | h5
      · exact e (hm.inj _ _ p pl b t t1 h1 hr h3 ht1)
      · have := (hm.nf r1 p b t h1 h3).2; omega
    · rw [upd_other σ _ e] at h1
      rw [upd_other σ _ e'] at h2
      exact hm.inj r1 r2 p p' b t t' h1 h2 h3 h4
  · by_cases e : r' = r
    · subst e
      rw [upd_self] at h1
      injection h1 with h1
      injection h1 with h1
      subst h1
      refine ⟨fun hF => ?_, (hl b t h2).1⟩
      rcases (hl b t h2).2 with ⟨t1, ht1⟩ | h5
      · exact (hm.nf r' pl b t1 hr ht1).1 hF
      · have := hm.fl b hF; omega
    · rw [upd_other σ _ e] at h1
      exact ⟨(hm.nf r' p b t h1 h2).1, Nat.lt_of_lt_of_le (hm.nf r' p b t h1 h2).2 hsz⟩
theorem own_upd_new {pl : Pl} {r : Ref} (hl : ∀ b t, pl.loc = some (b, t) → w.heap.size ≤ b) : ∀ b, Owned (upd σ r (some pl)) b → Owned σ b ∨ w.heap.size ≤ b := fun b ⟨r', p, t, h1, h2⟩ => by
  by_cases e : r' = r
  · subst e
    rw [upd_self] at h1
    injection h1 with h1
    injection h1 with h1
    subst h1
    exact .inr (hl b t h2)
  · rw [upd_other σ _ e] at h1
    exact .inl ⟨r', p, t, h1, h2⟩
theorem own_upd_old {pl pl' : Pl} {r : Ref} (hr : σ r = some (some pl)) (hl : ∀ b t, pl'.loc = some (b, t) → (∃ t', pl.loc = some (b, t')) ∨ w.heap.size ≤ b) : ∀ b, Owned (upd σ r (some pl')) b → Owned σ b ∨ w.heap.size ≤ b := fun b ⟨r', p, t, h1, h2⟩ => by
  by_cases e : r' = r
  · subst e
    rw [upd_self] at h1
    injection h1 with h1
    injection h1 with h1
    subst h1
    rcases hl b t h2 with ⟨t', ht'⟩ | h3
    · exact .inl ⟨r', pl, t', hr, ht'⟩
    · exact .inr h3
  · rw [upd_other σ _ e] at h1
    exact .inl ⟨r', p, t, h1, h2⟩
end
end Go.Ab
