/-
  The engine, part E: the other operations that only read; all of them as one function.
-/
import Derived.Test.YteamiepijajjdaaDoorEngD
namespace Go.Ab
set_option linter.unusedSimpArgs false
set_option linter.unusedVariables false

/-- Is an abstract value one cell, for sure? -/
def oneOf (m : Mem) : AV → Option (List Prop)
  | .d x => bif x.one then some [] else none
  | .ptr r g i _ => liveAt m r g i
  | .osl r g _ _ => match m.get r with
    | some (.vec _ _ g' _ _) => some [g' = g]
    | _ => none
  | .ifc _ _ => some []
  | .fn _ _ _ => some []
  | .mp r => match m.get r with
    | some (.map _ _ _) => some []
    | _ => none
  | _ => none
def onesOf (m : Mem) : List AV → Option (List Prop)
  | [] => some []
  | x :: r => match oneOf m x with
    | none => none
    | some p => match onesOf m r with
      | none => none
      | some q => some (cat p q)
/-- The cells of a value. -/
def cellsOf (m : Mem) (A : AV) : Option (List AV × List Prop) :=
  match A with
  | .agg cs => match onesOf m cs with
    | some p => some (cs, p)
    | none => none
  | .d (.agg cs) => match onesOf m (up cs) with
    | some p => some (up cs, p)
    | none => none
  | A => match oneOf m A with
    | some p => some ([A], p)
    | none => none
/-- Cells written over cells, from a place on. -/
def splice : List AV → Nat → List AV → List AV
  | [], _, _ => []
  | c :: r, 0, xs => match xs with
    | [] => c :: r
    | x :: xs => x :: splice r 0 xs
  | c :: r, o + 1, xs => c :: splice r o xs
def count : List AV → Nat
  | [] => 0
  | _ :: r => count r + 1

def sizeAt (T : Tab) (t : TypeId) : Option Nat :=
  match T.at t with
  | some ti => some ti.size
  | none => none
/-- The parts of a struct's literal, laid over the zero value. -/
def fillSt (T : Tab) (m : Mem) (t : TypeId) : List (Nat × AV) → List AV → List Prop → Option (List AV × List Prop)
  | [], cs, p => some (cs, p)
  | (i, A) :: r, cs, p => match fieldOf T t i with
    | none => none
    | some (o, u) => match sizeAt T u with
      | none => none
      | some sz => match cellsOf m A with
        | none => none
        | some (new, q) => bif Nat.beq (count new) sz && Nat.ble (o + sz) (count cs) then fillSt T m t r (splice cs o new) (cat q p) else none
def foldD (cs : List AV) : AV :=
  match allD cs with
  | some l => .d (.agg l)
  | none => .agg cs
def evBuild (T : Tab) (m : Mem) (t : TypeId) (parts : List (Nat × AV)) : Option (AV × List Prop) :=
  match T.at t with
  | none => none
  | some ti => match ti.k with
    | .st _ => match fillSt T m t parts (up ti.zero) [] with
      | some (cs, p) => some (foldD cs, p)
      | none => none
    | .arr _ e => match parts with
      | [] => match T.at e with
        | some _ => some (.d (.agg ti.zero), [])
        | none => none
      | _ :: _ => none
    | _ => none

section sound
variable {P : Program} {T : Tab} {w : World} {F : Nat → Prop} {σ : Pls} {m : Mem}

theorem Rd.one_ok {x : D} {v : Value} (h : Rd w F x v) (h1 : x.one = true) : v.oneCell' = true := by
  cases h <;> first | rfl | (simp [D.one] at h1)
theorem oneOf_ok (hm : MemOk m σ F w) {A : AV} {v : Value} {p : List Prop} (h : Vc w F σ A v) (ho : oneOf m A = some p) (hp : ∀ q ∈ p, q) : v.oneCell' = true := by
  unfold oneOf at ho
  split at ho <;> try (cases ho; done)
  · rename_i x
    cases h1 : x.one with
    | false => rw [h1] at ho; cases ho
    | true => cases h with | d h => exact h.one_ok h1
  · obtain ⟨pl, b, tot, _, _, _, rfl⟩ := liveAt_ok hm h ho hp
    rfl
  · split at ho <;> try (cases ho; done)
    rename_i hB
    injection ho with ho
    subst ho
    obtain ⟨pl, hr, hok, _, hat⟩ := osl_row hm h (Mem.get_at hB)
    have := hat (hok.1.trans (hp _ (by simp)))
    unfold SlAt at this
    split at this
    · obtain ⟨_, _, rfl⟩ := this; rfl
    · obtain ⟨_, _, rfl, _⟩ := this; rfl
  · cases h; rfl
  · cases h; rfl
  · split at ho <;> try (cases ho; done)
    rename_i r _ _ _ _ hB
    cases h with
    | @mp _ _ q hr h =>
      cases q with
      | none => have := (hm.lv r _ hr).1 rfl; rw [Mem.get_at hB] at this; cases this
      | some pl =>
        obtain ⟨B', hB', hok⟩ := (hm.lv r _ hr).2 pl rfl
        rw [Mem.get_at hB] at hB'
        injection hB' with hB'
        injection hB' with hB'
        subst hB'
        obtain ⟨b', t, _, rfl⟩ := h pl rfl hok.1
        rfl
theorem onesOf_ok (hm : MemOk m σ F w) : ∀ {cs : List AV} {us : List Value} {p : List Prop}, us.length = cs.length → (∀ (j : Nat) A u, cs[j]? = some A → us[j]? = some u → Vc w F σ A u) → onesOf m cs = some p → (∀ q ∈ p, q) →
    ∀ (j : Nat) u, us[j]? = some u → u.oneCell' = true
  | [], us, p, hl, _, _, _ => fun j u hu => by
    have : us = [] := List.eq_nil_of_length_eq_zero (by simpa using hl)
    subst this
    simp at hu
  | x :: r, us, p, hl, h, ho, hp => fun j u hu => by
    match us, hl with
    | v :: vs, hl =>
      simp only [onesOf] at ho
      split at ho <;> try (cases ho; done)
      rename_i p1 h1
      split at ho <;> try (cases ho; done)
      rename_i p2 h2
      injection ho with ho
      subst ho
      obtain ⟨q1, q2⟩ := all_cat hp
      cases j with
      | zero =>
        simp at hu
        subst hu
        exact oneOf_ok hm (h 0 x v rfl rfl) h1 q1
      | succ j => exact onesOf_ok hm (cs := r) (us := vs) (by simpa using hl) (fun j A u hA hu => h (j + 1) A u (by simpa using hA) (by simpa using hu)) h2 q2 j u (by simpa using hu)

theorem cells_one {v : Value} (h : v.oneCell' = true) : v.cells = #[v] := by cases v <;> first | rfl | simp [Value.oneCell'] at h

/-- What 'cellsOf' says. -/
theorem cellsOf_ok (hm : MemOk m σ F w) {A : AV} {v : Value} {cs : List AV} {p : List Prop} (h : Vc w F σ A v) (hc : cellsOf m A = some (cs, p)) (hp : ∀ q ∈ p, q) :
    ∃ us : List Value, v.cells = us.toArray ∧ us.length = cs.length ∧ ∀ (j : Nat) A u, cs[j]? = some A → us[j]? = some u → Vc w F σ A u ∧ u.oneCell' = true := by
  unfold cellsOf at hc
  split at hc
  · split at hc <;> try (cases hc; done)
    rename_i cs' p' ho
    simp only [Option.some.injEq, Prod.mk.injEq] at hc
    obtain ⟨rfl, rfl⟩ := hc
    cases h with
    | agg hl h => exact ⟨_, rfl, hl, fun j A u hA hu => ⟨h j A u hA hu, onesOf_ok hm hl h ho hp j u hu⟩⟩
  · rename_i cs'
    split at hc <;> try (cases hc; done)
    rename_i ho
    simp only [Option.some.injEq, Prod.mk.injEq] at hc
    obtain ⟨rfl, rfl⟩ := hc
    cases h with
    | d h => cases h with
      | @agg _ us hl h =>
        have hl' : us.length = (up cs').length := by rw [up_eq, List.length_map]; exact hl
        have h' : ∀ (j : Nat) A u, (up cs')[j]? = some A → us[j]? = some u → Vc w F σ A u := fun j A u hA hu => by
          obtain ⟨x, hx, rfl⟩ := up_at hA
          exact .d (h j x u hx hu)
        exact ⟨_, rfl, hl', fun j A u hA hu => ⟨h' j A u hA hu, onesOf_ok hm hl' h' ho hp j u hu⟩⟩
  · split at hc <;> try (cases hc; done)
    rename_i ho
    simp only [Option.some.injEq, Prod.mk.injEq] at hc
    obtain ⟨rfl, rfl⟩ := hc
    have h1 := oneOf_ok hm h ho hp
    refine ⟨[v], cells_one h1, rfl, fun j A u hA hu => ?_⟩
    cases j with
    | zero => simp at hA hu; subst hA; subst hu; exact ⟨h, h1⟩
    | succ j => simp at hA

theorem count_eq : ∀ l : List AV, count l = l.length
  | [] => rfl
  | _ :: r => by simp [count, count_eq r]
theorem splice_length : ∀ (cs : List AV) (o : Nat) (xs : List AV), (splice cs o xs).length = cs.length
  | [], _, _ => rfl
  | c :: r, 0, [] => rfl
  | c :: r, 0, x :: xs => by simp [splice, splice_length r 0 xs]
  | c :: r, o + 1, xs => by simp [splice, splice_length r o xs]
theorem splice_at : ∀ (cs : List AV) (o : Nat) (xs : List AV) (j : Nat), o + xs.length ≤ cs.length →
    (splice cs o xs)[j]? = if o ≤ j ∧ j < o + xs.length then xs[j - o]? else cs[j]?
  | [], o, xs, j, h => by
    have : xs = [] := List.eq_nil_of_length_eq_zero (by have h' : o + xs.length ≤ 0 := h; omega)
    subst this
    rw [if_neg (by rw [List.length_nil]; omega)]
    rfl
  | c :: r, 0, [], j, _ => by
    rw [if_neg (by simp)]
    rfl
  | c :: r, 0, x :: xs, j, h => by
    cases j with
    | zero => simp [splice]
    | succ j =>
      have := splice_at r 0 xs j (by simp at h ⊢; omega)
      simp [splice, this]
  | c :: r, o + 1, xs, j, h => by
    cases j with
    | zero => simp [splice]
    | succ j =>
      have := splice_at r o xs j (by simp at h ⊢; omega)
      simp only [splice, List.getElem?_cons_succ, this]
      have e : j + 1 - (o + 1) = j - o := by omega
      simp only [e]
      by_cases h1 : o ≤ j ∧ j < o + xs.length
      · rw [if_pos h1, if_pos (by omega)]
      · rw [if_neg h1, if_neg (by omega)]

/-- Lists of cells, abstract and true. -/
def CellsOk (w : World) (F : Nat → Prop) (σ : Pls) (cs : List AV) (us : List Value) : Prop :=
  us.length = cs.length ∧ ∀ (j : Nat) A u, cs[j]? = some A → us[j]? = some u → Vc w F σ A u ∧ u.oneCell' = true
theorem CellsOk.splice {cs : List AV} {us : List Value} {new : List AV} {vs : List Value} {o : Nat} (h : CellsOk w F σ cs us) (h' : CellsOk w F σ new vs) (ho : o + new.length ≤ cs.length) :
    CellsOk w F σ (splice cs o new) (us.take o ++ vs ++ us.drop (o + vs.length)) := by
  obtain ⟨h1, h2⟩ := h
  obtain ⟨h3, h4⟩ := h'
  refine ⟨by rw [splice_length]; simp; omega, fun j A u hA hu => ?_⟩
  rw [splice_at _ _ _ _ ho] at hA
  by_cases hj : o ≤ j ∧ j < o + new.length
  · rw [if_pos hj] at hA
    refine h4 (j - o) A u hA ?_
    rw [List.getElem?_append_left (by simp; omega), List.getElem?_append_right (by simp; omega)] at hu
    simpa [Nat.min_eq_left (show o ≤ us.length by omega)] using hu
  · rw [if_neg hj] at hA
    refine h2 j A u hA ?_
    by_cases hjo : j < o
    · rw [List.getElem?_append_left (by simp; omega), List.getElem?_append_left (by simp; omega)] at hu
      simpa [hjo] using hu
    · rw [List.getElem?_append_right (by simp; omega)] at hu
      simp only [List.length_append, List.length_take, Nat.min_eq_left (show o ≤ us.length by omega), List.getElem?_drop] at hu
      have e : o + vs.length + (j - (o + vs.length)) = j := by omega
      rwa [e] at hu
theorem foldl_set (vs : List Value) (o : Nat) : ∀ (k : Nat) (cells : Array Value), o + k + vs.length ≤ cells.size →
    (vs.zipIdx k).foldl (fun cs (c : Value × Nat) => cs.setIfInBounds (o + c.2) c.1) cells = (cells.toList.take (o + k) ++ vs ++ cells.toList.drop (o + k + vs.length)).toArray := by
  induction vs with
  | nil => intro k cells _; simp
  | cons v r ih =>
    intro k cells h
    simp only [List.length_cons] at h
    simp only [List.zipIdx_cons, List.foldl_cons]
    rw [ih (k + 1) _ (by simp; omega)]
    congr 1
    have hlen : cells.toList.length = cells.size := by simp
    have hL : (cells.setIfInBounds (o + k) v).toList = cells.toList.take (o + k) ++ v :: cells.toList.drop (o + k + 1) := by
      rw [Array.toList_setIfInBounds, List.set_eq_take_append_cons_drop, if_pos (by omega)]
    have hA : (cells.toList.take (o + k)).length = o + k := by rw [List.length_take]; omega
    rw [hL]
    generalize cells.toList.take (o + k) = A at hA ⊢
    have h1 : A.take (o + (k + 1)) = A := List.take_of_length_le (by omega)
    have h2 : A.drop (o + (k + 1) + r.length) = [] := List.drop_eq_nil_of_le (by omega)
    rw [List.take_append, List.drop_append, h1, h2, hA]
    have e1 : o + (k + 1) - (o + k) = 1 := by omega
    have e2 : o + (k + 1) + r.length - (o + k) = r.length + 1 := by omega
    have e3 : o + k + 1 + r.length = o + k + (r.length + 1) := by omega
    rw [e1, e2]
    simp [List.drop_drop, e3]
end sound
end Go.Ab
