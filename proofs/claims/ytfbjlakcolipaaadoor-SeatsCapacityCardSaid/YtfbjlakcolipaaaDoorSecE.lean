/-
  The reference of chapter 23: Formed, Check, Find, CheckAll.
-/
import Derived.Test.YtfbjlakcolipaaaDoorSecD
namespace Go.Proofs.YtfbjlakcolipaaaDoor
set_option linter.unusedSimpArgs false
set_option linter.unusedVariables false
open Go Go.Ab
set_option maxRecDepth 100000
set_option maxHeartbeats 0
theorem wit_false {n lo hi : Int} : wit n lo hi = false ↔ ¬ (lo ≤ n ∧ n ≤ hi) := by
  rw [← wit_iff, Bool.not_eq_true]
def prevG (l : List Grp) (k : Nat) : Int := if k = 0 then -1 else (l.getD (k - 1) default).g
def prevN (l : List Int) (k : Nat) : Int := if k = 0 then -1 else l.getD (k - 1) default
theorem prevG_succ (l : List Grp) (k : Nat) : prevG l (k + 1) = (l.getD k default).g := rfl
theorem prevN_succ (l : List Int) (k : Nat) : prevN l (k + 1) = l.getD k default := rfl
def head23 (s : Sec) : Bool := wit s.id 0 3999 && wit s.course 0 4095 && wit s.term 0 1023 && wit s.campus 0 6 && wit s.seats 0 4096 && decide ((s.groups.length : Int) ≤ 8) && !(s.lab && decide (0 < (s.labs.length : Int)))
theorem formed_eq (s : Sec) : formed s = (gok (-1) s.groups && lok (-1) s.labs && head23 s && decide (gsum s.groups ≤ s.seats)) := by
  simp only [formed, head23]
  cases gok (-1) s.groups <;> cases lok (-1) s.labs <;> cases wit s.id 0 3999 <;> cases wit s.course 0 4095 <;> cases wit s.term 0 1023 <;> cases wit s.campus 0 6 <;> cases wit s.seats 0 4096 <;> cases decide ((s.groups.length : Int) ≤ 8) <;> simp [Bool.and_comm]
/-- Does a lab not fit? -/
def rmisfit (l : List Sec) (s : Sec) (n : Int) : Bool := !(findS l n).isSome || (!((findS l n).getD default).lab || (!decide (((findS l n).getD default).course = s.course) || !decide (((findS l n).getD default).term = s.term)))
def srt : Int → List Sec → Bool
  | _, [] => true
  | last, s :: r => decide (last < s.id) && srt s.id r
theorem secP2_eq (M : List Int → Option Sec) : ∀ (r : List Sec) (last : Int), secP2 M last r = (srt last r && r.all fun s => !(s.labs.any (misfit M s)))
  | [], _ => rfl
  | s :: r, last => by
    rw [secP2, srt, List.all_cons, secP2_eq M r s.id]
    cases decide (last < s.id) <;> cases s.labs.any (misfit M s) <;> cases srt s.id r <;> rfl
def rP2 (l : List Sec) : Int → List Sec → Bool
  | _, [] => true
  | last, s :: r => decide (last < s.id) && !(s.labs.any (rmisfit l s)) && rP2 l s.id r
theorem rP2_eq (l : List Sec) : ∀ (r : List Sec) (last : Int), rP2 l last r = (srt last r && r.all fun s => !(s.labs.any (rmisfit l s)))
  | [], _ => rfl
  | s :: r, last => by
    rw [rP2, srt, List.all_cons, rP2_eq l r s.id]
    cases decide (last < s.id) <;> cases s.labs.any (rmisfit l s) <;> cases srt s.id r <;> rfl
theorem srt_snoc (s : Sec) : ∀ (l : List Sec) (last : Int), srt last (l ++ [s]) = true → srt last l = true ∧ last < s.id ∧ ∀ b ∈ l, b.id < s.id
  | [], last, h => by
    simp [srt] at h
    exact ⟨rfl, h, fun b hb => by simp at hb⟩
  | a :: r, last, h => by
    rw [List.cons_append, srt, Bool.and_eq_true] at h
    obtain ⟨h1, h2⟩ := h
    obtain ⟨g1, g2, g3⟩ := srt_snoc s r a.id h2
    simp only [decide_eq_true_eq] at h1
    refine ⟨by rw [srt, g1, decide_eq_true h1]; rfl, by omega, fun b hb => ?_⟩
    rcases List.mem_cons.1 hb with rfl | hb
    · exact g2
    · exact g3 b hb
theorem labM_find (n : Int) : ∀ (k : Nat) (l : List Sec), l.length = k → srt (-1) l = true → labM l [n] = match findS l n with
    | some b => if b.lab = true then some b else none
    | none => none
  | 0, l, hk, _ => by
    have := List.length_eq_zero_iff.1 hk
    subst this
    rfl
  | k + 1, l, hk, h => by
    obtain ⟨m, s, rfl⟩ : ∃ m s, l = m ++ [s] := by
      have hne : l ≠ [] := by intro e; rw [e] at hk; cases hk
      exact ⟨l.dropLast, l.getLast hne, (List.dropLast_concat_getLast hne).symm⟩
    obtain ⟨h1, _, h3⟩ := srt_snoc s m (-1) h
    have ih := labM_find n k m (by simpa using hk) h1
    have hf : findS (m ++ [s]) n = (findS m n).or (if s.id = n then some s else none) := by
      rw [findS, List.find?_append]
      congr 1
      by_cases e : s.id = n <;> simp [e]
    rw [labM_snoc, hf]
    by_cases e : s.id = n
    · have hnone : findS m n = none := by
        rw [findS, List.find?_eq_none]
        intro b hb
        have := h3 b hb
        simp only [decide_eq_true_eq]
        omega
      rw [hnone] at ih
      rw [hnone]
      cases hb : s.lab <;> simp [hb, e, ih]
    · have : labM m [n] = (if s.lab = true then fun k => if k = [s.id] then some s else labM m k else labM m) [n] := by
        cases hb : s.lab
        · rfl
        · have e' : ¬ n = s.id := fun h => e h.symm
          simp [e']
      rw [← this, ih]
      simp [e]
theorem P2_same (l : List Sec) : rP2 l (-1) l = secP2 (labM l) (-1) l := by
  rw [rP2_eq, secP2_eq]
  cases h : srt (-1) l
  · rfl
  · congr 1
    congr 1
    funext s
    congr 1
    congr 1
    funext n
    rw [misfit, rmisfit, mHas, labM_find n _ l rfl h]
    cases findS l n with
    | none => rfl
    | some b => cases hb : b.lab <;> simp [hb]
end Go.Proofs.YtfbjlakcolipaaaDoor
