/-
  Chapter 14: equivalent courses, plain.
-/
import Derived.Test.YtmlhghddfobmmaaGreatDoorBookO
namespace Go.Proofs.YtmlhghddfobmmaaGreatDoor
set_option linter.unusedSimpArgs false
set_option linter.unusedVariables false
open Go Go.Ab
set_option maxRecDepth 100000
set_option maxHeartbeats 0
def pairK (a b : Int) : Ke := ⟨2, min a b, max a b⟩
/-- One number is looked at. -/
def eqS (w : Wor) (t kn a : Int) (z : List Int × List Red) (c : Int) : List Int × List Red :=
  if c ∈ z.1 then z else (if atV w.fcts (pairK a c) t kn = (1, true) then z.1 ++ [c] else z.1, z.2 ++ [rdK (pairK a c) t])
/-- A round: all numbers are looked at, beside the i-th course that is found. -/
def eqR (w : Wor) (t kn : Int) (ns : List Int) (z : List Int × List Red) (i : Nat) : List Int × List Red := ns.foldl (eqS w t kn (z.1.getD i default)) z
def rndE (w : Wor) (t kn : Int) (ns : List Int) (j : Nat) (z : List Int × List Red) : List Int × List Red := if j < z.1.length then eqR w t kn ns z j else z
def iterE (w : Wor) (t kn : Int) (ns : List Int) : Nat → List Int × List Red → List Int × List Red
  | 0, z => z
  | j + 1, z => rndE w t kn ns j (iterE w t kn ns j z)
theorem iterE_succ (w : Wor) (t kn : Int) (ns : List Int) (j : Nat) (z : List Int × List Red) : iterE w t kn ns (j + 1) z = rndE w t kn ns j (iterE w t kn ns j z) := rfl
/-- What is found: without doubles, all of it numbers or the first course. -/
structure EqI (ns : List Int) (n : Int) (l : List Int) : Prop where
  nd : l.Nodup
  sub : ∀ x ∈ l, x = n ∨ x ∈ ns
theorem nodup_le {α : Type} [DecidableEq α] : ∀ {l m : List α}, l.Nodup → (∀ x ∈ l, x ∈ m) → l.length ≤ m.length
  | [], m, _, _ => Nat.zero_le _
  | x :: r, m, h, hs => by
    rw [List.nodup_cons] at h
    have hx := hs x (by simp)
    have := nodup_le (l := r) (m := m.erase x) h.2 fun y hy => by
      rw [List.mem_erase_of_ne (show y ≠ x from fun e => h.1 (e ▸ hy))]
      exact hs y (by simp [hy])
    rw [List.length_erase_of_mem hx] at this
    have hm : 0 < m.length := List.length_pos_of_mem hx
    rw [List.length_cons]
    omega
theorem EqI.len {ns : List Int} {n : Int} {l : List Int} (h : EqI ns n l) : l.length ≤ ns.length + 1 := by
  have := nodup_le (m := n :: ns) h.nd fun x hx => by
    rcases h.sub x hx with rfl | h
    · simp
    · simp [h]
  simpa using this
theorem EqI.step {ns : List Int} {n : Int} {w : Wor} {t kn a : Int} {z : List Int × List Red} {c : Int} (hc : c ∈ ns) (h : EqI ns n z.1) : EqI ns n (eqS w t kn a z c).1 := by
  unfold eqS
  split
  · exact h
  · rename_i hn
    dsimp only
    split
    · refine ⟨?_, fun x hx => ?_⟩
      · rw [List.nodup_append]
        refine ⟨h.nd, by simp, fun x hx y hy => ?_⟩
        simp at hy
        subst hy
        exact fun e => hn (e ▸ hx)
      · rcases List.mem_append.1 hx with hx | hx
        · exact h.sub x hx
        · simp at hx
          subst hx
          exact .inr hc
    · exact h
theorem EqI.steps {ns : List Int} {n : Int} {w : Wor} {t kn a : Int} : ∀ (l : List Int) (z : List Int × List Red), (∀ c ∈ l, c ∈ ns) → EqI ns n z.1 → EqI ns n (l.foldl (eqS w t kn a) z).1
  | [], z, _, h => h
  | c :: r, z, hs, h => EqI.steps r _ (fun c hc => hs c (by simp [hc])) (EqI.step (hs c (by simp)) h)
theorem EqI.iter {ns : List Int} {n : Int} {w : Wor} {t kn : Int} {z : List Int × List Red} (h : EqI ns n z.1) : ∀ j, EqI ns n (iterE w t kn ns j z).1
  | 0 => h
  | j + 1 => by
    rw [iterE_succ, rndE]
    split
    · exact EqI.steps ns _ (fun _ h => h) (EqI.iter h j)
    · exact EqI.iter h j
theorem iterE_stay {w : Wor} {t kn : Int} {ns : List Int} {z : List Int × List Red} {j : Nat} (h : (iterE w t kn ns j z).1.length ≤ j) : ∀ m, iterE w t kn ns (j + m) z = iterE w t kn ns j z
  | 0 => rfl
  | m + 1 => by
    rw [← Nat.add_assoc, iterE_succ, iterE_stay h m, rndE, if_neg (by omega)]
def startE (n : Int) : List Int × List Red := ([n], [rdK ⟨12, 0, 0⟩ 0])
theorem EqI.start (ns : List Int) (n : Int) : EqI ns n (startE n).1 := ⟨by simp [startE], fun x hx => .inl (by simpa [startE] using hx)⟩
/-- What Equal finds, ahead of the sorting. -/
def equalZ (w : Wor) (n t kn : Int) : List Int × List Red := iterE w t kn (nums w kn) 200000 (startE n)
def okEq (n t : Int) : Bool := bw n 0 4095 && bw t 0 1023
def equalL (w : Wor) (n t kn : Int) : List Int := if okEq n t then srtI (equalZ w n t kn).1 else [n]
def equalR (w : Wor) (n t kn : Int) : List Red := if okEq n t then (equalZ w n t kn).2 else []
theorem nums_len (w : Wor) (kn : Int) : (nums w kn).length ≤ w.fcts.length := by
  unfold nums
  rw [srtI_len]
  exact numsL_len _ _
theorem equal_stop {w : Wor} (hl : w.fcts.length ≤ 100000) {n t kn : Int} {j : Nat} (hj : j ≤ (iterE w t kn (nums w kn) j (startE n)).1.length) (h : (iterE w t kn (nums w kn) j (startE n)).1.length ≤ j) : equalZ w n t kn = iterE w t kn (nums w kn) j (startE n) := by
  have h1 := (EqI.iter (w := w) (t := t) (kn := kn) (EqI.start (nums w kn) n) j).len
  have h2 := nums_len w kn
  have := iterE_stay h (200000 - j)
  rw [show j + (200000 - j) = 200000 by omega] at this
  exact this
end Go.Proofs.YtmlhghddfobmmaaGreatDoor
