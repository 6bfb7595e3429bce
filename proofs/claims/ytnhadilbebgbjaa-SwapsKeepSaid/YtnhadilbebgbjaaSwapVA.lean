/-
  Swaps: the cycle and Execute, in plain words: lengths, validity.
-/
import Derived.Test.YtnhadilbebgbjaaSwapV
import Derived.Test.YtnhadilbebgbjaaSwapZE
namespace Go.Proofs.Ytnhadilbebgbjaa
set_option linter.unusedSimpArgs false
set_option linter.unusedVariables false
open Go Go.Ab
set_option maxRecDepth 100000
theorem chain_len (l : List Swap) (d : Int → Option Int) (i : Int) : ∀ (f : Nat) (k : Int), (chainL l d i f k).length ≤ f
  | 0, k => by simp [chainL]
  | f + 1, k => by
    unfold chainL
    split
    · exact Nat.zero_le _
    · rw [List.length_cons]
      have := chain_len l d i f (nextS l d k.toNat)
      omega
theorem cycW_le (l : List Swap) : (cycW l).length ≤ l.length + 3 := by
  unfold cycW
  cases h : cycL l with
  | none => exact Nat.zero_le _
  | some w =>
    obtain ⟨i, _, _, e, _⟩ := cycL_some h
    have := chain_len l (bfs l i).d i (l.length + 1) (nextS l (bfs l i).d i)
    subst e
    show (_ :: _ : List Int).length ≤ _
    rw [List.length_cons]
    omega
theorem isC_all {l : List Swap} {w : List Int} (h : isC l w = true) {k : Nat} (hk : k < w.length) : cyS l w k = true := by
  unfold isC at h
  rw [Bool.and_eq_true, List.all_eq_true] at h
  exact h.1 k (List.mem_range.2 hk)
theorem srtB_len (l : List Seat) : (srtB l).length = l.length := (srtB_perm l).length_eq
def handL (taken : List Seat) (st to : Int) : List Int → List Nat × List Seat → Option (List Nat × List Seat)
  | [], z => some z
  | c :: r, z => match hand taken z st c to with
    | none => none
    | some z' => handL taken st to r z'
theorem stepX_parts {taken : List Seat} {l : List Swap} {w : List Int} {k : Nat} (hb : -1 ≤ (gvr l w k).give.lab) (z : List Nat × List Seat) : stepX taken l w k z = handL taken (gvr l w k).student (tkr l w k) (partsI (gvr l w k).give) z := by
  unfold stepX partsI
  cases h1 : hand taken z (gvr l w k).student (gvr l w k).give.sec (tkr l w k) with
  | none =>
    dsimp only
    split <;> simp only [handL, h1]
  | some z1 =>
    dsimp only
    by_cases h : (gvr l w k).give.lab = -1
    · rw [if_pos h, if_neg (by omega)]
      simp only [handL, h1]
    · rw [if_neg h, if_pos (by omega)]
      simp only [handL, h1]
      cases hand taken z1 (gvr l w k).student (gvr l w k).give.lab (tkr l w k) <;> rfl
theorem chkW_all : ∀ (l p : List Swap), chkW p l = true → ∀ x ∈ l, swV x = true
  | [], p, _, x, hx => by simp at hx
  | y :: r, p, h, x, hx => by
    rw [chkW, Bool.and_eq_true, Bool.and_eq_true] at h
    rcases List.mem_cons.1 hx with rfl | hx
    · exact h.1.1
    · exact chkW_all r _ h.2 x hx
theorem chk_valid {l : List Swap} (h : chk30 l = 0) : ∀ x ∈ l, swV x = true := by
  unfold chk30 at h
  split at h
  · exact chkW_all l [] ‹_›
  · cases h
theorem swV_lab {s : Swap} (h : swV s = true) : -1 ≤ s.give.lab ∧ -1 ≤ s.take.lab := by
  unfold swV bunV wit at h
  simp only [Bool.and_eq_true, decide_eq_true_eq] at h
  omega
theorem handL_drop {taken : List Seat} {st to : Int} {ps : List Int} {m : Nat} (h : m < ps.length) (z : List Nat × List Seat) : handL taken st to (ps.drop m) z = match hand taken z st (ps.getD m default) to with
    | none => none
    | some z' => handL taken st to (ps.drop (m + 1)) z' := by
  rw [drop_at h]
  rfl
theorem runX_len {taken : List Seat} {l : List Swap} {w : List Int} : ∀ (ks : List Nat) {z z' : List Nat × List Seat}, runX taken l w ks z = some z' → z'.2.length = z.2.length
  | [], z, z', h => by injection h with h; rw [h]
  | k :: r, z, z', h => by
    rw [runX] at h
    cases h1 : stepX taken l w k z with
    | none => rw [h1] at h; cases h
    | some z1 =>
      rw [h1] at h
      rw [runX_len r h, stepX_len h1]
theorem restX_len (l : List Swap) (w : List Int) : (restX l w).length ≤ l.length := by
  unfold restX
  rw [List.length_map]
  have := List.length_filter_le (keepX w) (List.range l.length)
  simpa using this
theorem exeX_len {taken : List Seat} {l : List Swap} {w : List Int} {y : List Seat × List Swap} (h : exeX taken l w = some y) : y.1.length = taken.length ∧ y.2.length ≤ l.length := by
  unfold exeX at h
  split at h
  · split at h
    · cases h
    · rename_i z hz
      split at h
      · injection h with h
        subst h
        exact ⟨(srtB_len _).trans (runX_len _ hz), restX_len l w⟩
      · cases h
  · cases h
theorem ex_len (taken : List Seat) (l : List Swap) (w : List Int) : (exX taken l w).length ≤ taken.length ∧ (exR taken l w).length ≤ l.length := by
  cases h : exeX taken l w with
  | none =>
    obtain ⟨e1, e2, _⟩ := ex_none h
    rw [e1, e2]
    exact ⟨Nat.zero_le _, Nat.zero_le _⟩
  | some y =>
    obtain ⟨e1, e2, _⟩ := ex_some h
    obtain ⟨h1, h2⟩ := exeX_len h
    rw [e1, e2]
    exact ⟨by omega, h2⟩
def rowWs (ws : List (List Int)) : Nat → List AV := fun i => [.d (eInts (ws.getD i default))]
end Go.Proofs.Ytnhadilbebgbjaa
