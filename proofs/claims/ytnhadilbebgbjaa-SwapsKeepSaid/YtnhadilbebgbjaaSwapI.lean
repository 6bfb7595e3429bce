/-
  Swaps: newGraph: maps whose values are rows that grow.
-/
import Derived.Test.YtnhadilbebgbjaaSwapH
import Derived.Test.YtnhadilbebgbjaaEngAG
namespace Go.Proofs.Ytnhadilbebgbjaa
set_option linter.unusedSimpArgs false
set_option linter.unusedVariables false
open Go Go.Ab
set_option maxRecDepth 100000
set_option maxHeartbeats 0
/-- The places below k at which p is this key. -/
def occ (p : Nat → List Int) (key : List Int) : Nat → List Int
  | 0 => []
  | k + 1 => if p k = key then occ p key k ++ [(k : Int)] else occ p key k
theorem occ_len (p : Nat → List Int) (key : List Int) : ∀ k, (occ p key k).length ≤ k
  | 0 => Nat.le_refl _
  | k + 1 => by
    have := occ_len p key k
    unfold occ
    split
    · rw [len_snoc]; omega
    · omega
def hasO (p : Nat → List Int) (k : Nat) : List Int → Bool := fun key => !(occ p key k).isEmpty
theorem hasO_iff {p : Nat → List Int} {k : Nat} {key : List Int} : hasO p k key = true ↔ occ p key k ≠ [] := by
  unfold hasO
  cases occ p key k <;> simp
theorem hasO_succ (p : Nat → List Int) (k : Nat) (key : List Int) : (decide (key = p k) || hasO p k key) = hasO p (k + 1) key := by
  unfold hasO
  rw [occ]
  by_cases h : p k = key
  · rw [if_pos h, decide_eq_true h.symm]
    simp
  · rw [if_neg h, decide_eq_false (fun e => h e.symm), Bool.false_or]
structure Grp (tag : Nat → Bool × List Int) (c : Bool) (own : List (Option Blk)) (p : Nat → List Int) (k : Nat) (val : List Int → AV) : Prop where
  row : ∀ key, hasO p k key = true → ∃ i g f, val key = .osl (.arg i) g 0 (occ p key k).length ∧ own[i]? = some (some (.vec 3 1 g (occ p key k).length f)) ∧ (∀ j, j < (occ p key k).length → f j = [.d (.int .i64 ((occ p key k).getD j default))]) ∧ tag i = (c, key)
/-- All but the row of one key stands. -/
def Kept (tag : Nat → Bool × List Int) (c : Bool) (key : List Int) (own own' : List (Option Blk)) : Prop := ∀ i, i < own.length → tag i ≠ (c, key) → own'[i]? = own[i]?
theorem lt_of_at {α : Type} {l : List α} {i : Nat} {x : α} (h : l[i]? = some x) : i < l.length := (List.getElem?_eq_some_iff.1 h).1
theorem Grp.keep {tag : Nat → Bool × List Int} {c c0 : Bool} {key0 : List Int} {own own' : List (Option Blk)} {p : Nat → List Int} {k : Nat} {val : List Int → AV} (h : Grp tag c own p k val) (hk : Kept tag c0 key0 own own') (hc : c ≠ c0) : Grp tag c own' p k val :=
  ⟨fun key hh => by
    obtain ⟨i, g, f, h1, h2, h3, h4⟩ := h.row key hh
    exact ⟨i, g, f, h1, by rw [hk i (lt_of_at h2) (fun e => by rw [h4] at e; cases e; exact hc rfl)]; exact h2, h3, h4⟩⟩
theorem Grp.put {tag : Nat → Bool × List Int} {c : Bool} {own own' : List (Option Blk)} {p : Nat → List Int} {k : Nat} {val : List Int → AV} (h : Grp tag c own p k val) (hk : Kept tag c (p k) own own') {q g : Nat} {f : Nat → List AV}
    (hq : own'[q]? = some (some (.vec 3 1 g ((occ p (p k) k).length + 1) f))) (hf : ∀ j, j < (occ p (p k) k).length + 1 → f j = [.d (.int .i64 ((occ p (p k) k ++ [(k : Int)]).getD j default))]) (ht : tag q = (c, p k)) :
    Grp tag c own' p (k + 1) (fun key => bif decide (key = p k) then .osl (.arg q) g 0 ((occ p (p k) k).length + 1) else val key) :=
  ⟨fun key hh => by
    by_cases e : key = p k
    · subst e
      have e1 : occ p (p k) (k + 1) = occ p (p k) k ++ [(k : Int)] := by rw [occ, if_pos rfl]
      refine ⟨q, g, f, ?_, ?_, ?_, ht⟩
      · simp only [decide_true, cond_true, e1, len_snoc]
      · rw [e1, len_snoc]; exact hq
      · rw [e1, len_snoc]; exact hf
    · have e1 : occ p key (k + 1) = occ p key k := by rw [occ, if_neg (fun h => e h.symm)]
      have hh' : hasO p k key = true := by rw [hasO_iff] at hh ⊢; rw [← e1]; exact hh
      obtain ⟨i, g', f', h1, h2, h3, h4⟩ := h.row key hh'
      refine ⟨i, g', f', ?_, ?_, ?_, h4⟩
      · simp only [decide_eq_false e, cond_false, e1]; exact h1
      · rw [e1, hk i (lt_of_at h2) (fun e' => by rw [h4] at e'; cases e'; exact e rfl)]; exact h2
      · rw [e1]; exact h3⟩
def OwnOk (own : List (Option Blk)) : Prop := ∀ B, some B ∈ own → ∃ g n f, B = .vec 3 1 g n f ∧ ∀ i, i < n → ∃ d : Int, f i = [.d (.int .i64 d)]
theorem OwnOk.le {own : List (Option Blk)} (h : OwnOk own) (nl na : Nat) : LeL nl na own own := LeL_refl own fun B hB => by
  obtain ⟨g, n, f, rfl, hf⟩ := h B hB
  refine ⟨rfl, rfl, rfl, Nat.le_refl _, fun i hi => ⟨rfl, ?_⟩⟩
  obtain ⟨d, e⟩ := hf i hi
  rw [e]
  rfl
theorem OwnOk.less {own : List (Option Blk)} (h : OwnOk own) (i : Nat) : OwnOk (putAt own i none) := fun B hB => by
  rw [putAt_eq] at hB
  rcases List.mem_or_eq_of_mem_set hB with hB | hB
  · exact h B hB
  · cases hB
theorem OwnOk.more {own : List (Option Blk)} (h : OwnOk own) {g n : Nat} {f : Nat → List AV} (hf : ∀ i, i < n → ∃ d : Int, f i = [.d (.int .i64 d)]) : OwnOk (snoc own (some (.vec 3 1 g n f))) := fun B hB => by
  rw [snoc_eq, List.mem_append, List.mem_singleton] at hB
  rcases hB with hB | hB
  · exact h B hB
  · injection hB with hB
    exact ⟨g, n, f, hB, hf⟩
theorem kept_old {tag : Nat → Bool × List Int} {c : Bool} {key : List Int} {own : List (Option Blk)} {i : Nat} (hi : tag i = (c, key)) (x : Option Blk) : Kept tag c key own (snoc (putAt own i none) x) := fun j hj hne => by
  rw [snoc_eq, putAt_eq, List.getElem?_append_left (by simpa using hj), List.getElem?_set_ne (fun e => hne (by rw [← e]; exact hi))]
theorem kept_new {tag : Nat → Bool × List Int} {c : Bool} {key : List Int} {own : List (Option Blk)} (x : Option Blk) : Kept tag c key own (snoc own x) := fun j hj hne => by
  rw [snoc_eq, List.getElem?_append_left hj]
theorem len_less (own : List (Option Blk)) (i : Nat) : lenL (putAt own i none) = lenL own := by rw [lenL_eq, putAt_eq, List.length_set, lenL_eq]
theorem len_more (own : List (Option Blk)) (x : Option Blk) : lenL (snoc own x) = lenL own + 1 := by rw [lenL_eq, snoc_eq, List.length_append, lenL_eq]; rfl
theorem at_more (own : List (Option Blk)) (x : Option Blk) : (snoc own x)[lenL own]? = some x := by rw [snoc_eq, lenL_eq]; simp
def giveK (l : List Swap) (j : Nat) : List Int := [(l.getD j default).give.sec, (l.getD j default).give.lab]
def takeK (l : List Swap) (j : Nat) : List Int := [(l.getD j default).take.sec, (l.getD j default).take.lab]
def gtag (l : List Swap) (i : Nat) : Bool × List Int := if i % 2 = 0 then (false, giveK l (i / 2)) else (true, takeK l (i / 2))
def shB : Ksh := .many [.i64, .i64]
def eGrp (p : Nat → List Int) (k : Nat) : D := .mapd shB (hasO p k) fun key => eInts (occ p key k)
def eGraph (l : List Swap) : List D := [eSwaps l, eGrp (giveK l) l.length, eGrp (takeK l) l.length]
theorem tag_even (l : List Swap) (k : Nat) : gtag l (2 * k) = (false, giveK l k) := by
  unfold gtag
  rw [if_pos (by omega), show 2 * k / 2 = k by omega]
theorem tag_odd (l : List Swap) (k : Nat) : gtag l (2 * k + 1) = (true, takeK l k) := by
  unfold gtag
  rw [if_neg (by omega), show (2 * k + 1) / 2 = k by omega]
theorem grp_in {tag : Nat → Bool × List Int} {c : Bool} {own : List (Option Blk)} {p : Nat → List Int} {k : Nat} {val : List Int → AV} (h : Grp tag c own p k val) {key : List Int} (hh : hasO p k key = true) (nl : Nat) : avIn nl (lenL own) (val key) = true := by
  obtain ⟨i, g, f, h1, h2, _⟩ := h.row key hh
  rw [h1]
  show Nat.blt i (lenL own) = true
  rw [lenL_eq]
  exact Nat.ble_eq_true_of_le (lt_of_at h2)
theorem mapLe {tag : Nat → Bool × List Int} {c : Bool} {own : List (Option Blk)} {p : Nat → List Int} {k : Nat} {val : List Int → AV} (h : Grp tag c own p (k + 1) val) (nl : Nat) (key : List Int) (_ : shB.fits key) :
    (decide (key = p k) || hasO p k key) = hasO p (k + 1) key ∧ ((decide (key = p k) || hasO p k key) = true → val key = val key ∧ avIn nl (lenL own) (val key) = true) :=
  ⟨hasO_succ p k key, fun hh => ⟨rfl, grp_in h (by rw [← hasO_succ]; exact hh) nl⟩⟩
theorem rowK {o : List Int} {f : Nat → List AV} {n : Nat} (hn : n = o.length) (k : Nat) (hf : ∀ j, j < o.length → f j = [.d (.int .i64 (o.getD j default))]) (j : Nat) (hj : j < n + 1) :
    joinF n f (rowFn [[.d (.int .i64 k)]]) j = [.d (.int .i64 ((o ++ [(k : Int)]).getD j default))] := by
  subst hn
  by_cases h1 : j < o.length
  · rw [joinF_lt h1, getD_append_left h1, hf j h1]
  · have h2 : j = o.length := by omega
    subst h2
    rw [joinF_ge (Nat.le_refl _), getD_append_right (Nat.le_refl _), Nat.sub_self]
    rfl
/-- The row of a key, one longer. -/
def rowB (g n : Nat) (f : Nat → List AV) (k : Nat) : Option Blk := some (.vec 3 1 (g + 1) (n + 1) (joinF n f (rowFn [[.d (.int .i64 k)]])))
def valB (val : List Int → AV) (key : List Int) (q g n : Nat) : List Int → AV := fun x => bif decide (x = key) then .osl (.arg q) (g + 1) 0 (n + 1) else val x
theorem own_more {own : List (Option Blk)} (h : OwnOk own) {o : List Int} {f : Nat → List AV} {n : Nat} (hn : n = o.length) (g k : Nat) (hf : ∀ j, j < o.length → f j = [.d (.int .i64 (o.getD j default))]) : OwnOk (snoc own (rowB g n f k)) :=
  h.more fun i hi => ⟨_, rowK hn k hf i hi⟩
theorem put_grp {tag : Nat → Bool × List Int} {c : Bool} {own own0 : List (Option Blk)} {p : Nat → List Int} {k : Nat} {val : List Int → AV} (h : Grp tag c own p k val) {g n : Nat} {f : Nat → List AV} (hn : n = (occ p (p k) k).length)
    (hk : Kept tag c (p k) own (snoc own0 (rowB g n f k))) (hf : ∀ j, j < (occ p (p k) k).length → f j = [.d (.int .i64 ((occ p (p k) k).getD j default))]) (ht : tag (lenL own0) = (c, p k)) :
    Grp tag c (snoc own0 (rowB g n f k)) p (k + 1) (valB val (p k) (lenL own0) g n) := by
  subst hn
  exact h.put hk (at_more own0 _) (fun j hj => rowK rfl k hf j hj) ht
end Go.Proofs.Ytnhadilbebgbjaa
