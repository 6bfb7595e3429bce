/-
  Swaps: the search for distances, in plain words.
-/
import Derived.Test.YtnhadilbebgbjaaSwapL
namespace Go.Proofs.Ytnhadilbebgbjaa
set_option linter.unusedSimpArgs false
set_option linter.unusedVariables false
open Go Go.Ab
set_option maxRecDepth 100000
structure BS where
  d : Int → Option Int
  q : List Int
def visit1 (dk : Int) (s : BS) (i : Int) : BS := if s.d i = none then ⟨fun x => if x = i then some (dk + 1) else s.d x, s.q ++ [i]⟩ else s
def visitL (dk : Int) (is : List Int) (s : BS) : BS := is.foldl (visit1 dk) s
def preds (l : List Swap) (k : Int) (n : Nat) : List Int := occ (takeK l) (giveK l k.toNat) n
def rnd (l : List Swap) (j : Nat) (s : BS) : BS := if j < s.q.length then visitL ((s.d (s.q.getD j default)).getD 0) (preds l (s.q.getD j default) l.length) s else s
def iter (l : List Swap) : Nat → BS → BS
  | 0, s => s
  | j + 1, s => rnd l j (iter l j s)
def bfs0 (to : Int) : BS := ⟨fun x => if x = to then some 0 else none, [to]⟩
def bfs (l : List Swap) (to : Int) : BS := iter l l.length (bfs0 to)
theorem occ_mem {p : Nat → List Int} {key : List Int} : ∀ {k : Nat} {x : Int}, x ∈ occ p key k ↔ ∃ j : Nat, j < k ∧ x = j ∧ p j = key
  | 0, x => by simp [occ]
  | k + 1, x => by
    unfold occ
    split
    · rename_i h
      rw [List.mem_append, occ_mem, List.mem_singleton]
      constructor
      · rintro (⟨j, h1, h2, h3⟩ | h2)
        · exact ⟨j, by omega, h2, h3⟩
        · exact ⟨k, by omega, h2, h⟩
      · rintro ⟨j, h1, h2, h3⟩
        by_cases e : j = k
        · subst e; exact .inr h2
        · exact .inl ⟨j, by omega, h2, h3⟩
    · rename_i h
      rw [occ_mem]
      constructor
      · rintro ⟨j, h1, h2, h3⟩
        exact ⟨j, by omega, h2, h3⟩
      · rintro ⟨j, h1, h2, h3⟩
        have : j ≠ k := fun e => h (by rw [← e]; exact h3)
        exact ⟨j, by omega, h2, h3⟩
/-- What holds all the while: what has a distance is in the queue, once; a step leads nearer. -/
structure BI (l : List Swap) (to : Int) (j : Nat) (s : BS) : Prop where
  nd : s.q.Nodup
  qd : ∀ x, x ∈ s.q ↔ (s.d x).isSome = true
  rg : ∀ x ∈ s.q, ∃ i : Nat, i < l.length ∧ x = i
  z : ∀ x, s.d x = some 0 ↔ x = to
  bd : ∀ x m, s.d x = some m → 0 ≤ m ∧ m ≤ j
  st : ∀ x m, s.d x = some m → 0 < m → ∃ y, takeK l x.toNat = giveK l y.toNat ∧ y ≠ x ∧ s.d y = some (m - 1)
theorem nodup_len : ∀ (n : Nat) (q : List Int), q.Nodup → (∀ x ∈ q, ∃ i : Nat, i < n ∧ x = i) → q.length ≤ n
  | 0, q, _, h => by
    cases q with
    | nil => exact Nat.le_refl _
    | cons x r => obtain ⟨i, hi, _⟩ := h x (by simp); omega
  | n + 1, q, hn, h => by
    by_cases hm : (n : Int) ∈ q
    · have h1 := List.length_erase_of_mem hm
      have h2 := nodup_len n (q.erase n) (hn.erase _) fun x hx => by
        obtain ⟨h3, h4⟩ := (hn.mem_erase_iff).1 hx
        obtain ⟨i, hi, rfl⟩ := h x h4
        exact ⟨i, by
          rcases Nat.lt_or_ge i n with h | h
          · exact h
          · exact absurd (show (i : Int) = n by omega) h3, rfl⟩
      omega
    · have := nodup_len n q hn fun x hx => by
        obtain ⟨i, hi, rfl⟩ := h x hx
        exact ⟨i, by
          rcases Nat.lt_or_ge i n with h' | h'
          · exact h'
          · exact absurd hx (by rw [show (i : Int) = n by omega]; exact hm), rfl⟩
      omega
theorem BI.len {l : List Swap} {to : Int} {j : Nat} {s : BS} (h : BI l to j s) : s.q.length ≤ l.length :=
  nodup_len _ _ h.nd h.rg
theorem BI.init {l : List Swap} {to : Nat} (h : to < l.length) : BI l to 0 (bfs0 to) where
  nd := by simp [bfs0]
  qd x := by
    simp only [bfs0, List.mem_singleton]
    by_cases e : x = to <;> simp [e]
  rg x hx := by
    simp only [bfs0, List.mem_singleton] at hx
    exact ⟨to, h, hx⟩
  z x := by
    simp only [bfs0]
    by_cases e : x = to <;> simp [e]
  bd x m hm := by
    simp only [bfs0] at hm
    split at hm
    · injection hm with hm; subst hm; simp
    · cases hm
  st x m hm h0 := by
    simp only [bfs0] at hm
    split at hm
    · injection hm with hm; omega
    · cases hm
theorem BI.visit1 {l : List Swap} {to : Int} {j : Nat} {s : BS} (h : BI l to (j + 1) s) {k dk : Int} (hk : s.d k = some dk) (hj : dk ≤ j) {i : Nat} (hi : i < l.length) (ht : takeK l i = giveK l k.toNat) : BI l to (j + 1) (visit1 dk s i) ∧ (Proofs.Ytnhadilbebgbjaa.visit1 dk s i).d k = some dk := by
  unfold Proofs.Ytnhadilbebgbjaa.visit1
  split
  · rename_i hn
    have hki : k ≠ i := fun e => by rw [← e, hk] at hn; cases hn
    have hd0 := (h.bd k dk hk).1
    refine ⟨⟨?_, fun x => ?_, fun x hx => ?_, fun x => ?_, fun x m hm => ?_, fun x m hm h0 => ?_⟩, by simp [hki, hk]⟩
    · refine List.nodup_append.2 ⟨h.nd, by simp, fun a ha b hb e => ?_⟩
      simp only [List.mem_singleton] at hb
      subst hb; subst e
      have := (h.qd _).1 ha
      rw [hn] at this
      cases this
    · simp only [List.mem_append, List.mem_singleton]
      by_cases e : x = i
      · simp [e]
      · simp only [e, or_false, if_false]
        exact h.qd x
    · simp only [List.mem_append, List.mem_singleton] at hx
      rcases hx with hx | hx
      · exact h.rg x hx
      · exact ⟨i, hi, hx⟩
    · by_cases e : x = i
      · subst e
        simp only [if_true]
        constructor
        · intro h1
          injection h1 with h1
          omega
        · intro h1
          have := (h.z i).2 h1
          rw [hn] at this
          cases this
      · simp only [e, if_false]
        exact h.z x
    · by_cases e : x = i
      · simp only [e, if_true] at hm
        injection hm with hm
        omega
      · simp only [e, if_false] at hm
        exact h.bd x m hm
    · by_cases e : x = i
      · simp only [e, if_true] at hm
        injection hm with hm
        subst hm
        refine ⟨k, by rw [e]; simpa using ht, fun e' => hki (e'.trans e), ?_⟩
        simp only [hki, if_false]
        rw [hk]
        congr 1
        omega
      · simp only [e, if_false] at hm
        obtain ⟨y, h1, h2, h3⟩ := h.st x m hm h0
        refine ⟨y, h1, h2, ?_⟩
        have : y ≠ i := fun e' => by rw [e', hn] at h3; cases h3
        simp only [this, if_false]
        exact h3
  · exact ⟨h, hk⟩
theorem BI.up {l : List Swap} {to : Int} {j : Nat} {s : BS} (h : BI l to j s) : BI l to (j + 1) s :=
  ⟨h.nd, h.qd, h.rg, h.z, fun x m hm => by have := h.bd x m hm; omega, h.st⟩
/-- Before the last elements of the row. -/
theorem BI.visitL {l : List Swap} {to : Int} {j : Nat} {k dk : Int} (hj : dk ≤ j) : ∀ (is : List Int) {s : BS}, BI l to (j + 1) s → s.d k = some dk → (∀ x ∈ is, ∃ i : Nat, i < l.length ∧ x = i ∧ takeK l i = giveK l k.toNat) →
    BI l to (j + 1) (visitL dk is s) ∧ (Proofs.Ytnhadilbebgbjaa.visitL dk is s).d k = some dk
  | [], s, h, hk, _ => ⟨h, hk⟩
  | x :: r, s, h, hk, ha => by
    obtain ⟨i, hi, rfl, ht⟩ := ha x (by simp)
    obtain ⟨h1, h2⟩ := h.visit1 hk hj hi ht
    exact BI.visitL hj r h1 h2 fun y hy => ha y (by simp [hy])
theorem preds_in (l : List Swap) (k : Int) (n : Nat) (hn : n ≤ l.length) : ∀ x ∈ preds l k n, ∃ i : Nat, i < l.length ∧ x = i ∧ takeK l i = giveK l k.toNat := fun x hx => by
  obtain ⟨i, h1, h2, h3⟩ := occ_mem.1 hx
  exact ⟨i, by omega, h2, h3⟩
theorem visitL_snoc (dk : Int) (is : List Int) (x : Int) (s : BS) : visitL dk (is ++ [x]) s = visit1 dk (visitL dk is s) x := by
  simp [visitL, List.foldl_append]
theorem BI.rnd {l : List Swap} {to : Int} {j : Nat} {s : BS} (h : BI l to j s) : BI l to (j + 1) (rnd l j s) := by
  unfold Proofs.Ytnhadilbebgbjaa.rnd
  split
  · rename_i hj
    have hm : s.q.getD j default ∈ s.q := getD_mem hj
    have hs := (h.qd _).1 hm
    obtain ⟨dk, hdk⟩ := Option.isSome_iff_exists.1 hs
    rw [hdk]
    exact (BI.visitL (h.bd _ _ hdk).2 _ h.up hdk (preds_in l _ _ (Nat.le_refl _))).1
  · exact h.up
theorem BI.iter {l : List Swap} {to : Nat} (h : to < l.length) : ∀ j, BI l to j (iter l j (bfs0 to))
  | 0 => BI.init h
  | j + 1 => (BI.iter h j).rnd
theorem iter_end {l : List Swap} {s : BS} {j : Nat} (h : (iter l j s).q.length ≤ j) : ∀ k, j ≤ k → iter l k s = iter l j s
  | 0, hk => by rw [show j = 0 by omega]
  | k + 1, hk => by
    by_cases e : j = k + 1
    · rw [e]
    · have ih := iter_end h k (by omega)
      show Proofs.Ytnhadilbebgbjaa.rnd l k (Proofs.Ytnhadilbebgbjaa.iter l k s) = _
      rw [ih, rnd, if_neg (by omega)]
end Go.Proofs.Ytnhadilbebgbjaa
