/-
  Swaps: what is in a cycle, in plain words: the search finds all that leads to a swap.
-/
import Derived.Test.YtnhadilbebgbjaaSwapP
namespace Go.Proofs.Ytnhadilbebgbjaa
set_option linter.unusedSimpArgs false
set_option linter.unusedVariables false
open Go Go.Ab
set_option maxRecDepth 100000
/-- One step: what the one wants the other gives. -/
def Fol (l : List Swap) (i k : Nat) : Prop := i < l.length ∧ k < l.length ∧ takeK l i = giveK l k
inductive Rch (l : List Swap) : Nat → Nat → Prop
  | refl (i : Nat) : Rch l i i
  | step {i k j : Nat} : Fol l i k → Rch l k j → Rch l i j
theorem Rch.trans {l : List Swap} {i k j : Nat} (h : Rch l i k) (g : Rch l k j) : Rch l i j := by
  induction h with
  | refl => exact g
  | step h _ ih => exact .step h (ih g)
def Cyc (l : List Swap) (i : Nat) : Prop := ∃ k, Fol l i k ∧ k ≠ i ∧ Rch l k i
theorem bi_sound {l : List Swap} {to j : Nat} {s : BS} (hB : BI l to j s) : ∀ (n : Nat) (x : Nat), s.d x = some (n : Int) → Rch l x to
  | 0, x, h => by
    have := (hB.z x).1 h
    rw [show x = to by omega]
    exact .refl _
  | n + 1, x, h => by
    obtain ⟨y, h1, h2, h3⟩ := hB.st _ _ h (by omega)
    obtain ⟨iy, hiy, rfl⟩ := hB.rg y ((hB.qd y).2 (by rw [h3]; rfl))
    obtain ⟨ix, hix, hxe⟩ := hB.rg x ((hB.qd x).2 (by rw [h]; rfl))
    refine .step ⟨by omega, hiy, by simpa using h1⟩ (bi_sound hB n iy ?_)
    rw [h3]
    congr 1
    omega
theorem visit1_keep (dk : Int) (s : BS) (i x : Int) (h : (s.d x).isSome = true) : ((visit1 dk s i).d x).isSome = true := by
  unfold visit1
  split
  · by_cases e : x = i
    · simp [e]
    · simp [e, h]
  · exact h
theorem visit1_hit (dk : Int) (s : BS) (i : Int) : ((visit1 dk s i).d i).isSome = true := by
  unfold visit1
  split
  · simp
  · rename_i h
    cases e : s.d i with
    | none => exact absurd e h
    | some v => rfl
theorem visit1_q (dk : Int) (s : BS) (i : Int) : ∃ t, (visit1 dk s i).q = s.q ++ t := by
  unfold visit1
  split
  · exact ⟨_, rfl⟩
  · exact ⟨[], by simp⟩
theorem visitL_keep (dk : Int) : ∀ (is : List Int) (s : BS) (x : Int), (s.d x).isSome = true → ((visitL dk is s).d x).isSome = true
  | [], s, x, h => h
  | i :: r, s, x, h => visitL_keep dk r _ x (visit1_keep dk s i x h)
theorem visitL_hit (dk : Int) : ∀ (is : List Int) (s : BS) (x : Int), x ∈ is → ((visitL dk is s).d x).isSome = true
  | i :: r, s, x, h => by
    rcases List.mem_cons.1 h with rfl | h
    · exact visitL_keep dk r _ _ (visit1_hit dk s _)
    · exact visitL_hit dk r _ x h
theorem visitL_q (dk : Int) : ∀ (is : List Int) (s : BS), ∃ t, (visitL dk is s).q = s.q ++ t
  | [], s => ⟨[], by simp [visitL]⟩
  | i :: r, s => by
    obtain ⟨t1, h1⟩ := visit1_q dk s i
    obtain ⟨t2, h2⟩ := visitL_q dk r (visit1 dk s i)
    exact ⟨t1 ++ t2, by rw [show visitL dk (i :: r) s = visitL dk r (visit1 dk s i) from rfl, h2, h1, List.append_assoc]⟩
/-- All that leads to one of the first of the queue has a distance. -/
def CI (l : List Swap) (j : Nat) (s : BS) : Prop := ∀ r, r < j → r < s.q.length → ∀ i : Nat, i < l.length → takeK l i = giveK l (s.q.getD r default).toNat → (s.d i).isSome = true
theorem CI.rnd {l : List Swap} {to : Int} {j : Nat} {s : BS} (hB : BI l to j s) (h : CI l j s) : CI l (j + 1) (rnd l j s) := by
  unfold Proofs.Ytnhadilbebgbjaa.rnd
  split
  · rename_i hj
    intro r hr hrl i hi ht
    obtain ⟨t, hq⟩ := visitL_q ((s.d (s.q.getD j default)).getD 0) (preds l (s.q.getD j default) l.length) s
    by_cases e : r = j
    · subst e
      rw [hq, getD_append_left hj] at ht
      exact visitL_hit _ _ _ _ (occ_mem.2 ⟨i, hi, rfl, ht⟩)
    · have hrs : r < s.q.length := by omega
      rw [hq, getD_append_left hrs] at ht
      exact visitL_keep _ _ _ _ (h r (by omega) hrs i hi ht)
  · rename_i hj
    intro r hr hrl i hi ht
    exact h r (by omega) hrl i hi ht
theorem CI.iter {l : List Swap} {to : Nat} (h : to < l.length) : ∀ j, CI l j (iter l j (bfs0 to))
  | 0 => fun r hr => absurd hr (Nat.not_lt_zero r)
  | j + 1 => (CI.iter h j).rnd (BI.iter h j)
theorem bfs_iff {l : List Swap} {to : Nat} (hto : to < l.length) (x : Nat) : ((bfs l to).d x).isSome = true ↔ Rch l x to := by
  have hB := BI.iter hto l.length
  have hC := CI.iter hto l.length
  rw [show iter l l.length (bfs0 to) = bfs l to from rfl] at hB hC
  constructor
  · intro h
    obtain ⟨m, hm⟩ := Option.isSome_iff_exists.1 h
    have := (hB.bd _ _ hm).1
    refine bi_sound hB m.toNat x ?_
    rw [hm]
    congr 1
    omega
  · intro h
    induction h with
    | refl => rw [(hB.z _).2 rfl]; rfl
    | step h _ ih =>
      rename_i i k j _
      have ih := ih hto hB hC
      obtain ⟨r, hr, hre⟩ := List.getElem_of_mem ((hB.qd _).2 ih)
      refine hC r (Nat.lt_of_lt_of_le hr hB.len) hr i h.1 ?_
      rw [List.getD_eq_getElem?_getD, List.getElem?_eq_getElem hr, Option.getD_some, hre, Int.toNat_natCast]
      exact h.2.2
theorem cycF_none {l : List Swap} {i : Nat} (hi : i < l.length) : cycF l i = none ↔ ¬ Cyc l i := by
  have hN := next_nb l (bfs l i).d i
  unfold cycF
  split
  · rename_i h
    refine ⟨fun _ => ?_, fun _ => rfl⟩
    rintro ⟨k, hk, hki, hr⟩
    have := (hN.no h).2 k (fol_mem.2 ⟨k, hk.2.1, rfl, hk.2.2.symm⟩) (by omega)
    have h2 := (bfs_iff hi k).2 hr
    rw [this] at h2
    cases h2
  · rename_i h
    refine ⟨fun h => (by cases h), fun hc => absurd ?_ hc⟩
    obtain ⟨h1, h2, h3, _⟩ := hN.yes (by omega)
    obtain ⟨k, hk, e, hg⟩ := fol_mem.1 h1
    rw [e] at h2 h3
    exact ⟨k, ⟨hi, hk, hg.symm⟩, by omega, (bfs_iff hi k).1 h3⟩
theorem Cyc.lt {l : List Swap} {i : Nat} (h : Cyc l i) : i < l.length := by
  obtain ⟨k, hk, _⟩ := h
  exact hk.1
theorem cycB_iff {l : List Swap} : cycB l = true ↔ ∃ i, Cyc l i := by
  unfold cycB cycL
  rw [List.findSome?_isSome_iff]
  constructor
  · rintro ⟨i, hi, h⟩
    refine ⟨i, Classical.not_not.1 fun hc => ?_⟩
    rw [(cycF_none (List.mem_range.1 hi)).2 hc] at h
    cases h
  · rintro ⟨i, hc⟩
    refine ⟨i, List.mem_range.2 hc.lt, ?_⟩
    cases e : cycF l i with
    | none => exact absurd hc ((cycF_none hc.lt).1 e)
    | some x => rfl
/-- What is found starts at the least that is in a cycle. -/
theorem cycL_some {l : List Swap} {w : List Int} (h : cycL l = some w) : ∃ i, Cyc l i ∧ (∀ j, j < i → ¬ Cyc l j) ∧ w = (i : Int) :: chainL l (bfs l i).d i (l.length + 1) (nextS l (bfs l i).d i) ∧ ¬ nextS l (bfs l i).d i < 0 := by
  unfold cycL at h
  obtain ⟨pre, i, post, e, h1, h2⟩ := List.findSome?_eq_some_iff.1 h
  have hil : pre.length = i ∧ i < l.length ∧ ∀ j, j < i → j ∈ pre := by
    have hi : i ∈ List.range l.length := by rw [e]; simp
    have hlen : pre.length < l.length := by
      have := congrArg List.length e
      simp at this
      omega
    have h3 : (List.range l.length)[pre.length]? = some i := by rw [e]; simp
    rw [List.getElem?_range hlen] at h3
    injection h3 with h3
    refine ⟨h3, List.mem_range.1 hi, fun j hj => ?_⟩
    have h4 : (List.range l.length)[j]? = some j := List.getElem?_range (by omega)
    rw [e, List.getElem?_append_left (by omega)] at h4
    exact List.mem_of_getElem? h4
  have hci : Cyc l i := Classical.not_not.1 fun hc => by rw [(cycF_none hil.2.1).2 hc] at h1; cases h1
  refine ⟨i, hci, fun j hj hc => ?_, ?_⟩
  · have := h2 j (hil.2.2 j hj)
    exact (cycF_none hc.lt).1 this hc
  · unfold cycF at h1
    split at h1
    · cases h1
    · rename_i hn
      injection h1 with h1
      exact ⟨h1.symm, hn⟩
theorem Rch.map {l l' : List Swap} (f : Nat → Nat) (hf : ∀ i k, Fol l i k → Fol l' (f i) (f k)) {i k : Nat} (h : Rch l i k) : Rch l' (f i) (f k) := by
  induction h with
  | refl => exact .refl _
  | step h _ ih => exact .step (hf _ _ h) ih
theorem Cyc.map {l l' : List Swap} (f : Nat → Nat) (hf : ∀ i k, Fol l i k → Fol l' (f i) (f k)) (hi : ∀ i k, i < l.length → k < l.length → f i = f k → i = k) {i : Nat} (h : Cyc l i) : Cyc l' (f i) := by
  obtain ⟨k, hk, hki, hr⟩ := h
  exact ⟨f k, hf _ _ hk, fun e => hki (hi _ _ hk.2.1 hk.1 e), hr.map f hf⟩
theorem cycB_more {l : List Swap} (s : Swap) (h : cycB l = true) : cycB (l ++ [s]) = true := by
  obtain ⟨i, hi⟩ := cycB_iff.1 h
  refine cycB_iff.2 ⟨_, hi.map id (fun i k hf => ?_) fun i k _ _ e => e⟩
  obtain ⟨h1, h2, h3⟩ := hf
  refine ⟨by rw [len_snoc]; exact Nat.lt_succ_of_lt h1, by rw [len_snoc]; exact Nat.lt_succ_of_lt h2, ?_⟩
  unfold takeK giveK at h3 ⊢
  simp only [id]
  rw [getD_append_left h1, getD_append_left h2]
  exact h3
/-- Where what is kept stood. -/
theorem filter_at (p : Swap → Bool) : ∀ (l : List Swap), ∃ f : Nat → Nat, (∀ i, i < (l.filter p).length → f i < l.length ∧ (l.filter p).getD i default = l.getD (f i) default) ∧ ∀ i k, i < k → f i < f k
  | [] => ⟨id, fun i hi => by simp at hi, fun i k h => h⟩
  | x :: r => by
    obtain ⟨f, h1, h2⟩ := filter_at p r
    by_cases hp : p x = true
    · refine ⟨fun i => match i with | 0 => 0 | n + 1 => f n + 1, fun i hi => ?_, fun i k h => ?_⟩
      · rw [List.filter_cons_of_pos hp] at hi ⊢
        cases i with
        | zero => exact ⟨by simp, rfl⟩
        | succ n =>
          have := h1 n (by simpa using hi)
          exact ⟨by simpa using this.1, by simpa using this.2⟩
      · cases k with
        | zero => omega
        | succ k =>
          cases i with
          | zero => show 0 < f k + 1; omega
          | succ i => have := h2 i k (by omega); show f i + 1 < f k + 1; omega
    · refine ⟨fun i => f i + 1, fun i hi => ?_, fun i k h => by have := h2 i k h; show f i + 1 < f k + 1; omega⟩
      rw [List.filter_cons_of_neg hp] at hi ⊢
      have := h1 i hi
      exact ⟨by simpa using this.1, by simpa using this.2⟩
theorem cycB_less {l : List Swap} (p : Swap → Bool) (h : cycB (l.filter p) = true) : cycB l = true := by
  obtain ⟨i, hi⟩ := cycB_iff.1 h
  obtain ⟨f, h1, h2⟩ := filter_at p l
  refine cycB_iff.2 ⟨_, hi.map f (fun i k hf => ?_) fun i k _ _ e => ?_⟩
  · obtain ⟨g1, g2, g3⟩ := hf
    obtain ⟨a1, a2⟩ := h1 i g1
    obtain ⟨b1, b2⟩ := h1 k g2
    refine ⟨a1, b1, ?_⟩
    unfold takeK giveK at g3 ⊢
    rw [← a2, ← b2]
    exact g3
  · rcases Nat.lt_trichotomy i k with h | h | h
    · have := h2 i k h; omega
    · exact h
    · have := h2 k i h; omega
end Go.Proofs.Ytnhadilbebgbjaa
