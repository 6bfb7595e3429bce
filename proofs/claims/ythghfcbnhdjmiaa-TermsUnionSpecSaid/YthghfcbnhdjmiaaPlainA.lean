/-
  Chapter 6, plain law: runs of a predicate.
-/
import Derived.Test.YthghfcbnhdjmiaaTermsC
namespace Go.Proofs.Ythghfcbnhdjmiaa
set_option linter.unusedSimpArgs false
set_option linter.unusedVariables false
open Go Go.Ab

/-- The stretches below n on which p holds, as ref.Of makes them. -/
def ofN (p : Int → Bool) : Nat → List Span
  | 0 => []
  | t + 1 => bif p t then push (ofN p t) t (t + 1) else ofN p t
theorem getD_last_append (acc : List Span) (s : Span) : (acc ++ [s]).getD ((acc ++ [s]).length - 1) default = s := by
  simp [List.getD_eq_getElem?_getD]
theorem push_push (acc : List Span) (a b c : Int) : push (push acc a b) b c = push acc a c := by
  unfold push
  by_cases h : 0 < acc.length ∧ (acc.getD (acc.length - 1) default).to = a
  · have h1 : acc.length - 1 < acc.length := by omega
    rw [if_pos h, if_pos h]
    simp only [List.length_set, List.getD_eq_getElem?_getD, List.getElem?_set_self h1, Option.getD_some, List.set_set]
    rw [if_pos ⟨h.1, trivial⟩]
  · rw [if_neg h, if_neg h, getD_last_append]
    rw [if_pos ⟨by simp, rfl⟩]
    simp [List.set_append]
theorem ofN_false {p : Int → Bool} {a : Nat} : ∀ {b : Nat}, a ≤ b → (∀ t : Nat, a ≤ t → t < b → p t = false) → ofN p b = ofN p a
  | 0, h, _ => by rw [show a = 0 by omega]
  | b + 1, h, hp => by
    by_cases e : a = b + 1
    · rw [e]
    · rw [ofN, hp b (by omega) (by omega), cond_false]
      exact ofN_false (by omega) fun t h1 h2 => hp t h1 (by omega)
theorem ofN_true {p : Int → Bool} {a : Nat} : ∀ {b : Nat}, a < b → (∀ t : Nat, a ≤ t → t < b → p t = true) → ofN p b = push (ofN p a) a b
  | 0, h, _ => by omega
  | b + 1, h, hp => by
    rw [ofN, hp b (by omega) (by omega), cond_true]
    by_cases e : a = b
    · subst e; rfl
    · rw [ofN_true (b := b) (by omega) fun t h1 h2 => hp t h1 (by omega), push_push]
      rfl

theorem compactUpTo_sorted (d : Array Int) (hs : ∀ i j : Nat, i ≤ j → j < d.size → d[i]! ≤ d[j]!) : ∀ m : Nat, m ≤ d.size →
    (Lib.compactUpTo d m).Pairwise (· < ·) ∧ ∀ x, x ∈ Lib.compactUpTo d m ↔ ∃ j, j < m ∧ d[j]! = x
  | 0, _ => by simp [Lib.compactUpTo]
  | m + 1, hm => by
    obtain ⟨h1, h2⟩ := compactUpTo_sorted d hs m (by omega)
    rw [Lib.compactUpTo_succ]
    by_cases hk : Lib.keeps d m = true
    · rw [if_pos hk]
      have hk' : m = 0 ∨ d[m]! ≠ d[m - 1]! := by simpa [Lib.keeps] using hk
      refine ⟨List.pairwise_append.2 ⟨h1, by simp, fun x hx y hy => ?_⟩, fun x => ?_⟩
      · obtain ⟨j, hj, rfl⟩ := (h2 x).1 hx
        have hy : y = d[m]! := by simpa using hy
        subst hy
        have g1 := hs j (m - 1) (by omega) (by omega)
        have g2 := hs (m - 1) m (by omega) (by omega)
        rcases hk' with h | h
        · omega
        · omega
      · simp only [List.mem_append, h2, List.mem_singleton]
        constructor
        · rintro (⟨j, hj, e⟩ | e)
          · exact ⟨j, by omega, e⟩
          · exact ⟨m, by omega, e.symm⟩
        · rintro ⟨j, hj, e⟩
          by_cases hjm : j = m
          · subst hjm; exact .inr e.symm
          · exact .inl ⟨j, by omega, e⟩
    · rw [if_neg hk, List.append_nil]
      have hk' : ¬ m = 0 ∧ d[m]! = d[m - 1]! := by simpa [Lib.keeps] using hk
      refine ⟨h1, fun x => ?_⟩
      rw [h2]
      constructor
      · rintro ⟨j, hj, e⟩
        exact ⟨j, by omega, e⟩
      · rintro ⟨j, hj, e⟩
        by_cases hjm : j = m
        · subst hjm; exact ⟨j - 1, by omega, by rw [← hk'.2]; exact e⟩
        · exact ⟨j, by omega, e⟩

theorem dist_sorted (xss : List (List Int)) : (dist xss).Pairwise (· < ·) ∧ ∀ x, x ∈ dist xss ↔ x ∈ xss.flatten := by
  have hp : (xss.flatten.mergeSort fun x y => decide (x ≤ y)).Pairwise (fun x y => decide (x ≤ y) = true) := List.pairwise_mergeSort (fun a b c h1 h2 => by simp at h1 h2 ⊢; omega) (fun a b => by simp; omega) _
  have hmem : ∀ x, x ∈ (xss.flatten.mergeSort fun x y => decide (x ≤ y)) ↔ x ∈ xss.flatten := fun x => List.mem_mergeSort
  unfold dist Lib.compact
  generalize (xss.flatten.mergeSort fun x y => decide (x ≤ y)) = zs at hp hmem
  have hs : ∀ i j : Nat, i ≤ j → j < zs.toArray.size → zs.toArray[i]! ≤ zs.toArray[j]! := fun i j hij hj => by
    have hj' : j < zs.length := by simpa using hj
    rcases Nat.lt_or_ge i j with h | h
    · have := List.pairwise_iff_getElem.1 hp i j (by omega) hj' h
      simp only [decide_eq_true_eq] at this
      simpa [hj', show i < zs.length by omega] using this
    · rw [show i = j by omega]; exact Int.le_refl _
  obtain ⟨h1, h2⟩ := compactUpTo_sorted zs.toArray hs zs.length (by simp)
  refine ⟨h1, fun x => ?_⟩
  rw [h2, ← hmem, List.mem_iff_getElem]
  constructor
  · rintro ⟨j, hj, e⟩
    exact ⟨j, hj, by simpa [hj] using e⟩
  · rintro ⟨j, hj, e⟩
    exact ⟨j, hj, by simpa [hj] using e⟩
theorem mem_bounds {x : Int} : ∀ {xs : List Span}, x ∈ bounds xs ↔ ∃ s ∈ xs, x = s.fr ∨ x = s.to
  | [] => by simp [bounds]
  | s :: r => by simp [bounds, mem_bounds (xs := r), or_assoc]

theorem has_congr {xs : List Span} {t u : Int} (h : ∀ s ∈ xs, (s.fr ≤ t ∧ t < s.to) ↔ (s.fr ≤ u ∧ u < s.to)) : has xs t = has xs u := by
  induction xs with
  | nil => rfl
  | cons s r ih =>
    rw [has_cons, has_cons, ih fun s hs => h s (by simp [hs])]
    have := h s (by simp)
    congr 1
    rw [Bool.eq_iff_iff]
    simpa using this
theorem has_between {xs : List Span} {lo hi t : Int} (h : ∀ x ∈ bounds xs, x ≤ lo ∨ hi ≤ x) (h1 : lo ≤ t) (h2 : t < hi) : has xs t = has xs lo :=
  has_congr fun s hs => by
    have g1 := h s.fr (mem_bounds.2 ⟨s, hs, .inl rfl⟩)
    have g2 := h s.to (mem_bounds.2 ⟨s, hs, .inr rfl⟩)
    omega
theorem has_none {xs : List Span} {t : Int} (h : ∀ s ∈ xs, t < s.fr ∨ s.to ≤ t) : has xs t = false := by
  induction xs with
  | nil => rfl
  | cons s r ih =>
    rw [has_cons, ih fun s hs => h s (by simp [hs]), Bool.or_false]
    have := h s (by simp)
    simp only [Bool.and_eq_false_iff, decide_eq_false_iff_not]
    omega
theorem combN_of (op : Bool → Bool → Bool) (hop : op false false = false) (xs ys : List Span) (cs : List Int) (hs : cs.Pairwise (· < ·)) (hx : ∀ x ∈ bounds xs, x ∈ cs) (hy : ∀ x ∈ bounds ys, x ∈ cs) (h0 : ∀ x ∈ cs, 0 ≤ x) :
    ∀ k, k < cs.length → combN op xs ys cs k = ofN (fun t => op (has xs t) (has ys t)) (cs.getD k 0).toNat := by
  have hlt : ∀ i j, i < j → j < cs.length → cs.getD i 0 < cs.getD j 0 := fun i j hij hj => by
    have := List.pairwise_iff_getElem.1 hs i j (by omega) hj hij
    simpa [hj, show i < cs.length by omega] using this
  have hidx : ∀ x ∈ cs, ∃ j, j < cs.length ∧ cs.getD j 0 = x := fun x hx => by
    obtain ⟨j, hj, e⟩ := List.mem_iff_getElem.1 hx
    exact ⟨j, hj, by simpa [hj] using e⟩
  have hge : ∀ j, j < cs.length → 0 ≤ cs.getD j 0 := fun j hj => h0 _ (by simp [hj])
  intro k
  induction k with
  | zero =>
    intro h
    rw [combN, ofN_false (Nat.zero_le _)]
    · rfl
    · intro t _ ht
      have g := hge 0 h
      have low : ∀ zs : List Span, (∀ x ∈ bounds zs, x ∈ cs) → has zs t = false := fun zs hz => has_none fun s hs' => by
        obtain ⟨j, hj, e⟩ := hidx _ (hz s.fr (mem_bounds.2 ⟨s, hs', .inl rfl⟩))
        rcases Nat.eq_zero_or_pos j with h | h
        · subst h; omega
        · have := hlt 0 j h hj; omega
      simp only [low xs hx, low ys hy, hop]
  | succ k ih =>
    intro h
    have gk := hge k (by omega)
    have gk1 := hge (k + 1) h
    have gl := hlt k (k + 1) (by omega) h
    have sep : ∀ zs : List Span, (∀ x ∈ bounds zs, x ∈ cs) → ∀ x ∈ bounds zs, x ≤ cs.getD k 0 ∨ cs.getD (k + 1) 0 ≤ x := fun zs hz x hx' => by
      obtain ⟨j, hj, e⟩ := hidx _ (hz x hx')
      rcases Nat.lt_trichotomy j k with h1 | h1 | h1
      · have := hlt j k h1 (by omega); omega
      · subst h1; omega
      · rcases Nat.lt_or_ge (k + 1) j with h2 | h2
        · have := hlt (k + 1) j h2 hj; omega
        · have : j = k + 1 := by omega
          subst this; omega
    have hc : ∀ t : Nat, (cs.getD k 0).toNat ≤ t → t < (cs.getD (k + 1) 0).toNat → op (has xs t) (has ys t) = op (has xs (cs.getD k 0)) (has ys (cs.getD k 0)) := fun t h1 h2 => by
      rw [has_between (sep xs hx) (by omega) (by omega), has_between (sep ys hy) (by omega) (by omega)]
    rw [combN, ih (by omega)]
    cases hv : op (has xs (cs.getD k 0)) (has ys (cs.getD k 0)) with
    | false =>
      rw [cond_false]
      exact (ofN_false (by omega) fun t h1 h2 => by rw [hc t h1 h2, hv]).symm
    | true =>
      rw [cond_true, ofN_true (a := (cs.getD k 0).toNat) (b := (cs.getD (k + 1) 0).toNat) (by omega) fun t h1 h2 => by rw [hc t h1 h2, hv]]
      rw [Int.toNat_of_nonneg gk, Int.toNat_of_nonneg gk1]

theorem comb_of (op : Bool → Bool → Bool) (hop : op false false = false) (xs ys : List Span) (hx : chk (-1) xs = 0) (hy : chk (-1) ys = 0) : comb op xs ys = ofN (fun t => op (has xs t) (has ys t)) 1024 := by
  rw [comb, if_pos ⟨hx, hy⟩]
  obtain ⟨hs, hm⟩ := dist_sorted [bounds xs, bounds ys]
  have hcs : dist [bounds xs, bounds ys] = cuts xs ys := rfl
  rw [hcs] at hs hm
  have m1 : ∀ x ∈ bounds xs, x ∈ cuts xs ys := fun x h => (hm x).2 (by simp [h])
  have m2 : ∀ x ∈ bounds ys, x ∈ cuts xs ys := fun x h => (hm x).2 (by simp [h])
  have hb : ∀ x ∈ cuts xs ys, 0 ≤ x ∧ x ≤ 1024 := fun x h => by
    have := (hm x).1 h
    simp only [List.flatten_cons, List.flatten_nil, List.append_nil, List.mem_append] at this
    rcases this with h | h
    · obtain ⟨s, h1, h2⟩ := mem_bounds.1 h
      have := chk_at hx s h1
      omega
    · obtain ⟨s, h1, h2⟩ := mem_bounds.1 h
      have := chk_at hy s h1
      omega
  generalize cuts xs ys = cs at hs m1 m2 hb
  rcases Nat.eq_zero_or_pos cs.length with h0 | h0
  · have e : cs = [] := List.length_eq_zero_iff.1 h0
    subst e
    have low : ∀ (zs : List Span) (t : Int), (∀ x ∈ bounds zs, x ∈ ([] : List Int)) → has zs t = false := fun zs t hz => has_none fun s hs' => by
      have := hz s.fr (mem_bounds.2 ⟨s, hs', .inl rfl⟩)
      simp at this
    rw [ofN_false (a := 0) (Nat.zero_le _) fun t _ _ => by simp only [low xs t m1, low ys t m2, hop]]
    rfl
  · rw [combN_of op hop xs ys cs hs m1 m2 (fun x h => (hb x h).1) (cs.length - 1) (by omega)]
    have hl : cs.getD (cs.length - 1) 0 ∈ cs := by simp [show cs.length - 1 < cs.length by omega]
    have hl2 := hb _ hl
    have top : ∀ x ∈ cs, x ≤ cs.getD (cs.length - 1) 0 := fun x hx' => by
      obtain ⟨j, hj, e⟩ := List.mem_iff_getElem.1 hx'
      rcases Nat.lt_or_ge j (cs.length - 1) with h | h
      · have := List.pairwise_iff_getElem.1 hs j (cs.length - 1) hj (by omega) h
        simp [show cs.length - 1 < cs.length by omega]
        omega
      · have : j = cs.length - 1 := by omega
        subst this
        simp [show cs.length - 1 < cs.length by omega, ← e]
    have low : ∀ (zs : List Span) (t : Int), cs.getD (cs.length - 1) 0 ≤ t → (∀ x ∈ bounds zs, x ∈ cs) → has zs t = false := fun zs t ht hz => has_none fun s hs' => by
      have := top s.to (hz s.to (mem_bounds.2 ⟨s, hs', .inr rfl⟩))
      omega
    exact (ofN_false (by omega) fun t h1 _ => by simp only [low xs t (by omega) m1, low ys t (by omega) m2, hop]).symm
end Go.Proofs.Ythghfcbnhdjmiaa
