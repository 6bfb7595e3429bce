/-
  Chapter 6, the plain law, part B: what a list made by ofN holds, and that a valid list is made so.
-/
import Derived.Test.YthghfcbnhdjmiaaPlainA
namespace Go.Proofs.Ythghfcbnhdjmiaa
set_option linter.unusedSimpArgs false
set_option linter.unusedVariables false
open Go Go.Ab
set_option maxRecDepth 100000
def Val (lo hi : Int) : List Span → Prop
  | [] => True
  | s :: r => lo < s.fr ∧ 0 ≤ s.fr ∧ s.fr < s.to ∧ s.to ≤ hi ∧ Val s.to hi r
def lastTo (lo : Int) : List Span → Int
  | [] => lo
  | s :: r => lastTo s.to r
theorem chk_iff : ∀ {xs : List Span} {lo : Int}, chk lo xs = 0 ↔ Val lo 1024 xs
  | [], lo => by simp [chk, Val]
  | s :: r, lo => by
    simp only [chk, Val]
    split
    · rename_i h
      simp only [show ¬ (60 : Int) = 0 by omega, false_iff]
      omega
    · rename_i h
      rw [chk_iff (xs := r)]
      have : lo < s.fr ∧ 0 ≤ s.fr ∧ s.fr < s.to ∧ s.to ≤ 1024 := by omega
      simp [this]
theorem chk_two : ∀ (xs : List Span) (lo : Int), chk lo xs = 0 ∨ chk lo xs = 60
  | [], lo => .inl rfl
  | s :: r, lo => by
    simp only [chk]
    split
    · exact .inr rfl
    · exact chk_two r _
theorem Val.snoc {hi : Int} {s : Span} : ∀ {a : List Span} {lo : Int}, Val lo hi (a ++ [s]) ↔ Val lo hi a ∧ lastTo lo a < s.fr ∧ 0 ≤ s.fr ∧ s.fr < s.to ∧ s.to ≤ hi
  | [], lo => by simp [Val, lastTo]
  | x :: a, lo => by
    simp only [List.cons_append, Val, lastTo, Val.snoc (a := a)]
    constructor <;> (intro h; simp [h])
theorem Val.mono {hi hi' : Int} (h : hi ≤ hi') : ∀ {a : List Span} {lo : Int}, Val lo hi a → Val lo hi' a
  | [], _, _ => True.intro
  | _ :: a, _, ⟨h1, h2, h3, h4, h5⟩ => ⟨h1, h2, h3, by omega, Val.mono h (a := a) h5⟩
theorem lastTo_snoc {s : Span} : ∀ {a : List Span} {lo : Int}, lastTo lo (a ++ [s]) = s.to
  | [], _ => rfl
  | _ :: a, _ => lastTo_snoc (a := a)
theorem lastTo_le {hi : Int} : ∀ {a : List Span} {lo : Int}, lo ≤ hi → Val lo hi a → lastTo lo a ≤ hi
  | [], _, h, _ => h
  | _ :: a, _, _, ⟨_, _, _, h4, h5⟩ => lastTo_le (a := a) h4 h5
theorem has_snoc (a : List Span) (s : Span) (t : Int) : has (a ++ [s]) t = (has a t || (decide (s.fr ≤ t) && decide (t < s.to))) := by
  simp [has, List.any_append]
theorem cnt_snoc (s : Span) : ∀ a : List Span, cnt (a ++ [s]) = cnt a + (s.to - s.fr)
  | [] => by simp [cnt]
  | x :: a => by simp only [List.cons_append, cnt, cnt_snoc s a]; omega
theorem has_lt {hi : Int} : ∀ {a : List Span} {lo : Int}, Val lo hi a → ∀ t, lastTo lo a ≤ t → has a t = false
  | [], _, _, _, _ => rfl
  | s :: a, lo, ⟨h1, h2, h3, h4, h5⟩, t, ht => by
    rw [has_cons, has_lt h5 t ht]
    have : s.to ≤ lastTo s.to a := by
      clear ht
      induction a generalizing s lo with
      | nil => exact Int.le_refl _
      | cons x a ih =>
        obtain ⟨g1, g2, g3, g4, g5⟩ := h5
        have := ih x (lo := s.to) g1 g2 g3 g4 g5
        simp only [lastTo]
        omega
    simp only [lastTo] at ht
    simp
    omega
theorem has_low : ∀ {a : List Span} {lo hi : Int}, Val lo hi a → ∀ t, t ≤ lo ∨ t < 0 → has a t = false
  | [], _, _, _, _, _ => rfl
  | s :: a, lo, hi, ⟨h1, h2, h3, h4, h5⟩, t, ht => by
    rw [has_cons, has_low h5 t (by omega)]
    simp
    omega
theorem push_snoc (a : List Span) (s : Span) (lo hi : Int) : push (a ++ [s]) lo hi = if s.to = lo then a ++ [⟨s.fr, hi⟩] else (a ++ [s]) ++ [⟨lo, hi⟩] := by
  unfold push
  rw [getD_last_append]
  simp
def num (p : Int → Bool) : Nat → Int
  | 0 => 0
  | t + 1 => num p t + (bif p t then 1 else 0)
theorem ofN_inv (p : Int → Bool) : ∀ n : Nat, Val (-1) n (ofN p n) ∧ (ofN p n).length ≤ n ∧ (∀ t, has (ofN p n) t = (decide (0 ≤ t) && decide (t < n) && p t)) ∧ cnt (ofN p n) = num p n
  | 0 => ⟨True.intro, Nat.le_refl _, fun t => by simp [ofN, has]; omega, rfl⟩
  | n + 1 => by
    obtain ⟨h1, h2, h3, h4⟩ := ofN_inv p n
    rw [ofN, num]
    cases hp : p n with
    | false =>
      simp only [cond_false]
      refine ⟨h1.mono (by omega), by omega, fun t => ?_, by omega⟩
      rw [h3 t]
      by_cases ht : t = n
      · subst ht; simp [hp]
      · congr 2
        rw [decide_eq_decide]
        omega
    | true =>
      simp only [cond_true]
      have hlt := lastTo_le (by omega) h1
      rcases List.eq_nil_or_concat (ofN p n) with e | ⟨a, s, e⟩
      · rw [e] at h3 h4 ⊢
        have : push [] (n : Int) (n + 1) = [⟨n, n + 1⟩] := by simp [push]
        rw [this]
        refine ⟨⟨by show (-1 : Int) < n; omega, by show (0 : Int) ≤ n; omega, by simp; omega, by simp, True.intro⟩, by simp, fun t => ?_, ?_⟩
        · have := h3 t
          rw [show has ([] : List Span) t = false from rfl] at this
          by_cases ht : t = n
          · subst ht; simp [has, hp]
          · have e1 : decide (t < ((n + 1 : Nat) : Int)) = decide (t < (n : Int)) := by rw [decide_eq_decide]; omega
            rw [e1, ← this]
            simp [has]; omega
        · have : num p n = 0 := h4.symm
          rw [this]; simp [cnt]; omega
      · rw [List.concat_eq_append] at e
        rw [e] at h1 h2 h3 h4 hlt ⊢
        rw [push_snoc]
        rw [cnt_snoc] at h4
        rw [lastTo_snoc] at hlt
        obtain ⟨g1, g2, g3, g4, g5⟩ := Val.snoc.1 h1
        split
        · rename_i hs
          refine ⟨Val.snoc.2 ⟨g1.mono (by omega), g2, g3, by simp; omega, by simp⟩, by simp at h2 ⊢; omega, fun t => ?_, by rw [cnt_snoc]; simp only [cond_true]; have e2 : ((⟨s.fr, (n : Int) + 1⟩ : Span).to - (⟨s.fr, (n : Int) + 1⟩ : Span).fr) = n + 1 - s.fr := rfl; rw [e2]; omega⟩
          have := h3 t
          rw [has_snoc] at this ⊢
          by_cases ht : t = n
          · subst ht; simp [hp]; rw [decide_eq_true (show s.fr ≤ (n : Int) by omega), decide_eq_true (show (n : Int) < n + 1 by omega)]; simp
          · have e1 : decide (t < ((n + 1 : Nat) : Int)) = decide (t < (n : Int)) := by rw [decide_eq_decide]; omega
            rw [e1, ← this]
            congr 2
            rw [decide_eq_decide]
            simp
            omega
        · rename_i hs
          refine ⟨Val.snoc.2 ⟨h1.mono (by omega), by rw [lastTo_snoc]; simp; omega, by simp, by simp; omega, by simp⟩, by simp at h2 ⊢; omega, fun t => ?_, by rw [cnt_snoc, cnt_snoc]; simp; omega⟩
          have := h3 t
          rw [has_snoc, this]
          by_cases ht : t = n
          · subst ht; simp [hp]
          · have e1 : decide (t < ((n + 1 : Nat) : Int)) = decide (t < (n : Int)) := by rw [decide_eq_decide]; omega
            rw [e1]
            have : (decide ((n : Int) ≤ t) && decide (t < (n : Int) + 1)) = false := by simp; omega
            simp [this]
theorem ofN_congr {p q : Int → Bool} : ∀ {n : Nat}, (∀ t : Nat, t < n → p t = q t) → ofN p n = ofN q n
  | 0, _ => rfl
  | n + 1, h => by rw [ofN, ofN, h n (by omega), ofN_congr fun t ht => h t (by omega)]
theorem num_congr {p q : Int → Bool} : ∀ {n : Nat}, (∀ t : Nat, t < n → p t = q t) → num p n = num q n
  | 0, _ => rfl
  | n + 1, h => by rw [num, num, h n (by omega), num_congr fun t ht => h t (by omega)]
theorem ofN_has {hi : Int} : ∀ (k : Nat) (xs : List Span), xs.length = k → Val (-1) hi xs → ∀ n : Nat, lastTo (-1) xs ≤ n → ofN (has xs) n = xs := by
  intro k
  induction k with
  | zero =>
    intro xs hk _ n _
    have : xs = [] := List.eq_nil_of_length_eq_zero hk
    subst this
    rw [ofN_false (a := 0) (Nat.zero_le _) (fun t _ _ => rfl)]
    rfl
  | succ k ih =>
    intro xs hk hv n hn
    rcases List.eq_nil_or_concat xs with e | ⟨a, s, e⟩
    · subst e; simp at hk
    · rw [List.concat_eq_append] at e
      subst e
      obtain ⟨g1, g2, g3, g4, g5⟩ := Val.snoc.1 hv
      rw [lastTo_snoc] at hn
      have e1 : ofN (has (a ++ [s])) s.fr.toNat = a := by
        rw [← ih a (by simpa using hk) g1 s.fr.toNat (by omega)]
        refine ofN_congr fun t ht => ?_
        rw [ih a (by simpa using hk) g1 s.fr.toNat (by omega), has_snoc]
        simp; omega
      rw [ofN_false (a := s.to.toNat) (by omega) (fun t h1 _ => ?_), ofN_true (a := s.fr.toNat) (by omega) (fun t h1 h2 => ?_), e1]
      · rcases List.eq_nil_or_concat a with e | ⟨b, x, e⟩
        · subst e
          simp [push]
          rw [show max s.fr 0 = s.fr by omega, show max s.to 0 = s.to by omega]
        · rw [List.concat_eq_append] at e
          subst e
          rw [lastTo_snoc] at g2
          rw [push_snoc, if_neg (by omega), show ((s.fr.toNat : Nat) : Int) = s.fr by omega, show ((s.to.toNat : Nat) : Int) = s.to by omega]
      · rw [has_snoc]; simp; omega
      · exact has_lt hv t (by rw [lastTo_snoc]; omega)
/-- Two valid lists with the same members are one. -/
theorem same_of {xs ys : List Span} (hx : chk (-1) xs = 0) (hy : chk (-1) ys = 0) (h : ∀ t : Nat, t < 1024 → has xs t = has ys t) : xs = ys := by
  have h1 := ofN_has _ xs rfl (chk_iff.1 hx) 1024 (lastTo_le (by omega) (chk_iff.1 hx))
  have h2 := ofN_has _ ys rfl (chk_iff.1 hy) 1024 (lastTo_le (by omega) (chk_iff.1 hy))
  rw [← h1, ← h2]
  exact ofN_congr h
theorem has_out {xs : List Span} (hx : chk (-1) xs = 0) {t : Int} (ht : t < 0 ∨ 1024 ≤ t) : has xs t = false := by
  rcases ht with ht | ht
  · exact has_low (chk_iff.1 hx) t (.inr ht)
  · exact has_lt (chk_iff.1 hx) t (Int.le_trans (lastTo_le (by omega) (chk_iff.1 hx)) ht)
theorem comb_chk (op : Bool → Bool → Bool) (hop : op false false = false) (xs ys : List Span) : chk (-1) (comb op xs ys) = 0 := by
  by_cases h : chk (-1) xs = 0 ∧ chk (-1) ys = 0
  · rw [comb_of op hop xs ys h.1 h.2]
    exact chk_iff.2 (ofN_inv _ 1024).1
  · rw [comb, if_neg h]; rfl
theorem comb_le (op : Bool → Bool → Bool) (hop : op false false = false) (xs ys : List Span) : (comb op xs ys).length ≤ 1024 := by
  by_cases h : chk (-1) xs = 0 ∧ chk (-1) ys = 0
  · rw [comb_of op hop xs ys h.1 h.2]
    exact (ofN_inv _ 1024).2.1
  · rw [comb, if_neg h]; simp
theorem has_comb (op : Bool → Bool → Bool) (hop : op false false = false) {xs ys : List Span} (hx : chk (-1) xs = 0) (hy : chk (-1) ys = 0) (t : Int) : has (comb op xs ys) t = op (has xs t) (has ys t) := by
  rw [comb_of op hop xs ys hx hy, (ofN_inv _ 1024).2.2.1]
  by_cases ht : t < 0 ∨ 1024 ≤ t
  · rw [has_out hx ht, has_out hy ht, hop]; simp
  · have h1 : 0 ≤ t := by omega
    have h2 : t < 1024 := by omega
    simp [h1, h2]
theorem comb_not {op : Bool → Bool → Bool} {xs ys : List Span} (h : ¬ (chk (-1) xs = 0 ∧ chk (-1) ys = 0)) : comb op xs ys = [] := by rw [comb, if_neg h]
theorem combE_ok {xs ys : List Span} (hx : chk (-1) xs = 0) (hy : chk (-1) ys = 0) : combE xs ys = 0 := by rw [combE, if_pos hx, hy]
theorem combE_not {xs ys : List Span} (h : ¬ (chk (-1) xs = 0 ∧ chk (-1) ys = 0)) : combE xs ys = 60 := by
  unfold combE
  split
  · rename_i h1; exact (chk_two ys (-1)).resolve_left fun h2 => h ⟨h1, h2⟩
  · rename_i h1; exact (chk_two xs (-1)).resolve_left h1
theorem cnt_num {xs : List Span} (hx : chk (-1) xs = 0) : cntOr xs = num (has xs) 1024 := by
  rw [cntOr, if_pos hx]
  have h1 := ofN_has _ xs rfl (chk_iff.1 hx) 1024 (lastTo_le (by omega) (chk_iff.1 hx))
  have h2 := (ofN_inv (has xs) 1024).2.2.2
  rw [h1] at h2
  exact h2
theorem num_le (p : Int → Bool) : ∀ n : Nat, 0 ≤ num p n ∧ num p n ≤ n
  | 0 => ⟨Int.le_refl _, Int.le_refl _⟩
  | n + 1 => by have := num_le p n; rw [num]; cases p n <;> simp <;> omega
theorem num_add (p q : Int → Bool) : ∀ n : Nat, num (fun t => p t || q t) n + num (fun t => p t && q t) n = num p n + num q n
  | 0 => rfl
  | n + 1 => by
    have := num_add p q n
    rw [num, num, num, num]
    cases p n <;> cases q n <;> simp <;> omega
end Go.Proofs.Ythghfcbnhdjmiaa
