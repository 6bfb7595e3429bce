/-
  Chapter 14: points, what is known alike: the plain law.
-/
import Derived.Test.YtmlhghddfobmmaaGreatDoorEqlA
namespace Go.Proofs.YtmlhghddfobmmaaGreatDoor
set_option linter.unusedSimpArgs false
set_option linter.unusedVariables false
open Go Go.Ab
set_option maxRecDepth 100000
set_option maxHeartbeats 0
structure Poi where
  term : Int
  value : Int
  deriving Inhabited, DecidableEq
def ePoi (p : Poi) : List D := [.int .i64 p.term, .int .i64 p.value]
def ePois (xs : List Poi) : D := .sl 2 xs.length fun i => ePoi (xs.getD i default)
/-- The value of a key in a term; -1: none. -/
def valB (b : Option Fct) : Int := match b with
  | none => -1
  | some f => max f.value (-1)
def valT (l : List Fct) (k : Ke) (kn t : Int) : Int := valB (bestF l k t kn)
theorem atV_val (l : List Fct) (k : Ke) (t kn : Int) : atV l k t kn = if 0 ≤ valT l k kn t then (valT l k kn t, true) else (0, false) := by
  unfold atV valT
  cases bestF l k t kn with
  | none => rfl
  | some f =>
    unfold atO valB
    dsimp only
    by_cases h : f.value < 0
    · rw [if_pos h, if_neg (by omega)]
    · rw [if_neg h, if_pos (by omega), Int.max_eq_left (by omega)]
/-- The points from a term on. -/
def ptsU (v : Int → Int) (a : Int) : Nat → List Poi
  | 0 => []
  | n + 1 => ptsU v a n ++ (if 0 ≤ v (a + n) then [⟨a + n, v (a + n)⟩] else [])
theorem ptsU_len (v : Int → Int) (a : Int) : ∀ n, (ptsU v a n).length ≤ n
  | 0 => Nat.le_refl _
  | n + 1 => by
    have := ptsU_len v a n
    rw [ptsU, List.length_append]
    split <;> simp <;> omega
def ptsN (fr til : Int) : Nat := (min til 1024 - max 0 fr).toNat
def pointsV (l : List Fct) (k : Ke) (fr til kn : Int) : List Poi := ptsU (valT l k kn) (max 0 fr) (ptsN fr til)
theorem pointsV_len (l : List Fct) (k : Ke) (fr til kn : Int) : (pointsV l k fr til kn).length ≤ 1024 := by
  have := ptsU_len (valT l k kn) (max 0 fr) (ptsN fr til)
  unfold pointsV
  unfold ptsN at *
  omega
def rKe (r : Red) : Ke := ⟨r.kind, r.subject, r.object⟩
def alikeV (l : List Fct) (rs : List Red) (b a : Int) : Bool := rs.all fun r => decide (pointsV l (rKe r) r.fr r.til b = pointsV l (rKe r) r.fr r.til a)
theorem pointsV_one (l : List Fct) (k : Ke) {t : Int} (ht : 0 ≤ t ∧ t ≤ 1023) (kn : Int) : pointsV l k t (t + 1) kn = if 0 ≤ valT l k kn t then [⟨t, valT l k kn t⟩] else [] := by
  unfold pointsV
  have e1 : ptsN t (t + 1) = 1 := by unfold ptsN; omega
  rw [e1, show max 0 t = t by omega, ptsU, ptsU]
  simp
theorem alike_at {l : List Fct} {k : Ke} {t : Int} (ht : 0 ≤ t ∧ t ≤ 1023) {b a : Int} (h : pointsV l k t (t + 1) b = pointsV l k t (t + 1) a) : atV l k t b = atV l k t a := by
  rw [pointsV_one l k ht, pointsV_one l k ht] at h
  rw [atV_val, atV_val]
  by_cases h1 : 0 ≤ valT l k b t <;> by_cases h2 : 0 ≤ valT l k a t
  · rw [if_pos h1, if_pos h2] at h
    rw [if_pos h1, if_pos h2]
    injection h with h _
    injection h with _ h
    rw [h]
  · rw [if_pos h1, if_neg h2] at h
    cases h
  · rw [if_neg h1, if_pos h2] at h
    cases h
  · rw [if_neg h1, if_neg h2]
theorem alike_rd {l : List Fct} {rs : List Red} {b a : Int} (h : alikeV l rs b a = true) {k : Ke} {t : Int} (ht : 0 ≤ t ∧ t ≤ 1023) (hm : rdK k t ∈ rs) : atV l k t b = atV l k t a := by
  refine alike_at ht ?_
  have := List.all_eq_true.1 h _ hm
  exact of_decide_eq_true this
theorem lookO_alike {α : Type} [Inhabited α] (ds : List α) (l : List Fct) (k : Ke) (t b a : Int) (ok : α → Bool) (h : alikeV l (readsT k t) b a = true) : lookO ds t (atV l k t b) ok = lookO ds t (atV l k t a) ok := by
  cases ht : bw t 0 1023
  · simp [lookO, ht]
  · have ht2 : 0 ≤ t ∧ t ≤ 1023 := by simpa [bw] using ht
    rw [alike_rd h ht2 (by rw [readsT, if_pos ht]; simp)]
/-! ### Equal -/
theorem eqS_rq (w : Wor) (t kn a : Int) (z : List Int × List Red) (c : Int) : ∃ q, (eqS w t kn a z c).2 = z.2 ++ q := by
  unfold eqS
  split
  · exact ⟨[], by simp⟩
  · exact ⟨_, rfl⟩
theorem eqF_rq (w : Wor) (t kn a : Int) : ∀ (l : List Int) (z : List Int × List Red), ∃ q, (l.foldl (eqS w t kn a) z).2 = z.2 ++ q
  | [], z => ⟨[], by simp⟩
  | c :: r, z => by
    obtain ⟨q1, h1⟩ := eqS_rq w t kn a z c
    obtain ⟨q2, h2⟩ := eqF_rq w t kn a r (eqS w t kn a z c)
    exact ⟨q1 ++ q2, by rw [List.foldl_cons, h2, h1, List.append_assoc]⟩
theorem iterE_rq (w : Wor) (t kn : Int) (ns : List Int) (z : List Int × List Red) (i : Nat) : ∀ j, ∃ q, (iterE w t kn ns (i + j) z).2 = (iterE w t kn ns i z).2 ++ q
  | 0 => ⟨[], by simp⟩
  | j + 1 => by
    obtain ⟨q, h⟩ := iterE_rq w t kn ns z i j
    rw [← Nat.add_assoc, iterE_succ, rndE]
    split
    · obtain ⟨q2, h2⟩ := eqF_rq w t kn ((iterE w t kn ns (i + j) z).1.getD (i + j) default) ns (iterE w t kn ns (i + j) z)
      exact ⟨q ++ q2, by rw [eqR, h2, h, List.append_assoc]⟩
    · exact ⟨q, h⟩
theorem mem_pre {α : Type} {l m q : List α} (h : m = l ++ q) {x : α} (hx : x ∈ l) : x ∈ m := by rw [h]; exact List.mem_append_left q hx
theorem eqF_alike (w : Wor) (t b a c0 : Int) (P : Red → Prop) (hP : ∀ c, P (rdK (pairK c0 c) t) → atV w.fcts (pairK c0 c) t b = atV w.fcts (pairK c0 c) t a) : ∀ (l : List Int) (z : List Int × List Red), (∀ r ∈ (l.foldl (eqS w t b c0) z).2, P r) → l.foldl (eqS w t b c0) z = l.foldl (eqS w t a c0) z
  | [], z, _ => rfl
  | c :: r, z, h => by
    have e : eqS w t b c0 z c = eqS w t a c0 z c := by
      unfold eqS
      split
      · rfl
      · rename_i hn
        obtain ⟨q, hq⟩ := eqF_rq w t b c0 r (eqS w t b c0 z c)
        have hm : rdK (pairK c0 c) t ∈ (eqS w t b c0 z c).2 := by
          rw [eqS, if_neg hn]
          simp
        rw [hP c (h _ (mem_pre hq hm))]
    rw [List.foldl_cons, List.foldl_cons, ← e]
    exact eqF_alike w t b a c0 P hP r _ h
theorem iterE_alike (w : Wor) (t b a : Int) (ht : 0 ≤ t ∧ t ≤ 1023) (ns : List Int) (z : List Int × List Red) : ∀ j, alikeV w.fcts (iterE w t b ns j z).2 b a = true → iterE w t b ns j z = iterE w t a ns j z
  | 0, _ => rfl
  | j + 1, h => by
    obtain ⟨q, hq⟩ := iterE_rq w t b ns z j 1
    have ih := iterE_alike w t b a ht ns z j (by
      rw [alikeV, hq, List.all_append, Bool.and_eq_true] at h
      exact h.1)
    rw [iterE_succ, iterE_succ, ← ih, rndE, rndE]
    rw [iterE_succ, rndE] at h
    split
    · rename_i hj
      rw [if_pos hj] at h
      exact eqF_alike w t b a _ (fun r => decide (pointsV w.fcts (rKe r) r.fr r.til b = pointsV w.fcts (rKe r) r.fr r.til a) = true) (fun c hc => alike_at ht (of_decide_eq_true hc)) ns _ (fun r hr => List.all_eq_true.1 h r hr)
    · rfl
theorem iterE_first (w : Wor) (n t kn : Int) (ns : List Int) (N : Nat) : rdK ⟨12, 0, 0⟩ 0 ∈ (iterE w t kn ns N (startE n)).2 := by
  obtain ⟨q, hq⟩ := iterE_rq w t kn ns (startE n) 0 N
  rw [Nat.zero_add] at hq
  exact mem_pre hq (by simp [iterE, startE])
theorem equal_alike (w : Wor) (n t b a : Int) (h : alikeV w.fcts (equalR w n t b) b a = true) : equalL w n t b = equalL w n t a ∧ equalR w n t b = equalR w n t a := by
  unfold equalL equalR at *
  cases ho : okEq n t
  · simp
  · rw [ho] at h
    simp only [if_true] at h ⊢
    have ht : 0 ≤ t ∧ t ≤ 1023 := by
      simp only [okEq, bw, Bool.and_eq_true, decide_eq_true_eq] at ho
      exact ho.2
    unfold equalZ at *
    have hn : nums w b = nums w a := by
      have := alike_rd h (k := ⟨12, 0, 0⟩) (t := 0) ⟨by omega, by omega⟩ (iterE_first w n t b (nums w b) 200000)
      unfold nums
      rw [this]
    rw [← hn, ← iterE_alike w t b a ht (nums w b) (startE n) 200000 h]
    exact ⟨rfl, rfl⟩
end Go.Proofs.YtmlhghddfobmmaaGreatDoor
