/-
  Chapter 24: the law BundlesBack: what the seats of bundles give.
-/
import Derived.Test.YteamiepijajjdaaDoorBunI
namespace Go.Proofs.YteamiepijajjdaaDoor
set_option linter.unusedSimpArgs false
set_option linter.unusedVariables false
open Go Go.Ab
set_option maxRecDepth 100000
set_option maxHeartbeats 0
theorem mem_cands {taken : List Seat} {st term : Int} {b : Bun} : ∀ {r pre : List Sec}, b ∈ cands taken st term pre r ↔ (pre.any fun p => decide (p.id = b.sec)) = false ∧ ∃ s, findS r b.sec = some s ∧ wantS taken st term s = true ∧ b.lab = labOf taken st s
  | [], pre => by simp [cands, findS]
  | s :: r, pre => by
    rw [cands, List.mem_append, mem_cands (r := r) (pre := pre ++ [s]), List.any_append]
    by_cases e : s.id = b.sec
    · have hf : findS (s :: r) b.sec = some s := by simp [findS, e]
      rw [hf]
      constructor
      · rintro (h | ⟨h, _⟩)
        · by_cases hc : (pre.any fun p => decide (p.id = s.id)) = false ∧ wantS taken st term s = true
          · rw [if_pos hc, List.mem_singleton] at h
            rw [← e]
            refine ⟨hc.1, s, rfl, hc.2, ?_⟩
            rw [h]
          · rw [if_neg hc] at h; simp at h
        · simp [e] at h
      · rintro ⟨h1, s', h2, h3, h4⟩
        cases h2
        refine .inl ?_
        rw [if_pos ⟨by rw [e]; exact h1, h3⟩, List.mem_singleton, bunEq]
        exact ⟨e.symm, h4⟩
    · have hf : findS (s :: r) b.sec = findS r b.sec := by simp [findS, e]
      rw [hf]
      constructor
      · rintro (h | ⟨h, h2⟩)
        · by_cases hc : (pre.any fun p => decide (p.id = s.id)) = false ∧ wantS taken st term s = true
          · rw [if_pos hc, List.mem_singleton] at h
            exact absurd (by rw [h]) e
          · rw [if_neg hc] at h; simp at h
        · exact ⟨(Bool.or_eq_false_iff.1 h).1, h2⟩
      · rintro ⟨h1, h2⟩
        exact .inr ⟨by rw [h1]; simp [e], h2⟩
def idsB (x : List Bun) : List Int := x.flatMap fun b => [b.sec, b.lab]
def seatsB (st : Int) (ids : List Int) : List Seat := (ids.filter fun n => decide (n ≠ -1)).map fun n => ⟨st, n, -1⟩
theorem tk_seatsB (st : Int) (ids : List Int) (n : Int) : tk (seatsB st ids) st n = (decide (n ∈ ids) && decide (n ≠ -1)) := by
  rw [Bool.eq_iff_iff]
  simp only [tk, seatsB, List.any_map, List.any_eq_true, List.mem_filter, Function.comp, Bool.and_eq_true, decide_eq_true_eq]
  constructor
  · rintro ⟨m, ⟨h1, h2⟩, _, rfl⟩
    exact ⟨h1, h2⟩
  · rintro ⟨h1, h2⟩
    exact ⟨n, ⟨h1, h2⟩, by trivial, rfl⟩
theorem mem_idsB {x : List Bun} {n : Int} : n ∈ idsB x ↔ ∃ b ∈ x, n = b.sec ∨ n = b.lab := by
  simp [idsB, List.mem_flatMap]
/-- What the law checks before it asks. -/
structure Good (l : List Sec) (x : List Bun) (T : Int) : Prop where
  ok : ∀ b ∈ x, bchk l b = 0
  term : ∀ b ∈ x, ∀ s, findS l b.sec = some s → s.term = T
  sorted : x.Pairwise fun a b => a.sec < b.sec
  own : ∀ b ∈ x, ∀ s, findS l b.sec = some s → ∀ n ∈ s.labs, n ≠ b.lab → ¬ n ∈ idsB x
theorem id_nn {l : List Sec} (h0 : chkAll l = 0) {n : Int} {s : Sec} (h : findS l n = some s) : 0 ≤ n := by
  obtain ⟨h1, h2⟩ := findS_id h
  rw [← h1]
  exact (formed_id (chk_id h0 h2).1).1
theorem good_lab {l : List Sec} {x : List Bun} {T st : Int} (hg : Good l x T) {b : Bun} (hb : b ∈ x) {s : Sec} (hs : findS l b.sec = some s) : labOf (seatsB st (idsB x)) st s = b.lab ∧ s.lab = false ∧ tk (seatsB st (idsB x)) st b.sec = true := by
  obtain ⟨h0, ps, hp⟩ := parts_of (hg.ok b hb)
  have hno : ∀ n ∈ s.labs, n ≠ b.lab → tk (seatsB st (idsB x)) st n = false := fun n hn hne => by
    rw [tk_seatsB, decide_eq_false (hg.own b hb s hs n hn hne), Bool.false_and]
  have htk : tk (seatsB st (idsB x)) st b.sec = true := by
    rw [tk_seatsB, decide_eq_true (mem_idsB.2 ⟨b, hb, .inl rfl⟩), decide_eq_true (by have := id_nn h0 hs; omega)]
    rfl
  cases hp with
  | one h1 h2 h3 h4 h5 =>
    rw [hs] at h1
    cases h1
    exact ⟨by rw [labOf, h3, h4]; rfl, h2, htk⟩
  | @two s1 x1 h1 h2 h3 h4 h5 h6 =>
    rw [hs] at h1
    cases h1
    refine ⟨?_, h2, htk⟩
    simp only [labOk, Bool.and_eq_true, decide_eq_true_eq] at h5
    have hin : tk (seatsB st (idsB x)) st b.lab = true := by
      rw [tk_seatsB, decide_eq_true (mem_idsB.2 ⟨b, hb, .inr rfl⟩), decide_eq_true h4]
      rfl
    have : ∀ labs : List Int, b.lab ∈ labs → (∀ n ∈ labs, n ≠ b.lab → tk (seatsB st (idsB x)) st n = false) → (labs.find? fun n => tk (seatsB st (idsB x)) st n) = some b.lab := by
      intro labs
      induction labs with
      | nil => intro h; simp at h
      | cons d r ih =>
        intro hm hn
        rw [List.find?_cons]
        by_cases e : d = b.lab
        · rw [e, hin]
        · rw [hn d (by simp) e]
          refine ih ?_ fun n hn' => hn n (by simp [hn'])
          rcases List.mem_cons.1 hm with h | h
          · exact absurd h.symm e
          · exact h
    rw [labOf, this s.labs h5.1 hno]
    rfl
theorem good_mem {l : List Sec} {x : List Bun} {T st : Int} (hg : Good l x T) {b : Bun} {T2 : Int} : b ∈ cands (seatsB st (idsB x)) st T2 [] l ↔ b ∈ x ∧ T2 = T := by
  rw [mem_cands]
  constructor
  · rintro ⟨_, s, hs, hw, hb⟩
    simp only [wantS, Bool.and_eq_true, decide_eq_true_eq, Bool.not_eq_true'] at hw
    obtain ⟨w1, w2, w3⟩ := hw
    rw [tk_seatsB, Bool.and_eq_true, decide_eq_true_eq, decide_eq_true_eq, mem_idsB] at w3
    obtain ⟨⟨b', hb', hor⟩, hne⟩ := w3
    have hid := (findS_id hs).1
    obtain ⟨h0, ps, hp⟩ := parts_of (hg.ok b' hb')
    have hsec : s.id = b'.sec := by
      rcases hor with h | h
      · exact h
      · exfalso
        cases hp with
        | one h1 h2 h3 h4 h5 => exact hne (by rw [h, h4])
        | @two s1 x1 h1 h2 h3 h4 h5 h6 =>
          rw [← h, hid, hs] at h3
          cases h3
          simp only [labOk, Bool.and_eq_true, decide_eq_true_eq] at h5
          rw [w2] at h5
          exact absurd h5.2.1 (by simp)
    have hs' : findS l b'.sec = some s := by rw [← hsec, hid]; exact hs
    have hbb : b = b' := bunEq.2 ⟨by rw [← hid, hsec], by rw [hb, (good_lab hg hb' hs').1]⟩
    subst hbb
    exact ⟨hb', by rw [← w1]; exact hg.term b hb' s hs⟩
  · rintro ⟨hb, rfl⟩
    obtain ⟨h0, ps, hp⟩ := parts_of (hg.ok b hb)
    have hs : ∃ s, findS l b.sec = some s := by
      cases hp with
      | one h1 => exact ⟨_, h1⟩
      | two h1 => exact ⟨_, h1⟩
    obtain ⟨s, hs⟩ := hs
    obtain ⟨g1, g2, g3⟩ := good_lab (st := st) hg hb hs
    refine ⟨rfl, s, hs, ?_, g1.symm⟩
    simp only [wantS, Bool.and_eq_true, decide_eq_true_eq, Bool.not_eq_true']
    exact ⟨hg.term b hb s hs, g2, by rw [(findS_id hs).1]; exact g3⟩
theorem good_of {l : List Sec} {x : List Bun} {T : Int} (hg : Good l x T) (st : Int) : ofB l (seatsB st (idsB x)) st T = x ∧ ofB l (seatsB st (idsB x)) st (T + 1) = [] := by
  constructor
  · have h1 := cands_ne (seatsB st (idsB x)) st T l []
    have h2 : x.Nodup := hg.sorted.imp fun h e => by subst e; omega
    have h3 : (cands (seatsB st (idsB x)) st T [] l).Nodup := h1.imp fun h e => h (by rw [e])
    have hp : x.Perm (cands (seatsB st (idsB x)) st T [] l) := (List.perm_ext_iff_of_nodup h2 h3).2 fun b => by rw [good_mem hg]; simp
    exact (sortB_uniq h1 hp (hg.sorted.imp fun h => by omega)).symm
  · have : cands (seatsB st (idsB x)) st (T + 1) [] l = [] := List.eq_nil_iff_forall_not_mem.2 fun b hb => by
      have := (good_mem hg).1 hb
      omega
    rw [ofB, this]
    rfl
end Go.Proofs.YteamiepijajjdaaDoor
