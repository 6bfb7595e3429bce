/-
  Swaps: the cycle that is found is one, in plain words.
-/
import Derived.Test.YtnhadilbebgbjaaSwapZE
import Derived.Test.YtnhadilbebgbjaaSwapZD
namespace Go.Proofs.Ytnhadilbebgbjaa
set_option linter.unusedSimpArgs false
set_option linter.unusedVariables false
open Go Go.Ab
set_option maxRecDepth 100000
/-- From one swap by a list of swaps to another one: each wants what the next one gives. -/
def Lnk (l : List Swap) : Int → List Int → Int → Prop
  | a, [], e => folB l a e = true
  | a, b :: r, e => folB l a b = true ∧ Lnk l b r e
theorem folB_iff {l : List Swap} {x y : Int} : folB l x y = true ↔ takeK l x.toNat = giveK l y.toNat := by
  unfold folB takeK giveK
  rw [Bool.and_eq_true, decide_eq_true_eq, decide_eq_true_eq]
  constructor
  · rintro ⟨h1, h2⟩
    rw [h1, h2]
  · intro h
    injection h with h1 h2
    injection h2 with h2 _
    exact ⟨h1, h2⟩
theorem next_fol {l : List Swap} {d : Int → Option Int} {i k : Nat} (h : nextS l d i = k) : giveK l k = takeK l i := by
  obtain ⟨h1, _⟩ := (next_nb l d i).yes (by omega)
  rw [h] at h1
  obtain ⟨j, _, e, hj⟩ := fol_mem.1 h1
  rw [show k = j by omega]
  exact hj
theorem chain_ok {l : List Swap} {to j : Nat} {s : BS} (hB : BI l to j s) : ∀ (m : Nat) (k : Nat), s.d k = some (m : Int) → k < l.length →
    (∀ x ∈ chainL l s.d to (m + 1) k, (0 ≤ x ∧ x < l.length) ∧ x ≠ to ∧ ∃ m' : Nat, s.d x = some (m' : Int) ∧ m' ≤ m) ∧ (chainL l s.d to (m + 1) k).Nodup ∧ ∀ a, giveK l k = takeK l a → Lnk l a (chainL l s.d to (m + 1) k) to := by
  intro m
  induction m using Nat.strongRecOn with
  | ind m ih =>
    intro k hk hkl
    by_cases hki : (k : Int) = to
    · rw [chainL, if_pos hki]
      refine ⟨fun x hx => by simp at hx, List.nodup_nil, fun a ha => ?_⟩
      refine folB_iff.2 ?_
      rw [Int.toNat_natCast, Int.toNat_natCast, ← ha, show k = to by omega]
    · obtain ⟨k', m', e, hk', hm', hlt, hch⟩ := chain_step hB hk hki
      obtain ⟨i1, i2, i3⟩ := ih m' hlt k' hm' hk'
      rw [hch]
      refine ⟨fun x hx => ?_, List.nodup_cons.2 ⟨fun hx => ?_, i2⟩, fun a ha => ⟨?_, i3 k (next_fol e)⟩⟩
      · rcases List.mem_cons.1 hx with rfl | hx
        · exact ⟨⟨by omega, by omega⟩, hki, m, hk, Nat.le_refl _⟩
        · obtain ⟨a1, a2, m2, a3, a4⟩ := i1 x hx
          exact ⟨a1, a2, m2, a3, by omega⟩
      · obtain ⟨_, _, m2, a3, a4⟩ := i1 _ hx
        rw [hk] at a3
        injection a3 with a3
        omega
      · exact folB_iff.2 (by rw [Int.toNat_natCast, Int.toNat_natCast]; exact ha.symm)
theorem lnk_at {l : List Swap} : ∀ (c : List Int) (a e : Int), Lnk l a c e → ∀ n, n ≤ c.length → folB l ((a :: c).getD n default) ((c ++ [e]).getD n default) = true
  | [], a, e, h, n, hn => by
    have : n = 0 := by simpa using hn
    subst this
    exact h
  | b :: r, a, e, h, 0, hn => h.1
  | b :: r, a, e, h, n + 1, hn => lnk_at r b e h.2 n (by simpa using hn)
theorem not_any {w : List Int} (hn : w.Nodup) {k : Nat} (hk : k < w.length) : ((w.take k).any fun a => decide (w.getD k default = a)) = false := by
  refine any_no hk fun j hj e => ?_
  rw [List.getD_eq_getElem?_getD, List.getD_eq_getElem?_getD, List.getElem?_eq_getElem (by omega), List.getElem?_eq_getElem hk, Option.getD_some, Option.getD_some] at e
  exact List.pairwise_iff_getElem.1 hn j k (by omega) hk hj e
structure Found (l : List Swap) (w : List Int) (i : Nat) : Prop where
  cyc : Cyc l i
  least : ∀ j, j < i → ¬ Cyc l j
  hd : ∃ c, w = (i : Int) :: c ∧ c ≠ []
  ok : isC l w = true
theorem cyc_found {l : List Swap} (h : cycB l = true) : ∃ i, Found l (cycW l) i := by
  unfold cycB at h
  obtain ⟨w, hw⟩ := Option.isSome_iff_exists.1 h
  have e1 : cycW l = w := by rw [cycW, hw]; rfl
  rw [e1]
  obtain ⟨i, hc, hleast, hwe, hn⟩ := cycL_some hw
  have hi := hc.lt
  have hB := BI.iter hi l.length
  rw [show iter l l.length (bfs0 i) = bfs l i from rfl] at hB
  obtain ⟨g1, g2, g3, _⟩ := (next_nb l (bfs l i).d i).yes (by omega)
  obtain ⟨kn, hkn, e, hg⟩ := fol_mem.1 g1
  obtain ⟨m0, hm0⟩ := Option.isSome_iff_exists.1 g3
  rw [e] at hm0 g2
  have hbd := hB.bd _ _ hm0
  obtain ⟨m, rfl⟩ : ∃ m : Nat, m0 = m := ⟨m0.toNat, by omega⟩
  rw [e, chain_fuel hB (l.length + 1) kn m hm0 (by omega)] at hwe
  obtain ⟨c1, c2, c3⟩ := chain_ok hB m kn hm0 hkn
  have hL := c3 i hg
  have hne : chainL l (bfs l i).d i (m + 1) kn ≠ [] := by
    rw [chainL, if_neg g2]
    simp
  obtain ⟨c, hcc⟩ : ∃ c, chainL l (bfs l i).d i (m + 1) kn = c := ⟨_, rfl⟩
  rw [hcc] at hwe c1 c2 hL hne
  subst hwe
  have hcl : 0 < c.length := List.length_pos_iff.2 hne
  have hnd : ((i : Int) :: c).Nodup := List.nodup_cons.2 ⟨fun hm => (c1 _ hm).2.1 rfl, c2⟩
  have hrg : ∀ x ∈ (i : Int) :: c, 0 ≤ x ∧ x < l.length := fun x hx => by
    rcases List.mem_cons.1 hx with rfl | hx
    · exact ⟨by omega, by omega⟩
    · exact (c1 x hx).1
  refine ⟨i, hc, hleast, ⟨c, rfl, hne⟩, isC_yes (by rw [List.length_cons]; omega) fun k hk => ?_⟩
  obtain ⟨j, hj, hnx⟩ := nx_mem hk
  have hf := lnk_at c i i hL k (by simpa using Nat.lt_succ_iff.1 hk)
  have hnx2 : (c ++ [(i : Int)]).getD k default = nxI ((i : Int) :: c) k := by
    unfold nxI
    rw [List.length_cons] at hk ⊢
    by_cases e : k = c.length
    · subst e
      rw [Nat.mod_self, getD_append_right (Nat.le_refl _), Nat.sub_self]
      rfl
    · rw [Nat.mod_eq_of_lt (by omega), getD_append_left (by omega)]
      rfl
  rw [hnx2] at hf
  unfold cyS
  rw [in_yes (hrg _ (getD_mem hk)), hnx, in_yes (hrg _ (getD_mem hj)), ← hnx, not_any hnd hk, hf]
  rfl
theorem cyc_none {l : List Swap} (h : cycB l = false) : cycW l = [] ∧ ∀ i, ¬ Cyc l i := by
  refine ⟨?_, fun i hc => ?_⟩
  · unfold cycB at h
    unfold cycW
    cases e : cycL l with
    | none => rfl
    | some w => rw [e] at h; cases h
  · have := cycB_iff.2 ⟨i, hc⟩
    rw [h] at this
    cases this
end Go.Proofs.Ytnhadilbebgbjaa
