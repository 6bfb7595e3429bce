/-
  Swaps: the next one is nearer; the cycle in plain words.
-/
import Derived.Test.YtnhadilbebgbjaaSwapO
namespace Go.Proofs.Ytnhadilbebgbjaa
set_option linter.unusedSimpArgs false
set_option linter.unusedVariables false
open Go Go.Ab
set_option maxRecDepth 100000
/-- The best so far. -/
structure NB (d : Int → Option Int) (i : Int) (ks : List Int) (b : Int) : Prop where
  no : b < 0 → b = -1 ∧ ∀ k ∈ ks, k ≠ i → d k = none
  yes : 0 ≤ b → b ∈ ks ∧ b ≠ i ∧ (d b).isSome = true ∧ ∀ k ∈ ks, k ≠ i → (d k).isSome = true → (d b).getD 0 ≤ (d k).getD 0
theorem NB.snoc {d : Int → Option Int} {i : Int} {ks : List Int} {b : Int} (h : NB d i ks b) (x : Int) (hx : 0 ≤ x) : NB d i (ks ++ [x]) (if x = i then b else nstep d b x) := by
  by_cases e : x = i
  · rw [if_pos e]
    refine ⟨fun hb => ⟨(h.no hb).1, fun k hk hki => ?_⟩, fun hb => ?_⟩
    · rcases List.mem_append.1 hk with hk | hk
      · exact (h.no hb).2 k hk hki
      · exact absurd ((List.mem_singleton.1 hk).trans e) hki
    · obtain ⟨h1, h2, h3, h4⟩ := h.yes hb
      refine ⟨List.mem_append_left _ h1, h2, h3, fun k hk hki hks => ?_⟩
      rcases List.mem_append.1 hk with hk | hk
      · exact h4 k hk hki hks
      · exact absurd ((List.mem_singleton.1 hk).trans e) hki
  · rw [if_neg e]
    unfold nstep
    split
    · rename_i hc
      refine ⟨fun hb => by omega, fun _ => ⟨by simp, e, hc.1, fun k hk hki hks => ?_⟩⟩
      rcases List.mem_append.1 hk with hk | hk
      · rcases hc.2 with hb | hb
        · rw [(h.no hb).2 k hk hki] at hks; cases hks
        · by_cases hb0 : b < 0
          · rw [(h.no hb0).2 k hk hki] at hks; cases hks
          · have := (h.yes (by omega)).2.2.2 k hk hki hks
            omega
      · rw [List.mem_singleton.1 hk]; exact Int.le_refl _
    · rename_i hc
      refine ⟨fun hb => ⟨(h.no hb).1, fun k hk hki => ?_⟩, fun hb => ?_⟩
      · rcases List.mem_append.1 hk with hk | hk
        · exact (h.no hb).2 k hk hki
        · rw [List.mem_singleton.1 hk]
          cases hd : d x with
          | none => rfl
          | some v => exact absurd ⟨by rw [hd]; rfl, .inl hb⟩ hc
      · obtain ⟨h1, h2, h3, h4⟩ := h.yes hb
        refine ⟨List.mem_append_left _ h1, h2, h3, fun k hk hki hks => ?_⟩
        rcases List.mem_append.1 hk with hk | hk
        · exact h4 k hk hki hks
        · rw [List.mem_singleton.1 hk] at hks ⊢
          by_cases hlt : (d x).getD 0 < (d b).getD 0
          · exact absurd ⟨hks, .inr hlt⟩ hc
          · omega
theorem nfold_nb (d : Int → Option Int) (i : Int) (ks : List Int) (h : ∀ k ∈ ks, 0 ≤ k) : ∀ r, r ≤ ks.length → NB d i (ks.take r) (nfold d i (ks.take r))
  | 0, _ => ⟨fun _ => ⟨rfl, fun k hk => by simp at hk⟩, fun hb => absurd hb (by show ¬ (0 : Int) ≤ -1; decide)⟩
  | r + 1, hr => by
    rw [take_succ_at (show r < ks.length by omega), nfold_snoc]
    exact (nfold_nb d i ks h r (by omega)).snoc _ (h _ (getD_mem (by omega)))
theorem next_nb (l : List Swap) (d : Int → Option Int) (i : Nat) : NB d i (folL l i) (nextS l d i) := by
  have := nfold_nb d i (folL l i) (fun k hk => by
    obtain ⟨j, _, rfl, _⟩ := occ_mem.1 hk
    omega) (folL l i).length (Nat.le_refl _)
  rwa [List.take_length] at this
theorem fol_mem {l : List Swap} {i : Nat} {x : Int} : x ∈ folL l i ↔ ∃ j : Nat, j < l.length ∧ x = j ∧ giveK l j = takeK l i := occ_mem
/-- The next one is nearer. -/
theorem next_near {l : List Swap} {to j : Nat} {s : BS} (hB : BI l to j s) {k : Nat} {m : Int} (hk : s.d k = some m) (hm : 0 < m) :
    ∃ k' : Nat, nextS l s.d k = k' ∧ k' < l.length ∧ ∃ m', s.d k' = some m' ∧ m' < m := by
  obtain ⟨y, h1, h2, h3⟩ := hB.st _ _ hk hm
  obtain ⟨iy, hiy, rfl⟩ := hB.rg y ((hB.qd y).2 (by rw [h3]; rfl))
  have hy : (iy : Int) ∈ folL l k := fol_mem.2 ⟨iy, hiy, rfl, by simpa using h1.symm⟩
  have hN := next_nb l s.d k
  by_cases hb : nextS l s.d k < 0
  · have := (hN.no hb).2 _ hy h2
    rw [h3] at this
    cases this
  · obtain ⟨g1, g2, g3, g4⟩ := hN.yes (by omega)
    obtain ⟨k', hk', e, _⟩ := fol_mem.1 g1
    obtain ⟨m', hm'⟩ := Option.isSome_iff_exists.1 g3
    have := g4 _ hy h2 (by rw [h3]; rfl)
    rw [h3, hm'] at this
    simp at this
    rw [e] at hm'
    exact ⟨k', e, hk', m', hm', by omega⟩
def chainL (l : List Swap) (d : Int → Option Int) (i : Int) : Nat → Int → List Int
  | 0, _ => []
  | f + 1, k => if k = i then [] else k :: chainL l d i f (nextS l d k.toNat)
theorem chain_fuel {l : List Swap} {to j : Nat} {s : BS} (hB : BI l to j s) : ∀ (f : Nat) (k : Nat) (m : Nat), s.d k = some (m : Int) → m < f → chainL l s.d to f k = chainL l s.d to (m + 1) k
  | 0, k, m, _, h => by omega
  | f + 1, k, m, hk, h => by
    unfold chainL
    split
    · rfl
    · rename_i hki
      have hm : 0 < (m : Int) := by
        rcases Nat.eq_zero_or_pos m with h | h
        · subst h; exact absurd ((hB.z k).1 hk) hki
        · omega
      obtain ⟨k', e, _, m', hm', hlt⟩ := next_near hB hk hm
      rw [Int.toNat_natCast, e]
      have hm0 := (hB.bd _ _ hm').1
      obtain ⟨m2, rfl⟩ : ∃ m2 : Nat, m' = m2 := ⟨m'.toNat, by omega⟩
      rw [chain_fuel hB f k' m2 hm' (by omega)]
      cases m with
      | zero => omega
      | succ m => rw [chain_fuel hB (m + 1) k' m2 hm' (by omega)]
theorem chain_step {l : List Swap} {to j : Nat} {s : BS} (hB : BI l to j s) {k m : Nat} (hk : s.d k = some (m : Int)) (hki : (k : Int) ≠ to) : ∃ k' m' : Nat, nextS l s.d k = k' ∧ k' < l.length ∧ s.d k' = some (m' : Int) ∧ m' < m ∧ chainL l s.d to (m + 1) k = (k : Int) :: chainL l s.d to (m' + 1) k' := by
  have hm : 0 < (m : Int) := by
    rcases Nat.eq_zero_or_pos m with h | h
    · subst h; exact absurd ((hB.z k).1 hk) hki
    · omega
  obtain ⟨k', e, hk', m', hm', hlt⟩ := next_near hB hk hm
  have hm0 := (hB.bd _ _ hm').1
  obtain ⟨m2, rfl⟩ : ∃ m2 : Nat, m' = m2 := ⟨m'.toNat, by omega⟩
  refine ⟨k', m2, e, hk', hm', by omega, ?_⟩
  rw [chainL, if_neg hki, Int.toNat_natCast, e, chain_fuel hB m k' m2 hm' (by omega)]
/-- What is found from one swap on. -/
def cycF (l : List Swap) (i : Nat) : Option (List Int) := if nextS l (bfs l i).d i < 0 then none else some ((i : Int) :: chainL l (bfs l i).d i (l.length + 1) (nextS l (bfs l i).d i))
def cycL (l : List Swap) : Option (List Int) := (List.range l.length).findSome? (cycF l)
def cycW (l : List Swap) : List Int := (cycL l).getD []
def cycB (l : List Swap) : Bool := (cycL l).isSome
theorem range_drop {n k : Nat} (h : k < n) : (List.range n).drop k = k :: (List.range n).drop (k + 1) := by
  rw [drop_at (by simpa using h)]
  simp [h]
theorem find_drop {α : Type} (f : Nat → Option α) {n k : Nat} (h : k < n) : ((List.range n).drop k).findSome? f = match f k with
    | some x => some x
    | none => ((List.range n).drop (k + 1)).findSome? f := by
  rw [range_drop h, List.findSome?_cons]
  cases f k <;> rfl
end Go.Proofs.Ytnhadilbebgbjaa
