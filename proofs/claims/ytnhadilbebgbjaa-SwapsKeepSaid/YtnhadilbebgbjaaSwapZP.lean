/-
  Swaps: what is kept, in plain words: how many seats there are of a kind; what is left of the swaps.
-/
import Derived.Test.YtnhadilbebgbjaaSwapZM
namespace Go.Proofs.Ytnhadilbebgbjaa
set_option linter.unusedSimpArgs false
set_option linter.unusedVariables false
open Go Go.Ab
set_option maxRecDepth 100000
def plK (s : Seat) : List Int := [s.sec, s.group]
def owK (s : Seat) : List Int := [s.student, s.sec, s.group]
def cnt (f : Seat → List Int) (xs : List Seat) (key : List Int) : Int := (xs.countP fun s => decide (f s = key) : Nat)
theorem cnt_snoc (f : Seat → List Int) (xs : List Seat) (s : Seat) (key : List Int) : cnt f (xs ++ [s]) key = cnt f xs key + if f s = key then 1 else 0 := by
  unfold cnt
  rw [List.countP_append, List.countP_cons, List.countP_nil]
  by_cases h : f s = key
  · simp [h]
  · simp [h]
theorem cnt_le (f : Seat → List Int) (xs : List Seat) (key : List Int) : 0 ≤ cnt f xs key ∧ cnt f xs key ≤ xs.length := by
  unfold cnt
  have := List.countP_le_length (p := fun s => decide (f s = key)) (l := xs)
  omega
theorem cnt_none {f : Seat → List Int} {xs : List Seat} {key : List Int} (h : hasL (xs.map f) key = false) : cnt f xs key = 0 := by
  unfold cnt
  rw [List.countP_eq_zero.2]
  · rfl
  · intro s hs he
    have := hasL_iff.2 (List.mem_map.2 ⟨s, hs, of_decide_eq_true he⟩)
    rw [this] at h
    cases h
theorem cnt_perm (f : Seat → List Int) {a b : List Seat} (h : a.Perm b) (key : List Int) : cnt f a key = cnt f b key := by
  unfold cnt
  rw [h.countP_eq]
theorem countP_map' {α : Type} (p : α → Bool) : ∀ l : List α, l.countP p = (l.map p).countP id
  | [] => rfl
  | x :: r => by
    rw [List.countP_cons, List.map_cons, List.countP_cons, countP_map' p r]
    rfl
theorem cnt_same (f : Seat → List Int) {a b : List Seat} (hl : a.length = b.length) (key : List Int) (h : ∀ p, p < a.length → (f (a.getD p default) = key ↔ f (b.getD p default) = key)) : cnt f a key = cnt f b key := by
  unfold cnt
  rw [countP_map', countP_map' _ b]
  congr 2
  refine List.ext_getElem (by simpa using hl) fun p h1 h2 => ?_
  simp only [List.getElem_map]
  rw [List.length_map] at h1 h2
  have := h p h1
  rw [List.getD_eq_getElem?_getD, List.getD_eq_getElem?_getD, List.getElem?_eq_getElem h1, List.getElem?_eq_getElem h2] at this
  exact decide_eq_decide.2 this
theorem keep_place {taken : List Seat} {l : List Swap} {w : List Int} {x : List Seat} {r : List Swap} {z : List Nat × List Seat} (h : Done taken l w x r z) (key : List Int) : cnt plK taken key = cnt plK x key := by
  rw [cnt_perm plK h.perm]
  refine cnt_same plK h.hi.len.symm key fun p hp => ?_
  by_cases hd : p ∈ z.1
  · obtain ⟨t, _, _, _, h4⟩ := h.hi.bwd p hd
    rw [h4]
    exact Iff.rfl
  · rw [h.hi.rest p hd]
/-- The students whom the cycle concerns. -/
def conK (l : List Swap) (w : List Int) (k : Nat) : List (List Int) := (w.take k).map fun i => [(l.getD i.toNat default).student]
theorem conK_mem {l : List Swap} {w : List Int} {k : Nat} (hk : k < w.length) : [(swA l w k).student] ∈ conK l w w.length := by
  unfold conK
  rw [List.take_length, List.mem_map]
  exact ⟨_, getD_mem hk, rfl⟩
theorem gvr_sw {l : List Swap} {w : List Int} {k : Nat} (hk : k < w.length) : ∃ j, j < w.length ∧ gvr l w k = swA l w j := ⟨(k + 1) % w.length, Nat.mod_lt _ (by omega), rfl⟩
theorem keep_own {taken : List Seat} {l : List Swap} {w : List Int} {x : List Seat} {r : List Swap} {z : List Nat × List Seat} (h : Done taken l w x r z) {a b c : Int} (ha : hasL (conK l w w.length) [a] = false) : cnt owK taken [a, b, c] = cnt owK x [a, b, c] := by
  have hno : ∀ k, k < w.length → (swA l w k).student ≠ a := fun k hk e => by
    have := hasL_iff.2 (conK_mem (l := l) hk)
    rw [e, ha] at this
    cases this
  rw [cnt_perm owK h.perm]
  refine cnt_same owK h.hi.len.symm _ fun p hp => ?_
  by_cases hd : p ∈ z.1
  · obtain ⟨t, ht, _, h3, h4⟩ := h.hi.bwd p hd
    obtain ⟨k, hk, c', hc', rfl⟩ := mem_trs.1 ht
    obtain ⟨j, hj, hg⟩ := gvr_sw (l := l) hk
    have h5 := (seatB_iff.1 h3).1
    dsimp only at h5 h4
    rw [hg] at h5
    constructor
    · intro e
      unfold owK at e
      injection e with e
      exact absurd (h5.symm.trans e) (hno j hj)
    · intro e
      rw [h4] at e
      unfold owK at e
      injection e with e
      exact absurd e (hno k hk)
  · rw [h.hi.rest p hd]
theorem sub_len {α : Type} [DecidableEq α] : ∀ (a b : List α), a.Nodup → (∀ x ∈ a, x ∈ b) → a.length ≤ b.length
  | [], _, _, _ => Nat.zero_le _
  | x :: r, b, hn, h => by
    obtain ⟨h1, h2⟩ := List.nodup_cons.1 hn
    have hx : x ∈ b := h x (by simp)
    have := sub_len r (b.erase x) h2 fun y hy => (List.mem_erase_of_ne (fun e => h1 (by rw [← e]; exact hy))).2 (h y (by simp [hy]))
    rw [List.length_erase_of_mem hx] at this
    have := List.length_pos_of_mem hx
    rw [List.length_cons]
    omega
theorem isC_nodup {l : List Swap} {w : List Int} (h : isC l w = true) : w.Nodup := by
  refine List.pairwise_iff_getElem.2 fun i j hi hj hij e => ?_
  have := isC_all h hj
  unfold cyS at this
  rw [Bool.and_eq_true, Bool.and_eq_true, Bool.and_eq_true] at this
  have h3 := this.2.2.1
  rw [any_yes hj hij (by rw [List.getD_eq_getElem?_getD, List.getD_eq_getElem?_getD, List.getElem?_eq_getElem hi, List.getElem?_eq_getElem hj]; exact e)] at h3
  cases h3
theorem filter_two {α : Type} (p : α → Bool) : ∀ l : List α, (l.filter p).length + (l.filter fun x => !p x).length = l.length
  | [] => rfl
  | x :: r => by
    have := filter_two p r
    by_cases h : p x = true
    · rw [List.filter_cons_of_pos h, List.filter_cons_of_neg (by simp [h]), List.length_cons, List.length_cons]
      omega
    · rw [List.filter_cons_of_neg h, List.filter_cons_of_pos (by simpa using h), List.length_cons, List.length_cons]
      omega
theorem rest_len {l : List Swap} {w : List Int} (h : isC l w = true) : (restX l w).length + w.length = l.length := by
  unfold restX
  rw [List.length_map]
  have h1 := filter_two (keepX w) (List.range l.length)
  rw [List.length_range] at h1
  have hmem : ∀ i : Nat, keepX w i = false ↔ (i : Int) ∈ w := fun i => by
    unfold keepX
    rw [any_mem]
    simp
  have hw := isC_nodup h
  have hn : ((List.range l.length).filter fun x => !keepX w x).Nodup := List.nodup_range.filter _
  have h2 : w.length ≤ ((List.range l.length).filter fun x => !keepX w x).length := by
    have := sub_len w (((List.range l.length).filter fun x => !keepX w x).map fun (i : Nat) => (i : Int)) hw fun x hx => by
      obtain ⟨k, hk, e⟩ := List.getElem_of_mem hx
      obtain ⟨⟨x0, x1⟩, _⟩ := isC_at h hk
      have e2 : w.getD k default = x := by rw [List.getD_eq_getElem?_getD, List.getElem?_eq_getElem hk]; exact e
      rw [e2] at x0 x1
      have hxn : ((x.toNat : Nat) : Int) = x := by omega
      rw [List.mem_map]
      exact ⟨x.toNat, List.mem_filter.2 ⟨List.mem_range.2 (by omega), by rw [(hmem _).2 (by rw [hxn]; exact hx)]; rfl⟩, hxn⟩
    simpa using this
  have h3 : ((List.range l.length).filter fun x => !keepX w x).length ≤ w.length := by
    have := sub_len ((List.range l.length).filter fun x => !keepX w x) (w.map Int.toNat) hn fun i hi => by
      have := (List.mem_filter.1 hi).2
      have hi2 : (i : Int) ∈ w := (hmem i).1 (by simpa using this)
      exact List.mem_map.2 ⟨_, hi2, by simp⟩
    simpa using this
  omega
theorem chkW_iff : ∀ (l p : List Swap), chkW p l = true ↔ (∀ x ∈ l, swV x = true) ∧ (∀ x ∈ l, ∀ a ∈ p, dupS a x = false) ∧ l.Pairwise fun a b => dupS a b = false
  | [], p => by simp [chkW]
  | x :: r, p => by
    rw [chkW, Bool.and_eq_true, Bool.and_eq_true, chkW_iff r (p ++ [x]), List.pairwise_cons]
    constructor
    · rintro ⟨⟨h1, h2⟩, h3, h4, h5⟩
      have h2 : ∀ a ∈ p, dupS a x = false := fun a ha => by
        rw [Bool.not_eq_true', List.any_eq_false] at h2
        simpa using h2 a ha
      refine ⟨fun y hy => ?_, fun y hy a ha => ?_, fun y hy => h4 y hy x (by simp), h5⟩
      · rcases List.mem_cons.1 hy with rfl | hy
        · exact h1
        · exact h3 y hy
      · rcases List.mem_cons.1 hy with rfl | hy
        · exact h2 a ha
        · exact h4 y hy a (List.mem_append_left _ ha)
    · rintro ⟨h1, h2, h3, h4⟩
      refine ⟨⟨h1 x (by simp), ?_⟩, fun y hy => h1 y (by simp [hy]), fun y hy a ha => ?_, h4⟩
      · rw [Bool.not_eq_true', List.any_eq_false]
        intro a ha
        simp [h2 x (by simp) a ha]
      · rcases List.mem_append.1 ha with ha | ha
        · exact h2 y (by simp [hy]) a ha
        · rw [List.mem_singleton.1 ha]
          exact h3 y hy
theorem range_getD (l : List Swap) : (List.range l.length).map (fun i => l.getD i default) = l := by
  refine List.ext_getElem (by simp) fun i h1 h2 => ?_
  simp [h2]
theorem rest_chk {l : List Swap} (w : List Int) (h : chk30 l = 0) : chk30 (restX l w) = 0 := by
  have h : chkW [] l = true := by
    unfold chk30 at h
    split at h
    · assumption
    · cases h
  have hs : (restX l w).Sublist l := by
    have := (List.filter_sublist (p := keepX w) (l := List.range l.length)).map (fun i => l.getD i default)
    rwa [range_getD] at this
  obtain ⟨h1, _, h3⟩ := (chkW_iff l []).1 h
  have : chkW [] (restX l w) = true := (chkW_iff _ []).2 ⟨fun x hx => h1 x (hs.subset hx), fun x hx a ha => by simp at ha, h3.sublist hs⟩
  unfold chk30
  rw [if_pos this]
theorem ord_next {x : List Seat} (h : ordS x = true) {k : Nat} (hk : k + 1 < x.length) : ¬ ((x.getD (k + 1) default).sec < (x.getD k default).sec ∨ (x.getD k default).sec = (x.getD (k + 1) default).sec ∧ (x.getD (k + 1) default).student ≤ (x.getD k default).student) := by
  have := List.pairwise_iff_getElem.1 (ordS_srt h) k (k + 1) (by omega) hk (by omega)
  rw [seatC_neg] at this
  rw [List.getD_eq_getElem?_getD, List.getD_eq_getElem?_getD, List.getElem?_eq_getElem hk, List.getElem?_eq_getElem (show k < x.length by omega), Option.getD_some, Option.getD_some]
  omega
end Go.Proofs.Ytnhadilbebgbjaa
