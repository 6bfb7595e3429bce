/-
  Chapter 14: numbers and equivalent courses: the plain law.
-/
import Derived.Test.YtmlhghddfobmmaaGreatDoorBookP
namespace Go.Proofs.YtmlhghddfobmmaaGreatDoor
set_option linter.unusedSimpArgs false
set_option linter.unusedVariables false
open Go Go.Ab
set_option maxRecDepth 100000
set_option maxHeartbeats 0
theorem srtI_perm (l : List Int) : (srtI l).Perm l := List.mergeSort_perm l _
theorem srtI_srt (l : List Int) : (srtI l).Pairwise (· ≤ ·) := by
  have := List.pairwise_mergeSort (le := fun a b : Int => decide (a ≤ b)) (fun a b c h1 h2 => by simp at *; omega) (fun a b => by simp; omega) l
  exact this.imp fun h => by simpa using h
theorem srtI_congr {l m : List Int} (h : l.Perm m) : srtI l = srtI m :=
  List.Perm.eq_of_pairwise (le := fun a b => a ≤ b) (fun a b _ _ h1 h2 => Int.le_antisymm h1 h2) (srtI_srt l) (srtI_srt m) (((srtI_perm l).trans h).trans (srtI_perm m).symm)
theorem perm_of_both : ∀ {l m : List Int}, l.Nodup → m.Nodup → (∀ x, x ∈ l ↔ x ∈ m) → l.Perm m
  | [], m, _, _, h => by
    cases m with
    | nil => exact List.Perm.refl _
    | cons y r => exact absurd ((h y).2 (by simp)) (by simp)
  | x :: r, m, hl, hm, h => by
    have hx : x ∈ m := (h x).1 (by simp)
    rw [List.nodup_cons] at hl
    refine (List.Perm.cons x (perm_of_both hl.2 (hm.erase x) fun y => ?_)).trans (List.perm_cons_erase hx).symm
    rw [hm.mem_erase_iff]
    constructor
    · intro hy
      exact ⟨fun e => hl.1 (e ▸ hy), (h y).1 (by simp [hy])⟩
    · rintro ⟨h1, h2⟩
      rcases List.mem_cons.1 ((h y).2 h2) with e | e
      · exact absurd e h1
      · exact e
/-! ### numbers -/
structure NumI (many : Int) (l : List Int) : Prop where
  nd : l.Nodup
  rg : ∀ x ∈ l, 0 ≤ x ∧ x ≤ 4095
  ln : (l.length : Int) ≤ max many 0
theorem NumI.step {many : Int} {l : List Int} {f : Fct} (h : NumI many l) : NumI many (numStep many l f) := by
  unfold numStep
  split
  · exact h
  · split
    · rename_i h1 h2
      refine ⟨?_, fun x hx => ?_, ?_⟩
      · rw [List.nodup_append]
        refine ⟨h.nd, by simp, fun x hx y hy => ?_⟩
        simp at hy
        subst hy
        exact fun e => h2.2 (e ▸ hx)
      · rcases List.mem_append.1 hx with hx | hx
        · exact h.rg x hx
        · simp at hx
          subst hx
          have := h2.1
          simp only [numOk, bw, Bool.and_eq_true, decide_eq_true_eq] at this
          exact this.2.2
      · rw [len_snoc]
        omega
    · exact h
theorem NumI.steps {many : Int} : ∀ (fs : List Fct) {l : List Int}, NumI many l → NumI many (fs.foldl (numStep many) l)
  | [], _, h => h
  | f :: r, _, h => NumI.steps r h.step
theorem numsL_I (fs : List Fct) (many : Int) : NumI many (numsL fs many) := NumI.steps fs ⟨List.nodup_nil, fun x hx => (List.not_mem_nil hx).elim, by show ((0 : Nat) : Int) ≤ max many 0; omega⟩
theorem nums_I (w : Wor) (kn : Int) : NumI (atV w.fcts ⟨12, 0, 0⟩ 0 kn).1 (nums w kn) := by
  have h := numsL_I w.fcts (atV w.fcts ⟨12, 0, 0⟩ 0 kn).1
  have hp := srtI_perm (numsL w.fcts (atV w.fcts ⟨12, 0, 0⟩ 0 kn).1)
  exact ⟨hp.nodup_iff.2 h.nd, fun x hx => h.rg x (hp.mem_iff.1 hx), by unfold nums; rw [srtI_len]; exact h.ln⟩
theorem nums_lt (w : Wor) (kn : Int) : (nums w kn).Pairwise (· < ·) := by
  have h1 := srtI_srt (numsL w.fcts (atV w.fcts ⟨12, 0, 0⟩ 0 kn).1)
  have h2 := (nums_I w kn).nd
  exact h1.imp₂ (fun a b h3 h4 => by omega) h2
/-! ### equivalent courses -/
def edg (w : Wor) (t kn a c : Int) : Prop := atV w.fcts (pairK a c) t kn = (1, true)
theorem pairK_comm (a b : Int) : pairK a b = pairK b a := by
  unfold pairK
  rw [Int.min_comm, Int.max_comm]
theorem edg_symm {w : Wor} {t kn a c : Int} (h : edg w t kn a c) : edg w t kn c a := by
  unfold edg at *
  rw [pairK_comm]
  exact h
inductive Rch (w : Wor) (t kn : Int) (ns : List Int) (n : Int) : Int → Prop
  | refl : Rch w t kn ns n n
  | step {x y : Int} (h : Rch w t kn ns n x) (hy : y ∈ ns) (he : edg w t kn x y) : Rch w t kn ns n y
section
variable {w : Wor} {t kn : Int} {ns : List Int}
theorem Rch.trans {a b c : Int} (h : Rch w t kn ns a b) (k : Rch w t kn ns b c) : Rch w t kn ns a c := by
  induction k with
  | refl => exact h
  | step _ hy he ih => exact .step ih hy he
theorem Rch.mem {a b : Int} (ha : a ∈ ns) (h : Rch w t kn ns a b) : b ∈ ns := by
  cases h with
  | refl => exact ha
  | step _ hy _ => exact hy
theorem Rch.symm {a b : Int} (ha : a ∈ ns) (h : Rch w t kn ns a b) : Rch w t kn ns b a := by
  induction h with
  | refl => exact .refl
  | step h hy he ih => exact (Rch.step .refl (h.mem ha) (edg_symm he)).trans ih
theorem eqS_pre (a : Int) (z : List Int × List Red) (c : Int) : ∃ q, (eqS w t kn a z c).1 = z.1 ++ q := by
  unfold eqS
  split
  · exact ⟨[], by simp⟩
  · dsimp only
    split
    · exact ⟨[c], rfl⟩
    · exact ⟨[], by simp⟩
theorem eqF_pre (a : Int) : ∀ (l : List Int) (z : List Int × List Red), ∃ q, (l.foldl (eqS w t kn a) z).1 = z.1 ++ q
  | [], z => ⟨[], by simp⟩
  | c :: r, z => by
    obtain ⟨q1, h1⟩ := eqS_pre (w := w) (t := t) (kn := kn) a z c
    obtain ⟨q2, h2⟩ := eqF_pre a r (eqS w t kn a z c)
    exact ⟨q1 ++ q2, by rw [List.foldl_cons, h2, h1, List.append_assoc]⟩
theorem eqS_sound {n a : Int} {z : List Int × List Red} {c : Int} (hz : ∀ x ∈ z.1, Rch w t kn ns n x) (ha : Rch w t kn ns n a) (hc : c ∈ ns) : ∀ x ∈ (eqS w t kn a z c).1, Rch w t kn ns n x := by
  unfold eqS
  split
  · exact hz
  · dsimp only
    split
    · rename_i _ he
      intro x hx
      rcases List.mem_append.1 hx with hx | hx
      · exact hz x hx
      · simp at hx
        subst hx
        exact .step ha hc he
    · exact hz
theorem eqF_sound {n a : Int} (ha : Rch w t kn ns n a) : ∀ (l : List Int) (z : List Int × List Red), (∀ c ∈ l, c ∈ ns) → (∀ x ∈ z.1, Rch w t kn ns n x) → ∀ x ∈ (l.foldl (eqS w t kn a) z).1, Rch w t kn ns n x
  | [], z, _, hz => hz
  | c :: r, z, hl, hz => eqF_sound ha r _ (fun c hc => hl c (by simp [hc])) (eqS_sound hz ha (hl c (by simp)))
theorem eqF_all (a : Int) : ∀ (l : List Int) (z : List Int × List Red), ∀ c ∈ l, edg w t kn a c → c ∈ (l.foldl (eqS w t kn a) z).1
  | [], z, c, hc, _ => by cases hc
  | d :: r, z, c, hc, he => by
    rw [List.foldl_cons]
    rcases List.mem_cons.1 hc with rfl | hc
    · obtain ⟨q, hq⟩ := eqF_pre (w := w) (t := t) (kn := kn) a r (eqS w t kn a z c)
      rw [hq, List.mem_append]
      refine .inl ?_
      unfold eqS
      split
      · assumption
      · dsimp only
        rw [if_pos (show atV w.fcts (pairK a c) t kn = (1, true) from he)]
        simp
    · exact eqF_all a r _ c hc he
theorem getD_app {l q : List Int} {i : Nat} (h : i < l.length) : (l ++ q).getD i default = l.getD i default := by
  simp only [List.getD_eq_getElem?_getD]
  rw [List.getElem?_append_left h]
structure ItI (w : Wor) (t kn : Int) (ns : List Int) (n : Int) (j : Nat) (l : List Int) : Prop where
  so : ∀ x ∈ l, Rch w t kn ns n x
  al : ∀ i, i < j → i < l.length → ∀ c ∈ ns, edg w t kn (l.getD i default) c → c ∈ l
  st : n ∈ l
theorem ItI.iter {n : Int} {z : List Int × List Red} (h : ItI w t kn ns n 0 z.1) : ∀ j, ItI w t kn ns n j (iterE w t kn ns j z).1
  | 0 => h
  | j + 1 => by
    have ih := ItI.iter h j
    rw [iterE_succ, rndE]
    split
    · rename_i hj
      have ha := ih.so _ (getD_mem hj)
      obtain ⟨q, hq⟩ := eqF_pre (w := w) (t := t) (kn := kn) ((iterE w t kn ns j z).1.getD j default) ns (iterE w t kn ns j z)
      refine ⟨eqF_sound ha ns _ (fun _ h => h) ih.so, fun i hi hi2 c hc he => ?_, ?_⟩
      · show c ∈ (ns.foldl (eqS w t kn ((iterE w t kn ns j z).1.getD j default)) (iterE w t kn ns j z)).1
        by_cases e : i = j
        · subst e
          refine eqF_all _ ns _ c hc ?_
          have : (eqR w t kn ns (iterE w t kn ns i z) i).1 = _ := hq
          rw [this, getD_app hj] at he
          exact he
        · have : (eqR w t kn ns (iterE w t kn ns j z) j).1 = _ := hq
          rw [this, getD_app (by omega)] at he
          rw [hq, List.mem_append]
          exact .inl (ih.al i (by omega) (by omega) c hc he)
      · show n ∈ (ns.foldl (eqS w t kn ((iterE w t kn ns j z).1.getD j default)) (iterE w t kn ns j z)).1
        rw [hq, List.mem_append]
        exact .inl ih.st
    · exact ⟨ih.so, fun i hi hi2 => ih.al i (by omega) hi2, ih.st⟩
theorem iterE_mem (w : Wor) (n t kn : Int) (ns : List Int) (N : Nat) (hN : ns.length + 1 ≤ N) (x : Int) : x ∈ (iterE w t kn ns N (startE n)).1 ↔ Rch w t kn ns n x := by
  have h := ItI.iter (w := w) (t := t) (kn := kn) (ns := ns) (n := n) (z := startE n) ⟨fun x hx => by
    have : x = n := by simpa [startE] using hx
    subst this
    exact .refl, fun i hi => absurd hi (Nat.not_lt_zero i), by simp [startE]⟩ N
  have h1 := (EqI.iter (w := w) (t := t) (kn := kn) (EqI.start ns n) N).len
  generalize (iterE w t kn ns N (startE n)).1 = l at h h1 ⊢
  refine ⟨h.so x, fun hr => ?_⟩
  induction hr with
  | refl => exact h.st
  | step _ hy he ih =>
    obtain ⟨i, hi, e⟩ := List.getElem_of_mem ih
    refine h.al i (by omega) hi _ hy ?_
    rw [List.getD_eq_getElem?_getD, List.getElem?_eq_getElem hi, Option.getD_some, e]
    exact he
theorem equalZ_mem (w : Wor) (hl : w.fcts.length ≤ 100000) (n t kn x : Int) : x ∈ (equalZ w n t kn).1 ↔ Rch w t kn (nums w kn) n x := by
  unfold equalZ
  have h2 := nums_len w kn
  exact iterE_mem w n t kn (nums w kn) 200000 (by omega) x
end
theorem equalZ_nd (w : Wor) (n t kn : Int) : (equalZ w n t kn).1.Nodup := by
  unfold equalZ
  exact (EqI.iter (w := w) (t := t) (kn := kn) (EqI.start (nums w kn) n) 200000).nd
/-- The law. -/
theorem equals_plain (w : Wor) (hl : w.fcts.length ≤ 100000) (t kn a b : Int) (ha : a ∈ nums w kn) (hb : b ∈ nums w kn) :
    a ∈ equalL w a t kn ∧ b ∈ equalL w b t kn ∧ (b ∈ equalL w a t kn ↔ a ∈ equalL w b t kn) ∧ (b ∈ equalL w a t kn → equalL w a t kn = equalL w b t kn) ∧ (b ∉ equalL w a t kn → ∀ x ∈ equalL w a t kn, x ∉ equalL w b t kn) := by
  have ra := (nums_I w kn).rg a ha
  have rb := (nums_I w kn).rg b hb
  unfold equalL okEq
  have ea : bw a 0 4095 = true := by simp [bw, ra]
  have eb : bw b 0 4095 = true := by simp [bw, rb]
  rw [ea, eb, Bool.true_and]
  cases ht : bw t 0 1023
  · simp only [Bool.false_eq_true, if_false, List.mem_singleton, true_and]
    exact ⟨⟨Eq.symm, Eq.symm⟩, fun h => by rw [h], fun h x hx e => h (by rw [← hx, ← e])⟩
  · simp only [if_true]
    have ma : ∀ x, x ∈ srtI (equalZ w a t kn).1 ↔ Rch w t kn (nums w kn) a x := fun x => (srtI_perm _).mem_iff.trans (equalZ_mem w hl a t kn x)
    have mb : ∀ x, x ∈ srtI (equalZ w b t kn).1 ↔ Rch w t kn (nums w kn) b x := fun x => (srtI_perm _).mem_iff.trans (equalZ_mem w hl b t kn x)
    refine ⟨(ma a).2 .refl, (mb b).2 .refl, ?_, fun h => ?_, fun h x hx hx2 => ?_⟩
    · rw [ma, mb]
      exact ⟨fun h => h.symm ha, fun h => h.symm hb⟩
    · refine srtI_congr (perm_of_both (equalZ_nd w a t kn) (equalZ_nd w b t kn) fun x => ?_)
      rw [equalZ_mem w hl, equalZ_mem w hl]
      have hab := (ma b).1 h
      exact ⟨fun h => (hab.symm ha).trans h, fun h => hab.trans h⟩
    · exact h ((ma b).2 (((ma x).1 hx).trans (((mb x).1 hx2).symm hb)))
end Go.Proofs.YtmlhghddfobmmaaGreatDoor
