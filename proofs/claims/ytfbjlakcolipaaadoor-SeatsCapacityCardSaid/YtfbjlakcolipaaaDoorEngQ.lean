/-
  The engine, part Q: contracts of functions that are handed memory of their own; the frame around them.
-/
import Derived.Test.YtfbjlakcolipaaaDoorEngP
namespace Go.Ab
set_option linter.unusedSimpArgs false
set_option linter.unusedVariables false

/-! ### names of blocks written anew -/
mutual
def ren (ρ : Ref → Ref) : AV → AV
  | .d x => .d x
  | .agg cs => .agg (renL ρ cs)
  | .tup cs => .tup (renL ρ cs)
  | .ifc t x => .ifc t (ren ρ x)
  | .fn f xs ys => .fn f (renL ρ xs) (renL ρ ys)
  | .ptr r g i off => .ptr (ρ r) g i off
  | .osl r g off n => .osl (ρ r) g off n
  | .mp r => .mp (ρ r)
  | .gd b x => .gd b (ren ρ x)
  | .junk => .junk
def renL (ρ : Ref → Ref) : List AV → List AV
  | [] => []
  | A :: r => ren ρ A :: renL ρ r
end
def renE (ρ : Ref → Ref) : List (Nat × AV) → List (Nat × AV)
  | [] => []
  | (t, A) :: r => (t, ren ρ A) :: renE ρ r
theorem renE_eq (ρ : Ref → Ref) : ∀ l : List (Nat × AV), renE ρ l = l.map fun p => (p.1, ren ρ p.2)
  | [] => rfl
  | (t, A) :: r => by simp [renE, renE_eq ρ r]
def renB (ρ : Ref → Ref) : Blk → Blk
  | .box e cs => .box e (renL ρ cs)
  | .vec e sz g n f => .vec e sz g n fun i => renL ρ (f i)
  | .loop b r env => .loop b r (renE ρ env)
  | .map sh has val => .map sh has fun k => ren ρ (val k)
  | .room e sz g n c f => .room e sz g n c fun i => renL ρ (f i)
def renO (ρ : Ref → Ref) : Option Blk → Option Blk
  | none => none
  | some B => some (renB ρ B)
def renM (ρ : Ref → Ref) : List (Option Blk) → List (Option Blk)
  | [] => []
  | b :: r => renO ρ b :: renM ρ r
theorem renL_eq (ρ : Ref → Ref) : ∀ l : List AV, renL ρ l = l.map (ren ρ)
  | [] => by simp [renL]
  | A :: r => by simp [renL, renL_eq ρ r]
theorem renM_eq (ρ : Ref → Ref) : ∀ l : List (Option Blk), renM ρ l = l.map (renO ρ)
  | [] => rfl
  | A :: r => by simp [renM, renM_eq ρ r]
theorem renL_up (ρ : Ref → Ref) (l : List D) : renL ρ (up l) = up l := by
  induction l with
  | nil => simp [up, renL]
  | cons x r ih => simp [up, renL, ren, ih]

/-- Where the callee's own blocks lie with the caller. -/
def nth : List Ref → Nat → Ref
  | [], _ => .bad
  | r :: _, 0 => r
  | _ :: s, j + 1 => nth s j
def inn (rs : List Ref) : Ref → Ref
  | .arg j => nth rs j
  | _ => .bad
def out (k : Nat) (rs : List Ref) : Ref → Ref
  | .arg j => nth rs j
  | .loc j => .loc (k + j)
  | .bad => .bad
def putAll : Mem → List Ref → List (Option Blk) → Mem
  | m, r :: rs, b :: bs => putAll (m.put r b) rs bs
  | m, _, _ => m
def app : List (Option Blk) → List (Option Blk) → List (Option Blk)
  | [], l => l
  | b :: r, l => b :: app r l
def back (m : Mem) (rs : List Ref) (m0 : Mem) : Mem :=
  match putAll m rs (renM (out (lenL m.loc) rs) m0.own) with
  | ⟨l, o⟩ => ⟨app l (renM (out (lenL m.loc) rs) m0.loc), o⟩
def memR (r : Ref) : List Ref → Bool
  | [] => false
  | s :: t => decide (s = r) || memR r t
def nodupR : List Ref → Bool
  | [] => true
  | r :: s => !memR r s && nodupR s
def Picks (m : Mem) (ρ : Ref → Ref) : List Ref → List (Option Blk) → Prop
  | [], [] => True
  | r :: rs, b :: bs => m.at r = some (renO ρ b) ∧ Picks m ρ rs bs
  | _, _ => False

section
variable {P : Program} {T : Tab} {w : World} {F : Nat → Prop} {σ σ' : Pls} {m : Mem}

theorem Vc.inn {ρ : Ref → Ref} : ∀ {B : AV} {v : Value}, Vc w F σ B v → ∀ {A : AV}, B = ren ρ A → Vc w F (fun r => σ (ρ r)) A v := by
  intro B v h
  induction h with
  | d h => intro A e; cases A <;> simp [ren] at e; subst e; exact .d h
  | agg hl h ih =>
    intro A e
    cases A <;> simp [ren] at e
    subst e
    rw [renL_eq] at hl
    refine .agg (by simpa using hl) fun j x u hx hu => ih j _ u (by rw [renL_eq, List.getElem?_map, hx]; rfl) hu rfl
  | tup hl h ih =>
    intro A e
    cases A <;> simp [ren] at e
    subst e
    rw [renL_eq] at hl
    refine .tup (by simpa using hl) fun j x u hx hu => ih j _ u (by rw [renL_eq, List.getElem?_map, hx]; rfl) hu rfl
  | ifc h ih =>
    intro A e
    cases A <;> simp [ren] at e
    obtain ⟨rfl, rfl⟩ := e
    exact .ifc (ih rfl)
  | fn h1 h2 h3 h4 i3 i4 =>
    intro A e
    cases A <;> simp [ren] at e
    obtain ⟨rfl, rfl, rfl⟩ := e
    rw [renL_eq] at h1 h2
    refine .fn (by simpa using h1) (by simpa using h2) (fun j x u hx hu => i3 j _ u (by rw [renL_eq, List.getElem?_map, hx]; rfl) hu rfl) (fun j x u hx hu => i4 j _ u (by rw [renL_eq, List.getElem?_map, hx]; rfl) hu rfl)
  | ptr hr h =>
    intro A e
    cases A <;> simp [ren] at e
    obtain ⟨rfl, rfl, rfl, rfl⟩ := e
    exact .ptr hr h
  | osl hr h =>
    intro A e
    cases A <;> simp [ren] at e
    obtain ⟨rfl, rfl, rfl, rfl⟩ := e
    exact .osl hr h
  | mp hr h =>
    intro A e
    cases A <;> simp [ren] at e
    subst e
    exact .mp hr h
  | gd h h' ih =>
    intro A e
    cases A <;> simp [ren] at e
    obtain ⟨rfl, rfl⟩ := e
    exact .gd (fun hb => ih hb rfl) h'
  | junk => intro A e; cases A <;> simp [ren] at e; exact .junk

theorem Vc.out {ρ : Ref → Ref} (hs : ∀ r q, σ r = some q → σ' (ρ r) = some q) : ∀ {A : AV} {v : Value}, Vc w F σ A v → Vc w F σ' (ren ρ A) v := by
  intro A v h
  induction h with
  | d h => simp only [ren]; exact .d h
  | agg hl h ih =>
    simp only [ren, renL_eq]
    refine .agg (by simpa using hl) fun j x u hx hu => ?_
    rw [List.getElem?_map, Option.map_eq_some_iff] at hx
    obtain ⟨y, hy, rfl⟩ := hx
    exact ih j y u hy hu
  | tup hl h ih =>
    simp only [ren, renL_eq]
    refine .tup (by simpa using hl) fun j x u hx hu => ?_
    rw [List.getElem?_map, Option.map_eq_some_iff] at hx
    obtain ⟨y, hy, rfl⟩ := hx
    exact ih j y u hy hu
  | ifc h ih => simp only [ren]; exact .ifc ih
  | fn h1 h2 h3 h4 i3 i4 =>
    simp only [ren, renL_eq]
    refine .fn (by simpa using h1) (by simpa using h2) (fun j x u hx hu => ?_) (fun j x u hx hu => ?_)
    · rw [List.getElem?_map, Option.map_eq_some_iff] at hx
      obtain ⟨y, hy, rfl⟩ := hx
      exact i3 j y u hy hu
    · rw [List.getElem?_map, Option.map_eq_some_iff] at hx
      obtain ⟨y, hy, rfl⟩ := hx
      exact i4 j y u hy hu
  | ptr hr h => simp only [ren]; exact .ptr (hs _ _ hr) h
  | osl hr h => simp only [ren]; exact .osl (hs _ _ hr) h
  | mp hr h => simp only [ren]; exact .mp (hs _ _ hr) h
  | gd h h' ih => simp only [ren]; exact .gd (fun hb => ih hb) h'
  | junk => simp only [ren]; exact .junk

theorem VecOk.inn {ρ : Ref → Ref} {e sz g n : Nat} {f : Nat → List AV} {pl : Pl} (h : VecOk w F σ e sz g n (fun i => renL ρ (f i)) pl) : VecOk w F (fun r => σ (ρ r)) e sz g n f pl := by
  obtain ⟨h1, h2, h3, h4, h5⟩ := h
  refine ⟨h1, h2, h3, fun i hi => by have : (renL ρ (f i)).length = sz := h4 i hi; rw [renL_eq] at this; simpa using this, fun b tot hl => ?_⟩
  obtain ⟨h6, h6', us, h7, h8, h9⟩ := h5 b tot hl
  refine ⟨h6, h6', us, h7, h8, fun i j A hi hA => ?_⟩
  obtain ⟨u, hu, hv, h1⟩ := h9 i j (ren ρ A) hi (by show (renL ρ (f i))[j]? = _; rw [renL_eq, List.getElem?_map, hA]; rfl)
  exact ⟨u, hu, hv.inn rfl, h1⟩
theorem BlkOk.inn {ρ : Ref → Ref} {B : Blk} {pl : Pl} (h : BlkOk w F σ (renB ρ B) pl) : BlkOk w F (fun r => σ (ρ r)) B pl := by
  cases B with
  | box e cs =>
    obtain ⟨h1, h2, b, h3, us, h4, h5, h6⟩ := h
    rw [renL_eq] at h2 h5
    refine ⟨h1, by simpa using h2, b, h3, us, h4, by simpa using h5, fun j A u hA hu => ?_⟩
    have := h6 j _ u (by rw [renL_eq, List.getElem?_map, hA]; rfl) hu
    exact ⟨this.1.inn rfl, this.2⟩
  | vec e sz g n f =>
    obtain ⟨h1, h2, h3, h4, h5⟩ := h
    refine ⟨h1, h2, h3, fun i hi => by have : (renL ρ (f i)).length = sz := h4 i hi; rw [renL_eq] at this; simpa using this, fun b tot hl => ?_⟩
    obtain ⟨h6, h6', us, h7, h8, h9⟩ := h5 b tot hl
    refine ⟨h6, h6', us, h7, h8, fun i j A hi hA => ?_⟩
    obtain ⟨u, hu, hv, h1⟩ := h9 i j (ren ρ A) hi (by show (renL ρ (f i))[j]? = _; rw [renL_eq, List.getElem?_map, hA]; rfl)
    exact ⟨u, hu, hv.inn rfl, h1⟩
  | loop b r env =>
    obtain ⟨h1, h2, h3, h4⟩ := h
    exact ⟨h1, h2, h3, fun j t A hj => (h4 j t (ren ρ A) (by rw [renE_eq, List.getElem?_map, hj]; rfl)).inn rfl⟩
  | map sh has val =>
    obtain ⟨h1, b, h2, es, clock, ks, h3, h4, h5, h6, h7⟩ := h
    exact ⟨h1, b, h2, es, clock, ks, h3, h4, h5, fun i k e hi he => ⟨(h6 i k e hi he).1, (h6 i k e hi he).2.1, (h6 i k e hi he).2.2.1, (h6 i k e hi he).2.2.2.inn rfl⟩, h7⟩
  | room e sz g n c f => exact ⟨VecOk.inn h.1, h.2⟩
theorem VecOk.out {ρ : Ref → Ref} (hs : ∀ r q, σ r = some q → σ' (ρ r) = some q) {e sz g n : Nat} {f : Nat → List AV} {pl : Pl} (h : VecOk w F σ e sz g n f pl) : VecOk w F σ' e sz g n (fun i => renL ρ (f i)) pl := by
  obtain ⟨h1, h2, h3, h4, h5⟩ := h
  refine ⟨h1, h2, h3, fun i hi => by simpa [renL_eq] using h4 i hi, fun b tot hl => ?_⟩
  obtain ⟨h6, h6', us, h7, h8, h9⟩ := h5 b tot hl
  refine ⟨h6, h6', us, h7, h8, fun i j A hi hA => ?_⟩
  replace hA : (renL ρ (f i))[j]? = some A := hA
  rw [renL_eq, List.getElem?_map, Option.map_eq_some_iff] at hA
  obtain ⟨A0, hA0, rfl⟩ := hA
  obtain ⟨u, hu, hv, h1⟩ := h9 i j A0 hi hA0
  exact ⟨u, hu, hv.out hs, h1⟩
theorem BlkOk.out {ρ : Ref → Ref} (hs : ∀ r q, σ r = some q → σ' (ρ r) = some q) {B : Blk} {pl : Pl} (h : BlkOk w F σ B pl) : BlkOk w F σ' (renB ρ B) pl := by
  cases B with
  | box e cs =>
    obtain ⟨h1, h2, b, h3, us, h4, h5, h6⟩ := h
    refine ⟨h1, by simpa [renL_eq] using h2, b, h3, us, h4, by simpa [renL_eq] using h5, fun j A u hA hu => ?_⟩
    rw [renL_eq, List.getElem?_map, Option.map_eq_some_iff] at hA
    obtain ⟨A0, hA0, rfl⟩ := hA
    exact ⟨(h6 j A0 u hA0 hu).1.out hs, (h6 j A0 u hA0 hu).2⟩
  | vec e sz g n f =>
    obtain ⟨h1, h2, h3, h4, h5⟩ := h
    refine ⟨h1, h2, h3, fun i hi => by simpa [renL_eq] using h4 i hi, fun b tot hl => ?_⟩
    obtain ⟨h6, h6', us, h7, h8, h9⟩ := h5 b tot hl
    refine ⟨h6, h6', us, h7, h8, fun i j A hi hA => ?_⟩
    replace hA : (renL ρ (f i))[j]? = some A := hA
    rw [renL_eq, List.getElem?_map, Option.map_eq_some_iff] at hA
    obtain ⟨A0, hA0, rfl⟩ := hA
    obtain ⟨u, hu, hv, h1⟩ := h9 i j A0 hi hA0
    exact ⟨u, hu, hv.out hs, h1⟩
  | loop b r env =>
    obtain ⟨h1, h2, h3, h4⟩ := h
    refine ⟨h1, h2, h3, fun j t A hj => ?_⟩
    rw [renE_eq, List.getElem?_map, Option.map_eq_some_iff] at hj
    obtain ⟨⟨t0, A0⟩, hj0, e⟩ := hj
    simp only [Prod.mk.injEq] at e
    obtain ⟨rfl, rfl⟩ := e
    exact (h4 j t0 A0 hj0).out hs
  | map sh has val =>
    obtain ⟨h1, b, h2, es, clock, ks, h3, h4, h5, h6, h7⟩ := h
    exact ⟨h1, b, h2, es, clock, ks, h3, h4, h5, fun i k e hi he => ⟨(h6 i k e hi he).1, (h6 i k e hi he).2.1, (h6 i k e hi he).2.2.1, (h6 i k e hi he).2.2.2.out hs⟩, h7⟩
  | room e sz g n c f => exact ⟨VecOk.out hs h.1, h.2⟩

theorem nth_mem : ∀ {rs : List Ref} {j : Nat}, j < rs.length → memR (nth rs j) rs = true
  | r :: s, 0, _ => by simp [nth, memR]
  | r :: s, j + 1, h => by simp only [nth, memR, nth_mem (rs := s) (j := j) (by simpa using h), Bool.or_true]
  | [], _, h => by simp at h
theorem mem_nth : ∀ {rs : List Ref} {r : Ref}, memR r rs = true → ∃ j, j < rs.length ∧ nth rs j = r
  | [], r, h => by simp [memR] at h
  | s :: t, r, h => by
    simp only [memR, Bool.or_eq_true, decide_eq_true_eq] at h
    rcases h with rfl | h
    · exact ⟨0, by simp, rfl⟩
    · obtain ⟨j, h1, h2⟩ := mem_nth h
      exact ⟨j + 1, by simpa using h1, h2⟩
theorem nth_inj : ∀ {rs : List Ref}, nodupR rs = true → ∀ {i j : Nat}, i < rs.length → j < rs.length → nth rs i = nth rs j → i = j
  | [], _, i, _, h, _, _ => by simp at h
  | r :: s, hn, i, j, hi, hj, e => by
    simp only [nodupR, Bool.and_eq_true, Bool.not_eq_true'] at hn
    cases i with
    | zero => cases j with
      | zero => rfl
      | succ j =>
        have := nth_mem (rs := s) (j := j) (by simpa using hj)
        simp only [nth] at e
        rw [← e, hn.1] at this
        cases this
    | succ i => cases j with
      | zero =>
        have := nth_mem (rs := s) (j := i) (by simpa using hi)
        simp only [nth] at e
        rw [e, hn.1] at this
        cases this
      | succ j => exact congrArg (· + 1) (nth_inj hn.2 (i := i) (j := j) (by simpa using hi) (by simpa using hj) (by simpa [nth] using e))
theorem nth_bad : ∀ {rs : List Ref} {j : Nat}, rs.length ≤ j → nth rs j = .bad
  | [], _, _ => rfl
  | _ :: _, 0, h => by simp at h
  | _ :: s, j + 1, h => nth_bad (rs := s) (by simpa using h)
theorem Picks.len {ρ : Ref → Ref} : ∀ {rs : List Ref} {bs : List (Option Blk)}, Picks m ρ rs bs → rs.length = bs.length
  | [], [], _ => rfl
  | _ :: _, _ :: _, h => by simp [Picks.len h.2]
  | [], _ :: _, h => h.elim
  | _ :: _, [], h => h.elim
theorem Picks.get {ρ : Ref → Ref} : ∀ {rs : List Ref} {bs : List (Option Blk)}, Picks m ρ rs bs → ∀ {j : Nat} {b}, bs[j]? = some b → m.at (nth rs j) = some (renO ρ b)
  | [], [], _, j, b, h => by simp at h
  | r :: rs, b :: bs, h, j, b', hb => by
    cases j with
    | zero => simp at hb; subst hb; exact h.1
    | succ j => exact Picks.get h.2 (by simpa using hb)
  | [], _ :: _, h, _, _, _ => h.elim
  | _ :: _, [], h, _, _, _ => h.elim
theorem putAll_other : ∀ {rs : List Ref} {bs : List (Option Blk)} {m : Mem} {r : Ref}, memR r rs = false → (putAll m rs bs).at r = m.at r
  | [], _, m, r, _ => by simp [putAll]
  | s :: t, [], m, r, _ => by simp [putAll]
  | s :: t, b :: bs, m, r, h => by
    simp only [memR, Bool.or_eq_false_iff, decide_eq_false_iff_not] at h
    simp only [putAll]
    rw [putAll_other h.2, put_other]
    exact fun e => h.1 e.symm
theorem put_dom {r s : Ref} (b : Option Blk) : (∃ x, m.at s = some x) → ∃ x, (m.put r b).at s = some x := fun ⟨x, hx⟩ => by
  by_cases e : s = r
  · subst e; exact ⟨b, put_self b hx⟩
  · exact ⟨x, by rw [put_other b e]; exact hx⟩
theorem putAll_at : ∀ {rs : List Ref} {bs : List (Option Blk)} {m : Mem}, nodupR rs = true → (∀ j, j < rs.length → ∃ x, m.at (nth rs j) = some x) → ∀ {j : Nat} {b}, j < rs.length → bs[j]? = some b → (putAll m rs bs).at (nth rs j) = some b
  | [], _, m, _, _, j, b, h, _ => by simp at h
  | s :: t, [], m, _, _, j, b, _, h => by simp at h
  | s :: t, c :: bs, m, hn, hd, j, b, hj, hb => by
    simp only [nodupR, Bool.and_eq_true, Bool.not_eq_true'] at hn
    simp only [putAll]
    cases j with
    | zero =>
      simp only [nth]
      simp only [List.getElem?_cons_zero, Option.some.injEq] at hb
      subst hb
      rw [putAll_other hn.1]
      obtain ⟨x, hx⟩ := hd 0 (by simp)
      exact put_self _ hx
    | succ j =>
      simp only [nth]
      exact putAll_at hn.2 (fun i hi => put_dom c (hd (i + 1) (by simpa using hi))) (by simpa using hj) (by simpa using hb)
theorem put_lens (r : Ref) (b : Option Blk) : (m.put r b).loc.length = m.loc.length ∧ (m.put r b).own.length = m.own.length := by
  cases r <;> simp [Mem.put, putAt_eq]
theorem putAll_lens : ∀ (rs : List Ref) (bs : List (Option Blk)) (m : Mem), (putAll m rs bs).loc.length = m.loc.length ∧ (putAll m rs bs).own.length = m.own.length
  | [], _, m => by simp [putAll]
  | s :: t, [], m => by simp [putAll]
  | s :: t, c :: bs, m => by
    simp only [putAll]
    have h1 := putAll_lens t bs (m.put s c)
    have h2 := put_lens (m := m) s c
    exact ⟨h1.1.trans h2.1, h1.2.trans h2.2⟩
theorem app_eq (l k : List (Option Blk)) : app l k = l ++ k := by
  induction l with
  | nil => rfl
  | cons b r ih => simp [app, ih]

theorem back_at {rs : List Ref} {m0 : Mem} (hn : nodupR rs = true) (hd : ∀ j, j < rs.length → ∃ x, m.at (nth rs j) = some x) (hl : m0.own.length = rs.length) :
    (∀ r, memR r rs = false → (∀ j, r ≠ .loc (m.loc.length + j)) → (back m rs m0).at r = m.at r) ∧
    (∀ r b, m0.at r = some b → (back m rs m0).at (out m.loc.length rs r) = some (renO (out m.loc.length rs) b)) ∧
    (∀ j, m0.loc[j]? = none → (back m rs m0).at (.loc (m.loc.length + j)) = none) := by
  have hlen := putAll_lens rs (renM (out (lenL m.loc) rs) m0.own) m
  have hb : back m rs m0 = ⟨(putAll m rs (renM (out m.loc.length rs) m0.own)).loc ++ renM (out m.loc.length rs) m0.loc, (putAll m rs (renM (out m.loc.length rs) m0.own)).own⟩ := by
    simp only [back, app_eq, lenL_eq]
  rw [lenL_eq] at hlen
  generalize hM : putAll m rs (renM (out m.loc.length rs) m0.own) = M at hb hlen
  have hin : ∀ r, (∀ j, r ≠ .loc (m.loc.length + j)) → (back m rs m0).at r = M.at r := fun r hr => by
    rw [hb]
    cases r with
    | loc j =>
      have : j < m.loc.length := by
        rcases Nat.lt_or_ge j m.loc.length with h | h
        · exact h
        · exact absurd (by congr 1; omega) (hr (j - m.loc.length))
      simp only [Mem.at]
      rw [List.getElem?_append_left (by omega)]
    | _ => rfl
  have hnl : ∀ j, j < rs.length → ∀ i, nth rs j ≠ .loc (m.loc.length + i) := fun j hj i e => by
    obtain ⟨x, hx⟩ := hd j hj
    rw [e] at hx
    simp [Mem.at] at hx
  refine ⟨fun r hr hl => ?_, fun r b hr => ?_, fun j hj => ?_⟩
  · rw [hin r hl, ← hM, putAll_other hr]
  · cases r with
    | loc j =>
      simp only [out, hb, Mem.at]
      rw [List.getElem?_append_right (by omega), hlen.1, Nat.add_sub_cancel_left, renM_eq, List.getElem?_map]
      simp only [Mem.at] at hr
      rw [hr]; rfl
    | arg j =>
      simp only [Mem.at] at hr
      have hj : j < rs.length := by rw [← hl]; exact (List.getElem?_eq_some_iff.1 hr).1
      simp only [out]
      rw [hin _ (hnl j hj), ← hM]
      exact putAll_at hn hd hj (by rw [renM_eq, List.getElem?_map, hr]; rfl)
    | bad => cases hr
  · rw [hb]
    simp only [Mem.at]
    rw [List.getElem?_append_right (by omega), hlen.1, Nat.add_sub_cancel_left, renM_eq, List.getElem?_map, hj]
    rfl

/-- THE FRAME: a contract over the blocks that the callee owns serves wherever they lie. -/
theorem CallVC.frame {f : FuncId} {as : List AV} {own : List (Option Blk)} {K0 K : AV → Mem → Prop} (h : CallVC P f as ⟨[], own⟩ K0) (rs : List Ref)
    (hn : nodupR rs = true) (hp : Picks m (inn rs) rs own)
    (hk : ∀ A m0, K0 A m0 → lenL m0.own = lenL own ∧ K (ren (out (lenL m.loc) rs) A) (back m rs m0)) : CallVC P f (renL (inn rs) as) m K := by
  refine ⟨h.can, fun σ F w vals hm ha => ?_⟩
  have hlen := hp.len
  let σ0 : Pls := fun r => σ (inn rs r)
  have hbad : σ .bad = none := (hm.dom .bad).2 rfl
  have h0loc : ∀ j, σ0 (.loc j) = none := fun j => hbad
  have h0 : ∀ r q, σ0 r = some q → ∃ j, r = .arg j ∧ j < rs.length ∧ σ (nth rs j) = some q := fun r q hq => by
    cases r with
    | loc j => rw [h0loc] at hq; cases hq
    | bad => rw [show σ0 .bad = none from hbad] at hq; cases hq
    | arg j =>
      refine ⟨j, rfl, ?_, hq⟩
      rcases Nat.lt_or_ge j rs.length with h' | h'
      · exact h'
      · have : σ0 (.arg j) = σ .bad := by simp only [σ0, inn, nth_bad h']
        rw [this, hbad] at hq; cases hq
  have hownat : ∀ j, j < rs.length → ∃ b, own[j]? = some b ∧ m.at (nth rs j) = some (renO (inn rs) b) := fun j hj => by
    have : own[j]? = some own[j] := List.getElem?_eq_getElem (by omega)
    exact ⟨_, this, hp.get this⟩
  have hm0 : MemOk ⟨[], own⟩ σ0 F w := by
    refine ⟨fun r => ?_, fun r q hq => ?_, fun r r' pl pl' b t t' e1 e2 e3 e4 => ?_, fun r pl b t e1 e2 => ?_, hm.fl, hm.gl⟩
    · cases r with
      | loc j => simp [h0loc, Mem.at]
      | bad => simp [show σ0 .bad = none from hbad, Mem.at]
      | arg j =>
        simp only [Mem.at]
        rcases Nat.lt_or_ge j rs.length with h' | h'
        · obtain ⟨b, e1, e2⟩ := hownat j h'
          have hne : σ0 (.arg j) ≠ none := fun e => by
            have := (hm.dom (nth rs j)).1 e
            rw [e2] at this; cases this
          rw [e1]
          constructor
          · intro e; exact absurd e hne
          · intro e; cases e
        · have e1 : σ0 (.arg j) = none := by simp only [σ0, inn, nth_bad h', hbad]
          rw [e1, List.getElem?_eq_none (by omega)]
          exact ⟨fun _ => rfl, fun _ => rfl⟩
    · obtain ⟨j, rfl, hj, hq'⟩ := h0 r q hq
      obtain ⟨b, e1, e2⟩ := hownat j hj
      obtain ⟨l1, l2⟩ := hm.lv _ _ hq'
      refine ⟨fun e => ?_, fun pl e => ?_⟩
      · have := l1 e
        rw [e2] at this
        cases b with
        | none => simpa [Mem.at] using e1
        | some B => simp [renO] at this
      · obtain ⟨B, g1, g2⟩ := l2 pl e
        rw [e2] at g1
        cases b with
        | none => simp [renO] at g1
        | some B0 =>
          simp only [renO, Option.some.injEq] at g1
          subst g1
          exact ⟨B0, e1, g2.inn⟩
    · obtain ⟨i, rfl, hi, e1'⟩ := h0 r _ e1
      obtain ⟨j, rfl, hj, e2'⟩ := h0 r' _ e2
      have := hm.inj _ _ _ _ _ _ _ e1' e2' e3 e4
      rw [nth_inj hn hi hj this]
    · obtain ⟨j, rfl, hj, e1'⟩ := h0 r _ e1
      exact hm.nf _ _ _ _ e1' e2
  have ha0 : ArgsOk w F σ0 as vals := by
    obtain ⟨a1, a2⟩ := ha
    rw [renL_eq] at a1
    exact ⟨by simpa using a1, fun j A u hA hu => (a2 j _ u (by rw [renL_eq, List.getElem?_map, hA]; rfl) hu).inn rfl⟩
  refine (h.run σ0 F w vals hm0 ha0).mono ?_
  rintro e w' ⟨v, A, m1, σ1, F', he, hK, hv, hm1, hs, hle⟩
  obtain ⟨hlo, hk⟩ := hk A m1 hK
  rw [lenL_eq, lenL_eq, ← hlen] at hlo
  rw [lenL_eq] at hk
  have hd : ∀ j, j < rs.length → ∃ x, m.at (nth rs j) = some x := fun j hj => by
    obtain ⟨b, _, e2⟩ := hownat j hj
    exact ⟨_, e2⟩
  obtain ⟨b1, b2, b3⟩ := back_at (m := m) (rs := rs) (m0 := m1) hn hd hlo
  let ρ := out m.loc.length rs
  -- the names that the callee's result speaks of, and those that it does not
  have hcase : ∀ r, (∃ s, ρ s = r ∧ m1.at s ≠ none) ∨ (memR r rs = false ∧ (∀ j, r ≠ .loc (m.loc.length + j))) ∨ (∃ j, r = .loc (m.loc.length + j) ∧ m1.loc[j]? = none) := fun r => by
    cases hr : memR r rs with
    | true =>
      obtain ⟨j, hj, rfl⟩ := mem_nth hr
      refine .inl ⟨.arg j, rfl, ?_⟩
      simp only [Mem.at]
      rw [List.getElem?_eq_getElem (by omega)]
      simp
    | false =>
      by_cases hl : ∃ j, r = .loc (m.loc.length + j)
      · obtain ⟨j, rfl⟩ := hl
        cases hj : m1.loc[j]? with
        | none => exact .inr (.inr ⟨j, rfl, hj⟩)
        | some b => exact .inl ⟨.loc j, rfl, by simp [Mem.at, hj]⟩
      · exact .inr (.inl ⟨rfl, fun j e => hl ⟨j, e⟩⟩)
  have hρinj : ∀ s s', m1.at s ≠ none → m1.at s' ≠ none → ρ s = ρ s' → s = s' := fun s s' h1 h2 e => by
    have key : ∀ j, m1.at (.arg j) ≠ none → j < rs.length := fun j h => by
      rw [← hlo]
      rcases Nat.lt_or_ge j m1.own.length with h' | h'
      · exact h'
      · exact absurd (by simp only [Mem.at]; exact List.getElem?_eq_none h') h
    have hnl : ∀ j, j < rs.length → ∀ i, nth rs j ≠ .loc (m.loc.length + i) := fun j hj i e => by
      obtain ⟨x, hx⟩ := hd j hj
      rw [e] at hx
      simp [Mem.at] at hx
    cases s with
    | bad => exact absurd rfl h1
    | loc i => cases s' with
      | bad => exact absurd rfl h2
      | loc j => simp [ρ, out] at e; rw [e]
      | arg j => exact absurd e.symm (hnl j (key j h2) i)
    | arg i => cases s' with
      | bad => exact absurd rfl h2
      | loc j => exact absurd e (hnl i (key i h1) j)
      | arg j => rw [nth_inj hn (key i h1) (key j h2) e]
  classical
  let σ' : Pls := fun r => if h : ∃ s, ρ s = r ∧ m1.at s ≠ none then σ1 (Classical.choose h) else σ r
  have hin : ∀ s, m1.at s ≠ none → σ' (ρ s) = σ1 s := fun s hs' => by
    have hex : ∃ s', ρ s' = ρ s ∧ m1.at s' ≠ none := ⟨s, rfl, hs'⟩
    simp only [σ', hex, dif_pos]
    obtain ⟨g1, g2⟩ := Classical.choose_spec hex
    rw [hρinj _ _ g2 hs' g1]
  have hlive : ∀ s q, σ1 s = some q → m1.at s ≠ none := fun s q h e => by
    rw [(hm1.dom s).2 e] at h; cases h
  have hin' : ∀ s q, σ1 s = some q → σ' (ρ s) = some q := fun s q hq => by rw [hin s (hlive s q hq), hq]
  have hold : ∀ r, ¬ (∃ s, ρ s = r ∧ m1.at s ≠ none) → σ' r = σ r := fun r h => by simp only [σ', h, dif_neg, not_false_eq_true]
  have hown0 : ∀ b, Owned σ0 b → Owned σ b := fun b ⟨r, pl, t, e1, e2⟩ => ⟨_, pl, t, e1, e2⟩
  have hown1 : ∀ b, Owned σ1 b → Owned σ0 b ∨ w.heap.size ≤ b := hs.own
  -- an old name that the callee was not handed
  have holdn : ∀ r q, ¬ (∃ s, ρ s = r ∧ m1.at s ≠ none) → σ r = some q → memR r rs = false ∧ (∀ j, r ≠ .loc (m.loc.length + j)) := fun r q hne hq => by
    rcases hcase r with h1 | h1 | ⟨j, rfl, hj⟩
    · exact absurd h1 hne
    · exact h1
    · have := (hm.dom (.loc (m.loc.length + j))).2 (by simp [Mem.at])
      rw [this] at hq; cases hq
  have hnown : ∀ r pl b t, memR r rs = false → σ r = some (some pl) → pl.loc = some (b, t) → ¬ Owned σ0 b := fun r pl b t hr e1 e2 ⟨s, pl', t', g1, g2⟩ => by
    obtain ⟨j, rfl, hj, g1'⟩ := h0 s _ g1
    have := hm.inj _ _ _ _ _ _ _ e1 g1' e2 g2
    rw [this, nth_mem hj] at hr
    cases hr
  have hsle : SLe σ σ' := fun r q hq => by
    by_cases hex : ∃ s, ρ s = r ∧ m1.at s ≠ none
    · obtain ⟨s, rfl, hs'⟩ := hex
      rw [hin s hs']
      cases s with
      | bad => exact absurd rfl hs'
      | loc j =>
        have := (hm.dom (.loc (m.loc.length + j))).2 (by simp [Mem.at])
        rw [show ρ (.loc j) = .loc (m.loc.length + j) from rfl, this] at hq
        cases hq
      | arg j => exact hle (.arg j) q hq
    · rw [hold r hex]
      exact ⟨q, hq, QLe.refl q⟩
  have hfkeep : ∀ b, F b → w'.heap[b]? = w.heap[b]? := fun b hb => hs.keep b (hm.fl b hb) fun ⟨r, pl, t, e1, e2⟩ => (hm.nf _ pl b t e1 e2).1 hb
  have hm' : MemOk (back m rs m1) σ' F' w' := by
    refine ⟨fun r => ?_, fun r q hq => ?_, fun r r' pl pl' b t t' e1 e2 e3 e4 => ?_, fun r pl b t e1 e2 => ?_, hm1.fl, hm1.gl⟩
    · rcases hcase r with ⟨s, rfl, hs'⟩ | h1 | ⟨j, rfl, hj⟩
      · rw [hin s hs', hm1.dom s]
        cases hb : m1.at s with
        | none => exact absurd hb hs'
        | some b => rw [b2 s b hb]; simp
      · rw [b1 r h1.1 h1.2, ← hm.dom r]
        have : ¬ (∃ s, ρ s = r ∧ m1.at s ≠ none) := fun ⟨s, e, hs'⟩ => by
          subst e
          cases s with
          | bad => exact absurd rfl hs'
          | loc j => exact h1.2 j rfl
          | arg j =>
            have : j < rs.length := by
              rw [← hlo]
              rcases Nat.lt_or_ge j m1.own.length with h' | h'
              · exact h'
              · exact absurd (by simp only [Mem.at]; exact List.getElem?_eq_none h') hs'
            have h2 := h1.1
            rw [show ρ (.arg j) = nth rs j from rfl, nth_mem this] at h2
            cases h2
        rw [hold r this]
      · rw [b3 j hj]
        have : ¬ (∃ s, ρ s = .loc (m.loc.length + j) ∧ m1.at s ≠ none) := fun ⟨s, e, hs'⟩ => by
          cases s with
          | bad => exact absurd rfl hs'
          | loc i =>
            simp [ρ, out] at e
            subst e
            exact hs' hj
          | arg i =>
            have hi : i < rs.length := by
              rw [← hlo]
              rcases Nat.lt_or_ge i m1.own.length with h' | h'
              · exact h'
              · exact absurd (by simp only [Mem.at]; exact List.getElem?_eq_none h') hs'
            obtain ⟨x, hx⟩ := hd i hi
            rw [show nth rs i = .loc (m.loc.length + j) from e] at hx
            simp [Mem.at] at hx
        rw [hold _ this, hm.dom]
        simp [Mem.at]
    · by_cases hex : ∃ s, ρ s = r ∧ m1.at s ≠ none
      · obtain ⟨s, rfl, hs'⟩ := hex
        rw [hin s hs'] at hq
        obtain ⟨l1, l2⟩ := hm1.lv s q hq
        refine ⟨fun e => by rw [b2 s none (l1 e)]; rfl, fun pl e => ?_⟩
        obtain ⟨B, g1, g2⟩ := l2 pl e
        exact ⟨renB ρ B, by rw [b2 s _ g1]; rfl, g2.out hin'⟩
      · rw [hold r hex] at hq
        obtain ⟨n1, n2⟩ := holdn r q hex hq
        obtain ⟨l1, l2⟩ := hm.lv r q hq
        rw [b1 r n1 n2]
        refine ⟨l1, fun pl e => ?_⟩
        obtain ⟨B, g1, g2⟩ := l2 pl e
        refine ⟨B, g1, g2.mono hs.fro hfkeep hsle fun b t hl => ?_⟩
        subst e
        exact hs.keep b (hm.nf r pl b t hq hl).2 (hnown r pl b t n1 hq hl)
    · have mixed : ∀ s r' pl pl' b t t', m1.at s ≠ none → ¬ (∃ s, ρ s = r' ∧ m1.at s ≠ none) → σ1 s = some (some pl) → σ r' = some (some pl') → pl.loc = some (b, t) → pl'.loc = some (b, t') → False := by
        intro s r' pl pl' b t t' hs' hne e1 e2 e3 e4
        obtain ⟨n1, n2⟩ := holdn r' _ hne e2
        rcases hown1 b ⟨s, pl, t, e1, e3⟩ with h1 | h1
        · exact hnown r' pl' b t' n1 e2 e4 h1
        · have := (hm.nf r' pl' b t' e2 e4).2; omega
      by_cases hex : ∃ s, ρ s = r ∧ m1.at s ≠ none
      · obtain ⟨s, rfl, hs'⟩ := hex
        rw [hin s hs'] at e1
        by_cases hex' : ∃ s, ρ s = r' ∧ m1.at s ≠ none
        · obtain ⟨s', rfl, hs2⟩ := hex'
          rw [hin s' hs2] at e2
          rw [hm1.inj _ _ _ _ _ _ _ e1 e2 e3 e4]
        · rw [hold r' hex'] at e2
          exact (mixed s r' pl pl' b t t' hs' hex' e1 e2 e3 e4).elim
      · rw [hold r hex] at e1
        by_cases hex' : ∃ s, ρ s = r' ∧ m1.at s ≠ none
        · obtain ⟨s', rfl, hs2⟩ := hex'
          rw [hin s' hs2] at e2
          exact (mixed s' r pl' pl b t' t hs2 hex e2 e1 e4 e3).elim
        · rw [hold r' hex'] at e2
          exact hm.inj _ _ _ _ _ _ _ e1 e2 e3 e4
    · by_cases hex : ∃ s, ρ s = r ∧ m1.at s ≠ none
      · obtain ⟨s, rfl, hs'⟩ := hex
        rw [hin s hs'] at e1
        exact hm1.nf s pl b t e1 e2
      · rw [hold r hex] at e1
        obtain ⟨n1, n2⟩ := holdn r _ hex e1
        obtain ⟨g1, g2⟩ := hm.nf r pl b t e1 e2
        refine ⟨fun hb => ?_, Nat.lt_of_lt_of_le g2 hs.size⟩
        rcases hs.fro' b hb with h1 | h1 | h1
        · exact g1 h1
        · exact hnown r pl b t n1 e1 e2 h1
        · omega
  refine ⟨v, ren ρ A, back m rs m1, σ', F', he, hk, hv.out hin', hm', ⟨hs.os, hs.tape, hs.output, hs.size, fun b hb hn' => hs.keep b hb fun h => hn' (hown0 b h), hs.fro, fun b hb => ?_, fun b ⟨r, pl, t, e1, e2⟩ => ?_⟩, hsle⟩
  · rcases hs.fro' b hb with h1 | h1 | h1
    · exact .inl h1
    · exact .inr (.inl (hown0 b h1))
    · exact .inr (.inr h1)
  · by_cases hex : ∃ s, ρ s = r ∧ m1.at s ≠ none
    · obtain ⟨s, rfl, hs'⟩ := hex
      rw [hin s hs'] at e1
      rcases hown1 b ⟨s, pl, t, e1, e2⟩ with h1 | h1
      · exact .inl (hown0 b h1)
      · exact .inr h1
    · rw [hold r hex] at e1
      exact .inl ⟨r, pl, t, e1, e2⟩
end
end Go.Ab
