/-
  Swaps: what Execute does to the seats, in plain words.
-/
import Derived.Test.YtnhadilbebgbjaaSwapVA
import Derived.Test.YtnhadilbebgbjaaSwapZD
namespace Go.Proofs.Ytnhadilbebgbjaa
set_option linter.unusedSimpArgs false
set_option linter.unusedVariables false
open Go Go.Ab
set_option maxRecDepth 100000
abbrev Trf := Int × Int × Int
def runT (taken : List Seat) : List Trf → List Nat × List Seat → Option (List Nat × List Seat)
  | [], z => some z
  | t :: r, z => match hand taken z t.1 t.2.1 t.2.2 with
    | none => none
    | some z' => runT taken r z'
def trs (l : List Swap) (w : List Int) (k : Nat) : List Trf := (partsI (gvr l w k).give).map fun c => ((gvr l w k).student, c, tkr l w k)
theorem runT_append (taken : List Seat) : ∀ (a b : List Trf) (z : List Nat × List Seat), runT taken (a ++ b) z = match runT taken a z with
    | none => none
    | some z' => runT taken b z'
  | [], b, z => rfl
  | t :: r, b, z => by
    rw [List.cons_append, runT, runT]
    cases hand taken z t.1 t.2.1 t.2.2 with
    | none => rfl
    | some z' => exact runT_append taken r b z'
theorem handL_run (taken : List Seat) (st to : Int) : ∀ (ps : List Int) (z : List Nat × List Seat), handL taken st to ps z = runT taken (ps.map fun c => (st, c, to)) z
  | [], z => rfl
  | c :: r, z => by
    rw [handL, List.map_cons, runT]
    cases hand taken z st c to with
    | none => rfl
    | some z' => exact handL_run taken st to r z'
theorem runX_run {taken : List Seat} {l : List Swap} {w : List Int} : ∀ (ks : List Nat) (_ : ∀ k ∈ ks, -1 ≤ (gvr l w k).give.lab) (z : List Nat × List Seat), runX taken l w ks z = runT taken (ks.flatMap (trs l w)) z
  | [], _, z => rfl
  | k :: r, h, z => by
    rw [runX, List.flatMap_cons, runT_append, stepX_parts (h k (by simp)), handL_run]
    rw [show (List.map (fun c => ((gvr l w k).student, c, tkr l w k)) (partsI (gvr l w k).give)) = trs l w k from rfl]
    cases runT taken (trs l w k) z with
    | none => rfl
    | some z' => exact runX_run r (fun k hk => h k (by simp [hk])) z'
/-- After these have been handed over. -/
structure HI (taken : List Seat) (ts : List Trf) (z : List Nat × List Seat) : Prop where
  len : z.2.length = taken.length
  fwd : ∀ t ∈ ts, ∃ p : Nat, p < taken.length ∧ p ∈ z.1 ∧ seatB t.1 t.2.1 (taken.getD p default) = true ∧ z.2.getD p default = { taken.getD p default with student := t.2.2 }
  bwd : ∀ p ∈ z.1, ∃ t ∈ ts, p < taken.length ∧ seatB t.1 t.2.1 (taken.getD p default) = true ∧ z.2.getD p default = { taken.getD p default with student := t.2.2 }
  rest : ∀ p, p ∉ z.1 → z.2.getD p default = taken.getD p default
theorem HI.step {taken : List Seat} {ts : List Trf} {z z' : List Nat × List Seat} (h : HI taken ts z) {t : Trf} (hh : hand taken z t.1 t.2.1 t.2.2 = some z') : HI taken (ts ++ [t]) z' := by
  unfold hand at hh
  split at hh <;> try (cases hh; done)
  rename_i h0
  split at hh <;> try (cases hh; done)
  rename_i hd
  injection hh with hh
  subst hh
  have hlt := (ix_lt (seatB t.1 t.2.1) taken 0 (by decide)).1
  have hf := ((ix_find (seatB t.1 t.2.1) taken 0).1 h0).1
  rw [Nat.sub_zero] at hf
  have hm := List.find?_some hf
  obtain ⟨p, hp⟩ : ∃ p : Nat, (ix (seatB t.1 t.2.1) taken 0).toNat = p := ⟨_, rfl⟩
  have hpl : p < taken.length := by omega
  have e0 : ((0 : Nat) : Int) = 0 := rfl
  rw [e0] at hm
  rw [hp] at hm hd ⊢
  have hpd : p ∉ z.1 := fun hc => hd (List.any_eq_true.2 ⟨p, hc, decide_eq_true rfl⟩)
  have hat := setSt_at z.2 p t.2.2 (by rw [h.len]; exact hpl)
  refine ⟨(setSt_len _ _ _).trans h.len, fun s hs => ?_, fun q hq => ?_, fun q hq => ?_⟩
  · rcases List.mem_append.1 hs with hs | hs
    · obtain ⟨q, h1, h2, h3, h4⟩ := h.fwd s hs
      have : q ≠ p := fun e => hpd (by rw [← e]; exact h2)
      exact ⟨q, h1, List.mem_cons_of_mem _ h2, h3, by rw [hat, if_neg this]; exact h4⟩
    · rw [List.mem_singleton.1 hs]
      exact ⟨p, hpl, List.mem_cons_self .., hm, by rw [hat, if_pos rfl, h.rest p hpd]⟩
  · rcases List.mem_cons.1 hq with rfl | hq
    · exact ⟨t, by simp, hpl, hm, by rw [hat, if_pos rfl, h.rest _ hpd]⟩
    · obtain ⟨s, h1, h2, h3, h4⟩ := h.bwd q hq
      have : q ≠ p := fun e => hpd (by rw [← e]; exact hq)
      exact ⟨s, List.mem_append_left _ h1, h2, h3, by rw [hat, if_neg this]; exact h4⟩
  · have h1 : q ≠ p := fun e => hq (by rw [e]; exact List.mem_cons_self ..)
    rw [hat, if_neg h1]
    exact h.rest q fun hc => hq (List.mem_cons_of_mem _ hc)
theorem HI.run {taken : List Seat} : ∀ (r ts : List Trf) {z z' : List Nat × List Seat}, HI taken ts z → runT taken r z = some z' → HI taken (ts ++ r) z'
  | [], ts, z, z', h, hr => by
    injection hr with hr
    subst hr
    rw [List.append_nil]
    exact h
  | t :: r, ts, z, z', h, hr => by
    rw [runT] at hr
    cases h1 : hand taken z t.1 t.2.1 t.2.2 with
    | none => rw [h1] at hr; cases hr
    | some z1 =>
      rw [h1] at hr
      have := HI.run r (ts ++ [t]) (h.step h1) hr
      rwa [List.append_assoc] at this
theorem HI.init (taken : List Seat) : HI taken [] ([], taken) where
  len := rfl
  fwd t ht := by simp at ht
  bwd p hp := by simp at hp
  rest p _ := rfl
def swA (l : List Swap) (w : List Int) (k : Nat) : Swap := l.getD (w.getD k default).toNat default
structure Done (taken : List Seat) (l : List Swap) (w : List Int) (x : List Seat) (r : List Swap) (z : List Nat × List Seat) : Prop where
  chk : chk30 l = 0
  cyc : isC l w = true
  ord : ordS taken = true
  hi : HI taken ((List.range w.length).flatMap (trs l w)) z
  perm : x.Perm z.2
  ordx : ordS x = true
  rest : r = restX l w
theorem gvr_lab {l : List Swap} {w : List Int} (h1 : chk30 l = 0) (h2 : isC l w = true) {k : Nat} (hk : k < w.length) : -1 ≤ (gvr l w k).give.lab := by
  obtain ⟨_, y0, y1⟩ := isC_at h2 hk
  exact (swV_lab (chk_valid h1 _ (getD_mem (by omega)))).1
theorem exe_done {taken : List Seat} {l : List Swap} {w : List Int} {x : List Seat} {r : List Swap} (h : exeX taken l w = some (x, r)) : ∃ z, Done taken l w x r z := by
  unfold exeX at h
  split at h
  · rename_i hc
    obtain ⟨h1, h2, h3⟩ := hc
    rw [runX_run _ (fun k hk => gvr_lab h1 h2 (List.mem_range.1 hk))] at h
    split at h
    · cases h
    · rename_i z hz
      split at h
      · rename_i ho
        injection h with h
        injection h with e1 e2
        refine ⟨z, h1, h2, h3, ?_, by rw [← e1]; exact srtB_perm _, by rw [← e1]; exact ho, e2.symm⟩
        have := HI.run _ [] (HI.init taken) hz
        rwa [List.nil_append] at this
      · cases h
  · cases h
theorem seatB_iff {st sec : Int} {x : Seat} : seatB st sec x = true ↔ x.student = st ∧ x.sec = sec := by
  unfold seatB
  rw [Bool.and_eq_true, decide_eq_true_eq, decide_eq_true_eq]
theorem ord_uniq {taken : List Seat} (h : ordS taken = true) {p q : Nat} (hp : p < taken.length) (hq : q < taken.length) (h1 : (taken.getD p default).student = (taken.getD q default).student) (h2 : (taken.getD p default).sec = (taken.getD q default).sec) : p = q := by
  have hs := ordS_srt h
  have key : ∀ a b : Nat, a < b → b < taken.length → (taken.getD a default).student = (taken.getD b default).student → (taken.getD a default).sec = (taken.getD b default).sec → False := fun a b hab hb e1 e2 => by
    have := List.pairwise_iff_getElem.1 hs a b (by omega) hb hab
    rw [seatC_neg] at this
    rw [List.getD_eq_getElem?_getD, List.getD_eq_getElem?_getD, List.getElem?_eq_getElem (by omega), List.getElem?_eq_getElem hb, Option.getD_some, Option.getD_some] at e1 e2
    omega
  rcases Nat.lt_trichotomy p q with h | h | h
  · exact (key p q h hq h1 h2).elim
  · exact h
  · exact (key q p h hp h1.symm h2.symm).elim
theorem fol_eq {l : List Swap} {x y : Int} (h : folB l x y = true) : (l.getD x.toNat default).take = (l.getD y.toNat default).give := by
  unfold folB at h
  rw [Bool.and_eq_true, decide_eq_true_eq, decide_eq_true_eq] at h
  exact bun_eq.2 h
theorem take_give {l : List Swap} {w : List Int} (h : isC l w = true) {k : Nat} (hk : k < w.length) : (swA l w k).take = (gvr l w k).give := by
  have := isC_all h hk
  unfold cyS at this
  rw [Bool.and_eq_true, Bool.and_eq_true, Bool.and_eq_true] at this
  exact fol_eq this.2.2.2
theorem mem_trs {l : List Swap} {w : List Int} {t : Trf} : t ∈ (List.range w.length).flatMap (trs l w) ↔ ∃ k, k < w.length ∧ ∃ c ∈ partsI (gvr l w k).give, t = ((gvr l w k).student, c, tkr l w k) := by
  simp only [List.mem_flatMap, List.mem_range, trs, List.mem_map]
  constructor
  · rintro ⟨k, hk, c, hc, rfl⟩
    exact ⟨k, hk, c, hc, rfl⟩
  · rintro ⟨k, hk, c, hc, rfl⟩
    exact ⟨k, hk, c, hc, rfl⟩
theorem any_at {x : List Seat} {z : List Seat} (hp : x.Perm z) (st sec : Int) : x.any (seatB st sec) = true ↔ ∃ p, p < z.length ∧ seatB st sec (z.getD p default) = true := by
  rw [List.any_eq_true]
  constructor
  · rintro ⟨s, hs, h⟩
    obtain ⟨p, hpl, e⟩ := List.getElem_of_mem (hp.mem_iff.1 hs)
    refine ⟨p, hpl, ?_⟩
    rw [List.getD_eq_getElem?_getD, List.getElem?_eq_getElem hpl, Option.getD_some, e]
    exact h
  · rintro ⟨p, hpl, h⟩
    exact ⟨_, hp.mem_iff.2 (getD_mem hpl), h⟩
theorem get_has {taken : List Seat} {l : List Swap} {w : List Int} {x : List Seat} {r : List Swap} {z : List Nat × List Seat} (h : Done taken l w x r z) {k : Nat} (hk : k < w.length) {n : Int} (hn : n ∈ partsI (swA l w k).take) : x.any (seatB (swA l w k).student n) = true := by
  rw [any_at h.perm]
  rw [take_give h.cyc hk] at hn
  obtain ⟨p, h1, h2, h3, h4⟩ := h.hi.fwd _ (mem_trs.2 ⟨k, hk, n, hn, rfl⟩)
  refine ⟨p, by rw [h.hi.len]; exact h1, ?_⟩
  rw [h4]
  exact seatB_iff.2 ⟨rfl, (seatB_iff.1 h3).2⟩
theorem get_back {taken : List Seat} {l : List Swap} {w : List Int} {x : List Seat} {r : List Swap} {z : List Nat × List Seat} (h : Done taken l w x r z) {k : Nat} (hk : k < w.length) {n : Int} (hn : n ∈ partsI (swA l w k).give) (hx : x.any (seatB (swA l w k).student n) = true) : ∃ k', k' < w.length ∧ (swA l w k').student = (swA l w k).student ∧ n ∈ partsI (swA l w k').take := by
  obtain ⟨q, hq, hs⟩ := (any_at h.perm _ _).1 hx
  rw [h.hi.len] at hq
  obtain ⟨s1, s2⟩ := seatB_iff.1 hs
  by_cases hd : q ∈ z.1
  · obtain ⟨t, ht, _, h3, h4⟩ := h.hi.bwd q hd
    obtain ⟨k', hk', c, hc, rfl⟩ := mem_trs.1 ht
    rw [h4] at s1 s2
    dsimp only at s1 s2 h3
    have hcn : c = n := by rw [← s2]; exact ((seatB_iff.1 h3).2).symm
    rw [hcn] at hc
    exact ⟨k', hk', s1, by rw [take_give h.cyc hk']; exact hc⟩
  · exfalso
    have hw : 0 < w.length := by omega
    have hj : (k + w.length - 1) % w.length < w.length := Nat.mod_lt _ hw
    have hg : gvr l w ((k + w.length - 1) % w.length) = swA l w k := by
      unfold gvr swA nxI
      have : ((k + w.length - 1) % w.length + 1) % w.length = k := by
        rw [Nat.mod_add_mod, show k + w.length - 1 + 1 = k + w.length by omega, Nat.add_mod_right, Nat.mod_eq_of_lt hk]
      rw [this]
    obtain ⟨p, h1, h2, h3, _⟩ := h.hi.fwd _ (mem_trs.2 ⟨_, hj, n, by rw [hg]; exact hn, rfl⟩)
    rw [hg] at h3
    obtain ⟨a1, a2⟩ := seatB_iff.1 h3
    dsimp only at a1 a2
    rw [h.hi.rest q hd] at s1 s2
    have := ord_uniq h.ord h1 hq (a1.trans s1.symm) (a2.trans s2.symm)
    exact hd (by rw [← this]; exact h2)
end Go.Proofs.Ytnhadilbebgbjaa
