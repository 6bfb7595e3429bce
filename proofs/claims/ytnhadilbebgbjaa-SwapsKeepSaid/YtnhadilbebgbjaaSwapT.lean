/-
  slices.SortFunc at []Seat by compareSeats, by the shelf's contract, in the engine's words.
-/
import Derived.Test.YtnhadilbebgbjaaSwapS
import Derived.Test.YtnhadilbebgbjaaShelf
namespace Go.Proofs.Ytnhadilbebgbjaa
set_option linter.unusedSimpArgs false
set_option linter.unusedVariables false
open Go Go.Ab Go.RowKit Go.Sort Go.Lib Go.Proofs
section
variable {w w' : World} {F : Nat → Prop} {σ : Pls}
/-- One block of our own has been written; the rest stands. -/
theorem mem1 {B B' : Blk} {pl : Pl} {b tot : Nat} (hm : MemOk ⟨[], [some B]⟩ σ F w) (hs : σ (.arg 0) = some (some pl)) (hl : pl.loc = some (b, tot)) (hg : w.grownBy w' (some b)) (hdr : w.drawn ≤ w'.drawn) (hb : BlkOk w' F σ B' pl) :
    MemOk ⟨[], [some B']⟩ σ F w' ∧ Step σ F w σ F w' := by
  have hnf := hm.nf _ _ _ _ hs hl
  have hat : ∀ r, ((⟨[], [some B']⟩ : Mem).at r = none ↔ (⟨[], [some B]⟩ : Mem).at r = none) := fun r => by
    cases r with
    | loc j => simp [Mem.at]
    | arg j => cases j <;> simp [Mem.at]
    | bad => simp [Mem.at]
  have only : ∀ r q, σ r = some q → r = .arg 0 := fun r q hq => by
    have h1 : (⟨[], [some B]⟩ : Mem).at r ≠ none := fun e => by rw [(hm.dom r).2 e] at hq; cases hq
    cases r with
    | loc j => simp [Mem.at] at h1
    | arg j => cases j with
      | zero => rfl
      | succ j => simp [Mem.at] at h1
    | bad => simp [Mem.at] at h1
  refine ⟨⟨fun r => by rw [hm.dom r, hat r], fun r q hq => ?_, hm.inj, fun r p b' t e1 e2 => ⟨(hm.nf r p b' t e1 e2).1, Nat.lt_of_lt_of_le (hm.nf r p b' t e1 e2).2 hg.size⟩, fun b' hb' => Nat.lt_of_lt_of_le (hm.fl b' hb') hg.size, hm.gl.mono (fun _ h => h) fun b' hb' => hg.block b' (hm.fl b' hb') fun e => by injection e with e; subst e; exact hnf.1 hb'⟩,
    ⟨hg.os, hg.tape, hg.output, hdr, hg.size, fun b' hb' hn => hg.block b' hb' fun e => hn ⟨.arg 0, pl, tot, hs, by injection e with e; rw [hl, e]⟩, fun _ h => h, fun _ h => .inl h, fun _ h => .inl h⟩⟩
  have := only r q hq
  subst this
  rw [hs] at hq
  injection hq with hq
  subst hq
  exact ⟨fun e => (by cases e), fun pl' e => by injection e with e; subst e; exact ⟨B', rfl, hb⟩⟩

end
/-- A seat's three cells. -/
def encS (b : Seat) : List Value := [.int .i64 b.student, .int .i64 b.sec, .int .i64 b.group]
theorem ltS (x y : Seat) : ltOf seatC x y = decide (seatC x y < 0) := by
  unfold ltOf
  rfl
theorem swoS : SWO (ltOf seatC) where
  irrefl x := by rw [ltS]; simp [seatC_neg]
  trans x y z h1 h2 := by
    rw [ltS, decide_eq_true_eq, seatC_neg] at *
    omega
  ntrans x y z h1 h2 := by
    rw [ltS, decide_eq_false_iff_not, seatC_neg] at *
    omega
/-- What a function that only computes leaves of the world. -/
theorem grew_grow {F F' : Nat → Prop} {w w' : World} (h : Grew F w F' w') : ∃ q os', w' = grow (w.drewN q) os' := by
  refine ⟨w'.drawn - w.drawn, w'.heap.extract w.heap.size w'.heap.size, ?_⟩
  have hh : w'.heap = w.heap ++ w'.heap.extract w.heap.size w'.heap.size := by
    apply Array.ext_getElem?
    intro i
    by_cases hi : i < w.heap.size
    · rw [Array.getElem?_append_left hi]
      exact h.keep i hi
    · rw [Array.getElem?_append_right (by omega), Array.getElem?_extract]
      by_cases hi2 : i < w'.heap.size
      · rw [if_pos (by omega)]
        congr 1
        omega
      · rw [if_neg (by omega), Array.getElem?_eq_none (by omega)]
  have hd := h.drawn
  have h1 := h.os
  have h2 := h.tape
  have h3 := h.output
  obtain ⟨heap, tape, drawn, os, output⟩ := w
  obtain ⟨heap', tape', drawn', os', output'⟩ := w'
  simp only at h1 h2 h3 hd hh
  subst h1; subst h2; subst h3
  simp only [grow, World.drewN, World.mk.injEq, and_true, true_and]
  exact ⟨hh, by omega⟩
theorem closureS (x y : Seat) (W : World) : Calls Try.prog 46 #[.agg (encS x).toArray, .agg (encS y).toArray] W fun e w' => e = .returned (.int .i64 (seatC x y)) ∧ ∃ q os', w' = grow (W.drewN q) os' := by
  have hrd : ∀ z : Seat, Rd W (fun b => b < W.heap.size) (.agg (eSeat z)) (.agg (encS z).toArray) := fun z => .agg (us := encS z) rfl fun j a u ha hu => by
    match j with
    | 0 => simp [eSeat, encS] at ha hu; subst ha; subst hu; exact .int
    | 1 => simp [eSeat, encS] at ha hu; subst ha; subst hu; exact .int
    | 2 => simp [eSeat, encS] at ha hu; subst ha; subst hu; exact .int
    | j + 3 => simp [eSeat] at ha
  refine ((compare_ok x y).2 (fun b => b < W.heap.size) W [.agg (encS x).toArray, .agg (encS y).toArray] (fun b hb => hb) (fun g v h => by cases h) rfl fun j a u ha hu => ?_).mono ?_
  · match j with
    | 0 => simp at ha hu; subst ha; subst hu; exact hrd x
    | 1 => simp at ha hu; subst ha; subst hu; exact hrd y
    | j + 2 => simp at ha
  · rintro e w' ⟨v, F', rfl, hg, hv⟩
    have := hv (fun _ => none)
    have h := this.int
    subst h
    exact ⟨rfl, grew_grow hg⟩
theorem cmpLaysS (blk off size : Nat) (w : World) : CmpLays Try.prog 46 #[] encS 3 seatC blk off size w :=
  fun _ _ _ _ x y => closureS x y _
theorem heap_sortedK {w : World} {g n : Nat} {os : Array Obj} {cur : Array Value} {e : TypeId} {fr : Nat × Nat} (d : Array Value) (hb : w.heap[g]? = some (.cells cur e fr)) :
    (grow (putRow id (Sort.ahead w n) g 0 d) os).heap[g]? = some (.cells (putCells id 0 d cur) e fr) := by
  have hg : g < w.heap.size := (Array.getElem?_eq_some_iff.1 hb).1
  rw [heap_grow_old _ _ (by simpa using hg)]
  simp [putRow, mapBlock, Sort.ahead, Array.getElem?_modify, hb, onCells]
theorem grownBy_sortedK {w : World} {g n : Nat} {os : Array Obj} (d : Array Value) : w.grownBy (grow (putRow id (Sort.ahead w n) g 0 d) os) (some g) := by
  refine ⟨rfl, rfl, rfl, by simp, fun k hk hne => ?_⟩
  rw [heap_grow_old _ _ (by simpa using hk)]
  have : g ≠ k := fun e => hne (by rw [e])
  simp [putRow, mapBlock, Sort.ahead, Array.getElem?_modify, this]
theorem sortSeat_ok (zs : List Seat) (hz : zs.length ≤ 1000000) (g e : Nat) : CallVC Try.prog 47 [.osl (.arg 0) g 0 zs.length, .d (.fn (.func 46) [] [])] ⟨[], [some (.vec e 3 g zs.length (rowsS zs))]⟩
    (Ret (fun ts : List Seat => ([], ⟨[], [some (.vec e 3 g zs.length (rowsS ts))]⟩)) fun ts => ts.Perm zs ∧ ts.Pairwise fun a b => seatC b a < 0 → False) := by
  refine ⟨⟨_, Try.func47, rfl, rfl⟩, fun σ F w vals hm ha => ?_⟩
  obtain ⟨v, fv, rfl⟩ : ∃ v fv, vals = [v, fv] := by
    match vals, ha.1 with
    | [v, u], _ => exact ⟨v, u, rfl⟩
  have hv := ha.2 0 _ v rfl rfl
  have hf := ha.2 1 _ fv rfl rfl
  obtain rfl : fv = .func (.func 46) #[] #[] := by
    cases hf with
    | d hf => cases hf with
      | @fn _ _ _ us vs l1 l2 _ _ =>
        have e1 : us = [] := by simpa using l1
        have e2 : vs = [] := by simpa using l2
        subst e1; subst e2
        rfl
  obtain ⟨pl, hr, hok, _, hat⟩ := osl_row hm hv rfl
  obtain ⟨h1, h2, h3, h4, h5⟩ := hok
  have hsl := hat h1
  unfold SlAt at hsl
  split at hsl
  · rename_i hl
    obtain ⟨hz0, _, rfl⟩ := hsl
    have := AnyF.slices_SortFunc_none Try.sortSeat none 0 (.func (.func 46) #[] #[]) w
    refine Calls.mono (show Calls Try.prog 47 _ _ _ from this) ?_
    rintro _ _ ⟨rfl, rfl⟩
    have hzs : zs = [] := List.length_eq_zero_iff.1 hz0
    subst hzs
    exact ⟨_, _, _, σ, F, rfl, ⟨[], ⟨List.Perm.refl _, List.Pairwise.nil⟩, rfl, rfl⟩, .tup (us := []) rfl (fun j x u h => by simp at h), hm, Step.refl σ F _, SLe.refl σ⟩
  · rename_i b tot hl
    obtain ⟨A, cap, rfl, hnc, hoc, hA⟩ := hsl
    obtain ⟨hnt, htm, us, hb, hus, hc⟩ := h5 b tot hl
    have := hA (.inr rfl)
    subst this
    have hcap : cap = tot := by omega
    subst hcap
    rw [Nat.zero_mul]
    have hbl : b < w.heap.size := (Array.getElem?_eq_some_iff.1 hb).1
    have hcell : ∀ i j, i < zs.length → j < 3 → us[i * 3 + j]? = some ((encS (zs.getD i default))[j]!) := fun i j hi hj => by
      rcases show j = 0 ∨ j = 1 ∨ j = 2 by omega with rfl | rfl | rfl
      · obtain ⟨u, hu, hv, _⟩ := hc i 0 (.d (.int .i64 (zs.getD i default).student)) hi rfl
        rw [hu, hv.int]; rfl
      · obtain ⟨u, hu, hv, _⟩ := hc i 1 (.d (.int .i64 (zs.getD i default).sec)) hi rfl
        rw [hu, hv.int]; rfl
      · obtain ⟨u, hu, hv, _⟩ := hc i 2 (.d (.int .i64 (zs.getD i default).group)) hi rfl
        rw [hu, hv.int]; rfl
    have hH : HoldsK encS 3 w b 0 zs.toArray := by
      intro j hj
      rw [size_flatK] at hj
      have hj' : j < zs.length * 3 := by simpa using hj
      refine ⟨?_, by simp [World.frozen?, hb]⟩
      have hc2 := hcell (j / 3) (j % 3) (by omega) (by omega)
      rw [show j / 3 * 3 + j % 3 = j by omega] at hc2
      have e1 : (flatK encS 3 zs.toArray)[j]! = (encS (zs.getD (j / 3) default))[j % 3]! := by
        rw [get_flatK _ _ _ _ hj]
        have : zs.toArray[j / 3]! = zs.getD (j / 3) default := by
          rw [getElem!_pos _ _ (by simp; omega)]
          simp [List.getD_eq_getElem?_getD, show j / 3 < zs.length by omega]
        rw [this]
      rw [e1]
      simp only [World.cell?, hb, Nat.zero_add, Option.isSome_none, Bool.false_eq_true, if_false]
      simpa using hc2
    have eg : ∀ args w, (callFunc 46 args).run Try.prog w = .ok (.enter 46 args) w := enters_of Try.func46 (by kernel_rfl) rfl
    have hti : tiIs Try.prog 51 _ = true := hT 51 _ rfl
    have hcon := AnyQ.slices_SortFunc Try.sortSeat 3 (fun w => Go.Ab.run_isAgg hti w) (fun w => Go.Ab.run_sizeOf hti w) encS (fun _ => rfl) (fun x v hv => by simp [encS] at hv; rcases hv with rfl | rfl | rfl <;> rfl) seatC swoS 46 #[] b 0 cap zs.toArray w eg (cmpLaysS b 0 _ w) hH hbl (by simp; omega)
    have hsz : zs.toArray.size = zs.length := by simp
    rw [hsz] at hcon
    refine Calls.mono (show Calls Try.prog 47 _ _ _ from hcon) ?_
    rintro _ w' ⟨rfl, d', n, os, hp, hs, rfl⟩
    obtain ⟨p1, _, p3⟩ := hp
    rw [hsz] at p1
    have hlen : d'.toList.length = zs.length := by rw [Array.length_toList, p1]
    have hperm : d'.toList.Perm zs := by
      have e1 : d'.extract 0 zs.length = d' := by rw [← p1]; exact Array.extract_size
      have e2 : zs.toArray.extract 0 zs.length = zs.toArray := by rw [← hsz]; exact Array.extract_size
      rw [e1, e2] at p3
      simpa using p3
    have hsorted : d'.toList.Pairwise fun a b => seatC b a < 0 → False := by
      rw [List.pairwise_iff_getElem]
      intro i j hi hj hij
      have hi' : i < d'.size := by simpa using hi
      have hj' : j < d'.size := by simpa using hj
      have := hs i j (Nat.zero_le _) hij (by omega)
      rw [ltS, getElem!_pos d' j hj', getElem!_pos d' i hi', decide_eq_false_iff_not] at this
      simp only [Array.getElem_toList]
      omega
    have hnew := heap_sortedK (n := n) (os := os) (flatK encS 3 d') hb
    have hgr := grownBy_sortedK (w := w) (g := b) (n := n) (os := os) (flatK encS 3 d')
    have hdr : w.drawn ≤ (grow (putRow id (Sort.ahead w n) b 0 (flatK encS 3 d')) os).drawn := by
      show w.drawn ≤ (putRow id (Sort.ahead w n) b 0 (flatK encS 3 d')).drawn
      simp [putRow, mapBlock, Sort.ahead]
    have hB : BlkOk (grow (putRow id (Sort.ahead w n) b 0 (flatK encS 3 d')) os) F σ (.vec e 3 g d'.toList.length (rowsS d'.toList)) pl := by
      refine ⟨h1, h2, fun h => (by rw [hl] at h; cases h), fun i _ => rfl, fun b' t' hl' => ?_⟩
      rw [hl] at hl'
      injection hl' with hl'
      injection hl' with e1 e2
      subst e1; subst e2
      refine ⟨by omega, htm, (putCells id 0 (flatK encS 3 d') us.toArray).toList, by simpa using hnew, by simp [putCells, hus], fun i j A hi hA => ?_⟩
      have hcells : ∀ t, t < d'.size * 3 → (putCells id 0 (flatK encS 3 d') us.toArray).toList[t]? = some ((encS d'[t / 3]!)[t % 3]!) := fun t ht => by
        have h8 : t < us.length := by omega
        rw [Array.getElem?_toList]
        have h10 := get_flatK encS 3 d' t ht
        have h9 : t < (flatK encS 3 d').size := by rw [size_flatK]; exact ht
        rw [getElem!_pos _ t h9] at h10
        have h11 : (putCells id 0 (flatK encS 3 d') us.toArray)[t]? = some ((flatK encS 3 d')[t]'h9) := by
          simp [putCells, h8, ht, h9]
        rw [h11, h10]
      have hi' : i < d'.size := by simpa using hi
      have hgd : d'[i]! = d'.toList.getD i default := by
        rw [getElem!_pos d' i hi']
        simp [List.getD_eq_getElem?_getD, hi']
      match j with
      | 0 =>
        simp only [rowsS, eSeat, up, List.getElem?_cons_zero, List.getElem?_cons_succ, Option.some.injEq] at hA
        subst hA
        refine ⟨_, hcells (i * 3 + 0) (by omega), ?_, ?_⟩
        · rw [show (i * 3 + 0) / 3 = i by omega, show (i * 3 + 0) % 3 = 0 by omega, hgd]
          exact .d .int
        · rw [show (i * 3 + 0) / 3 = i by omega, show (i * 3 + 0) % 3 = 0 by omega]
          rfl
      | 1 =>
        simp only [rowsS, eSeat, up, List.getElem?_cons_zero, List.getElem?_cons_succ, Option.some.injEq] at hA
        subst hA
        refine ⟨_, hcells (i * 3 + 1) (by omega), ?_, ?_⟩
        · rw [show (i * 3 + 1) / 3 = i by omega, show (i * 3 + 1) % 3 = 1 by omega, hgd]
          exact .d .int
        · rw [show (i * 3 + 1) / 3 = i by omega, show (i * 3 + 1) % 3 = 1 by omega]
          rfl
      | 2 =>
        simp only [rowsS, eSeat, up, List.getElem?_cons_zero, List.getElem?_cons_succ, Option.some.injEq] at hA
        subst hA
        refine ⟨_, hcells (i * 3 + 2) (by omega), ?_, ?_⟩
        · rw [show (i * 3 + 2) / 3 = i by omega, show (i * 3 + 2) % 3 = 2 by omega, hgd]
          exact .d .int
        · rw [show (i * 3 + 2) / 3 = i by omega, show (i * 3 + 2) % 3 = 2 by omega]
          rfl
      | j + 3 => simp [rowsS, eSeat, up] at hA
    rw [hlen] at hB
    obtain ⟨g1, g2⟩ := mem1 hm hr hl hgr hdr hB
    exact ⟨_, _, _, σ, F, rfl, ⟨d'.toList, ⟨hperm, hsorted⟩, rfl, rfl⟩, .tup (us := []) rfl (fun j x u h => by simp at h), g1, g2, SLe.refl σ⟩
end Go.Proofs.Ytnhadilbebgbjaa
