/-
  Swaps: what Execute answers, in plain words; sorted seats.
-/
import Derived.Test.YtnhadilbebgbjaaSwapU
import Derived.Test.YtnhadilbebgbjaaEngAM
namespace Go.Proofs.Ytnhadilbebgbjaa
set_option linter.unusedSimpArgs false
set_option linter.unusedVariables false
open Go Go.Ab
def insS (b : Seat) : List Seat → List Seat
  | [] => [b]
  | x :: r => if seatC b x < 0 then b :: x :: r else x :: insS b r
def srtB (l : List Seat) : List Seat := l.foldl (fun out b => insS b out) []
def ltNo (a b : Seat) : Prop := seatC b a < 0 → False
theorem insS_perm (b : Seat) : ∀ l, (insS b l).Perm (b :: l)
  | [] => List.Perm.refl _
  | x :: r => by
    unfold insS
    split
    · exact List.Perm.refl _
    · exact ((insS_perm b r).cons x).trans (List.Perm.swap b x r)
theorem seatC_asym {a b : Seat} (h : seatC a b < 0) : ¬ seatC b a < 0 := by
  rw [seatC_neg] at *
  omega
theorem insS_srt (b : Seat) : ∀ {l : List Seat}, l.Pairwise ltNo → (insS b l).Pairwise ltNo
  | [], _ => List.pairwise_singleton _ _
  | x :: r, h => by
    obtain ⟨h1, h2⟩ := List.pairwise_cons.1 h
    unfold insS
    split
    · rename_i hb
      refine List.pairwise_cons.2 ⟨fun y hy => ?_, h⟩
      rcases List.mem_cons.1 hy with rfl | hy
      · exact seatC_asym hb
      · exact fun hyb => h1 y hy (seatC_trans hyb hb)
    · rename_i hb
      refine List.pairwise_cons.2 ⟨fun y hy => ?_, insS_srt b h2⟩
      rcases List.mem_cons.1 ((insS_perm b r).mem_iff.1 hy) with rfl | hy
      · exact hb
      · exact h1 y hy
theorem srtB_from : ∀ (l out : List Seat), out.Pairwise ltNo → (l.foldl (fun out b => insS b out) out).Perm (out ++ l) ∧ (l.foldl (fun out b => insS b out) out).Pairwise ltNo
  | [], out, h => ⟨by simp, h⟩
  | b :: r, out, h => by
    obtain ⟨h1, h2⟩ := srtB_from r (insS b out) (insS_srt b h)
    refine ⟨h1.trans ?_, h2⟩
    refine ((insS_perm b out).append_right r).trans ?_
    exact List.perm_middle.symm
theorem srtB_perm (l : List Seat) : (srtB l).Perm l := (srtB_from l [] List.Pairwise.nil).1
theorem srtB_srt (l : List Seat) : (srtB l).Pairwise ltNo := (srtB_from l [] List.Pairwise.nil).2
theorem srt_uniq : ∀ {a b : List Seat}, srtS a → a.Perm b → b.Pairwise ltNo → a = b
  | [], b, _, hp, _ => hp.nil_eq
  | x :: ra, [], _, hp, _ => by have := hp.length_eq; simp at this
  | x :: ra, y :: rb, ha, hp, hb => by
    obtain ⟨h1, h2⟩ := List.pairwise_cons.1 ha
    obtain ⟨h3, h4⟩ := List.pairwise_cons.1 hb
    have hxy : x = y := by
      have hx : x ∈ y :: rb := hp.mem_iff.1 (by simp)
      have hy : y ∈ x :: ra := hp.mem_iff.2 (by simp)
      rcases List.mem_cons.1 hx with e | hx
      · exact e
      · rcases List.mem_cons.1 hy with e | hy
        · exact e.symm
        · exact absurd (h1 y hy) (h3 x hx)
    subst hxy
    rw [srt_uniq h2 ((List.perm_cons x).1 hp) h4]
theorem srt_same {x ts : List Seat} (hp : ts.Perm x) (hs : ts.Pairwise ltNo) : ordS ts = ordS (srtB x) ∧ (ordS (srtB x) = true → ts = srtB x) := by
  have hq : ts.Perm (srtB x) := hp.trans (srtB_perm x).symm
  have hs2 := srtB_srt x
  have k1 : ordS ts = true → ts = srtB x := fun h => srt_uniq (ordS_srt h) hq hs2
  have k2 : ordS (srtB x) = true → ts = srtB x := fun h => (srt_uniq (ordS_srt h) hq.symm hs).symm
  refine ⟨?_, k2⟩
  rw [Bool.eq_iff_iff]
  exact ⟨fun h => by rw [← k1 h]; exact h, fun h => by rw [k2 h]; exact h⟩
def gvr (l : List Swap) (w : List Int) (k : Nat) : Swap := l.getD (nxI w k).toNat default
def tkr (l : List Swap) (w : List Int) (k : Nat) : Int := (l.getD (w.getD k default).toNat default).student
def stepX (taken : List Seat) (l : List Swap) (w : List Int) (k : Nat) (z : List Nat × List Seat) : Option (List Nat × List Seat) :=
  match hand taken z (gvr l w k).student (gvr l w k).give.sec (tkr l w k) with
  | none => none
  | some z1 => if 0 ≤ (gvr l w k).give.lab then hand taken z1 (gvr l w k).student (gvr l w k).give.lab (tkr l w k) else some z1
def runX (taken : List Seat) (l : List Swap) (w : List Int) : List Nat → List Nat × List Seat → Option (List Nat × List Seat)
  | [], z => some z
  | k :: r, z => match stepX taken l w k z with
    | none => none
    | some z' => runX taken l w r z'
def keepX (w : List Int) (i : Nat) : Bool := !(w.any fun a => decide ((i : Int) = a))
def restX (l : List Swap) (w : List Int) : List Swap := ((List.range l.length).filter (keepX w)).map fun i => l.getD i default
def exeX (taken : List Seat) (l : List Swap) (w : List Int) : Option (List Seat × List Swap) :=
  if chk30 l = 0 ∧ isC l w = true ∧ ordS taken = true then
    match runX taken l w (List.range w.length) ([], taken) with
    | none => none
    | some z => if ordS (srtB z.2) = true then some (srtB z.2, restX l w) else none
  else none
def exX (taken : List Seat) (l : List Swap) (w : List Int) : List Seat := match exeX taken l w with
  | some y => y.1
  | none => []
def exR (taken : List Seat) (l : List Swap) (w : List Int) : List Swap := match exeX taken l w with
  | some y => y.2
  | none => []
def exE (taken : List Seat) (l : List Swap) (w : List Int) : Int := match exeX taken l w with
  | some _ => 0
  | none => 300
theorem ex_none {taken : List Seat} {l : List Swap} {w : List Int} (h : exeX taken l w = none) : exX taken l w = [] ∧ exR taken l w = [] ∧ exE taken l w = 300 := by
  simp [exX, exR, exE, h]
theorem ex_some {taken : List Seat} {l : List Swap} {w : List Int} {y : List Seat × List Swap} (h : exeX taken l w = some y) : exX taken l w = y.1 ∧ exR taken l w = y.2 ∧ exE taken l w = 0 := by
  simp [exX, exR, exE, h]
theorem isC_at {l : List Swap} {w : List Int} (h : isC l w = true) {k : Nat} (hk : k < w.length) : (0 ≤ w.getD k default ∧ w.getD k default < l.length) ∧ 0 ≤ nxI w k ∧ nxI w k < l.length := by
  unfold isC at h
  rw [Bool.and_eq_true, List.all_eq_true] at h
  have := h.1 k (List.mem_range.2 hk)
  unfold cyS at this
  rw [Bool.and_eq_true, Bool.and_eq_true] at this
  exact ⟨wit_in this.1, wit_in this.2.1⟩
theorem runX_drop (taken : List Seat) (l : List Swap) (w : List Int) {n k : Nat} (h : k < n) (z : List Nat × List Seat) : runX taken l w ((List.range n).drop k) z = match stepX taken l w k z with
    | none => none
    | some z' => runX taken l w ((List.range n).drop (k + 1)) z' := by
  rw [range_drop h]
  rfl
theorem stepX_len {taken : List Seat} {l : List Swap} {w : List Int} {k : Nat} {z z' : List Nat × List Seat} (h : stepX taken l w k z = some z') : z'.2.length = z.2.length := by
  unfold stepX at h
  split at h <;> try (cases h; done)
  rename_i z1 h1
  have e1 := hand_len h1
  split at h
  · rw [hand_len h, e1]
  · injection h with h
    rw [← h, e1]
theorem rest_drop {l : List Swap} (w : List Int) {k : Nat} (h : k < l.length) : (((List.range l.length).drop k).filter (keepX w)).map (fun i => l.getD i default) = (if keepX w k = true then [l.getD k default] else []) ++ (((List.range l.length).drop (k + 1)).filter (keepX w)).map (fun i => l.getD i default) := by
  rw [range_drop h, List.filter_cons]
  split <;> rfl
end Go.Proofs.Ytnhadilbebgbjaa
