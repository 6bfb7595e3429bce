/-
  Chapter 14: the chapter's examples: what they come to, plain; the laws' own helpers.
-/
import Derived.Test.YtmlhghddfobmmaaGreatDoorInsC
import Derived.Test.YtmlhghddfobmmaaGreatDoorBookR
import Derived.Test.YtmlhghddfobmmaaGreatDoorEqlA
import Derived.Test.YtmlhghddfobmmaaGreatDoorPtsA
import Derived.Test.YtmlhghddfobmmaaGreatDoorOpenW
import Derived.Test.YtmlhghddfobmmaaGreatDoorBookK
namespace Go.Proofs.YtmlhghddfobmmaaGreatDoor
set_option linter.unusedSimpArgs false
set_option linter.unusedVariables false
open Go Go.Ab
set_option maxRecDepth 100000
set_option maxHeartbeats 0
def plainC (s : ByteArray) (n : Int) : Crs := ⟨s, n, 4, 0, .mk 1 0 .empty 0 0 [], .mk 2 0 .empty 0 0 []⟩
theorem plain_ok (s : ByteArray) (n : Int) : Pure Tryz.prog 45 [.str s, .int .i64 n] [.agg (eCrs (plainC s n))] := by
  refine pure_rule hT (T := tab) (N := 10) (rs := [.cell 4 68]) Tryz.func45 rfl rfl rfl (by kernel_rfl) rfl ?_
  (refine gW ?_; intros)
  exact ⟨.inr ⟨rfl, rfl, rfl, rfl, rfl, rfl, rfl, rfl, rfl, rfl, rfl, rfl, rfl, rfl, rfl, rfl, True.intro⟩, True.intro⟩
theorem all14_ok : Pure Tryz.prog 46 [] [.agg (eSpn 0 1024)] := by
  refine pure_rule hT (T := tab) (N := 2) (rs := [.cell 0 34]) Tryz.func46 rfl rfl rfl (by kernel_rfl) rfl ?_
  (refine gW ?_; intros)
  exact ⟨.inl rfl, True.intro⟩
theorem new14_ok : Pure Tryz.prog 21 [] [.agg (eBok (bok0 []))] := by
  refine pure_rule hT (T := tab) (N := 2) (rs := [.cell 0 26]) Tryz.func21 rfl rfl rfl (by kernel_rfl) rfl ?_
  (refine gW ?_; intros)
  exact ⟨.inr ⟨rfl, rfl, rfl, True.intro⟩, True.intro⟩
def sA : ByteArray := ⟨#[65]⟩
def cA : Crs := plainC sA 1
def w0 : Wor := ⟨bok0 [cA], fs0 [cA] 3 9 8⟩
def wZ : Wor := ⟨bok0 [], []⟩
theorem f1 : crsOf w0 1 3 8 = some cA := by rfl
theorem f2 : readsT ⟨1, 1, 0⟩ 3 = [rdK ⟨1, 1, 0⟩ 3] := by rfl
theorem f3 : crsOf w0 1 9 8 = none := by rfl
theorem f4 : nums w0 8 = [1] := by
  have : numsL w0.fcts (atV w0.fcts ⟨12, 0, 0⟩ 0 8).1 = [1] := by rfl
  unfold nums
  rw [this, srtI]
  exact List.mergeSort_singleton ..
theorem f5 (kn : Int) : nums wZ kn = [] := by
  have : numsL wZ.fcts (atV wZ.fcts ⟨12, 0, 0⟩ 0 kn).1 = [] := by rfl
  unfold nums
  rw [this, srtI]
  exact List.mergeSort_nil
theorem f6 : equalZ wZ 3 0 8 = startE 3 := by
  have h1 : iterE wZ 0 8 [] 1 (startE 3) = startE 3 := by rfl
  have h := equal_stop (w := wZ) (n := 3) (t := 0) (kn := 8) (j := 1) (Nat.zero_le _) (by rw [f5, h1]; decide) (by rw [f5, h1]; decide)
  rw [h, f5, h1]
theorem f7 : equalL wZ 3 0 8 = [3] := by
  rw [equalL, if_pos (by decide), f6]
  exact List.mergeSort_singleton ..
theorem f8 : equalR wZ 3 0 8 = [rdK ⟨12, 0, 0⟩ 0] := by rw [equalR, if_pos (by decide), f6]; rfl
theorem f9 : sysOf wZ 0 8 = none := by rfl
theorem f10 : vCrs cA = true := by rfl
theorem wfA : wfCrs cA := by
  refine ⟨fun p hp => ?_, fun p hp => ?_⟩ <;> (rw [preR_eq] at hp; rcases List.mem_cons.1 hp with rfl | hp) <;> first | (refine ⟨?_, ?_, ?_, ?_, by decide⟩ <;> exact in64.2 (by decide)) | (rw [show (Rule.kids _) = [] from rfl, preL_nil] at hp; cases hp)
theorem flA : FlatC (flatCat [cA]) := fun x hx => by
  have : x = cA := by simpa [flatCat] using hx
  subst this
  exact ⟨⟨rfl, by decide, by decide, by decide⟩, ⟨rfl, by decide, by decide, by decide⟩⟩
theorem nnA : ([cA].map fun x => x.name).Nodup := by simp
theorem nuA : ([cA].map fun x => x.number).Nodup := by simp
theorem wf_bok0 {l : List Crs} (h : l.length ≤ 1000) (hw : ∀ c ∈ l, wfCrs c) : wfBok (bok0 l) :=
  ⟨⟨by show l.length ≤ _; omega, hw⟩, ⟨Nat.zero_le _, fun c hc => (List.not_mem_nil hc).elim⟩, Nat.zero_le _, fun c hc => (List.not_mem_nil hc).elim⟩
theorem smA : smCrs cA := by
  have e1 : cntR cA.need = 1 := by rfl
  have e2 : cntR cA.bar = 1 := by rfl
  exact ⟨by rw [e1]; decide, by rw [e2]; decide⟩
theorem wf_w0 : WfW w0 :=
  ⟨wf_bok0 (by decide) (fun c hc => by rw [List.mem_singleton.1 hc]; exact wfA), fun c hc => by rw [List.mem_singleton.1 hc]; exact smA, by show (2 : Nat) ≤ _; decide⟩
theorem wf_wZ : WfW wZ := ⟨wf_bok0 (Nat.zero_le _) (fun c hc => (List.not_mem_nil hc).elim), fun c hc => (List.not_mem_nil hc).elim, Nat.zero_le _⟩
def crs1 : Crs := ⟨.empty, 1, 0, 0, default, default⟩
theorem chk1 : chkB (bok0 [crs1]) = 140 := by rfl
theorem wf1 : wfCrs crs1 := by
  have h : wfR (default : Rule) := fun p hp => by
    rw [preR_eq] at hp
    rcases List.mem_cons.1 hp with rfl | hp
    · refine ⟨?_, ?_, ?_, ?_, by decide⟩ <;> exact in64.2 (by decide)
    · rw [show (Rule.kids (default : Rule)) = [] from rfl, preL_nil] at hp
      cases hp
  exact ⟨h, h⟩
theorem wfDC : wfCrs default := by
  have h : wfR (default : Rule) := fun p hp => by
    rw [preR_eq] at hp
    rcases List.mem_cons.1 hp with rfl | hp
    · refine ⟨?_, ?_, ?_, ?_, by decide⟩ <;> exact in64.2 (by decide)
    · rw [show (Rule.kids (default : Rule)) = [] from rfl, preL_nil] at hp
      cases hp
  exact ⟨h, h⟩
theorem lookO_mem {α : Type} [Inhabited α] {l : List α} {t : Int} {v : Int × Bool} {ok : α → Bool} {x : α} (h : lookO l t v ok = some x) : x ∈ l ∧ ok x = true := by
  unfold lookO at h
  split at h
  · rename_i hc
    injection h with h
    rw [← h]
    exact ⟨getD_mem (by omega), hc.2.2.2.2⟩
  · cases h
theorem crsOf_wf {w : Wor} (hw : WfW w) (n t kn : Int) : wfCrs ((crsOf w n t kn).getD default) := by
  cases h : crsOf w n t kn with
  | none => exact wfDC
  | some c => exact hw.bok.1.2 c (lookO_mem h).1
theorem prgOf_wf {w : Wor} (hw : okWor w) (n t kn : Int) : wfPrg2 ((prgOf w n t kn).getD default) := by
  cases h : prgOf w n t kn with
  | none => exact ⟨Nat.zero_le _, fun q hq => (List.not_mem_nil hq).elim⟩
  | some c =>
    have := (hw.1.2.1.2 c (lookO_mem h).1).2.1
    exact ⟨this.1, fun q hq => (this.2 q hq).1⟩
theorem wfDS : wfSys default := ⟨⟨Nat.zero_le _, fun x h => (List.not_mem_nil h).elim⟩, ⟨Nat.zero_le _, fun x h => (List.not_mem_nil h).elim⟩, Nat.zero_le _, Nat.zero_le _⟩
theorem sysOf_wf {w : Wor} (hw : WfW w) (t kn : Int) : wfSys ((sysOf w t kn).getD default) := by
  cases h : sysOf w t kn with
  | none => exact wfDS
  | some c => exact hw.bok.2.2.2 c (lookO_mem h).1
end Go.Proofs.YtmlhghddfobmmaaGreatDoor
