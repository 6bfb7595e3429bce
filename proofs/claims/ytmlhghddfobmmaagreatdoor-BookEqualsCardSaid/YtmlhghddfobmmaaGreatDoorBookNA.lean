/-
  Chapter 14: numbers in order, by the reference.
-/
import Derived.Test.YtmlhghddfobmmaaGreatDoorBookI
import Derived.Test.YtmlhghddfobmmaaGreatDoorIntSort
import Derived.Test.YtmlhghddfobmmaaGreatDoorFrz
namespace Go.Proofs.YtmlhghddfobmmaaGreatDoor
set_option linter.unusedSimpArgs false
set_option linter.unusedVariables false
open Go Go.Ab
set_option maxRecDepth 100000
set_option maxHeartbeats 0
def insI (b : Int) : List Int → List Int
  | [] => [b]
  | x :: r => if x < b then x :: insI b r else b :: x :: r
def srtR (l : List Int) : List Int := l.foldl (fun acc b => insI b acc) []
theorem insI_perm (b : Int) : ∀ l, (insI b l).Perm (b :: l)
  | [] => List.Perm.refl _
  | x :: r => by
    rw [insI]
    split
    · exact ((insI_perm b r).cons x).trans (List.Perm.swap b x r)
    · exact List.Perm.refl _
theorem insI_srt (b : Int) : ∀ l : List Int, l.Pairwise (· ≤ ·) → (insI b l).Pairwise (· ≤ ·)
  | [], _ => by simp [insI]
  | x :: r, h => by
    rw [List.pairwise_cons] at h
    rw [insI]
    split
    · rename_i hx
      rw [List.pairwise_cons]
      refine ⟨fun y hy => ?_, insI_srt b r h.2⟩
      rcases List.mem_cons.1 ((insI_perm b r).mem_iff.1 hy) with rfl | hy
      · omega
      · exact h.1 y hy
    · rename_i hx
      rw [List.pairwise_cons, List.pairwise_cons]
      refine ⟨fun y hy => ?_, h⟩
      rcases List.mem_cons.1 hy with rfl | hy
      · omega
      · have := h.1 y hy; omega
theorem srtR_snoc (l : List Int) (b : Int) : srtR (l ++ [b]) = insI b (srtR l) := by
  unfold srtR
  rw [List.foldl_append]
  rfl
theorem srtR_both (l : List Int) : (srtR l).Perm l ∧ (srtR l).Pairwise (· ≤ ·) := by
  have key : ∀ (l acc : List Int), acc.Pairwise (· ≤ ·) → (l.foldl (fun acc b => insI b acc) acc).Perm (l ++ acc) ∧ (l.foldl (fun acc b => insI b acc) acc).Pairwise (· ≤ ·) := by
    intro l
    induction l with
    | nil => intro acc h; exact ⟨List.Perm.refl _, h⟩
    | cons b r ih =>
      intro acc h
      obtain ⟨h1, h2⟩ := ih (insI b acc) (insI_srt b acc h)
      refine ⟨h1.trans ?_, h2⟩
      exact ((insI_perm b acc).append_left r).trans List.perm_middle
  have := key l [] List.Pairwise.nil
  rw [List.append_nil] at this
  exact this
theorem srtR_len (l : List Int) : (srtR l).length = l.length := (srtR_both l).1.length_eq
theorem srt_eq (l : List Int) : srtR l = srtI l := by
  refine List.Perm.eq_of_pairwise (le := fun a b => a ≤ b) (fun a b _ _ h1 h2 => Int.le_antisymm h1 h2) (srtR_both l).2 ?_ ((srtR_both l).1.trans (List.mergeSort_perm l _).symm)
  have := List.pairwise_mergeSort (le := fun a b : Int => decide (a ≤ b)) (fun a b c h1 h2 => by simp at *; omega) (fun a b => by simp; omega) l
  exact this.imp fun h => by simpa using h
theorem insI_at (b : Int) : ∀ (acc : List Int) (n : Nat), n ≤ acc.length → (∀ i, i < n → acc.getD i default < b) → (n < acc.length → ¬ acc.getD n default < b) → insI b acc = acc.take n ++ b :: acc.drop n
  | [], n, hn, _, _ => by
    have : n = 0 := by simpa using hn
    subst this
    rfl
  | x :: r, 0, _, _, h2 => by
    have := h2 (by simp)
    rw [insI, if_neg (by simpa using this)]
    rfl
  | x :: r, n + 1, hn, h1, h2 => by
    have hx := h1 0 (by omega)
    rw [insI, if_pos (by simpa using hx), insI_at b r n (by simpa using hn) (fun i hi => by simpa using h1 (i + 1) (by omega)) (fun hlt => by simpa using h2 (by simpa using hlt))]
    rfl
theorem ins_rows {α : Type} [Inhabited α] (e : α → List D) (acc : List α) (b : α) (n : Nat) (hn : n ≤ acc.length) (g : Nat → List AV) (hg : g 0 = up (e b)) (i : Nat) (hi : i < 0 + n + 1 + (acc.length - n)) :
    joinF (0 + n + 1) (joinF (0 + n) (joinF 0 (rowFn []) fun i => up (e (acc.getD i default))) g) (fun i => up (e (acc.getD (n + i) default))) i = up (e ((acc.take n ++ b :: acc.drop n).getD i default)) := by
  have hl : (acc.take n).length = n := by rw [List.length_take]; omega
  rcases Nat.lt_or_ge i (0 + n + 1) with h1 | h1
  · rw [joinF_lt h1]
    rcases Nat.lt_or_ge i (0 + n) with h2 | h2
    · rw [joinF_lt h2, joinF_ge (Nat.zero_le _), getD_append_left (by omega)]
      congr 2
      simp only [List.getD_eq_getElem?_getD, Nat.sub_zero]
      rw [List.getElem?_take_of_lt (by omega)]
    · have : i = n := by omega
      subst this
      rw [joinF_ge h2, getD_append_right (by omega), hl]
      rw [show i - (0 + i) = 0 by omega, hg]
      simp
  · rw [joinF_ge h1, getD_append_right (by omega), hl]
    have : i - n = (i - (0 + n + 1)) + 1 := by omega
    rw [this]
    congr 2
    simp only [List.getD_eq_getElem?_getD, List.getElem?_cons_succ, List.getElem?_drop]
def eNum (n : Int) : List D := [.int .i64 n]
theorem rsorted14_ok (l : List Int) (hl : l.length ≤ 100000) : Pure Tryz.prog 101 [eInts l] [eInts (srtR l)] := by
  refine pure_rule hT (T := tab) (N := 46) (rs := [.tmp 2]) Tryz.func101 rfl rfl rfl (by kernel_rfl) rfl ?_
  (refine gW ?_; intros)
  refine Awp.frz [0] 3 (eInts []) (.rows rfl (Nat.le_refl _) (fun i hi => absurd hi (Nat.not_lt_zero i))) ?_
  refine loop_rule hT (S := Nat) (fun k => ([(0, .d (eInts l)), (3, .d (eInts (srtR (l.take k)))), (4, .d (.int .i64 k))], ⟨[], []⟩)) (fun k => k ≤ l.length) (fun k => l.length - k) 0 ?_ ?_ ?_
  · repeat' (first | exact True.intro | exact rfl | exact Nat.le_refl _ | refine And.intro ?_ ?_)
  · exact Nat.zero_le _
  · intro k hk
    by_cases hk2 : k < l.length
    · have hst : srtR (l.take (k + 1)) = insI (l.getD k default) (srtR (l.take k)) := by rw [take_succ_at hk2, srtR_snoc]
      have hal : (srtR (l.take k)).length ≤ 100000 := by rw [srtR_len, List.length_take]; omega
      obtain ⟨acc, hacc⟩ : ∃ acc, srtR (l.take k) = acc := ⟨_, rfl⟩
      rw [hacc] at hst hal
      dsimp only
      rw [hacc]
      (refine gW ?_; intros)
      refine loop_rule hT (S := Nat) (fun n => ([(0, .d (eInts l)), (3, .d (eInts acc)), (4, .d (.int .i64 k)), (5, .d (.int .i64 n))], ⟨[], []⟩)) (fun n => n ≤ acc.length ∧ ∀ i, i < n → acc.getD i default < l.getD k default) (fun n => acc.length - n) 0 ?_ ?_ ?_
      · repeat' (first | exact True.intro | exact rfl | exact Nat.le_refl _ | refine And.intro ?_ ?_)
      · exact ⟨Nat.zero_le _, fun i hi => absurd hi (by omega)⟩
      · rintro n ⟨hn, hlt⟩
        dsimp only at hn hlt ⊢
        have klt : Kp _ := ⟨hlt⟩
        clear hlt
        by_cases hgo : n < acc.length ∧ acc.getD n default < l.getD k default
        · obtain ⟨hn2, hge⟩ := hgo
          (refine gW ?_; intros)
          refine ⟨n + 1, ⟨by show n + 1 ≤ acc.length; omega, fun i hi => ?_⟩, by show acc.length - (n + 1) < acc.length - n; omega, ?_⟩
          · rcases Nat.lt_or_ge i n with h1 | h1
            · exact klt.h i h1
            · rw [show i = n by omega]
              exact hge
          · repeat' (first | exact True.intro | exact rfl | exact Nat.le_refl _ | refine And.intro ?_ ?_)
        · have hne : n < acc.length → ¬ acc.getD n default < l.getD k default := fun h1 h2 => hgo ⟨h1, h2⟩
          have hins := insI_at (l.getD k default) acc n hn klt.h hne
          by_cases hn2 : n < acc.length
          · have hne2 := hne hn2
            clear hne hgo
            (refine gW ?_; intros)
            refine FrzR.mk (fun i => eNum ((acc.take n ++ l.getD k default :: acc.drop n).getD i default)) (fun i hi => ?_) ?_
            · exact ins_rows eNum acc (l.getD k default) n hn _ rfl i hi
            (refine gW ?_; intros)
            refine ⟨k + 1, by show k + 1 ≤ l.length; omega, by show l.length - (k + 1) < l.length - k; omega, ?_⟩
            dsimp only
            rw [hst, hins]
            have hN : 0 + n + 1 + (acc.length - n) = (acc.take n ++ l.getD k default :: acc.drop n).length := by
              simp only [List.length_append, List.length_take, List.length_cons, List.length_drop]
              omega
            repeat' (first | exact True.intro | exact rfl | exact Nat.le_refl _ | refine And.intro ?_ ?_)
            all_goals first
              | exact congrArg (fun m => AV.d (D.sl 1 m _)) hN
              | exact ⟨rfl, hN, fun i hi => rfl⟩
              | trace_state
          · clear hne hgo
            (refine gW ?_; intros)
            refine FrzR.mk (fun i => eNum ((acc.take n ++ l.getD k default :: acc.drop n).getD i default)) (fun i hi => ?_) ?_
            · exact ins_rows eNum acc (l.getD k default) n hn _ rfl i hi
            (refine gW ?_; intros)
            refine ⟨k + 1, by show k + 1 ≤ l.length; omega, by show l.length - (k + 1) < l.length - k; omega, ?_⟩
            dsimp only
            rw [hst, hins]
            have hN : 0 + n + 1 + (acc.length - n) = (acc.take n ++ l.getD k default :: acc.drop n).length := by
              simp only [List.length_append, List.length_take, List.length_cons, List.length_drop]
              omega
            repeat' (first | exact True.intro | exact rfl | exact Nat.le_refl _ | refine And.intro ?_ ?_)
            all_goals first
              | exact congrArg (fun m => AV.d (D.sl 1 m _)) hN
              | exact ⟨rfl, hN, fun i hi => rfl⟩
              | trace_state
    · dsimp only
      rw [List.take_of_length_le (by omega)]
      (refine gW ?_; intros)
      exact ⟨⟨rfl, rfl, fun i hi => rfl⟩, True.intro⟩
theorem contains14_ok (l : List Int) (hl : fitL l) (n : Int) : Pure Tryz.prog 98 [eInts l, .int .i64 n] [.bool (decide (n ∈ l))] := by
  have hl' : l.length ≤ 9223372036854775807 := hl
  refine pure_rule hT (T := tab) (N := 18) (rs := [.tmp 4]) Tryz.func98 rfl rfl rfl (by kernel_rfl) rfl ?_
  (refine gW ?_; intros)
  refine loop_rule hT (S := Nat) (fun k => ([(0, .d (eInts l)), (1, .d (.int .i64 n)), (4, .d (.bool false)), (5, .d (.int .i64 k))], ⟨[], []⟩)) (fun k => k ≤ l.length ∧ (n ∈ l ↔ n ∈ l.drop k)) (fun k => l.length - k) 0 ?_ ?_ ?_
  · repeat' (first | exact True.intro | exact rfl | exact Nat.le_refl _ | refine And.intro ?_ ?_)
  · exact ⟨Nat.zero_le _, Iff.rfl⟩
  · rintro k ⟨hk, hc⟩
    have kc : Kp _ := ⟨hc⟩
    clear hc
    by_cases hk2 : k < l.length
    · have hd := drop_at (xs := l) (k := k) hk2
      have kd : Kp _ := ⟨hd⟩
      clear hd
      by_cases e : l.getD k default = n
      · rw [decide_eq_true (kc.h.2 (by rw [kd.h, e]; simp))]
        (refine gW ?_; intros)
        exact ⟨rfl, True.intro⟩
      · have kn : Kp (n ∈ l ↔ n ∈ l.drop (k + 1)) := ⟨by
          rw [kc.h, kd.h, List.mem_cons]
          exact ⟨fun h => h.resolve_left fun h => e h.symm, .inr⟩⟩
        (refine gW ?_; intros)
        refine ⟨k + 1, ⟨by show k + 1 ≤ l.length; omega, kn.h⟩, by show l.length - (k + 1) < l.length - k; omega, ?_⟩
        repeat' (first | exact True.intro | exact rfl | exact Nat.le_refl _ | refine And.intro ?_ ?_)
    · rw [decide_eq_false (fun h => by have := kc.h.1 h; rw [drop_end (by omega)] at this; simp at this)]
      (refine gW ?_; intros)
      exact ⟨rfl, True.intro⟩
end Go.Proofs.YtmlhghddfobmmaaGreatDoor
