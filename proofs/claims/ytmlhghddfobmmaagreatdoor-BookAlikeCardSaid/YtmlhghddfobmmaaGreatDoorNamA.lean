/-
  Chapter 11: names; what Resolve asks of a catalogue, when it is granted.
-/
import Derived.Test.YtmlhghddfobmmaaGreatDoorBookH
import Derived.Test.YtmlhghddfobmmaaGreatDoorFrz
import Derived.Test.YtmlhghddfobmmaaGreatDoorOpsH
import Derived.Test.YtmlhghddfobmmaaGreatDoorEngAR
namespace Go.Proofs.YtmlhghddfobmmaaGreatDoor
set_option linter.unusedSimpArgs false
set_option linter.unusedVariables false
open Go Go.Ab
set_option maxRecDepth 100000
set_option maxHeartbeats 0
theorem demand_ok (b : Bool) (hb : b = true) (e : Int) : Pure Tryz.prog 50 [.bool b, .int .i64 e] [] := by
  subst hb
  refine pure_rule hT (T := tab) (N := 9) (rs := []) Tryz.func50 rfl rfl rfl (by kernel_rfl) rfl ?_
  (refine gW ?_; intros)
  exact True.intro
theorem len_of_both {α : Type} [DecidableEq α] {l m : List α} (hl : l.Nodup) (hm : m.Nodup) (h : ∀ x, x ∈ l ↔ x ∈ m) : l.length = m.length := Nat.le_antisymm (hl.length_le_of_subset fun x hx => (h x).1 hx) (hm.length_le_of_subset fun x hx => (h x).2 hx)
theorem bytesI_inj {a b : ByteArray} (h : bytesI a = bytesI b) : a = b := by rw [← strI_bytesI a, h, strI_bytesI]
theorem nodup_map_inj {α β : Type} {f : α → β} (hf : ∀ a b, f a = f b → a = b) : ∀ {l : List α}, l.Nodup → (l.map f).Nodup
  | [], _ => List.nodup_nil
  | x :: r, h => by
    rw [List.nodup_cons] at h
    rw [List.map_cons, List.nodup_cons]
    refine ⟨fun hx => ?_, nodup_map_inj hf h.2⟩
    obtain ⟨y, hy, e⟩ := List.mem_map.1 hx
    exact h.1 (hf _ _ e ▸ hy)
/-- The keys that were met. -/
def hasU (ks : List (List Int)) (k : Nat) : List Int → Bool := fun key => decide (key ∈ ks.take k)
theorem hasU_new {ks : List (List Int)} {k : Nat} (hn : ks.Nodup) (hk : k < ks.length) : hasU ks k (ks.getD k default) = false := by
  refine decide_eq_false fun h => ?_
  have h1 : (ks.take (k + 1)).Nodup := List.Nodup.sublist (List.take_sublist _ _) hn
  rw [take_succ_at hk, List.nodup_append] at h1
  exact h1.2.2 _ h _ (by simp) rfl
theorem hasU_succ {ks : List (List Int)} {k : Nat} (hk : k < ks.length) (key : List Int) : (decide (key = ks.getD k default) || hasU ks k key) = hasU ks (k + 1) key := by
  unfold hasU
  rw [take_succ_at hk, Bool.eq_iff_iff, Bool.or_eq_true, decide_eq_true_iff, decide_eq_true_iff, decide_eq_true_iff, List.mem_append, List.mem_singleton]
  exact Or.comm
theorem valU_succ {ks : List (List Int)} {k : Nat} (hn : ks.Nodup) (hk : k < ks.length) (key : List Int) (n : Int) (hv : n = 1) : (bif decide (key = ks.getD k default) then AV.d (.int .i64 n) else AV.d (.int .i64 (bif hasU ks k key then 1 else 0))) = AV.d (.int .i64 (bif hasU ks (k + 1) key then 1 else 0)) := by
  subst hv
  rw [← hasU_succ hk]
  cases decide (key = ks.getD k default) <;> rfl
theorem uniqCrsS_ok (l : List Crs) (hl : l.length ≤ 1000000) (f : FuncId) (kf : Crs → ByteArray) (hf : ∀ x ∈ l, Pure Tryz.prog f [.agg (eCrs x)] [.str (kf x)]) (hn : (l.map kf).Nodup) : Pure Tryz.prog 51 [eCrss l, .fn (.func f) [] []] [] := by
  obtain ⟨ks, hks⟩ : ∃ ks : List (List Int), ks = l.map fun x => bytesI (kf x) := ⟨_, rfl⟩
  have hkl : ks.length = l.length := by rw [hks, List.length_map]
  have hkn : ks.Nodup := by
    have := nodup_map_inj (f := bytesI) (fun a b => bytesI_inj) hn
    rw [List.map_map] at this
    rw [hks]
    exact this
  have hkg : ∀ k, k < l.length → ks.getD k default = (fun x => bytesI (kf x)) (l.getD k default) := fun k hk => by
    rw [hks]
    simp only [List.getD_eq_getElem?_getD, List.getElem?_map, List.getElem?_eq_getElem hk, Option.map_some, Option.getD_some]
  have hfit : ∀ k ∈ ks, Ksh.str.fits k := fun k hk => by
    rw [hks] at hk
    obtain ⟨x, _, rfl⟩ := List.mem_map.1 hk
    exact bytesI_fits _
  have kh : Kp _ := ⟨hks⟩
  clear hks
  refine pure_rule hT (T := tab) (N := 27) (rs := []) Tryz.func51 rfl rfl rfl (by kernel_rfl) rfl ?_
  (refine gW ?_; intros)
  refine loop_rule hT (S := Nat) (fun k => ([(0, .d (eCrss l)), (1, .d (.fn (.func f) [] [])), (4, .mp (.loc 0)), (8, .d (eCrss l)), (9, .d (.int .i64 l.length)), (10, .d (.int .i64 k))], ⟨[some (.map Ksh.str (hasU ks k) fun key => .d (.int .i64 (bif hasU ks k key then 1 else 0)))], []⟩)) (fun k => k ≤ l.length) (fun k => l.length - k) 0 ?_ ?_ ?_
  · repeat' (first | exact True.intro | exact rfl | exact Nat.le_refl _ | refine And.intro ?_ ?_)
    all_goals first
      | (intro key hf; exact ⟨by simp [hasU], fun h => (by cases h)⟩)
      | trace_state
  · exact Nat.zero_le _
  · intro k hk
    dsimp only at hk ⊢
    by_cases hk2 : k < l.length
    · have hF := hf _ (getD_mem hk2)
      have hh := hasU_new hkn (show k < ks.length by omega)
      rw [hkg k hk2] at hh
      dsimp only at hh
      have kg : Kp _ := ⟨hkg k hk2⟩
      clear hkg hf hfit
      (refine gW ?_; intros)
      refine hF.call ?_
      have hin : In .i64 ((bif hasU ks k (bytesI (kf (l.getD k default))) then (1 : Int) else 0) + 1) := by rw [hh]; exact in64.2 (by decide)
      (refine gW ?_; intros)
      refine ⟨k + 1, by show k + 1 ≤ l.length; omega, by show l.length - (k + 1) < l.length - k; omega, ?_⟩
      repeat' (first | exact True.intro | exact rfl | exact Nat.le_refl _ | refine And.intro ?_ ?_)
      all_goals first
        | (intro key hf
           have e1 := hasU_succ (show k < ks.length by omega) key
           have e2 := fun n hv => valU_succ hkn (show k < ks.length by omega) key n hv
           rw [kg.h] at e1 e2
           refine ⟨e1, fun _ => ⟨e2 _ ?_, rfl⟩⟩
           show (bif hasU ks k _ then (1 : Int) else 0) + 1 = 1
           rw [hh]
           rfl)
        | trace_state
    · have hall : ∀ key, hasU ks k key = decide (key ∈ ks) := fun key => by rw [hasU, List.take_of_length_le (by omega)]
      (refine gW ?_; intros)
      refine op_len_map hT rfl rfl rfl rfl fun qs h1 h2 h3 => ?_
      have hlen : qs.length = l.length := by
        rw [← hkl]
        refine len_of_both h1 hkn fun key => ⟨fun h => ?_, fun h => ?_⟩
        · have := (h2 key h).2
          rw [hall] at this
          exact of_decide_eq_true this
        · exact h3 key (hfit key h) (by rw [hall]; exact decide_eq_true h)
      clear hall hkg hfit hf h1 h2 h3
      (refine gW ?_; intros)
      refine (demand_ok _ (by rw [hlen]; simp) 111).call ?_
      (refine gW ?_; intros)
      exact True.intro
theorem uniqCrsI_ok (l : List Crs) (hl : l.length ≤ 1000000) (f : FuncId) (kf : Crs → Int) (hf : ∀ x ∈ l, Pure Tryz.prog f [.agg (eCrs x)] [.int .i64 (kf x)]) (hn : (l.map kf).Nodup) : Pure Tryz.prog 53 [eCrss l, .fn (.func f) [] []] [] := by
  obtain ⟨ks, hks⟩ : ∃ ks : List (List Int), ks = l.map fun x => [kf x] := ⟨_, rfl⟩
  have hkl : ks.length = l.length := by rw [hks, List.length_map]
  have hkn : ks.Nodup := by
    have := nodup_map_inj (f := (fun n : Int => [n])) (fun a b h => by injection h) hn
    rw [List.map_map] at this
    rw [hks]
    exact this
  have hkg : ∀ k, k < l.length → ks.getD k default = (fun x => [kf x]) (l.getD k default) := fun k hk => by
    rw [hks]
    simp only [List.getD_eq_getElem?_getD, List.getElem?_map, List.getElem?_eq_getElem hk, Option.map_some, Option.getD_some]
  have hfit : ∀ k ∈ ks, (Ksh.one .i64).fits k := fun k hk => by
    rw [hks] at hk
    obtain ⟨x, _, rfl⟩ := List.mem_map.1 hk
    exact rfl
  have kh : Kp _ := ⟨hks⟩
  clear hks
  refine pure_rule hT (T := tab) (N := 27) (rs := []) Tryz.func53 rfl rfl rfl (by kernel_rfl) rfl ?_
  (refine gW ?_; intros)
  refine loop_rule hT (S := Nat) (fun k => ([(0, .d (eCrss l)), (1, .d (.fn (.func f) [] [])), (4, .mp (.loc 0)), (8, .d (eCrss l)), (9, .d (.int .i64 l.length)), (10, .d (.int .i64 k))], ⟨[some (.map (Ksh.one .i64) (hasU ks k) fun key => .d (.int .i64 (bif hasU ks k key then 1 else 0)))], []⟩)) (fun k => k ≤ l.length) (fun k => l.length - k) 0 ?_ ?_ ?_
  · repeat' (first | exact True.intro | exact rfl | exact Nat.le_refl _ | refine And.intro ?_ ?_)
    all_goals first
      | (intro key hf; exact ⟨by simp [hasU], fun h => (by cases h)⟩)
      | trace_state
  · exact Nat.zero_le _
  · intro k hk
    dsimp only at hk ⊢
    by_cases hk2 : k < l.length
    · have hF := hf _ (getD_mem hk2)
      have hh := hasU_new hkn (show k < ks.length by omega)
      rw [hkg k hk2] at hh
      dsimp only at hh
      have kg : Kp _ := ⟨hkg k hk2⟩
      clear hkg hf hfit
      (refine gW ?_; intros)
      refine hF.call ?_
      have hin : In .i64 ((bif hasU ks k ([kf (l.getD k default)]) then (1 : Int) else 0) + 1) := by rw [hh]; exact in64.2 (by decide)
      (refine gW ?_; intros)
      refine ⟨k + 1, by show k + 1 ≤ l.length; omega, by show l.length - (k + 1) < l.length - k; omega, ?_⟩
      repeat' (first | exact True.intro | exact rfl | exact Nat.le_refl _ | refine And.intro ?_ ?_)
      all_goals first
        | (intro key hf
           have e1 := hasU_succ (show k < ks.length by omega) key
           have e2 := fun n hv => valU_succ hkn (show k < ks.length by omega) key n hv
           rw [kg.h] at e1 e2
           refine ⟨e1, fun _ => ⟨e2 _ ?_, rfl⟩⟩
           show (bif hasU ks k _ then (1 : Int) else 0) + 1 = 1
           rw [hh]
           rfl)
        | trace_state
    · have hall : ∀ key, hasU ks k key = decide (key ∈ ks) := fun key => by rw [hasU, List.take_of_length_le (by omega)]
      (refine gW ?_; intros)
      refine op_len_map hT rfl rfl rfl rfl fun qs h1 h2 h3 => ?_
      have hlen : qs.length = l.length := by
        rw [← hkl]
        refine len_of_both h1 hkn fun key => ⟨fun h => ?_, fun h => ?_⟩
        · have := (h2 key h).2
          rw [hall] at this
          exact of_decide_eq_true this
        · exact h3 key (hfit key h) (by rw [hall]; exact decide_eq_true h)
      clear hall hkg hfit hf h1 h2 h3
      (refine gW ?_; intros)
      refine (demand_ok _ (by rw [hlen]; simp) 111).call ?_
      (refine gW ?_; intros)
      exact True.intro
theorem uniqPrgS_ok (l : List Prg) (hl : l.length ≤ 1000000) (f : FuncId) (kf : Prg → ByteArray) (hf : ∀ x ∈ l, Pure Tryz.prog f [.agg (ePrg x)] [.str (kf x)]) (hn : (l.map kf).Nodup) : Pure Tryz.prog 55 [ePrgs l, .fn (.func f) [] []] [] := by
  obtain ⟨ks, hks⟩ : ∃ ks : List (List Int), ks = l.map fun x => bytesI (kf x) := ⟨_, rfl⟩
  have hkl : ks.length = l.length := by rw [hks, List.length_map]
  have hkn : ks.Nodup := by
    have := nodup_map_inj (f := bytesI) (fun a b => bytesI_inj) hn
    rw [List.map_map] at this
    rw [hks]
    exact this
  have hkg : ∀ k, k < l.length → ks.getD k default = (fun x => bytesI (kf x)) (l.getD k default) := fun k hk => by
    rw [hks]
    simp only [List.getD_eq_getElem?_getD, List.getElem?_map, List.getElem?_eq_getElem hk, Option.map_some, Option.getD_some]
  have hfit : ∀ k ∈ ks, Ksh.str.fits k := fun k hk => by
    rw [hks] at hk
    obtain ⟨x, _, rfl⟩ := List.mem_map.1 hk
    exact bytesI_fits _
  have kh : Kp _ := ⟨hks⟩
  clear hks
  refine pure_rule hT (T := tab) (N := 27) (rs := []) Tryz.func55 rfl rfl rfl (by kernel_rfl) rfl ?_
  (refine gW ?_; intros)
  refine loop_rule hT (S := Nat) (fun k => ([(0, .d (ePrgs l)), (1, .d (.fn (.func f) [] [])), (4, .mp (.loc 0)), (8, .d (ePrgs l)), (9, .d (.int .i64 l.length)), (10, .d (.int .i64 k))], ⟨[some (.map Ksh.str (hasU ks k) fun key => .d (.int .i64 (bif hasU ks k key then 1 else 0)))], []⟩)) (fun k => k ≤ l.length) (fun k => l.length - k) 0 ?_ ?_ ?_
  · repeat' (first | exact True.intro | exact rfl | exact Nat.le_refl _ | refine And.intro ?_ ?_)
    all_goals first
      | (intro key hf; exact ⟨by simp [hasU], fun h => (by cases h)⟩)
      | trace_state
  · exact Nat.zero_le _
  · intro k hk
    dsimp only at hk ⊢
    by_cases hk2 : k < l.length
    · have hF := hf _ (getD_mem hk2)
      have hh := hasU_new hkn (show k < ks.length by omega)
      rw [hkg k hk2] at hh
      dsimp only at hh
      have kg : Kp _ := ⟨hkg k hk2⟩
      clear hkg hf hfit
      (refine gW ?_; intros)
      refine hF.call ?_
      have hin : In .i64 ((bif hasU ks k (bytesI (kf (l.getD k default))) then (1 : Int) else 0) + 1) := by rw [hh]; exact in64.2 (by decide)
      (refine gW ?_; intros)
      refine ⟨k + 1, by show k + 1 ≤ l.length; omega, by show l.length - (k + 1) < l.length - k; omega, ?_⟩
      repeat' (first | exact True.intro | exact rfl | exact Nat.le_refl _ | refine And.intro ?_ ?_)
      all_goals first
        | (intro key hf
           have e1 := hasU_succ (show k < ks.length by omega) key
           have e2 := fun n hv => valU_succ hkn (show k < ks.length by omega) key n hv
           rw [kg.h] at e1 e2
           refine ⟨e1, fun _ => ⟨e2 _ ?_, rfl⟩⟩
           show (bif hasU ks k _ then (1 : Int) else 0) + 1 = 1
           rw [hh]
           rfl)
        | trace_state
    · have hall : ∀ key, hasU ks k key = decide (key ∈ ks) := fun key => by rw [hasU, List.take_of_length_le (by omega)]
      (refine gW ?_; intros)
      refine op_len_map hT rfl rfl rfl rfl fun qs h1 h2 h3 => ?_
      have hlen : qs.length = l.length := by
        rw [← hkl]
        refine len_of_both h1 hkn fun key => ⟨fun h => ?_, fun h => ?_⟩
        · have := (h2 key h).2
          rw [hall] at this
          exact of_decide_eq_true this
        · exact h3 key (hfit key h) (by rw [hall]; exact decide_eq_true h)
      clear hall hkg hfit hf h1 h2 h3
      (refine gW ?_; intros)
      refine (demand_ok _ (by rw [hlen]; simp) 111).call ?_
      (refine gW ?_; intros)
      exact True.intro
theorem uniqPrgI_ok (l : List Prg) (hl : l.length ≤ 1000000) (f : FuncId) (kf : Prg → Int) (hf : ∀ x ∈ l, Pure Tryz.prog f [.agg (ePrg x)] [.int .i64 (kf x)]) (hn : (l.map kf).Nodup) : Pure Tryz.prog 57 [ePrgs l, .fn (.func f) [] []] [] := by
  obtain ⟨ks, hks⟩ : ∃ ks : List (List Int), ks = l.map fun x => [kf x] := ⟨_, rfl⟩
  have hkl : ks.length = l.length := by rw [hks, List.length_map]
  have hkn : ks.Nodup := by
    have := nodup_map_inj (f := (fun n : Int => [n])) (fun a b h => by injection h) hn
    rw [List.map_map] at this
    rw [hks]
    exact this
  have hkg : ∀ k, k < l.length → ks.getD k default = (fun x => [kf x]) (l.getD k default) := fun k hk => by
    rw [hks]
    simp only [List.getD_eq_getElem?_getD, List.getElem?_map, List.getElem?_eq_getElem hk, Option.map_some, Option.getD_some]
  have hfit : ∀ k ∈ ks, (Ksh.one .i64).fits k := fun k hk => by
    rw [hks] at hk
    obtain ⟨x, _, rfl⟩ := List.mem_map.1 hk
    exact rfl
  have kh : Kp _ := ⟨hks⟩
  clear hks
  refine pure_rule hT (T := tab) (N := 27) (rs := []) Tryz.func57 rfl rfl rfl (by kernel_rfl) rfl ?_
  (refine gW ?_; intros)
  refine loop_rule hT (S := Nat) (fun k => ([(0, .d (ePrgs l)), (1, .d (.fn (.func f) [] [])), (4, .mp (.loc 0)), (8, .d (ePrgs l)), (9, .d (.int .i64 l.length)), (10, .d (.int .i64 k))], ⟨[some (.map (Ksh.one .i64) (hasU ks k) fun key => .d (.int .i64 (bif hasU ks k key then 1 else 0)))], []⟩)) (fun k => k ≤ l.length) (fun k => l.length - k) 0 ?_ ?_ ?_
  · repeat' (first | exact True.intro | exact rfl | exact Nat.le_refl _ | refine And.intro ?_ ?_)
    all_goals first
      | (intro key hf; exact ⟨by simp [hasU], fun h => (by cases h)⟩)
      | trace_state
  · exact Nat.zero_le _
  · intro k hk
    dsimp only at hk ⊢
    by_cases hk2 : k < l.length
    · have hF := hf _ (getD_mem hk2)
      have hh := hasU_new hkn (show k < ks.length by omega)
      rw [hkg k hk2] at hh
      dsimp only at hh
      have kg : Kp _ := ⟨hkg k hk2⟩
      clear hkg hf hfit
      (refine gW ?_; intros)
      refine hF.call ?_
      have hin : In .i64 ((bif hasU ks k ([kf (l.getD k default)]) then (1 : Int) else 0) + 1) := by rw [hh]; exact in64.2 (by decide)
      (refine gW ?_; intros)
      refine ⟨k + 1, by show k + 1 ≤ l.length; omega, by show l.length - (k + 1) < l.length - k; omega, ?_⟩
      repeat' (first | exact True.intro | exact rfl | exact Nat.le_refl _ | refine And.intro ?_ ?_)
      all_goals first
        | (intro key hf
           have e1 := hasU_succ (show k < ks.length by omega) key
           have e2 := fun n hv => valU_succ hkn (show k < ks.length by omega) key n hv
           rw [kg.h] at e1 e2
           refine ⟨e1, fun _ => ⟨e2 _ ?_, rfl⟩⟩
           show (bif hasU ks k _ then (1 : Int) else 0) + 1 = 1
           rw [hh]
           rfl)
        | trace_state
    · have hall : ∀ key, hasU ks k key = decide (key ∈ ks) := fun key => by rw [hasU, List.take_of_length_le (by omega)]
      (refine gW ?_; intros)
      refine op_len_map hT rfl rfl rfl rfl fun qs h1 h2 h3 => ?_
      have hlen : qs.length = l.length := by
        rw [← hkl]
        refine len_of_both h1 hkn fun key => ⟨fun h => ?_, fun h => ?_⟩
        · have := (h2 key h).2
          rw [hall] at this
          exact of_decide_eq_true this
        · exact h3 key (hfit key h) (by rw [hall]; exact decide_eq_true h)
      clear hall hkg hfit hf h1 h2 h3
      (refine gW ?_; intros)
      refine (demand_ok _ (by rw [hlen]; simp) 111).call ?_
      (refine gW ?_; intros)
      exact True.intro
theorem uniqClsS_ok (l : List Cls) (hl : l.length ≤ 1000000) (f : FuncId) (kf : Cls → ByteArray) (hf : ∀ x ∈ l, Pure Tryz.prog f [.agg (eCls x)] [.str (kf x)]) (hn : (l.map kf).Nodup) : Pure Tryz.prog 61 [eClss l, .fn (.func f) [] []] [] := by
  obtain ⟨ks, hks⟩ : ∃ ks : List (List Int), ks = l.map fun x => bytesI (kf x) := ⟨_, rfl⟩
  have hkl : ks.length = l.length := by rw [hks, List.length_map]
  have hkn : ks.Nodup := by
    have := nodup_map_inj (f := bytesI) (fun a b => bytesI_inj) hn
    rw [List.map_map] at this
    rw [hks]
    exact this
  have hkg : ∀ k, k < l.length → ks.getD k default = (fun x => bytesI (kf x)) (l.getD k default) := fun k hk => by
    rw [hks]
    simp only [List.getD_eq_getElem?_getD, List.getElem?_map, List.getElem?_eq_getElem hk, Option.map_some, Option.getD_some]
  have hfit : ∀ k ∈ ks, Ksh.str.fits k := fun k hk => by
    rw [hks] at hk
    obtain ⟨x, _, rfl⟩ := List.mem_map.1 hk
    exact bytesI_fits _
  have kh : Kp _ := ⟨hks⟩
  clear hks
  refine pure_rule hT (T := tab) (N := 27) (rs := []) Tryz.func61 rfl rfl rfl (by kernel_rfl) rfl ?_
  (refine gW ?_; intros)
  refine loop_rule hT (S := Nat) (fun k => ([(0, .d (eClss l)), (1, .d (.fn (.func f) [] [])), (4, .mp (.loc 0)), (8, .d (eClss l)), (9, .d (.int .i64 l.length)), (10, .d (.int .i64 k))], ⟨[some (.map Ksh.str (hasU ks k) fun key => .d (.int .i64 (bif hasU ks k key then 1 else 0)))], []⟩)) (fun k => k ≤ l.length) (fun k => l.length - k) 0 ?_ ?_ ?_
  · repeat' (first | exact True.intro | exact rfl | exact Nat.le_refl _ | refine And.intro ?_ ?_)
    all_goals first
      | (intro key hf; exact ⟨by simp [hasU], fun h => (by cases h)⟩)
      | trace_state
  · exact Nat.zero_le _
  · intro k hk
    dsimp only at hk ⊢
    by_cases hk2 : k < l.length
    · have hF := hf _ (getD_mem hk2)
      have hh := hasU_new hkn (show k < ks.length by omega)
      rw [hkg k hk2] at hh
      dsimp only at hh
      have kg : Kp _ := ⟨hkg k hk2⟩
      clear hkg hf hfit
      (refine gW ?_; intros)
      refine hF.call ?_
      have hin : In .i64 ((bif hasU ks k (bytesI (kf (l.getD k default))) then (1 : Int) else 0) + 1) := by rw [hh]; exact in64.2 (by decide)
      (refine gW ?_; intros)
      refine ⟨k + 1, by show k + 1 ≤ l.length; omega, by show l.length - (k + 1) < l.length - k; omega, ?_⟩
      repeat' (first | exact True.intro | exact rfl | exact Nat.le_refl _ | refine And.intro ?_ ?_)
      all_goals first
        | (intro key hf
           have e1 := hasU_succ (show k < ks.length by omega) key
           have e2 := fun n hv => valU_succ hkn (show k < ks.length by omega) key n hv
           rw [kg.h] at e1 e2
           refine ⟨e1, fun _ => ⟨e2 _ ?_, rfl⟩⟩
           show (bif hasU ks k _ then (1 : Int) else 0) + 1 = 1
           rw [hh]
           rfl)
        | trace_state
    · have hall : ∀ key, hasU ks k key = decide (key ∈ ks) := fun key => by rw [hasU, List.take_of_length_le (by omega)]
      (refine gW ?_; intros)
      refine op_len_map hT rfl rfl rfl rfl fun qs h1 h2 h3 => ?_
      have hlen : qs.length = l.length := by
        rw [← hkl]
        refine len_of_both h1 hkn fun key => ⟨fun h => ?_, fun h => ?_⟩
        · have := (h2 key h).2
          rw [hall] at this
          exact of_decide_eq_true this
        · exact h3 key (hfit key h) (by rw [hall]; exact decide_eq_true h)
      clear hall hkg hfit hf h1 h2 h3
      (refine gW ?_; intros)
      refine (demand_ok _ (by rw [hlen]; simp) 111).call ?_
      (refine gW ?_; intros)
      exact True.intro
theorem uniqFeeS_ok (l : List Fee) (hl : l.length ≤ 1000000) (f : FuncId) (kf : Fee → ByteArray) (hf : ∀ x ∈ l, Pure Tryz.prog f [.agg (eFee x)] [.str (kf x)]) (hn : (l.map kf).Nodup) : Pure Tryz.prog 63 [eFees l, .fn (.func f) [] []] [] := by
  obtain ⟨ks, hks⟩ : ∃ ks : List (List Int), ks = l.map fun x => bytesI (kf x) := ⟨_, rfl⟩
  have hkl : ks.length = l.length := by rw [hks, List.length_map]
  have hkn : ks.Nodup := by
    have := nodup_map_inj (f := bytesI) (fun a b => bytesI_inj) hn
    rw [List.map_map] at this
    rw [hks]
    exact this
  have hkg : ∀ k, k < l.length → ks.getD k default = (fun x => bytesI (kf x)) (l.getD k default) := fun k hk => by
    rw [hks]
    simp only [List.getD_eq_getElem?_getD, List.getElem?_map, List.getElem?_eq_getElem hk, Option.map_some, Option.getD_some]
  have hfit : ∀ k ∈ ks, Ksh.str.fits k := fun k hk => by
    rw [hks] at hk
    obtain ⟨x, _, rfl⟩ := List.mem_map.1 hk
    exact bytesI_fits _
  have kh : Kp _ := ⟨hks⟩
  clear hks
  refine pure_rule hT (T := tab) (N := 27) (rs := []) Tryz.func63 rfl rfl rfl (by kernel_rfl) rfl ?_
  (refine gW ?_; intros)
  refine loop_rule hT (S := Nat) (fun k => ([(0, .d (eFees l)), (1, .d (.fn (.func f) [] [])), (4, .mp (.loc 0)), (8, .d (eFees l)), (9, .d (.int .i64 l.length)), (10, .d (.int .i64 k))], ⟨[some (.map Ksh.str (hasU ks k) fun key => .d (.int .i64 (bif hasU ks k key then 1 else 0)))], []⟩)) (fun k => k ≤ l.length) (fun k => l.length - k) 0 ?_ ?_ ?_
  · repeat' (first | exact True.intro | exact rfl | exact Nat.le_refl _ | refine And.intro ?_ ?_)
    all_goals first
      | (intro key hf; exact ⟨by simp [hasU], fun h => (by cases h)⟩)
      | trace_state
  · exact Nat.zero_le _
  · intro k hk
    dsimp only at hk ⊢
    by_cases hk2 : k < l.length
    · have hF := hf _ (getD_mem hk2)
      have hh := hasU_new hkn (show k < ks.length by omega)
      rw [hkg k hk2] at hh
      dsimp only at hh
      have kg : Kp _ := ⟨hkg k hk2⟩
      clear hkg hf hfit
      (refine gW ?_; intros)
      refine hF.call ?_
      have hin : In .i64 ((bif hasU ks k (bytesI (kf (l.getD k default))) then (1 : Int) else 0) + 1) := by rw [hh]; exact in64.2 (by decide)
      (refine gW ?_; intros)
      refine ⟨k + 1, by show k + 1 ≤ l.length; omega, by show l.length - (k + 1) < l.length - k; omega, ?_⟩
      repeat' (first | exact True.intro | exact rfl | exact Nat.le_refl _ | refine And.intro ?_ ?_)
      all_goals first
        | (intro key hf
           have e1 := hasU_succ (show k < ks.length by omega) key
           have e2 := fun n hv => valU_succ hkn (show k < ks.length by omega) key n hv
           rw [kg.h] at e1 e2
           refine ⟨e1, fun _ => ⟨e2 _ ?_, rfl⟩⟩
           show (bif hasU ks k _ then (1 : Int) else 0) + 1 = 1
           rw [hh]
           rfl)
        | trace_state
    · have hall : ∀ key, hasU ks k key = decide (key ∈ ks) := fun key => by rw [hasU, List.take_of_length_le (by omega)]
      (refine gW ?_; intros)
      refine op_len_map hT rfl rfl rfl rfl fun qs h1 h2 h3 => ?_
      have hlen : qs.length = l.length := by
        rw [← hkl]
        refine len_of_both h1 hkn fun key => ⟨fun h => ?_, fun h => ?_⟩
        · have := (h2 key h).2
          rw [hall] at this
          exact of_decide_eq_true this
        · exact h3 key (hfit key h) (by rw [hall]; exact decide_eq_true h)
      clear hall hkg hfit hf h1 h2 h3
      (refine gW ?_; intros)
      refine (demand_ok _ (by rw [hlen]; simp) 111).call ?_
      (refine gW ?_; intros)
      exact True.intro
end Go.Proofs.YtmlhghddfobmmaaGreatDoor
