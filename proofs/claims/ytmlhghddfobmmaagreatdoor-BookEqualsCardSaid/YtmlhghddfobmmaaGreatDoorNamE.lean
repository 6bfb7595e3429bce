/-
  Chapter 11: names; Resolve of catalogues of courses without references.
-/
import Derived.Test.YtmlhghddfobmmaaGreatDoorNamD
import Derived.Test.YtmlhghddfobmmaaGreatDoorEngAR
namespace Go.Proofs.YtmlhghddfobmmaaGreatDoor
set_option linter.unusedSimpArgs false
set_option linter.unusedVariables false
open Go Go.Ab
set_option maxRecDepth 100000
set_option maxHeartbeats 0
theorem WeakB.vec {e : TypeId} {sz g n : Nat} {f f' : Nat → List AV} (h : ∀ i, i < n → f i = f' i) : WeakB (.vec e sz g n f) (.vec e sz g n f') := fun w F σ pl hb => by
  obtain ⟨h1, h2, h3, h4, h5⟩ := hb
  refine ⟨h1, h2, h3, fun i hi => by rw [h i hi]; exact h4 i hi, fun b tot hl => ?_⟩
  obtain ⟨h6, h7, us, h8, h9, h10⟩ := h5 b tot hl
  exact ⟨h6, h7, us, h8, h9, fun i j A hi hA => h10 i j A hi (by rw [← h i hi]; exact hA)⟩
/-- A catalogue of courses. -/
def flatCat (l : List Crs) : Cat := ⟨l, [], [], [], [], [], []⟩
theorem rname_ok (x : Crs) : Pure Tryz.prog 52 [.agg (eCrs x)] [.str x.name] := by
  refine pure_rule hT (T := tab) (N := 5) (rs := [.tmp 2]) Tryz.func52 rfl rfl rfl (by kernel_rfl) rfl ?_
  (refine gW ?_; intros)
  exact ⟨rfl, True.intro⟩
theorem rnumber_ok (x : Crs) : Pure Tryz.prog 54 [.agg (eCrs x)] [.int .i64 x.number] := by
  refine pure_rule hT (T := tab) (N := 5) (rs := [.tmp 2]) Tryz.func54 rfl rfl rfl (by kernel_rfl) rfl ?_
  (refine gW ?_; intros)
  exact ⟨rfl, True.intro⟩
theorem resolve_ok (l : List Crs) (hf : FlatC (flatCat l)) (hl : l.length ≤ 1000) (h1 : (l.map fun x => x.name).Nodup) (h2 : (l.map fun x => x.number).Nodup) :
    CallVC Tryz.prog 14 [.d (.agg (eCat (flatCat l)))] ⟨[], []⟩ (Ret (fun _ : Unit => ([.d (.agg (eCat (flatCat l))), .d (.int .i64 0)], ⟨[], []⟩)) fun _ => True) := by
  have hO := order_ok (flatCat l) hf hl
  have hU1 := uniqCrsS_ok l (by omega) 52 (fun x => x.name) (fun x _ => rname_ok x) h1
  have hU2 := uniqCrsI_ok l (by omega) 54 (fun x => x.number) (fun x _ => rnumber_ok x) h2
  have hU3 := uniqPrgS_ok [] (Nat.zero_le _) 56 (fun x => x.name) (fun x hx => by cases hx) List.nodup_nil
  have hU4 := uniqPrgI_ok [] (Nat.zero_le _) 58 (fun x => x.number) (fun x hx => by cases hx) List.nodup_nil
  have hU5 := uniqClsS_ok [] (Nat.zero_le _) 62 (fun x => x.name) (fun x hx => by cases hx) List.nodup_nil
  have hU6 := uniqFeeS_ok [] (Nat.zero_le _) 64 (fun x => x.name) (fun x hx => by cases hx) List.nodup_nil
  refine callD_rule hT (f := 14) (N := 224) (rs := [.cell 2 32, .cell 3 38]) (enc := fun _ : Unit => ([.d (.agg (eCat (flatCat l))), .d (.int .i64 0)], ⟨[], []⟩)) (J := fun _ => True) (k := 3) (r := 23) (G := 48) rfl rfl rfl rfl rfl rfl rfl rfl rfl rfl rfl rfl rfl rfl rfl ?_ ?_ rfl ?_
  · exact ⟨_, rfl, rfl, rfl⟩
  · intro m σ F w p hm
    exact deferred_ok rfl rfl rfl rfl rfl (fun a w => rfl) (fun c h => by cases h) (fun p w => by kernel_rfl) caughtN_ok σ F w p hm
  (refine gW ?_; intros)
  refine loop_rule hT (S := Unit) (fun _ => ([(1, .ptr (.loc 0) 0 0 0), (2, .ptr (.loc 1) 0 0 0), (3, .ptr (.loc 2) 0 0 0), (26, .d (.int .i64 0)), (27, .d (.int .i64 0))], ⟨[some (.box 32 (up (eCat (flatCat l)))), some (.box 32 (up [.nils, .nils, .nils, .nils, .nils, .nils, .nils])), some (.box 38 [.d (.int .i64 0)])], []⟩)) (fun _ => True) (fun _ => 0) () ?_ ?_ ?_
  · repeat' (first | exact True.intro | exact rfl | exact Nat.le_refl _ | refine And.intro ?_ ?_)
  · exact True.intro
  intro _ _
  (refine gW ?_; intros)
  refine hU1.call ?_
  (refine gW ?_; intros)
  refine hU2.call ?_
  (refine gW ?_; intros)
  refine hU3.call ?_
  (refine gW ?_; intros)
  refine hU4.call ?_
  (refine gW ?_; intros)
  refine loop_rule hT (S := Unit) (fun _ => ([(1, .ptr (.loc 0) 0 0 0), (2, .ptr (.loc 1) 0 0 0), (3, .ptr (.loc 2) 0 0 0), (62, .d (.int .i64 0)), (63, .d (.int .i64 0))], ⟨[some (.box 32 (up (eCat (flatCat l)))), some (.box 32 (up [.nils, .nils, .nils, .nils, .nils, .nils, .nils])), some (.box 38 [.d (.int .i64 0)])], []⟩)) (fun _ => True) (fun _ => 0) () ?_ ?_ ?_
  · repeat' (first | exact True.intro | exact rfl | exact Nat.le_refl _ | refine And.intro ?_ ?_)
  · exact True.intro
  intro _ _
  (refine gW ?_; intros)
  refine hU5.call ?_
  (refine gW ?_; intros)
  refine hU6.call ?_
  (refine gW ?_; intros)
  refine hU5.call ?_
  (refine gS ?_; intros)
  refine Sq.go ?_
  (refine gS ?_; intros)
  refine Sq.alt (Awp.seq (Awp.effsF (m := ⟨[some (.box 32 (up (eCat (flatCat l)))), some (.box 32 (up [.nils, .nils, .nils, .nils, .nils, .nils, .nils])), some (.box 38 [.d (.int .i64 0)]), some (.box 32 (up (eCat (flatCat l))))], []⟩) hT (by kernel_rfl) (by kernel_rfl) (by kernel_rfl)
    ⟨[some (.box 32 (up (eCat (flatCat l)))), some (.box 32 (up [.nils, .nils, .nils, .nils, .nils, .nils, .nils])), some (.box 38 [.d (.int .i64 0)]), some (.box 32 [.junk, .junk, .junk, .d (eClss []), .d (eFees []), .d (eClss []), .d (eClas [])]), none, none, none], []⟩ 4 0
    [⟨2, .osl (.loc 4) 1 0 l.length, ⟨[some (.box 32 (up (eCat (flatCat l)))), some (.box 32 (up [.nils, .nils, .nils, .nils, .nils, .nils, .nils])), some (.box 38 [.d (.int .i64 0)]), some (.box 32 (up (eCat (flatCat l)))), some (.vec 68 16 1 l.length (rowsOf eCrs l))], []⟩, []⟩,
     ⟨5, .osl (.loc 5) 1 0 0, ⟨[some (.box 32 (up (eCat (flatCat l)))), some (.box 32 (up [.nils, .nils, .nils, .nils, .nils, .nils, .nils])), some (.box 38 [.d (.int .i64 0)]), some (.box 32 (up (eCat (flatCat l)))), some (.vec 68 16 1 l.length (rowsOf eCrs l)), some (.vec 131 4 1 0 (rowsOf ePai []))], []⟩, [2]⟩,
     ⟨8, .osl (.loc 6) 1 0 0, ⟨[some (.box 32 (up (eCat (flatCat l)))), some (.box 32 (up [.nils, .nils, .nils, .nils, .nils, .nils, .nils])), some (.box 38 [.d (.int .i64 0)]), some (.box 32 (up (eCat (flatCat l)))), some (.vec 68 16 1 l.length (rowsOf eCrs l)), some (.vec 131 4 1 0 (rowsOf ePai [])), some (.vec 78 7 1 0 (rowsOf ePrg []))], []⟩, [5]⟩,
     ⟨10, .junk, ⟨[some (.box 32 (up (eCat (flatCat l)))), some (.box 32 (up [.nils, .nils, .nils, .nils, .nils, .nils, .nils])), some (.box 38 [.d (.int .i64 0)]), some (.box 32 [.osl (.loc 4) 1 0 l.length, .d (ePais []), .d (ePrgs []), .d (eClss []), .d (eFees []), .d (eClss []), .d (eClas [])]), some (.vec 68 16 1 l.length (rowsOf eCrs l)), some (.vec 131 4 1 0 (rowsOf ePai [])), some (.vec 78 7 1 0 (rowsOf ePrg []))], []⟩, [8]⟩,
     ⟨12, .junk, ⟨[some (.box 32 (up (eCat (flatCat l)))), some (.box 32 (up [.nils, .nils, .nils, .nils, .nils, .nils, .nils])), some (.box 38 [.d (.int .i64 0)]), some (.box 32 [.osl (.loc 4) 1 0 l.length, .osl (.loc 5) 1 0 0, .d (ePrgs []), .d (eClss []), .d (eFees []), .d (eClss []), .d (eClas [])]), some (.vec 68 16 1 l.length (rowsOf eCrs l)), some (.vec 131 4 1 0 (rowsOf ePai [])), some (.vec 78 7 1 0 (rowsOf ePrg []))], []⟩, [10]⟩,
     ⟨14, .junk, ⟨[some (.box 32 (up (eCat (flatCat l)))), some (.box 32 (up [.nils, .nils, .nils, .nils, .nils, .nils, .nils])), some (.box 38 [.d (.int .i64 0)]), some (.box 32 [.osl (.loc 4) 1 0 l.length, .osl (.loc 5) 1 0 0, .osl (.loc 6) 1 0 0, .d (eClss []), .d (eFees []), .d (eClss []), .d (eClas [])]), some (.vec 68 16 1 l.length (rowsOf eCrs l)), some (.vec 131 4 1 0 (rowsOf ePai [])), some (.vec 78 7 1 0 (rowsOf ePrg []))], []⟩, [12]⟩]
    (by kernel_rfl) rfl rfl (WeakF.of ⟨.inl rfl, .inl rfl, .inl rfl, .inr ⟨_, rfl, WeakB.box ⟨rfl, rfl, rfl, rfl, True.intro⟩⟩, True.intro⟩ True.intro)
    ⟨WeakF.of ⟨.inl rfl, .inl rfl, .inl rfl, .inr ⟨_, rfl, WeakB.box ⟨rfl, rfl, rfl, rfl, True.intro⟩⟩, True.intro⟩ True.intro, WeakF.of ⟨.inl rfl, .inl rfl, .inl rfl, .inr ⟨_, rfl, WeakB.box ⟨rfl, rfl, rfl, rfl, True.intro⟩⟩, True.intro⟩ True.intro, WeakF.of ⟨.inl rfl, .inl rfl, .inl rfl, .inr ⟨_, rfl, WeakB.box ⟨rfl, rfl, rfl, rfl, True.intro⟩⟩, True.intro⟩ True.intro,
     WeakF.of ⟨.inl rfl, .inl rfl, .inl rfl, .inr ⟨_, rfl, WeakB.box ⟨rfl, rfl, rfl, rfl, True.intro⟩⟩, True.intro⟩ True.intro, WeakF.of ⟨.inl rfl, .inl rfl, .inl rfl, .inr ⟨_, rfl, WeakB.box ⟨rfl, rfl, rfl, rfl, True.intro⟩⟩, True.intro⟩ True.intro, WeakF.of ⟨.inl rfl, .inl rfl, .inl rfl, .inr ⟨_, rfl, WeakB.box ⟨rfl, rfl, rfl, rfl, True.intro⟩⟩, True.intro⟩ True.intro, True.intro⟩ ?_))
  conv => whnf
  refine ⟨?_, ?_, ?_, ?_, ?_, ?_, ?_⟩
  · conv => whnf
    (refine gS ?_; intros)
    refine (cloneCrs_ok l (by omega)).at [] rfl True.intro (fun _ _ => ⟨rfl, ?_⟩)
    (refine gS ?_; intros)
    exact ⟨rfl, rfl⟩
  · conv => whnf
    (refine gS ?_; intros)
    refine (clonePai_ok [] (Nat.zero_le _)).at [] rfl True.intro (fun _ _ => ⟨rfl, ?_⟩)
    (refine gS ?_; intros)
    exact ⟨rfl, rfl⟩
  · conv => whnf
    (refine gS ?_; intros)
    refine (clonePrg_ok [] (Nat.zero_le _)).at [] rfl True.intro (fun _ _ => ⟨rfl, ?_⟩)
    (refine gS ?_; intros)
    exact ⟨rfl, rfl⟩
  · conv => whnf
    (refine gS ?_; intros)
    exact ⟨True.intro, rfl⟩
  · conv => whnf
    (refine gS ?_; intros)
    exact ⟨True.intro, rfl⟩
  · conv => whnf
    (refine gS ?_; intros)
    exact ⟨True.intro, rfl⟩
  refine Ev.mk (vc_ok hT _ _ _ _ (Ev.o ?_))
  (refine gW ?_; intros)
  refine loop_rule hT (S := Nat) (fun k => ([(1, .ptr (.loc 0) 0 0 0), (2, .ptr (.loc 1) 0 0 0), (3, .ptr (.loc 2) 0 0 0), (10, .ptr (.loc 3) 0 0 0), (94, .osl (.loc 4) 1 0 l.length), (95, .d (.int .i64 l.length)), (96, .d (.int .i64 k))], ⟨[some (.box 32 (up (eCat (flatCat l)))), some (.box 32 (up [.nils, .nils, .nils, .nils, .nils, .nils, .nils])), some (.box 38 [.d (.int .i64 0)]), some (.box 32 [.osl (.loc 4) 1 0 l.length, .osl (.loc 5) 1 0 0, .osl (.loc 6) 1 0 0, .d (eClss []), .d (eFees []), .d (eClss []), .d (eClas [])]), some (.vec 68 16 1 l.length (rowsOf eCrs l)), some (.vec 131 4 1 0 (rowsOf ePai [])), some (.vec 78 7 1 0 (rowsOf ePrg []))], []⟩)) (fun k => k ≤ l.length) (fun k => l.length - k) 0 ?_ ?_ ?_
  · repeat' (first | exact True.intro | exact rfl | exact Nat.le_refl _ | refine And.intro ?_ ?_)
    all_goals first
      | (intro i hi; exact ⟨rfl, rfl⟩)
      | trace_state
  · exact Nat.zero_le _
  · intro k hk
    dsimp only at hk ⊢
    by_cases hk2 : k < l.length
    · have hr1 := ruleFlat_ok (flatCat l) (l.getD k default).need (hf _ (getD_mem hk2)).1
      have hr2 := ruleFlat_ok (flatCat l) (l.getD k default).bar (hf _ (getD_mem hk2)).2
      have hk3 : k < (flatCat l).crs.length := hk2
      have s1 : splice (rowsOf eCrs l k) 4 (up (eRule (l.getD k default).need)) = rowsOf eCrs l k := by unfold eRule; rfl
      have s2 : splice (rowsOf eCrs l k) 10 (up (eRule (l.getD k default).bar)) = rowsOf eCrs l k := by unfold eRule; rfl
      have e1 : ∀ i, rowsOf eCrs l i = (fun j => bif Nat.beq j k then splice (rowsOf eCrs l k) 4 (up (eRule (l.getD k default).need)) else rowsOf eCrs l j) i := fun i => by
        show _ = bif Nat.beq i k then _ else _
        rw [s1]
        cases hb : Nat.beq i k
        · rfl
        · rw [Nat.eq_of_beq_eq_true hb]; rfl
      have e2 : ∀ i, rowsOf eCrs l i = (fun j => bif Nat.beq j k then splice (bif Nat.beq k k then splice (rowsOf eCrs l k) 4 (up (eRule (l.getD k default).need)) else rowsOf eCrs l k) 10 (up (eRule (l.getD k default).bar)) else (bif Nat.beq j k then splice (rowsOf eCrs l k) 4 (up (eRule (l.getD k default).need)) else rowsOf eCrs l j)) i := fun i => by
        show _ = bif Nat.beq i k then _ else _
        rw [s1, Nat.beq_refl, cond_true, s2]
        cases hb : Nat.beq i k
        · rfl
        · rw [Nat.eq_of_beq_eq_true hb]; rfl
      (refine gS ?_; intros)
      refine Sq.go ?_
      (refine gS ?_; intros)
      refine Sq.go ?_
      (refine gS ?_; intros)
      refine Sq.alt (Awp.effsF (m := ⟨[some (.box 32 (up (eCat (flatCat l)))), some (.box 32 (up [.nils, .nils, .nils, .nils, .nils, .nils, .nils])), some (.box 38 [.d (.int .i64 0)]), some (.box 32 [.osl (.loc 4) 1 0 l.length, .osl (.loc 5) 1 0 0, .osl (.loc 6) 1 0 0, .d (eClss []), .d (eFees []), .d (eClss []), .d (eClas [])]), some (.vec 68 16 1 l.length (rowsOf eCrs l)), some (.vec 131 4 1 0 (rowsOf ePai [])), some (.vec 78 7 1 0 (rowsOf ePrg []))], []⟩) hT (by kernel_rfl) (by kernel_rfl) (by kernel_rfl)
        ⟨[some (.box 32 (up (eCat (flatCat l)))), some (.box 32 (up [.nils, .nils, .nils, .nils, .nils, .nils, .nils])), some (.box 38 [.d (.int .i64 0)]), some (.box 32 [.osl (.loc 4) 1 0 l.length, .osl (.loc 5) 1 0 0, .osl (.loc 6) 1 0 0, .d (eClss []), .d (eFees []), .d (eClss []), .d (eClas [])]), some (.vec 68 16 1 l.length (rowsOf eCrs l)), some (.vec 131 4 1 0 (rowsOf ePai [])), some (.vec 78 7 1 0 (rowsOf ePrg []))], []⟩ 7 0
        [⟨24, .junk, ⟨[some (.box 32 (up (eCat (flatCat l)))), some (.box 32 (up [.nils, .nils, .nils, .nils, .nils, .nils, .nils])), some (.box 38 [.d (.int .i64 0)]), some (.box 32 [.osl (.loc 4) 1 0 l.length, .osl (.loc 5) 1 0 0, .osl (.loc 6) 1 0 0, .d (eClss []), .d (eFees []), .d (eClss []), .d (eClas [])]), some (.vec 68 16 1 l.length (fun j => bif Nat.beq j k then splice (rowsOf eCrs l k) 4 (up (eRule (l.getD k default).need)) else rowsOf eCrs l j)), some (.vec 131 4 1 0 (rowsOf ePai [])), some (.vec 78 7 1 0 (rowsOf ePrg []))], []⟩, []⟩,
         ⟨27, .junk, ⟨[some (.box 32 (up (eCat (flatCat l)))), some (.box 32 (up [.nils, .nils, .nils, .nils, .nils, .nils, .nils])), some (.box 38 [.d (.int .i64 0)]), some (.box 32 [.osl (.loc 4) 1 0 l.length, .osl (.loc 5) 1 0 0, .osl (.loc 6) 1 0 0, .d (eClss []), .d (eFees []), .d (eClss []), .d (eClas [])]), some (.vec 68 16 1 l.length (fun j => bif Nat.beq j k then splice (bif Nat.beq k k then splice (rowsOf eCrs l k) 4 (up (eRule (l.getD k default).need)) else rowsOf eCrs l k) 10 (up (eRule (l.getD k default).bar)) else (bif Nat.beq j k then splice (rowsOf eCrs l k) 4 (up (eRule (l.getD k default).need)) else rowsOf eCrs l j))), some (.vec 131 4 1 0 (rowsOf ePai [])), some (.vec 78 7 1 0 (rowsOf ePrg []))], []⟩, [24]⟩]
        (by kernel_rfl) rfl rfl (WeakF.of ⟨.inl rfl, .inl rfl, .inl rfl, .inl rfl, .inl rfl, .inl rfl, .inl rfl, True.intro⟩ True.intro)
        ⟨(WeakF.of ⟨.inl rfl, .inl rfl, .inl rfl, .inl rfl, .inr ⟨_, rfl, WeakB.vec (fun i hi => e1 i)⟩, .inl rfl, .inl rfl, True.intro⟩ True.intro), (WeakF.of ⟨.inl rfl, .inl rfl, .inl rfl, .inl rfl, .inr ⟨_, rfl, WeakB.vec (fun i hi => e2 i)⟩, .inl rfl, .inl rfl, True.intro⟩ True.intro), True.intro⟩ ?_)
      conv => whnf
      (refine gS ?_; intros)
      refine qC hr1 ?_
      (refine gS ?_; intros)
      refine qC hr2 ?_
      (refine gS ?_; intros)
      refine ⟨?_, ?_, ?_⟩
      · conv => whnf
        (refine gS ?_; intros)
        exact ⟨True.intro, rfl⟩
      · conv => whnf
        (refine gS ?_; intros)
        exact ⟨True.intro, rfl⟩
      conv => whnf
      (refine gS ?_; intros)
      refine Sq.go ?_
      (refine gW ?_; intros)
      refine ⟨k + 1, by show k + 1 ≤ l.length; omega, by show l.length - (k + 1) < l.length - k; omega, ?_⟩
      repeat' (first | exact True.intro | exact rfl | exact Nat.le_refl _ | refine And.intro ?_ ?_)
      all_goals first
        | (intro i hi; exact absurd hi (Nat.not_lt_zero i))
        | (intro i hi; exact ⟨(e2 i).symm, rfl⟩)
        | trace_state
    · obtain rfl : k = l.length := by omega
      (refine gW ?_; intros)
      refine loop_rule hT (S := Unit) (fun _ => ([(1, .ptr (.loc 0) 0 0 0), (2, .ptr (.loc 1) 0 0 0), (3, .ptr (.loc 2) 0 0 0), (10, .ptr (.loc 3) 0 0 0), (128, .d (.int .i64 0)), (129, .d (.int .i64 0))], ⟨[some (.box 32 (up (eCat (flatCat l)))), some (.box 32 (up [.nils, .nils, .nils, .nils, .nils, .nils, .nils])), some (.box 38 [.d (.int .i64 0)]), some (.box 32 [.osl (.loc 4) 1 0 l.length, .osl (.loc 5) 1 0 0, .osl (.loc 6) 1 0 0, .d (eClss []), .d (eFees []), .d (eClss []), .d (eClas [])]), some (.vec 68 16 1 l.length (rowsOf eCrs l)), some (.vec 131 4 1 0 (rowsOf ePai [])), some (.vec 78 7 1 0 (rowsOf ePrg []))], []⟩)) (fun _ => True) (fun _ => 0) () ?_ ?_ ?_
      · repeat' (first | exact True.intro | exact rfl | exact Nat.le_refl _ | refine And.intro ?_ ?_)
        all_goals (intro i hi; exact ⟨rfl, rfl⟩)
      · exact True.intro
      intro _ _
      (refine gW ?_; intros)
      refine loop_rule hT (S := Unit) (fun _ => ([(1, .ptr (.loc 0) 0 0 0), (2, .ptr (.loc 1) 0 0 0), (3, .ptr (.loc 2) 0 0 0), (10, .ptr (.loc 3) 0 0 0), (159, .d (.int .i64 0)), (160, .d (.int .i64 0))], ⟨[some (.box 32 (up (eCat (flatCat l)))), some (.box 32 (up [.nils, .nils, .nils, .nils, .nils, .nils, .nils])), some (.box 38 [.d (.int .i64 0)]), some (.box 32 [.osl (.loc 4) 1 0 l.length, .osl (.loc 5) 1 0 0, .osl (.loc 6) 1 0 0, .d (eClss []), .d (eFees []), .d (eClss []), .d (eClas [])]), some (.vec 68 16 1 l.length (rowsOf eCrs l)), some (.vec 131 4 1 0 (rowsOf ePai [])), some (.vec 78 7 1 0 (rowsOf ePrg []))], []⟩)) (fun _ => True) (fun _ => 0) () ?_ ?_ ?_
      · repeat' (first | exact True.intro | exact rfl | exact Nat.le_refl _ | refine And.intro ?_ ?_)
        all_goals (intro i hi; exact ⟨rfl, rfl⟩)
      · exact True.intro
      intro _ _
      (refine gW ?_; intros)
      refine hO.call ?_
      (refine gW ?_; intros)
      refine (demand_ok _ (by rfl) 0).call ?_
      (refine gS ?_; intros)
      refine Sq.alt (Awp.frz [3, 4, 5, 6] 10 (.pt (eCat (flatCat l)) 0) (.ptr' rfl ⟨.rows rfl (Nat.le_of_eq (Nat.zero_add _)) (fun i hi => by rw [Nat.zero_add]; rfl), .rows rfl (Nat.le_refl _) (fun i hi => absurd hi (Nat.not_lt_zero i)), .rows rfl (Nat.le_refl _) (fun i hi => absurd hi (Nat.not_lt_zero i)), .d, .d, .d, .d, True.intro⟩) (vc_ok hT _ _ _ _ (Ev.o ?_)))
      (refine gW ?_; intros)
      exact ⟨(), True.intro, by repeat' (first | exact True.intro | exact rfl | exact Nat.le_refl _ | refine And.intro ?_ ?_), rfl⟩
end Go.Proofs.YtmlhghddfobmmaaGreatDoor
