/-
  Texts put together: NamC, NamD.
-/
import Derived.Test.YtmlhghddfobmmaaGreatDoorNamB
import Derived.Test.YtmlhghddfobmmaaGreatDoorBookN
/-
  Chapter 11: names; the order of courses without references.
-/
namespace Go.Proofs.YtmlhghddfobmmaaGreatDoor
set_option linter.unusedSimpArgs false
set_option linter.unusedVariables false
open Go Go.Ab
set_option maxRecDepth 100000
set_option maxHeartbeats 0
/-- Every course needs nothing, and names nothing. -/
def FlatC (c : Cat) : Prop := ∀ x ∈ c.crs, FlatR x.need ∧ FlatR x.bar
def rowB (m : Nat) : Nat → List AV := fun j => [.d (.bool (decide (j < m)))]
theorem listed1_ok (c : Cat) (hf : FlatC c) (i : Nat) (hi : i < c.crs.length) (hl : c.crs.length ≤ 1000) (g m : Nat) (b : Bool) (hb : decide (i < m) = b) :
    CallVC Tryz.prog 172 [.d (.int .i64 i), .ptr (.arg 0) 0 0 0, .ptr (.arg 1) 0 0 0] ⟨[], [some (.box 32 (up (eCat c))), some (.box 185 [.osl (.arg 2) g 0 c.crs.length]), some (.vec 4 1 g c.crs.length (rowB m))]⟩
      (Ret (fun _ : Unit => ([.d (.bool (!b))], ⟨[], [some (.box 32 (up (eCat c))), some (.box 185 [.osl (.arg 2) g 0 c.crs.length]), some (.vec 4 1 g c.crs.length (rowB m))]⟩)) fun _ => True) := by
  subst hb
  refine call_rule hT (T := tab) (N := 20) (rs := [.cell 4 4]) _ _ Tryz.func172 rfl rfl rfl (by kernel_rfl) rfl ?_
  (refine gW ?_; intros)
  refine (needs_ok c i).at [] rfl True.intro (fun _ _ => ⟨rfl, ?_⟩)
  (refine gW ?_; intros)
  refine Awp.range (caps := [.ptr (.loc 1) 0 0 0, .ptr (.loc 2) 0 0 0]) [(0, .d (.int .i64 i)), (2, .ptr (.arg 1) 0 0 0), (4, .ptr (.loc 0) 0 0 0)] (.inl rfl) (nl := 3) (na := 3) ⟨⟨rfl, rfl⟩, ⟨rfl, rfl⟩, ⟨rfl, rfl⟩, True.intro⟩ ?_
  intro y rec h1 h2 h3 h4 h5 h6
  refine (needs1_ok y c i hi (hf _ (getD_mem hi)).1).at [.loc 1, .loc 2] rfl ⟨rfl, rfl, True.intro⟩ (fun _ _ => ⟨rfl, ?_⟩)
  (refine gW ?_; intros)
  refine ⟨none, by rw [after_none h1 h2]; rfl, ?_⟩
  show Sq _ _
  (refine gW ?_; intros)
  refine ⟨(), True.intro, ?_, rfl⟩
  repeat' (first | exact True.intro | exact rfl | exact Nat.le_refl _ | refine And.intro ?_ ?_)
  intro j hj
  exact ⟨rfl, rfl⟩
/-- The first numbers. -/
def upto (n : Nat) : List Int := (List.range n).map fun k : Nat => (k : Int)
theorem upto_len (n : Nat) : (upto n).length = n := by rw [upto, List.length_map, List.length_range]
theorem upto_succ (n : Nat) : upto (n + 1) = upto n ++ [(n : Int)] := by rw [upto, List.range_succ, List.map_append]; rfl
theorem upto_getD {n j : Nat} (h : j < n) : (upto n).getD j default = j := by
  rw [upto, List.getD_eq_getElem?_getD, List.getElem?_map, List.getElem?_range h]
  rfl
structure LS where
  m : Nat
  i : Nat
  g : Nat
  g2 : Nat
theorem listed_ok (c : Cat) (hf : FlatC c) (hl : c.crs.length ≤ 1000) : Pure Tryz.prog 120 [.agg (eCat c)] [.sl 1 c.crs.length fun i => [.int .i64 i], .sl 1 c.crs.length fun _ => [.bool true]] := by
  refine pure_rule hT (T := tab) (N := 29) (rs := [.tmp 2, .cell 3 185]) Tryz.func120 rfl rfl rfl (by kernel_rfl) rfl ?_
  (refine gW ?_; intros)
  refine op_make hT rfl rfl rfl (by decide) rfl rfl (by show _ * 1 ≤ 140737488355328; omega) ?_
  (refine gW ?_; intros)
  refine Awp.vec 2 3 1 (rowN []) rfl ?_
  refine loop_rule hT (S := LS) (fun z => ([(1, .ptr (.loc 0) 0 0 0), (2, .osl (.loc 3) z.g 0 z.m), (3, .ptr (.loc 1) 0 0 0), (4, .fn (.func 172) [] [.ptr (.loc 0) 0 0 0, .ptr (.loc 1) 0 0 0]), (5, .d (.int .i64 z.i))],
    ⟨[some (.box 32 (up (eCat c))), some (.box 185 [.osl (.loc 2) 0 0 c.crs.length]), some (.vec 4 1 0 c.crs.length (rowB z.m)), some (.vec 3 1 z.g z.m (rowN (upto z.m)))], []⟩))
    (fun z => z.m ≤ c.crs.length ∧ z.i ≤ z.m) (fun z => (c.crs.length - z.m) * 2000 + (c.crs.length - z.i)) ⟨0, 0, 0, 0⟩ ?_ ?_ ?_
  · repeat' (first | exact True.intro | exact rfl | exact Nat.le_refl _ | refine And.intro ?_ ?_)
    all_goals first
      | (intro i hi; exact ⟨by show [AV.d (D.bool false)] = [AV.d (D.bool (decide (i < 0)))]; rw [decide_eq_false (Nat.not_lt_zero _)], rfl⟩)
      | (intro i hi; exact absurd hi (Nat.not_lt_zero i))
      | trace_state
  · exact ⟨Nat.zero_le _, Nat.le_refl _⟩
  · rintro ⟨m, i, g, g2⟩ ⟨hm, hi⟩
    dsimp only at hm hi ⊢
    by_cases hi2 : i < c.crs.length
    · by_cases him : i < m
      · have hR := listed1_ok c hf i hi2 hl 0 m true (decide_eq_true him)
        (refine gW ?_; intros)
        refine ⟨⟨_, [], [_, _], .inl rfl, hR.at [.loc 0, .loc 1, .loc 2] rfl ⟨rfl, rfl, rfl, True.intro⟩ (fun _ _ => ⟨rfl, ?_⟩)⟩⟩
        (refine gW ?_; intros)
        refine ⟨⟨m, i + 1, g, g2⟩, ⟨hm, by show i + 1 ≤ m; omega⟩, by show (c.crs.length - m) * 2000 + (c.crs.length - (i + 1)) < (c.crs.length - m) * 2000 + (c.crs.length - i); omega, ?_⟩
        repeat' (first | exact True.intro | exact rfl | exact Nat.le_refl _ | refine And.intro ?_ ?_)
        all_goals first
          | (intro i hi; exact ⟨rfl, rfl⟩)
          | trace_state
      · obtain rfl : i = m := by omega
        have hR := listed1_ok c hf i hi2 hl 0 i false (decide_eq_false him)
        (refine gS ?_; intros)
        refine Sq.go ?_
        (refine gS ?_; intros)
        refine Sq.go ?_
        (refine gS ?_; intros)
        refine ⟨⟨_, [], [_, _], .inl rfl, hR.at [.loc 0, .loc 1, .loc 2] rfl ⟨rfl, rfl, rfl, True.intro⟩ (fun _ _ => ⟨rfl, ?_⟩)⟩⟩
        (refine gS ?_; intros)
        refine Sq.alt (Awp.condT rfl (Awp.seq (Awp.effs hT (by kernel_rfl) (by kernel_rfl) (by kernel_rfl)
          ⟨[some (.box 32 (up (eCat c))), some (.box 185 [.osl (.loc 2) 0 0 c.crs.length]), some .opq, some .opq], []⟩
          [⟨5, .osl (.loc 3) (g + 1) 0 (i + 1), ⟨[some (.box 32 (up (eCat c))), some (.box 185 [.osl (.loc 2) 0 0 c.crs.length]), some (.vec 4 1 0 c.crs.length (rowB i)), some (.vec 3 1 (g + 1) (i + 1) (joinF i (rowN (upto i)) (rowFn [[.d (.int .i64 i)]])))], []⟩, []⟩,
           ⟨7, .ptr (.loc 2) 0 i 0, ⟨[some (.box 32 (up (eCat c))), some (.box 185 [.osl (.loc 2) 0 0 c.crs.length]), some (.vec 4 1 0 c.crs.length (rowB i)), some (.vec 3 1 (g + 1) (i + 1) (joinF i (rowN (upto i)) (rowFn [[.d (.int .i64 i)]])))], []⟩, [5]⟩,
           ⟨8, .junk, ⟨[some (.box 32 (up (eCat c))), some (.box 185 [.osl (.loc 2) 0 0 c.crs.length]), some (.vec 4 1 0 c.crs.length fun j => bif Nat.beq j i then [.d (.bool true)] else rowB i j), some (.vec 3 1 (g + 1) (i + 1) (joinF i (rowN (upto i)) (rowFn [[.d (.int .i64 i)]])))], []⟩, [7]⟩]
          (by kernel_rfl) (Weak.of ⟨.inl rfl, .inl rfl, .inr ⟨rfl, _, rfl⟩, .inr ⟨rfl, _, rfl⟩, True.intro⟩ True.intro)
          ⟨Weak.of ⟨.inl rfl, .inl rfl, .inr ⟨rfl, _, rfl⟩, .inr ⟨rfl, _, rfl⟩, True.intro⟩ True.intro, Weak.of ⟨.inl rfl, .inl rfl, .inr ⟨rfl, _, rfl⟩, .inr ⟨rfl, _, rfl⟩, True.intro⟩ True.intro, Weak.of ⟨.inl rfl, .inl rfl, .inr ⟨rfl, _, rfl⟩, .inr ⟨rfl, _, rfl⟩, True.intro⟩ True.intro, True.intro⟩ ?_)))
        conv => whnf
        (refine gS ?_; intros)
        refine ⟨?_, ?_, ?_, ?_⟩
        · conv => whnf
          (refine gS ?_; intros)
          exact ⟨rfl, rfl⟩
        · conv => whnf
          (refine gS ?_; intros)
          exact ⟨rfl, rfl⟩
        · conv => whnf
          (refine gS ?_; intros)
          exact ⟨True.intro, rfl⟩
        refine Ev.mk (vc_ok hT _ _ _ _ (Ev.o ?_))
        (refine gW ?_; intros)
        refine ⟨⟨i + 1, 0, g + 1, g2⟩, ⟨by show i + 1 ≤ c.crs.length; omega, Nat.zero_le _⟩, by show (c.crs.length - (i + 1)) * 2000 + (c.crs.length - 0) < (c.crs.length - i) * 2000 + (c.crs.length - i); omega, ?_⟩
        repeat' (first | exact True.intro | exact rfl | exact Nat.le_refl _ | refine And.intro ?_ ?_)
        all_goals first
          | (intro j hj; exact ⟨by rw [upto_succ]; exact rowN_join (upto i) _ (upto_len i).symm j hj, rfl⟩)
          | (intro j hj
             refine ⟨?_, rfl⟩
             show (bif Nat.beq j i then [AV.d (.bool true)] else [AV.d (.bool (decide (j < i)))]) = [AV.d (.bool (decide (j < i + 1)))]
             cases hb : Nat.beq j i
             · have := Nat.ne_of_beq_eq_false hb
               rw [cond_false, show decide (j < i) = decide (j < i + 1) from by rw [Bool.eq_iff_iff, decide_eq_true_iff, decide_eq_true_iff]; omega]
             · have := Nat.eq_of_beq_eq_true hb
               rw [cond_true, decide_eq_true (show j < i + 1 by omega)])
          | trace_state
    · obtain rfl : m = c.crs.length := by omega
      (refine gW ?_; intros)
      refine ⟨⟨rfl, rfl, Nat.le_of_eq (Nat.zero_add _), rfl, fun j hj => by rw [Nat.zero_add]; show [AV.d (.int .i64 ((upto c.crs.length).getD j default))] = [AV.d (.int .i64 j)]; rw [upto_getD hj]⟩, ⟨rfl, rfl, Nat.le_of_eq (Nat.zero_add _), rfl, fun j hj => ?_⟩, True.intro⟩
      rw [Nat.zero_add, rowB, decide_eq_true hj]
      rfl
end Go.Proofs.YtmlhghddfobmmaaGreatDoor
/-
  Chapter 11: names; Order and Resolve of catalogues without references.
-/
namespace Go.Ab
set_option linter.unusedSimpArgs false
set_option linter.unusedVariables false
/-- A nil slice in a slot may be taken for a row of our own, of any age. -/
theorem Awp.vecG {P : Program} {N : Nat} {c : Code} {env : Env} {m : Mem} {Q : Post} (t e sz g : Nat) (f : Nat → List AV) (ht : get env t = .d .nils)
    (k : Awp P N c ((t, .osl m.new g 0 0) :: env) (m.add (.vec e sz g 0 f)) Q) : Awp P N c env m Q :=
  ⟨fun ro lo a w σ F hN hD he hm => by
    let pl : Pl := ⟨g, sz, none⟩
    obtain ⟨g1, g2⟩ := fresh_ok (w' := w) (pl := pl) (B := .vec e sz g 0 f) hm (Nat.le_refl _) (fun _ _ => rfl) ⟨rfl, rfl, fun _ => rfl, fun i hi => absurd hi (by omega), fun b t h => by simp [pl] at h⟩ (fun b t h => by simp [pl] at h)
    have he' : EnvOk ((t, .osl m.new g 0 0) :: env) w F (upd σ m.new (some pl)) a.tmps := by
      intro k
      simp only [get]
      cases hk : Nat.beq t k with
      | true =>
        have := Nat.eq_of_beq_eq_true hk
        subst this
        simp only [cond_true]
        have hv := he t
        rw [ht] at hv
        refine .osl (upd_self σ m.new (some pl)) fun p hp => ?_
        injection hp with hp
        subst hp
        refine ⟨Nat.le_refl _, fun _ => ⟨rfl, rfl, ?_⟩⟩
        generalize a.tmps.getD t undef = X at hv
        cases hv with | d hv => cases hv; rfl
      | false => exact (he k).mono (fun _ h => h) (fun _ _ => rfl) g2
    have hst : Step σ F w (upd σ m.new (some pl)) F w := ⟨rfl, rfl, rfl, Nat.le_refl _, Nat.le_refl _, fun _ _ _ => rfl, fun _ h => h, fun _ h => .inl h, own_upd_new fun b t h => by simp [pl] at h⟩
    exact wpIn_mono (k.run ro lo a w _ F hN (hD.step hst) he' g1) fun e a2 w2 h5 => lift_trans hst (.of g2) h5⟩
end Go.Ab
namespace Go.Proofs.YtmlhghddfobmmaaGreatDoor
set_option linter.unusedSimpArgs false
set_option linter.unusedVariables false
open Go Go.Ab
set_option maxRecDepth 100000
set_option maxHeartbeats 0
/-- The numbers of courses. -/
def numsC (l : List Crs) : List Int := l.map fun x => x.number
theorem numsC_snoc {l : List Crs} {k : Nat} (hk : k < l.length) : numsC (l.take (k + 1)) = numsC (l.take k) ++ [(l.getD k default).number] := by
  rw [numsC, take_succ_at hk, List.map_append]
  rfl
theorem numsC_len {l : List Crs} {k : Nat} (hk : k ≤ l.length) : (numsC (l.take k)).length = k := by rw [numsC, List.length_map, List.length_take]; omega
structure OS where
  k : Nat
  g : Nat
theorem order_ok (c : Cat) (hf : FlatC c) (hl : c.crs.length ≤ 1000) : Pure Tryz.prog 72 [.agg (eCat c)] [eInts (numsC c.crs), .int .i64 0] := by
  have hL := listed_ok c hf hl
  refine pure_rule hT (T := tab) (N := 36) (rs := [.tmp 2, .tmp 3]) Tryz.func72 rfl rfl rfl (by kernel_rfl) rfl ?_
  (refine gW ?_; intros)
  refine hL.call ?_
  (refine gW ?_; intros)
  refine Awp.vec 2 3 1 (rowN []) rfl ?_
  refine loop_rule hT (S := OS) (fun z => ([(1, .ptr (.loc 0) 0 0 0), (2, .osl (.loc 1) z.g 0 z.k), (19, .d (.sl 1 c.crs.length fun i => [.int .i64 i])), (20, .d (.int .i64 c.crs.length)), (21, .d (.int .i64 z.k))],
    ⟨[some (.box 32 (up (eCat c))), some (.vec 3 1 z.g z.k (rowN (numsC (c.crs.take z.k))))], []⟩))
    (fun z => z.k ≤ c.crs.length) (fun z => c.crs.length - z.k) ⟨0, 0⟩ ?_ ?_ ?_
  · repeat' (first | exact True.intro | exact rfl | exact Nat.le_refl _ | refine And.intro ?_ ?_)
    all_goals first
      | (intro i hi; exact absurd hi (Nat.not_lt_zero i))
      | trace_state
  · exact Nat.zero_le _
  · rintro ⟨k, g⟩ hk
    dsimp only at hk ⊢
    by_cases hk2 : k < c.crs.length
    · (refine gW ?_; intros)
      refine ⟨⟨k + 1, g + 1⟩, by show k + 1 ≤ c.crs.length; omega, by show c.crs.length - (k + 1) < c.crs.length - k; omega, ?_⟩
      repeat' (first | exact True.intro | exact rfl | exact Nat.le_refl _ | refine And.intro ?_ ?_)
      all_goals first
        | (intro j hj; exact ⟨by rw [numsC_snoc hk2]; exact rowN_join (numsC (c.crs.take k)) _ (numsC_len hk).symm j hj, rfl⟩)
        | trace_state
    · obtain rfl : k = c.crs.length := by omega
      (refine gW ?_; intros)
      refine ⟨⟨rfl, rfl, Nat.le_of_eq (Nat.zero_add _), by rw [numsC, List.length_map], fun j hj => ?_⟩, rfl, True.intro⟩
      rw [Nat.zero_add, List.take_length]
      rfl
/-- Nothing is caught. -/
theorem caughtN_ok : CallVC Tryz.prog 49 [.d .nili, .junk] ⟨[], []⟩ (Ret (fun _ : Unit => ([], ⟨[], []⟩)) fun _ => True) := by
  refine call_rule hT (T := tab) (N := 17) (rs := []) _ _ Tryz.func49 rfl rfl rfl (by kernel_rfl) rfl ?_
  (refine gW ?_; intros)
  exact ⟨(), True.intro, by repeat' (first | exact True.intro | exact rfl | exact Nat.le_refl _ | refine And.intro ?_ ?_), rfl⟩
def rowsOf {α : Type} [Inhabited α] (enc : α → List D) (l : List α) : Nat → List AV := fun i => up (enc (l.getD i default))
theorem cloneCrs_ok (q : List Crs) (hq : q.length ≤ 1000000) : CallVC Tryz.prog 65 [.d (eCrss q)] ⟨[], []⟩
    (Ret (fun _ : Unit => ([.osl (.loc 0) 1 0 q.length], ⟨[some (.vec 68 16 1 q.length (rowsOf eCrs q))], []⟩)) fun _ => True) := by
  refine call_rule hT (T := tab) (N := 8) (rs := [.tmp 2]) _ _ Tryz.func65 rfl rfl rfl (by kernel_rfl) rfl ?_
  (refine gW ?_; intros)
  refine op_isnil rfl Tryz.underlying22 rfl rfl (fun b hb => ?_)
  cases b
  · (refine gW ?_; intros)
    refine ⟨(), True.intro, ?_, rfl⟩
    repeat' (first | exact True.intro | exact rfl | exact Nat.le_refl _ | refine And.intro ?_ ?_)
    · show AV.osl (.loc 0) (0 + 1) 0 (0 + q.length) = AV.osl (.loc 0) 1 0 q.length
      rw [Nat.zero_add q.length]
    · show q.length ≤ 0 + q.length
      omega
    all_goals first
      | (show 0 + q.length = q.length
         omega)
      | (show 0 + q.length ≤ q.length
         omega)
      | (show q.length = 0 + q.length
         omega)
      | (intro j hj
         refine ⟨?_, rfl⟩
         rw [joinF, show j.blt 0 = false from rfl]
         rfl)
  · have h0 : q = [] := List.eq_nil_of_length_eq_zero (hb rfl)
    subst h0
    (refine gS ?_; intros)
    refine Sq.go ?_
    (refine gS ?_; intros)
    refine Sq.alt (Awp.vecG 2 68 16 1 (rowsOf eCrs []) rfl (vc_ok hT _ _ _ _ (Ev.o ?_)))
    (refine gW ?_; intros)
    refine ⟨(), True.intro, ?_, rfl⟩
    repeat' (first | exact True.intro | exact rfl | exact Nat.le_refl _ | refine And.intro ?_ ?_)
    all_goals (intro j hj; exact absurd hj (Nat.not_lt_zero j))
theorem clonePai_ok (q : List Pai) (hq : q.length ≤ 1000000) : CallVC Tryz.prog 66 [.d (ePais q)] ⟨[], []⟩
    (Ret (fun _ : Unit => ([.osl (.loc 0) 1 0 q.length], ⟨[some (.vec 131 4 1 q.length (rowsOf ePai q))], []⟩)) fun _ => True) := by
  refine call_rule hT (T := tab) (N := 8) (rs := [.tmp 2]) _ _ Tryz.func66 rfl rfl rfl (by kernel_rfl) rfl ?_
  (refine gW ?_; intros)
  refine op_isnil rfl Tryz.underlying27 rfl rfl (fun b hb => ?_)
  cases b
  · (refine gW ?_; intros)
    refine ⟨(), True.intro, ?_, rfl⟩
    repeat' (first | exact True.intro | exact rfl | exact Nat.le_refl _ | refine And.intro ?_ ?_)
    · show AV.osl (.loc 0) (0 + 1) 0 (0 + q.length) = AV.osl (.loc 0) 1 0 q.length
      rw [Nat.zero_add q.length]
    · show q.length ≤ 0 + q.length
      omega
    all_goals first
      | (show 0 + q.length = q.length
         omega)
      | (show 0 + q.length ≤ q.length
         omega)
      | (show q.length = 0 + q.length
         omega)
      | (intro j hj
         refine ⟨?_, rfl⟩
         rw [joinF, show j.blt 0 = false from rfl]
         rfl)
  · have h0 : q = [] := List.eq_nil_of_length_eq_zero (hb rfl)
    subst h0
    (refine gS ?_; intros)
    refine Sq.go ?_
    (refine gS ?_; intros)
    refine Sq.alt (Awp.vecG 2 131 4 1 (rowsOf ePai []) rfl (vc_ok hT _ _ _ _ (Ev.o ?_)))
    (refine gW ?_; intros)
    refine ⟨(), True.intro, ?_, rfl⟩
    repeat' (first | exact True.intro | exact rfl | exact Nat.le_refl _ | refine And.intro ?_ ?_)
    all_goals (intro j hj; exact absurd hj (Nat.not_lt_zero j))
theorem clonePrg_ok (q : List Prg) (hq : q.length ≤ 1000000) : CallVC Tryz.prog 67 [.d (ePrgs q)] ⟨[], []⟩
    (Ret (fun _ : Unit => ([.osl (.loc 0) 1 0 q.length], ⟨[some (.vec 78 7 1 q.length (rowsOf ePrg q))], []⟩)) fun _ => True) := by
  refine call_rule hT (T := tab) (N := 8) (rs := [.tmp 2]) _ _ Tryz.func67 rfl rfl rfl (by kernel_rfl) rfl ?_
  (refine gW ?_; intros)
  refine op_isnil rfl Tryz.underlying23 rfl rfl (fun b hb => ?_)
  cases b
  · (refine gW ?_; intros)
    refine ⟨(), True.intro, ?_, rfl⟩
    repeat' (first | exact True.intro | exact rfl | exact Nat.le_refl _ | refine And.intro ?_ ?_)
    · show AV.osl (.loc 0) (0 + 1) 0 (0 + q.length) = AV.osl (.loc 0) 1 0 q.length
      rw [Nat.zero_add q.length]
    · show q.length ≤ 0 + q.length
      omega
    all_goals first
      | (show 0 + q.length = q.length
         omega)
      | (show 0 + q.length ≤ q.length
         omega)
      | (show q.length = 0 + q.length
         omega)
      | (intro j hj
         refine ⟨?_, rfl⟩
         rw [joinF, show j.blt 0 = false from rfl]
         rfl)
  · have h0 : q = [] := List.eq_nil_of_length_eq_zero (hb rfl)
    subst h0
    (refine gS ?_; intros)
    refine Sq.go ?_
    (refine gS ?_; intros)
    refine Sq.alt (Awp.vecG 2 78 7 1 (rowsOf ePrg []) rfl (vc_ok hT _ _ _ _ (Ev.o ?_)))
    (refine gW ?_; intros)
    refine ⟨(), True.intro, ?_, rfl⟩
    repeat' (first | exact True.intro | exact rfl | exact Nat.le_refl _ | refine And.intro ?_ ?_)
    all_goals (intro j hj; exact absurd hj (Nat.not_lt_zero j))
end Go.Proofs.YtmlhghddfobmmaaGreatDoor
