/-
  Seats: Take's own function, by which a seat of one section is taken.
-/
import Derived.Test.YtfbjlakcolipaaaDoorSeatL
import Derived.Test.YtfbjlakcolipaaaDoorOpsD
namespace Go.Proofs.YtfbjlakcolipaaaDoor
set_option linter.unusedSimpArgs false
set_option linter.unusedVariables false
open Go Go.Ab
set_option maxRecDepth 100000
set_option maxHeartbeats 0
theorem insAt_end1 (xs : List Seat) (b : Seat) (j : Nat) (hj : j < xs.length + 1) : joinF xs.length (rowsS xs) (fun _ => up (eSeat b)) j = rowsS (insAt xs xs.length b) j := by
  have := join_snoc eSeat xs b (fun _ => up (eSeat b)) rfl j (by rw [len_snoc]; exact hj)
  unfold insAt rowsS at *
  rw [List.take_length, List.drop_length]
  exact this
theorem insert1_ok (xs : List Seat) (hx : xs.length ≤ 1000) (i : Nat) (hi : i ≤ xs.length) (b : Seat) (g : Nat) : CallVC Tryd.prog 33 [.osl (.arg 0) g 0 xs.length, .d (.int .i64 i), .osl (.arg 1) 0 0 1] ⟨[], [some (.vec 40 3 g xs.length (rowsS xs)), some (.vec 40 3 0 1 fun _ => up (eSeat b))]⟩
    (Ret (fun g' : Nat => ([.osl (.arg 0) g' 0 (xs.length + 1)], ⟨[], [some (.vec 40 3 g' (xs.length + 1) (rowsS (insAt xs i b))), none]⟩)) fun _ => True) := by
  refine call_rule hT (T := tab) (N := 95) (rs := [.tmp 6]) _ _ Tryd.func33 rfl rfl rfl (by kernel_rfl) rfl ?_
  by_cases hin : i = xs.length
  · subst hin
    repeat' (first | with_reducible refine Sq.go ?_ | ((with_reducible refine Ev.mk ?_); conv => whnf) | with_reducible refine Dr.mk ⟨by kernel_rfl, by kernel_rfl⟩ ?_ | with_reducible refine obG ?_ | with_reducible refine Ob.mk ?_ ?_ | (with_reducible first | refine brT fun h => ?_ | refine brF fun h => ?_ | refine Br.mk (fun h => ?_) fun h => ?_) <;> (try simp only [bsl, beq_iff_eq, bne_iff_ne, bs2] at h) <;> (try contradiction) <;> try (exfalso; omega))
    refine ⟨g + 1, True.intro, ?_, rfl⟩
    repeat' (first | exact True.intro | exact rfl | exact Nat.le_refl _ | refine And.intro ?_ ?_)
    all_goals (intro j hj; exact ⟨insAt_end1 xs b j hj, rfl⟩)
  · have hlt : i < xs.length := by omega
    repeat' (first | with_reducible refine Sq.go ?_ | ((with_reducible refine Ev.mk ?_); conv => whnf) | with_reducible refine Dr.mk ⟨by kernel_rfl, by kernel_rfl⟩ ?_ | with_reducible refine obG ?_ | with_reducible refine Ob.mk ?_ ?_ | (with_reducible first | refine brT fun h => ?_ | refine brF fun h => ?_ | refine Br.mk (fun h => ?_) fun h => ?_) <;> (try simp only [bsl, beq_iff_eq, bne_iff_ne, bs2] at h) <;> (try contradiction) <;> try (exfalso; omega))
    refine op_cap rfl Tryd.underlying28 rfl rfl (fun c hc hcm => ?_)
    repeat' (first | with_reducible refine Sq.go ?_ | ((with_reducible refine Ev.mk ?_); conv => whnf) | with_reducible refine Dr.mk ⟨by kernel_rfl, by kernel_rfl⟩ ?_ | with_reducible refine obG ?_ | with_reducible refine Ob.mk ?_ ?_ | (with_reducible first | refine brT fun h => ?_ | refine brF fun h => ?_ | refine Br.mk (fun h => ?_) fun h => ?_) <;> (try simp only [bsl, beq_iff_eq, bne_iff_ne, bs2] at h) <;> (try contradiction) <;> try (exfalso; omega))
    · refine op_slice_hi hT rfl rfl rfl rfl rfl (by omega) (by omega) ?_
      repeat' (first | with_reducible refine Sq.go ?_ | ((with_reducible refine Ev.mk ?_); conv => whnf) | with_reducible refine Dr.mk ⟨by kernel_rfl, by kernel_rfl⟩ ?_ | with_reducible refine obG ?_ | with_reducible refine Ob.mk ?_ ?_ | (with_reducible first | refine brT fun h => ?_ | refine brF fun h => ?_ | refine Br.mk (fun h => ?_) fun h => ?_) <;> (try simp only [bsl, beq_iff_eq, bne_iff_ne, bs2] at h) <;> (try contradiction) <;> try (exfalso; omega))
      refine OpVC.forget (.arg 0) (op_zeros hT rfl rfl rfl rfl rfl (by decide) rfl rfl (by show i ≤ _; omega) rfl (k := xs.length + 1 - i) (by omega) (by omega) (by show c < i + _; omega) (by show (i + _) * 24 ≤ _; omega) ?_)
      conv => whnf
      repeat' (first | with_reducible refine Sq.go ?_ | ((with_reducible refine Ev.mk ?_); conv => whnf) | with_reducible refine Dr.mk ⟨by kernel_rfl, by kernel_rfl⟩ ?_ | with_reducible refine obG ?_ | with_reducible refine Ob.mk ?_ ?_ | (with_reducible first | refine brT fun h => ?_ | refine brF fun h => ?_ | refine Br.mk (fun h => ?_) fun h => ?_) <;> (try simp only [bsl, beq_iff_eq, bne_iff_ne, bs2] at h) <;> (try contradiction) <;> try (exfalso; omega))
      refine op_copy hT rfl rfl rfl rfl rfl rfl (k := 1) (by show 1 = min 1 _; omega) (by decide) (by omega) (by omega) ?_
      repeat' (first | with_reducible refine Sq.go ?_ | ((with_reducible refine Ev.mk ?_); conv => whnf) | with_reducible refine Dr.mk ⟨by kernel_rfl, by kernel_rfl⟩ ?_ | with_reducible refine obG ?_ | with_reducible refine Ob.mk ?_ ?_ | (with_reducible first | refine brT fun h => ?_ | refine brF fun h => ?_ | refine Br.mk (fun h => ?_) fun h => ?_) <;> (try simp only [bsl, beq_iff_eq, bne_iff_ne, bs2] at h) <;> (try contradiction) <;> try (exfalso; omega))
      refine op_copy hT rfl rfl rfl rfl rfl rfl (k := xs.length - i) (by show xs.length - i = min _ _; omega) (by omega) (by omega) (by omega) ?_
      repeat' (first | ((with_reducible refine Ev.mk ?_); conv => whnf) | with_reducible refine Dr.mk ⟨by kernel_rfl, by kernel_rfl⟩ ?_ | with_reducible refine obG ?_ | with_reducible refine Ob.mk ?_ ?_ | (with_reducible first | refine brT fun h => ?_ | refine brF fun h => ?_ | refine Br.mk (fun h => ?_) fun h => ?_) <;> (try simp only [bsl, beq_iff_eq, bne_iff_ne, bs2] at h) <;> (try contradiction) <;> try (exfalso; omega))
      refine Sq.alt (Awp.move (.arg 0) (.loc 0) 9 (by decide) rfl rfl rfl (vc_ok hT _ _ _ _ (Ev.o ?_)))
      repeat' (first | with_reducible refine Sq.go ?_ | ((with_reducible refine Ev.mk ?_); conv => whnf) | with_reducible refine Dr.mk ⟨by kernel_rfl, by kernel_rfl⟩ ?_ | with_reducible refine obG ?_ | with_reducible refine Ob.mk ?_ ?_ | (with_reducible first | refine brT fun h => ?_ | refine brF fun h => ?_ | refine Br.mk (fun h => ?_) fun h => ?_) <;> (try simp only [bsl, beq_iff_eq, bne_iff_ne, bs2] at h) <;> (try contradiction) <;> try (exfalso; omega))
      refine ⟨g + 1, True.intro, ?_, rfl⟩
      have hn : i + (xs.length + 1 - i) = xs.length + 1 := by omega
      repeat' (first | exact True.intro | exact rfl | exact Nat.le_refl _ | refine And.intro ?_ ?_)
      all_goals first
        | (show AV.osl _ _ _ (i + (xs.length + 1 - i)) = _; rw [hn])
        | (show xs.length + 1 ≤ max (max (i + (xs.length + 1 - i)) (0 + i + 1)) (0 + ((i : Int) + 1).toNat + (xs.length - i)); omega)
        | (intro j hj
           refine ⟨?_, rfl⟩
           rw [insAt_row xs i b hi j]
           dsimp only
           rcases Nat.lt_trichotomy j i with h1 | h1 | h1
           · rw [if_neg (by omega), if_neg (by omega), if_pos (by omega), if_pos h1]
           · rw [if_neg (by omega), if_pos (by omega), if_neg (by omega), if_pos h1]
           · rw [if_pos (by omega), if_neg (by omega), if_neg (by omega)]
             exact congrArg (rowsS xs) (by omega))
    · refine OpVC.forget (.arg 0) (op_slice_hi hT rfl rfl rfl rfl rfl (by omega) (by omega) ?_)
      conv => whnf
      repeat' (first | with_reducible refine Sq.go ?_ | ((with_reducible refine Ev.mk ?_); conv => whnf) | with_reducible refine Dr.mk ⟨by kernel_rfl, by kernel_rfl⟩ ?_ | with_reducible refine obG ?_ | with_reducible refine Ob.mk ?_ ?_ | (with_reducible first | refine brT fun h => ?_ | refine brF fun h => ?_ | refine Br.mk (fun h => ?_) fun h => ?_) <;> (try simp only [bsl, beq_iff_eq, bne_iff_ne, bs2] at h) <;> (try contradiction) <;> try (exfalso; omega))
      refine op_overlaps hT rfl rfl (fun args w => run_callFunc_extern Tryd.func49 (by kernel_rfl) (by kernel_rfl) (by kernel_rfl) (e := Extern.SlicesOverlaps.overlaps #[28, 28] #[4]) (by kernel_rfl) args w) rfl (by decide) rfl (by decide) rfl (by omega) rfl (by decide) (by decide) ?_
      repeat' (first | with_reducible refine Sq.go ?_ | ((with_reducible refine Ev.mk ?_); conv => whnf) | with_reducible refine Dr.mk ⟨by kernel_rfl, by kernel_rfl⟩ ?_ | with_reducible refine obG ?_ | with_reducible refine Ob.mk ?_ ?_ | (with_reducible first | refine brT fun h => ?_ | refine brF fun h => ?_ | refine Br.mk (fun h => ?_) fun h => ?_) <;> (try simp only [bsl, beq_iff_eq, bne_iff_ne, bs2] at h) <;> (try contradiction) <;> try (exfalso; omega))
      refine op_copy hT rfl rfl rfl rfl rfl rfl (k := xs.length - i) (by show xs.length - i = min _ _; omega) (by omega) (by omega) (by omega) ?_
      repeat' (first | with_reducible refine Sq.go ?_ | ((with_reducible refine Ev.mk ?_); conv => whnf) | with_reducible refine Dr.mk ⟨by kernel_rfl, by kernel_rfl⟩ ?_ | with_reducible refine obG ?_ | with_reducible refine Ob.mk ?_ ?_ | (with_reducible first | refine brT fun h => ?_ | refine brF fun h => ?_ | refine Br.mk (fun h => ?_) fun h => ?_) <;> (try simp only [bsl, beq_iff_eq, bne_iff_ne, bs2] at h) <;> (try contradiction) <;> try (exfalso; omega))
      refine op_copy hT rfl rfl rfl rfl rfl rfl (k := 1) (by show 1 = min 1 _; omega) (by decide) (by omega) (by omega) ?_
      repeat' (first | with_reducible refine Sq.go ?_ | ((with_reducible refine Ev.mk ?_); conv => whnf) | with_reducible refine Dr.mk ⟨by kernel_rfl, by kernel_rfl⟩ ?_ | with_reducible refine obG ?_ | with_reducible refine Ob.mk ?_ ?_ | (with_reducible first | refine brT fun h => ?_ | refine brF fun h => ?_ | refine Br.mk (fun h => ?_) fun h => ?_) <;> (try simp only [bsl, beq_iff_eq, bne_iff_ne, bs2] at h) <;> (try contradiction) <;> try (exfalso; omega))
      refine ⟨g, True.intro, ?_, rfl⟩
      repeat' (first | exact True.intro | exact rfl | exact Nat.le_refl _ | refine And.intro ?_ ?_)
      all_goals first
        | (show xs.length + 1 ≤ max _ _; omega)
        | (intro j hj
           refine ⟨?_, rfl⟩
           rw [insAt_row xs i b hi j]
           dsimp only
           rcases Nat.lt_trichotomy j i with h1 | h1 | h1
           · rw [if_neg (by omega), if_neg (by omega), if_pos h1]
           · rw [if_pos (by omega), if_neg (by omega), if_pos h1]
           · rw [if_neg (by omega), if_pos (by omega), if_neg (by omega), if_neg (by omega)]
             exact congrArg (rowsS xs) (by omega))
theorem take11v_ok (r : Int → Int) (g : Int) (hg : 0 ≤ g ∧ g < 8) : CallVC Tryd.prog 31 [.d (.int .i64 g), .ptr (.arg 0) 0 0 0] ⟨[], [some (.vec 70 1 0 8 fun j => [.d ((e8 r).getD j .nilp)])]⟩
    (Ret (fun _ : Unit => ([.d (.bool (decide (r g > 0)))], ⟨[], [some (.vec 70 1 0 8 fun j => [.d ((e8 r).getD j .nilp)])]⟩)) fun _ => True) := by
  refine call_rule hT (T := tab) (N := 8) (rs := [.tmp 3]) _ _ Tryd.func31 rfl rfl rfl (by kernel_rfl) rfl ?_
  rcases show g = 0 ∨ g = 1 ∨ g = 2 ∨ g = 3 ∨ g = 4 ∨ g = 5 ∨ g = 6 ∨ g = 7 by omega with rfl | rfl | rfl | rfl | rfl | rfl | rfl | rfl
  · repeat' (first | with_reducible refine Sq.go ?_ | ((with_reducible refine Ev.mk ?_); conv => whnf) | with_reducible refine Dr.mk ⟨by kernel_rfl, by kernel_rfl⟩ ?_ | with_reducible refine obG ?_ | with_reducible refine Ob.mk ?_ ?_ | (with_reducible first | refine brT fun h => ?_ | refine brF fun h => ?_ | refine Br.mk (fun h => ?_) fun h => ?_) <;> (try simp only [bsl, beq_iff_eq, bne_iff_ne, bs2] at h) <;> (try contradiction) <;> try (exfalso; omega))
    refine ⟨(), True.intro, ?_, rfl⟩
    repeat' (first | exact True.intro | exact rfl | exact Nat.le_refl _ | refine And.intro ?_ ?_)
    all_goals (intro i hi; exact ⟨rfl, rfl⟩)
  · repeat' (first | with_reducible refine Sq.go ?_ | ((with_reducible refine Ev.mk ?_); conv => whnf) | with_reducible refine Dr.mk ⟨by kernel_rfl, by kernel_rfl⟩ ?_ | with_reducible refine obG ?_ | with_reducible refine Ob.mk ?_ ?_ | (with_reducible first | refine brT fun h => ?_ | refine brF fun h => ?_ | refine Br.mk (fun h => ?_) fun h => ?_) <;> (try simp only [bsl, beq_iff_eq, bne_iff_ne, bs2] at h) <;> (try contradiction) <;> try (exfalso; omega))
    refine ⟨(), True.intro, ?_, rfl⟩
    repeat' (first | exact True.intro | exact rfl | exact Nat.le_refl _ | refine And.intro ?_ ?_)
    all_goals (intro i hi; exact ⟨rfl, rfl⟩)
  · repeat' (first | with_reducible refine Sq.go ?_ | ((with_reducible refine Ev.mk ?_); conv => whnf) | with_reducible refine Dr.mk ⟨by kernel_rfl, by kernel_rfl⟩ ?_ | with_reducible refine obG ?_ | with_reducible refine Ob.mk ?_ ?_ | (with_reducible first | refine brT fun h => ?_ | refine brF fun h => ?_ | refine Br.mk (fun h => ?_) fun h => ?_) <;> (try simp only [bsl, beq_iff_eq, bne_iff_ne, bs2] at h) <;> (try contradiction) <;> try (exfalso; omega))
    refine ⟨(), True.intro, ?_, rfl⟩
    repeat' (first | exact True.intro | exact rfl | exact Nat.le_refl _ | refine And.intro ?_ ?_)
    all_goals (intro i hi; exact ⟨rfl, rfl⟩)
  · repeat' (first | with_reducible refine Sq.go ?_ | ((with_reducible refine Ev.mk ?_); conv => whnf) | with_reducible refine Dr.mk ⟨by kernel_rfl, by kernel_rfl⟩ ?_ | with_reducible refine obG ?_ | with_reducible refine Ob.mk ?_ ?_ | (with_reducible first | refine brT fun h => ?_ | refine brF fun h => ?_ | refine Br.mk (fun h => ?_) fun h => ?_) <;> (try simp only [bsl, beq_iff_eq, bne_iff_ne, bs2] at h) <;> (try contradiction) <;> try (exfalso; omega))
    refine ⟨(), True.intro, ?_, rfl⟩
    repeat' (first | exact True.intro | exact rfl | exact Nat.le_refl _ | refine And.intro ?_ ?_)
    all_goals (intro i hi; exact ⟨rfl, rfl⟩)
  · repeat' (first | with_reducible refine Sq.go ?_ | ((with_reducible refine Ev.mk ?_); conv => whnf) | with_reducible refine Dr.mk ⟨by kernel_rfl, by kernel_rfl⟩ ?_ | with_reducible refine obG ?_ | with_reducible refine Ob.mk ?_ ?_ | (with_reducible first | refine brT fun h => ?_ | refine brF fun h => ?_ | refine Br.mk (fun h => ?_) fun h => ?_) <;> (try simp only [bsl, beq_iff_eq, bne_iff_ne, bs2] at h) <;> (try contradiction) <;> try (exfalso; omega))
    refine ⟨(), True.intro, ?_, rfl⟩
    repeat' (first | exact True.intro | exact rfl | exact Nat.le_refl _ | refine And.intro ?_ ?_)
    all_goals (intro i hi; exact ⟨rfl, rfl⟩)
  · repeat' (first | with_reducible refine Sq.go ?_ | ((with_reducible refine Ev.mk ?_); conv => whnf) | with_reducible refine Dr.mk ⟨by kernel_rfl, by kernel_rfl⟩ ?_ | with_reducible refine obG ?_ | with_reducible refine Ob.mk ?_ ?_ | (with_reducible first | refine brT fun h => ?_ | refine brF fun h => ?_ | refine Br.mk (fun h => ?_) fun h => ?_) <;> (try simp only [bsl, beq_iff_eq, bne_iff_ne, bs2] at h) <;> (try contradiction) <;> try (exfalso; omega))
    refine ⟨(), True.intro, ?_, rfl⟩
    repeat' (first | exact True.intro | exact rfl | exact Nat.le_refl _ | refine And.intro ?_ ?_)
    all_goals (intro i hi; exact ⟨rfl, rfl⟩)
  · repeat' (first | with_reducible refine Sq.go ?_ | ((with_reducible refine Ev.mk ?_); conv => whnf) | with_reducible refine Dr.mk ⟨by kernel_rfl, by kernel_rfl⟩ ?_ | with_reducible refine obG ?_ | with_reducible refine Ob.mk ?_ ?_ | (with_reducible first | refine brT fun h => ?_ | refine brF fun h => ?_ | refine Br.mk (fun h => ?_) fun h => ?_) <;> (try simp only [bsl, beq_iff_eq, bne_iff_ne, bs2] at h) <;> (try contradiction) <;> try (exfalso; omega))
    refine ⟨(), True.intro, ?_, rfl⟩
    repeat' (first | exact True.intro | exact rfl | exact Nat.le_refl _ | refine And.intro ?_ ?_)
    all_goals (intro i hi; exact ⟨rfl, rfl⟩)
  · repeat' (first | with_reducible refine Sq.go ?_ | ((with_reducible refine Ev.mk ?_); conv => whnf) | with_reducible refine Dr.mk ⟨by kernel_rfl, by kernel_rfl⟩ ?_ | with_reducible refine obG ?_ | with_reducible refine Ob.mk ?_ ?_ | (with_reducible first | refine brT fun h => ?_ | refine brF fun h => ?_ | refine Br.mk (fun h => ?_) fun h => ?_) <;> (try simp only [bsl, beq_iff_eq, bne_iff_ne, bs2] at h) <;> (try contradiction) <;> try (exfalso; omega))
    refine ⟨(), True.intro, ?_, rfl⟩
    repeat' (first | exact True.intro | exact rfl | exact Nat.le_refl _ | refine And.intro ?_ ?_)
    all_goals (intro i hi; exact ⟨rfl, rfl⟩)
theorem idxTake_ok (r : Int → Int) (gs : List Int) (hx : gs.length ≤ 1000000) (hg : ∀ g ∈ gs, 0 ≤ g ∧ g < 8) :
    CallVC Tryd.prog 30 [.d (eInts gs), .fn (.func 31) [] [.ptr (.arg 0) 0 0 0]] ⟨[], [some (.vec 70 1 0 8 fun j => [.d ((e8 r).getD j .nilp)])]⟩
    (Ret (fun _ : Unit => ([.d (.int .i64 (ix (fun g => decide (r g > 0)) gs 0))], ⟨[], [some (.vec 70 1 0 8 fun j => [.d ((e8 r).getD j .nilp)])]⟩)) fun _ => True) := by
  refine call_rule hT (T := tab) (N := 19) (rs := [.tmp 4]) _ _ Tryd.func30 rfl rfl rfl (by kernel_rfl) rfl ?_
  repeat' (first | with_reducible refine Sq.go ?_ | ((with_reducible refine Ev.mk ?_); conv => whnf) | with_reducible refine Dr.mk ⟨by kernel_rfl, by kernel_rfl⟩ ?_ | with_reducible refine obG ?_ | with_reducible refine Ob.mk ?_ ?_ | (with_reducible first | refine brT fun h => ?_ | refine brF fun h => ?_ | refine Br.mk (fun h => ?_) fun h => ?_) <;> (try simp only [bsl, beq_iff_eq, bne_iff_ne, bs2] at h) <;> (try contradiction) <;> try (exfalso; omega))
  refine loop_rule hT (S := Nat) (fun k => ([(0, .d (eInts gs)), (1, .fn (.func 31) [] [.ptr (.arg 0) 0 0 0]), (7, .d (.int .i64 gs.length)), (8, .d (.int .i64 k))], ⟨[], [some (.vec 70 1 0 8 fun j => [.d ((e8 r).getD j .nilp)])]⟩)) (fun k => k ≤ gs.length ∧ ix (fun g => decide (r g > 0)) gs 0 = ix (fun g => decide (r g > 0)) (gs.drop k) k) (fun k => gs.length - k) 0 ?_ ?_ ?_
  · repeat' (first | exact True.intro | exact rfl | exact Nat.le_refl _ | refine And.intro ?_ ?_)
    all_goals (intro i hi; exact ⟨rfl, rfl⟩)
  · exact ⟨Nat.zero_le _, rfl⟩
  · rintro k ⟨hk, hc⟩
    by_cases hk2 : k < gs.length
    · rw [drop_at hk2, ix] at hc
      have hcall := take11v_ok r (gs.getD k default) (hg _ (getD_mem hk2))
      by_cases hp : r (gs.getD k default) > 0
      · rw [if_pos (decide_eq_true hp)] at hc
        repeat' (first | with_reducible refine Sq.go ?_ | ((with_reducible refine Ev.mk ?_); conv => whnf) | with_reducible refine Dr.mk ⟨by kernel_rfl, by kernel_rfl⟩ ?_ | with_reducible refine obG ?_ | with_reducible refine Ob.mk ?_ ?_ | (with_reducible first | refine brT fun h => ?_ | refine brF fun h => ?_ | refine Br.mk (fun h => ?_) fun h => ?_) <;> (try simp only [bsl, beq_iff_eq, bne_iff_ne, bs2] at h) <;> (try contradiction) <;> try (exfalso; omega))
        refine ⟨⟨_, [], [.ptr (.arg 0) 0 0 0], .inl rfl, hcall.at [.arg 0] rfl ⟨rfl, True.intro⟩ (fun _ _ => ⟨rfl, ?_⟩)⟩⟩
        repeat' (first | with_reducible refine Sq.go ?_ | ((with_reducible refine Ev.mk ?_); conv => whnf) | with_reducible refine Dr.mk ⟨by kernel_rfl, by kernel_rfl⟩ ?_ | with_reducible refine obG ?_ | with_reducible refine Ob.mk ?_ ?_ | (with_reducible first | refine brT fun h => ?_ | refine brF fun h => ?_ | refine Br.mk (fun h => ?_) fun h => ?_) <;> (try simp only [bsl, beq_iff_eq, bne_iff_ne, bs2] at h) <;> (try contradiction) <;> try (exfalso; omega))
        refine ⟨(), True.intro, ?_, rfl⟩
        rw [hc]
        repeat' (first | exact True.intro | exact rfl | exact Nat.le_refl _ | refine And.intro ?_ ?_)
        all_goals (intro i hi; exact ⟨rfl, rfl⟩)
      · rw [if_neg (by rw [decide_eq_false hp]; exact Bool.false_ne_true)] at hc
        repeat' (first | with_reducible refine Sq.go ?_ | ((with_reducible refine Ev.mk ?_); conv => whnf) | with_reducible refine Dr.mk ⟨by kernel_rfl, by kernel_rfl⟩ ?_ | with_reducible refine obG ?_ | with_reducible refine Ob.mk ?_ ?_ | (with_reducible first | refine brT fun h => ?_ | refine brF fun h => ?_ | refine Br.mk (fun h => ?_) fun h => ?_) <;> (try simp only [bsl, beq_iff_eq, bne_iff_ne, bs2] at h) <;> (try contradiction) <;> try (exfalso; omega))
        refine ⟨⟨_, [], [.ptr (.arg 0) 0 0 0], .inl rfl, hcall.at [.arg 0] rfl ⟨rfl, True.intro⟩ (fun _ _ => ⟨rfl, ?_⟩)⟩⟩
        repeat' (first | with_reducible refine Sq.go ?_ | ((with_reducible refine Ev.mk ?_); conv => whnf) | with_reducible refine Dr.mk ⟨by kernel_rfl, by kernel_rfl⟩ ?_ | with_reducible refine obG ?_ | with_reducible refine Ob.mk ?_ ?_ | (with_reducible first | refine brT fun h => ?_ | refine brF fun h => ?_ | refine Br.mk (fun h => ?_) fun h => ?_) <;> (try simp only [bsl, beq_iff_eq, bne_iff_ne, bs2] at h) <;> (try contradiction) <;> try (exfalso; omega))
        refine ⟨k + 1, ⟨by show k + 1 ≤ gs.length; omega, hc⟩, by show gs.length - (k + 1) < gs.length - k; omega, ?_⟩
        repeat' (first | exact True.intro | exact rfl | exact Nat.le_refl _ | refine And.intro ?_ ?_)
        all_goals (intro i hi; exact ⟨rfl, rfl⟩)
    · rw [drop_end (by omega), ix] at hc
      repeat' (first | with_reducible refine Sq.go ?_ | ((with_reducible refine Ev.mk ?_); conv => whnf) | with_reducible refine Dr.mk ⟨by kernel_rfl, by kernel_rfl⟩ ?_ | with_reducible refine obG ?_ | with_reducible refine Ob.mk ?_ ?_ | (with_reducible first | refine brT fun h => ?_ | refine brF fun h => ?_ | refine Br.mk (fun h => ?_) fun h => ?_) <;> (try simp only [bsl, beq_iff_eq, bne_iff_ne, bs2] at h) <;> (try contradiction) <;> try (exfalso; omega))
      refine ⟨(), True.intro, ?_, rfl⟩
      rw [hc]
      repeat' (first | exact True.intro | exact rfl | exact Nat.le_refl _ | refine And.intro ?_ ?_)
      all_goals (intro i hi; exact ⟨rfl, rfl⟩)
theorem take1_ok (l : List Sec) (hl : l.length ≤ 1000000) (q : List Seat) (hq : q.length ≤ 900) (st : Int) (gs : List Int) (hgl : gs.length ≤ 1000000) (hgs : ∀ g ∈ gs, -1 < g ∧ g < 8) (now p : Int) {s : Sec} (hf : findS l p = some s) (hsm : Small s) (hsr : srtS q) (g : Nat) :
    CallVC Tryd.prog 28 [.d (.int .i64 p), .ptr (.arg 0) 0 0 0, .ptr (.arg 1) 0 0 0, .ptr (.arg 2) 0 0 0, .ptr (.arg 3) 0 0 0, .ptr (.arg 4) 0 0 0]
      ⟨[], [some (.box 22 [.d (eSecs l)]), some (.box 28 [.osl (.arg 5) g 0 q.length]), some (.box 3 [.d (.int .i64 now)]), some (.box 3 [.d (.int .i64 st)]), some (.box 36 [.d (eInts gs)]), some (.vec 40 3 g q.length (rowsS q))]⟩
    (Ret (fun z : Nat × List Seat × Bool => ([.d (.bool z.2.2)],
      ⟨[], [some (.box 22 [.d (eSecs l)]), some (.box 28 [.osl (.arg 5) z.1 0 z.2.1.length]), some (.box 3 [.d (.int .i64 now)]), some (.box 3 [.d (.int .i64 st)]), some (.box 36 [.d (eInts gs)]), some (.vec 40 3 z.1 z.2.1.length (rowsS z.2.1))]⟩
      )) fun z => match take1 s q st p gs now with
        | none => z.2.2 = false
        | some x => z.2.1 = x ∧ z.2.2 = true) := by
  refine call_rule hT (T := tab) (N := 57) (rs := [.tmp 7]) _ _ Tryd.func28 rfl rfl rfl (by kernel_rfl) rfl ?_
  have hF := find_some hl hf
  have hfr := free_ok s hsm q (by omega) now
  have hql := secL_len q s.id
  have hml : 8 ≤ maxLen := by simp [maxLen]
  have hone : ∀ x, x ∈ ([.int .i64 (resI s (secL q s.id) now 0), .int .i64 (resI s (secL q s.id) now 1), .int .i64 (resI s (secL q s.id) now 2), .int .i64 (resI s (secL q s.id) now 3), .int .i64 (resI s (secL q s.id) now 4), .int .i64 (resI s (secL q s.id) now 5), .int .i64 (resI s (secL q s.id) now 6), .int .i64 (resI s (secL q s.id) now 7)] : List D) → x.one = true := by
    intro x hx
    simp only [List.mem_cons, List.not_mem_nil, or_false] at hx
    rcases hx with rfl | rfl | rfl | rfl | rfl | rfl | rfl | rfl <;> rfl
  have hI := idxTake_ok (fun i => resI s (secL q s.id) now i) gs hgl (fun g hg => by have := hgs g hg; omega)
  have hfd := ix_find (fun g => decide (resI s (secL q s.id) now g > 0)) gs 0
  have hlt := ix_lt (fun g => decide (resI s (secL q s.id) now g > 0)) gs 0 (by decide)
  obtain ⟨i, hi⟩ : ∃ i, ix (fun g => decide (resI s (secL q s.id) now g > 0)) gs 0 = i := ⟨_, rfl⟩
  simp only [Int.natCast_zero, Int.zero_add, Nat.sub_zero] at hfd hlt
  rw [hi] at hI hfd hlt
  by_cases hi0 : 0 ≤ i
  · have hgf : grpFor s q now gs = some (gs.getD i.toNat default) := (hfd.1 hi0).1
    rw [take1, hgf]
    skip
    repeat' (first | with_reducible refine Sq.go ?_ | ((with_reducible refine Ev.mk ?_); conv => whnf) | with_reducible refine Dr.mk ⟨by kernel_rfl, by kernel_rfl⟩ ?_ | with_reducible refine obG ?_ | with_reducible refine Ob.mk ?_ ?_ | (with_reducible first | refine brT fun h => ?_ | refine brF fun h => ?_ | refine Br.mk (fun h => ?_) fun h => ?_) <;> (try simp only [bsl, beq_iff_eq, bne_iff_ne, bs2] at h) <;> (try contradiction) <;> try (exfalso; omega))
    refine hF.call ?_
    repeat' (first | with_reducible refine Sq.go ?_ | ((with_reducible refine Ev.mk ?_); conv => whnf) | with_reducible refine Dr.mk ⟨by kernel_rfl, by kernel_rfl⟩ ?_ | with_reducible refine obG ?_ | with_reducible refine Ob.mk ?_ ?_ | (with_reducible first | refine brT fun h => ?_ | refine brF fun h => ?_ | refine Br.mk (fun h => ?_) fun h => ?_) <;> (try simp only [bsl, beq_iff_eq, bne_iff_ne, bs2] at h) <;> (try contradiction) <;> try (exfalso; omega))
    refine hfr.loanA rfl ⟨.d, .rows rfl (by omega) (fun i hi => by rw [Nat.zero_add]; rfl), .d, True.intro⟩ ?_
    repeat' (first | with_reducible refine Sq.go ?_ | ((with_reducible refine Ev.mk ?_); conv => whnf) | with_reducible refine Dr.mk ⟨by kernel_rfl, by kernel_rfl⟩ ?_ | with_reducible refine obG ?_ | with_reducible refine Ob.mk ?_ ?_ | (with_reducible first | refine brT fun h => ?_ | refine brF fun h => ?_ | refine Br.mk (fun h => ?_) fun h => ?_) <;> (try simp only [bsl, beq_iff_eq, bne_iff_ne, bs2] at h) <;> (try contradiction) <;> try (exfalso; omega))
    refine hI.at [.loc 1] rfl ⟨rfl, True.intro⟩ (fun _ _ => ⟨rfl, ?_⟩)
    repeat' (first | with_reducible refine Sq.go ?_ | ((with_reducible refine Ev.mk ?_); conv => whnf) | with_reducible refine Dr.mk ⟨by kernel_rfl, by kernel_rfl⟩ ?_ | with_reducible refine obG ?_ | with_reducible refine Ob.mk ?_ ?_ | (with_reducible first | refine brT fun h => ?_ | refine brF fun h => ?_ | refine Br.mk (fun h => ?_) fun h => ?_) <;> (try simp only [bsl, beq_iff_eq, bne_iff_ne, bs2] at h) <;> (try contradiction) <;> try (exfalso; omega))
    refine (bsearch_ok q (by omega) (⟨st, p, gs.getD i.toNat default⟩ : Seat) (posS q (⟨st, p, gs.getD i.toNat default⟩ : Seat)) (posS_le q (⟨st, p, gs.getD i.toNat default⟩ : Seat)) (posS_before q (⟨st, p, gs.getD i.toNat default⟩ : Seat)) (posS_after q (⟨st, p, gs.getD i.toNat default⟩ : Seat) hsr)).loan rfl ⟨.rows rfl (by omega) (fun i hi => by rw [Nat.zero_add]; rfl), .d, .d, True.intro⟩ ?_
    repeat' (first | with_reducible refine Sq.go ?_ | ((with_reducible refine Ev.mk ?_); conv => whnf) | with_reducible refine Dr.mk ⟨by kernel_rfl, by kernel_rfl⟩ ?_ | with_reducible refine obG ?_ | with_reducible refine Ob.mk ?_ ?_ | (with_reducible first | refine brT fun h => ?_ | refine brF fun h => ?_ | refine Br.mk (fun h => ?_) fun h => ?_) <;> (try simp only [bsl, beq_iff_eq, bne_iff_ne, bs2] at h) <;> (try contradiction) <;> try (exfalso; omega))
    refine (insert1_ok q (by omega) (posS q (⟨st, p, gs.getD i.toNat default⟩ : Seat)) (posS_le q (⟨st, p, gs.getD i.toNat default⟩ : Seat)) (⟨st, p, gs.getD i.toNat default⟩ : Seat) g).at [.arg 5, .loc 3] rfl ⟨rfl, rfl, True.intro⟩ (fun g' _ => ⟨rfl, ?_⟩)
    repeat' (first | with_reducible refine Sq.go ?_ | ((with_reducible refine Ev.mk ?_); conv => whnf) | with_reducible refine Dr.mk ⟨by kernel_rfl, by kernel_rfl⟩ ?_ | with_reducible refine obG ?_ | with_reducible refine Ob.mk ?_ ?_ | (with_reducible first | refine brT fun h => ?_ | refine brF fun h => ?_ | refine Br.mk (fun h => ?_) fun h => ?_) <;> (try simp only [bsl, beq_iff_eq, bne_iff_ne, bs2] at h) <;> (try contradiction) <;> try (exfalso; omega))
    refine ⟨(g', insS q (⟨st, p, gs.getD i.toNat default⟩ : Seat), true), ⟨rfl, rfl⟩, ?_, rfl⟩
    dsimp only
    rw [insS_len, insS_at]
    repeat' (first | exact True.intro | exact rfl | exact Nat.le_refl _ | refine And.intro ?_ ?_)
    all_goals (intro i hi; exact ⟨rfl, rfl⟩)
  · have hgf : grpFor s q now gs = none := hfd.2 (by omega)
    by_cases hz : max (genI s (secL q s.id) now 8) 0 = 0
    · have hk : take1 s q st p gs now = none := by rw [take1, hgf]; exact if_pos hz
      rw [hk]
      skip
      repeat' (first | with_reducible refine Sq.go ?_ | ((with_reducible refine Ev.mk ?_); conv => whnf) | with_reducible refine Dr.mk ⟨by kernel_rfl, by kernel_rfl⟩ ?_ | with_reducible refine obG ?_ | with_reducible refine Ob.mk ?_ ?_ | (with_reducible first | refine brT fun h => ?_ | refine brF fun h => ?_ | refine Br.mk (fun h => ?_) fun h => ?_) <;> (try simp only [bsl, beq_iff_eq, bne_iff_ne, bs2] at h) <;> (try contradiction) <;> try (exfalso; omega))
      refine hF.call ?_
      repeat' (first | with_reducible refine Sq.go ?_ | ((with_reducible refine Ev.mk ?_); conv => whnf) | with_reducible refine Dr.mk ⟨by kernel_rfl, by kernel_rfl⟩ ?_ | with_reducible refine obG ?_ | with_reducible refine Ob.mk ?_ ?_ | (with_reducible first | refine brT fun h => ?_ | refine brF fun h => ?_ | refine Br.mk (fun h => ?_) fun h => ?_) <;> (try simp only [bsl, beq_iff_eq, bne_iff_ne, bs2] at h) <;> (try contradiction) <;> try (exfalso; omega))
      refine hfr.loanA rfl ⟨.d, .rows rfl (by omega) (fun i hi => by rw [Nat.zero_add]; rfl), .d, True.intro⟩ ?_
      repeat' (first | with_reducible refine Sq.go ?_ | ((with_reducible refine Ev.mk ?_); conv => whnf) | with_reducible refine Dr.mk ⟨by kernel_rfl, by kernel_rfl⟩ ?_ | with_reducible refine obG ?_ | with_reducible refine Ob.mk ?_ ?_ | (with_reducible first | refine brT fun h => ?_ | refine brF fun h => ?_ | refine Br.mk (fun h => ?_) fun h => ?_) <;> (try simp only [bsl, beq_iff_eq, bne_iff_ne, bs2] at h) <;> (try contradiction) <;> try (exfalso; omega))
      refine hI.at [.loc 1] rfl ⟨rfl, True.intro⟩ (fun _ _ => ⟨rfl, ?_⟩)
      repeat' (first | with_reducible refine Sq.go ?_ | ((with_reducible refine Ev.mk ?_); conv => whnf) | with_reducible refine Dr.mk ⟨by kernel_rfl, by kernel_rfl⟩ ?_ | with_reducible refine obG ?_ | with_reducible refine Ob.mk ?_ ?_ | (with_reducible first | refine brT fun h => ?_ | refine brF fun h => ?_ | refine Br.mk (fun h => ?_) fun h => ?_) <;> (try simp only [bsl, beq_iff_eq, bne_iff_ne, bs2] at h) <;> (try contradiction) <;> try (exfalso; omega))
      refine ⟨(g, q, false), rfl, ?_, rfl⟩
      repeat' (first | exact True.intro | exact rfl | exact Nat.le_refl _ | refine And.intro ?_ ?_)
      all_goals (intro i hi; exact ⟨rfl, rfl⟩)
    · have hk : take1 s q st p gs now = some (insS q ⟨st, p, -1⟩) := by rw [take1, hgf]; exact if_neg hz
      rw [hk]
      skip
      repeat' (first | with_reducible refine Sq.go ?_ | ((with_reducible refine Ev.mk ?_); conv => whnf) | with_reducible refine Dr.mk ⟨by kernel_rfl, by kernel_rfl⟩ ?_ | with_reducible refine obG ?_ | with_reducible refine Ob.mk ?_ ?_ | (with_reducible first | refine brT fun h => ?_ | refine brF fun h => ?_ | refine Br.mk (fun h => ?_) fun h => ?_) <;> (try simp only [bsl, beq_iff_eq, bne_iff_ne, bs2] at h) <;> (try contradiction) <;> try (exfalso; omega))
      refine hF.call ?_
      repeat' (first | with_reducible refine Sq.go ?_ | ((with_reducible refine Ev.mk ?_); conv => whnf) | with_reducible refine Dr.mk ⟨by kernel_rfl, by kernel_rfl⟩ ?_ | with_reducible refine obG ?_ | with_reducible refine Ob.mk ?_ ?_ | (with_reducible first | refine brT fun h => ?_ | refine brF fun h => ?_ | refine Br.mk (fun h => ?_) fun h => ?_) <;> (try simp only [bsl, beq_iff_eq, bne_iff_ne, bs2] at h) <;> (try contradiction) <;> try (exfalso; omega))
      refine hfr.loanA rfl ⟨.d, .rows rfl (by omega) (fun i hi => by rw [Nat.zero_add]; rfl), .d, True.intro⟩ ?_
      repeat' (first | with_reducible refine Sq.go ?_ | ((with_reducible refine Ev.mk ?_); conv => whnf) | with_reducible refine Dr.mk ⟨by kernel_rfl, by kernel_rfl⟩ ?_ | with_reducible refine obG ?_ | with_reducible refine Ob.mk ?_ ?_ | (with_reducible first | refine brT fun h => ?_ | refine brF fun h => ?_ | refine Br.mk (fun h => ?_) fun h => ?_) <;> (try simp only [bsl, beq_iff_eq, bne_iff_ne, bs2] at h) <;> (try contradiction) <;> try (exfalso; omega))
      refine hI.at [.loc 1] rfl ⟨rfl, True.intro⟩ (fun _ _ => ⟨rfl, ?_⟩)
      repeat' (first | with_reducible refine Sq.go ?_ | ((with_reducible refine Ev.mk ?_); conv => whnf) | with_reducible refine Dr.mk ⟨by kernel_rfl, by kernel_rfl⟩ ?_ | with_reducible refine obG ?_ | with_reducible refine Ob.mk ?_ ?_ | (with_reducible first | refine brT fun h => ?_ | refine brF fun h => ?_ | refine Br.mk (fun h => ?_) fun h => ?_) <;> (try simp only [bsl, beq_iff_eq, bne_iff_ne, bs2] at h) <;> (try contradiction) <;> try (exfalso; omega))
      refine (bsearch_ok q (by omega) (⟨st, p, -1⟩ : Seat) (posS q (⟨st, p, -1⟩ : Seat)) (posS_le q (⟨st, p, -1⟩ : Seat)) (posS_before q (⟨st, p, -1⟩ : Seat)) (posS_after q (⟨st, p, -1⟩ : Seat) hsr)).loan rfl ⟨.rows rfl (by omega) (fun i hi => by rw [Nat.zero_add]; rfl), .d, .d, True.intro⟩ ?_
      repeat' (first | with_reducible refine Sq.go ?_ | ((with_reducible refine Ev.mk ?_); conv => whnf) | with_reducible refine Dr.mk ⟨by kernel_rfl, by kernel_rfl⟩ ?_ | with_reducible refine obG ?_ | with_reducible refine Ob.mk ?_ ?_ | (with_reducible first | refine brT fun h => ?_ | refine brF fun h => ?_ | refine Br.mk (fun h => ?_) fun h => ?_) <;> (try simp only [bsl, beq_iff_eq, bne_iff_ne, bs2] at h) <;> (try contradiction) <;> try (exfalso; omega))
      refine (insert1_ok q (by omega) (posS q (⟨st, p, -1⟩ : Seat)) (posS_le q (⟨st, p, -1⟩ : Seat)) (⟨st, p, -1⟩ : Seat) g).at [.arg 5, .loc 3] rfl ⟨rfl, rfl, True.intro⟩ (fun g' _ => ⟨rfl, ?_⟩)
      repeat' (first | with_reducible refine Sq.go ?_ | ((with_reducible refine Ev.mk ?_); conv => whnf) | with_reducible refine Dr.mk ⟨by kernel_rfl, by kernel_rfl⟩ ?_ | with_reducible refine obG ?_ | with_reducible refine Ob.mk ?_ ?_ | (with_reducible first | refine brT fun h => ?_ | refine brF fun h => ?_ | refine Br.mk (fun h => ?_) fun h => ?_) <;> (try simp only [bsl, beq_iff_eq, bne_iff_ne, bs2] at h) <;> (try contradiction) <;> try (exfalso; omega))
      refine ⟨(g', insS q (⟨st, p, -1⟩ : Seat), true), ⟨rfl, rfl⟩, ?_, rfl⟩
      dsimp only
      rw [insS_len, insS_at]
      repeat' (first | exact True.intro | exact rfl | exact Nat.le_refl _ | refine And.intro ?_ ?_)
      all_goals (intro i hi; exact ⟨rfl, rfl⟩)
end Go.Proofs.YtfbjlakcolipaaaDoor
