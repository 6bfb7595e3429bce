/-
  Seats: slices.Insert, Clone, BinarySearchFunc, DeleteFunc at rows of seats.
-/
import Derived.Test.YtfbjlakcolipaaaDoorBunA
import Derived.Test.YtfbjlakcolipaaaDoorOps
import Derived.Test.YtfbjlakcolipaaaDoorDeq
import Derived.Test.YtfbjlakcolipaaaDoorFrz
import Derived.Laws.Externs
namespace Go.Proofs.YtfbjlakcolipaaaDoor
set_option linter.unusedSimpArgs false
set_option linter.unusedVariables false
open Go Go.Ab
set_option maxRecDepth 100000
set_option maxHeartbeats 0
def rowsS (xs : List Seat) : Nat → List AV := fun i => up (eSeat (xs.getD i default))
def insAt (xs : List Seat) (i : Nat) (b : Seat) : List Seat := xs.take i ++ b :: xs.drop i
theorem insAt_end (xs : List Seat) (b : Seat) (j : Nat) (hj : j < xs.length + 1) : joinF xs.length (rowsS xs) (rowsS [b]) j = rowsS (insAt xs xs.length b) j := by
  have := join_snoc eSeat xs b (rowsS [b]) rfl j (by rw [len_snoc]; exact hj)
  unfold insAt rowsS at *
  rw [List.take_length, List.drop_length]
  exact this
theorem insAt_row (xs : List Seat) (i : Nat) (b : Seat) (hi : i ≤ xs.length) (j : Nat) : rowsS (insAt xs i b) j = if j < i then rowsS xs j else if j = i then up (eSeat b) else rowsS xs (j - 1) := by
  have hl : (xs.take i).length = i := by rw [List.length_take]; omega
  unfold rowsS insAt
  by_cases h1 : j < i
  · rw [if_pos h1, getD_append_left (by omega)]
    simp [List.getD_eq_getElem?_getD, List.getElem?_take, h1]
  · rw [if_neg h1, getD_append_right (by omega), hl]
    by_cases h2 : j = i
    · subst h2
      simp
    · rw [if_neg h2]
      obtain ⟨d, rfl⟩ : ∃ d, j = i + d + 1 := ⟨j - i - 1, by omega⟩
      rw [show i + d + 1 - i = d + 1 by omega, show i + d + 1 - 1 = i + d by omega]
      simp [List.getD_eq_getElem?_getD]
theorem insert_ok (xs : List Seat) (hx : xs.length ≤ 1000) (i : Nat) (hi : i ≤ xs.length) (b : Seat) (g : Nat) : CallVC Tryd.prog 33 [.osl (.arg 0) g 0 xs.length, .d (.int .i64 i), .osl (.arg 1) 0 0 1] ⟨[], [some (.vec 40 3 g xs.length (rowsS xs)), some (.vec 40 3 0 1 (rowsS [b]))]⟩
    (Ret (fun g' : Nat => ([.osl (.arg 0) g' 0 (xs.length + 1)], ⟨[], [some (.vec 40 3 g' (xs.length + 1) (rowsS (insAt xs i b))), none]⟩)) fun _ => True) := by
  refine call_rule hT (T := tab) (N := 95) (rs := [.tmp 6]) _ _ Tryd.func33 rfl rfl rfl (by kernel_rfl) rfl ?_
  by_cases hin : i = xs.length
  · subst hin
    repeat' (first | with_reducible refine Sq.go ?_ | ((with_reducible refine Ev.mk ?_); conv => whnf) | with_reducible refine Dr.mk ⟨by kernel_rfl, by kernel_rfl⟩ ?_ | with_reducible refine obG ?_ | with_reducible refine Ob.mk ?_ ?_ | (with_reducible first | refine brT fun h => ?_ | refine brF fun h => ?_ | refine Br.mk (fun h => ?_) fun h => ?_) <;> (try simp only [bsl, beq_iff_eq, bne_iff_ne, bs2] at h) <;> (try contradiction) <;> try (exfalso; omega))
    refine ⟨g + 1, True.intro, ?_, rfl⟩
    repeat' (first | exact True.intro | exact rfl | exact Nat.le_refl _ | refine And.intro ?_ ?_)
    all_goals (intro j hj; exact ⟨insAt_end xs b j hj, rfl⟩)
  · have hlt : i < xs.length := by omega
    repeat' (first | with_reducible refine Sq.go ?_ | ((with_reducible refine Ev.mk ?_); conv => whnf) | with_reducible refine Dr.mk ⟨by kernel_rfl, by kernel_rfl⟩ ?_ | with_reducible refine obG ?_ | with_reducible refine Ob.mk ?_ ?_ | (with_reducible first | refine brT fun h => ?_ | refine brF fun h => ?_ | refine Br.mk (fun h => ?_) fun h => ?_) <;> (try simp only [bsl, beq_iff_eq, bne_iff_ne, bs2] at h) <;> (try contradiction) <;> try (exfalso; omega))
    refine op_cap rfl Tryd.underlying28 rfl rfl (fun c hc hcm => ?_)
    repeat' (first | with_reducible refine Sq.go ?_ | ((with_reducible refine Ev.mk ?_); conv => whnf) | with_reducible refine Dr.mk ⟨by kernel_rfl, by kernel_rfl⟩ ?_ | with_reducible refine obG ?_ | with_reducible refine Ob.mk ?_ ?_ | (with_reducible first | refine brT fun h => ?_ | refine brF fun h => ?_ | refine Br.mk (fun h => ?_) fun h => ?_) <;> (try simp only [bsl, beq_iff_eq, bne_iff_ne, bs2] at h) <;> (try contradiction) <;> try (exfalso; omega))
    · refine op_slice_hi hT rfl rfl rfl rfl rfl (by omega) (by omega) ?_
      repeat' (first | with_reducible refine Sq.go ?_ | ((with_reducible refine Ev.mk ?_); conv => whnf) | with_reducible refine Dr.mk ⟨by kernel_rfl, by kernel_rfl⟩ ?_ | with_reducible refine obG ?_ | with_reducible refine Ob.mk ?_ ?_ | (with_reducible first | refine brT fun h => ?_ | refine brF fun h => ?_ | refine Br.mk (fun h => ?_) fun h => ?_) <;> (try simp only [bsl, beq_iff_eq, bne_iff_ne, bs2] at h) <;> (try contradiction) <;> try (exfalso; omega))
      refine OpVC.forget (.arg 0) (op_zeros hT rfl rfl rfl rfl rfl (by decide) rfl rfl (by show i ≤ _; omega) rfl (k := xs.length + 1 - i) (by omega) (by omega) (by show c < i + _; omega) (by show (i + _) * 24 ≤ _; omega) ?_)
      conv => whnf
      repeat' (first | with_reducible refine Sq.go ?_ | ((with_reducible refine Ev.mk ?_); conv => whnf) | with_reducible refine Dr.mk ⟨by kernel_rfl, by kernel_rfl⟩ ?_ | with_reducible refine obG ?_ | with_reducible refine Ob.mk ?_ ?_ | (with_reducible first | refine brT fun h => ?_ | refine brF fun h => ?_ | refine Br.mk (fun h => ?_) fun h => ?_) <;> (try simp only [bsl, beq_iff_eq, bne_iff_ne, bs2] at h) <;> (try contradiction) <;> try (exfalso; omega))
      refine op_copy hT rfl rfl rfl rfl rfl rfl (k := 1) (by show 1 = min 1 _; omega) (by decide) (by omega) (by omega) ?_
      repeat' (first | with_reducible refine Sq.go ?_ | ((with_reducible refine Ev.mk ?_); conv => whnf) | with_reducible refine Dr.mk ⟨by kernel_rfl, by kernel_rfl⟩ ?_ | with_reducible refine obG ?_ | with_reducible refine Ob.mk ?_ ?_ | (with_reducible first | refine brT fun h => ?_ | refine brF fun h => ?_ | refine Br.mk (fun h => ?_) fun h => ?_) <;> (try simp only [bsl, beq_iff_eq, bne_iff_ne, bs2] at h) <;> (try contradiction) <;> try (exfalso; omega))
      refine op_copy hT rfl rfl rfl rfl rfl rfl (k := xs.length - i) (by show xs.length - i = min _ _; omega) (by omega) (by omega) (by omega) ?_
      repeat' (first | ((with_reducible refine Ev.mk ?_); conv => whnf) | with_reducible refine Dr.mk ⟨by kernel_rfl, by kernel_rfl⟩ ?_ | with_reducible refine obG ?_ | with_reducible refine Ob.mk ?_ ?_ | (with_reducible first | refine brT fun h => ?_ | refine brF fun h => ?_ | refine Br.mk (fun h => ?_) fun h => ?_) <;> (try simp only [bsl, beq_iff_eq, bne_iff_ne, bs2] at h) <;> (try contradiction) <;> try (exfalso; omega))
      refine Sq.alt (Awp.move (.arg 0) (.loc 0) 9 (by decide) rfl rfl rfl (vc_ok hT _ _ _ _ (Ev.o ?_)))
      repeat' (first | with_reducible refine Sq.go ?_ | ((with_reducible refine Ev.mk ?_); conv => whnf) | with_reducible refine Dr.mk ⟨by kernel_rfl, by kernel_rfl⟩ ?_ | with_reducible refine obG ?_ | with_reducible refine Ob.mk ?_ ?_ | (with_reducible first | refine brT fun h => ?_ | refine brF fun h => ?_ | refine Br.mk (fun h => ?_) fun h => ?_) <;> (try simp only [bsl, beq_iff_eq, bne_iff_ne, bs2] at h) <;> (try contradiction) <;> try (exfalso; omega))
      refine ⟨g + 1, True.intro, ?_, rfl⟩
      have hn : i + (xs.length + 1 - i) = xs.length + 1 := by omega
      repeat' (first | exact True.intro | exact rfl | exact Nat.le_refl _ | refine And.intro ?_ ?_)
      all_goals first
        | (show AV.osl _ _ _ (i + (xs.length + 1 - i)) = _; rw [hn])
        | (show xs.length + 1 ≤ max (max (i + (xs.length + 1 - i)) (0 + i + 1)) (0 + ((i : Int) + 1).toNat + (xs.length - i)); omega)
        | (intro j hj
           refine ⟨?_, rfl⟩
           rw [insAt_row xs i b hi j]
           dsimp only
           rcases Nat.lt_trichotomy j i with h1 | h1 | h1
           · rw [if_neg (by omega), if_neg (by omega), if_pos (by omega), if_pos h1]
           · rw [if_neg (by omega), if_pos (by omega), if_neg (by omega), if_pos h1, show 0 + (j - (0 + (i : Int).toNat)) = 0 by omega]
             rfl
           · rw [if_pos (by omega), if_neg (by omega), if_neg (by omega)]
             exact congrArg (rowsS xs) (by omega))
    · refine OpVC.forget (.arg 0) (op_slice_hi hT rfl rfl rfl rfl rfl (by omega) (by omega) ?_)
      conv => whnf
      repeat' (first | with_reducible refine Sq.go ?_ | ((with_reducible refine Ev.mk ?_); conv => whnf) | with_reducible refine Dr.mk ⟨by kernel_rfl, by kernel_rfl⟩ ?_ | with_reducible refine obG ?_ | with_reducible refine Ob.mk ?_ ?_ | (with_reducible first | refine brT fun h => ?_ | refine brF fun h => ?_ | refine Br.mk (fun h => ?_) fun h => ?_) <;> (try simp only [bsl, beq_iff_eq, bne_iff_ne, bs2] at h) <;> (try contradiction) <;> try (exfalso; omega))
      refine op_overlaps hT rfl rfl (fun args w => run_callFunc_extern Tryd.func49 (by kernel_rfl) (by kernel_rfl) (by kernel_rfl) (e := Extern.SlicesOverlaps.overlaps #[28, 28] #[4]) (by kernel_rfl) args w) rfl (by decide) rfl (by decide) rfl (by omega) rfl (by decide) (by decide) ?_
      repeat' (first | with_reducible refine Sq.go ?_ | ((with_reducible refine Ev.mk ?_); conv => whnf) | with_reducible refine Dr.mk ⟨by kernel_rfl, by kernel_rfl⟩ ?_ | with_reducible refine obG ?_ | with_reducible refine Ob.mk ?_ ?_ | (with_reducible first | refine brT fun h => ?_ | refine brF fun h => ?_ | refine Br.mk (fun h => ?_) fun h => ?_) <;> (try simp only [bsl, beq_iff_eq, bne_iff_ne, bs2] at h) <;> (try contradiction) <;> try (exfalso; omega))
      refine op_copy hT rfl rfl rfl rfl rfl rfl (k := xs.length - i) (by show xs.length - i = min _ _; omega) (by omega) (by omega) (by omega) ?_
      repeat' (first | with_reducible refine Sq.go ?_ | ((with_reducible refine Ev.mk ?_); conv => whnf) | with_reducible refine Dr.mk ⟨by kernel_rfl, by kernel_rfl⟩ ?_ | with_reducible refine obG ?_ | with_reducible refine Ob.mk ?_ ?_ | (with_reducible first | refine brT fun h => ?_ | refine brF fun h => ?_ | refine Br.mk (fun h => ?_) fun h => ?_) <;> (try simp only [bsl, beq_iff_eq, bne_iff_ne, bs2] at h) <;> (try contradiction) <;> try (exfalso; omega))
      refine op_copy hT rfl rfl rfl rfl rfl rfl (k := 1) (by show 1 = min 1 _; omega) (by decide) (by omega) (by omega) ?_
      repeat' (first | with_reducible refine Sq.go ?_ | ((with_reducible refine Ev.mk ?_); conv => whnf) | with_reducible refine Dr.mk ⟨by kernel_rfl, by kernel_rfl⟩ ?_ | with_reducible refine obG ?_ | with_reducible refine Ob.mk ?_ ?_ | (with_reducible first | refine brT fun h => ?_ | refine brF fun h => ?_ | refine Br.mk (fun h => ?_) fun h => ?_) <;> (try simp only [bsl, beq_iff_eq, bne_iff_ne, bs2] at h) <;> (try contradiction) <;> try (exfalso; omega))
      refine ⟨g, True.intro, ?_, rfl⟩
      repeat' (first | exact True.intro | exact rfl | exact Nat.le_refl _ | refine And.intro ?_ ?_)
      all_goals first
        | (show xs.length + 1 ≤ max _ _; omega)
        | (intro j hj
           refine ⟨?_, rfl⟩
           rw [insAt_row xs i b hi j]
           dsimp only
           rcases Nat.lt_trichotomy j i with h1 | h1 | h1
           · rw [if_neg (by omega), if_neg (by omega), if_pos h1]
           · rw [if_pos (by omega), if_neg (by omega), if_pos h1, show 0 + (j - (0 + (i : Int).toNat)) = 0 by omega]
             rfl
           · rw [if_neg (by omega), if_pos (by omega), if_neg (by omega), if_neg (by omega)]
             exact congrArg (rowsS xs) (by omega))
end Go.Proofs.YtfbjlakcolipaaaDoor
