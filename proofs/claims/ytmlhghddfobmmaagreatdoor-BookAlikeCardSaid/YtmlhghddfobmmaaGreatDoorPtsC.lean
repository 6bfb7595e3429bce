/-
  Chapter 7: points; what is known alike.
-/
import Derived.Test.YtmlhghddfobmmaaGreatDoorPtsB
import Derived.Test.YtmlhghddfobmmaaGreatDoorFrz
namespace Go.Proofs.YtmlhghddfobmmaaGreatDoor
set_option linter.unusedSimpArgs false
set_option linter.unusedVariables false
open Go Go.Ab
set_option maxRecDepth 100000
set_option maxHeartbeats 0
theorem ptsU_cast (v : Int → Int) (a : Nat) (n : Nat) : ptsU v a (n + 1) = ptsU v a n ++ (if 0 ≤ v ((a + n : Nat) : Int) then [⟨((a + n : Nat) : Int), v ((a + n : Nat) : Int)⟩] else []) := by
  rw [ptsU, Int.natCast_add]
theorem rowsOf_join' {α : Type} [Inhabited α] (enc : α → List D) (xs : List α) (x : α) {n : Nat} (hn : n = xs.length) (i : Nat) (hi : i < n + 1) : joinF n (fun i => up (enc (xs.getD i default))) (rowFn [up (enc x)]) i = up (enc ((xs ++ [x]).getD i default)) := by
  subst hn
  exact join_snoc enc xs x _ rfl i (by rw [len_snoc]; exact hi)
def rowP (xs : List Poi) : Nat → List AV := fun i => up (ePoi (xs.getD i default))
theorem points_ok (l : List Fct) (hl : fitL l) (k : Ke) (fr til kn : Int) : Pure Tryz.prog 116 [eFcts l, .agg (eKe k), .int .i64 fr, .int .i64 til, .int .i64 kn] [ePois (pointsV l k fr til kn)] := by
  have hV := values_ok l hl k kn
  have hml := ml1024
  have hv1 := row1024_len (valT l k kn)
  have hv2 := row1024_one (valT l k kn)
  have hv3 := fun i => row1024_at (valT l k kn) (i := i)
  unfold pointsV
  generalize row1024 (valT l k kn) = xs at hV hv1 hv2 hv3
  generalize valT l k kn = v at hv3 ⊢
  obtain ⟨a, ha⟩ : ∃ a : Nat, (a : Int) = max 0 fr := ⟨(max 0 fr).toNat, by omega⟩
  rw [← ha]
  obtain ⟨n, hn⟩ : ∃ n : Nat, ptsN fr til = n := ⟨_, rfl⟩
  rw [hn]
  unfold ptsN at hn
  refine pure_rule hT (T := tab) (N := 38) (rs := [.tmp 10]) Tryz.func116 rfl rfl rfl (by kernel_rfl) rfl ?_
  repeat' (first | with_reducible refine Sq.go ?_ | ((with_reducible refine Ev.mk ?_); conv => whnf) | with_reducible refine Dr.mk ⟨by kernel_rfl, by kernel_rfl⟩ ?_ | with_reducible refine obG ?_ | with_reducible refine Ob.mk ?_ ?_ | (with_reducible first | refine brT fun h => ?_ | refine brF fun h => ?_ | refine Br.mk (fun h => ?_) fun h => ?_) <;> (try simp only [bsl, beq_iff_eq, bne_iff_ne, bs2] at h) <;> (try contradiction) <;> try (exfalso; omega))
  refine hV.call ?_
  repeat' (first | with_reducible refine Sq.go ?_ | ((with_reducible refine Ev.mk ?_); conv => whnf) | with_reducible refine Dr.mk ⟨by kernel_rfl, by kernel_rfl⟩ ?_ | with_reducible refine obG ?_ | with_reducible refine Ob.mk ?_ ?_ | (with_reducible first | refine brT fun h => ?_ | refine brF fun h => ?_ | refine Br.mk (fun h => ?_) fun h => ?_) <;> (try simp only [bsl, beq_iff_eq, bne_iff_ne, bs2] at h) <;> (try contradiction) <;> try (exfalso; omega))
  refine Awp.vec 10 178 2 (rowP []) rfl ?_
  refine loop_rule hT (S := Nat × Nat) (fun z => ([(3, .d (.int .i64 til)), (10, .osl (.loc 2) z.2 0 (ptsU v a z.1).length), (11, .ptr (.loc 1) 0 0 0), (12, .d (.int .i64 ((a + z.1 : Nat) : Int)))],
    ⟨[none, some (.vec 222 1 0 1024 fun j => [.d (.int .i64 (v j))]), some (.vec 178 2 z.2 (ptsU v a z.1).length (rowP (ptsU v a z.1)))], []⟩)) (fun z => z.1 ≤ n) (fun z => n - z.1) (0, 0) ?_ ?_ ?_
  · repeat' (first | exact True.intro | exact rfl | exact Nat.le_refl _ | refine And.intro ?_ ?_)
    all_goals first
      | (intro i hi; exact ⟨congrArg (fun x => [AV.d x]) (hv3 i hi), rfl⟩)
      | (intro i hi; exact absurd hi (Nat.not_lt_zero i))
      | exact congrArg (fun n => AV.d (.int .i64 n)) (by show _ = ((a + 0 : Nat) : Int); rw [Nat.add_zero, ha]; rfl)
  · exact Nat.zero_le _
  · rintro ⟨j, g⟩ hj
    dsimp only at hj ⊢
    have hlen := ptsU_len v a j
    have hs := ptsU_cast v a j
    by_cases hj2 : j < n
    · have hb : a + j < 1024 := by omega
      by_cases h0 : 0 ≤ v ((a + j : Nat) : Int)
      · rw [if_pos h0] at hs
        have ks : Kp _ := ⟨hs⟩
        clear hs
        repeat' (first | with_reducible refine Sq.go ?_ | ((with_reducible refine Ev.mk ?_); conv => whnf) | with_reducible refine Dr.mk ⟨by kernel_rfl, by kernel_rfl⟩ ?_ | with_reducible refine obG ?_ | with_reducible refine Ob.mk ?_ ?_ | (with_reducible first | refine brT fun h => ?_ | refine brF fun h => ?_ | refine Br.mk (fun h => ?_) fun h => ?_) <;> (try simp only [bsl, beq_iff_eq, bne_iff_ne, bs2] at h) <;> (try contradiction) <;> try (exfalso; omega))
        all_goals try (exfalso; simp only [cond_true, cond_false] at h; omega)
        refine ⟨(j + 1, g + 1), by show j + 1 ≤ n; omega, by show n - (j + 1) < n - j; omega, ?_⟩
        dsimp only
        rw [ks.h, len_snoc]
        repeat' (first | exact True.intro | exact rfl | exact Nat.le_refl _ | refine And.intro ?_ ?_)
        all_goals first
          | (intro i hi; exact ⟨rfl, rfl⟩)
          | (intro i hi; exact ⟨rowsOf_join' ePoi (ptsU v a j) ⟨((a + j : Nat) : Int), v ((a + j : Nat) : Int)⟩ rfl i hi, rfl⟩)
          | trace_state
      · rw [if_neg h0, List.append_nil] at hs
        have ks : Kp _ := ⟨hs⟩
        clear hs
        ((refine xW ?_ ?_) <;> (intros; try rename_i h))
        all_goals try (exfalso; simp only [cond_true, cond_false] at h; omega)
        refine ⟨(j + 1, g), by show j + 1 ≤ n; omega, by show n - (j + 1) < n - j; omega, ?_⟩
        dsimp only
        rw [ks.h]
        repeat' (first | exact True.intro | exact rfl | exact Nat.le_refl _ | refine And.intro ?_ ?_)
        all_goals first
          | (intro i hi; exact ⟨rfl, rfl⟩)
          | trace_state
    · obtain rfl : j = n := by omega
      have hd : ¬ ((a + j : Nat) : Int) < (bif false then max til 1024 else min til 1024) := by rw [cond_false]; omega
      (refine gW ?_; intros; try rename_i h)
      refine ⟨⟨rfl, rfl, ?_, rfl, fun i hi => ?_⟩, True.intro⟩
      · exact Nat.le_of_eq (Nat.zero_add _)
      · rw [Nat.zero_add]
        rfl
theorem eqPoi_ok (xs ys : List Poi) (hx : xs.length ≤ 100000) (hy : ys.length ≤ 100000) : Pure Tryz.prog 115 [ePois xs, ePois ys] [.bool (decide (xs = ys))] := by
  refine pure_rule hT (T := tab) (N := 26) (rs := [.tmp 4]) Tryz.func115 rfl rfl rfl (by kernel_rfl) rfl ?_
  by_cases hl : xs.length = ys.length
  case neg =>
    rw [decide_eq_false (fun e => hl (by rw [e]))]
    (refine gW ?_; intros)
    exact ⟨rfl, True.intro⟩
  (refine gW ?_; intros)
  refine loop_rule hT (S := Nat) (fun k => ([(0, .d (ePois xs)), (1, .d (ePois ys)), (4, .d (.bool false)), (12, .d (.int .i64 xs.length)), (13, .d (.int .i64 k))], ⟨[], []⟩)) (fun k => k ≤ xs.length ∧ (xs = ys ↔ xs.drop k = ys.drop k)) (fun k => xs.length - k) 0 ?_ ?_ ?_
  · repeat' (first | exact True.intro | exact rfl | exact Nat.le_refl _ | refine And.intro ?_ ?_)
  · exact ⟨Nat.zero_le _, Iff.rfl⟩
  · rintro k ⟨hk, hc⟩
    have kc : Kp _ := ⟨hc⟩
    clear hc
    dsimp only at hk ⊢
    by_cases hk2 : k < xs.length
    · have hkb : k < ys.length := by omega
      have hd : Kp (xs = ys ↔ xs.getD k default = ys.getD k default ∧ xs.drop (k + 1) = ys.drop (k + 1)) := ⟨by rw [kc.h, drop_at hk2, drop_at hkb]; simp⟩
      by_cases e : (xs.getD k default).term = (ys.getD k default).term ∧ (xs.getD k default).value = (ys.getD k default).value
      · have e2 : xs.getD k default = ys.getD k default := by
          revert e
          generalize xs.getD k default = p
          generalize ys.getD k default = q
          intro e
          cases p; cases q; simp_all
        have kn : Kp (xs = ys ↔ xs.drop (k + 1) = ys.drop (k + 1)) := ⟨by rw [hd.h]; exact ⟨fun h => h.2, fun h => ⟨e2, h⟩⟩⟩
        obtain ⟨e3, e4⟩ := e
        (refine gP ?_; intros)
        refine ⟨k + 1, ⟨by show k + 1 ≤ xs.length; omega, kn.h⟩, by show xs.length - (k + 1) < xs.length - k; omega, ?_⟩
        repeat' (first | exact True.intro | exact rfl | exact Nat.le_refl _ | refine And.intro ?_ ?_)
      · rw [decide_eq_false (fun e2 => e (by rw [(hd.h.1 e2).1]; exact ⟨rfl, rfl⟩))]
        (refine gP ?_; intros)
        all_goals first
          | exact ⟨rfl, True.intro⟩
          | exact (e h).elim
    · rw [decide_eq_true (kc.h.2 (by rw [drop_end (by omega), drop_end (by omega)]))]
      (refine gW ?_; intros)
      exact ⟨rfl, True.intro⟩
theorem alike_ok (l : List Fct) (hl : fitL l) (rs : List Red) (hr : fitL rs) (b a : Int) : Pure Tryz.prog 44 [eFcts l, eReds rs, .int .i64 b, .int .i64 a] [.bool (alikeV l rs b a)] := by
  have hr' : rs.length ≤ 9223372036854775807 := hr
  refine pure_rule hT (T := tab) (N := 38) (rs := [.tmp 8]) Tryz.func44 rfl rfl rfl (by kernel_rfl) rfl ?_
  (refine gW ?_; intros)
  refine loop_rule hT (S := Nat) (fun k => ([(0, .d (eFcts l)), (2, .d (.int .i64 b)), (3, .d (.int .i64 a)), (8, .d (.bool false)), (11, .d (eReds rs)), (12, .d (.int .i64 rs.length)), (13, .d (.int .i64 k))], ⟨[], []⟩)) (fun k => k ≤ rs.length ∧ alikeV l rs b a = alikeV l (rs.drop k) b a) (fun k => rs.length - k) 0 ?_ ?_ ?_
  · repeat' (first | exact True.intro | exact rfl | exact Nat.le_refl _ | refine And.intro ?_ ?_)
  · exact ⟨Nat.zero_le _, rfl⟩
  · rintro k ⟨hk, hc⟩
    have kc : Kp _ := ⟨hc⟩
    clear hc
    dsimp only at hk ⊢
    by_cases hk2 : k < rs.length
    · have hd : Kp (alikeV l rs b a = (decide (pointsV l (rKe (rs.getD k default)) (rs.getD k default).fr (rs.getD k default).til b = pointsV l (rKe (rs.getD k default)) (rs.getD k default).fr (rs.getD k default).til a) && alikeV l (rs.drop (k + 1)) b a)) := ⟨by
        rw [kc.h, drop_at hk2]
        rfl⟩
      have hP := points_ok l hl (rKe (rs.getD k default)) (rs.getD k default).fr (rs.getD k default).til b
      have hQ := points_ok l hl (rKe (rs.getD k default)) (rs.getD k default).fr (rs.getD k default).til a
      have p1 := pointsV_len l (rKe (rs.getD k default)) (rs.getD k default).fr (rs.getD k default).til b
      have p2 := pointsV_len l (rKe (rs.getD k default)) (rs.getD k default).fr (rs.getD k default).til a
      generalize pointsV l (rKe (rs.getD k default)) (rs.getD k default).fr (rs.getD k default).til b = u at hd hP p1
      generalize pointsV l (rKe (rs.getD k default)) (rs.getD k default).fr (rs.getD k default).til a = v at hd hQ p2
      have hE := eqPoi_ok u v (by omega) (by omega)
      cases he : decide (u = v)
      · rw [he] at hE
        have kd : Kp (alikeV l rs b a = false) := ⟨by rw [hd.h, he]; rfl⟩
        clear hd he
        (refine gW ?_; intros)
        refine qC hP ?_
        (refine gW ?_; intros)
        refine qC hQ ?_
        (refine gW ?_; intros)
        refine qC hE ?_
        (refine gW ?_; intros)
        rw [kd.h]
        exact ⟨rfl, True.intro⟩
      · rw [he] at hE
        have kd : Kp (alikeV l rs b a = alikeV l (rs.drop (k + 1)) b a) := ⟨by rw [hd.h, he]; rfl⟩
        clear hd he
        (refine gW ?_; intros)
        refine qC hP ?_
        (refine gW ?_; intros)
        refine qC hQ ?_
        (refine gW ?_; intros)
        refine qC hE ?_
        (refine gW ?_; intros)
        refine ⟨k + 1, ⟨by show k + 1 ≤ rs.length; omega, kd.h⟩, by show rs.length - (k + 1) < rs.length - k; omega, ?_⟩
        repeat' (first | exact True.intro | exact rfl | exact Nat.le_refl _ | refine And.intro ?_ ?_)
    · have e : alikeV l rs b a = true := by
        rw [kc.h, drop_end (by omega)]
        rfl
      rw [e]
      (refine gW ?_; intros)
      exact ⟨rfl, True.intro⟩
end Go.Proofs.YtmlhghddfobmmaaGreatDoor
