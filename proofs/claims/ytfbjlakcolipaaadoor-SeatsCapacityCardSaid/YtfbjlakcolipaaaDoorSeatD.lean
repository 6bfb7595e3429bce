/-
  Seats: free.
-/
import Derived.Test.YtfbjlakcolipaaaDoorSeatC
namespace Go.Proofs.YtfbjlakcolipaaaDoor
set_option linter.unusedSimpArgs false
set_option linter.unusedVariables false
open Go Go.Ab
set_option maxRecDepth 100000
set_option maxHeartbeats 0
def resI (s : Sec) (q : List Seat) (now : Int) (g : Int) : Int := min (max (keptI s g now - cntG q g) 0) (s.seats - q.length)
def genI (s : Sec) (q : List Seat) (now : Int) : Nat → Int
  | 0 => s.seats - cntG q (-1)
  | k + 1 => genI s q now k - max (keptI s k now) (cntG q k)
def eRes (s : Sec) (q : List Seat) (now : Int) : D := .agg [.int .i64 (resI s q now 0), .int .i64 (resI s q now 1), .int .i64 (resI s q now 2), .int .i64 (resI s q now 3), .int .i64 (resI s q now 4), .int .i64 (resI s q now 5), .int .i64 (resI s q now 6), .int .i64 (resI s q now 7)]
/-- A section with few seats. -/
structure Small (s : Sec) : Prop where
  groups : s.groups.length ≤ 1000000
  lo : 0 ≤ s.seats
  hi : s.seats ≤ 10000
  kept : ∀ g now, 0 ≤ keptI s g now ∧ keptI s g now ≤ 10000
theorem genI_bd {s : Sec} (hs : Small s) {q : List Seat} (hq : q.length ≤ 1000) (now : Int) : ∀ k : Nat, -1000 - 11000 * k ≤ genI s q now k ∧ genI s q now k ≤ 10000
  | 0 => by
    have := cntG_le q (-1)
    have := hs.lo
    have := hs.hi
    simp only [genI]
    omega
  | k + 1 => by
    have h1 := genI_bd hs hq now k
    have h2 := cntG_le q k
    have h3 := hs.kept k now
    simp only [genI]
    omega
theorem secL_len (taken : List Seat) (n : Int) : (secL taken n).length ≤ taken.length := List.length_filter_le _ _
theorem free_ok (s : Sec) (hs : Small s) (taken : List Seat) (hx : taken.length ≤ 1000) (now : Int) : Pure Tryd.prog 29 [.agg (eSec s), eSeats taken, .int .i64 now]
    [.int .i64 (s.seats - ((secL taken s.id).length : Int)), .int .i64 (max (genI s (secL taken s.id) now 8) 0), eRes s (secL taken s.id) now] := by
  refine pure_rule hT (T := tab) (N := 58) (rs := [.tmp 6, .tmp 7, .cell 8 70]) Tryd.func29 rfl rfl rfl (by kernel_rfl) rfl ?_
  have hc := count_ok taken (by omega) s.id
  have hql := secL_len taken s.id
  obtain ⟨q, hq⟩ : ∃ q, secL taken s.id = q := ⟨_, rfl⟩
  rw [hq] at hc hql ⊢
  have hlo := hs.lo
  have hhi := hs.hi
  have hb8 := cntG_le q (-1)
  repeat' (first | with_reducible refine Sq.go ?_ | ((with_reducible refine Ev.mk ?_); conv => whnf) | with_reducible refine Dr.mk ⟨by kernel_rfl, by kernel_rfl⟩ ?_ | with_reducible refine obG ?_ | with_reducible refine Ob.mk ?_ ?_ | (with_reducible first | refine brT fun h => ?_ | refine brF fun h => ?_ | refine Br.mk (fun h => ?_) fun h => ?_) <;> (try simp only [bsl, beq_iff_eq, bne_iff_ne, bs2] at h) <;> (try contradiction) <;> try (exfalso; omega))
  · simp [maxLen]
  refine hc.call ?_
  repeat' (first | with_reducible refine Sq.go ?_ | ((with_reducible refine Ev.mk ?_); conv => whnf) | with_reducible refine Dr.mk ⟨by kernel_rfl, by kernel_rfl⟩ ?_ | with_reducible refine obG ?_ | with_reducible refine Ob.mk ?_ ?_ | (with_reducible first | refine brT fun h => ?_ | refine brF fun h => ?_ | refine Br.mk (fun h => ?_) fun h => ?_) <;> (try simp only [bsl, beq_iff_eq, bne_iff_ne, bs2] at h) <;> (try contradiction) <;> try (exfalso; omega))
  refine loop_rule hT (S := Nat) (fun k => ([(2, .d (.int .i64 now)), (3, .ptr (.loc 0) 0 0 0), (6, .d (.int .i64 (s.seats - (q.length : Int)))), (7, .d (.int .i64 (genI s q now k))), (8, .ptr (.loc 1) 0 0 0), (9, .ptr (.loc 2) 0 0 0), (27, .d (.int .i64 k))],
      ⟨[some (.box 44 (up (eSec s))), some (.vec 70 1 0 8 fun j => [.d (.int .i64 (if j < k then resI s q now j else 0))]), some (.box 63 (up (eCnt q)))], []⟩)) (fun k => k ≤ 8) (fun k => 8 - k) 0 ?_ ?_ ?_
  · repeat' (first | exact True.intro | exact rfl | exact Nat.le_refl _ | refine And.intro ?_ ?_)
    all_goals
      intro i hi
      rcases show i = 0 ∨ i = 1 ∨ i = 2 ∨ i = 3 ∨ i = 4 ∨ i = 5 ∨ i = 6 ∨ i = 7 by omega with rfl | rfl | rfl | rfl | rfl | rfl | rfl | rfl <;> exact ⟨rfl, rfl⟩
  · exact Nat.zero_le _
  · intro k hk
    have hgb := genI_bd hs (show q.length ≤ 1000 by omega) now k
    have hcb := cntG_le q k
    have hkb := hs.kept k now
    have hK := kept_ok s hs.groups k now
    rcases show k = 0 ∨ k = 1 ∨ k = 2 ∨ k = 3 ∨ k = 4 ∨ k = 5 ∨ k = 6 ∨ k = 7 ∨ k = 8 by omega with rfl | rfl | rfl | rfl | rfl | rfl | rfl | rfl | rfl
    · skip
      have hcb' : 0 ≤ cntG q 0 ∧ cntG q 0 ≤ q.length := hcb
      have hkb' : 0 ≤ keptI s 0 now ∧ keptI s 0 now ≤ 10000 := hkb
      have hi64 : In .i64 (genI s q now 0 - max (keptI s 0 now) (cntG q 0)) := in64.2 (by omega)
      repeat' (first | with_reducible refine Sq.go ?_ | ((with_reducible refine Ev.mk ?_); conv => whnf) | with_reducible refine Dr.mk ⟨by kernel_rfl, by kernel_rfl⟩ ?_ | with_reducible refine obG ?_ | with_reducible refine Ob.mk ?_ ?_ | (with_reducible first | refine brT fun h => ?_ | refine brF fun h => ?_ | refine Br.mk (fun h => ?_) fun h => ?_) <;> (try simp only [bsl, beq_iff_eq, bne_iff_ne, bs2] at h) <;> (try contradiction) <;> try (exfalso; omega))
      refine hK.call ?_
      repeat' (first | with_reducible refine Sq.go ?_ | ((with_reducible refine Ev.mk ?_); conv => whnf) | with_reducible refine Dr.mk ⟨by kernel_rfl, by kernel_rfl⟩ ?_ | with_reducible refine obG ?_ | with_reducible refine Ob.mk ?_ ?_ | (with_reducible first | refine brT fun h => ?_ | refine brF fun h => ?_ | refine Br.mk (fun h => ?_) fun h => ?_) <;> (try simp only [bsl, beq_iff_eq, bne_iff_ne, bs2] at h) <;> (try contradiction) <;> try (exfalso; omega))
      refine ⟨1, by decide, by decide, ?_⟩
      repeat' (first | exact True.intro | exact rfl | exact Nat.le_refl _ | refine And.intro ?_ ?_)
      all_goals
        intro i hi
        rcases show i = 0 ∨ i = 1 ∨ i = 2 ∨ i = 3 ∨ i = 4 ∨ i = 5 ∨ i = 6 ∨ i = 7 by omega with rfl | rfl | rfl | rfl | rfl | rfl | rfl | rfl <;> exact ⟨rfl, rfl⟩
    · skip
      have hcb' : 0 ≤ cntG q 1 ∧ cntG q 1 ≤ q.length := hcb
      have hkb' : 0 ≤ keptI s 1 now ∧ keptI s 1 now ≤ 10000 := hkb
      have hi64 : In .i64 (genI s q now 1 - max (keptI s 1 now) (cntG q 1)) := in64.2 (by omega)
      repeat' (first | with_reducible refine Sq.go ?_ | ((with_reducible refine Ev.mk ?_); conv => whnf) | with_reducible refine Dr.mk ⟨by kernel_rfl, by kernel_rfl⟩ ?_ | with_reducible refine obG ?_ | with_reducible refine Ob.mk ?_ ?_ | (with_reducible first | refine brT fun h => ?_ | refine brF fun h => ?_ | refine Br.mk (fun h => ?_) fun h => ?_) <;> (try simp only [bsl, beq_iff_eq, bne_iff_ne, bs2] at h) <;> (try contradiction) <;> try (exfalso; omega))
      refine hK.call ?_
      repeat' (first | with_reducible refine Sq.go ?_ | ((with_reducible refine Ev.mk ?_); conv => whnf) | with_reducible refine Dr.mk ⟨by kernel_rfl, by kernel_rfl⟩ ?_ | with_reducible refine obG ?_ | with_reducible refine Ob.mk ?_ ?_ | (with_reducible first | refine brT fun h => ?_ | refine brF fun h => ?_ | refine Br.mk (fun h => ?_) fun h => ?_) <;> (try simp only [bsl, beq_iff_eq, bne_iff_ne, bs2] at h) <;> (try contradiction) <;> try (exfalso; omega))
      refine ⟨2, by decide, by decide, ?_⟩
      repeat' (first | exact True.intro | exact rfl | exact Nat.le_refl _ | refine And.intro ?_ ?_)
      all_goals
        intro i hi
        rcases show i = 0 ∨ i = 1 ∨ i = 2 ∨ i = 3 ∨ i = 4 ∨ i = 5 ∨ i = 6 ∨ i = 7 by omega with rfl | rfl | rfl | rfl | rfl | rfl | rfl | rfl <;> exact ⟨rfl, rfl⟩
    · skip
      have hcb' : 0 ≤ cntG q 2 ∧ cntG q 2 ≤ q.length := hcb
      have hkb' : 0 ≤ keptI s 2 now ∧ keptI s 2 now ≤ 10000 := hkb
      have hi64 : In .i64 (genI s q now 2 - max (keptI s 2 now) (cntG q 2)) := in64.2 (by omega)
      repeat' (first | with_reducible refine Sq.go ?_ | ((with_reducible refine Ev.mk ?_); conv => whnf) | with_reducible refine Dr.mk ⟨by kernel_rfl, by kernel_rfl⟩ ?_ | with_reducible refine obG ?_ | with_reducible refine Ob.mk ?_ ?_ | (with_reducible first | refine brT fun h => ?_ | refine brF fun h => ?_ | refine Br.mk (fun h => ?_) fun h => ?_) <;> (try simp only [bsl, beq_iff_eq, bne_iff_ne, bs2] at h) <;> (try contradiction) <;> try (exfalso; omega))
      refine hK.call ?_
      repeat' (first | with_reducible refine Sq.go ?_ | ((with_reducible refine Ev.mk ?_); conv => whnf) | with_reducible refine Dr.mk ⟨by kernel_rfl, by kernel_rfl⟩ ?_ | with_reducible refine obG ?_ | with_reducible refine Ob.mk ?_ ?_ | (with_reducible first | refine brT fun h => ?_ | refine brF fun h => ?_ | refine Br.mk (fun h => ?_) fun h => ?_) <;> (try simp only [bsl, beq_iff_eq, bne_iff_ne, bs2] at h) <;> (try contradiction) <;> try (exfalso; omega))
      refine ⟨3, by decide, by decide, ?_⟩
      repeat' (first | exact True.intro | exact rfl | exact Nat.le_refl _ | refine And.intro ?_ ?_)
      all_goals
        intro i hi
        rcases show i = 0 ∨ i = 1 ∨ i = 2 ∨ i = 3 ∨ i = 4 ∨ i = 5 ∨ i = 6 ∨ i = 7 by omega with rfl | rfl | rfl | rfl | rfl | rfl | rfl | rfl <;> exact ⟨rfl, rfl⟩
    · skip
      have hcb' : 0 ≤ cntG q 3 ∧ cntG q 3 ≤ q.length := hcb
      have hkb' : 0 ≤ keptI s 3 now ∧ keptI s 3 now ≤ 10000 := hkb
      have hi64 : In .i64 (genI s q now 3 - max (keptI s 3 now) (cntG q 3)) := in64.2 (by omega)
      repeat' (first | with_reducible refine Sq.go ?_ | ((with_reducible refine Ev.mk ?_); conv => whnf) | with_reducible refine Dr.mk ⟨by kernel_rfl, by kernel_rfl⟩ ?_ | with_reducible refine obG ?_ | with_reducible refine Ob.mk ?_ ?_ | (with_reducible first | refine brT fun h => ?_ | refine brF fun h => ?_ | refine Br.mk (fun h => ?_) fun h => ?_) <;> (try simp only [bsl, beq_iff_eq, bne_iff_ne, bs2] at h) <;> (try contradiction) <;> try (exfalso; omega))
      refine hK.call ?_
      repeat' (first | with_reducible refine Sq.go ?_ | ((with_reducible refine Ev.mk ?_); conv => whnf) | with_reducible refine Dr.mk ⟨by kernel_rfl, by kernel_rfl⟩ ?_ | with_reducible refine obG ?_ | with_reducible refine Ob.mk ?_ ?_ | (with_reducible first | refine brT fun h => ?_ | refine brF fun h => ?_ | refine Br.mk (fun h => ?_) fun h => ?_) <;> (try simp only [bsl, beq_iff_eq, bne_iff_ne, bs2] at h) <;> (try contradiction) <;> try (exfalso; omega))
      refine ⟨4, by decide, by decide, ?_⟩
      repeat' (first | exact True.intro | exact rfl | exact Nat.le_refl _ | refine And.intro ?_ ?_)
      all_goals
        intro i hi
        rcases show i = 0 ∨ i = 1 ∨ i = 2 ∨ i = 3 ∨ i = 4 ∨ i = 5 ∨ i = 6 ∨ i = 7 by omega with rfl | rfl | rfl | rfl | rfl | rfl | rfl | rfl <;> exact ⟨rfl, rfl⟩
    · skip
      have hcb' : 0 ≤ cntG q 4 ∧ cntG q 4 ≤ q.length := hcb
      have hkb' : 0 ≤ keptI s 4 now ∧ keptI s 4 now ≤ 10000 := hkb
      have hi64 : In .i64 (genI s q now 4 - max (keptI s 4 now) (cntG q 4)) := in64.2 (by omega)
      repeat' (first | with_reducible refine Sq.go ?_ | ((with_reducible refine Ev.mk ?_); conv => whnf) | with_reducible refine Dr.mk ⟨by kernel_rfl, by kernel_rfl⟩ ?_ | with_reducible refine obG ?_ | with_reducible refine Ob.mk ?_ ?_ | (with_reducible first | refine brT fun h => ?_ | refine brF fun h => ?_ | refine Br.mk (fun h => ?_) fun h => ?_) <;> (try simp only [bsl, beq_iff_eq, bne_iff_ne, bs2] at h) <;> (try contradiction) <;> try (exfalso; omega))
      refine hK.call ?_
      repeat' (first | with_reducible refine Sq.go ?_ | ((with_reducible refine Ev.mk ?_); conv => whnf) | with_reducible refine Dr.mk ⟨by kernel_rfl, by kernel_rfl⟩ ?_ | with_reducible refine obG ?_ | with_reducible refine Ob.mk ?_ ?_ | (with_reducible first | refine brT fun h => ?_ | refine brF fun h => ?_ | refine Br.mk (fun h => ?_) fun h => ?_) <;> (try simp only [bsl, beq_iff_eq, bne_iff_ne, bs2] at h) <;> (try contradiction) <;> try (exfalso; omega))
      refine ⟨5, by decide, by decide, ?_⟩
      repeat' (first | exact True.intro | exact rfl | exact Nat.le_refl _ | refine And.intro ?_ ?_)
      all_goals
        intro i hi
        rcases show i = 0 ∨ i = 1 ∨ i = 2 ∨ i = 3 ∨ i = 4 ∨ i = 5 ∨ i = 6 ∨ i = 7 by omega with rfl | rfl | rfl | rfl | rfl | rfl | rfl | rfl <;> exact ⟨rfl, rfl⟩
    · skip
      have hcb' : 0 ≤ cntG q 5 ∧ cntG q 5 ≤ q.length := hcb
      have hkb' : 0 ≤ keptI s 5 now ∧ keptI s 5 now ≤ 10000 := hkb
      have hi64 : In .i64 (genI s q now 5 - max (keptI s 5 now) (cntG q 5)) := in64.2 (by omega)
      repeat' (first | with_reducible refine Sq.go ?_ | ((with_reducible refine Ev.mk ?_); conv => whnf) | with_reducible refine Dr.mk ⟨by kernel_rfl, by kernel_rfl⟩ ?_ | with_reducible refine obG ?_ | with_reducible refine Ob.mk ?_ ?_ | (with_reducible first | refine brT fun h => ?_ | refine brF fun h => ?_ | refine Br.mk (fun h => ?_) fun h => ?_) <;> (try simp only [bsl, beq_iff_eq, bne_iff_ne, bs2] at h) <;> (try contradiction) <;> try (exfalso; omega))
      refine hK.call ?_
      repeat' (first | with_reducible refine Sq.go ?_ | ((with_reducible refine Ev.mk ?_); conv => whnf) | with_reducible refine Dr.mk ⟨by kernel_rfl, by kernel_rfl⟩ ?_ | with_reducible refine obG ?_ | with_reducible refine Ob.mk ?_ ?_ | (with_reducible first | refine brT fun h => ?_ | refine brF fun h => ?_ | refine Br.mk (fun h => ?_) fun h => ?_) <;> (try simp only [bsl, beq_iff_eq, bne_iff_ne, bs2] at h) <;> (try contradiction) <;> try (exfalso; omega))
      refine ⟨6, by decide, by decide, ?_⟩
      repeat' (first | exact True.intro | exact rfl | exact Nat.le_refl _ | refine And.intro ?_ ?_)
      all_goals
        intro i hi
        rcases show i = 0 ∨ i = 1 ∨ i = 2 ∨ i = 3 ∨ i = 4 ∨ i = 5 ∨ i = 6 ∨ i = 7 by omega with rfl | rfl | rfl | rfl | rfl | rfl | rfl | rfl <;> exact ⟨rfl, rfl⟩
    · skip
      have hcb' : 0 ≤ cntG q 6 ∧ cntG q 6 ≤ q.length := hcb
      have hkb' : 0 ≤ keptI s 6 now ∧ keptI s 6 now ≤ 10000 := hkb
      have hi64 : In .i64 (genI s q now 6 - max (keptI s 6 now) (cntG q 6)) := in64.2 (by omega)
      repeat' (first | with_reducible refine Sq.go ?_ | ((with_reducible refine Ev.mk ?_); conv => whnf) | with_reducible refine Dr.mk ⟨by kernel_rfl, by kernel_rfl⟩ ?_ | with_reducible refine obG ?_ | with_reducible refine Ob.mk ?_ ?_ | (with_reducible first | refine brT fun h => ?_ | refine brF fun h => ?_ | refine Br.mk (fun h => ?_) fun h => ?_) <;> (try simp only [bsl, beq_iff_eq, bne_iff_ne, bs2] at h) <;> (try contradiction) <;> try (exfalso; omega))
      refine hK.call ?_
      repeat' (first | with_reducible refine Sq.go ?_ | ((with_reducible refine Ev.mk ?_); conv => whnf) | with_reducible refine Dr.mk ⟨by kernel_rfl, by kernel_rfl⟩ ?_ | with_reducible refine obG ?_ | with_reducible refine Ob.mk ?_ ?_ | (with_reducible first | refine brT fun h => ?_ | refine brF fun h => ?_ | refine Br.mk (fun h => ?_) fun h => ?_) <;> (try simp only [bsl, beq_iff_eq, bne_iff_ne, bs2] at h) <;> (try contradiction) <;> try (exfalso; omega))
      refine ⟨7, by decide, by decide, ?_⟩
      repeat' (first | exact True.intro | exact rfl | exact Nat.le_refl _ | refine And.intro ?_ ?_)
      all_goals
        intro i hi
        rcases show i = 0 ∨ i = 1 ∨ i = 2 ∨ i = 3 ∨ i = 4 ∨ i = 5 ∨ i = 6 ∨ i = 7 by omega with rfl | rfl | rfl | rfl | rfl | rfl | rfl | rfl <;> exact ⟨rfl, rfl⟩
    · skip
      have hcb' : 0 ≤ cntG q 7 ∧ cntG q 7 ≤ q.length := hcb
      have hkb' : 0 ≤ keptI s 7 now ∧ keptI s 7 now ≤ 10000 := hkb
      have hi64 : In .i64 (genI s q now 7 - max (keptI s 7 now) (cntG q 7)) := in64.2 (by omega)
      repeat' (first | with_reducible refine Sq.go ?_ | ((with_reducible refine Ev.mk ?_); conv => whnf) | with_reducible refine Dr.mk ⟨by kernel_rfl, by kernel_rfl⟩ ?_ | with_reducible refine obG ?_ | with_reducible refine Ob.mk ?_ ?_ | (with_reducible first | refine brT fun h => ?_ | refine brF fun h => ?_ | refine Br.mk (fun h => ?_) fun h => ?_) <;> (try simp only [bsl, beq_iff_eq, bne_iff_ne, bs2] at h) <;> (try contradiction) <;> try (exfalso; omega))
      refine hK.call ?_
      repeat' (first | with_reducible refine Sq.go ?_ | ((with_reducible refine Ev.mk ?_); conv => whnf) | with_reducible refine Dr.mk ⟨by kernel_rfl, by kernel_rfl⟩ ?_ | with_reducible refine obG ?_ | with_reducible refine Ob.mk ?_ ?_ | (with_reducible first | refine brT fun h => ?_ | refine brF fun h => ?_ | refine Br.mk (fun h => ?_) fun h => ?_) <;> (try simp only [bsl, beq_iff_eq, bne_iff_ne, bs2] at h) <;> (try contradiction) <;> try (exfalso; omega))
      refine ⟨8, by decide, by decide, ?_⟩
      repeat' (first | exact True.intro | exact rfl | exact Nat.le_refl _ | refine And.intro ?_ ?_)
      all_goals
        intro i hi
        rcases show i = 0 ∨ i = 1 ∨ i = 2 ∨ i = 3 ∨ i = 4 ∨ i = 5 ∨ i = 6 ∨ i = 7 by omega with rfl | rfl | rfl | rfl | rfl | rfl | rfl | rfl <;> exact ⟨rfl, rfl⟩
    · have hone : ∀ x, x ∈ (List.map (fun j => rowD ((fun j : Nat => [AV.d (.int .i64 (if j < 8 then resI s q now j else 0))]) j)) (List.range 8)) → x.one = true := by
        intro x hx
        obtain ⟨j, _, rfl⟩ := List.mem_map.1 hx
        rfl
      repeat' (first | with_reducible refine Sq.go ?_ | ((with_reducible refine Ev.mk ?_); conv => whnf) | with_reducible refine Dr.mk ⟨by kernel_rfl, by kernel_rfl⟩ ?_ | with_reducible refine obG ?_ | with_reducible refine Ob.mk ?_ ?_ | (with_reducible first | refine brT fun h => ?_ | refine brF fun h => ?_ | refine Br.mk (fun h => ?_) fun h => ?_) <;> (try simp only [bsl, beq_iff_eq, bne_iff_ne, bs2] at h) <;> (try contradiction) <;> try (exfalso; omega))
      refine ⟨rfl, rfl, ?_, True.intro⟩
      conv => whnf
      repeat' (first | with_reducible refine Sq.go ?_ | ((with_reducible refine Ev.mk ?_); conv => whnf) | with_reducible refine Dr.mk ⟨by kernel_rfl, by kernel_rfl⟩ ?_ | with_reducible refine obG ?_ | with_reducible refine Ob.mk ?_ ?_ | (with_reducible first | refine brT fun h => ?_ | refine brF fun h => ?_ | refine Br.mk (fun h => ?_) fun h => ?_) <;> (try simp only [bsl, beq_iff_eq, bne_iff_ne, bs2] at h) <;> (try contradiction) <;> try (exfalso; omega))
      exact Or.inl rfl
end Go.Proofs.YtfbjlakcolipaaaDoor
