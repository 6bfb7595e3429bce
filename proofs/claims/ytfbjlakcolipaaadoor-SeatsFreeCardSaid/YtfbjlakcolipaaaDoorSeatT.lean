/-
  Seats: the law SeatsFree.
-/
import Derived.Test.YtfbjlakcolipaaaDoorSeatS
import Derived.Test.YtfbjlakcolipaaaDoorOpsE
namespace Go.Proofs.YtfbjlakcolipaaaDoor
set_option linter.unusedSimpArgs false
set_option linter.unusedVariables false
open Go Go.Ab
set_option maxRecDepth 100000
set_option maxHeartbeats 0
theorem freeN_nn {l : List Sec} {q : List Seat} {sec : Int} {s : Sec} (h0 : chkT l q = 0) (hf : findS l sec = some s) (g now : Int) : 0 ≤ freeN s q g now := by
  obtain ⟨h1, h2, h3, h4⟩ := chkT_iff.1 h0
  have := room_le (h4 s (findS_id hf).2)
  unfold freeN genS allS resI
  split <;> omega
def frB (s : Sec) (q : List Seat) (now : Int) (gs : List Int) : Bool := gs.any fun g => decide (freeN s q g now > 0)
theorem take1_free {l : List Sec} {q : List Seat} {st sec : Int} {s : Sec} {gs : List Int} {now : Int} (h0 : chkT l q = 0) (hf : findS l sec = some s) (hgs : ∀ g ∈ gs, -1 < g ∧ g < 8) :
    (take1 s q st sec gs now).isSome = frB s q now (-1 :: gs) := by
  obtain ⟨h1, h2, h3, h4⟩ := chkT_iff.1 h0
  have hr := room_le (h4 s (findS_id hf).2)
  cases ht : take1 s q st sec gs now with
  | some x =>
    obtain ⟨g, _, ⟨hg1, hg2, _⟩ | ⟨hg1, hg2⟩⟩ := take1_some ht
    · symm
      refine List.any_eq_true.2 ⟨-1, List.mem_cons_self .., decide_eq_true ?_⟩
      unfold genS at hg2
      unfold freeN genS
      rw [if_neg (by decide)]
      omega
    · symm
      have := hgs g hg1
      refine List.any_eq_true.2 ⟨g, List.mem_cons_of_mem _ hg1, decide_eq_true ?_⟩
      unfold freeN genS allS
      unfold resI at *
      rw [if_pos (by omega)]
      omega
  | none =>
    symm
    unfold take1 at ht
    cases hg : grpFor s q now gs with
    | some g => rw [hg] at ht; cases ht
    | none =>
      rw [hg] at ht
      dsimp only at ht
      by_cases hz : genS s q now = 0
      · refine List.any_eq_false.2 fun g hgm => ?_
        rw [decide_eq_true_eq]
        rcases List.mem_cons.1 hgm with rfl | hgm
        · unfold freeN
          rw [if_neg (by decide), hz]
          decide
        · have h5 := List.find?_eq_none.1 hg g hgm
          have h6 := hgs g hgm
          simp only [decide_eq_true_eq] at h5
          unfold freeN
          rw [if_pos (by omega), hz]
          omega
      · rw [if_neg hz] at ht; cases ht
def lastG (st sec : Int) (x : List Seat) (a : Int) : Int := x.foldl (fun a y => if y.student = st ∧ y.sec = sec then y.group else a) a
theorem lastG_snoc (st sec : Int) (x : List Seat) (y : Seat) (a : Int) : lastG st sec (x ++ [y]) a = if y.student = st ∧ y.sec = sec then y.group else lastG st sec x a := by
  unfold lastG
  rw [List.foldl_append]
  rfl
theorem lastG_all {st sec g : Int} : ∀ {x : List Seat} {a : Int}, (∀ y ∈ x, y.student = st ∧ y.sec = sec → y.group = g) → (a = g ∨ ∃ y ∈ x, y.student = st ∧ y.sec = sec) → lastG st sec x a = g
  | [], a, _, h => by
    rcases h with h | ⟨y, hy, _⟩
    · exact h
    · cases hy
  | z :: r, a, hx, h => by
    show lastG st sec r (if z.student = st ∧ z.sec = sec then z.group else a) = g
    refine lastG_all (fun y hy => hx y (List.mem_cons_of_mem _ hy)) ?_
    by_cases hz : z.student = st ∧ z.sec = sec
    · rw [if_pos hz]
      exact .inl (hx z (List.mem_cons_self ..) hz)
    · rw [if_neg hz]
      rcases h with h | ⟨y, hy, hys⟩
      · exact .inl h
      · rcases List.mem_cons.1 hy with rfl | hy
        · exact absurd hys hz
        · exact .inr ⟨y, hy, hys⟩
theorem genI_same {s : Sec} {Q X : List Seat} {now : Int} (h : ∀ k : Int, 0 ≤ k → k < 8 → max (keptI s k now) (cntG X k) = max (keptI s k now) (cntG Q k)) : genI s X now 8 - genI s Q now 8 = cntG Q (-1) - cntG X (-1) := by
  have h0 := h 0 (by decide) (by decide)
  have h1 := h 1 (by decide) (by decide)
  have h2 := h 2 (by decide) (by decide)
  have h3 := h 3 (by decide) (by decide)
  have h4 := h 4 (by decide) (by decide)
  have h5 := h 5 (by decide) (by decide)
  have h6 := h 6 (by decide) (by decide)
  have h7 := h 7 (by decide) (by decide)
  simp only [genI, Int.natCast_zero, Int.natCast_one, Int.cast_ofNat_Int]
  rw [h0, h1, h2, h3, h4, h5, h6, h7]
  omega
/-- Then one seat less is free for this group. -/
theorem free_step {s : Sec} {q : List Seat} {st sec g now : Int} (hid : s.id = sec) (hg : -1 ≤ g ∧ g < 8) (h : g = -1 ∧ genS s q now ≠ 0 ∨ resI s (secL q s.id) now g > 0 ∧ 0 ≤ g) :
    freeN s (insS q ⟨st, sec, g⟩) g now = freeN s q g now - 1 := by
  have hp := secL_perm (insS_perm q ⟨st, sec, g⟩) s.id
  rw [secL_cons, if_pos hid.symm] at hp
  have hlen : (secL (insS q ⟨st, sec, g⟩) s.id).length = (secL q s.id).length + 1 := hp.length_eq
  have hc : ∀ k : Int, cntG (secL (insS q ⟨st, sec, g⟩) s.id) k = cntG (secL q s.id) k + if g = k then 1 else 0 := fun k => by rw [cntG_perm hp, cntG_cons]
  rcases h with ⟨rfl, hz⟩ | ⟨hr, hg0⟩
  · have hs := genI_same (s := s) (now := now) (Q := secL q s.id) (X := secL (insS q ⟨st, sec, -1⟩) s.id) (fun k hk _ => by rw [hc k, if_neg (by omega), Int.add_zero])
    rw [hc (-1), if_pos rfl] at hs
    unfold freeN
    rw [if_neg (by decide), if_neg (by decide)]
    unfold genS at *
    omega
  · have hs := genI_same (s := s) (now := now) (Q := secL q s.id) (X := secL (insS q ⟨st, sec, g⟩) s.id) (fun k hk _ => by
      rw [hc k]
      by_cases hgk : g = k
      · subst hgk
        rw [if_pos rfl]
        unfold resI at hr
        omega
      · rw [if_neg hgk, Int.add_zero])
    rw [hc (-1), if_neg (by omega)] at hs
    have hcg := hc g
    rw [if_pos rfl] at hcg
    unfold freeN
    rw [if_pos hg0, if_pos hg0]
    unfold genS allS resI at *
    rw [hlen, hcg]
    omega
structure Fres (l : List Sec) (q x : List Seat) (st sec now : Int) (s : Sec) (gs : List Int) (g : Int) : Prop where
  chk : chkT l x = 0
  len : x.length = q.length + 1
  grp : -1 ≤ g ∧ g < 8
  mem : g = -1 ∨ 0 ≤ g ∧ g ∈ gs
  last : lastG st sec x (-2) = g
  step : freeN s x g now = freeN s q g now - 1
theorem fres_of {l : List Sec} {q x : List Seat} {st sec : Int} {s : Sec} {gs : List Int} {now : Int} (h0 : chkT l q = 0) (hf : findS l sec = some s) (hn : tkS q st sec = false) (hst : 0 ≤ st ∧ st < 20000) (hgs : ∀ g ∈ gs, -1 < g ∧ g < 8)
    (ht : take1 s q st sec gs now = some x) : ∃ g, Fres l q x st sec now s gs g := by
  have hc := take1_chk h0 hf hn hst hgs ht
  obtain ⟨hid, _⟩ := findS_id hf
  obtain ⟨g, hx, hg⟩ := take1_some ht
  have hgr : -1 ≤ g ∧ g < 8 := by
    rcases hg with ⟨rfl, _⟩ | ⟨hg, _⟩
    · decide
    · have := hgs g hg
      omega
  refine ⟨g, hc, by rw [hx, insS_len], hgr, ?_, ?_, ?_⟩
  · rcases hg with ⟨rfl, _⟩ | ⟨hg, _⟩
    · exact .inl rfl
    · have := hgs g hg
      exact .inr ⟨by omega, hg⟩
  · have hp := insS_perm q ⟨st, sec, g⟩
    refine lastG_all (fun y hy hm => ?_) (.inr ⟨⟨st, sec, g⟩, by rw [hx]; exact hp.mem_iff.2 (List.mem_cons_self ..), rfl, rfl⟩)
    rw [hx] at hy
    rcases List.mem_cons.1 (hp.mem_iff.1 hy) with rfl | hy
    · rfl
    · have : tkS q st sec = true := tkS_iff.2 ⟨y, hy, hm.2, hm.1⟩
      rw [hn] at this
      cases this
  · rw [hx]
    refine free_step hid hgr ?_
    rcases hg with ⟨h1, h2, _⟩ | ⟨h1, h2⟩
    · exact .inl ⟨h1, h2⟩
    · have := hgs g h1
      exact .inr ⟨h2, by omega⟩
theorem join_one (gs : List Int) : ∀ i : Nat, joinF 1 (rowFn [[AV.d (D.int .i64 (-1))]]) (fun i => up ((fun i => [D.int .i64 (gs.getD i default)]) i)) i = [AV.d (D.int .i64 ((-1 :: gs).getD i default))]
  | 0 => rfl
  | j + 1 => by
    rw [joinF_ge (by omega)]
    rfl
theorem free_law (l : List Sec) (q : List Seat) (st sec : Int) (sp : Step) : Pure Tryd.prog 4 [eSecs l, eSeats q, .int .i64 st, .int .i64 sec, .agg (eStep sp)] [.bool true] := by
  refine pure_rule hT (T := tab) (N := 184) (rs := [.tmp 10]) Tryd.func4 rfl rfl rfl (by kernel_rfl) rfl ?_
  have hS := sane25_ok
  have hF := few25_ok l q
  cases hfew : few25 l q with
  | false =>
    rw [hfew] at hF
    repeat' (first | with_reducible refine Sq.go ?_ | ((with_reducible refine Ev.mk ?_); conv => whnf) | with_reducible refine Dr.mk ⟨by kernel_rfl, by kernel_rfl⟩ ?_ | with_reducible refine obG ?_ | with_reducible refine Ob.mk ?_ ?_ | (with_reducible first | refine brT fun h => ?_ | refine brF fun h => ?_ | refine Br.mk (fun h => ?_) fun h => ?_) <;> (try simp only [bsl, beq_iff_eq, bne_iff_ne, bs2] at h) <;> (try contradiction) <;> try (exfalso; omega))
    refine hS.call ?_
    repeat' (first | with_reducible refine Sq.go ?_ | ((with_reducible refine Ev.mk ?_); conv => whnf) | with_reducible refine Dr.mk ⟨by kernel_rfl, by kernel_rfl⟩ ?_ | with_reducible refine obG ?_ | with_reducible refine Ob.mk ?_ ?_ | (with_reducible first | refine brT fun h => ?_ | refine brF fun h => ?_ | refine Br.mk (fun h => ?_) fun h => ?_) <;> (try simp only [bsl, beq_iff_eq, bne_iff_ne, bs2] at h) <;> (try contradiction) <;> try (exfalso; omega))
    refine hF.call ?_
    repeat' (first | with_reducible refine Sq.go ?_ | ((with_reducible refine Ev.mk ?_); conv => whnf) | with_reducible refine Dr.mk ⟨by kernel_rfl, by kernel_rfl⟩ ?_ | with_reducible refine obG ?_ | with_reducible refine Ob.mk ?_ ?_ | (with_reducible first | refine brT fun h => ?_ | refine brF fun h => ?_ | refine Br.mk (fun h => ?_) fun h => ?_) <;> (try simp only [bsl, beq_iff_eq, bne_iff_ne, bs2] at h) <;> (try contradiction) <;> try (exfalso; omega))
    exact ⟨rfl, True.intro⟩
  | true =>
    rw [hfew] at hF
    obtain ⟨hfs, hql, hll⟩ := few25_S hfew
    have hA := scheck_ok l hfs q (by omega)
    by_cases h0 : chkT l q = 0
    · rw [h0] at hA
      have hB := bcheck_ok l hfs ⟨sec, -1⟩
      by_cases h1 : bchk l ⟨sec, -1⟩ = 0
      · rw [h1] at hB
        by_cases h2 : st < 0
        · skip
          repeat' (first | with_reducible refine Sq.go ?_ | ((with_reducible refine Ev.mk ?_); conv => whnf) | with_reducible refine Dr.mk ⟨by kernel_rfl, by kernel_rfl⟩ ?_ | with_reducible refine obG ?_ | with_reducible refine Ob.mk ?_ ?_ | (with_reducible first | refine brT fun h => ?_ | refine brF fun h => ?_ | refine Br.mk (fun h => ?_) fun h => ?_) <;> (try simp only [bsl, beq_iff_eq, bne_iff_ne, bs2] at h) <;> (try contradiction) <;> try (exfalso; omega))
          refine hS.call ?_
          repeat' (first | with_reducible refine Sq.go ?_ | ((with_reducible refine Ev.mk ?_); conv => whnf) | with_reducible refine Dr.mk ⟨by kernel_rfl, by kernel_rfl⟩ ?_ | with_reducible refine obG ?_ | with_reducible refine Ob.mk ?_ ?_ | (with_reducible first | refine brT fun h => ?_ | refine brF fun h => ?_ | refine Br.mk (fun h => ?_) fun h => ?_) <;> (try simp only [bsl, beq_iff_eq, bne_iff_ne, bs2] at h) <;> (try contradiction) <;> try (exfalso; omega))
          refine hF.call ?_
          repeat' (first | with_reducible refine Sq.go ?_ | ((with_reducible refine Ev.mk ?_); conv => whnf) | with_reducible refine Dr.mk ⟨by kernel_rfl, by kernel_rfl⟩ ?_ | with_reducible refine obG ?_ | with_reducible refine Ob.mk ?_ ?_ | (with_reducible first | refine brT fun h => ?_ | refine brF fun h => ?_ | refine Br.mk (fun h => ?_) fun h => ?_) <;> (try simp only [bsl, beq_iff_eq, bne_iff_ne, bs2] at h) <;> (try contradiction) <;> try (exfalso; omega))
          refine hA.call ?_
          repeat' (first | with_reducible refine Sq.go ?_ | ((with_reducible refine Ev.mk ?_); conv => whnf) | with_reducible refine Dr.mk ⟨by kernel_rfl, by kernel_rfl⟩ ?_ | with_reducible refine obG ?_ | with_reducible refine Ob.mk ?_ ?_ | (with_reducible first | refine brT fun h => ?_ | refine brF fun h => ?_ | refine Br.mk (fun h => ?_) fun h => ?_) <;> (try simp only [bsl, beq_iff_eq, bne_iff_ne, bs2] at h) <;> (try contradiction) <;> try (exfalso; omega))
          refine hB.call ?_
          repeat' (first | with_reducible refine Sq.go ?_ | ((with_reducible refine Ev.mk ?_); conv => whnf) | with_reducible refine Dr.mk ⟨by kernel_rfl, by kernel_rfl⟩ ?_ | with_reducible refine obG ?_ | with_reducible refine Ob.mk ?_ ?_ | (with_reducible first | refine brT fun h => ?_ | refine brF fun h => ?_ | refine Br.mk (fun h => ?_) fun h => ?_) <;> (try simp only [bsl, beq_iff_eq, bne_iff_ne, bs2] at h) <;> (try contradiction) <;> try (exfalso; omega))
          exact ⟨rfl, True.intro⟩
        by_cases h3 : st ≥ 20000
        · skip
          repeat' (first | with_reducible refine Sq.go ?_ | ((with_reducible refine Ev.mk ?_); conv => whnf) | with_reducible refine Dr.mk ⟨by kernel_rfl, by kernel_rfl⟩ ?_ | with_reducible refine obG ?_ | with_reducible refine Ob.mk ?_ ?_ | (with_reducible first | refine brT fun h => ?_ | refine brF fun h => ?_ | refine Br.mk (fun h => ?_) fun h => ?_) <;> (try simp only [bsl, beq_iff_eq, bne_iff_ne, bs2] at h) <;> (try contradiction) <;> try (exfalso; omega))
          refine hS.call ?_
          repeat' (first | with_reducible refine Sq.go ?_ | ((with_reducible refine Ev.mk ?_); conv => whnf) | with_reducible refine Dr.mk ⟨by kernel_rfl, by kernel_rfl⟩ ?_ | with_reducible refine obG ?_ | with_reducible refine Ob.mk ?_ ?_ | (with_reducible first | refine brT fun h => ?_ | refine brF fun h => ?_ | refine Br.mk (fun h => ?_) fun h => ?_) <;> (try simp only [bsl, beq_iff_eq, bne_iff_ne, bs2] at h) <;> (try contradiction) <;> try (exfalso; omega))
          refine hF.call ?_
          repeat' (first | with_reducible refine Sq.go ?_ | ((with_reducible refine Ev.mk ?_); conv => whnf) | with_reducible refine Dr.mk ⟨by kernel_rfl, by kernel_rfl⟩ ?_ | with_reducible refine obG ?_ | with_reducible refine Ob.mk ?_ ?_ | (with_reducible first | refine brT fun h => ?_ | refine brF fun h => ?_ | refine Br.mk (fun h => ?_) fun h => ?_) <;> (try simp only [bsl, beq_iff_eq, bne_iff_ne, bs2] at h) <;> (try contradiction) <;> try (exfalso; omega))
          refine hA.call ?_
          repeat' (first | with_reducible refine Sq.go ?_ | ((with_reducible refine Ev.mk ?_); conv => whnf) | with_reducible refine Dr.mk ⟨by kernel_rfl, by kernel_rfl⟩ ?_ | with_reducible refine obG ?_ | with_reducible refine Ob.mk ?_ ?_ | (with_reducible first | refine brT fun h => ?_ | refine brF fun h => ?_ | refine Br.mk (fun h => ?_) fun h => ?_) <;> (try simp only [bsl, beq_iff_eq, bne_iff_ne, bs2] at h) <;> (try contradiction) <;> try (exfalso; omega))
          refine hB.call ?_
          repeat' (first | with_reducible refine Sq.go ?_ | ((with_reducible refine Ev.mk ?_); conv => whnf) | with_reducible refine Dr.mk ⟨by kernel_rfl, by kernel_rfl⟩ ?_ | with_reducible refine obG ?_ | with_reducible refine Ob.mk ?_ ?_ | (with_reducible first | refine brT fun h => ?_ | refine brF fun h => ?_ | refine Br.mk (fun h => ?_) fun h => ?_) <;> (try simp only [bsl, beq_iff_eq, bne_iff_ne, bs2] at h) <;> (try contradiction) <;> try (exfalso; omega))
          exact ⟨rfl, True.intro⟩
        have hH := has_ok q (by omega) st sec
        cases h4 : tkS q st sec with
        | true =>
          rw [h4] at hH
          skip
          repeat' (first | with_reducible refine Sq.go ?_ | ((with_reducible refine Ev.mk ?_); conv => whnf) | with_reducible refine Dr.mk ⟨by kernel_rfl, by kernel_rfl⟩ ?_ | with_reducible refine obG ?_ | with_reducible refine Ob.mk ?_ ?_ | (with_reducible first | refine brT fun h => ?_ | refine brF fun h => ?_ | refine Br.mk (fun h => ?_) fun h => ?_) <;> (try simp only [bsl, beq_iff_eq, bne_iff_ne, bs2] at h) <;> (try contradiction) <;> try (exfalso; omega))
          refine hS.call ?_
          repeat' (first | with_reducible refine Sq.go ?_ | ((with_reducible refine Ev.mk ?_); conv => whnf) | with_reducible refine Dr.mk ⟨by kernel_rfl, by kernel_rfl⟩ ?_ | with_reducible refine obG ?_ | with_reducible refine Ob.mk ?_ ?_ | (with_reducible first | refine brT fun h => ?_ | refine brF fun h => ?_ | refine Br.mk (fun h => ?_) fun h => ?_) <;> (try simp only [bsl, beq_iff_eq, bne_iff_ne, bs2] at h) <;> (try contradiction) <;> try (exfalso; omega))
          refine hF.call ?_
          repeat' (first | with_reducible refine Sq.go ?_ | ((with_reducible refine Ev.mk ?_); conv => whnf) | with_reducible refine Dr.mk ⟨by kernel_rfl, by kernel_rfl⟩ ?_ | with_reducible refine obG ?_ | with_reducible refine Ob.mk ?_ ?_ | (with_reducible first | refine brT fun h => ?_ | refine brF fun h => ?_ | refine Br.mk (fun h => ?_) fun h => ?_) <;> (try simp only [bsl, beq_iff_eq, bne_iff_ne, bs2] at h) <;> (try contradiction) <;> try (exfalso; omega))
          refine hA.call ?_
          repeat' (first | with_reducible refine Sq.go ?_ | ((with_reducible refine Ev.mk ?_); conv => whnf) | with_reducible refine Dr.mk ⟨by kernel_rfl, by kernel_rfl⟩ ?_ | with_reducible refine obG ?_ | with_reducible refine Ob.mk ?_ ?_ | (with_reducible first | refine brT fun h => ?_ | refine brF fun h => ?_ | refine Br.mk (fun h => ?_) fun h => ?_) <;> (try simp only [bsl, beq_iff_eq, bne_iff_ne, bs2] at h) <;> (try contradiction) <;> try (exfalso; omega))
          refine hB.call ?_
          repeat' (first | with_reducible refine Sq.go ?_ | ((with_reducible refine Ev.mk ?_); conv => whnf) | with_reducible refine Dr.mk ⟨by kernel_rfl, by kernel_rfl⟩ ?_ | with_reducible refine obG ?_ | with_reducible refine Ob.mk ?_ ?_ | (with_reducible first | refine brT fun h => ?_ | refine brF fun h => ?_ | refine Br.mk (fun h => ?_) fun h => ?_) <;> (try simp only [bsl, beq_iff_eq, bne_iff_ne, bs2] at h) <;> (try contradiction) <;> try (exfalso; omega))
          refine hH.call ?_
          repeat' (first | with_reducible refine Sq.go ?_ | ((with_reducible refine Ev.mk ?_); conv => whnf) | with_reducible refine Dr.mk ⟨by kernel_rfl, by kernel_rfl⟩ ?_ | with_reducible refine obG ?_ | with_reducible refine Ob.mk ?_ ?_ | (with_reducible first | refine brT fun h => ?_ | refine brF fun h => ?_ | refine Br.mk (fun h => ?_) fun h => ?_) <;> (try simp only [bsl, beq_iff_eq, bne_iff_ne, bs2] at h) <;> (try contradiction) <;> try (exfalso; omega))
          exact ⟨rfl, True.intro⟩
        | false =>
          rw [h4] at hH
          have hG := groups_ok sp
          have hGl := bitsL_len sp.groups 8
          have hTk := Take_ok l hfs q (by omega) st ⟨sec, -1⟩ (bitsL sp.groups 8) (by omega) sp.now
          have hgs := grpsB_mem (bitsL_grps sp.groups 8 (Nat.le_refl _))
          have hbit := bitsL_mem sp.groups 8
          obtain ⟨gs, hgsd⟩ : ∃ gs, bitsL sp.groups 8 = gs := ⟨_, rfl⟩
          obtain ⟨hpf, hpn, _⟩ := bun_parts h1
          obtain ⟨s, hs⟩ := hpf sec (List.mem_singleton.2 rfl)
          have htT : takeT l q st ⟨sec, -1⟩ gs sp.now = match take1 s q st sec gs sp.now with
              | none => ([], 251)
              | some x => (x, 0) := by
            rw [takeT, if_pos h0, if_pos h1, if_pos (by rw [← hgsd, bitsL_grps sp.groups 8 (Nat.le_refl _), decide_eq_true (show 0 ≤ st by omega), decide_eq_true (show st < 20000 by omega)]; rfl), if_neg (by rw [show partsI ⟨sec, -1⟩ = [sec] from rfl, List.any_cons, h4]; exact Bool.false_ne_true)]
            rw [show partsI ⟨sec, -1⟩ = [sec] from rfl, takeP, hs, Option.getD_some]
            cases take1 s q st sec gs sp.now <;> rfl
          rw [hgsd] at hG hGl hTk hgs hbit
          have hfree := take1_free (st := st) (now := sp.now) h0 hs hgs
          have hnn := fun g => freeN_nn h0 hs g sp.now
          have hjl : (-1 :: gs).length = gs.length + 1 := List.length_cons
          have hsm := small_of (chkT_iff.1 h0).1 (findS_id hs).2
          have hbd := fun g => freeN_bd hsm (show q.length ≤ 1000 by omega) g sp.now
          have hall : ∀ g ∈ -1 :: gs, -1 ≤ g ∧ g < 8 := fun g hg => by
            rcases List.mem_cons.1 hg with rfl | hg
            · decide
            · have := hgs g hg
              omega
          skip
          repeat' (first | with_reducible refine Sq.go ?_ | ((with_reducible refine Ev.mk ?_); conv => whnf) | with_reducible refine Dr.mk ⟨by kernel_rfl, by kernel_rfl⟩ ?_ | with_reducible refine obG ?_ | with_reducible refine Ob.mk ?_ ?_ | (with_reducible first | refine brT fun h => ?_ | refine brF fun h => ?_ | refine Br.mk (fun h => ?_) fun h => ?_) <;> (try simp only [bsl, beq_iff_eq, bne_iff_ne, bs2] at h) <;> (try contradiction) <;> try (exfalso; omega))
          refine hS.call ?_
          repeat' (first | with_reducible refine Sq.go ?_ | ((with_reducible refine Ev.mk ?_); conv => whnf) | with_reducible refine Dr.mk ⟨by kernel_rfl, by kernel_rfl⟩ ?_ | with_reducible refine obG ?_ | with_reducible refine Ob.mk ?_ ?_ | (with_reducible first | refine brT fun h => ?_ | refine brF fun h => ?_ | refine Br.mk (fun h => ?_) fun h => ?_) <;> (try simp only [bsl, beq_iff_eq, bne_iff_ne, bs2] at h) <;> (try contradiction) <;> try (exfalso; omega))
          refine hF.call ?_
          repeat' (first | with_reducible refine Sq.go ?_ | ((with_reducible refine Ev.mk ?_); conv => whnf) | with_reducible refine Dr.mk ⟨by kernel_rfl, by kernel_rfl⟩ ?_ | with_reducible refine obG ?_ | with_reducible refine Ob.mk ?_ ?_ | (with_reducible first | refine brT fun h => ?_ | refine brF fun h => ?_ | refine Br.mk (fun h => ?_) fun h => ?_) <;> (try simp only [bsl, beq_iff_eq, bne_iff_ne, bs2] at h) <;> (try contradiction) <;> try (exfalso; omega))
          refine hA.call ?_
          repeat' (first | with_reducible refine Sq.go ?_ | ((with_reducible refine Ev.mk ?_); conv => whnf) | with_reducible refine Dr.mk ⟨by kernel_rfl, by kernel_rfl⟩ ?_ | with_reducible refine obG ?_ | with_reducible refine Ob.mk ?_ ?_ | (with_reducible first | refine brT fun h => ?_ | refine brF fun h => ?_ | refine Br.mk (fun h => ?_) fun h => ?_) <;> (try simp only [bsl, beq_iff_eq, bne_iff_ne, bs2] at h) <;> (try contradiction) <;> try (exfalso; omega))
          refine hB.call ?_
          repeat' (first | with_reducible refine Sq.go ?_ | ((with_reducible refine Ev.mk ?_); conv => whnf) | with_reducible refine Dr.mk ⟨by kernel_rfl, by kernel_rfl⟩ ?_ | with_reducible refine obG ?_ | with_reducible refine Ob.mk ?_ ?_ | (with_reducible first | refine brT fun h => ?_ | refine brF fun h => ?_ | refine Br.mk (fun h => ?_) fun h => ?_) <;> (try simp only [bsl, beq_iff_eq, bne_iff_ne, bs2] at h) <;> (try contradiction) <;> try (exfalso; omega))
          refine hH.call ?_
          repeat' (first | with_reducible refine Sq.go ?_ | ((with_reducible refine Ev.mk ?_); conv => whnf) | with_reducible refine Dr.mk ⟨by kernel_rfl, by kernel_rfl⟩ ?_ | with_reducible refine obG ?_ | with_reducible refine Ob.mk ?_ ?_ | (with_reducible first | refine brT fun h => ?_ | refine brF fun h => ?_ | refine Br.mk (fun h => ?_) fun h => ?_) <;> (try simp only [bsl, beq_iff_eq, bne_iff_ne, bs2] at h) <;> (try contradiction) <;> try (exfalso; omega))
          refine hG.call ?_
          repeat' (first | with_reducible refine Sq.go ?_ | ((with_reducible refine Ev.mk ?_); conv => whnf) | with_reducible refine Dr.mk ⟨by kernel_rfl, by kernel_rfl⟩ ?_ | with_reducible refine obG ?_ | with_reducible refine Ob.mk ?_ ?_ | (with_reducible first | refine brT fun h => ?_ | refine brF fun h => ?_ | refine Br.mk (fun h => ?_) fun h => ?_) <;> (try simp only [bsl, beq_iff_eq, bne_iff_ne, bs2] at h) <;> (try contradiction) <;> try (exfalso; omega))
          have hGl2 : (-1 :: gs).length = 1 + gs.length := by rw [List.length_cons]; omega
          obtain ⟨G, hG0⟩ : ∃ G, -1 :: gs = G := ⟨_, rfl⟩
          refine loop_rule hT (S := Nat) (fun k => ([(0, .d (eSecs l)), (1, .d (eSeats q)), (2, .d (.int .i64 st)), (3, .d (.int .i64 sec)), (9, .ptr (.loc 0) 0 0 0), (11, .ptr (.loc 1) 0 0 0), (12, .d (eInts gs)), (13, .d (.bool (frB s q sp.now (G.take k)))), (65, .osl (.loc 2) 1 0 (1 + gs.length)), (66, .d (.int .i64 ((1 + gs.length : Nat) : Int))), (67, .d (.int .i64 k))],
            ⟨[some (.box 30 (up (eStep sp))), some (.box 32 (up (eBun ⟨sec, -1⟩))), some (.vec 3 1 1 (1 + gs.length) fun i => [.d (.int .i64 (G.getD i default))])], []⟩
            )) (fun k => k ≤ G.length) (fun k => G.length - k) 0 ?_ ?_ ?_
          · repeat' (first | exact True.intro | exact rfl | exact Nat.le_refl _ | refine And.intro ?_ ?_)
            all_goals (intro i hi; refine ⟨?_, rfl⟩; rw [← hG0]; exact join_one gs i)
          · exact Nat.zero_le _
          · intro k hk
            rw [hG0] at hall hfree hGl2
            by_cases hk2 : k < G.length
            · have hx := hall _ (getD_mem hk2)
              have hfx := Free_ok l hfs q (by omega) sec (G.getD k default) sp.now
              rw [freeT_ok h0 hs hx] at hfx
              have hnx := hnn (G.getD k default)
              have hsn : frB s q sp.now (G.take (k + 1)) = (frB s q sp.now (G.take k) || decide (freeN s q (G.getD k default) sp.now > 0)) := by
                unfold frB
                rw [take_succ_at hk2, List.any_append, List.any_cons, List.any_nil, Bool.or_false]
              repeat' (first | with_reducible refine Sq.go ?_ | ((with_reducible refine Ev.mk ?_); conv => whnf) | with_reducible refine Dr.mk ⟨by kernel_rfl, by kernel_rfl⟩ ?_ | with_reducible refine obG ?_ | with_reducible refine Ob.mk ?_ ?_ | (with_reducible first | refine brT fun h => ?_ | refine brF fun h => ?_ | refine Br.mk (fun h => ?_) fun h => ?_) <;> (try simp only [bsl, beq_iff_eq, bne_iff_ne, bs2] at h) <;> (try contradiction) <;> try (exfalso; omega))
              refine hfx.call ?_
              repeat' (first | with_reducible refine Sq.go ?_ | ((with_reducible refine Ev.mk ?_); conv => whnf) | with_reducible refine Dr.mk ⟨by kernel_rfl, by kernel_rfl⟩ ?_ | with_reducible refine obG ?_ | with_reducible refine Ob.mk ?_ ?_ | (with_reducible first | refine brT fun h => ?_ | refine brF fun h => ?_ | refine Br.mk (fun h => ?_) fun h => ?_) <;> (try simp only [bsl, beq_iff_eq, bne_iff_ne, bs2] at h) <;> (try contradiction) <;> try (exfalso; omega))
              refine ⟨k + 1, by show k + 1 ≤ G.length; omega, by show G.length - (k + 1) < G.length - k; omega, ?_⟩
              dsimp only
              rw [hsn]
              repeat' (first | exact True.intro | exact rfl | exact Nat.le_refl _ | refine And.intro ?_ ?_)
              all_goals (intro i hi; exact ⟨rfl, rfl⟩)
            · rw [List.take_of_length_le (by omega), ← hfree]
              cases ht : take1 s q st sec gs sp.now with
              | none =>
                rw [ht] at htT
                rw [htT] at hTk
                repeat' (first | with_reducible refine Sq.go ?_ | ((with_reducible refine Ev.mk ?_); conv => whnf) | with_reducible refine Dr.mk ⟨by kernel_rfl, by kernel_rfl⟩ ?_ | with_reducible refine obG ?_ | with_reducible refine Ob.mk ?_ ?_ | (with_reducible first | refine brT fun h => ?_ | refine brF fun h => ?_ | refine Br.mk (fun h => ?_) fun h => ?_) <;> (try simp only [bsl, beq_iff_eq, bne_iff_ne, bs2] at h) <;> (try contradiction) <;> try (exfalso; omega))
                refine hTk.call ?_
                repeat' (first | with_reducible refine Sq.go ?_ | ((with_reducible refine Ev.mk ?_); conv => whnf) | with_reducible refine Dr.mk ⟨by kernel_rfl, by kernel_rfl⟩ ?_ | with_reducible refine obG ?_ | with_reducible refine Ob.mk ?_ ?_ | (with_reducible first | refine brT fun h => ?_ | refine brF fun h => ?_ | refine Br.mk (fun h => ?_) fun h => ?_) <;> (try simp only [bsl, beq_iff_eq, bne_iff_ne, bs2] at h) <;> (try contradiction) <;> try (exfalso; omega))
                exact ⟨rfl, True.intro⟩
              | some x =>
                rw [ht] at htT
                rw [htT] at hTk
                obtain ⟨g, hr⟩ := fres_of h0 hs h4 (by omega) hgs ht
                have hxl := hr.len
                have hgr := hr.grp
                repeat' (first | with_reducible refine Sq.go ?_ | ((with_reducible refine Ev.mk ?_); conv => whnf) | with_reducible refine Dr.mk ⟨by kernel_rfl, by kernel_rfl⟩ ?_ | with_reducible refine obG ?_ | with_reducible refine Ob.mk ?_ ?_ | (with_reducible first | refine brT fun h => ?_ | refine brF fun h => ?_ | refine Br.mk (fun h => ?_) fun h => ?_) <;> (try simp only [bsl, beq_iff_eq, bne_iff_ne, bs2] at h) <;> (try contradiction) <;> try (exfalso; omega))
                refine hTk.call ?_
                repeat' (first | with_reducible refine Sq.go ?_ | ((with_reducible refine Ev.mk ?_); conv => whnf) | with_reducible refine Dr.mk ⟨by kernel_rfl, by kernel_rfl⟩ ?_ | with_reducible refine obG ?_ | with_reducible refine Ob.mk ?_ ?_ | (with_reducible first | refine brT fun h => ?_ | refine brF fun h => ?_ | refine Br.mk (fun h => ?_) fun h => ?_) <;> (try simp only [bsl, beq_iff_eq, bne_iff_ne, bs2] at h) <;> (try contradiction) <;> try (exfalso; omega))
                refine loop_rule hT (S := Nat) (fun k => ([(0, .d (eSecs l)), (1, .d (eSeats q)), (2, .d (.int .i64 st)), (3, .d (.int .i64 sec)), (9, .ptr (.loc 0) 0 0 0), (13, .d (.bool true)), (18, .d (eSeats x)), (20, .d (.int .i64 (lastG st sec (x.take k) (-2)))), (112, .d (eSeats x)), (113, .d (.int .i64 x.length)), (114, .d (.int .i64 k))],
                  ⟨[some (.box 30 (up (eStep sp))), some (.box 32 (up (eBun ⟨sec, -1⟩))), some (.vec 3 1 1 (1 + gs.length) fun i => [.d (.int .i64 (G.getD i default))])], []⟩
                  )) (fun k => k ≤ x.length) (fun k => x.length - k) 0 ?_ ?_ ?_
                · repeat' (first | exact True.intro | exact rfl | exact Nat.le_refl _ | refine And.intro ?_ ?_)
                  all_goals (intro i hi; exact ⟨rfl, rfl⟩)
                · exact Nat.zero_le _
                · intro k2 hk2'
                  by_cases hk3 : k2 < x.length
                  · have hln := lastG_snoc st sec (x.take k2) (x.getD k2 default) (-2)
                    rw [← take_succ_at hk3] at hln
                    by_cases hm : (x.getD k2 default).student = st ∧ (x.getD k2 default).sec = sec
                    · rw [if_pos hm] at hln
                      repeat' (first | with_reducible refine Sq.go ?_ | ((with_reducible refine Ev.mk ?_); conv => whnf) | with_reducible refine Dr.mk ⟨by kernel_rfl, by kernel_rfl⟩ ?_ | with_reducible refine obG ?_ | with_reducible refine Ob.mk ?_ ?_ | (with_reducible first | refine brT fun h => ?_ | refine brF fun h => ?_ | refine Br.mk (fun h => ?_) fun h => ?_) <;> (try simp only [bsl, beq_iff_eq, bne_iff_ne, bs2] at h) <;> (try contradiction) <;> try (exfalso; omega))
                      all_goals
                        refine ⟨k2 + 1, by show k2 + 1 ≤ x.length; omega, by show x.length - (k2 + 1) < x.length - k2; omega, ?_⟩
                        dsimp only
                        rw [hln]
                        repeat' (first | exact True.intro | exact rfl | exact Nat.le_refl _ | refine And.intro ?_ ?_)
                      all_goals (intro i hi; exact ⟨rfl, rfl⟩)
                    · rw [if_neg hm] at hln
                      repeat' (first | with_reducible refine Sq.go ?_ | ((with_reducible refine Ev.mk ?_); conv => whnf) | with_reducible refine Dr.mk ⟨by kernel_rfl, by kernel_rfl⟩ ?_ | with_reducible refine obG ?_ | with_reducible refine Ob.mk ?_ ?_ | (with_reducible first | refine brT fun h => ?_ | refine brF fun h => ?_ | refine Br.mk (fun h => ?_) fun h => ?_) <;> (try simp only [bsl, beq_iff_eq, bne_iff_ne, bs2] at h) <;> (try contradiction) <;> try (exfalso; omega))
                      all_goals
                        refine ⟨k2 + 1, by show k2 + 1 ≤ x.length; omega, by show x.length - (k2 + 1) < x.length - k2; omega, ?_⟩
                        dsimp only
                        rw [hln]
                        repeat' (first | exact True.intro | exact rfl | exact Nat.le_refl _ | refine And.intro ?_ ?_)
                      all_goals (intro i hi; exact ⟨rfl, rfl⟩)
                  · rw [List.take_of_length_le (by omega), hr.last]
                    have hf1 := Free_ok l hfs q (by omega) sec g sp.now
                    have hf2 := Free_ok l hfs x (by omega) sec g sp.now
                    rw [freeT_ok h0 hs hgr] at hf1
                    rw [freeT_ok hr.chk hs hgr, hr.step] at hf2
                    have hb1 := hbd g
                    obtain ⟨m, hm⟩ : ∃ m, freeN s q g sp.now = m := ⟨_, rfl⟩
                    rw [hm] at hf1 hf2 hb1
                    rcases hr.mem with hg1 | ⟨hg1, hg2⟩
                    · subst hg1
                      repeat' (first | with_reducible refine Sq.go ?_ | ((with_reducible refine Ev.mk ?_); conv => whnf) | with_reducible refine Dr.mk ⟨by kernel_rfl, by kernel_rfl⟩ ?_ | with_reducible refine obG ?_ | with_reducible refine Ob.mk ?_ ?_ | (with_reducible first | refine brT fun h => ?_ | refine brF fun h => ?_ | refine Br.mk (fun h => ?_) fun h => ?_) <;> (try simp only [bsl, beq_iff_eq, bne_iff_ne, bs2] at h) <;> (try contradiction) <;> try (exfalso; omega))
                      refine hf1.call ?_
                      repeat' (first | with_reducible refine Sq.go ?_ | ((with_reducible refine Ev.mk ?_); conv => whnf) | with_reducible refine Dr.mk ⟨by kernel_rfl, by kernel_rfl⟩ ?_ | with_reducible refine obG ?_ | with_reducible refine Ob.mk ?_ ?_ | (with_reducible first | refine brT fun h => ?_ | refine brF fun h => ?_ | refine Br.mk (fun h => ?_) fun h => ?_) <;> (try simp only [bsl, beq_iff_eq, bne_iff_ne, bs2] at h) <;> (try contradiction) <;> try (exfalso; omega))
                      refine hf2.call ?_
                      repeat' (first | with_reducible refine Sq.go ?_ | ((with_reducible refine Ev.mk ?_); conv => whnf) | with_reducible refine Dr.mk ⟨by kernel_rfl, by kernel_rfl⟩ ?_ | with_reducible refine obG ?_ | with_reducible refine Ob.mk ?_ ?_ | (with_reducible first | refine brT fun h => ?_ | refine brF fun h => ?_ | refine Br.mk (fun h => ?_) fun h => ?_) <;> (try simp only [bsl, beq_iff_eq, bne_iff_ne, bs2] at h) <;> (try contradiction) <;> try (exfalso; omega))
                      refine ⟨congrArg D.bool ?_, True.intro⟩
                      simp
                    · have hbn := (hbit g hg2).2.2
                      have hgd1 : (decide (g < -1)) = false := decide_eq_false (by omega)
                      have hgd2 : (decide (8 ≤ g)) = false := decide_eq_false (by omega)
                      have hgd3 : (decide (0 ≤ g)) = true := decide_eq_true hg1
                      repeat' (first | with_reducible refine Sq.go ?_ | ((with_reducible refine Ev.mk ?_); conv => whnf) | with_reducible refine Dr.mk ⟨by kernel_rfl, by kernel_rfl⟩ ?_ | with_reducible refine obG ?_ | with_reducible refine Ob.mk ?_ ?_ | (with_reducible first | refine brT fun h => ?_ | refine brF fun h => ?_ | refine Br.mk (fun h => ?_) fun h => ?_) <;> (try simp only [bsl, beq_iff_eq, bne_iff_ne, bs2] at h) <;> (try contradiction) <;> try (exfalso; omega))
                      refine op_shr' rfl rfl (fun p hp => ?_) rfl (fun p hp => ?_) hg1 ?_
                      · rcases List.mem_cons.1 hp with rfl | hp
                        · rw [hgd1, hgd2, hgd3]; rfl
                        · cases hp
                      · rcases List.mem_cons.1 hp with rfl | hp
                        · rw [hgd1, hgd2, hgd3]; rfl
                        · cases hp
                      repeat' (first | with_reducible refine Sq.go ?_ | ((with_reducible refine Ev.mk ?_); conv => whnf) | with_reducible refine Dr.mk ⟨by kernel_rfl, by kernel_rfl⟩ ?_ | with_reducible refine obG ?_ | with_reducible refine Ob.mk ?_ ?_ | (with_reducible first | refine brT fun h => ?_ | refine brF fun h => ?_ | refine Br.mk (fun h => ?_) fun h => ?_) <;> (try simp only [bsl, beq_iff_eq, bne_iff_ne, bs2] at h) <;> (try contradiction) <;> try (exfalso; omega))
                      refine op_and rfl rfl rfl ?_
                      rw [show IntKind.u8.wrap ((BitVec.ofInt IntKind.u8.bits (sp.groups.fdiv (2 ^ min g.toNat IntKind.u8.bits)) &&& BitVec.ofInt IntKind.u8.bits 1).toNat : Int) = 1 from hbn]
                      repeat' (first | with_reducible refine Sq.go ?_ | ((with_reducible refine Ev.mk ?_); conv => whnf) | with_reducible refine Dr.mk ⟨by kernel_rfl, by kernel_rfl⟩ ?_ | with_reducible refine obG ?_ | with_reducible refine Ob.mk ?_ ?_ | (with_reducible first | refine brT fun h => ?_ | refine brF fun h => ?_ | refine Br.mk (fun h => ?_) fun h => ?_) <;> (try simp only [bsl, beq_iff_eq, bne_iff_ne, bs2] at h) <;> (try contradiction) <;> try (exfalso; omega))
                      refine hf1.call ?_
                      repeat' (first | with_reducible refine Sq.go ?_ | ((with_reducible refine Ev.mk ?_); conv => whnf) | with_reducible refine Dr.mk ⟨by kernel_rfl, by kernel_rfl⟩ ?_ | with_reducible refine obG ?_ | with_reducible refine Ob.mk ?_ ?_ | (with_reducible first | refine brT fun h => ?_ | refine brF fun h => ?_ | refine Br.mk (fun h => ?_) fun h => ?_) <;> (try simp only [bsl, beq_iff_eq, bne_iff_ne, bs2] at h) <;> (try contradiction) <;> try (exfalso; omega))
                      refine hf2.call ?_
                      repeat' (first | with_reducible refine Sq.go ?_ | ((with_reducible refine Ev.mk ?_); conv => whnf) | with_reducible refine Dr.mk ⟨by kernel_rfl, by kernel_rfl⟩ ?_ | with_reducible refine obG ?_ | with_reducible refine Ob.mk ?_ ?_ | (with_reducible first | refine brT fun h => ?_ | refine brF fun h => ?_ | refine Br.mk (fun h => ?_) fun h => ?_) <;> (try simp only [bsl, beq_iff_eq, bne_iff_ne, bs2] at h) <;> (try contradiction) <;> try (exfalso; omega))
                      refine ⟨congrArg D.bool ?_, True.intro⟩
                      simp
      · skip
        repeat' (first | with_reducible refine Sq.go ?_ | ((with_reducible refine Ev.mk ?_); conv => whnf) | with_reducible refine Dr.mk ⟨by kernel_rfl, by kernel_rfl⟩ ?_ | with_reducible refine obG ?_ | with_reducible refine Ob.mk ?_ ?_ | (with_reducible first | refine brT fun h => ?_ | refine brF fun h => ?_ | refine Br.mk (fun h => ?_) fun h => ?_) <;> (try simp only [bsl, beq_iff_eq, bne_iff_ne, bs2] at h) <;> (try contradiction) <;> try (exfalso; omega))
        refine hS.call ?_
        repeat' (first | with_reducible refine Sq.go ?_ | ((with_reducible refine Ev.mk ?_); conv => whnf) | with_reducible refine Dr.mk ⟨by kernel_rfl, by kernel_rfl⟩ ?_ | with_reducible refine obG ?_ | with_reducible refine Ob.mk ?_ ?_ | (with_reducible first | refine brT fun h => ?_ | refine brF fun h => ?_ | refine Br.mk (fun h => ?_) fun h => ?_) <;> (try simp only [bsl, beq_iff_eq, bne_iff_ne, bs2] at h) <;> (try contradiction) <;> try (exfalso; omega))
        refine hF.call ?_
        repeat' (first | with_reducible refine Sq.go ?_ | ((with_reducible refine Ev.mk ?_); conv => whnf) | with_reducible refine Dr.mk ⟨by kernel_rfl, by kernel_rfl⟩ ?_ | with_reducible refine obG ?_ | with_reducible refine Ob.mk ?_ ?_ | (with_reducible first | refine brT fun h => ?_ | refine brF fun h => ?_ | refine Br.mk (fun h => ?_) fun h => ?_) <;> (try simp only [bsl, beq_iff_eq, bne_iff_ne, bs2] at h) <;> (try contradiction) <;> try (exfalso; omega))
        refine hA.call ?_
        repeat' (first | with_reducible refine Sq.go ?_ | ((with_reducible refine Ev.mk ?_); conv => whnf) | with_reducible refine Dr.mk ⟨by kernel_rfl, by kernel_rfl⟩ ?_ | with_reducible refine obG ?_ | with_reducible refine Ob.mk ?_ ?_ | (with_reducible first | refine brT fun h => ?_ | refine brF fun h => ?_ | refine Br.mk (fun h => ?_) fun h => ?_) <;> (try simp only [bsl, beq_iff_eq, bne_iff_ne, bs2] at h) <;> (try contradiction) <;> try (exfalso; omega))
        refine hB.call ?_
        repeat' (first | with_reducible refine Sq.go ?_ | ((with_reducible refine Ev.mk ?_); conv => whnf) | with_reducible refine Dr.mk ⟨by kernel_rfl, by kernel_rfl⟩ ?_ | with_reducible refine obG ?_ | with_reducible refine Ob.mk ?_ ?_ | (with_reducible first | refine brT fun h => ?_ | refine brF fun h => ?_ | refine Br.mk (fun h => ?_) fun h => ?_) <;> (try simp only [bsl, beq_iff_eq, bne_iff_ne, bs2] at h) <;> (try contradiction) <;> try (exfalso; omega))
        exact ⟨rfl, True.intro⟩
    · skip
      repeat' (first | with_reducible refine Sq.go ?_ | ((with_reducible refine Ev.mk ?_); conv => whnf) | with_reducible refine Dr.mk ⟨by kernel_rfl, by kernel_rfl⟩ ?_ | with_reducible refine obG ?_ | with_reducible refine Ob.mk ?_ ?_ | (with_reducible first | refine brT fun h => ?_ | refine brF fun h => ?_ | refine Br.mk (fun h => ?_) fun h => ?_) <;> (try simp only [bsl, beq_iff_eq, bne_iff_ne, bs2] at h) <;> (try contradiction) <;> try (exfalso; omega))
      refine hS.call ?_
      repeat' (first | with_reducible refine Sq.go ?_ | ((with_reducible refine Ev.mk ?_); conv => whnf) | with_reducible refine Dr.mk ⟨by kernel_rfl, by kernel_rfl⟩ ?_ | with_reducible refine obG ?_ | with_reducible refine Ob.mk ?_ ?_ | (with_reducible first | refine brT fun h => ?_ | refine brF fun h => ?_ | refine Br.mk (fun h => ?_) fun h => ?_) <;> (try simp only [bsl, beq_iff_eq, bne_iff_ne, bs2] at h) <;> (try contradiction) <;> try (exfalso; omega))
      refine hF.call ?_
      repeat' (first | with_reducible refine Sq.go ?_ | ((with_reducible refine Ev.mk ?_); conv => whnf) | with_reducible refine Dr.mk ⟨by kernel_rfl, by kernel_rfl⟩ ?_ | with_reducible refine obG ?_ | with_reducible refine Ob.mk ?_ ?_ | (with_reducible first | refine brT fun h => ?_ | refine brF fun h => ?_ | refine Br.mk (fun h => ?_) fun h => ?_) <;> (try simp only [bsl, beq_iff_eq, bne_iff_ne, bs2] at h) <;> (try contradiction) <;> try (exfalso; omega))
      refine hA.call ?_
      repeat' (first | with_reducible refine Sq.go ?_ | ((with_reducible refine Ev.mk ?_); conv => whnf) | with_reducible refine Dr.mk ⟨by kernel_rfl, by kernel_rfl⟩ ?_ | with_reducible refine obG ?_ | with_reducible refine Ob.mk ?_ ?_ | (with_reducible first | refine brT fun h => ?_ | refine brF fun h => ?_ | refine Br.mk (fun h => ?_) fun h => ?_) <;> (try simp only [bsl, beq_iff_eq, bne_iff_ne, bs2] at h) <;> (try contradiction) <;> try (exfalso; omega))
      exact ⟨rfl, True.intro⟩
end Go.Proofs.YtfbjlakcolipaaaDoor
