/-
  Seats: the law SeatsReserved.
-/
import Derived.Test.YtfbjlakcolipaaaDoorSeatP
namespace Go.Proofs.YtfbjlakcolipaaaDoor
set_option linter.unusedSimpArgs false
set_option linter.unusedVariables false
open Go Go.Ab
set_option maxRecDepth 100000
set_option maxHeartbeats 0
/-- What it takes to take. -/
theorem takeT_zero {l : List Sec} {q x : List Seat} {st : Int} {b : Bun} {gs : List Int} {now : Int} (h : takeT l q st b gs now = (x, 0)) :
    chkT l q = 0 ∧ bchk l b = 0 ∧ (0 ≤ st ∧ st < 20000) ∧ grpsB (-1) gs = true ∧ (∀ p ∈ partsI b, tkS q st p = false) ∧ takeP l st gs now (partsI b) q = some x := by
  unfold takeT at h
  by_cases h0 : chkT l q = 0
  · rw [if_pos h0] at h
    by_cases h1 : bchk l b = 0
    · rw [if_pos h1] at h
      by_cases h2 : (decide (0 ≤ st) && decide (st < 20000) && grpsB (-1) gs) = true
      · rw [if_pos h2] at h
        simp only [Bool.and_eq_true, decide_eq_true_eq] at h2
        by_cases h3 : (partsI b).any (tkS q st) = true
        · rw [if_pos h3] at h
          injection h with _ h
          cases h
        · rw [if_neg h3] at h
          cases h4 : takeP l st gs now (partsI b) q with
          | none =>
            rw [h4] at h
            injection h with _ h
            cases h
          | some y =>
            rw [h4] at h
            injection h with h _
            subst h
            exact ⟨h0, h1, h2.1, h2.2, any_drop (by simpa using h3), rfl⟩
      · rw [if_neg h2] at h
        injection h with _ h
        cases h
    · rw [if_neg h1] at h
      injection h with _ h
      exact absurd h h1
  · rw [if_neg h0] at h
    injection h with _ h
    exact absurd h h0
theorem takeP_one {l : List Sec} {q x : List Seat} {st sec : Int} {gs : List Int} {now : Int} {s : Sec} (hf : findS l sec = some s) (h : takeP l st gs now [sec] q = some x) : take1 s q st sec gs now = some x := by
  unfold takeP at h
  rw [hf, Option.getD_some] at h
  cases h1 : take1 s q st sec gs now with
  | none => rw [h1] at h; cases h
  | some y => rw [h1] at h; exact h
theorem cntL_grp (q : List Seat) (n g : Int) (hg : g ≠ -2) : cntL q n g = cntG (secL q n) g := by
  unfold cntL cntG secL
  rw [List.filter_filter, show cntP n g = fun a => decide (a.group = g) && decide (a.sec = n) from funext fun x => by simp [cntP, hg, Bool.and_comm]]
theorem grp_ok {l : List Sec} {q : List Seat} (h : chkT l q = 0) (n : Int) : ∀ x ∈ secL q n, -1 ≤ x.group ∧ x.group < 8 := fun x hx => by
  have := (chkT_iff.1 h).2.1 x (secL_mem hx).1
  rw [seatOk, Bool.and_eq_true, decide_eq_true_eq] at this
  omega
/-- Room for one without a group: then there is room for all that is kept. -/
theorem gen_room {s : Sec} {q : List Seat} {now : Int} (hg : ∀ x ∈ q, -1 ≤ x.group ∧ x.group < 8) (h : 0 < genI s q now 8) (g : Int) (h0 : 0 ≤ g) (h8 : g < 8) : max (keptI s g now - cntG q g) 0 ≤ s.seats - (q.length + 1) := by
  have hs := cntG_sum q hg
  simp only [genI] at h
  have e : ∀ k : Nat, cntG q (k : Int) ≤ max (keptI s k now) (cntG q k) ∧ keptI s k now ≤ max (keptI s k now) (cntG q k) := fun k => by omega
  have e0 := e 0
  have e1 := e 1
  have e2 := e 2
  have e3 := e 3
  have e4 := e 4
  have e5 := e 5
  have e6 := e 6
  have e7 := e 7
  simp only [Int.natCast_zero, Int.natCast_one, Int.cast_ofNat_Int] at *
  rcases show g = 0 ∨ g = 1 ∨ g = 2 ∨ g = 3 ∨ g = 4 ∨ g = 5 ∨ g = 6 ∨ g = 7 by omega with rfl | rfl | rfl | rfl | rfl | rfl | rfl | rfl <;> omega
structure Resd (l : List Sec) (q x : List Seat) (sec now : Int) (s : Sec) : Prop where
  find : findS l sec = some s
  chk : chkT l x = 0
  small : Small s
  len : x.length = q.length + 1
  one : cntL x sec (-1) = cntL q sec (-1) + 1
  same : ∀ g : Int, 0 ≤ g → g < 8 → cntL x sec g = cntL q sec g
  left : ∀ g : Int, 0 ≤ g → g < 8 → max (keptI s g now - cntL x sec g) 0 ≤ s.seats - cntL x sec (-2)
  free : ∀ g : Int, 0 ≤ g → g < 8 → freeN s x g now = min (freeN s x (-1) now + min (max (keptI s g now - cntL x sec g) 0) (s.seats - cntL x sec (-2))) (s.seats - cntL x sec (-2))
theorem resd_of {l : List Sec} {q x : List Seat} {st sec now : Int} (h : takeT l q st ⟨sec, -1⟩ [] now = (x, 0)) : ∃ s, Resd l q x sec now s := by
  obtain ⟨h0, h1, h2, h3, h4, h5⟩ := takeT_zero h
  have hp : partsI ⟨sec, -1⟩ = [sec] := rfl
  rw [hp] at h4 h5
  obtain ⟨hpf, hpn, _⟩ := bun_parts h1
  rw [hp] at hpf
  obtain ⟨s, hs⟩ := hpf sec (List.mem_singleton.2 rfl)
  have ht := takeP_one hs h5
  have hc := take1_chk h0 hs (h4 sec (List.mem_singleton.2 rfl)) h2 (fun g hg => by cases hg) ht
  obtain ⟨g, hx, ⟨hg1, hg2, _⟩ | ⟨hg, _⟩⟩ := take1_some ht
  · subst hg1
    obtain ⟨hid, hmem⟩ := findS_id hs
    have hgo := grp_ok h0 s.id
    have hpm : x.Perm (⟨st, sec, -1⟩ :: q) := by rw [hx]; exact insS_perm _ _
    have hpX := secL_perm hpm sec
    rw [secL_cons, if_pos rfl] at hpX
    have hlen : (secL x sec).length = (secL q sec).length + 1 := hpX.length_eq
    have hcn : ∀ g : Int, 0 ≤ g → cntG (secL x sec) g = cntG (secL q sec) g := fun g hg => by
      rw [cntG_perm hpX, cntG_cons, if_neg (by show ¬ (-1 : Int) = g; omega)]
      omega
    have hgr : 0 < genI s (secL q s.id) now 8 := by
      unfold genS at hg2
      omega
    have hroom := gen_room hgo hgr
    rw [hid] at hroom
    refine ⟨s, hs, hc, small_of (chkT_iff.1 h0).1 hmem, by rw [hx, insS_len], ?_, fun g a b => ?_, fun g a b => ?_, fun g a b => ?_⟩
    · rw [cntL_grp _ _ _ (by decide), cntL_grp _ _ _ (by decide), cntG_perm hpX, cntG_cons, if_pos rfl]
    · rw [cntL_grp _ _ _ (by omega), cntL_grp _ _ _ (by omega), hcn g a]
    · rw [cntL_grp _ _ _ (by omega), cntL_all, hcn g a, hlen]
      have := hroom g a b
      omega
    · rw [cntL_grp _ _ _ (by omega), cntL_all]
      unfold freeN allS
      rw [if_pos a, if_neg (by decide), hid]
      rfl
  · cases hg
theorem reserved_law (l : List Sec) (q : List Seat) (st sec : Int) (sp : Step) : Pure Tryd.prog 6 [eSecs l, eSeats q, .int .i64 st, .int .i64 sec, .agg (eStep sp)] [.bool true] := by
  refine pure_rule hT (T := tab) (N := 132) (rs := [.tmp 10]) Tryd.func6 rfl rfl rfl (by kernel_rfl) rfl ?_
  have hS := sane25_ok
  have hF := few25_ok l q
  cases hfew : few25 l q with
  | false =>
    rw [hfew] at hF
    repeat' (first | with_reducible refine Sq.go ?_ | ((with_reducible refine Ev.mk ?_); conv => whnf) | with_reducible refine Dr.mk ⟨by kernel_rfl, by kernel_rfl⟩ ?_ | with_reducible refine obG ?_ | with_reducible refine Ob.mk ?_ ?_ | (with_reducible first | refine brT fun h => ?_ | refine brF fun h => ?_ | refine Br.mk (fun h => ?_) fun h => ?_) <;> (try simp only [bsl, beq_iff_eq, bne_iff_ne, bs2] at h) <;> (try contradiction) <;> try (exfalso; omega))
    refine hS.call ?_
    repeat' (first | with_reducible refine Sq.go ?_ | ((with_reducible refine Ev.mk ?_); conv => whnf) | with_reducible refine Dr.mk ⟨by kernel_rfl, by kernel_rfl⟩ ?_ | with_reducible refine obG ?_ | with_reducible refine Ob.mk ?_ ?_ | (with_reducible first | refine brT fun h => ?_ | refine brF fun h => ?_ | refine Br.mk (fun h => ?_) fun h => ?_) <;> (try simp only [bsl, beq_iff_eq, bne_iff_ne, bs2] at h) <;> (try contradiction) <;> try (exfalso; omega))
    refine hF.call ?_
    repeat' (first | with_reducible refine Sq.go ?_ | ((with_reducible refine Ev.mk ?_); conv => whnf) | with_reducible refine Dr.mk ⟨by kernel_rfl, by kernel_rfl⟩ ?_ | with_reducible refine obG ?_ | with_reducible refine Ob.mk ?_ ?_ | (with_reducible first | refine brT fun h => ?_ | refine brF fun h => ?_ | refine Br.mk (fun h => ?_) fun h => ?_) <;> (try simp only [bsl, beq_iff_eq, bne_iff_ne, bs2] at h) <;> (try contradiction) <;> try (exfalso; omega))
    exact ⟨rfl, True.intro⟩
  | true =>
    rw [hfew] at hF
    obtain ⟨hfs, hql, hll⟩ := few25_S hfew
    have hTk := Take_ok l hfs q (by omega) st ⟨sec, -1⟩ [] (by decide) sp.now
    obtain ⟨x, e, hte⟩ : ∃ x e, takeT l q st ⟨sec, -1⟩ [] sp.now = (x, e) := ⟨_, _, rfl⟩
    rw [hte] at hTk
    by_cases he : e = 0
    · subst he
      obtain ⟨s, hr⟩ := resd_of hte
      have hN := find_some (by omega) hr.find
      have hxl := hr.len
      have hx1 := lcount_ok x (by omega) sec (-1)
      have hq1 := lcount_ok q (by omega) sec (-1)
      have hx2 := lcount_ok x (by omega) sec (-2)
      have hone := hr.one
      have hlo := hr.small.lo
      have hhi := hr.small.hi
      have hb1 := cntL_le q sec (-1)
      have hb2 := cntL_le x sec (-2)
      obtain ⟨c1, hc1⟩ : ∃ c, cntL x sec (-1) = c := ⟨_, rfl⟩
      obtain ⟨c2, hc2⟩ : ∃ c, cntL q sec (-1) = c := ⟨_, rfl⟩
      obtain ⟨c3, hc3⟩ : ∃ c, cntL x sec (-2) = c := ⟨_, rfl⟩
      rw [hc1] at hx1 hone
      rw [hc2] at hq1 hone hb1
      rw [hc3] at hx2 hb2
      repeat' (first | with_reducible refine Sq.go ?_ | ((with_reducible refine Ev.mk ?_); conv => whnf) | with_reducible refine Dr.mk ⟨by kernel_rfl, by kernel_rfl⟩ ?_ | with_reducible refine obG ?_ | with_reducible refine Ob.mk ?_ ?_ | (with_reducible first | refine brT fun h => ?_ | refine brF fun h => ?_ | refine Br.mk (fun h => ?_) fun h => ?_) <;> (try simp only [bsl, beq_iff_eq, bne_iff_ne, bs2] at h) <;> (try contradiction) <;> try (exfalso; omega))
      refine hS.call ?_
      repeat' (first | with_reducible refine Sq.go ?_ | ((with_reducible refine Ev.mk ?_); conv => whnf) | with_reducible refine Dr.mk ⟨by kernel_rfl, by kernel_rfl⟩ ?_ | with_reducible refine obG ?_ | with_reducible refine Ob.mk ?_ ?_ | (with_reducible first | refine brT fun h => ?_ | refine brF fun h => ?_ | refine Br.mk (fun h => ?_) fun h => ?_) <;> (try simp only [bsl, beq_iff_eq, bne_iff_ne, bs2] at h) <;> (try contradiction) <;> try (exfalso; omega))
      refine hF.call ?_
      repeat' (first | with_reducible refine Sq.go ?_ | ((with_reducible refine Ev.mk ?_); conv => whnf) | with_reducible refine Dr.mk ⟨by kernel_rfl, by kernel_rfl⟩ ?_ | with_reducible refine obG ?_ | with_reducible refine Ob.mk ?_ ?_ | (with_reducible first | refine brT fun h => ?_ | refine brF fun h => ?_ | refine Br.mk (fun h => ?_) fun h => ?_) <;> (try simp only [bsl, beq_iff_eq, bne_iff_ne, bs2] at h) <;> (try contradiction) <;> try (exfalso; omega))
      refine (deqP (ds := [eSecs l, eSeats q, .int .i64 st, .agg (eBun ⟨sec, -1⟩), .nils, .int .i64 sp.now]) hTk ⟨⟨rfl, rfl, fun i hi => rfl⟩, ⟨rfl, rfl, fun i hi => rfl⟩, rfl, Or.inl rfl, rfl, rfl, True.intro⟩).call ?_
      repeat' (first | with_reducible refine Sq.go ?_ | ((with_reducible refine Ev.mk ?_); conv => whnf) | with_reducible refine Dr.mk ⟨by kernel_rfl, by kernel_rfl⟩ ?_ | with_reducible refine obG ?_ | with_reducible refine Ob.mk ?_ ?_ | (with_reducible first | refine brT fun h => ?_ | refine brF fun h => ?_ | refine Br.mk (fun h => ?_) fun h => ?_) <;> (try simp only [bsl, beq_iff_eq, bne_iff_ne, bs2] at h) <;> (try contradiction) <;> try (exfalso; omega))
      refine hN.call ?_
      repeat' (first | with_reducible refine Sq.go ?_ | ((with_reducible refine Ev.mk ?_); conv => whnf) | with_reducible refine Dr.mk ⟨by kernel_rfl, by kernel_rfl⟩ ?_ | with_reducible refine obG ?_ | with_reducible refine Ob.mk ?_ ?_ | (with_reducible first | refine brT fun h => ?_ | refine brF fun h => ?_ | refine Br.mk (fun h => ?_) fun h => ?_) <;> (try simp only [bsl, beq_iff_eq, bne_iff_ne, bs2] at h) <;> (try contradiction) <;> try (exfalso; omega))
      refine hx1.call ?_
      repeat' (first | with_reducible refine Sq.go ?_ | ((with_reducible refine Ev.mk ?_); conv => whnf) | with_reducible refine Dr.mk ⟨by kernel_rfl, by kernel_rfl⟩ ?_ | with_reducible refine obG ?_ | with_reducible refine Ob.mk ?_ ?_ | (with_reducible first | refine brT fun h => ?_ | refine brF fun h => ?_ | refine Br.mk (fun h => ?_) fun h => ?_) <;> (try simp only [bsl, beq_iff_eq, bne_iff_ne, bs2] at h) <;> (try contradiction) <;> try (exfalso; omega))
      refine hq1.call ?_
      repeat' (first | with_reducible refine Sq.go ?_ | ((with_reducible refine Ev.mk ?_); conv => whnf) | with_reducible refine Dr.mk ⟨by kernel_rfl, by kernel_rfl⟩ ?_ | with_reducible refine obG ?_ | with_reducible refine Ob.mk ?_ ?_ | (with_reducible first | refine brT fun h => ?_ | refine brF fun h => ?_ | refine Br.mk (fun h => ?_) fun h => ?_) <;> (try simp only [bsl, beq_iff_eq, bne_iff_ne, bs2] at h) <;> (try contradiction) <;> try (exfalso; omega))
      refine qC hx2 ?_
      repeat' (first | with_reducible refine Sq.go ?_ | ((with_reducible refine Ev.mk ?_); conv => whnf) | with_reducible refine Dr.mk ⟨by kernel_rfl, by kernel_rfl⟩ ?_ | with_reducible refine obG ?_ | with_reducible refine Ob.mk ?_ ?_ | (with_reducible first | refine brT fun h => ?_ | refine brF fun h => ?_ | refine Br.mk (fun h => ?_) fun h => ?_) <;> (try simp only [bsl, beq_iff_eq, bne_iff_ne, bs2] at h) <;> (try contradiction) <;> try (exfalso; omega))
      refine loop_rule hT (S := Nat) (fun k => ([(0, .d (eSecs l)), (1, .d (eSeats q)), (3, .d (.int .i64 sec)), (9, .ptr (.loc 0) 0 0 0), (12, .d (eSeats x)), (14, .ptr (.loc 2) 0 0 0), (16, .d (.int .i64 (s.seats - c3))), (67, .d (.int .i64 k))],
        ⟨[some (.box 30 (up (eStep sp))), some (.box 32 (up (eBun ⟨sec, -1⟩))), some (.box 44 (up (eSec s)))], []⟩)) (fun k => k ≤ 8) (fun k => 8 - k) 0 ?_ ?_ ?_
      · repeat' (first | exact True.intro | exact rfl | exact Nat.le_refl _ | refine And.intro ?_ ?_)
      · exact Nat.zero_le _
      · intro k hk
        by_cases hk2 : k < 8
        · have hxk := lcount_ok x (by omega) sec k
          have hqk := lcount_ok q (by omega) sec k
          have hkp := kept_ok s hr.small.groups k sp.now
          have hf1 := Free_ok l hfs x (by omega) sec (-1) sp.now
          have hf2 := Free_ok l hfs x (by omega) sec k sp.now
          rw [freeT_ok hr.chk hr.find (by decide)] at hf1
          rw [freeT_ok hr.chk hr.find (by omega)] at hf2
          have hsame := hr.same k (by omega) (by omega)
          have hleft := hr.left k (by omega) (by omega)
          have hfree := hr.free k (by omega) (by omega)
          have hkb := hr.small.kept k sp.now
          have hcb := cntL_le x sec k
          have hfb := freeN_bd hr.small (show x.length ≤ 1000 by omega) (-1) sp.now
          obtain ⟨a, ha⟩ : ∃ a, freeN s x (-1) sp.now = a := ⟨_, rfl⟩
          obtain ⟨c, hc⟩ : ∃ c, freeN s x k sp.now = c := ⟨_, rfl⟩
          obtain ⟨kp, hkpd⟩ : ∃ kp, keptI s k sp.now = kp := ⟨_, rfl⟩
          obtain ⟨cx, hcx⟩ : ∃ cx, cntL x sec k = cx := ⟨_, rfl⟩
          rw [hcx] at hxk hsame hleft hfree hcb
          rw [← hsame] at hqk
          rw [hkpd] at hkp hleft hfree hkb
          rw [ha] at hf1 hfree hfb
          rw [hc] at hf2 hfree
          rw [hc3] at hleft hfree
          have hI : In .i64 (a + min (max (kp - cx) 0) (s.seats - c3)) := in64.2 (by omega)
          repeat' (first | with_reducible refine Sq.go ?_ | ((with_reducible refine Ev.mk ?_); conv => whnf) | with_reducible refine Dr.mk ⟨by kernel_rfl, by kernel_rfl⟩ ?_ | with_reducible refine obG ?_ | with_reducible refine Ob.mk ?_ ?_ | (with_reducible first | refine brT fun h => ?_ | refine brF fun h => ?_ | refine Br.mk (fun h => ?_) fun h => ?_) <;> (try simp only [bsl, beq_iff_eq, bne_iff_ne, bs2] at h) <;> (try contradiction) <;> try (exfalso; omega))
          refine hxk.call ?_
          repeat' (first | with_reducible refine Sq.go ?_ | ((with_reducible refine Ev.mk ?_); conv => whnf) | with_reducible refine Dr.mk ⟨by kernel_rfl, by kernel_rfl⟩ ?_ | with_reducible refine obG ?_ | with_reducible refine Ob.mk ?_ ?_ | (with_reducible first | refine brT fun h => ?_ | refine brF fun h => ?_ | refine Br.mk (fun h => ?_) fun h => ?_) <;> (try simp only [bsl, beq_iff_eq, bne_iff_ne, bs2] at h) <;> (try contradiction) <;> try (exfalso; omega))
          refine hqk.call ?_
          repeat' (first | with_reducible refine Sq.go ?_ | ((with_reducible refine Ev.mk ?_); conv => whnf) | with_reducible refine Dr.mk ⟨by kernel_rfl, by kernel_rfl⟩ ?_ | with_reducible refine obG ?_ | with_reducible refine Ob.mk ?_ ?_ | (with_reducible first | refine brT fun h => ?_ | refine brF fun h => ?_ | refine Br.mk (fun h => ?_) fun h => ?_) <;> (try simp only [bsl, beq_iff_eq, bne_iff_ne, bs2] at h) <;> (try contradiction) <;> try (exfalso; omega))
          refine hkp.call ?_
          repeat' (first | with_reducible refine Sq.go ?_ | ((with_reducible refine Ev.mk ?_); conv => whnf) | with_reducible refine Dr.mk ⟨by kernel_rfl, by kernel_rfl⟩ ?_ | with_reducible refine obG ?_ | with_reducible refine Ob.mk ?_ ?_ | (with_reducible first | refine brT fun h => ?_ | refine brF fun h => ?_ | refine Br.mk (fun h => ?_) fun h => ?_) <;> (try simp only [bsl, beq_iff_eq, bne_iff_ne, bs2] at h) <;> (try contradiction) <;> try (exfalso; omega))
          refine hxk.call ?_
          repeat' (first | with_reducible refine Sq.go ?_ | ((with_reducible refine Ev.mk ?_); conv => whnf) | with_reducible refine Dr.mk ⟨by kernel_rfl, by kernel_rfl⟩ ?_ | with_reducible refine obG ?_ | with_reducible refine Ob.mk ?_ ?_ | (with_reducible first | refine brT fun h => ?_ | refine brF fun h => ?_ | refine Br.mk (fun h => ?_) fun h => ?_) <;> (try simp only [bsl, beq_iff_eq, bne_iff_ne, bs2] at h) <;> (try contradiction) <;> try (exfalso; omega))
          refine hf1.call ?_
          repeat' (first | with_reducible refine Sq.go ?_ | ((with_reducible refine Ev.mk ?_); conv => whnf) | with_reducible refine Dr.mk ⟨by kernel_rfl, by kernel_rfl⟩ ?_ | with_reducible refine obG ?_ | with_reducible refine Ob.mk ?_ ?_ | (with_reducible first | refine brT fun h => ?_ | refine brF fun h => ?_ | refine Br.mk (fun h => ?_) fun h => ?_) <;> (try simp only [bsl, beq_iff_eq, bne_iff_ne, bs2] at h) <;> (try contradiction) <;> try (exfalso; omega))
          refine hf2.call ?_
          repeat' (first | with_reducible refine Sq.go ?_ | ((with_reducible refine Ev.mk ?_); conv => whnf) | with_reducible refine Dr.mk ⟨by kernel_rfl, by kernel_rfl⟩ ?_ | with_reducible refine obG ?_ | with_reducible refine Ob.mk ?_ ?_ | (with_reducible first | refine brT fun h => ?_ | refine brF fun h => ?_ | refine Br.mk (fun h => ?_) fun h => ?_) <;> (try simp only [bsl, beq_iff_eq, bne_iff_ne, bs2] at h) <;> (try contradiction) <;> try (exfalso; omega))
          · exfalso
            simp only [cond_true, cond_false, Bool.not_eq_true', decide_eq_false_iff_not, decide_eq_true_eq, bsl] at h
            omega
          refine ⟨k + 1, by show k + 1 ≤ 8; omega, by show 8 - (k + 1) < 8 - k; omega, ?_⟩
          repeat' (first | exact True.intro | exact rfl | exact Nat.le_refl _ | refine And.intro ?_ ?_)
        · repeat' (first | with_reducible refine Sq.go ?_ | ((with_reducible refine Ev.mk ?_); conv => whnf) | with_reducible refine Dr.mk ⟨by kernel_rfl, by kernel_rfl⟩ ?_ | with_reducible refine obG ?_ | with_reducible refine Ob.mk ?_ ?_ | (with_reducible first | refine brT fun h => ?_ | refine brF fun h => ?_ | refine Br.mk (fun h => ?_) fun h => ?_) <;> (try simp only [bsl, beq_iff_eq, bne_iff_ne, bs2] at h) <;> (try contradiction) <;> try (exfalso; omega))
          exact ⟨rfl, True.intro⟩
    · repeat' (first | with_reducible refine Sq.go ?_ | ((with_reducible refine Ev.mk ?_); conv => whnf) | with_reducible refine Dr.mk ⟨by kernel_rfl, by kernel_rfl⟩ ?_ | with_reducible refine obG ?_ | with_reducible refine Ob.mk ?_ ?_ | (with_reducible first | refine brT fun h => ?_ | refine brF fun h => ?_ | refine Br.mk (fun h => ?_) fun h => ?_) <;> (try simp only [bsl, beq_iff_eq, bne_iff_ne, bs2] at h) <;> (try contradiction) <;> try (exfalso; omega))
      refine hS.call ?_
      repeat' (first | with_reducible refine Sq.go ?_ | ((with_reducible refine Ev.mk ?_); conv => whnf) | with_reducible refine Dr.mk ⟨by kernel_rfl, by kernel_rfl⟩ ?_ | with_reducible refine obG ?_ | with_reducible refine Ob.mk ?_ ?_ | (with_reducible first | refine brT fun h => ?_ | refine brF fun h => ?_ | refine Br.mk (fun h => ?_) fun h => ?_) <;> (try simp only [bsl, beq_iff_eq, bne_iff_ne, bs2] at h) <;> (try contradiction) <;> try (exfalso; omega))
      refine hF.call ?_
      repeat' (first | with_reducible refine Sq.go ?_ | ((with_reducible refine Ev.mk ?_); conv => whnf) | with_reducible refine Dr.mk ⟨by kernel_rfl, by kernel_rfl⟩ ?_ | with_reducible refine obG ?_ | with_reducible refine Ob.mk ?_ ?_ | (with_reducible first | refine brT fun h => ?_ | refine brF fun h => ?_ | refine Br.mk (fun h => ?_) fun h => ?_) <;> (try simp only [bsl, beq_iff_eq, bne_iff_ne, bs2] at h) <;> (try contradiction) <;> try (exfalso; omega))
      refine (deqP (ds := [eSecs l, eSeats q, .int .i64 st, .agg (eBun ⟨sec, -1⟩), .nils, .int .i64 sp.now]) hTk ⟨⟨rfl, rfl, fun i hi => rfl⟩, ⟨rfl, rfl, fun i hi => rfl⟩, rfl, Or.inl rfl, rfl, rfl, True.intro⟩).call ?_
      repeat' (first | with_reducible refine Sq.go ?_ | ((with_reducible refine Ev.mk ?_); conv => whnf) | with_reducible refine Dr.mk ⟨by kernel_rfl, by kernel_rfl⟩ ?_ | with_reducible refine obG ?_ | with_reducible refine Ob.mk ?_ ?_ | (with_reducible first | refine brT fun h => ?_ | refine brF fun h => ?_ | refine Br.mk (fun h => ?_) fun h => ?_) <;> (try simp only [bsl, beq_iff_eq, bne_iff_ne, bs2] at h) <;> (try contradiction) <;> try (exfalso; omega))
      exact ⟨rfl, True.intro⟩
end Go.Proofs.YtfbjlakcolipaaaDoor
