/-
  Seats: the laws SeatsBack and SeatsOthers.
-/
import Derived.Test.YtfbjlakcolipaaaDoorSeatQ
namespace Go.Proofs.YtfbjlakcolipaaaDoor
set_option linter.unusedSimpArgs false
set_option linter.unusedVariables false
open Go Go.Ab
set_option maxRecDepth 100000
set_option maxHeartbeats 0
theorem takeT_err {l : List Sec} {q x : List Seat} {st : Int} {b : Bun} {gs : List Int} {now e : Int} (h : takeT l q st b gs now = (x, e)) (he : e ≠ 0) : x = [] := by
  unfold takeT at h
  by_cases h0 : chkT l q = 0
  · rw [if_pos h0] at h
    by_cases h1 : bchk l b = 0
    · rw [if_pos h1] at h
      by_cases h2 : (decide (0 ≤ st) && decide (st < 20000) && grpsB (-1) gs) = true
      · rw [if_pos h2] at h
        by_cases h3 : (partsI b).any (tkS q st) = true
        · rw [if_pos h3] at h
          exact (congrArg Prod.fst h).symm
        · rw [if_neg h3] at h
          cases h4 : takeP l st gs now (partsI b) q with
          | none =>
            rw [h4] at h
            exact (congrArg Prod.fst h).symm
          | some y =>
            rw [h4] at h
            exact absurd (congrArg Prod.snd h).symm he
      · rw [if_neg h2] at h
        exact (congrArg Prod.fst h).symm
    · rw [if_neg h1] at h
      exact (congrArg Prod.fst h).symm
  · rw [if_neg h0] at h
    exact (congrArg Prod.fst h).symm
theorem parts_cons (b : Bun) : ∃ r, partsI b = b.sec :: r := by
  unfold partsI
  split <;> exact ⟨_, rfl⟩
theorem ofPart_off {q : List Seat} {st : Int} {b : Bun} (h : ∀ p ∈ partsI b, tkS q st p = false) : ∀ x ∈ q, ofPart st b x = false := fun x hx => by
  unfold ofPart
  rw [Bool.and_eq_false_iff, decide_eq_false_iff_not, decide_eq_false_iff_not]
  by_cases h1 : x.sec ∈ partsI b
  · refine .inl fun h2 => ?_
    have : tkS q st x.sec = true := tkS_iff.2 ⟨x, hx, rfl, h2⟩
    rw [h _ h1] at this
    cases this
  · exact .inr h1
/-- What is taken is a valid list, and its seats are those of before and the new ones. -/
theorem taken_all {l : List Sec} {q x : List Seat} {st : Int} {b : Bun} {gs : List Int} {now : Int} (h : takeT l q st b gs now = (x, 0)) :
    chkT l x = 0 ∧ x.length = q.length + (partsI b).length ∧ (∀ st' n, tkS x st' n = ((decide (st = st') && decide (n ∈ partsI b)) || tkS q st' n)) ∧ (∀ f : Seat → Bool, (∀ p ∈ partsI b, ∀ g, f ⟨st, p, g⟩ = false) → x.filter f = q.filter f) := by
  obtain ⟨h0, h1, h2, h3, h4, h5⟩ := takeT_zero h
  obtain ⟨hpf, hpn, _⟩ := bun_parts h1
  exact takeP_all h2 (grpsB_mem h3) h0 hpf h4 hpn h5
theorem back_plain {l : List Sec} {q x : List Seat} {st : Int} {b : Bun} {gs : List Int} {now : Int} (h : takeT l q st b gs now = (x, 0)) :
    leaveT x st b = (q, 0) ∧ leaveT q st b = ([], 250) ∧ takeT l x st b gs now = ([], 250) := by
  obtain ⟨h0, h1, h2, h3, h4, h5⟩ := takeT_zero h
  obtain ⟨a1, a2, a3, a4⟩ := taken_all h
  obtain ⟨r, hr⟩ := parts_cons b
  have hall : ∀ p ∈ partsI b, tkS x st p = true := fun p hp => by
    rw [a3, decide_eq_true rfl, decide_eq_true hp]
    rfl
  refine ⟨?_, ?_, ?_⟩
  · rw [leaveT, if_pos (List.all_eq_true.2 hall)]
    have hf := a4 (fun y => !ofPart st b y) (fun p hp g => by simp [ofPart, hp])
    rw [hf, List.filter_eq_self.2 fun y hy => by rw [ofPart_off h4 y hy]; rfl]
  · have hs := h4 b.sec (by rw [hr]; exact List.mem_cons_self ..)
    rw [leaveT, if_neg (by rw [hr, List.all_cons, hs]; simp)]
  · have hs := hall b.sec (by rw [hr]; exact List.mem_cons_self ..)
    rw [takeT, if_pos a1, if_pos h1, if_pos (by rw [decide_eq_true h2.1, decide_eq_true h2.2, h3]; rfl), if_pos (by rw [hr, List.any_cons, hs]; rfl)]
def tArgs (l : List Sec) (q : List Seat) (st : Int) (b : Bun) (gs : List Int) (now : Int) : List D := [eSecs l, eSeats q, .int .i64 st, .agg (eBun b), eInts gs, .int .i64 now]
theorem back_law (l : List Sec) (q : List Seat) (st : Int) (b : Bun) (sp : Step) : Pure Tryd.prog 5 [eSecs l, eSeats q, .int .i64 st, .agg (eBun b), .agg (eStep sp)] [.bool true] := by
  refine pure_rule hT (T := tab) (N := 106) (rs := [.tmp 10]) Tryd.func5 rfl rfl rfl (by kernel_rfl) rfl ?_
  have hS := sane25_ok
  have hF := few25_ok l q
  cases hfew : few25 l q with
  | false =>
    rw [hfew] at hF
    repeat' (first | with_reducible refine Sq.go ?_ | ((with_reducible refine Ev.mk ?_); conv => whnf) | with_reducible refine Dr.mk ⟨by kernel_rfl, by kernel_rfl⟩ ?_ | with_reducible refine obG ?_ | with_reducible refine Ob.mk ?_ ?_ | (with_reducible first | refine brT fun h => ?_ | refine brF fun h => ?_ | refine Br.mk (fun h => ?_) fun h => ?_) <;> (try simp only [bsl, beq_iff_eq, bne_iff_ne, bs2] at h) <;> (try contradiction) <;> try (exfalso; omega))
    refine hS.call ?_
    repeat' (first | with_reducible refine Sq.go ?_ | ((with_reducible refine Ev.mk ?_); conv => whnf) | with_reducible refine Dr.mk ⟨by kernel_rfl, by kernel_rfl⟩ ?_ | with_reducible refine obG ?_ | with_reducible refine Ob.mk ?_ ?_ | (with_reducible first | refine brT fun h => ?_ | refine brF fun h => ?_ | refine Br.mk (fun h => ?_) fun h => ?_) <;> (try simp only [bsl, beq_iff_eq, bne_iff_ne, bs2] at h) <;> (try contradiction) <;> try (exfalso; omega))
    refine hF.call ?_
    repeat' (first | with_reducible refine Sq.go ?_ | ((with_reducible refine Ev.mk ?_); conv => whnf) | with_reducible refine Dr.mk ⟨by kernel_rfl, by kernel_rfl⟩ ?_ | with_reducible refine obG ?_ | with_reducible refine Ob.mk ?_ ?_ | (with_reducible first | refine brT fun h => ?_ | refine brF fun h => ?_ | refine Br.mk (fun h => ?_) fun h => ?_) <;> (try simp only [bsl, beq_iff_eq, bne_iff_ne, bs2] at h) <;> (try contradiction) <;> try (exfalso; omega))
    exact ⟨rfl, True.intro⟩
  | true =>
    rw [hfew] at hF
    obtain ⟨hfs, hql, hll⟩ := few25_S hfew
    have hG := groups_ok sp
    have hGl := bitsL_len sp.groups 8
    have hTk := Take_ok l hfs q (by omega) st b (bitsL sp.groups 8) (by omega) sp.now
    obtain ⟨x, e, hte⟩ : ∃ x e, takeT l q st b (bitsL sp.groups 8) sp.now = (x, e) := ⟨_, _, rfl⟩
    rw [hte] at hTk
    by_cases he : e = 0
    · subst he
      obtain ⟨b1, b2, b3⟩ := back_plain hte
      have hxl := (taken_all hte).2.1
      have hpl := partsI_len b
      have hL1 := leave_ok x (by omega) st b
      have hL2 := leave_ok q (by omega) st b
      have hT2 := Take_ok l hfs x (by omega) st b (bitsL sp.groups 8) (by omega) sp.now
      have hs1 := sameT_ok q q (by omega) (by omega)
      have hs2 := sameT_ok x x (by omega) (by omega)
      rw [b1] at hL1
      rw [b2] at hL2
      rw [b3] at hT2
      rw [decide_eq_true rfl] at hs1 hs2
      repeat' (first | with_reducible refine Sq.go ?_ | ((with_reducible refine Ev.mk ?_); conv => whnf) | with_reducible refine Dr.mk ⟨by kernel_rfl, by kernel_rfl⟩ ?_ | with_reducible refine obG ?_ | with_reducible refine Ob.mk ?_ ?_ | (with_reducible first | refine brT fun h => ?_ | refine brF fun h => ?_ | refine Br.mk (fun h => ?_) fun h => ?_) <;> (try simp only [bsl, beq_iff_eq, bne_iff_ne, bs2] at h) <;> (try contradiction) <;> try (exfalso; omega))
      refine hS.call ?_
      repeat' (first | with_reducible refine Sq.go ?_ | ((with_reducible refine Ev.mk ?_); conv => whnf) | with_reducible refine Dr.mk ⟨by kernel_rfl, by kernel_rfl⟩ ?_ | with_reducible refine obG ?_ | with_reducible refine Ob.mk ?_ ?_ | (with_reducible first | refine brT fun h => ?_ | refine brF fun h => ?_ | refine Br.mk (fun h => ?_) fun h => ?_) <;> (try simp only [bsl, beq_iff_eq, bne_iff_ne, bs2] at h) <;> (try contradiction) <;> try (exfalso; omega))
      refine hF.call ?_
      repeat' (first | with_reducible refine Sq.go ?_ | ((with_reducible refine Ev.mk ?_); conv => whnf) | with_reducible refine Dr.mk ⟨by kernel_rfl, by kernel_rfl⟩ ?_ | with_reducible refine obG ?_ | with_reducible refine Ob.mk ?_ ?_ | (with_reducible first | refine brT fun h => ?_ | refine brF fun h => ?_ | refine Br.mk (fun h => ?_) fun h => ?_) <;> (try simp only [bsl, beq_iff_eq, bne_iff_ne, bs2] at h) <;> (try contradiction) <;> try (exfalso; omega))
      refine qC hG ?_
      repeat' (first | with_reducible refine Sq.go ?_ | ((with_reducible refine Ev.mk ?_); conv => whnf) | with_reducible refine Dr.mk ⟨by kernel_rfl, by kernel_rfl⟩ ?_ | with_reducible refine obG ?_ | with_reducible refine Ob.mk ?_ ?_ | (with_reducible first | refine brT fun h => ?_ | refine brF fun h => ?_ | refine Br.mk (fun h => ?_) fun h => ?_) <;> (try simp only [bsl, beq_iff_eq, bne_iff_ne, bs2] at h) <;> (try contradiction) <;> try (exfalso; omega))
      refine qC hTk ?_
      repeat' (first | with_reducible refine Sq.go ?_ | ((with_reducible refine Ev.mk ?_); conv => whnf) | with_reducible refine Dr.mk ⟨by kernel_rfl, by kernel_rfl⟩ ?_ | with_reducible refine obG ?_ | with_reducible refine Ob.mk ?_ ?_ | (with_reducible first | refine brT fun h => ?_ | refine brF fun h => ?_ | refine Br.mk (fun h => ?_) fun h => ?_) <;> (try simp only [bsl, beq_iff_eq, bne_iff_ne, bs2] at h) <;> (try contradiction) <;> try (exfalso; omega))
      refine hL1.call ?_
      repeat' (first | with_reducible refine Sq.go ?_ | ((with_reducible refine Ev.mk ?_); conv => whnf) | with_reducible refine Dr.mk ⟨by kernel_rfl, by kernel_rfl⟩ ?_ | with_reducible refine obG ?_ | with_reducible refine Ob.mk ?_ ?_ | (with_reducible first | refine brT fun h => ?_ | refine brF fun h => ?_ | refine Br.mk (fun h => ?_) fun h => ?_) <;> (try simp only [bsl, beq_iff_eq, bne_iff_ne, bs2] at h) <;> (try contradiction) <;> try (exfalso; omega))
      refine qC hG ?_
      repeat' (first | with_reducible refine Sq.go ?_ | ((with_reducible refine Ev.mk ?_); conv => whnf) | with_reducible refine Dr.mk ⟨by kernel_rfl, by kernel_rfl⟩ ?_ | with_reducible refine obG ?_ | with_reducible refine Ob.mk ?_ ?_ | (with_reducible first | refine brT fun h => ?_ | refine brF fun h => ?_ | refine Br.mk (fun h => ?_) fun h => ?_) <;> (try simp only [bsl, beq_iff_eq, bne_iff_ne, bs2] at h) <;> (try contradiction) <;> try (exfalso; omega))
      refine qC hTk ?_
      repeat' (first | with_reducible refine Sq.go ?_ | ((with_reducible refine Ev.mk ?_); conv => whnf) | with_reducible refine Dr.mk ⟨by kernel_rfl, by kernel_rfl⟩ ?_ | with_reducible refine obG ?_ | with_reducible refine Ob.mk ?_ ?_ | (with_reducible first | refine brT fun h => ?_ | refine brF fun h => ?_ | refine Br.mk (fun h => ?_) fun h => ?_) <;> (try simp only [bsl, beq_iff_eq, bne_iff_ne, bs2] at h) <;> (try contradiction) <;> try (exfalso; omega))
      refine hL2.call ?_
      repeat' (first | with_reducible refine Sq.go ?_ | ((with_reducible refine Ev.mk ?_); conv => whnf) | with_reducible refine Dr.mk ⟨by kernel_rfl, by kernel_rfl⟩ ?_ | with_reducible refine obG ?_ | with_reducible refine Ob.mk ?_ ?_ | (with_reducible first | refine brT fun h => ?_ | refine brF fun h => ?_ | refine Br.mk (fun h => ?_) fun h => ?_) <;> (try simp only [bsl, beq_iff_eq, bne_iff_ne, bs2] at h) <;> (try contradiction) <;> try (exfalso; omega))
      refine qC hG ?_
      repeat' (first | with_reducible refine Sq.go ?_ | ((with_reducible refine Ev.mk ?_); conv => whnf) | with_reducible refine Dr.mk ⟨by kernel_rfl, by kernel_rfl⟩ ?_ | with_reducible refine obG ?_ | with_reducible refine Ob.mk ?_ ?_ | (with_reducible first | refine brT fun h => ?_ | refine brF fun h => ?_ | refine Br.mk (fun h => ?_) fun h => ?_) <;> (try simp only [bsl, beq_iff_eq, bne_iff_ne, bs2] at h) <;> (try contradiction) <;> try (exfalso; omega))
      refine qC hT2 ?_
      repeat' (first | with_reducible refine Sq.go ?_ | ((with_reducible refine Ev.mk ?_); conv => whnf) | with_reducible refine Dr.mk ⟨by kernel_rfl, by kernel_rfl⟩ ?_ | with_reducible refine obG ?_ | with_reducible refine Ob.mk ?_ ?_ | (with_reducible first | refine brT fun h => ?_ | refine brF fun h => ?_ | refine Br.mk (fun h => ?_) fun h => ?_) <;> (try simp only [bsl, beq_iff_eq, bne_iff_ne, bs2] at h) <;> (try contradiction) <;> try (exfalso; omega))
      refine hs1.call ?_
      repeat' (first | with_reducible refine Sq.go ?_ | ((with_reducible refine Ev.mk ?_); conv => whnf) | with_reducible refine Dr.mk ⟨by kernel_rfl, by kernel_rfl⟩ ?_ | with_reducible refine obG ?_ | with_reducible refine Ob.mk ?_ ?_ | (with_reducible first | refine brT fun h => ?_ | refine brF fun h => ?_ | refine Br.mk (fun h => ?_) fun h => ?_) <;> (try simp only [bsl, beq_iff_eq, bne_iff_ne, bs2] at h) <;> (try contradiction) <;> try (exfalso; omega))
      refine hs2.call ?_
      repeat' (first | with_reducible refine Sq.go ?_ | ((with_reducible refine Ev.mk ?_); conv => whnf) | with_reducible refine Dr.mk ⟨by kernel_rfl, by kernel_rfl⟩ ?_ | with_reducible refine obG ?_ | with_reducible refine Ob.mk ?_ ?_ | (with_reducible first | refine brT fun h => ?_ | refine brF fun h => ?_ | refine Br.mk (fun h => ?_) fun h => ?_) <;> (try simp only [bsl, beq_iff_eq, bne_iff_ne, bs2] at h) <;> (try contradiction) <;> try (exfalso; omega))
      exact ⟨rfl, True.intro⟩
    · have hx := takeT_err hte he
      subst hx
      repeat' (first | with_reducible refine Sq.go ?_ | ((with_reducible refine Ev.mk ?_); conv => whnf) | with_reducible refine Dr.mk ⟨by kernel_rfl, by kernel_rfl⟩ ?_ | with_reducible refine obG ?_ | with_reducible refine Ob.mk ?_ ?_ | (with_reducible first | refine brT fun h => ?_ | refine brF fun h => ?_ | refine Br.mk (fun h => ?_) fun h => ?_) <;> (try simp only [bsl, beq_iff_eq, bne_iff_ne, bs2] at h) <;> (try contradiction) <;> try (exfalso; omega))
      refine hS.call ?_
      repeat' (first | with_reducible refine Sq.go ?_ | ((with_reducible refine Ev.mk ?_); conv => whnf) | with_reducible refine Dr.mk ⟨by kernel_rfl, by kernel_rfl⟩ ?_ | with_reducible refine obG ?_ | with_reducible refine Ob.mk ?_ ?_ | (with_reducible first | refine brT fun h => ?_ | refine brF fun h => ?_ | refine Br.mk (fun h => ?_) fun h => ?_) <;> (try simp only [bsl, beq_iff_eq, bne_iff_ne, bs2] at h) <;> (try contradiction) <;> try (exfalso; omega))
      refine hF.call ?_
      repeat' (first | with_reducible refine Sq.go ?_ | ((with_reducible refine Ev.mk ?_); conv => whnf) | with_reducible refine Dr.mk ⟨by kernel_rfl, by kernel_rfl⟩ ?_ | with_reducible refine obG ?_ | with_reducible refine Ob.mk ?_ ?_ | (with_reducible first | refine brT fun h => ?_ | refine brF fun h => ?_ | refine Br.mk (fun h => ?_) fun h => ?_) <;> (try simp only [bsl, beq_iff_eq, bne_iff_ne, bs2] at h) <;> (try contradiction) <;> try (exfalso; omega))
      refine qC hG ?_
      repeat' (first | with_reducible refine Sq.go ?_ | ((with_reducible refine Ev.mk ?_); conv => whnf) | with_reducible refine Dr.mk ⟨by kernel_rfl, by kernel_rfl⟩ ?_ | with_reducible refine obG ?_ | with_reducible refine Ob.mk ?_ ?_ | (with_reducible first | refine brT fun h => ?_ | refine brF fun h => ?_ | refine Br.mk (fun h => ?_) fun h => ?_) <;> (try simp only [bsl, beq_iff_eq, bne_iff_ne, bs2] at h) <;> (try contradiction) <;> try (exfalso; omega))
      refine qC hTk ?_
      repeat' (first | with_reducible refine Sq.go ?_ | ((with_reducible refine Ev.mk ?_); conv => whnf) | with_reducible refine Dr.mk ⟨by kernel_rfl, by kernel_rfl⟩ ?_ | with_reducible refine obG ?_ | with_reducible refine Ob.mk ?_ ?_ | (with_reducible first | refine brT fun h => ?_ | refine brF fun h => ?_ | refine Br.mk (fun h => ?_) fun h => ?_) <;> (try simp only [bsl, beq_iff_eq, bne_iff_ne, bs2] at h) <;> (try contradiction) <;> try (exfalso; omega))
      exact ⟨rfl, True.intro⟩
def ownB (st : Int) (b : Bun) (y : Seat) : Bool := decide (y.student = st) && (decide (y.sec = b.sec) || decide (y.sec = b.lab))
def restS (st : Int) (b : Bun) (x : List Seat) : List Seat := x.filter fun y => !ownB st b y
theorem restS_snoc (st : Int) (b : Bun) (x : List Seat) (y : Seat) : restS st b (x ++ [y]) = if ownB st b y = true then restS st b x else restS st b x ++ [y] := by
  unfold restS
  rw [List.filter_append]
  by_cases h : ownB st b y = true <;> simp [h]
theorem restS_len (st : Int) (b : Bun) (x : List Seat) : (restS st b x).length ≤ x.length := List.length_filter_le _ _
theorem srt_at {x : List Seat} (h : srtS x) {k : Nat} (hk : k < x.length) (h0 : 0 < k) : seatC (x.getD ((k : Int) - 1).toNat default) (x.getD k default) < 0 := by
  have := List.pairwise_iff_getElem.1 h (k - 1) k (by omega) hk (by omega)
  rw [show ((k : Int) - 1).toNat = k - 1 by omega]
  simpa [List.getD_eq_getElem?_getD, hk, show k - 1 < x.length by omega] using this
theorem sec_nn {l : List Sec} {q : List Seat} (h : chkT l q = 0) {y : Seat} (hy : y ∈ q) : 0 ≤ y.sec := by
  obtain ⟨h1, h2, _⟩ := chkT_iff.1 h
  have := h2 y hy
  rw [seatOk, Bool.and_eq_true, Option.isSome_iff_exists] at this
  obtain ⟨_, s, hs⟩ := this
  obtain ⟨hid, hm⟩ := findS_id hs
  have := (formed_id (chk_form h1 hm)).1
  omega
theorem others_plain {l : List Sec} {q x : List Seat} {st : Int} {b : Bun} {gs : List Int} {now : Int} (h : takeT l q st b gs now = (x, 0)) : restS st b x = q := by
  obtain ⟨h0, h1, h2, h3, h4, h5⟩ := takeT_zero h
  obtain ⟨a1, a2, a3, a4⟩ := taken_all h
  obtain ⟨_, _, hlab⟩ := bun_parts h1
  have hsec : b.sec ∈ partsI b := by
    obtain ⟨r, hr⟩ := parts_cons b
    rw [hr]
    exact List.mem_cons_self ..
  have hmem : ∀ p ∈ partsI b, p = b.sec ∨ p = b.lab := fun p hp => by
    unfold partsI at hp
    split at hp
    · exact .inl (List.mem_singleton.1 hp)
    · simpa using hp
  unfold restS
  rw [a4 _ fun p hp g => by rcases hmem p hp with e | e <;> simp [ownB, e]]
  refine List.filter_eq_self.2 fun y hy => ?_
  have hoff := ofPart_off h4 y hy
  simp only [ofPart, Bool.and_eq_false_iff, decide_eq_false_iff_not] at hoff
  simp only [ownB, Bool.not_eq_true', Bool.and_eq_false_iff, Bool.or_eq_false_iff, decide_eq_false_iff_not]
  rcases hoff with h | h
  · exact .inl h
  · refine .inr ⟨fun e => h (by rw [e]; exact hsec), fun e => ?_⟩
    have := sec_nn h0 hy
    rcases hlab with hl | hl
    · omega
    · exact h (by rw [e]; unfold partsI; rw [if_neg (by omega)]; simp)
theorem others_law (l : List Sec) (q : List Seat) (st : Int) (b : Bun) (sp : Step) : Pure Tryd.prog 8 [eSecs l, eSeats q, .int .i64 st, .agg (eBun b), .agg (eStep sp)] [.bool true] := by
  refine pure_rule hT (T := tab) (N := 116) (rs := [.tmp 10]) Tryd.func8 rfl rfl rfl (by kernel_rfl) rfl ?_
  have hS := sane25_ok
  have hF := few25_ok l q
  cases hfew : few25 l q with
  | false =>
    rw [hfew] at hF
    repeat' (first | with_reducible refine Sq.go ?_ | ((with_reducible refine Ev.mk ?_); conv => whnf) | with_reducible refine Dr.mk ⟨by kernel_rfl, by kernel_rfl⟩ ?_ | with_reducible refine obG ?_ | with_reducible refine Ob.mk ?_ ?_ | (with_reducible first | refine brT fun h => ?_ | refine brF fun h => ?_ | refine Br.mk (fun h => ?_) fun h => ?_) <;> (try simp only [bsl, beq_iff_eq, bne_iff_ne, bs2] at h) <;> (try contradiction) <;> try (exfalso; omega))
    refine hS.call ?_
    repeat' (first | with_reducible refine Sq.go ?_ | ((with_reducible refine Ev.mk ?_); conv => whnf) | with_reducible refine Dr.mk ⟨by kernel_rfl, by kernel_rfl⟩ ?_ | with_reducible refine obG ?_ | with_reducible refine Ob.mk ?_ ?_ | (with_reducible first | refine brT fun h => ?_ | refine brF fun h => ?_ | refine Br.mk (fun h => ?_) fun h => ?_) <;> (try simp only [bsl, beq_iff_eq, bne_iff_ne, bs2] at h) <;> (try contradiction) <;> try (exfalso; omega))
    refine hF.call ?_
    repeat' (first | with_reducible refine Sq.go ?_ | ((with_reducible refine Ev.mk ?_); conv => whnf) | with_reducible refine Dr.mk ⟨by kernel_rfl, by kernel_rfl⟩ ?_ | with_reducible refine obG ?_ | with_reducible refine Ob.mk ?_ ?_ | (with_reducible first | refine brT fun h => ?_ | refine brF fun h => ?_ | refine Br.mk (fun h => ?_) fun h => ?_) <;> (try simp only [bsl, beq_iff_eq, bne_iff_ne, bs2] at h) <;> (try contradiction) <;> try (exfalso; omega))
    exact ⟨rfl, True.intro⟩
  | true =>
    rw [hfew] at hF
    obtain ⟨hfs, hql, hll⟩ := few25_S hfew
    have hG := groups_ok sp
    have hGl := bitsL_len sp.groups 8
    have hTk := Take_ok l hfs q (by omega) st b (bitsL sp.groups 8) (by omega) sp.now
    obtain ⟨x, e, hte⟩ : ∃ x e, takeT l q st b (bitsL sp.groups 8) sp.now = (x, e) := ⟨_, _, rfl⟩
    rw [hte] at hTk
    by_cases he : e = 0
    · subst he
      have hrest := others_plain hte
      have hxl := (taken_all hte).2.1
      have hxs := (chkT_iff.1 (taken_all hte).1).2.2.1
      have hpl := partsI_len b
      have hs := sameT_ok q q (by omega) (by omega)
      rw [decide_eq_true rfl] at hs
      repeat' (first | with_reducible refine Sq.go ?_ | ((with_reducible refine Ev.mk ?_); conv => whnf) | with_reducible refine Dr.mk ⟨by kernel_rfl, by kernel_rfl⟩ ?_ | with_reducible refine obG ?_ | with_reducible refine Ob.mk ?_ ?_ | (with_reducible first | refine brT fun h => ?_ | refine brF fun h => ?_ | refine Br.mk (fun h => ?_) fun h => ?_) <;> (try simp only [bsl, beq_iff_eq, bne_iff_ne, bs2] at h) <;> (try contradiction) <;> try (exfalso; omega))
      refine hS.call ?_
      repeat' (first | with_reducible refine Sq.go ?_ | ((with_reducible refine Ev.mk ?_); conv => whnf) | with_reducible refine Dr.mk ⟨by kernel_rfl, by kernel_rfl⟩ ?_ | with_reducible refine obG ?_ | with_reducible refine Ob.mk ?_ ?_ | (with_reducible first | refine brT fun h => ?_ | refine brF fun h => ?_ | refine Br.mk (fun h => ?_) fun h => ?_) <;> (try simp only [bsl, beq_iff_eq, bne_iff_ne, bs2] at h) <;> (try contradiction) <;> try (exfalso; omega))
      refine hF.call ?_
      repeat' (first | with_reducible refine Sq.go ?_ | ((with_reducible refine Ev.mk ?_); conv => whnf) | with_reducible refine Dr.mk ⟨by kernel_rfl, by kernel_rfl⟩ ?_ | with_reducible refine obG ?_ | with_reducible refine Ob.mk ?_ ?_ | (with_reducible first | refine brT fun h => ?_ | refine brF fun h => ?_ | refine Br.mk (fun h => ?_) fun h => ?_) <;> (try simp only [bsl, beq_iff_eq, bne_iff_ne, bs2] at h) <;> (try contradiction) <;> try (exfalso; omega))
      refine qC hG ?_
      repeat' (first | with_reducible refine Sq.go ?_ | ((with_reducible refine Ev.mk ?_); conv => whnf) | with_reducible refine Dr.mk ⟨by kernel_rfl, by kernel_rfl⟩ ?_ | with_reducible refine obG ?_ | with_reducible refine Ob.mk ?_ ?_ | (with_reducible first | refine brT fun h => ?_ | refine brF fun h => ?_ | refine Br.mk (fun h => ?_) fun h => ?_) <;> (try simp only [bsl, beq_iff_eq, bne_iff_ne, bs2] at h) <;> (try contradiction) <;> try (exfalso; omega))
      refine qC hTk ?_
      repeat' (first | with_reducible refine Sq.go ?_ | ((with_reducible refine Ev.mk ?_); conv => whnf) | with_reducible refine Dr.mk ⟨by kernel_rfl, by kernel_rfl⟩ ?_ | with_reducible refine obG ?_ | with_reducible refine Ob.mk ?_ ?_ | (with_reducible first | refine brT fun h => ?_ | refine brF fun h => ?_ | refine Br.mk (fun h => ?_) fun h => ?_) <;> (try simp only [bsl, beq_iff_eq, bne_iff_ne, bs2] at h) <;> (try contradiction) <;> try (exfalso; omega))
      refine Awp.vec 13 40 3 (fun _ => []) rfl ?_
      refine loop_rule hT (S := Nat) (fun k => ([(1, .d (eSeats q)), (2, .d (.int .i64 st)), (8, .ptr (.loc 0) 0 0 0), (11, .d (eSeats x)), (13, .osl (.loc 2) (restS st b (x.take k)).length 0 (restS st b (x.take k)).length), (14, .d (.int .i64 ((k : Int) - (restS st b (x.take k)).length))), (37, .d (eSeats x)), (38, .d (.int .i64 x.length)), (39, .d (.int .i64 k))],
        ⟨[some (.box 32 (up (eBun b))), some (.box 30 (up (eStep sp))), some (.vec 40 3 (restS st b (x.take k)).length (restS st b (x.take k)).length (rowsS (restS st b (x.take k))))], []⟩)) (fun k => k ≤ x.length) (fun k => x.length - k) 0 ?_ ?_ ?_
      · repeat' (first | exact True.intro | exact rfl | exact Nat.le_refl _ | refine And.intro ?_ ?_)
        all_goals (intro i hi; exact absurd hi (Nat.not_lt_zero _))
      · exact Nat.zero_le _
      · intro k hk
        have hrl := restS_len st b (x.take k)
        have htl : (x.take k).length ≤ k := by rw [List.length_take]; omega
        by_cases hk2 : k < x.length
        · have hsn := restS_snoc st b (x.take k) (x.getD k default)
          rw [← take_succ_at hk2] at hsn
          obtain ⟨R, hR⟩ : ∃ R, restS st b (x.take k) = R := ⟨_, rfl⟩
          rw [hR] at hsn hrl ⊢
          have hord : 0 < k → (x.getD ((k : Int) - 1).toNat default).sec < (x.getD k default).sec ∨ (x.getD ((k : Int) - 1).toNat default).sec = (x.getD k default).sec ∧ (x.getD ((k : Int) - 1).toNat default).student < (x.getD k default).student := fun h0 => (seatC_neg _ _).1 (srt_at hxs hk2 h0)
          by_cases hown : ownB st b (x.getD k default) = true
          · rw [if_pos hown] at hsn
            rw [ownB, Bool.and_eq_true, Bool.or_eq_true, decide_eq_true_eq, decide_eq_true_eq, decide_eq_true_eq] at hown
            repeat' (first | with_reducible refine Sq.go ?_ | ((with_reducible refine Ev.mk ?_); conv => whnf) | with_reducible refine Dr.mk ⟨by kernel_rfl, by kernel_rfl⟩ ?_ | with_reducible refine obG ?_ | with_reducible refine Ob.mk ?_ ?_ | (with_reducible first | refine brT fun h => ?_ | refine brF fun h => ?_ | refine Br.mk (fun h => ?_) fun h => ?_) <;> (try simp only [bsl, beq_iff_eq, bne_iff_ne, bs2] at h) <;> (try contradiction) <;> try (exfalso; omega))
            · refine ⟨k + 1, by show k + 1 ≤ x.length; omega, by show x.length - (k + 1) < x.length - k; omega, ?_⟩
              dsimp only
              rw [hsn]
              repeat' (first | exact True.intro | exact rfl | exact Nat.le_refl _ | refine And.intro ?_ ?_)
              all_goals first
                | (exact congrArg (fun n => AV.d (D.int .i64 n)) (by omega))
                | (intro i hi; exact ⟨rfl, rfl⟩)
          · rw [if_neg hown] at hsn
            have hyl := len_snoc R (x.getD k default)
            simp only [ownB, Bool.and_eq_true, Bool.or_eq_true, decide_eq_true_eq] at hown
            repeat' (first | with_reducible refine Sq.go ?_ | ((with_reducible refine Ev.mk ?_); conv => whnf) | with_reducible refine Dr.mk ⟨by kernel_rfl, by kernel_rfl⟩ ?_ | with_reducible refine obG ?_ | with_reducible refine Ob.mk ?_ ?_ | (with_reducible first | refine brT fun h => ?_ | refine brF fun h => ?_ | refine Br.mk (fun h => ?_) fun h => ?_) <;> (try simp only [bsl, beq_iff_eq, bne_iff_ne, bs2] at h) <;> (try contradiction) <;> try (exfalso; omega))
            all_goals
              refine ⟨k + 1, by show k + 1 ≤ x.length; omega, by show x.length - (k + 1) < x.length - k; omega, ?_⟩
              dsimp only
              rw [hsn, hyl]
              repeat' (first | exact True.intro | exact rfl | exact Nat.le_refl _ | refine And.intro ?_ ?_)
            all_goals first
              | (exact congrArg (fun n => AV.d (D.int .i64 n)) (by omega))
              | (intro i hi; rw [← hyl] at hi; exact ⟨join_snoc eSeat _ _ _ rfl i hi, rfl⟩)
              | (intro i hi; exact ⟨rfl, rfl⟩)
        · have hkx : k = x.length := by omega
          rw [hkx, List.take_length, hrest]
          repeat' (first | with_reducible refine Sq.go ?_ | ((with_reducible refine Ev.mk ?_); conv => whnf) | with_reducible refine Dr.mk ⟨by kernel_rfl, by kernel_rfl⟩ ?_ | with_reducible refine obG ?_ | with_reducible refine Ob.mk ?_ ?_ | (with_reducible first | refine brT fun h => ?_ | refine brF fun h => ?_ | refine Br.mk (fun h => ?_) fun h => ?_) <;> (try simp only [bsl, beq_iff_eq, bne_iff_ne, bs2] at h) <;> (try contradiction) <;> try (exfalso; omega))
          refine hs.loan rfl ⟨.rows rfl (by omega) (fun i hi => by rw [Nat.zero_add]; rfl), .d, True.intro⟩ ?_
          repeat' (first | with_reducible refine Sq.go ?_ | ((with_reducible refine Ev.mk ?_); conv => whnf) | with_reducible refine Dr.mk ⟨by kernel_rfl, by kernel_rfl⟩ ?_ | with_reducible refine obG ?_ | with_reducible refine Ob.mk ?_ ?_ | (with_reducible first | refine brT fun h => ?_ | refine brF fun h => ?_ | refine Br.mk (fun h => ?_) fun h => ?_) <;> (try simp only [bsl, beq_iff_eq, bne_iff_ne, bs2] at h) <;> (try contradiction) <;> try (exfalso; omega))
          refine ⟨congrArg D.bool ?_, True.intro⟩
          show (bif true then decide ((x.length : Int) - q.length = x.length - q.length) else false) = true
          rw [decide_eq_true rfl]
          rfl
    · repeat' (first | with_reducible refine Sq.go ?_ | ((with_reducible refine Ev.mk ?_); conv => whnf) | with_reducible refine Dr.mk ⟨by kernel_rfl, by kernel_rfl⟩ ?_ | with_reducible refine obG ?_ | with_reducible refine Ob.mk ?_ ?_ | (with_reducible first | refine brT fun h => ?_ | refine brF fun h => ?_ | refine Br.mk (fun h => ?_) fun h => ?_) <;> (try simp only [bsl, beq_iff_eq, bne_iff_ne, bs2] at h) <;> (try contradiction) <;> try (exfalso; omega))
      refine hS.call ?_
      repeat' (first | with_reducible refine Sq.go ?_ | ((with_reducible refine Ev.mk ?_); conv => whnf) | with_reducible refine Dr.mk ⟨by kernel_rfl, by kernel_rfl⟩ ?_ | with_reducible refine obG ?_ | with_reducible refine Ob.mk ?_ ?_ | (with_reducible first | refine brT fun h => ?_ | refine brF fun h => ?_ | refine Br.mk (fun h => ?_) fun h => ?_) <;> (try simp only [bsl, beq_iff_eq, bne_iff_ne, bs2] at h) <;> (try contradiction) <;> try (exfalso; omega))
      refine hF.call ?_
      repeat' (first | with_reducible refine Sq.go ?_ | ((with_reducible refine Ev.mk ?_); conv => whnf) | with_reducible refine Dr.mk ⟨by kernel_rfl, by kernel_rfl⟩ ?_ | with_reducible refine obG ?_ | with_reducible refine Ob.mk ?_ ?_ | (with_reducible first | refine brT fun h => ?_ | refine brF fun h => ?_ | refine Br.mk (fun h => ?_) fun h => ?_) <;> (try simp only [bsl, beq_iff_eq, bne_iff_ne, bs2] at h) <;> (try contradiction) <;> try (exfalso; omega))
      refine qC hG ?_
      repeat' (first | with_reducible refine Sq.go ?_ | ((with_reducible refine Ev.mk ?_); conv => whnf) | with_reducible refine Dr.mk ⟨by kernel_rfl, by kernel_rfl⟩ ?_ | with_reducible refine obG ?_ | with_reducible refine Ob.mk ?_ ?_ | (with_reducible first | refine brT fun h => ?_ | refine brF fun h => ?_ | refine Br.mk (fun h => ?_) fun h => ?_) <;> (try simp only [bsl, beq_iff_eq, bne_iff_ne, bs2] at h) <;> (try contradiction) <;> try (exfalso; omega))
      refine qC hTk ?_
      repeat' (first | with_reducible refine Sq.go ?_ | ((with_reducible refine Ev.mk ?_); conv => whnf) | with_reducible refine Dr.mk ⟨by kernel_rfl, by kernel_rfl⟩ ?_ | with_reducible refine obG ?_ | with_reducible refine Ob.mk ?_ ?_ | (with_reducible first | refine brT fun h => ?_ | refine brF fun h => ?_ | refine Br.mk (fun h => ?_) fun h => ?_) <;> (try simp only [bsl, beq_iff_eq, bne_iff_ne, bs2] at h) <;> (try contradiction) <;> try (exfalso; omega))
      exact ⟨rfl, True.intro⟩
end Go.Proofs.YtfbjlakcolipaaaDoor
