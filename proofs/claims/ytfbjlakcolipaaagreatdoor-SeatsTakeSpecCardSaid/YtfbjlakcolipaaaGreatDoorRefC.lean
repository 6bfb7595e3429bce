/-
  The reference of chapter 25: Valid, Check.
-/
import Derived.Test.YtfbjlakcolipaaaGreatDoorRefA
namespace Go.Proofs.YtfbjlakcolipaaaGreatDoor
set_option linter.unusedSimpArgs false
set_option linter.unusedVariables false
open Go Go.Ab
set_option maxRecDepth 100000
set_option maxHeartbeats 0
theorem rsvF_eq : ∀ {gs : List Grp} {last : Int}, gok last gs = true → ∀ i, rsvF gs i = resv gs i
  | [], _, _, _ => rfl
  | g :: r, last, h, i => by
    have h0 := h
    simp only [gok, Bool.and_eq_true, wit_iff] at h
    obtain ⟨⟨⟨h1, h2⟩, h3⟩, h4⟩ := h
    by_cases hg : g.g = i
    · rw [rsvF, List.find?_cons_of_pos (by simpa using hg), resv, if_pos hg, resv_out h4 (by omega)]
      show g.seats = _
      omega
    · rw [rsvF, List.find?_cons_of_neg (by simpa using hg), resv, if_neg hg]
      have := rsvF_eq h4 i
      unfold rsvF at this
      rw [this]
      omega
def roomX (q : List Seat) (s : Sec) (x : Seat) : Bool := decide (cntL q x.sec (-2) ≤ s.seats) && (decide (x.group < 0) || decide (cntL q x.sec x.group ≤ rsvF s.groups x.group))
def seatV (l : List Sec) (q : List Seat) (p : Option Seat) (x : Seat) : Bool := match findS l x.sec with
  | none => false
  | some s => decide (0 ≤ x.student ∧ x.student < 20000 ∧ -1 ≤ x.group ∧ x.group < 8) && afterS p x && roomX q s x
def validV (l : List Sec) (q : List Seat) : Option Seat → List Seat → Bool
  | _, [] => true
  | p, x :: r => seatV l q p x && validV l q (some x) r
theorem validV_iff {l : List Sec} {q : List Seat} : ∀ {r : List Seat} {p : Option Seat}, validV l q p r = true ↔ seatsB l p r = true ∧ ∀ x ∈ r, ∀ s, findS l x.sec = some s → roomX q s x = true
  | [], p => by simp [validV, seatsB]
  | x :: r, p => by
    rw [validV, Bool.and_eq_true, validV_iff (r := r), seatsB, Bool.and_eq_true, Bool.and_eq_true, Bool.and_eq_true]
    unfold seatV
    cases hf : findS l x.sec with
    | none => simp
    | some s =>
      simp only [Bool.and_eq_true, Option.isSome_some, List.mem_cons]
      constructor
      · rintro ⟨⟨⟨a, b⟩, c⟩, d, e⟩
        refine ⟨⟨⟨⟨a, b⟩, True.intro⟩, d⟩, fun y hy s' hs' => ?_⟩
        rcases hy with rfl | hy
        · rw [hf] at hs'
          cases hs'
          exact c
        · exact e y hy s' hs'
      · rintro ⟨⟨⟨⟨a, b⟩, _⟩, d⟩, e⟩
        exact ⟨⟨⟨a, b⟩, e x (.inl rfl) s hf⟩, d, fun y hy => e y (.inr hy)⟩
theorem room_all {l : List Sec} {q : List Seat} (h1 : chkAll l = 0) (h2 : seatsB l none q = true) : (∀ x ∈ q, ∀ s, findS l x.sec = some s → roomX q s x = true) ↔ l.all (roomS q) = true := by
  obtain ⟨hok, _, _⟩ := seatsB_iff.1 h2
  rw [List.all_eq_true]
  constructor
  · intro h s hs
    refine (roomS_iff (seats_nn h1 hs)).2 ?_
    have hfs := find_mem h1 hs
    have hform := chk_form h1 hs
    simp only [formed, Bool.and_eq_true] at hform
    have hre := rsvF_eq hform.1.1
    have hx : ∀ x ∈ secL q s.id, roomX q s x = true := fun x hx => by
      obtain ⟨a, b⟩ := secL_mem hx
      exact h x a s (by rw [b]; exact hfs)
    have hsn := (groups_at h1 hs).2.1
    refine ⟨?_, fun i hi hi8 => ?_⟩
    · cases hq : secL q s.id with
      | nil => simpa using hsn
      | cons x r =>
        have := hx x (by rw [hq]; exact List.mem_cons_self ..)
        have hxs := (secL_mem (q := q) (n := s.id) (x := x) (by rw [hq]; exact List.mem_cons_self ..)).2
        rw [roomX, Bool.and_eq_true, decide_eq_true_eq, hxs, cntL_all, hq] at this
        exact this.1
    · by_cases hc : ∃ x ∈ secL q s.id, x.group = i
      · obtain ⟨x, hxm, hxg⟩ := hc
        have := hx x hxm
        have hxs := (secL_mem hxm).2
        rw [roomX, Bool.and_eq_true, Bool.or_eq_true, decide_eq_true_eq, decide_eq_true_eq, decide_eq_true_eq, hxs, hxg, cntL_grp q s.id i (by omega), hre] at this
        omega
      · have h0 : cntG (secL q s.id) i = 0 := by
          unfold cntG
          rw [List.filter_eq_nil_iff.2 fun x hxm => by
            rw [decide_eq_true_eq]
            exact fun e => hc ⟨x, hxm, e⟩]
          rfl
        rw [h0]
        exact resv_nn (seats_nn h1 hs) i
  · intro h x hx s hs
    obtain ⟨hid, hmem⟩ := findS_id hs
    obtain ⟨ha, hb⟩ := (roomS_iff (seats_nn h1 hmem)).1 (h s hmem)
    have hform := chk_form h1 hmem
    simp only [formed, Bool.and_eq_true] at hform
    have hre := rsvF_eq hform.1.1
    have hxo := hok x hx
    rw [seatOk, Bool.and_eq_true, decide_eq_true_eq] at hxo
    rw [roomX, Bool.and_eq_true, Bool.or_eq_true, decide_eq_true_eq, decide_eq_true_eq, decide_eq_true_eq, ← hid, cntL_all, hre]
    refine ⟨ha, ?_⟩
    by_cases hg : x.group < 0
    · exact .inl hg
    · right
      rw [cntL_grp _ _ _ (by omega)]
      exact hb x.group (by omega) (by omega)
theorem valid_eq {l : List Sec} {q : List Seat} (h1 : chkAll l = 0) : chkT l q = if validV l q none q = true then 0 else 250 := by
  rw [chkT, if_pos h1]
  by_cases h2 : seatsB l none q = true
  · have := room_all h1 h2
    by_cases h3 : l.all (roomS q) = true
    · rw [if_pos ⟨h2, h3⟩, if_pos (validV_iff.2 ⟨h2, this.2 h3⟩)]
    · rw [if_neg (fun h => h3 h.2), if_neg (fun h => h3 (this.1 (validV_iff.1 h).2))]
  · rw [if_neg (fun h => h2 h.1), if_neg (fun h => h2 (validV_iff.1 h).1)]
theorem rvalid25_ok (l : List Sec) (hln : l.length ≤ 1000000) (hgl : ∀ s ∈ l, s.groups.length ≤ 1000000) (hsb : ∀ s ∈ l, 0 ≤ s.seats) (q : List Seat) (hq : q.length ≤ 1000) : Pure Tryz.prog 47 [eSecs l, eSeats q] [.bool (validV l q none q)] := by
  refine pure_rule hT (T := tab) (N := 108) (rs := [.tmp 4]) Tryz.func47 rfl rfl rfl (by kernel_rfl) rfl ?_
  repeat' (first | with_reducible refine Sq.go ?_ | ((with_reducible refine Ev.mk ?_); conv => whnf) | with_reducible refine Dr.mk ⟨by kernel_rfl, by kernel_rfl⟩ ?_ | with_reducible refine obG ?_ | with_reducible refine Ob.mk ?_ ?_ | (with_reducible first | refine brT fun h => ?_ | refine brF fun h => ?_ | refine Br.mk (fun h => ?_) fun h => ?_) <;> (try simp only [bsl, beq_iff_eq, bne_iff_ne, bs2] at h) <;> (try contradiction) <;> try (exfalso; omega))
  refine loop_rule hT (S := Nat) (fun k => ([(0, .d (eSecs l)), (1, .d (eSeats q)), (5, .d (.int .i64 k))], ⟨[], []⟩)) (fun k => k ≤ q.length ∧ validV l q none q = validV l q (prevT q k) (q.drop k)) (fun k => q.length - k) 0 ?_ ?_ ?_
  · repeat' (first | exact True.intro | exact rfl | exact Nat.le_refl _ | refine And.intro ?_ ?_)
  · exact ⟨Nat.zero_le _, rfl⟩
  · rintro k ⟨hk, hc⟩
    by_cases hk2 : k < q.length
    · rw [drop_at hk2, validV] at hc
      cases hf : findS l (q.getD k default).sec with
      | none =>
        have hF := rfind_none hln hf
        have hfail : validV l q none q = false := by rw [hc, seatV, hf]; rfl
        skip
        rw [hfail]
        repeat' (first | with_reducible refine Sq.go ?_ | ((with_reducible refine Ev.mk ?_); conv => whnf) | with_reducible refine Dr.mk ⟨by kernel_rfl, by kernel_rfl⟩ ?_ | with_reducible refine obG ?_ | with_reducible refine Ob.mk ?_ ?_ | (with_reducible first | refine brT fun h => ?_ | refine brF fun h => ?_ | refine Br.mk (fun h => ?_) fun h => ?_) <;> (try simp only [bsl, beq_iff_eq, bne_iff_ne, bs2] at h) <;> (try contradiction) <;> try (exfalso; omega))
        refine hF.call ?_
        repeat' (first | with_reducible refine Sq.go ?_ | ((with_reducible refine Ev.mk ?_); conv => whnf) | with_reducible refine Dr.mk ⟨by kernel_rfl, by kernel_rfl⟩ ?_ | with_reducible refine obG ?_ | with_reducible refine Ob.mk ?_ ?_ | (with_reducible first | refine brT fun h => ?_ | refine brF fun h => ?_ | refine Br.mk (fun h => ?_) fun h => ?_) <;> (try simp only [bsl, beq_iff_eq, bne_iff_ne, bs2] at h) <;> (try contradiction) <;> try (exfalso; omega))
        exact ⟨rfl, True.intro⟩
      | some s =>
        have hF := rfind_some hln hf
        obtain ⟨hid, hmem⟩ := findS_id hf
        have hsv : seatV l q (prevT q k) (q.getD k default) = (decide (0 ≤ (q.getD k default).student ∧ (q.getD k default).student < 20000 ∧ -1 ≤ (q.getD k default).group ∧ (q.getD k default).group < 8) && afterS (prevT q k) (q.getD k default) && roomX q s (q.getD k default)) := by rw [seatV, hf]
        rw [hsv] at hc
        by_cases g1 : (q.getD k default).student < 0
        · have hfail : validV l q none q = false := by rw [hc, decide_eq_false (by omega)]; rfl
          skip
          rw [hfail]
          repeat' (first | with_reducible refine Sq.go ?_ | ((with_reducible refine Ev.mk ?_); conv => whnf) | with_reducible refine Dr.mk ⟨by kernel_rfl, by kernel_rfl⟩ ?_ | with_reducible refine obG ?_ | with_reducible refine Ob.mk ?_ ?_ | (with_reducible first | refine brT fun h => ?_ | refine brF fun h => ?_ | refine Br.mk (fun h => ?_) fun h => ?_) <;> (try simp only [bsl, beq_iff_eq, bne_iff_ne, bs2] at h) <;> (try contradiction) <;> try (exfalso; omega))
          refine hF.call ?_
          repeat' (first | with_reducible refine Sq.go ?_ | ((with_reducible refine Ev.mk ?_); conv => whnf) | with_reducible refine Dr.mk ⟨by kernel_rfl, by kernel_rfl⟩ ?_ | with_reducible refine obG ?_ | with_reducible refine Ob.mk ?_ ?_ | (with_reducible first | refine brT fun h => ?_ | refine brF fun h => ?_ | refine Br.mk (fun h => ?_) fun h => ?_) <;> (try simp only [bsl, beq_iff_eq, bne_iff_ne, bs2] at h) <;> (try contradiction) <;> try (exfalso; omega))
          exact ⟨rfl, True.intro⟩
        by_cases g2 : (q.getD k default).student ≥ 20000
        · have hfail : validV l q none q = false := by rw [hc, decide_eq_false (by omega)]; rfl
          skip
          rw [hfail]
          repeat' (first | with_reducible refine Sq.go ?_ | ((with_reducible refine Ev.mk ?_); conv => whnf) | with_reducible refine Dr.mk ⟨by kernel_rfl, by kernel_rfl⟩ ?_ | with_reducible refine obG ?_ | with_reducible refine Ob.mk ?_ ?_ | (with_reducible first | refine brT fun h => ?_ | refine brF fun h => ?_ | refine Br.mk (fun h => ?_) fun h => ?_) <;> (try simp only [bsl, beq_iff_eq, bne_iff_ne, bs2] at h) <;> (try contradiction) <;> try (exfalso; omega))
          refine hF.call ?_
          repeat' (first | with_reducible refine Sq.go ?_ | ((with_reducible refine Ev.mk ?_); conv => whnf) | with_reducible refine Dr.mk ⟨by kernel_rfl, by kernel_rfl⟩ ?_ | with_reducible refine obG ?_ | with_reducible refine Ob.mk ?_ ?_ | (with_reducible first | refine brT fun h => ?_ | refine brF fun h => ?_ | refine Br.mk (fun h => ?_) fun h => ?_) <;> (try simp only [bsl, beq_iff_eq, bne_iff_ne, bs2] at h) <;> (try contradiction) <;> try (exfalso; omega))
          exact ⟨rfl, True.intro⟩
        by_cases g3 : (q.getD k default).group < -1
        · have hfail : validV l q none q = false := by rw [hc, decide_eq_false (by omega)]; rfl
          skip
          rw [hfail]
          repeat' (first | with_reducible refine Sq.go ?_ | ((with_reducible refine Ev.mk ?_); conv => whnf) | with_reducible refine Dr.mk ⟨by kernel_rfl, by kernel_rfl⟩ ?_ | with_reducible refine obG ?_ | with_reducible refine Ob.mk ?_ ?_ | (with_reducible first | refine brT fun h => ?_ | refine brF fun h => ?_ | refine Br.mk (fun h => ?_) fun h => ?_) <;> (try simp only [bsl, beq_iff_eq, bne_iff_ne, bs2] at h) <;> (try contradiction) <;> try (exfalso; omega))
          refine hF.call ?_
          repeat' (first | with_reducible refine Sq.go ?_ | ((with_reducible refine Ev.mk ?_); conv => whnf) | with_reducible refine Dr.mk ⟨by kernel_rfl, by kernel_rfl⟩ ?_ | with_reducible refine obG ?_ | with_reducible refine Ob.mk ?_ ?_ | (with_reducible first | refine brT fun h => ?_ | refine brF fun h => ?_ | refine Br.mk (fun h => ?_) fun h => ?_) <;> (try simp only [bsl, beq_iff_eq, bne_iff_ne, bs2] at h) <;> (try contradiction) <;> try (exfalso; omega))
          exact ⟨rfl, True.intro⟩
        by_cases g4 : (q.getD k default).group ≥ 8
        · have hfail : validV l q none q = false := by rw [hc, decide_eq_false (by omega)]; rfl
          skip
          rw [hfail]
          repeat' (first | with_reducible refine Sq.go ?_ | ((with_reducible refine Ev.mk ?_); conv => whnf) | with_reducible refine Dr.mk ⟨by kernel_rfl, by kernel_rfl⟩ ?_ | with_reducible refine obG ?_ | with_reducible refine Ob.mk ?_ ?_ | (with_reducible first | refine brT fun h => ?_ | refine brF fun h => ?_ | refine Br.mk (fun h => ?_) fun h => ?_) <;> (try simp only [bsl, beq_iff_eq, bne_iff_ne, bs2] at h) <;> (try contradiction) <;> try (exfalso; omega))
          refine hF.call ?_
          repeat' (first | with_reducible refine Sq.go ?_ | ((with_reducible refine Ev.mk ?_); conv => whnf) | with_reducible refine Dr.mk ⟨by kernel_rfl, by kernel_rfl⟩ ?_ | with_reducible refine obG ?_ | with_reducible refine Ob.mk ?_ ?_ | (with_reducible first | refine brT fun h => ?_ | refine brF fun h => ?_ | refine Br.mk (fun h => ?_) fun h => ?_) <;> (try simp only [bsl, beq_iff_eq, bne_iff_ne, bs2] at h) <;> (try contradiction) <;> try (exfalso; omega))
          exact ⟨rfl, True.intro⟩
        rw [decide_eq_true (show 0 ≤ (q.getD k default).student ∧ (q.getD k default).student < 20000 ∧ -1 ≤ (q.getD k default).group ∧ (q.getD k default).group < 8 by omega), Bool.true_and] at hc
        by_cases g5 : 0 < k ∧ ¬ ((q.getD ((k : Int) - 1).toNat default).sec < (q.getD k default).sec ∨ (q.getD ((k : Int) - 1).toNat default).sec = (q.getD k default).sec ∧ (q.getD ((k : Int) - 1).toNat default).student < (q.getD k default).student)
        · obtain ⟨g5, g6⟩ := g5
          have hfail : validV l q none q = false := by
            rw [hc, prevT, if_neg (by omega), afterS, decide_eq_false (by rw [seatC_neg]; exact g6)]
            rfl
          skip
          rw [hfail]
          repeat' (first | with_reducible refine Sq.go ?_ | ((with_reducible refine Ev.mk ?_); conv => whnf) | with_reducible refine Dr.mk ⟨by kernel_rfl, by kernel_rfl⟩ ?_ | with_reducible refine obG ?_ | with_reducible refine Ob.mk ?_ ?_ | (with_reducible first | refine brT fun h => ?_ | refine brF fun h => ?_ | refine Br.mk (fun h => ?_) fun h => ?_) <;> (try simp only [bsl, beq_iff_eq, bne_iff_ne, bs2] at h) <;> (try contradiction) <;> try (exfalso; omega))
          refine hF.call ?_
          repeat' (first | with_reducible refine Sq.go ?_ | ((with_reducible refine Ev.mk ?_); conv => whnf) | with_reducible refine Dr.mk ⟨by kernel_rfl, by kernel_rfl⟩ ?_ | with_reducible refine obG ?_ | with_reducible refine Ob.mk ?_ ?_ | (with_reducible first | refine brT fun h => ?_ | refine brF fun h => ?_ | refine Br.mk (fun h => ?_) fun h => ?_) <;> (try simp only [bsl, beq_iff_eq, bne_iff_ne, bs2] at h) <;> (try contradiction) <;> try (exfalso; omega))
          exact ⟨rfl, True.intro⟩
        have hafter : afterS (prevT q k) (q.getD k default) = true := by
          rw [prevT]
          split
          · rfl
          · rename_i hk0
            rw [afterS, decide_eq_true_eq, seatC_neg]
            exact Classical.byContradiction fun h => g5 ⟨by omega, h⟩
        rw [hafter, Bool.true_and, roomX] at hc
        have hord : k = 0 ∨ 0 < k ∧ ((q.getD ((k : Int) - 1).toNat default).sec < (q.getD k default).sec ∨ (q.getD ((k : Int) - 1).toNat default).sec = (q.getD k default).sec ∧ (q.getD ((k : Int) - 1).toNat default).student < (q.getD k default).student) := by
          by_cases hk0 : k = 0
          · exact .inl hk0
          · exact .inr ⟨by omega, Classical.byContradiction fun h => g5 ⟨by omega, h⟩⟩
        have hC1 := rcount_ok q hq (q.getD k default).sec (-2)
        have hC2 := rcount_ok q hq (q.getD k default).sec (q.getD k default).group
        have hR := rresv_ok s (hgl s hmem) (q.getD k default).group
        obtain ⟨c1, hc1⟩ : ∃ c, cntL q (q.getD k default).sec (-2) = c := ⟨_, rfl⟩
        obtain ⟨c2, hc2⟩ : ∃ c, cntL q (q.getD k default).sec (q.getD k default).group = c := ⟨_, rfl⟩
        obtain ⟨rv, hrv⟩ : ∃ c, rsvF s.groups (q.getD k default).group = c := ⟨_, rfl⟩
        rw [hc1] at hC1 hc
        rw [hc2] at hC2 hc
        rw [hrv] at hR hc
        by_cases g7 : c1 > s.seats
        · have hfail : validV l q none q = false := by rw [hc, decide_eq_false (by omega)]; rfl
          rw [hfail]
          repeat' (first | with_reducible refine Sq.go ?_ | ((with_reducible refine Ev.mk ?_); conv => whnf) | with_reducible refine Dr.mk ⟨by kernel_rfl, by kernel_rfl⟩ ?_ | with_reducible refine obG ?_ | with_reducible refine Ob.mk ?_ ?_ | (with_reducible first | refine brT fun h => ?_ | refine brF fun h => ?_ | refine Br.mk (fun h => ?_) fun h => ?_) <;> (try simp only [bsl, beq_iff_eq, bne_iff_ne, bs2] at h) <;> (try contradiction) <;> try (exfalso; omega))
          refine hF.call ?_
          repeat' (first | with_reducible refine Sq.go ?_ | ((with_reducible refine Ev.mk ?_); conv => whnf) | with_reducible refine Dr.mk ⟨by kernel_rfl, by kernel_rfl⟩ ?_ | with_reducible refine obG ?_ | with_reducible refine Ob.mk ?_ ?_ | (with_reducible first | refine brT fun h => ?_ | refine brF fun h => ?_ | refine Br.mk (fun h => ?_) fun h => ?_) <;> (try simp only [bsl, beq_iff_eq, bne_iff_ne, bs2] at h) <;> (try contradiction) <;> try (exfalso; omega))
          refine qC hC1 ?_
          repeat' (first | with_reducible refine Sq.go ?_ | ((with_reducible refine Ev.mk ?_); conv => whnf) | with_reducible refine Dr.mk ⟨by kernel_rfl, by kernel_rfl⟩ ?_ | with_reducible refine obG ?_ | with_reducible refine Ob.mk ?_ ?_ | (with_reducible first | refine brT fun h => ?_ | refine brF fun h => ?_ | refine Br.mk (fun h => ?_) fun h => ?_) <;> (try simp only [bsl, beq_iff_eq, bne_iff_ne, bs2] at h) <;> (try contradiction) <;> try (exfalso; omega))
          exact ⟨rfl, True.intro⟩
        rw [decide_eq_true (show c1 ≤ s.seats by omega), Bool.true_and] at hc
        by_cases g8 : (q.getD k default).group < 0
        · rw [decide_eq_true g8, Bool.true_or, Bool.true_and, ← prevT_succ] at hc
          repeat' (first | with_reducible refine Sq.go ?_ | ((with_reducible refine Ev.mk ?_); conv => whnf) | with_reducible refine Dr.mk ⟨by kernel_rfl, by kernel_rfl⟩ ?_ | with_reducible refine obG ?_ | with_reducible refine Ob.mk ?_ ?_ | (with_reducible first | refine brT fun h => ?_ | refine brF fun h => ?_ | refine Br.mk (fun h => ?_) fun h => ?_) <;> (try simp only [bsl, beq_iff_eq, bne_iff_ne, bs2] at h) <;> (try contradiction) <;> try (exfalso; omega))
          refine hF.call ?_
          repeat' (first | with_reducible refine Sq.go ?_ | ((with_reducible refine Ev.mk ?_); conv => whnf) | with_reducible refine Dr.mk ⟨by kernel_rfl, by kernel_rfl⟩ ?_ | with_reducible refine obG ?_ | with_reducible refine Ob.mk ?_ ?_ | (with_reducible first | refine brT fun h => ?_ | refine brF fun h => ?_ | refine Br.mk (fun h => ?_) fun h => ?_) <;> (try simp only [bsl, beq_iff_eq, bne_iff_ne, bs2] at h) <;> (try contradiction) <;> try (exfalso; omega))
          refine qC hC1 ?_
          repeat' (first | with_reducible refine Sq.go ?_ | ((with_reducible refine Ev.mk ?_); conv => whnf) | with_reducible refine Dr.mk ⟨by kernel_rfl, by kernel_rfl⟩ ?_ | with_reducible refine obG ?_ | with_reducible refine Ob.mk ?_ ?_ | (with_reducible first | refine brT fun h => ?_ | refine brF fun h => ?_ | refine Br.mk (fun h => ?_) fun h => ?_) <;> (try simp only [bsl, beq_iff_eq, bne_iff_ne, bs2] at h) <;> (try contradiction) <;> try (exfalso; omega))
          refine ⟨k + 1, ⟨by show k + 1 ≤ q.length; omega, hc⟩, by show q.length - (k + 1) < q.length - k; omega, ?_⟩
          repeat' (first | exact True.intro | exact rfl | exact Nat.le_refl _ | refine And.intro ?_ ?_)
        · rw [decide_eq_false g8, Bool.false_or] at hc
          by_cases g9 : c2 > rv
          · have hfail : validV l q none q = false := by rw [hc, decide_eq_false (by omega)]; rfl
            rw [hfail]
            repeat' (first | with_reducible refine Sq.go ?_ | ((with_reducible refine Ev.mk ?_); conv => whnf) | with_reducible refine Dr.mk ⟨by kernel_rfl, by kernel_rfl⟩ ?_ | with_reducible refine obG ?_ | with_reducible refine Ob.mk ?_ ?_ | (with_reducible first | refine brT fun h => ?_ | refine brF fun h => ?_ | refine Br.mk (fun h => ?_) fun h => ?_) <;> (try simp only [bsl, beq_iff_eq, bne_iff_ne, bs2] at h) <;> (try contradiction) <;> try (exfalso; omega))
            refine hF.call ?_
            repeat' (first | with_reducible refine Sq.go ?_ | ((with_reducible refine Ev.mk ?_); conv => whnf) | with_reducible refine Dr.mk ⟨by kernel_rfl, by kernel_rfl⟩ ?_ | with_reducible refine obG ?_ | with_reducible refine Ob.mk ?_ ?_ | (with_reducible first | refine brT fun h => ?_ | refine brF fun h => ?_ | refine Br.mk (fun h => ?_) fun h => ?_) <;> (try simp only [bsl, beq_iff_eq, bne_iff_ne, bs2] at h) <;> (try contradiction) <;> try (exfalso; omega))
            refine qC hC1 ?_
            repeat' (first | with_reducible refine Sq.go ?_ | ((with_reducible refine Ev.mk ?_); conv => whnf) | with_reducible refine Dr.mk ⟨by kernel_rfl, by kernel_rfl⟩ ?_ | with_reducible refine obG ?_ | with_reducible refine Ob.mk ?_ ?_ | (with_reducible first | refine brT fun h => ?_ | refine brF fun h => ?_ | refine Br.mk (fun h => ?_) fun h => ?_) <;> (try simp only [bsl, beq_iff_eq, bne_iff_ne, bs2] at h) <;> (try contradiction) <;> try (exfalso; omega))
            refine qC hC2 ?_
            repeat' (first | with_reducible refine Sq.go ?_ | ((with_reducible refine Ev.mk ?_); conv => whnf) | with_reducible refine Dr.mk ⟨by kernel_rfl, by kernel_rfl⟩ ?_ | with_reducible refine obG ?_ | with_reducible refine Ob.mk ?_ ?_ | (with_reducible first | refine brT fun h => ?_ | refine brF fun h => ?_ | refine Br.mk (fun h => ?_) fun h => ?_) <;> (try simp only [bsl, beq_iff_eq, bne_iff_ne, bs2] at h) <;> (try contradiction) <;> try (exfalso; omega))
            refine qC hR ?_
            repeat' (first | with_reducible refine Sq.go ?_ | ((with_reducible refine Ev.mk ?_); conv => whnf) | with_reducible refine Dr.mk ⟨by kernel_rfl, by kernel_rfl⟩ ?_ | with_reducible refine obG ?_ | with_reducible refine Ob.mk ?_ ?_ | (with_reducible first | refine brT fun h => ?_ | refine brF fun h => ?_ | refine Br.mk (fun h => ?_) fun h => ?_) <;> (try simp only [bsl, beq_iff_eq, bne_iff_ne, bs2] at h) <;> (try contradiction) <;> try (exfalso; omega))
            exact ⟨rfl, True.intro⟩
          · rw [decide_eq_true (show c2 ≤ rv by omega), Bool.true_and, ← prevT_succ] at hc
            repeat' (first | with_reducible refine Sq.go ?_ | ((with_reducible refine Ev.mk ?_); conv => whnf) | with_reducible refine Dr.mk ⟨by kernel_rfl, by kernel_rfl⟩ ?_ | with_reducible refine obG ?_ | with_reducible refine Ob.mk ?_ ?_ | (with_reducible first | refine brT fun h => ?_ | refine brF fun h => ?_ | refine Br.mk (fun h => ?_) fun h => ?_) <;> (try simp only [bsl, beq_iff_eq, bne_iff_ne, bs2] at h) <;> (try contradiction) <;> try (exfalso; omega))
            refine hF.call ?_
            repeat' (first | with_reducible refine Sq.go ?_ | ((with_reducible refine Ev.mk ?_); conv => whnf) | with_reducible refine Dr.mk ⟨by kernel_rfl, by kernel_rfl⟩ ?_ | with_reducible refine obG ?_ | with_reducible refine Ob.mk ?_ ?_ | (with_reducible first | refine brT fun h => ?_ | refine brF fun h => ?_ | refine Br.mk (fun h => ?_) fun h => ?_) <;> (try simp only [bsl, beq_iff_eq, bne_iff_ne, bs2] at h) <;> (try contradiction) <;> try (exfalso; omega))
            refine qC hC1 ?_
            repeat' (first | with_reducible refine Sq.go ?_ | ((with_reducible refine Ev.mk ?_); conv => whnf) | with_reducible refine Dr.mk ⟨by kernel_rfl, by kernel_rfl⟩ ?_ | with_reducible refine obG ?_ | with_reducible refine Ob.mk ?_ ?_ | (with_reducible first | refine brT fun h => ?_ | refine brF fun h => ?_ | refine Br.mk (fun h => ?_) fun h => ?_) <;> (try simp only [bsl, beq_iff_eq, bne_iff_ne, bs2] at h) <;> (try contradiction) <;> try (exfalso; omega))
            refine qC hC2 ?_
            repeat' (first | with_reducible refine Sq.go ?_ | ((with_reducible refine Ev.mk ?_); conv => whnf) | with_reducible refine Dr.mk ⟨by kernel_rfl, by kernel_rfl⟩ ?_ | with_reducible refine obG ?_ | with_reducible refine Ob.mk ?_ ?_ | (with_reducible first | refine brT fun h => ?_ | refine brF fun h => ?_ | refine Br.mk (fun h => ?_) fun h => ?_) <;> (try simp only [bsl, beq_iff_eq, bne_iff_ne, bs2] at h) <;> (try contradiction) <;> try (exfalso; omega))
            refine qC hR ?_
            repeat' (first | with_reducible refine Sq.go ?_ | ((with_reducible refine Ev.mk ?_); conv => whnf) | with_reducible refine Dr.mk ⟨by kernel_rfl, by kernel_rfl⟩ ?_ | with_reducible refine obG ?_ | with_reducible refine Ob.mk ?_ ?_ | (with_reducible first | refine brT fun h => ?_ | refine brF fun h => ?_ | refine Br.mk (fun h => ?_) fun h => ?_) <;> (try simp only [bsl, beq_iff_eq, bne_iff_ne, bs2] at h) <;> (try contradiction) <;> try (exfalso; omega))
            refine ⟨k + 1, ⟨by show k + 1 ≤ q.length; omega, hc⟩, by show q.length - (k + 1) < q.length - k; omega, ?_⟩
            repeat' (first | exact True.intro | exact rfl | exact Nat.le_refl _ | refine And.intro ?_ ?_)
    · rw [drop_end (by omega)] at hc
      rw [hc]
      repeat' (first | with_reducible refine Sq.go ?_ | ((with_reducible refine Ev.mk ?_); conv => whnf) | with_reducible refine Dr.mk ⟨by kernel_rfl, by kernel_rfl⟩ ?_ | with_reducible refine obG ?_ | with_reducible refine Ob.mk ?_ ?_ | (with_reducible first | refine brT fun h => ?_ | refine brF fun h => ?_ | refine Br.mk (fun h => ?_) fun h => ?_) <;> (try simp only [bsl, beq_iff_eq, bne_iff_ne, bs2] at h) <;> (try contradiction) <;> try (exfalso; omega))
      exact ⟨rfl, True.intro⟩
theorem rcheck25_ok (l : List Sec) (hl : fewS l) (q : List Seat) (hq : q.length ≤ 1000) : Pure Tryz.prog 25 [eSecs l, eSeats q] [.int .i64 (chkT l q)] := by
  refine pure_rule hT (T := tab) (N := 15) (rs := [.tmp 4]) Tryz.func25 rfl rfl rfl (by kernel_rfl) rfl ?_
  have hA := rcheckAll_ok l hl
  by_cases h0 : chkAll l = 0
  · rw [h0] at hA
    have hln : l.length ≤ 1000000 := by have := hl.1; omega
    have hV := rvalid25_ok l hln (fun s hs => by have := (hl.2 s hs).1; omega) (fun s hs => (groups_at h0 hs).2.1) q hq
    rw [valid_eq h0]
    cases hv : validV l q none q with
    | false =>
      rw [hv] at hV
      rw [if_neg Bool.false_ne_true]
      repeat' (first | with_reducible refine Sq.go ?_ | ((with_reducible refine Ev.mk ?_); conv => whnf) | with_reducible refine Dr.mk ⟨by kernel_rfl, by kernel_rfl⟩ ?_ | with_reducible refine obG ?_ | with_reducible refine Ob.mk ?_ ?_ | (with_reducible first | refine brT fun h => ?_ | refine brF fun h => ?_ | refine Br.mk (fun h => ?_) fun h => ?_) <;> (try simp only [bsl, beq_iff_eq, bne_iff_ne, bs2] at h) <;> (try contradiction) <;> try (exfalso; omega))
      refine hA.call ?_
      repeat' (first | with_reducible refine Sq.go ?_ | ((with_reducible refine Ev.mk ?_); conv => whnf) | with_reducible refine Dr.mk ⟨by kernel_rfl, by kernel_rfl⟩ ?_ | with_reducible refine obG ?_ | with_reducible refine Ob.mk ?_ ?_ | (with_reducible first | refine brT fun h => ?_ | refine brF fun h => ?_ | refine Br.mk (fun h => ?_) fun h => ?_) <;> (try simp only [bsl, beq_iff_eq, bne_iff_ne, bs2] at h) <;> (try contradiction) <;> try (exfalso; omega))
      refine hV.call ?_
      repeat' (first | with_reducible refine Sq.go ?_ | ((with_reducible refine Ev.mk ?_); conv => whnf) | with_reducible refine Dr.mk ⟨by kernel_rfl, by kernel_rfl⟩ ?_ | with_reducible refine obG ?_ | with_reducible refine Ob.mk ?_ ?_ | (with_reducible first | refine brT fun h => ?_ | refine brF fun h => ?_ | refine Br.mk (fun h => ?_) fun h => ?_) <;> (try simp only [bsl, beq_iff_eq, bne_iff_ne, bs2] at h) <;> (try contradiction) <;> try (exfalso; omega))
      exact ⟨rfl, True.intro⟩
    | true =>
      rw [hv] at hV
      rw [if_pos rfl]
      repeat' (first | with_reducible refine Sq.go ?_ | ((with_reducible refine Ev.mk ?_); conv => whnf) | with_reducible refine Dr.mk ⟨by kernel_rfl, by kernel_rfl⟩ ?_ | with_reducible refine obG ?_ | with_reducible refine Ob.mk ?_ ?_ | (with_reducible first | refine brT fun h => ?_ | refine brF fun h => ?_ | refine Br.mk (fun h => ?_) fun h => ?_) <;> (try simp only [bsl, beq_iff_eq, bne_iff_ne, bs2] at h) <;> (try contradiction) <;> try (exfalso; omega))
      refine hA.call ?_
      repeat' (first | with_reducible refine Sq.go ?_ | ((with_reducible refine Ev.mk ?_); conv => whnf) | with_reducible refine Dr.mk ⟨by kernel_rfl, by kernel_rfl⟩ ?_ | with_reducible refine obG ?_ | with_reducible refine Ob.mk ?_ ?_ | (with_reducible first | refine brT fun h => ?_ | refine brF fun h => ?_ | refine Br.mk (fun h => ?_) fun h => ?_) <;> (try simp only [bsl, beq_iff_eq, bne_iff_ne, bs2] at h) <;> (try contradiction) <;> try (exfalso; omega))
      refine hV.call ?_
      repeat' (first | with_reducible refine Sq.go ?_ | ((with_reducible refine Ev.mk ?_); conv => whnf) | with_reducible refine Dr.mk ⟨by kernel_rfl, by kernel_rfl⟩ ?_ | with_reducible refine obG ?_ | with_reducible refine Ob.mk ?_ ?_ | (with_reducible first | refine brT fun h => ?_ | refine brF fun h => ?_ | refine Br.mk (fun h => ?_) fun h => ?_) <;> (try simp only [bsl, beq_iff_eq, bne_iff_ne, bs2] at h) <;> (try contradiction) <;> try (exfalso; omega))
      exact ⟨rfl, True.intro⟩
  · rw [show chkT l q = chkAll l by rw [chkT, if_neg h0]]
    repeat' (first | with_reducible refine Sq.go ?_ | ((with_reducible refine Ev.mk ?_); conv => whnf) | with_reducible refine Dr.mk ⟨by kernel_rfl, by kernel_rfl⟩ ?_ | with_reducible refine obG ?_ | with_reducible refine Ob.mk ?_ ?_ | (with_reducible first | refine brT fun h => ?_ | refine brF fun h => ?_ | refine Br.mk (fun h => ?_) fun h => ?_) <;> (try simp only [bsl, beq_iff_eq, bne_iff_ne, bs2] at h) <;> (try contradiction) <;> try (exfalso; omega))
    refine hA.call ?_
    repeat' (first | with_reducible refine Sq.go ?_ | ((with_reducible refine Ev.mk ?_); conv => whnf) | with_reducible refine Dr.mk ⟨by kernel_rfl, by kernel_rfl⟩ ?_ | with_reducible refine obG ?_ | with_reducible refine Ob.mk ?_ ?_ | (with_reducible first | refine brT fun h => ?_ | refine brF fun h => ?_ | refine Br.mk (fun h => ?_) fun h => ?_) <;> (try simp only [bsl, beq_iff_eq, bne_iff_ne, bs2] at h) <;> (try contradiction) <;> try (exfalso; omega))
    exact ⟨rfl, True.intro⟩
end Go.Proofs.YtfbjlakcolipaaaGreatDoor
