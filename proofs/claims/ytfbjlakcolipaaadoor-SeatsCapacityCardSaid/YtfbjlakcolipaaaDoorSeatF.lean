/-
  Seats: Check.
-/
import Derived.Test.YtfbjlakcolipaaaDoorSeatE
namespace Go.Proofs.YtfbjlakcolipaaaDoor
set_option linter.unusedSimpArgs false
set_option linter.unusedVariables false
open Go Go.Ab
set_option maxRecDepth 100000
set_option maxHeartbeats 0
theorem gok_at : ∀ {l : List Grp} {last : Int}, -1 ≤ last → gok last l = true → ∀ g ∈ l, last < g.g ∧ g.g ≤ 7 ∧ 0 ≤ g.seats ∧ g.seats ≤ 4096 ∧ 0 ≤ g.til ∧ g.til ≤ 1048576
  | [], _, _, _ => fun g h => by simp at h
  | x :: r, last, hl, h => fun g hg => by
    simp only [gok, Bool.and_eq_true, wit_iff] at h
    obtain ⟨⟨⟨h1, h2⟩, h3⟩, h4⟩ := h
    rcases List.mem_cons.1 hg with rfl | hg
    · omega
    · have := gok_at (by omega) h4 g hg
      omega
theorem groups_at {l : List Sec} (h : chkAll l = 0) {s : Sec} (hs : s ∈ l) : (∀ g ∈ s.groups, 0 ≤ g.g ∧ g.g ≤ 7 ∧ 0 ≤ g.seats ∧ g.seats ≤ 4096) ∧ 0 ≤ s.seats ∧ s.seats ≤ 4096 ∧ s.groups.length ≤ 8 := by
  have hE : chkE l = 0 := by
    unfold chkAll at h
    split at h
    · assumption
    · assumption
  have hf := (chkS_ok (chkE_at hE s hs)).1
  have hg := hf
  simp only [formed, Bool.and_eq_true, wit_iff, decide_eq_true_eq] at hg
  obtain ⟨⟨hg1, _⟩, hg2⟩ := hg
  refine ⟨fun g hm => ?_, by omega, by omega, by omega⟩
  have := gok_at (by decide) hg1 g hm
  omega
theorem small_of {l : List Sec} (h : chkAll l = 0) {s : Sec} (hs : s ∈ l) : Small s := by
  obtain ⟨h1, h2, h3, h4⟩ := groups_at h hs
  refine ⟨by omega, h2, by omega, fun g now => ?_⟩
  unfold keptI
  cases hf : s.groups.find? fun x => decide (x.g = g) with
  | none => simp
  | some x =>
    have := h1 x (List.mem_of_find?_eq_some hf)
    dsimp only
    split <;> omega
def afterS : Option Seat → Seat → Bool
  | none, _ => true
  | some y, x => decide (seatC y x < 0)
/-- The seats by themselves: their numbers, their order, their sections. -/
def seatsB (l : List Sec) : Option Seat → List Seat → Bool
  | _, [] => true
  | p, x :: r => decide (0 ≤ x.student ∧ x.student < 20000 ∧ -1 ≤ x.group ∧ x.group < 8) && afterS p x && (findS l x.sec).isSome && seatsB l (some x) r
def prevT (q : List Seat) (k : Nat) : Option Seat := if k = 0 then none else some (q.getD ((k : Int) - 1).toNat default)
theorem prevT_succ (q : List Seat) (k : Nat) : prevT q (k + 1) = some (q.getD k default) := by
  rw [prevT, if_neg (by omega), show (((k + 1 : Nat) : Int) - 1).toNat = k by omega]
def takeOff (c : Int → Int) (g : Grp) : Int → Int := fun i => if i = g.g then c i - min g.seats (c i) else c i
def offs (c : Int → Int) (gs : List Grp) : Int → Int := gs.foldl takeOff c
def eAd (c : Int → Int) (q : List Seat) : List D := [.int .i64 (c 0), .int .i64 (c 1), .int .i64 (c 2), .int .i64 (c 3), .int .i64 (c 4), .int .i64 (c 5), .int .i64 (c 6), .int .i64 (c 7), .int .i64 (cntG q (-1)), .int .i64 q.length]
def eight (c : Int → Int) : List Int := [c 0, c 1, c 2, c 3, c 4, c 5, c 6, c 7]
def roomS (q : List Seat) (s : Sec) : Bool := !(decide (((secL q s.id).length : Int) > s.seats) || decide (maxL (eight (offs (cntG (secL q s.id)) s.groups)) > 0))
def chkT (l : List Sec) (q : List Seat) : Int := if chkAll l = 0 then (if seatsB l none q = true ∧ l.all (roomS q) = true then 0 else 250) else chkAll l
theorem offs_snoc (c : Int → Int) (gs : List Grp) (g : Grp) : offs c (gs ++ [g]) = takeOff (offs c gs) g := by
  simp [offs, List.foldl_append]
def boundC (c : Int → Int) : Prop := ∀ i, 0 ≤ c i ∧ c i ≤ 1000
theorem takeOff_bd {c : Int → Int} (hc : boundC c) (g : Grp) (hg : 0 ≤ g.seats) : boundC (takeOff c g) := fun i => by
  have := hc i
  unfold takeOff
  split <;> omega
theorem offs_bd {c : Int → Int} (hc : boundC c) : ∀ {gs : List Grp}, (∀ g ∈ gs, 0 ≤ g.seats) → boundC (offs c gs)
  | [], _ => hc
  | g :: r, h => by
    have h1 := takeOff_bd hc g (h g (List.mem_cons_self ..))
    exact offs_bd h1 fun x hx => h x (List.mem_cons_of_mem _ hx)
theorem scheck_ok (l : List Sec) (hl : fewS l) (q : List Seat) (hq : q.length ≤ 1000) : Pure Tryd.prog 11 [eSecs l, eSeats q] [.int .i64 (chkT l q)] := by
  refine pure_rule hT (T := tab) (N := 115) (rs := [.tmp 4]) Tryd.func11 rfl rfl rfl (by kernel_rfl) rfl ?_
  have hln : l.length ≤ 1000000 := by have := hl.1; omega
  have hA := checkAll'_ok l hl
  by_cases h0 : chkAll l = 0
  · rw [h0] at hA
    repeat' (first | with_reducible refine Sq.go ?_ | ((with_reducible refine Ev.mk ?_); conv => whnf) | with_reducible refine Dr.mk ⟨by kernel_rfl, by kernel_rfl⟩ ?_ | with_reducible refine obG ?_ | with_reducible refine Ob.mk ?_ ?_ | (with_reducible first | refine brT fun h => ?_ | refine brF fun h => ?_ | refine Br.mk (fun h => ?_) fun h => ?_) <;> (try simp only [bsl, beq_iff_eq, bne_iff_ne, bs2] at h) <;> (try contradiction) <;> try (exfalso; omega))
    refine hA.call ?_
    repeat' (first | with_reducible refine Sq.go ?_ | ((with_reducible refine Ev.mk ?_); conv => whnf) | with_reducible refine Dr.mk ⟨by kernel_rfl, by kernel_rfl⟩ ?_ | with_reducible refine obG ?_ | with_reducible refine Ob.mk ?_ ?_ | (with_reducible first | refine brT fun h => ?_ | refine brF fun h => ?_ | refine Br.mk (fun h => ?_) fun h => ?_) <;> (try simp only [bsl, beq_iff_eq, bne_iff_ne, bs2] at h) <;> (try contradiction) <;> try (exfalso; omega))
    refine loop_rule hT (S := Nat) (fun k => ([(0, .d (eSecs l)), (1, .d (eSeats q)), (20, .d (eSeats q)), (21, .d (.int .i64 q.length)), (22, .d (.int .i64 k))], ⟨[], []⟩)) (fun k => k ≤ q.length ∧ seatsB l none q = seatsB l (prevT q k) (q.drop k)) (fun k => q.length - k) 0 ?_ ?_ ?_
    · repeat' (first | exact True.intro | exact rfl | exact Nat.le_refl _ | refine And.intro ?_ ?_)
    · exact ⟨Nat.zero_le _, rfl⟩
    · rintro k ⟨hk, hc⟩
      by_cases hk2 : k < q.length
      · rw [drop_at hk2, seatsB] at hc
        have fail : (decide (0 ≤ (q.getD k default).student ∧ (q.getD k default).student < 20000 ∧ -1 ≤ (q.getD k default).group ∧ (q.getD k default).group < 8) && afterS (prevT q k) (q.getD k default) && (findS l (q.getD k default).sec).isSome) = false → chkT l q = 250 := fun hf => by
          rw [hf] at hc
          simp [chkT, h0, hc]
        by_cases g1 : (q.getD k default).student < 0
        · rw [fail (by rw [decide_eq_false (by omega)]; rfl)]
          repeat' (first | with_reducible refine Sq.go ?_ | ((with_reducible refine Ev.mk ?_); conv => whnf) | with_reducible refine Dr.mk ⟨by kernel_rfl, by kernel_rfl⟩ ?_ | with_reducible refine obG ?_ | with_reducible refine Ob.mk ?_ ?_ | (with_reducible first | refine brT fun h => ?_ | refine brF fun h => ?_ | refine Br.mk (fun h => ?_) fun h => ?_) <;> (try simp only [bsl, beq_iff_eq, bne_iff_ne, bs2] at h) <;> (try contradiction) <;> try (exfalso; omega))
          exact ⟨rfl, True.intro⟩
        by_cases g2 : (q.getD k default).student ≥ 20000
        · rw [fail (by rw [decide_eq_false (by omega)]; rfl)]
          repeat' (first | with_reducible refine Sq.go ?_ | ((with_reducible refine Ev.mk ?_); conv => whnf) | with_reducible refine Dr.mk ⟨by kernel_rfl, by kernel_rfl⟩ ?_ | with_reducible refine obG ?_ | with_reducible refine Ob.mk ?_ ?_ | (with_reducible first | refine brT fun h => ?_ | refine brF fun h => ?_ | refine Br.mk (fun h => ?_) fun h => ?_) <;> (try simp only [bsl, beq_iff_eq, bne_iff_ne, bs2] at h) <;> (try contradiction) <;> try (exfalso; omega))
          exact ⟨rfl, True.intro⟩
        by_cases g3 : (q.getD k default).group < -1
        · rw [fail (by rw [decide_eq_false (by omega)]; rfl)]
          repeat' (first | with_reducible refine Sq.go ?_ | ((with_reducible refine Ev.mk ?_); conv => whnf) | with_reducible refine Dr.mk ⟨by kernel_rfl, by kernel_rfl⟩ ?_ | with_reducible refine obG ?_ | with_reducible refine Ob.mk ?_ ?_ | (with_reducible first | refine brT fun h => ?_ | refine brF fun h => ?_ | refine Br.mk (fun h => ?_) fun h => ?_) <;> (try simp only [bsl, beq_iff_eq, bne_iff_ne, bs2] at h) <;> (try contradiction) <;> try (exfalso; omega))
          exact ⟨rfl, True.intro⟩
        by_cases g4 : (q.getD k default).group ≥ 8
        · rw [fail (by rw [decide_eq_false (by omega)]; rfl)]
          repeat' (first | with_reducible refine Sq.go ?_ | ((with_reducible refine Ev.mk ?_); conv => whnf) | with_reducible refine Dr.mk ⟨by kernel_rfl, by kernel_rfl⟩ ?_ | with_reducible refine obG ?_ | with_reducible refine Ob.mk ?_ ?_ | (with_reducible first | refine brT fun h => ?_ | refine brF fun h => ?_ | refine Br.mk (fun h => ?_) fun h => ?_) <;> (try simp only [bsl, beq_iff_eq, bne_iff_ne, bs2] at h) <;> (try contradiction) <;> try (exfalso; omega))
          exact ⟨rfl, True.intro⟩
        rw [decide_eq_true (show 0 ≤ (q.getD k default).student ∧ (q.getD k default).student < 20000 ∧ -1 ≤ (q.getD k default).group ∧ (q.getD k default).group < 8 by omega), Bool.true_and] at hc fail
        cases hF : findS l (q.getD k default).sec with
        | none =>
          have h250 := fail (by rw [hF]; simp)
          have hFn := find_none hln hF
          rw [h250]
          clear fail hc
          by_cases hk0 : k = 0
          · subst hk0
            repeat' (first | with_reducible refine Sq.go ?_ | ((with_reducible refine Ev.mk ?_); conv => whnf) | with_reducible refine Dr.mk ⟨by kernel_rfl, by kernel_rfl⟩ ?_ | with_reducible refine obG ?_ | with_reducible refine Ob.mk ?_ ?_ | (with_reducible first | refine brT fun h => ?_ | refine brF fun h => ?_ | refine Br.mk (fun h => ?_) fun h => ?_) <;> (try simp only [bsl, beq_iff_eq, bne_iff_ne, bs2] at h) <;> (try contradiction) <;> try (exfalso; omega))
            refine hFn.call ?_
            repeat' (first | with_reducible refine Sq.go ?_ | ((with_reducible refine Ev.mk ?_); conv => whnf) | with_reducible refine Dr.mk ⟨by kernel_rfl, by kernel_rfl⟩ ?_ | with_reducible refine obG ?_ | with_reducible refine Ob.mk ?_ ?_ | (with_reducible first | refine brT fun h => ?_ | refine brF fun h => ?_ | refine Br.mk (fun h => ?_) fun h => ?_) <;> (try simp only [bsl, beq_iff_eq, bne_iff_ne, bs2] at h) <;> (try contradiction) <;> try (exfalso; omega))
            exact ⟨rfl, True.intro⟩
          · have hcmp := compare_ok (q.getD ((k : Int) - 1).toNat default) (q.getD k default)
            repeat' (first | with_reducible refine Sq.go ?_ | ((with_reducible refine Ev.mk ?_); conv => whnf) | with_reducible refine Dr.mk ⟨by kernel_rfl, by kernel_rfl⟩ ?_ | with_reducible refine obG ?_ | with_reducible refine Ob.mk ?_ ?_ | (with_reducible first | refine brT fun h => ?_ | refine brF fun h => ?_ | refine Br.mk (fun h => ?_) fun h => ?_) <;> (try simp only [bsl, beq_iff_eq, bne_iff_ne, bs2] at h) <;> (try contradiction) <;> try (exfalso; omega))
            refine qC hcmp ?_
            by_cases hs : seatC (q.getD ((k : Int) - 1).toNat default) (q.getD k default) ≥ 0
            · repeat' (first | with_reducible refine Sq.go ?_ | ((with_reducible refine Ev.mk ?_); conv => whnf) | with_reducible refine Dr.mk ⟨by kernel_rfl, by kernel_rfl⟩ ?_ | with_reducible refine obG ?_ | with_reducible refine Ob.mk ?_ ?_ | (with_reducible first | refine brT fun h => ?_ | refine brF fun h => ?_ | refine Br.mk (fun h => ?_) fun h => ?_) <;> (try simp only [bsl, beq_iff_eq, bne_iff_ne, bs2] at h) <;> (try contradiction) <;> try (exfalso; omega))
              exact ⟨rfl, True.intro⟩
            · repeat' (first | with_reducible refine Sq.go ?_ | ((with_reducible refine Ev.mk ?_); conv => whnf) | with_reducible refine Dr.mk ⟨by kernel_rfl, by kernel_rfl⟩ ?_ | with_reducible refine obG ?_ | with_reducible refine Ob.mk ?_ ?_ | (with_reducible first | refine brT fun h => ?_ | refine brF fun h => ?_ | refine Br.mk (fun h => ?_) fun h => ?_) <;> (try simp only [bsl, beq_iff_eq, bne_iff_ne, bs2] at h) <;> (try contradiction) <;> try (exfalso; omega))
              refine hFn.call ?_
              repeat' (first | with_reducible refine Sq.go ?_ | ((with_reducible refine Ev.mk ?_); conv => whnf) | with_reducible refine Dr.mk ⟨by kernel_rfl, by kernel_rfl⟩ ?_ | with_reducible refine obG ?_ | with_reducible refine Ob.mk ?_ ?_ | (with_reducible first | refine brT fun h => ?_ | refine brF fun h => ?_ | refine Br.mk (fun h => ?_) fun h => ?_) <;> (try simp only [bsl, beq_iff_eq, bne_iff_ne, bs2] at h) <;> (try contradiction) <;> try (exfalso; omega))
              exact ⟨rfl, True.intro⟩
        | some s =>
          have hFs := find_some hln hF
          rw [hF] at hc fail
          rw [show (some s).isSome = true from rfl, Bool.and_true] at hc fail
          by_cases hk0 : k = 0
          · subst hk0
            repeat' (first | with_reducible refine Sq.go ?_ | ((with_reducible refine Ev.mk ?_); conv => whnf) | with_reducible refine Dr.mk ⟨by kernel_rfl, by kernel_rfl⟩ ?_ | with_reducible refine obG ?_ | with_reducible refine Ob.mk ?_ ?_ | (with_reducible first | refine brT fun h => ?_ | refine brF fun h => ?_ | refine Br.mk (fun h => ?_) fun h => ?_) <;> (try simp only [bsl, beq_iff_eq, bne_iff_ne, bs2] at h) <;> (try contradiction) <;> try (exfalso; omega))
            refine hFs.call ?_
            repeat' (first | with_reducible refine Sq.go ?_ | ((with_reducible refine Ev.mk ?_); conv => whnf) | with_reducible refine Dr.mk ⟨by kernel_rfl, by kernel_rfl⟩ ?_ | with_reducible refine obG ?_ | with_reducible refine Ob.mk ?_ ?_ | (with_reducible first | refine brT fun h => ?_ | refine brF fun h => ?_ | refine Br.mk (fun h => ?_) fun h => ?_) <;> (try simp only [bsl, beq_iff_eq, bne_iff_ne, bs2] at h) <;> (try contradiction) <;> try (exfalso; omega))
            refine ⟨1, ⟨by show 1 ≤ q.length; omega, by rw [prevT_succ]; exact hc⟩, by show q.length - 1 < q.length - 0; omega, ?_⟩
            repeat' (first | exact True.intro | exact rfl | exact Nat.le_refl _ | refine And.intro ?_ ?_)
          · have hcmp := compare_ok (q.getD ((k : Int) - 1).toNat default) (q.getD k default)
            rw [show prevT q k = some (q.getD ((k : Int) - 1).toNat default) from if_neg hk0] at hc fail
            by_cases hs : seatC (q.getD ((k : Int) - 1).toNat default) (q.getD k default) ≥ 0
            · rw [fail (decide_eq_false (by omega))]
              repeat' (first | with_reducible refine Sq.go ?_ | ((with_reducible refine Ev.mk ?_); conv => whnf) | with_reducible refine Dr.mk ⟨by kernel_rfl, by kernel_rfl⟩ ?_ | with_reducible refine obG ?_ | with_reducible refine Ob.mk ?_ ?_ | (with_reducible first | refine brT fun h => ?_ | refine brF fun h => ?_ | refine Br.mk (fun h => ?_) fun h => ?_) <;> (try simp only [bsl, beq_iff_eq, bne_iff_ne, bs2] at h) <;> (try contradiction) <;> try (exfalso; omega))
              refine qC hcmp ?_
              repeat' (first | with_reducible refine Sq.go ?_ | ((with_reducible refine Ev.mk ?_); conv => whnf) | with_reducible refine Dr.mk ⟨by kernel_rfl, by kernel_rfl⟩ ?_ | with_reducible refine obG ?_ | with_reducible refine Ob.mk ?_ ?_ | (with_reducible first | refine brT fun h => ?_ | refine brF fun h => ?_ | refine Br.mk (fun h => ?_) fun h => ?_) <;> (try simp only [bsl, beq_iff_eq, bne_iff_ne, bs2] at h) <;> (try contradiction) <;> try (exfalso; omega))
              exact ⟨rfl, True.intro⟩
            · rw [show afterS (some (q.getD ((k : Int) - 1).toNat default)) (q.getD k default) = true from decide_eq_true (by omega), Bool.true_and] at hc
              clear fail
              repeat' (first | with_reducible refine Sq.go ?_ | ((with_reducible refine Ev.mk ?_); conv => whnf) | with_reducible refine Dr.mk ⟨by kernel_rfl, by kernel_rfl⟩ ?_ | with_reducible refine obG ?_ | with_reducible refine Ob.mk ?_ ?_ | (with_reducible first | refine brT fun h => ?_ | refine brF fun h => ?_ | refine Br.mk (fun h => ?_) fun h => ?_) <;> (try simp only [bsl, beq_iff_eq, bne_iff_ne, bs2] at h) <;> (try contradiction) <;> try (exfalso; omega))
              refine qC hcmp ?_
              repeat' (first | with_reducible refine Sq.go ?_ | ((with_reducible refine Ev.mk ?_); conv => whnf) | with_reducible refine Dr.mk ⟨by kernel_rfl, by kernel_rfl⟩ ?_ | with_reducible refine obG ?_ | with_reducible refine Ob.mk ?_ ?_ | (with_reducible first | refine brT fun h => ?_ | refine brF fun h => ?_ | refine Br.mk (fun h => ?_) fun h => ?_) <;> (try simp only [bsl, beq_iff_eq, bne_iff_ne, bs2] at h) <;> (try contradiction) <;> try (exfalso; omega))
              refine hFs.call ?_
              repeat' (first | with_reducible refine Sq.go ?_ | ((with_reducible refine Ev.mk ?_); conv => whnf) | with_reducible refine Dr.mk ⟨by kernel_rfl, by kernel_rfl⟩ ?_ | with_reducible refine obG ?_ | with_reducible refine Ob.mk ?_ ?_ | (with_reducible first | refine brT fun h => ?_ | refine brF fun h => ?_ | refine Br.mk (fun h => ?_) fun h => ?_) <;> (try simp only [bsl, beq_iff_eq, bne_iff_ne, bs2] at h) <;> (try contradiction) <;> try (exfalso; omega))
              refine ⟨k + 1, ⟨by show k + 1 ≤ q.length; omega, by rw [prevT_succ]; exact hc⟩, by show q.length - (k + 1) < q.length - k; omega, ?_⟩
              repeat' (first | exact True.intro | exact rfl | exact Nat.le_refl _ | refine And.intro ?_ ?_)
      · have hk3 : k = q.length := by omega
        rw [drop_end (by omega), show ∀ p, seatsB l p [] = true from fun p => by cases p <;> rfl] at hc
        clear hk hk2
        repeat' (first | with_reducible refine Sq.go ?_ | ((with_reducible refine Ev.mk ?_); conv => whnf) | with_reducible refine Dr.mk ⟨by kernel_rfl, by kernel_rfl⟩ ?_ | with_reducible refine obG ?_ | with_reducible refine Ob.mk ?_ ?_ | (with_reducible first | refine brT fun h => ?_ | refine brF fun h => ?_ | refine Br.mk (fun h => ?_) fun h => ?_) <;> (try simp only [bsl, beq_iff_eq, bne_iff_ne, bs2] at h) <;> (try contradiction) <;> try (exfalso; omega))
        refine loop_rule hT (S := Nat) (fun k => ([(1, .d (eSeats q)), (69, .d (eSecs l)), (70, .d (.int .i64 l.length)), (71, .d (.int .i64 k))], ⟨[], []⟩)) (fun k => k ≤ l.length ∧ (l.take k).all (roomS q) = true) (fun k => l.length - k) 0 ?_ ?_ ?_
        · repeat' (first | exact True.intro | exact rfl | exact Nat.le_refl _ | refine And.intro ?_ ?_)
        · exact ⟨Nat.zero_le _, rfl⟩
        · rintro n ⟨hn, hr⟩
          by_cases hn2 : n < l.length
          · obtain ⟨s, hs⟩ : ∃ s, l.getD n default = s := ⟨_, rfl⟩
            have hsm : s ∈ l := by rw [← hs]; exact getD_mem hn2
            obtain ⟨hg1, hg2, hg3, hg4⟩ := groups_at h0 hsm
            have hC := count_ok q (by omega) s.id
            have hql := secL_len q s.id
            obtain ⟨q', hq'⟩ : ∃ q', secL q s.id = q' := ⟨_, rfl⟩
            rw [hq'] at hC hql
            have hb0 : boundC (cntG q') := fun i => by
              have := cntG_le q' i
              omega
            repeat' (first | with_reducible refine Sq.go ?_ | ((with_reducible refine Ev.mk ?_); conv => whnf) | with_reducible refine Dr.mk ⟨by kernel_rfl, by kernel_rfl⟩ ?_ | with_reducible refine obG ?_ | with_reducible refine Ob.mk ?_ ?_ | (with_reducible first | refine brT fun h => ?_ | refine brF fun h => ?_ | refine Br.mk (fun h => ?_) fun h => ?_) <;> (try simp only [bsl, beq_iff_eq, bne_iff_ne, bs2] at h) <;> (try contradiction) <;> try (exfalso; omega))
            rw [show l.getD (n : Int).toNat default = s from hs]
            refine hC.call ?_
            repeat' (first | with_reducible refine Sq.go ?_ | ((with_reducible refine Ev.mk ?_); conv => whnf) | with_reducible refine Dr.mk ⟨by kernel_rfl, by kernel_rfl⟩ ?_ | with_reducible refine obG ?_ | with_reducible refine Ob.mk ?_ ?_ | (with_reducible first | refine brT fun h => ?_ | refine brF fun h => ?_ | refine Br.mk (fun h => ?_) fun h => ?_) <;> (try simp only [bsl, beq_iff_eq, bne_iff_ne, bs2] at h) <;> (try contradiction) <;> try (exfalso; omega))
            refine loop_rule hT (S := Nat) (fun m => ([(1, .d (eSeats q)), (11, .ptr (.loc 0) 0 0 0), (12, .ptr (.loc 1) 0 0 0), (69, .d (eSecs l)), (70, .d (.int .i64 l.length)), (71, .d (.int .i64 n)), (80, .d (eGrps s.groups)), (81, .d (.int .i64 s.groups.length)), (82, .d (.int .i64 m))],
                ⟨[some (.box 44 (up (eSec s))), some (.box 63 (up (eAd (offs (cntG q') (s.groups.take m)) q')))], []⟩)) (fun m => m ≤ s.groups.length) (fun m => s.groups.length - m) 0 ?_ ?_ ?_
            · rw [List.take_zero]
              repeat' (first | exact True.intro | exact rfl | exact Nat.le_refl _ | refine And.intro ?_ ?_)
            · exact Nat.zero_le _
            · intro m hm
              have hb1 : boundC (offs (cntG q') (s.groups.take m)) := offs_bd hb0 fun g hg => (hg1 g (List.mem_of_mem_take hg)).2.2.1
              by_cases hm2 : m < s.groups.length
              · have htk := take_succ_at (xs := s.groups) (k := m) hm2
                have hgm := hg1 _ (getD_mem hm2)
                obtain ⟨c, hcd⟩ : ∃ c, offs (cntG q') (s.groups.take m) = c := ⟨_, rfl⟩
                rw [hcd] at hb1 ⊢
                have hb2 := hb1 (s.groups.getD m default).g
                rcases show (s.groups.getD m default).g = 0 ∨ (s.groups.getD m default).g = 1 ∨ (s.groups.getD m default).g = 2 ∨ (s.groups.getD m default).g = 3 ∨ (s.groups.getD m default).g = 4 ∨ (s.groups.getD m default).g = 5 ∨ (s.groups.getD m default).g = 6 ∨ (s.groups.getD m default).g = 7 by omega with hgj | hgj | hgj | hgj | hgj | hgj | hgj | hgj
                · skip
                  obtain ⟨⟨j, a2, a3⟩, hx⟩ : ∃ x, s.groups.getD m default = x := ⟨_, rfl⟩
                  rw [hx] at hgm hgj hb2 htk
                  dsimp only at hgm hgj hb2
                  subst hgj
                  have e : eAd (takeOff c ⟨0, a2, a3⟩) q' = [.int .i64 (c 0 - min a2 (c 0)), .int .i64 (c 1), .int .i64 (c 2), .int .i64 (c 3), .int .i64 (c 4), .int .i64 (c 5), .int .i64 (c 6), .int .i64 (c 7), .int .i64 (cntG q' (-1)), .int .i64 q'.length] := by simp [eAd, takeOff]
                  repeat' (first | ((with_reducible refine Ev.mk ?_); conv => whnf) | with_reducible refine Dr.mk ⟨by kernel_rfl, by kernel_rfl⟩ ?_ | with_reducible refine obG ?_ | with_reducible refine Ob.mk ?_ ?_ | (with_reducible first | refine brT fun h => ?_ | refine brF fun h => ?_ | refine Br.mk (fun h => ?_) fun h => ?_) <;> (try simp only [bsl, beq_iff_eq, bne_iff_ne, bs2] at h) <;> (try contradiction) <;> try (exfalso; omega))
                  refine Sq.go ?_
                  repeat' (first | ((with_reducible refine Ev.mk ?_); conv => whnf) | with_reducible refine Dr.mk ⟨by kernel_rfl, by kernel_rfl⟩ ?_ | with_reducible refine obG ?_ | with_reducible refine Ob.mk ?_ ?_ | (with_reducible first | refine brT fun h => ?_ | refine brF fun h => ?_ | refine Br.mk (fun h => ?_) fun h => ?_) <;> (try simp only [bsl, beq_iff_eq, bne_iff_ne, bs2] at h) <;> (try contradiction) <;> try (exfalso; omega))
                  refine Sq.go ?_
                  repeat' (first | ((with_reducible refine Ev.mk ?_); conv => whnf) | with_reducible refine Dr.mk ⟨by kernel_rfl, by kernel_rfl⟩ ?_ | with_reducible refine obG ?_ | with_reducible refine Ob.mk ?_ ?_ | (with_reducible first | refine brT fun h => ?_ | refine brF fun h => ?_ | refine Br.mk (fun h => ?_) fun h => ?_) <;> (try simp only [bsl, beq_iff_eq, bne_iff_ne, bs2] at h) <;> (try contradiction) <;> try (exfalso; omega))
                  have hi64 : In .i64 (c 0 - min a2 (c 0)) := in64.2 (by omega)
                  have hx2 : s.groups.getD (m : Int).toNat default = ⟨0, a2, a3⟩ := hx
                  simp (config := { beta := false, eta := false, iota := false, proj := false, zeta := false, decide := false }) only [hx2]
                  repeat' (first | with_reducible refine Sq.go ?_ | ((with_reducible refine Ev.mk ?_); conv => whnf) | with_reducible refine Dr.mk ⟨by kernel_rfl, by kernel_rfl⟩ ?_ | with_reducible refine obG ?_ | with_reducible refine Ob.mk ?_ ?_ | (with_reducible first | refine brT fun h => ?_ | refine brF fun h => ?_ | refine Br.mk (fun h => ?_) fun h => ?_) <;> (try simp only [bsl, beq_iff_eq, bne_iff_ne, bs2] at h) <;> (try contradiction) <;> try (exfalso; omega))
                  refine ⟨m + 1, by show m + 1 ≤ s.groups.length; omega, by show s.groups.length - (m + 1) < s.groups.length - m; omega, ?_⟩
                  dsimp only
                  rw [htk, offs_snoc, hcd, e]
                  repeat' (first | exact True.intro | exact rfl | exact Nat.le_refl _ | refine And.intro ?_ ?_)
                · skip
                  obtain ⟨⟨j, a2, a3⟩, hx⟩ : ∃ x, s.groups.getD m default = x := ⟨_, rfl⟩
                  rw [hx] at hgm hgj hb2 htk
                  dsimp only at hgm hgj hb2
                  subst hgj
                  have e : eAd (takeOff c ⟨1, a2, a3⟩) q' = [.int .i64 (c 0), .int .i64 (c 1 - min a2 (c 1)), .int .i64 (c 2), .int .i64 (c 3), .int .i64 (c 4), .int .i64 (c 5), .int .i64 (c 6), .int .i64 (c 7), .int .i64 (cntG q' (-1)), .int .i64 q'.length] := by simp [eAd, takeOff]
                  repeat' (first | ((with_reducible refine Ev.mk ?_); conv => whnf) | with_reducible refine Dr.mk ⟨by kernel_rfl, by kernel_rfl⟩ ?_ | with_reducible refine obG ?_ | with_reducible refine Ob.mk ?_ ?_ | (with_reducible first | refine brT fun h => ?_ | refine brF fun h => ?_ | refine Br.mk (fun h => ?_) fun h => ?_) <;> (try simp only [bsl, beq_iff_eq, bne_iff_ne, bs2] at h) <;> (try contradiction) <;> try (exfalso; omega))
                  refine Sq.go ?_
                  repeat' (first | ((with_reducible refine Ev.mk ?_); conv => whnf) | with_reducible refine Dr.mk ⟨by kernel_rfl, by kernel_rfl⟩ ?_ | with_reducible refine obG ?_ | with_reducible refine Ob.mk ?_ ?_ | (with_reducible first | refine brT fun h => ?_ | refine brF fun h => ?_ | refine Br.mk (fun h => ?_) fun h => ?_) <;> (try simp only [bsl, beq_iff_eq, bne_iff_ne, bs2] at h) <;> (try contradiction) <;> try (exfalso; omega))
                  refine Sq.go ?_
                  repeat' (first | ((with_reducible refine Ev.mk ?_); conv => whnf) | with_reducible refine Dr.mk ⟨by kernel_rfl, by kernel_rfl⟩ ?_ | with_reducible refine obG ?_ | with_reducible refine Ob.mk ?_ ?_ | (with_reducible first | refine brT fun h => ?_ | refine brF fun h => ?_ | refine Br.mk (fun h => ?_) fun h => ?_) <;> (try simp only [bsl, beq_iff_eq, bne_iff_ne, bs2] at h) <;> (try contradiction) <;> try (exfalso; omega))
                  have hi64 : In .i64 (c 1 - min a2 (c 1)) := in64.2 (by omega)
                  have hx2 : s.groups.getD (m : Int).toNat default = ⟨1, a2, a3⟩ := hx
                  simp (config := { beta := false, eta := false, iota := false, proj := false, zeta := false, decide := false }) only [hx2]
                  repeat' (first | with_reducible refine Sq.go ?_ | ((with_reducible refine Ev.mk ?_); conv => whnf) | with_reducible refine Dr.mk ⟨by kernel_rfl, by kernel_rfl⟩ ?_ | with_reducible refine obG ?_ | with_reducible refine Ob.mk ?_ ?_ | (with_reducible first | refine brT fun h => ?_ | refine brF fun h => ?_ | refine Br.mk (fun h => ?_) fun h => ?_) <;> (try simp only [bsl, beq_iff_eq, bne_iff_ne, bs2] at h) <;> (try contradiction) <;> try (exfalso; omega))
                  refine ⟨m + 1, by show m + 1 ≤ s.groups.length; omega, by show s.groups.length - (m + 1) < s.groups.length - m; omega, ?_⟩
                  dsimp only
                  rw [htk, offs_snoc, hcd, e]
                  repeat' (first | exact True.intro | exact rfl | exact Nat.le_refl _ | refine And.intro ?_ ?_)
                · skip
                  obtain ⟨⟨j, a2, a3⟩, hx⟩ : ∃ x, s.groups.getD m default = x := ⟨_, rfl⟩
                  rw [hx] at hgm hgj hb2 htk
                  dsimp only at hgm hgj hb2
                  subst hgj
                  have e : eAd (takeOff c ⟨2, a2, a3⟩) q' = [.int .i64 (c 0), .int .i64 (c 1), .int .i64 (c 2 - min a2 (c 2)), .int .i64 (c 3), .int .i64 (c 4), .int .i64 (c 5), .int .i64 (c 6), .int .i64 (c 7), .int .i64 (cntG q' (-1)), .int .i64 q'.length] := by simp [eAd, takeOff]
                  repeat' (first | ((with_reducible refine Ev.mk ?_); conv => whnf) | with_reducible refine Dr.mk ⟨by kernel_rfl, by kernel_rfl⟩ ?_ | with_reducible refine obG ?_ | with_reducible refine Ob.mk ?_ ?_ | (with_reducible first | refine brT fun h => ?_ | refine brF fun h => ?_ | refine Br.mk (fun h => ?_) fun h => ?_) <;> (try simp only [bsl, beq_iff_eq, bne_iff_ne, bs2] at h) <;> (try contradiction) <;> try (exfalso; omega))
                  refine Sq.go ?_
                  repeat' (first | ((with_reducible refine Ev.mk ?_); conv => whnf) | with_reducible refine Dr.mk ⟨by kernel_rfl, by kernel_rfl⟩ ?_ | with_reducible refine obG ?_ | with_reducible refine Ob.mk ?_ ?_ | (with_reducible first | refine brT fun h => ?_ | refine brF fun h => ?_ | refine Br.mk (fun h => ?_) fun h => ?_) <;> (try simp only [bsl, beq_iff_eq, bne_iff_ne, bs2] at h) <;> (try contradiction) <;> try (exfalso; omega))
                  refine Sq.go ?_
                  repeat' (first | ((with_reducible refine Ev.mk ?_); conv => whnf) | with_reducible refine Dr.mk ⟨by kernel_rfl, by kernel_rfl⟩ ?_ | with_reducible refine obG ?_ | with_reducible refine Ob.mk ?_ ?_ | (with_reducible first | refine brT fun h => ?_ | refine brF fun h => ?_ | refine Br.mk (fun h => ?_) fun h => ?_) <;> (try simp only [bsl, beq_iff_eq, bne_iff_ne, bs2] at h) <;> (try contradiction) <;> try (exfalso; omega))
                  have hi64 : In .i64 (c 2 - min a2 (c 2)) := in64.2 (by omega)
                  have hx2 : s.groups.getD (m : Int).toNat default = ⟨2, a2, a3⟩ := hx
                  simp (config := { beta := false, eta := false, iota := false, proj := false, zeta := false, decide := false }) only [hx2]
                  repeat' (first | with_reducible refine Sq.go ?_ | ((with_reducible refine Ev.mk ?_); conv => whnf) | with_reducible refine Dr.mk ⟨by kernel_rfl, by kernel_rfl⟩ ?_ | with_reducible refine obG ?_ | with_reducible refine Ob.mk ?_ ?_ | (with_reducible first | refine brT fun h => ?_ | refine brF fun h => ?_ | refine Br.mk (fun h => ?_) fun h => ?_) <;> (try simp only [bsl, beq_iff_eq, bne_iff_ne, bs2] at h) <;> (try contradiction) <;> try (exfalso; omega))
                  refine ⟨m + 1, by show m + 1 ≤ s.groups.length; omega, by show s.groups.length - (m + 1) < s.groups.length - m; omega, ?_⟩
                  dsimp only
                  rw [htk, offs_snoc, hcd, e]
                  repeat' (first | exact True.intro | exact rfl | exact Nat.le_refl _ | refine And.intro ?_ ?_)
                · skip
                  obtain ⟨⟨j, a2, a3⟩, hx⟩ : ∃ x, s.groups.getD m default = x := ⟨_, rfl⟩
                  rw [hx] at hgm hgj hb2 htk
                  dsimp only at hgm hgj hb2
                  subst hgj
                  have e : eAd (takeOff c ⟨3, a2, a3⟩) q' = [.int .i64 (c 0), .int .i64 (c 1), .int .i64 (c 2), .int .i64 (c 3 - min a2 (c 3)), .int .i64 (c 4), .int .i64 (c 5), .int .i64 (c 6), .int .i64 (c 7), .int .i64 (cntG q' (-1)), .int .i64 q'.length] := by simp [eAd, takeOff]
                  repeat' (first | ((with_reducible refine Ev.mk ?_); conv => whnf) | with_reducible refine Dr.mk ⟨by kernel_rfl, by kernel_rfl⟩ ?_ | with_reducible refine obG ?_ | with_reducible refine Ob.mk ?_ ?_ | (with_reducible first | refine brT fun h => ?_ | refine brF fun h => ?_ | refine Br.mk (fun h => ?_) fun h => ?_) <;> (try simp only [bsl, beq_iff_eq, bne_iff_ne, bs2] at h) <;> (try contradiction) <;> try (exfalso; omega))
                  refine Sq.go ?_
                  repeat' (first | ((with_reducible refine Ev.mk ?_); conv => whnf) | with_reducible refine Dr.mk ⟨by kernel_rfl, by kernel_rfl⟩ ?_ | with_reducible refine obG ?_ | with_reducible refine Ob.mk ?_ ?_ | (with_reducible first | refine brT fun h => ?_ | refine brF fun h => ?_ | refine Br.mk (fun h => ?_) fun h => ?_) <;> (try simp only [bsl, beq_iff_eq, bne_iff_ne, bs2] at h) <;> (try contradiction) <;> try (exfalso; omega))
                  refine Sq.go ?_
                  repeat' (first | ((with_reducible refine Ev.mk ?_); conv => whnf) | with_reducible refine Dr.mk ⟨by kernel_rfl, by kernel_rfl⟩ ?_ | with_reducible refine obG ?_ | with_reducible refine Ob.mk ?_ ?_ | (with_reducible first | refine brT fun h => ?_ | refine brF fun h => ?_ | refine Br.mk (fun h => ?_) fun h => ?_) <;> (try simp only [bsl, beq_iff_eq, bne_iff_ne, bs2] at h) <;> (try contradiction) <;> try (exfalso; omega))
                  have hi64 : In .i64 (c 3 - min a2 (c 3)) := in64.2 (by omega)
                  have hx2 : s.groups.getD (m : Int).toNat default = ⟨3, a2, a3⟩ := hx
                  simp (config := { beta := false, eta := false, iota := false, proj := false, zeta := false, decide := false }) only [hx2]
                  repeat' (first | with_reducible refine Sq.go ?_ | ((with_reducible refine Ev.mk ?_); conv => whnf) | with_reducible refine Dr.mk ⟨by kernel_rfl, by kernel_rfl⟩ ?_ | with_reducible refine obG ?_ | with_reducible refine Ob.mk ?_ ?_ | (with_reducible first | refine brT fun h => ?_ | refine brF fun h => ?_ | refine Br.mk (fun h => ?_) fun h => ?_) <;> (try simp only [bsl, beq_iff_eq, bne_iff_ne, bs2] at h) <;> (try contradiction) <;> try (exfalso; omega))
                  refine ⟨m + 1, by show m + 1 ≤ s.groups.length; omega, by show s.groups.length - (m + 1) < s.groups.length - m; omega, ?_⟩
                  dsimp only
                  rw [htk, offs_snoc, hcd, e]
                  repeat' (first | exact True.intro | exact rfl | exact Nat.le_refl _ | refine And.intro ?_ ?_)
                · skip
                  obtain ⟨⟨j, a2, a3⟩, hx⟩ : ∃ x, s.groups.getD m default = x := ⟨_, rfl⟩
                  rw [hx] at hgm hgj hb2 htk
                  dsimp only at hgm hgj hb2
                  subst hgj
                  have e : eAd (takeOff c ⟨4, a2, a3⟩) q' = [.int .i64 (c 0), .int .i64 (c 1), .int .i64 (c 2), .int .i64 (c 3), .int .i64 (c 4 - min a2 (c 4)), .int .i64 (c 5), .int .i64 (c 6), .int .i64 (c 7), .int .i64 (cntG q' (-1)), .int .i64 q'.length] := by simp [eAd, takeOff]
                  repeat' (first | ((with_reducible refine Ev.mk ?_); conv => whnf) | with_reducible refine Dr.mk ⟨by kernel_rfl, by kernel_rfl⟩ ?_ | with_reducible refine obG ?_ | with_reducible refine Ob.mk ?_ ?_ | (with_reducible first | refine brT fun h => ?_ | refine brF fun h => ?_ | refine Br.mk (fun h => ?_) fun h => ?_) <;> (try simp only [bsl, beq_iff_eq, bne_iff_ne, bs2] at h) <;> (try contradiction) <;> try (exfalso; omega))
                  refine Sq.go ?_
                  repeat' (first | ((with_reducible refine Ev.mk ?_); conv => whnf) | with_reducible refine Dr.mk ⟨by kernel_rfl, by kernel_rfl⟩ ?_ | with_reducible refine obG ?_ | with_reducible refine Ob.mk ?_ ?_ | (with_reducible first | refine brT fun h => ?_ | refine brF fun h => ?_ | refine Br.mk (fun h => ?_) fun h => ?_) <;> (try simp only [bsl, beq_iff_eq, bne_iff_ne, bs2] at h) <;> (try contradiction) <;> try (exfalso; omega))
                  refine Sq.go ?_
                  repeat' (first | ((with_reducible refine Ev.mk ?_); conv => whnf) | with_reducible refine Dr.mk ⟨by kernel_rfl, by kernel_rfl⟩ ?_ | with_reducible refine obG ?_ | with_reducible refine Ob.mk ?_ ?_ | (with_reducible first | refine brT fun h => ?_ | refine brF fun h => ?_ | refine Br.mk (fun h => ?_) fun h => ?_) <;> (try simp only [bsl, beq_iff_eq, bne_iff_ne, bs2] at h) <;> (try contradiction) <;> try (exfalso; omega))
                  have hi64 : In .i64 (c 4 - min a2 (c 4)) := in64.2 (by omega)
                  have hx2 : s.groups.getD (m : Int).toNat default = ⟨4, a2, a3⟩ := hx
                  simp (config := { beta := false, eta := false, iota := false, proj := false, zeta := false, decide := false }) only [hx2]
                  repeat' (first | with_reducible refine Sq.go ?_ | ((with_reducible refine Ev.mk ?_); conv => whnf) | with_reducible refine Dr.mk ⟨by kernel_rfl, by kernel_rfl⟩ ?_ | with_reducible refine obG ?_ | with_reducible refine Ob.mk ?_ ?_ | (with_reducible first | refine brT fun h => ?_ | refine brF fun h => ?_ | refine Br.mk (fun h => ?_) fun h => ?_) <;> (try simp only [bsl, beq_iff_eq, bne_iff_ne, bs2] at h) <;> (try contradiction) <;> try (exfalso; omega))
                  refine ⟨m + 1, by show m + 1 ≤ s.groups.length; omega, by show s.groups.length - (m + 1) < s.groups.length - m; omega, ?_⟩
                  dsimp only
                  rw [htk, offs_snoc, hcd, e]
                  repeat' (first | exact True.intro | exact rfl | exact Nat.le_refl _ | refine And.intro ?_ ?_)
                · skip
                  obtain ⟨⟨j, a2, a3⟩, hx⟩ : ∃ x, s.groups.getD m default = x := ⟨_, rfl⟩
                  rw [hx] at hgm hgj hb2 htk
                  dsimp only at hgm hgj hb2
                  subst hgj
                  have e : eAd (takeOff c ⟨5, a2, a3⟩) q' = [.int .i64 (c 0), .int .i64 (c 1), .int .i64 (c 2), .int .i64 (c 3), .int .i64 (c 4), .int .i64 (c 5 - min a2 (c 5)), .int .i64 (c 6), .int .i64 (c 7), .int .i64 (cntG q' (-1)), .int .i64 q'.length] := by simp [eAd, takeOff]
                  repeat' (first | ((with_reducible refine Ev.mk ?_); conv => whnf) | with_reducible refine Dr.mk ⟨by kernel_rfl, by kernel_rfl⟩ ?_ | with_reducible refine obG ?_ | with_reducible refine Ob.mk ?_ ?_ | (with_reducible first | refine brT fun h => ?_ | refine brF fun h => ?_ | refine Br.mk (fun h => ?_) fun h => ?_) <;> (try simp only [bsl, beq_iff_eq, bne_iff_ne, bs2] at h) <;> (try contradiction) <;> try (exfalso; omega))
                  refine Sq.go ?_
                  repeat' (first | ((with_reducible refine Ev.mk ?_); conv => whnf) | with_reducible refine Dr.mk ⟨by kernel_rfl, by kernel_rfl⟩ ?_ | with_reducible refine obG ?_ | with_reducible refine Ob.mk ?_ ?_ | (with_reducible first | refine brT fun h => ?_ | refine brF fun h => ?_ | refine Br.mk (fun h => ?_) fun h => ?_) <;> (try simp only [bsl, beq_iff_eq, bne_iff_ne, bs2] at h) <;> (try contradiction) <;> try (exfalso; omega))
                  refine Sq.go ?_
                  repeat' (first | ((with_reducible refine Ev.mk ?_); conv => whnf) | with_reducible refine Dr.mk ⟨by kernel_rfl, by kernel_rfl⟩ ?_ | with_reducible refine obG ?_ | with_reducible refine Ob.mk ?_ ?_ | (with_reducible first | refine brT fun h => ?_ | refine brF fun h => ?_ | refine Br.mk (fun h => ?_) fun h => ?_) <;> (try simp only [bsl, beq_iff_eq, bne_iff_ne, bs2] at h) <;> (try contradiction) <;> try (exfalso; omega))
                  have hi64 : In .i64 (c 5 - min a2 (c 5)) := in64.2 (by omega)
                  have hx2 : s.groups.getD (m : Int).toNat default = ⟨5, a2, a3⟩ := hx
                  simp (config := { beta := false, eta := false, iota := false, proj := false, zeta := false, decide := false }) only [hx2]
                  repeat' (first | with_reducible refine Sq.go ?_ | ((with_reducible refine Ev.mk ?_); conv => whnf) | with_reducible refine Dr.mk ⟨by kernel_rfl, by kernel_rfl⟩ ?_ | with_reducible refine obG ?_ | with_reducible refine Ob.mk ?_ ?_ | (with_reducible first | refine brT fun h => ?_ | refine brF fun h => ?_ | refine Br.mk (fun h => ?_) fun h => ?_) <;> (try simp only [bsl, beq_iff_eq, bne_iff_ne, bs2] at h) <;> (try contradiction) <;> try (exfalso; omega))
                  refine ⟨m + 1, by show m + 1 ≤ s.groups.length; omega, by show s.groups.length - (m + 1) < s.groups.length - m; omega, ?_⟩
                  dsimp only
                  rw [htk, offs_snoc, hcd, e]
                  repeat' (first | exact True.intro | exact rfl | exact Nat.le_refl _ | refine And.intro ?_ ?_)
                · skip
                  obtain ⟨⟨j, a2, a3⟩, hx⟩ : ∃ x, s.groups.getD m default = x := ⟨_, rfl⟩
                  rw [hx] at hgm hgj hb2 htk
                  dsimp only at hgm hgj hb2
                  subst hgj
                  have e : eAd (takeOff c ⟨6, a2, a3⟩) q' = [.int .i64 (c 0), .int .i64 (c 1), .int .i64 (c 2), .int .i64 (c 3), .int .i64 (c 4), .int .i64 (c 5), .int .i64 (c 6 - min a2 (c 6)), .int .i64 (c 7), .int .i64 (cntG q' (-1)), .int .i64 q'.length] := by simp [eAd, takeOff]
                  repeat' (first | ((with_reducible refine Ev.mk ?_); conv => whnf) | with_reducible refine Dr.mk ⟨by kernel_rfl, by kernel_rfl⟩ ?_ | with_reducible refine obG ?_ | with_reducible refine Ob.mk ?_ ?_ | (with_reducible first | refine brT fun h => ?_ | refine brF fun h => ?_ | refine Br.mk (fun h => ?_) fun h => ?_) <;> (try simp only [bsl, beq_iff_eq, bne_iff_ne, bs2] at h) <;> (try contradiction) <;> try (exfalso; omega))
                  refine Sq.go ?_
                  repeat' (first | ((with_reducible refine Ev.mk ?_); conv => whnf) | with_reducible refine Dr.mk ⟨by kernel_rfl, by kernel_rfl⟩ ?_ | with_reducible refine obG ?_ | with_reducible refine Ob.mk ?_ ?_ | (with_reducible first | refine brT fun h => ?_ | refine brF fun h => ?_ | refine Br.mk (fun h => ?_) fun h => ?_) <;> (try simp only [bsl, beq_iff_eq, bne_iff_ne, bs2] at h) <;> (try contradiction) <;> try (exfalso; omega))
                  refine Sq.go ?_
                  repeat' (first | ((with_reducible refine Ev.mk ?_); conv => whnf) | with_reducible refine Dr.mk ⟨by kernel_rfl, by kernel_rfl⟩ ?_ | with_reducible refine obG ?_ | with_reducible refine Ob.mk ?_ ?_ | (with_reducible first | refine brT fun h => ?_ | refine brF fun h => ?_ | refine Br.mk (fun h => ?_) fun h => ?_) <;> (try simp only [bsl, beq_iff_eq, bne_iff_ne, bs2] at h) <;> (try contradiction) <;> try (exfalso; omega))
                  have hi64 : In .i64 (c 6 - min a2 (c 6)) := in64.2 (by omega)
                  have hx2 : s.groups.getD (m : Int).toNat default = ⟨6, a2, a3⟩ := hx
                  simp (config := { beta := false, eta := false, iota := false, proj := false, zeta := false, decide := false }) only [hx2]
                  repeat' (first | with_reducible refine Sq.go ?_ | ((with_reducible refine Ev.mk ?_); conv => whnf) | with_reducible refine Dr.mk ⟨by kernel_rfl, by kernel_rfl⟩ ?_ | with_reducible refine obG ?_ | with_reducible refine Ob.mk ?_ ?_ | (with_reducible first | refine brT fun h => ?_ | refine brF fun h => ?_ | refine Br.mk (fun h => ?_) fun h => ?_) <;> (try simp only [bsl, beq_iff_eq, bne_iff_ne, bs2] at h) <;> (try contradiction) <;> try (exfalso; omega))
                  refine ⟨m + 1, by show m + 1 ≤ s.groups.length; omega, by show s.groups.length - (m + 1) < s.groups.length - m; omega, ?_⟩
                  dsimp only
                  rw [htk, offs_snoc, hcd, e]
                  repeat' (first | exact True.intro | exact rfl | exact Nat.le_refl _ | refine And.intro ?_ ?_)
                · skip
                  obtain ⟨⟨j, a2, a3⟩, hx⟩ : ∃ x, s.groups.getD m default = x := ⟨_, rfl⟩
                  rw [hx] at hgm hgj hb2 htk
                  dsimp only at hgm hgj hb2
                  subst hgj
                  have e : eAd (takeOff c ⟨7, a2, a3⟩) q' = [.int .i64 (c 0), .int .i64 (c 1), .int .i64 (c 2), .int .i64 (c 3), .int .i64 (c 4), .int .i64 (c 5), .int .i64 (c 6), .int .i64 (c 7 - min a2 (c 7)), .int .i64 (cntG q' (-1)), .int .i64 q'.length] := by simp [eAd, takeOff]
                  repeat' (first | ((with_reducible refine Ev.mk ?_); conv => whnf) | with_reducible refine Dr.mk ⟨by kernel_rfl, by kernel_rfl⟩ ?_ | with_reducible refine obG ?_ | with_reducible refine Ob.mk ?_ ?_ | (with_reducible first | refine brT fun h => ?_ | refine brF fun h => ?_ | refine Br.mk (fun h => ?_) fun h => ?_) <;> (try simp only [bsl, beq_iff_eq, bne_iff_ne, bs2] at h) <;> (try contradiction) <;> try (exfalso; omega))
                  refine Sq.go ?_
                  repeat' (first | ((with_reducible refine Ev.mk ?_); conv => whnf) | with_reducible refine Dr.mk ⟨by kernel_rfl, by kernel_rfl⟩ ?_ | with_reducible refine obG ?_ | with_reducible refine Ob.mk ?_ ?_ | (with_reducible first | refine brT fun h => ?_ | refine brF fun h => ?_ | refine Br.mk (fun h => ?_) fun h => ?_) <;> (try simp only [bsl, beq_iff_eq, bne_iff_ne, bs2] at h) <;> (try contradiction) <;> try (exfalso; omega))
                  refine Sq.go ?_
                  repeat' (first | ((with_reducible refine Ev.mk ?_); conv => whnf) | with_reducible refine Dr.mk ⟨by kernel_rfl, by kernel_rfl⟩ ?_ | with_reducible refine obG ?_ | with_reducible refine Ob.mk ?_ ?_ | (with_reducible first | refine brT fun h => ?_ | refine brF fun h => ?_ | refine Br.mk (fun h => ?_) fun h => ?_) <;> (try simp only [bsl, beq_iff_eq, bne_iff_ne, bs2] at h) <;> (try contradiction) <;> try (exfalso; omega))
                  have hi64 : In .i64 (c 7 - min a2 (c 7)) := in64.2 (by omega)
                  have hx2 : s.groups.getD (m : Int).toNat default = ⟨7, a2, a3⟩ := hx
                  simp (config := { beta := false, eta := false, iota := false, proj := false, zeta := false, decide := false }) only [hx2]
                  repeat' (first | with_reducible refine Sq.go ?_ | ((with_reducible refine Ev.mk ?_); conv => whnf) | with_reducible refine Dr.mk ⟨by kernel_rfl, by kernel_rfl⟩ ?_ | with_reducible refine obG ?_ | with_reducible refine Ob.mk ?_ ?_ | (with_reducible first | refine brT fun h => ?_ | refine brF fun h => ?_ | refine Br.mk (fun h => ?_) fun h => ?_) <;> (try simp only [bsl, beq_iff_eq, bne_iff_ne, bs2] at h) <;> (try contradiction) <;> try (exfalso; omega))
                  refine ⟨m + 1, by show m + 1 ≤ s.groups.length; omega, by show s.groups.length - (m + 1) < s.groups.length - m; omega, ?_⟩
                  dsimp only
                  rw [htk, offs_snoc, hcd, e]
                  repeat' (first | exact True.intro | exact rfl | exact Nat.le_refl _ | refine And.intro ?_ ?_)
              · have hm3 : m = s.groups.length := by omega
                rw [show s.groups.take m = s.groups from List.take_of_length_le (by omega)] at hb1 ⊢
                obtain ⟨c, hcd⟩ : ∃ c, offs (cntG q') s.groups = c := ⟨_, rfl⟩
                rw [hcd] at hb1 ⊢
                have hrm : roomS q s = !(decide ((q'.length : Int) > s.seats) || decide (maxL (eight c) > 0)) := by rw [roomS, hq', hcd]
                have fail : roomS q s = false → chkT l q = 250 := fun hf => by
                  rw [chkT, if_pos h0, if_neg]
                  rintro ⟨_, ha⟩
                  have := List.all_eq_true.1 ha s hsm
                  rw [hf] at this
                  cases this
                by_cases hbig : (q'.length : Int) > s.seats
                · rw [fail (by rw [hrm, decide_eq_true hbig]; rfl)]
                  repeat' (first | with_reducible refine Sq.go ?_ | ((with_reducible refine Ev.mk ?_); conv => whnf) | with_reducible refine Dr.mk ⟨by kernel_rfl, by kernel_rfl⟩ ?_ | with_reducible refine obG ?_ | with_reducible refine Ob.mk ?_ ?_ | (with_reducible first | refine brT fun h => ?_ | refine brF fun h => ?_ | refine Br.mk (fun h => ?_) fun h => ?_) <;> (try simp only [bsl, beq_iff_eq, bne_iff_ne, bs2] at h) <;> (try contradiction) <;> try (exfalso; omega))
                  exact ⟨rfl, True.intro⟩
                · have hM := maxI_ok (eight c) (by show 0 < 8; decide) (by show 8 ≤ 1000000; decide)
                  have hnb : decide (s.seats < (q'.length : Int)) = false := decide_eq_false (by omega)
                  repeat' (first | with_reducible refine Sq.go ?_ | ((with_reducible refine Ev.mk ?_); conv => whnf) | with_reducible refine Dr.mk ⟨by kernel_rfl, by kernel_rfl⟩ ?_ | with_reducible refine obG ?_ | with_reducible refine Ob.mk ?_ ?_ | (with_reducible first | refine brT fun h => ?_ | refine brF fun h => ?_ | refine Br.mk (fun h => ?_) fun h => ?_) <;> (try simp only [bsl, beq_iff_eq, bne_iff_ne, bs2] at h) <;> (try contradiction) <;> try (exfalso; omega))
                  refine op_slice_arr hT rfl (n := 9) (e := 3) rfl (off := 0) (.inr ⟨_, by rw [hnb]; rfl, rfl⟩) rfl rfl (by decide) (by decide) (fun i => .int .i64 (c i)) ?_ ?_
                  · intro i hi
                    have hi : i < 8 := hi
                    rcases show i = 0 ∨ i = 1 ∨ i = 2 ∨ i = 3 ∨ i = 4 ∨ i = 5 ∨ i = 6 ∨ i = 7 by omega with rfl | rfl | rfl | rfl | rfl | rfl | rfl | rfl <;> rfl
                  repeat' (first | with_reducible refine Sq.go ?_ | ((with_reducible refine Ev.mk ?_); conv => whnf) | with_reducible refine Dr.mk ⟨by kernel_rfl, by kernel_rfl⟩ ?_ | with_reducible refine obG ?_ | with_reducible refine Ob.mk ?_ ?_ | (with_reducible first | refine brT fun h => ?_ | refine brF fun h => ?_ | refine Br.mk (fun h => ?_) fun h => ?_) <;> (try simp only [bsl, beq_iff_eq, bne_iff_ne, bs2] at h) <;> (try contradiction) <;> try (exfalso; omega))
                  refine (deqP (ds := [.sl 1 8 fun i => [.int .i64 (c i)]]) hM ⟨⟨rfl, rfl, fun i hi => ?_⟩, True.intro⟩).call ?_
                  · have hi : i < 8 := hi
                    rcases show i = 0 ∨ i = 1 ∨ i = 2 ∨ i = 3 ∨ i = 4 ∨ i = 5 ∨ i = 6 ∨ i = 7 by omega with rfl | rfl | rfl | rfl | rfl | rfl | rfl | rfl <;> rfl
                  by_cases hmx : maxL (eight c) > 0
                  · rw [fail (by rw [hrm, decide_eq_true hmx]; simp)]
                    repeat' (first | with_reducible refine Sq.go ?_ | ((with_reducible refine Ev.mk ?_); conv => whnf) | with_reducible refine Dr.mk ⟨by kernel_rfl, by kernel_rfl⟩ ?_ | with_reducible refine obG ?_ | with_reducible refine Ob.mk ?_ ?_ | (with_reducible first | refine brT fun h => ?_ | refine brF fun h => ?_ | refine Br.mk (fun h => ?_) fun h => ?_) <;> (try simp only [bsl, beq_iff_eq, bne_iff_ne, bs2] at h) <;> (try contradiction) <;> try (exfalso; omega))
                    exact ⟨rfl, True.intro⟩
                  · have hrs : roomS q s = true := by rw [hrm, decide_eq_false hmx, decide_eq_false hbig]; rfl
                    repeat' (first | with_reducible refine Sq.go ?_ | ((with_reducible refine Ev.mk ?_); conv => whnf) | with_reducible refine Dr.mk ⟨by kernel_rfl, by kernel_rfl⟩ ?_ | with_reducible refine obG ?_ | with_reducible refine Ob.mk ?_ ?_ | (with_reducible first | refine brT fun h => ?_ | refine brF fun h => ?_ | refine Br.mk (fun h => ?_) fun h => ?_) <;> (try simp only [bsl, beq_iff_eq, bne_iff_ne, bs2] at h) <;> (try contradiction) <;> try (exfalso; omega))
                    refine ⟨n + 1, ⟨by show n + 1 ≤ l.length; omega, ?_⟩, by show l.length - (n + 1) < l.length - n; omega, ?_⟩
                    · rw [take_succ_at hn2, List.all_append, hr, hs]
                      simp [hrs]
                    · repeat' (first | exact True.intro | exact rfl | exact Nat.le_refl _ | refine And.intro ?_ ?_)
          · rw [show l.take n = l from List.take_of_length_le (by omega)] at hr
            rw [chkT, if_pos h0, if_pos ⟨hc, hr⟩]
            repeat' (first | with_reducible refine Sq.go ?_ | ((with_reducible refine Ev.mk ?_); conv => whnf) | with_reducible refine Dr.mk ⟨by kernel_rfl, by kernel_rfl⟩ ?_ | with_reducible refine obG ?_ | with_reducible refine Ob.mk ?_ ?_ | (with_reducible first | refine brT fun h => ?_ | refine brF fun h => ?_ | refine Br.mk (fun h => ?_) fun h => ?_) <;> (try simp only [bsl, beq_iff_eq, bne_iff_ne, bs2] at h) <;> (try contradiction) <;> try (exfalso; omega))
            exact ⟨rfl, True.intro⟩
  · repeat' (first | with_reducible refine Sq.go ?_ | ((with_reducible refine Ev.mk ?_); conv => whnf) | with_reducible refine Dr.mk ⟨by kernel_rfl, by kernel_rfl⟩ ?_ | with_reducible refine obG ?_ | with_reducible refine Ob.mk ?_ ?_ | (with_reducible first | refine brT fun h => ?_ | refine brF fun h => ?_ | refine Br.mk (fun h => ?_) fun h => ?_) <;> (try simp only [bsl, beq_iff_eq, bne_iff_ne, bs2] at h) <;> (try contradiction) <;> try (exfalso; omega))
    refine hA.call ?_
    repeat' (first | with_reducible refine Sq.go ?_ | ((with_reducible refine Ev.mk ?_); conv => whnf) | with_reducible refine Dr.mk ⟨by kernel_rfl, by kernel_rfl⟩ ?_ | with_reducible refine obG ?_ | with_reducible refine Ob.mk ?_ ?_ | (with_reducible first | refine brT fun h => ?_ | refine brF fun h => ?_ | refine Br.mk (fun h => ?_) fun h => ?_) <;> (try simp only [bsl, beq_iff_eq, bne_iff_ne, bs2] at h) <;> (try contradiction) <;> try (exfalso; omega))
    rw [chkT, if_neg h0]
    exact ⟨rfl, True.intro⟩
end Go.Proofs.YtfbjlakcolipaaaDoor
