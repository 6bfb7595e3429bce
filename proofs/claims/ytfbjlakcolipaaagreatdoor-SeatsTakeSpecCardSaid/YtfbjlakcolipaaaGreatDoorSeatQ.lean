/-
  Seats: the law SeatsReserved.
-/
import Derived.Test.YtfbjlakcolipaaaGreatDoorSeatP
namespace Go.Proofs.YtfbjlakcolipaaaGreatDoor
set_option linter.unusedSimpArgs false
set_option linter.unusedVariables false
open Go Go.Ab
set_option maxRecDepth 100000
set_option maxHeartbeats 0
/-- What it takes to take. -/
theorem takeT_zero {l : List Sec} {q x : List Seat} {st : Int} {b : Bun} {gs : List Int} {now : Int} (h : takeT l q st b gs now = (x, 0)) :
    chkT l q = 0 ∧ bchk l b = 0 ∧ (0 ≤ st ∧ st < 20000) ∧ grpsB (-1) gs = true ∧ (∀ p ∈ partsI b, tkS q st p = false) ∧ takeP l st gs now (partsI b) q = some x := by
  unfold takeT at h
  by_cases h0 : chkT l q = 0
  · rw [if_pos h0] at h
    by_cases h1 : bchk l b = 0
    · rw [if_pos h1] at h
      by_cases h2 : (decide (0 ≤ st) && decide (st < 20000) && grpsB (-1) gs) = true
      · rw [if_pos h2] at h
        simp only [Bool.and_eq_true, decide_eq_true_eq] at h2
        by_cases h3 : (partsI b).any (tkS q st) = true
        · rw [if_pos h3] at h
          injection h with _ h
          cases h
        · rw [if_neg h3] at h
          cases h4 : takeP l st gs now (partsI b) q with
          | none =>
            rw [h4] at h
            injection h with _ h
            cases h
          | some y =>
            rw [h4] at h
            injection h with h _
            subst h
            exact ⟨h0, h1, h2.1, h2.2, any_drop (by simpa using h3), rfl⟩
      · rw [if_neg h2] at h
        injection h with _ h
        cases h
    · rw [if_neg h1] at h
      injection h with _ h
      exact absurd h h1
  · rw [if_neg h0] at h
    injection h with _ h
    exact absurd h h0
theorem takeP_one {l : List Sec} {q x : List Seat} {st sec : Int} {gs : List Int} {now : Int} {s : Sec} (hf : findS l sec = some s) (h : takeP l st gs now [sec] q = some x) : take1 s q st sec gs now = some x := by
  unfold takeP at h
  rw [hf, Option.getD_some] at h
  cases h1 : take1 s q st sec gs now with
  | none => rw [h1] at h; cases h
  | some y => rw [h1] at h; exact h
theorem cntL_grp (q : List Seat) (n g : Int) (hg : g ≠ -2) : cntL q n g = cntG (secL q n) g := by
  unfold cntL cntG secL
  rw [List.filter_filter, show cntP n g = fun a => decide (a.group = g) && decide (a.sec = n) from funext fun x => by simp [cntP, hg, Bool.and_comm]]
theorem grp_ok {l : List Sec} {q : List Seat} (h : chkT l q = 0) (n : Int) : ∀ x ∈ secL q n, -1 ≤ x.group ∧ x.group < 8 := fun x hx => by
  have := (chkT_iff.1 h).2.1 x (secL_mem hx).1
  rw [seatOk, Bool.and_eq_true, decide_eq_true_eq] at this
  omega
/-- Room for one without a group: then there is room for all that is kept. -/
theorem gen_room {s : Sec} {q : List Seat} {now : Int} (hg : ∀ x ∈ q, -1 ≤ x.group ∧ x.group < 8) (h : 0 < genI s q now 8) (g : Int) (h0 : 0 ≤ g) (h8 : g < 8) : max (keptI s g now - cntG q g) 0 ≤ s.seats - (q.length + 1) := by
  have hs := cntG_sum q hg
  simp only [genI] at h
  have e : ∀ k : Nat, cntG q (k : Int) ≤ max (keptI s k now) (cntG q k) ∧ keptI s k now ≤ max (keptI s k now) (cntG q k) := fun k => by omega
  have e0 := e 0
  have e1 := e 1
  have e2 := e 2
  have e3 := e 3
  have e4 := e 4
  have e5 := e 5
  have e6 := e 6
  have e7 := e 7
  simp only [Int.natCast_zero, Int.natCast_one, Int.cast_ofNat_Int] at *
  rcases show g = 0 ∨ g = 1 ∨ g = 2 ∨ g = 3 ∨ g = 4 ∨ g = 5 ∨ g = 6 ∨ g = 7 by omega with rfl | rfl | rfl | rfl | rfl | rfl | rfl | rfl <;> omega
structure Resd (l : List Sec) (q x : List Seat) (sec now : Int) (s : Sec) : Prop where
  find : findS l sec = some s
  chk : chkT l x = 0
  small : Small s
  len : x.length = q.length + 1
  one : cntL x sec (-1) = cntL q sec (-1) + 1
  same : ∀ g : Int, 0 ≤ g → g < 8 → cntL x sec g = cntL q sec g
  left : ∀ g : Int, 0 ≤ g → g < 8 → max (keptI s g now - cntL x sec g) 0 ≤ s.seats - cntL x sec (-2)
  free : ∀ g : Int, 0 ≤ g → g < 8 → freeN s x g now = min (freeN s x (-1) now + min (max (keptI s g now - cntL x sec g) 0) (s.seats - cntL x sec (-2))) (s.seats - cntL x sec (-2))
theorem resd_of {l : List Sec} {q x : List Seat} {st sec now : Int} (h : takeT l q st ⟨sec, -1⟩ [] now = (x, 0)) : ∃ s, Resd l q x sec now s := by
  obtain ⟨h0, h1, h2, h3, h4, h5⟩ := takeT_zero h
  have hp : partsI ⟨sec, -1⟩ = [sec] := rfl
  rw [hp] at h4 h5
  obtain ⟨hpf, hpn, _⟩ := bun_parts h1
  rw [hp] at hpf
  obtain ⟨s, hs⟩ := hpf sec (List.mem_singleton.2 rfl)
  have ht := takeP_one hs h5
  have hc := take1_chk h0 hs (h4 sec (List.mem_singleton.2 rfl)) h2 (fun g hg => by cases hg) ht
  obtain ⟨g, hx, ⟨hg1, hg2, _⟩ | ⟨hg, _⟩⟩ := take1_some ht
  · subst hg1
    obtain ⟨hid, hmem⟩ := findS_id hs
    have hgo := grp_ok h0 s.id
    have hpm : x.Perm (⟨st, sec, -1⟩ :: q) := by rw [hx]; exact insS_perm _ _
    have hpX := secL_perm hpm sec
    rw [secL_cons, if_pos rfl] at hpX
    have hlen : (secL x sec).length = (secL q sec).length + 1 := hpX.length_eq
    have hcn : ∀ g : Int, 0 ≤ g → cntG (secL x sec) g = cntG (secL q sec) g := fun g hg => by
      rw [cntG_perm hpX, cntG_cons, if_neg (by show ¬ (-1 : Int) = g; omega)]
      omega
    have hgr : 0 < genI s (secL q s.id) now 8 := by
      unfold genS at hg2
      omega
    have hroom := gen_room hgo hgr
    rw [hid] at hroom
    refine ⟨s, hs, hc, small_of (chkT_iff.1 h0).1 hmem, by rw [hx, insS_len], ?_, fun g a b => ?_, fun g a b => ?_, fun g a b => ?_⟩
    · rw [cntL_grp _ _ _ (by decide), cntL_grp _ _ _ (by decide), cntG_perm hpX, cntG_cons, if_pos rfl]
    · rw [cntL_grp _ _ _ (by omega), cntL_grp _ _ _ (by omega), hcn g a]
    · rw [cntL_grp _ _ _ (by omega), cntL_all, hcn g a, hlen]
      have := hroom g a b
      omega
    · rw [cntL_grp _ _ _ (by omega), cntL_all]
      unfold freeN allS
      rw [if_pos a, if_neg (by decide), hid]
      rfl
  · cases hg
end Go.Proofs.YtfbjlakcolipaaaGreatDoor
