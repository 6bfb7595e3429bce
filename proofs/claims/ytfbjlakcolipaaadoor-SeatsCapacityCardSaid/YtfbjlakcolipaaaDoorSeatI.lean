/-
  Seats: what holds of valid seats; the law SeatsTime.
-/
import Derived.Test.YtfbjlakcolipaaaDoorSeatH
namespace Go.Proofs.YtfbjlakcolipaaaDoor
set_option linter.unusedSimpArgs false
set_option linter.unusedVariables false
open Go Go.Ab
set_option maxRecDepth 100000
set_option maxHeartbeats 0
theorem seatsB_groups {l : List Sec} : ∀ {q : List Seat} {p : Option Seat}, seatsB l p q = true → ∀ x ∈ q, -1 ≤ x.group ∧ x.group < 8
  | [], _, _ => fun x hx => by cases hx
  | y :: r, p, h => fun x hx => by
    simp only [seatsB, Bool.and_eq_true, decide_eq_true_eq] at h
    rcases List.mem_cons.1 hx with rfl | hx
    · omega
    · exact seatsB_groups h.2 x hx
theorem cntG_cons (x : Seat) (r : List Seat) (g : Int) : cntG (x :: r) g = cntG r g + if x.group = g then 1 else 0 := by
  unfold cntG
  rw [List.filter_cons]
  by_cases h : x.group = g <;> simp [h]
theorem cntG_sum : ∀ (q : List Seat), (∀ x ∈ q, -1 ≤ x.group ∧ x.group < 8) → cntG q (-1) + cntG q 0 + cntG q 1 + cntG q 2 + cntG q 3 + cntG q 4 + cntG q 5 + cntG q 6 + cntG q 7 = q.length
  | [], _ => rfl
  | x :: r, h => by
    have ih := cntG_sum r fun y hy => h y (List.mem_cons_of_mem _ hy)
    have hx := h x (List.mem_cons_self ..)
    simp only [cntG_cons, List.length_cons]
    rcases show x.group = -1 ∨ x.group = 0 ∨ x.group = 1 ∨ x.group = 2 ∨ x.group = 3 ∨ x.group = 4 ∨ x.group = 5 ∨ x.group = 6 ∨ x.group = 7 by omega with hg | hg | hg | hg | hg | hg | hg | hg | hg <;> simp [hg] <;> omega
theorem secL_mem {q : List Seat} {n : Int} {x : Seat} (h : x ∈ secL q n) : x ∈ q ∧ x.sec = n := by
  have := List.mem_filter.1 h
  exact ⟨this.1, of_decide_eq_true this.2⟩
theorem room_le {q : List Seat} {s : Sec} (h : roomS q s = true) : ((secL q s.id).length : Int) ≤ s.seats := by
  simp only [roomS, Bool.not_eq_true', Bool.or_eq_false_iff, decide_eq_false_iff_not] at h
  omega
theorem keptI_mono {s : Sec} (hs : Small s) (g : Int) {now later : Int} (h : now ≤ later) : keptI s g later ≤ keptI s g now := by
  have h0 := (hs.kept g now).1
  unfold keptI at h0 ⊢
  cases hf : s.groups.find? fun x => decide (x.g = g) with
  | none => simp
  | some x =>
    rw [hf] at h0
    dsimp only at h0 ⊢
    split <;> split at h0 <;> simp_all <;> omega
theorem genI_mono {s : Sec} (hs : Small s) (q : List Seat) {now later : Int} (h : now ≤ later) : ∀ k : Nat, genI s q now k ≤ genI s q later k
  | 0 => Int.le_refl _
  | k + 1 => by
    have := genI_mono hs q h k
    have := keptI_mono hs k h
    simp only [genI]
    omega
theorem genI_le {s : Sec} {q : List Seat} (h : ∀ x ∈ q, -1 ≤ x.group ∧ x.group < 8) (now : Int) : genI s q now 8 ≤ s.seats - q.length := by
  have := cntG_sum q h
  simp only [genI]
  have e : ∀ k : Nat, cntG q (k : Int) ≤ max (keptI s k now) (cntG q k) := fun k => by omega
  have e0 := e 0
  have e1 := e 1
  have e2 := e 2
  have e3 := e 3
  have e4 := e 4
  have e5 := e 5
  have e6 := e 6
  have e7 := e 7
  simp only [Int.natCast_zero, Int.natCast_one, Int.cast_ofNat_Int] at *
  omega
theorem cntL_all (q : List Seat) (n : Int) : cntL q n (-2) = ((secL q n).length : Int) := by
  unfold cntL secL
  rw [show cntP n (-2) = fun x : Seat => decide (x.sec = n) from funext fun x => by simp [cntP]]
theorem freeT_ok {l : List Sec} {q : List Seat} {sec : Int} {s : Sec} (h0 : chkT l q = 0) (hf : findS l sec = some s) {g : Int} (hg : -1 ≤ g ∧ g < 8) (now : Int) : freeT l q sec g now = (freeN s q g now, 0) := by
  rw [freeT, if_pos h0, if_pos hg, hf]
/-- What SeatsTime asks of the numbers. -/
theorem time_plain {l : List Sec} {q : List Seat} {sec : Int} {s : Sec} (h0 : chkT l q = 0) (hf : findS l sec = some s) {g : Int} (hg : 0 ≤ g) {now later : Int} (h : now ≤ later) :
    freeN s q (-1) now ≤ freeN s q (-1) later ∧ freeN s q (-1) now ≤ freeN s q g now ∧ freeN s q g now ≤ s.seats - cntL q sec (-2) ∧ freeN s q (-1) later ≤ s.seats - cntL q sec (-2) := by
  obtain ⟨h1, h2, h3⟩ := chkT_zero h0
  obtain ⟨hid, hmem⟩ := findS_id hf
  have hsm := small_of h1 hmem
  have hr := room_le (List.all_eq_true.1 h3 s hmem)
  have hgr : ∀ x ∈ secL q s.id, -1 ≤ x.group ∧ x.group < 8 := fun x hx => seatsB_groups h2 x (secL_mem hx).1
  have hm := genI_mono hsm (secL q s.id) h 8
  have hl1 := genI_le (s := s) hgr now
  have hl2 := genI_le (s := s) hgr later
  rw [cntL_all, ← hid]
  have hres : 0 ≤ resI s (secL q s.id) now g := by
    unfold resI
    omega
  unfold freeN genS allS
  rw [if_neg (by decide), if_neg (by decide), if_pos hg]
  omega
theorem freeN_bd {s : Sec} (hs : Small s) {q : List Seat} (hq : q.length ≤ 1000) (g now : Int) : -3000 ≤ freeN s q g now ∧ freeN s q g now ≤ 20000 := by
  have hql := secL_len q s.id
  have := resI_bd hs (show (secL q s.id).length ≤ 1000 by omega) g now
  have := genI_bd hs (show (secL q s.id).length ≤ 1000 by omega) now 8
  have := hs.lo
  have := hs.hi
  unfold freeN genS allS
  split <;> omega
end Go.Proofs.YtfbjlakcolipaaaDoor
