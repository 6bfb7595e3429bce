/-
  Seats: what a step leaves; the law SeatsCapacity.
-/
import Derived.Test.YtfbjlakcolipaaaDoorSeatS
namespace Go.Proofs.YtfbjlakcolipaaaDoor
set_option linter.unusedSimpArgs false
set_option linter.unusedVariables false
open Go Go.Ab
set_option maxRecDepth 100000
set_option maxHeartbeats 0
theorem split_len {α : Type} (f : α → Bool) : ∀ l : List α, (l.filter fun x => !f x).length + (l.filter f).length = l.length
  | [] => rfl
  | x :: r => by
    have := split_len f r
    rw [List.filter_cons, List.filter_cons, List.length_cons]
    cases f x <;> simp <;> omega
theorem or_len {α : Type} (f g : α → Bool) (h : ∀ x, f x = true → g x = false) : ∀ l : List α, (l.filter fun x => f x || g x).length = (l.filter f).length + (l.filter g).length
  | [] => rfl
  | x :: r => by
    have ih := or_len f g h r
    have hx := h x
    rw [List.filter_cons, List.filter_cons, List.filter_cons]
    cases hf : f x
    · cases g x <;> simp <;> omega
    · rw [hx hf]
      simp
      omega
def atS (st p : Int) (y : Seat) : Bool := decide (y.student = st) && decide (y.sec = p)
theorem one_at {q : List Seat} {st p : Int} (hs : srtS q) (h : tkS q st p = true) : (q.filter (atS st p)).length = 1 := by
  have hp : (q.filter (atS st p)).Pairwise fun a b => seatC a b < 0 := hs.sublist List.filter_sublist
  have hm : ∀ y ∈ q.filter (atS st p), y.sec = p ∧ y.student = st := fun y hy => by
    have := (List.mem_filter.1 hy).2
    simp only [atS, Bool.and_eq_true, decide_eq_true_eq] at this
    exact ⟨this.2, this.1⟩
  obtain ⟨x, hx, hx1, hx2⟩ := tkS_iff.1 h
  have hxm : x ∈ q.filter (atS st p) := List.mem_filter.2 ⟨hx, by simp [atS, hx1, hx2]⟩
  generalize q.filter (atS st p) = L at hp hm hxm
  match L, hp, hm, hxm with
  | [], _, _, hxm => cases hxm
  | [y], _, _, _ => rfl
  | y :: z :: r, hp, hm, _ =>
    exfalso
    have h1 := (List.pairwise_cons.1 hp).1 z (List.mem_cons_self ..)
    have h2 := hm y (List.mem_cons_self ..)
    have h3 := hm z (List.mem_cons_of_mem _ (List.mem_cons_self ..))
    rw [seatC_neg] at h1
    omega
theorem sub_chk {l : List Sec} {q : List Seat} (h : chkT l q = 0) (f : Seat → Bool) : chkT l (q.filter f) = 0 := by
  obtain ⟨h1, h2, h3, h4⟩ := chkT_iff.1 h
  refine chkT_iff.2 ⟨h1, fun x hx => h2 x (List.mem_filter.1 hx).1, h3.sublist List.filter_sublist, fun s hs => ?_⟩
  have ho := (roomS_iff (seats_nn h1 hs)).1 (h4 s hs)
  have hsub : (secL (q.filter f) s.id).Sublist (secL q s.id) := List.filter_sublist.filter _
  refine (roomS_iff (seats_nn h1 hs)).2 ⟨?_, fun i a b => ?_⟩
  · have := hsub.length_le
    omega
  · have h5 := ho.2 i a b
    have h6 : cntG (secL (q.filter f) s.id) i ≤ cntG (secL q s.id) i := by
      unfold cntG
      have := (hsub.filter fun x : Seat => decide (x.group = i)).length_le
      omega
    omega
theorem mem_tk {q : List Seat} {y : Seat} (h : y ∈ q) : tkS q y.student y.sec = true := tkS_iff.2 ⟨y, h, rfl, rfl⟩
/-- What a step that is carried out leaves. -/
structure Cap (l : List Sec) (q x : List Seat) (st : Int) (b : Bun) (want : Bool) (n : Int) : Prop where
  had : tkS q st b.sec = !want
  len : (x.length : Int) = q.length + n
  has : tkS x st b.sec = want
  lab : 0 ≤ b.lab → tkS x st b.lab = want
  chk : chkT l x = 0
  old : ∀ y ∈ x, ¬ (y.student = st ∧ (y.sec = b.sec ∨ y.sec = b.lab)) → tkS q y.student y.sec = true
def nOf (b : Bun) : Int := if 0 ≤ b.lab ∧ b.lab ≠ b.sec then 2 else 1
theorem sec_in (b : Bun) : b.sec ∈ partsI b := by
  obtain ⟨r, hr⟩ := parts_cons b
  rw [hr]
  exact List.mem_cons_self ..
theorem lab_in {b : Bun} (h : b.lab ≠ -1) : b.lab ∈ partsI b := by
  unfold partsI
  rw [if_neg h]
  simp
theorem in_parts {b : Bun} {p : Int} (h : p ∈ partsI b) : p = b.sec ∨ p = b.lab := by
  unfold partsI at h
  split at h
  · exact .inl (List.mem_singleton.1 h)
  · simpa using h
theorem cap_take {l : List Sec} {q x : List Seat} {st : Int} {b : Bun} {gs : List Int} {now : Int} (h : takeT l q st b gs now = (x, 0)) : Cap l q x st b true (nOf b) := by
  obtain ⟨h0, h1, h2, h3, h4, h5⟩ := takeT_zero h
  obtain ⟨a1, a2, a3, a4⟩ := taken_all h
  obtain ⟨_, _, hlab⟩ := bun_parts h1
  refine ⟨h4 _ (sec_in b), ?_, ?_, fun hl => ?_, a1, fun y hy hn => ?_⟩
  · have : ((partsI b).length : Int) = nOf b := by
      unfold partsI nOf
      rcases hlab with hl | hl
      · rw [if_pos hl, if_neg (by omega)]
        rfl
      · rw [if_neg (by omega), if_pos hl]
        rfl
    omega
  · rw [a3, decide_eq_true rfl, decide_eq_true (sec_in b)]
    rfl
  · rw [a3, decide_eq_true rfl, decide_eq_true (lab_in (by omega))]
    rfl
  · have hm := mem_tk hy
    rw [a3] at hm
    have hf : (decide (st = y.student) && decide (y.sec ∈ partsI b)) = false := by
      rw [Bool.and_eq_false_iff, decide_eq_false_iff_not, decide_eq_false_iff_not]
      by_cases he : st = y.student
      · refine .inr fun hp => hn ⟨he.symm, in_parts hp⟩
      · exact .inl he
    rw [hf, Bool.false_or] at hm
    exact hm
theorem leave_ofPart (st : Int) (b : Bun) (h : b.lab = -1 ∨ b.lab = b.sec) : ofPart st b = atS st b.sec := by
  funext y
  unfold ofPart atS partsI
  split
  · simp
  · rcases h with h | h
    · contradiction
    · simp [h]
theorem cap_leave {l : List Sec} {q x : List Seat} {st : Int} {b : Bun} (h0 : chkT l q = 0) (h : leaveT q st b = (x, 0)) : Cap l q x st b false (-nOf b) := by
  unfold leaveT at h
  by_cases ha : (partsI b).all (tkS q st) = true
  · rw [if_pos ha] at h
    have hx : x = q.filter fun y => !ofPart st b y := (congrArg Prod.fst h).symm
    have hp := List.all_eq_true.1 ha
    have hs := (chkT_iff.1 h0).2.2.1
    have hgone : ∀ p ∈ partsI b, tkS x st p = false := fun p hpm => by
      cases ht : tkS x st p with
      | false => rfl
      | true =>
        obtain ⟨y, hy, hy1, hy2⟩ := tkS_iff.1 ht
        rw [hx] at hy
        have := (List.mem_filter.1 hy).2
        rw [ofPart, decide_eq_true hy2, hy1, decide_eq_true hpm] at this
        cases this
    have hnn : b.lab ≠ -1 → 0 ≤ b.lab := fun hl => by
      obtain ⟨y, hy, hy1, _⟩ := tkS_iff.1 (hp _ (lab_in hl))
      have := sec_nn h0 hy
      omega
    refine ⟨hp _ (sec_in b), ?_, hgone _ (sec_in b), fun hl => hgone _ (lab_in (by omega)), by rw [hx]; exact sub_chk h0 _, fun y hy _ => ?_⟩
    · have hlen := split_len (ofPart st b) q
      rw [← hx] at hlen
      have h1 := one_at hs (hp _ (sec_in b))
      by_cases hl : b.lab = -1 ∨ b.lab = b.sec
      · rw [leave_ofPart st b hl, h1] at hlen
        unfold nOf
        rw [if_neg (by rcases hl with hl | hl <;> omega)]
        omega
      · have h2 := one_at hs (hp _ (lab_in (b := b) (by omega)))
        have ho : ofPart st b = fun y => atS st b.sec y || atS st b.lab y := by
          funext y
          unfold ofPart atS partsI
          rw [if_neg (by omega)]
          by_cases e1 : y.student = st <;> by_cases e2 : y.sec = b.sec <;> by_cases e3 : y.sec = b.lab <;> simp [e1, e2, e3]
        rw [ho, or_len _ _ (fun y hy => by
          simp only [atS, Bool.and_eq_true, decide_eq_true_eq] at hy
          simp only [atS, Bool.and_eq_false_iff, decide_eq_false_iff_not]
          omega), h1, h2] at hlen
        have := hnn (by omega)
        unfold nOf
        rw [if_pos (by omega)]
        omega
    · rw [hx] at hy
      exact mem_tk (List.mem_filter.1 hy).1
  · rw [if_neg ha] at h
    exact absurd (congrArg Prod.snd h) (show ¬ (250 : Int) = 0 by decide)
theorem leaveT_err {q x : List Seat} {st e : Int} {b : Bun} (h : leaveT q st b = (x, e)) (he : e ≠ 0) : x = [] := by
  unfold leaveT at h
  split at h
  · exact absurd (congrArg Prod.snd h).symm he
  · exact (congrArg Prod.fst h).symm
/-- No more than there are: of each section, of each group. -/
theorem cap_counts {l : List Sec} {q : List Seat} (h : chkT l q = 0) {s : Sec} (hs : s ∈ l) : cntL q s.id (-2) ≤ s.seats ∧ ∀ g ∈ s.groups, cntL q s.id g.g ≤ g.seats := by
  obtain ⟨h1, h2, h3, h4⟩ := chkT_iff.1 h
  obtain ⟨ha, hb⟩ := (roomS_iff (seats_nn h1 hs)).1 (h4 s hs)
  refine ⟨by rw [cntL_all]; exact ha, fun g hg => ?_⟩
  have hf := chk_form h1 hs
  simp only [formed, Bool.and_eq_true] at hf
  have hr := resv_one hf.1.1 g hg
  have hg2 := (groups_at h1 hs).1 g hg
  rw [cntL_grp _ _ _ (by omega), ← hr]
  exact hb g.g hg2.1 (by omega)
end Go.Proofs.YtfbjlakcolipaaaDoor
