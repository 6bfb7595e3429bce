/-
  Seats: what Take and Leave hand back, and what holds of it (no program in sight).
-/
import Derived.Test.YtfbjlakcolipaaaDoorSeatK
namespace Go.Proofs.YtfbjlakcolipaaaDoor
set_option linter.unusedSimpArgs false
set_option linter.unusedVariables false
open Go Go.Ab
set_option maxRecDepth 100000
set_option maxHeartbeats 0
/-- A seat at its place. -/
def insS : List Seat → Seat → List Seat
  | [], t => [t]
  | x :: r, t => if seatC x t < 0 then x :: insS r t else t :: x :: r
def posS : List Seat → Seat → Nat
  | [], _ => 0
  | x :: r, t => if seatC x t < 0 then posS r t + 1 else 0
theorem insS_at : ∀ (q : List Seat) (t : Seat), insS q t = insAt q (posS q t) t
  | [], t => rfl
  | x :: r, t => by
    unfold insS posS
    split
    · rw [insS_at r t]
      simp [insAt]
    · simp [insAt]
theorem posS_le : ∀ (q : List Seat) (t : Seat), posS q t ≤ q.length
  | [], _ => Nat.le_refl _
  | x :: r, t => by
    have := posS_le r t
    unfold posS
    rw [List.length_cons]
    split <;> omega
theorem posS_before : ∀ (q : List Seat) (t : Seat) (j : Nat), j < posS q t → seatC (q.getD j default) t < 0
  | [], _, j, h => absurd h (Nat.not_lt_zero j)
  | x :: r, t, j, h => by
    unfold posS at h
    split at h
    · rename_i h0
      cases j with
      | zero => exact h0
      | succ j => exact posS_before r t j (by omega)
    · exact absurd h (Nat.not_lt_zero j)
theorem insS_perm : ∀ (q : List Seat) (t : Seat), (insS q t).Perm (t :: q)
  | [], t => List.Perm.refl _
  | x :: r, t => by
    unfold insS
    split
    · exact ((insS_perm r t).cons x).trans (List.Perm.swap t x r)
    · exact List.Perm.refl _
theorem insS_len (q : List Seat) (t : Seat) : (insS q t).length = q.length + 1 := (insS_perm q t).length_eq
theorem insS_filter (f : Seat → Bool) : ∀ (q : List Seat) (t : Seat), f t = false → (insS q t).filter f = q.filter f
  | [], t, h => by simp [insS, h]
  | x :: r, t, h => by
    unfold insS
    split
    · rw [List.filter_cons, List.filter_cons, insS_filter f r t h]
    · rw [List.filter_cons, h]
      rfl
def srtS (q : List Seat) : Prop := q.Pairwise fun a b => seatC a b < 0
theorem seatC_trans {a b c : Seat} (h1 : seatC a b < 0) (h2 : seatC b c < 0) : seatC a c < 0 := by
  rw [seatC_neg] at *
  omega
theorem seatC_flip {a b : Seat} (h1 : ¬ seatC a b < 0) (h2 : seatC a b ≠ 0) : seatC b a < 0 := by
  rw [seatC_neg] at *
  rw [Ne, seatC_zero] at h2
  omega
theorem getD_mem' {q : List Seat} {k : Nat} (h : k < q.length) : q.getD k default ∈ q := getD_mem h
theorem posS_after : ∀ (q : List Seat) (t : Seat), srtS q → ∀ j, posS q t ≤ j → j < q.length → 0 ≤ seatC (q.getD j default) t
  | [], _, _, j, _, h => absurd h (Nat.not_lt_zero j)
  | x :: r, t, hs, j, h1, h2 => by
    obtain ⟨hx, hr⟩ := List.pairwise_cons.1 hs
    unfold posS at h1
    split at h1
    · cases j with
      | zero => omega
      | succ j => exact posS_after r t hr j (by omega) (by simpa using h2)
    · rename_i h0
      cases j with
      | zero => exact Int.not_lt.1 h0
      | succ j =>
        refine Int.not_lt.1 fun h3 => h0 ?_
        have hm : r.getD j default ∈ r := getD_mem (by simpa using h2)
        exact seatC_trans (hx _ hm) h3
theorem insS_srt : ∀ (q : List Seat) (t : Seat), srtS q → (∀ x ∈ q, seatC x t ≠ 0) → srtS (insS q t)
  | [], t, _, _ => List.pairwise_singleton _ _
  | x :: r, t, hs, hn => by
    obtain ⟨hx, hr⟩ := List.pairwise_cons.1 hs
    unfold insS
    split
    · rename_i h0
      refine List.pairwise_cons.2 ⟨fun y hy => ?_, insS_srt r t hr fun y hy => hn y (List.mem_cons_of_mem _ hy)⟩
      rcases List.mem_cons.1 ((insS_perm r t).mem_iff.1 hy) with rfl | hy
      · exact h0
      · exact hx y hy
    · rename_i h0
      have h1 := seatC_flip h0 (hn x (List.mem_cons_self ..))
      refine List.pairwise_cons.2 ⟨fun y hy => ?_, hs⟩
      rcases List.mem_cons.1 hy with rfl | hy
      · exact h1
      · exact seatC_trans h1 (hx y hy)
def seatOk (l : List Sec) (x : Seat) : Bool := decide (0 ≤ x.student ∧ x.student < 20000 ∧ -1 ≤ x.group ∧ x.group < 8) && (findS l x.sec).isSome
theorem seatsB_iff {l : List Sec} : ∀ {q : List Seat} {p : Option Seat}, seatsB l p q = true ↔ (∀ x ∈ q, seatOk l x = true) ∧ srtS q ∧ ∀ x ∈ q, afterS p x = true
  | [], p => by simp [seatsB, srtS]
  | x :: r, p => by
    rw [seatsB, Bool.and_eq_true, Bool.and_eq_true, Bool.and_eq_true, seatsB_iff (q := r)]
    constructor
    · rintro ⟨⟨⟨h1, h2⟩, h3⟩, h4, h5, h6⟩
      refine ⟨fun y hy => ?_, List.pairwise_cons.2 ⟨fun y hy => of_decide_eq_true (h6 y hy), h5⟩, fun y hy => ?_⟩
      · rcases List.mem_cons.1 hy with rfl | hy
        · rw [seatOk, h1, h3]
          rfl
        · exact h4 y hy
      · rcases List.mem_cons.1 hy with rfl | hy
        · exact h2
        · cases p with
          | none => rfl
          | some z => exact decide_eq_true (seatC_trans (of_decide_eq_true h2) (of_decide_eq_true (h6 y hy)))
    · rintro ⟨h1, h2, h3⟩
      obtain ⟨hx, hr⟩ := List.pairwise_cons.1 h2
      have h4 := h1 x (List.mem_cons_self ..)
      rw [seatOk, Bool.and_eq_true] at h4
      exact ⟨⟨⟨h4.1, h3 x (List.mem_cons_self ..)⟩, h4.2⟩, fun y hy => h1 y (List.mem_cons_of_mem _ hy), hr, fun y hy => decide_eq_true (hx y hy)⟩
/-- The seats that are set aside for a group. -/
def resv : List Grp → Int → Int
  | [], _ => 0
  | g :: r, i => (if g.g = i then g.seats else 0) + resv r i
theorem resv_nn : ∀ {gs : List Grp}, (∀ g ∈ gs, 0 ≤ g.seats) → ∀ i, 0 ≤ resv gs i
  | [], _, _ => Int.le_refl _
  | g :: r, h, i => by
    have := resv_nn (fun x hx => h x (List.mem_cons_of_mem _ hx)) i
    have := h g (List.mem_cons_self ..)
    unfold resv
    split <;> omega
theorem resv_mem : ∀ {gs : List Grp}, (∀ g ∈ gs, 0 ≤ g.seats) → ∀ g ∈ gs, g.seats ≤ resv gs g.g
  | x :: r, h, g, hg => by
    have h1 := resv_nn (fun x hx => h x (List.mem_cons_of_mem _ hx)) g.g
    have h2 := h x (List.mem_cons_self ..)
    unfold resv
    rcases List.mem_cons.1 hg with rfl | hg
    · rw [if_pos rfl]
      omega
    · have := resv_mem (fun x hx => h x (List.mem_cons_of_mem _ hx)) g hg
      split <;> omega
theorem resv_out : ∀ {gs : List Grp} {i last : Int}, gok last gs = true → i ≤ last → resv gs i = 0
  | [], _, _, _, _ => rfl
  | g :: r, i, last, h, hi => by
    simp only [gok, Bool.and_eq_true, wit_iff] at h
    obtain ⟨⟨⟨h1, h2⟩, h3⟩, h4⟩ := h
    unfold resv
    rw [if_neg (by omega), resv_out h4 (by omega)]
    rfl
theorem gok_lt : ∀ {gs : List Grp} {last : Int}, gok last gs = true → ∀ g ∈ gs, last < g.g
  | x :: r, last, h, g, hg => by
    simp only [gok, Bool.and_eq_true, wit_iff] at h
    obtain ⟨⟨⟨h1, h2⟩, h3⟩, h4⟩ := h
    rcases List.mem_cons.1 hg with rfl | hg
    · omega
    · have := gok_lt h4 g hg
      omega
theorem resv_one : ∀ {gs : List Grp} {last : Int}, gok last gs = true → ∀ g ∈ gs, resv gs g.g = g.seats
  | x :: r, last, h, g, hg => by
    have h0 := h
    simp only [gok, Bool.and_eq_true, wit_iff] at h
    obtain ⟨⟨⟨h1, h2⟩, h3⟩, h4⟩ := h
    unfold resv
    rcases List.mem_cons.1 hg with rfl | hg
    · rw [if_pos rfl, resv_out h4 (Int.le_refl _)]
      omega
    · have hlt : x.g < g.g := by
        have := gok_lt h4 g hg
        omega
      rw [if_neg (by omega), resv_one h4 g hg]
      omega
theorem offs_eq : ∀ {gs : List Grp} {c : Int → Int}, (∀ g ∈ gs, 0 ≤ g.seats) → (∀ i, 0 ≤ c i) → ∀ i, offs c gs i = max (c i - resv gs i) 0
  | [], c, _, hc, i => by
    have := hc i
    show c i = max (c i - 0) 0
    omega
  | g :: r, c, h, hc, i => by
    have hg := h g (List.mem_cons_self ..)
    have hr := resv_nn (fun x hx => h x (List.mem_cons_of_mem _ hx)) i
    have hci := hc i
    show offs (takeOff c g) r i = _
    rw [offs_eq (c := takeOff c g) (fun x hx => h x (List.mem_cons_of_mem _ hx)) (fun j => by
      have := hc j
      unfold takeOff
      split <;> omega) i]
    rw [show resv (g :: r) i = (if g.g = i then g.seats else 0) + resv r i from rfl]
    unfold takeOff
    by_cases hi : i = g.g
    · rw [if_pos hi, if_pos hi.symm]
      omega
    · rw [if_neg hi, if_neg (fun e => hi e.symm)]
      omega
theorem roomS_iff {q : List Seat} {s : Sec} (hg : ∀ g ∈ s.groups, 0 ≤ g.seats) : roomS q s = true ↔ ((secL q s.id).length : Int) ≤ s.seats ∧ ∀ i : Int, 0 ≤ i → i < 8 → cntG (secL q s.id) i ≤ resv s.groups i := by
  have ho := offs_eq hg (c := cntG (secL q s.id)) (fun i => (cntG_le _ i).1)
  simp only [roomS, Bool.not_eq_true', Bool.or_eq_false_iff, decide_eq_false_iff_not, eight, ho]
  constructor
  · rintro ⟨h1, h2⟩
    refine ⟨by omega, fun i h3 h4 => ?_⟩
    simp only [maxL, List.foldl_cons, List.foldl_nil] at h2
    rcases show i = 0 ∨ i = 1 ∨ i = 2 ∨ i = 3 ∨ i = 4 ∨ i = 5 ∨ i = 6 ∨ i = 7 by omega with rfl | rfl | rfl | rfl | rfl | rfl | rfl | rfl <;> omega
  · rintro ⟨h1, h2⟩
    refine ⟨by omega, ?_⟩
    have h := fun i => h2 i
    simp only [maxL, List.foldl_cons, List.foldl_nil]
    have e0 := h 0 (by decide) (by decide)
    have e1 := h 1 (by decide) (by decide)
    have e2 := h 2 (by decide) (by decide)
    have e3 := h 3 (by decide) (by decide)
    have e4 := h 4 (by decide) (by decide)
    have e5 := h 5 (by decide) (by decide)
    have e6 := h 6 (by decide) (by decide)
    have e7 := h 7 (by decide) (by decide)
    omega
theorem chkT_iff {l : List Sec} {q : List Seat} : chkT l q = 0 ↔ chkAll l = 0 ∧ (∀ x ∈ q, seatOk l x = true) ∧ srtS q ∧ ∀ s ∈ l, roomS q s = true := by
  constructor
  · intro h
    obtain ⟨h1, h2, h3⟩ := chkT_zero h
    obtain ⟨a, b, _⟩ := seatsB_iff.1 h2
    exact ⟨h1, a, b, List.all_eq_true.1 h3⟩
  · rintro ⟨h1, h2, h3, h4⟩
    rw [chkT, if_pos h1, if_pos ⟨seatsB_iff.2 ⟨h2, h3, fun _ _ => rfl⟩, List.all_eq_true.2 h4⟩]
theorem keptI_le {s : Sec} (hg : ∀ g ∈ s.groups, 0 ≤ g.seats) (g now : Int) : keptI s g now ≤ resv s.groups g := by
  have h0 := resv_nn hg g
  unfold keptI
  cases hf : s.groups.find? fun x => decide (x.g = g) with
  | none => exact h0
  | some x =>
    have h1 := resv_mem hg x (List.mem_of_find?_eq_some hf)
    have h2 : x.g = g := by simpa using List.find?_some hf
    rw [h2] at h1
    dsimp only
    split <;> omega
theorem srt_find : ∀ {l : List Sec} {last : Int}, srt last l = true → ∀ s ∈ l, last < s.id ∧ findS l s.id = some s
  | x :: r, last, h, s, hs => by
    rw [srt, Bool.and_eq_true, decide_eq_true_eq] at h
    rcases List.mem_cons.1 hs with rfl | hs
    · exact ⟨h.1, List.find?_cons_of_pos (by simp)⟩
    · obtain ⟨h1, h2⟩ := srt_find h.2 s hs
      refine ⟨by omega, ?_⟩
      unfold findS at *
      rw [List.find?_cons_of_neg (by simp; omega)]
      exact h2
theorem chk_srt {l : List Sec} (h : chkAll l = 0) : srt (-1) l = true := by
  unfold chkAll at h
  split at h
  · split at h
    · rename_i h2
      rw [secP2_eq, Bool.and_eq_true] at h2
      exact h2.1
    · cases h
  · rename_i h0
    exact absurd h h0
theorem find_mem {l : List Sec} (h : chkAll l = 0) {s : Sec} (hs : s ∈ l) : findS l s.id = some s := (srt_find (chk_srt h) s hs).2
theorem secL_perm {q q' : List Seat} (h : q.Perm q') (n : Int) : (secL q n).Perm (secL q' n) := h.filter _
theorem cntG_perm {q q' : List Seat} (h : q.Perm q') (g : Int) : cntG q g = cntG q' g := by
  unfold cntG
  rw [(h.filter _).length_eq]
theorem cntL_perm {q q' : List Seat} (h : q.Perm q') (n g : Int) : cntL q n g = cntL q' n g := by
  unfold cntL
  rw [(h.filter _).length_eq]
theorem tkS_perm {q q' : List Seat} (h : q.Perm q') (st n : Int) : tkS q st n = tkS q' st n := by
  unfold tkS
  exact (secL_perm h n).any_eq
theorem tkS_iff {q : List Seat} {st n : Int} : tkS q st n = true ↔ ∃ x ∈ q, x.sec = n ∧ x.student = st := by
  simp only [tkS, secL, List.any_eq_true, List.mem_filter, decide_eq_true_eq]
  exact ⟨fun ⟨x, ⟨a, b⟩, c⟩ => ⟨x, a, b, c⟩, fun ⟨x, a, b, c⟩ => ⟨x, ⟨a, b⟩, c⟩⟩
theorem tkS_ins (q : List Seat) (t : Seat) (st n : Int) : tkS (insS q t) st n = ((decide (t.sec = n) && decide (t.student = st)) || tkS q st n) := by
  rw [tkS_perm (insS_perm q t), Bool.eq_iff_iff, Bool.or_eq_true, Bool.and_eq_true, decide_eq_true_eq, decide_eq_true_eq, tkS_iff, tkS_iff]
  simp
theorem seats_nn {l : List Sec} (h : chkAll l = 0) {s : Sec} (hs : s ∈ l) : ∀ g ∈ s.groups, 0 ≤ g.seats := fun g hg => ((groups_at h hs).1 g hg).2.2.1
/-- One seat more: still valid, if there is room for it. -/
theorem ins_chk {l : List Sec} {q : List Seat} {st sec g : Int} {s : Sec} (h0 : chkT l q = 0) (hf : findS l sec = some s) (hn : tkS q st sec = false) (hst : 0 ≤ st ∧ st < 20000) (hg : -1 ≤ g ∧ g < 8)
    (hr : ((secL q s.id).length : Int) + 1 ≤ s.seats) (hgr : 0 ≤ g → cntG (secL q s.id) g + 1 ≤ resv s.groups g) : chkT l (insS q ⟨st, sec, g⟩) = 0 := by
  obtain ⟨h1, h2, h3, h4⟩ := chkT_iff.1 h0
  obtain ⟨hid, hmem⟩ := findS_id hf
  have hp := insS_perm q ⟨st, sec, g⟩
  refine chkT_iff.2 ⟨h1, fun x hx => ?_, insS_srt _ _ h3 fun x hx e => ?_, fun y hy => ?_⟩
  · rcases List.mem_cons.1 (hp.mem_iff.1 hx) with rfl | hx
    · rw [seatOk, hf, decide_eq_true ⟨hst.1, hst.2, hg⟩]
      rfl
    · exact h2 x hx
  · rw [seatC_zero] at e
    have : tkS q st sec = true := tkS_iff.2 ⟨x, hx, e.1, e.2⟩
    rw [hn] at this
    cases this
  · have hold := (roomS_iff (seats_nn h1 hy)).1 (h4 y hy)
    refine (roomS_iff (seats_nn h1 hy)).2 ?_
    have hpy := secL_perm hp y.id
    rw [secL_cons] at hpy
    by_cases he : sec = y.id
    · have hys : y = s := by
        have := find_mem h1 hy
        rw [← he, hf] at this
        exact (Option.some.inj this).symm
      subst hys
      rw [if_pos he] at hpy
      refine ⟨by rw [hpy.length_eq, List.length_cons]; omega, fun i hi1 hi2 => ?_⟩
      rw [cntG_perm hpy, cntG_cons]
      have := hold.2 i hi1 hi2
      dsimp only
      by_cases hgi : g = i
      · subst hgi
        rw [if_pos rfl]
        exact hgr hi1
      · rw [if_neg hgi]
        omega
    · rw [if_neg he] at hpy
      refine ⟨by rw [hpy.length_eq]; exact hold.1, fun i hi1 hi2 => ?_⟩
      rw [cntG_perm hpy]
      exact hold.2 i hi1 hi2
def grpFor (s : Sec) (q : List Seat) (now : Int) (gs : List Int) : Option Int := gs.find? fun g => decide (resI s (secL q s.id) now g > 0)
/-- A seat of a section is taken. -/
def take1 (s : Sec) (q : List Seat) (st sec : Int) (gs : List Int) (now : Int) : Option (List Seat) :=
  match grpFor s q now gs with
  | some g => some (insS q ⟨st, sec, g⟩)
  | none => if genS s q now = 0 then none else some (insS q ⟨st, sec, -1⟩)
def takeP (l : List Sec) (st : Int) (gs : List Int) (now : Int) : List Int → List Seat → Option (List Seat)
  | [], q => some q
  | p :: r, q => match take1 ((findS l p).getD default) q st p gs now with
    | none => none
    | some x => takeP l st gs now r x
def grpsB : Int → List Int → Bool
  | _, [] => true
  | last, g :: r => decide (last < g) && decide (g < 8) && grpsB g r
def takeT (l : List Sec) (q : List Seat) (st : Int) (b : Bun) (gs : List Int) (now : Int) : List Seat × Int :=
  if chkT l q = 0 then (if bchk l b = 0 then (if (decide (0 ≤ st) && decide (st < 20000) && grpsB (-1) gs) = true then (if (partsI b).any (tkS q st) = true then ([], 250) else (match takeP l st gs now (partsI b) q with
    | none => ([], 251)
    | some x => (x, 0))) else ([], 1)) else ([], bchk l b)) else ([], chkT l q)
def ofPart (st : Int) (b : Bun) (x : Seat) : Bool := decide (x.student = st) && decide (x.sec ∈ partsI b)
def leaveT (q : List Seat) (st : Int) (b : Bun) : List Seat × Int :=
  if (partsI b).all (tkS q st) = true then (q.filter fun x => !ofPart st b x, 0) else ([], 250)
theorem grpsB_mem : ∀ {gs : List Int} {last : Int}, grpsB last gs = true → ∀ g ∈ gs, last < g ∧ g < 8
  | x :: r, last, h, g, hg => by
    rw [grpsB, Bool.and_eq_true, Bool.and_eq_true, decide_eq_true_eq, decide_eq_true_eq] at h
    obtain ⟨⟨h1, h2⟩, h3⟩ := h
    rcases List.mem_cons.1 hg with rfl | hg
    · exact ⟨h1, h2⟩
    · have := grpsB_mem h3 g hg
      omega
theorem genI_le' {l : List Sec} {q : List Seat} (h : ∀ x ∈ q, seatOk l x = true) (s : Sec) (now : Int) : genI s (secL q s.id) now 8 ≤ s.seats - ((secL q s.id).length : Int) :=
  genI_le (fun x hx => by
    have := h x (secL_mem hx).1
    rw [seatOk, Bool.and_eq_true, decide_eq_true_eq] at this
    omega) now
/-- What is taken. -/
theorem take1_some {s : Sec} {q x : List Seat} {st sec : Int} {gs : List Int} {now : Int} (h : take1 s q st sec gs now = some x) :
    ∃ g, x = insS q ⟨st, sec, g⟩ ∧ (g = -1 ∧ genS s q now ≠ 0 ∧ (∀ g ∈ gs, ¬ resI s (secL q s.id) now g > 0) ∨ g ∈ gs ∧ resI s (secL q s.id) now g > 0) := by
  unfold take1 at h
  cases hg : grpFor s q now gs with
  | some g =>
    rw [hg] at h
    cases h
    have h2 := List.find?_some (show gs.find? (fun g => decide (resI s (secL q s.id) now g > 0)) = some g from hg)
    exact ⟨g, rfl, .inr ⟨List.mem_of_find?_eq_some hg, by simpa using h2⟩⟩
  | none =>
    rw [hg] at h
    dsimp only at h
    by_cases h0 : genS s q now = 0
    · rw [if_pos h0] at h
      cases h
    · rw [if_neg h0] at h
      cases h
      refine ⟨-1, rfl, .inl ⟨rfl, h0, fun g hgm => ?_⟩⟩
      have := List.find?_eq_none.1 hg g hgm
      simpa using this
theorem take1_chk {l : List Sec} {q x : List Seat} {st sec : Int} {s : Sec} {gs : List Int} {now : Int} (h0 : chkT l q = 0) (hf : findS l sec = some s) (hn : tkS q st sec = false) (hst : 0 ≤ st ∧ st < 20000) (hgs : ∀ g ∈ gs, -1 < g ∧ g < 8)
    (h : take1 s q st sec gs now = some x) : chkT l x = 0 := by
  obtain ⟨h1, h2, h3, h4⟩ := chkT_iff.1 h0
  obtain ⟨hid, hmem⟩ := findS_id hf
  have hb := cntG_le (secL q s.id)
  obtain ⟨g, rfl, ⟨rfl, hgen, _⟩ | ⟨hg, hres⟩⟩ := take1_some h
  · have := genI_le' h2 s now
    unfold genS at hgen
    exact ins_chk h0 hf hn hst (by decide) (by omega) (fun h => by omega)
  · have hg2 := hgs g hg
    have hk := keptI_le (seats_nn h1 hmem) g now
    unfold resI at hres
    exact ins_chk h0 hf hn hst (by omega) (by omega) (fun h => by omega)
theorem chk_form {l : List Sec} (h : chkAll l = 0) {s : Sec} (hs : s ∈ l) : formed s = true := by
  unfold chkAll at h
  split at h
  · rename_i h0
    exact (chkS_ok (chkE_at h0 s hs)).1
  · rename_i h0
    exact absurd h h0
/-- The sections of a valid bundle. -/
theorem bun_parts {l : List Sec} {b : Bun} (h : bchk l b = 0) : (∀ p ∈ partsI b, ∃ s, findS l p = some s) ∧ (partsI b).Nodup ∧ (b.lab = -1 ∨ 0 ≤ b.lab ∧ b.lab ≠ b.sec) := by
  unfold bchk at h
  by_cases h0 : chkAll l = 0
  · rw [if_pos h0] at h
    cases h1 : findS l b.sec with
    | none => rw [h1] at h; cases h
    | some s =>
      rw [h1] at h
      simp only at h
      by_cases hl : s.lab = true
      · rw [if_pos hl] at h; cases h
      · rw [if_neg hl] at h
        have hneg : ∀ y, findS l b.lab = some y → 0 ≤ b.lab := fun y hy => by
          obtain ⟨e1, e2⟩ := findS_id hy
          have := (formed_id (chk_form h0 e2)).1
          omega
        by_cases hn : s.labs.length = 0 ∧ b.lab = -1
        · rw [partsI, if_pos hn.2]
          exact ⟨fun p hp => by rw [List.mem_singleton] at hp; subst hp; exact ⟨s, h1⟩, by simp, .inl hn.2⟩
        · rw [if_neg hn] at h
          cases h2 : findS l b.lab with
          | none => rw [h2] at h; cases h
          | some x =>
            rw [h2] at h
            simp only at h
            have h3 := hneg x h2
            by_cases hk : labOk s x b.lab = true
            · have hxl : x.lab = true := by
                simp only [labOk, Bool.and_eq_true] at hk
                exact hk.2.1
              have hne : b.lab ≠ b.sec := fun e => by
                rw [e, h1] at h2
                cases h2
                exact hl hxl
              rw [partsI, if_neg (by omega)]
              refine ⟨fun p hp => ?_, ?_, .inr ⟨h3, hne⟩⟩
              · simp only [List.mem_cons, List.not_mem_nil, or_false] at hp
                rcases hp with rfl | rfl
                · exact ⟨s, h1⟩
                · exact ⟨x, h2⟩
              · simp only [List.nodup_cons, List.mem_cons, List.not_mem_nil, or_false, not_false_eq_true, List.nodup_nil, and_true]
                exact fun e => hne e.symm
            · rw [if_neg hk] at h; cases h
  · rw [if_neg h0] at h; exact absurd h h0
/-- All that is taken. -/
theorem takeP_all {l : List Sec} {st : Int} {gs : List Int} {now : Int} (hst : 0 ≤ st ∧ st < 20000) (hgs : ∀ g ∈ gs, -1 < g ∧ g < 8) : ∀ {ps : List Int} {q x : List Seat}, chkT l q = 0 → (∀ p ∈ ps, ∃ s, findS l p = some s) → (∀ p ∈ ps, tkS q st p = false) → ps.Nodup → takeP l st gs now ps q = some x →
    chkT l x = 0 ∧ x.length = q.length + ps.length ∧ (∀ st' n, tkS x st' n = ((decide (st = st') && decide (n ∈ ps)) || tkS q st' n)) ∧ (∀ f : Seat → Bool, (∀ p ∈ ps, ∀ g, f ⟨st, p, g⟩ = false) → x.filter f = q.filter f)
  | [], q, x, h0, _, _, _, h => by
    cases h
    exact ⟨h0, rfl, fun st' n => by simp, fun f _ => rfl⟩
  | p :: r, q, x, h0, hf, hn, hd, h => by
    obtain ⟨hd1, hd2⟩ := List.nodup_cons.1 hd
    obtain ⟨s, hs⟩ := hf p (List.mem_cons_self ..)
    unfold takeP at h
    rw [hs, Option.getD_some] at h
    cases ht : take1 s q st p gs now with
    | none => rw [ht] at h; cases h
    | some y =>
      rw [ht] at h
      have hc := take1_chk h0 hs (hn p (List.mem_cons_self ..)) hst hgs ht
      obtain ⟨g, rfl, _⟩ := take1_some ht
      obtain ⟨a1, a2, a3, a4⟩ := takeP_all hst hgs hc (fun p' hp' => hf p' (List.mem_cons_of_mem _ hp')) (fun p' hp' => by
        rw [tkS_ins, hn p' (List.mem_cons_of_mem _ hp'), Bool.or_false, Bool.and_eq_false_iff]
        exact .inl (decide_eq_false fun e => hd1 (by rw [show p = p' from e]; exact hp'))) hd2 h
      refine ⟨a1, by rw [a2, insS_len, List.length_cons]; omega, fun st' n => ?_, fun f hfp => ?_⟩
      · rw [a3, tkS_ins]
        dsimp only
        by_cases h1 : st = st' <;> by_cases h2 : p = n <;> simp [h1, h2, eq_comm, List.mem_cons]
      · rw [a4 f fun p' hp' => hfp p' (List.mem_cons_of_mem _ hp')]
        exact insS_filter f q _ (hfp p (List.mem_cons_self ..) g)
end Go.Proofs.YtfbjlakcolipaaaDoor
