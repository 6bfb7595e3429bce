/-
  Sections: checkAll, CheckAll; meeting.Clash.
-/
import Derived.Test.YtfbjlakcolipaaaDoorSecB
namespace Go.Proofs.YtfbjlakcolipaaaDoor
set_option linter.unusedSimpArgs false
set_option linter.unusedVariables false
open Go Go.Ab
set_option maxRecDepth 100000
set_option maxHeartbeats 0
/-- The labs, by number. -/
def labM (l : List Sec) : List Int → Option Sec := l.foldl (fun M s => if s.lab = true then fun k => if k = [s.id] then some s else M k else M) fun _ => none
theorem labM_snoc (l : List Sec) (s : Sec) : labM (l ++ [s]) = if s.lab = true then fun k => if k = [s.id] then some s else labM l k else labM l := by
  simp [labM, List.foldl_append]
def mHas (M : List Int → Option Sec) : List Int → Bool := fun k => (M k).isSome
def mVal (M : List Int → Option Sec) : List Int → D := fun k => .agg (eSec ((M k).getD default))
def eLabM (M : List Int → Option Sec) : D := .mapd (.one .i64) (mHas M) (mVal M)
def misfit (M : List Int → Option Sec) (s : Sec) (n : Int) : Bool := !mHas M [n] || (!decide (((M [n]).getD default).course = s.course) || !decide (((M [n]).getD default).term = s.term))
theorem misfit_ok (M : List Int → Option Sec) (s : Sec) (n : Int) : Pure Tryd.prog 58 [.int .i64 n, .pt [eLabM M] 0, .pt (eSec s) 0] [.bool (misfit M s n)] := by
  refine pure_rule hT (T := tab) (N := 29) (rs := [.tmp 4]) Tryd.func58 rfl rfl rfl (by kernel_rfl) rfl ?_
  repeat' (first | with_reducible refine Sq.go ?_ | ((with_reducible refine Ev.mk ?_); conv => whnf) | with_reducible refine Dr.mk ⟨by kernel_rfl, by kernel_rfl⟩ ?_ | with_reducible refine obG ?_ | with_reducible refine Ob.mk ?_ ?_ | (with_reducible first | refine brT fun h => ?_ | refine brF fun h => ?_ | refine Br.mk (fun h => ?_) fun h => ?_) <;> (try simp only [bsl, beq_iff_eq, bne_iff_ne, bs2] at h) <;> (try contradiction) <;> try (exfalso; omega))
  · intro hM
    have hM : M [n] = none := by simpa [mHas] using hM
    rw [mVal, hM]
    exact ⟨rfl, rfl, rfl, rfl, rfl, rfl, rfl, rfl, rfl, True.intro⟩
  · refine ⟨congrArg D.bool ?_, True.intro⟩
    rw [misfit]
    cases mHas M [n] <;> simp
theorem idxInt2_ok (xs : List Int) (hx : xs.length ≤ 1000000) (f : FuncId) (c0 c1 : D) (p : Int → Bool) (hp : ∀ s, s ∈ xs → Pure Tryd.prog f [.int .i64 s, c0, c1] [.bool (p s)]) :
    Pure Tryd.prog 30 [eInts xs, .fn (.func f) [] [c0, c1]] [.int .i64 (ix p xs 0)] := by
  refine pure_rule hT (T := tab) (N := 19) (rs := [.tmp 4]) Tryd.func30 rfl rfl rfl (by kernel_rfl) rfl ?_
  repeat' (first | with_reducible refine Sq.go ?_ | ((with_reducible refine Ev.mk ?_); conv => whnf) | with_reducible refine Dr.mk ⟨by kernel_rfl, by kernel_rfl⟩ ?_ | with_reducible refine obG ?_ | with_reducible refine Ob.mk ?_ ?_ | (with_reducible first | refine brT fun h => ?_ | refine brF fun h => ?_ | refine Br.mk (fun h => ?_) fun h => ?_) <;> (try simp only [bsl, beq_iff_eq, bne_iff_ne, bs2] at h) <;> (try contradiction) <;> try (exfalso; omega))
  refine loop_rule hT (S := Nat) (fun k => ([(0, .d (eInts xs)), (1, .d (.fn (.func f) [] [c0, c1])), (7, .d (.int .i64 xs.length)), (8, .d (.int .i64 k))], ⟨[], []⟩)) (fun k => k ≤ xs.length ∧ ix p xs 0 = ix p (xs.drop k) k) (fun k => xs.length - k) 0 ?_ ?_ ?_
  · repeat' (first | exact True.intro | exact rfl | exact Nat.le_refl _ | refine And.intro ?_ ?_)
  · exact ⟨Nat.zero_le _, rfl⟩
  · rintro k ⟨hk, hc⟩
    repeat' (first | with_reducible refine Sq.go ?_ | ((with_reducible refine Ev.mk ?_); conv => whnf) | with_reducible refine Dr.mk ⟨by kernel_rfl, by kernel_rfl⟩ ?_ | with_reducible refine obG ?_ | with_reducible refine Ob.mk ?_ ?_ | (with_reducible first | refine brT fun h => ?_ | refine brF fun h => ?_ | refine Br.mk (fun h => ?_) fun h => ?_) <;> (try simp only [bsl, beq_iff_eq, bne_iff_ne, bs2] at h) <;> (try contradiction) <;> try (exfalso; omega))
    · refine ⟨⟨f, [], [.d c0, .d c1], .inr ⟨[], [c0, c1], rfl, rfl, rfl⟩, (hp (xs.getD k default) (getD_mem (by omega))).call ?_⟩⟩
      repeat' (first | with_reducible refine Sq.go ?_ | ((with_reducible refine Ev.mk ?_); conv => whnf) | with_reducible refine Dr.mk ⟨by kernel_rfl, by kernel_rfl⟩ ?_ | with_reducible refine obG ?_ | with_reducible refine Ob.mk ?_ ?_ | (with_reducible first | refine brT fun h => ?_ | refine brF fun h => ?_ | refine Br.mk (fun h => ?_) fun h => ?_) <;> (try simp only [bsl, beq_iff_eq, bne_iff_ne, bs2] at h) <;> (try contradiction) <;> try (exfalso; omega))
      · refine ⟨congrArg (D.int .i64) ?_, True.intro⟩
        rw [hc, drop_at (by omega), ix, if_pos h]
      · refine ⟨k + 1, ⟨by show k + 1 ≤ xs.length; omega, ?_⟩, by show xs.length - (k + 1) < xs.length - k; omega, ?_⟩
        · rw [hc, drop_at (by omega), ix, if_neg (by rw [h]; exact Bool.false_ne_true)]
          rfl
        · repeat' (first | exact True.intro | exact rfl | exact Nat.le_refl _ | refine And.intro ?_ ?_)
    · refine ⟨congrArg (D.int .i64) ?_, True.intro⟩
      have : k = xs.length := by omega
      rw [hc]
      simp [this, ix]
theorem anyInt2_ok (xs : List Int) (hx : xs.length ≤ 1000000) (f : FuncId) (c0 c1 : D) (p : Int → Bool) (hp : ∀ s, s ∈ xs → Pure Tryd.prog f [.int .i64 s, c0, c1] [.bool (p s)]) :
    Pure Tryd.prog 59 [eInts xs, .fn (.func f) [] [c0, c1]] [.bool (xs.any p)] := by
  refine pure_rule hT (T := tab) (N := 9) (rs := [.tmp 4]) Tryd.func59 rfl rfl rfl (by kernel_rfl) rfl ?_
  repeat' (first | with_reducible refine Sq.go ?_ | ((with_reducible refine Ev.mk ?_); conv => whnf) | with_reducible refine Dr.mk ⟨by kernel_rfl, by kernel_rfl⟩ ?_ | with_reducible refine obG ?_ | with_reducible refine Ob.mk ?_ ?_ | (with_reducible first | refine brT fun h => ?_ | refine brF fun h => ?_ | refine Br.mk (fun h => ?_) fun h => ?_) <;> (try simp only [bsl, beq_iff_eq, bne_iff_ne, bs2] at h) <;> (try contradiction) <;> try (exfalso; omega))
  refine (idxInt2_ok xs hx f c0 c1 p hp).call ?_
  repeat' (first | with_reducible refine Sq.go ?_ | ((with_reducible refine Ev.mk ?_); conv => whnf) | with_reducible refine Dr.mk ⟨by kernel_rfl, by kernel_rfl⟩ ?_ | with_reducible refine obG ?_ | with_reducible refine Ob.mk ?_ ?_ | (with_reducible first | refine brT fun h => ?_ | refine brF fun h => ?_ | refine Br.mk (fun h => ?_) fun h => ?_) <;> (try simp only [bsl, beq_iff_eq, bne_iff_ne, bs2] at h) <;> (try contradiction) <;> try (exfalso; omega))
  refine ⟨congrArg D.bool ?_, True.intro⟩
  rw [← ix_ge p xs 0 (by omega)]
def secP2 (M : List Int → Option Sec) : Int → List Sec → Bool
  | _, [] => true
  | last, s :: r => decide (last < s.id) && !(s.labs.any (misfit M s)) && secP2 M s.id r
/-- The first error of a section. -/
def chkE : List Sec → Int
  | [] => 0
  | s :: r => if chkS s = 0 then chkE r else chkS s
def chkAll (l : List Sec) : Int := if chkE l = 0 then (if secP2 (labM l) (-1) l = true then 0 else 230) else chkE l
def fewS (l : List Sec) : Prop := l.length ≤ 1000 ∧ ∀ s ∈ l, s.groups.length ≤ 1000 ∧ s.labs.length ≤ 1000 ∧ s.meets.length ≤ 1000
theorem chkS_ok {s : Sec} (h : chkS s = 0) : formed s = true ∧ mcheck s.meets = 0 := by
  unfold chkS at h
  split at h
  · exact ⟨by assumption, h⟩
  · cases h
theorem chkE_at : ∀ {l : List Sec}, chkE l = 0 → ∀ s ∈ l, chkS s = 0
  | [], _ => fun s h => by simp at h
  | x :: r, h => fun s hs => by
    unfold chkE at h
    split at h
    · rename_i h0
      rcases List.mem_cons.1 hs with rfl | hs
      · exact h0
      · exact chkE_at h s hs
    · rename_i h0
      exact absurd h h0
theorem formed_id {s : Sec} (h : formed s = true) : 0 ≤ s.id ∧ s.id ≤ 3999 ∧ 0 ≤ s.course ∧ s.course ≤ 4095 ∧ 0 ≤ s.term ∧ s.term ≤ 1023 ∧ 0 ≤ s.seats ∧ s.seats ≤ 4096 := by
  simp only [formed, Bool.and_eq_true, wit_iff] at h
  omega
theorem lab_put {l : List Sec} {k : Nat} (hk : k < l.length) (hlab : (l.getD k default).lab = true) (q : List Int) :
    (decide (q = [(l.getD k default).id]) || mHas (labM (l.take k)) q) = mHas (labM (l.take (k + 1))) q ∧
    (bif decide (q = [(l.getD k default).id]) then AV.d (.agg (eSec (l.getD k default))) else AV.d (mVal (labM (l.take k)) q)) = AV.d (mVal (labM (l.take (k + 1))) q) := by
  have hM : labM (l.take (k + 1)) = fun q => if q = [(l.getD k default).id] then some (l.getD k default) else labM (l.take k) q := by rw [take_succ_at hk, labM_snoc, if_pos hlab]
  rw [hM]
  generalize l.getD k default = b at *
  by_cases e : q = [b.id]
  · simp [mHas, mVal, e]
  · simp [mHas, mVal, e]
theorem lab_not {l : List Sec} {k : Nat} (hk : k < l.length) (hlab : (l.getD k default).lab = false) : labM (l.take (k + 1)) = labM (l.take k) := by
  rw [take_succ_at hk, labM_snoc, hlab]
  rfl
theorem checkAll_ok (l : List Sec) (hl : fewS l) : Pure Tryd.prog 45 [eSecs l] [eErr (chkAll l)] := by
  refine pure_rule hT (T := tab) (N := 52) (rs := [.tmp 2]) Tryd.func45 rfl rfl rfl (by kernel_rfl) rfl ?_
  have hln := hl.1
  repeat' (first | with_reducible refine Sq.go ?_ | ((with_reducible refine Ev.mk ?_); conv => whnf) | with_reducible refine Dr.mk ⟨by kernel_rfl, by kernel_rfl⟩ ?_ | with_reducible refine obG ?_ | with_reducible refine Ob.mk ?_ ?_ | (with_reducible first | refine brT fun h => ?_ | refine brF fun h => ?_ | refine Br.mk (fun h => ?_) fun h => ?_) <;> (try simp only [bsl, beq_iff_eq, bne_iff_ne, bs2] at h) <;> (try contradiction) <;> try (exfalso; omega))
  refine loop_rule hT (S := Nat) (fun k => ([(0, .d (eSecs l)), (3, .ptr (.loc 1) 0 0 0), (12, .d (eSecs l)), (13, .d (.int .i64 l.length)), (14, .d (.int .i64 k))], ⟨[some (.map (.one .i64) (mHas (labM (l.take k))) fun q => .d (mVal (labM (l.take k)) q)), some (.box 110 [.mp (.loc 0)])], []⟩))
    (fun k => k ≤ l.length ∧ chkE l = chkE (l.drop k)) (fun k => l.length - k) 0 ?_ ?_ ?_
  · repeat' (first | exact True.intro | exact rfl | exact Nat.le_refl _ | refine And.intro ?_ ?_)
    intro k hk
    exact ⟨rfl, fun h => by cases h⟩
  · exact ⟨Nat.zero_le _, rfl⟩
  · rintro k ⟨hk, hc⟩
    by_cases hk2 : k < l.length
    · have hd := drop_at (xs := l) (k := k) hk2
      have ht := take_succ_at (xs := l) (k := k) hk2
      obtain ⟨hg, hb, -⟩ := hl.2 _ (getD_mem hk2)
      rw [hd, chkE] at hc
      repeat' (first | with_reducible refine Sq.go ?_ | ((with_reducible refine Ev.mk ?_); conv => whnf) | with_reducible refine Dr.mk ⟨by kernel_rfl, by kernel_rfl⟩ ?_ | with_reducible refine obG ?_ | with_reducible refine Ob.mk ?_ ?_ | (with_reducible first | refine brT fun h => ?_ | refine brF fun h => ?_ | refine Br.mk (fun h => ?_) fun h => ?_) <;> (try simp only [bsl, beq_iff_eq, bne_iff_ne, bs2] at h) <;> (try contradiction) <;> try (exfalso; omega))
      have hp := check_ok (l.getD k default) (by omega) (by omega)
      by_cases h0 : chkS (l.getD k default) = 0
      · rw [h0, show eErr 0 = .nili from rfl] at hp
        rw [if_pos h0] at hc
        refine hp.call ?_
        repeat' (first | with_reducible refine Sq.go ?_ | ((with_reducible refine Ev.mk ?_); conv => whnf) | with_reducible refine Dr.mk ⟨by kernel_rfl, by kernel_rfl⟩ ?_ | with_reducible refine obG ?_ | with_reducible refine Ob.mk ?_ ?_ | (with_reducible first | refine brT fun h => ?_ | refine brF fun h => ?_ | refine Br.mk (fun h => ?_) fun h => ?_) <;> (try simp only [bsl, beq_iff_eq, bne_iff_ne, bs2] at h) <;> (try contradiction) <;> try (exfalso; omega))
        · have hM := lab_put hk2 h
          refine ⟨k + 1, ⟨by show k + 1 ≤ l.length; omega, hc⟩, by show l.length - (k + 1) < l.length - k; omega, ?_⟩
          repeat' (first | exact True.intro | exact rfl | exact Nat.le_refl _ | refine And.intro ?_ ?_)
          all_goals (intro q hq; exact ⟨(hM q).1, fun _ => ⟨(hM q).2, rfl⟩⟩)
        · have hM := lab_not hk2 h
          refine ⟨k + 1, ⟨by show k + 1 ≤ l.length; omega, hc⟩, by show l.length - (k + 1) < l.length - k; omega, ?_⟩
          repeat' (first | exact True.intro | exact rfl | exact Nat.le_refl _ | refine And.intro ?_ ?_)
          all_goals (intro q hq; rw [hM]; exact ⟨rfl, fun _ => ⟨rfl, rfl⟩⟩)
      · rw [show eErr (chkS (l.getD k default)) = _ from if_neg h0] at hp
        rw [if_neg h0] at hc
        refine hp.call ?_
        repeat' (first | with_reducible refine Sq.go ?_ | ((with_reducible refine Ev.mk ?_); conv => whnf) | with_reducible refine Dr.mk ⟨by kernel_rfl, by kernel_rfl⟩ ?_ | with_reducible refine obG ?_ | with_reducible refine Ob.mk ?_ ?_ | (with_reducible first | refine brT fun h => ?_ | refine brF fun h => ?_ | refine Br.mk (fun h => ?_) fun h => ?_) <;> (try simp only [bsl, beq_iff_eq, bne_iff_ne, bs2] at h) <;> (try contradiction) <;> try (exfalso; omega))
        have h1 : chkAll l = chkS (l.getD k default) := by rw [chkAll, hc, if_neg h0]
        rw [h1, show eErr (chkS (l.getD k default)) = _ from if_neg h0]
        exact ⟨rfl, True.intro⟩
    · have hk3 : k = l.length := by omega
      subst hk3
      rw [drop_end (Nat.le_refl _), chkE] at hc
      rw [List.take_length]
      have hch := chkE_at hc
      repeat' (first | with_reducible refine Sq.go ?_ | ((with_reducible refine Ev.mk ?_); conv => whnf) | with_reducible refine Dr.mk ⟨by kernel_rfl, by kernel_rfl⟩ ?_ | with_reducible refine obG ?_ | with_reducible refine Ob.mk ?_ ?_ | (with_reducible first | refine brT fun h => ?_ | refine brF fun h => ?_ | refine Br.mk (fun h => ?_) fun h => ?_) <;> (try simp only [bsl, beq_iff_eq, bne_iff_ne, bs2] at h) <;> (try contradiction) <;> try (exfalso; omega))
      refine loop_rule hT (S := Nat × Int) (fun q => ([(3, .ptr (.loc 1) 0 0 0), (7, .d (.int .i64 q.2)), (30, .d (eSecs l)), (31, .d (.int .i64 l.length)), (32, .d (.int .i64 q.1))], ⟨[some (.map (.one .i64) (mHas (labM l)) fun q => .d (mVal (labM l) q)), some (.box 110 [.mp (.loc 0)])], []⟩))
        (fun q => q.1 ≤ l.length ∧ secP2 (labM l) (-1) l = secP2 (labM l) q.2 (l.drop q.1)) (fun q => l.length - q.1) (0, -1) ?_ ?_ ?_
      · repeat' (first | exact True.intro | exact rfl | exact Nat.le_refl _ | refine And.intro ?_ ?_)
        all_goals (intro q hq; exact ⟨rfl, fun _ => ⟨rfl, rfl⟩⟩)
      · exact ⟨Nat.zero_le _, rfl⟩
      · rintro ⟨k, last⟩ ⟨hk, h7⟩
        dsimp only at hk h7
        by_cases hk2 : k < l.length
        · have hd := drop_at (xs := l) (k := k) hk2
          obtain ⟨hg, hb, -⟩ := hl.2 _ (getD_mem hk2)
          rw [hd, secP2] at h7
          by_cases hlast : last < (l.getD k default).id
          · have hla : ¬ (l.getD k default).id ≤ last := by omega
            repeat' (first | with_reducible refine Sq.go ?_ | ((with_reducible refine Ev.mk ?_); conv => whnf) | with_reducible refine Dr.mk ⟨by kernel_rfl, by kernel_rfl⟩ ?_ | with_reducible refine obG ?_ | with_reducible refine Ob.mk ?_ ?_ | (with_reducible first | refine brT fun h => ?_ | refine brF fun h => ?_ | refine Br.mk (fun h => ?_) fun h => ?_) <;> (try simp only [bsl, beq_iff_eq, bne_iff_ne, bs2] at h) <;> (try contradiction) <;> try (exfalso; omega))
            refine loanB (anyInt2_ok (l.getD k default).labs (by omega) 58 (.pt [eLabM (labM l)] 0) (.pt (eSec (l.getD k default)) 0) (misfit (labM l) (l.getD k default)) (fun n _ => misfit_ok _ _ n))
              ⟨.d, .fn' True.intro ⟨.ptr' rfl ⟨.mp rfl (fun _ _ => .d), True.intro⟩, .ptr' rfl ⟨.d, .d, .d, .d, .d, .d, .d, .d, .d, True.intro⟩, True.intro⟩, True.intro⟩ (fun hw => ?_) (fun hw => ?_)
            · repeat' (first | with_reducible refine Sq.go ?_ | ((with_reducible refine Ev.mk ?_); conv => whnf) | with_reducible refine Dr.mk ⟨by kernel_rfl, by kernel_rfl⟩ ?_ | with_reducible refine obG ?_ | with_reducible refine Ob.mk ?_ ?_ | (with_reducible first | refine brT fun h => ?_ | refine brF fun h => ?_ | refine Br.mk (fun h => ?_) fun h => ?_) <;> (try simp only [bsl, beq_iff_eq, bne_iff_ne, bs2] at h) <;> (try contradiction) <;> try (exfalso; omega))
              refine ⟨(k + 1, (l.getD k default).id), ⟨by show k + 1 ≤ l.length; omega, ?_⟩, by show l.length - (k + 1) < l.length - k; omega, ?_⟩
              · rw [h7, hw, decide_eq_true hlast]
                rfl
              · repeat' (first | exact True.intro | exact rfl | exact Nat.le_refl _ | refine And.intro ?_ ?_)
                all_goals (intro q hq; exact ⟨rfl, fun _ => ⟨rfl, rfl⟩⟩)
            · repeat' (first | with_reducible refine Sq.go ?_ | ((with_reducible refine Ev.mk ?_); conv => whnf) | with_reducible refine Dr.mk ⟨by kernel_rfl, by kernel_rfl⟩ ?_ | with_reducible refine obG ?_ | with_reducible refine Ob.mk ?_ ?_ | (with_reducible first | refine brT fun h => ?_ | refine brF fun h => ?_ | refine Br.mk (fun h => ?_) fun h => ?_) <;> (try simp only [bsl, beq_iff_eq, bne_iff_ne, bs2] at h) <;> (try contradiction) <;> try (exfalso; omega))
              rw [show chkAll l = 230 by rw [chkAll, if_pos hc, h7, hw]; simp]
              exact ⟨rfl, True.intro⟩
          · have hla : (l.getD k default).id ≤ last := by omega
            repeat' (first | with_reducible refine Sq.go ?_ | ((with_reducible refine Ev.mk ?_); conv => whnf) | with_reducible refine Dr.mk ⟨by kernel_rfl, by kernel_rfl⟩ ?_ | with_reducible refine obG ?_ | with_reducible refine Ob.mk ?_ ?_ | (with_reducible first | refine brT fun h => ?_ | refine brF fun h => ?_ | refine Br.mk (fun h => ?_) fun h => ?_) <;> (try simp only [bsl, beq_iff_eq, bne_iff_ne, bs2] at h) <;> (try contradiction) <;> try (exfalso; omega))
            rw [show chkAll l = 230 by rw [chkAll, if_pos hc, h7, decide_eq_false hlast]; simp]
            exact ⟨rfl, True.intro⟩
        · rw [drop_end (by omega), secP2] at h7
          repeat' (first | with_reducible refine Sq.go ?_ | ((with_reducible refine Ev.mk ?_); conv => whnf) | with_reducible refine Dr.mk ⟨by kernel_rfl, by kernel_rfl⟩ ?_ | with_reducible refine obG ?_ | with_reducible refine Ob.mk ?_ ?_ | (with_reducible first | refine brT fun h => ?_ | refine brF fun h => ?_ | refine Br.mk (fun h => ?_) fun h => ?_) <;> (try simp only [bsl, beq_iff_eq, bne_iff_ne, bs2] at h) <;> (try contradiction) <;> try (exfalso; omega))
          rw [show chkAll l = 0 by rw [chkAll, if_pos hc, if_pos h7]]
          exact ⟨rfl, True.intro⟩
theorem checkAll'_ok (l : List Sec) (hl : fewS l) : Pure Tryd.prog 22 [eSecs l] [.int .i64 (chkAll l)] := by
  refine pure_rule hT (T := tab) (N := 6) (rs := [.tmp 2]) Tryd.func22 rfl rfl rfl (by kernel_rfl) rfl ?_
  repeat' (first | with_reducible refine Sq.go ?_ | ((with_reducible refine Ev.mk ?_); conv => whnf) | with_reducible refine Dr.mk ⟨by kernel_rfl, by kernel_rfl⟩ ?_ | with_reducible refine obG ?_ | with_reducible refine Ob.mk ?_ ?_ | (with_reducible first | refine brT fun h => ?_ | refine brF fun h => ?_ | refine Br.mk (fun h => ?_) fun h => ?_) <;> (try simp only [bsl, beq_iff_eq, bne_iff_ne, bs2] at h) <;> (try contradiction) <;> try (exfalso; omega))
  refine (checkAll_ok l hl).call ?_
  repeat' (first | with_reducible refine Sq.go ?_ | ((with_reducible refine Ev.mk ?_); conv => whnf) | with_reducible refine Dr.mk ⟨by kernel_rfl, by kernel_rfl⟩ ?_ | with_reducible refine obG ?_ | with_reducible refine Ob.mk ?_ ?_ | (with_reducible first | refine brT fun h => ?_ | refine brF fun h => ?_ | refine Br.mk (fun h => ?_) fun h => ?_) <;> (try simp only [bsl, beq_iff_eq, bne_iff_ne, bs2] at h) <;> (try contradiction) <;> try (exfalso; omega))
  refine (code_ok _).call ?_
  repeat' (first | with_reducible refine Sq.go ?_ | ((with_reducible refine Ev.mk ?_); conv => whnf) | with_reducible refine Dr.mk ⟨by kernel_rfl, by kernel_rfl⟩ ?_ | with_reducible refine obG ?_ | with_reducible refine Ob.mk ?_ ?_ | (with_reducible first | refine brT fun h => ?_ | refine brF fun h => ?_ | refine Br.mk (fun h => ?_) fun h => ?_) <;> (try simp only [bsl, beq_iff_eq, bne_iff_ne, bs2] at h) <;> (try contradiction) <;> try (exfalso; omega))
  refine ⟨congrArg (D.int .i64) ?_, True.intro⟩
  rfl
end Go.Proofs.YtfbjlakcolipaaaDoor
