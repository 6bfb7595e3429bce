/-
  meeting.Clash; the references of chapters 22 and 23.
-/
import Derived.Test.YtfbjlakcolipaaaDoorSecC
namespace Go.Proofs.YtfbjlakcolipaaaDoor
set_option linter.unusedSimpArgs false
set_option linter.unusedVariables false
open Go Go.Ab
set_option maxRecDepth 100000
set_option maxHeartbeats 0
theorem idxMeet_ok (xs : List Meet) (hx : xs.length ≤ 1000000) (f : FuncId) (f0 : D) (p : Meet → Bool) (hp : ∀ s, s ∈ xs → Pure Tryd.prog f [f0, .agg (eMeet s)] [.bool (p s)]) :
    Pure Tryd.prog 64 [eMeets xs, .fn (.func f) [f0] []] [.int .i64 (ix p xs 0)] := by
  refine pure_rule hT (T := tab) (N := 19) (rs := [.tmp 4]) Tryd.func64 rfl rfl rfl (by kernel_rfl) rfl ?_
  repeat' (first | with_reducible refine Sq.go ?_ | ((with_reducible refine Ev.mk ?_); conv => whnf) | with_reducible refine Dr.mk ⟨by kernel_rfl, by kernel_rfl⟩ ?_ | with_reducible refine obG ?_ | with_reducible refine Ob.mk ?_ ?_ | (with_reducible first | refine brT fun h => ?_ | refine brF fun h => ?_ | refine Br.mk (fun h => ?_) fun h => ?_) <;> (try simp only [bsl, beq_iff_eq, bne_iff_ne, bs2] at h) <;> (try contradiction) <;> try (exfalso; omega))
  refine loop_rule hT (S := Nat) (fun k => ([(0, .d (eMeets xs)), (1, .d (.fn (.func f) [f0] [])), (7, .d (.int .i64 xs.length)), (8, .d (.int .i64 k))], ⟨[], []⟩)) (fun k => k ≤ xs.length ∧ ix p xs 0 = ix p (xs.drop k) k) (fun k => xs.length - k) 0 ?_ ?_ ?_
  · repeat' (first | exact True.intro | exact rfl | exact Nat.le_refl _ | refine And.intro ?_ ?_)
  · exact ⟨Nat.zero_le _, rfl⟩
  · rintro k ⟨hk, hc⟩
    repeat' (first | with_reducible refine Sq.go ?_ | ((with_reducible refine Ev.mk ?_); conv => whnf) | with_reducible refine Dr.mk ⟨by kernel_rfl, by kernel_rfl⟩ ?_ | with_reducible refine obG ?_ | with_reducible refine Ob.mk ?_ ?_ | (with_reducible first | refine brT fun h => ?_ | refine brF fun h => ?_ | refine Br.mk (fun h => ?_) fun h => ?_) <;> (try simp only [bsl, beq_iff_eq, bne_iff_ne, bs2] at h) <;> (try contradiction) <;> try (exfalso; omega))
    · refine ⟨⟨f, [.d f0], [], .inr ⟨[f0], [], rfl, rfl, rfl⟩, (hp (xs.getD k default) (getD_mem (by omega))).call ?_⟩⟩
      repeat' (first | with_reducible refine Sq.go ?_ | ((with_reducible refine Ev.mk ?_); conv => whnf) | with_reducible refine Dr.mk ⟨by kernel_rfl, by kernel_rfl⟩ ?_ | with_reducible refine obG ?_ | with_reducible refine Ob.mk ?_ ?_ | (with_reducible first | refine brT fun h => ?_ | refine brF fun h => ?_ | refine Br.mk (fun h => ?_) fun h => ?_) <;> (try simp only [bsl, beq_iff_eq, bne_iff_ne, bs2] at h) <;> (try contradiction) <;> try (exfalso; omega))
      · refine ⟨congrArg (D.int .i64) ?_, True.intro⟩
        rw [hc, drop_at (by omega), ix, if_pos h]
      · refine ⟨k + 1, ⟨by show k + 1 ≤ xs.length; omega, ?_⟩, by show xs.length - (k + 1) < xs.length - k; omega, ?_⟩
        · rw [hc, drop_at (by omega), ix, if_neg (by rw [h]; exact Bool.false_ne_true)]
          rfl
        · repeat' (first | exact True.intro | exact rfl | exact Nat.le_refl _ | refine And.intro ?_ ?_)
    · refine ⟨congrArg (D.int .i64) ?_, True.intro⟩
      have : k = xs.length := by omega
      rw [hc]
      simp [this, ix]
theorem anyMeet_ok (xs : List Meet) (hx : xs.length ≤ 1000000) (f : FuncId) (f0 : D) (p : Meet → Bool) (hp : ∀ s, s ∈ xs → Pure Tryd.prog f [f0, .agg (eMeet s)] [.bool (p s)]) :
    Pure Tryd.prog 54 [eMeets xs, .fn (.func f) [f0] []] [.bool (xs.any p)] := by
  refine pure_rule hT (T := tab) (N := 9) (rs := [.tmp 4]) Tryd.func54 rfl rfl rfl (by kernel_rfl) rfl ?_
  repeat' (first | with_reducible refine Sq.go ?_ | ((with_reducible refine Ev.mk ?_); conv => whnf) | with_reducible refine Dr.mk ⟨by kernel_rfl, by kernel_rfl⟩ ?_ | with_reducible refine obG ?_ | with_reducible refine Ob.mk ?_ ?_ | (with_reducible first | refine brT fun h => ?_ | refine brF fun h => ?_ | refine Br.mk (fun h => ?_) fun h => ?_) <;> (try simp only [bsl, beq_iff_eq, bne_iff_ne, bs2] at h) <;> (try contradiction) <;> try (exfalso; omega))
  refine (idxMeet_ok xs hx f f0 p hp).call ?_
  repeat' (first | with_reducible refine Sq.go ?_ | ((with_reducible refine Ev.mk ?_); conv => whnf) | with_reducible refine Dr.mk ⟨by kernel_rfl, by kernel_rfl⟩ ?_ | with_reducible refine obG ?_ | with_reducible refine Ob.mk ?_ ?_ | (with_reducible first | refine brT fun h => ?_ | refine brF fun h => ?_ | refine Br.mk (fun h => ?_) fun h => ?_) <;> (try simp only [bsl, beq_iff_eq, bne_iff_ne, bs2] at h) <;> (try contradiction) <;> try (exfalso; omega))
  refine ⟨congrArg D.bool ?_, True.intro⟩
  rw [← ix_ge p xs 0 (by omega)]
/-- Two lists of meetings overlap. -/
def lapM (a b : List Meet) : Bool := a.any fun m => b.any (mover m)
theorem lapM_cons (m : Meet) (r b : List Meet) : lapM (m :: r) b = (b.any (mover m) || lapM r b) := rfl
def clashE (a b : List Meet) : Int := if mcheck a = 0 then mcheck b else mcheck a
def clashB (a b : List Meet) : Bool := decide (clashE a b = 0) && lapM a b
theorem mclash_ok (a b : List Meet) (ha : a.length ≤ 1000) (hb : b.length ≤ 1000) : Pure Tryd.prog 38 [eMeets a, eMeets b] [.bool (clashB a b), .int .i64 (clashE a b)] := by
  refine pure_rule hT (T := tab) (N := 31) (rs := [.tmp 4, .tmp 5]) Tryd.func38 rfl rfl rfl (by kernel_rfl) rfl ?_
  repeat' (first | with_reducible refine Sq.go ?_ | ((with_reducible refine Ev.mk ?_); conv => whnf) | with_reducible refine Dr.mk ⟨by kernel_rfl, by kernel_rfl⟩ ?_ | with_reducible refine obG ?_ | with_reducible refine Ob.mk ?_ ?_ | (with_reducible first | refine brT fun h => ?_ | refine brF fun h => ?_ | refine Br.mk (fun h => ?_) fun h => ?_) <;> (try simp only [bsl, beq_iff_eq, bne_iff_ne, bs2] at h) <;> (try contradiction) <;> try (exfalso; omega))
  refine callZ (meetCheck_ok a) (fun h0 => ?_) (fun h0 => ?_)
  · repeat' (first | with_reducible refine Sq.go ?_ | ((with_reducible refine Ev.mk ?_); conv => whnf) | with_reducible refine Dr.mk ⟨by kernel_rfl, by kernel_rfl⟩ ?_ | with_reducible refine obG ?_ | with_reducible refine Ob.mk ?_ ?_ | (with_reducible first | refine brT fun h => ?_ | refine brF fun h => ?_ | refine Br.mk (fun h => ?_) fun h => ?_) <;> (try simp only [bsl, beq_iff_eq, bne_iff_ne, bs2] at h) <;> (try contradiction) <;> try (exfalso; omega))
    refine callZ (meetCheck_ok b) (fun h1 => ?_) (fun h1 => ?_)
    · have he : clashE a b = 0 := by rw [clashE, if_pos h0, h1]
      have hB : clashB a b = lapM a b := by rw [clashB, he]; rfl
      rw [he, hB]
      repeat' (first | with_reducible refine Sq.go ?_ | ((with_reducible refine Ev.mk ?_); conv => whnf) | with_reducible refine Dr.mk ⟨by kernel_rfl, by kernel_rfl⟩ ?_ | with_reducible refine obG ?_ | with_reducible refine Ob.mk ?_ ?_ | (with_reducible first | refine brT fun h => ?_ | refine brF fun h => ?_ | refine Br.mk (fun h => ?_) fun h => ?_) <;> (try simp only [bsl, beq_iff_eq, bne_iff_ne, bs2] at h) <;> (try contradiction) <;> try (exfalso; omega))
      refine loop_rule hT (S := Nat) (fun k => ([(1, .d (eMeets b)), (20, .d (eMeets a)), (21, .d (.int .i64 a.length)), (22, .d (.int .i64 k))], ⟨[], []⟩)) (fun k => k ≤ a.length ∧ lapM a b = lapM (a.drop k) b) (fun k => a.length - k) 0 ?_ ?_ ?_
      · repeat' (first | exact True.intro | exact rfl | exact Nat.le_refl _ | refine And.intro ?_ ?_)
      · exact ⟨Nat.zero_le _, rfl⟩
      · rintro k ⟨hk, hc⟩
        by_cases hk2 : k < a.length
        · rw [drop_at hk2, lapM_cons] at hc
          repeat' (first | with_reducible refine Sq.go ?_ | ((with_reducible refine Ev.mk ?_); conv => whnf) | with_reducible refine Dr.mk ⟨by kernel_rfl, by kernel_rfl⟩ ?_ | with_reducible refine obG ?_ | with_reducible refine Ob.mk ?_ ?_ | (with_reducible first | refine brT fun h => ?_ | refine brF fun h => ?_ | refine Br.mk (fun h => ?_) fun h => ?_) <;> (try simp only [bsl, beq_iff_eq, bne_iff_ne, bs2] at h) <;> (try contradiction) <;> try (exfalso; omega))
          refine callB (anyMeet_ok b (by omega) 55 (.agg (eMeet (a.getD k default))) (mover (a.getD k default)) (fun s _ => mover_ok _ _)) (fun hw => ?_) (fun hw => ?_)
          · repeat' (first | with_reducible refine Sq.go ?_ | ((with_reducible refine Ev.mk ?_); conv => whnf) | with_reducible refine Dr.mk ⟨by kernel_rfl, by kernel_rfl⟩ ?_ | with_reducible refine obG ?_ | with_reducible refine Ob.mk ?_ ?_ | (with_reducible first | refine brT fun h => ?_ | refine brF fun h => ?_ | refine Br.mk (fun h => ?_) fun h => ?_) <;> (try simp only [bsl, beq_iff_eq, bne_iff_ne, bs2] at h) <;> (try contradiction) <;> try (exfalso; omega))
            refine ⟨k + 1, ⟨by show k + 1 ≤ a.length; omega, ?_⟩, by show a.length - (k + 1) < a.length - k; omega, ?_⟩
            · rw [hc, hw]; rfl
            · repeat' (first | exact True.intro | exact rfl | exact Nat.le_refl _ | refine And.intro ?_ ?_)
          · repeat' (first | with_reducible refine Sq.go ?_ | ((with_reducible refine Ev.mk ?_); conv => whnf) | with_reducible refine Dr.mk ⟨by kernel_rfl, by kernel_rfl⟩ ?_ | with_reducible refine obG ?_ | with_reducible refine Ob.mk ?_ ?_ | (with_reducible first | refine brT fun h => ?_ | refine brF fun h => ?_ | refine Br.mk (fun h => ?_) fun h => ?_) <;> (try simp only [bsl, beq_iff_eq, bne_iff_ne, bs2] at h) <;> (try contradiction) <;> try (exfalso; omega))
            rw [hc, hw]
            exact ⟨rfl, rfl, True.intro⟩
        · rw [drop_end (by omega)] at hc
          repeat' (first | with_reducible refine Sq.go ?_ | ((with_reducible refine Ev.mk ?_); conv => whnf) | with_reducible refine Dr.mk ⟨by kernel_rfl, by kernel_rfl⟩ ?_ | with_reducible refine obG ?_ | with_reducible refine Ob.mk ?_ ?_ | (with_reducible first | refine brT fun h => ?_ | refine brF fun h => ?_ | refine Br.mk (fun h => ?_) fun h => ?_) <;> (try simp only [bsl, beq_iff_eq, bne_iff_ne, bs2] at h) <;> (try contradiction) <;> try (exfalso; omega))
          rw [hc]
          exact ⟨rfl, rfl, True.intro⟩
    · have he : clashE a b = mcheck b := by rw [clashE, if_pos h0]
      have hB : clashB a b = false := by rw [clashB, he, decide_eq_false h1]; rfl
      rw [he, hB]
      repeat' (first | with_reducible refine Sq.go ?_ | ((with_reducible refine Ev.mk ?_); conv => whnf) | with_reducible refine Dr.mk ⟨by kernel_rfl, by kernel_rfl⟩ ?_ | with_reducible refine obG ?_ | with_reducible refine Ob.mk ?_ ?_ | (with_reducible first | refine brT fun h => ?_ | refine brF fun h => ?_ | refine Br.mk (fun h => ?_) fun h => ?_) <;> (try simp only [bsl, beq_iff_eq, bne_iff_ne, bs2] at h) <;> (try contradiction) <;> try (exfalso; omega))
      exact ⟨rfl, rfl, True.intro⟩
  · have he : clashE a b = mcheck a := by rw [clashE, if_neg h0]
    have hB : clashB a b = false := by rw [clashB, he, decide_eq_false h0]; rfl
    rw [he, hB]
    repeat' (first | with_reducible refine Sq.go ?_ | ((with_reducible refine Ev.mk ?_); conv => whnf) | with_reducible refine Dr.mk ⟨by kernel_rfl, by kernel_rfl⟩ ?_ | with_reducible refine obG ?_ | with_reducible refine Ob.mk ?_ ?_ | (with_reducible first | refine brT fun h => ?_ | refine brF fun h => ?_ | refine Br.mk (fun h => ?_) fun h => ?_) <;> (try simp only [bsl, beq_iff_eq, bne_iff_ne, bs2] at h) <;> (try contradiction) <;> try (exfalso; omega))
    exact ⟨rfl, rfl, True.intro⟩
def rover (s t : Meet) : Bool := decide (s.day = t.day) && decide (s.fr < t.to) && decide (t.fr < s.to) && decide (s.first ≤ t.last) && decide (t.first ≤ s.last)
theorem rover_eq {s t : Meet} (hs : mvalid s = true) (ht : mvalid t = true) : rover s t = mover s t := by
  simp only [mvalid, Bool.and_eq_true, decide_eq_true_eq] at hs ht
  rw [Bool.eq_iff_iff]
  simp only [rover, mover, Bool.and_eq_true, decide_eq_true_eq]
  omega
/-- All that stand before overlap with none. -/
def rovl (l : List Meet) : List Meet → Bool
  | [] => false
  | a :: r => l.any (fun b => rover b a) || rovl (l ++ [a]) r
def rmc (l : List Meet) : List Meet → Bool
  | [] => true
  | a :: r => mvalid a && (!(l.any fun b => rover b a)) && rmc (l ++ [a]) r
theorem any_take_succ {l : List Meet} {k : Nat} (hk : k < l.length) (p : Meet → Bool) : (l.take (k + 1)).any p = ((l.take k).any p || p (l.getD k default)) := by
  rw [take_succ_at hk, List.any_append]
  simp
theorem ovAll_snoc (l : List Meet) (a : Meet) : ovAll (l ++ [a]) = (ovAll l || l.any fun b => mover b a) := by
  induction l with
  | nil => rfl
  | cons x r ih =>
    rw [List.cons_append, ovAll, ih, ovAll, List.any_cons]
    simp only [ovIn, List.any_append, List.any_cons, List.any_nil, Bool.or_false]
    cases r.any (mover x) <;> cases mover x a <;> cases ovAll r <;> simp
theorem rmc_eq : ∀ (r l : List Meet), l.all mvalid = true → ovAll l = false → rmc l r = decide ((l ++ r).all mvalid = true ∧ ovAll (l ++ r) = false)
  | [], l, h1, h2 => by simp [rmc, h2]; simpa using h1
  | a :: r, l, h1, h2 => by
    rw [rmc]
    have e : l ++ a :: r = (l ++ [a]) ++ r := by simp
    by_cases ha : mvalid a = true
    · have hr : (l.any fun b => rover b a) = l.any fun b => mover b a := by
        rw [Bool.eq_iff_iff]
        simp only [List.any_eq_true]
        constructor
        · rintro ⟨b, hb, h⟩
          exact ⟨b, hb, by rw [← rover_eq (List.all_eq_true.1 h1 b hb) ha]; exact h⟩
        · rintro ⟨b, hb, h⟩
          exact ⟨b, hb, by rw [rover_eq (List.all_eq_true.1 h1 b hb) ha]; exact h⟩
      rw [hr]
      cases ho : l.any fun b => mover b a
      · rw [ha, rmc_eq r (l ++ [a]) (by simp [ha]; simpa using h1) (by rw [ovAll_snoc, h2, ho]; rfl), e]
        rfl
      · have : ovAll (l ++ a :: r) = true := by
          rw [e]
          have h0 : ovAll (l ++ [a]) = true := by rw [ovAll_snoc, ho, Bool.or_true]
          clear rmc_eq
          generalize l ++ [a] = m at h0
          induction m with
          | nil => cases h0
          | cons x m ih =>
            rw [List.cons_append, ovAll]
            rw [ovAll] at h0
            simp only [ovIn, List.any_append, Bool.or_eq_true] at h0 ⊢
            rcases h0 with h0 | h0
            · exact .inl (.inl h0)
            · exact .inr (ih h0)
        rw [this]
        simp
    · have : (l ++ a :: r).all mvalid = false := by simp [ha]
      rw [this]
      simp [ha]
theorem mcheck_valid {xs : List Meet} (h : mcheck xs = 0) : ∀ m ∈ xs, mvalid m = true := by
  unfold mcheck at h
  split at h
  · cases h
  · split at h
    · rename_i hv; exact List.all_eq_true.1 hv.1
    · cases h
theorem mcheck_len {xs : List Meet} (h : mcheck xs = 0) : xs.length ≤ 16 := by
  unfold mcheck at h
  split at h
  · cases h
  · omega
end Go.Proofs.YtfbjlakcolipaaaDoor
