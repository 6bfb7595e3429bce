/-
  Chapter 23: meetings.
-/
import Derived.Test.YtfbjlakcolipaaaDoorBas
namespace Go.Proofs.YtfbjlakcolipaaaDoor
set_option linter.unusedSimpArgs false
set_option linter.unusedVariables false
open Go Go.Ab
set_option maxRecDepth 100000
set_option maxHeartbeats 0
structure Meet where
  day : Int
  fr : Int
  to : Int
  first : Int
  last : Int
  deriving Inhabited, DecidableEq
def eMeet (s : Meet) : List D := [.int .i64 s.day, .int .i64 s.fr, .int .i64 s.to, .int .i64 s.first, .int .i64 s.last]
def eMeets (xs : List Meet) : D := .sl 5 xs.length fun i => eMeet (xs.getD i default)
def mvalid (s : Meet) : Bool := decide (0 ≤ s.day) && decide (s.day < 7) && decide (0 ≤ s.fr) && decide (s.fr < s.to) && decide (s.to ≤ 1440) && decide (0 ≤ s.first) && decide (s.first ≤ s.last) && decide (s.last < 60)
theorem mvalid_ok (s : Meet) : Pure Tryd.prog 62 [.agg (eMeet s)] [.bool (mvalid s)] := by
  refine pure_rule hT (T := tab) (N := 45) (rs := [.tmp 2]) Tryd.func62 rfl rfl rfl (by kernel_rfl) rfl ?_
  repeat' (first | with_reducible refine Sq.go ?_ | ((with_reducible refine Ev.mk ?_); conv => whnf) | with_reducible refine Dr.mk ⟨by kernel_rfl, by kernel_rfl⟩ ?_ | with_reducible refine obG ?_ | with_reducible refine Ob.mk ?_ ?_ | (with_reducible first | refine brT fun h => ?_ | refine brF fun h => ?_ | refine Br.mk (fun h => ?_) fun h => ?_) <;> (try simp only [bsl, beq_iff_eq, bne_iff_ne, bs2] at h) <;> (try contradiction) <;> try (exfalso; omega))
  refine ⟨congrArg D.bool ?_, True.intro⟩
  simp only [mvalid, Bool.cond_false_right]
def mover (s t : Meet) : Bool := decide (s.day = t.day) && decide (max s.fr t.fr < min s.to t.to) && decide (max s.first t.first ≤ min s.last t.last)
theorem mover_ok (s t : Meet) : Pure Tryd.prog 55 [.agg (eMeet s), .agg (eMeet t)] [.bool (mover s t)] := by
  refine pure_rule hT (T := tab) (N := 36) (rs := [.tmp 4]) Tryd.func55 rfl rfl rfl (by kernel_rfl) rfl ?_
  repeat' (first | with_reducible refine Sq.go ?_ | ((with_reducible refine Ev.mk ?_); conv => whnf) | with_reducible refine Dr.mk ⟨by kernel_rfl, by kernel_rfl⟩ ?_ | with_reducible refine obG ?_ | with_reducible refine Ob.mk ?_ ?_ | (with_reducible first | refine brT fun h => ?_ | refine brF fun h => ?_ | refine Br.mk (fun h => ?_) fun h => ?_) <;> (try simp only [bsl, beq_iff_eq, bne_iff_ne, bs2] at h) <;> (try contradiction) <;> try (exfalso; omega))
  refine ⟨congrArg D.bool ?_, True.intro⟩
  simp only [mover, Bool.cond_false_right, Int.max_def, Int.min_def]
  rfl
theorem pairs_ok (xs : List Meet) : CallVC Tryd.prog 63 [.d (eMeets xs)] ⟨[], []⟩
    (Ret (fun _ : Unit => ([.fn (.func 71) [] [.ptr (.loc 0) 0 0 0]], ⟨[some (.box 41 [.d (eMeets xs)])], []⟩)) fun _ => True) := by
  refine call_rule hT (T := tab) (N := 4) (rs := [.tmp 2]) _ _ Tryd.func63 rfl rfl rfl (by kernel_rfl) rfl ?_
  repeat' (first | with_reducible refine Sq.go ?_ | ((with_reducible refine Ev.mk ?_); conv => whnf) | with_reducible refine Dr.mk ⟨by kernel_rfl, by kernel_rfl⟩ ?_ | with_reducible refine obG ?_ | with_reducible refine Ob.mk ?_ ?_ | (with_reducible first | refine brT fun h => ?_ | refine brF fun h => ?_ | refine Br.mk (fun h => ?_) fun h => ?_) <;> (try simp only [bsl, beq_iff_eq, bne_iff_ne, bs2] at h) <;> (try contradiction) <;> try (exfalso; omega))
  exact ⟨(), True.intro, by repeat' (first | exact True.intro | exact rfl | exact Nat.le_refl _ | refine And.intro ?_ ?_), rfl⟩
def ovIn (a : Meet) (l : List Meet) : Bool := l.any (mover a)
def ovAll : List Meet → Bool
  | [] => false
  | a :: r => ovIn a r || ovAll r
/-- What the caller's memory holds: the result's cell, the slice's, the record. -/
def ownP (b : Nat) (r : Loop) (xs : List Meet) (c : Bool) : List (Option Blk) :=
  [some (.box 26 [.d (.int .i64 (bif c then 220 else 0))]), some (.box 41 [.d (eMeets xs)]), some (.loop b (bif c then after r (some .ret) else r) [(2, .ptr (.arg 0) 0 0 0)])]
theorem pairs1_ok (b : Nat) (r : Loop) (xs : List Meet) (hx : xs.length ≤ 16)
    (hy : ∀ a c, YieldVC Tryd.prog b [.d (.agg (eMeet a)), .d (.agg (eMeet c))] ⟨[], ownP b r xs false⟩ (Ret (fun s : Bool => ([.d (.bool (!s))], ⟨[], ownP b r xs s⟩)) fun s => s = mover a c)) :
    CallVC Tryd.prog 71 [.fn (.yield b) [] [], .ptr (.arg 1) 0 0 0] ⟨[], ownP b r xs false⟩ (Ret (fun s : Bool => ([], ⟨[], ownP b r xs s⟩)) fun s => s = ovAll xs) := by
  refine call_rule hT (T := tab) (N := 30) (rs := []) _ _ Tryd.func71 rfl rfl rfl (by kernel_rfl) rfl ?_
  repeat' (first | with_reducible refine Sq.go ?_ | ((with_reducible refine Ev.mk ?_); conv => whnf) | with_reducible refine Dr.mk ⟨by kernel_rfl, by kernel_rfl⟩ ?_ | with_reducible refine obG ?_ | with_reducible refine Ob.mk ?_ ?_ | (with_reducible first | refine brT fun h => ?_ | refine brF fun h => ?_ | refine Br.mk (fun h => ?_) fun h => ?_) <;> (try simp only [bsl, beq_iff_eq, bne_iff_ne, bs2] at h) <;> (try contradiction) <;> try (exfalso; omega))
  refine loop_rule hT (S := Nat) (fun k => ([(0, .fn (.yield b) [] []), (1, .ptr (.arg 1) 0 0 0), (7, .d (eMeets xs)), (8, .d (.int .i64 xs.length)), (9, .d (.int .i64 k))], ⟨[], ownP b r xs false⟩)) (fun k => k ≤ xs.length ∧ ovAll xs = ovAll (xs.drop k)) (fun k => xs.length - k) 0 ?_ ?_ ?_
  · repeat' (first | exact True.intro | exact rfl | exact Nat.le_refl _ | refine And.intro ?_ ?_)
  · exact ⟨Nat.zero_le _, rfl⟩
  · rintro k ⟨hk, hc⟩
    repeat' (first | with_reducible refine Sq.go ?_ | ((with_reducible refine Ev.mk ?_); conv => whnf) | with_reducible refine Dr.mk ⟨by kernel_rfl, by kernel_rfl⟩ ?_ | with_reducible refine obG ?_ | with_reducible refine Ob.mk ?_ ?_ | (with_reducible first | refine brT fun h => ?_ | refine brF fun h => ?_ | refine Br.mk (fun h => ?_) fun h => ?_) <;> (try simp only [bsl, beq_iff_eq, bne_iff_ne, bs2] at h) <;> (try contradiction) <;> try (exfalso; omega))
    · have hd := drop_at (xs := xs) (k := k) (by omega)
      refine loop_rule hT (S := Nat) (fun i => ([(0, .fn (.yield b) [] []), (1, .ptr (.arg 1) 0 0 0), (4, .ptr (.loc 0) 0 0 0), (7, .d (eMeets xs)), (8, .d (.int .i64 xs.length)), (9, .d (.int .i64 k)), (17, .d (.sl 5 (xs.length - (k + 1)) fun i => eMeet (xs.getD (k + 1 + i) default))), (18, .d (.int .i64 ((xs.length - (k + 1) : Nat) : Int))), (19, .d (.int .i64 i))], ⟨[some (.box 102 (up (eMeet (xs.getD k default))))], ownP b r xs false⟩)) (fun i => i ≤ xs.length - (k + 1) ∧ ovAll (xs.drop k) = (ovIn (xs.getD k default) (xs.drop (k + 1 + i)) || ovAll (xs.drop (k + 1)))) (fun i => xs.length - (k + 1) - i) 0 ?_ ?_ ?_
      · repeat' (first | exact True.intro | exact rfl | exact Nat.le_refl _ | refine And.intro ?_ ?_)
      · exact ⟨Nat.zero_le _, by rw [hd, ovAll]⟩
      · rintro i ⟨hi, hci⟩
        repeat' (first | with_reducible refine Sq.go ?_ | ((with_reducible refine Ev.mk ?_); conv => whnf) | with_reducible refine Dr.mk ⟨by kernel_rfl, by kernel_rfl⟩ ?_ | with_reducible refine obG ?_ | with_reducible refine Ob.mk ?_ ?_ | (with_reducible first | refine brT fun h => ?_ | refine brF fun h => ?_ | refine Br.mk (fun h => ?_) fun h => ?_) <;> (try simp only [bsl, beq_iff_eq, bne_iff_ne, bs2] at h) <;> (try contradiction) <;> try (exfalso; omega))
        · have hd2 := drop_at (xs := xs) (k := k + 1 + i) (by omega)
          refine (hy (xs.getD k default) (xs.getD (k + 1 + i) default)).at [.arg 0, .arg 1, .arg 2] rfl ⟨rfl, rfl, rfl, True.intro⟩ (fun s hs => ⟨rfl, ?_⟩)
          cases s
          · repeat' (first | with_reducible refine Sq.go ?_ | ((with_reducible refine Ev.mk ?_); conv => whnf) | with_reducible refine Dr.mk ⟨by kernel_rfl, by kernel_rfl⟩ ?_ | with_reducible refine obG ?_ | with_reducible refine Ob.mk ?_ ?_ | (with_reducible first | refine brT fun h => ?_ | refine brF fun h => ?_ | refine Br.mk (fun h => ?_) fun h => ?_) <;> (try simp only [bsl, beq_iff_eq, bne_iff_ne, bs2] at h) <;> (try contradiction) <;> try (exfalso; omega))
            refine ⟨i + 1, ⟨by show i + 1 ≤ xs.length - (k + 1); omega, ?_⟩, by show xs.length - (k + 1) - (i + 1) < xs.length - (k + 1) - i; omega, ?_⟩
            · rw [hci, hd2, ovIn, List.any_cons, ← hs, Bool.false_or]
              rfl
            · repeat' (first | exact True.intro | exact rfl | exact Nat.le_refl _ | refine And.intro ?_ ?_)
          · repeat' (first | with_reducible refine Sq.go ?_ | ((with_reducible refine Ev.mk ?_); conv => whnf) | with_reducible refine Dr.mk ⟨by kernel_rfl, by kernel_rfl⟩ ?_ | with_reducible refine obG ?_ | with_reducible refine Ob.mk ?_ ?_ | (with_reducible first | refine brT fun h => ?_ | refine brF fun h => ?_ | refine Br.mk (fun h => ?_) fun h => ?_) <;> (try simp only [bsl, beq_iff_eq, bne_iff_ne, bs2] at h) <;> (try contradiction) <;> try (exfalso; omega))
            refine ⟨true, ?_, by repeat' (first | exact True.intro | exact rfl | exact Nat.le_refl _ | refine And.intro ?_ ?_), rfl⟩
            rw [hc, hci, hd2, ovIn, List.any_cons, ← hs]
            rfl
        · have hi2 : i = xs.length - (k + 1) := by omega
          refine ⟨k + 1, ⟨by show k + 1 ≤ xs.length; omega, ?_⟩, by show xs.length - (k + 1) < xs.length - k; omega, ?_⟩
          · rw [hc, hci, hi2, List.drop_of_length_le (by omega)]
            rfl
          · repeat' (first | exact True.intro | exact rfl | exact Nat.le_refl _ | refine And.intro ?_ ?_)
    · refine ⟨false, ?_, by repeat' (first | exact True.intro | exact rfl | exact Nat.le_refl _ | refine And.intro ?_ ?_), rfl⟩
      rw [hc, List.drop_of_length_le (by omega)]
      rfl
theorem after_none {r : Loop} (h1 : r.state = .ready) (h2 : r.pending = none) : after r none = r := by
  cases r
  simp only at h1 h2
  subst h1; subst h2
  rfl
theorem yieldMono {P : Program} {b : Nat} {args : List AV} {m : Mem} {K K' : AV → Mem → Prop} (h : YieldVC P b args m K) (hk : ∀ A m', K A m' → K' A m') : YieldVC P b args m K' :=
  ⟨fun σ F w vals h1 h2 => by
    obtain ⟨fn, t, a, c, hy, hr⟩ := h.run σ F w vals h1 h2
    exact ⟨fn, t, a, c, hy, hr.mono fun _ _ ⟨v, A, m', σ', F', x, y, z⟩ => ⟨v, A, m', σ', F', x, hk _ _ y, z⟩⟩⟩
/-- What Check answers. -/
def mcheck (xs : List Meet) : Int := if 16 < xs.length then 220 else if xs.all mvalid = true ∧ ovAll xs = false then 0 else 220
theorem meetCheck_ok (xs : List Meet) : Pure Tryd.prog 53 [eMeets xs] [.int .i64 (mcheck xs)] := by
  refine pure_rule hT (T := tab) (N := 27) (rs := [.cell 2 26]) Tryd.func53 rfl rfl rfl (by kernel_rfl) rfl ?_
  repeat' (first | with_reducible refine Sq.go ?_ | ((with_reducible refine Ev.mk ?_); conv => whnf) | with_reducible refine Dr.mk ⟨by kernel_rfl, by kernel_rfl⟩ ?_ | with_reducible refine obG ?_ | with_reducible refine Ob.mk ?_ ?_ | (with_reducible first | refine brT fun h => ?_ | refine brF fun h => ?_ | refine Br.mk (fun h => ?_) fun h => ?_) <;> (try simp only [bsl, beq_iff_eq, bne_iff_ne, bs2] at h) <;> (try contradiction) <;> try (exfalso; omega))
  · refine ⟨congrArg (D.int .i64) ?_, True.intro⟩
    rw [mcheck, if_pos (by omega)]
  have hx : xs.length ≤ 16 := by omega
  refine loop_rule hT (S := Nat) (fun k => ([(0, .d (eMeets xs)), (2, .ptr (.loc 0) 0 0 0), (10, .d (eMeets xs)), (11, .d (.int .i64 xs.length)), (12, .d (.int .i64 k))], ⟨[some (.box 26 [.d (.int .i64 0)])], []⟩)) (fun k => k ≤ xs.length ∧ xs.all mvalid = (xs.drop k).all mvalid) (fun k => xs.length - k) 0 ?_ ?_ ?_
  · repeat' (first | exact True.intro | exact rfl | exact Nat.le_refl _ | refine And.intro ?_ ?_)
  · exact ⟨Nat.zero_le _, rfl⟩
  · rintro k ⟨hk, hc⟩
    by_cases hk2 : k < xs.length
    · have hd := drop_at (xs := xs) (k := k) hk2
      repeat' (first | with_reducible refine Sq.go ?_ | ((with_reducible refine Ev.mk ?_); conv => whnf) | with_reducible refine Dr.mk ⟨by kernel_rfl, by kernel_rfl⟩ ?_ | with_reducible refine obG ?_ | with_reducible refine Ob.mk ?_ ?_ | (with_reducible first | refine brT fun h => ?_ | refine brF fun h => ?_ | refine Br.mk (fun h => ?_) fun h => ?_) <;> (try simp only [bsl, beq_iff_eq, bne_iff_ne, bs2] at h) <;> (try contradiction) <;> try (exfalso; omega))
      refine (mvalid_ok (xs.getD k default)).call ?_
      cases hv : mvalid (xs.getD k default)
      · repeat' (first | with_reducible refine Sq.go ?_ | ((with_reducible refine Ev.mk ?_); conv => whnf) | with_reducible refine Dr.mk ⟨by kernel_rfl, by kernel_rfl⟩ ?_ | with_reducible refine obG ?_ | with_reducible refine Ob.mk ?_ ?_ | (with_reducible first | refine brT fun h => ?_ | refine brF fun h => ?_ | refine Br.mk (fun h => ?_) fun h => ?_) <;> (try simp only [bsl, beq_iff_eq, bne_iff_ne, bs2] at h) <;> (try contradiction) <;> try (exfalso; omega))
        refine ⟨congrArg (D.int .i64) ?_, True.intro⟩
        rw [mcheck, if_neg (by omega), if_neg]
        rintro ⟨h1, -⟩
        rw [hc, hd, List.all_cons, hv] at h1
        cases h1
      · repeat' (first | with_reducible refine Sq.go ?_ | ((with_reducible refine Ev.mk ?_); conv => whnf) | with_reducible refine Dr.mk ⟨by kernel_rfl, by kernel_rfl⟩ ?_ | with_reducible refine obG ?_ | with_reducible refine Ob.mk ?_ ?_ | (with_reducible first | refine brT fun h => ?_ | refine brF fun h => ?_ | refine Br.mk (fun h => ?_) fun h => ?_) <;> (try simp only [bsl, beq_iff_eq, bne_iff_ne, bs2] at h) <;> (try contradiction) <;> try (exfalso; omega))
        refine ⟨k + 1, ⟨by show k + 1 ≤ xs.length; omega, ?_⟩, by show xs.length - (k + 1) < xs.length - k; omega, ?_⟩
        · rw [hc, hd, List.all_cons, hv]
          rfl
        · repeat' (first | exact True.intro | exact rfl | exact Nat.le_refl _ | refine And.intro ?_ ?_)
    · have hall : xs.all mvalid = true := by rw [hc, List.drop_of_length_le (by omega)]; rfl
      repeat' (first | with_reducible refine Sq.go ?_ | ((with_reducible refine Ev.mk ?_); conv => whnf) | with_reducible refine Dr.mk ⟨by kernel_rfl, by kernel_rfl⟩ ?_ | with_reducible refine obG ?_ | with_reducible refine Ob.mk ?_ ?_ | (with_reducible first | refine brT fun h => ?_ | refine brF fun h => ?_ | refine Br.mk (fun h => ?_) fun h => ?_) <;> (try simp only [bsl, beq_iff_eq, bne_iff_ne, bs2] at h) <;> (try contradiction) <;> try (exfalso; omega))
      refine (pairs_ok xs).at [] rfl True.intro (fun _ _ => ⟨rfl, ?_⟩)
      repeat' (first | with_reducible refine Sq.go ?_ | ((with_reducible refine Ev.mk ?_); conv => whnf) | with_reducible refine Dr.mk ⟨by kernel_rfl, by kernel_rfl⟩ ?_ | with_reducible refine obG ?_ | with_reducible refine Ob.mk ?_ ?_ | (with_reducible first | refine brT fun h => ?_ | refine brF fun h => ?_ | refine Br.mk (fun h => ?_) fun h => ?_) <;> (try simp only [bsl, beq_iff_eq, bne_iff_ne, bs2] at h) <;> (try contradiction) <;> try (exfalso; omega))
      refine Awp.range (caps := [.ptr (.loc 1) 0 0 0]) [(2, .ptr (.loc 0) 0 0 0)] (.inl rfl) (nl := 2) (na := 0) ⟨⟨rfl, rfl⟩, True.intro⟩ ?_
      intro b r h1 h2 h3 h4 h5 h6
      refine (pairs1_ok b r xs hx ?_).at [.loc 0, .loc 1, .loc 2] rfl ⟨rfl, rfl, rfl, True.intro⟩ (fun s hs => ⟨rfl, ?_⟩)
      · intro a c
        refine yieldMono (yield_rule (N := 27) (ps := [22, 23]) (args := [.d (.agg (eMeet a)), .d (.agg (eMeet c))]) (bs := [some (.box 26 [.d (.int .i64 0)]), some (.box 41 [.d (eMeets xs)])]) (env0 := [(2, .ptr (.arg 0) 0 0 0)])
          (fun s : Bool => [some (.box 26 [.d (.int .i64 (bif s then 220 else 0))]), some (.box 41 [.d (eMeets xs)])]) (fun s : Bool => bif s then some .ret else none) (fun s => s = mover a c) h1 h3 h4 h5 h6 rfl (by simp) ?_ rfl rfl ?_) ?_
        · repeat' (first | exact True.intro | exact rfl | exact Nat.le_refl _ | refine And.intro ?_ ?_)
        · refine Awp.of_vc hT ?_
          repeat' (first | with_reducible refine Sq.go ?_ | ((with_reducible refine Ev.mk ?_); conv => whnf) | with_reducible refine Dr.mk ⟨by kernel_rfl, by kernel_rfl⟩ ?_ | with_reducible refine obG ?_ | with_reducible refine Ob.mk ?_ ?_ | (with_reducible first | refine brT fun h => ?_ | refine brF fun h => ?_ | refine Br.mk (fun h => ?_) fun h => ?_) <;> (try simp only [bsl, beq_iff_eq, bne_iff_ne, bs2] at h) <;> (try contradiction) <;> try (exfalso; omega))
          refine Awp.of_vc hT ?_
          repeat' (first | with_reducible refine Sq.go ?_ | ((with_reducible refine Ev.mk ?_); conv => whnf) | with_reducible refine Dr.mk ⟨by kernel_rfl, by kernel_rfl⟩ ?_ | with_reducible refine obG ?_ | with_reducible refine Ob.mk ?_ ?_ | (with_reducible first | refine brT fun h => ?_ | refine brF fun h => ?_ | refine Br.mk (fun h => ?_) fun h => ?_) <;> (try simp only [bsl, beq_iff_eq, bne_iff_ne, bs2] at h) <;> (try contradiction) <;> try (exfalso; omega))
          refine (mover_ok a c).call ?_
          cases hm : mover a c
          · repeat' (first | with_reducible refine Sq.go ?_ | ((with_reducible refine Ev.mk ?_); conv => whnf) | with_reducible refine Dr.mk ⟨by kernel_rfl, by kernel_rfl⟩ ?_ | with_reducible refine obG ?_ | with_reducible refine Ob.mk ?_ ?_ | (with_reducible first | refine brT fun h => ?_ | refine brF fun h => ?_ | refine Br.mk (fun h => ?_) fun h => ?_) <;> (try simp only [bsl, beq_iff_eq, bne_iff_ne, bs2] at h) <;> (try contradiction) <;> try (exfalso; omega))
            exact ⟨false, rfl, rfl, rfl, by repeat' (first | exact True.intro | exact rfl | exact Nat.le_refl _ | refine And.intro ?_ ?_)⟩
          · repeat' (first | with_reducible refine Sq.go ?_ | ((with_reducible refine Ev.mk ?_); conv => whnf) | with_reducible refine Dr.mk ⟨by kernel_rfl, by kernel_rfl⟩ ?_ | with_reducible refine obG ?_ | with_reducible refine Ob.mk ?_ ?_ | (with_reducible first | refine brT fun h => ?_ | refine brF fun h => ?_ | refine Br.mk (fun h => ?_) fun h => ?_) <;> (try simp only [bsl, beq_iff_eq, bne_iff_ne, bs2] at h) <;> (try contradiction) <;> try (exfalso; omega))
            exact ⟨true, rfl, rfl, rfl, by repeat' (first | exact True.intro | exact rfl | exact Nat.le_refl _ | refine And.intro ?_ ?_)⟩
        · rintro A m' ⟨s, hJ, rfl, rfl⟩
          refine ⟨s, hJ, by cases s <;> rfl, ?_⟩
          cases s
          · show (⟨[], [some _, some _, some (.loop b (after r none) _)]⟩ : Mem) = _
            rw [after_none h1 h2]
            rfl
          · rfl
      · cases s
        · repeat' (first | with_reducible refine Sq.go ?_ | ((with_reducible refine Ev.mk ?_); conv => whnf) | with_reducible refine Dr.mk ⟨by kernel_rfl, by kernel_rfl⟩ ?_ | with_reducible refine obG ?_ | with_reducible refine Ob.mk ?_ ?_ | (with_reducible first | refine brT fun h => ?_ | refine brF fun h => ?_ | refine Br.mk (fun h => ?_) fun h => ?_) <;> (try simp only [bsl, beq_iff_eq, bne_iff_ne, bs2] at h) <;> (try contradiction) <;> try (exfalso; omega))
          refine ⟨none, by rw [after_none h1 h2]; rfl, ?_⟩
          show Sq _ _
          repeat' (first | with_reducible refine Sq.go ?_ | ((with_reducible refine Ev.mk ?_); conv => whnf) | with_reducible refine Dr.mk ⟨by kernel_rfl, by kernel_rfl⟩ ?_ | with_reducible refine obG ?_ | with_reducible refine Ob.mk ?_ ?_ | (with_reducible first | refine brT fun h => ?_ | refine brF fun h => ?_ | refine Br.mk (fun h => ?_) fun h => ?_) <;> (try simp only [bsl, beq_iff_eq, bne_iff_ne, bs2] at h) <;> (try contradiction) <;> try (exfalso; omega))
          refine ⟨congrArg (D.int .i64) ?_, True.intro⟩
          rw [mcheck, if_neg (by omega), if_pos ⟨hall, hs.symm⟩]
        · repeat' (first | with_reducible refine Sq.go ?_ | ((with_reducible refine Ev.mk ?_); conv => whnf) | with_reducible refine Dr.mk ⟨by kernel_rfl, by kernel_rfl⟩ ?_ | with_reducible refine obG ?_ | with_reducible refine Ob.mk ?_ ?_ | (with_reducible first | refine brT fun h => ?_ | refine brF fun h => ?_ | refine Br.mk (fun h => ?_) fun h => ?_) <;> (try simp only [bsl, beq_iff_eq, bne_iff_ne, bs2] at h) <;> (try contradiction) <;> try (exfalso; omega))
          refine ⟨some .ret, rfl, ?_⟩
          refine Awp.of_vc hT ?_
          repeat' (first | with_reducible refine Sq.go ?_ | ((with_reducible refine Ev.mk ?_); conv => whnf) | with_reducible refine Dr.mk ⟨by kernel_rfl, by kernel_rfl⟩ ?_ | with_reducible refine obG ?_ | with_reducible refine Ob.mk ?_ ?_ | (with_reducible first | refine brT fun h => ?_ | refine brF fun h => ?_ | refine Br.mk (fun h => ?_) fun h => ?_) <;> (try simp only [bsl, beq_iff_eq, bne_iff_ne, bs2] at h) <;> (try contradiction) <;> try (exfalso; omega))
          refine ⟨congrArg (D.int .i64) ?_, True.intro⟩
          rw [mcheck, if_neg (by omega), if_neg (fun h => by have := hs.trans h.2; cases this)]
          rfl
end Go.Proofs.YtfbjlakcolipaaaDoor
