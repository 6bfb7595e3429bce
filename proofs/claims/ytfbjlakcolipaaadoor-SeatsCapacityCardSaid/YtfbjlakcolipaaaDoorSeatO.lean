/-
  Seats: a step's groups; Take.
-/
import Derived.Test.YtfbjlakcolipaaaDoorSeatM
import Derived.Test.YtfbjlakcolipaaaDoorSeatN
namespace Go.Proofs.YtfbjlakcolipaaaDoor
set_option linter.unusedSimpArgs false
set_option linter.unusedVariables false
open Go Go.Ab
set_option maxRecDepth 100000
set_option maxHeartbeats 0
structure Step where
  student : Int
  sec : Int
  lab : Int
  now : Int
  groups : Int
  leave : Bool
instance : Inhabited Step := ⟨⟨0, 0, 0, 0, 0, false⟩⟩
def eStep (s : Step) : List D := [.int .i64 s.student, .int .i64 s.sec, .int .i64 s.lab, .int .i64 s.now, .int .u8 s.groups, .bool s.leave]
def bitN (n g : Int) : Int := IntKind.u8.wrap ((BitVec.ofInt IntKind.u8.bits (n.fdiv (2 ^ min g.toNat IntKind.u8.bits)) &&& BitVec.ofInt IntKind.u8.bits 1).toNat : Int)
def bitsL (n : Int) : Nat → List Int
  | 0 => []
  | k + 1 => if bitN n k = 1 then bitsL n k ++ [(k : Int)] else bitsL n k
theorem bitsL_len (n : Int) : ∀ k : Nat, (bitsL n k).length ≤ k
  | 0 => Nat.le_refl _
  | k + 1 => by
    have := bitsL_len n k
    unfold bitsL
    split
    · rw [len_snoc]; omega
    · omega
theorem bitsL_mem (n : Int) : ∀ (k : Nat) (g : Int), g ∈ bitsL n k → 0 ≤ g ∧ g < k ∧ bitN n g = 1
  | 0, g, h => by cases h
  | k + 1, g, h => by
    unfold bitsL at h
    split at h
    · rename_i h1
      rcases List.mem_append.1 h with h | h
      · have := bitsL_mem n k g h
        exact ⟨this.1, by omega, this.2.2⟩
      · rw [List.mem_singleton] at h
        subst h
        exact ⟨by omega, by omega, h1⟩
    · have := bitsL_mem n k g h
      exact ⟨this.1, by omega, this.2.2⟩
theorem grpsB_snoc {x : Int} : ∀ {l : List Int} {last : Int}, grpsB last l = true → (∀ g ∈ l, g < x) → last < x → x < 8 → grpsB last (l ++ [x]) = true
  | [], last, _, _, h2, h3 => by simp [grpsB, h2, h3]
  | y :: r, last, h, h1, h2, h3 => by
    rw [List.cons_append, grpsB]
    rw [grpsB, Bool.and_eq_true] at h
    rw [h.1, Bool.true_and]
    exact grpsB_snoc h.2 (fun g hg => h1 g (List.mem_cons_of_mem _ hg)) (h1 y (List.mem_cons_self ..)) h3
theorem bitsL_grps (n : Int) : ∀ k : Nat, k ≤ 8 → grpsB (-1) (bitsL n k) = true
  | 0, _ => rfl
  | k + 1, hk => by
    have ih := bitsL_grps n k (by omega)
    unfold bitsL
    split
    · exact grpsB_snoc ih (fun g hg => (bitsL_mem n k g hg).2.1) (by omega) (by omega)
    · exact ih
theorem groups_ok (s : Step) : Pure Tryd.prog 14 [.agg (eStep s)] [eInts (bitsL s.groups 8)] := by
  refine pure_rule hT (T := tab) (N := 19) (rs := [.tmp 2]) Tryd.func14 rfl rfl rfl (by kernel_rfl) rfl ?_
  repeat' (first | with_reducible refine Sq.go ?_ | ((with_reducible refine Ev.mk ?_); conv => whnf) | with_reducible refine Dr.mk ⟨by kernel_rfl, by kernel_rfl⟩ ?_ | with_reducible refine obG ?_ | with_reducible refine Ob.mk ?_ ?_ | (with_reducible first | refine brT fun h => ?_ | refine brF fun h => ?_ | refine Br.mk (fun h => ?_) fun h => ?_) <;> (try simp only [bsl, beq_iff_eq, bne_iff_ne, bs2] at h) <;> (try contradiction) <;> try (exfalso; omega))
  refine Awp.vec 2 3 1 (fun _ => []) rfl ?_
  refine loop_rule hT (S := Nat) (fun k => ([(1, .ptr (.loc 0) 0 0 0), (2, .osl (.loc 1) (bitsL s.groups k).length 0 (bitsL s.groups k).length), (4, .d (.int .i64 k))],
      ⟨[some (.box 30 (up (eStep s))), some (.vec 3 1 (bitsL s.groups k).length (bitsL s.groups k).length fun i => [.d (.int .i64 ((bitsL s.groups k).getD i default))])], []⟩)) (fun k => k ≤ 8) (fun k => 8 - k) 0 ?_ ?_ ?_
  · repeat' (first | exact True.intro | exact rfl | exact Nat.le_refl _ | refine And.intro ?_ ?_)
    all_goals (intro i hi; exact absurd hi (Nat.not_lt_zero _))
  · exact Nat.zero_le _
  · intro k hk
    by_cases hk2 : k < 8
    · have hbl := bitsL_len s.groups k
      have hb : bitsL s.groups (k + 1) = if bitN s.groups k = 1 then bitsL s.groups k ++ [(k : Int)] else bitsL s.groups k := rfl
      obtain ⟨B, hB⟩ : ∃ B, bitsL s.groups k = B := ⟨_, rfl⟩
      rw [hB] at hb hbl ⊢
      obtain ⟨bn, hbn⟩ : ∃ bn, bitN s.groups k = bn := ⟨_, rfl⟩
      rw [hbn] at hb
      repeat' (first | with_reducible refine Sq.go ?_ | ((with_reducible refine Ev.mk ?_); conv => whnf) | with_reducible refine Dr.mk ⟨by kernel_rfl, by kernel_rfl⟩ ?_ | with_reducible refine obG ?_ | with_reducible refine Ob.mk ?_ ?_ | (with_reducible first | refine brT fun h => ?_ | refine brF fun h => ?_ | refine Br.mk (fun h => ?_) fun h => ?_) <;> (try simp only [bsl, beq_iff_eq, bne_iff_ne, bs2] at h) <;> (try contradiction) <;> try (exfalso; omega))
      refine op_shr rfl rfl rfl (by omega) ?_
      repeat' (first | with_reducible refine Sq.go ?_ | ((with_reducible refine Ev.mk ?_); conv => whnf) | with_reducible refine Dr.mk ⟨by kernel_rfl, by kernel_rfl⟩ ?_ | with_reducible refine obG ?_ | with_reducible refine Ob.mk ?_ ?_ | (with_reducible first | refine brT fun h => ?_ | refine brF fun h => ?_ | refine Br.mk (fun h => ?_) fun h => ?_) <;> (try simp only [bsl, beq_iff_eq, bne_iff_ne, bs2] at h) <;> (try contradiction) <;> try (exfalso; omega))
      refine op_and rfl rfl rfl ?_
      rw [show IntKind.u8.wrap ((BitVec.ofInt IntKind.u8.bits (s.groups.fdiv (2 ^ min (k : Int).toNat IntKind.u8.bits)) &&& BitVec.ofInt IntKind.u8.bits 1).toNat : Int) = bn from hbn]
      by_cases h1 : bn = 1
      · rw [if_pos h1] at hb
        have hyl := len_snoc B (k : Int)
        repeat' (first | with_reducible refine Sq.go ?_ | ((with_reducible refine Ev.mk ?_); conv => whnf) | with_reducible refine Dr.mk ⟨by kernel_rfl, by kernel_rfl⟩ ?_ | with_reducible refine obG ?_ | with_reducible refine Ob.mk ?_ ?_ | (with_reducible first | refine brT fun h => ?_ | refine brF fun h => ?_ | refine Br.mk (fun h => ?_) fun h => ?_) <;> (try simp only [bsl, beq_iff_eq, bne_iff_ne, bs2] at h) <;> (try contradiction) <;> try (exfalso; omega))
        refine ⟨k + 1, by show k + 1 ≤ 8; omega, by show 8 - (k + 1) < 8 - k; omega, ?_⟩
        dsimp only
        rw [hb, hyl]
        repeat' (first | exact True.intro | exact rfl | exact Nat.le_refl _ | refine And.intro ?_ ?_)
        all_goals first
          | (intro i hi; rw [← hyl] at hi; exact ⟨join_snoc (fun x : Int => [.int .i64 x]) _ _ _ rfl i hi, rfl⟩)
          | (intro i hi; exact ⟨rfl, rfl⟩)
      · rw [if_neg h1] at hb
        repeat' (first | with_reducible refine Sq.go ?_ | ((with_reducible refine Ev.mk ?_); conv => whnf) | with_reducible refine Dr.mk ⟨by kernel_rfl, by kernel_rfl⟩ ?_ | with_reducible refine obG ?_ | with_reducible refine Ob.mk ?_ ?_ | (with_reducible first | refine brT fun h => ?_ | refine brF fun h => ?_ | refine Br.mk (fun h => ?_) fun h => ?_) <;> (try simp only [bsl, beq_iff_eq, bne_iff_ne, bs2] at h) <;> (try contradiction) <;> try (exfalso; omega))
        refine ⟨k + 1, by show k + 1 ≤ 8; omega, by show 8 - (k + 1) < 8 - k; omega, ?_⟩
        dsimp only
        rw [hb]
        repeat' (first | exact True.intro | exact rfl | exact Nat.le_refl _ | refine And.intro ?_ ?_)
        all_goals (intro i hi; exact ⟨rfl, rfl⟩)
    · have : k = 8 := by omega
      subst this
      repeat' (first | with_reducible refine Sq.go ?_ | ((with_reducible refine Ev.mk ?_); conv => whnf) | with_reducible refine Dr.mk ⟨by kernel_rfl, by kernel_rfl⟩ ?_ | with_reducible refine obG ?_ | with_reducible refine Ob.mk ?_ ?_ | (with_reducible first | refine brT fun h => ?_ | refine brF fun h => ?_ | refine Br.mk (fun h => ?_) fun h => ?_) <;> (try simp only [bsl, beq_iff_eq, bne_iff_ne, bs2] at h) <;> (try contradiction) <;> try (exfalso; omega))
      exact ⟨⟨rfl, rfl, by rw [Nat.zero_add]; exact Nat.le_refl _, rfl, fun i hi => by rw [Nat.zero_add]; rfl⟩, True.intro⟩
/-- Which groups were looked at. -/
def prevI (l : List Int) (k : Nat) : Int := if k = 0 then -1 else l.getD ((k : Int) - 1).toNat default
theorem prevI_succ (l : List Int) (k : Nat) : prevI l (k + 1) = l.getD k default := by
  rw [prevI, if_neg (by omega), show (((k + 1 : Nat) : Int) - 1).toNat = k by omega]
theorem any_drop {p : Int → Bool} : ∀ {l : List Int}, l.any p = false → ∀ x ∈ l, p x = false := fun {l} h x hx => by
  have := List.any_eq_false.1 h x hx
  simpa using this
theorem okS (ok : Bool) (x k y : Int) : (bif bif bif ok then decide (0 ≤ x) else false then decide (x < 8) else false then (bif decide (k = 0) then true else decide (y < x)) else false) = (ok && decide (0 ≤ x) && decide (x < 8) && (decide (k = 0) || decide (y < x))) := by
  cases ok <;> cases decide (0 ≤ x) <;> cases decide (x < 8) <;> cases decide (k = 0) <;> rfl
theorem Take_ok (l : List Sec) (hl : fewS l) (q : List Seat) (hq : q.length ≤ 800) (st : Int) (b : Bun) (gs : List Int) (hgl : gs.length ≤ 1000) (now : Int) :
    Pure Tryd.prog 13 [eSecs l, eSeats q, .int .i64 st, .agg (eBun b), eInts gs, .int .i64 now] [eSeats (takeT l q st b gs now).1, .int .i64 (takeT l q st b gs now).2] := by
  refine pure_rule hT (T := tab) (N := 102) (rs := [.cell 12 28, .tmp 13]) Tryd.func13 rfl rfl rfl (by kernel_rfl) rfl ?_
  have hA := scheck_ok l hl q (by omega)
  have hB := bcheck_ok l hl b
  have hln : l.length ≤ 1000000 := by have := hl.1; omega
  by_cases h0 : chkT l q = 0
  · rw [h0] at hA
    by_cases h1 : bchk l b = 0
    · rw [h1] at hB
      have hP := partsI_ok b
      have hpl := partsI_len b
      obtain ⟨hpf, hpn, _⟩ := bun_parts h1
      obtain ⟨ps, hps⟩ : ∃ ps, partsI b = ps := ⟨_, rfl⟩
      have hT' : takeT l q st b gs now = if (decide (0 ≤ st) && decide (st < 20000) && grpsB (-1) gs) = true then (if ps.any (tkS q st) = true then ([], (250 : Int)) else (match takeP l st gs now ps q with
          | none => ([], 251)
          | some x => (x, 0))) else ([], 1) := by rw [← hps, takeT, if_pos h0, if_pos h1]; rfl
      rw [hps] at hP hpl hpf hpn
      obtain ⟨b0, hb0⟩ : ∃ b0 : Bool, (decide (0 ≤ st) && decide (st < 20000)) = b0 := ⟨_, rfl⟩
      rw [hb0] at hT'
      have hbe : (bif decide (0 ≤ st) then decide (st < 20000) else false) = b0 := by rw [← hb0]; cases decide (0 ≤ st) <;> rfl
      skip
      repeat' (first | with_reducible refine Sq.go ?_ | ((with_reducible refine Ev.mk ?_); conv => whnf) | with_reducible refine Dr.mk ⟨by kernel_rfl, by kernel_rfl⟩ ?_ | with_reducible refine obG ?_ | with_reducible refine Ob.mk ?_ ?_ | (with_reducible first | refine brT fun h => ?_ | refine brF fun h => ?_ | refine Br.mk (fun h => ?_) fun h => ?_) <;> (try simp only [bsl, beq_iff_eq, bne_iff_ne, bs2] at h) <;> (try contradiction) <;> try (exfalso; omega))
      refine hA.call ?_
      repeat' (first | with_reducible refine Sq.go ?_ | ((with_reducible refine Ev.mk ?_); conv => whnf) | with_reducible refine Dr.mk ⟨by kernel_rfl, by kernel_rfl⟩ ?_ | with_reducible refine obG ?_ | with_reducible refine Ob.mk ?_ ?_ | (with_reducible first | refine brT fun h => ?_ | refine brF fun h => ?_ | refine Br.mk (fun h => ?_) fun h => ?_) <;> (try simp only [bsl, beq_iff_eq, bne_iff_ne, bs2] at h) <;> (try contradiction) <;> try (exfalso; omega))
      refine hB.call ?_
      repeat' (first | with_reducible refine Sq.go ?_ | ((with_reducible refine Ev.mk ?_); conv => whnf) | with_reducible refine Dr.mk ⟨by kernel_rfl, by kernel_rfl⟩ ?_ | with_reducible refine obG ?_ | with_reducible refine Ob.mk ?_ ?_ | (with_reducible first | refine brT fun h => ?_ | refine brF fun h => ?_ | refine Br.mk (fun h => ?_) fun h => ?_) <;> (try simp only [bsl, beq_iff_eq, bne_iff_ne, bs2] at h) <;> (try contradiction) <;> try (exfalso; omega))
      refine loop_rule hT (S := Nat × Bool) (fun z => ([(1, .d (eSeats q)), (6, .ptr (.loc 0) 0 0 0), (8, .ptr (.loc 1) 0 0 0), (9, .ptr (.loc 2) 0 0 0), (10, .ptr (.loc 3) 0 0 0), (11, .ptr (.loc 4) 0 0 0), (12, .ptr (.loc 5) 0 0 0), (16, .d (.bool z.2)), (42, .d (eInts gs)), (43, .d (.int .i64 gs.length)), (44, .d (.int .i64 z.1))],
        ⟨[some (.box 22 [.d (eSecs l)]), some (.box 3 [.d (.int .i64 st)]), some (.box 32 (up (eBun b))), some (.box 36 [.d (eInts gs)]), some (.box 3 [.d (.int .i64 now)]), some (.box 28 [.d .nils])], []⟩
        )) (fun z => z.1 ≤ gs.length ∧ (b0 && grpsB (-1) gs) = (z.2 && grpsB (prevI gs z.1) (gs.drop z.1)) ∧ (z.2 = true → -1 ≤ prevI gs z.1)) (fun z => gs.length - z.1) (0, b0) ?_ ?_ ?_
      · repeat' (first | exact True.intro | exact rfl | exact Nat.le_refl _ | refine And.intro ?_ ?_)
        exact congrArg (fun x => AV.d (D.bool x)) hbe
      · exact ⟨Nat.zero_le _, rfl, fun _ => Int.le_refl _⟩
      · rintro ⟨k, ok⟩ ⟨hk, hc, hp⟩
        dsimp only at hk hc hp ⊢
        by_cases hk2 : k < gs.length
        · rw [drop_at hk2, grpsB, ← prevI_succ gs k] at hc
          cases ok with
          | false =>
            rw [Bool.false_and] at hc
            repeat' (first | with_reducible refine Sq.go ?_ | ((with_reducible refine Ev.mk ?_); conv => whnf) | with_reducible refine Dr.mk ⟨by kernel_rfl, by kernel_rfl⟩ ?_ | with_reducible refine obG ?_ | with_reducible refine Ob.mk ?_ ?_ | (with_reducible first | refine brT fun h => ?_ | refine brF fun h => ?_ | refine Br.mk (fun h => ?_) fun h => ?_) <;> (try simp only [bsl, beq_iff_eq, bne_iff_ne, bs2] at h) <;> (try contradiction) <;> try (exfalso; omega))
            refine ⟨(k + 1, false), ⟨by show k + 1 ≤ gs.length; omega, by rw [hc]; rfl, fun h => by cases h⟩, by show gs.length - (k + 1) < gs.length - k; omega, ?_⟩
            repeat' (first | exact True.intro | exact rfl | exact Nat.le_refl _ | refine And.intro ?_ ?_)
          | true =>
            have hp' := hp rfl
            rw [Bool.true_and, prevI_succ] at hc
            by_cases g1 : gs.getD k default < 0
            · rw [decide_eq_false (show ¬ prevI gs k < gs.getD k default by omega), Bool.false_and, Bool.false_and] at hc
              skip
              repeat' (first | with_reducible refine Sq.go ?_ | ((with_reducible refine Ev.mk ?_); conv => whnf) | with_reducible refine Dr.mk ⟨by kernel_rfl, by kernel_rfl⟩ ?_ | with_reducible refine obG ?_ | with_reducible refine Ob.mk ?_ ?_ | (with_reducible first | refine brT fun h => ?_ | refine brF fun h => ?_ | refine Br.mk (fun h => ?_) fun h => ?_) <;> (try simp only [bsl, beq_iff_eq, bne_iff_ne, bs2] at h) <;> (try contradiction) <;> try (exfalso; omega))
              refine ⟨(k + 1, false), ⟨by show k + 1 ≤ gs.length; omega, by rw [hc]; rfl, fun h => by cases h⟩, by show gs.length - (k + 1) < gs.length - k; omega, ?_⟩
              repeat' (first | exact True.intro | exact rfl | exact Nat.le_refl _ | refine And.intro ?_ ?_)
              exact congrArg (fun x => AV.d (D.bool x)) ((okS true (gs.getD k default) k (gs.getD ((k : Int) - 1).toNat default)).trans (by rw [decide_eq_false (show ¬ 0 ≤ gs.getD k default by omega)]; rfl))
            by_cases g2 : gs.getD k default ≥ 8
            · rw [decide_eq_false (show ¬ gs.getD k default < 8 by omega), Bool.and_false, Bool.false_and] at hc
              skip
              repeat' (first | with_reducible refine Sq.go ?_ | ((with_reducible refine Ev.mk ?_); conv => whnf) | with_reducible refine Dr.mk ⟨by kernel_rfl, by kernel_rfl⟩ ?_ | with_reducible refine obG ?_ | with_reducible refine Ob.mk ?_ ?_ | (with_reducible first | refine brT fun h => ?_ | refine brF fun h => ?_ | refine Br.mk (fun h => ?_) fun h => ?_) <;> (try simp only [bsl, beq_iff_eq, bne_iff_ne, bs2] at h) <;> (try contradiction) <;> try (exfalso; omega))
              refine ⟨(k + 1, false), ⟨by show k + 1 ≤ gs.length; omega, by rw [hc]; rfl, fun h => by cases h⟩, by show gs.length - (k + 1) < gs.length - k; omega, ?_⟩
              repeat' (first | exact True.intro | exact rfl | exact Nat.le_refl _ | refine And.intro ?_ ?_)
              exact congrArg (fun x => AV.d (D.bool x)) ((okS true (gs.getD k default) k (gs.getD ((k : Int) - 1).toNat default)).trans (by rw [decide_eq_false (show ¬ gs.getD k default < 8 by omega), Bool.and_false]; rfl))
            rw [decide_eq_true (show gs.getD k default < 8 by omega), Bool.and_true] at hc
            by_cases g3 : k = 0
            · have hp0 : prevI gs k = -1 := by rw [prevI, if_pos g3]
              rw [decide_eq_true (show prevI gs k < gs.getD k default by omega), Bool.true_and, ← prevI_succ gs k] at hc
              skip
              repeat' (first | with_reducible refine Sq.go ?_ | ((with_reducible refine Ev.mk ?_); conv => whnf) | with_reducible refine Dr.mk ⟨by kernel_rfl, by kernel_rfl⟩ ?_ | with_reducible refine obG ?_ | with_reducible refine Ob.mk ?_ ?_ | (with_reducible first | refine brT fun h => ?_ | refine brF fun h => ?_ | refine Br.mk (fun h => ?_) fun h => ?_) <;> (try simp only [bsl, beq_iff_eq, bne_iff_ne, bs2] at h) <;> (try contradiction) <;> try (exfalso; omega))
              refine ⟨(k + 1, true), ⟨by show k + 1 ≤ gs.length; omega, hc, fun _ => by show -1 ≤ prevI gs (k + 1); rw [prevI_succ]; omega⟩, by show gs.length - (k + 1) < gs.length - k; omega, ?_⟩
              repeat' (first | exact True.intro | exact rfl | exact Nat.le_refl _ | refine And.intro ?_ ?_)
              exact congrArg (fun x => AV.d (D.bool x)) ((okS true (gs.getD k default) k (gs.getD ((k : Int) - 1).toNat default)).trans (by rw [decide_eq_true (show 0 ≤ gs.getD k default by omega), decide_eq_true (show gs.getD k default < 8 by omega), decide_eq_true (show (k : Int) = 0 by omega)]; rfl))
            · have he : prevI gs k = gs.getD ((k : Int) - 1).toNat default := by rw [prevI, if_neg g3]
              rw [he] at hc hp'
              by_cases g4 : gs.getD ((k : Int) - 1).toNat default < gs.getD k default
              · rw [decide_eq_true g4, Bool.true_and, ← prevI_succ gs k] at hc
                skip
                repeat' (first | with_reducible refine Sq.go ?_ | ((with_reducible refine Ev.mk ?_); conv => whnf) | with_reducible refine Dr.mk ⟨by kernel_rfl, by kernel_rfl⟩ ?_ | with_reducible refine obG ?_ | with_reducible refine Ob.mk ?_ ?_ | (with_reducible first | refine brT fun h => ?_ | refine brF fun h => ?_ | refine Br.mk (fun h => ?_) fun h => ?_) <;> (try simp only [bsl, beq_iff_eq, bne_iff_ne, bs2] at h) <;> (try contradiction) <;> try (exfalso; omega))
                refine ⟨(k + 1, true), ⟨by show k + 1 ≤ gs.length; omega, hc, fun _ => by show -1 ≤ prevI gs (k + 1); rw [prevI_succ]; omega⟩, by show gs.length - (k + 1) < gs.length - k; omega, ?_⟩
                repeat' (first | exact True.intro | exact rfl | exact Nat.le_refl _ | refine And.intro ?_ ?_)
                exact congrArg (fun x => AV.d (D.bool x)) ((okS true (gs.getD k default) k (gs.getD ((k : Int) - 1).toNat default)).trans (by rw [decide_eq_true (show 0 ≤ gs.getD k default by omega), decide_eq_true (show gs.getD k default < 8 by omega), decide_eq_true g4]; exact Bool.or_true _))
              · rw [decide_eq_false g4, Bool.false_and] at hc
                skip
                repeat' (first | with_reducible refine Sq.go ?_ | ((with_reducible refine Ev.mk ?_); conv => whnf) | with_reducible refine Dr.mk ⟨by kernel_rfl, by kernel_rfl⟩ ?_ | with_reducible refine obG ?_ | with_reducible refine Ob.mk ?_ ?_ | (with_reducible first | refine brT fun h => ?_ | refine brF fun h => ?_ | refine Br.mk (fun h => ?_) fun h => ?_) <;> (try simp only [bsl, beq_iff_eq, bne_iff_ne, bs2] at h) <;> (try contradiction) <;> try (exfalso; omega))
                refine ⟨(k + 1, false), ⟨by show k + 1 ≤ gs.length; omega, by rw [hc]; rfl, fun h => by cases h⟩, by show gs.length - (k + 1) < gs.length - k; omega, ?_⟩
                repeat' (first | exact True.intro | exact rfl | exact Nat.le_refl _ | refine And.intro ?_ ?_)
                exact congrArg (fun x => AV.d (D.bool x)) ((okS true (gs.getD k default) k (gs.getD ((k : Int) - 1).toNat default)).trans (by rw [decide_eq_false g4, decide_eq_false (show ¬ (k : Int) = 0 by omega)]; exact Bool.and_false _))
        · rw [drop_end (by omega), grpsB, Bool.and_true] at hc
          rw [hc] at hT'
          cases ok with
          | false =>
            rw [hT', if_neg Bool.false_ne_true]
            repeat' (first | with_reducible refine Sq.go ?_ | ((with_reducible refine Ev.mk ?_); conv => whnf) | with_reducible refine Dr.mk ⟨by kernel_rfl, by kernel_rfl⟩ ?_ | with_reducible refine obG ?_ | with_reducible refine Ob.mk ?_ ?_ | (with_reducible first | refine brT fun h => ?_ | refine brF fun h => ?_ | refine Br.mk (fun h => ?_) fun h => ?_) <;> (try simp only [bsl, beq_iff_eq, bne_iff_ne, bs2] at h) <;> (try contradiction) <;> try (exfalso; omega))
            exact ⟨rfl, rfl, True.intro⟩
          | true =>
            rw [if_pos rfl] at hT'
            rw [Bool.and_eq_true] at hc
            obtain ⟨hbt, hgb⟩ := hc
            rw [hbt, Bool.and_eq_true, decide_eq_true_eq, decide_eq_true_eq] at hb0
            have hgs := grpsB_mem hgb
            repeat' (first | with_reducible refine Sq.go ?_ | ((with_reducible refine Ev.mk ?_); conv => whnf) | with_reducible refine Dr.mk ⟨by kernel_rfl, by kernel_rfl⟩ ?_ | with_reducible refine obG ?_ | with_reducible refine Ob.mk ?_ ?_ | (with_reducible first | refine brT fun h => ?_ | refine brF fun h => ?_ | refine Br.mk (fun h => ?_) fun h => ?_) <;> (try simp only [bsl, beq_iff_eq, bne_iff_ne, bs2] at h) <;> (try contradiction) <;> try (exfalso; omega))
            refine (clone_ok q (by omega)).at [] rfl True.intro (fun g _ => ⟨rfl, ?_⟩)
            repeat' (first | with_reducible refine Sq.go ?_ | ((with_reducible refine Ev.mk ?_); conv => whnf) | with_reducible refine Dr.mk ⟨by kernel_rfl, by kernel_rfl⟩ ?_ | with_reducible refine obG ?_ | with_reducible refine Ob.mk ?_ ?_ | (with_reducible first | refine brT fun h => ?_ | refine brF fun h => ?_ | refine Br.mk (fun h => ?_) fun h => ?_) <;> (try simp only [bsl, beq_iff_eq, bne_iff_ne, bs2] at h) <;> (try contradiction) <;> try (exfalso; omega))
            refine hP.call ?_
            repeat' (first | with_reducible refine Sq.go ?_ | ((with_reducible refine Ev.mk ?_); conv => whnf) | with_reducible refine Dr.mk ⟨by kernel_rfl, by kernel_rfl⟩ ?_ | with_reducible refine obG ?_ | with_reducible refine Ob.mk ?_ ?_ | (with_reducible first | refine brT fun h => ?_ | refine brF fun h => ?_ | refine Br.mk (fun h => ?_) fun h => ?_) <;> (try simp only [bsl, beq_iff_eq, bne_iff_ne, bs2] at h) <;> (try contradiction) <;> try (exfalso; omega))
            refine loop_rule hT (S := Nat) (fun k => ([(1, .d (eSeats q)), (8, .ptr (.loc 1) 0 0 0), (9, .ptr (.loc 2) 0 0 0), (12, .ptr (.loc 5) 0 0 0), (19, .fn (.func 28) [] [.ptr (.loc 0) 0 0 0, .ptr (.loc 5) 0 0 0, .ptr (.loc 4) 0 0 0, .ptr (.loc 1) 0 0 0, .ptr (.loc 3) 0 0 0]), (78, .d (eInts ps)), (79, .d (.int .i64 ps.length)), (80, .d (.int .i64 k))],
              ⟨[some (.box 22 [.d (eSecs l)]), some (.box 3 [.d (.int .i64 st)]), some (.box 32 (up (eBun b))), some (.box 36 [.d (eInts gs)]), some (.box 3 [.d (.int .i64 now)]), some (.box 28 [.osl (.loc 6) g 0 q.length]), some (.vec 40 3 g q.length (rowsS q))], []⟩
              )) (fun k => k ≤ ps.length ∧ ps.any (tkS q st) = (ps.drop k).any (tkS q st)) (fun k => ps.length - k) 0 ?_ ?_ ?_
            · repeat' (first | exact True.intro | exact rfl | exact Nat.le_refl _ | refine And.intro ?_ ?_)
              all_goals (intro i hi; exact ⟨rfl, rfl⟩)
            · exact ⟨Nat.zero_le _, rfl⟩
            · rintro k ⟨hk, hc⟩
              by_cases hk2 : k < ps.length
              · rw [drop_at hk2, List.any_cons] at hc
                have hH := has_ok q (by omega) st (ps.getD k default)
                cases hh : tkS q st (ps.getD k default)
                · rw [hh] at hH hc
                  rw [Bool.false_or] at hc
                  repeat' (first | with_reducible refine Sq.go ?_ | ((with_reducible refine Ev.mk ?_); conv => whnf) | with_reducible refine Dr.mk ⟨by kernel_rfl, by kernel_rfl⟩ ?_ | with_reducible refine obG ?_ | with_reducible refine Ob.mk ?_ ?_ | (with_reducible first | refine brT fun h => ?_ | refine brF fun h => ?_ | refine Br.mk (fun h => ?_) fun h => ?_) <;> (try simp only [bsl, beq_iff_eq, bne_iff_ne, bs2] at h) <;> (try contradiction) <;> try (exfalso; omega))
                  refine hH.call ?_
                  repeat' (first | with_reducible refine Sq.go ?_ | ((with_reducible refine Ev.mk ?_); conv => whnf) | with_reducible refine Dr.mk ⟨by kernel_rfl, by kernel_rfl⟩ ?_ | with_reducible refine obG ?_ | with_reducible refine Ob.mk ?_ ?_ | (with_reducible first | refine brT fun h => ?_ | refine brF fun h => ?_ | refine Br.mk (fun h => ?_) fun h => ?_) <;> (try simp only [bsl, beq_iff_eq, bne_iff_ne, bs2] at h) <;> (try contradiction) <;> try (exfalso; omega))
                  refine ⟨k + 1, ⟨by show k + 1 ≤ ps.length; omega, hc⟩, by show ps.length - (k + 1) < ps.length - k; omega, ?_⟩
                  repeat' (first | exact True.intro | exact rfl | exact Nat.le_refl _ | refine And.intro ?_ ?_)
                  all_goals (intro i hi; exact ⟨rfl, rfl⟩)
                · rw [hh] at hH hc
                  rw [Bool.true_or] at hc
                  rw [if_pos hc] at hT'
                  rw [hT']
                  repeat' (first | with_reducible refine Sq.go ?_ | ((with_reducible refine Ev.mk ?_); conv => whnf) | with_reducible refine Dr.mk ⟨by kernel_rfl, by kernel_rfl⟩ ?_ | with_reducible refine obG ?_ | with_reducible refine Ob.mk ?_ ?_ | (with_reducible first | refine brT fun h => ?_ | refine brF fun h => ?_ | refine Br.mk (fun h => ?_) fun h => ?_) <;> (try simp only [bsl, beq_iff_eq, bne_iff_ne, bs2] at h) <;> (try contradiction) <;> try (exfalso; omega))
                  refine hH.call ?_
                  repeat' (first | with_reducible refine Sq.go ?_ | ((with_reducible refine Ev.mk ?_); conv => whnf) | with_reducible refine Dr.mk ⟨by kernel_rfl, by kernel_rfl⟩ ?_ | with_reducible refine obG ?_ | with_reducible refine Ob.mk ?_ ?_ | (with_reducible first | refine brT fun h => ?_ | refine brF fun h => ?_ | refine Br.mk (fun h => ?_) fun h => ?_) <;> (try simp only [bsl, beq_iff_eq, bne_iff_ne, bs2] at h) <;> (try contradiction) <;> try (exfalso; omega))
                  exact ⟨rfl, rfl, True.intro⟩
              · rw [drop_end (by omega), List.any_nil] at hc
                rw [if_neg (by rw [hc]; exact Bool.false_ne_true)] at hT'
                have hno : ∀ p ∈ ps, tkS q st p = false := any_drop hc
                repeat' (first | with_reducible refine Sq.go ?_ | ((with_reducible refine Ev.mk ?_); conv => whnf) | with_reducible refine Dr.mk ⟨by kernel_rfl, by kernel_rfl⟩ ?_ | with_reducible refine obG ?_ | with_reducible refine Ob.mk ?_ ?_ | (with_reducible first | refine brT fun h => ?_ | refine brF fun h => ?_ | refine Br.mk (fun h => ?_) fun h => ?_) <;> (try simp only [bsl, beq_iff_eq, bne_iff_ne, bs2] at h) <;> (try contradiction) <;> try (exfalso; omega))
                refine hP.call ?_
                repeat' (first | with_reducible refine Sq.go ?_ | ((with_reducible refine Ev.mk ?_); conv => whnf) | with_reducible refine Dr.mk ⟨by kernel_rfl, by kernel_rfl⟩ ?_ | with_reducible refine obG ?_ | with_reducible refine Ob.mk ?_ ?_ | (with_reducible first | refine brT fun h => ?_ | refine brF fun h => ?_ | refine Br.mk (fun h => ?_) fun h => ?_) <;> (try simp only [bsl, beq_iff_eq, bne_iff_ne, bs2] at h) <;> (try contradiction) <;> try (exfalso; omega))
                refine loop_rule hT (S := Nat × Nat × List Seat) (fun z => ([(12, .ptr (.loc 5) 0 0 0), (19, .fn (.func 28) [] [.ptr (.loc 0) 0 0 0, .ptr (.loc 5) 0 0 0, .ptr (.loc 4) 0 0 0, .ptr (.loc 1) 0 0 0, .ptr (.loc 3) 0 0 0]), (90, .d (eInts ps)), (91, .d (.int .i64 ps.length)), (92, .d (.int .i64 z.1))],
                  ⟨[some (.box 22 [.d (eSecs l)]), some (.box 3 [.d (.int .i64 st)]), some (.box 32 (up (eBun b))), some (.box 36 [.d (eInts gs)]), some (.box 3 [.d (.int .i64 now)]), some (.box 28 [.osl (.loc 6) z.2.1 0 z.2.2.length]), some (.vec 40 3 z.2.1 z.2.2.length (rowsS z.2.2))], []⟩
                  )) (fun z => z.1 ≤ ps.length ∧ z.2.2.length ≤ 800 + z.1 ∧ chkT l z.2.2 = 0 ∧ (∀ p ∈ ps.drop z.1, tkS z.2.2 st p = false) ∧ takeP l st gs now ps q = takeP l st gs now (ps.drop z.1) z.2.2) (fun z => ps.length - z.1) (0, g, q) ?_ ?_ ?_
                · repeat' (first | exact True.intro | exact rfl | exact Nat.le_refl _ | refine And.intro ?_ ?_)
                  all_goals (intro i hi; exact ⟨rfl, rfl⟩)
                · exact ⟨Nat.zero_le _, by show q.length ≤ 800 + 0; omega, h0, hno, rfl⟩
                · rintro ⟨k, g', x⟩ ⟨hk, hxl, hxc, hxn, hxt⟩
                  dsimp only at hk hxl hxc hxn hxt ⊢
                  by_cases hk2 : k < ps.length
                  · obtain ⟨p, hpd⟩ : ∃ p, ps.getD k default = p := ⟨_, rfl⟩
                    have hpd' : ps.drop k = p :: ps.drop (k + 1) := by rw [drop_at hk2, hpd]
                    have hpm : p ∈ ps := by rw [← hpd]; exact getD_mem hk2
                    obtain ⟨s, hs⟩ := hpf p hpm
                    have hnd : p ∉ ps.drop (k + 1) := by
                      have := hpn.sublist (List.drop_sublist k ps)
                      rw [hpd'] at this
                      exact (List.nodup_cons.1 this).1
                    rw [hpd'] at hxn hxt
                    rw [takeP, hs, Option.getD_some] at hxt
                    have hxp := hxn p (List.mem_cons_self ..)
                    have hcall := take1_ok l hln x (by omega) st gs (by omega) hgs now p hs (small_of (chkT_iff.1 hxc).1 (findS_id hs).2) (chkT_iff.1 hxc).2.2.1 g'
                    have hchk := fun y => take1_chk (x := y) (now := now) hxc hs hxp hb0 hgs
                    have hsome := fun y => take1_some (s := s) (q := x) (x := y) (st := st) (sec := p) (gs := gs) (now := now)
                    cases ht : take1 s x st p gs now with
                    | none =>
                      rw [ht] at hxt hcall
                      rw [hxt] at hT'
                      rw [hT']
                      subst hpd
                      repeat' (first | with_reducible refine Sq.go ?_ | ((with_reducible refine Ev.mk ?_); conv => whnf) | with_reducible refine Dr.mk ⟨by kernel_rfl, by kernel_rfl⟩ ?_ | with_reducible refine obG ?_ | with_reducible refine Ob.mk ?_ ?_ | (with_reducible first | refine brT fun h => ?_ | refine brF fun h => ?_ | refine Br.mk (fun h => ?_) fun h => ?_) <;> (try simp only [bsl, beq_iff_eq, bne_iff_ne, bs2] at h) <;> (try contradiction) <;> try (exfalso; omega))
                      refine ⟨⟨_, [], [.ptr (.loc 0) 0 0 0, .ptr (.loc 5) 0 0 0, .ptr (.loc 4) 0 0 0, .ptr (.loc 1) 0 0 0, .ptr (.loc 3) 0 0 0], .inl rfl, hcall.at [.loc 0, .loc 5, .loc 4, .loc 1, .loc 3, .loc 6] rfl ⟨rfl, rfl, rfl, rfl, rfl, rfl, True.intro⟩ (fun z hz => ⟨rfl, ?_⟩)⟩⟩
                      dsimp only at hz
                      rw [hz]
                      repeat' (first | with_reducible refine Sq.go ?_ | ((with_reducible refine Ev.mk ?_); conv => whnf) | with_reducible refine Dr.mk ⟨by kernel_rfl, by kernel_rfl⟩ ?_ | with_reducible refine obG ?_ | with_reducible refine Ob.mk ?_ ?_ | (with_reducible first | refine brT fun h => ?_ | refine brF fun h => ?_ | refine Br.mk (fun h => ?_) fun h => ?_) <;> (try simp only [bsl, beq_iff_eq, bne_iff_ne, bs2] at h) <;> (try contradiction) <;> try (exfalso; omega))
                      exact ⟨rfl, rfl, True.intro⟩
                    | some y =>
                      obtain ⟨gg, hyi, _⟩ := hsome y ht
                      have hyc := hchk y ht
                      have hyl : y.length = x.length + 1 := by rw [hyi, insS_len]
                      rw [ht] at hxt hcall
                      subst hpd
                      repeat' (first | with_reducible refine Sq.go ?_ | ((with_reducible refine Ev.mk ?_); conv => whnf) | with_reducible refine Dr.mk ⟨by kernel_rfl, by kernel_rfl⟩ ?_ | with_reducible refine obG ?_ | with_reducible refine Ob.mk ?_ ?_ | (with_reducible first | refine brT fun h => ?_ | refine brF fun h => ?_ | refine Br.mk (fun h => ?_) fun h => ?_) <;> (try simp only [bsl, beq_iff_eq, bne_iff_ne, bs2] at h) <;> (try contradiction) <;> try (exfalso; omega))
                      refine ⟨⟨_, [], [.ptr (.loc 0) 0 0 0, .ptr (.loc 5) 0 0 0, .ptr (.loc 4) 0 0 0, .ptr (.loc 1) 0 0 0, .ptr (.loc 3) 0 0 0], .inl rfl, hcall.at [.loc 0, .loc 5, .loc 4, .loc 1, .loc 3, .loc 6] rfl ⟨rfl, rfl, rfl, rfl, rfl, rfl, True.intro⟩ (fun z hz => ⟨rfl, ?_⟩)⟩⟩
                      obtain ⟨z1, z2, z3⟩ := z
                      obtain ⟨hz1, hz2⟩ := hz
                      dsimp only at hz1 hz2
                      subst hz1
                      subst hz2
                      repeat' (first | with_reducible refine Sq.go ?_ | ((with_reducible refine Ev.mk ?_); conv => whnf) | with_reducible refine Dr.mk ⟨by kernel_rfl, by kernel_rfl⟩ ?_ | with_reducible refine obG ?_ | with_reducible refine Ob.mk ?_ ?_ | (with_reducible first | refine brT fun h => ?_ | refine brF fun h => ?_ | refine Br.mk (fun h => ?_) fun h => ?_) <;> (try simp only [bsl, beq_iff_eq, bne_iff_ne, bs2] at h) <;> (try contradiction) <;> try (exfalso; omega))
                      refine ⟨(k + 1, z1, z2), ⟨by show k + 1 ≤ ps.length; omega, by show z2.length ≤ 800 + (k + 1); omega, hyc, fun p' hp' => ?_, hxt⟩, by show ps.length - (k + 1) < ps.length - k; omega, ?_⟩
                      · show tkS z2 st p' = false
                        rw [hyi, tkS_ins, hxn p' (List.mem_cons_of_mem _ hp'), Bool.or_false, Bool.and_eq_false_iff]
                        exact .inl (decide_eq_false fun e => hnd (by rw [show ps.getD k default = p' from e]; exact hp'))
                      · repeat' (first | exact True.intro | exact rfl | exact Nat.le_refl _ | refine And.intro ?_ ?_)
                        all_goals (intro i hi; exact ⟨rfl, rfl⟩)
                  · rw [drop_end (by omega), takeP] at hxt
                    rw [hxt] at hT'
                    rw [hT']
                    repeat' (first | with_reducible refine Sq.go ?_ | ((with_reducible refine Ev.mk ?_); conv => whnf) | with_reducible refine Dr.mk ⟨by kernel_rfl, by kernel_rfl⟩ ?_ | with_reducible refine obG ?_ | with_reducible refine Ob.mk ?_ ?_ | (with_reducible first | refine brT fun h => ?_ | refine brF fun h => ?_ | refine Br.mk (fun h => ?_) fun h => ?_) <;> (try simp only [bsl, beq_iff_eq, bne_iff_ne, bs2] at h) <;> (try contradiction) <;> try (exfalso; omega))
                    exact ⟨⟨rfl, rfl, by rw [Nat.zero_add]; exact Nat.le_refl _, rfl, fun i hi => by rw [Nat.zero_add]; rfl⟩, rfl, True.intro⟩
    · have hT' : takeT l q st b gs now = ([], bchk l b) := by rw [takeT, if_pos h0, if_neg h1]
      rw [hT']
      skip
      repeat' (first | with_reducible refine Sq.go ?_ | ((with_reducible refine Ev.mk ?_); conv => whnf) | with_reducible refine Dr.mk ⟨by kernel_rfl, by kernel_rfl⟩ ?_ | with_reducible refine obG ?_ | with_reducible refine Ob.mk ?_ ?_ | (with_reducible first | refine brT fun h => ?_ | refine brF fun h => ?_ | refine Br.mk (fun h => ?_) fun h => ?_) <;> (try simp only [bsl, beq_iff_eq, bne_iff_ne, bs2] at h) <;> (try contradiction) <;> try (exfalso; omega))
      refine hA.call ?_
      repeat' (first | with_reducible refine Sq.go ?_ | ((with_reducible refine Ev.mk ?_); conv => whnf) | with_reducible refine Dr.mk ⟨by kernel_rfl, by kernel_rfl⟩ ?_ | with_reducible refine obG ?_ | with_reducible refine Ob.mk ?_ ?_ | (with_reducible first | refine brT fun h => ?_ | refine brF fun h => ?_ | refine Br.mk (fun h => ?_) fun h => ?_) <;> (try simp only [bsl, beq_iff_eq, bne_iff_ne, bs2] at h) <;> (try contradiction) <;> try (exfalso; omega))
      refine hB.call ?_
      repeat' (first | with_reducible refine Sq.go ?_ | ((with_reducible refine Ev.mk ?_); conv => whnf) | with_reducible refine Dr.mk ⟨by kernel_rfl, by kernel_rfl⟩ ?_ | with_reducible refine obG ?_ | with_reducible refine Ob.mk ?_ ?_ | (with_reducible first | refine brT fun h => ?_ | refine brF fun h => ?_ | refine Br.mk (fun h => ?_) fun h => ?_) <;> (try simp only [bsl, beq_iff_eq, bne_iff_ne, bs2] at h) <;> (try contradiction) <;> try (exfalso; omega))
      exact ⟨rfl, rfl, True.intro⟩
  · have hT' : takeT l q st b gs now = ([], chkT l q) := by rw [takeT, if_neg h0]
    rw [hT']
    repeat' (first | with_reducible refine Sq.go ?_ | ((with_reducible refine Ev.mk ?_); conv => whnf) | with_reducible refine Dr.mk ⟨by kernel_rfl, by kernel_rfl⟩ ?_ | with_reducible refine obG ?_ | with_reducible refine Ob.mk ?_ ?_ | (with_reducible first | refine brT fun h => ?_ | refine brF fun h => ?_ | refine Br.mk (fun h => ?_) fun h => ?_) <;> (try simp only [bsl, beq_iff_eq, bne_iff_ne, bs2] at h) <;> (try contradiction) <;> try (exfalso; omega))
    refine hA.call ?_
    repeat' (first | with_reducible refine Sq.go ?_ | ((with_reducible refine Ev.mk ?_); conv => whnf) | with_reducible refine Dr.mk ⟨by kernel_rfl, by kernel_rfl⟩ ?_ | with_reducible refine obG ?_ | with_reducible refine Ob.mk ?_ ?_ | (with_reducible first | refine brT fun h => ?_ | refine brF fun h => ?_ | refine Br.mk (fun h => ?_) fun h => ?_) <;> (try simp only [bsl, beq_iff_eq, bne_iff_ne, bs2] at h) <;> (try contradiction) <;> try (exfalso; omega))
    exact ⟨rfl, rfl, True.intro⟩
end Go.Proofs.YtfbjlakcolipaaaDoor
