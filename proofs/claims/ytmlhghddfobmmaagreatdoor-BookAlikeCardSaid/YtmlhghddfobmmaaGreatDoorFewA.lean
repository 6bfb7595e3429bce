/-
  Chapter 14: few definitions and facts.
-/
import Derived.Test.YtmlhghddfobmmaaGreatDoorBookQ
import Derived.Test.YtmlhghddfobmmaaGreatDoorBookJ
namespace Go.Ab
set_option linter.unusedSimpArgs false
set_option linter.unusedVariables false
section
variable {P : Program} {T : Tab} {N : Nat} {w : World} {F : Nat → Prop} {σ : Pls} {m : Mem} {env : Env} {K : AV → Mem → Prop} {o : Oper}
/-- How many bytes a string has, behind a guard or not. -/
theorem op_len_str {x : Operand} {t : TypeId} (hop : o.op = .call { callee := .builtin .len, args := #[x], argTypes := #[t] }) (hu : P.underlying t = some .string) {s : ByteArray} {px : List Prop} (hx : strip (ev env x) = (.d (.str s), px)) (hpx : ∀ p ∈ px, p)
    (hK : K (.d (.int .i64 s.size)) m) : OpVC P o env m K :=
  ⟨fun c h => (by rw [hop] at h; cases h), fun a w F σ hev hm => by
    have hv := strip_ok (ev_ok hev x) (by rw [hx]; exact hpx)
    rw [hx] at hv
    obtain ⟨X, hX⟩ : ∃ X, a.eval x = X := ⟨_, rfl⟩
    rw [hX] at hv
    cases hv with
    | d hv =>
      cases hv with
      | str =>
        refine ⟨_, .int .i64 s.size, w, σ, F, _, _, ?_, .inl rfl, hK, .d .int, hm, Step.refl σ F w, SLe.refl σ⟩
        simp [execOp, hop, hX, resolve, invoke, builtin, Builtin.len_, run_underlying hu, goInt]⟩
end
end Go.Ab
namespace Go.Proofs.YtmlhghddfobmmaaGreatDoor
set_option linter.unusedSimpArgs false
set_option linter.unusedVariables false
open Go Go.Ab
set_option maxRecDepth 100000
set_option maxHeartbeats 0
/-- The parts of a rule, counted up to a limit. -/
def cntX : Nat → Rule → Nat
  | 0, _ => 300
  | f + 1, r => if 300 < r.kids.length then 300 else r.kids.foldl (fun n k => if n < 300 then n + cntX f k else n) 1
def stpX (f : Nat) (n : Nat) (k : Rule) : Nat := if n < 300 then n + cntX f k else n
theorem cntX_succ (f : Nat) (r : Rule) : cntX (f + 1) r = if 300 < r.kids.length then 300 else r.kids.foldl (stpX f) 1 := by
  rw [cntX]
  rfl
theorem stpX_ge (f : Nat) : ∀ (ks : List Rule) (n : Nat), n ≤ ks.foldl (stpX f) n
  | [], n => Nat.le_refl _
  | k :: ks, n => by
    rw [List.foldl_cons]
    refine Nat.le_trans ?_ (stpX_ge f ks _)
    unfold stpX
    split <;> omega
theorem cntX_le : ∀ (f : Nat) (r : Rule), cntX f r ≤ 300 * (f + 1)
  | 0, r => by rw [cntX]; omega
  | f + 1, r => by
    rw [cntX_succ]
    split
    · omega
    · have key : ∀ (ks : List Rule) (n : Nat), n ≤ 300 * (f + 2) → ks.foldl (stpX f) n ≤ 300 * (f + 2) := by
        intro ks
        induction ks with
        | nil => intro n h; exact h
        | cons k ks ih =>
          intro n h
          rw [List.foldl_cons]
          refine ih _ ?_
          have := cntX_le f k
          unfold stpX
          split <;> omega
      exact key _ 1 (by omega)
theorem stpX_le (f : Nat) (ks : List Rule) : ks.foldl (stpX f) 1 ≤ 300 * (f + 2) := by
  have key : ∀ (ks : List Rule) (n : Nat), n ≤ 300 * (f + 2) → ks.foldl (stpX f) n ≤ 300 * (f + 2) := by
    intro ks
    induction ks with
    | nil => intro n h; exact h
    | cons k ks ih =>
      intro n h
      rw [List.foldl_cons]
      refine ih _ ?_
      have := cntX_le f k
      unfold stpX
      split <;> omega
  exact key _ 1 (by omega)
theorem stpX_stop {f : Nat} : ∀ {ks : List Rule} {n : Nat}, 300 ≤ n → ks.foldl (stpX f) n = n
  | [], n, _ => rfl
  | k :: ks, n, h => by
    rw [List.foldl_cons, stpX, if_neg (by omega)]
    exact stpX_stop h
theorem cntX_is : ∀ (f : Nat) (r : Rule), cntX f r < 300 → cntR r = cntX f r
  | 0, r, h => by rw [cntX] at h; omega
  | f + 1, r, h => by
    rw [cntX_succ] at h ⊢
    split at h
    · omega
    · rename_i hk
      rw [if_neg hk, cntR_eq]
      have key : ∀ (ks : List Rule) (n : Nat), ks.foldl (stpX f) n < 300 → ks.foldl (stpX f) n = n + cntRs ks := by
        intro ks
        induction ks with
        | nil => intro n _; rw [cntRs_nil]; rfl
        | cons k ks ih =>
          intro n h
          rw [List.foldl_cons] at h ⊢
          have h1 := ih _ h
          have h2 := stpX_ge f ks (stpX f n k)
          rw [h1, cntRs_cons]
          unfold stpX at h2 ⊢
          split at h2
          · rename_i hn
            have e : stpX f n k = n + cntX f k := by rw [stpX, if_pos hn]
            rw [e] at h
            have h5 := stpX_ge f ks (n + cntX f k)
            have h6 := cntX_is f k (by omega)
            rw [if_pos hn, h6]
            omega
          · rename_i hn
            exfalso
            have e : stpX f n k = n := by rw [stpX, if_neg hn]
            rw [e] at h
            have := stpX_ge f ks n
            omega
      rw [key _ 1 h]
      omega
def fewR (r : Rule) : Bool := decide (cntX 41 r < 250) && decide (r.name.size ≤ 100)
theorem fewR_cnt {r : Rule} (h : fewR r = true) : cntR r ≤ 1000000 := by
  simp only [fewR, Bool.and_eq_true, decide_eq_true_eq] at h
  rw [cntX_is 41 r (by omega)]
  omega
def fewB (b : Bok) : Bool := b.crs.all (fun c => fewR c.need && fewR c.bar) && (b.prg.all (fun p => decide (p.reqs.length ≤ 70)) && (decide (b.crs.length ≤ 16) && (decide (b.prg.length ≤ 8) && decide (b.sys.length ≤ 6))))
def fewW (w : Wor) : Bool := fewB w.bok && decide (w.fcts.length ≤ 40)
theorem count10_ok : ∀ (f : Nat) (r : Rule) (d : Int), wfR r → f ≤ 41 → d = 41 - (f : Int) → Pure Tryz.prog 117 [.agg (eRule r), .int .i64 d] [.int .i64 (cntX f r)]
  | 0, r, d, hw, hf, hd => by
    have hlk := (wfR_kids hw).1.2.2.2.2
    subst hd
    rw [cntX]
    refine pure_rule hT (T := tab) (N := 37) (rs := [.tmp 4]) Tryz.func117 rfl rfl rfl (by kernel_rfl) rfl ?_
    (refine gW ?_; intros)
    exact ⟨rfl, True.intro⟩
  | f + 1, r, d, hw, hf, hd => by
    obtain ⟨hw1, hw2⟩ := wfR_kids hw
    have hlk := hw1.2.2.2.2
    have ih := fun r hw => count10_ok f r (d + 1) hw (by omega) (by omega)
    have hfin := stpX_le f r.kids
    rw [cntX_succ]
    refine pure_rule hT (T := tab) (N := 37) (rs := [.tmp 4]) Tryz.func117 rfl rfl rfl (by kernel_rfl) rfl ?_
    by_cases h3 : 300 < r.kids.length
    · rw [if_pos h3]
      (refine gW ?_; intros)
      exact ⟨rfl, True.intro⟩
    · rw [if_neg h3]
      (refine gW ?_; intros)
      refine loop_rule hT (S := Nat) (fun k => ([(1, .d (.int .i64 d)), (2, .ptr (.loc 0) 0 0 0), (5, .d (.int .i64 (((r.kids.take k).foldl (stpX f) 1 : Nat) : Int))), (6, .d (.int .i64 k))], ⟨[some (.box 66 (up (eRule r)))], []⟩)) (fun k => k ≤ r.kids.length) (fun k => r.kids.length - k) 0 ?_ ?_ ?_
      · rw [List.take_zero, List.foldl_nil]
        repeat' (first | exact True.intro | exact rfl | exact Nat.le_refl _ | refine And.intro ?_ ?_)
      · exact Nat.zero_le _
      · intro k hk
        dsimp only at hk ⊢
        have hcb := stpX_le f (r.kids.take k)
        by_cases hk2 : k < r.kids.length
        · have hts : (r.kids.take (k + 1)).foldl (stpX f) 1 = stpX f ((r.kids.take k).foldl (stpX f) 1) (r.kids.getD k default) := by
            rw [take_succ_at hk2, List.foldl_append]
            rfl
          have hall : r.kids.foldl (stpX f) 1 = (r.kids.drop k).foldl (stpX f) ((r.kids.take k).foldl (stpX f) 1) := by
            rw [← List.foldl_append, List.take_append_drop]
          have hne : r.kids ≠ [] := fun e => by rw [e] at hk2; exact absurd hk2 (Nat.not_lt_zero _)
          have hI := ih _ (hw2 _ (getD_mem hk2))
          have hB := cntX_le f (r.kids.getD k default)
          have er : eRule r = [.int .i64 r.op, .int .i64 r.course, .str r.name, .int .i64 r.n, .int .i64 r.d, .sl 6 r.kids.length fun i => eRule (r.kids.getD i default)] := by
            unfold eRule
            rw [eRules_ne hne]
            rfl
          rw [er]
          obtain ⟨c, hc⟩ : ∃ c, (r.kids.take k).foldl (stpX f) 1 = c := ⟨_, rfl⟩
          rw [hc] at hts hall hcb ⊢
          have kts : Kp _ := ⟨hts⟩
          have kall : Kp _ := ⟨hall⟩
          clear hts hall hc er ih hw2
          by_cases h300 : c < 300
          · have e1 : Kp ((((r.kids.take (k + 1)).foldl (stpX f) 1 : Nat) : Int) = (c : Int) + (cntX f (r.kids.getD k default) : Int)) := ⟨by
              rw [kts.h, stpX, if_pos h300]
              omega⟩
            (refine gW ?_; intros)
            refine hI.call ?_
            (refine gW ?_; intros)
            refine ⟨k + 1, by show k + 1 ≤ r.kids.length; omega, by show r.kids.length - (k + 1) < r.kids.length - k; omega, ?_⟩
            dsimp only
            rw [e1.h]
            repeat' (first | exact True.intro | exact rfl | exact Nat.le_refl _ | refine And.intro ?_ ?_)
          · have e2 : Kp (r.kids.foldl (stpX f) 1 = c) := ⟨by rw [kall.h]; exact stpX_stop (by omega)⟩
            (refine gW ?_; intros)
            rw [e2.h]
            exact ⟨rfl, True.intro⟩
        · have e : r.kids.take k = r.kids := List.take_of_length_le (by omega)
          rw [e]
          (refine gW ?_; intros)
          exact ⟨rfl, True.intro⟩
theorem fewRules_ok (r : Rule) (hw : wfR r) (hn : r.name.size ≤ 9223372036854775807) : Pure Tryz.prog 47 [.agg (eRule r)] [.bool (fewR r)] := by
  have hC := count10_ok 41 r 0 hw (Nat.le_refl _) rfl
  have hB := cntX_le 41 r
  unfold fewR
  refine pure_rule hT (T := tab) (N := 12) (rs := [.tmp 2]) Tryz.func47 rfl rfl rfl (by kernel_rfl) rfl ?_
  by_cases h1 : cntX 41 r < 250
  · rw [decide_eq_true h1, Bool.true_and]
    (refine gW ?_; intros)
    refine hC.call ?_
    (refine gW ?_; intros)
    refine op_len_str rfl Tryz.underlying9 rfl (fun p hp => ?_) ?_
    · simp [cat] at hp
      rw [hp]
      omega
    (refine gW ?_; intros)
    refine ⟨congrArg D.bool ?_, True.intro⟩
    rw [decide_eq_true (show ((cntX 41 r : Nat) : Int) < 250 by omega), cond_true, Bool.eq_iff_iff]
    simp
    omega
  · rw [decide_eq_false h1, Bool.false_and]
    (refine gW ?_; intros)
    refine hC.call ?_
    (refine gW ?_; intros)
    refine ⟨congrArg D.bool ?_, True.intro⟩
    cases decide (((cntX 41 r : Nat) : Int) < 250) <;> rfl
/-- What is asked of a book's names. -/
def nmB (b : Bok) : Prop := ∀ c ∈ b.crs, c.need.name.size ≤ 9223372036854775807 ∧ c.bar.name.size ≤ 9223372036854775807
theorem fewBook_ok (b : Bok) (hw : wfBok b) (hn : nmB b) : Pure Tryz.prog 12 [.agg (eBok b)] [.bool (fewB b)] := by
  obtain ⟨⟨hl1, hc⟩, ⟨hl2, hp⟩, hl3, -⟩ := hw
  have hl1' : b.crs.length ≤ 9223372036854775807 := hl1
  have hl2' : b.prg.length ≤ 9223372036854775807 := hl2
  have hl3' : b.sys.length ≤ 9223372036854775807 := hl3
  have hpl : ∀ p ∈ b.prg, p.reqs.length ≤ 9223372036854775807 := fun p h => (hp p h).2.2.1
  have kp : Kp _ := ⟨hpl⟩
  have kc : Kp _ := ⟨hc⟩
  have kn : Kp (nmB b) := ⟨hn⟩
  clear hp hc hpl hn hl1 hl2 hl3
  unfold fewB
  refine pure_rule hT (T := tab) (N := 61) (rs := [.tmp 2]) Tryz.func12 rfl rfl rfl (by kernel_rfl) rfl ?_
  (refine gW ?_; intros)
  refine loop_rule hT (S := Nat) (fun k => ([(1, .ptr (.loc 0) 0 0 0), (2, .d (.bool false)), (3, .d (.int .i64 k))], ⟨[some (.box 26 (up (eBok b)))], []⟩)) (fun k => k ≤ b.crs.length ∧ b.crs.all (fun c => fewR c.need && fewR c.bar) = (b.crs.drop k).all (fun c => fewR c.need && fewR c.bar)) (fun k => b.crs.length - k) 0 ?_ ?_ ?_
  · repeat' (first | exact True.intro | exact rfl | exact Nat.le_refl _ | refine And.intro ?_ ?_)
  · exact ⟨Nat.zero_le _, rfl⟩
  · rintro k ⟨hk, ha⟩
    have ka : Kp _ := ⟨ha⟩
    clear ha
    dsimp only at hk ⊢
    by_cases hk2 : k < b.crs.length
    · have hm := getD_mem hk2
      have hN := fewRules_ok _ (kc.h _ hm).1 (kn.h _ hm).1
      have hB := fewRules_ok _ (kc.h _ hm).2 (kn.h _ hm).2
      have e : Kp (b.crs.all (fun c => fewR c.need && fewR c.bar) = ((fewR (b.crs.getD k default).need && fewR (b.crs.getD k default).bar) && (b.crs.drop (k + 1)).all (fun c => fewR c.need && fewR c.bar))) := ⟨by
        rw [ka.h, drop_at hk2, List.all_cons]⟩
      clear hm
      cases h1 : fewR (b.crs.getD k default).need
      · rw [h1] at hN
        (refine gW ?_; intros)
        refine hN.call ?_
        (refine gW ?_; intros)
        rw [e.h, h1]
        exact ⟨rfl, True.intro⟩
      · rw [h1] at hN
        cases h2 : fewR (b.crs.getD k default).bar
        · rw [h2] at hB
          (refine gW ?_; intros)
          refine hN.call ?_
          (refine gW ?_; intros)
          refine hB.call ?_
          (refine gW ?_; intros)
          rw [e.h, h1, h2]
          exact ⟨rfl, True.intro⟩
        · rw [h2] at hB
          (refine gW ?_; intros)
          refine hN.call ?_
          (refine gW ?_; intros)
          refine hB.call ?_
          (refine gW ?_; intros)
          refine ⟨k + 1, ⟨by show k + 1 ≤ b.crs.length; omega, by rw [e.h, h1, h2]; rfl⟩, by show b.crs.length - (k + 1) < b.crs.length - k; omega, ?_⟩
          repeat' (first | exact True.intro | exact rfl | exact Nat.le_refl _ | refine And.intro ?_ ?_)
    · have e : b.crs.all (fun c => fewR c.need && fewR c.bar) = true := by
        rw [ka.h, drop_end (by omega)]
        rfl
      rw [e, Bool.true_and]
      clear e ka
      (refine gW ?_; intros)
      refine loop_rule hT (S := Nat) (fun k => ([(1, .ptr (.loc 0) 0 0 0), (2, .d (.bool false)), (4, .d (.int .i64 k))], ⟨[some (.box 26 (up (eBok b)))], []⟩)) (fun k => k ≤ b.prg.length ∧ b.prg.all (fun p => decide (p.reqs.length ≤ 70)) = (b.prg.drop k).all (fun p => decide (p.reqs.length ≤ 70))) (fun k => b.prg.length - k) 0 ?_ ?_ ?_
      · repeat' (first | exact True.intro | exact rfl | exact Nat.le_refl _ | refine And.intro ?_ ?_)
      · exact ⟨Nat.zero_le _, rfl⟩
      · clear hk hk2
        rintro k ⟨hk, ha⟩
        have ka : Kp _ := ⟨ha⟩
        clear ha
        dsimp only at hk ⊢
        by_cases hk2 : k < b.prg.length
        · have hm := kp.h _ (getD_mem hk2)
          have e : Kp (b.prg.all (fun p => decide (p.reqs.length ≤ 70)) = (decide ((b.prg.getD k default).reqs.length ≤ 70) && (b.prg.drop (k + 1)).all (fun p => decide (p.reqs.length ≤ 70)))) := ⟨by
            rw [ka.h, drop_at hk2, List.all_cons]⟩
          by_cases h1 : (b.prg.getD k default).reqs.length ≤ 70
          · (refine gW ?_; intros)
            refine ⟨k + 1, ⟨by show k + 1 ≤ b.prg.length; omega, by rw [e.h, decide_eq_true h1]; rfl⟩, by show b.prg.length - (k + 1) < b.prg.length - k; omega, ?_⟩
            repeat' (first | exact True.intro | exact rfl | exact Nat.le_refl _ | refine And.intro ?_ ?_)
          · (refine gW ?_; intros)
            rw [e.h, decide_eq_false h1]
            exact ⟨rfl, True.intro⟩
        · have e : b.prg.all (fun p => decide (p.reqs.length ≤ 70)) = true := by
            rw [ka.h, drop_end (by omega)]
            rfl
          rw [e, Bool.true_and]
          clear e ka
          (refine gW ?_; intros)
          refine ⟨congrArg D.bool ?_, True.intro⟩
          have e1 : decide ((b.crs.length : Int) ≤ 16) = decide (b.crs.length ≤ 16) := by rw [Bool.eq_iff_iff]; simp; omega
          have e2 : decide ((b.prg.length : Int) ≤ 8) = decide (b.prg.length ≤ 8) := by rw [Bool.eq_iff_iff]; simp; omega
          have e3 : decide ((b.sys.length : Int) ≤ 6) = decide (b.sys.length ≤ 6) := by rw [Bool.eq_iff_iff]; simp; omega
          rw [e1, e2, e3]
          cases decide (b.crs.length ≤ 16) <;> cases decide (b.prg.length ≤ 8) <;> rfl
theorem few14_ok (w : Wor) (hw : wfBok w.bok) (hf : fitL w.fcts) (hn : nmB w.bok) : Pure Tryz.prog 22 [.agg (eWor w)] [.bool (fewW w)] := by
  have hf' : w.fcts.length ≤ 9223372036854775807 := hf
  have hB := fewBook_ok w.bok hw hn
  unfold fewW
  refine pure_rule hT (T := tab) (N := 12) (rs := [.tmp 2]) Tryz.func22 rfl rfl rfl (by kernel_rfl) rfl ?_
  cases h1 : fewB w.bok <;> rw [h1] at hB
  · (refine gW ?_; intros)
    refine hB.call ?_
    (refine gW ?_; intros)
    exact ⟨rfl, True.intro⟩
  · (refine gW ?_; intros)
    refine hB.call ?_
    (refine gW ?_; intros)
    refine ⟨congrArg D.bool ?_, True.intro⟩
    rw [cond_true, Bool.true_and, Bool.eq_iff_iff]
    simp
    omega
end Go.Proofs.YtmlhghddfobmmaaGreatDoor
