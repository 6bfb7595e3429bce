/-
  Rules: the walk over the parts; Check.
-/
import Derived.Test.YtmlhghddfobmmaaGreatDoorRuleD
namespace Go.Proofs.YtmlhghddfobmmaaGreatDoor
set_option linter.unusedSimpArgs false
set_option linter.unusedVariables false
open Go Go.Ab
set_option maxRecDepth 100000
set_option maxHeartbeats 0
theorem after_none {r : Loop} (h1 : r.state = .ready) (h2 : r.pending = none) : after r none = r := by
  cases r
  simp only at h1 h2
  subst h1; subst h2
  rfl
theorem yieldMono {P : Program} {b : Nat} {args : List AV} {m : Mem} {K K' : AV → Mem → Prop} (h : YieldVC P b args m K) (hk : ∀ A m', K A m' → K' A m') : YieldVC P b args m K' :=
  ⟨fun σ F w vals h1 h2 => by
    obtain ⟨fn, t, a, c, hy, hr⟩ := h.run σ F w vals h1 h2
    exact ⟨fn, t, a, c, hy, hr.mono fun _ _ ⟨v, A, m', σ', F', x, y, z⟩ => ⟨v, A, m', σ', F', x, hk _ _ y, z⟩⟩⟩
/-- All numbers of all parts fit. -/
def wfR (r : Rule) : Prop := ∀ p ∈ preR 1 r, In1 p.2
theorem preR_shift : ∀ (r : Rule) (d e : Nat), (preR d r).map Prod.snd = (preR e r).map Prod.snd := by
  refine rule_ind fun r ih d e => ?_
  have key : ∀ ks : List Rule, (∀ k ∈ ks, ∀ d e, (preR d k).map Prod.snd = (preR e k).map Prod.snd) → ∀ d e, (preL d ks).map Prod.snd = (preL e ks).map Prod.snd := by
    intro ks
    induction ks with
    | nil => intro _ d e; rw [preL_nil, preL_nil]
    | cons k ks ihk =>
      intro h d e
      rw [preL_cons, preL_cons, List.map_append, List.map_append, h k (by simp) d e, ihk (fun x hx => h x (by simp [hx])) d e]
  rw [preR_eq, preR_eq, List.map_cons, List.map_cons, key r.kids ih (d + 1) (e + 1)]
theorem preL_mem {d : Nat} {p : Nat × Rule} : ∀ {ks : List Rule}, p ∈ preL d ks ↔ ∃ k ∈ ks, p ∈ preR d k
  | [] => by rw [preL_nil]; simp
  | k :: ks => by rw [preL_cons, List.mem_append, preL_mem (ks := ks)]; simp
theorem wfR_any {r : Rule} (h : wfR r) (d : Nat) : ∀ p ∈ preR d r, In1 p.2 := by
  intro p hp
  have h1 : p.2 ∈ (preR d r).map Prod.snd := List.mem_map_of_mem hp
  rw [preR_shift r d 1] at h1
  obtain ⟨p', h2, h3⟩ := List.mem_map.1 h1
  rw [← h3]
  exact h p' h2
theorem wfR_kids {r : Rule} (h : wfR r) : In1 r ∧ ∀ k ∈ r.kids, wfR k := by
  refine ⟨h (1, r) (by rw [preR_eq]; simp), fun k hk p hp => ?_⟩
  have h1 : p.2 ∈ (preR 2 k).map Prod.snd := by rw [preR_shift k 2 1]; exact List.mem_map_of_mem hp
  obtain ⟨p', h2, h3⟩ := List.mem_map.1 h1
  rw [← h3]
  refine h p' ?_
  rw [preR_eq]
  exact List.mem_cons_of_mem _ (preL_mem.2 ⟨k, hk, h2⟩)
/-- The rounds over parts, as long as they go on: those that were met. -/
def visP (cont : List (Nat × Rule) → Bool) : List (Nat × Rule) → List (Nat × Rule) → List (Nat × Rule)
  | [], q => q
  | x :: r, q => if cont (q ++ [x]) = true then visP cont r (q ++ [x]) else q ++ [x]
theorem visP_app (cont : List (Nat × Rule) → Bool) : ∀ (a b q : List (Nat × Rule)), cont q = true → visP cont (a ++ b) q = if cont (visP cont a q) = true then visP cont b (visP cont a q) else visP cont a q
  | [], b, q, h => by rw [List.nil_append, visP, if_pos h]
  | x :: a, b, q, h => by
    rw [List.cons_append, visP, visP]
    by_cases h1 : cont (q ++ [x]) = true
    · rw [if_pos h1, if_pos h1, visP_app cont a b _ h1]
    · rw [if_neg h1, if_neg h1, if_neg h1]
def okP (q : List (Nat × Rule)) : Bool := decide (q.length ≤ 200) && q.all fun p => decide (p.1 ≤ 16) && formedR p.2
theorem parts_ok (r : Rule) : CallVC Tryz.prog 182 [.d (.agg (eRule r))] ⟨[], []⟩
    (Ret (fun _ : Unit => ([.fn (.func 218) [] [.ptr (.loc 1) 0 0 0, .ptr (.loc 0) 0 0 0]], ⟨[some (.box 66 (up (eRule r))), some (.box 261 [.fn (.func 217) [] [.ptr (.loc 1) 0 0 0]])], []⟩)) fun _ => True) := by
  refine call_rule hT (T := tab) (N := 6) (rs := [.tmp 2]) _ _ Tryz.func182 rfl rfl rfl (by kernel_rfl) rfl ?_
  (refine gW ?_; intros)
  exact ⟨(), True.intro, by repeat' (first | exact True.intro | exact rfl | exact Nat.le_refl _ | refine And.intro ?_ ?_), rfl⟩
theorem walkC_ok (rec : Loop) (r0 : Rule)(y : Nat) (cont : List (Nat × Rule) → Bool) : ∀ (r : Rule) (d : Nat) (q : List (Nat × Rule)), wfR r → d ≤ 1000000 → cont q = true → (∀ q x, x ∈ preR d r → cont (q ++ [x]) = true → x.1 ≤ 999999) →
    (∀ q : List (Nat × Rule), cont q = true → ∀ x ∈ preR d r, YieldVC Tryz.prog y [.d (.int .i64 x.1), .d (.agg (eRule x.2))] ⟨[], [some (.box 261 [.fn (.func 217) [] [.ptr (.arg 0) 0 0 0]]), some (.box 66 (up (eRule r0))), some (.box 38 [.d (.int .i64 (bif okP q then 0 else 120))]), some (.box 3 [.d (.int .i64 q.length)]), some (.loop y (bif okP q then rec else after rec (some .ret)) [(2, .ptr (.arg 2) 0 0 0), (3, .ptr (.arg 3) 0 0 0)])]⟩
      (Ret (fun q : List (Nat × Rule) => ([.d (.bool (cont q))], ⟨[], [some (.box 261 [.fn (.func 217) [] [.ptr (.arg 0) 0 0 0]]), some (.box 66 (up (eRule r0))), some (.box 38 [.d (.int .i64 (bif okP q then 0 else 120))]), some (.box 3 [.d (.int .i64 q.length)]), some (.loop y (bif okP q then rec else after rec (some .ret)) [(2, .ptr (.arg 2) 0 0 0), (3, .ptr (.arg 3) 0 0 0)])]⟩)) fun q' => q' = q ++ [x])) →
    CallVC Tryz.prog 217 [.d (.agg (eRule r)), .d (.int .i64 d), .fn (.yield y) [] [], .ptr (.arg 0) 0 0 0] ((fun q : List (Nat × Rule) => ⟨[], [some (.box 261 [.fn (.func 217) [] [.ptr (.arg 0) 0 0 0]]), some (.box 66 (up (eRule r0))), some (.box 38 [.d (.int .i64 (bif okP q then 0 else 120))]), some (.box 3 [.d (.int .i64 q.length)]), some (.loop y (bif okP q then rec else after rec (some .ret)) [(2, .ptr (.arg 2) 0 0 0), (3, .ptr (.arg 3) 0 0 0)])]⟩) q)
      (Ret (fun q : List (Nat × Rule) => ([.d (.bool (cont q))], ⟨[], [some (.box 261 [.fn (.func 217) [] [.ptr (.arg 0) 0 0 0]]), some (.box 66 (up (eRule r0))), some (.box 38 [.d (.int .i64 (bif okP q then 0 else 120))]), some (.box 3 [.d (.int .i64 q.length)]), some (.loop y (bif okP q then rec else after rec (some .ret)) [(2, .ptr (.arg 2) 0 0 0), (3, .ptr (.arg 3) 0 0 0)])]⟩)) fun q' => q' = visP cont (preR d r) q) := by
  refine rule_ind fun r ih d q hw hd hgo hb hy => ?_
  obtain ⟨hw1, hw2⟩ := wfR_kids hw
  refine call_rule hT (T := tab) (N := 30) (rs := [.tmp 7]) _ _ Tryz.func217 rfl rfl rfl (by kernel_rfl) rfl ?_
  rw [preR_eq, visP]
  (refine gW ?_; intros)
  refine (hy q hgo (d, r) (by rw [preR_eq]; simp)).at [.arg 0, .arg 1, .arg 2, .arg 3, .arg 4] rfl ⟨rfl, rfl, rfl, rfl, rfl, True.intro⟩ (fun s' hs' => ⟨rfl, ?_⟩)
  subst hs'
  cases hc1 : cont (q ++ [(d, r)])
  · rw [if_neg (by simp)]
    (refine gW ?_; intros)
    refine ⟨_, rfl, ?_, rfl⟩
    dsimp only
    rw [hc1]
    repeat' (first | exact True.intro | exact rfl | exact Nat.le_refl _ | refine And.intro ?_ ?_)
  · rw [if_pos rfl]
    have hd2 := hb q (d, r) (by rw [preR_eq]; simp) hc1
    dsimp only at hd2
    have hv : visP cont (preL (d + 1) r.kids) (q ++ [(d, r)]) = visP cont (preL (d + 1) (r.kids.drop 0)) (q ++ [(d, r)]) := rfl
    (refine gW ?_; intros)
    refine loop_rule hT (S := Nat × List (Nat × Rule)) (fun z => ([(1, .d (.int .i64 d)), (2, .fn (.yield y) [] []), (3, .ptr (.arg 0) 0 0 0), (16, .d (eRules r.kids)), (17, .d (.int .i64 r.kids.length)), (18, .d (.int .i64 z.1))], (fun q : List (Nat × Rule) => ⟨[], [some (.box 261 [.fn (.func 217) [] [.ptr (.arg 0) 0 0 0]]), some (.box 66 (up (eRule r0))), some (.box 38 [.d (.int .i64 (bif okP q then 0 else 120))]), some (.box 3 [.d (.int .i64 q.length)]), some (.loop y (bif okP q then rec else after rec (some .ret)) [(2, .ptr (.arg 2) 0 0 0), (3, .ptr (.arg 3) 0 0 0)])]⟩) z.2))
      (fun z => z.1 ≤ r.kids.length ∧ cont z.2 = true ∧ visP cont (preL (d + 1) r.kids) (q ++ [(d, r)]) = visP cont (preL (d + 1) (r.kids.drop z.1)) z.2) (fun z => r.kids.length - z.1) (0, q ++ [(d, r)]) ?_ ?_ ?_
    · repeat' (first | exact True.intro | exact rfl | exact Nat.le_refl _ | refine And.intro ?_ ?_)
    · exact ⟨Nat.zero_le _, hc1, hv⟩
    · rintro ⟨k, q1⟩ ⟨hk, hcq, hc⟩
      dsimp only at hk hcq hc ⊢
      have hlk := hw1.2.2.2.2
      by_cases hk2 : k < r.kids.length
      · have hne : r.kids ≠ [] := fun e => by rw [e] at hk2; exact absurd hk2 (Nat.not_lt_zero _)
        have hmem : r.kids.getD k default ∈ r.kids := getD_mem hk2
        have hsub : ∀ x ∈ preR (d + 1) (r.kids.getD k default), x ∈ preR d r := fun x hx => by
          rw [preR_eq]
          exact List.mem_cons_of_mem _ (preL_mem.2 ⟨_, hmem, hx⟩)
        have hI := ih _ hmem (d + 1) q1 (hw2 _ hmem) (by omega) hcq (fun q x hx => hb q x (hsub x hx)) (fun q hq x hx => hy q hq x (hsub x hx))
        rw [drop_at hk2, preL_cons, visP_app _ _ _ _ hcq] at hc
        rw [eRules_ne hne]
        (refine gW ?_; intros)
        refine ⟨⟨_, [], [.ptr (.arg 0) 0 0 0], .inl rfl, hI.at [.arg 0, .arg 1, .arg 2, .arg 3, .arg 4] rfl ⟨rfl, rfl, rfl, rfl, rfl, True.intro⟩ (fun s' hs' => ⟨rfl, ?_⟩)⟩⟩
        subst hs'
        cases hc2 : cont (visP cont (preR (d + 1) (r.kids.getD k default)) q1)
        · rw [if_neg (by rw [hc2]; simp)] at hc
          (refine gW ?_; intros)
          refine ⟨_, hc.symm, ?_, rfl⟩
          dsimp only
          rw [hc2]
          repeat' (first | exact True.intro | exact rfl | exact Nat.le_refl _ | refine And.intro ?_ ?_)
        · rw [if_pos hc2] at hc
          (refine gW ?_; intros)
          refine ⟨(k + 1, visP cont (preR (d + 1) (r.kids.getD k default)) q1), ⟨by show k + 1 ≤ r.kids.length; omega, hc2, hc⟩, by show r.kids.length - (k + 1) < r.kids.length - k; omega, ?_⟩
          repeat' (first | exact True.intro | exact rfl | exact Nat.le_refl _ | refine And.intro ?_ ?_)
      · rw [drop_end (by omega), preL_nil, visP] at hc
        (refine gW ?_; intros)
        refine ⟨_, hc.symm, ?_, rfl⟩
        dsimp only
        rw [hcq]
        repeat' (first | exact True.intro | exact rfl | exact Nat.le_refl _ | refine And.intro ?_ ?_)
theorem partsC_ok (rec : Loop)(y : Nat) (cont : List (Nat × Rule) → Bool) (r0 : Rule) (hw : wfR r0) (hgo : cont [] = true) (hb : ∀ q x, x ∈ preR 1 r0 → cont (q ++ [x]) = true → x.1 ≤ 999999)
    (hy : ∀ q : List (Nat × Rule), cont q = true → ∀ x ∈ preR 1 r0, YieldVC Tryz.prog y [.d (.int .i64 x.1), .d (.agg (eRule x.2))] ⟨[], [some (.box 261 [.fn (.func 217) [] [.ptr (.arg 0) 0 0 0]]), some (.box 66 (up (eRule r0))), some (.box 38 [.d (.int .i64 (bif okP q then 0 else 120))]), some (.box 3 [.d (.int .i64 q.length)]), some (.loop y (bif okP q then rec else after rec (some .ret)) [(2, .ptr (.arg 2) 0 0 0), (3, .ptr (.arg 3) 0 0 0)])]⟩
      (Ret (fun q : List (Nat × Rule) => ([.d (.bool (cont q))], ⟨[], [some (.box 261 [.fn (.func 217) [] [.ptr (.arg 0) 0 0 0]]), some (.box 66 (up (eRule r0))), some (.box 38 [.d (.int .i64 (bif okP q then 0 else 120))]), some (.box 3 [.d (.int .i64 q.length)]), some (.loop y (bif okP q then rec else after rec (some .ret)) [(2, .ptr (.arg 2) 0 0 0), (3, .ptr (.arg 3) 0 0 0)])]⟩)) fun q' => q' = q ++ [x])) :
    CallVC Tryz.prog 218 [.fn (.yield y) [] [], .ptr (.arg 0) 0 0 0, .ptr (.arg 1) 0 0 0] ((fun q : List (Nat × Rule) => ⟨[], [some (.box 261 [.fn (.func 217) [] [.ptr (.arg 0) 0 0 0]]), some (.box 66 (up (eRule r0))), some (.box 38 [.d (.int .i64 (bif okP q then 0 else 120))]), some (.box 3 [.d (.int .i64 q.length)]), some (.loop y (bif okP q then rec else after rec (some .ret)) [(2, .ptr (.arg 2) 0 0 0), (3, .ptr (.arg 3) 0 0 0)])]⟩) [])
      (Ret (fun q : List (Nat × Rule) => ([], ⟨[], [some (.box 261 [.fn (.func 217) [] [.ptr (.arg 0) 0 0 0]]), some (.box 66 (up (eRule r0))), some (.box 38 [.d (.int .i64 (bif okP q then 0 else 120))]), some (.box 3 [.d (.int .i64 q.length)]), some (.loop y (bif okP q then rec else after rec (some .ret)) [(2, .ptr (.arg 2) 0 0 0), (3, .ptr (.arg 3) 0 0 0)])]⟩)) fun q' => q' = visP cont (preR 1 r0) []) := by
  refine call_rule hT (T := tab) (N := 8) (rs := []) _ _ Tryz.func218 rfl rfl rfl (by kernel_rfl) rfl ?_
  have hW := walkC_ok rec r0 y cont r0 1 [] hw (by decide) hgo hb hy
  (refine gW ?_; intros)
  refine ⟨⟨_, [], [.ptr (.arg 0) 0 0 0], .inl rfl, hW.at [.arg 0, .arg 1, .arg 2, .arg 3, .arg 4] rfl ⟨rfl, rfl, rfl, rfl, rfl, True.intro⟩ (fun s' hs' => ⟨rfl, ?_⟩)⟩⟩
  subst hs'
  (refine gW ?_; intros)
  refine ⟨_, rfl, ?_, rfl⟩
  dsimp only
  repeat' (first | exact True.intro | exact rfl | exact Nat.le_refl _ | refine And.intro ?_ ?_)
theorem okP_snoc (q : List (Nat × Rule)) (x : Nat × Rule) (h : okP q = true) : okP (q ++ [x]) = (decide (q.length + 1 ≤ 200) && (decide (x.1 ≤ 16) && formedR x.2)) := by
  unfold okP at h ⊢
  rw [Bool.and_eq_true] at h
  rw [List.all_append, h.2, Bool.true_and, List.length_append]
  simp
theorem okP_pre (a b : List (Nat × Rule)) (h : okP (a ++ b) = true) : okP a = true := by
  unfold okP at h ⊢
  rw [Bool.and_eq_true, List.all_append, Bool.and_eq_true, List.length_append] at h
  rw [Bool.and_eq_true]
  refine ⟨?_, h.2.1⟩
  have := of_decide_eq_true h.1
  exact decide_eq_true (by omega)
theorem visP_mono (cont : List (Nat × Rule) → Bool) (hc : ∀ a b, cont (a ++ b) = true → cont a = true) : ∀ (l q : List (Nat × Rule)), cont (visP cont l q) = cont (q ++ l)
  | [], q => by rw [visP, List.append_nil]
  | x :: r, q => by
    rw [visP]
    have e : q ++ x :: r = (q ++ [x]) ++ r := by simp
    by_cases h : cont (q ++ [x]) = true
    · rw [if_pos h, visP_mono cont hc r, e]
    · rw [if_neg h, e]
      cases h2 : cont (q ++ [x] ++ r)
      · simpa using h
      · exact absurd (hc _ _ h2) h
theorem okP_chk (r : Rule) : (bif okP (preR 1 r) then (0 : Int) else 120) = chkR r := by
  unfold chkR okP
  obtain ⟨h1, p, h2, h3⟩ := preR_dep r 1
  rw [preR_len]
  by_cases a : cntR r ≤ 200
  · by_cases b : depR r ≤ 16
    · have e : ((preR 1 r).all fun p => decide (p.1 ≤ 16) && formedR p.2) = allF r := by
        unfold allF
        refine Bool.eq_iff_iff.2 ?_
        rw [List.all_eq_true, List.all_eq_true]
        refine ⟨fun h x hx => ?_, fun h x hx => ?_⟩
        · have := h x hx
          simp at this
          exact this.2
        · have h5 := h1 x hx
          have h6 := h x hx
          simp [h6]
          omega
      rw [e]
      cases allF r <;> simp [a, b]
    · have e : ((preR 1 r).all fun p => decide (p.1 ≤ 16) && formedR p.2) = false := by
        rw [List.all_eq_false]
        refine ⟨p, h2, ?_⟩
        simp
        omega
      rw [e]
      simp [b]
  · simp [a]
theorem check_ok (r : Rule) (hw : wfR r) : Pure Tryz.prog 144 [.agg (eRule r)] [.int .i64 (chkR r)] := by
  rw [← okP_chk]
  refine pure_rule hT (T := tab) (N := 23) (rs := [.cell 2 38]) Tryz.func144 rfl rfl rfl (by kernel_rfl) rfl ?_
  (refine gW ?_; intros)
  refine (parts_ok r).at [] rfl True.intro (fun _ _ => ⟨rfl, ?_⟩)
  (refine gW ?_; intros)
  refine Awp.range (caps := [.ptr (.loc 4) 0 0 0, .ptr (.loc 3) 0 0 0]) [(2, .ptr (.loc 1) 0 0 0), (3, .ptr (.loc 2) 0 0 0)] (.inl rfl) (nl := 5) (na := 0) ⟨⟨rfl, rfl⟩, ⟨rfl, rfl⟩, True.intro⟩ ?_
  intro y rec h1 h2 h3 h4 h5 h6
  refine (partsC_ok rec y okP r hw rfl (fun q x _ h => ?_) ?_).at [.loc 4, .loc 3, .loc 1, .loc 2, .loc 5] rfl ⟨rfl, rfl, rfl, rfl, rfl, True.intro⟩ (fun s hs => ⟨rfl, ?_⟩)
  · have := okP_pre
    unfold okP at h
    simp at h
    omega
  · intro q hcq x hx
    have hI := wfR_any hw 1 x hx
    have hql : q.length ≤ 200 := by
      unfold okP at hcq
      rw [Bool.and_eq_true] at hcq
      exact of_decide_eq_true hcq.1
    have hF := formed_ok x.2 hI
    rw [hcq]
    refine yieldMono (yield_rule (N := 23) (ps := [8, 9]) (args := [.d (.int .i64 x.1), .d (.agg (eRule x.2))])
      (bs := [some (.box 261 [.fn (.func 217) [] [.ptr (.arg 0) 0 0 0]]), some (.box 66 (up (eRule r))), some (.box 38 [.d (.int .i64 0)]), some (.box 3 [.d (.int .i64 q.length)])]) (env0 := [(2, .ptr (.arg 2) 0 0 0), (3, .ptr (.arg 3) 0 0 0)])
      (fun b : Bool => [some (.box 261 [.fn (.func 217) [] [.ptr (.arg 0) 0 0 0]]), some (.box 66 (up (eRule r))), some (.box 38 [.d (.int .i64 (bif b then 0 else 120))]), some (.box 3 [.d (.int .i64 ((q.length : Int) + 1))])]) (fun b : Bool => bif b then none else some .ret) (fun b => b = okP (q ++ [x])) h1 h3 h4 h5 h6 rfl (by simp) ?_ rfl rfl ?_) ?_
    · repeat' (first | exact True.intro | exact rfl | exact Nat.le_refl _ | refine And.intro ?_ ?_)
    · rw [okP_snoc q x hcq]
      refine Awp.of_vc hT ?_
      (refine gW ?_; intros)
      refine Awp.of_vc hT ?_
      by_cases e1 : q.length + 1 ≤ 200
      · by_cases e2 : x.1 ≤ 16
        · cases e3 : formedR x.2
          · rw [e3] at hF
            (refine gW ?_; intros)
            refine hF.call ?_
            (refine gW ?_; intros)
            exact ⟨false, by simp, rfl, rfl, by repeat' (first | exact True.intro | exact rfl | exact Nat.le_refl _ | refine And.intro ?_ ?_)⟩
          · rw [e3] at hF
            (refine gW ?_; intros)
            refine hF.call ?_
            (refine gW ?_; intros)
            exact ⟨true, by simp [e1, e2], rfl, rfl, by repeat' (first | exact True.intro | exact rfl | exact Nat.le_refl _ | refine And.intro ?_ ?_)⟩
        · (refine gW ?_; intros)
          exact ⟨false, by simp [e2], rfl, rfl, by repeat' (first | exact True.intro | exact rfl | exact Nat.le_refl _ | refine And.intro ?_ ?_)⟩
      · (refine gW ?_; intros)
        exact ⟨false, by simp; omega, rfl, rfl, by repeat' (first | exact True.intro | exact rfl | exact Nat.le_refl _ | refine And.intro ?_ ?_)⟩
    · rintro A m' ⟨b, hJ, rfl, rfl⟩
      refine ⟨q ++ [x], rfl, ?_, ?_⟩
      · dsimp only
        rw [← hJ]
        cases b <;> rfl
      · dsimp only
        rw [← hJ, show (((q ++ [x]).length : Nat) : Int) = (q.length : Int) + 1 by rw [len_snoc]; rfl]
        cases b
        · rfl
        · show (⟨[], [some _, some _, some _, some _, some (.loop y (after rec none) _)]⟩ : Mem) = _
          rw [after_none h1 h2]
          rfl
  · have hv : okP s = okP (preR 1 r) := by rw [hs, visP_mono okP okP_pre]; rfl
    dsimp only
    rw [hv]
    cases okP (preR 1 r)
    · (refine gW ?_; intros)
      refine ⟨some .ret, rfl, ?_⟩
      refine Awp.of_vc hT ?_
      (refine gW ?_; intros)
      exact ⟨rfl, True.intro⟩
    · (refine gW ?_; intros)
      refine ⟨none, by rw [after_none h1 h2]; rfl, ?_⟩
      show Sq _ _
      (refine gW ?_; intros)
      exact ⟨rfl, True.intro⟩
end Go.Proofs.YtmlhghddfobmmaaGreatDoor
