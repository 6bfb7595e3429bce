/-
  Texts put together: InsA, InsB.
-/
import Derived.Test.YtmlhghddfobmmaaGreatDoorSynA
/-
  Chapter 14: book.Install, its parts.
-/
namespace Go.Ab
set_option linter.unusedSimpArgs false
set_option linter.unusedVariables false
/-- A nil slice in a cell of a variable of its own may be taken for a row of our own. -/
theorem Awp.vecCell {P : Program} {N : Nat} {cd : Code} {env : Env} {m : Mem} {Q : Post} (r : Ref) (c e0 e sz : Nat) (cs : List AV) (f : Nat → List AV) (hB : m.get r = some (.box e0 cs)) (hc : cs[c]? = some (.d .nils))
    (k : Awp P N cd env ((m.add (.vec e sz 0 0 f)).put r (some (.box e0 (cs.set c (.osl m.new 0 0 0))))) Q) : Awp P N cd env m Q :=
  ⟨fun ro lo a w σ F hN hD he hm => by
    let pl : Pl := ⟨0, sz, none⟩
    obtain ⟨g1, g2⟩ := fresh_ok (w' := w) (pl := pl) (B := .vec e sz 0 0 f) hm (Nat.le_refl _) (fun _ _ => rfl) ⟨rfl, rfl, fun _ => rfl, fun i hi => absurd hi (by omega), fun b t h => by simp [pl] at h⟩ (fun b t h => by simp [pl] at h)
    have hat := Mem.get_at hB
    obtain ⟨plr, hr⟩ : ∃ plr, σ r = some (some plr) := by
      cases hs : σ r with
      | none => rw [(hm.dom r).1 hs] at hat; cases hat
      | some q => cases q with
        | none => rw [(hm.lv r _ hs).1 rfl] at hat; cases hat
        | some pl => exact ⟨pl, rfl⟩
    have hne : m.new ≠ r := fun h => by
      have := new_none hm
      rw [h, hr] at this
      cases this
    obtain ⟨B, hB', hok⟩ := (hm.lv r _ hr).2 plr rfl
    rw [hat] at hB'
    injection hB' with hB'
    injection hB' with hB'
    subst hB'
    obtain ⟨k1, k2, b, k3, us, k4, k5, k6⟩ := hok
    have hcl : c < cs.length := (List.getElem?_eq_some_iff.1 hc).1
    have hu0 : us[c]? = some (us[c]'(by omega)) := List.getElem?_eq_getElem (by omega)
    obtain ⟨hu, hu1⟩ := k6 c _ _ hc hu0
    obtain ⟨u, hue⟩ : ∃ u, us[c]'(by omega) = u := ⟨_, rfl⟩
    rw [hue] at hu hu0 hu1
    have hun : u = .slice none 0 0 := by cases hu with | d hu => cases hu; rfl
    subst hun
    have hr1 : upd σ m.new (some pl) r = some (some plr) := by rw [upd_other σ _ (fun h => hne h.symm)]; exact hr
    have hsle0 : SLe σ (upd (upd σ m.new (some pl)) r (some plr)) := fun r' q hq => by
      by_cases e1 : r' = r
      · subst e1
        rw [hr] at hq
        cases hq
        exact ⟨_, upd_self _ _ _, QLe.refl _⟩
      · rw [upd_other _ _ e1]
        exact g2 r' q hq
    obtain ⟨q1, q2⟩ := change_ok (B' := .box e0 (cs.set c (.osl m.new 0 0 0))) g1 (w' := w) (pl' := plr) hr1 (Nat.le_refl _) (fun _ _ _ => rfl) ⟨Nat.le_refl _, fun _ => rfl⟩
      ⟨k1, by rw [List.length_set]; exact k2, b, k3, us, k4, by rw [List.length_set]; exact k5, fun j A u hA hu => by
        by_cases hj : j = c
        · subst hj
          rw [List.getElem?_set_self hcl] at hA
          cases hA
          rw [hu0] at hu
          cases hu
          refine ⟨.osl (q := some pl) (by rw [upd_other _ _ hne]; exact upd_self σ m.new (some pl)) fun p hp => ?_, rfl⟩
          injection hp with hp
          subst hp
          exact ⟨Nat.le_refl _, fun _ => ⟨rfl, rfl, rfl⟩⟩
        · rw [List.getElem?_set_ne (fun e => hj e.symm)] at hA
          exact ⟨(k6 j A u hA hu).1.mono (fun _ h => h) (fun _ _ => rfl) hsle0, (k6 j A u hA hu).2⟩⟩
      (fun b' t h => by rw [k3] at h; cases h; exact ⟨(hm.nf r plr _ 1 hr k3).2, .inl ⟨1, k3⟩⟩)
    have hsle : SLe σ (upd (upd σ m.new (some pl)) r (some plr)) := fun r' q hq => by
      obtain ⟨q', e1, e2⟩ := g2 r' q hq
      obtain ⟨q'', e3, e4⟩ := q2 r' q' e1
      exact ⟨q'', e3, e2.trans e4⟩
    have hst : Step σ F w (upd (upd σ m.new (some pl)) r (some plr)) F w := ⟨rfl, rfl, rfl, Nat.le_refl _, Nat.le_refl _, fun _ _ _ => rfl, fun _ h => h, fun _ h => .inl h, fun b' ⟨rf, p, t, h1, h2⟩ => by
      by_cases e1 : rf = r
      · subst e1
        rw [upd_self] at h1
        cases h1
        exact .inl ⟨rf, plr, t, hr, h2⟩
      · rw [upd_other _ _ e1] at h1
        by_cases e2 : rf = m.new
        · subst e2
          rw [upd_self] at h1
          cases h1
          simp [pl] at h2
        · rw [upd_other σ _ e2] at h1
          exact .inl ⟨rf, p, t, h1, h2⟩⟩
    exact wpIn_mono (k.run ro lo a w _ F hN (hD.step hst) (he.mono (fun _ h => h) (fun _ _ => rfl) hsle) q1) fun e a2 w2 h5 => lift_trans hst (.of hsle) h5⟩
end Go.Ab
namespace Go.Proofs.YtmlhghddfobmmaaGreatDoor
set_option linter.unusedSimpArgs false
set_option linter.unusedVariables false
open Go Go.Ab
set_option maxRecDepth 100000
set_option maxHeartbeats 0
def keysC (l : List Crs) : List (List Int) := (numsC l).map fun n => [n]
theorem keysC_len (l : List Crs) : (keysC l).length = l.length := by rw [keysC, numsC, List.length_map, List.length_map]
theorem keysC_at {l : List Crs} {k : Nat} (hk : k < l.length) : (keysC l).getD k default = [(l.getD k default).number] := by
  simp only [keysC, numsC, List.getD_eq_getElem?_getD, List.getElem?_map, List.getElem?_eq_getElem hk, Option.map_some, Option.getD_some]
theorem numbersC_ok (l : List Crs) (hl : l.length ≤ 1000000) : CallVC Tryz.prog 81 [.d (eCrss l)] ⟨[], []⟩
    (Ret (fun _ : Unit => ([.mp (.loc 0)], ⟨[some (.map (.one .i64) (hasU (keysC l) l.length) fun _ => .d (.bool true))], []⟩)) fun _ => True) := by
  refine call_rule hT (T := tab) (N := 18) (rs := [.tmp 2]) _ _ Tryz.func81 rfl rfl rfl (by kernel_rfl) rfl ?_
  (refine gW ?_; intros)
  refine loop_rule hT (S := Nat) (fun k => ([(3, .mp (.loc 0)), (7, .d (eCrss l)), (8, .d (.int .i64 l.length)), (9, .d (.int .i64 k))], ⟨[some (.map (.one .i64) (hasU (keysC l) k) fun _ => .d (.bool true))], []⟩)) (fun k => k ≤ l.length) (fun k => l.length - k) 0 ?_ ?_ ?_
  · repeat' (first | exact True.intro | exact rfl | exact Nat.le_refl _ | refine And.intro ?_ ?_)
    all_goals first
      | (intro key hf; exact ⟨by simp [hasU], fun h => (by cases h)⟩)
      | trace_state
  · exact Nat.zero_le _
  · intro k hk
    dsimp only at hk ⊢
    by_cases hk2 : k < l.length
    · (refine gW ?_; intros)
      refine ⟨k + 1, by show k + 1 ≤ l.length; omega, by show l.length - (k + 1) < l.length - k; omega, ?_⟩
      repeat' (first | exact True.intro | exact rfl | exact Nat.le_refl _ | refine And.intro ?_ ?_)
      intro key hf
      refine ⟨?_, fun _ => ⟨?_, rfl⟩⟩
      · have e := hasU_succ (ks := keysC l) (k := k) (by rw [keysC_len]; exact hk2) key
        rw [keysC_at hk2] at e
        exact e
      · show (bif decide (key = [(l.getD k default).number]) then AV.d (.bool true) else AV.d (.bool true)) = _
        cases decide (key = [(l.getD k default).number]) <;> rfl
    · obtain rfl : k = l.length := by omega
      (refine gW ?_; intros)
      refine ⟨(), True.intro, ?_, rfl⟩
      repeat' (first | exact True.intro | exact rfl | exact Nat.le_refl _ | refine And.intro ?_ ?_)
      intro key hf
      exact ⟨rfl, fun _ => ⟨rfl, rfl⟩⟩
theorem rowsOf_join {α : Type} [Inhabited α] (enc : α → List D) (xs : List α) (x : α) {n : Nat} (hn : n = xs.length) (i : Nat) (hi : i < n + 1) : joinF n (rowsOf enc xs) (rowFn [up (enc x)]) i = rowsOf enc (xs ++ [x]) i := by
  subst hn
  exact join_snoc enc xs x _ rfl i (by rw [len_snoc]; exact hi)
/-- An installer: its span, the time of knowledge, its facts. -/
def insM (fr til kn : Int) (g : Nat) (fs : List Fct) : Mem := ⟨[], [some (.box 144 [.d (.int .i64 fr), .d (.int .i64 til), .d (.int .i64 kn), .osl (.arg 1) g 0 fs.length]), some (.vec 94 8 g fs.length (rowsOf eFct fs))]⟩
theorem add_ok (fr til kn : Int) (g : Nat) (fs : List Fct) (hl : fs.length ≤ 1000000) (kd sub obj val : Int) :
    CallVC Tryz.prog 77 [.ptr (.arg 0) 0 0 0, .d (.int .i64 kd), .d (.int .i64 sub), .d (.int .i64 obj), .d (.int .i64 val)] (insM fr til kn g fs)
      (Ret (fun _ : Unit => ([], insM fr til kn (g + 1) (fs ++ [⟨kd, sub, obj, val, fr, til, kn, fs.length⟩]))) fun _ => True) := by
  unfold insM
  refine call_rule hT (T := tab) (N := 40) (rs := []) _ _ Tryz.func77 rfl rfl rfl (by kernel_rfl) rfl ?_
  (refine gS ?_; intros)
  refine Sq.alt (Awp.effsC (m := ⟨[some (.box 90 (up [.int .i64 kd, .int .i64 sub, .int .i64 obj]))], [some (.box 144 [.d (.int .i64 fr), .d (.int .i64 til), .d (.int .i64 kn), .osl (.arg 1) g 0 fs.length]), some (.vec 94 8 g fs.length (rowsOf eFct fs))]⟩) hT (by kernel_rfl) (by kernel_rfl) (by kernel_rfl)
    ⟨[some (.box 90 (up [.int .i64 kd, .int .i64 sub, .int .i64 obj]))], [some (.box 144 [.d (.int .i64 fr), .d (.int .i64 til), .d (.int .i64 kn), .osl (.arg 1) g 0 fs.length]), some .opq]⟩ 1 2
    [⟨19, .d (.int .i64 fs.length), ⟨[some (.box 90 (up [.int .i64 kd, .int .i64 sub, .int .i64 obj]))], [some (.box 144 [.d (.int .i64 fr), .d (.int .i64 til), .d (.int .i64 kn), .osl (.arg 1) g 0 fs.length]), some (.vec 94 8 g fs.length (rowsOf eFct fs))]⟩, []⟩,
     ⟨22, .osl (.arg 1) (g + 1) 0 (fs.length + 1), ⟨[some (.box 90 (up [.int .i64 kd, .int .i64 sub, .int .i64 obj]))], [some (.box 144 [.d (.int .i64 fr), .d (.int .i64 til), .d (.int .i64 kn), .osl (.arg 1) g 0 fs.length]), some (.vec 94 8 (g + 1) (fs.length + 1) (joinF fs.length (rowsOf eFct fs) (rowFn [up (eFct ⟨kd, sub, obj, val, fr, til, kn, fs.length⟩)])))]⟩, [21, 20, 19]⟩,
     ⟨25, .junk, ⟨[some (.box 90 (up [.int .i64 kd, .int .i64 sub, .int .i64 obj]))], [some (.box 144 [.d (.int .i64 fr), .d (.int .i64 til), .d (.int .i64 kn), .osl (.arg 1) (g + 1) 0 (fs.length + 1)]), some (.vec 94 8 (g + 1) (fs.length + 1) (joinF fs.length (rowsOf eFct fs) (rowFn [up (eFct ⟨kd, sub, obj, val, fr, til, kn, fs.length⟩)])))]⟩, [22]⟩]
    (by kernel_rfl) rfl rfl (WeakF.of ⟨.inl rfl, True.intro⟩ ⟨.inl rfl, .inr ⟨_, rfl, WeakB.opq⟩, True.intro⟩) true (fun _ => by kernel_rfl)
    ⟨(WeakF.of ⟨.inl rfl, True.intro⟩ ⟨.inl rfl, .inr ⟨_, rfl, WeakB.opq⟩, True.intro⟩), (WeakF.of ⟨.inl rfl, True.intro⟩ ⟨.inl rfl, .inr ⟨_, rfl, WeakB.opq⟩, True.intro⟩), .inl rfl⟩ ?_)
  conv => whnf
  refine ⟨?_, ?_, ?_, ?_⟩
  · conv => whnf
    (refine gS ?_; intros)
    exact ⟨rfl, rfl⟩
  · conv => whnf
    (refine gS ?_; intros)
    exact ⟨rfl, rfl⟩
  · conv => whnf
    (refine gS ?_; intros)
    exact ⟨True.intro, rfl⟩
  conv => whnf
  (refine gS ?_; intros)
  refine ⟨(), True.intro, ?_, rfl⟩
  repeat' (first | exact True.intro | exact rfl | exact Nat.le_refl _ | refine And.intro ?_ ?_)
  all_goals first
    | (intro j hj
       refine ⟨?_, rfl⟩
       exact rowsOf_join eFct fs _ rfl j (by rw [len_snoc] at hj; exact hj))
    | (show AV.osl _ _ _ _ = AV.osl _ _ _ _
       rw [len_snoc]
       done)
    | (rw [len_snoc]
       done)
    | (rw [len_snoc]
       exact Nat.le_refl _)
    | (rw [len_snoc]; exact ⟨rfl, rfl⟩)
    | trace_state
end Go.Proofs.YtmlhghddfobmmaaGreatDoor
/-
  Chapter 14: slices.Concat of two lists, slices.Clone as data.
-/
namespace Go.Proofs.YtmlhghddfobmmaaGreatDoor
set_option linter.unusedSimpArgs false
set_option linter.unusedVariables false
open Go Go.Ab
set_option maxRecDepth 100000
set_option maxHeartbeats 0
def cat2 {α : Type} (a b : List α) : Nat → List α
  | 0 => []
  | 1 => a
  | _ => a ++ b
theorem rowsOf_cat {α : Type} [Inhabited α] (enc : α → List D) (a b : List α) {n : Nat} (hn : n = a.length) (i : Nat) : joinF n (rowsOf enc a) (fun i => up (enc (b.getD i default))) i = rowsOf enc (a ++ b) i := by
  subst hn
  by_cases h : i < a.length
  · rw [joinF_lt h]
    simp only [rowsOf, List.getD_eq_getElem?_getD]
    rw [List.getElem?_append_left h]
  · rw [joinF_ge (by omega)]
    simp only [rowsOf, List.getD_eq_getElem?_getD]
    rw [List.getElem?_append_right (by omega)]
theorem growCrs_ok (n : Nat) (hn : n ≤ 10000000) : CallVC Tryz.prog 136 [.d .nils, .d (.int .i64 n)] ⟨[], []⟩
    (Ret (fun b : Bool => bif b then ([.osl (.loc 0) 0 0 0], ⟨[some (.vec 68 16 0 0 fun _ => [])], []⟩) else ([.d .nils], ⟨[], []⟩)) fun _ => True) := by
  refine call_rule hT (T := tab) (N := 27) (rs := [.tmp 4]) _ _ Tryz.func136 rfl rfl rfl (by kernel_rfl) rfl ?_
  ((refine xW ?_ ?_) <;> intros)
  · refine ⟨true, True.intro, ?_, rfl⟩
    repeat' (first | exact True.intro | exact rfl | exact Nat.le_refl _ | refine And.intro ?_ ?_)
    · exact Nat.zero_le _
    · intro i hi
      omega
  · exact ⟨false, True.intro, by repeat' (first | exact True.intro | exact rfl | exact Nat.le_refl _ | refine And.intro ?_ ?_), rfl⟩
theorem concatCrs_ok (a b : List Crs) (ha : a.length ≤ 1000000) (hb : b.length ≤ 1000000) : Pure Tryz.prog 78 [.sl 1 2 (nthD [[eCrss a], [eCrss b]])] [eCrss (a ++ b)] := by
  obtain ⟨L, l0, l1, l2⟩ : ∃ L : Nat → Nat, L 0 = 0 ∧ L 1 = a.length ∧ L 2 = a.length + b.length := ⟨fun k => match k with | 0 => 0 | 1 => a.length | _ => a.length + b.length, rfl, rfl, rfl⟩
  obtain ⟨C, c0, c1, c2⟩ : ∃ C : Nat → List Crs, C 0 = [] ∧ C 1 = a ∧ C 2 = a ++ b := ⟨cat2 a b, rfl, rfl, rfl⟩
  have n0 : (C 0).length = 0 := by rw [c0]; rfl
  have n1 : (C 1).length = a.length := by rw [c1]
  have n2 : (C 2).length = a.length + b.length := by rw [c2, List.length_append]
  have kc : Kp (C 0 = [] ∧ C 1 = a ∧ C 2 = a ++ b) := ⟨⟨c0, c1, c2⟩⟩
  have kl : Kp (L 0 = 0 ∧ L 1 = a.length ∧ L 2 = a.length + b.length) := ⟨⟨l0, l1, l2⟩⟩
  have kn : Kp ((C 0).length = 0 ∧ (C 1).length = a.length ∧ (C 2).length = a.length + b.length) := ⟨⟨n0, n1, n2⟩⟩
  clear c0 c1 c2 l0 l1 l2 n0 n1 n2
  refine pure_rule hT (T := tab) (N := 36) (rs := [.tmp 2]) Tryz.func78 rfl rfl rfl (by kernel_rfl) rfl ?_
  (refine gW ?_; intros)
  refine loop_rule hT (S := Nat) (fun k => ([(0, .d (.sl 1 2 (nthD [[eCrss a], [eCrss b]]))), (3, .d (.int .i64 (L k))), (9, .d (.sl 1 2 (nthD [[eCrss a], [eCrss b]]))), (10, .d (.int .i64 2)), (11, .d (.int .i64 k))], ⟨[], []⟩)) (fun k => k ≤ 2) (fun k => 2 - k) 0 ?_ ?_ ?_
  · repeat' (first | exact True.intro | exact rfl | exact Nat.le_refl _ | refine And.intro ?_ ?_)
    exact congrArg AV.d (congrArg (D.int .i64) (by rw [kl.h.1]; rfl))
  · exact Nat.zero_le _
  · intro k hk
    have hk' : k = 0 ∨ k = 1 ∨ k = 2 := by omega
    rcases hk' with rfl | rfl | rfl
    · have q := kl.h.1
      (refine gW ?_; intros)
      refine ⟨1, by decide, by decide, ?_⟩
      repeat' (first | exact True.intro | exact rfl | exact Nat.le_refl _ | refine And.intro ?_ ?_)
      exact congrArg AV.d (congrArg (D.int .i64) (by have := kl.h.1; have := kl.h.2.1; omega))
    · have q := kl.h.2.1
      (refine gW ?_; intros)
      refine ⟨2, by decide, by decide, ?_⟩
      repeat' (first | exact True.intro | exact rfl | exact Nat.le_refl _ | refine And.intro ?_ ?_)
      exact congrArg AV.d (congrArg (D.int .i64) (by have := kl.h.2.1; have := kl.h.2.2; omega))
    · (refine gW ?_; intros)
      refine (growCrs_ok (L 2) (by have := kl.h.2.2; omega)).at [] rfl True.intro (fun s _ => ?_)
      cases s
      all_goals refine ⟨rfl, ?_⟩
      repeat' (first | with_reducible refine Sq.go ?_ | ((with_reducible refine Ev.mk ?_); conv => whnf) | with_reducible refine Dr.mk ⟨by kernel_rfl, by kernel_rfl⟩ ?_ | with_reducible refine obG ?_ | with_reducible refine Ob.mk ?_ ?_ | (with_reducible first | refine brT fun h => ?_ | refine brF fun h => ?_ | refine Br.mk (fun h => ?_) fun h => ?_) <;> (try simp only [bsl, beq_iff_eq, bne_iff_ne, bs2] at h) <;> (try contradiction) <;> try (exfalso; omega))
      refine Awp.vec 6 68 16 (fun _ => []) rfl ?_
      all_goals
        refine loop_rule hT (S := Nat) (fun k => ([(0, .d (.sl 1 2 (nthD [[eCrss a], [eCrss b]]))), (6, .osl (.loc 0) k 0 (C k).length), (25, .d (.sl 1 2 (nthD [[eCrss a], [eCrss b]]))), (26, .d (.int .i64 2)), (27, .d (.int .i64 k))], ⟨[some (.vec 68 16 k (C k).length (rowsOf eCrs (C k)))], []⟩)) (fun k => k ≤ 2) (fun k => 2 - k) 0 ?_ ?_ ?_
        · repeat' (first | exact True.intro | exact rfl | exact Nat.le_refl _ | refine And.intro ?_ ?_)
          all_goals first
            | (exact congrArg (AV.osl (.loc 0) 0 0) kn.h.1.symm)
            | (exact Nat.le_of_eq kn.h.1)
            | (exact kn.h.1)
            | (exact kn.h.1.symm)
            | (intro i hi
               rw [kn.h.1] at hi
               exact absurd hi (Nat.not_lt_zero i))
            | trace_state
        · exact Nat.zero_le _
        intro k hk
        have hk' : k = 0 ∨ k = 1 ∨ k = 2 := by omega
        rcases hk' with rfl | rfl | rfl
        · have q := kn.h.1
          (refine gW ?_; intros)
          refine ⟨1, by decide, by decide, ?_⟩
          repeat' (first | exact True.intro | exact rfl | exact Nat.le_refl _ | refine And.intro ?_ ?_)
          all_goals first
            | (exact congrArg (AV.osl (.loc 0) 1 0) (by have := kn.h.1; have := kn.h.2.1; omega))
            | (have := kn.h.1; have := kn.h.2.1; omega)
            | (intro i hi
               refine ⟨?_, rfl⟩
               rw [rowsOf_cat eCrs (C 0) a rfl i, kc.h.1, kc.h.2.1]
               rfl)
            | trace_state
        · have q := kn.h.2.1
          (refine gW ?_; intros)
          refine ⟨2, by decide, by decide, ?_⟩
          repeat' (first | exact True.intro | exact rfl | exact Nat.le_refl _ | refine And.intro ?_ ?_)
          all_goals first
            | (exact congrArg (AV.osl (.loc 0) 2 0) (by have := kn.h.2.1; have := kn.h.2.2; omega))
            | (have := kn.h.2.1; have := kn.h.2.2; omega)
            | (intro i hi
               refine ⟨?_, rfl⟩
               rw [rowsOf_cat eCrs (C 1) b rfl i, kc.h.2.1, kc.h.2.2])
            | trace_state
        · (refine gW ?_; intros)
          refine ⟨⟨rfl, rfl, Nat.le_of_eq (Nat.zero_add _), ?_, fun j hj => ?_⟩, True.intro⟩
          · rw [kc.h.2.2]
          · rw [Nat.zero_add, kc.h.2.2]
            rfl
theorem growPrg_ok (n : Nat) (hn : n ≤ 10000000) : CallVC Tryz.prog 137 [.d .nils, .d (.int .i64 n)] ⟨[], []⟩
    (Ret (fun b : Bool => bif b then ([.osl (.loc 0) 0 0 0], ⟨[some (.vec 78 7 0 0 fun _ => [])], []⟩) else ([.d .nils], ⟨[], []⟩)) fun _ => True) := by
  refine call_rule hT (T := tab) (N := 27) (rs := [.tmp 4]) _ _ Tryz.func137 rfl rfl rfl (by kernel_rfl) rfl ?_
  ((refine xW ?_ ?_) <;> intros)
  · refine ⟨true, True.intro, ?_, rfl⟩
    repeat' (first | exact True.intro | exact rfl | exact Nat.le_refl _ | refine And.intro ?_ ?_)
    · exact Nat.zero_le _
    · intro i hi
      omega
  · exact ⟨false, True.intro, by repeat' (first | exact True.intro | exact rfl | exact Nat.le_refl _ | refine And.intro ?_ ?_), rfl⟩
theorem concatPrg_ok (a b : List Prg) (ha : a.length ≤ 1000000) (hb : b.length ≤ 1000000) : Pure Tryz.prog 79 [.sl 1 2 (nthD [[ePrgs a], [ePrgs b]])] [ePrgs (a ++ b)] := by
  obtain ⟨L, l0, l1, l2⟩ : ∃ L : Nat → Nat, L 0 = 0 ∧ L 1 = a.length ∧ L 2 = a.length + b.length := ⟨fun k => match k with | 0 => 0 | 1 => a.length | _ => a.length + b.length, rfl, rfl, rfl⟩
  obtain ⟨C, c0, c1, c2⟩ : ∃ C : Nat → List Prg, C 0 = [] ∧ C 1 = a ∧ C 2 = a ++ b := ⟨cat2 a b, rfl, rfl, rfl⟩
  have n0 : (C 0).length = 0 := by rw [c0]; rfl
  have n1 : (C 1).length = a.length := by rw [c1]
  have n2 : (C 2).length = a.length + b.length := by rw [c2, List.length_append]
  have kc : Kp (C 0 = [] ∧ C 1 = a ∧ C 2 = a ++ b) := ⟨⟨c0, c1, c2⟩⟩
  have kl : Kp (L 0 = 0 ∧ L 1 = a.length ∧ L 2 = a.length + b.length) := ⟨⟨l0, l1, l2⟩⟩
  have kn : Kp ((C 0).length = 0 ∧ (C 1).length = a.length ∧ (C 2).length = a.length + b.length) := ⟨⟨n0, n1, n2⟩⟩
  clear c0 c1 c2 l0 l1 l2 n0 n1 n2
  refine pure_rule hT (T := tab) (N := 36) (rs := [.tmp 2]) Tryz.func79 rfl rfl rfl (by kernel_rfl) rfl ?_
  (refine gW ?_; intros)
  refine loop_rule hT (S := Nat) (fun k => ([(0, .d (.sl 1 2 (nthD [[ePrgs a], [ePrgs b]]))), (3, .d (.int .i64 (L k))), (9, .d (.sl 1 2 (nthD [[ePrgs a], [ePrgs b]]))), (10, .d (.int .i64 2)), (11, .d (.int .i64 k))], ⟨[], []⟩)) (fun k => k ≤ 2) (fun k => 2 - k) 0 ?_ ?_ ?_
  · repeat' (first | exact True.intro | exact rfl | exact Nat.le_refl _ | refine And.intro ?_ ?_)
    exact congrArg AV.d (congrArg (D.int .i64) (by rw [kl.h.1]; rfl))
  · exact Nat.zero_le _
  · intro k hk
    have hk' : k = 0 ∨ k = 1 ∨ k = 2 := by omega
    rcases hk' with rfl | rfl | rfl
    · have q := kl.h.1
      (refine gW ?_; intros)
      refine ⟨1, by decide, by decide, ?_⟩
      repeat' (first | exact True.intro | exact rfl | exact Nat.le_refl _ | refine And.intro ?_ ?_)
      exact congrArg AV.d (congrArg (D.int .i64) (by have := kl.h.1; have := kl.h.2.1; omega))
    · have q := kl.h.2.1
      (refine gW ?_; intros)
      refine ⟨2, by decide, by decide, ?_⟩
      repeat' (first | exact True.intro | exact rfl | exact Nat.le_refl _ | refine And.intro ?_ ?_)
      exact congrArg AV.d (congrArg (D.int .i64) (by have := kl.h.2.1; have := kl.h.2.2; omega))
    · (refine gW ?_; intros)
      refine (growPrg_ok (L 2) (by have := kl.h.2.2; omega)).at [] rfl True.intro (fun s _ => ?_)
      cases s
      all_goals refine ⟨rfl, ?_⟩
      repeat' (first | with_reducible refine Sq.go ?_ | ((with_reducible refine Ev.mk ?_); conv => whnf) | with_reducible refine Dr.mk ⟨by kernel_rfl, by kernel_rfl⟩ ?_ | with_reducible refine obG ?_ | with_reducible refine Ob.mk ?_ ?_ | (with_reducible first | refine brT fun h => ?_ | refine brF fun h => ?_ | refine Br.mk (fun h => ?_) fun h => ?_) <;> (try simp only [bsl, beq_iff_eq, bne_iff_ne, bs2] at h) <;> (try contradiction) <;> try (exfalso; omega))
      refine Awp.vec 6 78 7 (fun _ => []) rfl ?_
      all_goals
        refine loop_rule hT (S := Nat) (fun k => ([(0, .d (.sl 1 2 (nthD [[ePrgs a], [ePrgs b]]))), (6, .osl (.loc 0) k 0 (C k).length), (25, .d (.sl 1 2 (nthD [[ePrgs a], [ePrgs b]]))), (26, .d (.int .i64 2)), (27, .d (.int .i64 k))], ⟨[some (.vec 78 7 k (C k).length (rowsOf ePrg (C k)))], []⟩)) (fun k => k ≤ 2) (fun k => 2 - k) 0 ?_ ?_ ?_
        · repeat' (first | exact True.intro | exact rfl | exact Nat.le_refl _ | refine And.intro ?_ ?_)
          all_goals first
            | (exact congrArg (AV.osl (.loc 0) 0 0) kn.h.1.symm)
            | (exact Nat.le_of_eq kn.h.1)
            | (exact kn.h.1)
            | (exact kn.h.1.symm)
            | (intro i hi
               rw [kn.h.1] at hi
               exact absurd hi (Nat.not_lt_zero i))
            | trace_state
        · exact Nat.zero_le _
        intro k hk
        have hk' : k = 0 ∨ k = 1 ∨ k = 2 := by omega
        rcases hk' with rfl | rfl | rfl
        · have q := kn.h.1
          (refine gW ?_; intros)
          refine ⟨1, by decide, by decide, ?_⟩
          repeat' (first | exact True.intro | exact rfl | exact Nat.le_refl _ | refine And.intro ?_ ?_)
          all_goals first
            | (exact congrArg (AV.osl (.loc 0) 1 0) (by have := kn.h.1; have := kn.h.2.1; omega))
            | (have := kn.h.1; have := kn.h.2.1; omega)
            | (intro i hi
               refine ⟨?_, rfl⟩
               rw [rowsOf_cat ePrg (C 0) a rfl i, kc.h.1, kc.h.2.1]
               rfl)
            | trace_state
        · have q := kn.h.2.1
          (refine gW ?_; intros)
          refine ⟨2, by decide, by decide, ?_⟩
          repeat' (first | exact True.intro | exact rfl | exact Nat.le_refl _ | refine And.intro ?_ ?_)
          all_goals first
            | (exact congrArg (AV.osl (.loc 0) 2 0) (by have := kn.h.2.1; have := kn.h.2.2; omega))
            | (have := kn.h.2.1; have := kn.h.2.2; omega)
            | (intro i hi
               refine ⟨?_, rfl⟩
               rw [rowsOf_cat ePrg (C 1) b rfl i, kc.h.2.1, kc.h.2.2])
            | trace_state
        · (refine gW ?_; intros)
          refine ⟨⟨rfl, rfl, Nat.le_of_eq (Nat.zero_add _), ?_, fun j hj => ?_⟩, True.intro⟩
          · rw [kc.h.2.2]
          · rw [Nat.zero_add, kc.h.2.2]
            rfl
theorem cloneSys_ok (q : List Sys) (hq : q.length ≤ 1000000) : Pure Tryz.prog 80 [eSyss q] [eSyss q] := by
  refine pure_rule hT (T := tab) (N := 8) (rs := [.tmp 2]) Tryz.func80 rfl rfl rfl (by kernel_rfl) rfl ?_
  (refine gW ?_; intros)
  refine op_isnil rfl Tryz.underlying24 rfl rfl (fun b hb => ?_)
  cases b
  · (refine gW ?_; intros)
    refine ⟨⟨rfl, rfl, ?_, Nat.zero_add _, fun i hi => ?_⟩, True.intro⟩
    · show 0 + (0 + q.length) ≤ 0 + q.length
      omega
    · show joinF 0 _ _ (0 + i) = _
      rw [joinF_ge (Nat.zero_le _), Nat.sub_zero, Nat.zero_add]
  · have h0 : q = [] := List.eq_nil_of_length_eq_zero (hb rfl)
    subst h0
    (refine gW ?_; intros)
    exact ⟨rfl, True.intro⟩
end Go.Proofs.YtmlhghddfobmmaaGreatDoor
