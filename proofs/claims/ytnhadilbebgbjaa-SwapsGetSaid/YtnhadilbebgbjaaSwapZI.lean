/-
  Swaps: the law about the cycle that is found.
-/
import Derived.Test.YtnhadilbebgbjaaSwapZF
import Derived.Test.YtnhadilbebgbjaaSwapZH
namespace Go.Proofs.Ytnhadilbebgbjaa
set_option linter.unusedSimpArgs false
set_option linter.unusedVariables false
open Go Go.Ab
set_option maxRecDepth 100000
set_option maxHeartbeats 0
theorem chain_len (l : List Swap) (d : Int → Option Int) (i : Int) : ∀ (f : Nat) (k : Int), (chainL l d i f k).length ≤ f
  | 0, k => by simp [chainL]
  | f + 1, k => by
    unfold chainL
    split
    · exact Nat.zero_le _
    · rw [List.length_cons]
      have := chain_len l d i f (nextS l d k.toNat)
      omega
theorem cycW_le (l : List Swap) : (cycW l).length ≤ l.length + 3 := by
  unfold cycW
  cases h : cycL l with
  | none => exact Nat.zero_le _
  | some w =>
    obtain ⟨i, _, _, e, _⟩ := cycL_some h
    have := chain_len l (bfs l i).d i (l.length + 1) (nextS l (bfs l i).d i)
    subst e
    show (_ :: _ : List Int).length ≤ _
    rw [List.length_cons]
    omega
theorem isC_all {l : List Swap} {w : List Int} (h : isC l w = true) {k : Nat} (hk : k < w.length) : cyS l w k = true := by
  unfold isC at h
  rw [Bool.and_eq_true, List.all_eq_true] at h
  exact h.1 k (List.mem_range.2 hk)
theorem found_ok (hS : Pure Try.prog 10 [] [.bool true]) (l : List Swap) : Pure Try.prog 6 [eSwaps l] [.bool true] := by
  refine pure_rule hT (T := tab) (N := 111) (rs := [.tmp 2]) Try.func6 rfl rfl rfl (by kernel_rfl) rfl ?_
  have hF := few30_ok l
  by_cases h20 : l.length ≤ 20
  rotate_left
  · rw [decide_eq_false h20] at hF
    repeat' (first | with_reducible refine Sq.go ?_ | ((with_reducible refine Ev.mk ?_); conv => whnf) | with_reducible refine Dr.mk ⟨by kernel_rfl, by kernel_rfl⟩ ?_ | with_reducible refine obG ?_ | with_reducible refine Ob.mk ?_ ?_ | (with_reducible first | refine brT fun h => ?_ | refine brF fun h => ?_ | refine Br.mk (fun h => ?_) fun h => ?_) <;> (try simp only [bsl, beq_iff_eq, bne_iff_ne, bs2] at h) <;> (try contradiction) <;> try (exfalso; omega))
    refine hS.call ?_
    repeat' (first | with_reducible refine Sq.go ?_ | ((with_reducible refine Ev.mk ?_); conv => whnf) | with_reducible refine Dr.mk ⟨by kernel_rfl, by kernel_rfl⟩ ?_ | with_reducible refine obG ?_ | with_reducible refine Ob.mk ?_ ?_ | (with_reducible first | refine brT fun h => ?_ | refine brF fun h => ?_ | refine Br.mk (fun h => ?_) fun h => ?_) <;> (try simp only [bsl, beq_iff_eq, bne_iff_ne, bs2] at h) <;> (try contradiction) <;> try (exfalso; omega))
    refine hF.call ?_
    repeat' (first | with_reducible refine Sq.go ?_ | ((with_reducible refine Ev.mk ?_); conv => whnf) | with_reducible refine Dr.mk ⟨by kernel_rfl, by kernel_rfl⟩ ?_ | with_reducible refine obG ?_ | with_reducible refine Ob.mk ?_ ?_ | (with_reducible first | refine brT fun h => ?_ | refine brF fun h => ?_ | refine Br.mk (fun h => ?_) fun h => ?_) <;> (try simp only [bsl, beq_iff_eq, bne_iff_ne, bs2] at h) <;> (try contradiction) <;> try (exfalso; omega))
    exact ⟨rfl, True.intro⟩
  rw [decide_eq_true h20] at hF
  have hC := cycle_ok l (by omega)
  have hwl := cycW_le l
  obtain ⟨ok, hok⟩ : ∃ ok, cycB l = ok := ⟨_, rfl⟩
  obtain ⟨w, hw⟩ : ∃ w, cycW l = w := ⟨_, rfl⟩
  have hnone : ok = false → w = [] ∧ ∀ i, ¬ Cyc l i := fun h => by subst h; rw [← hw]; exact cyc_none hok
  have hsome : ok = true → ∃ i, Found l w i := fun h => by subst h; rw [← hw]; exact cyc_found hok
  rw [hok, hw] at hC
  rw [hw] at hwl
  repeat' (first | with_reducible refine Sq.go ?_ | ((with_reducible refine Ev.mk ?_); conv => whnf) | with_reducible refine Dr.mk ⟨by kernel_rfl, by kernel_rfl⟩ ?_ | with_reducible refine obG ?_ | with_reducible refine Ob.mk ?_ ?_ | (with_reducible first | refine brT fun h => ?_ | refine brF fun h => ?_ | refine Br.mk (fun h => ?_) fun h => ?_) <;> (try simp only [bsl, beq_iff_eq, bne_iff_ne, bs2] at h) <;> (try contradiction) <;> try (exfalso; omega))
  refine hS.call ?_
  repeat' (first | with_reducible refine Sq.go ?_ | ((with_reducible refine Ev.mk ?_); conv => whnf) | with_reducible refine Dr.mk ⟨by kernel_rfl, by kernel_rfl⟩ ?_ | with_reducible refine obG ?_ | with_reducible refine Ob.mk ?_ ?_ | (with_reducible first | refine brT fun h => ?_ | refine brF fun h => ?_ | refine Br.mk (fun h => ?_) fun h => ?_) <;> (try simp only [bsl, beq_iff_eq, bne_iff_ne, bs2] at h) <;> (try contradiction) <;> try (exfalso; omega))
  refine hF.call ?_
  repeat' (first | with_reducible refine Sq.go ?_ | ((with_reducible refine Ev.mk ?_); conv => whnf) | with_reducible refine Dr.mk ⟨by kernel_rfl, by kernel_rfl⟩ ?_ | with_reducible refine obG ?_ | with_reducible refine Ob.mk ?_ ?_ | (with_reducible first | refine brT fun h => ?_ | refine brF fun h => ?_ | refine Br.mk (fun h => ?_) fun h => ?_) <;> (try simp only [bsl, beq_iff_eq, bne_iff_ne, bs2] at h) <;> (try contradiction) <;> try (exfalso; omega))
  refine hC.call ?_
  repeat' (first | with_reducible refine Sq.go ?_ | ((with_reducible refine Ev.mk ?_); conv => whnf) | with_reducible refine Dr.mk ⟨by kernel_rfl, by kernel_rfl⟩ ?_ | with_reducible refine obG ?_ | with_reducible refine Ob.mk ?_ ?_ | (with_reducible first | refine brT fun h => ?_ | refine brF fun h => ?_ | refine Br.mk (fun h => ?_) fun h => ?_) <;> (try simp only [bsl, beq_iff_eq, bne_iff_ne, bs2] at h) <;> (try contradiction) <;> try (exfalso; omega))
  refine loop_rule hT (S := Nat × Nat) (fun s => ([(0, .d (eSwaps l)), (3, .d (eInts w)), (4, .d (.bool ok)), (5, .d (.int .i64 s.2)), (6, .d (.int .i64 ((s.1 : Int) - 1)))], ⟨[], []⟩))
    (fun s => s.1 ≤ s.2 ∧ s.2 ≤ l.length ∧ (s.2 < l.length → Cyc l s.2) ∧ ∀ j, s.1 ≤ j → j < s.2 → ¬ Cyc l j) (fun s => s.1) (l.length, l.length) ?_ ?_ ?_
  · repeat' (first | exact True.intro | exact rfl | exact Nat.le_refl _ | refine And.intro ?_ ?_)
  · exact ⟨Nat.le_refl _, Nat.le_refl _, fun h => absurd h (Nat.lt_irrefl _), fun j h1 h2 => absurd h2 (by dsimp only at h1 ⊢; omega)⟩
  · rintro ⟨k, m⟩ ⟨hkm, hm, hcy, hno⟩
    dsimp only at hkm hm hcy hno ⊢
    cases k with
    | succ k =>
      have hR := reaches_ok l (by omega) k (by omega)
      have hcD := cycD_iff (l := l) (i := k) (by omega)
      have e1 : ((k + 1 : Nat) : Int) - 1 = k := by omega
      rw [e1]
      cases hb : cycD l k
      · rw [hb] at hR hcD
        have hno2 : ¬ Cyc l k := fun h => by have := hcD.2 h; cases this
        repeat' (first | with_reducible refine Sq.go ?_ | ((with_reducible refine Ev.mk ?_); conv => whnf) | with_reducible refine Dr.mk ⟨by kernel_rfl, by kernel_rfl⟩ ?_ | with_reducible refine obG ?_ | with_reducible refine Ob.mk ?_ ?_ | (with_reducible first | refine brT fun h => ?_ | refine brF fun h => ?_ | refine Br.mk (fun h => ?_) fun h => ?_) <;> (try simp only [bsl, beq_iff_eq, bne_iff_ne, bs2] at h) <;> (try contradiction) <;> try (exfalso; omega))
        refine hR.call ?_
        repeat' (first | with_reducible refine Sq.go ?_ | ((with_reducible refine Ev.mk ?_); conv => whnf) | with_reducible refine Dr.mk ⟨by kernel_rfl, by kernel_rfl⟩ ?_ | with_reducible refine obG ?_ | with_reducible refine Ob.mk ?_ ?_ | (with_reducible first | refine brT fun h => ?_ | refine brF fun h => ?_ | refine Br.mk (fun h => ?_) fun h => ?_) <;> (try simp only [bsl, beq_iff_eq, bne_iff_ne, bs2] at h) <;> (try contradiction) <;> try (exfalso; omega))
        refine ⟨(k, m), ⟨by show k ≤ m; omega, hm, hcy, fun j h1 h2 => ?_⟩, by show k < k + 1; omega, ?_⟩
        · by_cases e : j = k
          · rw [e]; exact hno2
          · exact hno j (by dsimp only at h1; omega) h2
        · repeat' (first | exact True.intro | exact rfl | exact Nat.le_refl _ | refine And.intro ?_ ?_)
      · rw [hb] at hR hcD
        repeat' (first | with_reducible refine Sq.go ?_ | ((with_reducible refine Ev.mk ?_); conv => whnf) | with_reducible refine Dr.mk ⟨by kernel_rfl, by kernel_rfl⟩ ?_ | with_reducible refine obG ?_ | with_reducible refine Ob.mk ?_ ?_ | (with_reducible first | refine brT fun h => ?_ | refine brF fun h => ?_ | refine Br.mk (fun h => ?_) fun h => ?_) <;> (try simp only [bsl, beq_iff_eq, bne_iff_ne, bs2] at h) <;> (try contradiction) <;> try (exfalso; omega))
        refine hR.call ?_
        repeat' (first | with_reducible refine Sq.go ?_ | ((with_reducible refine Ev.mk ?_); conv => whnf) | with_reducible refine Dr.mk ⟨by kernel_rfl, by kernel_rfl⟩ ?_ | with_reducible refine obG ?_ | with_reducible refine Ob.mk ?_ ?_ | (with_reducible first | refine brT fun h => ?_ | refine brF fun h => ?_ | refine Br.mk (fun h => ?_) fun h => ?_) <;> (try simp only [bsl, beq_iff_eq, bne_iff_ne, bs2] at h) <;> (try contradiction) <;> try (exfalso; omega))
        refine ⟨(k, k), ⟨by show k ≤ k; omega, by show k ≤ l.length; omega, fun _ => hcD.1 rfl, fun j h1 h2 => absurd h2 (by dsimp only at h1 ⊢; omega)⟩, by show k < k + 1; omega, ?_⟩
        · repeat' (first | exact True.intro | exact rfl | exact Nat.le_refl _ | refine And.intro ?_ ?_)
    | zero =>
      cases ok with
      | false =>
        obtain ⟨hwn, hnc⟩ := hnone rfl
        subst hwn
        have hml : m = l.length := by
          rcases Nat.lt_or_ge m l.length with h | h
          · exact absurd (hcy h) (hnc m)
          · omega
        subst hml
        repeat' (first | with_reducible refine Sq.go ?_ | ((with_reducible refine Ev.mk ?_); conv => whnf) | with_reducible refine Dr.mk ⟨by kernel_rfl, by kernel_rfl⟩ ?_ | with_reducible refine obG ?_ | with_reducible refine Ob.mk ?_ ?_ | (with_reducible first | refine brT fun h => ?_ | refine brF fun h => ?_ | refine Br.mk (fun h => ?_) fun h => ?_) <;> (try simp only [bsl, beq_iff_eq, bne_iff_ne, bs2] at h) <;> (try contradiction) <;> try (exfalso; omega))
        refine ⟨congrArg D.bool ?_, True.intro⟩
        rw [decide_eq_true (rfl : (l.length : Int) = l.length)]
        rfl
      | true =>
        obtain ⟨i, hFd⟩ := hsome rfl
        have hil := hFd.cyc.lt
        have hmi : m = i := by
          rcases Nat.lt_trichotomy m i with h | h | h
          · exact absurd (hcy (by omega)) (hFd.least m h)
          · exact h
          · exact absurd hFd.cyc (hno i (Nat.zero_le _) h)
        subst hmi
        obtain ⟨c, hwc, hcn⟩ := hFd.hd
        have hw2 : 2 ≤ w.length := by rw [hwc, List.length_cons]; have := List.length_pos_iff.2 hcn; omega
        have hw0 : w.getD (Int.toNat 0) default = m := by rw [hwc]; rfl
        have hall := fun k (hk : k < w.length) => isC_all hFd.ok hk
        repeat' (first | with_reducible refine Sq.go ?_ | ((with_reducible refine Ev.mk ?_); conv => whnf) | with_reducible refine Dr.mk ⟨by kernel_rfl, by kernel_rfl⟩ ?_ | with_reducible refine obG ?_ | with_reducible refine Ob.mk ?_ ?_ | (with_reducible first | refine brT fun h => ?_ | refine brF fun h => ?_ | refine Br.mk (fun h => ?_) fun h => ?_) <;> (try simp only [bsl, beq_iff_eq, bne_iff_ne, bs2] at h) <;> (try contradiction) <;> try (exfalso; omega))
        refine loop_rule hT (S := Nat) (fun k => ([(0, .d (eSwaps l)), (3, .d (eInts w)), (7, .mp (.loc 0)), (57, .d (eInts w)), (58, .d (.int .i64 w.length)), (59, .d (.int .i64 k))], ⟨[some (.map (.one .i64) (hasM w k) fun x => .d (.bool (hasM w k x)))], []⟩))
          (fun k => k ≤ w.length) (fun k => w.length - k) 0 ?_ ?_ ?_
        · repeat' (first | exact True.intro | exact rfl | exact Nat.le_refl _ | refine And.intro ?_ ?_)
          all_goals
            intro key hf
            exact ⟨rfl, fun h => by cases h⟩
        · exact Nat.zero_le _
        · intro k hk
          by_cases hk2 : k < w.length
          · have hcy := hall k hk2
            have hmod := tmod_nat k w.length
            have hlt := Nat.mod_lt (k + 1) (show 0 < w.length by omega)
            have hmx := hasM_one w k (w.getD k default)
            unfold cyS at hcy
            rw [Bool.and_eq_true, Bool.and_eq_true, Bool.and_eq_true, ← hmx] at hcy
            obtain ⟨x, hx⟩ : ∃ x, w.getD k default = x := ⟨_, rfl⟩
            obtain ⟨y, hy⟩ : ∃ y, nxI w k = y := ⟨_, rfl⟩
            have hy2 : w.getD (((k : Int) + 1).tmod (w.length : Int)).toNat default = y := by rw [hmod, Int.toNat_natCast]; exact hy
            have htm : 0 ≤ ((k : Int) + 1).tmod (w.length : Int) ∧ ((k : Int) + 1).tmod (w.length : Int) < w.length := by rw [hmod]; omega
            have hinm : In .i64 (((k : Int) + 1).tmod (w.length : Int)) := in64.2 (by omega)
            rw [hx, hy] at hcy
            have hx2 : w.getD (k : Int).toNat default = x := hx
            obtain ⟨a1, a2, a3, a4⟩ := hcy
            have a3 : hasM w k [x] = false := by cases e : hasM w k [x]; rfl; rw [e] at a3; cases a3
            obtain ⟨x0, x1⟩ := wit_in a1
            obtain ⟨y0, y1⟩ := wit_in a2
            have a5 : (l.getD x.toNat default).take.sec = (l.getD y.toNat default).give.sec ∧ (l.getD x.toNat default).take.lab = (l.getD y.toNat default).give.lab := by
              rw [folB, Bool.and_eq_true, decide_eq_true_eq, decide_eq_true_eq] at a4
              exact a4
            repeat' (first | ((with_reducible refine Ev.mk ?_); conv => whnf) | with_reducible refine Dr.mk ⟨by kernel_rfl, by kernel_rfl⟩ ?_ | with_reducible refine obG ?_ | with_reducible refine Ob.mk ?_ ?_ | (with_reducible first | refine brT fun h => ?_ | refine brF fun h => ?_ | refine Br.mk (fun h => ?_) fun h => ?_) <;> (try simp only [bsl, beq_iff_eq, bne_iff_ne, bs2] at h) <;> (try contradiction) <;> try (exfalso; omega))
            refine Sq.go ?_
            repeat' (first | ((with_reducible refine Ev.mk ?_); conv => whnf) | with_reducible refine Dr.mk ⟨by kernel_rfl, by kernel_rfl⟩ ?_ | with_reducible refine obG ?_ | with_reducible refine Ob.mk ?_ ?_ | (with_reducible first | refine brT fun h => ?_ | refine brF fun h => ?_ | refine Br.mk (fun h => ?_) fun h => ?_) <;> (try simp only [bsl, beq_iff_eq, bne_iff_ne, bs2] at h) <;> (try contradiction) <;> try (exfalso; omega))
            refine Sq.go ?_
            repeat' (first | ((with_reducible refine Ev.mk ?_); conv => whnf) | with_reducible refine Dr.mk ⟨by kernel_rfl, by kernel_rfl⟩ ?_ | with_reducible refine obG ?_ | with_reducible refine Ob.mk ?_ ?_ | (with_reducible first | refine brT fun h => ?_ | refine brF fun h => ?_ | refine Br.mk (fun h => ?_) fun h => ?_) <;> (try simp only [bsl, beq_iff_eq, bne_iff_ne, bs2] at h) <;> (try contradiction) <;> try (exfalso; omega))
            refine Sq.go ?_
            repeat' (first | ((with_reducible refine Ev.mk ?_); conv => whnf) | with_reducible refine Dr.mk ⟨by kernel_rfl, by kernel_rfl⟩ ?_ | with_reducible refine obG ?_ | with_reducible refine Ob.mk ?_ ?_ | (with_reducible first | refine brT fun h => ?_ | refine brF fun h => ?_ | refine Br.mk (fun h => ?_) fun h => ?_) <;> (try simp only [bsl, beq_iff_eq, bne_iff_ne, bs2] at h) <;> (try contradiction) <;> try (exfalso; omega))
            simp (config := { beta := false, eta := false, iota := false, proj := false, zeta := false, decide := false }) only [hx2, hy2]
            repeat' (first | with_reducible refine Sq.go ?_ | ((with_reducible refine Ev.mk ?_); conv => whnf) | with_reducible refine Dr.mk ⟨by kernel_rfl, by kernel_rfl⟩ ?_ | with_reducible refine obG ?_ | with_reducible refine Ob.mk ?_ ?_ | (with_reducible first | refine brT fun h => ?_ | refine brF fun h => ?_ | refine Br.mk (fun h => ?_) fun h => ?_) <;> (try simp only [bsl, beq_iff_eq, bne_iff_ne, bs2] at h) <;> (try contradiction) <;> try (exfalso; omega))
            · exfalso
              rcases h with ((((h | h) | h) | h) | h) | h
              all_goals first
                | omega
                | exact absurd h (nf a3)
                | exact absurd h (nt a3)
                | (rcases h with h | h <;> first | exact h a5.1 | exact h a5.2)
                | trace_state
            · refine ⟨k + 1, by show k + 1 ≤ w.length; omega, by show w.length - (k + 1) < w.length - k; omega, ?_⟩
              repeat' (first | exact True.intro | exact rfl | exact Nat.le_refl _ | refine And.intro ?_ ?_)
              all_goals
                intro key hf
                have hs : (decide (key = [x]) || hasM w k key) = hasM w (k + 1) key := by rw [← hx]; exact hasM_succ hk2 key
                exact ⟨hs, fun hh => ⟨(mapT hh).trans (congrArg (fun b => AV.d (D.bool b)) (hh.symm.trans hs)), rfl⟩⟩
          · repeat' (first | with_reducible refine Sq.go ?_ | ((with_reducible refine Ev.mk ?_); conv => whnf) | with_reducible refine Dr.mk ⟨by kernel_rfl, by kernel_rfl⟩ ?_ | with_reducible refine obG ?_ | with_reducible refine Ob.mk ?_ ?_ | (with_reducible first | refine brT fun h => ?_ | refine brF fun h => ?_ | refine Br.mk (fun h => ?_) fun h => ?_) <;> (try simp only [bsl, beq_iff_eq, bne_iff_ne, bs2] at h) <;> (try contradiction) <;> try (exfalso; omega))
            exact ⟨rfl, True.intro⟩
end Go.Proofs.Ytnhadilbebgbjaa
