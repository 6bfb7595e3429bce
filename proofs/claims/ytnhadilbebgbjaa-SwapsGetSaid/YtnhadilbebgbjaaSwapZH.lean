/-
  Swaps: whether one comes from a swap back to it: the law's own search.
-/
import Derived.Test.YtnhadilbebgbjaaSwapZE
import Derived.Test.YtnhadilbebgbjaaOpsF
namespace Go.Proofs.Ytnhadilbebgbjaa
set_option linter.unusedSimpArgs false
set_option linter.unusedVariables false
open Go Go.Ab
set_option maxRecDepth 100000
set_option maxHeartbeats 0
def cycD (l : List Swap) (i : Nat) : Bool := (cycF l i).isSome
theorem cycD_iff {l : List Swap} {i : Nat} (hi : i < l.length) : cycD l i = true ↔ Cyc l i := by
  unfold cycD
  cases e : cycF l i with
  | none => exact ⟨fun h => (by cases h), fun h => absurd h ((cycF_none hi).1 e)⟩
  | some w => exact ⟨fun _ => Classical.not_not.1 fun h => (by rw [(cycF_none hi).2 h] at e; cases e), fun _ => rfl⟩
theorem rch_first {l : List Swap} {a b : Nat} (h : Rch l a b) (hab : a ≠ b) : ∃ x, Fol l a x ∧ x ≠ a ∧ Rch l x b := by
  induction h with
  | refl => exact absurd rfl hab
  | step hf hr ih =>
    rename_i a k b
    by_cases e : k = a
    · subst e
      exact ih hab
    · exact ⟨k, hf, e, hr⟩
/-- All the while: what is in the queue can be reached; what follows the first of it is in it. -/
structure RI (l : List Swap) (i j k : Nat) (q : List Int) : Prop where
  nd : q.Nodup
  fst : (i : Int) ∈ q
  rg : ∀ x ∈ q, ∃ n : Nat, n < l.length ∧ x = n ∧ Rch l i n
  jq : j ≤ q.length
  cl : ∀ r, r < q.length → ∀ k', k' < l.length → (r < j ∨ r = j ∧ k' < k) → takeK l (q.getD r default).toNat = giveK l k' → (k' : Int) ≠ q.getD r default → (k' : Int) ∈ q ∧ k' ≠ i
theorem RI.init {l : List Swap} {i : Nat} (hi : i < l.length) : RI l i 0 0 [(i : Int)] where
  nd := by simp
  fst := by simp
  rg x hx := ⟨i, hi, by simpa using hx, .refl _⟩
  jq := Nat.zero_le _
  cl r _ k' _ h := by omega
theorem RI.skip {l : List Swap} {i j k : Nat} {q : List Int} (h : RI l i j k q) (hs : (k : Int) = q.getD j default ∨ ¬ takeK l (q.getD j default).toNat = giveK l k) : RI l i j (k + 1) q :=
  ⟨h.nd, h.fst, h.rg, h.jq, fun r hr k' hk' hc ht hne => by
    by_cases e : r = j ∧ k' = k
    · obtain ⟨rfl, rfl⟩ := e
      rcases hs with hs | hs
      · exact absurd hs hne
      · exact absurd ht hs
    · exact h.cl r hr k' hk' (by omega) ht hne⟩
theorem RI.old {l : List Swap} {i j k : Nat} {q : List Int} (h : RI l i j k q) (hk : (k : Int) ∈ q) (hki : k ≠ i) : RI l i j (k + 1) q :=
  ⟨h.nd, h.fst, h.rg, h.jq, fun r hr k' hk' hc ht hne => by
    by_cases e : r = j ∧ k' = k
    · obtain ⟨rfl, rfl⟩ := e
      exact ⟨hk, hki⟩
    · exact h.cl r hr k' hk' (by omega) ht hne⟩
theorem RI.new {l : List Swap} {i j k : Nat} {q : List Int} (h : RI l i j k q) (hj : j < q.length) (hkl : k < l.length) (hk : ¬ (k : Int) ∈ q) (hki : k ≠ i) (ht : takeK l (q.getD j default).toNat = giveK l k) : RI l i j (k + 1) (q ++ [(k : Int)]) where
  nd := List.nodup_append.2 ⟨h.nd, by simp, fun a ha b hb e => by rw [List.mem_singleton] at hb; subst hb; subst e; exact hk ha⟩
  fst := List.mem_append_left _ h.fst
  rg x hx := by
    rcases List.mem_append.1 hx with hx | hx
    · exact h.rg x hx
    · obtain ⟨n, hn, e, hr⟩ := h.rg _ (getD_mem hj)
      rw [e, Int.toNat_natCast] at ht
      exact ⟨k, hkl, by simpa using hx, hr.trans (.step ⟨hn, hkl, ht⟩ (.refl _))⟩
  jq := by rw [len_snoc]; have := h.jq; omega
  cl r hr k' hk' hc ht' hne := by
    have hrq : r < q.length := by omega
    rw [getD_append_left hrq] at ht' hne
    by_cases e : r = j ∧ k' = k
    · obtain ⟨rfl, rfl⟩ := e
      exact ⟨by simp, hki⟩
    · have := h.cl r hrq k' hk' (by omega) ht' hne
      exact ⟨List.mem_append_left _ this.1, this.2⟩
theorem RI.next {l : List Swap} {i j : Nat} {q : List Int} (h : RI l i j l.length q) (hj : j < q.length) : RI l i (j + 1) 0 q :=
  ⟨h.nd, h.fst, h.rg, hj, fun r hr k' hk' hc ht hne => h.cl r hr k' hk' (by omega) ht hne⟩
theorem RI.len {l : List Swap} {i j k : Nat} {q : List Int} (h : RI l i j k q) : q.length ≤ l.length :=
  nodup_len _ _ h.nd fun x hx => by obtain ⟨n, h1, h2, _⟩ := h.rg x hx; exact ⟨n, h1, h2⟩
theorem RI.no {l : List Swap} {i j : Nat} {q : List Int} (h : RI l i j 0 q) (hj : j = q.length) : ¬ Cyc l i := by
  have step : ∀ a b : Nat, (a : Int) ∈ q → Fol l a b → b ≠ a → (b : Int) ∈ q ∧ b ≠ i := fun a b ha hf hba => by
    obtain ⟨r, hr, e⟩ := List.getElem_of_mem ha
    have e2 : q.getD r default = a := by rw [List.getD_eq_getElem?_getD, List.getElem?_eq_getElem hr]; exact e
    exact h.cl r hr b hf.2.1 (by omega) (by rw [e2, Int.toNat_natCast]; exact hf.2.2) (by rw [e2]; omega)
  have all : ∀ a b : Nat, Rch l a b → (a : Int) ∈ q → a ≠ i → b ≠ i := fun a b hr => by
    induction hr with
    | refl => exact fun _ h => h
    | @step a k b hf _ ih =>
      intro ha hai
      by_cases e : k = a
      · subst e
        exact ih ha hai
      · obtain ⟨h1, h2⟩ := step a k ha hf e
        exact ih h1 h2
  rintro ⟨k, hf, hki, hr⟩
  obtain ⟨h1, h2⟩ := step i k h.fst hf hki
  exact all k i hr h1 h2 rfl
theorem RI.yes {l : List Swap} {i j k : Nat} {q : List Int} (h : RI l i j k q) (hj : j < q.length) (hi : i < l.length) {ik : Nat} (e : q.getD j default = ik) (hne : i ≠ ik) (ht : takeK l ik = giveK l i) : Cyc l i := by
  obtain ⟨n, hn, e2, hr⟩ := h.rg _ (getD_mem hj)
  rw [e] at e2
  obtain rfl : ik = n := by omega
  obtain ⟨x, h1, h2, h3⟩ := rch_first hr hne
  exact ⟨x, h1, h2, h3.trans (.step ⟨hn, hi, ht⟩ (.refl _))⟩
def memM (q : List Int) (i x : Nat) : Bool := decide ((x : Int) ∈ q ∧ x ≠ i)
def rowM (q : List Int) (i : Nat) : Nat → List AV := fun x => [.d (.bool (memM q i x))]
theorem met_row (v : List Int) {i k : Nat} (hki : k ≠ i) (x : Nat) : (bif Nat.beq x (oadd 0 (k : Int).toNat) then splice (rowM v i (oadd 0 (k : Int).toNat)) 0 [AV.d (.bool true)] else rowM v i x) = rowM (v ++ [(k : Int)]) i x := by
  rw [oadd_eq, Nat.zero_add, Int.toNat_natCast]
  by_cases e : x = k
  · subst e
    rw [show Nat.beq x x = true from Nat.beq_refl x]
    have : memM (v ++ [(x : Int)]) i x = true := decide_eq_true ⟨by simp, hki⟩
    simp [rowM, splice, this]
  · rw [show Nat.beq x k = false from Bool.eq_false_iff.2 fun h => e (Nat.eq_of_beq_eq_true h)]
    have h2 : ¬ (x : Int) = k := by omega
    simp [rowM, memM, h2]
structure QS where
  j : Nat
  g : Nat
  pre : List Int
  q : List Int
theorem reaches_ok (l : List Swap) (hl : l.length ≤ 1000) (i : Nat) (hi : i < l.length) : Pure Try.prog 25 [eSwaps l, .int .i64 i, .int .i64 i] [.bool (cycD l i)] := by
  refine pure_rule hT (T := tab) (N := 66) (rs := [.tmp 6]) Try.func25 rfl rfl rfl (by kernel_rfl) rfl ?_
  repeat' (first | with_reducible refine Sq.go ?_ | ((with_reducible refine Ev.mk ?_); conv => whnf) | with_reducible refine Dr.mk ⟨by kernel_rfl, by kernel_rfl⟩ ?_ | with_reducible refine obG ?_ | with_reducible refine Ob.mk ?_ ?_ | (with_reducible first | refine brT fun h => ?_ | refine brF fun h => ?_ | refine Br.mk (fun h => ?_) fun h => ?_) <;> (try simp only [bsl, beq_iff_eq, bne_iff_ne, bs2] at h) <;> (try contradiction) <;> try (exfalso; omega))
  refine op_make hT rfl rfl rfl (by decide) rfl rfl (by show l.length * 1 ≤ _; omega) ?_
  repeat' (first | with_reducible refine Sq.go ?_ | ((with_reducible refine Ev.mk ?_); conv => whnf) | with_reducible refine Dr.mk ⟨by kernel_rfl, by kernel_rfl⟩ ?_ | with_reducible refine obG ?_ | with_reducible refine Ob.mk ?_ ?_ | (with_reducible first | refine brT fun h => ?_ | refine brF fun h => ?_ | refine Br.mk (fun h => ?_) fun h => ?_) <;> (try simp only [bsl, beq_iff_eq, bne_iff_ne, bs2] at h) <;> (try contradiction) <;> try (exfalso; omega))
  refine loop_rule hT (S := QS) (fun s => ([(0, .d (eSwaps l)), (1, .d (.int .i64 i)), (2, .d (.int .i64 i)), (7, .osl (.loc 0) 0 0 l.length), (8, .osl (.loc 1) s.g s.pre.length (s.q.drop s.j).length)],
    ⟨[some (.vec 4 1 0 l.length (rowM s.q i)), some (.vec 3 1 s.g (s.pre.length + (s.q.drop s.j).length) (rowI (s.pre ++ s.q.drop s.j)))], []⟩))
    (fun s => RI l i s.j 0 s.q) (fun s => l.length - s.j) ⟨0, 0, [], [(i : Int)]⟩ ?_ ?_ ?_
  · repeat' (first | exact True.intro | exact rfl | exact Nat.le_refl _ | refine And.intro ?_ ?_)
    · intro x hx
      refine ⟨?_, rfl⟩
      show [AV.d (.bool false)] = rowM [(i : Int)] i x
      unfold rowM memM
      rw [decide_eq_false (fun h => h.2 (by have := List.mem_singleton.1 h.1; omega))]
    · intro x hx
      have hx : x < 1 := hx
      obtain rfl : x = 0 := by omega
      exact ⟨rfl, rfl⟩
  · exact RI.init hi
  · rintro ⟨j, g, pre, q⟩ hR
    dsimp only at hR ⊢
    have hlen := hR.len
    by_cases hj2 : j < q.length
    · obtain ⟨ik, hik, hx, _⟩ := hR.rg _ (getD_mem hj2)
      have hdr := drop_at hj2
      rw [hx] at hdr
      have hql : (q.drop j).length = (q.drop (j + 1)).length + 1 := by rw [hdr]; rfl
      have hq1 : (pre ++ q.drop j).getD (oadd pre.length (Int.toNat 0)) default = (ik : Int) := by
        rw [oadd_eq, show Int.toNat 0 = 0 from rfl, Nat.add_zero, getD_append_right (Nat.le_refl _), hdr, Nat.sub_self]
        rfl
      obtain ⟨qn, hqn⟩ : ∃ qn, (q.drop (j + 1)).length = qn := ⟨_, rfl⟩
      rw [hql, hqn]
      repeat' (first | with_reducible refine Sq.go ?_ | ((with_reducible refine Ev.mk ?_); conv => whnf) | with_reducible refine Dr.mk ⟨by kernel_rfl, by kernel_rfl⟩ ?_ | with_reducible refine obG ?_ | with_reducible refine Ob.mk ?_ ?_ | (with_reducible first | refine brT fun h => ?_ | refine brF fun h => ?_ | refine Br.mk (fun h => ?_) fun h => ?_) <;> (try simp only [bsl, beq_iff_eq, bne_iff_ne, bs2] at h) <;> (try contradiction) <;> try (exfalso; omega))
      simp (config := { beta := false, eta := false, iota := false, proj := false, zeta := false, decide := false }) only [hq1]
      refine loop_rule hT (S := QS) (fun s => ([(0, .d (eSwaps l)), (1, .d (.int .i64 i)), (2, .d (.int .i64 i)), (7, .osl (.loc 0) 0 0 l.length), (8, .osl (.loc 1) s.g s.pre.length (s.q.drop (j + 1)).length), (9, .d (.int .i64 ik)), (25, .d (.int .i64 l.length)), (26, .d (.int .i64 s.j))],
        ⟨[some (.vec 4 1 0 l.length (rowM s.q i)), some (.vec 3 1 s.g (s.pre.length + (s.q.drop (j + 1)).length) (rowI (s.pre ++ s.q.drop (j + 1))))], []⟩))
        (fun s => RI l i j s.j s.q ∧ s.j ≤ l.length ∧ j < s.q.length ∧ s.q.getD j default = ik) (fun s => l.length - s.j) ⟨0, g, pre ++ [(ik : Int)], q⟩ ?_ ?_ ?_
      · dsimp only
        rw [hqn]
        repeat' (first | exact True.intro | exact rfl | exact Nat.le_refl _ | refine And.intro ?_ ?_)
        all_goals first
          | (show AV.osl (.loc 1) g (pre.length + 1) (qn + 1 - 1) = AV.osl (.loc 1) g (pre ++ [(ik : Int)]).length qn
             rw [len_snoc, Nat.add_sub_cancel]
             done)
          | (rw [len_snoc]; omega)
          | (intro x hx
             refine ⟨?_, rfl⟩
             first
             | exact rfl
             | rw [hdr, show pre ++ (ik : Int) :: q.drop (j + 1) = pre ++ [(ik : Int)] ++ q.drop (j + 1) by simp])
          | trace_state
      · exact ⟨hR, Nat.zero_le _, hj2, hx⟩
      · rintro ⟨k, g2, pre2, v⟩ ⟨hV, hk, hjv, hjx⟩
        dsimp only at hV hk hjv hjx ⊢
        have hvl := hV.len
        by_cases hk2 : k < l.length
        · by_cases c1 : (k : Int) = ik
          · have hV2 := hV.skip (.inl (c1.trans hjx.symm))
            repeat' (first | with_reducible refine Sq.go ?_ | ((with_reducible refine Ev.mk ?_); conv => whnf) | with_reducible refine Dr.mk ⟨by kernel_rfl, by kernel_rfl⟩ ?_ | with_reducible refine obG ?_ | with_reducible refine Ob.mk ?_ ?_ | (with_reducible first | refine brT fun h => ?_ | refine brF fun h => ?_ | refine Br.mk (fun h => ?_) fun h => ?_) <;> (try simp only [bsl, beq_iff_eq, bne_iff_ne, bs2] at h) <;> (try contradiction) <;> try (exfalso; omega))
            refine ⟨⟨k + 1, g2, pre2, v⟩, ⟨hV2, by show k + 1 ≤ l.length; omega, hjv, hjx⟩, by show l.length - (k + 1) < l.length - k; omega, ?_⟩
            repeat' (first | exact True.intro | exact rfl | exact Nat.le_refl _ | refine And.intro ?_ ?_)
            all_goals (intro x hx; exact ⟨rfl, rfl⟩)
          by_cases c2 : takeK l ik = giveK l k
          rotate_left
          · have hV2 := hV.skip (.inr (by rw [hjx, Int.toNat_natCast]; exact c2))
            have t0 : ¬ ((l.getD ik default).take.sec = (l.getD k default).give.sec ∧ (l.getD ik default).take.lab = (l.getD k default).give.lab) := fun h => c2 (by unfold takeK giveK; rw [h.1, h.2])
            repeat' (first | with_reducible refine Sq.go ?_ | ((with_reducible refine Ev.mk ?_); conv => whnf) | with_reducible refine Dr.mk ⟨by kernel_rfl, by kernel_rfl⟩ ?_ | with_reducible refine obG ?_ | with_reducible refine Ob.mk ?_ ?_ | (with_reducible first | refine brT fun h => ?_ | refine brF fun h => ?_ | refine Br.mk (fun h => ?_) fun h => ?_) <;> (try simp only [bsl, beq_iff_eq, bne_iff_ne, bs2] at h) <;> (try contradiction) <;> try (exfalso; omega))
            refine ⟨⟨k + 1, g2, pre2, v⟩, ⟨hV2, by show k + 1 ≤ l.length; omega, hjv, hjx⟩, by show l.length - (k + 1) < l.length - k; omega, ?_⟩
            repeat' (first | exact True.intro | exact rfl | exact Nat.le_refl _ | refine And.intro ?_ ?_)
            all_goals (intro x hx; exact ⟨rfl, rfl⟩)
          obtain ⟨t1, t2⟩ : (l.getD ik default).take.sec = (l.getD k default).give.sec ∧ (l.getD ik default).take.lab = (l.getD k default).give.lab := by
            unfold takeK giveK at c2
            injection c2 with h1 h2
            injection h2 with h2 _
            exact ⟨h1, h2⟩
          by_cases c3 : (k : Int) = i
          · obtain rfl : k = i := by omega
            have hyes : cycD l k = true := (cycD_iff hi).2 (hV.yes hjv hi hjx (by omega) c2)
            rw [hyes]
            repeat' (first | with_reducible refine Sq.go ?_ | ((with_reducible refine Ev.mk ?_); conv => whnf) | with_reducible refine Dr.mk ⟨by kernel_rfl, by kernel_rfl⟩ ?_ | with_reducible refine obG ?_ | with_reducible refine Ob.mk ?_ ?_ | (with_reducible first | refine brT fun h => ?_ | refine brF fun h => ?_ | refine Br.mk (fun h => ?_) fun h => ?_) <;> (try simp only [bsl, beq_iff_eq, bne_iff_ne, bs2] at h) <;> (try contradiction) <;> try (exfalso; omega))
            exact ⟨rfl, True.intro⟩
          have c3' : k ≠ i := by omega
          by_cases c4 : (k : Int) ∈ v
          · have hV2 := hV.old c4 c3'
            have hm : memM v i (oadd 0 k) = true := by rw [oadd_eq, Nat.zero_add]; exact decide_eq_true ⟨c4, c3'⟩
            repeat' (first | with_reducible refine Sq.go ?_ | ((with_reducible refine Ev.mk ?_); conv => whnf) | with_reducible refine Dr.mk ⟨by kernel_rfl, by kernel_rfl⟩ ?_ | with_reducible refine obG ?_ | with_reducible refine Ob.mk ?_ ?_ | (with_reducible first | refine brT fun h => ?_ | refine brF fun h => ?_ | refine Br.mk (fun h => ?_) fun h => ?_) <;> (try simp only [bsl, beq_iff_eq, bne_iff_ne, bs2] at h) <;> (try contradiction) <;> try (exfalso; omega))
            · exact absurd h.1 (nf hm)
            refine ⟨⟨k + 1, g2, pre2, v⟩, ⟨hV2, by show k + 1 ≤ l.length; omega, hjv, hjx⟩, by show l.length - (k + 1) < l.length - k; omega, ?_⟩
            repeat' (first | exact True.intro | exact rfl | exact Nat.le_refl _ | refine And.intro ?_ ?_)
            all_goals (intro x hx; exact ⟨rfl, rfl⟩)
          · have hV2 := hV.new hjv hk2 c4 c3' (by rw [hjx, Int.toNat_natCast]; exact c2)
            have hm : memM v i (oadd 0 k) = false := by rw [oadd_eq, Nat.zero_add]; exact decide_eq_false (fun h => c4 h.1)
            have hqd : (v ++ [(k : Int)]).drop (j + 1) = v.drop (j + 1) ++ [(k : Int)] := List.drop_append_of_le_length (by omega)
            have hql2 : (v.drop (j + 1)).length ≤ 1000 := by rw [List.length_drop]; omega
            have hjv2 : j < (v ++ [(k : Int)]).length := by rw [len_snoc]; omega
            have hjx2 : (v ++ [(k : Int)]).getD j default = ik := by rw [getD_append_left hjv]; exact hjx
            cases pre2 with
            | nil =>
              repeat' (first | with_reducible refine Sq.go ?_ | ((with_reducible refine Ev.mk ?_); conv => whnf) | with_reducible refine Dr.mk ⟨by kernel_rfl, by kernel_rfl⟩ ?_ | with_reducible refine obG ?_ | with_reducible refine Ob.mk ?_ ?_ | (with_reducible first | refine brT fun h => ?_ | refine brF fun h => ?_ | refine Br.mk (fun h => ?_) fun h => ?_) <;> (try simp only [bsl, beq_iff_eq, bne_iff_ne, bs2] at h) <;> (try contradiction) <;> try (exfalso; omega))
              rotate_left
              · exact absurd h (by simp [hm, c3])
              refine ⟨⟨k + 1, g2 + 1, [], v ++ [(k : Int)]⟩, ⟨hV2, by show k + 1 ≤ l.length; omega, hjv2, hjx2⟩, by show l.length - (k + 1) < l.length - k; omega, ?_⟩
              dsimp only
              rw [hqd, len_snoc]
              repeat' (first | exact True.intro | exact rfl | exact Nat.le_refl _ | refine And.intro ?_ ?_)
              all_goals first
                | (intro x hx; exact ⟨met_row v c3' x, rfl⟩)
                | (intro x hx
                   refine ⟨?_, rfl⟩
                   have hx : x < _ := hx
                   exact rowI_join (v.drop (j + 1)) _ rfl x (by simpa using hx)
                   done)
                | (simp only [List.length_nil, List.length_cons]; omega)
                | trace_state
            | cons p0 pr =>
              repeat' (first | with_reducible refine Sq.go ?_ | ((with_reducible refine Ev.mk ?_); conv => whnf) | with_reducible refine Dr.mk ⟨by kernel_rfl, by kernel_rfl⟩ ?_ | with_reducible refine obG ?_ | with_reducible refine Ob.mk ?_ ?_ | (with_reducible first | refine brT fun h => ?_ | refine brF fun h => ?_ | refine Br.mk (fun h => ?_) fun h => ?_) <;> (try simp only [bsl, beq_iff_eq, bne_iff_ne, bs2] at h) <;> (try contradiction) <;> try (exfalso; omega))
              rotate_left
              · exact absurd h (by simp [hm, c3])
              refine op_append_off hT rfl rfl rfl rfl rfl (by intro q hq; simp only [List.mem_cons, List.not_mem_nil, or_false] at hq; rcases hq with rfl | rfl <;> first | exact True.intro | rfl | exact Nat.le_refl _) (by decide) rfl (by show ((v.drop (j + 1)).length + 1) * 8 ≤ 140737488355328; omega) ?_ ?_
              · repeat' (first | with_reducible refine Sq.go ?_ | ((with_reducible refine Ev.mk ?_); conv => whnf) | with_reducible refine Dr.mk ⟨by kernel_rfl, by kernel_rfl⟩ ?_ | with_reducible refine obG ?_ | with_reducible refine Ob.mk ?_ ?_ | (with_reducible first | refine brT fun h => ?_ | refine brF fun h => ?_ | refine Br.mk (fun h => ?_) fun h => ?_) <;> (try simp only [bsl, beq_iff_eq, bne_iff_ne, bs2] at h) <;> (try contradiction) <;> try (exfalso; omega))
                refine ⟨⟨k + 1, g2 + 1, p0 :: pr, v ++ [(k : Int)]⟩, ⟨hV2, by show k + 1 ≤ l.length; omega, hjv2, hjx2⟩, by show l.length - (k + 1) < l.length - k; omega, ?_⟩
                dsimp only
                rw [hqd, len_snoc]
                repeat' (first | exact True.intro | exact rfl | exact Nat.le_refl _ | refine And.intro ?_ ?_)
                all_goals first
                  | (intro x hx; exact ⟨met_row v c3' x, rfl⟩)
                  | (intro x hx
                     refine ⟨?_, rfl⟩
                     have hx : x < _ := hx
                     rw [← List.append_assoc]; exact rowI_join (p0 :: pr ++ v.drop (j + 1)) _ (by rw [List.length_append]) x (by simpa [Nat.add_assoc] using hx)
                     done)
                  | (simp only [List.length_nil, List.length_cons]; omega)
                  | trace_state
              · repeat' (first | with_reducible refine Sq.go ?_ | ((with_reducible refine Ev.mk ?_); conv => whnf) | with_reducible refine Dr.mk ⟨by kernel_rfl, by kernel_rfl⟩ ?_ | with_reducible refine obG ?_ | with_reducible refine Ob.mk ?_ ?_ | (with_reducible first | refine brT fun h => ?_ | refine brF fun h => ?_ | refine Br.mk (fun h => ?_) fun h => ?_) <;> (try simp only [bsl, beq_iff_eq, bne_iff_ne, bs2] at h) <;> (try contradiction) <;> try (exfalso; omega))
                refine ⟨⟨k + 1, g2 + 1, [], v ++ [(k : Int)]⟩, ⟨hV2, by show k + 1 ≤ l.length; omega, hjv2, hjx2⟩, by show l.length - (k + 1) < l.length - k; omega, ?_⟩
                dsimp only
                rw [hqd, len_snoc]
                repeat' (first | exact True.intro | exact rfl | exact Nat.le_refl _ | refine And.intro ?_ ?_)
                all_goals first
                  | (intro x hx; exact ⟨met_row v c3' x, rfl⟩)
                  | (intro x hx
                     refine ⟨?_, rfl⟩
                     have hx : x < _ := hx
                     rw [show (fun i => rowI (p0 :: pr ++ v.drop (j + 1)) ((p0 :: pr).length + i)) = rowI (v.drop (j + 1)) from funext fun i => rowI_drop _ _ rfl i]; exact rowI_join (v.drop (j + 1)) _ rfl x (by simpa using hx)
                     done)
                  | (simp only [List.length_nil, List.length_cons]; omega)
                  | trace_state
        · have hkl : k = l.length := by omega
          subst hkl
          repeat' (first | with_reducible refine Sq.go ?_ | ((with_reducible refine Ev.mk ?_); conv => whnf) | with_reducible refine Dr.mk ⟨by kernel_rfl, by kernel_rfl⟩ ?_ | with_reducible refine obG ?_ | with_reducible refine Ob.mk ?_ ?_ | (with_reducible first | refine brT fun h => ?_ | refine brF fun h => ?_ | refine Br.mk (fun h => ?_) fun h => ?_) <;> (try simp only [bsl, beq_iff_eq, bne_iff_ne, bs2] at h) <;> (try contradiction) <;> try (exfalso; omega))
          refine ⟨⟨j + 1, g2, pre2, v⟩, hV.next hjv, by show l.length - (j + 1) < l.length - j; omega, ?_⟩
          repeat' (first | exact True.intro | exact rfl | exact Nat.le_refl _ | refine And.intro ?_ ?_)
          all_goals (intro x hx; exact ⟨rfl, rfl⟩)
    · have hj3 : j = q.length := by have := hR.jq; omega
      have hnil : q.drop j = [] := drop_end (by omega)
      have hno : cycD l i = false := Bool.eq_false_iff.2 fun h => hR.no hj3 ((cycD_iff hi).1 h)
      rw [hnil, hno]
      repeat' (first | with_reducible refine Sq.go ?_ | ((with_reducible refine Ev.mk ?_); conv => whnf) | with_reducible refine Dr.mk ⟨by kernel_rfl, by kernel_rfl⟩ ?_ | with_reducible refine obG ?_ | with_reducible refine Ob.mk ?_ ?_ | (with_reducible first | refine brT fun h => ?_ | refine brF fun h => ?_ | refine Br.mk (fun h => ?_) fun h => ?_) <;> (try simp only [bsl, beq_iff_eq, bne_iff_ne, bs2] at h) <;> (try contradiction) <;> try (exfalso; omega))
      exact ⟨rfl, True.intro⟩
end Go.Proofs.Ytnhadilbebgbjaa
