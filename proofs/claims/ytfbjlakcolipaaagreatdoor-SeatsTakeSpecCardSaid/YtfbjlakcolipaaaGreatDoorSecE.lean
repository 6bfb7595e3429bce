/-
  The reference of chapter 23: Formed, Check, Find, CheckAll.
-/
import Derived.Test.YtfbjlakcolipaaaGreatDoorSecD
namespace Go.Proofs.YtfbjlakcolipaaaGreatDoor
set_option linter.unusedSimpArgs false
set_option linter.unusedVariables false
open Go Go.Ab
set_option maxRecDepth 100000
set_option maxHeartbeats 0
theorem wit_false {n lo hi : Int} : wit n lo hi = false ↔ ¬ (lo ≤ n ∧ n ≤ hi) := by
  rw [← wit_iff, Bool.not_eq_true]
def prevG (l : List Grp) (k : Nat) : Int := if k = 0 then -1 else (l.getD (k - 1) default).g
def prevN (l : List Int) (k : Nat) : Int := if k = 0 then -1 else l.getD (k - 1) default
theorem prevG_succ (l : List Grp) (k : Nat) : prevG l (k + 1) = (l.getD k default).g := rfl
theorem prevN_succ (l : List Int) (k : Nat) : prevN l (k + 1) = l.getD k default := rfl
def head23 (s : Sec) : Bool := wit s.id 0 3999 && wit s.course 0 4095 && wit s.term 0 1023 && wit s.campus 0 6 && wit s.seats 0 4096 && decide ((s.groups.length : Int) ≤ 8) && !(s.lab && decide (0 < (s.labs.length : Int)))
theorem formed_eq (s : Sec) : formed s = (gok (-1) s.groups && lok (-1) s.labs && head23 s && decide (gsum s.groups ≤ s.seats)) := by
  simp only [formed, head23]
  cases gok (-1) s.groups <;> cases lok (-1) s.labs <;> cases wit s.id 0 3999 <;> cases wit s.course 0 4095 <;> cases wit s.term 0 1023 <;> cases wit s.campus 0 6 <;> cases wit s.seats 0 4096 <;> cases decide ((s.groups.length : Int) ≤ 8) <;> simp [Bool.and_comm]
theorem rformed_ok (s : Sec) (hg : s.groups.length ≤ 1000000) (hl : s.labs.length ≤ 1000000) : Pure Tryz.prog 81 [.agg (eSec s)] [.bool (formed s)] := by
  refine pure_rule hT (T := tab) (N := 174) (rs := [.tmp 2]) Tryz.func81 rfl rfl rfl (by kernel_rfl) rfl ?_
  rw [formed_eq]
  repeat' (first | with_reducible refine Sq.go ?_ | ((with_reducible refine Ev.mk ?_); conv => whnf) | with_reducible refine Dr.mk ⟨by kernel_rfl, by kernel_rfl⟩ ?_ | with_reducible refine obG ?_ | with_reducible refine Ob.mk ?_ ?_ | (with_reducible first | refine brT fun h => ?_ | refine brF fun h => ?_ | refine Br.mk (fun h => ?_) fun h => ?_) <;> (try simp only [bsl, beq_iff_eq, bne_iff_ne, bs2] at h) <;> (try contradiction) <;> try (exfalso; omega))
  · refine ⟨congrArg D.bool ?_, True.intro⟩
    have : head23 s = false := by
      rw [← Bool.not_eq_true]
      intro hh
      simp only [head23, Bool.and_eq_true, wit_iff, bsl, beq_iff_eq, bne_iff_ne] at hh
      generalize s.labs.length = nl at *
      cases hb : s.lab
      · simp only [hb] at h
        simp at h
        omega
      · simp only [hb] at h hh
        simp at h hh
        omega
    rw [this]
    simp
  · have hh : head23 s = true := by
      simp only [head23, Bool.and_eq_true, wit_iff, bsl, beq_iff_eq, bne_iff_ne]
      generalize s.labs.length = nl at *
      cases hb : s.lab
      · simp only [hb] at h
        simp at h
        simp
        omega
      · simp only [hb] at h
        simp at h
        simp
        omega
    rw [hh]
    refine loop_rule hT (S := Nat × Int) (fun q => ([(1, .ptr (.loc 0) 0 0 0), (3, .d (.int .i64 q.2)), (4, .d (.int .i64 q.1))], ⟨[some (.box 40 (up (eSec s)))], []⟩))
      (fun q => q.1 ≤ s.groups.length ∧ gok (-1) s.groups = gok (prevG s.groups q.1) (s.groups.drop q.1) ∧ q.2 = gsum (s.groups.take q.1) ∧ -1 ≤ prevG s.groups q.1 ∧ 0 ≤ q.2 ∧ q.2 ≤ 4096 * q.1) (fun q => s.groups.length - q.1) (0, 0) ?_ ?_ ?_
    · repeat' (first | exact True.intro | exact rfl | exact Nat.le_refl _ | refine And.intro ?_ ?_)
    · exact ⟨Nat.zero_le _, rfl, rfl, Int.le_refl _, Int.le_refl _, Int.le_refl _⟩
    · rintro ⟨k, all⟩ ⟨hk, h1, h2, h3, h5, h6⟩
      dsimp only at hk h1 h2 h3 h5 h6
      by_cases hk2 : k < s.groups.length
      · rw [drop_at hk2, gok] at h1
        have ht := take_succ_at (xs := s.groups) (k := k) hk2
        repeat' (first | with_reducible refine Sq.go ?_ | ((with_reducible refine Ev.mk ?_); conv => whnf) | with_reducible refine Dr.mk ⟨by kernel_rfl, by kernel_rfl⟩ ?_ | with_reducible refine obG ?_ | with_reducible refine Ob.mk ?_ ?_ | (with_reducible first | refine brT fun h => ?_ | refine brF fun h => ?_ | refine Br.mk (fun h => ?_) fun h => ?_) <;> (try simp only [bsl, beq_iff_eq, bne_iff_ne, bs2] at h) <;> (try contradiction) <;> try (exfalso; omega))
        · refine ⟨congrArg D.bool ?_, True.intro⟩
          rw [h1]
          have : (wit (s.groups.getD k default).g (prevG s.groups k + 1) 7 && wit (s.groups.getD k default).seats 0 4096 && wit (s.groups.getD k default).til 0 1048576) = false := by
            rw [← Bool.not_eq_true]
            intro hw
            simp only [Bool.and_eq_true, wit_iff] at hw
            unfold prevG at hw h3
            rw [toNat_pred] at h
            by_cases hk0 : k = 0
            · simp only [hk0, if_true] at h hw h3
              omega
            · simp only [hk0, if_false] at h hw h3
              omega
          rw [this]
          rfl
        · have hw : wit (s.groups.getD k default).g (prevG s.groups k + 1) 7 = true ∧ wit (s.groups.getD k default).seats 0 4096 = true ∧ wit (s.groups.getD k default).til 0 1048576 = true := by
            simp only [wit_iff]
            unfold prevG
            rw [toNat_pred] at h
            by_cases hk0 : k = 0
            · simp only [hk0, if_true] at h ⊢
              omega
            · simp only [hk0, if_false] at h ⊢
              omega
          rw [hw.1, hw.2.1, hw.2.2] at h1
          simp only [wit_iff] at hw
          refine ⟨(k + 1, all + (s.groups.getD k default).seats), ⟨by show k + 1 ≤ s.groups.length; omega, ?_, ?_, ?_, ?_, ?_⟩, by show s.groups.length - (k + 1) < s.groups.length - k; omega, ?_⟩
          · rw [h1]; rfl
          · rw [ht, gsum_snoc, h2]
          · show -1 ≤ prevG s.groups (k + 1)
            rw [prevG_succ]; omega
          · show 0 ≤ all + (s.groups.getD k default).seats; omega
          · show all + (s.groups.getD k default).seats ≤ 4096 * ((k + 1 : Nat) : Int); omega
          · repeat' (first | exact True.intro | exact rfl | exact Nat.le_refl _ | refine And.intro ?_ ?_)
      · have hk3 : k = s.groups.length := by omega
        subst hk3
        rw [List.take_length] at h2
        rw [drop_end (Nat.le_refl _), gok] at h1
        rw [h1]
        repeat' (first | with_reducible refine Sq.go ?_ | ((with_reducible refine Ev.mk ?_); conv => whnf) | with_reducible refine Dr.mk ⟨by kernel_rfl, by kernel_rfl⟩ ?_ | with_reducible refine obG ?_ | with_reducible refine Ob.mk ?_ ?_ | (with_reducible first | refine brT fun h => ?_ | refine brF fun h => ?_ | refine Br.mk (fun h => ?_) fun h => ?_) <;> (try simp only [bsl, beq_iff_eq, bne_iff_ne, bs2] at h) <;> (try contradiction) <;> try (exfalso; omega))
        refine loop_rule hT (S := Nat) (fun q => ([(1, .ptr (.loc 0) 0 0 0), (3, .d (.int .i64 all)), (6, .d (.int .i64 q))], ⟨[some (.box 40 (up (eSec s)))], []⟩))
          (fun q => q ≤ s.labs.length ∧ lok (-1) s.labs = lok (prevN s.labs q) (s.labs.drop q) ∧ -1 ≤ prevN s.labs q) (fun q => s.labs.length - q) 0 ?_ ?_ ?_
        · repeat' (first | exact True.intro | exact rfl | exact Nat.le_refl _ | refine And.intro ?_ ?_)
        · exact ⟨Nat.zero_le _, rfl, Int.le_refl _⟩
        · rintro k ⟨hk, h7, h8⟩
          by_cases hk2 : k < s.labs.length
          · rw [drop_at hk2, lok] at h7
            repeat' (first | with_reducible refine Sq.go ?_ | ((with_reducible refine Ev.mk ?_); conv => whnf) | with_reducible refine Dr.mk ⟨by kernel_rfl, by kernel_rfl⟩ ?_ | with_reducible refine obG ?_ | with_reducible refine Ob.mk ?_ ?_ | (with_reducible first | refine brT fun h => ?_ | refine brF fun h => ?_ | refine Br.mk (fun h => ?_) fun h => ?_) <;> (try simp only [bsl, beq_iff_eq, bne_iff_ne, bs2] at h) <;> (try contradiction) <;> try (exfalso; omega))
            · refine ⟨congrArg D.bool ?_, True.intro⟩
              rw [h7]
              have : wit (s.labs.getD k default) (prevN s.labs k + 1) 3999 = false := by
                rw [wit_false]
                intro hw
                unfold prevN at hw h8
                rw [toNat_pred] at h
                by_cases hk0 : k = 0
                · simp only [hk0, if_true] at h hw h8
                  omega
                · simp only [hk0, if_false] at h hw h8
                  omega
              rw [this]
              rfl
            · have hw : wit (s.labs.getD k default) (prevN s.labs k + 1) 3999 = true := by
                simp only [wit_iff]
                unfold prevN
                rw [toNat_pred] at h
                by_cases hk0 : k = 0
                · simp only [hk0, if_true] at h ⊢
                  omega
                · simp only [hk0, if_false] at h ⊢
                  omega
              rw [hw] at h7
              rw [wit_iff] at hw
              refine ⟨k + 1, ⟨by show k + 1 ≤ s.labs.length; omega, ?_, ?_⟩, by show s.labs.length - (k + 1) < s.labs.length - k; omega, ?_⟩
              · rw [h7]; rfl
              · show -1 ≤ prevN s.labs (k + 1)
                rw [prevN_succ]; omega
              · repeat' (first | exact True.intro | exact rfl | exact Nat.le_refl _ | refine And.intro ?_ ?_)
          · rw [drop_end (by omega), lok] at h7
            rw [h7]
            repeat' (first | with_reducible refine Sq.go ?_ | ((with_reducible refine Ev.mk ?_); conv => whnf) | with_reducible refine Dr.mk ⟨by kernel_rfl, by kernel_rfl⟩ ?_ | with_reducible refine obG ?_ | with_reducible refine Ob.mk ?_ ?_ | (with_reducible first | refine brT fun h => ?_ | refine brF fun h => ?_ | refine Br.mk (fun h => ?_) fun h => ?_) <;> (try simp only [bsl, beq_iff_eq, bne_iff_ne, bs2] at h) <;> (try contradiction) <;> try (exfalso; omega))
            refine ⟨congrArg D.bool ?_, True.intro⟩
            rw [h2]
            rfl
theorem rcheckS_ok (s : Sec) (hg : s.groups.length ≤ 1000000) (hl : s.labs.length ≤ 1000000) : Pure Tryz.prog 66 [.agg (eSec s)] [.int .i64 (chkS s)] := by
  refine pure_rule hT (T := tab) (N := 9) (rs := [.tmp 2]) Tryz.func66 rfl rfl rfl (by kernel_rfl) rfl ?_
  repeat' (first | with_reducible refine Sq.go ?_ | ((with_reducible refine Ev.mk ?_); conv => whnf) | with_reducible refine Dr.mk ⟨by kernel_rfl, by kernel_rfl⟩ ?_ | with_reducible refine obG ?_ | with_reducible refine Ob.mk ?_ ?_ | (with_reducible first | refine brT fun h => ?_ | refine brF fun h => ?_ | refine Br.mk (fun h => ?_) fun h => ?_) <;> (try simp only [bsl, beq_iff_eq, bne_iff_ne, bs2] at h) <;> (try contradiction) <;> try (exfalso; omega))
  refine callB (rformed_ok s hg hl) (fun hf => ?_) (fun hf => ?_)
  · repeat' (first | with_reducible refine Sq.go ?_ | ((with_reducible refine Ev.mk ?_); conv => whnf) | with_reducible refine Dr.mk ⟨by kernel_rfl, by kernel_rfl⟩ ?_ | with_reducible refine obG ?_ | with_reducible refine Ob.mk ?_ ?_ | (with_reducible first | refine brT fun h => ?_ | refine brF fun h => ?_ | refine Br.mk (fun h => ?_) fun h => ?_) <;> (try simp only [bsl, beq_iff_eq, bne_iff_ne, bs2] at h) <;> (try contradiction) <;> try (exfalso; omega))
    rw [show chkS s = 230 by simp [chkS, hf]]
    exact ⟨rfl, True.intro⟩
  · repeat' (first | with_reducible refine Sq.go ?_ | ((with_reducible refine Ev.mk ?_); conv => whnf) | with_reducible refine Dr.mk ⟨by kernel_rfl, by kernel_rfl⟩ ?_ | with_reducible refine obG ?_ | with_reducible refine Ob.mk ?_ ?_ | (with_reducible first | refine brT fun h => ?_ | refine brF fun h => ?_ | refine Br.mk (fun h => ?_) fun h => ?_) <;> (try simp only [bsl, beq_iff_eq, bne_iff_ne, bs2] at h) <;> (try contradiction) <;> try (exfalso; omega))
    refine (rcheckM_ok s.meets).call ?_
    repeat' (first | with_reducible refine Sq.go ?_ | ((with_reducible refine Ev.mk ?_); conv => whnf) | with_reducible refine Dr.mk ⟨by kernel_rfl, by kernel_rfl⟩ ?_ | with_reducible refine obG ?_ | with_reducible refine Ob.mk ?_ ?_ | (with_reducible first | refine brT fun h => ?_ | refine brF fun h => ?_ | refine Br.mk (fun h => ?_) fun h => ?_) <;> (try simp only [bsl, beq_iff_eq, bne_iff_ne, bs2] at h) <;> (try contradiction) <;> try (exfalso; omega))
    rw [show chkS s = mcheck s.meets by simp [chkS, hf]]
    exact ⟨rfl, True.intro⟩
theorem rfind_ok (l : List Sec) (hx : l.length ≤ 1000000) (n : Int) : Pure Tryz.prog 48 [eSecs l, .int .i64 n] (eFind (findS l n)) := by
  refine pure_rule hT (T := tab) (N := 25) (rs := [.cell 4 40, .tmp 5]) Tryz.func48 rfl rfl rfl (by kernel_rfl) rfl ?_
  repeat' (first | with_reducible refine Sq.go ?_ | ((with_reducible refine Ev.mk ?_); conv => whnf) | with_reducible refine Dr.mk ⟨by kernel_rfl, by kernel_rfl⟩ ?_ | with_reducible refine obG ?_ | with_reducible refine Ob.mk ?_ ?_ | (with_reducible first | refine brT fun h => ?_ | refine brF fun h => ?_ | refine Br.mk (fun h => ?_) fun h => ?_) <;> (try simp only [bsl, beq_iff_eq, bne_iff_ne, bs2] at h) <;> (try contradiction) <;> try (exfalso; omega))
  refine loop_rule hT (S := Nat) (fun k => ([(0, .d (eSecs l)), (1, .d (.int .i64 n)), (4, .ptr (.loc 0) 0 0 0), (6, .d (.int .i64 k))], ⟨[some (.box 40 [.d (.int .i64 0), .d (.int .i64 0), .d (.int .i64 0), .d (.int .i64 0), .d (.int .i64 0), .d .nils, .d .nils, .d .nils, .d (.bool false)])], []⟩))
    (fun k => k ≤ l.length ∧ findS l n = findS (l.drop k) n) (fun k => l.length - k) 0 ?_ ?_ ?_
  · repeat' (first | exact True.intro | exact rfl | exact Nat.le_refl _ | refine And.intro ?_ ?_)
  · exact ⟨Nat.zero_le _, rfl⟩
  · rintro k ⟨hk, hc⟩
    by_cases hk2 : k < l.length
    · rw [drop_at hk2] at hc
      repeat' (first | with_reducible refine Sq.go ?_ | ((with_reducible refine Ev.mk ?_); conv => whnf) | with_reducible refine Dr.mk ⟨by kernel_rfl, by kernel_rfl⟩ ?_ | with_reducible refine obG ?_ | with_reducible refine Ob.mk ?_ ?_ | (with_reducible first | refine brT fun h => ?_ | refine brF fun h => ?_ | refine Br.mk (fun h => ?_) fun h => ?_) <;> (try simp only [bsl, beq_iff_eq, bne_iff_ne, bs2] at h) <;> (try contradiction) <;> try (exfalso; omega))
      · rw [hc, findS, List.find?_cons_of_pos (by simpa using h)]
        exact ⟨Or.inl rfl, rfl, True.intro⟩
      · refine ⟨k + 1, ⟨by show k + 1 ≤ l.length; omega, ?_⟩, by show l.length - (k + 1) < l.length - k; omega, ?_⟩
        · rw [hc]
          exact List.find?_cons_of_neg (by simpa using h)
        · repeat' (first | exact True.intro | exact rfl | exact Nat.le_refl _ | refine And.intro ?_ ?_)
    · rw [drop_end (by omega)] at hc
      repeat' (first | with_reducible refine Sq.go ?_ | ((with_reducible refine Ev.mk ?_); conv => whnf) | with_reducible refine Dr.mk ⟨by kernel_rfl, by kernel_rfl⟩ ?_ | with_reducible refine obG ?_ | with_reducible refine Ob.mk ?_ ?_ | (with_reducible first | refine brT fun h => ?_ | refine brF fun h => ?_ | refine Br.mk (fun h => ?_) fun h => ?_) <;> (try simp only [bsl, beq_iff_eq, bne_iff_ne, bs2] at h) <;> (try contradiction) <;> try (exfalso; omega))
      rw [hc]
      refine ⟨Or.inr ?_, rfl, True.intro⟩
      repeat' (first | exact True.intro | exact rfl | exact Nat.le_refl _ | refine And.intro ?_ ?_)
/-- Does a lab not fit? -/
def rmisfit (l : List Sec) (s : Sec) (n : Int) : Bool := !(findS l n).isSome || (!((findS l n).getD default).lab || (!decide (((findS l n).getD default).course = s.course) || !decide (((findS l n).getD default).term = s.term)))
def srt : Int → List Sec → Bool
  | _, [] => true
  | last, s :: r => decide (last < s.id) && srt s.id r
theorem secP2_eq (M : List Int → Option Sec) : ∀ (r : List Sec) (last : Int), secP2 M last r = (srt last r && r.all fun s => !(s.labs.any (misfit M s)))
  | [], _ => rfl
  | s :: r, last => by
    rw [secP2, srt, List.all_cons, secP2_eq M r s.id]
    cases decide (last < s.id) <;> cases s.labs.any (misfit M s) <;> cases srt s.id r <;> rfl
def rP2 (l : List Sec) : Int → List Sec → Bool
  | _, [] => true
  | last, s :: r => decide (last < s.id) && !(s.labs.any (rmisfit l s)) && rP2 l s.id r
theorem rP2_eq (l : List Sec) : ∀ (r : List Sec) (last : Int), rP2 l last r = (srt last r && r.all fun s => !(s.labs.any (rmisfit l s)))
  | [], _ => rfl
  | s :: r, last => by
    rw [rP2, srt, List.all_cons, rP2_eq l r s.id]
    cases decide (last < s.id) <;> cases s.labs.any (rmisfit l s) <;> cases srt s.id r <;> rfl
theorem srt_snoc (s : Sec) : ∀ (l : List Sec) (last : Int), srt last (l ++ [s]) = true → srt last l = true ∧ last < s.id ∧ ∀ b ∈ l, b.id < s.id
  | [], last, h => by
    simp [srt] at h
    exact ⟨rfl, h, fun b hb => by simp at hb⟩
  | a :: r, last, h => by
    rw [List.cons_append, srt, Bool.and_eq_true] at h
    obtain ⟨h1, h2⟩ := h
    obtain ⟨g1, g2, g3⟩ := srt_snoc s r a.id h2
    simp only [decide_eq_true_eq] at h1
    refine ⟨by rw [srt, g1, decide_eq_true h1]; rfl, by omega, fun b hb => ?_⟩
    rcases List.mem_cons.1 hb with rfl | hb
    · exact g2
    · exact g3 b hb
theorem labM_find (n : Int) : ∀ (k : Nat) (l : List Sec), l.length = k → srt (-1) l = true → labM l [n] = match findS l n with
    | some b => if b.lab = true then some b else none
    | none => none
  | 0, l, hk, _ => by
    have := List.length_eq_zero_iff.1 hk
    subst this
    rfl
  | k + 1, l, hk, h => by
    obtain ⟨m, s, rfl⟩ : ∃ m s, l = m ++ [s] := by
      have hne : l ≠ [] := by intro e; rw [e] at hk; cases hk
      exact ⟨l.dropLast, l.getLast hne, (List.dropLast_concat_getLast hne).symm⟩
    obtain ⟨h1, _, h3⟩ := srt_snoc s m (-1) h
    have ih := labM_find n k m (by simpa using hk) h1
    have hf : findS (m ++ [s]) n = (findS m n).or (if s.id = n then some s else none) := by
      rw [findS, List.find?_append]
      congr 1
      by_cases e : s.id = n <;> simp [e]
    rw [labM_snoc, hf]
    by_cases e : s.id = n
    · have hnone : findS m n = none := by
        rw [findS, List.find?_eq_none]
        intro b hb
        have := h3 b hb
        simp only [decide_eq_true_eq]
        omega
      rw [hnone] at ih
      rw [hnone]
      cases hb : s.lab <;> simp [hb, e, ih]
    · have : labM m [n] = (if s.lab = true then fun k => if k = [s.id] then some s else labM m k else labM m) [n] := by
        cases hb : s.lab
        · rfl
        · have e' : ¬ n = s.id := fun h => e h.symm
          simp [e']
      rw [← this, ih]
      simp [e]
theorem P2_same (l : List Sec) : rP2 l (-1) l = secP2 (labM l) (-1) l := by
  rw [rP2_eq, secP2_eq]
  cases h : srt (-1) l
  · rfl
  · congr 1
    congr 1
    funext s
    congr 1
    congr 1
    funext n
    rw [misfit, rmisfit, mHas, labM_find n _ l rfl h]
    cases findS l n with
    | none => rfl
    | some b => cases hb : b.lab <;> simp [hb]
end Go.Proofs.YtfbjlakcolipaaaGreatDoor
