/-
  The reference of chapter 23: CheckAll.
-/
import Derived.Test.YtfbjlakcolipaaaGreatDoorSecE
namespace Go.Proofs.YtfbjlakcolipaaaGreatDoor
set_option linter.unusedSimpArgs false
set_option linter.unusedVariables false
open Go Go.Ab
set_option maxRecDepth 100000
set_option maxHeartbeats 0
def prevS (l : List Sec) (k : Nat) : Int := if k = 0 then -1 else (l.getD (k - 1) default).id
theorem rcheckAll_ok (l : List Sec) (hl : fewS l) : Pure Tryz.prog 46 [eSecs l] [.int .i64 (chkAll l)] := by
  refine pure_rule hT (T := tab) (N := 95) (rs := [.tmp 2]) Tryz.func46 rfl rfl rfl (by kernel_rfl) rfl ?_
  have hln := hl.1
  repeat' (first | with_reducible refine Sq.go ?_ | ((with_reducible refine Ev.mk ?_); conv => whnf) | with_reducible refine Dr.mk ⟨by kernel_rfl, by kernel_rfl⟩ ?_ | with_reducible refine obG ?_ | with_reducible refine Ob.mk ?_ ?_ | (with_reducible first | refine brT fun h => ?_ | refine brF fun h => ?_ | refine Br.mk (fun h => ?_) fun h => ?_) <;> (try simp only [bsl, beq_iff_eq, bne_iff_ne, bs2] at h) <;> (try contradiction) <;> try (exfalso; omega))
  refine loop_rule hT (S := Nat) (fun k => ([(0, .d (eSecs l)), (3, .d (.int .i64 k))], ⟨[], []⟩)) (fun k => k ≤ l.length ∧ chkE l = chkE (l.drop k)) (fun k => l.length - k) 0 ?_ ?_ ?_
  · repeat' (first | exact True.intro | exact rfl | exact Nat.le_refl _ | refine And.intro ?_ ?_)
  · exact ⟨Nat.zero_le _, rfl⟩
  · rintro k ⟨hk, hc⟩
    by_cases hk2 : k < l.length
    · obtain ⟨hg, hb, -⟩ := hl.2 _ (getD_mem hk2)
      rw [drop_at hk2, chkE] at hc
      repeat' (first | with_reducible refine Sq.go ?_ | ((with_reducible refine Ev.mk ?_); conv => whnf) | with_reducible refine Dr.mk ⟨by kernel_rfl, by kernel_rfl⟩ ?_ | with_reducible refine obG ?_ | with_reducible refine Ob.mk ?_ ?_ | (with_reducible first | refine brT fun h => ?_ | refine brF fun h => ?_ | refine Br.mk (fun h => ?_) fun h => ?_) <;> (try simp only [bsl, beq_iff_eq, bne_iff_ne, bs2] at h) <;> (try contradiction) <;> try (exfalso; omega))
      refine callZ (rcheckS_ok (l.getD k default) (by omega) (by omega)) (fun h0 => ?_) (fun h0 => ?_)
      · rw [if_pos h0] at hc
        repeat' (first | with_reducible refine Sq.go ?_ | ((with_reducible refine Ev.mk ?_); conv => whnf) | with_reducible refine Dr.mk ⟨by kernel_rfl, by kernel_rfl⟩ ?_ | with_reducible refine obG ?_ | with_reducible refine Ob.mk ?_ ?_ | (with_reducible first | refine brT fun h => ?_ | refine brF fun h => ?_ | refine Br.mk (fun h => ?_) fun h => ?_) <;> (try simp only [bsl, beq_iff_eq, bne_iff_ne, bs2] at h) <;> (try contradiction) <;> try (exfalso; omega))
        refine ⟨k + 1, ⟨by show k + 1 ≤ l.length; omega, hc⟩, by show l.length - (k + 1) < l.length - k; omega, ?_⟩
        repeat' (first | exact True.intro | exact rfl | exact Nat.le_refl _ | refine And.intro ?_ ?_)
      · rw [if_neg h0] at hc
        repeat' (first | with_reducible refine Sq.go ?_ | ((with_reducible refine Ev.mk ?_); conv => whnf) | with_reducible refine Dr.mk ⟨by kernel_rfl, by kernel_rfl⟩ ?_ | with_reducible refine obG ?_ | with_reducible refine Ob.mk ?_ ?_ | (with_reducible first | refine brT fun h => ?_ | refine brF fun h => ?_ | refine Br.mk (fun h => ?_) fun h => ?_) <;> (try simp only [bsl, beq_iff_eq, bne_iff_ne, bs2] at h) <;> (try contradiction) <;> try (exfalso; omega))
        rw [chkAll, hc, if_neg h0]
        exact ⟨rfl, True.intro⟩
    · rw [drop_end (by omega), chkE] at hc
      have hch := chkE_at hc
      have hid : ∀ k, k < l.length → 0 ≤ (l.getD k default).id := fun k hk => (formed_id (chkS_ok (hch _ (getD_mem hk))).1).1
      rw [chkAll, if_pos hc, ← P2_same]
      repeat' (first | with_reducible refine Sq.go ?_ | ((with_reducible refine Ev.mk ?_); conv => whnf) | with_reducible refine Dr.mk ⟨by kernel_rfl, by kernel_rfl⟩ ?_ | with_reducible refine obG ?_ | with_reducible refine Ob.mk ?_ ?_ | (with_reducible first | refine brT fun h => ?_ | refine brF fun h => ?_ | refine Br.mk (fun h => ?_) fun h => ?_) <;> (try simp only [bsl, beq_iff_eq, bne_iff_ne, bs2] at h) <;> (try contradiction) <;> try (exfalso; omega))
      refine loop_rule hT (S := Nat) (fun k => ([(0, .d (eSecs l)), (5, .d (.int .i64 k))], ⟨[], []⟩)) (fun k => k ≤ l.length ∧ rP2 l (-1) l = rP2 l (prevS l k) (l.drop k)) (fun k => l.length - k) 0 ?_ ?_ ?_
      · repeat' (first | exact True.intro | exact rfl | exact Nat.le_refl _ | refine And.intro ?_ ?_)
      · exact ⟨Nat.zero_le _, rfl⟩
      · rintro k ⟨hk, h7⟩
        by_cases hk2 : k < l.length
        · obtain ⟨hg, hb, -⟩ := hl.2 _ (getD_mem hk2)
          have hi := hid k hk2
          rw [drop_at hk2, rP2] at h7
          repeat' (first | with_reducible refine Sq.go ?_ | ((with_reducible refine Ev.mk ?_); conv => whnf) | with_reducible refine Dr.mk ⟨by kernel_rfl, by kernel_rfl⟩ ?_ | with_reducible refine obG ?_ | with_reducible refine Ob.mk ?_ ?_ | (with_reducible first | refine brT fun h => ?_ | refine brF fun h => ?_ | refine Br.mk (fun h => ?_) fun h => ?_) <;> (try simp only [bsl, beq_iff_eq, bne_iff_ne, bs2] at h) <;> (try contradiction) <;> try (exfalso; omega))
          · rw [h7]
            have : decide (prevS l k < (l.getD k default).id) = false := by
              rw [decide_eq_false_iff_not]
              unfold prevS
              rw [toNat_pred] at h
              by_cases hk0 : k = 0
              · simp only [hk0, if_true] at h ⊢
                omega
              · simp only [hk0, if_false] at h ⊢
                omega
            rw [this]
            exact ⟨rfl, True.intro⟩
          · have hlt : decide (prevS l k < (l.getD k default).id) = true := by
              rw [decide_eq_true_iff]
              unfold prevS
              rw [toNat_pred] at h
              by_cases hk0 : k = 0
              · simp only [hk0, if_true] at h hi ⊢
                omega
              · simp only [hk0, if_false] at h ⊢
                omega
            rw [hlt, Bool.true_and] at h7
            refine loop_rule hT (S := Nat) (fun i => ([(0, .d (eSecs l)), (5, .d (.int .i64 k)), (6, .d (.int .i64 i))], ⟨[], []⟩)) (fun i => i ≤ (l.getD k default).labs.length ∧ (l.getD k default).labs.any (rmisfit l (l.getD k default)) = ((l.getD k default).labs.drop i).any (rmisfit l (l.getD k default))) (fun i => (l.getD k default).labs.length - i) 0 ?_ ?_ ?_
            · repeat' (first | exact True.intro | exact rfl | exact Nat.le_refl _ | refine And.intro ?_ ?_)
            · exact ⟨Nat.zero_le _, rfl⟩
            · rintro i ⟨hi3, hci⟩
              by_cases hi2 : i < (l.getD k default).labs.length
              · rw [drop_at hi2, List.any_cons] at hci
                have hp := rfind_ok l (by omega) ((l.getD k default).labs.getD i default)
                have hm : rmisfit l (l.getD k default) ((l.getD k default).labs.getD i default) = (!(findS l ((l.getD k default).labs.getD i default)).isSome || (!((findS l ((l.getD k default).labs.getD i default)).getD default).lab || (!decide (((findS l ((l.getD k default).labs.getD i default)).getD default).course = (l.getD k default).course) || !decide (((findS l ((l.getD k default).labs.getD i default)).getD default).term = (l.getD k default).term)))) := rfl
                obtain ⟨o, ho⟩ : ∃ o, findS l ((l.getD k default).labs.getD i default) = o := ⟨_, rfl⟩
                rw [ho] at hp hm
                cases o with
                | none =>
                  have hw : rmisfit l (l.getD k default) ((l.getD k default).labs.getD i default) = true := hm
                  repeat' (first | with_reducible refine Sq.go ?_ | ((with_reducible refine Ev.mk ?_); conv => whnf) | with_reducible refine Dr.mk ⟨by kernel_rfl, by kernel_rfl⟩ ?_ | with_reducible refine obG ?_ | with_reducible refine Ob.mk ?_ ?_ | (with_reducible first | refine brT fun h => ?_ | refine brF fun h => ?_ | refine Br.mk (fun h => ?_) fun h => ?_) <;> (try simp only [bsl, beq_iff_eq, bne_iff_ne, bs2] at h) <;> (try contradiction) <;> try (exfalso; omega))
                  refine hp.call ?_
                  repeat' (first | with_reducible refine Sq.go ?_ | ((with_reducible refine Ev.mk ?_); conv => whnf) | with_reducible refine Dr.mk ⟨by kernel_rfl, by kernel_rfl⟩ ?_ | with_reducible refine obG ?_ | with_reducible refine Ob.mk ?_ ?_ | (with_reducible first | refine brT fun h => ?_ | refine brF fun h => ?_ | refine Br.mk (fun h => ?_) fun h => ?_) <;> (try simp only [bsl, beq_iff_eq, bne_iff_ne, bs2] at h) <;> (try contradiction) <;> try (exfalso; omega))
                  · rw [h7, hci, hw]
                    exact ⟨rfl, True.intro⟩
                  · exact absurd h.1.1.1 (by simp)
                | some b =>
                  repeat' (first | with_reducible refine Sq.go ?_ | ((with_reducible refine Ev.mk ?_); conv => whnf) | with_reducible refine Dr.mk ⟨by kernel_rfl, by kernel_rfl⟩ ?_ | with_reducible refine obG ?_ | with_reducible refine Ob.mk ?_ ?_ | (with_reducible first | refine brT fun h => ?_ | refine brF fun h => ?_ | refine Br.mk (fun h => ?_) fun h => ?_) <;> (try simp only [bsl, beq_iff_eq, bne_iff_ne, bs2] at h) <;> (try contradiction) <;> try (exfalso; omega))
                  refine hp.call ?_
                  repeat' (first | with_reducible refine Sq.go ?_ | ((with_reducible refine Ev.mk ?_); conv => whnf) | with_reducible refine Dr.mk ⟨by kernel_rfl, by kernel_rfl⟩ ?_ | with_reducible refine obG ?_ | with_reducible refine Ob.mk ?_ ?_ | (with_reducible first | refine brT fun h => ?_ | refine brF fun h => ?_ | refine Br.mk (fun h => ?_) fun h => ?_) <;> (try simp only [bsl, beq_iff_eq, bne_iff_ne, bs2] at h) <;> (try contradiction) <;> try (exfalso; omega))
                  · have hw : rmisfit l (l.getD k default) ((l.getD k default).labs.getD i default) = true := by
                      rw [hm]
                      cases hb : b.lab
                      · simp [hb]
                      · simp [hb] at h ⊢
                        omega
                    rw [h7, hci, hw]
                    exact ⟨rfl, True.intro⟩
                  · have hw : rmisfit l (l.getD k default) ((l.getD k default).labs.getD i default) = false := by
                      obtain ⟨⟨⟨_, a⟩, b1⟩, b2⟩ := h
                      rw [hm]
                      show (!true || (!b.lab || (!decide (b.course = _) || !decide (b.term = _)))) = false
                      rw [show b.lab = true from a, show decide (b.course = (l.getD k default).course) = true from decide_eq_true b1, show decide (b.term = (l.getD k default).term) = true from decide_eq_true b2]
                      rfl
                    refine ⟨i + 1, ⟨by show i + 1 ≤ (l.getD k default).labs.length; omega, ?_⟩, by show (l.getD k default).labs.length - (i + 1) < (l.getD k default).labs.length - i; omega, ?_⟩
                    · rw [hci, hw]; rfl
                    · repeat' (first | exact True.intro | exact rfl | exact Nat.le_refl _ | refine And.intro ?_ ?_)
              · rw [drop_end (by omega)] at hci
                repeat' (first | with_reducible refine Sq.go ?_ | ((with_reducible refine Ev.mk ?_); conv => whnf) | with_reducible refine Dr.mk ⟨by kernel_rfl, by kernel_rfl⟩ ?_ | with_reducible refine obG ?_ | with_reducible refine Ob.mk ?_ ?_ | (with_reducible first | refine brT fun h => ?_ | refine brF fun h => ?_ | refine Br.mk (fun h => ?_) fun h => ?_) <;> (try simp only [bsl, beq_iff_eq, bne_iff_ne, bs2] at h) <;> (try contradiction) <;> try (exfalso; omega))
                refine ⟨k + 1, ⟨by show k + 1 ≤ l.length; omega, ?_⟩, by show l.length - (k + 1) < l.length - k; omega, ?_⟩
                · rw [h7, hci]; rfl
                · repeat' (first | exact True.intro | exact rfl | exact Nat.le_refl _ | refine And.intro ?_ ?_)
        · rw [drop_end (by omega), rP2] at h7
          repeat' (first | with_reducible refine Sq.go ?_ | ((with_reducible refine Ev.mk ?_); conv => whnf) | with_reducible refine Dr.mk ⟨by kernel_rfl, by kernel_rfl⟩ ?_ | with_reducible refine obG ?_ | with_reducible refine Ob.mk ?_ ?_ | (with_reducible first | refine brT fun h => ?_ | refine brF fun h => ?_ | refine Br.mk (fun h => ?_) fun h => ?_) <;> (try simp only [bsl, beq_iff_eq, bne_iff_ne, bs2] at h) <;> (try contradiction) <;> try (exfalso; omega))
          rw [h7]
          exact ⟨rfl, True.intro⟩
end Go.Proofs.YtfbjlakcolipaaaGreatDoor
