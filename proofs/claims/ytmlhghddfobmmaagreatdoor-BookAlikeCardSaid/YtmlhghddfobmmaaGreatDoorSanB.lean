/-
  Chapter 14: sane.
-/
import Derived.Test.YtmlhghddfobmmaaGreatDoorSanA
namespace Go.Proofs.YtmlhghddfobmmaaGreatDoor
set_option linter.unusedSimpArgs false
set_option linter.unusedVariables false
open Go Go.Ab
set_option maxRecDepth 100000
set_option maxHeartbeats 0
theorem sane14_ok : Pure Tryz.prog 11 [] [.bool true] := by
  have hPl := plain_ok sA 1
  refine pure_rule hT (T := tab) (N := 192) (rs := [.tmp 0]) Tryz.func11 rfl rfl rfl (by kernel_rfl) rfl ?_
  (refine gS ?_; intros)
  refine Sq.go ?_; (refine gS ?_; intros)
  refine hPl.call ?_
  (refine gS ?_; intros)
  have hNew := new14_ok
  have hI1 := install0_ok [cA] (by simp) flA (by decide) nnA nuA (fun c hc => by rw [List.mem_singleton.1 hc]; exact wfA) (by rw [List.all_cons, f10]; rfl) 3 9 8 (by decide)
  have hw0 : WfW w0 := wf_w0
  have c1 := bcourse_ok w0 hw0 1 3 8
  have c2 := bcourse_ok w0 hw0 1 9 8
  have c3 := numbers_ok w0 hw0 (by decide) 8
  rw [f1, f2] at c1
  rw [f3] at c2
  rw [f4] at c3
  have c4 := numbers_ok wZ wf_wZ (Nat.zero_le _) 8
  rw [f5] at c4
  have c5 := equal_ok wZ wf_wZ (Nat.zero_le _) 3 0 8
  rw [f7, f8] at c5
  have c6 := bsystem_ok wZ wf_wZ 0 8
  rw [f9] at c6
  have hAll := all14_ok
  have hI2 := install0_none 0 1024 8 (by decide)
  have hI3 := install0_bad [cA] flA (by decide) nnA nuA (fun c hc => by rw [List.mem_singleton.1 hc]; exact wfA) (by rw [List.all_cons, f10]; rfl) 5 8 (by decide)
  have hL : (fs0 [cA] 3 9 8).length = 2 := rfl
  unfold w0 at c1 c2 c3
  generalize fs0 [cA] 3 9 8 = L at hI1 c1 c2 c3 hL
  obtain ⟨ff, hff⟩ : ∃ ff : Nat → List D, ff = fun i => eFct (L.getD i default) := ⟨_, rfl⟩
  have he : eFcts L = .sl 8 2 ff := by rw [eFcts, hL, hff]
  have hew : eWor ⟨bok0 [cA], L⟩ = [eCrss [cA], ePrgs [], eSyss [], .sl 8 2 ff] := by
    rw [← he]
    rfl
  rw [he] at hI1
  rw [hew] at c1 c2 c3
  clear hff he hew hL
  refine Sq.alt (Awp.frz [0, 1] 1 (.pt (eCat (flatCat [cA])) 0) (.ptr' rfl ⟨.rows rfl (Nat.le_refl _) (fun i hi => by rw [show i = 0 from Nat.lt_one_iff.1 hi]; rfl), .eq rfl, .eq rfl, .eq rfl, .eq rfl, .eq rfl, .eq rfl, True.intro⟩)
    (Awp.seq (Awp.effsF (m := ⟨[none, none], []⟩) hT (by kernel_rfl) (by kernel_rfl) (by kernel_rfl) ⟨[none, none, none], []⟩ 0 0
      [⟨8, .ptr (.loc 2) 0 0 0, ⟨[none, none, some (.box 26 (up [.nils, .nils, .nils]))], []⟩, []⟩, ⟨9, .junk, ⟨[none, none, some (.box 26 (up (eBok (bok0 [cA]))))], []⟩, [8]⟩]
      (by kernel_rfl) rfl rfl (WeakF.of True.intro True.intro) ⟨WeakF.of True.intro True.intro, WeakF.of True.intro True.intro, True.intro⟩ ?_)))
  conv => whnf
  (refine gS ?_; intros)
  refine qC hNew ?_
  (refine gS ?_; intros)
  refine qC hI1 ?_
  (refine gS ?_; intros)
  refine ⟨?_, ?_, ?_⟩
  · conv => whnf
    (refine gS ?_; intros)
    exact ⟨rfl, rfl⟩
  · conv => whnf
    (refine gS ?_; intros)
    exact ⟨True.intro, rfl⟩
  conv => whnf
  (refine gS ?_; intros)
  refine Awp.of_vc hT ?_
  (refine gS ?_; intros)
  refine Sq.go ?_; (refine gS ?_; intros)
  refine c1.call ?_
  (refine gS ?_; intros)
  refine Sq.go ?_; (refine gS ?_; intros)
  refine c2.call ?_
  (refine gS ?_; intros)
  refine Sq.go ?_; (refine gS ?_; intros)
  refine c3.call ?_
  (refine gS ?_; intros)
  refine Sq.go ?_; (refine gS ?_; intros)
  refine CallVC.frz [] ?_ (c4.call ?_)
  · exact ⟨.eq (.inr ⟨rfl, rfl, rfl, rfl, True.intro⟩), .d, True.intro⟩
  (refine gS ?_; intros)
  refine Sq.go ?_; (refine gS ?_; intros)
  refine CallVC.frz [] ?_ (c5.call ?_)
  · exact ⟨.eq (.inr ⟨rfl, rfl, rfl, rfl, True.intro⟩), .d, .d, .d, True.intro⟩
  (refine gS ?_; intros)
  refine Sq.go ?_; (refine gS ?_; intros)
  refine CallVC.frz [] ?_ (c6.call ?_)
  · exact ⟨.eq (.inr ⟨rfl, rfl, rfl, rfl, True.intro⟩), .d, .d, True.intro⟩
  (refine gS ?_; intros)
  refine Sq.go ?_; (refine gS ?_; intros)
  refine hAll.call ?_
  (refine gS ?_; intros)
  refine CallVC.frz [] ?_ (hI2.call ?_)
  · exact ⟨.eq (.inr ⟨rfl, rfl, rfl, True.intro⟩), .eq (.inr ⟨rfl, rfl, rfl, rfl, rfl, rfl, rfl, True.intro⟩), .d, .d, True.intro⟩
  (refine gS ?_; intros)
  refine Sq.go ?_; (refine gS ?_; intros)
  refine CallVC.frz [] ?_ (hI3.call ?_)
  · exact ⟨.eq (.inr ⟨rfl, rfl, rfl, True.intro⟩), .d, .d, .d, True.intro⟩
  (refine gS ?_; intros)
  refine Sq.go ?_; (refine gS ?_; intros)
  refine Sq.go ?_; (refine gS ?_; intros)
  refine Sq.go ?_; (refine gS ?_; intros)
  refine Sq.alt (Awp.frz [9, 10] 26 (.pt (eBok (bok0 [crs1])) 0) (.ptr' rfl ⟨.osl' rfl (Nat.le_refl _) (fun i hi => by
      rw [show i = 0 from Nat.lt_one_iff.1 hi]
      exact ⟨.d, .d, .d, .d, .d, .d, .d, .d, .d, .eq rfl, .d, .d, .d, .d, .d, .eq rfl, True.intro⟩), .eq rfl, .eq rfl, True.intro⟩)
    (Awp.frz [11] 27 (eReds [rdK ⟨1, 1, 0⟩ 3]) (.rows rfl (Nat.le_refl _) (fun i hi => by rw [show i = 0 from Nat.lt_one_iff.1 hi]; rfl))
    (Awp.frz [12] 28 (eReds [rdK ⟨12, 0, 0⟩ 0]) (.rows rfl (Nat.le_refl _) (fun i hi => by rw [show i = 0 from Nat.lt_one_iff.1 hi]; rfl)) (vc_ok hT _ _ _ _ (Ev.o ?_)))))
  have d1 := sameCourse_ok cA cA wfA wfA
  have d2 := sameReds_ok [rdK ⟨1, 1, 0⟩ 3] [rdK ⟨1, 1, 0⟩ 3] (by decide) (by decide)
  have d3 := sameInts_ok [1] [1] (by decide) (by decide)
  have d4 := sameReds_ok [rdK ⟨12, 0, 0⟩ 0] [rdK ⟨12, 0, 0⟩ 0] (by decide) (by decide)
  have d5 := sameInts_ok [3] [3] (by decide) (by decide)
  have d6 := sameSys_ok default default ⟨⟨Nat.zero_le _, fun x h => (List.not_mem_nil h).elim⟩, ⟨Nat.zero_le _, fun x h => (List.not_mem_nil h).elim⟩, Nat.zero_le _, Nat.zero_le _⟩ ⟨⟨Nat.zero_le _, fun x h => (List.not_mem_nil h).elim⟩, ⟨Nat.zero_le _, fun x h => (List.not_mem_nil h).elim⟩, Nat.zero_le _, Nat.zero_le _⟩
  have d7 := bcheck_ok (bok0 [crs1]) (wf_bok0 (by decide) (fun c hc => by rw [List.mem_singleton.1 hc]; exact wf1))
  have d8 := bcheck_ok (bok0 []) (wf_bok0 (by decide) (fun c hc => by cases hc))
  rw [chk1] at d7
  rw [show chkB (bok0 []) = 0 from rfl] at d8
  rw [decide_eq_true rfl] at d1 d2 d3 d4 d5 d6
  clear c1 c2 c3 c4 c5 c6 hI1 hI2 hI3 hNew hAll hPl hw0
  have d4c : Pure Tryz.prog 26 [cReds [rdK ⟨12, 0, 0⟩ 0], eReds [rdK ⟨12, 0, 0⟩ 0]] [.bool true] := deqP d4 ⟨⟨rfl, rfl, fun i _ => rfl⟩, ⟨rfl, rfl, fun i _ => rfl⟩, True.intro⟩
  have d3c : Pure Tryz.prog 25 [eInts [1], .sl 1 1 (rowFnD [[.int .i64 1]])] [.bool true] := deqP d3 ⟨⟨rfl, rfl, fun i _ => rfl⟩, rfD (fun n : Int => [D.int .i64 n]) 1 _ rfl 1, True.intro⟩
  have d5c : Pure Tryz.prog 25 [eInts [3], .sl 1 1 (rowFnD [[.int .i64 3]])] [.bool true] := deqP d5 ⟨⟨rfl, rfl, fun i _ => rfl⟩, rfD (fun n : Int => [D.int .i64 n]) 3 _ rfl 1, True.intro⟩
  have d6c : Pure Tryz.prog 38 [.agg (eSys default), .agg [.nils, .nils, .nils, .nils]] [.bool true] := deqP d6 ⟨.inl rfl, .inr ⟨rfl, rfl, rfl, rfl, True.intro⟩, True.intro⟩
  have d8c : Pure Tryz.prog 19 [.agg [.nils, .nils, .nils]] [.int .i64 0] := deqP d8 ⟨.inr ⟨rfl, rfl, rfl, True.intro⟩, True.intro⟩
  repeat' (first | ((with_reducible refine Ev.mk ?_); conv => whnf) | with_reducible refine Dr.mk ⟨by kernel_rfl, by kernel_rfl⟩ ?_ | with_reducible refine obG ?_ | with_reducible refine Ob.mk ?_ ?_ | (with_reducible first | refine brT fun h => ?_ | refine brF fun h => ?_ | refine Br.mk (fun h => ?_) fun h => ?_) <;> (try simp only [bsl, beq_iff_eq, bne_iff_ne, bs2] at h) <;> (try contradiction) <;> try (exfalso; omega))
  · intro _
    decide
  refine qC d1 ?_
  (refine gS ?_; intros)
  refine qC d2 ?_
  (refine gS ?_; intros)
  refine qC d3c ?_
  (refine gS ?_; intros)
  refine qC d4c ?_
  (refine gS ?_; intros)
  refine qC d4c ?_
  (refine gS ?_; intros)
  refine Sq.go ?_; (refine gS ?_; intros)
  refine d5.loan rfl ⟨.d, .rows rfl (Nat.le_refl _) (fun i hi => by rw [show i = 0 from Nat.lt_one_iff.1 hi]; rfl), True.intro⟩ ?_
  (refine gS ?_; intros)
  refine d4.call ?_
  (refine gS ?_; intros)
  refine d6c.call ?_
  (refine gS ?_; intros)
  refine d7.call ?_
  (refine gS ?_; intros)
  refine d8c.call ?_
  (refine gW ?_; intros)
  exact ⟨rfl, True.intro⟩
end Go.Proofs.YtmlhghddfobmmaaGreatDoor
