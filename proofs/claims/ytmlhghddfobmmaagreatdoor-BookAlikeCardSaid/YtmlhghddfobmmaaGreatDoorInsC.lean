/-
  Chapter 14: book.Install of a catalogue of courses without references, into a book without definitions.
-/
import Derived.Test.YtmlhghddfobmmaaGreatDoorInsB
import Derived.Test.YtmlhghddfobmmaaGreatDoorBookQ
namespace Go.Proofs.YtmlhghddfobmmaaGreatDoor
set_option linter.unusedSimpArgs false
set_option linter.unusedVariables false
open Go Go.Ab
set_option maxRecDepth 100000
set_option maxHeartbeats 0
def spanOk (fr til kn : Int) : Bool := decide (0 ≤ fr) && (decide (fr < til) && (decide (til ≤ 1024) && bw kn 1 16777216))
def fsC (l : List Crs) (fr til kn : Int) : Nat → List Fct
  | 0 => []
  | k + 1 => fsC l fr til kn k ++ [⟨1, (l.getD k default).number, 0, (k : Int), fr, til, kn, (fsC l fr til kn k).length⟩]
theorem fsC_len (l : List Crs) (fr til kn : Int) : ∀ k, (fsC l fr til kn k).length = k
  | 0 => rfl
  | k + 1 => by rw [fsC, List.length_append, fsC_len l fr til kn k]; rfl
def fs0 (l : List Crs) (fr til kn : Int) : List Fct := fsC l fr til kn l.length ++ [⟨12, 0, 0, l.length, 0, 1024, kn, (fsC l fr til kn l.length).length⟩]
def eSpn (fr til : Int) : List D := [.int .i64 fr, .int .i64 til]
def bok0 (l : List Crs) : Bok := ⟨l, [], []⟩
theorem pair_ok (p : Pai) : Pure Tryz.prog 73 [.agg (ePai p)] [.bool (bw p.x 0 4095 && bw p.y 0 4095)] := by
  have hX := in_ok p.x 0 4095
  have hY := in_ok p.y 0 4095
  refine pure_rule hT (T := tab) (N := 11) (rs := [.tmp 2]) Tryz.func73 rfl rfl rfl (by kernel_rfl) rfl ?_
  cases h : bw p.x 0 4095 <;> rw [h] at hX
  · (refine gW ?_; intros)
    refine hX.call ?_
    (refine gW ?_; intros)
    exact ⟨rfl, True.intro⟩
  · (refine gW ?_; intros)
    refine hX.call ?_
    (refine gW ?_; intros)
    refine hY.call ?_
    (refine gW ?_; intros)
    exact ⟨rfl, True.intro⟩
theorem chk0 (l : List Crs) (hv : l.all vCrs = true) : chkB ⟨l, [], [⟨[], [], [], []⟩]⟩ = 0 := by
  unfold chkB
  rw [hv]
  rfl
theorem wf0 (l : List Crs) (hl : l.length ≤ 1000) (hw : ∀ c ∈ l, wfCrs c) : wfBok ⟨l, [], [⟨[], [], [], []⟩]⟩ := by
  refine ⟨⟨by unfold fitL; show l.length ≤ _; omega, hw⟩, ⟨Nat.zero_le _, fun p h => by cases h⟩, by unfold fitL; simp, fun s hs => ?_⟩
  simp at hs
  subst hs
  exact ⟨⟨Nat.zero_le _, fun x h => by cases h⟩, ⟨Nat.zero_le _, fun x h => by cases h⟩, Nat.zero_le _, Nat.zero_le _⟩
theorem install0_ok (l : List Crs) (hne : l ≠ []) (hf : FlatC (flatCat l)) (hl : l.length ≤ 1000) (h1 : (l.map fun x => x.name).Nodup) (h2 : (l.map fun x => x.number).Nodup) (hw : ∀ c ∈ l, wfCrs c) (hv : l.all vCrs = true) (fr til kn : Int) (hs : spanOk fr til kn = true) :
    Pure Tryz.prog 15 [.agg (eBok (bok0 [])), .agg (eCat (flatCat l)), .agg (eSpn fr til), .int .i64 kn] [.agg (eBok (bok0 l)), eFcts (fs0 l fr til kn), .int .i64 0] := by
  have hB := bcheck_ok (bok0 []) ⟨⟨Nat.zero_le _, fun p h => by cases h⟩, ⟨Nat.zero_le _, fun p h => by cases h⟩, Nat.zero_le _, fun p h => by cases h⟩
  have hR := resolve_ok l hf hl h1 h2
  have hS := same0_ok l (by omega) hf
  have hP := allPai_ok [] (Nat.zero_le _) 73 (fun _ => true) fun p h => by cases h
  have hC := bcheck_ok ⟨l, [], [⟨[], [], [], []⟩]⟩ (wf0 l hl hw)
  rw [chk0 l hv] at hC
  rw [show chkB (bok0 []) = 0 from rfl] at hB
  have hI := in_ok kn 1 16777216
  simp only [spanOk, Bool.and_eq_true, decide_eq_true_eq] at hs
  obtain ⟨s1, s2, s3, s4⟩ := hs
  rw [s4] at hI
  have hk1 : numsC l = l.map fun x => x.number := rfl
  have hkn : (keysC l).Nodup := nodup_map_inj (f := fun n : Int => [n]) (fun a b h => by injection h) h2
  clear h1 h2 hf hw hv s4
  have z0 : (bok0 []).crs.length = 0 := rfl
  have z1 : (flatCat l).classes.length = 0 := rfl
  have z2 : (flatCat l).fees.length = 0 := rfl
  have z3 : (flatCat l).honours.length = 0 := rfl
  have z4 : (flatCat l).clauses.length = 0 := rfl
  refine pure_rule hT (T := tab) (N := 211) (rs := [.cell 8 26, .tmp 9, .tmp 10]) Tryz.func15 rfl rfl rfl (by kernel_rfl) rfl ?_
  (refine gW ?_; intros)
  refine hB.call ?_
  (refine gW ?_; intros)
  refine hR.at [] rfl True.intro (fun _ _ => ⟨rfl, ?_⟩)
  (refine gW ?_; intros)
  refine hS.call ?_
  (refine gW ?_; intros)
  refine hP.call ?_
  (refine gW ?_; intros)
  refine hC.loan rfl ⟨.agg' ⟨.d, .d, .rows rfl (Nat.le_refl _) (fun i hi => by rw [show i = 0 from Nat.lt_one_iff.1 hi]; rfl), True.intro⟩, True.intro⟩ ?_
  (refine gW ?_; intros)
  refine hI.call ?_
  (refine gW ?_; intros)
  refine Awp.vecCell (.loc 7) 3 144 94 8 [.d (.int .i64 fr), .d (.int .i64 til), .d (.int .i64 kn), .d .nils] (rowsOf eFct []) rfl rfl ?_
  refine loop_rule hT (S := Nat) (fun k => ([(4, .ptr (.loc 0) 0 0 0), (5, .ptr (.loc 1) 0 0 0), (8, .ptr (.loc 3) 0 0 0), (13, .ptr (.loc 5) 0 0 0), (15, .ptr (.loc 7) 0 0 0), (95, .d (eCrss l)), (96, .d (.int .i64 l.length)), (97, .d (.int .i64 k))],
    ⟨[some (.box 26 (up (eBok (bok0 [])))), some (.box 32 (up (eCat (flatCat l)))), none, some (.box 26 (up [.nils, .nils, .nils])), none, some (.box 83 (up (eSys ⟨[], [], [], []⟩))), none,
      some (.box 144 [.d (.int .i64 fr), .d (.int .i64 til), .d (.int .i64 kn), .osl (.loc 8) k 0 (fsC l fr til kn k).length]), some (.vec 94 8 k (fsC l fr til kn k).length (rowsOf eFct (fsC l fr til kn k)))], []⟩)) (fun k => k ≤ l.length) (fun k => l.length - k) 0 ?_ ?_ ?_
  · repeat' (first | exact True.intro | exact rfl | exact Nat.le_refl _ | refine And.intro ?_ ?_)
    all_goals first
      | (intro i hi; exact absurd hi (Nat.not_lt_zero i))
      | trace_state
  · exact Nat.zero_le _
  intro k hk
  dsimp only at hk ⊢
  by_cases hk2 : k < l.length
  · have hfl := fsC_len l fr til kn k
    have hA := add_ok fr til kn k (fsC l fr til kn k) (by omega) 1 (l.getD k default).number 0 (((0 : Nat) : Int) + (k : Int))
    have hs : Kp (fsC l fr til kn (k + 1) = fsC l fr til kn k ++ [⟨1, (l.getD k default).number, 0, ((0 : Nat) : Int) + (k : Int), fr, til, kn, (fsC l fr til kn k).length⟩]) := ⟨by
      rw [fsC]
      congr 3
      omega⟩
    generalize fsC l fr til kn k = fs at hA hs hfl ⊢
    clear hR hS hP hC hI hB
    (refine gW ?_; intros)
    refine hA.at [.loc 7, .loc 8] rfl ?_ (fun _ _ => ⟨rfl, ?_⟩)
    · exact ⟨rfl, rfl, True.intro⟩
    (refine gW ?_; intros)
    refine ⟨k + 1, by show k + 1 ≤ l.length; omega, by show l.length - (k + 1) < l.length - k; omega, ?_⟩
    dsimp only
    rw [hs.h]
    repeat' (first | exact True.intro | exact rfl | exact Nat.le_refl _ | refine And.intro ?_ ?_)
    all_goals first
      | (intro i hi; exact ⟨rfl, rfl⟩)
      | trace_state
  obtain rfl : k = l.length := by omega
  have hfl := fsC_len l fr til kn l.length
  unfold fs0
  generalize fsC l fr til kn l.length = fs at hfl ⊢
  (refine gW ?_; intros)
  refine loop_rule hT (S := Unit) (fun _ => ([(4, .ptr (.loc 0) 0 0 0), (5, .ptr (.loc 1) 0 0 0), (8, .ptr (.loc 3) 0 0 0), (13, .ptr (.loc 5) 0 0 0), (15, .ptr (.loc 7) 0 0 0), (113, .d (.int .i64 0)), (114, .d (.int .i64 0))],
    ⟨[some (.box 26 (up (eBok (bok0 [])))), some (.box 32 (up (eCat (flatCat l)))), none, some (.box 26 (up [.nils, .nils, .nils])), none, some (.box 83 (up (eSys ⟨[], [], [], []⟩))), none,
      some (.box 144 [.d (.int .i64 fr), .d (.int .i64 til), .d (.int .i64 kn), .osl (.loc 8) l.length 0 fs.length]), some (.vec 94 8 l.length fs.length (rowsOf eFct fs))], []⟩)) (fun _ => True) (fun _ => 0) () ?_ ?_ ?_
  · repeat' (first | exact True.intro | exact rfl | exact Nat.le_refl _ | refine And.intro ?_ ?_)
    all_goals (intro i hi; exact ⟨rfl, rfl⟩)
  · exact True.intro
  intro _ _
  (refine gW ?_; intros)
  refine loop_rule hT (S := Unit) (fun _ => ([(4, .ptr (.loc 0) 0 0 0), (5, .ptr (.loc 1) 0 0 0), (8, .ptr (.loc 3) 0 0 0), (13, .ptr (.loc 5) 0 0 0), (15, .ptr (.loc 7) 0 0 0), (130, .d (.int .i64 0)), (131, .d (.int .i64 0))],
    ⟨[some (.box 26 (up (eBok (bok0 [])))), some (.box 32 (up (eCat (flatCat l)))), none, some (.box 26 (up [.nils, .nils, .nils])), none, some (.box 83 (up (eSys ⟨[], [], [], []⟩))), none,
      some (.box 144 [.d (.int .i64 fr), .d (.int .i64 til), .d (.int .i64 kn), .osl (.loc 8) l.length 0 fs.length]), some (.vec 94 8 l.length fs.length (rowsOf eFct fs))], []⟩)) (fun _ => True) (fun _ => 0) () ?_ ?_ ?_
  · repeat' (first | exact True.intro | exact rfl | exact Nat.le_refl _ | refine And.intro ?_ ?_)
    all_goals (intro i hi; exact ⟨rfl, rfl⟩)
  · exact True.intro
  intro _ _
  have hC1 := concatCrs_ok [] l (Nat.zero_le _) (by omega)
  have hC2 := concatPrg_ok [] [] (Nat.zero_le _) (Nat.zero_le _)
  have hC3 := cloneSys_ok [] (Nat.zero_le _)
  (refine gW ?_; intros)
  refine qC hC1 ?_
  (refine gW ?_; intros)
  refine qC hC2 ?_
  (refine gW ?_; intros)
  refine qC hC3 ?_
  (refine gW ?_; intros)
  refine (numbersC_ok l (by omega)).at [] rfl True.intro (fun _ _ => ⟨rfl, ?_⟩)
  (refine gW ?_; intros)
  refine op_len_map hT rfl rfl rfl rfl fun qs q1 q2 q3 => ?_
  have hqs : qs.length = l.length := by
    rw [← keysC_len l]
    refine len_of_both q1 hkn fun key => ⟨fun h => ?_, fun h => ?_⟩
    · have := (q2 key h).2
      unfold hasU at this
      rw [List.take_of_length_le (by rw [keysC_len]; exact Nat.le_refl _)] at this
      exact of_decide_eq_true this
    · refine q3 key ?_ ?_
      · obtain ⟨n, _, rfl⟩ := List.mem_map.1 h
        rfl
      · unfold hasU
        rw [List.take_of_length_le (by rw [keysC_len]; exact Nat.le_refl _)]
        exact decide_eq_true h
  clear q1 q2 q3
  (refine gW ?_; intros)
  refine (numbersC_ok [] (Nat.zero_le _)).at [] rfl True.intro (fun _ _ => ⟨rfl, ?_⟩)
  (refine gW ?_; intros)
  refine op_len_map hT rfl rfl rfl rfl fun ps p1 p2 p3 => ?_
  have hps : ps.length = 0 := by
    cases ps with
    | nil => rfl
    | cons a r =>
      have := (p2 a (by simp)).2
      simp [hasU] at this
  clear p1 p2 p3
  have hpos : 0 < l.length := List.length_pos_iff.2 hne
  have hA := add_ok 0 1024 kn l.length fs (by omega) 12 0 0 (qs.length : Int)
  have hfn : (fs ++ [(⟨12, 0, 0, (qs.length : Int), 0, 1024, kn, fs.length⟩ : Fct)]).length = l.length + 1 := by rw [len_snoc, hfl]
  have hfe : fs ++ [(⟨12, 0, 0, (l.length : Int), 0, 1024, kn, fs.length⟩ : Fct)] = fs ++ [(⟨12, 0, 0, (qs.length : Int), 0, 1024, kn, fs.length⟩ : Fct)] := by rw [hqs]
  rw [hfe]
  clear hfe
  generalize fs ++ [(⟨12, 0, 0, (qs.length : Int), 0, 1024, kn, fs.length⟩ : Fct)] = es at hA hfn ⊢
  (refine gW ?_; intros)
  refine hA.at [.loc 7, .loc 8] rfl ?_ (fun _ _ => ⟨rfl, ?_⟩)
  · exact ⟨rfl, rfl, True.intro⟩
  (refine gS ?_; intros)
  refine Sq.go ?_
  (refine gS ?_; intros)
  refine Sq.go ?_
  (refine gS ?_; intros)
  refine Sq.alt (Awp.le (env' := [(8, .ptr (.loc 3) 0 0 0), (15, .ptr (.loc 7) 0 0 0)]) (m' := ⟨[none, none, none, some (.box 26 (up (eBok (bok0 l)))), none, none, none, some (.box 144 [.d (.int .i64 0), .d (.int .i64 1024), .d (.int .i64 kn), .osl (.loc 8) (l.length + 1) 0 es.length]), some (.vec 94 8 (l.length + 1) es.length (rowsOf eFct es))], []⟩) ?_ (Awp.seq (Awp.effs (m := ⟨[none, none, none, some (.box 26 (up (eBok (bok0 l)))), none, none, none, some (.box 144 [.d (.int .i64 0), .d (.int .i64 1024), .d (.int .i64 kn), .osl (.loc 8) (l.length + 1) 0 es.length]), some (.vec 94 8 (l.length + 1) es.length (rowsOf eFct es))], []⟩) hT (by kernel_rfl) (by kernel_rfl) (by kernel_rfl) ⟨[none, none, none, some (.box 26 (up (eBok (bok0 l)))), none, none, none, some (.box 144 [.d (.int .i64 0), .d (.int .i64 1024), .d (.int .i64 kn), .osl (.loc 8) (l.length + 1) 0 es.length]), some (.vec 94 8 (l.length + 1) es.length (rowsOf eFct es))], []⟩ [⟨3, .junk, ⟨[none, none, none, some (.box 26 (up (eBok (bok0 l)))), none, none, none, some (.box 144 [.d (.int .i64 0), .d (.int .i64 1024), .d (.int .i64 kn), .osl (.loc 8) (l.length + 1) 0 es.length]), some (.vec 94 8 (l.length + 1) es.length (rowsOf eFct es))], []⟩, []⟩] (by kernel_rfl) (fun r => .inl rfl) ⟨fun r => .inl rfl, True.intro⟩ ?_)))
  · repeat' (first | exact True.intro | exact rfl | exact Nat.le_refl _ | refine And.intro ?_ ?_)
    all_goals first
      | (intro i hi; exact ⟨rfl, rfl⟩)
      | trace_state
  conv => whnf
  (refine gS ?_; intros)
  refine ⟨?_, ?_⟩
  · conv => whnf
    (refine gS ?_; intros)
    exact ⟨True.intro, rfl⟩
  conv => whnf
  (refine gW ?_; intros)
  refine Awp.of_vc hT ?_
  (refine gW ?_; intros)
  refine ⟨.inl rfl, ⟨rfl, rfl, ?_, rfl, fun i hi => ?_⟩, rfl, True.intro⟩
  · exact Nat.le_of_eq (Nat.zero_add _)
  · rw [Nat.zero_add]
    rfl
/-- A span of no terms. -/
theorem install0_bad (l : List Crs) (hf : FlatC (flatCat l)) (hl : l.length ≤ 1000) (h1 : (l.map fun x => x.name).Nodup) (h2 : (l.map fun x => x.number).Nodup) (hw : ∀ c ∈ l, wfCrs c) (hv : l.all vCrs = true) (fr kn : Int) (hfr : 0 ≤ fr) :
    Pure Tryz.prog 15 [.agg (eBok (bok0 [])), .agg (eCat (flatCat l)), .agg (eSpn fr fr), .int .i64 kn] [.agg (eBok (bok0 [])), eFcts [], .int .i64 140] := by
  have hB := bcheck_ok (bok0 []) ⟨⟨Nat.zero_le _, fun p h => by cases h⟩, ⟨Nat.zero_le _, fun p h => by cases h⟩, Nat.zero_le _, fun p h => by cases h⟩
  have hR := resolve_ok l hf hl h1 h2
  have hS := same0_ok l (by omega) hf
  have hP := allPai_ok [] (Nat.zero_le _) 73 (fun _ => true) fun p h => by cases h
  have hC := bcheck_ok ⟨l, [], [⟨[], [], [], []⟩]⟩ (wf0 l hl hw)
  rw [chk0 l hv] at hC
  rw [show chkB (bok0 []) = 0 from rfl] at hB
  clear h1 h2 hf hw hv
  refine pure_rule hT (T := tab) (N := 211) (rs := [.cell 8 26, .tmp 9, .tmp 10]) Tryz.func15 rfl rfl rfl (by kernel_rfl) rfl ?_
  (refine gW ?_; intros)
  refine hB.call ?_
  (refine gW ?_; intros)
  refine hR.at [] rfl True.intro (fun _ _ => ⟨rfl, ?_⟩)
  (refine gW ?_; intros)
  refine hS.call ?_
  (refine gW ?_; intros)
  refine hP.call ?_
  (refine gW ?_; intros)
  refine hC.loan rfl ⟨.agg' ⟨.d, .d, .rows rfl (Nat.le_refl _) (fun i hi => by rw [show i = 0 from Nat.lt_one_iff.1 hi]; rfl), True.intro⟩, True.intro⟩ ?_
  (refine gW ?_; intros)
  exact ⟨.inr ⟨rfl, rfl, rfl, True.intro⟩, rfl, rfl, True.intro⟩
/-- A catalogue without definitions. -/
theorem install0_none (fr til kn : Int) (hs : spanOk fr til kn = true) :
    Pure Tryz.prog 15 [.agg (eBok (bok0 [])), .agg (eCat (flatCat [])), .agg (eSpn fr til), .int .i64 kn] [.agg (eBok (bok0 [])), eFcts [], .int .i64 0] := by
  have hB := bcheck_ok (bok0 []) ⟨⟨Nat.zero_le _, fun p h => by cases h⟩, ⟨Nat.zero_le _, fun p h => by cases h⟩, Nat.zero_le _, fun p h => by cases h⟩
  have hR := resolve_ok [] (fun x h => by cases h) (Nat.zero_le _) List.nodup_nil List.nodup_nil
  have hS := same0_ok [] (Nat.zero_le _) (fun x h => by cases h)
  have hP := allPai_ok [] (Nat.zero_le _) 73 (fun _ => true) fun p h => by cases h
  have hC := bcheck_ok ⟨[], [], [⟨[], [], [], []⟩]⟩ (wf0 [] (Nat.zero_le _) (fun x h => by cases h))
  rw [chk0 [] rfl] at hC
  rw [show chkB (bok0 []) = 0 from rfl] at hB
  have hI := in_ok kn 1 16777216
  simp only [spanOk, Bool.and_eq_true, decide_eq_true_eq] at hs
  obtain ⟨s1, s2, s3, s4⟩ := hs
  rw [s4] at hI
  have z0 : (bok0 []).crs.length = 0 := rfl
  have z1 : (flatCat []).classes.length = 0 := rfl
  have z2 : (flatCat []).fees.length = 0 := rfl
  have z3 : (flatCat []).honours.length = 0 := rfl
  have z4 : (flatCat []).clauses.length = 0 := rfl
  refine pure_rule hT (T := tab) (N := 211) (rs := [.cell 8 26, .tmp 9, .tmp 10]) Tryz.func15 rfl rfl rfl (by kernel_rfl) rfl ?_
  (refine gW ?_; intros)
  refine hB.call ?_
  (refine gW ?_; intros)
  refine hR.at [] rfl True.intro (fun _ _ => ⟨rfl, ?_⟩)
  (refine gW ?_; intros)
  refine hS.call ?_
  (refine gW ?_; intros)
  refine hP.call ?_
  (refine gW ?_; intros)
  refine hC.loan rfl ⟨.agg' ⟨.d, .d, .rows rfl (Nat.le_refl _) (fun i hi => by rw [show i = 0 from Nat.lt_one_iff.1 hi]; rfl), True.intro⟩, True.intro⟩ ?_
  (refine gW ?_; intros)
  refine hI.call ?_
  (refine gW ?_; intros)
  refine loop_rule hT (S := Unit) (fun _ => ([(4, .ptr (.loc 0) 0 0 0), (5, .ptr (.loc 1) 0 0 0), (8, .ptr (.loc 3) 0 0 0), (13, .ptr (.loc 5) 0 0 0), (15, .ptr (.loc 7) 0 0 0), (96, .d (.int .i64 0)), (97, .d (.int .i64 0))],
    ⟨[some (.box 26 (up (eBok (bok0 [])))), some (.box 32 (up (eCat (flatCat [])))), none, some (.box 26 (up [.nils, .nils, .nils])), none, some (.box 83 (up (eSys ⟨[], [], [], []⟩))), none,
      some (.box 144 (up [.int .i64 fr, .int .i64 til, .int .i64 kn, .nils]))], []⟩)) (fun _ => True) (fun _ => 0) () ?_ ?_ ?_
  · repeat' (first | exact True.intro | exact rfl | exact Nat.le_refl _ | refine And.intro ?_ ?_)
  · exact True.intro
  intro _ _
  (refine gW ?_; intros)
  refine loop_rule hT (S := Unit) (fun _ => ([(4, .ptr (.loc 0) 0 0 0), (5, .ptr (.loc 1) 0 0 0), (8, .ptr (.loc 3) 0 0 0), (13, .ptr (.loc 5) 0 0 0), (15, .ptr (.loc 7) 0 0 0), (113, .d (.int .i64 0)), (114, .d (.int .i64 0))],
    ⟨[some (.box 26 (up (eBok (bok0 [])))), some (.box 32 (up (eCat (flatCat [])))), none, some (.box 26 (up [.nils, .nils, .nils])), none, some (.box 83 (up (eSys ⟨[], [], [], []⟩))), none,
      some (.box 144 (up [.int .i64 fr, .int .i64 til, .int .i64 kn, .nils]))], []⟩)) (fun _ => True) (fun _ => 0) () ?_ ?_ ?_
  · repeat' (first | exact True.intro | exact rfl | exact Nat.le_refl _ | refine And.intro ?_ ?_)
  · exact True.intro
  intro _ _
  (refine gW ?_; intros)
  refine loop_rule hT (S := Unit) (fun _ => ([(4, .ptr (.loc 0) 0 0 0), (5, .ptr (.loc 1) 0 0 0), (8, .ptr (.loc 3) 0 0 0), (13, .ptr (.loc 5) 0 0 0), (15, .ptr (.loc 7) 0 0 0), (130, .d (.int .i64 0)), (131, .d (.int .i64 0))],
    ⟨[some (.box 26 (up (eBok (bok0 [])))), some (.box 32 (up (eCat (flatCat [])))), none, some (.box 26 (up [.nils, .nils, .nils])), none, some (.box 83 (up (eSys ⟨[], [], [], []⟩))), none,
      some (.box 144 (up [.int .i64 fr, .int .i64 til, .int .i64 kn, .nils]))], []⟩)) (fun _ => True) (fun _ => 0) () ?_ ?_ ?_
  · repeat' (first | exact True.intro | exact rfl | exact Nat.le_refl _ | refine And.intro ?_ ?_)
  · exact True.intro
  intro _ _
  have hC1 := concatCrs_ok [] [] (Nat.zero_le _) (Nat.zero_le _)
  have hC2 := concatPrg_ok [] [] (Nat.zero_le _) (Nat.zero_le _)
  have hC3 := cloneSys_ok [] (Nat.zero_le _)
  (refine gW ?_; intros)
  refine qC hC1 ?_
  (refine gW ?_; intros)
  refine qC hC2 ?_
  (refine gW ?_; intros)
  refine qC hC3 ?_
  (refine gW ?_; intros)
  refine (numbersC_ok [] (Nat.zero_le _)).at [] rfl True.intro (fun _ _ => ⟨rfl, ?_⟩)
  (refine gW ?_; intros)
  refine op_len_map hT rfl rfl rfl rfl fun qs p1 p2 p3 => ?_
  have hqs : qs.length = 0 := by
    cases qs with
    | nil => rfl
    | cons a r =>
      have := (p2 a (by simp)).2
      simp [hasU] at this
  clear p1 p2 p3
  (refine gW ?_; intros)
  refine (numbersC_ok [] (Nat.zero_le _)).at [] rfl True.intro (fun _ _ => ⟨rfl, ?_⟩)
  (refine gW ?_; intros)
  refine op_len_map hT rfl rfl rfl rfl fun ps p1 p2 p3 => ?_
  have hps : ps.length = 0 := by
    cases ps with
    | nil => rfl
    | cons a r =>
      have := (p2 a (by simp)).2
      simp [hasU] at this
  clear p1 p2 p3
  (refine gS ?_; intros)
  refine Sq.go ?_
  (refine gS ?_; intros)
  refine Sq.go ?_
  (refine gS ?_; intros)
  refine Sq.go ?_
  (refine gS ?_; intros)
  refine Sq.alt (Awp.le (env' := [(8, .ptr (.loc 3) 0 0 0), (15, .ptr (.loc 7) 0 0 0)]) (m' := ⟨[none, none, none, some (.box 26 (up (eBok (bok0 [])))), none, none, none, some (.box 144 (up [.int .i64 fr, .int .i64 til, .int .i64 kn, .nils]))], []⟩) ?_ (Awp.seq (Awp.effs (m := ⟨[none, none, none, some (.box 26 (up (eBok (bok0 [])))), none, none, none, some (.box 144 (up [.int .i64 fr, .int .i64 til, .int .i64 kn, .nils]))], []⟩) hT (by kernel_rfl) (by kernel_rfl) (by kernel_rfl) ⟨[none, none, none, some (.box 26 (up (eBok (bok0 [])))), none, none, none, some (.box 144 (up [.int .i64 fr, .int .i64 til, .int .i64 kn, .nils]))], []⟩ [⟨3, .junk, ⟨[none, none, none, some (.box 26 (up (eBok (bok0 [])))), none, none, none, some (.box 144 (up [.int .i64 fr, .int .i64 til, .int .i64 kn, .nils]))], []⟩, []⟩] (by kernel_rfl) (fun r => .inl rfl) ⟨fun r => .inl rfl, True.intro⟩ ?_)))
  · repeat' (first | exact True.intro | exact rfl | exact Nat.le_refl _ | refine And.intro ?_ ?_)
  conv => whnf
  (refine gS ?_; intros)
  refine ⟨?_, ?_⟩
  · conv => whnf
    (refine gS ?_; intros)
    exact ⟨True.intro, rfl⟩
  conv => whnf
  (refine gW ?_; intros)
  refine Awp.of_vc hT ?_
  (refine gW ?_; intros)
  trace_state
  exact ⟨.inl rfl, rfl, rfl, True.intro⟩
end Go.Proofs.YtmlhghddfobmmaaGreatDoor
