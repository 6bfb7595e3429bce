/-
  Chapter 11: names; rules without kids and without references.
-/
import Derived.Test.YtmlhghddfobmmaaGreatDoorNamA
import Derived.Test.YtmlhghddfobmmaaGreatDoorBookJ
import Derived.Test.YtmlhghddfobmmaaGreatDoorEngAR
import Derived.Test.YtmlhghddfobmmaaGreatDoorFrz
namespace Go.Proofs.YtmlhghddfobmmaaGreatDoor
set_option linter.unusedSimpArgs false
set_option linter.unusedVariables false
open Go Go.Ab
set_option maxRecDepth 100000
set_option maxHeartbeats 0
/-- A catalogue. -/
structure Cat where
  crs : List Crs
  same : List Pai
  prg : List Prg
  classes : List Cls
  fees : List Fee
  honours : List Cls
  clauses : List Cla
  deriving Inhabited
def eCat (c : Cat) : List D := [eCrss c.crs, ePais c.same, ePrgs c.prg, eClss c.classes, eFees c.fees, eClss c.honours, eClas c.clauses]
/-- A rule without kids and without references. -/
structure FlatR (r : Rule) : Prop where
  kids : r.kids = []
  op5 : r.op ≠ 5
  op6 : r.op ≠ 6
  op9 : r.op ≠ 9
theorem cloneR0_ok : Pure Tryz.prog 118 [eRules []] [eRules []] := by
  refine pure_rule hT (T := tab) (N := 8) (rs := [.tmp 2]) Tryz.func118 rfl rfl rfl (by kernel_rfl) rfl ?_
  rw [eRules_nil]
  (refine gW ?_; intros)
  refine op_isnil rfl Tryz.underlying64 rfl rfl (fun b hb => ?_)
  cases b
  · (refine gW ?_; intros)
    exact ⟨⟨rfl, rfl, Nat.le_refl _, rfl, fun i hi => absurd hi (Nat.not_lt_zero i)⟩, True.intro⟩
  · (refine gW ?_; intros)
    exact ⟨rfl, True.intro⟩
theorem eRule_flat {r : Rule} (h : r.kids = []) : eRule r = [.int .i64 r.op, .int .i64 r.course, .str r.name, .int .i64 r.n, .int .i64 r.d, eRules []] := by
  unfold eRule
  rw [h]
theorem ruleFlat_ok (c : Cat) (r : Rule) (h : FlatR r) : Pure Tryz.prog 68 [.agg (eCat c), .agg (eRule r)] [.agg (eRule r)] := by
  have h5 := h.op5
  have h6 := h.op6
  have h9 := h.op9
  rw [eRule_flat h.kids]
  have hC := cloneR0_ok
  rw [eRules_nil] at hC ⊢
  refine pure_rule hT (T := tab) (N := 41) (rs := [.cell 4 66]) Tryz.func68 rfl rfl rfl (by kernel_rfl) rfl ?_
  (refine gW ?_; intros)
  refine hC.call ?_
  (refine gW ?_; intros)
  refine loop_rule hT (S := Unit) (fun _ => ([(3, .ptr (.loc 1) 0 0 0), (4, .ptr (.loc 2) 0 0 0), (26, .d (.int .i64 0)), (27, .d (.int .i64 0))], ⟨[some (.box 32 (up (eCat c))), some (.box 66 (up [.int .i64 r.op, .int .i64 r.course, .str r.name, .int .i64 r.n, .int .i64 r.d, .sl 6 0 fun _ => []])), some (.box 66 (up [.int .i64 0, .int .i64 0, .str .empty, .int .i64 0, .int .i64 0, .nils]))], []⟩)) (fun _ => True) (fun _ => 0) () ?_ ?_ ?_
  · repeat' (first | exact True.intro | exact rfl | exact Nat.le_refl _ | refine And.intro ?_ ?_)
  · exact True.intro
  · intro _ _
    (refine gW ?_; intros)
    exact ⟨.inl rfl, True.intro⟩
theorem nparts_ok (r : Rule) : CallVC Tryz.prog 214 [.d (.agg (eRule r))] ⟨[], []⟩
    (Ret (fun _ : Unit => ([.fn (.func 235) [] [.ptr (.loc 0) 0 0 0]], ⟨[some (.box 66 (up (eRule r)))], []⟩)) fun _ => True) := by
  refine call_rule hT (T := tab) (N := 4) (rs := [.tmp 2]) _ _ Tryz.func214 rfl rfl rfl (by kernel_rfl) rfl ?_
  (refine gW ?_; intros)
  exact ⟨(), True.intro, by repeat' (first | exact True.intro | exact rfl | exact Nat.le_refl _ | refine And.intro ?_ ?_), rfl⟩
theorem nparts1_ok (rec : Loop) (y : Nat) (r : Rule) (hk : r.kids = []) (hy : YieldVC Tryz.prog y [.d (.agg (eRule r))] ⟨[], [some (.box 66 (up (eRule r))), some (.loop y rec [])]⟩ (Ret (fun _ : Unit => ([.d (.bool true)], ⟨[], [some (.box 66 (up (eRule r))), some (.loop y rec [])]⟩)) fun _ => True)) :
    CallVC Tryz.prog 235 [.fn (.yield y) [] [], .ptr (.arg 0) 0 0 0] ⟨[], [some (.box 66 (up (eRule r))), some (.loop y rec [])]⟩ (Ret (fun _ : Unit => ([], ⟨[], [some (.box 66 (up (eRule r))), some (.loop y rec [])]⟩)) fun _ => True) := by
  rw [eRule_flat hk] at hy ⊢
  rw [eRules_nil] at hy ⊢
  refine call_rule hT (T := tab) (N := 25) (rs := []) _ _ Tryz.func235 rfl rfl rfl (by kernel_rfl) rfl ?_
  (refine gW ?_; intros)
  refine hy.at [.arg 0, .arg 1] rfl ⟨rfl, rfl, True.intro⟩ (fun _ _ => ⟨rfl, ?_⟩)
  (refine gW ?_; intros)
  refine loop_rule hT (S := Unit) (fun _ => ([(12, .d (.int .i64 0)), (13, .d (.int .i64 0))], ⟨[], [some (.box 66 (up [.int .i64 r.op, .int .i64 r.course, .str r.name, .int .i64 r.n, .int .i64 r.d, .sl 6 0 fun _ => []])), some (.loop y rec [])]⟩)) (fun _ => True) (fun _ => 0) () ?_ ?_ ?_
  · repeat' (first | exact True.intro | exact rfl | exact Nat.le_refl _ | refine And.intro ?_ ?_)
  · exact True.intro
  · intro _ _
    (refine gW ?_; intros)
    exact ⟨(), True.intro, by repeat' (first | exact True.intro | exact rfl | exact Nat.le_refl _ | refine And.intro ?_ ?_), rfl⟩
theorem needs_ok (c : Cat) (i : Int) : CallVC Tryz.prog 173 [.d (.agg (eCat c)), .d (.int .i64 i)] ⟨[], []⟩
    (Ret (fun _ : Unit => ([.fn (.func 213) [] [.ptr (.loc 0) 0 0 0, .ptr (.loc 1) 0 0 0]], ⟨[some (.box 32 (up (eCat c))), some (.box 3 [.d (.int .i64 i)])], []⟩)) fun _ => True) := by
  refine call_rule hT (T := tab) (N := 6) (rs := [.tmp 4]) _ _ Tryz.func173 rfl rfl rfl (by kernel_rfl) rfl ?_
  (refine gW ?_; intros)
  exact ⟨(), True.intro, by repeat' (first | exact True.intro | exact rfl | exact Nat.le_refl _ | refine And.intro ?_ ?_), rfl⟩
theorem needs1_ok (y : Nat) (c : Cat) (i : Nat) (hi : i < c.crs.length) (hf : FlatR (c.crs.getD i default).need) :
    CallVC Tryz.prog 213 [.fn (.yield y) [] [], .ptr (.arg 0) 0 0 0, .ptr (.arg 1) 0 0 0] ⟨[], [some (.box 32 (up (eCat c))), some (.box 3 [.d (.int .i64 i)])]⟩ (Ret (fun _ : Unit => ([], ⟨[], [some (.box 32 (up (eCat c))), some (.box 3 [.d (.int .i64 i)])]⟩)) fun _ => True) := by
  refine call_rule hT (T := tab) (N := 36) (rs := []) _ _ Tryz.func213 rfl rfl rfl (by kernel_rfl) rfl ?_
  (refine gW ?_; intros)
  refine (nparts_ok (c.crs.getD i default).need).at [] rfl True.intro (fun _ _ => ⟨rfl, ?_⟩)
  (refine gW ?_; intros)
  refine Awp.range (caps := [.ptr (.loc 1) 0 0 0]) [] (.inl rfl) (nl := 2) (na := 2) True.intro ?_
  intro y' rec h1 h2 h3 h4 h5 h6
  obtain ⟨r, hr⟩ : ∃ r, (c.crs.getD i default).need = r := ⟨_, rfl⟩
  rw [hr] at hf ⊢
  have g5 := hf.op5
  have g6 := hf.op6
  refine (nparts1_ok rec y' r hf.kids ?_).at [.loc 1, .loc 2] rfl ⟨rfl, rfl, True.intro⟩ (fun _ _ => ⟨rfl, ?_⟩)
  · refine yieldMono (yield_rule (N := 36) (ps := [13]) (args := [.d (.agg (eRule r))]) (bs := [some (.box 66 (up (eRule r)))]) (env0 := []) (fun _ : Unit => [some (.box 66 (up (eRule r)))]) (fun _ => none) (fun _ => True) h1 h3 h4 h5 h6 rfl (by simp) ?_ rfl rfl ?_) ?_
    · repeat' (first | exact True.intro | exact rfl | exact Nat.le_refl _ | refine And.intro ?_ ?_)
    · refine Awp.of_vc hT ?_
      (refine gW ?_; intros)
      refine Awp.of_vc hT ?_
      (refine gW ?_; intros)
      exact ⟨(), True.intro, rfl, rfl, by repeat' (first | exact True.intro | exact rfl | exact Nat.le_refl _ | refine And.intro ?_ ?_)⟩
    · rintro A m' ⟨_, _, rfl, rfl⟩
      refine ⟨(), True.intro, rfl, ?_⟩
      show (⟨[], [some _, some (.loop y' (after rec none) _)]⟩ : Mem) = _
      rw [after_none h1 h2]
  · (refine gW ?_; intros)
    exact ⟨none, by rw [after_none h1 h2]; rfl, (), True.intro, by repeat' (first | exact True.intro | exact rfl | exact Nat.le_refl _ | refine And.intro ?_ ?_), rfl⟩
end Go.Proofs.YtmlhghddfobmmaaGreatDoor
