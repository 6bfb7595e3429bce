/-
  Chapter 14: catalogues, books and worlds as data; all elements of a list.
-/
import Derived.Test.YtmlhghddfobmmaaGreatDoorRuleE
namespace Go.Proofs.YtmlhghddfobmmaaGreatDoor
set_option linter.unusedSimpArgs false
set_option linter.unusedVariables false
open Go Go.Ab
set_option maxRecDepth 100000
set_option maxHeartbeats 0
structure Crs where
  name : ByteArray
  number : Int
  credits : Int
  rep : Int
  need : Rule
  bar : Rule
  deriving Inhabited
def eCrs (c : Crs) : List D := [.str c.name, .int .i64 c.number, .int .i64 c.credits, .int .i64 c.rep, .int .i64 c.need.op, .int .i64 c.need.course, .str c.need.name, .int .i64 c.need.n, .int .i64 c.need.d, eRules c.need.kids,
  .int .i64 c.bar.op, .int .i64 c.bar.course, .str c.bar.name, .int .i64 c.bar.n, .int .i64 c.bar.d, eRules c.bar.kids]
def eCrss (xs : List Crs) : D := .sl 16 xs.length fun i => eCrs (xs.getD i default)
def eStrs (xs : List ByteArray) : D := .sl 1 xs.length fun i => [.str (xs.getD i default)]
structure Req where
  name : ByteArray
  credits : Int
  grade : Int
  home : Bool
  names : List ByteArray
  fr : List Int
  deriving Inhabited
def eReq (q : Req) : List D := [.str q.name, .int .i64 q.credits, .int .i64 q.grade, .bool q.home, eStrs q.names, eInts q.fr]
def eReqs (xs : List Req) : D := .sl 6 xs.length fun i => eReq (xs.getD i default)
structure Prg where
  name : ByteArray
  number : Int
  uses : Int
  earn : Int
  mn : Int
  md : Int
  reqs : List Req
  deriving Inhabited
def ePrg (p : Prg) : List D := [.str p.name, .int .i64 p.number, .int .i64 p.uses, .int .i64 p.earn, .int .i64 p.mn, .int .i64 p.md, eReqs p.reqs]
def ePrgs (xs : List Prg) : D := .sl 7 xs.length fun i => ePrg (xs.getD i default)
structure Cls where
  name : ByteArray
  earn : Int
  mn : Int
  md : Int
  deriving Inhabited
def eCls (x : Cls) : List D := [.str x.name, .int .i64 x.earn, .int .i64 x.mn, .int .i64 x.md]
def eClss (xs : List Cls) : D := .sl 4 xs.length fun i => eCls (xs.getD i default)
structure Fee where
  name : ByteArray
  credits : Int
  deriving Inhabited
def eFee (x : Fee) : List D := [.str x.name, .int .i64 x.credits]
def eFees (xs : List Fee) : D := .sl 2 xs.length fun i => eFee (xs.getD i default)
structure Cla where
  kind : Int
  whn : Int
  action : Int
  til : Int
  deriving Inhabited
def eCla (x : Cla) : List D := [.int .i64 x.kind, .int .i64 x.whn, .int .i64 x.action, .int .i64 x.til]
def eClas (xs : List Cla) : D := .sl 4 xs.length fun i => eCla (xs.getD i default)
structure Sys where
  classes : List Cls
  fees : List Fee
  honours : List Cls
  clauses : List Cla
  deriving Inhabited
def eSys (s : Sys) : List D := [eClss s.classes, eFees s.fees, eClss s.honours, eClas s.clauses]
def eSyss (xs : List Sys) : D := .sl 4 xs.length fun i => eSys (xs.getD i default)
structure Pai where
  a : ByteArray
  b : ByteArray
  x : Int
  y : Int
  deriving Inhabited
def ePai (p : Pai) : List D := [.str p.a, .str p.b, .int .i64 p.x, .int .i64 p.y]
def ePais (xs : List Pai) : D := .sl 4 xs.length fun i => ePai (xs.getD i default)
structure Fct where
  kind : Int
  subject : Int
  object : Int
  value : Int
  fr : Int
  til : Int
  known : Int
  no : Int
  deriving Inhabited, DecidableEq
def eFct (f : Fct) : List D := [.int .i64 f.kind, .int .i64 f.subject, .int .i64 f.object, .int .i64 f.value, .int .i64 f.fr, .int .i64 f.til, .int .i64 f.known, .int .i64 f.no]
def eFcts (xs : List Fct) : D := .sl 8 xs.length fun i => eFct (xs.getD i default)
structure Red where
  kind : Int
  subject : Int
  object : Int
  fr : Int
  til : Int
  deriving Inhabited, DecidableEq
def eRed (r : Red) : List D := [.int .i64 r.kind, .int .i64 r.subject, .int .i64 r.object, .int .i64 r.fr, .int .i64 r.til]
def eReds (xs : List Red) : D := .sl 5 xs.length fun i => eRed (xs.getD i default)
/-- A length that fits. -/
def fitL {α : Type} (xs : List α) : Prop := xs.length ≤ 9223372036854775807
theorem idxCrs_ok (xs : List Crs) (hx : xs.length ≤ 9223372036854775807) (f : FuncId) (c0 : D) (p : Crs → Bool) (hp : ∀ s, s ∈ xs → Pure Tryz.prog f [.agg (eCrs s), c0] [.bool (p s)]) :
    Pure Tryz.prog 170 [eCrss xs, .fn (.func f) [] [c0]] [.int .i64 (ix p xs 0)] := by
  refine pure_rule hT (T := tab) (N := 19) (rs := [.tmp 4]) Tryz.func170 rfl rfl rfl (by kernel_rfl) rfl ?_
  (refine gW ?_; intros)
  refine loop_rule hT (S := Nat) (fun k => ([(0, .d (eCrss xs)), (1, .d (.fn (.func f) [] [c0])), (7, .d (.int .i64 xs.length)), (8, .d (.int .i64 k))], ⟨[], []⟩)) (fun k => k ≤ xs.length ∧ ix p xs 0 = ix p (xs.drop k) k) (fun k => xs.length - k) 0 ?_ ?_ ?_
  · repeat' (first | exact True.intro | exact rfl | exact Nat.le_refl _ | refine And.intro ?_ ?_)
  · exact ⟨Nat.zero_le _, rfl⟩
  · rintro k ⟨hk, hc⟩
    ((refine xW ?_ ?_) <;> intros)
    · refine ⟨⟨f, [], [.d c0], .inr ⟨[], [c0], rfl, rfl, rfl⟩, (hp (xs.getD k default) (getD_mem (by omega))).call ?_⟩⟩
      ((refine xW ?_ ?_) <;> (intros; try rename_i h))
      · refine ⟨congrArg (D.int .i64) ?_, True.intro⟩
        rw [hc, drop_at (by omega), ix, if_pos h]
      · refine ⟨k + 1, ⟨by show k + 1 ≤ xs.length; omega, ?_⟩, by show xs.length - (k + 1) < xs.length - k; omega, ?_⟩
        · rw [hc, drop_at (by omega), ix, if_neg (by rw [h]; exact Bool.false_ne_true)]
          rfl
        · repeat' (first | exact True.intro | exact rfl | exact Nat.le_refl _ | refine And.intro ?_ ?_)
    · refine ⟨congrArg (D.int .i64) ?_, True.intro⟩
      have : k = xs.length := by omega
      rw [hc]
      simp [this, ix]
theorem anyCrs_ok (xs : List Crs) (hx : xs.length ≤ 9223372036854775807) (f : FuncId) (c0 : D) (p : Crs → Bool) (hp : ∀ s, s ∈ xs → Pure Tryz.prog f [.agg (eCrs s), c0] [.bool (p s)]) :
    Pure Tryz.prog 142 [eCrss xs, .fn (.func f) [] [c0]] [.bool (xs.any p)] := by
  refine pure_rule hT (T := tab) (N := 9) (rs := [.tmp 4]) Tryz.func142 rfl rfl rfl (by kernel_rfl) rfl ?_
  (refine gW ?_; intros)
  refine (idxCrs_ok xs hx f c0 p hp).call ?_
  (refine gW ?_; intros)
  refine ⟨congrArg D.bool ?_, True.intro⟩
  rw [← ix_ge p xs 0 (by omega)]
theorem cloCrs_ok (s : Crs) (f : FuncId) (b : Bool) (hp : Pure Tryz.prog f [.agg (eCrs s)] [.bool b]) : Pure Tryz.prog 143 [.agg (eCrs s), .pt [.fn (.func f) [] []] 0] [.bool (!b)] := by
  refine pure_rule hT (T := tab) (N := 8) (rs := [.tmp 3]) Tryz.func143 rfl rfl rfl (by kernel_rfl) rfl ?_
  (refine gW ?_; intros)
  refine hp.call ?_
  (refine gW ?_; intros)
  exact ⟨rfl, True.intro⟩
theorem allCrs_ok (xs : List Crs) (hx : fitL xs) (f : FuncId) (p : Crs → Bool) (hp : ∀ s, s ∈ xs → Pure Tryz.prog f [.agg (eCrs s)] [.bool (p s)]) : Pure Tryz.prog 87 [eCrss xs, .fn (.func f) [] []] [.bool (xs.all p)] := by
  refine pure_rule hT (T := tab) (N := 9) (rs := [.tmp 4]) Tryz.func87 rfl rfl rfl (by kernel_rfl) rfl ?_
  have hI := anyCrs_ok xs hx 143 (.pt [.fn (.func f) [] []] 0) (fun s => !p s) fun s hs => cloCrs_ok s f (p s) (hp s hs)
  (refine gW ?_; intros)
  refine hI.loan rfl ⟨.d, .fn' True.intro ⟨.ptr' rfl ⟨.d, True.intro⟩, True.intro⟩, True.intro⟩ ?_
  (refine gW ?_; intros)
  refine ⟨congrArg D.bool ?_, True.intro⟩
  rw [List.not_any_eq_all_not]
  simp
theorem idxPrg_ok (xs : List Prg) (hx : xs.length ≤ 9223372036854775807) (f : FuncId) (c0 : D) (p : Prg → Bool) (hp : ∀ s, s ∈ xs → Pure Tryz.prog f [.agg (ePrg s), c0] [.bool (p s)]) :
    Pure Tryz.prog 184 [ePrgs xs, .fn (.func f) [] [c0]] [.int .i64 (ix p xs 0)] := by
  refine pure_rule hT (T := tab) (N := 19) (rs := [.tmp 4]) Tryz.func184 rfl rfl rfl (by kernel_rfl) rfl ?_
  (refine gW ?_; intros)
  refine loop_rule hT (S := Nat) (fun k => ([(0, .d (ePrgs xs)), (1, .d (.fn (.func f) [] [c0])), (7, .d (.int .i64 xs.length)), (8, .d (.int .i64 k))], ⟨[], []⟩)) (fun k => k ≤ xs.length ∧ ix p xs 0 = ix p (xs.drop k) k) (fun k => xs.length - k) 0 ?_ ?_ ?_
  · repeat' (first | exact True.intro | exact rfl | exact Nat.le_refl _ | refine And.intro ?_ ?_)
  · exact ⟨Nat.zero_le _, rfl⟩
  · rintro k ⟨hk, hc⟩
    ((refine xW ?_ ?_) <;> intros)
    · refine ⟨⟨f, [], [.d c0], .inr ⟨[], [c0], rfl, rfl, rfl⟩, (hp (xs.getD k default) (getD_mem (by omega))).call ?_⟩⟩
      ((refine xW ?_ ?_) <;> (intros; try rename_i h))
      · refine ⟨congrArg (D.int .i64) ?_, True.intro⟩
        rw [hc, drop_at (by omega), ix, if_pos h]
      · refine ⟨k + 1, ⟨by show k + 1 ≤ xs.length; omega, ?_⟩, by show xs.length - (k + 1) < xs.length - k; omega, ?_⟩
        · rw [hc, drop_at (by omega), ix, if_neg (by rw [h]; exact Bool.false_ne_true)]
          rfl
        · repeat' (first | exact True.intro | exact rfl | exact Nat.le_refl _ | refine And.intro ?_ ?_)
    · refine ⟨congrArg (D.int .i64) ?_, True.intro⟩
      have : k = xs.length := by omega
      rw [hc]
      simp [this, ix]
theorem anyPrg_ok (xs : List Prg) (hx : xs.length ≤ 9223372036854775807) (f : FuncId) (c0 : D) (p : Prg → Bool) (hp : ∀ s, s ∈ xs → Pure Tryz.prog f [.agg (ePrg s), c0] [.bool (p s)]) :
    Pure Tryz.prog 145 [ePrgs xs, .fn (.func f) [] [c0]] [.bool (xs.any p)] := by
  refine pure_rule hT (T := tab) (N := 9) (rs := [.tmp 4]) Tryz.func145 rfl rfl rfl (by kernel_rfl) rfl ?_
  (refine gW ?_; intros)
  refine (idxPrg_ok xs hx f c0 p hp).call ?_
  (refine gW ?_; intros)
  refine ⟨congrArg D.bool ?_, True.intro⟩
  rw [← ix_ge p xs 0 (by omega)]
theorem cloPrg_ok (s : Prg) (f : FuncId) (b : Bool) (hp : Pure Tryz.prog f [.agg (ePrg s)] [.bool b]) : Pure Tryz.prog 146 [.agg (ePrg s), .pt [.fn (.func f) [] []] 0] [.bool (!b)] := by
  refine pure_rule hT (T := tab) (N := 8) (rs := [.tmp 3]) Tryz.func146 rfl rfl rfl (by kernel_rfl) rfl ?_
  (refine gW ?_; intros)
  refine hp.call ?_
  (refine gW ?_; intros)
  exact ⟨rfl, True.intro⟩
theorem allPrg_ok (xs : List Prg) (hx : fitL xs) (f : FuncId) (p : Prg → Bool) (hp : ∀ s, s ∈ xs → Pure Tryz.prog f [.agg (ePrg s)] [.bool (p s)]) : Pure Tryz.prog 89 [ePrgs xs, .fn (.func f) [] []] [.bool (xs.all p)] := by
  refine pure_rule hT (T := tab) (N := 9) (rs := [.tmp 4]) Tryz.func89 rfl rfl rfl (by kernel_rfl) rfl ?_
  have hI := anyPrg_ok xs hx 146 (.pt [.fn (.func f) [] []] 0) (fun s => !p s) fun s hs => cloPrg_ok s f (p s) (hp s hs)
  (refine gW ?_; intros)
  refine hI.loan rfl ⟨.d, .fn' True.intro ⟨.ptr' rfl ⟨.d, True.intro⟩, True.intro⟩, True.intro⟩ ?_
  (refine gW ?_; intros)
  refine ⟨congrArg D.bool ?_, True.intro⟩
  rw [List.not_any_eq_all_not]
  simp
theorem idxSys_ok (xs : List Sys) (hx : xs.length ≤ 9223372036854775807) (f : FuncId) (c0 : D) (p : Sys → Bool) (hp : ∀ s, s ∈ xs → Pure Tryz.prog f [.agg (eSys s), c0] [.bool (p s)]) :
    Pure Tryz.prog 190 [eSyss xs, .fn (.func f) [] [c0]] [.int .i64 (ix p xs 0)] := by
  refine pure_rule hT (T := tab) (N := 19) (rs := [.tmp 4]) Tryz.func190 rfl rfl rfl (by kernel_rfl) rfl ?_
  (refine gW ?_; intros)
  refine loop_rule hT (S := Nat) (fun k => ([(0, .d (eSyss xs)), (1, .d (.fn (.func f) [] [c0])), (7, .d (.int .i64 xs.length)), (8, .d (.int .i64 k))], ⟨[], []⟩)) (fun k => k ≤ xs.length ∧ ix p xs 0 = ix p (xs.drop k) k) (fun k => xs.length - k) 0 ?_ ?_ ?_
  · repeat' (first | exact True.intro | exact rfl | exact Nat.le_refl _ | refine And.intro ?_ ?_)
  · exact ⟨Nat.zero_le _, rfl⟩
  · rintro k ⟨hk, hc⟩
    ((refine xW ?_ ?_) <;> intros)
    · refine ⟨⟨f, [], [.d c0], .inr ⟨[], [c0], rfl, rfl, rfl⟩, (hp (xs.getD k default) (getD_mem (by omega))).call ?_⟩⟩
      ((refine xW ?_ ?_) <;> (intros; try rename_i h))
      · refine ⟨congrArg (D.int .i64) ?_, True.intro⟩
        rw [hc, drop_at (by omega), ix, if_pos h]
      · refine ⟨k + 1, ⟨by show k + 1 ≤ xs.length; omega, ?_⟩, by show xs.length - (k + 1) < xs.length - k; omega, ?_⟩
        · rw [hc, drop_at (by omega), ix, if_neg (by rw [h]; exact Bool.false_ne_true)]
          rfl
        · repeat' (first | exact True.intro | exact rfl | exact Nat.le_refl _ | refine And.intro ?_ ?_)
    · refine ⟨congrArg (D.int .i64) ?_, True.intro⟩
      have : k = xs.length := by omega
      rw [hc]
      simp [this, ix]
theorem anySys_ok (xs : List Sys) (hx : xs.length ≤ 9223372036854775807) (f : FuncId) (c0 : D) (p : Sys → Bool) (hp : ∀ s, s ∈ xs → Pure Tryz.prog f [.agg (eSys s), c0] [.bool (p s)]) :
    Pure Tryz.prog 150 [eSyss xs, .fn (.func f) [] [c0]] [.bool (xs.any p)] := by
  refine pure_rule hT (T := tab) (N := 9) (rs := [.tmp 4]) Tryz.func150 rfl rfl rfl (by kernel_rfl) rfl ?_
  (refine gW ?_; intros)
  refine (idxSys_ok xs hx f c0 p hp).call ?_
  (refine gW ?_; intros)
  refine ⟨congrArg D.bool ?_, True.intro⟩
  rw [← ix_ge p xs 0 (by omega)]
theorem cloSys_ok (s : Sys) (f : FuncId) (b : Bool) (hp : Pure Tryz.prog f [.agg (eSys s)] [.bool b]) : Pure Tryz.prog 151 [.agg (eSys s), .pt [.fn (.func f) [] []] 0] [.bool (!b)] := by
  refine pure_rule hT (T := tab) (N := 8) (rs := [.tmp 3]) Tryz.func151 rfl rfl rfl (by kernel_rfl) rfl ?_
  (refine gW ?_; intros)
  refine hp.call ?_
  (refine gW ?_; intros)
  exact ⟨rfl, True.intro⟩
theorem allSys_ok (xs : List Sys) (hx : fitL xs) (f : FuncId) (p : Sys → Bool) (hp : ∀ s, s ∈ xs → Pure Tryz.prog f [.agg (eSys s)] [.bool (p s)]) : Pure Tryz.prog 91 [eSyss xs, .fn (.func f) [] []] [.bool (xs.all p)] := by
  refine pure_rule hT (T := tab) (N := 9) (rs := [.tmp 4]) Tryz.func91 rfl rfl rfl (by kernel_rfl) rfl ?_
  have hI := anySys_ok xs hx 151 (.pt [.fn (.func f) [] []] 0) (fun s => !p s) fun s hs => cloSys_ok s f (p s) (hp s hs)
  (refine gW ?_; intros)
  refine hI.loan rfl ⟨.d, .fn' True.intro ⟨.ptr' rfl ⟨.d, True.intro⟩, True.intro⟩, True.intro⟩ ?_
  (refine gW ?_; intros)
  refine ⟨congrArg D.bool ?_, True.intro⟩
  rw [List.not_any_eq_all_not]
  simp
theorem idxReq_ok (xs : List Req) (hx : xs.length ≤ 9223372036854775807) (f : FuncId) (c0 : D) (p : Req → Bool) (hp : ∀ s, s ∈ xs → Pure Tryz.prog f [.agg (eReq s), c0] [.bool (p s)]) :
    Pure Tryz.prog 221 [eReqs xs, .fn (.func f) [] [c0]] [.int .i64 (ix p xs 0)] := by
  refine pure_rule hT (T := tab) (N := 19) (rs := [.tmp 4]) Tryz.func221 rfl rfl rfl (by kernel_rfl) rfl ?_
  (refine gW ?_; intros)
  refine loop_rule hT (S := Nat) (fun k => ([(0, .d (eReqs xs)), (1, .d (.fn (.func f) [] [c0])), (7, .d (.int .i64 xs.length)), (8, .d (.int .i64 k))], ⟨[], []⟩)) (fun k => k ≤ xs.length ∧ ix p xs 0 = ix p (xs.drop k) k) (fun k => xs.length - k) 0 ?_ ?_ ?_
  · repeat' (first | exact True.intro | exact rfl | exact Nat.le_refl _ | refine And.intro ?_ ?_)
  · exact ⟨Nat.zero_le _, rfl⟩
  · rintro k ⟨hk, hc⟩
    ((refine xW ?_ ?_) <;> intros)
    · refine ⟨⟨f, [], [.d c0], .inr ⟨[], [c0], rfl, rfl, rfl⟩, (hp (xs.getD k default) (getD_mem (by omega))).call ?_⟩⟩
      ((refine xW ?_ ?_) <;> (intros; try rename_i h))
      · refine ⟨congrArg (D.int .i64) ?_, True.intro⟩
        rw [hc, drop_at (by omega), ix, if_pos h]
      · refine ⟨k + 1, ⟨by show k + 1 ≤ xs.length; omega, ?_⟩, by show xs.length - (k + 1) < xs.length - k; omega, ?_⟩
        · rw [hc, drop_at (by omega), ix, if_neg (by rw [h]; exact Bool.false_ne_true)]
          rfl
        · repeat' (first | exact True.intro | exact rfl | exact Nat.le_refl _ | refine And.intro ?_ ?_)
    · refine ⟨congrArg (D.int .i64) ?_, True.intro⟩
      have : k = xs.length := by omega
      rw [hc]
      simp [this, ix]
theorem anyReq_ok (xs : List Req) (hx : xs.length ≤ 9223372036854775807) (f : FuncId) (c0 : D) (p : Req → Bool) (hp : ∀ s, s ∈ xs → Pure Tryz.prog f [.agg (eReq s), c0] [.bool (p s)]) :
    Pure Tryz.prog 186 [eReqs xs, .fn (.func f) [] [c0]] [.bool (xs.any p)] := by
  refine pure_rule hT (T := tab) (N := 9) (rs := [.tmp 4]) Tryz.func186 rfl rfl rfl (by kernel_rfl) rfl ?_
  (refine gW ?_; intros)
  refine (idxReq_ok xs hx f c0 p hp).call ?_
  (refine gW ?_; intros)
  refine ⟨congrArg D.bool ?_, True.intro⟩
  rw [← ix_ge p xs 0 (by omega)]
theorem cloReq_ok (s : Req) (f : FuncId) (b : Bool) (hp : Pure Tryz.prog f [.agg (eReq s)] [.bool b]) : Pure Tryz.prog 187 [.agg (eReq s), .pt [.fn (.func f) [] []] 0] [.bool (!b)] := by
  refine pure_rule hT (T := tab) (N := 8) (rs := [.tmp 3]) Tryz.func187 rfl rfl rfl (by kernel_rfl) rfl ?_
  (refine gW ?_; intros)
  refine hp.call ?_
  (refine gW ?_; intros)
  exact ⟨rfl, True.intro⟩
theorem allReq_ok (xs : List Req) (hx : fitL xs) (f : FuncId) (p : Req → Bool) (hp : ∀ s, s ∈ xs → Pure Tryz.prog f [.agg (eReq s)] [.bool (p s)]) : Pure Tryz.prog 148 [eReqs xs, .fn (.func f) [] []] [.bool (xs.all p)] := by
  refine pure_rule hT (T := tab) (N := 9) (rs := [.tmp 4]) Tryz.func148 rfl rfl rfl (by kernel_rfl) rfl ?_
  have hI := anyReq_ok xs hx 187 (.pt [.fn (.func f) [] []] 0) (fun s => !p s) fun s hs => cloReq_ok s f (p s) (hp s hs)
  (refine gW ?_; intros)
  refine hI.loan rfl ⟨.d, .fn' True.intro ⟨.ptr' rfl ⟨.d, True.intro⟩, True.intro⟩, True.intro⟩ ?_
  (refine gW ?_; intros)
  refine ⟨congrArg D.bool ?_, True.intro⟩
  rw [List.not_any_eq_all_not]
  simp
theorem idxCls_ok (xs : List Cls) (hx : xs.length ≤ 9223372036854775807) (f : FuncId) (c0 : D) (p : Cls → Bool) (hp : ∀ s, s ∈ xs → Pure Tryz.prog f [.agg (eCls s), c0] [.bool (p s)]) :
    Pure Tryz.prog 224 [eClss xs, .fn (.func f) [] [c0]] [.int .i64 (ix p xs 0)] := by
  refine pure_rule hT (T := tab) (N := 19) (rs := [.tmp 4]) Tryz.func224 rfl rfl rfl (by kernel_rfl) rfl ?_
  (refine gW ?_; intros)
  refine loop_rule hT (S := Nat) (fun k => ([(0, .d (eClss xs)), (1, .d (.fn (.func f) [] [c0])), (7, .d (.int .i64 xs.length)), (8, .d (.int .i64 k))], ⟨[], []⟩)) (fun k => k ≤ xs.length ∧ ix p xs 0 = ix p (xs.drop k) k) (fun k => xs.length - k) 0 ?_ ?_ ?_
  · repeat' (first | exact True.intro | exact rfl | exact Nat.le_refl _ | refine And.intro ?_ ?_)
  · exact ⟨Nat.zero_le _, rfl⟩
  · rintro k ⟨hk, hc⟩
    ((refine xW ?_ ?_) <;> intros)
    · refine ⟨⟨f, [], [.d c0], .inr ⟨[], [c0], rfl, rfl, rfl⟩, (hp (xs.getD k default) (getD_mem (by omega))).call ?_⟩⟩
      ((refine xW ?_ ?_) <;> (intros; try rename_i h))
      · refine ⟨congrArg (D.int .i64) ?_, True.intro⟩
        rw [hc, drop_at (by omega), ix, if_pos h]
      · refine ⟨k + 1, ⟨by show k + 1 ≤ xs.length; omega, ?_⟩, by show xs.length - (k + 1) < xs.length - k; omega, ?_⟩
        · rw [hc, drop_at (by omega), ix, if_neg (by rw [h]; exact Bool.false_ne_true)]
          rfl
        · repeat' (first | exact True.intro | exact rfl | exact Nat.le_refl _ | refine And.intro ?_ ?_)
    · refine ⟨congrArg (D.int .i64) ?_, True.intro⟩
      have : k = xs.length := by omega
      rw [hc]
      simp [this, ix]
theorem anyCls_ok (xs : List Cls) (hx : xs.length ≤ 9223372036854775807) (f : FuncId) (c0 : D) (p : Cls → Bool) (hp : ∀ s, s ∈ xs → Pure Tryz.prog f [.agg (eCls s), c0] [.bool (p s)]) :
    Pure Tryz.prog 191 [eClss xs, .fn (.func f) [] [c0]] [.bool (xs.any p)] := by
  refine pure_rule hT (T := tab) (N := 9) (rs := [.tmp 4]) Tryz.func191 rfl rfl rfl (by kernel_rfl) rfl ?_
  (refine gW ?_; intros)
  refine (idxCls_ok xs hx f c0 p hp).call ?_
  (refine gW ?_; intros)
  refine ⟨congrArg D.bool ?_, True.intro⟩
  rw [← ix_ge p xs 0 (by omega)]
theorem cloCls_ok (s : Cls) (f : FuncId) (b : Bool) (hp : Pure Tryz.prog f [.agg (eCls s)] [.bool b]) : Pure Tryz.prog 192 [.agg (eCls s), .pt [.fn (.func f) [] []] 0] [.bool (!b)] := by
  refine pure_rule hT (T := tab) (N := 8) (rs := [.tmp 3]) Tryz.func192 rfl rfl rfl (by kernel_rfl) rfl ?_
  (refine gW ?_; intros)
  refine hp.call ?_
  (refine gW ?_; intros)
  exact ⟨rfl, True.intro⟩
theorem allCls_ok (xs : List Cls) (hx : fitL xs) (f : FuncId) (p : Cls → Bool) (hp : ∀ s, s ∈ xs → Pure Tryz.prog f [.agg (eCls s)] [.bool (p s)]) : Pure Tryz.prog 155 [eClss xs, .fn (.func f) [] []] [.bool (xs.all p)] := by
  refine pure_rule hT (T := tab) (N := 9) (rs := [.tmp 4]) Tryz.func155 rfl rfl rfl (by kernel_rfl) rfl ?_
  have hI := anyCls_ok xs hx 192 (.pt [.fn (.func f) [] []] 0) (fun s => !p s) fun s hs => cloCls_ok s f (p s) (hp s hs)
  (refine gW ?_; intros)
  refine hI.loan rfl ⟨.d, .fn' True.intro ⟨.ptr' rfl ⟨.d, True.intro⟩, True.intro⟩, True.intro⟩ ?_
  (refine gW ?_; intros)
  refine ⟨congrArg D.bool ?_, True.intro⟩
  rw [List.not_any_eq_all_not]
  simp
theorem idxFee_ok (xs : List Fee) (hx : xs.length ≤ 9223372036854775807) (f : FuncId) (c0 : D) (p : Fee → Bool) (hp : ∀ s, s ∈ xs → Pure Tryz.prog f [.agg (eFee s), c0] [.bool (p s)]) :
    Pure Tryz.prog 225 [eFees xs, .fn (.func f) [] [c0]] [.int .i64 (ix p xs 0)] := by
  refine pure_rule hT (T := tab) (N := 19) (rs := [.tmp 4]) Tryz.func225 rfl rfl rfl (by kernel_rfl) rfl ?_
  (refine gW ?_; intros)
  refine loop_rule hT (S := Nat) (fun k => ([(0, .d (eFees xs)), (1, .d (.fn (.func f) [] [c0])), (7, .d (.int .i64 xs.length)), (8, .d (.int .i64 k))], ⟨[], []⟩)) (fun k => k ≤ xs.length ∧ ix p xs 0 = ix p (xs.drop k) k) (fun k => xs.length - k) 0 ?_ ?_ ?_
  · repeat' (first | exact True.intro | exact rfl | exact Nat.le_refl _ | refine And.intro ?_ ?_)
  · exact ⟨Nat.zero_le _, rfl⟩
  · rintro k ⟨hk, hc⟩
    ((refine xW ?_ ?_) <;> intros)
    · refine ⟨⟨f, [], [.d c0], .inr ⟨[], [c0], rfl, rfl, rfl⟩, (hp (xs.getD k default) (getD_mem (by omega))).call ?_⟩⟩
      ((refine xW ?_ ?_) <;> (intros; try rename_i h))
      · refine ⟨congrArg (D.int .i64) ?_, True.intro⟩
        rw [hc, drop_at (by omega), ix, if_pos h]
      · refine ⟨k + 1, ⟨by show k + 1 ≤ xs.length; omega, ?_⟩, by show xs.length - (k + 1) < xs.length - k; omega, ?_⟩
        · rw [hc, drop_at (by omega), ix, if_neg (by rw [h]; exact Bool.false_ne_true)]
          rfl
        · repeat' (first | exact True.intro | exact rfl | exact Nat.le_refl _ | refine And.intro ?_ ?_)
    · refine ⟨congrArg (D.int .i64) ?_, True.intro⟩
      have : k = xs.length := by omega
      rw [hc]
      simp [this, ix]
theorem anyFee_ok (xs : List Fee) (hx : xs.length ≤ 9223372036854775807) (f : FuncId) (c0 : D) (p : Fee → Bool) (hp : ∀ s, s ∈ xs → Pure Tryz.prog f [.agg (eFee s), c0] [.bool (p s)]) :
    Pure Tryz.prog 193 [eFees xs, .fn (.func f) [] [c0]] [.bool (xs.any p)] := by
  refine pure_rule hT (T := tab) (N := 9) (rs := [.tmp 4]) Tryz.func193 rfl rfl rfl (by kernel_rfl) rfl ?_
  (refine gW ?_; intros)
  refine (idxFee_ok xs hx f c0 p hp).call ?_
  (refine gW ?_; intros)
  refine ⟨congrArg D.bool ?_, True.intro⟩
  rw [← ix_ge p xs 0 (by omega)]
theorem cloFee_ok (s : Fee) (f : FuncId) (b : Bool) (hp : Pure Tryz.prog f [.agg (eFee s)] [.bool b]) : Pure Tryz.prog 194 [.agg (eFee s), .pt [.fn (.func f) [] []] 0] [.bool (!b)] := by
  refine pure_rule hT (T := tab) (N := 8) (rs := [.tmp 3]) Tryz.func194 rfl rfl rfl (by kernel_rfl) rfl ?_
  (refine gW ?_; intros)
  refine hp.call ?_
  (refine gW ?_; intros)
  exact ⟨rfl, True.intro⟩
theorem allFee_ok (xs : List Fee) (hx : fitL xs) (f : FuncId) (p : Fee → Bool) (hp : ∀ s, s ∈ xs → Pure Tryz.prog f [.agg (eFee s)] [.bool (p s)]) : Pure Tryz.prog 156 [eFees xs, .fn (.func f) [] []] [.bool (xs.all p)] := by
  refine pure_rule hT (T := tab) (N := 9) (rs := [.tmp 4]) Tryz.func156 rfl rfl rfl (by kernel_rfl) rfl ?_
  have hI := anyFee_ok xs hx 194 (.pt [.fn (.func f) [] []] 0) (fun s => !p s) fun s hs => cloFee_ok s f (p s) (hp s hs)
  (refine gW ?_; intros)
  refine hI.loan rfl ⟨.d, .fn' True.intro ⟨.ptr' rfl ⟨.d, True.intro⟩, True.intro⟩, True.intro⟩ ?_
  (refine gW ?_; intros)
  refine ⟨congrArg D.bool ?_, True.intro⟩
  rw [List.not_any_eq_all_not]
  simp
theorem idxCla_ok (xs : List Cla) (hx : xs.length ≤ 9223372036854775807) (f : FuncId) (c0 : D) (p : Cla → Bool) (hp : ∀ s, s ∈ xs → Pure Tryz.prog f [.agg (eCla s), c0] [.bool (p s)]) :
    Pure Tryz.prog 226 [eClas xs, .fn (.func f) [] [c0]] [.int .i64 (ix p xs 0)] := by
  refine pure_rule hT (T := tab) (N := 19) (rs := [.tmp 4]) Tryz.func226 rfl rfl rfl (by kernel_rfl) rfl ?_
  (refine gW ?_; intros)
  refine loop_rule hT (S := Nat) (fun k => ([(0, .d (eClas xs)), (1, .d (.fn (.func f) [] [c0])), (7, .d (.int .i64 xs.length)), (8, .d (.int .i64 k))], ⟨[], []⟩)) (fun k => k ≤ xs.length ∧ ix p xs 0 = ix p (xs.drop k) k) (fun k => xs.length - k) 0 ?_ ?_ ?_
  · repeat' (first | exact True.intro | exact rfl | exact Nat.le_refl _ | refine And.intro ?_ ?_)
  · exact ⟨Nat.zero_le _, rfl⟩
  · rintro k ⟨hk, hc⟩
    ((refine xW ?_ ?_) <;> intros)
    · refine ⟨⟨f, [], [.d c0], .inr ⟨[], [c0], rfl, rfl, rfl⟩, (hp (xs.getD k default) (getD_mem (by omega))).call ?_⟩⟩
      ((refine xW ?_ ?_) <;> (intros; try rename_i h))
      · refine ⟨congrArg (D.int .i64) ?_, True.intro⟩
        rw [hc, drop_at (by omega), ix, if_pos h]
      · refine ⟨k + 1, ⟨by show k + 1 ≤ xs.length; omega, ?_⟩, by show xs.length - (k + 1) < xs.length - k; omega, ?_⟩
        · rw [hc, drop_at (by omega), ix, if_neg (by rw [h]; exact Bool.false_ne_true)]
          rfl
        · repeat' (first | exact True.intro | exact rfl | exact Nat.le_refl _ | refine And.intro ?_ ?_)
    · refine ⟨congrArg (D.int .i64) ?_, True.intro⟩
      have : k = xs.length := by omega
      rw [hc]
      simp [this, ix]
theorem anyCla_ok (xs : List Cla) (hx : xs.length ≤ 9223372036854775807) (f : FuncId) (c0 : D) (p : Cla → Bool) (hp : ∀ s, s ∈ xs → Pure Tryz.prog f [.agg (eCla s), c0] [.bool (p s)]) :
    Pure Tryz.prog 195 [eClas xs, .fn (.func f) [] [c0]] [.bool (xs.any p)] := by
  refine pure_rule hT (T := tab) (N := 9) (rs := [.tmp 4]) Tryz.func195 rfl rfl rfl (by kernel_rfl) rfl ?_
  (refine gW ?_; intros)
  refine (idxCla_ok xs hx f c0 p hp).call ?_
  (refine gW ?_; intros)
  refine ⟨congrArg D.bool ?_, True.intro⟩
  rw [← ix_ge p xs 0 (by omega)]
theorem cloCla_ok (s : Cla) (f : FuncId) (b : Bool) (hp : Pure Tryz.prog f [.agg (eCla s)] [.bool b]) : Pure Tryz.prog 196 [.agg (eCla s), .pt [.fn (.func f) [] []] 0] [.bool (!b)] := by
  refine pure_rule hT (T := tab) (N := 8) (rs := [.tmp 3]) Tryz.func196 rfl rfl rfl (by kernel_rfl) rfl ?_
  (refine gW ?_; intros)
  refine hp.call ?_
  (refine gW ?_; intros)
  exact ⟨rfl, True.intro⟩
theorem allCla_ok (xs : List Cla) (hx : fitL xs) (f : FuncId) (p : Cla → Bool) (hp : ∀ s, s ∈ xs → Pure Tryz.prog f [.agg (eCla s)] [.bool (p s)]) : Pure Tryz.prog 157 [eClas xs, .fn (.func f) [] []] [.bool (xs.all p)] := by
  refine pure_rule hT (T := tab) (N := 9) (rs := [.tmp 4]) Tryz.func157 rfl rfl rfl (by kernel_rfl) rfl ?_
  have hI := anyCla_ok xs hx 196 (.pt [.fn (.func f) [] []] 0) (fun s => !p s) fun s hs => cloCla_ok s f (p s) (hp s hs)
  (refine gW ?_; intros)
  refine hI.loan rfl ⟨.d, .fn' True.intro ⟨.ptr' rfl ⟨.d, True.intro⟩, True.intro⟩, True.intro⟩ ?_
  (refine gW ?_; intros)
  refine ⟨congrArg D.bool ?_, True.intro⟩
  rw [List.not_any_eq_all_not]
  simp
theorem idxPai_ok (xs : List Pai) (hx : xs.length ≤ 9223372036854775807) (f : FuncId) (c0 : D) (p : Pai → Bool) (hp : ∀ s, s ∈ xs → Pure Tryz.prog f [.agg (ePai s), c0] [.bool (p s)]) :
    Pure Tryz.prog 175 [ePais xs, .fn (.func f) [] [c0]] [.int .i64 (ix p xs 0)] := by
  refine pure_rule hT (T := tab) (N := 19) (rs := [.tmp 4]) Tryz.func175 rfl rfl rfl (by kernel_rfl) rfl ?_
  (refine gW ?_; intros)
  refine loop_rule hT (S := Nat) (fun k => ([(0, .d (ePais xs)), (1, .d (.fn (.func f) [] [c0])), (7, .d (.int .i64 xs.length)), (8, .d (.int .i64 k))], ⟨[], []⟩)) (fun k => k ≤ xs.length ∧ ix p xs 0 = ix p (xs.drop k) k) (fun k => xs.length - k) 0 ?_ ?_ ?_
  · repeat' (first | exact True.intro | exact rfl | exact Nat.le_refl _ | refine And.intro ?_ ?_)
  · exact ⟨Nat.zero_le _, rfl⟩
  · rintro k ⟨hk, hc⟩
    ((refine xW ?_ ?_) <;> intros)
    · refine ⟨⟨f, [], [.d c0], .inr ⟨[], [c0], rfl, rfl, rfl⟩, (hp (xs.getD k default) (getD_mem (by omega))).call ?_⟩⟩
      ((refine xW ?_ ?_) <;> (intros; try rename_i h))
      · refine ⟨congrArg (D.int .i64) ?_, True.intro⟩
        rw [hc, drop_at (by omega), ix, if_pos h]
      · refine ⟨k + 1, ⟨by show k + 1 ≤ xs.length; omega, ?_⟩, by show xs.length - (k + 1) < xs.length - k; omega, ?_⟩
        · rw [hc, drop_at (by omega), ix, if_neg (by rw [h]; exact Bool.false_ne_true)]
          rfl
        · repeat' (first | exact True.intro | exact rfl | exact Nat.le_refl _ | refine And.intro ?_ ?_)
    · refine ⟨congrArg (D.int .i64) ?_, True.intro⟩
      have : k = xs.length := by omega
      rw [hc]
      simp [this, ix]
theorem anyPai_ok (xs : List Pai) (hx : xs.length ≤ 9223372036854775807) (f : FuncId) (c0 : D) (p : Pai → Bool) (hp : ∀ s, s ∈ xs → Pure Tryz.prog f [.agg (ePai s), c0] [.bool (p s)]) :
    Pure Tryz.prog 134 [ePais xs, .fn (.func f) [] [c0]] [.bool (xs.any p)] := by
  refine pure_rule hT (T := tab) (N := 9) (rs := [.tmp 4]) Tryz.func134 rfl rfl rfl (by kernel_rfl) rfl ?_
  (refine gW ?_; intros)
  refine (idxPai_ok xs hx f c0 p hp).call ?_
  (refine gW ?_; intros)
  refine ⟨congrArg D.bool ?_, True.intro⟩
  rw [← ix_ge p xs 0 (by omega)]
theorem cloPai_ok (s : Pai) (f : FuncId) (b : Bool) (hp : Pure Tryz.prog f [.agg (ePai s)] [.bool b]) : Pure Tryz.prog 135 [.agg (ePai s), .pt [.fn (.func f) [] []] 0] [.bool (!b)] := by
  refine pure_rule hT (T := tab) (N := 8) (rs := [.tmp 3]) Tryz.func135 rfl rfl rfl (by kernel_rfl) rfl ?_
  (refine gW ?_; intros)
  refine hp.call ?_
  (refine gW ?_; intros)
  exact ⟨rfl, True.intro⟩
theorem allPai_ok (xs : List Pai) (hx : fitL xs) (f : FuncId) (p : Pai → Bool) (hp : ∀ s, s ∈ xs → Pure Tryz.prog f [.agg (ePai s)] [.bool (p s)]) : Pure Tryz.prog 76 [ePais xs, .fn (.func f) [] []] [.bool (xs.all p)] := by
  refine pure_rule hT (T := tab) (N := 9) (rs := [.tmp 4]) Tryz.func76 rfl rfl rfl (by kernel_rfl) rfl ?_
  have hI := anyPai_ok xs hx 135 (.pt [.fn (.func f) [] []] 0) (fun s => !p s) fun s hs => cloPai_ok s f (p s) (hp s hs)
  (refine gW ?_; intros)
  refine hI.loan rfl ⟨.d, .fn' True.intro ⟨.ptr' rfl ⟨.d, True.intro⟩, True.intro⟩, True.intro⟩ ?_
  (refine gW ?_; intros)
  refine ⟨congrArg D.bool ?_, True.intro⟩
  rw [List.not_any_eq_all_not]
  simp
theorem idxNum_ok (xs : List Int) (hx : xs.length ≤ 9223372036854775807) (f : FuncId) (c0 : D) (p : Int → Bool) (hp : ∀ s, s ∈ xs → Pure Tryz.prog f [.int .i64 s, c0] [.bool (p s)]) :
    Pure Tryz.prog 239 [eInts xs, .fn (.func f) [] [c0]] [.int .i64 (ix p xs 0)] := by
  refine pure_rule hT (T := tab) (N := 19) (rs := [.tmp 4]) Tryz.func239 rfl rfl rfl (by kernel_rfl) rfl ?_
  (refine gW ?_; intros)
  refine loop_rule hT (S := Nat) (fun k => ([(0, .d (eInts xs)), (1, .d (.fn (.func f) [] [c0])), (7, .d (.int .i64 xs.length)), (8, .d (.int .i64 k))], ⟨[], []⟩)) (fun k => k ≤ xs.length ∧ ix p xs 0 = ix p (xs.drop k) k) (fun k => xs.length - k) 0 ?_ ?_ ?_
  · repeat' (first | exact True.intro | exact rfl | exact Nat.le_refl _ | refine And.intro ?_ ?_)
  · exact ⟨Nat.zero_le _, rfl⟩
  · rintro k ⟨hk, hc⟩
    ((refine xW ?_ ?_) <;> intros)
    · refine ⟨⟨f, [], [.d c0], .inr ⟨[], [c0], rfl, rfl, rfl⟩, (hp (xs.getD k default) (getD_mem (by omega))).call ?_⟩⟩
      ((refine xW ?_ ?_) <;> (intros; try rename_i h))
      · refine ⟨congrArg (D.int .i64) ?_, True.intro⟩
        rw [hc, drop_at (by omega), ix, if_pos h]
      · refine ⟨k + 1, ⟨by show k + 1 ≤ xs.length; omega, ?_⟩, by show xs.length - (k + 1) < xs.length - k; omega, ?_⟩
        · rw [hc, drop_at (by omega), ix, if_neg (by rw [h]; exact Bool.false_ne_true)]
          rfl
        · repeat' (first | exact True.intro | exact rfl | exact Nat.le_refl _ | refine And.intro ?_ ?_)
    · refine ⟨congrArg (D.int .i64) ?_, True.intro⟩
      have : k = xs.length := by omega
      rw [hc]
      simp [this, ix]
theorem anyNum_ok (xs : List Int) (hx : xs.length ≤ 9223372036854775807) (f : FuncId) (c0 : D) (p : Int → Bool) (hp : ∀ s, s ∈ xs → Pure Tryz.prog f [.int .i64 s, c0] [.bool (p s)]) :
    Pure Tryz.prog 222 [eInts xs, .fn (.func f) [] [c0]] [.bool (xs.any p)] := by
  refine pure_rule hT (T := tab) (N := 9) (rs := [.tmp 4]) Tryz.func222 rfl rfl rfl (by kernel_rfl) rfl ?_
  (refine gW ?_; intros)
  refine (idxNum_ok xs hx f c0 p hp).call ?_
  (refine gW ?_; intros)
  refine ⟨congrArg D.bool ?_, True.intro⟩
  rw [← ix_ge p xs 0 (by omega)]
theorem cloNum_ok (s : Int) (f : FuncId) (b : Bool) (hp : Pure Tryz.prog f [.int .i64 s] [.bool b]) : Pure Tryz.prog 223 [.int .i64 s, .pt [.fn (.func f) [] []] 0] [.bool (!b)] := by
  refine pure_rule hT (T := tab) (N := 8) (rs := [.tmp 3]) Tryz.func223 rfl rfl rfl (by kernel_rfl) rfl ?_
  (refine gW ?_; intros)
  refine hp.call ?_
  (refine gW ?_; intros)
  exact ⟨rfl, True.intro⟩
theorem allNum_ok (xs : List Int) (hx : fitL xs) (f : FuncId) (p : Int → Bool) (hp : ∀ s, s ∈ xs → Pure Tryz.prog f [.int .i64 s] [.bool (p s)]) : Pure Tryz.prog 189 [eInts xs, .fn (.func f) [] []] [.bool (xs.all p)] := by
  refine pure_rule hT (T := tab) (N := 9) (rs := [.tmp 4]) Tryz.func189 rfl rfl rfl (by kernel_rfl) rfl ?_
  have hI := anyNum_ok xs hx 223 (.pt [.fn (.func f) [] []] 0) (fun s => !p s) fun s hs => cloNum_ok s f (p s) (hp s hs)
  (refine gW ?_; intros)
  refine hI.loan rfl ⟨.d, .fn' True.intro ⟨.ptr' rfl ⟨.d, True.intro⟩, True.intro⟩, True.intro⟩ ?_
  (refine gW ?_; intros)
  refine ⟨congrArg D.bool ?_, True.intro⟩
  rw [List.not_any_eq_all_not]
  simp
end Go.Proofs.YtmlhghddfobmmaaGreatDoor
