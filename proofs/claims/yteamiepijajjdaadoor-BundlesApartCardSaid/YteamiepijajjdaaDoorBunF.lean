/-
  Bundles: Of.
-/
import Derived.Test.YteamiepijajjdaaDoorBunS
namespace Go.Proofs.YteamiepijajjdaaDoor
set_option linter.unusedSimpArgs false
set_option linter.unusedVariables false
open Go Go.Ab
set_option maxRecDepth 100000
set_option maxHeartbeats 0
/-- Has the student the section? -/
def tk (taken : List Seat) (st n : Int) : Bool := taken.any fun t => decide (t.student = st) && decide (t.sec = n)
def ownM (taken : List Seat) (st : Int) : List Int → Bool := fun k => taken.any fun t => decide (t.student = st) && decide (k = [t.sec])
theorem ownM_tk (taken : List Seat) (st n : Int) : ownM taken st [n] = tk taken st n := by
  unfold ownM tk
  congr 1
  funext t
  congr 1
  rw [Bool.eq_iff_iff]
  simp [eq_comm]
theorem ownM_snoc (taken : List Seat) (st : Int) (t : Seat) (k : List Int) : ownM (taken ++ [t]) st k = (ownM taken st k || (decide (t.student = st) && decide (k = [t.sec]))) := by
  simp [ownM]
def wantS (taken : List Seat) (st term : Int) (s : Sec) : Bool := decide (s.term = term) && (!s.lab && tk taken st s.id)
def labOf (taken : List Seat) (st : Int) (s : Sec) : Int := (s.labs.find? fun n => tk taken st n).getD (-1)
/-- The bundles, in the order of the sections. -/
def cands (taken : List Seat) (st term : Int) : List Sec → List Sec → List Bun
  | _, [] => []
  | pre, s :: r => (if (pre.any fun p => decide (p.id = s.id)) = false ∧ wantS taken st term s = true then [⟨s.id, labOf taken st s⟩] else []) ++ cands taken st term (pre ++ [s]) r
theorem cands_snoc (taken : List Seat) (st term : Int) (s : Sec) : ∀ (r pre : List Sec), cands taken st term pre (r ++ [s]) = cands taken st term pre r ++ (if ((pre ++ r).any fun p => decide (p.id = s.id)) = false ∧ wantS taken st term s = true then [⟨s.id, labOf taken st s⟩] else [])
  | [], pre => by simp [cands]
  | x :: r, pre => by
    rw [List.cons_append, cands, cands_snoc taken st term s r, cands, List.append_assoc, List.append_assoc]
    rfl
theorem cands_len (taken : List Seat) (st term : Int) : ∀ (r pre : List Sec), (cands taken st term pre r).length ≤ r.length
  | [], _ => Nat.le_refl _
  | s :: r, pre => by
    have := cands_len taken st term r (pre ++ [s])
    rw [cands, List.length_append, List.length_cons]
    split <;> simp <;> omega
theorem cands_mem (taken : List Seat) (st term : Int) : ∀ (r pre : List Sec) (b : Bun), b ∈ cands taken st term pre r → (pre.any fun p => decide (p.id = b.sec)) = false ∧ ∃ s ∈ r, s.id = b.sec
  | [], _, b, h => by simp [cands] at h
  | s :: r, pre, b, h => by
    rw [cands, List.mem_append] at h
    rcases h with h | h
    · split at h
      · rename_i hc
        simp at h
        subst h
        exact ⟨hc.1, s, by simp, rfl⟩
      · simp at h
    · obtain ⟨h1, s', h2, h3⟩ := cands_mem taken st term r _ b h
      rw [List.any_append, Bool.or_eq_false_iff] at h1
      exact ⟨h1.1, s', by simp [h2], h3⟩
theorem cands_ne (taken : List Seat) (st term : Int) : ∀ (r pre : List Sec), (cands taken st term pre r).Pairwise fun a b => a.sec ≠ b.sec
  | [], _ => List.Pairwise.nil
  | s :: r, pre => by
    rw [cands, List.pairwise_append]
    refine ⟨?_, cands_ne taken st term r _, fun a ha b hb => ?_⟩
    · split <;> simp
    · obtain ⟨h1, _⟩ := cands_mem taken st term r _ b hb
      rw [List.any_append, Bool.or_eq_false_iff] at h1
      split at ha
      · simp at ha
        subst ha
        simpa using h1.2
      · simp at ha
def insB (b : Bun) : List Bun → List Bun
  | [] => [b]
  | x :: r => if x.sec < b.sec then x :: insB b r else b :: x :: r
theorem insB_perm (b : Bun) : ∀ xs, (insB b xs).Perm (b :: xs)
  | [] => List.Perm.refl _
  | x :: r => by
    unfold insB
    split
    · exact ((insB_perm b r).cons x).trans (List.Perm.swap b x r)
    · exact List.Perm.refl _
theorem insB_sorted (b : Bun) : ∀ xs, xs.Pairwise (fun a c => a.sec ≤ c.sec) → (insB b xs).Pairwise fun a c => a.sec ≤ c.sec
  | [], _ => by simp [insB]
  | x :: r, h => by
    rw [List.pairwise_cons] at h
    unfold insB
    split
    · rename_i hlt
      rw [List.pairwise_cons]
      refine ⟨fun c hc => ?_, insB_sorted b r h.2⟩
      rcases List.mem_cons.1 ((insB_perm b r).mem_iff.1 hc) with rfl | hc
      · omega
      · exact h.1 c hc
    · rename_i hlt
      rw [List.pairwise_cons]
      refine ⟨fun c hc => ?_, List.pairwise_cons.2 h⟩
      rcases List.mem_cons.1 hc with rfl | hc
      · omega
      · have := h.1 c hc
        omega
def sortB (xs : List Bun) : List Bun := xs.foldl (fun a b => insB b a) []
theorem sortB_aux : ∀ (xs acc : List Bun), acc.Pairwise (fun a c => a.sec ≤ c.sec) → (xs.foldl (fun a b => insB b a) acc).Perm (acc ++ xs) ∧ (xs.foldl (fun a b => insB b a) acc).Pairwise fun a c => a.sec ≤ c.sec
  | [], acc, h => ⟨by simp, h⟩
  | x :: r, acc, h => by
    obtain ⟨h1, h2⟩ := sortB_aux r (insB x acc) (insB_sorted x acc h)
    refine ⟨h1.trans ?_, h2⟩
    have := (insB_perm x acc).append_right r
    exact this.trans (by simpa using (List.perm_middle (a := x) (l₁ := acc) (l₂ := r)).symm)
theorem sortB_uniq {xs ts : List Bun} (hn : xs.Pairwise fun a b => a.sec ≠ b.sec) (hp : ts.Perm xs) (hs : ts.Pairwise fun a c => a.sec ≤ c.sec) : ts = sortB xs := by
  obtain ⟨h1, h2⟩ := sortB_aux xs [] List.Pairwise.nil
  rw [List.nil_append] at h1
  refine List.Perm.eq_of_pairwise (le := fun a c : Bun => a.sec ≤ c.sec) (fun a b ha hb e1 e2 => ?_) hs h2 (hp.trans h1.symm)
  have ha' := hp.mem_iff.1 ha
  have hb' := h1.mem_iff.1 hb
  have key : ∀ (l : List Bun), (l.Pairwise fun a b => a.sec ≠ b.sec) → ∀ a ∈ l, ∀ b ∈ l, a.sec = b.sec → a = b := by
    intro l
    induction l with
    | nil => intro _ a ha; simp at ha
    | cons x r ih =>
      intro hl a ha b hb hab
      rw [List.pairwise_cons] at hl
      rcases List.mem_cons.1 ha with e1 | h1 <;> rcases List.mem_cons.1 hb with e2 | h2
      · rw [e1, e2]
      · exact absurd hab (by rw [e1]; exact hl.1 b h2)
      · exact absurd hab.symm (by rw [e2]; exact hl.1 a h1)
      · exact ih hl.2 a h1 b h2 hab
  exact key xs hn a ha' b hb' (by omega)
def ofB (l : List Sec) (taken : List Seat) (st term : Int) : List Bun := sortB (cands taken st term [] l)
def eOwnM (taken : List Seat) (st : Int) : D := .mapd (.one .i64) (ownM taken st) fun k => .bool (ownM taken st k)
theorem of1_ok (taken : List Seat) (st n : Int) : Pure Tryd.prog 38 [.int .i64 n, .pt [eOwnM taken st] 0] [.bool (tk taken st n)] := by
  refine pure_rule hT (T := tab) (N := 7) (rs := [.tmp 3]) Tryd.func38 rfl rfl rfl (by kernel_rfl) rfl ?_
  rw [← ownM_tk]
  repeat' (first | (with_reducible refine Sq.go ?_) | ((with_reducible refine Ev.mk ?_); conv => whnf) | (with_reducible refine Dr.mk ⟨by kernel_rfl, by kernel_rfl⟩ ?_) | ((with_reducible refine Ob.mk (by (first | exact rfl | assumption | omega | (intro h0; simp only [h0]; with_unfolding_all exact rfl) | (intro h1 h0; simp only [h0]; with_unfolding_all exact rfl) | (intros; first | assumption | (with_unfolding_all exact rfl) | omega | (simp only [oadd_eq, Int.toNat_natCast] <;> omega) | (simp only [in64, List.length_nil, List.length_cons] <;> omega) | (simp only [bsl, beq_iff_eq, bne_iff_ne, in64] at * <;> omega) | ((try simp only [Int.toNat_natCast]); exact Nat.le_trans (Nat.mul_le_mul_right _ (show _ ≤ 2000000 by omega)) (by with_unfolding_all decide)) | (simp_all; done)))) ?_)) | (with_reducible refine Ob.mk ?_ ?_) | ((with_reducible refine Br.mk (fun h => ?_) (fun h => ?_)) <;> (try simp only [bsl, beq_iff_eq, bne_iff_ne] at h) <;> (try simp only [not_true_eq_false, not_false_eq_true, false_or, or_false, true_and, and_true] at h) <;> (try exact absurd h (by decide)) <;> (try contradiction) <;> (try (exfalso; omega)) <;> (try (simp only [not_true_eq_false, or_self, eq_self, not_false_eq_true, Int.reduceEq, reduceCtorEq] at h; done))))
  refine ⟨congrArg D.bool ?_, True.intro⟩
  rfl
theorem idxInt1_ok (xs : List Int) (hx : xs.length ≤ 1000000) (f : FuncId) (c0 : D) (p : Int → Bool) (hp : ∀ s, s ∈ xs → Pure Tryd.prog f [.int .i64 s, c0] [.bool (p s)]) :
    Pure Tryd.prog 37 [eInts xs, .fn (.func f) [] [c0]] [.int .i64 (ix p xs 0)] := by
  refine pure_rule hT (T := tab) (N := 19) (rs := [.tmp 4]) Tryd.func37 rfl rfl rfl (by kernel_rfl) rfl ?_
  repeat' (first | (with_reducible refine Sq.go ?_) | ((with_reducible refine Ev.mk ?_); conv => whnf) | (with_reducible refine Dr.mk ⟨by kernel_rfl, by kernel_rfl⟩ ?_) | ((with_reducible refine Ob.mk (by (first | exact rfl | assumption | omega | (intro h0; simp only [h0]; with_unfolding_all exact rfl) | (intro h1 h0; simp only [h0]; with_unfolding_all exact rfl) | (intros; first | assumption | (with_unfolding_all exact rfl) | omega | (simp only [oadd_eq, Int.toNat_natCast] <;> omega) | (simp only [in64, List.length_nil, List.length_cons] <;> omega) | (simp only [bsl, beq_iff_eq, bne_iff_ne, in64] at * <;> omega) | ((try simp only [Int.toNat_natCast]); exact Nat.le_trans (Nat.mul_le_mul_right _ (show _ ≤ 2000000 by omega)) (by with_unfolding_all decide)) | (simp_all; done)))) ?_)) | (with_reducible refine Ob.mk ?_ ?_) | ((with_reducible refine Br.mk (fun h => ?_) (fun h => ?_)) <;> (try simp only [bsl, beq_iff_eq, bne_iff_ne] at h) <;> (try simp only [not_true_eq_false, not_false_eq_true, false_or, or_false, true_and, and_true] at h) <;> (try exact absurd h (by decide)) <;> (try contradiction) <;> (try (exfalso; omega)) <;> (try (simp only [not_true_eq_false, or_self, eq_self, not_false_eq_true, Int.reduceEq, reduceCtorEq] at h; done))))
  refine loop_rule hT (S := Nat) (fun k => ([(0, .d (eInts xs)), (1, .d (.fn (.func f) [] [c0])), (7, .d (.int .i64 xs.length)), (8, .d (.int .i64 k))], ⟨[], []⟩)) (fun k => k ≤ xs.length ∧ ix p xs 0 = ix p (xs.drop k) k) (fun k => xs.length - k) 0 ?_ ?_ ?_
  · repeat' (first | exact True.intro | exact rfl | exact Nat.le_refl _ | refine And.intro ?_ ?_)
  · exact ⟨Nat.zero_le _, rfl⟩
  · rintro k ⟨hk, hc⟩
    repeat' (first | (with_reducible refine Sq.go ?_) | ((with_reducible refine Ev.mk ?_); conv => whnf) | (with_reducible refine Dr.mk ⟨by kernel_rfl, by kernel_rfl⟩ ?_) | ((with_reducible refine Ob.mk (by (first | exact rfl | assumption | omega | (intro h0; simp only [h0]; with_unfolding_all exact rfl) | (intro h1 h0; simp only [h0]; with_unfolding_all exact rfl) | (intros; first | assumption | (with_unfolding_all exact rfl) | omega | (simp only [oadd_eq, Int.toNat_natCast] <;> omega) | (simp only [in64, List.length_nil, List.length_cons] <;> omega) | (simp only [bsl, beq_iff_eq, bne_iff_ne, in64] at * <;> omega) | ((try simp only [Int.toNat_natCast]); exact Nat.le_trans (Nat.mul_le_mul_right _ (show _ ≤ 2000000 by omega)) (by with_unfolding_all decide)) | (simp_all; done)))) ?_)) | (with_reducible refine Ob.mk ?_ ?_) | ((with_reducible refine Br.mk (fun h => ?_) (fun h => ?_)) <;> (try simp only [bsl, beq_iff_eq, bne_iff_ne] at h) <;> (try simp only [not_true_eq_false, not_false_eq_true, false_or, or_false, true_and, and_true] at h) <;> (try exact absurd h (by decide)) <;> (try contradiction) <;> (try (exfalso; omega)) <;> (try (simp only [not_true_eq_false, or_self, eq_self, not_false_eq_true, Int.reduceEq, reduceCtorEq] at h; done))))
    · refine ⟨⟨f, [], [.d c0], .inr ⟨[], [c0], rfl, rfl, rfl⟩, (hp (xs.getD k default) (getD_mem (by omega))).call ?_⟩⟩
      repeat' (first | (with_reducible refine Sq.go ?_) | ((with_reducible refine Ev.mk ?_); conv => whnf) | (with_reducible refine Dr.mk ⟨by kernel_rfl, by kernel_rfl⟩ ?_) | ((with_reducible refine Ob.mk (by (first | exact rfl | assumption | omega | (intro h0; simp only [h0]; with_unfolding_all exact rfl) | (intro h1 h0; simp only [h0]; with_unfolding_all exact rfl) | (intros; first | assumption | (with_unfolding_all exact rfl) | omega | (simp only [oadd_eq, Int.toNat_natCast] <;> omega) | (simp only [in64, List.length_nil, List.length_cons] <;> omega) | (simp only [bsl, beq_iff_eq, bne_iff_ne, in64] at * <;> omega) | ((try simp only [Int.toNat_natCast]); exact Nat.le_trans (Nat.mul_le_mul_right _ (show _ ≤ 2000000 by omega)) (by with_unfolding_all decide)) | (simp_all; done)))) ?_)) | (with_reducible refine Ob.mk ?_ ?_) | ((with_reducible refine Br.mk (fun h => ?_) (fun h => ?_)) <;> (try simp only [bsl, beq_iff_eq, bne_iff_ne] at h) <;> (try simp only [not_true_eq_false, not_false_eq_true, false_or, or_false, true_and, and_true] at h) <;> (try exact absurd h (by decide)) <;> (try contradiction) <;> (try (exfalso; omega)) <;> (try (simp only [not_true_eq_false, or_self, eq_self, not_false_eq_true, Int.reduceEq, reduceCtorEq] at h; done))))
      · refine ⟨congrArg (D.int .i64) ?_, True.intro⟩
        rw [hc, drop_at (by omega), ix, if_pos h]
      · refine ⟨k + 1, ⟨by show k + 1 ≤ xs.length; omega, ?_⟩, by show xs.length - (k + 1) < xs.length - k; omega, ?_⟩
        · rw [hc, drop_at (by omega), ix, if_neg (by rw [h]; exact Bool.false_ne_true)]
          rfl
        · repeat' (first | exact True.intro | exact rfl | exact Nat.le_refl _ | refine And.intro ?_ ?_)
    · refine ⟨congrArg (D.int .i64) ?_, True.intro⟩
      have : k = xs.length := by omega
      rw [hc]
      simp [this, ix]
end Go.Proofs.YteamiepijajjdaaDoor
