/-
  Sections: the error's code; errors.As in the engine's words.
-/
import Derived.Test.YtfbjlakcolipaaaDoorMeetA
import Derived.Test.YtfbjlakcolipaaaDoorAs
namespace Go.Proofs.YtfbjlakcolipaaaDoor
set_option linter.unusedSimpArgs false
set_option linter.unusedVariables false
open Go Go.Ab Go.RowKit
set_option maxRecDepth 100000
set_option maxHeartbeats 0
theorem as_hit_vc (e : Int) : CallVC Tryd.prog 56 [.d (.ifc 107 (.agg [.int .i64 e])), .ifc 109 (.ptr (.arg 0) 0 0 0)] ⟨[], [some (.box 107 [.d (.int .i64 0)])]⟩
    (Ret (fun _ : Unit => ([.d (.bool true)], ⟨[], [some (.box 107 [.d (.int .i64 e)])]⟩)) fun _ => True) := by
  refine ⟨⟨_, Tryd.func56, rfl, rfl⟩, fun σ F w vals hm ha => ?_⟩
  obtain ⟨v0, v1, rfl⟩ : ∃ v0 v1, vals = [v0, v1] := by
    match vals, ha.1 with
    | [v, u], _ => exact ⟨v, u, rfl⟩
  have h0 := ha.2 0 _ v0 rfl rfl
  have h1 := ha.2 1 _ v1 rfl rfl
  obtain rfl : v0 = .iface 107 (.agg #[.int .i64 e]) := by
    cases h0 with
    | d h => cases h with
      | ifc h => cases h with
        | @agg cs us hl h =>
          match us, hl with
          | [u], _ =>
            have := h 0 _ u rfl rfl
            cases this
            rfl
  obtain ⟨v2, rfl, h2⟩ : ∃ v2, v1 = .iface 109 v2 ∧ Vc w F σ (.ptr (.arg 0) 0 0 0) v2 := by
    cases h1 with
    | ifc h => exact ⟨_, rfl, h⟩
  obtain ⟨pl, hr, hok, _, hat⟩ := ptr_row hm h2 (B := .box 107 [.d (.int .i64 0)]) rfl
  obtain ⟨k0, ksz, b, hloc, us, hheap, hlen, hvc⟩ := hok
  obtain ⟨b', tot, hl', rfl⟩ := hat k0
  rw [hloc] at hl'
  obtain ⟨rfl, rfl⟩ := Prod.mk.inj (Option.some.inj hl')
  obtain ⟨u0, rfl⟩ : ∃ u0, us = [u0] := by
    match us, hlen with
    | [u], _ => exact ⟨u, rfl⟩
  have hu0 := (hvc 0 _ u0 rfl rfl).1.int
  subst hu0
  simp only [Nat.zero_mul, Nat.zero_add]
  have hg := (hm.gl 0 _ (by simp [globs]; rfl)).2
  have hbl : b < w.heap.size := (Array.getElem?_eq_some_iff.1 hheap).1
  have hcell : w.cell? ⟨b, 0, none⟩ = some (.int .i64 0) := by simp [World.cell?, hheap]
  have hfrz : w.frozen? ⟨b, 0, none⟩ = false := by simp [World.frozen?, hheap]
  refine (as_hit e ⟨b, 0, none⟩ (.int .i64 0) w hg hcell hfrz).mono ?_
  rintro ev w' ⟨rfl, rfl⟩
  generalize hw1 : (w.alloc (.cells #[.pointer (some ⟨b, 0, none⟩)] 109)) = w1
  generalize hw2 : w1.alloc (.cells #[.pointer (some ⟨1, 109, none⟩), .pointer (some ⟨w.heap.size, 0, none⟩), .int .u64 150] 120) = w2
  generalize hw3 : w2.alloc (.cells #[.pointer (some ⟨1, 109, none⟩), .pointer (some ⟨w.heap.size, 0, none⟩), .int .u64 150] 120) = w3
  generalize hw4 : w3.alloc (.cells #[.int .i64 e] 107) = w4
  have e1 : w1.heap.size = w.heap.size + 1 := by rw [← hw1, size_alloc]
  have e2 : w2.heap.size = w.heap.size + 2 := by rw [← hw2, size_alloc, e1]
  have e3 : w3.heap.size = w.heap.size + 3 := by rw [← hw3, size_alloc, e2]
  have e4 : w4.heap.size = w.heap.size + 4 := by rw [← hw4, size_alloc, e3]
  have hk4 : ∀ c, c < w.heap.size → w4.heap[c]? = w.heap[c]? := fun c hc => by
    rw [← hw4, Go.heap_alloc_old w3 _ (by omega), ← hw3, Go.heap_alloc_old w2 _ (by omega), ← hw2, Go.heap_alloc_old w1 _ (by omega), ← hw1, Go.heap_alloc_old w _ hc]
  have hsz : (w4.setCell ⟨b, 0, none⟩ (.int .i64 e)).heap.size = w4.heap.size := by simp
  have hkk : ∀ c, c < w.heap.size → c ≠ b → (w4.setCell ⟨b, 0, none⟩ (.int .i64 e)).heap[c]? = w.heap[c]? := fun c hc hne => by
    rw [Below.heap_setCell w4 ⟨b, 0, none⟩ _ c hne, hk4 c hc]
  have hnew : (w4.setCell ⟨b, 0, none⟩ (.int .i64 e)).heap[b]? = some (.cells #[.int .i64 e] 107 (0, 0)) := one_setCell (by rw [hk4 b hbl, hheap])
  obtain ⟨q1, q2⟩ := change_ok (B' := .box 107 [.d (.int .i64 e)]) hm (w' := w4.setCell ⟨b, 0, none⟩ (.int .i64 e)) hr (by rw [hsz]; omega) (fun c hc hne => hkk c hc fun e => hne 1 (by rw [e]; exact hloc))
    (pl' := pl) ⟨Nat.le_refl _, fun _ => rfl⟩ ⟨k0, ksz, b, hloc, [.int .i64 e], hnew, rfl, fun j A u hA hu => by
      match j with
      | 0 => simp at hA hu; subst hA; subst hu; exact ⟨.d .int, rfl⟩
      | j + 1 => simp at hA⟩ (fun c t h => by rw [hloc] at h; cases h; exact ⟨by rw [hsz]; omega, .inl ⟨1, hloc⟩⟩)
  have hw : (w4.setCell ⟨b, 0, none⟩ (.int .i64 e)).os = w.os ∧ (w4.setCell ⟨b, 0, none⟩ (.int .i64 e)).tape = w.tape ∧ (w4.setCell ⟨b, 0, none⟩ (.int .i64 e)).output = w.output := by
    refine ⟨?_, ?_, ?_⟩ <;> (rw [← hw4, ← hw3, ← hw2, ← hw1]; rfl)
  exact ⟨_, _, _, _, F, rfl, ⟨(), trivial, rfl, rfl⟩, .d .bool, q1, ⟨hw.1, hw.2.1, hw.2.2, by rw [hsz]; omega, fun c hc ho => hkk c hc fun e => ho ⟨.arg 0, pl, 1, hr, by rw [e]; exact hloc⟩, fun _ h => h, fun _ h => .inl h, own_upd_old hr (fun b' t' h => .inl ⟨t', h⟩)⟩, q2⟩
theorem as_nil_vc : CallVC Tryd.prog 56 [.d .nili, .ifc 109 (.ptr (.arg 0) 0 0 0)] ⟨[], [some (.box 107 [.d (.int .i64 0)])]⟩
    (Ret (fun _ : Unit => ([.d (.bool false)], ⟨[], [some (.box 107 [.d (.int .i64 0)])]⟩)) fun _ => True) := by
  refine ⟨⟨_, Tryd.func56, rfl, rfl⟩, fun σ F w vals hm ha => ?_⟩
  obtain ⟨v0, v1, rfl⟩ : ∃ v0 v1, vals = [v0, v1] := by
    match vals, ha.1 with
    | [v, u], _ => exact ⟨v, u, rfl⟩
  have h0 := ha.2 0 _ v0 rfl rfl
  obtain rfl : v0 = .nilIface := by
    cases h0 with
    | d h => cases h with
      | nili => rfl
  refine (as_nil v1 w).mono ?_
  rintro ev w' ⟨rfl, rfl⟩
  exact ⟨_, _, _, σ, F, rfl, ⟨(), trivial, rfl, rfl⟩, .d .bool, hm, Step.refl σ F _, SLe.refl σ⟩
/-- An error of sections, by its code. -/
def eErr (e : Int) : D := if e = 0 then .nili else .ifc 107 (.agg [.int .i64 e])
theorem code_ok (e : Int) : Pure Tryd.prog 44 [eErr e] [.int .i64 e] := by
  refine pure_rule hT (T := tab) (N := 9) (rs := [.tmp 2]) Tryd.func44 rfl rfl rfl (by kernel_rfl) rfl ?_
  by_cases h : e = 0
  · subst h
    rw [show eErr 0 = .nili from rfl]
    repeat' (first | with_reducible refine Sq.go ?_ | ((with_reducible refine Ev.mk ?_); conv => whnf) | with_reducible refine Dr.mk ⟨by kernel_rfl, by kernel_rfl⟩ ?_ | with_reducible refine obG ?_ | with_reducible refine Ob.mk ?_ ?_ | (with_reducible first | refine brT fun h => ?_ | refine brF fun h => ?_ | refine Br.mk (fun h => ?_) fun h => ?_) <;> (try simp only [bsl, beq_iff_eq, bne_iff_ne, bs2] at h) <;> (try contradiction) <;> try (exfalso; omega))
    refine as_nil_vc.at [.loc 0] rfl ⟨rfl, True.intro⟩ (fun _ _ => ⟨rfl, ?_⟩)
    repeat' (first | with_reducible refine Sq.go ?_ | ((with_reducible refine Ev.mk ?_); conv => whnf) | with_reducible refine Dr.mk ⟨by kernel_rfl, by kernel_rfl⟩ ?_ | with_reducible refine obG ?_ | with_reducible refine Ob.mk ?_ ?_ | (with_reducible first | refine brT fun h => ?_ | refine brF fun h => ?_ | refine Br.mk (fun h => ?_) fun h => ?_) <;> (try simp only [bsl, beq_iff_eq, bne_iff_ne, bs2] at h) <;> (try contradiction) <;> try (exfalso; omega))
    refine ⟨congrArg (D.int .i64) ?_, True.intro⟩
    rfl
  · rw [show eErr e = .ifc 107 (.agg [.int .i64 e]) from if_neg h]
    repeat' (first | with_reducible refine Sq.go ?_ | ((with_reducible refine Ev.mk ?_); conv => whnf) | with_reducible refine Dr.mk ⟨by kernel_rfl, by kernel_rfl⟩ ?_ | with_reducible refine obG ?_ | with_reducible refine Ob.mk ?_ ?_ | (with_reducible first | refine brT fun h => ?_ | refine brF fun h => ?_ | refine Br.mk (fun h => ?_) fun h => ?_) <;> (try simp only [bsl, beq_iff_eq, bne_iff_ne, bs2] at h) <;> (try contradiction) <;> try (exfalso; omega))
    refine (as_hit_vc e).at [.loc 0] rfl ⟨rfl, True.intro⟩ (fun _ _ => ⟨rfl, ?_⟩)
    repeat' (first | with_reducible refine Sq.go ?_ | ((with_reducible refine Ev.mk ?_); conv => whnf) | with_reducible refine Dr.mk ⟨by kernel_rfl, by kernel_rfl⟩ ?_ | with_reducible refine obG ?_ | with_reducible refine Ob.mk ?_ ?_ | (with_reducible first | refine brT fun h => ?_ | refine brF fun h => ?_ | refine Br.mk (fun h => ?_) fun h => ?_) <;> (try simp only [bsl, beq_iff_eq, bne_iff_ne, bs2] at h) <;> (try contradiction) <;> try (exfalso; omega))
    refine ⟨congrArg (D.int .i64) ?_, True.intro⟩
    rfl
#print axioms code_ok
end Go.Proofs.YtfbjlakcolipaaaDoor
