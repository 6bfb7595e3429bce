/-
  The engine, part X: maps: a new one; an element is set.
-/
import Derived.Test.YteamiepijajjdaaDoorEngK
namespace Go.Ab
set_option linter.unusedSimpArgs false
set_option linter.unusedVariables false

def zeroAV (te : TI) : AV :=
  match te.k.agg with
  | true => .d (.agg te.zero)
  | false => match te.zero with
    | [z] => .d z
    | _ => .junk
def evMakeMap (T : Tab) (m : Mem) (t : TypeId) : Option (AV × Mem) :=
  match mapOf T t with
  | none => none
  | some (sh, te) => some (.mp m.new, m.add (.map sh (fun _ => false) fun _ => zeroAV te))
def evMapUpdate (T : Tab) (m : Mem) (t : TypeId) (A K V : AV) : Option Mem :=
  match mapOf T t with
  | none => none
  | some (sh, _) => match A with
    | .mp r => match m.get r with
      | some (.map sh' has val) => match keyOf sh K with
        | some k => bif eqSh sh sh' then some (m.put r (some (.map sh' (fun x => decide (x = k) || has x) fun x => bif decide (x = k) then V else val x))) else none
        | none => none
      | _ => none
    | _ => none

section
variable {P : Program} {T : Tab} {w : World} {F : Nat → Prop} {σ : Pls} {m : Mem}
theorem evMakeMap_ok (hT : TabOk P T) (hm : MemOk m σ F w) {t : TypeId} {A : AV} {m' : Mem} (h : evMakeMap T m t = some (A, m')) :
    ∃ u w' σ', (Instr.makeMap t none).run P w = .ok u w' ∧ Vc w' F σ' A u ∧ MemOk m' σ' F w' ∧ Step σ F w σ' F w' ∧ SLe σ σ' := by
  unfold evMakeMap at h
  split at h <;> try (cases h; done)
  rename_i sh te hmt
  simp only [Option.some.injEq, Prod.mk.injEq] at h
  obtain ⟨rfl, rfl⟩ := h
  let pl : Pl := ⟨0, 0, some (w.heap.size, 1)⟩
  have hB : BlkOk (w.alloc (.map #[] 0)) F (upd σ m.new (some pl)) (.map sh (fun _ => false) fun _ => zeroAV te) pl :=
    ⟨rfl, w.heap.size, rfl, #[], 0, [], (MapKept.heap_alloc w _).1, rfl, List.nodup_nil, fun i k e h => by simp at h, fun k _ h => by cases h⟩
  obtain ⟨g1, g2⟩ := fresh_ok hm (w' := w.alloc (.map #[] 0)) (pl := pl) (by rw [size_alloc]; omega) (fun b hb => heap_alloc_old w _ b hb) hB
    (fun b t h => by cases h; rw [size_alloc]; exact ⟨Nat.le_refl _, by omega⟩)
  exact ⟨.map (some w.heap.size), _, _, by simp [Instr.makeMap, newObj, Sem.run], .mp (upd_self σ m.new (some pl)) (fun p hp _ => by injection hp with hp; subst hp; exact ⟨_, _, rfl, rfl⟩), g1,
    step_alloc (fun b t h => by cases h; exact Nat.le_refl _), g2⟩
theorem nodup_snoc {k : List Int} {ks : List (List Int)} (h : ks.Nodup) (hk : k ∉ ks) : (ks ++ [k]).Nodup := by
  rw [List.nodup_append]
  exact ⟨h, by simp, fun a ha b hb e => by simp at hb; subst hb; subst e; exact hk ha⟩
theorem evMapUpdate_ok (hT : TabOk P T) (hm : MemOk m σ F w) {t : TypeId} {x y z : AV} {X Y Z : Value} {m' : Mem} (hx : Vc w F σ x X) (hy : Vc w F σ y Y) (hz : Vc w F σ z Z)
    (h : evMapUpdate T m t x y z = some m') : ∃ w' σ', (Instr.mapUpdate t X Y Z).run P w = .ok () w' ∧ MemOk m' σ' F w' ∧ Step σ F w σ' F w' ∧ SLe σ σ' := by
  unfold evMapUpdate at h
  split at h <;> try (cases h; done)
  rename_i sh te hmt
  obtain ⟨kt, et, hu, hs, hte⟩ := mapOf_ok hT hmt
  split at h <;> try (cases h; done)
  rename_i r
  split at h <;> try (cases h; done)
  rename_i sh' has val hB
  split at h <;> try (cases h; done)
  rename_i k hkey
  cases hsh : eqSh sh sh' with
  | false => rw [hsh] at h; cases h
  | true =>
    rw [hsh] at h
    simp only [cond_true, Option.some.injEq] at h
    subst h
    have := eqSh_eq hsh
    subst this
    obtain ⟨hfit, rfl⟩ := keyOf_ok hkey hy
    obtain ⟨pl, b, hr, h0, hl, rfl, h1, b', hl', es, clock, ks, g1, g2, g3, g4, g5⟩ := map_row hm hx (Mem.get_at hB)
    rw [hl] at hl'
    obtain ⟨rfl, _⟩ := Prod.mk.inj (Option.some.inj hl')
    have hks : KeysAre sh ks es := ⟨g2, fun i k e hi he => ⟨(g4 i k e hi he).1, (g4 i k e hi he).2.1⟩⟩
    have hlt : b < w.heap.size := (Array.getElem?_eq_some_iff.1 g1).1
    have hF : ¬ F b := (hm.nf r pl b 1 hr hl).1
    have hs0 : SLe σ (upd σ r (some pl)) := SLe.upd_old hr (QLe.refl _)
    have fin : ∀ (es' : Array MapEntry) (clock' : Nat) (ks' : List (List Int)), ks'.length = es'.size → ks'.Nodup →
        (∀ (i : Nat) k' e, ks'[i]? = some k' → es'[i]? = some e → sh.fits k' ∧ e.key = sh.key k' ∧ (decide (k' = k) || has k') = true ∧ Vc w F σ (bif decide (k' = k) then z else val k') e.val) →
        (∀ k', sh.fits k' → (decide (k' = k) || has k') = true → k' ∈ ks') →
        (Instr.mapUpdate t (.map (some b)) (sh.key k) Z).run P w = .ok () { w with heap := w.heap.setIfInBounds b (.map es' clock') } →
        ∃ w' σ', (Instr.mapUpdate t (.map (some b)) (sh.key k) Z).run P w = .ok () w' ∧ MemOk (m.put r (some (.map sh (fun x => decide (x = k) || has x) fun x => bif decide (x = k) then z else val x))) σ' F w' ∧ Step σ F w σ' F w' ∧ SLe σ σ' := by
      intro es' clock' ks' e1 e2 e3 e4 hrun
      obtain ⟨s1, s2⟩ := MapKept.heap_set (o' := .map es' clock') g1
      have hsz : ({ w with heap := w.heap.setIfInBounds b (.map es' clock') } : World).heap.size = w.heap.size := by simp
      have hkF : ∀ b', F b' → ({ w with heap := w.heap.setIfInBounds b (.map es' clock') } : World).heap[b']? = w.heap[b']? := fun b' hb' => s2 b' (fun e => hF (by rw [← e]; exact hb'))
      have hB' : BlkOk { w with heap := w.heap.setIfInBounds b (.map es' clock') } F (upd σ r (some pl)) (.map sh (fun x => decide (x = k) || has x) fun x => bif decide (x = k) then z else val x) pl :=
        ⟨h0, b, hl, es', clock', ks', s1, e1, e2, fun i k' e hi he => ⟨(e3 i k' e hi he).1, (e3 i k' e hi he).2.1, (e3 i k' e hi he).2.2.1, (e3 i k' e hi he).2.2.2.mono (fun _ h => h) hkF hs0⟩, e4⟩
      obtain ⟨q1, q2⟩ := change_ok hm (w' := { w with heap := w.heap.setIfInBounds b (.map es' clock') }) hr (by rw [hsz]; exact Nat.le_refl _) (fun b' _ hne => s2 b' (fun e => hne 1 (by rw [e]; exact hl)))
        ⟨Nat.le_refl _, fun _ => rfl⟩ hB' (fun b' t' h => by rw [hsz]; exact ⟨by rw [hl] at h; cases h; exact hlt, .inl ⟨t', h⟩⟩)
      exact ⟨_, _, hrun, q1, ⟨rfl, rfl, rfl, by rw [hsz]; exact Nat.le_refl _, fun b' _ ho => s2 b' (fun e => ho ⟨r, pl, 1, hr, by rw [e]; exact hl⟩), fun _ h => h, fun _ h => .inl h, own_upd_old hr (fun b' t' h => .inl ⟨t', h⟩)⟩, q2⟩
    rcases run_find hs hks hfit with ⟨e1, e2⟩ | ⟨i, e, e1, e2, e3⟩
    · refine fin (es.push { key := sh.key k, val := Z, born := clock }) (clock + 1) (ks ++ [k]) (by simp [g2]) (nodup_snoc g3 e1) (fun j k' e hj he => ?_) (fun k' hk' hh => ?_) ?_
      · rw [List.getElem?_append] at hj
        rw [Array.getElem?_push] at he
        by_cases hjl : j < ks.length
        · rw [if_pos hjl] at hj
          rw [if_neg (by omega)] at he
          obtain ⟨q1, q2, q3, q4⟩ := g4 j k' e hj he
          have hne : k' ≠ k := fun e => e1 (by rw [← e]; exact List.mem_of_getElem? hj)
          refine ⟨q1, q2, by simp [q3], by simp only [hne, decide_false, cond_false]; exact q4⟩
        · rw [if_neg hjl] at hj
          have hj0 : j - ks.length = 0 := by
            rcases Nat.eq_zero_or_pos (j - ks.length) with h | h
            · exact h
            · rw [List.getElem?_eq_none (by simp; omega)] at hj; cases hj
          rw [hj0] at hj
          simp at hj
          subst hj
          rw [if_pos (by omega)] at he
          simp at he
          subst he
          exact ⟨hfit, rfl, by simp, by simpa using hz⟩
      · simp only [Bool.or_eq_true, decide_eq_true_eq] at hh
        rcases hh with rfl | hh
        · simp
        · exact List.mem_append_left _ (g5 k' hk' hh)
      · simp [Instr.mapUpdate, run_underlying hu, MapKept.run_getObj_map g1, run_check hs, e2, MapKept.run_setObj_map _ g1]
    · obtain ⟨p1, p2, p3, p4⟩ := g4 i k e e2 e1
      refine fin (es.modify i fun e => { e with key := sh.key k, val := Z }) clock ks (by simp [g2]) g3 (fun j k' e' hj he => ?_) (fun k' hk' hh => ?_) ?_
      · rw [Array.getElem?_modify] at he
        by_cases hij : i = j
        · subst hij
          rw [if_pos rfl, e1] at he
          simp at he
          subst he
          rw [e2] at hj
          injection hj with hj
          subst hj
          exact ⟨hfit, rfl, by simp, by simpa using hz⟩
        · rw [if_neg hij] at he
          obtain ⟨q1, q2, q3, q4⟩ := g4 j k' e' hj he
          have hne : k' ≠ k := fun e => by
            subst e
            have hi := (List.getElem?_eq_some_iff.1 e2)
            have hj2 := (List.getElem?_eq_some_iff.1 hj)
            exact hij ((List.getElem_inj g3).1 (hi.2.trans hj2.2.symm))
          exact ⟨q1, q2, by simp [q3], by simp only [hne, decide_false, cond_false]; exact q4⟩
      · simp only [Bool.or_eq_true, decide_eq_true_eq] at hh
        rcases hh with rfl | hh
        · exact List.mem_of_getElem? e2
        · exact g5 k' hk' hh
      · simp [Instr.mapUpdate, run_underlying hu, MapKept.run_getObj_map g1, run_check hs, e3, e1, p2, run_stays hs, MapKept.run_setObj_map _ g1]
end
end Go.Ab
