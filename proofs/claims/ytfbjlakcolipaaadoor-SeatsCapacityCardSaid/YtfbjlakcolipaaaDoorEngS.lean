/-
  The engine, part S: an own row is turned into data for good.
-/
import Derived.Test.YtfbjlakcolipaaaDoorEngR
namespace Go.Ab
set_option linter.unusedSimpArgs false
set_option linter.unusedVariables false

def shiftF (off : Nat) (f' : Nat → List D) : Nat → List D :=
  match off with
  | 0 => f'
  | off + 1 => fun i => f' (off + 1 + i)
theorem shiftF_eq (off : Nat) (f' : Nat → List D) : shiftF off f' = fun i => f' (off + i) := by
  cases off with
  | zero => funext i; simp [shiftF]
  | succ k => rfl
def frzA (r : Ref) (sz g n : Nat) (f' : Nat → List D) : AV → AV × List Prop
  | .osl r' g' off k => bif decide (r' = r) then (.d (.sl sz k (shiftF off f')), [g' = g, off + k ≤ n]) else (.osl r' g' off k, [])
  | .ptr r' g' i off => bif decide (r' = r) then (.junk, []) else (.ptr r' g' i off, [])
  | .d x => (.d x, [])
  | .mp r' => (.mp r', [])
  | _ => (.junk, [])
def frzEnv (r : Ref) (sz g n : Nat) (f' : Nat → List D) : Env → Env × List Prop
  | [] => ([], [])
  | (t, A) :: e => match frzA r sz g n f' A with
    | (A', p) => match frzEnv r sz g n f' e with
      | (e', q) => ((t, A') :: e', cat p q)

section
variable {P : Program} {T : Tab} {w : World} {F : Nat → Prop} {σ : Pls} {m : Mem}
theorem frzEnv_get {r : Ref} {sz g n : Nat} {f' : Nat → List D} : ∀ (env : Env) (t : Nat), (∀ p ∈ (frzEnv r sz g n f' env).2, p) → get (frzEnv r sz g n f' env).1 t = (frzA r sz g n f' (get env t)).1 ∧ ∀ p ∈ (frzA r sz g n f' (get env t)).2, p
  | [], t, _ => ⟨rfl, fun p hp => by simp [get, frzA] at hp⟩
  | (t0, A) :: e, t, hob => by
    simp only [frzEnv] at hob ⊢
    obtain ⟨h1, h2⟩ := all_cat hob
    have ih := frzEnv_get e t h2
    simp only [get]
    cases Nat.beq t0 t with
    | true => exact ⟨rfl, h1⟩
    | false => exact ih

theorem Awp.freeze {N : Nat} {c : Code} {env : Env} {m : Mem} {Q : Post} (r : Ref) {e sz g n : Nat} {f : Nat → List AV} (f' : Nat → List D) (hB : m.get r = some (.vec e sz g n f)) (hf : ∀ i, i < n → f i = up (f' i))
    (hob : ∀ p ∈ (frzEnv r sz g n f' env).2, p) (k : Awp P N c (frzEnv r sz g n f' env).1 (m.put r none) Q) : Awp P N c env m Q :=
  ⟨fun ro lo a w σ F hN hD he hm => by
    have hat := Mem.get_at hB
    obtain ⟨pl, hr⟩ : ∃ pl, σ r = some (some pl) := by
      cases hs : σ r with
      | none => rw [(hm.dom r).1 hs] at hat; cases hat
      | some q => cases q with
        | none => rw [(hm.lv r _ hs).1 rfl] at hat; cases hat
        | some pl => exact ⟨pl, rfl⟩
    let F' : Nat → Prop := fun b => F b ∨ ∃ t, pl.loc = some (b, t)
    let σ' := upd σ r none
    have hsle : SLe σ σ' := SLe.upd_old hr (QLe.none _)
    have hFF : ∀ b, F b → F' b := fun b h => .inl h
    have hm' : MemOk (m.put r none) σ' F' w := by
      refine ⟨fun r' => ?_, fun r' q hq => ?_, fun r1 r2 p1 p2 b t t' h1 h2 => ?_, fun r' p b t h1 h2 => ?_, fun b hb => ?_, hm.gl.mono hFF fun _ _ => rfl⟩
      · by_cases hr' : r' = r
        · subst hr'
          rw [put_self none hat]
          simp [σ', upd_self]
        · rw [put_other none hr']
          simp only [σ', upd_other σ none hr']
          exact hm.dom r'
      · by_cases hr' : r' = r
        · subst hr'
          simp only [σ', upd_self, Option.some.injEq] at hq
          subst hq
          exact ⟨fun _ => put_self none hat, fun p h => by cases h⟩
        · simp only [σ', upd_other σ none hr'] at hq
          rw [put_other none hr']
          refine ⟨(hm.lv r' q hq).1, fun p hp => ?_⟩
          obtain ⟨B, h1, h2⟩ := (hm.lv r' q hq).2 p hp
          exact ⟨B, h1, h2.mono hFF (fun _ _ => rfl) hsle (fun _ _ _ => rfl)⟩
      · have n1 : r1 ≠ r := fun e => by subst e; simp [σ', upd_self] at h1
        have n2 : r2 ≠ r := fun e => by subst e; simp [σ', upd_self] at h2
        simp only [σ', upd_other σ none n1] at h1
        simp only [σ', upd_other σ none n2] at h2
        exact hm.inj _ _ _ _ _ _ _ h1 h2
      · have n1 : r' ≠ r := fun e => by subst e; simp [σ', upd_self] at h1
        simp only [σ', upd_other σ none n1] at h1
        obtain ⟨g1, g2⟩ := hm.nf r' p b t h1 h2
        refine ⟨fun h => ?_, g2⟩
        rcases h with h | ⟨t', h⟩
        · exact g1 h
        · exact n1 (hm.inj _ _ _ _ _ _ _ h1 hr h2 h)
      · rcases hb with h | ⟨t', h⟩
        · exact hm.fl b h
        · exact (hm.nf r pl b t' hr h).2
    have he' : EnvOk (frzEnv r sz g n f' env).1 w F' σ' a.tmps := fun t => by
      obtain ⟨e1, e2⟩ := frzEnv_get env t hob
      rw [e1]
      have hv := he t
      generalize get env t = A at hv e2
      cases A with
      | osl r' g' off k0 =>
        by_cases hr' : r' = r
        · subst hr'
          simp only [frzA, decide_true, cond_true] at e2 ⊢
          have q1 : g' = g := e2 _ (by simp)
          have q2 : off + k0 ≤ n := e2 (off + k0 ≤ n) (by simp)
          subst q1
          rw [shiftF_eq]
          exact .d (osl_data hm hFF hv hB q2 hf fun pl' b tot h1 h2 => by
            rw [hr] at h1
            injection h1 with h1
            injection h1 with h1
            subst h1
            exact .inr ⟨tot, h2⟩)
        · simp only [frzA, hr', decide_false, cond_false]
          exact hv.mono hFF (fun _ _ => rfl) hsle
      | ptr r' g' i off =>
        by_cases hr' : r' = r
        · subst hr'
          simp only [frzA, decide_true, cond_true]
          exact .junk
        · simp only [frzA, hr', decide_false, cond_false]
          exact hv.mono hFF (fun _ _ => rfl) hsle
      | d x => exact hv.mono hFF (fun _ _ => rfl) hsle
      | mp r' => exact hv.mono hFF (fun _ _ => rfl) hsle
      | _ => exact .junk
    have hst : Step σ F w σ' F' w := by
      refine ⟨rfl, rfl, rfl, Nat.le_refl _, fun _ _ _ => rfl, hFF, fun b hb => ?_, fun b ⟨r', p, t, h1, h3⟩ => ?_⟩
      · rcases hb with h | ⟨t, h⟩
        · exact .inl h
        · exact .inr (.inl ⟨r, pl, t, hr, h⟩)
      · have n1 : r' ≠ r := fun e => by subst e; simp [σ', upd_self] at h1
        simp only [σ', upd_other σ none n1] at h1
        exact .inl ⟨r', p, t, h1, h3⟩
    exact wpIn_mono (k.run ro lo a w σ' F' hN (hD.step hst) he' hm') fun e2 a2 w2 h2 => lift_trans hst (.of hsle) h2⟩
theorem Awp.freeze' {N : Nat} {c : Code} {env : Env} {m : Mem} {Q : Post} (r : Ref) {e sz g n : Nat} {f : Nat → List AV} (f' : Nat → List D) (hB : m.get r = some (.vec e sz g n f)) (hf : ∀ i, i < n → f i = up (f' i))
    (k : Ev (obs (frzEnv r sz g n f' env).2 (Awp P N c (frzEnv r sz g n f' env).1 (m.put r none) Q))) : Awp P N c env m Q :=
  have h := obs_ok k.o
  Awp.freeze r f' hB hf h.1 h.2
theorem Awp.of_vc (hT : TabOk P T) {N : Nat} {c : Code} {env : Env} {m : Mem} {Q : Post} (h : Ev (vc P T N c env m Q)) : Awp P N c env m Q := vc_ok hT c env m Q h.o
end
end Go.Ab
