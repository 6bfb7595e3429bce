/-
  The engine, part R: the rule for a function that is handed memory of its own, or that makes some.
-/
import Derived.Test.YtfbjlakcolipaaaDoorEngQ
namespace Go.Ab
set_option linter.unusedSimpArgs false
set_option linter.unusedVariables false

def envA : Nat → List AV → Env
  | _, [] => []
  | k, x :: r => (k, x) :: envA (k + 1) r
def evRes (T : Tab) (m : Mem) (env : Env) : List ResultVar → Option (List AV × List Prop)
  | [] => some ([], [])
  | .tmp t :: rs => match strip (get env t) with
    | (A, p) => match evRes T m env rs with
      | some (l, q) => some (A :: l, cat p q)
      | none => none
  | .cell t ty :: rs => match evLoad T m ty (get env t) with
    | some (A, p) => match evRes T m env rs with
      | some (l, q) => some (A :: l, cat p q)
      | none => none
    | none => none
def resA : List AV → AV
  | [x] => x
  | xs => .tup xs
/-- What is handed back is one of the states s. -/
def FinR {S : Type} (T : Tab) (rs : List ResultVar) (enc : S → List AV × Mem) (J : S → Prop) (env : Env) (m : Mem) : Prop := match evRes T m env rs with
  | some (l, p) => obs p (∃ s, J s ∧ Le (envA 0 l) m (envA 0 (enc s).1) (enc s).2 ∧ lenL2 l = lenL2 (enc s).1)
  | none => False
where lenL2 : List AV → Nat
  | [] => 0
  | _ :: r => lenL2 r + 1
def finR {S : Type} (T : Tab) (rs : List ResultVar) (enc : S → List AV × Mem) (J : S → Prop) : Post := fun e env m => match e with
  | .ret => FinR T rs enc J env m
  | .normal => FinR T rs enc J env m
  | _ => False
theorem lenL2_eq (l : List AV) : FinR.lenL2 l = l.length := by
  induction l with
  | nil => rfl
  | cons x r ih => simp [FinR.lenL2, ih]
/-- The contract: what is handed back and what is left is one of the states s. -/
def Ret {S : Type} (enc : S → List AV × Mem) (J : S → Prop) : AV → Mem → Prop := fun A m => ∃ s, J s ∧ A = resA (enc s).1 ∧ m = (enc s).2

section
variable {P : Program} {T : Tab} {w : World} {F : Nat → Prop} {σ : Pls} {m : Mem}
theorem envA_get : ∀ (ys : List AV) (k t : Nat), get (envA k ys) t = (if k ≤ t then match ys[t - k]? with | some x => x | none => .junk else .junk)
  | [], k, t => by simp [envA, get]
  | y :: r, k, t => by
    simp only [envA, get]
    cases hk : Nat.beq k t with
    | true =>
      have := Nat.eq_of_beq_eq_true hk
      subst this
      simp
    | false =>
      have hne := Nat.ne_of_beq_eq_false hk
      simp only [cond_false]
      rw [envA_get r (k + 1) t]
      by_cases hle : k + 1 ≤ t
      · rw [if_pos hle, if_pos (by omega)]
        have : t - k = (t - (k + 1)) + 1 := by omega
        rw [this, List.getElem?_cons_succ]
      · rw [if_neg hle, if_neg (by omega)]
theorem envA_ok {as : List AV} {vals : List Value} (h : ArgsOk w F σ as vals) (n : Nat) : EnvOk (envA 0 as) w F σ (vals.toArray ++ Array.replicate n undef) := by
  intro t
  rw [envA_get, if_pos (Nat.zero_le _), Nat.sub_zero]
  split
  · rename_i x hx
    have ht : t < vals.length := by rw [h.1]; exact (List.getElem?_eq_some_iff.1 hx).1
    have hu : vals[t]? = some vals[t] := List.getElem?_eq_getElem ht
    have : (vals.toArray ++ Array.replicate n undef).getD t undef = vals[t] := by
      rw [Array.getD_eq_getD_getElem?, Array.getElem?_append_left (by simpa using ht)]
      simp [hu]
    rw [this]
    exact h.2 t x _ hx hu
  · exact .junk
theorem evRes_ok (hT : TabOk P T) (hm : MemOk m σ F w) {env : Env} {tmps : Array Value} (he : EnvOk env w F σ tmps) : ∀ (rs : List ResultVar) (l : List AV) (p : List Prop), evRes T m env rs = some (l, p) → (∀ q ∈ p, q) →
    ∃ vs : List Value, (rs.mapM (resOne tmps)).run P w = .ok vs w ∧ ArgsOk w F σ l vs
  | [], l, p, h, _ => by
    simp only [evRes, Option.some.injEq, Prod.mk.injEq] at h
    obtain ⟨rfl, rfl⟩ := h
    exact ⟨[], by simp, rfl, fun j x u h => by simp at h⟩
  | .tmp t :: rs, l, p, h, hp => by
    unfold evRes at h
    split at h
    rename_i A p1 e1
    split at h <;> try (cases h; done)
    rename_i l1 q1 e2
    simp only [Option.some.injEq, Prod.mk.injEq] at h
    obtain ⟨rfl, rfl⟩ := h
    obtain ⟨hp1, hp2⟩ := all_cat hp
    obtain ⟨vs, g1, g2, g3⟩ := evRes_ok hT hm he rs l1 q1 e2 hp2
    have hv := strip_ok (he t) (by rw [e1]; exact hp1)
    rw [e1] at hv
    refine ⟨tmps.getD t undef :: vs, by simp [List.mapM_cons, resOne, g1], by simp [g2], fun j y u hy hu => ?_⟩
    cases j with
    | zero => simp at hy hu; subst hy; subst hu; simpa using hv
    | succ j => exact g3 j y u (by simpa using hy) (by simpa using hu)
  | .cell t ty :: rs, l, p, h, hp => by
    unfold evRes at h
    split at h <;> try (cases h; done)
    rename_i A p1 hl
    split at h <;> try (cases h; done)
    rename_i l1 q1 e2
    simp only [Option.some.injEq, Prod.mk.injEq] at h
    obtain ⟨rfl, rfl⟩ := h
    obtain ⟨hp1, hp2⟩ := all_cat hp
    obtain ⟨vs, g1, g2, g3⟩ := evRes_ok hT hm he rs l1 q1 e2 hp2
    obtain ⟨u0, hu0, hrun⟩ := evLoad_ok hT hm (he t) hl hp1
    have hr := hrun w (Agree.refl F σ w)
    have hptr : ∃ a, tmps.getD t undef = .pointer (some a) := by
      unfold Instr.loadAt Instr.sureAddr at hr
      generalize tmps.getD t undef = X at hr
      split at hr
      · exact ⟨_, rfl⟩
      · simp at hr
    obtain ⟨ad, had⟩ := hptr
    rw [had] at hr
    have hr' : (loadVar ty ad).run P w = .ok u0 w := by simpa [Instr.loadAt, Instr.sureAddr] using hr
    refine ⟨u0 :: vs, by simp [List.mapM_cons, resOne, g1, had, asAddr, hr'], by simp [g2], fun j y u hy hu => ?_⟩
    cases j with
    | zero => simp at hy hu; subst hy; subst hu; exact hu0
    | succ j => exact g3 j y u (by simpa using hy) (by simpa using hu)

/-- THE RULE FOR A FUNCTION THAT IS HANDED ITS OWN MEMORY, OR MAKES SOME. -/
theorem call_rule (hT : TabOk P T) {f : FuncId} {fn : Func} {c : Code} {N : Nat} {rs : List ResultVar} {as : List AV} {own : List (Option Blk)} {S : Type} (enc : S → List AV × Mem) (J : S → Prop) (hf : P.funcs[f]? = some fn) (hb : fn.body = some c) (hN : fn.ntmps = N) (hrs : fn.results = rs.toArray)
    (hname : (fn.name == "runtime.NumGoroutine") = false) (hargs : Nat.ble as.length N = true) (h : Ev (vc P T N c (envA 0 as) ⟨[], own⟩ (finR T rs enc J))) : CallVC P f as ⟨[], own⟩ (Ret enc J) := by
  refine ⟨⟨fn, hf, hname, by simp [hb]⟩, fun σ F w vals hm ha => ?_⟩
  refine callsFen.1 (callsIn_of_wp_marks (F := Fen none) (n := 0) hf hb trivial ?_ rfl)
  have hle := Nat.le_of_ble_eq_true hargs
  have hl := ha.1
  have hwp := (vc_ok hT c (envA 0 as) ⟨[], own⟩ (finR T rs enc J) h.o).run none w.heap.size { tmps := vals.toArray ++ Array.replicate (fn.ntmps - vals.toArray.size) undef, defers := [] } w σ F (by simp [hN]; omega) Ctx.nil (envA_ok ha _) hm
  refine wpIn_mono hwp ?_
  rintro e a w1 ⟨env', m', σ', F', q1, q2, q3, q4, q5, q6, q7⟩
  have hsle : ∀ σ2 : Pls, SArg σ' σ2 → SLe σ σ2 := fun σ2 h r q hq => by
    cases r with
    | arg j => exact (q7.trans h) j q hq
    | loc j => rw [(hm.dom (.loc j)).2 (by simp [Mem.at])] at hq; cases hq
    | bad => rw [(hm.dom .bad).2 rfl] at hq; cases hq
  have hend : FinR T rs enc J env' m' → LeavesInM (Fen none) 0 P fn a.tmps (fun e w' => ∃ v A m' σ' F', e = .returned v ∧ Ret enc J A m' ∧ Vc w' F' σ' A v ∧ MemOk m' σ' F' w' ∧ Step σ F w σ' F' w' ∧ SLe σ σ') a.defers .returning w1 := by
    intro hfin
    obtain ⟨Ds, hDs, hnd, hD⟩ := q3.marks
    rw [hDs]
    refine leaves_marks Ds w1 hnd (fun D h => (hD D h).2.1) fun w' k1 k2 k3 k4 k5 => ?_
    have kF : ∀ b, F' b → w'.heap[b]? = w1.heap[b]? := fun b hb => k5 b fun hm => (hD b hm).2.2.2 hb
    have kO : ∀ b, Owned σ' b → w'.heap[b]? = w1.heap[b]? := fun b hb => k5 b fun hm => (hD b hm).2.2.1 hb
    replace q4 : EnvOk env' w' F' σ' a.tmps := q4.mono (fun _ h => h) kF (SLe.refl σ')
    replace q5 : MemOk m' σ' F' w' := q5.world (by omega) fun b hb => by
      rcases hb with hb | hb
      · exact kF b hb
      · exact kO b hb
    replace q6 : Step σ F w σ' F' w' := ⟨k1.trans q6.os, k2.trans q6.tape, k3.trans q6.output, by rw [k4]; exact q6.size, fun b hb ho => (k5 b fun hm => by have := (hD b hm).1; omega).trans (q6.keep b hb ho), q6.fro, q6.fro', q6.own⟩
    unfold FinR at hfin
    split at hfin <;> try exact hfin.elim
    rename_i l p hl
    obtain ⟨hp, s, hJ, hLe, hlen⟩ := obs_ok hfin
    obtain ⟨vs, g1, g2⟩ := evRes_ok hT q5 q4 rs l p hl hp
    have hrun : (results fn a.tmps).run P w' = .ok (if h : vs.toArray.size = 1 then vs.toArray[0] else .tuple vs.toArray) w' := by
      have e : results fn a.tmps = (do let vs ← fn.results.mapM (resOne a.tmps); pure (if h : vs.size = 1 then vs[0] else .tuple vs)) := by
        unfold results
        congr 1
      rw [e, hrs, Array.mapM_eq_mapM_toList]
      simp [g1]
    have hE := envA_ok g2 0
    simp only [Array.replicate_zero, Array.append_empty] at hE
    obtain ⟨σ2, r1, r2, r3, r4⟩ := le_ok hLe hE q5
    have hlen' : vs.length = (enc s).1.length := by rw [g2.1, ← lenL2_eq, hlen, lenL2_eq]
    have hat : ∀ (j : Nat) A u, (enc s).1[j]? = some A → vs[j]? = some u → Vc w' F' σ2 A u := fun j A u hA hu => by
      have := r1 j
      rw [envA_get, if_pos (Nat.zero_le _), Nat.sub_zero, hA] at this
      simpa [hu] using this
    refine ⟨_, hrun, _, resA (enc s).1, (enc s).2, σ2, F', rfl, ⟨s, hJ, rfl, rfl⟩, ?_, r2, q6.trans r3, hsle σ2 r4⟩
    have tup : Vc w' F' σ2 (.tup (enc s).1) (.tuple vs.toArray) := .tup hlen' hat
    generalize (enc s).1 = L at hlen' hat tup
    match L, vs, hlen', hat, tup with
    | [], [], _, _, tup => simpa [resA] using tup
    | [x], [v], _, hat, _ => simpa [resA] using hat 0 x v rfl rfl
    | x :: y :: xs, a :: b :: vs, _, _, tup => simpa [resA] using tup
    | [], _ :: _, h, _, _ => simp at h
    | _ :: _, [], h, _, _ => simp at h
    | [_], _ :: _ :: _, h, _, _ => simp at h
    | _ :: _ :: _, [_], h, _, _ => simp at h
  cases e with
  | normal => exact hend q1
  | ret => exact hend q1
  | _ => exact q1.elim

/-- The use of such a contract at a call. -/
theorem CallVC.at {f : FuncId} {as : List AV} {own : List (Option Blk)} {S : Type} {enc : S → List AV × Mem} {J : S → Prop} {K : AV → Mem → Prop} (h : CallVC P f as ⟨[], own⟩ (Ret enc J)) (rs : List Ref)
    (hn : nodupR rs = true) (hp : Picks m (inn rs) rs own)
    (hk : ∀ s, J s → lenL (enc s).2.own = lenL own ∧ Ev (frc (ren (out (lenL m.loc) rs) (resA (enc s).1)) fun A => frcM (back m rs (enc s).2) fun m => K A m)) : CallVC P f (renL (inn rs) as) m K :=
  h.frame rs hn hp fun A m0 ⟨s, hJ, e1, e2⟩ => by
    subst e1; subst e2
    have := hk s hJ
    rw [frc_eq, frcM_eq] at this
    exact ⟨this.1, this.2.o⟩
end
end Go.Ab
