/-
  The engine, part N: code; loops; what a state may be taken for.
-/
import Derived.Test.YteamiepijajjdaaDoorEngAA
namespace Go.Ab
set_option linter.unusedSimpArgs false
set_option linter.unusedVariables false

/-- Between two parts of the code: either way serves. -/
inductive Sq (p q : Prop) : Prop where
  | go (h : p)
  | alt (h : q)
noncomputable def vc (P : Program) (T : Tab) (N : Nat) (c : Code) : Env → Mem → Post → Prop :=
  Code.rec (motive := fun _ => Env → Mem → Post → Prop)
    (fun env m Q => Q .normal env m)
    (fun _ ops draw env m Q => bif dstsIn N ops.toList then match draw with
      | false => vcOps P T ops.toList ops.toList env m fun env m => Ev (Q .normal env m)
      | true => Dr (P.follows .mixedOrders = true ∧ okR ops.toList = true) (Ev (bif hasChain ops.toList ops.toList then vcX P T ops.toList m ops.toList 0 env [] fun env => Ev (Q .normal env m) else vcR P T ops.toList m ops.toList env fun env => Ev (Q .normal env m)))
    else False)
    (fun _ y ihx ihy env m Q => ihx env m fun e env m => match e with
    | .normal => Sq (Ev (ihy env m Q)) (Awp P N y env m Q)
    | .exit i => Q (.exit i) env m
    | .goto i => Q (.goto i) env m
    | .ret => Q .ret env m
    | .panic ch => Q (.panic ch) env m
    | .outgrown => Q .outgrown env m)
    (fun c _ _ ihx ihy env m Q => match strip (ev env c) with
    | (C, l) => match C with
      | .d (.bool b) => obs l (Br b (Ev (ihx env m Q)) (Ev (ihy env m Q)))
      | _ => False)
    (fun id _ ihx env m Q => ihx env m fun e env m => match e with
    | .exit i => bif Nat.beq i id then Q .normal env m else Q (.exit i) env m
    | .normal => Q .normal env m
    | .goto i => Q (.goto i) env m
    | .ret => Q .ret env m
    | .panic ch => Q (.panic ch) env m
    | .outgrown => Q .outgrown env m)
    (fun c _ env m Q => Awp P N (.loop c) env m Q)
    (fun f ps a c _ _ env m Q => Awp P N (.rangeFunc f ps a c) env m Q)
    (fun id env m Q => Q (.exit id) env m)
    (fun _ ihx env m Q => ihx env m fun e env m => match e with
    | .normal => Q .normal env m
    | .exit i => Q (.exit i) env m
    | .goto _ => False
    | .ret => Q .ret env m
    | .panic ch => Q (.panic ch) env m
    | .outgrown => Q .outgrown env m)
    (fun _ env m Q => Q .normal env m)
    (fun _ _ _ _ => False)
    (fun env m Q => Q .ret env m)
    (fun _ _ _ _ => False) c
theorem vc_region (P : Program) (T : Tab) (N id : Nat) (ops : Array Oper) (draw : Bool) (env : Env) (m : Mem) (Q : Post) : vc P T N (.region id ops draw) env m Q = bif dstsIn N ops.toList then match draw with
      | false => vcOps P T ops.toList ops.toList env m fun env m => Ev (Q .normal env m)
      | true => Dr (P.follows .mixedOrders = true ∧ okR ops.toList = true) (Ev (bif hasChain ops.toList ops.toList then vcX P T ops.toList m ops.toList 0 env [] fun env => Ev (Q .normal env m) else vcR P T ops.toList m ops.toList env fun env => Ev (Q .normal env m)))
    else False := rfl
theorem vc_cond (P : Program) (T : Tab) (N : Nat) (c : Operand) (x y : Code) (env : Env) (m : Mem) (Q : Post) : vc P T N (.cond c x y) env m Q = match strip (ev env c) with
    | (C, l) => match C with
      | .d (.bool b) => obs l (Br b (Ev (vc P T N x env m Q)) (Ev (vc P T N y env m Q)))
      | _ => False := rfl

section sound
variable {P : Program} {T : Tab}

theorem lift_trans {N : Nat} {Q : Post} {ro : Option Nat} {lo : Nat} {σ σ' : Pls} {F F' : Nat → Prop} {w w' : World} (hs : Step σ F w σ' F' w') (ha : SArg σ σ') {e : Exit} {a : Act} {w2 : World} (h : lift N Q ro lo σ' F' w' e a w2) : lift N Q ro lo σ F w e a w2 := by
  obtain ⟨env, m, σ2, F2, h1, h2, h3, h4, h5, h6, h7⟩ := h
  exact ⟨env, m, σ2, F2, h1, h2, h3, h4, h5, hs.trans h6, ha.trans h7⟩

theorem stepR_scope {P : Program} {b : Frame} {a : Act} {k : List Item} {cs : List Frame} {w : World} {c : Code} : step P (lone (b.atR a (.code (.scope c) :: k)) cs w) = .next (lone (b.atR a (.code c :: .inScope c :: k)) cs w) :=
  step_lone_go (by simp [stepG, stepG.exec, Frame.atR])
theorem stepR_inScope {P : Program} {b : Frame} {a : Act} {k : List Item} {cs : List Frame} {w : World} {c : Code} : step P (lone (b.atR a (.inScope c :: k)) cs w) = .next (lone (b.atR a k) cs w) :=
  step_lone_go (by simp [stepG, stepG.exec, Frame.atR])
theorem wpIn_scope_straight {F : Fence} {n : Nat} {P : Program} {Q : Exit → Act → World → Prop} {a : Act} {w : World} {c : Code} (h : c.wpIn F n P (fun e a w => (∀ l, e ≠ .goto l) ∧ Q e a w) a w) : (Code.scope c).wpIn F n P Q a w := by
  intro b k cs hro hb hr
  obtain ⟨e, a1, w1, ⟨hg, hq⟩, harr⟩ := h b (.inScope c :: k) cs hro hb hr
  have h0 : (lone (b.atR a (.code (.scope c) :: k)) cs w).fenced P F := fenced_calm hb hr rfl
  cases e with
  | normal => exact ⟨.normal, a1, w1, hq, .head h0 stepR_scope (StepsIn.trans harr (.one (fenced_calm hb hr rfl) stepR_inScope))⟩
  | exit id => exact ⟨.exit id, a1, w1, hq, .of_steps (.one h0 stepR_scope) ⟨fun k' hk => harr.1 k' (by simp [exitTo, hk]), fun hr' hk => harr.2 hr' (by simp [exitTo, hk])⟩⟩
  | goto l => exact absurd rfl (hg l)
  | ret => exact ⟨_, a1, w1, hq, .of_steps (.one h0 stepR_scope) harr⟩
  | panic ch => exact ⟨_, a1, w1, hq, .of_steps (.one h0 stepR_scope) harr⟩
  | outgrown => exact ⟨_, a1, w1, hq, .of_steps (.one h0 stepR_scope) harr⟩
theorem vc_ok (hT : TabOk P T) {N : Nat} : ∀ (c : Code) (env : Env) (m : Mem) (Q : Post), vc P T N c env m Q → Awp P N c env m Q
  | .skip, env, m, Q, h => ⟨fun ro lo a w σ F hN hD he hm => wpIn_skip ⟨env, m, σ, F, h, hN, hD, he, hm, Step.refl σ F w, SArg.refl σ⟩⟩
  | .region id ops draw, env, m, Q, h => ⟨fun ro lo a w σ F hN hD he hm => by
    rw [vc_region] at h
    cases hd : dstsIn N ops.toList with
    | false => rw [hd] at h; cases h
    | true =>
      rw [hd] at h
      simp only [cond_true] at h
      cases draw with
      | false =>
        refine wpIn_region_list (vcOps_ok hT (full := ops.toList) (by simp) ops.toList env m hd h a w F σ hN he hm ?_)
        intro env' m' a' w' σ' F' k1 k2 k3 k4 k5 k6 k7
        exact ⟨env', m', σ', F', k1.o, k2, by rw [k3]; exact hD.step k6, k4, k5, k6, .of k7⟩
      | true =>
        obtain ⟨⟨h1, h2⟩, ⟨h3⟩⟩ := h
        cases hch : hasChain ops.toList ops.toList with
        | true =>
          rw [hch] at h3
          simp only [cond_true, cond_false] at h3
          refine drawn_regionX h1 h2 hT hm hd h3 hN he fun env' a' w' F' hk hN' hD' hg he' => ?_
          exact ⟨env', m, σ, F', hk.o, hN', by rw [hD']; exact hD.step (hg.step σ), he', hg.mem hm, hg.step σ, SArg.refl σ⟩
        | false =>
          rw [hch] at h3
          simp only [cond_true, cond_false] at h3
          refine drawn_region h1 h2 hT hm hd h3 hN he fun env' a' w' F' hk hN' hD' hg he' => ?_
          exact ⟨env', m, σ, F', hk.o, hN', by rw [hD']; exact hD.step (hg.step σ), he', hg.mem hm, hg.step σ, SArg.refl σ⟩⟩
  | .seq x y, env, m, Q, h => ⟨fun ro lo a w σ F hN hD he hm => by
    refine wpIn_seq (wpIn_mono ((vc_ok hT x env m _ h).run ro lo a w σ F hN hD he hm) ?_)
    rintro e a1 w1 ⟨env1, m1, σ1, F1, k1, k2, k3, k4, k5, k6, k7⟩
    cases e with
    | normal =>
      have k1 : Sq (Ev (vc P T N y env1 m1 Q)) (Awp P N y env1 m1 Q) := k1
      have hy : Awp P N y env1 m1 Q := match k1 with
        | .go h => vc_ok hT y env1 m1 Q h.o
        | .alt h => h
      exact wpIn_mono (hy.run ro lo a1 w1 σ1 F1 k2 k3 k4 k5) fun e a2 w2 h2 => lift_trans k6 k7 h2
    | _ => exact ⟨env1, m1, σ1, F1, k1, k2, k3, k4, k5, k6, k7⟩⟩
  | .cond c x y, env, m, Q, h => ⟨fun ro lo a w σ F hN hD he hm => by
    rw [vc_cond] at h
    split at h
    rename_i C l hb
    split at h <;> try (cases h; done)
    obtain ⟨hl, h⟩ := obs_ok h
    have hv := strip_ok (ev_ok he c) (by rw [hb]; exact hl)
    rw [hb] at hv
    refine wpIn_cond_split hv.bool (fun e => ?_) (fun e => ?_)
    · exact (vc_ok hT x env m Q (h.t e).o).run ro lo a w σ F hN hD he hm
    · exact (vc_ok hT y env m Q (h.f e).o).run ro lo a w σ F hN hD he hm⟩
  | .block id c, env, m, Q, h => ⟨fun ro lo a w σ F hN hD he hm => by
    refine wpIn_block (wpIn_mono ((vc_ok hT c env m _ h).run ro lo a w σ F hN hD he hm) ?_)
    rintro e a1 w1 ⟨env1, m1, σ1, F1, k1, k2⟩
    cases e with
    | exit i =>
      simp only [Exit.inBlock]
      cases hi : Nat.beq i id with
      | true =>
        have := Nat.eq_of_beq_eq_true hi
        subst this
        simp only [if_true]
        simp only [hi, cond_true] at k1
        exact ⟨env1, m1, σ1, F1, k1, k2⟩
      | false =>
        rw [if_neg (Nat.ne_of_beq_eq_false hi)]
        simp only [hi, cond_false] at k1
        exact ⟨env1, m1, σ1, F1, k1, k2⟩
    | _ => exact ⟨env1, m1, σ1, F1, k1, k2⟩⟩
  | .loop c, env, m, Q, h => h
  | .exit id, env, m, Q, h => ⟨fun ro lo a w σ F hN hD he hm => wpIn_exit ⟨env, m, σ, F, h, hN, hD, he, hm, Step.refl σ F w, SArg.refl σ⟩⟩
  | .ret, env, m, Q, h => ⟨fun ro lo a w σ F hN hD he hm => wpIn_ret ⟨env, m, σ, F, h, hN, hD, he, hm, Step.refl σ F w, SArg.refl σ⟩⟩
  | .rangeFunc .., env, m, Q, h => h
  | .scope c, env, m, Q, h => ⟨fun ro lo a w σ F hN hD he hm => by
    refine wpIn_scope_straight (wpIn_mono ((vc_ok hT c env m _ h).run ro lo a w σ F hN hD he hm) ?_)
    rintro e a1 w1 ⟨env1, m1, σ1, F1, k1, k2⟩
    cases e with
    | goto l => exact k1.elim
    | _ => exact ⟨(fun l h => Exit.noConfusion h), env1, m1, σ1, F1, k1, k2⟩⟩
  | .label l, env, m, Q, h => ⟨fun ro lo a w σ F hN hD he hm => wpIn_label ⟨env, m, σ, F, h, hN, hD, he, hm, Step.refl σ F w, SArg.refl σ⟩⟩
  | .goto _, _, _, _, h => by cases h
  | .refuse _, _, _, _, h => by cases h
end sound
end Go.Ab
