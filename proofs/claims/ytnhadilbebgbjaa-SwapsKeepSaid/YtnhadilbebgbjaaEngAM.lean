/-
  Texts put together: EngAH, EngAI, EngAJ, EngAK, EngAL, EngAM.
-/
import Derived.Test.YtnhadilbebgbjaaEngAG
import Derived.Laws.CopyRow
import Derived.Laws.IdiomRangeMap
/-
  The engine, part AH: a statement that makes two variables and fills them, its order left open.
-/
namespace Go.Ab
set_option linter.unusedSimpArgs false
set_option linter.unusedVariables false
section
variable {P : Program} {T : Tab} {m : Mem} {σ : Pls}
theorem Awp.seq {N : Nat} {x y : Code} {env : Env} {Q : Post} (h : Awp P N x env m fun e env m => match e with
    | .normal => Awp P N y env m Q
    | .exit i => Q (.exit i) env m
    | .goto i => Q (.goto i) env m
    | .ret => Q .ret env m
    | .panic ch => Q (.panic ch) env m
    | .outgrown => Q .outgrown env m) : Awp P N (.seq x y) env m Q :=
  ⟨fun ro lo a w σ F hN hD he hm => by
    refine wpIn_seq (wpIn_mono (h.run ro lo a w σ F hN hD he hm) ?_)
    rintro e a1 w1 ⟨env1, m1, σ1, F1, k1, k2, k3, k4, k5, k6, k7⟩
    cases e with
    | normal => exact wpIn_mono ((show Awp P N y env1 m1 Q from k1).run ro lo a1 w1 σ1 F1 k2 k3 k4 k5) fun e a2 w2 h2 => lift_trans k6 k7 h2
    | _ => exact ⟨env1, m1, σ1, F1, k1, k2, k3, k4, k5, k6, k7⟩⟩
/-- A variable that is being made. -/
def HoldB (n0 : Nat) (e : TypeId) (sz : Nat) (cs : List D) (stored : Bool) (F : Nat → Prop) (w : World) (v : Value) (b : Nat) : Prop :=
  v = .pointer (some ⟨b, 0, none⟩) ∧ n0 ≤ b ∧ b < w.heap.size ∧ ¬ F b ∧ ∃ us : List Value, w.heap[b]? = some (.cells us.toArray e (0, 0)) ∧ us.length = sz ∧ (stored = true → ∀ (j : Nat) x u, cs[j]? = some x → us[j]? = some u → Rd w F x u ∧ u.oneCell' = true)
theorem HoldB.mono {n0 : Nat} {e : TypeId} {sz : Nat} {cs : List D} {stored : Bool} {F F' : Nat → Prop} {w w' : World} {v : Value} {b : Nat} (h : HoldB n0 e sz cs stored F w v b) (hsz : w.heap.size ≤ w'.heap.size) (hF : ∀ b, F b → F' b) (hF' : ∀ b, F' b → F b ∨ w.heap.size ≤ b) (hk : ∀ b, F b → w'.heap[b]? = w.heap[b]?) (hb : w'.heap[b]? = w.heap[b]?) : HoldB n0 e sz cs stored F' w' v b := by
  obtain ⟨h1, h2, h3, h4, us, h5, h6, h7⟩ := h
  exact ⟨h1, h2, by omega, fun h => by
    rcases hF' b h with h | h
    · exact h4 h
    · omega, us, by rw [hb]; exact h5, h6, fun hs j x u hx hu => ⟨(h7 hs j x u hx hu).1.mono hF hk, (h7 hs j x u hx hu).2⟩⟩
def edgeTo (o : Oper) (j : Nat) : Prop := ∃ e ∈ o.after, e.on = j ∧ Region.binds .any e = true
theorem edgeTo_of {o : Oper} {j : Nat} (h : edgeOn o.after.toList j = true) : edgeTo o j := by
  unfold edgeOn at h
  obtain ⟨e, he, h⟩ := List.any_eq_true.1 h
  simp only [Bool.and_eq_true] at h
  exact ⟨e, Array.mem_toList_iff.1 he, Nat.eq_of_beq_eq_true h.1, h.2⟩
/-- What a box of the two is, by its number. -/
structure BoxS where
  t : Tmp
  e : TypeId
  tx : Tmp
  jx : Nat
  cs : List D
structure BoxOk (T : Tab) (ops : Array Oper) (n c : Nat) (s : BoxS) : Prop where
  al : ∃ o, ops[n + c]? = some o ∧ o.dst = some s.t ∧ o.guard = none ∧ o.op = .alloc s.e
  st : ∃ o, ops[n + 2 + c]? = some o ∧ o.dst = none ∧ o.guard = none ∧ o.op = .store s.e (.tmp s.t) (.tmp s.tx) ∧ edgeTo o (n + c) ∧ edgeTo o s.jx
  vx : s.jx < n ∧ ∃ o, ops[s.jx]? = some o ∧ o.dst = some s.tx
  ty : ∃ ti, T.at s.e = some ti ∧ ti.size = s.cs.length
  one : ∀ x ∈ s.cs, x.one = true
  ne : ∀ (j : Nat) o, ops[j]? = some o → o.dst = some s.t → j = n + c
/-- The state of one of the two. -/
def BoxR (n0 : Nat) (n c : Nat) (s : BoxS) (listed : Array Bool) (F : Nat → Prop) (w : World) (tmps : Array Value) (b : Nat) : Prop :=
  (listed.getD (n + 2 + c) true = true → listed.getD (n + c) true = true) ∧ (listed.getD (n + c) true = true → HoldB n0 s.e s.cs.length s.cs (listed.getD (n + 2 + c) true) F w (tmps.getD s.t undef) b)
theorem listed_set {listed : Array Bool} {i j : Nat} (h : j ≠ i) : (listed.setIfInBounds i true).getD j true = listed.getD j true := by
  rw [getD_list, Array.toList_setIfInBounds, List.getElem?_set_ne (fun e => h e.symm), ← getD_list]
theorem listed_self {listed : Array Bool} {i : Nat} : (listed.setIfInBounds i true).getD i true = true := by
  rw [getD_list, Array.toList_setIfInBounds]
  by_cases h : i < listed.toList.length
  · rw [List.getElem?_set_self h]; rfl
  · rw [List.getElem?_eq_none (by simpa using h)]; rfl
theorem put_ne {a : Act} {d : Option Tmp} {v : Value} {t : Tmp} (h : d ≠ some t) : (a.put d v).tmps.getD t undef = a.tmps.getD t undef := by
  cases d with
  | none => rfl
  | some d =>
    simp only [Act.put, Array.getD_eq_getD_getElem?]
    rw [Array.getElem?_setIfInBounds_ne (fun e => h (by rw [e]))]
theorem put_eq {a : Act} {v : Value} {t : Tmp} (h : t < a.tmps.size) : (a.put (some t) v).tmps.getD t undef = v := by
  simp only [Act.put, Array.getD_eq_getD_getElem?]
  rw [Array.getElem?_setIfInBounds_self_of_lt h]
  rfl
/-- One of the two is made. -/
theorem run_alloc_box (hT : TabOk P T) {e : TypeId} {ti : TI} (hti : T.at e = some ti) (w : World) : ∃ us : List Value, us.length = ti.size ∧ ∀ (a : Act) (o : Oper), o.op = .alloc e → (execOp a.eval o).run P w = .ok (.value (.pointer (some ⟨w.heap.size, 0, none⟩))) (w.alloc (.cells us.toArray e)) := by
  obtain ⟨z, hz, _, hzn⟩ := run_zeroValue (hT _ _ hti) w
  exact ⟨z.cells.toList, by simpa using hzn, fun a o hop => by simp [execOp, hop, Instr.alloc, newVar, newRow, hz]⟩
/-- One of the two is filled. -/
theorem run_store_box (hT : TabOk P T) {e : TypeId} {ti : TI} (hti : T.at e = some ti) {cs : List D} (hsz : ti.size = cs.length) (hone : ∀ x ∈ cs, x.one = true) {F : Nat → Prop} {w : World} {V : Value} (hv : Rd w F (.agg cs) V) {b : Nat} {us : List Value} (hb : w.heap[b]? = some (.cells us.toArray e (0, 0))) (hl : us.length = cs.length) :
    ∃ vs : List Value, vs.length = cs.length ∧ (∀ (j : Nat) x u, cs[j]? = some x → vs[j]? = some u → Rd w F x u ∧ u.oneCell' = true) ∧ (Instr.storeAt e (.pointer (some ⟨b, 0, none⟩)) V).run P w = .ok () (w.setRow b vs.toArray) := by
  cases hv with
  | @agg _ vs hvl hvr =>
    have h1 : ∀ (j : Nat) x u, cs[j]? = some x → vs[j]? = some u → Rd w F x u ∧ u.oneCell' = true := fun j x u hx hu => ⟨hvr j x u hx hu, (hvr j x u hx hu).one_ok (hone x (List.mem_of_getElem? hx))⟩
    have hone' : ∀ v ∈ vs, v.oneCell' = true := fun v hvm => by
      obtain ⟨j, hj, rfl⟩ := List.getElem_of_mem hvm
      exact (h1 j _ _ (List.getElem?_eq_getElem (by omega)) (List.getElem?_eq_getElem hj)).2
    refine ⟨vs, hvl, h1, ?_⟩
    have := run_storeCells_at P b 0 e vs 0 us.toArray w hb (by simp; omega) hone'
    simp only [Nat.add_zero, Nat.zero_add] at this
    have e1 : (us.toArray.toList.take 0 ++ vs ++ us.toArray.toList.drop vs.length) = vs := by
      rw [List.take_zero, List.nil_append, List.drop_of_length_le (by simp; omega), List.append_nil]
    rw [e1] at this
    have hcells : (Value.agg vs.toArray).cells = vs.toArray := rfl
    have hts : ti.size = vs.length := by omega
    simp [Instr.storeAt, Instr.sureAddr, storeVar, hcells, run_sizeOf (hT _ _ hti), hts, this]
def Box2 (n0 n c c' : Nat) (s s' : BoxS) (listed : Array Bool) (F : Nat → Prop) (w : World) (tmps : Array Value) : Prop :=
  ∃ b b', b ≠ b' ∧ BoxR n0 n c s listed F w tmps b ∧ BoxR n0 n c' s' listed F w tmps b'
theorem Box2.swap {n0 n c c' : Nat} {s s' : BoxS} {listed : Array Bool} {F : Nat → Prop} {w : World} {tmps : Array Value} (h : Box2 n0 n c c' s s' listed F w tmps) : Box2 n0 n c' c s' s listed F w tmps := by
  obtain ⟨b, b', h1, h2, h3⟩ := h
  exact ⟨b', b, fun e => h1 e.symm, h3, h2⟩
variable {ro : Option Nat}
theorem two_step (hT : TabOk P T) {N : Nat} {ops : Array Oper} {n c c' : Nat} {s s' : BoxS} (hcc : c ≠ c') (hc : c ≤ 1) (hc' : c' ≤ 1) (hb : BoxOk T ops n c s) (hb' : BoxOk T ops n c' s') (hne : s.t ≠ s'.t) (htN : s.t < N) {F0 : Nat → Prop} {w0 : World} {As : Nat → AV} {env : Env}
    {listed : Array Bool} {a' : Act} {w' : World} {F' : Nat → Prop} {i : Nat} {o : Oper} (hi : i = n + c ∨ i = n + 2 + c) (ho : ops[i]? = some o) (hl : listed.getD i true = false) (hen : ∀ e ∈ o.after, Region.binds .any e = true → listed.getD e.on true = true) (hN : a'.tmps.size = N) (hm : MemOk m σ F' w')
    (hs : Slots ops n env σ As listed F' w' a'.tmps) (hA : As s.jx = .d (.agg s.cs)) (hg : Grew F0 w0 F' w') (hown : ∀ b, Owned σ b → b < w0.heap.size) (hR : Box2 w0.heap.size n c c' s s' listed F' w' a'.tmps) {next : Act → World → Prop} {Q : Exit → Act → World → Prop}
    (hnext : ∀ v w2, (∀ b, F' b → w2.heap[b]? = w'.heap[b]?) → MemOk m σ F' w2 → Grew F0 w0 F' w2 → Box2 w0.heap.size n c c' s s' (listed.setIfInBounds i true) F' w2 (a'.put o.dst v).tmps → next (a'.put o.dst v) w2) : wpOpIn (Fen ro) 0 P ops Q i next a' w' := by
  obtain ⟨ti, hti, hsz⟩ := hb.ty
  obtain ⟨b, b', hbb, hR1, hR2⟩ := hR
  rcases hi with rfl | rfl
  · obtain ⟨o', ho', hdst, hgd, hop⟩ := hb.al
    rw [ho] at ho'
    cases ho'
    have hw : Region.wanted o (yielded ops a'.tmps) = true := by simp [Region.wanted, hgd]
    unfold wpOpIn
    simp only [ho, hw, if_true]
    obtain ⟨us, hus, hrun⟩ := run_alloc_box hT hti w'
    refine wpIn_at (fun d h => by rw [hop] at h; cases h) ?_
    rw [hrun a' o hop]
    simp only [Oper.uponIn]
    have hkeep : ∀ x, x < w'.heap.size → (w'.alloc (.cells us.toArray s.e)).heap[x]? = w'.heap[x]? := fun x hx => heap_alloc_old w' _ hx
    have hsize : (w'.alloc (.cells us.toArray s.e)).heap.size = w'.heap.size + 1 := size_alloc w' _
    have hgr : Grew F' w' F' (w'.alloc (.cells us.toArray s.e)) := ⟨rfl, rfl, rfl, Nat.le_refl _, by omega, fun x hx => hkeep x hx, fun _ h => h, fun _ h => .inl h, fun x hx => by have := hm.fl x hx; omega⟩
    refine hnext _ _ (fun x hx => hkeep x (hm.fl x hx)) (hgr.mem hm) (hg.trans hgr) ⟨w'.heap.size, if listed.getD (n + c') true = true then b' else w'.heap.size + 1, ?_, ⟨fun h => listed_self, fun _ => ?_⟩, ⟨fun h => ?_, fun h => ?_⟩⟩
    · split
      · rename_i hl'
        obtain ⟨_, _, hlt, _⟩ := hR2.2 hl'
        omega
      · omega
    · have hns : listed.getD (n + 2 + c) true = false := by
        cases h : listed.getD (n + 2 + c) true with
        | false => rfl
        | true => rw [hR1.1 h] at hl; cases hl
      rw [listed_set (by omega), hns, hdst, put_eq (by rw [hN]; exact htN)]
      exact ⟨rfl, hg.size, by omega, fun h => by have := hm.fl _ h; omega, us, heap_alloc_new w' _, by omega, fun h => by cases h⟩
    · rw [listed_set (by omega)] at h ⊢
      exact hR2.1 h
    · rw [listed_set (by omega)] at h
      rw [if_pos h, listed_set (by omega), hdst, put_ne (fun e => hne (by injection e))]
      have hh := hR2.2 h
      exact hh.mono (by omega) (fun _ h => h) (fun _ h => .inl h) (fun x hx => hkeep x (hm.fl x hx)) (hkeep _ hh.2.2.1)
  · obtain ⟨o', ho', hdst, hgd, hop, ⟨e1, he1, heq1, hbi1⟩, ⟨e2, he2, heq2, hbi2⟩⟩ := hb.st
    rw [ho] at ho'
    cases ho'
    have hw : Region.wanted o (yielded ops a'.tmps) = true := by simp [Region.wanted, hgd]
    have hlc : listed.getD (n + c) true = true := by have := hen e1 he1 hbi1; rwa [heq1] at this
    have hlj : listed.getD s.jx true = true := by have := hen e2 he2 hbi2; rwa [heq2] at this
    obtain ⟨hjn, oj, hoj, hdj⟩ := hb.vx
    have hval := (hs s.tx).1 s.jx oj hjn hoj hdj hlj
    rw [hA] at hval
    obtain ⟨V, hV⟩ : ∃ V, a'.tmps.getD s.tx undef = V := ⟨_, rfl⟩
    rw [hV] at hval
    have hval : Rd w' F' (.agg s.cs) V := by cases hval with | d h => exact h
    obtain ⟨hv, hn0, hlt, hnF, us, hheap, hlen, hst⟩ := hR1.2 hlc
    unfold wpOpIn
    simp only [ho, hw, if_true]
    refine wpIn_at (fun d h => by rw [hop] at h; cases h) ?_
    obtain ⟨vs, hvl, hvr, hrun⟩ := run_store_box hT hti hsz hb.one hval hheap hlen
    have hex : (execOp a'.eval o).run P w' = .ok .skip (w'.setRow b vs.toArray) := by
      have e3 : a'.eval (.tmp s.t) = .pointer (some ⟨b, 0, none⟩) := hv
      have e4 : a'.eval (.tmp s.tx) = V := hV
      simp [execOp, hop, e3, e4, hrun]
    rw [hex]
    simp only [Oper.uponIn]
    have hoth : ∀ x, x ≠ b → (w'.setRow b vs.toArray).heap[x]? = w'.heap[x]? := fun x hx => setRow_other w' b x _ hx
    have hsize : (w'.setRow b vs.toArray).heap.size = w'.heap.size := size_setRow _ _ _
    have hFk : ∀ x, F' x → (w'.setRow b vs.toArray).heap[x]? = w'.heap[x]? := fun x hx => hoth x (fun e => hnF (e ▸ hx))
    have hgr : Grew F0 w0 F' (w'.setRow b vs.toArray) := ⟨hg.os, hg.tape, hg.output, hg.drawn, by rw [hsize]; exact hg.size, fun x hx => (hoth x (by omega)).trans (hg.keep x hx), hg.fro, hg.fro', fun x hx => by rw [hsize]; exact hg.lt x hx⟩
    refine hnext _ _ hFk (hm.world (by rw [hsize]; exact Nat.le_refl _) fun x hx => ?_) hgr ⟨b, b', hbb, ⟨fun _ => by rw [listed_set (by omega)]; exact hlc, fun _ => ?_⟩, ⟨fun h => ?_, fun h => ?_⟩⟩
    · rcases hx with hx | ⟨r, p, t, h1, h2⟩
      · exact hFk x hx
      · exact hoth x (fun e => by have := hown x ⟨r, p, t, h1, h2⟩; omega)
    · rw [hdst, put_ne (fun e => by cases e)]
      exact ⟨hv, hn0, by rw [hsize]; exact hlt, hnF, vs, setRow_heap w' b us.toArray _ s.e (0, 0) hheap, hvl, fun _ j x u hx hu => ⟨(hvr j x u hx hu).1.mono (fun _ h => h) hFk, (hvr j x u hx hu).2⟩⟩
    · rw [listed_set (by omega)] at h ⊢
      exact hR2.1 h
    · rw [listed_set (by omega)] at h
      rw [listed_set (by omega), hdst, put_ne (fun e => by cases e)]
      have hh := hR2.2 h
      exact hh.mono (by rw [hsize]; exact Nat.le_refl _) (fun _ h => h) (fun _ h => .inl h) hFk (hoth _ (fun e => hbb e.symm))
/-- A statement that makes two variables and fills them. -/
theorem Awp.two (hT : TabOk P T) {id N : Nat} {ops : Array Oper} {env : Env} {Q : Post} (h1 : P.follows .mixedOrders = true) (h2 : okR ops.toList = true) (hd : dstsIn N ops.toList = true) (pre suf : List Oper) (hsp : ops.toList = pre ++ suf) (hsuf : suf.length = 4) (s0 s1 : BoxS)
    (b0 : BoxOk T ops pre.length 0 s0) (b1 : BoxOk T ops pre.length 1 s1) (hne : s0.t ≠ s1.t) (h0N : s0.t < N) (h1N : s1.t < N)
    (h : vcR P T ops.toList m pre env fun E => (get E s0.tx = .d (.agg s0.cs) ∧ get E s1.tx = .d (.agg s1.cs)) ∧ Ev (Q .normal ((s0.t, .d (.pt s0.cs 0)) :: (s1.t, .d (.pt s1.cs 0)) :: E) m)) : Awp P N (.region id ops true) env m Q :=
  ⟨fun ro lo a w σ F hN hD he hm => by
    have hown : ∀ b, Owned σ b → b < w.heap.size := fun b ⟨r, p, t, e1, e2⟩ => (hm.nf r p b t e1 e2).2
    have hsize : ops.size = pre.length + 4 := by
      have : ops.toList.length = ops.size := Array.length_toList
      rw [← this, hsp, List.length_append, hsuf]
    refine drawn_tail h1 h2 hT hm hd hsp h hN he (fun listed a' w' F' => Grew F w F' w' ∧ Box2 w.heap.size pre.length 0 1 s0 s1 listed F' w' a'.tmps) ?_ ?_ ?_ ?_
    · have hrep : ∀ j, j < ops.size → (Array.replicate ops.size false).getD j true = false := fun j hj => by
        rw [getD_list, Array.toList_replicate, List.getElem?_replicate, if_pos hj]
        rfl
      refine ⟨Grew.drew hm.fl, 0, 1, by omega, ⟨fun h => ?_, fun h => ?_⟩, ⟨fun h => ?_, fun h => ?_⟩⟩
      all_goals (rw [hrep _ (by omega)] at h; cases h)
    · rintro listed a' w' F' F2 w2 v i o ⟨hg, b, b', hbb, hR1, hR2⟩ hg2 hi ho hls hN'
      have key : ∀ (c : Nat) (s : BoxS) (b : Nat), BoxOk T ops pre.length c s → BoxR w.heap.size pre.length c s listed F' w' a'.tmps b → BoxR w.heap.size pre.length c s (listed.setIfInBounds i true) F2 w2 (a'.put o.dst v).tmps b := by
        intro c s b hb hR
        refine ⟨fun h => ?_, fun h => ?_⟩
        · rw [listed_set (by omega)] at h ⊢
          exact hR.1 h
        · rw [listed_set (by omega)] at h
          rw [listed_set (by omega), put_ne (fun e => by have := hb.ne i o ho e; omega)]
          have hh := hR.2 h
          exact hh.mono hg2.size hg2.fro hg2.fro' (fun x hx => hg2.keep x (hg.lt x hx)) (hg2.keep _ hh.2.2.1)
      exact ⟨hg.trans hg2, b, b', hbb, key 0 s0 b b0 hR1, key 1 s1 b' b1 hR2⟩
    · rintro As listed a' w' F' i o hE hK hi ho hl hen hls hN' hD' hmw hs ⟨hg, hR⟩ next hnext
      have hiN : i < ops.size := (Array.getElem?_eq_some_iff.1 ho).1
      have hA0 : As s0.jx = .d (.agg s0.cs) := by
        obtain ⟨hj, oj, hoj, hdj⟩ := b0.vx
        rw [← hE s0.jx oj s0.tx hoj hdj hj]
        exact hK.1.1
      have hA1 : As s1.jx = .d (.agg s1.cs) := by
        obtain ⟨hj, oj, hoj, hdj⟩ := b1.vx
        rw [← hE s1.jx oj s1.tx hoj hdj hj]
        exact hK.1.2
      have mono : ∀ w2 : World, (∀ b, F' b → w2.heap[b]? = w'.heap[b]?) → ∀ A u, Vc w' F' σ A u → Vc w2 F' σ A u := fun w2 hk A u hv => hv.mono (fun _ h => h) hk (SLe.refl σ)
      rcases show i = pre.length + 0 ∨ i = pre.length + 2 + 0 ∨ i = pre.length + 1 ∨ i = pre.length + 2 + 1 by omega with hi | hi | hi | hi
      · exact two_step hT (by decide) (by decide) (by decide) b0 b1 hne h0N (.inl hi) ho hl hen hN' hmw hs hA0 hg hown hR fun v w2 k1 k2 k3 k4 => hnext v w2 F' k2 (mono w2 k1) ⟨k3, k4⟩
      · exact two_step hT (by decide) (by decide) (by decide) b0 b1 hne h0N (.inr hi) ho hl hen hN' hmw hs hA0 hg hown hR fun v w2 k1 k2 k3 k4 => hnext v w2 F' k2 (mono w2 k1) ⟨k3, k4⟩
      · exact two_step hT (by decide) (by decide) (by decide) b1 b0 (fun e => hne e.symm) h1N (.inl hi) ho hl hen hN' hmw hs hA1 hg hown hR.swap fun v w2 k1 k2 k3 k4 => hnext v w2 F' k2 (mono w2 k1) ⟨k3, k4.swap⟩
      · exact two_step hT (by decide) (by decide) (by decide) b1 b0 (fun e => hne e.symm) h1N (.inr hi) ho hl hen hN' hmw hs hA1 hg hown hR.swap fun v w2 k1 k2 k3 k4 => hnext v w2 F' k2 (mono w2 k1) ⟨k3, k4.swap⟩
    · rintro As a' w' F' ⟨_, hK⟩ hE hN' hD' hmw hs listed hall ⟨hg, b, b', hbb, hR1, hR2⟩
      obtain ⟨hv0, hn0, hlt0, hnF0, us0, hh0, hl0, hr0⟩ := hR1.2 (hall _ (by omega))
      obtain ⟨hv1, hn1, hlt1, hnF1, us1, hh1, hl1, hr1⟩ := hR2.2 (hall _ (by omega))
      rw [hall _ (by omega)] at hr0 hr1
      let F2 : Nat → Prop := fun x => F' x ∨ x = b ∨ x = b'
      have hg2 : Grew F w F2 w' := ⟨hg.os, hg.tape, hg.output, hg.drawn, hg.size, hg.keep, fun x hx => .inl (hg.fro x hx), fun x hx => by
        rcases hx with hx | rfl | rfl
        · exact hg.fro' x hx
        · exact .inr hn0
        · exact .inr hn1, fun x hx => by
        rcases hx with hx | rfl | rfl
        · exact hg.lt x hx
        · exact hlt0
        · exact hlt1⟩
      have upF : ∀ {x u}, Rd w' F' x u → Rd w' F2 x u := fun h => h.mono (fun _ h => .inl h) (fun _ _ => rfl)
      have pt : ∀ (b : Nat) (e : TypeId) (us : List Value) (cs : List D), F2 b → w'.heap[b]? = some (.cells us.toArray e (0, 0)) → us.length = cs.length → (∀ (j : Nat) x u, cs[j]? = some x → us[j]? = some u → Rd w' F' x u ∧ u.oneCell' = true) → Rd w' F2 (.pt cs 0) (.pointer (some ⟨b, 0, none⟩)) := by
        intro b e us cs hF hh hl hr
        have := Rd.pt (w := w') (F := F2) (cs := cs) (off := 0) ⟨b, 0, none⟩ (fun j => us.getD j undef) hF
          (fun j hj => by
            have hu : us[j]? = some (us[j]'(by omega)) := List.getElem?_eq_getElem (by omega)
            rw [add_at, Nat.zero_add, cell_of_row w' b j us.toArray e (0, 0) hh]
            simp only [List.getD_eq_getElem?_getD, hu, Option.getD_some]
            exact ⟨by simp, (hr j _ _ (List.getElem?_eq_getElem hj) hu).2⟩)
          (fun j x hx => by
            have hj := (List.getElem?_eq_some_iff.1 hx).1
            have hu : us[j]? = some (us[j]'(by omega)) := List.getElem?_eq_getElem (by omega)
            simp only [List.getD_eq_getElem?_getD, hu, Option.getD_some]
            exact upF (hr j x _ hx hu).1)
        rwa [add_at] at this
      refine ⟨_, m, σ, F2, hK.o, hN', by rw [hD']; exact hD.step (hg2.step σ), fun t => ?_, hg2.mem hm, hg2.step σ, SArg.refl σ⟩
      simp only [get]
      cases h0 : Nat.beq s0.t t with
      | true =>
        have := Nat.eq_of_beq_eq_true h0
        subst this
        simp only [cond_true]
        rw [hv0]
        exact .d (pt b _ us0 _ (.inr (.inl rfl)) hh0 hl0 (hr0 rfl))
      | false =>
        simp only [cond_false]
        cases h1 : Nat.beq s1.t t with
        | true =>
          have := Nat.eq_of_beq_eq_true h1
          subst this
          simp only [cond_true]
          rw [hv1]
          exact .d (pt b' _ us1 _ (.inr (.inr rfl)) hh1 hl1 (hr1 rfl))
        | false =>
          simp only [cond_false]
          refine (hs t fun j o hj ho hdo => ?_).mono (fun _ h => .inl h) (fun _ _ => rfl) (SLe.refl σ)
          have hjN : j < ops.size := (Array.getElem?_eq_some_iff.1 ho).1
          rcases show j = pre.length + 0 ∨ j = pre.length + 1 ∨ j = pre.length + 2 + 0 ∨ j = pre.length + 2 + 1 by omega with hj | hj | hj | hj
          · obtain ⟨o', ho', hdst, _⟩ := b0.al
            rw [← hj, ho] at ho'
            cases ho'
            rw [hdst] at hdo
            injection hdo with hdo
            exact Nat.ne_of_beq_eq_false h0 hdo
          · obtain ⟨o', ho', hdst, _⟩ := b1.al
            rw [← hj, ho] at ho'
            cases ho'
            rw [hdst] at hdo
            injection hdo with hdo
            exact Nat.ne_of_beq_eq_false h1 hdo
          · obtain ⟨o', ho', hdst, _⟩ := b0.st
            rw [← hj, ho] at ho'
            cases ho'
            rw [hdst] at hdo
            cases hdo
          · obtain ⟨o', ho', hdst, _⟩ := b1.st
            rw [← hj, ho] at ho'
            cases ho'
            rw [hdst] at hdo
            cases hdo⟩
/-! ### two maps, an element of each set in one statement -/
/-- What lies in maps is not looked at. -/
def Weak (m0 m1 : Mem) : Prop := ∀ r, m0.at r = m1.at r ∨ (m0.at r = some (some .opq) ∧ ∃ B, m1.at r = some (some B))
theorem Weak.ok {m0 m1 : Mem} (h : Weak m0 m1) {F : Nat → Prop} {w : World} (hm : MemOk m1 σ F w) : MemOk m0 σ F w where
  dom r := by
    rcases h r with h | ⟨h1, _, h2⟩
    · rw [h]; exact hm.dom r
    · rw [h1]
      have := hm.dom r
      rw [h2] at this
      exact ⟨fun e => (by have := this.1 e; cases this), fun e => by cases e⟩
  lv r q hq := by
    rcases h r with h | ⟨h1, B0, h2⟩
    · rw [h]; exact hm.lv r q hq
    · refine ⟨fun e => ?_, fun pl e => ?_⟩
      · have := (hm.lv r q hq).1 e
        rw [h2] at this
        cases this
      · obtain ⟨B, hB, hok⟩ := (hm.lv r q hq).2 pl e
        rw [h2] at hB
        injection hB with hB
        injection hB with hB
        subst hB
        exact ⟨.opq, h1, True.intro⟩
  inj := hm.inj
  nf := hm.nf
  fl := hm.fl
  gl := hm.gl
theorem Weak.put {m0 m1 : Mem} (h : Weak m0 m1) {r : Ref} (h0 : m0.at r = some (some .opq)) {sh : Ksh} {has : List Int → Bool} {val : List Int → AV} {b : Option Blk} (h1 : m1.at r = some b) : Weak m0 (m1.put r (some (.map sh has val))) := fun r' => by
  by_cases e : r' = r
  · subst e
    exact .inr ⟨h0, _, put_self _ h1⟩
  · rw [put_other _ e]
    exact h r'
structure MapS where
  t : TypeId
  x : Tmp
  k : Tmp
  v : Bool
  jx : Nat
  jk : Nat
  r : Ref
  K : AV
structure MapOp (ops : Array Oper) (n i : Nat) (s : MapS) : Prop where
  op : ∃ o, ops[i]? = some o ∧ o.dst = none ∧ o.guard = none ∧ o.op = .mapUpdate s.t (.tmp s.x) (.tmp s.k) (.const (.bool s.v)) ∧ edgeTo o s.jx ∧ edgeTo o s.jk
  vx : s.jx < n ∧ ∃ o, ops[s.jx]? = some o ∧ o.dst = some s.x
  vk : s.jk < n ∧ ∃ o, ops[s.jk]? = some o ∧ o.dst = some s.k
theorem map_step (hT : TabOk P T) {ops : Array Oper} {n i : Nat} {s : MapS} (hs : MapOp ops n i s) {m1 m2 : Mem} (hev : evMapUpdate T m1 s.t (.mp s.r) s.K (.d (.bool s.v)) = some m2) {As : Nat → AV} {env : Env} {listed : Array Bool} {a' : Act} {w' : World} {F' : Nat → Prop} {o : Oper} (ho : ops[i]? = some o)
    (hen : ∀ e ∈ o.after, Region.binds .any e = true → listed.getD e.on true = true) (hm : MemOk m1 σ F' w') (hsl : Slots ops n env σ As listed F' w' a'.tmps) (hx : As s.jx = .mp s.r) (hk : As s.jk = s.K) {next : Act → World → Prop} {Q : Exit → Act → World → Prop}
    (hnext : ∀ v w2, MemOk m2 σ F' w2 → Step σ F' w' σ F' w2 → next (a'.put o.dst v) w2) : wpOpIn (Fen ro) 0 P ops Q i next a' w' := by
  obtain ⟨o', ho', hdst, hgd, hop, ⟨e1, he1, heq1, hbi1⟩, ⟨e2, he2, heq2, hbi2⟩⟩ := hs.op
  rw [ho] at ho'
  cases ho'
  have hw : Region.wanted o (yielded ops a'.tmps) = true := by simp [Region.wanted, hgd]
  have hlx : listed.getD s.jx true = true := by have := hen e1 he1 hbi1; rwa [heq1] at this
  have hlk : listed.getD s.jk true = true := by have := hen e2 he2 hbi2; rwa [heq2] at this
  obtain ⟨hjx, ox, hox, hdx⟩ := hs.vx
  obtain ⟨hjk, ok, hok, hdk⟩ := hs.vk
  have hvx := (hsl s.x).1 s.jx ox hjx hox hdx hlx
  have hvk := (hsl s.k).1 s.jk ok hjk hok hdk hlk
  rw [hx] at hvx
  rw [hk] at hvk
  obtain ⟨w2, hrun, h1, h2⟩ := evMapUpdate_same (P := P) hT hm hvx hvk (Z := .bool s.v) (.d .bool) hev
  unfold wpOpIn
  simp only [ho, hw, if_true]
  refine wpIn_at (fun d h => by rw [hop] at h; cases h) ?_
  have hex : (execOp a'.eval o).run P w' = .ok .skip w2 := by
    have e3 : a'.eval (.tmp s.x) = a'.tmps.getD s.x undef := rfl
    have e4 : a'.eval (.tmp s.k) = a'.tmps.getD s.k undef := rfl
    have e5 : a'.eval (.const (.bool s.v)) = .bool s.v := rfl
    generalize a'.tmps.getD s.x undef = X at hrun e3
    generalize a'.tmps.getD s.k undef = Y at hrun e4
    simp [execOp, hop, e3, e4, e5, hrun]
  rw [hex]
  simp only [Oper.uponIn]
  exact hnext _ w2 h1 h2
theorem Awp.maps (hT : TabOk P T) {id N : Nat} {ops : Array Oper} {env : Env} {Q : Post} (h1 : P.follows .mixedOrders = true) (h2 : okR ops.toList = true) (hd : dstsIn N ops.toList = true) (pre suf : List Oper) (hsp : ops.toList = pre ++ suf) (hsuf : suf.length = 2) (s0 s1 : MapS)
    (b0 : MapOp ops pre.length pre.length s0) (b1 : MapOp ops pre.length (pre.length + 1) s1) (hch : ∃ o, ops[pre.length + 1]? = some o ∧ edgeTo o pre.length) {m1 m2 : Mem} (e1 : evMapUpdate T m s0.t (.mp s0.r) s0.K (.d (.bool s0.v)) = some m1) (e2 : evMapUpdate T m1 s1.t (.mp s1.r) s1.K (.d (.bool s1.v)) = some m2) (hr : s0.r ≠ s1.r)
    (h : vcR P T ops.toList ((m.put s0.r (some .opq)).put s1.r (some .opq)) pre env fun E => (get E s0.x = .mp s0.r ∧ get E s0.k = s0.K ∧ get E s1.x = .mp s1.r ∧ get E s1.k = s1.K) ∧ Ev (Q .normal E m2)) : Awp P N (.region id ops true) env m Q :=
  ⟨fun ro lo a w σ F hN hD he hm => by
    have hsize : ops.size = pre.length + 2 := by
      have : ops.toList.length = ops.size := Array.length_toList
      rw [← this, hsp, List.length_append, hsuf]
    obtain ⟨⟨sa, ha, va, g0⟩, sa', ha', va', hm1⟩ := evMapUpdate_is e1
    obtain ⟨⟨sb, hb, vb, g1⟩, sb', hb', vb', hm2⟩ := evMapUpdate_is e2
    have a0 := Mem.get_at g0
    have a1' := Mem.get_at g1
    have a1 : m.at s1.r = some (some (.map sb hb vb)) := by rw [hm1, put_other _ (fun e => hr e.symm)] at a1'; exact a1'
    have o1 : ((m.put s0.r (some .opq)).put s1.r (some .opq)).at s1.r = some (some .opq) := put_self _ (by rw [put_other _ (fun e => hr e.symm)]; exact a1)
    have o0 : ((m.put s0.r (some .opq)).put s1.r (some .opq)).at s0.r = some (some .opq) := by rw [put_other _ hr]; exact put_self _ a0
    have w0 : Weak ((m.put s0.r (some .opq)).put s1.r (some .opq)) m := fun r => by
      by_cases e : r = s1.r
      · subst e; exact .inr ⟨o1, _, a1⟩
      · by_cases e' : r = s0.r
        · subst e'; exact .inr ⟨o0, _, a0⟩
        · exact .inl (by rw [put_other _ e, put_other _ e'])
    have w1 : Weak ((m.put s0.r (some .opq)).put s1.r (some .opq)) m1 := by rw [hm1]; exact w0.put o0 a0
    have w2 : Weak ((m.put s0.r (some .opq)).put s1.r (some .opq)) m2 := by rw [hm2]; exact w1.put o1 a1'
    generalize ((m.put s0.r (some .opq)).put s1.r (some .opq)) = m0 at h w0 w1 w2
    obtain ⟨oc, hoc, ec, hec, heon, heb⟩ := hch
    refine drawn_tail h1 h2 hT (w0.ok hm) hd hsp h hN he (fun listed a' w' F' => (listed.getD (pre.length + 1) true = true → listed.getD pre.length true = true) ∧ MemOk (bif listed.getD (pre.length + 1) true then m2 else bif listed.getD pre.length true then m1 else m) σ F' w' ∧ Step σ F w σ F' w') ?_ ?_ ?_ ?_
    · have hrep : ∀ j, j < ops.size → (Array.replicate ops.size false).getD j true = false := fun j hj => by
        rw [getD_list, Array.toList_replicate, List.getElem?_replicate, if_pos hj]
        rfl
      rw [hrep _ (by omega), hrep _ (by omega)]
      exact ⟨fun h => (by cases h), (Grew.drew hm.fl).mem hm, (Grew.drew hm.fl).step σ⟩
    · rintro listed a' w' F' F2 w2 v i o ⟨hc, hmw, hst⟩ hg hi ho hls hN'
      rw [listed_set (by omega), listed_set (by omega)]
      exact ⟨hc, hg.mem hmw, hst.trans (hg.step σ)⟩
    · rintro As listed a' w' F' i o hE hK hi ho hl hen hls hN' hD' hmw hs ⟨hc, hmm, hst⟩ next hnext
      have hiN : i < ops.size := (Array.getElem?_eq_some_iff.1 ho).1
      obtain ⟨⟨k1, k2, k3, k4⟩, _⟩ := hK
      have ax : ∀ (s : MapS) (i : Nat), MapOp ops pre.length i s → get (envsOf env ops.toList As pre.length) s.x = As s.jx ∧ get (envsOf env ops.toList As pre.length) s.k = As s.jk := fun s i hs => by
        obtain ⟨hjx, ox, hox, hdx⟩ := hs.vx
        obtain ⟨hjk, ok, hok, hdk⟩ := hs.vk
        exact ⟨hE _ _ _ hox hdx hjx, hE _ _ _ hok hdk hjk⟩
      obtain ⟨x0, y0⟩ := ax s0 _ b0
      obtain ⟨x1, y1⟩ := ax s1 _ b1
      have mono : ∀ (F2 : Nat → Prop) w2, Step σ F' w' σ F' w2 → ∀ A u, Vc w' F' σ A u → Vc w2 F' σ A u := fun F2 w2 hst A u hv => hv.mono (fun _ h => h) (fun b hb => hst.keep b (hmw.fl b hb) (fun ⟨r, pl, t, e1, e2⟩ => (hmw.nf r pl b t e1 e2).1 hb)) (SLe.refl σ)
      rcases show i = pre.length ∨ i = pre.length + 1 by omega with hi | hi
      · subst hi
        have hn1 : listed.getD (pre.length + 1) true = false := by
          cases h : listed.getD (pre.length + 1) true with
          | false => rfl
          | true => rw [hc h] at hl; cases hl
        rw [hn1, hl] at hmm
        refine map_step hT b0 e1 ho hen hmm hs (x0.symm.trans k1) (y0.symm.trans k2) fun v w2 q1 q2 => hnext v w2 F' (w1.ok q1) (mono F' w2 q2) ⟨fun h => listed_self, ?_, hst.trans q2⟩
        rw [listed_set (by omega), hn1, listed_self]
        exact q1
      · subst hi
        rw [hoc] at ho
        cases ho
        have hl0 : listed.getD pre.length true = true := by have := hen ec hec heb; rwa [heon] at this
        rw [hl, hl0] at hmm
        refine map_step hT b1 e2 hoc hen hmm hs (x1.symm.trans k3) (y1.symm.trans k4) fun v w3 q1 q2 => hnext v w3 F' (w2.ok q1) (mono F' w3 q2) ⟨fun h => by rw [listed_set (by omega)]; exact hl0, ?_, hst.trans q2⟩
        rw [listed_self]
        exact q1
    · rintro As a' w' F' ⟨_, hK⟩ hE hN' hD' hmw hs listed hall ⟨_, hmm, hst⟩
      rw [hall _ (by omega)] at hmm
      refine ⟨_, m2, σ, F', hK.o, hN', by rw [hD']; exact hD.step hst, fun t => hs t fun j o hj ho hdo => ?_, hmm, hst, SArg.refl σ⟩
      have hjN : j < ops.size := (Array.getElem?_eq_some_iff.1 ho).1
      rcases show j = pre.length ∨ j = pre.length + 1 by omega with hj | hj
      · subst hj
        obtain ⟨o', ho', hdst, _⟩ := b0.op
        rw [ho] at ho'
        cases ho'
        rw [hdst] at hdo
        cases hdo
      · subst hj
        obtain ⟨o', ho', hdst, _⟩ := b1.op
        rw [ho] at ho'
        cases ho'
        rw [hdst] at hdo
        cases hdo⟩
/-! ### the rules at literal statements -/
def allOne : List D → Bool
  | [] => true
  | x :: r => x.one && allOne r
theorem allOne_ok : ∀ {cs : List D}, allOne cs = true → ∀ x ∈ cs, x.one = true
  | [], _, x, hx => by simp at hx
  | y :: r, h, x, hx => by
    simp only [allOne, Bool.and_eq_true] at h
    rcases List.mem_cons.1 hx with rfl | hx
    · exact h.1
    · exact allOne_ok h.2 x hx
theorem BoxOk.of {ops : Array Oper} {n c : Nat} {s : BoxS} {oa os ox : Oper} {ti : TI} (a1 : ops[n + c]? = some oa) (a2 : oa.dst = some s.t ∧ oa.guard = none ∧ oa.op = .alloc s.e) (s1 : ops[n + 2 + c]? = some os) (s2 : os.dst = none ∧ os.guard = none ∧ os.op = .store s.e (.tmp s.t) (.tmp s.tx))
    (s3 : edgeOn os.after.toList (n + c) = true) (s4 : edgeOn os.after.toList s.jx = true) (v1 : Nat.blt s.jx n = true) (v2 : ops[s.jx]? = some ox) (v3 : ox.dst = some s.tx) (t1 : T.at s.e = some ti) (t2 : ti.size = s.cs.length) (h1 : allOne s.cs = true) (h2 : dstOnce s.t (n + c) 0 ops.toList = true) : BoxOk T ops n c s where
  al := ⟨oa, a1, a2.1, a2.2.1, a2.2.2⟩
  st := ⟨os, s1, s2.1, s2.2.1, s2.2.2, edgeTo_of s3, edgeTo_of s4⟩
  vx := ⟨Nat.le_of_ble_eq_true v1, ox, v2, v3⟩
  ty := ⟨ti, t1, t2⟩
  one := allOne_ok h1
  ne j o ho hd := by
    have := dstOnce_at h2 j o (by rw [Array.getElem?_toList]; exact ho) hd
    omega
theorem MapOp.of {ops : Array Oper} {n i : Nat} {s : MapS} {o ox ok : Oper} (a1 : ops[i]? = some o) (a2 : o.dst = none ∧ o.guard = none ∧ o.op = .mapUpdate s.t (.tmp s.x) (.tmp s.k) (.const (.bool s.v))) (s3 : edgeOn o.after.toList s.jx = true) (s4 : edgeOn o.after.toList s.jk = true)
    (v1 : Nat.blt s.jx n = true) (v2 : ops[s.jx]? = some ox) (v3 : ox.dst = some s.x) (k1 : Nat.blt s.jk n = true) (k2 : ops[s.jk]? = some ok) (k3 : ok.dst = some s.k) : MapOp ops n i s where
  op := ⟨o, a1, a2.1, a2.2.1, a2.2.2, edgeTo_of s3, edgeTo_of s4⟩
  vx := ⟨Nat.le_of_ble_eq_true v1, ox, v2, v3⟩
  vk := ⟨Nat.le_of_ble_eq_true k1, ok, k2, k3⟩
theorem take_len {ops : Array Oper} {n : Nat} {suf : List Oper} (hs : ops.toList.drop n = suf) (hn : suf ≠ []) : (ops.toList.take n).length = n := by
  rw [List.length_take]
  have : n < ops.toList.length := by
    rcases Nat.lt_or_ge n ops.toList.length with h | h
    · exact h
    · rw [List.drop_of_length_le h] at hs
      exact absurd hs.symm hn
  omega
theorem Awp.twoN (hT : TabOk P T) {id N : Nat} {ops : Array Oper} {env : Env} {Q : Post} (n : Nat) (s0 s1 : BoxS) (h1 : P.follows .mixedOrders = true) (h2 : okR ops.toList = true) (hd : dstsIn N ops.toList = true) (hsuf : Nat.beq (ops.toList.drop n).length 4 = true)
    (b0 : BoxOk T ops n 0 s0) (b1 : BoxOk T ops n 1 s1) (hne : Nat.beq s0.t s1.t = false) (h0N : Nat.blt s0.t N = true) (h1N : Nat.blt s1.t N = true)
    (h : vcR P T ops.toList m (ops.toList.take n) env fun E => (get E s0.tx = .d (.agg s0.cs) ∧ get E s1.tx = .d (.agg s1.cs)) ∧ Ev (Q .normal ((s0.t, .d (.pt s0.cs 0)) :: (s1.t, .d (.pt s1.cs 0)) :: E) m)) : Awp P N (.region id ops true) env m Q := by
  have h4 := Nat.eq_of_beq_eq_true hsuf
  have hl : (ops.toList.take n).length = n := take_len rfl (fun e => by rw [e] at h4; cases h4)
  exact Awp.two hT h1 h2 hd (ops.toList.take n) (ops.toList.drop n) (List.take_append_drop _ _).symm h4 s0 s1 (by rw [hl]; exact b0) (by rw [hl]; exact b1) (Nat.ne_of_beq_eq_false hne) (Nat.le_of_ble_eq_true h0N) (Nat.le_of_ble_eq_true h1N) h
theorem Awp.mapsN (hT : TabOk P T) {id N : Nat} {ops : Array Oper} {env : Env} {Q : Post} (n : Nat) (s0 s1 : MapS) (h1 : P.follows .mixedOrders = true) (h2 : okR ops.toList = true) (hd : dstsIn N ops.toList = true) (hsuf : Nat.beq (ops.toList.drop n).length 2 = true)
    (b0 : MapOp ops n n s0) (b1 : MapOp ops n (n + 1) s1) {oc : Oper} (hch : ops[n + 1]? = some oc) (hce : edgeOn oc.after.toList n = true) {m1 m2 : Mem} (e1 : evMapUpdate T m s0.t (.mp s0.r) s0.K (.d (.bool s0.v)) = some m1) (e2 : evMapUpdate T m1 s1.t (.mp s1.r) s1.K (.d (.bool s1.v)) = some m2) (hr : s0.r ≠ s1.r)
    (h : vcR P T ops.toList ((m.put s0.r (some .opq)).put s1.r (some .opq)) (ops.toList.take n) env fun E => (get E s0.x = .mp s0.r ∧ get E s0.k = s0.K ∧ get E s1.x = .mp s1.r ∧ get E s1.k = s1.K) ∧ Ev (Q .normal E m2)) : Awp P N (.region id ops true) env m Q := by
  have h4 := Nat.eq_of_beq_eq_true hsuf
  have hl : (ops.toList.take n).length = n := take_len rfl (fun e => by rw [e] at h4; cases h4)
  exact Awp.maps hT h1 h2 hd (ops.toList.take n) (ops.toList.drop n) (List.take_append_drop _ _).symm h4 s0 s1 (by rw [hl]; exact b0) (by rw [hl]; exact b1) ⟨oc, by rw [hl]; exact hch, by rw [hl]; exact edgeTo_of hce⟩ e1 e2 hr h
end
end Go.Ab
/-
  The engine, part AI: append to a row whose front was cut off.
-/
namespace Go.Ab
set_option linter.unusedSimpArgs false
set_option linter.unusedVariables false
section
variable {P : Program} {T : Tab} {m : Mem} {env : Env} {K : AV → Mem → Prop} {o : Oper}
/-- append(s, x), s a row of our own from off on, up to its end: it stays where it is, or moves. -/
theorem op_append_off (hT : TabOk P T) {t : TypeId} {s x : Operand} (hop : o.op = .call { callee := .builtin .append, args := #[s, x], argTypes := #[t, t] }) {e : TypeId} {sz : Nat} (he : elemOf T t = some (e, sz)) {r : Ref} {g off n : Nat} (hs : ev env s = .osl r g off n) {f : Nat → List AV}
    (hB : m.get r = some (.vec e sz g (off + n) f)) {k : Nat} {h : Nat → List AV} {p : List Prop} (hx : srcOf m sz (ev env x) = some (k, h, p)) (hp : ∀ q ∈ p, q) (hk0 : 0 < k) (hb0 : Nat.beq (bytesAt T e) 0 = false) (hcap : (n + k) * bytesAt T e ≤ 140737488355328)
    (hK1 : K (.osl r (g + 1) off (n + k)) (m.put r (some (.vec e sz (g + 1) (off + (n + k)) (joinF (off + n) f h)))))
    (hK2 : K (.osl r (g + 1) 0 (n + k)) (m.put r (some (.vec e sz (g + 1) (n + k) (joinF n (fun i => f (off + i)) h))))) : OpVC P o env m K :=
  ⟨fun c h => (by rw [hop] at h; cases h), fun a w F σ hev hm => by
    obtain ⟨hu, hrs, te, hte, htsz⟩ := elemOf_ok hT he
    have hsz := sz_pos hT he
    obtain ⟨i, z, hi, his, hib, hz, hzs, hzsz⟩ := tiIs_info hte
    have hbytes : bytesAt T e = te.bytes := by
      unfold elemOf at he
      split at he <;> try (cases he; done)
      split at he <;> try (cases he; done)
      split at he <;> try (cases he; done)
      rename_i te' hte'
      injection he with he
      obtain ⟨rfl, _⟩ := Prod.mk.inj he
      obtain ⟨i', z', hi', _, hib', _⟩ := tiIs_info (hT _ _ hte')
      rw [hi] at hi'
      injection hi' with hi'
      subst hi'
      simp [bytesAt, hte', ← hib', ← hib]
    have hbpos : 0 < te.bytes := by have := Nat.ne_of_beq_eq_false hb0; omega
    rw [hbytes] at hcap
    have hmax : ∀ q, q * te.bytes ≤ 140737488355328 → q ≤ maxLen := fun q hq => by
      have := Nat.le_mul_of_pos_right q hbpos
      unfold maxLen
      omega
    have hvs := ev_ok hev s
    rw [hs] at hvs
    obtain ⟨B, c, news, hX, nl, nnone, ncells, none1, nrows⟩ := srcOf_ok hm (ev_ok hev x) hx hp
    obtain ⟨b0, rfl⟩ : ∃ b0, B = some b0 := by
      cases B with
      | none => have := nnone rfl; omega
      | some b0 => exact ⟨b0, rfl⟩
    obtain ⟨pl, hr, hok, _, hat⟩ := osl_row hm hvs (Mem.get_at hB)
    obtain ⟨h0, hpsz, hn0, hrow, hl⟩ := hok
    have hsl := hat h0
    have hex : ∀ v w', (Builtin.append_ #[t, t] o.type #[a.eval s, a.eval x]).run P w = .ok v w' → (execOp a.eval o).run P w = .ok (.value v) w' := fun v w' hrun => by
      simp [execOp, hop, resolve, invoke, builtin, hrun]
    -- it moves
    have moved : ∀ (v' : Value) (w' : World) (olds : List Value), (Builtin.append_ #[t, t] o.type #[a.eval s, a.eval x]).run P w = .ok v' w' → (∃ base, w'.ownsRow base e sz v' (n + k) (olds ++ news)) → w.grownBy w' none → (∀ b, v'.ownBlock = some b → w.heap.size ≤ b) → olds.length = n * sz → RowsAt w F σ sz n (fun i => f (off + i)) olds →
        ∃ n1 u w' σ' F' A1 m', (execOp a.eval o).run P w = .ok n1 w' ∧ (n1 = .value u ∨ (n1 = .skip ∧ u = undef)) ∧ K A1 m' ∧ Vc w' F' σ' A1 u ∧ MemOk m' σ' F' w' ∧ Step σ F w σ' F' w' ∧ SLe σ σ' := by
      intro v' w' olds hrun ⟨base, h4⟩ h5 h6 ol orows
      have hk : ∀ b, b < w.heap.size → w'.heap[b]? = w.heap[b]? := fun b hb => h5.block b hb (by simp)
      have hkF : ∀ b, F b → w'.heap[b]? = w.heap[b]? := fun b hb => hk b (hm.fl b hb)
      have hjoin := joinF_rows orows ol nrows
      rcases h4.2 with ⟨rfl, hz0⟩ | ⟨gg, cap, cur, rfl, _, hheap, hkc, hcm, hcs, htake⟩
      · omega
      · have hgg : w.heap.size ≤ gg := h6 gg (by simp [Value.ownBlock])
        let pl' : Pl := ⟨g + 1, sz, some (gg, cap)⟩
        have hq : pl.g ≤ pl'.g ∧ (pl'.g = pl.g → pl' = pl) := ⟨by simp [pl']; omega, fun h => by simp [pl'] at h; omega⟩
        have hs' := SLe.upd_old (q' := some pl') hr (fun p hp => by injection hp with hp; subst hp; exact ⟨pl, rfl, hq.1, hq.2⟩)
        have hB' : BlkOk w' F (upd σ r (some pl')) (.vec e sz (g + 1) (n + k) (joinF n (fun i => f (off + i)) h)) pl' :=
          ⟨rfl, rfl, fun h => by simp [pl'] at h, hjoin.1, fun b t h => by
            simp only [pl', Option.some.injEq, Prod.mk.injEq] at h
            obtain ⟨rfl, rfl⟩ := h
            refine ⟨hkc, hcm, cur.toList, by simpa using hheap, by simpa using hcs, fun i j A hi hA => ?_⟩
            obtain ⟨u, hu, hv, h1⟩ := hjoin.2.2 i j A hi hA
            rw [← htake, List.getElem?_take] at hu
            split at hu
            · exact ⟨u, hu, hv.mono (fun _ h => h) hkF hs', h1⟩
            · cases hu⟩
        obtain ⟨g1, g2⟩ := change_ok (w' := w') (pl' := pl') hm hr h5.size (fun b hb _ => hk b hb) hq hB' (fun b t h => by
          simp only [pl', Option.some.injEq, Prod.mk.injEq] at h
          obtain ⟨rfl, rfl⟩ := h
          exact ⟨(Array.getElem?_eq_some_iff.1 hheap).1, .inr hgg⟩)
        refine ⟨_, _, w', _, F, _, _, hex _ _ hrun, .inl rfl, hK2, .osl (upd_self σ r (some pl')) fun p hp => ?_, g1, ⟨h5.os, h5.tape, h5.output, run_drawn _ hrun, h5.size, fun b hb ho => hk b hb, fun _ h => h, fun _ h => .inl h, own_upd_old hr fun b t h => ?_⟩, g2⟩
        · injection hp with hp
          subst hp
          exact ⟨Nat.le_refl _, fun _ => ⟨_, cap, rfl, hkc, by simp, fun _ => by simp⟩⟩
        · simp only [pl', Option.some.injEq, Prod.mk.injEq] at h
          obtain ⟨rfl, rfl⟩ := h
          exact .inr hgg
    have fromNil : a.eval s = .slice none 0 0 → n = 0 → ∃ n1 u w' σ' F' A1 m', (execOp a.eval o).run P w = .ok n1 w' ∧ (n1 = .value u ∨ (n1 = .skip ∧ u = undef)) ∧ K A1 m' ∧ Vc w' F' σ' A1 u ∧ MemOk m' σ' F' w' ∧ Step σ F w σ' F' w' ∧ SLe σ σ' := by
      intro hS hn
      subst hn
      obtain ⟨v', w', h1, h2, h3, _, h5⟩ := run_append_own_at (P := P) w 0 t o.type e i z sz te.bytes hu hi hz (by rw [his, htsz]) hib (by rw [hzsz, htsz]) hsz (.slice none 0 0) 0 [] (World.ownsRow_nil w 0 e sz) b0 k c news nl (ncells b0 rfl) none1 (hmax _ hcap) hcap (Nat.zero_le _)
      refine moved v' w' [] (by rw [hS, hX]; exact h1) ⟨0, by simpa using h2⟩ (by simpa [Value.ownBlock] using h3) (fun b hb => ?_) (by simp) ⟨fun i hi => absurd hi (by omega), by simp, fun i j A hi => absurd hi (by omega)⟩
      rcases h5 with h5 | h5
      · rw [hb] at h5; simp [Value.ownBlock] at h5
      · rw [hb] at h5; injection h5 with h5; omega
    unfold SlAt at hsl
    split at hsl
    · obtain ⟨hn, _, hS⟩ := hsl
      exact fromNil hS hn
    · rename_i b tot hloc
      obtain ⟨A, cap, hS, hnc, hoc, hA⟩ := hsl
      obtain ⟨hnt, htm, us, hheap, hlen, hvc⟩ := hl b tot hloc
      have hmul : ∀ x y : Nat, x ≤ y → x * sz ≤ y * sz := fun x y h => Nat.mul_le_mul_right sz h
      have hin := hmul (off + n) tot (by omega)
      rw [Nat.add_mul] at hin
      -- the rows that it has
      have horow : RowsAt w F σ sz n (fun i => f (off + i)) ((us.drop (off * sz)).take (n * sz)) := ⟨fun i hi => hrow _ (by omega), by simp; omega, fun i j A hi hA => by
        obtain ⟨u, hu, r⟩ := hvc (off + i) j A (by omega) hA
        have hj : j < sz := by rw [← hrow (off + i) (by omega)]; exact (List.getElem?_eq_some_iff.1 hA).1
        have hlt := row_lt hi hj
        refine ⟨u, ?_, r⟩
        have e1 : (off + i) * sz + j = off * sz + (i * sz + j) := by rw [Nat.add_mul]; omega
        rw [e1] at hu
        simp [hlt, List.getElem?_drop, hu]⟩
      by_cases hroom : n + k ≤ cap
      · -- it stays
        have hAv := hA (.inl (by omega))
        subst hAv
        have hfit0 := hmul (off + (n + k)) tot (by omega)
        rw [Nat.add_mul, Nat.add_mul] at hfit0
        have hfit : (off + n) * sz + news.length ≤ us.length := by rw [nl, hlen, Nat.add_mul]; omega
        have hst := run_storeCells_at P b ((off + n) * sz) e news 0 us.toArray w hheap (by simpa using hfit) none1
        simp only [Nat.add_zero] at hst
        have hfc := run_firstCells_some (P := P) w i.size k b0 k c news (by rw [his, htsz]; exact nl) (ncells b0 rfl)
        have hrun : (Builtin.append_ #[t, t] o.type #[a.eval s, a.eval x]).run P w = .ok (.slice (some ⟨b, off * pl.sz, none⟩) (n + k) cap) (w.setRow b (us.take ((off + n) * sz) ++ news ++ us.drop ((off + n) * sz + news.length)).toArray) := by
          rw [hS, hX]
          have e1 : off * pl.sz + n * i.size = (off + n) * sz := by rw [hpsz, his, htsz, Nat.add_mul]
          simp [Builtin.append_, run_underlying hu, sizeOf, typeInfo, hi, Builtin.lenOf, hroom, hfc, Addr.add_lit, e1, hst]
        let pl' : Pl := ⟨g + 1, sz, some (b, tot)⟩
        have hq : pl.g ≤ pl'.g ∧ (pl'.g = pl.g → pl' = pl) := ⟨by simp [pl']; omega, fun h => by simp [pl'] at h; omega⟩
        have hs' := SLe.upd_old (q' := some pl') hr (fun p hp => by injection hp with hp; subst hp; exact ⟨pl, rfl, hq.1, hq.2⟩)
        have hkF : ∀ b2, F b2 → (w.setRow b (us.take ((off + n) * sz) ++ news ++ us.drop ((off + n) * sz + news.length)).toArray).heap[b2]? = w.heap[b2]? := fun b2 hb2 => setRow_other w b b2 _ (fun e => (hm.nf r pl b tot hr hloc).1 (e ▸ hb2))
        obtain ⟨q1, q2⟩ := change_ok (w' := w.setRow b (us.take ((off + n) * sz) ++ news ++ us.drop ((off + n) * sz + news.length)).toArray) (pl' := pl') (B' := .vec e sz (g + 1) (off + (n + k)) (joinF (off + n) f h)) hm hr (by rw [size_setRow]; exact Nat.le_refl _) (fun b2 _ ht => setRow_other w b b2 _ (fun e => ht tot (by rw [hloc, e]))) hq
          ⟨rfl, rfl, (fun h => by simp [pl'] at h), fun i hi => by
              unfold joinF
              cases hb : Nat.blt i (off + n) with
              | true => exact hrow i (Nat.le_of_ble_eq_true hb)
              | false =>
                have : off + n ≤ i := by
                  rcases Nat.lt_or_ge i (off + n) with h | h
                  · rw [show Nat.blt i (off + n) = true from Nat.ble_eq_true_of_le h] at hb; cases hb
                  · exact h
                exact nrows.1 (i - (off + n)) (by omega),
            fun b1 tot1 hl1 => by
              simp only [pl', Option.some.injEq, Prod.mk.injEq] at hl1
              obtain ⟨rfl, rfl⟩ := hl1
              refine ⟨by omega, htm, _, setRow_heap w b us.toArray _ e (0, 0) hheap, by rw [mid_length hfit]; exact hlen, fun i j A hi hA2 => ?_⟩
              rw [mid_at hfit]
              replace hA2 : (joinF (off + n) f h i)[j]? = some A := hA2
              unfold joinF at hA2
              cases hb : Nat.blt i (off + n) with
              | true =>
                rw [hb] at hA2
                have hin : i < off + n := Nat.le_of_ble_eq_true hb
                have hj : j < sz := by rw [← hrow i hin]; exact (List.getElem?_eq_some_iff.1 hA2).1
                obtain ⟨u, hu, hv, h1⟩ := hvc i j A hin hA2
                have := row_lt hin hj
                exact ⟨u, by rw [if_neg (by omega)]; exact hu, hv.mono (fun _ h => h) hkF hs', h1⟩
              | false =>
                rw [hb] at hA2
                have hge : off + n ≤ i := by
                  rcases Nat.lt_or_ge i (off + n) with h | h
                  · rw [show Nat.blt i (off + n) = true from Nat.ble_eq_true_of_le h] at hb; cases hb
                  · exact h
                obtain ⟨u, hu, hv, h1⟩ := nrows.2.2 (i - (off + n)) j A (by omega) hA2
                have hj : j < sz := by rw [← nrows.1 (i - (off + n)) (by omega)]; exact (List.getElem?_eq_some_iff.1 hA2).1
                have e1 : i * sz = (off + n) * sz + (i - (off + n)) * sz := by rw [← Nat.add_mul]; congr 1; omega
                have e2 := row_lt (show i - (off + n) < k by omega) hj
                refine ⟨u, ?_, hv.mono (fun _ h => h) hkF hs', h1⟩
                rw [if_pos ⟨by omega, by omega⟩, ← hu]
                congr 1
                omega⟩
          (fun b2 t2 h => by
            simp only [pl', Option.some.injEq, Prod.mk.injEq] at h
            obtain ⟨rfl, rfl⟩ := h
            exact ⟨by rw [size_setRow]; exact (hm.nf r pl b tot hr hloc).2, .inl ⟨tot, hloc⟩⟩)
        refine ⟨_, _, _, _, F, _, _, hex _ _ hrun, .inl rfl, hK1, .osl (upd_self σ r (some pl')) fun p hp => ?_, q1, ⟨rfl, rfl, rfl, Nat.le_refl _, by rw [size_setRow]; exact Nat.le_refl _, fun b2 _ ho => setRow_other w b b2 _ (fun e => ho ⟨r, pl, tot, hr, by rw [e]; exact hloc⟩), fun _ h => h, fun _ h => .inl h, own_upd_old hr fun b2 t2 h => ?_⟩, q2⟩
        · injection hp with hp
          subst hp
          refine ⟨Nat.le_refl _, fun _ => ⟨some ⟨b, off * pl.sz, none⟩, cap, rfl, hroom, hoc, fun _ => ?_⟩⟩
          rw [hpsz]
        · simp only [pl', Option.some.injEq, Prod.mk.injEq] at h
          obtain ⟨rfl, rfl⟩ := h
          exact .inl ⟨tot, hloc⟩
      · -- it moves
        cases A with
        | none =>
          have hc0 : cap = 0 := by
            rcases Nat.eq_zero_or_pos cap with h | h
            · exact h
            · have := hA (.inl h); cases this
          exact fromNil (by rw [hS, hc0, show n = 0 by omega]) (by omega)
        | some a1 =>
          have holds : ∀ (j : Nat) (u : Value), ((us.drop (off * sz)).take (n * sz))[j]? = some u → w.cell? (a1.add j) = some u := fun j u hj => by
            have hjl : j < n * sz := by have := (List.getElem?_eq_some_iff.1 hj).1; simp at this; omega
            have hcp : 0 < cap := by
              rcases Nat.eq_zero_or_pos n with h | h
              · subst h; omega
              · omega
            have := hA (.inl hcp)
            injection this with this
            subst this
            rw [List.getElem?_take, if_pos hjl, List.getElem?_drop] at hj
            rw [Addr.add_lit, cell_of_row w b _ us.toArray e (0, 0) hheap, hpsz]
            simpa using hj
          obtain ⟨v', w', h1, h2, h3⟩ := run_append_arg_grows (P := P) w t o.type e i z sz te.bytes hu hi hz (by rw [his, htsz]) hib (by rw [hzsz, htsz]) hsz a1 n cap ((us.drop (off * sz)).take (n * sz)) (by simp; omega) holds b0 k c news nl (ncells b0 rfl) (by omega) (hmax _ hcap) hcap
          refine moved v' w' _ (by rw [hS, hX]; exact h1) ⟨_, h2⟩ h3 (fun g' hg => ?_) (by simp; omega) horow
          rcases h2.2 with ⟨rfl, hz0⟩ | ⟨g2, cap2, cur, rfl, hge, _⟩
          · omega
          · simp [Value.ownBlock] at hg; omega⟩
end
end Go.Ab
/-
  The engine, part AJ: statements that leave their order open, with operations in their midst that turn memory of which the others read nothing.
-/
namespace Go.Ab
set_option linter.unusedSimpArgs false
set_option linter.unusedVariables false
noncomputable def vcE (P : Program) (T : Tab) (full : List Oper) (m : Mem) (eff : Nat → Bool) (res : Nat → AV) (ops : List Oper) : Nat → Env → (Env → Prop) → Prop :=
  List.rec (motive := fun _ => Nat → Env → (Env → Prop) → Prop) (fun _ env K => K env) (fun o _ ih k env K => match eff k with
    | true => setD env o.dst (res k) fun env => ih (k + 1) env K
    | false => match o.guard with
      | none => vcR1 P T m (sel env (tmpsOf o.op)) o fun v => setD env o.dst v fun env => ih (k + 1) env K
      | some (j, want) => match guardOf full (sel env (gTmp full (some (j, want)))) j want with
        | none => False
        | some g => match evRead T (sel env (tmpsOf o.op)) m o.op with
          | some (v, l) => obs (under g l) (frc v fun v => setD env o.dst (.gd g v) fun env => ih (k + 1) env K)
          | none => Br g (Ev (vcR1 P T m (sel env (tmpsOf o.op)) o fun v => setD env o.dst v fun env => ih (k + 1) env K)) (Ev (setD env o.dst (.gd false (.d (.bool false))) fun env => ih (k + 1) env K))) ops
theorem vcE_cons (P : Program) (T : Tab) (full : List Oper) (m : Mem) (eff : Nat → Bool) (res : Nat → AV) (o : Oper) (rest : List Oper) (k : Nat) (env : Env) (K : Env → Prop) : vcE P T full m eff res (o :: rest) k env K = match eff k with
    | true => setD env o.dst (res k) fun env => vcE P T full m eff res rest (k + 1) env K
    | false => match o.guard with
      | none => vcR1 P T m (sel env (tmpsOf o.op)) o fun v => setD env o.dst v fun env => vcE P T full m eff res rest (k + 1) env K
      | some (j, want) => match guardOf full (sel env (gTmp full (some (j, want)))) j want with
        | none => False
        | some g => match evRead T (sel env (tmpsOf o.op)) m o.op with
          | some (v, l) => obs (under g l) (frc v fun v => setD env o.dst (.gd g v) fun env => vcE P T full m eff res rest (k + 1) env K)
          | none => Br g (Ev (vcR1 P T m (sel env (tmpsOf o.op)) o fun v => setD env o.dst v fun env => vcE P T full m eff res rest (k + 1) env K)) (Ev (setD env o.dst (.gd false (.d (.bool false))) fun env => vcE P T full m eff res rest (k + 1) env K)) := rfl
section
variable {P : Program} {T : Tab} {m : Mem}
variable {ro : Option Nat}
theorem vcE_ext (hT : TabOk P T) {full : List Oper} {eff : Nat → Bool} {res : Nat → AV} {K : Env → Prop} : ∀ (rest : List Oper) (k0 : Nat) (env : Env), vcE P T full m eff res rest k0 env K →
    ∃ As : Nat → AV, K (envsOf env rest As rest.length) ∧ (∀ k, k < rest.length → eff (k0 + k) = true → As k = res (k0 + k)) ∧ ∀ (k : Nat) o, rest[k]? = some o → eff (k0 + k) = false → ∀ σ : Pls, DoesG P m σ full o (envsOf env rest As k) (As k)
  | [], k0, env, h => ⟨fun _ => .junk, h, fun k hk => by simp at hk, fun k o ho => by simp at ho⟩
  | o :: r, k0, env, h => by
    have key : ∃ A, vcE P T full m eff res r (k0 + 1) (stepE o A env) K ∧ (eff k0 = true → A = res k0) ∧ (eff k0 = false → ∀ σ : Pls, DoesG P m σ full o env A) := by
      rw [vcE_cons] at h
      have hs1 : ∀ t ∈ tmpsOf o.op, t ∈ slots full o := fun t ht => mem_app2.2 (.inl ht)
      cases he : eff k0 with
      | true =>
        rw [he] at h
        exact ⟨_, setD_step h, fun _ => rfl, fun h => by cases h⟩
      | false =>
      rw [he] at h
      simp only at h
      split at h
      · rename_i hg
        obtain ⟨A, hK, hD⟩ := vcR1_okA hT h
        refine ⟨A, setD_step hK, fun h => (by cases h), fun _ σ F w a hm he => ⟨fun _ => hD σ F w a hm (sel_ok fun t ht => he t (hs1 t ht)), fun hw => ?_⟩⟩
        simp [Region.wanted, hg] at hw
      · rename_i j want hg
        have hs2 : ∀ t ∈ gTmp full (some (j, want)), t ∈ slots full o := fun t ht => mem_app2.2 (.inr (by rw [hg]; exact ht))
        split at h <;> try (cases h; done)
        rename_i g hgo
        have hw : ∀ (σ : Pls) (F : Nat → Prop) (w : World) (a : Act), (∀ t ∈ slots full o, Vc w F σ (get env t) (a.tmps.getD t undef)) → Region.wanted o (yielded full.toArray a.tmps) = g := fun σ F w a he => by
          simp only [Region.wanted, hg]
          exact guardOf_ok (sel_ok fun t ht => he t (hs2 t ht)) hgo
        split at h
        · rename_i v l hr
          obtain ⟨hl, h⟩ := obs_ok h
          rw [frc_eq] at h
          refine ⟨.gd g v, setD_step h, fun h => (by cases h), fun _ σ F w a hm he => ?_⟩
          rw [hw σ F w a he]
          refine ⟨fun hgt => ?_, fun hgf w F => .gd (fun h => by rw [hgf] at h; cases h) fun _ => rfl⟩
          exact YieldR.mono (fun w F u hu => .gd (fun _ => hu) fun h => by rw [hgt] at h; cases h) (evRead_does hT hr (under_ok hl hgt) F w a hm (sel_ok fun t ht => he t (hs1 t ht)))
        · cases g with
          | true =>
            obtain ⟨A, hK, hD⟩ := vcR1_okA hT (h.t rfl).o
            refine ⟨A, setD_step hK, fun h => (by cases h), fun _ σ F w a hm he => ⟨fun _ => hD σ F w a hm (sel_ok fun t ht => he t (hs1 t ht)), fun hwf => ?_⟩⟩
            rw [hw σ F w a he] at hwf
            cases hwf
          | false =>
            refine ⟨_, setD_step (h.f rfl).o, fun h => (by cases h), fun _ σ F w a hm he => ⟨fun hwt => ?_, fun _ w F => .gd (fun h => by cases h) fun _ => rfl⟩⟩
            rw [hw σ F w a he] at hwt
            cases hwt
    obtain ⟨A, hr, hA, hD⟩ := key
    obtain ⟨As, hK, hAe, hAs⟩ := vcE_ext hT r (k0 + 1) _ hr
    refine ⟨consA A As, ?_, fun k hk he => ?_, fun k o' ho he => ?_⟩
    · rw [List.length_cons, envsOf_cons]
      exact hK
    · cases k with
      | zero => exact hA he
      | succ k =>
        have := hAe k (by simpa using hk) (by rw [← he]; congr 1; omega)
        show As k = _
        rw [this]
        congr 1
        omega
    · cases k with
      | zero => simp at ho; subst ho; exact hD he
      | succ k =>
        rw [envsOf_cons]
        exact hAs k o' (by simpa using ho) (by rw [← he]; congr 1; omega)
theorem drawn_eff {id N : Nat} {ops : Array Oper} {F : Nat → Prop} {w : World} {a : Act} {env : Env} {σ : Pls} {K : Env → Prop} {Q : Exit → Act → World → Prop} {eff : Nat → Bool} {res : Nat → AV}
    (h1 : P.follows .mixedOrders = true) (h2 : okR ops.toList = true) (hT : TabOk P T) (hd : dstsIn N ops.toList = true) (h : vcE P T ops.toList m eff res ops.toList 0 env K) (hN : a.tmps.size = N) (he : EnvOk env w F σ a.tmps)
    (R : Array Bool → Act → World → (Nat → Prop) → Pls → Prop) (hRm : ∀ listed a' w' F' σ' (i : Nat), i < ops.size → eff i = false → listed.getD i true = false → R listed a' w' F' σ' → MemOk m σ' F' w')
    (hR0 : R (Array.replicate ops.size false) a { w with drawn := w.drawn + 1 } F σ)
    (hRq : ∀ listed a' w' F' σ' F2 w2 v (i : Nat) o, R listed a' w' F' σ' → Grew F' w' F2 w2 → eff i = false → ops[i]? = some o → listed.size = ops.size → a'.tmps.size = N → R (listed.setIfInBounds i true) (a'.put o.dst v) w2 F2 σ')
    (hRe : ∀ As listed a' w' F' σ' (i : Nat) o, (∀ (j : Nat) o d, ops[j]? = some o → o.dst = some d → get (envsOf env ops.toList As ops.size) d = As j) → K (envsOf env ops.toList As ops.size) → eff i = true → ops[i]? = some o → listed.getD i true = false → (∀ e ∈ o.after, Region.binds .any e = true → listed.getD e.on true = true) → (∀ (j : Nat) o, ops[j]? = some o → listed.getD j true = true → ∀ e ∈ o.after, Region.binds .any e = true → listed.getD e.on true = true) → listed.size = ops.size → a'.tmps.size = N → a'.defers = a.defers → Slots ops ops.size env σ' As listed F' w' a'.tmps → R listed a' w' F' σ' →
      ∀ next : Act → World → Prop, (∀ v w2 F2 σ2, (∀ A u, Vc w' F' σ' A u → Vc w2 F2 σ2 A u) → Vc w2 F2 σ2 (res i) v → R (listed.setIfInBounds i true) (a'.put o.dst v) w2 F2 σ2 → next (a'.put o.dst v) w2) → wpOpIn (Fen ro) 0 P ops Q i next a' w')
    (hQ : ∀ env' a' w' F' σ', K env' → a'.tmps.size = N → a'.defers = a.defers → EnvOk env' w' F' σ' a'.tmps → (∀ listed, (∀ i, i < ops.size → listed.getD i true = true) → R listed a' w' F' σ' → Q .normal a' w')) : (Code.region id ops true).wpIn (Fen ro) 0 P Q a w := by
  obtain ⟨As, hK, hAe, hD0⟩ := vcE_ext hT ops.toList 0 env h
  have hO : ∀ (i : Nat) o, ops[i]? = some o → OrdAt ops.toList i o := fun i o ho => by
    have := okFrom_at h2 i o (by rw [Array.getElem?_toList]; exact ho)
    rwa [Nat.zero_add] at this
  have hdst : ∀ (i : Nat) o d, ops[i]? = some o → o.dst = some d → d < N := by
    have : ∀ (l : List Oper), dstsIn N l = true → ∀ (i : Nat) o d, l[i]? = some o → o.dst = some d → d < N := by
      intro l
      induction l with
      | nil => intro _ i o d ho; simp at ho
      | cons x r ih =>
        intro hl i o d ho hdo
        simp only [dstsIn, Bool.and_eq_true] at hl
        cases i with
        | zero =>
          simp at ho
          subst ho
          have := hl.1
          rw [hdo] at this
          exact Nat.le_of_ble_eq_true this
        | succ i => exact ih hl.2 i o d (by simpa using ho) hdo
    exact fun i o d ho hdo => this ops.toList hd i o d (by rw [Array.getElem?_toList]; exact ho) hdo
  have hsize : ops.toList.length = ops.size := Array.length_toList
  have hEd : ∀ (i : Nat) o d, ops[i]? = some o → o.dst = some d → ∀ k, i < k → k ≤ ops.toList.length → get (envsOf env ops.toList As k) d = As i := by
    intro i o d ho hdo k hk hkn
    have hol : ops.toList[i]? = some o := by rw [Array.getElem?_toList]; exact ho
    rw [envs_stable (i := i + 1) k (by omega) (fun j o' h3 h4 ho' hd' => by
        have := (hO i o ho).once d hdo j o' ho' hd'
        omega)]
    rw [envsOf, hol]
    exact get_step_self hdo
  have hE0 : ∀ t k, k ≤ ops.toList.length → (∀ (j : Nat) o, ops[j]? = some o → o.dst = some t → k ≤ j) → get (envsOf env ops.toList As k) t = get env t := fun t k hk hno =>
    envs_stable (i := 0) k (Nat.zero_le _) (fun j o _ hj ho hdo => by
      rw [Array.getElem?_toList] at ho
      have := hno j o ho hdo
      omega)
  rw [hsize] at hK
  have hEd' : ∀ (j : Nat) o d, ops[j]? = some o → o.dst = some d → get (envsOf env ops.toList As ops.size) d = As j := fun j o d ho hdo => hEd j o d ho hdo _ (Array.getElem?_eq_some_iff.1 ho).1 (by omega)
  let Inv : Array Bool → Act → World → Prop := fun listed a' w' => a'.tmps.size = N ∧ a'.defers = a.defers ∧ (∀ (j : Nat) o, ops[j]? = some o → listed.getD j true = true → ∀ e ∈ o.after, Region.binds .any e = true → listed.getD e.on true = true) ∧
    ∃ F' σ', Slots ops ops.size env σ' As listed F' w' a'.tmps ∧ R listed a' w' F' σ'
  have done : ∀ (fuel : Nat) (listed : Array Bool) (a' : Act) (w' : World), listed.size = ops.size → (∀ i, i < ops.size → listed.getD i true = true) → Q .normal a' w' → wpAnyIn (Fen ro) 0 P .any ops Q fuel listed a' w' := by
    intro fuel listed a' w' hls hall hq
    have hnil : Region.ready .any ops listed = [] := List.eq_nil_iff_forall_not_mem.2 fun i hi => by
      obtain ⟨g1, o, ho, _⟩ := mem_ready.1 hi
      rw [hall i (Array.getElem?_eq_some_iff.1 ho).1] at g1
      cases g1
    cases fuel with
    | zero => exact ⟨hnil, hq⟩
    | succ fuel => exact ⟨fun _ => hq, fun i hi => by rw [hnil] at hi; cases hi⟩
  have fin : ∀ (listed : Array Bool) (a' : Act) (w' : World), (∀ i, i < ops.size → listed.getD i true = true) → Inv listed a' w' → Q .normal a' w' := by
    rintro listed a' w' hall ⟨i1, i2, ic, F', σ', i4, i5⟩
    refine hQ _ a' w' F' σ' hK i1 i2 (fun t => ?_) listed hall i5
    by_cases hex : ∃ (j : Nat) (o : Oper), ops[j]? = some o ∧ o.dst = some t
    · obtain ⟨j, o, ho, hdo⟩ := hex
      have hj := (Array.getElem?_eq_some_iff.1 ho).1
      rw [hEd' j o t ho hdo]
      exact (i4 t).1 j o hj ho hdo (hall j hj)
    · rw [hE0 t _ (by omega) (fun j o ho hdo => absurd ⟨j, o, ho, hdo⟩ hex)]
      exact (i4 t).2 fun j o ho hdo => absurd ⟨j, o, ho, hdo⟩ hex
  have main : ∀ (fuel : Nat) (listed : Array Bool) (a' : Act) (w' : World), listed.size = ops.size → unl listed.toList ≤ fuel → Inv listed a' w' → wpAnyIn (Fen ro) 0 P .any ops Q fuel listed a' w' := by
    intro fuel
    induction fuel with
    | zero =>
      intro listed a' w' hls hun hI
      have hall : ∀ i, i < ops.size → listed.getD i true = true := fun i hi => by
        rw [getD_list]
        cases hb : listed.toList[i]? with
        | none => rfl
        | some b => exact unl_zero (by omega) i b hb
      exact done 0 listed a' w' hls hall (fin listed a' w' hall hI)
    | succ fuel ih =>
      intro listed a' w' hls hun hI
      refine ⟨fun hnil => ?_, fun i hi => ?_⟩
      · have hall : ∀ i, i < ops.size → listed.getD i true = true := by
          intro i
          induction i using Nat.strongRecOn with
          | _ i ihi =>
            intro hi
            cases hb : listed.getD i true with
            | true => rfl
            | false =>
              exfalso
              have ho : ops[i]? = some ops[i] := Array.getElem?_eq_getElem hi
              have : i ∈ Region.ready .any ops listed := mem_ready.2 ⟨hb, _, ho, fun e he hbe => by
                have hlt := (hO i _ ho).back e he hbe
                have := ihi e.on hlt (by omega)
                rw [getD_list] at this ⊢
                have hin : e.on < listed.toList.length := by rw [Array.length_toList, hls]; omega
                rw [List.getElem?_eq_getElem hin] at this ⊢
                exact this⟩
              rw [hnil] at this
              cases this
        exact fin listed a' w' hall hI
      · obtain ⟨g1, o, ho, g2⟩ := mem_ready.1 hi
        have hin : i < ops.size := (Array.getElem?_eq_some_iff.1 ho).1
        have hoi := hO i o ho
        obtain ⟨i1, i2, ic, F', σ', i4, i5⟩ := hI
        have toT : ∀ j, j < ops.size → listed.getD j false = true → listed.getD j true = true := fun j hj h => by
          rw [getD_list] at h ⊢
          have hin2 : j < listed.toList.length := by rw [Array.length_toList, hls]; omega
          rw [List.getElem?_eq_getElem hin2] at h ⊢
          exact h
        have hlist : listed.toList[i]? = some false := by
          rw [getD_list] at g1
          cases hb : listed.toList[i]? with
          | none => rw [hb] at g1; cases g1
          | some b => rw [hb] at g1; simp at g1; rw [g1]
        have hset : ∀ j, j ≠ i → (listed.setIfInBounds i true).getD j true = listed.getD j true := fun j hne => by
          rw [getD_list, Array.toList_setIfInBounds, List.getElem?_set_ne (fun e => hne e.symm), ← getD_list]
        have hsetm : ∀ j, listed.getD j true = true → (listed.setIfInBounds i true).getD j true = true := fun j h => by
          by_cases e : j = i
          · subst e; rw [h] at g1; cases g1
          · rw [hset j e]; exact h
        have hseti : (listed.setIfInBounds i true).getD i true = true := by
          rw [getD_list, Array.toList_setIfInBounds, List.getElem?_set_self (by rw [Array.length_toList, hls]; exact hin)]
          rfl
        have hclosed : ∀ (j : Nat) o, ops[j]? = some o → (listed.setIfInBounds i true).getD j true = true → ∀ e ∈ o.after, Region.binds .any e = true → (listed.setIfInBounds i true).getD e.on true = true := fun j o' ho' hj e he hb => by
          by_cases hji : j = i
          · subst hji
            rw [ho] at ho'
            cases ho'
            have hlt := hoi.back e he hb
            exact hsetm _ (toT _ (by omega) (g2 e he hb))
          · rw [hset j hji] at hj
            exact hsetm _ (ic j o' ho' hj e he hb)
        have hun' : unl (listed.setIfInBounds i true).toList ≤ fuel := by
          have := unl_set hlist
          rw [Array.toList_setIfInBounds]
          omega
        have putv : ∀ (v : Value) t, o.dst ≠ some t → (a'.put o.dst v).tmps.getD t undef = a'.tmps.getD t undef := fun v t hdt => by
          cases hdo : o.dst with
          | none => rfl
          | some d =>
            simp only [Act.put, Array.getD_eq_getD_getElem?]
            rw [Array.getElem?_setIfInBounds_ne (fun e => hdt (by rw [hdo, e]))]
        have puts : ∀ (v : Value) t, o.dst = some t → (a'.put o.dst v).tmps.getD t undef = v := fun v t hdt => by
          have hdN := hdst i o t ho hdt
          rw [hdt]
          simp only [Act.put, Array.getD_eq_getD_getElem?]
          rw [Array.getElem?_setIfInBounds_self_of_lt (by rw [i1]; exact hdN)]
          rfl
        have slots2 : ∀ (v : Value) (w2 : World) (F2 : Nat → Prop) (σ2 : Pls), (∀ A u, Vc w' F' σ' A u → Vc w2 F2 σ2 A u) → Vc w2 F2 σ2 (As i) v → Slots ops ops.size env σ2 As (listed.setIfInBounds i true) F2 w2 (a'.put o.dst v).tmps := fun v w2 F2 σ2 mono hv t => by
          by_cases hdt : o.dst = some t
          · rw [puts v t hdt]
            refine ⟨fun j o' hjp ho' hd' _ => ?_, fun hno => ?_⟩
            · have := hoi.once t hdt j o' (by rw [Array.getElem?_toList]; exact ho') hd'
              subst this
              exact hv
            · have := hno i o ho hdt
              rw [hseti] at this
              cases this
          · rw [putv v t hdt]
            have hne : ∀ (j : Nat) o', ops[j]? = some o' → o'.dst = some t → j ≠ i := fun j o' ho' hd' e => by
              subst e
              rw [ho] at ho'
              cases ho'
              exact hdt hd'
            refine ⟨fun j o' hjp ho' hd' hj => ?_, fun hno => ?_⟩
            · rw [hset j (hne j o' ho' hd')] at hj
              exact mono _ _ ((i4 t).1 j o' hjp ho' hd' hj)
            · exact mono _ _ ((i4 t).2 fun j o' ho' hd' => by
                have := hno j o' ho' hd'
                rwa [hset j (hne j o' ho' hd')] at this)
        cases hef : eff i with
        | true =>
          refine hRe As listed a' w' F' σ' i o hEd' hK hef ho g1 (fun e he hb => toT _ (by have := hoi.back e he hb; omega) (g2 e he hb)) ic hls i1 i2 i4 i5 _ fun v w2 F2 σ2 k1 k2 k3 => ?_
          have hAi := hAe i (by omega) (by rw [Nat.zero_add]; exact hef)
          rw [Nat.zero_add] at hAi
          exact ih _ _ _ (by simp [hls]) hun' ⟨by rw [put_size]; exact i1, by rw [put_defers]; exact i2, hclosed, F2, σ2, slots2 v w2 F2 σ2 k1 (by rw [hAi]; exact k2), k3⟩
        | false =>
        have hmw := hRm _ _ _ _ _ i hin hef g1 i5
        have hslots : ∀ t ∈ slots ops.toList o, Vc w' F' σ' (get (envsOf env ops.toList As i) t) (a'.tmps.getD t undef) := fun t ht => by
          by_cases hex : ∃ (j : Nat) (o' : Oper), ops[j]? = some o' ∧ o'.dst = some t
          · obtain ⟨j, o', ho', hdo'⟩ := hex
            have hj : j < ops.size := (Array.getElem?_eq_some_iff.1 ho').1
            have honce : ∀ (j2 : Nat) o2, ops[j2]? = some o2 → o2.dst = some t → j2 = j := fun j2 o2 h3 h4 => (hO j o' ho').once t hdo' j2 o2 (by rw [Array.getElem?_toList]; exact h3) h4
            rcases hoi.defs t ht j o' (by rw [Array.getElem?_toList]; exact ho') hdo' with ⟨hji, e, hee, heon, heb⟩ | ⟨hij, hcase⟩
            · rw [hEd j o' t ho' hdo' i hji (by omega)]
              refine (i4 t).1 j o' hj ho' hdo' ?_
              have := g2 e hee heb
              rw [heon] at this
              exact toT j hj this
            · rw [hE0 t i (by omega) (fun j2 o2 h3 h4 => by rw [honce j2 o2 h3 h4]; exact hij)]
              refine (i4 t).2 fun j2 o2 h3 h4 => ?_
              have hj2 := honce j2 o2 h3 h4
              subst hj2
              rcases hcase with rfl | ⟨e, hee, heon, heb⟩
              · exact g1
              · cases hb : listed.getD j2 true with
                | false => rfl
                | true =>
                  have := ic j2 o' ho' hb e hee heb
                  rw [heon, g1] at this
                  cases this
          · rw [hE0 t i (by omega) (fun j2 o2 h3 h4 => absurd ⟨j2, o2, h3, h4⟩ hex)]
            exact (i4 t).2 fun j2 o2 h3 h4 => absurd ⟨j2, o2, h3, h4⟩ hex
        have hdoes := hD0 i o (by rw [Array.getElem?_toList]; exact ho) (by rw [Nat.zero_add]; exact hef) σ' F' w' a' hmw hslots
        have hy : ops.toList.toArray = ops := Array.toArray_toList
        rw [hy] at hdoes
        have next : ∀ (v : Value) (w2 : World) (F2 : Nat → Prop), Grew F' w' F2 w2 → Vc w2 F2 σ' (As i) v → wpAnyIn (Fen ro) 0 P .any ops Q fuel (listed.setIfInBounds i true) (a'.put o.dst v) w2 := by
          intro v w2 F2 hg hv
          exact ih _ _ _ (by simp [hls]) hun' ⟨by rw [put_size]; exact i1, by rw [put_defers]; exact i2, hclosed, F2, σ', slots2 v w2 F2 σ' (fun A u h => h.mono hg.fro (fun b hb => hg.keep b (hmw.fl b hb)) (SLe.refl σ')) hv, hRq listed a' w' F' σ' F2 w2 v i o i5 hg hef ho hls i1⟩
        unfold wpOpIn
        simp only [ho]
        cases hw : Region.wanted o (yielded ops a'.tmps) with
        | false =>
          simp only [Bool.false_eq_true, if_false]
          exact ⟨fun _ _ => trivial, next _ _ _ (Grew.refl hmw.fl) (hdoes.2 hw _ _)⟩
        | true =>
          simp only [if_true]
          have h3 := hdoes.1 hw
          have hdef : ∀ c, o.op ≠ .defer c := fun c hc => by
            simp only [execOp, hc, Sem.run_bind] at h3
            cases hr : (resolve a'.eval c o.type).run P w' <;> simp [hr, Result.andThen, YieldR] at h3
          refine wpIn_at hdef ?_
          generalize (execOp a'.eval o).run P w' = r at h3
          cases r with
          | ok x w2 =>
            cases x <;> simp only [YieldR] at h3 <;> simp only [Oper.uponIn]
            case value u =>
              obtain ⟨F2, k1, k2⟩ := h3
              exact next u w2 F2 k1 k2
            case enter f args =>
              obtain ⟨e1, hc⟩ := h3
              rw [e1]
              exact ⟨Fen_depth, callsFen.2 (hc.mono fun e w3 ⟨u, F3, he, k1, k2⟩ => by subst he; exact next u w3 F3 k1 k2)⟩
          | halt x w2 => simp only [YieldR] at h3
  have hrep : ∀ j, j < ops.size → (Array.replicate ops.size false).getD j true = false := fun j hj => by
    rw [getD_list, Array.toList_replicate, List.getElem?_replicate, if_pos hj]
    rfl
  refine wpIn_region_any h1 (main ops.size _ a _ (by simp) ?_ ⟨hN, rfl, fun j o ho hj => ?_, F, σ, fun t => ⟨fun j o _ ho _ hj => ?_, fun _ => ?_⟩, hR0⟩)
  · have : ∀ k, unl (List.replicate k false) = k := fun k => by
      induction k with
      | zero => rfl
      | succ k ih => rw [List.replicate_succ, unl, ih]; simp; omega
    rw [Array.toList_replicate, this]
    exact Nat.le_refl _
  · rw [hrep j (Array.getElem?_eq_some_iff.1 ho).1] at hj
    cases hj
  · rw [hrep j (Array.getElem?_eq_some_iff.1 ho).1] at hj
    cases hj
  · exact Vc.mono (w := w) (w' := { w with drawn := w.drawn + 1 }) (fun _ h => h) (fun _ _ => rfl) (SLe.refl σ) (he t)
end
end Go.Ab
/-
  The engine, part AK: statements that leave their order open, with one call or two in their midst that turn memory.
-/
namespace Go.Ab
set_option linter.unusedSimpArgs false
set_option linter.unusedVariables false
section
variable {P : Program} {T : Tab} {m : Mem}
variable {ro : Option Nat}
theorem SLe.trans {σ σ' σ'' : Pls} (h : SLe σ σ') (k : SLe σ' σ'') : SLe σ σ'' := fun r q hq => by
  obtain ⟨q1, h1, l1⟩ := h r q hq
  obtain ⟨q2, h2, l2⟩ := k r q1 h1
  exact ⟨q2, h2, l1.trans l2⟩
/-- From here on none of these slots is written. -/
def noLate (ts : List Nat) (i : Nat) (l : List Oper) : Bool := (l.drop i).all fun o => match o.dst with
  | some d => !(memN d ts)
  | none => true
theorem noLate_at {ts : List Nat} {i : Nat} {l : List Oper} (h : noLate ts i l = true) {t : Nat} (ht : t ∈ ts) {j : Nat} {o : Oper} (ho : l[j]? = some o) (hd : o.dst = some t) : j < i := by
  rcases Nat.lt_or_ge j i with hj | hj
  · exact hj
  · exfalso
    unfold noLate at h
    rw [List.all_eq_true] at h
    have hm : o ∈ l.drop i := by
      rw [List.mem_iff_getElem?]
      exact ⟨j - i, by rw [List.getElem?_drop, show i + (j - i) = j by omega]; exact ho⟩
    have := h o hm
    rw [hd] at this
    simp only [Bool.not_eq_true'] at this
    have h2 : memN t ts = true := by
      clear this h hm
      induction ts with
      | nil => simp at ht
      | cons a r ih =>
        rcases List.mem_cons.1 ht with rfl | ht
        · simp [memN]
        · simp [memN, ih ht]
    rw [h2] at this
    cases this
def WeakL : List (Option Blk) → List (Option Blk) → Prop
  | [], [] => True
  | x :: r, y :: s => (x = y ∨ (x = some .opq ∧ ∃ B, y = some B)) ∧ WeakL r s
  | _, _ => False
theorem WeakL.at : ∀ {a b : List (Option Blk)}, WeakL a b → ∀ j : Nat, a[j]? = b[j]? ∨ (a[j]? = some (some .opq) ∧ ∃ B, b[j]? = some (some B))
  | [], [], _, j => .inl rfl
  | x :: r, y :: s, h, 0 => by
    rcases h.1 with h | ⟨h, B, hB⟩
    · exact .inl (by rw [h]; rfl)
    · exact .inr ⟨by rw [h]; rfl, B, by rw [hB]; rfl⟩
  | x :: r, y :: s, h, j + 1 => by
    have := WeakL.at h.2 j
    simpa using this
  | [], _ :: _, h, _ => h.elim
  | _ :: _, [], h, _ => h.elim
theorem Weak.of {a b a' b' : List (Option Blk)} (h1 : WeakL a a') (h2 : WeakL b b') : Weak ⟨a, b⟩ ⟨a', b'⟩ := fun r => by
  cases r with
  | loc j => exact h1.at j
  | arg j => exact h2.at j
  | bad => exact .inl rfl
/-- A path of what must be done before. -/
def pathOk (ops : List Oper) : List Nat → Bool
  | i :: j :: r => (match ops[i]? with
    | some o => edgeOn o.after.toList j
    | none => false) && pathOk ops (j :: r)
  | _ => true
theorem path_at {ops : Array Oper} {listed : Array Bool} (hc : ∀ (j : Nat) o, ops[j]? = some o → listed.getD j true = true → ∀ e ∈ o.after, Region.binds .any e = true → listed.getD e.on true = true) : ∀ (l : List Nat) (i : Nat), pathOk ops.toList (i :: l) = true → listed.getD i true = true → ∀ x ∈ l, listed.getD x true = true
  | [], i, _, _, x, hx => by simp at hx
  | j :: r, i, h, hi, x, hx => by
    simp only [pathOk, Bool.and_eq_true] at h
    have hj : listed.getD j true = true := by
      have h1 := h.1
      rw [Array.getElem?_toList] at h1
      cases ho : ops[i]? with
      | none => rw [ho] at h1; cases h1
      | some o =>
        rw [ho] at h1
        obtain ⟨e, he, heo, heb⟩ := edgeTo_of h1
        have := hc i o ho hi e he heb
        rwa [heo] at this
    rcases List.mem_cons.1 hx with rfl | hx
    · exact hj
    · exact path_at hc r j h.2 hj x hx
/-- An operation that turns memory, in the midst of a statement that leaves its order open. -/
theorem eff_step (hT : TabOk P T) {id N : Nat} {ops : Array Oper} {i : Nat} {o : Oper} {env : Env} {As : Nat → AV} {m1 m2 : Mem} {B : AV} {d : Nat} (h2 : okR ops.toList = true) (hdN : Nat.blt d N = true) (ho : ops[i]? = some o) (hdst : o.dst = some d) (hnl : noLate (slots ops.toList o) i ops.toList = true)
    {A : AV} (hA : A = match o.guard with | none => B | some _ => .gd true B) (hgd : ∀ j want, o.guard = some (j, want) → guardOf ops.toList (sel (envsOf env ops.toList As ops.size) (gTmp ops.toList (some (j, want)))) j want = some true)
    (hop : vcOp P T o (sel (envsOf env ops.toList As ops.size) (tmpsOf o.op)) m1 fun e m' => get e d = B ∧ m' = m2) (hE : ∀ (j : Nat) o d, ops[j]? = some o → o.dst = some d → get (envsOf env ops.toList As ops.size) d = As j)
    {σ' : Pls} {F' : Nat → Prop} {w' : World} {a' : Act} {listed : Array Bool} (hN : a'.tmps.size = N) (hm : MemOk m1 σ' F' w') (hen : ∀ e ∈ o.after, Region.binds .any e = true → listed.getD e.on true = true) (hs : Slots ops ops.size env σ' As listed F' w' a'.tmps)
    {next : Act → World → Prop} {Q : Exit → Act → World → Prop} (hn : ∀ v w2 F2 σ2, (∀ A u, Vc w' F' σ' A u → Vc w2 F2 σ2 A u) → Vc w2 F2 σ2 A v → MemOk m2 σ2 F2 w2 → Step σ' F' w' σ2 F2 w2 → SLe σ' σ2 → next (a'.put o.dst v) w2) : wpOpIn (Fen ro) 0 P ops Q i next a' w' := by
  have hol : ops.toList[i]? = some o := by rw [Array.getElem?_toList]; exact ho
  have hoi : OrdAt ops.toList i o := by
    have := okFrom_at h2 i o hol
    rwa [Nat.zero_add] at this
  have rd : ∀ t ∈ slots ops.toList o, Vc w' F' σ' (get (envsOf env ops.toList As ops.size) t) (a'.tmps.getD t undef) := fun t ht => by
    by_cases hex : ∃ (j : Nat) (o' : Oper), ops[j]? = some o' ∧ o'.dst = some t
    · obtain ⟨j, o', ho', hdo'⟩ := hex
      have hol' : ops.toList[j]? = some o' := by rw [Array.getElem?_toList]; exact ho'
      have hji := noLate_at hnl ht hol' hdo'
      rw [hE j o' t ho' hdo']
      refine (hs t).1 j o' (Array.getElem?_eq_some_iff.1 ho').1 ho' hdo' ?_
      rcases hoi.defs t ht j o' hol' hdo' with ⟨_, e, hee, heon, heb⟩ | ⟨hij, _⟩
      · have := hen e hee heb
        rwa [heon] at this
      · omega
    · have hsz : ops.toList.length = ops.size := Array.length_toList
      have : get (envsOf env ops.toList As ops.size) t = get (envsOf env ops.toList As 0) t := envs_stable (i := 0) ops.size (Nat.zero_le _) (fun j o2 _ _ h3 h4 => hex ⟨j, o2, by rwa [Array.getElem?_toList] at h3, h4⟩)
      rw [this]
      exact (hs t).2 fun j o2 h3 h4 => absurd ⟨j, o2, h3, h4⟩ hex
  have hw : Region.wanted o (yielded ops a'.tmps) = true := by
    cases hg : o.guard with
    | none => simp [Region.wanted, hg]
    | some g =>
      obtain ⟨j, want⟩ := g
      simp only [Region.wanted, hg]
      have := guardOf_ok (tmps := a'.tmps) (sel_ok fun t ht => rd t (mem_app2.2 (.inr (by rw [hg]; exact ht)))) (hgd j want hg)
      have hy : ops.toList.toArray = ops := Array.toArray_toList
      rwa [hy] at this
  unfold wpOpIn
  simp only [ho, hw, if_true]
  refine vcOp_ok hT hop (by rw [hdst]; exact hdN) hN (sel_ok fun t ht => rd t (mem_app2.2 (.inl ht))) hm ?_
  rintro env' m' v w2 σ2 F2 ⟨k1, rfl⟩ k2 k3 k4 k5
  have mono : ∀ A u, Vc w' F' σ' A u → Vc w2 F2 σ2 A u := fun A u hv => hv.mono k4.fro (fun b hb => k4.keep b (hm.fl b hb) (fun ⟨r, pl, t, e1, e2⟩ => (hm.nf r pl b t e1 e2).1 hb)) k5
  refine hn v w2 F2 σ2 mono ?_ k3 k4 k5
  have hv := k2 d
  rw [k1, hdst, put_eq (by rw [hN]; exact Nat.le_of_ble_eq_true hdN)] at hv
  rw [hA]
  cases o.guard with
  | none => exact hv
  | some g => exact .gd (fun _ => hv) fun h => by cases h
theorem Awp.eff2 (hT : TabOk P T) {id N : Nat} {ops : Array Oper} {env : Env} {Q : Post} (h1 : P.follows .mixedOrders = true) (h2 : okR ops.toList = true) (hd : dstsIn N ops.toList = true) (i1 i2 : Nat) (path : List Nat) {o1 o2 : Oper} {d1 d2 : Nat} (ho1 : ops[i1]? = some o1) (ho2 : ops[i2]? = some o2) (hd1 : o1.dst = some d1) (hd2 : o2.dst = some d2) (b1 : Nat.blt d1 N = true) (b2 : Nat.blt d2 N = true)
    (hne : Nat.beq i1 i2 = false) {j : Nat} {want : Bool} (g1 : o1.guard = none) (g2 : o2.guard = some (j, want)) (hp : pathOk ops.toList (i2 :: path) = true) (hpi : path.any (fun x => Nat.beq x i1) = true) (n1 : noLate (slots ops.toList o1) i1 ops.toList = true) (n2 : noLate (slots ops.toList o2) i2 ops.toList = true)
    {m0 m1 m2 : Mem} {B1 B2 : AV} (w0 : Weak m0 m) (w1 : Weak m0 m1) (w2 : Weak m0 m2)
    (h : vcE P T ops.toList m0 (fun i => Nat.beq i i1 || Nat.beq i i2) (fun i => bif Nat.beq i i1 then B1 else .gd true B2) ops.toList 0 env fun E => vcOp P T o1 (sel E (tmpsOf o1.op)) m (fun e m' => get e d1 = B1 ∧ m' = m1) ∧ guardOf ops.toList (sel E (gTmp ops.toList (some (j, want)))) j want = some true ∧ vcOp P T o2 (sel E (tmpsOf o2.op)) m1 (fun e m' => get e d2 = B2 ∧ m' = m2) ∧ Ev (Q .normal E m2)) : Awp P N (.region id ops true) env m Q :=
  ⟨fun ro lo a w σ F hN hD he hm => by
    have hi1 : i1 < ops.size := (Array.getElem?_eq_some_iff.1 ho1).1
    have hi2 : i2 < ops.size := (Array.getElem?_eq_some_iff.1 ho2).1
    have hne' : i1 ≠ i2 := Nat.ne_of_beq_eq_false hne
    have hpm : i1 ∈ path := by
      obtain ⟨x, hx, e⟩ := List.any_eq_true.1 hpi
      rw [← Nat.eq_of_beq_eq_true e]
      exact hx
    refine drawn_eff (m := m0) (σ := σ) h1 h2 hT hd h hN he (fun listed a' w' F' σ' => (listed.getD i2 true = true → listed.getD i1 true = true) ∧ MemOk (bif listed.getD i2 true then m2 else bif listed.getD i1 true then m1 else m) σ' F' w' ∧ Step σ F w σ' F' w' ∧ SLe σ σ') ?_ ?_ ?_ ?_ ?_
    · rintro listed a' w' F' σ' _ _ _ _ ⟨_, hk, _⟩
      cases e2 : listed.getD i2 true with
      | true => rw [e2] at hk; exact w2.ok hk
      | false =>
        rw [e2] at hk
        cases e1 : listed.getD i1 true with
        | true => rw [e1] at hk; exact w1.ok hk
        | false => rw [e1] at hk; exact w0.ok hk
    · have hrep : ∀ j, j < ops.size → (Array.replicate ops.size false).getD j true = false := fun j hj => by
        rw [getD_list, Array.toList_replicate, List.getElem?_replicate, if_pos hj]
        rfl
      rw [hrep _ hi1, hrep _ hi2]
      exact ⟨fun h => (by cases h), (Grew.drew hm.fl).mem hm, (Grew.drew hm.fl).step σ, SLe.refl σ⟩
    · rintro listed a' w' F' σ' F2 w2 v i o ⟨hc, hmw, hst, hsl⟩ hg hi ho hls hN'
      simp only [Bool.or_eq_false_iff] at hi
      have x1 := Nat.ne_of_beq_eq_false hi.1
      have x2 := Nat.ne_of_beq_eq_false hi.2
      rw [listed_set (fun e => x1 e.symm), listed_set (fun e => x2 e.symm)]
      exact ⟨hc, hg.mem hmw, hst.trans (hg.step σ'), hsl⟩
    · rintro As listed a' w' F' σ' i o hE hK hi ho hl hen hcl hls hN' hD' hs ⟨hc, hmm, hst, hsl⟩ next hnext
      obtain ⟨k1, k2, k3, _⟩ := hK
      simp only [Bool.or_eq_true] at hi
      rcases hi with hi | hi
      · have := (Nat.eq_of_beq_eq_true hi).symm
        subst this
        rw [ho1] at ho
        cases ho
        have hn1 : listed.getD i2 true = false := by
          cases h : listed.getD i2 true with
          | false => rfl
          | true => rw [hc h] at hl; cases hl
        rw [hn1, hl] at hmm
        refine eff_step (id := id) hT h2 b1 ho1 hd1 n1 (A := B1) (by rw [g1]) (fun j want hg => by rw [g1] at hg; cases hg) k1 hE hN' hmm hen hs fun v w2' F2 σ2 q1 q2 q3 q4 q5 => hnext v w2' F2 σ2 q1 ?_ ⟨fun _ => listed_self, ?_, hst.trans q4, SLe.trans hsl q5⟩
        · rw [Nat.beq_refl]; exact q2
        · rw [listed_set (fun e => hne' e.symm), hn1, listed_self]
          exact q3
      · have := (Nat.eq_of_beq_eq_true hi).symm
        subst this
        rw [ho2] at ho
        cases ho
        have hl1 : listed.getD i1 true = true := by
          have hp' := hp
          cases path with
          | nil => simp at hpm
          | cons x r =>
            simp only [pathOk, Bool.and_eq_true] at hp'
            have hx : listed.getD x true = true := by
              have h3 := hp'.1
              rw [Array.getElem?_toList, ho2] at h3
              obtain ⟨e, he, heo, heb⟩ := edgeTo_of h3
              have := hen e he heb
              rwa [heo] at this
            rcases List.mem_cons.1 hpm with rfl | hr
            · exact hx
            · exact path_at hcl r x hp'.2 hx i1 hr
        rw [hl, hl1] at hmm
        refine eff_step (id := id) hT h2 b2 ho2 hd2 n2 (A := .gd true B2) (by rw [g2]) (fun j' want' hg => by rw [g2] at hg; cases hg; exact k2) k3 hE hN' hmm hen hs fun v w2' F2 σ2 q1 q2 q3 q4 q5 => hnext v w2' F2 σ2 q1 ?_ ⟨fun _ => by rw [listed_set hne']; exact hl1, ?_, hst.trans q4, SLe.trans hsl q5⟩
        · rw [show Nat.beq i2 i1 = false from Bool.eq_false_iff.2 fun e => hne' (Nat.eq_of_beq_eq_true e).symm]; exact q2
        · rw [listed_self]
          exact q3
    · rintro env' a' w' F' σ' ⟨_, _, _, hK⟩ hN' hD' hE listed hall ⟨_, hmm, hst, hsl⟩
      rw [hall _ hi2] at hmm
      exact ⟨_, m2, σ', F', hK.o, hN', by rw [hD']; exact hD.step hst, hE, hmm, hst, SArg.of hsl⟩⟩
theorem Awp.eff1 (hT : TabOk P T) {id N : Nat} {ops : Array Oper} {env : Env} {Q : Post} (h1 : P.follows .mixedOrders = true) (h2 : okR ops.toList = true) (hd : dstsIn N ops.toList = true) (i1 : Nat) {o1 : Oper} {d1 : Nat} (ho1 : ops[i1]? = some o1) (hd1 : o1.dst = some d1) (b1 : Nat.blt d1 N = true)
    (g1 : o1.guard = none) (n1 : noLate (slots ops.toList o1) i1 ops.toList = true) {m0 m1 : Mem} {B1 : AV} (w0 : Weak m0 m) (w1 : Weak m0 m1)
    (h : vcE P T ops.toList m0 (fun i => Nat.beq i i1) (fun _ => B1) ops.toList 0 env fun E => vcOp P T o1 (sel E (tmpsOf o1.op)) m (fun e m' => get e d1 = B1 ∧ m' = m1) ∧ Ev (Q .normal E m1)) : Awp P N (.region id ops true) env m Q :=
  ⟨fun ro lo a w σ F hN hD he hm => by
    have hi1 : i1 < ops.size := (Array.getElem?_eq_some_iff.1 ho1).1
    refine drawn_eff (m := m0) (σ := σ) h1 h2 hT hd h hN he (fun listed a' w' F' σ' => MemOk (bif listed.getD i1 true then m1 else m) σ' F' w' ∧ Step σ F w σ' F' w' ∧ SLe σ σ') ?_ ?_ ?_ ?_ ?_
    · rintro listed a' w' F' σ' _ _ _ _ ⟨hk, _⟩
      cases e1 : listed.getD i1 true with
      | true => rw [e1] at hk; exact w1.ok hk
      | false => rw [e1] at hk; exact w0.ok hk
    · have hrep : ∀ j, j < ops.size → (Array.replicate ops.size false).getD j true = false := fun j hj => by
        rw [getD_list, Array.toList_replicate, List.getElem?_replicate, if_pos hj]
        rfl
      rw [hrep _ hi1]
      exact ⟨(Grew.drew hm.fl).mem hm, (Grew.drew hm.fl).step σ, SLe.refl σ⟩
    · rintro listed a' w' F' σ' F2 w2 v i o ⟨hmw, hst, hsl⟩ hg hi ho hls hN'
      have x1 := Nat.ne_of_beq_eq_false hi
      rw [listed_set (fun e => x1 e.symm)]
      exact ⟨hg.mem hmw, hst.trans (hg.step σ'), hsl⟩
    · rintro As listed a' w' F' σ' i o hE hK hi ho hl hen hcl hls hN' hD' hs ⟨hmm, hst, hsl⟩ next hnext
      obtain ⟨k1, _⟩ := hK
      have := (Nat.eq_of_beq_eq_true hi).symm
      subst this
      rw [ho1] at ho
      cases ho
      rw [hl] at hmm
      refine eff_step (id := id) hT h2 b1 ho1 hd1 n1 (A := B1) (by rw [g1]) (fun j want hg => by rw [g1] at hg; cases hg) k1 hE hN' hmm hen hs fun v w2' F2 σ2 q1 q2 q3 q4 q5 => hnext v w2' F2 σ2 q1 q2 ⟨?_, hst.trans q4, SLe.trans hsl q5⟩
      rw [listed_self]
      exact q3
    · rintro env' a' w' F' σ' ⟨_, hK⟩ hN' hD' hE listed hall ⟨hmm, hst, hsl⟩
      rw [hall _ hi1] at hmm
      exact ⟨_, m1, σ', F', hK.o, hN', by rw [hD']; exact hD.step hst, hE, hmm, hst, SArg.of hsl⟩⟩
end
end Go.Ab
/-
  The engine, part AL: rounds of a range over a map that is never written again.
-/
namespace Go.Ab
set_option linter.unusedSimpArgs false
set_option linter.unusedVariables false
section
variable {P : Program} {T : Tab} {N : Nat} {w : World} {F : Nat → Prop} {σ : Pls} {m : Mem} {env : Env} {K : AV → Mem → Prop} {o : Oper}
def setAt (w : World) (b : Nat) (o : Obj) : World := { w with heap := w.heap.setIfInBounds b o }
theorem setAt_at {w : World} {b : Nat} {o o' : Obj} (h : w.heap[b]? = some o) : (setAt w b o').heap[b]? = some o' := (MapKept.heap_set (o' := o') h).1
theorem setAt_other (w : World) {b b' : Nat} (o' : Obj) (h : b' ≠ b) : (setAt w b o').heap[b']? = w.heap[b']? := by
  show (w.heap.setIfInBounds b o')[b']? = _
  rw [Array.getElem?_setIfInBounds_ne (fun e => h e.symm)]
theorem setAt_size (w : World) (b : Nat) (o' : Obj) : (setAt w b o').heap.size = w.heap.size := by
  show (w.heap.setIfInBounds b o').size = _
  simp
theorem run_set_iter {w : World} {b : Nat} {a : Option Nat} {c d : Nat} {s : Array Nat} (o' : Obj) (h : w.heap[b]? = some (.mapIter a c s d)) : (setObj b o').run P w = .ok () (setAt w b o') := by
  simp only [setObj, Sem.run]
  rw [h]
  rfl
/-- 'next' at any place of the heap: nothing is left, or one entry that is left. -/
theorem run_next_at (w : World) (ty : TypeId) (b bm since c0 : Nat) (seen : Array Nat) (es : Array MapEntry) (clock : Nat) (hi : w.heap[b]? = some (.mapIter (some bm) since seen c0)) (hb : w.heap[bm]? = some (.map es clock)) (hold : ∀ x ∈ es.toList, x.born < since) (hsc : since ≤ c0) :
    ((leftOf es seen).size = 0 ∧ (Instr.next (.pointer (some ⟨b, 0, none⟩)) false ty).run P w = .ok (.tuple #[.bool false]) w) ∨
    ∃ e ∈ (leftOf es seen).toList, ∃ w1 : World, (w1 = w ∨ w1 = w.drew) ∧ (Instr.next (.pointer (some ⟨b, 0, none⟩)) false ty).run P w = .ok (.tuple #[.bool true, e.key, e.val]) (setAt w1 b (.mapIter (some bm) since (seen.push e.born) clock)) := by
  simp only [Instr.next, getObj, Sem.run_bind, Sem.run, hi, hb, Result.andThen, next_test_false seen es since c0 hold hsc, Bool.false_eq_true, if_false]
  unfold leftOf
  have hmem : ∀ x ∈ (Array.filter (fun e => !seen.contains e.born) es).toList, x.born < since := fun x hx => hold x (by simp at hx ⊢; exact hx.1)
  generalize Array.filter (fun e => !seen.contains e.born) es = L at hmem ⊢
  have e1 : L.filter (fun x => decide (x.born < since)) = L := Array.filter_eq_self.2 (fun x hx => by simpa using hmem x (by simpa using hx))
  have e2 : L.filter (fun x => decide (x.born ≥ since)) = #[] := by
    rw [Array.filter_eq_empty_iff]
    intro x hx
    have := hmem x (by simpa using hx)
    simp
    omega
  simp only [e1, e2, Array.append_empty]
  by_cases h0 : L.size = 0
  · left
    have : L = #[] := Array.eq_empty_of_size_eq_zero h0
    subst this
    refine ⟨rfl, ?_⟩
    simp [choose, Sem.run, Question.forced]
  · right
    have hne : L.isEmpty = false := by simp [Array.isEmpty, h0]
    simp only [hne, Bool.false_eq_true, if_false, Array.empty_append, Array.size_map]
    have hch : ∃ (j : Nat) (w1 : World), j < L.size ∧ (w1 = w ∨ w1 = w.drew) ∧ (choose (Question.mapNext L.size)).run P w = .ok j w1 := by
      by_cases hf : L.size ≤ 1
      · exact ⟨0, w, by omega, .inl rfl, by simp [choose, Sem.run, Question.forced, hf]⟩
      · exact ⟨_, w.drew, Nat.mod_lt _ (by omega), .inr rfl, by
          simp only [choose, Sem.run, Question.forced, decide_eq_true_eq, hf, if_false, Question.cut]
          rfl⟩
    obtain ⟨j, w1, hj, hal, hrun⟩ := hch
    have hi1 : w1.heap[b]? = some (.mapIter (some bm) since seen c0) := by rcases hal with rfl | rfl <;> exact hi
    refine ⟨L[j], by simp, w1, hal, ?_⟩
    simp only [hrun, Array.getElem?_map, Array.getElem?_eq_getElem hj, Option.map_some, Sem.run_bind, run_set_iter _ hi1, Result.andThen]
    rfl
theorem run_entry_at (w : World) (b bm since : Nat) (seen : Array Nat) (es : Array MapEntry) (clock : Nat) (e : MapEntry) (hi : w.heap[b]? = some (.mapIter (some bm) since seen clock)) (hs : seen.back? = some e.born) (hb : w.heap[bm]? = some (.map es clock)) (he : e ∈ es.toList) (hn : (es.toList.map (·.born)).Nodup) :
    (Instr.entry (.pointer (some ⟨b, 0, none⟩))).run P w = .ok (.tuple #[e.key, e.val]) w := by
  have hf : es.find? (·.born == e.born) = some e := by rw [← Array.find?_toList]; exact find_born e es.toList hn he
  simp only [Instr.entry, getObj, Sem.run_bind, Sem.run, hi, hb, Result.andThen, hs, bne_self_eq_false, Bool.false_eq_true, if_false, hf]
  rfl
/-- A key as a datum. -/
def keyToD : Ksh → List Int → D
  | .one i, l => .int i (l.headD 0)
  | .many is, l => .agg (List.zipWith D.int is l)
theorem keyToD_ok (sh : Ksh) (k : List Int) : Rd w F (keyToD sh k) (sh.key k) := by
  cases sh with
  | one i => exact .int
  | many is =>
    refine .agg (by simp [List.length_zipWith]) fun j x u hx hu => ?_
    rw [List.getElem?_zipWith_eq_some] at hx hu
    obtain ⟨a, c, h1, h2, rfl⟩ := hx
    obtain ⟨a', c', h3, h4, rfl⟩ := hu
    rw [h1] at h3
    rw [h2] at h4
    cases h3
    cases h4
    exact .int
/-- for .. := range m begins. -/
theorem op_range (hT : TabOk P T) {t : TypeId} {x : Operand} (hop : o.op = .range t x) {sh0 : Ksh} {te : TI} (ht : mapOf T t = some (sh0, te)) {sh : Ksh} {has : List Int → Bool} {val : List Int → D} (hx : ev env x = .d (.mapd sh has val))
    (hK : ∀ left : List (List Int), left.Nodup → (∀ k, k ∈ left ↔ sh.fits k ∧ has k = true) → K (.ptr m.new 0 0 0) (m.add (.iter sh has val left none))) : OpVC P o env m K :=
  ⟨fun c h => (by rw [hop] at h; cases h), fun a w F σ hev hm => by
    obtain ⟨kt, et, hu, _, _⟩ := mapOf_ok hT ht
    have hv := ev_ok hev x
    rw [hx] at hv
    obtain ⟨X, hX⟩ : ∃ X, a.eval x = X := ⟨_, rfl⟩
    rw [hX] at hv
    cases hv with
    | d hv =>
      cases hv with
      | mapd bm es clock ks hF hb hl hn h1 h2 hS h =>
        have hmem : ∀ k, k ∈ ks ↔ sh.fits k ∧ has k = true := fun k => by
          constructor
          · intro hk
            obtain ⟨i, hi, e⟩ := List.getElem_of_mem hk
            have hki : ks[i]? = some k := by rw [List.getElem?_eq_getElem hi, e]
            have hei : es[i]? = some (es[i]'(by omega)) := Array.getElem?_eq_getElem (by omega)
            obtain ⟨g1, _, g3⟩ := h1 i k _ hki hei
            exact ⟨g1, g3⟩
          · exact fun hk => h2 k hk.1 hk.2
        let pl : Pl := ⟨0, 1, some (w.heap.size, 1)⟩
        let w' : World := w.alloc (.mapIter (some bm) clock #[] clock)
        have hbn : bm < w.heap.size := hm.fl bm hF
        have hB : BlkOk w' F (upd σ m.new (some pl)) (.iter sh has val ks none) pl := by
          refine ⟨rfl, w.heap.size, rfl, bm, clock, #[], es, ks, ?_, hF, ?_, hl, hn, fun i k e hi he => ?_, h2, hS, hn, fun k => ?_, fun k hk => (by cases hk)⟩
          · exact Go.heap_alloc_new w _
          · rw [Go.heap_alloc_old w _ hbn]; exact hb
          · obtain ⟨g1, g2, g3⟩ := h1 i k e hi he
            exact ⟨g1, g2, g3, (h i k e hi he).mono (fun _ h => h) fun b' hb' => Go.heap_alloc_old w _ (hm.fl b' hb')⟩
          · constructor
            · intro hk
              obtain ⟨i, hi, e⟩ := List.getElem_of_mem hk
              exact ⟨i, es[i]'(by omega), by rw [List.getElem?_eq_getElem hi, e], Array.getElem?_eq_getElem (by omega), by simp⟩
            · rintro ⟨i, e, hi, _, _⟩
              exact List.mem_of_getElem? hi
        obtain ⟨k1, k2⟩ := fresh_ok (w' := w') hm (by simp [w']) (fun b hb => Go.heap_alloc_old w _ hb) hB (fun b t' h => by
          simp only [pl, Option.some.injEq, Prod.mk.injEq] at h
          obtain ⟨rfl, _⟩ := h
          exact ⟨Nat.le_refl _, by simp [w']⟩)
        refine ⟨_, .pointer (some ⟨w.heap.size, 0, none⟩), w', _, F, _, _, ?_, .inl rfl, hK ks hn hmem, .ptr (upd_self σ m.new (some pl)) fun p hp => ?_, k1, step_alloc (fun b t' h => ?_), k2⟩
        · have := run_range_map (P := P) w t kt et bm es clock hu hb
          simp [execOp, hop, hX, this, w']
        · injection hp with hp
          subst hp
          exact ⟨Nat.le_refl _, fun _ => ⟨w.heap.size, 1, rfl, by simp⟩⟩
        · simp only [pl, Option.some.injEq, Prod.mk.injEq] at h
          omega⟩
/-- The next round: none is left, or one that is left. -/
theorem op_next {x : Operand} (hop : o.op = .next x false) {r : Ref} (hx : ev env x = .ptr r 0 0 0) {sh : Ksh} {has : List Int → Bool} {val : List Int → D} {left : List (List Int)} {cur : Option (List Int)} (hB : m.get r = some (.iter sh has val left cur))
    (h0 : left = [] → K (.tup [.d (.bool false)]) m) (h1 : ∀ k, k ∈ left → K (.tup [.d (.bool true), .junk, .junk]) (m.put r (some (.iter sh has val (left.erase k) (some k))))) : OpVC P o env m K :=
  ⟨fun c h => (by rw [hop] at h; cases h), fun a w F σ hev hm => by
    have hv := ev_ok hev x
    rw [hx] at hv
    obtain ⟨pl, hr, hok, _, hat⟩ := ptr_row hm hv (Mem.get_at hB)
    obtain ⟨g0, b, hl, bm, clock, seen, es, ks, i1, hF, i2, i3, i4, i5, i6, i7, i10, i11, i12⟩ := hok
    obtain ⟨b', tot, hl', hX⟩ := hat g0
    rw [hl] at hl'
    obtain ⟨rfl, rfl⟩ := Prod.mk.inj (Option.some.inj hl')
    have hX' : a.eval x = .pointer (some ⟨b, 0, none⟩) := by rw [hX]; simp
    have hbn : ¬ F b := (hm.nf r pl b 1 hr hl).1
    have hblt : b < w.heap.size := (hm.nf r pl b 1 hr hl).2
    rcases run_next_at (P := P) w o.type b bm clock clock seen es clock i1 i2 i7.1 (Nat.le_refl _) with ⟨hz, hrun⟩ | ⟨e, he, w1, hw1, hrun⟩
    · have hn : left = [] := List.eq_nil_iff_forall_not_mem.2 fun k hk => by
        obtain ⟨i, e, _, he, hs⟩ := (i11 k).1 hk
        have : e ∈ leftOf es seen := by
          unfold leftOf
          rw [Array.mem_filter]
          exact ⟨Array.mem_of_getElem? he, by rw [hs]; rfl⟩
        have := Array.size_pos_of_mem this
        omega
      refine ⟨_, .tuple #[.bool false], w, σ, F, _, _, by simp [execOp, hop, hX', hrun], .inl rfl, h0 hn, ?_, hm, Step.refl σ F w, SLe.refl σ⟩
      refine .tup (us := [.bool false]) rfl fun j A u hA hu => ?_
      cases j with
      | zero => simp at hA hu; subst hA; subst hu; exact .d .bool
      | succ j => simp at hA
    · obtain ⟨hes, hseen⟩ := mem_left he
      obtain ⟨i, hi, hie⟩ := Array.getElem_of_mem (Array.mem_toList_iff.1 hes)
      have hei : es[i]? = some e := by rw [Array.getElem?_eq_getElem hi, hie]
      have hki : ks[i]? = some (ks[i]'(by omega)) := List.getElem?_eq_getElem (by omega)
      obtain ⟨k, hk⟩ : ∃ k, ks[i]'(by omega) = k := ⟨_, rfl⟩
      rw [hk] at hki
      have hkl : k ∈ left := (i11 k).2 ⟨i, e, hki, hei, hseen⟩
      have hbm : bm ≠ b := fun h => hbn (by rw [← h]; exact hF)
      let o' : Obj := .mapIter (some bm) clock (seen.push e.born) clock
      have hh1 : w1.heap = w.heap := by rcases hw1 with rfl | rfl <;> rfl
      have hi1 : w1.heap[b]? = some (.mapIter (some bm) clock seen clock) := by rw [hh1]; exact i1
      have hot : ∀ b', b' ≠ b → (setAt w1 b o').heap[b']? = w.heap[b']? := fun b' hb' => by rw [setAt_other w1 o' hb', hh1]
      have hkF : ∀ b', F b' → (setAt w1 b o').heap[b']? = w.heap[b']? := fun b' hb' => hot b' fun e => hbn (by rw [← e]; exact hb')
      have hBk : BlkOk (setAt w1 b o') F (upd σ r (some pl)) (.iter sh has val (left.erase k) (some k)) pl := by
        refine ⟨g0, b, hl, bm, clock, seen.push e.born, es, ks, setAt_at hi1, hF, by rw [hot bm hbm]; exact i2, i3, i4, fun i k e hi he => ?_, i6, i7, i10.erase _, fun k' => ?_, fun k' hk' => ?_⟩
        · obtain ⟨p1, p2, p3, p4⟩ := i5 i k e hi he
          exact ⟨p1, p2, p3, p4.mono (fun _ h => h) hkF⟩
        · rw [i10.mem_erase_iff, i11 k']
          constructor
          · rintro ⟨hne, i', e', q1, q2, q3⟩
            refine ⟨i', e', q1, q2, ?_⟩
            rw [contains_push, q3, Bool.false_or]
            cases hc : e'.born == e.born with
            | false => rfl
            | true =>
              exfalso
              have hbe : e'.born = e.born := beq_iff_eq.1 hc
              have hii : i' = i := by
                have hlen1 : i' < (es.toList.map (·.born)).length := by rw [List.length_map, Array.length_toList]; exact (Array.getElem?_eq_some_iff.1 q2).1
                have hlen2 : i < (es.toList.map (·.born)).length := by rw [List.length_map, Array.length_toList]; exact hi
                refine (List.getElem_inj i7.2 (i := i') (j := i) (h₀ := hlen1) (h₁ := hlen2)).1 ?_
                simp only [List.getElem_map, Array.getElem_toList]
                rw [(Array.getElem?_eq_some_iff.1 q2).2, hie]
                exact hbe
              subst hii
              rw [hki] at q1
              injection q1 with q1
              exact hne q1.symm
          · rintro ⟨i', e', q1, q2, q3⟩
            rw [contains_push, Bool.or_eq_false_iff] at q3
            refine ⟨fun hkk => ?_, i', e', q1, q2, q3.1⟩
            have hii : i' = i := by
              have hlen1 : i' < ks.length := (List.getElem?_eq_some_iff.1 q1).1
              refine (List.getElem_inj i4 (i := i') (j := i) (h₀ := hlen1) (h₁ := by omega)).1 ?_
              rw [(List.getElem?_eq_some_iff.1 q1).2, hk, hkk]
            subst hii
            rw [hei] at q2
            injection q2 with q2
            subst q2
            simp at q3
        · injection hk' with hk'
          subst hk'
          exact ⟨i, e, hki, hei, Array.back?_push⟩
      obtain ⟨q4, q5⟩ := change_ok hm (w' := setAt w1 b o') hr (by rw [setAt_size, hh1]; exact Nat.le_refl _) (fun b' _ hne => hot b' fun e => hne 1 (by rw [e]; exact hl))
        ⟨Nat.le_refl _, fun _ => rfl⟩ hBk (fun b' t' h => by rw [setAt_size, hh1]; exact ⟨by rw [hl] at h; cases h; exact hblt, .inl ⟨t', h⟩⟩)
      refine ⟨_, .tuple #[.bool true, e.key, e.val], setAt w1 b o', _, F, _, _, by simp [execOp, hop, hX', hrun, o'], .inl rfl, h1 k hkl, ?_, q4, ⟨?_, ?_, ?_, ?_, by rw [setAt_size, hh1]; exact Nat.le_refl _, fun b' _ ho => hot b' fun e => ho ⟨r, pl, 1, hr, by rw [e]; exact hl⟩, fun _ h => h, fun _ h => .inl h, own_upd_old hr (fun b' t' h => .inl ⟨t', h⟩)⟩, q5⟩
      · refine .tup (us := [.bool true, e.key, e.val]) rfl fun j A u hA hu => ?_
        match j with
        | 0 => simp at hA hu; subst hA; subst hu; exact .d .bool
        | 1 => simp at hA; subst hA; exact .junk
        | 2 => simp at hA; subst hA; exact .junk
        | _ + 3 => simp at hA
      all_goals rcases hw1 with rfl | rfl
      all_goals first | rfl | exact Nat.le_refl _ | exact Nat.le_succ _⟩
/-- The key and the value of this round. -/
theorem op_entry {x : Operand} (hop : o.op = .entry x) {r : Ref} (hx : ev env x = .ptr r 0 0 0) {sh : Ksh} {has : List Int → Bool} {val : List Int → D} {left : List (List Int)} {k : List Int} (hB : m.get r = some (.iter sh has val left (some k)))
    (hK : K (.tup [.d (keyToD sh k), .d (val k)]) m) : OpVC P o env m K :=
  ⟨fun c h => (by rw [hop] at h; cases h), fun a w F σ hev hm => by
    have hv := ev_ok hev x
    rw [hx] at hv
    obtain ⟨pl, hr, hok, _, hat⟩ := ptr_row hm hv (Mem.get_at hB)
    obtain ⟨g0, b, hl, bm, clock, seen, es, ks, i1, hF, i2, i3, i4, i5, i6, i7, i10, i11, i12⟩ := hok
    obtain ⟨b', tot, hl', hX⟩ := hat g0
    rw [hl] at hl'
    obtain ⟨rfl, rfl⟩ := Prod.mk.inj (Option.some.inj hl')
    have hX' : a.eval x = .pointer (some ⟨b, 0, none⟩) := by rw [hX]; simp
    obtain ⟨i, e, hki, hei, hs⟩ := i12 k rfl
    obtain ⟨p1, p2, p3, p4⟩ := i5 i k e hki hei
    have hrun := run_entry_at (P := P) w b bm clock seen es clock e i1 hs i2 (Array.mem_toList_iff.2 (Array.mem_of_getElem? hei)) i7.2
    refine ⟨_, .tuple #[e.key, e.val], w, σ, F, _, _, by simp [execOp, hop, hX', hrun], .inl rfl, hK, ?_, hm, Step.refl σ F w, SLe.refl σ⟩
    refine .tup (us := [e.key, e.val]) rfl fun j A u hA hu => ?_
    match j with
    | 0 => simp at hA hu; subst hA; subst hu; rw [p2]; exact .d (keyToD_ok sh k)
    | 1 => simp at hA hu; subst hA; subst hu; exact .d p4
    | _ + 2 => simp at hA⟩
end
end Go.Ab
/-
  The engine, part AM: m[k] op= x, where the order is left open.
-/
namespace Go.Ab
set_option linter.unusedSimpArgs false
set_option linter.unusedVariables false
section
variable {P : Program} {T : Tab} {N : Nat} {w : World} {F : Nat → Prop} {σ : Pls} {m : Mem} {env : Env} {K : AV → Mem → Prop} {o : Oper}
/-- The stamp of the entry that is there, or that will be. -/
def StampOf (sh : Ksh) (es : Array MapEntry) (clock : Nat) (key : List Int) (c : Nat) : Prop :=
  (∃ (i : Nat) (e : MapEntry), es[i]? = some e ∧ e.key = sh.key key ∧ e.born = c) ∨ ((∀ (i : Nat) (e : MapEntry), es[i]? = some e → e.key ≠ sh.key key) ∧ c = clock)
theorem stamp_ex (sh : Ksh) (es : Array MapEntry) (clock : Nat) (key : List Int) : ∃ c, StampOf sh es clock key c := by
  by_cases h : ∃ (i : Nat) (e : MapEntry), es[i]? = some e ∧ e.key = sh.key key
  · obtain ⟨i, e, h1, h2⟩ := h
    exact ⟨e.born, .inl ⟨i, e, h1, h2, rfl⟩⟩
  · exact ⟨clock, .inr ⟨fun i e h1 h2 => h ⟨i, e, h1, h2⟩, rfl⟩⟩
theorem put_put {r : Ref} {x y : Option Blk} : (m.put r x).put r y = m.put r y := by
  cases r <;> simp [Mem.put, putAt_eq]
theorem put_id {r : Ref} {x : Option Blk} (h : m.at r = some x) : m.put r x = m := by
  cases r with
  | loc j =>
    simp only [Mem.at] at h
    obtain ⟨hj, e⟩ := List.getElem?_eq_some_iff.1 h
    simp only [Mem.put, putAt_eq]
    rw [← e, List.set_getElem_self]
  | arg j =>
    simp only [Mem.at] at h
    obtain ⟨hj, e⟩ := List.getElem?_eq_some_iff.1 h
    simp only [Mem.put, putAt_eq]
    rw [← e, List.set_getElem_self]
  | bad => rfl
theorem upd_same {r : Ref} {q : Option Pl} (h : σ r = some q) : upd σ r q = σ := by
  funext r'
  by_cases e : r' = r
  · subst e; rw [upd_self, h]
  · rw [upd_other σ _ e]
/-- The entry is laid hold of. -/
theorem run_hold (hT : TabOk P T) (hm : MemOk m σ F w) {t : TypeId} {sh : Ksh} {te : TI} (hmt : mapOf T t = some (sh, te)) {r : Ref} {has : List Int → Bool} {val : List Int → AV} (hB : m.at r = some (some (.map sh has val))) {key : List Int} (hfit : sh.fits key)
    (hz : has key = false → ZFit te (val key)) {pl : Pl} {b : Nat} (hr : σ r = some (some pl)) (h0 : pl.g = 0) (hl : pl.loc = some (b, 1)) {es : Array MapEntry} {clock c : Nat} (hb : w.heap[b]? = some (.map es clock)) (hc : StampOf sh es clock key c) :
    ∃ (u0 : Value) (w1 : World), (Instr.mapEntry t (.map (some b)) (sh.key key)).run P w = .ok (.tuple #[u0, .int .i64 c]) w1 ∧ Vc w1 F σ (val key) u0 ∧ MemOk (m.put r (some (.map sh (fun x => decide (x = key) || has x) val))) σ F w1 ∧ Step σ F w σ F w1 ∧
      ∃ (es1 : Array MapEntry) (clock1 i : Nat) (e1 : MapEntry), w1.heap[b]? = some (.map es1 clock1) ∧ es1[i]? = some e1 ∧ e1.key = sh.key key ∧ e1.born = c := by
  obtain ⟨kt, et, hu, hs, hte⟩ := mapOf_ok hT hmt
  obtain ⟨B', hB', hok⟩ := (hm.lv r _ hr).2 pl rfl
  rw [hB] at hB'
  injection hB' with hB'
  injection hB' with hB'
  subst hB'
  obtain ⟨_, b', hl', es', clock', ks, g1, g2, g3, g4, g5, gst⟩ := hok
  rw [hl] at hl'
  obtain ⟨rfl, _⟩ := Prod.mk.inj (Option.some.inj hl')
  rw [hb] at g1
  injection g1 with g1
  injection g1 with e1 e2
  subst e1
  subst e2
  have hks : KeysAre sh ks es := ⟨g2, fun i k e hi he => ⟨(g4 i k e hi he).1, (g4 i k e hi he).2.1⟩⟩
  have hlt : b < w.heap.size := (Array.getElem?_eq_some_iff.1 hb).1
  have hF : ¬ F b := (hm.nf r pl b 1 hr hl).1
  have hs0 : SLe σ (upd σ r (some pl)) := SLe.upd_old hr (QLe.refl _)
  have hup : upd σ r (some pl) = σ := upd_same hr
  have keyat : ∀ (i : Nat) (e : MapEntry), es[i]? = some e → e.key = sh.key key → ks[i]? = some key := fun i e he hk => by
    have hi : i < ks.length := by rw [g2]; exact (Array.getElem?_eq_some_iff.1 he).1
    have hki : ks[i]? = some ks[i] := List.getElem?_eq_getElem hi
    obtain ⟨q1, q2, _⟩ := g4 i _ e hki he
    rw [hki, key_inj hs q1 hfit (q2.symm.trans hk)]
  rcases run_find hs hks hfit with ⟨e1, e2⟩ | ⟨i, e0, e1, e2, e3⟩
  · have hcc : c = clock := by
      rcases hc with ⟨i, e, h1, h2, _⟩ | ⟨_, h⟩
      · exact absurd (List.mem_of_getElem? (keyat i e h1 h2)) e1
      · exact h
    subst hcc
    have hn : has key = false := by
      cases hh : has key with
      | false => rfl
      | true => exact absurd (g5 key hfit hh) e1
    obtain ⟨z, hz1, hz2⟩ := ZFit.ok (w := w) (F := F) (σ := σ) hte (hz hn) w
    let o' : Obj := .map (es.push { key := sh.key key, val := z, born := c }) (c + 1)
    let w1 : World := { w with heap := w.heap.setIfInBounds b o' }
    obtain ⟨s1, s2⟩ := MapKept.heap_set (o' := o') hb
    have hsz : w1.heap.size = w.heap.size := by simp [w1]
    have hkF : ∀ b', F b' → w1.heap[b']? = w.heap[b']? := fun b' hb' => s2 b' (fun e => hF (by rw [← e]; exact hb'))
    have hlast : (ks ++ [key])[es.size]? = some key := by rw [← g2]; simp
    have hBk : BlkOk w1 F (upd σ r (some pl)) (.map sh (fun x => decide (x = key) || has x) val) pl := by
      refine ⟨h0, b, hl, es.push { key := sh.key key, val := z, born := c }, c + 1, ks ++ [key], s1, by simp [g2], nodup_snoc g3 e1, fun j k' e hj he => ?_, fun k' hk' hh => ?_, stp_push gst⟩
      · rw [List.getElem?_append] at hj
        rw [Array.getElem?_push] at he
        by_cases hjl : j < ks.length
        · rw [if_pos hjl] at hj
          rw [if_neg (by omega)] at he
          obtain ⟨q1, q2, q3, q4⟩ := g4 j k' e hj he
          exact ⟨q1, q2, by simp [q3], q4.mono (fun _ h => h) hkF hs0⟩
        · rw [if_neg hjl] at hj
          have hj0 : j - ks.length = 0 := by
            rcases Nat.eq_zero_or_pos (j - ks.length) with h | h
            · exact h
            · rw [List.getElem?_eq_none (by simp; omega)] at hj; cases hj
          rw [hj0] at hj
          simp at hj
          subst hj
          rw [if_pos (by omega)] at he
          simp at he
          subst he
          exact ⟨hfit, rfl, by simp, hz2.mono (fun _ h => h) hkF hs0⟩
      · simp only [Bool.or_eq_true, decide_eq_true_eq] at hh
        rcases hh with rfl | hh
        · simp
        · exact List.mem_append_left _ (g5 k' hk' hh)
    obtain ⟨q1, q2⟩ := change_ok hm (w' := w1) hr (by rw [hsz]; exact Nat.le_refl _) (fun b' _ hne => s2 b' (fun e => hne 1 (by rw [e]; exact hl)))
      ⟨Nat.le_refl _, fun _ => rfl⟩ hBk (fun b' t' h => by rw [hsz]; exact ⟨by rw [hl] at h; cases h; exact hlt, .inl ⟨t', h⟩⟩)
    have hst1 : Step σ F w (upd σ r (some pl)) F w1 := ⟨rfl, rfl, rfl, Nat.le_refl _, by rw [hsz]; exact Nat.le_refl _, fun b' _ ho => s2 b' (fun e => ho ⟨r, pl, 1, hr, by rw [e]; exact hl⟩), fun _ h => h, fun _ h => .inl h, own_upd_old hr (fun b' t' h => .inl ⟨t', h⟩)⟩
    rw [hup] at q1 hst1
    refine ⟨z, w1, ?_, hz2.mono (fun _ h => h) hkF (SLe.refl σ), q1, hst1, es.push { key := sh.key key, val := z, born := c }, c + 1, es.size, { key := sh.key key, val := z, born := c }, s1, by simp, rfl, rfl⟩
    simp [Instr.mapEntry, run_underlying hu, MapKept.run_getObj_map hb, run_check hs hfit, e2, hz1, MapKept.run_setObj_map _ hb, goInt, w1, o']
  · obtain ⟨p1, p2, p3, p4⟩ := g4 i key e0 e2 e1
    have hcc : e0.born = c := by
      rcases hc with ⟨j, e, h1, h2, h3⟩ | ⟨h, _⟩
      · have hj := keyat j e h1 h2
        have a1 := List.getElem?_eq_some_iff.1 hj
        have a2 := List.getElem?_eq_some_iff.1 e2
        have : j = i := (List.getElem_inj g3).1 (a1.2.trans a2.2.symm)
        subst this
        rw [e1] at h1
        injection h1 with h1
        rw [h1]
        exact h3
      · exact absurd p2 (h i e0 e1)
    let es1 := es.modify i fun e => { e with key := sh.key key }
    have hes1 : es1 = es := by
      apply Array.ext_getElem?
      intro j
      simp only [es1, Array.getElem?_modify]
      by_cases hij : i = j
      · subst hij
        rw [if_pos rfl, e1]
        simp [← p2]
      · rw [if_neg hij]
    let w1 : World := { w with heap := w.heap.setIfInBounds b (.map es1 clock) }
    obtain ⟨s1, s2⟩ := MapKept.heap_set (o' := .map es1 clock) hb
    have hsz : w1.heap.size = w.heap.size := by simp [w1]
    have hkF : ∀ b', F b' → w1.heap[b']? = w.heap[b']? := fun b' hb' => s2 b' (fun e => hF (by rw [← e]; exact hb'))
    have hBk : BlkOk w1 F (upd σ r (some pl)) (.map sh (fun x => decide (x = key) || has x) val) pl := by
      refine ⟨h0, b, hl, es, clock, ks, by rw [s1, hes1], g2, g3, fun j k' e hj he => ?_, fun k' hk' hh => ?_, gst⟩
      · obtain ⟨q1, q2, q3, q4⟩ := g4 j k' e hj he
        exact ⟨q1, q2, by simp [q3], q4.mono (fun _ h => h) hkF hs0⟩
      · simp only [Bool.or_eq_true, decide_eq_true_eq] at hh
        rcases hh with rfl | hh
        · exact List.mem_of_getElem? e2
        · exact g5 k' hk' hh
    obtain ⟨q1, q2⟩ := change_ok hm (w' := w1) hr (by rw [hsz]; exact Nat.le_refl _) (fun b' _ hne => s2 b' (fun e => hne 1 (by rw [e]; exact hl)))
      ⟨Nat.le_refl _, fun _ => rfl⟩ hBk (fun b' t' h => by rw [hsz]; exact ⟨by rw [hl] at h; cases h; exact hlt, .inl ⟨t', h⟩⟩)
    have hst1 : Step σ F w (upd σ r (some pl)) F w1 := ⟨rfl, rfl, rfl, Nat.le_refl _, by rw [hsz]; exact Nat.le_refl _, fun b' _ ho => s2 b' (fun e => ho ⟨r, pl, 1, hr, by rw [e]; exact hl⟩), fun _ h => h, fun _ h => .inl h, own_upd_old hr (fun b' t' h => .inl ⟨t', h⟩)⟩
    rw [hup] at q1 hst1
    refine ⟨e0.val, w1, ?_, p4.mono (fun _ h => h) hkF (SLe.refl σ), q1, hst1, es, clock, i, e0, by rw [← hes1]; exact s1, e1, p2, hcc⟩
    rw [← hcc]
    simp [Instr.mapEntry, run_underlying hu, MapKept.run_getObj_map hb, run_check hs hfit, e3, e1, p2, run_stays hs, MapKept.run_setObj_map _ hb, goInt, w1, es1]
/-- A datum is stored in the entry that is held. -/
theorem run_stow (hT : TabOk P T) (hm : MemOk m σ F w) {t : TypeId} {sh : Ksh} {te : TI} (hmt : mapOf T t = some (sh, te)) {r : Ref} {has : List Int → Bool} {val : List Int → AV} (hB : m.at r = some (some (.map sh has val))) {key : List Int} (hfit : sh.fits key)
    {pl : Pl} {b : Nat} (hr : σ r = some (some pl)) (h0 : pl.g = 0) (hl : pl.loc = some (b, 1)) {es : Array MapEntry} {clock c i : Nat} {e0 : MapEntry} (hb : w.heap[b]? = some (.map es clock)) (hei : es[i]? = some e0) (hke : e0.key = sh.key key) (hce : e0.born = c)
    {A : AV} {u : Value} (hv : Vc w F σ A u) :
    ∃ w1 : World, (Instr.entryStore t (.map (some b)) (.int .i64 c) u).run P w = .ok () w1 ∧ MemOk (m.put r (some (.map sh has fun k => bif decide (k = key) then A else val k))) σ F w1 ∧ Step σ F w σ F w1 := by
  obtain ⟨kt, et, hu, hs, hte⟩ := mapOf_ok hT hmt
  obtain ⟨B', hB', hok⟩ := (hm.lv r _ hr).2 pl rfl
  rw [hB] at hB'
  injection hB' with hB'
  injection hB' with hB'
  subst hB'
  obtain ⟨_, b', hl', es', clock', ks, g1, g2, g3, g4, g5, gst⟩ := hok
  rw [hl] at hl'
  obtain ⟨rfl, _⟩ := Prod.mk.inj (Option.some.inj hl')
  rw [hb] at g1
  injection g1 with g1
  injection g1 with e1 e2
  subst e1
  subst e2
  have hlt : b < w.heap.size := (Array.getElem?_eq_some_iff.1 hb).1
  have hF : ¬ F b := (hm.nf r pl b 1 hr hl).1
  have hs0 : SLe σ (upd σ r (some pl)) := SLe.upd_old hr (QLe.refl _)
  have hup : upd σ r (some pl) = σ := upd_same hr
  have hki : ks[i]? = some key := by
    have hi : i < ks.length := by rw [g2]; exact (Array.getElem?_eq_some_iff.1 hei).1
    have hki : ks[i]? = some ks[i] := List.getElem?_eq_getElem hi
    obtain ⟨q1, q2, _⟩ := g4 i _ e0 hki hei
    rw [hki, key_inj hs q1 hfit (q2.symm.trans hke)]
  let es1 := es.modify i fun e => { e with val := u }
  let w1 : World := { w with heap := w.heap.setIfInBounds b (.map es1 clock) }
  obtain ⟨s1, s2⟩ := MapKept.heap_set (o' := .map es1 clock) hb
  have hsz : w1.heap.size = w.heap.size := by simp [w1]
  have hkF : ∀ b', F b' → w1.heap[b']? = w.heap[b']? := fun b' hb' => s2 b' (fun e => hF (by rw [← e]; exact hb'))
  have hBk : BlkOk w1 F (upd σ r (some pl)) (.map sh has fun k => bif decide (k = key) then A else val k) pl := by
    refine ⟨h0, b, hl, es1, clock, ks, s1, by simp [es1, g2], g3, fun j k' e hj he => ?_, g5, stp_modify gst fun _ => rfl⟩
    simp only [es1, Array.getElem?_modify] at he
    by_cases hij : i = j
    · subst hij
      rw [if_pos rfl, hei] at he
      simp at he
      subst he
      rw [hki] at hj
      injection hj with hj
      subst hj
      obtain ⟨p1, p2, p3, p4⟩ := g4 i key e0 hki hei
      refine ⟨p1, p2, p3, ?_⟩
      simp only [decide_true, cond_true]
      exact hv.mono (fun _ h => h) hkF hs0
    · rw [if_neg hij] at he
      obtain ⟨p1, p2, p3, p4⟩ := g4 j k' e hj he
      have hne : k' ≠ key := fun e => by
        subst e
        have hi := (List.getElem?_eq_some_iff.1 hki)
        have hj2 := (List.getElem?_eq_some_iff.1 hj)
        exact hij ((List.getElem_inj g3).1 (hi.2.trans hj2.2.symm))
      refine ⟨p1, p2, p3, ?_⟩
      simp only [decide_eq_false hne, cond_false]
      exact p4.mono (fun _ h => h) hkF hs0
  obtain ⟨q1, q2⟩ := change_ok hm (w' := w1) hr (by rw [hsz]; exact Nat.le_refl _) (fun b' _ hne => s2 b' (fun e => hne 1 (by rw [e]; exact hl)))
    ⟨Nat.le_refl _, fun _ => rfl⟩ hBk (fun b' t' h => by rw [hsz]; exact ⟨by rw [hl] at h; cases h; exact hlt, .inl ⟨t', h⟩⟩)
  have hst1 : Step σ F w (upd σ r (some pl)) F w1 := ⟨rfl, rfl, rfl, Nat.le_refl _, by rw [hsz]; exact Nat.le_refl _, fun b' _ ho => s2 b' (fun e => ho ⟨r, pl, 1, hr, by rw [e]; exact hl⟩), fun _ h => h, fun _ h => .inl h, own_upd_old hr (fun b' t' h => .inl ⟨t', h⟩)⟩
  rw [hup] at q1 hst1
  refine ⟨w1, ?_, q1, hst1⟩
  have hfind := stp_find gst hei
  rw [hce] at hfind
  simp [Instr.entryStore, MapKept.run_getObj_map hb, asInt, asIntOf, hfind, MapKept.run_setObj_map _ hb, w1, es1]
/-- What is looked at of a map while an entry of it is held: the value of that entry. -/
theorem MemOk.look {r : Ref} {sh : Ksh} {has has' : List Int → Bool} {val : List Int → AV} (hm : MemOk (m.put r (some (.map sh has' val))) σ F w) {b0 : Option Blk} (hr : m.at r = some b0) {key : List Int} (hfit : sh.fits key) (hh : has key = true → has' key = true) : MemOk (m.put r (some (.look sh key (val key) (has key)))) σ F w where
  dom r' := by
    by_cases e : r' = r
    · subst e
      have := hm.dom r'
      rw [put_self _ hr] at this ⊢
      exact ⟨fun h => (by have := this.1 h; cases this), fun h => (by cases h)⟩
    · have := hm.dom r'
      rw [put_other _ e] at this ⊢
      exact this
  lv r' q hq := by
    by_cases e : r' = r
    · subst e
      have := hm.lv r' q hq
      rw [put_self _ hr] at this ⊢
      refine ⟨fun h => (by have := this.1 h; cases this), fun pl hp => ?_⟩
      obtain ⟨B, hB, hok⟩ := this.2 pl hp
      injection hB with hB
      injection hB with hB
      subst hB
      obtain ⟨h0, b, hl, es, clock, ks, g1, g2, g3, g4, g5, gst⟩ := hok
      exact ⟨_, rfl, h0, b, hl, es, clock, ks, g1, g2, fun i k e hi he => ⟨(g4 i k e hi he).1, (g4 i k e hi he).2.1⟩, fun h => g5 key hfit (hh h), fun i e hi he => (g4 i key e hi he).2.2.2⟩
    · have := hm.lv r' q hq
      rw [put_other _ e] at this ⊢
      exact this
  inj := hm.inj
  nf := hm.nf
  fl := hm.fl
  gl := hm.gl
/-- Everything else is done before this operation. -/
def lastOk (ops : List Oper) (i : Nat) : Bool := match ops[i]? with
  | some o => (List.range ops.length).all fun j => Nat.beq j i || edgeOn o.after.toList j
  | none => false
theorem lastOk_at {ops : Array Oper} {i : Nat} {o : Oper} (h : lastOk ops.toList i = true) (ho : ops[i]? = some o) {listed : Array Bool} (hen : ∀ e ∈ o.after, Region.binds .any e = true → listed.getD e.on true = true) (j : Nat) (hj : j < ops.size) (hji : j ≠ i) : listed.getD j true = true := by
  unfold lastOk at h
  rw [Array.getElem?_toList, ho] at h
  have := List.all_eq_true.1 h j (List.mem_range.2 (by rw [Array.length_toList]; exact hj))
  rw [Bool.or_eq_true] at this
  rcases this with h1 | h1
  · exact absurd (Nat.eq_of_beq_eq_true h1) hji
  · obtain ⟨e, he, heo, heb⟩ := edgeTo_of h1
    have := hen e he heb
    rwa [heo] at this
/-- What this operation reads is made before it. -/
def readsOk (ops : List Oper) (i : Nat) (ts : List Nat) : Bool := match ops[i]? with
  | some o => ts.all fun t => (List.range ops.length).all fun j => match ops[j]? with
    | some o' => match o'.dst with
      | some d => !(Nat.beq d t) || edgeOn o.after.toList j
      | none => true
    | none => true
  | none => false
theorem readsOk_at {ops : Array Oper} {i : Nat} {o : Oper} {ts : List Nat} (h : readsOk ops.toList i ts = true) (ho : ops[i]? = some o) {t : Nat} (ht : t ∈ ts) {j : Nat} {o' : Oper} (hj : ops[j]? = some o') (hd : o'.dst = some t) : edgeTo o j := by
  unfold readsOk at h
  rw [Array.getElem?_toList, ho] at h
  have h1 := List.all_eq_true.1 (List.all_eq_true.1 h t ht) j (List.mem_range.2 (by rw [Array.length_toList]; exact (Array.getElem?_eq_some_iff.1 hj).1))
  rw [Array.getElem?_toList, hj] at h1
  simp only [hd, Nat.beq_refl, Bool.not_true, Bool.false_or] at h1
  exact edgeTo_of h1
theorem rd_of {ops : Array Oper} {i : Nat} {o : Oper} {ts : List Nat} (hro : readsOk ops.toList i ts = true) (ho : ops[i]? = some o) {As : Nat → AV} (hE : ∀ (j : Nat) o d, ops[j]? = some o → o.dst = some d → get (envsOf env ops.toList As ops.size) d = As j)
    {σ' : Pls} {F' : Nat → Prop} {w' : World} {a' : Act} {listed : Array Bool} (hen : ∀ e ∈ o.after, Region.binds .any e = true → listed.getD e.on true = true) (hs : Slots ops ops.size env σ' As listed F' w' a'.tmps) : ∀ t ∈ ts, Vc w' F' σ' (get (envsOf env ops.toList As ops.size) t) (a'.tmps.getD t undef) := fun t ht => by
  by_cases hex : ∃ (j : Nat) (o' : Oper), ops[j]? = some o' ∧ o'.dst = some t
  · obtain ⟨j, o', ho', hdo'⟩ := hex
    obtain ⟨e, he, heo, heb⟩ := readsOk_at hro ho ht ho' hdo'
    rw [hE j o' t ho' hdo']
    refine (hs t).1 j o' (Array.getElem?_eq_some_iff.1 ho').1 ho' hdo' ?_
    have := hen e he heb
    rwa [heo] at this
  · have hsz : ops.toList.length = ops.size := Array.length_toList
    have : get (envsOf env ops.toList As ops.size) t = get (envsOf env ops.toList As 0) t := envs_stable (i := 0) ops.size (Nat.zero_le _) (fun j o2 _ _ h3 h4 => hex ⟨j, o2, by rwa [Array.getElem?_toList] at h3, h4⟩)
    rw [this]
    exact (hs t).2 fun j o2 h3 h4 => absurd ⟨j, o2, h3, h4⟩ hex
variable {ro : Option Nat}
theorem wpOp_run {ops : Array Oper} {Q : Exit → Act → World → Prop} {i : Nat} {o : Oper} {next : Act → World → Prop} {a' : Act} {w' w2 : World} (ho : ops[i]? = some o) (hg : o.guard = none) (hdef : ∀ c, o.op ≠ .defer c) {n : Next} {u : Value}
    (hrun : (execOp a'.eval o).run P w' = .ok n w2) (hn : n = .value u ∨ (n = .skip ∧ o.dst = none)) (hk : next (a'.put o.dst u) w2) : wpOpIn (Fen ro) 0 P ops Q i next a' w' := by
  have hw : Region.wanted o (yielded ops a'.tmps) = true := by simp [Region.wanted, hg]
  unfold wpOpIn
  simp only [ho, hw, if_true]
  refine wpIn_at hdef ?_
  rw [hrun]
  rcases hn with rfl | ⟨rfl, hd⟩
  · exact hk
  · show next (a'.put o.dst undef) w2
    rw [hd] at hk ⊢
    exact hk
theorem Awp.inc (hT : TabOk P T) {id N : Nat} {ops : Array Oper} {Q : Post} (h1 : P.follows .mixedOrders = true) (h2 : okR ops.toList = true) (hd : dstsIn N ops.toList = true) (i1 i2 : Nat) {o1 o2 : Oper} {d1 : Nat} {t : TypeId} {x k x2 s v : Nat}
    (ho1 : ops[i1]? = some o1) (hop1 : o1.op = .mapEntry t (.tmp x) (.tmp k)) (hd1 : o1.dst = some d1) (b1 : Nat.blt d1 N = true) (g1 : o1.guard = none) (n1 : readsOk ops.toList i1 [x, k] = true)
    (ho2 : ops[i2]? = some o2) (hop2 : o2.op = .entryStore t (.tmp x2) (.tmp s) (.tmp v)) (hd2 : o2.dst = none) (g2 : o2.guard = none) (n2 : readsOk ops.toList i2 [x2, s, v] = true) (hne : Nat.beq i1 i2 = false) (hlast : lastOk ops.toList i2 = true)
    {r : Ref} {sh : Ksh} {te : TI} {has : List Int → Bool} {val : List Int → AV} (hmt : mapOf T t = some (sh, te)) (hB : m.get r = some (.map sh has val)) {key : List Int} (hfit : sh.fits key) (hz : has key = false → ZFit te (val key)) {new : AV}
    (h : ∀ c : Nat, vcE P T ops.toList (m.put r (some (.look sh key (val key) (has key)))) (fun i => Nat.beq i i1 || Nat.beq i i2) (fun i => bif Nat.beq i i1 then .tup [val key, .d (.int .i64 c)] else .junk) ops.toList 0 env fun E =>
      get E x = .mp r ∧ keyOf sh (get E k) = some key ∧ get E x2 = .mp r ∧ get E s = .d (.int .i64 c) ∧ get E v = new ∧ Ev (Q .normal E (m.put r (some (.map sh (fun y => decide (y = key) || has y) fun y => bif decide (y = key) then new else val y))))) : Awp P N (.region id ops true) env m Q :=
  ⟨fun ro lo a w σ F hN hD he hm => by
    have hi1 : i1 < ops.size := (Array.getElem?_eq_some_iff.1 ho1).1
    have hi2 : i2 < ops.size := (Array.getElem?_eq_some_iff.1 ho2).1
    have hne' : i1 ≠ i2 := Nat.ne_of_beq_eq_false hne
    have hBa := Mem.get_at hB
    obtain ⟨pl, hr⟩ : ∃ pl, σ r = some (some pl) := by
      cases hq : σ r with
      | none => rw [(hm.dom r).1 hq] at hBa; cases hBa
      | some q => cases q with
        | none => have := (hm.lv r _ hq).1 rfl; rw [hBa] at this; cases this
        | some pl => exact ⟨pl, rfl⟩
    obtain ⟨B', hB', hok⟩ := (hm.lv r _ hr).2 pl rfl
    rw [hBa] at hB'
    injection hB' with hB'
    injection hB' with hB'
    subst hB'
    obtain ⟨hg0, b, hl, es, clock, ks, hb, _⟩ := hok
    obtain ⟨c, hc⟩ := stamp_ex sh es clock key
    have hbF : ¬ F b := (hm.nf r pl b 1 hr hl).1
    let m1 : Mem := m.put r (some (.map sh (fun y => decide (y = key) || has y) val))
    let m2 : Mem := m.put r (some (.map sh (fun y => decide (y = key) || has y) fun y => bif decide (y = key) then new else val y))
    have hm0 : m.put r (some (.map sh has val)) = m := put_id hBa
    refine drawn_eff (m := m.put r (some (.look sh key (val key) (has key)))) (σ := σ) h1 h2 hT hd (h c) hN he (fun listed a' w' F' σ' => σ' = σ ∧ (listed.getD i2 true = true → ∀ i, i < ops.size → listed.getD i true = true) ∧ MemOk (bif listed.getD i2 true then m2 else bif listed.getD i1 true then m1 else m) σ' F' w' ∧
      (listed.getD i1 true = false → w'.heap[b]? = some (.map es clock)) ∧ (listed.getD i1 true = true → listed.getD i2 true = false → ∃ (es1 : Array MapEntry) (clock1 i : Nat) (e1 : MapEntry), w'.heap[b]? = some (.map es1 clock1) ∧ es1[i]? = some e1 ∧ e1.key = sh.key key ∧ e1.born = c) ∧ Step σ F w σ' F' w') ?_ ?_ ?_ ?_ ?_
    · rintro listed a' w' F' σ' i hi hei hli ⟨rfl, hall, hk, _⟩
      have hl2 : listed.getD i2 true = false := by
        cases e : listed.getD i2 true with
        | false => rfl
        | true => rw [hall e i hi] at hli; cases hli
      rw [hl2] at hk
      cases e1 : listed.getD i1 true with
      | true =>
        rw [e1] at hk
        exact MemOk.look (has := has) hk hBa hfit (fun h => by simp [h])
      | false =>
        rw [e1] at hk
        have hk2 : MemOk (m.put r (some (.map sh has val))) σ' F' w' := by rw [hm0]; exact hk
        exact MemOk.look (has := has) hk2 hBa hfit (fun h => h)
    · have hrep : ∀ j, j < ops.size → (Array.replicate ops.size false).getD j true = false := fun j hj => by
        rw [getD_list, Array.toList_replicate, List.getElem?_replicate, if_pos hj]
        rfl
      rw [hrep _ hi1, hrep _ hi2]
      exact ⟨rfl, fun h => (by cases h), (Grew.drew hm.fl).mem hm, fun _ => hb, fun h => (by cases h), (Grew.drew hm.fl).step σ⟩
    · rintro listed a' w' F' σ' F2 w2 v i o ⟨rfl, hall, hmw, hw1, hw2, hst⟩ hg hi ho hls hN'
      simp only [Bool.or_eq_false_iff] at hi
      have x1 := Nat.ne_of_beq_eq_false hi.1
      have x2 := Nat.ne_of_beq_eq_false hi.2
      rw [listed_set (fun e => x1 e.symm), listed_set (fun e => x2 e.symm)]
      refine ⟨rfl, fun h j hj => ?_, hg.mem hmw, fun h => ?_, fun h h' => ?_, hst.trans (hg.step σ')⟩
      · by_cases e : j = i
        · subst e; exact listed_self
        · rw [listed_set e]; exact hall h j hj
      · have := hw1 h
        rw [hg.keep b (Array.getElem?_eq_some_iff.1 this).1]; exact this
      · obtain ⟨es1, clock1, j, e1, q1, q2⟩ := hw2 h h'
        exact ⟨es1, clock1, j, e1, by rw [hg.keep b (Array.getElem?_eq_some_iff.1 q1).1]; exact q1, q2⟩
    · rintro As listed a' w' F' σ' i o hE hK hi ho hl0 hen hcl hls hN' hD' hs ⟨rfl, hall, hmm, hw1, hw2, hst⟩ next hnext
      obtain ⟨k1, k2, k3, k4, k5, _⟩ := hK
      simp only [Bool.or_eq_true] at hi
      rcases hi with hi | hi
      · have := (Nat.eq_of_beq_eq_true hi).symm
        subst this
        rw [ho1] at ho
        cases ho
        have hn1 : listed.getD i2 true = false := by
          cases h : listed.getD i2 true with
          | false => rfl
          | true => rw [hall h i1 hi1] at hl0; cases hl0
        rw [hn1, hl0] at hmm
        have hrd := rd_of n1 ho1 hE hen hs
        have hvx := hrd x (by simp)
        rw [k1] at hvx
        have hX : a'.tmps.getD x undef = .map (some b) := by
          generalize a'.tmps.getD x undef = X at hvx
          cases hvx with
          | @mp _ _ q hr' h =>
            rw [hr] at hr'
            cases hr'
            obtain ⟨b', t', hl', hv⟩ := h pl rfl hg0
            rw [hl] at hl'
            obtain ⟨rfl, _⟩ := Prod.mk.inj (Option.some.inj hl')
            exact hv
        have hY : a'.tmps.getD k undef = sh.key key := (keyOf_ok k2 (hrd k (by simp))).2
        obtain ⟨u0, w1, r1, r2, r3, r4, r5⟩ := run_hold hT hmm hmt hBa hfit hz hr hg0 hl (hw1 hl0) hc
        have hb' : ¬ F' b := (hmm.nf r pl b 1 hr hl).1
        have mono : ∀ A u, Vc w' F' σ' A u → Vc w1 F' σ' A u := fun A u hv => hv.mono r4.fro (fun b hb => r4.keep b (hmm.fl b hb) (fun ⟨r, pl, t, e1, e2⟩ => (hmm.nf r pl b t e1 e2).1 hb)) (SLe.refl σ')
        refine wpOp_run ho1 g1 (fun c h => by rw [hop1] at h; cases h) (n := .value (.tuple #[u0, .int .i64 c])) (w2 := w1) (u := .tuple #[u0, .int .i64 c]) ?_ (.inl rfl) (hnext _ w1 F' σ' mono ?_ ⟨rfl, ?_, ?_, ?_, ?_, hst.trans r4⟩)
        · have e1 : a'.eval (.tmp x) = .map (some b) := hX
          have e2 : a'.eval (.tmp k) = sh.key key := hY
          simp [execOp, hop1, e1, e2, r1]
        · rw [Nat.beq_refl]
          refine .tup (us := [u0, .int .i64 c]) rfl fun j A u hA hu => ?_
          match j with
          | 0 => simp at hA hu; subst hA; subst hu; exact r2
          | 1 => simp at hA hu; subst hA; subst hu; exact .d .int
          | j + 2 => simp at hA
        · rw [listed_set (fun e => hne' e.symm), hn1]
          exact fun h => by cases h
        · rw [listed_set (fun e => hne' e.symm), hn1, listed_self]
          exact r3
        · rw [listed_self]
          exact fun h => by cases h
        · exact fun _ _ => r5
      · have := (Nat.eq_of_beq_eq_true hi).symm
        subst this
        rw [ho2] at ho
        cases ho
        have hl1 : listed.getD i1 true = true := lastOk_at hlast ho2 hen i1 hi1 hne'
        rw [hl0, hl1] at hmm
        obtain ⟨es1, clock1, ie, e1, q1, q2, q3, q4⟩ := hw2 hl1 hl0
        have hrd := rd_of n2 ho2 hE hen hs
        have hvx := hrd x2 (by simp)
        rw [k3] at hvx
        have hX : a'.tmps.getD x2 undef = .map (some b) := by
          generalize a'.tmps.getD x2 undef = X at hvx
          cases hvx with
          | @mp _ _ q hr' h =>
            rw [hr] at hr'
            cases hr'
            obtain ⟨b', t', hl', hv⟩ := h pl rfl hg0
            rw [hl] at hl'
            obtain ⟨rfl, _⟩ := Prod.mk.inj (Option.some.inj hl')
            exact hv
        have hS := hrd s (by simp)
        rw [k4] at hS
        have hS := hS.int
        obtain ⟨V, hVe⟩ : ∃ V, a'.eval (.tmp v) = V := ⟨_, rfl⟩
        have hV : Vc w' F' σ' new V := by
          have hV := hrd v (by simp)
          rw [k5] at hV
          rw [← hVe]
          exact hV
        have hBa1 : m1.at r = some (some (.map sh (fun y => decide (y = key) || has y) val)) := put_self _ hBa
        obtain ⟨w1, r1, r3, r4⟩ := run_stow hT hmm hmt hBa1 hfit hr hg0 hl q1 q2 q3 q4 hV
        have hmp : m1.put r (some (.map sh (fun y => decide (y = key) || has y) fun y => bif decide (y = key) then new else val y)) = m2 := put_put
        have r3 : MemOk (m1.put r (some (.map sh (fun y => decide (y = key) || has y) fun y => bif decide (y = key) then new else val y))) σ' F' w1 := r3
        rw [hmp] at r3
        have mono : ∀ A u, Vc w' F' σ' A u → Vc w1 F' σ' A u := fun A u hv => hv.mono r4.fro (fun b hb => r4.keep b (hmm.fl b hb) (fun ⟨r, pl, t, e1, e2⟩ => (hmm.nf r pl b t e1 e2).1 hb)) (SLe.refl σ')
        refine wpOp_run ho2 g2 (fun c h => by rw [hop2] at h; cases h) (n := .skip) (w2 := w1) (u := undef) ?_ (.inr ⟨rfl, hd2⟩) (hnext _ w1 F' σ' mono ?_ ⟨rfl, ?_, ?_, ?_, ?_, hst.trans r4⟩)
        · have e1 : a'.eval (.tmp x2) = .map (some b) := hX
          have e2 : a'.eval (.tmp s) = .int .i64 c := hS
          simp [execOp, hop2, e1, e2, hVe, r1]
        · rw [show Nat.beq i2 i1 = false from Bool.eq_false_iff.2 fun e => hne' (Nat.eq_of_beq_eq_true e).symm]
          exact .junk
        · intro _ j hj
          by_cases e : j = i2
          · subst e; exact listed_self
          · rw [listed_set e]; exact lastOk_at hlast ho2 hen j hj e
        · rw [listed_self]
          exact r3
        · rw [listed_set hne', hl1]
          exact fun h => by cases h
        · rw [listed_self]
          exact fun _ h => by cases h
    · rintro env' a' w' F' σ' ⟨_, _, _, _, _, hK⟩ hN' hD' hE listed hall ⟨rfl, _, hmm, _, _, hst⟩
      rw [hall _ hi2] at hmm
      exact ⟨_, m2, σ', F', hK.o, hN', by rw [hD']; exact hD.step hst, hE, hmm, hst, SArg.refl σ'⟩⟩
end
end Go.Ab
