/-
  Operations, part B: a slice of an array in a variable of our own, which is given up for good; integers shifted and converted; clear.
-/
import Derived.Test.YtnhadilbebgbjaaOps
namespace Go.Ab
set_option linter.unusedSimpArgs false
set_option linter.unusedVariables false
section
variable {P : Program} {T : Tab} {N : Nat} {w : World} {F : Nat → Prop} {σ : Pls} {m : Mem} {env : Env} {K : AV → Mem → Prop} {o : Oper}
/-- arr[:h], of an array in a variable of our own, which is never written again. -/
theorem op_slice_arr (hT : TabOk P T) {t : TypeId} {x h : Operand} (hop : o.op = .slice t x none (some h) none) {n : Nat} {e : TypeId} (ha : arrOf T t = some (n, e))
    {r : Ref} {off : Nat} (hx : ev env x = .ptr r 0 0 off ∨ ∃ g, g = true ∧ ev env x = .gd g (.ptr r 0 0 off)) {e' : TypeId} {cs : List AV} (hB : m.get r = some (.box e' cs)) {kh : IntKind} {hi : Int} (hh : ev env h = .d (.int kh hi)) (h1 : 0 ≤ hi) (h2 : hi ≤ n) (f : Nat → D) (hf : ∀ i, i < hi.toNat → cs[off + i]? = some (.d (f i)))
    (hK : K (.d (.sl 1 hi.toNat fun i => [f i])) (m.put r none)) : OpVC P o env m K :=
  ⟨fun c h => (by rw [hop] at h; cases h), fun a w F σ hev hm => by
    obtain ⟨hu, hs, _⟩ := arrOf_ok hT ha
    have hel : P.elem t = e := by simp [Program.elem, hu]
    have hal : P.arrayLen t = n := by simp [Program.arrayLen, hu]
    have hu' : P.underlying t = some (.array (P.arrayLen t) (P.elem t)) := by rw [hel, hal]; exact hu
    have hv0 := ev_ok hev x
    have hv : Vc w F σ (.ptr r 0 0 off) (a.eval x) := by
      rcases hx with e | ⟨g, hg, e⟩
      · rw [e] at hv0
        exact hv0
      · rw [e] at hv0
        cases hv0 with | gd h _ => exact h hg
    have hvh := ev_ok hev h
    rw [hh] at hvh
    have hvh := hvh.int
    obtain ⟨pl, hr, hok, _, hat⟩ := ptr_row hm hv (Mem.get_at hB)
    obtain ⟨g0, hsz, b, hloc, us, hheap, hlen, hvc⟩ := hok
    obtain ⟨b', tot, hloc', hX⟩ := hat g0
    rw [hloc] at hloc'
    obtain ⟨rfl, rfl⟩ := Prod.mk.inj (Option.some.inj hloc')
    obtain ⟨d1, d2⟩ := drop_ok hm hr (Mem.get_at hB)
    let F' : Nat → Prop := fun x => F x ∨ x = b
    have hbn := hm.nf r pl b 1 hr hloc
    have hm' : MemOk (m.put r none) (upd σ r none) F' w := by
      refine ⟨d1.dom, fun r' q hq => ⟨(d1.lv r' q hq).1, fun p hp => ?_⟩, d1.inj, fun r' p b2 t2 h3 h4 => ?_, fun b2 hb2 => hb2.elim (d1.fl b2) fun e => by rw [e]; exact hbn.2, d1.gl.mono (fun _ h => .inl h) (fun _ _ => rfl)⟩
      · obtain ⟨B, hB1, hok1⟩ := (d1.lv r' q hq).2 p hp
        exact ⟨B, hB1, hok1.mono (fun _ h => .inl h) (fun _ _ => rfl) (SLe.refl _) (fun _ _ _ => rfl)⟩
      · obtain ⟨k1, k2⟩ := d1.nf r' p b2 t2 h3 h4
        refine ⟨fun hF => ?_, k2⟩
        rcases hF with hF | hF
        · exact k1 hF
        · subst hF
          have e1 : r' ≠ r := fun e => by subst e; rw [upd_self] at h3; cases h3
          rw [upd_other σ _ e1] at h3
          exact e1 (hm.inj r' r p pl b2 t2 1 h3 hr h4 hloc)
    have hrun : (Instr.sliceAt t (a.eval x) none (some (a.eval h)) none).run P w = .ok (slicedAt ⟨b, 0 * pl.sz + off, none⟩ 0 hi.toNat n 1) w := by
      rw [hX, hvh, run_sliceAt_array_h (P := P) w t _ hu' _ _ h1 (by rw [hal]; exact h2), hel, hs, hal]
      rfl
    have hat : ∀ i, i < hi.toNat → ∃ u, us[off + i]? = some u ∧ Rd w F (f i) u ∧ u.oneCell' = true := fun i hi' => by
      have hA := hf i hi'
      have hlt : off + i < us.length := by rw [hlen]; exact (List.getElem?_eq_some_iff.1 hA).1
      obtain ⟨k1, k2⟩ := hvc (off + i) _ _ hA (List.getElem?_eq_getElem hlt)
      cases k1 with | d k1 => exact ⟨_, List.getElem?_eq_getElem hlt, k1, k2⟩
    refine ⟨_, slicedAt ⟨b, 0 * pl.sz + off, none⟩ 0 hi.toNat n 1, w, _, F', _, _, by simp [execOp, hop, hrun], .inl rfl, hK, .d ?_, hm', ⟨rfl, rfl, rfl, Nat.le_refl _, Nat.le_refl _, fun _ _ _ => rfl, fun _ h => .inl h, fun b2 hb2 => hb2.elim .inl fun e => .inr (.inl ⟨r, pl, 1, hr, by rw [e]; exact hloc⟩), fun b2 ⟨r3, p3, t3, h3, h4⟩ => ?_⟩, d2⟩
    · unfold slicedAt
      refine .sl ⟨b, off, none⟩ (fun i j => us.getD (off + i) undef) (by omega) (fun hn => ⟨?_, .inr rfl⟩) (fun i hi => rfl) (fun i j hi' hj => ?_) (fun i j y hi' hy => ?_)
      · rw [Nat.zero_mul, Nat.zero_add]
        by_cases hn0 : n = 0
        · omega
        · rw [if_neg hn0, Nat.zero_mul, add_at]
          rfl
      · obtain ⟨u, hu2, _, h5⟩ := hat i (by omega)
        have : j = 0 := by omega
        subst this
        rw [add_at, cell_of_row w b _ us.toArray e' (0, 0) hheap]
        simp [hu2, h5]
      · obtain ⟨u, hu2, h4, _⟩ := hat i (by omega)
        have : j = 0 := by
          rcases j with _ | j
          · rfl
          · simp at hy
        subst this
        simp at hy
        subst hy
        have e6 : us.getD (off + i) undef = u := by simp [List.getD_eq_getElem?_getD, hu2]
        show Rd w F' (f i) (us.getD (off + i) undef)
        rw [e6]
        exact h4.mono (fun _ h => .inl h) (fun _ _ => rfl)
    · have e1 : r3 ≠ r := fun e => by subst e; rw [upd_self] at h3; cases h3
      rw [upd_other σ _ e1] at h3
      exact .inl ⟨r3, p3, t3, h3, h4⟩⟩
end
end Go.Ab
