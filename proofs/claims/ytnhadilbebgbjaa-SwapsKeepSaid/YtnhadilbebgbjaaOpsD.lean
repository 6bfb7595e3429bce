/-
  Operations, part D: what is ours, lent to a call that hands back structs of numbers too.
-/
import Derived.Test.YtnhadilbebgbjaaOpsC
namespace Go.Ab
set_option linter.unusedSimpArgs false
set_option linter.unusedVariables false
section
variable {P : Program} {m : Mem}
/-- Data that point to no memory, structs of such among them. -/
def D.flatA : D → Bool
  | .agg xs => allFlat xs
  | x => x.flat
def allFlatA : List D → Bool
  | [] => true
  | x :: r => x.flatA && allFlatA r
theorem allFlatA_mem : ∀ {l : List D}, allFlatA l = true → ∀ x ∈ l, x.flatA = true
  | [], _ => fun x h => by simp at h
  | y :: r, h => fun x hx => by
    simp only [allFlatA, Bool.and_eq_true] at h
    rcases List.mem_cons.1 hx with rfl | hx
    · exact h.1
    · exact allFlatA_mem h.2 x hx
theorem Rd.flatA {w w' : World} {F F' : Nat → Prop} {x : D} {v : Value} (h : Rd w F x v) (hx : x.flatA = true) : Rd w' F' x v := by
  cases h with
  | agg hl hr => exact .agg hl fun j y u hy hu => (hr j y u hy hu).flat (allFlat_mem hx y (List.mem_of_getElem? hy))
  | _ => first | (simp [D.flatA, D.flat] at hx; done) | constructor
theorem resFlatA {w w' : World} {F F' : Nat → Prop} {σ σ' : Pls} {res : List D} {v : Value} (hf : allFlatA res = true) (h : Vc w F σ (resAV res) v) : Vc w' F' σ' (resAV res) v := by
  match res, hf, h with
  | [x], hf, h => cases h with | d h => exact .d (h.flatA (allFlatA_mem hf x (by simp)))
  | [], _, h =>
    simp only [resAV] at h ⊢
    cases h with
    | tup hl h => exact .tup hl fun j A u hA hu => by simp [up] at hA
  | x :: y :: r, hf, h =>
    simp only [resAV] at h ⊢
    cases h with
    | tup hl hh =>
      refine .tup hl fun j A u hA hu => ?_
      obtain ⟨x, hx, rfl⟩ := up_at hA
      have := hh j (.d x) u (by rw [up_eq, List.getElem?_map, hx]; rfl) hu
      cases this with | d h => exact .d (h.flatA (allFlatA_mem hf x (List.mem_of_getElem? hx)))
/-- What is ours is lent: the call hands back numbers, truths, and structs of these. -/
theorem Pure.loanA {f : FuncId} {dargs res : List D} (h : Pure P f dargs res) {as : List AV} {K : AV → Mem → Prop} (hs : allFlatA res = true) (ha : BecL m as dargs) (hk : K (resAV res) m) : CallVC P f as m K :=
  ⟨h.1, fun σ F w vals hm hv => by
    obtain ⟨h1, h2⟩ := ha.args hm hv
    refine (h.2 (Given F σ) w vals (given_lt hm) (hm.gl.mono (fun _ h => .inl h) fun _ _ => rfl) h1 h2).mono ?_
    rintro e w' ⟨v, F', he, hg, hr⟩
    have hkeep : ∀ b, b < w.heap.size → w'.heap[b]? = w.heap[b]? := hg.keep
    have hm' : MemOk m σ F w' := hm.world hg.size fun b hb => hkeep b (given_lt hm b hb)
    exact ⟨v, resAV res, m, σ, F, he, hk, resFlatA hs (hr σ), hm', ⟨hg.os, hg.tape, hg.output, hg.drawn, hg.size, fun b hb _ => hkeep b hb, fun _ h => h, fun _ h => .inl h, fun _ h => .inl h⟩, SLe.refl σ⟩⟩
end
section
variable {P : Program} {T : Tab} {N : Nat} {w : World} {F : Nat → Prop} {σ : Pls} {m : Mem} {env : Env} {K : AV → Mem → Prop} {o : Oper}
/-- clear(s), of the last rows of a row of our own: they are known no more. -/
theorem op_clear (hT : TabOk P T) {x : Operand} {t : TypeId} (hop : o.op = .call { callee := .builtin .clear, args := #[x], argTypes := #[t] }) {e : TypeId} {sz : Nat} (he : elemOf T t = some (e, sz))
    {r : Ref} {g od nd : Nat} (hx : ev env x = .osl r g od nd) {n : Nat} {f : Nat → List AV} (hB : m.get r = some (.vec e sz g n f)) (h1 : od ≤ n)
    (hK : K (.tup []) (m.put r (some (.vec e sz g od f)))) : OpVC P o env m K :=
  ⟨fun c h => (by rw [hop] at h; cases h), fun a w F σ hev hm => by
    obtain ⟨hu, hsz, te, hte, htsz⟩ := elemOf_ok hT he
    have hszp := sz_pos hT he
    have hvd := ev_ok hev x
    rw [hx] at hvd
    obtain ⟨pd, hrd, hokd, _, hatd⟩ := osl_row hm hvd (Mem.get_at hB)
    obtain ⟨g0, hszd, hn0, hrow, hl⟩ := hokd
    by_cases hnd : nd = 0
    · subst hnd
      have hval : ∃ A cap, a.eval x = .slice A 0 cap := by
        have hsl := hatd g0
        unfold SlAt at hsl
        split at hsl
        · obtain ⟨_, _, h⟩ := hsl
          exact ⟨_, _, h⟩
        · obtain ⟨A, cap, h, _⟩ := hsl
          exact ⟨_, _, h⟩
      obtain ⟨A, cap, hval⟩ := hval
      have hupd : upd σ r (some pd) = σ := funext fun r' => by
        by_cases e : r' = r
        · subst e
          rw [upd_self, hrd]
        · rw [upd_other σ _ e]
      have hsl := SLe.upd_old hrd (QLe.refl (some pd))
      obtain ⟨q1, q2⟩ := change_ok (w' := w) (pl' := pd) (B' := .vec e sz g od f) hm hrd (Nat.le_refl _) (fun _ _ _ => rfl) ⟨Nat.le_refl _, fun _ => rfl⟩
        ⟨g0, hszd, (fun h => by have := hn0 h; omega), fun i hi => hrow i (by omega), fun b1 tot1 hl1 => by
          obtain ⟨c1, c2, us, c3, c4, c5⟩ := hl b1 tot1 hl1
          refine ⟨by omega, c2, us, c3, c4, fun i j A hi hA => ?_⟩
          rw [hupd]
          exact c5 i j A (Nat.lt_of_lt_of_le hi h1) hA⟩
        (fun b2 t2 h => ⟨(hm.nf r pd b2 t2 hrd h).2, .inl ⟨t2, h⟩⟩)
      rw [hupd] at q1 q2
      refine ⟨_, .tuple #[], _, _, F, .tup [], _, ?_, .inl rfl, hK, .tup rfl (fun j A u hA _ => by simp at hA), q1, Step.same _ F w, q2⟩
      cases A <;> simp [execOp, hop, resolve, invoke, builtin, hval, Builtin.clear_, run_underlying hu]
    · obtain ⟨b, tot, cap, hlocd, hvald, hncd, hocd⟩ := slAt_some (hatd g0) (by omega)
      rw [hszd] at hvald
      obtain ⟨hnt, htm, us, hheap, hlen, hvc⟩ := hl b tot hlocd
      obtain ⟨z, hzv, hzs, hzsz⟩ := run_zeroValue hte w
      have hzl : z.cells.size = sz := by rw [hzsz, htsz]
      have hz0 : CellsOk w F σ (up te.zero) z.cells.toList := .zero hzs
      have hmul : ∀ x y : Nat, x ≤ y → x * sz ≤ y * sz := fun x y h => Nat.mul_le_mul_right sz h
      have hdstin : (od + nd) * sz ≤ us.length := by rw [hlen]; exact hmul _ _ (by omega)
      rw [Nat.add_mul] at hdstin
      obtain ⟨cs, hcs⟩ : ∃ cs, (Builtin.zeroCells z.cells nd).toList = cs := ⟨_, rfl⟩
      have hcl : cs.length = nd * sz := by rw [← hcs]; simp [size_zeroCells, hzl]
      have hone : ∀ v ∈ cs, v.oneCell' = true := fun v hv => by
        rw [← hcs] at hv
        simp only [Builtin.zeroCells, Array.toList_map, List.mem_map] at hv
        obtain ⟨j, _, rfl⟩ := hv
        have hj : j % z.cells.size < z.cells.size := Nat.mod_lt _ (by omega)
        have hlz : (up te.zero).length = z.cells.size := by rw [← hz0.1]; simp
        have hu2 : z.cells.toList[j % z.cells.size]? = some (z.cells[j % z.cells.size]'hj) := by simp [hj]
        obtain ⟨_, q2⟩ := hz0.2 (j % z.cells.size) ((up te.zero)[j % z.cells.size]'(by omega)) _ (List.getElem?_eq_getElem _) hu2
        simpa [hj] using q2
      have hrun : (Builtin.clear_ #[t] o.type #[.slice (some ⟨b, od * sz, none⟩) nd cap]).run P w = .ok (.tuple #[]) (w.setRow b (us.take (od * sz) ++ cs ++ us.drop (od * sz + cs.length)).toArray) := by
        have hst := run_storeCells_at P b (od * sz) e cs 0 us.toArray w hheap (by simpa [hcl] using hdstin) hone
        obtain ⟨k, rfl⟩ : ∃ k, nd = k + 1 := ⟨nd - 1, by omega⟩
        simp [Builtin.clear_, run_underlying hu, hzv, hcs, hst]
      have hfit : od * sz + cs.length ≤ us.length := by rw [hcl]; exact hdstin
      have hstep := step_setRow (F := F) (w := w) hrd hlocd (us.take (od * sz) ++ cs ++ us.drop (od * sz + cs.length)).toArray
      have hsl := SLe.upd_old hrd (QLe.refl (some pd))
      have hkF : ∀ b2, F b2 → (w.setRow b (us.take (od * sz) ++ cs ++ us.drop (od * sz + cs.length)).toArray).heap[b2]? = w.heap[b2]? := fun b2 hb2 => setRow_other w b b2 _ (fun e => (hm.nf r pd b tot hrd hlocd).1 (e ▸ hb2))
      obtain ⟨q1, q2⟩ := change_ok (w' := w.setRow b (us.take (od * sz) ++ cs ++ us.drop (od * sz + cs.length)).toArray) (pl' := pd) (B' := .vec e sz g od f) hm hrd (by rw [size_setRow]; exact Nat.le_refl _) (fun b2 _ ht => setRow_other w b b2 _ (fun e => ht tot (by rw [hlocd, e]))) ⟨Nat.le_refl _, fun _ => rfl⟩
        ⟨g0, hszd, (fun h => by rw [hlocd] at h; cases h), fun i hi => hrow i (by omega), fun b1 tot1 hl1 => by
            rw [hlocd] at hl1
            obtain ⟨rfl, rfl⟩ := Prod.mk.inj (Option.some.inj hl1)
            refine ⟨by omega, htm, _, setRow_heap w b us.toArray _ e (0, 0) hheap, by rw [mid_length hfit]; exact hlen, fun i j A hi hA => ?_⟩
            rw [mid_at hfit]
            have hj : j < sz := by rw [← hrow i (by omega)]; exact (List.getElem?_eq_some_iff.1 hA).1
            obtain ⟨u, hu, hv, h1⟩ := hvc i j A (by omega) hA
            refine ⟨u, ?_, hv.mono (fun _ h => h) hkF hsl, h1⟩
            rw [if_neg]
            · exact hu
            · rintro ⟨c1, c2⟩
              have := hmul (i + 1) od hi
              rw [Nat.add_mul] at this
              omega⟩
        (fun b2 t2 h => ⟨by rw [size_setRow]; exact (hm.nf r pd b2 t2 hrd h).2, .inl ⟨t2, h⟩⟩)
      refine ⟨_, .tuple #[], _, _, F, .tup [], _, ?_, .inl rfl, hK, .tup rfl (fun j A u hA _ => by simp at hA), q1, hstep, q2⟩
      simp only [execOp, hop, resolve, invoke, builtin, Sem.run_bind, Sem.run_pure, Result.andThen_ok, List.map_toArray, List.map_cons, List.map_nil, hvald, hrun]⟩
end
end Go.Ab
