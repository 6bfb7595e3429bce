/-
  Operations of the library's functions that the engine does not take of itself: cap, a slice beyond its length, copy, append of make, overlaps; a row that takes another's place.
-/
import Derived.Test.YtnhadilbebgbjaaEngAG
import Derived.Lib.AppendZerosOnto
import Derived.Lib.Overlaps
import Derived.Laws.CopyRow
namespace Go.Ab
set_option linter.unusedSimpArgs false
set_option linter.unusedVariables false
section
variable {P : Program} {T : Tab} {N : Nat} {w : World} {F : Nat → Prop} {σ : Pls} {m : Mem} {env : Env} {K : AV → Mem → Prop} {o : Oper}
theorem SLe.trans' {σ σ' σ'' : Pls} (h : SLe σ σ') (k : SLe σ' σ'') : SLe σ σ'' := fun r q hq => by
  obtain ⟨q1, h1, h2⟩ := h r q hq
  obtain ⟨q2, h3, h4⟩ := k r q1 h1
  exact ⟨q2, h3, h2.trans h4⟩
theorem run_copy_rows (w : World) (dT sT ty elem : TypeId) (sz g od dLen dCap : Nat) (a : Addr) (sLen sCap : Nat) (cur : Array Value) (t : TypeId) (cs : List Value)
    (hu : P.underlying dT = some (.slice elem)) (hs : ∀ w, (sizeOf elem).run P w = .ok sz w)
    (hg : w.heap[g]? = some (.cells cur t (0, 0))) (hn : cs.length = Nat.min sLen dLen * sz)
    (hsrc : ∀ j v, cs[j]? = some v → w.cell? (a.add j) = some v) (hfit : od + cs.length ≤ cur.size) (h1 : ∀ v ∈ cs, v.oneCell' = true) :
    (Builtin.copy_ #[dT, sT] ty #[.slice (some ⟨g, od, none⟩) dLen dCap, .slice (some a) sLen sCap]).run P w =
      .ok (goInt (Nat.min sLen dLen)) (w.setRow g (cur.toList.take od ++ cs ++ cur.toList.drop (od + cs.length)).toArray) := by
  have hl := run_loadCells_list (P := P) w a cs hsrc
  have hst := run_storeCells_at P g od t cs 0 cur w hg (by simpa using hfit) h1
  rw [hn] at hl
  simp [Builtin.copy_, run_underlying hu, Builtin.lenOf, Builtin.firstCells, hs, hl, hst]
theorem slAt_some {pl : Pl} {off n : Nat} {v : Value} (h : SlAt pl off n v) (hn : 0 < n) : ∃ b tot cap, pl.loc = some (b, tot) ∧ v = .slice (some ⟨b, off * pl.sz, none⟩) n cap ∧ n ≤ cap ∧ off + cap = tot := by
  unfold SlAt at h
  split at h
  · omega
  · rename_i b tot hloc
    obtain ⟨A, cap, rfl, h1, h2, h3⟩ := h
    rw [h3 (.inl (by omega))]
    exact ⟨b, tot, cap, hloc, rfl, h1, h2⟩
/-- copy(d, s): rows of our own onto rows of our own. -/
theorem op_copy (hT : TabOk P T) {d s : Operand} {t t' : TypeId} (hop : o.op = .call { callee := .builtin .copy, args := #[d, s], argTypes := #[t, t'] }) {e : TypeId} {sz : Nat} (he : elemOf T t = some (e, sz))
    {rd : Ref} {gd od nd : Nat} (hd : ev env d = .osl rd gd od nd) {rs : Ref} {gs os ns : Nat} (hs : ev env s = .osl rs gs os ns) {n : Nat} {f : Nat → List AV} (hBd : m.get rd = some (.vec e sz gd n f)) {e' : TypeId} {n' : Nat} {f' : Nat → List AV}
    (hBs : m.get rs = some (.vec e' sz gs n' f')) {k : Nat} (hk : k = Nat.min ns nd) (hk0 : 0 < k) (h1 : od ≤ n) (h2 : os + k ≤ n')
    (hK : K (.d (.int .i64 k)) (m.put rd (some (.vec e sz gd (max n (od + k)) fun j => if od ≤ j ∧ j < od + k then f' (os + (j - od)) else f j)))) : OpVC P o env m K :=
  ⟨fun c h => (by rw [hop] at h; cases h), fun a w F σ hev hm => by
    obtain ⟨hu, hsz, _⟩ := elemOf_ok hT he
    have hszp := sz_pos hT he
    have hvd := ev_ok hev d
    rw [hd] at hvd
    have hvs := ev_ok hev s
    rw [hs] at hvs
    obtain ⟨pd, hrd, hokd, _, hatd⟩ := osl_row hm hvd (Mem.get_at hBd)
    obtain ⟨g0, hszd, hn0, hrow, hl⟩ := hokd
    obtain ⟨ps, hrs, hoks, _, hats⟩ := osl_row hm hvs (Mem.get_at hBs)
    obtain ⟨g1, hszs, hn1, hrow', hl'⟩ := hoks
    have hkd : k ≤ nd := by rw [hk]; exact Nat.min_le_right _ _
    have hks : k ≤ ns := by rw [hk]; exact Nat.min_le_left _ _
    obtain ⟨b, tot, cap, hlocd, hvald, hncd, hocd⟩ := slAt_some (hatd g0) (by omega)
    obtain ⟨b', tot', cap', hlocs, hvals, hncs, hocs⟩ := slAt_some (hats g1) (by omega)
    rw [hszd] at hvald
    rw [hszs] at hvals
    obtain ⟨hnt, htm, us, hheap, hlen, hvc⟩ := hl b tot hlocd
    obtain ⟨hnt', htm', us', hheap', hlen', hvc'⟩ := hl' b' tot' hlocs
    have hmul : ∀ x y : Nat, x ≤ y → x * sz ≤ y * sz := fun x y h => Nat.mul_le_mul_right sz h
    have hsrcin : (os + k) * sz ≤ us'.length := by rw [hlen']; exact hmul _ _ (by omega)
    rw [Nat.add_mul] at hsrcin
    have hdstin : (od + k) * sz ≤ us.length := by rw [hlen]; exact hmul _ _ (by omega)
    rw [Nat.add_mul] at hdstin
    let cs := (us'.drop (os * sz)).take (k * sz)
    have hcl : cs.length = k * sz := by simp [cs]; omega
    have hcat : ∀ j, j < k * sz → cs[j]? = us'[os * sz + j]? := fun j hj => by simp [cs, List.getElem?_take, hj]
    have hrowat : ∀ (j : Nat) (v : Value), cs[j]? = some v → v.oneCell' = true := fun j v hj => by
      have hjl : j < k * sz := by rw [← hcl]; exact (List.getElem?_eq_some_iff.1 hj).1
      have hdm := Nat.div_add_mod j sz
      have hmod := Nat.mod_lt j hszp
      have hdiv : j / sz < k := (Nat.div_lt_iff_lt_mul hszp).2 hjl
      have hlen2 := hrow' (os + j / sz) (by omega)
      have hA : (f' (os + j / sz))[j % sz]? = some ((f' (os + j / sz))[j % sz]'(by rw [hlen2]; exact hmod)) := List.getElem?_eq_getElem _
      obtain ⟨u, hu, _, h1⟩ := hvc' (os + j / sz) (j % sz) _ (by omega) hA
      rw [hcat j hjl] at hj
      rw [Nat.add_mul] at hu
      rw [show os * sz + j / sz * sz + j % sz = os * sz + j by rw [Nat.mul_comm (j / sz)]; omega, hj] at hu
      injection hu with hu
      rw [hu]; exact h1
    have hrun := run_copy_rows (P := P) w t t' o.type e sz b (od * sz) nd cap ⟨b', os * sz, none⟩ ns cap' us.toArray e cs hu hsz hheap (by rw [hcl, hk]) (fun j v hj => by
      have hjl : j < k * sz := by rw [← hcl]; exact (List.getElem?_eq_some_iff.1 hj).1
      rw [add_at, cell_of_row w b' _ us'.toArray e' (0, 0) hheap']
      rw [hcat j hjl] at hj
      simpa using hj) (by rw [hcl]; simpa using hdstin) (fun v hv => by
        obtain ⟨j, hj, rfl⟩ := List.getElem_of_mem hv
        exact hrowat j _ (List.getElem?_eq_getElem hj))
    have hfit : od * sz + cs.length ≤ us.length := by rw [hcl]; exact hdstin
    have hstep := step_setRow (F := F) (w := w) hrd hlocd (us.take (od * sz) ++ cs ++ us.drop (od * sz + cs.length)).toArray
    have hsl := SLe.upd_old hrd (QLe.refl (some pd))
    have hkF : ∀ b2, F b2 → (w.setRow b (us.take (od * sz) ++ cs ++ us.drop (od * sz + cs.length)).toArray).heap[b2]? = w.heap[b2]? := fun b2 hb2 => setRow_other w b b2 _ (fun e => (hm.nf rd pd b tot hrd hlocd).1 (e ▸ hb2))
    obtain ⟨q1, q2⟩ := change_ok (w' := w.setRow b (us.take (od * sz) ++ cs ++ us.drop (od * sz + cs.length)).toArray) (pl' := pd) (B' := .vec e sz gd (max n (od + k)) fun j => if od ≤ j ∧ j < od + k then f' (os + (j - od)) else f j) hm hrd (by rw [size_setRow]; exact Nat.le_refl _) (fun b2 _ ht => setRow_other w b b2 _ (fun e => ht tot (by rw [hlocd, e]))) ⟨Nat.le_refl _, fun _ => rfl⟩
      ⟨g0, hszd, (fun h => by rw [hlocd] at h; cases h), fun i hi => by
          show (if od ≤ i ∧ i < od + k then f' (os + (i - od)) else f i).length = sz
          split
          · exact hrow' _ (by omega)
          · exact hrow _ (by omega),
        fun b1 tot1 hl1 => by
          rw [hlocd] at hl1
          obtain ⟨rfl, rfl⟩ := Prod.mk.inj (Option.some.inj hl1)
          refine ⟨by omega, htm, _, setRow_heap w b us.toArray _ e (0, 0) hheap, by rw [mid_length hfit]; exact hlen, fun i j A hi hA => ?_⟩
          rw [mid_at hfit]
          replace hA : (if od ≤ i ∧ i < od + k then f' (os + (i - od)) else f i)[j]? = some A := hA
          split at hA
          · rename_i hin
            have hj : j < sz := by rw [← hrow' (os + (i - od)) (by omega)]; exact (List.getElem?_eq_some_iff.1 hA).1
            obtain ⟨u, hu, hv, h1⟩ := hvc' (os + (i - od)) j A (by omega) hA
            have e1 : i * sz = od * sz + (i - od) * sz := by rw [← Nat.add_mul]; congr 1; omega
            have e2 := row_lt (show i - od < k by omega) hj
            rw [if_pos ⟨by omega, by omega⟩]
            refine ⟨u, ?_, hv.mono (fun _ h => h) hkF hsl, h1⟩
            rw [show i * sz + j - od * sz = (i - od) * sz + j by omega, hcat _ e2, ← hu, Nat.add_mul]
            congr 1
            omega
          · rename_i hout
            have hin : i < n := by omega
            have hj : j < sz := by rw [← hrow i hin]; exact (List.getElem?_eq_some_iff.1 hA).1
            obtain ⟨u, hu, hv, h1⟩ := hvc i j A hin hA
            refine ⟨u, ?_, hv.mono (fun _ h => h) hkF hsl, h1⟩
            rw [if_neg]
            · exact hu
            · rintro ⟨c1, c2⟩
              rcases Nat.lt_or_ge i od with h | h
              · have := hmul (i + 1) od h
                rw [Nat.add_mul] at this
                omega
              · have := hmul (od + k) i (by omega)
                rw [Nat.add_mul] at this
                omega⟩
      (fun b2 t2 h => ⟨by rw [size_setRow]; exact (hm.nf rd pd b2 t2 hrd h).2, .inl ⟨t2, h⟩⟩)
    refine ⟨_, .int .i64 k, _, _, F, .d (.int .i64 k), _, ?_, .inl rfl, hK, .d .int, q1, hstep, q2⟩
    simp only [execOp, hop, resolve, invoke, builtin, Sem.run_bind, Sem.run_pure, Result.andThen_ok, List.map_toArray, List.map_cons, List.map_nil, hvald, hvals, hrun]
    rw [← hk]
    rfl⟩
/-- cap(s): whatever it is; from here on it is known. -/
theorem op_cap {x : Operand} {t : TypeId} (hop : o.op = .call { callee := .builtin .cap, args := #[x], argTypes := #[t] }) {e : TypeId} (hu : P.underlying t = some (.slice e))
    {r : Ref} {g n : Nat} (hx : ev env x = .osl r g 0 n) {e' : TypeId} {sz : Nat} {f : Nat → List AV} (hB : m.get r = some (.vec e' sz g n f))
    (hK : ∀ c : Nat, n ≤ c → c ≤ maxLen → K (.d (.int .i64 c)) (m.put r (some (.room e' sz g n c f)))) : OpVC P o env m K :=
  ⟨fun c h => (by rw [hop] at h; cases h), fun a w F σ hev hm => by
    have hv := ev_ok hev x
    rw [hx] at hv
    obtain ⟨pl, hr, hok, _, hat⟩ := osl_row hm hv (Mem.get_at hB)
    have hok0 : VecOk w F σ e' sz g n f pl := hok
    obtain ⟨g0, hsz, hn0, hrow, hl⟩ := hok
    have hsl := hat g0
    have main : ∀ c A, a.eval x = .slice A n c → n ≤ c → c ≤ maxLen → (pl.loc = none → c = 0) → (∀ b tot, pl.loc = some (b, tot) → tot = c) →
        ∃ n1 u w' σ' F' A1 m', (execOp a.eval o).run P w = .ok n1 w' ∧ (n1 = .value u ∨ (n1 = .skip ∧ u = undef)) ∧ K A1 m' ∧ Vc w' F' σ' A1 u ∧ MemOk m' σ' F' w' ∧ Step σ F w σ' F' w' ∧ SLe σ σ' := by
      intro c A hval h1 h2 h3 h4
      have hsle := SLe.upd_old hr (QLe.refl (some pl))
      obtain ⟨q1, q2⟩ := change_ok (w' := w) (pl' := pl) (B' := .room e' sz g n c f) hm hr (Nat.le_refl _) (fun _ _ _ => rfl) ⟨Nat.le_refl _, fun _ => rfl⟩ ⟨hok0.mono (fun _ h => h) (fun _ _ => rfl) hsle (fun _ _ _ => rfl), h3, h4⟩ (fun b t h => ⟨(hm.nf r pl b t hr h).2, .inl ⟨t, h⟩⟩)
      refine ⟨_, .int .i64 c, w, _, F, _, _, ?_, .inl rfl, hK c h1 h2, .d .int, q1, ⟨rfl, rfl, rfl, Nat.le_refl _, Nat.le_refl _, fun _ _ _ => rfl, fun _ h => h, fun _ h => .inl h, own_upd_old hr fun b t h => .inl ⟨t, h⟩⟩, q2⟩
      simp [execOp, hop, resolve, invoke, builtin, Builtin.cap_, run_underlying hu, hval]
      rfl
    unfold SlAt at hsl
    split at hsl
    · rename_i hloc
      obtain ⟨rfl, _, hval⟩ := hsl
      exact main 0 _ hval (Nat.le_refl _) (by simp [maxLen]) (fun _ => rfl) (fun b tot h => by rw [hloc] at h; cases h)
    · rename_i b tot hloc
      obtain ⟨A, cap, hval, hnc, hoc, _⟩ := hsl
      obtain ⟨_, htm, _⟩ := hl b tot hloc
      exact main cap A hval hnc (by omega) (fun h => by rw [hloc] at h; cases h) (fun b1 t1 h => by rw [hloc] at h; cases h; omega)⟩
/-- s[:h], h within the capacity. -/
theorem op_slice_hi (hT : TabOk P T) {t : TypeId} {x h : Operand} (hop : o.op = .slice t x none (some h) none) {e : TypeId} {sz : Nat} (he : elemOf T t = some (e, sz))
    {r : Ref} {g n : Nat} (hx : ev env x = .osl r g 0 n) {e' : TypeId} {k c : Nat} {f : Nat → List AV} (hB : m.get r = some (.room e' sz g k c f)) {kh : IntKind} {hi : Int} (hh : ev env h = .d (.int kh hi)) (h1 : 0 ≤ hi) (h2 : hi ≤ c)
    (hK : K (.osl r g 0 hi.toNat) m) : OpVC P o env m K :=
  ⟨fun c h => (by rw [hop] at h; cases h), fun a w F σ hev hm => by
    obtain ⟨hu, hs, _⟩ := elemOf_ok hT he
    have hel := elem_eq hu
    have hu' : P.underlying t = some (.slice (P.elem t)) := by rw [hel]; exact hu
    have hv := ev_ok hev x
    rw [hx] at hv
    have hvh := ev_ok hev h
    rw [hh] at hvh
    have hvh := hvh.int
    obtain ⟨pl, hr, hok, _, hat⟩ := osl_row hm hv (Mem.get_at hB)
    obtain ⟨⟨g0, hsz, hn0, hrow, hl⟩, hc0, hct⟩ := hok
    have hsl := hat g0
    have main : ∀ A, a.eval x = .slice A n c → SlAt pl 0 hi.toNat (sliced A 0 hi.toNat c sz) →
        ∃ n1 u w' σ' F' A1 m', (execOp a.eval o).run P w = .ok n1 w' ∧ (n1 = .value u ∨ (n1 = .skip ∧ u = undef)) ∧ K A1 m' ∧ Vc w' F' σ' A1 u ∧ MemOk m' σ' F' w' ∧ Step σ F w σ' F' w' ∧ SLe σ σ' := by
      intro A hval hS
      refine ⟨_, sliced A 0 hi.toNat c sz, w, σ, F, _, _, ?_, .inl rfl, hK, .osl hr fun pl' e => ?_, hm, Step.refl σ F w, SLe.refl σ⟩
      · have hrun : (Instr.sliceAt t (a.eval x) none (some (a.eval h)) none).run P w = .ok (sliced A 0 hi.toNat c sz) w := by
          rw [hval, hvh, run_sliceAt_slice _ _ _ _ _ _ hu', run_slice_h _ _ _ _ _ hu' _ _ h1 (by omega), hel, hs]
          rfl
        simp [execOp, hop, hrun]
      · injection e with e
        subst e
        exact ⟨by rw [g0]; exact Nat.le_refl _, fun _ => hS⟩
    unfold SlAt at hsl
    split at hsl
    · rename_i hloc
      obtain ⟨rfl, _, hval⟩ := hsl
      have hc := hc0 hloc
      subst hc
      refine main none hval ?_
      unfold SlAt
      rw [hloc]
      have : hi.toNat = 0 := by omega
      exact ⟨this, rfl, by simp [sliced, this]⟩
    · rename_i b tot hloc
      obtain ⟨A, cap, hval, hnc, hoc, hA⟩ := hsl
      have hc := hct b tot hloc
      have hcc : cap = c := by omega
      subst hcc
      refine main A hval ?_
      unfold SlAt
      rw [hloc]
      refine ⟨_, cap - 0, rfl, by omega, by omega, fun _ => ?_⟩
      have hA0 : A = some ⟨b, 0 * pl.sz, none⟩ := hA (.inr rfl)
      split
      · exact hA0
      · rw [hA0]
        simp [Addr.add_lit]⟩
/-- append(s, make([]E, k)...) onto the beginning of a row of our own that has no room: a new row. -/
theorem op_zeros (hT : TabOk P T) {s x : Operand} {t t' : TypeId} (hop : o.op = .call { callee := .builtin .append, args := #[s, x], argTypes := #[t, t'] }) {e : TypeId} {sz : Nat} (he : elemOf T t = some (e, sz)) {te tn : TI} (hte : T.at e = some te) (htn : T.at t' = some tn) {kn : IntKind} (hkn : tn.k = .int kn) (hb0 : 0 < te.bytes)
    {r : Ref} {g i : Nat} (hs : ev env s = .osl r g 0 i) {n c : Nat} {f : Nat → List AV} (hB : m.get r = some (.room e sz g n c f)) (hi : i ≤ n) {kq : IntKind} {q : Int} (hx : ev env x = .d (.int kq q)) {k : Nat} (hq : q = k) (hk0 : 0 < k) (hc : c < i + k) (hcap : (i + k) * te.bytes ≤ 140737488355328)
    (hK : K (.osl m.new 0 0 (i + k)) (m.add (.vec e sz 0 (i + k) fun j => if j < i then f j else up te.zero))) : OpVC P o env m K :=
  ⟨fun c h => (by rw [hop] at h; cases h), fun a w F σ hev hm => by
    subst hq
    obtain ⟨hu, hrs, te', hte', htsz⟩ := elemOf_ok hT he
    have hszp := sz_pos hT he
    obtain ⟨inf, z, hinf, his, hib, hz, hzs, hzsz⟩ := tiIs_info (hT _ _ hte)
    have hsize : inf.size = sz := by
      obtain ⟨i', z', hi', his', _⟩ := tiIs_info hte'
      rw [hinf] at hi'
      injection hi' with hi'
      subst hi'
      rw [his', htsz]
    have hnu : P.underlying t' = some (.int kn) := kindIs_int (by
      have := hT _ _ htn
      unfold tiIs at this
      simp only [Bool.and_eq_true] at this
      rw [hkn] at this
      exact this.1.2)
    have hvs := ev_ok hev s
    rw [hs] at hvs
    have hvx := ev_ok hev x
    rw [hx] at hvx
    have hvx := hvx.int
    obtain ⟨pl, hr, hok, _, hat⟩ := osl_row hm hvs (Mem.get_at hB)
    obtain ⟨⟨g0, hsz, hn0, hrow, hl⟩, hc0, hct⟩ := hok
    have hsl := hat g0
    have hbig : i + k ≤ 140737488355328 := Nat.le_trans (Nat.le_mul_of_pos_right _ hb0) hcap
    have hkle : k * te.bytes ≤ 140737488355328 := Nat.le_trans (Nat.mul_le_mul_right _ (by omega)) hcap
    -- what the first rows hold
    obtain ⟨A, cap, olds, hval, hcc, hol, hold, hrows⟩ : ∃ (A : Option Addr) (cap : Nat) (olds : List Value), a.eval s = .slice A i cap ∧ cap ≤ c ∧ olds.length = i * sz ∧ (Builtin.firstCells inf.size i (.slice A i cap)).run P w.drew = .ok olds.toArray w.drew ∧ RowsAt w F σ sz i f olds := by
      unfold SlAt at hsl
      split at hsl
      · rename_i hloc
        obtain ⟨rfl, _, hval⟩ := hsl
        exact ⟨none, 0, [], hval, Nat.zero_le _, by simp, run_firstCells_none .., fun j hj => absurd hj (by omega), by simp, fun j _ _ hj => absurd hj (by omega)⟩
      · rename_i b tot hloc
        obtain ⟨A, cap, hval, hnc, hoc, hA⟩ := hsl
        have htc := hct b tot hloc
        obtain ⟨hnt, htm, us, hheap, hlen, hvc⟩ := hl b tot hloc
        have hA0 := hA (.inr rfl)
        have hle : i * sz ≤ us.length := by rw [hlen]; exact Nat.mul_le_mul_right _ (by omega)
        have hloads : (Builtin.firstCells inf.size i (.slice A i cap)).run P w.drew = .ok (us.take (i * sz)).toArray w.drew := by
          rw [hA0, hsize]
          have h2 := run_loadCells_list (P := P) w.drew ⟨b, 0 * pl.sz, none⟩ (us.take (i * sz)) (fun j v hj => by
            have hjl : j < i * sz := by
              have := (List.getElem?_eq_some_iff.1 hj).1
              rw [List.length_take] at this
              omega
            rw [List.getElem?_take, if_pos hjl] at hj
            have hh : w.drew.heap[b]? = some (.cells us.toArray e (0, 0)) := hheap
            rw [add_at, cell_of_row w.drew b _ us.toArray e (0, 0) hh]
            simpa using hj)
          rw [List.length_take, Nat.min_eq_left hle] at h2
          exact h2
        refine ⟨A, cap, us.take (i * sz), hval, by omega, by rw [List.length_take]; omega, hloads, fun j hj => hrow j (by omega), by rw [List.length_take]; omega, fun i1 j B hi1 hB1 => ?_⟩
        obtain ⟨u, hu, hv, h1⟩ := hvc i1 j B (by omega) hB1
        have hj : j < sz := by rw [← hrow i1 (by omega)]; exact (List.getElem?_eq_some_iff.1 hB1).1
        exact ⟨u, by rw [List.getElem?_take, if_pos (row_lt hi1 hj)]; exact hu, hv, h1⟩
    have hrun := Lib.run_append_grow_zeros w t t' o.type e inf z kq kn hu hnu hinf hz A i cap olds hold k hk0 (by rw [hsize]; exact hszp) (by omega) (by omega) (by rw [hib]; omega) (by rw [hib]; exact growslice_fits (by omega) hcap)
    have hG1 := grownCap_ge w (i + k) cap e
    have hG2 := grownCap_le_maxLen w (i + k) cap e (by unfold maxLen; omega)
    generalize grownCap w (i + k) cap e = G at hrun hG1 hG2
    have hz0 : CellsOk w F σ (up te.zero) z.cells.toList := .zero hzs
    have hzl : z.cells.size = sz := by rw [hzsz, ← his, hsize]
    have hzat : ∀ i1 j, i1 < k → j < sz → (Builtin.zeroCells z.cells k)[i1 * sz + j]? = z.cells[j]? := fun i1 j hi hj => by
      have h1 := row_lt hi hj
      simp only [Builtin.zeroCells, hzl]
      rw [Array.getElem?_map, Array.getElem?_range, if_pos h1]
      have h2 : (i1 * sz + j) % sz = j := by rw [Nat.mul_comm, Nat.mul_add_mod, Nat.mod_eq_of_lt hj]
      simp only [Option.map_some, h2]
      have h3 : j < z.cells.size := by omega
      simp [h3]
    have hzrows : RowsAt w F σ sz k (fun _ => up te.zero) (Builtin.zeroCells z.cells k).toList := by
      refine ⟨fun i hi => by rw [← hz0.1, Array.length_toList, hzl], by simp [size_zeroCells, hzl], fun i1 j B hi1 hB1 => ?_⟩
      have hj : j < sz := by
        have := (List.getElem?_eq_some_iff.1 hB1).1
        rw [← hz0.1, Array.length_toList, hzl] at this
        exact this
      have hu : z.cells.toList[j]? = some (z.cells[j]'(by omega)) := by simp [show j < z.cells.size by omega]
      obtain ⟨q1, q2⟩ := hz0.2 j B _ hB1 hu
      exact ⟨_, by rw [Array.getElem?_toList, hzat i1 j hi1 hj]; simp [show j < z.cells.size by omega], q1, q2⟩
    have hjoin := joinF_rows hrows hol hzrows
    obtain ⟨σ', g1, g2, g3, g4⟩ := newRow_ok (w' := w.drew.alloc (.cells (olds.toArray ++ Builtin.zeroCells z.cells k ++ Builtin.zeroCells z.cells (G - (i + k))) e)) (b := w.heap.size) (tot := G) (us := (olds.toArray ++ Builtin.zeroCells z.cells k ++ Builtin.zeroCells z.cells (G - (i + k))).toList) (e := e) (sz := sz) (n := i + k) (f := fun j => if j < i then f j else up te.zero) hm (Nat.le_refl _) (by simp) (fun b hb => heap_alloc_old w.drew _ hb) rfl rfl rfl (Nat.le_succ _)
      (by rw [Array.toArray_toList]; exact heap_alloc_new w.drew _)
      (by
        simp only [Array.length_toList, Array.size_append, size_zeroCells, hzl, List.size_toArray, hol, ← Nat.add_mul]
        congr 1; omega) hG1 hG2
      ⟨fun i1 hi1 => by
          show (if i1 < i then f i1 else up te.zero).length = sz
          split
          · exact hrow _ (by omega)
          · rw [← hz0.1, Array.length_toList, hzl], by
        simp only [Array.length_toList, Array.size_append, size_zeroCells, hzl, List.size_toArray, hol, ← Nat.add_mul]
        exact Nat.mul_le_mul_right _ (by omega), fun i1 j B hi1 hB1 => by
        have hBj : (joinF i f (fun _ => up te.zero) i1)[j]? = some B := by
          rw [← hB1]
          unfold joinF
          cases hb : Nat.blt i1 i with
          | true =>
            have hlt : i1 < i := Nat.le_of_ble_eq_true hb
            simp [hlt]
          | false =>
            have hge : ¬ i1 < i := fun h => by rw [show Nat.blt i1 i = true from Nat.ble_eq_true_of_le h] at hb; cases hb
            simp [hge]
        obtain ⟨u, hu, hv, h1⟩ := hjoin.2.2 i1 j B hi1 hBj
        refine ⟨u, ?_, hv, h1⟩
        rw [Array.getElem?_toList, Array.getElem?_append_left (by
          have := (List.getElem?_eq_some_iff.1 hu).1
          simpa using this), ← Array.getElem?_toList]
        simpa using hu⟩
    refine ⟨_, _, _, σ', F, _, _, ?_, .inl rfl, hK, g1, g2, g3, g4⟩
    simp only [execOp, hop, resolve, invoke, builtin, Sem.run_bind, Sem.run_pure, Result.andThen_ok, List.map_toArray, List.map_cons, List.map_nil, hval, hvx, hrun]⟩
/-- slices.overlaps, of two rows of our own. -/
theorem op_overlaps (hT : TabOk P T) {fo : FuncId} {x y : Operand} {at_ : Array TypeId} (hop : o.op = .call { callee := .value (.func fo), args := #[x, y], argTypes := at_ }) {tS tR : TypeId} {e : TypeId} {sz : Nat} (he : elemOf T tS = some (e, sz))
    (hcall : ∀ (args : Array Value) (w : World), (callFunc fo args).run P w = ((Extern.SlicesOverlaps.overlaps #[tS, tS] #[tR] args).run P w).andThen fun v w' => .ok (.value v) w')
    {rx : Ref} {gx ox nx : Nat} (hx : ev env x = .osl rx gx ox nx) (hx0 : 0 < nx) {e1 : TypeId} {s1 n1 : Nat} {f1 : Nat → List AV} (hBx : m.get rx = some (.vec e1 s1 gx n1 f1)) (hs1 : 0 < s1)
    {ry : Ref} {gy oy ny : Nat} (hy : ev env y = .osl ry gy oy ny) (hy0 : 0 < ny) {e2 : TypeId} {s2 n2 : Nat} {f2 : Nat → List AV} (hBy : m.get ry = some (.vec e2 s2 gy n2 f2)) (hs2 : 0 < s2) (hne : rx ≠ ry)
    (hK : K (.d (.bool false)) m) : OpVC P o env m K :=
  ⟨fun c h => (by rw [hop] at h; cases h), fun a w F σ hev hm => by
    obtain ⟨hu, hrs, _⟩ := elemOf_ok hT he
    have hvx := ev_ok hev x
    rw [hx] at hvx
    have hvy := ev_ok hev y
    rw [hy] at hvy
    obtain ⟨px, hrx, hokx, _, hatx⟩ := osl_row hm hvx (Mem.get_at hBx)
    obtain ⟨gx0, hszx, _, _, hlx⟩ := hokx
    obtain ⟨py, hry, hoky, _, haty⟩ := osl_row hm hvy (Mem.get_at hBy)
    obtain ⟨gy0, hszy, _, _, hly⟩ := hoky
    obtain ⟨bx, totx, capx, hlocx, hvalx, hncx, hocx⟩ := slAt_some (hatx gx0) hx0
    obtain ⟨by', toty, capy, hlocy, hvaly, hncy, hocy⟩ := slAt_some (haty gy0) hy0
    obtain ⟨_, _, ux, hheapx, hlenx, _⟩ := hlx bx totx hlocx
    obtain ⟨_, _, uy, hheapy, hleny, _⟩ := hly by' toty hlocy
    have hbne : bx ≠ by' := fun e => hne (hm.inj rx ry px py bx totx toty hrx hry hlocx (by rw [hlocy, e]))
    have hrun := Lib.run_overlaps_apart (P := P) w tS tR e hu sz hrs ⟨bx, ox * px.sz, none⟩ ⟨by', oy * py.sz, none⟩ nx capx ny capy hbne e1 e2 ux.length uy.length
      (by simp [World.shape?, hheapx]) (by simp [World.shape?, hheapy]) (by
        rw [hleny]
        exact Nat.ne_of_gt (Nat.mul_pos (by omega) hs2)) (by simp [World.frozen?, hheapx]) (by simp [World.frozen?, hheapx])
    refine ⟨_, .bool false, w, σ, F, _, _, ?_, .inl rfl, hK, .d .bool, hm, Step.refl σ F w, SLe.refl σ⟩
    have e1 : a.eval (.func fo) = .func (.func fo) #[] #[] := rfl
    simp only [execOp, hop, Sem.run_bind, resolve, Deferred.ofValue, e1, invoke, Sem.run_pure, Result.andThen_ok, List.map_toArray, List.map_cons, List.map_nil, hvalx, hvaly]
    simp only [Array.empty_append, Array.append_empty, hcall, hrun, Result.andThen_ok]⟩
theorem drop_ok (hm : MemOk m σ F w) {r : Ref} {q : Option Pl} {B0 : Option Blk} (hr : σ r = some q) (hB : m.at r = some B0) : MemOk (m.put r none) (upd σ r none) F w ∧ SLe σ (upd σ r none) := by
  have hs := SLe.upd_old hr (QLe.none q)
  refine ⟨⟨fun r' => ?_, fun r' q' hq => ?_, fun r1 r2 p p' b t t' h1 h2 h3 h4 => ?_, fun r' p b t h1 h2 => ?_, hm.fl, hm.gl⟩, hs⟩
  · by_cases e : r' = r
    · subst e; rw [upd_self, put_self _ hB]; simp
    · rw [upd_other σ _ e, put_other _ e]; exact hm.dom r'
  · by_cases e : r' = r
    · subst e
      rw [upd_self] at hq
      injection hq with hq
      subst hq
      exact ⟨fun _ => put_self _ hB, fun p hp => by cases hp⟩
    · rw [upd_other σ _ e] at hq
      rw [put_other _ e]
      refine ⟨(hm.lv r' q' hq).1, fun p hp => ?_⟩
      obtain ⟨B1, h1, h2⟩ := (hm.lv r' q' hq).2 p hp
      exact ⟨B1, h1, h2.mono (fun _ h => h) (fun _ _ => rfl) hs (fun _ _ _ => rfl)⟩
  · have e1 : r1 ≠ r := fun e => by subst e; rw [upd_self] at h1; cases h1
    have e2 : r2 ≠ r := fun e => by subst e; rw [upd_self] at h2; cases h2
    rw [upd_other σ _ e1] at h1
    rw [upd_other σ _ e2] at h2
    exact hm.inj r1 r2 p p' b t t' h1 h2 h3 h4
  · have e1 : r' ≠ r := fun e => by subst e; rw [upd_self] at h1; cases h1
    rw [upd_other σ _ e1] at h1
    exact hm.nf r' p b t h1 h2
theorem take_ok (hm : MemOk m σ F w) {r : Ref} {pl pl' : Pl} {B' : Blk} {B0 : Option Blk} (hr : σ r = some (some pl)) (hB0 : m.at r = some B0) (hle : pl.g < pl'.g) (hB : ∀ σ', SLe σ σ' → BlkOk w F σ' B' pl')
    (hl : ∀ b t, pl'.loc = some (b, t) → b < w.heap.size ∧ ¬ F b ∧ ¬ Owned σ b) : MemOk (m.put r (some B')) (upd σ r (some pl')) F w ∧ SLe σ (upd σ r (some pl')) := by
  have hq : QLe (some pl) (some pl') := fun p hp => by injection hp with hp; subst hp; exact ⟨pl, rfl, by omega, fun e => by omega⟩
  have hs := SLe.upd_old hr hq
  refine ⟨⟨fun r' => ?_, fun r' q' hq' => ?_, fun r1 r2 p p' b t t' h1 h2 h3 h4 => ?_, fun r' p b t h1 h2 => ?_, hm.fl, hm.gl⟩, hs⟩
  · by_cases e : r' = r
    · subst e; rw [upd_self, put_self _ hB0]; simp
    · rw [upd_other σ _ e, put_other _ e]; exact hm.dom r'
  · by_cases e : r' = r
    · subst e
      rw [upd_self] at hq'
      injection hq' with hq'
      subst hq'
      exact ⟨(fun h => by cases h), fun p hp => by injection hp with hp; subst hp; exact ⟨B', put_self _ hB0, hB _ hs⟩⟩
    · rw [upd_other σ _ e] at hq'
      rw [put_other _ e]
      refine ⟨(hm.lv r' q' hq').1, fun p hp => ?_⟩
      obtain ⟨B1, h1, h2⟩ := (hm.lv r' q' hq').2 p hp
      exact ⟨B1, h1, h2.mono (fun _ h => h) (fun _ _ => rfl) hs (fun _ _ _ => rfl)⟩
  · by_cases e : r1 = r <;> by_cases e' : r2 = r
    · rw [e, e']
    · exfalso
      subst e
      rw [upd_self] at h1
      injection h1 with h1
      injection h1 with h1
      subst h1
      rw [upd_other σ _ e'] at h2
      exact (hl b t h3).2.2 ⟨r2, p', t', h2, h4⟩
    · exfalso
      subst e'
      rw [upd_self] at h2
      injection h2 with h2
      injection h2 with h2
      subst h2
      rw [upd_other σ _ e] at h1
      exact (hl b t' h4).2.2 ⟨r1, p, t, h1, h3⟩
    · rw [upd_other σ _ e] at h1
      rw [upd_other σ _ e'] at h2
      exact hm.inj r1 r2 p p' b t t' h1 h2 h3 h4
  · by_cases e : r' = r
    · subst e
      rw [upd_self] at h1
      injection h1 with h1
      injection h1 with h1
      subst h1
      exact ⟨(hl b t h2).2.1, (hl b t h2).1⟩
    · rw [upd_other σ _ e] at h1
      exact hm.nf r' p b t h1 h2
/-- A row of our own takes the place of an elder one. -/
theorem Awp.move {c : Code} {Q : Post} (r r' : Ref) (t : Nat) (hne : r' ≠ r) {e0 : TypeId} {sz0 g n0 : Nat} {f0 : Nat → List AV} (hB : m.get r = some (.vec e0 sz0 g n0 f0)) {e : TypeId} {sz g' n : Nat} {f : Nat → List AV} (hB' : m.get r' = some (.vec e sz g' n f)) {k : Nat} (ht : get env t = .osl r' g' 0 k)
    (h : Awp P N c ((t, .osl r (g + 1) 0 k) :: env) ((m.put r' none).put r (some (.vec e sz (g + 1) n f))) Q) : Awp P N c env m Q :=
  ⟨fun ro lo a w σ F hN hD he hm => by
    have hv := he t
    rw [ht] at hv
    obtain ⟨pl', hr', hok', _, hat'⟩ := osl_row hm hv (Mem.get_at hB')
    have hok0 : VecOk w F σ e sz g' n f pl' := hok'
    obtain ⟨g1, hsz', hn', hrow', hl'⟩ := hok'
    have hSl := hat' g1
    obtain ⟨pl, hr, hg⟩ : ∃ pl, σ r = some (some pl) ∧ pl.g = g := by
      cases hq : σ r with
      | none => have := (hm.dom r).1 hq; rw [Mem.get_at hB] at this; cases this
      | some q =>
        cases q with
        | none => have := (hm.lv r _ hq).1 rfl; rw [Mem.get_at hB] at this; cases this
        | some pl =>
          obtain ⟨B, hB1, hok⟩ := (hm.lv r _ hq).2 pl rfl
          rw [Mem.get_at hB] at hB1
          injection hB1 with hB1
          injection hB1 with hB1
          subst hB1
          exact ⟨pl, rfl, hok.1⟩
    obtain ⟨d1, d2⟩ := drop_ok hm hr' (Mem.get_at hB')
    let σ1 := upd σ r' none
    let pl2 : Pl := ⟨g + 1, pl'.sz, pl'.loc⟩
    have hr1 : σ1 r = some (some pl) := by rw [show σ1 r = σ r from upd_other σ none (fun e => hne e.symm)]; exact hr
    have hat1 : (m.put r' none).at r = some (some (.vec e0 sz0 g n0 f0)) := by rw [put_other _ (fun e => hne e.symm)]; exact Mem.get_at hB
    obtain ⟨k1, k2⟩ := take_ok (pl' := pl2) (B' := .vec e sz (g + 1) n f) d1 hr1 hat1 (by show pl.g < g + 1; omega) (fun σ' hs => by
        obtain ⟨_, q2, q3, q4, q5⟩ := hok0.mono (fun _ h => h) (fun _ _ => rfl) (SLe.trans' d2 hs) (fun _ _ _ => rfl)
        exact ⟨rfl, q2, q3, q4, q5⟩) (fun b tt hb => by
        obtain ⟨h1, h2⟩ := hm.nf r' pl' b tt hr' hb
        refine ⟨h2, h1, fun ⟨r3, p3, t3, h3, h4⟩ => ?_⟩
        have e3 : r3 ≠ r' := fun e => by subst e; rw [upd_self] at h3; cases h3
        rw [upd_other σ _ e3] at h3
        exact e3 (hm.inj r3 r' p3 pl' b t3 tt h3 hr' h4 hb))
    have hsle : SLe σ (upd σ1 r (some pl2)) := SLe.trans' d2 k2
    have hstep : Step σ F w (upd σ1 r (some pl2)) F w := ⟨rfl, rfl, rfl, Nat.le_refl _, Nat.le_refl _, fun _ _ _ => rfl, fun _ h => h, fun _ h => .inl h, fun b ⟨r3, p3, t3, h3, h4⟩ => by
      by_cases e3 : r3 = r
      · subst e3
        rw [upd_self] at h3
        injection h3 with h3
        injection h3 with h3
        subst h3
        exact .inl ⟨r', pl', t3, hr', h4⟩
      · rw [upd_other _ _ e3] at h3
        have e4 : r3 ≠ r' := fun e => by subst e; rw [show σ1 r3 = some none from upd_self σ r3 none] at h3; cases h3
        rw [show σ1 r3 = σ r3 from upd_other σ none e4] at h3
        exact .inl ⟨r3, p3, t3, h3, h4⟩⟩
    have he' : EnvOk ((t, .osl r (g + 1) 0 k) :: env) w F (upd σ1 r (some pl2)) a.tmps := by
      intro x
      simp only [get]
      cases hb : Nat.beq t x with
      | true =>
        have := Nat.eq_of_beq_eq_true hb
        subst this
        refine .osl (upd_self σ1 r (some pl2)) fun p hp => ?_
        injection hp with hp
        subst hp
        exact ⟨Nat.le_refl _, fun _ => hSl⟩
      | false => exact (he x).mono (fun _ h => h) (fun _ _ => rfl) hsle
    exact wpIn_mono (h.run ro lo a w _ F hN (hD.step hstep) he' k1) fun e a2 w2 h5 => lift_trans hstep (.of hsle) h5⟩
theorem forget_ok (hm : MemOk m σ F w) {r : Ref} {e : TypeId} {sz g n c : Nat} {f : Nat → List AV} (hB : m.get r = some (.room e sz g n c f)) : MemOk (m.put r (some (.vec e sz g n f))) σ F w := by
  refine ⟨fun r' => ?_, fun r' q hq => ?_, hm.inj, hm.nf, hm.fl, hm.gl⟩
  · by_cases e1 : r' = r
    · subst e1
      rw [put_self _ (Mem.get_at hB), hm.dom, Mem.get_at hB]
      simp
    · rw [put_other _ e1]; exact hm.dom r'
  · by_cases e1 : r' = r
    · subst e1
      rw [put_self _ (Mem.get_at hB)]
      refine ⟨fun h => ?_, fun pl hp => ?_⟩
      · have := (hm.lv r' q hq).1 h
        rw [Mem.get_at hB] at this
        cases this
      · obtain ⟨B, hB1, hok⟩ := (hm.lv r' q hq).2 pl hp
        rw [Mem.get_at hB] at hB1
        injection hB1 with hB1
        injection hB1 with hB1
        subst hB1
        exact ⟨_, rfl, hok.1⟩
    · rw [put_other _ e1]; exact hm.lv r' q hq
/-- .. and how much room a row has is forgotten. -/
def lessRoom (r : Ref) (m : Mem) (K : Mem → Prop) : Prop := match m.get r with
  | some (.room e sz g n _ f) => K (m.put r (some (.vec e sz g n f)))
  | _ => False
theorem OpVC.forget (r : Ref) (h : OpVC P o env m fun A m' => lessRoom r m' (K A)) : OpVC P o env m K :=
  ⟨h.nd, fun a w F σ he hm => by
    obtain ⟨n, u, w', σ', F', A, m', h1, h2, h3, h4, h5, h6⟩ := h.run a w F σ he hm
    unfold lessRoom at h3
    split at h3
    · rename_i e sz g n1 c f h7
      exact ⟨n, u, w', σ', F', A, _, h1, h2, h3, h4, forget_ok h5 h7, h6⟩
    · exact h3.elim⟩
end
end Go.Ab
