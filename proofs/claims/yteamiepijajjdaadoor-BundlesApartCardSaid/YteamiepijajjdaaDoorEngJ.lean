/-
  The engine, part J: boxes, variables, stores, slice literals.
-/
import Derived.Test.YteamiepijajjdaaDoorEngI
namespace Go.Ab
set_option linter.unusedSimpArgs false
set_option linter.unusedVariables false

def evStore (T : Tab) (m : Mem) (t : TypeId) (X : AV) (new : List AV) : Option (Mem × List Prop) :=
  match T.at t with
  | none => none
  | some ti => bif Nat.beq (count new) ti.size then
      match X with
      | .ptr r g i off => match m.get r with
        | some (.box e cs) => bif Nat.beq g 0 && Nat.beq i 0 && Nat.ble (off + ti.size) (count cs) then some (m.put r (some (.box e (splice cs off new))), []) else none
        | some (.vec e sz g' n f) => bif Nat.ble (off + ti.size) sz then
            some (m.put r (some (.vec e sz g' n fun j => bif Nat.beq j i then splice (f i) off new else f j)), [g' = g, i < n]) else none
        | _ => none
      | _ => none
    else none
/-- The rows of a slice's literal: all places written, in order. -/
def rowsOf (m : Mem) (sz : Nat) : Nat → List (Nat × AV) → Option (List (List AV) × List Prop)
  | _, [] => some ([], [])
  | k, (i, A) :: r => bif Nat.beq i k then match cellsOf m A with
      | none => none
      | some (cs, p) => bif Nat.beq (count cs) sz then match rowsOf m sz (k + 1) r with
          | none => none
          | some (l, q) => some (cs :: l, cat p q)
        else none
    else none
def nthRow : List (List AV) → Nat → List AV
  | [], _ => []
  | c :: _, 0 => c
  | _ :: r, i + 1 => nthRow r i
def rowFn : List (List AV) → Nat → List AV
  | [c] => fun _ => c
  | l => nthRow l
def countR : List (List AV) → Nat
  | [] => 0
  | _ :: r => countR r + 1
def evBuildSlice (T : Tab) (m : Mem) (t : TypeId) (n : Nat) (parts : List (Nat × AV)) : Option (AV × Mem × List Prop) :=
  match elemOf T t with
  | none => none
  | some (e, sz) => match rowsOf m sz 0 parts with
    | none => none
    | some (rows, p) => bif Nat.beq (countR rows) n && Nat.ble (n * sz) 65536 then some (.osl m.new 0 0 n, m.add (.vec e sz 0 n (rowFn rows)), p) else none

section sound
variable {P : Program} {T : Tab} {w : World} {F : Nat → Prop} {σ : Pls} {m : Mem}

/-- What is to be shown of an operation that turns memory. -/
def EffOp (P : Program) (F : Nat → Prop) (σ : Pls) (w : World) (ρ : Operand → Value) (o : Oper) (A : AV) (m' : Mem) : Prop :=
  ∃ n u w' σ', (execOp ρ o).run P w = .ok n w' ∧ (n = .value u ∨ (n = .skip ∧ u = undef)) ∧ Vc w' F σ' A u ∧ MemOk m' σ' F w' ∧ Step σ F w σ' F w' ∧ SLe σ σ'

theorem size_alloc (w : World) (o : Obj) : (w.alloc o).heap.size = w.heap.size + 1 := World.size_alloc w o
theorem step_alloc {pl : Pl} {o : Obj} (hl : ∀ b t, pl.loc = some (b, t) → w.heap.size ≤ b) : Step σ F w (upd σ m.new (some pl)) F (w.alloc o) where
  os := rfl
  tape := rfl
  output := rfl
  size := by rw [size_alloc]; omega
  keep b hb _ := heap_alloc_old w o b hb
  fro _ h := h
  fro' _ h := .inl h
  own := own_upd_new hl

theorem box_ok (hm : MemOk m σ F w) {t : TypeId} {cs : List AV} {us : List Value} (hc : CellsOk w F σ cs us) :
    ∃ σ', Vc (w.alloc (.cells us.toArray t)) F σ' (.ptr m.new 0 0 0) (.pointer (some ⟨w.heap.size, 0, none⟩)) ∧ MemOk (m.add (.box t cs)) σ' F (w.alloc (.cells us.toArray t)) ∧ Step σ F w σ' F (w.alloc (.cells us.toArray t)) ∧ SLe σ σ' := by
  let pl : Pl := ⟨0, cs.length, some (w.heap.size, 1)⟩
  have hn := new_none hm
  have hs := SLe.upd_new (σ := σ) (r := m.new) (some pl) hn
  have hkF : ∀ b, F b → (w.alloc (.cells us.toArray t)).heap[b]? = w.heap[b]? := fun b hb => heap_alloc_old w _ b (hm.fl b hb)
  have hB : BlkOk (w.alloc (.cells us.toArray t)) F (upd σ m.new (some pl)) (.box t cs) pl :=
    ⟨rfl, rfl, w.heap.size, rfl, us, heap_alloc_new w _, hc.1, fun j A u hA hu => ⟨(hc.2 j A u hA hu).1.mono (fun _ h => h) hkF hs, (hc.2 j A u hA hu).2⟩⟩
  obtain ⟨h1, h2⟩ := fresh_ok (w' := w.alloc (.cells us.toArray t)) hm (by rw [size_alloc]; omega) (fun b hb => heap_alloc_old w _ b hb) hB (fun b t' h => by
    simp only [pl, Option.some.injEq, Prod.mk.injEq] at h
    obtain ⟨rfl, _⟩ := h
    exact ⟨Nat.le_refl _, by rw [size_alloc]; omega⟩)
  refine ⟨_, .ptr (upd_self σ m.new (some pl)) fun p hp => ?_, h1, step_alloc (fun b t' h => ?_), h2⟩
  · injection hp with hp
    subst hp
    exact ⟨Nat.le_refl _, fun _ => ⟨w.heap.size, 1, rfl, by simp⟩⟩
  · simp only [pl, Option.some.injEq, Prod.mk.injEq] at h
    omega

theorem mid_at {us vs : List Value} {o : Nat} (h : o + vs.length ≤ us.length) (k : Nat) :
    (us.take o ++ vs ++ us.drop (o + vs.length))[k]? = if o ≤ k ∧ k < o + vs.length then vs[k - o]? else us[k]? := by
  by_cases h1 : k < o
  · rw [if_neg (by omega), List.append_assoc, List.getElem?_append_left (by simp; omega)]
    simp [h1]
  · by_cases h2 : k < o + vs.length
    · rw [if_pos ⟨by omega, h2⟩, List.getElem?_append_left (by simp; omega), List.getElem?_append_right (by simp; omega)]
      simp [Nat.min_eq_left (show o ≤ us.length by omega)]
    · rw [if_neg (by omega), List.getElem?_append_right (by simp; omega)]
      simp only [List.length_append, List.length_take, Nat.min_eq_left (show o ≤ us.length by omega), List.getElem?_drop]
      congr 1
      omega
theorem mid_length {us vs : List Value} {o : Nat} (h : o + vs.length ≤ us.length) : (us.take o ++ vs ++ us.drop (o + vs.length)).length = us.length := by simp; omega

theorem step_setRow {r : Ref} {pl : Pl} {b tot : Nat} (hr : σ r = some (some pl)) (hl : pl.loc = some (b, tot)) (cs : Array Value) : Step σ F w (upd σ r (some pl)) F (w.setRow b cs) where
  os := rfl
  tape := rfl
  output := rfl
  size := by rw [size_setRow]; exact Nat.le_refl _
  keep b' _ ho := setRow_other w b b' cs (fun e => ho ⟨r, pl, tot, hr, by rw [e]; exact hl⟩)
  fro _ h := h
  fro' _ h := .inl h
  own := own_upd_old hr (fun b' t h => .inl ⟨t, h⟩)

theorem evStore_ok (hT : TabOk P T) (hm : MemOk m σ F w) {t : TypeId} {x : AV} {X V : Value} {new : List AV} {vs : List Value} {m' : Mem} {p : List Prop} (hx : Vc w F σ x X) (hv : V.cells = vs.toArray) (hc : CellsOk w F σ new vs)
    (h : evStore T m t x new = some (m', p)) (hp : ∀ q ∈ p, q) : ∃ w' σ', (Instr.storeAt t X V).run P w = .ok () w' ∧ MemOk m' σ' F w' ∧ Step σ F w σ' F w' ∧ SLe σ σ' := by
  unfold evStore at h
  split at h <;> try (cases h; done)
  rename_i ti hti
  have ht := hT _ _ hti
  cases hcn : Nat.beq (count new) ti.size with
  | false => rw [hcn] at h; cases h
  | true =>
    rw [hcn] at h
    simp only [cond_true] at h
    have hcn := Nat.eq_of_beq_eq_true hcn
    rw [count_eq] at hcn
    have hvs : vs.length = ti.size := by rw [hc.1, hcn]
    have hone : ∀ v ∈ vs, v.oneCell' = true := fun v hvm => by
      obtain ⟨j, hj, rfl⟩ := List.getElem_of_mem hvm
      have hj' : j < new.length := by rw [← hc.1]; exact hj
      exact (hc.2 j _ _ (List.getElem?_eq_getElem hj') (List.getElem?_eq_getElem hj)).2
    have hrun : ∀ (b o : Nat) (cur : List Value) (e : TypeId), w.heap[b]? = some (.cells cur.toArray e (0, 0)) → o + vs.length ≤ cur.length →
        (Instr.storeAt t (.pointer (some ⟨b, o, none⟩)) V).run P w = .ok () (w.setRow b (cur.take o ++ vs ++ cur.drop (o + vs.length)).toArray) := by
      intro b o cur e hh hfit
      have := run_storeCells_at P b o e vs 0 cur.toArray w hh (by simpa using hfit) hone
      simp only [Nat.add_zero] at this
      simp [Instr.storeAt, Instr.sureAddr, storeVar, hv, run_sizeOf ht, hvs, this]
    split at h <;> try (cases h; done)
    rename_i r g i off
    split at h <;> try (cases h; done)
    · rename_i e cs hB
      cases hgi : (Nat.beq g 0 && Nat.beq i 0 && Nat.ble (off + ti.size) (count cs)) with
      | false => rw [hgi] at h; cases h
      | true =>
        rw [hgi] at h
        simp only [cond_true, Option.some.injEq, Prod.mk.injEq] at h
        obtain ⟨rfl, rfl⟩ := h
        simp only [Bool.and_eq_true, count_eq] at hgi
        have hg := Nat.eq_of_beq_eq_true hgi.1.1
        have hi := Nat.eq_of_beq_eq_true hgi.1.2
        have hfit := Nat.le_of_ble_eq_true hgi.2
        subst hg; subst hi
        obtain ⟨pl, hr, hok, _, hat⟩ := ptr_row hm hx (Mem.get_at hB)
        obtain ⟨h0, hsz, b, hl, us, hheap, hlen, hvc⟩ := hok
        obtain ⟨b', tot, hl', hX⟩ := hat h0
        rw [hl] at hl'
        obtain ⟨rfl, rfl⟩ := Prod.mk.inj (Option.some.inj hl')
        subst hX
        have hfit' : off + vs.length ≤ us.length := by omega
        have hr1 := hrun b off us e hheap hfit'
        have hsp := CellsOk.splice (cs := cs) (us := us) (new := new) (vs := vs) (o := off) ⟨hlen, hvc⟩ hc (by omega)
        have hstep := step_setRow (F := F) (w := w) hr hl (us.take off ++ vs ++ us.drop (off + vs.length)).toArray
        have hq : QLe (some pl) (some pl) := QLe.refl _
        have hs := SLe.upd_old hr hq
        have hkF : ∀ b', F b' → (w.setRow b (us.take off ++ vs ++ us.drop (off + vs.length)).toArray).heap[b']? = w.heap[b']? := fun b' hb' => setRow_other w b b' _ (fun e => (hm.nf r pl b 1 hr hl).1 (e ▸ hb'))
        obtain ⟨h1, h2⟩ := change_ok (w' := w.setRow b (us.take off ++ vs ++ us.drop (off + vs.length)).toArray) (pl' := pl) (B' := .box e (splice cs off new)) hm hr (by rw [size_setRow]; exact Nat.le_refl _) (fun b' _ ht => setRow_other w b b' _ (fun e => ht 1 (by rw [hl, e]))) ⟨Nat.le_refl _, fun _ => rfl⟩
          ⟨h0, by rw [hsz, splice_length], b, hl, _, setRow_heap w b us.toArray _ e (0, 0) hheap, hsp.1, fun j A u hA hu => ⟨(hsp.2 j A u hA hu).1.mono (fun _ h => h) hkF hs, (hsp.2 j A u hA hu).2⟩⟩
          (fun b' t' h => ⟨by rw [size_setRow]; exact (hm.nf r pl b' t' hr h).2, .inl ⟨t', h⟩⟩)
        refine ⟨_, _, ?_, h1, hstep, h2⟩
        simpa using hr1
    · rename_i e sz g' n f hB
      cases hgi : Nat.ble (off + ti.size) sz with
      | false => rw [hgi] at h; cases h
      | true =>
        rw [hgi] at h
        simp only [cond_true, Option.some.injEq, Prod.mk.injEq] at h
        obtain ⟨rfl, rfl⟩ := h
        have hfit := Nat.le_of_ble_eq_true hgi
        have hg : g' = g := hp _ (by simp)
        have hi : i < n := hp _ (by simp)
        subst hg
        obtain ⟨pl, hr, hok, _, hat⟩ := ptr_row hm hx (Mem.get_at hB)
        obtain ⟨h0, hsz, hn0, hrow, hl⟩ := hok
        obtain ⟨b, tot, hl', hX⟩ := hat h0
        obtain ⟨hnt, htm, us, hheap, hlen, hvc⟩ := hl b tot hl'
        subst hX
        have hmul : ∀ a c : Nat, a < c → a * sz + sz ≤ c * sz := fun a c hac => by
          have := Nat.mul_le_mul_right sz (show a + 1 ≤ c from hac)
          rw [Nat.add_mul] at this
          omega
        have hin := hmul i tot (by omega)
        have hfit' : i * sz + off + vs.length ≤ us.length := by omega
        have hr1 := hrun b (i * sz + off) us e hheap hfit'
        have hstep := step_setRow (F := F) (w := w) hr hl' (us.take (i * sz + off) ++ vs ++ us.drop (i * sz + off + vs.length)).toArray
        have hs := SLe.upd_old hr (QLe.refl (some pl))
        have hkF : ∀ b', F b' → (w.setRow b (us.take (i * sz + off) ++ vs ++ us.drop (i * sz + off + vs.length)).toArray).heap[b']? = w.heap[b']? := fun b' hb' => setRow_other w b b' _ (fun e => (hm.nf r pl b tot hr hl').1 (e ▸ hb'))
        have hlenf : off + new.length ≤ (f i).length := by rw [hrow i hi]; omega
        obtain ⟨h1, h2⟩ := change_ok (w' := w.setRow b (us.take (i * sz + off) ++ vs ++ us.drop (i * sz + off + vs.length)).toArray) (pl' := pl) (B' := .vec e sz g' n fun j => bif Nat.beq j i then splice (f i) off new else f j) hm hr (by rw [size_setRow]; exact Nat.le_refl _) (fun b' _ ht => setRow_other w b b' _ (fun e => ht tot (by rw [hl', e]))) ⟨Nat.le_refl _, fun _ => rfl⟩
          ⟨h0, hsz, hn0, fun k hk => by
              show (bif Nat.beq k i then splice (f i) off new else f k).length = sz
              cases hki : Nat.beq k i with
              | true => simp only [cond_true, splice_length]; exact hrow i hi
              | false => simp only [cond_false]; exact hrow k hk,
            fun b1 tot1 hl1 => by
              rw [hl'] at hl1
              obtain ⟨rfl, rfl⟩ := Prod.mk.inj (Option.some.inj hl1)
              refine ⟨hnt, htm, _, setRow_heap w b us.toArray _ e (0, 0) hheap, by rw [mid_length hfit']; exact hlen, fun k j A hk hA => ?_⟩
              rw [mid_at hfit']
              replace hA : (bif Nat.beq k i then splice (f i) off new else f k)[j]? = some A := hA
              cases hki : Nat.beq k i with
              | true =>
                have := Nat.eq_of_beq_eq_true hki
                subst this
                rw [hki] at hA
                simp only [cond_true] at hA
                rw [splice_at _ _ _ _ hlenf] at hA
                by_cases hj : off ≤ j ∧ j < off + new.length
                · rw [if_pos hj] at hA
                  have hjv : j - off < vs.length := by omega
                  refine ⟨vs[j - off], ?_, ?_⟩
                  · rw [if_pos (by omega)]
                    have : k * sz + j - (k * sz + off) = j - off := by omega
                    rw [this]
                    exact List.getElem?_eq_getElem hjv
                  · have := hc.2 (j - off) A _ hA (List.getElem?_eq_getElem hjv)
                    exact ⟨this.1.mono (fun _ h => h) hkF hs, this.2⟩
                · rw [if_neg hj] at hA
                  obtain ⟨u, hu, hvu, h1u⟩ := hvc k j A hk hA
                  exact ⟨u, by rw [if_neg (by omega)]; exact hu, hvu.mono (fun _ h => h) hkF hs, h1u⟩
              | false =>
                have hne := Nat.ne_of_beq_eq_false hki
                rw [hki] at hA
                simp only [cond_false] at hA
                obtain ⟨u, hu, hvu, h1u⟩ := hvc k j A hk hA
                have hjs : j < sz := by rw [← hrow k hk]; exact (List.getElem?_eq_some_iff.1 hA).1
                refine ⟨u, ?_, hvu.mono (fun _ h => h) hkF hs, h1u⟩
                rw [if_neg]
                · exact hu
                · rcases Nat.lt_or_gt_of_ne hne with h3 | h3
                  · have := hmul k i h3; omega
                  · have := hmul i k h3; omega⟩
          (fun b' t' h => ⟨by rw [size_setRow]; exact (hm.nf r pl b' t' hr h).2, .inl ⟨t', h⟩⟩)
        refine ⟨_, _, ?_, h1, hstep, h2⟩
        rw [hsz]
        exact hr1
end sound
end Go.Ab
