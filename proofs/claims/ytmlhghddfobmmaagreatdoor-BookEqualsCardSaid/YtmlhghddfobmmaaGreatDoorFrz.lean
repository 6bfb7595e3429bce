/-
  Texts put together: Ops, OpsB, OpsC, OpsF, OpsG, Frz.
-/
import Derived.Test.YtmlhghddfobmmaaGreatDoorEngAR
import Derived.Lib.AppendZerosOnto
import Derived.Lib.Overlaps
import Derived.Laws.CopyRow
import Derived.Laws.MakeOwn
/-
  Operations of the library's functions that the engine does not take of itself: cap, a slice beyond its length, copy, append of make, overlaps; a row that takes another's place.
-/
namespace Go.Ab
set_option linter.unusedSimpArgs false
set_option linter.unusedVariables false
section
variable {P : Program} {T : Tab} {N : Nat} {w : World} {F : Nat → Prop} {σ : Pls} {m : Mem} {env : Env} {K : AV → Mem → Prop} {o : Oper}
end
end Go.Ab
/-
  Operations, part B: a slice of an array in a variable of our own, which is given up for good; integers shifted and converted; clear.
-/
namespace Go.Ab
set_option linter.unusedSimpArgs false
set_option linter.unusedVariables false
section
variable {P : Program} {T : Tab} {N : Nat} {w : World} {F : Nat → Prop} {σ : Pls} {m : Mem} {env : Env} {K : AV → Mem → Prop} {o : Oper}
end
end Go.Ab
/-
  Operations, part C: integers converted, shifted to the right, masked.
-/
namespace Go.Ab
set_option linter.unusedSimpArgs false
set_option linter.unusedVariables false
section
variable {P : Program} {T : Tab} {N : Nat} {w : World} {F : Nat → Prop} {σ : Pls} {m : Mem} {env : Env} {K : AV → Mem → Prop} {o : Oper}
theorem Step.same (σ : Pls) (F : Nat → Prop) (w : World) : Step σ F w σ F w :=
  ⟨rfl, rfl, rfl, Nat.le_refl _, Nat.le_refl _, fun _ _ _ => rfl, fun _ h => h, fun _ h => .inl h, fun _ h => .inl h⟩
/-- x == nil, of a slice that is data: either way if it is empty. -/
theorem op_isnil {t t' : TypeId} {x y : Operand} (hop : o.op = .binOp .eql t x y t') {e : TypeId} (ht : P.underlying t = some (.slice e)) (hy0 : y = .const (.slice none 0 0)) {sz n : Nat} {f : Nat → List D} (hx : ev env x = .d (.sl sz n f)) (hK : ∀ b : Bool, (b = true → n = 0) → K (.d (.bool b)) m) : OpVC P o env m K :=
  ⟨fun c h => (by rw [hop] at h; cases h), fun a w F σ hev hm => by
    have hv := ev_ok hev x
    rw [hx] at hv
    obtain ⟨A, cap, hval, hA⟩ : ∃ A cap, a.eval x = .slice A n cap ∧ (A = none → n = 0) := by
      cases hv with
      | d h =>
        generalize hvv : a.eval x = v at h
        cases h with
        | sl a0 g hc ha hl hcell h =>
          refine ⟨_, _, rfl, fun hn => ?_⟩
          by_cases h0 : 0 < n
          · have := (ha h0).1
            rw [hn] at this
            cases this
          · omega
    refine ⟨_, .bool A.isNone, w, σ, F, .d (.bool A.isNone), _, ?_, .inl rfl, hK A.isNone (fun h => hA (by simpa using h)), .d .bool, hm, Step.same σ F w, SLe.refl σ⟩
    subst hy0
    have hcst : a.eval (.const (.slice none 0 0)) = .slice none 0 0 := rfl
    have he : (Op.equalIn Op.maxDepth t (.slice A n cap) (.slice none 0 0)).run P w = .ok A.isNone w := by
      rw [show Op.maxDepth = (Op.maxDepth - 1) + 1 from rfl]
      cases A with
      | none => simp [Op.equalIn, run_underlying ht]
      | some A => simp [Op.equalIn, run_underlying ht]
    cases A with
    | none => simp [execOp, hop, hval, hcst, binOp, eqGuard, Op.equal, he]
    | some A => simp [execOp, hop, hval, hcst, binOp, eqGuard, Op.equal, he]⟩
end
end Go.Ab
/-
  Operations, part F: make of a slice, all of whose rows are zero.
-/
namespace Go.Ab
set_option linter.unusedSimpArgs false
set_option linter.unusedVariables false
section
variable {P : Program} {T : Tab} {N : Nat} {w : World} {F : Nat → Prop} {σ : Pls} {m : Mem} {env : Env} {K : AV → Mem → Prop} {o : Oper}
/-- make([]E, n): a new row of zeros. -/
theorem op_make (hT : TabOk P T) {t : TypeId} {x y : Operand} (hop : o.op = .makeSlice t x y) {e : TypeId} {sz : Nat} (he : elemOf T t = some (e, sz)) {te : TI} (hte : T.at e = some te) (hb0 : 0 < te.bytes)
    {n : Nat} {kx ky : IntKind} (hx : ev env x = .d (.int kx n)) (hy : ev env y = .d (.int ky n)) (hcap : n * te.bytes ≤ 140737488355328)
    (hK : K (.osl m.new 0 0 n) (m.add (.vec e sz 0 n fun _ => up te.zero))) : OpVC P o env m K :=
  ⟨fun c h => (by rw [hop] at h; cases h), fun a w F σ hev hm => by
    obtain ⟨hu, hrs, te', hte', htsz⟩ := elemOf_ok hT he
    have hszp := sz_pos hT he
    obtain ⟨inf, z, hinf, his, hib, hz, hzs, hzsz⟩ := tiIs_info (hT _ _ hte)
    have hsize : inf.size = sz := by
      obtain ⟨i', z', hi', his', _⟩ := tiIs_info hte'
      rw [hinf] at hi'
      injection hi' with hi'
      subst hi'
      rw [his', htsz]
    have hvx := ev_ok hev x
    rw [hx] at hvx
    have hvx := hvx.int
    have hvy := ev_ok hev y
    rw [hy] at hvy
    have hvy := hvy.int
    have hbig : n ≤ 140737488355328 := Nat.le_trans (Nat.le_mul_of_pos_right _ hb0) hcap
    have hzl : z.cells.size = sz := by rw [hzsz, ← his, hsize]
    have hbb : (inf.bytes : Int) * (n : Int) ≤ 281474976710656 := by
      have h : ((inf.bytes * n : Nat) : Int) ≤ 281474976710656 := by
        rw [hib, Nat.mul_comm]
        omega
      rwa [Int.natCast_mul] at h
    have hrun := run_make (P := P) w t e inf z hu hinf hz kx ky n n (by omega) (Int.le_refl _) hbb (by omega)
    rw [Int.toNat_natCast, hsize] at hrun
    have hz0 : CellsOk w F σ (up te.zero) z.cells.toList := .zero hzs
    have hzat : ∀ i1 j, i1 < n → j < sz → (madeCells z.cells (n * sz))[i1 * sz + j]? = z.cells[j]? := fun i1 j hi hj => by
      have h1 := row_lt hi hj
      simp only [madeCells, hzl]
      rw [Array.getElem?_map, Array.getElem?_range, if_pos h1]
      have h2 : (i1 * sz + j) % sz = j := by rw [Nat.mul_comm, Nat.mul_add_mod, Nat.mod_eq_of_lt hj]
      simp only [Option.map_some, h2]
      have h3 : j < z.cells.size := by omega
      simp [h3]
    have hzrows : RowsAt w F σ sz n (fun _ => up te.zero) (madeCells z.cells (n * sz)).toList := by
      refine ⟨fun i hi => by rw [← hz0.1, Array.length_toList, hzl], by simp [size_madeCells], fun i1 j B hi1 hB1 => ?_⟩
      have hj : j < sz := by
        have := (List.getElem?_eq_some_iff.1 hB1).1
        rw [← hz0.1, Array.length_toList, hzl] at this
        exact this
      have hu : z.cells.toList[j]? = some (z.cells[j]'(by omega)) := by simp [show j < z.cells.size by omega]
      obtain ⟨q1, q2⟩ := hz0.2 j B _ hB1 hu
      exact ⟨_, by rw [Array.getElem?_toList, hzat i1 j hi1 hj]; simp [show j < z.cells.size by omega], q1, q2⟩
    obtain ⟨σ', g1, g2, g3, g4⟩ := newRow_ok (w' := w.alloc (.cells (madeCells z.cells (n * sz)) e)) (b := w.heap.size) (tot := n) (us := (madeCells z.cells (n * sz)).toList) (e := e) (sz := sz) (n := n) (f := fun _ => up te.zero) hm (Nat.le_refl _) (by simp) (fun b hb => heap_alloc_old w _ hb)
      rfl rfl rfl (Nat.le_refl _) (by rw [Array.toArray_toList]; exact heap_alloc_new w _) (by simp [size_madeCells]) (Nat.le_refl _) (by unfold maxLen; omega) hzrows
    refine ⟨_, _, _, σ', F, _, _, ?_, .inl rfl, hK, g1, g2, g3, g4⟩
    simp [execOp, hop, hvx, hvy, hrun]⟩
end
end Go.Ab
/-
  Operations, part G: integers that wrap: a conversion to 64 bits without sign, its negation.
-/
namespace Go.Ab
set_option linter.unusedSimpArgs false
set_option linter.unusedVariables false
section
variable {P : Program} {T : Tab} {N : Nat} {w : World} {F : Nat → Prop} {σ : Pls} {m : Mem} {env : Env} {K : AV → Mem → Prop} {o : Oper}
theorem wrap_u64 (n : Int) : IntKind.u64.wrap n = n % 18446744073709551616 := by
  simp [IntKind.wrap, IntKind.bits, IntKind.signed]
theorem op_conv64 {s t : TypeId} {x : Operand} (hop : o.op = .convert s t x) {k : IntKind} (hs : P.underlying s = some (.int k)) (ht : P.underlying t = some (.int .u64)) {n : Int} (hx : ev env x = .d (.int k n)) (hK : K (.d (.int .u64 (n % 18446744073709551616))) m) : OpVC P o env m K :=
  ⟨fun c h => (by rw [hop] at h; cases h), fun a w F σ hev hm => by
    have hv := ev_ok hev x
    rw [hx] at hv
    have hv := hv.int
    refine ⟨_, .int .u64 (n % 18446744073709551616), w, σ, F, _, _, ?_, .inl rfl, hK, .d .int, hm, Step.refl σ F w, SLe.refl σ⟩
    simp [execOp, hop, hv, convert, run_underlying hs, run_underlying ht, Conv.intToInt, wrap_u64]⟩
theorem op_neg64 {t : TypeId} {x : Operand} (hop : o.op = .unOp .neg t x) {n : Int} (hx : ev env x = .d (.int .u64 n)) (hK : K (.d (.int .u64 ((0 - n) % 18446744073709551616))) m) : OpVC P o env m K :=
  ⟨fun c h => (by rw [hop] at h; cases h), fun a w F σ hev hm => by
    have hv := ev_ok hev x
    rw [hx] at hv
    have hv := hv.int
    refine ⟨_, .int .u64 ((0 - n) % 18446744073709551616), w, σ, F, _, _, ?_, .inl rfl, hK, .d .int, hm, Step.refl σ F w, SLe.refl σ⟩
    simp [execOp, hop, hv, Op.unary, Op.intArith, wrap_u64]⟩
/-- &g[i], of a package-level array that is never written. -/
theorem op_idx_glob {t : TypeId} {g : Nat} {i : Operand} (hop : o.op = .indexAddr t (.global g) i) {n sz : Nat} {e : TypeId} (hu : P.underlying t = some (.array n e)) (hs : ∀ w', (sizeOf e).run P w' = .ok sz w') (cs : List D)
    (hcs : ∀ (j : Nat) d, cs[j]? = some d → ∃ v, (g, j, v) ∈ globs ∧ (∀ w F, Rd w F d v) ∧ v.oneCell' = true) {d0 : D} (hd0 : cs[0]? = some d0) {ki : IntKind} {k : Int} (hi : ev env i = .d (.int ki k)) (h0 : 0 ≤ k) (h1 : k < n) (hK : K (.d (.pt cs (k.toNat * sz))) m) : OpVC P o env m K :=
  ⟨fun c h => (by rw [hop] at h; cases h), fun a w F σ hev hm => by
    have hvi := ev_ok hev i
    rw [hi] at hvi
    have hvi := hvi.int
    have hgl := hm.gl
    obtain ⟨v0, hv0, _⟩ := hcs 0 d0 hd0
    have hF := (hgl g 0 v0 hv0).1
    have hx : ∀ j, ∃ v, ∀ d, cs[j]? = some d → (g, j, v) ∈ globs ∧ (∀ w F, Rd w F d v) ∧ v.oneCell' = true := fun j => by
      cases hj : cs[j]? with
      | none => exact ⟨undef, fun d h => by cases h⟩
      | some d =>
        obtain ⟨v, hv⟩ := hcs j d hj
        exact ⟨v, fun d' h => by cases h; exact hv⟩
    have hat : ∀ j : Nat, (⟨g, 0, none⟩ : Addr).add j = ⟨g, j, none⟩ := fun j => by
      rw [add_at]
      simp
    have hrd : Rd w F (.pt cs (k.toNat * sz)) (.pointer (some ((⟨g, 0, none⟩ : Addr).add (k.toNat * sz)))) := by
      refine .pt ⟨g, 0, none⟩ (fun j => (hx j).choose) hF (fun j hj => ?_) (fun j d hd => ((hx j).choose_spec d hd).2.1 w F)
      obtain ⟨q1, q2, q3⟩ := (hx j).choose_spec _ (List.getElem?_eq_getElem hj)
      rw [hat]
      exact ⟨(hgl g j _ q1).2, q3⟩
    refine ⟨_, .pointer (some ((⟨g, 0, none⟩ : Addr).add (k.toNat * sz))), w, σ, F, _, _, ?_, .inl rfl, hK, .d hrd, hm, Step.refl σ F w, SLe.refl σ⟩
    have hg0 : a.eval (.global g) = .pointer (some ⟨g, 0, none⟩) := rfl
    simp [execOp, hop, hg0, hvi, Instr.indexAt, run_underlying hu, asIntOf, h0, h1, hs, Instr.sureAddr]⟩
end
end Go.Ab
/-
  The engine: some rows of our own given up for good (read from then on as data), the others kept.
-/
namespace Go.Ab
set_option linter.unusedSimpArgs false
set_option linter.unusedVariables false
def inK (ks : List Nat) : Ref → Bool
  | .loc j => ks.elem j
  | _ => false
def mapI (g : Nat → Option Blk → Option Blk) : Nat → List (Option Blk) → List (Option Blk)
  | _, [] => []
  | i, b :: r => g i b :: mapI g (i + 1) r
theorem mapI_at (g : Nat → Option Blk → Option Blk) : ∀ (l : List (Option Blk)) (i j : Nat), (mapI g i l)[j]? = (l[j]?).map (g (i + j))
  | [], _, _ => by simp [mapI]
  | b :: r, i, 0 => by simp [mapI]
  | b :: r, i, j + 1 => by
    simp only [mapI, List.getElem?_cons_succ]
    rw [mapI_at g r (i + 1) j, show i + 1 + j = i + (j + 1) by omega]
def Mem.only (m : Mem) (ks : List Nat) : Mem := ⟨mapI (fun i b => bif ks.elem i then b else none) 0 m.loc, dead m.own⟩
def Mem.less (m : Mem) (ks : List Nat) : Mem := ⟨mapI (fun i b => bif ks.elem i then none else b) 0 m.loc, m.own⟩
theorem only_at (m : Mem) (ks : List Nat) (r : Ref) : (m.only ks).at r = (m.at r).map fun b => bif inK ks r then b else none := by
  cases r with
  | loc j => simp only [Mem.at, Mem.only, mapI_at, inK, Nat.zero_add]
  | arg j => simp only [Mem.at, Mem.only, dead_at, inK, cond_false]
  | bad => rfl
theorem less_at (m : Mem) (ks : List Nat) (r : Ref) : (m.less ks).at r = (m.at r).map fun b => bif inK ks r then none else b := by
  cases r with
  | loc j => simp only [Mem.at, Mem.less, mapI_at, inK, Nat.zero_add]
  | arg j => simp only [Mem.at, Mem.less, inK, cond_false, Option.map_id_fun', id]
  | bad => rfl
def kept (σ : Pls) (ks : List Nat) : Pls := fun r => bif inK ks r then σ r else (σ r).map fun _ => none
def shed (σ : Pls) (ks : List Nat) : Pls := fun r => bif inK ks r then (σ r).map fun _ => none else σ r
section
variable {P : Program} {w : World} {F : Nat → Prop} {σ : Pls} {m : Mem} {ks : List Nat}
theorem kept_some {r : Ref} {pl : Pl} (h : kept σ ks r = some (some pl)) : inK ks r = true ∧ σ r = some (some pl) := by
  unfold kept at h
  cases e : inK ks r with
  | true => rw [e] at h; exact ⟨rfl, h⟩
  | false => rw [e] at h; simp at h
theorem shed_some {r : Ref} {pl : Pl} (h : shed σ ks r = some (some pl)) : inK ks r = false ∧ σ r = some (some pl) := by
  unfold shed at h
  cases e : inK ks r with
  | true => rw [e] at h; simp at h
  | false => rw [e] at h; exact ⟨rfl, h⟩
theorem kept_le : SLe σ (kept σ ks) := fun r q hq => by
  unfold kept
  cases inK ks r with
  | true => exact ⟨q, hq, QLe.refl q⟩
  | false => exact ⟨none, by simp [hq], QLe.none q⟩
theorem shed_le : SLe σ (shed σ ks) := fun r q hq => by
  unfold shed
  cases inK ks r with
  | true => exact ⟨none, by simp [hq], QLe.none q⟩
  | false => exact ⟨q, hq, QLe.refl q⟩
theorem kept_ok (hm : MemOk m σ F w) : MemOk (m.only ks) (kept σ ks) F w where
  dom r := by
    rw [only_at]
    unfold kept
    cases inK ks r <;> simp [hm.dom r]
  lv r q hq := by
    rw [only_at]
    cases e : inK ks r with
    | true =>
      have hs : σ r = some q := by simpa [kept, e] using hq
      refine ⟨fun h => by rw [(hm.lv r q hs).1 h]; rfl, fun pl h => ?_⟩
      obtain ⟨B, h1, h2⟩ := (hm.lv r q hs).2 pl h
      exact ⟨B, by rw [h1]; rfl, h2.mono (fun _ h => h) (fun _ _ => rfl) kept_le (fun _ _ _ => rfl)⟩
    | false =>
      have hs : (σ r).map (fun _ => (none : Option Pl)) = some q := by simpa [kept, e] using hq
      rw [Option.map_eq_some_iff] at hs
      obtain ⟨q0, h1, rfl⟩ := hs
      refine ⟨fun _ => ?_, fun pl h => by cases h⟩
      cases h2 : m.at r with
      | none => rw [(hm.dom r).2 h2] at h1; cases h1
      | some b => rfl
  inj r r' pl pl' b t t' h1 h2 h3 h4 := hm.inj r r' pl pl' b t t' (kept_some h1).2 (kept_some h2).2 h3 h4
  nf r pl b t h1 h2 := hm.nf r pl b t (kept_some h1).2 h2
  fl := hm.fl
  gl := hm.gl
theorem shed_ok (hm : MemOk m σ F w) : MemOk (m.less ks) (shed σ ks) (Given F (kept σ ks)) w where
  dom r := by
    rw [less_at]
    unfold shed
    cases inK ks r <;> simp [hm.dom r]
  lv r q hq := by
    rw [less_at]
    cases e : inK ks r with
    | false =>
      have hs : σ r = some q := by simpa [shed, e] using hq
      refine ⟨fun h => by rw [(hm.lv r q hs).1 h]; rfl, fun pl h => ?_⟩
      obtain ⟨B, h1, h2⟩ := (hm.lv r q hs).2 pl h
      exact ⟨B, by rw [h1]; rfl, h2.mono (fun _ h => .inl h) (fun _ _ => rfl) shed_le (fun _ _ _ => rfl)⟩
    | true =>
      have hs : (σ r).map (fun _ => (none : Option Pl)) = some q := by simpa [shed, e] using hq
      rw [Option.map_eq_some_iff] at hs
      obtain ⟨q0, h1, rfl⟩ := hs
      refine ⟨fun _ => ?_, fun pl h => by cases h⟩
      cases h2 : m.at r with
      | none => rw [(hm.dom r).2 h2] at h1; cases h1
      | some b => rfl
  inj r r' pl pl' b t t' h1 h2 h3 h4 := hm.inj r r' pl pl' b t t' (shed_some h1).2 (shed_some h2).2 h3 h4
  nf r pl b t h1 h2 := by
    obtain ⟨e1, e2⟩ := shed_some h1
    refine ⟨fun h => ?_, (hm.nf r pl b t e2 h2).2⟩
    rcases h with h | ⟨r', pl', t', h3, h4⟩
    · exact (hm.nf r pl b t e2 h2).1 h
    · obtain ⟨e3, e4⟩ := kept_some h3
      have := hm.inj r r' pl pl' b t t' e2 e4 h2 h4
      subst this
      rw [e1] at e3
      cases e3
  fl b h := by
    rcases h with h | ⟨r', pl', t', h3, h4⟩
    · exact hm.fl b h
    · exact (hm.nf r' pl' b t' (kept_some h3).2 h4).2
  gl := hm.gl.mono (fun _ h => .inl h) fun _ _ => rfl
theorem shed_step (hm : MemOk m σ F w) : Step σ F w (shed σ ks) (Given F (kept σ ks)) w :=
  ⟨rfl, rfl, rfl, Nat.le_refl _, Nat.le_refl _, fun _ _ _ => rfl, fun _ h => .inl h, fun b h => by
    rcases h with h | ⟨r', pl', t', h3, h4⟩
    · exact .inl h
    · exact .inr (.inl ⟨r', pl', t', (kept_some h3).2, h4⟩), fun b ⟨r, pl, t, h1, h2⟩ => .inl ⟨r, pl, t, (shed_some h1).2, h2⟩⟩
/-- Some of what is ours is given up for good, then the call. -/
theorem CallVC.frz {f : FuncId} {as : List AV} {dargs : List D} {K : AV → Mem → Prop} (ks : List Nat) (ha : BecL (m.only ks) as dargs) (h : CallVC P f (up dargs) (m.less ks) K) : CallVC P f as m K :=
  ⟨h.can, fun σ F w vals hm hv => by
    have hv1 : ArgsOk w F (kept σ ks) as vals := ⟨hv.1, fun j A u hA hu => (hv.2 j A u hA hu).mono (fun _ h => h) (fun _ _ => rfl) kept_le⟩
    obtain ⟨a1, a2⟩ := ha.args (kept_ok hm) hv1
    have hv2 : ArgsOk w (Given F (kept σ ks)) (shed σ ks) (up dargs) vals := ⟨by rw [a1, up_eq, List.length_map], fun j A u hA hu => by
      obtain ⟨x, hx, rfl⟩ := up_at hA
      exact .d (a2 j x u hx hu)⟩
    refine (h.run _ _ w vals (shed_ok hm) hv2).mono ?_
    rintro e w' ⟨v, A, m', σ', F', q1, q2, q3, q4, q5, q6⟩
    exact ⟨v, A, m', σ', F', q1, q2, q3, q4, (shed_step hm).trans q5, fun r q hq => by
      obtain ⟨p1, k1, k2⟩ := (shed_le (ks := ks)) r q hq
      obtain ⟨p2, k3, k4⟩ := q6 r p1 k1
      exact ⟨p2, k3, k2.trans k4⟩⟩⟩
/-- A row of our own is read as a datum from here on. -/
theorem Awp.frz {N : Nat} {c : Code} {env : Env} {Q : Post} (ks : List Nat) (t : Nat) (x : D) (hb : BecP (m.only ks) (get env t) x) (k : Awp P N c ((t, .d x) :: env) (m.less ks) Q) : Awp P N c env m Q :=
  ⟨fun ro lo a w σ F hN hD he hm => by
    have he' : EnvOk ((t, .d x) :: env) w (Given F (kept σ ks)) (shed σ ks) a.tmps := by
      intro k
      simp only [get]
      cases hk : Nat.beq t k with
      | true =>
        have := Nat.eq_of_beq_eq_true hk
        subst this
        simp only [cond_true]
        exact .d (BecP.ok (kept_ok hm) hb ((he t).mono (fun _ h => h) (fun _ _ => rfl) kept_le))
      | false => exact (he k).mono (fun _ h => .inl h) (fun _ _ => rfl) shed_le
    exact wpIn_mono (k.run ro lo a w _ _ hN (hD.step (shed_step hm)) he' (shed_ok hm)) fun e a2 w2 h5 => lift_trans (shed_step hm) (.of shed_le) h5⟩
end
end Go.Ab
