/-
  Operations, part F: make of a slice, all of whose rows are zero.
-/
import Derived.Test.YtnhadilbebgbjaaOps
import Derived.Laws.MakeOwn
namespace Go.Ab
set_option linter.unusedSimpArgs false
set_option linter.unusedVariables false
section
variable {P : Program} {T : Tab} {N : Nat} {w : World} {F : Nat → Prop} {σ : Pls} {m : Mem} {env : Env} {K : AV → Mem → Prop} {o : Oper}
/-- make([]E, n): a new row of zeros. -/
theorem op_make (hT : TabOk P T) {t : TypeId} {x y : Operand} (hop : o.op = .makeSlice t x y) {e : TypeId} {sz : Nat} (he : elemOf T t = some (e, sz)) {te : TI} (hte : T.at e = some te) (hb0 : 0 < te.bytes)
    {n : Nat} {kx ky : IntKind} (hx : ev env x = .d (.int kx n)) (hy : ev env y = .d (.int ky n)) (hcap : n * te.bytes ≤ 140737488355328)
    (hK : K (.osl m.new 0 0 n) (m.add (.vec e sz 0 n fun _ => up te.zero))) : OpVC P o env m K :=
  ⟨fun c h => (by rw [hop] at h; cases h), fun a w F σ hev hm => by
    obtain ⟨hu, hrs, te', hte', htsz⟩ := elemOf_ok hT he
    have hszp := sz_pos hT he
    obtain ⟨inf, z, hinf, his, hib, hz, hzs, hzsz⟩ := tiIs_info (hT _ _ hte)
    have hsize : inf.size = sz := by
      obtain ⟨i', z', hi', his', _⟩ := tiIs_info hte'
      rw [hinf] at hi'
      injection hi' with hi'
      subst hi'
      rw [his', htsz]
    have hvx := ev_ok hev x
    rw [hx] at hvx
    have hvx := hvx.int
    have hvy := ev_ok hev y
    rw [hy] at hvy
    have hvy := hvy.int
    have hbig : n ≤ 140737488355328 := Nat.le_trans (Nat.le_mul_of_pos_right _ hb0) hcap
    have hzl : z.cells.size = sz := by rw [hzsz, ← his, hsize]
    have hbb : (inf.bytes : Int) * (n : Int) ≤ 281474976710656 := by
      have h : ((inf.bytes * n : Nat) : Int) ≤ 281474976710656 := by
        rw [hib, Nat.mul_comm]
        omega
      rwa [Int.natCast_mul] at h
    have hrun := run_make (P := P) w t e inf z hu hinf hz kx ky n n (by omega) (Int.le_refl _) hbb (by omega)
    rw [Int.toNat_natCast, hsize] at hrun
    have hz0 : CellsOk w F σ (up te.zero) z.cells.toList := .zero hzs
    have hzat : ∀ i1 j, i1 < n → j < sz → (madeCells z.cells (n * sz))[i1 * sz + j]? = z.cells[j]? := fun i1 j hi hj => by
      have h1 := row_lt hi hj
      simp only [madeCells, hzl]
      rw [Array.getElem?_map, Array.getElem?_range, if_pos h1]
      have h2 : (i1 * sz + j) % sz = j := by rw [Nat.mul_comm, Nat.mul_add_mod, Nat.mod_eq_of_lt hj]
      simp only [Option.map_some, h2]
      have h3 : j < z.cells.size := by omega
      simp [h3]
    have hzrows : RowsAt w F σ sz n (fun _ => up te.zero) (madeCells z.cells (n * sz)).toList := by
      refine ⟨fun i hi => by rw [← hz0.1, Array.length_toList, hzl], by simp [size_madeCells], fun i1 j B hi1 hB1 => ?_⟩
      have hj : j < sz := by
        have := (List.getElem?_eq_some_iff.1 hB1).1
        rw [← hz0.1, Array.length_toList, hzl] at this
        exact this
      have hu : z.cells.toList[j]? = some (z.cells[j]'(by omega)) := by simp [show j < z.cells.size by omega]
      obtain ⟨q1, q2⟩ := hz0.2 j B _ hB1 hu
      exact ⟨_, by rw [Array.getElem?_toList, hzat i1 j hi1 hj]; simp [show j < z.cells.size by omega], q1, q2⟩
    obtain ⟨σ', g1, g2, g3, g4⟩ := newRow_ok (w' := w.alloc (.cells (madeCells z.cells (n * sz)) e)) (b := w.heap.size) (tot := n) (us := (madeCells z.cells (n * sz)).toList) (e := e) (sz := sz) (n := n) (f := fun _ => up te.zero) hm (Nat.le_refl _) (by simp) (fun b hb => heap_alloc_old w _ hb)
      rfl rfl rfl (Nat.le_refl _) (by rw [Array.toArray_toList]; exact heap_alloc_new w _) (by simp [size_madeCells]) (Nat.le_refl _) (by unfold maxLen; omega) hzrows
    refine ⟨_, _, _, σ', F, _, _, ?_, .inl rfl, hK, g1, g2, g3, g4⟩
    simp [execOp, hop, hvx, hvy, hrun]⟩
end
end Go.Ab
