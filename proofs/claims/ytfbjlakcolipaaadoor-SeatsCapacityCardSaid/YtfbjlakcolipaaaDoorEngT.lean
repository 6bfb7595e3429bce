/-
  The engine, part T: what is handed to a law reads as data; a law that answers true for all data proves its row.
-/
import Derived.Test.YtfbjlakcolipaaaDoorEngP
import Derived.Deep.Slices
import Derived.Deep.Fields
import Derived.ChangeSame
import Derived.ProofKit
import Derived.Carry
import Derived.JoinedOf
namespace Go.Ab
set_option linter.unusedSimpArgs false
set_option linter.unusedVariables false
open Go.ChangeShapes Go.WideShapes Go.RowKit Go.Deep

/-- Types that are made of truths, integers, strings, slices and structs alone. -/
def simpleT (P : Program) : Nat → TypeId → Bool
  | 0, _ => false
  | n + 1, t => match P.underlying t with
    | some .bool | some (.int _) | some .string => true
    | some (.slice e) => decide (0 < P.cellsOf e) && simpleT P n e
    | some (.struct fs) => fs.all fun f => simpleT P n f.type
    | _ => false
/-- The cells of a type, as data. -/
def OfTy (P : Program) : Nat → TypeId → List D → Prop
  | 0, _, _ => False
  | n + 1, t, ds => match P.underlying t with
    | some .bool => ∃ b, ds = [.bool b]
    | some (.int k) => ∃ i, ds = [.int k i] ∧ (Lit.int k i).wf = true
    | some .string => ∃ s : ByteArray, ds = [.str s] ∧ s.size ≤ maxLen
    | some (.slice e) => ∃ k f, ds = [.sl (P.cellsOf e) k f] ∧ k ≤ maxLen ∧ ∀ i, i < k → OfTy P n e (f i)
    | some (.struct fs) => ∃ ps : List (List D), ds = ps.flatten ∧ ps.length = fs.size ∧ ∀ (j : Nat) f p, fs[j]? = some f → ps[j]? = some p → OfTy P n f.type p
    | _ => False

section
variable {H : Type} {enc : TypeId × Value → H} {P : Program} {w : World}
/-- Every cell of the list is read by the datum beside it. -/
def RdL (w : World) (ds : List D) (cs : List Value) : Prop :=
  ds.length = cs.length ∧ ∀ (j : Nat) d u, ds[j]? = some d → cs[j]? = some u → Rd w (· < w.heap.size) d u ∧ u.oneCell' = true
theorem RdL.append {ds ds' : List D} {cs cs' : List Value} (h : RdL w ds cs) (h' : RdL w ds' cs') : RdL w (ds ++ ds') (cs ++ cs') := by
  refine ⟨by simp [h.1, h'.1], fun j d u hd hu => ?_⟩
  rw [List.getElem?_append] at hd hu
  rw [h.1] at hd
  split at hd
  · rename_i hj; rw [if_pos hj] at hu; exact h.2 j d u hd hu
  · rename_i hj; rw [if_neg hj] at hu; exact h'.2 _ d u hd hu
theorem RdL.one {d : D} {u : Value} (h : Rd w (· < w.heap.size) d u) (h1 : u.oneCell' = true) : RdL w [d] [u] :=
  ⟨rfl, fun j d' u' hd hu => by
    match j with
    | 0 => simp at hd hu; subst hd; subst hu; exact ⟨h, h1⟩
    | j + 1 => simp at hd⟩

theorem kids_slice_row (hl : laidOutB P = true) {t e : TypeId} (ht : t < P.types.size) (hu : P.underlying t = some (.slice e)) : e < P.types.size := kid_slice hl ht hu
theorem rd_of_trod (hl : laidOutB P = true) : ∀ (n : Nat) (t : TypeId) (m : Nat) (cs : List Value) (x : DataW H × List MemPlace), t < P.types.size → simpleT P n t = true →
    DataW.trod enc P w 0 (fun _ => true) true m t cs = some x → ∃ ds, RdL w ds cs ∧ OfTy P n t ds := by
  intro n
  induction n with
  | zero => intro t m cs x _ h; simp [simpleT] at h
  | succ n ih =>
    intro t m cs x hlt hs h
    unfold simpleT at hs
    unfold OfTy
    split at hs
    · rename_i hu
      obtain ⟨b, rfl, -⟩ := DataW.trod_bool hu h
      exact ⟨[.bool b], .one .bool rfl, b, rfl⟩
    · rename_i k hu
      obtain ⟨i, rfl, -, hw⟩ := DataW.trod_int hu h
      exact ⟨[.int k i], .one .int rfl, i, rfl, hw⟩
    · rename_i hu
      obtain ⟨s, rfl, -, hs'⟩ := DataW.trod_string hu h
      exact ⟨[.str s], .one .str rfl, s, rfl, hs'⟩
    · rename_i e hu
      simp only [Bool.and_eq_true, decide_eq_true_eq] at hs
      rcases open_slice hu h with ⟨rfl, -⟩ | ⟨a, len, cap, k, m', D0, Pl, rfl, -, hlc, hcap, hk, -, hel⟩
      · refine ⟨[.sl (P.cellsOf e) 0 fun _ => []], .one (.sl ⟨0, 0, none⟩ (fun _ _ => undef) (Nat.le_refl _) (fun h => absurd h (by omega)) (fun i hi => absurd hi (by omega)) (fun i j hi => absurd hi (by omega)) (fun i j x hi => absurd hi (by omega))) rfl, 0, _, rfl, by omega, fun i hi => absurd hi (by omega)⟩
      · have hlt' : e < P.types.size := (kids_slice_row hl) hlt hu
        have hex : ∀ i, ∃ q : List D × List Value, i < len → w.cells? 0 (a.add (i * P.cellsOf e)) (P.cellsOf e) = some q.2 ∧ RdL w q.1 q.2 ∧ OfTy P n e q.1 := fun i => by
          by_cases hi : i < len
          · obtain ⟨cs', hc, ht'⟩ := hel i (by simp only [if_true] at hk; omega)
            obtain ⟨ds, h1, h2⟩ := ih e m' cs' _ hlt' hs.2 ht'
            exact ⟨(ds, cs'), fun _ => ⟨hc, h1, h2⟩⟩
          · exact ⟨([], []), fun h => absurd h hi⟩
        have hq := fun i => (hex i).choose_spec
        have hcl : ∀ i j, i < len → j < P.cellsOf e → w.cell? (a.add (i * P.cellsOf e + j)) = some ((hex i).choose.2.getD j undef) ∧ (hex i).choose.2[j]? = some ((hex i).choose.2.getD j undef) := fun i j hi hj => by
          obtain ⟨hc, -, -⟩ := hq i hi
          obtain ⟨-, h2, h3⟩ := World.cells?_some hc
          have : (hex i).choose.2[j]? = some ((hex i).choose.2.getD j undef) := by
            rw [List.getD_eq_getElem?_getD, List.getElem?_eq_getElem (by omega)]; rfl
          refine ⟨?_, this⟩
          rw [← this, ← h3 j hj, Go.Deep.add_add]
        refine ⟨[.sl (P.cellsOf e) len fun i => (hex i).choose.1], .one (.sl a (fun i j => (hex i).choose.2.getD j undef) hlc (fun h0 => ⟨rfl, ?_⟩) (fun i hi => ?_) (fun i j hi hj => ⟨(hcl i j hi hj).1, ?_⟩) (fun i j x hi hx => ?_)) rfl, len, _, rfl, by omega, fun i hi => (hq i hi).2.2⟩
        · have := World.block_lt_of_cell? w _ (hcl 0 0 h0 hs.1).1
          rwa [add_block] at this
        · obtain ⟨hc, h1, -⟩ := hq i hi
          rw [h1.1, (World.cells?_some hc).2.1]
        · obtain ⟨hc, h1, -⟩ := hq i hi
          have hlen := (World.cells?_some hc).2.1
          have hd : (hex i).choose.1[j]? = some ((hex i).choose.1[j]'(by rw [h1.1]; omega)) := List.getElem?_eq_getElem _
          exact (h1.2 j _ _ hd (hcl i j hi hj).2).2
        · obtain ⟨hc, h1, -⟩ := hq i hi
          have hj : j < P.cellsOf e := by
            have := (List.getElem?_eq_some_iff.1 hx).1
            rw [h1.1, (World.cells?_some hc).2.1] at this
            exact this
          exact (h1.2 j x _ hx (hcl i j hi hj).2).1
    · rename_i fs hu
      obtain ⟨xs, m', -, -, hcs, hxl, hf⟩ := DataW.trod_struct hu h
      obtain ⟨kt, ksum, koff⟩ := kid_struct hl hlt hu
      have hfs : ∀ (j : Nat) f, fs[j]? = some f → simpleT P n f.type = true := fun j f hj => by
        have := Array.all_eq_true_iff_forall_mem.1 hs f (Array.mem_of_getElem? hj)
        exact this
      have hex : ∀ j : Nat, ∃ ds : List D, ∀ f : Field, fs[j]? = some f → RdL w ds ((cs.drop f.offset).take (P.cellsOf f.type)) ∧ OfTy P n f.type ds := fun j => by
        cases hj : fs[j]? with
        | none => exact ⟨[], fun f h => by cases h⟩
        | some f =>
          have hx := hf j f hj
          have hjl : j < xs.length := by have := (Array.getElem?_eq_some_iff.1 hj).1; omega
          rw [List.getElem?_eq_getElem hjl] at hx
          obtain ⟨ds, h1, h2⟩ := ih f.type m' _ _ (kt f (by simpa using Array.mem_of_getElem? hj)) (hfs j f hj) hx
          exact ⟨ds, fun f' h => by cases h; exact ⟨h1, h2⟩⟩
      have hq := fun j => (hex j).choose_spec
      refine ⟨((List.range fs.size).map fun j => (hex j).choose).flatten, ?_, _, rfl, by simp, fun j f p hj hp => ?_⟩
      · have key : ∀ k, k ≤ fs.size → RdL w ((List.range k).map fun j => (hex j).choose).flatten (cs.take (((fs.toList.map fun f => P.cellsOf f.type).take k).sum)) := by
          intro k
          induction k with
          | zero => intro _; exact ⟨by simp, fun j d u h => by simp at h⟩
          | succ k ihk =>
            intro hk
            have hj : fs[k]? = some fs[k] := Array.getElem?_eq_getElem (by omega)
            rw [List.range_succ, List.map_append, List.flatten_append]
            have e1 : (fs.toList.map fun f => P.cellsOf f.type).take (k + 1) = (fs.toList.map fun f => P.cellsOf f.type).take k ++ [P.cellsOf fs[k].type] := by
              rw [List.take_add_one, List.getElem?_map]
              simp [hj]
            rw [e1, List.sum_append, List.take_add]
            refine (ihk (by omega)).append ?_
            have := (hq k _ hj).1
            rw [koff k _ (by simp)] at this
            simpa [List.map_take] using this
        have h1 := key fs.size (Nat.le_refl _)
        rw [List.take_of_length_le (i := fs.size) (by simp), ← ksum, ← hcs, List.take_length] at h1
        exact h1
      · rw [List.getElem?_map] at hp
        have hjl : j < fs.size := (Array.getElem?_eq_some_iff.1 hj).1
        rw [List.getElem?_range hjl] at hp
        simp only [Option.map_some, Option.some.injEq] at hp
        subst hp
        exact (hq j f hj).2
    · cases hs

/-- An argument, as data: its top is a struct's value or one cell. -/
theorem rd_arg (hl : laidOutB P = true) {n : Nat} {t : TypeId} {v : Value} {d : DataW H} {ps : List MemPlace} {base : Nat} (ht : t < P.types.size) (hs : simpleT P n t = true) (hv : Value.okWide P w .any base t v)
    (h : DataW.Trod enc P w 0 (fun _ => true) true t v d ps) : ∃ ds, OfTy P n t ds ∧ ((∃ x, ds = [x] ∧ Rd w (· < w.heap.size) x v) ∨ Rd w (· < w.heap.size) (.agg ds) v) ∧ ((∀ fs, P.underlying t ≠ some (.struct fs)) → ∃ x, ds = [x] ∧ Rd w (· < w.heap.size) x v) ∧ (∀ fs, P.underlying t = some (.struct fs) → Rd w (· < w.heap.size) (.agg ds) v) := by
  obtain ⟨m, hm⟩ := h
  obtain ⟨ds, h1, h2⟩ := rd_of_trod hl n t m _ _ ht hs hm
  have hagg : ∀ fs, P.underlying t = some (.struct fs) → Rd w (· < w.heap.size) (.agg ds) v := fun fs hu => by
    unfold Value.okWide at hv
    rw [hu] at hv
    obtain ⟨cs, rfl, -, -⟩ := hv
    have : (Value.agg cs).cells.toList = cs.toList := rfl
    rw [this] at h1
    have := Rd.agg (w := w) (F := (· < w.heap.size)) (cs := ds) (us := cs.toList) h1.1.symm (fun j x u hx hu => (h1.2 j x u hx hu).1)
    simpa using this
  have hone : (∀ fs, P.underlying t ≠ some (.struct fs)) → ∃ x, ds = [x] ∧ Rd w (· < w.heap.size) x v := fun hns => by
    have hc : v.cells.toList = [v] := by
      cases n with
      | zero => simp [simpleT] at hs
      | succ n =>
        unfold simpleT at hs
        unfold Value.okWide at hv
        split at hs <;> first | (rename_i hu; rw [hu] at hv; cases v <;> first | rfl | (simp [Cell.okWide, Cell.ok, hu] at hv; done)) | (rename_i hu; exact absurd hu (hns _)) | cases hs
    rw [hc] at h1
    match ds, h1 with
    | [x], h1 => exact ⟨x, rfl, (h1.2 0 x v rfl rfl).1⟩
    | [], h1 => exact absurd h1.1 (by simp)
    | _ :: _ :: _, h1 => exact absurd h1.1 (by simp)
  refine ⟨ds, h2, ?_, hone, hagg⟩
  by_cases hst : ∃ fs, P.underlying t = some (.struct fs)
  · obtain ⟨fs, hu⟩ := hst
    exact .inr (hagg fs hu)
  · exact .inl (hone fun fs hu => hst ⟨fs, hu⟩)

theorem below_trodAll (hl : laidOutB P = true) {W W' : World} (hb : Below W.heap.size W W') : ∀ {ts : List TypeId} {vs : List Value} {ds : List (DataW H)} {ps : List MemPlace}, (∀ t ∈ ts, P.readableRec t = true ∧ t < P.types.size) →
    DataW.TrodAll enc P W 0 (fun _ => true) true ts vs ds ps → (∀ x ∈ ps, x.block < W.heap.size) → DataW.TrodAll enc P W' 0 (fun b => decide (b < W.heap.size)) true ts vs ds ps
  | [], [], [], _, _, h, _ => h
  | t :: _, _ :: _, _ :: _, _, ht, ⟨p, q, h1, h2, e⟩, hp =>
    ⟨p, q, Below.trod hl (ht t (by simp)).1 (ht t (by simp)).2 h1 hb (fun x hx => hp x (by rw [e]; exact List.mem_append_left _ hx)),
      below_trodAll hl hb (fun t h => ht t (by simp [h])) h2 (fun x hx => hp x (by rw [e]; exact List.mem_append_right _ hx)), e⟩

/-- A law that answers true for all data: what its row says behind the call. -/
theorem law_post (hl : laidOutB P = true) {f : FuncId} {fn : Func} {s : ChangeSpec} {apart fresh handsOn : Bool} {W : World} {args : Array Value} {ds gs : List (DataW H)} {before : List MemPlace} {tb : TypeId}
    (hts : ∀ t ∈ fn.params.toList, P.readableRec t = true ∧ t < P.types.size) (hrt : fn.resultTypes = #[tb]) (hb : P.underlying tb = some .bool) (hsv : s.vars = [])
    (hsf : s.fn H (ds ++ gs) = { results := [.lit (.bool true)], args := ds })
    (hW : DataW.Whole enc P fn.params.toList s.vars apart W args.toList ds gs before)
    (hG : GOk (· < W.heap.size) W) (xs : List D) (hp : Pure P f xs [.bool true]) (hlen : args.toList.length = xs.length) (hr : ∀ (j : Nat) x u, xs[j]? = some x → args.toList[j]? = some u → Rd W (· < W.heap.size) x u) :
    Calls P f args W fun e W' => ∃ v, e = .returned v ∧ s.post enc P fn apart fresh handsOn false W args v W' := by
  have := hp.2 (· < W.heap.size) W args.toList (fun _ h => h) hG hlen hr
  rw [Array.toArray_toList] at this
  refine this.mono ?_
  rintro e W' ⟨v, F', rfl, hg, hv⟩
  have hv' := hv fun _ => none
  have ev : v = .bool true := by cases hv' with | d h => cases h; rfl
  subst ev
  refine ⟨_, rfl, ?_⟩
  have hbl : Below W.heap.size W W' := ⟨hg.os, hg.tape, hg.output, hg.size, hg.keep⟩
  have hlt := hW.lt
  obtain ⟨p, q, hA, hV, hpq, hfz, hnd⟩ := hW
  have hq : q = [] := by
    rw [hsv] at hV
    match gs, hV with
    | [], hV => exact hV
  subst hq
  rw [List.append_nil] at hpq
  subst hpq
  refine ⟨ds, gs, before, [], before, [], ⟨before, [], hA, hV, by simp, hfz, hnd⟩, ?_, ?_, ?_, ?_, fun h => by cases h⟩
  · rw [hrt, hsf]
    exact trodAll_mk1 (shut_bool hb true)
  · rw [hsf]
    exact below_trodAll hl hbl hts hA hlt
  · rw [hsf, hsv]
    exact rfl
  · have hsame : W.keptBut W' (fun _ => False) := by
      refine ⟨hg.os, hg.output, fun i hi => ?_⟩
      rw [hg.keep i hi]
      cases h : W.heap[i]? with
      | none => rfl
      | some o => cases o <;> simp
    exact World.keptBut_mono (fun _ h => h.elim) hsame
end
end Go.Ab
