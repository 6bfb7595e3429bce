/-
  The engine, part Y: functions that only compute; statements that leave their order open.
-/
import Derived.Test.YteamiepijajjdaaDoorEngM
namespace Go.Ab
set_option linter.unusedSimpArgs false
set_option linter.unusedVariables false

def SArg (σ σ' : Pls) : Prop := ∀ j q, σ (.arg j) = some q → ∃ q', σ' (.arg j) = some q' ∧ QLe q q'
theorem SArg.refl (σ : Pls) : SArg σ σ := fun _ q h => ⟨q, h, QLe.refl q⟩
theorem SArg.of {σ σ' : Pls} (h : SLe σ σ') : SArg σ σ' := fun j q hq => h (.arg j) q hq
theorem SArg.trans {σ σ' σ'' : Pls} (h : SArg σ σ') (k : SArg σ' σ'') : SArg σ σ'' := fun j q hq => by
  obtain ⟨q1, h1, h2⟩ := h j q hq
  obtain ⟨q2, h3, h4⟩ := k j q1 h1
  exact ⟨q2, h3, h2.trans h4⟩

abbrev Post := Exit → Env → Mem → Prop
/-- The mark that a range over a function leaves among the deferred calls. -/
def mark (D : Nat) : Deferred := { target := .collected D, args := #[] }
/-- What stands around: the deferred calls are marks of blocks that none of ours is; in a round the loop's record lies there. -/
structure Ctx (ro : Option Nat) (lo : Nat) (ds : List Deferred) (σ : Pls) (F : Nat → Prop) (w : World) : Prop where
  marks : ∃ Ds : List Nat, ds = Ds.map mark ∧ Ds.Nodup ∧ ∀ D ∈ Ds, lo ≤ D ∧ w.heap[D]? = some (.deferred (some [])) ∧ ¬ Owned σ D ∧ ¬ F D
  low : lo ≤ w.heap.size
  rd : ∀ l, ro = some l → (∃ r, w.heap[l]? = some (.loop r)) ∧ ¬ Owned σ l ∧ ¬ F l
theorem Ctx.nil {σ : Pls} {F : Nat → Prop} {w : World} : Ctx none w.heap.size [] σ F w := ⟨⟨[], rfl, List.nodup_nil, fun _ h => by cases h⟩, Nat.le_refl _, fun _ h => by cases h⟩
theorem Ctx.step {ro : Option Nat} {lo : Nat} {ds : List Deferred} {σ σ' : Pls} {F F' : Nat → Prop} {w w' : World} (h : Ctx ro lo ds σ F w) (s : Step σ F w σ' F' w') : Ctx ro lo ds σ' F' w' := by
  have key : ∀ D o, w.heap[D]? = some o → ¬ Owned σ D → ¬ F D → w'.heap[D]? = some o ∧ ¬ Owned σ' D ∧ ¬ F' D := fun D o h1 h2 h3 => by
    have hlt : D < w.heap.size := (Array.getElem?_eq_some_iff.1 h1).1
    refine ⟨(s.keep D hlt h2).trans h1, fun h => ?_, fun h => ?_⟩
    · rcases s.own D h with h | h
      · exact h2 h
      · omega
    · rcases s.fro' D h with h | h | h
      · exact h3 h
      · exact h2 h
      · omega
  obtain ⟨Ds, e, nd, hm⟩ := h.marks
  refine ⟨⟨Ds, e, nd, fun D hD => ?_⟩, Nat.le_trans h.low s.size, fun l hl => ?_⟩
  · obtain ⟨h0, h1, h2, h3⟩ := hm D hD
    exact ⟨h0, key D _ h1 h2 h3⟩
  · obtain ⟨⟨r, h1⟩, h2, h3⟩ := h.rd l hl
    have := key l _ h1 h2 h3
    exact ⟨⟨r, this.1⟩, this.2⟩
def lift (N : Nat) (Q : Post) (ro : Option Nat) (lo : Nat) (σ : Pls) (F : Nat → Prop) (w : World) : Exit → Act → World → Prop := fun e a' w' =>
  ∃ env' m' σ' F', Q e env' m' ∧ a'.tmps.size = N ∧ Ctx ro lo a'.defers σ' F' w' ∧ EnvOk env' w' F' σ' a'.tmps ∧ MemOk m' σ' F' w' ∧ Step σ F w σ' F' w' ∧ SArg σ σ'
structure Awp (P : Program) (N : Nat) (c : Code) (env : Env) (m : Mem) (Q : Post) : Prop where
  run : ∀ (ro : Option Nat) (lo : Nat) (a : Act) (w : World) (σ : Pls) (F : Nat → Prop), a.tmps.size = N → Ctx ro lo a.defers σ F w → EnvOk env w F σ a.tmps → MemOk m σ F w → c.wpIn (Fen ro) 0 P (lift N Q ro lo σ F w) a w

/-! ### pure calls -/
def resAV : List D → AV
  | [x] => .d x
  | xs => .tup (up xs)
/-- Nothing that was there has turned. -/
structure Grew (F : Nat → Prop) (w : World) (F' : Nat → Prop) (w' : World) : Prop where
  os : w'.os = w.os
  tape : w'.tape = w.tape
  output : w'.output = w.output
  size : w.heap.size ≤ w'.heap.size
  keep : ∀ b, b < w.heap.size → w'.heap[b]? = w.heap[b]?
  fro : ∀ b, F b → F' b
  fro' : ∀ b, F' b → F b ∨ w.heap.size ≤ b
  lt : ∀ b, F' b → b < w'.heap.size
/-- A function that only computes: from data to data. -/
def Pure (P : Program) (f : FuncId) (args res : List D) : Prop :=
  CanEnter P f ∧ ∀ (F : Nat → Prop) (w : World) (vals : List Value), (∀ b, F b → b < w.heap.size) → GOk F w → vals.length = args.length → (∀ (j : Nat) x u, args[j]? = some x → vals[j]? = some u → Rd w F x u) →
    Calls P f vals.toArray w fun e w' => ∃ v F', e = .returned v ∧ Grew F w F' w' ∧ ∀ σ, Vc w' F' σ (resAV res) v

theorem Grew.step {F F' : Nat → Prop} {w w' : World} (h : Grew F w F' w') (σ : Pls) : Step σ F w σ F' w' :=
  ⟨h.os, h.tape, h.output, h.size, fun b hb _ => h.keep b hb, h.fro, fun b hb => (h.fro' b hb).elim .inl (fun h => .inr (.inr h)), fun _ h => .inl h⟩
theorem Grew.mem {F F' : Nat → Prop} {w w' : World} (h : Grew F w F' w') {m : Mem} {σ : Pls} (hm : MemOk m σ F w) : MemOk m σ F' w' where
  dom := hm.dom
  lv r q hq := ⟨(hm.lv r q hq).1, fun pl e => by
    obtain ⟨B, hB, hok⟩ := (hm.lv r q hq).2 pl e
    exact ⟨B, hB, hok.mono h.fro (fun b hb => h.keep b (hm.fl b hb)) (SLe.refl σ) (fun b t hl => h.keep b (hm.nf r pl b t (by rw [hq, e]) hl).2)⟩⟩
  inj := hm.inj
  nf r pl b t h1 h2 := ⟨fun hF => by
    rcases h.fro' b hF with h3 | h3
    · exact (hm.nf r pl b t h1 h2).1 h3
    · have := (hm.nf r pl b t h1 h2).2; omega, Nat.lt_of_lt_of_le (hm.nf r pl b t h1 h2).2 h.size⟩
  fl := h.lt
  gl := hm.gl.mono h.fro (fun b hb => h.keep b (hm.fl b hb))

theorem ArgsOk.data {w : World} {F : Nat → Prop} {σ : Pls} {xs : List D} {vals : List Value} (h : ArgsOk w F σ (up xs) vals) : vals.length = xs.length ∧ ∀ (j : Nat) x u, xs[j]? = some x → vals[j]? = some u → Rd w F x u :=
  ⟨by rw [h.1, up_eq, List.length_map], fun j x u hx hu => by
    have := h.2 j (.d x) u (by rw [up_eq, List.getElem?_map, hx]; rfl) hu
    cases this with | d h => exact h⟩
theorem Pure.call {P : Program} {f : FuncId} {args res : List D} (h : Pure P f args res) {m : Mem} {K : AV → Mem → Prop} (hk : K (resAV res) m) : CallVC P f (up args) m K :=
  ⟨h.1, fun σ F w vals hm ha => (h.2 F w vals hm.fl hm.gl ha.data.1 ha.data.2).mono fun _ _ ⟨v, F', he, hg, hv⟩ => ⟨v, resAV res, m, σ, F', he, hk, hv σ, hg.mem hm, hg.step σ, SLe.refl σ⟩⟩


/-- A call, in a statement that leaves its order open, of a function that only computes. -/
structure QCall (P : Program) (fn : AV) (as : List AV) (K : AV → Prop) : Prop where
  q : ∃ (f : FuncId) (xs ys args res : List D), fn = .d (.fn (.func f) xs ys) ∧ as = up args ∧ Pure P f (xs ++ args ++ ys) res ∧ K (resAV res)

/-! ### which slots an operation reads -/
def tmpO : Operand → List Nat
  | .tmp t => [t]
  | _ => []
def tmpOs : List Operand → List Nat
  | [] => []
  | .tmp t :: r => t :: tmpOs r
  | _ :: r => tmpOs r
def tmpPs : List (Nat × Operand) → List Nat
  | [] => []
  | (_, .tmp t) :: r => t :: tmpPs r
  | _ :: r => tmpPs r
def tmpM : Option Operand → List Nat
  | some (.tmp t) => [t]
  | _ => []
def app2 : List Nat → List Nat → List Nat
  | [], l => l
  | x :: r, l => x :: app2 r l
def tmpsOf : Op → List Nat
  | .move x => tmpO x
  | .assign x => tmpO x
  | .pick c a b => app2 (tmpO c) (app2 (tmpO a) (tmpO b))
  | .binOp _ _ x y _ => app2 (tmpO x) (tmpO y)
  | .unOp _ _ x => tmpO x
  | .load _ x => tmpO x
  | .fieldAddr _ x _ => tmpO x
  | .indexAddr _ x i => app2 (tmpO x) (tmpO i)
  | .field _ x _ => tmpO x
  | .extract x _ => tmpO x
  | .makeInterface _ x => tmpO x
  | .convert _ _ x => tmpO x
  | .makeFunc _ f c => app2 (tmpOs f.toList) (tmpOs c.toList)
  | .build _ ps => tmpPs ps.toList
  | .buildSlice _ _ ps => tmpPs ps.toList
  | .slice _ x lo hi mx => app2 (tmpO x) (app2 (tmpM lo) (app2 (tmpM hi) (tmpM mx)))
  | .nilCheck x => tmpO x
  | .lookup _ x k _ => app2 (tmpO x) (tmpO k)
  | .call c => match c.callee with
    | .value f => app2 (tmpO f) (tmpOs c.args.toList)
    | _ => tmpOs c.args.toList
  | _ => []
def gTmp (full : List Oper) : Option (Nat × Bool) → List Nat
  | some (j, _) => match dstOf full j with
    | some t => [t]
    | none => []
  | none => []
/-- The environment, but for these slots. -/
def sel (env : Env) : List Nat → Env
  | [] => []
  | t :: r => (t, get env t) :: sel env r
theorem get_sel (env : Env) (t : Nat) : ∀ ts : List Nat, (t ∈ ts ∧ get (sel env ts) t = get env t) ∨ get (sel env ts) t = .junk
  | [] => .inr rfl
  | u :: r => by
    simp only [sel, get]
    cases h : Nat.beq u t with
    | true =>
      have := Nat.eq_of_beq_eq_true h
      subst this
      exact .inl ⟨by simp, rfl⟩
    | false =>
      rcases get_sel env t r with ⟨h1, h2⟩ | h2
      · exact .inl ⟨by simp [h1], h2⟩
      · exact .inr h2
theorem sel_ok {env : Env} {ts : List Nat} {w : World} {F : Nat → Prop} {σ : Pls} {tmps : Array Value} (h : ∀ t ∈ ts, Vc w F σ (get env t) (tmps.getD t undef)) : EnvOk (sel env ts) w F σ tmps := fun t => by
  rcases get_sel env t ts with ⟨h1, h2⟩ | h2
  · rw [h2]; exact h t h1
  · rw [h2]; exact .junk
/-- Rows, all of data. -/
def allRows : List (List AV) → Option (List (List D))
  | [] => some []
  | c :: r => match allD c with
    | some x => match allRows r with
      | some l => some (x :: l)
      | none => none
    | none => none
def nthD : List (List D) → Nat → List D
  | [], _ => []
  | c :: _, 0 => c
  | _ :: r, i + 1 => nthD r i
def rowFnD : List (List D) → Nat → List D
  | [c] => fun _ => c
  | l => nthD l
def allDP : List (Nat × AV) → Bool
  | [] => true
  | (_, .d _) :: r => allDP r
  | _ => false
def evFresh (T : Tab) (e : Env) (op : Op) : Option (AV × List Prop) :=
  match op with
  | .buildSlice t n parts => match stripParts (evParts e parts.toList) with
    | (l0, p) => bif allDP l0 then match elemOf T t with
      | none => none
      | some (_, sz) => match rowsOf ⟨[], []⟩ sz 0 l0 with
        | none => none
        | some (rows, q) => match allRows rows with
          | none => none
          | some ds => bif Nat.beq (countR rows) n && Nat.ble (n * sz) 65536 then some (.d (.sl sz n (rowFnD ds)), cat p q) else none
      else none
  | _ => none
noncomputable def vcR1 (P : Program) (T : Tab) (m : Mem) (e : Env) (o : Oper) (K : AV → Prop) : Prop :=
  match evRead T e m o.op with
  | some (v, l) => obs l (frc v K)
  | none => match evFresh T e o.op with
    | some (v, l) => obs l (frc v K)
    | none => match o.op with
      | .call { callee := .value f, args, .. } => match strip (ev e f) with
        | (fn, p) => match stripAll e args.toList with
          | (as, q) => obs (cat p q) (QCall P fn as fun v => Ev (K v))
      | _ => False
noncomputable def vcR (P : Program) (T : Tab) (full : List Oper) (m : Mem) (ops : List Oper) : Env → (Env → Prop) → Prop :=
  List.rec (motive := fun _ => Env → (Env → Prop) → Prop) (fun env K => K env) (fun o _ ih env K => match o.guard with
    | none => vcR1 P T m (sel env (tmpsOf o.op)) o fun v => setD env o.dst v fun env => ih env K
    | some (j, want) => match guardOf full (sel env (gTmp full (some (j, want)))) j want with
      | none => False
      | some g => match evRead T (sel env (tmpsOf o.op)) m o.op with
        | some (v, l) => obs (under g l) (frc v fun v => setD env o.dst (.gd g v) fun env => ih env K)
        | none => Br g (Ev (vcR1 P T m (sel env (tmpsOf o.op)) o fun v => setD env o.dst v fun env => ih env K)) (Ev (setD env o.dst (.gd false (.d (.bool false))) fun env => ih env K))) ops
theorem vcR_cons (P : Program) (T : Tab) (full : List Oper) (m : Mem) (o : Oper) (rest : List Oper) (env : Env) (K : Env → Prop) : vcR P T full m (o :: rest) env K = match o.guard with
    | none => vcR1 P T m (sel env (tmpsOf o.op)) o fun v => setD env o.dst v fun env => vcR P T full m rest env K
    | some (j, want) => match guardOf full (sel env (gTmp full (some (j, want)))) j want with
      | none => False
      | some g => match evRead T (sel env (tmpsOf o.op)) m o.op with
        | some (v, l) => obs (under g l) (frc v fun v => setD env o.dst (.gd g v) fun env => vcR P T full m rest env K)
        | none => Br g (Ev (vcR1 P T m (sel env (tmpsOf o.op)) o fun v => setD env o.dst v fun env => vcR P T full m rest env K)) (Ev (setD env o.dst (.gd false (.d (.bool false))) fun env => vcR P T full m rest env K)) := rfl

/-! ### the order -/
def edgeOn (es : List Edge) (j : Nat) : Bool := es.any fun e => Nat.beq e.on j && Region.binds .any e
def defsOk (t i : Nat) (es : List Edge) : Nat → List Oper → Bool
  | _, [] => true
  | j, o :: r => (match o.dst with
    | some d => bif Nat.beq d t then (Nat.blt j i && edgeOn es j) || (Nat.beq j i || (Nat.blt i j && edgeOn o.after.toList i)) else true
    | none => true) && defsOk t i es (j + 1) r
def dstOnce (d i : Nat) : Nat → List Oper → Bool
  | _, [] => true
  | j, o :: r => (match o.dst with
    | some d' => bif Nat.beq d' d then Nat.beq j i else true
    | none => true) && dstOnce d i (j + 1) r
def okFrom (full : List Oper) : Nat → List Oper → Bool
  | _, [] => true
  | i, o :: r => (o.after.toList.all fun e => !Region.binds .any e || Nat.blt e.on i) && ((match o.dst with
    | some d => dstOnce d i 0 full
    | none => true) && ((app2 (tmpsOf o.op) (gTmp full o.guard)).all fun t => defsOk t i o.after.toList 0 full)) && okFrom full (i + 1) r
def okR (full : List Oper) : Bool := okFrom full 0 full

theorem Grew.drew {w : World} {F : Nat → Prop} (h : ∀ b, F b → b < w.heap.size) : Grew F w F { w with drawn := w.drawn + 1 } := ⟨rfl, rfl, rfl, Nat.le_refl _, fun _ _ => rfl, fun _ h => h, fun _ h => .inl h, h⟩
theorem Grew.refl {w : World} {F : Nat → Prop} (h : ∀ b, F b → b < w.heap.size) : Grew F w F w := ⟨rfl, rfl, rfl, Nat.le_refl _, fun _ _ => rfl, fun _ h => h, fun _ h => .inl h, h⟩
theorem Grew.trans {w w1 w2 : World} {F F1 F2 : Nat → Prop} (hg : Grew F w F1 w1) (hg2 : Grew F1 w1 F2 w2) : Grew F w F2 w2 :=
  ⟨hg2.os.trans hg.os, hg2.tape.trans hg.tape, hg2.output.trans hg.output, Nat.le_trans hg.size hg2.size, fun b hb => (hg2.keep b (Nat.lt_of_lt_of_le hb hg.size)).trans (hg.keep b hb), fun b hb => hg2.fro b (hg.fro b hb),
    fun b hb => by
      rcases hg2.fro' b hb with h3 | h3
      · exact hg.fro' b h3
      · exact .inr (Nat.le_trans hg.size h3), hg2.lt⟩
theorem mem_app2 {x : Nat} : ∀ {a b : List Nat}, x ∈ app2 a b ↔ x ∈ a ∨ x ∈ b
  | [], b => by simp [app2]
  | y :: r, b => by simp [app2, mem_app2 (a := r), or_assoc]
section
variable {P : Program} {T : Tab}
/-- What an operation does in any world that has grown: it hands back a value that reads as A. -/
def YieldR (P : Program) (σ : Pls) (F : Nat → Prop) (w : World) (A : AV) : Result Next → Prop
  | .ok (.value u) w2 => ∃ F2, Grew F w F2 w2 ∧ Vc w2 F2 σ A u
  | .ok (.enter f args) w2 => w2 = w ∧ Calls P f args w fun e w3 => ∃ u F3, e = .returned u ∧ Grew F w F3 w3 ∧ Vc w3 F3 σ A u
  | _ => False
def Does1 (P : Program) (m : Mem) (σ : Pls) (o : Oper) (e : Env) (A : AV) : Prop :=
  ∀ (F : Nat → Prop) (w : World) (a : Act), MemOk m σ F w → EnvOk e w F σ a.tmps → YieldR P σ F w A ((execOp a.eval o).run P w)
theorem allD_rows : ∀ {rows : List (List AV)} {ds : List (List D)}, allRows rows = some ds → rows.length = ds.length ∧ ∀ (i : Nat) (h : i < rows.length) (h' : i < ds.length), rows[i] = up ds[i]
  | [], ds, h => by simp [allRows] at h; subst h; exact ⟨rfl, fun i h => by simp at h⟩
  | c :: r, ds, h => by
    simp only [allRows] at h
    split at h <;> try (cases h; done)
    rename_i x hx
    split at h <;> try (cases h; done)
    rename_i l hl
    injection h with h
    subst h
    obtain ⟨h1, h2⟩ := allD_rows hl
    refine ⟨by simp [h1], fun i hi hi' => ?_⟩
    cases i with
    | zero => exact allD_eq0 hx
    | succ i => exact h2 i (by simpa using hi) (by simpa using hi')
theorem nthD_eq : ∀ {l : List (List D)} {i : Nat} (hi : i < l.length), nthD l i = l[i]
  | c :: r, 0, _ => rfl
  | c :: r, i + 1, hi => by simpa [nthD] using nthD_eq (l := r) (i := i) (by simpa using hi)
theorem rowFnD_eq {l : List (List D)} {i : Nat} (hi : i < l.length) : rowFnD l i = l[i] := by
  unfold rowFnD
  split
  · simp at hi
    subst hi
    rfl
  · exact nthD_eq hi
theorem allDP_at : ∀ {l : List (Nat × AV)}, allDP l = true → ∀ (j : Nat) B, l[j]? = some B → ∃ x, B.2 = .d x
  | [], _, j, B, h => by simp at h
  | (i, .d x) :: r, h, j, B, hB => by
    cases j with
    | zero => simp at hB; subst hB; exact ⟨x, rfl⟩
    | succ j => exact allDP_at (l := r) h j B (by simpa using hB)
  | (_, .agg _) :: _, h, _, _, _ => by simp [allDP] at h
  | (_, .tup _) :: _, h, _, _, _ => by simp [allDP] at h
  | (_, .ifc _ _) :: _, h, _, _, _ => by simp [allDP] at h
  | (_, .fn _ _ _) :: _, h, _, _, _ => by simp [allDP] at h
  | (_, .ptr _ _ _ _) :: _, h, _, _, _ => by simp [allDP] at h
  | (_, .osl _ _ _ _) :: _, h, _, _, _ => by simp [allDP] at h
  | (_, .mp _) :: _, h, _, _, _ => by simp [allDP] at h
  | (_, .gd _ _) :: _, h, _, _, _ => by simp [allDP] at h
  | (_, .junk) :: _, h, _, _, _ => by simp [allDP] at h
section
variable {w : World} {F : Nat → Prop} {σ : Pls} {m : Mem}
theorem osl_data (hm : MemOk m σ F w) {F' : Nat → Prop} (hF : ∀ b, F b → F' b) {r : Ref} {g off n : Nat} {v : Value} (h : Vc w F σ (.osl r g off n) v) {e sz k : Nat} {f : Nat → List AV} {f' : Nat → List D}
    (hB : m.get r = some (.vec e sz g k f)) (hk : off + n ≤ k) (hf : ∀ i, i < k → f i = up (f' i)) (hF' : ∀ pl b tot, σ r = some (some pl) → pl.loc = some (b, tot) → F' b) : Rd w F' (.sl sz n fun i => f' (off + i)) v := by
  have up' : ∀ {y : D} {u : Value}, Rd w F y u → Rd w F' y u := fun h => h.mono hF (fun _ _ => rfl)
  obtain ⟨pl, hr, hok, _, hat⟩ := osl_row hm h (Mem.get_at hB)
  obtain ⟨h0, hsz, hn0, hrow, hl⟩ := hok
  have hsl := hat h0
  unfold SlAt at hsl
  split at hsl
  · obtain ⟨rfl, _, rfl⟩ := hsl
    exact .sl ⟨0, 0, none⟩ (fun _ _ => undef) (Nat.le_refl _) (fun h => absurd h (by omega)) (fun i hi => absurd hi (by omega)) (fun i j hi => absurd hi (by omega)) (fun i j x hi => absurd hi (by omega))
  · rename_i b tot hloc
    obtain ⟨B, cap, rfl, hnc, hoc, hA⟩ := hsl
    obtain ⟨hnt, htm, us, hheap, hlen, hvc⟩ := hl b tot hloc
    have hlen' : ∀ i, i < n → (f' (off + i)).length = sz := fun i hi => by
      have := hrow (off + i) (by omega)
      rw [hf _ (by omega), up_eq, List.length_map] at this
      exact this
    have hcell : ∀ i j, i < n → j < sz → ∃ u, us[(off + i) * sz + j]? = some u ∧ u.oneCell' = true ∧ ∀ x, (f' (off + i))[j]? = some x → Rd w F x u := fun i j hi hj => by
      have hx : (f' (off + i))[j]? = some ((f' (off + i))[j]'(by rw [hlen' i hi]; exact hj)) := List.getElem?_eq_getElem _
      obtain ⟨u, hu, hv, h1⟩ := hvc (off + i) j (.d _) (by omega) (by rw [hf _ (by omega), up_eq, List.getElem?_map, hx]; rfl)
      refine ⟨u, hu, h1, fun x hx' => ?_⟩
      rw [hx] at hx'
      injection hx' with hx'
      subst hx'
      cases hv with | d hv => exact hv
    refine .sl ⟨b, off * sz, none⟩ (fun i j => us.getD ((off + i) * sz + j) undef) hnc (fun hn => ⟨by rw [hA (.inl (by omega)), hsz], hF' pl b tot hr hloc⟩) hlen' (fun i j hi hj => ?_) (fun i j x hi hx => ?_)
    · obtain ⟨u, hu, h1, _⟩ := hcell i j hi hj
      rw [add_at, cell_of_row w b _ us.toArray e (0, 0) hheap]
      have e1 : off * sz + (i * sz + j) = (off + i) * sz + j := by rw [Nat.add_mul]; omega
      rw [e1]
      simp [hu, h1]
    · have hj : j < sz := by rw [← hlen' i hi]; exact (List.getElem?_eq_some_iff.1 hx).1
      obtain ⟨u, hu, _, h2⟩ := hcell i j hi hj
      simp only [List.getD_eq_getElem?_getD, hu, Option.getD_some]
      exact up' (h2 x hx)

end
theorem memNone {F : Nat → Prop} {w : World} (hf : ∀ b, F b → b < w.heap.size) (hg : GOk F w) : MemOk ⟨[], []⟩ (fun _ => none) F w where
  dom r := by cases r <;> simp [Mem.at]
  lv r q h := by cases h
  inj r r' pl pl' b t t' h := by cases h
  nf r pl b t h := by cases h
  fl := hf
  gl := hg
theorem evFresh_ok (hT : TabOk P T) {m : Mem} {σ : Pls} {e : Env} {o : Oper} {A : AV} {l : List Prop} (h : evFresh T e o.op = some (A, l)) (hl : ∀ p ∈ l, p) : Does1 P m σ o e A := by
  intro F w a hm he
  unfold evFresh at h
  split at h <;> try (cases h; done)
  rename_i t n parts hop
  split at h
  rename_i l0 p hsp
  cases hdp : allDP l0 with
  | false => rw [hdp] at h; cases h
  | true =>
    rw [hdp] at h
    simp only [cond_true] at h
    split at h <;> try (cases h; done)
    rename_i e0 sz hel
    split at h <;> try (cases h; done)
    rename_i rows q hrows
    split at h <;> try (cases h; done)
    rename_i ds hds
    cases hc : (Nat.beq (countR rows) n && Nat.ble (n * sz) 65536) with
    | false => rw [hc] at h; cases h
    | true =>
      rw [hc] at h
      simp only [cond_true, Option.some.injEq, Prod.mk.injEq] at h
      obtain ⟨rfl, rfl⟩ := h
      obtain ⟨hp, hq⟩ := all_cat hl
      have hm0 := memNone hm.fl hm.gl
      have hev : evBuildSlice T ⟨[], []⟩ t n l0 = some (.osl (.loc 0) 0 0 n, ⟨[some (.vec e0 sz 0 n (rowFn rows))], []⟩, q) := by
        unfold evBuildSlice
        rw [hel]
        simp only
        rw [hrows]
        simp only [hc, cond_true]
        rfl
      obtain ⟨k1, k2⟩ := evParts_ok he parts.toList
      have hfst := stripParts_fst (evParts e parts.toList)
      rw [hsp] at hfst
      obtain ⟨u, w', σ', g1, g2, g3, g4, g5⟩ := evBuildSlice_ok (a := a) (parts := parts) hT hm0 (k1.trans hfst.symm) (fun j B u hB hu => by
        obtain ⟨A', hA', hv⟩ := stripParts_ok (w := w) (F := F) (σ := σ) (evParts e parts.toList) (by rw [hsp]; exact hp) j B (by rw [hsp]; exact hB)
        have := hv u.2 (k2 j A' u hA' hu)
        obtain ⟨x, hx⟩ := allDP_at hdp j B hB
        rw [hx] at this ⊢
        cases this with | d h => exact .d h) hev hq
      simp only [Bool.and_eq_true, countR_eq] at hc
      have hn := Nat.eq_of_beq_eq_true hc.1
      obtain ⟨e1, e2⟩ := allD_rows hds
      have hrun : (execOp a.eval o).run P w = .ok (.value u) w' := by simp [execOp, hop, g1]
      rw [hrun]
      let F2 : Nat → Prop := fun b => F b ∨ w.heap.size ≤ b ∧ b < w'.heap.size
      have hk : ∀ b, b < w.heap.size → w'.heap[b]? = w.heap[b]? := fun b hb => g4.keep b hb (fun ⟨r, pl, t, h, _⟩ => by cases h)
      have hrd := osl_data (F' := F2) (e := e0) (sz := sz) (k := n) (f := rowFn rows) (f' := rowFnD ds) g3 (fun b hb => .inl hb) g2 rfl (by omega) (fun i hi => by
        rw [rowFn_eq (by omega), rowFnD_eq (by omega)]
        exact e2 i (by omega) (by omega)) (fun pl b tot h1 h2 => by
          have hb := g3.nf _ pl b tot h1 h2
          rcases g4.own b ⟨_, pl, tot, h1, h2⟩ with ⟨_, _, _, h, _⟩ | h
          · cases h
          · exact .inr ⟨h, hb.2⟩)
      refine ⟨F2, ⟨g4.os, g4.tape, g4.output, g4.size, hk, fun b hb => .inl hb, fun b hb => hb.elim .inl (fun h => .inr h.1), fun b hb => ?_⟩, .d ?_⟩
      · rcases hb with hb | hb
        · exact Nat.lt_of_lt_of_le (hm.fl b hb) g4.size
        · exact hb.2
      · have e3 : (fun i => rowFnD ds (0 + i)) = rowFnD ds := by funext i; rw [Nat.zero_add]
        rw [e3] at hrd
        exact hrd
theorem evRead_does (hT : TabOk P T) {m : Mem} {σ : Pls} {e : Env} {o : Oper} {A : AV} {l : List Prop} (h : evRead T e m o.op = some (A, l)) (hl : ∀ p ∈ l, p) : Does1 P m σ o e A := by
  intro F w a hm he
  obtain ⟨u, hu, hrun⟩ := evRead_ok hT hm he h hl
  rw [hrun w (Agree.refl F σ w)]
  exact ⟨F, Grew.refl hm.fl, hu⟩
theorem vcR1_ok (hT : TabOk P T) {m : Mem} {σ : Pls} {e : Env} {o : Oper} {K : AV → Prop} (h : vcR1 P T m e o K) : ∃ A, K A ∧ Does1 P m σ o e A := by
  unfold vcR1 at h
  split at h
  · rename_i v l hr
    obtain ⟨hl, h⟩ := obs_ok h
    rw [frc_eq] at h
    exact ⟨v, h, evRead_does hT hr hl⟩
  · split at h
    · rename_i v l hr
      obtain ⟨hl, h⟩ := obs_ok h
      rw [frc_eq] at h
      exact ⟨v, h, evFresh_ok hT hr hl⟩
    · split at h <;> try (cases h; done)
      rename_i f args at_ hop
      obtain ⟨hl, h⟩ := obs_ok h
      obtain ⟨id, xs, ys, das, res, hfn, has, hp, hk⟩ := h.q
      refine ⟨resAV res, hk.o, fun F w a hm he => ?_⟩
      obtain ⟨h1, h2⟩ := all_cat hl
      have hf := strip_ok (ev_ok he f) h1
      have ha := stripAll_ok he args.toList h2
      rw [hfn] at hf
      rw [has] at ha
      generalize hX : a.eval f = X at hf
      cases hf with
      | d hf => cases hf with
        | @fn _ _ _ us vs l1 l2 r1 r2 =>
          have hcall := hp.2 F w (us ++ args.toList.map a.eval ++ vs) hm.fl hm.gl (by simp [l1, l2]; have := ha.data.1; simp at this; omega) (fun j x u hx hu => by
            have ha1 : ArgsOk w F σ (up xs) us := .ofD l1 r1
            have ha2 : ArgsOk w F σ (up ys) vs := .ofD l2 r2
            have hall := ((ha1.app ha).app ha2)
            have e : up xs ++ up das ++ up ys = up (xs ++ das ++ ys) := by simp [up_eq]
            rw [e] at hall
            exact hall.data.2 j x u hx hu)
          have hrun : (execOp a.eval o).run P w = .ok (.enter id (us ++ args.toList.map a.eval ++ vs).toArray) w := by
            have e : us.toArray ++ Array.map a.eval args ++ vs.toArray = (us ++ args.toList.map a.eval ++ vs).toArray := by apply Array.ext'; simp
            simp only [execOp, hop, Sem.run_bind, resolve, Deferred.ofValue, hX, invoke, Sem.run_pure, Result.andThen_ok, e]
            exact run_callFunc hp.1 _ w
          rw [hrun]
          exact ⟨rfl, hcall.mono fun e w2 ⟨v, F2, he2, hg2, hv⟩ => ⟨v, F2, he2, hg2, hv σ⟩⟩
end
end Go.Ab
