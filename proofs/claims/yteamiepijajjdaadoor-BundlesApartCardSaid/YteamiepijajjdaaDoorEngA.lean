/-
  The engine, part A: abstract values, abstract memory, the relation between them and the machine's values and memory.
-/
import Derived.Calls
import Derived.Tactics
import Derived.Laws.World
import Derived.Laws.Entries
import Derived.Below
import Derived.IntWalk
import Derived.Maps.AppendAt
import Derived.Test.YteamiepijajjdaaDoorGlob
namespace Go.Ab
set_option linter.unusedSimpArgs false
set_option linter.unusedVariables false

/-- What the keys of a map are made of: one integer, or several. A key is the list of its integers. -/
inductive Ksh : Type where
  | one (k : IntKind)
  | many (ks : List IntKind)
def Ksh.fits : Ksh → List Int → Prop
  | .one _, l => l.length = 1
  | .many ks, l => l.length = ks.length
def Ksh.key : Ksh → List Int → Value
  | .one k, l => .int k (l.headD 0)
  | .many ks, l => .agg ((ks.zip l).map fun p => Value.int p.1 p.2).toArray

/-- A datum: what a value reads as, where all memory that it reaches is never written again. -/
inductive D : Type where
  | int (k : IntKind) (n : Int)
  | bool (b : Bool)
  | str (s : ByteArray)
  | nilp | nili | nilf | nilm | nils
  | agg (cs : List D)
  | ifc (t : TypeId) (x : D)
  | sl (sz n : Nat) (f : Nat → List D)
  | pt (cs : List D) (off : Nat)
  | fn (f : Fn) (first cap : List D)
  | mapd (sh : Ksh) (has : List Int → Bool) (val : List Int → D)

/-- A name of a block that may be written: one that the function made, or one that was handed to it. -/
inductive Ref : Type where
  | loc (j : Nat)
  | arg (j : Nat)
  | bad
  deriving DecidableEq

/-- An abstract value. -/
inductive AV : Type where
  | d (x : D)
  | agg (cs : List AV)
  | tup (vs : List AV)
  | ifc (t : TypeId) (x : AV)
  | fn (f : Fn) (first cap : List AV)
  | ptr (r : Ref) (g i off : Nat)
  | osl (r : Ref) (g off n : Nat)
  | mp (r : Ref)
  | gd (b : Bool) (x : AV)
  | junk

/-- An abstract block: a variable of its own; a row that slices may cover. -/
inductive Blk : Type where
  | box (e : TypeId) (cs : List AV)
  | vec (e : TypeId) (sz g n : Nat) (f : Nat → List AV)
  | loop (b : Nat) (r : Loop) (env : List (Nat × AV))
  | map (sh : Ksh) (has : List Int → Bool) (val : List Int → AV)

structure Mem where
  loc : List (Option Blk)
  own : List (Option Blk)

def Mem.at (m : Mem) : Ref → Option (Option Blk)
  | .loc j => m.loc[j]?
  | .arg j => m.own[j]?
  | .bad => none

/-! ### Data and values -/

inductive Rd (w : World) (F : Nat → Prop) : D → Value → Prop where
  | int {k n} : Rd w F (.int k n) (.int k n)
  | bool {b} : Rd w F (.bool b) (.bool b)
  | str {s} : Rd w F (.str s) (.string s)
  | nilp : Rd w F .nilp (.pointer none)
  | nili : Rd w F .nili .nilIface
  | nilf : Rd w F .nilf .nilFunc
  | nilm : Rd w F .nilm (.map none)
  | nils : Rd w F .nils (.slice none 0 0)
  | agg {cs : List D} {us : List Value} (hl : us.length = cs.length) (h : ∀ (j : Nat) x u, cs[j]? = some x → us[j]? = some u → Rd w F x u) : Rd w F (.agg cs) (.agg us.toArray)
  | ifc {t x u} (h : Rd w F x u) : Rd w F (.ifc t x) (.iface t u)
  | sl {sz n f} {A : Option Addr} {cap : Nat} (a : Addr) (g : Nat → Nat → Value) (hc : n ≤ cap) (ha : 0 < n → A = some a ∧ F a.block)
      (hl : ∀ i, i < n → (f i).length = sz) (hcell : ∀ i j, i < n → j < sz → w.cell? (a.add (i * sz + j)) = some (g i j) ∧ (g i j).oneCell' = true)
      (h : ∀ (i j : Nat) x, i < n → (f i)[j]? = some x → Rd w F x (g i j)) : Rd w F (.sl sz n f) (.slice A n cap)
  | pt {cs : List D} {off} (a : Addr) (g : Nat → Value) (ha : F a.block) (hcell : ∀ j, j < cs.length → w.cell? (a.add j) = some (g j) ∧ (g j).oneCell' = true)
      (h : ∀ (j : Nat) x, cs[j]? = some x → Rd w F x (g j)) : Rd w F (.pt cs off) (.pointer (some (a.add off)))
  | fn {f} {xs ys : List D} {us vs : List Value} (h1 : us.length = xs.length) (h2 : vs.length = ys.length)
      (h3 : ∀ (j : Nat) x u, xs[j]? = some x → us[j]? = some u → Rd w F x u) (h4 : ∀ (j : Nat) x u, ys[j]? = some x → vs[j]? = some u → Rd w F x u) :
      Rd w F (.fn f xs ys) (.func f us.toArray vs.toArray)
  | mapd {sh has val} (b : Nat) (es : Array MapEntry) (clock : Nat) (ks : List (List Int)) (hF : F b) (hb : w.heap[b]? = some (.map es clock)) (hl : ks.length = es.size) (hn : ks.Nodup)
      (h1 : ∀ (i : Nat) k e, ks[i]? = some k → es[i]? = some e → sh.fits k ∧ e.key = sh.key k ∧ has k = true) (h2 : ∀ k, sh.fits k → has k = true → k ∈ ks)
      (h : ∀ (i : Nat) k e, ks[i]? = some k → es[i]? = some e → Rd w F (val k) e.val) : Rd w F (.mapd sh has val) (.map (some b))

theorem add_block (a : Addr) (k : Nat) : (a.add k).block = a.block := by unfold Addr.add; split <;> rfl

theorem Rd.mono {w w' : World} {F F' : Nat → Prop} (hF : ∀ b, F b → F' b) (hh : ∀ b, F b → w'.heap[b]? = w.heap[b]?) {x : D} {v : Value} (h : Rd w F x v) : Rd w' F' x v := by
  induction h with
  | int => exact .int
  | bool => exact .bool
  | str => exact .str
  | nilp => exact .nilp
  | nili => exact .nili
  | nilf => exact .nilf
  | nilm => exact .nilm
  | nils => exact .nils
  | agg hl _ ih => exact .agg hl ih
  | ifc _ ih => exact .ifc ih
  | sl a g hc ha hl hcell _ ih =>
    refine .sl a g hc (fun h => ⟨(ha h).1, hF _ (ha h).2⟩) hl (fun i j hi hj => ?_) ih
    rw [World.cell?_of_block (w := w) (by rw [add_block]; exact hh _ (ha (by omega)).2)]
    exact hcell i j hi hj
  | pt a g ha hcell _ ih =>
    refine .pt a g (hF _ ha) (fun j hj => ?_) ih
    rw [World.cell?_of_block (w := w) (by rw [add_block]; exact hh _ ha)]
    exact hcell j hj
  | fn h1 h2 _ _ ih1 ih2 => exact .fn h1 h2 ih1 ih2
  | mapd b es clock ks g1 g2 g3 g4 g5 g6 _ ih => exact .mapd b es clock ks (hF _ g1) (by rw [hh _ g1]; exact g2) g3 g4 g5 g6 ih

/-- Where a block lies: its generation, the cells of a row, the block and how many rows it has room for. -/
structure Pl where
  g : Nat
  sz : Nat
  loc : Option (Nat × Nat)
abbrev Pls := Ref → Option (Option Pl)

def SlAt (pl : Pl) (off n : Nat) (v : Value) : Prop :=
  match pl.loc with
  | none => n = 0 ∧ off = 0 ∧ v = .slice none 0 0
  | some (b, tot) => ∃ A cap, v = .slice A n cap ∧ n ≤ cap ∧ off + cap = tot ∧ (0 < cap ∨ off = 0 → A = some ⟨b, off * pl.sz, none⟩)
def PtAt (pl : Pl) (i off : Nat) (v : Value) : Prop := ∃ b tot, pl.loc = some (b, tot) ∧ v = .pointer (some ⟨b, i * pl.sz + off, none⟩)

inductive Vc (w : World) (F : Nat → Prop) (σ : Pls) : AV → Value → Prop where
  | d {x v} (h : Rd w F x v) : Vc w F σ (.d x) v
  | agg {cs : List AV} {us : List Value} (hl : us.length = cs.length) (h : ∀ (j : Nat) x u, cs[j]? = some x → us[j]? = some u → Vc w F σ x u) : Vc w F σ (.agg cs) (.agg us.toArray)
  | tup {cs : List AV} {us : List Value} (hl : us.length = cs.length) (h : ∀ (j : Nat) x u, cs[j]? = some x → us[j]? = some u → Vc w F σ x u) : Vc w F σ (.tup cs) (.tuple us.toArray)
  | ifc {t x u} (h : Vc w F σ x u) : Vc w F σ (.ifc t x) (.iface t u)
  | fn {f} {xs ys : List AV} {us vs : List Value} (h1 : us.length = xs.length) (h2 : vs.length = ys.length)
      (h3 : ∀ (j : Nat) x u, xs[j]? = some x → us[j]? = some u → Vc w F σ x u) (h4 : ∀ (j : Nat) x u, ys[j]? = some x → vs[j]? = some u → Vc w F σ x u) :
      Vc w F σ (.fn f xs ys) (.func f us.toArray vs.toArray)
  | ptr {r g i off v q} (hr : σ r = some q) (h : ∀ pl, q = some pl → g ≤ pl.g ∧ (pl.g = g → PtAt pl i off v)) : Vc w F σ (.ptr r g i off) v
  | osl {r g off n v q} (hr : σ r = some q) (h : ∀ pl, q = some pl → g ≤ pl.g ∧ (pl.g = g → SlAt pl off n v)) : Vc w F σ (.osl r g off n) v
  | mp {r v q} (hr : σ r = some q) (h : ∀ pl, q = some pl → pl.g = 0 → ∃ b t, pl.loc = some (b, t) ∧ v = .map (some b)) : Vc w F σ (.mp r) v
  | gd {b x v} (h : b = true → Vc w F σ x v) (h' : b = false → v = undef) : Vc w F σ (.gd b x) v
  | junk {v} : Vc w F σ .junk v

/-- What a later placement may say of a block: the same, or of a later generation, or nothing. -/
def QLe (q q' : Option Pl) : Prop := ∀ pl', q' = some pl' → ∃ pl, q = some pl ∧ pl.g ≤ pl'.g ∧ (pl'.g = pl.g → pl' = pl)
theorem QLe.refl (q : Option Pl) : QLe q q := fun pl' h => ⟨pl', h, Nat.le_refl _, fun _ => rfl⟩
theorem QLe.none (q : Option Pl) : QLe q none := fun _ h => nomatch h
theorem QLe.trans {a b c : Option Pl} (h : QLe a b) (k : QLe b c) : QLe a c := fun pl' hc => by
  obtain ⟨p1, h1, h2, h3⟩ := k pl' hc
  obtain ⟨p2, h4, h5, h6⟩ := h p1 h1
  refine ⟨p2, h4, Nat.le_trans h5 h2, fun he => ?_⟩
  have : p1.g = p2.g := by omega
  rw [h3 (by omega), h6 this]

def SLe (σ σ' : Pls) : Prop := ∀ r q, σ r = some q → ∃ q', σ' r = some q' ∧ QLe q q'
theorem SLe.refl (σ : Pls) : SLe σ σ := fun _ q h => ⟨q, h, QLe.refl q⟩

theorem Vc.mono {w w' : World} {F F' : Nat → Prop} {σ σ' : Pls} (hF : ∀ b, F b → F' b) (hh : ∀ b, F b → w'.heap[b]? = w.heap[b]?) (hs : SLe σ σ')
    {x : AV} {v : Value} (h : Vc w F σ x v) : Vc w' F' σ' x v := by
  induction h with
  | d h => exact .d (h.mono hF hh)
  | agg hl _ ih => exact .agg hl ih
  | tup hl _ ih => exact .tup hl ih
  | ifc _ ih => exact .ifc ih
  | fn h1 h2 _ _ i1 i2 => exact .fn h1 h2 i1 i2
  | ptr hr h =>
    obtain ⟨q', hq, hle⟩ := hs _ _ hr
    refine .ptr hq fun pl' e => ?_
    obtain ⟨pl, e1, e2, e3⟩ := hle pl' e
    obtain ⟨h1, h2⟩ := h pl e1
    refine ⟨by omega, fun e4 => ?_⟩
    have h5 : pl'.g = pl.g := by omega
    rw [e3 h5]; exact h2 (by omega)
  | osl hr h =>
    obtain ⟨q', hq, hle⟩ := hs _ _ hr
    refine .osl hq fun pl' e => ?_
    obtain ⟨pl, e1, e2, e3⟩ := hle pl' e
    obtain ⟨h1, h2⟩ := h pl e1
    refine ⟨by omega, fun e4 => ?_⟩
    have h5 : pl'.g = pl.g := by omega
    rw [e3 h5]; exact h2 (by omega)
  | mp hr h =>
    obtain ⟨q', hq, hle⟩ := hs _ _ hr
    refine .mp hq fun pl' e e0 => ?_
    obtain ⟨pl, e1, e2, e3⟩ := hle pl' e
    rw [e3 (by omega)]
    exact h pl e1 (by omega)
  | gd _ h' ih => exact .gd ih h'
  | junk => exact .junk

/-! ### Blocks and memory -/

def BlkOk (w : World) (F : Nat → Prop) (σ : Pls) : Blk → Pl → Prop
  | .box e cs, pl => pl.g = 0 ∧ pl.sz = cs.length ∧ ∃ b, pl.loc = some (b, 1) ∧ ∃ us : List Value, w.heap[b]? = some (.cells us.toArray e (0, 0)) ∧ us.length = cs.length ∧
      ∀ (j : Nat) A u, cs[j]? = some A → us[j]? = some u → Vc w F σ A u ∧ u.oneCell' = true
  | .vec e sz g n f, pl => pl.g = g ∧ pl.sz = sz ∧ (pl.loc = none → n = 0) ∧ (∀ i, i < n → (f i).length = sz) ∧ ∀ b tot, pl.loc = some (b, tot) → n ≤ tot ∧ tot ≤ maxLen ∧
      ∃ us : List Value, w.heap[b]? = some (.cells us.toArray e (0, 0)) ∧ us.length = tot * sz ∧
      ∀ (i j : Nat) A, i < n → (f i)[j]? = some A → ∃ u, us[i * sz + j]? = some u ∧ Vc w F σ A u ∧ u.oneCell' = true
  | .loop b r env, pl => pl.g = 0 ∧ pl.loc = some (b, 1) ∧ w.heap[b]? = some (.loop r) ∧ ∀ (j : Nat) t A, env[j]? = some (t, A) → Vc w F σ A (r.tmps.getD t undef)
  | .map sh has val, pl => pl.g = 0 ∧ ∃ b, pl.loc = some (b, 1) ∧ ∃ (es : Array MapEntry) (clock : Nat) (ks : List (List Int)), w.heap[b]? = some (.map es clock) ∧ ks.length = es.size ∧ ks.Nodup ∧
      (∀ (i : Nat) k e, ks[i]? = some k → es[i]? = some e → sh.fits k ∧ e.key = sh.key k ∧ has k = true ∧ Vc w F σ (val k) e.val) ∧ ∀ k, sh.fits k → has k = true → k ∈ ks

/-- The package-level variables that a proof leans on are never written, and read as told. -/
def GOk (F : Nat → Prop) (w : World) : Prop := ∀ g v, (g, v) ∈ globs → F g ∧ w.cell? ⟨g, 0, none⟩ = some v
theorem GOk.mono {F F' : Nat → Prop} {w w' : World} (h : GOk F w) (hF : ∀ b, F b → F' b) (hh : ∀ b, F b → w'.heap[b]? = w.heap[b]?) : GOk F' w' := fun g v hg => by
  obtain ⟨h1, h2⟩ := h g v hg
  exact ⟨hF g h1, by rw [World.cell?_of_block (w := w) (hh g h1)]; exact h2⟩
structure MemOk (m : Mem) (σ : Pls) (F : Nat → Prop) (w : World) : Prop where
  dom : ∀ r, σ r = none ↔ m.at r = none
  lv : ∀ r q, σ r = some q → (q = none → m.at r = some none) ∧ ∀ pl, q = some pl → ∃ B, m.at r = some (some B) ∧ BlkOk w F σ B pl
  inj : ∀ r r' pl pl' b t t', σ r = some (some pl) → σ r' = some (some pl') → pl.loc = some (b, t) → pl'.loc = some (b, t') → r = r'
  nf : ∀ r pl b t, σ r = some (some pl) → pl.loc = some (b, t) → ¬ F b ∧ b < w.heap.size
  fl : ∀ b, F b → b < w.heap.size
  gl : GOk F w

theorem BlkOk.mono {w w' : World} {F F' : Nat → Prop} {σ σ' : Pls} (hF : ∀ b, F b → F' b) (hh : ∀ b, F b → w'.heap[b]? = w.heap[b]?) (hs : SLe σ σ')
    {B : Blk} {pl : Pl} (hb : ∀ b t, pl.loc = some (b, t) → w'.heap[b]? = w.heap[b]?) (h : BlkOk w F σ B pl) : BlkOk w' F' σ' B pl := by
  cases B with
  | box e cs =>
    obtain ⟨h1, h2, b, h3, us, h4, h5, h6⟩ := h
    exact ⟨h1, h2, b, h3, us, by rw [hb b 1 h3]; exact h4, h5, fun j A u hA hu => ⟨(h6 j A u hA hu).1.mono hF hh hs, (h6 j A u hA hu).2⟩⟩
  | vec e sz g n f =>
    obtain ⟨h1, h2, h3, h4, h5⟩ := h
    refine ⟨h1, h2, h3, h4, fun b tot hl => ?_⟩
    obtain ⟨h6, h6', us, h7, h8, h9⟩ := h5 b tot hl
    refine ⟨h6, h6', us, by rw [hb b tot hl]; exact h7, h8, fun i j A hi hA => ?_⟩
    obtain ⟨u, hu, hv, h1⟩ := h9 i j A hi hA
    exact ⟨u, hu, hv.mono hF hh hs, h1⟩
  | loop b r env =>
    obtain ⟨h1, h2, h3, h4⟩ := h
    exact ⟨h1, h2, by rw [hb b 1 h2]; exact h3, fun j t A hj => (h4 j t A hj).mono hF hh hs⟩
  | map sh has val =>
    obtain ⟨h1, b, h2, es, clock, ks, h3, h4, h5, h6, h7⟩ := h
    exact ⟨h1, b, h2, es, clock, ks, by rw [hb b 1 h2]; exact h3, h4, h5, fun i k e hi he => ⟨(h6 i k e hi he).1, (h6 i k e hi he).2.1, (h6 i k e hi he).2.2.1, (h6 i k e hi he).2.2.2.mono hF hh hs⟩, h7⟩

/-- The world has changed only where nothing of ours lies. -/
theorem MemOk.world {m : Mem} {σ : Pls} {F : Nat → Prop} {w w' : World} (h : MemOk m σ F w) (hsz : w.heap.size ≤ w'.heap.size)
    (hk : ∀ b, (F b ∨ ∃ r pl t, σ r = some (some pl) ∧ pl.loc = some (b, t)) → w'.heap[b]? = w.heap[b]?) : MemOk m σ F w' where
  dom := h.dom
  lv r q hq := ⟨(h.lv r q hq).1, fun pl e => by
    obtain ⟨B, hB, hok⟩ := (h.lv r q hq).2 pl e
    exact ⟨B, hB, hok.mono (fun _ h => h) (fun b hb => hk b (.inl hb)) (SLe.refl σ) (fun b t hl => hk b (.inr ⟨r, pl, t, by rw [hq, e], hl⟩))⟩⟩
  inj := h.inj
  nf r pl b t h1 h2 := ⟨(h.nf r pl b t h1 h2).1, Nat.lt_of_lt_of_le (h.nf r pl b t h1 h2).2 hsz⟩
  fl b hb := Nat.lt_of_lt_of_le (h.fl b hb) hsz
  gl := h.gl.mono (fun _ h => h) fun b hb => hk b (.inl hb)

end Go.Ab
