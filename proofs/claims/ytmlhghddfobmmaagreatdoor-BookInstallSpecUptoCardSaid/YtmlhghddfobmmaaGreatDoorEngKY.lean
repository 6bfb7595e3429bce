import Derived.Calls
import Derived.KernelRfl
import Derived.Tactics
import Derived.Laws.World
import Derived.Laws.Entries
import Derived.Below
import Derived.IntWalk
import Derived.Maps.AppendAt
import Derived.ChangeKeysEq
import Derived.Laws.StructEq
import Derived.MapKept
namespace Go.Ab
abbrev Qgx:=@Nat.le_refl
abbrev Qgy:=@List.getElem?_eq_getElem
abbrev Qgz:=@Option.some.injEq
abbrev Qh0:=@decide_eq_false
abbrev Qh1:=@Nat.eq_of_beq_eq_true
abbrev Qh2:=@Array.getElem?_toList
abbrev Qh3:=@Nat.zero_le
abbrev Qh4:=@Array.getElem?_eq_some_iff
abbrev Qh5:=@Bool.and_eq_true
abbrev Qh6:=@Prod.mk.injEq
abbrev Qh7:=@List.getElem?_eq_some_iff
abbrev Qh8:=@decide_eq_true
abbrev Qh9:=@Nat.zero_add
abbrev Qha:=@List.getD_eq_getElem?_getD
abbrev Qhb:=@List.length_map
abbrev Qhc:=@List.length_append
abbrev Qhd:=@of_decide_eq_true
abbrev Qhe:=@List.getElem?_map
abbrev Qhf:=@Nat.le_of_ble_eq_true
abbrev Qhg:=@Array.length_toList
abbrev Qhh:=@Nat.not_lt_zero
abbrev Qhi:=@Array.toList_setIfInBounds
abbrev Qhj:=@List.getElem?_append_left
abbrev Qhk:=@Array.getD_eq_getD_getElem?
abbrev Qhl:=@Bool.false_ne_true
abbrev Qhm:=@beq_iff_eq
abbrev Qhn:=@List.take_of_length_le
abbrev Qho:=@List.mem_cons
abbrev Qhp:=@List.take_length
abbrev Qhq:=@List.not_mem_nil
abbrev Qhr:=@List.length_take
abbrev Qhs:=@List.length_cons
abbrev Qht:=@List.getElem?_eq_none
abbrev Qhu:=@List.getElem?_append_right
abbrev Qhv:=@Nat.ne_of_beq_eq_false
abbrev Qhw:=@List.mem_map
abbrev Qhx:=@Nat.le_trans
abbrev Qhy:=@Bool.true_and
abbrev Qhz:=@Nat.le_of_eq
abbrev Qi0:=@Array.toList_replicate
abbrev Qi1:=@Nat.lt_one_iff
abbrev Qi2:=@Array.toArray_toList
abbrev Qi3:=@Option.getD_some
abbrev Qi4:=@List.eq_nil_of_length_eq_zero
abbrev Qi5:=@List.all_cons
abbrev Qi6:=@Nat.lt_or_ge
abbrev Qi7:=@List.mem_append
abbrev Qi8:=@List.all_eq_true
abbrev Qi9:=@List.mem_singleton
abbrev Qia:=@decide_eq_true_eq
abbrev Qib:=@List.drop_eq_nil_of_le
abbrev Qic:=@Nat.lt_of_lt_of_le
abbrev Qid:=@List.getElem?_take
abbrev Qie:=@List.mem_of_getElem?
abbrev Qif:=@Option.map_eq_some_iff
abbrev Qig:=@List.length_nil
abbrev Qih:=@List.append_nil
abbrev Qii:=@List.all_append
abbrev Qij:=@List.getElem?_drop
abbrev Qik:=@List.getElem?_replicate
abbrev Qil:=@List.take_append_drop
abbrev Qim:=@List.map_append
abbrev Qin:=@List.map_cons
theorem Tt:True:=True.intro
theorem Om{p:Prop}(h:p:=by omega):p:=h
theorem Dc{p:Prop}(h:p:=by decide):p:=h
theorem Kr{p:Prop}(h:p:=by kernel_rfl):p:=h
def Ro : List (Nat × Nat × Value) := [(0, 0, .bool false), (0, 1, .bool false), (0, 2, .bool false), (0, 3, .bool false), (0, 4, .nilFunc), (0, 5, .nilFunc), (0, 6, .bool false), (0, 7, .bool false), (0, 8, .bool false), (0, 9, .bool true), (0, 10, .func (.func 260) #[] #[]), (0, 11, .func (.func 261) #[] #[]), (0, 12, .bool false), (0, 13, .bool false), (0, 14, .bool false), (0, 15, .bool true), (0, 16, .func (.func 262) #[] #[]), (0, 17, .func (.func 263) #[] #[]), (0, 18, .bool false), (0, 19, .bool true), (0, 20, .bool false), (0, 21, .bool true), (0, 22, .func (.func 264) #[] #[]), (0, 23, .func (.func 265) #[] #[]), (0, 24, .bool false), (0, 25, .bool false), (0, 26, .bool false), (0, 27, .bool true), (0, 28, .func (.func 266) #[] #[]), (0, 29, .func (.func 267) #[] #[]), (0, 30, .bool true), (0, 31, .bool true), (0, 32, .bool false), (0, 33, .bool false), (0, 34, .func (.func 268) #[] #[]), (0, 35, .func (.func 270) #[] #[]), (0, 36, .bool true), (0, 37, .bool true), (0, 38, .bool false), (0, 39, .bool false), (0, 40, .func (.func 272) #[] #[]), (0, 41, .func (.func 273) #[] #[]), (0, 42, .bool false), (0, 43, .bool true), (0, 44, .bool false), (0, 45, .bool false), (0, 46, .func (.func 274) #[] #[]), (0, 47, .func (.func 275) #[] #[]), (0, 48, .bool false), (0, 49, .bool true), (0, 50, .bool true), (0, 51, .bool false), (0, 52, .func (.func 276) #[] #[]), (0, 53, .func (.func 278) #[] #[]), (0, 54, .bool true), (0, 55, .bool false), (0, 56, .bool false), (0, 57, .bool false), (0, 58, .func (.func 269) #[] #[]), (0, 59, .func (.func 280) #[] #[])]
def exts : List Nat := []
def Q4d : List Nat := [54]
set_option linter.unusedSimpArgs false
set_option linter.unusedVariables false
inductive Ksh:Type where
 |one (k:IntKind)
 |many (ks:List IntKind)
 |str
def Jf (s:ByteArray):List Int:=s.data.toList.map fun b=>(b.toNat:Int)
def B9 (l:List Int):ByteArray:=⟨(l.map fun n=>UInt8.ofNat n.toNat).toArray⟩
theorem Au (s:ByteArray):B9 (Jf s)=s:=by
 unfold B9 Jf
 rw[List.map_map]
 have:((fun n:Int=>UInt8.ofNat n.toNat)∘fun b:UInt8=>(b.toNat:Int))=id:=by
  funext b
  simp
 rw[this]
 simp
theorem O3 {l:List Int}(h:∀x∈l,0<=x/\x<256):Jf (B9 l)=l:=by
 unfold B9 Jf
 simp only[List.map_map]
 refine(List.map_congr_left fun x hx=>?_).trans (List.map_id l)
 obtain⟨h1,h2⟩:=h x hx
 simp only[Function.comp,UInt8.toNat_ofNat',id]
 omega
theorem Rb (s:ByteArray):∀x∈Jf s,0<=x/\x<256:=by
 intro x hx
 obtain⟨b,_,rfl⟩:=Qhw.1 hx
 have:=b.toNat_lt
 omega
def Ksh.fits:Ksh->List Int->Prop
 | .one _,l=>l.length=1
 | .many ks,l=>l.length=ks.length
 | .str,l=>∀x∈l,0<=x/\x<256
def Ksh.key:Ksh->List Int->Value
 | .one k,l=>.int k (l.headD 0)
 | .many ks,l=>.agg (List.zipWith Value.int ks l).toArray
 | .str,l=>.string (B9 l)
inductive D:Type where
 |int (k:IntKind) (n:Int)
 |bool (b:Bool)
 |str (s:ByteArray)
 |nilp|nili|nilf|nilm|nils
 |agg (cs:List D)
 |ifc (t:TypeId) (x:D)
 |sl (sz n:Nat) (f:Nat->List D)
 |pt (cs:List D) (off:Nat)
 |fn (f:Fn) (first cap:List D)
 |mapd (sh:Ksh) (has:List Int->Bool) (val:List Int->D)
 |slc (sz n:Nat) (f:Nat->List D)
inductive Ref:Type where
 |loc (j:Nat)
 |arg (j:Nat)
 |bad
 deriving DecidableEq
inductive AV:Type where
 |d (x:D)
 |agg (cs:List AV)
 |tup (vs:List AV)
 |ifc (t:TypeId) (x:AV)
 |fn (f:Fn) (first cap:List AV)
 |ptr (r:Ref) (g i off:Nat)
 |osl (r:Ref) (g off n:Nat)
 |mp (r:Ref)
 |gd (b:Bool) (x:AV)
 |junk
inductive Blk:Type where
 |box (e:TypeId) (cs:List AV)
 |vec (e:TypeId) (sz g n:Nat) (f:Nat->List AV)
 |loop (b:Nat) (r:Loop) (env:List (Nat × AV))
 |map (sh:Ksh) (has:List Int->Bool) (val:List Int->AV)
 |room (e:TypeId) (sz g n c:Nat) (f:Nat->List AV)
 |ent (sh:Ksh) (has:List Int->Bool) (val:List Int->AV) (key:List Int) (c:Nat)
 |opq
 |iter (sh:Ksh) (has:List Int->Bool) (val:List Int->D) (left:List (List Int)) (cur:Option (List Int))
 |look (sh:Ksh) (key:List Int) (v:AV) (hk:Bool)
structure Mem where
 loc:List (Option Blk)
 own:List (Option Blk)
def Mem.at (m:Mem):Ref->Option (Option Blk)
 | .loc j=>m.loc[j]?
 | .arg j=>m.own[j]?
 | .bad=>none
def Stp (es:Array MapEntry)(clock:Nat):Prop:=(∀x∈es.toList,x.born<clock)/\(es.toList.map (·.born)).Nodup
inductive Rd (w:World)(F:Nat->Prop):D->Value->Prop where
 |int {k n}:Rd w F (.int k n) (.int k n)
 |bool {b}:Rd w F (.bool b) (.bool b)
 |str {s}:Rd w F (.str s) (.string s)
 |nilp:Rd w F .nilp (.pointer none)
 |nili:Rd w F .nili .nilIface
 |nilf:Rd w F .nilf .nilFunc
 |nilm:Rd w F .nilm (.map none)
 |nils:Rd w F .nils (.slice none 0 0)
 |agg {cs:List D} {us:List Value} (hl:us.length=cs.length) (h:∀(j:Nat) x u,cs[j]?=some x->us[j]?=some u->Rd w F x u):Rd w F (.agg cs) (.agg us.toArray)
 |ifc {t x u} (h:Rd w F x u):Rd w F (.ifc t x) (.iface t u)
 | sl {sz n f} {A:Option Addr} {cap:Nat} (a:Addr) (g:Nat→Nat→Value) (hc:n≤cap) (ha:0 < n→A=some a∧F a.block)
   (hl:∀i,i<n->(f i).length=sz) (hcell:∀i j,i<n->j<sz->w.cell? (a.add (i*sz+j))=some (g i j)/\(g i j).oneCell'=true)
   (h:∀(i j:Nat) x,i<n->(f i)[j]?=some x->Rd w F x (g i j)):Rd w F (.sl sz n f) (.slice A n cap)
 | pt {cs:List D} {off} (a:Addr) (g:Nat→Value) (ha:F a.block) (hcell:∀ j,j < cs.length→w.cell? (a.add j)=some (g j)∧(g j).oneCell'=true)
   (h:∀(j:Nat) x,cs[j]?=some x->Rd w F x (g j)):Rd w F (.pt cs off) (.pointer (some (a.add off)))
 | fn {f} {xs ys:List D} {us vs:List Value} (h1:us.length=xs.length) (h2:vs.length=ys.length)
   (h3:∀(j:Nat) x u,xs[j]?=some x->us[j]?=some u->Rd w F x u) (h4:∀(j:Nat) x u,ys[j]?=some x->vs[j]?=some u->Rd w F x u) :
   Rd w F (.fn f xs ys) (.func f us.toArray vs.toArray)
 | mapd {sh has val} (b:Nat) (es:Array MapEntry) (clock:Nat) (ks:List (List Int)) (hF:F b) (hb:w.heap[b]?=some (.map es clock)) (hl:ks.length=es.size) (hn:ks.Nodup)
   (h1:∀(i:Nat) k e,ks[i]?=some k->es[i]?=some e->sh.fits k/\e.key=sh.key k/\has k=true) (h2:∀k,sh.fits k->has k=true->k∈ks) (hS:Stp es clock)
   (h:∀(i:Nat) k e,ks[i]?=some k->es[i]?=some e->Rd w F (val k) e.val):Rd w F (.mapd sh has val) (.map (some b))
 |slc {sz n f A} (h:Rd w F (.sl sz n f) (.slice A n n)):Rd w F (.slc sz n f) (.slice A n n)
theorem R5 (a:Addr)(k:Nat):(a.add k).block=a.block:=by unfold Addr.add;split<;>rfl
theorem Rd.mono {w w':World}{F F':Nat->Prop}(hF:∀b,F b->F' b)(hh:∀b,F b->w'.heap[b]?=w.heap[b]?){x:D}{v:Value}(h:Rd w F x v):Rd w' F' x v:=by
 induction h with
 |int=>exact .int
 |bool=>exact .bool
 |str=>exact .str
 |nilp=>exact .nilp
 |nili=>exact .nili
 |nilf=>exact .nilf
 |nilm=>exact .nilm
 |nils=>exact .nils
 |agg hl _ ih=>exact .agg hl ih
 |ifc _ ih=>exact .ifc ih
 |sl a g hc ha hl hcell _ ih =>
  refine .sl a g hc (fun h=>⟨(ha h).1,hF _ (ha h).2⟩) hl (fun i j hi hj=>?_) ih
  rw[World.cell?_of_block (w:=w) (by rw[R5];exact hh _ (ha Om).2)]
  exact hcell i j hi hj
 |pt a g ha hcell _ ih =>
  refine .pt a g (hF _ ha) (fun j hj=>?_) ih
  rw[World.cell?_of_block (w:=w) (by rw[R5];exact hh _ ha)]
  exact hcell j hj
 |fn h1 h2 _ _ ih1 ih2=>exact .fn h1 h2 ih1 ih2
 |mapd b es clock ks g1 g2 g3 g4 g5 g6 g7 _ ih=>exact .mapd b es clock ks (hF _ g1) (by rw[hh _ g1];exact g2) g3 g4 g5 g6 g7 ih
 |slc _ ih=>exact .slc ih
structure Pl where
 g:Nat
 sz:Nat
 loc:Option (Nat × Nat)
abbrev Pls:=Ref->Option (Option Pl)
def Yn (pl:Pl)(off n:Nat)(v:Value):Prop :=
 match pl.loc with
 |none=>n=0/\off=0/\v=.slice none 0 0
 |some (b,tot)=>∃A cap,v=.slice A n cap/\n<=cap/\off+cap=tot/\(0<cap\/off=0->A=some ⟨b,off*pl.sz,none⟩)
def I9 (pl:Pl)(i off:Nat)(v:Value):Prop:=∃b tot,pl.loc=some (b,tot)/\v=.pointer (some ⟨b,i*pl.sz+off,none⟩)
inductive Vc (w:World)(F:Nat->Prop)(σ:Pls):AV->Value->Prop where
 |d {x v} (h:Rd w F x v):Vc w F σ (.d x) v
 |agg {cs:List AV} {us:List Value} (hl:us.length=cs.length) (h:∀(j:Nat) x u,cs[j]?=some x->us[j]?=some u->Vc w F σ x u):Vc w F σ (.agg cs) (.agg us.toArray)
 |tup {cs:List AV} {us:List Value} (hl:us.length=cs.length) (h:∀(j:Nat) x u,cs[j]?=some x->us[j]?=some u->Vc w F σ x u):Vc w F σ (.tup cs) (.tuple us.toArray)
 |ifc {t x u} (h:Vc w F σ x u):Vc w F σ (.ifc t x) (.iface t u)
 | fn {f} {xs ys:List AV} {us vs:List Value} (h1:us.length=xs.length) (h2:vs.length=ys.length)
   (h3:∀(j:Nat) x u,xs[j]?=some x->us[j]?=some u->Vc w F σ x u) (h4:∀(j:Nat) x u,ys[j]?=some x->vs[j]?=some u->Vc w F σ x u) :
   Vc w F σ (.fn f xs ys) (.func f us.toArray vs.toArray)
 |ptr {r g i off v q} (hr:σ r=some q) (h:∀pl,q=some pl->g<=pl.g/\(pl.g=g->I9 pl i off v)):Vc w F σ (.ptr r g i off) v
 |osl {r g off n v q} (hr:σ r=some q) (h:∀pl,q=some pl->g<=pl.g/\(pl.g=g->Yn pl off n v)):Vc w F σ (.osl r g off n) v
 |mp {r v q} (hr:σ r=some q) (h:∀pl,q=some pl->pl.g=0->∃b t,pl.loc=some (b,t)/\v=.map (some b)):Vc w F σ (.mp r) v
 |gd {b x v} (h:b=true->Vc w F σ x v) (h':b=false->v=undef):Vc w F σ (.gd b x) v
 |junk {v}:Vc w F σ .junk v
def QLe (q q':Option Pl):Prop:=∀pl',q'=some pl'->∃pl,q=some pl/\pl.g<=pl'.g/\(pl'.g=pl.g->pl'=pl)
theorem QLe.refl (q:Option Pl):QLe q q:=fun pl' h=>⟨pl',h,Qgx _,fun _=>rfl⟩
theorem QLe.none (q:Option Pl):QLe q none:=fun _ h=>nomatch h
theorem QLe.trans {a b c:Option Pl}(h:QLe a b)(k:QLe b c):QLe a c:=fun pl' hc=>by
 obtain⟨p1,h1,h2,h3⟩:=k pl' hc
 obtain⟨p2,h4,h5,h6⟩:=h p1 h1
 refine⟨p2,h4,Qhx h5 h2,fun he=>?_⟩
 have:p1.g=p2.g:=by omega
 rw[h3 Om,h6 this]
def SLe (σ σ':Pls):Prop:=∀r q,σ r=some q->∃q',σ' r=some q'/\QLe q q'
theorem SLe.refl (σ:Pls):SLe σ σ:=fun _ q h=>⟨q,h,QLe.refl q⟩
theorem Vc.mono {w w':World}{F F':Nat->Prop}{σ σ':Pls}(hF:∀b,F b->F' b)(hh:∀b,F b->w'.heap[b]?=w.heap[b]?)(hs:SLe σ σ')
  {x:AV} {v:Value} (h:Vc w F σ x v):Vc w' F' σ' x v:=by
 induction h with
 |d h=>exact .d (h.mono hF hh)
 |agg hl _ ih=>exact .agg hl ih
 |tup hl _ ih=>exact .tup hl ih
 |ifc _ ih=>exact .ifc ih
 |fn h1 h2 _ _ i1 i2=>exact .fn h1 h2 i1 i2
 |ptr hr h =>
  obtain⟨q',hq,hle⟩:=hs _ _ hr
  refine .ptr hq fun pl' e=>?_
  obtain⟨pl,e1,e2,e3⟩:=hle pl' e
  obtain⟨h1,h2⟩:=h pl e1
  refine⟨Om,fun e4=>?_⟩
  have h5:pl'.g=pl.g:=by omega
  rw[e3 h5];exact h2 Om
 |osl hr h =>
  obtain⟨q',hq,hle⟩:=hs _ _ hr
  refine .osl hq fun pl' e=>?_
  obtain⟨pl,e1,e2,e3⟩:=hle pl' e
  obtain⟨h1,h2⟩:=h pl e1
  refine⟨Om,fun e4=>?_⟩
  have h5:pl'.g=pl.g:=by omega
  rw[e3 h5];exact h2 Om
 |mp hr h =>
  obtain⟨q',hq,hle⟩:=hs _ _ hr
  refine .mp hq fun pl' e e0=>?_
  obtain⟨pl,e1,e2,e3⟩:=hle pl' e
  rw[e3 Om]
  exact h pl e1 Om
 |gd _ h' ih=>exact .gd ih h'
 |junk=>exact .junk
def X9 (w:World)(F:Nat->Prop)(σ:Pls)(e sz g n:Nat)(f:Nat->List AV)(pl:Pl):Prop :=
 pl.g=g/\pl.sz=sz/\(pl.loc=none->n=0)/\(∀i,i<n->(f i).length=sz)/\∀b tot,pl.loc=some (b,tot)->n<=tot/\tot<=maxLen /\
   ∃us:List Value,w.heap[b]?=some (.cells us.toArray e (0,0))/\us.length=tot*sz /\
   ∀(i j:Nat) A,i<n->(f i)[j]?=some A->∃u,us[i*sz+j]?=some u/\Vc w F σ A u/\u.oneCell'=true
def P1 (w:World)(F:Nat->Prop)(sh:Ksh)(has:List Int->Bool)(val:List Int->D)(left:List (List Int))(cur:Option (List Int))(b:Nat):Prop :=
 ∃(bm clock:Nat) (seen:Array Nat) (es:Array MapEntry) (ks:List (List Int)),w.heap[b]?=some (.mapIter (some bm) clock seen clock)/\F bm/\w.heap[bm]?=some (.map es clock)/\ks.length=es.size/\ks.Nodup /\
  (∀(i:Nat) k e,ks[i]?=some k->es[i]?=some e->sh.fits k/\e.key=sh.key k/\has k=true/\Rd w F (val k) e.val)/\(∀k,sh.fits k->has k=true->k∈ks)/\Stp es clock /\
  left.Nodup/\(∀k,k∈left↔∃(i:Nat) (e:MapEntry),ks[i]?=some k/\es[i]?=some e/\seen.contains e.born=false) /\
  ∀k,cur=some k->∃(i:Nat) (e:MapEntry),ks[i]?=some k/\es[i]?=some e/\seen.back?=some e.born
theorem P1.mono {w w':World}{F F':Nat->Prop}(hF:∀b,F b->F' b)(hh:∀b,F b->w'.heap[b]?=w.heap[b]?){sh:Ksh}{has:List Int->Bool}{val:List Int->D}{left:List (List Int)}{cur:Option (List Int)}{b:Nat}(hb:w'.heap[b]?=w.heap[b]?)(h:P1 w F sh has val left cur b):P1 w' F' sh has val left cur b:=by
 obtain⟨bm,clock,seen,es,ks,h1,h2,h3,h4,h5,h6,h7,h8⟩:=h
 exact⟨bm,clock,seen,es,ks,by rw[hb];exact h1,hF _ h2,by rw[hh _ h2];exact h3,h4,h5,fun i k e hi he=>⟨(h6 i k e hi he).1,(h6 i k e hi he).2.1,(h6 i k e hi he).2.2.1,(h6 i k e hi he).2.2.2.mono hF hh⟩,h7,h8⟩
def Jx (w:World)(F:Nat->Prop)(σ:Pls):Blk->Pl->Prop
 | .box e cs,pl=>pl.g=0∧pl.sz=cs.length∧∃ b,pl.loc=some (b,1)∧∃ us:List Value,w.heap[b]?=some (.cells us.toArray e (0,0))∧us.length=cs.length ∧
   ∀(j:Nat) A u,cs[j]?=some A->us[j]?=some u->Vc w F σ A u/\u.oneCell'=true
 | .vec e sz g n f,pl=>pl.g=g∧pl.sz=sz∧(pl.loc=none→n=0)∧(∀ i,i < n→(f i).length=sz)∧∀ b tot,pl.loc=some (b,tot)→n≤tot∧tot≤maxLen ∧
   ∃us:List Value,w.heap[b]?=some (.cells us.toArray e (0,0))/\us.length=tot*sz /\
   ∀(i j:Nat) A,i<n->(f i)[j]?=some A->∃u,us[i*sz+j]?=some u/\Vc w F σ A u/\u.oneCell'=true
 | .loop b r env,pl=>pl.g=0/\pl.loc=some (b,1)/\w.heap[b]?=some (.loop r)/\∀(j:Nat) t A,env[j]?=some (t,A)->Vc w F σ A (r.tmps.getD t undef)
 | .map sh has val,pl=>pl.g=0∧∃ b,pl.loc=some (b,1)∧∃ (es:Array MapEntry) (clock:Nat) (ks:List (List Int)),w.heap[b]?=some (.map es clock)∧ks.length=es.size∧ks.Nodup ∧
   (∀(i:Nat) k e,ks[i]?=some k->es[i]?=some e->sh.fits k/\e.key=sh.key k/\has k=true/\Vc w F σ (val k) e.val)/\(∀k,sh.fits k->has k=true->k∈ks)/\Stp es clock
 | .room e sz g n c f,pl=>X9 w F σ e sz g n f pl/\(pl.loc=none->c=0)/\∀b tot,pl.loc=some (b,tot)->tot=c
 | .ent sh has val key c,pl=>pl.g=0∧∃ b,pl.loc=some (b,1)∧∃ (es:Array MapEntry) (clock:Nat) (ks:List (List Int)),w.heap[b]?=some (.map es clock)∧ks.length=es.size∧ks.Nodup ∧
   (∀(i:Nat) k e,ks[i]?=some k->es[i]?=some e->sh.fits k/\e.key=sh.key k/\has k=true/\(k≠key->Vc w F σ (val k) e.val))/\(∀k,sh.fits k->has k=true->k∈ks)/\Stp es clock /\
   ∃(i:Nat) (e:MapEntry),es[i]?=some e/\ks[i]?=some key/\e.born=c
 | .opq,_=>True
 | .look sh key v hk,pl=>pl.g=0∧∃ b,pl.loc=some (b,1)∧∃ (es:Array MapEntry) (clock:Nat) (ks:List (List Int)),w.heap[b]?=some (.map es clock)∧ks.length=es.size ∧
   (∀(i:Nat) k e,ks[i]?=some k->es[i]?=some e->sh.fits k/\e.key=sh.key k)/\(hk=true->key∈ks)/\∀(i:Nat) e,ks[i]?=some key->es[i]?=some e->Vc w F σ v e.val
 | .iter sh has val left cur,pl=>pl.g=0/\∃b,pl.loc=some (b,1)/\P1 w F sh has val left cur b
def GOk (F:Nat->Prop)(w:World):Prop:=∀g j v,(g,j,v)∈Ro->F g/\w.cell? ⟨g,j,none⟩=some v
theorem GOk.mono {F F':Nat->Prop}{w w':World}(h:GOk F w)(hF:∀b,F b->F' b)(hh:∀b,F b->w'.heap[b]?=w.heap[b]?):GOk F' w':=fun g j v hg=>by
 obtain⟨h1,h2⟩:=h g j v hg
 exact⟨hF g h1,by rw[World.cell?_of_block (w:=w) (hh g h1)];exact h2⟩
structure Q3 (m:Mem)(σ:Pls)(F:Nat->Prop)(w:World):Prop where
 dom:∀r,σ r=none↔m.at r=none
 lv:∀r q,σ r=some q->(q=none->m.at r=some none)/\∀pl,q=some pl->∃B,m.at r=some (some B)/\Jx w F σ B pl
 inj:∀r r' pl pl' b t t',σ r=some (some pl)->σ r'=some (some pl')->pl.loc=some (b,t)->pl'.loc=some (b,t')->r=r'
 nf:∀r pl b t,σ r=some (some pl)->pl.loc=some (b,t)->¬ F b/\b<w.heap.size
 fl:∀b,F b->b<w.heap.size
 gl:GOk F w
theorem X9.mono {w w':World}{F F':Nat->Prop}{σ σ':Pls}(hF:∀b,F b->F' b)(hh:∀b,F b->w'.heap[b]?=w.heap[b]?)(hs:SLe σ σ')
  {e sz g n:Nat} {f:Nat->List AV} {pl:Pl} (hb:∀b t,pl.loc=some (b,t)->w'.heap[b]?=w.heap[b]?) (h:X9 w F σ e sz g n f pl):X9 w' F' σ' e sz g n f pl:=by
 obtain⟨h1,h2,h3,h4,h5⟩:=h
 refine⟨h1,h2,h3,h4,fun b tot hl=>?_⟩
 obtain⟨h6,h6',us,h7,h8,h9⟩:=h5 b tot hl
 refine⟨h6,h6',us,by rw[hb b tot hl];exact h7,h8,fun i j A hi hA=>?_⟩
 obtain⟨u,hu,hv,h1⟩:=h9 i j A hi hA
 exact⟨u,hu,hv.mono hF hh hs,h1⟩
theorem Jx.mono {w w':World}{F F':Nat->Prop}{σ σ':Pls}(hF:∀b,F b->F' b)(hh:∀b,F b->w'.heap[b]?=w.heap[b]?)(hs:SLe σ σ')
  {B:Blk} {pl:Pl} (hb:∀b t,pl.loc=some (b,t)->w'.heap[b]?=w.heap[b]?) (h:Jx w F σ B pl):Jx w' F' σ' B pl:=by
 cases B with
 |box e cs =>
  obtain⟨h1,h2,b,h3,us,h4,h5,h6⟩:=h
  exact⟨h1,h2,b,h3,us,by rw[hb b 1 h3];exact h4,h5,fun j A u hA hu=>⟨(h6 j A u hA hu).1.mono hF hh hs,(h6 j A u hA hu).2⟩⟩
 |vec e sz g n f =>
  obtain⟨h1,h2,h3,h4,h5⟩:=h
  refine⟨h1,h2,h3,h4,fun b tot hl=>?_⟩
  obtain⟨h6,h6',us,h7,h8,h9⟩:=h5 b tot hl
  refine⟨h6,h6',us,by rw[hb b tot hl];exact h7,h8,fun i j A hi hA=>?_⟩
  obtain⟨u,hu,hv,h1⟩:=h9 i j A hi hA
  exact⟨u,hu,hv.mono hF hh hs,h1⟩
 |loop b r env =>
  obtain⟨h1,h2,h3,h4⟩:=h
  exact⟨h1,h2,by rw[hb b 1 h2];exact h3,fun j t A hj=>(h4 j t A hj).mono hF hh hs⟩
 |map sh has val =>
  obtain⟨h1,b,h2,es,clock,ks,h3,h4,h5,h6,h7⟩:=h
  exact⟨h1,b,h2,es,clock,ks,by rw[hb b 1 h2];exact h3,h4,h5,fun i k e hi he=>⟨(h6 i k e hi he).1,(h6 i k e hi he).2.1,(h6 i k e hi he).2.2.1,(h6 i k e hi he).2.2.2.mono hF hh hs⟩,h7⟩
 |room e sz g n c f=>exact⟨X9.mono hF hh hs hb h.1,h.2⟩
 |ent sh has val key c =>
  obtain⟨h1,b,h2,es,clock,ks,h3,h4,h5,h6,h7⟩:=h
  exact⟨h1,b,h2,es,clock,ks,by rw[hb b 1 h2];exact h3,h4,h5,fun i k e hi he=>⟨(h6 i k e hi he).1,(h6 i k e hi he).2.1,(h6 i k e hi he).2.2.1,fun hk=>((h6 i k e hi he).2.2.2 hk).mono hF hh hs⟩,h7⟩
 |opq=>exact h
 |iter sh has val left cur =>
  obtain⟨h1,b,h2,h3⟩:=h
  exact⟨h1,b,h2,h3.mono hF hh (hb b 1 h2)⟩
 |look sh key v hk =>
  obtain⟨h1,b,h2,es,clock,ks,h3,h4,h5,h6,h7⟩:=h
  exact⟨h1,b,h2,es,clock,ks,by rw[hb b 1 h2];exact h3,h4,h5,h6,fun i e hi he=>(h7 i e hi he).mono hF hh hs⟩
theorem Q3.world {m:Mem}{σ:Pls}{F:Nat->Prop}{w w':World}(h:Q3 m σ F w)(hsz:w.heap.size<=w'.heap.size)
  (hk:∀b,(F b\/∃r pl t,σ r=some (some pl)/\pl.loc=some (b,t))->w'.heap[b]?=w.heap[b]?):Q3 m σ F w' where
 dom:=h.dom
 lv r q hq:=⟨(h.lv r q hq).1,fun pl e=>by
  obtain⟨B,hB,hok⟩:=(h.lv r q hq).2 pl e
  exact⟨B,hB,hok.mono (fun _ h=>h) (fun b hb=>hk b (.inl hb)) (SLe.refl σ) (fun b t hl=>hk b (.inr ⟨r,pl,t,by rw[hq,e],hl⟩))⟩⟩
 inj:=h.inj
 nf r pl b t h1 h2:=⟨(h.nf r pl b t h1 h2).1,Qic (h.nf r pl b t h1 h2).2 hsz⟩
 fl b hb:=Qic (h.fl b hb) hsz
 gl:=h.gl.mono (fun _ h=>h) fun b hb=>hk b (.inl hb)
def Lc (P:Program)(g:TypeId->Option (List IntKind)):List Field->Nat->Option (List IntKind)
 |[],_=>some []
 | f :: r,o=>match g f.type with
  |some ks=>match P.info? f.type with
   |some i=>if f.name≠ "_"/\f.offset=o/\i.size=ks.length then(Lc P g r (o+ks.length)).map (ks ++ ·) else none
   |none=>none
  |none=>none
def Vq (P:Program):Nat→TypeId→Option (List IntKind)
 |0,_=>none
 | n + 1,t=>match P.underlying t with
  |some (.int k)=>some [k]
  | some (.array m e)=>match Vq P n e with
   |some ks=>match P.info? e with
    |some i=>if i.size=ks.length then some (List.replicate m ks).flatten else none
    |none=>none
   |none=>none
  |some (.struct fs)=>if P.stoodInHeld t then none else Lc P (Vq P n) fs.toList 0
  |_=>none
def Q5 (ks:List IntKind)(l:List Int):List Value:=List.zipWith Value.int ks l
theorem Kg {ks:List IntKind}{l:List Int}(h:l.length=ks.length):(Q5 ks l).length=ks.length:=by
 simp[Q5,h]
theorem Bf {ks ks':List IntKind}{l l':List Int}(h:l.length=ks.length):Q5 (ks++ks') (l++l')=Q5 ks l++Q5 ks' l':=by
 unfold Q5
 exact List.zipWith_append h.symm
theorem Re {ks ks':List IntKind}{l:List Int}(h:l.length=(ks++ks').length):∃a b,l=a++b/\a.length=ks.length/\b.length=ks'.length:=by
 rw[Qhc]at h
 exact⟨l.take ks.length,l.drop ks.length,(Qil _ _).symm,by rw[Qhr];omega,by rw[List.length_drop];omega⟩
def Xl (P:Program)(t:TypeId)(us:List Value):Value :=
 match P.underlying t with
 |some (.int _)=>us.headD undef
 |_=>.agg us.toArray
section
variable {P:Program}
theorem Rw {n:Nat}{t:TypeId}{ks:List IntKind}(h:Vq P n t=some ks){i:TypeInfo}(hi:P.info? t=some i)(hs:i.size=ks.length){l:List Int}(hl:l.length=ks.length)
  (pre post:List Value) (w:World):(part t (pre++(Q5 ks l++post)).toArray pre.length).run P w=.ok (Xl P t (Q5 ks l)) w:=by
 cases n with
 |zero=>simp[Vq]at h
 | succ n =>
  have hc:P.cellsOf t=ks.length:=by simp[Program.cellsOf,hi,hs]
  have ex:((pre++(Q5 ks l++post)).toArray.extract pre.length (pre.length+ks.length))=(Q5 ks l).toArray:=by
   rw[List.extract_toArray,List.extract_eq_take_drop]
   rw[List.drop_left,Nat.add_sub_cancel_left,<-Kg hl,List.take_left]
  unfold Vq at h
  split at h
  .rename_i k hu
   simp only[Qgz]at h
   subst h
   match l,hl with
   |[a],_=>simp[part,isAgg,run_underlying hu,Xl,hu,Q5]
  .rename_i m e hu
   simp only[part,isAgg,Sem.run_bind,run_underlying hu,Result.andThen_ok,Sem.run_pure,Sem.run_ite,run_sizeOf w hi,hc,ex,Xl,hu]
   simp
  .rename_i fs hu
   simp only[part,isAgg,Sem.run_bind,run_underlying hu,Result.andThen_ok,Sem.run_pure,Sem.run_ite,run_sizeOf w hi,hc,ex,Xl,hu]
   simp
  .cases h
theorem On {a a' b b':List Int}(h:a.length=a'.length):decide (a++b=a'++b')=(decide (a=a')&&decide (b=b')):=by
 rw[Bool.eq_iff_iff,Qh5,Qia,Qia,Qia]
 exact⟨fun e=>List.append_inj e h,fun⟨e1,e2⟩=>by rw[e1,e2]⟩
def EqK (P:Program)(t:TypeId)(ks:List IntKind)(d:Nat):Prop:=∀(l l':List Int),l.length=ks.length->l'.length=ks.length->∀w,(Op.equalIn d t (Xl P t (Q5 ks l)) (Xl P t (Q5 ks l'))).run P w=.ok (decide (l=l')) w
theorem Q04 {n d:Nat}(ih:∀t ks,Vq P n t=some ks->EqK P t ks d):∀(fs:List Field) (ks:List IntKind) (pre pre':List Value),Lc P (Vq P n) fs pre.length=some ks->pre'.length=pre.length ->
  ∀(l l':List Int),l.length=ks.length->l'.length=ks.length->∀w,(Op.eqFields d (pre++Q5 ks l).toArray (pre'++Q5 ks l').toArray fs).run P w=.ok (decide (l=l')) w
 |[],ks,pre,pre',h,hp,l,l',hl,hl',w=>by
  simp[Lc]at h
  subst h
  simp at hl hl'
  subst hl;subst hl'
  simp[Op.eqFields]
 |f::r,ks,pre,pre',h,hp,l,l',hl,hl',w=>by
  simp only[Lc]at h
  split at h<;>try (cases h;done)
  rename_i k1 hk1
  split at h<;>try (cases h;done)
  rename_i i hi
  split at h<;>try (cases h;done)
  rename_i hc
  obtain⟨c1,c2,c3⟩:=hc
  rw[Qif]at h
  obtain⟨k2,hk2,rfl⟩:=h
  obtain⟨a,b,rfl,ha,hb⟩:=Re hl
  obtain⟨a',b',rfl,ha',hb'⟩:=Re hl'
  rw[Bf ha,Bf ha']
  have p1:=Rw hk1 hi c3 ha pre (Q5 k2 b) w
  have p2:=Rw hk1 hi c3 ha' pre' (Q5 k2 b') w
  have p3:=ih _ _ hk1 a a' ha ha' w
  rw[<-c2]at p1
  rw[hp,<-c2]at p2
  have hrec:=Q04 ih r k2 (pre++Q5 k1 a) (pre'++Q5 k1 a') (by rw[Qhc,Kg ha];exact hk2) (by simp[Kg ha,Kg ha',hp]) b b' hb hb' w
  rw[List.append_assoc,List.append_assoc]at hrec
  simp only[Op.eqFields,ne_eq,c1,not_false_eq_true,if_true,Sem.run_bind,p1,p2,p3,Result.andThen_ok,Sem.run_ite]
  rw[On (by rw[ha,ha'])]
  cases hd:decide (a=a')
  .simp
  .simpa using hrec
theorem Q06 {e:TypeId}{n d:Nat}{ks:List IntKind}{i:TypeInfo}(hk:Vq P n e=some ks)(hi:P.info? e=some i)(hs:i.size=ks.length)(ih:EqK P e ks d):∀(m j:Nat) (pre pre':List Value),pre.length=j*ks.length->pre'.length=j*ks.length ->
  ∀(l l':List Int),l.length=((List.replicate m ks).flatten).length->l'.length=((List.replicate m ks).flatten).length->∀w,
   (Op.eqItems d e (P.cellsOf e) (pre++Q5 (List.replicate m ks).flatten l).toArray (pre'++Q5 (List.replicate m ks).flatten l').toArray (List.range' j m)).run P w=.ok (decide (l=l')) w
 |0,j,pre,pre',hp,hp',l,l',hl,hl',w=>by
  simp at hl hl'
  subst hl;subst hl'
  simp[Op.eqItems]
 |m+1,j,pre,pre',hp,hp',l,l',hl,hl',w=>by
  have hc:P.cellsOf e=ks.length:=by simp[Program.cellsOf,hi,hs]
  rw[List.replicate_succ,List.flatten_cons]at hl hl'⊢
  obtain⟨a,b,rfl,ha,hb⟩:=Re hl
  obtain⟨a',b',rfl,ha',hb'⟩:=Re hl'
  rw[Bf ha,Bf ha']
  have p1:=Rw hk hi hs ha pre (Q5 (List.replicate m ks).flatten b) w
  have p2:=Rw hk hi hs ha' pre' (Q5 (List.replicate m ks).flatten b') w
  have p3:=ih a a' ha ha' w
  rw[hp]at p1
  rw[hp']at p2
  have hrec:=Q06 hk hi hs ih m (j+1) (pre++Q5 ks a) (pre'++Q5 ks a') (by rw[Qhc,Kg ha,hp,Nat.succ_mul]) (by rw[Qhc,Kg ha',hp',Nat.succ_mul]) b b' hb hb' w
  rw[List.append_assoc,List.append_assoc]at hrec
  rw[hc]at hrec⊢
  simp only[List.range'_succ,Op.eqItems,Sem.run_bind,p1,p2,p3,Result.andThen_ok,Sem.run_ite]
  rw[On (by rw[ha,ha'])]
  cases hd:decide (a=a')
  .simp
  .simpa using hrec
theorem Ti:∀(n:Nat) (t:TypeId) (ks:List IntKind),Vq P n t=some ks->∀d,n<=d->EqK P t ks d
 |0,t,ks,h,d,hd=>by simp[Vq]at h
 | n + 1,t,ks,h,d,hd=>by
  obtain⟨d,rfl⟩:∃d',d=d'+1:=⟨d-1,Om⟩
  intro l l' hl hl' w
  unfold Vq at h
  split at h
  .rename_i k hu
   simp only[Qgz]at h
   subst h
   match l,l',hl,hl' with
   |[a],[b],_,_ =>
    simp only[Xl,hu,Q5,List.zipWith_cons_cons,List.headD_cons]
    rw[run_equalIn_int w d t k k a b hu]
    congr 1
    by_cases e:a=b<;>simp[e]
  .rename_i m e hu
   split at h<;>try (cases h;done)
   rename_i k1 hk1
   split at h<;>try (cases h;done)
   rename_i i hi
   split at h<;>try (cases h;done)
   rename_i hs
   simp only[Qgz]at h
   subst h
   simp only[Xl,hu]
   rw[run_equalIn_array (w:=w) d _ _ hu hi,List.range_eq_range']
   simpa using Q06 hk1 hi hs (Ti n e k1 hk1 d Om) m 0 [] [] (by simp) (by simp) l l' hl hl' w
  .rename_i fs hu
   split at h<;>try (cases h;done)
   rename_i hst
   have hfo:P.fieldsOf t=fs:=by simp[Program.fieldsOf,hu]
   simp only[Xl,hu]
   rw[run_equalIn_struct w d t _ _ (by rw[hfo];exact hu) (by simpa using hst),hfo]
   simpa using Q04 (fun t ks h=>Ti n t ks h d Om) fs.toList ks [] [] h rfl l l' hl hl' w
  .cases h
theorem Oy {n:Nat}:∀(fs:List Field) (ks:List IntKind) (pre:List Value),Lc P (Vq P n) fs pre.length=some ks->∀l:List Int,l.length=ks.length ->
  ∀f∈fs,f.name≠ "_"/\∃k1 a,Vq P n f.type=some k1/\a.length=k1.length/\∀w,(part f.type (pre++Q5 ks l).toArray f.offset).run P w=.ok (Xl P f.type (Q5 k1 a)) w
 |[],ks,pre,h,l,hl,f,hf=>by simp at hf
 | f0 :: r,ks,pre,h,l,hl,f,hf=>by
  simp only[Lc]at h
  split at h<;>try (cases h;done)
  rename_i k1 hk1
  split at h<;>try (cases h;done)
  rename_i i hi
  split at h<;>try (cases h;done)
  rename_i hc
  obtain⟨c1,c2,c3⟩:=hc
  rw[Qif]at h
  obtain⟨k2,hk2,rfl⟩:=h
  obtain⟨a,b,rfl,ha,hb⟩:=Re hl
  rw[Bf ha]
  rcases Qho.1 hf with rfl|hf
  .exact⟨c1,k1,a,hk1,ha,fun w=>by rw[c2];exact Rw hk1 hi c3 ha pre (Q5 k2 b) w⟩
  .have hrec:=Oy r k2 (pre++Q5 k1 a) (by rw[Qhc,Kg ha];exact hk2) b hb f hf
   rwa [List.append_assoc]at hrec
theorem Oz {e:TypeId}{n:Nat}{ks:List IntKind}{i:TypeInfo}(hk:Vq P n e=some ks)(hi:P.info? e=some i)(hs:i.size=ks.length):∀(m j:Nat) (pre:List Value),pre.length=j*ks.length ->
  ∀l:List Int,l.length=((List.replicate m ks).flatten).length->∀k∈List.range' j m,∃a,a.length=ks.length/\∀w,(part e (pre++Q5 (List.replicate m ks).flatten l).toArray (k*P.cellsOf e)).run P w=.ok (Xl P e (Q5 ks a)) w
 |0,j,pre,hp,l,hl,k,hk=>by simp at hk
 | m + 1,j,pre,hp,l,hl,k,hkm=>by
  have hc:P.cellsOf e=ks.length:=by simp[Program.cellsOf,hi,hs]
  rw[List.replicate_succ,List.flatten_cons]at hl⊢
  obtain⟨a,b,rfl,ha,hb⟩:=Re hl
  rw[Bf ha]
  rw[List.range'_succ]at hkm
  rcases Qho.1 hkm with rfl|hkm
  .exact⟨a,ha,fun w=>by rw[hc,<-hp];exact Rw hk hi hs ha pre (Q5 (List.replicate m ks).flatten b) w⟩
  .have hrec:=Oz hk hi hs m (j+1) (pre++Q5 ks a) (by rw[Qhc,Kg ha,hp,Nat.succ_mul]) b hb k hkm
   rwa [List.append_assoc]at hrec
def ChK (P:Program)(em:Bool)(t:TypeId)(ks:List IntKind)(d:Nat):Prop:=∀(l:List Int),l.length=ks.length->∀w,(Instr.checkKey em d t (Xl P t (Q5 ks l))).run P w=.ok () w
theorem T4 (em:Bool):∀(n:Nat) (t:TypeId) (ks:List IntKind),Vq P n t=some ks->∀d,n<=d->ChK P em t ks d
 |0,t,ks,h,d,hd=>by simp[Vq]at h
 | n + 1,t,ks,h,d,hd=>by
  obtain⟨d,rfl⟩:∃d',d=d'+1:=⟨d-1,Om⟩
  intro l hl w
  unfold Vq at h
  split at h
  .rename_i k hu
   simp only[Qgz]at h
   subst h
   match l,hl with
   |[a],_=>simp[Xl,hu,Q5,Instr.checkKey,run_underlying hu]
  .rename_i m e hu
   split at h<;>try (cases h;done)
   rename_i k1 hk1
   split at h<;>try (cases h;done)
   rename_i i hi
   split at h<;>try (cases h;done)
   rename_i hs
   simp only[Qgz]at h
   subst h
   have hc:P.cellsOf e=k1.length:=by simp[Program.cellsOf,hi,hs]
   simp only[Xl,hu]
   rw[Instr.checkKey]
   simp only[Sem.run_bind,run_underlying hu,Result.andThen_ok]
   simp only[Std.Legacy.Range.forIn_eq_forIn_range',Std.Legacy.Range.size,Nat.sub_zero,Nat.add_one_sub_one,Nat.div_one]
   have IH:=T4 em n e k1 hk1 d Om
   have each:=Oz hk1 hi hs m 0 [] (by simp) l hl
   simp only[List.nil_append]at each
   generalize List.range' 0 m=is at each
   induction is with
   |nil=>simp
   |cons j is ih =>
    obtain⟨a,ha,p1⟩:=each j (by simp)
    have p2:=IH a ha
    simp only[List.forIn_cons,Sem.run_bind,run_sizeOf w hi,Result.andThen_ok,p1,p2,Sem.run_pure]
    exact ih (fun y hy=>each y (by simp[hy]))
  .rename_i fs hu
   split at h<;>try (cases h;done)
   simp only[Xl,hu]
   rw[Instr.checkKey]
   simp only[Sem.run_bind,run_underlying hu,Result.andThen_ok]
   rw[<-Array.forIn_toList]
   have IH:=fun t ks h=>T4 em n t ks h d Om
   have each:=Oy fs.toList ks [] h l hl
   simp only[List.nil_append]at each
   clear hu h
   generalize fs.toList=L at each
   induction L with
   |nil=>simp
   |cons f L ih =>
    obtain⟨hn,k1,a,hk1,ha,p1⟩:=each f (by simp)
    have p2:=IH _ _ hk1 a ha
    simp only[List.forIn_cons,Sem.run_bind,hn,ne_eq,not_false_eq_true,if_true,Result.andThen_ok,p1,p2,Sem.run_pure]
    exact ih (fun y hy=>each y (by simp[hy]))
  .cases h
theorem O1:∀(ks:List IntKind) (l:List Int) (n:Nat),(((Q5 ks l).zip (Q5 ks l)).all fun(x,y)=>Instr.sameBits n x y)=true
 |[],l,n=>by simp[Q5]
 |k::r,[],n=>by simp[Q5]
 |k::r,a::l,n=>by
  have:=O1 r l n
  simp only[Q5,List.zipWith_cons_cons,List.zip_cons_cons,Qi5]at this⊢
  rw[this,Bool.and_true]
  cases n<;>simp[Instr.sameBits]
def Hj (P:Program)(kt:TypeId)(ks:List IntKind):Prop:=Vq P 8 kt=some ks/\(match P.underlying kt with|some (.int _)=>False|_=>True)
theorem Hj.val {kt:TypeId}{ks:List IntKind}(h:Hj P kt ks)(us:List Value):Xl P kt us=.agg us.toArray:=by
 have:=h.2
 unfold Xl
 split at this
 .exact this.elim
 .rfl
theorem Qbj {kt:TypeId}{ks:List IntKind}(h:Hj P kt ks){l:List Int}(hl:l.length=ks.length)(b:Bool)(w:World):(Instr.checkKey b 10000 kt (.agg (Q5 ks l).toArray)).run P w=.ok () w:=by
 rw[<-h.val]
 exact T4 b 8 kt ks h.1 10000 Om l hl w
theorem Qbm (ks:List IntKind)(l:List Int)(w:World):(Instr.keyThatStays (.agg (Q5 ks l).toArray) (.agg (Q5 ks l).toArray)).run P w=.ok (.agg (Q5 ks l).toArray) w:=by
 have h:Instr.sameBits 10000 (.agg (Q5 ks l).toArray) (.agg (Q5 ks l).toArray)=true:=by
  show((Q5 ks l).toArray.size==(Q5 ks l).toArray.size&&_)=true
  rw[beq_self_eq_true,Qhy]
  exact O1 ks l 9999
 simp only[Instr.keyThatStays,h,if_true,Sem.run_pure]
theorem Qbk {kt:TypeId}{ks:List IntKind}(h:Hj P kt ks){l l':List Int}(hl:l.length=ks.length)(hl':l'.length=ks.length)(w:World) :
  (Op.equal kt (.agg (Q5 ks l).toArray) (.agg (Q5 ks l').toArray)).run P w=.ok (decide (l=l')) w:=by
 rw[<-h.val,<-h.val]
 exact Ti 8 kt ks h.1 10000 Om l l' hl hl' w
theorem Q1t {kt:TypeId}{ks:List IntKind}(h:Hj P kt ks){k:List Int}(hk:k.length=ks.length):∀(es:List MapEntry) (kl:List (List Int)) (i:Nat),kl.length=es.length ->
  (∀(j:Nat) k e,kl[j]?=some k->es[j]?=some e->k.length=ks.length/\e.key=.agg (Q5 ks k).toArray) ->
  (k ∉ kl/\∀w,(Instr.findAsking kt (.agg (Q5 ks k).toArray) es i).run P w=.ok none w) \/
  ∃j e,es[j]?=some e/\kl[j]?=some k/\∀w,(Instr.findAsking kt (.agg (Q5 ks k).toArray) es i).run P w=.ok (some (i+j,e.val)) w
 |[],[],i,_,_=>.inl ⟨by simp,by simp[Instr.findAsking]⟩
 | e :: es,k' :: kl,i,hl,ha=>by
  obtain⟨h1,h2⟩:=ha 0 k' e rfl rfl
  have he:=Qbk h hk h1
  rw[<-h2]at he
  by_cases hkk:k=k'
  .refine .inr ⟨0,e,rfl,by simp[hkk],fun w=>?_⟩
   rw[Qh8 hkk]at he
   simp[Instr.findAsking,he w]
  .rw[Qh0 hkk]at he
   rcases Q1t h hk es kl (i+1) (by simpa using hl) (fun j k e hj he=>ha (j+1) k e (by simpa using hj) (by simpa using he)) with ⟨g1,g2⟩|⟨j,e',g1,g2,g3⟩
   .exact .inl ⟨by simp[hkk,g1],fun w=>by simp[Instr.findAsking,he w,g2 w]⟩
   .exact .inr ⟨j+1,e',by simpa using g1,by simpa using g2,fun w=>by simp[Instr.findAsking,he w,g3 w,Nat.add_assoc,Nat.add_comm 1 j]⟩
 |[],_::_,i,hl,_=>by simp at hl
 |_::_,[],i,hl,_=>by simp at hl
theorem Qbl {kt:TypeId}{ks:List IntKind}(h:Hj P kt ks){k:List Int}(hk:k.length=ks.length)(es:List MapEntry)(kl:List (List Int))(hl:kl.length=es.length)
  (ha:∀(j:Nat) k e,kl[j]?=some k->es[j]?=some e->k.length=ks.length/\e.key=.agg (Q5 ks k).toArray) :
  (k ∉ kl/\∀w,(Instr.findKey kt (.agg (Q5 ks k).toArray) es).run P w=.ok none w) \/
  ∃j e,es[j]?=some e/\kl[j]?=some k/\∀w,(Instr.findKey kt (.agg (Q5 ks k).toArray) es).run P w=.ok (some (j,e.val)) w:=by
 obtain⟨td,hu⟩:∃td,P.underlying kt=some td:=by
  cases hu:P.underlying kt with
  |none=>have:=h.1;simp[Vq,hu]at this
  |some d=>exact⟨d,rfl⟩
 have hnow:∀e r i,Instr.findNow td (.agg (Q5 ks k).toArray) (e::r) i=none:=fun e r i=>by
  simp[Instr.findNow,Instr.sameNow]
 cases es with
 |nil =>
  cases kl with
  |nil=>exact .inl ⟨by simp,fun w=>by simp[Instr.findKey,run_underlying hu,Instr.findNow]⟩
  |cons=>simp at hl
 | cons e r =>
  have hf:∀w,(Instr.findKey kt (.agg (Q5 ks k).toArray) (e::r)).run P w=(Instr.findAsking kt (.agg (Q5 ks k).toArray) (e::r)).run P w:=fun w=>by
   simp[Instr.findKey,run_underlying hu,hnow]
  rcases Q1t h hk (e::r) kl 0 hl ha with ⟨g1,g2⟩|⟨j,e',g1,g2,g3⟩
  .exact .inl ⟨g1,fun w=>by rw[hf];exact g2 w⟩
  .exact .inr ⟨j,e',g1,g2,fun w=>by rw[hf,g3 w,Qh9]⟩
end
theorem Qgp {P:Program}{w w':World}{a:Addr}{u:TypeId}{k:Addr}{v:Value}{at_:Bool}{l:List Addr}(h:w.viewStore P a u k v at_=.ok (w',l)):w'.drawn=w.drawn:=by
 simp only[World.viewStore,bind,Except.bind,pure,Except.pure]at h
 repeat' (split at h<;>try (cases h;done))
 all_goals (injection h with h;injection h with h1 h2;subst h1;rfl)
theorem Cx {α:Type}:∀(q:Ask α) (w:World),w.drawn<=(w.ask q).2.drawn
 | .done a,w=>Qgx _
 | .ask what range k,w=>by
  rw[World.ask]
  split
  .exact Cx (k 0) w
  .exact Qhx (Nat.le_succ _) (Cx (k _) {w with drawn:=w.drawn+1})
theorem Qfy (w:World)(c:Sys):w.drawn<=(w.sys c).2.drawn:=by
 have h:=Cx (Kernel.perform c w.os) w
 unfold World.sys
 split
 .exact Qgx _
 .rename_i r os w1 hne e
  rw[e]at h
  exact h
theorem Vx {α:Type}{P:Program}:∀(s:Sem α) {w w':World} {x:α},s.run P w=.ok x w'->w.drawn<=w'.drawn
 | .pure a,w,w',x,h=>by
  simp only[Sem.run]at h
  injection h with _ h
  rw[h];exact Qgx _
 | .load m a k,w,w',x,h=>by
  simp only[Sem.run]at h
  split at h
  .exact Vx _ h
  .split at h
   .exact Vx _ h
   .cases h
 | .store m a v k,w,w',x,h=>by
  have main:(match w.cell? a with
    |some _=>if w.frozen? a then(.halt (.unsupported (.unsafePointer "a write to bytes that a string shares")) w:Result α) else k.run P (w.setCell a v)
    |none=>match World.farStore P w a v (m==Mode.atomic) with
     | .ok (w,_)=>k.run P w
     | .error h=>.halt h w)=.ok x w'->w.drawn<=w'.drawn:=fun h=>by
   split at h
   .split at h
    .cases h
    .have h1:=Vx k h
     exact h1
   .split at h
    .rename_i w1 l e
     have h1:=Vx k h
     unfold World.farStore at e
     split at e
     .split at e
      .rename_i r er
       injection e with e
       subst e
       have:=Qgp er
       omega
      .cases e
     .cases e
    .cases h
  cases v<;>first
   |exact main h
   |cases h
 | .new o k,w,w',x,h=>by
  simp only[Sem.run]at h
  have h1:=Vx _ h
  exact h1
 | .shape r k,w,w',x,h=>by
  simp only[Sem.run]at h
  exact Vx _ h
 | .freeze a n k,w,w',x,h=>by
  simp only[Sem.run]at h
  have h1:=Vx _ h
  refine Qhx ?_ h1
  unfold World.freeze
  repeat' split
  all_goals exact Qgx _
 | .frozen a k,w,w',x,h=>by
  simp only[Sem.run]at h
  exact Vx _ h
 | .getObj r k,w,w',x,h=>by
  simp only[Sem.run]at h
  split at h
  .cases h
  .exact Vx _ h
  .cases h
 | .setObj r o k,w,w',x,h=>by
  simp only[Sem.run]at h
  split at h
  .cases h
  .have h1:=Vx k h
   exact h1
  .cases h
 | .choose q k,w,w',x,h=>by
  simp only[Sem.run]at h
  split at h
  .exact Vx _ h
  .exact Qhx (Nat.le_succ _) (Vx _ h)
 | .sys c k,w,w',x,h=>by
  simp only[Sem.run]at h
  exact Qhx (Qfy w c) (Vx _ h)
 | .program k,w,w',x,h=>by
  simp only[Sem.run]at h
  exact Vx _ h
 | .mark m k,w,w',x,h=>by
  simp only[Sem.run]at h
  exact Vx k h
 | .halt h0,w,w',x,h=>by
  simp only[Sem.run]at h
  cases h
end Go.Ab
