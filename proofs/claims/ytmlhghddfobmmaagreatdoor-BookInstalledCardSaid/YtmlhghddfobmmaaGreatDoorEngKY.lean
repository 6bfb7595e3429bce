import Derived.Calls
import Derived.KernelRfl
import Derived.Tactics
import Derived.Laws.World
import Derived.Laws.Entries
import Derived.Below
import Derived.IntWalk
import Derived.Maps.AppendAt
import Derived.ChangeKeysEq
import Derived.Laws.StructEq
import Derived.MapKept
namespace Go.Ab
theorem Tt:True:=True.intro
theorem Om{p:Prop}(h:p:=by omega):p:=h
theorem Dc{p:Prop}(h:p:=by decide):p:=h
theorem Kr{p:Prop}(h:p:=by kernel_rfl):p:=h
def globs : List (Nat × Nat × Value) := [(0, 0, .bool false), (0, 1, .bool false), (0, 2, .bool false), (0, 3, .bool false), (0, 4, .nilFunc), (0, 5, .nilFunc), (0, 6, .bool false), (0, 7, .bool false), (0, 8, .bool false), (0, 9, .bool true), (0, 10, .func (.func 260) #[] #[]), (0, 11, .func (.func 261) #[] #[]), (0, 12, .bool false), (0, 13, .bool false), (0, 14, .bool false), (0, 15, .bool true), (0, 16, .func (.func 262) #[] #[]), (0, 17, .func (.func 263) #[] #[]), (0, 18, .bool false), (0, 19, .bool true), (0, 20, .bool false), (0, 21, .bool true), (0, 22, .func (.func 264) #[] #[]), (0, 23, .func (.func 265) #[] #[]), (0, 24, .bool false), (0, 25, .bool false), (0, 26, .bool false), (0, 27, .bool true), (0, 28, .func (.func 266) #[] #[]), (0, 29, .func (.func 267) #[] #[]), (0, 30, .bool true), (0, 31, .bool true), (0, 32, .bool false), (0, 33, .bool false), (0, 34, .func (.func 268) #[] #[]), (0, 35, .func (.func 270) #[] #[]), (0, 36, .bool true), (0, 37, .bool true), (0, 38, .bool false), (0, 39, .bool false), (0, 40, .func (.func 272) #[] #[]), (0, 41, .func (.func 273) #[] #[]), (0, 42, .bool false), (0, 43, .bool true), (0, 44, .bool false), (0, 45, .bool false), (0, 46, .func (.func 274) #[] #[]), (0, 47, .func (.func 275) #[] #[]), (0, 48, .bool false), (0, 49, .bool true), (0, 50, .bool true), (0, 51, .bool false), (0, 52, .func (.func 276) #[] #[]), (0, 53, .func (.func 278) #[] #[]), (0, 54, .bool true), (0, 55, .bool false), (0, 56, .bool false), (0, 57, .bool false), (0, 58, .func (.func 269) #[] #[]), (0, 59, .func (.func 280) #[] #[])]
def exts : List Nat := []
def slcs : List Nat := [54]
set_option linter.unusedSimpArgs false
set_option linter.unusedVariables false
inductive Ksh:Type where
 |one (k:IntKind)
 |many (ks:List IntKind)
 |str
def bytesI (s:ByteArray):List Int:=s.data.toList.map fun b=>(b.toNat:Int)
def strI (l:List Int):ByteArray:=⟨(l.map fun n=>UInt8.ofNat n.toNat).toArray⟩
theorem strI_bytesI (s:ByteArray):strI (bytesI s)=s:=by
 unfold strI bytesI
 rw[List.map_map]
 have:((fun n:Int=>UInt8.ofNat n.toNat)∘fun b:UInt8=>(b.toNat:Int))=id:=by
  funext b
  simp
 rw[this]
 simp
theorem bytesI_strI {l:List Int}(h:∀x∈l,0<=x/\x<256):bytesI (strI l)=l:=by
 unfold strI bytesI
 simp only[List.map_map]
 refine(List.map_congr_left fun x hx=>?_).trans (List.map_id l)
 obtain⟨h1,h2⟩:=h x hx
 simp only[Function.comp,UInt8.toNat_ofNat',id]
 omega
theorem bytesI_fits (s:ByteArray):∀x∈bytesI s,0<=x/\x<256:=by
 intro x hx
 obtain⟨b,_,rfl⟩:=List.mem_map.1 hx
 have:=b.toNat_lt
 omega
def Ksh.fits:Ksh->List Int->Prop
 | .one _,l=>l.length=1
 | .many ks,l=>l.length=ks.length
 | .str,l=>∀x∈l,0<=x/\x<256
def Ksh.key:Ksh->List Int->Value
 | .one k,l=>.int k (l.headD 0)
 | .many ks,l=>.agg (List.zipWith Value.int ks l).toArray
 | .str,l=>.string (strI l)
inductive D:Type where
 |int (k:IntKind) (n:Int)
 |bool (b:Bool)
 |str (s:ByteArray)
 |nilp|nili|nilf|nilm|nils
 |agg (cs:List D)
 |ifc (t:TypeId) (x:D)
 |sl (sz n:Nat) (f:Nat->List D)
 |pt (cs:List D) (off:Nat)
 |fn (f:Fn) (first cap:List D)
 |mapd (sh:Ksh) (has:List Int->Bool) (val:List Int->D)
 |slc (sz n:Nat) (f:Nat->List D)
inductive Ref:Type where
 |loc (j:Nat)
 |arg (j:Nat)
 |bad
 deriving DecidableEq
inductive AV:Type where
 |d (x:D)
 |agg (cs:List AV)
 |tup (vs:List AV)
 |ifc (t:TypeId) (x:AV)
 |fn (f:Fn) (first cap:List AV)
 |ptr (r:Ref) (g i off:Nat)
 |osl (r:Ref) (g off n:Nat)
 |mp (r:Ref)
 |gd (b:Bool) (x:AV)
 |junk
inductive Blk:Type where
 |box (e:TypeId) (cs:List AV)
 |vec (e:TypeId) (sz g n:Nat) (f:Nat->List AV)
 |loop (b:Nat) (r:Loop) (env:List (Nat × AV))
 |map (sh:Ksh) (has:List Int->Bool) (val:List Int->AV)
 |room (e:TypeId) (sz g n c:Nat) (f:Nat->List AV)
 |ent (sh:Ksh) (has:List Int->Bool) (val:List Int->AV) (key:List Int) (c:Nat)
 |opq
 |iter (sh:Ksh) (has:List Int->Bool) (val:List Int->D) (left:List (List Int)) (cur:Option (List Int))
 |look (sh:Ksh) (key:List Int) (v:AV) (hk:Bool)
structure Mem where
 loc:List (Option Blk)
 own:List (Option Blk)
def Mem.at (m:Mem):Ref->Option (Option Blk)
 | .loc j=>m.loc[j]?
 | .arg j=>m.own[j]?
 | .bad=>none
def Stp (es:Array MapEntry)(clock:Nat):Prop:=(∀x∈es.toList,x.born<clock)/\(es.toList.map (·.born)).Nodup
inductive Rd (w:World)(F:Nat->Prop):D->Value->Prop where
 |int {k n}:Rd w F (.int k n) (.int k n)
 |bool {b}:Rd w F (.bool b) (.bool b)
 |str {s}:Rd w F (.str s) (.string s)
 |nilp:Rd w F .nilp (.pointer none)
 |nili:Rd w F .nili .nilIface
 |nilf:Rd w F .nilf .nilFunc
 |nilm:Rd w F .nilm (.map none)
 |nils:Rd w F .nils (.slice none 0 0)
 |agg {cs:List D} {us:List Value} (hl:us.length=cs.length) (h:∀(j:Nat) x u,cs[j]?=some x->us[j]?=some u->Rd w F x u):Rd w F (.agg cs) (.agg us.toArray)
 |ifc {t x u} (h:Rd w F x u):Rd w F (.ifc t x) (.iface t u)
 | sl {sz n f} {A:Option Addr} {cap:Nat} (a:Addr) (g:Nat→Nat→Value) (hc:n≤cap) (ha:0 < n→A=some a∧F a.block)
   (hl:∀i,i<n->(f i).length=sz) (hcell:∀i j,i<n->j<sz->w.cell? (a.add (i*sz+j))=some (g i j)/\(g i j).oneCell'=true)
   (h:∀(i j:Nat) x,i<n->(f i)[j]?=some x->Rd w F x (g i j)):Rd w F (.sl sz n f) (.slice A n cap)
 | pt {cs:List D} {off} (a:Addr) (g:Nat→Value) (ha:F a.block) (hcell:∀ j,j < cs.length→w.cell? (a.add j)=some (g j)∧(g j).oneCell'=true)
   (h:∀(j:Nat) x,cs[j]?=some x->Rd w F x (g j)):Rd w F (.pt cs off) (.pointer (some (a.add off)))
 | fn {f} {xs ys:List D} {us vs:List Value} (h1:us.length=xs.length) (h2:vs.length=ys.length)
   (h3:∀(j:Nat) x u,xs[j]?=some x->us[j]?=some u->Rd w F x u) (h4:∀(j:Nat) x u,ys[j]?=some x->vs[j]?=some u->Rd w F x u) :
   Rd w F (.fn f xs ys) (.func f us.toArray vs.toArray)
 | mapd {sh has val} (b:Nat) (es:Array MapEntry) (clock:Nat) (ks:List (List Int)) (hF:F b) (hb:w.heap[b]?=some (.map es clock)) (hl:ks.length=es.size) (hn:ks.Nodup)
   (h1:∀(i:Nat) k e,ks[i]?=some k->es[i]?=some e->sh.fits k/\e.key=sh.key k/\has k=true) (h2:∀k,sh.fits k->has k=true->k∈ks) (hS:Stp es clock)
   (h:∀(i:Nat) k e,ks[i]?=some k->es[i]?=some e->Rd w F (val k) e.val):Rd w F (.mapd sh has val) (.map (some b))
 |slc {sz n f A} (h:Rd w F (.sl sz n f) (.slice A n n)):Rd w F (.slc sz n f) (.slice A n n)
theorem add_block (a:Addr)(k:Nat):(a.add k).block=a.block:=by unfold Addr.add;split<;>rfl
theorem Rd.mono {w w':World}{F F':Nat->Prop}(hF:∀b,F b->F' b)(hh:∀b,F b->w'.heap[b]?=w.heap[b]?){x:D}{v:Value}(h:Rd w F x v):Rd w' F' x v:=by
 induction h with
 |int=>exact .int
 |bool=>exact .bool
 |str=>exact .str
 |nilp=>exact .nilp
 |nili=>exact .nili
 |nilf=>exact .nilf
 |nilm=>exact .nilm
 |nils=>exact .nils
 |agg hl _ ih=>exact .agg hl ih
 |ifc _ ih=>exact .ifc ih
 |sl a g hc ha hl hcell _ ih =>
  refine .sl a g hc (fun h=>⟨(ha h).1,hF _ (ha h).2⟩) hl (fun i j hi hj=>?_) ih
  rw[World.cell?_of_block (w:=w) (by rw[add_block];exact hh _ (ha Om).2)]
  exact hcell i j hi hj
 |pt a g ha hcell _ ih =>
  refine .pt a g (hF _ ha) (fun j hj=>?_) ih
  rw[World.cell?_of_block (w:=w) (by rw[add_block];exact hh _ ha)]
  exact hcell j hj
 |fn h1 h2 _ _ ih1 ih2=>exact .fn h1 h2 ih1 ih2
 |mapd b es clock ks g1 g2 g3 g4 g5 g6 g7 _ ih=>exact .mapd b es clock ks (hF _ g1) (by rw[hh _ g1];exact g2) g3 g4 g5 g6 g7 ih
 |slc _ ih=>exact .slc ih
structure Pl where
 g:Nat
 sz:Nat
 loc:Option (Nat × Nat)
abbrev Pls:=Ref->Option (Option Pl)
def SlAt (pl:Pl)(off n:Nat)(v:Value):Prop :=
 match pl.loc with
 |none=>n=0/\off=0/\v=.slice none 0 0
 |some (b,tot)=>∃A cap,v=.slice A n cap/\n<=cap/\off+cap=tot/\(0<cap\/off=0->A=some ⟨b,off*pl.sz,none⟩)
def PtAt (pl:Pl)(i off:Nat)(v:Value):Prop:=∃b tot,pl.loc=some (b,tot)/\v=.pointer (some ⟨b,i*pl.sz+off,none⟩)
inductive Vc (w:World)(F:Nat->Prop)(σ:Pls):AV->Value->Prop where
 |d {x v} (h:Rd w F x v):Vc w F σ (.d x) v
 |agg {cs:List AV} {us:List Value} (hl:us.length=cs.length) (h:∀(j:Nat) x u,cs[j]?=some x->us[j]?=some u->Vc w F σ x u):Vc w F σ (.agg cs) (.agg us.toArray)
 |tup {cs:List AV} {us:List Value} (hl:us.length=cs.length) (h:∀(j:Nat) x u,cs[j]?=some x->us[j]?=some u->Vc w F σ x u):Vc w F σ (.tup cs) (.tuple us.toArray)
 |ifc {t x u} (h:Vc w F σ x u):Vc w F σ (.ifc t x) (.iface t u)
 | fn {f} {xs ys:List AV} {us vs:List Value} (h1:us.length=xs.length) (h2:vs.length=ys.length)
   (h3:∀(j:Nat) x u,xs[j]?=some x->us[j]?=some u->Vc w F σ x u) (h4:∀(j:Nat) x u,ys[j]?=some x->vs[j]?=some u->Vc w F σ x u) :
   Vc w F σ (.fn f xs ys) (.func f us.toArray vs.toArray)
 |ptr {r g i off v q} (hr:σ r=some q) (h:∀pl,q=some pl->g<=pl.g/\(pl.g=g->PtAt pl i off v)):Vc w F σ (.ptr r g i off) v
 |osl {r g off n v q} (hr:σ r=some q) (h:∀pl,q=some pl->g<=pl.g/\(pl.g=g->SlAt pl off n v)):Vc w F σ (.osl r g off n) v
 |mp {r v q} (hr:σ r=some q) (h:∀pl,q=some pl->pl.g=0->∃b t,pl.loc=some (b,t)/\v=.map (some b)):Vc w F σ (.mp r) v
 |gd {b x v} (h:b=true->Vc w F σ x v) (h':b=false->v=undef):Vc w F σ (.gd b x) v
 |junk {v}:Vc w F σ .junk v
def QLe (q q':Option Pl):Prop:=∀pl',q'=some pl'->∃pl,q=some pl/\pl.g<=pl'.g/\(pl'.g=pl.g->pl'=pl)
theorem QLe.refl (q:Option Pl):QLe q q:=fun pl' h=>⟨pl',h,Nat.le_refl _,fun _=>rfl⟩
theorem QLe.none (q:Option Pl):QLe q none:=fun _ h=>nomatch h
theorem QLe.trans {a b c:Option Pl}(h:QLe a b)(k:QLe b c):QLe a c:=fun pl' hc=>by
 obtain⟨p1,h1,h2,h3⟩:=k pl' hc
 obtain⟨p2,h4,h5,h6⟩:=h p1 h1
 refine⟨p2,h4,Nat.le_trans h5 h2,fun he=>?_⟩
 have:p1.g=p2.g:=by omega
 rw[h3 Om,h6 this]
def SLe (σ σ':Pls):Prop:=∀r q,σ r=some q->∃q',σ' r=some q'/\QLe q q'
theorem SLe.refl (σ:Pls):SLe σ σ:=fun _ q h=>⟨q,h,QLe.refl q⟩
theorem Vc.mono {w w':World}{F F':Nat->Prop}{σ σ':Pls}(hF:∀b,F b->F' b)(hh:∀b,F b->w'.heap[b]?=w.heap[b]?)(hs:SLe σ σ')
  {x:AV} {v:Value} (h:Vc w F σ x v):Vc w' F' σ' x v:=by
 induction h with
 |d h=>exact .d (h.mono hF hh)
 |agg hl _ ih=>exact .agg hl ih
 |tup hl _ ih=>exact .tup hl ih
 |ifc _ ih=>exact .ifc ih
 |fn h1 h2 _ _ i1 i2=>exact .fn h1 h2 i1 i2
 |ptr hr h =>
  obtain⟨q',hq,hle⟩:=hs _ _ hr
  refine .ptr hq fun pl' e=>?_
  obtain⟨pl,e1,e2,e3⟩:=hle pl' e
  obtain⟨h1,h2⟩:=h pl e1
  refine⟨Om,fun e4=>?_⟩
  have h5:pl'.g=pl.g:=by omega
  rw[e3 h5];exact h2 Om
 |osl hr h =>
  obtain⟨q',hq,hle⟩:=hs _ _ hr
  refine .osl hq fun pl' e=>?_
  obtain⟨pl,e1,e2,e3⟩:=hle pl' e
  obtain⟨h1,h2⟩:=h pl e1
  refine⟨Om,fun e4=>?_⟩
  have h5:pl'.g=pl.g:=by omega
  rw[e3 h5];exact h2 Om
 |mp hr h =>
  obtain⟨q',hq,hle⟩:=hs _ _ hr
  refine .mp hq fun pl' e e0=>?_
  obtain⟨pl,e1,e2,e3⟩:=hle pl' e
  rw[e3 Om]
  exact h pl e1 Om
 |gd _ h' ih=>exact .gd ih h'
 |junk=>exact .junk
def VecOk (w:World)(F:Nat->Prop)(σ:Pls)(e sz g n:Nat)(f:Nat->List AV)(pl:Pl):Prop :=
 pl.g=g/\pl.sz=sz/\(pl.loc=none->n=0)/\(∀i,i<n->(f i).length=sz)/\∀b tot,pl.loc=some (b,tot)->n<=tot/\tot<=maxLen /\
   ∃us:List Value,w.heap[b]?=some (.cells us.toArray e (0,0))/\us.length=tot*sz /\
   ∀(i j:Nat) A,i<n->(f i)[j]?=some A->∃u,us[i*sz+j]?=some u/\Vc w F σ A u/\u.oneCell'=true
def ItOk (w:World)(F:Nat->Prop)(sh:Ksh)(has:List Int->Bool)(val:List Int->D)(left:List (List Int))(cur:Option (List Int))(b:Nat):Prop :=
 ∃(bm clock:Nat) (seen:Array Nat) (es:Array MapEntry) (ks:List (List Int)),w.heap[b]?=some (.mapIter (some bm) clock seen clock)/\F bm/\w.heap[bm]?=some (.map es clock)/\ks.length=es.size/\ks.Nodup /\
  (∀(i:Nat) k e,ks[i]?=some k->es[i]?=some e->sh.fits k/\e.key=sh.key k/\has k=true/\Rd w F (val k) e.val)/\(∀k,sh.fits k->has k=true->k∈ks)/\Stp es clock /\
  left.Nodup/\(∀k,k∈left↔∃(i:Nat) (e:MapEntry),ks[i]?=some k/\es[i]?=some e/\seen.contains e.born=false) /\
  ∀k,cur=some k->∃(i:Nat) (e:MapEntry),ks[i]?=some k/\es[i]?=some e/\seen.back?=some e.born
theorem ItOk.mono {w w':World}{F F':Nat->Prop}(hF:∀b,F b->F' b)(hh:∀b,F b->w'.heap[b]?=w.heap[b]?){sh:Ksh}{has:List Int->Bool}{val:List Int->D}{left:List (List Int)}{cur:Option (List Int)}{b:Nat}(hb:w'.heap[b]?=w.heap[b]?)(h:ItOk w F sh has val left cur b):ItOk w' F' sh has val left cur b:=by
 obtain⟨bm,clock,seen,es,ks,h1,h2,h3,h4,h5,h6,h7,h8⟩:=h
 exact⟨bm,clock,seen,es,ks,by rw[hb];exact h1,hF _ h2,by rw[hh _ h2];exact h3,h4,h5,fun i k e hi he=>⟨(h6 i k e hi he).1,(h6 i k e hi he).2.1,(h6 i k e hi he).2.2.1,(h6 i k e hi he).2.2.2.mono hF hh⟩,h7,h8⟩
def BlkOk (w:World)(F:Nat->Prop)(σ:Pls):Blk->Pl->Prop
 | .box e cs,pl=>pl.g=0∧pl.sz=cs.length∧∃ b,pl.loc=some (b,1)∧∃ us:List Value,w.heap[b]?=some (.cells us.toArray e (0,0))∧us.length=cs.length ∧
   ∀(j:Nat) A u,cs[j]?=some A->us[j]?=some u->Vc w F σ A u/\u.oneCell'=true
 | .vec e sz g n f,pl=>pl.g=g∧pl.sz=sz∧(pl.loc=none→n=0)∧(∀ i,i < n→(f i).length=sz)∧∀ b tot,pl.loc=some (b,tot)→n≤tot∧tot≤maxLen ∧
   ∃us:List Value,w.heap[b]?=some (.cells us.toArray e (0,0))/\us.length=tot*sz /\
   ∀(i j:Nat) A,i<n->(f i)[j]?=some A->∃u,us[i*sz+j]?=some u/\Vc w F σ A u/\u.oneCell'=true
 | .loop b r env,pl=>pl.g=0/\pl.loc=some (b,1)/\w.heap[b]?=some (.loop r)/\∀(j:Nat) t A,env[j]?=some (t,A)->Vc w F σ A (r.tmps.getD t undef)
 | .map sh has val,pl=>pl.g=0∧∃ b,pl.loc=some (b,1)∧∃ (es:Array MapEntry) (clock:Nat) (ks:List (List Int)),w.heap[b]?=some (.map es clock)∧ks.length=es.size∧ks.Nodup ∧
   (∀(i:Nat) k e,ks[i]?=some k->es[i]?=some e->sh.fits k/\e.key=sh.key k/\has k=true/\Vc w F σ (val k) e.val)/\(∀k,sh.fits k->has k=true->k∈ks)/\Stp es clock
 | .room e sz g n c f,pl=>VecOk w F σ e sz g n f pl/\(pl.loc=none->c=0)/\∀b tot,pl.loc=some (b,tot)->tot=c
 | .ent sh has val key c,pl=>pl.g=0∧∃ b,pl.loc=some (b,1)∧∃ (es:Array MapEntry) (clock:Nat) (ks:List (List Int)),w.heap[b]?=some (.map es clock)∧ks.length=es.size∧ks.Nodup ∧
   (∀(i:Nat) k e,ks[i]?=some k->es[i]?=some e->sh.fits k/\e.key=sh.key k/\has k=true/\(k≠key->Vc w F σ (val k) e.val))/\(∀k,sh.fits k->has k=true->k∈ks)/\Stp es clock /\
   ∃(i:Nat) (e:MapEntry),es[i]?=some e/\ks[i]?=some key/\e.born=c
 | .opq,_=>True
 | .look sh key v hk,pl=>pl.g=0∧∃ b,pl.loc=some (b,1)∧∃ (es:Array MapEntry) (clock:Nat) (ks:List (List Int)),w.heap[b]?=some (.map es clock)∧ks.length=es.size ∧
   (∀(i:Nat) k e,ks[i]?=some k->es[i]?=some e->sh.fits k/\e.key=sh.key k)/\(hk=true->key∈ks)/\∀(i:Nat) e,ks[i]?=some key->es[i]?=some e->Vc w F σ v e.val
 | .iter sh has val left cur,pl=>pl.g=0/\∃b,pl.loc=some (b,1)/\ItOk w F sh has val left cur b
def GOk (F:Nat->Prop)(w:World):Prop:=∀g j v,(g,j,v)∈globs->F g/\w.cell? ⟨g,j,none⟩=some v
theorem GOk.mono {F F':Nat->Prop}{w w':World}(h:GOk F w)(hF:∀b,F b->F' b)(hh:∀b,F b->w'.heap[b]?=w.heap[b]?):GOk F' w':=fun g j v hg=>by
 obtain⟨h1,h2⟩:=h g j v hg
 exact⟨hF g h1,by rw[World.cell?_of_block (w:=w) (hh g h1)];exact h2⟩
structure MemOk (m:Mem)(σ:Pls)(F:Nat->Prop)(w:World):Prop where
 dom:∀r,σ r=none↔m.at r=none
 lv:∀r q,σ r=some q->(q=none->m.at r=some none)/\∀pl,q=some pl->∃B,m.at r=some (some B)/\BlkOk w F σ B pl
 inj:∀r r' pl pl' b t t',σ r=some (some pl)->σ r'=some (some pl')->pl.loc=some (b,t)->pl'.loc=some (b,t')->r=r'
 nf:∀r pl b t,σ r=some (some pl)->pl.loc=some (b,t)->¬ F b/\b<w.heap.size
 fl:∀b,F b->b<w.heap.size
 gl:GOk F w
theorem VecOk.mono {w w':World}{F F':Nat->Prop}{σ σ':Pls}(hF:∀b,F b->F' b)(hh:∀b,F b->w'.heap[b]?=w.heap[b]?)(hs:SLe σ σ')
  {e sz g n:Nat} {f:Nat->List AV} {pl:Pl} (hb:∀b t,pl.loc=some (b,t)->w'.heap[b]?=w.heap[b]?) (h:VecOk w F σ e sz g n f pl):VecOk w' F' σ' e sz g n f pl:=by
 obtain⟨h1,h2,h3,h4,h5⟩:=h
 refine⟨h1,h2,h3,h4,fun b tot hl=>?_⟩
 obtain⟨h6,h6',us,h7,h8,h9⟩:=h5 b tot hl
 refine⟨h6,h6',us,by rw[hb b tot hl];exact h7,h8,fun i j A hi hA=>?_⟩
 obtain⟨u,hu,hv,h1⟩:=h9 i j A hi hA
 exact⟨u,hu,hv.mono hF hh hs,h1⟩
theorem BlkOk.mono {w w':World}{F F':Nat->Prop}{σ σ':Pls}(hF:∀b,F b->F' b)(hh:∀b,F b->w'.heap[b]?=w.heap[b]?)(hs:SLe σ σ')
  {B:Blk} {pl:Pl} (hb:∀b t,pl.loc=some (b,t)->w'.heap[b]?=w.heap[b]?) (h:BlkOk w F σ B pl):BlkOk w' F' σ' B pl:=by
 cases B with
 |box e cs =>
  obtain⟨h1,h2,b,h3,us,h4,h5,h6⟩:=h
  exact⟨h1,h2,b,h3,us,by rw[hb b 1 h3];exact h4,h5,fun j A u hA hu=>⟨(h6 j A u hA hu).1.mono hF hh hs,(h6 j A u hA hu).2⟩⟩
 |vec e sz g n f =>
  obtain⟨h1,h2,h3,h4,h5⟩:=h
  refine⟨h1,h2,h3,h4,fun b tot hl=>?_⟩
  obtain⟨h6,h6',us,h7,h8,h9⟩:=h5 b tot hl
  refine⟨h6,h6',us,by rw[hb b tot hl];exact h7,h8,fun i j A hi hA=>?_⟩
  obtain⟨u,hu,hv,h1⟩:=h9 i j A hi hA
  exact⟨u,hu,hv.mono hF hh hs,h1⟩
 |loop b r env =>
  obtain⟨h1,h2,h3,h4⟩:=h
  exact⟨h1,h2,by rw[hb b 1 h2];exact h3,fun j t A hj=>(h4 j t A hj).mono hF hh hs⟩
 |map sh has val =>
  obtain⟨h1,b,h2,es,clock,ks,h3,h4,h5,h6,h7⟩:=h
  exact⟨h1,b,h2,es,clock,ks,by rw[hb b 1 h2];exact h3,h4,h5,fun i k e hi he=>⟨(h6 i k e hi he).1,(h6 i k e hi he).2.1,(h6 i k e hi he).2.2.1,(h6 i k e hi he).2.2.2.mono hF hh hs⟩,h7⟩
 |room e sz g n c f=>exact⟨VecOk.mono hF hh hs hb h.1,h.2⟩
 |ent sh has val key c =>
  obtain⟨h1,b,h2,es,clock,ks,h3,h4,h5,h6,h7⟩:=h
  exact⟨h1,b,h2,es,clock,ks,by rw[hb b 1 h2];exact h3,h4,h5,fun i k e hi he=>⟨(h6 i k e hi he).1,(h6 i k e hi he).2.1,(h6 i k e hi he).2.2.1,fun hk=>((h6 i k e hi he).2.2.2 hk).mono hF hh hs⟩,h7⟩
 |opq=>exact h
 |iter sh has val left cur =>
  obtain⟨h1,b,h2,h3⟩:=h
  exact⟨h1,b,h2,h3.mono hF hh (hb b 1 h2)⟩
 |look sh key v hk =>
  obtain⟨h1,b,h2,es,clock,ks,h3,h4,h5,h6,h7⟩:=h
  exact⟨h1,b,h2,es,clock,ks,by rw[hb b 1 h2];exact h3,h4,h5,h6,fun i e hi he=>(h7 i e hi he).mono hF hh hs⟩
theorem MemOk.world {m:Mem}{σ:Pls}{F:Nat->Prop}{w w':World}(h:MemOk m σ F w)(hsz:w.heap.size<=w'.heap.size)
  (hk:∀b,(F b\/∃r pl t,σ r=some (some pl)/\pl.loc=some (b,t))->w'.heap[b]?=w.heap[b]?):MemOk m σ F w' where
 dom:=h.dom
 lv r q hq:=⟨(h.lv r q hq).1,fun pl e=>by
  obtain⟨B,hB,hok⟩:=(h.lv r q hq).2 pl e
  exact⟨B,hB,hok.mono (fun _ h=>h) (fun b hb=>hk b (.inl hb)) (SLe.refl σ) (fun b t hl=>hk b (.inr ⟨r,pl,t,by rw[hq,e],hl⟩))⟩⟩
 inj:=h.inj
 nf r pl b t h1 h2:=⟨(h.nf r pl b t h1 h2).1,Nat.lt_of_lt_of_le (h.nf r pl b t h1 h2).2 hsz⟩
 fl b hb:=Nat.lt_of_lt_of_le (h.fl b hb) hsz
 gl:=h.gl.mono (fun _ h=>h) fun b hb=>hk b (.inl hb)
def keyFields (P:Program)(g:TypeId->Option (List IntKind)):List Field->Nat->Option (List IntKind)
 |[],_=>some []
 | f :: r,o=>match g f.type with
  |some ks=>match P.info? f.type with
   |some i=>if f.name≠ "_"/\f.offset=o/\i.size=ks.length then(keyFields P g r (o+ks.length)).map (ks ++ ·) else none
   |none=>none
  |none=>none
def keyShape (P:Program):Nat→TypeId→Option (List IntKind)
 |0,_=>none
 | n + 1,t=>match P.underlying t with
  |some (.int k)=>some [k]
  | some (.array m e)=>match keyShape P n e with
   |some ks=>match P.info? e with
    |some i=>if i.size=ks.length then some (List.replicate m ks).flatten else none
    |none=>none
   |none=>none
  |some (.struct fs)=>if P.stoodInHeld t then none else keyFields P (keyShape P n) fs.toList 0
  |_=>none
def vals (ks:List IntKind)(l:List Int):List Value:=List.zipWith Value.int ks l
theorem vals_len {ks:List IntKind}{l:List Int}(h:l.length=ks.length):(vals ks l).length=ks.length:=by
 simp[vals,h]
theorem vals_app {ks ks':List IntKind}{l l':List Int}(h:l.length=ks.length):vals (ks++ks') (l++l')=vals ks l++vals ks' l':=by
 unfold vals
 exact List.zipWith_append h.symm
theorem cut_app {ks ks':List IntKind}{l:List Int}(h:l.length=(ks++ks').length):∃a b,l=a++b/\a.length=ks.length/\b.length=ks'.length:=by
 rw[List.length_append]at h
 exact⟨l.take ks.length,l.drop ks.length,(List.take_append_drop _ _).symm,by rw[List.length_take];omega,by rw[List.length_drop];omega⟩
def keyVal (P:Program)(t:TypeId)(us:List Value):Value :=
 match P.underlying t with
 |some (.int _)=>us.headD undef
 |_=>.agg us.toArray
section
variable {P:Program}
theorem part_key {n:Nat}{t:TypeId}{ks:List IntKind}(h:keyShape P n t=some ks){i:TypeInfo}(hi:P.info? t=some i)(hs:i.size=ks.length){l:List Int}(hl:l.length=ks.length)
  (pre post:List Value) (w:World):(part t (pre++(vals ks l++post)).toArray pre.length).run P w=.ok (keyVal P t (vals ks l)) w:=by
 cases n with
 |zero=>simp[keyShape]at h
 | succ n =>
  have hc:P.cellsOf t=ks.length:=by simp[Program.cellsOf,hi,hs]
  have ex:((pre++(vals ks l++post)).toArray.extract pre.length (pre.length+ks.length))=(vals ks l).toArray:=by
   rw[List.extract_toArray,List.extract_eq_take_drop]
   rw[List.drop_left,Nat.add_sub_cancel_left,<-vals_len hl,List.take_left]
  unfold keyShape at h
  split at h
  .rename_i k hu
   simp only[Option.some.injEq]at h
   subst h
   match l,hl with
   |[a],_=>simp[part,isAgg,run_underlying hu,keyVal,hu,vals]
  .rename_i m e hu
   simp only[part,isAgg,Sem.run_bind,run_underlying hu,Result.andThen_ok,Sem.run_pure,Sem.run_ite,run_sizeOf w hi,hc,ex,keyVal,hu]
   simp
  .rename_i fs hu
   simp only[part,isAgg,Sem.run_bind,run_underlying hu,Result.andThen_ok,Sem.run_pure,Sem.run_ite,run_sizeOf w hi,hc,ex,keyVal,hu]
   simp
  .cases h
theorem decide_app {a a' b b':List Int}(h:a.length=a'.length):decide (a++b=a'++b')=(decide (a=a')&&decide (b=b')):=by
 rw[Bool.eq_iff_iff,Bool.and_eq_true,decide_eq_true_eq,decide_eq_true_eq,decide_eq_true_eq]
 exact⟨fun e=>List.append_inj e h,fun⟨e1,e2⟩=>by rw[e1,e2]⟩
def EqK (P:Program)(t:TypeId)(ks:List IntKind)(d:Nat):Prop:=∀(l l':List Int),l.length=ks.length->l'.length=ks.length->∀w,(Op.equalIn d t (keyVal P t (vals ks l)) (keyVal P t (vals ks l'))).run P w=.ok (decide (l=l')) w
theorem eqF_key {n d:Nat}(ih:∀t ks,keyShape P n t=some ks->EqK P t ks d):∀(fs:List Field) (ks:List IntKind) (pre pre':List Value),keyFields P (keyShape P n) fs pre.length=some ks->pre'.length=pre.length ->
  ∀(l l':List Int),l.length=ks.length->l'.length=ks.length->∀w,(Op.eqFields d (pre++vals ks l).toArray (pre'++vals ks l').toArray fs).run P w=.ok (decide (l=l')) w
 |[],ks,pre,pre',h,hp,l,l',hl,hl',w=>by
  simp[keyFields]at h
  subst h
  simp at hl hl'
  subst hl;subst hl'
  simp[Op.eqFields]
 |f::r,ks,pre,pre',h,hp,l,l',hl,hl',w=>by
  simp only[keyFields]at h
  split at h<;>try (cases h;done)
  rename_i k1 hk1
  split at h<;>try (cases h;done)
  rename_i i hi
  split at h<;>try (cases h;done)
  rename_i hc
  obtain⟨c1,c2,c3⟩:=hc
  rw[Option.map_eq_some_iff]at h
  obtain⟨k2,hk2,rfl⟩:=h
  obtain⟨a,b,rfl,ha,hb⟩:=cut_app hl
  obtain⟨a',b',rfl,ha',hb'⟩:=cut_app hl'
  rw[vals_app ha,vals_app ha']
  have p1:=part_key hk1 hi c3 ha pre (vals k2 b) w
  have p2:=part_key hk1 hi c3 ha' pre' (vals k2 b') w
  have p3:=ih _ _ hk1 a a' ha ha' w
  rw[<-c2]at p1
  rw[hp,<-c2]at p2
  have hrec:=eqF_key ih r k2 (pre++vals k1 a) (pre'++vals k1 a') (by rw[List.length_append,vals_len ha];exact hk2) (by simp[vals_len ha,vals_len ha',hp]) b b' hb hb' w
  rw[List.append_assoc,List.append_assoc]at hrec
  simp only[Op.eqFields,ne_eq,c1,not_false_eq_true,if_true,Sem.run_bind,p1,p2,p3,Result.andThen_ok,Sem.run_ite]
  rw[decide_app (by rw[ha,ha'])]
  cases hd:decide (a=a')
  .simp
  .simpa using hrec
theorem eqI_key {e:TypeId}{n d:Nat}{ks:List IntKind}{i:TypeInfo}(hk:keyShape P n e=some ks)(hi:P.info? e=some i)(hs:i.size=ks.length)(ih:EqK P e ks d):∀(m j:Nat) (pre pre':List Value),pre.length=j*ks.length->pre'.length=j*ks.length ->
  ∀(l l':List Int),l.length=((List.replicate m ks).flatten).length->l'.length=((List.replicate m ks).flatten).length->∀w,
   (Op.eqItems d e (P.cellsOf e) (pre++vals (List.replicate m ks).flatten l).toArray (pre'++vals (List.replicate m ks).flatten l').toArray (List.range' j m)).run P w=.ok (decide (l=l')) w
 |0,j,pre,pre',hp,hp',l,l',hl,hl',w=>by
  simp at hl hl'
  subst hl;subst hl'
  simp[Op.eqItems]
 |m+1,j,pre,pre',hp,hp',l,l',hl,hl',w=>by
  have hc:P.cellsOf e=ks.length:=by simp[Program.cellsOf,hi,hs]
  rw[List.replicate_succ,List.flatten_cons]at hl hl'⊢
  obtain⟨a,b,rfl,ha,hb⟩:=cut_app hl
  obtain⟨a',b',rfl,ha',hb'⟩:=cut_app hl'
  rw[vals_app ha,vals_app ha']
  have p1:=part_key hk hi hs ha pre (vals (List.replicate m ks).flatten b) w
  have p2:=part_key hk hi hs ha' pre' (vals (List.replicate m ks).flatten b') w
  have p3:=ih a a' ha ha' w
  rw[hp]at p1
  rw[hp']at p2
  have hrec:=eqI_key hk hi hs ih m (j+1) (pre++vals ks a) (pre'++vals ks a') (by rw[List.length_append,vals_len ha,hp,Nat.succ_mul]) (by rw[List.length_append,vals_len ha',hp',Nat.succ_mul]) b b' hb hb' w
  rw[List.append_assoc,List.append_assoc]at hrec
  rw[hc]at hrec⊢
  simp only[List.range'_succ,Op.eqItems,Sem.run_bind,p1,p2,p3,Result.andThen_ok,Sem.run_ite]
  rw[decide_app (by rw[ha,ha'])]
  cases hd:decide (a=a')
  .simp
  .simpa using hrec
theorem eq_key:∀(n:Nat) (t:TypeId) (ks:List IntKind),keyShape P n t=some ks->∀d,n<=d->EqK P t ks d
 |0,t,ks,h,d,hd=>by simp[keyShape]at h
 | n + 1,t,ks,h,d,hd=>by
  obtain⟨d,rfl⟩:∃d',d=d'+1:=⟨d-1,Om⟩
  intro l l' hl hl' w
  unfold keyShape at h
  split at h
  .rename_i k hu
   simp only[Option.some.injEq]at h
   subst h
   match l,l',hl,hl' with
   |[a],[b],_,_ =>
    simp only[keyVal,hu,vals,List.zipWith_cons_cons,List.headD_cons]
    rw[run_equalIn_int w d t k k a b hu]
    congr 1
    by_cases e:a=b<;>simp[e]
  .rename_i m e hu
   split at h<;>try (cases h;done)
   rename_i k1 hk1
   split at h<;>try (cases h;done)
   rename_i i hi
   split at h<;>try (cases h;done)
   rename_i hs
   simp only[Option.some.injEq]at h
   subst h
   simp only[keyVal,hu]
   rw[run_equalIn_array (w:=w) d _ _ hu hi,List.range_eq_range']
   simpa using eqI_key hk1 hi hs (eq_key n e k1 hk1 d Om) m 0 [] [] (by simp) (by simp) l l' hl hl' w
  .rename_i fs hu
   split at h<;>try (cases h;done)
   rename_i hst
   have hfo:P.fieldsOf t=fs:=by simp[Program.fieldsOf,hu]
   simp only[keyVal,hu]
   rw[run_equalIn_struct w d t _ _ (by rw[hfo];exact hu) (by simpa using hst),hfo]
   simpa using eqF_key (fun t ks h=>eq_key n t ks h d Om) fs.toList ks [] [] h rfl l l' hl hl' w
  .cases h
theorem eachF {n:Nat}:∀(fs:List Field) (ks:List IntKind) (pre:List Value),keyFields P (keyShape P n) fs pre.length=some ks->∀l:List Int,l.length=ks.length ->
  ∀f∈fs,f.name≠ "_"/\∃k1 a,keyShape P n f.type=some k1/\a.length=k1.length/\∀w,(part f.type (pre++vals ks l).toArray f.offset).run P w=.ok (keyVal P f.type (vals k1 a)) w
 |[],ks,pre,h,l,hl,f,hf=>by simp at hf
 | f0 :: r,ks,pre,h,l,hl,f,hf=>by
  simp only[keyFields]at h
  split at h<;>try (cases h;done)
  rename_i k1 hk1
  split at h<;>try (cases h;done)
  rename_i i hi
  split at h<;>try (cases h;done)
  rename_i hc
  obtain⟨c1,c2,c3⟩:=hc
  rw[Option.map_eq_some_iff]at h
  obtain⟨k2,hk2,rfl⟩:=h
  obtain⟨a,b,rfl,ha,hb⟩:=cut_app hl
  rw[vals_app ha]
  rcases List.mem_cons.1 hf with rfl|hf
  .exact⟨c1,k1,a,hk1,ha,fun w=>by rw[c2];exact part_key hk1 hi c3 ha pre (vals k2 b) w⟩
  .have hrec:=eachF r k2 (pre++vals k1 a) (by rw[List.length_append,vals_len ha];exact hk2) b hb f hf
   rwa [List.append_assoc]at hrec
theorem eachI {e:TypeId}{n:Nat}{ks:List IntKind}{i:TypeInfo}(hk:keyShape P n e=some ks)(hi:P.info? e=some i)(hs:i.size=ks.length):∀(m j:Nat) (pre:List Value),pre.length=j*ks.length ->
  ∀l:List Int,l.length=((List.replicate m ks).flatten).length->∀k∈List.range' j m,∃a,a.length=ks.length/\∀w,(part e (pre++vals (List.replicate m ks).flatten l).toArray (k*P.cellsOf e)).run P w=.ok (keyVal P e (vals ks a)) w
 |0,j,pre,hp,l,hl,k,hk=>by simp at hk
 | m + 1,j,pre,hp,l,hl,k,hkm=>by
  have hc:P.cellsOf e=ks.length:=by simp[Program.cellsOf,hi,hs]
  rw[List.replicate_succ,List.flatten_cons]at hl⊢
  obtain⟨a,b,rfl,ha,hb⟩:=cut_app hl
  rw[vals_app ha]
  rw[List.range'_succ]at hkm
  rcases List.mem_cons.1 hkm with rfl|hkm
  .exact⟨a,ha,fun w=>by rw[hc,<-hp];exact part_key hk hi hs ha pre (vals (List.replicate m ks).flatten b) w⟩
  .have hrec:=eachI hk hi hs m (j+1) (pre++vals ks a) (by rw[List.length_append,vals_len ha,hp,Nat.succ_mul]) b hb k hkm
   rwa [List.append_assoc]at hrec
def ChK (P:Program)(em:Bool)(t:TypeId)(ks:List IntKind)(d:Nat):Prop:=∀(l:List Int),l.length=ks.length->∀w,(Instr.checkKey em d t (keyVal P t (vals ks l))).run P w=.ok () w
theorem ch_key (em:Bool):∀(n:Nat) (t:TypeId) (ks:List IntKind),keyShape P n t=some ks->∀d,n<=d->ChK P em t ks d
 |0,t,ks,h,d,hd=>by simp[keyShape]at h
 | n + 1,t,ks,h,d,hd=>by
  obtain⟨d,rfl⟩:∃d',d=d'+1:=⟨d-1,Om⟩
  intro l hl w
  unfold keyShape at h
  split at h
  .rename_i k hu
   simp only[Option.some.injEq]at h
   subst h
   match l,hl with
   |[a],_=>simp[keyVal,hu,vals,Instr.checkKey,run_underlying hu]
  .rename_i m e hu
   split at h<;>try (cases h;done)
   rename_i k1 hk1
   split at h<;>try (cases h;done)
   rename_i i hi
   split at h<;>try (cases h;done)
   rename_i hs
   simp only[Option.some.injEq]at h
   subst h
   have hc:P.cellsOf e=k1.length:=by simp[Program.cellsOf,hi,hs]
   simp only[keyVal,hu]
   rw[Instr.checkKey]
   simp only[Sem.run_bind,run_underlying hu,Result.andThen_ok]
   simp only[Std.Legacy.Range.forIn_eq_forIn_range',Std.Legacy.Range.size,Nat.sub_zero,Nat.add_one_sub_one,Nat.div_one]
   have IH:=ch_key em n e k1 hk1 d Om
   have each:=eachI hk1 hi hs m 0 [] (by simp) l hl
   simp only[List.nil_append]at each
   generalize List.range' 0 m=is at each
   induction is with
   |nil=>simp
   |cons j is ih =>
    obtain⟨a,ha,p1⟩:=each j (by simp)
    have p2:=IH a ha
    simp only[List.forIn_cons,Sem.run_bind,run_sizeOf w hi,Result.andThen_ok,p1,p2,Sem.run_pure]
    exact ih (fun y hy=>each y (by simp[hy]))
  .rename_i fs hu
   split at h<;>try (cases h;done)
   simp only[keyVal,hu]
   rw[Instr.checkKey]
   simp only[Sem.run_bind,run_underlying hu,Result.andThen_ok]
   rw[<-Array.forIn_toList]
   have IH:=fun t ks h=>ch_key em n t ks h d Om
   have each:=eachF fs.toList ks [] h l hl
   simp only[List.nil_append]at each
   clear hu h
   generalize fs.toList=L at each
   induction L with
   |nil=>simp
   |cons f L ih =>
    obtain⟨hn,k1,a,hk1,ha,p1⟩:=each f (by simp)
    have p2:=IH _ _ hk1 a ha
    simp only[List.forIn_cons,Sem.run_bind,hn,ne_eq,not_false_eq_true,if_true,Result.andThen_ok,p1,p2,Sem.run_pure]
    exact ih (fun y hy=>each y (by simp[hy]))
  .cases h
theorem bits_vals:∀(ks:List IntKind) (l:List Int) (n:Nat),(((vals ks l).zip (vals ks l)).all fun(x,y)=>Instr.sameBits n x y)=true
 |[],l,n=>by simp[vals]
 |k::r,[],n=>by simp[vals]
 |k::r,a::l,n=>by
  have:=bits_vals r l n
  simp only[vals,List.zipWith_cons_cons,List.zip_cons_cons,List.all_cons]at this⊢
  rw[this,Bool.and_true]
  cases n<;>simp[Instr.sameBits]
def KeyT (P:Program)(kt:TypeId)(ks:List IntKind):Prop:=keyShape P 8 kt=some ks/\(match P.underlying kt with|some (.int _)=>False|_=>True)
theorem KeyT.val {kt:TypeId}{ks:List IntKind}(h:KeyT P kt ks)(us:List Value):keyVal P kt us=.agg us.toArray:=by
 have:=h.2
 unfold keyVal
 split at this
 .exact this.elim
 .rfl
theorem many_check {kt:TypeId}{ks:List IntKind}(h:KeyT P kt ks){l:List Int}(hl:l.length=ks.length)(b:Bool)(w:World):(Instr.checkKey b 10000 kt (.agg (vals ks l).toArray)).run P w=.ok () w:=by
 rw[<-h.val]
 exact ch_key b 8 kt ks h.1 10000 Om l hl w
theorem many_stays (ks:List IntKind)(l:List Int)(w:World):(Instr.keyThatStays (.agg (vals ks l).toArray) (.agg (vals ks l).toArray)).run P w=.ok (.agg (vals ks l).toArray) w:=by
 have h:Instr.sameBits 10000 (.agg (vals ks l).toArray) (.agg (vals ks l).toArray)=true:=by
  show((vals ks l).toArray.size==(vals ks l).toArray.size&&_)=true
  rw[beq_self_eq_true,Bool.true_and]
  exact bits_vals ks l 9999
 simp only[Instr.keyThatStays,h,if_true,Sem.run_pure]
theorem many_equal {kt:TypeId}{ks:List IntKind}(h:KeyT P kt ks){l l':List Int}(hl:l.length=ks.length)(hl':l'.length=ks.length)(w:World) :
  (Op.equal kt (.agg (vals ks l).toArray) (.agg (vals ks l').toArray)).run P w=.ok (decide (l=l')) w:=by
 rw[<-h.val,<-h.val]
 exact eq_key 8 kt ks h.1 10000 Om l l' hl hl' w
theorem many_asking {kt:TypeId}{ks:List IntKind}(h:KeyT P kt ks){k:List Int}(hk:k.length=ks.length):∀(es:List MapEntry) (kl:List (List Int)) (i:Nat),kl.length=es.length ->
  (∀(j:Nat) k e,kl[j]?=some k->es[j]?=some e->k.length=ks.length/\e.key=.agg (vals ks k).toArray) ->
  (k ∉ kl/\∀w,(Instr.findAsking kt (.agg (vals ks k).toArray) es i).run P w=.ok none w) \/
  ∃j e,es[j]?=some e/\kl[j]?=some k/\∀w,(Instr.findAsking kt (.agg (vals ks k).toArray) es i).run P w=.ok (some (i+j,e.val)) w
 |[],[],i,_,_=>.inl ⟨by simp,by simp[Instr.findAsking]⟩
 | e :: es,k' :: kl,i,hl,ha=>by
  obtain⟨h1,h2⟩:=ha 0 k' e rfl rfl
  have he:=many_equal h hk h1
  rw[<-h2]at he
  by_cases hkk:k=k'
  .refine .inr ⟨0,e,rfl,by simp[hkk],fun w=>?_⟩
   rw[decide_eq_true hkk]at he
   simp[Instr.findAsking,he w]
  .rw[decide_eq_false hkk]at he
   rcases many_asking h hk es kl (i+1) (by simpa using hl) (fun j k e hj he=>ha (j+1) k e (by simpa using hj) (by simpa using he)) with ⟨g1,g2⟩|⟨j,e',g1,g2,g3⟩
   .exact .inl ⟨by simp[hkk,g1],fun w=>by simp[Instr.findAsking,he w,g2 w]⟩
   .exact .inr ⟨j+1,e',by simpa using g1,by simpa using g2,fun w=>by simp[Instr.findAsking,he w,g3 w,Nat.add_assoc,Nat.add_comm 1 j]⟩
 |[],_::_,i,hl,_=>by simp at hl
 |_::_,[],i,hl,_=>by simp at hl
theorem many_find {kt:TypeId}{ks:List IntKind}(h:KeyT P kt ks){k:List Int}(hk:k.length=ks.length)(es:List MapEntry)(kl:List (List Int))(hl:kl.length=es.length)
  (ha:∀(j:Nat) k e,kl[j]?=some k->es[j]?=some e->k.length=ks.length/\e.key=.agg (vals ks k).toArray) :
  (k ∉ kl/\∀w,(Instr.findKey kt (.agg (vals ks k).toArray) es).run P w=.ok none w) \/
  ∃j e,es[j]?=some e/\kl[j]?=some k/\∀w,(Instr.findKey kt (.agg (vals ks k).toArray) es).run P w=.ok (some (j,e.val)) w:=by
 obtain⟨td,hu⟩:∃td,P.underlying kt=some td:=by
  cases hu:P.underlying kt with
  |none=>have:=h.1;simp[keyShape,hu]at this
  |some d=>exact⟨d,rfl⟩
 have hnow:∀e r i,Instr.findNow td (.agg (vals ks k).toArray) (e::r) i=none:=fun e r i=>by
  simp[Instr.findNow,Instr.sameNow]
 cases es with
 |nil =>
  cases kl with
  |nil=>exact .inl ⟨by simp,fun w=>by simp[Instr.findKey,run_underlying hu,Instr.findNow]⟩
  |cons=>simp at hl
 | cons e r =>
  have hf:∀w,(Instr.findKey kt (.agg (vals ks k).toArray) (e::r)).run P w=(Instr.findAsking kt (.agg (vals ks k).toArray) (e::r)).run P w:=fun w=>by
   simp[Instr.findKey,run_underlying hu,hnow]
  rcases many_asking h hk (e::r) kl 0 hl ha with ⟨g1,g2⟩|⟨j,e',g1,g2,g3⟩
  .exact .inl ⟨g1,fun w=>by rw[hf];exact g2 w⟩
  .exact .inr ⟨j,e',g1,g2,fun w=>by rw[hf,g3 w,Nat.zero_add]⟩
end
theorem viewStore_drawn {P:Program}{w w':World}{a:Addr}{u:TypeId}{k:Addr}{v:Value}{at_:Bool}{l:List Addr}(h:w.viewStore P a u k v at_=.ok (w',l)):w'.drawn=w.drawn:=by
 simp only[World.viewStore,bind,Except.bind,pure,Except.pure]at h
 repeat' (split at h<;>try (cases h;done))
 all_goals (injection h with h;injection h with h1 h2;subst h1;rfl)
theorem ask_drawn {α:Type}:∀(q:Ask α) (w:World),w.drawn<=(w.ask q).2.drawn
 | .done a,w=>Nat.le_refl _
 | .ask what range k,w=>by
  rw[World.ask]
  split
  .exact ask_drawn (k 0) w
  .exact Nat.le_trans (Nat.le_succ _) (ask_drawn (k _) {w with drawn:=w.drawn+1})
theorem sys_drawn (w:World)(c:Sys):w.drawn<=(w.sys c).2.drawn:=by
 have h:=ask_drawn (Kernel.perform c w.os) w
 unfold World.sys
 split
 .exact Nat.le_refl _
 .rename_i r os w1 hne e
  rw[e]at h
  exact h
theorem run_drawn {α:Type}{P:Program}:∀(s:Sem α) {w w':World} {x:α},s.run P w=.ok x w'->w.drawn<=w'.drawn
 | .pure a,w,w',x,h=>by
  simp only[Sem.run]at h
  injection h with _ h
  rw[h];exact Nat.le_refl _
 | .load m a k,w,w',x,h=>by
  simp only[Sem.run]at h
  split at h
  .exact run_drawn _ h
  .split at h
   .exact run_drawn _ h
   .cases h
 | .store m a v k,w,w',x,h=>by
  have main:(match w.cell? a with
    |some _=>if w.frozen? a then(.halt (.unsupported (.unsafePointer "a write to bytes that a string shares")) w:Result α) else k.run P (w.setCell a v)
    |none=>match World.farStore P w a v (m==Mode.atomic) with
     | .ok (w,_)=>k.run P w
     | .error h=>.halt h w)=.ok x w'->w.drawn<=w'.drawn:=fun h=>by
   split at h
   .split at h
    .cases h
    .have h1:=run_drawn k h
     exact h1
   .split at h
    .rename_i w1 l e
     have h1:=run_drawn k h
     unfold World.farStore at e
     split at e
     .split at e
      .rename_i r er
       injection e with e
       subst e
       have:=viewStore_drawn er
       omega
      .cases e
     .cases e
    .cases h
  cases v<;>first
   |exact main h
   |cases h
 | .new o k,w,w',x,h=>by
  simp only[Sem.run]at h
  have h1:=run_drawn _ h
  exact h1
 | .shape r k,w,w',x,h=>by
  simp only[Sem.run]at h
  exact run_drawn _ h
 | .freeze a n k,w,w',x,h=>by
  simp only[Sem.run]at h
  have h1:=run_drawn _ h
  refine Nat.le_trans ?_ h1
  unfold World.freeze
  repeat' split
  all_goals exact Nat.le_refl _
 | .frozen a k,w,w',x,h=>by
  simp only[Sem.run]at h
  exact run_drawn _ h
 | .getObj r k,w,w',x,h=>by
  simp only[Sem.run]at h
  split at h
  .cases h
  .exact run_drawn _ h
  .cases h
 | .setObj r o k,w,w',x,h=>by
  simp only[Sem.run]at h
  split at h
  .cases h
  .have h1:=run_drawn k h
   exact h1
  .cases h
 | .choose q k,w,w',x,h=>by
  simp only[Sem.run]at h
  split at h
  .exact run_drawn _ h
  .exact Nat.le_trans (Nat.le_succ _) (run_drawn _ h)
 | .sys c k,w,w',x,h=>by
  simp only[Sem.run]at h
  exact Nat.le_trans (sys_drawn w c) (run_drawn _ h)
 | .program k,w,w',x,h=>by
  simp only[Sem.run]at h
  exact run_drawn _ h
 | .mark m k,w,w',x,h=>by
  simp only[Sem.run]at h
  exact run_drawn k h
 | .halt h0,w,w',x,h=>by
  simp only[Sem.run]at h
  cases h
end Go.Ab
