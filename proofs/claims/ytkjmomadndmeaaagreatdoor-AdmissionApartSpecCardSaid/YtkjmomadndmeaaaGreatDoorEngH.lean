import Derived.Calls
import Derived.KernelRfl
import Derived.Tactics
import Derived.Laws.World
import Derived.Laws.Entries
import Derived.Below
import Derived.IntWalk
import Derived.Maps.AppendAt
import Derived.ChangeKeysEq
import Derived.Laws.StructEq
import Derived.MapKept
import Derived.Laws.Slices
import Derived.Laws.Cells
import Derived.Laws.Build
import Derived.Laws.Tables
import Derived.Laws.Strings
namespace Go.Ab
theorem Tt:True:=True.intro
theorem Om{p:Prop}(h:p:=by omega):p:=h
theorem Dc{p:Prop}(h:p:=by decide):p:=h
theorem Kr{p:Prop}(h:p:=by kernel_rfl):p:=h
def globs : List (Nat × Nat × Value) := [(1, 0, .iface 330 (.agg #[.pointer (some ⟨2, 261, none⟩)])), (0, 0, .bool false), (0, 1, .bool false), (0, 2, .bool false), (0, 3, .bool false), (0, 4, .nilFunc), (0, 5, .nilFunc), (0, 6, .bool false), (0, 7, .bool false), (0, 8, .bool false), (0, 9, .bool true), (0, 10, .func (.func 286) #[] #[]), (0, 11, .func (.func 287) #[] #[]), (0, 12, .bool false), (0, 13, .bool false), (0, 14, .bool false), (0, 15, .bool true), (0, 16, .func (.func 288) #[] #[]), (0, 17, .func (.func 289) #[] #[]), (0, 18, .bool false), (0, 19, .bool true), (0, 20, .bool false), (0, 21, .bool true), (0, 22, .func (.func 290) #[] #[]), (0, 23, .func (.func 291) #[] #[]), (0, 24, .bool false), (0, 25, .bool false), (0, 26, .bool false), (0, 27, .bool true), (0, 28, .func (.func 292) #[] #[]), (0, 29, .func (.func 293) #[] #[]), (0, 30, .bool true), (0, 31, .bool true), (0, 32, .bool false), (0, 33, .bool false), (0, 34, .func (.func 294) #[] #[]), (0, 35, .func (.func 296) #[] #[]), (0, 36, .bool true), (0, 37, .bool true), (0, 38, .bool false), (0, 39, .bool false), (0, 40, .func (.func 298) #[] #[]), (0, 41, .func (.func 299) #[] #[]), (0, 42, .bool false), (0, 43, .bool true), (0, 44, .bool false), (0, 45, .bool false), (0, 46, .func (.func 300) #[] #[]), (0, 47, .func (.func 301) #[] #[]), (0, 48, .bool false), (0, 49, .bool true), (0, 50, .bool true), (0, 51, .bool false), (0, 52, .func (.func 302) #[] #[]), (0, 53, .func (.func 303) #[] #[]), (0, 54, .bool true), (0, 55, .bool false), (0, 56, .bool false), (0, 57, .bool false), (0, 58, .func (.func 295) #[] #[]), (0, 59, .func (.func 305) #[] #[])]
def exts : List Nat := []
def slcs : List Nat := [35]
set_option linter.unusedSimpArgs false
set_option linter.unusedVariables false
inductive Ksh:Type where
 |one (k:IntKind)
 |many (ks:List IntKind)
 |str
def bytesI (s:ByteArray):List Int:=s.data.toList.map fun b=>(b.toNat:Int)
def strI (l:List Int):ByteArray:=⟨(l.map fun n=>UInt8.ofNat n.toNat).toArray⟩
theorem strI_bytesI (s:ByteArray):strI (bytesI s)=s:=by
 unfold strI bytesI
 rw[List.map_map]
 have:((fun n:Int=>UInt8.ofNat n.toNat)∘fun b:UInt8=>(b.toNat:Int))=id:=by
  funext b
  simp
 rw[this]
 simp
theorem bytesI_strI {l:List Int}(h:∀x∈l,0<=x/\x<256):bytesI (strI l)=l:=by
 unfold strI bytesI
 simp only[List.map_map]
 refine(List.map_congr_left fun x hx=>?_).trans (List.map_id l)
 obtain⟨h1,h2⟩:=h x hx
 simp only[Function.comp,UInt8.toNat_ofNat',id]
 omega
theorem bytesI_fits (s:ByteArray):∀x∈bytesI s,0<=x/\x<256:=by
 intro x hx
 obtain⟨b,_,rfl⟩:=List.mem_map.1 hx
 have:=b.toNat_lt
 omega
def Ksh.fits:Ksh->List Int->Prop
 | .one _,l=>l.length=1
 | .many ks,l=>l.length=ks.length
 | .str,l=>∀x∈l,0<=x/\x<256
def Ksh.key:Ksh->List Int->Value
 | .one k,l=>.int k (l.headD 0)
 | .many ks,l=>.agg (List.zipWith Value.int ks l).toArray
 | .str,l=>.string (strI l)
inductive D:Type where
 |int (k:IntKind) (n:Int)
 |bool (b:Bool)
 |str (s:ByteArray)
 |nilp|nili|nilf|nilm|nils
 |agg (cs:List D)
 |ifc (t:TypeId) (x:D)
 |sl (sz n:Nat) (f:Nat->List D)
 |pt (cs:List D) (off:Nat)
 |fn (f:Fn) (first cap:List D)
 |mapd (sh:Ksh) (has:List Int->Bool) (val:List Int->D)
 |slc (sz n:Nat) (f:Nat->List D)
inductive Ref:Type where
 |loc (j:Nat)
 |arg (j:Nat)
 |bad
 deriving DecidableEq
inductive AV:Type where
 |d (x:D)
 |agg (cs:List AV)
 |tup (vs:List AV)
 |ifc (t:TypeId) (x:AV)
 |fn (f:Fn) (first cap:List AV)
 |ptr (r:Ref) (g i off:Nat)
 |osl (r:Ref) (g off n:Nat)
 |mp (r:Ref)
 |gd (b:Bool) (x:AV)
 |junk
inductive Blk:Type where
 |box (e:TypeId) (cs:List AV)
 |vec (e:TypeId) (sz g n:Nat) (f:Nat->List AV)
 |loop (b:Nat) (r:Loop) (env:List (Nat × AV))
 |map (sh:Ksh) (has:List Int->Bool) (val:List Int->AV)
 |room (e:TypeId) (sz g n c:Nat) (f:Nat->List AV)
 |ent (sh:Ksh) (has:List Int->Bool) (val:List Int->AV) (key:List Int) (c:Nat)
 |opq
 |iter (sh:Ksh) (has:List Int->Bool) (val:List Int->D) (left:List (List Int)) (cur:Option (List Int))
 |look (sh:Ksh) (key:List Int) (v:AV) (hk:Bool)
structure Mem where
 loc:List (Option Blk)
 own:List (Option Blk)
def Mem.at (m:Mem):Ref->Option (Option Blk)
 | .loc j=>m.loc[j]?
 | .arg j=>m.own[j]?
 | .bad=>none
def Stp (es:Array MapEntry)(clock:Nat):Prop:=(∀x∈es.toList,x.born<clock)/\(es.toList.map (·.born)).Nodup
inductive Rd (w:World)(F:Nat->Prop):D->Value->Prop where
 |int {k n}:Rd w F (.int k n) (.int k n)
 |bool {b}:Rd w F (.bool b) (.bool b)
 |str {s}:Rd w F (.str s) (.string s)
 |nilp:Rd w F .nilp (.pointer none)
 |nili:Rd w F .nili .nilIface
 |nilf:Rd w F .nilf .nilFunc
 |nilm:Rd w F .nilm (.map none)
 |nils:Rd w F .nils (.slice none 0 0)
 |agg {cs:List D} {us:List Value} (hl:us.length=cs.length) (h:∀(j:Nat) x u,cs[j]?=some x->us[j]?=some u->Rd w F x u):Rd w F (.agg cs) (.agg us.toArray)
 |ifc {t x u} (h:Rd w F x u):Rd w F (.ifc t x) (.iface t u)
 | sl {sz n f} {A:Option Addr} {cap:Nat} (a:Addr) (g:Nat→Nat→Value) (hc:n≤cap) (ha:0 < n→A=some a∧F a.block)
   (hl:∀i,i<n->(f i).length=sz) (hcell:∀i j,i<n->j<sz->w.cell? (a.add (i*sz+j))=some (g i j)/\(g i j).oneCell'=true)
   (h:∀(i j:Nat) x,i<n->(f i)[j]?=some x->Rd w F x (g i j)):Rd w F (.sl sz n f) (.slice A n cap)
 | pt {cs:List D} {off} (a:Addr) (g:Nat→Value) (ha:F a.block) (hcell:∀ j,j < cs.length→w.cell? (a.add j)=some (g j)∧(g j).oneCell'=true)
   (h:∀(j:Nat) x,cs[j]?=some x->Rd w F x (g j)):Rd w F (.pt cs off) (.pointer (some (a.add off)))
 | fn {f} {xs ys:List D} {us vs:List Value} (h1:us.length=xs.length) (h2:vs.length=ys.length)
   (h3:∀(j:Nat) x u,xs[j]?=some x->us[j]?=some u->Rd w F x u) (h4:∀(j:Nat) x u,ys[j]?=some x->vs[j]?=some u->Rd w F x u) :
   Rd w F (.fn f xs ys) (.func f us.toArray vs.toArray)
 | mapd {sh has val} (b:Nat) (es:Array MapEntry) (clock:Nat) (ks:List (List Int)) (hF:F b) (hb:w.heap[b]?=some (.map es clock)) (hl:ks.length=es.size) (hn:ks.Nodup)
   (h1:∀(i:Nat) k e,ks[i]?=some k->es[i]?=some e->sh.fits k/\e.key=sh.key k/\has k=true) (h2:∀k,sh.fits k->has k=true->k∈ks) (hS:Stp es clock)
   (h:∀(i:Nat) k e,ks[i]?=some k->es[i]?=some e->Rd w F (val k) e.val):Rd w F (.mapd sh has val) (.map (some b))
 |slc {sz n f A} (h:Rd w F (.sl sz n f) (.slice A n n)):Rd w F (.slc sz n f) (.slice A n n)
theorem add_block (a:Addr)(k:Nat):(a.add k).block=a.block:=by unfold Addr.add;split<;>rfl
theorem Rd.mono {w w':World}{F F':Nat->Prop}(hF:∀b,F b->F' b)(hh:∀b,F b->w'.heap[b]?=w.heap[b]?){x:D}{v:Value}(h:Rd w F x v):Rd w' F' x v:=by
 induction h with
 |int=>exact .int
 |bool=>exact .bool
 |str=>exact .str
 |nilp=>exact .nilp
 |nili=>exact .nili
 |nilf=>exact .nilf
 |nilm=>exact .nilm
 |nils=>exact .nils
 |agg hl _ ih=>exact .agg hl ih
 |ifc _ ih=>exact .ifc ih
 |sl a g hc ha hl hcell _ ih =>
  refine .sl a g hc (fun h=>⟨(ha h).1,hF _ (ha h).2⟩) hl (fun i j hi hj=>?_) ih
  rw[World.cell?_of_block (w:=w) (by rw[add_block];exact hh _ (ha Om).2)]
  exact hcell i j hi hj
 |pt a g ha hcell _ ih =>
  refine .pt a g (hF _ ha) (fun j hj=>?_) ih
  rw[World.cell?_of_block (w:=w) (by rw[add_block];exact hh _ ha)]
  exact hcell j hj
 |fn h1 h2 _ _ ih1 ih2=>exact .fn h1 h2 ih1 ih2
 |mapd b es clock ks g1 g2 g3 g4 g5 g6 g7 _ ih=>exact .mapd b es clock ks (hF _ g1) (by rw[hh _ g1];exact g2) g3 g4 g5 g6 g7 ih
 |slc _ ih=>exact .slc ih
structure Pl where
 g:Nat
 sz:Nat
 loc:Option (Nat × Nat)
abbrev Pls:=Ref->Option (Option Pl)
def SlAt (pl:Pl)(off n:Nat)(v:Value):Prop :=
 match pl.loc with
 |none=>n=0/\off=0/\v=.slice none 0 0
 |some (b,tot)=>∃A cap,v=.slice A n cap/\n<=cap/\off+cap=tot/\(0<cap\/off=0->A=some ⟨b,off*pl.sz,none⟩)
def PtAt (pl:Pl)(i off:Nat)(v:Value):Prop:=∃b tot,pl.loc=some (b,tot)/\v=.pointer (some ⟨b,i*pl.sz+off,none⟩)
inductive Vc (w:World)(F:Nat->Prop)(σ:Pls):AV->Value->Prop where
 |d {x v} (h:Rd w F x v):Vc w F σ (.d x) v
 |agg {cs:List AV} {us:List Value} (hl:us.length=cs.length) (h:∀(j:Nat) x u,cs[j]?=some x->us[j]?=some u->Vc w F σ x u):Vc w F σ (.agg cs) (.agg us.toArray)
 |tup {cs:List AV} {us:List Value} (hl:us.length=cs.length) (h:∀(j:Nat) x u,cs[j]?=some x->us[j]?=some u->Vc w F σ x u):Vc w F σ (.tup cs) (.tuple us.toArray)
 |ifc {t x u} (h:Vc w F σ x u):Vc w F σ (.ifc t x) (.iface t u)
 | fn {f} {xs ys:List AV} {us vs:List Value} (h1:us.length=xs.length) (h2:vs.length=ys.length)
   (h3:∀(j:Nat) x u,xs[j]?=some x->us[j]?=some u->Vc w F σ x u) (h4:∀(j:Nat) x u,ys[j]?=some x->vs[j]?=some u->Vc w F σ x u) :
   Vc w F σ (.fn f xs ys) (.func f us.toArray vs.toArray)
 |ptr {r g i off v q} (hr:σ r=some q) (h:∀pl,q=some pl->g<=pl.g/\(pl.g=g->PtAt pl i off v)):Vc w F σ (.ptr r g i off) v
 |osl {r g off n v q} (hr:σ r=some q) (h:∀pl,q=some pl->g<=pl.g/\(pl.g=g->SlAt pl off n v)):Vc w F σ (.osl r g off n) v
 |mp {r v q} (hr:σ r=some q) (h:∀pl,q=some pl->pl.g=0->∃b t,pl.loc=some (b,t)/\v=.map (some b)):Vc w F σ (.mp r) v
 |gd {b x v} (h:b=true->Vc w F σ x v) (h':b=false->v=undef):Vc w F σ (.gd b x) v
 |junk {v}:Vc w F σ .junk v
def QLe (q q':Option Pl):Prop:=∀pl',q'=some pl'->∃pl,q=some pl/\pl.g<=pl'.g/\(pl'.g=pl.g->pl'=pl)
theorem QLe.refl (q:Option Pl):QLe q q:=fun pl' h=>⟨pl',h,Nat.le_refl _,fun _=>rfl⟩
theorem QLe.none (q:Option Pl):QLe q none:=fun _ h=>nomatch h
theorem QLe.trans {a b c:Option Pl}(h:QLe a b)(k:QLe b c):QLe a c:=fun pl' hc=>by
 obtain⟨p1,h1,h2,h3⟩:=k pl' hc
 obtain⟨p2,h4,h5,h6⟩:=h p1 h1
 refine⟨p2,h4,Nat.le_trans h5 h2,fun he=>?_⟩
 have:p1.g=p2.g:=by omega
 rw[h3 Om,h6 this]
def SLe (σ σ':Pls):Prop:=∀r q,σ r=some q->∃q',σ' r=some q'/\QLe q q'
theorem SLe.refl (σ:Pls):SLe σ σ:=fun _ q h=>⟨q,h,QLe.refl q⟩
theorem Vc.mono {w w':World}{F F':Nat->Prop}{σ σ':Pls}(hF:∀b,F b->F' b)(hh:∀b,F b->w'.heap[b]?=w.heap[b]?)(hs:SLe σ σ')
  {x:AV} {v:Value} (h:Vc w F σ x v):Vc w' F' σ' x v:=by
 induction h with
 |d h=>exact .d (h.mono hF hh)
 |agg hl _ ih=>exact .agg hl ih
 |tup hl _ ih=>exact .tup hl ih
 |ifc _ ih=>exact .ifc ih
 |fn h1 h2 _ _ i1 i2=>exact .fn h1 h2 i1 i2
 |ptr hr h =>
  obtain⟨q',hq,hle⟩:=hs _ _ hr
  refine .ptr hq fun pl' e=>?_
  obtain⟨pl,e1,e2,e3⟩:=hle pl' e
  obtain⟨h1,h2⟩:=h pl e1
  refine⟨Om,fun e4=>?_⟩
  have h5:pl'.g=pl.g:=by omega
  rw[e3 h5];exact h2 Om
 |osl hr h =>
  obtain⟨q',hq,hle⟩:=hs _ _ hr
  refine .osl hq fun pl' e=>?_
  obtain⟨pl,e1,e2,e3⟩:=hle pl' e
  obtain⟨h1,h2⟩:=h pl e1
  refine⟨Om,fun e4=>?_⟩
  have h5:pl'.g=pl.g:=by omega
  rw[e3 h5];exact h2 Om
 |mp hr h =>
  obtain⟨q',hq,hle⟩:=hs _ _ hr
  refine .mp hq fun pl' e e0=>?_
  obtain⟨pl,e1,e2,e3⟩:=hle pl' e
  rw[e3 Om]
  exact h pl e1 Om
 |gd _ h' ih=>exact .gd ih h'
 |junk=>exact .junk
def VecOk (w:World)(F:Nat->Prop)(σ:Pls)(e sz g n:Nat)(f:Nat->List AV)(pl:Pl):Prop :=
 pl.g=g/\pl.sz=sz/\(pl.loc=none->n=0)/\(∀i,i<n->(f i).length=sz)/\∀b tot,pl.loc=some (b,tot)->n<=tot/\tot<=maxLen /\
   ∃us:List Value,w.heap[b]?=some (.cells us.toArray e (0,0))/\us.length=tot*sz /\
   ∀(i j:Nat) A,i<n->(f i)[j]?=some A->∃u,us[i*sz+j]?=some u/\Vc w F σ A u/\u.oneCell'=true
def ItOk (w:World)(F:Nat->Prop)(sh:Ksh)(has:List Int->Bool)(val:List Int->D)(left:List (List Int))(cur:Option (List Int))(b:Nat):Prop :=
 ∃(bm clock:Nat) (seen:Array Nat) (es:Array MapEntry) (ks:List (List Int)),w.heap[b]?=some (.mapIter (some bm) clock seen clock)/\F bm/\w.heap[bm]?=some (.map es clock)/\ks.length=es.size/\ks.Nodup /\
  (∀(i:Nat) k e,ks[i]?=some k->es[i]?=some e->sh.fits k/\e.key=sh.key k/\has k=true/\Rd w F (val k) e.val)/\(∀k,sh.fits k->has k=true->k∈ks)/\Stp es clock /\
  left.Nodup/\(∀k,k∈left↔∃(i:Nat) (e:MapEntry),ks[i]?=some k/\es[i]?=some e/\seen.contains e.born=false) /\
  ∀k,cur=some k->∃(i:Nat) (e:MapEntry),ks[i]?=some k/\es[i]?=some e/\seen.back?=some e.born
theorem ItOk.mono {w w':World}{F F':Nat->Prop}(hF:∀b,F b->F' b)(hh:∀b,F b->w'.heap[b]?=w.heap[b]?){sh:Ksh}{has:List Int->Bool}{val:List Int->D}{left:List (List Int)}{cur:Option (List Int)}{b:Nat}(hb:w'.heap[b]?=w.heap[b]?)(h:ItOk w F sh has val left cur b):ItOk w' F' sh has val left cur b:=by
 obtain⟨bm,clock,seen,es,ks,h1,h2,h3,h4,h5,h6,h7,h8⟩:=h
 exact⟨bm,clock,seen,es,ks,by rw[hb];exact h1,hF _ h2,by rw[hh _ h2];exact h3,h4,h5,fun i k e hi he=>⟨(h6 i k e hi he).1,(h6 i k e hi he).2.1,(h6 i k e hi he).2.2.1,(h6 i k e hi he).2.2.2.mono hF hh⟩,h7,h8⟩
def BlkOk (w:World)(F:Nat->Prop)(σ:Pls):Blk->Pl->Prop
 | .box e cs,pl=>pl.g=0∧pl.sz=cs.length∧∃ b,pl.loc=some (b,1)∧∃ us:List Value,w.heap[b]?=some (.cells us.toArray e (0,0))∧us.length=cs.length ∧
   ∀(j:Nat) A u,cs[j]?=some A->us[j]?=some u->Vc w F σ A u/\u.oneCell'=true
 | .vec e sz g n f,pl=>pl.g=g∧pl.sz=sz∧(pl.loc=none→n=0)∧(∀ i,i < n→(f i).length=sz)∧∀ b tot,pl.loc=some (b,tot)→n≤tot∧tot≤maxLen ∧
   ∃us:List Value,w.heap[b]?=some (.cells us.toArray e (0,0))/\us.length=tot*sz /\
   ∀(i j:Nat) A,i<n->(f i)[j]?=some A->∃u,us[i*sz+j]?=some u/\Vc w F σ A u/\u.oneCell'=true
 | .loop b r env,pl=>pl.g=0/\pl.loc=some (b,1)/\w.heap[b]?=some (.loop r)/\∀(j:Nat) t A,env[j]?=some (t,A)->Vc w F σ A (r.tmps.getD t undef)
 | .map sh has val,pl=>pl.g=0∧∃ b,pl.loc=some (b,1)∧∃ (es:Array MapEntry) (clock:Nat) (ks:List (List Int)),w.heap[b]?=some (.map es clock)∧ks.length=es.size∧ks.Nodup ∧
   (∀(i:Nat) k e,ks[i]?=some k->es[i]?=some e->sh.fits k/\e.key=sh.key k/\has k=true/\Vc w F σ (val k) e.val)/\(∀k,sh.fits k->has k=true->k∈ks)/\Stp es clock
 | .room e sz g n c f,pl=>VecOk w F σ e sz g n f pl/\(pl.loc=none->c=0)/\∀b tot,pl.loc=some (b,tot)->tot=c
 | .ent sh has val key c,pl=>pl.g=0∧∃ b,pl.loc=some (b,1)∧∃ (es:Array MapEntry) (clock:Nat) (ks:List (List Int)),w.heap[b]?=some (.map es clock)∧ks.length=es.size∧ks.Nodup ∧
   (∀(i:Nat) k e,ks[i]?=some k->es[i]?=some e->sh.fits k/\e.key=sh.key k/\has k=true/\(k≠key->Vc w F σ (val k) e.val))/\(∀k,sh.fits k->has k=true->k∈ks)/\Stp es clock /\
   ∃(i:Nat) (e:MapEntry),es[i]?=some e/\ks[i]?=some key/\e.born=c
 | .opq,_=>True
 | .look sh key v hk,pl=>pl.g=0∧∃ b,pl.loc=some (b,1)∧∃ (es:Array MapEntry) (clock:Nat) (ks:List (List Int)),w.heap[b]?=some (.map es clock)∧ks.length=es.size ∧
   (∀(i:Nat) k e,ks[i]?=some k->es[i]?=some e->sh.fits k/\e.key=sh.key k)/\(hk=true->key∈ks)/\∀(i:Nat) e,ks[i]?=some key->es[i]?=some e->Vc w F σ v e.val
 | .iter sh has val left cur,pl=>pl.g=0/\∃b,pl.loc=some (b,1)/\ItOk w F sh has val left cur b
def GOk (F:Nat->Prop)(w:World):Prop:=∀g j v,(g,j,v)∈globs->F g/\w.cell? ⟨g,j,none⟩=some v
theorem GOk.mono {F F':Nat->Prop}{w w':World}(h:GOk F w)(hF:∀b,F b->F' b)(hh:∀b,F b->w'.heap[b]?=w.heap[b]?):GOk F' w':=fun g j v hg=>by
 obtain⟨h1,h2⟩:=h g j v hg
 exact⟨hF g h1,by rw[World.cell?_of_block (w:=w) (hh g h1)];exact h2⟩
structure MemOk (m:Mem)(σ:Pls)(F:Nat->Prop)(w:World):Prop where
 dom:∀r,σ r=none↔m.at r=none
 lv:∀r q,σ r=some q->(q=none->m.at r=some none)/\∀pl,q=some pl->∃B,m.at r=some (some B)/\BlkOk w F σ B pl
 inj:∀r r' pl pl' b t t',σ r=some (some pl)->σ r'=some (some pl')->pl.loc=some (b,t)->pl'.loc=some (b,t')->r=r'
 nf:∀r pl b t,σ r=some (some pl)->pl.loc=some (b,t)->¬ F b/\b<w.heap.size
 fl:∀b,F b->b<w.heap.size
 gl:GOk F w
theorem VecOk.mono {w w':World}{F F':Nat->Prop}{σ σ':Pls}(hF:∀b,F b->F' b)(hh:∀b,F b->w'.heap[b]?=w.heap[b]?)(hs:SLe σ σ')
  {e sz g n:Nat} {f:Nat->List AV} {pl:Pl} (hb:∀b t,pl.loc=some (b,t)->w'.heap[b]?=w.heap[b]?) (h:VecOk w F σ e sz g n f pl):VecOk w' F' σ' e sz g n f pl:=by
 obtain⟨h1,h2,h3,h4,h5⟩:=h
 refine⟨h1,h2,h3,h4,fun b tot hl=>?_⟩
 obtain⟨h6,h6',us,h7,h8,h9⟩:=h5 b tot hl
 refine⟨h6,h6',us,by rw[hb b tot hl];exact h7,h8,fun i j A hi hA=>?_⟩
 obtain⟨u,hu,hv,h1⟩:=h9 i j A hi hA
 exact⟨u,hu,hv.mono hF hh hs,h1⟩
theorem BlkOk.mono {w w':World}{F F':Nat->Prop}{σ σ':Pls}(hF:∀b,F b->F' b)(hh:∀b,F b->w'.heap[b]?=w.heap[b]?)(hs:SLe σ σ')
  {B:Blk} {pl:Pl} (hb:∀b t,pl.loc=some (b,t)->w'.heap[b]?=w.heap[b]?) (h:BlkOk w F σ B pl):BlkOk w' F' σ' B pl:=by
 cases B with
 |box e cs =>
  obtain⟨h1,h2,b,h3,us,h4,h5,h6⟩:=h
  exact⟨h1,h2,b,h3,us,by rw[hb b 1 h3];exact h4,h5,fun j A u hA hu=>⟨(h6 j A u hA hu).1.mono hF hh hs,(h6 j A u hA hu).2⟩⟩
 |vec e sz g n f =>
  obtain⟨h1,h2,h3,h4,h5⟩:=h
  refine⟨h1,h2,h3,h4,fun b tot hl=>?_⟩
  obtain⟨h6,h6',us,h7,h8,h9⟩:=h5 b tot hl
  refine⟨h6,h6',us,by rw[hb b tot hl];exact h7,h8,fun i j A hi hA=>?_⟩
  obtain⟨u,hu,hv,h1⟩:=h9 i j A hi hA
  exact⟨u,hu,hv.mono hF hh hs,h1⟩
 |loop b r env =>
  obtain⟨h1,h2,h3,h4⟩:=h
  exact⟨h1,h2,by rw[hb b 1 h2];exact h3,fun j t A hj=>(h4 j t A hj).mono hF hh hs⟩
 |map sh has val =>
  obtain⟨h1,b,h2,es,clock,ks,h3,h4,h5,h6,h7⟩:=h
  exact⟨h1,b,h2,es,clock,ks,by rw[hb b 1 h2];exact h3,h4,h5,fun i k e hi he=>⟨(h6 i k e hi he).1,(h6 i k e hi he).2.1,(h6 i k e hi he).2.2.1,(h6 i k e hi he).2.2.2.mono hF hh hs⟩,h7⟩
 |room e sz g n c f=>exact⟨VecOk.mono hF hh hs hb h.1,h.2⟩
 |ent sh has val key c =>
  obtain⟨h1,b,h2,es,clock,ks,h3,h4,h5,h6,h7⟩:=h
  exact⟨h1,b,h2,es,clock,ks,by rw[hb b 1 h2];exact h3,h4,h5,fun i k e hi he=>⟨(h6 i k e hi he).1,(h6 i k e hi he).2.1,(h6 i k e hi he).2.2.1,fun hk=>((h6 i k e hi he).2.2.2 hk).mono hF hh hs⟩,h7⟩
 |opq=>exact h
 |iter sh has val left cur =>
  obtain⟨h1,b,h2,h3⟩:=h
  exact⟨h1,b,h2,h3.mono hF hh (hb b 1 h2)⟩
 |look sh key v hk =>
  obtain⟨h1,b,h2,es,clock,ks,h3,h4,h5,h6,h7⟩:=h
  exact⟨h1,b,h2,es,clock,ks,by rw[hb b 1 h2];exact h3,h4,h5,h6,fun i e hi he=>(h7 i e hi he).mono hF hh hs⟩
theorem MemOk.world {m:Mem}{σ:Pls}{F:Nat->Prop}{w w':World}(h:MemOk m σ F w)(hsz:w.heap.size<=w'.heap.size)
  (hk:∀b,(F b\/∃r pl t,σ r=some (some pl)/\pl.loc=some (b,t))->w'.heap[b]?=w.heap[b]?):MemOk m σ F w' where
 dom:=h.dom
 lv r q hq:=⟨(h.lv r q hq).1,fun pl e=>by
  obtain⟨B,hB,hok⟩:=(h.lv r q hq).2 pl e
  exact⟨B,hB,hok.mono (fun _ h=>h) (fun b hb=>hk b (.inl hb)) (SLe.refl σ) (fun b t hl=>hk b (.inr ⟨r,pl,t,by rw[hq,e],hl⟩))⟩⟩
 inj:=h.inj
 nf r pl b t h1 h2:=⟨(h.nf r pl b t h1 h2).1,Nat.lt_of_lt_of_le (h.nf r pl b t h1 h2).2 hsz⟩
 fl b hb:=Nat.lt_of_lt_of_le (h.fl b hb) hsz
 gl:=h.gl.mono (fun _ h=>h) fun b hb=>hk b (.inl hb)
def keyFields (P:Program)(g:TypeId->Option (List IntKind)):List Field->Nat->Option (List IntKind)
 |[],_=>some []
 | f :: r,o=>match g f.type with
  |some ks=>match P.info? f.type with
   |some i=>if f.name≠ "_"/\f.offset=o/\i.size=ks.length then(keyFields P g r (o+ks.length)).map (ks ++ ·) else none
   |none=>none
  |none=>none
def keyShape (P:Program):Nat→TypeId→Option (List IntKind)
 |0,_=>none
 | n + 1,t=>match P.underlying t with
  |some (.int k)=>some [k]
  | some (.array m e)=>match keyShape P n e with
   |some ks=>match P.info? e with
    |some i=>if i.size=ks.length then some (List.replicate m ks).flatten else none
    |none=>none
   |none=>none
  |some (.struct fs)=>if P.stoodInHeld t then none else keyFields P (keyShape P n) fs.toList 0
  |_=>none
def vals (ks:List IntKind)(l:List Int):List Value:=List.zipWith Value.int ks l
theorem vals_len {ks:List IntKind}{l:List Int}(h:l.length=ks.length):(vals ks l).length=ks.length:=by
 simp[vals,h]
theorem vals_app {ks ks':List IntKind}{l l':List Int}(h:l.length=ks.length):vals (ks++ks') (l++l')=vals ks l++vals ks' l':=by
 unfold vals
 exact List.zipWith_append h.symm
theorem cut_app {ks ks':List IntKind}{l:List Int}(h:l.length=(ks++ks').length):∃a b,l=a++b/\a.length=ks.length/\b.length=ks'.length:=by
 rw[List.length_append]at h
 exact⟨l.take ks.length,l.drop ks.length,(List.take_append_drop _ _).symm,by rw[List.length_take];omega,by rw[List.length_drop];omega⟩
def keyVal (P:Program)(t:TypeId)(us:List Value):Value :=
 match P.underlying t with
 |some (.int _)=>us.headD undef
 |_=>.agg us.toArray
section
variable {P:Program}
theorem part_key {n:Nat}{t:TypeId}{ks:List IntKind}(h:keyShape P n t=some ks){i:TypeInfo}(hi:P.info? t=some i)(hs:i.size=ks.length){l:List Int}(hl:l.length=ks.length)
  (pre post:List Value) (w:World):(part t (pre++(vals ks l++post)).toArray pre.length).run P w=.ok (keyVal P t (vals ks l)) w:=by
 cases n with
 |zero=>simp[keyShape]at h
 | succ n =>
  have hc:P.cellsOf t=ks.length:=by simp[Program.cellsOf,hi,hs]
  have ex:((pre++(vals ks l++post)).toArray.extract pre.length (pre.length+ks.length))=(vals ks l).toArray:=by
   rw[List.extract_toArray,List.extract_eq_take_drop]
   rw[List.drop_left,Nat.add_sub_cancel_left,<-vals_len hl,List.take_left]
  unfold keyShape at h
  split at h
  .rename_i k hu
   simp only[Option.some.injEq]at h
   subst h
   match l,hl with
   |[a],_=>simp[part,isAgg,run_underlying hu,keyVal,hu,vals]
  .rename_i m e hu
   simp only[part,isAgg,Sem.run_bind,run_underlying hu,Result.andThen_ok,Sem.run_pure,Sem.run_ite,run_sizeOf w hi,hc,ex,keyVal,hu]
   simp
  .rename_i fs hu
   simp only[part,isAgg,Sem.run_bind,run_underlying hu,Result.andThen_ok,Sem.run_pure,Sem.run_ite,run_sizeOf w hi,hc,ex,keyVal,hu]
   simp
  .cases h
theorem decide_app {a a' b b':List Int}(h:a.length=a'.length):decide (a++b=a'++b')=(decide (a=a')&&decide (b=b')):=by
 rw[Bool.eq_iff_iff,Bool.and_eq_true,decide_eq_true_eq,decide_eq_true_eq,decide_eq_true_eq]
 exact⟨fun e=>List.append_inj e h,fun⟨e1,e2⟩=>by rw[e1,e2]⟩
def EqK (P:Program)(t:TypeId)(ks:List IntKind)(d:Nat):Prop:=∀(l l':List Int),l.length=ks.length->l'.length=ks.length->∀w,(Op.equalIn d t (keyVal P t (vals ks l)) (keyVal P t (vals ks l'))).run P w=.ok (decide (l=l')) w
theorem eqF_key {n d:Nat}(ih:∀t ks,keyShape P n t=some ks->EqK P t ks d):∀(fs:List Field) (ks:List IntKind) (pre pre':List Value),keyFields P (keyShape P n) fs pre.length=some ks->pre'.length=pre.length ->
  ∀(l l':List Int),l.length=ks.length->l'.length=ks.length->∀w,(Op.eqFields d (pre++vals ks l).toArray (pre'++vals ks l').toArray fs).run P w=.ok (decide (l=l')) w
 |[],ks,pre,pre',h,hp,l,l',hl,hl',w=>by
  simp[keyFields]at h
  subst h
  simp at hl hl'
  subst hl;subst hl'
  simp[Op.eqFields]
 |f::r,ks,pre,pre',h,hp,l,l',hl,hl',w=>by
  simp only[keyFields]at h
  split at h<;>try (cases h;done)
  rename_i k1 hk1
  split at h<;>try (cases h;done)
  rename_i i hi
  split at h<;>try (cases h;done)
  rename_i hc
  obtain⟨c1,c2,c3⟩:=hc
  rw[Option.map_eq_some_iff]at h
  obtain⟨k2,hk2,rfl⟩:=h
  obtain⟨a,b,rfl,ha,hb⟩:=cut_app hl
  obtain⟨a',b',rfl,ha',hb'⟩:=cut_app hl'
  rw[vals_app ha,vals_app ha']
  have p1:=part_key hk1 hi c3 ha pre (vals k2 b) w
  have p2:=part_key hk1 hi c3 ha' pre' (vals k2 b') w
  have p3:=ih _ _ hk1 a a' ha ha' w
  rw[<-c2]at p1
  rw[hp,<-c2]at p2
  have hrec:=eqF_key ih r k2 (pre++vals k1 a) (pre'++vals k1 a') (by rw[List.length_append,vals_len ha];exact hk2) (by simp[vals_len ha,vals_len ha',hp]) b b' hb hb' w
  rw[List.append_assoc,List.append_assoc]at hrec
  simp only[Op.eqFields,ne_eq,c1,not_false_eq_true,if_true,Sem.run_bind,p1,p2,p3,Result.andThen_ok,Sem.run_ite]
  rw[decide_app (by rw[ha,ha'])]
  cases hd:decide (a=a')
  .simp
  .simpa using hrec
theorem eqI_key {e:TypeId}{n d:Nat}{ks:List IntKind}{i:TypeInfo}(hk:keyShape P n e=some ks)(hi:P.info? e=some i)(hs:i.size=ks.length)(ih:EqK P e ks d):∀(m j:Nat) (pre pre':List Value),pre.length=j*ks.length->pre'.length=j*ks.length ->
  ∀(l l':List Int),l.length=((List.replicate m ks).flatten).length->l'.length=((List.replicate m ks).flatten).length->∀w,
   (Op.eqItems d e (P.cellsOf e) (pre++vals (List.replicate m ks).flatten l).toArray (pre'++vals (List.replicate m ks).flatten l').toArray (List.range' j m)).run P w=.ok (decide (l=l')) w
 |0,j,pre,pre',hp,hp',l,l',hl,hl',w=>by
  simp at hl hl'
  subst hl;subst hl'
  simp[Op.eqItems]
 |m+1,j,pre,pre',hp,hp',l,l',hl,hl',w=>by
  have hc:P.cellsOf e=ks.length:=by simp[Program.cellsOf,hi,hs]
  rw[List.replicate_succ,List.flatten_cons]at hl hl'⊢
  obtain⟨a,b,rfl,ha,hb⟩:=cut_app hl
  obtain⟨a',b',rfl,ha',hb'⟩:=cut_app hl'
  rw[vals_app ha,vals_app ha']
  have p1:=part_key hk hi hs ha pre (vals (List.replicate m ks).flatten b) w
  have p2:=part_key hk hi hs ha' pre' (vals (List.replicate m ks).flatten b') w
  have p3:=ih a a' ha ha' w
  rw[hp]at p1
  rw[hp']at p2
  have hrec:=eqI_key hk hi hs ih m (j+1) (pre++vals ks a) (pre'++vals ks a') (by rw[List.length_append,vals_len ha,hp,Nat.succ_mul]) (by rw[List.length_append,vals_len ha',hp',Nat.succ_mul]) b b' hb hb' w
  rw[List.append_assoc,List.append_assoc]at hrec
  rw[hc]at hrec⊢
  simp only[List.range'_succ,Op.eqItems,Sem.run_bind,p1,p2,p3,Result.andThen_ok,Sem.run_ite]
  rw[decide_app (by rw[ha,ha'])]
  cases hd:decide (a=a')
  .simp
  .simpa using hrec
theorem eq_key:∀(n:Nat) (t:TypeId) (ks:List IntKind),keyShape P n t=some ks->∀d,n<=d->EqK P t ks d
 |0,t,ks,h,d,hd=>by simp[keyShape]at h
 | n + 1,t,ks,h,d,hd=>by
  obtain⟨d,rfl⟩:∃d',d=d'+1:=⟨d-1,Om⟩
  intro l l' hl hl' w
  unfold keyShape at h
  split at h
  .rename_i k hu
   simp only[Option.some.injEq]at h
   subst h
   match l,l',hl,hl' with
   |[a],[b],_,_ =>
    simp only[keyVal,hu,vals,List.zipWith_cons_cons,List.headD_cons]
    rw[run_equalIn_int w d t k k a b hu]
    congr 1
    by_cases e:a=b<;>simp[e]
  .rename_i m e hu
   split at h<;>try (cases h;done)
   rename_i k1 hk1
   split at h<;>try (cases h;done)
   rename_i i hi
   split at h<;>try (cases h;done)
   rename_i hs
   simp only[Option.some.injEq]at h
   subst h
   simp only[keyVal,hu]
   rw[run_equalIn_array (w:=w) d _ _ hu hi,List.range_eq_range']
   simpa using eqI_key hk1 hi hs (eq_key n e k1 hk1 d Om) m 0 [] [] (by simp) (by simp) l l' hl hl' w
  .rename_i fs hu
   split at h<;>try (cases h;done)
   rename_i hst
   have hfo:P.fieldsOf t=fs:=by simp[Program.fieldsOf,hu]
   simp only[keyVal,hu]
   rw[run_equalIn_struct w d t _ _ (by rw[hfo];exact hu) (by simpa using hst),hfo]
   simpa using eqF_key (fun t ks h=>eq_key n t ks h d Om) fs.toList ks [] [] h rfl l l' hl hl' w
  .cases h
theorem eachF {n:Nat}:∀(fs:List Field) (ks:List IntKind) (pre:List Value),keyFields P (keyShape P n) fs pre.length=some ks->∀l:List Int,l.length=ks.length ->
  ∀f∈fs,f.name≠ "_"/\∃k1 a,keyShape P n f.type=some k1/\a.length=k1.length/\∀w,(part f.type (pre++vals ks l).toArray f.offset).run P w=.ok (keyVal P f.type (vals k1 a)) w
 |[],ks,pre,h,l,hl,f,hf=>by simp at hf
 | f0 :: r,ks,pre,h,l,hl,f,hf=>by
  simp only[keyFields]at h
  split at h<;>try (cases h;done)
  rename_i k1 hk1
  split at h<;>try (cases h;done)
  rename_i i hi
  split at h<;>try (cases h;done)
  rename_i hc
  obtain⟨c1,c2,c3⟩:=hc
  rw[Option.map_eq_some_iff]at h
  obtain⟨k2,hk2,rfl⟩:=h
  obtain⟨a,b,rfl,ha,hb⟩:=cut_app hl
  rw[vals_app ha]
  rcases List.mem_cons.1 hf with rfl|hf
  .exact⟨c1,k1,a,hk1,ha,fun w=>by rw[c2];exact part_key hk1 hi c3 ha pre (vals k2 b) w⟩
  .have hrec:=eachF r k2 (pre++vals k1 a) (by rw[List.length_append,vals_len ha];exact hk2) b hb f hf
   rwa [List.append_assoc]at hrec
theorem eachI {e:TypeId}{n:Nat}{ks:List IntKind}{i:TypeInfo}(hk:keyShape P n e=some ks)(hi:P.info? e=some i)(hs:i.size=ks.length):∀(m j:Nat) (pre:List Value),pre.length=j*ks.length ->
  ∀l:List Int,l.length=((List.replicate m ks).flatten).length->∀k∈List.range' j m,∃a,a.length=ks.length/\∀w,(part e (pre++vals (List.replicate m ks).flatten l).toArray (k*P.cellsOf e)).run P w=.ok (keyVal P e (vals ks a)) w
 |0,j,pre,hp,l,hl,k,hk=>by simp at hk
 | m + 1,j,pre,hp,l,hl,k,hkm=>by
  have hc:P.cellsOf e=ks.length:=by simp[Program.cellsOf,hi,hs]
  rw[List.replicate_succ,List.flatten_cons]at hl⊢
  obtain⟨a,b,rfl,ha,hb⟩:=cut_app hl
  rw[vals_app ha]
  rw[List.range'_succ]at hkm
  rcases List.mem_cons.1 hkm with rfl|hkm
  .exact⟨a,ha,fun w=>by rw[hc,<-hp];exact part_key hk hi hs ha pre (vals (List.replicate m ks).flatten b) w⟩
  .have hrec:=eachI hk hi hs m (j+1) (pre++vals ks a) (by rw[List.length_append,vals_len ha,hp,Nat.succ_mul]) b hb k hkm
   rwa [List.append_assoc]at hrec
def ChK (P:Program)(em:Bool)(t:TypeId)(ks:List IntKind)(d:Nat):Prop:=∀(l:List Int),l.length=ks.length->∀w,(Instr.checkKey em d t (keyVal P t (vals ks l))).run P w=.ok () w
theorem ch_key (em:Bool):∀(n:Nat) (t:TypeId) (ks:List IntKind),keyShape P n t=some ks->∀d,n<=d->ChK P em t ks d
 |0,t,ks,h,d,hd=>by simp[keyShape]at h
 | n + 1,t,ks,h,d,hd=>by
  obtain⟨d,rfl⟩:∃d',d=d'+1:=⟨d-1,Om⟩
  intro l hl w
  unfold keyShape at h
  split at h
  .rename_i k hu
   simp only[Option.some.injEq]at h
   subst h
   match l,hl with
   |[a],_=>simp[keyVal,hu,vals,Instr.checkKey,run_underlying hu]
  .rename_i m e hu
   split at h<;>try (cases h;done)
   rename_i k1 hk1
   split at h<;>try (cases h;done)
   rename_i i hi
   split at h<;>try (cases h;done)
   rename_i hs
   simp only[Option.some.injEq]at h
   subst h
   have hc:P.cellsOf e=k1.length:=by simp[Program.cellsOf,hi,hs]
   simp only[keyVal,hu]
   rw[Instr.checkKey]
   simp only[Sem.run_bind,run_underlying hu,Result.andThen_ok]
   simp only[Std.Legacy.Range.forIn_eq_forIn_range',Std.Legacy.Range.size,Nat.sub_zero,Nat.add_one_sub_one,Nat.div_one]
   have IH:=ch_key em n e k1 hk1 d Om
   have each:=eachI hk1 hi hs m 0 [] (by simp) l hl
   simp only[List.nil_append]at each
   generalize List.range' 0 m=is at each
   induction is with
   |nil=>simp
   |cons j is ih =>
    obtain⟨a,ha,p1⟩:=each j (by simp)
    have p2:=IH a ha
    simp only[List.forIn_cons,Sem.run_bind,run_sizeOf w hi,Result.andThen_ok,p1,p2,Sem.run_pure]
    exact ih (fun y hy=>each y (by simp[hy]))
  .rename_i fs hu
   split at h<;>try (cases h;done)
   simp only[keyVal,hu]
   rw[Instr.checkKey]
   simp only[Sem.run_bind,run_underlying hu,Result.andThen_ok]
   rw[<-Array.forIn_toList]
   have IH:=fun t ks h=>ch_key em n t ks h d Om
   have each:=eachF fs.toList ks [] h l hl
   simp only[List.nil_append]at each
   clear hu h
   generalize fs.toList=L at each
   induction L with
   |nil=>simp
   |cons f L ih =>
    obtain⟨hn,k1,a,hk1,ha,p1⟩:=each f (by simp)
    have p2:=IH _ _ hk1 a ha
    simp only[List.forIn_cons,Sem.run_bind,hn,ne_eq,not_false_eq_true,if_true,Result.andThen_ok,p1,p2,Sem.run_pure]
    exact ih (fun y hy=>each y (by simp[hy]))
  .cases h
theorem bits_vals:∀(ks:List IntKind) (l:List Int) (n:Nat),(((vals ks l).zip (vals ks l)).all fun(x,y)=>Instr.sameBits n x y)=true
 |[],l,n=>by simp[vals]
 |k::r,[],n=>by simp[vals]
 |k::r,a::l,n=>by
  have:=bits_vals r l n
  simp only[vals,List.zipWith_cons_cons,List.zip_cons_cons,List.all_cons]at this⊢
  rw[this,Bool.and_true]
  cases n<;>simp[Instr.sameBits]
def KeyT (P:Program)(kt:TypeId)(ks:List IntKind):Prop:=keyShape P 8 kt=some ks/\(match P.underlying kt with|some (.int _)=>False|_=>True)
theorem KeyT.val {kt:TypeId}{ks:List IntKind}(h:KeyT P kt ks)(us:List Value):keyVal P kt us=.agg us.toArray:=by
 have:=h.2
 unfold keyVal
 split at this
 .exact this.elim
 .rfl
theorem many_check {kt:TypeId}{ks:List IntKind}(h:KeyT P kt ks){l:List Int}(hl:l.length=ks.length)(b:Bool)(w:World):(Instr.checkKey b 10000 kt (.agg (vals ks l).toArray)).run P w=.ok () w:=by
 rw[<-h.val]
 exact ch_key b 8 kt ks h.1 10000 Om l hl w
theorem many_stays (ks:List IntKind)(l:List Int)(w:World):(Instr.keyThatStays (.agg (vals ks l).toArray) (.agg (vals ks l).toArray)).run P w=.ok (.agg (vals ks l).toArray) w:=by
 have h:Instr.sameBits 10000 (.agg (vals ks l).toArray) (.agg (vals ks l).toArray)=true:=by
  show((vals ks l).toArray.size==(vals ks l).toArray.size&&_)=true
  rw[beq_self_eq_true,Bool.true_and]
  exact bits_vals ks l 9999
 simp only[Instr.keyThatStays,h,if_true,Sem.run_pure]
theorem many_equal {kt:TypeId}{ks:List IntKind}(h:KeyT P kt ks){l l':List Int}(hl:l.length=ks.length)(hl':l'.length=ks.length)(w:World) :
  (Op.equal kt (.agg (vals ks l).toArray) (.agg (vals ks l').toArray)).run P w=.ok (decide (l=l')) w:=by
 rw[<-h.val,<-h.val]
 exact eq_key 8 kt ks h.1 10000 Om l l' hl hl' w
theorem many_asking {kt:TypeId}{ks:List IntKind}(h:KeyT P kt ks){k:List Int}(hk:k.length=ks.length):∀(es:List MapEntry) (kl:List (List Int)) (i:Nat),kl.length=es.length ->
  (∀(j:Nat) k e,kl[j]?=some k->es[j]?=some e->k.length=ks.length/\e.key=.agg (vals ks k).toArray) ->
  (k ∉ kl/\∀w,(Instr.findAsking kt (.agg (vals ks k).toArray) es i).run P w=.ok none w) \/
  ∃j e,es[j]?=some e/\kl[j]?=some k/\∀w,(Instr.findAsking kt (.agg (vals ks k).toArray) es i).run P w=.ok (some (i+j,e.val)) w
 |[],[],i,_,_=>.inl ⟨by simp,by simp[Instr.findAsking]⟩
 | e :: es,k' :: kl,i,hl,ha=>by
  obtain⟨h1,h2⟩:=ha 0 k' e rfl rfl
  have he:=many_equal h hk h1
  rw[<-h2]at he
  by_cases hkk:k=k'
  .refine .inr ⟨0,e,rfl,by simp[hkk],fun w=>?_⟩
   rw[decide_eq_true hkk]at he
   simp[Instr.findAsking,he w]
  .rw[decide_eq_false hkk]at he
   rcases many_asking h hk es kl (i+1) (by simpa using hl) (fun j k e hj he=>ha (j+1) k e (by simpa using hj) (by simpa using he)) with ⟨g1,g2⟩|⟨j,e',g1,g2,g3⟩
   .exact .inl ⟨by simp[hkk,g1],fun w=>by simp[Instr.findAsking,he w,g2 w]⟩
   .exact .inr ⟨j+1,e',by simpa using g1,by simpa using g2,fun w=>by simp[Instr.findAsking,he w,g3 w,Nat.add_assoc,Nat.add_comm 1 j]⟩
 |[],_::_,i,hl,_=>by simp at hl
 |_::_,[],i,hl,_=>by simp at hl
theorem many_find {kt:TypeId}{ks:List IntKind}(h:KeyT P kt ks){k:List Int}(hk:k.length=ks.length)(es:List MapEntry)(kl:List (List Int))(hl:kl.length=es.length)
  (ha:∀(j:Nat) k e,kl[j]?=some k->es[j]?=some e->k.length=ks.length/\e.key=.agg (vals ks k).toArray) :
  (k ∉ kl/\∀w,(Instr.findKey kt (.agg (vals ks k).toArray) es).run P w=.ok none w) \/
  ∃j e,es[j]?=some e/\kl[j]?=some k/\∀w,(Instr.findKey kt (.agg (vals ks k).toArray) es).run P w=.ok (some (j,e.val)) w:=by
 obtain⟨td,hu⟩:∃td,P.underlying kt=some td:=by
  cases hu:P.underlying kt with
  |none=>have:=h.1;simp[keyShape,hu]at this
  |some d=>exact⟨d,rfl⟩
 have hnow:∀e r i,Instr.findNow td (.agg (vals ks k).toArray) (e::r) i=none:=fun e r i=>by
  simp[Instr.findNow,Instr.sameNow]
 cases es with
 |nil =>
  cases kl with
  |nil=>exact .inl ⟨by simp,fun w=>by simp[Instr.findKey,run_underlying hu,Instr.findNow]⟩
  |cons=>simp at hl
 | cons e r =>
  have hf:∀w,(Instr.findKey kt (.agg (vals ks k).toArray) (e::r)).run P w=(Instr.findAsking kt (.agg (vals ks k).toArray) (e::r)).run P w:=fun w=>by
   simp[Instr.findKey,run_underlying hu,hnow]
  rcases many_asking h hk (e::r) kl 0 hl ha with ⟨g1,g2⟩|⟨j,e',g1,g2,g3⟩
  .exact .inl ⟨g1,fun w=>by rw[hf];exact g2 w⟩
  .exact .inr ⟨j,e',g1,g2,fun w=>by rw[hf,g3 w,Nat.zero_add]⟩
end
theorem viewStore_drawn {P:Program}{w w':World}{a:Addr}{u:TypeId}{k:Addr}{v:Value}{at_:Bool}{l:List Addr}(h:w.viewStore P a u k v at_=.ok (w',l)):w'.drawn=w.drawn:=by
 simp only[World.viewStore,bind,Except.bind,pure,Except.pure]at h
 repeat' (split at h<;>try (cases h;done))
 all_goals (injection h with h;injection h with h1 h2;subst h1;rfl)
theorem ask_drawn {α:Type}:∀(q:Ask α) (w:World),w.drawn<=(w.ask q).2.drawn
 | .done a,w=>Nat.le_refl _
 | .ask what range k,w=>by
  rw[World.ask]
  split
  .exact ask_drawn (k 0) w
  .exact Nat.le_trans (Nat.le_succ _) (ask_drawn (k _) {w with drawn:=w.drawn+1})
theorem sys_drawn (w:World)(c:Sys):w.drawn<=(w.sys c).2.drawn:=by
 have h:=ask_drawn (Kernel.perform c w.os) w
 unfold World.sys
 split
 .exact Nat.le_refl _
 .rename_i r os w1 hne e
  rw[e]at h
  exact h
theorem run_drawn {α:Type}{P:Program}:∀(s:Sem α) {w w':World} {x:α},s.run P w=.ok x w'->w.drawn<=w'.drawn
 | .pure a,w,w',x,h=>by
  simp only[Sem.run]at h
  injection h with _ h
  rw[h];exact Nat.le_refl _
 | .load m a k,w,w',x,h=>by
  simp only[Sem.run]at h
  split at h
  .exact run_drawn _ h
  .split at h
   .exact run_drawn _ h
   .cases h
 | .store m a v k,w,w',x,h=>by
  have main:(match w.cell? a with
    |some _=>if w.frozen? a then(.halt (.unsupported (.unsafePointer "a write to bytes that a string shares")) w:Result α) else k.run P (w.setCell a v)
    |none=>match World.farStore P w a v (m==Mode.atomic) with
     | .ok (w,_)=>k.run P w
     | .error h=>.halt h w)=.ok x w'->w.drawn<=w'.drawn:=fun h=>by
   split at h
   .split at h
    .cases h
    .have h1:=run_drawn k h
     exact h1
   .split at h
    .rename_i w1 l e
     have h1:=run_drawn k h
     unfold World.farStore at e
     split at e
     .split at e
      .rename_i r er
       injection e with e
       subst e
       have:=viewStore_drawn er
       omega
      .cases e
     .cases e
    .cases h
  cases v<;>first
   |exact main h
   |cases h
 | .new o k,w,w',x,h=>by
  simp only[Sem.run]at h
  have h1:=run_drawn _ h
  exact h1
 | .shape r k,w,w',x,h=>by
  simp only[Sem.run]at h
  exact run_drawn _ h
 | .freeze a n k,w,w',x,h=>by
  simp only[Sem.run]at h
  have h1:=run_drawn _ h
  refine Nat.le_trans ?_ h1
  unfold World.freeze
  repeat' split
  all_goals exact Nat.le_refl _
 | .frozen a k,w,w',x,h=>by
  simp only[Sem.run]at h
  exact run_drawn _ h
 | .getObj r k,w,w',x,h=>by
  simp only[Sem.run]at h
  split at h
  .cases h
  .exact run_drawn _ h
  .cases h
 | .setObj r o k,w,w',x,h=>by
  simp only[Sem.run]at h
  split at h
  .cases h
  .have h1:=run_drawn k h
   exact h1
  .cases h
 | .choose q k,w,w',x,h=>by
  simp only[Sem.run]at h
  split at h
  .exact run_drawn _ h
  .exact Nat.le_trans (Nat.le_succ _) (run_drawn _ h)
 | .sys c k,w,w',x,h=>by
  simp only[Sem.run]at h
  exact Nat.le_trans (sys_drawn w c) (run_drawn _ h)
 | .program k,w,w',x,h=>by
  simp only[Sem.run]at h
  exact run_drawn _ h
 | .mark m k,w,w',x,h=>by
  simp only[Sem.run]at h
  exact run_drawn k h
 | .halt h0,w,w',x,h=>by
  simp only[Sem.run]at h
  cases h
inductive TK:Type where
  |int (k:IntKind)|bool|str
  |ptr (e:TypeId)|sl (e:TypeId)|arr (n:Nat) (e:TypeId)|st (fs:List (Nat × TypeId))
  |map (k e:TypeId)|fn|ifc|other
structure TI where
  k:TK
  size:Nat
  bytes:Nat
  zero:List D
  eq:Bool:=false
  ks:List IntKind:=[]
abbrev Tab:=List (Nat × TI)
def Tab.at:Tab->Nat->Option TI
  |[],_=>none
  |(k,v)::r,t=>bif Nat.beq k t then some v else Tab.at r t
def TK.agg:TK->Bool
  | .arr _ _ | .st _=>true
  |_=>false
def sameZ:Value->D->Bool
  | .int k n,.int k' n'=>decide (k=k')&&decide (n=n')
  | .bool b,.bool b'=>decide (b=b')
  | .string s,.str s'=>decide (s=s')
  | .pointer none,.nilp=>true
  | .nilIface,.nili=>true
  | .nilFunc,.nilf=>true
  | .map none,.nilm=>true
  | .slice none 0 0,.nils=>true
  |_,_=>false
def sameZs:List Value->List D->Bool
  |[],[]=>true
  |v::r,x::s=>sameZ v x&&sameZs r s
  |_,_=>false
theorem sameZ_sound {w:World}{F:Nat->Prop}{v:Value}{x:D}(h:sameZ v x=true):Rd w F x v/\v.oneCell'=true:=by
  unfold sameZ at h
  split at h<;>simp at h
  · obtain⟨rfl,rfl⟩:=h;exact⟨.int,rfl⟩
  · subst h;exact⟨.bool,rfl⟩
  · subst h;exact⟨.str,rfl⟩
  · exact⟨.nilp,rfl⟩
  · exact⟨.nili,rfl⟩
  · exact⟨.nilf,rfl⟩
  · exact⟨.nilm,rfl⟩
  · exact⟨.nils,rfl⟩
theorem sameZs_sound {w:World}{F:Nat->Prop}:∀{vs:List Value} {xs:List D},sameZs vs xs=true ->
    vs.length=xs.length/\∀(j:Nat) x u,xs[j]?=some x->vs[j]?=some u->Rd w F x u/\u.oneCell'=true
  |[],[],_=>⟨rfl,fun j x u h=>by simp at h⟩
  | v :: r,x :: s,h=>by
    simp only[sameZs,Bool.and_eq_true]at h
    obtain⟨h1,h2⟩:=sameZs_sound h.2
    refine⟨by simp[h1],fun j y u hy hu=>?_⟩
    cases j with
    |zero=>simp at hy hu;subst hy;subst hu;exact sameZ_sound h.1
    |succ j=>exact h2 j y u (by simpa using hy) (by simpa using hu)
  |[],_::_,h=>by simp[sameZs]at h
  |_::_,[],h=>by simp[sameZs]at h
def fieldsAre (P:Program):List Field->List (Nat × TypeId)->Bool
  |[],[]=>true
  |f::r,(o,t)::s=>Nat.beq f.offset o&&Nat.beq f.type t&&!Nat.beq (P.cellsOf t) 0&&fieldsAre P r s
  |_,_=>false
def kindIs (P:Program)(t:TypeId):TK->Bool
  | .int k=>match P.underlying t with|some (.int k')=>decide (k'=k)|_=>false
  | .bool=>match P.underlying t with|some .bool=>true|_=>false
  | .str=>match P.underlying t with|some .string=>true|_=>false
  | .ptr e=>match P.underlying t with|some (.pointer e')=>Nat.beq e' e|_=>false
  | .sl e=>match P.underlying t with|some (.slice e')=>Nat.beq e' e&&!Nat.beq (P.cellsOf e) 0|_=>false
  | .arr n e=>match P.underlying t with|some (.array n' e')=>Nat.beq n' n&&Nat.beq e' e|_=>false
  | .st fs=>match P.underlying t with|some (.struct fs')=>fieldsAre P fs'.toList fs|_=>false
  | .map k e=>match P.underlying t with|some (.map k' e')=>Nat.beq k' k&&Nat.beq e' e|_=>false
  | .fn=>match P.underlying t with|some (.func _ _ _)=>true|_=>false
  | .ifc=>match P.underlying t with|some (.interface _)=>true|_=>false
  | .other=>match P.underlying t with|some (.struct _)|some (.array _ _)|none=>false|_=>true
def eqIs (P:Program) (t:TypeId):Bool :=
  !P.stoodInHeld t&&!P.eqGuardType P.depth t&&match P.underlying t with
    |some (.struct fs)=>fs.toList.all fun f=>decide (f.name≠ "_")
    |_=>false
def isAggV:Value->Bool
  | .agg _=>true
  |_=>false
def keyIs (P:Program) (t:TypeId) (ks:List IntKind):Bool :=
  (match P.underlying t with|some (.int _)=>false|_=>true)&&match keyShape P 8 t with
    |some l=>decide (l=ks)
    |none=>false
def tiIs (P:Program) (t:TypeId) (ti:TI):Bool :=
  ((!ti.eq || eqIs P t) && (ti.ks.isEmpty || keyIs P t ti.ks)) && kindIs P t ti.k && match P.info? t with
    | some i=>Nat.beq i.size ti.size && Nat.beq i.bytes ti.bytes && match i.zero with
      |some z=>sameZs z.cells.toList ti.zero&&Nat.beq z.cells.size ti.size&&(isAggV z==ti.k.agg)
      |none=>false
    |none=>false
def tabIs (P:Program):Tab->Bool
  |[]=>true
  |(t,ti)::r=>tiIs P t ti&&tabIs P r
def TabOk (P:Program)(T:Tab):Prop:=∀t ti,T.at t=some ti->tiIs P t ti=true
theorem tabOk_of {P:Program}:∀{T:Tab},tabIs P T=true->TabOk P T
  |[],_=>fun t ti h=>by simp[Tab.at]at h
  | (k,v) :: r,h=>fun t ti ht=>by
    simp only[tabIs,Bool.and_eq_true]at h
    unfold Tab.at at ht
    cases hk:Nat.beq k t with
    | true =>
      rw[hk]at ht
      simp at ht
      have:=Nat.eq_of_beq_eq_true hk
      subst this;subst ht
      exact h.1
    |false=>rw[hk]at ht;exact tabOk_of h.2 t ti ht
section table
variable {P:Program}{T:Tab}{t:TypeId}{ti:TI}
theorem tiIs_info (h:tiIs P t ti=true):∃i z,P.info? t=some i/\i.size=ti.size/\i.bytes=ti.bytes/\i.zero=some z/\sameZs z.cells.toList ti.zero=true/\z.cells.size=ti.size:=by
  unfold tiIs at h
  simp only[Bool.and_eq_true]at h
  obtain⟨_,h⟩:=h
  split at h
  · rename_i i hi
    simp only[Bool.and_eq_true]at h
    obtain⟨⟨h1,h2⟩,h3⟩:=h
    split at h3
    · rename_i z hz
      simp only[Bool.and_eq_true]at h3
      exact⟨i,z,hi,Nat.eq_of_beq_eq_true h1,Nat.eq_of_beq_eq_true h2,hz,h3.1.1,Nat.eq_of_beq_eq_true h3.1.2⟩
    · cases h3
  · cases h
theorem tiIs_kind (h:tiIs P t ti=true):kindIs P t ti.k=true:=by
  unfold tiIs at h
  simp only[Bool.and_eq_true]at h
  exact h.1.2
theorem tiIs_eq (h:tiIs P t ti=true)(he:ti.eq=true):P.stoodInHeld t=false/\P.eqGuardType P.depth t=false/\∀fs,P.underlying t=some (.struct fs)->∀f∈fs.toList,f.name≠ "_":=by
  unfold tiIs at h
  simp only[Bool.and_eq_true,he,Bool.not_true,Bool.false_or]at h
  have h:=h.1.1.1
  unfold eqIs at h
  simp only[Bool.and_eq_true,Bool.not_eq_true']at h
  obtain⟨⟨h1,h2⟩,h3⟩:=h
  refine⟨h1,h2,fun fs hfs f hf=>?_⟩
  rw[hfs]at h3
  simp only[List.all_eq_true]at h3
  exact of_decide_eq_true (h3 f hf)
theorem tiIs_ks (h:tiIs P t ti=true) {k:IntKind} {r:List IntKind} (e:ti.ks=k :: r):KeyT P t ti.ks:=by
  unfold tiIs at h
  simp only[Bool.and_eq_true]at h
  have h:=h.1.1.2
  rw[e,List.isEmpty_cons,Bool.false_or,<-e]at h
  unfold keyIs at h
  rw[Bool.and_eq_true]at h
  obtain⟨h1,h2⟩:=h
  split at h2
  · rename_i l hl
    refine⟨by rw[hl,of_decide_eq_true h2],?_⟩
    split at h1
    · cases h1
    · rename_i hn
      first
        |trivial
        | (split
           · rename_i k hu
             exact hn _ hu
           · trivial)
  · cases h2
theorem kindIs_sl {e:TypeId}(h:kindIs P t (.sl e)=true):P.underlying t=some (.slice e):=by
  simp only[kindIs]at h
  split at h
  · rename_i e' he
    simp only[Bool.and_eq_true]at h
    rw[he,Nat.eq_of_beq_eq_true h.1]
  · cases h
theorem kindIs_map {k e:TypeId}(h:kindIs P t (.map k e)=true):P.underlying t=some (.map k e):=by
  simp only[kindIs]at h
  split at h<;>simp at h
  rename_i k' e' hu
  obtain⟨rfl,rfl⟩:=h
  exact hu
theorem kindIs_arr {n:Nat}{e:TypeId}(h:kindIs P t (.arr n e)=true):P.underlying t=some (.array n e):=by
  simp only[kindIs]at h
  split at h
  · rename_i n' e' he
    simp only[Bool.and_eq_true]at h
    rw[he,Nat.eq_of_beq_eq_true h.1,Nat.eq_of_beq_eq_true h.2]
  · cases h
theorem fieldsAre_at:∀{fs:List Field} {gs:List (Nat × TypeId)},fieldsAre P fs gs=true->fs.length=gs.length/\∀(k o:Nat) (u:TypeId),gs[k]?=some (o,u) ->
    ∃f,fs[k]?=some f/\f.offset=o/\f.type=u/\P.cellsOf u≠0
  |[],[],_=>⟨rfl,fun k o u h=>by simp at h⟩
  | f :: r,(o,u) :: s,h=>by
    simp only[fieldsAre,Bool.and_eq_true,Bool.not_eq_true']at h
    obtain⟨⟨⟨h1,h2⟩,h3⟩,h4⟩:=h
    obtain⟨h5,h6⟩:=fieldsAre_at h4
    refine⟨by simp[h5],fun k o' u' hk=>?_⟩
    cases k with
    | zero =>
      simp at hk
      obtain⟨rfl,rfl⟩:=hk
      exact⟨f,rfl,Nat.eq_of_beq_eq_true h1,Nat.eq_of_beq_eq_true h2,Nat.ne_of_beq_eq_false h3⟩
    |succ k=>simpa using h6 k o' u' (by simpa using hk)
  |[],_::_,h=>by simp[fieldsAre]at h
  |_::_,[],h=>by simp[fieldsAre]at h
theorem kindIs_st {gs:List (Nat × TypeId)}(h:kindIs P t (.st gs)=true):∃fs:Array Field,P.underlying t=some (.struct fs)/\fs.size=gs.length/\∀(k o:Nat) (u:TypeId),gs[k]?=some (o,u) ->
    ∃f,fs[k]?=some f/\f.offset=o/\f.type=u/\P.cellsOf u≠0:=by
  simp only[kindIs]at h
  split at h
  · rename_i fs he
    obtain⟨h1,h2⟩:=fieldsAre_at h
    exact⟨fs,he,by simpa using h1,fun k o u hk=>by obtain⟨f,hf,r⟩:=h2 k o u hk;exact⟨f,by simpa using hf,r⟩⟩
  · cases h
theorem run_isAgg (h:tiIs P t ti=true)(w:World):(isAgg t).run P w=.ok ti.k.agg w:=by
  have hk:=tiIs_kind h
  unfold isAgg
  cases e:ti.k with
  |arr n el=>rw[e]at hk;simp[run_underlying (kindIs_arr hk),TK.agg]
  |st gs=>rw[e]at hk;obtain⟨fs,hu,_⟩:=kindIs_st hk;simp[run_underlying hu,TK.agg]
  | _ =>
    rw[e]at hk
    simp only[kindIs]at hk
    split at hk<;>first|(simp at hk;done)|skip
    all_goals first
      |(rename_i hu;simp[run_underlying hu,TK.agg];done)
      | (cases hu:P.underlying t with
         |none=>simp_all
         |some d=>cases d<;>simp_all [run_underlying hu,TK.agg])
theorem run_sizeOf (h:tiIs P t ti=true)(w:World):(sizeOf t).run P w=.ok ti.size w:=by
  obtain⟨i,z,hi,hs,_⟩:=tiIs_info h
  simp[sizeOf,typeInfo,hi,hs]
theorem run_zeroValue (h:tiIs P t ti=true)(w:World):∃z,(zeroValue t).run P w=.ok z w/\sameZs z.cells.toList ti.zero=true/\z.cells.size=ti.size:=by
  obtain⟨i,z,hi,_,_,hz,h1,h2⟩:=tiIs_info h
  exact⟨z,by simp[zeroValue,typeInfo,hi,hz],h1,h2⟩
theorem tiIs_zagg (h:tiIs P t ti=true)(w:World){z:Value}(hz:(zeroValue t).run P w=.ok z w):isAggV z=ti.k.agg:=by
  unfold tiIs at h
  simp only[Bool.and_eq_true]at h
  obtain⟨_,h⟩:=h
  split at h
  · rename_i i hi
    simp only[Bool.and_eq_true]at h
    obtain⟨_,h3⟩:=h
    split at h3
    · rename_i z' hz'
      simp only[Bool.and_eq_true,beq_iff_eq]at h3
      simp[zeroValue,typeInfo,hi,hz']at hz
      rw[<-hz]
      exact h3.2
    · cases h3
  · cases h
theorem run_zeroValue_any (h:tiIs P t ti=true){w:World}{z:Value}(hz:(zeroValue t).run P w=.ok z w)(w':World):(zeroValue t).run P w'=.ok z w':=by
  obtain⟨i,z',hi,_,_,hz',_,_⟩:=tiIs_info h
  simp[zeroValue,typeInfo,hi,hz']at hz⊢
  exact hz
end table
abbrev Env:=List (Nat × AV)
def get:Env->Nat->AV
 |[],_=>.junk
 |(k,v)::r,t=>bif Nat.beq k t then v else get r t
def look:List (Option Blk)->Nat->Option Blk
 |[],_=>none
 |b::_,0=>b
 |_::r,j+1=>look r j
def Mem.get (m:Mem):Ref->Option Blk
 | .loc j=>look m.loc j
 | .arg j=>look m.own j
 | .bad=>none
def dlook:List D->Nat->Option D
 |[],_=>none
 |b::_,0=>some b
 |_::r,j+1=>dlook r j
def alook:List AV->Nat->Option AV
 |[],_=>none
 |b::_,0=>some b
 |_::r,j+1=>alook r j
def dcut (cs:List D):Nat->Nat->Option (List D)
 |_,0=>some []
 | o,m + 1=>match dlook cs o with
  |some x=>match dcut cs (o+1) m with
   |some r=>some (x::r)
   |none=>none
  |none=>none
def acut (cs:List AV):Nat->Nat->Option (List AV)
 |_,0=>some []
 | o,m + 1=>match alook cs o with
  |some x=>match acut cs (o+1) m with
   |some r=>some (x::r)
   |none=>none
  |none=>none
def up:List D->List AV
 |[]=>[]
 |x::r=>.d x::up r
def D.one:D->Bool
 | .agg _=>false
 |_=>true
def allD:List AV->Option (List D)
 |[]=>some []
 | .d x::r=>match allD r with
  |some l=>some (x::l)
  |none=>none
 |_::_=>none
def ofConst:Value->AV
 | .int k n=>.d (.int k n)
 | .bool b=>.d (.bool b)
 | .string s=>.d (.str s)
 | .pointer none=>.d .nilp
 | .nilIface=>.d .nili
 | .nilFunc=>.d .nilf
 | .map none=>.d .nilm
 | .slice none 0 0=>.d .nils
 |_=>.junk
def ev (env:Env):Operand->AV
 | .tmp t=>get env t
 | .const v=>ofConst v
 | .func f=>.d (.fn (.func f) [] [])
 | .global _=>.junk
def cat:List Prop->List Prop->List Prop
 |[],q=>q
 |p::r,q=>p::cat r q
def strip:AV->AV × List Prop
 | .gd b x=>match strip x with
  |(y,l)=>(y,(b=true)::l)
 |x=>(x,[])
def In (k:IntKind)(n:Int):Prop:=k.min<=n/\n<=k.max
def deq:D->D->Option Bool
 | .int k a,.int k' b=>bif decide (k=k') then some (decide (a=b)) else none
 | .bool a,.bool b=>some (a==b)
 | .str a,.str b=>some (a==b)
 |_,_=>none
def bitAnd (k:IntKind)(a b:Int):Int:=k.wrap ((BitVec.ofInt k.bits a &&& BitVec.ofInt k.bits b).toNat:Int)
def binInt (op:BinOp)(k:IntKind)(a b:Int):Option (AV × List Prop) :=
 match op with
 | .add=>some (.d (.int k (a+b)),[In k (a+b)])
 | .sub=>some (.d (.int k (a-b)),[In k (a-b)])
 | .mul=>some (.d (.int k (a*b)),[In k (a*b)])
 | .quo=>some (.d (.int k (a.tdiv b)),[b≠0,In k (a.tdiv b)])
 | .rem=>some (.d (.int k (a.tmod b)),[b≠0])
 | .eql=>some (.d (.bool (decide (a=b))),[])
 | .neq=>some (.d (.bool (!decide (a=b))),[])
 | .lss=>some (.d (.bool (decide (a<b))),[])
 | .leq=>some (.d (.bool (decide (a<=b))),[])
 | .gtr=>some (.d (.bool (decide (b<a))),[])
 | .geq=>some (.d (.bool (decide (b<=a))),[])
 | .and=>some (.d (.int k (bitAnd k a b)),[])
 |_=>none
section sound
variable {P:Program}{T:Tab}{w:World}{F:Nat->Prop}{σ:Pls}
theorem look_at:∀{l:List (Option Blk)} {j:Nat} {b:Blk},look l j=some b->l[j]?=some (some b)
 |[],_,_,h=>by simp[look]at h
 |b::_,0,_,h=>by simpa[look] using h
 |_::r,j+1,_,h=>by simpa using look_at (l:=r) (j:=j) (by simpa[look] using h)
theorem Mem.get_at {m:Mem}{r:Ref}{b:Blk}(h:m.get r=some b):m.at r=some (some b):=by
 cases r with
 |loc j=>exact look_at h
 |arg j=>exact look_at h
 |bad=>cases h
theorem dlook_eq:∀(l:List D) (j:Nat),dlook l j=l[j]?
 |[],_=>by simp[dlook]
 |_::_,0=>rfl
 |_::r,j+1=>by simpa[dlook] using dlook_eq r j
theorem alook_eq:∀(l:List AV) (j:Nat),alook l j=l[j]?
 |[],_=>by simp[alook]
 |_::_,0=>rfl
 |_::r,j+1=>by simpa[alook] using alook_eq r j
theorem dcut_eq {cs:List D}:∀{m o:Nat} {l:List D},dcut cs o m=some l->l.length=m/\∀j,j<m->l[j]?=cs[o+j]?/\o+j<cs.length
 |0,o,l,h=>by simp[dcut]at h;subst h;exact⟨rfl,fun j hj=>absurd hj Om⟩
 | m + 1,o,l,h=>by
  simp only[dcut]at h
  split at h
  .rename_i x hx
   split at h
   .rename_i r hr
    injection h with h
    subst h
    obtain⟨h1,h2⟩:=dcut_eq hr
    rw[dlook_eq]at hx
    refine⟨by simp[h1],fun j hj=>?_⟩
    cases j with
    |zero=>exact⟨by simpa using hx.symm,(List.getElem?_eq_some_iff.1 hx).1⟩
    |succ j =>
     obtain⟨h3,h4⟩:=h2 j Om
     have e:o+(j+1)=o+1+j:=by omega
     exact⟨by rw[e];simpa using h3,Om⟩
   .cases h
  .cases h
theorem acut_eq {cs:List AV}:∀{m o:Nat} {l:List AV},acut cs o m=some l->l.length=m/\∀j,j<m->l[j]?=cs[o+j]?/\o+j<cs.length
 |0,o,l,h=>by simp[acut]at h;subst h;exact⟨rfl,fun j hj=>absurd hj Om⟩
 | m + 1,o,l,h=>by
  simp only[acut]at h
  split at h
  .rename_i x hx
   split at h
   .rename_i r hr
    injection h with h
    subst h
    obtain⟨h1,h2⟩:=acut_eq hr
    rw[alook_eq]at hx
    refine⟨by simp[h1],fun j hj=>?_⟩
    cases j with
    |zero=>exact⟨by simpa using hx.symm,(List.getElem?_eq_some_iff.1 hx).1⟩
    |succ j =>
     obtain⟨h3,h4⟩:=h2 j Om
     have e:o+(j+1)=o+1+j:=by omega
     exact⟨by rw[e];simpa using h3,Om⟩
   .cases h
  .cases h
theorem up_eq:∀(l:List D),up l=l.map .d
 |[]=>rfl
 |x::r=>by simp[up,up_eq r]
theorem up_at {l:List D}{j:Nat}{A:AV}(h:(up l)[j]?=some A):∃x,l[j]?=some x/\A=.d x:=by
 rw[up_eq]at h
 simp at h
 obtain⟨x,h1,h2⟩:=h
 exact⟨x,h1,h2.symm⟩
theorem all_cat {p q:List Prop}(h:∀x∈cat p q,x):(∀x∈p,x)/\∀x∈q,x:=by
 induction p with
 |nil=>exact⟨fun x hx=>by simp at hx,h⟩
 | cons a r ih =>
  have:=ih (fun x hx=>h x (by simp[cat,hx]))
  exact⟨fun x hx=>by
   rcases List.mem_cons.1 hx with rfl|hx
   .exact h _ (by simp[cat])
   .exact this.1 x hx,this.2⟩
def EnvOk (env:Env)(w:World)(F:Nat->Prop)(σ:Pls)(tmps:Array Value):Prop:=∀t,Vc w F σ (get env t) (tmps.getD t undef)
theorem ofConst_ok (v:Value):Vc w F σ (ofConst v) v:=by
 unfold ofConst
 split
 .exact .d .int
 .exact .d .bool
 .exact .d .str
 .exact .d .nilp
 .exact .d .nili
 .exact .d .nilf
 .exact .d .nilm
 .exact .d .nils
 .exact .junk
theorem ev_ok {env:Env}{a:Act}(he:EnvOk env w F σ a.tmps)(x:Operand):Vc w F σ (ev env x) (a.eval x):=by
 cases x with
 |tmp t=>exact he t
 |const v=>exact ofConst_ok v
 |func f=>exact .d (.fn (us:=[]) (vs:=[]) rfl rfl (fun j x u h=>by simp at h) (fun j x u h=>by simp at h))
 |global g=>exact .junk
theorem strip_ok {x:AV}{v:Value}(h:Vc w F σ x v)(hp:∀p∈(strip x).2,p):Vc w F σ (strip x).1 v:=by
 induction h with
 |@gd b x v h _ ih =>
  simp only[strip]at hp⊢
  exact ih (hp (b=true) (by simp)) (fun p hpp=>hp p (by simp[hpp]))
 |d h=>exact .d h
 |agg hl h=>exact .agg hl h
 |tup hl h=>exact .tup hl h
 |ifc h=>exact .ifc h
 |fn h1 h2 h3 h4=>exact .fn h1 h2 h3 h4
 |ptr hr h=>exact .ptr hr h
 |osl hr h=>exact .osl hr h
 |mp hr h=>exact .mp hr h
 |junk=>exact .junk
def Agree (F:Nat->Prop)(σ:Pls)(w w':World):Prop:=∀b,(F b\/∃r pl t,σ r=some (some pl)/\pl.loc=some (b,t))->w'.heap[b]?=w.heap[b]?
theorem Agree.refl (F:Nat->Prop)(σ:Pls)(w:World):Agree F σ w w:=fun _ _=>rfl
theorem Vc.int {k n v}(h:Vc w F σ (.d (.int k n)) v):v=.int k n:=by cases h with|d h=>cases h;rfl
theorem Vc.bool {b v}(h:Vc w F σ (.d (.bool b)) v):v=.bool b:=by cases h with|d h=>cases h;rfl
theorem Vc.str {s v}(h:Vc w F σ (.d (.str s)) v):v=.string s:=by cases h with|d h=>cases h;rfl
theorem In.wrap {k:IntKind}{n:Int}(h:In k n):k.wrap n=n:=by
 obtain⟨h1,h2⟩:=h
 cases k<;>simp[IntKind.min,IntKind.max,IntKind.signed,IntKind.bits]at h1 h2
 .exact IntWalk.i8_in n ⟨Om,Om⟩
 .exact IntWalk.i16_in n ⟨Om,Om⟩
 .exact IntWalk.i32_in n ⟨Om,Om⟩
 .exact IntWalk.i64_in n ⟨Om,Om⟩
 .exact IntWalk.u8_in n ⟨Om,Om⟩
 .exact IntWalk.u16_in n ⟨Om,Om⟩
 .exact IntWalk.u32_in n ⟨Om,Om⟩
 .exact IntWalk.u64_in n ⟨Om,Om⟩
def ReadsAs (P:Program)(F:Nat->Prop)(σ:Pls)(w:World)(s:Sem Value)(A:AV):Prop :=
 ∃u,Vc w F σ A u/\∀w',Agree F σ w w'->s.run P w'=.ok u w'
theorem ReadsAs.const {s:Sem Value}{A:AV}{u:Value}(h:Vc w F σ A u)(hs:∀w',s.run P w'=.ok u w'):ReadsAs P F σ w s A:=⟨u,h,fun w' _=>hs w'⟩
theorem binInt_ok {op:BinOp}{t:TypeId}{x y:Operand}{k:IntKind}{a b:Int}{A:AV}{obs:List Prop}(h:binInt op k a b=some (A,obs))(hob:∀p∈obs,p) :
  ReadsAs P F σ w (do eqGuard op t x y (.int k a) (.int k b);binOp op t (.int k a) (.int k b)) A:=by
 unfold binInt at h
 cases op<;>simp only[Option.some.injEq,Prod.mk.injEq,reduceCtorEq]at h<;>obtain⟨rfl,rfl⟩:=h
 case add =>
  have hi:In k (a+b):=hob _ (by simp)
  exact .const (.d .int) fun w'=>by simp[eqGuard,binOp,Op.intArith,hi.wrap]
 case sub =>
  have hi:In k (a-b):=hob _ (by simp)
  exact .const (.d .int) fun w'=>by simp[eqGuard,binOp,Op.intArith,hi.wrap]
 case mul =>
  have hi:In k (a*b):=hob _ (by simp)
  exact .const (.d .int) fun w'=>by simp[eqGuard,binOp,Op.intArith,hi.wrap]
 case quo =>
  have hb:b≠0:=hob _ (by simp)
  have hi:In k (a.tdiv b):=hob _ (by simp)
  exact .const (.d .int) fun w'=>by simp[eqGuard,binOp,Op.intDiv,hb,hi.wrap]
 case rem =>
  have hb:b≠0:=hob _ (by simp)
  exact .const (.d .int) fun w'=>by simp[eqGuard,binOp,Op.intDiv,hb]
 case eql=>exact .const (.d .bool) fun w'=>by simp[eqGuard,binOp,Op.intCmp];exact Bool.eq_iff_iff.2 (by simp)
 case neq=>exact .const (.d .bool) fun w'=>by simp[eqGuard,binOp,Op.intCmp];exact Bool.eq_iff_iff.2 (by simp)
 case lss=>exact .const (.d .bool) fun w'=>by simp[eqGuard,binOp,Op.intCmp]
 case leq=>exact .const (.d .bool) fun w'=>by simp[eqGuard,binOp,Op.intCmp]
 case gtr=>exact .const (.d .bool) fun w'=>by simp[eqGuard,binOp,Op.intCmp]
 case geq=>exact .const (.d .bool) fun w'=>by simp[eqGuard,binOp,Op.intCmp]
 case and=>exact .const (.d .int) fun w'=>by simp[eqGuard,binOp,Op.intBits,bitAnd]
end sound
def evMove (A:AV):Option (AV × List Prop):=some (strip A)
def evPick (c a b:AV × List Prop):Option (AV × List Prop) :=
 match c with
 | (.d (.bool c'),p)=>match a with
  |(.d (.bool a'),pa)=>match b with
   |(.d (.bool b'),pb)=>some (.d (.bool (bif c' then a' else b')),cat p (cat (pa.map fun q=>(c'=true->q)) (pb.map fun q=>(c'=false->q))))
   |_=>none
  |_=>none
 |_=>none
def evBin (op:BinOp)(x y:AV):Option (AV × List Prop) :=
 match x with
 | .d (.int k a)=>match y with
  | .d (.int k' b)=>bif decide (k=k') then binInt op k a b else none
  |_=>none
 |_=>none
def eqCells:List D→List D→Option Bool
 |[],[]=>some true
 | x :: r,y :: s=>match deq x y with
  |none=>none
  | some b=>match r,s with
   |[],[]=>some b
   |_,_=>match eqCells r s with
    |none=>none
    |some c=>some (b&&c)
 |_,_=>none
def arrOf (T:Tab)(t:TypeId):Option (Nat × TypeId) :=
 match T.at t with
 | some ti=>match ti.k with
  | .arr n e=>match T.at e with
   |some te=>bif Nat.beq te.size 1&&Nat.beq ti.size n then some (n,e) else none
   |none=>none
  |_=>none
 |none=>none
def rowD:List AV->D
 |[.d x]=>x
 |_=>.nilp
def arrLoad (T:Tab)(m:Mem)(t:TypeId)(A:AV):Option (AV × List Prop) :=
 match arrOf T t with
 |none=>none
 | some (n,_)=>match A with
  | .ptr r g i off=>match m.get r with
   | some (.vec _ sz g' n' f)=>bif Nat.beq i 0 && (Nat.beq off 0 && Nat.beq sz 1) then
     some (.d (.agg ((List.range n).map fun j=>rowD (f j))),[g'=g,n<=n',∀j,j<n->f j=[.d (rowD (f j))]]) else none
   |_=>none
  |_=>none
def evLoad0 (T:Tab) (m:Mem) (t:TypeId) (A:AV):Option (AV × List Prop) :=
 match T.at t with
 |none=>none
 | some ti =>
  match A with
  | .d (.pt cs off) =>
   bif ti.k.agg then match dcut cs off ti.size with
    |some l=>some (.d (.agg l),[])
    |none=>none
   else match dlook cs off with
    |some x=>some (.d x,[])
    |none=>none
  | .ptr r g i off =>
   match m.get r with
   | some (.box _ cs) =>
    bif Nat.beq g 0&&Nat.beq i 0 then
     bif ti.k.agg then match acut cs off ti.size with
      |some l=>some (.agg l,[])
      |none=>none
     else match alook cs off with
      |some v=>some (v,[])
      |none=>none
    else none
   | some (.vec _ _ g' n f) =>
    bif ti.k.agg then match acut (f i) off ti.size with
     |some l=>some (.agg l,[g'=g,i<n])
     |none=>none
    else match alook (f i) off with
     |some v=>some (v,[g'=g,i<n])
     |none=>none
   |_=>none
  |_=>none
def packA (A:AV):AV :=
 match A with
 | .agg cs=>match allD cs with
  |some ds=>.d (.agg ds)
  |none=>.agg cs
 |A=>A
def evLoad (T:Tab)(m:Mem)(t:TypeId)(A:AV):Option (AV × List Prop) :=
 match arrLoad T m t A with
 |some r=>some r
 |none=>match evLoad0 T m t A with
  |some (v,l)=>some (packA v,l)
  |none=>none
def fieldOf (T:Tab)(t:TypeId)(k:Nat):Option (Nat × TypeId) :=
 match T.at t with
 |some ti=>match ti.k with
  | .st fs=>fs[k]?
  |_=>none
 |none=>none
def liveAt (m:Mem)(r:Ref)(g i:Nat):Option (List Prop) :=
 match m.get r with
 |some (.box _ _)=>bif Nat.beq g 0&&Nat.beq i 0 then some [] else none
 |some (.vec _ _ g' _ _)=>some [g'=g]
 |_=>none
def evFieldAddr (T:Tab)(m:Mem)(t:TypeId)(k:Nat)(A:AV):Option (AV × List Prop) :=
 match fieldOf T t k with
 |none=>none
 | some (o,_)=>match A with
  | .d (.pt cs off)=>some (.d (.pt cs (off+o)),[])
  | .ptr r g i off=>match liveAt m r g i with
   |some l=>some (.ptr r g i (off+o),l)
   |none=>none
  |_=>none
def elemOf (T:Tab)(t:TypeId):Option (TypeId × Nat) :=
 match T.at t with
 | some ti=>match ti.k with
  | .sl e=>match T.at e with
   |some te=>some (e,te.size)
   |none=>none
  |_=>none
 |none=>none
def oadd (off i:Nat):Nat:=match off with
 |0=>i
 |k+1=>k+1+i
theorem oadd_eq (off i:Nat):oadd off i=off+i:=by cases off<;>simp[oadd]
def arrIndex (T:Tab) (m:Mem) (t:TypeId) (A I:AV):Option (AV × List Prop) :=
 match arrOf T t with
 |none=>none
 | some (n,_)=>match I with
  | .d (.int _ k)=>match A with
   | .ptr r g i off=>match m.get r with
    |some (.vec _ sz g' _ _)=>bif Nat.beq i 0&&(Nat.beq off 0&&Nat.beq sz 1) then some (.ptr r g k.toNat 0,[g'=g,0<=k,k<n]) else none
    |some (.box _ _)=>bif Nat.beq g 0&&Nat.beq i 0 then some (.ptr r 0 0 (oadd off k.toNat),[0<=k,k<n]) else none
    |_=>none
   |_=>none
  |_=>none
def evIndexAddr0 (T:Tab) (m:Mem) (t:TypeId) (A I:AV):Option (AV × List Prop) :=
 match elemOf T t with
 |none=>none
 | some (_,sz)=>match I with
  | .d (.int _ i)=>match A with
   | .d (.sl sz' n f)=>bif Nat.beq sz' sz then some (.d (.pt (f i.toNat) 0),[0<=i,i<n]) else none
   | .osl r g off n=>match m.get r with
    |some (.vec _ sz' g' _ _)=>bif Nat.beq sz' sz then some (.ptr r g (oadd off i.toNat) 0,[g'=g,0<=i,i<n]) else none
    |_=>none
   |_=>none
  |_=>none
def bigOf (T:Tab)(t:TypeId):Option (Nat × Nat) :=
 match T.at t with
 | some ti=>match ti.k with
  | .arr n e=>match T.at e with
   |some te=>bif Nat.blt 1 te.size&&(Nat.beq ti.size (n*te.size)&&Nat.blt 40 ti.size) then some (n,te.size) else none
   |none=>none
  |_=>none
 |none=>none
def bigIndex (T:Tab) (m:Mem) (t:TypeId) (A I:AV):Option (AV × List Prop) :=
 match bigOf T t with
 |none=>none
 | some (n,sz)=>match I with
  | .d (.int _ k)=>match A with
   | .ptr r g i off=>match m.get r with
    |some (.vec _ sz' g' _ _)=>bif Nat.beq i 0&&(Nat.beq off 0&&Nat.beq sz' sz) then some (.ptr r g k.toNat 0,[g'=g,0<=k,k<n]) else none
    |_=>none
   |_=>none
  |_=>none
def smlOf (T:Tab)(t:TypeId):Option (Nat × Nat) :=
 match T.at t with
 | some ti=>match ti.k with
  | .arr n e=>match T.at e with
   |some te=>bif Nat.blt 1 te.size&&(Nat.beq ti.size (n*te.size)&&(Nat.ble ti.size 40&&te.k.agg)) then some (n,te.size) else none
   |none=>none
  |_=>none
 |none=>none
def smlIndex (T:Tab) (m:Mem) (t:TypeId) (A I:AV):Option (AV × List Prop) :=
 match smlOf T t with
 |none=>none
 | some (n,sz)=>match I with
  | .d (.int _ k)=>match A with
   | .ptr r g i off=>match m.get r with
    |some (.box _ _)=>bif Nat.beq g 0&&Nat.beq i 0 then some (.ptr r 0 0 (oadd off (k.toNat*sz)),[0<=k,k<n]) else none
    |_=>none
   |_=>none
  |_=>none
def evIndexAddr (T:Tab)(m:Mem)(t:TypeId)(A I:AV):Option (AV × List Prop) :=
 match arrIndex T m t A I with
 |some r=>some r
 | none=>match bigIndex T m t A I with
  |some r=>some r
  |none=>match smlIndex T m t A I with
   |some r=>some r
   |none=>evIndexAddr0 T m t A I
def evLen (T:Tab)(t:TypeId)(A:AV):Option (AV × List Prop) :=
 match elemOf T t with
 |none=>none
 |some _=>match A with
  | .d (.sl _ n _)=>some (.d (.int .i64 n),[])
  | .d .nils=>some (.d (.int .i64 0),[])
  |_=>none
def evLenOwn (T:Tab)(m:Mem)(t:TypeId)(A:AV):Option (AV × List Prop) :=
 match elemOf T t with
 |none=>none
 | some _=>match A with
  | .osl r g _ n=>match m.get r with
   |some (.vec _ _ g' _ _)=>some (.d (.int .i64 n),[g'=g])
   |_=>none
  |A=>evLen T t A
section sound
variable {P:Program}{T:Tab}{w:World}{F:Nat->Prop}{σ:Pls}{m:Mem}
theorem elemOf_ok (hT:TabOk P T){t e:TypeId}{sz:Nat}(h:elemOf T t=some (e,sz)) :
  P.underlying t=some (.slice e)/\(∀w,(sizeOf e).run P w=.ok sz w)/\∃te,tiIs P e te=true/\te.size=sz:=by
 unfold elemOf at h
 split at h
 .rename_i ti hti
  split at h
  .rename_i e' hk
   split at h
   .rename_i te hte
    injection h with h
    obtain⟨rfl,rfl⟩:=Prod.mk.inj h
    have hk':=tiIs_kind (hT t ti hti)
    rw[hk]at hk'
    exact⟨kindIs_sl hk',fun w=>run_sizeOf (hT _ te hte) w,te,hT _ te hte,rfl⟩
   .cases h
  .cases h
 .cases h
theorem evPick_ok {c a b:AV}{C X Y:Value}{A:AV}{obs:List Prop}(hc:Vc w F σ c C)(ha:Vc w F σ a X)(hb:Vc w F σ b Y)
  (h:evPick (strip c) (strip a) (strip b)=some (A,obs)) (hob:∀p∈obs,p) :
  ReadsAs P F σ w (do pure (if <-asBool C then X else Y)) A:=by
 unfold evPick at h
 split at h<;>try (cases h;done)
 rename_i c' p ec
 split at h<;>try (cases h;done)
 rename_i a' pa ea
 split at h<;>try (cases h;done)
 rename_i b' pb eb
 injection h with h
 obtain⟨rfl,rfl⟩:=Prod.mk.inj h
 obtain⟨h1,h2⟩:=all_cat hob
 obtain⟨h2,h3⟩:=all_cat h2
 have sc:=strip_ok hc (by rw[ec];exact h1)
 rw[ec]at sc
 have:=sc.bool
 subst this
 cases c' with
 |true =>
  have sa:=strip_ok ha (by rw[ea];exact fun q hq=>h2 (true=true->q) (List.mem_map.2 ⟨q,hq,rfl⟩) rfl)
  rw[ea]at sa
  have:=sa.bool
  subst this
  exact .const (.d .bool) fun w'=>by simp[asBool]
 |false =>
  have sb:=strip_ok hb (by rw[eb];exact fun q hq=>h3 (false=false->q) (List.mem_map.2 ⟨q,hq,rfl⟩) rfl)
  rw[eb]at sb
  have:=sb.bool
  subst this
  exact .const (.d .bool) fun w'=>by simp[asBool]
theorem evBin_ok {op:BinOp}{t:TypeId}{x y:Operand}{a b:AV}{X Y:Value}{A:AV}{obs:List Prop}(ha:Vc w F σ a X)(hb:Vc w F σ b Y)
  (h:evBin op a b=some (A,obs)) (hob:∀p∈obs,p):ReadsAs P F σ w (do eqGuard op t x y X Y;binOp op t X Y) A:=by
 unfold evBin at h
 split at h<;>try (cases h;done)
 split at h<;>try (cases h;done)
 rename_i k a' _ k' b'
 cases hk:decide (k=k') with
 |false=>rw[hk]at h;cases h
 |true =>
  rw[hk]at h
  have:=of_decide_eq_true hk
  subst this
  have:=ha.int
  subst this
  have:=hb.int
  subst this
  exact binInt_ok h hob
theorem Agree.cell {w w':World}(h:Agree F σ w w'){b:Nat}(hb:F b\/∃r pl t,σ r=some (some pl)/\pl.loc=some (b,t))(o:Nat):w'.cell? ⟨b,o,none⟩=w.cell? ⟨b,o,none⟩ :=
 World.cell?_of_block (w:=w) (h b hb)
theorem run_loadVar_one {w:World}{t:TypeId}{ti:TI}(ht:tiIs P t ti=true)(hagg:ti.k.agg=false){a:Addr}{v:Value}(hc:w.cell? a=some v):(loadVar t a).run P w=.ok v w:=by
 simp[loadVar,run_isAgg ht,hagg,hc]
theorem run_loadVar_agg {w:World}{t:TypeId}{ti:TI}(ht:tiIs P t ti=true)(hagg:ti.k.agg=true){a:Addr}{us:List Value}(hl:us.length=ti.size)(hc:∀(j:Nat) v,us[j]?=some v->w.cell? (a.add j)=some v) :
  (loadVar t a).run P w=.ok (.agg us.toArray) w:=by
 have:=run_loadCells_list (P:=P) w a us hc
 rw[hl]at this
 simp[loadVar,run_isAgg ht,hagg,run_sizeOf ht,this]
theorem add_at (b o j:Nat):Addr.add ⟨b,o,none⟩ j=⟨b,o+j,none⟩:=Addr.add_lit b o j
theorem ofFn_at {n:Nat}(g:Nat->Value)(j:Nat)(v:Value)(h:((List.range n).map g)[j]?=some v):j<n/\v=g j:=by
 rw[List.getElem?_map]at h
 by_cases hj:j<n
 .rw[List.getElem?_range hj]at h
  simp at h
  exact⟨hj,h.symm⟩
 .rw[List.getElem?_eq_none (by simp;omega)]at h
  cases h
theorem ptr_row (hm:MemOk m σ F w){r:Ref}{g i off:Nat}{v:Value}(h:Vc w F σ (.ptr r g i off) v){B:Blk}(hB:m.at r=some (some B)) :
  ∃pl,σ r=some (some pl)/\BlkOk w F σ B pl/\g<=pl.g/\(pl.g=g->PtAt pl i off v):=by
 cases h with
 | @ptr _ _ _ _ _ q hr h =>
  cases q with
  |none=>have:=(hm.lv r _ hr).1 rfl;rw[hB]at this;cases this
  |some pl =>
   obtain⟨B',hB',hok⟩:=(hm.lv r _ hr).2 pl rfl
   rw[hB]at hB'
   injection hB' with hB'
   injection hB' with hB'
   subst hB'
   exact⟨pl,hr,hok,h pl rfl⟩
theorem osl_row (hm:MemOk m σ F w){r:Ref}{g off n:Nat}{v:Value}(h:Vc w F σ (.osl r g off n) v){B:Blk}(hB:m.at r=some (some B)) :
  ∃pl,σ r=some (some pl)/\BlkOk w F σ B pl/\g<=pl.g/\(pl.g=g->SlAt pl off n v):=by
 cases h with
 | @osl _ _ _ _ _ q hr h =>
  cases q with
  |none=>have:=(hm.lv r _ hr).1 rfl;rw[hB]at this;cases this
  |some pl =>
   obtain⟨B',hB',hok⟩:=(hm.lv r _ hr).2 pl rfl
   rw[hB]at hB'
   injection hB' with hB'
   injection hB' with hB'
   subst hB'
   exact⟨pl,hr,hok,h pl rfl⟩
theorem read_own {a0:Addr}{us:List Value}{cs:List AV}{t:TypeId}{ti:TI}{off:Nat}{A:AV}(ht:tiIs P t ti=true)
  (hcell:∀w',Agree F σ w w'->∀(j:Nat) u,us[j]?=some u->w'.cell? (a0.add j)=some u) (hlen:us.length=cs.length) (h:∀(j:Nat) A u,cs[j]?=some A->us[j]?=some u->Vc w F σ A u)
  (hA:(bif ti.k.agg then(match acut cs off ti.size with|some l=>some (AV.agg l)|none=>none) else alook cs off)=some A) :
  ∃u,Vc w F σ A u/\∀w',Agree F σ w w'->(loadVar t (a0.add off)).run P w'=.ok u w':=by
 have add2:∀j,(a0.add off).add j=a0.add (off+j):=fun j=>by
  unfold Addr.add;by_cases h1:off=0<;>by_cases h2:j=0<;>simp[h1,h2,Nat.add_assoc]
 cases hagg:ti.k.agg with
 | true =>
  rw[hagg]at hA
  simp only[cond_true]at hA
  split at hA<;>try (cases hA;done)
  rename_i l hl
  injection hA with hA
  subst hA
  obtain⟨h1,h2⟩:=acut_eq hl
  let vs:=(us.drop off).take ti.size
  have hvs:vs.length=ti.size:=by
   simp only[vs,List.length_take,List.length_drop]
   rcases Nat.eq_zero_or_pos ti.size with h0|h0
   .omega
   .have:=(h2 (ti.size-1) Om).2;omega
  have hat:∀(j:Nat),j<ti.size->vs[j]?=us[off+j]?:=fun j hj=>by simp[vs,hj,List.getElem?_drop]
  refine⟨.agg vs.toArray,.agg (by rw[hvs,h1]) fun j x u hx hu=>?_,fun w' hw'=>run_loadVar_agg ht hagg hvs fun j v hv=>?_⟩
  .have hj:j<ti.size:=by have:=(List.getElem?_eq_some_iff.1 hu).1;omega
   exact h (off+j) x u (by rw[<-(h2 j hj).1];exact hx) (by rw[<-hat j hj];exact hu)
  .have hj:j<ti.size:=by have:=(List.getElem?_eq_some_iff.1 hv).1;omega
   rw[add2]
   exact hcell w' hw' _ _ (by rw[<-hat j hj];exact hv)
 |false =>
  rw[hagg]at hA
  simp only[cond_false]at hA
  rw[alook_eq]at hA
  have hlt:=(List.getElem?_eq_some_iff.1 hA).1
  have hu:us[off]?=some (us[off]'Om):=List.getElem?_eq_getElem Om
  exact⟨_,h off A _ hA hu,fun w' hw'=>run_loadVar_one ht hagg (hcell w' hw' off _ hu)⟩
theorem read_fro {a0:Addr}{us:List Value}{cs:List D}{t:TypeId}{ti:TI}{off:Nat}{A:AV}(ht:tiIs P t ti=true)
  (hcell:∀w',Agree F σ w w'->∀(j:Nat) u,us[j]?=some u->w'.cell? (a0.add j)=some u) (hlen:us.length=cs.length) (h:∀(j:Nat) A u,cs[j]?=some A->us[j]?=some u->Rd w F A u)
  (hA:(bif ti.k.agg then(match dcut cs off ti.size with|some l=>some (AV.d (.agg l))|none=>none) else(match dlook cs off with|some x=>some (AV.d x)|none=>none))=some A) :
  ∃u,Vc w F σ A u/\∀w',Agree F σ w w'->(loadVar t (a0.add off)).run P w'=.ok u w':=by
 have add2:∀j,(a0.add off).add j=a0.add (off+j):=fun j=>by
  unfold Addr.add;by_cases h1:off=0<;>by_cases h2:j=0<;>simp[h1,h2,Nat.add_assoc]
 cases hagg:ti.k.agg with
 | true =>
  rw[hagg]at hA
  simp only[cond_true]at hA
  split at hA<;>try (cases hA;done)
  rename_i l hl
  injection hA with hA
  subst hA
  obtain⟨h1,h2⟩:=dcut_eq hl
  let vs:=(us.drop off).take ti.size
  have hvs:vs.length=ti.size:=by
   simp only[vs,List.length_take,List.length_drop]
   rcases Nat.eq_zero_or_pos ti.size with h0|h0
   .omega
   .have:=(h2 (ti.size-1) Om).2;omega
  have hat:∀(j:Nat),j<ti.size->vs[j]?=us[off+j]?:=fun j hj=>by simp[vs,hj,List.getElem?_drop]
  refine⟨.agg vs.toArray,.d (.agg (by rw[hvs,h1]) fun j x u hx hu=>?_),fun w' hw'=>run_loadVar_agg ht hagg hvs fun j v hv=>?_⟩
  .have hj:j<ti.size:=by have:=(List.getElem?_eq_some_iff.1 hu).1;omega
   exact h (off+j) x u (by rw[<-(h2 j hj).1];exact hx) (by rw[<-hat j hj];exact hu)
  .have hj:j<ti.size:=by have:=(List.getElem?_eq_some_iff.1 hv).1;omega
   rw[add2]
   exact hcell w' hw' _ _ (by rw[<-hat j hj];exact hv)
 |false =>
  rw[hagg]at hA
  simp only[cond_false]at hA
  split at hA<;>try (cases hA;done)
  rename_i x hx
  injection hA with hA
  subst hA
  rw[dlook_eq]at hx
  have hlt:=(List.getElem?_eq_some_iff.1 hx).1
  have hu:us[off]?=some (us[off]'Om):=List.getElem?_eq_getElem Om
  exact⟨_,.d (h off x _ hx hu),fun w' hw'=>run_loadVar_one ht hagg (hcell w' hw' off _ hu)⟩
theorem arrOf_ok (hT:TabOk P T){t e:TypeId}{n:Nat}(h:arrOf T t=some (n,e)) :
  P.underlying t=some (.array n e)/\(∀w,(sizeOf e).run P w=.ok 1 w)/\∃ti,T.at t=some ti/\tiIs P t ti=true/\ti.size=n/\ti.k.agg=true:=by
 unfold arrOf at h
 split at h<;>try (cases h;done)
 rename_i ti hti
 split at h<;>try (cases h;done)
 rename_i n' e' hk
 split at h<;>try (cases h;done)
 rename_i te hte
 cases hb:(Nat.beq te.size 1&&Nat.beq ti.size n') with
 |false=>rw[hb]at h;cases h
 |true =>
  rw[hb]at h
  simp only[cond_true,Option.some.injEq,Prod.mk.injEq]at h
  obtain⟨rfl,rfl⟩:=h
  simp only[Bool.and_eq_true]at hb
  have hk':=tiIs_kind (hT t ti hti)
  rw[hk]at hk'
  have h1:=run_sizeOf (hT _ te hte)
  rw[Nat.eq_of_beq_eq_true hb.1]at h1
  exact⟨kindIs_arr hk',h1,ti,hti,hT t ti hti,Nat.eq_of_beq_eq_true hb.2,by rw[hk];rfl⟩
theorem arrLoad_ok (hT:TabOk P T)(hm:MemOk m σ F w){t:TypeId}{a:AV}{X:Value}{A:AV}{obs:List Prop}(ha:Vc w F σ a X)
  (h:arrLoad T m t a=some (A,obs)) (hob:∀p∈obs,p):ReadsAs P F σ w (Instr.loadAt t X) A:=by
 unfold arrLoad at h
 split at h<;>try (cases h;done)
 rename_i n e he
 obtain⟨hu,hs,ti,hti,ht,hsize,hagg⟩:=arrOf_ok hT he
 split at h<;>try (cases h;done)
 rename_i r g i off
 split at h<;>try (cases h;done)
 rename_i e' sz g' n' f hB
 cases hz:(Nat.beq i 0&&(Nat.beq off 0&&Nat.beq sz 1)) with
 |false=>rw[hz]at h;cases h
 | true =>
  rw[hz]at h
  simp only[cond_true,Option.some.injEq,Prod.mk.injEq]at h
  obtain⟨rfl,rfl⟩:=h
  simp only[Bool.and_eq_true]at hz
  have e1:=Nat.eq_of_beq_eq_true hz.1
  have e2:=Nat.eq_of_beq_eq_true hz.2.1
  have e3:=Nat.eq_of_beq_eq_true hz.2.2
  subst e1;subst e2;subst e3
  have hg:g'=g:=hob _ (by simp)
  have hn:n<=n':=hob _ (by simp)
  have hf:∀j,j<n->f j=[.d (rowD (f j))]:=hob _ (by simp)
  subst hg
  obtain⟨pl,hr,hok,_,hat⟩:=ptr_row hm ha (Mem.get_at hB)
  obtain⟨h0,hsz,hn0,hrow,hl⟩:=hok
  obtain⟨b,tot,hl',hX⟩:=hat h0
  obtain⟨hnt,_,us,hheap,hlen,hvc⟩:=hl b tot hl'
  subst hX
  have hlen':(us.take n).length=n:=by simp;omega
  refine⟨.agg (us.take n).toArray,.d (.agg (by rw[hlen'];simp) fun j x u hx hu'=>?_),fun w' hw'=>?_⟩
  .have hj:j<n:=by have:=(List.getElem?_eq_some_iff.1 hu').1;omega
   rw[List.getElem?_map,List.getElem?_range hj]at hx
   simp only[Option.map_some,Option.some.injEq]at hx
   subst hx
   have hA:(f j)[0]?=some (.d (rowD (f j))):=by rw[hf j hj];rfl
   obtain⟨u0,hu0,hv,_⟩:=hvc j 0 _ Om hA
   have:us[j]?=some u:=by
    rw[List.getElem?_take,if_pos hj]at hu'
    exact hu'
   rw[show j*1+0=j by omega,this]at hu0
   injection hu0 with hu0
   subst hu0
   cases hv with
   |d h=>exact h
  .have:=run_loadVar_agg (P:=P) (w:=w') ht hagg (a:=⟨b,0,none⟩) (us:=us.take n) (by rw[hlen',hsize]) (fun j v hv=>by
    have hj:j<n:=by have:=(List.getElem?_eq_some_iff.1 hv).1;omega
    rw[List.getElem?_take,if_pos hj]at hv
    rw[add_at,hw'.cell (.inr ⟨r,pl,_,hr,hl'⟩),Nat.zero_add,cell_of_row w b j us.toArray e' (0,0) hheap]
    simpa using hv)
   simpa[Instr.loadAt,Instr.sureAddr] using this
theorem evLoad0_ok (hT:TabOk P T)(hm:MemOk m σ F w){t:TypeId}{a:AV}{X:Value}{A:AV}{obs:List Prop}(ha:Vc w F σ a X)
  (h:evLoad0 T m t a=some (A,obs)) (hob:∀p∈obs,p):ReadsAs P F σ w (Instr.loadAt t X) A:=by
 unfold evLoad0 at h
 split at h<;>try (cases h;done)
 rename_i ti hti
 have ht:=hT t ti hti
 split at h<;>try (cases h;done)
 .rename_i cs off
  cases ha with
  | d ha =>
   cases ha with
   | pt a0 g hF hcell hrd =>
    let us:=(List.range cs.length).map g
    obtain⟨u,h1,h2⟩:=read_fro (w:=w) (F:=F) (σ:=σ) (a0:=a0) (us:=us) (cs:=cs) (off:=off) (A:=A) ht
     (fun w' hw' j u hu=>by
      obtain⟨h1,rfl⟩:=ofFn_at g j u hu
      rw[World.cell?_of_block (w:=w) (by rw[add_block];exact hw' _ (.inl hF))]
      exact(hcell j h1).1)
     (by simp[us]) (fun j x u hx hu=>by obtain⟨h1,rfl⟩:=ofFn_at g j u hu;exact hrd j x hx)
     (by
      cases hagg:ti.k.agg<;>rw[hagg]at h<;>simp only[cond_true,cond_false]at h⊢ <;> split at h<;>try (cases h;done)
      all_goals (rename_i e;simp only[Option.some.injEq,Prod.mk.injEq]at h;obtain⟨rfl,_⟩:=h;simp[e]))
    exact⟨u,h1,fun w' hw'=>by simp[Instr.loadAt,Instr.sureAddr,h2 w' hw']⟩
 .rename_i r g i off
  split at h<;>try (cases h;done)
  .rename_i e cs hB
   cases hgi:(Nat.beq g 0&&Nat.beq i 0) with
   |false=>rw[hgi]at h;cases h
   | true =>
    rw[hgi]at h
    simp only[cond_true]at h
    simp only[Bool.and_eq_true]at hgi
    have hg:=Nat.eq_of_beq_eq_true hgi.1
    have hi:=Nat.eq_of_beq_eq_true hgi.2
    subst hg;subst hi
    obtain⟨pl,hr,hok,_,hat⟩:=ptr_row hm ha (Mem.get_at hB)
    obtain⟨h0,hsz,b,hl,us,hheap,hlen,hvc⟩:=hok
    obtain⟨b',tot,hl',hX⟩:=hat h0
    rw[hl]at hl'
    obtain⟨rfl,rfl⟩:=Prod.mk.inj (Option.some.inj hl')
    subst hX
    obtain⟨u,h1,h2⟩:=read_own (w:=w) (F:=F) (σ:=σ) (a0:=⟨b,0,none⟩) (us:=us) (cs:=cs) (off:=off) (A:=A) ht
     (fun w' hw' j u hu=>by
      rw[add_at,hw'.cell (.inr ⟨r,pl,_,hr,hl⟩),Nat.zero_add,cell_of_row w b j us.toArray e (0,0) hheap]
      simpa using hu)
     hlen (fun j A u hA hu=>(hvc j A u hA hu).1)
     (by
      cases hagg:ti.k.agg<;>rw[hagg]at h<;>simp only[cond_true,cond_false]at h⊢ <;> split at h<;>try (cases h;done)
      all_goals (rename_i e;simp only[Option.some.injEq,Prod.mk.injEq]at h;obtain⟨rfl,_⟩:=h;simp[e]))
    rw[add_at]at h2
    exact⟨u,h1,fun w' hw'=>by
     simpa[Instr.loadAt,Instr.sureAddr] using h2 w' hw'⟩
  .rename_i e sz g' n f hB
   have hob':g'=g/\i<n/\(bif ti.k.agg then(match acut (f i) off ti.size with|some l=>some (AV.agg l)|none=>none) else alook (f i) off)=some A:=by
    cases hagg:ti.k.agg<;>rw[hagg]at h<;>simp only[cond_true,cond_false]at h⊢ <;> split at h<;>try (cases h;done)
    all_goals (rename_i e;simp only[Option.some.injEq,Prod.mk.injEq]at h;obtain⟨rfl,rfl⟩:=h;exact⟨hob _ (by simp),hob _ (by simp),by first|rfl|exact e⟩)
   obtain⟨hg,hi,hA⟩:=hob'
   subst hg
   obtain⟨pl,hr,hok,_,hat⟩:=ptr_row hm ha (Mem.get_at hB)
   obtain⟨h0,hsz,hn,hrow,hl⟩:=hok
   obtain⟨b,tot,hl',hX⟩:=hat h0
   obtain⟨hnt,_,us,hheap,hlen,hvc⟩:=hl b tot hl'
   subst hX
   have hfit:i*sz+sz<=us.length:=by
    have:(i+1)*sz<=tot*sz:=Nat.mul_le_mul_right _ Om
    rw[Nat.add_mul]at this
    omega
   obtain⟨u,h1,h2⟩:=read_own (w:=w) (F:=F) (σ:=σ) (a0:=⟨b,i*sz,none⟩) (us:=(us.drop (i*sz)).take sz) (cs:=f i) (off:=off) (A:=A) ht
    (fun w' hw' j u hu=>by
     rw[List.getElem?_take]at hu
     split at hu
     .rw[add_at,hw'.cell (.inr ⟨r,pl,_,hr,hl'⟩),cell_of_row w b _ us.toArray e (0,0) hheap]
      simpa[List.getElem?_drop] using hu
     .cases hu)
    (by rw[hrow i hi];simp;omega)
    (fun j A u hA hu=>by
     rw[List.getElem?_take]at hu
     split at hu
     .obtain⟨u',hu',hv,_⟩:=hvc i j A hi hA
      rw[List.getElem?_drop,hu']at hu
      injection hu with hu
      subst hu
      exact hv
     .cases hu) hA
   rw[add_at]at h2
   exact⟨u,h1,fun w' hw'=>by
    rw[hsz]
    simpa[Instr.loadAt,Instr.sureAddr] using h2 w' hw'⟩
theorem allD_eq0:∀{cs:List AV} {l:List D},allD cs=some l->cs=up l
 |[],l,h=>by simp[allD]at h;subst h;rfl
 | x :: r,l,h=>by
  unfold allD at h
  split at h
  .rename_i e;cases e
  .rename_i x' r' e
   injection e with e1 e2
   subst e1;subst e2
   split at h
   .rename_i l' hl
    injection h with h
    subst h
    simp[up,allD_eq0 hl]
   .cases h
  .cases h
theorem packA_ok {A:AV}{v:Value}(h:Vc w F σ A v):Vc w F σ (packA A) v:=by
 unfold packA
 split
 .split
  .rename_i l hd
   have:=allD_eq0 hd
   subst this
   cases h with
   |agg hl h =>
    refine .d (.agg (by rw[hl,up_eq,List.length_map]) fun j x u hx hu=>?_)
    have:=h j (.d x) u (by rw[up_eq,List.getElem?_map,hx];rfl) hu
    cases this with|d h=>exact h
  .exact h
 .exact h
theorem evLoad_ok (hT:TabOk P T)(hm:MemOk m σ F w){t:TypeId}{a:AV}{X:Value}{A:AV}{obs:List Prop}(ha:Vc w F σ a X)
  (h:evLoad T m t a=some (A,obs)) (hob:∀p∈obs,p):ReadsAs P F σ w (Instr.loadAt t X) A:=by
 unfold evLoad at h
 split at h
 .rename_i r hr
  cases h
  exact arrLoad_ok hT hm ha hr hob
 .split at h
  .rename_i v l hv
   simp only[Option.some.injEq,Prod.mk.injEq]at h
   obtain⟨rfl,rfl⟩:=h
   obtain⟨u,h1,h2⟩:=evLoad0_ok hT hm ha hv hob
   exact⟨u,packA_ok h1,h2⟩
  .cases h
theorem fieldOf_ok (hT:TabOk P T){t:TypeId}{k o:Nat}{u:TypeId}(h:fieldOf T t k=some (o,u)) :
  ∃(fs:Array Field) (f:Field),P.underlying t=some (.struct fs)/\fs[k]?=some f/\f.offset=o/\f.type=u/\P.cellsOf u≠0:=by
 unfold fieldOf at h
 split at h<;>try (cases h;done)
 rename_i ti hti
 split at h<;>try (cases h;done)
 rename_i gs hk
 have hk':=tiIs_kind (hT t ti hti)
 rw[hk]at hk'
 obtain⟨fs,hu,_,hf⟩:=kindIs_st hk'
 obtain⟨f,h1,h2,h3,h4⟩:=hf k o u h
 exact⟨fs,f,hu,h1,h2,h3,h4⟩
theorem run_fieldPlace {a:Addr}{f:Field}(h:P.cellsOf f.type≠0)(w:World):(fieldPlace a f).run P w=.ok (a.add f.offset) w:=by
 unfold Program.cellsOf at h
 cases hi:P.info? f.type with
 |none=>rw[hi]at h;simp at h
 |some i =>
  rw[hi]at h
  simp at h
  simp[fieldPlace,sizeOf,typeInfo,hi,h]
theorem run_fieldAt (hT:TabOk P T){t:TypeId}{k o:Nat}{u:TypeId}(h:fieldOf T t k=some (o,u))(a:Addr)(w:World) :
  (Instr.fieldAt t (.pointer (some a)) k).run P w=.ok (.pointer (some (a.add o))) w:=by
 obtain⟨fs,f,hu,hf,rfl,rfl,h0⟩:=fieldOf_ok hT h
 simp[Instr.fieldAt,run_underlying hu,hf,Instr.sureAddr,run_fieldPlace h0]
theorem add_add (a:Addr)(i j:Nat):(a.add i).add j=a.add (i+j):=by
 unfold Addr.add;by_cases h1:i=0<;>by_cases h2:j=0<;>simp[h1,h2,Nat.add_assoc]
theorem liveAt_ok (hm:MemOk m σ F w){r:Ref}{g i off:Nat}{X:Value}{l:List Prop}(ha:Vc w F σ (.ptr r g i off) X)(h:liveAt m r g i=some l)(hob:∀p∈l,p) :
  ∃pl b tot,σ r=some (some pl)/\pl.loc=some (b,tot)/\pl.g=g/\X=.pointer (some ⟨b,i*pl.sz+off,none⟩):=by
 unfold liveAt at h
 split at h
 .rename_i e cs hB
  cases hgi:(Nat.beq g 0&&Nat.beq i 0) with
  |false=>rw[hgi]at h;cases h
  |true =>
   simp only[Bool.and_eq_true]at hgi
   have hg:=Nat.eq_of_beq_eq_true hgi.1
   subst hg
   obtain⟨pl,hr,hok,_,hat⟩:=ptr_row hm ha (Mem.get_at hB)
   obtain⟨b,tot,hl,rfl⟩:=hat hok.1
   exact⟨pl,b,tot,hr,hl,hok.1,rfl⟩
 .rename_i e sz g' n f hB
  injection h with h
  subst h
  have hg:g'=g:=hob _ (by simp)
  subst hg
  obtain⟨pl,hr,hok,_,hat⟩:=ptr_row hm ha (Mem.get_at hB)
  obtain⟨b,tot,hl,rfl⟩:=hat hok.1
  exact⟨pl,b,tot,hr,hl,hok.1,rfl⟩
 .cases h
theorem evFieldAddr_ok (hT:TabOk P T){t:TypeId}{k:Nat}{a:AV}{X:Value}{A:AV}{obs:List Prop}(ha:Vc w F σ a X)(hm:MemOk m σ F w)
  (h:evFieldAddr T m t k a=some (A,obs)) (hob:∀p∈obs,p):ReadsAs P F σ w (Instr.fieldAt t X k) A:=by
 unfold evFieldAddr at h
 split at h<;>try (cases h;done)
 rename_i o u hf
 split at h<;>try (cases h;done)
 .simp only[Option.some.injEq,Prod.mk.injEq]at h
  obtain⟨rfl,_⟩:=h
  cases ha with
  | d ha=>cases ha with
   |@pt cs off a0 g hF hcell hrd =>
    exact .const (.d (.pt a0 g hF hcell hrd)) fun w'=>by rw[run_fieldAt hT hf,add_add]
 .rename_i r g i off
  split at h<;>try (cases h;done)
  rename_i l hl
  simp only[Option.some.injEq,Prod.mk.injEq]at h
  obtain⟨rfl,rfl⟩:=h
  obtain⟨pl,b,tot,hr,hloc,hg,rfl⟩:=liveAt_ok hm ha hl hob
  refine .const (.ptr hr fun pl' e=>?_) fun w'=>run_fieldAt hT hf _ w'
  injection e with e
  subst e
  refine⟨Om,fun _=>⟨b,tot,hloc,?_⟩⟩
  rw[add_at,Nat.add_assoc]
theorem arrIndex_ok (hT:TabOk P T)(hm:MemOk m σ F w){t:TypeId}{a b:AV}{X Y:Value}{A:AV}{obs:List Prop}(ha:Vc w F σ a X)(hb:Vc w F σ b Y)
  (h:arrIndex T m t a b=some (A,obs)) (hob:∀p∈obs,p):ReadsAs P F σ w (Instr.indexAt t X Y) A:=by
 unfold arrIndex at h
 split at h<;>try (cases h;done)
 rename_i n e he
 obtain⟨hu,hs,ti,hti,ht,hsize,hagg⟩:=arrOf_ok hT he
 split at h<;>try (cases h;done)
 rename_i kk k
 have:=hb.int
 subst this
 split at h<;>try (cases h;done)
 rename_i r g i off
 split at h<;>try (cases h;done)
 rotate_left
 .rename_i e' cs hB
  cases hz:(Nat.beq g 0&&Nat.beq i 0) with
  |false=>rw[hz]at h;cases h
  | true =>
   rw[hz]at h
   simp only[cond_true,Option.some.injEq,Prod.mk.injEq]at h
   obtain⟨rfl,rfl⟩:=h
   simp only[Bool.and_eq_true]at hz
   have e1:=Nat.eq_of_beq_eq_true hz.1
   have e2:=Nat.eq_of_beq_eq_true hz.2
   subst e1;subst e2
   have h0:0<=k:=hob _ (by simp)
   have h1:k<n:=hob _ (by simp)
   obtain⟨pl,hr,hok,_,hat⟩:=ptr_row hm ha (Mem.get_at hB)
   obtain⟨hpg,hsz,hn0⟩:=hok
   obtain⟨b',tot,hl',hX⟩:=hat hpg
   subst hX
   rw[oadd_eq]
   refine .const (u:=.pointer (some ⟨b',0*pl.sz+(off+k.toNat),none⟩)) (.ptr hr fun pl' e=>?_) fun w'=>?_
   .injection e with e
    subst e
    exact⟨by rw[hpg];exact Nat.le_refl _,fun _=>⟨b',tot,hl',rfl⟩⟩
   .simp[Instr.indexAt,run_underlying hu,asIntOf,h0,h1,hs,Instr.sureAddr,add_at]
 rename_i e' sz g' n' f hB
 cases hz:(Nat.beq i 0&&(Nat.beq off 0&&Nat.beq sz 1)) with
 |false=>rw[hz]at h;cases h
 | true =>
  rw[hz]at h
  simp only[cond_true,Option.some.injEq,Prod.mk.injEq]at h
  obtain⟨rfl,rfl⟩:=h
  simp only[Bool.and_eq_true]at hz
  have e1:=Nat.eq_of_beq_eq_true hz.1
  have e2:=Nat.eq_of_beq_eq_true hz.2.1
  have e3:=Nat.eq_of_beq_eq_true hz.2.2
  subst e1;subst e2;subst e3
  have hg:g'=g:=hob _ (by simp)
  have h0:0<=k:=hob _ (by simp)
  have h1:k<n:=hob _ (by simp)
  subst hg
  obtain⟨pl,hr,hok,_,hat⟩:=ptr_row hm ha (Mem.get_at hB)
  obtain⟨hpg,hsz,hn0,hrow,hl⟩:=hok
  obtain⟨b',tot,hl',hX⟩:=hat hpg
  subst hX
  refine .const (u:=.pointer (some ⟨b',k.toNat*pl.sz+0,none⟩)) (.ptr hr fun pl' e=>?_) fun w'=>?_
  .injection e with e
   subst e
   exact⟨by rw[hpg];exact Nat.le_refl _,fun _=>⟨b',tot,hl',rfl⟩⟩
  .simp[Instr.indexAt,run_underlying hu,asIntOf,h0,h1,hs,Instr.sureAddr,add_at,hsz]
theorem evIndexAddr0_ok (hT:TabOk P T)(hm:MemOk m σ F w){t:TypeId}{a b:AV}{X Y:Value}{A:AV}{obs:List Prop}(ha:Vc w F σ a X)(hb:Vc w F σ b Y)
  (h:evIndexAddr0 T m t a b=some (A,obs)) (hob:∀p∈obs,p):ReadsAs P F σ w (Instr.indexAt t X Y) A:=by
 unfold evIndexAddr0 at h
 simp only[oadd_eq]at h
 split at h<;>try (cases h;done)
 rename_i e sz he
 obtain⟨hu,hs,_⟩:=elemOf_ok hT he
 split at h<;>try (cases h;done)
 rename_i k i
 have:=hb.int
 subst this
 split at h<;>try (cases h;done)
 .rename_i sz' n f
  cases hz:Nat.beq sz' sz with
  |false=>rw[hz]at h;cases h
  | true =>
   rw[hz]at h
   simp only[cond_true,Option.some.injEq,Prod.mk.injEq]at h
   obtain⟨rfl,rfl⟩:=h
   have hz':=Nat.eq_of_beq_eq_true hz
   subst hz'
   have h0:0<=i:=hob _ (by simp)
   have h1:i<n:=hob _ (by simp)
   have hin:i.toNat<n:=by omega
   cases ha with
   | d ha=>cases ha with
    | sl a0 g hc hA hl hcell hrd =>
     obtain⟨rfl,hF⟩:=hA Om
     refine .const (u:=.pointer (some (a0.add (i.toNat*sz')))) (.d ?_) fun w'=>by
      simp[Instr.indexAt,run_underlying hu,asIntOf,h0,h1,hs]
     have:=Rd.pt (w:=w) (F:=F) (cs:=f i.toNat) (off:=0) (a0.add (i.toNat*sz')) (fun j=>g i.toNat j) (by rw[add_block];exact hF)
      (fun j hj=>by rw[add_add];exact hcell _ _ hin (by rw[hl _ hin]at hj;exact hj)) (fun j x hx=>hrd _ _ _ hin hx)
     rw[add_add]at this
     exact this
 .rename_i r g off n
  split at h<;>try (cases h;done)
  rename_i e' sz' g' n' f' hB
  cases hz:Nat.beq sz' sz with
  |false=>rw[hz]at h;cases h
  | true =>
   rw[hz]at h
   simp only[cond_true,Option.some.injEq,Prod.mk.injEq]at h
   obtain⟨rfl,rfl⟩:=h
   have hz':=Nat.eq_of_beq_eq_true hz
   subst hz'
   have hg:g'=g:=hob _ (by simp)
   have h0:0<=i:=hob _ (by simp)
   have h1:i<n:=hob _ (by simp)
   subst hg
   obtain⟨pl,hr,hok,_,hat⟩:=osl_row hm ha (Mem.get_at hB)
   have hsl:=hat hok.1
   unfold SlAt at hsl
   have hpsz:pl.sz=sz':=hok.2.1
   split at hsl
   .exact absurd hsl.1 Om
   .rename_i b tot hl
    obtain⟨A,cap,rfl,hnc,hoc,hA⟩:=hsl
    have:=hA (.inl Om)
    subst this
    refine .const (u:=.pointer (some (Addr.add ⟨b,off*pl.sz,none⟩ (i.toNat*sz')))) (.ptr hr fun pl' e=>?_) fun w'=>by
     simp[Instr.indexAt,run_underlying hu,asIntOf,h0,h1,hs]
    injection e with e
    subst e
    refine⟨by rw[hok.1];exact Nat.le_refl _,fun _=>⟨b,tot,hl,?_⟩⟩
    rw[add_at,hpsz,<-Nat.add_mul,Nat.add_zero]
theorem bigOf_ok (hT:TabOk P T){t:TypeId}{n sz:Nat}(h:bigOf T t=some (n,sz)) :
  ∃e,P.underlying t=some (.array n e)/\(∀w,(sizeOf e).run P w=.ok sz w)/\∃ti,T.at t=some ti/\tiIs P t ti=true/\ti.size=n*sz:=by
 unfold bigOf at h
 split at h<;>try (cases h;done)
 rename_i ti hti
 split at h<;>try (cases h;done)
 rename_i n' e' hk
 split at h<;>try (cases h;done)
 rename_i te hte
 cases hb:(Nat.blt 1 te.size&&(Nat.beq ti.size (n'*te.size)&&Nat.blt 40 ti.size)) with
 |false=>rw[hb]at h;cases h
 |true =>
  rw[hb]at h
  simp only[cond_true,Option.some.injEq,Prod.mk.injEq]at h
  obtain⟨rfl,rfl⟩:=h
  simp only[Bool.and_eq_true]at hb
  have hk':=tiIs_kind (hT t ti hti)
  rw[hk]at hk'
  exact⟨e',kindIs_arr hk',run_sizeOf (hT _ te hte),ti,hti,hT t ti hti,Nat.eq_of_beq_eq_true hb.2.1⟩
theorem bigIndex_ok (hT:TabOk P T)(hm:MemOk m σ F w){t:TypeId}{a b:AV}{X Y:Value}{A:AV}{obs:List Prop}(ha:Vc w F σ a X)(hb:Vc w F σ b Y)
  (h:bigIndex T m t a b=some (A,obs)) (hob:∀p∈obs,p):ReadsAs P F σ w (Instr.indexAt t X Y) A:=by
 unfold bigIndex at h
 split at h<;>try (cases h;done)
 rename_i n sz0 he
 obtain⟨e,hu,hs,_⟩:=bigOf_ok hT he
 split at h<;>try (cases h;done)
 rename_i kk k
 have:=hb.int
 subst this
 split at h<;>try (cases h;done)
 rename_i r g i off
 split at h<;>try (cases h;done)
 rename_i e' sz g' n' f hB
 cases hz:(Nat.beq i 0&&(Nat.beq off 0&&Nat.beq sz sz0)) with
 |false=>rw[hz]at h;cases h
 | true =>
  rw[hz]at h
  simp only[cond_true,Option.some.injEq,Prod.mk.injEq]at h
  obtain⟨rfl,rfl⟩:=h
  simp only[Bool.and_eq_true]at hz
  have e1:=Nat.eq_of_beq_eq_true hz.1
  have e2:=Nat.eq_of_beq_eq_true hz.2.1
  have e3:=Nat.eq_of_beq_eq_true hz.2.2
  subst e1;subst e2;subst e3
  have hg:g'=g:=hob _ (by simp)
  have h0:0<=k:=hob _ (by simp)
  have h1:k<n:=hob _ (by simp)
  subst hg
  obtain⟨pl,hr,hok,_,hat⟩:=ptr_row hm ha (Mem.get_at hB)
  obtain⟨hpg,hsz,hn0,hrow,hl⟩:=hok
  obtain⟨b',tot,hl',hX⟩:=hat hpg
  subst hX
  refine .const (u:=.pointer (some ⟨b',k.toNat*pl.sz+0,none⟩)) (.ptr hr fun pl' e=>?_) fun w'=>?_
  .injection e with e
   subst e
   exact⟨by rw[hpg];exact Nat.le_refl _,fun _=>⟨b',tot,hl',rfl⟩⟩
  .simp[Instr.indexAt,run_underlying hu,asIntOf,h0,h1,hs,Instr.sureAddr,add_at,hsz]
theorem smlOf_ok (hT:TabOk P T){t:TypeId}{n sz:Nat}(h:smlOf T t=some (n,sz)) :
  ∃e te,P.underlying t=some (.array n e)/\(∀w,(sizeOf e).run P w=.ok sz w)/\T.at e=some te/\te.k.agg=true/\∃ti,T.at t=some ti/\tiIs P t ti=true/\ti.size=n*sz:=by
 unfold smlOf at h
 split at h<;>try (cases h;done)
 rename_i ti hti
 split at h<;>try (cases h;done)
 rename_i n' e' hk
 split at h<;>try (cases h;done)
 rename_i te hte
 cases hb:(Nat.blt 1 te.size&&(Nat.beq ti.size (n'*te.size)&&(Nat.ble ti.size 40&&te.k.agg))) with
 |false=>rw[hb]at h;cases h
 |true =>
  rw[hb]at h
  simp only[cond_true,Option.some.injEq,Prod.mk.injEq]at h
  obtain⟨rfl,rfl⟩:=h
  simp only[Bool.and_eq_true]at hb
  have hk':=tiIs_kind (hT t ti hti)
  rw[hk]at hk'
  exact⟨e',te,kindIs_arr hk',run_sizeOf (hT _ te hte),hte,hb.2.2.2,ti,hti,hT t ti hti,Nat.eq_of_beq_eq_true hb.2.1⟩
theorem smlIndex_ok (hT:TabOk P T)(hm:MemOk m σ F w){t:TypeId}{a b:AV}{X Y:Value}{A:AV}{obs:List Prop}(ha:Vc w F σ a X)(hb:Vc w F σ b Y)
  (h:smlIndex T m t a b=some (A,obs)) (hob:∀p∈obs,p):ReadsAs P F σ w (Instr.indexAt t X Y) A:=by
 unfold smlIndex at h
 split at h<;>try (cases h;done)
 rename_i n sz he
 obtain⟨e,te,hu,hs,_⟩:=smlOf_ok hT he
 split at h<;>try (cases h;done)
 rename_i kk k
 have:=hb.int
 subst this
 split at h<;>try (cases h;done)
 rename_i r g i off
 split at h<;>try (cases h;done)
 rename_i e' cs hB
 cases hz:(Nat.beq g 0&&Nat.beq i 0) with
 |false=>rw[hz]at h;cases h
 | true =>
  rw[hz]at h
  simp only[cond_true,Option.some.injEq,Prod.mk.injEq]at h
  obtain⟨rfl,rfl⟩:=h
  simp only[Bool.and_eq_true]at hz
  have e1:=Nat.eq_of_beq_eq_true hz.1
  have e2:=Nat.eq_of_beq_eq_true hz.2
  subst e1;subst e2
  have h0:0<=k:=hob _ (by simp)
  have h1:k<n:=hob _ (by simp)
  obtain⟨pl,hr,hok,_,hat⟩:=ptr_row hm ha (Mem.get_at hB)
  obtain⟨hpg,hsz,hn0⟩:=hok
  obtain⟨b',tot,hl',hX⟩:=hat hpg
  subst hX
  rw[oadd_eq]
  refine .const (u:=.pointer (some ⟨b',0*pl.sz+(off+k.toNat*sz),none⟩)) (.ptr hr fun pl' e=>?_) fun w'=>?_
  .injection e with e
   subst e
   exact⟨by rw[hpg];exact Nat.le_refl _,fun _=>⟨b',tot,hl',rfl⟩⟩
  .simp[Instr.indexAt,run_underlying hu,asIntOf,h0,h1,hs,Instr.sureAddr,add_at]
theorem evIndexAddr_ok (hT:TabOk P T)(hm:MemOk m σ F w){t:TypeId}{a b:AV}{X Y:Value}{A:AV}{obs:List Prop}(ha:Vc w F σ a X)(hb:Vc w F σ b Y)
  (h:evIndexAddr T m t a b=some (A,obs)) (hob:∀p∈obs,p):ReadsAs P F σ w (Instr.indexAt t X Y) A:=by
 unfold evIndexAddr at h
 split at h
 .rename_i r hr
  cases h
  exact arrIndex_ok hT hm ha hb hr hob
 .split at h
  .rename_i r hr
   cases h
   exact bigIndex_ok hT hm ha hb hr hob
  .split at h
   .rename_i r hr
    cases h
    exact smlIndex_ok hT hm ha hb hr hob
   .exact evIndexAddr0_ok hT hm ha hb h hob
theorem evLenOwn_ok (hT:TabOk P T)(hm:MemOk m σ F w){t ty:TypeId}{a:AV}{X:Value}{A:AV}{obs:List Prop}(ha:Vc w F σ a X)
  (h:evLenOwn T m t a=some (A,obs)) (hob:∀p∈obs,p):ReadsAs P F σ w (Builtin.len_ #[t] ty #[X]) A:=by
 unfold evLenOwn at h
 split at h<;>try (cases h;done)
 rename_i x he
 obtain⟨hu,_⟩:=elemOf_ok hT he
 split at h
 .rename_i r g off n
  split at h<;>try (cases h;done)
  rename_i e' sz' g' n' f' hB
  simp only[Option.some.injEq,Prod.mk.injEq]at h
  obtain⟨rfl,rfl⟩:=h
  have hg:g'=g:=hob _ (by simp)
  subst hg
  obtain⟨pl,hr,hok,_,hat⟩:=osl_row hm ha (Mem.get_at hB)
  have hsl:=hat hok.1
  unfold SlAt at hsl
  split at hsl
  .obtain⟨rfl,_,rfl⟩:=hsl
   exact .const (.d .int) fun w'=>by simp[Builtin.len_,run_underlying hu,goInt]
  .obtain⟨A,cap,rfl,_⟩:=hsl
   exact .const (.d .int) fun w'=>by simp[Builtin.len_,run_underlying hu,goInt]
 .unfold evLen at h
  rw[he]at h
  simp only at h
  split at h<;>try (cases h;done)
  .simp only[Option.some.injEq,Prod.mk.injEq]at h
   obtain⟨rfl,_⟩:=h
   cases ha with
   |d ha=>cases ha with
    |sl=>exact .const (.d .int) fun w'=>by simp[Builtin.len_,run_underlying hu,goInt]
  .simp only[Option.some.injEq,Prod.mk.injEq]at h
   obtain⟨rfl,_⟩:=h
   cases ha with
   |d ha=>cases ha with
    |nils=>exact .const (.d .int) fun w'=>by simp[Builtin.len_,run_underlying hu,goInt]
end sound
def oneOf (m:Mem):AV->Option (List Prop)
 | .d x=>bif x.one then some [] else none
 | .ptr r g i _=>liveAt m r g i
 | .osl r g _ _=>match m.get r with
  |some (.vec _ _ g' _ _)=>some [g'=g]
  |_=>none
 | .ifc _ _=>some []
 | .fn _ _ _=>some []
 | .mp r=>match m.get r with
  |some (.map _ _ _)=>some []
  |_=>none
 |_=>none
def onesOf (m:Mem):List AV->Option (List Prop)
 |[]=>some []
 | x :: r=>match oneOf m x with
  |none=>none
  |some p=>match onesOf m r with
   |none=>none
   |some q=>some (cat p q)
def cellsOf (m:Mem)(A:AV):Option (List AV × List Prop) :=
 match A with
 | .agg cs=>match onesOf m cs with
  |some p=>some (cs,p)
  |none=>none
 | .d (.agg cs)=>match onesOf m (up cs) with
  |some p=>some (up cs,p)
  |none=>none
 |A=>match oneOf m A with
  |some p=>some ([A],p)
  |none=>none
def splice:List AV->Nat->List AV->List AV
 |[],_,_=>[]
 |c::r,0,xs=>match xs with
  |[]=>c::r
  |x::xs=>x::splice r 0 xs
 |c::r,o+1,xs=>c::splice r o xs
def count:List AV->Nat
 |[]=>0
 |_::r=>count r+1
def sizeAt (T:Tab)(t:TypeId):Option Nat :=
 match T.at t with
 |some ti=>some ti.size
 |none=>none
def fillSt (T:Tab) (m:Mem) (t:TypeId):List (Nat × AV)→List AV→List Prop→Option (List AV × List Prop)
 |[],cs,p=>some (cs,p)
 | (i,A) :: r,cs,p=>match fieldOf T t i with
  |none=>none
  | some (o,u)=>match sizeAt T u with
   |none=>none
   |some sz=>match cellsOf m A with
    |none=>none
    |some (new,q)=>bif Nat.beq (count new) sz&&Nat.ble (o+sz) (count cs) then fillSt T m t r (splice cs o new) (cat q p) else none
def foldD (cs:List AV):AV :=
 match allD cs with
 |some l=>.d (.agg l)
 |none=>.agg cs
def evBuild (T:Tab) (m:Mem) (t:TypeId) (parts:List (Nat × AV)):Option (AV × List Prop) :=
 match T.at t with
 |none=>none
 | some ti=>match ti.k with
  | .st _=>match fillSt T m t parts (up ti.zero) [] with
   |some (cs,p)=>some (foldD cs,p)
   |none=>none
  | .arr _ e=>match parts with
   |[]=>match T.at e with
    |some _=>some (.d (.agg ti.zero),[])
    |none=>none
   |_::_=>none
  |_=>none
section sound
variable {P:Program}{T:Tab}{w:World}{F:Nat->Prop}{σ:Pls}{m:Mem}
theorem Rd.one_ok {x:D}{v:Value}(h:Rd w F x v)(h1:x.one=true):v.oneCell'=true:=by
 cases h<;>first|rfl|(simp[D.one]at h1)
theorem oneOf_ok (hm:MemOk m σ F w){A:AV}{v:Value}{p:List Prop}(h:Vc w F σ A v)(ho:oneOf m A=some p)(hp:∀q∈p,q):v.oneCell'=true:=by
 unfold oneOf at ho
 split at ho<;>try (cases ho;done)
 .rename_i x
  cases h1:x.one with
  |false=>rw[h1]at ho;cases ho
  |true=>cases h with|d h=>exact h.one_ok h1
 .obtain⟨pl,b,tot,_,_,_,rfl⟩:=liveAt_ok hm h ho hp
  rfl
 .split at ho<;>try (cases ho;done)
  rename_i hB
  injection ho with ho
  subst ho
  obtain⟨pl,hr,hok,_,hat⟩:=osl_row hm h (Mem.get_at hB)
  have:=hat (hok.1.trans (hp _ (by simp)))
  unfold SlAt at this
  split at this
  .obtain⟨_,_,rfl⟩:=this;rfl
  .obtain⟨_,_,rfl,_⟩:=this;rfl
 .cases h;rfl
 .cases h;rfl
 .split at ho<;>try (cases ho;done)
  rename_i r _ _ _ _ hB
  cases h with
  | @mp _ _ q hr h =>
   cases q with
   |none=>have:=(hm.lv r _ hr).1 rfl;rw[Mem.get_at hB]at this;cases this
   |some pl =>
    obtain⟨B',hB',hok⟩:=(hm.lv r _ hr).2 pl rfl
    rw[Mem.get_at hB]at hB'
    injection hB' with hB'
    injection hB' with hB'
    subst hB'
    obtain⟨b',t,_,rfl⟩:=h pl rfl hok.1
    rfl
theorem onesOf_ok (hm:MemOk m σ F w):∀{cs:List AV} {us:List Value} {p:List Prop},us.length=cs.length->(∀(j:Nat) A u,cs[j]?=some A->us[j]?=some u->Vc w F σ A u)->onesOf m cs=some p->(∀q∈p,q) ->
  ∀(j:Nat) u,us[j]?=some u->u.oneCell'=true
 |[],us,p,hl,_,_,_=>fun j u hu=>by
  have:us=[]:=List.eq_nil_of_length_eq_zero (by simpa using hl)
  subst this
  simp at hu
 | x :: r,us,p,hl,h,ho,hp=>fun j u hu=>by
  match us,hl with
  | v :: vs,hl =>
   simp only[onesOf]at ho
   split at ho<;>try (cases ho;done)
   rename_i p1 h1
   split at ho<;>try (cases ho;done)
   rename_i p2 h2
   injection ho with ho
   subst ho
   obtain⟨q1,q2⟩:=all_cat hp
   cases j with
   |zero =>
    simp at hu
    subst hu
    exact oneOf_ok hm (h 0 x v rfl rfl) h1 q1
   |succ j=>exact onesOf_ok hm (cs:=r) (us:=vs) (by simpa using hl) (fun j A u hA hu=>h (j+1) A u (by simpa using hA) (by simpa using hu)) h2 q2 j u (by simpa using hu)
theorem cells_one {v:Value}(h:v.oneCell'=true):v.cells=#[v]:=by cases v<;>first|rfl|simp[Value.oneCell']at h
theorem cellsOf_ok (hm:MemOk m σ F w){A:AV}{v:Value}{cs:List AV}{p:List Prop}(h:Vc w F σ A v)(hc:cellsOf m A=some (cs,p))(hp:∀q∈p,q) :
  ∃us:List Value,v.cells=us.toArray/\us.length=cs.length/\∀(j:Nat) A u,cs[j]?=some A->us[j]?=some u->Vc w F σ A u/\u.oneCell'=true:=by
 unfold cellsOf at hc
 split at hc
 .split at hc<;>try (cases hc;done)
  rename_i cs' p' ho
  simp only[Option.some.injEq,Prod.mk.injEq]at hc
  obtain⟨rfl,rfl⟩:=hc
  cases h with
  |agg hl h=>exact⟨_,rfl,hl,fun j A u hA hu=>⟨h j A u hA hu,onesOf_ok hm hl h ho hp j u hu⟩⟩
 .rename_i cs'
  split at hc<;>try (cases hc;done)
  rename_i ho
  simp only[Option.some.injEq,Prod.mk.injEq]at hc
  obtain⟨rfl,rfl⟩:=hc
  cases h with
  | d h=>cases h with
   | @agg _ us hl h =>
    have hl':us.length=(up cs').length:=by rw[up_eq,List.length_map];exact hl
    have h':∀(j:Nat) A u,(up cs')[j]?=some A->us[j]?=some u->Vc w F σ A u:=fun j A u hA hu=>by
     obtain⟨x,hx,rfl⟩:=up_at hA
     exact .d (h j x u hx hu)
    exact⟨_,rfl,hl',fun j A u hA hu=>⟨h' j A u hA hu,onesOf_ok hm hl' h' ho hp j u hu⟩⟩
 .split at hc<;>try (cases hc;done)
  rename_i ho
  simp only[Option.some.injEq,Prod.mk.injEq]at hc
  obtain⟨rfl,rfl⟩:=hc
  have h1:=oneOf_ok hm h ho hp
  refine⟨[v],cells_one h1,rfl,fun j A u hA hu=>?_⟩
  cases j with
  |zero=>simp at hA hu;subst hA;subst hu;exact⟨h,h1⟩
  |succ j=>simp at hA
theorem count_eq:∀l:List AV,count l=l.length
 |[]=>rfl
 |_::r=>by simp[count,count_eq r]
theorem splice_length:∀(cs:List AV) (o:Nat) (xs:List AV),(splice cs o xs).length=cs.length
 |[],_,_=>rfl
 |c::r,0,[]=>rfl
 |c::r,0,x::xs=>by simp[splice,splice_length r 0 xs]
 |c::r,o+1,xs=>by simp[splice,splice_length r o xs]
theorem splice_at:∀(cs:List AV) (o:Nat) (xs:List AV) (j:Nat),o+xs.length<=cs.length ->
  (splice cs o xs)[j]?=if o<=j/\j<o+xs.length then xs[j-o]? else cs[j]?
 |[],o,xs,j,h=>by
  have:xs=[]:=List.eq_nil_of_length_eq_zero (by have h':o+xs.length<=0:=h;omega)
  subst this
  rw[if_neg (by rw[List.length_nil];omega)]
  rfl
 |c::r,0,[],j,_=>by
  rw[if_neg (by simp)]
  rfl
 | c :: r,0,x :: xs,j,h=>by
  cases j with
  |zero=>simp[splice]
  |succ j =>
   have:=splice_at r 0 xs j (by simp at h⊢;omega)
   simp[splice,this]
 | c :: r,o + 1,xs,j,h=>by
  cases j with
  |zero=>simp[splice]
  |succ j =>
   have:=splice_at r o xs j (by simp at h⊢;omega)
   simp only[splice,List.getElem?_cons_succ,this]
   have e:j+1-(o+1)=j-o:=by omega
   simp only[e]
   by_cases h1:o<=j/\j<o+xs.length
   .rw[if_pos h1,if_pos Om]
   .rw[if_neg h1,if_neg Om]
def CellsOk (w:World)(F:Nat->Prop)(σ:Pls)(cs:List AV)(us:List Value):Prop :=
 us.length=cs.length/\∀(j:Nat) A u,cs[j]?=some A->us[j]?=some u->Vc w F σ A u/\u.oneCell'=true
theorem CellsOk.splice {cs:List AV}{us:List Value}{new:List AV}{vs:List Value}{o:Nat}(h:CellsOk w F σ cs us)(h':CellsOk w F σ new vs)(ho:o+new.length<=cs.length) :
  CellsOk w F σ (splice cs o new) (us.take o++vs++us.drop (o+vs.length)):=by
 obtain⟨h1,h2⟩:=h
 obtain⟨h3,h4⟩:=h'
 refine⟨by rw[splice_length];simp;omega,fun j A u hA hu=>?_⟩
 rw[splice_at _ _ _ _ ho]at hA
 by_cases hj:o<=j/\j<o+new.length
 .rw[if_pos hj]at hA
  refine h4 (j-o) A u hA ?_
  rw[List.getElem?_append_left (by simp;omega),List.getElem?_append_right (by simp;omega)]at hu
  simpa[Nat.min_eq_left (show o<=us.length by omega)] using hu
 .rw[if_neg hj]at hA
  refine h2 j A u hA ?_
  by_cases hjo:j<o
  .rw[List.getElem?_append_left (by simp;omega),List.getElem?_append_left (by simp;omega)]at hu
   simpa[hjo] using hu
  .rw[List.getElem?_append_right (by simp;omega)]at hu
   simp only[List.length_append,List.length_take,Nat.min_eq_left (show o<=us.length by omega),List.getElem?_drop]at hu
   have e:o+vs.length+(j-(o+vs.length))=j:=by omega
   rwa [e]at hu
theorem foldl_set (vs:List Value)(o:Nat):∀(k:Nat) (cells:Array Value),o+k+vs.length<=cells.size ->
  (vs.zipIdx k).foldl (fun cs (c:Value × Nat)=>cs.setIfInBounds (o+c.2) c.1) cells=(cells.toList.take (o+k)++vs++cells.toList.drop (o+k+vs.length)).toArray:=by
 induction vs with
 |nil=>intro k cells _;simp
 | cons v r ih =>
  intro k cells h
  simp only[List.length_cons]at h
  simp only[List.zipIdx_cons,List.foldl_cons]
  rw[ih (k+1) _ (by simp;omega)]
  congr 1
  have hlen:cells.toList.length=cells.size:=by simp
  have hL:(cells.setIfInBounds (o+k) v).toList=cells.toList.take (o+k)++v::cells.toList.drop (o+k+1):=by
   rw[Array.toList_setIfInBounds,List.set_eq_take_append_cons_drop,if_pos Om]
  have hA:(cells.toList.take (o+k)).length=o+k:=by rw[List.length_take];omega
  rw[hL]
  generalize cells.toList.take (o+k)=A at hA⊢
  have h1:A.take (o+(k+1))=A:=List.take_of_length_le Om
  have h2:A.drop (o+(k+1)+r.length)=[]:=List.drop_eq_nil_of_le Om
  rw[List.take_append,List.drop_append,h1,h2,hA]
  have e1:o+(k+1)-(o+k)=1:=by omega
  have e2:o+(k+1)+r.length-(o+k)=r.length+1:=by omega
  have e3:o+k+1+r.length=o+k+(r.length+1):=by omega
  rw[e1,e2]
  simp[List.drop_drop,e3]
end sound
def evSlice (T:Tab) (m:Mem) (t:TypeId) (A:AV) (lo hi:Option AV):Option (AV × List Prop) :=
 match elemOf T t with
 |none=>none
 | some (_,sz)=>match A with
  | .d (.sl sz' n f)=>bif Nat.beq sz' sz then
    match lo with
    |none=>match hi with
     |none=>some (.d (.sl sz' n f),[])
     |some (.d (.int _ h))=>some (.d (.sl sz' h.toNat f),[0<=h,h<=n])
     |_=>none
    |some (.d (.int _ l))=>match hi with
     |none=>some (.d (.sl sz' (n-l.toNat) fun i=>f (l.toNat+i)),[0<=l,l<=n])
     |some (.d (.int _ h))=>some (.d (.sl sz' (h.toNat-l.toNat) fun i=>f (l.toNat+i)),[0<=l,l<=h,h<=n])
     |_=>none
    |_=>none
   else none
  | .d .nils=>match lo with
   |none=>match hi with
    |none=>some (.d .nils,[])
    |some (.d (.int _ h))=>some (.d .nils,[h=0])
    |_=>none
   |some (.d (.int _ l))=>match hi with
    |none=>some (.d .nils,[l=0])
    |some (.d (.int _ h))=>some (.d .nils,[l=0,h=0])
    |_=>none
   |_=>none
  | .osl r g off n=>match m.get r with
   | some (.vec _ sz' g' _ _)=>bif Nat.beq sz' sz then
     match lo with
     |none=>match hi with
      |none=>some (.osl r g off n,[g'=g])
      |some (.d (.int _ h))=>some (.osl r g off h.toNat,[g'=g,0<=h,h<=n])
      |_=>none
     |some (.d (.int _ l))=>match hi with
      |none=>some (.osl r g (off+l.toNat) (n-l.toNat),[g'=g,0<=l,l<=n])
      |some (.d (.int _ h))=>some (.osl r g (off+l.toNat) (h.toNat-l.toNat),[g'=g,0<=l,l<=h,h<=n])
      |_=>none
     |_=>none
    else none
   |_=>none
  |_=>none
def evCap (T:Tab)(t:TypeId)(A:AV):Option (AV × List Prop) :=
 match elemOf T t with
 |none=>none
 |some _=>match A with
  | .d .nils=>some (.d (.int .i64 0),[])
  |_=>none
def evIfc (T:Tab)(t:TypeId)(A:AV):Option (AV × List Prop) :=
 match T.at t with
 |none=>none
 | some ti=>match ti.k with
  | .ifc | .other=>none
  |_=>match A with
   | .d x=>some (.d (.ifc t x),[])
   |A=>some (.ifc t A,[])
def evConv (T:Tab) (src dst:TypeId) (A:AV):Option (AV × List Prop) :=
 match A with
 | .d (.int _ n)=>match T.at src with
  | some ti=>match ti.k with
   | .int _=>match T.at dst with
    | some tj=>match tj.k with
     | .int k=>match k with
      | .u64=>none
      |k=>some (.d (.int k n),[In k n])
     |_=>none
    |none=>none
   |_=>none
  |none=>none
 |_=>none
def evIndex (T:Tab) (t:TypeId) (A I:AV):Option (AV × List Prop) :=
 match arrOf T t with
 | none=>match smlOf T t with
  |none=>none
  | some (n,sz)=>match A with
   | .d (.agg cs)=>match I with
    | .d (.int _ i)=>match dcut cs (i.toNat*sz) sz with
     |some l=>some (.d (.agg l),[0<=i,i<(n:Int)])
     |none=>none
    |_=>none
   |_=>none
 | some (n,e)=>match T.at e with
  |none=>none
  | some te=>bif te.k.agg then none else match A with
   | .d (.agg cs)=>match I with
    | .d (.int _ i)=>some (.d (cs.getD i.toNat .nilp),[0<=i,i<(n:Int),cs.length=n])
    |_=>none
   |_=>none
def evField (T:Tab) (t:TypeId) (k:Nat) (A:AV):Option (AV × List Prop) :=
 match fieldOf T t k with
 |none=>none
 | some (o,u)=>match T.at u with
  |none=>none
  | some ti=>match A with
   | .d (.agg cs)=>bif ti.k.agg then match dcut cs o ti.size with
     |some l=>some (.d (.agg l),[])
     |none=>none
    else match dlook cs o with
     |some x=>some (.d x,[])
     |none=>none
   | .agg cs=>bif ti.k.agg then match acut cs o ti.size with
     |some l=>some (.agg l,[])
     |none=>none
    else match alook cs o with
     |some x=>some (x,[])
     |none=>none
   |_=>none
def cellsA:AV->Option (List AV)
 | .agg cs=>some cs
 | .d (.agg ds)=>some (up ds)
 |_=>none
def partA (T:Tab)(u:TypeId)(cs:List AV)(o:Nat):Option AV :=
 match T.at u with
 |none=>none
 | some ti=>bif ti.k.agg then match acut cs o ti.size with
   |some l=>some (.agg l)
   |none=>none
  else alook cs o
def eqFs (T:Tab) (f:TypeId→AV→AV→Option Bool):List (Nat × TypeId)→List AV→List AV→Option Bool
 |[],_,_=>some true
 | (o,u) :: r,cs,ds=>match partA T u cs o with
  |none=>none
  | some x=>match partA T u ds o with
   |none=>none
   | some y=>match f u x y with
    |none=>none
    | some b=>match r with
     |[]=>some b
     |_=>match eqFs T f r cs ds with
      |none=>none
      |some c=>some (b&&c)
def eqAt (T:Tab):Nat→TypeId→AV→AV→Option Bool
 |0,_,_,_=>none
 | n + 1,t,x,y=>match T.at t with
  |none=>none
  | some ti=>match ti.k with
   | .int _=>match x with
    | .d (.int k a)=>match y with
     | .d (.int k' b)=>bif decide (k=k') then some (decide (a=b)) else none
     |_=>none
    |_=>none
   | .bool=>match x with
    | .d (.bool a)=>match y with
     | .d (.bool b)=>some (a==b)
     |_=>none
    |_=>none
   | .str=>match x with
    | .d (.str a)=>match y with
     | .d (.str b)=>some (decide (a=b))
     |_=>none
    |_=>none
   | .st fs=>bif ti.eq then match cellsA x with
     |none=>none
     |some cs=>match cellsA y with
      |none=>none
      |some ds=>eqFs T (eqAt T n) fs cs ds
    else none
   |_=>none
def isCmp:AV->Bool
 | .d (.bool _)=>true
 | .d (.agg _)=>true
 | .agg _=>true
 |_=>false
def evStr (op:BinOp)(x y:AV):Option (AV × List Prop) :=
 match x with
 | .d (.str a)=>match y with
  | .d (.str b)=>match op with
   | .eql=>some (.d (.bool (decide (a=b))),[])
   | .neq=>some (.d (.bool (!decide (a=b))),[])
   |_=>none
  |_=>none
 |_=>none
def evEq (T:Tab)(op:BinOp)(t:TypeId)(x y:AV):Option (AV × List Prop) :=
 match evStr op x y with
 |some r=>some r
 | none=>bif isCmp x && isCmp y then match op with
  | .eql=>match eqAt T 8 t x y with
   |some b=>some (.d (.bool b),[])
   |none=>none
  | .neq=>match eqAt T 8 t x y with
   |some b=>some (.d (.bool (!b)),[])
   |none=>none
  |_=>none
 else none
def isNilI:AV->Option Bool
 | .d .nili=>some true
 | .d (.ifc _ _)=>some false
 | .ifc _ _=>some false
 |_=>none
def evNilEq (T:Tab) (op:BinOp) (t:TypeId) (y:Operand) (a:AV):Option (AV × List Prop) :=
 match y with
 | .const .nilIface=>match T.at t with
  | some ti=>match ti.k with
   | .ifc=>match isNilI a with
    |some b=>match op with
     | .eql=>some (.d (.bool b),[])
     | .neq=>some (.d (.bool (!b)),[])
     |_=>none
    |none=>none
   |_=>none
  |none=>none
 |_=>none
section sound
variable {P:Program}{T:Tab}{w:World}{F:Nat->Prop}{σ:Pls}{m:Mem}
theorem beqStrL (a b:ByteArray):(a.toList==b.toList)=decide (a=b):=by
 rw[Bool.eq_iff_iff,decide_eq_true_iff,beq_iff_eq,ByteArray.toList_eq,ByteArray.toList_eq]
 cases a with|mk x=>cases b with|mk y=>simp
theorem beqStr (a b:ByteArray):(a==b)=decide (a=b):=by
 rw[Bool.eq_iff_iff,decide_eq_true_iff]
 cases a with|mk x=>cases b with|mk y =>
 simp only[ByteArray.mk.injEq]
 show(x==y)=true↔_
 exact beq_iff_eq
theorem evNilEq_ok (hT:TabOk P T){op:BinOp}{t:TypeId}{x:AV}{p q:Operand}{X Y:Value}{A:AV}{obs:List Prop}(hx:Vc w F σ x X)(hq:∀v,q=.const v->Y=v)
  (h:evNilEq T op t q x=some (A,obs)):ReadsAs P F σ w (do eqGuard op t p q X Y;binOp op t X Y) A:=by
 unfold evNilEq at h
 split at h<;>try (cases h;done)
 have:=hq _ rfl
 subst this
 split at h<;>try (cases h;done)
 rename_i ti hti
 split at h<;>try (cases h;done)
 rename_i hk
 split at h<;>try (cases h;done)
 rename_i b hb
 have hkind:=tiIs_kind (hT _ _ hti)
 rw[hk]at hkind
 obtain⟨ms,hu⟩:∃ms,P.underlying t=some (.interface ms):=by
  simp only[kindIs]at hkind
  split at hkind
  .rename_i ms h;exact⟨ms,h⟩
  .cases hkind
 have key:(X=.nilIface/\b=true)\/((∃tx vx,X=.iface tx vx)/\b=false):=by
  unfold isNilI at hb
  split at hb<;>try (cases hb;done)
  .cases hb
   cases hx with|d hx=>cases hx;exact .inl ⟨rfl,rfl⟩
  .cases hb
   cases hx with|d hx=>cases hx;exact .inr ⟨⟨_,_,rfl⟩,rfl⟩
  .cases hb
   cases hx;exact .inr ⟨⟨_,_,rfl⟩,rfl⟩
 have hrun:∀w',(Op.equal t X .nilIface).run P w'=.ok b w':=fun w'=>by
  have key2:∀d,(Op.equalIn (d+1) t X .nilIface).run P w'=.ok b w':=fun d=>by
   rcases key with ⟨rfl,rfl⟩|⟨⟨tx,vx,rfl⟩,rfl⟩
   .unfold Op.equalIn;simp[run_underlying hu]
   .unfold Op.equalIn;simp[run_underlying hu]
  exact key2 9999
 have hg:∀w',(eqGuard op t p (.const .nilIface) X .nilIface).run P w'=.ok () w':=fun w'=>by
  rcases key with ⟨rfl,rfl⟩|⟨⟨tx,vx,rfl⟩,rfl⟩
  .unfold eqGuard;cases op<;>simp
  .unfold eqGuard;cases op<;>simp
 have hbin:∀op',op'=.eql\/op'=.neq->binOp op' t X .nilIface=(match op' with | .eql=>(do pure (.bool (<-Op.equal t X .nilIface)):Sem Value)|_=>do pure (.bool (!(<-Op.equal t X .nilIface)))):=fun op' h=>by
  rcases key with ⟨rfl,_⟩|⟨⟨tx,vx,rfl⟩,_⟩<;>rcases h with rfl|rfl<;>rfl
 split at h<;>simp only[Option.some.injEq,Prod.mk.injEq,reduceCtorEq]at h
 .obtain⟨rfl,rfl⟩:=h
  refine⟨.bool b,.d .bool,fun w' _=>?_⟩
  simp[hg w',hbin .eql (.inl rfl),hrun w']
 .obtain⟨rfl,rfl⟩:=h
  refine⟨.bool (!b),.d .bool,fun w' _=>?_⟩
  simp[hg w',hbin .neq (.inr rfl),hrun w']
theorem cellsA_ok {x:AV}{X:Value}{cs:List AV}(h:Vc w F σ x X)(hc:cellsA x=some cs) :
  ∃us:List Value,X=.agg us.toArray/\us.length=cs.length/\∀(j:Nat) A u,cs[j]?=some A->us[j]?=some u->Vc w F σ A u:=by
 unfold cellsA at hc
 split at hc<;>try (cases hc;done)
 .injection hc with hc
  subst hc
  cases h with|agg hl h=>exact⟨_,rfl,hl,h⟩
 .injection hc with hc
  subst hc
  cases h with
  |d h=>cases h with
   | agg hl h=>exact ⟨_,rfl,by rw [up_eq,List.length_map];exact hl,fun j A u hA hu=>by
     obtain⟨x,hx,rfl⟩:=up_at hA
     exact .d (h j x u hx hu)⟩
theorem partA_ok (hT:TabOk P T){u:TypeId}{cs:List AV}{us:List Value}{o:Nat}{A:AV}(hl:us.length=cs.length)(h:∀(j:Nat) A u,cs[j]?=some A->us[j]?=some u->Vc w F σ A u)
  (hp:partA T u cs o=some A):∃v,Vc w F σ A v/\∀w',(part u us.toArray o).run P w'=.ok v w':=by
 unfold partA at hp
 split at hp<;>try (cases hp;done)
 rename_i ti hti
 have ht:=hT _ _ hti
 cases hagg:ti.k.agg with
 | true =>
  rw[hagg]at hp
  simp only[cond_true]at hp
  split at hp<;>try (cases hp;done)
  rename_i l hcut
  injection hp with hp
  subst hp
  obtain⟨h1,h2⟩:=acut_eq hcut
  refine⟨.agg ((us.drop o).take ti.size).toArray,.agg ?_ fun j x u hx hu=>?_,fun w'=>by simp[part,run_isAgg ht,hagg,run_sizeOf ht,List.extract_eq_take_drop]⟩
  .rw[h1];simp
   rcases Nat.eq_zero_or_pos ti.size with h0|h0
   .omega
   .have:=(h2 (ti.size-1) Om).2;omega
  .rw[List.getElem?_take]at hu
   split at hu
   .rename_i hj
    exact h (o+j) x u (by rw[<-(h2 j hj).1];exact hx) (by simpa[List.getElem?_drop] using hu)
   .cases hu
 |false =>
  rw[hagg]at hp
  simp only[cond_false]at hp
  rw[alook_eq]at hp
  have hlt:=(List.getElem?_eq_some_iff.1 hp).1
  have hu':us[o]?=some (us[o]'Om):=List.getElem?_eq_getElem Om
  exact⟨_,h o A _ hp hu',fun w'=>by simp[part,run_isAgg ht,hagg,hu']⟩
theorem kindIs_bool {t:TypeId}(h:kindIs P t .bool=true):P.underlying t=some .bool:=by
 simp only[kindIs]at h
 split at h
 .assumption
 .cases h
theorem kindIs_str {t:TypeId}(h:kindIs P t .str=true):P.underlying t=some .string:=by
 simp only[kindIs]at h
 split at h
 .assumption
 .cases h
theorem kindIs_int {t:TypeId}{k:IntKind}(h:kindIs P t (.int k)=true):P.underlying t=some (.int k):=by
 simp only[kindIs]at h
 split at h
 .rename_i k' e;rw[e,of_decide_eq_true h]
 .cases h
theorem eqFs_ok (hT:TabOk P T){n:Nat}(ih:∀(t:TypeId) (x y:AV) (X Y:Value) (b:Bool),Vc w F σ x X->Vc w F σ y Y->eqAt T n t x y=some b->∀d,n<=d->∀w',(Op.equalIn d t X Y).run P w'=.ok b w')
  {cs ds:List AV} {us vs:List Value} (hl:us.length=cs.length) (h:∀(j:Nat) A u,cs[j]?=some A->us[j]?=some u->Vc w F σ A u) (hl':vs.length=ds.length) (h':∀(j:Nat) A u,ds[j]?=some A->vs[j]?=some u->Vc w F σ A u) :
  ∀(gs:List (Nat × TypeId)) (fs:List Field) (b:Bool),fs.map (fun f=>(f.offset,f.type))=gs->(∀f∈fs,f.name≠ "_")->eqFs T (eqAt T n) gs cs ds=some b->∀d,n<=d->∀w',(Op.eqFields d us.toArray vs.toArray fs).run P w'=.ok b w'
 |[],fs,b,hg,hn,he,d,hd,w'=>by
  have:fs=[]:=by simpa using hg
  subst this
  simp[eqFs]at he
  subst he
  simp[Op.eqFields]
 | (o,u) :: r,fs,b,hg,hn,he,d,hd,w'=>by
  cases fs with
  |nil=>simp at hg
  | cons f fs =>
   simp only[List.map_cons,List.cons.injEq,Prod.mk.injEq]at hg
   obtain⟨⟨ho,hu⟩,hg2⟩:=hg
   subst ho;subst hu
   simp only[eqFs]at he
   split at he<;>try (cases he;done)
   rename_i x hx
   split at he<;>try (cases he;done)
   rename_i y hy
   split at he<;>try (cases he;done)
   rename_i b1 hb1
   obtain⟨X,hX,rX⟩:=partA_ok hT hl h hx
   obtain⟨Y,hY,rY⟩:=partA_ok hT hl' h' hy
   have h1:=ih _ x y X Y b1 hX hY hb1 d hd
   simp only[Op.eqFields]
   rw[if_pos (hn f (by simp))]
   simp only[Sem.run_bind,rX w',Result.andThen_ok,rY w',h1 w',Sem.run_ite]
   split at he
   .injection he with he
    subst he
    have:fs=[]:=by simpa using hg2
    subst this
    cases b1<;>simp[Op.eqFields]
   .split at he<;>try (cases he;done)
    rename_i c hc
    injection he with he
    subst he
    cases b1 with
    |false=>simp
    |true=>simpa using eqFs_ok hT ih hl h hl' h' r fs c hg2 (fun g hg=>hn g (by simp[hg])) hc d hd w'
theorem fieldsAre_map:∀{fs:List Field} {gs:List (Nat × TypeId)},fieldsAre P fs gs=true->fs.map (fun f=>(f.offset,f.type))=gs
 |[],[],_=>rfl
 |f::r,(o,u)::s,h=>by
  simp only[fieldsAre,Bool.and_eq_true]at h
  obtain⟨⟨⟨h1,h2⟩,_⟩,h4⟩:=h
  simp only[List.map_cons,fieldsAre_map h4,Nat.eq_of_beq_eq_true h1,Nat.eq_of_beq_eq_true h2]
 |[],_::_,h=>by simp[fieldsAre]at h
 |_::_,[],h=>by simp[fieldsAre]at h
theorem eqAt_ok (hT:TabOk P T):∀(n:Nat) (t:TypeId) (x y:AV) (X Y:Value) (b:Bool),Vc w F σ x X->Vc w F σ y Y->eqAt T n t x y=some b->∀d,n<=d->∀w',(Op.equalIn d t X Y).run P w'=.ok b w'
 |0,_,_,_,_,_,_,_,_,h,_,_,_=>by simp[eqAt]at h
 | n + 1,t,x,y,X,Y,b,hx,hy,h,d,hd,w'=>by
  obtain⟨d,rfl⟩:∃d',d=d'+1:=⟨d-1,Om⟩
  simp only[eqAt]at h
  split at h<;>try (cases h;done)
  rename_i ti hti
  have ht:=hT _ _ hti
  have hk:=tiIs_kind ht
  split at h<;>try (cases h;done)
  .rename_i k ek
   rw[ek]at hk
   split at h<;>try (cases h;done)
   rename_i k1 a
   split at h<;>try (cases h;done)
   rename_i k2 c
   cases hkk:decide (k1=k2) with
   |false=>rw[hkk]at h;cases h
   |true =>
    rw[hkk]at h
    simp only[cond_true,Option.some.injEq]at h
    have:=of_decide_eq_true hkk
    subst this;subst h
    have:=hx.int;subst this
    have:=hy.int;subst this
    rw[run_equalIn_int w' d t k1 k a c (kindIs_int hk)]
    congr 1
  .rename_i ek
   rw[ek]at hk
   split at h<;>try (cases h;done)
   split at h<;>try (cases h;done)
   injection h with h
   subst h
   have:=hx.bool;subst this
   have:=hy.bool;subst this
   exact run_equalIn_bool' w' d t _ _ (kindIs_bool hk)
  .rename_i ek
   rw[ek]at hk
   split at h<;>try (cases h;done)
   split at h<;>try (cases h;done)
   injection h with h
   subst h
   have:=hx.str;subst this
   have:=hy.str;subst this
   rw[<-beqStr]
   simp only[Op.equalIn,Sem.run_bind,run_underlying (kindIs_str hk),Result.andThen_ok,Sem.run_pure]
  .rename_i gs ek
   rw[ek]at hk
   cases heq:ti.eq with
   |false=>rw[heq]at h;cases h
   |true =>
    rw[heq]at h
    simp only[cond_true]at h
    split at h<;>try (cases h;done)
    rename_i cs hcs
    split at h<;>try (cases h;done)
    rename_i ds hds
    obtain⟨us,rfl,l1,v1⟩:=cellsA_ok hx hcs
    obtain⟨vs,rfl,l2,v2⟩:=cellsA_ok hy hds
    obtain⟨e1,_,e3⟩:=tiIs_eq ht heq
    simp only[kindIs]at hk
    split at hk<;>try (cases hk;done)
    rename_i fs hfs
    have hfo:P.fieldsOf t=fs:=by simp[Program.fieldsOf,hfs]
    rw[run_equalIn_struct w' d t _ _ (by rw[hfo];exact hfs) e1,hfo]
    exact eqFs_ok hT (eqAt_ok hT n) l1 v1 l2 v2 gs fs.toList b (fieldsAre_map hk) (e3 fs hfs) h d Om w'
theorem evEq_ok (hT:TabOk P T){op:BinOp}{t:TypeId}{x y:AV}{p q:Operand}{X Y:Value}{A:AV}{obs:List Prop}(hx:Vc w F σ x X)(hy:Vc w F σ y Y)
  (h:evEq T op t x y=some (A,obs)):ReadsAs P F σ w (do eqGuard op t p q X Y;binOp op t X Y) A:=by
 unfold evEq at h
 split at h
 .rename_i r hr
  injection h with h
  subst h
  unfold evStr at hr
  split at hr<;>try (cases hr;done)
  rename_i a
  split at hr<;>try (cases hr;done)
  rename_i b
  have:=hx.str;subst this
  have:=hy.str;subst this
  split at hr<;>try (cases hr;done)
  .injection hr with hr
   injection hr with e1 _
   subst e1
   refine .const (.d .bool) fun w'=>?_
   rw[<-beqStrL]
   simp[eqGuard,binOp,Op.stringOp]
  .injection hr with hr
   injection hr with e1 _
   subst e1
   refine .const (.d .bool) fun w'=>?_
   rw[<-beqStrL]
   simp[eqGuard,binOp,Op.stringOp]
 cases hc:(isCmp x&&isCmp y) with
 |false=>rw[hc]at h;cases h
 | true =>
  rw[hc]at h
  simp only[cond_true]at h
  have key:∀b,eqAt T 8 t x y=some b->∀w',(Op.equal t X Y).run P w'=.ok b w':=fun b hb w'=>eqAt_ok hT 8 t x y X Y b hx hy hb 10000 Om w'
  have hguard:∀b,eqAt T 8 t x y=some b->∀w',(eqGuard op t p q X Y).run P w'=.ok () w':=by
   intro b hb w'
   simp only[eqAt]at hb
   split at hb<;>try (cases hb;done)
   rename_i ti hti
   split at hb<;>try (cases hb;done)
   .split at hb<;>try (cases hb;done)
    simp[isCmp]at hc
   .split at hb<;>try (cases hb;done)
    have:=hx.bool;subst this
    rw[eqGuard_at_bool];rfl
   .split at hb<;>try (cases hb;done)
    simp[isCmp]at hc
   .cases heq:ti.eq with
    |false=>rw[heq]at hb;cases hb
    |true =>
     rw[heq]at hb
     simp only[cond_true]at hb
     split at hb<;>try (cases hb;done)
     rename_i cs hcs
     split at hb<;>try (cases hb;done)
     rename_i ds hds
     obtain⟨us,rfl,_⟩:=cellsA_ok hx hcs
     obtain⟨vs,rfl,_⟩:=cellsA_ok hy hds
     exact run_eqGuard_agg w' op t p q _ _ (tiIs_eq (hT _ _ hti) heq).2.1
  have hshape:(∃b,X=.bool b)\/∃us,X=.agg us:=by
   simp only[Bool.and_eq_true]at hc
   have hc1:=hc.1
   clear hc key hguard h
   unfold isCmp at hc1
   split at hc1
   .exact .inl ⟨_,hx.bool⟩
   .cases hx with|d hx=>cases hx;exact .inr ⟨_,rfl⟩
   .cases hx;exact .inr ⟨_,rfl⟩
   .cases hc1
  split at h<;>try (cases h;done)
  .split at h<;>try (cases h;done)
   rename_i b hb
   simp only[Option.some.injEq,Prod.mk.injEq]at h
   obtain⟨rfl,_⟩:=h
   refine .const (.d .bool) fun w'=>?_
   rw[Sem.run_bind,hguard b hb w',Result.andThen_ok]
   have:binOp .eql t X Y=(do pure (.bool (<-Op.equal t X Y))):=by
    rcases hshape with ⟨b,rfl⟩|⟨us,rfl⟩<;>cases Y<;>rfl
   rw[this]
   simp[key b hb w']
  .split at h<;>try (cases h;done)
   rename_i b hb
   simp only[Option.some.injEq,Prod.mk.injEq]at h
   obtain⟨rfl,_⟩:=h
   refine .const (.d .bool) fun w'=>?_
   rw[Sem.run_bind,hguard b hb w',Result.andThen_ok]
   have:binOp .neq t X Y=(do pure (.bool (!(<-Op.equal t X Y)))):=by
    rcases hshape with ⟨b,rfl⟩|⟨us,rfl⟩<;>cases Y<;>rfl
   rw[this]
   simp[key b hb w']
theorem allD_eq:∀{cs:List AV} {l:List D},allD cs=some l->cs=up l
 |[],l,h=>by simp[allD]at h;subst h;rfl
 | x :: r,l,h=>by
  unfold allD at h
  split at h
  .rename_i e;cases e
  .rename_i x' r' e
   injection e with e1 e2
   subst e1;subst e2
   split at h
   .rename_i l' hl
    injection h with h
    subst h
    simp[up,allD_eq hl]
   .cases h
  .cases h
theorem foldD_ok {cs:List AV}{us:List Value}(hl:us.length=cs.length)(h:∀(j:Nat) A u,cs[j]?=some A->us[j]?=some u->Vc w F σ A u):Vc w F σ (foldD cs) (.agg us.toArray):=by
 unfold foldD
 split
 .rename_i l hd
  have:=allD_eq hd
  subst this
  refine .d (.agg (by rw[hl,up_eq,List.length_map]) fun j x u hx hu=>?_)
  have:=h j (.d x) u (by rw[up_eq,List.getElem?_map,hx];rfl) hu
  cases this with|d h=>exact h
 .exact .agg hl h
theorem CellsOk.zero {vs:List Value}{xs:List D}(h:sameZs vs xs=true):CellsOk w F σ (up xs) vs:=by
 obtain⟨h1,h2⟩:=sameZs_sound (w:=w) (F:=F) h
 refine⟨by rw[up_eq,List.length_map,h1],fun j A u hA hu=>?_⟩
 obtain⟨x,hx,rfl⟩:=up_at hA
 exact⟨.d (h2 j x u hx hu).1,(h2 j x u hx hu).2⟩
theorem sizeAt_ok (hT:TabOk P T){t:TypeId}{n:Nat}(h:sizeAt T t=some n):∃i,P.info? t=some i/\i.size=n:=by
 unfold sizeAt at h
 split at h
 .rename_i ti hti
  injection h with h
  subst h
  obtain⟨i,z,hi,hs,_⟩:=tiIs_info (hT t ti hti)
  exact⟨i,hi,hs⟩
 .cases h
theorem run_fill_one {place:Nat->Option (Nat × Nat)}{i o sz:Nat}{v:Value}{us vs:List Value}{rest:List (Nat × Value)}(hp:place i=some (o,sz))(hv:v.cells=us.toArray)(hs:us.length=sz)(hf:o+sz<=vs.length) :
  Instr.fill place vs.toArray ((i,v)::rest)=Instr.fill place (vs.take o++us++vs.drop (o+us.length)).toArray rest:=by
 have h0:¬ (v.cells.size≠sz\/o+v.cells.size>vs.toArray.size):=by
  rw[hv];simp;omega
 simp only[Instr.fill,hp]
 rw[if_neg (by simpa using h0)]
 congr 1
 rw[hv]
 have:=foldl_set us o 0 vs.toArray (by simp;omega)
 simp only[Nat.add_zero]at this
 rw[<-this]
 simp
theorem fillSt_ok (hT:TabOk P T)(hm:MemOk m σ F w){t:TypeId}{fields:Array Field}{places:List (Nat × Nat)}(hu:P.underlying t=some (.struct fields))
  (hpl:fields.toList.mapM (fun f=>(P.info? f.type).map fun i=>(f.offset,i.size))=some places) :
  ∀(parts:List (Nat × AV)) (vals:List (Nat × Value)) (cs:List AV) (vs:List Value) (p:List Prop) (cs':List AV) (p':List Prop),
   vals.map (·.1)=parts.map (·.1)->(∀(j:Nat) a b,parts[j]?=some a->vals[j]?=some b->Vc w F σ a.2 b.2)->CellsOk w F σ cs vs ->
   fillSt T m t parts cs p=some (cs',p')->(∀q∈p',q)->(∀q∈p,q)/\∃vs',Instr.fill (places.toArray[·]?) vs.toArray vals=some vs'.toArray/\CellsOk w F σ cs' vs'
 |[],vals,cs,vs,p,cs',p',hk,hv,hc,h,hp=>by
  have:vals=[]:=by simpa using hk
  subst this
  simp[fillSt]at h
  obtain⟨rfl,rfl⟩:=h
  exact⟨hp,vs,rfl,hc⟩
 | (i,A) :: r,vals,cs,vs,p,cs',p',hk,hv,hc,h,hp=>by
  cases vals with
  |nil=>simp at hk
  | cons iv vals =>
   obtain⟨i',v⟩:=iv
   simp only[List.map_cons,List.cons.injEq]at hk
   obtain⟨hi,hk2⟩:=hk
   subst hi
   simp only[fillSt]at h
   split at h<;>try (cases h;done)
   rename_i o u hf
   split at h<;>try (cases h;done)
   rename_i sz hsz
   split at h<;>try (cases h;done)
   rename_i new q hcell
   cases hb:(Nat.beq (count new) sz&&Nat.ble (o+sz) (count cs)) with
   |false=>rw[hb]at h;cases h
   | true =>
    rw[hb]at h
    simp only[cond_true]at h
    simp only[Bool.and_eq_true,count_eq]at hb
    have h1:=Nat.eq_of_beq_eq_true hb.1
    have h2:=Nat.le_of_ble_eq_true hb.2
    -- the rest first,to have the conditions
    have hrest:=fillSt_ok hT hm hu hpl r vals (splice cs o new)
    obtain⟨fs,f,hu',hfi,ho,hft,_⟩:=fieldOf_ok hT hf
    rw[hu]at hu'
    injection hu' with hu'
    injection hu' with hu'
    subst hu'
    obtain⟨ii,hii,hisz⟩:=sizeAt_ok hT hsz
    have hplace:places.toArray[i']?=some (o,sz):=by
     have hfl:fields.toList[i']?=some f:=by simpa using hfi
     have:=mapM_at hpl hfl
     obtain⟨b,hb1,hb2⟩:=this
     rw[hft,hii]at hb1
     simp at hb1
     subst hb1
     simpa[ho,hisz] using hb2
    have hq:(∀x∈cat q p,x)->∃us:List Value,v.cells=us.toArray/\CellsOk w F σ new us:=fun hx=>by
     obtain⟨us,e1,e2,e3⟩:=cellsOf_ok hm (hv 0 (i',A) (i',v) rfl rfl) hcell (all_cat hx).1
     exact⟨us,e1,e2,e3⟩
    -- conditions come out of the recursion
    have hpp:∀x∈cat q p,x:=fillSt_conds r _ _ _ _ h hp
    obtain⟨us,hus,hcu⟩:=hq hpp
    have hsp:=hc.splice hcu (by rw[h1];exact h2)
    obtain⟨_,vs',e1,e2⟩:=hrest (vs.take o++us++vs.drop (o+us.length)) (cat q p) cs' p' hk2 (fun j a b ha hb=>hv (j+1) a b (by simpa using ha) (by simpa using hb)) hsp h hp
    refine⟨(all_cat hpp).2,vs',?_,e2⟩
    rw[run_fill_one hplace hus (by rw[hcu.1,h1]) (by rw[hc.1];exact h2)]
    exact e1
where
 fillSt_conds {t:TypeId}:∀(parts:List (Nat × AV)) (cs:List AV) (p:List Prop) (cs':List AV) (p':List Prop),fillSt T m t parts cs p=some (cs',p')->(∀q∈p',q)->∀q∈p,q
  |[],cs,p,cs',p',h,hp=>by simp[fillSt]at h;obtain⟨_,rfl⟩:=h;exact hp
  | (i,A) :: r,cs,p,cs',p',h,hp=>by
   simp only[fillSt]at h
   split at h<;>try (cases h;done)
   rename_i o u _
   split at h<;>try (cases h;done)
   rename_i sz _
   split at h<;>try (cases h;done)
   rename_i new q _
   cases hb:(Nat.beq (count new) sz&&Nat.ble (o+sz) (count cs)) with
   |false=>rw[hb]at h;cases h
   |true =>
    rw[hb]at h
    exact(all_cat (fillSt_conds r _ _ _ _ h hp)).2
 mapM_at {fs:List Field} {places:List (Nat × Nat)} (h:fs.mapM (fun f=>(P.info? f.type).map fun i=>(f.offset,i.size))=some places) {k:Nat} {f:Field} (hk:fs[k]?=some f) :
   ∃b,(P.info? f.type).map (fun i=>(f.offset,i.size))=some b/\places[k]?=some b:=by
  induction fs generalizing places k with
  |nil=>simp at hk
  | cons g r ih =>
   simp only[List.mapM_cons,Option.bind_eq_bind,Option.pure_def]at h
   cases hg:(P.info? g.type).map (fun i=>(g.offset,i.size)) with
   |none=>rw[hg]at h;simp at h
   | some b =>
    rw[hg]at h
    simp only[Option.bind_some]at h
    cases hr:r.mapM (fun f=>(P.info? f.type).map fun i=>(f.offset,i.size)) with
    |none=>rw[hr]at h;simp at h
    |some rest =>
     rw[hr]at h
     simp only[Option.bind_some,Option.some.injEq]at h
     subst h
     cases k with
     |zero=>simp at hk;subst hk;exact⟨b,hg,rfl⟩
     |succ k=>simpa using ih hr (by simpa using hk)
end sound
def DEq0:D->D->Prop
 | .sl sz n f,x=>match x with
  | .sl sz' n' f'=>sz=sz'/\n=n'/\∀i,i<n'->f i=f' i
  |_=>False
 | .slc sz n f,x=>match x with
  | .sl sz' n' f'=>sz=sz'/\n=n'/\∀i,i<n'->f i=f' i
  | .slc sz' n' f'=>sz=sz'/\n=n'/\∀i,i<n'->f i=f' i
  |_=>False
 | .nils,x=>match x with
  | .sl _ n _=>n=0
  | .nils=>True
  |_=>False
 |y,x=>y=x
def ZAll:List D->List D->Prop
 |[],[]=>True
 |z::r,x::s=>DEq0 z x/\ZAll r s
 |_,_=>False
def DEq:D->D->Prop
 | .agg ys,x=>match x with
  | .agg xs=>ys=xs\/ZAll ys xs
  |_=>False
 |y,x=>DEq0 y x
def ZAllV:List D->List AV->Prop
 |[],[]=>True
 |z::r,A::s=>(match A with
  | .d x=>DEq0 z x
  |_=>False)/\ZAllV r s
 |_,_=>False
def ZFit (ti:TI)(A:AV):Prop :=
 match A with
 | .d x=>match ti.k.agg with
  |true=>match x with
   | .agg xs=>ZAll ti.zero xs
   |_=>False
  |false=>match ti.zero with
   |[z]=>DEq0 z x
   |_=>False
 | .agg cs=>ti.k.agg=true/\ZAllV ti.zero cs
 |_=>False
def mapOf (T:Tab) (t:TypeId):Option (Ksh × TI) :=
 match T.at t with
 | some ti=>match ti.k with
  | .map kt et=>match T.at kt with
   | some tk=>match tk.k with
    | .int k=>match T.at et with
     |some te=>some (.one k,te)
     |none=>none
    | .str=>match T.at et with
     |some te=>some (.str,te)
     |none=>none
    | _=>match tk.ks with
     |[]=>none
     |k::r=>match T.at et with
      |some te=>some (.many (k::r),te)
      |none=>none
   |none=>none
  |_=>none
 |none=>none
def keyDs (k:IntKind)(ih:List D->Option (List Int))(cs:List D):Option (List Int) :=
 match cs with
 | .int k' n::r=>bif decide (k'=k) then match ih r with
  |some l=>some (n::l)
  |none=>none else none
 |_=>none
def keyAs (k:IntKind)(ih:List AV->Option (List Int))(cs:List AV):Option (List Int) :=
 match cs with
 | .d (.int k' n)::r=>bif decide (k'=k) then match ih r with
  |some l=>some (n::l)
  |none=>none else none
 |_=>none
def nilL {α:Type}(cs:List α):Option (List Int) :=
 match cs with
 |[]=>some []
 |_=>none
def keyD (ks:List IntKind):List D->Option (List Int):=ks.foldr keyDs nilL
def keyA (ks:List IntKind):List AV->Option (List Int):=ks.foldr keyAs nilL
def keyOf (sh:Ksh)(A:AV):Option (List Int) :=
 match sh with
 | .one k=>match A with
  | .d (.int k' n)=>bif decide (k'=k) then some [n] else none
  |_=>none
 | .many ks=>match A with
  | .d x=>match x with
   | .agg cs=>keyD ks cs
   |_=>none
  | .agg cs=>keyA ks cs
  |_=>none
 | .str=>match A with
  | .d x=>match x with
   | .str s=>some (bytesI s)
   |_=>none
  |_=>none
def eqSh:Ksh->Ksh->Bool
 | .one k,.one k'=>decide (k=k')
 | .many ks,.many ks'=>decide (ks=ks')
 | .str,.str=>true
 |_,_=>false
def evLookup (T:Tab) (m:Mem) (t:TypeId) (ok:Bool) (A K:AV):Option (AV × List Prop) :=
 match mapOf T t with
 |none=>none
 | some (sh,te)=>match A with
  | .mp r=>match m.get r with
   |some (.map sh' has val)=>match keyOf sh K with
    |some k=>bif eqSh sh sh' then some (bif ok then .tup [val k,.d (.bool (has k))] else val k,[has k=false->ZFit te (val k)]) else none
    |none=>none
   |some (.look sh' key v hk)=>match keyOf sh K with
    |some k=>bif eqSh sh sh'&&!ok then some (v,[k=key,hk=false->ZFit te v]) else none
    |none=>none
   |_=>none
  | .d x=>match x with
   | .mapd sh' has val=>match keyOf sh K with
    |some k=>bif eqSh sh sh' then some (bif ok then .tup [.d (val k),.d (.bool (has k))] else .d (val k),[has k=false->ZFit te (.d (val k))]) else none
    |none=>none
   |_=>none
  |_=>none
section
variable {P:Program}{T:Tab}{w:World}{F:Nat->Prop}{σ:Pls}{m:Mem}
theorem DEq0.ok {y x:D}{v:Value}(h:Rd w F y v)(e:DEq0 y x):Rd w F x v:=by
 unfold DEq0 at e
 split at e
 .split at e
  .obtain⟨rfl,rfl,hf⟩:=e
   cases h with
   |sl a g h1 h2 h3 h4 h5=>exact .sl a g h1 h2 (fun i hi=>by rw[<-hf i hi];exact h3 i hi) h4 (fun i j x hi hx=>h5 i j x hi (by rw[hf i hi];exact hx))
  .exact e.elim
 .split at e
  .obtain⟨rfl,rfl,hf⟩:=e
   cases h with
   |slc h=>cases h with
    |sl a g h1 h2 h3 h4 h5=>exact .sl a g h1 h2 (fun i hi=>by rw[<-hf i hi];exact h3 i hi) h4 (fun i j x hi hx=>h5 i j x hi (by rw[hf i hi];exact hx))
  .obtain⟨rfl,rfl,hf⟩:=e
   cases h with
   |slc h=>cases h with
    |sl a g h1 h2 h3 h4 h5=>exact .slc (.sl a g h1 h2 (fun i hi=>by rw[<-hf i hi];exact h3 i hi) h4 (fun i j x hi hx=>h5 i j x hi (by rw[hf i hi];exact hx)))
  .exact e.elim
 .split at e
  .subst e
   cases h
   exact .sl ⟨0,0,none⟩ (fun _ _=>undef) (Nat.le_refl _) (fun h=>absurd h Om) (fun i hi=>absurd hi Om) (fun i j hi=>absurd hi Om) (fun i j x hi=>absurd hi Om)
  .exact h
  .exact e.elim
 .subst e;exact h
theorem ZAll.ok:∀{zs xs:List D} {us:List Value},ZAll zs xs->us.length=zs.length->(∀(j:Nat) z u,zs[j]?=some z->us[j]?=some u->Rd w F z u) ->
  us.length=xs.length/\∀(j:Nat) x u,xs[j]?=some x->us[j]?=some u->Rd w F x u
 |[],[],us,_,hl,_=>⟨hl,fun j x u h=>by simp at h⟩
 |z::r,x::s,u0::us,h,hl,hr=>by
  obtain⟨h1,h2⟩:=ZAll.ok (us:=us) h.2 (by simpa using hl) (fun j z u hz hu=>hr (j+1) z u (by simpa using hz) (by simpa using hu))
  refine⟨by simp[h1],fun j y u hy hu=>?_⟩
  cases j with
  |zero=>simp at hy hu;subst hy;subst hu;exact DEq0.ok (hr 0 z u0 rfl rfl) h.1
  |succ j=>exact h2 j y u (by simpa using hy) (by simpa using hu)
 |z::r,x::s,[],h,hl,_=>by simp at hl
 |[],_::_,_,h,_,_=>h.elim
 |_::_,[],_,h,_,_=>h.elim
theorem DEq.ok {y x:D}{v:Value}(h:Rd w F y v)(e:DEq y x):Rd w F x v:=by
 unfold DEq at e
 split at e
 .split at e
  .rcases e with rfl|e
   .exact h
   .cases h with
    |agg hl h =>
     obtain⟨g1,g2⟩:=ZAll.ok (w:=w) (F:=F) e hl h
     exact .agg g1 g2
  .exact e.elim
 .exact DEq0.ok h e
theorem ZAllV.ok:∀{zs:List D} {xs:List AV} {us:List Value},ZAllV zs xs->us.length=zs.length->(∀(j:Nat) z u,zs[j]?=some z->us[j]?=some u->Rd w F z u) ->
  us.length=xs.length/\∀(j:Nat) x u,xs[j]?=some x->us[j]?=some u->Vc w F σ x u
 |[],[],us,_,hl,_=>⟨hl,fun j x u h=>by simp at h⟩
 | z :: r,x :: s,u0 :: us,h,hl,hr=>by
  obtain⟨h0,h⟩:=h
  obtain⟨h1,h2⟩:=ZAllV.ok (us:=us) h (by simpa using hl) (fun j z u hz hu=>hr (j+1) z u (by simpa using hz) (by simpa using hu))
  refine⟨by simp[h1],fun j y u hy hu=>?_⟩
  cases j with
  |zero =>
   simp at hy hu;subst hy;subst hu
   split at h0
   .exact .d (DEq0.ok (hr 0 z u0 rfl rfl) h0)
   .exact h0.elim
  |succ j=>exact h2 j y u (by simpa using hy) (by simpa using hu)
 |z::r,x::s,[],h,hl,_=>by simp at hl
 |[],_::_,_,h,_,_=>h.elim
 |_::_,[],_,h,_,_=>h.elim
theorem ZFit.ok {t:TypeId}{ti:TI}(ht:tiIs P t ti=true){A:AV}(h:ZFit ti A)(w':World):∃z,(zeroValue t).run P w'=.ok z w'/\Vc w F σ A z:=by
 obtain⟨z,hz,h1,h2⟩:=run_zeroValue ht w'
 have ha:=tiIs_zagg ht w' hz
 obtain⟨k1,k2⟩:=sameZs_sound (w:=w) (F:=F) h1
 refine⟨z,hz,?_⟩
 unfold ZFit at h
 split at h
 .rename_i x
  split at h
  .rename_i hagg
   rw[hagg]at ha
   cases z<;>simp[isAggV]at ha
   rename_i cs
   split at h
   .have hl:cs.toList.length=ti.zero.length:=k1
    obtain⟨g1,g2⟩:=ZAll.ok (w:=w) (F:=F) h hl (fun j z u hz hu=>(k2 j z u hz hu).1)
    have:=Rd.agg g1 g2
    rw[Array.toArray_toList]at this
    exact .d this
   .exact h.elim
  .rename_i hagg
   rw[hagg]at ha
   have hc:z.cells=#[z]:=by cases z<;>first|rfl|(simp[isAggV]at ha)
   split at h
   .rename_i z0 e0
    rw[hc,e0]at k2
    exact .d (DEq0.ok (k2 0 z0 z rfl rfl).1 h)
   .exact h.elim
 .rename_i cs0
  obtain⟨hagg,h⟩:=h
  rw[hagg]at ha
  cases z<;>simp[isAggV]at ha
  rename_i cs
  have hl:cs.toList.length=ti.zero.length:=k1
  obtain⟨g1,g2⟩:=ZAllV.ok (w:=w) (F:=F) (σ:=σ) h hl (fun j z u hz hu=>(k2 j z u hz hu).1)
  have:=Vc.agg g1 g2
  rw[Array.toArray_toList]at this
  exact this
 .exact h.elim
def ShIs (P:Program)(kt:TypeId):Ksh->Prop
 | .one k=>P.underlying kt=some (.int k)
 | .many ks=>KeyT P kt ks
 | .str=>P.underlying kt=some .string
theorem mapOf_ok (hT:TabOk P T){t:TypeId}{sh:Ksh}{te:TI}(h:mapOf T t=some (sh,te)) :
  ∃kt et,P.underlying t=some (.map kt et)/\ShIs P kt sh/\tiIs P et te=true:=by
 unfold mapOf at h
 split at h<;>try (cases h;done)
 rename_i ti hti
 split at h<;>try (cases h;done)
 rename_i kt et hk
 have h1:=tiIs_kind (hT _ _ hti)
 rw[hk]at h1
 split at h<;>try (cases h;done)
 rename_i tk htk
 split at h<;>try (cases h;done)
 .rename_i k hkk
  split at h<;>try (cases h;done)
  rename_i te' hte
  simp only[Option.some.injEq,Prod.mk.injEq]at h
  obtain⟨rfl,rfl⟩:=h
  have h2:=tiIs_kind (hT _ _ htk)
  rw[hkk]at h2
  exact⟨kt,et,kindIs_map h1,kindIs_int h2,hT _ _ hte⟩
 .rename_i hkk
  split at h<;>try (cases h;done)
  rename_i te' hte
  simp only[Option.some.injEq,Prod.mk.injEq]at h
  obtain⟨rfl,rfl⟩:=h
  have h2:=tiIs_kind (hT _ _ htk)
  rw[hkk]at h2
  exact⟨kt,et,kindIs_map h1,kindIs_str h2,hT _ _ hte⟩
 .split at h<;>try (cases h;done)
  rename_i k r hks
  split at h<;>try (cases h;done)
  rename_i te' hte
  simp only[Option.some.injEq,Prod.mk.injEq]at h
  obtain⟨rfl,rfl⟩:=h
  have h2:=tiIs_ks (hT _ _ htk) hks
  rw[hks]at h2
  exact⟨kt,et,kindIs_map h1,h2,hT _ _ hte⟩
theorem keyD_ok:∀{ks:List IntKind} {cs:List D} {k:List Int} {us:List Value},keyD ks cs=some k->us.length=cs.length->(∀(j:Nat) x u,cs[j]?=some x->us[j]?=some u->Rd w F x u)->k.length=ks.length/\us=List.zipWith Value.int ks k
 | [],cs,k,us,h,hl,hv=>by
  cases cs with
  |nil =>
   simp[keyD,nilL]at h
   subst h
   cases us with
   |nil=>exact⟨rfl,rfl⟩
   |cons=>simp at hl
  |cons=>simp[keyD,nilL]at h
 | i :: r,cs,k,us,h,hl,hv=>by
  have h':keyDs i (keyD r) cs=some k:=h
  unfold keyDs at h'
  split at h'<;>try (cases h';done)
  rename_i k' n r'
  cases hd:decide (k'=i) with
  |false=>rw[hd]at h';cases h'
  | true =>
   rw[hd,cond_true]at h'
   have:=of_decide_eq_true hd
   subst this
   split at h'<;>try (cases h';done)
   rename_i l hl'
   injection h' with h'
   subst h'
   cases us with
   |nil=>simp at hl
   |cons u us =>
    obtain⟨g1,g2⟩:=keyD_ok (us:=us) hl' (by simpa using hl) (fun j x u hx hu=>hv (j+1) x u (by simpa using hx) (by simpa using hu))
    have hu:=hv 0 _ _ rfl rfl
    cases hu
    exact⟨by simp[g1],by simp[<-g2]⟩
theorem keyA_ok:∀{ks:List IntKind} {cs:List AV} {k:List Int} {us:List Value},keyA ks cs=some k->us.length=cs.length->(∀(j:Nat) x u,cs[j]?=some x->us[j]?=some u->Vc w F σ x u)->k.length=ks.length/\us=List.zipWith Value.int ks k
 | [],cs,k,us,h,hl,hv=>by
  cases cs with
  |nil =>
   simp[keyA,nilL]at h
   subst h
   cases us with
   |nil=>exact⟨rfl,rfl⟩
   |cons=>simp at hl
  |cons=>simp[keyA,nilL]at h
 | i :: r,cs,k,us,h,hl,hv=>by
  have h':keyAs i (keyA r) cs=some k:=h
  unfold keyAs at h'
  split at h'<;>try (cases h';done)
  rename_i k' n r'
  cases hd:decide (k'=i) with
  |false=>rw[hd]at h';cases h'
  | true =>
   rw[hd,cond_true]at h'
   have:=of_decide_eq_true hd
   subst this
   split at h'<;>try (cases h';done)
   rename_i l hl'
   injection h' with h'
   subst h'
   cases us with
   |nil=>simp at hl
   |cons u us =>
    obtain⟨g1,g2⟩:=keyA_ok (us:=us) hl' (by simpa using hl) (fun j x u hx hu=>hv (j+1) x u (by simpa using hx) (by simpa using hu))
    have hu:=(hv 0 _ _ rfl rfl).int
    subst hu
    exact⟨by simp[g1],by simp[<-g2]⟩
theorem keyOf_ok {sh:Ksh}{A:AV}{v:Value}{k:List Int}(h:keyOf sh A=some k)(hv:Vc w F σ A v):sh.fits k/\v=sh.key k:=by
 unfold keyOf at h
 split at h
 .split at h<;>try (cases h;done)
  rename_i k0 _ k' n
  cases hk:decide (k'=k0) with
  |false=>rw[hk]at h;cases h
  |true =>
   rw[hk]at h
   simp only[cond_true,Option.some.injEq]at h
   subst h
   have:=of_decide_eq_true hk
   subst this
   exact⟨rfl,hv.int⟩
 .split at h<;>try (cases h;done)
  .split at h<;>try (cases h;done)
   cases hv with
   | d hv=>cases hv with
    |agg hl hv =>
     obtain⟨g1,g2⟩:=keyD_ok h hl hv
     exact⟨g1,by rw[g2];rfl⟩
  .cases hv with
   |agg hl hv =>
    obtain⟨g1,g2⟩:=keyA_ok h hl hv
    exact⟨g1,by rw[g2];rfl⟩
 .split at h<;>try (cases h;done)
  split at h<;>try (cases h;done)
  cases h
  cases hv with
  |d hv=>cases hv with
   |str=>exact⟨bytesI_fits _,by show _=Value.string (strI (bytesI _));rw[strI_bytesI]⟩
theorem eqSh_eq {a b:Ksh}(h:eqSh a b=true):a=b:=by
 cases a<;>cases b<;>simp[eqSh]at h<;>first|rw[h]|rfl
def KeysAre (sh:Ksh)(ks:List (List Int))(es:Array MapEntry):Prop :=
 ks.length=es.size/\∀(i:Nat) k e,ks[i]?=some k->es[i]?=some e->sh.fits k/\e.key=sh.key k
theorem key_inj {sh:Ksh}{k k':List Int}{kt:TypeId}(hs:ShIs P kt sh)(h:sh.fits k)(h':sh.fits k')(e:sh.key k=sh.key k'):k=k':=by
 cases sh with
 |one i =>
  simp only[Ksh.fits]at h h'
  match k,k',h,h' with
  |[a],[b],_,_=>simpa[Ksh.key] using e
 |str =>
  simp only[Ksh.key,Value.string.injEq]at e
  rw[<-bytesI_strI h,<-bytesI_strI h',e]
 | many ks =>
  simp only[Ksh.fits]at h h'
  simp only[Ksh.key,Value.agg.injEq]at e
  replace e:List.zipWith Value.int ks k=List.zipWith Value.int ks k':=by simpa using e
  clear hs
  induction ks generalizing k k' with
  |nil=>rw[List.length_eq_zero_iff.1 h,List.length_eq_zero_iff.1 h']
  | cons i r ih =>
   match k,k',h,h' with
   |a::k,b::k',h,h' =>
    simp only[List.zipWith_cons_cons,List.cons.injEq,Value.int.injEq,true_and]at e
    rw[e.1,ih (by simpa using h) (by simpa using h') e.2]
theorem run_check {kt:TypeId}{sh:Ksh}(hs:ShIs P kt sh){k:List Int}(hf:sh.fits k)(b:Bool)(w':World):(Instr.checkKey b 10000 kt (sh.key k)).run P w'=.ok () w':=by
 cases sh with
 |one i=>exact MapKept.run_checkKey (d:=.int i) hs (show MapKept.IsKey (.int i) ((Ksh.one i).key k) from rfl) b 9999
 |many ks=>exact many_check hs hf b w'
 |str=>exact MapKept.run_checkKey (d:=.string) hs (show MapKept.IsKey .string (Ksh.str.key k) from trivial) b 9999
theorem run_stays {kt:TypeId}{sh:Ksh}(hs:ShIs P kt sh){k:List Int}(w':World):(Instr.keyThatStays (sh.key k) (sh.key k)).run P w'=.ok (sh.key k) w':=by
 cases sh with
 |one i=>exact MapKept.run_keyThatStays (d:=.int i) (show MapKept.IsKey (.int i) ((Ksh.one i).key k) from rfl)
 |many ks=>exact many_stays ks k w'
 |str=>exact MapKept.run_keyThatStays (d:=.string) (show MapKept.IsKey .string (Ksh.str.key k) from trivial)
theorem run_find {kt:TypeId}{sh:Ksh}(hs:ShIs P kt sh){ks:List (List Int)}{es:Array MapEntry}(hks:KeysAre sh ks es){k:List Int}(hk:sh.fits k) :
  (k ∉ ks/\∀w',(Instr.findKey kt (sh.key k) es.toList).run P w'=.ok none w') \/
  ∃i e,es[i]?=some e/\ks[i]?=some k/\∀w',(Instr.findKey kt (sh.key k) es.toList).run P w'=.ok (some (i,e.val)) w':=by
 cases sh with
 |many ksh =>
  rcases many_find hs hk es.toList ks (by rw[hks.1];simp) (fun j k e hj he=>hks.2 j k e hj (by rwa [Array.getElem?_toList]at he)) with h|⟨j,e,h1,h2,h3⟩
  .exact .inl h
  .exact .inr ⟨j,e,by rwa [Array.getElem?_toList]at h1,h2,h3⟩
 | one i0 =>
  have hall:∀x∈es.toList,MapKept.IsKey (.int i0) x.key:=fun x hx=>by
   obtain⟨i,hi,rfl⟩:=List.getElem_of_mem hx
   have hi':i<ks.length:=by rw[hks.1];simpa using hi
   rw[(hks.2 i ks[i] es.toList[i] (List.getElem?_eq_getElem hi') (by rw[<-Array.getElem?_toList];exact List.getElem?_eq_getElem hi)).2]
   rfl
  rcases MapKept.findNow_spec (d:=.int i0) (k:=(Ksh.one i0).key k) rfl es.toList 0 hall with ⟨h1,h2⟩|⟨j,e,h1,h2,h3⟩
  .refine .inl ⟨fun hm=>?_,fun w'=>MapKept.run_findKey hs h1⟩
   obtain⟨i,hi,rfl⟩:=List.getElem_of_mem hm
   have hi':i<es.size:=by rw[<-hks.1];exact hi
   exact h2 es[i] (by simp) (hks.2 i ks[i] es[i] (List.getElem?_eq_getElem hi) (Array.getElem?_eq_getElem hi')).2
  .rw[Nat.zero_add]at h1
   rw[Array.getElem?_toList]at h2
   have hj:j<es.size:=(Array.getElem?_eq_some_iff.1 h2).1
   have hj':j<ks.length:=by rw[hks.1];exact hj
   obtain⟨g1,g2⟩:=hks.2 j ks[j] e (List.getElem?_eq_getElem hj') h2
   exact .inr ⟨j,e,h2,by rw[List.getElem?_eq_getElem hj',key_inj (P:=P) (kt:=kt) hs g1 hk (g2.symm.trans h3)],fun w'=>MapKept.run_findKey hs h1⟩
 | str =>
  have hall:∀x∈es.toList,MapKept.IsKey .string x.key:=fun x hx=>by
   obtain⟨i,hi,rfl⟩:=List.getElem_of_mem hx
   have hi':i<ks.length:=by rw[hks.1];simpa using hi
   rw[(hks.2 i ks[i] es.toList[i] (List.getElem?_eq_getElem hi') (by rw[<-Array.getElem?_toList];exact List.getElem?_eq_getElem hi)).2]
   exact trivial
  rcases MapKept.findNow_spec (d:=.string) (k:=Ksh.str.key k) trivial es.toList 0 hall with ⟨h1,h2⟩|⟨j,e,h1,h2,h3⟩
  .refine .inl ⟨fun hm=>?_,fun w'=>MapKept.run_findKey hs h1⟩
   obtain⟨i,hi,rfl⟩:=List.getElem_of_mem hm
   have hi':i<es.size:=by rw[<-hks.1];exact hi
   exact h2 es[i] (by simp) (hks.2 i ks[i] es[i] (List.getElem?_eq_getElem hi) (Array.getElem?_eq_getElem hi')).2
  .rw[Nat.zero_add]at h1
   rw[Array.getElem?_toList]at h2
   have hj:j<es.size:=(Array.getElem?_eq_some_iff.1 h2).1
   have hj':j<ks.length:=by rw[hks.1];exact hj
   obtain⟨g1,g2⟩:=hks.2 j ks[j] e (List.getElem?_eq_getElem hj') h2
   exact .inr ⟨j,e,h2,by rw[List.getElem?_eq_getElem hj',key_inj (P:=P) (kt:=kt) hs g1 hk (g2.symm.trans h3)],fun w'=>MapKept.run_findKey hs h1⟩
theorem map_row (hm:MemOk m σ F w){r:Ref}{v:Value}(h:Vc w F σ (.mp r) v){sh:Ksh}{has:List Int->Bool}{val:List Int->AV}(hB:m.at r=some (some (.map sh has val))) :
  ∃pl b,σ r=some (some pl)/\pl.g=0/\pl.loc=some (b,1)/\v=.map (some b)/\BlkOk w F σ (.map sh has val) pl:=by
 cases h with
 | @mp _ _ q hr h =>
  cases q with
  |none=>have:=(hm.lv r _ hr).1 rfl;rw[hB]at this;cases this
  |some pl =>
   obtain⟨B',hB',hok⟩:=(hm.lv r _ hr).2 pl rfl
   rw[hB]at hB'
   injection hB' with hB'
   injection hB' with hB'
   subst hB'
   have hok':=hok
   obtain⟨h1,b,h2,_⟩:=hok
   obtain⟨b',t,h3,h4⟩:=h pl rfl h1
   rw[h2]at h3
   obtain⟨rfl,rfl⟩:=Prod.mk.inj (Option.some.inj h3)
   exact⟨pl,b,hr,h1,h2,h4,hok'⟩
theorem look_row (hm:MemOk m σ F w){r:Ref}{v:Value}(h:Vc w F σ (.mp r) v){sh:Ksh}{key:List Int}{vl:AV}{hk:Bool}(hB:m.at r=some (some (.look sh key vl hk))) :
  ∃pl b,σ r=some (some pl)/\pl.loc=some (b,1)/\v=.map (some b)/\∃(es:Array MapEntry) (clock:Nat) (ks:List (List Int)),w.heap[b]?=some (.map es clock)/\ks.length=es.size /\
   (∀(i:Nat) k e,ks[i]?=some k->es[i]?=some e->sh.fits k/\e.key=sh.key k)/\(hk=true->key∈ks)/\∀(i:Nat) e,ks[i]?=some key->es[i]?=some e->Vc w F σ vl e.val:=by
 cases h with
 | @mp _ _ q hr h =>
  cases q with
  |none=>have:=(hm.lv r _ hr).1 rfl;rw[hB]at this;cases this
  |some pl =>
   obtain⟨B',hB',hok⟩:=(hm.lv r _ hr).2 pl rfl
   rw[hB]at hB'
   injection hB' with hB'
   injection hB' with hB'
   subst hB'
   obtain⟨g0,b,hl,hh⟩:=hok
   obtain⟨b',t',hl',hv⟩:=h pl rfl g0
   rw[hl]at hl'
   obtain⟨rfl,_⟩:=Prod.mk.inj (Option.some.inj hl')
   exact⟨pl,b,hr,hl,hv,hh⟩
theorem evLookup_ok (hT:TabOk P T)(hm:MemOk m σ F w){x y:AV}{X Y:Value}{t:TypeId}{ok:Bool}{A:AV}{obs:List Prop}(hx:Vc w F σ x X)(hy:Vc w F σ y Y)
  (h:evLookup T m t ok x y=some (A,obs)) (hob:∀p∈obs,p):ReadsAs P F σ w (Instr.lookup t X Y ok) A:=by
 unfold evLookup at h
 split at h<;>try (cases h;done)
 rename_i sh te hmt
 obtain⟨kt,et,hu,hs,hte⟩:=mapOf_ok hT hmt
 split at h<;>try (cases h;done)
 rotate_left
 .split at h<;>try (cases h;done)
  rename_i sh' has val
  split at h<;>try (cases h;done)
  rename_i k hkey
  cases hsh:eqSh sh sh' with
  |false=>rw[hsh]at h;cases h
  | true =>
   rw[hsh]at h
   simp only[cond_true,Option.some.injEq,Prod.mk.injEq]at h
   obtain⟨rfl,rfl⟩:=h
   have:=eqSh_eq hsh
   subst this
   have hz:has k=false->ZFit te (.d (val k)):=hob _ (by simp)
   obtain⟨hfit,rfl⟩:=keyOf_ok hkey hy
   obtain⟨b,rfl,es,clock,ks,hF,g1,g2,g3,g4,g5,g6⟩:∃b,X=.map (some b)/\∃es clock,∃ks:List (List Int),F b/\w.heap[b]?=some (.map es clock)/\ks.length=es.size/\ks.Nodup /\
     (∀(i:Nat) k e,ks[i]?=some k->es[i]?=some e->sh.fits k/\e.key=sh.key k/\has k=true)/\(∀k,sh.fits k->has k=true->k∈ks)/\(∀(i:Nat) k e,ks[i]?=some k->es[i]?=some e->Rd w F (val k) e.val):=by
    cases hx with
    |d hx=>cases hx with
     |mapd b es clock ks g1 g2 g3 g4 g5 g6 _ g7=>exact⟨b,rfl,es,clock,ks,g1,g2,g3,g4,g5,g6,g7⟩
   have hks:KeysAre sh ks es:=⟨g2,fun i k e hi he=>⟨(g4 i k e hi he).1,(g4 i k e hi he).2.1⟩⟩
   have key:∃v,Vc w F σ (.d (val k)) v/\∀w',Agree F σ w w'->(Instr.lookup t (.map (some b)) (sh.key k) ok).run P w'=.ok (if ok then .tuple #[v,.bool (has k)] else v) w':=by
    have hobj:∀w',Agree F σ w w'->w'.heap[b]?=some (.map es clock):=fun w' ha=>by rw[ha b (.inl hF)];exact g1
    rcases run_find hs hks hfit with ⟨e1,e2⟩|⟨i,e,e1,e2,e3⟩
    .have hh:has k=false:=by
      cases hh:has k with
      |false=>rfl
      |true=>exact absurd (g5 k hfit hh) e1
     obtain⟨z,hz1,hz2⟩:=ZFit.ok (w:=w) (F:=F) (σ:=σ) hte (hz hh) w
     refine⟨z,hz2,fun w' ha=>?_⟩
     have hz':=run_zeroValue_any hte hz1 w'
     cases ok<;>simp[Instr.lookup,run_underlying hu,MapKept.run_getObj_map (hobj w' ha),run_check hs hfit,e2,hz',hh]
    .obtain⟨_,_,hh⟩:=g4 i k e e2 e1
     refine⟨e.val,.d (g6 i k e e2 e1),fun w' ha=>?_⟩
     cases ok<;>simp[Instr.lookup,run_underlying hu,MapKept.run_getObj_map (hobj w' ha),run_check hs hfit,e3,hh]
   obtain⟨v,hv,hrun⟩:=key
   cases ok with
   |false=>exact⟨v,hv,fun w' ha=>by rw[hrun w' ha];rfl⟩
   |true =>
    refine⟨.tuple #[v,.bool (has k)],?_,fun w' ha=>by rw[hrun w' ha];rfl⟩
    refine .tup (us:=[v,.bool (has k)]) rfl fun j x u hx hu=>?_
    match j with
    |0=>simp at hx hu;subst hx;subst hu;exact hv
    |1=>simp at hx hu;subst hx;subst hu;exact .d .bool
    |j+2=>simp at hx
 rename_i r
 split at h<;>try (cases h;done)
 rotate_left
 .rename_i sh' key vl hk hB
  split at h<;>try (cases h;done)
  rename_i k hkey
  cases hsh:(eqSh sh sh'&&!ok) with
  |false=>rw[hsh]at h;cases h
  | true =>
   rw[hsh]at h
   simp only[cond_true,Option.some.injEq,Prod.mk.injEq]at h
   obtain⟨rfl,rfl⟩:=h
   simp only[Bool.and_eq_true,Bool.not_eq_true']at hsh
   have:=eqSh_eq hsh.1
   subst this
   have hkk:k=key:=hob _ (by simp)
   subst hkk
   have hz:hk=false->ZFit te vl:=hob _ (by simp)
   rw[hsh.2]
   obtain⟨hfit,rfl⟩:=keyOf_ok hkey hy
   obtain⟨pl,b,hr,hl,rfl,es,clock,ks,g1,g2,g3,g4,g5⟩:=look_row hm hx (Mem.get_at hB)
   have hks:KeysAre sh ks es:=⟨g2,fun i k e hi he=>g3 i k e hi he⟩
   have hobj:∀w',Agree F σ w w'->w'.heap[b]?=some (.map es clock):=fun w' ha=>by rw[ha b (.inr ⟨r,pl,1,hr,hl⟩)];exact g1
   rcases run_find hs hks hfit with ⟨e1,e2⟩|⟨i,e,e1,e2,e3⟩
   .have hh:hk=false:=by
     cases hh:hk with
     |false=>rfl
     |true=>exact absurd (g4 hh) e1
    obtain⟨z,hz1,hz2⟩:=ZFit.ok (w:=w) (F:=F) (σ:=σ) hte (hz hh) w
    refine⟨z,hz2,fun w' ha=>?_⟩
    have hz':=run_zeroValue_any hte hz1 w'
    simp[Instr.lookup,run_underlying hu,MapKept.run_getObj_map (hobj w' ha),run_check hs hfit,e2,hz']
   .refine⟨e.val,g5 i e e2 e1,fun w' ha=>?_⟩
    simp[Instr.lookup,run_underlying hu,MapKept.run_getObj_map (hobj w' ha),run_check hs hfit,e3]
 rename_i sh' has val hB
 split at h<;>try (cases h;done)
 rename_i k hkey
 cases hsh:eqSh sh sh' with
 |false=>rw[hsh]at h;cases h
 | true =>
  rw[hsh]at h
  simp only[cond_true,Option.some.injEq,Prod.mk.injEq]at h
  obtain⟨rfl,rfl⟩:=h
  have:=eqSh_eq hsh
  subst this
  have hz:has k=false->ZFit te (val k):=hob _ (by simp)
  obtain⟨hfit,rfl⟩:=keyOf_ok hkey hy
  obtain⟨pl,b,hr,_,hl,rfl,h1,b',hl',es,clock,ks,g1,g2,g3,g4,g5,gst⟩:=map_row hm hx (Mem.get_at hB)
  rw[hl]at hl'
  obtain⟨rfl,_⟩:=Prod.mk.inj (Option.some.inj hl')
  have hks:KeysAre sh ks es:=⟨g2,fun i k e hi he=>⟨(g4 i k e hi he).1,(g4 i k e hi he).2.1⟩⟩
  have key:∃v,Vc w F σ (val k) v/\∀w',Agree F σ w w'->(Instr.lookup t (.map (some b)) (sh.key k) ok).run P w'=.ok (if ok then .tuple #[v,.bool (has k)] else v) w':=by
   have hobj:∀w',Agree F σ w w'->w'.heap[b]?=some (.map es clock):=fun w' ha=>by rw[ha b (.inr ⟨r,pl,1,hr,hl⟩)];exact g1
   rcases run_find hs hks hfit with ⟨e1,e2⟩|⟨i,e,e1,e2,e3⟩
   .have hh:has k=false:=by
     cases hh:has k with
     |false=>rfl
     |true=>exact absurd (g5 k hfit hh) e1
    obtain⟨z,hz1,hz2⟩:=ZFit.ok (w:=w) (F:=F) (σ:=σ) hte (hz hh) w
    refine⟨z,hz2,fun w' ha=>?_⟩
    have hz':=run_zeroValue_any hte hz1 w'
    cases ok<;>simp[Instr.lookup,run_underlying hu,MapKept.run_getObj_map (hobj w' ha),run_check hs hfit,e2,hz',hh]
   .obtain⟨_,_,hh,hv⟩:=g4 i k e e2 e1
    refine⟨e.val,hv,fun w' ha=>?_⟩
    cases ok<;>simp[Instr.lookup,run_underlying hu,MapKept.run_getObj_map (hobj w' ha),run_check hs hfit,e3,hh]
  obtain⟨v,hv,hrun⟩:=key
  cases ok with
  |false=>exact⟨v,hv,fun w' ha=>by rw[hrun w' ha];rfl⟩
  |true =>
   refine⟨.tuple #[v,.bool (has k)],?_,fun w' ha=>by rw[hrun w' ha];rfl⟩
   refine .tup (us:=[v,.bool (has k)]) rfl fun j x u hx hu=>?_
   match j with
   |0=>simp at hx hu;subst hx;subst hu;exact hv
   |1=>simp at hx hu;subst hx;subst hu;exact .d .bool
   |j+2=>simp at hx
end
def un (x:AV × List Prop)(f:AV->Option (AV × List Prop)):Option (AV × List Prop) :=
 match x with
 |(a,p)=>match f a with
  |some (v,o)=>some (v,cat p o)
  |none=>none
def un? (x:Option (AV × List Prop))(f:Option AV->Option (AV × List Prop)):Option (AV × List Prop) :=
 match x with
 |none=>f none
 |some (a,p)=>match f (some a) with
  |some (v,o)=>some (v,cat p o)
  |none=>none
def evNot:AV->Option (AV × List Prop)
 | .d (.bool b)=>some (.d (.bool (!b)),[])
 |_=>none
def evNeg:AV->Option (AV × List Prop)
 | .d (.int k a)=>match k with
  | .u64=>none
  |k=>some (.d (.int k (0-a)),[In k (0-a)])
 |_=>none
def evExtract (k:Nat):AV->Option (AV × List Prop)
 | .tup vs=>match alook vs k with
  |some v=>some (v,[])
  |none=>none
 |_=>none
def evAll (env:Env):List Operand->List AV
 |[]=>[]
 |x::r=>ev env x::evAll env r
def evFn (f:Fn)(first cap:List AV):Option (AV × List Prop) :=
 match allD first,allD cap with
 |some xs,some ys=>some (.d (.fn f xs ys),[])
 |_,_=>some (.fn f first cap,[])
def evParts (env:Env):List (Nat × Operand)->List (Nat × AV)
 |[]=>[]
 |(i,x)::r=>(i,ev env x)::evParts env r
def evMinMax (mx:Bool):AV->AV->Option (AV × List Prop)
 | .d (.int k a),.d (.int k' b)=>bif decide (k=k') then some (.d (.int k (bif mx then max a b else min a b)),[]) else none
 |_,_=>none
def evNil (m:Mem):AV->Option (AV × List Prop)
 | .d (.pt cs off)=>some (.d (.pt cs off),[])
 | .d (.ifc t x)=>some (.d (.ifc t x),[])
 | .ptr r g i off=>match liveAt m r g i with
  |some l=>some (.ptr r g i off,l)
  |none=>none
 |_=>none
def stripParts:List (Nat × AV)->List (Nat × AV) × List Prop
 |[]=>([],[])
 | (i,A) :: r=>match strip A with
  |(B,p)=>match stripParts r with
   |(l,q)=>((i,B)::l,cat p q)
def evRead (T:Tab)(env:Env)(m:Mem)(op:Op):Option (AV × List Prop) :=
 match op with
 | .move x=>evMove (ev env x)
 | .assign x=>evMove (ev env x)
 | .pick c a b=>evPick (strip (ev env c)) (strip (ev env a)) (strip (ev env b))
 | .binOp op t x y _=>un (strip (ev env x)) fun a=>un (strip (ev env y)) fun b=>match evBin op a b with
  |some r=>some r
  |none=>match evEq T op t a b with
   |some r=>some r
   |none=>evNilEq T op t y a
 | .unOp .not _ x=>un (strip (ev env x)) evNot
 | .unOp .neg _ x=>un (strip (ev env x)) evNeg
 | .load t x=>un (strip (ev env x)) (evLoad T m t)
 | .fieldAddr t x k=>un (strip (ev env x)) (evFieldAddr T m t k)
 | .indexAddr t x i=>un (strip (ev env x)) fun a=>un (strip (ev env i)) fun b=>evIndexAddr T m t a b
 | .field t x k=>un (strip (ev env x)) (evField T t k)
 | .index t x i=>un (strip (ev env x)) fun a=>un (strip (ev env i)) fun b=>evIndex T t a b
 | .extract x k=>un (strip (ev env x)) (evExtract k)
 | .makeInterface t x=>un (strip (ev env x)) (evIfc T t)
 | .convert s d x=>un (strip (ev env x)) (evConv T s d)
 | .makeFunc f first cap=>evFn f (evAll env first.toList) (evAll env cap.toList)
 | .build t parts=>match stripParts (evParts env parts.toList) with
  |(l0,p)=>match evBuild T m t l0 with
   |some (A,q)=>some (A,cat p q)
   |none=>none
 | .slice t x lo hi none=>un (strip (ev env x)) fun a=>un? (lo.map fun l=>strip (ev env l)) fun l=>un? (hi.map fun h=>strip (ev env h)) fun h=>evSlice T m t a l h
 | .nilCheck x=>un (strip (ev env x)) (evNil m)
 | .lookup t x k ok=>un (strip (ev env x)) fun a=>un (strip (ev env k)) fun b=>evLookup T m t ok a b
 | .call { callee:=.builtin .len,args,argTypes } =>
  match args.toList with
  |[x]=>match argTypes.toList with
   |[t]=>un (strip (ev env x)) (evLenOwn T m t)
   |_=>none
  |_=>none
 | .call { callee:=.builtin .cap,args,argTypes } =>
  match args.toList with
  |[x]=>match argTypes.toList with
   |[t]=>un (strip (ev env x)) (evCap T t)
   |_=>none
  |_=>none
 | .call {callee:=.builtin .max,args,argTypes:=_} =>
  match args.toList with
  |[x,y]=>un (strip (ev env x)) fun a=>un (strip (ev env y)) fun b=>evMinMax true a b
  |_=>none
 | .call {callee:=.builtin .min,args,argTypes:=_} =>
  match args.toList with
  |[x,y]=>un (strip (ev env x)) fun a=>un (strip (ev env y)) fun b=>evMinMax false a b
  |_=>none
 |_=>none
section sound
variable {P:Program}{T:Tab}{w:World}{F:Nat->Prop}{σ:Pls}{m:Mem}
theorem un_ok {x:AV × List Prop}{f:AV->Option (AV × List Prop)}{A:AV}{obs:List Prop}(h:un x f=some (A,obs))(hob:∀p∈obs,p) :
  (∀p∈x.2,p)/\∃o,f x.1=some (A,o)/\∀p∈o,p:=by
 obtain⟨a,p⟩:=x
 simp only[un]at h
 split at h<;>try (cases h;done)
 rename_i v o ho
 simp only[Option.some.injEq,Prod.mk.injEq]at h
 obtain⟨rfl,rfl⟩:=h
 exact⟨(all_cat hob).1,o,ho,(all_cat hob).2⟩
theorem un?_ok {x:Option (AV × List Prop)}{f:Option AV->Option (AV × List Prop)}{A:AV}{obs:List Prop}(h:un? x f=some (A,obs))(hob:∀p∈obs,p) :
  (∀y,x=some y->∀p∈y.2,p)/\∃o,f (x.map (·.1))=some (A,o)/\∀p∈o,p:=by
 cases x with
 |none=>exact⟨(fun y e=>by cases e),obs,h,hob⟩
 |some x =>
  obtain⟨a,p⟩:=x
  simp only[un?]at h
  split at h<;>try (cases h;done)
  rename_i v o ho
  simp only[Option.some.injEq,Prod.mk.injEq]at h
  obtain⟨rfl,rfl⟩:=h
  exact⟨fun y e=>by injection e with e;subst e;exact(all_cat hob).1,o,ho,(all_cat hob).2⟩
def ReadsOp (P:Program)(F:Nat->Prop)(σ:Pls)(w:World)(ρ:Operand->Value)(o:Oper)(A:AV):Prop :=
 ∃u,Vc w F σ A u/\∀w',Agree F σ w w'->(execOp ρ o).run P w'=.ok (.value u) w'
theorem ReadsAs.op {ρ:Operand->Value}{o:Oper}{A:AV}{s:Sem Value}(h:ReadsAs P F σ w s A)(he:execOp ρ o=(do pure (.value (<-s)))):ReadsOp P F σ w ρ o A:=by
 obtain⟨u,h1,h2⟩:=h
 exact⟨u,h1,fun w' hw'=>by rw[he];simp[h2 w' hw']⟩
theorem evAll_ok {env:Env}{a:Act}(he:EnvOk env w F σ a.tmps):∀(l:List Operand),(l.map a.eval).length=(evAll env l).length/\∀(j:Nat) A u,(evAll env l)[j]?=some A->(l.map a.eval)[j]?=some u->Vc w F σ A u
 |[]=>⟨rfl,fun j A u h=>by simp[evAll]at h⟩
 |x::r=>by
  obtain⟨h1,h2⟩:=evAll_ok he r
  refine⟨by simp[evAll,<-h1],fun j A u hA hu=>?_⟩
  cases j with
  |zero=>simp[evAll]at hA hu;subst hA;subst hu;exact ev_ok he x
  |succ j=>exact h2 j A u (by simpa[evAll] using hA) (by simpa using hu)
theorem evParts_ok {env:Env}{a:Act}(he:EnvOk env w F σ a.tmps):∀(l:List (Nat × Operand)),(l.map fun(i,x)=>(i,a.eval x)).map (·.1)=(evParts env l).map (·.1) /\
  ∀(j:Nat) A u,(evParts env l)[j]?=some A->(l.map fun(i,x)=>(i,a.eval x))[j]?=some u->Vc w F σ A.2 u.2
 |[]=>⟨rfl,fun j A u h=>by simp[evParts]at h⟩
 |(i,x)::r=>by
  obtain⟨h1,h2⟩:=evParts_ok he r
  refine⟨by simp only[List.map_cons,evParts,List.cons.injEq];first|exact⟨rfl,h1⟩|exact⟨trivial,h1⟩,fun j A u hA hu=>?_⟩
  cases j with
  |zero=>simp[evParts]at hA hu;subst hA;subst hu;exact ev_ok he x
  |succ j=>exact h2 j A u (by simpa[evParts] using hA) (by simpa using hu)
theorem stripParts_fst:∀l:List (Nat × AV),(stripParts l).1.map (·.1)=l.map (·.1)
 |[]=>rfl
 |(i,A)::r=>by simp[stripParts,stripParts_fst r]
theorem stripParts_ok:∀(l:List (Nat × AV)),(∀p∈(stripParts l).2,p)->∀(j:Nat) B,(stripParts l).1[j]?=some B->∃A,l[j]?=some A/\∀v,Vc w F σ A.2 v->Vc w F σ B.2 v
 |[],_,j,B,h=>by simp[stripParts]at h
 | (i,A) :: r,hp,j,B,h=>by
  simp only[stripParts]at hp h
  obtain⟨h1,h2⟩:=all_cat hp
  cases j with
  |zero =>
   simp only[List.getElem?_cons_zero,Option.some.injEq]at h
   subst h
   exact⟨(i,A),rfl,fun v hv=>strip_ok hv h1⟩
  |succ j=>exact stripParts_ok r h2 j B (by simpa using h)
theorem evBuild_ok (hT:TabOk P T)(hm:MemOk m σ F w){a:Act}{t:TypeId}{parts:Array (Nat × Operand)}{l0:List (Nat × AV)}(hk1:(parts.toList.map fun(i,x)=>(i,a.eval x)).map (·.1)=l0.map (·.1))(hk2:∀(j:Nat) A u,l0[j]?=some A->(parts.toList.map fun(i,x)=>(i,a.eval x))[j]?=some u->Vc w F σ A.2 u.2){A:AV}{obs:List Prop}
  (h:evBuild T m t l0=some (A,obs)) (hob:∀p∈obs,p):ReadsAs P F σ w (Instr.build t (parts.map fun(i,x)=>(i,a.eval x))) A:=by
 unfold evBuild at h
 split at h<;>try (cases h;done)
 rename_i ti hti
 split at h<;>try (cases h;done)
 rotate_left
 .rename_i n' e hk
  split at h<;>try (cases h;done)
  split at h<;>try (cases h;done)
  rename_i te hte
  simp only[Option.some.injEq,Prod.mk.injEq]at h
  obtain⟨rfl,rfl⟩:=h
  have ht:=hT t ti hti
  have hk':=tiIs_kind ht
  rw[hk]at hk'
  have hu:=kindIs_arr hk'
  obtain⟨i,z,hi,his,_,hz,hzs,_⟩:=tiIs_info ht
  obtain⟨ie,_,hie,_⟩:=tiIs_info (hT _ _ hte)
  have hp0:parts=#[]:=by
   have h1:=hk1
   have h2:parts.toList=[]:=by simpa using h1
   simpa using h2
  obtain⟨h1,h2⟩:=sameZs_sound (w:=w) (F:=F) hzs
  refine⟨.agg z.cells,.d ?_,fun w' _=>run_build w' t _ _ ?_⟩
  .have:=Rd.agg (w:=w) (F:=F) (cs:=ti.zero) (us:=z.cells.toList) h1 (fun j x u hx hu=>(h2 j x u hx hu).1)
   simpa using this
  .unfold Program.built
   simp only[hi,hu,hz,hie,hp0]
   simp[Instr.fill]
 rename_i gs hk
 split at h<;>try (cases h;done)
 rename_i cs p hfill
 simp only[Option.some.injEq,Prod.mk.injEq]at h
 obtain⟨rfl,rfl⟩:=h
 have ht:=hT t ti hti
 have hk':=tiIs_kind ht
 rw[hk]at hk'
 obtain⟨fields,hu,hsz,hf⟩:=kindIs_st hk'
 obtain⟨i,z,hi,his,_,hz,hzs,_⟩:=tiIs_info ht
 have hpl:∃places,fields.toList.mapM (fun f=>(P.info? f.type).map fun i=>(f.offset,i.size))=some places:=by
  have hall:∀f∈fields.toList,∃j,P.info? f.type=some j:=by
   intro f hfm
   obtain⟨k,hkl,hkf⟩:=List.getElem_of_mem hfm
   have hkg:k<gs.length:=by rw[<-hsz];simpa using hkl
   obtain⟨f',hf1,hf2,hf3,hf4⟩:=hf k (gs[k]).1 (gs[k]).2 (List.getElem?_eq_getElem hkg)
   have:f'=f:=by
    have e1:fields.toList[k]?=some f':=by simpa using hf1
    rw[List.getElem?_eq_getElem hkl,hkf]at e1
    injection e1 with e1
    exact e1.symm
   subst this
   cases hinf:P.info? f'.type with
   |none=>rw[<-hf3]at hf4;simp[Program.cellsOf,hinf]at hf4
   |some j=>exact⟨j,rfl⟩
  clear hfill hsz hf hu hk hk'
  generalize fields.toList=fs at hall
  induction fs with
  |nil=>exact⟨[],rfl⟩
  |cons f r ih =>
   obtain⟨j,hj⟩:=hall f (by simp)
   obtain⟨pl,hpl⟩:=ih (fun g hg=>hall g (by simp[hg]))
   exact⟨(f.offset,j.size)::pl,by simp[List.mapM_cons,hj,hpl]⟩
 obtain⟨places,hpl⟩:=hpl
 have hz0:CellsOk w F σ (up ti.zero) z.cells.toList:=.zero hzs
 obtain⟨_,vs',e1,e2⟩:=fillSt_ok hT hm hu hpl _ _ _ z.cells.toList [] cs p hk1 hk2 hz0 hfill hob
 refine⟨.agg vs'.toArray,foldD_ok e2.1 fun j A u hA hu=>(e2.2 j A u hA hu).1,fun w' _=>run_build w' t _ _ ?_⟩
 unfold Program.built
 simp only[hi,hu,hz,hpl]
 have:(parts.map fun(i,x)=>(i,a.eval x)).toList=parts.toList.map fun(i,x)=>(i,a.eval x):=by simp
 rw[this]
 simpa using e1
theorem elem_eq {t e:TypeId}(hu:P.underlying t=some (.slice e)):P.elem t=e:=by simp[Program.elem,hu]
theorem evSlice_ok (hT:TabOk P T)(hm:MemOk m σ F w){t:TypeId}{x:AV}{X:Value}{lo hi:Option AV}{LO HI:Option Value}{A:AV}{obs:List Prop}(hx:Vc w F σ x X)
  (hlo:∀y,lo=some y->∃Y,LO=some Y/\Vc w F σ y Y) (hlo':lo=none->LO=none) (hhi:∀y,hi=some y->∃Y,HI=some Y/\Vc w F σ y Y) (hhi':hi=none->HI=none)
  (h:evSlice T m t x lo hi=some (A,obs)) (hob:∀p∈obs,p):ReadsAs P F σ w (Instr.sliceAt t X LO HI none) A:=by
 unfold evSlice at h
 split at h<;>try (cases h;done)
 rename_i e sz he
 obtain⟨hu,hs,_⟩:=elemOf_ok hT he
 have hel:=elem_eq hu
 have hu':P.underlying t=some (.slice (P.elem t)):=by rw[hel];exact hu
 split at h<;>try (cases h;done)
 .rename_i sz' n f
  cases hz:Nat.beq sz' sz with
  |false=>rw[hz]at h;cases h
  | true =>
   rw[hz]at h
   simp only[cond_true]at h
   have hz':=Nat.eq_of_beq_eq_true hz
   subst hz'
   cases hx with
   | d hx=>cases hx with
    | @sl _ _ _ B cap a0 g hc hA hl hcell hrd =>
     have key:∀(l k:Nat),l<=k->k<=n->Rd w F (.sl sz' (k-l) fun i=>f (l+i)) (sliced B l k cap sz'):=by
      intro l k hlk hkn
      refine .sl (a0.add (l*sz')) (fun i j=>g (l+i) j) Om (fun h0=>?_) (fun i hi=>hl _ Om) (fun i j hi hj=>?_) (fun i j x hi hx=>hrd (l+i) j x Om hx)
      .obtain⟨rfl,hF⟩:=hA Om
       rw[if_neg Om]
       exact⟨rfl,by rw[add_block];exact hF⟩
      .rw[add_add,<-Nat.add_assoc,<-Nat.add_mul]
       exact hcell (l+i) j Om hj
     split at h
     .have:=hlo' rfl;subst this
      split at h
      .have:=hhi' rfl;subst this
       simp only[Option.some.injEq,Prod.mk.injEq]at h
       obtain⟨rfl,rfl⟩:=h
       refine .const (u:=sliced B 0 n cap sz') (.d ?_) fun w'=>by rw[run_sliceAt_slice _ _ _ _ _ _ hu',run_slice_all _ _ _ _ _ hu',hel,hs];rfl
       have:=key 0 n Om (Nat.le_refl _)
       simpa using this
      .rename_i kh hh
       obtain⟨Y,rfl,hY⟩:=hhi _ rfl
       have:=hY.int;subst this
       simp only[Option.some.injEq,Prod.mk.injEq]at h
       obtain⟨rfl,rfl⟩:=h
       have h1:0<=hh:=hob _ (by simp)
       have h2:hh<=n:=hob _ (by simp)
       refine .const (u:=sliced B 0 hh.toNat cap sz') (.d ?_) fun w'=>by rw[run_sliceAt_slice _ _ _ _ _ _ hu',run_slice_h _ _ _ _ _ hu' _ _ h1 Om,hel,hs];rfl
       have:=key 0 hh.toNat Om Om
       simpa using this
      .cases h
     .rename_i kl ll
      obtain⟨Y,rfl,hY⟩:=hlo _ rfl
      have:=hY.int;subst this
      split at h
      .have:=hhi' rfl;subst this
       simp only[Option.some.injEq,Prod.mk.injEq]at h
       obtain⟨rfl,rfl⟩:=h
       have h1:0<=ll:=hob _ (by simp)
       have h2:ll<=n:=hob _ (by simp)
       exact .const (u:=sliced B ll.toNat n cap sz') (.d (key _ _ Om (Nat.le_refl _))) fun w'=>by rw[run_sliceAt_slice _ _ _ _ _ _ hu',run_slice_l _ _ _ _ _ hu' _ _ h1 h2,hel,hs];rfl
      .rename_i kh hh
       obtain⟨Y',rfl,hY'⟩:=hhi _ rfl
       have:=hY'.int;subst this
       simp only[Option.some.injEq,Prod.mk.injEq]at h
       obtain⟨rfl,rfl⟩:=h
       have h1:0<=ll:=hob _ (by simp)
       have h2:ll<=hh:=hob _ (by simp)
       have h3:hh<=n:=hob _ (by simp)
       exact .const (u:=sliced B ll.toNat hh.toNat cap sz') (.d (key _ _ Om Om)) fun w'=>by rw[run_sliceAt_slice _ _ _ _ _ _ hu',run_slice_lh _ _ _ _ _ hu' _ _ _ _ h1 h2 Om,hel,hs];rfl
      .cases h
     .cases h
 .cases hx with|d hx=>cases hx with
  |nils =>
  have key:sliced none 0 0 0 sz=.slice none 0 0:=by simp[sliced]
  have hR:Vc w F σ (.d .nils) (sliced none 0 0 0 sz):=by rw[key];exact .d .nils
  split at h
  .have:=hlo' rfl;subst this
   split at h
   .have:=hhi' rfl;subst this
    simp only[Option.some.injEq,Prod.mk.injEq]at h
    obtain⟨rfl,rfl⟩:=h
    exact .const (u:=sliced none 0 0 0 sz) hR fun w'=>by rw[run_sliceAt_slice _ _ _ _ _ _ hu',run_slice_all _ _ _ _ _ hu',hel,hs];rfl
   .rename_i kh hh
    obtain⟨Y,rfl,hY⟩:=hhi _ rfl
    have:=hY.int;subst this
    simp only[Option.some.injEq,Prod.mk.injEq]at h
    obtain⟨rfl,rfl⟩:=h
    have h1:hh=0:=hob _ (by simp)
    subst h1
    exact .const (u:=sliced none 0 0 0 sz) hR fun w'=>by rw[run_sliceAt_slice _ _ _ _ _ _ hu',run_slice_h _ _ _ _ _ hu' _ _ Om Om,hel,hs];rfl
   .cases h
  .rename_i kl ll
   obtain⟨Y,rfl,hY⟩:=hlo _ rfl
   have:=hY.int;subst this
   split at h
   .have:=hhi' rfl;subst this
    simp only[Option.some.injEq,Prod.mk.injEq]at h
    obtain⟨rfl,rfl⟩:=h
    have h1:ll=0:=hob _ (by simp)
    subst h1
    exact .const (u:=sliced none 0 0 0 sz) hR fun w'=>by rw[run_sliceAt_slice _ _ _ _ _ _ hu',run_slice_l _ _ _ _ _ hu' _ _ Om Om,hel,hs];rfl
   .rename_i kh hh
    obtain⟨Y',rfl,hY'⟩:=hhi _ rfl
    have:=hY'.int;subst this
    simp only[Option.some.injEq,Prod.mk.injEq]at h
    obtain⟨rfl,rfl⟩:=h
    have h1:ll=0:=hob _ (by simp)
    have h2:hh=0:=hob _ (by simp)
    subst h1;subst h2
    exact .const (u:=sliced none 0 0 0 sz) hR fun w'=>by rw[run_sliceAt_slice _ _ _ _ _ _ hu',run_slice_lh _ _ _ _ _ hu' _ _ _ _ Om Om Om,hel,hs];rfl
   .cases h
  .cases h
 .rename_i r g off n
  split at h<;>try (cases h;done)
  rename_i e' sz' g' n' f' hB
  cases hz:Nat.beq sz' sz with
  |false=>rw[hz]at h;cases h
  | true =>
   rw[hz]at h
   simp only[cond_true]at h
   have hz':=Nat.eq_of_beq_eq_true hz
   subst hz'
   obtain⟨pl,hr,hok,_,hat⟩:=osl_row hm hx (Mem.get_at hB)
   have hpsz:pl.sz=sz':=hok.2.1
   have key:g'=g->∃B cap,X=.slice B n cap/\n<=cap/\∀(l k:Nat),l<=k->k<=n->Vc w F σ (.osl r g (off+l) (k-l)) (sliced B l k cap sz'):=by
    intro hg
    subst hg
    have hsl:=hat hok.1
    unfold SlAt at hsl
    split at hsl
    .rename_i hl
     obtain⟨rfl,rfl,rfl⟩:=hsl
     refine⟨none,0,rfl,Nat.le_refl _,fun l k h1 h2=>?_⟩
     have:l=0:=by omega
     subst this
     have:k=0:=by omega
     subst this
     refine .osl hr fun pl' e=>?_
     injection e with e
     subst e
     refine⟨by rw[hok.1];exact Nat.le_refl _,fun _=>?_⟩
     unfold SlAt
     rw[hl]
     exact⟨rfl,rfl,by simp[sliced]⟩
    .rename_i b tot hl
     obtain⟨B,cap,rfl,hnc,hoc,hA⟩:=hsl
     refine⟨B,cap,rfl,hnc,fun l k h1 h2=>?_⟩
     refine .osl hr fun pl' e=>?_
     injection e with e
     subst e
     refine⟨by rw[hok.1];exact Nat.le_refl _,fun _=>?_⟩
     unfold SlAt
     rw[hl]
     refine⟨_,cap-l,rfl,Om,Om,fun h3=>?_⟩
     by_cases hcl:cap=l
     .rw[if_pos hcl]
      have h0:off+l=0:=by omega
      have hoff:off=0:=by omega
      have hll:l=0:=by omega
      subst hoff;subst hll
      exact hA (.inr rfl)
     .rw[if_neg hcl,hA (.inl Om),Option.map_some,add_at,hpsz,<-Nat.add_mul]
   have hg:g'=g:=by
    split at h<;>(try (cases h;done))<;>split at h<;>(try (cases h;done))<;>(simp only[Option.some.injEq,Prod.mk.injEq]at h;obtain⟨rfl,rfl⟩:=h;exact hob _ (by simp))
   obtain⟨B,cap,rfl,hnc,key⟩:=key hg
   split at h
   .have:=hlo' rfl;subst this
    split at h
    .have:=hhi' rfl;subst this
     simp only[Option.some.injEq,Prod.mk.injEq]at h
     obtain⟨rfl,rfl⟩:=h
     refine .const (u:=sliced B 0 n cap sz') ?_ fun w'=>by rw[run_sliceAt_slice _ _ _ _ _ _ hu',run_slice_all _ _ _ _ _ hu',hel,hs];rfl
     simpa using key 0 n Om (Nat.le_refl _)
    .rename_i kh hh
     obtain⟨Y,rfl,hY⟩:=hhi _ rfl
     have:=hY.int;subst this
     simp only[Option.some.injEq,Prod.mk.injEq]at h
     obtain⟨rfl,rfl⟩:=h
     have h1:0<=hh:=hob _ (by simp)
     have h2:hh<=n:=hob _ (by simp)
     refine .const (u:=sliced B 0 hh.toNat cap sz') ?_ fun w'=>by rw[run_sliceAt_slice _ _ _ _ _ _ hu',run_slice_h _ _ _ _ _ hu' _ _ h1 Om,hel,hs];rfl
     simpa using key 0 hh.toNat Om Om
    .cases h
   .rename_i kl ll
    obtain⟨Y,rfl,hY⟩:=hlo _ rfl
    have:=hY.int;subst this
    split at h
    .have:=hhi' rfl;subst this
     simp only[Option.some.injEq,Prod.mk.injEq]at h
     obtain⟨rfl,rfl⟩:=h
     have h1:0<=ll:=hob _ (by simp)
     have h2:ll<=n:=hob _ (by simp)
     exact .const (u:=sliced B ll.toNat n cap sz') (key _ _ Om (Nat.le_refl _)) fun w'=>by rw[run_sliceAt_slice _ _ _ _ _ _ hu',run_slice_l _ _ _ _ _ hu' _ _ h1 h2,hel,hs];rfl
    .rename_i kh hh
     obtain⟨Y',rfl,hY'⟩:=hhi _ rfl
     have:=hY'.int;subst this
     simp only[Option.some.injEq,Prod.mk.injEq]at h
     obtain⟨rfl,rfl⟩:=h
     have h1:0<=ll:=hob _ (by simp)
     have h2:ll<=hh:=hob _ (by simp)
     have h3:hh<=n:=hob _ (by simp)
     exact .const (u:=sliced B ll.toNat hh.toNat cap sz') (key _ _ Om Om) fun w'=>by rw[run_sliceAt_slice _ _ _ _ _ _ hu',run_slice_lh _ _ _ _ _ hu' _ _ _ _ h1 h2 Om,hel,hs];rfl
    .cases h
   .cases h
end sound
section sound
variable {P:Program}{T:Tab}{w:World}{F:Nat->Prop}{σ:Pls}{m:Mem}
theorem evMove_ok {x:AV}{X:Value}{A:AV}{obs:List Prop}(hx:Vc w F σ x X)(h:evMove x=some (A,obs))(hob:∀p∈obs,p):Vc w F σ A X:=by
 simp only[evMove,Option.some.injEq]at h
 have:=strip_ok hx (by rw[h];exact hob)
 rw[h]at this
 exact this
theorem evNot_ok {x:AV}{X:Value}{A:AV}{obs:List Prop}(hx:Vc w F σ x X)(h:evNot x=some (A,obs)):ReadsAs P F σ w (Op.unary .not X) A:=by
 unfold evNot at h
 split at h<;>try (cases h;done)
 simp only[Option.some.injEq,Prod.mk.injEq]at h
 obtain⟨rfl,_⟩:=h
 have:=hx.bool
 subst this
 exact .const (.d .bool) fun w'=>by simp[Op.unary]
theorem evNeg_ok {x:AV}{X:Value}{A:AV}{obs:List Prop}(hx:Vc w F σ x X)(h:evNeg x=some (A,obs))(hob:∀p∈obs,p):ReadsAs P F σ w (Op.unary .neg X) A:=by
 unfold evNeg at h
 split at h<;>try (cases h;done)
 split at h<;>try (cases h;done)
 simp only[Option.some.injEq,Prod.mk.injEq]at h
 obtain⟨rfl,rfl⟩:=h
 have:=hx.int
 subst this
 rename_i k a k' hne
 have hi:In k (0-a):=hob _ (by simp)
 exact .const (.d .int) fun w'=>by
  have:=hi.wrap
  simp only[Op.unary,Op.intArith,Sem.run_pure,this]
theorem evExtract_ok {x:AV}{X:Value}{k:Nat}{A:AV}{obs:List Prop}(hx:Vc w F σ x X)(h:evExtract k x=some (A,obs)):ReadsAs P F σ w (Instr.extract X k) A:=by
 unfold evExtract at h
 split at h<;>try (cases h;done)
 split at h<;>try (cases h;done)
 rename_i v hv
 simp only[Option.some.injEq,Prod.mk.injEq]at h
 obtain⟨rfl,_⟩:=h
 rw[alook_eq]at hv
 cases hx with
 |@tup _ us hl hh =>
  have hlt:=(List.getElem?_eq_some_iff.1 hv).1
  have hu:us[k]?=some (us[k]'Om):=List.getElem?_eq_getElem Om
  exact .const (hh k v _ hv hu) fun w'=>by simp[Instr.extract,hu]
theorem concrete_of {t:TypeId}{ti:TI}(h:tiIs P t ti=true)(h1:ti.k≠.ifc)(h2:ti.k≠.other):P.concrete t=true:=by
 have hk:=tiIs_kind h
 unfold Program.concrete
 cases e:ti.k<;>rw[e]at hk<;>first|exact absurd e h1|exact absurd e h2|(simp only[kindIs]at hk;split at hk<;>simp_all)
theorem evIfc_ok (hT:TabOk P T){x:AV}{X:Value}{t:TypeId}{A:AV}{obs:List Prop}(hx:Vc w F σ x X)(h:evIfc T t x=some (A,obs)):ReadsAs P F σ w (Instr.makeInterface t X) A:=by
 unfold evIfc at h
 split at h<;>try (cases h;done)
 rename_i ti hti
 have key:ti.k≠.ifc->ti.k≠.other->∀w':World,(Instr.makeInterface t X).run P w'=.ok (.iface t X) w':=fun h1 h2 w'=>run_makeInterface w' t X (concrete_of (hT t ti hti) h1 h2)
 split at h<;>try (cases h;done)
 rename_i h1 h2
 split at h
 .simp only[Option.some.injEq,Prod.mk.injEq]at h
  obtain⟨rfl,_⟩:=h
  cases hx with|d hx=>exact .const (.d (.ifc hx)) (key h1 h2)
 .simp only[Option.some.injEq,Prod.mk.injEq]at h
  obtain⟨rfl,_⟩:=h
  exact .const (.ifc hx) (key h1 h2)
theorem evConv_ok (hT:TabOk P T){x:AV}{X:Value}{s d:TypeId}{A:AV}{obs:List Prop}(hx:Vc w F σ x X)(h:evConv T s d x=some (A,obs))(hob:∀p∈obs,p):ReadsAs P F σ w (convert s d X) A:=by
 unfold evConv at h
 split at h<;>try (cases h;done)
 rename_i k0 n
 split at h<;>try (cases h;done)
 rename_i ti hti
 split at h<;>try (cases h;done)
 rename_i ks hks
 split at h<;>try (cases h;done)
 rename_i tj htj
 split at h<;>try (cases h;done)
 rename_i kd hkd
 split at h<;>try (cases h;done)
 simp only[Option.some.injEq,Prod.mk.injEq]at h
 obtain⟨rfl,rfl⟩:=h
 have:=hx.int
 subst this
 have hi:In kd n:=hob _ (by simp)
 have h1:=tiIs_kind (hT _ _ hti)
 rw[hks]at h1
 have h2:=tiIs_kind (hT _ _ htj)
 rw[hkd]at h2
 exact .const (.d .int) fun w'=>by simp[convert,run_underlying (kindIs_int h1),run_underlying (kindIs_int h2),Conv.intToInt,hi.wrap]
theorem evMinMax_ok {x y:AV}{X Y:Value}{mx:Bool}{at_:Array TypeId}{ty:TypeId}{A:AV}{obs:List Prop}(hx:Vc w F σ x X)(hy:Vc w F σ y Y)(h:evMinMax mx x y=some (A,obs)) :
  ReadsAs P F σ w (bif mx then Builtin.max_ at_ ty #[X,Y] else Builtin.min_ at_ ty #[X,Y]) A:=by
 unfold evMinMax at h
 split at h<;>try (cases h;done)
 rename_i k a k' b
 cases hk:decide (k=k') with
 |false=>rw[hk]at h;cases h
 | true =>
  rw[hk]at h
  simp only[cond_true,Option.some.injEq,Prod.mk.injEq]at h
  obtain⟨rfl,_⟩:=h
  have:=hx.int;subst this
  have:=hy.int;subst this
  cases mx with
  |true =>
   refine .const (.d .int) fun w'=>?_
   have e:max a b=if b>a then b else a:=by rw[Int.max_def];split<;>split<;>omega
   simp[Builtin.max_,Builtin.max2,e]
  |false =>
   refine .const (.d .int) fun w'=>?_
   have e:min a b=if b<a then b else a:=by rw[Int.min_def];split<;>split<;>omega
   simp[Builtin.min_,Builtin.min2,e]
theorem evIndex_ok (hT:TabOk P T){x y:AV}{X Y:Value}{t:TypeId}{A:AV}{obs:List Prop}(hx:Vc w F σ x X)(hy:Vc w F σ y Y)(h:evIndex T t x y=some (A,obs))(hob:∀p∈obs,p):ReadsAs P F σ w (Instr.index t X Y) A:=by
 unfold evIndex at h
 split at h
 .split at h<;>try (cases h;done)
  rename_i n sz he
  obtain⟨e,te,hu,hs,hte,hagg,_⟩:=smlOf_ok hT he
  split at h<;>try (cases h;done)
  rename_i cs
  split at h<;>try (cases h;done)
  rename_i k i
  split at h<;>try (cases h;done)
  rename_i l hcut
  simp only[Option.some.injEq,Prod.mk.injEq]at h
  obtain⟨rfl,rfl⟩:=h
  have h0:0<=i:=hob _ (by simp)
  have h1:i<(n:Int):=hob (i<(n:Int)) (by simp)
  have:=hy.int
  subst this
  cases hx with|d hx=>cases hx with | @agg _ us hl hrd =>
  obtain⟨g1,g2⟩:=dcut_eq hcut
  refine .const (u:=.agg ((us.drop (i.toNat*sz)).take sz).toArray) (.d (.agg ?_ fun j x u hx hu'=>?_)) fun w'=>?_
  .rw[g1]
   simp
   rcases Nat.eq_zero_or_pos sz with h0|h0
   .omega
   .have:=(g2 (sz-1) Om).2
    omega
  .rw[List.getElem?_take]at hu'
   split at hu'
   .rename_i hj
    exact hrd (i.toNat*sz+j) x u (by rw[<-(g2 j hj).1];exact hx) (by simpa[List.getElem?_drop] using hu')
   .cases hu'
  .simp[Instr.index,asIntOf,run_underlying hu,h0,h1,hs,part,run_isAgg (hT _ _ hte),hagg,List.extract_eq_take_drop]
 rename_i n e he
 obtain⟨hu,hs,_⟩:=arrOf_ok hT he
 split at h<;>try (cases h;done)
 rename_i te hte
 cases hagg:te.k.agg with
 |true=>rw[hagg]at h;cases h
 | false =>
  rw[hagg]at h
  simp only[cond_false]at h
  split at h<;>try (cases h;done)
  rename_i cs
  split at h<;>try (cases h;done)
  rename_i k i
  simp only[Option.some.injEq,Prod.mk.injEq]at h
  obtain⟨rfl,rfl⟩:=h
  have h0:0<=i:=hob _ (by simp)
  have h1:i<(n:Int):=hob (i<(n:Int)) (by simp)
  have h2:cs.length=n:=hob (cs.length=n) (by simp)
  have:=hy.int
  subst this
  cases hx with|d hx=>cases hx with | @agg _ us hl hrd =>
  have hi:i.toNat<us.length:=by omega
  have hv:us[i.toNat]?=some (us[i.toNat]'hi):=List.getElem?_eq_getElem hi
  have hd:cs[i.toNat]?=some (cs.getD i.toNat .nilp):=by
   rw[List.getD_eq_getElem?_getD,List.getElem?_eq_getElem Om]
   rfl
  refine .const (.d (hrd _ _ _ hd hv)) fun w'=>?_
  simp[Instr.index,asIntOf,run_underlying hu,h0,h1,hs,part,run_isAgg (hT _ _ hte),hagg,hv]
theorem evField_ok (hT:TabOk P T){x:AV}{X:Value}{t:TypeId}{k:Nat}{A:AV}{obs:List Prop}(hx:Vc w F σ x X)(h:evField T t k x=some (A,obs)):ReadsAs P F σ w (Instr.field t X k) A:=by
 unfold evField at h
 split at h<;>try (cases h;done)
 rename_i o u hf
 obtain⟨fs,f,hu,hfk,ho,hft,_⟩:=fieldOf_ok hT hf
 split at h<;>try (cases h;done)
 rename_i ti hti
 have ht:=hT _ _ hti
 have key:∀(us:List Value),(∀w',∃s,(Instr.field t (.agg us.toArray) k).run P w'=s.run P w'/\s=part u us.toArray o):=fun us w'=>⟨_,by simp[Instr.field,run_underlying hu,hfk,asAgg,ho,hft],rfl⟩
 have kagg:∀(us:List Value) w',ti.k.agg=true->(Instr.field t (.agg us.toArray) k).run P w'=.ok (.agg ((us.drop o).take ti.size).toArray) w':=fun us w' hagg=>by
  obtain⟨s,h1,rfl⟩:=key us w'
  rw[h1]
  simp[part,run_isAgg ht,hagg,run_sizeOf ht,List.extract_eq_take_drop]
 have kone:∀(us:List Value) w' v,ti.k.agg=false->us[o]?=some v->(Instr.field t (.agg us.toArray) k).run P w'=.ok v w':=fun us w' v hagg hv=>by
  obtain⟨s,h1,rfl⟩:=key us w'
  rw[h1]
  simp[part,run_isAgg ht,hagg,hv]
 split at h<;>try (cases h;done)
 .rename_i cs
  cases hx with|d hx=>cases hx with | @agg _ us hl hrd =>
  cases hagg:ti.k.agg with
  | true =>
   rw[hagg]at h
   simp only[cond_true]at h
   split at h<;>try (cases h;done)
   rename_i l hcut
   simp only[Option.some.injEq,Prod.mk.injEq]at h
   obtain⟨rfl,_⟩:=h
   obtain⟨h1,h2⟩:=dcut_eq hcut
   refine .const (.d (.agg (us:=(us.drop o).take ti.size) ?_ fun j x u hx hu=>?_)) fun w'=>kagg us w' hagg
   .rw[h1];simp
    rcases Nat.eq_zero_or_pos ti.size with h0|h0
    .omega
    .have:=(h2 (ti.size-1) Om).2;omega
   .rw[List.getElem?_take]at hu
    split at hu
    .rename_i hj
     exact hrd (o+j) x u (by rw[<-(h2 j hj).1];exact hx) (by simpa[List.getElem?_drop] using hu)
    .cases hu
  |false =>
   rw[hagg]at h
   simp only[cond_false]at h
   split at h<;>try (cases h;done)
   rename_i x hlk
   simp only[Option.some.injEq,Prod.mk.injEq]at h
   obtain⟨rfl,_⟩:=h
   rw[dlook_eq]at hlk
   have hlt:=(List.getElem?_eq_some_iff.1 hlk).1
   have hu':us[o]?=some (us[o]'Om):=List.getElem?_eq_getElem Om
   exact .const (.d (hrd o x _ hlk hu')) fun w'=>kone us w' _ hagg hu'
 .rename_i cs
  cases hx with | @agg _ us hl hrd =>
  cases hagg:ti.k.agg with
  | true =>
   rw[hagg]at h
   simp only[cond_true]at h
   split at h<;>try (cases h;done)
   rename_i l hcut
   simp only[Option.some.injEq,Prod.mk.injEq]at h
   obtain⟨rfl,_⟩:=h
   obtain⟨h1,h2⟩:=acut_eq hcut
   refine .const (.agg (us:=(us.drop o).take ti.size) ?_ fun j x u hx hu=>?_) fun w'=>kagg us w' hagg
   .rw[h1];simp
    rcases Nat.eq_zero_or_pos ti.size with h0|h0
    .omega
    .have:=(h2 (ti.size-1) Om).2;omega
   .rw[List.getElem?_take]at hu
    split at hu
    .rename_i hj
     exact hrd (o+j) x u (by rw[<-(h2 j hj).1];exact hx) (by simpa[List.getElem?_drop] using hu)
    .cases hu
  |false =>
   rw[hagg]at h
   simp only[cond_false]at h
   split at h<;>try (cases h;done)
   rename_i x hlk
   simp only[Option.some.injEq,Prod.mk.injEq]at h
   obtain⟨rfl,_⟩:=h
   rw[alook_eq]at hlk
   have hlt:=(List.getElem?_eq_some_iff.1 hlk).1
   have hu':us[o]?=some (us[o]'Om):=List.getElem?_eq_getElem Om
   exact .const (hrd o x _ hlk hu') fun w'=>kone us w' _ hagg hu'
theorem evRead_ok (hT:TabOk P T)(hm:MemOk m σ F w){env:Env}{a:Act}(he:EnvOk env w F σ a.tmps){o:Oper}{A:AV}{obs:List Prop}
  (h:evRead T env m o.op=some (A,obs)) (hob:∀p∈obs,p):ReadsOp P F σ w a.eval o A:=by
 have st:∀x,(∀p∈(strip (ev env x)).2,p)->Vc w F σ (strip (ev env x)).1 (a.eval x):=fun x hx=>strip_ok (ev_ok he x) hx
 unfold evRead at h
 split at h<;>try (cases h;done)
 .rename_i x hop
  exact⟨a.eval x,evMove_ok (ev_ok he x) h hob,fun w' _=>by simp[execOp,hop]⟩
 .rename_i x hop
  exact⟨a.eval x,evMove_ok (ev_ok he x) h hob,fun w' _=>by simp[execOp,hop]⟩
 .rename_i c x y hop
  exact(evPick_ok (ev_ok he c) (ev_ok he x) (ev_ok he y) h hob).op (by simp[execOp,hop])
 .rename_i op t x y ty hop
  obtain⟨h1,o1,h,hob⟩:=un_ok h hob
  obtain⟨h2,o2,h,hob⟩:=un_ok h hob
  split at h
  .rename_i r hr
   injection h with h
   subst h
   exact(evBin_ok (t:=t) (x:=x) (y:=y) (st x h1) (st y h2) hr hob).op (by simp[execOp,hop])
  .split at h
   .rename_i r hr
    injection h with h
    subst h
    exact(evEq_ok hT (t:=t) (p:=x) (q:=y) (st x h1) (st y h2) hr).op (by simp[execOp,hop])
   .exact(evNilEq_ok hT (t:=t) (p:=x) (q:=y) (Y:=a.eval y) (st x h1) (fun v e=>by rw[e];rfl) h).op (by simp[execOp,hop])
 .rename_i t x hop
  obtain⟨h1,o1,h,hob⟩:=un_ok h hob
  exact(evNot_ok (st x h1) h).op (by simp[execOp,hop])
 .rename_i t x hop
  obtain⟨h1,o1,h,hob⟩:=un_ok h hob
  exact(evNeg_ok (st x h1) h hob).op (by simp[execOp,hop])
 .rename_i t x hop
  obtain⟨h1,o1,h,hob⟩:=un_ok h hob
  exact(evLoad_ok hT hm (st x h1) h hob).op (by simp[execOp,hop])
 .rename_i t x k hop
  obtain⟨h1,o1,h,hob⟩:=un_ok h hob
  exact(evFieldAddr_ok hT (st x h1) hm h hob).op (by simp[execOp,hop])
 .rename_i t x i hop
  obtain⟨h1,o1,h,hob⟩:=un_ok h hob
  obtain⟨h2,o2,h,hob⟩:=un_ok h hob
  exact(evIndexAddr_ok hT hm (st x h1) (st i h2) h hob).op (by simp[execOp,hop])
 .rename_i t x k hop
  obtain⟨h1,o1,h,hob⟩:=un_ok h hob
  exact(evField_ok hT (st x h1) h).op (by simp[execOp,hop])
 .rename_i t x i hop
  obtain⟨h1,o1,h,hob⟩:=un_ok h hob
  obtain⟨h2,o2,h,hob⟩:=un_ok h hob
  exact(evIndex_ok hT (st x h1) (st i h2) h hob).op (by simp[execOp,hop])
 .rename_i x k hop
  obtain⟨h1,o1,h,hob⟩:=un_ok h hob
  exact(evExtract_ok (st x h1) h).op (by simp[execOp,hop])
 .rename_i t x hop
  obtain⟨h1,o1,h,hob⟩:=un_ok h hob
  exact(evIfc_ok hT (st x h1) h).op (by simp[execOp,hop])
 .rename_i s d x hop
  obtain⟨h1,o1,h,hob⟩:=un_ok h hob
  exact(evConv_ok hT (st x h1) h hob).op (by simp[execOp,hop])
 .rename_i f first cap hop
  obtain⟨l1,v1⟩:=evAll_ok he first.toList
  obtain⟨l2,v2⟩:=evAll_ok he cap.toList
  have hrun:∀w',(execOp a.eval o).run P w'=.ok (.value (.func f (first.toList.map a.eval).toArray (cap.toList.map a.eval).toArray)) w':=fun w'=>by
   have e1:first.map a.eval=(first.toList.map a.eval).toArray:=by apply Array.ext';simp
   have e2:cap.map a.eval=(cap.toList.map a.eval).toArray:=by apply Array.ext';simp
   simp[execOp,hop,Instr.makeFunc,e1,e2]
  unfold evFn at h
  split at h
  .rename_i xs ys e1 e2
   simp only[Option.some.injEq,Prod.mk.injEq]at h
   obtain⟨rfl,_⟩:=h
   have e1:=allD_eq e1
   have e2:=allD_eq e2
   rw[e1]at l1 v1
   rw[e2]at l2 v2
   have dv:∀{cs:List D} {us:List Value},(∀(j:Nat) A u,(up cs)[j]?=some A->us[j]?=some u->Vc w F σ A u)->∀(j:Nat) x u,cs[j]?=some x->us[j]?=some u->Rd w F x u:=fun hh j x u hx hu=>by
    have:=hh j (.d x) u (by rw[up_eq,List.getElem?_map,hx];rfl) hu
    cases this with|d h=>exact h
   exact⟨_,.d (.fn (by rw[l1,up_eq,List.length_map]) (by rw[l2,up_eq,List.length_map]) (dv v1) (dv v2)),fun w' _=>hrun w'⟩
  .simp only[Option.some.injEq,Prod.mk.injEq]at h
   obtain⟨rfl,_⟩:=h
   exact⟨_,.fn l1 l2 v1 v2,fun w' _=>hrun w'⟩
 .rename_i t parts hop
  split at h
  rename_i l0 p0 el
  split at h<;>try (cases h;done)
  rename_i A1 q1 hbs
  simp only[Option.some.injEq,Prod.mk.injEq]at h
  obtain⟨rfl,rfl⟩:=h
  obtain⟨hp1,hp2⟩:=all_cat hob
  obtain⟨hk1,hk2⟩:=evParts_ok he parts.toList
  exact(evBuild_ok (a:=a) (parts:=parts) hT hm (hk1.trans (by have:=stripParts_fst (evParts env parts.toList);rw[el]at this;exact this.symm)) (fun j B u hB hu=>by
   obtain⟨A0,e1,e2⟩:=stripParts_ok (evParts env parts.toList) (by rw[el];exact hp1) j B (by rw[el];exact hB)
   exact e2 _ (hk2 j A0 u e1 hu)) hbs hp2).op (by simp[execOp,hop])
 .rename_i t x lo hi hop
  obtain⟨h1,o1,h,hob⟩:=un_ok h hob
  obtain⟨h2,o2,h,hob⟩:=un?_ok h hob
  obtain⟨h3,o3,h,hob⟩:=un?_ok h hob
  refine(evSlice_ok hT hm (LO:=lo.map a.eval) (HI:=hi.map a.eval) (st x h1) ?_ ?_ ?_ ?_ h hob).op (by simp[execOp,hop])
  .intro y hy
   cases lo with
   |none=>simp at hy
   |some l=>simp at hy;subst hy;exact⟨_,rfl,st l (h2 _ rfl)⟩
  .intro hy;cases lo<;>simp at hy⊢
  .intro y hy
   cases hi with
   |none=>simp at hy
   |some l=>simp at hy;subst hy;exact⟨_,rfl,st l (h3 _ rfl)⟩
  .intro hy;cases hi<;>simp at hy⊢
 .rename_i x hop
  obtain⟨h1,o1,h,hob⟩:=un_ok h hob
  have hx:=st x h1
  refine⟨a.eval x,?_⟩
  unfold evNil at h
  split at h<;>try (cases h;done)
  .rename_i e
   simp only[Option.some.injEq,Prod.mk.injEq]at h
   obtain⟨rfl,_⟩:=h
   rw[e]at hx
   refine⟨hx,fun w' _=>?_⟩
   cases hx with|d hx =>
   generalize hX:a.eval x=X at hx
   cases hx
   simp[execOp,hop,hX]
  .rename_i e
   simp only[Option.some.injEq,Prod.mk.injEq]at h
   obtain⟨rfl,_⟩:=h
   rw[e]at hx
   refine⟨hx,fun w' _=>?_⟩
   cases hx with|d hx =>
   generalize hX:a.eval x=X at hx
   cases hx
   simp[execOp,hop,hX]
  .rename_i e
   split at h<;>try (cases h;done)
   rename_i l hl
   simp only[Option.some.injEq,Prod.mk.injEq]at h
   obtain⟨rfl,rfl⟩:=h
   rw[e]at hx
   obtain⟨pl,b,tot,_,_,_,hX⟩:=liveAt_ok hm hx hl hob
   exact⟨hx,fun w' _=>by simp[execOp,hop,hX]⟩
 .rename_i t x k ok hop
  obtain⟨h1,o1,h,hob⟩:=un_ok h hob
  obtain⟨h2,o2,h,hob⟩:=un_ok h hob
  exact(evLookup_ok hT hm (st x h1) (st k h2) h hob).op (by simp[execOp,hop])
 .rename_i args argTypes hop
  split at h<;>try (cases h;done)
  rename_i x ea
  split at h<;>try (cases h;done)
  rename_i t et
  obtain⟨h1,o1,h,hob⟩:=un_ok h hob
  have ea:args=#[x]:=by apply Array.ext';simpa using ea
  have et:argTypes=#[t]:=by apply Array.ext';simpa using et
  subst ea;subst et
  exact(evLenOwn_ok (ty:=o.type) hT hm (st x h1) h hob).op (by simp[execOp,hop,resolve,invoke,builtin])
 .rename_i args argTypes hop
  split at h<;>try (cases h;done)
  rename_i x ea
  split at h<;>try (cases h;done)
  rename_i t et
  obtain⟨h1,o1,h,hob⟩:=un_ok h hob
  have ea:args=#[x]:=by apply Array.ext';simpa using ea
  have et:argTypes=#[t]:=by apply Array.ext';simpa using et
  subst ea;subst et
  refine ReadsAs.op (s:=Builtin.cap_ #[t] o.type #[a.eval x]) ?_ (by simp[execOp,hop,resolve,invoke,builtin])
  have hx:=st x h1
  unfold evCap at h
  split at h<;>try (cases h;done)
  rename_i es he
  obtain⟨hu,_,_⟩:=elemOf_ok hT (e:=es.1) (sz:=es.2) he
  split at h<;>try (cases h;done)
  rename_i e
  simp only[Option.some.injEq,Prod.mk.injEq]at h
  obtain⟨rfl,rfl⟩:=h
  rw[e]at hx
  generalize a.eval x=X at hx
  cases hx with|d hx=>cases hx with
  |nils=>exact .const (u:=.int .i64 0) (.d .int) fun w'=>by simp[Builtin.cap_,run_underlying hu,goInt]
 .rename_i args argTypes hop
  split at h<;>try (cases h;done)
  rename_i x y ea
  obtain⟨h1,o1,h,hob⟩:=un_ok h hob
  obtain⟨h2,o2,h,hob⟩:=un_ok h hob
  have ea:args=#[x,y]:=by apply Array.ext';simpa using ea
  subst ea
  exact(evMinMax_ok (mx:=true) (at_:=argTypes) (ty:=o.type) (st x h1) (st y h2) h).op (by simp[execOp,hop,resolve,invoke,builtin])
 .rename_i args argTypes hop
  split at h<;>try (cases h;done)
  rename_i x y ea
  obtain⟨h1,o1,h,hob⟩:=un_ok h hob
  obtain⟨h2,o2,h,hob⟩:=un_ok h hob
  have ea:args=#[x,y]:=by apply Array.ext';simpa using ea
  subst ea
  exact(evMinMax_ok (mx:=false) (at_:=argTypes) (ty:=o.type) (st x h1) (st y h2) h).op (by simp[execOp,hop,resolve,invoke,builtin])
end sound
end Go.Ab
