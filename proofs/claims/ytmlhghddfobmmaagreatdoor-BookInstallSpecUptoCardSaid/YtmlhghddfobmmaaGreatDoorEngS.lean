import Derived.Test.YtmlhghddfobmmaaGreatDoorEngO
namespace Go.Ab
set_option linter.unusedSimpArgs false
set_option linter.unusedVariables false
inductive J9 (m:Mem):AV->D->Prop where
 |d {x}:J9 m (.d x) x
 |eq {y x} (h:DEq y x):J9 m (.d y) x
 |ptr {r e off} {cs:List AV} {xs:List D} (h:m.get r=some (.box e cs)) (hl:cs.length=xs.length) (hc:∀(j:Nat) A x,cs[j]?=some A->xs[j]?=some x->J9 m A x):J9 m (.ptr r 0 0 off) (.pt xs off)
 | osl {r e sz g off n k} {f:Nat→List AV} {f':Nat→List D} (h:m.get r=some (.vec e sz g k f)) (hn:off + n≤k) (hl:∀ i,i < n→(f (off + i)).length=(f' i).length)
   (hc:∀(i j:Nat) A x,i<n->(f (off+i))[j]?=some A->(f' i)[j]?=some x->J9 m A x):J9 m (.osl r g off n) (.sl sz n f')
 | fn {f} {xs ys:List AV} {xs' ys':List D} (h1:xs.length=xs'.length) (h2:ys.length=ys'.length) (h3:∀ (j:Nat) A x,xs[j]?=some A→xs'[j]?=some x→J9 m A x) (h4:∀ (j:Nat) A x,ys[j]?=some A→ys'[j]?=some x→J9 m A x) :
   J9 m (.fn f xs ys) (.fn f xs' ys')
 |agg {cs:List AV} {xs:List D} (hl:cs.length=xs.length) (hc:∀(j:Nat) A x,cs[j]?=some A->xs[j]?=some x->J9 m A x):J9 m (.agg cs) (.agg xs)
 |ifc {t A x} (h:J9 m A x):J9 m (.ifc t A) (.ifc t x)
 |mp {r sh has val} {val':List Int->D} (h:m.get r=some (.map sh has val)) (hc:∀k,has k=true->J9 m (val k) (val' k)):J9 m (.mp r) (.mapd sh has val')
def Vd (m:Mem):List AV->List D->Prop
 |[],[]=>True
 |A::r,x::s=>J9 m A x/\Vd m r s
 |_,_=>False
theorem Vd.len {m:Mem}:∀{as:List AV} {xs:List D},Vd m as xs->as.length=xs.length
 |[],[],_=>rfl
 |_::_,_::_,h=>by simp[Vd.len h.2]
 |[],_::_,h=>h.elim
 |_::_,[],h=>h.elim
theorem Vd.at {m:Mem}:∀{as:List AV} {xs:List D},Vd m as xs->∀(j:Nat) A x,as[j]?=some A->xs[j]?=some x->J9 m A x
 |[],[],_,j,A,x,h,_=>by simp at h
 |a::r,y::s,h,j,A,x,hA,hx=>by
  cases j with
  |zero=>simp at hA hx;subst hA;subst hx;exact h.1
  |succ j=>exact Vd.at h.2 j A x (by simpa using hA) (by simpa using hx)
 |[],_::_,h,_,_,_,_,_=>h.elim
 |_::_,[],h,_,_,_,_,_=>h.elim
theorem J9.ptr' {m:Mem}{r e off}{cs:List AV}{xs:List D}(h:m.get r=some (.box e cs))(hc:Vd m cs xs):J9 m (.ptr r 0 0 off) (.pt xs off):=.ptr h hc.len hc.at
theorem J9.osl' {m:Mem}{r e sz g off n k}{f:Nat->List AV}{f':Nat->List D}(h:m.get r=some (.vec e sz g k f))(hn:off+n<=k)(hc:∀i,i<n->Vd m (f (off+i)) (f' i)):J9 m (.osl r g off n) (.sl sz n f') :=
 .osl h hn (fun i hi=>(hc i hi).len) fun i j A x hi=>(hc i hi).at j A x
theorem Vd.up {m:Mem}:∀l:List D,Vd m (up l) l
 |[]=>Tt
 |_::r=>⟨.d,Vd.up r⟩
theorem J9.rows {m:Mem}{r e sz g off n k}{f:Nat->List AV}{f':Nat->List D}(h:m.get r=some (.vec e sz g k f))(hn:off+n<=k)(hc:∀i,i<n->f (off+i)=Ab.up (f' i)):J9 m (.osl r g off n) (.sl sz n f') :=
 .osl' h hn fun i hi=>by rw[hc i hi];exact Vd.up _
theorem J9.fn' {m:Mem}{f}{xs ys:List AV}{xs' ys':List D}(h1:Vd m xs xs')(h2:Vd m ys ys'):J9 m (.fn f xs ys) (.fn f xs' ys'):=.fn h1.len h2.len h1.at h2.at
theorem J9.agg' {m:Mem}{cs:List AV}{xs:List D}(h:Vd m cs xs):J9 m (.agg cs) (.agg xs):=.agg h.len h.at
section
variable {P:Program}{T:Tab}{w:World}{F:Nat->Prop}{σ:Pls}{m:Mem}
theorem J9.ok (hm:Q3 m σ F w){A:AV}{x:D}(e:J9 m A x):∀{v:Value},Vc w F σ A v->Rd w (Zp F σ) x v:=by
 induction e with
 |d=>intro v h;cases h with|d h=>exact h.mono (fun _ h=>.inl h) (fun _ _=>rfl)
 |eq he=>intro v h;cases h with|d h=>exact DEq.ok (h.mono (fun _ h=>.inl h) (fun _ _=>rfl)) he
 | @ptr r e off cs xs hB hl _ ih =>
  intro v h
  obtain⟨pl,hr,hok,_,hat⟩:=W7 hm h (Mem.get_at hB)
  obtain⟨h0,hsz,b,hloc,us,hheap,hlen,hvc⟩:=hok
  obtain⟨b',tot,hl',rfl⟩:=hat h0
  rw[hloc]at hl'
  obtain⟨rfl,rfl⟩:=Prod.mk.inj (Option.some.inj hl')
  have:=Rd.pt (w:=w) (F:=Zp F σ) (cs:=xs) (off:=off) ⟨b,0,none⟩ (fun j=>us.getD j undef) (.inr ⟨r,pl,1,hr,hloc⟩)
   (fun j hj=>by
    have hu:us[j]?=some (us[j]'Om):=Qgy Om
    have hA:cs[j]?=some (cs[j]'Om):=Qgy Om
    rw[Vh,Qh9,cell_of_row w b j us.toArray e (0,0) hheap]
    have:=(hvc j _ _ hA hu).2
    simp only[Qha,hu,Qi3]
    exact⟨by simp,this⟩)
   (fun j x hx=>by
    have hj:=(Qh7.1 hx).1
    have hu:us[j]?=some (us[j]'Om):=Qgy Om
    have hA:cs[j]?=some (cs[j]'Om):=Qgy Om
    simp only[Qha,hu,Qi3]
    exact ih j _ x hA hx (hvc j _ _ hA hu).1)
  rw[Vh]at this
  simpa only[Nat.zero_mul,Qh9] using this
 | @osl r e sz g off n k f f' hB hn hl _ ih =>
  intro v h
  obtain⟨pl,hr,hok,_,hat⟩:=Uz hm h (Mem.get_at hB)
  obtain⟨h0,hsz,hn0,hrow,hlo⟩:=hok
  have hsl:=hat h0
  unfold Yn at hsl
  split at hsl
  .obtain⟨rfl,_,rfl⟩:=hsl
   exact .sl ⟨0,0,none⟩ (fun _ _=>undef) (Qgx _) (fun h=>absurd h Om) (fun i hi=>absurd hi Om) (fun i j hi=>absurd hi Om) (fun i j x hi=>absurd hi Om)
  .rename_i b tot hloc
   obtain⟨B,cap,rfl,hnc,hoc,hA⟩:=hsl
   obtain⟨hnt,htm,us,hheap,hlen,hvc⟩:=hlo b tot hloc
   have hlen':∀i,i<n->(f' i).length=sz:=fun i hi=>by rw[<-hl i hi];exact hrow _ Om
   have hcell:∀i j,i<n->j<sz->∃u,us[(off+i)*sz+j]?=some u/\u.oneCell'=true/\∀x,(f' i)[j]?=some x->Rd w (Zp F σ) x u:=fun i j hi hj=>by
    have hA1:(f (off+i))[j]?=some ((f (off+i))[j]'(by rw[hrow _ Om];exact hj)):=Qgy _
    obtain⟨u,hu,hv,h1⟩:=hvc (off+i) j _ Om hA1
    exact⟨u,hu,h1,fun x hx=>ih i j _ x hi hA1 hx hv⟩
   refine .sl ⟨b,off*sz,none⟩ (fun i j=>us.getD ((off+i)*sz+j) undef) hnc (fun hn=>⟨by rw[hA (.inl Om),hsz],.inr ⟨r,pl,tot,hr,hloc⟩⟩) hlen' (fun i j hi hj=>?_) (fun i j x hi hx=>?_)
   .obtain⟨u,hu,h1,_⟩:=hcell i j hi hj
    rw[Vh,cell_of_row w b _ us.toArray e (0,0) hheap]
    have e1:off*sz+(i*sz+j)=(off+i)*sz+j:=by rw[Nat.add_mul];omega
    rw[e1]
    simp[hu,h1]
   .have hj:j<sz:=by rw[<-hlen' i hi];exact(Qh7.1 hx).1
    obtain⟨u,hu,_,h2⟩:=hcell i j hi hj
    simp only[Qha,hu,Qi3]
    exact h2 x hx
 | fn h1 h2 _ _ i3 i4 =>
  intro v h
  cases h with
  | fn l1 l2 r1 r2 =>
   refine .fn Om Om (fun j x u hx hu=>?_) (fun j x u hx hu=>?_)
   .have hj:=(Qh7.1 hu).1
    exact i3 j _ x (Qgy Om) hx (r1 j _ u (Qgy Om) hu)
   .have hj:=(Qh7.1 hu).1
    exact i4 j _ x (Qgy Om) hx (r2 j _ u (Qgy Om) hu)
 | agg hl _ ih =>
  intro v h
  cases h with
  |agg l1 r1 =>
   refine .agg Om (fun j x u hx hu=>?_)
   have hj:=(Qh7.1 hu).1
   exact ih j _ x (Qgy Om) hx (r1 j _ u (Qgy Om) hu)
 |ifc _ ih=>intro v h;cases h with|ifc h=>exact .ifc (ih h)
 |@mp r sh has val val' hB _ ih =>
  intro v h
  obtain⟨pl,b,hr,_,hl,rfl,h1,b',hl',es,clock,ks,g1,g2,g3,g4,g5⟩:=E9 hm h (Mem.get_at hB)
  rw[hl]at hl'
  obtain⟨rfl,_⟩:=Prod.mk.inj (Option.some.inj hl')
  exact .mapd b es clock ks (.inr ⟨r,pl,1,hr,hl⟩) g1 g2 g3 (fun i k e hi he=>⟨(g4 i k e hi he).1,(g4 i k e hi he).2.1,(g4 i k e hi he).2.2.1⟩) g5.1 g5.2 (fun i k e hi he=>ih k (g4 i k e hi he).2.2.1 (g4 i k e hi he).2.2.2)
theorem Vd.args (hm:Q3 m σ F w){as:List AV}{xs:List D}{Q5:List Value}(h:Vd m as xs)(ha:Jt w F σ as Q5):Q5.length=xs.length/\∀(j:Nat) x u,xs[j]?=some x->Q5[j]?=some u->Rd w (Zp F σ) x u :=
 ⟨by rw [ha.1,h.len],fun j x u hx hu=>by
  have hj:j<as.length:=by rw[h.len];exact(Qh7.1 hx).1
  have hA:as[j]?=some as[j]:=Qgy hj
  exact(h.at j _ x hA hx).ok hm (ha.2 j _ u hA hu)⟩
theorem Rn (hm:Q3 m σ F w):∀b,Zp F σ b->b<w.heap.size:=fun b hb=>by
 rcases hb with hb|⟨r,pl,t,h1,h2⟩
 .exact hm.fl b hb
 .exact(hm.nf r pl b t h1 h2).2
def D.flat:D->Bool
 | .int _ _ | .bool _ | .str _ | .nilp | .nili | .nilf | .nilm | .nils=>true
 |_=>false
def Bw:List D->Bool
 |[]=>true
 |x::r=>x.flat&&Bw r
theorem Rd.flat {w w':World}{F F':Nat->Prop}{x:D}{v:Value}(h:Rd w F x v)(hx:x.flat=true):Rd w' F' x v:=by
 cases h<;>first|(simp[D.flat]at hx;done)|constructor
theorem Cm:∀{l:List D},Bw l=true->∀x∈l,x.flat=true
 |[],_=>fun x h=>by simp at h
 |y::r,h=>fun x hx=>by
  simp only[Bw,Qh5]at h
  rcases Qho.1 hx with rfl|hx
  .exact h.1
  .exact Cm h.2 x hx
theorem Qe5 {w w':World}{F F':Nat->Prop}{σ σ':Pls}{res:List D}{v:Value}(hf:Bw res=true)(h:Vc w F σ (Vu res) v):Vc w' F' σ' (Vu res) v:=by
 match res,hf,h with
 |[x],hf,h=>cases h with|d h=>exact .d (h.flat (Cm hf x (by simp)))
 |[],_,h =>
  simp only[Vu]at h⊢
  cases h with
  |tup hl h=>exact .tup hl fun j A u hA hu=>by simp[up]at hA
 | x :: y :: r,hf,h =>
  simp only[Vu]at h⊢
  cases h with
  |tup hl hh =>
   refine .tup hl fun j A u hA hu=>?_
   obtain⟨x,hx,rfl⟩:=Ue hA
   have:=hh j (.d x) u (by rw[Zb,Qhe,hx];rfl) hu
   cases this with|d h=>exact .d (h.flat (Cm hf x (Qie hx)))
theorem Pure.loan {f:FuncId}{dargs res:List D}(h:Pure P f dargs res){as:List AV}{K:AV->Mem->Prop}(hs:Bw res=true)(ha:Vd m as dargs)(hk:K (Vu res) m):Qz P f as m K :=
 ⟨h.1,fun σ F w Q5 hm hv=>by
  obtain⟨h1,h2⟩:=ha.args hm hv
  refine(h.2 (Zp F σ) w Q5 (Rn hm) (hm.gl.mono (fun _ h=>.inl h) fun _ _=>rfl) h1 h2).mono ?_
  rintro e w' ⟨v,F',he,hg,hr⟩
  have hkeep:∀b,b<w.heap.size->w'.heap[b]?=w.heap[b]?:=hg.keep
  have hm':Q3 m σ F w':=hm.world hg.size fun b hb=>hkeep b (Rn hm b hb)
  exact⟨v,Vu res,m,σ,F,he,hk,Qe5 hs (hr σ),hm',⟨hg.os,hg.tape,hg.output,hg.drawn,hg.size,fun b hb _=>hkeep b hb,fun _ h=>h,fun _ h=>.inl h,fun _ h=>.inl h⟩,SLe.refl σ⟩⟩
def dead:List (Option Blk)->List (Option Blk)
 |[]=>[]
 |_::r=>none::dead r
theorem Ol:∀(l:List (Option Blk)) (j:Nat),(dead l)[j]?=(l[j]?).map fun _=>none
 |[],_=>by simp[dead]
 |_::_,0=>by simp[dead]
 |_::r,j+1=>by simpa[dead] using Ol r j
end
section
variable {P:Program}{T:Tab}{w:World}{F:Nat->Prop}{σ:Pls}{m:Mem}
end
mutual
def ren (ρ:Ref->Ref):AV->AV
 | .d x=>.d x
 | .agg cs=>.agg (Za ρ cs)
 | .tup cs=>.tup (Za ρ cs)
 | .ifc t x=>.ifc t (ren ρ x)
 | .fn f xs ys=>.fn f (Za ρ xs) (Za ρ ys)
 | .ptr r g i off=>.ptr (ρ r) g i off
 | .osl r g off n=>.osl (ρ r) g off n
 | .mp r=>.mp (ρ r)
 | .gd b x=>.gd b (ren ρ x)
 | .junk=>.junk
def Za (ρ:Ref->Ref):List AV->List AV
 |[]=>[]
 |A::r=>ren ρ A::Za ρ r
end
def Fq (ρ:Ref->Ref):List (Nat × AV)->List (Nat × AV)
 |[]=>[]
 |(t,A)::r=>(t,ren ρ A)::Fq ρ r
theorem A7 (ρ:Ref->Ref):∀l:List (Nat × AV),Fq ρ l=l.map fun p=>(p.1,ren ρ p.2)
 |[]=>rfl
 |(t,A)::r=>by simp[Fq,A7 ρ r]
def Mh (ρ:Ref->Ref):Blk->Blk
 | .box e cs=>.box e (Za ρ cs)
 | .vec e sz g n f=>.vec e sz g n fun i=>Za ρ (f i)
 | .loop b r env=>.loop b r (Fq ρ env)
 | .map sh has val=>.map sh has fun k=>ren ρ (val k)
 | .room e sz g n c f=>.room e sz g n c fun i=>Za ρ (f i)
 | .ent sh has val key c=>.ent sh has (fun k=>ren ρ (val k)) key c
 | .opq=>.opq
 | .iter sh has val left cur=>.iter sh has val left cur
 | .look sh key v hk=>.look sh key (ren ρ v) hk
def Xr (ρ:Ref->Ref):Option Blk->Option Blk
 |none=>none
 |some B=>some (Mh ρ B)
def Zh (ρ:Ref->Ref):List (Option Blk)->List (Option Blk)
 |[]=>[]
 |b::r=>Xr ρ b::Zh ρ r
theorem Zl (ρ:Ref->Ref):∀l:List AV,Za ρ l=l.map (ren ρ)
 |[]=>by simp[Za]
 |A::r=>by simp[Za,Zl ρ r]
theorem H6 (ρ:Ref->Ref):∀l:List (Option Blk),Zh ρ l=l.map (Xr ρ)
 |[]=>rfl
 |A::r=>by simp[Zh,H6 ρ r]
theorem Qdx (ρ:Ref->Ref)(l:List D):Za ρ (up l)=up l:=by
 induction l with
 |nil=>simp[up,Za]
 |cons x r ih=>simp[up,Za,ren,ih]
def nth:List Ref->Nat->Ref
 |[],_=>.bad
 |r::_,0=>r
 |_::s,j+1=>nth s j
def inn (rs:List Ref):Ref->Ref
 | .arg j=>nth rs j
 |_=>.bad
def out (k:Nat)(rs:List Ref):Ref->Ref
 | .arg j=>nth rs j
 | .loc j=>.loc (k+j)
 | .bad=>.bad
def Jn:Mem->List Ref->List (Option Blk)->Mem
 |m,r::rs,b::bs=>Jn (m.put r b) rs bs
 |m,_,_=>m
def app:List (Option Blk)->List (Option Blk)->List (Option Blk)
 |[],l=>l
 |b::r,l=>b::app r l
def back (m:Mem)(rs:List Ref)(m0:Mem):Mem :=
 match Jn m rs (Zh (out (Qp m.loc) rs) m0.own) with
 |⟨l,o⟩=>⟨app l (Zh (out (Qp m.loc) rs) m0.loc),o⟩
def Va (r:Ref):List Ref->Bool
 |[]=>false
 |s::t=>decide (s=r)||Va r t
def Xo:List Ref->Bool
 |[]=>true
 |r::s=>!Va r s&&Xo s
def Z4 (m:Mem)(ρ:Ref->Ref):List Ref->List (Option Blk)->Prop
 |[],[]=>True
 |r::rs,b::bs=>m.at r=some (Xr ρ b)/\Z4 m ρ rs bs
 |_,_=>False
section
variable {P:Program}{T:Tab}{w:World}{F:Nat->Prop}{σ σ':Pls}{m:Mem}
theorem Vc.inn {ρ:Ref->Ref}:∀{B:AV} {v:Value},Vc w F σ B v->∀{A:AV},B=ren ρ A->Vc w F (fun r=>σ (ρ r)) A v:=by
 intro B v h
 induction h with
 |d h=>intro A e;cases A<;>simp[ren]at e;subst e;exact .d h
 |agg hl h ih =>
  intro A e
  cases A<;>simp[ren]at e
  subst e
  rw[Zl]at hl
  refine .agg (by simpa using hl) fun j x u hx hu=>ih j _ u (by rw[Zl,Qhe,hx];rfl) hu rfl
 |tup hl h ih =>
  intro A e
  cases A<;>simp[ren]at e
  subst e
  rw[Zl]at hl
  refine .tup (by simpa using hl) fun j x u hx hu=>ih j _ u (by rw[Zl,Qhe,hx];rfl) hu rfl
 |ifc h ih =>
  intro A e
  cases A<;>simp[ren]at e
  obtain⟨rfl,rfl⟩:=e
  exact .ifc (ih rfl)
 |fn h1 h2 h3 h4 i3 i4 =>
  intro A e
  cases A<;>simp[ren]at e
  obtain⟨rfl,rfl,rfl⟩:=e
  rw[Zl]at h1 h2
  refine .fn (by simpa using h1) (by simpa using h2) (fun j x u hx hu=>i3 j _ u (by rw[Zl,Qhe,hx];rfl) hu rfl) (fun j x u hx hu=>i4 j _ u (by rw[Zl,Qhe,hx];rfl) hu rfl)
 |ptr hr h =>
  intro A e
  cases A<;>simp[ren]at e
  obtain⟨rfl,rfl,rfl,rfl⟩:=e
  exact .ptr hr h
 |osl hr h =>
  intro A e
  cases A<;>simp[ren]at e
  obtain⟨rfl,rfl,rfl,rfl⟩:=e
  exact .osl hr h
 |mp hr h =>
  intro A e
  cases A<;>simp[ren]at e
  subst e
  exact .mp hr h
 |gd h h' ih =>
  intro A e
  cases A<;>simp[ren]at e
  obtain⟨rfl,rfl⟩:=e
  exact .gd (fun hb=>ih hb rfl) h'
 |junk=>intro A e;cases A<;>simp[ren]at e;exact .junk
theorem Vc.out {ρ:Ref->Ref}(hs:∀r q,σ r=some q->σ' (ρ r)=some q):∀{A:AV} {v:Value},Vc w F σ A v->Vc w F σ' (ren ρ A) v:=by
 intro A v h
 induction h with
 |d h=>simp only[ren];exact .d h
 |agg hl h ih =>
  simp only[ren,Zl]
  refine .agg (by simpa using hl) fun j x u hx hu=>?_
  rw[Qhe,Qif]at hx
  obtain⟨y,hy,rfl⟩:=hx
  exact ih j y u hy hu
 |tup hl h ih =>
  simp only[ren,Zl]
  refine .tup (by simpa using hl) fun j x u hx hu=>?_
  rw[Qhe,Qif]at hx
  obtain⟨y,hy,rfl⟩:=hx
  exact ih j y u hy hu
 |ifc h ih=>simp only[ren];exact .ifc ih
 | fn h1 h2 h3 h4 i3 i4 =>
  simp only[ren,Zl]
  refine .fn (by simpa using h1) (by simpa using h2) (fun j x u hx hu=>?_) (fun j x u hx hu=>?_)
  .rw[Qhe,Qif]at hx
   obtain⟨y,hy,rfl⟩:=hx
   exact i3 j y u hy hu
  .rw[Qhe,Qif]at hx
   obtain⟨y,hy,rfl⟩:=hx
   exact i4 j y u hy hu
 |ptr hr h=>simp only[ren];exact .ptr (hs _ _ hr) h
 |osl hr h=>simp only[ren];exact .osl (hs _ _ hr) h
 |mp hr h=>simp only[ren];exact .mp (hs _ _ hr) h
 |gd h h' ih=>simp only[ren];exact .gd (fun hb=>ih hb) h'
 |junk=>simp only[ren];exact .junk
theorem X9.inn {ρ:Ref->Ref}{e sz g n:Nat}{f:Nat->List AV}{pl:Pl}(h:X9 w F σ e sz g n (fun i=>Za ρ (f i)) pl):X9 w F (fun r=>σ (ρ r)) e sz g n f pl:=by
 obtain⟨h1,h2,h3,h4,h5⟩:=h
 refine⟨h1,h2,h3,fun i hi=>by have:(Za ρ (f i)).length=sz:=h4 i hi;rw[Zl]at this;simpa using this,fun b tot hl=>?_⟩
 obtain⟨h6,h6',us,h7,h8,h9⟩:=h5 b tot hl
 refine⟨h6,h6',us,h7,h8,fun i j A hi hA=>?_⟩
 obtain⟨u,hu,hv,h1⟩:=h9 i j (ren ρ A) hi (by show(Za ρ (f i))[j]?=_;rw[Zl,Qhe,hA];rfl)
 exact⟨u,hu,hv.inn rfl,h1⟩
theorem Jx.inn {ρ:Ref->Ref}{B:Blk}{pl:Pl}(h:Jx w F σ (Mh ρ B) pl):Jx w F (fun r=>σ (ρ r)) B pl:=by
 cases B with
 |box e cs =>
  obtain⟨h1,h2,b,h3,us,h4,h5,h6⟩:=h
  rw[Zl]at h2 h5
  refine⟨h1,by simpa using h2,b,h3,us,h4,by simpa using h5,fun j A u hA hu=>?_⟩
  have:=h6 j _ u (by rw[Zl,Qhe,hA];rfl) hu
  exact⟨this.1.inn rfl,this.2⟩
 |vec e sz g n f =>
  obtain⟨h1,h2,h3,h4,h5⟩:=h
  refine⟨h1,h2,h3,fun i hi=>by have:(Za ρ (f i)).length=sz:=h4 i hi;rw[Zl]at this;simpa using this,fun b tot hl=>?_⟩
  obtain⟨h6,h6',us,h7,h8,h9⟩:=h5 b tot hl
  refine⟨h6,h6',us,h7,h8,fun i j A hi hA=>?_⟩
  obtain⟨u,hu,hv,h1⟩:=h9 i j (ren ρ A) hi (by show(Za ρ (f i))[j]?=_;rw[Zl,Qhe,hA];rfl)
  exact⟨u,hu,hv.inn rfl,h1⟩
 |loop b r env =>
  obtain⟨h1,h2,h3,h4⟩:=h
  exact⟨h1,h2,h3,fun j t A hj=>(h4 j t (ren ρ A) (by rw[A7,Qhe,hj];rfl)).inn rfl⟩
 |map sh has val =>
  obtain⟨h1,b,h2,es,clock,ks,h3,h4,h5,h6,h7⟩:=h
  exact⟨h1,b,h2,es,clock,ks,h3,h4,h5,fun i k e hi he=>⟨(h6 i k e hi he).1,(h6 i k e hi he).2.1,(h6 i k e hi he).2.2.1,(h6 i k e hi he).2.2.2.inn rfl⟩,h7⟩
 |room e sz g n c f=>exact⟨X9.inn h.1,h.2⟩
 |ent sh has val key c =>
  obtain⟨h1,b,h2,es,clock,ks,h3,h4,h5,h6,h7⟩:=h
  exact⟨h1,b,h2,es,clock,ks,h3,h4,h5,fun i k e hi he=>⟨(h6 i k e hi he).1,(h6 i k e hi he).2.1,(h6 i k e hi he).2.2.1,fun hk=>((h6 i k e hi he).2.2.2 hk).inn rfl⟩,h7⟩
 |opq=>exact h
 |iter=>exact h
 |look sh key v hk =>
  obtain⟨h1,b,h2,es,clock,ks,h3,h4,h5,h6,h7⟩:=h
  exact⟨h1,b,h2,es,clock,ks,h3,h4,h5,h6,fun i e hi he=>(h7 i e hi he).inn rfl⟩
theorem X9.out {ρ:Ref->Ref}(hs:∀r q,σ r=some q->σ' (ρ r)=some q){e sz g n:Nat}{f:Nat->List AV}{pl:Pl}(h:X9 w F σ e sz g n f pl):X9 w F σ' e sz g n (fun i=>Za ρ (f i)) pl:=by
 obtain⟨h1,h2,h3,h4,h5⟩:=h
 refine⟨h1,h2,h3,fun i hi=>by simpa[Zl] using h4 i hi,fun b tot hl=>?_⟩
 obtain⟨h6,h6',us,h7,h8,h9⟩:=h5 b tot hl
 refine⟨h6,h6',us,h7,h8,fun i j A hi hA=>?_⟩
 replace hA:(Za ρ (f i))[j]?=some A:=hA
 rw[Zl,Qhe,Qif]at hA
 obtain⟨A0,hA0,rfl⟩:=hA
 obtain⟨u,hu,hv,h1⟩:=h9 i j A0 hi hA0
 exact⟨u,hu,hv.out hs,h1⟩
theorem Jx.out {ρ:Ref->Ref}(hs:∀r q,σ r=some q->σ' (ρ r)=some q){B:Blk}{pl:Pl}(h:Jx w F σ B pl):Jx w F σ' (Mh ρ B) pl:=by
 cases B with
 |box e cs =>
  obtain⟨h1,h2,b,h3,us,h4,h5,h6⟩:=h
  refine⟨h1,by simpa[Zl] using h2,b,h3,us,h4,by simpa[Zl] using h5,fun j A u hA hu=>?_⟩
  rw[Zl,Qhe,Qif]at hA
  obtain⟨A0,hA0,rfl⟩:=hA
  exact⟨(h6 j A0 u hA0 hu).1.out hs,(h6 j A0 u hA0 hu).2⟩
 |vec e sz g n f =>
  obtain⟨h1,h2,h3,h4,h5⟩:=h
  refine⟨h1,h2,h3,fun i hi=>by simpa[Zl] using h4 i hi,fun b tot hl=>?_⟩
  obtain⟨h6,h6',us,h7,h8,h9⟩:=h5 b tot hl
  refine⟨h6,h6',us,h7,h8,fun i j A hi hA=>?_⟩
  replace hA:(Za ρ (f i))[j]?=some A:=hA
  rw[Zl,Qhe,Qif]at hA
  obtain⟨A0,hA0,rfl⟩:=hA
  obtain⟨u,hu,hv,h1⟩:=h9 i j A0 hi hA0
  exact⟨u,hu,hv.out hs,h1⟩
 |loop b r env =>
  obtain⟨h1,h2,h3,h4⟩:=h
  refine⟨h1,h2,h3,fun j t A hj=>?_⟩
  rw[A7,Qhe,Qif]at hj
  obtain⟨⟨t0,A0⟩,hj0,e⟩:=hj
  simp only[Qh6]at e
  obtain⟨rfl,rfl⟩:=e
  exact(h4 j t0 A0 hj0).out hs
 |map sh has val =>
  obtain⟨h1,b,h2,es,clock,ks,h3,h4,h5,h6,h7⟩:=h
  exact⟨h1,b,h2,es,clock,ks,h3,h4,h5,fun i k e hi he=>⟨(h6 i k e hi he).1,(h6 i k e hi he).2.1,(h6 i k e hi he).2.2.1,(h6 i k e hi he).2.2.2.out hs⟩,h7⟩
 |room e sz g n c f=>exact⟨X9.out hs h.1,h.2⟩
 |ent sh has val key c =>
  obtain⟨h1,b,h2,es,clock,ks,h3,h4,h5,h6,h7⟩:=h
  exact⟨h1,b,h2,es,clock,ks,h3,h4,h5,fun i k e hi he=>⟨(h6 i k e hi he).1,(h6 i k e hi he).2.1,(h6 i k e hi he).2.2.1,fun hk=>((h6 i k e hi he).2.2.2 hk).out hs⟩,h7⟩
 |opq=>exact h
 |iter=>exact h
 |look sh key v hk =>
  obtain⟨h1,b,h2,es,clock,ks,h3,h4,h5,h6,h7⟩:=h
  exact⟨h1,b,h2,es,clock,ks,h3,h4,h5,h6,fun i e hi he=>(h7 i e hi he).out hs⟩
theorem Lf:∀{rs:List Ref} {j:Nat},j<rs.length->Va (nth rs j) rs=true
 |r::s,0,_=>by simp[nth,Va]
 |r::s,j+1,h=>by simp only[nth,Va,Lf (rs:=s) (j:=j) (by simpa using h),Bool.or_true]
 |[],_,h=>by simp at h
theorem Ed:∀{rs:List Ref} {r:Ref},Va r rs=true->∃j,j<rs.length/\nth rs j=r
 |[],r,h=>by simp[Va]at h
 | s :: t,r,h=>by
  simp only[Va,Bool.or_eq_true,Qia]at h
  rcases h with rfl|h
  .exact⟨0,by simp,rfl⟩
  .obtain⟨j,h1,h2⟩:=Ed h
   exact⟨j+1,by simpa using h1,h2⟩
theorem M9:∀{rs:List Ref},Xo rs=true->∀{i j:Nat},i<rs.length->j<rs.length->nth rs i=nth rs j->i=j
 |[],_,i,_,h,_,_=>by simp at h
 | r :: s,hn,i,j,hi,hj,e=>by
  simp only[Xo,Qh5,Bool.not_eq_true']at hn
  cases i with
  | zero=>cases j with
   |zero=>rfl
   |succ j =>
    have:=Lf (rs:=s) (j:=j) (by simpa using hj)
    simp only[nth]at e
    rw[<-e,hn.1]at this
    cases this
  | succ i=>cases j with
   |zero =>
    have:=Lf (rs:=s) (j:=i) (by simpa using hi)
    simp only[nth]at e
    rw[e,hn.1]at this
    cases this
   |succ j=>exact congrArg (· + 1) (M9 hn.2 (i:=i) (j:=j) (by simpa using hi) (by simpa using hj) (by simpa[nth] using e))
theorem M8:∀{rs:List Ref} {j:Nat},rs.length<=j->nth rs j=.bad
 |[],_,_=>rfl
 |_::_,0,h=>by simp at h
 |_::s,j+1,h=>M8 (rs:=s) (by simpa using h)
theorem Z4.len {ρ:Ref->Ref}:∀{rs:List Ref} {bs:List (Option Blk)},Z4 m ρ rs bs->rs.length=bs.length
 |[],[],_=>rfl
 |_::_,_::_,h=>by simp[Z4.len h.2]
 |[],_::_,h=>h.elim
 |_::_,[],h=>h.elim
theorem Z4.get {ρ:Ref->Ref}:∀{rs:List Ref} {bs:List (Option Blk)},Z4 m ρ rs bs->∀{j:Nat} {b},bs[j]?=some b->m.at (nth rs j)=some (Xr ρ b)
 |[],[],_,j,b,h=>by simp at h
 |r::rs,b::bs,h,j,b',hb=>by
  cases j with
  |zero=>simp at hb;subst hb;exact h.1
  |succ j=>exact Z4.get h.2 (by simpa using hb)
 |[],_::_,h,_,_,_=>h.elim
 |_::_,[],h,_,_,_=>h.elim
theorem A4:∀{rs:List Ref} {bs:List (Option Blk)} {m:Mem} {r:Ref},Va r rs=false->(Jn m rs bs).at r=m.at r
 |[],_,m,r,_=>by simp[Jn]
 |s::t,[],m,r,_=>by simp[Jn]
 |s::t,b::bs,m,r,h=>by
  simp only[Va,Bool.or_eq_false_iff,decide_eq_false_iff_not]at h
  simp only[Jn]
  rw[A4 h.2,Ry]
  exact fun e=>h.1 e.symm
theorem Qdl {r s:Ref}(b:Option Blk):(∃x,m.at s=some x)->∃x,(m.put r b).at s=some x:=fun⟨x,hx⟩=>by
 by_cases e:s=r
 .subst e;exact⟨b,Rz b hx⟩
 .exact⟨x,by rw[Ry b e];exact hx⟩
theorem Q3a:∀{rs:List Ref} {bs:List (Option Blk)} {m:Mem},Xo rs=true->(∀j,j<rs.length->∃x,m.at (nth rs j)=some x)->∀{j:Nat} {b},j<rs.length->bs[j]?=some b->(Jn m rs bs).at (nth rs j)=some b
 |[],_,m,_,_,j,b,h,_=>by simp at h
 |s::t,[],m,_,_,j,b,_,h=>by simp at h
 | s :: t,c :: bs,m,hn,hd,j,b,hj,hb=>by
  simp only[Xo,Qh5,Bool.not_eq_true']at hn
  simp only[Jn]
  cases j with
  |zero =>
   simp only[nth]
   simp only[List.getElem?_cons_zero,Qgz]at hb
   subst hb
   rw[A4 hn.1]
   obtain⟨x,hx⟩:=hd 0 (by simp)
   exact Rz _ hx
  |succ j =>
   simp only[nth]
   exact Q3a hn.2 (fun i hi=>Qdl c (hd (i+1) (by simpa using hi))) (by simpa using hj) (by simpa using hb)
theorem Qdm (r:Ref)(b:Option Blk):(m.put r b).loc.length=m.loc.length/\(m.put r b).own.length=m.own.length:=by
 cases r<;>simp[Mem.put,Rx]
theorem Q3b:∀(rs:List Ref) (bs:List (Option Blk)) (m:Mem),(Jn m rs bs).loc.length=m.loc.length/\(Jn m rs bs).own.length=m.own.length
 |[],_,m=>by simp[Jn]
 |s::t,[],m=>by simp[Jn]
 |s::t,c::bs,m=>by
  simp only[Jn]
  have h1:=Q3b t bs (m.put s c)
  have h2:=Qdm (m:=m) s c
  exact⟨h1.1.trans h2.1,h1.2.trans h2.2⟩
theorem Q60 (l k:List (Option Blk)):app l k=l++k:=by
 induction l with
 |nil=>rfl
 |cons b r ih=>simp[app,ih]
theorem It {rs:List Ref}{m0:Mem}(hn:Xo rs=true)(hd:∀j,j<rs.length->∃x,m.at (nth rs j)=some x)(hl:m0.own.length=rs.length) :
  (∀r,Va r rs=false->(∀j,r≠.loc (m.loc.length+j))->(back m rs m0).at r=m.at r) /\
  (∀r b,m0.at r=some b->(back m rs m0).at (out m.loc.length rs r)=some (Xr (out m.loc.length rs) b)) /\
  (∀j,m0.loc[j]?=none->(back m rs m0).at (.loc (m.loc.length+j))=none):=by
 have hlen:=Q3b rs (Zh (out (Qp m.loc) rs) m0.own) m
 have hb:back m rs m0=⟨(Jn m rs (Zh (out m.loc.length rs) m0.own)).loc++Zh (out m.loc.length rs) m0.loc,(Jn m rs (Zh (out m.loc.length rs) m0.own)).own⟩:=by
  simp only[back,Q60,V1]
 rw[V1]at hlen
 generalize hM:Jn m rs (Zh (out m.loc.length rs) m0.own)=M at hb hlen
 have hin:∀r,(∀j,r≠.loc (m.loc.length+j))->(back m rs m0).at r=M.at r:=fun r hr=>by
  rw[hb]
  cases r with
  | loc j =>
   have:j<m.loc.length:=by
    rcases Qi6 j m.loc.length with h|h
    .exact h
    .exact absurd (by congr 1;omega) (hr (j-m.loc.length))
   simp only[Mem.at]
   rw[Qhj Om]
  |_=>rfl
 have hnl:∀j,j<rs.length->∀i,nth rs j≠.loc (m.loc.length+i):=fun j hj i e=>by
  obtain⟨x,hx⟩:=hd j hj
  rw[e]at hx
  simp[Mem.at]at hx
 refine⟨fun r hr hl=>?_,fun r b hr=>?_,fun j hj=>?_⟩
 .rw[hin r hl,<-hM,A4 hr]
 .cases r with
  |loc j =>
   simp only[out,hb,Mem.at]
   rw[Qhu Om,hlen.1,Nat.add_sub_cancel_left,H6,Qhe]
   simp only[Mem.at]at hr
   rw[hr];rfl
  |arg j =>
   simp only[Mem.at]at hr
   have hj:j<rs.length:=by rw[<-hl];exact(Qh7.1 hr).1
   simp only[out]
   rw[hin _ (hnl j hj),<-hM]
   exact Q3a hn hd hj (by rw[H6,Qhe,hr];rfl)
  |bad=>cases hr
 .rw[hb]
  simp only[Mem.at]
  rw[Qhu Om,hlen.1,Nat.add_sub_cancel_left,H6,Qhe,hj]
  rfl
theorem Qz.frame {f:FuncId}{as:List AV}{own:List (Option Blk)}{K0 K:AV->Mem->Prop}(h:Qz P f as ⟨[],own⟩ K0)(rs:List Ref)
  (hn:Xo rs=true) (hp:Z4 m (inn rs) rs own)
  (hk:∀A m0,K0 A m0->Qp m0.own=Qp own/\K (ren (out (Qp m.loc) rs) A) (back m rs m0)):Qz P f (Za (inn rs) as) m K:=by
 refine⟨h.can,fun σ F w Q5 hm ha=>?_⟩
 have hlen:=hp.len
 let σ0:Pls:=fun r=>σ (inn rs r)
 have hbad:σ .bad=none:=(hm.dom .bad).2 rfl
 have h0loc:∀j,σ0 (.loc j)=none:=fun j=>hbad
 have h0:∀r q,σ0 r=some q->∃j,r=.arg j/\j<rs.length/\σ (nth rs j)=some q:=fun r q hq=>by
  cases r with
  |loc j=>rw[h0loc]at hq;cases hq
  |bad=>rw[show σ0 .bad=none from hbad]at hq;cases hq
  | arg j =>
   refine⟨j,rfl,?_,hq⟩
   rcases Qi6 j rs.length with h'|h'
   .exact h'
   .have:σ0 (.arg j)=σ .bad:=by simp only[σ0,inn,M8 h']
    rw[this,hbad]at hq;cases hq
 have hownat:∀j,j<rs.length->∃b,own[j]?=some b/\m.at (nth rs j)=some (Xr (inn rs) b):=fun j hj=>by
  have:own[j]?=some own[j]:=Qgy Om
  exact⟨_,this,hp.get this⟩
 have hm0:Q3 ⟨[],own⟩ σ0 F w:=by
  refine⟨fun r=>?_,fun r q hq=>?_,fun r r' pl pl' b t t' e1 e2 e3 e4=>?_,fun r pl b t e1 e2=>?_,hm.fl,hm.gl⟩
  .cases r with
   |loc j=>simp[h0loc,Mem.at]
   |bad=>simp[show σ0 .bad=none from hbad,Mem.at]
   | arg j =>
    simp only[Mem.at]
    rcases Qi6 j rs.length with h'|h'
    .obtain⟨b,e1,e2⟩:=hownat j h'
     have hne:σ0 (.arg j)≠none:=fun e=>by
      have:=(hm.dom (nth rs j)).1 e
      rw[e2]at this;cases this
     rw[e1]
     constructor
     .intro e;exact absurd e hne
     .intro e;cases e
    .have e1:σ0 (.arg j)=none:=by simp only[σ0,inn,M8 h',hbad]
     rw[e1,Qht Om]
     exact⟨fun _=>rfl,fun _=>rfl⟩
  .obtain⟨j,rfl,hj,hq'⟩:=h0 r q hq
   obtain⟨b,e1,e2⟩:=hownat j hj
   obtain⟨l1,l2⟩:=hm.lv _ _ hq'
   refine⟨fun e=>?_,fun pl e=>?_⟩
   .have:=l1 e
    rw[e2]at this
    cases b with
    |none=>simpa[Mem.at] using e1
    |some B=>simp[Xr]at this
   .obtain⟨B,g1,g2⟩:=l2 pl e
    rw[e2]at g1
    cases b with
    |none=>simp[Xr]at g1
    |some B0 =>
     simp only[Xr,Qgz]at g1
     subst g1
     exact⟨B0,e1,g2.inn⟩
  .obtain⟨i,rfl,hi,e1'⟩:=h0 r _ e1
   obtain⟨j,rfl,hj,e2'⟩:=h0 r' _ e2
   have:=hm.inj _ _ _ _ _ _ _ e1' e2' e3 e4
   rw[M9 hn hi hj this]
  .obtain⟨j,rfl,hj,e1'⟩:=h0 r _ e1
   exact hm.nf _ _ _ _ e1' e2
 have ha0:Jt w F σ0 as Q5:=by
  obtain⟨a1,a2⟩:=ha
  rw[Zl]at a1
  exact⟨by simpa using a1,fun j A u hA hu=>(a2 j _ u (by rw[Zl,Qhe,hA];rfl) hu).inn rfl⟩
 refine(h.run σ0 F w Q5 hm0 ha0).mono ?_
 rintro e w' ⟨v,A,m1,σ1,F',he,hK,hv,hm1,hs,hle⟩
 obtain⟨hlo,hk⟩:=hk A m1 hK
 rw[V1,V1,<-hlen]at hlo
 rw[V1]at hk
 have hd:∀j,j<rs.length->∃x,m.at (nth rs j)=some x:=fun j hj=>by
  obtain⟨b,_,e2⟩:=hownat j hj
  exact⟨_,e2⟩
 obtain⟨b1,b2,b3⟩:=It (m:=m) (rs:=rs) (m0:=m1) hn hd hlo
 let ρ:=out m.loc.length rs
 -- the names that the callee's result speaks of,and those that it does not
 have hcase:∀r,(∃s,ρ s=r/\m1.at s≠none)\/(Va r rs=false/\(∀j,r≠.loc (m.loc.length+j)))\/(∃j,r=.loc (m.loc.length+j)/\m1.loc[j]?=none):=fun r=>by
  cases hr:Va r rs with
  |true =>
   obtain⟨j,hj,rfl⟩:=Ed hr
   refine .inl ⟨.arg j,rfl,?_⟩
   simp only[Mem.at]
   rw[Qgy Om]
   simp
  | false =>
   by_cases hl:∃j,r=.loc (m.loc.length+j)
   .obtain⟨j,rfl⟩:=hl
    cases hj:m1.loc[j]? with
    |none=>exact .inr (.inr ⟨j,rfl,hj⟩)
    |some b=>exact .inl ⟨.loc j,rfl,by simp[Mem.at,hj]⟩
   .exact .inr (.inl ⟨rfl,fun j e=>hl ⟨j,e⟩⟩)
 have hρinj:∀s s',m1.at s≠none->m1.at s'≠none->ρ s=ρ s'->s=s':=fun s s' h1 h2 e=>by
  have key:∀j,m1.at (.arg j)≠none->j<rs.length:=fun j h=>by
   rw[<-hlo]
   rcases Qi6 j m1.own.length with h'|h'
   .exact h'
   .exact absurd (by simp only[Mem.at];exact Qht h') h
  have hnl:∀j,j<rs.length->∀i,nth rs j≠.loc (m.loc.length+i):=fun j hj i e=>by
   obtain⟨x,hx⟩:=hd j hj
   rw[e]at hx
   simp[Mem.at]at hx
  cases s with
  |bad=>exact absurd rfl h1
  |loc i=>cases s' with
   |bad=>exact absurd rfl h2
   |loc j=>simp[ρ,out]at e;rw[e]
   |arg j=>exact absurd e.symm (hnl j (key j h2) i)
  |arg i=>cases s' with
   |bad=>exact absurd rfl h2
   |loc j=>exact absurd e (hnl i (key i h1) j)
   |arg j=>rw[M9 hn (key i h1) (key j h2) e]
 classical
 let σ':Pls:=fun r=>if h:∃s,ρ s=r/\m1.at s≠none then σ1 (Classical.choose h) else σ r
 have hin:∀s,m1.at s≠none->σ' (ρ s)=σ1 s:=fun s hs'=>by
  have hex:∃s',ρ s'=ρ s/\m1.at s'≠none:=⟨s,rfl,hs'⟩
  simp only[σ',hex,dif_pos]
  obtain⟨g1,g2⟩:=Classical.choose_spec hex
  rw[hρinj _ _ g2 hs' g1]
 have hlive:∀s q,σ1 s=some q->m1.at s≠none:=fun s q h e=>by
  rw[(hm1.dom s).2 e]at h;cases h
 have hin':∀s q,σ1 s=some q->σ' (ρ s)=some q:=fun s q hq=>by rw[hin s (hlive s q hq),hq]
 have hold:∀r,¬ (∃s,ρ s=r/\m1.at s≠none)->σ' r=σ r:=fun r h=>by simp only[σ',h,dif_neg,not_false_eq_true]
 have hown0:∀b,Qm σ0 b->Qm σ b:=fun b ⟨r,pl,t,e1,e2⟩=>⟨_,pl,t,e1,e2⟩
 have hown1:∀b,Qm σ1 b->Qm σ0 b\/w.heap.size<=b:=hs.own
 -- an old name that the callee was not handed
 have holdn:∀r q,¬ (∃s,ρ s=r/\m1.at s≠none)->σ r=some q->Va r rs=false/\(∀j,r≠.loc (m.loc.length+j)):=fun r q hne hq=>by
  rcases hcase r with h1|h1|⟨j,rfl,hj⟩
  .exact absurd h1 hne
  .exact h1
  .have:=(hm.dom (.loc (m.loc.length+j))).2 (by simp[Mem.at])
   rw[this]at hq;cases hq
 have hnown:∀r pl b t,Va r rs=false->σ r=some (some pl)->pl.loc=some (b,t)->¬ Qm σ0 b:=fun r pl b t hr e1 e2 ⟨s,pl',t',g1,g2⟩=>by
  obtain⟨j,rfl,hj,g1'⟩:=h0 s _ g1
  have:=hm.inj _ _ _ _ _ _ _ e1 g1' e2 g2
  rw[this,Lf hj]at hr
  cases hr
 have hsle:SLe σ σ':=fun r q hq=>by
  by_cases hex:∃s,ρ s=r/\m1.at s≠none
  .obtain⟨s,rfl,hs'⟩:=hex
   rw[hin s hs']
   cases s with
   |bad=>exact absurd rfl hs'
   |loc j =>
    have:=(hm.dom (.loc (m.loc.length+j))).2 (by simp[Mem.at])
    rw[show ρ (.loc j)=.loc (m.loc.length+j) from rfl,this]at hq
    cases hq
   |arg j=>exact hle (.arg j) q hq
  .rw[hold r hex]
   exact⟨q,hq,QLe.refl q⟩
 have hfkeep:∀b,F b->w'.heap[b]?=w.heap[b]?:=fun b hb=>hs.keep b (hm.fl b hb) fun⟨r,pl,t,e1,e2⟩=>(hm.nf _ pl b t e1 e2).1 hb
 have hm':Q3 (back m rs m1) σ' F' w':=by
  refine⟨fun r=>?_,fun r q hq=>?_,fun r r' pl pl' b t t' e1 e2 e3 e4=>?_,fun r pl b t e1 e2=>?_,hm1.fl,hm1.gl⟩
  .rcases hcase r with ⟨s,rfl,hs'⟩|h1|⟨j,rfl,hj⟩
   .rw[hin s hs',hm1.dom s]
    cases hb:m1.at s with
    |none=>exact absurd hb hs'
    |some b=>rw[b2 s b hb];simp
   .rw [b1 r h1.1 h1.2,← hm.dom r]
    have:¬ (∃s,ρ s=r/\m1.at s≠none):=fun⟨s,e,hs'⟩=>by
     subst e
     cases s with
     |bad=>exact absurd rfl hs'
     |loc j=>exact h1.2 j rfl
     | arg j =>
      have:j<rs.length:=by
       rw[<-hlo]
       rcases Qi6 j m1.own.length with h'|h'
       .exact h'
       .exact absurd (by simp only[Mem.at];exact Qht h') hs'
      have h2:=h1.1
      rw[show ρ (.arg j)=nth rs j from rfl,Lf this]at h2
      cases h2
    rw[hold r this]
   .rw [b3 j hj]
    have:¬ (∃s,ρ s=.loc (m.loc.length+j)/\m1.at s≠none):=fun⟨s,e,hs'⟩=>by
     cases s with
     |bad=>exact absurd rfl hs'
     |loc i =>
      simp[ρ,out]at e
      subst e
      exact hs' hj
     | arg i =>
      have hi:i<rs.length:=by
       rw[<-hlo]
       rcases Qi6 i m1.own.length with h'|h'
       .exact h'
       .exact absurd (by simp only[Mem.at];exact Qht h') hs'
      obtain⟨x,hx⟩:=hd i hi
      rw[show nth rs i=.loc (m.loc.length+j) from e]at hx
      simp[Mem.at]at hx
    rw[hold _ this,hm.dom]
    simp[Mem.at]
  .by_cases hex:∃s,ρ s=r/\m1.at s≠none
   .obtain⟨s,rfl,hs'⟩:=hex
    rw[hin s hs']at hq
    obtain⟨l1,l2⟩:=hm1.lv s q hq
    refine⟨fun e=>by rw[b2 s none (l1 e)];rfl,fun pl e=>?_⟩
    obtain⟨B,g1,g2⟩:=l2 pl e
    exact⟨Mh ρ B,by rw[b2 s _ g1];rfl,g2.out hin'⟩
   .rw[hold r hex]at hq
    obtain⟨n1,n2⟩:=holdn r q hex hq
    obtain⟨l1,l2⟩:=hm.lv r q hq
    rw[b1 r n1 n2]
    refine⟨l1,fun pl e=>?_⟩
    obtain⟨B,g1,g2⟩:=l2 pl e
    refine⟨B,g1,g2.mono hs.fro hfkeep hsle fun b t hl=>?_⟩
    subst e
    exact hs.keep b (hm.nf r pl b t hq hl).2 (hnown r pl b t n1 hq hl)
  .have mixed:∀s r' pl pl' b t t',m1.at s≠none->¬ (∃s,ρ s=r'/\m1.at s≠none)->σ1 s=some (some pl)->σ r'=some (some pl')->pl.loc=some (b,t)->pl'.loc=some (b,t')->False:=by
    intro s r' pl pl' b t t' hs' hne e1 e2 e3 e4
    obtain⟨n1,n2⟩:=holdn r' _ hne e2
    rcases hown1 b ⟨s,pl,t,e1,e3⟩ with h1|h1
    .exact hnown r' pl' b t' n1 e2 e4 h1
    .have:=(hm.nf r' pl' b t' e2 e4).2;omega
   by_cases hex:∃s,ρ s=r/\m1.at s≠none
   .obtain⟨s,rfl,hs'⟩:=hex
    rw[hin s hs']at e1
    by_cases hex':∃s,ρ s=r'/\m1.at s≠none
    .obtain⟨s',rfl,hs2⟩:=hex'
     rw[hin s' hs2]at e2
     rw[hm1.inj _ _ _ _ _ _ _ e1 e2 e3 e4]
    .rw[hold r' hex']at e2
     exact(mixed s r' pl pl' b t t' hs' hex' e1 e2 e3 e4).elim
   .rw[hold r hex]at e1
    by_cases hex':∃s,ρ s=r'/\m1.at s≠none
    .obtain⟨s',rfl,hs2⟩:=hex'
     rw[hin s' hs2]at e2
     exact(mixed s' r pl' pl b t' t hs2 hex e2 e1 e4 e3).elim
    .rw[hold r' hex']at e2
     exact hm.inj _ _ _ _ _ _ _ e1 e2 e3 e4
  .by_cases hex:∃s,ρ s=r/\m1.at s≠none
   .obtain⟨s,rfl,hs'⟩:=hex
    rw[hin s hs']at e1
    exact hm1.nf s pl b t e1 e2
   .rw[hold r hex]at e1
    obtain⟨n1,n2⟩:=holdn r _ hex e1
    obtain⟨g1,g2⟩:=hm.nf r pl b t e1 e2
    refine⟨fun hb=>?_,Qic g2 hs.size⟩
    rcases hs.fro' b hb with h1|h1|h1
    .exact g1 h1
    .exact hnown r pl b t n1 e1 e2 h1
    .omega
 refine⟨v,ren ρ A,back m rs m1,σ',F',he,hk,hv.out hin',hm',⟨hs.os,hs.tape,hs.output,hs.drawn,hs.size,fun b hb hn'=>hs.keep b hb fun h=>hn' (hown0 b h),hs.fro,fun b hb=>?_,fun b ⟨r,pl,t,e1,e2⟩=>?_⟩,hsle⟩
 .rcases hs.fro' b hb with h1|h1|h1
  .exact .inl h1
  .exact .inr (.inl (hown0 b h1))
  .exact .inr (.inr h1)
 .by_cases hex:∃s,ρ s=r/\m1.at s≠none
  .obtain⟨s,rfl,hs'⟩:=hex
   rw[hin s hs']at e1
   rcases hown1 b ⟨s,pl,t,e1,e2⟩ with h1|h1
   .exact .inl (hown0 b h1)
   .exact .inr h1
  .rw[hold r hex]at e1
   exact .inl ⟨r,pl,t,e1,e2⟩
end
end Go.Ab
namespace Go.Ab
set_option linter.unusedSimpArgs false
set_option linter.unusedVariables false
def Gm:Nat->List AV->Env
 |_,[]=>[]
 |k,x::r=>(k,x)::Gm (k+1) r
def Kx (T:Tab)(m:Mem)(env:Env):List ResultVar->Option (List AV × List Prop)
 |[]=>some ([],[])
 | .tmp t :: rs=>match strip (get env t) with
  |(A,p)=>match Kx T m env rs with
   |some (l,q)=>some (A::l,cat p q)
   |none=>none
 | .cell t ty :: rs=>match Rj T m ty (get env t) with
  |some (A,p)=>match Kx T m env rs with
   |some (l,q)=>some (A::l,cat p q)
   |none=>none
  |none=>none
def W9:List AV->AV
 |[x]=>x
 |xs=>.tup xs
def R0 {S:Type}(T:Tab)(rs:List ResultVar)(enc:S->List AV × Mem)(J:S->Prop)(env:Env)(m:Mem):Prop:=match Kx T m env rs with
 |some (l,p)=>obs p (∃s,J s/\Le (Gm 0 l) m (Gm 0 (enc s).1) (enc s).2/\lenL2 l=lenL2 (enc s).1)
 |none=>False
where lenL2:List AV->Nat
 |[]=>0
 |_::r=>lenL2 r+1
def Q0u {S:Type}(T:Tab)(rs:List ResultVar)(enc:S->List AV × Mem)(J:S->Prop):Ja:=fun e env m=>match e with
 | .ret=>R0 T rs enc J env m
 | .normal=>R0 T rs enc J env m
 |_=>False
theorem Q1n (l:List AV):R0.lenL2 l=l.length:=by
 induction l with
 |nil=>rfl
 |cons x r ih=>simp[R0.lenL2,ih]
def Ret {S:Type}(enc:S->List AV × Mem)(J:S->Prop):AV->Mem->Prop:=fun A m=>∃s,J s/\A=W9 (enc s).1/\m=(enc s).2
section
variable {P:Program}{T:Tab}{w:World}{F:Nat->Prop}{σ:Pls}{m:Mem}
theorem Tf:∀(ys:List AV) (k t:Nat),get (Gm k ys) t=(if k<=t then match ys[t-k]? with|some x=>x|none=>.junk else .junk)
 |[],k,t=>by simp[Gm,get]
 | y :: r,k,t=>by
  simp only[Gm,get]
  cases hk:Nat.beq k t with
  |true =>
   have:=Qh1 hk
   subst this
   simp
  | false =>
   have hne:=Qhv hk
   simp only[cond_false]
   rw[Tf r (k+1) t]
   by_cases hle:k+1<=t
   .rw[if_pos hle,if_pos Om]
    have:t-k=(t-(k+1))+1:=by omega
    rw[this,List.getElem?_cons_succ]
   .rw[if_neg hle,if_neg Om]
theorem Q01 {as:List AV}{Q5:List Value}(h:Jt w F σ as Q5)(n:Nat):Ql (Gm 0 as) w F σ (Q5.toArray++Array.replicate n undef):=by
 intro t
 rw[Tf,if_pos (Qh3 _),Nat.sub_zero]
 split
 .rename_i x hx
  have ht:t<Q5.length:=by rw[h.1];exact(Qh7.1 hx).1
  have hu:Q5[t]?=some Q5[t]:=Qgy ht
  have:(Q5.toArray++Array.replicate n undef).getD t undef=Q5[t]:=by
   rw[Qhk,Array.getElem?_append_left (by simpa using ht)]
   simp[hu]
  rw[this]
  exact h.2 t x _ hx hu
 .exact .junk
theorem S8 (hT:Qb P T)(hm:Q3 m σ F w){env:Env}{tmps:Array Value}(he:Ql env w F σ tmps):∀(rs:List ResultVar) (l:List AV) (p:List Prop),Kx T m env rs=some (l,p)->(∀q∈p,q) ->
  ∃vs:List Value,(rs.mapM (Wa tmps)).run P w=.ok vs w/\Jt w F σ l vs
 |[],l,p,h,_=>by
  simp only[Kx,Qgz,Qh6]at h
  obtain⟨rfl,rfl⟩:=h
  exact⟨[],by simp,rfl,fun j x u h=>by simp at h⟩
 | .tmp t::rs,l,p,h,hp=>by
  unfold Kx at h
  split at h
  rename_i A p1 e1
  split at h<;>try (cases h;done)
  rename_i l1 q1 e2
  simp only[Qgz,Qh6]at h
  obtain⟨rfl,rfl⟩:=h
  obtain⟨hp1,hp2⟩:=Ji hp
  obtain⟨vs,g1,g2,g3⟩:=S8 hT hm he rs l1 q1 e2 hp2
  have hv:=X7 (he t) (by rw[e1];exact hp1)
  rw[e1]at hv
  refine⟨tmps.getD t undef::vs,by simp[List.mapM_cons,Wa,g1],by simp[g2],fun j y u hy hu=>?_⟩
  cases j with
  |zero=>simp at hy hu;subst hy;subst hu;simpa using hv
  |succ j=>exact g3 j y u (by simpa using hy) (by simpa using hu)
 | .cell t ty :: rs,l,p,h,hp=>by
  unfold Kx at h
  split at h<;>try (cases h;done)
  rename_i A p1 hl
  split at h<;>try (cases h;done)
  rename_i l1 q1 e2
  simp only[Qgz,Qh6]at h
  obtain⟨rfl,rfl⟩:=h
  obtain⟨hp1,hp2⟩:=Ji hp
  obtain⟨vs,g1,g2,g3⟩:=S8 hT hm he rs l1 q1 e2 hp2
  obtain⟨u0,hu0,hrun⟩:=D2 hT hm (he t) hl hp1
  have hr:=hrun w (V6.refl F σ w)
  have hptr:∃a,tmps.getD t undef=.pointer (some a):=by
   unfold Instr.loadAt Instr.sureAddr at hr
   generalize tmps.getD t undef=X at hr
   split at hr
   .exact⟨_,rfl⟩
   .simp at hr
  obtain⟨ad,had⟩:=hptr
  rw[had]at hr
  have hr':(loadVar ty ad).run P w=.ok u0 w:=by simpa[Instr.loadAt,Instr.sureAddr] using hr
  refine⟨u0::vs,by simp[List.mapM_cons,Wa,g1,had,asAddr,hr'],by simp[g2],fun j y u hy hu=>?_⟩
  cases j with
  |zero=>simp at hy hu;subst hy;subst hu;exact hu0
  |succ j=>exact g3 j y u (by simpa using hy) (by simpa using hu)
theorem Zv (hT:Qb P T){f:FuncId}{fn:Func}{c:Code}{N:Nat}{rs:List ResultVar}{as:List AV}{own:List (Option Blk)}{S:Type}(enc:S->List AV × Mem)(J:S->Prop)(hf:P.funcs[f]?=some fn)(hb:fn.body=some c)(hN:fn.ntmps=N)(hrs:fn.results=rs.toArray)
  (hname:(fn.name == "runtime.NumGoroutine")=false) (hargs:Nat.ble as.length N=true) (h:Ev (vc P T N c (Gm 0 as) ⟨[],own⟩ (Q0u T rs enc J))):Qz P f as ⟨[],own⟩ (Ret enc J):=by
 refine⟨⟨fn,hf,hname,by simp[hb]⟩,fun σ F w Q5 hm ha=>?_⟩
 refine Y7.1 (callsIn_of_wp_marks (F:=Fen none) (n:=0) hf hb trivial ?_ rfl)
 have hle:=Qhf hargs
 have hl:=ha.1
 have hwp:=(Z3 hT c (Gm 0 as) ⟨[],own⟩ (Q0u T rs enc J) h.o).run none ⟨w.heap.size,[]⟩ {tmps:=Q5.toArray++Array.replicate (fn.ntmps-Q5.toArray.size) undef,defers:=[]} w σ F (by simp[hN];omega) Ctx.nil (Q01 ha _) hm
 refine wpIn_mono hwp ?_
 rintro e a w1 ⟨env',m',σ',F',q1,q2,q3,q4,q5,q6,q7⟩
 have hsle:∀σ2:Pls,Zj σ' σ2->SLe σ σ2:=fun σ2 h r q hq=>by
  cases r with
  |arg j=>exact(q7.trans h) j q hq
  |loc j=>rw[(hm.dom (.loc j)).2 (by simp[Mem.at])]at hq;cases hq
  |bad=>rw[(hm.dom .bad).2 rfl]at hq;cases hq
 have hend:R0 T rs enc J env' m'->LeavesInM (Fen none) 0 P fn a.tmps (fun e w'=>∃v A m' σ' F',e=.returned v/\Ret enc J A m'/\Vc w' F' σ' A v/\Q3 m' σ' F' w'/\Step σ F w σ' F' w'/\SLe σ σ') a.defers .returning w1:=by
  intro hfin
  obtain⟨Ds,hDs,hnd,hD⟩:=q3.marks
  rw[hDs,Qih]
  refine Dq Ds w1 hnd (fun D h=>(hD D h).2.1) fun w' k1 k2 k3 kd k4 k5=>?_
  have kF:∀b,F' b->w'.heap[b]?=w1.heap[b]?:=fun b hb=>k5 b fun hm=>(hD b hm).2.2.2 hb
  have kO:∀b,Qm σ' b->w'.heap[b]?=w1.heap[b]?:=fun b hb=>k5 b fun hm=>(hD b hm).2.2.1 hb
  replace q4:Ql env' w' F' σ' a.tmps:=q4.mono (fun _ h=>h) kF (SLe.refl σ')
  replace q5:Q3 m' σ' F' w':=q5.world Om fun b hb=>by
   rcases hb with hb|hb
   .exact kF b hb
   .exact kO b hb
  replace q6:Step σ F w σ' F' w':=⟨k1.trans q6.os,k2.trans q6.tape,k3.trans q6.output,Qhx q6.drawn (Qhz kd.symm),by rw[k4];exact q6.size,fun b hb ho=>(k5 b fun hm=>by have:w.heap.size<=b:=(hD b hm).1;omega).trans (q6.keep b hb ho),q6.fro,q6.fro',q6.own⟩
  unfold R0 at hfin
  split at hfin<;>try exact hfin.elim
  rename_i l p hl
  obtain⟨hp,s,hJ,hLe,hlen⟩:=Zw hfin
  obtain⟨vs,g1,g2⟩:=S8 hT q5 q4 rs l p hl hp
  have hrun:(results fn a.tmps).run P w'=.ok (if h:vs.toArray.size=1 then vs.toArray[0] else .tuple vs.toArray) w':=by
   have e:results fn a.tmps=(do let vs <-fn.results.mapM (Wa a.tmps);pure (if h:vs.size=1 then vs[0] else .tuple vs)):=by
    unfold results
    congr 1
   rw[e,hrs,Array.mapM_eq_mapM_toList]
   simp[g1]
  have hE:=Q01 g2 0
  simp only[Array.replicate_zero,Array.append_empty]at hE
  obtain⟨σ2,r1,r2,r3,r4⟩:=Dp hLe hE q5
  have hlen':vs.length=(enc s).1.length:=by rw[g2.1,<-Q1n,hlen,Q1n]
  have hat:∀(j:Nat) A u,(enc s).1[j]?=some A->vs[j]?=some u->Vc w' F' σ2 A u:=fun j A u hA hu=>by
   have:=r1 j
   rw[Tf,if_pos (Qh3 _),Nat.sub_zero,hA]at this
   simpa[hu] using this
  refine⟨_,hrun,_,W9 (enc s).1,(enc s).2,σ2,F',rfl,⟨s,hJ,rfl,rfl⟩,?_,r2,q6.trans r3,hsle σ2 r4⟩
  have tup:Vc w' F' σ2 (.tup (enc s).1) (.tuple vs.toArray):=.tup hlen' hat
  generalize (enc s).1=L at hlen' hat tup
  match L,vs,hlen',hat,tup with
  |[],[],_,_,tup=>simpa[W9] using tup
  |[x],[v],_,hat,_=>simpa[W9] using hat 0 x v rfl rfl
  |x::y::xs,a::b::vs,_,_,tup=>simpa[W9] using tup
  |[],_::_,h,_,_=>simp at h
  |_::_,[],h,_,_=>simp at h
  |[_],_::_::_,h,_,_=>simp at h
  |_::_::_,[_],h,_,_=>simp at h
 cases e with
 |normal=>exact hend q1
 |ret=>exact hend q1
 |_=>exact q1.elim
theorem Qz.at {f:FuncId}{as:List AV}{own:List (Option Blk)}{S:Type}{enc:S->List AV × Mem}{J:S->Prop}{K:AV->Mem->Prop}(h:Qz P f as ⟨[],own⟩ (Ret enc J))(rs:List Ref)
  (hn:Xo rs=true) (hp:Z4 m (inn rs) rs own)
  (hk:∀s,J s->Qp (enc s).2.own=Qp own/\Ev (frc (ren (out (Qp m.loc) rs) (W9 (enc s).1)) fun A=>Gt (back m rs (enc s).2) fun m=>K A m)):Qz P f (Za (inn rs) as) m K :=
 h.frame rs hn hp fun A m0 ⟨s,hJ,e1,e2⟩=>by
  subst e1;subst e2
  have:=hk s hJ
  rw[Ya,Ns]at this
  exact⟨this.1,this.2.o⟩
end
section
variable {P:Program}{T:Tab}{w:World}{F:Nat->Prop}{σ:Pls}{m:Mem}
theorem Awp.of_vc (hT:Qb P T){N:Nat}{c:Code}{env:Env}{m:Mem}{Q:Ja}(h:Ev (vc P T N c env m Q)):Awp P N c env m Q:=Z3 hT c env m Q h.o
end
end Go.Ab
