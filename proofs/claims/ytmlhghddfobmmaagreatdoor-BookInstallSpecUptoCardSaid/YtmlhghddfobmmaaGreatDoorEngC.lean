import Derived.Test.YtmlhghddfobmmaaGreatDoorEngKY
namespace Go.Ab
set_option linter.unusedSimpArgs false
set_option linter.unusedVariables false
inductive TK:Type where
  |int (k:IntKind)|bool|str
  |ptr (e:TypeId)|sl (e:TypeId)|arr (n:Nat) (e:TypeId)|st (fs:List (Nat × TypeId))
  |map (k e:TypeId)|fn|ifc|other
structure TI where
  k:TK
  size:Nat
  bytes:Nat
  zero:List D
  eq:Bool:=false
  ks:List IntKind:=[]
abbrev Tab:=List (Nat × TI)
def Tab.at:Tab->Nat->Option TI
  |[],_=>none
  |(k,v)::r,t=>bif Nat.beq k t then some v else Tab.at r t
def TK.agg:TK->Bool
  | .arr _ _ | .st _=>true
  |_=>false
def Ai:Value->D->Bool
  | .int k n,.int k' n'=>decide (k=k')&&decide (n=n')
  | .bool b,.bool b'=>decide (b=b')
  | .string s,.str s'=>decide (s=s')
  | .pointer none,.nilp=>true
  | .nilIface,.nili=>true
  | .nilFunc,.nilf=>true
  | .map none,.nilm=>true
  | .slice none 0 0,.nils=>true
  |_,_=>false
def H9:List Value->List D->Bool
  |[],[]=>true
  |v::r,x::s=>Ai v x&&H9 r s
  |_,_=>false
theorem Qfm {w:World}{F:Nat->Prop}{v:Value}{x:D}(h:Ai v x=true):Rd w F x v/\v.oneCell'=true:=by
  unfold Ai at h
  split at h<;>simp at h
  · obtain⟨rfl,rfl⟩:=h;exact⟨.int,rfl⟩
  · subst h;exact⟨.bool,rfl⟩
  · subst h;exact⟨.str,rfl⟩
  · exact⟨.nilp,rfl⟩
  · exact⟨.nili,rfl⟩
  · exact⟨.nilf,rfl⟩
  · exact⟨.nilm,rfl⟩
  · exact⟨.nils,rfl⟩
theorem Ls {w:World}{F:Nat->Prop}:∀{vs:List Value} {xs:List D},H9 vs xs=true ->
    vs.length=xs.length/\∀(j:Nat) x u,xs[j]?=some x->vs[j]?=some u->Rd w F x u/\u.oneCell'=true
  |[],[],_=>⟨rfl,fun j x u h=>by simp at h⟩
  | v :: r,x :: s,h=>by
    simp only[H9,Qh5]at h
    obtain⟨h1,h2⟩:=Ls h.2
    refine⟨by simp[h1],fun j y u hy hu=>?_⟩
    cases j with
    |zero=>simp at hy hu;subst hy;subst hu;exact Qfm h.1
    |succ j=>exact h2 j y u (by simpa using hy) (by simpa using hu)
  |[],_::_,h=>by simp[H9]at h
  |_::_,[],h=>by simp[H9]at h
def Uq (P:Program):List Field->List (Nat × TypeId)->Bool
  |[],[]=>true
  |f::r,(o,t)::s=>Nat.beq f.offset o&&Nat.beq f.type t&&!Nat.beq (P.cellsOf t) 0&&Uq P r s
  |_,_=>false
def Vj (P:Program)(t:TypeId):TK->Bool
  | .int k=>match P.underlying t with|some (.int k')=>decide (k'=k)|_=>false
  | .bool=>match P.underlying t with|some .bool=>true|_=>false
  | .str=>match P.underlying t with|some .string=>true|_=>false
  | .ptr e=>match P.underlying t with|some (.pointer e')=>Nat.beq e' e|_=>false
  | .sl e=>match P.underlying t with|some (.slice e')=>Nat.beq e' e&&!Nat.beq (P.cellsOf e) 0|_=>false
  | .arr n e=>match P.underlying t with|some (.array n' e')=>Nat.beq n' n&&Nat.beq e' e|_=>false
  | .st fs=>match P.underlying t with|some (.struct fs')=>Uq P fs'.toList fs|_=>false
  | .map k e=>match P.underlying t with|some (.map k' e')=>Nat.beq k' k&&Nat.beq e' e|_=>false
  | .fn=>match P.underlying t with|some (.func _ _ _)=>true|_=>false
  | .ifc=>match P.underlying t with|some (.interface _)=>true|_=>false
  | .other=>match P.underlying t with|some (.struct _)|some (.array _ _)|none=>false|_=>true
def Q07 (P:Program) (t:TypeId):Bool :=
  !P.stoodInHeld t&&!P.eqGuardType P.depth t&&match P.underlying t with
    |some (.struct fs)=>fs.toList.all fun f=>decide (f.name≠ "_")
    |_=>false
def Nu:Value->Bool
  | .agg _=>true
  |_=>false
def Q1i (P:Program) (t:TypeId) (ks:List IntKind):Bool :=
  (match P.underlying t with|some (.int _)=>false|_=>true)&&match Vq P 8 t with
    |some l=>decide (l=ks)
    |none=>false
def Zo (P:Program) (t:TypeId) (ti:TI):Bool :=
  ((!ti.eq || Q07 P t) && (ti.ks.isEmpty || Q1i P t ti.ks)) && Vj P t ti.k && match P.info? t with
    | some i=>Nat.beq i.size ti.size && Nat.beq i.bytes ti.bytes && match i.zero with
      |some z=>H9 z.cells.toList ti.zero&&Nat.beq z.cells.size ti.size&&(Nu z==ti.k.agg)
      |none=>false
    |none=>false
def C8 (P:Program):Tab->Bool
  |[]=>true
  |(t,ti)::r=>Zo P t ti&&C8 P r
def Qb (P:Program)(T:Tab):Prop:=∀t ti,T.at t=some ti->Zo P t ti=true
theorem Q4l {P:Program}:∀{T:Tab},C8 P T=true->Qb P T
  |[],_=>fun t ti h=>by simp[Tab.at]at h
  | (k,v) :: r,h=>fun t ti ht=>by
    simp only[C8,Qh5]at h
    unfold Tab.at at ht
    cases hk:Nat.beq k t with
    | true =>
      rw[hk]at ht
      simp at ht
      have:=Qh1 hk
      subst this;subst ht
      exact h.1
    |false=>rw[hk]at ht;exact Q4l h.2 t ti ht
section table
variable {P:Program}{T:Tab}{t:TypeId}{ti:TI}
theorem Yj (h:Zo P t ti=true):∃i z,P.info? t=some i/\i.size=ti.size/\i.bytes=ti.bytes/\i.zero=some z/\H9 z.cells.toList ti.zero=true/\z.cells.size=ti.size:=by
  unfold Zo at h
  simp only[Qh5]at h
  obtain⟨_,h⟩:=h
  split at h
  · rename_i i hi
    simp only[Qh5]at h
    obtain⟨⟨h1,h2⟩,h3⟩:=h
    split at h3
    · rename_i z hz
      simp only[Qh5]at h3
      exact⟨i,z,hi,Qh1 h1,Qh1 h2,hz,h3.1.1,Qh1 h3.1.2⟩
    · cases h3
  · cases h
theorem Xu (h:Zo P t ti=true):Vj P t ti.k=true:=by
  unfold Zo at h
  simp only[Qh5]at h
  exact h.1.2
theorem Q4p (h:Zo P t ti=true)(he:ti.eq=true):P.stoodInHeld t=false/\P.eqGuardType P.depth t=false/\∀fs,P.underlying t=some (.struct fs)->∀f∈fs.toList,f.name≠ "_":=by
  unfold Zo at h
  simp only[Qh5,he,Bool.not_true,Bool.false_or]at h
  have h:=h.1.1.1
  unfold Q07 at h
  simp only[Qh5,Bool.not_eq_true']at h
  obtain⟨⟨h1,h2⟩,h3⟩:=h
  refine⟨h1,h2,fun fs hfs f hf=>?_⟩
  rw[hfs]at h3
  simp only[Qi8]at h3
  exact Qhd (h3 f hf)
theorem Qg2 (h:Zo P t ti=true) {k:IntKind} {r:List IntKind} (e:ti.ks=k :: r):Hj P t ti.ks:=by
  unfold Zo at h
  simp only[Qh5]at h
  have h:=h.1.1.2
  rw[e,List.isEmpty_cons,Bool.false_or,<-e]at h
  unfold Q1i at h
  rw[Qh5]at h
  obtain⟨h1,h2⟩:=h
  split at h2
  · rename_i l hl
    refine⟨by rw[hl,Qhd h2],?_⟩
    split at h1
    · cases h1
    · rename_i hn
      first
        |trivial
        | (split
           · rename_i k hu
             exact hn _ hu
           · trivial)
  · cases h2
theorem Qb6 {e:TypeId}(h:Vj P t (.sl e)=true):P.underlying t=some (.slice e):=by
  simp only[Vj]at h
  split at h
  · rename_i e' he
    simp only[Qh5]at h
    rw[he,Qh1 h.1]
  · cases h
theorem Sx {k e:TypeId}(h:Vj P t (.map k e)=true):P.underlying t=some (.map k e):=by
  simp only[Vj]at h
  split at h<;>simp at h
  rename_i k' e' hu
  obtain⟨rfl,rfl⟩:=h
  exact hu
theorem Ny {n:Nat}{e:TypeId}(h:Vj P t (.arr n e)=true):P.underlying t=some (.array n e):=by
  simp only[Vj]at h
  split at h
  · rename_i n' e' he
    simp only[Qh5]at h
    rw[he,Qh1 h.1,Qh1 h.2]
  · cases h
theorem Q0q:∀{fs:List Field} {gs:List (Nat × TypeId)},Uq P fs gs=true->fs.length=gs.length/\∀(k o:Nat) (u:TypeId),gs[k]?=some (o,u) ->
    ∃f,fs[k]?=some f/\f.offset=o/\f.type=u/\P.cellsOf u≠0
  |[],[],_=>⟨rfl,fun k o u h=>by simp at h⟩
  | f :: r,(o,u) :: s,h=>by
    simp only[Uq,Qh5,Bool.not_eq_true']at h
    obtain⟨⟨⟨h1,h2⟩,h3⟩,h4⟩:=h
    obtain⟨h5,h6⟩:=Q0q h4
    refine⟨by simp[h5],fun k o' u' hk=>?_⟩
    cases k with
    | zero =>
      simp at hk
      obtain⟨rfl,rfl⟩:=hk
      exact⟨f,rfl,Qh1 h1,Qh1 h2,Qhv h3⟩
    |succ k=>simpa using h6 k o' u' (by simpa using hk)
  |[],_::_,h=>by simp[Uq]at h
  |_::_,[],h=>by simp[Uq]at h
theorem Sy {gs:List (Nat × TypeId)}(h:Vj P t (.st gs)=true):∃fs:Array Field,P.underlying t=some (.struct fs)/\fs.size=gs.length/\∀(k o:Nat) (u:TypeId),gs[k]?=some (o,u) ->
    ∃f,fs[k]?=some f/\f.offset=o/\f.type=u/\P.cellsOf u≠0:=by
  simp only[Vj]at h
  split at h
  · rename_i fs he
    obtain⟨h1,h2⟩:=Q0q h
    exact⟨fs,he,by simpa using h1,fun k o u hk=>by obtain⟨f,hf,r⟩:=h2 k o u hk;exact⟨f,by simpa using hf,r⟩⟩
  · cases h
theorem K9 (h:Zo P t ti=true)(w:World):(isAgg t).run P w=.ok ti.k.agg w:=by
  have hk:=Xu h
  unfold isAgg
  cases e:ti.k with
  |arr n el=>rw[e]at hk;simp[run_underlying (Ny hk),TK.agg]
  |st gs=>rw[e]at hk;obtain⟨fs,hu,_⟩:=Sy hk;simp[run_underlying hu,TK.agg]
  | _ =>
    rw[e]at hk
    simp only[Vj]at hk
    split at hk<;>first|(simp at hk;done)|skip
    all_goals first
      |(rename_i hu;simp[run_underlying hu,TK.agg];done)
      | (cases hu:P.underlying t with
         |none=>simp_all
         |some d=>cases d<;>simp_all [run_underlying hu,TK.agg])
theorem run_sizeOf (h:Zo P t ti=true)(w:World):(sizeOf t).run P w=.ok ti.size w:=by
  obtain⟨i,z,hi,hs,_⟩:=Yj h
  simp[sizeOf,typeInfo,hi,hs]
theorem Ka (h:Zo P t ti=true)(w:World):∃z,(zeroValue t).run P w=.ok z w/\H9 z.cells.toList ti.zero=true/\z.cells.size=ti.size:=by
  obtain⟨i,z,hi,_,_,hz,h1,h2⟩:=Yj h
  exact⟨z,by simp[zeroValue,typeInfo,hi,hz],h1,h2⟩
theorem Qg3 (h:Zo P t ti=true)(w:World){z:Value}(hz:(zeroValue t).run P w=.ok z w):Nu z=ti.k.agg:=by
  unfold Zo at h
  simp only[Qh5]at h
  obtain⟨_,h⟩:=h
  split at h
  · rename_i i hi
    simp only[Qh5]at h
    obtain⟨_,h3⟩:=h
    split at h3
    · rename_i z' hz'
      simp only[Qh5,Qhm]at h3
      simp[zeroValue,typeInfo,hi,hz']at hz
      rw[<-hz]
      exact h3.2
    · cases h3
  · cases h
theorem Ag (h:Zo P t ti=true){w:World}{z:Value}(hz:(zeroValue t).run P w=.ok z w)(w':World):(zeroValue t).run P w'=.ok z w':=by
  obtain⟨i,z',hi,_,_,hz',_,_⟩:=Yj h
  simp[zeroValue,typeInfo,hi,hz']at hz⊢
  exact hz
end table
abbrev Env:=List (Nat × AV)
def get:Env->Nat->AV
 |[],_=>.junk
 |(k,v)::r,t=>bif Nat.beq k t then v else get r t
def look:List (Option Blk)->Nat->Option Blk
 |[],_=>none
 |b::_,0=>b
 |_::r,j+1=>look r j
def Mem.get (m:Mem):Ref->Option Blk
 | .loc j=>look m.loc j
 | .arg j=>look m.own j
 | .bad=>none
def Hq:List D->Nat->Option D
 |[],_=>none
 |b::_,0=>some b
 |_::r,j+1=>Hq r j
def Wj:List AV->Nat->Option AV
 |[],_=>none
 |b::_,0=>some b
 |_::r,j+1=>Wj r j
def Hp (cs:List D):Nat->Nat->Option (List D)
 |_,0=>some []
 | o,m + 1=>match Hq cs o with
  |some x=>match Hp cs (o+1) m with
   |some r=>some (x::r)
   |none=>none
  |none=>none
def Ul (cs:List AV):Nat->Nat->Option (List AV)
 |_,0=>some []
 | o,m + 1=>match Wj cs o with
  |some x=>match Ul cs (o+1) m with
   |some r=>some (x::r)
   |none=>none
  |none=>none
def up:List D->List AV
 |[]=>[]
 |x::r=>.d x::up r
def D.one:D->Bool
 | .agg _=>false
 |_=>true
def Wh:List AV->Option (List D)
 |[]=>some []
 | .d x::r=>match Wh r with
  |some l=>some (x::l)
  |none=>none
 |_::_=>none
def ofConst:Value->AV
 | .int k n=>.d (.int k n)
 | .bool b=>.d (.bool b)
 | .string s=>.d (.str s)
 | .pointer none=>.d .nilp
 | .nilIface=>.d .nili
 | .nilFunc=>.d .nilf
 | .map none=>.d .nilm
 | .slice none 0 0=>.d .nils
 |_=>.junk
def ev (env:Env):Operand->AV
 | .tmp t=>get env t
 | .const v=>ofConst v
 | .func f=>.d (.fn (.func f) [] [])
 | .global _=>.junk
def cat:List Prop->List Prop->List Prop
 |[],q=>q
 |p::r,q=>p::cat r q
def strip:AV->AV × List Prop
 | .gd b x=>match strip x with
  |(y,l)=>(y,(b=true)::l)
 |x=>(x,[])
def In (k:IntKind)(n:Int):Prop:=k.min<=n/\n<=k.max
def deq:D->D->Option Bool
 | .int k a,.int k' b=>bif decide (k=k') then some (decide (a=b)) else none
 | .bool a,.bool b=>some (a==b)
 | .str a,.str b=>some (a==b)
 |_,_=>none
def O0 (k:IntKind)(a b:Int):Int:=k.wrap ((BitVec.ofInt k.bits a &&& BitVec.ofInt k.bits b).toNat:Int)
def T0 (op:BinOp)(k:IntKind)(a b:Int):Option (AV × List Prop) :=
 match op with
 | .add=>some (.d (.int k (a+b)),[In k (a+b)])
 | .sub=>some (.d (.int k (a-b)),[In k (a-b)])
 | .mul=>some (.d (.int k (a*b)),[In k (a*b)])
 | .quo=>some (.d (.int k (a.tdiv b)),[b≠0,In k (a.tdiv b)])
 | .rem=>some (.d (.int k (a.tmod b)),[b≠0])
 | .eql=>some (.d (.bool (decide (a=b))),[])
 | .neq=>some (.d (.bool (!decide (a=b))),[])
 | .lss=>some (.d (.bool (decide (a<b))),[])
 | .leq=>some (.d (.bool (decide (a<=b))),[])
 | .gtr=>some (.d (.bool (decide (b<a))),[])
 | .geq=>some (.d (.bool (decide (b<=a))),[])
 | .and=>some (.d (.int k (O0 k a b)),[])
 |_=>none
section sound
variable {P:Program}{T:Tab}{w:World}{F:Nat->Prop}{σ:Pls}
theorem E4:∀{l:List (Option Blk)} {j:Nat} {b:Blk},look l j=some b->l[j]?=some (some b)
 |[],_,_,h=>by simp[look]at h
 |b::_,0,_,h=>by simpa[look] using h
 |_::r,j+1,_,h=>by simpa using E4 (l:=r) (j:=j) (by simpa[look] using h)
theorem Mem.get_at {m:Mem}{r:Ref}{b:Blk}(h:m.get r=some b):m.at r=some (some b):=by
 cases r with
 |loc j=>exact E4 h
 |arg j=>exact E4 h
 |bad=>cases h
theorem Ps:∀(l:List D) (j:Nat),Hq l j=l[j]?
 |[],_=>by simp[Hq]
 |_::_,0=>rfl
 |_::r,j+1=>by simpa[Hq] using Ps r j
theorem R8:∀(l:List AV) (j:Nat),Wj l j=l[j]?
 |[],_=>by simp[Wj]
 |_::_,0=>rfl
 |_::r,j+1=>by simpa[Wj] using R8 r j
theorem Po {cs:List D}:∀{m o:Nat} {l:List D},Hp cs o m=some l->l.length=m/\∀j,j<m->l[j]?=cs[o+j]?/\o+j<cs.length
 |0,o,l,h=>by simp[Hp]at h;subst h;exact⟨rfl,fun j hj=>absurd hj Om⟩
 | m + 1,o,l,h=>by
  simp only[Hp]at h
  split at h
  .rename_i x hx
   split at h
   .rename_i r hr
    injection h with h
    subst h
    obtain⟨h1,h2⟩:=Po hr
    rw[Ps]at hx
    refine⟨by simp[h1],fun j hj=>?_⟩
    cases j with
    |zero=>exact⟨by simpa using hx.symm,(Qh7.1 hx).1⟩
    |succ j =>
     obtain⟨h3,h4⟩:=h2 j Om
     have e:o+(j+1)=o+1+j:=by omega
     exact⟨by rw[e];simpa using h3,Om⟩
   .cases h
  .cases h
theorem P4 {cs:List AV}:∀{m o:Nat} {l:List AV},Ul cs o m=some l->l.length=m/\∀j,j<m->l[j]?=cs[o+j]?/\o+j<cs.length
 |0,o,l,h=>by simp[Ul]at h;subst h;exact⟨rfl,fun j hj=>absurd hj Om⟩
 | m + 1,o,l,h=>by
  simp only[Ul]at h
  split at h
  .rename_i x hx
   split at h
   .rename_i r hr
    injection h with h
    subst h
    obtain⟨h1,h2⟩:=P4 hr
    rw[R8]at hx
    refine⟨by simp[h1],fun j hj=>?_⟩
    cases j with
    |zero=>exact⟨by simpa using hx.symm,(Qh7.1 hx).1⟩
    |succ j =>
     obtain⟨h3,h4⟩:=h2 j Om
     have e:o+(j+1)=o+1+j:=by omega
     exact⟨by rw[e];simpa using h3,Om⟩
   .cases h
  .cases h
theorem Zb:∀(l:List D),up l=l.map .d
 |[]=>rfl
 |x::r=>by simp[up,Zb r]
theorem Ue {l:List D}{j:Nat}{A:AV}(h:(up l)[j]?=some A):∃x,l[j]?=some x/\A=.d x:=by
 rw[Zb]at h
 simp at h
 obtain⟨x,h1,h2⟩:=h
 exact⟨x,h1,h2.symm⟩
theorem Ji {p q:List Prop}(h:∀x∈cat p q,x):(∀x∈p,x)/\∀x∈q,x:=by
 induction p with
 |nil=>exact⟨fun x hx=>by simp at hx,h⟩
 | cons a r ih =>
  have:=ih (fun x hx=>h x (by simp[cat,hx]))
  exact⟨fun x hx=>by
   rcases Qho.1 hx with rfl|hx
   .exact h _ (by simp[cat])
   .exact this.1 x hx,this.2⟩
def Ql (env:Env)(w:World)(F:Nat->Prop)(σ:Pls)(tmps:Array Value):Prop:=∀t,Vc w F σ (get env t) (tmps.getD t undef)
theorem Qc9 (v:Value):Vc w F σ (ofConst v) v:=by
 unfold ofConst
 split
 .exact .d .int
 .exact .d .bool
 .exact .d .str
 .exact .d .nilp
 .exact .d .nili
 .exact .d .nilf
 .exact .d .nilm
 .exact .d .nils
 .exact .junk
theorem Z5 {env:Env}{a:Act}(he:Ql env w F σ a.tmps)(x:Operand):Vc w F σ (ev env x) (a.eval x):=by
 cases x with
 |tmp t=>exact he t
 |const v=>exact Qc9 v
 |func f=>exact .d (.fn (us:=[]) (vs:=[]) rfl rfl (fun j x u h=>by simp at h) (fun j x u h=>by simp at h))
 |global g=>exact .junk
theorem X7 {x:AV}{v:Value}(h:Vc w F σ x v)(hp:∀p∈(strip x).2,p):Vc w F σ (strip x).1 v:=by
 induction h with
 |@gd b x v h _ ih =>
  simp only[strip]at hp⊢
  exact ih (hp (b=true) (by simp)) (fun p hpp=>hp p (by simp[hpp]))
 |d h=>exact .d h
 |agg hl h=>exact .agg hl h
 |tup hl h=>exact .tup hl h
 |ifc h=>exact .ifc h
 |fn h1 h2 h3 h4=>exact .fn h1 h2 h3 h4
 |ptr hr h=>exact .ptr hr h
 |osl hr h=>exact .osl hr h
 |mp hr h=>exact .mp hr h
 |junk=>exact .junk
def V6 (F:Nat->Prop)(σ:Pls)(w w':World):Prop:=∀b,(F b\/∃r pl t,σ r=some (some pl)/\pl.loc=some (b,t))->w'.heap[b]?=w.heap[b]?
theorem V6.refl (F:Nat->Prop)(σ:Pls)(w:World):V6 F σ w w:=fun _ _=>rfl
theorem Vc.int {k n v}(h:Vc w F σ (.d (.int k n)) v):v=.int k n:=by cases h with|d h=>cases h;rfl
theorem Vc.bool {b v}(h:Vc w F σ (.d (.bool b)) v):v=.bool b:=by cases h with|d h=>cases h;rfl
theorem Vc.str {s v}(h:Vc w F σ (.d (.str s)) v):v=.string s:=by cases h with|d h=>cases h;rfl
theorem In.wrap {k:IntKind}{n:Int}(h:In k n):k.wrap n=n:=by
 obtain⟨h1,h2⟩:=h
 cases k<;>simp[IntKind.min,IntKind.max,IntKind.signed,IntKind.bits]at h1 h2
 .exact IntWalk.i8_in n ⟨Om,Om⟩
 .exact IntWalk.i16_in n ⟨Om,Om⟩
 .exact IntWalk.i32_in n ⟨Om,Om⟩
 .exact IntWalk.i64_in n ⟨Om,Om⟩
 .exact IntWalk.u8_in n ⟨Om,Om⟩
 .exact IntWalk.u16_in n ⟨Om,Om⟩
 .exact IntWalk.u32_in n ⟨Om,Om⟩
 .exact IntWalk.u64_in n ⟨Om,Om⟩
def Z7 (P:Program)(F:Nat->Prop)(σ:Pls)(w:World)(s:Sem Value)(A:AV):Prop :=
 ∃u,Vc w F σ A u/\∀w',V6 F σ w w'->s.run P w'=.ok u w'
theorem Z7.const {s:Sem Value}{A:AV}{u:Value}(h:Vc w F σ A u)(hs:∀w',s.run P w'=.ok u w'):Z7 P F σ w s A:=⟨u,h,fun w' _=>hs w'⟩
theorem Q6b {op:BinOp}{t:TypeId}{x y:Operand}{k:IntKind}{a b:Int}{A:AV}{obs:List Prop}(h:T0 op k a b=some (A,obs))(hob:∀p∈obs,p) :
  Z7 P F σ w (do eqGuard op t x y (.int k a) (.int k b);binOp op t (.int k a) (.int k b)) A:=by
 unfold T0 at h
 cases op<;>simp only[Qgz,Qh6,reduceCtorEq]at h<;>obtain⟨rfl,rfl⟩:=h
 case add =>
  have hi:In k (a+b):=hob _ (by simp)
  exact .const (.d .int) fun w'=>by simp[eqGuard,binOp,Op.intArith,hi.wrap]
 case sub =>
  have hi:In k (a-b):=hob _ (by simp)
  exact .const (.d .int) fun w'=>by simp[eqGuard,binOp,Op.intArith,hi.wrap]
 case mul =>
  have hi:In k (a*b):=hob _ (by simp)
  exact .const (.d .int) fun w'=>by simp[eqGuard,binOp,Op.intArith,hi.wrap]
 case quo =>
  have hb:b≠0:=hob _ (by simp)
  have hi:In k (a.tdiv b):=hob _ (by simp)
  exact .const (.d .int) fun w'=>by simp[eqGuard,binOp,Op.intDiv,hb,hi.wrap]
 case rem =>
  have hb:b≠0:=hob _ (by simp)
  exact .const (.d .int) fun w'=>by simp[eqGuard,binOp,Op.intDiv,hb]
 case eql=>exact .const (.d .bool) fun w'=>by simp[eqGuard,binOp,Op.intCmp];exact Bool.eq_iff_iff.2 (by simp)
 case neq=>exact .const (.d .bool) fun w'=>by simp[eqGuard,binOp,Op.intCmp];exact Bool.eq_iff_iff.2 (by simp)
 case lss=>exact .const (.d .bool) fun w'=>by simp[eqGuard,binOp,Op.intCmp]
 case leq=>exact .const (.d .bool) fun w'=>by simp[eqGuard,binOp,Op.intCmp]
 case gtr=>exact .const (.d .bool) fun w'=>by simp[eqGuard,binOp,Op.intCmp]
 case geq=>exact .const (.d .bool) fun w'=>by simp[eqGuard,binOp,Op.intCmp]
 case and=>exact .const (.d .int) fun w'=>by simp[eqGuard,binOp,Op.intBits,O0]
end sound
end Go.Ab
