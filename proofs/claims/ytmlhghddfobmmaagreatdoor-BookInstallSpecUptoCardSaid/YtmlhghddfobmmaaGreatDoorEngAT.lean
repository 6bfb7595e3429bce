import Derived.Test.YtmlhghddfobmmaaGreatDoorEngAP
namespace Go.Ab
set_option linter.unusedSimpArgs false
set_option linter.unusedVariables false
section
variable {P:Program}{T:Tab}{m:Mem}{σ:Pls}
variable {ro:Option Nat}
def He:Op->List Nat
 | .store _ x v=>X3 (Zt x) (Zt v)
 | .mapUpdate _ x k v=>X3 (Zt x) (X3 (Zt k) (Zt v))
 |op=>tmpsOf op
def Nd (o:Oper)(t:Nat):Nat->List Oper->Bool
 |_,[]=>true
 |j,x::r=>(match x.dst with
  |some d=>bif Nat.beq d t then Vi o.after.toList j else true
  |none=>true)&&Nd o t (j+1) r
def Ks (ops:List Oper)(o:Oper):List Nat->Bool
 |[]=>true
 |t::r=>Nd o t 0 ops&&Ks ops o r
theorem Pq {o:Oper}{t:Nat}:∀{l:List Oper} {k:Nat},Nd o t k l=true->∀{j:Nat} {x:Oper},l[j]?=some x->x.dst=some t->Vi o.after.toList (k+j)=true
 |[],_,_,j,x,h,_=>by simp at h
 | y :: r,k,hd,j,x,h,hx=>by
  simp only[Nd,Qh5]at hd
  cases j with
  |zero =>
   simp at h
   subst h
   have h1:=hd.1
   rw[hx]at h1
   simpa using h1
  |succ j =>
   have:=Pq hd.2 (show r[j]?=some x by simpa using h) hx
   rwa [show k+1+j=k+(j+1) by omega]at this
theorem Pr {ops:List Oper}{o:Oper}:∀{ts:List Nat},Ks ops o ts=true->∀{t:Nat},t∈ts->Nd o t 0 ops=true
 |[],_,t,h=>by simp at h
 |x::r,hd,t,h=>by
  simp only[Ks,Qh5]at hd
  rcases Qho.1 h with rfl|h
  .exact hd.1
  .exact Pr hd.2 h
theorem Q7x (hT:Qb P T){id N:Nat}{ops:Array Oper}{i:Nat}{o:Oper}{env:Env}{As:Nat->AV}{m1 m2:Mem}{B:AV}(hdN:(match o.dst with|some d=>Nat.blt d N|none=>true)=true)(ho:ops[i]?=some o)(hg:o.guard=none)(hnl:Ks ops.toList o (He o.op)=true)
  (hop:Wd P T o (sel (Qi env ops.toList As ops.size) (He o.op)) m1 fun e m'=>(match o.dst with|some d=>get e d=B|none=>True)/\m'=m2) (hE:∀(j:Nat) o d,ops[j]?=some o->o.dst=some d->get (Qi env ops.toList As ops.size) d=As j)
  {σ':Pls} {F':Nat->Prop} {w':World} {a':Act} {listed:Array Bool} (hN:a'.tmps.size=N) (hm:Q3 m1 σ' F' w') (hen:∀e∈o.after,Region.binds .any e=true->listed.getD e.on true=true) (hs:Uj ops ops.size env σ' As listed F' w' a'.tmps)
  {next:Act->World->Prop} {Q:Exit->Act->World->Prop} (hn:∀v w2 F2 σ2,(∀A u,Vc w' F' σ' A u->Vc w2 F2 σ2 A u)->(∀d,o.dst=some d->Vc w2 F2 σ2 B v)->Q3 m2 σ2 F2 w2->Step σ' F' w' σ2 F2 w2->SLe σ' σ2->next (a'.put o.dst v) w2):wpOpIn (Fen ro) 0 P ops Q i next a' w':=by
 have rd:∀t∈He o.op,Vc w' F' σ' (get (Qi env ops.toList As ops.size) t) (a'.tmps.getD t undef):=fun t ht=>by
  by_cases hex:∃(j:Nat) (o':Oper),ops[j]?=some o'/\o'.dst=some t
  .obtain⟨j,o',ho',hdo'⟩:=hex
   rw[hE j o' t ho' hdo']
   refine(hs t).1 j o' (Qh4.1 ho').1 ho' hdo' ?_
   have:=Pq (Pr hnl ht) (show ops.toList[j]?=some o' by rw[Qh2];exact ho') hdo'
   rw[Qh9]at this
   obtain⟨e,he,heo,heb⟩:=Yq this
   have:=hen e he heb
   rwa [heo]at this
  .have hsz:ops.toList.length=ops.size:=Qhg
   have:get (Qi env ops.toList As ops.size) t=get (Qi env ops.toList As 0) t:=Xb (i:=0) ops.size (Qh3 _) (fun j o2 _ _ h3 h4=>hex ⟨j,o2,by rwa [Qh2]at h3,h4⟩)
   rw[this]
   exact(hs t).2 fun j o2 h3 h4=>absurd ⟨j,o2,h3,h4⟩ hex
 have hw:Region.wanted o (yielded ops a'.tmps)=true:=by simp[Region.wanted,hg]
 unfold wpOpIn
 simp only[ho,hw,if_true]
 refine Kh hT hop hdN hN (Vl rd) hm ?_
 rintro env' m' v w2 σ2 F2 ⟨k1,rfl⟩ k2 k3 k4 k5
 have mono:∀A u,Vc w' F' σ' A u->Vc w2 F2 σ2 A u:=fun A u hv=>hv.mono k4.fro (fun b hb=>k4.keep b (hm.fl b hb) (fun⟨r,pl,t,e1,e2⟩=>(hm.nf r pl b t e1 e2).1 hb)) k5
 refine hn v w2 F2 σ2 mono (fun d hd=>?_) k3 k4 k5
 rw[hd]at k1 hdN k2
 have hv:=k2 d
 rw[k1,put_eq (by rw[hN];exact Qhf hdN)]at hv
 exact hv
structure Ju where
 i:Nat
 res:AV
 m:Mem
 via:List Nat
def W3:List Ju->Nat->Bool
 |[],_=>false
 |s::r,i=>Nat.beq s.i i||W3 r i
def K3:List Ju->Nat->AV
 |[],_=>.junk
 |s::r,i=>bif Nat.beq s.i i then s.res else K3 r i
def U8 (m:Mem):List Ju->Nat->Mem
 |_,0=>m
 |[],_=>m
 |s::r,k+1=>U8 s.m r k
def E0 (m:Mem):List Ju->Mem
 |[]=>m
 |s::r=>E0 s.m r
def Q00 (P:Program)(T:Tab)(E:Env)(m:Mem)(s:Ju)(o:Oper):Prop:=Wd P T o (sel E (He o.op)) m fun e m'=>(match o.dst with|some d=>get e d=s.res|none=>True)/\m'=s.m
def Chn (P:Program)(T:Tab)(E:Env)(full:List Oper)(K:Mem->Prop):Mem->List Ju->Prop
 |m,[]=>K m
 |m,s::r=>(match full[s.i]? with
  |some o=>Q00 P T E m s o
  |none=>False)/\Chn P T E full K s.m r
def isJ:AV->Bool
 | .junk=>true
 |_=>false
theorem Qay {A:AV}(h:isJ A=true):A=.junk:=by
 cases A<;>first|rfl|cases h
def Kv (ops:List Oper):Option Nat->List Ju->Bool
 |_,[]=>true
 | p,s :: r=>(match ops[s.i]? with
  |some o=>(match o.guard with
   |none=>true
   |some _=>false)&&(match o.dst with
   |none=>isJ s.res
   |some _=>true)&&Ks ops o (He o.op)
  |none=>false)&&(match p with
   |none=>true
   |some p=>Lm ops (s.i::s.via)&&s.via.any (fun x=>Nat.beq x p))&&!(W3 r s.i)&&Kv ops (some s.i) r
def R7 (m0:Mem):List Ju->Prop
 |[]=>True
 |s::r=>Yo m0 s.m/\R7 m0 r
theorem Hr:∀{L:List Ju} {i:Nat},W3 L i=true↔∃(j:Nat) (s:Ju),L[j]?=some s/\s.i=i
 |[],i=>by simp[W3]
 | s :: r,i=>by
  simp only[W3,Bool.or_eq_true,Hr (L:=r)]
  constructor
  .rintro(h|⟨j,s',h1,h2⟩)
   .exact⟨0,s,rfl,Qh1 h⟩
   .exact⟨j+1,s',by simpa using h1,h2⟩
  .rintro⟨j,s',h1,h2⟩
   cases j with
   |zero=>simp at h1;subst h1;left;rw[h2];exact Nat.beq_refl _
   |succ j=>exact .inr ⟨j,s',by simpa using h1,h2⟩
theorem Nh {ops:List Oper}:∀{L:List Ju} {p:Option Nat},Kv ops p L=true->∀{j:Nat} {s:Ju},L[j]?=some s->(∃o,ops[s.i]?=some o/\o.guard=none/\(o.dst=none->s.res=.junk)/\Ks ops o (He o.op)=true) /\
  (∀j' s',L[j']?=some s'->s'.i=s.i->j'=j)/\(∀s',j≠0->L[j-1]?=some s'->Lm ops (s.i::s.via)=true/\s'.i∈s.via)/\K3 L s.i=s.res
 |[],_,_,j,s,h=>by simp at h
 | x :: r,p,hok,j,s,h=>by
  simp only[Kv,Qh5,Bool.not_eq_true']at hok
  obtain⟨⟨⟨h1,h2⟩,h3⟩,h4⟩:=hok
  cases j with
  | zero =>
   simp at h
   subst h
   refine⟨?_,fun j' s' hj' he=>?_,fun s' h0=>absurd rfl h0,by simp[K3]⟩
   .split at h1
    .rename_i o ho
     simp only[Qh5]at h1
     refine⟨o,ho,?_,fun hd=>?_,h1.2⟩
     .cases hg:o.guard with
      |none=>rfl
      |some g=>rw[hg]at h1;exact absurd h1.1.1 (by simp)
     .have:=h1.1.2
      rw[hd]at this
      exact Qay this
    .cases h1
   .cases j' with
    |zero=>rfl
    |succ j' =>
     have:W3 r x.i=true:=Hr.2 ⟨j',s',by simpa using hj',he⟩
     rw[h3]at this
     cases this
  | succ j =>
   have hj:r[j]?=some s:=by simpa using h
   obtain⟨k1,k2,k3,k4⟩:=Nh h4 hj
   have hxs:x.i≠s.i:=fun e=>by
    have:W3 r x.i=true:=Hr.2 ⟨j,s,hj,e.symm⟩
    rw[h3]at this
    cases this
   refine⟨k1,fun j' s' hj' he=>?_,fun s' _ hs'=>?_,?_⟩
   .cases j' with
    |zero=>simp at hj';subst hj';exact absurd he hxs
    |succ j'=>rw[k2 j' s' (by simpa using hj') he]
   .cases j with
    | zero =>
     simp at hs'
     subst hs'
     cases r with
     |nil=>simp at hj
     |cons y r =>
      simp at hj
      subst hj
      simp only[Kv,Qh5]at h4
      obtain⟨⟨⟨_,h5⟩,_⟩,_⟩:=h4
      refine⟨h5.1,?_⟩
      obtain⟨z,hz,e⟩:=List.any_eq_true.1 h5.2
      rw[<-Qh1 e]
      exact hz
    |succ j=>exact k3 s' (Nat.succ_ne_zero j) (by simpa using hs')
   .simp only[K3]
    rw[show Nat.beq x.i s.i=false from Bool.eq_false_iff.2 fun e=>hxs (Qh1 e)]
    exact k4
theorem Ea:∀{L:List Ju} {m:Mem},U8 m L L.length=E0 m L
 |[],_=>rfl
 |s::r,m=>Ea (L:=r) (m:=s.m)
theorem Eb:∀{L:List Ju} {m:Mem} {j:Nat} {s:Ju},L[j]?=some s->U8 m L (j+1)=s.m
 |[],_,_,_,h=>by simp at h
 |x::r,m,0,s,h=>by simp at h;subst h;cases r<;>rfl
 |x::r,m,j+1,s,h=>by
  show U8 x.m r (j+1)=s.m
  exact Eb (by simpa using h)
theorem Chn.at {E:Env}{full:List Oper}{K:Mem->Prop}:∀{L:List Ju} {m:Mem},Chn P T E full K m L->(∀{j:Nat} {s:Ju} {o:Oper},L[j]?=some s->full[s.i]?=some o->Q00 P T E (U8 m L j) s o)/\K (E0 m L)
 |[],m,h=>⟨fun h=>by simp at h,h⟩
 | x :: r,m,h=>by
  obtain⟨h1,h2⟩:=h
  obtain⟨k1,k2⟩:=Chn.at h2
  refine⟨fun{j s o} hj ho=>?_,k2⟩
  cases j with
  |zero =>
   simp at hj
   subst hj
   rw[ho]at h1
   exact h1
  |succ j=>exact k1 (by simpa using hj) ho
theorem R7.at {m0:Mem}:∀{L:List Ju} {m:Mem},Yo m0 m->R7 m0 L->∀k,Yo m0 (U8 m L k)
 |L,m,h,_,0=>by cases L<;>exact h
 |[],m,h,_,k+1=>h
 |s::r,m,_,h,k+1=>R7.at (L:=r) (m:=s.m) h.1 h.2 k
def Qo (B0 B1:Blk):Prop:=∀(w:World) (F:Nat->Prop) (σ:Pls) (pl:Pl),Jx w F σ B1 pl->Jx w F σ B0 pl
theorem Qo.opq {B:Blk}:Qo .opq B:=fun _ _ _ _ _=>Tt
def JL:List AV->List AV->Prop
 |[],[]=>True
 | .junk::r,_::s=>JL r s
 |A::r,B::s=>A=B/\JL r s
 |_,_=>False
theorem JL.at:∀{a b:List AV},JL a b->a.length=b.length/\∀(j:Nat) A,a[j]?=some A->A=.junk\/b[j]?=some A
 |[],[],_=>⟨rfl,fun j A h=>by simp at h⟩
 | A :: r,B :: s,h=>by
  have key:JL r s/\(A=.junk\/A=B):=by
   cases A<;>first|exact⟨h,.inl rfl⟩|exact⟨h.2,.inr h.1⟩
  obtain⟨h1,h2⟩:=JL.at key.1
  refine⟨by simp[h1],fun j C hC=>?_⟩
  cases j with
  |zero =>
   simp at hC
   subst hC
   rcases key.2 with rfl|rfl
   .exact .inl rfl
   .exact .inr rfl
  |succ j=>simpa using h2 j C (by simpa using hC)
 |[],_::_,h=>h.elim
 |A::_,[],h=>by cases A<;>exact h.elim
theorem Qo.box {e:TypeId}{a b:List AV}(h:JL a b):Qo (.box e a) (.box e b):=fun w F σ pl hb=>by
 obtain⟨h1,h2⟩:=JL.at h
 obtain⟨k1,k2,c,k3,us,k4,k5,k6⟩:=hb
 refine⟨k1,by rw[h1];exact k2,c,k3,us,k4,by rw[h1];exact k5,fun j A u hA hu=>?_⟩
 have hj:=(Qh7.1 hA).1
 have hB:b[j]?=some (b[j]'Om):=Qgy Om
 have:=k6 j _ u hB hu
 rcases h2 j A hA with rfl|h3
 .exact⟨.junk,this.2⟩
 .rw[hB]at h3
  cases h3
  exact this
def Qt (m0 m1:Mem):Prop:=∀r,m0.at r=some none\/m0.at r=m1.at r\/∃B0 B1,m0.at r=some (some B0)/\m1.at r=some (some B1)/\Qo B0 B1
def Uk:List (Option Blk)->List (Option Blk)->Prop
 |[],[]=>True
 |none::r,[]=>Uk r []
 |none::r,_::s=>Uk r s
 |some B::r,x::s=>(some B=x\/∃B1,x=some B1/\Qo B B1)/\Uk r s
 |_,_=>False
theorem Uk.at:∀{a b:List (Option Blk)},Uk a b->∀j:Nat,a[j]?=some none\/a[j]?=b[j]?\/∃B0 B1,a[j]?=some (some B0)/\b[j]?=some (some B1)/\Qo B0 B1
 |[],[],_,j=>.inr (.inl rfl)
 |none::r,[],h,j=>by
  cases j with
  |zero=>simp
  |succ j=>simpa using Uk.at (a:=r) (b:=[]) h j
 |none::r,_::s,h,j=>by
  cases j with
  |zero=>simp
  |succ j=>simpa using Uk.at (a:=r) (b:=s) h j
 | some B :: r,x :: s,h,j=>by
  cases j with
  |zero =>
   rcases h.1 with h1|⟨B1,rfl,h1⟩
   .right;left;simp[h1]
   .right;right;exact⟨B,B1,rfl,rfl,h1⟩
  |succ j=>simpa using Uk.at (a:=r) (b:=s) h.2 j
 |some _::_,[],h,_=>h.elim
 |[],_::_,h,_=>h.elim
theorem Qt.of {a b a' b':List (Option Blk)}(h1:Uk a a')(h2:Uk b b'):Qt ⟨a,b⟩ ⟨a',b'⟩:=fun r=>by
 cases r with
 |loc j=>exact h1.at j
 |arg j=>exact h2.at j
 |bad=>exact .inr (.inl rfl)
def fg (m0:Mem)(σ:Pls):Pls:=fun r=>match m0.at r with
 |some none=>some none
 |_=>σ r
theorem Sd (m0:Mem)(σ:Pls):SLe σ (fg m0 σ):=fun r q h=>by
 unfold fg
 split
 .exact⟨none,rfl,QLe.none q⟩
 .exact⟨q,h,QLe.refl q⟩
theorem Q9h {m0:Mem}{σ σ2:Pls}(h:SLe σ σ2):SLe (fg m0 σ) (fg m0 σ2):=fun r q hq=>by
 unfold fg at hq⊢
 split at hq
 .cases hq
  exact⟨none,rfl,QLe.refl none⟩
 .exact h r q hq
theorem Qt.ok {m0 m1:Mem}(h:Qt m0 m1){σ:Pls}{F:Nat->Prop}{w:World}(hm:Q3 m1 σ F w):Q3 m0 (fg m0 σ) F w where
 dom r:=by
  unfold fg
  split
  .rename_i e;rw[e];simp
  .rename_i hne
   rcases h r with h|h|⟨B0,B1,h1,h2,_⟩
   .exact absurd h hne
   .rw[h];exact hm.dom r
   .rw[hm.dom r,h1,h2];simp
 lv r q hq:=by
  unfold fg at hq
  split at hq
  .rename_i e
   cases hq
   exact⟨fun _=>e,fun pl hp=>by cases hp⟩
  .rename_i hne
   obtain⟨k1,k2⟩:=hm.lv r q hq
   rcases h r with h|h|⟨B0,B1,h1,h2,hb⟩
   .exact absurd h hne
   .rw[h];exact⟨k1,fun pl hp=>by obtain⟨B,hB,hok⟩:=k2 pl hp;exact⟨B,hB,hok.mono (fun _ h=>h) (fun _ _=>rfl) (Sd m0 σ) (fun _ _ _=>rfl)⟩⟩
   .refine⟨fun e=>?_,fun pl hp=>?_⟩
    .have:=k1 e
     rw[h2]at this
     cases this
    .obtain⟨B,hB,hok⟩:=k2 pl hp
     rw[h2]at hB
     cases hB
     exact⟨B0,h1,hb w F _ pl (hok.mono (fun _ h=>h) (fun _ _=>rfl) (Sd m0 σ) (fun _ _ _=>rfl))⟩
 inj r r' pl pl' b t t' e1 e2:=by
  have key:∀r pl,fg m0 σ r=some (some pl)->σ r=some (some pl):=fun r pl e=>by
   unfold fg at e
   split at e
   .cases e
   .exact e
  exact hm.inj r r' pl pl' b t t' (key _ _ e1) (key _ _ e2)
 nf r pl b t e1 e2:=by
  unfold fg at e1
  split at e1
  .cases e1
  .exact hm.nf r pl b t e1 e2
 fl:=hm.fl
 gl:=hm.gl
def Cn (m0:Mem):List Ju->Prop
 |[]=>True
 |s::r=>Qt m0 s.m/\Cn m0 r
theorem Awp.effs (hT:Qb P T) {id N:Nat} {ops:Array Oper} {env:Env} {Q:Ja} (h1:P.follows .mixedOrders=true) (h2:okR ops.toList=true) (hd:Jb N ops.toList=true) (m0:Mem) (L:List Ju) (hL:Kv ops.toList none L=true) (w0:Yo m0 m) (wL:R7 m0 L)
  (h:vcE P T ops.toList m0 (W3 L) (K3 L) ops.toList 0 env fun E=>Chn P T E ops.toList (fun m=>Ev (Q .normal E m)) m L):Awp P N (.region id ops true) env m Q :=
 ⟨fun ro lo a w σ F hN hD he hm=>by
  have hlt:∀{j:Nat} {s:Ju},L[j]?=some s->s.i<ops.size:=fun hj=>by
   obtain⟨⟨o,ho,_⟩,_⟩:=Nh hL hj
   have:=(Qh7.1 ho).1
   rwa [Qhg]at this
  have hdst:∀(i:Nat) o,ops[i]?=some o->(match o.dst with|some d=>Nat.blt d N|none=>true)=true:=by
   have:∀(l:List Oper),Jb N l=true->∀(i:Nat) o,l[i]?=some o->(match o.dst with|some d=>Nat.blt d N|none=>true)=true:=by
    intro l
    induction l with
    |nil=>intro _ i o ho;simp at ho
    |cons x r ih =>
     intro hl i o ho
     simp only[Jb,Qh5]at hl
     cases i with
     |zero=>simp at ho;subst ho;exact hl.1
     |succ i=>exact ih hl.2 i o (by simpa using ho)
   exact fun i o ho=>this ops.toList hd i o (by rw[Qh2];exact ho)
  refine Pt (m:=m0) (σ:=σ) h1 h2 hT hd h hN he (fun listed a' w' F' σ'=>∃k,k<=L.length/\(∀(j:Nat) (s:Ju),L[j]?=some s->(listed.getD s.i true=true↔j<k))/\Q3 (U8 m L k) σ' F' w'/\Step σ F w σ' F' w'/\SLe σ σ') ?_ ?_ ?_ ?_ ?_
  .rintro listed a' w' F' σ' _ _ _ _ ⟨k,_,_,hk,_⟩
   exact(R7.at w0 wL k).ok hk
  .have hrep:∀j,j<ops.size->(Array.replicate ops.size false).getD j true=false:=fun j hj=>by
    rw[Qu,Qi0,Qik,if_pos hj]
    rfl
   refine⟨0,Qh3 _,fun j s hj=>?_,?_,(Qn.drew hm.fl).step σ,SLe.refl σ⟩
   .rw[hrep _ (hlt hj)]
    exact⟨fun h=>(by cases h),fun h=>absurd h (Qhh _)⟩
   .have:U8 m L 0=m:=by cases L<;>rfl
    rw[this]
    exact(Qn.drew hm.fl).mem hm
  .rintro listed a' w' F' σ' F2 w2 v i o ⟨k,hk,hc,hmw,hst,hsl⟩ hg hi ho hls hN'
   refine⟨k,hk,fun j s hj=>?_,hg.mem hmw,hst.trans (hg.step σ'),hsl⟩
   rw[Ze (fun e=>?_)]
   .exact hc j s hj
   .have:W3 L i=true:=Hr.2 ⟨j,s,hj,e⟩
    rw[hi]at this
    cases this
  .rintro As listed a' w' F' σ' i o hE hK _ hi ho hl hen hcl hls hN' hD' hs ⟨k,hk,hc,hmm,hst,hsl⟩ next hnext
   obtain⟨j,s,hj,rfl⟩:=Hr.1 hi
   obtain⟨⟨o',ho',hg,hjk0,hnl⟩,huniq,hprev,hres⟩:=Nh hL hj
   have hol:ops.toList[s.i]?=some o:=by rw[Qh2];exact ho
   rw[hol]at ho'
   cases ho'
   have hjk:¬ j<k:=fun h=>by rw[(hc j s hj).2 h]at hl;cases hl
   have hj2:j=k:=by
    rcases Qi6 k j with h|h
    .have h0:j≠0:=by omega
     have hjl:=(Qh7.1 hj).1
     have hs':L[j-1]?=some (L[j-1]'Om):=Qgy Om
     obtain⟨hp,hpm⟩:=hprev _ h0 hs'
     have hl1:listed.getD (L[j-1]'Om).i true=true:=by
      cases hv:s.via with
      |nil=>rw[hv]at hpm;simp at hpm
      | cons x r =>
       rw[hv]at hp hpm
       simp only[Lm,Qh5]at hp
       have hx:listed.getD x true=true:=by
        have h3:=hp.1
        rw[hol]at h3
        obtain⟨e,he,heo,heb⟩:=Yq h3
        have:=hen e he heb
        rwa [heo]at this
       rcases Qho.1 hpm with e|hr
       .rw[e];exact hx
       .exact Ex hcl r x hp.2 hx _ hr
     have:=(hc _ _ hs').1 hl1
     omega
    .omega
   subst hj2
   have hop:=(Chn.at hK).1 hj hol
   refine Q7x (id:=id) hT (hdst s.i o ho) ho hg hnl hop hE hN' hmm hen hs fun v w2' F2 σ2 q1 q2 q3 q4 q5=>hnext v w2' F2 σ2 q1 ?_ ⟨j+1,(Qh7.1 hj).1,fun j' s' hj'=>?_,by rw[Eb hj];exact q3,hst.trans q4,SLe.trans hsl q5⟩
   .rw[hres]
    cases hdo:o.dst with
    |none=>rw[hjk0 hdo];exact .junk
    |some d=>exact q2 d hdo
   .by_cases e:s'.i=s.i
    .rw[e,Gx,huniq j' s' hj' e]
     exact⟨fun _=>Nat.lt_succ_self _,fun _=>rfl⟩
    .rw[Ze e,hc j' s' hj']
     have:j'≠j:=fun e2=>by subst e2;rw[hj]at hj';cases hj';exact e rfl
     omega
  .rintro env' a' w' F' σ' hK hN' hD' hE listed hall ⟨k,hk,hc,hmm,hst,hsl⟩
   have hkl:k=L.length:=by
    rcases Qi6 k L.length with h|h
    .have hs':L[k]?=some (L[k]'h):=Qgy h
     have:=(hc k _ hs').1 (hall _ (hlt hs'))
     omega
    .omega
   subst hkl
   rw[Ea]at hmm
   exact⟨_,_,σ',F',(Chn.at hK).2.o,hN',by rw[hD'];exact hD.step hst,hE,hmm,hst,Zj.of hsl⟩⟩
def Nq (nl na:Nat):Env->Env
 |[]=>[]
 |(t,A)::r=>(t,bif Xx nl na A then A else .junk)::Nq nl na r
theorem Sh (nl na:Nat):∀(e:Env) (t:Nat),get (Nq nl na e) t=bif Xx nl na (get e t) then get e t else .junk
 |[],t=>rfl
 |(k,A)::r,t=>by
  simp only[Nq,get]
  cases Nat.beq k t
  .exact Sh nl na r t
  .rfl
def over (ops:List Oper)(nl na:Nat)(E:Env):List Ju->Env
 |[]=>Nq nl na E
 |s::r=>match ops[s.i]? with
  |some o=>Vy o s.res (over ops nl na E r)
  |none=>over ops nl na E r
theorem Sj (ops:List Oper)(nl na:Nat)(E:Env)(t:Nat):∀L:List Ju,(∃s∈L,∃o,ops[s.i]?=some o/\o.dst=some t/\get (over ops nl na E L) t=s.res)\/get (over ops nl na E L) t=get (Nq nl na E) t
 |[]=>.inr rfl
 | s :: r=>by
  have ih:=Sj ops nl na E t r
  unfold over
  cases ho:ops[s.i]? with
  |none =>
   dsimp only
   rcases ih with ⟨s',h1,h2⟩|h
   .exact .inl ⟨s',List.mem_cons_of_mem _ h1,h2⟩
   .exact .inr h
  | some o =>
   dsimp only
   by_cases hd:o.dst=some t
   .exact .inl ⟨s,List.mem_cons_self,o,ho,hd,L5 hd⟩
   .rw[Q10 hd]
    rcases ih with ⟨s',h1,h2⟩|h
    .exact .inl ⟨s',List.mem_cons_of_mem _ h1,h2⟩
    .exact .inr h
def wk (nl na:Nat)(A:AV):AV:=bif Xx nl na A then A else .junk
def Uv:Nat->List (Option Blk)->Bool
 |0,_=>true
 |_,[]=>true
 |_+1,none::_=>false
 |n+1,some _::r=>Uv n r
theorem St:∀{n:Nat} {l:List (Option Blk)},Uv n l=true->∀j,j<n->l[j]?≠some none
 |0,_,_,j,hj=>absurd hj (Qhh j)
 |n+1,[],_,j,_=>by simp
 |n+1,none::_,h,_,_=>by cases h
 |n+1,some _::r,h,j,hj=>by
  cases j with
  |zero=>simp
  |succ j=>simpa using St (l:=r) h j Om
theorem Qb2 {m0:Mem}{nl na:Nat}(h1:Uv nl m0.loc=true)(h2:Uv na m0.own=true){r:Ref}(h:Yg nl na r=true):m0.at r≠some none:=by
 cases r with
 |loc j=>exact St h1 j (Qhf h)
 |arg j=>exact St h2 j (Qhf h)
 |bad=>cases h
theorem Vc.unfg {m0:Mem}{nl na:Nat}(h1:Uv nl m0.loc=true)(h2:Uv na m0.own=true){w:World}{F:Nat->Prop}{σ:Pls}{A:AV}{v:Value}(h:Vc w F (fg m0 σ) A v)(hin:Xx nl na A=true):Vc w F σ A v :=
 h.restrict hin fun r q hr hq=>by
  have:=Qb2 h1 h2 hr
  unfold fg at hq
  split at hq
  .rename_i e;exact absurd e this
  .exact⟨q,hq,QLe.refl q⟩
theorem Vc.fg {m0:Mem}{w:World}{F:Nat->Prop}{σ:Pls}{A:AV}{v:Value}(h:Vc w F σ A v):Vc w F (Ab.fg m0 σ) A v:=h.mono (fun _ h=>h) (fun _ _=>rfl) (Sd m0 σ)
theorem Vc.wk {nl na:Nat}{w:World}{F:Nat->Prop}{σ:Pls}{A:AV}{v:Value}(h:Vc w F σ A v):Vc w F σ (Ab.wk nl na A) v:=by
 unfold Ab.wk
 cases Xx nl na A
 .exact .junk
 .exact h
theorem Q7w (hT:Qb P T){id N:Nat}{ops:Array Oper}{i:Nat}{o:Oper}{E:Env}{m1 m2:Mem}{B:AV}(hdN:(match o.dst with|some d=>Nat.blt d N|none=>true)=true)(ho:ops[i]?=some o)(hg:o.guard=none)
  (hop:Wd P T o (sel E (He o.op)) m1 fun e m'=>(match o.dst with|some d=>get e d=B|none=>True)/\m'=m2)
  {σ':Pls} {F':Nat->Prop} {w':World} {a':Act} (hN:a'.tmps.size=N) (hm:Q3 m1 σ' F' w') (rd:∀t∈He o.op,Vc w' F' σ' (get E t) (a'.tmps.getD t undef))
  {next:Act->World->Prop} {Q:Exit->Act->World->Prop} (hn:∀v w2 F2 σ2,(∀σa σb,SLe σa σb->∀A u,Vc w' F' σa A u->Vc w2 F2 σb A u)->(∀d,o.dst=some d->Vc w2 F2 σ2 B v)->Q3 m2 σ2 F2 w2->Step σ' F' w' σ2 F2 w2->SLe σ' σ2->next (a'.put o.dst v) w2):wpOpIn (Fen ro) 0 P ops Q i next a' w':=by
 have hw:Region.wanted o (yielded ops a'.tmps)=true:=by simp[Region.wanted,hg]
 unfold wpOpIn
 simp only[ho,hw,if_true]
 refine Kh hT hop hdN hN (Vl rd) hm ?_
 rintro env' m' v w2 σ2 F2 ⟨k1,rfl⟩ k2 k3 k4 k5
 refine hn v w2 F2 σ2 (fun σa σb hab A u hv=>hv.mono k4.fro (fun b hb=>k4.keep b (hm.fl b hb) (fun⟨r,pl,t,e1,e2⟩=>(hm.nf r pl b t e1 e2).1 hb)) hab) (fun d hd=>?_) k3 k4 k5
 rw[hd]at k1 hdN k2
 have hv:=k2 d
 rw[k1,put_eq (by rw[hN];exact Qhf hdN)]at hv
 exact hv
def Pk (ops:List Oper)(i:Nat):Bool:=match ops[i]? with
 |some o=>(List.range ops.length).all fun j=>Nat.beq j i||(Vi o.after.toList j||o.after.toList.any fun e=>Region.binds .any e&&match ops[e.on]? with
  |some o2=>Vi o2.after.toList j
  |none=>false)
 |none=>false
def T9 (ops:List Oper):List Ju->Bool
 |[]=>true
 |[s]=>Pk ops s.i
 |_::r=>T9 ops r
def Ga (m0:Mem)(cv:Bool):List Ju->Prop
 |[]=>True
 |[s]=>cv=true\/Qt m0 s.m
 |s::s2::r=>Qt m0 s.m/\Ga m0 cv (s2::r)
theorem Ga.of {m0:Mem}:∀{L:List Ju},Cn m0 L->Ga m0 false L
 |[],_=>Tt
 |[_],h=>.inr h.1
 |_::_::_,h=>⟨h.1,Ga.of h.2⟩
theorem Ga.at {m0:Mem}{cv:Bool}:∀{L:List Ju} {m:Mem},Qt m0 m->Ga m0 cv L->∀k,(cv=true->L≠[]->k<L.length)->Qt m0 (U8 m L k)
 |L,m,h,_,0,_=>by cases L<;>exact h
 |[],m,h,_,k+1,_=>h
 |[s],m,_,h,k+1,hk=>by
  have:Qt m0 s.m:=h.elim (fun e=>absurd (hk e (by simp)) (by simp)) id
  cases k<;>exact this
 |s::s2::r,m,_,h,k+1,hk=>Ga.at (L:=s2::r) (m:=s.m) h.1 h.2 k fun e _=>by
  have:=hk e (by simp)
  simp at this⊢
  omega
theorem Oe {ops:List Oper}:∀{L:List Ju},T9 ops L=true->∀{j:Nat} {s:Ju},L[j]?=some s->j+1=L.length->Pk ops s.i=true
 |[],_,j,s,h,_=>by simp at h
 |[x],hc,j,s,h,e=>by
  have:j=0:=by simpa using e
  subst this
  simp at h
  subst h
  exact hc
 |x::y::r,hc,j,s,h,e=>by
  cases j with
  |zero=>simp at e
  |succ j=>exact Oe (L:=y::r) hc (by simpa using h) (by simpa using e)
theorem Q7i {ops:Array Oper}{listed:Array Bool}{i:Nat}{o:Oper}(hc:Pk ops.toList i=true)(ho:ops[i]?=some o)(hen:∀e∈o.after,Region.binds .any e=true->listed.getD e.on true=true)
  (hcl:∀(j:Nat) o,ops[j]?=some o->listed.getD j true=true->∀e∈o.after,Region.binds .any e=true->listed.getD e.on true=true) (j:Nat) (hj:j<ops.size) (hne:j≠i):listed.getD j true=true:=by
 unfold Pk at hc
 rw[Qh2,ho]at hc
 have:=Qi8.1 hc j (List.mem_range.2 (by rw[Qhg];exact hj))
 simp only[Bool.or_eq_true]at this
 rcases this with h|h|h
 .exact absurd (Qh1 h) hne
 .obtain⟨e,he,heo,heb⟩:=Yq h
  have:=hen e he heb
  rwa [heo]at this
 .obtain⟨e,he,h⟩:=List.any_eq_true.1 h
  simp only[Qh5]at h
  obtain⟨hb,h⟩:=h
  have he':e∈o.after:=Array.mem_toList_iff.1 he
  have h1:=hen e he' hb
  split at h
  .rename_i o2 ho2
   rw[Qh2]at ho2
   obtain⟨e2,he2,heo2,heb2⟩:=Yq h
   have:=hcl _ _ ho2 h1 e2 he2 heb2
   rwa [heo2]at this
  .cases h
theorem Awp.effsC (hT:Qb P T) {id N:Nat} {ops:Array Oper} {env:Env} {Q:Ja} (h1:P.follows .mixedOrders=true) (h2:okR ops.toList=true) (hd:Jb N ops.toList=true) (m0:Mem) (nl na:Nat) (L:List Ju) (hL:Kv ops.toList none L=true)
  (kp1:Uv nl m0.loc=true) (kp2:Uv na m0.own=true) (w0:Qt m0 m) (cv:Bool) (hcv:cv=true->T9 ops.toList L=true) (wL:Ga m0 cv L)
  (h:vcE P T ops.toList m0 (W3 L) (fun i=>wk nl na (K3 L i)) ops.toList 0 env fun E=>Chn P T (over ops.toList nl na E L) ops.toList (fun m=>Ev (Q .normal (over ops.toList nl na E L) m)) m L):Awp P N (.region id ops true) env m Q :=
 ⟨fun ro lo a w σ F hN hD he hm=>by
  have hlt:∀{j:Nat} {s:Ju},L[j]?=some s->s.i<ops.size:=fun hj=>by
   obtain⟨⟨o,ho,_⟩,_⟩:=Nh hL hj
   have:=(Qh7.1 ho).1
   rwa [Qhg]at this
  have hdst:∀(i:Nat) o,ops[i]?=some o->(match o.dst with|some d=>Nat.blt d N|none=>true)=true:=by
   have:∀(l:List Oper),Jb N l=true->∀(i:Nat) o,l[i]?=some o->(match o.dst with|some d=>Nat.blt d N|none=>true)=true:=by
    intro l
    induction l with
    |nil=>intro _ i o ho;simp at ho
    |cons x r ih =>
     intro hl i o ho
     simp only[Jb,Qh5]at hl
     cases i with
     |zero=>simp at ho;subst ho;exact hl.1
     |succ i=>exact ih hl.2 i o (by simpa using ho)
   exact fun i o ho=>this ops.toList hd i o (by rw[Qh2];exact ho)
  have honce:∀(i j:Nat) o o' d,ops[i]?=some o->ops[j]?=some o'->o.dst=some d->o'.dst=some d->i=j:=fun i j o o' d ho ho' hd1 hd2=>by
   have:=Gz h2 j o' (by rw[Qh2];exact ho')
   rw[Qh9]at this
   exact this.once d hd2 i o (by rw[Qh2];exact ho) hd1
  refine Pt (m:=m0) (σ:=fg m0 σ) h1 h2 hT hd h hN (fun t=>(he t).fg) (fun listed a' w' F' σ''=>∃σ' k,σ''=fg m0 σ'/\k<=L.length/\(∀(j:Nat) (s:Ju),L[j]?=some s->(listed.getD s.i true=true↔j<k))/\Q3 (U8 m L k) σ' F' w'/\Step σ F w σ' F' w'/\SLe σ σ'/\(cv=true->L≠[]->k=L.length->∀i,i<ops.size->listed.getD i true=true) /\
    (∀(j:Nat) (s:Ju) o d,L[j]?=some s->j<k->ops[s.i]?=some o->o.dst=some d->Vc w' F' σ' s.res (a'.tmps.getD d undef))) ?_ ?_ ?_ ?_ ?_
  .rintro listed a' w' F' σ'' i0 hi0 _ hli ⟨σ',k,rfl,hkl,_,hk,_,_,hall,_⟩
   refine(Ga.at w0 wL k fun e hne=>?_).ok hk
   rcases Qi6 k L.length with h|h
   .exact h
   .rw[hall e hne Om i0 hi0]at hli
    cases hli
  .have hrep:∀j,j<ops.size->(Array.replicate ops.size false).getD j true=false:=fun j hj=>by
    rw[Qu,Qi0,Qik,if_pos hj]
    rfl
   refine⟨σ,0,rfl,Qh3 _,fun j s hj=>?_,?_,(Qn.drew hm.fl).step σ,SLe.refl σ,fun _ hne h=>absurd (List.length_eq_zero_iff.1 h.symm) hne,fun j s o d _ h=>absurd h (Qhh _)⟩
   .rw[hrep _ (hlt hj)]
    exact⟨fun h=>(by cases h),fun h=>absurd h (Qhh _)⟩
   .have:U8 m L 0=m:=by cases L<;>rfl
    rw[this]
    exact(Qn.drew hm.fl).mem hm
  .rintro listed a' w' F' σ'' F2 w2 v i o ⟨σ',k,rfl,hk,hc,hmw,hst,hsl,hall,hv⟩ hg hi ho hls hN'
   refine⟨σ',k,rfl,hk,fun j s hj=>?_,hg.mem hmw,hst.trans (hg.step σ'),hsl,fun e hne e2 i2 hi2=>?_,fun j s o' d hj hjk ho' hd'=>?_⟩
   .rw[Ze (fun e=>?_)]
    .exact hc j s hj
    .have:W3 L i=true:=Hr.2 ⟨j,s,hj,e⟩
     rw[hi]at this
     cases this
   .by_cases e3:i2=i
    .rw[e3,Gx]
    .rw[Ze e3];exact hall e hne e2 i2 hi2
   .rw[Ln (fun e=>?_)]
    .exact(hv j s o' d hj hjk ho' hd').mono hg.fro (fun b hb=>hg.keep b (hmw.fl b hb)) (SLe.refl σ')
    .have:W3 L i=true:=Hr.2 ⟨j,s,hj,honce _ _ _ _ d ho' ho hd' e⟩
     rw[hi]at this
     cases this
  .rintro As listed a' w' F' σ'' i o hE hK hAe hi ho hl hen hcl hls hN' hD' hs ⟨σ',k,rfl,hk,hc,hmm,hst,hsl,_,hv⟩ next hnext
   obtain⟨j,s,hj,rfl⟩:=Hr.1 hi
   obtain⟨⟨o',ho',hg,hjk0,hnl⟩,huniq,hprev,hres⟩:=Nh hL hj
   have hol:ops.toList[s.i]?=some o:=by rw[Qh2];exact ho
   rw[hol]at ho'
   cases ho'
   have hjk:¬ j<k:=fun h=>by rw[(hc j s hj).2 h]at hl;cases hl
   have hj2:j=k:=by
    rcases Qi6 k j with h|h
    .have h0:j≠0:=by omega
     have hjl:=(Qh7.1 hj).1
     have hs':L[j-1]?=some (L[j-1]'Om):=Qgy Om
     obtain⟨hp,hpm⟩:=hprev _ h0 hs'
     have hl1:listed.getD (L[j-1]'Om).i true=true:=by
      cases hv:s.via with
      |nil=>rw[hv]at hpm;simp at hpm
      | cons x r =>
       rw[hv]at hp hpm
       simp only[Lm,Qh5]at hp
       have hx:listed.getD x true=true:=by
        have h3:=hp.1
        rw[hol]at h3
        obtain⟨e,he,heo,heb⟩:=Yq h3
        have:=hen e he heb
        rwa [heo]at this
       rcases Qho.1 hpm with e|hr
       .rw[e];exact hx
       .exact Ex hcl r x hp.2 hx _ hr
     have:=(hc _ _ hs').1 hl1
     omega
    .omega
   subst hj2
   have hop:=(Chn.at hK).1 hj hol
   have rd:∀t∈He o.op,Vc w' F' σ' (get (over ops.toList nl na (Qi env ops.toList As ops.size) L) t) (a'.tmps.getD t undef):=fun t ht=>by
    have hlst:∀(j2:Nat) (o2:Oper),ops[j2]?=some o2->o2.dst=some t->listed.getD j2 true=true:=fun j2 o2 ho2 hd2=>by
     have:=Pq (Pr hnl ht) (show ops.toList[j2]?=some o2 by rw[Qh2];exact ho2) hd2
     rw[Qh9]at this
     obtain⟨e,he,heo,heb⟩:=Yq this
     have:=hen e he heb
     rwa [heo]at this
    rcases Sj ops.toList nl na (Qi env ops.toList As ops.size) t L with ⟨s2,hs2,o2,ho2,hd2,e⟩|e
    .rw[e]
     obtain⟨j2,hj2l,rfl⟩:=List.mem_iff_getElem.1 hs2
     have hj2:L[j2]?=some L[j2]:=Qgy hj2l
     rw[Qh2]at ho2
     exact hv j2 _ o2 t hj2 ((hc j2 _ hj2).1 (hlst _ _ ho2 hd2)) ho2 hd2
    .rw[e,Sh]
     cases hav:Xx nl na (get (Qi env ops.toList As ops.size) t) with
     |false=>exact .junk
     | true =>
      rw[cond_true]
      refine Vc.unfg kp1 kp2 ?_ hav
      by_cases hex:∃(j:Nat) (o':Oper),ops[j]?=some o'/\o'.dst=some t
      .obtain⟨j2,o2,ho2,hd2⟩:=hex
       rw[hE j2 o2 t ho2 hd2]
       exact(hs t).1 j2 o2 (Qh4.1 ho2).1 ho2 hd2 (hlst j2 o2 ho2 hd2)
      .have:get (Qi env ops.toList As ops.size) t=get (Qi env ops.toList As 0) t:=Xb (i:=0) ops.size (Qh3 _) (fun j o2 _ _ h3 h4=>hex ⟨j,o2,by rwa [Qh2]at h3,h4⟩)
       rw[this]
       exact(hs t).2 fun j o2 h3 h4=>absurd ⟨j,o2,h3,h4⟩ hex
   refine Q7w (id:=id) hT (hdst s.i o ho) ho hg hop hN' hmm rd fun v w2' F2 σ2 q1 q2 q3 q4 q5=>hnext v w2' F2 (fg m0 σ2) (fun A u=>q1 _ _ (Q9h q5) A u) ?_ ⟨σ2,j+1,rfl,(Qh7.1 hj).1,fun j' s' hj'=>?_,by rw[Eb hj];exact q3,hst.trans q4,SLe.trans hsl q5,fun e0 _ e1 i2 hi2=>?_,fun j' s' o' d hj' hjk' ho' hd'=>?_⟩
   .show Vc w2' F2 (fg m0 σ2) (wk nl na (K3 L s.i)) v
    rw[hres]
    cases hdo:o.dst with
    |none=>rw[hjk0 hdo];exact Vc.wk .junk
    |some d=>exact Vc.wk (q2 d hdo).fg
   .by_cases e:s'.i=s.i
    .rw[e,Gx,huniq j' s' hj' e]
     exact⟨fun _=>Nat.lt_succ_self _,fun _=>rfl⟩
    .rw[Ze e,hc j' s' hj']
     have:j'≠j:=fun e2=>by subst e2;rw[hj]at hj';cases hj';exact e rfl
     omega
   .by_cases e3:i2=s.i
    .rw[e3,Gx]
    .rw[Ze e3];exact Q7i (Oe (hcv e0) hj e1) ho hen hcl i2 hi2 e3
   .by_cases e:s'.i=s.i
    .have:=huniq j' s' hj' e
     subst this
     rw[hj]at hj'
     cases hj'
     rw[ho]at ho'
     cases ho'
     have hdN:=hdst s.i o ho
     rw[hd']at hdN⊢
     rw[put_eq (by rw[hN'];exact Qhf hdN)]
     exact q2 d hd'
    .rw[Ln (fun e2=>e (honce _ _ _ _ d ho' ho hd' e2))]
     have:j'≠j:=fun e2=>by subst e2;rw[hj]at hj';cases hj';exact e rfl
     exact q1 _ _ q5 _ _ (hv j' s' o' d hj' Om ho' hd')
  .rintro env' a' w' F' σ'' hK hN' hD' hE listed hall ⟨σ',k,rfl,hk,hc,hmm,hst,hsl,_,hv⟩
   have hkl:k=L.length:=by
    rcases Qi6 k L.length with h|h
    .have hs':L[k]?=some (L[k]'h):=Qgy h
     have:=(hc k _ hs').1 (hall _ (hlt hs'))
     omega
    .omega
   subst hkl
   rw[Ea]at hmm
   refine⟨_,_,σ',F',(Chn.at hK).2.o,hN',by rw[hD'];exact hD.step hst,fun t=>?_,hmm,hst,Zj.of hsl⟩
   rcases Sj ops.toList nl na env' t L with ⟨s2,hs2,o2,ho2,hd2,e⟩|e
   .rw[e]
    obtain⟨j2,hj2l,rfl⟩:=List.mem_iff_getElem.1 hs2
    rw[Qh2]at ho2
    exact hv j2 _ o2 t (Qgy hj2l) hj2l ho2 hd2
   .rw[e,Sh]
    cases hav:Xx nl na (get env' t) with
    |false=>exact .junk
    |true=>exact Vc.unfg kp1 kp2 (hE t) hav⟩
theorem Awp.effsF (hT:Qb P T){id N:Nat}{ops:Array Oper}{env:Env}{Q:Ja}(h1:P.follows .mixedOrders=true)(h2:okR ops.toList=true)(hd:Jb N ops.toList=true)(m0:Mem)(nl na:Nat)(L:List Ju)(hL:Kv ops.toList none L=true)
  (kp1:Uv nl m0.loc=true) (kp2:Uv na m0.own=true) (w0:Qt m0 m) (wL:Cn m0 L)
  (h:vcE P T ops.toList m0 (W3 L) (fun i=>wk nl na (K3 L i)) ops.toList 0 env fun E=>Chn P T (over ops.toList nl na E L) ops.toList (fun m=>Ev (Q .normal (over ops.toList nl na E L) m)) m L):Awp P N (.region id ops true) env m Q :=
 Awp.effsC hT h1 h2 hd m0 nl na L hL kp1 kp2 w0 false (fun e=>by cases e) (.of wL) h
theorem Awp.condT {N:Nat}{c:Operand}{x y:Code}{env:Env}{Q:Ja}(hb:strip (ev env c)=(.d (.bool true),[]))(h:Awp P N x env m Q):Awp P N (.cond c x y) env m Q :=
 ⟨fun ro lo a w σ F hN hD he hm=>by
  have hv:=X7 (Z5 he c) (by rw[hb];exact fun p hp=>by cases hp)
  rw[hb]at hv
  refine wpIn_cond_split hv.bool (fun e=>?_) (fun e=>by cases e)
  exact h.run ro lo a w σ F hN hD he hm⟩
end
end Go.Ab
set_option linter.unusedSimpArgs false
set_option linter.unusedVariables false
namespace Go.Ab
theorem Awp.vecCell {P:Program}{N:Nat}{cd:Code}{env:Env}{m:Mem}{Q:Ja}(r:Ref)(c e0 e sz:Nat)(cs:List AV)(f:Nat->List AV)(hB:m.get r=some (.box e0 cs))(hc:cs[c]?=some (.d .nils))
  (k:Awp P N cd env ((m.add (.vec e sz 0 0 f)).put r (some (.box e0 (cs.set c (.osl m.new 0 0 0))))) Q):Awp P N cd env m Q :=
 ⟨fun ro lo a w σ F hN hD he hm=>by
  let pl:Pl:=⟨0,sz,none⟩
  obtain⟨g1,g2⟩:=Ur (w':=w) (pl:=pl) (B:=.vec e sz 0 0 f) hm (Qgx _) (fun _ _=>rfl) ⟨rfl,rfl,fun _=>rfl,fun i hi=>absurd hi Om,fun b t h=>by simp[pl]at h⟩ (fun b t h=>by simp[pl]at h)
  have hat:=Mem.get_at hB
  obtain⟨plr,hr⟩:∃plr,σ r=some (some plr):=by
   cases hs:σ r with
   |none=>rw[(hm.dom r).1 hs]at hat;cases hat
   |some q=>cases q with
    |none=>rw[(hm.lv r _ hs).1 rfl]at hat;cases hat
    |some pl=>exact⟨pl,rfl⟩
  have hne:m.new≠r:=fun h=>by
   have:=Ux hm
   rw[h,hr]at this
   cases this
  obtain⟨B,hB',hok⟩:=(hm.lv r _ hr).2 plr rfl
  rw[hat]at hB'
  injection hB' with hB'
  injection hB' with hB'
  subst hB'
  obtain⟨k1,k2,b,k3,us,k4,k5,k6⟩:=hok
  have hcl:c<cs.length:=(Qh7.1 hc).1
  have hu0:us[c]?=some (us[c]'Om):=Qgy Om
  obtain⟨hu,hu1⟩:=k6 c _ _ hc hu0
  obtain⟨u,hue⟩:∃u,us[c]'Om=u:=⟨_,rfl⟩
  rw[hue]at hu hu0 hu1
  have hun:u=.slice none 0 0:=by cases hu with|d hu=>cases hu;rfl
  subst hun
  have hr1:upd σ m.new (some pl) r=some (some plr):=by rw[J4 σ _ (fun h=>hne h.symm)];exact hr
  have hsle0:SLe σ (upd (upd σ m.new (some pl)) r (some plr)):=fun r' q hq=>by
   by_cases e1:r'=r
   .subst e1
    rw[hr]at hq
    cases hq
    exact⟨_,J3 _ _ _,QLe.refl _⟩
   .rw[J4 _ _ e1]
    exact g2 r' q hq
  obtain⟨q1,q2⟩:=Ge (B':=.box e0 (cs.set c (.osl m.new 0 0 0))) g1 (w':=w) (pl':=plr) hr1 (Qgx _) (fun _ _ _=>rfl) ⟨Qgx _,fun _=>rfl⟩
   ⟨k1,by rw [List.length_set];exact k2,b,k3,us,k4,by rw [List.length_set];exact k5,fun j A u hA hu=>by
    by_cases hj:j=c
    .subst hj
     rw[List.getElem?_set_self hcl]at hA
     cases hA
     rw[hu0]at hu
     cases hu
     refine⟨.osl (q:=some pl) (by rw[J4 _ _ hne];exact J3 σ m.new (some pl)) fun p hp=>?_,rfl⟩
     injection hp with hp
     subst hp
     exact⟨Qgx _,fun _=>⟨rfl,rfl,rfl⟩⟩
    .rw[List.getElem?_set_ne (fun e=>hj e.symm)]at hA
     exact⟨(k6 j A u hA hu).1.mono (fun _ h=>h) (fun _ _=>rfl) hsle0,(k6 j A u hA hu).2⟩⟩
   (fun b' t h=>by rw[k3]at h;cases h;exact⟨(hm.nf r plr _ 1 hr k3).2,.inl ⟨1,k3⟩⟩)
  have hsle:SLe σ (upd (upd σ m.new (some pl)) r (some plr)):=fun r' q hq=>by
   obtain⟨q',e1,e2⟩:=g2 r' q hq
   obtain⟨q'',e3,e4⟩:=q2 r' q' e1
   exact⟨q'',e3,e2.trans e4⟩
  have hst:Step σ F w (upd (upd σ m.new (some pl)) r (some plr)) F w:=⟨rfl,rfl,rfl,Qgx _,Qgx _,fun _ _ _=>rfl,fun _ h=>h,fun _ h=>.inl h,fun b' ⟨rf,p,t,h1,h2⟩=>by
   by_cases e1:rf=r
   .subst e1
    rw[J3]at h1
    cases h1
    exact .inl ⟨rf,plr,t,hr,h2⟩
   .rw[J4 _ _ e1]at h1
    by_cases e2:rf=m.new
    .subst e2
     rw[J3]at h1
     cases h1
     simp[pl]at h2
    .rw[J4 σ _ e2]at h1
     exact .inl ⟨rf,p,t,h1,h2⟩⟩
  exact wpIn_mono (k.run ro lo a w _ F hN (hD.step hst) (he.mono (fun _ h=>h) (fun _ _=>rfl) hsle) q1) fun e a2 w2 h5=>Uw hst (.of hsle) h5⟩
end Go.Ab
