import Derived.Test.YtmlhghddfobmmaaGreatDoorEngF
import Derived.MapKept
namespace Go.Ab
set_option linter.unusedSimpArgs false
set_option linter.unusedVariables false
def Wu:D->D->Prop
 | .sl sz n f,x=>match x with
  | .sl sz' n' f'=>sz=sz'/\n=n'/\∀i,i<n'->f i=f' i
  |_=>False
 | .slc sz n f,x=>match x with
  | .sl sz' n' f'=>sz=sz'/\n=n'/\∀i,i<n'->f i=f' i
  | .slc sz' n' f'=>sz=sz'/\n=n'/\∀i,i<n'->f i=f' i
  |_=>False
 | .nils,x=>match x with
  | .sl _ n _=>n=0
  | .nils=>True
  |_=>False
 |y,x=>y=x
def Hm:List D->List D->Prop
 |[],[]=>True
 |z::r,x::s=>Wu z x/\Hm r s
 |_,_=>False
def DEq:D->D->Prop
 | .agg ys,x=>match x with
  | .agg xs=>ys=xs\/Hm ys xs
  |_=>False
 |y,x=>Wu y x
def R2:List D->List AV->Prop
 |[],[]=>True
 |z::r,A::s=>(match A with
  | .d x=>Wu z x
  |_=>False)/\R2 r s
 |_,_=>False
def Wf (ti:TI)(A:AV):Prop :=
 match A with
 | .d x=>match ti.k.agg with
  |true=>match x with
   | .agg xs=>Hm ti.zero xs
   |_=>False
  |false=>match ti.zero with
   |[z]=>Wu z x
   |_=>False
 | .agg cs=>ti.k.agg=true/\R2 ti.zero cs
 |_=>False
def mapOf (T:Tab) (t:TypeId):Option (Ksh × TI) :=
 match T.at t with
 | some ti=>match ti.k with
  | .map kt et=>match T.at kt with
   | some tk=>match tk.k with
    | .int k=>match T.at et with
     |some te=>some (.one k,te)
     |none=>none
    | .str=>match T.at et with
     |some te=>some (.str,te)
     |none=>none
    | _=>match tk.ks with
     |[]=>none
     |k::r=>match T.at et with
      |some te=>some (.many (k::r),te)
      |none=>none
   |none=>none
  |_=>none
 |none=>none
def Sv (k:IntKind)(ih:List D->Option (List Int))(cs:List D):Option (List Int) :=
 match cs with
 | .int k' n::r=>bif decide (k'=k) then match ih r with
  |some l=>some (n::l)
  |none=>none else none
 |_=>none
def Su (k:IntKind)(ih:List AV->Option (List Int))(cs:List AV):Option (List Int) :=
 match cs with
 | .d (.int k' n)::r=>bif decide (k'=k) then match ih r with
  |some l=>some (n::l)
  |none=>none else none
 |_=>none
def Rr {α:Type}(cs:List α):Option (List Int) :=
 match cs with
 |[]=>some []
 |_=>none
def Nx (ks:List IntKind):List D->Option (List Int):=ks.foldr Sv Rr
def Nw (ks:List IntKind):List AV->Option (List Int):=ks.foldr Su Rr
def keyOf (sh:Ksh)(A:AV):Option (List Int) :=
 match sh with
 | .one k=>match A with
  | .d (.int k' n)=>bif decide (k'=k) then some [n] else none
  |_=>none
 | .many ks=>match A with
  | .d x=>match x with
   | .agg cs=>Nx ks cs
   |_=>none
  | .agg cs=>Nw ks cs
  |_=>none
 | .str=>match A with
  | .d x=>match x with
   | .str s=>some (Jf s)
   |_=>none
  |_=>none
def Up:Ksh->Ksh->Bool
 | .one k,.one k'=>decide (k=k')
 | .many ks,.many ks'=>decide (ks=ks')
 | .str,.str=>true
 |_,_=>false
def S1 (T:Tab) (m:Mem) (t:TypeId) (ok:Bool) (A K:AV):Option (AV × List Prop) :=
 match mapOf T t with
 |none=>none
 | some (sh,te)=>match A with
  | .mp r=>match m.get r with
   |some (.map sh' has val)=>match keyOf sh K with
    |some k=>bif Up sh sh' then some (bif ok then .tup [val k,.d (.bool (has k))] else val k,[has k=false->Wf te (val k)]) else none
    |none=>none
   |some (.look sh' key v hk)=>match keyOf sh K with
    |some k=>bif Up sh sh'&&!ok then some (v,[k=key,hk=false->Wf te v]) else none
    |none=>none
   |_=>none
  | .d x=>match x with
   | .mapd sh' has val=>match keyOf sh K with
    |some k=>bif Up sh sh' then some (bif ok then .tup [.d (val k),.d (.bool (has k))] else .d (val k),[has k=false->Wf te (.d (val k))]) else none
    |none=>none
   |_=>none
  |_=>none
section
variable {P:Program}{T:Tab}{w:World}{F:Nat->Prop}{σ:Pls}{m:Mem}
theorem Wu.ok {y x:D}{v:Value}(h:Rd w F y v)(e:Wu y x):Rd w F x v:=by
 unfold Wu at e
 split at e
 .split at e
  .obtain⟨rfl,rfl,hf⟩:=e
   cases h with
   |sl a g h1 h2 h3 h4 h5=>exact .sl a g h1 h2 (fun i hi=>by rw[<-hf i hi];exact h3 i hi) h4 (fun i j x hi hx=>h5 i j x hi (by rw[hf i hi];exact hx))
  .exact e.elim
 .split at e
  .obtain⟨rfl,rfl,hf⟩:=e
   cases h with
   |slc h=>cases h with
    |sl a g h1 h2 h3 h4 h5=>exact .sl a g h1 h2 (fun i hi=>by rw[<-hf i hi];exact h3 i hi) h4 (fun i j x hi hx=>h5 i j x hi (by rw[hf i hi];exact hx))
  .obtain⟨rfl,rfl,hf⟩:=e
   cases h with
   |slc h=>cases h with
    |sl a g h1 h2 h3 h4 h5=>exact .slc (.sl a g h1 h2 (fun i hi=>by rw[<-hf i hi];exact h3 i hi) h4 (fun i j x hi hx=>h5 i j x hi (by rw[hf i hi];exact hx)))
  .exact e.elim
 .split at e
  .subst e
   cases h
   exact .sl ⟨0,0,none⟩ (fun _ _=>undef) (Qgx _) (fun h=>absurd h Om) (fun i hi=>absurd hi Om) (fun i j hi=>absurd hi Om) (fun i j x hi=>absurd hi Om)
  .exact h
  .exact e.elim
 .subst e;exact h
theorem Hm.ok:∀{zs xs:List D} {us:List Value},Hm zs xs->us.length=zs.length->(∀(j:Nat) z u,zs[j]?=some z->us[j]?=some u->Rd w F z u) ->
  us.length=xs.length/\∀(j:Nat) x u,xs[j]?=some x->us[j]?=some u->Rd w F x u
 |[],[],us,_,hl,_=>⟨hl,fun j x u h=>by simp at h⟩
 |z::r,x::s,u0::us,h,hl,hr=>by
  obtain⟨h1,h2⟩:=Hm.ok (us:=us) h.2 (by simpa using hl) (fun j z u hz hu=>hr (j+1) z u (by simpa using hz) (by simpa using hu))
  refine⟨by simp[h1],fun j y u hy hu=>?_⟩
  cases j with
  |zero=>simp at hy hu;subst hy;subst hu;exact Wu.ok (hr 0 z u0 rfl rfl) h.1
  |succ j=>exact h2 j y u (by simpa using hy) (by simpa using hu)
 |z::r,x::s,[],h,hl,_=>by simp at hl
 |[],_::_,_,h,_,_=>h.elim
 |_::_,[],_,h,_,_=>h.elim
theorem DEq.ok {y x:D}{v:Value}(h:Rd w F y v)(e:DEq y x):Rd w F x v:=by
 unfold DEq at e
 split at e
 .split at e
  .rcases e with rfl|e
   .exact h
   .cases h with
    |agg hl h =>
     obtain⟨g1,g2⟩:=Hm.ok (w:=w) (F:=F) e hl h
     exact .agg g1 g2
  .exact e.elim
 .exact Wu.ok h e
theorem R2.ok:∀{zs:List D} {xs:List AV} {us:List Value},R2 zs xs->us.length=zs.length->(∀(j:Nat) z u,zs[j]?=some z->us[j]?=some u->Rd w F z u) ->
  us.length=xs.length/\∀(j:Nat) x u,xs[j]?=some x->us[j]?=some u->Vc w F σ x u
 |[],[],us,_,hl,_=>⟨hl,fun j x u h=>by simp at h⟩
 | z :: r,x :: s,u0 :: us,h,hl,hr=>by
  obtain⟨h0,h⟩:=h
  obtain⟨h1,h2⟩:=R2.ok (us:=us) h (by simpa using hl) (fun j z u hz hu=>hr (j+1) z u (by simpa using hz) (by simpa using hu))
  refine⟨by simp[h1],fun j y u hy hu=>?_⟩
  cases j with
  |zero =>
   simp at hy hu;subst hy;subst hu
   split at h0
   .exact .d (Wu.ok (hr 0 z u0 rfl rfl) h0)
   .exact h0.elim
  |succ j=>exact h2 j y u (by simpa using hy) (by simpa using hu)
 |z::r,x::s,[],h,hl,_=>by simp at hl
 |[],_::_,_,h,_,_=>h.elim
 |_::_,[],_,h,_,_=>h.elim
theorem Wf.ok {t:TypeId}{ti:TI}(ht:Zo P t ti=true){A:AV}(h:Wf ti A)(w':World):∃z,(zeroValue t).run P w'=.ok z w'/\Vc w F σ A z:=by
 obtain⟨z,hz,h1,h2⟩:=Ka ht w'
 have ha:=Qg3 ht w' hz
 obtain⟨k1,k2⟩:=Ls (w:=w) (F:=F) h1
 refine⟨z,hz,?_⟩
 unfold Wf at h
 split at h
 .rename_i x
  split at h
  .rename_i hagg
   rw[hagg]at ha
   cases z<;>simp[Nu]at ha
   rename_i cs
   split at h
   .have hl:cs.toList.length=ti.zero.length:=k1
    obtain⟨g1,g2⟩:=Hm.ok (w:=w) (F:=F) h hl (fun j z u hz hu=>(k2 j z u hz hu).1)
    have:=Rd.agg g1 g2
    rw[Qi2]at this
    exact .d this
   .exact h.elim
  .rename_i hagg
   rw[hagg]at ha
   have hc:z.cells=#[z]:=by cases z<;>first|rfl|(simp[Nu]at ha)
   split at h
   .rename_i z0 e0
    rw[hc,e0]at k2
    exact .d (Wu.ok (k2 0 z0 z rfl rfl).1 h)
   .exact h.elim
 .rename_i cs0
  obtain⟨hagg,h⟩:=h
  rw[hagg]at ha
  cases z<;>simp[Nu]at ha
  rename_i cs
  have hl:cs.toList.length=ti.zero.length:=k1
  obtain⟨g1,g2⟩:=R2.ok (w:=w) (F:=F) (σ:=σ) h hl (fun j z u hz hu=>(k2 j z u hz hu).1)
  have:=Vc.agg g1 g2
  rw[Qi2]at this
  exact this
 .exact h.elim
def Bt (P:Program)(kt:TypeId):Ksh->Prop
 | .one k=>P.underlying kt=some (.int k)
 | .many ks=>Hj P kt ks
 | .str=>P.underlying kt=some .string
theorem E8 (hT:Qb P T){t:TypeId}{sh:Ksh}{te:TI}(h:mapOf T t=some (sh,te)) :
  ∃kt et,P.underlying t=some (.map kt et)/\Bt P kt sh/\Zo P et te=true:=by
 unfold mapOf at h
 split at h<;>try (cases h;done)
 rename_i ti hti
 split at h<;>try (cases h;done)
 rename_i kt et hk
 have h1:=Xu (hT _ _ hti)
 rw[hk]at h1
 split at h<;>try (cases h;done)
 rename_i tk htk
 split at h<;>try (cases h;done)
 .rename_i k hkk
  split at h<;>try (cases h;done)
  rename_i te' hte
  simp only[Qgz,Qh6]at h
  obtain⟨rfl,rfl⟩:=h
  have h2:=Xu (hT _ _ htk)
  rw[hkk]at h2
  exact⟨kt,et,Sx h1,Nz h2,hT _ _ hte⟩
 .rename_i hkk
  split at h<;>try (cases h;done)
  rename_i te' hte
  simp only[Qgz,Qh6]at h
  obtain⟨rfl,rfl⟩:=h
  have h2:=Xu (hT _ _ htk)
  rw[hkk]at h2
  exact⟨kt,et,Sx h1,Q1j h2,hT _ _ hte⟩
 .split at h<;>try (cases h;done)
  rename_i k r hks
  split at h<;>try (cases h;done)
  rename_i te' hte
  simp only[Qgz,Qh6]at h
  obtain⟨rfl,rfl⟩:=h
  have h2:=Qg2 (hT _ _ htk) hks
  rw[hks]at h2
  exact⟨kt,et,Sx h1,h2,hT _ _ hte⟩
theorem Q1h:∀{ks:List IntKind} {cs:List D} {k:List Int} {us:List Value},Nx ks cs=some k->us.length=cs.length->(∀(j:Nat) x u,cs[j]?=some x->us[j]?=some u->Rd w F x u)->k.length=ks.length/\us=List.zipWith Value.int ks k
 | [],cs,k,us,h,hl,hv=>by
  cases cs with
  |nil =>
   simp[Nx,Rr]at h
   subst h
   cases us with
   |nil=>exact⟨rfl,rfl⟩
   |cons=>simp at hl
  |cons=>simp[Nx,Rr]at h
 | i :: r,cs,k,us,h,hl,hv=>by
  have h':Sv i (Nx r) cs=some k:=h
  unfold Sv at h'
  split at h'<;>try (cases h';done)
  rename_i k' n r'
  cases hd:decide (k'=i) with
  |false=>rw[hd]at h';cases h'
  | true =>
   rw[hd,cond_true]at h'
   have:=Qhd hd
   subst this
   split at h'<;>try (cases h';done)
   rename_i l hl'
   injection h' with h'
   subst h'
   cases us with
   |nil=>simp at hl
   |cons u us =>
    obtain⟨g1,g2⟩:=Q1h (us:=us) hl' (by simpa using hl) (fun j x u hx hu=>hv (j+1) x u (by simpa using hx) (by simpa using hu))
    have hu:=hv 0 _ _ rfl rfl
    cases hu
    exact⟨by simp[g1],by simp[<-g2]⟩
theorem Q1g:∀{ks:List IntKind} {cs:List AV} {k:List Int} {us:List Value},Nw ks cs=some k->us.length=cs.length->(∀(j:Nat) x u,cs[j]?=some x->us[j]?=some u->Vc w F σ x u)->k.length=ks.length/\us=List.zipWith Value.int ks k
 | [],cs,k,us,h,hl,hv=>by
  cases cs with
  |nil =>
   simp[Nw,Rr]at h
   subst h
   cases us with
   |nil=>exact⟨rfl,rfl⟩
   |cons=>simp at hl
  |cons=>simp[Nw,Rr]at h
 | i :: r,cs,k,us,h,hl,hv=>by
  have h':Su i (Nw r) cs=some k:=h
  unfold Su at h'
  split at h'<;>try (cases h';done)
  rename_i k' n r'
  cases hd:decide (k'=i) with
  |false=>rw[hd]at h';cases h'
  | true =>
   rw[hd,cond_true]at h'
   have:=Qhd hd
   subst this
   split at h'<;>try (cases h';done)
   rename_i l hl'
   injection h' with h'
   subst h'
   cases us with
   |nil=>simp at hl
   |cons u us =>
    obtain⟨g1,g2⟩:=Q1g (us:=us) hl' (by simpa using hl) (fun j x u hx hu=>hv (j+1) x u (by simpa using hx) (by simpa using hu))
    have hu:=(hv 0 _ _ rfl rfl).int
    subst hu
    exact⟨by simp[g1],by simp[<-g2]⟩
theorem Dk {sh:Ksh}{A:AV}{v:Value}{k:List Int}(h:keyOf sh A=some k)(hv:Vc w F σ A v):sh.fits k/\v=sh.key k:=by
 unfold keyOf at h
 split at h
 .split at h<;>try (cases h;done)
  rename_i k0 _ k' n
  cases hk:decide (k'=k0) with
  |false=>rw[hk]at h;cases h
  |true =>
   rw[hk]at h
   simp only[cond_true,Qgz]at h
   subst h
   have:=Qhd hk
   subst this
   exact⟨rfl,hv.int⟩
 .split at h<;>try (cases h;done)
  .split at h<;>try (cases h;done)
   cases hv with
   | d hv=>cases hv with
    |agg hl hv =>
     obtain⟨g1,g2⟩:=Q1h h hl hv
     exact⟨g1,by rw[g2];rfl⟩
  .cases hv with
   |agg hl hv =>
    obtain⟨g1,g2⟩:=Q1g h hl hv
    exact⟨g1,by rw[g2];rfl⟩
 .split at h<;>try (cases h;done)
  split at h<;>try (cases h;done)
  cases h
  cases hv with
  |d hv=>cases hv with
   |str=>exact⟨Rb _,by show _=Value.string (B9 (Jf _));rw[Au]⟩
theorem D0 {a b:Ksh}(h:Up a b=true):a=b:=by
 cases a<;>cases b<;>simp[Up]at h<;>first|rw[h]|rfl
def Bl (sh:Ksh)(ks:List (List Int))(es:Array MapEntry):Prop :=
 ks.length=es.size/\∀(i:Nat) k e,ks[i]?=some k->es[i]?=some e->sh.fits k/\e.key=sh.key k
theorem key_inj {sh:Ksh}{k k':List Int}{kt:TypeId}(hs:Bt P kt sh)(h:sh.fits k)(h':sh.fits k')(e:sh.key k=sh.key k'):k=k':=by
 cases sh with
 |one i =>
  simp only[Ksh.fits]at h h'
  match k,k',h,h' with
  |[a],[b],_,_=>simpa[Ksh.key] using e
 |str =>
  simp only[Ksh.key,Value.string.injEq]at e
  rw[<-O3 h,<-O3 h',e]
 | many ks =>
  simp only[Ksh.fits]at h h'
  simp only[Ksh.key,Value.agg.injEq]at e
  replace e:List.zipWith Value.int ks k=List.zipWith Value.int ks k':=by simpa using e
  clear hs
  induction ks generalizing k k' with
  |nil=>rw[List.length_eq_zero_iff.1 h,List.length_eq_zero_iff.1 h']
  | cons i r ih =>
   match k,k',h,h' with
   |a::k,b::k',h,h' =>
    simp only[List.zipWith_cons_cons,List.cons.injEq,Value.int.injEq,true_and]at e
    rw[e.1,ih (by simpa using h) (by simpa using h') e.2]
theorem K8 {kt:TypeId}{sh:Ksh}(hs:Bt P kt sh){k:List Int}(hf:sh.fits k)(b:Bool)(w':World):(Instr.checkKey b 10000 kt (sh.key k)).run P w'=.ok () w':=by
 cases sh with
 |one i=>exact MapKept.run_checkKey (d:=.int i) hs (show MapKept.IsKey (.int i) ((Ksh.one i).key k) from rfl) b 9999
 |many ks=>exact Qbj hs hf b w'
 |str=>exact MapKept.run_checkKey (d:=.string) hs (show MapKept.IsKey .string (Ksh.str.key k) from trivial) b 9999
theorem Qfh {kt:TypeId}{sh:Ksh}(hs:Bt P kt sh){k:List Int}(w':World):(Instr.keyThatStays (sh.key k) (sh.key k)).run P w'=.ok (sh.key k) w':=by
 cases sh with
 |one i=>exact MapKept.run_keyThatStays (d:=.int i) (show MapKept.IsKey (.int i) ((Ksh.one i).key k) from rfl)
 |many ks=>exact Qbm ks k w'
 |str=>exact MapKept.run_keyThatStays (d:=.string) (show MapKept.IsKey .string (Ksh.str.key k) from trivial)
theorem C0 {kt:TypeId}{sh:Ksh}(hs:Bt P kt sh){ks:List (List Int)}{es:Array MapEntry}(hks:Bl sh ks es){k:List Int}(hk:sh.fits k) :
  (k ∉ ks/\∀w',(Instr.findKey kt (sh.key k) es.toList).run P w'=.ok none w') \/
  ∃i e,es[i]?=some e/\ks[i]?=some k/\∀w',(Instr.findKey kt (sh.key k) es.toList).run P w'=.ok (some (i,e.val)) w':=by
 cases sh with
 |many ksh =>
  rcases Qbl hs hk es.toList ks (by rw[hks.1];simp) (fun j k e hj he=>hks.2 j k e hj (by rwa [Qh2]at he)) with h|⟨j,e,h1,h2,h3⟩
  .exact .inl h
  .exact .inr ⟨j,e,by rwa [Qh2]at h1,h2,h3⟩
 | one i0 =>
  have hall:∀x∈es.toList,MapKept.IsKey (.int i0) x.key:=fun x hx=>by
   obtain⟨i,hi,rfl⟩:=List.getElem_of_mem hx
   have hi':i<ks.length:=by rw[hks.1];simpa using hi
   rw[(hks.2 i ks[i] es.toList[i] (Qgy hi') (by rw[<-Qh2];exact Qgy hi)).2]
   rfl
  rcases MapKept.findNow_spec (d:=.int i0) (k:=(Ksh.one i0).key k) rfl es.toList 0 hall with ⟨h1,h2⟩|⟨j,e,h1,h2,h3⟩
  .refine .inl ⟨fun hm=>?_,fun w'=>MapKept.run_findKey hs h1⟩
   obtain⟨i,hi,rfl⟩:=List.getElem_of_mem hm
   have hi':i<es.size:=by rw[<-hks.1];exact hi
   exact h2 es[i] (by simp) (hks.2 i ks[i] es[i] (Qgy hi) (Array.getElem?_eq_getElem hi')).2
  .rw[Qh9]at h1
   rw[Qh2]at h2
   have hj:j<es.size:=(Qh4.1 h2).1
   have hj':j<ks.length:=by rw[hks.1];exact hj
   obtain⟨g1,g2⟩:=hks.2 j ks[j] e (Qgy hj') h2
   exact .inr ⟨j,e,h2,by rw[Qgy hj',key_inj (P:=P) (kt:=kt) hs g1 hk (g2.symm.trans h3)],fun w'=>MapKept.run_findKey hs h1⟩
 | str =>
  have hall:∀x∈es.toList,MapKept.IsKey .string x.key:=fun x hx=>by
   obtain⟨i,hi,rfl⟩:=List.getElem_of_mem hx
   have hi':i<ks.length:=by rw[hks.1];simpa using hi
   rw[(hks.2 i ks[i] es.toList[i] (Qgy hi') (by rw[<-Qh2];exact Qgy hi)).2]
   exact trivial
  rcases MapKept.findNow_spec (d:=.string) (k:=Ksh.str.key k) trivial es.toList 0 hall with ⟨h1,h2⟩|⟨j,e,h1,h2,h3⟩
  .refine .inl ⟨fun hm=>?_,fun w'=>MapKept.run_findKey hs h1⟩
   obtain⟨i,hi,rfl⟩:=List.getElem_of_mem hm
   have hi':i<es.size:=by rw[<-hks.1];exact hi
   exact h2 es[i] (by simp) (hks.2 i ks[i] es[i] (Qgy hi) (Array.getElem?_eq_getElem hi')).2
  .rw[Qh9]at h1
   rw[Qh2]at h2
   have hj:j<es.size:=(Qh4.1 h2).1
   have hj':j<ks.length:=by rw[hks.1];exact hj
   obtain⟨g1,g2⟩:=hks.2 j ks[j] e (Qgy hj') h2
   exact .inr ⟨j,e,h2,by rw[Qgy hj',key_inj (P:=P) (kt:=kt) hs g1 hk (g2.symm.trans h3)],fun w'=>MapKept.run_findKey hs h1⟩
theorem E9 (hm:Q3 m σ F w){r:Ref}{v:Value}(h:Vc w F σ (.mp r) v){sh:Ksh}{has:List Int->Bool}{val:List Int->AV}(hB:m.at r=some (some (.map sh has val))) :
  ∃pl b,σ r=some (some pl)/\pl.g=0/\pl.loc=some (b,1)/\v=.map (some b)/\Jx w F σ (.map sh has val) pl:=by
 cases h with
 | @mp _ _ q hr h =>
  cases q with
  |none=>have:=(hm.lv r _ hr).1 rfl;rw[hB]at this;cases this
  |some pl =>
   obtain⟨B',hB',hok⟩:=(hm.lv r _ hr).2 pl rfl
   rw[hB]at hB'
   injection hB' with hB'
   injection hB' with hB'
   subst hB'
   have hok':=hok
   obtain⟨h1,b,h2,_⟩:=hok
   obtain⟨b',t,h3,h4⟩:=h pl rfl h1
   rw[h2]at h3
   obtain⟨rfl,rfl⟩:=Prod.mk.inj (Option.some.inj h3)
   exact⟨pl,b,hr,h1,h2,h4,hok'⟩
theorem Qbi (hm:Q3 m σ F w){r:Ref}{v:Value}(h:Vc w F σ (.mp r) v){sh:Ksh}{key:List Int}{vl:AV}{hk:Bool}(hB:m.at r=some (some (.look sh key vl hk))) :
  ∃pl b,σ r=some (some pl)/\pl.loc=some (b,1)/\v=.map (some b)/\∃(es:Array MapEntry) (clock:Nat) (ks:List (List Int)),w.heap[b]?=some (.map es clock)/\ks.length=es.size /\
   (∀(i:Nat) k e,ks[i]?=some k->es[i]?=some e->sh.fits k/\e.key=sh.key k)/\(hk=true->key∈ks)/\∀(i:Nat) e,ks[i]?=some key->es[i]?=some e->Vc w F σ vl e.val:=by
 cases h with
 | @mp _ _ q hr h =>
  cases q with
  |none=>have:=(hm.lv r _ hr).1 rfl;rw[hB]at this;cases this
  |some pl =>
   obtain⟨B',hB',hok⟩:=(hm.lv r _ hr).2 pl rfl
   rw[hB]at hB'
   injection hB' with hB'
   injection hB' with hB'
   subst hB'
   obtain⟨g0,b,hl,hh⟩:=hok
   obtain⟨b',t',hl',hv⟩:=h pl rfl g0
   rw[hl]at hl'
   obtain⟨rfl,_⟩:=Prod.mk.inj (Option.some.inj hl')
   exact⟨pl,b,hr,hl,hv,hh⟩
theorem Q8v (hT:Qb P T)(hm:Q3 m σ F w){x y:AV}{X Y:Value}{t:TypeId}{ok:Bool}{A:AV}{obs:List Prop}(hx:Vc w F σ x X)(hy:Vc w F σ y Y)
  (h:S1 T m t ok x y=some (A,obs)) (hob:∀p∈obs,p):Z7 P F σ w (Instr.lookup t X Y ok) A:=by
 unfold S1 at h
 split at h<;>try (cases h;done)
 rename_i sh te hmt
 obtain⟨kt,et,hu,hs,hte⟩:=E8 hT hmt
 split at h<;>try (cases h;done)
 rotate_left
 .split at h<;>try (cases h;done)
  rename_i sh' has val
  split at h<;>try (cases h;done)
  rename_i k hkey
  cases hsh:Up sh sh' with
  |false=>rw[hsh]at h;cases h
  | true =>
   rw[hsh]at h
   simp only[cond_true,Qgz,Qh6]at h
   obtain⟨rfl,rfl⟩:=h
   have:=D0 hsh
   subst this
   have hz:has k=false->Wf te (.d (val k)):=hob _ (by simp)
   obtain⟨hfit,rfl⟩:=Dk hkey hy
   obtain⟨b,rfl,es,clock,ks,hF,g1,g2,g3,g4,g5,g6⟩:∃b,X=.map (some b)/\∃es clock,∃ks:List (List Int),F b/\w.heap[b]?=some (.map es clock)/\ks.length=es.size/\ks.Nodup /\
     (∀(i:Nat) k e,ks[i]?=some k->es[i]?=some e->sh.fits k/\e.key=sh.key k/\has k=true)/\(∀k,sh.fits k->has k=true->k∈ks)/\(∀(i:Nat) k e,ks[i]?=some k->es[i]?=some e->Rd w F (val k) e.val):=by
    cases hx with
    |d hx=>cases hx with
     |mapd b es clock ks g1 g2 g3 g4 g5 g6 _ g7=>exact⟨b,rfl,es,clock,ks,g1,g2,g3,g4,g5,g6,g7⟩
   have hks:Bl sh ks es:=⟨g2,fun i k e hi he=>⟨(g4 i k e hi he).1,(g4 i k e hi he).2.1⟩⟩
   have key:∃v,Vc w F σ (.d (val k)) v/\∀w',V6 F σ w w'->(Instr.lookup t (.map (some b)) (sh.key k) ok).run P w'=.ok (if ok then .tuple #[v,.bool (has k)] else v) w':=by
    have hobj:∀w',V6 F σ w w'->w'.heap[b]?=some (.map es clock):=fun w' ha=>by rw[ha b (.inl hF)];exact g1
    rcases C0 hs hks hfit with ⟨e1,e2⟩|⟨i,e,e1,e2,e3⟩
    .have hh:has k=false:=by
      cases hh:has k with
      |false=>rfl
      |true=>exact absurd (g5 k hfit hh) e1
     obtain⟨z,hz1,hz2⟩:=Wf.ok (w:=w) (F:=F) (σ:=σ) hte (hz hh) w
     refine⟨z,hz2,fun w' ha=>?_⟩
     have hz':=Ag hte hz1 w'
     cases ok<;>simp[Instr.lookup,run_underlying hu,MapKept.run_getObj_map (hobj w' ha),K8 hs hfit,e2,hz',hh]
    .obtain⟨_,_,hh⟩:=g4 i k e e2 e1
     refine⟨e.val,.d (g6 i k e e2 e1),fun w' ha=>?_⟩
     cases ok<;>simp[Instr.lookup,run_underlying hu,MapKept.run_getObj_map (hobj w' ha),K8 hs hfit,e3,hh]
   obtain⟨v,hv,hrun⟩:=key
   cases ok with
   |false=>exact⟨v,hv,fun w' ha=>by rw[hrun w' ha];rfl⟩
   |true =>
    refine⟨.tuple #[v,.bool (has k)],?_,fun w' ha=>by rw[hrun w' ha];rfl⟩
    refine .tup (us:=[v,.bool (has k)]) rfl fun j x u hx hu=>?_
    match j with
    |0=>simp at hx hu;subst hx;subst hu;exact hv
    |1=>simp at hx hu;subst hx;subst hu;exact .d .bool
    |j+2=>simp at hx
 rename_i r
 split at h<;>try (cases h;done)
 rotate_left
 .rename_i sh' key vl hk hB
  split at h<;>try (cases h;done)
  rename_i k hkey
  cases hsh:(Up sh sh'&&!ok) with
  |false=>rw[hsh]at h;cases h
  | true =>
   rw[hsh]at h
   simp only[cond_true,Qgz,Qh6]at h
   obtain⟨rfl,rfl⟩:=h
   simp only[Qh5,Bool.not_eq_true']at hsh
   have:=D0 hsh.1
   subst this
   have hkk:k=key:=hob _ (by simp)
   subst hkk
   have hz:hk=false->Wf te vl:=hob _ (by simp)
   rw[hsh.2]
   obtain⟨hfit,rfl⟩:=Dk hkey hy
   obtain⟨pl,b,hr,hl,rfl,es,clock,ks,g1,g2,g3,g4,g5⟩:=Qbi hm hx (Mem.get_at hB)
   have hks:Bl sh ks es:=⟨g2,fun i k e hi he=>g3 i k e hi he⟩
   have hobj:∀w',V6 F σ w w'->w'.heap[b]?=some (.map es clock):=fun w' ha=>by rw[ha b (.inr ⟨r,pl,1,hr,hl⟩)];exact g1
   rcases C0 hs hks hfit with ⟨e1,e2⟩|⟨i,e,e1,e2,e3⟩
   .have hh:hk=false:=by
     cases hh:hk with
     |false=>rfl
     |true=>exact absurd (g4 hh) e1
    obtain⟨z,hz1,hz2⟩:=Wf.ok (w:=w) (F:=F) (σ:=σ) hte (hz hh) w
    refine⟨z,hz2,fun w' ha=>?_⟩
    have hz':=Ag hte hz1 w'
    simp[Instr.lookup,run_underlying hu,MapKept.run_getObj_map (hobj w' ha),K8 hs hfit,e2,hz']
   .refine⟨e.val,g5 i e e2 e1,fun w' ha=>?_⟩
    simp[Instr.lookup,run_underlying hu,MapKept.run_getObj_map (hobj w' ha),K8 hs hfit,e3]
 rename_i sh' has val hB
 split at h<;>try (cases h;done)
 rename_i k hkey
 cases hsh:Up sh sh' with
 |false=>rw[hsh]at h;cases h
 | true =>
  rw[hsh]at h
  simp only[cond_true,Qgz,Qh6]at h
  obtain⟨rfl,rfl⟩:=h
  have:=D0 hsh
  subst this
  have hz:has k=false->Wf te (val k):=hob _ (by simp)
  obtain⟨hfit,rfl⟩:=Dk hkey hy
  obtain⟨pl,b,hr,_,hl,rfl,h1,b',hl',es,clock,ks,g1,g2,g3,g4,g5,gst⟩:=E9 hm hx (Mem.get_at hB)
  rw[hl]at hl'
  obtain⟨rfl,_⟩:=Prod.mk.inj (Option.some.inj hl')
  have hks:Bl sh ks es:=⟨g2,fun i k e hi he=>⟨(g4 i k e hi he).1,(g4 i k e hi he).2.1⟩⟩
  have key:∃v,Vc w F σ (val k) v/\∀w',V6 F σ w w'->(Instr.lookup t (.map (some b)) (sh.key k) ok).run P w'=.ok (if ok then .tuple #[v,.bool (has k)] else v) w':=by
   have hobj:∀w',V6 F σ w w'->w'.heap[b]?=some (.map es clock):=fun w' ha=>by rw[ha b (.inr ⟨r,pl,1,hr,hl⟩)];exact g1
   rcases C0 hs hks hfit with ⟨e1,e2⟩|⟨i,e,e1,e2,e3⟩
   .have hh:has k=false:=by
     cases hh:has k with
     |false=>rfl
     |true=>exact absurd (g5 k hfit hh) e1
    obtain⟨z,hz1,hz2⟩:=Wf.ok (w:=w) (F:=F) (σ:=σ) hte (hz hh) w
    refine⟨z,hz2,fun w' ha=>?_⟩
    have hz':=Ag hte hz1 w'
    cases ok<;>simp[Instr.lookup,run_underlying hu,MapKept.run_getObj_map (hobj w' ha),K8 hs hfit,e2,hz',hh]
   .obtain⟨_,_,hh,hv⟩:=g4 i k e e2 e1
    refine⟨e.val,hv,fun w' ha=>?_⟩
    cases ok<;>simp[Instr.lookup,run_underlying hu,MapKept.run_getObj_map (hobj w' ha),K8 hs hfit,e3,hh]
  obtain⟨v,hv,hrun⟩:=key
  cases ok with
  |false=>exact⟨v,hv,fun w' ha=>by rw[hrun w' ha];rfl⟩
  |true =>
   refine⟨.tuple #[v,.bool (has k)],?_,fun w' ha=>by rw[hrun w' ha];rfl⟩
   refine .tup (us:=[v,.bool (has k)]) rfl fun j x u hx hu=>?_
   match j with
   |0=>simp at hx hu;subst hx;subst hu;exact hv
   |1=>simp at hx hu;subst hx;subst hu;exact .d .bool
   |j+2=>simp at hx
end
def un (x:AV × List Prop)(f:AV->Option (AV × List Prop)):Option (AV × List Prop) :=
 match x with
 |(a,p)=>match f a with
  |some (v,o)=>some (v,cat p o)
  |none=>none
def un? (x:Option (AV × List Prop))(f:Option AV->Option (AV × List Prop)):Option (AV × List Prop) :=
 match x with
 |none=>f none
 |some (a,p)=>match f (some a) with
  |some (v,o)=>some (v,cat p o)
  |none=>none
def S6:AV->Option (AV × List Prop)
 | .d (.bool b)=>some (.d (.bool (!b)),[])
 |_=>none
def S4:AV->Option (AV × List Prop)
 | .d (.int k a)=>match k with
  | .u64=>none
  |k=>some (.d (.int k (0-a)),[In k (0-a)])
 |_=>none
def Tq (k:Nat):AV->Option (AV × List Prop)
 | .tup vs=>match Wj vs k with
  |some v=>some (v,[])
  |none=>none
 |_=>none
def Gp (env:Env):List Operand->List AV
 |[]=>[]
 |x::r=>ev env x::Gp env r
def Q0f (f:Fn)(first cap:List AV):Option (AV × List Prop) :=
 match Wh first,Wh cap with
 |some xs,some ys=>some (.d (.fn f xs ys),[])
 |_,_=>some (.fn f first cap,[])
def Ve (env:Env):List (Nat × Operand)->List (Nat × AV)
 |[]=>[]
 |(i,x)::r=>(i,ev env x)::Ve env r
def D3 (mx:Bool):AV->AV->Option (AV × List Prop)
 | .d (.int k a),.d (.int k' b)=>bif decide (k=k') then some (.d (.int k (bif mx then max a b else min a b)),[]) else none
 |_,_=>none
def Q0k (m:Mem):AV->Option (AV × List Prop)
 | .d (.pt cs off)=>some (.d (.pt cs off),[])
 | .d (.ifc t x)=>some (.d (.ifc t x),[])
 | .ptr r g i off=>match M0 m r g i with
  |some l=>some (.ptr r g i off,l)
  |none=>none
 |_=>none
def Ws:List (Nat × AV)->List (Nat × AV) × List Prop
 |[]=>([],[])
 | (i,A) :: r=>match strip A with
  |(B,p)=>match Ws r with
   |(l,q)=>((i,B)::l,cat p q)
def Xi (T:Tab)(env:Env)(m:Mem)(op:Op):Option (AV × List Prop) :=
 match op with
 | .move x=>D4 (ev env x)
 | .assign x=>D4 (ev env x)
 | .pick c a b=>S7 (strip (ev env c)) (strip (ev env a)) (strip (ev env b))
 | .binOp op t x y _=>un (strip (ev env x)) fun a=>un (strip (ev env y)) fun b=>match Tl op a b with
  |some r=>some r
  |none=>match Tp T op t a b with
   |some r=>some r
   |none=>S5 T op t y a
 | .unOp .not _ x=>un (strip (ev env x)) S6
 | .unOp .neg _ x=>un (strip (ev env x)) S4
 | .load t x=>un (strip (ev env x)) (Rj T m t)
 | .fieldAddr t x k=>un (strip (ev env x)) (Ts T m t k)
 | .indexAddr t x i=>un (strip (ev env x)) fun a=>un (strip (ev env i)) fun b=>Tx T m t a b
 | .field t x k=>un (strip (ev env x)) (Tr T t k)
 | .index t x i=>un (strip (ev env x)) fun a=>un (strip (ev env i)) fun b=>Tw T t a b
 | .extract x k=>un (strip (ev env x)) (Tq k)
 | .makeInterface t x=>un (strip (ev env x)) (Tv T t)
 | .convert s d x=>un (strip (ev env x)) (To T s d)
 | .makeFunc f first cap=>Q0f f (Gp env first.toList) (Gp env cap.toList)
 | .build t parts=>match Ws (Ve env parts.toList) with
  |(l0,p)=>match Tm T m t l0 with
   |some (A,q)=>some (A,cat p q)
   |none=>none
 | .slice t x lo hi none=>un (strip (ev env x)) fun a=>un? (lo.map fun l=>strip (ev env l)) fun l=>un? (hi.map fun h=>strip (ev env h)) fun h=>S9 T m t a l h
 | .nilCheck x=>un (strip (ev env x)) (Q0k m)
 | .lookup t x k ok=>un (strip (ev env x)) fun a=>un (strip (ev env k)) fun b=>S1 T m t ok a b
 | .call { callee:=.builtin .len,args,argTypes } =>
  match args.toList with
  |[x]=>match argTypes.toList with
   |[t]=>un (strip (ev env x)) (Tz T m t)
   |_=>none
  |_=>none
 | .call { callee:=.builtin .cap,args,argTypes } =>
  match args.toList with
  |[x]=>match argTypes.toList with
   |[t]=>un (strip (ev env x)) (Q0d T t)
   |_=>none
  |_=>none
 | .call {callee:=.builtin .max,args,argTypes:=_} =>
  match args.toList with
  |[x,y]=>un (strip (ev env x)) fun a=>un (strip (ev env y)) fun b=>D3 true a b
  |_=>none
 | .call {callee:=.builtin .min,args,argTypes:=_} =>
  match args.toList with
  |[x,y]=>un (strip (ev env x)) fun a=>un (strip (ev env y)) fun b=>D3 false a b
  |_=>none
 |_=>none
section sound
variable {P:Program}{T:Tab}{w:World}{F:Nat->Prop}{σ:Pls}{m:Mem}
theorem V4 {x:AV × List Prop}{f:AV->Option (AV × List Prop)}{A:AV}{obs:List Prop}(h:un x f=some (A,obs))(hob:∀p∈obs,p) :
  (∀p∈x.2,p)/\∃o,f x.1=some (A,o)/\∀p∈o,p:=by
 obtain⟨a,p⟩:=x
 simp only[un]at h
 split at h<;>try (cases h;done)
 rename_i v o ho
 simp only[Qgz,Qh6]at h
 obtain⟨rfl,rfl⟩:=h
 exact⟨(Ji hob).1,o,ho,(Ji hob).2⟩
theorem un?_ok {x:Option (AV × List Prop)}{f:Option AV->Option (AV × List Prop)}{A:AV}{obs:List Prop}(h:un? x f=some (A,obs))(hob:∀p∈obs,p) :
  (∀y,x=some y->∀p∈y.2,p)/\∃o,f (x.map (·.1))=some (A,o)/\∀p∈o,p:=by
 cases x with
 |none=>exact⟨(fun y e=>by cases e),obs,h,hob⟩
 |some x =>
  obtain⟨a,p⟩:=x
  simp only[un?]at h
  split at h<;>try (cases h;done)
  rename_i v o ho
  simp only[Qgz,Qh6]at h
  obtain⟨rfl,rfl⟩:=h
  exact⟨fun y e=>by injection e with e;subst e;exact(Ji hob).1,o,ho,(Ji hob).2⟩
def Ib (P:Program)(F:Nat->Prop)(σ:Pls)(w:World)(ρ:Operand->Value)(o:Oper)(A:AV):Prop :=
 ∃u,Vc w F σ A u/\∀w',V6 F σ w w'->(execOp ρ o).run P w'=.ok (.value u) w'
theorem Z7.op {ρ:Operand->Value}{o:Oper}{A:AV}{s:Sem Value}(h:Z7 P F σ w s A)(he:execOp ρ o=(do pure (.value (<-s)))):Ib P F σ w ρ o A:=by
 obtain⟨u,h1,h2⟩:=h
 exact⟨u,h1,fun w' hw'=>by rw[he];simp[h2 w' hw']⟩
theorem Tj {env:Env}{a:Act}(he:Ql env w F σ a.tmps):∀(l:List Operand),(l.map a.eval).length=(Gp env l).length/\∀(j:Nat) A u,(Gp env l)[j]?=some A->(l.map a.eval)[j]?=some u->Vc w F σ A u
 |[]=>⟨rfl,fun j A u h=>by simp[Gp]at h⟩
 |x::r=>by
  obtain⟨h1,h2⟩:=Tj he r
  refine⟨by simp[Gp,<-h1],fun j A u hA hu=>?_⟩
  cases j with
  |zero=>simp[Gp]at hA hu;subst hA;subst hu;exact Z5 he x
  |succ j=>exact h2 j A u (by simpa[Gp] using hA) (by simpa using hu)
theorem Rk {env:Env}{a:Act}(he:Ql env w F σ a.tmps):∀(l:List (Nat × Operand)),(l.map fun(i,x)=>(i,a.eval x)).map (·.1)=(Ve env l).map (·.1) /\
  ∀(j:Nat) A u,(Ve env l)[j]?=some A->(l.map fun(i,x)=>(i,a.eval x))[j]?=some u->Vc w F σ A.2 u.2
 |[]=>⟨rfl,fun j A u h=>by simp[Ve]at h⟩
 |(i,x)::r=>by
  obtain⟨h1,h2⟩:=Rk he r
  refine⟨by simp only[Qin,Ve,List.cons.injEq];first|exact⟨rfl,h1⟩|exact⟨trivial,h1⟩,fun j A u hA hu=>?_⟩
  cases j with
  |zero=>simp[Ve]at hA hu;subst hA;subst hu;exact Z5 he x
  |succ j=>exact h2 j A u (by simpa[Ve] using hA) (by simpa using hu)
theorem Ba:∀l:List (Nat × AV),(Ws l).1.map (·.1)=l.map (·.1)
 |[]=>rfl
 |(i,A)::r=>by simp[Ws,Ba r]
theorem Bb:∀(l:List (Nat × AV)),(∀p∈(Ws l).2,p)->∀(j:Nat) B,(Ws l).1[j]?=some B->∃A,l[j]?=some A/\∀v,Vc w F σ A.2 v->Vc w F σ B.2 v
 |[],_,j,B,h=>by simp[Ws]at h
 | (i,A) :: r,hp,j,B,h=>by
  simp only[Ws]at hp h
  obtain⟨h1,h2⟩:=Ji hp
  cases j with
  |zero =>
   simp only[List.getElem?_cons_zero,Qgz]at h
   subst h
   exact⟨(i,A),rfl,fun v hv=>X7 hv h1⟩
  |succ j=>exact Bb r h2 j B (by simpa using h)
theorem Q8h (hT:Qb P T)(hm:Q3 m σ F w){a:Act}{t:TypeId}{parts:Array (Nat × Operand)}{l0:List (Nat × AV)}(hk1:(parts.toList.map fun(i,x)=>(i,a.eval x)).map (·.1)=l0.map (·.1))(hk2:∀(j:Nat) A u,l0[j]?=some A->(parts.toList.map fun(i,x)=>(i,a.eval x))[j]?=some u->Vc w F σ A.2 u.2){A:AV}{obs:List Prop}
  (h:Tm T m t l0=some (A,obs)) (hob:∀p∈obs,p):Z7 P F σ w (Instr.build t (parts.map fun(i,x)=>(i,a.eval x))) A:=by
 unfold Tm at h
 split at h<;>try (cases h;done)
 rename_i ti hti
 split at h<;>try (cases h;done)
 rotate_left
 .rename_i n' e hk
  split at h<;>try (cases h;done)
  split at h<;>try (cases h;done)
  rename_i te hte
  simp only[Qgz,Qh6]at h
  obtain⟨rfl,rfl⟩:=h
  have ht:=hT t ti hti
  have hk':=Xu ht
  rw[hk]at hk'
  have hu:=Ny hk'
  obtain⟨i,z,hi,his,_,hz,hzs,_⟩:=Yj ht
  obtain⟨ie,_,hie,_⟩:=Yj (hT _ _ hte)
  have hp0:parts=#[]:=by
   have h1:=hk1
   have h2:parts.toList=[]:=by simpa using h1
   simpa using h2
  obtain⟨h1,h2⟩:=Ls (w:=w) (F:=F) hzs
  refine⟨.agg z.cells,.d ?_,fun w' _=>run_build w' t _ _ ?_⟩
  .have:=Rd.agg (w:=w) (F:=F) (cs:=ti.zero) (us:=z.cells.toList) h1 (fun j x u hx hu=>(h2 j x u hx hu).1)
   simpa using this
  .unfold Program.built
   simp only[hi,hu,hz,hie,hp0]
   simp[Instr.fill]
 rename_i gs hk
 split at h<;>try (cases h;done)
 rename_i cs p hfill
 simp only[Qgz,Qh6]at h
 obtain⟨rfl,rfl⟩:=h
 have ht:=hT t ti hti
 have hk':=Xu ht
 rw[hk]at hk'
 obtain⟨fields,hu,hsz,hf⟩:=Sy hk'
 obtain⟨i,z,hi,his,_,hz,hzs,_⟩:=Yj ht
 have hpl:∃places,fields.toList.mapM (fun f=>(P.info? f.type).map fun i=>(f.offset,i.size))=some places:=by
  have hall:∀f∈fields.toList,∃j,P.info? f.type=some j:=by
   intro f hfm
   obtain⟨k,hkl,hkf⟩:=List.getElem_of_mem hfm
   have hkg:k<gs.length:=by rw[<-hsz];simpa using hkl
   obtain⟨f',hf1,hf2,hf3,hf4⟩:=hf k (gs[k]).1 (gs[k]).2 (Qgy hkg)
   have:f'=f:=by
    have e1:fields.toList[k]?=some f':=by simpa using hf1
    rw[Qgy hkl,hkf]at e1
    injection e1 with e1
    exact e1.symm
   subst this
   cases hinf:P.info? f'.type with
   |none=>rw[<-hf3]at hf4;simp[Program.cellsOf,hinf]at hf4
   |some j=>exact⟨j,rfl⟩
  clear hfill hsz hf hu hk hk'
  generalize fields.toList=fs at hall
  induction fs with
  |nil=>exact⟨[],rfl⟩
  |cons f r ih =>
   obtain⟨j,hj⟩:=hall f (by simp)
   obtain⟨pl,hpl⟩:=ih (fun g hg=>hall g (by simp[hg]))
   exact⟨(f.offset,j.size)::pl,by simp[List.mapM_cons,hj,hpl]⟩
 obtain⟨places,hpl⟩:=hpl
 have hz0:Y6 w F σ (up ti.zero) z.cells.toList:=.zero hzs
 obtain⟨_,vs',e1,e2⟩:=Q0s hT hm hu hpl _ _ _ z.cells.toList [] cs p hk1 hk2 hz0 hfill hob
 refine⟨.agg vs'.toArray,Q9i e2.1 fun j A u hA hu=>(e2.2 j A u hA hu).1,fun w' _=>run_build w' t _ _ ?_⟩
 unfold Program.built
 simp only[hi,hu,hz,hpl]
 have:(parts.map fun(i,x)=>(i,a.eval x)).toList=parts.toList.map fun(i,x)=>(i,a.eval x):=by simp
 rw[this]
 simpa using e1
theorem Q7y {t e:TypeId}(hu:P.underlying t=some (.slice e)):P.elem t=e:=by simp[Program.elem,hu]
theorem Q92 (hT:Qb P T)(hm:Q3 m σ F w){t:TypeId}{x:AV}{X:Value}{lo hi:Option AV}{LO HI:Option Value}{A:AV}{obs:List Prop}(hx:Vc w F σ x X)
  (hlo:∀y,lo=some y->∃Y,LO=some Y/\Vc w F σ y Y) (hlo':lo=none->LO=none) (hhi:∀y,hi=some y->∃Y,HI=some Y/\Vc w F σ y Y) (hhi':hi=none->HI=none)
  (h:S9 T m t x lo hi=some (A,obs)) (hob:∀p∈obs,p):Z7 P F σ w (Instr.sliceAt t X LO HI none) A:=by
 unfold S9 at h
 split at h<;>try (cases h;done)
 rename_i e sz he
 obtain⟨hu,hs,_⟩:=Gl hT he
 have hel:=Q7y hu
 have hu':P.underlying t=some (.slice (P.elem t)):=by rw[hel];exact hu
 split at h<;>try (cases h;done)
 .rename_i sz' n f
  cases hz:Nat.beq sz' sz with
  |false=>rw[hz]at h;cases h
  | true =>
   rw[hz]at h
   simp only[cond_true]at h
   have hz':=Qh1 hz
   subst hz'
   cases hx with
   | d hx=>cases hx with
    | @sl _ _ _ B cap a0 g hc hA hl hcell hrd =>
     have key:∀(l k:Nat),l<=k->k<=n->Rd w F (.sl sz' (k-l) fun i=>f (l+i)) (sliced B l k cap sz'):=by
      intro l k hlk hkn
      refine .sl (a0.add (l*sz')) (fun i j=>g (l+i) j) Om (fun h0=>?_) (fun i hi=>hl _ Om) (fun i j hi hj=>?_) (fun i j x hi hx=>hrd (l+i) j x Om hx)
      .obtain⟨rfl,hF⟩:=hA Om
       rw[if_neg Om]
       exact⟨rfl,by rw[R5];exact hF⟩
      .rw[add_add,<-Nat.add_assoc,<-Nat.add_mul]
       exact hcell (l+i) j Om hj
     split at h
     .have:=hlo' rfl;subst this
      split at h
      .have:=hhi' rfl;subst this
       simp only[Qgz,Qh6]at h
       obtain⟨rfl,rfl⟩:=h
       refine .const (u:=sliced B 0 n cap sz') (.d ?_) fun w'=>by rw[run_sliceAt_slice _ _ _ _ _ _ hu',run_slice_all _ _ _ _ _ hu',hel,hs];rfl
       have:=key 0 n Om (Qgx _)
       simpa using this
      .rename_i kh hh
       obtain⟨Y,rfl,hY⟩:=hhi _ rfl
       have:=hY.int;subst this
       simp only[Qgz,Qh6]at h
       obtain⟨rfl,rfl⟩:=h
       have h1:0<=hh:=hob _ (by simp)
       have h2:hh<=n:=hob _ (by simp)
       refine .const (u:=sliced B 0 hh.toNat cap sz') (.d ?_) fun w'=>by rw[run_sliceAt_slice _ _ _ _ _ _ hu',run_slice_h _ _ _ _ _ hu' _ _ h1 Om,hel,hs];rfl
       have:=key 0 hh.toNat Om Om
       simpa using this
      .cases h
     .rename_i kl ll
      obtain⟨Y,rfl,hY⟩:=hlo _ rfl
      have:=hY.int;subst this
      split at h
      .have:=hhi' rfl;subst this
       simp only[Qgz,Qh6]at h
       obtain⟨rfl,rfl⟩:=h
       have h1:0<=ll:=hob _ (by simp)
       have h2:ll<=n:=hob _ (by simp)
       exact .const (u:=sliced B ll.toNat n cap sz') (.d (key _ _ Om (Qgx _))) fun w'=>by rw[run_sliceAt_slice _ _ _ _ _ _ hu',run_slice_l _ _ _ _ _ hu' _ _ h1 h2,hel,hs];rfl
      .rename_i kh hh
       obtain⟨Y',rfl,hY'⟩:=hhi _ rfl
       have:=hY'.int;subst this
       simp only[Qgz,Qh6]at h
       obtain⟨rfl,rfl⟩:=h
       have h1:0<=ll:=hob _ (by simp)
       have h2:ll<=hh:=hob _ (by simp)
       have h3:hh<=n:=hob _ (by simp)
       exact .const (u:=sliced B ll.toNat hh.toNat cap sz') (.d (key _ _ Om Om)) fun w'=>by rw[run_sliceAt_slice _ _ _ _ _ _ hu',run_slice_lh _ _ _ _ _ hu' _ _ _ _ h1 h2 Om,hel,hs];rfl
      .cases h
     .cases h
 .cases hx with|d hx=>cases hx with
  |nils =>
  have key:sliced none 0 0 0 sz=.slice none 0 0:=by simp[sliced]
  have hR:Vc w F σ (.d .nils) (sliced none 0 0 0 sz):=by rw[key];exact .d .nils
  split at h
  .have:=hlo' rfl;subst this
   split at h
   .have:=hhi' rfl;subst this
    simp only[Qgz,Qh6]at h
    obtain⟨rfl,rfl⟩:=h
    exact .const (u:=sliced none 0 0 0 sz) hR fun w'=>by rw[run_sliceAt_slice _ _ _ _ _ _ hu',run_slice_all _ _ _ _ _ hu',hel,hs];rfl
   .rename_i kh hh
    obtain⟨Y,rfl,hY⟩:=hhi _ rfl
    have:=hY.int;subst this
    simp only[Qgz,Qh6]at h
    obtain⟨rfl,rfl⟩:=h
    have h1:hh=0:=hob _ (by simp)
    subst h1
    exact .const (u:=sliced none 0 0 0 sz) hR fun w'=>by rw[run_sliceAt_slice _ _ _ _ _ _ hu',run_slice_h _ _ _ _ _ hu' _ _ Om Om,hel,hs];rfl
   .cases h
  .rename_i kl ll
   obtain⟨Y,rfl,hY⟩:=hlo _ rfl
   have:=hY.int;subst this
   split at h
   .have:=hhi' rfl;subst this
    simp only[Qgz,Qh6]at h
    obtain⟨rfl,rfl⟩:=h
    have h1:ll=0:=hob _ (by simp)
    subst h1
    exact .const (u:=sliced none 0 0 0 sz) hR fun w'=>by rw[run_sliceAt_slice _ _ _ _ _ _ hu',run_slice_l _ _ _ _ _ hu' _ _ Om Om,hel,hs];rfl
   .rename_i kh hh
    obtain⟨Y',rfl,hY'⟩:=hhi _ rfl
    have:=hY'.int;subst this
    simp only[Qgz,Qh6]at h
    obtain⟨rfl,rfl⟩:=h
    have h1:ll=0:=hob _ (by simp)
    have h2:hh=0:=hob _ (by simp)
    subst h1;subst h2
    exact .const (u:=sliced none 0 0 0 sz) hR fun w'=>by rw[run_sliceAt_slice _ _ _ _ _ _ hu',run_slice_lh _ _ _ _ _ hu' _ _ _ _ Om Om Om,hel,hs];rfl
   .cases h
  .cases h
 .rename_i r g off n
  split at h<;>try (cases h;done)
  rename_i e' sz' g' n' f' hB
  cases hz:Nat.beq sz' sz with
  |false=>rw[hz]at h;cases h
  | true =>
   rw[hz]at h
   simp only[cond_true]at h
   have hz':=Qh1 hz
   subst hz'
   obtain⟨pl,hr,hok,_,hat⟩:=Uz hm hx (Mem.get_at hB)
   have hpsz:pl.sz=sz':=hok.2.1
   have key:g'=g->∃B cap,X=.slice B n cap/\n<=cap/\∀(l k:Nat),l<=k->k<=n->Vc w F σ (.osl r g (off+l) (k-l)) (sliced B l k cap sz'):=by
    intro hg
    subst hg
    have hsl:=hat hok.1
    unfold Yn at hsl
    split at hsl
    .rename_i hl
     obtain⟨rfl,rfl,rfl⟩:=hsl
     refine⟨none,0,rfl,Qgx _,fun l k h1 h2=>?_⟩
     have:l=0:=by omega
     subst this
     have:k=0:=by omega
     subst this
     refine .osl hr fun pl' e=>?_
     injection e with e
     subst e
     refine⟨by rw[hok.1];exact Qgx _,fun _=>?_⟩
     unfold Yn
     rw[hl]
     exact⟨rfl,rfl,by simp[sliced]⟩
    .rename_i b tot hl
     obtain⟨B,cap,rfl,hnc,hoc,hA⟩:=hsl
     refine⟨B,cap,rfl,hnc,fun l k h1 h2=>?_⟩
     refine .osl hr fun pl' e=>?_
     injection e with e
     subst e
     refine⟨by rw[hok.1];exact Qgx _,fun _=>?_⟩
     unfold Yn
     rw[hl]
     refine⟨_,cap-l,rfl,Om,Om,fun h3=>?_⟩
     by_cases hcl:cap=l
     .rw[if_pos hcl]
      have h0:off+l=0:=by omega
      have hoff:off=0:=by omega
      have hll:l=0:=by omega
      subst hoff;subst hll
      exact hA (.inr rfl)
     .rw[if_neg hcl,hA (.inl Om),Option.map_some,Vh,hpsz,<-Nat.add_mul]
   have hg:g'=g:=by
    split at h<;>(try (cases h;done))<;>split at h<;>(try (cases h;done))<;>(simp only[Qgz,Qh6]at h;obtain⟨rfl,rfl⟩:=h;exact hob _ (by simp))
   obtain⟨B,cap,rfl,hnc,key⟩:=key hg
   split at h
   .have:=hlo' rfl;subst this
    split at h
    .have:=hhi' rfl;subst this
     simp only[Qgz,Qh6]at h
     obtain⟨rfl,rfl⟩:=h
     refine .const (u:=sliced B 0 n cap sz') ?_ fun w'=>by rw[run_sliceAt_slice _ _ _ _ _ _ hu',run_slice_all _ _ _ _ _ hu',hel,hs];rfl
     simpa using key 0 n Om (Qgx _)
    .rename_i kh hh
     obtain⟨Y,rfl,hY⟩:=hhi _ rfl
     have:=hY.int;subst this
     simp only[Qgz,Qh6]at h
     obtain⟨rfl,rfl⟩:=h
     have h1:0<=hh:=hob _ (by simp)
     have h2:hh<=n:=hob _ (by simp)
     refine .const (u:=sliced B 0 hh.toNat cap sz') ?_ fun w'=>by rw[run_sliceAt_slice _ _ _ _ _ _ hu',run_slice_h _ _ _ _ _ hu' _ _ h1 Om,hel,hs];rfl
     simpa using key 0 hh.toNat Om Om
    .cases h
   .rename_i kl ll
    obtain⟨Y,rfl,hY⟩:=hlo _ rfl
    have:=hY.int;subst this
    split at h
    .have:=hhi' rfl;subst this
     simp only[Qgz,Qh6]at h
     obtain⟨rfl,rfl⟩:=h
     have h1:0<=ll:=hob _ (by simp)
     have h2:ll<=n:=hob _ (by simp)
     exact .const (u:=sliced B ll.toNat n cap sz') (key _ _ Om (Qgx _)) fun w'=>by rw[run_sliceAt_slice _ _ _ _ _ _ hu',run_slice_l _ _ _ _ _ hu' _ _ h1 h2,hel,hs];rfl
    .rename_i kh hh
     obtain⟨Y',rfl,hY'⟩:=hhi _ rfl
     have:=hY'.int;subst this
     simp only[Qgz,Qh6]at h
     obtain⟨rfl,rfl⟩:=h
     have h1:0<=ll:=hob _ (by simp)
     have h2:ll<=hh:=hob _ (by simp)
     have h3:hh<=n:=hob _ (by simp)
     exact .const (u:=sliced B ll.toNat hh.toNat cap sz') (key _ _ Om Om) fun w'=>by rw[run_sliceAt_slice _ _ _ _ _ _ hu',run_slice_lh _ _ _ _ _ hu' _ _ _ _ h1 h2 Om,hel,hs];rfl
    .cases h
   .cases h
end sound
end Go.Ab
