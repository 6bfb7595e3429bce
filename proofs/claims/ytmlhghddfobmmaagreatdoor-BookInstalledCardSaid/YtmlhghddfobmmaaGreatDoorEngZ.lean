import Derived.Test.YtmlhghddfobmmaaGreatDoorEngY
namespace Go.Ab
set_option linter.unusedSimpArgs false
set_option linter.unusedVariables false
def stepE (o:Oper)(A:AV)(env:Env):Env:=match o.dst with
 |some t=>(t,A)::env
 |none=>env
theorem setD_step {o:Oper}{A:AV}{env:Env}{K:Env->Prop}(h:setD env o.dst A K):K (stepE o A env):=by
 unfold setD at h
 unfold stepE
 cases hd:o.dst<;>simp only[hd]at h⊢ <;> exact h
def envsOf (env:Env)(ops:List Oper)(As:Nat->AV):Nat->Env
 |0=>env
 |k+1=>match ops[k]? with
  |some o=>stepE o (As k) (envsOf env ops As k)
  |none=>envsOf env ops As k
def consA (A:AV)(As:Nat->AV):Nat->AV
 |0=>A
 |k+1=>As k
theorem envsOf_cons (env:Env)(o:Oper)(r:List Oper)(A:AV)(As:Nat->AV):∀k,envsOf env (o::r) (consA A As) (k+1)=envsOf (stepE o A env) r As k
 |0=>rfl
 |k+1=>by
  rw[envsOf,List.getElem?_cons_succ]
  rw[envsOf_cons env o r A As k]
  rw[envsOf]
  rfl
def slots (full:List Oper)(o:Oper):List Nat:=app2 (tmpsOf o.op) (gTmp full o.guard)
section
variable {P:Program}{T:Tab}{m:Mem}{σ:Pls}
theorem YieldR.mono {F:Nat->Prop}{w:World}{A A':AV}(hA:∀w F u,Vc w F σ A u->Vc w F σ A' u):∀{r:Result Next},YieldR P σ F w A r->YieldR P σ F w A' r
 | .ok (.value u) w2,⟨F2,h1,h2⟩=>⟨F2,h1,hA _ _ _ h2⟩
 | .ok (.enter f args) w2,⟨h1,h2⟩=>⟨h1,h2.mono fun e w3 ⟨u,F3,g1,g2,g3⟩=>⟨u,F3,g1,g2,hA _ _ _ g3⟩⟩
def DoesG (P:Program)(m:Mem)(σ:Pls)(full:List Oper)(o:Oper)(env:Env)(A:AV):Prop :=
 ∀(F:Nat->Prop) (w:World) (a:Act),MemOk m σ F w->(∀t∈slots full o,Vc w F σ (get env t) (a.tmps.getD t undef)) ->
  (Region.wanted o (yielded full.toArray a.tmps)=true->YieldR P σ F w A ((execOp a.eval o).run P w)) /\
  (Region.wanted o (yielded full.toArray a.tmps)=false->∀w F,Vc w F σ A undef)
theorem vcR_ext (hT:TabOk P T){full:List Oper}{K:Env->Prop}:∀(rest:List Oper) (env:Env),vcR P T full m rest env K ->
  ∃As:Nat->AV,K (envsOf env rest As rest.length)/\∀(k:Nat) o,rest[k]?=some o->DoesG P m σ full o (envsOf env rest As k) (As k)
 |[],env,h=>⟨fun _=>.junk,h,fun k o ho=>by simp at ho⟩
 | o :: r,env,h=>by
  have key:∃A,vcR P T full m r (stepE o A env) K/\DoesG P m σ full o env A:=by
   rw[vcR_cons]at h
   have hs1:∀t∈tmpsOf o.op,t∈slots full o:=fun t ht=>mem_app2.2 (.inl ht)
   split at h
   .rename_i hg
    obtain⟨A,hK,hD⟩:=vcR1_ok hT h
    refine⟨A,setD_step hK,fun F w a hm he=>⟨fun _=>hD F w a hm (sel_ok fun t ht=>he t (hs1 t ht)),fun hw=>?_⟩⟩
    simp[Region.wanted,hg]at hw
   .rename_i j want hg
    have hs2:∀t∈gTmp full (some (j,want)),t∈slots full o:=fun t ht=>mem_app2.2 (.inr (by rw[hg];exact ht))
    split at h<;>try (cases h;done)
    rename_i g hgo
    have hw:∀(F:Nat->Prop) (w:World) (a:Act),(∀t∈slots full o,Vc w F σ (get env t) (a.tmps.getD t undef))->Region.wanted o (yielded full.toArray a.tmps)=g:=fun F w a he=>by
     simp only[Region.wanted,hg]
     exact guardOf_ok (sel_ok fun t ht=>he t (hs2 t ht)) hgo
    split at h
    .rename_i v l hr
     obtain⟨hl,h⟩:=obs_ok h
     rw[frc_eq]at h
     refine⟨.gd g v,setD_step h,fun F w a hm he=>?_⟩
     rw[hw F w a he]
     refine⟨fun hgt=>?_,fun hgf w F=>.gd (fun h=>by rw[hgf]at h;cases h) fun _=>rfl⟩
     exact YieldR.mono (fun w F u hu=>.gd (fun _=>hu) fun h=>by rw[hgt]at h;cases h) (evRead_does hT hr (under_ok hl hgt) F w a hm (sel_ok fun t ht=>he t (hs1 t ht)))
    .cases g with
     |true =>
      obtain⟨A,hK,hD⟩:=vcR1_ok hT (h.t rfl).o
      refine⟨A,setD_step hK,fun F w a hm he=>⟨fun _=>hD F w a hm (sel_ok fun t ht=>he t (hs1 t ht)),fun hwf=>?_⟩⟩
      rw[hw F w a he]at hwf
      cases hwf
     |false =>
      refine⟨_,setD_step (h.f rfl).o,fun F w a hm he=>⟨fun hwt=>?_,fun _ w F=>.gd (fun h=>by cases h) fun _=>rfl⟩⟩
      rw[hw F w a he]at hwt
      cases hwt
  obtain⟨A,hr,hD⟩:=key
  obtain⟨As,hK,hAs⟩:=vcR_ext hT r _ hr
  refine⟨consA A As,?_,fun k o' ho=>?_⟩
  .rw[List.length_cons,envsOf_cons]
   exact hK
  .cases k with
   |zero=>simp at ho;subst ho;exact hD
   |succ k =>
    rw[envsOf_cons]
    exact hAs k o' (by simpa using ho)
structure OrdAt (full:List Oper)(i:Nat)(o:Oper):Prop where
 back:∀e∈o.after,Region.binds .any e=true->e.on<i
 once:∀d,o.dst=some d->∀(j:Nat) o',full[j]?=some o'->o'.dst=some d->j=i
 defs:∀t∈slots full o,∀(j:Nat) o',full[j]?=some o'->o'.dst=some t->(j<i/\∃e∈o.after,e.on=j/\Region.binds .any e=true)\/(i<=j/\(j=i\/∃e∈o'.after,e.on=i/\Region.binds .any e=true))
theorem dstOnce_at {d i:Nat}:∀{l:List Oper} {k:Nat},dstOnce d i k l=true->∀(j:Nat) o,l[j]?=some o->o.dst=some d->k+j=i
 |[],k,_,j,o,h,_=>by simp at h
 | x :: r,k,hk,j,o,h,hd=>by
  simp only[dstOnce,Bool.and_eq_true]at hk
  cases j with
  |zero =>
   simp at h
   subst h
   have h1:=hk.1
   rw[hd]at h1
   simp only[Nat.beq_refl,cond_true]at h1
   exact Nat.eq_of_beq_eq_true h1
  |succ j =>
   have:=dstOnce_at hk.2 j o (by simpa using h) hd
   omega
theorem defsOk_at {t i:Nat}{es:List Edge}:∀{l:List Oper} {k:Nat},defsOk t i es k l=true->∀(j:Nat) o,l[j]?=some o->o.dst=some t ->
  (k+j<i/\edgeOn es (k+j)=true)\/(i<=k+j/\(k+j=i\/edgeOn o.after.toList i=true))
 |[],k,_,j,o,h,_=>by simp at h
 | x :: r,k,hk,j,o,h,hd=>by
  simp only[defsOk,Bool.and_eq_true]at hk
  cases j with
  | zero =>
   simp at h
   subst h
   have h1:=hk.1
   rw[hd]at h1
   simp only[Nat.beq_refl,cond_true,Bool.or_eq_true,Bool.and_eq_true]at h1
   rcases h1 with h1|h1|h1
   .exact .inl ⟨Nat.le_of_ble_eq_true h1.1,h1.2⟩
   .have:=Nat.eq_of_beq_eq_true h1
    exact .inr ⟨Om,.inl this⟩
   .have:i+1<=k:=Nat.le_of_ble_eq_true h1.1
    exact .inr ⟨Om,.inr h1.2⟩
  |succ j =>
   have:=defsOk_at hk.2 j o (by simpa using h) hd
   rw[show k+(j+1)=k+1+j by omega]
   exact this
theorem okFrom_at {full:List Oper}:∀{l:List Oper} {k:Nat},okFrom full k l=true->∀(j:Nat) o,l[j]?=some o->OrdAt full (k+j) o
 |[],k,_,j,o,h=>by simp at h
 | x :: r,k,hk,j,o,h=>by
  simp only[okFrom,Bool.and_eq_true]at hk
  obtain⟨⟨h1,h2,h3⟩,h4⟩:=hk
  cases j with
  | zero =>
   simp at h
   subst h
   refine⟨fun e he hb=>?_,fun d hd j o' ho' hd'=>?_,fun t ht j o' ho' hd'=>?_⟩
   .have:=List.all_eq_true.1 h1 e (Array.mem_toList_iff.2 he)
    rw[hb]at this
    exact Nat.le_of_ble_eq_true (by simpa[Nat.blt] using this)
   .rw[hd]at h2
    have:=dstOnce_at h2 j o' ho' hd'
    omega
   .have:=List.all_eq_true.1 h3 t ht
    have edge:∀(es:Array Edge) i,edgeOn es.toList i=true->∃e∈es,e.on=i/\Region.binds .any e=true:=fun es i g2=>by
     unfold edgeOn at g2
     obtain⟨e,he,h⟩:=List.any_eq_true.1 g2
     simp only[Bool.and_eq_true]at h
     exact⟨e,Array.mem_toList_iff.1 he,Nat.eq_of_beq_eq_true h.1,h.2⟩
    rcases defsOk_at this j o' ho' hd' with ⟨g1,g2⟩|⟨g1,g2⟩
    .obtain⟨e,he,h⟩:=edge _ _ g2
     rw[Nat.zero_add]at g1 h
     exact .inl ⟨Om,e,he,h⟩
    .rw[Nat.zero_add]at g1 g2
     refine .inr ⟨Om,?_⟩
     rcases g2 with g2|g2
     .exact .inl Om
     .exact .inr (edge _ _ g2)
  |succ j =>
   rw[show k+(j+1)=k+1+j by omega]
   exact okFrom_at h4 j o (by simpa using h)
theorem get_step {o:Oper}{A:AV}{env:Env}{t:Nat}(h:o.dst≠some t):get (stepE o A env) t=get env t:=by
 unfold stepE
 cases hd:o.dst with
 |none=>rfl
 | some d =>
  have:Nat.beq d t=false:=by
   cases hb:Nat.beq d t with
   |false=>rfl
   |true =>
    have:=Nat.eq_of_beq_eq_true hb
    subst this
    exact absurd hd h
  simp only[get,this,cond_false]
theorem get_step_self {o:Oper}{A:AV}{env:Env}{t:Nat}(h:o.dst=some t):get (stepE o A env) t=A:=by
 unfold stepE
 rw[h]
 simp[get]
theorem envs_stable {env:Env}{full:List Oper}{As:Nat->AV}{t i:Nat}:∀k,i<=k->(∀(j:Nat) o,i<=j->j<k->full[j]?=some o->o.dst≠some t)->get (envsOf env full As k) t=get (envsOf env full As i) t
 |0,h,_=>by rw[show i=0 by omega]
 | k + 1,h,hn=>by
  by_cases e:i=k+1
  .rw[e]
  .rw[envsOf]
   cases hk:full[k]? with
   |none=>exact envs_stable k Om fun j o h1 h2=>hn j o h1 Om
   |some o =>
    rw[get_step (hn k o Om Om hk)]
    exact envs_stable k Om fun j o h1 h2=>hn j o h1 Om
def unl:List Bool->Nat
 |[]=>0
 |b::r=>(bif b then 0 else 1)+unl r
theorem unl_set:∀{l:List Bool} {i:Nat},l[i]?=some false->unl (l.set i true)+1=unl l
 |[],_,h=>by simp at h
 |b::r,0,h=>by simp at h;subst h;simp[unl];omega
 |b::r,i+1,h=>by
  have:=unl_set (l:=r) (i:=i) (by simpa using h)
  simp only[List.set_cons_succ,unl]
  omega
theorem unl_zero:∀{l:List Bool},unl l=0->∀(i:Nat) b,l[i]?=some b->b=true
 |[],_,i,b,h=>by simp at h
 | x :: r,hz,i,b,h=>by
  simp only[unl]at hz
  cases i with
  |zero =>
   simp at h
   subst h
   cases x with
   |true=>rfl
   |false=>simp at hz
  |succ i=>exact unl_zero (l:=r) Om i b (by simpa using h)
theorem getD_list {l:Array Bool}{i:Nat}{d:Bool}:l.getD i d=(l.toList[i]?).getD d:=by
 rw[Array.getD_eq_getD_getElem?,Array.getElem?_toList]
variable {ro:Option Nat}
theorem drawn_region {id N n:Nat} {ops:Array Oper} {F:Nat→Prop} {w:World} {a:Act} {env:Env} {K:Env→Prop} {Q:Exit→Act→World→Prop}
  (h1:P.follows .mixedOrders=true) (h2:okR ops.toList=true) (hT:TabOk P T) (hm:MemOk m σ F w) (hd:dstsIn N ops.toList=true) (h:vcR P T ops.toList m ops.toList env K) (hN:a.tmps.size=N) (he:EnvOk env w F σ a.tmps)
  (hQ:∀env' a' w' F',K env'->a'.tmps.size=N->a'.defers=a.defers->Grew F w F' w'->EnvOk env' w' F' σ a'.tmps->Q .normal a' w'):(Code.region id ops true).wpIn (Fen ro) n P Q a w:=by
 obtain⟨As,hK,hD⟩:=vcR_ext (σ:=σ) hT ops.toList env h
 have hO:∀(i:Nat) o,ops[i]?=some o->OrdAt ops.toList i o:=fun i o ho=>by
  have:=okFrom_at h2 i o (by rw[Array.getElem?_toList];exact ho)
  rwa [Nat.zero_add]at this
 have hdst:∀(i:Nat) o d,ops[i]?=some o->o.dst=some d->d<N:=by
  have:∀(l:List Oper),dstsIn N l=true->∀(i:Nat) o d,l[i]?=some o->o.dst=some d->d<N:=by
   intro l
   induction l with
   |nil=>intro _ i o d ho;simp at ho
   | cons x r ih =>
    intro hl i o d ho hdo
    simp only[dstsIn,Bool.and_eq_true]at hl
    cases i with
    |zero =>
     simp at ho
     subst ho
     have:=hl.1
     rw[hdo]at this
     exact Nat.le_of_ble_eq_true this
    |succ i=>exact ih hl.2 i o d (by simpa using ho) hdo
  exact fun i o d ho hdo=>this ops.toList hd i o d (by rw[Array.getElem?_toList];exact ho) hdo
 generalize hE:envsOf env ops.toList As ops.toList.length=E at hK
 have hsize:ops.toList.length=ops.size:=Array.length_toList
 have hEd:∀(i:Nat) o d,ops[i]?=some o->o.dst=some d->∀k,i<k->k<=ops.toList.length->get (envsOf env ops.toList As k) d=As i:=by
  intro i o d ho hdo k hk hkn
  have hol:ops.toList[i]?=some o:=by rw[Array.getElem?_toList];exact ho
  rw[envs_stable (i:=i+1) k Om (fun j o' h3 h4 ho' hd'=>by
    have:=(hO i o ho).once d hdo j o' ho' hd'
    omega)]
  rw[envsOf,hol]
  exact get_step_self hdo
 have hE0:∀t k,k<=ops.toList.length->(∀(j:Nat) o,ops[j]?=some o->o.dst=some t->k<=j)->get (envsOf env ops.toList As k) t=get env t:=fun t k hk hno =>
  envs_stable (i:=0) k (Nat.zero_le _) (fun j o _ hj ho hdo=>by
   rw[Array.getElem?_toList]at ho
   have:=hno j o ho hdo
   omega)
 let Inv:Array Bool->Act->World->Prop:=fun listed a' w'=>a'.tmps.size=N/\a'.defers=a.defers/\(∀(j:Nat) o,ops[j]?=some o->listed.getD j true=true->∀e∈o.after,Region.binds .any e=true->listed.getD e.on true=true) /\
  ∃F',Grew F w F' w'/\∀t,(∀(j:Nat) o,ops[j]?=some o->o.dst=some t->listed.getD j true=true->Vc w' F' σ (As j) (a'.tmps.getD t undef)) /\
   ((∀(j:Nat) o,ops[j]?=some o->o.dst=some t->listed.getD j true=false)->Vc w' F' σ (get env t) (a'.tmps.getD t undef))
 have fin:∀listed a' w',(∀i,i<ops.size->listed.getD i true=true)->Inv listed a' w'->Q .normal a' w':=fun listed a' w' hall ⟨i1,i2,_,F',i3,i4⟩ =>
  hQ E a' w' F' hK i1 i2 i3 fun t=>by
   by_cases hex:∃(j:Nat) (o:Oper),ops[j]?=some o/\o.dst=some t
   .obtain⟨j,o,ho,hdo⟩:=hex
    have hj:j<ops.size:=(Array.getElem?_eq_some_iff.1 ho).1
    rw[<-hE,hEd j o t ho hdo _ Om (Nat.le_refl _)]
    exact(i4 t).1 j o ho hdo (hall j hj)
   .rw[<-hE,hE0 t _ (Nat.le_refl _) (fun j o ho hdo=>absurd ⟨j,o,ho,hdo⟩ hex)]
    exact(i4 t).2 fun j o ho hdo=>absurd ⟨j,o,ho,hdo⟩ hex
 have main:∀ (fuel:Nat) (listed:Array Bool) (a':Act) (w':World),listed.size=ops.size→unl listed.toList≤fuel→Inv listed a' w'→wpAnyIn (Fen ro) n P .any ops Q fuel listed a' w':=by
  intro fuel
  induction fuel with
  | zero =>
   intro listed a' w' hls hun hI
   have hall:∀i,i<ops.size->listed.getD i true=true:=fun i hi=>by
    rw[getD_list]
    cases hb:listed.toList[i]? with
    |none=>rfl
    |some b=>exact unl_zero Om i b hb
   refine⟨List.eq_nil_iff_forall_not_mem.2 fun i hi=>?_,fin _ _ _ hall hI⟩
   obtain⟨g1,o,ho,_⟩:=mem_ready.1 hi
   rw[hall i (Array.getElem?_eq_some_iff.1 ho).1]at g1
   cases g1
  | succ fuel ih =>
   intro listed a' w' hls hun hI
   refine⟨fun hnil=>fin _ _ _ (fun i=>?_) hI,fun i hi=>?_⟩
   .induction i using Nat.strongRecOn with
    | _ i ihi =>
     intro hi
     cases hb:listed.getD i true with
     |true=>rfl
     | false =>
      exfalso
      have ho:ops[i]?=some ops[i]:=Array.getElem?_eq_getElem hi
      have:i∈Region.ready .any ops listed:=mem_ready.2 ⟨hb,_,ho,fun e he hbe=>by
       have hlt:=(hO i _ ho).back e he hbe
       have:=ihi e.on hlt Om
       rw[getD_list]at this⊢
       have hin:e.on<listed.toList.length:=by rw[Array.length_toList,hls];omega
       rw[List.getElem?_eq_getElem hin]at this⊢
       exact this⟩
      rw[hnil]at this
      cases this
   .obtain⟨g1,o,ho,g2⟩:=mem_ready.1 hi
    have hin:i<ops.size:=(Array.getElem?_eq_some_iff.1 ho).1
    have hoi:=hO i o ho
    obtain⟨i1,i2,ic,F',i3,i4⟩:=hI
    have hmw:MemOk m σ F' w':=i3.mem hm
    have toT:∀j,j<ops.size->listed.getD j false=true->listed.getD j true=true:=fun j hj h=>by
     rw[getD_list]at h⊢
     have hin2:j<listed.toList.length:=by rw[Array.length_toList,hls];omega
     rw[List.getElem?_eq_getElem hin2]at h⊢
     exact h
    have hslots:∀ t∈slots ops.toList o,Vc w' F' σ (get (envsOf env ops.toList As i) t) (a'.tmps.getD t undef):=fun t ht=>by
     by_cases hex:∃(j:Nat) (o':Oper),ops[j]?=some o'/\o'.dst=some t
     .obtain⟨j,o',ho',hdo'⟩:=hex
      have hj:j<ops.size:=(Array.getElem?_eq_some_iff.1 ho').1
      have honce:∀(j2:Nat) o2,ops[j2]?=some o2->o2.dst=some t->j2=j:=fun j2 o2 h3 h4=>(hO j o' ho').once t hdo' j2 o2 (by rw[Array.getElem?_toList];exact h3) h4
      rcases hoi.defs t ht j o' (by rw[Array.getElem?_toList];exact ho') hdo' with ⟨hji,e,hee,heon,heb⟩|⟨hij,hcase⟩
      .rw[hEd j o' t ho' hdo' i hji Om]
       refine(i4 t).1 j o' ho' hdo' ?_
       have:=g2 e hee heb
       rw[heon]at this
       exact toT j hj this
      .rw[hE0 t i Om (fun j2 o2 h3 h4=>by rw[honce j2 o2 h3 h4];exact hij)]
       refine(i4 t).2 fun j2 o2 h3 h4=>?_
       have hj2:=honce j2 o2 h3 h4
       subst hj2
       rcases hcase with rfl|⟨e,hee,heon,heb⟩
       .exact g1
       .cases hb:listed.getD j2 true with
        |false=>rfl
        |true =>
         have:=ic j2 o' ho' hb e hee heb
         rw[heon,g1]at this
         cases this
     .rw[hE0 t i Om (fun j2 o2 h3 h4=>absurd ⟨j2,o2,h3,h4⟩ hex)]
      exact(i4 t).2 fun j2 o2 h3 h4=>absurd ⟨j2,o2,h3,h4⟩ hex
    have hdoes:=hD i o (by rw[Array.getElem?_toList];exact ho) F' w' a' hmw hslots
    have hy:ops.toList.toArray=ops:=Array.toArray_toList
    rw[hy]at hdoes
    have hlist:listed.toList[i]?=some false:=by
     rw[getD_list]at g1
     cases hb:listed.toList[i]? with
     |none=>rw[hb]at g1;cases g1
     |some b=>rw[hb]at g1;simp at g1;rw[g1]
    have next:∀ (v:Value) (w2:World) (F2:Nat→Prop),Grew F' w' F2 w2→Vc w2 F2 σ (As i) v→wpAnyIn (Fen ro) n P .any ops Q fuel (listed.setIfInBounds i true) (a'.put o.dst v) w2:=by
     intro v w2 F2 hg hv
     have hset:∀j,j≠i->(listed.setIfInBounds i true).getD j true=listed.getD j true:=fun j hne=>by
      rw[getD_list,Array.toList_setIfInBounds,List.getElem?_set_ne (fun e=>hne e.symm),<-getD_list]
     have hsetm:∀j,listed.getD j true=true->(listed.setIfInBounds i true).getD j true=true:=fun j h=>by
      by_cases e:j=i
      .subst e;rw[h]at g1;cases g1
      .rw[hset j e];exact h
     have hseti:(listed.setIfInBounds i true).getD i true=true:=by
      rw[getD_list,Array.toList_setIfInBounds,List.getElem?_set_self (by rw[Array.length_toList,hls];exact hin)]
      rfl
     refine ih _ _ _ (by simp[hls]) ?_ ⟨by rw[put_size];exact i1,by rw[put_defers];exact i2,fun j o' ho' hj e he hb=>?_,F2,i3.trans hg,fun t=>?_⟩
     .have:=unl_set hlist
      rw[Array.toList_setIfInBounds]
      omega
     .by_cases hji:j=i
      .subst hji
       rw[ho]at ho'
       cases ho'
       have hlt:=hoi.back e he hb
       exact hsetm _ (toT _ Om (g2 e he hb))
      .rw[hset j hji]at hj
       exact hsetm _ (ic j o' ho' hj e he hb)
     .have mono:∀{A u},Vc w' F' σ A u->Vc w2 F2 σ A u:=fun h=>h.mono hg.fro (fun b hb=>hg.keep b (i3.lt b hb)) (SLe.refl σ)
      by_cases hdt:o.dst=some t
      .have hdN:=hdst i o t ho hdt
       have hval:(a'.put o.dst v).tmps.getD t undef=v:=by
        rw[hdt]
        simp only[Act.put,Array.getD_eq_getD_getElem?]
        rw[Array.getElem?_setIfInBounds_self_of_lt (by rw[i1];exact hdN)]
        rfl
       rw[hval]
       refine⟨fun j o' ho' hd' _=>?_,fun hno=>?_⟩
       .have:=hoi.once t hdt j o' (by rw[Array.getElem?_toList];exact ho') hd'
        subst this
        exact hv
       .have:=hno i o ho hdt
        rw[hseti]at this
        cases this
      .have hval:(a'.put o.dst v).tmps.getD t undef=a'.tmps.getD t undef:=by
        cases hdo:o.dst with
        |none=>rfl
        |some d =>
         simp only[Act.put,Array.getD_eq_getD_getElem?]
         rw[Array.getElem?_setIfInBounds_ne (fun e=>hdt (by rw[hdo,e]))]
       rw[hval]
       have hne:∀(j:Nat) o',ops[j]?=some o'->o'.dst=some t->j≠i:=fun j o' ho' hd' e=>by
        subst e
        rw[ho]at ho'
        cases ho'
        exact hdt hd'
       refine⟨fun j o' ho' hd' hj=>?_,fun hno=>?_⟩
       .rw[hset j (hne j o' ho' hd')]at hj
        exact mono ((i4 t).1 j o' ho' hd' hj)
       .exact mono ((i4 t).2 fun j o' ho' hd'=>by
         have:=hno j o' ho' hd'
         rwa [hset j (hne j o' ho' hd')]at this)
    unfold wpOpIn
    simp only[ho]
    cases hw:Region.wanted o (yielded ops a'.tmps) with
    |false =>
     simp only[Bool.false_eq_true,if_false]
     exact⟨fun _ _=>trivial,next _ _ _ (Grew.refl hmw.fl) (hdoes.2 hw _ _)⟩
    | true =>
     simp only[if_true]
     have h3:=hdoes.1 hw
     have hdef:∀c,o.op≠.defer c:=fun c hc=>by
      simp only[execOp,hc,Sem.run_bind]at h3
      cases hr:(resolve a'.eval c o.type).run P w'<;>simp[hr,Result.andThen,YieldR]at h3
     refine wpIn_at hdef ?_
     generalize (execOp a'.eval o).run P w'=r at h3
     cases r with
     | ok x w2 =>
      cases x<;>simp only[YieldR]at h3<;>simp only[Oper.uponIn]
      case value u =>
       obtain⟨F2,k1,k2⟩:=h3
       exact next u w2 F2 k1 k2
      case enter f args =>
       obtain⟨e1,hc⟩:=h3
       rw[e1]
       exact⟨Fen_depth,callsFen.2 (hc.mono fun e w3 ⟨u,F3,he,k1,k2⟩=>by subst he;exact next u w3 F3 k1 k2)⟩
     |halt x w2=>simp only[YieldR]at h3
 have hrep:∀j,j<ops.size->(Array.replicate ops.size false).getD j true=false:=fun j hj=>by
  rw[getD_list,Array.toList_replicate,List.getElem?_replicate,if_pos hj]
  rfl
 refine wpIn_region_any h1 (main ops.size _ a _ (by simp) ?_ ⟨hN,rfl,fun j o ho hj=>?_,F,Grew.drew hm.fl,fun t=>⟨fun j o ho _ hj=>?_,fun _=>?_⟩⟩)
 .have:∀k,unl (List.replicate k false)=k:=fun k=>by
   induction k with
   |zero=>rfl
   |succ k ih=>rw[List.replicate_succ,unl,ih];simp;omega
  rw[Array.toList_replicate,this]
  exact Nat.le_refl _
 .rw[hrep j (Array.getElem?_eq_some_iff.1 ho).1]at hj
  cases hj
 .rw[hrep j (Array.getElem?_eq_some_iff.1 ho).1]at hj
  cases hj
 .exact Vc.mono (w:=w) (w':={w with drawn:=w.drawn+1}) (fun _ h=>h) (fun _ _=>rfl) (SLe.refl σ) (he t)
end
end Go.Ab
