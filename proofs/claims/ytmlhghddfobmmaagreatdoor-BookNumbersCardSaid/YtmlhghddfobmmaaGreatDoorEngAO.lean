import Derived.Test.YtmlhghddfobmmaaGreatDoorEngAI
import Derived.Laws.IdiomRangeMap
import Derived.Test.YtmlhghddfobmmaaGreatDoorEngS
import Derived.Deep.Slices
import Derived.Deep.Fields
import Derived.ChangeSame
import Derived.ProofKit
import Derived.Carry
import Derived.JoinedOf
import Derived.Test.YtmlhghddfobmmaaGreatDoorEngAE
import Derived.RecoverIn
namespace Go.Ab
set_option linter.unusedSimpArgs false
set_option linter.unusedVariables false
noncomputable def vcE (P:Program)(T:Tab)(full:List Oper)(m:Mem)(eff:Nat->Bool)(res:Nat->AV)(ops:List Oper):Nat->Env->(Env->Prop)->Prop :=
 List.rec (motive:=fun _=>Nat->Env->(Env->Prop)->Prop) (fun _ env K=>K env) (fun o _ ih k env K=>match eff k with
  |true=>setD env o.dst (res k) fun env=>ih (k+1) env K
  | false=>match o.guard with
   |none=>vcR1 P T m (sel env (tmpsOf o.op)) o fun v=>setD env o.dst v fun env=>ih (k+1) env K
   | some (j,want)=>match guardOf full (sel env (gTmp full (some (j,want)))) j want with
    |none=>False
    |some g=>match evRead T (sel env (tmpsOf o.op)) m o.op with
     |some (v,l)=>obs (under g l) (frc v fun v=>setD env o.dst (.gd g v) fun env=>ih (k+1) env K)
     |none=>Br g (Ev (vcR1 P T m (sel env (tmpsOf o.op)) o fun v=>setD env o.dst v fun env=>ih (k+1) env K)) (Ev (setD env o.dst (.gd false (.d (.bool false))) fun env=>ih (k+1) env K))) ops
theorem vcE_cons (P:Program)(T:Tab)(full:List Oper)(m:Mem)(eff:Nat->Bool)(res:Nat->AV)(o:Oper)(rest:List Oper)(k:Nat)(env:Env)(K:Env->Prop):vcE P T full m eff res (o::rest) k env K=match eff k with
  |true=>setD env o.dst (res k) fun env=>vcE P T full m eff res rest (k+1) env K
  | false=>match o.guard with
   |none=>vcR1 P T m (sel env (tmpsOf o.op)) o fun v=>setD env o.dst v fun env=>vcE P T full m eff res rest (k+1) env K
   | some (j,want)=>match guardOf full (sel env (gTmp full (some (j,want)))) j want with
    |none=>False
    |some g=>match evRead T (sel env (tmpsOf o.op)) m o.op with
     |some (v,l)=>obs (under g l) (frc v fun v=>setD env o.dst (.gd g v) fun env=>vcE P T full m eff res rest (k+1) env K)
     |none=>Br g (Ev (vcR1 P T m (sel env (tmpsOf o.op)) o fun v=>setD env o.dst v fun env=>vcE P T full m eff res rest (k+1) env K)) (Ev (setD env o.dst (.gd false (.d (.bool false))) fun env=>vcE P T full m eff res rest (k+1) env K)):=rfl
section
variable {P:Program}{T:Tab}{m:Mem}
variable {ro:Option Nat}
theorem vcE_ext (hT:TabOk P T){full:List Oper}{eff:Nat->Bool}{res:Nat->AV}{K:Env->Prop}:∀(rest:List Oper) (k0:Nat) (env:Env),vcE P T full m eff res rest k0 env K ->
  ∃As:Nat->AV,K (envsOf env rest As rest.length)/\(∀k,k<rest.length->eff (k0+k)=true->As k=res (k0+k))/\∀(k:Nat) o,rest[k]?=some o->eff (k0+k)=false->∀σ:Pls,DoesG P m σ full o (envsOf env rest As k) (As k)
 |[],k0,env,h=>⟨fun _=>.junk,h,fun k hk=>by simp at hk,fun k o ho=>by simp at ho⟩
 | o :: r,k0,env,h=>by
  have key:∃A,vcE P T full m eff res r (k0+1) (stepE o A env) K/\(eff k0=true->A=res k0)/\(eff k0=false->∀σ:Pls,DoesG P m σ full o env A):=by
   rw[vcE_cons]at h
   have hs1:∀t∈tmpsOf o.op,t∈slots full o:=fun t ht=>mem_app2.2 (.inl ht)
   cases he:eff k0 with
   |true =>
    rw[he]at h
    exact⟨_,setD_step h,fun _=>rfl,fun h=>by cases h⟩
   |false =>
   rw[he]at h
   simp only at h
   split at h
   .rename_i hg
    obtain⟨A,hK,hD⟩:=vcR1_okA hT h
    refine⟨A,setD_step hK,fun h=>(by cases h),fun _ σ F w a hm he=>⟨fun _=>hD σ F w a hm (sel_ok fun t ht=>he t (hs1 t ht)),fun hw=>?_⟩⟩
    simp[Region.wanted,hg]at hw
   .rename_i j want hg
    have hs2:∀t∈gTmp full (some (j,want)),t∈slots full o:=fun t ht=>mem_app2.2 (.inr (by rw[hg];exact ht))
    split at h<;>try (cases h;done)
    rename_i g hgo
    have hw:∀(σ:Pls) (F:Nat->Prop) (w:World) (a:Act),(∀t∈slots full o,Vc w F σ (get env t) (a.tmps.getD t undef))->Region.wanted o (yielded full.toArray a.tmps)=g:=fun σ F w a he=>by
     simp only[Region.wanted,hg]
     exact guardOf_ok (sel_ok fun t ht=>he t (hs2 t ht)) hgo
    split at h
    .rename_i v l hr
     obtain⟨hl,h⟩:=obs_ok h
     rw[frc_eq]at h
     refine⟨.gd g v,setD_step h,fun h=>(by cases h),fun _ σ F w a hm he=>?_⟩
     rw[hw σ F w a he]
     refine⟨fun hgt=>?_,fun hgf w F=>.gd (fun h=>by rw[hgf]at h;cases h) fun _=>rfl⟩
     exact YieldR.mono (fun w F u hu=>.gd (fun _=>hu) fun h=>by rw[hgt]at h;cases h) (evRead_does hT hr (under_ok hl hgt) F w a hm (sel_ok fun t ht=>he t (hs1 t ht)))
    .cases g with
     |true =>
      obtain⟨A,hK,hD⟩:=vcR1_okA hT (h.t rfl).o
      refine⟨A,setD_step hK,fun h=>(by cases h),fun _ σ F w a hm he=>⟨fun _=>hD σ F w a hm (sel_ok fun t ht=>he t (hs1 t ht)),fun hwf=>?_⟩⟩
      rw[hw σ F w a he]at hwf
      cases hwf
     |false =>
      refine⟨_,setD_step (h.f rfl).o,fun h=>(by cases h),fun _ σ F w a hm he=>⟨fun hwt=>?_,fun _ w F=>.gd (fun h=>by cases h) fun _=>rfl⟩⟩
      rw[hw σ F w a he]at hwt
      cases hwt
  obtain⟨A,hr,hA,hD⟩:=key
  obtain⟨As,hK,hAe,hAs⟩:=vcE_ext hT r (k0+1) _ hr
  refine⟨consA A As,?_,fun k hk he=>?_,fun k o' ho he=>?_⟩
  .rw[List.length_cons,envsOf_cons]
   exact hK
  .cases k with
   |zero=>exact hA he
   |succ k =>
    have:=hAe k (by simpa using hk) (by rw[<-he];congr 1;omega)
    show As k=_
    rw[this]
    congr 1
    omega
  .cases k with
   |zero=>simp at ho;subst ho;exact hD he
   |succ k =>
    rw[envsOf_cons]
    exact hAs k o' (by simpa using ho) (by rw[<-he];congr 1;omega)
theorem drawn_eff {id N:Nat} {ops:Array Oper} {F:Nat→Prop} {w:World} {a:Act} {env:Env} {σ:Pls} {K:Env→Prop} {Q:Exit→Act→World→Prop} {eff:Nat→Bool} {res:Nat→AV}
  (h1:P.follows .mixedOrders=true) (h2:okR ops.toList=true) (hT:TabOk P T) (hd:dstsIn N ops.toList=true) (h:vcE P T ops.toList m eff res ops.toList 0 env K) (hN:a.tmps.size=N) (he:EnvOk env w F σ a.tmps)
  (R:Array Bool->Act->World->(Nat->Prop)->Pls->Prop) (hRm:∀listed a' w' F' σ' (i:Nat),i<ops.size->eff i=false->listed.getD i true=false->R listed a' w' F' σ'->MemOk m σ' F' w')
  (hR0:R (Array.replicate ops.size false) a {w with drawn:=w.drawn+1} F σ)
  (hRq:∀listed a' w' F' σ' F2 w2 v (i:Nat) o,R listed a' w' F' σ'->Grew F' w' F2 w2->eff i=false->ops[i]?=some o->listed.size=ops.size->a'.tmps.size=N->R (listed.setIfInBounds i true) (a'.put o.dst v) w2 F2 σ')
  (hRe:∀ As listed a' w' F' σ' (i:Nat) o,(∀ (j:Nat) o d,ops[j]?=some o→o.dst=some d→get (envsOf env ops.toList As ops.size) d=As j)→K (envsOf env ops.toList As ops.size)→(∀ (j:Nat),j < ops.size→eff j=true→As j=res j)→eff i=true→ops[i]?=some o→listed.getD i true=false→(∀ e∈o.after,Region.binds .any e=true→listed.getD e.on true=true)→(∀ (j:Nat) o,ops[j]?=some o→listed.getD j true=true→∀ e∈o.after,Region.binds .any e=true→listed.getD e.on true=true)→listed.size=ops.size→a'.tmps.size=N→a'.defers=a.defers→Slots ops ops.size env σ' As listed F' w' a'.tmps→R listed a' w' F' σ' →
   ∀next:Act->World->Prop,(∀v w2 F2 σ2,(∀A u,Vc w' F' σ' A u->Vc w2 F2 σ2 A u)->Vc w2 F2 σ2 (res i) v->R (listed.setIfInBounds i true) (a'.put o.dst v) w2 F2 σ2->next (a'.put o.dst v) w2)->wpOpIn (Fen ro) 0 P ops Q i next a' w')
  (hQ:∀env' a' w' F' σ',K env'->a'.tmps.size=N->a'.defers=a.defers->EnvOk env' w' F' σ' a'.tmps->(∀listed,(∀i,i<ops.size->listed.getD i true=true)->R listed a' w' F' σ'->Q .normal a' w')):(Code.region id ops true).wpIn (Fen ro) 0 P Q a w:=by
 obtain⟨As,hK,hAe,hD0⟩:=vcE_ext hT ops.toList 0 env h
 have hO:∀(i:Nat) o,ops[i]?=some o->OrdAt ops.toList i o:=fun i o ho=>by
  have:=okFrom_at h2 i o (by rw[Array.getElem?_toList];exact ho)
  rwa [Nat.zero_add]at this
 have hdst:∀(i:Nat) o d,ops[i]?=some o->o.dst=some d->d<N:=by
  have:∀(l:List Oper),dstsIn N l=true->∀(i:Nat) o d,l[i]?=some o->o.dst=some d->d<N:=by
   intro l
   induction l with
   |nil=>intro _ i o d ho;simp at ho
   | cons x r ih =>
    intro hl i o d ho hdo
    simp only[dstsIn,Bool.and_eq_true]at hl
    cases i with
    |zero =>
     simp at ho
     subst ho
     have:=hl.1
     rw[hdo]at this
     exact Nat.le_of_ble_eq_true this
    |succ i=>exact ih hl.2 i o d (by simpa using ho) hdo
  exact fun i o d ho hdo=>this ops.toList hd i o d (by rw[Array.getElem?_toList];exact ho) hdo
 have hsize:ops.toList.length=ops.size:=Array.length_toList
 have hEd:∀(i:Nat) o d,ops[i]?=some o->o.dst=some d->∀k,i<k->k<=ops.toList.length->get (envsOf env ops.toList As k) d=As i:=by
  intro i o d ho hdo k hk hkn
  have hol:ops.toList[i]?=some o:=by rw[Array.getElem?_toList];exact ho
  rw[envs_stable (i:=i+1) k Om (fun j o' h3 h4 ho' hd'=>by
    have:=(hO i o ho).once d hdo j o' ho' hd'
    omega)]
  rw[envsOf,hol]
  exact get_step_self hdo
 have hE0:∀t k,k<=ops.toList.length->(∀(j:Nat) o,ops[j]?=some o->o.dst=some t->k<=j)->get (envsOf env ops.toList As k) t=get env t:=fun t k hk hno =>
  envs_stable (i:=0) k (Nat.zero_le _) (fun j o _ hj ho hdo=>by
   rw[Array.getElem?_toList]at ho
   have:=hno j o ho hdo
   omega)
 rw[hsize]at hK
 have hEd':∀(j:Nat) o d,ops[j]?=some o->o.dst=some d->get (envsOf env ops.toList As ops.size) d=As j:=fun j o d ho hdo=>hEd j o d ho hdo _ (Array.getElem?_eq_some_iff.1 ho).1 Om
 let Inv:Array Bool->Act->World->Prop:=fun listed a' w'=>a'.tmps.size=N/\a'.defers=a.defers/\(∀(j:Nat) o,ops[j]?=some o->listed.getD j true=true->∀e∈o.after,Region.binds .any e=true->listed.getD e.on true=true) /\
  ∃F' σ',Slots ops ops.size env σ' As listed F' w' a'.tmps/\R listed a' w' F' σ'
 have done:∀(fuel:Nat) (listed:Array Bool) (a':Act) (w':World),listed.size=ops.size->(∀i,i<ops.size->listed.getD i true=true)->Q .normal a' w'->wpAnyIn (Fen ro) 0 P .any ops Q fuel listed a' w':=by
  intro fuel listed a' w' hls hall hq
  have hnil:Region.ready .any ops listed=[]:=List.eq_nil_iff_forall_not_mem.2 fun i hi=>by
   obtain⟨g1,o,ho,_⟩:=mem_ready.1 hi
   rw[hall i (Array.getElem?_eq_some_iff.1 ho).1]at g1
   cases g1
  cases fuel with
  |zero=>exact⟨hnil,hq⟩
  |succ fuel=>exact⟨fun _=>hq,fun i hi=>by rw[hnil]at hi;cases hi⟩
 have fin:∀(listed:Array Bool) (a':Act) (w':World),(∀i,i<ops.size->listed.getD i true=true)->Inv listed a' w'->Q .normal a' w':=by
  rintro listed a' w' hall ⟨i1,i2,ic,F',σ',i4,i5⟩
  refine hQ _ a' w' F' σ' hK i1 i2 (fun t=>?_) listed hall i5
  by_cases hex:∃(j:Nat) (o:Oper),ops[j]?=some o/\o.dst=some t
  .obtain⟨j,o,ho,hdo⟩:=hex
   have hj:=(Array.getElem?_eq_some_iff.1 ho).1
   rw[hEd' j o t ho hdo]
   exact(i4 t).1 j o hj ho hdo (hall j hj)
  .rw[hE0 t _ Om (fun j o ho hdo=>absurd ⟨j,o,ho,hdo⟩ hex)]
   exact(i4 t).2 fun j o ho hdo=>absurd ⟨j,o,ho,hdo⟩ hex
 have main:∀ (fuel:Nat) (listed:Array Bool) (a':Act) (w':World),listed.size=ops.size→unl listed.toList≤fuel→Inv listed a' w'→wpAnyIn (Fen ro) 0 P .any ops Q fuel listed a' w':=by
  intro fuel
  induction fuel with
  | zero =>
   intro listed a' w' hls hun hI
   have hall:∀i,i<ops.size->listed.getD i true=true:=fun i hi=>by
    rw[getD_list]
    cases hb:listed.toList[i]? with
    |none=>rfl
    |some b=>exact unl_zero Om i b hb
   exact done 0 listed a' w' hls hall (fin listed a' w' hall hI)
  | succ fuel ih =>
   intro listed a' w' hls hun hI
   refine⟨fun hnil=>?_,fun i hi=>?_⟩
   .have hall:∀i,i<ops.size->listed.getD i true=true:=by
     intro i
     induction i using Nat.strongRecOn with
     | _ i ihi =>
      intro hi
      cases hb:listed.getD i true with
      |true=>rfl
      | false =>
       exfalso
       have ho:ops[i]?=some ops[i]:=Array.getElem?_eq_getElem hi
       have:i∈Region.ready .any ops listed:=mem_ready.2 ⟨hb,_,ho,fun e he hbe=>by
        have hlt:=(hO i _ ho).back e he hbe
        have:=ihi e.on hlt Om
        rw[getD_list]at this⊢
        have hin:e.on<listed.toList.length:=by rw[Array.length_toList,hls];omega
        rw[List.getElem?_eq_getElem hin]at this⊢
        exact this⟩
       rw[hnil]at this
       cases this
    exact fin listed a' w' hall hI
   .obtain⟨g1,o,ho,g2⟩:=mem_ready.1 hi
    have hin:i<ops.size:=(Array.getElem?_eq_some_iff.1 ho).1
    have hoi:=hO i o ho
    obtain⟨i1,i2,ic,F',σ',i4,i5⟩:=hI
    have toT:∀j,j<ops.size->listed.getD j false=true->listed.getD j true=true:=fun j hj h=>by
     rw[getD_list]at h⊢
     have hin2:j<listed.toList.length:=by rw[Array.length_toList,hls];omega
     rw[List.getElem?_eq_getElem hin2]at h⊢
     exact h
    have hlist:listed.toList[i]?=some false:=by
     rw[getD_list]at g1
     cases hb:listed.toList[i]? with
     |none=>rw[hb]at g1;cases g1
     |some b=>rw[hb]at g1;simp at g1;rw[g1]
    have hset:∀j,j≠i->(listed.setIfInBounds i true).getD j true=listed.getD j true:=fun j hne=>by
     rw[getD_list,Array.toList_setIfInBounds,List.getElem?_set_ne (fun e=>hne e.symm),<-getD_list]
    have hsetm:∀j,listed.getD j true=true->(listed.setIfInBounds i true).getD j true=true:=fun j h=>by
     by_cases e:j=i
     .subst e;rw[h]at g1;cases g1
     .rw[hset j e];exact h
    have hseti:(listed.setIfInBounds i true).getD i true=true:=by
     rw[getD_list,Array.toList_setIfInBounds,List.getElem?_set_self (by rw[Array.length_toList,hls];exact hin)]
     rfl
    have hclosed:∀(j:Nat) o,ops[j]?=some o->(listed.setIfInBounds i true).getD j true=true->∀e∈o.after,Region.binds .any e=true->(listed.setIfInBounds i true).getD e.on true=true:=fun j o' ho' hj e he hb=>by
     by_cases hji:j=i
     .subst hji
      rw[ho]at ho'
      cases ho'
      have hlt:=hoi.back e he hb
      exact hsetm _ (toT _ Om (g2 e he hb))
     .rw[hset j hji]at hj
      exact hsetm _ (ic j o' ho' hj e he hb)
    have hun':unl (listed.setIfInBounds i true).toList<=fuel:=by
     have:=unl_set hlist
     rw[Array.toList_setIfInBounds]
     omega
    have putv:∀(v:Value) t,o.dst≠some t->(a'.put o.dst v).tmps.getD t undef=a'.tmps.getD t undef:=fun v t hdt=>by
     cases hdo:o.dst with
     |none=>rfl
     |some d =>
      simp only[Act.put,Array.getD_eq_getD_getElem?]
      rw[Array.getElem?_setIfInBounds_ne (fun e=>hdt (by rw[hdo,e]))]
    have puts:∀(v:Value) t,o.dst=some t->(a'.put o.dst v).tmps.getD t undef=v:=fun v t hdt=>by
     have hdN:=hdst i o t ho hdt
     rw[hdt]
     simp only[Act.put,Array.getD_eq_getD_getElem?]
     rw[Array.getElem?_setIfInBounds_self_of_lt (by rw[i1];exact hdN)]
     rfl
    have slots2:∀(v:Value) (w2:World) (F2:Nat->Prop) (σ2:Pls),(∀A u,Vc w' F' σ' A u->Vc w2 F2 σ2 A u)->Vc w2 F2 σ2 (As i) v->Slots ops ops.size env σ2 As (listed.setIfInBounds i true) F2 w2 (a'.put o.dst v).tmps:=fun v w2 F2 σ2 mono hv t=>by
     by_cases hdt:o.dst=some t
     .rw[puts v t hdt]
      refine⟨fun j o' hjp ho' hd' _=>?_,fun hno=>?_⟩
      .have:=hoi.once t hdt j o' (by rw[Array.getElem?_toList];exact ho') hd'
       subst this
       exact hv
      .have:=hno i o ho hdt
       rw[hseti]at this
       cases this
     .rw[putv v t hdt]
      have hne:∀(j:Nat) o',ops[j]?=some o'->o'.dst=some t->j≠i:=fun j o' ho' hd' e=>by
       subst e
       rw[ho]at ho'
       cases ho'
       exact hdt hd'
      refine⟨fun j o' hjp ho' hd' hj=>?_,fun hno=>?_⟩
      .rw[hset j (hne j o' ho' hd')]at hj
       exact mono _ _ ((i4 t).1 j o' hjp ho' hd' hj)
      .exact mono _ _ ((i4 t).2 fun j o' ho' hd'=>by
        have:=hno j o' ho' hd'
        rwa [hset j (hne j o' ho' hd')]at this)
    cases hef:eff i with
    |true =>
     refine hRe As listed a' w' F' σ' i o hEd' hK (fun j hj he=>by have:=hAe j Om (by rw[Nat.zero_add];exact he);rwa [Nat.zero_add]at this) hef ho g1 (fun e he hb=>toT _ (by have:=hoi.back e he hb;omega) (g2 e he hb)) ic hls i1 i2 i4 i5 _ fun v w2 F2 σ2 k1 k2 k3=>?_
     have hAi:=hAe i Om (by rw[Nat.zero_add];exact hef)
     rw[Nat.zero_add]at hAi
     exact ih _ _ _ (by simp[hls]) hun' ⟨by rw[put_size];exact i1,by rw[put_defers];exact i2,hclosed,F2,σ2,slots2 v w2 F2 σ2 k1 (by rw[hAi];exact k2),k3⟩
    |false =>
    have hmw:=hRm _ _ _ _ _ i hin hef g1 i5
    have hslots:∀ t∈slots ops.toList o,Vc w' F' σ' (get (envsOf env ops.toList As i) t) (a'.tmps.getD t undef):=fun t ht=>by
     by_cases hex:∃(j:Nat) (o':Oper),ops[j]?=some o'/\o'.dst=some t
     .obtain⟨j,o',ho',hdo'⟩:=hex
      have hj:j<ops.size:=(Array.getElem?_eq_some_iff.1 ho').1
      have honce:∀(j2:Nat) o2,ops[j2]?=some o2->o2.dst=some t->j2=j:=fun j2 o2 h3 h4=>(hO j o' ho').once t hdo' j2 o2 (by rw[Array.getElem?_toList];exact h3) h4
      rcases hoi.defs t ht j o' (by rw[Array.getElem?_toList];exact ho') hdo' with ⟨hji,e,hee,heon,heb⟩|⟨hij,hcase⟩
      .rw[hEd j o' t ho' hdo' i hji Om]
       refine(i4 t).1 j o' hj ho' hdo' ?_
       have:=g2 e hee heb
       rw[heon]at this
       exact toT j hj this
      .rw[hE0 t i Om (fun j2 o2 h3 h4=>by rw[honce j2 o2 h3 h4];exact hij)]
       refine(i4 t).2 fun j2 o2 h3 h4=>?_
       have hj2:=honce j2 o2 h3 h4
       subst hj2
       rcases hcase with rfl|⟨e,hee,heon,heb⟩
       .exact g1
       .cases hb:listed.getD j2 true with
        |false=>rfl
        |true =>
         have:=ic j2 o' ho' hb e hee heb
         rw[heon,g1]at this
         cases this
     .rw[hE0 t i Om (fun j2 o2 h3 h4=>absurd ⟨j2,o2,h3,h4⟩ hex)]
      exact(i4 t).2 fun j2 o2 h3 h4=>absurd ⟨j2,o2,h3,h4⟩ hex
    have hdoes:=hD0 i o (by rw[Array.getElem?_toList];exact ho) (by rw[Nat.zero_add];exact hef) σ' F' w' a' hmw hslots
    have hy:ops.toList.toArray=ops:=Array.toArray_toList
    rw[hy]at hdoes
    have next:∀(v:Value) (w2:World) (F2:Nat->Prop),Grew F' w' F2 w2->Vc w2 F2 σ' (As i) v->wpAnyIn (Fen ro) 0 P .any ops Q fuel (listed.setIfInBounds i true) (a'.put o.dst v) w2:=by
     intro v w2 F2 hg hv
     exact ih _ _ _ (by simp[hls]) hun' ⟨by rw[put_size];exact i1,by rw[put_defers];exact i2,hclosed,F2,σ',slots2 v w2 F2 σ' (fun A u h=>h.mono hg.fro (fun b hb=>hg.keep b (hmw.fl b hb)) (SLe.refl σ')) hv,hRq listed a' w' F' σ' F2 w2 v i o i5 hg hef ho hls i1⟩
    unfold wpOpIn
    simp only[ho]
    cases hw:Region.wanted o (yielded ops a'.tmps) with
    |false =>
     simp only[Bool.false_eq_true,if_false]
     exact⟨fun _ _=>trivial,next _ _ _ (Grew.refl hmw.fl) (hdoes.2 hw _ _)⟩
    | true =>
     simp only[if_true]
     have h3:=hdoes.1 hw
     have hdef:∀c,o.op≠.defer c:=fun c hc=>by
      simp only[execOp,hc,Sem.run_bind]at h3
      cases hr:(resolve a'.eval c o.type).run P w'<;>simp[hr,Result.andThen,YieldR]at h3
     refine wpIn_at hdef ?_
     generalize (execOp a'.eval o).run P w'=r at h3
     cases r with
     | ok x w2 =>
      cases x<;>simp only[YieldR]at h3<;>simp only[Oper.uponIn]
      case value u =>
       obtain⟨F2,k1,k2⟩:=h3
       exact next u w2 F2 k1 k2
      case enter f args =>
       obtain⟨e1,hc⟩:=h3
       rw[e1]
       exact⟨Fen_depth,callsFen.2 (hc.mono fun e w3 ⟨u,F3,he,k1,k2⟩=>by subst he;exact next u w3 F3 k1 k2)⟩
     |halt x w2=>simp only[YieldR]at h3
 have hrep:∀j,j<ops.size->(Array.replicate ops.size false).getD j true=false:=fun j hj=>by
  rw[getD_list,Array.toList_replicate,List.getElem?_replicate,if_pos hj]
  rfl
 refine wpIn_region_any h1 (main ops.size _ a _ (by simp) ?_ ⟨hN,rfl,fun j o ho hj=>?_,F,σ,fun t=>⟨fun j o _ ho _ hj=>?_,fun _=>?_⟩,hR0⟩)
 .have:∀k,unl (List.replicate k false)=k:=fun k=>by
   induction k with
   |zero=>rfl
   |succ k ih=>rw[List.replicate_succ,unl,ih];simp;omega
  rw[Array.toList_replicate,this]
  exact Nat.le_refl _
 .rw[hrep j (Array.getElem?_eq_some_iff.1 ho).1]at hj
  cases hj
 .rw[hrep j (Array.getElem?_eq_some_iff.1 ho).1]at hj
  cases hj
 .exact Vc.mono (w:=w) (w':={w with drawn:=w.drawn+1}) (fun _ h=>h) (fun _ _=>rfl) (SLe.refl σ) (he t)
end
section
variable {P:Program}{T:Tab}{m:Mem}
variable {ro:Option Nat}
theorem SLe.trans {σ σ' σ'':Pls}(h:SLe σ σ')(k:SLe σ' σ''):SLe σ σ'':=fun r q hq=>by
 obtain⟨q1,h1,l1⟩:=h r q hq
 obtain⟨q2,h2,l2⟩:=k r q1 h1
 exact⟨q2,h2,l1.trans l2⟩
def noLate (ts:List Nat)(i:Nat)(l:List Oper):Bool:=(l.drop i).all fun o=>match o.dst with
 |some d=>!(memN d ts)
 |none=>true
theorem noLate_at {ts:List Nat}{i:Nat}{l:List Oper}(h:noLate ts i l=true){t:Nat}(ht:t∈ts){j:Nat}{o:Oper}(ho:l[j]?=some o)(hd:o.dst=some t):j<i:=by
 rcases Nat.lt_or_ge j i with hj|hj
 .exact hj
 .exfalso
  unfold noLate at h
  rw[List.all_eq_true]at h
  have hm:o∈l.drop i:=by
   rw[List.mem_iff_getElem?]
   exact⟨j-i,by rw[List.getElem?_drop,show i+(j-i)=j by omega];exact ho⟩
  have:=h o hm
  rw[hd]at this
  simp only[Bool.not_eq_true']at this
  have h2:memN t ts=true:=by
   clear this h hm
   induction ts with
   |nil=>simp at ht
   |cons a r ih =>
    rcases List.mem_cons.1 ht with rfl|ht
    .simp[memN]
    .simp[memN,ih ht]
  rw[h2]at this
  cases this
def WeakL:List (Option Blk)->List (Option Blk)->Prop
 |[],[]=>True
 |x::r,y::s=>(x=y\/(x=some .opq/\∃B,y=some B))/\WeakL r s
 |_,_=>False
theorem WeakL.at:∀{a b:List (Option Blk)},WeakL a b->∀j:Nat,a[j]?=b[j]?\/(a[j]?=some (some .opq)/\∃B,b[j]?=some (some B))
 |[],[],_,j=>.inl rfl
 |x::r,y::s,h,0=>by
  rcases h.1 with h|⟨h,B,hB⟩
  .exact .inl (by rw[h];rfl)
  .exact .inr ⟨by rw[h];rfl,B,by rw[hB];rfl⟩
 |x::r,y::s,h,j+1=>by
  have:=WeakL.at h.2 j
  simpa using this
 |[],_::_,h,_=>h.elim
 |_::_,[],h,_=>h.elim
theorem Weak.of {a b a' b':List (Option Blk)}(h1:WeakL a a')(h2:WeakL b b'):Weak ⟨a,b⟩ ⟨a',b'⟩:=fun r=>by
 cases r with
 |loc j=>exact h1.at j
 |arg j=>exact h2.at j
 |bad=>exact .inl rfl
def pathOk (ops:List Oper):List Nat->Bool
 |i::j::r=>(match ops[i]? with
  |some o=>edgeOn o.after.toList j
  |none=>false)&&pathOk ops (j::r)
 |_=>true
theorem path_at {ops:Array Oper}{listed:Array Bool}(hc:∀(j:Nat) o,ops[j]?=some o->listed.getD j true=true->∀e∈o.after,Region.binds .any e=true->listed.getD e.on true=true):∀(l:List Nat) (i:Nat),pathOk ops.toList (i::l)=true->listed.getD i true=true->∀x∈l,listed.getD x true=true
 |[],i,_,_,x,hx=>by simp at hx
 | j :: r,i,h,hi,x,hx=>by
  simp only[pathOk,Bool.and_eq_true]at h
  have hj:listed.getD j true=true:=by
   have h1:=h.1
   rw[Array.getElem?_toList]at h1
   cases ho:ops[i]? with
   |none=>rw[ho]at h1;cases h1
   |some o =>
    rw[ho]at h1
    obtain⟨e,he,heo,heb⟩:=edgeTo_of h1
    have:=hc i o ho hi e he heb
    rwa [heo]at this
  rcases List.mem_cons.1 hx with rfl|hx
  .exact hj
  .exact path_at hc r j h.2 hj x hx
theorem eff_step (hT:TabOk P T){id N:Nat}{ops:Array Oper}{i:Nat}{o:Oper}{env:Env}{As:Nat->AV}{m1 m2:Mem}{B:AV}{d:Nat}(h2:okR ops.toList=true)(hdN:Nat.blt d N=true)(ho:ops[i]?=some o)(hdst:o.dst=some d)(hnl:noLate (slots ops.toList o) i ops.toList=true)
  {A:AV} (hA:A=match o.guard with|none=>B|some _=>.gd true B) (hgd:∀j want,o.guard=some (j,want)->guardOf ops.toList (sel (envsOf env ops.toList As ops.size) (gTmp ops.toList (some (j,want)))) j want=some true)
  (hop:vcOp P T o (sel (envsOf env ops.toList As ops.size) (tmpsOf o.op)) m1 fun e m'=>get e d=B/\m'=m2) (hE:∀(j:Nat) o d,ops[j]?=some o->o.dst=some d->get (envsOf env ops.toList As ops.size) d=As j)
  {σ':Pls} {F':Nat->Prop} {w':World} {a':Act} {listed:Array Bool} (hN:a'.tmps.size=N) (hm:MemOk m1 σ' F' w') (hen:∀e∈o.after,Region.binds .any e=true->listed.getD e.on true=true) (hs:Slots ops ops.size env σ' As listed F' w' a'.tmps)
  {next:Act->World->Prop} {Q:Exit->Act->World->Prop} (hn:∀v w2 F2 σ2,(∀A u,Vc w' F' σ' A u->Vc w2 F2 σ2 A u)->Vc w2 F2 σ2 A v->MemOk m2 σ2 F2 w2->Step σ' F' w' σ2 F2 w2->SLe σ' σ2->next (a'.put o.dst v) w2):wpOpIn (Fen ro) 0 P ops Q i next a' w':=by
 have hol:ops.toList[i]?=some o:=by rw[Array.getElem?_toList];exact ho
 have hoi:OrdAt ops.toList i o:=by
  have:=okFrom_at h2 i o hol
  rwa [Nat.zero_add]at this
 have rd:∀t∈slots ops.toList o,Vc w' F' σ' (get (envsOf env ops.toList As ops.size) t) (a'.tmps.getD t undef):=fun t ht=>by
  by_cases hex:∃(j:Nat) (o':Oper),ops[j]?=some o'/\o'.dst=some t
  .obtain⟨j,o',ho',hdo'⟩:=hex
   have hol':ops.toList[j]?=some o':=by rw[Array.getElem?_toList];exact ho'
   have hji:=noLate_at hnl ht hol' hdo'
   rw[hE j o' t ho' hdo']
   refine(hs t).1 j o' (Array.getElem?_eq_some_iff.1 ho').1 ho' hdo' ?_
   rcases hoi.defs t ht j o' hol' hdo' with ⟨_,e,hee,heon,heb⟩|⟨hij,_⟩
   .have:=hen e hee heb
    rwa [heon]at this
   .omega
  .have hsz:ops.toList.length=ops.size:=Array.length_toList
   have:get (envsOf env ops.toList As ops.size) t=get (envsOf env ops.toList As 0) t:=envs_stable (i:=0) ops.size (Nat.zero_le _) (fun j o2 _ _ h3 h4=>hex ⟨j,o2,by rwa [Array.getElem?_toList]at h3,h4⟩)
   rw[this]
   exact(hs t).2 fun j o2 h3 h4=>absurd ⟨j,o2,h3,h4⟩ hex
 have hw:Region.wanted o (yielded ops a'.tmps)=true:=by
  cases hg:o.guard with
  |none=>simp[Region.wanted,hg]
  |some g =>
   obtain⟨j,want⟩:=g
   simp only[Region.wanted,hg]
   have:=guardOf_ok (tmps:=a'.tmps) (sel_ok fun t ht=>rd t (mem_app2.2 (.inr (by rw[hg];exact ht)))) (hgd j want hg)
   have hy:ops.toList.toArray=ops:=Array.toArray_toList
   rwa [hy]at this
 unfold wpOpIn
 simp only[ho,hw,if_true]
 refine vcOp_ok hT hop (by rw[hdst];exact hdN) hN (sel_ok fun t ht=>rd t (mem_app2.2 (.inl ht))) hm ?_
 rintro env' m' v w2 σ2 F2 ⟨k1,rfl⟩ k2 k3 k4 k5
 have mono:∀A u,Vc w' F' σ' A u->Vc w2 F2 σ2 A u:=fun A u hv=>hv.mono k4.fro (fun b hb=>k4.keep b (hm.fl b hb) (fun⟨r,pl,t,e1,e2⟩=>(hm.nf r pl b t e1 e2).1 hb)) k5
 refine hn v w2 F2 σ2 mono ?_ k3 k4 k5
 have hv:=k2 d
 rw[k1,hdst,put_eq (by rw[hN];exact Nat.le_of_ble_eq_true hdN)]at hv
 rw[hA]
 cases o.guard with
 |none=>exact hv
 |some g=>exact .gd (fun _=>hv) fun h=>by cases h
theorem Awp.eff1 (hT:TabOk P T){id N:Nat}{ops:Array Oper}{env:Env}{Q:Post}(h1:P.follows .mixedOrders=true)(h2:okR ops.toList=true)(hd:dstsIn N ops.toList=true)(i1:Nat){o1:Oper}{d1:Nat}(ho1:ops[i1]?=some o1)(hd1:o1.dst=some d1)(b1:Nat.blt d1 N=true)
  (g1:o1.guard=none) (n1:noLate (slots ops.toList o1) i1 ops.toList=true) {m0 m1:Mem} {B1:AV} (w0:Weak m0 m) (w1:Weak m0 m1)
  (h:vcE P T ops.toList m0 (fun i=>Nat.beq i i1) (fun _=>B1) ops.toList 0 env fun E=>vcOp P T o1 (sel E (tmpsOf o1.op)) m (fun e m'=>get e d1=B1/\m'=m1)/\Ev (Q .normal E m1)):Awp P N (.region id ops true) env m Q :=
 ⟨fun ro lo a w σ F hN hD he hm=>by
  have hi1:i1<ops.size:=(Array.getElem?_eq_some_iff.1 ho1).1
  refine drawn_eff (m:=m0) (σ:=σ) h1 h2 hT hd h hN he (fun listed a' w' F' σ'=>MemOk (bif listed.getD i1 true then m1 else m) σ' F' w'/\Step σ F w σ' F' w'/\SLe σ σ') ?_ ?_ ?_ ?_ ?_
  .rintro listed a' w' F' σ' _ _ _ _ ⟨hk,_⟩
   cases e1:listed.getD i1 true with
   |true=>rw[e1]at hk;exact w1.ok hk
   |false=>rw[e1]at hk;exact w0.ok hk
  .have hrep:∀j,j<ops.size->(Array.replicate ops.size false).getD j true=false:=fun j hj=>by
    rw[getD_list,Array.toList_replicate,List.getElem?_replicate,if_pos hj]
    rfl
   rw[hrep _ hi1]
   exact⟨(Grew.drew hm.fl).mem hm,(Grew.drew hm.fl).step σ,SLe.refl σ⟩
  .rintro listed a' w' F' σ' F2 w2 v i o ⟨hmw,hst,hsl⟩ hg hi ho hls hN'
   have x1:=Nat.ne_of_beq_eq_false hi
   rw[listed_set (fun e=>x1 e.symm)]
   exact⟨hg.mem hmw,hst.trans (hg.step σ'),hsl⟩
  .rintro As listed a' w' F' σ' i o hE hK _ hi ho hl hen hcl hls hN' hD' hs ⟨hmm,hst,hsl⟩ next hnext
   obtain⟨k1,_⟩:=hK
   have:=(Nat.eq_of_beq_eq_true hi).symm
   subst this
   rw[ho1]at ho
   cases ho
   rw[hl]at hmm
   refine eff_step (id:=id) hT h2 b1 ho1 hd1 n1 (A:=B1) (by rw[g1]) (fun j want hg=>by rw[g1]at hg;cases hg) k1 hE hN' hmm hen hs fun v w2' F2 σ2 q1 q2 q3 q4 q5=>hnext v w2' F2 σ2 q1 q2 ⟨?_,hst.trans q4,SLe.trans hsl q5⟩
   rw[listed_self]
   exact q3
  .rintro env' a' w' F' σ' ⟨_,hK⟩ hN' hD' hE listed hall ⟨hmm,hst,hsl⟩
   rw[hall _ hi1]at hmm
   exact⟨_,m1,σ',F',hK.o,hN',by rw[hD'];exact hD.step hst,hE,hmm,hst,SArg.of hsl⟩⟩
end
section
variable {P:Program}{T:Tab}{N:Nat}{w:World}{F:Nat->Prop}{σ:Pls}{m:Mem}{env:Env}{K:AV->Mem->Prop}{o:Oper}
end
end Go.Ab
namespace Go.Ab
set_option linter.unusedSimpArgs false
set_option linter.unusedVariables false
open Go.ChangeShapes Go.WideShapes Go.RowKit Go.Deep
section
variable {H:Type}{enc:TypeId × Value->H}{P:Program}{w:World}
def RdL (w:World)(ds:List D)(cs:List Value):Prop :=
 ds.length=cs.length/\∀(j:Nat) d u,ds[j]?=some d->cs[j]?=some u->Rd w (· < w.heap.size) d u/\u.oneCell'=true
theorem RdL.append {ds ds':List D}{cs cs':List Value}(h:RdL w ds cs)(h':RdL w ds' cs'):RdL w (ds++ds') (cs++cs'):=by
 refine⟨by simp[h.1,h'.1],fun j d u hd hu=>?_⟩
 rw[List.getElem?_append]at hd hu
 rw[h.1]at hd
 split at hd
 .rename_i hj;rw[if_pos hj]at hu;exact h.2 j d u hd hu
 .rename_i hj;rw[if_neg hj]at hu;exact h'.2 _ d u hd hu
theorem RdL.one {d:D}{u:Value}(h:Rd w (· < w.heap.size) d u)(h1:u.oneCell'=true):RdL w [d] [u] :=
 ⟨rfl,fun j d' u' hd hu=>by
  match j with
  |0=>simp at hd hu;subst hd;subst hu;exact⟨h,h1⟩
  |j+1=>simp at hd⟩
theorem below_trodAll (hl:laidOutB P=true){W W':World}(hb:Below W.heap.size W W'):∀{ts:List TypeId} {vs:List Value} {ds:List (DataW H)} {ps:List MemPlace},(∀t∈ts,P.readableRec t=true/\t<P.types.size) ->
  DataW.TrodAll enc P W 0 (fun _=>true) true ts vs ds ps->(∀x∈ps,x.block<W.heap.size)->DataW.TrodAll enc P W' 0 (fun b=>decide (b<W.heap.size)) true ts vs ds ps
 |[],[],[],_,_,h,_=>h
 | t :: _,_ :: _,_ :: _,_,ht,⟨p,q,h1,h2,e⟩,hp =>
  ⟨p,q,Below.trod hl (ht t (by simp)).1 (ht t (by simp)).2 h1 hb (fun x hx=>hp x (by rw [e];exact List.mem_append_left _ hx)),
   below_trodAll hl hb (fun t h=>ht t (by simp[h])) h2 (fun x hx=>hp x (by rw[e];exact List.mem_append_right _ hx)),e⟩
theorem law_post (hl:laidOutB P=true){f:FuncId}{fn:Func}{s:ChangeSpec}{apart fresh handsOn:Bool}{W:World}{args:Array Value}{ds gs:List (DataW H)}{before:List MemPlace}{tb:TypeId}
  (hts:∀t∈fn.params.toList,P.readableRec t=true/\t<P.types.size) (hrt:fn.resultTypes=#[tb]) (hb:P.underlying tb=some .bool) (hsv:s.vars=[])
  (hsf:s.fn H (ds++gs)={results:=[.lit (.bool true)],args:=ds})
  (hW:DataW.Whole enc P fn.params.toList s.vars apart W args.toList ds gs before)
  (hG:GOk (· < W.heap.size) W) (xs:List D) (hp:Pure P f xs [.bool true]) (hlen:args.toList.length=xs.length) (hr:∀(j:Nat) x u,xs[j]?=some x->args.toList[j]?=some u->Rd W (· < W.heap.size) x u) :
  Calls P f args W fun e W'=>∃v,e=.returned v/\s.post enc P fn apart fresh handsOn false W args v W':=by
 have:=hp.2 (· < W.heap.size) W args.toList (fun _ h=>h) hG hlen hr
 rw[Array.toArray_toList]at this
 refine this.mono ?_
 rintro e W' ⟨v,F',rfl,hg,hv⟩
 have hv':=hv fun _=>none
 have ev:v=.bool true:=by cases hv' with|d h=>cases h;rfl
 subst ev
 refine⟨_,rfl,?_⟩
 have hbl:Below W.heap.size W W':=⟨hg.os,hg.tape,hg.output,hg.size,hg.keep⟩
 have hlt:=hW.lt
 obtain⟨p,q,hA,hV,hpq,hfz,hnd⟩:=hW
 have hq:q=[]:=by
  rw[hsv]at hV
  match gs,hV with
  |[],hV=>exact hV
 subst hq
 rw[List.append_nil]at hpq
 subst hpq
 refine⟨ds,gs,before,[],before,[],⟨before,[],hA,hV,by simp,hfz,hnd⟩,?_,?_,?_,?_,fun h=>by cases h⟩
 .rw[hrt,hsf]
  exact trodAll_mk1 (shut_bool hb true)
 .rw[hsf]
  exact below_trodAll hl hbl hts hA hlt
 .rw[hsf,hsv]
  exact rfl
 .have hsame:W.keptBut W' (fun _=>False):=by
   refine⟨hg.os,hg.output,fun i hi=>?_⟩
   rw[hg.keep i hi]
   cases h:W.heap[i]? with
   |none=>rfl
   |some o=>cases o<;>simp
  exact World.keptBut_mono (fun _ h=>h.elim) hsame
end
section
variable {H:Type}{enc:TypeId × Value->H}{P:Program}{w:World}
def Opens (enc:TypeId × Value->H)(P:Program)(w:World)(m:Nat)(t:TypeId){α:Type}(e:α->List D)(ok:α->Prop):Prop :=
 ∀(cs:List Value) (x:DataW H × List MemPlace),DataW.trod enc P w 0 (fun _=>true) true m t cs=some x->∃a,ok a/\RdL w (e a) cs
theorem opens_bool {t:TypeId}(hu:P.underlying t=some .bool)(m:Nat):Opens enc P w m t (fun b:Bool=>[D.bool b]) fun _=>True:=fun cs x h=>by
 obtain⟨b,rfl,-⟩:=DataW.trod_bool hu h
 exact⟨b,Tt,.one .bool rfl⟩
theorem opens_int {t:TypeId}{k:IntKind}(hu:P.underlying t=some (.int k))(m:Nat):Opens enc P w m t (fun i:Int=>[D.int k i]) fun i=>(Lit.int k i).wf=true:=fun cs x h=>by
 obtain⟨i,rfl,-,hw⟩:=DataW.trod_int hu h
 exact⟨i,hw,.one .int rfl⟩
theorem opens_str {t:TypeId}(hu:P.underlying t=some .string)(m:Nat):Opens enc P w m t (fun s:ByteArray=>[D.str s]) fun s=>s.size<=maxLen:=fun cs x h=>by
 obtain⟨s,rfl,-,hs⟩:=DataW.trod_string hu h
 exact⟨s,hs,.one .str rfl⟩
theorem opens_slice (hl:laidOutB P=true){t et:TypeId}(ht:t<P.types.size)(hu:P.underlying t=some (.slice et)){sz:Nat}(hc:P.cellsOf et=sz)(h0:0<sz){α:Type}[Inhabited α]{e:α->List D}{ok:α->Prop}{m:Nat}(h:∀m',m'<m->Opens enc P w m' et e ok) :
  Opens enc P w m t (fun xs:List α=>[D.sl sz xs.length fun i=>e (xs.getD i default)]) fun xs=>xs.length<=maxLen/\∀a∈xs,ok a:=fun cs x hx=>by
 subst hc
 rcases DataW.trod_slice hu hx with ⟨rfl,-⟩|⟨a,len,cap,elems,rest,n,rfl,rfl,-,hb,hlc,hcap,hlen,hel,-,-⟩
 .exact⟨[],⟨Nat.zero_le _,fun a ha=>by simp at ha⟩,.one (.sl ⟨0,0,none⟩ (fun _ _=>undef) (Nat.le_refl _) (fun h=>absurd h (by simp)) (fun i hi=>absurd hi (by simp)) (fun i j hi=>absurd hi (by simp)) (fun i j x hi=>absurd hi (by simp))) rfl⟩
 .have hex:∀i,∃q:α × List Value,i<len->w.cells? 0 (a.add (i*P.cellsOf et)) (P.cellsOf et)=some q.2/\RdL w (e q.1) q.2/\ok q.1:=fun i=>by
   by_cases hi:i<len
   .have h1:=hel i hi
    rw[List.getElem?_eq_getElem Om]at h1
    cases hcs:w.cells? 0 (a.add (i*P.cellsOf et)) (P.cellsOf et) with
    |none=>rw[hcs]at h1;cases h1
    |some cs' =>
     rw[hcs]at h1
     obtain⟨q,h2,h3⟩:=h n (Nat.lt_succ_self n) cs' _ h1
     exact⟨(q,cs'),fun _=>⟨rfl,h3,h2⟩⟩
   .exact⟨(default,[]),fun h=>absurd h hi⟩
  have hq:=fun i=>(hex i).choose_spec
  have hcl:∀i j,i<len->j<P.cellsOf et->w.cell? (a.add (i*P.cellsOf et+j))=some ((hex i).choose.2.getD j undef)/\(hex i).choose.2[j]?=some ((hex i).choose.2.getD j undef):=fun i j hi hj=>by
   obtain⟨hc,-,-⟩:=hq i hi
   obtain⟨-,h2,h3⟩:=World.cells?_some hc
   have:(hex i).choose.2[j]?=some ((hex i).choose.2.getD j undef):=by
    rw[List.getD_eq_getElem?_getD,List.getElem?_eq_getElem Om];rfl
   refine⟨?_,this⟩
   rw[<-this,<-h3 j hj,Go.Deep.add_add]
  have hat:∀i,i<len->((List.range len).map fun i=>(hex i).choose.1).getD i default=(hex i).choose.1:=fun i hi=>by
   rw[List.getD_eq_getElem?_getD,List.getElem?_map,List.getElem?_range hi]
   rfl
  obtain⟨xs,hxs⟩:∃xs,(List.range len).map (fun i=>(hex i).choose.1)=xs:=⟨_,rfl⟩
  have hxl:xs.length=len:=by rw[<-hxs];simp
  have hxm:∀b∈xs,ok b:=fun b hb=>by
   rw[<-hxs]at hb
   obtain⟨i,hi,rfl⟩:=List.mem_map.1 hb
   exact(hq i (List.mem_range.1 hi)).2.2
  rw[hxs]at hat
  refine⟨xs,⟨by rw[hxl];exact Nat.le_trans hlc hcap,hxm⟩,.one ?_ rfl⟩
  rw[hxl]
  refine .sl a (fun i j=>(hex i).choose.2.getD j undef) hlc (fun h1=>⟨rfl,?_⟩) (fun i hi=>?_) (fun i j hi hj=>?_) (fun i j x hi hx=>?_)
  .have:=World.block_lt_of_cell? w _ (hcl 0 0 h1 h0).1
   rwa [add_block]at this
  .obtain⟨hc,h1,-⟩:=hq i hi
   rw[hat i hi,h1.1,(World.cells?_some hc).2.1]
  .obtain⟨hc,h1,-⟩:=hq i hi
   have hlen:=(World.cells?_some hc).2.1
   have hd:(e (hex i).choose.1)[j]?=some ((e (hex i).choose.1)[j]'(by rw[h1.1];omega)):=List.getElem?_eq_getElem _
   exact⟨(hcl i j hi hj).1,(h1.2 j _ _ hd (hcl i j hi hj).2).2⟩
  .rw[hat i hi]at hx
   obtain⟨hc,h1,-⟩:=hq i hi
   have hj:j<P.cellsOf et:=by
    have:=(List.getElem?_eq_some_iff.1 hx).1
    rw[h1.1,(World.cells?_some hc).2.1]at this
    exact this
   exact(h1.2 j x _ hx (hcl i j hi hj).2).1
theorem opens_fields (hl:laidOutB P=true){t:TypeId}(ht:t<P.types.size){fs:Array Field}(hu:P.underlying t=some (.struct fs)){m:Nat}{cs:List Value}{x:DataW H × List MemPlace}(h:DataW.trod enc P w 0 (fun _=>true) true m t cs=some x) :
  ∃m',m=m'+1/\(∀(j:Nat) f,fs[j]?=some f->∃y,DataW.trod enc P w 0 (fun _=>true) true m' f.type ((cs.drop f.offset).take (P.cellsOf f.type))=some y) /\
   ∀ps:List (List D),ps.length=fs.size->(∀(j:Nat) f p,fs[j]?=some f->ps[j]?=some p->RdL w p ((cs.drop f.offset).take (P.cellsOf f.type)))->RdL w ps.flatten cs:=by
 obtain⟨xs,m',rfl,-,hcs,hxl,hf⟩:=DataW.trod_struct hu h
 obtain⟨kt,ksum,koff⟩:=kid_struct hl ht hu
 refine⟨m',rfl,fun j f hj=>?_,fun ps hps hp=>?_⟩
 .have hjl:j<xs.length:=by have:=(Array.getElem?_eq_some_iff.1 hj).1;omega
  have:=hf j f hj
  rw[List.getElem?_eq_getElem hjl]at this
  exact⟨_,this⟩
 .have key:∀k,k<=fs.size->RdL w (ps.take k).flatten (cs.take (((fs.toList.map fun f=>P.cellsOf f.type).take k).sum)):=by
   intro k
   induction k with
   |zero=>intro _;exact⟨by simp,fun j d u h=>by simp at h⟩
   | succ k ihk =>
    intro hk
    have hj:fs[k]?=some fs[k]:=Array.getElem?_eq_getElem Om
    have hpk:ps[k]?=some (ps[k]'Om):=List.getElem?_eq_getElem Om
    have e0:ps.take (k+1)=ps.take k++[ps[k]'Om]:=by rw[List.take_add_one,hpk];rfl
    rw[e0,List.flatten_append]
    have e1:(fs.toList.map fun f=>P.cellsOf f.type).take (k+1)=(fs.toList.map fun f=>P.cellsOf f.type).take k++[P.cellsOf fs[k].type]:=by
     rw[List.take_add_one,List.getElem?_map]
     simp[hj]
    rw[e1,List.sum_append,List.take_add]
    refine(ihk Om).append ?_
    have:=hp k _ _ hj hpk
    rw[koff k _ (by simp)]at this
    simpa[List.map_take] using this
  have h1:=key fs.size (Nat.le_refl _)
  rw[List.take_of_length_le (l:=ps) Om,List.take_of_length_le (l:=fs.toList.map fun f=>P.cellsOf f.type) (by simp),<-ksum,<-hcs,List.take_length]at h1
  exact h1
theorem opens_arg {t:TypeId}{v:Value}{d:DataW H}{ps:List MemPlace}{base:Nat}{α:Type}{e:α->List D}{ok:α->Prop}(ho:∀m,Opens enc P w m t e ok)(hv:Value.okWide P w .any base t v)
  (h:DataW.Trod enc P w 0 (fun _=>true) true t v d ps):∃a,ok a/\((∀fs,P.underlying t=some (.struct fs)->Rd w (· < w.heap.size) (.agg (e a)) v)/\∀x,e a=[x]->v.cells.toList=[v]->Rd w (· < w.heap.size) x v):=by
 obtain⟨m,hm⟩:=h
 obtain⟨a,h1,h2⟩:=ho m _ _ hm
 refine⟨a,h1,fun fs hu=>?_,fun x hx hc=>?_⟩
 .unfold Value.okWide at hv
  rw[hu]at hv
  obtain⟨cs,rfl,-,-⟩:=hv
  have:(Value.agg cs).cells.toList=cs.toList:=rfl
  rw[this]at h2
  have:=Rd.agg (w:=w) (F:=(· < w.heap.size)) (cs:=e a) (us:=cs.toList) h2.1.symm (fun j x u hx hu=>(h2.2 j x u hx hu).1)
  simpa using this
 .rw[hx,hc]at h2
  exact(h2.2 0 x v rfl rfl).1
end
end Go.Ab
namespace Go.Ab
set_option linter.unusedSimpArgs false
set_option linter.unusedVariables false
section
variable {F:Fence}{n:Nat}{P:Program}{Q:Exit->Act->List Frame->World->Prop}{a:Act}{cs:List Frame}{w:World}
theorem wpSIn_recover {id:Nat}{o1 o2:Oper}(hg:o1.guard=none)(hrun:(execOp a.eval o1).run P w=.ok .recover w)(hro:F.round=none)(v:Value)(cs':List Frame)
  (hrec:(recoverD cs).getD (.nilIface,cs)=(v,cs')) (habout:∀f,o1.about P w a.eval=some f->F.fn f)
  (h:wpOpsIn F n P #[o1,o2] (fun e a' w'=>Q e a' cs' w') [1] (a.put o1.dst v) w):(Code.region id #[o1,o2] false).wpSIn F n P Q a cs w:=by
 intro b k hb hr hF hroom
 have ho:(#[o1,o2]:Array Oper)[0]?=some o1:=rfl
 have i0:(lone (b.atR a (.code (.region id #[o1,o2] false)::k)) cs w).fenced P F:=fenced_calm hF hroom rfl
 have h0:(lone (b.atR a (.inRegion #[o1,o2] (0::[1])::k)) cs w).fenced P F:=fenced_oper hF hroom ho habout
 have hw:Region.wanted o1 (yielded #[o1,o2] a.tmps)=true:=by simp[Region.wanted,hg]
 have hgs:=stepGR_op (P:=P) (b:=b) (a:=a) (k:=k) (cs:=cs) (w:=w) (rest:=[1]) ho hw
 rw[hr,Oper.semAt_none]at hgs
 have hfin:∀v,(b.atR a (.inRegion #[o1,o2] (0::[1])::k)).finish v=b.atR (a.put o1.dst v) (.inRegion #[o1,o2] [1]::k):=by
  intro v;rw[Frame.finish_atR,ho];rfl
 have hk:(b.atR a (.inRegion #[o1,o2] (0::[1])::k)).kind=.deferred:=hb
 have htr:=tryRecover_deferred hk cs
 have hlen:cs'.length=cs.length:=by
  cases hr0:recoverD cs with
  |none=>rw[hr0]at hrec;simp only[Option.getD_none,Prod.mk.injEq]at hrec;rw[hrec.2]
  |some p =>
   obtain⟨v1,c1⟩:=p
   rw[hr0]at hrec
   simp only[Option.getD_some,Prod.mk.injEq]at hrec
   rw[<-hrec.2]
   exact recoverD_length hr0
 obtain⟨e,a',w',hq,harr⟩:=wp_opsIn [1] _ _ h b k cs' (by rw[hr,hro]) hF (by rw[hlen];exact hroom)
 refine⟨e,a',cs',w',hlen,hq,.of_steps (.one i0 stepR_region) (.of_steps (.one h0 (step_lone_go ?_)) harr)⟩
 rw[show List.range (#[o1,o2]:Array Oper).size=[0,1] from rfl,hgs,<-hfin]
 simp only[Frame.atR,hr]at htr⊢
 cases hr0:recoverD cs with
 |none =>
  rw[hr0]at hrec htr
  simp only[Option.getD_none,Prod.mk.injEq]at hrec
  rw[<-hrec.1,<-hrec.2]
  simp[stepG.apply,hrun,htr]
 |some p =>
  obtain⟨v1,c1⟩:=p
  rw[hr0]at hrec htr
  simp only[Option.getD_some,Prod.mk.injEq]at hrec
  rw[<-hrec.1,<-hrec.2]
  simp[stepG.apply,hrun,htr]
end
section
variable {P:Program}{T:Tab}
end
end Go.Ab
