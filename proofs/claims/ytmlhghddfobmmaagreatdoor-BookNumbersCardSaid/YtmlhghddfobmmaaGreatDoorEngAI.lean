import Derived.Test.YtmlhghddfobmmaaGreatDoorEngAE
import Derived.Laws.CopyRow
namespace Go.Ab
set_option linter.unusedSimpArgs false
set_option linter.unusedVariables false
section
variable {P:Program}{T:Tab}{m:Mem}{σ:Pls}
variable {ro:Option Nat}
def Slots (ops:Array Oper)(n:Nat)(env:Env)(σ:Pls)(As:Nat->AV)(listed:Array Bool)(F:Nat->Prop)(w:World)(tmps:Array Value):Prop :=
 ∀t,(∀(j:Nat) o,j<n->ops[j]?=some o->o.dst=some t->listed.getD j true=true->Vc w F σ (As j) (tmps.getD t undef)) /\
  ((∀(j:Nat) o,ops[j]?=some o->o.dst=some t->listed.getD j true=false)->Vc w F σ (get env t) (tmps.getD t undef))
theorem drawn_tail {id N:Nat} {ops:Array Oper} {F:Nat→Prop} {w:World} {a:Act} {env:Env} {K:Env→Prop} {Q:Exit→Act→World→Prop}
  (h1:P.follows .mixedOrders=true) (h2:okR ops.toList=true) (hT:TabOk P T) (hm:MemOk m σ F w) (hd:dstsIn N ops.toList=true) {pre suf:List Oper} (hsp:ops.toList=pre++suf) (h:vcR P T ops.toList m pre env K) (hN:a.tmps.size=N) (he:EnvOk env w F σ a.tmps)
  (R:Array Bool->Act->World->(Nat->Prop)->Prop)
  (hR0:R (Array.replicate ops.size false) a {w with drawn:=w.drawn+1} F)
  (hRq:∀listed a' w' F' F2 w2 v (i:Nat) o,R listed a' w' F'->Grew F' w' F2 w2->i<pre.length->ops[i]?=some o->listed.size=ops.size->a'.tmps.size=N->R (listed.setIfInBounds i true) (a'.put o.dst v) w2 F2)
  (hRe:∀ As listed a' w' F' (i:Nat) o,(∀ (j:Nat) o d,ops[j]?=some o→o.dst=some d→j < pre.length→get (envsOf env ops.toList As pre.length) d=As j)→K (envsOf env ops.toList As pre.length)→pre.length≤i→ops[i]?=some o→listed.getD i true=false→(∀ e∈o.after,Region.binds .any e=true→listed.getD e.on true=true)→listed.size=ops.size→a'.tmps.size=N→a'.defers=a.defers→MemOk m σ F' w'→Slots ops pre.length env σ As listed F' w' a'.tmps→R listed a' w' F' →
   ∀next:Act->World->Prop,(∀v w2 F2,MemOk m σ F2 w2->(∀A u,Vc w' F' σ A u->Vc w2 F2 σ A u)->R (listed.setIfInBounds i true) (a'.put o.dst v) w2 F2->next (a'.put o.dst v) w2)->wpOpIn (Fen ro) 0 P ops Q i next a' w')
  (hQ:∀ As a' w' F',K (envsOf env ops.toList As pre.length)→(∀ (j:Nat) o d,ops[j]?=some o→o.dst=some d→j < pre.length→get (envsOf env ops.toList As pre.length) d=As j)→a'.tmps.size=N→a'.defers=a.defers→MemOk m σ F' w' →
   (∀t,(∀(j:Nat) o,pre.length<=j->ops[j]?=some o->o.dst≠some t)->Vc w' F' σ (get (envsOf env ops.toList As pre.length) t) (a'.tmps.getD t undef))->(∀listed,(∀i,i<ops.size->listed.getD i true=true)->R listed a' w' F'->Q .normal a' w')):(Code.region id ops true).wpIn (Fen ro) 0 P Q a w:=by
 obtain⟨As,hK,hD0⟩:=vcR_ext (σ:=σ) hT pre env h
 have hpl:∀(k:Nat) o,k<pre.length->ops[k]?=some o->pre[k]?=some o:=fun k o hk ho=>by
  rw[<-Array.getElem?_toList,hsp,List.getElem?_append_left hk]at ho
  exact ho
 have hEp:∀k,k<=pre.length->envsOf env ops.toList As k=envsOf env pre As k:=fun k hk=>by
  rw[hsp]
  exact envsOf_pre env pre suf As k hk
 have hlen:pre.length<=ops.toList.length:=by rw[hsp];simp
 have hD:∀(k:Nat) o,k<pre.length->ops[k]?=some o->DoesG P m σ ops.toList o (envsOf env ops.toList As k) (As k):=fun k o hk ho=>by
  rw[hEp k Om]
  exact hD0 k o (hpl k o hk ho)
 have hO:∀(i:Nat) o,ops[i]?=some o->OrdAt ops.toList i o:=fun i o ho=>by
  have:=okFrom_at h2 i o (by rw[Array.getElem?_toList];exact ho)
  rwa [Nat.zero_add]at this
 have hdst:∀(i:Nat) o d,ops[i]?=some o->o.dst=some d->d<N:=by
  have:∀(l:List Oper),dstsIn N l=true->∀(i:Nat) o d,l[i]?=some o->o.dst=some d->d<N:=by
   intro l
   induction l with
   |nil=>intro _ i o d ho;simp at ho
   | cons x r ih =>
    intro hl i o d ho hdo
    simp only[dstsIn,Bool.and_eq_true]at hl
    cases i with
    |zero =>
     simp at ho
     subst ho
     have:=hl.1
     rw[hdo]at this
     exact Nat.le_of_ble_eq_true this
    |succ i=>exact ih hl.2 i o d (by simpa using ho) hdo
  exact fun i o d ho hdo=>this ops.toList hd i o d (by rw[Array.getElem?_toList];exact ho) hdo
 rw[<-hEp pre.length (Nat.le_refl _)]at hK
 have hsize:ops.toList.length=ops.size:=Array.length_toList
 have hEd:∀(i:Nat) o d,ops[i]?=some o->o.dst=some d->∀k,i<k->k<=ops.toList.length->get (envsOf env ops.toList As k) d=As i:=by
  intro i o d ho hdo k hk hkn
  have hol:ops.toList[i]?=some o:=by rw[Array.getElem?_toList];exact ho
  rw[envs_stable (i:=i+1) k Om (fun j o' h3 h4 ho' hd'=>by
    have:=(hO i o ho).once d hdo j o' ho' hd'
    omega)]
  rw[envsOf,hol]
  exact get_step_self hdo
 have hE0:∀t k,k<=ops.toList.length->(∀(j:Nat) o,ops[j]?=some o->o.dst=some t->k<=j)->get (envsOf env ops.toList As k) t=get env t:=fun t k hk hno =>
  envs_stable (i:=0) k (Nat.zero_le _) (fun j o _ hj ho hdo=>by
   rw[Array.getElem?_toList]at ho
   have:=hno j o ho hdo
   omega)
 have hEd':∀(j:Nat) o d,ops[j]?=some o->o.dst=some d->j<pre.length->get (envsOf env ops.toList As pre.length) d=As j:=fun j o d ho hdo hj=>hEd j o d ho hdo _ hj hlen
 let Inv:Array Bool->Act->World->Prop:=fun listed a' w'=>a'.tmps.size=N/\a'.defers=a.defers/\(∀(j:Nat) o,ops[j]?=some o->listed.getD j true=true->∀e∈o.after,Region.binds .any e=true->listed.getD e.on true=true) /\
  ∃F',MemOk m σ F' w'/\Slots ops pre.length env σ As listed F' w' a'.tmps/\R listed a' w' F'
 have done:∀(fuel:Nat) (listed:Array Bool) (a':Act) (w':World),listed.size=ops.size->(∀i,i<ops.size->listed.getD i true=true)->Q .normal a' w'->wpAnyIn (Fen ro) 0 P .any ops Q fuel listed a' w':=by
  intro fuel listed a' w' hls hall hq
  have hnil:Region.ready .any ops listed=[]:=List.eq_nil_iff_forall_not_mem.2 fun i hi=>by
   obtain⟨g1,o,ho,_⟩:=mem_ready.1 hi
   rw[hall i (Array.getElem?_eq_some_iff.1 ho).1]at g1
   cases g1
  cases fuel with
  |zero=>exact⟨hnil,hq⟩
  |succ fuel=>exact⟨fun _=>hq,fun i hi=>by rw[hnil]at hi;cases hi⟩
 have fin:∀(listed:Array Bool) (a':Act) (w':World),(∀i,i<ops.size->listed.getD i true=true)->Inv listed a' w'->Q .normal a' w':=by
  rintro listed a' w' hall ⟨i1,i2,ic,F',i3,i4,i5⟩
  refine hQ As a' w' F' hK hEd' i1 i2 i3 (fun t ht=>?_) listed hall i5
  by_cases hex:∃(j:Nat) (o:Oper),j<pre.length/\ops[j]?=some o/\o.dst=some t
  .obtain⟨j,o,hj,ho,hdo⟩:=hex
   rw[hEd j o t ho hdo _ hj hlen]
   exact(i4 t).1 j o hj ho hdo (hall j Om)
  .rw[hE0 t _ hlen (fun j o ho hdo=>by
    rcases Nat.lt_or_ge j pre.length with h|h
    .exact absurd ⟨j,o,h,ho,hdo⟩ hex
    .exact h)]
   exact(i4 t).2 fun j o ho hdo=>by
    rcases Nat.lt_or_ge j pre.length with h|h
    .exact absurd ⟨j,o,h,ho,hdo⟩ hex
    .exact absurd hdo (ht j o h ho)
 have main:∀ (fuel:Nat) (listed:Array Bool) (a':Act) (w':World),listed.size=ops.size→unl listed.toList≤fuel→Inv listed a' w'→wpAnyIn (Fen ro) 0 P .any ops Q fuel listed a' w':=by
  intro fuel
  induction fuel with
  | zero =>
   intro listed a' w' hls hun hI
   have hall:∀i,i<ops.size->listed.getD i true=true:=fun i hi=>by
    rw[getD_list]
    cases hb:listed.toList[i]? with
    |none=>rfl
    |some b=>exact unl_zero Om i b hb
   exact done 0 listed a' w' hls hall (fin listed a' w' hall hI)
  | succ fuel ih =>
   intro listed a' w' hls hun hI
   refine⟨fun hnil=>?_,fun i hi=>?_⟩
   .have hall:∀i,i<ops.size->listed.getD i true=true:=by
     intro i
     induction i using Nat.strongRecOn with
     | _ i ihi =>
      intro hi
      cases hb:listed.getD i true with
      |true=>rfl
      | false =>
       exfalso
       have ho:ops[i]?=some ops[i]:=Array.getElem?_eq_getElem hi
       have:i∈Region.ready .any ops listed:=mem_ready.2 ⟨hb,_,ho,fun e he hbe=>by
        have hlt:=(hO i _ ho).back e he hbe
        have:=ihi e.on hlt Om
        rw[getD_list]at this⊢
        have hin:e.on<listed.toList.length:=by rw[Array.length_toList,hls];omega
        rw[List.getElem?_eq_getElem hin]at this⊢
        exact this⟩
       rw[hnil]at this
       cases this
    exact fin listed a' w' hall hI
   .obtain⟨g1,o,ho,g2⟩:=mem_ready.1 hi
    have hin:i<ops.size:=(Array.getElem?_eq_some_iff.1 ho).1
    have hoi:=hO i o ho
    obtain⟨i1,i2,ic,F',hmw,i4,i5⟩:=hI
    have toT:∀j,j<ops.size->listed.getD j false=true->listed.getD j true=true:=fun j hj h=>by
     rw[getD_list]at h⊢
     have hin2:j<listed.toList.length:=by rw[Array.length_toList,hls];omega
     rw[List.getElem?_eq_getElem hin2]at h⊢
     exact h
    have hlist:listed.toList[i]?=some false:=by
     rw[getD_list]at g1
     cases hb:listed.toList[i]? with
     |none=>rw[hb]at g1;cases g1
     |some b=>rw[hb]at g1;simp at g1;rw[g1]
    have hset:∀j,j≠i->(listed.setIfInBounds i true).getD j true=listed.getD j true:=fun j hne=>by
     rw[getD_list,Array.toList_setIfInBounds,List.getElem?_set_ne (fun e=>hne e.symm),<-getD_list]
    have hsetm:∀j,listed.getD j true=true->(listed.setIfInBounds i true).getD j true=true:=fun j h=>by
     by_cases e:j=i
     .subst e;rw[h]at g1;cases g1
     .rw[hset j e];exact h
    have hseti:(listed.setIfInBounds i true).getD i true=true:=by
     rw[getD_list,Array.toList_setIfInBounds,List.getElem?_set_self (by rw[Array.length_toList,hls];exact hin)]
     rfl
    have hclosed:∀(j:Nat) o,ops[j]?=some o->(listed.setIfInBounds i true).getD j true=true->∀e∈o.after,Region.binds .any e=true->(listed.setIfInBounds i true).getD e.on true=true:=fun j o' ho' hj e he hb=>by
     by_cases hji:j=i
     .subst hji
      rw[ho]at ho'
      cases ho'
      have hlt:=hoi.back e he hb
      exact hsetm _ (toT _ Om (g2 e he hb))
     .rw[hset j hji]at hj
      exact hsetm _ (ic j o' ho' hj e he hb)
    have hun':unl (listed.setIfInBounds i true).toList<=fuel:=by
     have:=unl_set hlist
     rw[Array.toList_setIfInBounds]
     omega
    have putv:∀(v:Value) t,o.dst≠some t->(a'.put o.dst v).tmps.getD t undef=a'.tmps.getD t undef:=fun v t hdt=>by
     cases hdo:o.dst with
     |none=>rfl
     |some d =>
      simp only[Act.put,Array.getD_eq_getD_getElem?]
      rw[Array.getElem?_setIfInBounds_ne (fun e=>hdt (by rw[hdo,e]))]
    have puts:∀(v:Value) t,o.dst=some t->(a'.put o.dst v).tmps.getD t undef=v:=fun v t hdt=>by
     have hdN:=hdst i o t ho hdt
     rw[hdt]
     simp only[Act.put,Array.getD_eq_getD_getElem?]
     rw[Array.getElem?_setIfInBounds_self_of_lt (by rw[i1];exact hdN)]
     rfl
    have slots2:∀(v:Value) (w2:World) (F2:Nat->Prop),(∀A u,Vc w' F' σ A u->Vc w2 F2 σ A u)->(i<pre.length->Vc w2 F2 σ (As i) v)->Slots ops pre.length env σ As (listed.setIfInBounds i true) F2 w2 (a'.put o.dst v).tmps:=fun v w2 F2 mono hv t=>by
     by_cases hdt:o.dst=some t
     .rw[puts v t hdt]
      refine⟨fun j o' hjp ho' hd' _=>?_,fun hno=>?_⟩
      .have:=hoi.once t hdt j o' (by rw[Array.getElem?_toList];exact ho') hd'
       subst this
       exact hv hjp
      .have:=hno i o ho hdt
       rw[hseti]at this
       cases this
     .rw[putv v t hdt]
      have hne:∀(j:Nat) o',ops[j]?=some o'->o'.dst=some t->j≠i:=fun j o' ho' hd' e=>by
       subst e
       rw[ho]at ho'
       cases ho'
       exact hdt hd'
      refine⟨fun j o' hjp ho' hd' hj=>?_,fun hno=>?_⟩
      .rw[hset j (hne j o' ho' hd')]at hj
       exact mono _ _ ((i4 t).1 j o' hjp ho' hd' hj)
      .exact mono _ _ ((i4 t).2 fun j o' ho' hd'=>by
        have:=hno j o' ho' hd'
        rwa [hset j (hne j o' ho' hd')]at this)
    rcases Nat.lt_or_ge i pre.length with hiP|hiP
    rotate_left
    .refine hRe As listed a' w' F' i o hEd' hK hiP ho g1 (fun e he hb=>toT _ (by have:=hoi.back e he hb;omega) (g2 e he hb)) hls i1 i2 hmw i4 i5 _ fun v w2 F2 k1 k2 k3=>?_
     exact ih _ _ _ (by simp[hls]) hun' ⟨by rw[put_size];exact i1,by rw[put_defers];exact i2,hclosed,F2,k1,slots2 v w2 F2 k2 (fun h=>by omega),k3⟩
    have hslots:∀ t∈slots ops.toList o,Vc w' F' σ (get (envsOf env ops.toList As i) t) (a'.tmps.getD t undef):=fun t ht=>by
     by_cases hex:∃(j:Nat) (o':Oper),ops[j]?=some o'/\o'.dst=some t
     .obtain⟨j,o',ho',hdo'⟩:=hex
      have hj:j<ops.size:=(Array.getElem?_eq_some_iff.1 ho').1
      have honce:∀(j2:Nat) o2,ops[j2]?=some o2->o2.dst=some t->j2=j:=fun j2 o2 h3 h4=>(hO j o' ho').once t hdo' j2 o2 (by rw[Array.getElem?_toList];exact h3) h4
      rcases hoi.defs t ht j o' (by rw[Array.getElem?_toList];exact ho') hdo' with ⟨hji,e,hee,heon,heb⟩|⟨hij,hcase⟩
      .rw[hEd j o' t ho' hdo' i hji Om]
       refine(i4 t).1 j o' Om ho' hdo' ?_
       have:=g2 e hee heb
       rw[heon]at this
       exact toT j hj this
      .rw[hE0 t i Om (fun j2 o2 h3 h4=>by rw[honce j2 o2 h3 h4];exact hij)]
       refine(i4 t).2 fun j2 o2 h3 h4=>?_
       have hj2:=honce j2 o2 h3 h4
       subst hj2
       rcases hcase with rfl|⟨e,hee,heon,heb⟩
       .exact g1
       .cases hb:listed.getD j2 true with
        |false=>rfl
        |true =>
         have:=ic j2 o' ho' hb e hee heb
         rw[heon,g1]at this
         cases this
     .rw[hE0 t i Om (fun j2 o2 h3 h4=>absurd ⟨j2,o2,h3,h4⟩ hex)]
      exact(i4 t).2 fun j2 o2 h3 h4=>absurd ⟨j2,o2,h3,h4⟩ hex
    have hdoes:=hD i o hiP ho F' w' a' hmw hslots
    have hy:ops.toList.toArray=ops:=Array.toArray_toList
    rw[hy]at hdoes
    have next:∀(v:Value) (w2:World) (F2:Nat->Prop),Grew F' w' F2 w2->Vc w2 F2 σ (As i) v->wpAnyIn (Fen ro) 0 P .any ops Q fuel (listed.setIfInBounds i true) (a'.put o.dst v) w2:=by
     intro v w2 F2 hg hv
     exact ih _ _ _ (by simp[hls]) hun' ⟨by rw[put_size];exact i1,by rw[put_defers];exact i2,hclosed,F2,hg.mem hmw,slots2 v w2 F2 (fun A u h=>h.mono hg.fro (fun b hb=>hg.keep b (hmw.fl b hb)) (SLe.refl σ)) (fun _=>hv),hRq listed a' w' F' F2 w2 v i o i5 hg hiP ho hls i1⟩
    unfold wpOpIn
    simp only[ho]
    cases hw:Region.wanted o (yielded ops a'.tmps) with
    |false =>
     simp only[Bool.false_eq_true,if_false]
     exact⟨fun _ _=>trivial,next _ _ _ (Grew.refl hmw.fl) (hdoes.2 hw _ _)⟩
    | true =>
     simp only[if_true]
     have h3:=hdoes.1 hw
     have hdef:∀c,o.op≠.defer c:=fun c hc=>by
      simp only[execOp,hc,Sem.run_bind]at h3
      cases hr:(resolve a'.eval c o.type).run P w'<;>simp[hr,Result.andThen,YieldR]at h3
     refine wpIn_at hdef ?_
     generalize (execOp a'.eval o).run P w'=r at h3
     cases r with
     | ok x w2 =>
      cases x<;>simp only[YieldR]at h3<;>simp only[Oper.uponIn]
      case value u =>
       obtain⟨F2,k1,k2⟩:=h3
       exact next u w2 F2 k1 k2
      case enter f args =>
       obtain⟨e1,hc⟩:=h3
       rw[e1]
       exact⟨Fen_depth,callsFen.2 (hc.mono fun e w3 ⟨u,F3,he,k1,k2⟩=>by subst he;exact next u w3 F3 k1 k2)⟩
     |halt x w2=>simp only[YieldR]at h3
 have hrep:∀j,j<ops.size->(Array.replicate ops.size false).getD j true=false:=fun j hj=>by
  rw[getD_list,Array.toList_replicate,List.getElem?_replicate,if_pos hj]
  rfl
 refine wpIn_region_any h1 (main ops.size _ a _ (by simp) ?_ ⟨hN,rfl,fun j o ho hj=>?_,F,(Grew.drew hm.fl).mem hm,fun t=>⟨fun j o _ ho _ hj=>?_,fun _=>?_⟩,hR0⟩)
 .have:∀k,unl (List.replicate k false)=k:=fun k=>by
   induction k with
   |zero=>rfl
   |succ k ih=>rw[List.replicate_succ,unl,ih];simp;omega
  rw[Array.toList_replicate,this]
  exact Nat.le_refl _
 .rw[hrep j (Array.getElem?_eq_some_iff.1 ho).1]at hj
  cases hj
 .rw[hrep j (Array.getElem?_eq_some_iff.1 ho).1]at hj
  cases hj
 .exact Vc.mono (w:=w) (w':={w with drawn:=w.drawn+1}) (fun _ h=>h) (fun _ _=>rfl) (SLe.refl σ) (he t)
end
section
variable {P:Program}{T:Tab}{m:Mem}{σ:Pls}
theorem Awp.seq {N:Nat}{x y:Code}{env:Env}{Q:Post}(h:Awp P N x env m fun e env m=>match e with
  | .normal=>Awp P N y env m Q
  | .exit i=>Q (.exit i) env m
  | .goto i=>Q (.goto i) env m
  | .ret=>Q .ret env m
  | .panic ch=>Q (.panic ch) env m
  | .outgrown=>Q .outgrown env m):Awp P N (.seq x y) env m Q :=
 ⟨fun ro lo a w σ F hN hD he hm=>by
  refine wpIn_seq (wpIn_mono (h.run ro lo a w σ F hN hD he hm) ?_)
  rintro e a1 w1 ⟨env1,m1,σ1,F1,k1,k2,k3,k4,k5,k6,k7⟩
  cases e with
  |normal=>exact wpIn_mono ((show Awp P N y env1 m1 Q from k1).run ro lo a1 w1 σ1 F1 k2 k3 k4 k5) fun e a2 w2 h2=>lift_trans k6 k7 h2
  |_=>exact⟨env1,m1,σ1,F1,k1,k2,k3,k4,k5,k6,k7⟩⟩
def HoldB (n0:Nat)(e:TypeId)(sz:Nat)(cs:List D)(stored:Bool)(F:Nat->Prop)(w:World)(v:Value)(b:Nat):Prop :=
 v=.pointer (some ⟨b,0,none⟩)/\n0<=b/\b<w.heap.size/\¬ F b/\∃us:List Value,w.heap[b]?=some (.cells us.toArray e (0,0))/\us.length=sz/\(stored=true->∀(j:Nat) x u,cs[j]?=some x->us[j]?=some u->Rd w F x u/\u.oneCell'=true)
theorem HoldB.mono {n0:Nat}{e:TypeId}{sz:Nat}{cs:List D}{stored:Bool}{F F':Nat->Prop}{w w':World}{v:Value}{b:Nat}(h:HoldB n0 e sz cs stored F w v b)(hsz:w.heap.size<=w'.heap.size)(hF:∀b,F b->F' b)(hF':∀b,F' b->F b\/w.heap.size<=b)(hk:∀b,F b->w'.heap[b]?=w.heap[b]?)(hb:w'.heap[b]?=w.heap[b]?):HoldB n0 e sz cs stored F' w' v b:=by
 obtain⟨h1,h2,h3,h4,us,h5,h6,h7⟩:=h
 exact⟨h1,h2,Om,fun h=>by
  rcases hF' b h with h|h
  .exact h4 h
  .omega,us,by rw[hb];exact h5,h6,fun hs j x u hx hu=>⟨(h7 hs j x u hx hu).1.mono hF hk,(h7 hs j x u hx hu).2⟩⟩
def edgeTo (o:Oper)(j:Nat):Prop:=∃e∈o.after,e.on=j/\Region.binds .any e=true
theorem edgeTo_of {o:Oper}{j:Nat}(h:edgeOn o.after.toList j=true):edgeTo o j:=by
 unfold edgeOn at h
 obtain⟨e,he,h⟩:=List.any_eq_true.1 h
 simp only[Bool.and_eq_true]at h
 exact⟨e,Array.mem_toList_iff.1 he,Nat.eq_of_beq_eq_true h.1,h.2⟩
structure BoxS where
 t:Tmp
 e:TypeId
 tx:Tmp
 jx:Nat
 cs:List D
structure BoxOk (T:Tab)(ops:Array Oper)(n c:Nat)(s:BoxS):Prop where
 al:∃o,ops[n+c]?=some o/\o.dst=some s.t/\o.guard=none/\o.op=.alloc s.e
 st:∃o,ops[n+2+c]?=some o/\o.dst=none/\o.guard=none/\o.op=.store s.e (.tmp s.t) (.tmp s.tx)/\edgeTo o (n+c)/\edgeTo o s.jx
 vx:s.jx<n/\∃o,ops[s.jx]?=some o/\o.dst=some s.tx
 ty:∃ti,T.at s.e=some ti/\ti.size=s.cs.length
 one:∀x∈s.cs,x.one=true
 ne:∀(j:Nat) o,ops[j]?=some o->o.dst=some s.t->j=n+c
def BoxR (n0:Nat)(n c:Nat)(s:BoxS)(listed:Array Bool)(F:Nat->Prop)(w:World)(tmps:Array Value)(b:Nat):Prop :=
 (listed.getD (n+2+c) true=true->listed.getD (n+c) true=true)/\(listed.getD (n+c) true=true->HoldB n0 s.e s.cs.length s.cs (listed.getD (n+2+c) true) F w (tmps.getD s.t undef) b)
theorem listed_set {listed:Array Bool}{i j:Nat}(h:j≠i):(listed.setIfInBounds i true).getD j true=listed.getD j true:=by
 rw[getD_list,Array.toList_setIfInBounds,List.getElem?_set_ne (fun e=>h e.symm),<-getD_list]
theorem listed_self {listed:Array Bool}{i:Nat}:(listed.setIfInBounds i true).getD i true=true:=by
 rw[getD_list,Array.toList_setIfInBounds]
 by_cases h:i<listed.toList.length
 .rw[List.getElem?_set_self h];rfl
 .rw[List.getElem?_eq_none (by simpa using h)];rfl
theorem put_ne {a:Act}{d:Option Tmp}{v:Value}{t:Tmp}(h:d≠some t):(a.put d v).tmps.getD t undef=a.tmps.getD t undef:=by
 cases d with
 |none=>rfl
 |some d =>
  simp only[Act.put,Array.getD_eq_getD_getElem?]
  rw[Array.getElem?_setIfInBounds_ne (fun e=>h (by rw[e]))]
theorem put_eq {a:Act}{v:Value}{t:Tmp}(h:t<a.tmps.size):(a.put (some t) v).tmps.getD t undef=v:=by
 simp only[Act.put,Array.getD_eq_getD_getElem?]
 rw[Array.getElem?_setIfInBounds_self_of_lt h]
 rfl
theorem run_alloc_box (hT:TabOk P T){e:TypeId}{ti:TI}(hti:T.at e=some ti)(w:World):∃us:List Value,us.length=ti.size/\∀(a:Act) (o:Oper),o.op=.alloc e->(execOp a.eval o).run P w=.ok (.value (.pointer (some ⟨w.heap.size,0,none⟩))) (w.alloc (.cells us.toArray e)):=by
 obtain⟨z,hz,_,hzn⟩:=run_zeroValue (hT _ _ hti) w
 exact⟨z.cells.toList,by simpa using hzn,fun a o hop=>by simp[execOp,hop,Instr.alloc,newVar,newRow,hz]⟩
theorem run_store_box (hT:TabOk P T){e:TypeId}{ti:TI}(hti:T.at e=some ti){cs:List D}(hsz:ti.size=cs.length)(hone:∀x∈cs,x.one=true){F:Nat->Prop}{w:World}{V:Value}(hv:Rd w F (.agg cs) V){b:Nat}{us:List Value}(hb:w.heap[b]?=some (.cells us.toArray e (0,0)))(hl:us.length=cs.length) :
  ∃vs:List Value,vs.length=cs.length/\(∀(j:Nat) x u,cs[j]?=some x->vs[j]?=some u->Rd w F x u/\u.oneCell'=true)/\(Instr.storeAt e (.pointer (some ⟨b,0,none⟩)) V).run P w=.ok () (w.setRow b vs.toArray):=by
 cases hv with
 | @agg _ vs hvl hvr =>
  have h1:∀(j:Nat) x u,cs[j]?=some x->vs[j]?=some u->Rd w F x u/\u.oneCell'=true:=fun j x u hx hu=>⟨hvr j x u hx hu,(hvr j x u hx hu).one_ok (hone x (List.mem_of_getElem? hx))⟩
  have hone':∀v∈vs,v.oneCell'=true:=fun v hvm=>by
   obtain⟨j,hj,rfl⟩:=List.getElem_of_mem hvm
   exact(h1 j _ _ (List.getElem?_eq_getElem Om) (List.getElem?_eq_getElem hj)).2
  refine⟨vs,hvl,h1,?_⟩
  have:=run_storeCells_at P b 0 e vs 0 us.toArray w hb (by simp;omega) hone'
  simp only[Nat.add_zero,Nat.zero_add]at this
  have e1:(us.toArray.toList.take 0++vs++us.toArray.toList.drop vs.length)=vs:=by
   rw[List.take_zero,List.nil_append,List.drop_of_length_le (by simp;omega),List.append_nil]
  rw[e1]at this
  have hcells:(Value.agg vs.toArray).cells=vs.toArray:=rfl
  have hts:ti.size=vs.length:=by omega
  simp[Instr.storeAt,Instr.sureAddr,storeVar,hcells,run_sizeOf (hT _ _ hti),hts,this]
def Box2 (n0 n c c':Nat)(s s':BoxS)(listed:Array Bool)(F:Nat->Prop)(w:World)(tmps:Array Value):Prop :=
 ∃b b',b≠b'/\BoxR n0 n c s listed F w tmps b/\BoxR n0 n c' s' listed F w tmps b'
theorem Box2.swap {n0 n c c':Nat}{s s':BoxS}{listed:Array Bool}{F:Nat->Prop}{w:World}{tmps:Array Value}(h:Box2 n0 n c c' s s' listed F w tmps):Box2 n0 n c' c s' s listed F w tmps:=by
 obtain⟨b,b',h1,h2,h3⟩:=h
 exact⟨b',b,fun e=>h1 e.symm,h3,h2⟩
variable {ro:Option Nat}
theorem two_step (hT:TabOk P T){N:Nat}{ops:Array Oper}{n c c':Nat}{s s':BoxS}(hcc:c≠c')(hc:c<=1)(hc':c'<=1)(hb:BoxOk T ops n c s)(hb':BoxOk T ops n c' s')(hne:s.t≠s'.t)(htN:s.t<N){F0:Nat->Prop}{w0:World}{As:Nat->AV}{env:Env}
  {listed:Array Bool} {a':Act} {w':World} {F':Nat->Prop} {i:Nat} {o:Oper} (hi:i=n+c\/i=n+2+c) (ho:ops[i]?=some o) (hl:listed.getD i true=false) (hen:∀e∈o.after,Region.binds .any e=true->listed.getD e.on true=true) (hN:a'.tmps.size=N) (hm:MemOk m σ F' w')
  (hs:Slots ops n env σ As listed F' w' a'.tmps) (hA:As s.jx=.d (.agg s.cs)) (hg:Grew F0 w0 F' w') (hown:∀b,Owned σ b->b<w0.heap.size) (hR:Box2 w0.heap.size n c c' s s' listed F' w' a'.tmps) {next:Act->World->Prop} {Q:Exit->Act->World->Prop}
  (hnext:∀v w2,(∀b,F' b->w2.heap[b]?=w'.heap[b]?)->MemOk m σ F' w2->Grew F0 w0 F' w2->Box2 w0.heap.size n c c' s s' (listed.setIfInBounds i true) F' w2 (a'.put o.dst v).tmps->next (a'.put o.dst v) w2):wpOpIn (Fen ro) 0 P ops Q i next a' w':=by
 obtain⟨ti,hti,hsz⟩:=hb.ty
 obtain⟨b,b',hbb,hR1,hR2⟩:=hR
 rcases hi with rfl|rfl
 .obtain⟨o',ho',hdst,hgd,hop⟩:=hb.al
  rw[ho]at ho'
  cases ho'
  have hw:Region.wanted o (yielded ops a'.tmps)=true:=by simp[Region.wanted,hgd]
  unfold wpOpIn
  simp only[ho,hw,if_true]
  obtain⟨us,hus,hrun⟩:=run_alloc_box hT hti w'
  refine wpIn_at (fun d h=>by rw[hop]at h;cases h) ?_
  rw[hrun a' o hop]
  simp only[Oper.uponIn]
  have hkeep:∀x,x<w'.heap.size->(w'.alloc (.cells us.toArray s.e)).heap[x]?=w'.heap[x]?:=fun x hx=>heap_alloc_old w' _ hx
  have hsize:(w'.alloc (.cells us.toArray s.e)).heap.size=w'.heap.size+1:=size_alloc w' _
  have hgr:Grew F' w' F' (w'.alloc (.cells us.toArray s.e)):=⟨rfl,rfl,rfl,Nat.le_refl _,Om,fun x hx=>hkeep x hx,fun _ h=>h,fun _ h=>.inl h,fun x hx=>by have:=hm.fl x hx;omega⟩
  refine hnext _ _ (fun x hx=>hkeep x (hm.fl x hx)) (hgr.mem hm) (hg.trans hgr) ⟨w'.heap.size,if listed.getD (n+c') true=true then b' else w'.heap.size+1,?_,⟨fun h=>listed_self,fun _=>?_⟩,⟨fun h=>?_,fun h=>?_⟩⟩
  .split
   .rename_i hl'
    obtain⟨_,_,hlt,_⟩:=hR2.2 hl'
    omega
   .omega
  .have hns:listed.getD (n+2+c) true=false:=by
    cases h:listed.getD (n+2+c) true with
    |false=>rfl
    |true=>rw[hR1.1 h]at hl;cases hl
   rw[listed_set Om,hns,hdst,put_eq (by rw[hN];exact htN)]
   exact⟨rfl,hg.size,Om,fun h=>by have:=hm.fl _ h;omega,us,heap_alloc_new w' _,Om,fun h=>by cases h⟩
  .rw[listed_set Om]at h⊢
   exact hR2.1 h
  .rw[listed_set Om]at h
   rw[if_pos h,listed_set Om,hdst,put_ne (fun e=>hne (by injection e))]
   have hh:=hR2.2 h
   exact hh.mono Om (fun _ h=>h) (fun _ h=>.inl h) (fun x hx=>hkeep x (hm.fl x hx)) (hkeep _ hh.2.2.1)
 .obtain⟨o',ho',hdst,hgd,hop,⟨e1,he1,heq1,hbi1⟩,⟨e2,he2,heq2,hbi2⟩⟩:=hb.st
  rw[ho]at ho'
  cases ho'
  have hw:Region.wanted o (yielded ops a'.tmps)=true:=by simp[Region.wanted,hgd]
  have hlc:listed.getD (n+c) true=true:=by have:=hen e1 he1 hbi1;rwa [heq1]at this
  have hlj:listed.getD s.jx true=true:=by have:=hen e2 he2 hbi2;rwa [heq2]at this
  obtain⟨hjn,oj,hoj,hdj⟩:=hb.vx
  have hval:=(hs s.tx).1 s.jx oj hjn hoj hdj hlj
  rw[hA]at hval
  obtain⟨V,hV⟩:∃V,a'.tmps.getD s.tx undef=V:=⟨_,rfl⟩
  rw[hV]at hval
  have hval:Rd w' F' (.agg s.cs) V:=by cases hval with|d h=>exact h
  obtain⟨hv,hn0,hlt,hnF,us,hheap,hlen,hst⟩:=hR1.2 hlc
  unfold wpOpIn
  simp only[ho,hw,if_true]
  refine wpIn_at (fun d h=>by rw[hop]at h;cases h) ?_
  obtain⟨vs,hvl,hvr,hrun⟩:=run_store_box hT hti hsz hb.one hval hheap hlen
  have hex:(execOp a'.eval o).run P w'=.ok .skip (w'.setRow b vs.toArray):=by
   have e3:a'.eval (.tmp s.t)=.pointer (some ⟨b,0,none⟩):=hv
   have e4:a'.eval (.tmp s.tx)=V:=hV
   simp[execOp,hop,e3,e4,hrun]
  rw[hex]
  simp only[Oper.uponIn]
  have hoth:∀x,x≠b->(w'.setRow b vs.toArray).heap[x]?=w'.heap[x]?:=fun x hx=>setRow_other w' b x _ hx
  have hsize:(w'.setRow b vs.toArray).heap.size=w'.heap.size:=size_setRow _ _ _
  have hFk:∀x,F' x->(w'.setRow b vs.toArray).heap[x]?=w'.heap[x]?:=fun x hx=>hoth x (fun e=>hnF (e▸hx))
  have hgr:Grew F0 w0 F' (w'.setRow b vs.toArray):=⟨hg.os,hg.tape,hg.output,hg.drawn,by rw[hsize];exact hg.size,fun x hx=>(hoth x Om).trans (hg.keep x hx),hg.fro,hg.fro',fun x hx=>by rw[hsize];exact hg.lt x hx⟩
  refine hnext _ _ hFk (hm.world (by rw[hsize];exact Nat.le_refl _) fun x hx=>?_) hgr ⟨b,b',hbb,⟨fun _=>by rw[listed_set Om];exact hlc,fun _=>?_⟩,⟨fun h=>?_,fun h=>?_⟩⟩
  .rcases hx with hx|⟨r,p,t,h1,h2⟩
   .exact hFk x hx
   .exact hoth x (fun e=>by have:=hown x ⟨r,p,t,h1,h2⟩;omega)
  .rw[hdst,put_ne (fun e=>by cases e)]
   exact⟨hv,hn0,by rw[hsize];exact hlt,hnF,vs,setRow_heap w' b us.toArray _ s.e (0,0) hheap,hvl,fun _ j x u hx hu=>⟨(hvr j x u hx hu).1.mono (fun _ h=>h) hFk,(hvr j x u hx hu).2⟩⟩
  .rw[listed_set Om]at h⊢
   exact hR2.1 h
  .rw[listed_set Om]at h
   rw[listed_set Om,hdst,put_ne (fun e=>by cases e)]
   have hh:=hR2.2 h
   exact hh.mono (by rw[hsize];exact Nat.le_refl _) (fun _ h=>h) (fun _ h=>.inl h) hFk (hoth _ (fun e=>hbb e.symm))
theorem Awp.two (hT:TabOk P T){id N:Nat}{ops:Array Oper}{env:Env}{Q:Post}(h1:P.follows .mixedOrders=true)(h2:okR ops.toList=true)(hd:dstsIn N ops.toList=true)(pre suf:List Oper)(hsp:ops.toList=pre++suf)(hsuf:suf.length=4)(s0 s1:BoxS)
  (b0:BoxOk T ops pre.length 0 s0) (b1:BoxOk T ops pre.length 1 s1) (hne:s0.t≠s1.t) (h0N:s0.t<N) (h1N:s1.t<N)
  (h:vcR P T ops.toList m pre env fun E=>(get E s0.tx=.d (.agg s0.cs)/\get E s1.tx=.d (.agg s1.cs))/\Ev (Q .normal ((s0.t,.d (.pt s0.cs 0))::(s1.t,.d (.pt s1.cs 0))::E) m)):Awp P N (.region id ops true) env m Q :=
 ⟨fun ro lo a w σ F hN hD he hm=>by
  have hown:∀b,Owned σ b->b<w.heap.size:=fun b ⟨r,p,t,e1,e2⟩=>(hm.nf r p b t e1 e2).2
  have hsize:ops.size=pre.length+4:=by
   have:ops.toList.length=ops.size:=Array.length_toList
   rw[<-this,hsp,List.length_append,hsuf]
  refine drawn_tail h1 h2 hT hm hd hsp h hN he (fun listed a' w' F'=>Grew F w F' w'/\Box2 w.heap.size pre.length 0 1 s0 s1 listed F' w' a'.tmps) ?_ ?_ ?_ ?_
  .have hrep:∀j,j<ops.size->(Array.replicate ops.size false).getD j true=false:=fun j hj=>by
    rw[getD_list,Array.toList_replicate,List.getElem?_replicate,if_pos hj]
    rfl
   refine⟨Grew.drew hm.fl,0,1,Om,⟨fun h=>?_,fun h=>?_⟩,⟨fun h=>?_,fun h=>?_⟩⟩
   all_goals (rw[hrep _ Om]at h;cases h)
  .rintro listed a' w' F' F2 w2 v i o ⟨hg,b,b',hbb,hR1,hR2⟩ hg2 hi ho hls hN'
   have key:∀(c:Nat) (s:BoxS) (b:Nat),BoxOk T ops pre.length c s->BoxR w.heap.size pre.length c s listed F' w' a'.tmps b->BoxR w.heap.size pre.length c s (listed.setIfInBounds i true) F2 w2 (a'.put o.dst v).tmps b:=by
    intro c s b hb hR
    refine⟨fun h=>?_,fun h=>?_⟩
    .rw[listed_set Om]at h⊢
     exact hR.1 h
    .rw[listed_set Om]at h
     rw[listed_set Om,put_ne (fun e=>by have:=hb.ne i o ho e;omega)]
     have hh:=hR.2 h
     exact hh.mono hg2.size hg2.fro hg2.fro' (fun x hx=>hg2.keep x (hg.lt x hx)) (hg2.keep _ hh.2.2.1)
   exact⟨hg.trans hg2,b,b',hbb,key 0 s0 b b0 hR1,key 1 s1 b' b1 hR2⟩
  .rintro As listed a' w' F' i o hE hK hi ho hl hen hls hN' hD' hmw hs ⟨hg,hR⟩ next hnext
   have hiN:i<ops.size:=(Array.getElem?_eq_some_iff.1 ho).1
   have hA0:As s0.jx=.d (.agg s0.cs):=by
    obtain⟨hj,oj,hoj,hdj⟩:=b0.vx
    rw[<-hE s0.jx oj s0.tx hoj hdj hj]
    exact hK.1.1
   have hA1:As s1.jx=.d (.agg s1.cs):=by
    obtain⟨hj,oj,hoj,hdj⟩:=b1.vx
    rw[<-hE s1.jx oj s1.tx hoj hdj hj]
    exact hK.1.2
   have mono:∀w2:World,(∀b,F' b->w2.heap[b]?=w'.heap[b]?)->∀A u,Vc w' F' σ A u->Vc w2 F' σ A u:=fun w2 hk A u hv=>hv.mono (fun _ h=>h) hk (SLe.refl σ)
   rcases show i=pre.length+0\/i=pre.length+2+0\/i=pre.length+1\/i=pre.length+2+1 by omega with hi|hi|hi|hi
   .exact two_step hT Dc Dc Dc b0 b1 hne h0N (.inl hi) ho hl hen hN' hmw hs hA0 hg hown hR fun v w2 k1 k2 k3 k4=>hnext v w2 F' k2 (mono w2 k1) ⟨k3,k4⟩
   .exact two_step hT Dc Dc Dc b0 b1 hne h0N (.inr hi) ho hl hen hN' hmw hs hA0 hg hown hR fun v w2 k1 k2 k3 k4=>hnext v w2 F' k2 (mono w2 k1) ⟨k3,k4⟩
   .exact two_step hT Dc Dc Dc b1 b0 (fun e=>hne e.symm) h1N (.inl hi) ho hl hen hN' hmw hs hA1 hg hown hR.swap fun v w2 k1 k2 k3 k4=>hnext v w2 F' k2 (mono w2 k1) ⟨k3,k4.swap⟩
   .exact two_step hT Dc Dc Dc b1 b0 (fun e=>hne e.symm) h1N (.inr hi) ho hl hen hN' hmw hs hA1 hg hown hR.swap fun v w2 k1 k2 k3 k4=>hnext v w2 F' k2 (mono w2 k1) ⟨k3,k4.swap⟩
  .rintro As a' w' F' ⟨_,hK⟩ hE hN' hD' hmw hs listed hall ⟨hg,b,b',hbb,hR1,hR2⟩
   obtain⟨hv0,hn0,hlt0,hnF0,us0,hh0,hl0,hr0⟩:=hR1.2 (hall _ Om)
   obtain⟨hv1,hn1,hlt1,hnF1,us1,hh1,hl1,hr1⟩:=hR2.2 (hall _ Om)
   rw[hall _ Om]at hr0 hr1
   let F2:Nat->Prop:=fun x=>F' x\/x=b\/x=b'
   have hg2:Grew F w F2 w':=⟨hg.os,hg.tape,hg.output,hg.drawn,hg.size,hg.keep,fun x hx=>.inl (hg.fro x hx),fun x hx=>by
    rcases hx with hx|rfl|rfl
    .exact hg.fro' x hx
    .exact .inr hn0
    .exact .inr hn1,fun x hx=>by
    rcases hx with hx|rfl|rfl
    .exact hg.lt x hx
    .exact hlt0
    .exact hlt1⟩
   have upF:∀{x u},Rd w' F' x u->Rd w' F2 x u:=fun h=>h.mono (fun _ h=>.inl h) (fun _ _=>rfl)
   have pt:∀(b:Nat) (e:TypeId) (us:List Value) (cs:List D),F2 b->w'.heap[b]?=some (.cells us.toArray e (0,0))->us.length=cs.length->(∀(j:Nat) x u,cs[j]?=some x->us[j]?=some u->Rd w' F' x u/\u.oneCell'=true)->Rd w' F2 (.pt cs 0) (.pointer (some ⟨b,0,none⟩)):=by
    intro b e us cs hF hh hl hr
    have:=Rd.pt (w:=w') (F:=F2) (cs:=cs) (off:=0) ⟨b,0,none⟩ (fun j=>us.getD j undef) hF
     (fun j hj=>by
      have hu:us[j]?=some (us[j]'Om):=List.getElem?_eq_getElem Om
      rw[add_at,Nat.zero_add,cell_of_row w' b j us.toArray e (0,0) hh]
      simp only[List.getD_eq_getElem?_getD,hu,Option.getD_some]
      exact⟨by simp,(hr j _ _ (List.getElem?_eq_getElem hj) hu).2⟩)
     (fun j x hx=>by
      have hj:=(List.getElem?_eq_some_iff.1 hx).1
      have hu:us[j]?=some (us[j]'Om):=List.getElem?_eq_getElem Om
      simp only[List.getD_eq_getElem?_getD,hu,Option.getD_some]
      exact upF (hr j x _ hx hu).1)
    rwa [add_at]at this
   refine⟨_,m,σ,F2,hK.o,hN',by rw[hD'];exact hD.step (hg2.step σ),fun t=>?_,hg2.mem hm,hg2.step σ,SArg.refl σ⟩
   simp only[get]
   cases h0:Nat.beq s0.t t with
   |true =>
    have:=Nat.eq_of_beq_eq_true h0
    subst this
    simp only[cond_true]
    rw[hv0]
    exact .d (pt b _ us0 _ (.inr (.inl rfl)) hh0 hl0 (hr0 rfl))
   | false =>
    simp only[cond_false]
    cases h1:Nat.beq s1.t t with
    |true =>
     have:=Nat.eq_of_beq_eq_true h1
     subst this
     simp only[cond_true]
     rw[hv1]
     exact .d (pt b' _ us1 _ (.inr (.inr rfl)) hh1 hl1 (hr1 rfl))
    | false =>
     simp only[cond_false]
     refine(hs t fun j o hj ho hdo=>?_).mono (fun _ h=>.inl h) (fun _ _=>rfl) (SLe.refl σ)
     have hjN:j<ops.size:=(Array.getElem?_eq_some_iff.1 ho).1
     rcases show j=pre.length+0\/j=pre.length+1\/j=pre.length+2+0\/j=pre.length+2+1 by omega with hj|hj|hj|hj
     .obtain⟨o',ho',hdst,_⟩:=b0.al
      rw[<-hj,ho]at ho'
      cases ho'
      rw[hdst]at hdo
      injection hdo with hdo
      exact Nat.ne_of_beq_eq_false h0 hdo
     .obtain⟨o',ho',hdst,_⟩:=b1.al
      rw[<-hj,ho]at ho'
      cases ho'
      rw[hdst]at hdo
      injection hdo with hdo
      exact Nat.ne_of_beq_eq_false h1 hdo
     .obtain⟨o',ho',hdst,_⟩:=b0.st
      rw[<-hj,ho]at ho'
      cases ho'
      rw[hdst]at hdo
      cases hdo
     .obtain⟨o',ho',hdst,_⟩:=b1.st
      rw[<-hj,ho]at ho'
      cases ho'
      rw[hdst]at hdo
      cases hdo⟩
def Weak (m0 m1:Mem):Prop:=∀r,m0.at r=m1.at r\/(m0.at r=some (some .opq)/\∃B,m1.at r=some (some B))
theorem Weak.ok {m0 m1:Mem}(h:Weak m0 m1){F:Nat->Prop}{w:World}(hm:MemOk m1 σ F w):MemOk m0 σ F w where
 dom r:=by
  rcases h r with h|⟨h1,_,h2⟩
  .rw[h];exact hm.dom r
  .rw[h1]
   have:=hm.dom r
   rw[h2]at this
   exact⟨fun e=>(by have:=this.1 e;cases this),fun e=>by cases e⟩
 lv r q hq:=by
  rcases h r with h|⟨h1,B0,h2⟩
  .rw[h];exact hm.lv r q hq
  .refine⟨fun e=>?_,fun pl e=>?_⟩
   .have:=(hm.lv r q hq).1 e
    rw[h2]at this
    cases this
   .obtain⟨B,hB,hok⟩:=(hm.lv r q hq).2 pl e
    rw[h2]at hB
    injection hB with hB
    injection hB with hB
    subst hB
    exact⟨.opq,h1,Tt⟩
 inj:=hm.inj
 nf:=hm.nf
 fl:=hm.fl
 gl:=hm.gl
theorem Weak.put {m0 m1:Mem}(h:Weak m0 m1){r:Ref}(h0:m0.at r=some (some .opq)){sh:Ksh}{has:List Int->Bool}{val:List Int->AV}{b:Option Blk}(h1:m1.at r=some b):Weak m0 (m1.put r (some (.map sh has val))):=fun r'=>by
 by_cases e:r'=r
 .subst e
  exact .inr ⟨h0,_,put_self _ h1⟩
 .rw[put_other _ e]
  exact h r'
structure MapS where
 t:TypeId
 x:Tmp
 k:Tmp
 v:Bool
 jx:Nat
 jk:Nat
 r:Ref
 K:AV
structure MapOp (ops:Array Oper)(n i:Nat)(s:MapS):Prop where
 op:∃o,ops[i]?=some o/\o.dst=none/\o.guard=none/\o.op=.mapUpdate s.t (.tmp s.x) (.tmp s.k) (.const (.bool s.v))/\edgeTo o s.jx/\edgeTo o s.jk
 vx:s.jx<n/\∃o,ops[s.jx]?=some o/\o.dst=some s.x
 vk:s.jk<n/\∃o,ops[s.jk]?=some o/\o.dst=some s.k
theorem map_step (hT:TabOk P T){ops:Array Oper}{n i:Nat}{s:MapS}(hs:MapOp ops n i s){m1 m2:Mem}(hev:evMapUpdate T m1 s.t (.mp s.r) s.K (.d (.bool s.v))=some m2){As:Nat->AV}{env:Env}{listed:Array Bool}{a':Act}{w':World}{F':Nat->Prop}{o:Oper}(ho:ops[i]?=some o)
  (hen:∀e∈o.after,Region.binds .any e=true->listed.getD e.on true=true) (hm:MemOk m1 σ F' w') (hsl:Slots ops n env σ As listed F' w' a'.tmps) (hx:As s.jx=.mp s.r) (hk:As s.jk=s.K) {next:Act->World->Prop} {Q:Exit->Act->World->Prop}
  (hnext:∀v w2,MemOk m2 σ F' w2->Step σ F' w' σ F' w2->next (a'.put o.dst v) w2):wpOpIn (Fen ro) 0 P ops Q i next a' w':=by
 obtain⟨o',ho',hdst,hgd,hop,⟨e1,he1,heq1,hbi1⟩,⟨e2,he2,heq2,hbi2⟩⟩:=hs.op
 rw[ho]at ho'
 cases ho'
 have hw:Region.wanted o (yielded ops a'.tmps)=true:=by simp[Region.wanted,hgd]
 have hlx:listed.getD s.jx true=true:=by have:=hen e1 he1 hbi1;rwa [heq1]at this
 have hlk:listed.getD s.jk true=true:=by have:=hen e2 he2 hbi2;rwa [heq2]at this
 obtain⟨hjx,ox,hox,hdx⟩:=hs.vx
 obtain⟨hjk,ok,hok,hdk⟩:=hs.vk
 have hvx:=(hsl s.x).1 s.jx ox hjx hox hdx hlx
 have hvk:=(hsl s.k).1 s.jk ok hjk hok hdk hlk
 rw[hx]at hvx
 rw[hk]at hvk
 obtain⟨w2,hrun,h1,h2⟩:=evMapUpdate_same (P:=P) hT hm hvx hvk (Z:=.bool s.v) (.d .bool) hev
 unfold wpOpIn
 simp only[ho,hw,if_true]
 refine wpIn_at (fun d h=>by rw[hop]at h;cases h) ?_
 have hex:(execOp a'.eval o).run P w'=.ok .skip w2:=by
  have e3:a'.eval (.tmp s.x)=a'.tmps.getD s.x undef:=rfl
  have e4:a'.eval (.tmp s.k)=a'.tmps.getD s.k undef:=rfl
  have e5:a'.eval (.const (.bool s.v))=.bool s.v:=rfl
  generalize a'.tmps.getD s.x undef=X at hrun e3
  generalize a'.tmps.getD s.k undef=Y at hrun e4
  simp[execOp,hop,e3,e4,e5,hrun]
 rw[hex]
 simp only[Oper.uponIn]
 exact hnext _ w2 h1 h2
theorem Awp.maps (hT:TabOk P T){id N:Nat}{ops:Array Oper}{env:Env}{Q:Post}(h1:P.follows .mixedOrders=true)(h2:okR ops.toList=true)(hd:dstsIn N ops.toList=true)(pre suf:List Oper)(hsp:ops.toList=pre++suf)(hsuf:suf.length=2)(s0 s1:MapS)
  (b0:MapOp ops pre.length pre.length s0) (b1:MapOp ops pre.length (pre.length+1) s1) (hch:∃o,ops[pre.length+1]?=some o/\edgeTo o pre.length) {m1 m2:Mem} (e1:evMapUpdate T m s0.t (.mp s0.r) s0.K (.d (.bool s0.v))=some m1) (e2:evMapUpdate T m1 s1.t (.mp s1.r) s1.K (.d (.bool s1.v))=some m2) (hr:s0.r≠s1.r)
  (h:vcR P T ops.toList ((m.put s0.r (some .opq)).put s1.r (some .opq)) pre env fun E=>(get E s0.x=.mp s0.r/\get E s0.k=s0.K/\get E s1.x=.mp s1.r/\get E s1.k=s1.K)/\Ev (Q .normal E m2)):Awp P N (.region id ops true) env m Q :=
 ⟨fun ro lo a w σ F hN hD he hm=>by
  have hsize:ops.size=pre.length+2:=by
   have:ops.toList.length=ops.size:=Array.length_toList
   rw[<-this,hsp,List.length_append,hsuf]
  obtain⟨⟨sa,ha,va,g0⟩,sa',ha',va',hm1⟩:=evMapUpdate_is e1
  obtain⟨⟨sb,hb,vb,g1⟩,sb',hb',vb',hm2⟩:=evMapUpdate_is e2
  have a0:=Mem.get_at g0
  have a1':=Mem.get_at g1
  have a1:m.at s1.r=some (some (.map sb hb vb)):=by rw[hm1,put_other _ (fun e=>hr e.symm)]at a1';exact a1'
  have o1:((m.put s0.r (some .opq)).put s1.r (some .opq)).at s1.r=some (some .opq):=put_self _ (by rw[put_other _ (fun e=>hr e.symm)];exact a1)
  have o0:((m.put s0.r (some .opq)).put s1.r (some .opq)).at s0.r=some (some .opq):=by rw[put_other _ hr];exact put_self _ a0
  have w0:Weak ((m.put s0.r (some .opq)).put s1.r (some .opq)) m:=fun r=>by
   by_cases e:r=s1.r
   .subst e;exact .inr ⟨o1,_,a1⟩
   .by_cases e':r=s0.r
    .subst e';exact .inr ⟨o0,_,a0⟩
    .exact .inl (by rw[put_other _ e,put_other _ e'])
  have w1:Weak ((m.put s0.r (some .opq)).put s1.r (some .opq)) m1:=by rw[hm1];exact w0.put o0 a0
  have w2:Weak ((m.put s0.r (some .opq)).put s1.r (some .opq)) m2:=by rw[hm2];exact w1.put o1 a1'
  generalize ((m.put s0.r (some .opq)).put s1.r (some .opq))=m0 at h w0 w1 w2
  obtain⟨oc,hoc,ec,hec,heon,heb⟩:=hch
  refine drawn_tail h1 h2 hT (w0.ok hm) hd hsp h hN he (fun listed a' w' F'=>(listed.getD (pre.length+1) true=true->listed.getD pre.length true=true)/\MemOk (bif listed.getD (pre.length+1) true then m2 else bif listed.getD pre.length true then m1 else m) σ F' w'/\Step σ F w σ F' w') ?_ ?_ ?_ ?_
  .have hrep:∀j,j<ops.size->(Array.replicate ops.size false).getD j true=false:=fun j hj=>by
    rw[getD_list,Array.toList_replicate,List.getElem?_replicate,if_pos hj]
    rfl
   rw[hrep _ Om,hrep _ Om]
   exact⟨fun h=>(by cases h),(Grew.drew hm.fl).mem hm,(Grew.drew hm.fl).step σ⟩
  .rintro listed a' w' F' F2 w2 v i o ⟨hc,hmw,hst⟩ hg hi ho hls hN'
   rw[listed_set Om,listed_set Om]
   exact⟨hc,hg.mem hmw,hst.trans (hg.step σ)⟩
  .rintro As listed a' w' F' i o hE hK hi ho hl hen hls hN' hD' hmw hs ⟨hc,hmm,hst⟩ next hnext
   have hiN:i<ops.size:=(Array.getElem?_eq_some_iff.1 ho).1
   obtain⟨⟨k1,k2,k3,k4⟩,_⟩:=hK
   have ax:∀(s:MapS) (i:Nat),MapOp ops pre.length i s->get (envsOf env ops.toList As pre.length) s.x=As s.jx/\get (envsOf env ops.toList As pre.length) s.k=As s.jk:=fun s i hs=>by
    obtain⟨hjx,ox,hox,hdx⟩:=hs.vx
    obtain⟨hjk,ok,hok,hdk⟩:=hs.vk
    exact⟨hE _ _ _ hox hdx hjx,hE _ _ _ hok hdk hjk⟩
   obtain⟨x0,y0⟩:=ax s0 _ b0
   obtain⟨x1,y1⟩:=ax s1 _ b1
   have mono:∀(F2:Nat->Prop) w2,Step σ F' w' σ F' w2->∀A u,Vc w' F' σ A u->Vc w2 F' σ A u:=fun F2 w2 hst A u hv=>hv.mono (fun _ h=>h) (fun b hb=>hst.keep b (hmw.fl b hb) (fun⟨r,pl,t,e1,e2⟩=>(hmw.nf r pl b t e1 e2).1 hb)) (SLe.refl σ)
   rcases show i=pre.length\/i=pre.length+1 by omega with hi|hi
   .subst hi
    have hn1:listed.getD (pre.length+1) true=false:=by
     cases h:listed.getD (pre.length+1) true with
     |false=>rfl
     |true=>rw[hc h]at hl;cases hl
    rw[hn1,hl]at hmm
    refine map_step hT b0 e1 ho hen hmm hs (x0.symm.trans k1) (y0.symm.trans k2) fun v w2 q1 q2=>hnext v w2 F' (w1.ok q1) (mono F' w2 q2) ⟨fun h=>listed_self,?_,hst.trans q2⟩
    rw[listed_set Om,hn1,listed_self]
    exact q1
   .subst hi
    rw[hoc]at ho
    cases ho
    have hl0:listed.getD pre.length true=true:=by have:=hen ec hec heb;rwa [heon]at this
    rw[hl,hl0]at hmm
    refine map_step hT b1 e2 hoc hen hmm hs (x1.symm.trans k3) (y1.symm.trans k4) fun v w3 q1 q2=>hnext v w3 F' (w2.ok q1) (mono F' w3 q2) ⟨fun h=>by rw[listed_set Om];exact hl0,?_,hst.trans q2⟩
    rw[listed_self]
    exact q1
  .rintro As a' w' F' ⟨_,hK⟩ hE hN' hD' hmw hs listed hall ⟨_,hmm,hst⟩
   rw[hall _ Om]at hmm
   refine⟨_,m2,σ,F',hK.o,hN',by rw[hD'];exact hD.step hst,fun t=>hs t fun j o hj ho hdo=>?_,hmm,hst,SArg.refl σ⟩
   have hjN:j<ops.size:=(Array.getElem?_eq_some_iff.1 ho).1
   rcases show j=pre.length\/j=pre.length+1 by omega with hj|hj
   .subst hj
    obtain⟨o',ho',hdst,_⟩:=b0.op
    rw[ho]at ho'
    cases ho'
    rw[hdst]at hdo
    cases hdo
   .subst hj
    obtain⟨o',ho',hdst,_⟩:=b1.op
    rw[ho]at ho'
    cases ho'
    rw[hdst]at hdo
    cases hdo⟩
def allOne:List D->Bool
 |[]=>true
 |x::r=>x.one&&allOne r
theorem allOne_ok:∀{cs:List D},allOne cs=true->∀x∈cs,x.one=true
 |[],_,x,hx=>by simp at hx
 |y::r,h,x,hx=>by
  simp only[allOne,Bool.and_eq_true]at h
  rcases List.mem_cons.1 hx with rfl|hx
  .exact h.1
  .exact allOne_ok h.2 x hx
theorem MapOp.of {ops:Array Oper}{n i:Nat}{s:MapS}{o ox ok:Oper}(a1:ops[i]?=some o)(a2:o.dst=none/\o.guard=none/\o.op=.mapUpdate s.t (.tmp s.x) (.tmp s.k) (.const (.bool s.v)))(s3:edgeOn o.after.toList s.jx=true)(s4:edgeOn o.after.toList s.jk=true)
  (v1:Nat.blt s.jx n=true) (v2:ops[s.jx]?=some ox) (v3:ox.dst=some s.x) (k1:Nat.blt s.jk n=true) (k2:ops[s.jk]?=some ok) (k3:ok.dst=some s.k):MapOp ops n i s where
 op:=⟨o,a1,a2.1,a2.2.1,a2.2.2,edgeTo_of s3,edgeTo_of s4⟩
 vx:=⟨Nat.le_of_ble_eq_true v1,ox,v2,v3⟩
 vk:=⟨Nat.le_of_ble_eq_true k1,ok,k2,k3⟩
theorem take_len {ops:Array Oper}{n:Nat}{suf:List Oper}(hs:ops.toList.drop n=suf)(hn:suf≠[]):(ops.toList.take n).length=n:=by
 rw[List.length_take]
 have:n<ops.toList.length:=by
  rcases Nat.lt_or_ge n ops.toList.length with h|h
  .exact h
  .rw[List.drop_of_length_le h]at hs
   exact absurd hs.symm hn
 omega
theorem Awp.mapsN (hT:TabOk P T){id N:Nat}{ops:Array Oper}{env:Env}{Q:Post}(n:Nat)(s0 s1:MapS)(h1:P.follows .mixedOrders=true)(h2:okR ops.toList=true)(hd:dstsIn N ops.toList=true)(hsuf:Nat.beq (ops.toList.drop n).length 2=true)
  (b0:MapOp ops n n s0) (b1:MapOp ops n (n+1) s1) {oc:Oper} (hch:ops[n+1]?=some oc) (hce:edgeOn oc.after.toList n=true) {m1 m2:Mem} (e1:evMapUpdate T m s0.t (.mp s0.r) s0.K (.d (.bool s0.v))=some m1) (e2:evMapUpdate T m1 s1.t (.mp s1.r) s1.K (.d (.bool s1.v))=some m2) (hr:s0.r≠s1.r)
  (h:vcR P T ops.toList ((m.put s0.r (some .opq)).put s1.r (some .opq)) (ops.toList.take n) env fun E=>(get E s0.x=.mp s0.r/\get E s0.k=s0.K/\get E s1.x=.mp s1.r/\get E s1.k=s1.K)/\Ev (Q .normal E m2)):Awp P N (.region id ops true) env m Q:=by
 have h4:=Nat.eq_of_beq_eq_true hsuf
 have hl:(ops.toList.take n).length=n:=take_len rfl (fun e=>by rw[e]at h4;cases h4)
 exact Awp.maps hT h1 h2 hd (ops.toList.take n) (ops.toList.drop n) (List.take_append_drop _ _).symm h4 s0 s1 (by rw[hl];exact b0) (by rw[hl];exact b1) ⟨oc,by rw[hl];exact hch,by rw[hl];exact edgeTo_of hce⟩ e1 e2 hr h
end
section
variable {P:Program}{T:Tab}{m:Mem}{env:Env}{K:AV->Mem->Prop}{o:Oper}
end
end Go.Ab
