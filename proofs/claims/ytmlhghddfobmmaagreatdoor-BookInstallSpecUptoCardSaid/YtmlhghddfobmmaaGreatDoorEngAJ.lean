import Derived.Test.YtmlhghddfobmmaaGreatDoorEngAE
import Derived.Laws.CopyRow
namespace Go.Ab
set_option linter.unusedSimpArgs false
set_option linter.unusedVariables false
section
variable {P:Program}{T:Tab}{m:Mem}{σ:Pls}
variable {ro:Option Nat}
def Uj (ops:Array Oper)(n:Nat)(env:Env)(σ:Pls)(As:Nat->AV)(listed:Array Bool)(F:Nat->Prop)(w:World)(tmps:Array Value):Prop :=
 ∀t,(∀(j:Nat) o,j<n->ops[j]?=some o->o.dst=some t->listed.getD j true=true->Vc w F σ (As j) (tmps.getD t undef)) /\
  ((∀(j:Nat) o,ops[j]?=some o->o.dst=some t->listed.getD j true=false)->Vc w F σ (get env t) (tmps.getD t undef))
theorem Q7q {id N:Nat} {ops:Array Oper} {F:Nat→Prop} {w:World} {a:Act} {env:Env} {K:Env→Prop} {Q:Exit→Act→World→Prop}
  (h1:P.follows .mixedOrders=true) (h2:okR ops.toList=true) (hT:Qb P T) (hm:Q3 m σ F w) (hd:Jb N ops.toList=true) {pre suf:List Oper} (hsp:ops.toList=pre++suf) (h:vcR P T ops.toList m pre env K) (hN:a.tmps.size=N) (he:Ql env w F σ a.tmps)
  (R:Array Bool->Act->World->(Nat->Prop)->Prop)
  (hR0:R (Array.replicate ops.size false) a {w with drawn:=w.drawn+1} F)
  (hRq:∀listed a' w' F' F2 w2 v (i:Nat) o,R listed a' w' F'->Qn F' w' F2 w2->i<pre.length->ops[i]?=some o->listed.size=ops.size->a'.tmps.size=N->R (listed.setIfInBounds i true) (a'.put o.dst v) w2 F2)
  (hRe:∀ As listed a' w' F' (i:Nat) o,(∀ (j:Nat) o d,ops[j]?=some o→o.dst=some d→j < pre.length→get (Qi env ops.toList As pre.length) d=As j)→K (Qi env ops.toList As pre.length)→pre.length≤i→ops[i]?=some o→listed.getD i true=false→(∀ e∈o.after,Region.binds .any e=true→listed.getD e.on true=true)→listed.size=ops.size→a'.tmps.size=N→a'.defers=a.defers→Q3 m σ F' w'→Uj ops pre.length env σ As listed F' w' a'.tmps→R listed a' w' F' →
   ∀next:Act->World->Prop,(∀v w2 F2,Q3 m σ F2 w2->(∀A u,Vc w' F' σ A u->Vc w2 F2 σ A u)->R (listed.setIfInBounds i true) (a'.put o.dst v) w2 F2->next (a'.put o.dst v) w2)->wpOpIn (Fen ro) 0 P ops Q i next a' w')
  (hQ:∀ As a' w' F',K (Qi env ops.toList As pre.length)→(∀ (j:Nat) o d,ops[j]?=some o→o.dst=some d→j < pre.length→get (Qi env ops.toList As pre.length) d=As j)→a'.tmps.size=N→a'.defers=a.defers→Q3 m σ F' w' →
   (∀t,(∀(j:Nat) o,pre.length<=j->ops[j]?=some o->o.dst≠some t)->Vc w' F' σ (get (Qi env ops.toList As pre.length) t) (a'.tmps.getD t undef))->(∀listed,(∀i,i<ops.size->listed.getD i true=true)->R listed a' w' F'->Q .normal a' w')):(Code.region id ops true).wpIn (Fen ro) 0 P Q a w:=by
 obtain⟨As,hK,hD0⟩:=Cc (σ:=σ) hT pre env h
 have hpl:∀(k:Nat) o,k<pre.length->ops[k]?=some o->pre[k]?=some o:=fun k o hk ho=>by
  rw[<-Qh2,hsp,Qhj hk]at ho
  exact ho
 have hEp:∀k,k<=pre.length->Qi env ops.toList As k=Qi env pre As k:=fun k hk=>by
  rw[hsp]
  exact Px env pre suf As k hk
 have hlen:pre.length<=ops.toList.length:=by rw[hsp];simp
 have hD:∀(k:Nat) o,k<pre.length->ops[k]?=some o->Ui P m σ ops.toList o (Qi env ops.toList As k) (As k):=fun k o hk ho=>by
  rw[hEp k Om]
  exact hD0 k o (hpl k o hk ho)
 have hO:∀(i:Nat) o,ops[i]?=some o->Hk ops.toList i o:=fun i o ho=>by
  have:=Gz h2 i o (by rw[Qh2];exact ho)
  rwa [Qh9]at this
 have hdst:∀(i:Nat) o d,ops[i]?=some o->o.dst=some d->d<N:=by
  have:∀(l:List Oper),Jb N l=true->∀(i:Nat) o d,l[i]?=some o->o.dst=some d->d<N:=by
   intro l
   induction l with
   |nil=>intro _ i o d ho;simp at ho
   | cons x r ih =>
    intro hl i o d ho hdo
    simp only[Jb,Qh5]at hl
    cases i with
    |zero =>
     simp at ho
     subst ho
     have:=hl.1
     rw[hdo]at this
     exact Qhf this
    |succ i=>exact ih hl.2 i o d (by simpa using ho) hdo
  exact fun i o d ho hdo=>this ops.toList hd i o d (by rw[Qh2];exact ho) hdo
 rw[<-hEp pre.length (Qgx _)]at hK
 have hsize:ops.toList.length=ops.size:=Qhg
 have hEd:∀(i:Nat) o d,ops[i]?=some o->o.dst=some d->∀k,i<k->k<=ops.toList.length->get (Qi env ops.toList As k) d=As i:=by
  intro i o d ho hdo k hk hkn
  have hol:ops.toList[i]?=some o:=by rw[Qh2];exact ho
  rw[Xb (i:=i+1) k Om (fun j o' h3 h4 ho' hd'=>by
    have:=(hO i o ho).once d hdo j o' ho' hd'
    omega)]
  rw[Qi,hol]
  exact L5 hdo
 have hE0:∀t k,k<=ops.toList.length->(∀(j:Nat) o,ops[j]?=some o->o.dst=some t->k<=j)->get (Qi env ops.toList As k) t=get env t:=fun t k hk hno =>
  Xb (i:=0) k (Qh3 _) (fun j o _ hj ho hdo=>by
   rw[Qh2]at ho
   have:=hno j o ho hdo
   omega)
 have hEd':∀(j:Nat) o d,ops[j]?=some o->o.dst=some d->j<pre.length->get (Qi env ops.toList As pre.length) d=As j:=fun j o d ho hdo hj=>hEd j o d ho hdo _ hj hlen
 let Inv:Array Bool->Act->World->Prop:=fun listed a' w'=>a'.tmps.size=N/\a'.defers=a.defers/\(∀(j:Nat) o,ops[j]?=some o->listed.getD j true=true->∀e∈o.after,Region.binds .any e=true->listed.getD e.on true=true) /\
  ∃F',Q3 m σ F' w'/\Uj ops pre.length env σ As listed F' w' a'.tmps/\R listed a' w' F'
 have done:∀(fuel:Nat) (listed:Array Bool) (a':Act) (w':World),listed.size=ops.size->(∀i,i<ops.size->listed.getD i true=true)->Q .normal a' w'->wpAnyIn (Fen ro) 0 P .any ops Q fuel listed a' w':=by
  intro fuel listed a' w' hls hall hq
  have hnil:Region.ready .any ops listed=[]:=List.eq_nil_iff_forall_not_mem.2 fun i hi=>by
   obtain⟨g1,o,ho,_⟩:=mem_ready.1 hi
   rw[hall i (Qh4.1 ho).1]at g1
   cases g1
  cases fuel with
  |zero=>exact⟨hnil,hq⟩
  |succ fuel=>exact⟨fun _=>hq,fun i hi=>by rw[hnil]at hi;cases hi⟩
 have fin:∀(listed:Array Bool) (a':Act) (w':World),(∀i,i<ops.size->listed.getD i true=true)->Inv listed a' w'->Q .normal a' w':=by
  rintro listed a' w' hall ⟨i1,i2,ic,F',i3,i4,i5⟩
  refine hQ As a' w' F' hK hEd' i1 i2 i3 (fun t ht=>?_) listed hall i5
  by_cases hex:∃(j:Nat) (o:Oper),j<pre.length/\ops[j]?=some o/\o.dst=some t
  .obtain⟨j,o,hj,ho,hdo⟩:=hex
   rw[hEd j o t ho hdo _ hj hlen]
   exact(i4 t).1 j o hj ho hdo (hall j Om)
  .rw[hE0 t _ hlen (fun j o ho hdo=>by
    rcases Qi6 j pre.length with h|h
    .exact absurd ⟨j,o,h,ho,hdo⟩ hex
    .exact h)]
   exact(i4 t).2 fun j o ho hdo=>by
    rcases Qi6 j pre.length with h|h
    .exact absurd ⟨j,o,h,ho,hdo⟩ hex
    .exact absurd hdo (ht j o h ho)
 have main:∀ (fuel:Nat) (listed:Array Bool) (a':Act) (w':World),listed.size=ops.size→unl listed.toList≤fuel→Inv listed a' w'→wpAnyIn (Fen ro) 0 P .any ops Q fuel listed a' w':=by
  intro fuel
  induction fuel with
  | zero =>
   intro listed a' w' hls hun hI
   have hall:∀i,i<ops.size->listed.getD i true=true:=fun i hi=>by
    rw[Qu]
    cases hb:listed.toList[i]? with
    |none=>rfl
    |some b=>exact Lv Om i b hb
   exact done 0 listed a' w' hls hall (fin listed a' w' hall hI)
  | succ fuel ih =>
   intro listed a' w' hls hun hI
   refine⟨fun hnil=>?_,fun i hi=>?_⟩
   .have hall:∀i,i<ops.size->listed.getD i true=true:=by
     intro i
     induction i using Nat.strongRecOn with
     | _ i ihi =>
      intro hi
      cases hb:listed.getD i true with
      |true=>rfl
      | false =>
       exfalso
       have ho:ops[i]?=some ops[i]:=Array.getElem?_eq_getElem hi
       have:i∈Region.ready .any ops listed:=mem_ready.2 ⟨hb,_,ho,fun e he hbe=>by
        have hlt:=(hO i _ ho).back e he hbe
        have:=ihi e.on hlt Om
        rw[Qu]at this⊢
        have hin:e.on<listed.toList.length:=by rw[Qhg,hls];omega
        rw[Qgy hin]at this⊢
        exact this⟩
       rw[hnil]at this
       cases this
    exact fin listed a' w' hall hI
   .obtain⟨g1,o,ho,g2⟩:=mem_ready.1 hi
    have hin:i<ops.size:=(Qh4.1 ho).1
    have hoi:=hO i o ho
    obtain⟨i1,i2,ic,F',hmw,i4,i5⟩:=hI
    have toT:∀j,j<ops.size->listed.getD j false=true->listed.getD j true=true:=fun j hj h=>by
     rw[Qu]at h⊢
     have hin2:j<listed.toList.length:=by rw[Qhg,hls];omega
     rw[Qgy hin2]at h⊢
     exact h
    have hlist:listed.toList[i]?=some false:=by
     rw[Qu]at g1
     cases hb:listed.toList[i]? with
     |none=>rw[hb]at g1;cases g1
     |some b=>rw[hb]at g1;simp at g1;rw[g1]
    have hset:∀j,j≠i->(listed.setIfInBounds i true).getD j true=listed.getD j true:=fun j hne=>by
     rw[Qu,Qhi,List.getElem?_set_ne (fun e=>hne e.symm),<-Qu]
    have hsetm:∀j,listed.getD j true=true->(listed.setIfInBounds i true).getD j true=true:=fun j h=>by
     by_cases e:j=i
     .subst e;rw[h]at g1;cases g1
     .rw[hset j e];exact h
    have hseti:(listed.setIfInBounds i true).getD i true=true:=by
     rw[Qu,Qhi,List.getElem?_set_self (by rw[Qhg,hls];exact hin)]
     rfl
    have hclosed:∀(j:Nat) o,ops[j]?=some o->(listed.setIfInBounds i true).getD j true=true->∀e∈o.after,Region.binds .any e=true->(listed.setIfInBounds i true).getD e.on true=true:=fun j o' ho' hj e he hb=>by
     by_cases hji:j=i
     .subst hji
      rw[ho]at ho'
      cases ho'
      have hlt:=hoi.back e he hb
      exact hsetm _ (toT _ Om (g2 e he hb))
     .rw[hset j hji]at hj
      exact hsetm _ (ic j o' ho' hj e he hb)
    have hun':unl (listed.setIfInBounds i true).toList<=fuel:=by
     have:=Kd hlist
     rw[Qhi]
     omega
    have putv:∀(v:Value) t,o.dst≠some t->(a'.put o.dst v).tmps.getD t undef=a'.tmps.getD t undef:=fun v t hdt=>by
     cases hdo:o.dst with
     |none=>rfl
     |some d =>
      simp only[Act.put,Qhk]
      rw[Array.getElem?_setIfInBounds_ne (fun e=>hdt (by rw[hdo,e]))]
    have puts:∀(v:Value) t,o.dst=some t->(a'.put o.dst v).tmps.getD t undef=v:=fun v t hdt=>by
     have hdN:=hdst i o t ho hdt
     rw[hdt]
     simp only[Act.put,Qhk]
     rw[Array.getElem?_setIfInBounds_self_of_lt (by rw[i1];exact hdN)]
     rfl
    have slots2:∀(v:Value) (w2:World) (F2:Nat->Prop),(∀A u,Vc w' F' σ A u->Vc w2 F2 σ A u)->(i<pre.length->Vc w2 F2 σ (As i) v)->Uj ops pre.length env σ As (listed.setIfInBounds i true) F2 w2 (a'.put o.dst v).tmps:=fun v w2 F2 mono hv t=>by
     by_cases hdt:o.dst=some t
     .rw[puts v t hdt]
      refine⟨fun j o' hjp ho' hd' _=>?_,fun hno=>?_⟩
      .have:=hoi.once t hdt j o' (by rw[Qh2];exact ho') hd'
       subst this
       exact hv hjp
      .have:=hno i o ho hdt
       rw[hseti]at this
       cases this
     .rw[putv v t hdt]
      have hne:∀(j:Nat) o',ops[j]?=some o'->o'.dst=some t->j≠i:=fun j o' ho' hd' e=>by
       subst e
       rw[ho]at ho'
       cases ho'
       exact hdt hd'
      refine⟨fun j o' hjp ho' hd' hj=>?_,fun hno=>?_⟩
      .rw[hset j (hne j o' ho' hd')]at hj
       exact mono _ _ ((i4 t).1 j o' hjp ho' hd' hj)
      .exact mono _ _ ((i4 t).2 fun j o' ho' hd'=>by
        have:=hno j o' ho' hd'
        rwa [hset j (hne j o' ho' hd')]at this)
    rcases Qi6 i pre.length with hiP|hiP
    rotate_left
    .refine hRe As listed a' w' F' i o hEd' hK hiP ho g1 (fun e he hb=>toT _ (by have:=hoi.back e he hb;omega) (g2 e he hb)) hls i1 i2 hmw i4 i5 _ fun v w2 F2 k1 k2 k3=>?_
     exact ih _ _ _ (by simp[hls]) hun' ⟨by rw[Y3];exact i1,by rw[put_defers];exact i2,hclosed,F2,k1,slots2 v w2 F2 k2 (fun h=>by omega),k3⟩
    have hslots:∀ t∈Zs ops.toList o,Vc w' F' σ (get (Qi env ops.toList As i) t) (a'.tmps.getD t undef):=fun t ht=>by
     by_cases hex:∃(j:Nat) (o':Oper),ops[j]?=some o'/\o'.dst=some t
     .obtain⟨j,o',ho',hdo'⟩:=hex
      have hj:j<ops.size:=(Qh4.1 ho').1
      have honce:∀(j2:Nat) o2,ops[j2]?=some o2->o2.dst=some t->j2=j:=fun j2 o2 h3 h4=>(hO j o' ho').once t hdo' j2 o2 (by rw[Qh2];exact h3) h4
      rcases hoi.defs t ht j o' (by rw[Qh2];exact ho') hdo' with ⟨hji,e,hee,heon,heb⟩|⟨hij,hcase⟩
      .rw[hEd j o' t ho' hdo' i hji Om]
       refine(i4 t).1 j o' Om ho' hdo' ?_
       have:=g2 e hee heb
       rw[heon]at this
       exact toT j hj this
      .rw[hE0 t i Om (fun j2 o2 h3 h4=>by rw[honce j2 o2 h3 h4];exact hij)]
       refine(i4 t).2 fun j2 o2 h3 h4=>?_
       have hj2:=honce j2 o2 h3 h4
       subst hj2
       rcases hcase with rfl|⟨e,hee,heon,heb⟩
       .exact g1
       .cases hb:listed.getD j2 true with
        |false=>rfl
        |true =>
         have:=ic j2 o' ho' hb e hee heb
         rw[heon,g1]at this
         cases this
     .rw[hE0 t i Om (fun j2 o2 h3 h4=>absurd ⟨j2,o2,h3,h4⟩ hex)]
      exact(i4 t).2 fun j2 o2 h3 h4=>absurd ⟨j2,o2,h3,h4⟩ hex
    have hdoes:=hD i o hiP ho F' w' a' hmw hslots
    have hy:ops.toList.toArray=ops:=Qi2
    rw[hy]at hdoes
    have next:∀(v:Value) (w2:World) (F2:Nat->Prop),Qn F' w' F2 w2->Vc w2 F2 σ (As i) v->wpAnyIn (Fen ro) 0 P .any ops Q fuel (listed.setIfInBounds i true) (a'.put o.dst v) w2:=by
     intro v w2 F2 hg hv
     exact ih _ _ _ (by simp[hls]) hun' ⟨by rw[Y3];exact i1,by rw[put_defers];exact i2,hclosed,F2,hg.mem hmw,slots2 v w2 F2 (fun A u h=>h.mono hg.fro (fun b hb=>hg.keep b (hmw.fl b hb)) (SLe.refl σ)) (fun _=>hv),hRq listed a' w' F' F2 w2 v i o i5 hg hiP ho hls i1⟩
    unfold wpOpIn
    simp only[ho]
    cases hw:Region.wanted o (yielded ops a'.tmps) with
    |false =>
     simp only[Bool.false_eq_true,if_false]
     exact⟨fun _ _=>trivial,next _ _ _ (Qn.refl hmw.fl) (hdoes.2 hw _ _)⟩
    | true =>
     simp only[if_true]
     have h3:=hdoes.1 hw
     have hdef:∀c,o.op≠.defer c:=fun c hc=>by
      simp only[execOp,hc,Sem.run_bind]at h3
      cases hr:(resolve a'.eval c o.type).run P w'<;>simp[hr,Result.andThen,V7]at h3
     refine V5 hdef ?_
     generalize (execOp a'.eval o).run P w'=r at h3
     cases r with
     | ok x w2 =>
      cases x<;>simp only[V7]at h3<;>simp only[Oper.uponIn]
      case value u =>
       obtain⟨F2,k1,k2⟩:=h3
       exact next u w2 F2 k1 k2
      case enter f args =>
       obtain⟨e1,hc⟩:=h3
       rw[e1]
       exact⟨We,Y7.2 (hc.mono fun e w3 ⟨u,F3,he,k1,k2⟩=>by subst he;exact next u w3 F3 k1 k2)⟩
     |halt x w2=>simp only[V7]at h3
 have hrep:∀j,j<ops.size->(Array.replicate ops.size false).getD j true=false:=fun j hj=>by
  rw[Qu,Qi0,Qik,if_pos hj]
  rfl
 refine wpIn_region_any h1 (main ops.size _ a _ (by simp) ?_ ⟨hN,rfl,fun j o ho hj=>?_,F,(Qn.drew hm.fl).mem hm,fun t=>⟨fun j o _ ho _ hj=>?_,fun _=>?_⟩,hR0⟩)
 .have:∀k,unl (List.replicate k false)=k:=fun k=>by
   induction k with
   |zero=>rfl
   |succ k ih=>rw[List.replicate_succ,unl,ih];simp;omega
  rw[Qi0,this]
  exact Qgx _
 .rw[hrep j (Qh4.1 ho).1]at hj
  cases hj
 .rw[hrep j (Qh4.1 ho).1]at hj
  cases hj
 .exact Vc.mono (w:=w) (w':={w with drawn:=w.drawn+1}) (fun _ h=>h) (fun _ _=>rfl) (SLe.refl σ) (he t)
end
section
variable {P:Program}{T:Tab}{m:Mem}{σ:Pls}
theorem Awp.seq {N:Nat}{x y:Code}{env:Env}{Q:Ja}(h:Awp P N x env m fun e env m=>match e with
  | .normal=>Awp P N y env m Q
  | .exit i=>Q (.exit i) env m
  | .goto i=>Q (.goto i) env m
  | .ret=>Q .ret env m
  | .panic ch=>Q (.panic ch) env m
  | .outgrown=>Q .outgrown env m):Awp P N (.seq x y) env m Q :=
 ⟨fun ro lo a w σ F hN hD he hm=>by
  refine wpIn_seq (wpIn_mono (h.run ro lo a w σ F hN hD he hm) ?_)
  rintro e a1 w1 ⟨env1,m1,σ1,F1,k1,k2,k3,k4,k5,k6,k7⟩
  cases e with
  |normal=>exact wpIn_mono ((show Awp P N y env1 m1 Q from k1).run ro lo a1 w1 σ1 F1 k2 k3 k4 k5) fun e a2 w2 h2=>Uw k6 k7 h2
  |_=>exact⟨env1,m1,σ1,F1,k1,k2,k3,k4,k5,k6,k7⟩⟩
def Bk (n0:Nat)(e:TypeId)(sz:Nat)(cs:List D)(stored:Bool)(F:Nat->Prop)(w:World)(v:Value)(b:Nat):Prop :=
 v=.pointer (some ⟨b,0,none⟩)/\n0<=b/\b<w.heap.size/\¬ F b/\∃us:List Value,w.heap[b]?=some (.cells us.toArray e (0,0))/\us.length=sz/\(stored=true->∀(j:Nat) x u,cs[j]?=some x->us[j]?=some u->Rd w F x u/\u.oneCell'=true)
theorem Bk.mono {n0:Nat}{e:TypeId}{sz:Nat}{cs:List D}{stored:Bool}{F F':Nat->Prop}{w w':World}{v:Value}{b:Nat}(h:Bk n0 e sz cs stored F w v b)(hsz:w.heap.size<=w'.heap.size)(hF:∀b,F b->F' b)(hF':∀b,F' b->F b\/w.heap.size<=b)(hk:∀b,F b->w'.heap[b]?=w.heap[b]?)(hb:w'.heap[b]?=w.heap[b]?):Bk n0 e sz cs stored F' w' v b:=by
 obtain⟨h1,h2,h3,h4,us,h5,h6,h7⟩:=h
 exact⟨h1,h2,Om,fun h=>by
  rcases hF' b h with h|h
  .exact h4 h
  .omega,us,by rw[hb];exact h5,h6,fun hs j x u hx hu=>⟨(h7 hs j x u hx hu).1.mono hF hk,(h7 hs j x u hx hu).2⟩⟩
def Ku (o:Oper)(j:Nat):Prop:=∃e∈o.after,e.on=j/\Region.binds .any e=true
theorem Yq {o:Oper}{j:Nat}(h:Vi o.after.toList j=true):Ku o j:=by
 unfold Vi at h
 obtain⟨e,he,h⟩:=List.any_eq_true.1 h
 simp only[Qh5]at h
 exact⟨e,Array.mem_toList_iff.1 he,Qh1 h.1,h.2⟩
structure G7 where
 t:Tmp
 e:TypeId
 tx:Tmp
 jx:Nat
 cs:List D
def I7 (n0:Nat)(n c:Nat)(s:G7)(listed:Array Bool)(F:Nat->Prop)(w:World)(tmps:Array Value)(b:Nat):Prop :=
 (listed.getD (n+2+c) true=true->listed.getD (n+c) true=true)/\(listed.getD (n+c) true=true->Bk n0 s.e s.cs.length s.cs (listed.getD (n+2+c) true) F w (tmps.getD s.t undef) b)
theorem Ze {listed:Array Bool}{i j:Nat}(h:j≠i):(listed.setIfInBounds i true).getD j true=listed.getD j true:=by
 rw[Qu,Qhi,List.getElem?_set_ne (fun e=>h e.symm),<-Qu]
theorem Gx {listed:Array Bool}{i:Nat}:(listed.setIfInBounds i true).getD i true=true:=by
 rw[Qu,Qhi]
 by_cases h:i<listed.toList.length
 .rw[List.getElem?_set_self h];rfl
 .rw[Qht (by simpa using h)];rfl
theorem Ln {a:Act}{d:Option Tmp}{v:Value}{t:Tmp}(h:d≠some t):(a.put d v).tmps.getD t undef=a.tmps.getD t undef:=by
 cases d with
 |none=>rfl
 |some d =>
  simp only[Act.put,Qhk]
  rw[Array.getElem?_setIfInBounds_ne (fun e=>h (by rw[e]))]
theorem put_eq {a:Act}{v:Value}{t:Tmp}(h:t<a.tmps.size):(a.put (some t) v).tmps.getD t undef=v:=by
 simp only[Act.put,Qhk]
 rw[Array.getElem?_setIfInBounds_self_of_lt h]
 rfl
theorem Q42 (hT:Qb P T){e:TypeId}{ti:TI}(hti:T.at e=some ti)(w:World):∃us:List Value,us.length=ti.size/\∀(a:Act) (o:Oper),o.op=.alloc e->(execOp a.eval o).run P w=.ok (.value (.pointer (some ⟨w.heap.size,0,none⟩))) (w.alloc (.cells us.toArray e)):=by
 obtain⟨z,hz,_,hzn⟩:=Ka (hT _ _ hti) w
 exact⟨z.cells.toList,by simpa using hzn,fun a o hop=>by simp[execOp,hop,Instr.alloc,newVar,newRow,hz]⟩
theorem Qfj (hT:Qb P T){e:TypeId}{ti:TI}(hti:T.at e=some ti){cs:List D}(hsz:ti.size=cs.length)(hone:∀x∈cs,x.one=true){F:Nat->Prop}{w:World}{V:Value}(hv:Rd w F (.agg cs) V){b:Nat}{us:List Value}(hb:w.heap[b]?=some (.cells us.toArray e (0,0)))(hl:us.length=cs.length) :
  ∃vs:List Value,vs.length=cs.length/\(∀(j:Nat) x u,cs[j]?=some x->vs[j]?=some u->Rd w F x u/\u.oneCell'=true)/\(Instr.storeAt e (.pointer (some ⟨b,0,none⟩)) V).run P w=.ok () (w.setRow b vs.toArray):=by
 cases hv with
 | @agg _ vs hvl hvr =>
  have h1:∀(j:Nat) x u,cs[j]?=some x->vs[j]?=some u->Rd w F x u/\u.oneCell'=true:=fun j x u hx hu=>⟨hvr j x u hx hu,(hvr j x u hx hu).one_ok (hone x (Qie hx))⟩
  have hone':∀v∈vs,v.oneCell'=true:=fun v hvm=>by
   obtain⟨j,hj,rfl⟩:=List.getElem_of_mem hvm
   exact(h1 j _ _ (Qgy Om) (Qgy hj)).2
  refine⟨vs,hvl,h1,?_⟩
  have:=run_storeCells_at P b 0 e vs 0 us.toArray w hb (by simp;omega) hone'
  simp only[Nat.add_zero,Qh9]at this
  have e1:(us.toArray.toList.take 0++vs++us.toArray.toList.drop vs.length)=vs:=by
   rw[List.take_zero,List.nil_append,List.drop_of_length_le (by simp;omega),Qih]
  rw[e1]at this
  have hcells:(Value.agg vs.toArray).cells=vs.toArray:=rfl
  have hts:ti.size=vs.length:=by omega
  simp[Instr.storeAt,Instr.sureAddr,storeVar,hcells,run_sizeOf (hT _ _ hti),hts,this]
def Cf (n0 n c c':Nat)(s s':G7)(listed:Array Bool)(F:Nat->Prop)(w:World)(tmps:Array Value):Prop :=
 ∃b b',b≠b'/\I7 n0 n c s listed F w tmps b/\I7 n0 n c' s' listed F w tmps b'
theorem Cf.swap {n0 n c c':Nat}{s s':G7}{listed:Array Bool}{F:Nat->Prop}{w:World}{tmps:Array Value}(h:Cf n0 n c c' s s' listed F w tmps):Cf n0 n c' c s' s listed F w tmps:=by
 obtain⟨b,b',h1,h2,h3⟩:=h
 exact⟨b',b,fun e=>h1 e.symm,h3,h2⟩
variable {ro:Option Nat}
def Yo (m0 m1:Mem):Prop:=∀r,m0.at r=m1.at r\/(m0.at r=some (some .opq)/\∃B,m1.at r=some (some B))
theorem Yo.ok {m0 m1:Mem}(h:Yo m0 m1){F:Nat->Prop}{w:World}(hm:Q3 m1 σ F w):Q3 m0 σ F w where
 dom r:=by
  rcases h r with h|⟨h1,_,h2⟩
  .rw[h];exact hm.dom r
  .rw[h1]
   have:=hm.dom r
   rw[h2]at this
   exact⟨fun e=>(by have:=this.1 e;cases this),fun e=>by cases e⟩
 lv r q hq:=by
  rcases h r with h|⟨h1,B0,h2⟩
  .rw[h];exact hm.lv r q hq
  .refine⟨fun e=>?_,fun pl e=>?_⟩
   .have:=(hm.lv r q hq).1 e
    rw[h2]at this
    cases this
   .obtain⟨B,hB,hok⟩:=(hm.lv r q hq).2 pl e
    rw[h2]at hB
    injection hB with hB
    injection hB with hB
    subst hB
    exact⟨.opq,h1,Tt⟩
 inj:=hm.inj
 nf:=hm.nf
 fl:=hm.fl
 gl:=hm.gl
def P9:List D->Bool
 |[]=>true
 |x::r=>x.one&&P9 r
theorem Il:∀{cs:List D},P9 cs=true->∀x∈cs,x.one=true
 |[],_,x,hx=>by simp at hx
 |y::r,h,x,hx=>by
  simp only[P9,Qh5]at h
  rcases Qho.1 hx with rfl|hx
  .exact h.1
  .exact Il h.2 x hx
theorem Q4o {ops:Array Oper}{n:Nat}{suf:List Oper}(hs:ops.toList.drop n=suf)(hn:suf≠[]):(ops.toList.take n).length=n:=by
 rw[Qhr]
 have:n<ops.toList.length:=by
  rcases Qi6 n ops.toList.length with h|h
  .exact h
  .rw[List.drop_of_length_le h]at hs
   exact absurd hs.symm hn
 omega
end
section
variable {P:Program}{T:Tab}{m:Mem}{env:Env}{K:AV->Mem->Prop}{o:Oper}
end
noncomputable def vcE (P:Program)(T:Tab)(full:List Oper)(m:Mem)(eff:Nat->Bool)(res:Nat->AV)(ops:List Oper):Nat->Env->(Env->Prop)->Prop :=
 List.rec (motive:=fun _=>Nat->Env->(Env->Prop)->Prop) (fun _ env K=>K env) (fun o _ ih k env K=>match eff k with
  |true=>J7 env o.dst (res k) fun env=>ih (k+1) env K
  | false=>match o.guard with
   |none=>X8 P T m (sel env (tmpsOf o.op)) o fun v=>J7 env o.dst v fun env=>ih (k+1) env K
   | some (j,want)=>match guardOf full (sel env (Yb full (some (j,want)))) j want with
    |none=>False
    |some g=>match Xi T (sel env (tmpsOf o.op)) m o.op with
     |some (v,l)=>obs (under g l) (frc v fun v=>J7 env o.dst (.gd g v) fun env=>ih (k+1) env K)
     |none=>Br g (Ev (X8 P T m (sel env (tmpsOf o.op)) o fun v=>J7 env o.dst v fun env=>ih (k+1) env K)) (Ev (J7 env o.dst (.gd false (.d (.bool false))) fun env=>ih (k+1) env K))) ops
theorem Qgh (P:Program)(T:Tab)(full:List Oper)(m:Mem)(eff:Nat->Bool)(res:Nat->AV)(o:Oper)(rest:List Oper)(k:Nat)(env:Env)(K:Env->Prop):vcE P T full m eff res (o::rest) k env K=match eff k with
  |true=>J7 env o.dst (res k) fun env=>vcE P T full m eff res rest (k+1) env K
  | false=>match o.guard with
   |none=>X8 P T m (sel env (tmpsOf o.op)) o fun v=>J7 env o.dst v fun env=>vcE P T full m eff res rest (k+1) env K
   | some (j,want)=>match guardOf full (sel env (Yb full (some (j,want)))) j want with
    |none=>False
    |some g=>match Xi T (sel env (tmpsOf o.op)) m o.op with
     |some (v,l)=>obs (under g l) (frc v fun v=>J7 env o.dst (.gd g v) fun env=>vcE P T full m eff res rest (k+1) env K)
     |none=>Br g (Ev (X8 P T m (sel env (tmpsOf o.op)) o fun v=>J7 env o.dst v fun env=>vcE P T full m eff res rest (k+1) env K)) (Ev (J7 env o.dst (.gd false (.d (.bool false))) fun env=>vcE P T full m eff res rest (k+1) env K)):=rfl
section
variable {P:Program}{T:Tab}{m:Mem}
variable {ro:Option Nat}
theorem Q4u (hT:Qb P T){full:List Oper}{eff:Nat->Bool}{res:Nat->AV}{K:Env->Prop}:∀(rest:List Oper) (k0:Nat) (env:Env),vcE P T full m eff res rest k0 env K ->
  ∃As:Nat->AV,K (Qi env rest As rest.length)/\(∀k,k<rest.length->eff (k0+k)=true->As k=res (k0+k))/\∀(k:Nat) o,rest[k]?=some o->eff (k0+k)=false->∀σ:Pls,Ui P m σ full o (Qi env rest As k) (As k)
 |[],k0,env,h=>⟨fun _=>.junk,h,fun k hk=>by simp at hk,fun k o ho=>by simp at ho⟩
 | o :: r,k0,env,h=>by
  have key:∃A,vcE P T full m eff res r (k0+1) (Vy o A env) K/\(eff k0=true->A=res k0)/\(eff k0=false->∀σ:Pls,Ui P m σ full o env A):=by
   rw[Qgh]at h
   have hs1:∀t∈tmpsOf o.op,t∈Zs full o:=fun t ht=>Yu.2 (.inl ht)
   cases he:eff k0 with
   |true =>
    rw[he]at h
    exact⟨_,Xt h,fun _=>rfl,fun h=>by cases h⟩
   |false =>
   rw[he]at h
   simp only at h
   split at h
   .rename_i hg
    obtain⟨A,hK,hD⟩:=I1 hT h
    refine⟨A,Xt hK,fun h=>(by cases h),fun _ σ F w a hm he=>⟨fun _=>hD σ F w a hm (Vl fun t ht=>he t (hs1 t ht)),fun hw=>?_⟩⟩
    simp[Region.wanted,hg]at hw
   .rename_i j want hg
    have hs2:∀t∈Yb full (some (j,want)),t∈Zs full o:=fun t ht=>Yu.2 (.inr (by rw[hg];exact ht))
    split at h<;>try (cases h;done)
    rename_i g hgo
    have hw:∀(σ:Pls) (F:Nat->Prop) (w:World) (a:Act),(∀t∈Zs full o,Vc w F σ (get env t) (a.tmps.getD t undef))->Region.wanted o (yielded full.toArray a.tmps)=g:=fun σ F w a he=>by
     simp only[Region.wanted,hg]
     exact Hv (Vl fun t ht=>he t (hs2 t ht)) hgo
    split at h
    .rename_i v l hr
     obtain⟨hl,h⟩:=Zw h
     rw[Ya]at h
     refine⟨.gd g v,Xt h,fun h=>(by cases h),fun _ σ F w a hm he=>?_⟩
     rw[hw σ F w a he]
     refine⟨fun hgt=>?_,fun hgf w F=>.gd (fun h=>by rw[hgf]at h;cases h) fun _=>rfl⟩
     exact V7.mono (fun w F u hu=>.gd (fun _=>hu) fun h=>by rw[hgt]at h;cases h) (Nl hT hr (Bc hl hgt) F w a hm (Vl fun t ht=>he t (hs1 t ht)))
    .cases g with
     |true =>
      obtain⟨A,hK,hD⟩:=I1 hT (h.t rfl).o
      refine⟨A,Xt hK,fun h=>(by cases h),fun _ σ F w a hm he=>⟨fun _=>hD σ F w a hm (Vl fun t ht=>he t (hs1 t ht)),fun hwf=>?_⟩⟩
      rw[hw σ F w a he]at hwf
      cases hwf
     |false =>
      refine⟨_,Xt (h.f rfl).o,fun h=>(by cases h),fun _ σ F w a hm he=>⟨fun hwt=>?_,fun _ w F=>.gd (fun h=>by cases h) fun _=>rfl⟩⟩
      rw[hw σ F w a he]at hwt
      cases hwt
  obtain⟨A,hr,hA,hD⟩:=key
  obtain⟨As,hK,hAe,hAs⟩:=Q4u hT r (k0+1) _ hr
  refine⟨Pj A As,?_,fun k hk he=>?_,fun k o' ho he=>?_⟩
  .rw[Qhs,Kw]
   exact hK
  .cases k with
   |zero=>exact hA he
   |succ k =>
    have:=hAe k (by simpa using hk) (by rw[<-he];congr 1;omega)
    show As k=_
    rw[this]
    congr 1
    omega
  .cases k with
   |zero=>simp at ho;subst ho;exact hD he
   |succ k =>
    rw[Kw]
    exact hAs k o' (by simpa using ho) (by rw[<-he];congr 1;omega)
theorem Pt {id N:Nat} {ops:Array Oper} {F:Nat→Prop} {w:World} {a:Act} {env:Env} {σ:Pls} {K:Env→Prop} {Q:Exit→Act→World→Prop} {eff:Nat→Bool} {res:Nat→AV}
  (h1:P.follows .mixedOrders=true) (h2:okR ops.toList=true) (hT:Qb P T) (hd:Jb N ops.toList=true) (h:vcE P T ops.toList m eff res ops.toList 0 env K) (hN:a.tmps.size=N) (he:Ql env w F σ a.tmps)
  (R:Array Bool->Act->World->(Nat->Prop)->Pls->Prop) (hRm:∀listed a' w' F' σ' (i:Nat),i<ops.size->eff i=false->listed.getD i true=false->R listed a' w' F' σ'->Q3 m σ' F' w')
  (hR0:R (Array.replicate ops.size false) a {w with drawn:=w.drawn+1} F σ)
  (hRq:∀listed a' w' F' σ' F2 w2 v (i:Nat) o,R listed a' w' F' σ'->Qn F' w' F2 w2->eff i=false->ops[i]?=some o->listed.size=ops.size->a'.tmps.size=N->R (listed.setIfInBounds i true) (a'.put o.dst v) w2 F2 σ')
  (hRe:∀ As listed a' w' F' σ' (i:Nat) o,(∀ (j:Nat) o d,ops[j]?=some o→o.dst=some d→get (Qi env ops.toList As ops.size) d=As j)→K (Qi env ops.toList As ops.size)→(∀ (j:Nat),j < ops.size→eff j=true→As j=res j)→eff i=true→ops[i]?=some o→listed.getD i true=false→(∀ e∈o.after,Region.binds .any e=true→listed.getD e.on true=true)→(∀ (j:Nat) o,ops[j]?=some o→listed.getD j true=true→∀ e∈o.after,Region.binds .any e=true→listed.getD e.on true=true)→listed.size=ops.size→a'.tmps.size=N→a'.defers=a.defers→Uj ops ops.size env σ' As listed F' w' a'.tmps→R listed a' w' F' σ' →
   ∀next:Act->World->Prop,(∀v w2 F2 σ2,(∀A u,Vc w' F' σ' A u->Vc w2 F2 σ2 A u)->Vc w2 F2 σ2 (res i) v->R (listed.setIfInBounds i true) (a'.put o.dst v) w2 F2 σ2->next (a'.put o.dst v) w2)->wpOpIn (Fen ro) 0 P ops Q i next a' w')
  (hQ:∀env' a' w' F' σ',K env'->a'.tmps.size=N->a'.defers=a.defers->Ql env' w' F' σ' a'.tmps->(∀listed,(∀i,i<ops.size->listed.getD i true=true)->R listed a' w' F' σ'->Q .normal a' w')):(Code.region id ops true).wpIn (Fen ro) 0 P Q a w:=by
 obtain⟨As,hK,hAe,hD0⟩:=Q4u hT ops.toList 0 env h
 have hO:∀(i:Nat) o,ops[i]?=some o->Hk ops.toList i o:=fun i o ho=>by
  have:=Gz h2 i o (by rw[Qh2];exact ho)
  rwa [Qh9]at this
 have hdst:∀(i:Nat) o d,ops[i]?=some o->o.dst=some d->d<N:=by
  have:∀(l:List Oper),Jb N l=true->∀(i:Nat) o d,l[i]?=some o->o.dst=some d->d<N:=by
   intro l
   induction l with
   |nil=>intro _ i o d ho;simp at ho
   | cons x r ih =>
    intro hl i o d ho hdo
    simp only[Jb,Qh5]at hl
    cases i with
    |zero =>
     simp at ho
     subst ho
     have:=hl.1
     rw[hdo]at this
     exact Qhf this
    |succ i=>exact ih hl.2 i o d (by simpa using ho) hdo
  exact fun i o d ho hdo=>this ops.toList hd i o d (by rw[Qh2];exact ho) hdo
 have hsize:ops.toList.length=ops.size:=Qhg
 have hEd:∀(i:Nat) o d,ops[i]?=some o->o.dst=some d->∀k,i<k->k<=ops.toList.length->get (Qi env ops.toList As k) d=As i:=by
  intro i o d ho hdo k hk hkn
  have hol:ops.toList[i]?=some o:=by rw[Qh2];exact ho
  rw[Xb (i:=i+1) k Om (fun j o' h3 h4 ho' hd'=>by
    have:=(hO i o ho).once d hdo j o' ho' hd'
    omega)]
  rw[Qi,hol]
  exact L5 hdo
 have hE0:∀t k,k<=ops.toList.length->(∀(j:Nat) o,ops[j]?=some o->o.dst=some t->k<=j)->get (Qi env ops.toList As k) t=get env t:=fun t k hk hno =>
  Xb (i:=0) k (Qh3 _) (fun j o _ hj ho hdo=>by
   rw[Qh2]at ho
   have:=hno j o ho hdo
   omega)
 rw[hsize]at hK
 have hEd':∀(j:Nat) o d,ops[j]?=some o->o.dst=some d->get (Qi env ops.toList As ops.size) d=As j:=fun j o d ho hdo=>hEd j o d ho hdo _ (Qh4.1 ho).1 Om
 let Inv:Array Bool->Act->World->Prop:=fun listed a' w'=>a'.tmps.size=N/\a'.defers=a.defers/\(∀(j:Nat) o,ops[j]?=some o->listed.getD j true=true->∀e∈o.after,Region.binds .any e=true->listed.getD e.on true=true) /\
  ∃F' σ',Uj ops ops.size env σ' As listed F' w' a'.tmps/\R listed a' w' F' σ'
 have done:∀(fuel:Nat) (listed:Array Bool) (a':Act) (w':World),listed.size=ops.size->(∀i,i<ops.size->listed.getD i true=true)->Q .normal a' w'->wpAnyIn (Fen ro) 0 P .any ops Q fuel listed a' w':=by
  intro fuel listed a' w' hls hall hq
  have hnil:Region.ready .any ops listed=[]:=List.eq_nil_iff_forall_not_mem.2 fun i hi=>by
   obtain⟨g1,o,ho,_⟩:=mem_ready.1 hi
   rw[hall i (Qh4.1 ho).1]at g1
   cases g1
  cases fuel with
  |zero=>exact⟨hnil,hq⟩
  |succ fuel=>exact⟨fun _=>hq,fun i hi=>by rw[hnil]at hi;cases hi⟩
 have fin:∀(listed:Array Bool) (a':Act) (w':World),(∀i,i<ops.size->listed.getD i true=true)->Inv listed a' w'->Q .normal a' w':=by
  rintro listed a' w' hall ⟨i1,i2,ic,F',σ',i4,i5⟩
  refine hQ _ a' w' F' σ' hK i1 i2 (fun t=>?_) listed hall i5
  by_cases hex:∃(j:Nat) (o:Oper),ops[j]?=some o/\o.dst=some t
  .obtain⟨j,o,ho,hdo⟩:=hex
   have hj:=(Qh4.1 ho).1
   rw[hEd' j o t ho hdo]
   exact(i4 t).1 j o hj ho hdo (hall j hj)
  .rw[hE0 t _ Om (fun j o ho hdo=>absurd ⟨j,o,ho,hdo⟩ hex)]
   exact(i4 t).2 fun j o ho hdo=>absurd ⟨j,o,ho,hdo⟩ hex
 have main:∀ (fuel:Nat) (listed:Array Bool) (a':Act) (w':World),listed.size=ops.size→unl listed.toList≤fuel→Inv listed a' w'→wpAnyIn (Fen ro) 0 P .any ops Q fuel listed a' w':=by
  intro fuel
  induction fuel with
  | zero =>
   intro listed a' w' hls hun hI
   have hall:∀i,i<ops.size->listed.getD i true=true:=fun i hi=>by
    rw[Qu]
    cases hb:listed.toList[i]? with
    |none=>rfl
    |some b=>exact Lv Om i b hb
   exact done 0 listed a' w' hls hall (fin listed a' w' hall hI)
  | succ fuel ih =>
   intro listed a' w' hls hun hI
   refine⟨fun hnil=>?_,fun i hi=>?_⟩
   .have hall:∀i,i<ops.size->listed.getD i true=true:=by
     intro i
     induction i using Nat.strongRecOn with
     | _ i ihi =>
      intro hi
      cases hb:listed.getD i true with
      |true=>rfl
      | false =>
       exfalso
       have ho:ops[i]?=some ops[i]:=Array.getElem?_eq_getElem hi
       have:i∈Region.ready .any ops listed:=mem_ready.2 ⟨hb,_,ho,fun e he hbe=>by
        have hlt:=(hO i _ ho).back e he hbe
        have:=ihi e.on hlt Om
        rw[Qu]at this⊢
        have hin:e.on<listed.toList.length:=by rw[Qhg,hls];omega
        rw[Qgy hin]at this⊢
        exact this⟩
       rw[hnil]at this
       cases this
    exact fin listed a' w' hall hI
   .obtain⟨g1,o,ho,g2⟩:=mem_ready.1 hi
    have hin:i<ops.size:=(Qh4.1 ho).1
    have hoi:=hO i o ho
    obtain⟨i1,i2,ic,F',σ',i4,i5⟩:=hI
    have toT:∀j,j<ops.size->listed.getD j false=true->listed.getD j true=true:=fun j hj h=>by
     rw[Qu]at h⊢
     have hin2:j<listed.toList.length:=by rw[Qhg,hls];omega
     rw[Qgy hin2]at h⊢
     exact h
    have hlist:listed.toList[i]?=some false:=by
     rw[Qu]at g1
     cases hb:listed.toList[i]? with
     |none=>rw[hb]at g1;cases g1
     |some b=>rw[hb]at g1;simp at g1;rw[g1]
    have hset:∀j,j≠i->(listed.setIfInBounds i true).getD j true=listed.getD j true:=fun j hne=>by
     rw[Qu,Qhi,List.getElem?_set_ne (fun e=>hne e.symm),<-Qu]
    have hsetm:∀j,listed.getD j true=true->(listed.setIfInBounds i true).getD j true=true:=fun j h=>by
     by_cases e:j=i
     .subst e;rw[h]at g1;cases g1
     .rw[hset j e];exact h
    have hseti:(listed.setIfInBounds i true).getD i true=true:=by
     rw[Qu,Qhi,List.getElem?_set_self (by rw[Qhg,hls];exact hin)]
     rfl
    have hclosed:∀(j:Nat) o,ops[j]?=some o->(listed.setIfInBounds i true).getD j true=true->∀e∈o.after,Region.binds .any e=true->(listed.setIfInBounds i true).getD e.on true=true:=fun j o' ho' hj e he hb=>by
     by_cases hji:j=i
     .subst hji
      rw[ho]at ho'
      cases ho'
      have hlt:=hoi.back e he hb
      exact hsetm _ (toT _ Om (g2 e he hb))
     .rw[hset j hji]at hj
      exact hsetm _ (ic j o' ho' hj e he hb)
    have hun':unl (listed.setIfInBounds i true).toList<=fuel:=by
     have:=Kd hlist
     rw[Qhi]
     omega
    have putv:∀(v:Value) t,o.dst≠some t->(a'.put o.dst v).tmps.getD t undef=a'.tmps.getD t undef:=fun v t hdt=>by
     cases hdo:o.dst with
     |none=>rfl
     |some d =>
      simp only[Act.put,Qhk]
      rw[Array.getElem?_setIfInBounds_ne (fun e=>hdt (by rw[hdo,e]))]
    have puts:∀(v:Value) t,o.dst=some t->(a'.put o.dst v).tmps.getD t undef=v:=fun v t hdt=>by
     have hdN:=hdst i o t ho hdt
     rw[hdt]
     simp only[Act.put,Qhk]
     rw[Array.getElem?_setIfInBounds_self_of_lt (by rw[i1];exact hdN)]
     rfl
    have slots2:∀(v:Value) (w2:World) (F2:Nat->Prop) (σ2:Pls),(∀A u,Vc w' F' σ' A u->Vc w2 F2 σ2 A u)->Vc w2 F2 σ2 (As i) v->Uj ops ops.size env σ2 As (listed.setIfInBounds i true) F2 w2 (a'.put o.dst v).tmps:=fun v w2 F2 σ2 mono hv t=>by
     by_cases hdt:o.dst=some t
     .rw[puts v t hdt]
      refine⟨fun j o' hjp ho' hd' _=>?_,fun hno=>?_⟩
      .have:=hoi.once t hdt j o' (by rw[Qh2];exact ho') hd'
       subst this
       exact hv
      .have:=hno i o ho hdt
       rw[hseti]at this
       cases this
     .rw[putv v t hdt]
      have hne:∀(j:Nat) o',ops[j]?=some o'->o'.dst=some t->j≠i:=fun j o' ho' hd' e=>by
       subst e
       rw[ho]at ho'
       cases ho'
       exact hdt hd'
      refine⟨fun j o' hjp ho' hd' hj=>?_,fun hno=>?_⟩
      .rw[hset j (hne j o' ho' hd')]at hj
       exact mono _ _ ((i4 t).1 j o' hjp ho' hd' hj)
      .exact mono _ _ ((i4 t).2 fun j o' ho' hd'=>by
        have:=hno j o' ho' hd'
        rwa [hset j (hne j o' ho' hd')]at this)
    cases hef:eff i with
    |true =>
     refine hRe As listed a' w' F' σ' i o hEd' hK (fun j hj he=>by have:=hAe j Om (by rw[Qh9];exact he);rwa [Qh9]at this) hef ho g1 (fun e he hb=>toT _ (by have:=hoi.back e he hb;omega) (g2 e he hb)) ic hls i1 i2 i4 i5 _ fun v w2 F2 σ2 k1 k2 k3=>?_
     have hAi:=hAe i Om (by rw[Qh9];exact hef)
     rw[Qh9]at hAi
     exact ih _ _ _ (by simp[hls]) hun' ⟨by rw[Y3];exact i1,by rw[put_defers];exact i2,hclosed,F2,σ2,slots2 v w2 F2 σ2 k1 (by rw[hAi];exact k2),k3⟩
    |false =>
    have hmw:=hRm _ _ _ _ _ i hin hef g1 i5
    have hslots:∀ t∈Zs ops.toList o,Vc w' F' σ' (get (Qi env ops.toList As i) t) (a'.tmps.getD t undef):=fun t ht=>by
     by_cases hex:∃(j:Nat) (o':Oper),ops[j]?=some o'/\o'.dst=some t
     .obtain⟨j,o',ho',hdo'⟩:=hex
      have hj:j<ops.size:=(Qh4.1 ho').1
      have honce:∀(j2:Nat) o2,ops[j2]?=some o2->o2.dst=some t->j2=j:=fun j2 o2 h3 h4=>(hO j o' ho').once t hdo' j2 o2 (by rw[Qh2];exact h3) h4
      rcases hoi.defs t ht j o' (by rw[Qh2];exact ho') hdo' with ⟨hji,e,hee,heon,heb⟩|⟨hij,hcase⟩
      .rw[hEd j o' t ho' hdo' i hji Om]
       refine(i4 t).1 j o' hj ho' hdo' ?_
       have:=g2 e hee heb
       rw[heon]at this
       exact toT j hj this
      .rw[hE0 t i Om (fun j2 o2 h3 h4=>by rw[honce j2 o2 h3 h4];exact hij)]
       refine(i4 t).2 fun j2 o2 h3 h4=>?_
       have hj2:=honce j2 o2 h3 h4
       subst hj2
       rcases hcase with rfl|⟨e,hee,heon,heb⟩
       .exact g1
       .cases hb:listed.getD j2 true with
        |false=>rfl
        |true =>
         have:=ic j2 o' ho' hb e hee heb
         rw[heon,g1]at this
         cases this
     .rw[hE0 t i Om (fun j2 o2 h3 h4=>absurd ⟨j2,o2,h3,h4⟩ hex)]
      exact(i4 t).2 fun j2 o2 h3 h4=>absurd ⟨j2,o2,h3,h4⟩ hex
    have hdoes:=hD0 i o (by rw[Qh2];exact ho) (by rw[Qh9];exact hef) σ' F' w' a' hmw hslots
    have hy:ops.toList.toArray=ops:=Qi2
    rw[hy]at hdoes
    have next:∀(v:Value) (w2:World) (F2:Nat->Prop),Qn F' w' F2 w2->Vc w2 F2 σ' (As i) v->wpAnyIn (Fen ro) 0 P .any ops Q fuel (listed.setIfInBounds i true) (a'.put o.dst v) w2:=by
     intro v w2 F2 hg hv
     exact ih _ _ _ (by simp[hls]) hun' ⟨by rw[Y3];exact i1,by rw[put_defers];exact i2,hclosed,F2,σ',slots2 v w2 F2 σ' (fun A u h=>h.mono hg.fro (fun b hb=>hg.keep b (hmw.fl b hb)) (SLe.refl σ')) hv,hRq listed a' w' F' σ' F2 w2 v i o i5 hg hef ho hls i1⟩
    unfold wpOpIn
    simp only[ho]
    cases hw:Region.wanted o (yielded ops a'.tmps) with
    |false =>
     simp only[Bool.false_eq_true,if_false]
     exact⟨fun _ _=>trivial,next _ _ _ (Qn.refl hmw.fl) (hdoes.2 hw _ _)⟩
    | true =>
     simp only[if_true]
     have h3:=hdoes.1 hw
     have hdef:∀c,o.op≠.defer c:=fun c hc=>by
      simp only[execOp,hc,Sem.run_bind]at h3
      cases hr:(resolve a'.eval c o.type).run P w'<;>simp[hr,Result.andThen,V7]at h3
     refine V5 hdef ?_
     generalize (execOp a'.eval o).run P w'=r at h3
     cases r with
     | ok x w2 =>
      cases x<;>simp only[V7]at h3<;>simp only[Oper.uponIn]
      case value u =>
       obtain⟨F2,k1,k2⟩:=h3
       exact next u w2 F2 k1 k2
      case enter f args =>
       obtain⟨e1,hc⟩:=h3
       rw[e1]
       exact⟨We,Y7.2 (hc.mono fun e w3 ⟨u,F3,he,k1,k2⟩=>by subst he;exact next u w3 F3 k1 k2)⟩
     |halt x w2=>simp only[V7]at h3
 have hrep:∀j,j<ops.size->(Array.replicate ops.size false).getD j true=false:=fun j hj=>by
  rw[Qu,Qi0,Qik,if_pos hj]
  rfl
 refine wpIn_region_any h1 (main ops.size _ a _ (by simp) ?_ ⟨hN,rfl,fun j o ho hj=>?_,F,σ,fun t=>⟨fun j o _ ho _ hj=>?_,fun _=>?_⟩,hR0⟩)
 .have:∀k,unl (List.replicate k false)=k:=fun k=>by
   induction k with
   |zero=>rfl
   |succ k ih=>rw[List.replicate_succ,unl,ih];simp;omega
  rw[Qi0,this]
  exact Qgx _
 .rw[hrep j (Qh4.1 ho).1]at hj
  cases hj
 .rw[hrep j (Qh4.1 ho).1]at hj
  cases hj
 .exact Vc.mono (w:=w) (w':={w with drawn:=w.drawn+1}) (fun _ h=>h) (fun _ _=>rfl) (SLe.refl σ) (he t)
end
end Go.Ab
