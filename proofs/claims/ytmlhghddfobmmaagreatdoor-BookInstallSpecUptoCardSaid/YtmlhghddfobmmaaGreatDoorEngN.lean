import Derived.Test.YtmlhghddfobmmaaGreatDoorEngAA
namespace Go.Ab
set_option linter.unusedSimpArgs false
set_option linter.unusedVariables false
def Bz (i:Nat):Nat->List Oper->Bool
 |_,[]=>false
 |j,o::r=>(Nat.blt i j&&Vi o.after.toList i)||Bz i (j+1) r
def Bx (full:List Oper):Nat->Bool
 |0=>true
 |i+1=>Bz i 0 full&&Bx full i
def Kb:List Oper->Option (List Oper × Oper)
 |[]=>none
 |[o]=>some ([],o)
 |o::r=>match Kb r with
  |some (p,l)=>some (o::p,l)
  |none=>none
def Qaw:Op->Bool
 | .call {callee:=.builtin .copy,..}=>true
 | .store _ _ _=>true
 |_=>false
def Dt:List Oper->Nat
 |[]=>0
 |_::r=>Dt r+1
def noG:Option (Nat × Bool)->Bool
 |none=>true
 |some _=>false
def Dn (full:List Oper):Bool:=match Kb full with
 |some (pre,o)=>Qaw o.op&&(noG o.guard&&Bx full (Dt pre))
 |none=>false
noncomputable def vcL (P:Program)(T:Tab)(full:List Oper)(m:Mem)(env:Env)(K:Env->Mem->Prop):Prop:=match Kb full with
 |some (pre,o)=>vcR P T full m pre env fun env=>Ev (Wd P T o env m K)
 |none=>False
theorem Qbc (l:List Oper):Dt l=l.length:=by
 induction l with
 |nil=>rfl
 |cons o r ih=>simp[Dt,ih]
theorem Q4g:∀{l pre:List Oper} {o:Oper},Kb l=some (pre,o)->l=pre++[o]
 |[],pre,o,h=>by simp[Kb]at h
 |[x],pre,o,h=>by simp[Kb]at h;obtain⟨rfl,rfl⟩:=h;rfl
 |x::y::r,pre,o,h=>by
  simp only[Kb]at h
  split at h<;>try (cases h;done)
  rename_i p l hp
  simp only[Qgz,Qh6]at h
  obtain⟨rfl,rfl⟩:=h
  rw[Q4g hp]
  rfl
theorem Im {i:Nat}:∀{l:List Oper} {k:Nat},Bz i k l=true->∃(j:Nat) (o:Oper),i<k+j/\l[j]?=some o/\∃e∈o.after,e.on=i/\Region.binds .any e=true
 |[],k,h=>by simp[Bz]at h
 | x :: r,k,h=>by
  simp only[Bz,Bool.or_eq_true,Qh5]at h
  rcases h with ⟨h1,h2⟩|h
  .unfold Vi at h2
   obtain⟨e,he,h⟩:=List.any_eq_true.1 h2
   simp only[Qh5]at h
   exact⟨0,x,Qhf h1,rfl,e,Array.mem_toList_iff.1 he,Qh1 h.1,h.2⟩
  .obtain⟨j,o,h1,h2,h3⟩:=Im h
   exact⟨j+1,o,Om,by simpa using h2,h3⟩
theorem Ik {full:List Oper}:∀{n:Nat},Bx full n=true->∀i,i<n->∃(j:Nat) (o:Oper),i<j/\full[j]?=some o/\∃e∈o.after,e.on=i/\Region.binds .any e=true
 |0,_,i,hi=>by omega
 | n + 1,h,i,hi=>by
  simp only[Bx,Qh5]at h
  by_cases e:i=n
  .subst e
   obtain⟨j,o,h1,h2⟩:=Im h.1
   exact⟨j,o,Om,h2⟩
  .exact Ik h.2 i Om
theorem Px (env:Env)(pre post:List Oper)(As:Nat->AV):∀k,k<=pre.length->Qi env (pre++post) As k=Qi env pre As k
 |0,_=>rfl
 |k+1,h=>by
  rw[Qi,Qi,Qhj Om,Px env pre post As k Om]
section
variable {P:Program}{T:Tab}{m:Mem}{σ:Pls}
variable {ro:Option Nat}
theorem Q7m {id N:Nat} {ops:Array Oper} {F:Nat→Prop} {w:World} {a:Act} {env:Env} {K:Env→Mem→Prop} {Q:Exit→Act→World→Prop}
  (h1:P.follows .mixedOrders=true) (h2:okR ops.toList=true) (hT:Qb P T) (hm:Q3 m σ F w) (hd:Jb N ops.toList=true) {pre:List Oper} {oL:Oper} (hsp:ops.toList=pre++[oL]) (hgL:oL.guard=none) (hlat:Bx ops.toList pre.length=true) (h:vcR P T ops.toList m pre env fun env=>Ev (Wd P T oL env m K)) (hN:a.tmps.size=N) (he:Ql env w F σ a.tmps)
  (hQ:∀env' m' a' w' σ' F',K env' m'->a'.tmps.size=N->a'.defers=a.defers->Ql env' w' F' σ' a'.tmps->Q3 m' σ' F' w'->Step σ F w σ' F' w'->SLe σ σ'->Q .normal a' w'):(Code.region id ops true).wpIn (Fen ro) 0 P Q a w:=by
 obtain⟨As,hK,hD0⟩:=Cc (σ:=σ) hT pre env h
 have hpl:∀(k:Nat) o,k<pre.length->ops[k]?=some o->pre[k]?=some o:=fun k o hk ho=>by
  rw[<-Qh2,hsp,Qhj hk]at ho
  exact ho
 have hEp:∀k,k<=pre.length->Qi env ops.toList As k=Qi env pre As k:=fun k hk=>by
  rw[hsp]
  exact Px env pre [oL] As k hk
 have hlen:ops.toList.length=pre.length+1:=by rw[hsp];simp
 have hLast:ops[pre.length]?=some oL:=by rw[<-Qh2,hsp];simp
 have hD:∀(k:Nat) o,k<pre.length->ops[k]?=some o->Ui P m σ ops.toList o (Qi env ops.toList As k) (As k):=fun k o hk ho=>by
  rw[hEp k Om]
  exact hD0 k o (hpl k o hk ho)
 have hO:∀(i:Nat) o,ops[i]?=some o->Hk ops.toList i o:=fun i o ho=>by
  have:=Gz h2 i o (by rw[Qh2];exact ho)
  rwa [Qh9]at this
 have hdst:∀(i:Nat) o d,ops[i]?=some o->o.dst=some d->d<N:=by
  have:∀(l:List Oper),Jb N l=true->∀(i:Nat) o d,l[i]?=some o->o.dst=some d->d<N:=by
   intro l
   induction l with
   |nil=>intro _ i o d ho;simp at ho
   | cons x r ih =>
    intro hl i o d ho hdo
    simp only[Jb,Qh5]at hl
    cases i with
    |zero =>
     simp at ho
     subst ho
     have:=hl.1
     rw[hdo]at this
     exact Qhf this
    |succ i=>exact ih hl.2 i o d (by simpa using ho) hdo
  exact fun i o d ho hdo=>this ops.toList hd i o d (by rw[Qh2];exact ho) hdo
 rw[<-hEp pre.length (Qgx _)]at hK
 generalize hE:Qi env ops.toList As pre.length=E at hK
 have hsize:ops.toList.length=ops.size:=Qhg
 have hEd:∀(i:Nat) o d,ops[i]?=some o->o.dst=some d->∀k,i<k->k<=ops.toList.length->get (Qi env ops.toList As k) d=As i:=by
  intro i o d ho hdo k hk hkn
  have hol:ops.toList[i]?=some o:=by rw[Qh2];exact ho
  rw[Xb (i:=i+1) k Om (fun j o' h3 h4 ho' hd'=>by
    have:=(hO i o ho).once d hdo j o' ho' hd'
    omega)]
  rw[Qi,hol]
  exact L5 hdo
 have hE0:∀t k,k<=ops.toList.length->(∀(j:Nat) o,ops[j]?=some o->o.dst=some t->k<=j)->get (Qi env ops.toList As k) t=get env t:=fun t k hk hno =>
  Xb (i:=0) k (Qh3 _) (fun j o _ hj ho hdo=>by
   rw[Qh2]at ho
   have:=hno j o ho hdo
   omega)
 let Inv:Array Bool->Act->World->Prop:=fun listed a' w'=>listed.getD pre.length true=false/\a'.tmps.size=N/\a'.defers=a.defers/\(∀(j:Nat) o,ops[j]?=some o->listed.getD j true=true->∀e∈o.after,Region.binds .any e=true->listed.getD e.on true=true) /\
  ∃F',Qn F w F' w'/\∀t,(∀(j:Nat) o,ops[j]?=some o->o.dst=some t->listed.getD j true=true->Vc w' F' σ (As j) (a'.tmps.getD t undef)) /\
   ((∀(j:Nat) o,ops[j]?=some o->o.dst=some t->listed.getD j true=false)->Vc w' F' σ (get env t) (a'.tmps.getD t undef))
 have done:∀(fuel:Nat) (listed:Array Bool) (a':Act) (w':World),listed.size=ops.size->(∀i,i<ops.size->listed.getD i true=true)->Q .normal a' w'->wpAnyIn (Fen ro) 0 P .any ops Q fuel listed a' w':=by
  intro fuel listed a' w' hls hall hq
  have hnil:Region.ready .any ops listed=[]:=List.eq_nil_iff_forall_not_mem.2 fun i hi=>by
   obtain⟨g1,o,ho,_⟩:=mem_ready.1 hi
   rw[hall i (Qh4.1 ho).1]at g1
   cases g1
  cases fuel with
  |zero=>exact⟨hnil,hq⟩
  |succ fuel=>exact⟨fun _=>hq,fun i hi=>by rw[hnil]at hi;cases hi⟩
 have hLater:∀i,i<pre.length->∃j o,i<j/\ops[j]?=some o/\∃e∈o.after,e.on=i/\Region.binds .any e=true:=fun i hi=>by
  obtain⟨j,o,h1,h2,h3⟩:=Ik hlat i hi
  exact⟨j,o,h1,by rw[<-Qh2];exact h2,h3⟩
 have main:∀ (fuel:Nat) (listed:Array Bool) (a':Act) (w':World),listed.size=ops.size→unl listed.toList≤fuel→Inv listed a' w'→wpAnyIn (Fen ro) 0 P .any ops Q fuel listed a' w':=by
  intro fuel
  induction fuel with
  | zero =>
   intro listed a' w' hls hun hI
   have hall:∀i,i<ops.size->listed.getD i true=true:=fun i hi=>by
    rw[Qu]
    cases hb:listed.toList[i]? with
    |none=>rfl
    |some b=>exact Lv Om i b hb
   have:=hall pre.length Om
   rw[hI.1]at this
   cases this
  | succ fuel ih =>
   intro listed a' w' hls hun hI
   refine⟨fun hnil=>?_,fun i hi=>?_⟩
   .exfalso
    have hall:∀i,i<ops.size->listed.getD i true=true:=by
     intro i
     induction i using Nat.strongRecOn with
     | _ i ihi =>
      intro hi
      cases hb:listed.getD i true with
      |true=>rfl
      | false =>
       exfalso
       have ho:ops[i]?=some ops[i]:=Array.getElem?_eq_getElem hi
       have:i∈Region.ready .any ops listed:=mem_ready.2 ⟨hb,_,ho,fun e he hbe=>by
        have hlt:=(hO i _ ho).back e he hbe
        have:=ihi e.on hlt Om
        rw[Qu]at this⊢
        have hin:e.on<listed.toList.length:=by rw[Qhg,hls];omega
        rw[Qgy hin]at this⊢
        exact this⟩
       rw[hnil]at this
       cases this
    have:=hall pre.length Om
    rw[hI.1]at this
    cases this
   .obtain⟨g1,o,ho,g2⟩:=mem_ready.1 hi
    have hin:i<ops.size:=(Qh4.1 ho).1
    have hoi:=hO i o ho
    obtain⟨i0,i1,i2,ic,F',i3,i4⟩:=hI
    have hmw:Q3 m σ F' w':=i3.mem hm
    have toT:∀j,j<ops.size->listed.getD j false=true->listed.getD j true=true:=fun j hj h=>by
     rw[Qu]at h⊢
     have hin2:j<listed.toList.length:=by rw[Qhg,hls];omega
     rw[Qgy hin2]at h⊢
     exact h
    by_cases hiL:i=pre.length
    .subst hiL
     rw[hLast]at ho
     cases ho
     have hall:∀k,k<pre.length->listed.getD k true=true:=by
      have:∀d k,k<pre.length->pre.length-k<=d->listed.getD k true=true:=by
       intro d
       induction d with
       |zero=>intro k hk hd;omega
       | succ d ihd =>
        intro k hk hd
        obtain⟨j,o2,h3,h4,e,h5,h6,h7⟩:=hLater k hk
        have hj:j<ops.size:=(Qh4.1 h4).1
        by_cases hjL:j=pre.length
        .subst hjL
         rw[hLast]at h4
         cases h4
         have:=g2 e h5 h7
         rw[h6]at this
         exact toT k Om this
        .have:=ic j o2 h4 (ihd j Om Om) e h5 h7
         rw[h6]at this
         exact this
      exact fun k hk=>this pre.length k hk Om
     have he':Ql E w' F' σ a'.tmps:=fun t=>by
      by_cases hex:∃(j:Nat) (o:Oper),j<pre.length/\ops[j]?=some o/\o.dst=some t
      .obtain⟨j,o,hj,ho,hdo⟩:=hex
       rw[<-hE,hEd j o t ho hdo _ hj Om]
       exact(i4 t).1 j o ho hdo (hall j hj)
      .rw[<-hE,hE0 t _ Om (fun j o ho hdo=>by
        rcases Qi6 j pre.length with h|h
        .exact absurd ⟨j,o,h,ho,hdo⟩ hex
        .exact h)]
       exact(i4 t).2 fun j o ho hdo=>by
        rcases Qi6 j pre.length with h|h
        .exact absurd ⟨j,o,h,ho,hdo⟩ hex
        .have hj:j<ops.size:=(Qh4.1 ho).1
         rw[show j=pre.length by omega]
         exact i0
     have hw:Region.wanted oL (yielded ops a'.tmps)=true:=by simp[Region.wanted,hgL]
     unfold wpOpIn
     simp only[hLast,hw,if_true]
     refine Kh hT hK.o (N:=N) ?_ i1 he' hmw fun env' m' v w2 σ' F2 k1 k2 k3 k4 k5=>?_
     .cases hdo:oL.dst with
      |none=>rfl
      |some d=>exact Nat.ble_eq_true_of_le (hdst _ _ d hLast hdo)
     refine done fuel _ _ _ (by simp[hls]) (fun k hk=>?_) (hQ env' m' _ w2 σ' F2 k1 (by rw[Y3];exact i1) (by rw[put_defers];exact i2) k2 k3 ((i3.step σ).trans k4) k5)
     by_cases hkL:k=pre.length
     .subst hkL
      rw[Qu,Qhi,List.getElem?_set_self (show pre.length<listed.toList.length by rw[show listed.toList.length=ops.size from Qhg.trans hls];exact hk)]
      rfl
     .rw[Qu,Qhi,List.getElem?_set_ne (fun e=>hkL e.symm),<-Qu]
      exact hall k Om
    have hiP:i<pre.length:=by omega
    have hslots:∀ t∈Zs ops.toList o,Vc w' F' σ (get (Qi env ops.toList As i) t) (a'.tmps.getD t undef):=fun t ht=>by
     by_cases hex:∃(j:Nat) (o':Oper),ops[j]?=some o'/\o'.dst=some t
     .obtain⟨j,o',ho',hdo'⟩:=hex
      have hj:j<ops.size:=(Qh4.1 ho').1
      have honce:∀(j2:Nat) o2,ops[j2]?=some o2->o2.dst=some t->j2=j:=fun j2 o2 h3 h4=>(hO j o' ho').once t hdo' j2 o2 (by rw[Qh2];exact h3) h4
      rcases hoi.defs t ht j o' (by rw[Qh2];exact ho') hdo' with ⟨hji,e,hee,heon,heb⟩|⟨hij,hcase⟩
      .rw[hEd j o' t ho' hdo' i hji Om]
       refine(i4 t).1 j o' ho' hdo' ?_
       have:=g2 e hee heb
       rw[heon]at this
       exact toT j hj this
      .rw[hE0 t i Om (fun j2 o2 h3 h4=>by rw[honce j2 o2 h3 h4];exact hij)]
       refine(i4 t).2 fun j2 o2 h3 h4=>?_
       have hj2:=honce j2 o2 h3 h4
       subst hj2
       rcases hcase with rfl|⟨e,hee,heon,heb⟩
       .exact g1
       .cases hb:listed.getD j2 true with
        |false=>rfl
        |true =>
         have:=ic j2 o' ho' hb e hee heb
         rw[heon,g1]at this
         cases this
     .rw[hE0 t i Om (fun j2 o2 h3 h4=>absurd ⟨j2,o2,h3,h4⟩ hex)]
      exact(i4 t).2 fun j2 o2 h3 h4=>absurd ⟨j2,o2,h3,h4⟩ hex
    have hdoes:=hD i o hiP ho F' w' a' hmw hslots
    have hy:ops.toList.toArray=ops:=Qi2
    rw[hy]at hdoes
    have hlist:listed.toList[i]?=some false:=by
     rw[Qu]at g1
     cases hb:listed.toList[i]? with
     |none=>rw[hb]at g1;cases g1
     |some b=>rw[hb]at g1;simp at g1;rw[g1]
    have next:∀ (v:Value) (w2:World) (F2:Nat→Prop),Qn F' w' F2 w2→Vc w2 F2 σ (As i) v→wpAnyIn (Fen ro) 0 P .any ops Q fuel (listed.setIfInBounds i true) (a'.put o.dst v) w2:=by
     intro v w2 F2 hg hv
     have hset:∀j,j≠i->(listed.setIfInBounds i true).getD j true=listed.getD j true:=fun j hne=>by
      rw[Qu,Qhi,List.getElem?_set_ne (fun e=>hne e.symm),<-Qu]
     have hsetm:∀j,listed.getD j true=true->(listed.setIfInBounds i true).getD j true=true:=fun j h=>by
      by_cases e:j=i
      .subst e;rw[h]at g1;cases g1
      .rw[hset j e];exact h
     have hseti:(listed.setIfInBounds i true).getD i true=true:=by
      rw[Qu,Qhi,List.getElem?_set_self (by rw[Qhg,hls];exact hin)]
      rfl
     refine ih _ _ _ (by simp[hls]) ?_ ⟨by rw[hset _ (fun e=>hiL e.symm)];exact i0,by rw[Y3];exact i1,by rw[put_defers];exact i2,fun j o' ho' hj e he hb=>?_,F2,i3.trans hg,fun t=>?_⟩
     .have:=Kd hlist
      rw[Qhi]
      omega
     .by_cases hji:j=i
      .subst hji
       rw[ho]at ho'
       cases ho'
       have hlt:=hoi.back e he hb
       exact hsetm _ (toT _ Om (g2 e he hb))
      .rw[hset j hji]at hj
       exact hsetm _ (ic j o' ho' hj e he hb)
     .have mono:∀{A u},Vc w' F' σ A u->Vc w2 F2 σ A u:=fun h=>h.mono hg.fro (fun b hb=>hg.keep b (i3.lt b hb)) (SLe.refl σ)
      by_cases hdt:o.dst=some t
      .have hdN:=hdst i o t ho hdt
       have hval:(a'.put o.dst v).tmps.getD t undef=v:=by
        rw[hdt]
        simp only[Act.put,Qhk]
        rw[Array.getElem?_setIfInBounds_self_of_lt (by rw[i1];exact hdN)]
        rfl
       rw[hval]
       refine⟨fun j o' ho' hd' _=>?_,fun hno=>?_⟩
       .have:=hoi.once t hdt j o' (by rw[Qh2];exact ho') hd'
        subst this
        exact hv
       .have:=hno i o ho hdt
        rw[hseti]at this
        cases this
      .have hval:(a'.put o.dst v).tmps.getD t undef=a'.tmps.getD t undef:=by
        cases hdo:o.dst with
        |none=>rfl
        |some d =>
         simp only[Act.put,Qhk]
         rw[Array.getElem?_setIfInBounds_ne (fun e=>hdt (by rw[hdo,e]))]
       rw[hval]
       have hne:∀(j:Nat) o',ops[j]?=some o'->o'.dst=some t->j≠i:=fun j o' ho' hd' e=>by
        subst e
        rw[ho]at ho'
        cases ho'
        exact hdt hd'
       refine⟨fun j o' ho' hd' hj=>?_,fun hno=>?_⟩
       .rw[hset j (hne j o' ho' hd')]at hj
        exact mono ((i4 t).1 j o' ho' hd' hj)
       .exact mono ((i4 t).2 fun j o' ho' hd'=>by
         have:=hno j o' ho' hd'
         rwa [hset j (hne j o' ho' hd')]at this)
    unfold wpOpIn
    simp only[ho]
    cases hw:Region.wanted o (yielded ops a'.tmps) with
    |false =>
     simp only[Bool.false_eq_true,if_false]
     exact⟨fun _ _=>trivial,next _ _ _ (Qn.refl hmw.fl) (hdoes.2 hw _ _)⟩
    | true =>
     simp only[if_true]
     have h3:=hdoes.1 hw
     have hdef:∀c,o.op≠.defer c:=fun c hc=>by
      simp only[execOp,hc,Sem.run_bind]at h3
      cases hr:(resolve a'.eval c o.type).run P w'<;>simp[hr,Result.andThen,V7]at h3
     refine V5 hdef ?_
     generalize (execOp a'.eval o).run P w'=r at h3
     cases r with
     | ok x w2 =>
      cases x<;>simp only[V7]at h3<;>simp only[Oper.uponIn]
      case value u =>
       obtain⟨F2,k1,k2⟩:=h3
       exact next u w2 F2 k1 k2
      case enter f args =>
       obtain⟨e1,hc⟩:=h3
       rw[e1]
       exact⟨We,Y7.2 (hc.mono fun e w3 ⟨u,F3,he,k1,k2⟩=>by subst he;exact next u w3 F3 k1 k2)⟩
     |halt x w2=>simp only[V7]at h3
 have hrep:∀j,j<ops.size->(Array.replicate ops.size false).getD j true=false:=fun j hj=>by
  rw[Qu,Qi0,Qik,if_pos hj]
  rfl
 refine wpIn_region_any h1 (main ops.size _ a _ (by simp) ?_ ⟨hrep _ Om,hN,rfl,fun j o ho hj=>?_,F,Qn.drew hm.fl,fun t=>⟨fun j o ho _ hj=>?_,fun _=>?_⟩⟩)
 .have:∀k,unl (List.replicate k false)=k:=fun k=>by
   induction k with
   |zero=>rfl
   |succ k ih=>rw[List.replicate_succ,unl,ih];simp;omega
  rw[Qi0,this]
  exact Qgx _
 .rw[hrep j (Qh4.1 ho).1]at hj
  cases hj
 .rw[hrep j (Qh4.1 ho).1]at hj
  cases hj
 .exact Vc.mono (w:=w) (w':={w with drawn:=w.drawn+1}) (fun _ h=>h) (fun _ _=>rfl) (SLe.refl σ) (he t)
end
inductive Sq (p q:Prop):Prop where
 |go (h:p)
 |alt (h:q)
noncomputable def vc (P:Program)(T:Tab)(N:Nat)(c:Code):Env->Mem->Ja->Prop :=
 Code.rec (motive:=fun _=>Env->Mem->Ja->Prop)
  (fun env m Q=>Q .normal env m)
  (fun _ ops draw env m Q=>bif Jb N ops.toList then match draw with
   |false=>Xw P T ops.toList ops.toList env m fun env m=>Ev (Q .normal env m)
   |true=>Dr (P.follows .mixedOrders=true/\okR ops.toList=true) (Ev (bif Dd ops.toList ops.toList then vcX P T ops.toList m ops.toList 0 env [] fun env=>Ev (Q .normal env m) else bif Dn ops.toList then vcL P T ops.toList m env fun env m=>Ev (Q .normal env m) else vcR P T ops.toList m ops.toList env fun env=>Ev (Q .normal env m)))
  else False)
  (fun _ y ihx ihy env m Q=>ihx env m fun e env m=>match e with
  | .normal=>Sq (Ev (ihy env m Q)) (Awp P N y env m Q)
  | .exit i=>Q (.exit i) env m
  | .goto i=>Q (.goto i) env m
  | .ret=>Q .ret env m
  | .panic ch=>Q (.panic ch) env m
  | .outgrown=>Q .outgrown env m)
  (fun c _ _ ihx ihy env m Q=>match strip (ev env c) with
  |(C,l)=>match C with
   | .d (.bool b)=>obs l (Br b (Ev (ihx env m Q)) (Ev (ihy env m Q)))
   |_=>False)
  (fun id _ ihx env m Q=>ihx env m fun e env m=>match e with
  | .exit i=>bif Nat.beq i id then Q .normal env m else Q (.exit i) env m
  | .normal=>Q .normal env m
  | .goto i=>Q (.goto i) env m
  | .ret=>Q .ret env m
  | .panic ch=>Q (.panic ch) env m
  | .outgrown=>Q .outgrown env m)
  (fun c _ env m Q=>Awp P N (.loop c) env m Q)
  (fun f ps a c _ _ env m Q=>Awp P N (.rangeFunc f ps a c) env m Q)
  (fun id env m Q=>Q (.exit id) env m)
  (fun _ ihx env m Q=>ihx env m fun e env m=>match e with
  | .normal=>Q .normal env m
  | .exit i=>Q (.exit i) env m
  | .goto _=>False
  | .ret=>Q .ret env m
  | .panic ch=>Q (.panic ch) env m
  | .outgrown=>Q .outgrown env m)
  (fun _ env m Q=>Q .normal env m)
  (fun _ _ _ _=>False)
  (fun env m Q=>Q .ret env m)
  (fun _ _ _ _=>False) c
theorem Qgn (P:Program)(T:Tab)(N id:Nat)(ops:Array Oper)(draw:Bool)(env:Env)(m:Mem)(Q:Ja):vc P T N (.region id ops draw) env m Q=bif Jb N ops.toList then match draw with
   |false=>Xw P T ops.toList ops.toList env m fun env m=>Ev (Q .normal env m)
   |true=>Dr (P.follows .mixedOrders=true/\okR ops.toList=true) (Ev (bif Dd ops.toList ops.toList then vcX P T ops.toList m ops.toList 0 env [] fun env=>Ev (Q .normal env m) else bif Dn ops.toList then vcL P T ops.toList m env fun env m=>Ev (Q .normal env m) else vcR P T ops.toList m ops.toList env fun env=>Ev (Q .normal env m)))
  else False:=rfl
theorem Qgm (P:Program)(T:Tab)(N:Nat)(c:Operand)(x y:Code)(env:Env)(m:Mem)(Q:Ja):vc P T N (.cond c x y) env m Q=match strip (ev env c) with
  |(C,l)=>match C with
   | .d (.bool b)=>obs l (Br b (Ev (vc P T N x env m Q)) (Ev (vc P T N y env m Q)))
   |_=>False:=rfl
section sound
variable {P:Program}{T:Tab}
theorem Uw {N:Nat}{Q:Ja}{ro:Option Nat}{lo:Lo}{σ σ':Pls}{F F':Nat->Prop}{w w':World}(hs:Step σ F w σ' F' w')(ha:Zj σ σ'){e:Exit}{a:Act}{w2:World}(h:lift N Q ro lo σ' F' w' e a w2):lift N Q ro lo σ F w e a w2:=by
 obtain⟨env,m,σ2,F2,h1,h2,h3,h4,h5,h6,h7⟩:=h
 exact⟨env,m,σ2,F2,h1,h2,h3,h4,h5,hs.trans h6,ha.trans h7⟩
theorem Mq {P:Program}{b:Frame}{a:Act}{k:List Item}{cs:List Frame}{w:World}{c:Code}:step P (lone (b.atR a (.code (.scope c)::k)) cs w)=.next (lone (b.atR a (.code c :: .inScope c::k)) cs w) :=
 step_lone_go (by simp[stepG,stepG.exec,Frame.atR])
theorem Qft {P:Program}{b:Frame}{a:Act}{k:List Item}{cs:List Frame}{w:World}{c:Code}:step P (lone (b.atR a (.inScope c::k)) cs w)=.next (lone (b.atR a k) cs w) :=
 step_lone_go (by simp[stepG,stepG.exec,Frame.atR])
theorem Qgv {F:Fence}{n:Nat}{P:Program}{Q:Exit->Act->World->Prop}{a:Act}{w:World}{c:Code}(h:c.wpIn F n P (fun e a w=>(∀l,e≠.goto l)/\Q e a w) a w):(Code.scope c).wpIn F n P Q a w:=by
 intro b k cs hro hb hr
 obtain⟨e,a1,w1,⟨hg,hq⟩,harr⟩:=h b (.inScope c::k) cs hro hb hr
 have h0:(lone (b.atR a (.code (.scope c)::k)) cs w).fenced P F:=fenced_calm hb hr rfl
 cases e with
 |normal=>exact⟨.normal,a1,w1,hq,.head h0 Mq (StepsIn.trans harr (.one (fenced_calm hb hr rfl) Qft))⟩
 |exit id=>exact⟨.exit id,a1,w1,hq,.of_steps (.one h0 Mq) ⟨fun k' hk=>harr.1 k' (by simp[exitTo,hk]),fun hr' hk=>harr.2 hr' (by simp[exitTo,hk])⟩⟩
 |goto l=>exact absurd rfl (hg l)
 |ret=>exact⟨_,a1,w1,hq,.of_steps (.one h0 Mq) harr⟩
 |panic ch=>exact⟨_,a1,w1,hq,.of_steps (.one h0 Mq) harr⟩
 |outgrown=>exact⟨_,a1,w1,hq,.of_steps (.one h0 Mq) harr⟩
theorem Z3 (hT:Qb P T) {N:Nat}:∀ (c:Code) (env:Env) (m:Mem) (Q:Ja),vc P T N c env m Q→Awp P N c env m Q
 | .skip,env,m,Q,h=>⟨fun ro lo a w σ F hN hD he hm=>wpIn_skip ⟨env,m,σ,F,h,hN,hD,he,hm,Step.refl σ F w,Zj.refl σ⟩⟩
 | .region id ops draw,env,m,Q,h=>⟨fun ro lo a w σ F hN hD he hm=>by
  rw[Qgn]at h
  cases hd:Jb N ops.toList with
  |false=>rw[hd]at h;cases h
  | true =>
   rw[hd]at h
   simp only[cond_true]at h
   cases draw with
   |false =>
    refine wpIn_region_list (I0 hT (full:=ops.toList) (by simp) ops.toList env m hd h a w F σ hN he hm ?_)
    intro env' m' a' w' σ' F' k1 k2 k3 k4 k5 k6 k7
    exact⟨env',m',σ',F',k1.o,k2,by rw[k3];exact hD.step k6,k4,k5,k6,.of k7⟩
   | true =>
    obtain⟨⟨h1,h2⟩,⟨h3⟩⟩:=h
    cases hch:Dd ops.toList ops.toList with
    |true =>
     rw[hch]at h3
     simp only[cond_true,cond_false]at h3
     refine Q7o h1 h2 hT hm hd h3 hN he fun env' a' w' F' hk hN' hD' hg he'=>?_
     exact⟨env',m,σ,F',hk.o,hN',by rw[hD'];exact hD.step (hg.step σ),he',hg.mem hm,hg.step σ,Zj.refl σ⟩
    | false =>
     rw[hch]at h3
     simp only[cond_true,cond_false]at h3
     cases hle:Dn ops.toList with
     | true =>
      rw[hle]at h3
      simp only[cond_true]at h3
      unfold vcL at h3
      unfold Dn at hle
      cases hsp:Kb ops.toList with
      |none=>rw[hsp]at h3;exact h3.elim
      | some q =>
       obtain⟨pre,oL⟩:=q
       rw[hsp]at h3 hle
       simp only[Qh5]at h3 hle
       rw[Qbc]at hle
       have hgL:oL.guard=none:=by
        cases hg:oL.guard with
        |none=>rfl
        |some g=>rw[hg]at hle;exact absurd hle.2.1 (by simp[noG])
       refine Q7m h1 h2 hT hm hd (Q4g hsp) hgL hle.2.2 h3 hN he fun env' m' a' w' σ' F' hk hN' hD' he' hm' hst hsl=>?_
       exact⟨env',m',σ',F',hk.o,hN',by rw[hD'];exact hD.step hst,he',hm',hst,.of hsl⟩
     |false =>
     rw[hle]at h3
     simp only[cond_false]at h3
     refine Q7n h1 h2 hT hm hd h3 hN he fun env' a' w' F' hk hN' hD' hg he'=>?_
     exact⟨env',m,σ,F',hk.o,hN',by rw[hD'];exact hD.step (hg.step σ),he',hg.mem hm,hg.step σ,Zj.refl σ⟩⟩
 | .seq x y,env,m,Q,h=>⟨fun ro lo a w σ F hN hD he hm=>by
  refine wpIn_seq (wpIn_mono ((Z3 hT x env m _ h).run ro lo a w σ F hN hD he hm) ?_)
  rintro e a1 w1 ⟨env1,m1,σ1,F1,k1,k2,k3,k4,k5,k6,k7⟩
  cases e with
  | normal =>
   have k1:Sq (Ev (vc P T N y env1 m1 Q)) (Awp P N y env1 m1 Q):=k1
   have hy:Awp P N y env1 m1 Q:=match k1 with
    | .go h=>Z3 hT y env1 m1 Q h.o
    | .alt h=>h
   exact wpIn_mono (hy.run ro lo a1 w1 σ1 F1 k2 k3 k4 k5) fun e a2 w2 h2=>Uw k6 k7 h2
  |_=>exact⟨env1,m1,σ1,F1,k1,k2,k3,k4,k5,k6,k7⟩⟩
 | .cond c x y,env,m,Q,h=>⟨fun ro lo a w σ F hN hD he hm=>by
  rw[Qgm]at h
  split at h
  rename_i C l hb
  split at h<;>try (cases h;done)
  obtain⟨hl,h⟩:=Zw h
  have hv:=X7 (Z5 he c) (by rw[hb];exact hl)
  rw[hb]at hv
  refine wpIn_cond_split hv.bool (fun e=>?_) (fun e=>?_)
  .exact(Z3 hT x env m Q (h.t e).o).run ro lo a w σ F hN hD he hm
  .exact(Z3 hT y env m Q (h.f e).o).run ro lo a w σ F hN hD he hm⟩
 | .block id c,env,m,Q,h=>⟨fun ro lo a w σ F hN hD he hm=>by
  refine wpIn_block (wpIn_mono ((Z3 hT c env m _ h).run ro lo a w σ F hN hD he hm) ?_)
  rintro e a1 w1 ⟨env1,m1,σ1,F1,k1,k2⟩
  cases e with
  | exit i =>
   simp only[Exit.inBlock]
   cases hi:Nat.beq i id with
   |true =>
    have:=Qh1 hi
    subst this
    simp only[if_true]
    simp only[hi,cond_true]at k1
    exact⟨env1,m1,σ1,F1,k1,k2⟩
   |false =>
    rw[if_neg (Qhv hi)]
    simp only[hi,cond_false]at k1
    exact⟨env1,m1,σ1,F1,k1,k2⟩
  |_=>exact⟨env1,m1,σ1,F1,k1,k2⟩⟩
 | .loop c,env,m,Q,h=>h
 | .exit id,env,m,Q,h=>⟨fun ro lo a w σ F hN hD he hm=>wpIn_exit ⟨env,m,σ,F,h,hN,hD,he,hm,Step.refl σ F w,Zj.refl σ⟩⟩
 | .ret,env,m,Q,h=>⟨fun ro lo a w σ F hN hD he hm=>wpIn_ret ⟨env,m,σ,F,h,hN,hD,he,hm,Step.refl σ F w,Zj.refl σ⟩⟩
 | .rangeFunc ..,env,m,Q,h=>h
 | .scope c,env,m,Q,h=>⟨fun ro lo a w σ F hN hD he hm=>by
  refine Qgv (wpIn_mono ((Z3 hT c env m _ h).run ro lo a w σ F hN hD he hm) ?_)
  rintro e a1 w1 ⟨env1,m1,σ1,F1,k1,k2⟩
  cases e with
  |goto l=>exact k1.elim
  |_=>exact⟨(fun l h=>Exit.noConfusion h),env1,m1,σ1,F1,k1,k2⟩⟩
 | .label l,env,m,Q,h=>⟨fun ro lo a w σ F hN hD he hm=>wpIn_label ⟨env,m,σ,F,h,hN,hD,he,hm,Step.refl σ F w,Zj.refl σ⟩⟩
 | .goto _,_,_,_,h=>by cases h
 | .refuse _,_,_,_,h=>by cases h
end sound
end Go.Ab
