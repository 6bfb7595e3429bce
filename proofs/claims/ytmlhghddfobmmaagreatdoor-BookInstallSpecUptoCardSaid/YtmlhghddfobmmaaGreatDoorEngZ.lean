import Derived.Test.YtmlhghddfobmmaaGreatDoorEngY
namespace Go.Ab
set_option linter.unusedSimpArgs false
set_option linter.unusedVariables false
def Vy (o:Oper)(A:AV)(env:Env):Env:=match o.dst with
 |some t=>(t,A)::env
 |none=>env
theorem Xt {o:Oper}{A:AV}{env:Env}{K:Env->Prop}(h:J7 env o.dst A K):K (Vy o A env):=by
 unfold J7 at h
 unfold Vy
 cases hd:o.dst<;>simp only[hd]at h⊢ <;> exact h
def Qi (env:Env)(ops:List Oper)(As:Nat->AV):Nat->Env
 |0=>env
 |k+1=>match ops[k]? with
  |some o=>Vy o (As k) (Qi env ops As k)
  |none=>Qi env ops As k
def Pj (A:AV)(As:Nat->AV):Nat->AV
 |0=>A
 |k+1=>As k
theorem Kw (env:Env)(o:Oper)(r:List Oper)(A:AV)(As:Nat->AV):∀k,Qi env (o::r) (Pj A As) (k+1)=Qi (Vy o A env) r As k
 |0=>rfl
 |k+1=>by
  rw[Qi,List.getElem?_cons_succ]
  rw[Kw env o r A As k]
  rw[Qi]
  rfl
def Zs (full:List Oper)(o:Oper):List Nat:=X3 (tmpsOf o.op) (Yb full o.guard)
section
variable {P:Program}{T:Tab}{m:Mem}{σ:Pls}
theorem V7.mono {F:Nat->Prop}{w:World}{A A':AV}(hA:∀w F u,Vc w F σ A u->Vc w F σ A' u):∀{r:Result Next},V7 P σ F w A r->V7 P σ F w A' r
 | .ok (.value u) w2,⟨F2,h1,h2⟩=>⟨F2,h1,hA _ _ _ h2⟩
 | .ok (.enter f args) w2,⟨h1,h2⟩=>⟨h1,h2.mono fun e w3 ⟨u,F3,g1,g2,g3⟩=>⟨u,F3,g1,g2,hA _ _ _ g3⟩⟩
def Ui (P:Program)(m:Mem)(σ:Pls)(full:List Oper)(o:Oper)(env:Env)(A:AV):Prop :=
 ∀(F:Nat->Prop) (w:World) (a:Act),Q3 m σ F w->(∀t∈Zs full o,Vc w F σ (get env t) (a.tmps.getD t undef)) ->
  (Region.wanted o (yielded full.toArray a.tmps)=true->V7 P σ F w A ((execOp a.eval o).run P w)) /\
  (Region.wanted o (yielded full.toArray a.tmps)=false->∀w F,Vc w F σ A undef)
theorem Cc (hT:Qb P T){full:List Oper}{K:Env->Prop}:∀(rest:List Oper) (env:Env),vcR P T full m rest env K ->
  ∃As:Nat->AV,K (Qi env rest As rest.length)/\∀(k:Nat) o,rest[k]?=some o->Ui P m σ full o (Qi env rest As k) (As k)
 |[],env,h=>⟨fun _=>.junk,h,fun k o ho=>by simp at ho⟩
 | o :: r,env,h=>by
  have key:∃A,vcR P T full m r (Vy o A env) K/\Ui P m σ full o env A:=by
   rw[Qgj]at h
   have hs1:∀t∈tmpsOf o.op,t∈Zs full o:=fun t ht=>Yu.2 (.inl ht)
   split at h
   .rename_i hg
    obtain⟨A,hK,hD⟩:=Bg hT h
    refine⟨A,Xt hK,fun F w a hm he=>⟨fun _=>hD F w a hm (Vl fun t ht=>he t (hs1 t ht)),fun hw=>?_⟩⟩
    simp[Region.wanted,hg]at hw
   .rename_i j want hg
    have hs2:∀t∈Yb full (some (j,want)),t∈Zs full o:=fun t ht=>Yu.2 (.inr (by rw[hg];exact ht))
    split at h<;>try (cases h;done)
    rename_i g hgo
    have hw:∀(F:Nat->Prop) (w:World) (a:Act),(∀t∈Zs full o,Vc w F σ (get env t) (a.tmps.getD t undef))->Region.wanted o (yielded full.toArray a.tmps)=g:=fun F w a he=>by
     simp only[Region.wanted,hg]
     exact Hv (Vl fun t ht=>he t (hs2 t ht)) hgo
    split at h
    .rename_i v l hr
     obtain⟨hl,h⟩:=Zw h
     rw[Ya]at h
     refine⟨.gd g v,Xt h,fun F w a hm he=>?_⟩
     rw[hw F w a he]
     refine⟨fun hgt=>?_,fun hgf w F=>.gd (fun h=>by rw[hgf]at h;cases h) fun _=>rfl⟩
     exact V7.mono (fun w F u hu=>.gd (fun _=>hu) fun h=>by rw[hgt]at h;cases h) (Nl hT hr (Bc hl hgt) F w a hm (Vl fun t ht=>he t (hs1 t ht)))
    .cases g with
     |true =>
      obtain⟨A,hK,hD⟩:=Bg hT (h.t rfl).o
      refine⟨A,Xt hK,fun F w a hm he=>⟨fun _=>hD F w a hm (Vl fun t ht=>he t (hs1 t ht)),fun hwf=>?_⟩⟩
      rw[hw F w a he]at hwf
      cases hwf
     |false =>
      refine⟨_,Xt (h.f rfl).o,fun F w a hm he=>⟨fun hwt=>?_,fun _ w F=>.gd (fun h=>by cases h) fun _=>rfl⟩⟩
      rw[hw F w a he]at hwt
      cases hwt
  obtain⟨A,hr,hD⟩:=key
  obtain⟨As,hK,hAs⟩:=Cc hT r _ hr
  refine⟨Pj A As,?_,fun k o' ho=>?_⟩
  .rw[Qhs,Kw]
   exact hK
  .cases k with
   |zero=>simp at ho;subst ho;exact hD
   |succ k =>
    rw[Kw]
    exact hAs k o' (by simpa using ho)
structure Hk (full:List Oper)(i:Nat)(o:Oper):Prop where
 back:∀e∈o.after,Region.binds .any e=true->e.on<i
 once:∀d,o.dst=some d->∀(j:Nat) o',full[j]?=some o'->o'.dst=some d->j=i
 defs:∀t∈Zs full o,∀(j:Nat) o',full[j]?=some o'->o'.dst=some t->(j<i/\∃e∈o.after,e.on=j/\Region.binds .any e=true)\/(i<=j/\(j=i\/∃e∈o'.after,e.on=i/\Region.binds .any e=true))
theorem Tb {d i:Nat}:∀{l:List Oper} {k:Nat},Nf d i k l=true->∀(j:Nat) o,l[j]?=some o->o.dst=some d->k+j=i
 |[],k,_,j,o,h,_=>by simp at h
 | x :: r,k,hk,j,o,h,hd=>by
  simp only[Nf,Qh5]at hk
  cases j with
  |zero =>
   simp at h
   subst h
   have h1:=hk.1
   rw[hd]at h1
   simp only[Nat.beq_refl,cond_true]at h1
   exact Qh1 h1
  |succ j =>
   have:=Tb hk.2 j o (by simpa using h) hd
   omega
theorem Oo {t i:Nat}{es:List Edge}:∀{l:List Oper} {k:Nat},Pp t i es k l=true->∀(j:Nat) o,l[j]?=some o->o.dst=some t ->
  (k+j<i/\Vi es (k+j)=true)\/(i<=k+j/\(k+j=i\/Vi o.after.toList i=true))
 |[],k,_,j,o,h,_=>by simp at h
 | x :: r,k,hk,j,o,h,hd=>by
  simp only[Pp,Qh5]at hk
  cases j with
  | zero =>
   simp at h
   subst h
   have h1:=hk.1
   rw[hd]at h1
   simp only[Nat.beq_refl,cond_true,Bool.or_eq_true,Qh5]at h1
   rcases h1 with h1|h1|h1
   .exact .inl ⟨Qhf h1.1,h1.2⟩
   .have:=Qh1 h1
    exact .inr ⟨Om,.inl this⟩
   .have:i+1<=k:=Qhf h1.1
    exact .inr ⟨Om,.inr h1.2⟩
  |succ j =>
   have:=Oo hk.2 j o (by simpa using h) hd
   rw[show k+(j+1)=k+1+j by omega]
   exact this
theorem Gz {full:List Oper}:∀{l:List Oper} {k:Nat},Fe full k l=true->∀(j:Nat) o,l[j]?=some o->Hk full (k+j) o
 |[],k,_,j,o,h=>by simp at h
 | x :: r,k,hk,j,o,h=>by
  simp only[Fe,Qh5]at hk
  obtain⟨⟨h1,h2,h3⟩,h4⟩:=hk
  cases j with
  | zero =>
   simp at h
   subst h
   refine⟨fun e he hb=>?_,fun d hd j o' ho' hd'=>?_,fun t ht j o' ho' hd'=>?_⟩
   .have:=Qi8.1 h1 e (Array.mem_toList_iff.2 he)
    rw[hb]at this
    exact Qhf (by simpa[Nat.blt] using this)
   .rw[hd]at h2
    have:=Tb h2 j o' ho' hd'
    omega
   .have:=Qi8.1 h3 t ht
    have edge:∀(es:Array Edge) i,Vi es.toList i=true->∃e∈es,e.on=i/\Region.binds .any e=true:=fun es i g2=>by
     unfold Vi at g2
     obtain⟨e,he,h⟩:=List.any_eq_true.1 g2
     simp only[Qh5]at h
     exact⟨e,Array.mem_toList_iff.1 he,Qh1 h.1,h.2⟩
    rcases Oo this j o' ho' hd' with ⟨g1,g2⟩|⟨g1,g2⟩
    .obtain⟨e,he,h⟩:=edge _ _ g2
     rw[Qh9]at g1 h
     exact .inl ⟨Om,e,he,h⟩
    .rw[Qh9]at g1 g2
     refine .inr ⟨Om,?_⟩
     rcases g2 with g2|g2
     .exact .inl Om
     .exact .inr (edge _ _ g2)
  |succ j =>
   rw[show k+(j+1)=k+1+j by omega]
   exact Gz h4 j o (by simpa using h)
theorem Q10 {o:Oper}{A:AV}{env:Env}{t:Nat}(h:o.dst≠some t):get (Vy o A env) t=get env t:=by
 unfold Vy
 cases hd:o.dst with
 |none=>rfl
 | some d =>
  have:Nat.beq d t=false:=by
   cases hb:Nat.beq d t with
   |false=>rfl
   |true =>
    have:=Qh1 hb
    subst this
    exact absurd hd h
  simp only[get,this,cond_false]
theorem L5 {o:Oper}{A:AV}{env:Env}{t:Nat}(h:o.dst=some t):get (Vy o A env) t=A:=by
 unfold Vy
 rw[h]
 simp[get]
theorem Xb {env:Env}{full:List Oper}{As:Nat->AV}{t i:Nat}:∀k,i<=k->(∀(j:Nat) o,i<=j->j<k->full[j]?=some o->o.dst≠some t)->get (Qi env full As k) t=get (Qi env full As i) t
 |0,h,_=>by rw[show i=0 by omega]
 | k + 1,h,hn=>by
  by_cases e:i=k+1
  .rw[e]
  .rw[Qi]
   cases hk:full[k]? with
   |none=>exact Xb k Om fun j o h1 h2=>hn j o h1 Om
   |some o =>
    rw[Q10 (hn k o Om Om hk)]
    exact Xb k Om fun j o h1 h2=>hn j o h1 Om
def unl:List Bool->Nat
 |[]=>0
 |b::r=>(bif b then 0 else 1)+unl r
theorem Kd:∀{l:List Bool} {i:Nat},l[i]?=some false->unl (l.set i true)+1=unl l
 |[],_,h=>by simp at h
 |b::r,0,h=>by simp at h;subst h;simp[unl];omega
 |b::r,i+1,h=>by
  have:=Kd (l:=r) (i:=i) (by simpa using h)
  simp only[List.set_cons_succ,unl]
  omega
theorem Lv:∀{l:List Bool},unl l=0->∀(i:Nat) b,l[i]?=some b->b=true
 |[],_,i,b,h=>by simp at h
 | x :: r,hz,i,b,h=>by
  simp only[unl]at hz
  cases i with
  |zero =>
   simp at h
   subst h
   cases x with
   |true=>rfl
   |false=>simp at hz
  |succ i=>exact Lv (l:=r) Om i b (by simpa using h)
theorem Qu {l:Array Bool}{i:Nat}{d:Bool}:l.getD i d=(l.toList[i]?).getD d:=by
 rw[Qhk,Qh2]
variable {ro:Option Nat}
theorem Q7n {id N n:Nat} {ops:Array Oper} {F:Nat→Prop} {w:World} {a:Act} {env:Env} {K:Env→Prop} {Q:Exit→Act→World→Prop}
  (h1:P.follows .mixedOrders=true) (h2:okR ops.toList=true) (hT:Qb P T) (hm:Q3 m σ F w) (hd:Jb N ops.toList=true) (h:vcR P T ops.toList m ops.toList env K) (hN:a.tmps.size=N) (he:Ql env w F σ a.tmps)
  (hQ:∀env' a' w' F',K env'->a'.tmps.size=N->a'.defers=a.defers->Qn F w F' w'->Ql env' w' F' σ a'.tmps->Q .normal a' w'):(Code.region id ops true).wpIn (Fen ro) n P Q a w:=by
 obtain⟨As,hK,hD⟩:=Cc (σ:=σ) hT ops.toList env h
 have hO:∀(i:Nat) o,ops[i]?=some o->Hk ops.toList i o:=fun i o ho=>by
  have:=Gz h2 i o (by rw[Qh2];exact ho)
  rwa [Qh9]at this
 have hdst:∀(i:Nat) o d,ops[i]?=some o->o.dst=some d->d<N:=by
  have:∀(l:List Oper),Jb N l=true->∀(i:Nat) o d,l[i]?=some o->o.dst=some d->d<N:=by
   intro l
   induction l with
   |nil=>intro _ i o d ho;simp at ho
   | cons x r ih =>
    intro hl i o d ho hdo
    simp only[Jb,Qh5]at hl
    cases i with
    |zero =>
     simp at ho
     subst ho
     have:=hl.1
     rw[hdo]at this
     exact Qhf this
    |succ i=>exact ih hl.2 i o d (by simpa using ho) hdo
  exact fun i o d ho hdo=>this ops.toList hd i o d (by rw[Qh2];exact ho) hdo
 generalize hE:Qi env ops.toList As ops.toList.length=E at hK
 have hsize:ops.toList.length=ops.size:=Qhg
 have hEd:∀(i:Nat) o d,ops[i]?=some o->o.dst=some d->∀k,i<k->k<=ops.toList.length->get (Qi env ops.toList As k) d=As i:=by
  intro i o d ho hdo k hk hkn
  have hol:ops.toList[i]?=some o:=by rw[Qh2];exact ho
  rw[Xb (i:=i+1) k Om (fun j o' h3 h4 ho' hd'=>by
    have:=(hO i o ho).once d hdo j o' ho' hd'
    omega)]
  rw[Qi,hol]
  exact L5 hdo
 have hE0:∀t k,k<=ops.toList.length->(∀(j:Nat) o,ops[j]?=some o->o.dst=some t->k<=j)->get (Qi env ops.toList As k) t=get env t:=fun t k hk hno =>
  Xb (i:=0) k (Qh3 _) (fun j o _ hj ho hdo=>by
   rw[Qh2]at ho
   have:=hno j o ho hdo
   omega)
 let Inv:Array Bool->Act->World->Prop:=fun listed a' w'=>a'.tmps.size=N/\a'.defers=a.defers/\(∀(j:Nat) o,ops[j]?=some o->listed.getD j true=true->∀e∈o.after,Region.binds .any e=true->listed.getD e.on true=true) /\
  ∃F',Qn F w F' w'/\∀t,(∀(j:Nat) o,ops[j]?=some o->o.dst=some t->listed.getD j true=true->Vc w' F' σ (As j) (a'.tmps.getD t undef)) /\
   ((∀(j:Nat) o,ops[j]?=some o->o.dst=some t->listed.getD j true=false)->Vc w' F' σ (get env t) (a'.tmps.getD t undef))
 have fin:∀listed a' w',(∀i,i<ops.size->listed.getD i true=true)->Inv listed a' w'->Q .normal a' w':=fun listed a' w' hall ⟨i1,i2,_,F',i3,i4⟩ =>
  hQ E a' w' F' hK i1 i2 i3 fun t=>by
   by_cases hex:∃(j:Nat) (o:Oper),ops[j]?=some o/\o.dst=some t
   .obtain⟨j,o,ho,hdo⟩:=hex
    have hj:j<ops.size:=(Qh4.1 ho).1
    rw[<-hE,hEd j o t ho hdo _ Om (Qgx _)]
    exact(i4 t).1 j o ho hdo (hall j hj)
   .rw[<-hE,hE0 t _ (Qgx _) (fun j o ho hdo=>absurd ⟨j,o,ho,hdo⟩ hex)]
    exact(i4 t).2 fun j o ho hdo=>absurd ⟨j,o,ho,hdo⟩ hex
 have main:∀ (fuel:Nat) (listed:Array Bool) (a':Act) (w':World),listed.size=ops.size→unl listed.toList≤fuel→Inv listed a' w'→wpAnyIn (Fen ro) n P .any ops Q fuel listed a' w':=by
  intro fuel
  induction fuel with
  | zero =>
   intro listed a' w' hls hun hI
   have hall:∀i,i<ops.size->listed.getD i true=true:=fun i hi=>by
    rw[Qu]
    cases hb:listed.toList[i]? with
    |none=>rfl
    |some b=>exact Lv Om i b hb
   refine⟨List.eq_nil_iff_forall_not_mem.2 fun i hi=>?_,fin _ _ _ hall hI⟩
   obtain⟨g1,o,ho,_⟩:=mem_ready.1 hi
   rw[hall i (Qh4.1 ho).1]at g1
   cases g1
  | succ fuel ih =>
   intro listed a' w' hls hun hI
   refine⟨fun hnil=>fin _ _ _ (fun i=>?_) hI,fun i hi=>?_⟩
   .induction i using Nat.strongRecOn with
    | _ i ihi =>
     intro hi
     cases hb:listed.getD i true with
     |true=>rfl
     | false =>
      exfalso
      have ho:ops[i]?=some ops[i]:=Array.getElem?_eq_getElem hi
      have:i∈Region.ready .any ops listed:=mem_ready.2 ⟨hb,_,ho,fun e he hbe=>by
       have hlt:=(hO i _ ho).back e he hbe
       have:=ihi e.on hlt Om
       rw[Qu]at this⊢
       have hin:e.on<listed.toList.length:=by rw[Qhg,hls];omega
       rw[Qgy hin]at this⊢
       exact this⟩
      rw[hnil]at this
      cases this
   .obtain⟨g1,o,ho,g2⟩:=mem_ready.1 hi
    have hin:i<ops.size:=(Qh4.1 ho).1
    have hoi:=hO i o ho
    obtain⟨i1,i2,ic,F',i3,i4⟩:=hI
    have hmw:Q3 m σ F' w':=i3.mem hm
    have toT:∀j,j<ops.size->listed.getD j false=true->listed.getD j true=true:=fun j hj h=>by
     rw[Qu]at h⊢
     have hin2:j<listed.toList.length:=by rw[Qhg,hls];omega
     rw[Qgy hin2]at h⊢
     exact h
    have hslots:∀ t∈Zs ops.toList o,Vc w' F' σ (get (Qi env ops.toList As i) t) (a'.tmps.getD t undef):=fun t ht=>by
     by_cases hex:∃(j:Nat) (o':Oper),ops[j]?=some o'/\o'.dst=some t
     .obtain⟨j,o',ho',hdo'⟩:=hex
      have hj:j<ops.size:=(Qh4.1 ho').1
      have honce:∀(j2:Nat) o2,ops[j2]?=some o2->o2.dst=some t->j2=j:=fun j2 o2 h3 h4=>(hO j o' ho').once t hdo' j2 o2 (by rw[Qh2];exact h3) h4
      rcases hoi.defs t ht j o' (by rw[Qh2];exact ho') hdo' with ⟨hji,e,hee,heon,heb⟩|⟨hij,hcase⟩
      .rw[hEd j o' t ho' hdo' i hji Om]
       refine(i4 t).1 j o' ho' hdo' ?_
       have:=g2 e hee heb
       rw[heon]at this
       exact toT j hj this
      .rw[hE0 t i Om (fun j2 o2 h3 h4=>by rw[honce j2 o2 h3 h4];exact hij)]
       refine(i4 t).2 fun j2 o2 h3 h4=>?_
       have hj2:=honce j2 o2 h3 h4
       subst hj2
       rcases hcase with rfl|⟨e,hee,heon,heb⟩
       .exact g1
       .cases hb:listed.getD j2 true with
        |false=>rfl
        |true =>
         have:=ic j2 o' ho' hb e hee heb
         rw[heon,g1]at this
         cases this
     .rw[hE0 t i Om (fun j2 o2 h3 h4=>absurd ⟨j2,o2,h3,h4⟩ hex)]
      exact(i4 t).2 fun j2 o2 h3 h4=>absurd ⟨j2,o2,h3,h4⟩ hex
    have hdoes:=hD i o (by rw[Qh2];exact ho) F' w' a' hmw hslots
    have hy:ops.toList.toArray=ops:=Qi2
    rw[hy]at hdoes
    have hlist:listed.toList[i]?=some false:=by
     rw[Qu]at g1
     cases hb:listed.toList[i]? with
     |none=>rw[hb]at g1;cases g1
     |some b=>rw[hb]at g1;simp at g1;rw[g1]
    have next:∀ (v:Value) (w2:World) (F2:Nat→Prop),Qn F' w' F2 w2→Vc w2 F2 σ (As i) v→wpAnyIn (Fen ro) n P .any ops Q fuel (listed.setIfInBounds i true) (a'.put o.dst v) w2:=by
     intro v w2 F2 hg hv
     have hset:∀j,j≠i->(listed.setIfInBounds i true).getD j true=listed.getD j true:=fun j hne=>by
      rw[Qu,Qhi,List.getElem?_set_ne (fun e=>hne e.symm),<-Qu]
     have hsetm:∀j,listed.getD j true=true->(listed.setIfInBounds i true).getD j true=true:=fun j h=>by
      by_cases e:j=i
      .subst e;rw[h]at g1;cases g1
      .rw[hset j e];exact h
     have hseti:(listed.setIfInBounds i true).getD i true=true:=by
      rw[Qu,Qhi,List.getElem?_set_self (by rw[Qhg,hls];exact hin)]
      rfl
     refine ih _ _ _ (by simp[hls]) ?_ ⟨by rw[Y3];exact i1,by rw[put_defers];exact i2,fun j o' ho' hj e he hb=>?_,F2,i3.trans hg,fun t=>?_⟩
     .have:=Kd hlist
      rw[Qhi]
      omega
     .by_cases hji:j=i
      .subst hji
       rw[ho]at ho'
       cases ho'
       have hlt:=hoi.back e he hb
       exact hsetm _ (toT _ Om (g2 e he hb))
      .rw[hset j hji]at hj
       exact hsetm _ (ic j o' ho' hj e he hb)
     .have mono:∀{A u},Vc w' F' σ A u->Vc w2 F2 σ A u:=fun h=>h.mono hg.fro (fun b hb=>hg.keep b (i3.lt b hb)) (SLe.refl σ)
      by_cases hdt:o.dst=some t
      .have hdN:=hdst i o t ho hdt
       have hval:(a'.put o.dst v).tmps.getD t undef=v:=by
        rw[hdt]
        simp only[Act.put,Qhk]
        rw[Array.getElem?_setIfInBounds_self_of_lt (by rw[i1];exact hdN)]
        rfl
       rw[hval]
       refine⟨fun j o' ho' hd' _=>?_,fun hno=>?_⟩
       .have:=hoi.once t hdt j o' (by rw[Qh2];exact ho') hd'
        subst this
        exact hv
       .have:=hno i o ho hdt
        rw[hseti]at this
        cases this
      .have hval:(a'.put o.dst v).tmps.getD t undef=a'.tmps.getD t undef:=by
        cases hdo:o.dst with
        |none=>rfl
        |some d =>
         simp only[Act.put,Qhk]
         rw[Array.getElem?_setIfInBounds_ne (fun e=>hdt (by rw[hdo,e]))]
       rw[hval]
       have hne:∀(j:Nat) o',ops[j]?=some o'->o'.dst=some t->j≠i:=fun j o' ho' hd' e=>by
        subst e
        rw[ho]at ho'
        cases ho'
        exact hdt hd'
       refine⟨fun j o' ho' hd' hj=>?_,fun hno=>?_⟩
       .rw[hset j (hne j o' ho' hd')]at hj
        exact mono ((i4 t).1 j o' ho' hd' hj)
       .exact mono ((i4 t).2 fun j o' ho' hd'=>by
         have:=hno j o' ho' hd'
         rwa [hset j (hne j o' ho' hd')]at this)
    unfold wpOpIn
    simp only[ho]
    cases hw:Region.wanted o (yielded ops a'.tmps) with
    |false =>
     simp only[Bool.false_eq_true,if_false]
     exact⟨fun _ _=>trivial,next _ _ _ (Qn.refl hmw.fl) (hdoes.2 hw _ _)⟩
    | true =>
     simp only[if_true]
     have h3:=hdoes.1 hw
     have hdef:∀c,o.op≠.defer c:=fun c hc=>by
      simp only[execOp,hc,Sem.run_bind]at h3
      cases hr:(resolve a'.eval c o.type).run P w'<;>simp[hr,Result.andThen,V7]at h3
     refine V5 hdef ?_
     generalize (execOp a'.eval o).run P w'=r at h3
     cases r with
     | ok x w2 =>
      cases x<;>simp only[V7]at h3<;>simp only[Oper.uponIn]
      case value u =>
       obtain⟨F2,k1,k2⟩:=h3
       exact next u w2 F2 k1 k2
      case enter f args =>
       obtain⟨e1,hc⟩:=h3
       rw[e1]
       exact⟨We,Y7.2 (hc.mono fun e w3 ⟨u,F3,he,k1,k2⟩=>by subst he;exact next u w3 F3 k1 k2)⟩
     |halt x w2=>simp only[V7]at h3
 have hrep:∀j,j<ops.size->(Array.replicate ops.size false).getD j true=false:=fun j hj=>by
  rw[Qu,Qi0,Qik,if_pos hj]
  rfl
 refine wpIn_region_any h1 (main ops.size _ a _ (by simp) ?_ ⟨hN,rfl,fun j o ho hj=>?_,F,Qn.drew hm.fl,fun t=>⟨fun j o ho _ hj=>?_,fun _=>?_⟩⟩)
 .have:∀k,unl (List.replicate k false)=k:=fun k=>by
   induction k with
   |zero=>rfl
   |succ k ih=>rw[List.replicate_succ,unl,ih];simp;omega
  rw[Qi0,this]
  exact Qgx _
 .rw[hrep j (Qh4.1 ho).1]at hj
  cases hj
 .rw[hrep j (Qh4.1 ho).1]at hj
  cases hj
 .exact Vc.mono (w:=w) (w':={w with drawn:=w.drawn+1}) (fun _ h=>h) (fun _ _=>rfl) (SLe.refl σ) (he t)
end
end Go.Ab
