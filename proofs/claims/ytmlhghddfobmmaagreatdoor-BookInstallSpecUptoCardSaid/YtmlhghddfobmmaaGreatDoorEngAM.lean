import Derived.Test.YtmlhghddfobmmaaGreatDoorEngAZ
import Derived.Test.YtmlhghddfobmmaaGreatDoorEngAP
namespace Go.Ab
set_option linter.unusedSimpArgs false
set_option linter.unusedVariables false
structure R3 where
 i:Nat
 t:Nat
 e:TypeId
 sz:Nat
 g:Nat
 n:Nat
 f:Nat->List AV
def R3.blk (r:R3):Blk:=.vec r.e r.sz r.g r.n r.f
def R3.row (r:R3):Row:=⟨r.i,r.t,.osl (.loc 0) r.g 0 r.n,⟨[some r.blk],[]⟩⟩
structure Bo where
 t:Tmp
 e:TypeId
 tx:Tmp
structure Bn (ops:Array Oper)(n:Nat)(s:Bo):Prop where
 bl:∃o,ops[n]?=some o/\o.dst=some s.tx/\o.guard=none
 al:∃o,ops[n+1]?=some o/\o.dst=some s.t/\o.guard=none/\o.op=.alloc s.e
 st:∃o,ops[n+2]?=some o/\o.dst=none/\o.guard=none/\o.op=.store s.e (.tmp s.t) (.tmp s.tx)/\Ku o (n+1)/\Ku o n
 cov:∀j,j<n->∃k o,j<k/\k<=n/\ops[k]?=some o/\Ku o j
def Ch (T:Tab)(m:Mem)(ob:Op)(s:Bo)(sz:Nat)(C:Env->Mem->Prop)(E:Env)(fin:List Row):Prop:=∃(r1 r2 r3:R3) (cs:List AV) (l p:List Prop),fin=[r3.row,r2.row,r1.row]/\(r1.i≠r2.i/\r1.i≠r3.i/\r2.i≠r3.i) /\
 (∀i,i<r1.n->∃x,r1.f i=up x)/\(∀i,i<r2.n->∃x,r2.f i=up x)/\(∀i,i<r3.n->∃x,r3.f i=up x) /\
 Xi T ((r1.t,.osl m.new r1.g 0 r1.n)::(r2.t,.osl (m.add r1.blk).new r2.g 0 r2.n)::(r3.t,.osl ((m.add r1.blk).add r2.blk).new r3.g 0 r3.n)::(s.t,.junk)::(s.tx,.junk)::E) (((m.add r1.blk).add r2.blk).add r3.blk) ob=some (.agg cs,l)/\(∀q∈l,q) /\
 Ru (((m.add r1.blk).add r2.blk).add r3.blk) cs=some p/\(∀q∈p,q)/\cs.length=sz /\
 C ((s.t,.ptr (((m.add r1.blk).add r2.blk).add r3.blk).new 0 0 0)::(s.tx,.junk)::E) ((((m.add r1.blk).add r2.blk).add r3.blk).add (.box s.e cs))
section
variable {P:Program}{T:Tab}{m:Mem}{σ:Pls}
variable {ro:Option Nat}
theorem Qfi (hT:Qb P T){e:TypeId}{ti:TI}(hti:T.at e=some ti){us vs:List Value}(hsz:ti.size=vs.length)(hone:∀v∈vs,v.oneCell'=true){w:World}{b:Nat}(hb:w.heap[b]?=some (.cells us.toArray e (0,0)))(hl:us.length=vs.length) :
  (Instr.storeAt e (.pointer (some ⟨b,0,none⟩)) (.agg vs.toArray)).run P w=.ok () (w.setRow b vs.toArray):=by
 have:=run_storeCells_at P b 0 e vs 0 us.toArray w hb (by simp;omega) hone
 simp only[Nat.add_zero,Qh9]at this
 have e1:(us.toArray.toList.take 0++vs++us.toArray.toList.drop vs.length)=vs:=by
  rw[List.take_zero,List.nil_append,List.drop_of_length_le (by simp;omega),Qih]
 rw[e1]at this
 have hcells:(Value.agg vs.toArray).cells=vs.toArray:=rfl
 have hts:ti.size=vs.length:=by omega
 simp[Instr.storeAt,Instr.sureAddr,storeVar,hcells,run_sizeOf (hT _ _ hti),hts,this]
theorem Q7p {id N:Nat} {ops:Array Oper} {F:Nat→Prop} {w:World} {a:Act} {env:Env} {C:Env→Mem→Prop} {Q:Exit→Act→World→Prop}
  (h1:P.follows .mixedOrders=true) (h2:okR ops.toList=true) (hT:Qb P T) (hm:Q3 m σ F w) (hd:Jb N ops.toList=true) {pre suf:List Oper} (hsp:ops.toList=pre++suf) (hsuf:suf.length=3) (s:Bo) {ob:Oper} (hob:ops[pre.length]?=some ob) (b0:Bn ops pre.length s)
  {ti:TI} (hti:T.at s.e=some ti) (h0N:s.t<N) (hxN:s.tx<N)
  (h:vcZ P T ops.toList m pre 0 env [] (Ch T m ob.op s ti.size C)) (hN:a.tmps.size=N) (he:Ql env w F σ a.tmps)
  (hQ:∀env' m' a' w' σ' F',C env' m'->a'.tmps.size=N->a'.defers=a.defers->Step σ F w σ' F' w'->SLe σ σ'->Ql env' w' F' σ' a'.tmps->Q3 m' σ' F' w'->Q .normal a' w'):(Code.region id ops true).wpIn (Fen ro) 0 P Q a w:=by
 have hsize2:ops.size=pre.length+3:=by
  have:ops.toList.length=ops.size:=Qhg
  rw[<-this,hsp,Qhc,hsuf]
 have hpl:∀(k:Nat) o,k<pre.length->ops[k]?=some o->pre[k]?=some o:=fun k o hk ho=>by
  rw[<-Qh2,hsp,Qhj hk]at ho
  exact ho
 have hlp:∀(k:Nat) o,pre[k]?=some o->k<pre.length/\ops[k]?=some o:=fun k o ho=>by
  have hk:=(Qh7.1 ho).1
  refine⟨hk,?_⟩
  rw[<-Qh2,hsp,Qhj hk]
  exact ho
 have hlen:pre.length<=ops.toList.length:=by rw[hsp];simp
 have hownw:∀b,Qm σ b->b<w.heap.size:=fun b ⟨r,p,t,e1,e2⟩=>(hm.nf r p b t e1 e2).2
 obtain⟨As,took,made,fin,hX,hfin⟩:=I2 (σ:=σ) hT pre 0 env [] (by simp) (fun r hr=>by simp at hr) h
 have hEp:∀k,k<=pre.length->Qi env ops.toList As k=Qi env pre As k:=fun k hk=>by
  rw[hsp]
  exact Px env pre suf As k hk
 have hK:Ch T m ob.op s ti.size C (Qi env pre As pre.length) fin:=hX.k
 have hD:∀(k:Nat) o,k<pre.length->ops[k]?=some o->Mz P m σ ops.toList o (Qi env ops.toList As k) (As k) (took k) (made k):=fun k o hk ho=>by
  rw[hEp k Om]
  exact hX.does k o (hpl k o hk ho)
 have hMade:∀k r,made k=some r->r.idx=k/\∃o,ops[k]?=some o/\o.dst=some r.tmp:=fun k r hk=>by
  obtain⟨h1,o,h2,h3⟩:=hX.madeAt k r hk
  exact⟨Om,o,(hlp k o h2).2,h3⟩
 have hMadeP:∀k r,made k=some r->k<pre.length:=fun k r hk=>by
  obtain⟨_,o,h2,_⟩:=hX.madeAt k r hk
  exact(hlp k o h2).1
 have hTook:∀k r,took k=some r->r.idx<k/\made r.idx=some r/\∃o,ops[k]?=some o/\r.tmp∈tmpsOf o.op:=fun k r hk=>by
  obtain⟨h1,o,h2,h3⟩:=hX.tookAt k r hk
  have h2:=(hlp k o h2).2
  rcases h1 with h1|⟨j,hj,h1⟩
  .simp at h1
  .have:=(hMade j r h1).1
   subst this
   exact⟨hj,h1,o,h2,h3⟩
 have hO:∀(i:Nat) o,ops[i]?=some o->Hk ops.toList i o:=fun i o ho=>by
  have:=Gz h2 i o (by rw[Qh2];exact ho)
  rwa [Qh9]at this
 have hdst:∀(i:Nat) o d,ops[i]?=some o->o.dst=some d->d<N:=by
  have:∀(l:List Oper),Jb N l=true->∀(i:Nat) o d,l[i]?=some o->o.dst=some d->d<N:=by
   intro l
   induction l with
   |nil=>intro _ i o d ho;simp at ho
   | cons x r ih =>
    intro hl i o d ho hdo
    simp only[Jb,Qh5]at hl
    cases i with
    |zero =>
     simp at ho
     subst ho
     have:=hl.1
     rw[hdo]at this
     exact Qhf this
    |succ i=>exact ih hl.2 i o d (by simpa using ho) hdo
  exact fun i o d ho hdo=>this ops.toList hd i o d (by rw[Qh2];exact ho) hdo
 have hsize:ops.toList.length=ops.size:=Qhg
 have hEd:∀(i:Nat) o d,ops[i]?=some o->o.dst=some d->∀k,i<k->k<=ops.toList.length->get (Qi env ops.toList As k) d=As i:=by
  intro i o d ho hdo k hk hkn
  have hol:ops.toList[i]?=some o:=by rw[Qh2];exact ho
  rw[Xb (i:=i+1) k Om (fun j o' h3 h4 ho' hd'=>by
    have:=(hO i o ho).once d hdo j o' ho' hd'
    omega)]
  rw[Qi,hol]
  exact L5 hdo
 have hE0:∀t k,k<=ops.toList.length->(∀(j:Nat) o,ops[j]?=some o->o.dst=some t->k<=j)->get (Qi env ops.toList As k) t=get env t:=fun t k hk hno =>
  Xb (i:=0) k (Qh3 _) (fun j o _ hj ho hdo=>by
   rw[Qh2]at ho
   have:=hno j o ho hdo
   omega)
 rw[<-hEp pre.length (Qgx _)]at hK
 generalize hE:Qi env ops.toList As pre.length=E at hK
 obtain⟨r1,r2,r3,cs,l,p,hfe,⟨ne12,ne13,ne23⟩,d1,d2,d3,hev,hl,hones,hp,hcl,hC⟩:=hK
 have hrow:∀r:R3,r.row∈fin->made r.i=some r.row/\∀k,took k≠some r.row:=fun r hr=>by
  obtain⟨q1,q2⟩:=hfin r.row hr
  rcases q1 with q1|⟨k,hk⟩
  .cases q1
  .have:=(hMade k r.row hk).1
   have e:k=r.i:=this.symm
   rw[<-e]
   exact⟨hk,q2⟩
 have hr1:=hrow r1 (by rw[hfe];simp)
 have hr2:=hrow r2 (by rw[hfe];simp)
 have hr3:=hrow r3 (by rw[hfe];simp)
 obtain⟨ob',hob',bdst,bgd⟩:=b0.bl
 obtain rfl:ob=ob':=by rw[hob]at hob';injection hob'
 obtain⟨oa,hoa,adst,agd,aop⟩:=b0.al
 obtain⟨os,hos,sdst,sgd,sop,sed1,sed2⟩:=b0.st
 have alN:∀(j:Nat) o,ops[j]?=some o->o.dst=some s.t->j=pre.length+1:=fun j o ho hdo=>(hO _ oa hoa).once s.t adst j o (by rw[Qh2];exact ho) hdo
 have blN:∀(j:Nat) o,ops[j]?=some o->o.dst=some s.tx->j=pre.length:=fun j o ho hdo=>(hO _ ob hob).once s.tx bdst j o (by rw[Qh2];exact ho) hdo
 have htx:s.t≠s.tx:=fun e=>by
  have:=alN _ ob hob (by rw[e];exact bdst)
  omega
 have clos:∀(listed:Array Bool),(∀(j:Nat) o,ops[j]?=some o->listed.getD j true=true->∀e∈o.after,Region.binds .any e=true->listed.getD e.on true=true)->(∀e∈ob.after,Region.binds .any e=true->listed.getD e.on true=true)->∀j,j<pre.length->listed.getD j true=true:=by
  intro listed ic hb
  have:∀d j,j<pre.length->pre.length-j<=d->listed.getD j true=true:=by
   intro d
   induction d with
   |zero=>intro j hj hd';omega
   | succ d ihd =>
    intro j hj hd'
    obtain⟨k,ok,hjk,hkn,hok,e,he,heon,heb⟩:=b0.cov j hj
    rw[<-heon]
    by_cases ek:k=pre.length
    .subst ek
     rw[hob]at hok
     injection hok with hok
     subst hok
     exact hb e he heb
    .exact ic k ok hok (ihd k Om Om) e he heb
  exact fun j hj=>this (pre.length-j) j hj (Qgx _)
 let m3:Mem:=((m.add r1.blk).add r2.blk).add r3.blk
 let Live:Array Bool->Nat->Row->Prop:=fun listed k r=>made k=some r/\listed.getD k true=true/\∀k',took k'=some r->listed.getD k' true=false
 let BoxH:Array Bool->(Nat->Prop)->World->Array Value->Nat->Prop:=fun listed F' w' tmps b=>(listed.getD (pre.length+2) true=true->listed.getD (pre.length+1) true=true/\listed.getD pre.length true=true) /\
  (listed.getD (pre.length+1) true=true->tmps.getD s.t undef=.pointer (some ⟨b,0,none⟩)/\w.heap.size<=b/\b<w'.heap.size/\¬ F' b/\∃us:List Value,w'.heap[b]?=some (.cells us.toArray s.e (0,0))/\us.length=ti.size/\(listed.getD (pre.length+2) true=true->tmps.getD s.tx undef=.agg us.toArray))
 let PhA:Array Bool->(Nat->Prop)->World->Array Value->Nat->Prop:=fun listed F' w' tmps bx=>listed.getD pre.length true=false/\∃S:Nat->Pls,Uj ops pre.length env σ As listed F' w' tmps /\
   (∀k r,Live listed k r->Q3 r.mem (S k) F' w'/\Vc w' F' (S k) r.val (tmps.getD r.tmp undef)/\∀b,Qm (S k) b->w.heap.size<=b) /\
   (∀k r k2 r2,Live listed k r->Live listed k2 r2->k≠k2->∀b,Qm (S k) b->¬ Qm (S k2) b) /\
   (listed.getD (pre.length+1) true=true->∀k r,Live listed k r->¬ Qm (S k) bx)
 let PhB:Array Bool->(Nat->Prop)->World->Array Value->Nat->Prop:=fun listed F' w' tmps bx=>listed.getD pre.length true=true/\∃σ3:Pls,Q3 m3 σ3 F' w'/\SLe σ σ3/\(∀b,Qm σ3 b->Qm σ b\/w.heap.size<=b)/\(listed.getD (pre.length+1) true=true->¬ Qm σ3 bx) /\
   Vc w' F' σ3 (.agg cs) (tmps.getD s.tx undef)/\∀t,t≠s.t->t≠s.tx->Vc w' F' σ3 (get E t) (tmps.getD t undef)
 let Inv:Array Bool->Act->World->Prop:=fun listed a' w'=>a'.tmps.size=N/\a'.defers=a.defers/\(∀(j:Nat) o,ops[j]?=some o->listed.getD j true=true->∀e∈o.after,Region.binds .any e=true->listed.getD e.on true=true) /\
  ∃F':Nat->Prop,Qn F w F' w'/\∃bx,BoxH listed F' w' a'.tmps bx/\(PhA listed F' w' a'.tmps bx\/PhB listed F' w' a'.tmps bx)
 have fin:∀ listed a' w',(∀ i,i < ops.size→listed.getD i true=true)→Inv listed a' w'→Q .normal a' w':=by
  rintro listed a' w' hall ⟨i1,i2,_,F',i3,bx,hbx,hph⟩
  rcases hph with ⟨hA,_⟩|⟨_,σ3,hm3,hs3,ho3,hnb,hu,hEv⟩
  .rw[hall _ Om]at hA
   cases hA
  .obtain⟨g1,g2,g3,g4,us,g5,g6,g7⟩:=hbx.2 (hall _ Om)
   have g7:=g7 (hall _ Om)
   have hnb:=hnb (hall _ Om)
   rw[g7]at hu
   obtain⟨hul,huc⟩:us.length=cs.length/\∀(j:Nat) x u,cs[j]?=some x->us[j]?=some u->Vc w' F' σ3 x u:=by
    generalize hU:Value.agg us.toArray=U at hu
    cases hu with
    |@agg _ us' hl' hc' =>
     injection hU with hU
     have:us=us':=by simpa using hU
     subst this
     exact⟨hl',hc'⟩
   have hone:=Me hm3 hul huc hones hp
   have hs4:=SLe.upd_new (σ:=σ3) (r:=m3.new) (some (⟨0,cs.length,some (bx,1)⟩:Pl)) (Ux hm3)
   obtain⟨hm4,hs4⟩:=Ig (B:=.box s.e cs) (pl:=⟨0,cs.length,some (bx,1)⟩) hm3 ⟨rfl,rfl,bx,rfl,us,g5,hul,fun j A u hA hu=>⟨(huc j A u hA hu).mono (fun _ h=>h) (fun _ _=>rfl) hs4,hone j u hu⟩⟩ fun b t hl=>by
    simp only[Qgz,Qh6]at hl
    obtain⟨rfl,_⟩:=hl
    exact⟨g4,g3,hnb⟩
   have hs:SLe σ (upd σ3 m3.new (some ⟨0,cs.length,some (bx,1)⟩)):=fun r q hq=>by
    obtain⟨q1,h3,h4⟩:=hs3 r q hq
    obtain⟨q2,h5,h6⟩:=hs4 r q1 h3
    exact⟨q2,h5,h4.trans h6⟩
   refine hQ _ _ a' w' _ F' hC i1 i2 ⟨i3.os,i3.tape,i3.output,i3.drawn,i3.size,fun b hb _=>i3.keep b hb,i3.fro,fun b hb=>(i3.fro' b hb).imp (fun h=>h) .inr,fun b hb=>?_⟩ hs (fun t=>?_) hm4
   .rcases Q31 hb with hb|⟨t,hl⟩
    .exact ho3 b hb
    .simp only[Qgz,Qh6]at hl
     obtain⟨rfl,_⟩:=hl
     exact .inr g2
   .simp only[get]
    cases h0:Nat.beq s.t t with
    |true =>
     have:=Qh1 h0
     subst this
     simp only[cond_true]
     rw[g1]
     refine .ptr (J3 σ3 m3.new _) fun pl hpl'=>?_
     injection hpl' with hpl'
     subst hpl'
     exact⟨Qgx _,fun _=>⟨bx,1,rfl,by simp⟩⟩
    | false =>
     simp only[cond_false]
     cases h1:Nat.beq s.tx t with
     |true=>simp only[cond_true];exact .junk
     |false =>
      simp only[cond_false]
      exact(hEv t (fun e=>Qhv h0 e.symm) (fun e=>Qhv h1 e.symm)).mono (fun _ h=>h) (fun _ _=>rfl) hs4
 have main:∀ (fuel:Nat) (listed:Array Bool) (a':Act) (w':World),listed.size=ops.size→unl listed.toList≤fuel→Inv listed a' w'→wpAnyIn (Fen ro) 0 P .any ops Q fuel listed a' w':=by
  intro fuel
  induction fuel with
  | zero =>
   intro listed a' w' hls hun hI
   have hall:∀i,i<ops.size->listed.getD i true=true:=fun i hi=>by
    rw[Qu]
    cases hb:listed.toList[i]? with
    |none=>rfl
    |some b=>exact Lv Om i b hb
   refine⟨List.eq_nil_iff_forall_not_mem.2 fun i hi=>?_,fin _ _ _ hall hI⟩
   obtain⟨g1,o,ho,_⟩:=mem_ready.1 hi
   rw[hall i (Qh4.1 ho).1]at g1
   cases g1
  | succ fuel ih =>
   intro listed a' w' hls hun hI
   refine⟨fun hnil=>fin _ _ _ (fun i=>?_) hI,fun i hi=>?_⟩
   .induction i using Nat.strongRecOn with
    | _ i ihi =>
     intro hi
     cases hb:listed.getD i true with
     |true=>rfl
     | false =>
      exfalso
      have ho:ops[i]?=some ops[i]:=Array.getElem?_eq_getElem hi
      have:i∈Region.ready .any ops listed:=mem_ready.2 ⟨hb,_,ho,fun e he hbe=>by
       have hlt:=(hO i _ ho).back e he hbe
       have:=ihi e.on hlt Om
       rw[Qu]at this⊢
       have hin:e.on<listed.toList.length:=by rw[Qhg,hls];omega
       rw[Qgy hin]at this⊢
       exact this⟩
      rw[hnil]at this
      cases this
   .obtain ⟨g1,o,ho,g2⟩:=mem_ready.1 hi
    have hin:i<ops.size:=(Qh4.1 ho).1
    have hoi:=hO i o ho
    obtain⟨i1,i2,ic,F',i3,bx,ibx,hph⟩:=hI
    have hmw:Q3 m σ F' w':=i3.mem hm
    have hbk:∀e∈o.after,Region.binds .any e=true->listed.getD e.on true=true:=fun e he hbe=>by
     have hlt:=hoi.back e he hbe
     have:=g2 e he hbe
     rw[Qu]at this⊢
     have hin2:e.on<listed.toList.length:=by rw[Qhg,hls];omega
     rw[Qgy hin2]at this⊢
     exact this
    have hlist:listed.toList[i]?=some false:=by
     rw[Qu]at g1
     cases hb:listed.toList[i]? with
     |none=>rw[hb]at g1;cases g1
     |some b=>rw[hb]at g1;simp at g1;rw[g1]
    have hsetc:∀(j:Nat) o',ops[j]?=some o'->(listed.setIfInBounds i true).getD j true=true->∀e∈o'.after,Region.binds .any e=true->(listed.setIfInBounds i true).getD e.on true=true:=fun j o' ho' hj e he hb=>by
     have hsetm:∀j,listed.getD j true=true->(listed.setIfInBounds i true).getD j true=true:=fun j h=>by
      by_cases e:j=i
      .subst e;exact Gx
      .rw[Ze e];exact h
     by_cases hji:j=i
     .subst hji
      rw[ho]at ho'
      cases ho'
      exact hsetm _ (hbk e he hb)
     .rw[Ze hji]at hj
      exact hsetm _ (ic j o' ho' hj e he hb)
    have hunl:unl (listed.setIfInBounds i true).toList<=fuel:=by
     have:=Kd hlist
     rw[Qhi]
     omega
    have hwant:pre.length<=i->Region.wanted o (yielded ops a'.tmps)=true:=fun hge=>by
     have hg:o.guard=none:=by
      rcases show i=pre.length\/i=pre.length+1\/i=pre.length+2 by omega with e|e|e<;>subst e
      .rw[hob]at ho;injection ho with ho;subst ho;exact bgd
      .rw[hoa]at ho;injection ho with ho;subst ho;exact agd
      .rw[hos]at ho;injection ho with ho;subst ho;exact sgd
     simp[Region.wanted,hg]
    have allB:listed.getD pre.length true=true->∀j,j<pre.length->listed.getD j true=true:=fun hn=>clos listed ic fun e he hb=>ic _ ob hob hn e he hb
    have hbackL:pre.length<=i->∀k r,Live (listed.setIfInBounds i true) k r->Live listed k r:=fun hge k r ⟨l1,l2,l3⟩=>by
     have hk:=hMadeP k r l1
     refine⟨l1,by rw[<-Ze (show k≠i by omega)];exact l2,fun k' hk'=>?_⟩
     have hk'p:k'<pre.length:=by
      obtain⟨_,o',h3,_⟩:=hX.tookAt k' r hk'
      exact(hlp k' o' h3).1
     rw[<-Ze (show k'≠i by omega)]
     exact l3 k' hk'
    rcases Qi6 i pre.length with hip|hip
    case inr =>
     have hw:=hwant hip
     rcases show i=pre.length\/i=pre.length+1\/i=pre.length+2 by omega with ei|ei|ei
     · -- the value is built
      subst ei
      rw[hob]at ho
      injection ho with ho
      subst ho
      rcases hph with ⟨_,S,i4,i5,i6,inb⟩|⟨hB,_⟩
      rotate_left
      .rw[g1]at hB;cases hB
      have hall:=clos listed ic hbk
      have hlive:∀r:R3,made r.i=some r.row->(∀k,took k≠some r.row)->Live listed r.i r.row:=fun r hm' ht=>⟨hm',hall _ (hMadeP _ _ hm'),fun k' hk'=>absurd hk' (ht k')⟩
      have l1:=hlive r1 hr1.1 hr1.2
      have l2:=hlive r2 hr2.1 hr2.2
      have l3:=hlive r3 hr3.1 hr3.2
      obtain⟨x1,x2,x3⟩:=i5 _ _ l1
      obtain⟨y1,y2,y3⟩:=i5 _ _ l2
      obtain⟨z1,z2,z3⟩:=i5 _ _ l3
      obtain⟨σ1,a1,a2,a3,a4⟩:=Ck hmw x1 (fun b hb ho=>by have:=x3 b hb;have:=hownw b ho;omega) d1 x2
      obtain⟨σ2,b1,b2,b3,b4⟩:=Ck a1 y1 (fun b hb ho=>(a4 b ho).elim (fun ho=>by have:=y3 b hb;have:=hownw b ho;omega) fun ho=>i6 _ _ _ _ l1 l2 ne12 b ho hb) d2 y2
      obtain⟨σ3,c1,c2,c3,c4⟩:=Ck b1 z1 (fun b hb ho=>(b4 b ho).elim (fun ho=>(a4 b ho).elim (fun ho=>by have:=z3 b hb;have:=hownw b ho;omega) fun ho=>i6 _ _ _ _ l1 l3 ne13 b ho hb) fun ho=>i6 _ _ _ _ l2 l3 ne23 b ho hb) d3 z2
      have tr:∀{σa σb σc:Pls},SLe σa σb->SLe σb σc->SLe σa σc:=fun h1 h2 r q hq=>by
       obtain⟨q1,h3,h4⟩:=h1 r q hq
       obtain⟨q2,h5,h6⟩:=h2 r q1 h3
       exact⟨q2,h5,h4.trans h6⟩
      have s3:SLe σ σ3:=tr a2 (tr b2 c2)
      have hEt:∀t,t≠s.t->t≠s.tx->Vc w' F' σ3 (get E t) (a'.tmps.getD t undef):=fun t ht1 ht2=>by
       refine Vc.mono (w:=w') (F:=F') (σ:=σ) (fun _ h=>h) (fun _ _=>rfl) s3 ?_
       by_cases hex:∃(j:Nat) (o:Oper),ops[j]?=some o/\o.dst=some t
       .obtain⟨j,o,ho,hdo⟩:=hex
        have hj:j<ops.size:=(Qh4.1 ho).1
        have hjp:j<pre.length:=by
         rcases show j<pre.length\/j=pre.length\/j=pre.length+1\/j=pre.length+2 by omega with hj|hj|hj|hj
         .exact hj
         .rw[hj,hob]at ho;injection ho with ho;subst ho;rw[bdst]at hdo;injection hdo with hdo;exact absurd hdo.symm ht2
         .rw[hj,hoa]at ho;injection ho with ho;subst ho;rw[adst]at hdo;injection hdo with hdo;exact absurd hdo.symm ht1
         .rw[hj,hos]at ho;injection ho with ho;subst ho;rw[sdst]at hdo;cases hdo
        rw[<-hE,hEd j o t ho hdo _ hjp hlen]
        exact(i4 t).1 j o hjp ho hdo (hall j hjp)
       .rw[<-hE,hE0 t _ hlen (fun j o ho hdo=>absurd ⟨j,o,ho,hdo⟩ hex)]
        exact(i4 t).2 fun j o ho hdo=>absurd ⟨j,o,ho,hdo⟩ hex
      have hE3:Ql ((r1.t,.osl m.new r1.g 0 r1.n) :: (r2.t,.osl (m.add r1.blk).new r2.g 0 r2.n) :: (r3.t,.osl ((m.add r1.blk).add r2.blk).new r3.g 0 r3.n) :: (s.t,.junk) :: (s.tx,.junk) :: E) w' F' σ3 a'.tmps:=fun t=>by
       simp only[get]
       cases k1:Nat.beq r1.t t with
       |true=>have:=Qh1 k1;subst this;simp only[cond_true];exact a3.mono (fun _ h=>h) (fun _ _=>rfl) (tr b2 c2)
       | false =>
        simp only[cond_false]
        cases k2:Nat.beq r2.t t with
        |true=>have:=Qh1 k2;subst this;simp only[cond_true];exact b3.mono (fun _ h=>h) (fun _ _=>rfl) c2
        | false =>
         simp only[cond_false]
         cases k3:Nat.beq r3.t t with
         |true=>have:=Qh1 k3;subst this;simp only[cond_true];exact c3
         | false =>
          simp only[cond_false]
          cases k4:Nat.beq s.t t with
          |true=>simp only[cond_true];exact .junk
          |false =>
           simp only[cond_false]
           cases k5:Nat.beq s.tx t with
           |true=>simp only[cond_true];exact .junk
           |false=>simp only[cond_false];exact hEt t (fun e=>Qhv k4 e.symm) (fun e=>Qhv k5 e.symm)
      obtain⟨u,hu,hrun⟩:=Nn (a:=a') (o:=ob) hT c1 hE3 hev hl
      unfold wpOpIn
      simp only[hob,hw,if_true]
      refine V5 (fun c hc=>by rw[hc,D5]at hev;cases hev) ?_
      rw[hrun w' (V6.refl F' σ3 w'),Oper.uponIn_value]
      have putx:(a'.put ob.dst u).tmps.getD s.tx undef=u:=by rw[bdst,put_eq (by rw[i1];exact hxN)]
      have putn:∀t,t≠s.tx->(a'.put ob.dst u).tmps.getD t undef=a'.tmps.getD t undef:=fun t ht=>Ln (by rw[bdst];exact fun e=>ht (by injection e with e;exact e.symm))
      refine ih _ _ _ (by simp[hls]) hunl ⟨by rw[Y3];exact i1,by rw[put_defers];exact i2,hsetc,F',i3,bx,⟨fun hx=>?_,fun hx=>?_⟩,.inr ⟨Gx,σ3,c1,s3,fun b hb=>?_,fun hx hb=>?_,by rw[putx];exact hu,fun t ht1 ht2=>by rw[putn t ht2];exact hEt t ht1 ht2⟩⟩
      .rw[Ze Om]at hx
       have:=(ibx.1 hx).2
       rw[g1]at this
       cases this
      .rw[Ze Om]at hx
       obtain⟨g3,g4,g5,g6,us,g7,g8,g9⟩:=ibx.2 hx
       rw[putn _ htx,Ze Om]
       refine⟨g3,g4,g5,g6,us,g7,g8,fun hs=>?_⟩
       have:=(ibx.1 hs).2
       rw[g1]at this
       cases this
      .rcases c4 b hb with hb|hb
       .rcases b4 b hb with hb|hb
        .rcases a4 b hb with hb|hb
         .exact .inl hb
         .exact .inr (x3 b hb)
        .exact .inr (y3 b hb)
       .exact .inr (z3 b hb)
      .rw[Ze Om]at hx
       have hbge:=(ibx.2 hx).2.1
       rcases c4 bx hb with hb|hb
       .rcases b4 bx hb with hb|hb
        .rcases a4 bx hb with hb|hb
         .have:=hownw bx hb;omega
         .exact inb hx _ _ l1 hb
        .exact inb hx _ _ l2 hb
       .exact inb hx _ _ l3 hb
     · -- the variable is made
      subst ei
      rw[hoa]at ho
      injection ho with ho
      subst ho
      unfold wpOpIn
      simp only[hoa,hw,if_true]
      obtain⟨us,hus,hrun⟩:=Q42 hT hti w'
      refine V5 (fun d h=>by rw[aop]at h;cases h) ?_
      rw[hrun a' oa aop]
      simp only[Oper.uponIn]
      have hkeep:∀x,x<w'.heap.size->(w'.alloc (.cells us.toArray s.e)).heap[x]?=w'.heap[x]?:=fun x hx=>heap_alloc_old w' _ hx
      have hsz2:(w'.alloc (.cells us.toArray s.e)).heap.size=w'.heap.size+1:=size_alloc w' _
      have hgr:Qn F' w' F' (w'.alloc (.cells us.toArray s.e)):=⟨rfl,rfl,rfl,Qgx _,Om,fun x hx=>hkeep x hx,fun _ h=>h,fun _ h=>.inl h,fun x hx=>by have:=hmw.fl x hx;omega⟩
      have kF:∀b,F' b->(w'.alloc (.cells us.toArray s.e)).heap[b]?=w'.heap[b]?:=fun x hx=>hkeep x (hmw.fl x hx)
      have puta:∀v,(a'.put oa.dst v).tmps.getD s.t undef=v:=fun v=>by rw[adst,put_eq (by rw[i1];exact h0N)]
      have putn:∀t v,t≠s.t->(a'.put oa.dst v).tmps.getD t undef=a'.tmps.getD t undef:=fun t v ht=>Ln (by rw[adst];exact fun e=>ht (by injection e with e;exact e.symm))
      have hns:listed.getD (pre.length+2) true=false:=by
       cases h:listed.getD (pre.length+2) true with
       |false=>rfl
       |true=>have:=(ibx.1 h).1;rw[g1]at this;cases this
      refine ih _ _ _ (by simp[hls]) hunl ⟨by rw[Y3];exact i1,by rw[put_defers];exact i2,hsetc,F',i3.trans hgr,w'.heap.size,⟨fun hx=>?_,fun _=>?_⟩,?_⟩
      .rw[Ze Om,hns]at hx
       cases hx
      .rw[puta,Ze Om,hns]
       exact⟨rfl,i3.size,Om,fun h=>by have:=hmw.fl _ h;omega,us,heap_alloc_new w' _,hus,fun h=>by cases h⟩
      .rcases hph with ⟨hA,S,i4,i5,i6,inb⟩|⟨hB,σ3,hm3,hs3,ho3,hnb,hu,hEv⟩
       .refine .inl ⟨by rw[Ze Om];exact hA,S,fun t=>⟨fun j o' hjp ho' hd' hj=>?_,fun hno=>?_⟩,fun k r hl=>?_,fun k r k2 r2 hl hl2 hne=>i6 k r k2 r2 (hbackL hip k r hl) (hbackL hip k2 r2 hl2) hne,fun _ k r hl hob=>?_⟩
        .rw[Ze Om]at hj
         have ht:t≠s.t:=fun e=>by have:=alN j o' ho' (by rw[<-e];exact hd');omega
         rw[putn t _ ht]
         exact((i4 t).1 j o' hjp ho' hd' hj).mono (fun _ h=>h) kF (SLe.refl σ)
        .have ht:t≠s.t:=fun e=>by
          have:=hno _ oa hoa (by rw[e];exact adst)
          rw[Gx]at this
          cases this
         rw[putn t _ ht]
         refine((i4 t).2 fun j o' ho' hd'=>?_).mono (fun _ h=>h) kF (SLe.refl σ)
         have:=hno j o' ho' hd'
         rwa [Ze (fun e=>ht (by subst e;rw[hoa]at ho';cases ho';rw[adst]at hd';injection hd' with hd';exact hd'.symm))]at this
        .have hl':=hbackL hip k r hl
         obtain⟨q1,q2,q3⟩:=i5 k r hl'
         obtain⟨_,o2,q4,q5⟩:=hMade _ _ hl'.1
         have ht:r.tmp≠s.t:=fun e=>by have:=alN k o2 q4 (by rw[<-e];exact q5);have:=hMadeP k r hl'.1;omega
         rw[putn _ _ ht]
         exact⟨hgr.mem q1,q2.mono (fun _ h=>h) kF (SLe.refl _),q3⟩
        .have:=(H3 (i5 k r (hbackL hip k r hl)).1 _ hob).2
         omega
       .refine .inr ⟨by rw[Ze Om];exact hB,σ3,hgr.mem hm3,hs3,ho3,fun _ hob=>?_,?_,fun t ht1 ht2=>?_⟩
        .have:=(H3 hm3 _ hob).2
         omega
        .rw[putn _ _ (fun e=>htx e.symm)]
         exact hu.mono (fun _ h=>h) kF (SLe.refl _)
        .rw[putn _ _ ht1]
         exact(hEv t ht1 ht2).mono (fun _ h=>h) kF (SLe.refl _)
     · -- the variable is filled
      subst ei
      rw[hos]at ho
      injection ho with ho
      subst ho
      obtain⟨e1,he1,heq1,hbi1⟩:=sed1
      obtain⟨e2,he2,heq2,hbi2⟩:=sed2
      have hla:listed.getD (pre.length+1) true=true:=by have:=hbk e1 he1 hbi1;rwa [heq1]at this
      have hlb:listed.getD pre.length true=true:=by have:=hbk e2 he2 hbi2;rwa [heq2]at this
      rcases hph with ⟨hA,_⟩|⟨hB,σ3,hm3,hs3,ho3,hnb,hu,hEv⟩
      .rw[hlb]at hA;cases hA
      have hnb:=hnb hla
      obtain⟨g3,g4,g5,g6,us,g7,g8,_⟩:=ibx.2 hla
      obtain⟨vs,hvs⟩:∃vs:List Value,a'.tmps.getD s.tx undef=.agg vs.toArray/\vs.length=cs.length/\∀(j:Nat) x u,cs[j]?=some x->vs[j]?=some u->Vc w' F' σ3 x u:=by
       generalize a'.tmps.getD s.tx undef=U at hu
       cases hu with
       |@agg _ us' hl' hc'=>exact⟨us',rfl,hl',hc'⟩
      obtain⟨hv,hvl,hvc⟩:=hvs
      have hone:=Me hm3 hvl hvc hones hp
      have hst:=Qfi (P:=P) hT hti (us:=us) (vs:=vs) Om (fun v hv=>by obtain⟨j,hj,e⟩:=List.getElem_of_mem hv;exact hone j v (by rw[Qgy hj,e])) g7 Om
      unfold wpOpIn
      simp only[hos,hw,if_true]
      refine V5 (fun d h=>by rw[sop]at h;cases h) ?_
      have hex:(execOp a'.eval os).run P w'=.ok .skip (w'.setRow bx vs.toArray):=by
       have e3:a'.eval (.tmp s.t)=.pointer (some ⟨bx,0,none⟩):=g3
       have e4:a'.eval (.tmp s.tx)=.agg vs.toArray:=hv
       simp[execOp,sop,e3,e4,hst]
      rw[hex]
      simp only[Oper.uponIn]
      have hoth:∀x,x≠bx->(w'.setRow bx vs.toArray).heap[x]?=w'.heap[x]?:=fun x hx=>setRow_other w' bx x _ hx
      have hsz2:(w'.setRow bx vs.toArray).heap.size=w'.heap.size:=size_setRow _ _ _
      have kF:∀b,F' b->(w'.setRow bx vs.toArray).heap[b]?=w'.heap[b]?:=fun x hx=>hoth x (fun e=>g6 (e▸hx))
      have hgr:Qn F w F' (w'.setRow bx vs.toArray):=⟨i3.os,i3.tape,i3.output,i3.drawn,by rw[hsz2];exact i3.size,fun x hx=>(hoth x Om).trans (i3.keep x hx),i3.fro,i3.fro',fun x hx=>by rw[hsz2];exact i3.lt x hx⟩
      have putn:∀t v,(a'.put os.dst v).tmps.getD t undef=a'.tmps.getD t undef:=fun t v=>Ln (by rw[sdst];exact fun e=>by cases e)
      refine ih _ _ _ (by simp[hls]) hunl ⟨by rw[Y3];exact i1,by rw[put_defers];exact i2,hsetc,F',hgr,bx,⟨fun _=>⟨by rw[Ze Om];exact hla,by rw[Ze Om];exact hlb⟩,fun _=>?_⟩,.inr ⟨by rw[Ze Om];exact hlb,σ3,hm3.world (by rw[hsz2];exact Qgx _) fun x hx=>?_,hs3,ho3,fun _=>hnb,?_,fun t ht1 ht2=>?_⟩⟩
      .rw[putn,putn]
       exact⟨g3,g4,by rw[hsz2];exact g5,g6,vs,setRow_heap w' bx us.toArray _ s.e (0,0) g7,Om,fun _=>hv⟩
      .rcases hx with hx|hx
       .exact kF x hx
       .exact hoth x (fun e=>hnb (e▸hx))
      .rw[putn]
       exact hu.mono (fun _ h=>h) kF (SLe.refl _)
      .rw[putn]
       exact(hEv t ht1 ht2).mono (fun _ h=>h) kF (SLe.refl _)
    rcases hph with ⟨hln,S,i4,i5,i6,inb⟩|⟨hB,_⟩
    rotate_left
    .rw[allB hB i hip]at g1;cases g1
    have toT:∀j,j<ops.size->listed.getD j false=true->listed.getD j true=true:=fun j hj h=>by
     rw[Qu]at h⊢
     have hin2:j<listed.toList.length:=by rw[Qhg,hls];omega
     rw[Qgy hin2]at h⊢
     exact h
    have hslots:∀ t∈Zs ops.toList o,Vc w' F' σ (get (Qi env ops.toList As i) t) (a'.tmps.getD t undef):=fun t ht=>by
     by_cases hex:∃(j:Nat) (o':Oper),ops[j]?=some o'/\o'.dst=some t
     .obtain⟨j,o',ho',hdo'⟩:=hex
      have hj:j<ops.size:=(Qh4.1 ho').1
      have honce:∀(j2:Nat) o2,ops[j2]?=some o2->o2.dst=some t->j2=j:=fun j2 o2 h3 h4=>(hO j o' ho').once t hdo' j2 o2 (by rw[Qh2];exact h3) h4
      rcases hoi.defs t ht j o' (by rw[Qh2];exact ho') hdo' with ⟨hji,e,hee,heon,heb⟩|⟨hij,hcase⟩
      .rw[hEd j o' t ho' hdo' i hji Om]
       refine(i4 t).1 j o' Om ho' hdo' ?_
       have:=g2 e hee heb
       rw[heon]at this
       exact toT j hj this
      .rw[hE0 t i Om (fun j2 o2 h3 h4=>by rw[honce j2 o2 h3 h4];exact hij)]
       refine(i4 t).2 fun j2 o2 h3 h4=>?_
       have hj2:=honce j2 o2 h3 h4
       subst hj2
       rcases hcase with rfl|⟨e,hee,heon,heb⟩
       .exact g1
       .cases hb:listed.getD j2 true with
        |false=>rfl
        |true =>
         have:=ic j2 o' ho' hb e hee heb
         rw[heon,g1]at this
         cases this
     .rw[hE0 t i Om (fun j2 o2 h3 h4=>absurd ⟨j2,o2,h3,h4⟩ hex)]
      exact(i4 t).2 fun j2 o2 h3 h4=>absurd ⟨j2,o2,h3,h4⟩ hex
    let σr:Pls:=match took i with
     |some r=>S r.idx
     |none=>σ
    have hlive:∀r,took i=some r->Live listed r.idx r:=fun r hr=>by
     obtain⟨g3,g4,o',g5,g6⟩:=hTook i r hr
     rw[ho]at g5
     cases g5
     obtain⟨_,o2,g7,g8⟩:=hMade _ _ g4
     refine⟨g4,?_,fun k' hk'=>by rw[hX.once k' i r r hk' hr rfl];exact g1⟩
     rcases hoi.defs r.tmp (Yu.2 (.inl g6)) r.idx o2 (by rw[Qh2];exact g7) g8 with ⟨hji,e,hee,heon,heb⟩|⟨hij,_⟩
     .have:=g2 e hee heb
      rw[heon]at this
      exact toT _ (Qh4.1 g7).1 this
     .omega
    have hσr:∀r,took i=some r->σr=S r.idx:=fun r hr=>by simp only[σr,hr]
    have hdoes:=hD i o hip ho F' w' a' σr hmw hslots (fun r hr=>by
     rw[hσr r hr]
     exact⟨(i5 _ r (hlive r hr)).1,(i5 _ r (hlive r hr)).2.1⟩)
    have hy:ops.toList.toArray=ops:=Qi2
    rw[hy]at hdoes
    have hlist:listed.toList[i]?=some false:=by
     rw[Qu]at g1
     cases hb:listed.toList[i]? with
     |none=>rw[hb]at g1;cases g1
     |some b=>rw[hb]at g1;simp at g1;rw[g1]
    have next:∀ (v:Value) (w2:World),Kj P σ σr F' w' (As i) (took i) (made i) v w2→wpAnyIn (Fen ro) 0 P .any ops Q fuel (listed.setIfInBounds i true) (a'.put o.dst v) w2:=by
     rintro v w2 ⟨F2,hc,hv,hmk⟩
     have hBof:∀b,BOf (took i) σr b->∃r,took i=some r/\Qm (S r.idx) b:=fun b hb=>by
      cases ht:took i with
      |none=>rw[ht]at hb;exact hb.elim
      |some r=>rw[ht]at hb;rw[hσr r ht]at hb;exact⟨r,rfl,hb⟩
     have hB0:∀b,BOf (took i) σr b->w.heap.size<=b:=fun b hb=>by
      obtain⟨r,hr,hb⟩:=hBof b hb
      exact(i5 _ r (hlive r hr)).2.2 b hb
     have hBF:∀b,BOf (took i) σr b->¬ F' b:=fun b hb=>by
      obtain⟨r,hr,hb⟩:=hBof b hb
      exact(H3 (i5 _ r (hlive r hr)).1 b hb).1
     have hg:Qn F w F2 w2:=hc.grew i3 hB0
     have hfz:=hc.frozen hmw hBF
     have hset:∀j,j≠i->(listed.setIfInBounds i true).getD j true=listed.getD j true:=fun j hne=>by
      rw[Qu,Qhi,List.getElem?_set_ne (fun e=>hne e.symm),<-Qu]
     have hsetm:∀j,listed.getD j true=true->(listed.setIfInBounds i true).getD j true=true:=fun j h=>by
      by_cases e:j=i
      .subst e;rw[h]at g1;cases g1
      .rw[hset j e];exact h
     have hseti:(listed.setIfInBounds i true).getD i true=true:=by
      rw[Qu,Qhi,List.getElem?_set_self (by rw[Qhg,hls];exact hin)]
      rfl
     have hput:∀t,o.dst=some t->(a'.put o.dst v).tmps.getD t undef=v:=fun t hdt=>by
      have hdN:=hdst i o t ho hdt
      rw[hdt]
      simp only[Act.put,Qhk]
      rw[Array.getElem?_setIfInBounds_self_of_lt (by rw[i1];exact hdN)]
      rfl
     have hputn:∀t,o.dst≠some t->(a'.put o.dst v).tmps.getD t undef=a'.tmps.getD t undef:=fun t hdt=>by
      cases hdo:o.dst with
      |none=>rfl
      |some d =>
       simp only[Act.put,Qhk]
       rw[Array.getElem?_setIfInBounds_ne (fun e=>hdt (by rw[hdo,e]))]
     have hback:∀k r,k≠i->Live (listed.setIfInBounds i true) k r->Live listed k r/\took i≠some r:=fun k r hne ⟨l1,l2,l3⟩=>by
      have hni:took i≠some r:=fun e=>by
       have:=l3 i e
       rw[hseti]at this
       cases this
      refine⟨⟨l1,by rw[<-hset k hne];exact l2,fun k' hk'=>?_⟩,hni⟩
      have hne':k'≠i:=fun e=>hni (by rw[<-e];exact hk')
      rw[<-hset k' hne']
      exact l3 k' hk'
     have hdisj:∀k r,k≠i->Live (listed.setIfInBounds i true) k r->∀b,BOf (took i) σr b->¬ Qm (S k) b:=fun k r hne hl b hb=>by
      obtain⟨r1,hr1,hb1⟩:=hBof b hb
      obtain⟨hl',hni⟩:=hback k r hne hl
      refine i6 r1.idx r1 k r (hlive r1 hr1) hl' (fun e=>hni ?_) b hb1
      have:=(hlive r1 hr1).1
      rw[e,hl'.1]at this
      rw[hr1,this]
     obtain⟨σ2,hσ2⟩:∃σ2:Pls,∀r,made i=some r->Q3 r.mem σ2 F2 w2/\Vc w2 F2 σ2 r.val v/\∀b,Qm σ2 b->BOf (took i) σr b\/w'.heap.size<=b:=by
      cases hmi:made i with
      |none=>exact⟨σ,fun r hr=>by cases hr⟩
      |some r =>
       obtain⟨σ2,q⟩:=hmk r hmi
       exact⟨σ2,fun r' hr'=>by cases hr';exact q⟩
     let S2:Nat->Pls:=fun k=>if k=i then σ2 else S k
     have hS2i:S2 i=σ2:=if_pos rfl
     have hS2n:∀k,k≠i->S2 k=S k:=fun k h=>if_neg h
     refine ih _ _ _ (by simp[hls]) ?_ ⟨by rw[Y3];exact i1,by rw[put_defers];exact i2,fun j o' ho' hj e he hb=>?_,F2,hg,bx,⟨fun hx=>?_,fun hx=>?_⟩,.inl ⟨?_,S2,fun t=>?_,fun k r hl=>?_,fun k r k2 r2 hl hl2 hne b hb hb2=>?_,fun hx k r hl hob=>?_⟩⟩
     .have:=Kd hlist
      rw[Qhi]
      omega
     .by_cases hji:j=i
      .subst hji
       rw[ho]at ho'
       cases ho'
       have hlt:=hoi.back e he hb
       exact hsetm _ (toT _ Om (g2 e he hb))
      .rw[hset j hji]at hj
       exact hsetm _ (ic j o' ho' hj e he hb)
     .rw[hset _ Om]at hx
      rw[hset _ Om,hset _ Om]
      exact ibx.1 hx
     .rw[hset _ Om]at hx
      have hh:=ibx.2 hx
      have hnb:¬ BOf (took i) σr bx:=fun hb=>by
       obtain⟨r,hr,hb⟩:=hBof bx hb
       exact inb hx _ r (hlive r hr) hb
      rw[hset _ Om,hputn _ (fun e=>by have:=alN i o ho e;omega)]
      obtain⟨g3,g4,g5,g6,us,g7,g8,g9⟩:=hh
      refine⟨g3,g4,Qic g5 hc.size,fun hF2=>?_,us,by rw[hc.keep bx g5 hnb];exact g7,g8,fun hs=>by rw[(ibx.1 hs).2]at hln;cases hln⟩
      rcases hc.fro' bx hF2 with h|h|h
      .exact g6 h
      .exact hnb h
      .omega
     .rw[hset _ Om]
      exact hln
     .have mono:∀{A u},Vc w' F' σ A u->Vc w2 F2 σ A u:=fun h=>h.mono hc.fro hfz (SLe.refl σ)
      by_cases hdt:o.dst=some t
      .rw[hput t hdt]
       refine⟨fun j o' _ ho' hd' _=>?_,fun hno=>?_⟩
       .have:=hoi.once t hdt j o' (by rw[Qh2];exact ho') hd'
        subst this
        exact hv
       .have:=hno i o ho hdt
        rw[hseti]at this
        cases this
      .rw[hputn t hdt]
       have hne:∀(j:Nat) o',ops[j]?=some o'->o'.dst=some t->j≠i:=fun j o' ho' hd' e=>by
        subst e
        rw[ho]at ho'
        cases ho'
        exact hdt hd'
       refine⟨fun j o' hjp ho' hd' hj=>?_,fun hno=>?_⟩
       .rw[hset j (hne j o' ho' hd')]at hj
        exact mono ((i4 t).1 j o' hjp ho' hd' hj)
       .exact mono ((i4 t).2 fun j o' ho' hd'=>by
         have:=hno j o' ho' hd'
         rwa [hset j (hne j o' ho' hd')]at this)
     .by_cases hk:k=i
      .subst hk
       obtain⟨q1,q2,q3⟩:=hσ2 r hl.1
       obtain⟨_,o2,q4,q5⟩:=hMade _ _ hl.1
       rw[ho]at q4
       cases q4
       rw[hS2i,hput _ q5]
       refine⟨q1,q2,fun b hb=>?_⟩
       rcases q3 b hb with h|h
       .exact hB0 b h
       .exact Qhx i3.size h
      .obtain⟨hl',hni⟩:=hback k r hk hl
       obtain⟨q1,q2,q3⟩:=i5 k r hl'
       obtain⟨_,o2,q4,q5⟩:=hMade _ _ hl'.1
       have hdt:o.dst≠some r.tmp:=fun e=>hk (hoi.once _ e k o2 (by rw[Qh2];exact q4) q5)
       rw[hS2n k hk,hputn _ hdt]
       exact⟨Chg.mem q1 hc (hdisj k r hk hl) hBF,q2.mono hc.fro hfz (SLe.refl _),q3⟩
     .by_cases hk:k=i
      .subst hk
       rw[hS2i]at hb
       rw[hS2n k2 (fun e=>hne e.symm)]at hb2
       obtain⟨hl2',_⟩:=hback k2 r2 (fun e=>hne e.symm) hl2
       rcases(hσ2 r hl.1).2.2 b hb with h|h
       .exact hdisj k2 r2 (fun e=>hne e.symm) hl2 b h hb2
       .have:=(H3 (i5 k2 r2 hl2').1 b hb2).2
        omega
      .obtain⟨hl',_⟩:=hback k r hk hl
       rw[hS2n k hk]at hb
       by_cases hk2:k2=i
       .subst hk2
        rw[hS2i]at hb2
        rcases(hσ2 r2 hl2.1).2.2 b hb2 with h|h
        .exact hdisj k r hk hl b h hb
        .have:=(H3 (i5 k r hl').1 b hb).2
         omega
       .obtain⟨hl2',_⟩:=hback k2 r2 hk2 hl2
        rw[hS2n k2 hk2]at hb2
        exact i6 k r k2 r2 hl' hl2' hne b hb hb2
     .rw[hset _ Om]at hx
      have hh:=ibx.2 hx
      have hnb:¬ BOf (took i) σr bx:=fun hb=>by
       obtain⟨r,hr,hb⟩:=hBof bx hb
       exact inb hx _ r (hlive r hr) hb
      by_cases hk:k=i
      .subst hk
       rw[hS2i]at hob
       rcases(hσ2 r hl.1).2.2 bx hob with h|h
       .exact hnb h
       .have:=hh.2.2.1
        omega
      .obtain⟨hl',_⟩:=hback k r hk hl
       rw[hS2n k hk]at hob
       exact inb hx k r hl' hob
    unfold wpOpIn
    simp only[ho]
    cases hw:Region.wanted o (yielded ops a'.tmps) with
    |false =>
     simp only[Bool.false_eq_true,if_false]
     obtain⟨t1,t2,t3⟩:=hdoes.2 hw
     exact⟨fun _ _=>trivial,next _ _ ⟨F',(Qn.refl hmw.fl).chg,t3 _ _,fun r hr=>by rw[t2]at hr;cases hr⟩⟩
    | true =>
     simp only[if_true]
     have h3:=hdoes.1 hw
     have hdef:∀c,o.op≠.defer c:=fun c hc=>by
      simp only[execOp,hc,Sem.run_bind]at h3
      cases hr:(resolve a'.eval c o.type).run P w'<;>simp[hr,Result.andThen,Hl]at h3
     refine V5 hdef ?_
     generalize (execOp a'.eval o).run P w'=r at h3
     cases r with
     | ok x w2 =>
      cases x<;>simp only[Hl]at h3<;>simp only[Oper.uponIn]
      case value u=>exact next u w2 h3
      case skip=>exact next undef w2 h3
      case enter f args =>
       obtain⟨t1,t2,e1,hc⟩:=h3
       rw[e1]
       exact⟨We,Y7.2 (hc.mono fun e w3 ⟨u,F3,he,k1,k2⟩=>by subst he;exact next u w3 ⟨F3,k1.chg,k2,fun r hr=>by rw[t2]at hr;cases hr⟩)⟩
     |halt x w2=>simp only[Hl]at h3
 have hrep:∀j,j<ops.size->(Array.replicate ops.size false).getD j true=false:=fun j hj=>by
  rw[Qu,Qi0,Qik,if_pos hj]
  rfl
 refine wpIn_region_any h1 (main ops.size _ a _ (by simp) ?_ ⟨hN,rfl,fun j o ho hj=>?_,F,Qn.drew hm.fl,0,⟨fun hx=>?_,fun hx=>?_⟩,.inl ⟨hrep _ Om,fun _=>σ,fun t=>⟨fun j o _ ho _ hj=>?_,fun _=>?_⟩,fun k r hl=>?_,fun k r k2 r2 hl=>?_,fun hx=>?_⟩⟩)
 .have:∀k,unl (List.replicate k false)=k:=fun k=>by
   induction k with
   |zero=>rfl
   |succ k ih=>rw[List.replicate_succ,unl,ih];simp;omega
  rw[Qi0,this]
  exact Qgx _
 .rw[hrep j (Qh4.1 ho).1]at hj
  cases hj
 .rw[hrep _ Om]at hx;cases hx
 .rw[hrep _ Om]at hx;cases hx
 .rw[hrep j (Qh4.1 ho).1]at hj
  cases hj
 .exact Vc.mono (w:=w) (w':={w with drawn:=w.drawn+1}) (fun _ h=>h) (fun _ _=>rfl) (SLe.refl σ) (he t)
 .obtain⟨_,o,ho,_⟩:=hMade k r hl.1
  have:=hl.2.1
  rw[hrep k (Qh4.1 ho).1]at this
  cases this
 .obtain⟨_,o,ho,_⟩:=hMade k r hl.1
  have:=hl.2.1
  rw[hrep k (Qh4.1 ho).1]at this
  cases this
 .rw[hrep _ Om]at hx;cases hx
def T8 (l:List Oper)(n:Nat):Bool:=(List.range n).all fun j=>(List.range (n+1)).any fun k=>Nat.blt j k&&match l[k]? with
 |some o=>Vi o.after.toList j
 |none=>false
theorem Q7h {ops:Array Oper}{n:Nat}(h:T8 ops.toList n=true):∀j,j<n->∃k o,j<k/\k<=n/\ops[k]?=some o/\Ku o j:=by
 intro j hj
 unfold T8 at h
 rw[Qi8]at h
 obtain⟨k,hk,h2⟩:=List.any_eq_true.1 (h j (List.mem_range.2 hj))
 rw[Qh5]at h2
 have hk:=List.mem_range.1 hk
 obtain⟨h3,h4⟩:=h2
 split at h4
 .rename_i o ho
  exact⟨k,o,Qhf h3,Om,by rw[<-Qh2];exact ho,Yq h4⟩
 .cases h4
theorem Bn.of {ops:Array Oper}{n:Nat}{s:Bo}{ob oa os:Oper}(b1:ops[n]?=some ob)(b2:ob.dst=some s.tx/\ob.guard=none)(a1:ops[n+1]?=some oa)(a2:oa.dst=some s.t/\oa.guard=none/\oa.op=.alloc s.e)(s1:ops[n+2]?=some os)(s2:os.dst=none/\os.guard=none/\os.op=.store s.e (.tmp s.t) (.tmp s.tx))
  (s3:Vi os.after.toList (n+1)=true) (s4:Vi os.after.toList n=true) (hc:T8 ops.toList n=true):Bn ops n s where
 bl:=⟨ob,b1,b2.1,b2.2⟩
 al:=⟨oa,a1,a2.1,a2.2.1,a2.2.2⟩
 st:=⟨os,s1,s2.1,s2.2.1,s2.2.2,Yq s3,Yq s4⟩
 cov:=Q7h hc
theorem Awp.rows3 (hT:Qb P T){id N:Nat}{ops:Array Oper}{env:Env}{Q:Ja}(n:Nat)(s:Bo){ob:Oper}(hob:ops[n]?=some ob)(h1:P.follows .mixedOrders=true)(h2:okR ops.toList=true)(hd:Jb N ops.toList=true)(hsuf:Nat.beq (ops.toList.drop n).length 3=true)
  (b0:Bn ops n s) {ti:TI} (hti:T.at s.e=some ti) (h0N:Nat.blt s.t N=true) (hxN:Nat.blt s.tx N=true)
  (h:vcZ P T ops.toList m (ops.toList.take n) 0 env [] (Ch T m ob.op s ti.size fun env m=>Ev (Q .normal env m))):Awp P N (.region id ops true) env m Q :=
 ⟨fun ro lo a w σ F hN hD he hm=>by
  have h4:=Qh1 hsuf
  have hl:(ops.toList.take n).length=n:=Q4o rfl (fun e=>by rw[e]at h4;cases h4)
  refine Q7p h1 h2 hT hm hd (Qil n _).symm h4 s (by rw[hl];exact hob) (by rw[hl];exact b0) hti (Qhf h0N) (Qhf hxN) h hN he ?_
  intro env' m' a' w' σ' F' hK hN' hD' hs hle hE hm'
  exact⟨_,m',σ',F',hK.o,hN',by rw[hD'];exact hD.step hs,hE,hm',hs,.of hle⟩⟩
end
section
variable {P:Program}{T:Tab}{N:Nat}{w:World}{F:Nat->Prop}{σ:Pls}{m:Mem}{env:Env}{K:AV->Mem->Prop}{o:Oper}
variable {ro:Option Nat}
end
end Go.Ab
