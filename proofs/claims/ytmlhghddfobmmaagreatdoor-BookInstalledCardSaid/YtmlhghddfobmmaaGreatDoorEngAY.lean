import Derived.Test.YtmlhghddfobmmaaGreatDoorEngAT
import Derived.Test.YtmlhghddfobmmaaGreatDoorEngAP
import Derived.Test.YtmlhghddfobmmaaGreatDoorEngAJ
import Derived.Test.YtmlhghddfobmmaaGreatDoorEngAA
namespace Go.Ab
set_option linter.unusedSimpArgs false
set_option linter.unusedVariables false
section
variable {P:Program}{T:Tab}{N:Nat}{w:World}{F:Nat->Prop}{σ:Pls}{m:Mem}{env:Env}{K:AV->Mem->Prop}{o:Oper}
variable {ro:Option Nat}
end
section
variable {P:Program}{T:Tab}{m:Mem}{σ:Pls}
structure BoxOk1 (T:Tab)(ops:Array Oper)(n:Nat)(s:BoxS):Prop where
 al:∃o,ops[n]?=some o/\o.dst=some s.t/\o.guard=none/\o.op=.alloc s.e
 st:∃o,ops[n+1]?=some o/\o.dst=none/\o.guard=none/\o.op=.store s.e (.tmp s.t) (.tmp s.tx)/\edgeTo o n/\edgeTo o s.jx
 vx:s.jx<n/\∃o,ops[s.jx]?=some o/\o.dst=some s.tx
 ty:∃ti,T.at s.e=some ti/\ti.size=s.cs.length
 one:∀x∈s.cs,x.one=true
 ne:∀(j:Nat) o,ops[j]?=some o->o.dst=some s.t->j=n
theorem BoxOk1.of {ops:Array Oper}{n:Nat}{s:BoxS}{oa os ox:Oper}{ti:TI}(a1:ops[n]?=some oa)(a2:oa.dst=some s.t/\oa.guard=none/\oa.op=.alloc s.e)(s1:ops[n+1]?=some os)(s2:os.dst=none/\os.guard=none/\os.op=.store s.e (.tmp s.t) (.tmp s.tx))
  (s3:edgeOn os.after.toList n=true) (s4:edgeOn os.after.toList s.jx=true) (v1:Nat.blt s.jx n=true) (v2:ops[s.jx]?=some ox) (v3:ox.dst=some s.tx) (t1:T.at s.e=some ti) (t2:ti.size=s.cs.length) (h1:allOne s.cs=true) (h2:dstOnce s.t n 0 ops.toList=true):BoxOk1 T ops n s where
 al:=⟨oa,a1,a2.1,a2.2.1,a2.2.2⟩
 st:=⟨os,s1,s2.1,s2.2.1,s2.2.2,edgeTo_of s3,edgeTo_of s4⟩
 vx:=⟨Nat.le_of_ble_eq_true v1,ox,v2,v3⟩
 ty:=⟨ti,t1,t2⟩
 one:=allOne_ok h1
 ne j o ho hd:=by
  have:=dstOnce_at h2 j o (by rw[Array.getElem?_toList];exact ho) hd
  omega
def BoxR1 (n0:Nat)(n:Nat)(s:BoxS)(listed:Array Bool)(F:Nat->Prop)(w:World)(tmps:Array Value)(b:Nat):Prop :=
 (listed.getD (n+1) true=true->listed.getD n true=true)/\(listed.getD n true=true->HoldB n0 s.e s.cs.length s.cs (listed.getD (n+1) true) F w (tmps.getD s.t undef) b)
variable {ro:Option Nat}
theorem one_step (hT:TabOk P T){N:Nat}{ops:Array Oper}{n:Nat}{s:BoxS}(hb:BoxOk1 T ops n s)(htN:s.t<N){F0:Nat->Prop}{w0:World}{As:Nat->AV}{env:Env}
  {listed:Array Bool} {a':Act} {w':World} {F':Nat->Prop} {i:Nat} {o:Oper} (hi:i=n\/i=n+1) (ho:ops[i]?=some o) (hl:listed.getD i true=false) (hen:∀e∈o.after,Region.binds .any e=true->listed.getD e.on true=true) (hN:a'.tmps.size=N) (hm:MemOk m σ F' w')
  (hs:Slots ops n env σ As listed F' w' a'.tmps) (hA:As s.jx=.d (.agg s.cs)) (hg:Grew F0 w0 F' w') (hown:∀b,Owned σ b->b<w0.heap.size) (hR:∃b,BoxR1 w0.heap.size n s listed F' w' a'.tmps b) {next:Act->World->Prop} {Q:Exit->Act->World->Prop}
  (hnext:∀v w2,(∀b,F' b->w2.heap[b]?=w'.heap[b]?)->MemOk m σ F' w2->Grew F0 w0 F' w2->(∃b,BoxR1 w0.heap.size n s (listed.setIfInBounds i true) F' w2 (a'.put o.dst v).tmps b)->next (a'.put o.dst v) w2):wpOpIn (Fen ro) 0 P ops Q i next a' w':=by
 obtain⟨ti,hti,hsz⟩:=hb.ty
 obtain⟨b,hR1⟩:=hR
 rcases hi with rfl|rfl
 .obtain⟨o',ho',hdst,hgd,hop⟩:=hb.al
  rw[ho]at ho'
  cases ho'
  have hw:Region.wanted o (yielded ops a'.tmps)=true:=by simp[Region.wanted,hgd]
  unfold wpOpIn
  simp only[ho,hw,if_true]
  obtain⟨us,hus,hrun⟩:=run_alloc_box hT hti w'
  refine wpIn_at (fun d h=>by rw[hop]at h;cases h) ?_
  rw[hrun a' o hop]
  simp only[Oper.uponIn]
  have hkeep:∀x,x<w'.heap.size->(w'.alloc (.cells us.toArray s.e)).heap[x]?=w'.heap[x]?:=fun x hx=>heap_alloc_old w' _ hx
  have hsize:(w'.alloc (.cells us.toArray s.e)).heap.size=w'.heap.size+1:=size_alloc w' _
  have hgr:Grew F' w' F' (w'.alloc (.cells us.toArray s.e)):=⟨rfl,rfl,rfl,Nat.le_refl _,Om,fun x hx=>hkeep x hx,fun _ h=>h,fun _ h=>.inl h,fun x hx=>by have:=hm.fl x hx;omega⟩
  refine hnext _ _ (fun x hx=>hkeep x (hm.fl x hx)) (hgr.mem hm) (hg.trans hgr) ⟨w'.heap.size,⟨fun h=>listed_self,fun _=>?_⟩⟩
  have hns:listed.getD (i+1) true=false:=by
   cases h:listed.getD (i+1) true with
   |false=>rfl
   |true=>rw[hR1.1 h]at hl;cases hl
  rw[listed_set Om,hns,hdst,put_eq (by rw[hN];exact htN)]
  exact⟨rfl,hg.size,Om,fun h=>by have:=hm.fl _ h;omega,us,heap_alloc_new w' _,Om,fun h=>by cases h⟩
 .obtain⟨o',ho',hdst,hgd,hop,⟨e1,he1,heq1,hbi1⟩,⟨e2,he2,heq2,hbi2⟩⟩:=hb.st
  rw[ho]at ho'
  cases ho'
  have hw:Region.wanted o (yielded ops a'.tmps)=true:=by simp[Region.wanted,hgd]
  have hlc:listed.getD n true=true:=by have:=hen e1 he1 hbi1;rwa [heq1]at this
  have hlj:listed.getD s.jx true=true:=by have:=hen e2 he2 hbi2;rwa [heq2]at this
  obtain⟨hjn,oj,hoj,hdj⟩:=hb.vx
  have hval:=(hs s.tx).1 s.jx oj hjn hoj hdj hlj
  rw[hA]at hval
  obtain⟨V,hV⟩:∃V,a'.tmps.getD s.tx undef=V:=⟨_,rfl⟩
  rw[hV]at hval
  have hval:Rd w' F' (.agg s.cs) V:=by cases hval with|d h=>exact h
  obtain⟨hv,hn0,hlt,hnF,us,hheap,hlen,hst⟩:=hR1.2 hlc
  unfold wpOpIn
  simp only[ho,hw,if_true]
  refine wpIn_at (fun d h=>by rw[hop]at h;cases h) ?_
  obtain⟨vs,hvl,hvr,hrun⟩:=run_store_box hT hti hsz hb.one hval hheap hlen
  have hex:(execOp a'.eval o).run P w'=.ok .skip (w'.setRow b vs.toArray):=by
   have e3:a'.eval (.tmp s.t)=.pointer (some ⟨b,0,none⟩):=hv
   have e4:a'.eval (.tmp s.tx)=V:=hV
   simp[execOp,hop,e3,e4,hrun]
  rw[hex]
  simp only[Oper.uponIn]
  have hoth:∀x,x≠b->(w'.setRow b vs.toArray).heap[x]?=w'.heap[x]?:=fun x hx=>setRow_other w' b x _ hx
  have hsize:(w'.setRow b vs.toArray).heap.size=w'.heap.size:=size_setRow _ _ _
  have hFk:∀x,F' x->(w'.setRow b vs.toArray).heap[x]?=w'.heap[x]?:=fun x hx=>hoth x (fun e=>hnF (e▸hx))
  have hgr:Grew F0 w0 F' (w'.setRow b vs.toArray):=⟨hg.os,hg.tape,hg.output,hg.drawn,by rw[hsize];exact hg.size,fun x hx=>(hoth x Om).trans (hg.keep x hx),hg.fro,hg.fro',fun x hx=>by rw[hsize];exact hg.lt x hx⟩
  refine hnext _ _ hFk (hm.world (by rw[hsize];exact Nat.le_refl _) fun x hx=>?_) hgr ⟨b,⟨fun _=>by rw[listed_set Om];exact hlc,fun _=>?_⟩⟩
  .rcases hx with hx|⟨r,p,t,h1,h2⟩
   .exact hFk x hx
   .exact hoth x (fun e=>by have:=hown x ⟨r,p,t,h1,h2⟩;omega)
  .rw[hdst,put_ne (fun e=>by cases e)]
   exact⟨hv,hn0,by rw[hsize];exact hlt,hnF,vs,setRow_heap w' b us.toArray _ s.e (0,0) hheap,hvl,fun _ j x u hx hu=>⟨(hvr j x u hx hu).1.mono (fun _ h=>h) hFk,(hvr j x u hx hu).2⟩⟩
theorem Awp.one (hT:TabOk P T){id N:Nat}{ops:Array Oper}{env:Env}{Q:Post}(h1:P.follows .mixedOrders=true)(h2:okR ops.toList=true)(hd:dstsIn N ops.toList=true)(pre suf:List Oper)(hsp:ops.toList=pre++suf)(hsuf:suf.length=2)(s0:BoxS)
  (b0:BoxOk1 T ops pre.length s0) (h0N:s0.t<N)
  (h:vcR P T ops.toList m pre env fun E=>get E s0.tx=.d (.agg s0.cs)/\Ev (Q .normal ((s0.t,.d (.pt s0.cs 0))::E) m)):Awp P N (.region id ops true) env m Q :=
 ⟨fun ro lo a w σ F hN hD he hm=>by
  have hown:∀b,Owned σ b->b<w.heap.size:=fun b ⟨r,p,t,e1,e2⟩=>(hm.nf r p b t e1 e2).2
  have hsize:ops.size=pre.length+2:=by
   have:ops.toList.length=ops.size:=Array.length_toList
   rw[<-this,hsp,List.length_append,hsuf]
  refine drawn_tail h1 h2 hT hm hd hsp h hN he (fun listed a' w' F'=>Grew F w F' w'/\∃b,BoxR1 w.heap.size pre.length s0 listed F' w' a'.tmps b) ?_ ?_ ?_ ?_
  .have hrep:∀j,j<ops.size->(Array.replicate ops.size false).getD j true=false:=fun j hj=>by
    rw[getD_list,Array.toList_replicate,List.getElem?_replicate,if_pos hj]
    rfl
   refine⟨Grew.drew hm.fl,0,⟨fun h=>?_,fun h=>?_⟩⟩
   all_goals (rw[hrep _ Om]at h;cases h)
  .rintro listed a' w' F' F2 w2 v i o ⟨hg,b,hR⟩ hg2 hi ho hls hN'
   refine⟨hg.trans hg2,b,fun h=>?_,fun h=>?_⟩
   .rw[listed_set Om]at h⊢
    exact hR.1 h
   .rw[listed_set Om]at h
    rw[listed_set Om,put_ne (fun e=>by have:=b0.ne i o ho e;omega)]
    have hh:=hR.2 h
    exact hh.mono hg2.size hg2.fro hg2.fro' (fun x hx=>hg2.keep x (hg.lt x hx)) (hg2.keep _ hh.2.2.1)
  .rintro As listed a' w' F' i o hE hK hi ho hl hen hls hN' hD' hmw hs ⟨hg,hR⟩ next hnext
   have hiN:i<ops.size:=(Array.getElem?_eq_some_iff.1 ho).1
   have hA0:As s0.jx=.d (.agg s0.cs):=by
    obtain⟨hj,oj,hoj,hdj⟩:=b0.vx
    rw[<-hE s0.jx oj s0.tx hoj hdj hj]
    exact hK.1
   have mono:∀w2:World,(∀b,F' b->w2.heap[b]?=w'.heap[b]?)->∀A u,Vc w' F' σ A u->Vc w2 F' σ A u:=fun w2 hk A u hv=>hv.mono (fun _ h=>h) hk (SLe.refl σ)
   exact one_step hT b0 h0N (show i=pre.length\/i=pre.length+1 by omega) ho hl hen hN' hmw hs hA0 hg hown hR fun v w2 k1 k2 k3 k4=>hnext v w2 F' k2 (mono w2 k1) ⟨k3,k4⟩
  .rintro As a' w' F' ⟨_,hK⟩ hE hN' hD' hmw hs listed hall ⟨hg,b,hR1⟩
   obtain⟨hv0,hn0,hlt0,hnF0,us0,hh0,hl0,hr0⟩:=hR1.2 (hall _ Om)
   rw[hall _ Om]at hr0
   let F2:Nat->Prop:=fun x=>F' x\/x=b
   have hg2:Grew F w F2 w':=⟨hg.os,hg.tape,hg.output,hg.drawn,hg.size,hg.keep,fun x hx=>.inl (hg.fro x hx),fun x hx=>by
    rcases hx with hx|rfl
    .exact hg.fro' x hx
    .exact .inr hn0,fun x hx=>by
    rcases hx with hx|rfl
    .exact hg.lt x hx
    .exact hlt0⟩
   have upF:∀{x u},Rd w' F' x u->Rd w' F2 x u:=fun h=>h.mono (fun _ h=>.inl h) (fun _ _=>rfl)
   have pt:∀(b:Nat) (e:TypeId) (us:List Value) (cs:List D),F2 b->w'.heap[b]?=some (.cells us.toArray e (0,0))->us.length=cs.length->(∀(j:Nat) x u,cs[j]?=some x->us[j]?=some u->Rd w' F' x u/\u.oneCell'=true)->Rd w' F2 (.pt cs 0) (.pointer (some ⟨b,0,none⟩)):=by
    intro b e us cs hF hh hl hr
    have:=Rd.pt (w:=w') (F:=F2) (cs:=cs) (off:=0) ⟨b,0,none⟩ (fun j=>us.getD j undef) hF
     (fun j hj=>by
      have hu:us[j]?=some (us[j]'Om):=List.getElem?_eq_getElem Om
      rw[add_at,Nat.zero_add,cell_of_row w' b j us.toArray e (0,0) hh]
      simp only[List.getD_eq_getElem?_getD,hu,Option.getD_some]
      exact⟨by simp,(hr j _ _ (List.getElem?_eq_getElem hj) hu).2⟩)
     (fun j x hx=>by
      have hj:=(List.getElem?_eq_some_iff.1 hx).1
      have hu:us[j]?=some (us[j]'Om):=List.getElem?_eq_getElem Om
      simp only[List.getD_eq_getElem?_getD,hu,Option.getD_some]
      exact upF (hr j x _ hx hu).1)
    rwa [add_at]at this
   refine⟨_,m,σ,F2,hK.o,hN',by rw[hD'];exact hD.step (hg2.step σ),fun t=>?_,hg2.mem hm,hg2.step σ,SArg.refl σ⟩
   simp only[get]
   cases h0:Nat.beq s0.t t with
   |true =>
    have:=Nat.eq_of_beq_eq_true h0
    subst this
    simp only[cond_true]
    rw[hv0]
    exact .d (pt b _ us0 _ (.inr rfl) hh0 hl0 (hr0 rfl))
   | false =>
    simp only[cond_false]
    refine(hs t fun j o hj ho hdo=>?_).mono (fun _ h=>.inl h) (fun _ _=>rfl) (SLe.refl σ)
    have hjN:j<ops.size:=(Array.getElem?_eq_some_iff.1 ho).1
    rcases show j=pre.length\/j=pre.length+1 by omega with hj|hj
    .obtain⟨o',ho',hdst,_⟩:=b0.al
     rw[<-hj,ho]at ho'
     cases ho'
     rw[hdst]at hdo
     injection hdo with hdo
     exact Nat.ne_of_beq_eq_false h0 hdo
    .obtain⟨o',ho',hdst,_⟩:=b0.st
     rw[<-hj,ho]at ho'
     cases ho'
     rw[hdst]at hdo
     cases hdo⟩
theorem Awp.oneN (hT:TabOk P T){id N:Nat}{ops:Array Oper}{env:Env}{Q:Post}(n:Nat)(s0:BoxS)(h1:P.follows .mixedOrders=true)(h2:okR ops.toList=true)(hd:dstsIn N ops.toList=true)(hsuf:Nat.beq (ops.toList.drop n).length 2=true)
  (b0:BoxOk1 T ops n s0) (h0N:Nat.blt s0.t N=true)
  (h:vcR P T ops.toList m (ops.toList.take n) env fun E=>get E s0.tx=.d (.agg s0.cs)/\Ev (Q .normal ((s0.t,.d (.pt s0.cs 0))::E) m)):Awp P N (.region id ops true) env m Q:=by
 have h4:=Nat.eq_of_beq_eq_true hsuf
 have hl:(ops.toList.take n).length=n:=take_len rfl (fun e=>by rw[e]at h4;cases h4)
 exact Awp.one hT h1 h2 hd (ops.toList.take n) (ops.toList.drop n) (List.take_append_drop _ _).symm h4 s0 (by rw[hl];exact b0) (Nat.le_of_ble_eq_true h0N) h
end
section
variable {P:Program}{T:Tab}{m:Mem}{σ:Pls}
variable {ro:Option Nat}
theorem one_stepX (hT:TabOk P T){N:Nat}{ops:Array Oper}{n:Nat}{s:BoxS}(hb:BoxOk1 T ops n s)(htN:s.t<N){F0:Nat->Prop}{w0:World}{As:Nat->AV}{env:Env}
  {listed:Array Bool} {a':Act} {w':World} {F':Nat->Prop} {i:Nat} {o:Oper} (hi:i=n\/i=n+1) (ho:ops[i]?=some o) (hl:listed.getD i true=false) (hen:∀e∈o.after,Region.binds .any e=true->listed.getD e.on true=true) (hN:a'.tmps.size=N) (hm:MemOk m σ F' w')
  (hs:Slots ops n env σ As listed F' w' a'.tmps) (hA:As s.jx=.d (.agg s.cs)) (hg:Grew F0 w0 F' w') (hown:∀b,Owned σ b->b<w0.heap.size) {b:Nat} (hR1:BoxR1 w0.heap.size n s listed F' w' a'.tmps b) {next:Act->World->Prop} {Q:Exit->Act->World->Prop}
  (hnext:∀v w2 b2,(∀b,F' b->w2.heap[b]?=w'.heap[b]?)->MemOk m σ F' w2->Grew F0 w0 F' w2->BoxR1 w0.heap.size n s (listed.setIfInBounds i true) F' w2 (a'.put o.dst v).tmps b2->(w'.heap.size<=w2.heap.size/\(∀x,x<w'.heap.size->x≠b2->w2.heap[x]?=w'.heap[x]?)/\(b2=w'.heap.size\/b2=b/\listed.getD n true=true))->next (a'.put o.dst v) w2):wpOpIn (Fen ro) 0 P ops Q i next a' w':=by
 obtain⟨ti,hti,hsz⟩:=hb.ty
 rcases hi with rfl|rfl
 .obtain⟨o',ho',hdst,hgd,hop⟩:=hb.al
  rw[ho]at ho'
  cases ho'
  have hw:Region.wanted o (yielded ops a'.tmps)=true:=by simp[Region.wanted,hgd]
  unfold wpOpIn
  simp only[ho,hw,if_true]
  obtain⟨us,hus,hrun⟩:=run_alloc_box hT hti w'
  refine wpIn_at (fun d h=>by rw[hop]at h;cases h) ?_
  rw[hrun a' o hop]
  simp only[Oper.uponIn]
  have hkeep:∀x,x<w'.heap.size->(w'.alloc (.cells us.toArray s.e)).heap[x]?=w'.heap[x]?:=fun x hx=>heap_alloc_old w' _ hx
  have hsize:(w'.alloc (.cells us.toArray s.e)).heap.size=w'.heap.size+1:=size_alloc w' _
  have hgr:Grew F' w' F' (w'.alloc (.cells us.toArray s.e)):=⟨rfl,rfl,rfl,Nat.le_refl _,Om,fun x hx=>hkeep x hx,fun _ h=>h,fun _ h=>.inl h,fun x hx=>by have:=hm.fl x hx;omega⟩
  refine hnext _ _ w'.heap.size (fun x hx=>hkeep x (hm.fl x hx)) (hgr.mem hm) (hg.trans hgr) ⟨fun h=>listed_self,fun _=>?_⟩ ⟨Om,fun x hx _=>hkeep x hx,.inl rfl⟩
  have hns:listed.getD (i+1) true=false:=by
   cases h:listed.getD (i+1) true with
   |false=>rfl
   |true=>rw[hR1.1 h]at hl;cases hl
  rw[listed_set Om,hns,hdst,put_eq (by rw[hN];exact htN)]
  exact⟨rfl,hg.size,Om,fun h=>by have:=hm.fl _ h;omega,us,heap_alloc_new w' _,Om,fun h=>by cases h⟩
 .obtain⟨o',ho',hdst,hgd,hop,⟨e1,he1,heq1,hbi1⟩,⟨e2,he2,heq2,hbi2⟩⟩:=hb.st
  rw[ho]at ho'
  cases ho'
  have hw:Region.wanted o (yielded ops a'.tmps)=true:=by simp[Region.wanted,hgd]
  have hlc:listed.getD n true=true:=by have:=hen e1 he1 hbi1;rwa [heq1]at this
  have hlj:listed.getD s.jx true=true:=by have:=hen e2 he2 hbi2;rwa [heq2]at this
  obtain⟨hjn,oj,hoj,hdj⟩:=hb.vx
  have hval:=(hs s.tx).1 s.jx oj hjn hoj hdj hlj
  rw[hA]at hval
  obtain⟨V,hV⟩:∃V,a'.tmps.getD s.tx undef=V:=⟨_,rfl⟩
  rw[hV]at hval
  have hval:Rd w' F' (.agg s.cs) V:=by cases hval with|d h=>exact h
  obtain⟨hv,hn0,hlt,hnF,us,hheap,hlen,hst⟩:=hR1.2 hlc
  unfold wpOpIn
  simp only[ho,hw,if_true]
  refine wpIn_at (fun d h=>by rw[hop]at h;cases h) ?_
  obtain⟨vs,hvl,hvr,hrun⟩:=run_store_box hT hti hsz hb.one hval hheap hlen
  have hex:(execOp a'.eval o).run P w'=.ok .skip (w'.setRow b vs.toArray):=by
   have e3:a'.eval (.tmp s.t)=.pointer (some ⟨b,0,none⟩):=hv
   have e4:a'.eval (.tmp s.tx)=V:=hV
   simp[execOp,hop,e3,e4,hrun]
  rw[hex]
  simp only[Oper.uponIn]
  have hoth:∀x,x≠b->(w'.setRow b vs.toArray).heap[x]?=w'.heap[x]?:=fun x hx=>setRow_other w' b x _ hx
  have hsize:(w'.setRow b vs.toArray).heap.size=w'.heap.size:=size_setRow _ _ _
  have hFk:∀x,F' x->(w'.setRow b vs.toArray).heap[x]?=w'.heap[x]?:=fun x hx=>hoth x (fun e=>hnF (e▸hx))
  have hgr:Grew F0 w0 F' (w'.setRow b vs.toArray):=⟨hg.os,hg.tape,hg.output,hg.drawn,by rw[hsize];exact hg.size,fun x hx=>(hoth x Om).trans (hg.keep x hx),hg.fro,hg.fro',fun x hx=>by rw[hsize];exact hg.lt x hx⟩
  refine hnext _ _ b hFk (hm.world (by rw[hsize];exact Nat.le_refl _) fun x hx=>?_) hgr ⟨fun _=>by rw[listed_set Om];exact hlc,fun _=>?_⟩ ⟨by rw[hsize];exact Nat.le_refl _,fun x _ hx=>hoth x hx,.inr ⟨rfl,hlc⟩⟩
  .rcases hx with hx|⟨r,p,t,h1,h2⟩
   .exact hFk x hx
   .exact hoth x (fun e=>by have:=hown x ⟨r,p,t,h1,h2⟩;omega)
  .rw[hdst,put_ne (fun e=>by cases e)]
   exact⟨hv,hn0,by rw[hsize];exact hlt,hnF,vs,setRow_heap w' b us.toArray _ s.e (0,0) hheap,hvl,fun _ j x u hx hu=>⟨(hvr j x u hx hu).1.mono (fun _ h=>h) hFk,(hvr j x u hx hu).2⟩⟩
theorem drawn_oneX {id N:Nat} {ops:Array Oper} {F:Nat→Prop} {w:World} {a:Act} {env:Env} {K:Env→Prop} {Q:Exit→Act→World→Prop}
  (h1:P.follows .mixedOrders=true) (h2:okR ops.toList=true) (hT:TabOk P T) (hm:MemOk m σ F w) (hd:dstsIn N ops.toList=true) {pre suf:List Oper} (hsp:ops.toList=pre++suf) (hsuf:suf.length=2) (s0:BoxS) (b0:BoxOk1 T ops pre.length s0) (h0N:s0.t<N)
  (h:vcX P T ops.toList m pre 0 env [] K) (hKx:∀E,K E->get E s0.tx=.d (.agg s0.cs)) (hN:a.tmps.size=N) (he:EnvOk env w F σ a.tmps)
  (hQ:∀env' a' w' F',K env'->a'.tmps.size=N->a'.defers=a.defers->Grew F w F' w'->EnvOk ((s0.t,.d (.pt s0.cs 0))::env') w' F' σ a'.tmps->Q .normal a' w'):(Code.region id ops true).wpIn (Fen ro) 0 P Q a w:=by
 obtain⟨ti,hti,hsz⟩:=b0.ty
 have hsize2:ops.size=pre.length+2:=by
  have:ops.toList.length=ops.size:=Array.length_toList
  rw[<-this,hsp,List.length_append,hsuf]
 have hpl:∀(k:Nat) o,k<pre.length->ops[k]?=some o->pre[k]?=some o:=fun k o hk ho=>by
  rw[<-Array.getElem?_toList,hsp,List.getElem?_append_left hk]at ho
  exact ho
 have hlp:∀(k:Nat) o,pre[k]?=some o->k<pre.length/\ops[k]?=some o:=fun k o ho=>by
  have hk:=(List.getElem?_eq_some_iff.1 ho).1
  refine⟨hk,?_⟩
  rw[<-Array.getElem?_toList,hsp,List.getElem?_append_left hk]
  exact ho
 have hlen:pre.length<=ops.toList.length:=by rw[hsp];simp
 have hownw:∀b,Owned σ b->b<w.heap.size:=fun b ⟨r,p,t,e1,e2⟩=>(hm.nf r p b t e1 e2).2
 obtain⟨As,took,made,hX⟩:=vcX_ext (σ:=σ) hT pre 0 env [] (by simp) (fun r hr=>by simp at hr) h
 have hEp:∀k,k<=pre.length->envsOf env ops.toList As k=envsOf env pre As k:=fun k hk=>by
  rw[hsp]
  exact envsOf_pre env pre suf As k hk
 have hK:=hX.k
 have hD:∀(k:Nat) o,k<pre.length->ops[k]?=some o->DoesX P m σ ops.toList o (envsOf env ops.toList As k) (As k) (took k) (made k):=fun k o hk ho=>by
  rw[hEp k Om]
  exact hX.does k o (hpl k o hk ho)
 have hMade:∀k r,made k=some r->r.idx=k/\∃o,ops[k]?=some o/\o.dst=some r.tmp:=fun k r hk=>by
  obtain⟨h1,o,h2,h3⟩:=hX.madeAt k r hk
  exact⟨Om,o,(hlp k o h2).2,h3⟩
 have hMadeP:∀k r,made k=some r->k<pre.length:=fun k r hk=>by
  obtain⟨_,o,h2,_⟩:=hX.madeAt k r hk
  exact(hlp k o h2).1
 have hTook:∀k r,took k=some r->r.idx<k/\made r.idx=some r/\∃o,ops[k]?=some o/\r.tmp∈tmpsOf o.op:=fun k r hk=>by
  obtain⟨h1,o,h2,h3⟩:=hX.tookAt k r hk
  have h2:=(hlp k o h2).2
  rcases h1 with h1|⟨j,hj,h1⟩
  .simp at h1
  .have:=(hMade j r h1).1
   subst this
   exact⟨hj,h1,o,h2,h3⟩
 have hO:∀(i:Nat) o,ops[i]?=some o->OrdAt ops.toList i o:=fun i o ho=>by
  have:=okFrom_at h2 i o (by rw[Array.getElem?_toList];exact ho)
  rwa [Nat.zero_add]at this
 have hdst:∀(i:Nat) o d,ops[i]?=some o->o.dst=some d->d<N:=by
  have:∀(l:List Oper),dstsIn N l=true->∀(i:Nat) o d,l[i]?=some o->o.dst=some d->d<N:=by
   intro l
   induction l with
   |nil=>intro _ i o d ho;simp at ho
   | cons x r ih =>
    intro hl i o d ho hdo
    simp only[dstsIn,Bool.and_eq_true]at hl
    cases i with
    |zero =>
     simp at ho
     subst ho
     have:=hl.1
     rw[hdo]at this
     exact Nat.le_of_ble_eq_true this
    |succ i=>exact ih hl.2 i o d (by simpa using ho) hdo
  exact fun i o d ho hdo=>this ops.toList hd i o d (by rw[Array.getElem?_toList];exact ho) hdo
 rw[<-hEp pre.length (Nat.le_refl _)]at hK
 generalize hE:envsOf env ops.toList As pre.length=E at hK
 have hsize:ops.toList.length=ops.size:=Array.length_toList
 have hEd:∀(i:Nat) o d,ops[i]?=some o->o.dst=some d->∀k,i<k->k<=ops.toList.length->get (envsOf env ops.toList As k) d=As i:=by
  intro i o d ho hdo k hk hkn
  have hol:ops.toList[i]?=some o:=by rw[Array.getElem?_toList];exact ho
  rw[envs_stable (i:=i+1) k Om (fun j o' h3 h4 ho' hd'=>by
    have:=(hO i o ho).once d hdo j o' ho' hd'
    omega)]
  rw[envsOf,hol]
  exact get_step_self hdo
 have hE0:∀t k,k<=ops.toList.length->(∀(j:Nat) o,ops[j]?=some o->o.dst=some t->k<=j)->get (envsOf env ops.toList As k) t=get env t:=fun t k hk hno =>
  envs_stable (i:=0) k (Nat.zero_le _) (fun j o _ hj ho hdo=>by
   rw[Array.getElem?_toList]at ho
   have:=hno j o ho hdo
   omega)
 let Live:Array Bool->Nat->Row->Prop:=fun listed k r=>made k=some r/\listed.getD k true=true/\∀k',took k'=some r->listed.getD k' true=false
 let Inv:Array Bool->Act->World->Prop:=fun listed a' w'=>a'.tmps.size=N/\a'.defers=a.defers/\(∀(j:Nat) o,ops[j]?=some o->listed.getD j true=true->∀e∈o.after,Region.binds .any e=true->listed.getD e.on true=true) /\
  ∃(F':Nat->Prop) (S:Nat->Pls),Grew F w F' w'/\Slots ops pre.length env σ As listed F' w' a'.tmps /\
   (∀k r,Live listed k r->MemOk r.mem (S k) F' w'/\Vc w' F' (S k) r.val (a'.tmps.getD r.tmp undef)/\∀b,Owned (S k) b->w.heap.size<=b) /\
   (∀k r k2 r2,Live listed k r->Live listed k2 r2->k≠k2->∀b,Owned (S k) b->¬ Owned (S k2) b) /\
   ∃bx,BoxR1 w.heap.size pre.length s0 listed F' w' a'.tmps bx/\(listed.getD pre.length true=true->∀k r,Live listed k r->¬ Owned (S k) bx)
 have fin:∀ listed a' w',(∀ i,i < ops.size→listed.getD i true=true)→Inv listed a' w'→Q .normal a' w':=by
  rintro listed a' w' hall ⟨i1,i2,_,F',S,i3,i4,_,_,b,hR1,_⟩
  obtain⟨hv0,hn0,hlt0,hnF0,us0,hh0,hl0,hr0⟩:=hR1.2 (hall _ Om)
  rw[hall _ Om]at hr0
  let F2:Nat->Prop:=fun x=>F' x\/x=b
  have hg2:Grew F w F2 w':=⟨i3.os,i3.tape,i3.output,i3.drawn,i3.size,i3.keep,fun x hx=>.inl (i3.fro x hx),fun x hx=>by
   rcases hx with hx|rfl
   .exact i3.fro' x hx
   .exact .inr hn0,fun x hx=>by
   rcases hx with hx|rfl
   .exact i3.lt x hx
   .exact hlt0⟩
  have upF:∀{x u},Rd w' F' x u->Rd w' F2 x u:=fun h=>h.mono (fun _ h=>.inl h) (fun _ _=>rfl)
  have pt:∀(b:Nat) (e:TypeId) (us:List Value) (cs:List D),F2 b->w'.heap[b]?=some (.cells us.toArray e (0,0))->us.length=cs.length->(∀(j:Nat) x u,cs[j]?=some x->us[j]?=some u->Rd w' F' x u/\u.oneCell'=true)->Rd w' F2 (.pt cs 0) (.pointer (some ⟨b,0,none⟩)):=by
   intro b e us cs hF hh hl hr
   have:=Rd.pt (w:=w') (F:=F2) (cs:=cs) (off:=0) ⟨b,0,none⟩ (fun j=>us.getD j undef) hF
    (fun j hj=>by
     have hu:us[j]?=some (us[j]'Om):=List.getElem?_eq_getElem Om
     rw[add_at,Nat.zero_add,cell_of_row w' b j us.toArray e (0,0) hh]
     simp only[List.getD_eq_getElem?_getD,hu,Option.getD_some]
     exact⟨by simp,(hr j _ _ (List.getElem?_eq_getElem hj) hu).2⟩)
    (fun j x hx=>by
     have hj:=(List.getElem?_eq_some_iff.1 hx).1
     have hu:us[j]?=some (us[j]'Om):=List.getElem?_eq_getElem Om
     simp only[List.getD_eq_getElem?_getD,hu,Option.getD_some]
     exact upF (hr j x _ hx hu).1)
   rwa [add_at]at this
  refine hQ E a' w' F2 hK i1 i2 hg2 fun t=>?_
  simp only[get]
  cases h0:Nat.beq s0.t t with
  |true =>
   have:=Nat.eq_of_beq_eq_true h0
   subst this
   simp only[cond_true]
   rw[hv0]
   exact .d (pt b _ us0 _ (.inr rfl) hh0 hl0 (hr0 rfl))
  | false =>
   simp only[cond_false]
   refine Vc.mono (w:=w') (F:=F') (σ:=σ) (fun _ h=>.inl h) (fun _ _=>rfl) (SLe.refl σ) ?_
   by_cases hex:∃(j:Nat) (o:Oper),ops[j]?=some o/\o.dst=some t
   .obtain⟨j,o,ho,hdo⟩:=hex
    have hj:j<ops.size:=(Array.getElem?_eq_some_iff.1 ho).1
    have hjp:j<pre.length:=by
     rcases show j<pre.length\/j=pre.length\/j=pre.length+1 by omega with hj|hj|hj
     .exact hj
     .obtain⟨o',ho',hdst,_⟩:=b0.al
      rw[<-hj,ho]at ho'
      cases ho'
      rw[hdst]at hdo
      injection hdo with hdo
      exact absurd hdo (Nat.ne_of_beq_eq_false h0)
     .obtain⟨o',ho',hdst,_⟩:=b0.st
      rw[<-hj,ho]at ho'
      cases ho'
      rw[hdst]at hdo
      cases hdo
    rw[<-hE,hEd j o t ho hdo _ hjp hlen]
    exact(i4 t).1 j o hjp ho hdo (hall j hj)
   .rw[<-hE,hE0 t _ hlen (fun j o ho hdo=>absurd ⟨j,o,ho,hdo⟩ hex)]
    exact(i4 t).2 fun j o ho hdo=>absurd ⟨j,o,ho,hdo⟩ hex
 have main:∀ (fuel:Nat) (listed:Array Bool) (a':Act) (w':World),listed.size=ops.size→unl listed.toList≤fuel→Inv listed a' w'→wpAnyIn (Fen ro) 0 P .any ops Q fuel listed a' w':=by
  intro fuel
  induction fuel with
  | zero =>
   intro listed a' w' hls hun hI
   have hall:∀i,i<ops.size->listed.getD i true=true:=fun i hi=>by
    rw[getD_list]
    cases hb:listed.toList[i]? with
    |none=>rfl
    |some b=>exact unl_zero Om i b hb
   refine⟨List.eq_nil_iff_forall_not_mem.2 fun i hi=>?_,fin _ _ _ hall hI⟩
   obtain⟨g1,o,ho,_⟩:=mem_ready.1 hi
   rw[hall i (Array.getElem?_eq_some_iff.1 ho).1]at g1
   cases g1
  | succ fuel ih =>
   intro listed a' w' hls hun hI
   refine⟨fun hnil=>fin _ _ _ (fun i=>?_) hI,fun i hi=>?_⟩
   .induction i using Nat.strongRecOn with
    | _ i ihi =>
     intro hi
     cases hb:listed.getD i true with
     |true=>rfl
     | false =>
      exfalso
      have ho:ops[i]?=some ops[i]:=Array.getElem?_eq_getElem hi
      have:i∈Region.ready .any ops listed:=mem_ready.2 ⟨hb,_,ho,fun e he hbe=>by
       have hlt:=(hO i _ ho).back e he hbe
       have:=ihi e.on hlt Om
       rw[getD_list]at this⊢
       have hin:e.on<listed.toList.length:=by rw[Array.length_toList,hls];omega
       rw[List.getElem?_eq_getElem hin]at this⊢
       exact this⟩
      rw[hnil]at this
      cases this
   .obtain⟨g1,o,ho,g2⟩:=mem_ready.1 hi
    have hin:i<ops.size:=(Array.getElem?_eq_some_iff.1 ho).1
    have hoi:=hO i o ho
    obtain⟨i1,i2,ic,F',S,i3,i4,i5,i6,bx,ibx,inb⟩:=hI
    have hmw:MemOk m σ F' w':=i3.mem hm
    have hbk:∀e∈o.after,Region.binds .any e=true->listed.getD e.on true=true:=fun e he hbe=>by
     have hlt:=hoi.back e he hbe
     have:=g2 e he hbe
     rw[getD_list]at this⊢
     have hin2:e.on<listed.toList.length:=by rw[Array.length_toList,hls];omega
     rw[List.getElem?_eq_getElem hin2]at this⊢
     exact this
    rcases Nat.lt_or_ge i pre.length with hip|hip
    case inr =>
     exact(by
      have hA0:As s0.jx=.d (.agg s0.cs):=by
       obtain⟨hj,oj,hoj,hdj⟩:=b0.vx
       rw[<-hEd s0.jx oj s0.tx hoj hdj _ hj hlen,hE]
       exact hKx _ hK
      refine one_stepX hT b0 h0N (show i=pre.length\/i=pre.length+1 by omega) ho g1 hbk i1 hmw i4 hA0 i3 hownw ibx fun v w2 bx' k1 k2 k3 k4 ⟨k5,k6,k7⟩=>?_
      have hset:∀j,j≠i->(listed.setIfInBounds i true).getD j true=listed.getD j true:=fun j hne=>listed_set hne
      have hlist:listed.toList[i]?=some false:=by
       rw[getD_list]at g1
       cases hb:listed.toList[i]? with
       |none=>rw[hb]at g1;cases g1
       |some b=>rw[hb]at g1;simp at g1;rw[g1]
      have hsetm:∀j,listed.getD j true=true->(listed.setIfInBounds i true).getD j true=true:=fun j h=>by
       by_cases e:j=i
       .subst e;exact listed_self
       .rw[hset j e];exact h
      have hnot:∀(t:Nat),(∃(j:Nat) (o':Oper),j<pre.length/\ops[j]?=some o'/\o'.dst=some t)->o.dst≠some t:=fun t ⟨j,o',hj,ho',hd'⟩ e=>by
       have:=hoi.once t e j o' (by rw[Array.getElem?_toList];exact ho') hd'
       omega
      have hbackL:∀k r,Live (listed.setIfInBounds i true) k r->Live listed k r:=fun k r ⟨l1,l2,l3⟩=>by
       have hk:=hMadeP k r l1
       refine⟨l1,by rw[<-hset k Om];exact l2,fun k' hk'=>?_⟩
       have hk'p:k'<pre.length:=by
        obtain⟨_,o',h3,_⟩:=hX.tookAt k' r hk'
        exact(hlp k' o' h3).1
       rw[<-hset k' Om]
       exact l3 k' hk'
      refine ih _ _ _ (by simp[hls]) ?_ ⟨by rw[put_size];exact i1,by rw[put_defers];exact i2,fun j o' ho' hj e he hb=>?_,F',S,k3,fun t=>⟨fun j o' hjp ho' hd' hj=>?_,fun hno=>?_⟩,fun k r hl=>?_,fun k r k2 r2 hl hl2 hne b hb hb2=>?_,bx',k4,fun hx k r hl hob=>?_⟩
      .have:=unl_set hlist
       rw[Array.toList_setIfInBounds]
       omega
      .by_cases hji:j=i
       .subst hji
        rw[ho]at ho'
        cases ho'
        exact hsetm _ (hbk e he hb)
       .rw[hset j hji]at hj
        exact hsetm _ (ic j o' ho' hj e he hb)
      .rw[hset j Om]at hj
       rw[put_ne (hnot t ⟨j,o',hjp,ho',hd'⟩)]
       exact((i4 t).1 j o' hjp ho' hd' hj).mono (fun _ h=>h) k1 (SLe.refl σ)
      .have hdt:o.dst≠some t:=fun e=>by
        have:=hno i o ho e
        rw[listed_self]at this
        cases this
       rw[put_ne hdt]
       refine((i4 t).2 fun j o' ho' hd'=>?_).mono (fun _ h=>h) k1 (SLe.refl σ)
       have:=hno j o' ho' hd'
       rwa [hset j (fun e=>hdt (by subst e;rw[ho]at ho';cases ho';exact hd'))]at this
      .have hl':=hbackL k r hl
       obtain⟨q1,q2,q3⟩:=i5 k r hl'
       obtain⟨_,o2,q4,q5⟩:=hMade _ _ hl'.1
       rw[put_ne (hnot r.tmp ⟨k,o2,hMadeP k r hl'.1,q4,q5⟩)]
       refine⟨q1.world k5 fun x hx=>?_,q2.mono (fun _ h=>h) k1 (SLe.refl _),q3⟩
       rcases hx with hx|hx
       .exact k1 x hx
       .have hlt:=(owned_nf q1 x hx).2
        refine k6 x hlt fun e=>?_
        rcases k7 with h|⟨h,hl2⟩
        .omega
        .rw[e,h]at hx
         exact inb hl2 k r hl' hx
      .exact i6 k r k2 r2 (hbackL k r hl) (hbackL k2 r2 hl2) hne b hb hb2
      .have hl':=hbackL k r hl
       rcases k7 with h|⟨h,hl2⟩
       .have:=(owned_nf (i5 k r hl').1 _ hob).2
        omega
       .rw[h]at hob
        exact inb hl2 k r hl' hob)
    have toT:∀j,j<ops.size->listed.getD j false=true->listed.getD j true=true:=fun j hj h=>by
     rw[getD_list]at h⊢
     have hin2:j<listed.toList.length:=by rw[Array.length_toList,hls];omega
     rw[List.getElem?_eq_getElem hin2]at h⊢
     exact h
    have hslots:∀ t∈slots ops.toList o,Vc w' F' σ (get (envsOf env ops.toList As i) t) (a'.tmps.getD t undef):=fun t ht=>by
     by_cases hex:∃(j:Nat) (o':Oper),ops[j]?=some o'/\o'.dst=some t
     .obtain⟨j,o',ho',hdo'⟩:=hex
      have hj:j<ops.size:=(Array.getElem?_eq_some_iff.1 ho').1
      have honce:∀(j2:Nat) o2,ops[j2]?=some o2->o2.dst=some t->j2=j:=fun j2 o2 h3 h4=>(hO j o' ho').once t hdo' j2 o2 (by rw[Array.getElem?_toList];exact h3) h4
      rcases hoi.defs t ht j o' (by rw[Array.getElem?_toList];exact ho') hdo' with ⟨hji,e,hee,heon,heb⟩|⟨hij,hcase⟩
      .rw[hEd j o' t ho' hdo' i hji Om]
       refine(i4 t).1 j o' Om ho' hdo' ?_
       have:=g2 e hee heb
       rw[heon]at this
       exact toT j hj this
      .rw[hE0 t i Om (fun j2 o2 h3 h4=>by rw[honce j2 o2 h3 h4];exact hij)]
       refine(i4 t).2 fun j2 o2 h3 h4=>?_
       have hj2:=honce j2 o2 h3 h4
       subst hj2
       rcases hcase with rfl|⟨e,hee,heon,heb⟩
       .exact g1
       .cases hb:listed.getD j2 true with
        |false=>rfl
        |true =>
         have:=ic j2 o' ho' hb e hee heb
         rw[heon,g1]at this
         cases this
     .rw[hE0 t i Om (fun j2 o2 h3 h4=>absurd ⟨j2,o2,h3,h4⟩ hex)]
      exact(i4 t).2 fun j2 o2 h3 h4=>absurd ⟨j2,o2,h3,h4⟩ hex
    let σr:Pls:=match took i with
     |some r=>S r.idx
     |none=>σ
    have hlive:∀r,took i=some r->Live listed r.idx r:=fun r hr=>by
     obtain⟨g3,g4,o',g5,g6⟩:=hTook i r hr
     rw[ho]at g5
     cases g5
     obtain⟨_,o2,g7,g8⟩:=hMade _ _ g4
     refine⟨g4,?_,fun k' hk'=>by rw[hX.once k' i r r hk' hr rfl];exact g1⟩
     rcases hoi.defs r.tmp (mem_app2.2 (.inl g6)) r.idx o2 (by rw[Array.getElem?_toList];exact g7) g8 with ⟨hji,e,hee,heon,heb⟩|⟨hij,_⟩
     .have:=g2 e hee heb
      rw[heon]at this
      exact toT _ (Array.getElem?_eq_some_iff.1 g7).1 this
     .omega
    have hσr:∀r,took i=some r->σr=S r.idx:=fun r hr=>by simp only[σr,hr]
    have hdoes:=hD i o hip ho F' w' a' σr hmw hslots (fun r hr=>by
     rw[hσr r hr]
     exact⟨(i5 _ r (hlive r hr)).1,(i5 _ r (hlive r hr)).2.1⟩)
    have hy:ops.toList.toArray=ops:=Array.toArray_toList
    rw[hy]at hdoes
    have hlist:listed.toList[i]?=some false:=by
     rw[getD_list]at g1
     cases hb:listed.toList[i]? with
     |none=>rw[hb]at g1;cases g1
     |some b=>rw[hb]at g1;simp at g1;rw[g1]
    have next:∀ (v:Value) (w2:World),YieldV P σ σr F' w' (As i) (took i) (made i) v w2→wpAnyIn (Fen ro) 0 P .any ops Q fuel (listed.setIfInBounds i true) (a'.put o.dst v) w2:=by
     rintro v w2 ⟨F2,hc,hv,hmk⟩
     have hBof:∀b,BOf (took i) σr b->∃r,took i=some r/\Owned (S r.idx) b:=fun b hb=>by
      cases ht:took i with
      |none=>rw[ht]at hb;exact hb.elim
      |some r=>rw[ht]at hb;rw[hσr r ht]at hb;exact⟨r,rfl,hb⟩
     have hB0:∀b,BOf (took i) σr b->w.heap.size<=b:=fun b hb=>by
      obtain⟨r,hr,hb⟩:=hBof b hb
      exact(i5 _ r (hlive r hr)).2.2 b hb
     have hBF:∀b,BOf (took i) σr b->¬ F' b:=fun b hb=>by
      obtain⟨r,hr,hb⟩:=hBof b hb
      exact(owned_nf (i5 _ r (hlive r hr)).1 b hb).1
     have hg:Grew F w F2 w2:=hc.grew i3 hB0
     have hfz:=hc.frozen hmw hBF
     have hset:∀j,j≠i->(listed.setIfInBounds i true).getD j true=listed.getD j true:=fun j hne=>by
      rw[getD_list,Array.toList_setIfInBounds,List.getElem?_set_ne (fun e=>hne e.symm),<-getD_list]
     have hsetm:∀j,listed.getD j true=true->(listed.setIfInBounds i true).getD j true=true:=fun j h=>by
      by_cases e:j=i
      .subst e;rw[h]at g1;cases g1
      .rw[hset j e];exact h
     have hseti:(listed.setIfInBounds i true).getD i true=true:=by
      rw[getD_list,Array.toList_setIfInBounds,List.getElem?_set_self (by rw[Array.length_toList,hls];exact hin)]
      rfl
     have hput:∀t,o.dst=some t->(a'.put o.dst v).tmps.getD t undef=v:=fun t hdt=>by
      have hdN:=hdst i o t ho hdt
      rw[hdt]
      simp only[Act.put,Array.getD_eq_getD_getElem?]
      rw[Array.getElem?_setIfInBounds_self_of_lt (by rw[i1];exact hdN)]
      rfl
     have hputn:∀t,o.dst≠some t->(a'.put o.dst v).tmps.getD t undef=a'.tmps.getD t undef:=fun t hdt=>by
      cases hdo:o.dst with
      |none=>rfl
      |some d =>
       simp only[Act.put,Array.getD_eq_getD_getElem?]
       rw[Array.getElem?_setIfInBounds_ne (fun e=>hdt (by rw[hdo,e]))]
     have hback:∀k r,k≠i->Live (listed.setIfInBounds i true) k r->Live listed k r/\took i≠some r:=fun k r hne ⟨l1,l2,l3⟩=>by
      have hni:took i≠some r:=fun e=>by
       have:=l3 i e
       rw[hseti]at this
       cases this
      refine⟨⟨l1,by rw[<-hset k hne];exact l2,fun k' hk'=>?_⟩,hni⟩
      have hne':k'≠i:=fun e=>hni (by rw[<-e];exact hk')
      rw[<-hset k' hne']
      exact l3 k' hk'
     have hdisj:∀k r,k≠i->Live (listed.setIfInBounds i true) k r->∀b,BOf (took i) σr b->¬ Owned (S k) b:=fun k r hne hl b hb=>by
      obtain⟨r1,hr1,hb1⟩:=hBof b hb
      obtain⟨hl',hni⟩:=hback k r hne hl
      refine i6 r1.idx r1 k r (hlive r1 hr1) hl' (fun e=>hni ?_) b hb1
      have:=(hlive r1 hr1).1
      rw[e,hl'.1]at this
      rw[hr1,this]
     obtain⟨σ2,hσ2⟩:∃σ2:Pls,∀r,made i=some r->MemOk r.mem σ2 F2 w2/\Vc w2 F2 σ2 r.val v/\∀b,Owned σ2 b->BOf (took i) σr b\/w'.heap.size<=b:=by
      cases hmi:made i with
      |none=>exact⟨σ,fun r hr=>by cases hr⟩
      |some r =>
       obtain⟨σ2,q⟩:=hmk r hmi
       exact⟨σ2,fun r' hr'=>by cases hr';exact q⟩
     let S2:Nat->Pls:=fun k=>if k=i then σ2 else S k
     have hS2i:S2 i=σ2:=if_pos rfl
     have hS2n:∀k,k≠i->S2 k=S k:=fun k h=>if_neg h
     refine ih _ _ _ (by simp[hls]) ?_ ⟨by rw[put_size];exact i1,by rw[put_defers];exact i2,fun j o' ho' hj e he hb=>?_,F2,S2,hg,fun t=>?_,fun k r hl=>?_,fun k r k2 r2 hl hl2 hne b hb hb2=>?_,bx,⟨fun hx=>?_,fun hx=>?_⟩,fun hx k r hl hob=>?_⟩
     .have:=unl_set hlist
      rw[Array.toList_setIfInBounds]
      omega
     .by_cases hji:j=i
      .subst hji
       rw[ho]at ho'
       cases ho'
       have hlt:=hoi.back e he hb
       exact hsetm _ (toT _ Om (g2 e he hb))
      .rw[hset j hji]at hj
       exact hsetm _ (ic j o' ho' hj e he hb)
     .have mono:∀{A u},Vc w' F' σ A u->Vc w2 F2 σ A u:=fun h=>h.mono hc.fro hfz (SLe.refl σ)
      by_cases hdt:o.dst=some t
      .rw[hput t hdt]
       refine⟨fun j o' _ ho' hd' _=>?_,fun hno=>?_⟩
       .have:=hoi.once t hdt j o' (by rw[Array.getElem?_toList];exact ho') hd'
        subst this
        exact hv
       .have:=hno i o ho hdt
        rw[hseti]at this
        cases this
      .rw[hputn t hdt]
       have hne:∀(j:Nat) o',ops[j]?=some o'->o'.dst=some t->j≠i:=fun j o' ho' hd' e=>by
        subst e
        rw[ho]at ho'
        cases ho'
        exact hdt hd'
       refine⟨fun j o' hjp ho' hd' hj=>?_,fun hno=>?_⟩
       .rw[hset j (hne j o' ho' hd')]at hj
        exact mono ((i4 t).1 j o' hjp ho' hd' hj)
       .exact mono ((i4 t).2 fun j o' ho' hd'=>by
         have:=hno j o' ho' hd'
         rwa [hset j (hne j o' ho' hd')]at this)
     .by_cases hk:k=i
      .subst hk
       obtain⟨q1,q2,q3⟩:=hσ2 r hl.1
       obtain⟨_,o2,q4,q5⟩:=hMade _ _ hl.1
       rw[ho]at q4
       cases q4
       rw[hS2i,hput _ q5]
       refine⟨q1,q2,fun b hb=>?_⟩
       rcases q3 b hb with h|h
       .exact hB0 b h
       .exact Nat.le_trans i3.size h
      .obtain⟨hl',hni⟩:=hback k r hk hl
       obtain⟨q1,q2,q3⟩:=i5 k r hl'
       obtain⟨_,o2,q4,q5⟩:=hMade _ _ hl'.1
       have hdt:o.dst≠some r.tmp:=fun e=>hk (hoi.once _ e k o2 (by rw[Array.getElem?_toList];exact q4) q5)
       rw[hS2n k hk,hputn _ hdt]
       exact⟨Chg.mem q1 hc (hdisj k r hk hl) hBF,q2.mono hc.fro hfz (SLe.refl _),q3⟩
     .by_cases hk:k=i
      .subst hk
       rw[hS2i]at hb
       rw[hS2n k2 (fun e=>hne e.symm)]at hb2
       obtain⟨hl2',_⟩:=hback k2 r2 (fun e=>hne e.symm) hl2
       rcases(hσ2 r hl.1).2.2 b hb with h|h
       .exact hdisj k2 r2 (fun e=>hne e.symm) hl2 b h hb2
       .have:=(owned_nf (i5 k2 r2 hl2').1 b hb2).2
        omega
      .obtain⟨hl',_⟩:=hback k r hk hl
       rw[hS2n k hk]at hb
       by_cases hk2:k2=i
       .subst hk2
        rw[hS2i]at hb2
        rcases(hσ2 r2 hl2.1).2.2 b hb2 with h|h
        .exact hdisj k r hk hl b h hb
        .have:=(owned_nf (i5 k r hl').1 b hb).2
         omega
       .obtain⟨hl2',_⟩:=hback k2 r2 hk2 hl2
        rw[hS2n k2 hk2]at hb2
        exact i6 k r k2 r2 hl' hl2' hne b hb hb2
     .rw[hset _ Om]at hx⊢
      exact ibx.1 hx
     .rw[hset _ Om]at hx
      have hh:=ibx.2 hx
      have hnb:¬ BOf (took i) σr bx:=fun hb=>by
       obtain⟨r,hr,hb⟩:=hBof bx hb
       exact inb hx _ r (hlive r hr) hb
      rw[hset _ Om,hputn _ (fun e=>by have:=b0.ne i o ho e;omega)]
      obtain⟨g3,g4,g5,g6,us,g7,g8,g9⟩:=hh
      refine⟨g3,g4,Nat.lt_of_lt_of_le g5 hc.size,fun hF2=>?_,us,by rw[hc.keep bx g5 hnb];exact g7,g8,fun hs j x u hx2 hu=>⟨(g9 hs j x u hx2 hu).1.mono hc.fro hfz,(g9 hs j x u hx2 hu).2⟩⟩
      rcases hc.fro' bx hF2 with h|h|h
      .exact g6 h
      .exact hnb h
      .omega
     .rw[hset _ Om]at hx
      have hh:=ibx.2 hx
      have hnb:¬ BOf (took i) σr bx:=fun hb=>by
       obtain⟨r,hr,hb⟩:=hBof bx hb
       exact inb hx _ r (hlive r hr) hb
      by_cases hk:k=i
      .subst hk
       rw[hS2i]at hob
       rcases(hσ2 r hl.1).2.2 bx hob with h|h
       .exact hnb h
       .have:=hh.2.2.1
        omega
      .obtain⟨hl',_⟩:=hback k r hk hl
       rw[hS2n k hk]at hob
       exact inb hx k r hl' hob
    unfold wpOpIn
    simp only[ho]
    cases hw:Region.wanted o (yielded ops a'.tmps) with
    |false =>
     simp only[Bool.false_eq_true,if_false]
     obtain⟨t1,t2,t3⟩:=hdoes.2 hw
     exact⟨fun _ _=>trivial,next _ _ ⟨F',(Grew.refl hmw.fl).chg,t3 _ _,fun r hr=>by rw[t2]at hr;cases hr⟩⟩
    | true =>
     simp only[if_true]
     have h3:=hdoes.1 hw
     have hdef:∀c,o.op≠.defer c:=fun c hc=>by
      simp only[execOp,hc,Sem.run_bind]at h3
      cases hr:(resolve a'.eval c o.type).run P w'<;>simp[hr,Result.andThen,YieldX]at h3
     refine wpIn_at hdef ?_
     generalize (execOp a'.eval o).run P w'=r at h3
     cases r with
     | ok x w2 =>
      cases x<;>simp only[YieldX]at h3<;>simp only[Oper.uponIn]
      case value u=>exact next u w2 h3
      case skip=>exact next undef w2 h3
      case enter f args =>
       obtain⟨t1,t2,e1,hc⟩:=h3
       rw[e1]
       exact⟨Fen_depth,callsFen.2 (hc.mono fun e w3 ⟨u,F3,he,k1,k2⟩=>by subst he;exact next u w3 ⟨F3,k1.chg,k2,fun r hr=>by rw[t2]at hr;cases hr⟩)⟩
     |halt x w2=>simp only[YieldX]at h3
 have hrep:∀j,j<ops.size->(Array.replicate ops.size false).getD j true=false:=fun j hj=>by
  rw[getD_list,Array.toList_replicate,List.getElem?_replicate,if_pos hj]
  rfl
 refine wpIn_region_any h1 (main ops.size _ a _ (by simp) ?_ ⟨hN,rfl,fun j o ho hj=>?_,F,fun _=>σ,Grew.drew hm.fl,fun t=>⟨fun j o _ ho _ hj=>?_,fun _=>?_⟩,fun k r hl=>?_,fun k r k2 r2 hl=>?_,0,⟨fun hx=>?_,fun hx=>?_⟩,fun hx=>?_⟩)
 .have:∀k,unl (List.replicate k false)=k:=fun k=>by
   induction k with
   |zero=>rfl
   |succ k ih=>rw[List.replicate_succ,unl,ih];simp;omega
  rw[Array.toList_replicate,this]
  exact Nat.le_refl _
 .rw[hrep j (Array.getElem?_eq_some_iff.1 ho).1]at hj
  cases hj
 .rw[hrep j (Array.getElem?_eq_some_iff.1 ho).1]at hj
  cases hj
 .exact Vc.mono (w:=w) (w':={w with drawn:=w.drawn+1}) (fun _ h=>h) (fun _ _=>rfl) (SLe.refl σ) (he t)
 .obtain⟨_,o,ho,_⟩:=hMade k r hl.1
  have:=hl.2.1
  rw[hrep k (Array.getElem?_eq_some_iff.1 ho).1]at this
  cases this
 .obtain⟨_,o,ho,_⟩:=hMade k r hl.1
  have:=hl.2.1
  rw[hrep k (Array.getElem?_eq_some_iff.1 ho).1]at this
  cases this
 all_goals (rw[hrep _ Om]at hx;cases hx)
theorem Awp.oneX (hT:TabOk P T){id N:Nat}{ops:Array Oper}{env:Env}{Q:Post}(n:Nat)(s0:BoxS)(h1:P.follows .mixedOrders=true)(h2:okR ops.toList=true)(hd:dstsIn N ops.toList=true)(hsuf:Nat.beq (ops.toList.drop n).length 2=true)
  (b0:BoxOk1 T ops n s0) (h0N:Nat.blt s0.t N=true)
  (h:vcX P T ops.toList m (ops.toList.take n) 0 env [] fun E=>get E s0.tx=.d (.agg s0.cs)/\Ev (Q .normal ((s0.t,.d (.pt s0.cs 0))::E) m)):Awp P N (.region id ops true) env m Q :=
 ⟨fun ro lo a w σ F hN hD he hm=>by
  have h4:=Nat.eq_of_beq_eq_true hsuf
  have hl:(ops.toList.take n).length=n:=take_len rfl (fun e=>by rw[e]at h4;cases h4)
  refine drawn_oneX h1 h2 hT hm hd (List.take_append_drop n _).symm h4 s0 (by rw[hl];exact b0) (Nat.le_of_ble_eq_true h0N) h (fun E hE=>hE.1) hN he ?_
  intro env' a' w' F' hK hN' hD' hg hE
  exact⟨_,m,σ,F',hK.2.o,hN',by rw[hD'];exact hD.step (hg.step σ),hE,hg.mem hm,hg.step σ,SArg.refl σ⟩⟩
end
end Go.Ab
