import Derived.Test.YtmlhghddfobmmaaGreatDoorEngAT
import Derived.Test.YtmlhghddfobmmaaGreatDoorEngAJ
import Derived.Test.YtmlhghddfobmmaaGreatDoorEngAA
namespace Go.Ab
set_option linter.unusedSimpArgs false
set_option linter.unusedVariables false
theorem Awp.block {P:Program}{N id:Nat}{c:Code}{env:Env}{m:Mem}{Q:Ja}(h:Awp P N c env m fun e env m=>match e with
  | .exit i=>(bif Nat.beq i id then Q .normal env m else Q (.exit i) env m)
  | .normal=>Q .normal env m
  | .goto i=>Q (.goto i) env m
  | .ret=>Q .ret env m
  | .panic ch=>Q (.panic ch) env m
  | .outgrown=>Q .outgrown env m):Awp P N (.block id c) env m Q :=
 ⟨fun ro lo a w σ F hN hD he hm=>by
  refine wpIn_block (wpIn_mono (h.run ro lo a w σ F hN hD he hm) ?_)
  rintro e a1 w1 ⟨env1,m1,σ1,F1,k1,k2⟩
  cases e with
  | exit i =>
   simp only[Exit.inBlock]
   cases hi:Nat.beq i id with
   |true =>
    have:=Qh1 hi
    subst this
    simp only[if_true]
    simp only[hi,cond_true]at k1
    exact⟨env1,m1,σ1,F1,k1,k2⟩
   |false =>
    rw[if_neg (Qhv hi)]
    simp only[hi,cond_false]at k1
    exact⟨env1,m1,σ1,F1,k1,k2⟩
  |_=>exact⟨env1,m1,σ1,F1,k1,k2⟩⟩
section
variable {P:Program}{T:Tab}{m:Mem}{σ:Pls}
structure G6 (T:Tab)(ops:Array Oper)(n:Nat)(s:G7):Prop where
 al:∃o,ops[n]?=some o/\o.dst=some s.t/\o.guard=none/\o.op=.alloc s.e
 st:∃o,ops[n+1]?=some o/\o.dst=none/\o.guard=none/\o.op=.store s.e (.tmp s.t) (.tmp s.tx)/\Ku o n/\Ku o s.jx
 vx:s.jx<n/\∃o,ops[s.jx]?=some o/\o.dst=some s.tx
 ty:∃ti,T.at s.e=some ti/\ti.size=s.cs.length
 one:∀x∈s.cs,x.one=true
 ne:∀(j:Nat) o,ops[j]?=some o->o.dst=some s.t->j=n
theorem G6.of {ops:Array Oper}{n:Nat}{s:G7}{oa os ox:Oper}{ti:TI}(a1:ops[n]?=some oa)(a2:oa.dst=some s.t/\oa.guard=none/\oa.op=.alloc s.e)(s1:ops[n+1]?=some os)(s2:os.dst=none/\os.guard=none/\os.op=.store s.e (.tmp s.t) (.tmp s.tx))
  (s3:Vi os.after.toList n=true) (s4:Vi os.after.toList s.jx=true) (v1:Nat.blt s.jx n=true) (v2:ops[s.jx]?=some ox) (v3:ox.dst=some s.tx) (t1:T.at s.e=some ti) (t2:ti.size=s.cs.length) (h1:P9 s.cs=true) (h2:Nf s.t n 0 ops.toList=true):G6 T ops n s where
 al:=⟨oa,a1,a2.1,a2.2.1,a2.2.2⟩
 st:=⟨os,s1,s2.1,s2.2.1,s2.2.2,Yq s3,Yq s4⟩
 vx:=⟨Qhf v1,ox,v2,v3⟩
 ty:=⟨ti,t1,t2⟩
 one:=Il h1
 ne j o ho hd:=by
  have:=Tb h2 j o (by rw[Qh2];exact ho) hd
  omega
def Cg (n0:Nat)(n:Nat)(s:G7)(listed:Array Bool)(F:Nat->Prop)(w:World)(tmps:Array Value)(b:Nat):Prop :=
 (listed.getD (n+1) true=true->listed.getD n true=true)/\(listed.getD n true=true->Bk n0 s.e s.cs.length s.cs (listed.getD (n+1) true) F w (tmps.getD s.t undef) b)
variable {ro:Option Nat}
theorem Qcd (hT:Qb P T){N:Nat}{ops:Array Oper}{n:Nat}{s:G7}(hb:G6 T ops n s)(htN:s.t<N){F0:Nat->Prop}{w0:World}{As:Nat->AV}{env:Env}
  {listed:Array Bool} {a':Act} {w':World} {F':Nat->Prop} {i:Nat} {o:Oper} (hi:i=n\/i=n+1) (ho:ops[i]?=some o) (hl:listed.getD i true=false) (hen:∀e∈o.after,Region.binds .any e=true->listed.getD e.on true=true) (hN:a'.tmps.size=N) (hm:Q3 m σ F' w')
  (hs:Uj ops n env σ As listed F' w' a'.tmps) (hA:As s.jx=.d (.agg s.cs)) (hg:Qn F0 w0 F' w') (hown:∀b,Qm σ b->b<w0.heap.size) (hR:∃b,Cg w0.heap.size n s listed F' w' a'.tmps b) {next:Act->World->Prop} {Q:Exit->Act->World->Prop}
  (hnext:∀v w2,(∀b,F' b->w2.heap[b]?=w'.heap[b]?)->Q3 m σ F' w2->Qn F0 w0 F' w2->(∃b,Cg w0.heap.size n s (listed.setIfInBounds i true) F' w2 (a'.put o.dst v).tmps b)->next (a'.put o.dst v) w2):wpOpIn (Fen ro) 0 P ops Q i next a' w':=by
 obtain⟨ti,hti,hsz⟩:=hb.ty
 obtain⟨b,hR1⟩:=hR
 rcases hi with rfl|rfl
 .obtain⟨o',ho',hdst,hgd,hop⟩:=hb.al
  rw[ho]at ho'
  cases ho'
  have hw:Region.wanted o (yielded ops a'.tmps)=true:=by simp[Region.wanted,hgd]
  unfold wpOpIn
  simp only[ho,hw,if_true]
  obtain⟨us,hus,hrun⟩:=Q42 hT hti w'
  refine V5 (fun d h=>by rw[hop]at h;cases h) ?_
  rw[hrun a' o hop]
  simp only[Oper.uponIn]
  have hkeep:∀x,x<w'.heap.size->(w'.alloc (.cells us.toArray s.e)).heap[x]?=w'.heap[x]?:=fun x hx=>heap_alloc_old w' _ hx
  have hsize:(w'.alloc (.cells us.toArray s.e)).heap.size=w'.heap.size+1:=size_alloc w' _
  have hgr:Qn F' w' F' (w'.alloc (.cells us.toArray s.e)):=⟨rfl,rfl,rfl,Qgx _,Om,fun x hx=>hkeep x hx,fun _ h=>h,fun _ h=>.inl h,fun x hx=>by have:=hm.fl x hx;omega⟩
  refine hnext _ _ (fun x hx=>hkeep x (hm.fl x hx)) (hgr.mem hm) (hg.trans hgr) ⟨w'.heap.size,⟨fun h=>Gx,fun _=>?_⟩⟩
  have hns:listed.getD (i+1) true=false:=by
   cases h:listed.getD (i+1) true with
   |false=>rfl
   |true=>rw[hR1.1 h]at hl;cases hl
  rw[Ze Om,hns,hdst,put_eq (by rw[hN];exact htN)]
  exact⟨rfl,hg.size,Om,fun h=>by have:=hm.fl _ h;omega,us,heap_alloc_new w' _,Om,fun h=>by cases h⟩
 .obtain⟨o',ho',hdst,hgd,hop,⟨e1,he1,heq1,hbi1⟩,⟨e2,he2,heq2,hbi2⟩⟩:=hb.st
  rw[ho]at ho'
  cases ho'
  have hw:Region.wanted o (yielded ops a'.tmps)=true:=by simp[Region.wanted,hgd]
  have hlc:listed.getD n true=true:=by have:=hen e1 he1 hbi1;rwa [heq1]at this
  have hlj:listed.getD s.jx true=true:=by have:=hen e2 he2 hbi2;rwa [heq2]at this
  obtain⟨hjn,oj,hoj,hdj⟩:=hb.vx
  have hval:=(hs s.tx).1 s.jx oj hjn hoj hdj hlj
  rw[hA]at hval
  obtain⟨V,hV⟩:∃V,a'.tmps.getD s.tx undef=V:=⟨_,rfl⟩
  rw[hV]at hval
  have hval:Rd w' F' (.agg s.cs) V:=by cases hval with|d h=>exact h
  obtain⟨hv,hn0,hlt,hnF,us,hheap,hlen,hst⟩:=hR1.2 hlc
  unfold wpOpIn
  simp only[ho,hw,if_true]
  refine V5 (fun d h=>by rw[hop]at h;cases h) ?_
  obtain⟨vs,hvl,hvr,hrun⟩:=Qfj hT hti hsz hb.one hval hheap hlen
  have hex:(execOp a'.eval o).run P w'=.ok .skip (w'.setRow b vs.toArray):=by
   have e3:a'.eval (.tmp s.t)=.pointer (some ⟨b,0,none⟩):=hv
   have e4:a'.eval (.tmp s.tx)=V:=hV
   simp[execOp,hop,e3,e4,hrun]
  rw[hex]
  simp only[Oper.uponIn]
  have hoth:∀x,x≠b->(w'.setRow b vs.toArray).heap[x]?=w'.heap[x]?:=fun x hx=>setRow_other w' b x _ hx
  have hsize:(w'.setRow b vs.toArray).heap.size=w'.heap.size:=size_setRow _ _ _
  have hFk:∀x,F' x->(w'.setRow b vs.toArray).heap[x]?=w'.heap[x]?:=fun x hx=>hoth x (fun e=>hnF (e▸hx))
  have hgr:Qn F0 w0 F' (w'.setRow b vs.toArray):=⟨hg.os,hg.tape,hg.output,hg.drawn,by rw[hsize];exact hg.size,fun x hx=>(hoth x Om).trans (hg.keep x hx),hg.fro,hg.fro',fun x hx=>by rw[hsize];exact hg.lt x hx⟩
  refine hnext _ _ hFk (hm.world (by rw[hsize];exact Qgx _) fun x hx=>?_) hgr ⟨b,⟨fun _=>by rw[Ze Om];exact hlc,fun _=>?_⟩⟩
  .rcases hx with hx|⟨r,p,t,h1,h2⟩
   .exact hFk x hx
   .exact hoth x (fun e=>by have:=hown x ⟨r,p,t,h1,h2⟩;omega)
  .rw[hdst,Ln (fun e=>by cases e)]
   exact⟨hv,hn0,by rw[hsize];exact hlt,hnF,vs,setRow_heap w' b us.toArray _ s.e (0,0) hheap,hvl,fun _ j x u hx hu=>⟨(hvr j x u hx hu).1.mono (fun _ h=>h) hFk,(hvr j x u hx hu).2⟩⟩
theorem Awp.one (hT:Qb P T){id N:Nat}{ops:Array Oper}{env:Env}{Q:Ja}(h1:P.follows .mixedOrders=true)(h2:okR ops.toList=true)(hd:Jb N ops.toList=true)(pre suf:List Oper)(hsp:ops.toList=pre++suf)(hsuf:suf.length=2)(s0:G7)
  (b0:G6 T ops pre.length s0) (h0N:s0.t<N)
  (h:vcR P T ops.toList m pre env fun E=>get E s0.tx=.d (.agg s0.cs)/\Ev (Q .normal ((s0.t,.d (.pt s0.cs 0))::E) m)):Awp P N (.region id ops true) env m Q :=
 ⟨fun ro lo a w σ F hN hD he hm=>by
  have hown:∀b,Qm σ b->b<w.heap.size:=fun b ⟨r,p,t,e1,e2⟩=>(hm.nf r p b t e1 e2).2
  have hsize:ops.size=pre.length+2:=by
   have:ops.toList.length=ops.size:=Qhg
   rw[<-this,hsp,Qhc,hsuf]
  refine Q7q h1 h2 hT hm hd hsp h hN he (fun listed a' w' F'=>Qn F w F' w'/\∃b,Cg w.heap.size pre.length s0 listed F' w' a'.tmps b) ?_ ?_ ?_ ?_
  .have hrep:∀j,j<ops.size->(Array.replicate ops.size false).getD j true=false:=fun j hj=>by
    rw[Qu,Qi0,Qik,if_pos hj]
    rfl
   refine⟨Qn.drew hm.fl,0,⟨fun h=>?_,fun h=>?_⟩⟩
   all_goals (rw[hrep _ Om]at h;cases h)
  .rintro listed a' w' F' F2 w2 v i o ⟨hg,b,hR⟩ hg2 hi ho hls hN'
   refine⟨hg.trans hg2,b,fun h=>?_,fun h=>?_⟩
   .rw[Ze Om]at h⊢
    exact hR.1 h
   .rw[Ze Om]at h
    rw[Ze Om,Ln (fun e=>by have:=b0.ne i o ho e;omega)]
    have hh:=hR.2 h
    exact hh.mono hg2.size hg2.fro hg2.fro' (fun x hx=>hg2.keep x (hg.lt x hx)) (hg2.keep _ hh.2.2.1)
  .rintro As listed a' w' F' i o hE hK hi ho hl hen hls hN' hD' hmw hs ⟨hg,hR⟩ next hnext
   have hiN:i<ops.size:=(Qh4.1 ho).1
   have hA0:As s0.jx=.d (.agg s0.cs):=by
    obtain⟨hj,oj,hoj,hdj⟩:=b0.vx
    rw[<-hE s0.jx oj s0.tx hoj hdj hj]
    exact hK.1
   have mono:∀w2:World,(∀b,F' b->w2.heap[b]?=w'.heap[b]?)->∀A u,Vc w' F' σ A u->Vc w2 F' σ A u:=fun w2 hk A u hv=>hv.mono (fun _ h=>h) hk (SLe.refl σ)
   exact Qcd hT b0 h0N (show i=pre.length\/i=pre.length+1 by omega) ho hl hen hN' hmw hs hA0 hg hown hR fun v w2 k1 k2 k3 k4=>hnext v w2 F' k2 (mono w2 k1) ⟨k3,k4⟩
  .rintro As a' w' F' ⟨_,hK⟩ hE hN' hD' hmw hs listed hall ⟨hg,b,hR1⟩
   obtain⟨hv0,hn0,hlt0,hnF0,us0,hh0,hl0,hr0⟩:=hR1.2 (hall _ Om)
   rw[hall _ Om]at hr0
   let F2:Nat->Prop:=fun x=>F' x\/x=b
   have hg2:Qn F w F2 w':=⟨hg.os,hg.tape,hg.output,hg.drawn,hg.size,hg.keep,fun x hx=>.inl (hg.fro x hx),fun x hx=>by
    rcases hx with hx|rfl
    .exact hg.fro' x hx
    .exact .inr hn0,fun x hx=>by
    rcases hx with hx|rfl
    .exact hg.lt x hx
    .exact hlt0⟩
   have upF:∀{x u},Rd w' F' x u->Rd w' F2 x u:=fun h=>h.mono (fun _ h=>.inl h) (fun _ _=>rfl)
   have pt:∀(b:Nat) (e:TypeId) (us:List Value) (cs:List D),F2 b->w'.heap[b]?=some (.cells us.toArray e (0,0))->us.length=cs.length->(∀(j:Nat) x u,cs[j]?=some x->us[j]?=some u->Rd w' F' x u/\u.oneCell'=true)->Rd w' F2 (.pt cs 0) (.pointer (some ⟨b,0,none⟩)):=by
    intro b e us cs hF hh hl hr
    have:=Rd.pt (w:=w') (F:=F2) (cs:=cs) (off:=0) ⟨b,0,none⟩ (fun j=>us.getD j undef) hF
     (fun j hj=>by
      have hu:us[j]?=some (us[j]'Om):=Qgy Om
      rw[Vh,Qh9,cell_of_row w' b j us.toArray e (0,0) hh]
      simp only[Qha,hu,Qi3]
      exact⟨by simp,(hr j _ _ (Qgy hj) hu).2⟩)
     (fun j x hx=>by
      have hj:=(Qh7.1 hx).1
      have hu:us[j]?=some (us[j]'Om):=Qgy Om
      simp only[Qha,hu,Qi3]
      exact upF (hr j x _ hx hu).1)
    rwa [Vh]at this
   refine⟨_,m,σ,F2,hK.o,hN',by rw[hD'];exact hD.step (hg2.step σ),fun t=>?_,hg2.mem hm,hg2.step σ,Zj.refl σ⟩
   simp only[get]
   cases h0:Nat.beq s0.t t with
   |true =>
    have:=Qh1 h0
    subst this
    simp only[cond_true]
    rw[hv0]
    exact .d (pt b _ us0 _ (.inr rfl) hh0 hl0 (hr0 rfl))
   | false =>
    simp only[cond_false]
    refine(hs t fun j o hj ho hdo=>?_).mono (fun _ h=>.inl h) (fun _ _=>rfl) (SLe.refl σ)
    have hjN:j<ops.size:=(Qh4.1 ho).1
    rcases show j=pre.length\/j=pre.length+1 by omega with hj|hj
    .obtain⟨o',ho',hdst,_⟩:=b0.al
     rw[<-hj,ho]at ho'
     cases ho'
     rw[hdst]at hdo
     injection hdo with hdo
     exact Qhv h0 hdo
    .obtain⟨o',ho',hdst,_⟩:=b0.st
     rw[<-hj,ho]at ho'
     cases ho'
     rw[hdst]at hdo
     cases hdo⟩
theorem Awp.oneN (hT:Qb P T){id N:Nat}{ops:Array Oper}{env:Env}{Q:Ja}(n:Nat)(s0:G7)(h1:P.follows .mixedOrders=true)(h2:okR ops.toList=true)(hd:Jb N ops.toList=true)(hsuf:Nat.beq (ops.toList.drop n).length 2=true)
  (b0:G6 T ops n s0) (h0N:Nat.blt s0.t N=true)
  (h:vcR P T ops.toList m (ops.toList.take n) env fun E=>get E s0.tx=.d (.agg s0.cs)/\Ev (Q .normal ((s0.t,.d (.pt s0.cs 0))::E) m)):Awp P N (.region id ops true) env m Q:=by
 have h4:=Qh1 hsuf
 have hl:(ops.toList.take n).length=n:=Q4o rfl (fun e=>by rw[e]at h4;cases h4)
 exact Awp.one hT h1 h2 hd (ops.toList.take n) (ops.toList.drop n) (Qil _ _).symm h4 s0 (by rw[hl];exact b0) (Qhf h0N) h
end
section
variable {P:Program}{T:Tab}{m:Mem}{σ:Pls}
variable {ro:Option Nat}
end
noncomputable def vcZ (P:Program)(T:Tab)(full:List Oper)(m:Mem)(ops:List Oper):Nat->Env->List Row->(Env->List Row->Prop)->Prop :=
 List.rec (motive:=fun _=>Nat->Env->List Row->(Env->List Row->Prop)->Prop) (fun _ env rows K=>K env rows) (fun o _ ih k env rows K=>bif Gd full o then
   match Kc o.op rows with
   | (x,rest)=>match Gq T (K5 x (Uy (sel env (tmpsOf o.op)))) (B4 x) o.op with
    |none=>False
    |some (v,mc,l)=>match o.dst with
     |none=>False
     |some d=>obs l (frc v fun v=>Gt mc fun mc=>ih (k+1) ((d,.junk)::env) (⟨k,d,v,mc⟩::rest) K)
  else match o.guard with
  |none=>X8 P T m (sel env (tmpsOf o.op)) o fun v=>J7 env o.dst v fun env=>ih (k+1) env rows K
  | some (j,want)=>match guardOf full (sel env (Yb full (some (j,want)))) j want with
   |none=>False
   |some g=>match Xi T (sel env (tmpsOf o.op)) m o.op with
    |some (v,l)=>obs (under g l) (frc v fun v=>J7 env o.dst (.gd g v) fun env=>ih (k+1) env rows K)
    |none=>Br g (Ev (X8 P T m (sel env (tmpsOf o.op)) o fun v=>J7 env o.dst v fun env=>ih (k+1) env rows K)) (Ev (J7 env o.dst (.gd false (.d (.bool false))) fun env=>ih (k+1) env rows K))) ops
theorem Qgl (P:Program)(T:Tab)(full:List Oper)(m:Mem)(o:Oper)(rest:List Oper)(k:Nat)(env:Env)(rows:List Row)(K:Env->List Row->Prop):vcZ P T full m (o::rest) k env rows K=bif Gd full o then
   match Kc o.op rows with
   | (x,rest')=>match Gq T (K5 x (Uy (sel env (tmpsOf o.op)))) (B4 x) o.op with
    |none=>False
    |some (v,mc,l)=>match o.dst with
     |none=>False
     |some d=>obs l (frc v fun v=>Gt mc fun mc=>vcZ P T full m rest (k+1) ((d,.junk)::env) (⟨k,d,v,mc⟩::rest') K)
  else match o.guard with
  |none=>X8 P T m (sel env (tmpsOf o.op)) o fun v=>J7 env o.dst v fun env=>vcZ P T full m rest (k+1) env rows K
  | some (j,want)=>match guardOf full (sel env (Yb full (some (j,want)))) j want with
   |none=>False
   |some g=>match Xi T (sel env (tmpsOf o.op)) m o.op with
    |some (v,l)=>obs (under g l) (frc v fun v=>J7 env o.dst (.gd g v) fun env=>vcZ P T full m rest (k+1) env rows K)
    |none=>Br g (Ev (X8 P T m (sel env (tmpsOf o.op)) o fun v=>J7 env o.dst v fun env=>vcZ P T full m rest (k+1) env rows K)) (Ev (J7 env o.dst (.gd false (.d (.bool false))) fun env=>vcZ P T full m rest (k+1) env rows K)):=rfl
section
variable {P:Program}{T:Tab}{m:Mem}{σ:Pls}{F:Nat->Prop}{w:World}
theorem I2 (hT:Qb P T){full:List Oper}{K:Env->List Row->Prop}:∀(rest:List Oper) (base:Nat) (env:Env) (rows:List Row),(rows.map (·.idx)).Nodup->(∀r∈rows,r.idx<base)->vcZ P T full m rest base env rows K ->
  ∃As took made fin,Bj P m σ full rest base env rows (fun E=>K E fin) As took made/\∀r∈fin,(r∈rows\/∃k,made k=some r)/\∀k,took k≠some r
 |[],base,env,rows,hn,hlt,h=>⟨fun _=>.junk,fun _=>none,fun _=>none,rows,⟨h,fun k o ho=>(by simp at ho),fun k r h=>(by cases h),fun k r h=>(by cases h),fun k k' r r' h=>(by cases h)⟩,fun r hr=>⟨.inl hr,fun k h=>by cases h⟩⟩
 | o :: r,base,env,rows,hn,hlt,h=>by
  rw[Qgl]at h
  cases hc:Gd full o with
  | false =>
   rw[hc]at h
   simp only[cond_false]at h
   have key:∃A,vcZ P T full m r (base+1) (Vy o A env) rows K/\Ui P m σ full o env A:=by
    have hs1:∀t∈tmpsOf o.op,t∈Zs full o:=fun t ht=>Yu.2 (.inl ht)
    split at h
    .rename_i hg
     obtain⟨A,hK,hD⟩:=Bg hT h
     refine⟨A,Xt hK,fun F w a hm he=>⟨fun _=>hD F w a hm (Vl fun t ht=>he t (hs1 t ht)),fun hw=>?_⟩⟩
     simp[Region.wanted,hg]at hw
    .rename_i j want hg
     have hs2:∀t∈Yb full (some (j,want)),t∈Zs full o:=fun t ht=>Yu.2 (.inr (by rw[hg];exact ht))
     split at h<;>try (cases h;done)
     rename_i g hgo
     have hw:∀(F:Nat->Prop) (w:World) (a:Act),(∀t∈Zs full o,Vc w F σ (get env t) (a.tmps.getD t undef))->Region.wanted o (yielded full.toArray a.tmps)=g:=fun F w a he=>by
      simp only[Region.wanted,hg]
      exact Hv (Vl fun t ht=>he t (hs2 t ht)) hgo
     split at h
     .rename_i v l hr
      obtain⟨hl,h⟩:=Zw h
      rw[Ya]at h
      refine⟨.gd g v,Xt h,fun F w a hm he=>?_⟩
      rw[hw F w a he]
      refine⟨fun hgt=>?_,fun hgf w F=>.gd (fun h=>by rw[hgf]at h;cases h) fun _=>rfl⟩
      exact V7.mono (fun w F u hu=>.gd (fun _=>hu) fun h=>by rw[hgt]at h;cases h) (Nl hT hr (Bc hl hgt) F w a hm (Vl fun t ht=>he t (hs1 t ht)))
     .cases g with
      |true =>
       obtain⟨A,hK,hD⟩:=Bg hT (h.t rfl).o
       refine⟨A,Xt hK,fun F w a hm he=>⟨fun _=>hD F w a hm (Vl fun t ht=>he t (hs1 t ht)),fun hwf=>?_⟩⟩
       rw[hw F w a he]at hwf
       cases hwf
      |false =>
       refine⟨_,Xt (h.f rfl).o,fun F w a hm he=>⟨fun hwt=>?_,fun _ w F=>.gd (fun h=>by cases h) fun _=>rfl⟩⟩
       rw[hw F w a he]at hwt
       cases hwt
   obtain⟨A,hr,hD⟩:=key
   obtain⟨As,took,made,fin,hE,hfin⟩:=I2 hT r (base+1) _ rows hn (fun r hr=>Nat.lt_succ_of_lt (hlt r hr)) hr
   refine⟨_,_,_,fin,hE.cons (x:=none) (y:=none) hD.x (fun r h=>by cases h) (fun r h=>by cases h) (fun r hr=>.inl hr) (fun r h=>by cases h) hlt,fun r hr=>?_⟩
   obtain⟨q1,q2⟩:=hfin r hr
   exact⟨q1.imp id fun⟨k,hk⟩=>⟨k+1,hk⟩,fun k=>match k with
    |0=>fun h=>by cases h
    |k+1=>q2 k⟩
  | true =>
   rw[hc]at h
   simp only[cond_true]at h
   have hg:o.guard=none:=by
    unfold Gd at hc
    split at hc
    .cases hc
    .rename_i h;exact h
   obtain⟨x,rest',htk⟩:∃x r',Kc o.op rows=(x,r'):=⟨_,_,rfl⟩
   rw[htk]at h
   simp only at h
   obtain⟨k1,k2,k3⟩:=Q4m htk
   obtain⟨k4,k5⟩:=k3 hn
   split at h<;>try (cases h;done)
   rename_i v mc l hev
   split at h<;>try (cases h;done)
   rename_i d hd
   obtain⟨hl,h⟩:=Zw h
   rw[Ya,Ns]at h
   have hlt':∀r∈rest',r.idx<base+1:=fun r hr=>Nat.lt_succ_of_lt (hlt r (k2 r hr))
   have hstep:Vy o .junk env=(d,.junk)::env:=by unfold Vy;rw[hd]
   obtain⟨As,took,made,fin,hE,hfin⟩:=I2 hT r (base+1) _ (⟨base,d,v,mc⟩::rest') (by
    simp only[Qin,List.nodup_cons]
    refine⟨fun hm=>?_,k4⟩
    obtain⟨r2,hr2,e⟩:=Qhw.1 hm
    have:=hlt r2 (k2 r2 hr2)
    omega) (fun r hr=>by
     rcases Qho.1 hr with rfl|hr
     .exact Nat.lt_succ_self _
     .exact hlt' r hr) h
   rw[<-hstep]at hE
   refine⟨_,_,_,fin,hE.cons (x:=x) (y:=some ⟨base,d,v,mc⟩) (fun F w a σr hm hs hx=>?_) (fun r h=>by cases h;exact⟨rfl,hd⟩) k1 (fun r hr=>?_) (fun r hr r' hr'=>?_) hlt,fun r hr=>?_⟩
   .obtain⟨hw,n,u,w',σ',g1,g2,g3,g4,g5,g6⟩:=T5 hT hg hev hl hm hs hx
    refine⟨fun _=>?_,fun hwf=>by rw[hw]at hwf;cases hwf⟩
    have hY:Kj P σ σr F w .junk x (some ⟨base,d,v,mc⟩) u w':=⟨F,g5,.junk,fun r hr=>by cases hr;exact⟨σ',g4,g3,g6⟩⟩
    rw[g1]
    rcases g2 with rfl|⟨rfl,rfl⟩
    .exact hY
    .exact hY
   .rcases Qho.1 hr with rfl|hr
    .exact .inr rfl
    .exact .inl (k2 r hr)
   .rcases Qho.1 hr' with rfl|hr'
    .have:=hlt r (k1 r hr).1
     show base≠r.idx
     omega
    .exact k5 r hr r' hr'
   .obtain⟨q1,q2⟩:=hfin r hr
    refine⟨?_,fun k=>match k with
     |0=>fun hx=>?_
     |k+1=>q2 k⟩
    .rcases q1 with q1|⟨k,hk⟩
     .rcases Qho.1 q1 with rfl|q1
      .exact .inr ⟨0,rfl⟩
      .exact .inl (k2 r q1)
     .exact .inr ⟨k+1,hk⟩
    .have hx:x=some r:=hx
     have hb:=hlt r (k1 r hx).1
     rcases q1 with q1|⟨k,hk⟩
     .rcases Qho.1 q1 with rfl|q1
      .exact Nat.lt_irrefl _ hb
      .exact k5 r hx r q1 rfl
     .have:=(hE.madeAt k r hk).1
      omega
theorem Ig (hm:Q3 m σ F w){B:Blk}{pl:Pl}(hB:Jx w F (upd σ m.new (some pl)) B pl)(hl:∀b t,pl.loc=some (b,t)->¬ F b/\b<w.heap.size/\¬ Qm σ b) :
  Q3 (m.add B) (upd σ m.new (some pl)) F w/\SLe σ (upd σ m.new (some pl)):=by
 have hn:=Ux hm
 have hs:=SLe.upd_new (σ:=σ) (r:=m.new) (some pl) hn
 refine⟨⟨fun r=>?_,fun r q hq=>?_,fun r r' p p' b t t' h1 h2 h3 h4=>?_,fun r p b t h1 h2=>?_,hm.fl,hm.gl⟩,hs⟩
 .by_cases e:r=m.new
  .subst e;rw[J3,P5];simp
  .rw[J4 σ _ e,P6 B e];exact hm.dom r
 .by_cases e:r=m.new
  .subst e
   rw[J3]at hq
   injection hq with hq
   subst hq
   exact⟨(fun h=>by cases h),fun p hp=>by injection hp with hp;subst hp;exact⟨B,P5 B,hB⟩⟩
  .rw[J4 σ _ e]at hq
   rw[P6 B e]
   refine⟨(hm.lv r q hq).1,fun p hp=>?_⟩
   obtain⟨B',h1,h2⟩:=(hm.lv r q hq).2 p hp
   exact⟨B',h1,h2.mono (fun _ h=>h) (fun _ _=>rfl) hs (fun b t hl=>rfl)⟩
 .by_cases e:r=m.new<;>by_cases e':r'=m.new
  .rw[e,e']
  .exfalso
   subst e
   rw[J3]at h1
   injection h1 with h1
   injection h1 with h1
   subst h1
   rw[J4 σ _ e']at h2
   exact(hl b t h3).2.2 ⟨r',p',t',h2,h4⟩
  .exfalso
   subst e'
   rw[J3]at h2
   injection h2 with h2
   injection h2 with h2
   subst h2
   rw[J4 σ _ e]at h1
   exact(hl b t' h4).2.2 ⟨r,p,t,h1,h3⟩
  .rw[J4 σ _ e]at h1
   rw[J4 σ _ e']at h2
   exact hm.inj r r' p p' b t t' h1 h2 h3 h4
 .by_cases e:r=m.new
  .subst e
   rw[J3]at h1
   injection h1 with h1
   injection h1 with h1
   subst h1
   exact⟨(hl b t h2).1,(hl b t h2).2.1⟩
  .rw[J4 σ _ e]at h1
   exact hm.nf r p b t h1 h2
theorem Q31 {pl:Pl}{r:Ref}{b:Nat}(h:Qm (upd σ r (some pl)) b):Qm σ b\/∃t,pl.loc=some (b,t):=by
 obtain⟨r',p,t,h1,h2⟩:=h
 by_cases e:r'=r
 .subst e
  rw[J3]at h1
  injection h1 with h1
  injection h1 with h1
  subst h1
  exact .inr ⟨t,h2⟩
 .rw[J4 σ _ e]at h1
  exact .inl ⟨r',p,t,h1,h2⟩
theorem Ck {σr:Pls}{e:TypeId}{sz g n:Nat}{f:Nat->List AV}(hm:Q3 m σ F w)(hr:Q3 ⟨[some (.vec e sz g n f)],[]⟩ σr F w)(hd:∀b,Qm σr b->¬ Qm σ b)(hdat:∀i,i<n->∃x,f i=up x){u:Value}(hu:Vc w F σr (.osl (.loc 0) g 0 n) u) :
  ∃σ',Q3 (m.add (.vec e sz g n f)) σ' F w/\SLe σ σ'/\Vc w F σ' (.osl m.new g 0 n) u/\∀b,Qm σ' b->Qm σ b\/Qm σr b:=by
 cases hu with
 | @osl _ _ _ _ _ q hq h =>
  obtain⟨h1,h2⟩:=hr.lv _ _ hq
  cases q with
  |none=>cases h1 rfl
  | some pl =>
   obtain⟨B,hB,hok⟩:=h2 pl rfl
   cases hB
   obtain⟨k1,k2,k3,k4,k5⟩:=hok
   obtain⟨m1,m2⟩:=Ig (B:=.vec e sz g n f) (pl:=pl) hm ⟨k1,k2,k3,k4,fun b tot hl=>by
    obtain⟨a1,a2,us,a3,a4,a5⟩:=k5 b tot hl
    refine⟨a1,a2,us,a3,a4,fun i j A hi hA=>?_⟩
    obtain⟨v,b1,b2,b3⟩:=a5 i j A hi hA
    refine⟨v,b1,?_,b3⟩
    obtain⟨x,hx⟩:=hdat i hi
    rw[hx,Zb,Qhe]at hA
    cases hxj:x[j]? with
    |none=>rw[hxj]at hA;cases hA
    |some y =>
     rw[hxj]at hA
     injection hA with hA
     subst hA
     cases b2 with
     |d b2=>exact .d b2⟩ fun b t hl=>⟨(hr.nf _ _ b t hq hl).1,(hr.nf _ _ b t hq hl).2,fun ho=>hd b ⟨_,pl,t,hq,hl⟩ ho⟩
   refine⟨_,m1,m2,.osl (J3 σ m.new (some pl)) fun p hp=>?_,fun b hb=>?_⟩
   .injection hp with hp
    subst hp
    exact h _ rfl
   .exact(Q31 hb).imp id fun⟨t,hl⟩=>⟨_,pl,t,hq,hl⟩
end
end Go.Ab
