import Derived.Test.YtmlhghddfobmmaaGreatDoorEngAT
import Derived.Test.YtmlhghddfobmmaaGreatDoorEngAP
import Derived.Test.YtmlhghddfobmmaaGreatDoorEngAE
namespace Go.Ab
set_option linter.unusedSimpArgs false
set_option linter.unusedVariables false
section
variable {P:Program}{T:Tab}
def Aj:List Code->Code->Code
 |[],c=>c
 |x::r,c=>.seq x (Aj r c)
noncomputable def vcs (P:Program)(T:Tab)(N:Nat)(l:List Code):Env->Mem->(Env->Mem->Prop)->Prop :=
 List.rec (motive:=fun _=>Env->Mem->(Env->Mem->Prop)->Prop) (fun env m K=>K env m) (fun x _ ih env m K=>vc P T N x env m fun e env m=>match e with
  | .normal=>Ev (ih env m K)
  |_=>False) l
theorem Q4w (hT:Qb P T){N:Nat}{K:Env->Mem->Prop}{ro:Option Nat}{lo:Lo}{c:Code}{R:Exit->Act->World->Prop}:∀(l:List Code) (env:Env) (m:Mem),vcs P T N l env m K->∀(a:Act) (w:World) (σ:Pls) (F:Nat->Prop),a.tmps.size=N->Ctx ro lo a.defers σ F w->Ql env w F σ a.tmps->Q3 m σ F w ->
  (∀env' m' a' w' σ' F',K env' m'->a'.tmps.size=N->Ctx ro lo a'.defers σ' F' w'->Ql env' w' F' σ' a'.tmps->Q3 m' σ' F' w'->Step σ F w σ' F' w'->c.wpIn (Fen ro) 0 P R a' w')->(Aj l c).wpIn (Fen ro) 0 P R a w
 |[],env,m,h,a,w,σ,F,hN,hD,he,hm,hk=>hk env m a w σ F h hN hD he hm (Step.refl σ F w)
 |x::r,env,m,h,a,w,σ,F,hN,hD,he,hm,hk=>by
  refine wpIn_seq (wpIn_mono ((Z3 hT x env m _ h).run ro lo a w σ F hN hD he hm) ?_)
  rintro e a1 w1 ⟨env1,m1,σ1,F1,k1,k2,k3,k4,k5,k6,k7⟩
  cases e with
  |normal=>exact Q4w hT r env1 m1 k1.o a1 w1 σ1 F1 k2 k3 k4 k5 fun env' m' a' w' σ' F' q1 q2 q3 q4 q5 q6=>hk env' m' a' w' σ' F' q1 q2 q3 q4 q5 (k6.trans q6)
  |_=>exact k1.elim
def MvV (ρ:List Nat)(A A':AV):Prop:=match A' with
 | .junk=>True
 | .d y=>A=.d y
 | .ptr (.arg j) 0 0 o=>match look1 ρ j with
  |some i=>A=.ptr (.loc i) 0 0 o
  |none=>False
 | .fn f [] [.ptr (.arg j) 0 0 o]=>match look1 ρ j with
  |some i=>A=.fn f [] [.ptr (.loc i) 0 0 o]
  |none=>False
 |_=>False
where look1:List Nat->Nat->Option Nat
 |[],_=>none
 |x::_,0=>some x
 |_::r,j+1=>look1 r j
def MvE (ρ:List Nat)(env:Env):Env->Prop
 |[]=>True
 |(t,A)::r=>MvV ρ (get env t) A/\MvE ρ env r
def MvL (ρ:List Nat)(env:Env):List Operand->List AV->Prop
 |[],[]=>True
 |o::r,A::s=>MvV ρ (ev env o) A/\MvL ρ env r s
 |_,_=>False
def MvB (m:Mem):List Nat->List (TypeId × List D)->Prop
 |[],[]=>True
 |i::r,b::s=>m.get (.loc i)=some (.box b.1 (up b.2))/\MvB m r s
 |_,_=>False
def Ll:List (TypeId × List D)->List (Option Blk)
 |[]=>[]
 |b::r=>some (.box b.1 (up b.2))::Ll r
theorem E3:∀(l:List Nat) (j:Nat),MvV.look1 l j=l[j]?
 |[],_=>by simp[MvV.look1]
 |_::_,0=>rfl
 |_::r,j+1=>by simpa[MvV.look1] using E3 r j
theorem Es:∀(bs:List (TypeId × List D)) (j:Nat),(Ll bs)[j]?=(bs[j]?).map fun b=>some (.box b.1 (up b.2))
 |[],_=>by simp[Ll]
 |_::_,0=>rfl
 |_::r,j+1=>by simpa[Ll] using Es r j
theorem MvB.at {m:Mem}:∀{ρ:List Nat} {bs:List (TypeId × List D)},MvB m ρ bs->ρ.length=bs.length/\∀(j:Nat) i b,ρ[j]?=some i->bs[j]?=some b->m.get (.loc i)=some (.box b.1 (up b.2))
 |[],[],_=>⟨rfl,fun j i b h=>by simp at h⟩
 |i::r,b::s,h=>by
  obtain⟨h1,h2⟩:=MvB.at h.2
  refine⟨by simp[h1],fun j i' b' hi hb=>?_⟩
  cases j with
  |zero=>simp at hi hb;subst hi;subst hb;exact h.1
  |succ j=>exact h2 j i' b' (by simpa using hi) (by simpa using hb)
 |[],_::_,h=>h.elim
 |_::_,[],h=>h.elim
def mvP (σ:Pls)(ρ:List Nat):Pls:=fun r=>match r with
 | .arg j=>match ρ[j]? with
  |some i=>σ (.loc i)
  |none=>none
 |_=>none
theorem Q24 {w:World}{F:Nat->Prop}{σ:Pls}{ρ:List Nat}{A A':AV}{v:Value}(h:MvV ρ A A')(hv:Vc w F σ A v):Vc w F (mvP σ ρ) A' v:=by
 unfold MvV at h
 split at h
 .exact .junk
 .subst h
  cases hv with|d h=>exact .d h
 .rename_i j o
  split at h<;>try exact h.elim
  rename_i i hi
  subst h
  rw[E3]at hi
  cases hv with
  |@ptr _ _ _ _ _ q hr hp=>exact .ptr (q:=q) (by simp only[mvP,hi];exact hr) hp
 .rename_i f j o
  split at h<;>try exact h.elim
  rename_i i hi
  subst h
  rw[E3]at hi
  cases hv with
  | @fn _ _ _ us vs l1 l2 g3 g4 =>
   refine .fn l1 l2 (fun k x u hx hu=>by simp at hx) fun k x u hx hu=>?_
   cases k with
   |zero =>
    simp at hx
    subst hx
    have:=g4 0 _ u rfl hu
    cases this with
    |@ptr _ _ _ _ _ q hr hp=>exact .ptr (q:=q) (by simp only[mvP,hi];exact hr) hp
   |succ k=>simp at hx
 .exact h.elim
theorem Q22 {w:World}{F:Nat->Prop}{σ:Pls}{ρ:List Nat}{env:Env}{tmps:Array Value}(he:Ql env w F σ tmps):∀{env2:Env},MvE ρ env env2->Ql env2 w F (mvP σ ρ) tmps
 |[],_=>fun t=>.junk
 | (t0,A) :: r,h=>fun t=>by
  show Vc w F (mvP σ ρ) (bif Nat.beq t0 t then A else get r t) _
  cases hb:Nat.beq t0 t with
  |true =>
   have:=Qh1 hb
   subst this
   exact Q24 h.1 (he t0)
  |false=>exact Q22 he h.2 t
theorem Qbt {w:World}{F:Nat->Prop}{σ:Pls}{m:Mem}{ρ:List Nat}{bs:List (TypeId × List D)}(hm:Q3 m σ F w)(h:MvB m ρ bs)(hn:ρ.Nodup):Q3 ⟨[],Ll bs⟩ (mvP σ ρ) F w:=by
 obtain⟨hl,hat⟩:=h.at
 have hget:∀(j:Nat) i,ρ[j]?=some i->∃b,bs[j]?=some b/\m.at (.loc i)=some (some (.box b.1 (up b.2))):=fun j i hi=>by
  have hj:j<bs.length:=by rw[<-hl];exact(Qh7.1 hi).1
  exact⟨_,Qgy hj,Mem.get_at (hat j i _ hi (Qgy hj))⟩
 have only:∀r q,mvP σ ρ r=some q->∃j i,r=.arg j/\ρ[j]?=some i/\σ (.loc i)=some q:=fun r q hq=>by
  cases r with
  | arg j =>
   simp only[mvP]at hq
   split at hq
   .rename_i i hi
    exact⟨j,i,rfl,hi,hq⟩
   .cases hq
  |loc j=>cases hq
  |bad=>cases hq
 refine⟨fun r=>?_,fun r q hq=>?_,fun r r' p p' b t t' h1 h2 h3 h4=>?_,fun r p b t h1 h2=>?_,hm.fl,hm.gl⟩
 .cases r with
  | arg j =>
   simp only[mvP,Mem.at,Es]
   cases hi:ρ[j]? with
   |none =>
    have hj:bs.length<=j:=by rw[<-hl];exact List.getElem?_eq_none_iff.1 hi
    simp[hj]
   |some i =>
    obtain⟨b,hb,ha⟩:=hget j i hi
    have:σ (.loc i)≠none:=fun e=>by rw[(hm.dom (.loc i)).1 e]at ha;cases ha
    simp[hb,this]
  |loc j=>simp[mvP,Mem.at]
  |bad=>simp[mvP,Mem.at]
 .obtain⟨j,i,rfl,hi,hs⟩:=only r q hq
  obtain⟨b,hb,ha⟩:=hget j i hi
  obtain⟨h1,h2⟩:=hm.lv (.loc i) q hs
  refine⟨fun e=>?_,fun pl e=>?_⟩
  .have:=h1 e
   rw[ha]at this
   injection this with this
   cases this
  .obtain⟨B,hB,hok⟩:=h2 pl e
   rw[ha]at hB
   injection hB with hB
   injection hB with hB
   subst hB
   refine⟨.box b.1 (up b.2),by simp[Mem.at,Es,hb],?_⟩
   obtain⟨k1,k2,bb,k3,us,k4,k5,k6⟩:=hok
   refine⟨k1,k2,bb,k3,us,k4,k5,fun jj A u hA hu=>?_⟩
   obtain⟨k7,k8⟩:=k6 jj A u hA hu
   obtain⟨x,_,rfl⟩:=Ue hA
   cases k7 with|d h=>exact⟨.d h,k8⟩
 .obtain⟨j,i,rfl,hi,hs⟩:=only r _ h1
  obtain⟨j',i',rfl,hi',hs'⟩:=only r' _ h2
  have:=hm.inj _ _ _ _ _ _ _ hs hs' h3 h4
  injection this with this
  subst this
  obtain⟨g1,g2⟩:=Qh7.1 hi
  obtain⟨g3,g4⟩:=Qh7.1 hi'
  rw[(List.getElem?_inj g1 hn).1 (hi.trans hi'.symm)]
 .obtain⟨j,i,rfl,hi,hs⟩:=only r _ h1
  exact hm.nf _ _ _ _ hs h2
def Pa:AV->Bool
 | .d _=>true
 | .ptr (.arg _) _ _ _=>true
 | .junk=>true
 |_=>false
theorem Ip {w w':World}{F F':Nat->Prop}{σ σ':Pls}(hF:∀b,F b->F' b)(hh:∀b,F b->w'.heap[b]?=w.heap[b]?)(hs:Zj σ σ'){A:AV}{v:Value}(ha:Pa A=true)(h:Vc w F σ A v):Vc w' F' σ' A v:=by
 cases h with
 |d h=>exact .d (h.mono hF hh)
 |junk=>exact .junk
 | @ptr r g i off v q hr hp =>
  cases r with
  | arg j =>
   obtain⟨q',h1,h2⟩:=hs j q hr
   refine .ptr h1 fun pl' e=>?_
   obtain⟨pl,e1,e2,e3⟩:=h2 pl' e
   obtain⟨g1,g2⟩:=hp pl e1
   exact⟨Qhx g1 e2,fun e4=>by
    have:pl.g=g:=by omega
    have e5:=e3 Om
    rw[e5]
    exact g2 this⟩
  |_=>cases ha
 |_=>cases ha
def U3 (env:Env):List ResultVar->Env
 |[]=>[]
 | .tmp t::r=>(t,get env t)::U3 env r
 | .cell t _::r=>(t,get env t)::U3 env r
def N0:Env->Bool
 |[]=>true
 |(_,A)::r=>Pa A&&N0 r
theorem Th {env:Env}{w:World}{F:Nat->Prop}{σ:Pls}{tmps:Array Value}(he:Ql env w F σ tmps):∀rs:List ResultVar,Ql (U3 env rs) w F σ tmps
 |[],t=>.junk
 | .tmp t0 :: r,t=>by
  show Vc w F σ (bif Nat.beq t0 t then get env t0 else get (U3 env r) t) _
  cases hb:Nat.beq t0 t with
  |true =>
   have:=Qh1 hb
   subst this
   exact he t0
  |false=>exact Th he r t
 | .cell t0 _ :: r,t=>by
  show Vc w F σ (bif Nat.beq t0 t then get env t0 else get (U3 env r) t) _
  cases hb:Nat.beq t0 t with
  |true =>
   have:=Qh1 hb
   subst this
   exact he t0
  |false=>exact Th he r t
theorem Io:∀{r:Env},N0 r=true->∀t,Pa (get r t)=true
 |[],_,_=>rfl
 |(t0,A)::r,ha,t=>by
  simp only[N0,Qh5]at ha
  show Pa (bif Nat.beq t0 t then A else get r t)=true
  cases hb:Nat.beq t0 t with
  |true=>exact ha.1
  |false=>exact Io ha.2 t
theorem Q61 {w w':World}{F F':Nat->Prop}{σ σ':Pls}(hF:∀b,F b->F' b)(hh:∀b,F b->w'.heap[b]?=w.heap[b]?)(hs:Zj σ σ'){tmps:Array Value}{env:Env}(ha:N0 env=true)(he:Ql env w F σ tmps):Ql env w' F' σ' tmps :=
 fun t=>Ip hF hh hs (Io ha t) (he t)
theorem Q23 {w:World}{F:Nat->Prop}{σ:Pls}{ρ:List Nat}{env:Env}{a:Act}(he:Ql env w F σ a.tmps):∀{caps:List Operand} {As:List AV},MvL ρ env caps As->(caps.map a.eval).length=As.length/\∀(j:Nat) A u,As[j]?=some A->(caps.map a.eval)[j]?=some u->Vc w F (mvP σ ρ) A u
 |[],[],_=>⟨rfl,fun j A u h=>by simp at h⟩
 |o::r,A::s,h=>by
  obtain⟨h1,h2⟩:=Q23 he h.2
  refine⟨by simpa using h1,fun j A' u hA hu=>?_⟩
  cases j with
  |zero=>simp at hA hu;subst hA;subst hu;exact Q24 h.1 (Z5 he o)
  |succ j=>exact h2 j A' u (by simpa using hA) (by simpa using hu)
 |[],_::_,h=>h.elim
 |_::_,[],h=>h.elim
theorem Q25 {σ:Pls}{ρ:List Nat}{b:Nat}(h:Qm (mvP σ ρ) b):Qm σ b:=by
 obtain⟨r,pl,t,h1,h2⟩:=h
 cases r with
 |arg j =>
  simp only[mvP]at h1
  split at h1
  .exact⟨_,pl,t,h1,h2⟩
  .cases h1
 |loc j=>cases h1
 |bad=>cases h1
end
section
variable {P:Program}{T:Tab}{ro:Option Nat}
def P3 (A:AV)(v:Value):Prop:=∀(w:World) (F:Nat->Prop) (σ:Pls) u,Vc w F σ A u->u=v
structure Q5d (A:AV)(v:Value)(K:Prop):Prop where
 only:P3 A v
 q:K
theorem P3.ifc1 {t:TypeId}{k:IntKind}{n:Int}:P3 (.d (.ifc t (.agg [.int k n]))) (.iface t (.agg #[.int k n])):=by
 intro w F σ u h
 cases h with|d h=>cases h with|ifc h=>cases h with
  | @agg _ us hl h =>
   match us,hl,h with
   |[x],_,h =>
    have:=h 0 _ x rfl rfl
    cases this
    rfl
theorem Awp.raise (hT:Qb P T){N id:Nat}{ops:Array Oper}{env:Env}{m:Mem}{Q:Ja}(n:Nat){o:Oper}{post:List Oper}{x:Operand}(t:TypeId)(y:Value)
  (ho:ops.toList.drop n=o::post) (hg:o.guard=none) (hop:o.op=.panic x) (hd:Jb N (ops.toList.take n)=true)
  (h:Ev (Xw P T ops.toList (ops.toList.take n) env m fun env m=>match strip (ev env x) with
   |(A,p)=>obs p (Q5d A (.iface t y) (Ev (Q (.panic [{v:=.iface t y,recovered:=false}]) env m))))):Awp P N (.region id ops false) env m Q :=
 ⟨fun ro lo a w σ F hN hD he hm=>by
  refine wpIn_region_list ?_
  have e0:ops.toList=ops.toList.take n++(o::post):=by rw[<-ho,Qil]
  rw[e0]
  refine Cb hT (full:=ops.toList) (by simp) _ env m hd h.o a w F σ hN he hm ?_
  intro env1 m1 a1 w1 σ1 F1 k1 k2 k3 k4 k5 k6 k7
  obtain⟨hl,h⟩:=Zw k1
  have hv:=h.only _ _ _ _ (X7 (Z5 k4 x) hl)
  refine wpListIn_plain hg fun K' hK'=>V5 (by rw[hop];exact fun _ h=>nomatch h) ?_
  have hrun:(execOp a1.eval o).run P w1=.halt (.panic (.iface t y)) w1:=by
   simp only[execOp,hop,hv]
   rfl
  rw[hrun,Oper.uponIn_panic]
  exact⟨env1,m1,σ1,F1,h.q.o,k2,by rw[k3];exact hD.step k6,k4,k5,k6,.of k7⟩⟩
theorem Qdb (hT:Qb P T){f:FuncId}{fn:Func}{c:Code}{N:Nat}{args:List D}{ch:List PanicEntry}(hf:P.funcs[f]?=some fn)(hb:fn.body=some c)(hN:fn.ntmps=N)
  (hname:(fn.name == "runtime.NumGoroutine")=false) (hargs:Nat.ble args.length N=true) {Q:Ja} (hQ:∀e env m,Q e env m->e=.panic ch) (h:Ev (vc P T N c (Yr 0 args) ⟨[],[]⟩ Q)):Pan P f args ch:=by
 refine⟨⟨fn,hf,hname,by simp[hb]⟩,fun F w Q5 hF hG hl hv=>?_⟩
 refine Y7.1 (callsIn_of_wp_marks (F:=Fen none) (n:=0) hf hb trivial ?_ rfl)
 let σ0:Pls:=fun _=>none
 have hm0:Q3 ⟨[],[]⟩ σ0 F w:=⟨fun r=>by cases r<;>simp[σ0,Mem.at],fun r q h=>(by cases h),fun r r' p p' b t t' h=>(by cases h),fun r p b t h=>(by cases h),hF,hG⟩
 have hle:=Qhf hargs
 have hwp:=(Z3 hT c (Yr 0 args) ⟨[],[]⟩ Q h.o).run none ⟨w.heap.size,[]⟩ {tmps:=Q5.toArray++Array.replicate (fn.ntmps-Q5.toArray.size) undef,defers:=[]} w σ0 F (by simp[hN];omega) Ctx.nil (Tg hl hv _) hm0
 refine wpIn_mono hwp ?_
 rintro e a w1 ⟨env',m',σ',F',q1,q2,q3,q4,q5,q6,q7⟩
 have he:=hQ e env' m' q1
 subst he
 show LeavesInM (Fen none) 0 P fn a.tmps _ a.defers (.panicking ch) w1
 obtain⟨Ds,hDs,hnd,hD⟩:=q3.marks
 rw[hDs]
 refine E1 (fun h=>by cases h) Ds w1 hnd (fun D h=>(hD D h).2.1) fun w' k1 k2 k3 kd k4 k5=>?_
 show LeavesIn (Fen none) 0 P fn a.tmps _ [] (.panicking ch) w'
 refine⟨F',rfl,⟨k1.trans q6.os,k2.trans q6.tape,k3.trans q6.output,Qhx q6.drawn (Qhz kd.symm),by rw[k4];exact q6.size,fun b hb=>(k5 b fun hm=>by have:w.heap.size<=b:=(hD b hm).1;omega).trans (q6.keep b hb (fun⟨r,p,t,h1,_⟩=>by cases h1)),q6.fro,fun b hb=>?_,fun b hb=>by rw[k4];exact q5.fl b hb⟩⟩
 rcases q6.fro' b hb with h1|⟨r,p,t,h1,_⟩|h1
 .exact .inl h1
 .cases h1
 .exact .inr h1
def Mix (P:Program)(f:FuncId)(args:List D)(b:Bool)(res:List D)(ch:List PanicEntry):Prop:=(b=true->Pure P f args res)/\(b=false->Pan P f args ch)
def Eg (T:Tab)(rs:List ResultVar)(b:Bool)(res:List D)(ch:List PanicEntry):Ja:=fun e env m=>match e with
 | .normal=>b=true/\G8 T rs res env m
 | .ret=>b=true/\G8 T rs res env m
 | .panic ch'=>b=false/\ch'=ch
 |_=>False
theorem U9 (hT:Qb P T){f:FuncId}{fn:Func}{c:Code}{N:Nat}{rs:List ResultVar}{args res:List D}{b:Bool}{ch:List PanicEntry}(hf:P.funcs[f]?=some fn)(hb:fn.body=some c)(hN:fn.ntmps=N)(hrs:fn.results=rs.toArray)
  (hname:(fn.name == "runtime.NumGoroutine")=false) (hargs:Nat.ble args.length N=true) (h:Ev (vc P T N c (Yr 0 args) ⟨[],[]⟩ (Eg T rs b res ch))):Mix P f args b res ch :=
 ⟨fun e=>by
  subst e
  refine Ez hT hf hb hN hrs hname hargs (Q:=Eg T rs true res ch) (fun e env m hq=>?_) h
  cases e with
  |normal=>exact⟨.inl rfl,fun w F σ tmps hm he=>L2 hT hm he rs res hq.2⟩
  |ret=>exact⟨.inr rfl,fun w F σ tmps hm he=>L2 hT hm he rs res hq.2⟩
  |panic ch'=>exact nomatch hq.1
  |_=>exact hq.elim,fun e=>by
  subst e
  refine Qdb hT hf hb hN hname hargs (Q:=Eg T rs false res ch) (fun e env m hq=>?_) h
  cases e with
  |normal=>exact nomatch hq.1
  |ret=>exact nomatch hq.1
  |panic ch'=>rw[hq.2]
  |_=>exact hq.elim⟩
theorem Pan.vc {f:FuncId}{as:List AV}{args:List D}{m:Mem}{ch:List PanicEntry}{K:List PanicEntry->Prop}(h:Pan P f args ch)(hb:Vd m as args)(hk:K ch):Cj P (.d (.fn (.func f) [] [])) as m K :=
 ⟨f,[],[],args,ch,rfl,hb,by simpa using h,hk⟩
def Q33 (ops:List Oper)(pan aft:List Nat):Bool :=
 (pan.all fun i=>match ops[i]? with
  |some o=>(match o.guard with
   |none=>true
   |some _=>false)&&Ks ops o (tmpsOf o.op)
  |none=>false)&&((aft.all fun i=>match ops[i]? with
  |some o=>(List.range ops.length).any fun j=>(Vk j pan||Vk j aft)&&Vi o.after.toList j
  |none=>false)&&pan.any fun i=>Nat.blt i ops.length)
def Ew (P:Program)(E:Env)(m:Mem)(ch:List PanicEntry)(o:Oper):Prop:=match o.op with
 | .call { callee:=.value f,args,.. }=>match strip (ev E f) with
  |(fn,p)=>match Hd E args.toList with
   |(as,q)=>obs (cat p q) (Cj P fn as m fun ch'=>ch'=ch)
 |_=>False
def Mf (P:Program)(E:Env)(m:Mem)(ch:List PanicEntry)(ops:List Oper)(K:Prop):List Nat->Prop
 |[]=>K
 |i::r=>(match ops[i]? with
  |some o=>Ew P (sel E (tmpsOf o.op)) m ch o
  |none=>False)/\Mf P E m ch ops K r
theorem Mf.at {E:Env}{m:Mem}{ch:List PanicEntry}{ops:List Oper}{K:Prop}:∀{l:List Nat},Mf P E m ch ops K l->K/\∀(i:Nat) o,Vk i l=true->ops[i]?=some o->Ew P (sel E (tmpsOf o.op)) m ch o
 |[],h=>⟨h,fun i o hi=>by simp[Vk]at hi⟩
 | j :: r,⟨h1,h2⟩=>by
  obtain⟨k1,k2⟩:=Mf.at h2
  refine⟨k1,fun i o hi ho=>?_⟩
  simp only[Vk,Bool.or_eq_true]at hi
  rcases hi with hi|hi
  .have:=Qh1 hi
   subst this
   rw[ho]at h1
   exact h1
  .exact k2 i o hi ho
theorem Dy {n:Nat}:∀{l:List Nat},Vk n l=true↔n∈l
 |[]=>by simp[Vk]
 | k :: r=>by
  simp only[Vk,Bool.or_eq_true,Qho,Dy (l:=r)]
  constructor
  .rintro(h|h)
   .exact .inl (Qh1 h).symm
   .exact .inr h
  .rintro(h|h)
   .exact .inl (by rw[h];exact Nat.beq_refl _)
   .exact .inr h
def jnk (env:Env):List Oper->Env
 |[]=>env
 |o::r=>match o.dst with
  |some d=>(d,.junk)::jnk env r
  |none=>jnk env r
theorem Si (env:Env)(t:Nat):∀ops:List Oper,get (jnk env ops) t=.junk\/(get (jnk env ops) t=get env t/\∀o∈ops,o.dst≠some t)
 |[]=>.inr ⟨rfl,fun o h=>by simp at h⟩
 | o :: r=>by
  unfold jnk
  split
  .rename_i d hd
   show(bif Nat.beq d t then AV.junk else get (jnk env r) t)=.junk\/_
   cases h:Nat.beq d t with
   |true=>exact .inl rfl
   | false =>
    rw[cond_false]
    rcases Si env t r with k|⟨k1,k2⟩
    .exact .inl k
    .right
     refine⟨?_,fun o' ho'=>?_⟩
     .show(bif Nat.beq d t then AV.junk else get (jnk env r) t)=get env t
      rw[h]
      exact k1
     .rcases Qho.1 ho' with rfl|ho'
      .rw[hd]
       intro e
       injection e with e
       subst e
       rw[Nat.beq_refl]at h
       cases h
      .exact k2 o' ho'
  .rename_i hd
   rcases Si env t r with k|⟨k1,k2⟩
   .exact .inl k
   .refine .inr ⟨k1,fun o' ho'=>?_⟩
    rcases Qho.1 ho' with rfl|ho'
    .rw[hd]
     exact fun e=>nomatch e
    .exact k2 o' ho'
theorem Awp.panD (hT:Qb P T){id N:Nat}{ops:Array Oper}{env:Env}{m:Mem}{Q:Ja}(h1:P.follows .mixedOrders=true)(h2:okR ops.toList=true)(hd:Jb N ops.toList=true)(pan aft:List Nat)(ch:List PanicEntry)(hp:Q33 ops.toList pan aft=true)
  (h:vcE P T ops.toList m (fun i=>Vk i pan||Vk i aft) (fun _=>.junk) ops.toList 0 env fun E=>Mf P E m ch ops.toList (Ev (Q (.panic ch) (jnk env ops.toList) m)) pan):Awp P N (.region id ops true) env m Q :=
 ⟨fun ro lo a w σ F hN hD he hm=>by
  unfold Q33 at hp
  simp only[Qh5]at hp
  obtain⟨hp1,hp2,hp3⟩:=hp
  have hrep:∀j,j<ops.size->(Array.replicate ops.size false).getD j true=false:=fun j hj=>by
   rw[Qu,Qi0,Qik,if_pos hj]
   rfl
  refine Pt (m:=m) (σ:=σ) h1 h2 hT hd h hN he (fun listed a' w' F' σ'=>σ'=σ/\(∀j,j<ops.size->(Vk j pan||Vk j aft)=true->listed.getD j true=false)/\Q3 m σ F' w'/\Step σ F w σ F' w') ?_ ?_ ?_ ?_ ?_
  .rintro listed a' w' F' σ' i _ _ _ ⟨rfl,_,hk,_⟩
   exact hk
  .exact⟨rfl,fun j hj _=>hrep j hj,(Qn.drew hm.fl).mem hm,(Qn.drew hm.fl).step σ⟩
  .rintro listed a' w' F' σ' F2 w2 v i o ⟨rfl,hc,hk,hs⟩ hg hi ho hls hN'
   refine⟨rfl,fun j hj he=>?_,hg.mem hk,hs.trans (hg.step σ')⟩
   rw[Ze (fun e=>by subst e;rw[hi]at he;cases he)]
   exact hc j hj he
  .rintro As listed a' w' F' σ' i o hE hK hAe hi ho hl hen hcl hls hN' hD' hs ⟨rfl,hc,hk,hst⟩ next hnext
   have hol:ops.toList[i]?=some o:=by rw[Qh2];exact ho
   cases hip:Vk i pan with
   |false =>
    exfalso
    rw[hip,Bool.false_or]at hi
    have:=Qi8.1 hp2 i (Dy.1 hi)
    rw[hol]at this
    obtain⟨j,hj,hje⟩:=List.any_eq_true.1 this
    rw[Qh5]at hje
    obtain⟨e,he,heo,heb⟩:=Yq hje.2
    have h3:=hen e he heb
    rw[heo,hc j (by have:=List.mem_range.1 hj;rwa [Qhg]at this) hje.1]at h3
    cases h3
   | true =>
    obtain⟨hQ,hat⟩:=hK.at
    have hpa:=hat i o hip hol
    have hpo:=Qi8.1 hp1 i (Dy.1 hip)
    rw[hol]at hpo
    simp only[Qh5]at hpo
    have hg:o.guard=none:=by
     cases hgd:o.guard with
     |none=>rfl
     |some g=>rw[hgd]at hpo;exact absurd hpo.1 (by simp)
    have hnl:=hpo.2
    have rd:∀t∈tmpsOf o.op,Vc w' F' σ' (get (Qi env ops.toList As ops.size) t) (a'.tmps.getD t undef):=fun t ht=>by
     by_cases hex:∃(j:Nat) (o':Oper),ops[j]?=some o'/\o'.dst=some t
     .obtain⟨j,o',ho',hdo'⟩:=hex
      rw[hE j o' t ho' hdo']
      refine(hs t).1 j o' (Qh4.1 ho').1 ho' hdo' ?_
      have:=Pq (Pr hnl ht) (show ops.toList[j]?=some o' by rw[Qh2];exact ho') hdo'
      rw[Qh9]at this
      obtain⟨e,he,heo,heb⟩:=Yq this
      have:=hen e he heb
      rwa [heo]at this
     .have:get (Qi env ops.toList As ops.size) t=get (Qi env ops.toList As 0) t:=Xb (i:=0) ops.size (Qh3 _) (fun j o2 _ _ h3 h4=>hex ⟨j,o2,by rwa [Qh2]at h3,h4⟩)
      rw[this]
      exact(hs t).2 fun j o2 h3 h4=>absurd ⟨j,o2,h3,h4⟩ hex
    have he':=Vl rd
    have hw:Region.wanted o (yielded ops a'.tmps)=true:=by simp[Region.wanted,hg]
    unfold wpOpIn
    simp only[ho,hw,if_true]
    unfold Ew at hpa
    split at hpa<;>try exact hpa.elim
    rename_i op0 f args at_ hop
    obtain⟨hl2,hpv⟩:=Zw hpa
    obtain⟨g1,g2⟩:=Ji hl2
    have hf:=X7 (Z5 he' f) g1
    have ha:=Mr he' args.toList g2
    obtain⟨id,xs,ys,ds,ch',rfl',hb,hpn,rfl⟩:=hpv.q
    rw[rfl']at hf
    generalize hX:a'.eval f=X at hf
    cases hf with
    | d hf=>cases hf with
     | @fn _ _ _ us vs g1 g2 g3 g4 =>
      refine V5 (by rw[hop];exact fun _ h=>nomatch h) ?_
      have hrun:(execOp a'.eval o).run P w'=.ok (.enter id (us++args.toList.map a'.eval++vs).toArray) w':=by
       have e:us.toArray++Array.map a'.eval args++vs.toArray=(us++args.toList.map a'.eval++vs).toArray:=by apply Array.ext';simp
       simp only[execOp,hop,Sem.run_bind,resolve,Deferred.ofValue,hX,invoke,Sem.run_pure,Result.andThen_ok,e]
       exact Lr hpn.1 _ w'
      rw[hrun,Oper.uponIn_enter]
      refine⟨We,Y7.2 ?_⟩
      obtain⟨b1,b2⟩:=hb.args hk ha
      have up':∀{y:D} {u:Value},Rd w' F' y u->Rd w' (Zp F' σ') y u:=fun h=>h.mono (fun _ h=>.inl h) (fun _ _=>rfl)
      have hall:Jt w' (Zp F' σ') σ' (up xs++up ds++up ys) (us++args.toList.map a'.eval++vs) :=
       ((Jt.ofD g1 fun j x u hx hu=>up' (g3 j x u hx hu)).app (Jt.ofD b1 b2)).app (Jt.ofD g2 fun j x u hx hu=>up' (g4 j x u hx hu))
      have hup:up xs++up ds++up ys=up (xs++ds++ys):=by simp only[Zb,Qim]
      rw[hup]at hall
      refine(hpn.2 (Zp F' σ') w' _ (Rn hk) (hk.gl.mono (fun _ h=>.inl h) fun _ _=>rfl) hall.data.1 hall.data.2).mono ?_
      rintro e w2 ⟨F2,rfl,hg2⟩
      have hkeep:∀b,b<w'.heap.size->w2.heap[b]?=w'.heap[b]?:=hg2.keep
      have hm2:Q3 m σ' F' w2:=hk.world hg2.size fun b hb=>hkeep b (Rn hk b hb)
      have hst2:Step σ' F' w' σ' F' w2:=⟨hg2.os,hg2.tape,hg2.output,hg2.drawn,hg2.size,fun b hb _=>hkeep b hb,fun _ h=>h,fun _ h=>.inl h,fun _ h=>.inl h⟩
      have hs2:=hst.trans hst2
      refine⟨_,m,σ',F',hQ.o,hN',by rw[hD'];exact hD.step hs2,fun t=>?_,hm2,hs2,Zj.refl _⟩
      rcases Si env t ops.toList with k|⟨k1,k2⟩
      .rw[k]
       exact .junk
      .rw[k1]
       refine((hs t).2 fun j o2 h3 h4=>absurd h4 (k2 o2 ?_)).mono (fun _ h=>h) (fun b hb=>hkeep b (hk.fl b hb)) (SLe.refl _)
       exact Qie (by rw[Qh2];exact h3)
  .rintro env' a' w' F' σ' hK hN' hD' hE listed hall ⟨rfl,hc,_,_⟩
   obtain⟨i,hi,hlt⟩:=List.any_eq_true.1 hp3
   have hlt:i<ops.size:=by
    have:=Qhf hlt
    rwa [Qhg]at this
   have h4:=hall i hlt
   rw[hc i hlt (by rw[Dy.2 hi];rfl)]at h4
   cases h4⟩
theorem Qdw {G H:FuncId}{gn:Func}{ig:Nat}{g1 g2:Oper}(hf:P.funcs[G]?=some gn)(hb:gn.body=some (.region ig #[g1,g2] false))(hg1:g1.guard=none)(hg2:g2.guard=none)(hres:gn.results=#[])
  (hrun:∀a w,(execOp (Act.eval a) g1).run P w=.ok .recover w) (hnd:∀c,g2.op≠.defer c) {p pv:Value} {u u':FrameMode}
  (hcall:∀(w:World),(execOp (({tmps:=#[p]++Array.replicate (gn.ntmps-1) undef,defers:=[]}:Act).put g1.dst pv).eval g2).run P w=(callFunc H #[pv,p]).run P w)
  (hrecv:∀(c₀:Frame) (cs:List Frame),c₀.mode=u->(recoverD (c₀::cs)).getD (.nilIface,c₀::cs)=(pv,{c₀ with mode:=u'}::cs)) (hcan:Bi P H) {w:World} {R:World->Prop}
  (hc:Calls P H #[pv,p] w fun e w'=>(∃v,e=.returned v)/\R w'):CallsDIn (Fen none) 0 P G #[p] u w fun e u2 w'=>(∃v,e=.returned v)/\u2=u'/\R w':=by
 refine callsDIn_of_wpSIn hf hb trivial fun c₀ cs hu=>?_
 refine Qgw hg1 (hrun _ _) rfl pv ({c₀ with mode:=u'}::cs) (hrecv c₀ cs hu) (fun _ _=>trivial) ?_
 have e2:(#[g1,g2]:Array Oper)[1]?=some g2:=rfl
 simp only[wpOpsIn,e2]
 rw[if_pos (by simp[Region.wanted,hg2])]
 refine V5 hnd ?_
 rw[show(#[p]:Array Value).size=1 from rfl,hcall,Lr hcan]
 refine⟨We,Y7.2 (hc.mono fun e w' h=>?_)⟩
 obtain⟨⟨v,rfl⟩,hR⟩:=h
 refine⟨?_,u',rfl,.tuple #[],?_,?_⟩
 .rw[put_defers,put_defers]
 .simp[results,hres]
 .exact⟨⟨_,rfl⟩,rfl,hR⟩
def Fo (P:Program)(T:Tab)(H:FuncId)(Ap:AV)(rs:List ResultVar)(res:List D)(x:D)(env:Env)(m:Mem):Prop :=
 N0 (U3 env rs)=true/\Ev (Qz P H [.d x,Ap] m fun _ m'=>G8 T rs res (U3 env rs) m')
def Fp (P:Program)(T:Tab)(H:FuncId)(Ap:AV)(rs:List ResultVar)(res:List D):Ja:=fun e env m=>match e with
 | .normal=>Fo P T H Ap rs res .nili env m
 | .ret=>Fo P T H Ap rs res .nili env m
 | .panic ch=>∃(v:Value) (x:D),ch=[{v:=v,recovered:=false}]/\(∀(w:World) (F:Nat->Prop),Rd w F x v)/\Fo P T H Ap rs res x env m
 |_=>False
theorem Qdk (hT:Qb P T){f:FuncId}{fn:Func}{pre:List Code}{i1:Nat}{o1 o2:Oper}{rest:Code}{N:Nat}{rs:List ResultVar}{args res:List D}
  (hf:P.funcs[f]?=some fn) (hb:fn.body=some (Aj pre (.seq (.region i1 #[o1,o2] false) rest))) (hN:fn.ntmps=N) (hrs:fn.results=rs.toArray) (hname:(fn.name == "runtime.NumGoroutine")=false) (hargs:Nat.ble args.length N=true)
  {G H r k ig:Nat} {c:Call} {gn:Func} {g1 g2:Oper} (hg1:o1.guard=none) (hg2:o2.guard=none) (hd1:o1.dst=some r) (hd2:o2.dst=none) (hr:Nat.blt r N=true)
  (ho1:o1.op=.makeFunc (.func G) #[] #[.tmp k]) (ho2:o2.op=.defer c) (hc1:c.callee=.value (.tmp r)) (hc2:c.args=#[])
  (hGf:P.funcs[G]?=some gn) (hGb:gn.body=some (.region ig #[g1,g2] false)) (hGname:(gn.name == "runtime.NumGoroutine")=false) (hGr:gn.results=#[]) (hq1:g1.guard=none) (hq2:g2.guard=none)
  (hrun1:∀a w,(execOp (Act.eval a) g1).run P w=.ok .recover w) (hnd:∀c,g2.op≠.defer c)
  (hcall:∀(p pv:Value) (w:World),(execOp (({tmps:=#[p]++Array.replicate (gn.ntmps-1) undef,defers:=[]}:Act).put g1.dst pv).eval g2).run P w=(callFunc H #[pv,p]).run P w)
  (h:Ev (vcs P T N pre (Yr 0 args) ⟨[],[]⟩ fun env m=>∃(ρ:List Nat) (bs:List (TypeId × List D)) (env2:Env) (j:Nat),ρ.Nodup/\MvB m ρ bs/\MvE ρ env env2/\MvL ρ env [.tmp k] [.ptr (.arg j) 0 0 0]/\Ev (vc P T N rest ((r,.junk)::env2) ⟨[],Ll bs⟩ (Fp P T H (.ptr (.arg j) 0 0 0) rs res)))):Pure P f args res:=by
 refine⟨⟨fn,hf,hname,by simp[hb]⟩,fun F w Q5 hF hG hl hv=>?_⟩
 refine Y7.1 (callsIn_of_wp_marks (F:=Fen none) (n:=0) hf hb trivial ?_ rfl)
 let σ0:Pls:=fun _=>none
 have hm0:Q3 ⟨[],[]⟩ σ0 F w:=⟨fun r=>by cases r<;>simp[σ0,Mem.at],fun r q h=>(by cases h),fun r r' p p' b t t' h=>(by cases h),fun r p b t h=>(by cases h),hF,hG⟩
 have hle:=Qhf hargs
 refine Q4w hT (ro:=none) (lo:=⟨w.heap.size,[]⟩) pre (Yr 0 args) ⟨[],[]⟩ h.o {tmps:=Q5.toArray++Array.replicate (fn.ntmps-Q5.toArray.size) undef,defers:=[]} w σ0 F (by simp[hN];omega) Ctx.nil (Tg hl hv _) hm0 ?_
 rintro env1 m1 a1 w1 σ1 F1 ⟨ρ,bs,env2,j,hρ,hB,hE,hL,hk⟩ k2 k3 k4 k5 k6
 obtain⟨Ds0,hDs0,hnd0,hD0⟩:=k3.marks
 rw[Qih]at hDs0
 have hm2:=Qbt k5 hB hρ
 have he2:=Q22 k4 hE
 have hcap:=Q23 k4 hL
 refine wpIn_seq (wpIn_region_list ?_)
 let p:Value:=a1.eval (.tmp k)
 let d:Deferred:={target:=.fn (.func G) #[p],args:=#[]}
 let V:Value:=.func (.func G) #[] #[p]
 have hrN:r<N:=Qhf hr
 show wpListIn (Fen none) 0 P #[o1,o2] _ [o1,o2] a1 w1
 refine wpListIn_plain hg1 fun K1 hK1=>V5 (fun c h=>by rw[ho1]at h;cases h) ?_
 have e1:(execOp a1.eval o1).run P w1=.ok (.value V) w1:=by
  simp[execOp,ho1,Instr.makeFunc,V,p]
 rw[e1]
 show K1 (a1.put o1.dst V) w1
 refine hK1 _ _ (wpListIn_plain hg2 fun K2 hK2=>⟨fun _ _=>trivial,?_⟩)
 have hVr:(a1.put o1.dst V).eval (.tmp r)=V:=by
  simp[hd1,Act.put,Act.eval,Array.getD,k2,hrN]
 have e2:(o2.semAt none (a1.put o1.dst V).eval).run P w1=.ok (.defer d) w1:=by
  rw[Oper.semAt_none]
  simp only[execOp,ho2,resolve,hc1,hc2,hVr]
  simp[Deferred.ofValue,V,d]
 rw[show(Fen none).round=none from rfl,e2]
 show K2 (({a1.put o1.dst V with defers:=d::(a1.put o1.dst V).defers}:Act).put o2.dst undef) w1
 refine hK2 _ _ (wpListIn_nil ?_)
 rw[hd2]
 let a3:Act:={a1.put o1.dst V with defers:=d::(a1.put o1.dst V).defers}
 show rest.wpIn (Fen none) 0 P (bodyPostM (Fen none) 0 P fn _) a3 w1
 have hdf:a3.defers=d::Ds0.map mark:=by
  show d::(a1.put o1.dst V).defers=_
  rw[put_defers,hDs0]
 have hwp:=(Z3 hT rest ((r,.junk)::env2) ⟨[],Ll bs⟩ _ hk.o).run none ⟨w1.heap.size,d::Ds0.map mark⟩ a3 w1 (mvP σ1 ρ) F1 (by show(a1.put o1.dst V).tmps.size=N;rw[Y3];exact k2)
  ⟨⟨[],by rw [hdf];rfl,List.nodup_nil,fun _ h=>by cases h⟩,Qgx _,fun _ h=>by cases h⟩ (by
   show Ql ((r,.junk)::env2) w1 F1 (mvP σ1 ρ) (a1.put o1.dst V).tmps
   rw[hd1]
   exact A5 k2 hrN he2 .junk) hm2
 refine wpIn_mono hwp ?_
 rintro e a w2 ⟨env',m',σ',F',q1,q2,q3,q4,q5,q6,q7⟩
 have hD2:∀D∈Ds0,D<w1.heap.size/\w2.heap[D]?=some (.deferred (some []))/\¬ Qm σ' D/\¬ F' D:=fun D hD=>by
  obtain⟨_,g2,g3,g4⟩:=hD0 D hD
  have hlt:=(Qh4.1 g2).1
  have hno:¬ Qm (mvP σ1 ρ) D:=fun h=>g3 (Q25 h)
  refine⟨hlt,(q6.keep D hlt hno).trans g2,fun h=>?_,fun h=>?_⟩
  .rcases q6.own D h with h|h
   .exact hno h
   .omega
  .rcases q6.fro' D h with h|h|h
   .exact g4 h
   .exact hno h
   .omega
 have hend:∀ (u u':FrameMode) (pv:Value) (x:D),u≠.run→settle u'=.returning→(∀ (c₀:Frame) (cs:List Frame),c₀.mode=u→(recoverD (c₀ :: cs)).getD (.nilIface,c₀ :: cs)=(pv,{ c₀ with mode:=u' } :: cs))→(∀ (w:World) (F:Nat→Prop),Rd w F x pv) →
   Fo P T H (.ptr (.arg j) 0 0 0) rs res x env' m'->LeavesInM (Fen none) 0 P fn a.tmps (fun e w'=>∃v F',e=.returned v/\Qn F w F' w'/\∀σ,Vc w' F' σ (Vu res) v) a.defers u w2:=by
  rintro u u' pv x hu hset hrecv hpv ⟨hargE,hGv⟩
  obtain⟨Ds,hDs,hnd',hD⟩:=q3.marks
  rw[hDs]
  refine E1 hu Ds w2 hnd' (fun D h=>(hD D h).2.1) fun w' j1 j2 j3 jd j4 j5=>?_
  have kF:∀b,F' b->w'.heap[b]?=w2.heap[b]?:=fun b hb=>j5 b fun hm=>(hD b hm).2.2.2 hb
  have kO:∀b,Qm σ' b->w'.heap[b]?=w2.heap[b]?:=fun b hb=>j5 b fun hm=>(hD b hm).2.2.1 hb
  replace q4:Ql env' w' F' σ' a.tmps:=q4.mono (fun _ h=>h) kF (SLe.refl σ')
  replace q5:Q3 m' σ' F' w':=q5.world Om fun b hb=>by
   rcases hb with hb|hb
   .exact kF b hb
   .exact kO b hb
  replace q6:Step (mvP σ1 ρ) F1 w1 σ' F' w':=⟨j1.trans q6.os,j2.trans q6.tape,j3.trans q6.output,Qhx q6.drawn (Qhz jd.symm),by rw[j4];exact q6.size,fun b hb ho=>(j5 b fun hm=>by have:w1.heap.size<=b:=(hD b hm).1;omega).trans (q6.keep b hb ho),q6.fro,q6.fro',q6.own⟩
  have hD3:∀D∈Ds0,w'.heap[D]?=some (.deferred (some []))/\D<w'.heap.size/\¬ Qm σ' D/\¬ F' D:=fun D hd=>by
   obtain⟨g1,g2,g3,g4⟩:=hD2 D hd
   have g5:w'.heap[D]?=some (.deferred (some [])):=(j5 D fun hm=>by have:w1.heap.size<=D:=(hD D hm).1;omega).trans g2
   exact⟨g5,(Qh4.1 g5).1,g3,g4⟩
  have hst1:Step σ0 F w σ' F' w':=(show Step σ0 F w (mvP σ1 ρ) F1 w1 from⟨k6.os,k6.tape,k6.output,k6.drawn,k6.size,k6.keep,k6.fro,k6.fro',fun b hb=>k6.own b (Q25 hb)⟩).trans q6
  unfold LeavesInM
  refine⟨hu,.inr ⟨(fun h=>by cases h),.func G,#[p],G,#[p],rfl,?_,fun _ _=>trivial,?_⟩⟩
  .show(callFunc G (#[] ++ #[p])).run P w'=_
   rw[Lr ⟨gn,hGf,hGname,by simp[hGb]⟩]
   simp
  .show CallsDIn (Fen none) 0 P G #[p] u w' _
   have hF1:∀b,F1 b->w'.heap[b]?=w1.heap[b]?:=q6.frozen hm2
   have hAp:Vc w' F' σ' (.ptr (.arg j) 0 0 0) p:=Ip q6.fro hF1 q7 rfl (hcap.2 0 _ _ rfl rfl)
   have hc:=hGv.o.run σ' F' w' [pv,p] q5 ⟨rfl,fun i A v hA hv=>by
    match i with
    |0=>simp at hA hv;subst hA;subst hv;exact .d (hpv _ _)
    |1=>simp at hA hv;subst hA;subst hv;exact hAp
    |i+2=>simp at hA⟩
   refine(Qdw hGf hGb hq1 hq2 hGr hrun1 hnd (fun w=>hcall p pv w) hrecv hGv.o.can (R:=fun w4=>∃σ4 F4 m4,Q3 m4 σ4 F4 w4/\Step σ' F' w' σ4 F4 w4/\Zj σ' σ4/\G8 T rs res (U3 env' rs) m4) (hc.mono ?_)).mono ?_
   .rintro e w4 ⟨v,A,m4,σ4,F4,rfl,r1,r2,r3,r4,r5⟩
    exact⟨⟨v,rfl⟩,σ4,F4,m4,r3,r4,.of r5,r1⟩
   .rintro e u2 w4 ⟨⟨v,rfl⟩,rfl,σ4,F4,m4,r1,r2,r3,r4⟩
    show LeavesInM (Fen none) 0 P fn a.tmps _ (Ds0.map mark) (settle u2) w4
    rw[hset]
    have hD4:∀D∈Ds0,w4.heap[D]?=some (.deferred (some []))/\¬ Qm σ4 D/\¬ F4 D:=fun D hd=>by
     obtain⟨g1,g2,g3,g4⟩:=hD3 D hd
     refine⟨(r2.keep D g2 g3).trans g1,fun h=>?_,fun h=>?_⟩
     .rcases r2.own D h with h|h
      .exact g3 h
      .omega
     .rcases r2.fro' D h with h|h|h
      .exact g4 h
      .exact g3 h
      .omega
    refine Dq Ds0 w4 hnd0 (fun D h=>(hD4 D h).1) fun w5 i1 i2 i3 id i4 i5=>?_
    have kF5:∀b,F4 b->w5.heap[b]?=w4.heap[b]?:=fun b hb=>i5 b fun hm=>(hD4 b hm).2.2 hb
    have kO5:∀b,Qm σ4 b->w5.heap[b]?=w4.heap[b]?:=fun b hb=>i5 b fun hm=>(hD4 b hm).2.1 hb
    replace r1:Q3 m4 σ4 F4 w5:=r1.world Om fun b hb=>by
     rcases hb with hb|hb
     .exact kF5 b hb
     .exact kO5 b hb
    have hF4:∀b,F' b->w5.heap[b]?=w'.heap[b]?:=fun b hb=>(kF5 b (r2.fro b hb)).trans (r2.frozen q5 b hb)
    have he5:Ql (U3 env' rs) w5 F4 σ4 a.tmps:=Q61 r2.fro hF4 r3 hargE (Th q4 rs)
    obtain⟨vs,g1,g2,g3⟩:=L2 hT r1 he5 rs res r4
    have hst:=hst1.trans r2
    have hrun:(results fn a.tmps).run P w5=.ok (if h:vs.toArray.size=1 then vs.toArray[0] else .tuple vs.toArray) w5:=by
     have e:results fn a.tmps=(do let vs <-fn.results.mapM (Wa a.tmps);pure (if h:vs.size=1 then vs[0] else .tuple vs)):=by
      unfold results
      congr 1
     rw[e,hrs,Array.mapM_eq_mapM_toList]
     simp[g1]
    have hsz:w.heap.size<=w4.heap.size:=hst.size
    refine⟨_,hrun,_,Zp F4 σ4,rfl,⟨i1.trans hst.os,i2.trans hst.tape,i3.trans hst.output,Qhx hst.drawn (Qhz id.symm),by rw[i4];exact hst.size,fun b hb=>?_,fun b hb=>.inl (hst.fro b hb),fun b hb=>?_,fun b hb=>?_⟩,fun σ=>?_⟩
    .have h4:=hst.keep b hb (fun⟨r,p,t,h1,_⟩=>by cases h1)
     rw[<-h4]
     refine i5 b fun hm=>?_
     exact absurd hb (Nat.not_lt.2 (hD0 b hm).1)
    .rcases hb with hb|hb
     .rcases hst.fro' b hb with h1|⟨r,p,t,h1,_⟩|h1
      .exact .inl h1
      .cases h1
      .exact .inr h1
     .rcases hst.own b hb with ⟨r,p,t,h1,_⟩|h1
      .cases h1
      .exact .inr h1
    .rcases hb with hb|⟨r,p,t,h1,h2⟩
     .exact r1.fl b hb
     .exact(r1.nf r p b t h1 h2).2
    .have tup:Vc w5 (Zp F4 σ4) σ (.tup (up res)) (.tuple vs.toArray):=.tup (by rw[Zb,Qhb,g2]) fun j A u hA hu=>by
      obtain⟨x,hx,rfl⟩:=Ue hA
      exact .d (g3 j x u hx hu)
     match res,vs,g2,g3,tup with
     |[],[],_,_,tup=>simpa[Vu] using tup
     |[x],[v],_,g3,_=>simpa[Vu] using Vc.d (g3 0 x v rfl rfl)
     |x::y::xs,a::b::vs,_,_,tup=>simpa[Vu] using tup
     |[],_::_,h,_,_=>simp at h
     |_::_,[],h,_,_=>simp at h
     |[_],_::_::_,h,_,_=>simp at h
     |_::_::_,[_],h,_,_=>simp at h
 cases e with
 |normal=>exact hend .returning .returning .nilIface .nili (fun h=>nomatch h) rfl (fun c₀ cs hc=>by cases c₀;subst hc;rfl) (fun _ _=>.nili) q1
 |ret=>exact hend .returning .returning .nilIface .nili (fun h=>nomatch h) rfl (fun c₀ cs hc=>by cases c₀;subst hc;rfl) (fun _ _=>.nili) q1
 |panic ch =>
  obtain⟨v,x,rfl,hx,hq⟩:=q1
  exact hend (.panicking [{v:=v,recovered:=false}]) (.panicking [{v:=v,recovered:=true}]) v x (fun h=>nomatch h) rfl (fun c₀ cs hc=>by cases c₀;subst hc;rfl) hx hq
 |_=>exact q1.elim
end
end Go.Ab
