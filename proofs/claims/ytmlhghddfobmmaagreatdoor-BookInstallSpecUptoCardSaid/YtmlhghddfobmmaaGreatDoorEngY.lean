import Derived.Test.YtmlhghddfobmmaaGreatDoorEngU
namespace Go.Ab
set_option linter.unusedSimpArgs false
set_option linter.unusedVariables false
def Bi (P:Program)(f:FuncId):Prop:=∃fn,P.funcs[f]?=some fn/\(fn.name == "runtime.NumGoroutine")=false/\fn.body.isNone=false
def Jt (w:World)(F:Nat->Prop)(σ:Pls)(args:List AV)(Q5:List Value):Prop :=
 Q5.length=args.length/\∀(j:Nat) A u,args[j]?=some A->Q5[j]?=some u->Vc w F σ A u
structure Qz (P:Program)(f:FuncId)(args:List AV)(m:Mem)(K:AV->Mem->Prop):Prop where
 can:Bi P f
 run:∀(σ:Pls) (F:Nat->Prop) (w:World) (Q5:List Value),Q3 m σ F w->Jt w F σ args Q5 ->
  Calls P f Q5.toArray w fun e w'=>∃v A m' σ' F',e=.returned v/\K A m'/\Vc w' F' σ' A v/\Q3 m' σ' F' w'/\Step σ F w σ' F' w'/\SLe σ σ'
structure Zc (P:Program)(b:Nat)(args:List AV)(m:Mem)(K:AV->Mem->Prop):Prop where
 run:∀(σ:Pls) (F:Nat->Prop) (w:World) (Q5:List Value),Q3 m σ F w->Jt w F σ args Q5 ->
  ∃fn tmps assign body,(Instr.yield b Q5.toArray).run P w=.ok (.round b fn tmps assign body) w /\
   RoundIn (Fen none) 0 P b fn tmps assign body w fun e w'=>∃v A m' σ' F',e=.returned v/\K A m'/\Vc w' F' σ' A v/\Q3 m' σ' F' w'/\Step σ F w σ' F' w'/\SLe σ σ'
structure P0 (P:Program)(fn:AV)(args:List AV)(m:Mem)(K:AV->Mem->Prop):Prop where
 q:∃(f:FuncId) (first cap:List AV),(fn=.fn (.func f) first cap\/∃xs ys,fn=.d (.fn (.func f) xs ys)/\first=up xs/\cap=up ys)/\Qz P f (first++args++cap) m K
def Az (P:Program) (fn:AV) (args:List AV) (m:Mem) (K:AV→Mem→Prop):Prop :=
 match fn with
 | .d x=>match x with
  | .fn f xs ys=>match f with
   | .func f=>match xs,ys with
    |[],[]=>Qz P f args m K
    |xs,ys=>P0 P (.d (.fn (.func f) xs ys)) args m K
   |f=>P0 P (.d (.fn f xs ys)) args m K
  |_=>False
 | .fn f xs ys=>match f with
  | .yield b=>match xs,ys with
   |[],[]=>Zc P b args m K
   |_,_=>False
  |f=>P0 P (.fn f xs ys) args m K
 |_=>False
def Hd (env:Env):List Operand->List AV × List Prop
 |[]=>([],[])
 | x :: r=>match strip (ev env x) with
  |(A,p)=>match Hd env r with
   |(l,q)=>(A::l,cat p q)
def Rh:List Oper->Nat->Option Tmp
 |[],_=>none
 |o::_,0=>o.dst
 |_::r,j+1=>Rh r j
def guardOf (full:List Oper)(env:Env)(j:Nat)(want:Bool):Option Bool :=
 match Rh full j with
 | some t=>match get env t with
  | .d (.bool b)=>match want with
   |true=>some b
   |false=>some (!b)
  | .gd c (.d (.bool b))=>match want with
   |true=>some (c&&b)
   |false=>some (c&&!b)
  |_=>none
 |none=>none
def J7 (env:Env)(d:Option Tmp)(A:AV)(K:Env->Prop):Prop :=
 match d with
 |some t=>K ((t,A)::env)
 |none=>K env
structure Ym (P:Program)(o:Oper)(env:Env)(m:Mem)(K:AV->Mem->Prop):Prop where
 nd:∀c,o.op≠.defer c
 run:∀(a:Act) (w:World) (F:Nat->Prop) (σ:Pls),Ql env w F σ a.tmps->Q3 m σ F w ->
  ∃n u w' σ' F' A m',(execOp a.eval o).run P w=.ok n w'/\(n=.value u\/(n=.skip/\u=undef))/\K A m'/\Vc w' F' σ' A u/\Q3 m' σ' F' w'/\Step σ F w σ' F' w'/\SLe σ σ'
def Vk (n:Nat):List Nat->Bool
 |[]=>false
 |k::r=>Nat.beq k n||Vk n r
def Q16:Operand->Bool
 | .func f=>Vk f exts
 |_=>false
noncomputable def Wd (P:Program)(T:Tab)(o:Oper)(env:Env)(m:Mem)(K:Env->Mem->Prop):Prop :=
 match Xi T env m o.op with
 |some (v,l)=>obs l (frc v fun v=>J7 env o.dst v fun env=>K env m)
 | none=>match Gq T env m o.op with
  |some (v,m',l)=>obs l (frc v fun v=>Gt m' fun m'=>J7 env o.dst v fun env=>K env m')
  | none=>match o.op with
   | .call { callee:=.value f,args,.. }=>bif Q16 f then Ym P o env m fun v m'=>Ev (J7 env o.dst v fun env=>K env m') else match strip (ev env f) with
    |(fn,p)=>match Hd env args.toList with
     |(as,q)=>obs (cat p q) (Az P fn as m fun v m'=>Ev (J7 env o.dst v fun env=>K env m'))
   |_=>Ym P o env m fun v m'=>Ev (J7 env o.dst v fun env=>K env m')
noncomputable def Xw (P:Program)(T:Tab)(full ops:List Oper):Env->Mem->(Env->Mem->Prop)->Prop :=
 List.rec (motive:=fun _=>Env->Mem->(Env->Mem->Prop)->Prop) (fun env m K=>K env m)
  (fun o _ ih env m K=>match o.guard with
   |none=>Wd P T o env m fun env m=>ih env m K
   | some (j,want)=>match guardOf full env j want with
    |none=>False
    |some g=>match Xi T env m o.op with
     |some (v,l)=>obs (under g l) (frc v fun v=>J7 env o.dst (.gd g v) fun env=>ih env m K)
     |none=>Br g (Ev (Wd P T o env m fun env m=>ih env m K)) (Ev (J7 env o.dst (.gd false (.d (.bool false))) fun env=>ih env m K))) ops
theorem Q4v (P:Program)(T:Tab)(full:List Oper)(o:Oper)(rest:List Oper)(env:Env)(m:Mem)(K:Env->Mem->Prop):Xw P T full (o::rest) env m K=match o.guard with
  |none=>Wd P T o env m fun env m=>Xw P T full rest env m K
  | some (j,want)=>match guardOf full env j want with
   |none=>False
   |some g=>match Xi T env m o.op with
    |some (v,l)=>obs (under g l) (frc v fun v=>J7 env o.dst (.gd g v) fun env=>Xw P T full rest env m K)
    |none=>Br g (Ev (Wd P T o env m fun env m=>Xw P T full rest env m K)) (Ev (J7 env o.dst (.gd false (.d (.bool false))) fun env=>Xw P T full rest env m K)):=rfl
def Jb (N:Nat):List Oper->Bool
 |[]=>true
 |o::r=>(match o.dst with
  |some d=>Nat.blt d N
  |none=>true)&&Jb N r
section sound
variable {P:Program}{T:Tab}{ro:Option Nat}
theorem D5 (T:Tab)(env:Env)(m:Mem)(c:Call):Xi T env m (.defer c)=none:=rfl
theorem Q8j (T:Tab)(env:Env)(m:Mem)(c:Call):Gq T env m (.defer c)=none:=rfl
theorem A5 {w:World}{F:Nat->Prop}{σ:Pls}{env:Env}{a:Act}{N d:Nat}{A:AV}{v:Value}(hN:a.tmps.size=N)(hd:d<N)(he:Ql env w F σ a.tmps)(hv:Vc w F σ A v) :
  Ql ((d,A)::env) w F σ (a.put (some d) v).tmps:=by
 intro t
 simp only[get,Act.put]
 cases hb:Nat.beq d t with
 |true =>
  have:=Qh1 hb
  subst this
  simp only[cond_true,Qhk]
  rw[Array.getElem?_setIfInBounds_self_of_lt Om]
  exact hv
 |false =>
  have hne:=Qhv hb
  simp only[cond_false,Qhk]
  rw[Array.getElem?_setIfInBounds_ne hne,<-Qhk]
  exact he t
theorem Y3 (a:Act)(d:Option Tmp)(v:Value):(a.put d v).tmps.size=a.tmps.size:=by cases d<;>simp[Act.put]
theorem put_defers (a:Act)(d:Option Tmp)(v:Value):(a.put d v).defers=a.defers:=by cases d<;>rfl
theorem Ql.mono {w w':World}{F F':Nat->Prop}{σ σ':Pls}{env:Env}{t:Array Value}(hF:∀b,F b->F' b)(hh:∀b,F b->w'.heap[b]?=w.heap[b]?)(hs:SLe σ σ')(h:Ql env w F σ t):Ql env w' F' σ' t :=
 fun k=>(h k).mono hF hh hs
theorem Ha {w:World}{F:Nat->Prop}{σ:Pls}{env:Env}{a:Act}{N:Nat}{d:Option Tmp}{A:AV}{v:Value}{K:Env->Prop}(hN:a.tmps.size=N)(hd:(match d with|some d=>Nat.blt d N|none=>true)=true)(he:Ql env w F σ a.tmps)(hv:Vc w F σ A v)
  (h:J7 env d A K):∃env',K env'/\Ql env' w F σ (a.put d v).tmps:=by
 cases d with
 |none=>exact⟨env,h,he⟩
 |some d=>exact⟨_,h,A5 hN (Qhf hd) he hv⟩
theorem Oq:∀(l:List Oper) (j:Nat),Rh l j=(l[j]?).bind (·.dst)
 |[],_=>by simp[Rh]
 |_::_,0=>rfl
 |_::r,j+1=>by simpa[Rh] using Oq r j
theorem Hv {w:World}{F:Nat->Prop}{σ:Pls}{env:Env}{full:List Oper}{tmps:Array Value}(he:Ql env w F σ tmps){j:Nat}{want g:Bool}(h:guardOf full env j want=some g) :
  (yielded full.toArray tmps j==some want)=g:=by
 unfold guardOf at h
 split at h<;>try (cases h;done)
 rename_i t ht
 rw[Oq]at ht
 have hy:yielded full.toArray tmps j=match tmps[t]? with|some (.bool b)=>some b|_=>none:=by
  unfold yielded
  have:((full.toArray[j]?).bind (·.dst))=some t:=by simpa using ht
  rw[this]
  rfl
 have hv:=he t
 have hget:∀b,tmps.getD t undef=.bool b->tmps[t]?=some (.bool b):=fun b hb=>by
  rw[Qhk]at hb
  cases hc:tmps[t]? with
  |none=>rw[hc]at hb;simp[undef]at hb
  |some v=>rw[hc]at hb;simp at hb;rw[hb]
 split at h<;>try (cases h;done)
 .rename_i b e
  rw[e]at hv
  rw[hy,hget b hv.bool]
  cases want<;>simp at h<;>subst h<;>first|(cases b<;>rfl)|(cases g<;>rfl)
 .rename_i c b e
  rw[e]at hv
  cases hv with
  | gd h1 h2 =>
   cases c with
   |true =>
    rw[hy,hget b (h1 rfl).bool]
    cases want<;>simp at h<;>subst h<;>first|(cases b<;>rfl)|(cases g<;>rfl)
   | false =>
    have hu:=h2 rfl
    have:yielded full.toArray tmps j=none:=by
     rw[hy]
     rw[Qhk]at hu
     cases hc:tmps[t]? with
     |none=>rfl
     |some v=>rw[hc]at hu;simp at hu;subst hu;rfl
    rw[this]
    cases want<;>simp at h<;>subst h<;>rfl
theorem Mr {w:World}{F:Nat->Prop}{σ:Pls}{env:Env}{a:Act}(he:Ql env w F σ a.tmps):∀(l:List Operand),(∀p∈(Hd env l).2,p)->Jt w F σ (Hd env l).1 (l.map a.eval)
 |[],_=>⟨rfl,fun j A u h=>by simp[Hd]at h⟩
 |x::r,hp=>by
  simp only[Hd]at hp⊢
  obtain⟨h1,h2⟩:=Ji hp
  obtain⟨h3,h4⟩:=Mr he r h2
  refine⟨by simp[<-h3],fun j A u hA hu=>?_⟩
  cases j with
  |zero=>simp at hA hu;subst hA;subst hu;exact X7 (Z5 he x) h1
  |succ j=>exact h4 j A u (by simpa using hA) (by simpa using hu)
theorem Jt.app {w:World}{F:Nat->Prop}{σ:Pls}{as bs:List AV}{us vs:List Value}(h:Jt w F σ as us)(k:Jt w F σ bs vs):Jt w F σ (as++bs) (us++vs):=by
 refine⟨by simp[h.1,k.1],fun j A u hA hu=>?_⟩
 by_cases hj:j<as.length
 .rw[Qhj hj]at hA
  rw[Qhj (by rw[h.1];exact hj)]at hu
  exact h.2 j A u hA hu
 .rw[Qhu Om]at hA
  rw[Qhu (by rw[h.1];omega),h.1]at hu
  exact k.2 _ A u hA hu
theorem Jt.ofD {w:World}{F:Nat->Prop}{σ:Pls}{xs:List D}{us:List Value}(hl:us.length=xs.length)(h:∀(j:Nat) x u,xs[j]?=some x->us[j]?=some u->Rd w F x u):Jt w F σ (up xs) us :=
 ⟨by rw[Zb,Qhb,hl],fun j A u hA hu=>by obtain⟨x,hx,rfl⟩:=Ue hA;exact .d (h j x u hx hu)⟩
theorem Lr {f:FuncId}(h:Bi P f)(args:Array Value)(w:World):(callFunc f args).run P w=.ok (.enter f args) w:=by
 obtain⟨fn,h1,h2,h3⟩:=h
 simp only[callFunc,Sem.run_bind,run_program,Result.andThen_ok,h1,h2,h3,Bool.false_eq_true,if_false,Sem.run_pure]
theorem Qgg {o:Oper}{f:Operand}{args:Array Operand}{at_:Array TypeId}(hop:o.op=.call {callee:=.value f,args,argTypes:=at_}){a:Act}{w:World}{F:Nat->Prop}{σ:Pls}{m:Mem}(hm:Q3 m σ F w){fn:AV}{as:List AV}(hf:Vc w F σ fn (a.eval f))(ha:Jt w F σ as (args.toList.map a.eval))
  {K:AV->Mem->Prop} (h:Az P fn as m K) {next:Act->World->Prop} {Q:Exit->Act->World->Prop}
  (hn:∀v A m' σ' F' w',K A m'->Vc w' F' σ' A v->Q3 m' σ' F' w'->Step σ F w σ' F' w'->SLe σ σ'->next (a.put o.dst v) w'):o.wpIn (Fen ro) 0 P a w next Q:=by
 have main:∀(id:FuncId) (first cap:List AV) (us vs:List Value),a.eval f=.func (.func id) us.toArray vs.toArray->Jt w F σ first us->Jt w F σ cap vs->Qz P id (first++as++cap) m K->o.wpIn (Fen ro) 0 P a w next Q:=by
  intro id first cap us vs hfv h1 h2 hc
  have hall:=(h1.app ha).app h2
  have hcall:=hc.run σ F w _ hm hall
  have hrun:(execOp a.eval o).run P w=.ok (.enter id (us++args.toList.map a.eval++vs).toArray) w:=by
   have e:us.toArray++Array.map a.eval args++vs.toArray=(us++args.toList.map a.eval++vs).toArray:=by apply Array.ext';simp
   simp only[execOp,hop,Sem.run_bind,resolve,Deferred.ofValue,hfv,invoke,Sem.run_pure,Result.andThen_ok,e]
   exact Lr hc.can _ w
  refine V5 (by rw[hop];exact fun _ h=>nomatch h) ?_
  rw[hrun,Oper.uponIn_enter]
  refine⟨We,Y7.2 ?_⟩
  exact hcall.mono fun e w' ⟨v,A,m',σ',F',he,hk,hv,hm',hs,hle⟩=>by subst he;exact hn v A m' σ' F' w' hk hv hm' hs hle
 have viaFn:P0 P fn as m K->o.wpIn (Fen ro) 0 P a w next Q:=by
  rintro⟨id,first,cap,hcase,hc⟩
  rcases hcase with rfl|⟨xs,ys,rfl,rfl,rfl⟩
  .generalize hX:a.eval f=X at hf
   cases hf with
   |fn h1 h2 h3 h4=>exact main id first cap _ _ hX ⟨h1,h3⟩ ⟨h2,h4⟩ hc
  .generalize hX:a.eval f=X at hf
   cases hf with
   |d hf=>cases hf with
    |fn h1 h2 h3 h4=>exact main id (up xs) (up ys) _ _ hX (.ofD h1 h3) (.ofD h2 h4) hc
 unfold Az at h
 split at h<;>try (cases h;done)
 .split at h<;>try (cases h;done)
  split at h
  .split at h
   .generalize hX:a.eval f=X at hf
    cases hf with
    |d hf=>cases hf with
     |fn h1 h2 h3 h4=>exact main _ [] [] _ _ hX ⟨by simpa using h1,fun j A u h=>by simp at h⟩ ⟨by simpa using h2,fun j A u h=>by simp at h⟩ (by simpa using h)
   .exact viaFn h
  .exact viaFn h
 .split at h
  .rename_i b
   split at h<;>try (cases h;done)
   generalize hX:a.eval f=X at hf
   cases hf with
   | @fn _ _ _ us vs h1 h2 h3 h4 =>
    have e1:us=[]:=by simpa using h1
    have e2:vs=[]:=by simpa using h2
    subst e1;subst e2
    obtain⟨fn,tmps,assign,body,hy,hr⟩:=h.run σ F w (args.toList.map a.eval) hm ha
    refine V5 (by rw[hop];exact fun _ h=>nomatch h) ?_
    have hrun:(execOp a.eval o).run P w=.ok (.round b fn tmps assign body) w:=by
     have e:([]:List Value).toArray++Array.map a.eval args=(args.toList.map a.eval).toArray:=by apply Array.ext';simp
     simp only[execOp,hop,Sem.run_bind,resolve,Deferred.ofValue,hX,Sem.run_pure,Result.andThen_ok,invoke,e]
     exact hy
    rw[hrun,Oper.uponIn_round]
    exact⟨We,hr.mono fun e w' ⟨v,A,m',σ',F',he,hk,hv,hm',hs,hle⟩=>by subst he;exact hn v A m' σ' F' w' hk hv hm' hs hle⟩
  .exact viaFn h
theorem Kh (hT:Qb P T){o:Oper}{N:Nat}{env:Env}{m:Mem}{K:Env->Mem->Prop}(h:Wd P T o env m K)(hd:(match o.dst with|some d=>Nat.blt d N|none=>true)=true)
  {a:Act} {w:World} {F:Nat->Prop} {σ:Pls} (hN:a.tmps.size=N) (he:Ql env w F σ a.tmps) (hm:Q3 m σ F w) {next:Act->World->Prop} {Q:Exit->Act->World->Prop}
  (hn:∀env' m' v w' σ' F',K env' m'->Ql env' w' F' σ' (a.put o.dst v).tmps->Q3 m' σ' F' w'->Step σ F w σ' F' w'->SLe σ σ'->next (a.put o.dst v) w'):o.wpIn (Fen ro) 0 P a w next Q:=by
 unfold Wd at h
 split at h
 .rename_i v l hr
  obtain⟨hl,h⟩:=Zw h
  rw[Ya]at h
  obtain⟨u,hu,hrun⟩:=Nn hT hm he hr hl
  obtain⟨env',hk,he'⟩:=Ha hN hd he hu h
  refine V5 (fun c hc=>by rw[hc,D5]at hr;cases hr) ?_
  rw[hrun w (V6.refl F σ w),Oper.uponIn_value]
  exact hn env' m u w σ F hk he' hm (Step.refl σ F w) (SLe.refl σ)
 .split at h
  .rename_i v m' l hr
   obtain⟨hl,h⟩:=Zw h
   rw[Ya,Ns]at h
   obtain⟨n,u,w',σ',hrun,hcase,hu,hm',hs,hle⟩:=Q0e hT hm he hr hl
   have he1:=he.mono (w':=w') hs.fro (hs.frozen hm) hle
   obtain⟨env',hk,he'⟩:=Ha hN hd he1 hu h
   refine V5 (fun c hc=>by rw[hc,Q8j]at hr;cases hr) ?_
   rw[hrun]
   rcases hcase with rfl|⟨rfl,rfl⟩
   .rw[Oper.uponIn_value];exact hn env' m' u w' σ' F hk he' hm' hs hle
   .rw[Oper.uponIn_skip];exact hn env' m' undef w' σ' F hk he' hm' hs hle
  .have custom:Ym P o env m (fun v m'=>Ev (J7 env o.dst v fun env=>K env m'))->o.wpIn (Fen ro) 0 P a w next Q:=fun h=>by
    obtain⟨n,u,w',σ',F',A,m',hrun,hcase,hk,hu,hm',hs,hle⟩:=h.run a w F σ he hm
    have he1:=he.mono (w':=w') hs.fro (hs.frozen hm) hle
    obtain⟨env',hk,he'⟩:=Ha hN hd he1 hu hk.o
    refine V5 h.nd ?_
    rw[hrun]
    rcases hcase with rfl|⟨rfl,rfl⟩
    .rw[Oper.uponIn_value];exact hn env' m' u w' σ' F' hk he' hm' hs hle
    .rw[Oper.uponIn_skip];exact hn env' m' undef w' σ' F' hk he' hm' hs hle
   split at h
   rotate_left
   .exact custom h
   rename_i f args at_ hop
   cases hx:Q16 f with
   |true =>
    rw[hx]at h
    exact custom h
   |false =>
   rw[hx]at h
   simp only[cond_false]at h
   obtain⟨hl,h⟩:=Zw h
   obtain⟨h1,h2⟩:=Ji hl
   refine Qgg hop hm (X7 (Z5 he f) h1) (Mr he args.toList h2) h fun v A m' σ' F' w' hk hv hm' hs hle=>?_
   obtain⟨env',hk',he'⟩:=Ha hN hd (he.mono hs.fro (hs.frozen hm) hle) hv hk.o
   exact hn env' m' v w' σ' F' hk' he' hm' hs hle
theorem I0 (hT:Qb P T){full:List Oper}{ops:Array Oper}(hfull:ops=full.toArray){N:Nat}{K:Env->Mem->Prop}{Q:Exit->Act->World->Prop} :
  ∀(rest:List Oper) (env:Env) (m:Mem),Jb N rest=true->Xw P T full rest env m K->∀(a:Act) (w:World) (F:Nat->Prop) (σ:Pls),a.tmps.size=N->Ql env w F σ a.tmps->Q3 m σ F w ->
   (∀env' m' a' w' σ' F',K env' m'->a'.tmps.size=N->a'.defers=a.defers->Ql env' w' F' σ' a'.tmps->Q3 m' σ' F' w'->Step σ F w σ' F' w'->SLe σ σ'->Q .normal a' w')->wpListIn (Fen ro) 0 P ops Q rest a w
 |[],env,m,_,h,a,w,F,σ,hN,he,hm,hn=>wpListIn_nil (hn env m a w σ F h hN rfl he hm (Step.refl σ F w) (SLe.refl σ))
 | o :: rest,env,m,hd,h,a,w,F,σ,hN,he,hm,hn=>by
  simp only[Jb,Qh5]at hd
  have cont:∀env' m' v w' σ' F',Xw P T full rest env' m' K->Ql env' w' F' σ' (a.put o.dst v).tmps->Q3 m' σ' F' w'->Step σ F w σ' F' w'->SLe σ σ'->wpListIn (Fen ro) 0 P ops Q rest (a.put o.dst v) w':=by
   intro env' m' v w' σ' F' hk he' hm' hs hle
   refine I0 hT hfull rest env' m' hd.2 hk (a.put o.dst v) w' F' σ' (by rw[Y3];exact hN) he' hm' ?_
   intro env2 m2 a2 w2 σ2 F2 k1 k2 k3 k4 k5 k6 k7
   exact hn env2 m2 a2 w2 σ2 F2 k1 k2 (by rw[k3,put_defers]) k4 k5 (hs.trans k6) (fun r q hq=>by
    obtain⟨q1,h1,h2⟩:=hle r q hq
    obtain⟨q2,h3,h4⟩:=k7 r q1 h1
    exact⟨q2,h3,h2.trans h4⟩)
  have skip:∀(A:AV),Vc w F σ A undef->(J7 env o.dst A fun env=>Xw P T full rest env m K)->wpListIn (Fen ro) 0 P ops Q rest (a.put o.dst undef) w:=by
   intro A hA hk
   obtain⟨env',hk,he'⟩:=Ha hN hd.1 he hA hk
   exact cont env' m undef w σ F hk he' hm (Step.refl σ F w) (SLe.refl σ)
  rw[Q4v]at h
  split at h
  .rename_i hg
   exact wpListIn_plain hg fun K' hK'=>Kh hT h hd.1 hN he hm fun env' m' v w' σ' F' hk he' hm' hs hle=>hK' _ _ (cont env' m' v w' σ' F' hk he' hm' hs hle)
  .rename_i j want hg
   split at h<;>try (cases h;done)
   rename_i g hgo
   have hw:Region.wanted o (yielded ops a.tmps)=g:=by
    subst hfull
    simp only[Region.wanted,hg]
    exact Hv he hgo
   split at h
   .rename_i v l hr
    obtain⟨hl,h⟩:=Zw h
    rw[Ya]at h
    refine wpListIn_step fun K' hK'=>?_
    rw[hw]
    cases g with
    |true =>
     simp only[if_true]
     obtain⟨u,hu,hrun⟩:=Nn hT hm he hr (Bc hl rfl)
     obtain⟨env',hk,he'⟩:=Ha hN hd.1 he (Vc.gd (fun _=>hu) (fun h=>by cases h)) h
     refine V5 (fun c hc=>by rw[hc,D5]at hr;cases hr) ?_
     rw[hrun w (V6.refl F σ w),Oper.uponIn_value]
     exact hK' _ _ (cont env' m u w σ F hk he' hm (Step.refl σ F w) (SLe.refl σ))
    |false =>
     simp only[Bool.false_eq_true,if_false]
     exact⟨fun _ _=>trivial,hK' _ _ (skip _ (.gd (fun h=>by cases h) fun _=>rfl) h)⟩
   .refine wpListIn_step fun K' hK'=>?_
    rw[hw]
    cases g with
    |true =>
     simp only[if_true]
     exact Kh hT (h.t rfl).o hd.1 hN he hm fun env' m' v w' σ' F' hk he' hm' hs hle=>hK' _ _ (cont env' m' v w' σ' F' hk he' hm' hs hle)
    |false =>
     simp only[Bool.false_eq_true,if_false]
     exact⟨fun _ _=>trivial,hK' _ _ (skip _ (.gd (fun h=>by cases h) fun _=>rfl) (h.f rfl).o)⟩
end sound
def Zj (σ σ':Pls):Prop:=∀j q,σ (.arg j)=some q->∃q',σ' (.arg j)=some q'/\QLe q q'
theorem Zj.refl (σ:Pls):Zj σ σ:=fun _ q h=>⟨q,h,QLe.refl q⟩
theorem Zj.of {σ σ':Pls}(h:SLe σ σ'):Zj σ σ':=fun j q hq=>h (.arg j) q hq
theorem Zj.trans {σ σ' σ'':Pls}(h:Zj σ σ')(k:Zj σ' σ''):Zj σ σ'':=fun j q hq=>by
 obtain⟨q1,h1,h2⟩:=h j q hq
 obtain⟨q2,h3,h4⟩:=k j q1 h1
 exact⟨q2,h3,h2.trans h4⟩
abbrev Ja:=Exit->Env->Mem->Prop
def mark (D:Nat):Deferred:={target:=.collected D,args:=#[]}
structure Lo where
 n:Nat
 base:List Deferred
structure Ctx (ro:Option Nat)(lo:Lo)(ds:List Deferred)(σ:Pls)(F:Nat->Prop)(w:World):Prop where
 marks:∃Ds:List Nat,ds=Ds.map mark++lo.base/\Ds.Nodup/\∀D∈Ds,lo.n<=D/\w.heap[D]?=some (.deferred (some []))/\¬ Qm σ D/\¬ F D
 low:lo.n<=w.heap.size
 rd:∀l,ro=some l->(∃r,w.heap[l]?=some (.loop r))/\¬ Qm σ l/\¬ F l
theorem Ctx.nil {σ:Pls}{F:Nat->Prop}{w:World}:Ctx none ⟨w.heap.size,[]⟩ [] σ F w:=⟨⟨[],rfl,List.nodup_nil,fun _ h=>by cases h⟩,Qgx _,fun _ h=>by cases h⟩
theorem Ctx.step {ro:Option Nat}{lo:Lo}{ds:List Deferred}{σ σ':Pls}{F F':Nat->Prop}{w w':World}(h:Ctx ro lo ds σ F w)(s:Step σ F w σ' F' w'):Ctx ro lo ds σ' F' w':=by
 have key:∀D o,w.heap[D]?=some o->¬ Qm σ D->¬ F D->w'.heap[D]?=some o/\¬ Qm σ' D/\¬ F' D:=fun D o h1 h2 h3=>by
  have hlt:D<w.heap.size:=(Qh4.1 h1).1
  refine⟨(s.keep D hlt h2).trans h1,fun h=>?_,fun h=>?_⟩
  .rcases s.own D h with h|h
   .exact h2 h
   .omega
  .rcases s.fro' D h with h|h|h
   .exact h3 h
   .exact h2 h
   .omega
 obtain⟨Ds,e,nd,hm⟩:=h.marks
 refine⟨⟨Ds,e,nd,fun D hD=>?_⟩,Qhx h.low s.size,fun l hl=>?_⟩
 .obtain⟨h0,h1,h2,h3⟩:=hm D hD
  exact⟨h0,key D _ h1 h2 h3⟩
 .obtain⟨⟨r,h1⟩,h2,h3⟩:=h.rd l hl
  have:=key l _ h1 h2 h3
  exact⟨⟨r,this.1⟩,this.2⟩
def lift (N:Nat)(Q:Ja)(ro:Option Nat)(lo:Lo)(σ:Pls)(F:Nat->Prop)(w:World):Exit->Act->World->Prop:=fun e a' w' =>
 ∃env' m' σ' F',Q e env' m'/\a'.tmps.size=N/\Ctx ro lo a'.defers σ' F' w'/\Ql env' w' F' σ' a'.tmps/\Q3 m' σ' F' w'/\Step σ F w σ' F' w'/\Zj σ σ'
structure Awp (P:Program)(N:Nat)(c:Code)(env:Env)(m:Mem)(Q:Ja):Prop where
 run:∀(ro:Option Nat) (lo:Lo) (a:Act) (w:World) (σ:Pls) (F:Nat->Prop),a.tmps.size=N->Ctx ro lo a.defers σ F w->Ql env w F σ a.tmps->Q3 m σ F w->c.wpIn (Fen ro) 0 P (lift N Q ro lo σ F w) a w
def Vu:List D->AV
 |[x]=>.d x
 |xs=>.tup (up xs)
structure Qn (F:Nat->Prop)(w:World)(F':Nat->Prop)(w':World):Prop where
 os:w'.os=w.os
 tape:w'.tape=w.tape
 output:w'.output=w.output
 drawn:w.drawn<=w'.drawn
 size:w.heap.size<=w'.heap.size
 keep:∀b,b<w.heap.size->w'.heap[b]?=w.heap[b]?
 fro:∀b,F b->F' b
 fro':∀b,F' b->F b\/w.heap.size<=b
 lt:∀b,F' b->b<w'.heap.size
def Pure (P:Program)(f:FuncId)(args res:List D):Prop :=
 Bi P f/\∀(F:Nat->Prop) (w:World) (Q5:List Value),(∀b,F b->b<w.heap.size)->GOk F w->Q5.length=args.length->(∀(j:Nat) x u,args[j]?=some x->Q5[j]?=some u->Rd w F x u) ->
  Calls P f Q5.toArray w fun e w'=>∃v F',e=.returned v/\Qn F w F' w'/\∀σ,Vc w' F' σ (Vu res) v
theorem Qn.step {F F':Nat->Prop}{w w':World}(h:Qn F w F' w')(σ:Pls):Step σ F w σ F' w' :=
 ⟨h.os,h.tape,h.output,h.drawn,h.size,fun b hb _=>h.keep b hb,h.fro,fun b hb=>(h.fro' b hb).elim .inl (fun h=>.inr (.inr h)),fun _ h=>.inl h⟩
theorem Qn.mem {F F':Nat->Prop}{w w':World}(h:Qn F w F' w'){m:Mem}{σ:Pls}(hm:Q3 m σ F w):Q3 m σ F' w' where
 dom:=hm.dom
 lv r q hq:=⟨(hm.lv r q hq).1,fun pl e=>by
  obtain⟨B,hB,hok⟩:=(hm.lv r q hq).2 pl e
  exact⟨B,hB,hok.mono h.fro (fun b hb=>h.keep b (hm.fl b hb)) (SLe.refl σ) (fun b t hl=>h.keep b (hm.nf r pl b t (by rw[hq,e]) hl).2)⟩⟩
 inj:=hm.inj
 nf r pl b t h1 h2:=⟨fun hF=>by
  rcases h.fro' b hF with h3|h3
  .exact(hm.nf r pl b t h1 h2).1 h3
  .have:=(hm.nf r pl b t h1 h2).2;omega,Qic (hm.nf r pl b t h1 h2).2 h.size⟩
 fl:=h.lt
 gl:=hm.gl.mono h.fro (fun b hb=>h.keep b (hm.fl b hb))
theorem Jt.data {w:World}{F:Nat->Prop}{σ:Pls}{xs:List D}{Q5:List Value}(h:Jt w F σ (up xs) Q5):Q5.length=xs.length/\∀(j:Nat) x u,xs[j]?=some x->Q5[j]?=some u->Rd w F x u :=
 ⟨by rw [h.1,Zb,Qhb],fun j x u hx hu=>by
  have:=h.2 j (.d x) u (by rw[Zb,Qhe,hx];rfl) hu
  cases this with|d h=>exact h⟩
theorem Pure.call {P:Program}{f:FuncId}{args res:List D}(h:Pure P f args res){m:Mem}{K:AV->Mem->Prop}(hk:K (Vu res) m):Qz P f (up args) m K :=
 ⟨h.1,fun σ F w Q5 hm ha=>(h.2 F w Q5 hm.fl hm.gl ha.data.1 ha.data.2).mono fun _ _ ⟨v,F',he,hg,hv⟩=>⟨v,Vu res,m,σ,F',he,hk,hv σ,hg.mem hm,hg.step σ,SLe.refl σ⟩⟩
structure Ia (P:Program)(fn:AV)(as:List AV)(K:AV->Prop):Prop where
 q:∃(f:FuncId) (xs ys args res:List D),fn=.d (.fn (.func f) xs ys)/\as=up args/\Pure P f (xs++args++ys) res/\K (Vu res)
def Zt:Operand->List Nat
 | .tmp t=>[t]
 |_=>[]
def Lu:List Operand->List Nat
 |[]=>[]
 | .tmp t::r=>t::Lu r
 |_::r=>Lu r
def C9:List (Nat × Operand)->List Nat
 |[]=>[]
 |(_,.tmp t)::r=>t::C9 r
 |_::r=>C9 r
def Ax:Option Operand->List Nat
 |some (.tmp t)=>[t]
 |_=>[]
def X3:List Nat->List Nat->List Nat
 |[],l=>l
 |x::r,l=>x::X3 r l
def tmpsOf:Op->List Nat
 | .move x=>Zt x
 | .assign x=>Zt x
 | .pick c a b=>X3 (Zt c) (X3 (Zt a) (Zt b))
 | .binOp _ _ x y _=>X3 (Zt x) (Zt y)
 | .unOp _ _ x=>Zt x
 | .load _ x=>Zt x
 | .fieldAddr _ x _=>Zt x
 | .indexAddr _ x i=>X3 (Zt x) (Zt i)
 | .field _ x _=>Zt x
 | .extract x _=>Zt x
 | .makeInterface _ x=>Zt x
 | .convert _ _ x=>Zt x
 | .makeFunc _ f c=>X3 (Lu f.toList) (Lu c.toList)
 | .build _ ps=>C9 ps.toList
 | .buildSlice _ _ ps=>C9 ps.toList
 | .slice _ x lo hi mx=>X3 (Zt x) (X3 (Ax lo) (X3 (Ax hi) (Ax mx)))
 | .nilCheck x=>Zt x
 | .lookup _ x k _=>X3 (Zt x) (Zt k)
 | .call c=>match c.callee with
  | .value f=>X3 (Zt f) (Lu c.args.toList)
  |_=>Lu c.args.toList
 |_=>[]
def Yb (full:List Oper):Option (Nat × Bool)->List Nat
 |some (j,_)=>match Rh full j with
  |some t=>[t]
  |none=>[]
 |none=>[]
def sel (env:Env):List Nat->Env
 |[]=>[]
 |t::r=>(t,get env t)::sel env r
theorem Sk (env:Env)(t:Nat):∀ts:List Nat,(t∈ts/\get (sel env ts) t=get env t)\/get (sel env ts) t=.junk
 |[]=>.inr rfl
 | u :: r=>by
  simp only[sel,get]
  cases h:Nat.beq u t with
  |true =>
   have:=Qh1 h
   subst this
   exact .inl ⟨by simp,rfl⟩
  |false =>
   rcases Sk env t r with ⟨h1,h2⟩|h2
   .exact .inl ⟨by simp[h1],h2⟩
   .exact .inr h2
theorem Vl {env:Env}{ts:List Nat}{w:World}{F:Nat->Prop}{σ:Pls}{tmps:Array Value}(h:∀t∈ts,Vc w F σ (get env t) (tmps.getD t undef)):Ql (sel env ts) w F σ tmps:=fun t=>by
 rcases Sk env t ts with ⟨h1,h2⟩|h2
 .rw[h2];exact h t h1
 .rw[h2];exact .junk
def allRows:List (List AV)->Option (List (List D))
 |[]=>some []
 | c :: r=>match Wh c with
  |some x=>match allRows r with
   |some l=>some (x::l)
   |none=>none
  |none=>none
def Yv:List (List D)->Nat->List D
 |[],_=>[]
 |c::_,0=>c
 |_::r,i+1=>Yv r i
def Xf:List (List D)->Nat->List D
 |[c]=>fun _=>c
 |l=>Yv l
def W1:List (Nat × AV)->Bool
 |[]=>true
 |(_,.d _)::r=>W1 r
 |_=>false
def Tu (T:Tab) (e:Env) (op:Op):Option (AV × List Prop) :=
 match op with
 | .buildSlice t n parts=>match Ws (Ve e parts.toList) with
  | (l0,p)=>bif W1 l0 then match elemOf T t with
   |none=>none
   | some (_,sz)=>match rowsOf ⟨[],[]⟩ sz 0 l0 with
    |none=>none
    |some (rows,q)=>match allRows rows with
     |none=>none
     |some ds=>bif Nat.beq (Jl rows) n&&Nat.ble (n*sz) 65536 then some (.d (bif Vk t Q4d then .slc sz n (Xf ds) else .sl sz n (Xf ds)),cat p q) else none
   else none
 |_=>none
noncomputable def X8 (P:Program)(T:Tab)(m:Mem)(e:Env)(o:Oper)(K:AV->Prop):Prop :=
 match Xi T e m o.op with
 |some (v,l)=>obs l (frc v K)
 | none=>match Tu T e o.op with
  |some (v,l)=>obs l (frc v K)
  | none=>match o.op with
   | .call { callee:=.value f,args,.. }=>match strip (ev e f) with
    |(fn,p)=>match Hd e args.toList with
     |(as,q)=>obs (cat p q) (Ia P fn as fun v=>Ev (K v))
   | .build t parts=>match Ws (Ve e parts.toList) with
    |(l0,p)=>match D1 T m t l0 with
     |some (A,q)=>obs (cat p q) (frc A K)
     |none=>False
   |_=>False
noncomputable def vcR (P:Program)(T:Tab)(full:List Oper)(m:Mem)(ops:List Oper):Env->(Env->Prop)->Prop :=
 List.rec (motive:=fun _=>Env->(Env->Prop)->Prop) (fun env K=>K env) (fun o _ ih env K=>match o.guard with
  |none=>X8 P T m (sel env (tmpsOf o.op)) o fun v=>J7 env o.dst v fun env=>ih env K
  | some (j,want)=>match guardOf full (sel env (Yb full (some (j,want)))) j want with
   |none=>False
   |some g=>match Xi T (sel env (tmpsOf o.op)) m o.op with
    |some (v,l)=>obs (under g l) (frc v fun v=>J7 env o.dst (.gd g v) fun env=>ih env K)
    |none=>Br g (Ev (X8 P T m (sel env (tmpsOf o.op)) o fun v=>J7 env o.dst v fun env=>ih env K)) (Ev (J7 env o.dst (.gd false (.d (.bool false))) fun env=>ih env K))) ops
theorem Qgj (P:Program)(T:Tab)(full:List Oper)(m:Mem)(o:Oper)(rest:List Oper)(env:Env)(K:Env->Prop):vcR P T full m (o::rest) env K=match o.guard with
  |none=>X8 P T m (sel env (tmpsOf o.op)) o fun v=>J7 env o.dst v fun env=>vcR P T full m rest env K
  | some (j,want)=>match guardOf full (sel env (Yb full (some (j,want)))) j want with
   |none=>False
   |some g=>match Xi T (sel env (tmpsOf o.op)) m o.op with
    |some (v,l)=>obs (under g l) (frc v fun v=>J7 env o.dst (.gd g v) fun env=>vcR P T full m rest env K)
    |none=>Br g (Ev (X8 P T m (sel env (tmpsOf o.op)) o fun v=>J7 env o.dst v fun env=>vcR P T full m rest env K)) (Ev (J7 env o.dst (.gd false (.d (.bool false))) fun env=>vcR P T full m rest env K)):=rfl
def Vi (es:List Edge)(j:Nat):Bool:=es.any fun e=>Nat.beq e.on j&&Region.binds .any e
def Pp (t i:Nat)(es:List Edge):Nat->List Oper->Bool
 |_,[]=>true
 |j,o::r=>(match o.dst with
  |some d=>bif Nat.beq d t then(Nat.blt j i&&Vi es j)||(Nat.beq j i||(Nat.blt i j&&Vi o.after.toList i)) else true
  |none=>true)&&Pp t i es (j+1) r
def Nf (d i:Nat):Nat->List Oper->Bool
 |_,[]=>true
 |j,o::r=>(match o.dst with
  |some d'=>bif Nat.beq d' d then Nat.beq j i else true
  |none=>true)&&Nf d i (j+1) r
def Fe (full:List Oper):Nat->List Oper->Bool
 |_,[]=>true
 |i,o::r=>(o.after.toList.all fun e=>!Region.binds .any e||Nat.blt e.on i)&&((match o.dst with
  |some d=>Nf d i 0 full
  |none=>true)&&((X3 (tmpsOf o.op) (Yb full o.guard)).all fun t=>Pp t i o.after.toList 0 full))&&Fe full (i+1) r
def okR (full:List Oper):Bool:=Fe full 0 full
theorem Qn.drew {w:World}{F:Nat->Prop}(h:∀b,F b->b<w.heap.size):Qn F w F {w with drawn:=w.drawn+1}:=⟨rfl,rfl,rfl,Nat.le_succ _,Qgx _,fun _ _=>rfl,fun _ h=>h,fun _ h=>.inl h,h⟩
theorem Qn.refl {w:World}{F:Nat->Prop}(h:∀b,F b->b<w.heap.size):Qn F w F w:=⟨rfl,rfl,rfl,Qgx _,Qgx _,fun _ _=>rfl,fun _ h=>h,fun _ h=>.inl h,h⟩
theorem Qn.trans {w w1 w2:World}{F F1 F2:Nat->Prop}(hg:Qn F w F1 w1)(hg2:Qn F1 w1 F2 w2):Qn F w F2 w2 :=
 ⟨hg2.os.trans hg.os,hg2.tape.trans hg.tape,hg2.output.trans hg.output,Qhx hg.drawn hg2.drawn,Qhx hg.size hg2.size,fun b hb=>(hg2.keep b (Qic hb hg.size)).trans (hg.keep b hb),fun b hb=>hg2.fro b (hg.fro b hb),
  fun b hb=>by
   rcases hg2.fro' b hb with h3|h3
   .exact hg.fro' b h3
   .exact .inr (Qhx hg.size h3),hg2.lt⟩
theorem Yu {x:Nat}:∀{a b:List Nat},x∈X3 a b↔x∈a\/x∈b
 |[],b=>by simp[X3]
 |y::r,b=>by simp[X3,Yu (a:=r),or_assoc]
section
variable {P:Program}{T:Tab}
def V7 (P:Program)(σ:Pls)(F:Nat->Prop)(w:World)(A:AV):Result Next->Prop
 | .ok (.value u) w2=>∃F2,Qn F w F2 w2/\Vc w2 F2 σ A u
 | .ok (.enter f args) w2=>w2=w/\Calls P f args w fun e w3=>∃u F3,e=.returned u/\Qn F w F3 w3/\Vc w3 F3 σ A u
 |_=>False
def My (P:Program)(m:Mem)(σ:Pls)(o:Oper)(e:Env)(A:AV):Prop :=
 ∀(F:Nat->Prop) (w:World) (a:Act),Q3 m σ F w->Ql e w F σ a.tmps->V7 P σ F w A ((execOp a.eval o).run P w)
theorem Ij:∀{rows:List (List AV)} {ds:List (List D)},allRows rows=some ds->rows.length=ds.length/\∀(i:Nat) (h:i<rows.length) (h':i<ds.length),rows[i]=up ds[i]
 |[],ds,h=>by simp[allRows]at h;subst h;exact⟨rfl,fun i h=>by simp at h⟩
 |c::r,ds,h=>by
  simp only[allRows]at h
  split at h<;>try (cases h;done)
  rename_i x hx
  split at h<;>try (cases h;done)
  rename_i l hl
  injection h with h
  subst h
  obtain⟨h1,h2⟩:=Ij hl
  refine⟨by simp[h1],fun i hi hi'=>?_⟩
  cases i with
  |zero=>exact Cl hx
  |succ i=>exact h2 i (by simpa using hi) (by simpa using hi')
theorem Q2c:∀{l:List (List D)} {i:Nat} (hi:i<l.length),Yv l i=l[i]
 |c::r,0,_=>rfl
 |c::r,i+1,hi=>by simpa[Yv] using Q2c (l:=r) (i:=i) (by simpa using hi)
theorem Qf6 {l:List (List D)}{i:Nat}(hi:i<l.length):Xf l i=l[i]:=by
 unfold Xf
 split
 .simp at hi
  subst hi
  rfl
 .exact Q2c hi
theorem Ii:∀{l:List (Nat × AV)},W1 l=true->∀(j:Nat) B,l[j]?=some B->∃x,B.2=.d x
 |[],_,j,B,h=>by simp at h
 |(i,.d x)::r,h,j,B,hB=>by
  cases j with
  |zero=>simp at hB;subst hB;exact⟨x,rfl⟩
  |succ j=>exact Ii (l:=r) h j B (by simpa using hB)
 |(_,.agg _)::_,h,_,_,_=>by simp[W1]at h
 |(_,.tup _)::_,h,_,_,_=>by simp[W1]at h
 |(_,.ifc _ _)::_,h,_,_,_=>by simp[W1]at h
 |(_,.fn _ _ _)::_,h,_,_,_=>by simp[W1]at h
 |(_,.ptr _ _ _ _)::_,h,_,_,_=>by simp[W1]at h
 |(_,.osl _ _ _ _)::_,h,_,_,_=>by simp[W1]at h
 |(_,.mp _)::_,h,_,_,_=>by simp[W1]at h
 |(_,.gd _ _)::_,h,_,_,_=>by simp[W1]at h
 |(_,.junk)::_,h,_,_,_=>by simp[W1]at h
section
variable {w:World}{F:Nat->Prop}{σ:Pls}{m:Mem}
theorem Q30 (hm:Q3 m σ F w){F':Nat->Prop}(hF:∀b,F b->F' b){r:Ref}{g off n:Nat}{v:Value}(h:Vc w F σ (.osl r g off n) v){e sz k:Nat}{f:Nat->List AV}{f':Nat->List D}
  (hB:m.get r=some (.vec e sz g k f)) (hk:off+n<=k) (hf:∀i,i<k->f i=up (f' i)) (hF':∀pl b tot,σ r=some (some pl)->pl.loc=some (b,tot)->F' b):Rd w F' (.sl sz n fun i=>f' (off+i)) v:=by
 have up':∀{y:D} {u:Value},Rd w F y u->Rd w F' y u:=fun h=>h.mono hF (fun _ _=>rfl)
 obtain⟨pl,hr,hok,_,hat⟩:=Uz hm h (Mem.get_at hB)
 obtain⟨h0,hsz,hn0,hrow,hl⟩:=hok
 have hsl:=hat h0
 unfold Yn at hsl
 split at hsl
 .obtain⟨rfl,_,rfl⟩:=hsl
  exact .sl ⟨0,0,none⟩ (fun _ _=>undef) (Qgx _) (fun h=>absurd h Om) (fun i hi=>absurd hi Om) (fun i j hi=>absurd hi Om) (fun i j x hi=>absurd hi Om)
 .rename_i b tot hloc
  obtain⟨B,cap,rfl,hnc,hoc,hA⟩:=hsl
  obtain⟨hnt,htm,us,hheap,hlen,hvc⟩:=hl b tot hloc
  have hlen':∀i,i<n->(f' (off+i)).length=sz:=fun i hi=>by
   have:=hrow (off+i) Om
   rw[hf _ Om,Zb,Qhb]at this
   exact this
  have hcell:∀i j,i<n->j<sz->∃u,us[(off+i)*sz+j]?=some u/\u.oneCell'=true/\∀x,(f' (off+i))[j]?=some x->Rd w F x u:=fun i j hi hj=>by
   have hx:(f' (off+i))[j]?=some ((f' (off+i))[j]'(by rw[hlen' i hi];exact hj)):=Qgy _
   obtain⟨u,hu,hv,h1⟩:=hvc (off+i) j (.d _) Om (by rw[hf _ Om,Zb,Qhe,hx];rfl)
   refine⟨u,hu,h1,fun x hx'=>?_⟩
   rw[hx]at hx'
   injection hx' with hx'
   subst hx'
   cases hv with|d hv=>exact hv
  refine .sl ⟨b,off*sz,none⟩ (fun i j=>us.getD ((off+i)*sz+j) undef) hnc (fun hn=>⟨by rw[hA (.inl Om),hsz],hF' pl b tot hr hloc⟩) hlen' (fun i j hi hj=>?_) (fun i j x hi hx=>?_)
  .obtain⟨u,hu,h1,_⟩:=hcell i j hi hj
   rw[Vh,cell_of_row w b _ us.toArray e (0,0) hheap]
   have e1:off*sz+(i*sz+j)=(off+i)*sz+j:=by rw[Nat.add_mul];omega
   rw[e1]
   simp[hu,h1]
  .have hj:j<sz:=by rw[<-hlen' i hi];exact(Qh7.1 hx).1
   obtain⟨u,hu,_,h2⟩:=hcell i j hi hj
   simp only[Qha,hu,Qi3]
   exact up' (h2 x hx)
end
theorem Q1v {F:Nat->Prop}{w:World}(hf:∀b,F b->b<w.heap.size)(hg:GOk F w):Q3 ⟨[],[]⟩ (fun _=>none) F w where
 dom r:=by cases r<;>simp[Mem.at]
 lv r q h:=by cases h
 inj r r' pl pl' b t t' h:=by cases h
 nf r pl b t h:=by cases h
 fl:=hf
 gl:=hg
theorem Q8o (hT:Qb P T){m:Mem}{σ:Pls}{e:Env}{o:Oper}{A:AV}{l:List Prop}(h:Tu T e o.op=some (A,l))(hl:∀p∈l,p):My P m σ o e A:=by
 intro F w a hm he
 unfold Tu at h
 split at h<;>try (cases h;done)
 rename_i t n parts hop
 split at h
 rename_i l0 p hsp
 cases hdp:W1 l0 with
 |false=>rw[hdp]at h;cases h
 | true =>
  rw[hdp]at h
  simp only[cond_true]at h
  split at h<;>try (cases h;done)
  rename_i e0 sz hel
  split at h<;>try (cases h;done)
  rename_i rows q hrows
  split at h<;>try (cases h;done)
  rename_i ds hds
  cases hc:(Nat.beq (Jl rows) n&&Nat.ble (n*sz) 65536) with
  |false=>rw[hc]at h;cases h
  | true =>
   rw[hc]at h
   simp only[cond_true,Qgz,Qh6]at h
   obtain⟨rfl,rfl⟩:=h
   obtain⟨hp,hq⟩:=Ji hl
   have hm0:=Q1v hm.fl hm.gl
   have hev:Nj T ⟨[],[]⟩ t n l0=some (.osl (.loc 0) 0 0 n,⟨[some (.vec e0 sz 0 n (Jr rows))],[]⟩,q):=by
    unfold Nj
    rw[hel]
    simp only
    rw[hrows]
    simp only[hc,cond_true]
    rfl
   obtain⟨k1,k2⟩:=Rk he parts.toList
   have hfst:=Ba (Ve e parts.toList)
   rw[hsp]at hfst
   obtain⟨u,w',σ',g1,g2,g3,g4,g5,hcap⟩:=Tn (a:=a) (parts:=parts) hT hm0 (k1.trans hfst.symm) (fun j B u hB hu=>by
    obtain⟨A',hA',hv⟩:=Bb (w:=w) (F:=F) (σ:=σ) (Ve e parts.toList) (by rw[hsp];exact hp) j B (by rw[hsp];exact hB)
    have:=hv u.2 (k2 j A' u hA' hu)
    obtain⟨x,hx⟩:=Ii hdp j B hB
    rw[hx]at this⊢
    cases this with|d h=>exact .d h) hev hq
   simp only[Qh5,N8]at hc
   have hn:=Qh1 hc.1
   obtain⟨e1,e2⟩:=Ij hds
   have hrun:(execOp a.eval o).run P w=.ok (.value u) w':=by simp[execOp,hop,g1]
   rw[hrun]
   let F2:Nat->Prop:=fun b=>F b\/w.heap.size<=b/\b<w'.heap.size
   have hk:∀b,b<w.heap.size->w'.heap[b]?=w.heap[b]?:=fun b hb=>g4.keep b hb (fun⟨r,pl,t,h,_⟩=>by cases h)
   have hrd:=Q30 (F':=F2) (e:=e0) (sz:=sz) (k:=n) (f:=Jr rows) (f':=Xf ds) g3 (fun b hb=>.inl hb) g2 rfl Om (fun i hi=>by
    rw[A8 Om,Qf6 Om]
    exact e2 i Om Om) (fun pl b tot h1 h2=>by
     have hb:=g3.nf _ pl b tot h1 h2
     rcases g4.own b ⟨_,pl,tot,h1,h2⟩ with ⟨_,_,_,h,_⟩|h
     .cases h
     .exact .inr ⟨h,hb.2⟩)
   refine⟨F2,⟨g4.os,g4.tape,g4.output,g4.drawn,g4.size,hk,fun b hb=>.inl hb,fun b hb=>hb.elim .inl (fun h=>.inr h.1),fun b hb=>?_⟩,.d ?_⟩
   .rcases hb with hb|hb
    .exact Qic (hm.fl b hb) g4.size
    .exact hb.2
   .have e3:(fun i=>Xf ds (0+i))=Xf ds:=by funext i;rw[Qh9]
    rw[e3]at hrd
    cases Vk t Q4d with
    |false=>exact hrd
    |true =>
     obtain⟨A0,rfl⟩:=hcap
     exact .slc hrd
theorem Nl (hT:Qb P T){m:Mem}{σ:Pls}{e:Env}{o:Oper}{A:AV}{l:List Prop}(h:Xi T e m o.op=some (A,l))(hl:∀p∈l,p):My P m σ o e A:=by
 intro F w a hm he
 obtain⟨u,hu,hrun⟩:=Nn hT hm he h hl
 rw[hrun w (V6.refl F σ w)]
 exact⟨F,Qn.refl hm.fl,hu⟩
theorem I1 (hT:Qb P T){m:Mem}{e:Env}{o:Oper}{K:AV->Prop}(h:X8 P T m e o K):∃A,K A/\∀σ:Pls,My P m σ o e A:=by
 unfold X8 at h
 split at h
 .rename_i v l hr
  obtain⟨hl,h⟩:=Zw h
  rw[Ya]at h
  exact⟨v,h,fun σ=>Nl hT hr hl⟩
 .split at h
  .rename_i v l hr
   obtain⟨hl,h⟩:=Zw h
   rw[Ya]at h
   exact⟨v,h,fun σ=>Q8o hT hr hl⟩
  .split at h<;>try (cases h;done)
   rotate_left
   .rename_i t parts hop
    split at h
    rename_i l0 p el
    split at h<;>try (cases h;done)
    rename_i A q hA
    obtain⟨hl,h⟩:=Zw h
    rw[Ya]at h
    refine⟨A,h,fun σ F w a hm he=>?_⟩
    obtain⟨h1,h2⟩:=Ji hl
    obtain⟨hk1,hk2⟩:=Rk he parts.toList
    obtain⟨u,g0,g1⟩:=Q0c (a:=a) (parts:=parts) hT hm (hk1.trans (by have:=Ba (Ve e parts.toList);rw[el]at this;exact this.symm)) (fun j B u hB hu=>by
     obtain⟨A0,e1,e2⟩:=Bb (Ve e parts.toList) (by rw[el];exact h1) j B (by rw[el];exact hB)
     exact e2 _ (hk2 j A0 u e1 hu)) hA h2
    have hrun:(execOp a.eval o).run P w=.ok (.value u) w:=by simp[execOp,hop,g0]
    rw[hrun]
    exact⟨F,Qn.refl hm.fl,g1⟩
   rename_i f args at_ hop
   obtain⟨hl,h⟩:=Zw h
   obtain⟨id,xs,ys,das,res,hfn,has,hp,hk⟩:=h.q
   refine⟨Vu res,hk.o,fun σ F w a hm he=>?_⟩
   obtain⟨h1,h2⟩:=Ji hl
   have hf:=X7 (Z5 he f) h1
   have ha:=Mr he args.toList h2
   rw[hfn]at hf
   rw[has]at ha
   generalize hX:a.eval f=X at hf
   cases hf with
   | d hf=>cases hf with
    | @fn _ _ _ us vs l1 l2 r1 r2 =>
     have hcall:=hp.2 F w (us++args.toList.map a.eval++vs) hm.fl hm.gl (by simp[l1,l2];have:=ha.data.1;simp at this;omega) (fun j x u hx hu=>by
      have ha1:Jt w F σ (up xs) us:=.ofD l1 r1
      have ha2:Jt w F σ (up ys) vs:=.ofD l2 r2
      have hall:=((ha1.app ha).app ha2)
      have e:up xs++up das++up ys=up (xs++das++ys):=by simp[Zb]
      rw[e]at hall
      exact hall.data.2 j x u hx hu)
     have hrun:(execOp a.eval o).run P w=.ok (.enter id (us++args.toList.map a.eval++vs).toArray) w:=by
      have e:us.toArray++Array.map a.eval args++vs.toArray=(us++args.toList.map a.eval++vs).toArray:=by apply Array.ext';simp
      simp only[execOp,hop,Sem.run_bind,resolve,Deferred.ofValue,hX,invoke,Sem.run_pure,Result.andThen_ok,e]
      exact Lr hp.1 _ w
     rw[hrun]
     exact⟨rfl,hcall.mono fun e w2 ⟨v,F2,he2,hg2,hv⟩=>⟨v,F2,he2,hg2,hv σ⟩⟩
theorem Bg (hT:Qb P T){m:Mem}{σ:Pls}{e:Env}{o:Oper}{K:AV->Prop}(h:X8 P T m e o K):∃A,K A/\My P m σ o e A:=by
 obtain⟨A,h1,h2⟩:=I1 hT h
 exact⟨A,h1,h2 σ⟩
end
end Go.Ab
