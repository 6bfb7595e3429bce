import Derived.Test.YtmlhghddfobmmaaGreatDoorEngU
namespace Go.Ab
set_option linter.unusedSimpArgs false
set_option linter.unusedVariables false
def CanEnter (P:Program)(f:FuncId):Prop:=∃fn,P.funcs[f]?=some fn/\(fn.name == "runtime.NumGoroutine")=false/\fn.body.isNone=false
def ArgsOk (w:World)(F:Nat->Prop)(σ:Pls)(args:List AV)(vals:List Value):Prop :=
 vals.length=args.length/\∀(j:Nat) A u,args[j]?=some A->vals[j]?=some u->Vc w F σ A u
structure CallVC (P:Program)(f:FuncId)(args:List AV)(m:Mem)(K:AV->Mem->Prop):Prop where
 can:CanEnter P f
 run:∀(σ:Pls) (F:Nat->Prop) (w:World) (vals:List Value),MemOk m σ F w->ArgsOk w F σ args vals ->
  Calls P f vals.toArray w fun e w'=>∃v A m' σ' F',e=.returned v/\K A m'/\Vc w' F' σ' A v/\MemOk m' σ' F' w'/\Step σ F w σ' F' w'/\SLe σ σ'
structure YieldVC (P:Program)(b:Nat)(args:List AV)(m:Mem)(K:AV->Mem->Prop):Prop where
 run:∀(σ:Pls) (F:Nat->Prop) (w:World) (vals:List Value),MemOk m σ F w->ArgsOk w F σ args vals ->
  ∃fn tmps assign body,(Instr.yield b vals.toArray).run P w=.ok (.round b fn tmps assign body) w /\
   RoundIn (Fen none) 0 P b fn tmps assign body w fun e w'=>∃v A m' σ' F',e=.returned v/\K A m'/\Vc w' F' σ' A v/\MemOk m' σ' F' w'/\Step σ F w σ' F' w'/\SLe σ σ'
structure FnVC (P:Program)(fn:AV)(args:List AV)(m:Mem)(K:AV->Mem->Prop):Prop where
 q:∃(f:FuncId) (first cap:List AV),(fn=.fn (.func f) first cap\/∃xs ys,fn=.d (.fn (.func f) xs ys)/\first=up xs/\cap=up ys)/\CallVC P f (first++args++cap) m K
def vcCall (P:Program) (fn:AV) (args:List AV) (m:Mem) (K:AV→Mem→Prop):Prop :=
 match fn with
 | .d x=>match x with
  | .fn f xs ys=>match f with
   | .func f=>match xs,ys with
    |[],[]=>CallVC P f args m K
    |xs,ys=>FnVC P (.d (.fn (.func f) xs ys)) args m K
   |f=>FnVC P (.d (.fn f xs ys)) args m K
  |_=>False
 | .fn f xs ys=>match f with
  | .yield b=>match xs,ys with
   |[],[]=>YieldVC P b args m K
   |_,_=>False
  |f=>FnVC P (.fn f xs ys) args m K
 |_=>False
def stripAll (env:Env):List Operand->List AV × List Prop
 |[]=>([],[])
 | x :: r=>match strip (ev env x) with
  |(A,p)=>match stripAll env r with
   |(l,q)=>(A::l,cat p q)
def dstOf:List Oper->Nat->Option Tmp
 |[],_=>none
 |o::_,0=>o.dst
 |_::r,j+1=>dstOf r j
def guardOf (full:List Oper)(env:Env)(j:Nat)(want:Bool):Option Bool :=
 match dstOf full j with
 | some t=>match get env t with
  | .d (.bool b)=>match want with
   |true=>some b
   |false=>some (!b)
  | .gd c (.d (.bool b))=>match want with
   |true=>some (c&&b)
   |false=>some (c&&!b)
  |_=>none
 |none=>none
def setD (env:Env)(d:Option Tmp)(A:AV)(K:Env->Prop):Prop :=
 match d with
 |some t=>K ((t,A)::env)
 |none=>K env
structure OpVC (P:Program)(o:Oper)(env:Env)(m:Mem)(K:AV->Mem->Prop):Prop where
 nd:∀c,o.op≠.defer c
 run:∀(a:Act) (w:World) (F:Nat->Prop) (σ:Pls),EnvOk env w F σ a.tmps->MemOk m σ F w ->
  ∃n u w' σ' F' A m',(execOp a.eval o).run P w=.ok n w'/\(n=.value u\/(n=.skip/\u=undef))/\K A m'/\Vc w' F' σ' A u/\MemOk m' σ' F' w'/\Step σ F w σ' F' w'/\SLe σ σ'
def memN (n:Nat):List Nat->Bool
 |[]=>false
 |k::r=>Nat.beq k n||memN n r
def isExt:Operand->Bool
 | .func f=>memN f exts
 |_=>false
noncomputable def vcOp (P:Program)(T:Tab)(o:Oper)(env:Env)(m:Mem)(K:Env->Mem->Prop):Prop :=
 match evRead T env m o.op with
 |some (v,l)=>obs l (frc v fun v=>setD env o.dst v fun env=>K env m)
 | none=>match evEff T env m o.op with
  |some (v,m',l)=>obs l (frc v fun v=>frcM m' fun m'=>setD env o.dst v fun env=>K env m')
  | none=>match o.op with
   | .call { callee:=.value f,args,.. }=>bif isExt f then OpVC P o env m fun v m'=>Ev (setD env o.dst v fun env=>K env m') else match strip (ev env f) with
    |(fn,p)=>match stripAll env args.toList with
     |(as,q)=>obs (cat p q) (vcCall P fn as m fun v m'=>Ev (setD env o.dst v fun env=>K env m'))
   |_=>OpVC P o env m fun v m'=>Ev (setD env o.dst v fun env=>K env m')
noncomputable def vcOps (P:Program)(T:Tab)(full ops:List Oper):Env->Mem->(Env->Mem->Prop)->Prop :=
 List.rec (motive:=fun _=>Env->Mem->(Env->Mem->Prop)->Prop) (fun env m K=>K env m)
  (fun o _ ih env m K=>match o.guard with
   |none=>vcOp P T o env m fun env m=>ih env m K
   | some (j,want)=>match guardOf full env j want with
    |none=>False
    |some g=>match evRead T env m o.op with
     |some (v,l)=>obs (under g l) (frc v fun v=>setD env o.dst (.gd g v) fun env=>ih env m K)
     |none=>Br g (Ev (vcOp P T o env m fun env m=>ih env m K)) (Ev (setD env o.dst (.gd false (.d (.bool false))) fun env=>ih env m K))) ops
theorem vcOps_cons (P:Program)(T:Tab)(full:List Oper)(o:Oper)(rest:List Oper)(env:Env)(m:Mem)(K:Env->Mem->Prop):vcOps P T full (o::rest) env m K=match o.guard with
  |none=>vcOp P T o env m fun env m=>vcOps P T full rest env m K
  | some (j,want)=>match guardOf full env j want with
   |none=>False
   |some g=>match evRead T env m o.op with
    |some (v,l)=>obs (under g l) (frc v fun v=>setD env o.dst (.gd g v) fun env=>vcOps P T full rest env m K)
    |none=>Br g (Ev (vcOp P T o env m fun env m=>vcOps P T full rest env m K)) (Ev (setD env o.dst (.gd false (.d (.bool false))) fun env=>vcOps P T full rest env m K)):=rfl
def dstsIn (N:Nat):List Oper->Bool
 |[]=>true
 |o::r=>(match o.dst with
  |some d=>Nat.blt d N
  |none=>true)&&dstsIn N r
section sound
variable {P:Program}{T:Tab}{ro:Option Nat}
theorem evRead_defer (T:Tab)(env:Env)(m:Mem)(c:Call):evRead T env m (.defer c)=none:=rfl
theorem evEff_defer (T:Tab)(env:Env)(m:Mem)(c:Call):evEff T env m (.defer c)=none:=rfl
theorem put_ok {w:World}{F:Nat->Prop}{σ:Pls}{env:Env}{a:Act}{N d:Nat}{A:AV}{v:Value}(hN:a.tmps.size=N)(hd:d<N)(he:EnvOk env w F σ a.tmps)(hv:Vc w F σ A v) :
  EnvOk ((d,A)::env) w F σ (a.put (some d) v).tmps:=by
 intro t
 simp only[get,Act.put]
 cases hb:Nat.beq d t with
 |true =>
  have:=Nat.eq_of_beq_eq_true hb
  subst this
  simp only[cond_true,Array.getD_eq_getD_getElem?]
  rw[Array.getElem?_setIfInBounds_self_of_lt Om]
  exact hv
 |false =>
  have hne:=Nat.ne_of_beq_eq_false hb
  simp only[cond_false,Array.getD_eq_getD_getElem?]
  rw[Array.getElem?_setIfInBounds_ne hne,<-Array.getD_eq_getD_getElem?]
  exact he t
theorem put_size (a:Act)(d:Option Tmp)(v:Value):(a.put d v).tmps.size=a.tmps.size:=by cases d<;>simp[Act.put]
theorem put_defers (a:Act)(d:Option Tmp)(v:Value):(a.put d v).defers=a.defers:=by cases d<;>rfl
theorem EnvOk.mono {w w':World}{F F':Nat->Prop}{σ σ':Pls}{env:Env}{t:Array Value}(hF:∀b,F b->F' b)(hh:∀b,F b->w'.heap[b]?=w.heap[b]?)(hs:SLe σ σ')(h:EnvOk env w F σ t):EnvOk env w' F' σ' t :=
 fun k=>(h k).mono hF hh hs
theorem setD_ok {w:World}{F:Nat->Prop}{σ:Pls}{env:Env}{a:Act}{N:Nat}{d:Option Tmp}{A:AV}{v:Value}{K:Env->Prop}(hN:a.tmps.size=N)(hd:(match d with|some d=>Nat.blt d N|none=>true)=true)(he:EnvOk env w F σ a.tmps)(hv:Vc w F σ A v)
  (h:setD env d A K):∃env',K env'/\EnvOk env' w F σ (a.put d v).tmps:=by
 cases d with
 |none=>exact⟨env,h,he⟩
 |some d=>exact⟨_,h,put_ok hN (Nat.le_of_ble_eq_true hd) he hv⟩
theorem dstOf_eq:∀(l:List Oper) (j:Nat),dstOf l j=(l[j]?).bind (·.dst)
 |[],_=>by simp[dstOf]
 |_::_,0=>rfl
 |_::r,j+1=>by simpa[dstOf] using dstOf_eq r j
theorem guardOf_ok {w:World}{F:Nat->Prop}{σ:Pls}{env:Env}{full:List Oper}{tmps:Array Value}(he:EnvOk env w F σ tmps){j:Nat}{want g:Bool}(h:guardOf full env j want=some g) :
  (yielded full.toArray tmps j==some want)=g:=by
 unfold guardOf at h
 split at h<;>try (cases h;done)
 rename_i t ht
 rw[dstOf_eq]at ht
 have hy:yielded full.toArray tmps j=match tmps[t]? with|some (.bool b)=>some b|_=>none:=by
  unfold yielded
  have:((full.toArray[j]?).bind (·.dst))=some t:=by simpa using ht
  rw[this]
  rfl
 have hv:=he t
 have hget:∀b,tmps.getD t undef=.bool b->tmps[t]?=some (.bool b):=fun b hb=>by
  rw[Array.getD_eq_getD_getElem?]at hb
  cases hc:tmps[t]? with
  |none=>rw[hc]at hb;simp[undef]at hb
  |some v=>rw[hc]at hb;simp at hb;rw[hb]
 split at h<;>try (cases h;done)
 .rename_i b e
  rw[e]at hv
  rw[hy,hget b hv.bool]
  cases want<;>simp at h<;>subst h<;>first|(cases b<;>rfl)|(cases g<;>rfl)
 .rename_i c b e
  rw[e]at hv
  cases hv with
  | gd h1 h2 =>
   cases c with
   |true =>
    rw[hy,hget b (h1 rfl).bool]
    cases want<;>simp at h<;>subst h<;>first|(cases b<;>rfl)|(cases g<;>rfl)
   | false =>
    have hu:=h2 rfl
    have:yielded full.toArray tmps j=none:=by
     rw[hy]
     rw[Array.getD_eq_getD_getElem?]at hu
     cases hc:tmps[t]? with
     |none=>rfl
     |some v=>rw[hc]at hu;simp at hu;subst hu;rfl
    rw[this]
    cases want<;>simp at h<;>subst h<;>rfl
theorem stripAll_ok {w:World}{F:Nat->Prop}{σ:Pls}{env:Env}{a:Act}(he:EnvOk env w F σ a.tmps):∀(l:List Operand),(∀p∈(stripAll env l).2,p)->ArgsOk w F σ (stripAll env l).1 (l.map a.eval)
 |[],_=>⟨rfl,fun j A u h=>by simp[stripAll]at h⟩
 |x::r,hp=>by
  simp only[stripAll]at hp⊢
  obtain⟨h1,h2⟩:=all_cat hp
  obtain⟨h3,h4⟩:=stripAll_ok he r h2
  refine⟨by simp[<-h3],fun j A u hA hu=>?_⟩
  cases j with
  |zero=>simp at hA hu;subst hA;subst hu;exact strip_ok (ev_ok he x) h1
  |succ j=>exact h4 j A u (by simpa using hA) (by simpa using hu)
theorem ArgsOk.app {w:World}{F:Nat->Prop}{σ:Pls}{as bs:List AV}{us vs:List Value}(h:ArgsOk w F σ as us)(k:ArgsOk w F σ bs vs):ArgsOk w F σ (as++bs) (us++vs):=by
 refine⟨by simp[h.1,k.1],fun j A u hA hu=>?_⟩
 by_cases hj:j<as.length
 .rw[List.getElem?_append_left hj]at hA
  rw[List.getElem?_append_left (by rw[h.1];exact hj)]at hu
  exact h.2 j A u hA hu
 .rw[List.getElem?_append_right Om]at hA
  rw[List.getElem?_append_right (by rw[h.1];omega),h.1]at hu
  exact k.2 _ A u hA hu
theorem ArgsOk.ofD {w:World}{F:Nat->Prop}{σ:Pls}{xs:List D}{us:List Value}(hl:us.length=xs.length)(h:∀(j:Nat) x u,xs[j]?=some x->us[j]?=some u->Rd w F x u):ArgsOk w F σ (up xs) us :=
 ⟨by rw[up_eq,List.length_map,hl],fun j A u hA hu=>by obtain⟨x,hx,rfl⟩:=up_at hA;exact .d (h j x u hx hu)⟩
theorem run_callFunc {f:FuncId}(h:CanEnter P f)(args:Array Value)(w:World):(callFunc f args).run P w=.ok (.enter f args) w:=by
 obtain⟨fn,h1,h2,h3⟩:=h
 simp only[callFunc,Sem.run_bind,run_program,Result.andThen_ok,h1,h2,h3,Bool.false_eq_true,if_false,Sem.run_pure]
theorem vcCall_ok {o:Oper}{f:Operand}{args:Array Operand}{at_:Array TypeId}(hop:o.op=.call {callee:=.value f,args,argTypes:=at_}){a:Act}{w:World}{F:Nat->Prop}{σ:Pls}{m:Mem}(hm:MemOk m σ F w){fn:AV}{as:List AV}(hf:Vc w F σ fn (a.eval f))(ha:ArgsOk w F σ as (args.toList.map a.eval))
  {K:AV->Mem->Prop} (h:vcCall P fn as m K) {next:Act->World->Prop} {Q:Exit->Act->World->Prop}
  (hn:∀v A m' σ' F' w',K A m'->Vc w' F' σ' A v->MemOk m' σ' F' w'->Step σ F w σ' F' w'->SLe σ σ'->next (a.put o.dst v) w'):o.wpIn (Fen ro) 0 P a w next Q:=by
 have main:∀(id:FuncId) (first cap:List AV) (us vs:List Value),a.eval f=.func (.func id) us.toArray vs.toArray->ArgsOk w F σ first us->ArgsOk w F σ cap vs->CallVC P id (first++as++cap) m K->o.wpIn (Fen ro) 0 P a w next Q:=by
  intro id first cap us vs hfv h1 h2 hc
  have hall:=(h1.app ha).app h2
  have hcall:=hc.run σ F w _ hm hall
  have hrun:(execOp a.eval o).run P w=.ok (.enter id (us++args.toList.map a.eval++vs).toArray) w:=by
   have e:us.toArray++Array.map a.eval args++vs.toArray=(us++args.toList.map a.eval++vs).toArray:=by apply Array.ext';simp
   simp only[execOp,hop,Sem.run_bind,resolve,Deferred.ofValue,hfv,invoke,Sem.run_pure,Result.andThen_ok,e]
   exact run_callFunc hc.can _ w
  refine wpIn_at (by rw[hop];exact fun _ h=>nomatch h) ?_
  rw[hrun,Oper.uponIn_enter]
  refine⟨Fen_depth,callsFen.2 ?_⟩
  exact hcall.mono fun e w' ⟨v,A,m',σ',F',he,hk,hv,hm',hs,hle⟩=>by subst he;exact hn v A m' σ' F' w' hk hv hm' hs hle
 have viaFn:FnVC P fn as m K->o.wpIn (Fen ro) 0 P a w next Q:=by
  rintro⟨id,first,cap,hcase,hc⟩
  rcases hcase with rfl|⟨xs,ys,rfl,rfl,rfl⟩
  .generalize hX:a.eval f=X at hf
   cases hf with
   |fn h1 h2 h3 h4=>exact main id first cap _ _ hX ⟨h1,h3⟩ ⟨h2,h4⟩ hc
  .generalize hX:a.eval f=X at hf
   cases hf with
   |d hf=>cases hf with
    |fn h1 h2 h3 h4=>exact main id (up xs) (up ys) _ _ hX (.ofD h1 h3) (.ofD h2 h4) hc
 unfold vcCall at h
 split at h<;>try (cases h;done)
 .split at h<;>try (cases h;done)
  split at h
  .split at h
   .generalize hX:a.eval f=X at hf
    cases hf with
    |d hf=>cases hf with
     |fn h1 h2 h3 h4=>exact main _ [] [] _ _ hX ⟨by simpa using h1,fun j A u h=>by simp at h⟩ ⟨by simpa using h2,fun j A u h=>by simp at h⟩ (by simpa using h)
   .exact viaFn h
  .exact viaFn h
 .split at h
  .rename_i b
   split at h<;>try (cases h;done)
   generalize hX:a.eval f=X at hf
   cases hf with
   | @fn _ _ _ us vs h1 h2 h3 h4 =>
    have e1:us=[]:=by simpa using h1
    have e2:vs=[]:=by simpa using h2
    subst e1;subst e2
    obtain⟨fn,tmps,assign,body,hy,hr⟩:=h.run σ F w (args.toList.map a.eval) hm ha
    refine wpIn_at (by rw[hop];exact fun _ h=>nomatch h) ?_
    have hrun:(execOp a.eval o).run P w=.ok (.round b fn tmps assign body) w:=by
     have e:([]:List Value).toArray++Array.map a.eval args=(args.toList.map a.eval).toArray:=by apply Array.ext';simp
     simp only[execOp,hop,Sem.run_bind,resolve,Deferred.ofValue,hX,Sem.run_pure,Result.andThen_ok,invoke,e]
     exact hy
    rw[hrun,Oper.uponIn_round]
    exact⟨Fen_depth,hr.mono fun e w' ⟨v,A,m',σ',F',he,hk,hv,hm',hs,hle⟩=>by subst he;exact hn v A m' σ' F' w' hk hv hm' hs hle⟩
  .exact viaFn h
theorem vcOp_ok (hT:TabOk P T){o:Oper}{N:Nat}{env:Env}{m:Mem}{K:Env->Mem->Prop}(h:vcOp P T o env m K)(hd:(match o.dst with|some d=>Nat.blt d N|none=>true)=true)
  {a:Act} {w:World} {F:Nat->Prop} {σ:Pls} (hN:a.tmps.size=N) (he:EnvOk env w F σ a.tmps) (hm:MemOk m σ F w) {next:Act->World->Prop} {Q:Exit->Act->World->Prop}
  (hn:∀env' m' v w' σ' F',K env' m'->EnvOk env' w' F' σ' (a.put o.dst v).tmps->MemOk m' σ' F' w'->Step σ F w σ' F' w'->SLe σ σ'->next (a.put o.dst v) w'):o.wpIn (Fen ro) 0 P a w next Q:=by
 unfold vcOp at h
 split at h
 .rename_i v l hr
  obtain⟨hl,h⟩:=obs_ok h
  rw[frc_eq]at h
  obtain⟨u,hu,hrun⟩:=evRead_ok hT hm he hr hl
  obtain⟨env',hk,he'⟩:=setD_ok hN hd he hu h
  refine wpIn_at (fun c hc=>by rw[hc,evRead_defer]at hr;cases hr) ?_
  rw[hrun w (Agree.refl F σ w),Oper.uponIn_value]
  exact hn env' m u w σ F hk he' hm (Step.refl σ F w) (SLe.refl σ)
 .split at h
  .rename_i v m' l hr
   obtain⟨hl,h⟩:=obs_ok h
   rw[frc_eq,frcM_eq]at h
   obtain⟨n,u,w',σ',hrun,hcase,hu,hm',hs,hle⟩:=evEff_ok hT hm he hr hl
   have he1:=he.mono (w':=w') hs.fro (hs.frozen hm) hle
   obtain⟨env',hk,he'⟩:=setD_ok hN hd he1 hu h
   refine wpIn_at (fun c hc=>by rw[hc,evEff_defer]at hr;cases hr) ?_
   rw[hrun]
   rcases hcase with rfl|⟨rfl,rfl⟩
   .rw[Oper.uponIn_value];exact hn env' m' u w' σ' F hk he' hm' hs hle
   .rw[Oper.uponIn_skip];exact hn env' m' undef w' σ' F hk he' hm' hs hle
  .have custom:OpVC P o env m (fun v m'=>Ev (setD env o.dst v fun env=>K env m'))->o.wpIn (Fen ro) 0 P a w next Q:=fun h=>by
    obtain⟨n,u,w',σ',F',A,m',hrun,hcase,hk,hu,hm',hs,hle⟩:=h.run a w F σ he hm
    have he1:=he.mono (w':=w') hs.fro (hs.frozen hm) hle
    obtain⟨env',hk,he'⟩:=setD_ok hN hd he1 hu hk.o
    refine wpIn_at h.nd ?_
    rw[hrun]
    rcases hcase with rfl|⟨rfl,rfl⟩
    .rw[Oper.uponIn_value];exact hn env' m' u w' σ' F' hk he' hm' hs hle
    .rw[Oper.uponIn_skip];exact hn env' m' undef w' σ' F' hk he' hm' hs hle
   split at h
   rotate_left
   .exact custom h
   rename_i f args at_ hop
   cases hx:isExt f with
   |true =>
    rw[hx]at h
    exact custom h
   |false =>
   rw[hx]at h
   simp only[cond_false]at h
   obtain⟨hl,h⟩:=obs_ok h
   obtain⟨h1,h2⟩:=all_cat hl
   refine vcCall_ok hop hm (strip_ok (ev_ok he f) h1) (stripAll_ok he args.toList h2) h fun v A m' σ' F' w' hk hv hm' hs hle=>?_
   obtain⟨env',hk',he'⟩:=setD_ok hN hd (he.mono hs.fro (hs.frozen hm) hle) hv hk.o
   exact hn env' m' v w' σ' F' hk' he' hm' hs hle
theorem vcOps_ok (hT:TabOk P T){full:List Oper}{ops:Array Oper}(hfull:ops=full.toArray){N:Nat}{K:Env->Mem->Prop}{Q:Exit->Act->World->Prop} :
  ∀(rest:List Oper) (env:Env) (m:Mem),dstsIn N rest=true->vcOps P T full rest env m K->∀(a:Act) (w:World) (F:Nat->Prop) (σ:Pls),a.tmps.size=N->EnvOk env w F σ a.tmps->MemOk m σ F w ->
   (∀env' m' a' w' σ' F',K env' m'->a'.tmps.size=N->a'.defers=a.defers->EnvOk env' w' F' σ' a'.tmps->MemOk m' σ' F' w'->Step σ F w σ' F' w'->SLe σ σ'->Q .normal a' w')->wpListIn (Fen ro) 0 P ops Q rest a w
 |[],env,m,_,h,a,w,F,σ,hN,he,hm,hn=>wpListIn_nil (hn env m a w σ F h hN rfl he hm (Step.refl σ F w) (SLe.refl σ))
 | o :: rest,env,m,hd,h,a,w,F,σ,hN,he,hm,hn=>by
  simp only[dstsIn,Bool.and_eq_true]at hd
  have cont:∀env' m' v w' σ' F',vcOps P T full rest env' m' K->EnvOk env' w' F' σ' (a.put o.dst v).tmps->MemOk m' σ' F' w'->Step σ F w σ' F' w'->SLe σ σ'->wpListIn (Fen ro) 0 P ops Q rest (a.put o.dst v) w':=by
   intro env' m' v w' σ' F' hk he' hm' hs hle
   refine vcOps_ok hT hfull rest env' m' hd.2 hk (a.put o.dst v) w' F' σ' (by rw[put_size];exact hN) he' hm' ?_
   intro env2 m2 a2 w2 σ2 F2 k1 k2 k3 k4 k5 k6 k7
   exact hn env2 m2 a2 w2 σ2 F2 k1 k2 (by rw[k3,put_defers]) k4 k5 (hs.trans k6) (fun r q hq=>by
    obtain⟨q1,h1,h2⟩:=hle r q hq
    obtain⟨q2,h3,h4⟩:=k7 r q1 h1
    exact⟨q2,h3,h2.trans h4⟩)
  have skip:∀(A:AV),Vc w F σ A undef->(setD env o.dst A fun env=>vcOps P T full rest env m K)->wpListIn (Fen ro) 0 P ops Q rest (a.put o.dst undef) w:=by
   intro A hA hk
   obtain⟨env',hk,he'⟩:=setD_ok hN hd.1 he hA hk
   exact cont env' m undef w σ F hk he' hm (Step.refl σ F w) (SLe.refl σ)
  rw[vcOps_cons]at h
  split at h
  .rename_i hg
   exact wpListIn_plain hg fun K' hK'=>vcOp_ok hT h hd.1 hN he hm fun env' m' v w' σ' F' hk he' hm' hs hle=>hK' _ _ (cont env' m' v w' σ' F' hk he' hm' hs hle)
  .rename_i j want hg
   split at h<;>try (cases h;done)
   rename_i g hgo
   have hw:Region.wanted o (yielded ops a.tmps)=g:=by
    subst hfull
    simp only[Region.wanted,hg]
    exact guardOf_ok he hgo
   split at h
   .rename_i v l hr
    obtain⟨hl,h⟩:=obs_ok h
    rw[frc_eq]at h
    refine wpListIn_step fun K' hK'=>?_
    rw[hw]
    cases g with
    |true =>
     simp only[if_true]
     obtain⟨u,hu,hrun⟩:=evRead_ok hT hm he hr (under_ok hl rfl)
     obtain⟨env',hk,he'⟩:=setD_ok hN hd.1 he (Vc.gd (fun _=>hu) (fun h=>by cases h)) h
     refine wpIn_at (fun c hc=>by rw[hc,evRead_defer]at hr;cases hr) ?_
     rw[hrun w (Agree.refl F σ w),Oper.uponIn_value]
     exact hK' _ _ (cont env' m u w σ F hk he' hm (Step.refl σ F w) (SLe.refl σ))
    |false =>
     simp only[Bool.false_eq_true,if_false]
     exact⟨fun _ _=>trivial,hK' _ _ (skip _ (.gd (fun h=>by cases h) fun _=>rfl) h)⟩
   .refine wpListIn_step fun K' hK'=>?_
    rw[hw]
    cases g with
    |true =>
     simp only[if_true]
     exact vcOp_ok hT (h.t rfl).o hd.1 hN he hm fun env' m' v w' σ' F' hk he' hm' hs hle=>hK' _ _ (cont env' m' v w' σ' F' hk he' hm' hs hle)
    |false =>
     simp only[Bool.false_eq_true,if_false]
     exact⟨fun _ _=>trivial,hK' _ _ (skip _ (.gd (fun h=>by cases h) fun _=>rfl) (h.f rfl).o)⟩
end sound
def SArg (σ σ':Pls):Prop:=∀j q,σ (.arg j)=some q->∃q',σ' (.arg j)=some q'/\QLe q q'
theorem SArg.refl (σ:Pls):SArg σ σ:=fun _ q h=>⟨q,h,QLe.refl q⟩
theorem SArg.of {σ σ':Pls}(h:SLe σ σ'):SArg σ σ':=fun j q hq=>h (.arg j) q hq
theorem SArg.trans {σ σ' σ'':Pls}(h:SArg σ σ')(k:SArg σ' σ''):SArg σ σ'':=fun j q hq=>by
 obtain⟨q1,h1,h2⟩:=h j q hq
 obtain⟨q2,h3,h4⟩:=k j q1 h1
 exact⟨q2,h3,h2.trans h4⟩
abbrev Post:=Exit->Env->Mem->Prop
def mark (D:Nat):Deferred:={target:=.collected D,args:=#[]}
structure Lo where
 n:Nat
 base:List Deferred
structure Ctx (ro:Option Nat)(lo:Lo)(ds:List Deferred)(σ:Pls)(F:Nat->Prop)(w:World):Prop where
 marks:∃Ds:List Nat,ds=Ds.map mark++lo.base/\Ds.Nodup/\∀D∈Ds,lo.n<=D/\w.heap[D]?=some (.deferred (some []))/\¬ Owned σ D/\¬ F D
 low:lo.n<=w.heap.size
 rd:∀l,ro=some l->(∃r,w.heap[l]?=some (.loop r))/\¬ Owned σ l/\¬ F l
theorem Ctx.nil {σ:Pls}{F:Nat->Prop}{w:World}:Ctx none ⟨w.heap.size,[]⟩ [] σ F w:=⟨⟨[],rfl,List.nodup_nil,fun _ h=>by cases h⟩,Nat.le_refl _,fun _ h=>by cases h⟩
theorem Ctx.step {ro:Option Nat}{lo:Lo}{ds:List Deferred}{σ σ':Pls}{F F':Nat->Prop}{w w':World}(h:Ctx ro lo ds σ F w)(s:Step σ F w σ' F' w'):Ctx ro lo ds σ' F' w':=by
 have key:∀D o,w.heap[D]?=some o->¬ Owned σ D->¬ F D->w'.heap[D]?=some o/\¬ Owned σ' D/\¬ F' D:=fun D o h1 h2 h3=>by
  have hlt:D<w.heap.size:=(Array.getElem?_eq_some_iff.1 h1).1
  refine⟨(s.keep D hlt h2).trans h1,fun h=>?_,fun h=>?_⟩
  .rcases s.own D h with h|h
   .exact h2 h
   .omega
  .rcases s.fro' D h with h|h|h
   .exact h3 h
   .exact h2 h
   .omega
 obtain⟨Ds,e,nd,hm⟩:=h.marks
 refine⟨⟨Ds,e,nd,fun D hD=>?_⟩,Nat.le_trans h.low s.size,fun l hl=>?_⟩
 .obtain⟨h0,h1,h2,h3⟩:=hm D hD
  exact⟨h0,key D _ h1 h2 h3⟩
 .obtain⟨⟨r,h1⟩,h2,h3⟩:=h.rd l hl
  have:=key l _ h1 h2 h3
  exact⟨⟨r,this.1⟩,this.2⟩
def lift (N:Nat)(Q:Post)(ro:Option Nat)(lo:Lo)(σ:Pls)(F:Nat->Prop)(w:World):Exit->Act->World->Prop:=fun e a' w' =>
 ∃env' m' σ' F',Q e env' m'/\a'.tmps.size=N/\Ctx ro lo a'.defers σ' F' w'/\EnvOk env' w' F' σ' a'.tmps/\MemOk m' σ' F' w'/\Step σ F w σ' F' w'/\SArg σ σ'
structure Awp (P:Program)(N:Nat)(c:Code)(env:Env)(m:Mem)(Q:Post):Prop where
 run:∀(ro:Option Nat) (lo:Lo) (a:Act) (w:World) (σ:Pls) (F:Nat->Prop),a.tmps.size=N->Ctx ro lo a.defers σ F w->EnvOk env w F σ a.tmps->MemOk m σ F w->c.wpIn (Fen ro) 0 P (lift N Q ro lo σ F w) a w
def resAV:List D->AV
 |[x]=>.d x
 |xs=>.tup (up xs)
structure Grew (F:Nat->Prop)(w:World)(F':Nat->Prop)(w':World):Prop where
 os:w'.os=w.os
 tape:w'.tape=w.tape
 output:w'.output=w.output
 drawn:w.drawn<=w'.drawn
 size:w.heap.size<=w'.heap.size
 keep:∀b,b<w.heap.size->w'.heap[b]?=w.heap[b]?
 fro:∀b,F b->F' b
 fro':∀b,F' b->F b\/w.heap.size<=b
 lt:∀b,F' b->b<w'.heap.size
def Pure (P:Program)(f:FuncId)(args res:List D):Prop :=
 CanEnter P f/\∀(F:Nat->Prop) (w:World) (vals:List Value),(∀b,F b->b<w.heap.size)->GOk F w->vals.length=args.length->(∀(j:Nat) x u,args[j]?=some x->vals[j]?=some u->Rd w F x u) ->
  Calls P f vals.toArray w fun e w'=>∃v F',e=.returned v/\Grew F w F' w'/\∀σ,Vc w' F' σ (resAV res) v
theorem Grew.step {F F':Nat->Prop}{w w':World}(h:Grew F w F' w')(σ:Pls):Step σ F w σ F' w' :=
 ⟨h.os,h.tape,h.output,h.drawn,h.size,fun b hb _=>h.keep b hb,h.fro,fun b hb=>(h.fro' b hb).elim .inl (fun h=>.inr (.inr h)),fun _ h=>.inl h⟩
theorem Grew.mem {F F':Nat->Prop}{w w':World}(h:Grew F w F' w'){m:Mem}{σ:Pls}(hm:MemOk m σ F w):MemOk m σ F' w' where
 dom:=hm.dom
 lv r q hq:=⟨(hm.lv r q hq).1,fun pl e=>by
  obtain⟨B,hB,hok⟩:=(hm.lv r q hq).2 pl e
  exact⟨B,hB,hok.mono h.fro (fun b hb=>h.keep b (hm.fl b hb)) (SLe.refl σ) (fun b t hl=>h.keep b (hm.nf r pl b t (by rw[hq,e]) hl).2)⟩⟩
 inj:=hm.inj
 nf r pl b t h1 h2:=⟨fun hF=>by
  rcases h.fro' b hF with h3|h3
  .exact(hm.nf r pl b t h1 h2).1 h3
  .have:=(hm.nf r pl b t h1 h2).2;omega,Nat.lt_of_lt_of_le (hm.nf r pl b t h1 h2).2 h.size⟩
 fl:=h.lt
 gl:=hm.gl.mono h.fro (fun b hb=>h.keep b (hm.fl b hb))
theorem ArgsOk.data {w:World}{F:Nat->Prop}{σ:Pls}{xs:List D}{vals:List Value}(h:ArgsOk w F σ (up xs) vals):vals.length=xs.length/\∀(j:Nat) x u,xs[j]?=some x->vals[j]?=some u->Rd w F x u :=
 ⟨by rw [h.1,up_eq,List.length_map],fun j x u hx hu=>by
  have:=h.2 j (.d x) u (by rw[up_eq,List.getElem?_map,hx];rfl) hu
  cases this with|d h=>exact h⟩
theorem Pure.call {P:Program}{f:FuncId}{args res:List D}(h:Pure P f args res){m:Mem}{K:AV->Mem->Prop}(hk:K (resAV res) m):CallVC P f (up args) m K :=
 ⟨h.1,fun σ F w vals hm ha=>(h.2 F w vals hm.fl hm.gl ha.data.1 ha.data.2).mono fun _ _ ⟨v,F',he,hg,hv⟩=>⟨v,resAV res,m,σ,F',he,hk,hv σ,hg.mem hm,hg.step σ,SLe.refl σ⟩⟩
structure QCall (P:Program)(fn:AV)(as:List AV)(K:AV->Prop):Prop where
 q:∃(f:FuncId) (xs ys args res:List D),fn=.d (.fn (.func f) xs ys)/\as=up args/\Pure P f (xs++args++ys) res/\K (resAV res)
def tmpO:Operand->List Nat
 | .tmp t=>[t]
 |_=>[]
def tmpOs:List Operand->List Nat
 |[]=>[]
 | .tmp t::r=>t::tmpOs r
 |_::r=>tmpOs r
def tmpPs:List (Nat × Operand)->List Nat
 |[]=>[]
 |(_,.tmp t)::r=>t::tmpPs r
 |_::r=>tmpPs r
def tmpM:Option Operand->List Nat
 |some (.tmp t)=>[t]
 |_=>[]
def app2:List Nat->List Nat->List Nat
 |[],l=>l
 |x::r,l=>x::app2 r l
def tmpsOf:Op->List Nat
 | .move x=>tmpO x
 | .assign x=>tmpO x
 | .pick c a b=>app2 (tmpO c) (app2 (tmpO a) (tmpO b))
 | .binOp _ _ x y _=>app2 (tmpO x) (tmpO y)
 | .unOp _ _ x=>tmpO x
 | .load _ x=>tmpO x
 | .fieldAddr _ x _=>tmpO x
 | .indexAddr _ x i=>app2 (tmpO x) (tmpO i)
 | .field _ x _=>tmpO x
 | .extract x _=>tmpO x
 | .makeInterface _ x=>tmpO x
 | .convert _ _ x=>tmpO x
 | .makeFunc _ f c=>app2 (tmpOs f.toList) (tmpOs c.toList)
 | .build _ ps=>tmpPs ps.toList
 | .buildSlice _ _ ps=>tmpPs ps.toList
 | .slice _ x lo hi mx=>app2 (tmpO x) (app2 (tmpM lo) (app2 (tmpM hi) (tmpM mx)))
 | .nilCheck x=>tmpO x
 | .lookup _ x k _=>app2 (tmpO x) (tmpO k)
 | .call c=>match c.callee with
  | .value f=>app2 (tmpO f) (tmpOs c.args.toList)
  |_=>tmpOs c.args.toList
 |_=>[]
def gTmp (full:List Oper):Option (Nat × Bool)->List Nat
 |some (j,_)=>match dstOf full j with
  |some t=>[t]
  |none=>[]
 |none=>[]
def sel (env:Env):List Nat->Env
 |[]=>[]
 |t::r=>(t,get env t)::sel env r
theorem get_sel (env:Env)(t:Nat):∀ts:List Nat,(t∈ts/\get (sel env ts) t=get env t)\/get (sel env ts) t=.junk
 |[]=>.inr rfl
 | u :: r=>by
  simp only[sel,get]
  cases h:Nat.beq u t with
  |true =>
   have:=Nat.eq_of_beq_eq_true h
   subst this
   exact .inl ⟨by simp,rfl⟩
  |false =>
   rcases get_sel env t r with ⟨h1,h2⟩|h2
   .exact .inl ⟨by simp[h1],h2⟩
   .exact .inr h2
theorem sel_ok {env:Env}{ts:List Nat}{w:World}{F:Nat->Prop}{σ:Pls}{tmps:Array Value}(h:∀t∈ts,Vc w F σ (get env t) (tmps.getD t undef)):EnvOk (sel env ts) w F σ tmps:=fun t=>by
 rcases get_sel env t ts with ⟨h1,h2⟩|h2
 .rw[h2];exact h t h1
 .rw[h2];exact .junk
def allRows:List (List AV)->Option (List (List D))
 |[]=>some []
 | c :: r=>match allD c with
  |some x=>match allRows r with
   |some l=>some (x::l)
   |none=>none
  |none=>none
def nthD:List (List D)->Nat->List D
 |[],_=>[]
 |c::_,0=>c
 |_::r,i+1=>nthD r i
def rowFnD:List (List D)->Nat->List D
 |[c]=>fun _=>c
 |l=>nthD l
def allDP:List (Nat × AV)->Bool
 |[]=>true
 |(_,.d _)::r=>allDP r
 |_=>false
def evFresh (T:Tab) (e:Env) (op:Op):Option (AV × List Prop) :=
 match op with
 | .buildSlice t n parts=>match stripParts (evParts e parts.toList) with
  | (l0,p)=>bif allDP l0 then match elemOf T t with
   |none=>none
   | some (_,sz)=>match rowsOf ⟨[],[]⟩ sz 0 l0 with
    |none=>none
    |some (rows,q)=>match allRows rows with
     |none=>none
     |some ds=>bif Nat.beq (countR rows) n&&Nat.ble (n*sz) 65536 then some (.d (bif memN t slcs then .slc sz n (rowFnD ds) else .sl sz n (rowFnD ds)),cat p q) else none
   else none
 |_=>none
noncomputable def vcR1 (P:Program)(T:Tab)(m:Mem)(e:Env)(o:Oper)(K:AV->Prop):Prop :=
 match evRead T e m o.op with
 |some (v,l)=>obs l (frc v K)
 | none=>match evFresh T e o.op with
  |some (v,l)=>obs l (frc v K)
  | none=>match o.op with
   | .call { callee:=.value f,args,.. }=>match strip (ev e f) with
    |(fn,p)=>match stripAll e args.toList with
     |(as,q)=>obs (cat p q) (QCall P fn as fun v=>Ev (K v))
   | .build t parts=>match stripParts (evParts e parts.toList) with
    |(l0,p)=>match evBuildArr T m t l0 with
     |some (A,q)=>obs (cat p q) (frc A K)
     |none=>False
   |_=>False
noncomputable def vcR (P:Program)(T:Tab)(full:List Oper)(m:Mem)(ops:List Oper):Env->(Env->Prop)->Prop :=
 List.rec (motive:=fun _=>Env->(Env->Prop)->Prop) (fun env K=>K env) (fun o _ ih env K=>match o.guard with
  |none=>vcR1 P T m (sel env (tmpsOf o.op)) o fun v=>setD env o.dst v fun env=>ih env K
  | some (j,want)=>match guardOf full (sel env (gTmp full (some (j,want)))) j want with
   |none=>False
   |some g=>match evRead T (sel env (tmpsOf o.op)) m o.op with
    |some (v,l)=>obs (under g l) (frc v fun v=>setD env o.dst (.gd g v) fun env=>ih env K)
    |none=>Br g (Ev (vcR1 P T m (sel env (tmpsOf o.op)) o fun v=>setD env o.dst v fun env=>ih env K)) (Ev (setD env o.dst (.gd false (.d (.bool false))) fun env=>ih env K))) ops
theorem vcR_cons (P:Program)(T:Tab)(full:List Oper)(m:Mem)(o:Oper)(rest:List Oper)(env:Env)(K:Env->Prop):vcR P T full m (o::rest) env K=match o.guard with
  |none=>vcR1 P T m (sel env (tmpsOf o.op)) o fun v=>setD env o.dst v fun env=>vcR P T full m rest env K
  | some (j,want)=>match guardOf full (sel env (gTmp full (some (j,want)))) j want with
   |none=>False
   |some g=>match evRead T (sel env (tmpsOf o.op)) m o.op with
    |some (v,l)=>obs (under g l) (frc v fun v=>setD env o.dst (.gd g v) fun env=>vcR P T full m rest env K)
    |none=>Br g (Ev (vcR1 P T m (sel env (tmpsOf o.op)) o fun v=>setD env o.dst v fun env=>vcR P T full m rest env K)) (Ev (setD env o.dst (.gd false (.d (.bool false))) fun env=>vcR P T full m rest env K)):=rfl
def edgeOn (es:List Edge)(j:Nat):Bool:=es.any fun e=>Nat.beq e.on j&&Region.binds .any e
def defsOk (t i:Nat)(es:List Edge):Nat->List Oper->Bool
 |_,[]=>true
 |j,o::r=>(match o.dst with
  |some d=>bif Nat.beq d t then(Nat.blt j i&&edgeOn es j)||(Nat.beq j i||(Nat.blt i j&&edgeOn o.after.toList i)) else true
  |none=>true)&&defsOk t i es (j+1) r
def dstOnce (d i:Nat):Nat->List Oper->Bool
 |_,[]=>true
 |j,o::r=>(match o.dst with
  |some d'=>bif Nat.beq d' d then Nat.beq j i else true
  |none=>true)&&dstOnce d i (j+1) r
def okFrom (full:List Oper):Nat->List Oper->Bool
 |_,[]=>true
 |i,o::r=>(o.after.toList.all fun e=>!Region.binds .any e||Nat.blt e.on i)&&((match o.dst with
  |some d=>dstOnce d i 0 full
  |none=>true)&&((app2 (tmpsOf o.op) (gTmp full o.guard)).all fun t=>defsOk t i o.after.toList 0 full))&&okFrom full (i+1) r
def okR (full:List Oper):Bool:=okFrom full 0 full
theorem Grew.drew {w:World}{F:Nat->Prop}(h:∀b,F b->b<w.heap.size):Grew F w F {w with drawn:=w.drawn+1}:=⟨rfl,rfl,rfl,Nat.le_succ _,Nat.le_refl _,fun _ _=>rfl,fun _ h=>h,fun _ h=>.inl h,h⟩
theorem Grew.refl {w:World}{F:Nat->Prop}(h:∀b,F b->b<w.heap.size):Grew F w F w:=⟨rfl,rfl,rfl,Nat.le_refl _,Nat.le_refl _,fun _ _=>rfl,fun _ h=>h,fun _ h=>.inl h,h⟩
theorem Grew.trans {w w1 w2:World}{F F1 F2:Nat->Prop}(hg:Grew F w F1 w1)(hg2:Grew F1 w1 F2 w2):Grew F w F2 w2 :=
 ⟨hg2.os.trans hg.os,hg2.tape.trans hg.tape,hg2.output.trans hg.output,Nat.le_trans hg.drawn hg2.drawn,Nat.le_trans hg.size hg2.size,fun b hb=>(hg2.keep b (Nat.lt_of_lt_of_le hb hg.size)).trans (hg.keep b hb),fun b hb=>hg2.fro b (hg.fro b hb),
  fun b hb=>by
   rcases hg2.fro' b hb with h3|h3
   .exact hg.fro' b h3
   .exact .inr (Nat.le_trans hg.size h3),hg2.lt⟩
theorem mem_app2 {x:Nat}:∀{a b:List Nat},x∈app2 a b↔x∈a\/x∈b
 |[],b=>by simp[app2]
 |y::r,b=>by simp[app2,mem_app2 (a:=r),or_assoc]
section
variable {P:Program}{T:Tab}
def YieldR (P:Program)(σ:Pls)(F:Nat->Prop)(w:World)(A:AV):Result Next->Prop
 | .ok (.value u) w2=>∃F2,Grew F w F2 w2/\Vc w2 F2 σ A u
 | .ok (.enter f args) w2=>w2=w/\Calls P f args w fun e w3=>∃u F3,e=.returned u/\Grew F w F3 w3/\Vc w3 F3 σ A u
 |_=>False
def Does1 (P:Program)(m:Mem)(σ:Pls)(o:Oper)(e:Env)(A:AV):Prop :=
 ∀(F:Nat->Prop) (w:World) (a:Act),MemOk m σ F w->EnvOk e w F σ a.tmps->YieldR P σ F w A ((execOp a.eval o).run P w)
theorem allD_rows:∀{rows:List (List AV)} {ds:List (List D)},allRows rows=some ds->rows.length=ds.length/\∀(i:Nat) (h:i<rows.length) (h':i<ds.length),rows[i]=up ds[i]
 |[],ds,h=>by simp[allRows]at h;subst h;exact⟨rfl,fun i h=>by simp at h⟩
 |c::r,ds,h=>by
  simp only[allRows]at h
  split at h<;>try (cases h;done)
  rename_i x hx
  split at h<;>try (cases h;done)
  rename_i l hl
  injection h with h
  subst h
  obtain⟨h1,h2⟩:=allD_rows hl
  refine⟨by simp[h1],fun i hi hi'=>?_⟩
  cases i with
  |zero=>exact allD_eq0 hx
  |succ i=>exact h2 i (by simpa using hi) (by simpa using hi')
theorem nthD_eq:∀{l:List (List D)} {i:Nat} (hi:i<l.length),nthD l i=l[i]
 |c::r,0,_=>rfl
 |c::r,i+1,hi=>by simpa[nthD] using nthD_eq (l:=r) (i:=i) (by simpa using hi)
theorem rowFnD_eq {l:List (List D)}{i:Nat}(hi:i<l.length):rowFnD l i=l[i]:=by
 unfold rowFnD
 split
 .simp at hi
  subst hi
  rfl
 .exact nthD_eq hi
theorem allDP_at:∀{l:List (Nat × AV)},allDP l=true->∀(j:Nat) B,l[j]?=some B->∃x,B.2=.d x
 |[],_,j,B,h=>by simp at h
 |(i,.d x)::r,h,j,B,hB=>by
  cases j with
  |zero=>simp at hB;subst hB;exact⟨x,rfl⟩
  |succ j=>exact allDP_at (l:=r) h j B (by simpa using hB)
 |(_,.agg _)::_,h,_,_,_=>by simp[allDP]at h
 |(_,.tup _)::_,h,_,_,_=>by simp[allDP]at h
 |(_,.ifc _ _)::_,h,_,_,_=>by simp[allDP]at h
 |(_,.fn _ _ _)::_,h,_,_,_=>by simp[allDP]at h
 |(_,.ptr _ _ _ _)::_,h,_,_,_=>by simp[allDP]at h
 |(_,.osl _ _ _ _)::_,h,_,_,_=>by simp[allDP]at h
 |(_,.mp _)::_,h,_,_,_=>by simp[allDP]at h
 |(_,.gd _ _)::_,h,_,_,_=>by simp[allDP]at h
 |(_,.junk)::_,h,_,_,_=>by simp[allDP]at h
section
variable {w:World}{F:Nat->Prop}{σ:Pls}{m:Mem}
theorem osl_data (hm:MemOk m σ F w){F':Nat->Prop}(hF:∀b,F b->F' b){r:Ref}{g off n:Nat}{v:Value}(h:Vc w F σ (.osl r g off n) v){e sz k:Nat}{f:Nat->List AV}{f':Nat->List D}
  (hB:m.get r=some (.vec e sz g k f)) (hk:off+n<=k) (hf:∀i,i<k->f i=up (f' i)) (hF':∀pl b tot,σ r=some (some pl)->pl.loc=some (b,tot)->F' b):Rd w F' (.sl sz n fun i=>f' (off+i)) v:=by
 have up':∀{y:D} {u:Value},Rd w F y u->Rd w F' y u:=fun h=>h.mono hF (fun _ _=>rfl)
 obtain⟨pl,hr,hok,_,hat⟩:=osl_row hm h (Mem.get_at hB)
 obtain⟨h0,hsz,hn0,hrow,hl⟩:=hok
 have hsl:=hat h0
 unfold SlAt at hsl
 split at hsl
 .obtain⟨rfl,_,rfl⟩:=hsl
  exact .sl ⟨0,0,none⟩ (fun _ _=>undef) (Nat.le_refl _) (fun h=>absurd h Om) (fun i hi=>absurd hi Om) (fun i j hi=>absurd hi Om) (fun i j x hi=>absurd hi Om)
 .rename_i b tot hloc
  obtain⟨B,cap,rfl,hnc,hoc,hA⟩:=hsl
  obtain⟨hnt,htm,us,hheap,hlen,hvc⟩:=hl b tot hloc
  have hlen':∀i,i<n->(f' (off+i)).length=sz:=fun i hi=>by
   have:=hrow (off+i) Om
   rw[hf _ Om,up_eq,List.length_map]at this
   exact this
  have hcell:∀i j,i<n->j<sz->∃u,us[(off+i)*sz+j]?=some u/\u.oneCell'=true/\∀x,(f' (off+i))[j]?=some x->Rd w F x u:=fun i j hi hj=>by
   have hx:(f' (off+i))[j]?=some ((f' (off+i))[j]'(by rw[hlen' i hi];exact hj)):=List.getElem?_eq_getElem _
   obtain⟨u,hu,hv,h1⟩:=hvc (off+i) j (.d _) Om (by rw[hf _ Om,up_eq,List.getElem?_map,hx];rfl)
   refine⟨u,hu,h1,fun x hx'=>?_⟩
   rw[hx]at hx'
   injection hx' with hx'
   subst hx'
   cases hv with|d hv=>exact hv
  refine .sl ⟨b,off*sz,none⟩ (fun i j=>us.getD ((off+i)*sz+j) undef) hnc (fun hn=>⟨by rw[hA (.inl Om),hsz],hF' pl b tot hr hloc⟩) hlen' (fun i j hi hj=>?_) (fun i j x hi hx=>?_)
  .obtain⟨u,hu,h1,_⟩:=hcell i j hi hj
   rw[add_at,cell_of_row w b _ us.toArray e (0,0) hheap]
   have e1:off*sz+(i*sz+j)=(off+i)*sz+j:=by rw[Nat.add_mul];omega
   rw[e1]
   simp[hu,h1]
  .have hj:j<sz:=by rw[<-hlen' i hi];exact(List.getElem?_eq_some_iff.1 hx).1
   obtain⟨u,hu,_,h2⟩:=hcell i j hi hj
   simp only[List.getD_eq_getElem?_getD,hu,Option.getD_some]
   exact up' (h2 x hx)
end
theorem memNone {F:Nat->Prop}{w:World}(hf:∀b,F b->b<w.heap.size)(hg:GOk F w):MemOk ⟨[],[]⟩ (fun _=>none) F w where
 dom r:=by cases r<;>simp[Mem.at]
 lv r q h:=by cases h
 inj r r' pl pl' b t t' h:=by cases h
 nf r pl b t h:=by cases h
 fl:=hf
 gl:=hg
theorem evFresh_ok (hT:TabOk P T){m:Mem}{σ:Pls}{e:Env}{o:Oper}{A:AV}{l:List Prop}(h:evFresh T e o.op=some (A,l))(hl:∀p∈l,p):Does1 P m σ o e A:=by
 intro F w a hm he
 unfold evFresh at h
 split at h<;>try (cases h;done)
 rename_i t n parts hop
 split at h
 rename_i l0 p hsp
 cases hdp:allDP l0 with
 |false=>rw[hdp]at h;cases h
 | true =>
  rw[hdp]at h
  simp only[cond_true]at h
  split at h<;>try (cases h;done)
  rename_i e0 sz hel
  split at h<;>try (cases h;done)
  rename_i rows q hrows
  split at h<;>try (cases h;done)
  rename_i ds hds
  cases hc:(Nat.beq (countR rows) n&&Nat.ble (n*sz) 65536) with
  |false=>rw[hc]at h;cases h
  | true =>
   rw[hc]at h
   simp only[cond_true,Option.some.injEq,Prod.mk.injEq]at h
   obtain⟨rfl,rfl⟩:=h
   obtain⟨hp,hq⟩:=all_cat hl
   have hm0:=memNone hm.fl hm.gl
   have hev:evBuildSlice T ⟨[],[]⟩ t n l0=some (.osl (.loc 0) 0 0 n,⟨[some (.vec e0 sz 0 n (rowFn rows))],[]⟩,q):=by
    unfold evBuildSlice
    rw[hel]
    simp only
    rw[hrows]
    simp only[hc,cond_true]
    rfl
   obtain⟨k1,k2⟩:=evParts_ok he parts.toList
   have hfst:=stripParts_fst (evParts e parts.toList)
   rw[hsp]at hfst
   obtain⟨u,w',σ',g1,g2,g3,g4,g5,hcap⟩:=evBuildSlice_ok (a:=a) (parts:=parts) hT hm0 (k1.trans hfst.symm) (fun j B u hB hu=>by
    obtain⟨A',hA',hv⟩:=stripParts_ok (w:=w) (F:=F) (σ:=σ) (evParts e parts.toList) (by rw[hsp];exact hp) j B (by rw[hsp];exact hB)
    have:=hv u.2 (k2 j A' u hA' hu)
    obtain⟨x,hx⟩:=allDP_at hdp j B hB
    rw[hx]at this⊢
    cases this with|d h=>exact .d h) hev hq
   simp only[Bool.and_eq_true,countR_eq]at hc
   have hn:=Nat.eq_of_beq_eq_true hc.1
   obtain⟨e1,e2⟩:=allD_rows hds
   have hrun:(execOp a.eval o).run P w=.ok (.value u) w':=by simp[execOp,hop,g1]
   rw[hrun]
   let F2:Nat->Prop:=fun b=>F b\/w.heap.size<=b/\b<w'.heap.size
   have hk:∀b,b<w.heap.size->w'.heap[b]?=w.heap[b]?:=fun b hb=>g4.keep b hb (fun⟨r,pl,t,h,_⟩=>by cases h)
   have hrd:=osl_data (F':=F2) (e:=e0) (sz:=sz) (k:=n) (f:=rowFn rows) (f':=rowFnD ds) g3 (fun b hb=>.inl hb) g2 rfl Om (fun i hi=>by
    rw[rowFn_eq Om,rowFnD_eq Om]
    exact e2 i Om Om) (fun pl b tot h1 h2=>by
     have hb:=g3.nf _ pl b tot h1 h2
     rcases g4.own b ⟨_,pl,tot,h1,h2⟩ with ⟨_,_,_,h,_⟩|h
     .cases h
     .exact .inr ⟨h,hb.2⟩)
   refine⟨F2,⟨g4.os,g4.tape,g4.output,g4.drawn,g4.size,hk,fun b hb=>.inl hb,fun b hb=>hb.elim .inl (fun h=>.inr h.1),fun b hb=>?_⟩,.d ?_⟩
   .rcases hb with hb|hb
    .exact Nat.lt_of_lt_of_le (hm.fl b hb) g4.size
    .exact hb.2
   .have e3:(fun i=>rowFnD ds (0+i))=rowFnD ds:=by funext i;rw[Nat.zero_add]
    rw[e3]at hrd
    cases memN t slcs with
    |false=>exact hrd
    |true =>
     obtain⟨A0,rfl⟩:=hcap
     exact .slc hrd
theorem evRead_does (hT:TabOk P T){m:Mem}{σ:Pls}{e:Env}{o:Oper}{A:AV}{l:List Prop}(h:evRead T e m o.op=some (A,l))(hl:∀p∈l,p):Does1 P m σ o e A:=by
 intro F w a hm he
 obtain⟨u,hu,hrun⟩:=evRead_ok hT hm he h hl
 rw[hrun w (Agree.refl F σ w)]
 exact⟨F,Grew.refl hm.fl,hu⟩
theorem vcR1_okA (hT:TabOk P T){m:Mem}{e:Env}{o:Oper}{K:AV->Prop}(h:vcR1 P T m e o K):∃A,K A/\∀σ:Pls,Does1 P m σ o e A:=by
 unfold vcR1 at h
 split at h
 .rename_i v l hr
  obtain⟨hl,h⟩:=obs_ok h
  rw[frc_eq]at h
  exact⟨v,h,fun σ=>evRead_does hT hr hl⟩
 .split at h
  .rename_i v l hr
   obtain⟨hl,h⟩:=obs_ok h
   rw[frc_eq]at h
   exact⟨v,h,fun σ=>evFresh_ok hT hr hl⟩
  .split at h<;>try (cases h;done)
   rotate_left
   .rename_i t parts hop
    split at h
    rename_i l0 p el
    split at h<;>try (cases h;done)
    rename_i A q hA
    obtain⟨hl,h⟩:=obs_ok h
    rw[frc_eq]at h
    refine⟨A,h,fun σ F w a hm he=>?_⟩
    obtain⟨h1,h2⟩:=all_cat hl
    obtain⟨hk1,hk2⟩:=evParts_ok he parts.toList
    obtain⟨u,g0,g1⟩:=evBuildArr_ok (a:=a) (parts:=parts) hT hm (hk1.trans (by have:=stripParts_fst (evParts e parts.toList);rw[el]at this;exact this.symm)) (fun j B u hB hu=>by
     obtain⟨A0,e1,e2⟩:=stripParts_ok (evParts e parts.toList) (by rw[el];exact h1) j B (by rw[el];exact hB)
     exact e2 _ (hk2 j A0 u e1 hu)) hA h2
    have hrun:(execOp a.eval o).run P w=.ok (.value u) w:=by simp[execOp,hop,g0]
    rw[hrun]
    exact⟨F,Grew.refl hm.fl,g1⟩
   rename_i f args at_ hop
   obtain⟨hl,h⟩:=obs_ok h
   obtain⟨id,xs,ys,das,res,hfn,has,hp,hk⟩:=h.q
   refine⟨resAV res,hk.o,fun σ F w a hm he=>?_⟩
   obtain⟨h1,h2⟩:=all_cat hl
   have hf:=strip_ok (ev_ok he f) h1
   have ha:=stripAll_ok he args.toList h2
   rw[hfn]at hf
   rw[has]at ha
   generalize hX:a.eval f=X at hf
   cases hf with
   | d hf=>cases hf with
    | @fn _ _ _ us vs l1 l2 r1 r2 =>
     have hcall:=hp.2 F w (us++args.toList.map a.eval++vs) hm.fl hm.gl (by simp[l1,l2];have:=ha.data.1;simp at this;omega) (fun j x u hx hu=>by
      have ha1:ArgsOk w F σ (up xs) us:=.ofD l1 r1
      have ha2:ArgsOk w F σ (up ys) vs:=.ofD l2 r2
      have hall:=((ha1.app ha).app ha2)
      have e:up xs++up das++up ys=up (xs++das++ys):=by simp[up_eq]
      rw[e]at hall
      exact hall.data.2 j x u hx hu)
     have hrun:(execOp a.eval o).run P w=.ok (.enter id (us++args.toList.map a.eval++vs).toArray) w:=by
      have e:us.toArray++Array.map a.eval args++vs.toArray=(us++args.toList.map a.eval++vs).toArray:=by apply Array.ext';simp
      simp only[execOp,hop,Sem.run_bind,resolve,Deferred.ofValue,hX,invoke,Sem.run_pure,Result.andThen_ok,e]
      exact run_callFunc hp.1 _ w
     rw[hrun]
     exact⟨rfl,hcall.mono fun e w2 ⟨v,F2,he2,hg2,hv⟩=>⟨v,F2,he2,hg2,hv σ⟩⟩
theorem vcR1_ok (hT:TabOk P T){m:Mem}{σ:Pls}{e:Env}{o:Oper}{K:AV->Prop}(h:vcR1 P T m e o K):∃A,K A/\Does1 P m σ o e A:=by
 obtain⟨A,h1,h2⟩:=vcR1_okA hT h
 exact⟨A,h1,h2 σ⟩
end
end Go.Ab
