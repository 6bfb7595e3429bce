import Derived.Test.YtkjmomadndmeaaaGreatDoorOpsH
import Derived.Test.YtkjmomadndmeaaaGreatDoorEngAS
namespace Go.Ab
set_option linter.unusedSimpArgs false
set_option linter.unusedVariables false
section
variable {P:Program}{T:Tab}{m:Mem}{env:Env}{K:AV->Mem->Prop}{o:Oper}
theorem op_append0 (hT:TabOk P T) {t:TypeId} {s x:Operand} (hop:o.op=.call { callee:=.builtin .append,args:=#[s,x],argTypes:=#[t,t] }) {e:TypeId} {sz:Nat} (he:elemOf T t=some (e,sz)) {sz' n:Nat} {f:Nat→List D} (hs:ev env s=.d (.slc sz' n f)) {sz2:Nat} {f2:Nat→List D} (hx:ev env x=.d (.sl sz2 0 f2)) (hK:K (.d (.slc sz' n f)) m):OpVC P o env m K :=
 ⟨fun c h=>(by rw [hop] at h;cases h),fun a w F σ hev hm=>by
  obtain⟨hu,hrs,te,hte,htsz⟩:=elemOf_ok hT he
  obtain⟨i,z,hi,his,hib,hz,hzs,hzsz⟩:=tiIs_info hte
  have hvs:=ev_ok hev s
  rw[hs]at hvs
  have hvx:=ev_ok hev x
  rw[hx]at hvx
  obtain⟨S,hS⟩:∃S,a.eval s=S:=⟨_,rfl⟩
  obtain⟨X,hX⟩:∃X,a.eval x=X:=⟨_,rfl⟩
  rw[hS]at hvs
  rw[hX]at hvx
  have hrx:Rd w F (.sl sz2 0 f2) X:=by cases hvx with|d h=>exact h
  have hrs2:Rd w F (.slc sz' n f) S:=by cases hvs with|d h=>exact h
  have hrun:(Builtin.append_ #[t,t] o.type #[S,X]).run P w=.ok S w:=by
   cases hrs2 with
   | @slc _ _ _ A h =>
     cases hrx with
     | @sl _ _ _ A2 cap2 a2 g2 hc2 ha2 hl2 hcell2 h2 =>
       have hfc:(Builtin.firstCells i.size 0 (.slice A2 0 cap2)).run P w=.ok #[] w:=by
        cases A2 with
        |none=>simp[Builtin.firstCells]
        |some b=>exact run_firstCells_some (P:=P) (w:=w) i.size 0 b 0 cap2 [] (by simp) (fun j v hj=>by simp at hj)
       cases A with
       |none=>simp[Builtin.append_,run_underlying hu,sizeOf,typeInfo,hi,Builtin.lenOf,hfc]
       |some b=>simp[Builtin.append_,run_underlying hu,sizeOf,typeInfo,hi,Builtin.lenOf,hfc,storeCells]
  refine⟨.value S,S,w,σ,F,_,_,?_,.inl rfl,hK,.d hrs2,hm,Step.refl σ F w,SLe.refl σ⟩
  simp[execOp,hop,resolve,invoke,builtin,hS,hX,hrun]⟩
end
section
variable {P:Program}{T:Tab}{m:Mem}{env:Env}{o:Oper}{ro:Option Nat}
def vcH (P:Program):List Oper->Env->Mem->(Env->Mem->Prop)->Prop
 |[],env,m,K=>K env m
 |o::r,env,m,K=>o.guard=none/\OpVC P o env m fun v m'=>setD env o.dst v fun env=>vcH P r env m' K
theorem OpVC.read (hT:TabOk P T){v:AV}{l:List Prop}{K:AV->Mem->Prop}(hr:evRead T env m o.op=some (v,l))(hl:∀p∈l,p)(hK:K v m):OpVC P o env m K :=
 ⟨fun c hc=>(by rw [hc,evRead_defer] at hr;cases hr),fun a w F σ he hm=>by
  obtain⟨u,hu,hrun⟩:=evRead_ok hT hm he hr hl
  exact⟨.value u,u,w,σ,F,v,m,hrun w (Agree.refl F σ w),.inl rfl,hK,hu,hm,Step.refl σ F w,SLe.refl σ⟩⟩
theorem vcH_ok {ops:Array Oper}{N:Nat}{K:Env->Mem->Prop}{Q:Exit->Act->World->Prop} :
 ∀ (rest:List Oper) (env:Env) (m:Mem),dstsIn N rest=true→vcH P rest env m K→∀ (a:Act) (w:World) (F:Nat→Prop) (σ:Pls),a.tmps.size=N→EnvOk env w F σ a.tmps→MemOk m σ F w →
   (∀env' m' a' w' σ' F',K env' m'->a'.tmps.size=N->a'.defers=a.defers->EnvOk env' w' F' σ' a'.tmps->MemOk m' σ' F' w'->Step σ F w σ' F' w'->SLe σ σ'->Q .normal a' w')->wpListIn (Fen ro) 0 P ops Q rest a w
 |[],env,m,_,h,a,w,F,σ,hN,he,hm,hn=>wpListIn_nil (hn env m a w σ F h hN rfl he hm (Step.refl σ F w) (SLe.refl σ))
 | o :: rest,env,m,hd,h,a,w,F,σ,hN,he,hm,hn=>by
   simp only[dstsIn,Bool.and_eq_true]at hd
   obtain⟨hg,hop⟩:=h
   refine wpListIn_plain hg fun K' hK'=>?_
   obtain⟨n,u,w',σ',F',A,m',hrun,hcase,hk,hu,hm',hs,hle⟩:=hop.run a w F σ he hm
   have he1:=he.mono (w':=w') hs.fro (hs.frozen hm) hle
   obtain⟨env',hk,he'⟩:=setD_ok hN hd.1 he1 hu hk
   have cont:wpListIn (Fen ro) 0 P ops Q rest (a.put o.dst u) w':=by
    refine vcH_ok rest env' m' hd.2 hk (a.put o.dst u) w' F' σ' (by rw[put_size];exact hN) he' hm' ?_
    intro env2 m2 a2 w2 σ2 F2 k1 k2 k3 k4 k5 k6 k7
    exact hn env2 m2 a2 w2 σ2 F2 k1 k2 (by rw[k3,put_defers]) k4 k5 (hs.trans k6) (fun r q hq=>by
     obtain⟨q1,h1,h2⟩:=hle r q hq
     obtain⟨q2,h3,h4⟩:=k7 r q1 h1
     exact⟨q2,h3,h2.trans h4⟩)
   refine wpIn_at hop.nd ?_
   rw[hrun]
   rcases hcase with rfl|⟨rfl,rfl⟩
   .rw[Oper.uponIn_value];exact hK' _ _ cont
   .rw[Oper.uponIn_skip];exact hK' _ _ cont
theorem Awp.hand {id N:Nat}{ops:Array Oper}{Q:Post}(hd:dstsIn N ops.toList=true)(h:vcH P ops.toList env m fun env m=>Ev (Q .normal env m)):Awp P N (.region id ops false) env m Q :=
 ⟨fun ro lo a w σ F hN hD he hm=>by
  refine wpIn_region_list (vcH_ok ops.toList env m hd h a w F σ hN he hm ?_)
  intro env' m' a' w' σ' F' k1 k2 k3 k4 k5 k6 k7
  exact⟨env',m',σ',F',k1.o,k2,by rw[k3];exact hD.step k6,k4,k5,k6,.of k7⟩⟩
end
end Go.Ab
