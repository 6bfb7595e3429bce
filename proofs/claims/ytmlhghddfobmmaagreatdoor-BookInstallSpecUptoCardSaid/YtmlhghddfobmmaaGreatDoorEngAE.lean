import Derived.Test.YtmlhghddfobmmaaGreatDoorEngS
import Derived.RangeFuncNested
namespace Go.Ab
set_option linter.unusedSimpArgs false
set_option linter.unusedVariables false
open Go.RowKit
theorem get_mem:∀(env:Env) (t:Nat),(∃j:Nat,env[j]?=some (t,get env t))\/get env t=.junk
 |[],t=>.inr rfl
 | (k,A) :: r,t=>by
  simp only[get]
  cases hk:Nat.beq k t with
  |true =>
   have:=Qh1 hk
   subst this
   exact .inl ⟨0,rfl⟩
  |false =>
   rcases get_mem r t with ⟨j,hj⟩|h
   .exact .inl ⟨j+1,by simpa using hj⟩
   .exact .inr h
def N3:List Nat->List AV->Env->Env
 |p::ps,A::as,e=>N3 ps as ((p,A)::e)
 |_,_,e=>e
theorem Iz {w:World}{F:Nat->Prop}{σ:Pls}:∀(ps:List Nat) (args:List AV) (Q5:List Value) (env:Env) (tmps:Array Value),Ql env w F σ tmps->(∀p∈ps,p<tmps.size)->Jt w F σ args Q5->ps.length=args.length ->
  Ql (N3 ps args env) w F σ ((ps.zip Q5).foldl (fun t (p:Nat × Value)=>t.setIfInBounds p.1 p.2) tmps)
 |[],args,Q5,env,tmps,he,_,_,_=>by simpa[N3] using he
 |p::ps,[],Q5,env,tmps,_,_,_,hl=>by simp at hl
 |p::ps,A::as,[],env,tmps,_,_,ha,_=>by have:=ha.1;simp at this
 |p::ps,A::as,v::Q5,env,tmps,he,hp,ha,hl=>by
  simp only[N3,List.zip_cons_cons,List.foldl_cons]
  refine Iz ps as Q5 ((p,A)::env) _ ?_ (fun q hq=>by rw[Array.size_setIfInBounds];exact hp q (by simp[hq])) ⟨by have:=ha.1;simpa using this,fun j B u hB hu=>ha.2 (j+1) B u (by simpa using hB) (by simpa using hu)⟩ (by simpa using hl)
  exact A5 (a:={tmps:=tmps,defers:=[]}) rfl (hp p (by simp)) he (ha.2 0 A v rfl rfl)
section
variable {P:Program}{m:Mem}
theorem Zc.frame {f:Nat}{as:List AV}{own:List (Option Blk)}{K0 K:AV->Mem->Prop}(h:Zc P f as ⟨[],own⟩ K0)(rs:List Ref)
  (hn:Xo rs=true) (hp:Z4 m (inn rs) rs own)
  (hk:∀A m0,K0 A m0->Qp m0.own=Qp own/\K (ren (out (Qp m.loc) rs) A) (back m rs m0)):Zc P f (Za (inn rs) as) m K:=by
 refine⟨fun σ F w Q5 hm ha=>?_⟩
 have hlen:=hp.len
 let σ0:Pls:=fun r=>σ (inn rs r)
 have hbad:σ .bad=none:=(hm.dom .bad).2 rfl
 have h0loc:∀j,σ0 (.loc j)=none:=fun j=>hbad
 have h0:∀r q,σ0 r=some q->∃j,r=.arg j/\j<rs.length/\σ (nth rs j)=some q:=fun r q hq=>by
  cases r with
  |loc j=>rw[h0loc]at hq;cases hq
  |bad=>rw[show σ0 .bad=none from hbad]at hq;cases hq
  | arg j =>
   refine⟨j,rfl,?_,hq⟩
   rcases Qi6 j rs.length with h'|h'
   .exact h'
   .have:σ0 (.arg j)=σ .bad:=by simp only[σ0,inn,M8 h']
    rw[this,hbad]at hq;cases hq
 have hownat:∀j,j<rs.length->∃b,own[j]?=some b/\m.at (nth rs j)=some (Xr (inn rs) b):=fun j hj=>by
  have:own[j]?=some own[j]:=Qgy Om
  exact⟨_,this,hp.get this⟩
 have hm0:Q3 ⟨[],own⟩ σ0 F w:=by
  refine⟨fun r=>?_,fun r q hq=>?_,fun r r' pl pl' b t t' e1 e2 e3 e4=>?_,fun r pl b t e1 e2=>?_,hm.fl,hm.gl⟩
  .cases r with
   |loc j=>simp[h0loc,Mem.at]
   |bad=>simp[show σ0 .bad=none from hbad,Mem.at]
   | arg j =>
    simp only[Mem.at]
    rcases Qi6 j rs.length with h'|h'
    .obtain⟨b,e1,e2⟩:=hownat j h'
     have hne:σ0 (.arg j)≠none:=fun e=>by
      have:=(hm.dom (nth rs j)).1 e
      rw[e2]at this;cases this
     rw[e1]
     constructor
     .intro e;exact absurd e hne
     .intro e;cases e
    .have e1:σ0 (.arg j)=none:=by simp only[σ0,inn,M8 h',hbad]
     rw[e1,Qht Om]
     exact⟨fun _=>rfl,fun _=>rfl⟩
  .obtain⟨j,rfl,hj,hq'⟩:=h0 r q hq
   obtain⟨b,e1,e2⟩:=hownat j hj
   obtain⟨l1,l2⟩:=hm.lv _ _ hq'
   refine⟨fun e=>?_,fun pl e=>?_⟩
   .have:=l1 e
    rw[e2]at this
    cases b with
    |none=>simpa[Mem.at] using e1
    |some B=>simp[Xr]at this
   .obtain⟨B,g1,g2⟩:=l2 pl e
    rw[e2]at g1
    cases b with
    |none=>simp[Xr]at g1
    |some B0 =>
     simp only[Xr,Qgz]at g1
     subst g1
     exact⟨B0,e1,g2.inn⟩
  .obtain⟨i,rfl,hi,e1'⟩:=h0 r _ e1
   obtain⟨j,rfl,hj,e2'⟩:=h0 r' _ e2
   have:=hm.inj _ _ _ _ _ _ _ e1' e2' e3 e4
   rw[M9 hn hi hj this]
  .obtain⟨j,rfl,hj,e1'⟩:=h0 r _ e1
   exact hm.nf _ _ _ _ e1' e2
 have ha0:Jt w F σ0 as Q5:=by
  obtain⟨a1,a2⟩:=ha
  rw[Zl]at a1
  exact⟨by simpa using a1,fun j A u hA hu=>(a2 j _ u (by rw[Zl,Qhe,hA];rfl) hu).inn rfl⟩
 obtain⟨fn,tmps,asg,bdy,hy,hr⟩:=h.run σ0 F w Q5 hm0 ha0
 refine⟨fn,tmps,asg,bdy,hy,hr.mono ?_⟩
 rintro e w' ⟨v,A,m1,σ1,F',he,hK,hv,hm1,hs,hle⟩
 obtain⟨hlo,hk⟩:=hk A m1 hK
 rw[V1,V1,<-hlen]at hlo
 rw[V1]at hk
 have hd:∀j,j<rs.length->∃x,m.at (nth rs j)=some x:=fun j hj=>by
  obtain⟨b,_,e2⟩:=hownat j hj
  exact⟨_,e2⟩
 obtain⟨b1,b2,b3⟩:=It (m:=m) (rs:=rs) (m0:=m1) hn hd hlo
 let ρ:=out m.loc.length rs
 -- the names that the callee's result speaks of,and those that it does not
 have hcase:∀r,(∃s,ρ s=r/\m1.at s≠none)\/(Va r rs=false/\(∀j,r≠.loc (m.loc.length+j)))\/(∃j,r=.loc (m.loc.length+j)/\m1.loc[j]?=none):=fun r=>by
  cases hr:Va r rs with
  |true =>
   obtain⟨j,hj,rfl⟩:=Ed hr
   refine .inl ⟨.arg j,rfl,?_⟩
   simp only[Mem.at]
   rw[Qgy Om]
   simp
  | false =>
   by_cases hl:∃j,r=.loc (m.loc.length+j)
   .obtain⟨j,rfl⟩:=hl
    cases hj:m1.loc[j]? with
    |none=>exact .inr (.inr ⟨j,rfl,hj⟩)
    |some b=>exact .inl ⟨.loc j,rfl,by simp[Mem.at,hj]⟩
   .exact .inr (.inl ⟨rfl,fun j e=>hl ⟨j,e⟩⟩)
 have hρinj:∀s s',m1.at s≠none->m1.at s'≠none->ρ s=ρ s'->s=s':=fun s s' h1 h2 e=>by
  have key:∀j,m1.at (.arg j)≠none->j<rs.length:=fun j h=>by
   rw[<-hlo]
   rcases Qi6 j m1.own.length with h'|h'
   .exact h'
   .exact absurd (by simp only[Mem.at];exact Qht h') h
  have hnl:∀j,j<rs.length->∀i,nth rs j≠.loc (m.loc.length+i):=fun j hj i e=>by
   obtain⟨x,hx⟩:=hd j hj
   rw[e]at hx
   simp[Mem.at]at hx
  cases s with
  |bad=>exact absurd rfl h1
  |loc i=>cases s' with
   |bad=>exact absurd rfl h2
   |loc j=>simp[ρ,out]at e;rw[e]
   |arg j=>exact absurd e.symm (hnl j (key j h2) i)
  |arg i=>cases s' with
   |bad=>exact absurd rfl h2
   |loc j=>exact absurd e (hnl i (key i h1) j)
   |arg j=>rw[M9 hn (key i h1) (key j h2) e]
 classical
 let σ':Pls:=fun r=>if h:∃s,ρ s=r/\m1.at s≠none then σ1 (Classical.choose h) else σ r
 have hin:∀s,m1.at s≠none->σ' (ρ s)=σ1 s:=fun s hs'=>by
  have hex:∃s',ρ s'=ρ s/\m1.at s'≠none:=⟨s,rfl,hs'⟩
  simp only[σ',hex,dif_pos]
  obtain⟨g1,g2⟩:=Classical.choose_spec hex
  rw[hρinj _ _ g2 hs' g1]
 have hlive:∀s q,σ1 s=some q->m1.at s≠none:=fun s q h e=>by
  rw[(hm1.dom s).2 e]at h;cases h
 have hin':∀s q,σ1 s=some q->σ' (ρ s)=some q:=fun s q hq=>by rw[hin s (hlive s q hq),hq]
 have hold:∀r,¬ (∃s,ρ s=r/\m1.at s≠none)->σ' r=σ r:=fun r h=>by simp only[σ',h,dif_neg,not_false_eq_true]
 have hown0:∀b,Qm σ0 b->Qm σ b:=fun b ⟨r,pl,t,e1,e2⟩=>⟨_,pl,t,e1,e2⟩
 have hown1:∀b,Qm σ1 b->Qm σ0 b\/w.heap.size<=b:=hs.own
 -- an old name that the callee was not handed
 have holdn:∀r q,¬ (∃s,ρ s=r/\m1.at s≠none)->σ r=some q->Va r rs=false/\(∀j,r≠.loc (m.loc.length+j)):=fun r q hne hq=>by
  rcases hcase r with h1|h1|⟨j,rfl,hj⟩
  .exact absurd h1 hne
  .exact h1
  .have:=(hm.dom (.loc (m.loc.length+j))).2 (by simp[Mem.at])
   rw[this]at hq;cases hq
 have hnown:∀r pl b t,Va r rs=false->σ r=some (some pl)->pl.loc=some (b,t)->¬ Qm σ0 b:=fun r pl b t hr e1 e2 ⟨s,pl',t',g1,g2⟩=>by
  obtain⟨j,rfl,hj,g1'⟩:=h0 s _ g1
  have:=hm.inj _ _ _ _ _ _ _ e1 g1' e2 g2
  rw[this,Lf hj]at hr
  cases hr
 have hsle:SLe σ σ':=fun r q hq=>by
  by_cases hex:∃s,ρ s=r/\m1.at s≠none
  .obtain⟨s,rfl,hs'⟩:=hex
   rw[hin s hs']
   cases s with
   |bad=>exact absurd rfl hs'
   |loc j =>
    have:=(hm.dom (.loc (m.loc.length+j))).2 (by simp[Mem.at])
    rw[show ρ (.loc j)=.loc (m.loc.length+j) from rfl,this]at hq
    cases hq
   |arg j=>exact hle (.arg j) q hq
  .rw[hold r hex]
   exact⟨q,hq,QLe.refl q⟩
 have hfkeep:∀b,F b->w'.heap[b]?=w.heap[b]?:=fun b hb=>hs.keep b (hm.fl b hb) fun⟨r,pl,t,e1,e2⟩=>(hm.nf _ pl b t e1 e2).1 hb
 have hm':Q3 (back m rs m1) σ' F' w':=by
  refine⟨fun r=>?_,fun r q hq=>?_,fun r r' pl pl' b t t' e1 e2 e3 e4=>?_,fun r pl b t e1 e2=>?_,hm1.fl,hm1.gl⟩
  .rcases hcase r with ⟨s,rfl,hs'⟩|h1|⟨j,rfl,hj⟩
   .rw[hin s hs',hm1.dom s]
    cases hb:m1.at s with
    |none=>exact absurd hb hs'
    |some b=>rw[b2 s b hb];simp
   .rw [b1 r h1.1 h1.2,← hm.dom r]
    have:¬ (∃s,ρ s=r/\m1.at s≠none):=fun⟨s,e,hs'⟩=>by
     subst e
     cases s with
     |bad=>exact absurd rfl hs'
     |loc j=>exact h1.2 j rfl
     | arg j =>
      have:j<rs.length:=by
       rw[<-hlo]
       rcases Qi6 j m1.own.length with h'|h'
       .exact h'
       .exact absurd (by simp only[Mem.at];exact Qht h') hs'
      have h2:=h1.1
      rw[show ρ (.arg j)=nth rs j from rfl,Lf this]at h2
      cases h2
    rw[hold r this]
   .rw [b3 j hj]
    have:¬ (∃s,ρ s=.loc (m.loc.length+j)/\m1.at s≠none):=fun⟨s,e,hs'⟩=>by
     cases s with
     |bad=>exact absurd rfl hs'
     |loc i =>
      simp[ρ,out]at e
      subst e
      exact hs' hj
     | arg i =>
      have hi:i<rs.length:=by
       rw[<-hlo]
       rcases Qi6 i m1.own.length with h'|h'
       .exact h'
       .exact absurd (by simp only[Mem.at];exact Qht h') hs'
      obtain⟨x,hx⟩:=hd i hi
      rw[show nth rs i=.loc (m.loc.length+j) from e]at hx
      simp[Mem.at]at hx
    rw[hold _ this,hm.dom]
    simp[Mem.at]
  .by_cases hex:∃s,ρ s=r/\m1.at s≠none
   .obtain⟨s,rfl,hs'⟩:=hex
    rw[hin s hs']at hq
    obtain⟨l1,l2⟩:=hm1.lv s q hq
    refine⟨fun e=>by rw[b2 s none (l1 e)];rfl,fun pl e=>?_⟩
    obtain⟨B,g1,g2⟩:=l2 pl e
    exact⟨Mh ρ B,by rw[b2 s _ g1];rfl,g2.out hin'⟩
   .rw[hold r hex]at hq
    obtain⟨n1,n2⟩:=holdn r q hex hq
    obtain⟨l1,l2⟩:=hm.lv r q hq
    rw[b1 r n1 n2]
    refine⟨l1,fun pl e=>?_⟩
    obtain⟨B,g1,g2⟩:=l2 pl e
    refine⟨B,g1,g2.mono hs.fro hfkeep hsle fun b t hl=>?_⟩
    subst e
    exact hs.keep b (hm.nf r pl b t hq hl).2 (hnown r pl b t n1 hq hl)
  .have mixed:∀s r' pl pl' b t t',m1.at s≠none->¬ (∃s,ρ s=r'/\m1.at s≠none)->σ1 s=some (some pl)->σ r'=some (some pl')->pl.loc=some (b,t)->pl'.loc=some (b,t')->False:=by
    intro s r' pl pl' b t t' hs' hne e1 e2 e3 e4
    obtain⟨n1,n2⟩:=holdn r' _ hne e2
    rcases hown1 b ⟨s,pl,t,e1,e3⟩ with h1|h1
    .exact hnown r' pl' b t' n1 e2 e4 h1
    .have:=(hm.nf r' pl' b t' e2 e4).2;omega
   by_cases hex:∃s,ρ s=r/\m1.at s≠none
   .obtain⟨s,rfl,hs'⟩:=hex
    rw[hin s hs']at e1
    by_cases hex':∃s,ρ s=r'/\m1.at s≠none
    .obtain⟨s',rfl,hs2⟩:=hex'
     rw[hin s' hs2]at e2
     rw[hm1.inj _ _ _ _ _ _ _ e1 e2 e3 e4]
    .rw[hold r' hex']at e2
     exact(mixed s r' pl pl' b t t' hs' hex' e1 e2 e3 e4).elim
   .rw[hold r hex]at e1
    by_cases hex':∃s,ρ s=r'/\m1.at s≠none
    .obtain⟨s',rfl,hs2⟩:=hex'
     rw[hin s' hs2]at e2
     exact(mixed s' r pl' pl b t' t hs2 hex e2 e1 e4 e3).elim
    .rw[hold r' hex']at e2
     exact hm.inj _ _ _ _ _ _ _ e1 e2 e3 e4
  .by_cases hex:∃s,ρ s=r/\m1.at s≠none
   .obtain⟨s,rfl,hs'⟩:=hex
    rw[hin s hs']at e1
    exact hm1.nf s pl b t e1 e2
   .rw[hold r hex]at e1
    obtain⟨n1,n2⟩:=holdn r _ hex e1
    obtain⟨g1,g2⟩:=hm.nf r pl b t e1 e2
    refine⟨fun hb=>?_,Qic g2 hs.size⟩
    rcases hs.fro' b hb with h1|h1|h1
    .exact g1 h1
    .exact hnown r pl b t n1 e1 e2 h1
    .omega
 refine⟨v,ren ρ A,back m rs m1,σ',F',he,hk,hv.out hin',hm',⟨hs.os,hs.tape,hs.output,hs.drawn,hs.size,fun b hb hn'=>hs.keep b hb fun h=>hn' (hown0 b h),hs.fro,fun b hb=>?_,fun b ⟨r,pl,t,e1,e2⟩=>?_⟩,hsle⟩
 .rcases hs.fro' b hb with h1|h1|h1
  .exact .inl h1
  .exact .inr (.inl (hown0 b h1))
  .exact .inr (.inr h1)
 .by_cases hex:∃s,ρ s=r/\m1.at s≠none
  .obtain⟨s,rfl,hs'⟩:=hex
   rw[hin s hs']at e1
   rcases hown1 b ⟨s,pl,t,e1,e2⟩ with h1|h1
   .exact .inl (hown0 b h1)
   .exact .inr h1
  .rw[hold r hex]at e1
   exact .inl ⟨r,pl,t,e1,e2⟩
theorem Zc.at {f:Nat}{as:List AV}{own:List (Option Blk)}{S:Type}{enc:S->List AV × Mem}{J:S->Prop}{K:AV->Mem->Prop}(h:Zc P f as ⟨[],own⟩ (Ret enc J))(rs:List Ref)
  (hn:Xo rs=true) (hp:Z4 m (inn rs) rs own)
  (hk:∀s,J s->Qp (enc s).2.own=Qp own/\Ev (frc (ren (out (Qp m.loc) rs) (W9 (enc s).1)) fun A=>Gt (back m rs (enc s).2) fun m=>K A m)):Zc P f (Za (inn rs) as) m K :=
 h.frame rs hn hp fun A m0 ⟨s,hJ,e1,e2⟩=>by
  subst e1;subst e2
  have:=hk s hJ
  rw[Ya,Ns]at this
  exact⟨this.1,this.2.o⟩
end
def Lb:Exit->Option (Option Code)
 | .normal=>some none
 | .ret=>some (some .ret)
 | .exit i=>some (some (.exit i))
 | .goto l=>some (some (.goto l))
 |_=>none
def Ic {S:Type}(E:S->List (Option Blk))(jump:S->Option Code)(J:S->Prop)(n:Nat):Ja:=fun e _ m=>∃s,J s/\Lb e=some (jump s)/\Qp (E s)=n/\Le [] m [] ⟨[],E s⟩
def Q58 {S:Type}(P:Program)(N:Nat)(body:Code)(E:S->List (Option Blk))(jump:S->Option Code)(J:S->Prop)(n:Nat):Ja:=fun e env m=>match e with
 | .normal=>Awp P N body env m (Ic E jump J n)
 |_=>False
def after (r:Loop)(j:Option Code):Loop:={r with state:=if j.isNone then .ready else .done,pending:=j}
theorem Mw {P:Program} {b N:Nat} {r:Loop} {env0:Env} {bs:List (Option Blk)} {args:List AV} {ps:List Nat} {assign body:Code} {S:Type} (E:S→List (Option Blk)) (jump:S→Option Code) (J:S→Prop)
  (hst:r.state=.ready) (hN:r.tmps.size=N) (hps:r.params=ps.toArray) (has:r.assign=assign) (hbo:r.body=body)
  (hal:ps.length=args.length) (hlt:∀p∈ps,p<N)
  (hbs:LeL 0 (Qp bs) bs bs) (hen:Wv 0 (Qp bs) (env0.map (·.2))=true) (har:Wv 0 (Qp bs) args=true)
  (h:Awp P N assign (N3 ps args env0) ⟨[],bs⟩ (Q58 P N body E jump J (Qp bs))) :
  Zc P b args ⟨[],bs++[some (.loop b r env0)]⟩ (Ret (fun s=>([.d (.bool (jump s).isNone)],⟨[],E s++[some (.loop b (after r (jump s)) env0)]⟩)) J):=by
 refine⟨fun σ F w Q5 hm ha=>?_⟩
 rw[V1]at hbs hen har h
 generalize hj:bs.length=j at hbs hen har h
 have hatj:(bs++[some (Blk.loop b r env0)])[j]?=some (some (.loop b r env0)):=by rw[<-hj];simp
 have hlow:∀i,i<j->(bs++[some (Blk.loop b r env0)])[i]?=bs[i]?:=fun i hi=>Qhj Om
 have hhigh:∀i,j<i->(bs++[some (Blk.loop b r env0)])[i]?=none/\bs[i]?=none:=fun i hi=>⟨Qht (by simp;omega),Qht Om⟩
 obtain⟨pl,hpl,hok⟩:∃pl,σ (.arg j)=some (some pl)/\Jx w F σ (.loop b r env0) pl:=by
  cases hq:σ (.arg j) with
  |none =>
   have:=(hm.dom (.arg j)).1 hq
   simp only[Mem.at]at this
   rw[hatj]at this
   cases this
  | some q =>
   obtain⟨h1,h2⟩:=hm.lv (.arg j) q hq
   cases q with
   |none =>
    have:=h1 rfl
    simp only[Mem.at]at this
    rw[hatj]at this
    cases this
   |some pl =>
    obtain⟨B,hB,hok⟩:=h2 pl rfl
    simp only[Mem.at]at hB
    rw[hatj]at hB
    cases hB
    exact⟨pl,rfl,hok⟩
 obtain⟨hg,hloc,hheap,hentries⟩:=hok
 have hFb:¬ F b:=(hm.nf _ pl b 1 hpl hloc).1
 have hbl:b<w.heap.size:=(hm.nf _ pl b 1 hpl hloc).2
 let σ1:Pls:=fun rf=>if rf=.arg j then none else σ rf
 have hs1:∀rf,rf≠.arg j->σ1 rf=σ rf:=fun rf h=>if_neg h
 have hsub:∀rf q,Yg 0 j rf=true->σ rf=some q->∃q',σ1 rf=some q'/\QLe q q':=fun rf q hr hq=>by
  refine⟨q,?_,QLe.refl q⟩
  rw[hs1 rf (fun e=>by subst e;simp[Yg]at hr),hq]
 have hown1:∀rf pl' c t,σ1 rf=some (some pl')->pl'.loc=some (c,t)->σ rf=some (some pl')/\c≠b:=fun rf pl' c t h1 h2=>by
  by_cases e:rf=.arg j
  .subst e;simp[σ1]at h1
  .rw[hs1 rf e]at h1
   refine⟨h1,fun ec=>e ?_⟩
   subst ec
   exact hm.inj rf (.arg j) pl' pl c t 1 h1 hpl h2 hloc
 let busy:Loop:={r with state:=.busy}
 let w1:World:=w.putObj b (.loop busy)
 have hk1:∀c,c≠b->w1.heap[c]?=w.heap[c]?:=fun c hc=>World.putObj_heap_other hc
 have hkF1:∀c,F c->w1.heap[c]?=w.heap[c]?:=fun c hc=>hk1 c fun e=>hFb (e▸hc)
 have hb1:w1.heap[b]?=some (.loop busy):=World.putObj_heap_same hbl
 have hm1:Q3 ⟨[],bs⟩ σ1 F w:=by
  refine⟨fun rf=>?_,fun rf q hq=>?_,fun r1 r2 p1 p2 c t1 t2 h1 h2 h3 h4=>hm.inj r1 r2 p1 p2 c t1 t2 (hown1 r1 p1 c t1 h1 h3).1 (hown1 r2 p2 c t2 h2 h4).1 h3 h4,fun rf p c t h1 h2=>?_,fun c hc=>?_,hm.gl⟩
  .cases rf with
   |loc i=>rw[hs1 _ (fun e=>by cases e)];exact hm.dom (.loc i)
   |bad=>rw[hs1 _ (fun e=>by cases e)];exact hm.dom .bad
   | arg i =>
    rcases Nat.lt_trichotomy i j with hi|hi|hi
    .rw[hs1 _ (fun e=>by cases e;omega),hm.dom (.arg i)]
     simp only[Mem.at]
     rw[hlow i hi]
    .subst hi
     simp only[Mem.at]
     exact⟨fun _=>Qht Om,fun _=>if_pos rfl⟩
    .rw[hs1 _ (fun e=>by cases e;omega),hm.dom (.arg i)]
     simp only[Mem.at]
     rw[(hhigh i hi).1,(hhigh i hi).2]
  .have e:rf≠.arg j:=fun e=>by subst e;simp[σ1]at hq
   have hq0:σ rf=some q:=by rw[<-hs1 rf e];exact hq
   have hat:∀x,(⟨[],bs++[some (Blk.loop b r env0)]⟩:Mem).at rf=some x->(⟨[],bs⟩:Mem).at rf=some x:=fun x hx=>by
    cases rf with
    |loc i=>exact hx
    |bad=>exact hx
    |arg i =>
     simp only[Mem.at]at hx⊢
     rcases Nat.lt_trichotomy i j with hi|hi|hi
     .rw[<-hlow i hi];exact hx
     .subst hi;exact absurd rfl e
     .rw[(hhigh i hi).1]at hx;cases hx
   obtain⟨h1,h2⟩:=hm.lv rf q hq0
   refine⟨fun hqn=>hat _ (h1 hqn),fun p hp=>?_⟩
   obtain⟨B,hB,hok⟩:=h2 p hp
   have hB':=hat _ hB
   refine⟨B,hB',?_⟩
   have hble:Ly 0 j B B:=by
    cases rf with
    |loc i=>simp[Mem.at]at hB'
    |bad=>simp[Mem.at]at hB'
    |arg i =>
     simp only[Mem.at]at hB'
     obtain⟨b',k1,k2⟩:=P2 hbs i _ hB'
     obtain⟨B0,k3,k4⟩:=k2 B rfl
     rw[hB']at k1
     cases k1
     cases k3
     exact k4
   exact hok.restrict hble hsub
  .obtain⟨h3,h4⟩:=hown1 rf p c t h1 h2
   exact hm.nf rf p c t h3 h2
  .exact hm.fl c hc
 have hv1:∀{A:AV} {v:Value},Vc w F σ A v->Xx 0 j A=true->Vc w F σ1 A v:=fun hv hin=>hv.restrict hin hsub
 have he0:Ql env0 w F σ1 r.tmps:=fun t=>by
  rcases get_mem env0 t with ⟨i,hi⟩|hjk
  .exact hv1 (hentries i t _ hi) (Hn hen _ (Qhw.2 ⟨_,Qie hi,rfl⟩))
  .rw[hjk];exact .junk
 have ha1:Jt w F σ1 args Q5:=⟨ha.1,fun i A u hA hu=>hv1 (ha.2 i A u hA hu) (Hn har A (Qie hA))⟩
 have he1:=Iz ps args Q5 env0 r.tmps he0 (fun p hp=>by rw[hN];exact hlt p hp) ha1 hal
 generalize htm:(ps.zip Q5).foldl (fun t (p:Nat × Value)=>t.setIfInBounds p.1 p.2) r.tmps=tmps1 at he1
 have htms:tmps1.size=N:=by
  rw[<-htm,<-hN]
  clear htm he1
  generalize ps.zip Q5=l
  generalize r.tmps=t0
  induction l generalizing t0 with
  |nil=>rfl
  |cons p l ih=>simp only[List.foldl_cons];rw[ih];simp
 have hctx:Ctx (some b) ⟨0,[]⟩ [] σ1 F w:=⟨⟨[],rfl,List.nodup_nil,fun _ h=>by cases h⟩,Qh3 _,fun l hl=>by
  cases hl
  exact⟨⟨_,hheap⟩,fun⟨rf,p,t,h1,h2⟩=>(hown1 rf p b t h1 h2).2 rfl,hFb⟩⟩
 have hwp:=h.run (some b) ⟨0,[]⟩ {tmps:=tmps1,defers:=[]} w σ1 F htms hctx he1 hm1
 refine⟨r.fn,tmps1,assign,body,?_,?_⟩
 .rw[run_yield hheap (by rw[hps];simp[ha.1,hal])]
  rw[has,hbo,hps]
  congr 2
  rw[<-htm]
  simp
 .refine roundIn_of_wpIn (F:=Fen none) (n:=0) trivial (wpIn_mono hwp ?_)
  rintro e0 a0 w2 ⟨env2,m2,σ2,F2,hqa,p2,p3,p4,p5,p6,p7⟩
  have hno1':¬ Qm σ1 b:=fun⟨rf,p,t,h1,h2⟩=>(hown1 rf p b t h1 h2).2 rfl
  have hb2:w2.heap[b]?=some (.loop r):=(p6.keep b hbl hno1').trans hheap
  obtain⟨-,hno2,hnF2⟩:=p3.rd b rfl
  have hlt2:b<w2.heap.size:=(Qh4.1 hb2).1
  have hk2:∀c,c≠b->(w2.putObj b (.loop busy)).heap[c]?=w2.heap[c]?:=fun c hc=>World.putObj_heap_other hc
  have hz2:(w2.putObj b (.loop busy)).heap.size=w2.heap.size:=World.putObj_size
  have hz1:w1.heap.size=w.heap.size:=World.putObj_size
  cases e0 with
  |exit _=>exact hqa.elim
  |goto _=>exact hqa.elim
  |ret=>exact hqa.elim
  |panic _=>exact hqa.elim
  |outgrown=>exact hqa.elim
  |normal =>
  refine⟨_,run_beginRound hb2 hst,?_⟩
  have hm2:Q3 m2 σ2 F2 (w2.putObj b (.loop busy)):=p5.world Om fun c hc=>hk2 c fun e=>by
   subst e
   rcases hc with hc|hc
   .exact hnF2 hc
   .exact hno2 hc
  have he2:Ql env2 (w2.putObj b (.loop busy)) F2 σ2 a0.tmps:=p4.mono (fun _ h=>h) (fun c hc=>hk2 c fun e=>hnF2 (e▸hc)) (SLe.refl σ2)
  have hS1:Step σ1 F w1 σ2 F2 (w2.putObj b (.loop busy)):=⟨p6.os,p6.tape,p6.output,p6.drawn,by rw[hz2,hz1];exact p6.size,fun c hc ho=>by
    by_cases e:c=b
    .subst e
     rw[World.putObj_heap_same hlt2,hb1]
    .rw[hk2 c e,p6.keep c (by rw[<-hz1];exact hc) ho,hk1 c e],
   p6.fro,fun c hc=>by rw[hz1];exact p6.fro' c hc,fun c hc=>by rw[hz1];exact p6.own c hc⟩
  have hC2:Ctx (some b) ⟨0,[]⟩ a0.defers σ2 F2 (w2.putObj b (.loop busy)):=by
   obtain⟨Ds,e,nd,hD⟩:=p3.marks
   refine⟨⟨Ds,e,nd,fun D h=>?_⟩,Qh3 _,fun l hl=>?_⟩
   .obtain⟨k1,k2,k3⟩:=hD D h
    exact⟨k1,by rw[hk2 D (fun e=>by rw[e,hb2]at k2;cases k2)];exact k2,k3⟩
   .cases hl
    exact⟨⟨busy,World.putObj_heap_same hlt2⟩,hno2,hnF2⟩
  have hqa':Awp P N body env2 m2 (Ic E jump J j):=hqa
  refine wpIn_mono (hqa'.run (some b) ⟨0,[]⟩ a0 _ σ2 F2 p2 hC2 he2 hm2) ?_
  rintro e a w3 ⟨env',m',σ3,F3,⟨s,hJ,hjump,hlE,hLe⟩,q2,q3,q4,q5,q6,q7⟩
  replace q6:=hS1.trans q6
  replace q7:=p7.trans q7
  obtain⟨σ4,r1,r2,r3,r4⟩:=Dp (env':=[]) hLe (env:=[]) (tmps:=#[]) (fun t=>by simp[get];exact .junk) q5
  have hb3:w3.heap[b]?=some (.loop busy):=(q6.keep b (by show b<(w.putObj b _).heap.size;rw[World.putObj_size];exact hbl) (fun⟨rf,p,t,h1,h2⟩=>(hown1 rf p b t h1 h2).2 rfl)).trans hb1
  have q6':=q6.trans r3
  have hlE':(E s).length=j:=by rw[<-V1,hlE]
  have hend:=run_endRound (P:=P) (jump s) hb3
  have hrec:({busy with state:=if(jump s).isNone then .ready else .done,pending:=jump s}:Loop)=after r (jump s):=rfl
  rw[hrec]at hend
  have hR:∃ v A m' σ' F',(Ending.returned (.bool (jump s).isNone))=.returned v∧Ret (fun s=>([AV.d (.bool (jump s).isNone)],(⟨[],E s ++ [some (.loop b (after r (jump s)) env0)]⟩:Mem))) J A m'∧Vc (w3.putObj b (.loop (after r (jump s)))) F' σ' A v∧Q3 m' σ' F' (w3.putObj b (.loop (after r (jump s))))∧Step σ F w σ' F' (w3.putObj b (.loop (after r (jump s))))∧SLe σ σ':=by
   let σ5:Pls:=upd σ4 (.arg j) (some pl)
   have hσ4j:σ4 (.arg j)=none:=(r2.dom (.arg j)).2 (Qht (by show(E s).length<=j;omega))
   have hs5:SLe σ4 σ5:=SLe.upd_new (some pl) hσ4j
   have hsz:w1.heap.size=w.heap.size:=World.putObj_size
   have hsz4:(w3.putObj b (.loop (after r (jump s)))).heap.size=w3.heap.size:=World.putObj_size
   have hno1:¬ Qm σ1 b:=fun⟨rf,p,t,h1,h2⟩=>(hown1 rf p b t h1 h2).2 rfl
   have hno4:¬ Qm σ4 b:=fun ho=>by
    rcases q6'.own b ho with ho|ho
    .exact hno1 ho
    .omega
   have hnF3:¬ F3 b:=fun ho=>by
    rcases q6'.fro' b ho with ho|ho|ho
    .exact hFb ho
    .exact hno1 ho
    .omega
   have hk4:∀c,c≠b->(w3.putObj b (.loop (after r (jump s)))).heap[c]?=w3.heap[c]?:=fun c hc=>World.putObj_heap_other hc
   have hb3l:b<w3.heap.size:=(Qh4.1 hb3).1
   have hoo:∀c,Qm σ1 c->Qm σ c:=fun c ⟨rf,p,t,h1,h2⟩=>⟨rf,p,t,(hown1 rf p c t h1 h2).1,h2⟩
   have harg:∀i q,i<j->σ (.arg i)=some q->∃q',σ5 (.arg i)=some q'/\QLe q q':=fun i q hi hq=>by
    have hne:Ref.arg i≠.arg j:=fun e=>by cases e;omega
    obtain⟨q1,k1,k2⟩:=q7 i q (by rw[hs1 _ hne];exact hq)
    obtain⟨q2',k3,k4⟩:=r4 i q1 k1
    exact⟨q2',by rw[show σ5 (.arg i)=σ4 (.arg i) from J4 σ4 _ hne];exact k3,k2.trans k4⟩
   have hkF4:∀c,F c->(w3.putObj b (.loop (after r (jump s)))).heap[c]?=w.heap[c]?:=fun c hc=>by
    have hcb:c≠b:=fun e=>hFb (e▸hc)
    rw[hk4 c hcb,q6'.keep c (by rw[hsz];exact hm.fl c hc) (fun ho=>by
     obtain⟨rf,p,t,h1,h2⟩:=hoo c ho
     exact(hm.nf rf p c t h1 h2).1 hc),hk1 c hcb]
   have hatE:∀i,i<j->(E s++[some (Blk.loop b (after r (jump s)) env0)])[i]?=(E s)[i]?:=fun i hi=>Qhj Om
   have hatEj:(E s++[some (Blk.loop b (after r (jump s)) env0)])[j]?=some (some (.loop b (after r (jump s)) env0)):=by rw[<-hlE'];simp
   have hatEh:∀i,j<i->(E s++[some (Blk.loop b (after r (jump s)) env0)])[i]?=none/\(E s)[i]?=none:=fun i hi=>⟨Qht (by simp;omega),Qht Om⟩
   have hcb4:∀rf p c t,σ4 rf=some (some p)->p.loc=some (c,t)->c≠b:=fun rf p c t h1 h2 e=>hno4 ⟨rf,p,t,h1,by rw[<-e];exact h2⟩
   refine⟨_,_,_,σ5,F3,rfl,⟨s,hJ,rfl,rfl⟩,.d .bool,?_,?_,?_⟩
   .refine⟨fun rf=>?_,fun rf q hq=>?_,fun f1 f2 p1 p2 c t1 t2 h1 h2 h3 h4=>?_,fun rf p c t h1 h2=>?_,fun c hc=>by rw[hsz4];exact r2.fl c hc,r2.gl.mono (fun _ h=>h) fun c hc=>hk4 c fun e=>hnF3 (e▸hc)⟩
    .by_cases e:rf=.arg j
     .subst e
      simp only[Mem.at]
      rw[hatEj,show σ5 (.arg j)=some (some pl) from J3 σ4 _ _]
      exact⟨(fun h=>by cases h),(fun h=>by cases h)⟩
     .rw[show σ5 rf=σ4 rf from J4 σ4 _ e,r2.dom rf]
      cases rf with
      |loc i=>exact Iff.rfl
      |bad=>exact Iff.rfl
      |arg i =>
       simp only[Mem.at]
       rcases Nat.lt_trichotomy i j with hi|hi|hi
       .rw[hatE i hi]
       .subst hi;exact absurd rfl e
       .rw[(hatEh i hi).1,(hatEh i hi).2]
    .by_cases e:rf=.arg j
     .subst e
      rw[show σ5 (.arg j)=some (some pl) from J3 σ4 _ _]at hq
      cases hq
      refine⟨(fun h=>by cases h),fun p hp=>?_⟩
      cases hp
      refine⟨.loop b (after r (jump s)) env0,by simp only[Mem.at];exact hatEj,hg,hloc,World.putObj_heap_same hb3l,fun i t A hi=>?_⟩
      have hvc:=hentries i t A hi
      have hin:Xx 0 j A=true:=Hn hen _ (Qhw.2 ⟨_,Qie hi,rfl⟩)
      refine(hvc.restrict hin (σ':=σ5) fun rf q hr hq=>?_).mono q6'.fro hkF4 (SLe.refl σ5)
      cases rf with
      |loc i=>simp[Yg]at hr
      |bad=>simp[Yg]at hr
      |arg i =>
       simp only[Yg]at hr
       exact harg i q (Nat.blt_eq.mp hr) hq
     .rw[show σ5 rf=σ4 rf from J4 σ4 _ e]at hq
      obtain⟨h1,h2⟩:=r2.lv rf q hq
      have hat:∀x,(⟨[],E s⟩:Mem).at rf=some x->(⟨[],E s++[some (Blk.loop b (after r (jump s)) env0)]⟩:Mem).at rf=some x:=fun x hx=>by
       cases rf with
       |loc i=>exact hx
       |bad=>exact hx
       |arg i =>
        simp only[Mem.at]at hx⊢
        have:=(Qh7.1 hx).1
        rw[hatE i Om]
        exact hx
      refine⟨fun hqn=>hat _ (h1 hqn),fun p hp=>?_⟩
      obtain⟨B,hB,hok⟩:=h2 p hp
      exact⟨B,hat _ hB,hok.mono (fun _ h=>h) (fun c hc=>hk4 c fun e=>hnF3 (e▸hc)) hs5 (fun c t hc=>hk4 c (hcb4 rf p c t (by rw[hq,hp]) hc))⟩
    .by_cases e1:f1=.arg j
     .by_cases e2:f2=.arg j
      .rw[e1,e2]
      .exfalso
       subst e1
       rw[show σ5 (.arg j)=some (some pl) from J3 σ4 _ _]at h1
       cases h1
       rw[hloc]at h3
       cases h3
       exact hcb4 f2 p2 b t2 (by rw[<-h2];exact(J4 σ4 _ e2).symm) h4 rfl
     .by_cases e2:f2=.arg j
      .exfalso
       subst e2
       rw[show σ5 (.arg j)=some (some pl) from J3 σ4 _ _]at h2
       cases h2
       rw[hloc]at h4
       cases h4
       exact hcb4 f1 p1 b t1 (by rw[<-h1];exact(J4 σ4 _ e1).symm) h3 rfl
      .exact r2.inj f1 f2 p1 p2 c t1 t2 (by rw[<-h1];exact(J4 σ4 _ e1).symm) (by rw[<-h2];exact(J4 σ4 _ e2).symm) h3 h4
    .rw[hsz4]
     by_cases e:rf=.arg j
     .subst e
      rw[show σ5 (.arg j)=some (some pl) from J3 σ4 _ _]at h1
      cases h1
      rw[hloc]at h2
      cases h2
      exact⟨hnF3,hb3l⟩
     .exact r2.nf rf p c t (by rw[<-h1];exact(J4 σ4 _ e).symm) h2
   .refine⟨q6'.os,q6'.tape,q6'.output,q6'.drawn,by rw[hsz4,<-hsz];exact q6'.size,fun c hc ho=>?_,q6'.fro,fun c hc=>?_,fun c ho=>?_⟩
    .have hcb:c≠b:=fun e=>ho ⟨_,pl,1,hpl,by rw[e];exact hloc⟩
     rw[hk4 c hcb,q6'.keep c (by rw[hsz];exact hc) (fun h=>ho (hoo c h)),hk1 c hcb]
    .rcases q6'.fro' c hc with h|h|h
     .exact .inl h
     .exact .inr (.inl (hoo c h))
     .exact .inr (.inr Om)
    .obtain⟨rf,p,t,h1,h2⟩:=ho
     by_cases e:rf=.arg j
     .subst e
      rw[show σ5 (.arg j)=some (some pl) from J3 σ4 _ _]at h1
      cases h1
      exact .inl ⟨_,pl,t,hpl,h2⟩
     .rcases q6'.own c ⟨rf,p,t,by rw[<-h1];exact(J4 σ4 _ e).symm,h2⟩ with h|h
      .exact .inl (hoo c h)
      .exact .inr Om
   .intro rf q hq
    cases rf with
    |loc i=>rw[(hm.dom (.loc i)).2 (by simp[Mem.at])]at hq;cases hq
    |bad=>rw[(hm.dom .bad).2 rfl]at hq;cases hq
    | arg i =>
     rcases Nat.lt_trichotomy i j with hi|hi|hi
     .exact harg i q hi hq
     .subst hi
      rw[hpl]at hq
      cases hq
      exact⟨some pl,J3 σ4 _ _,QLe.refl _⟩
     .rw[(hm.dom (.arg i)).2 (by simp only[Mem.at];exact(hhigh i hi).1)]at hq
      cases hq
  cases e with
  |normal=>simp only[Lb,Qgz]at hjump;rw[<-hjump]at hend;exact⟨_,_,hend,by rw[<-hjump]at hR;exact hR⟩
  |ret=>simp only[Lb,Qgz]at hjump;rw[<-hjump]at hend;exact⟨_,_,hend,by rw[<-hjump]at hR;exact hR⟩
  |exit i=>simp only[Lb,Qgz]at hjump;rw[<-hjump]at hend;exact⟨_,_,hend,by rw[<-hjump]at hR;exact hR⟩
  |goto l=>simp only[Lb,Qgz]at hjump;rw[<-hjump]at hend;exact⟨_,_,hend,by rw[<-hjump]at hR;exact hR⟩
  |panic ch=>simp[Lb]at hjump
  |outgrown=>simp[Lb]at hjump
def Q5e (P:Program)(N:Nat)(env:Env)(b:Nat)(r:Loop)(env0:Env)(k:Nat)(Q:Ja):AV->Mem->Prop:=fun _ m' =>
 ∃jmp:Option Code,m'.get (.loc k)=some (.loop b (after r jmp) env0)/\match jmp with
  |none=>Q .normal env (m'.put (.loc k) none)
  |some c=>Awp P N c env (m'.put (.loc k) none) Q
theorem Q1l {nl na:Nat}{env:Env}:∀{env0:Env},Bm nl na env env0->∀(j:Nat) t A,env0[j]?=some (t,A)->get env t=A
 |[],_,j,t,A,h=>by simp at h
 |(k,B)::r,hl,j,t,A,h=>by
  cases j with
  |zero=>simp at h;obtain⟨rfl,rfl⟩:=h;exact hl.1.1
  |succ j=>exact Q1l hl.2 j t A (by simpa using h)
section
variable {P:Program}{w w':World}{F:Nat->Prop}{σ:Pls}{m:Mem}
theorem Qb4 (hm:Q3 m σ F w){r:Ref}{q:Option Pl}(hr:σ r=some q):Q3 (m.put r none) (upd σ r none) F w/\SLe σ (upd σ r none):=by
 have hs:SLe σ (upd σ r none):=SLe.upd_old hr (QLe.none q)
 have hat:∃x,m.at r=some x:=by
  cases h:m.at r with
  |none=>have:=(hm.dom r).2 h;rw[this]at hr;cases hr
  |some x=>exact⟨x,rfl⟩
 obtain⟨x,hx⟩:=hat
 have hne:∀rf p,upd σ r none rf=some (some p)->rf≠r:=fun rf p h e=>by subst e;rw[J3]at h;cases h
 refine⟨⟨fun rf=>?_,fun rf q' hq=>?_,fun r1 r2 p1 p2 b t1 t2 h1 h2=>?_,fun rf p b t h1 h2=>?_,hm.fl,hm.gl⟩,hs⟩
 .by_cases e:rf=r
  .subst e
   rw[J3,Rz none hx]
   exact⟨(fun h=>by cases h),(fun h=>by cases h)⟩
  .rw[J4 σ none e,Ry none e];exact hm.dom rf
 .by_cases e:rf=r
  .subst e
   rw[J3]at hq
   cases hq
   exact⟨fun _=>Rz none hx,fun p hp=>by cases hp⟩
  .rw[J4 σ none e]at hq
   rw[Ry none e]
   obtain⟨h1,h2⟩:=hm.lv rf q' hq
   exact⟨h1,fun p hp=>by
    obtain⟨B,hB,hok⟩:=h2 p hp
    exact⟨B,hB,hok.mono (fun _ h=>h) (fun _ _=>rfl) hs (fun _ _ _=>rfl)⟩⟩
 .have e1:=hne r1 p1 h1
  have e2:=hne r2 p2 h2
  rw[J4 σ none e1]at h1
  rw[J4 σ none e2]at h2
  exact hm.inj r1 r2 p1 p2 b t1 t2 h1 h2
 .have e1:=hne rf p h1
  rw[J4 σ none e1]at h1
  exact hm.nf rf p b t h1 h2
theorem Q7z {ro:Option Nat}{lo:Lo}{ds:List Deferred}(hc:Ctx ro lo ds σ F w)(fn:FuncId)(tmps:Array Value)(ps:Array Tmp)(assign body:Code) :
  ∃(l:Nat) (Ms:List Nat) (w1:World) (rec:Loop),(Instr.enterLoop fn tmps ps assign body ro).run P w=.ok (l,Ms.map mark) w1/\w1.heap[l]?=some (.loop rec)/\rec.state=.ready/\rec.tmps=tmps/\rec.params=ps/\rec.assign=assign/\rec.body=body /\
   rec.pending=none/\w.heap.size<=l/\l<w1.heap.size/\w.heap.size<=w1.heap.size/\(∀b,b<w.heap.size->w1.heap[b]?=w.heap[b]?)/\w1.os=w.os/\w1.tape=w.tape/\w1.output=w.output/\w.drawn<=w1.drawn/\Ms.Nodup/\∀D∈Ms,w.heap.size<=D/\D≠l/\w1.heap[D]?=some (.deferred (some [])):=by
 cases ro with
 | none =>
  refine⟨w.heap.size+1,[w.heap.size],_,{state:=.ready,pending:=none,fn,tmps,params:=ps,assign,body,defers:=w.heap.size},run_enterLoop_outer fn tmps ps assign body,?_,rfl,rfl,rfl,rfl,rfl,rfl,Om,by simp,by simp;omega,fun b hb=>?_,rfl,rfl,rfl,Qgx _,by simp,fun D hD=>?_⟩
  .have:=World.alloc_heap_new (w.alloc (.deferred (some []))) (.loop {state:=.ready,pending:=none,fn,tmps,params:=ps,assign,body,defers:=w.heap.size})
   rwa [World.size_alloc]at this
  .rw[Below.heap_alloc _ _ b (by simp;omega),Below.heap_alloc _ _ b hb]
  .simp only[Qi9]at hD
   subst hD
   refine⟨Qgx _,Om,?_⟩
   rw[Below.heap_alloc _ _ _ (by simp)]
   exact World.alloc_heap_new w _
 |some l0 =>
  obtain⟨⟨r0,h0⟩,_⟩:=hc.rd l0 rfl
  refine⟨w.heap.size,[],_,{state:=.ready,pending:=none,fn,tmps,params:=ps,assign,body,defers:=r0.defers},run_enterLoop_inner h0 fn tmps ps assign body,World.alloc_heap_new w _,rfl,rfl,rfl,rfl,rfl,rfl,Qgx _,by simp,by simp,fun b hb=>Below.heap_alloc w _ b hb,rfl,rfl,rfl,Qgx _,List.nodup_nil,fun D hD=>by cases hD⟩
theorem Awp.range {N:Nat}{f:Operand}{ps:Array Tmp}{assign body:Code}{env:Env}{m:Mem}{Q:Ja}{g:FuncId}{caps:List AV}(env0:Env)
  (hf:ev env f=.fn (.func g) [] caps\/∃xs,ev env f=.d (.fn (.func g) [] xs)/\caps=up xs) {nl na:Nat} (he0:Bm nl na env env0)
  (h:∀ (b:Nat) (r:Loop),r.state=.ready→r.pending=none→r.tmps.size=N→r.params=ps→r.assign=assign→r.body=body →
   Qz P g (.fn (.yield b) [] []::caps) (m.add (.loop b r env0)) (Q5e P N env b r env0 (Qp m.loc) Q)):Awp P N (.rangeFunc f ps assign body) env m Q:=by
 refine⟨fun ro lo a w σ F hN hC he hm=>wpIn_rangeFunc fun fn _=>?_⟩
 obtain⟨l,Ms,w1,rec,hent,hl1,hst,htm,hps,has,hbo,hpe,hll,hlw,hsz,hk,hos,htape,hout,hdr,hnd,hMs⟩:=Q7z (P:=P) hC fn a.tmps ps assign body
 obtain⟨us,hfv,hus⟩:∃us:List Value,a.eval f=.func (.func g) #[] us.toArray/\Jt w F σ caps us:=by
  have hv:=Z5 he f
  rcases hf with hf|⟨xs,hf,rfl⟩
  .rw[hf]at hv
   generalize a.eval f=X at hv
   cases hv with
   |@fn _ _ _ us vs h1 h2 h3 h4 =>
    have:us=[]:=by simpa using h1
    subst this
    exact⟨vs,rfl,h2,h4⟩
  .rw[hf]at hv
   generalize a.eval f=X at hv
   cases hv with
   | d hv=>cases hv with
    |@fn _ _ _ us vs h1 h2 h3 h4 =>
     have:us=[]:=by simpa using h1
     subst this
     exact⟨vs,rfl,.ofD h2 h4⟩
 let pl:Pl:=⟨0,0,some (l,1)⟩
 have hkF:∀b,F b->w1.heap[b]?=w.heap[b]?:=fun b hb=>hk b (hm.fl b hb)
 have hs1:SLe σ (upd σ m.new (some pl)):=SLe.upd_new (some pl) (Ux hm)
 obtain⟨hm1,-⟩:=Ur (w':=w1) (pl:=pl) (B:=.loop l rec env0) hm hsz hk
  ⟨rfl,rfl,hl1,fun j t A hj=>by
   have:=he t
   rw[Q1l he0 j t A hj]at this
   rw[htm]
   exact this.mono (fun _ h=>h) hkF hs1⟩
  (fun b t hb=>by simp only[pl,Qgz,Qh6]at hb;obtain⟨rfl,_⟩:=hb;exact⟨hll,hlw⟩)
 have hst1:Step σ F w (upd σ m.new (some pl)) F w1:=⟨hos,htape,hout,hdr,hsz,fun b hb _=>hk b hb,fun _ h=>h,fun _ h=>.inl h,Rv fun b t hb=>by simp only[pl,Qgz,Qh6]at hb;omega⟩
 have hC1:Ctx ro lo (Ms.map mark ++ a.defers) (upd σ m.new (some pl)) F w1:=by
  have hC0:=hC.step hst1
  obtain⟨Ds,e,nd,hD⟩:=hC0.marks
  obtain⟨Ds',e',nd',hD'⟩:=hC.marks
  have hinj:∀{A B:List Nat},A.map mark=B.map mark->A=B:=fun{A B} hAB=>by
   have hm0:∀x y,mark x=mark y->x=y:=fun x y hxy=>by simpa[mark] using hxy
   induction A generalizing B with
   |nil=>cases B with
    |nil=>rfl
    |cons=>simp at hAB
   |cons x A ih=>cases B with
    |nil=>simp at hAB
    |cons y B=>simp only[Qin,List.cons.injEq]at hAB;rw[hm0 x y hAB.1,ih hAB.2]
  have hDs:Ds=Ds':=hinj (List.append_cancel_right (e.symm.trans e'))
  subst hDs
  refine⟨⟨Ms++Ds,by rw[Qim,List.append_assoc,e],?_,fun D hDm=>?_⟩,hC0.low,hC0.rd⟩
  .rw[List.nodup_append]
   refine⟨hnd,nd,fun x hx y hy e=>?_⟩
   subst e
   have h1:=(hMs x hx).1
   have h2:=(Qh4.1 (hD' x hy).2.1).1
   omega
  .rcases Qi7.1 hDm with hDm|hDm
   .obtain⟨k1,k2,k3⟩:=hMs D hDm
    refine⟨Qhx hC.low k1,k3,fun⟨rf,p,t,h1,h2⟩=>?_,fun hF=>?_⟩
    .by_cases e:rf=m.new
     .subst e
      rw[J3]at h1
      cases h1
      simp only[pl,Qgz,Qh6]at h2
      exact k2 h2.1.symm
     .rw[J4 σ _ e]at h1
      have:=(hm.nf rf p D t h1 h2).2
      omega
    .have:=hm.fl D hF
     omega
   .exact hD D hDm
 have hcv:=h l rec hst hpe (by rw[htm];exact hN) hps has hbo
 have hargs:Jt w1 F (upd σ m.new (some pl)) (.fn (.yield l) [] []::caps) (.func (.yield l) #[] #[]::us):=by
  refine⟨by simp[hus.1],fun j A u hA hu=>?_⟩
  cases j with
  |zero =>
   simp at hA hu
   subst hA;subst hu
   exact .fn (us:=[]) (vs:=[]) rfl rfl (fun j x u h=>by simp at h) (fun j x u h=>by simp at h)
  |succ j=>exact(hus.2 j A u (by simpa using hA) (by simpa using hu)).mono (fun _ h=>h) hkF hs1
 have hcall:=hcv.run _ F w1 _ hm1 hargs
 refine⟨l,Ms.map mark,w1,{target:=.fn (.func g) us.toArray,args:=#[.func (.yield l) #[] #[]]},w1,g,(.func (.yield l) #[] #[]::us).toArray,w1,hent,?_,fun _ _=>trivial,?_,We,Y7.2 (hcall.mono ?_)⟩
 .simp only[resolve,hfv]
  simp[go_sem]
 .have:=Lr hcv.can (.func (.yield l) #[] #[]::us).toArray w1
  simp only[invoke]
  have e:(#[.func (.yield l) #[] #[]]:Array Value)++us.toArray=(.func (.yield l) #[] #[]::us).toArray:=by simp
  rw[e]
  exact this
 .rintro e w' ⟨v,A,m',σ',F',rfl,⟨jmp,hget,hq⟩,hv,hm',hst2,hs2⟩
  have hat:=Mem.get_at hget
  have hnew:m.new=.loc (Qp m.loc):=rfl
  obtain⟨q',hq',hqle⟩:=hs2 m.new (some pl) (J3 σ _ _)
  rw[hnew]at hq'
  obtain⟨pl',e1,hok⟩:∃pl',q'=some pl'/\Jx w' F' σ' (.loop l (after rec jmp) env0) pl':=by
   obtain⟨h1,h2⟩:=hm'.lv _ q' hq'
   cases q' with
   |none=>have:=h1 rfl;rw[hat]at this;cases this
   |some pl' =>
    obtain⟨B,hB,hok⟩:=h2 pl' rfl
    rw[hat]at hB
    cases hB
    exact⟨pl',rfl,hok⟩
  subst e1
  obtain⟨-,hloc',hheap',-⟩:=hok
  have hnb:(after rec jmp).state≠.busy:=by cases jmp<;>simp[after]
  refine⟨jmp,_,run_endLoop hheap' hnb,?_⟩
  obtain⟨hm2,hs3⟩:=Qb4 hm' hq'
  generalize hσ4:upd σ' (.loc (Qp m.loc)) none=σ4 at hm2 hs3
  generalize hex:({after rec jmp with state:=.exhausted}:Loop)=ex
  have hFl:¬ F' l:=(hm'.nf _ pl' l 1 hq' hloc').1
  have hlw':l<w'.heap.size:=(hm'.nf _ pl' l 1 hq' hloc').2
  have hOl:¬ Qm σ4 l:=fun⟨rf,p,t,h1,h2⟩=>by
   subst hσ4
   by_cases e:rf=.loc (Qp m.loc)
   .subst e;rw[J3]at h1;cases h1
   .rw[J4 σ' none e]at h1
    exact e (hm'.inj rf _ p pl' l t 1 h1 hq' h2 hloc')
  have hkx:∀b,b≠l->(w'.putObj l (.loop ex)).heap[b]?=w'.heap[b]?:=fun b hb=>World.putObj_heap_other hb
  have hszx:(w'.putObj l (.loop ex)).heap.size=w'.heap.size:=World.putObj_size
  have hm4:Q3 (m'.put (.loc (Qp m.loc)) none) σ4 F' (w'.putObj l (.loop ex)):=hm2.world Om fun b hb=>hkx b fun e=>by
   subst e
   rcases hb with hb|hb
   .exact hFl hb
   .exact hOl hb
  have hst4:Step σ' F' w' σ4 F' (w'.putObj l (.loop ex)):=⟨rfl,rfl,rfl,Qgx _,Om,fun b hb ho=>hkx b fun e=>ho ⟨_,pl',1,hq',by rw[e];exact hloc'⟩,fun _ h=>h,fun _ h=>.inl h,fun b ⟨rf,p,t,h1,h2⟩=>by
   subst hσ4
   by_cases e:rf=.loc (Qp m.loc)
   .subst e;rw[J3]at h1;cases h1
   .rw[J4 σ' none e]at h1
    exact .inl ⟨rf,p,t,h1,h2⟩⟩
  have hstep:=(hst1.trans hst2).trans hst4
  have hsle:SLe σ σ4:=fun r q hr=>by
   obtain⟨q1,k1,k2⟩:=hs1 r q hr
   obtain⟨q2,k3,k4⟩:=hs2 r q1 k1
   obtain⟨q3,k5,k6⟩:=hs3 r q2 k3
   exact⟨q3,k5,(k2.trans k4).trans k6⟩
  have he4:Ql env (w'.putObj l (.loop ex)) F' σ4 a.tmps:=he.mono hstep.fro (hstep.frozen hm) hsle
  have hC4:Ctx ro lo (Ms.map mark++a.defers) σ4 F' (w'.putObj l (.loop ex)):=(hC1.step hst2).step hst4
  have hpend:(after rec jmp).pending=jmp:=rfl
  cases jmp with
  |none=>exact⟨env,_,σ4,F',hq,hN,hC4,he4,hm4,hstep,.of hsle⟩
  |some c=>exact wpIn_mono ((show Awp P N c env _ Q from hq).run ro lo {a with defers:=Ms.map mark++a.defers} _ σ4 F' hN hC4 he4 hm4) fun e a2 w2 h2=>Uw hstep (.of hsle) h2
end
end Go.Ab
namespace Go.Ab
set_option linter.unusedSimpArgs false
set_option linter.unusedVariables false
section
variable {P:Program}{T:Tab}{N:Nat}{w w':World}{F:Nat->Prop}{σ:Pls}{m m':Mem}{env:Env}{K:AV->Mem->Prop}{o:Oper}
def G8 (T:Tab):List ResultVar->List D->Env->Mem->Prop
 |[],[],_,_=>True
 | .tmp t::rs,x::xs,env,m=>J9 m (get env t) x/\G8 T rs xs env m
 | .cell t ty::rs,x::xs,env,m=>(match Rj T m ty (get env t) with
  |some (A,l)=>obs l (J9 m A x)
  |none=>False)/\G8 T rs xs env m
 |_,_,_,_=>False
theorem L2 (hT:Qb P T)(hm:Q3 m σ F w){env:Env}{tmps:Array Value}(he:Ql env w F σ tmps):∀(rs:List ResultVar) (res:List D),G8 T rs res env m ->
  ∃vs:List Value,(rs.mapM (Wa tmps)).run P w=.ok vs w/\vs.length=res.length/\∀(j:Nat) x u,res[j]?=some x->vs[j]?=some u->Rd w (Zp F σ) x u
 |[],[],_=>⟨[],by simp,rfl,fun j x u h=>by simp at h⟩
 | .tmp t::rs,x::xs,h=>by
  obtain⟨h1,h2⟩:=h
  obtain⟨vs,g1,g2,g3⟩:=L2 hT hm he rs xs h2
  refine⟨tmps.getD t undef::vs,by simp[List.mapM_cons,Wa,g1],by simp[g2],fun j y u hy hu=>?_⟩
  cases j with
  |zero=>simp at hy hu;subst hy;subst hu;simpa using(he t |> fun hv=>J9.ok hm h1 hv)
  |succ j=>exact g3 j y u (by simpa using hy) (by simpa using hu)
 | .cell t ty :: rs,x :: xs,h=>by
  obtain⟨h1,h2⟩:=h
  obtain⟨vs,g1,g2,g3⟩:=L2 hT hm he rs xs h2
  split at h1<;>try exact h1.elim
  rename_i A l hl
  obtain⟨hl2,hb⟩:=Zw h1
  obtain⟨u0,hu0,hrun⟩:=D2 hT hm (he t) hl hl2
  have hr:=hrun w (V6.refl F σ w)
  have hptr:∃a,tmps.getD t undef=.pointer (some a):=by
   unfold Instr.loadAt Instr.sureAddr at hr
   generalize tmps.getD t undef=X at hr
   split at hr
   .exact⟨_,rfl⟩
   .simp at hr
  obtain⟨ad,had⟩:=hptr
  rw[had]at hr
  have hr':(loadVar ty ad).run P w=.ok u0 w:=by simpa[Instr.loadAt,Instr.sureAddr] using hr
  refine⟨u0::vs,by simp[List.mapM_cons,Wa,g1,had,asAddr,hr'],by simp[g2],fun j y u hy hu=>?_⟩
  cases j with
  |zero=>simp at hy hu;subst hy;subst hu;exact J9.ok hm hb hu0
  |succ j=>exact g3 j y u (by simpa using hy) (by simpa using hu)
 |[],_::_,h=>by cases h
 | .tmp _::_,[],h=>by cases h
 | .cell _ _::_,[],h=>by cases h
def D8 (T:Tab)(rs:List ResultVar)(res:List D):Ja:=fun e env m=>match e with
 | .ret=>G8 T rs res env m
 | .normal=>G8 T rs res env m
 |_=>False
theorem V3 (hT:Qb P T){f:FuncId}{fn:Func}{c:Code}{N:Nat}{rs:List ResultVar}{args res:List D}(hf:P.funcs[f]?=some fn)(hb:fn.body=some c)(hN:fn.ntmps=N)(hrs:fn.results=rs.toArray)
  (hname:(fn.name == "runtime.NumGoroutine")=false) (hargs:Nat.ble args.length N=true) (h:Ev (vc P T N c (Yr 0 args) ⟨[],[]⟩ (D8 T rs res))):Pure P f args res :=
 Ez hT hf hb hN hrs hname hargs (Q:=D8 T rs res) (fun e env m hq=>by
  cases e with
  |normal=>exact⟨.inl rfl,fun w F σ tmps hm he=>L2 hT hm he rs res hq⟩
  |ret=>exact⟨.inr rfl,fun w F σ tmps hm he=>L2 hT hm he rs res hq⟩
  |_=>exact hq.elim) h
end
end Go.Ab
