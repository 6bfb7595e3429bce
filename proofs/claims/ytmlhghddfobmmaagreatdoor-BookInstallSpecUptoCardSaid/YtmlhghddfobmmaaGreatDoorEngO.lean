import Derived.Test.YtmlhghddfobmmaaGreatDoorEngN
import Derived.RangeFuncLeaves
namespace Go.Ab
set_option linter.unusedSimpArgs false
set_option linter.unusedVariables false
def Yg (nl na:Nat):Ref->Bool
 | .loc j=>Nat.blt j nl
 | .arg j=>Nat.blt j na
 | .bad=>false
def N1 (nl na:Nat):AV->Bool
 | .d _=>true
 | .ptr r _ _ _=>Yg nl na r
 | .osl r _ _ _=>Yg nl na r
 | .mp r=>Yg nl na r
 | .junk=>true
 |_=>false
def R6 (nl na:Nat):List AV->Bool
 |[]=>true
 |A::r=>N1 nl na A&&R6 nl na r
def Xx (nl na:Nat):AV->Bool
 | .fn _ xs ys=>R6 nl na xs&&R6 nl na ys
 | .agg cs=>R6 nl na cs
 |A=>N1 nl na A
def Wv (nl na:Nat):List AV->Bool
 |[]=>true
 |A::r=>Xx nl na A&&Wv nl na r
def Bm (nl na:Nat)(env:Env):Env->Prop
 |[]=>True
 |(t,A)::r=>(get env t=A/\Xx nl na A=true)/\Bm nl na env r
def Ly (nl na:Nat):Blk->Blk->Prop
 | .box e cs,.box e' cs'=>e=e'/\cs=cs'/\Wv nl na cs'=true
 | .vec e sz g n f,.vec e' sz' g' n' f'=>e=e'/\sz=sz'/\g=g'/\n'<=n/\∀i,i<n'->f i=f' i/\Wv nl na (f' i)=true
 | .loop b r env,.loop b' r' env'=>b=b'/\r=r'/\env=env'/\Wv nl na (env'.map (·.2))=true
 | .map sh has val,.map sh' has' val'=>sh=sh'/\∀k,sh.fits k->has k=has' k/\(has k=true->val k=val' k/\Xx nl na (val' k)=true)
 | .room e sz g n c f,.vec e' sz' g' n' f'=>e=e'/\sz=sz'/\g=g'/\n'<=n/\∀i,i<n'->f i=f' i/\Wv nl na (f' i)=true
 | .room e sz g n c f,.room e' sz' g' n' c' f'=>c=c'/\e=e'/\sz=sz'/\g=g'/\n'<=n/\∀i,i<n'->f i=f' i/\Wv nl na (f' i)=true
 | .iter sh has val left cur,.iter sh' has' val' left' cur'=>sh=sh'/\has=has'/\val=val'/\left=left'/\cur=cur'
 |_,_=>False
def LeL (nl na:Nat):List (Option Blk)->List (Option Blk)->Prop
 |_,[]=>True
 |[],_::_=>False
 | b :: r,b' :: s=>(match b' with
  |none=>True
  |some B'=>match b with
   |some B=>Ly nl na B B'
   |none=>False)/\LeL nl na r s
def Le (env:Env)(m:Mem)(env':Env)(m':Mem):Prop :=
 Bm (Qp m'.loc) (Qp m'.own) env env'/\LeL (Qp m'.loc) (Qp m'.own) m.loc m'.loc/\(Qp m.own=Qp m'.own/\LeL (Qp m'.loc) (Qp m'.own) m.own m'.own)
section
variable {w:World}{F:Nat->Prop}{σ σ':Pls}{nl na:Nat}
theorem Hn:∀{l:List AV},Wv nl na l=true->∀A∈l,Xx nl na A=true
 |[],_=>fun A h=>by simp at h
 |x::r,h=>fun A hA=>by
  simp only[Wv,Qh5]at h
  rcases Qho.1 hA with rfl|hA
  .exact h.1
  .exact Hn h.2 A hA
theorem Vc.restrict0 {A:AV}{v:Value}(h:Vc w F σ A v)(hin:N1 nl na A=true)(hs:∀r q,Yg nl na r=true->σ r=some q->∃q',σ' r=some q'/\QLe q q'):Vc w F σ' A v:=by
 cases h with
 |d h=>exact .d h
 |ptr hr h =>
  obtain⟨q',hq,hle⟩:=hs _ _ hin hr
  refine .ptr hq fun pl' e=>?_
  obtain⟨pl,e1,e2,e3⟩:=hle pl' e
  obtain⟨h1,h2⟩:=h pl e1
  refine⟨Om,fun e4=>?_⟩
  have h5:pl'.g=pl.g:=by omega
  rw[e3 h5];exact h2 Om
 |osl hr h =>
  obtain⟨q',hq,hle⟩:=hs _ _ hin hr
  refine .osl hq fun pl' e=>?_
  obtain⟨pl,e1,e2,e3⟩:=hle pl' e
  obtain⟨h1,h2⟩:=h pl e1
  refine⟨Om,fun e4=>?_⟩
  have h5:pl'.g=pl.g:=by omega
  rw[e3 h5];exact h2 Om
 |mp hr h =>
  obtain⟨q',hq,hle⟩:=hs _ _ hin hr
  refine .mp hq fun pl' e e0=>?_
  obtain⟨pl,e1,e2,e3⟩:=hle pl' e
  rw[e3 Om]
  exact h pl e1 Om
 |junk=>exact .junk
 |_=>simp[N1]at hin
theorem P8:∀{l:List AV},R6 nl na l=true->∀(j:Nat) A,l[j]?=some A->N1 nl na A=true
 |[],_,j,A,h=>by simp at h
 |x::r,h,j,A,hA=>by
  simp only[R6,Qh5]at h
  cases j with
  |zero=>simp at hA;subst hA;exact h.1
  |succ j=>exact P8 h.2 j A (by simpa using hA)
theorem Vc.restrict {A:AV}{v:Value}(h:Vc w F σ A v)(hin:Xx nl na A=true)(hs:∀r q,Yg nl na r=true->σ r=some q->∃q',σ' r=some q'/\QLe q q'):Vc w F σ' A v:=by
 by_cases hfn:∃f xs ys,A=.fn f xs ys
 .obtain⟨f,xs,ys,rfl⟩:=hfn
  simp only[Xx,Qh5]at hin
  cases h with
  |fn h1 h2 h3 h4=>exact .fn h1 h2 (fun j x u hx hu=>(h3 j x u hx hu).restrict0 (P8 hin.1 j x hx) hs) (fun j x u hx hu=>(h4 j x u hx hu).restrict0 (P8 hin.2 j x hx) hs)
 .by_cases hag:∃cs,A=.agg cs
  .obtain⟨cs,rfl⟩:=hag
   simp only[Xx]at hin
   cases h with
   |agg h1 h2=>exact .agg h1 fun j x u hx hu=>(h2 j x u hx hu).restrict0 (P8 hin j x hx) hs
  .refine h.restrict0 ?_ hs
   cases A<;>first|exact hin|exact absurd ⟨_,_,_,rfl⟩ hfn|exact absurd ⟨_,rfl⟩ hag
theorem X9.restrict {e sz g n n':Nat}{f f':Nat->List AV}{pl:Pl}(h:X9 w F σ e sz g n f pl)(hnn:n'<=n)(hf:∀i,i<n'->f i=f' i/\Wv nl na (f' i)=true)(hs:∀r q,Yg nl na r=true->σ r=some q->∃q',σ' r=some q'/\QLe q q'):X9 w F σ' e sz g n' f' pl:=by
 obtain⟨h1,h2,h3,h4,h5⟩:=h
 refine⟨h1,h2,fun h=>by have:=h3 h;omega,fun i hi=>by rw[<-(hf i hi).1];exact h4 i Om,fun b tot hl=>?_⟩
 obtain⟨h6,h7,us,h8,h9,h10⟩:=h5 b tot hl
 refine⟨Om,h7,us,h8,h9,fun i j A hi hA=>?_⟩
 obtain⟨u,hu,hv,h1⟩:=h10 i j A Om (by rw[(hf i hi).1];exact hA)
 exact⟨u,hu,hv.restrict (Hn (hf i hi).2 A (Qie hA)) hs,h1⟩
theorem Jx.restrict {B B':Blk}{pl:Pl}(h:Jx w F σ B pl)(hle:Ly nl na B B')(hs:∀r q,Yg nl na r=true->σ r=some q->∃q',σ' r=some q'/\QLe q q'):Jx w F σ' B' pl:=by
 cases B with
 | box e cs =>
  cases B' with
  |box e' cs' =>
   obtain⟨rfl,rfl,hin⟩:=hle
   obtain⟨h1,h2,b,h3,us,h4,h5,h6⟩:=h
   exact⟨h1,h2,b,h3,us,h4,h5,fun j A u hA hu=>⟨(h6 j A u hA hu).1.restrict (Hn hin A (Qie hA)) hs,(h6 j A u hA hu).2⟩⟩
  |vec=>exact hle.elim
  |loop=>exact hle.elim
  |map=>exact hle.elim
  |room=>exact hle.elim
  |ent=>exact hle.elim
  |opq=>exact hle.elim
  |iter=>exact hle.elim
  |look=>exact hle.elim
 | vec e sz g n f =>
  cases B' with
  |box=>exact hle.elim
  |loop=>exact hle.elim
  |map=>exact hle.elim
  |room=>exact hle.elim
  |ent=>exact hle.elim
  |opq=>exact hle.elim
  |iter=>exact hle.elim
  |look=>exact hle.elim
  |vec e' sz' g' n' f' =>
   obtain⟨rfl,rfl,rfl,hnn,hf⟩:=hle
   obtain⟨h1,h2,h3,h4,h5⟩:=h
   refine⟨h1,h2,fun h=>by have:=h3 h;omega,fun i hi=>by rw[<-(hf i hi).1];exact h4 i Om,fun b tot hl=>?_⟩
   obtain⟨h6,h7,us,h8,h9,h10⟩:=h5 b tot hl
   refine⟨Om,h7,us,h8,h9,fun i j A hi hA=>?_⟩
   obtain⟨u,hu,hv,h1⟩:=h10 i j A Om (by rw[(hf i hi).1];exact hA)
   exact⟨u,hu,hv.restrict (Hn (hf i hi).2 A (Qie hA)) hs,h1⟩
 | loop b r env =>
  cases B' with
  |box=>exact hle.elim
  |vec=>exact hle.elim
  |map=>exact hle.elim
  |room=>exact hle.elim
  |ent=>exact hle.elim
  |opq=>exact hle.elim
  |iter=>exact hle.elim
  |look=>exact hle.elim
  |loop b' r' env' =>
   obtain⟨rfl,rfl,rfl,hin⟩:=hle
   obtain⟨h1,h2,h3,h4⟩:=h
   exact⟨h1,h2,h3,fun j t A hj=>(h4 j t A hj).restrict (Hn hin A (Qhw.2 ⟨(t,A),Qie hj,rfl⟩)) hs⟩
 | map sh has val =>
  cases B' with
  |box=>exact hle.elim
  |vec=>exact hle.elim
  |loop=>exact hle.elim
  |room=>exact hle.elim
  |ent=>exact hle.elim
  |opq=>exact hle.elim
  |iter=>exact hle.elim
  |look=>exact hle.elim
  |map sh' has' val' =>
   obtain⟨rfl,hle⟩:=hle
   obtain⟨h1,b,h2,es,clock,ks,h3,h4,h5,h6,h7⟩:=h
   refine⟨h1,b,h2,es,clock,ks,h3,h4,h5,fun i k e hi he=>?_,⟨fun k hk hh=>h7.1 k hk ((hle k hk).1.trans hh),h7.2⟩⟩
   obtain⟨g1,g2,g3,g4⟩:=h6 i k e hi he
   obtain⟨e1,e2⟩:=hle k g1
   obtain⟨e2,e3⟩:=e2 g3
   refine⟨g1,g2,by rw[<-e1];exact g3,?_⟩
   rw[<-e2]
   exact g4.restrict (by rw[e2];exact e3) hs
 |ent=>cases B'<;>exact hle.elim
 |opq=>cases B'<;>exact hle.elim
 |look=>cases B'<;>exact hle.elim
 | iter sh has val left cur =>
  cases B' with
  |iter sh' has' val' left' cur' =>
   obtain⟨rfl,rfl,rfl,rfl,rfl⟩:=hle
   exact h
  |_=>exact hle.elim
 | room e sz g n c f =>
  cases B' with
  |ent=>exact hle.elim
  |opq=>exact hle.elim
  |iter=>exact hle.elim
  |look=>exact hle.elim
  |box=>exact hle.elim
  |loop=>exact hle.elim
  |map=>exact hle.elim
  |vec e' sz' g' n' f' =>
   obtain⟨rfl,rfl,rfl,hnn,hf⟩:=hle
   exact X9.restrict h.1 hnn hf hs
  |room e' sz' g' n' c' f' =>
   obtain⟨rfl,rfl,rfl,rfl,hnn,hf⟩:=hle
   exact⟨X9.restrict h.1 hnn hf hs,h.2⟩
theorem P2:∀{l l':List (Option Blk)},LeL nl na l l'->∀(j:Nat) b',l'[j]?=some b'->∃b,l[j]?=some b/\∀B',b'=some B'->∃B,b=some B/\Ly nl na B B'
 |_,[],_,j,b',h=>by simp at h
 |[],_::_,h,_,_,_=>h.elim
 | b :: r,b0 :: s,h,j,b',hj=>by
  obtain⟨h1,h2⟩:=h
  cases j with
  |zero =>
   simp at hj
   subst hj
   refine⟨b,rfl,fun B' e=>?_⟩
   subst e
   simp only at h1
   split at h1
   .exact⟨_,rfl,h1⟩
   .exact h1.elim
  |succ j=>simpa using P2 h2 j b' (by simpa using hj)
theorem Dp {env env':Env}{m m':Mem}{tmps:Array Value}(h:Le env m env' m')(he:Ql env w F σ tmps)(hm:Q3 m σ F w) :
  ∃σ',Ql env' w F σ' tmps/\Q3 m' σ' F w/\Step σ F w σ' F w/\Zj σ σ':=by
 obtain⟨h1,h2,h3,h4⟩:=h
 let σ0:Pls:=fun r=>match m'.at r with
  |none=>none
  |some none=>some none
  |some (some _)=>σ r
 have hat:∀r b',m'.at r=some b'->∃b,m.at r=some b/\∀B',b'=some B'->∃B,b=some B/\Ly (Qp m'.loc) (Qp m'.own) B B':=by
  intro r b' hr
  cases r with
  |loc j=>exact P2 h2 j b' hr
  |arg j=>exact P2 h4 j b' hr
  |bad=>cases hr
 have hlive:∀r B',m'.at r=some (some B')->∃pl B,σ r=some (some pl)/\σ0 r=some (some pl)/\m.at r=some (some B)/\Ly (Qp m'.loc) (Qp m'.own) B B'/\Jx w F σ B pl:=by
  intro r B' hr
  obtain⟨b,hb,hB⟩:=hat r _ hr
  obtain⟨B,rfl,hle⟩:=hB B' rfl
  cases hs:σ r with
  |none=>rw[(hm.dom r).1 hs]at hb;cases hb
  | some q =>
   cases q with
   |none=>rw[(hm.lv r _ hs).1 rfl]at hb;cases hb
   |some pl =>
    obtain⟨B1,hB1,hok⟩:=(hm.lv r _ hs).2 pl rfl
    rw[hb]at hB1
    injection hB1 with hB1
    injection hB1 with hB1
    subst hB1
    exact⟨pl,B,rfl,by simp only[σ0,hr,hs],hb,hle,hok⟩
 have hin:∀r,Yg (Qp m'.loc) (Qp m'.own) r=true->∃b',m'.at r=some b':=by
  intro r hr
  cases r with
  |loc j =>
   have:j<m'.loc.length:=by rw[<-V1];exact Qhf hr
   exact⟨_,Qgy this⟩
  |arg j =>
   have:j<m'.own.length:=by rw[<-V1];exact Qhf hr
   exact⟨_,Qgy this⟩
  |bad=>cases hr
 have hs:∀r q,Yg (Qp m'.loc) (Qp m'.own) r=true->σ r=some q->∃q',σ0 r=some q'/\QLe q q':=by
  intro r q hr hq
  obtain⟨b',hb'⟩:=hin r hr
  cases b' with
  |none=>exact⟨none,by simp only[σ0,hb'],QLe.none q⟩
  |some B'=>exact⟨q,by simp only[σ0,hb',hq],QLe.refl q⟩
 have hsub:∀r pl,σ0 r=some (some pl)->σ r=some (some pl)/\∃B',m'.at r=some (some B'):=by
  intro r pl hr
  simp only[σ0]at hr
  split at hr
  .cases hr
  .cases hr
  .rename_i B' e;exact⟨hr,B',e⟩
 refine⟨σ0,fun t=>?_,⟨fun r=>?_,fun r q hq=>?_,fun r r' p p' b t t' k1 k2 k3 k4=>?_,fun r p b t k1 k2=>?_,hm.fl,hm.gl⟩,⟨rfl,rfl,rfl,Qgx _,Qgx _,fun _ _ _=>rfl,fun _ h=>h,fun _ h=>.inl h,fun b ⟨r,p,t,k1,k2⟩=>.inl ⟨r,p,t,(hsub r p k1).1,k2⟩⟩,fun j q hq=>?_⟩
 · -- the Zs
  have:∀(l:Env),Bm (Qp m'.loc) (Qp m'.own) env l->Vc w F σ0 (get l t) (tmps.getD t undef):=by
   intro l
   induction l with
   |nil=>intro _;exact .junk
   | cons x r ih =>
    intro hl
    obtain⟨k,A⟩:=x
    obtain⟨⟨e1,e2⟩,e3⟩:=hl
    simp only[get]
    cases hk:Nat.beq k t with
    |true =>
     have:=Qh1 hk
     subst this
     simp only[cond_true]
     have hv:=he k
     rw[e1]at hv
     exact hv.restrict e2 hs
    |false=>exact ih e3
  exact this env' h1
 .simp only[σ0]
  split
  .rename_i e;simp[e]
  .rename_i e;simp[e]
  .rename_i B' e
   obtain⟨pl,B,k1,_⟩:=hlive r B' e
   simp[k1,e]
 .simp only[σ0]at hq
  split at hq
  .cases hq
  .rename_i e
   injection hq with hq
   subst hq
   exact⟨fun _=>e,fun pl h=>by cases h⟩
  .rename_i B' e
   obtain⟨pl,B,k1,k2,k3,k4,k5⟩:=hlive r B' e
   rw[k1]at hq
   injection hq with hq
   subst hq
   exact⟨(fun h=>by cases h),fun pl1 h=>by injection h with h;subst h;exact⟨B',e,k5.restrict k4 hs⟩⟩
 .exact hm.inj r r' p p' b t t' (hsub r p k1).1 (hsub r' p' k2).1 k3 k4
 .exact hm.nf r p b t (hsub r p k1).1 k2
 .have hj:j<m.own.length:=by
   rcases Qi6 j m.own.length with h|h
   .exact h
   .rw[(hm.dom (.arg j)).2 (by simp[Mem.at,Qht h])]at hq;cases hq
  exact hs (.arg j) q (Nat.ble_eq_true_of_le (by rw[<-h3,V1];exact hj)) hq
end
theorem Awp.le {P:Program}{N:Nat}{c:Code}{env env':Env}{m m':Mem}{Q:Ja}(h:Le env m env' m')(k:Awp P N c env' m' Q):Awp P N c env m Q :=
 ⟨fun ro lo a w σ F hN hD he hm=>by
  obtain⟨σ',h1,h2,h3,h4⟩:=Dp h he hm
  exact wpIn_mono (k.run ro lo a w σ' F hN (hD.step h3) h1 h2) fun e a2 w2 h5=>Uw h3 h4 h5⟩
theorem Awp.vec {P:Program}{N:Nat}{c:Code}{env:Env}{m:Mem}{Q:Ja}(t e sz:Nat)(f:Nat->List AV)(ht:get env t=.d .nils)
  (k:Awp P N c ((t,.osl m.new 0 0 0)::env) (m.add (.vec e sz 0 0 f)) Q):Awp P N c env m Q :=
 ⟨fun ro lo a w σ F hN hD he hm=>by
  let pl:Pl:=⟨0,sz,none⟩
  obtain⟨g1,g2⟩:=Ur (w':=w) (pl:=pl) (B:=.vec e sz 0 0 f) hm (Qgx _) (fun _ _=>rfl) ⟨rfl,rfl,fun _=>rfl,fun i hi=>absurd hi Om,fun b t h=>by simp[pl]at h⟩ (fun b t h=>by simp[pl]at h)
  have he':Ql ((t,.osl m.new 0 0 0)::env) w F (upd σ m.new (some pl)) a.tmps:=by
   intro k
   simp only[get]
   cases hk:Nat.beq t k with
   |true =>
    have:=Qh1 hk
    subst this
    simp only[cond_true]
    have hv:=he t
    rw[ht]at hv
    refine .osl (J3 σ m.new (some pl)) fun p hp=>?_
    injection hp with hp
    subst hp
    refine⟨Qgx _,fun _=>⟨rfl,rfl,?_⟩⟩
    generalize a.tmps.getD t undef=X at hv
    cases hv with|d hv=>cases hv;rfl
   |false=>exact(he k).mono (fun _ h=>h) (fun _ _=>rfl) g2
  have hst:Step σ F w (upd σ m.new (some pl)) F w:=⟨rfl,rfl,rfl,Qgx _,Qgx _,fun _ _ _=>rfl,fun _ h=>h,fun _ h=>.inl h,Rv fun b t h=>by simp[pl]at h⟩
  exact wpIn_mono (k.run ro lo a w _ F hN (hD.step hst) he' g1) fun e a2 w2 h5=>Uw hst (.of g2) h5⟩
def Q5c {S:Type}(enc:S->Env × Mem)(J:S->Prop)(μ:S->Nat)(s:S)(Q:Ja):Ja:=fun e env m =>
 match e with
 | .normal=>∃s',J s'/\μ s'<μ s/\Le env m (enc s').1 (enc s').2
 | .exit i=>Q (.exit i) env m
 | .goto i=>Q (.goto i) env m
 | .ret=>Q .ret env m
 | .panic ch=>Q (.panic ch) env m
 | .outgrown=>Q .outgrown env m
theorem Q7 {P:Program}{T:Tab}(hT:Qb P T){N:Nat}{c:Code}{env:Env}{m:Mem}{Q:Ja}{S:Type}(enc:S->Env × Mem)(J:S->Prop)(μ:S->Nat)(s0:S)
  (h0:Le env m (enc s0).1 (enc s0).2) (hJ:J s0) (h:∀s,J s->Ev (vc P T N c (enc s).1 (enc s).2 (Q5c enc J μ s Q))):Awp P N (.loop c) env m Q:=by
 refine Awp.le h0 ⟨fun ro lo a w σ F hN hD he hm=>?_⟩
 -- the relation of every round's head
 let I:Nat->Act->World->Prop:=fun n a' w'=>∃s σ' F',μ s=n/\J s/\a'.tmps.size=N/\Ctx ro lo a'.defers σ' F' w'/\Ql (enc s).1 w' F' σ' a'.tmps/\Q3 (enc s).2 σ' F' w'/\Step σ F w σ' F' w'/\Zj σ σ'
 intro b k cs hro hb hroom
 have key:∀n a w',I n a w'->∃e a' w2,lift N Q ro lo σ F w e a' w2/\ArrivesIn (Machine.fenced P (Fen ro)) P (lone (b.atR a (.code c :: .inLoop c::k)) cs w') b k cs e a' w2:=by
  intro n
  induction n using Nat.strongRecOn with
  | _ n ih =>
   rintro a1 w1 ⟨s,σ1,F1,hμ,hJ1,i1,i2,i3,i4,i5,i6⟩
   obtain⟨e,a2,w2,hq,harr⟩:=(Z3 hT c _ _ _ (h s hJ1).o).run ro lo a1 w1 σ1 F1 i1 i2 i3 i4 b (.inLoop c::k) cs hro hb hroom
   obtain⟨env2,m2,σ2,F2,q1,q2,q3,q4,q5,q6,q7⟩:=hq
   have rest:Q e env2 m2->lift N Q ro lo σ F w e a2 w2:=fun hq=>⟨env2,m2,σ2,F2,hq,q2,q3,q4,q5,i5.trans q6,i6.trans q7⟩
   cases e with
   |normal =>
    obtain⟨s',j1,j2,j3⟩:=q1
    obtain⟨σ3,r1,r2,r3,r4⟩:=Dp j3 q4 q5
    obtain⟨e3,a3,w3,hq3,harr3⟩:=ih (μ s') Om a2 w2 ⟨s',σ3,F2,rfl,j1,q2,q3.step r3,r1,r2,(i5.trans q6).trans r3,(i6.trans q7).trans r4⟩
    exact⟨e3,a3,w3,hq3,.of_steps (StepsIn.trans harr (.one (fenced_calm hb hroom rfl) stepR_inLoop)) harr3⟩
   |exit id=>exact⟨_,a2,w2,rest q1,.pass (x:=.inLoop c) rfl (fun _ _=>.inl (by simp)) harr⟩
   |goto l=>exact⟨_,a2,w2,rest q1,.pass (x:=.inLoop c) rfl (fun _ _=>.inl (by simp)) harr⟩
   |ret=>exact⟨_,a2,w2,rest q1,.pass (x:=.inLoop c) rfl (fun _ _=>.inl (by simp)) harr⟩
   |panic ch=>exact⟨_,a2,w2,rest q1,.pass (x:=.inLoop c) rfl (fun _ _=>.inl (by simp)) harr⟩
   |outgrown=>exact⟨_,a2,w2,rest q1,.pass (x:=.inLoop c) rfl (fun _ _=>.inl (by simp)) harr⟩
 obtain⟨e,a',w',hq,harr⟩:=key (μ s0) a w ⟨s0,σ,F,rfl,hJ,hN,hD,he,hm,Step.refl σ F w,Zj.refl σ⟩
 exact⟨e,a',w',hq,.of_steps (.one (fenced_calm hb hroom rfl) stepR_loop) harr⟩
theorem Dq {P:Program}{fn:Func}{tmps:Array Value}{R:Ending->World->Prop}:∀(Ds:List Nat) (w:World),Ds.Nodup->(∀D∈Ds,w.heap[D]?=some (.deferred (some []))) ->
  (∀w':World,w'.os=w.os->w'.tape=w.tape->w'.output=w.output->w'.drawn=w.drawn->w'.heap.size=w.heap.size->(∀b,b ∉ Ds->w'.heap[b]?=w.heap[b]?)->∃v,(results fn tmps).run P w'=.ok v w'/\R (.returned v) w') ->
  LeavesInM (Fen none) 0 P fn tmps R (Ds.map mark) .returning w
 |[],w,_,_,h=>h w rfl rfl rfl rfl rfl fun _ _=>rfl
 | D :: Ds,w,hn,hD,h=>by
  have hlt:D<w.heap.size:=(Qh4.1 (hD D (by simp))).1
  rw[List.nodup_cons]at hn
  rw[Qin]
  unfold LeavesInM
  refine⟨(fun h=>by cases h),.inl ⟨D,_,rfl,run_takeDeferred (hD D (by simp)),Dq Ds _ hn.2 (fun D' hD'=>?_) (fun w' h1 h2 h3 hd h4 h5=>?_)⟩⟩
  .rw[World.putObj_heap_other (k:=D') (r:=D) (fun e=>hn.1 (by rw[<-e];exact hD'))]
   exact hD D' (by simp[hD'])
  .refine h w' h1 h2 h3 hd (h4.trans World.putObj_size) fun b hb=>?_
   simp only[Qho,not_or]at hb
   rw[h5 b hb.2,World.putObj_heap_other hb.1]
def Lx:List AV->List D->Prop
 |[],[]=>True
 | .d y::r,x::s=>DEq y x/\Lx r s
 |_,_=>False
theorem Lx.ok {w:World}{F:Nat->Prop}{σ:Pls}:∀{cs:List AV} {xs:List D},Lx cs xs->cs.length=xs.length/\∀(j:Nat) A x u,cs[j]?=some A->xs[j]?=some x->Vc w F σ A u->Rd w F x u
 |[],[],_=>⟨rfl,fun j A x u h=>by simp at h⟩
 | .d y :: r,x :: s,h=>by
  obtain⟨h1,h2⟩:=Lx.ok (w:=w) (F:=F) (σ:=σ) h.2
  refine⟨by simp[h1],fun j A z u hA hz hv=>?_⟩
  cases j with
  |zero =>
   simp at hA hz
   subst hA;subst hz
   cases hv with|d hv=>exact DEq.ok hv h.1
  |succ j=>exact h2 j A z u (by simpa using hA) (by simpa using hz) hv
 |[],_::_,h=>h.elim
 |A::_,[],h=>by cases A<;>exact h.elim
 | .agg _::_,_::_,h=>h.elim
 | .tup _::_,_::_,h=>h.elim
 | .ifc _ _::_,_::_,h=>h.elim
 | .fn _ _ _::_,_::_,h=>h.elim
 | .ptr _ _ _ _::_,_::_,h=>h.elim
 | .osl _ _ _ _::_,_::_,h=>h.elim
 | .mp _::_,_::_,h=>h.elim
 | .gd _ _::_,_::_,h=>h.elim
 | .junk::_,_::_,h=>h.elim
def Bec (m:Mem)(A:AV)(x:D):Prop :=
 match A with
 | .d y=>DEq y x
 | .osl r g off n=>match x with
  | .sl sz n' f'=>match m.get r with
   |some (.vec _ sz' g' k f)=>sz'=sz/\g'=g/\off+n<=k/\n=n'/\∀i,i<n'->f (off+i)=up (f' i)
   |_=>False
  |_=>False
 | .agg cs=>match x with
  | .agg xs=>cs=up xs\/Lx cs xs
  |_=>False
 | .ifc t (.d y)=>match x with
  | .ifc t' y'=>t=t'/\y=y'
  |_=>False
 |_=>False
def Fin (T:Tab):List ResultVar->List D->Env->Mem->Prop
 |[],[],_,_=>True
 | .tmp t::rs,x::xs,env,m=>Bec m (get env t) x/\Fin T rs xs env m
 | .cell t ty::rs,x::xs,env,m=>(match Rj T m ty (get env t) with
  |some (A,l)=>obs l (Bec m A x)
  |none=>False)/\Fin T rs xs env m
 |_,_,_,_=>False
def Q0t (T:Tab)(rs:List ResultVar)(res:List D):Ja:=fun e env m=>match e with
 | .ret=>Fin T rs res env m
 | .normal=>Fin T rs res env m
 |_=>False
def Yr:Nat->List D->Env
 |_,[]=>[]
 |k,x::r=>(k,.d x)::Yr (k+1) r
section
variable {P:Program}{T:Tab}{w:World}{F:Nat->Prop}{σ:Pls}{m:Mem}
def Zp (F:Nat->Prop)(σ:Pls):Nat->Prop:=fun b=>F b\/Qm σ b
theorem Bec.ok (hm:Q3 m σ F w){A:AV}{x:D}{v:Value}(h:Vc w F σ A v)(e:Bec m A x):Rd w (Zp F σ) x v:=by
 have up':∀{y:D} {u:Value},Rd w F y u->Rd w (Zp F σ) y u:=fun h=>h.mono (fun _ h=>.inl h) (fun _ _=>rfl)
 unfold Bec at e
 split at e
 .cases h with|d h=>exact DEq.ok (up' h) e
 .rename_i r g off n
  split at e<;>try exact e.elim
  rename_i sz n' f'
  split at e<;>try exact e.elim
  rename_i e0 sz' g' k f hB
  obtain⟨rfl,rfl,hk,rfl,hf⟩:=e
  obtain⟨pl,hr,hok,_,hat⟩:=Uz hm h (Mem.get_at hB)
  obtain⟨h0,hsz,hn0,hrow,hl⟩:=hok
  have hsl:=hat h0
  unfold Yn at hsl
  split at hsl
  .obtain⟨rfl,_,rfl⟩:=hsl
   exact .sl ⟨0,0,none⟩ (fun _ _=>undef) (Qgx _) (fun h=>absurd h Om) (fun i hi=>absurd hi Om) (fun i j hi=>absurd hi Om) (fun i j x hi=>absurd hi Om)
  .rename_i b tot hloc
   obtain⟨B,cap,rfl,hnc,hoc,hA⟩:=hsl
   obtain⟨hnt,htm,us,hheap,hlen,hvc⟩:=hl b tot hloc
   have hlen':∀i,i<n->(f' i).length=sz':=fun i hi=>by
    have:=hrow (off+i) Om
    rw[hf i hi,Zb,Qhb]at this
    exact this
   have hcell:∀i j,i<n->j<sz'->∃u,us[(off+i)*sz'+j]?=some u/\u.oneCell'=true/\∀x,(f' i)[j]?=some x->Rd w F x u:=fun i j hi hj=>by
    have hx:(f' i)[j]?=some ((f' i)[j]'(by rw[hlen' i hi];exact hj)):=Qgy _
    obtain⟨u,hu,hv,h1⟩:=hvc (off+i) j (.d _) Om (by rw[hf i hi,Zb,Qhe,hx];rfl)
    refine⟨u,hu,h1,fun x hx'=>?_⟩
    rw[hx]at hx'
    injection hx' with hx'
    subst hx'
    cases hv with|d hv=>exact hv
   refine .sl ⟨b,off*sz',none⟩ (fun i j=>us.getD ((off+i)*sz'+j) undef) hnc (fun hn=>⟨by rw[hA (.inl Om),hsz],.inr ⟨r,pl,tot,hr,hloc⟩⟩) hlen' (fun i j hi hj=>?_) (fun i j x hi hx=>?_)
   .obtain⟨u,hu,h1,_⟩:=hcell i j hi hj
    rw[Vh,cell_of_row w b _ us.toArray e0 (0,0) hheap]
    have e1:off*sz'+(i*sz'+j)=(off+i)*sz'+j:=by rw[Nat.add_mul];omega
    rw[e1]
    simp[hu,h1]
   .have hj:j<sz':=by rw[<-hlen' i hi];exact(Qh7.1 hx).1
    obtain⟨u,hu,_,h2⟩:=hcell i j hi hj
    simp only[Qha,hu,Qi3]
    exact up' (h2 x hx)
 .split at e<;>try exact e.elim
  rcases e with e|e
  .subst e
   cases h with
   |agg hl h =>
    refine .agg (by rw[hl,Zb,Qhb]) fun j x u hx hu=>?_
    have:=h j (.d x) u (by rw[Zb,Qhe,hx];rfl) hu
    cases this with|d h=>exact up' h
  .cases h with
   |agg hl h =>
    obtain⟨g1,g2⟩:=Lx.ok (w:=w) (F:=F) (σ:=σ) e
    refine .agg (by rw[hl,g1]) fun j x u hx hu=>?_
    have hj:=(Qh7.1 hx).1
    have hA:=Qgy (l:=_) (i:=j) (by rw[g1];exact hj)
    exact up' (g2 j _ x u hA hx (h j _ u hA hu))
 .split at e<;>try exact e.elim
  obtain⟨rfl,rfl⟩:=e
  cases h with|ifc h=>cases h with|d h=>exact .ifc (up' h)
 .exact e.elim
def Wa (tmps:Array Value):ResultVar->Sem Value
 | .tmp t=>pure (tmps.getD t undef)
 | .cell a t=>do loadVar t (<-asAddr (tmps.getD a undef))
theorem D9 (hT:Qb P T)(hm:Q3 m σ F w){env:Env}{tmps:Array Value}(he:Ql env w F σ tmps):∀(rs:List ResultVar) (res:List D),Fin T rs res env m ->
  ∃vs:List Value,(rs.mapM (Wa tmps)).run P w=.ok vs w/\vs.length=res.length/\∀(j:Nat) x u,res[j]?=some x->vs[j]?=some u->Rd w (Zp F σ) x u
 |[],[],_=>⟨[],by simp,rfl,fun j x u h=>by simp at h⟩
 | .tmp t::rs,x::xs,h=>by
  obtain⟨h1,h2⟩:=h
  obtain⟨vs,g1,g2,g3⟩:=D9 hT hm he rs xs h2
  refine⟨tmps.getD t undef::vs,by simp[List.mapM_cons,Wa,g1],by simp[g2],fun j y u hy hu=>?_⟩
  cases j with
  |zero=>simp at hy hu;subst hy;subst hu;simpa using(he t |> fun hv=>Bec.ok hm hv h1)
  |succ j=>exact g3 j y u (by simpa using hy) (by simpa using hu)
 | .cell t ty :: rs,x :: xs,h=>by
  obtain⟨h1,h2⟩:=h
  obtain⟨vs,g1,g2,g3⟩:=D9 hT hm he rs xs h2
  split at h1<;>try exact h1.elim
  rename_i A l hl
  obtain⟨hl2,hb⟩:=Zw h1
  obtain⟨u0,hu0,hrun⟩:=D2 hT hm (he t) hl hl2
  have hr:=hrun w (V6.refl F σ w)
  have hptr:∃a,tmps.getD t undef=.pointer (some a):=by
   unfold Instr.loadAt Instr.sureAddr at hr
   generalize tmps.getD t undef=X at hr
   split at hr
   .exact⟨_,rfl⟩
   .simp at hr
  obtain⟨ad,had⟩:=hptr
  rw[had]at hr
  have hr':(loadVar ty ad).run P w=.ok u0 w:=by simpa[Instr.loadAt,Instr.sureAddr] using hr
  refine⟨u0::vs,by simp[List.mapM_cons,Wa,g1,had,asAddr,hr'],by simp[g2],fun j y u hy hu=>?_⟩
  cases j with
  |zero=>simp at hy hu;subst hy;subst hu;exact Bec.ok hm hu0 hb
  |succ j=>exact g3 j y u (by simpa using hy) (by simpa using hu)
 |[],_::_,h=>by cases h
 | .tmp _::_,[],h=>by cases h
 | .cell _ _::_,[],h=>by cases h
theorem Tg {xs:List D}{Q5:List Value}(hl:Q5.length=xs.length)(h:∀(j:Nat) x u,xs[j]?=some x->Q5[j]?=some u->Rd w F x u)(n:Nat):Ql (Yr 0 xs) w F σ (Q5.toArray++Array.replicate n undef):=by
 have key:∀(ys:List D) (k t:Nat),(∀j,ys[j]?=xs[k+j]?)->get (Yr k ys) t=(if k<=t then match ys[t-k]? with|some x=>.d x|none=>.junk else .junk):=by
  intro ys
  induction ys with
  |nil=>intro k t _;simp[Yr,get]
  | cons y r ih =>
   intro k t hy
   simp only[Yr,get]
   cases hk:Nat.beq k t with
   |true =>
    have:=Qh1 hk
    subst this
    simp
   | false =>
    have hne:=Qhv hk
    simp only[cond_false]
    rw[ih (k+1) t (fun j=>by have:=hy (j+1);simp at this;rw[this];congr 1;omega)]
    by_cases hle:k+1<=t
    .rw[if_pos hle,if_pos Om]
     have:t-k=(t-(k+1))+1:=by omega
     rw[this,List.getElem?_cons_succ]
    .rw[if_neg hle,if_neg Om]
 intro t
 rw[key xs 0 t (fun j=>by rw[Qh9]),if_pos (Qh3 _),Nat.sub_zero]
 split
 .rename_i x hx
  have ht:t<Q5.length:=by rw[hl];exact(Qh7.1 hx).1
  have hu:Q5[t]?=some Q5[t]:=Qgy ht
  have:(Q5.toArray++Array.replicate n undef).getD t undef=Q5[t]:=by
   rw[Qhk,Array.getElem?_append_left (by simpa using ht)]
   simp[hu]
  rw[this]
  exact .d (h t x _ hx hu)
 .exact .junk
def Q5a (P:Program)(rs:List ResultVar)(res:List D)(e:Exit)(env:Env)(m:Mem):Prop:=(e=.normal\/e=.ret)/\∀(w:World) (F:Nat->Prop) (σ:Pls) (tmps:Array Value),Q3 m σ F w->Ql env w F σ tmps ->
  ∃vs:List Value,(rs.mapM (Wa tmps)).run P w=.ok vs w/\vs.length=res.length/\∀(j:Nat) x u,res[j]?=some x->vs[j]?=some u->Rd w (Zp F σ) x u
theorem Ez (hT:Qb P T){f:FuncId}{fn:Func}{c:Code}{N:Nat}{rs:List ResultVar}{args res:List D}(hf:P.funcs[f]?=some fn)(hb:fn.body=some c)(hN:fn.ntmps=N)(hrs:fn.results=rs.toArray)
  (hname:(fn.name == "runtime.NumGoroutine")=false) (hargs:Nat.ble args.length N=true) {Q:Ja} (hQ:∀e env m,Q e env m->Q5a P rs res e env m) (h:Ev (vc P T N c (Yr 0 args) ⟨[],[]⟩ Q)):Pure P f args res:=by
 refine⟨⟨fn,hf,hname,by simp[hb]⟩,fun F w Q5 hF hG hl hv=>?_⟩
 refine Y7.1 (callsIn_of_wp_marks (F:=Fen none) (n:=0) hf hb trivial ?_ rfl)
 let σ0:Pls:=fun _=>none
 have hm0:Q3 ⟨[],[]⟩ σ0 F w:=⟨fun r=>by cases r<;>simp[σ0,Mem.at],fun r q h=>(by cases h),fun r r' p p' b t t' h=>(by cases h),fun r p b t h=>(by cases h),hF,hG⟩
 have hle:=Qhf hargs
 have hwp:=(Z3 hT c (Yr 0 args) ⟨[],[]⟩ Q h.o).run none ⟨w.heap.size,[]⟩ {tmps:=Q5.toArray++Array.replicate (fn.ntmps-Q5.toArray.size) undef,defers:=[]} w σ0 F (by simp[hN];omega) Ctx.nil (Tg hl hv _) hm0
 refine wpIn_mono hwp ?_
 rintro e a w1 ⟨env',m',σ',F',q1,q2,q3,q4,q5,q6,q7⟩
 obtain⟨hexit,hfin⟩:=hQ e env' m' q1
 have hend:LeavesInM (Fen none) 0 P fn a.tmps (fun e w'=>∃v F',e=.returned v/\Qn F w F' w'/\∀σ,Vc w' F' σ (Vu res) v) a.defers .returning w1:=by
  obtain⟨Ds,hDs,hnd,hD⟩:=q3.marks
  rw[hDs,Qih]
  refine Dq Ds w1 hnd (fun D h=>(hD D h).2.1) fun w' k1 k2 k3 kd k4 k5=>?_
  have kF:∀b,F' b->w'.heap[b]?=w1.heap[b]?:=fun b hb=>k5 b fun hm=>(hD b hm).2.2.2 hb
  have kO:∀b,Qm σ' b->w'.heap[b]?=w1.heap[b]?:=fun b hb=>k5 b fun hm=>(hD b hm).2.2.1 hb
  replace q4:Ql env' w' F' σ' a.tmps:=q4.mono (fun _ h=>h) kF (SLe.refl σ')
  replace q5:Q3 m' σ' F' w':=q5.world Om fun b hb=>by
   rcases hb with hb|hb
   .exact kF b hb
   .exact kO b hb
  replace q6:Step σ0 F w σ' F' w':=⟨k1.trans q6.os,k2.trans q6.tape,k3.trans q6.output,Qhx q6.drawn (Qhz kd.symm),by rw[k4];exact q6.size,fun b hb ho=>(k5 b fun hm=>by have:w.heap.size<=b:=(hD b hm).1;omega).trans (q6.keep b hb ho),q6.fro,q6.fro',q6.own⟩
  obtain⟨vs,g1,g2,g3⟩:=hfin _ _ _ _ q5 q4
  have hrun:(results fn a.tmps).run P w'=.ok (if h:vs.toArray.size=1 then vs.toArray[0] else .tuple vs.toArray) w':=by
   have e:results fn a.tmps=(do let vs <-fn.results.mapM (Wa a.tmps);pure (if h:vs.size=1 then vs[0] else .tuple vs)):=by
    unfold results
    congr 1
   rw[e,hrs,Array.mapM_eq_mapM_toList]
   simp[g1]
  refine⟨_,hrun,_,Zp F' σ',rfl,⟨q6.os,q6.tape,q6.output,q6.drawn,q6.size,fun b hb=>q6.keep b hb (fun⟨r,p,t,h1,_⟩=>by cases h1),fun b hb=>.inl (q6.fro b hb),fun b hb=>?_,fun b hb=>?_⟩,fun σ=>?_⟩
  .rcases hb with hb|hb
   .rcases q6.fro' b hb with h1|⟨r,p,t,h1,_⟩|h1
    .exact .inl h1
    .cases h1
    .exact .inr h1
   .rcases q6.own b hb with ⟨r,p,t,h1,_⟩|h1
    .cases h1
    .exact .inr h1
  .rcases hb with hb|⟨r,p,t,h1,h2⟩
   .exact q5.fl b hb
   .exact(q5.nf r p b t h1 h2).2
  .have tup:Vc w' (Zp F' σ') σ (.tup (up res)) (.tuple vs.toArray):=.tup (by rw[Zb,Qhb,g2]) fun j A u hA hu=>by
    obtain⟨x,hx,rfl⟩:=Ue hA
    exact .d (g3 j x u hx hu)
   match res,vs,g2,g3,tup with
   |[],[],_,_,tup=>simpa[Vu] using tup
   |[x],[v],_,g3,_=>simpa[Vu] using Vc.d (g3 0 x v rfl rfl)
   |x::y::xs,a::b::vs,_,_,tup=>simpa[Vu] using tup
   |[],_::_,h,_,_=>simp at h
   |_::_,[],h,_,_=>simp at h
   |[_],_::_::_,h,_,_=>simp at h
   |_::_::_,[_],h,_,_=>simp at h
 rcases hexit with rfl|rfl<;>exact hend
theorem Q4 (hT:Qb P T){f:FuncId}{fn:Func}{c:Code}{N:Nat}{rs:List ResultVar}{args res:List D}(hf:P.funcs[f]?=some fn)(hb:fn.body=some c)(hN:fn.ntmps=N)(hrs:fn.results=rs.toArray)
  (hname:(fn.name == "runtime.NumGoroutine")=false) (hargs:Nat.ble args.length N=true) (h:Ev (vc P T N c (Yr 0 args) ⟨[],[]⟩ (Q0t T rs res))):Pure P f args res :=
 Ez hT hf hb hN hrs hname hargs (Q:=Q0t T rs res) (fun e env m hq=>by
  cases e with
  |normal=>exact⟨.inl rfl,fun w F σ tmps hm he=>D9 hT hm he rs res hq⟩
  |ret=>exact⟨.inr rfl,fun w F σ tmps hm he=>D9 hT hm he rs res hq⟩
  |_=>exact hq.elim) h
end
end Go.Ab
