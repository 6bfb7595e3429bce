import Derived.Test.YtmlhghddfobmmaaGreatDoorEngAE
namespace Go.Ab
set_option linter.unusedSimpArgs false
set_option linter.unusedVariables false
def inK (ks:List Nat):Ref->Bool
 | .loc j=>ks.elem j
 |_=>false
def Ld (g:Nat->Option Blk->Option Blk):Nat->List (Option Blk)->List (Option Blk)
 |_,[]=>[]
 |i,b::r=>g i b::Ld g (i+1) r
theorem E7 (g:Nat->Option Blk->Option Blk):∀(l:List (Option Blk)) (i j:Nat),(Ld g i l)[j]?=(l[j]?).map (g (i+j))
 |[],_,_=>by simp[Ld]
 |b::r,i,0=>by simp[Ld]
 | b :: r,i,j + 1=>by
   simp only[Ld,List.getElem?_cons_succ]
   rw[E7 g r (i+1) j,show i+1+j=i+(j+1) by omega]
def Mem.only (m:Mem)(ks:List Nat):Mem:=⟨Ld (fun i b=>bif ks.elem i then b else none) 0 m.loc,dead m.own⟩
def Mem.less (m:Mem)(ks:List Nat):Mem:=⟨Ld (fun i b=>bif ks.elem i then none else b) 0 m.loc,m.own⟩
theorem Q2p (m:Mem)(ks:List Nat)(r:Ref):(m.only ks).at r=(m.at r).map fun b=>bif inK ks r then b else none:=by
 cases r with
 |loc j=>simp only[Mem.at,Mem.only,E7,inK,Qh9]
 |arg j=>simp only[Mem.at,Mem.only,Ol,inK,cond_false]
 |bad=>rfl
theorem Q1o (m:Mem)(ks:List Nat)(r:Ref):(m.less ks).at r=(m.at r).map fun b=>bif inK ks r then none else b:=by
 cases r with
 |loc j=>simp only[Mem.at,Mem.less,E7,inK,Qh9]
 |arg j=>simp only[Mem.at,Mem.less,inK,cond_false,Option.map_id_fun',id]
 |bad=>rfl
def kept (σ:Pls)(ks:List Nat):Pls:=fun r=>bif inK ks r then σ r else(σ r).map fun _=>none
def X6 (σ:Pls)(ks:List Nat):Pls:=fun r=>bif inK ks r then(σ r).map fun _=>none else σ r
section
variable {P:Program}{w:World}{F:Nat->Prop}{σ:Pls}{m:Mem}{ks:List Nat}
theorem Rq {r:Ref}{pl:Pl}(h:kept σ ks r=some (some pl)):inK ks r=true/\σ r=some (some pl):=by
 unfold kept at h
 cases e:inK ks r with
 |true=>rw[e]at h;exact⟨rfl,h⟩
 |false=>rw[e]at h;simp at h
theorem C2 {r:Ref}{pl:Pl}(h:X6 σ ks r=some (some pl)):inK ks r=false/\σ r=some (some pl):=by
 unfold X6 at h
 cases e:inK ks r with
 |true=>rw[e]at h;simp at h
 |false=>rw[e]at h;exact⟨rfl,h⟩
theorem Nv:SLe σ (kept σ ks):=fun r q hq=>by
 unfold kept
 cases inK ks r with
 |true=>exact⟨q,hq,QLe.refl q⟩
 |false=>exact⟨none,by simp[hq],QLe.none q⟩
theorem G4:SLe σ (X6 σ ks):=fun r q hq=>by
 unfold X6
 cases inK ks r with
 |true=>exact⟨none,by simp[hq],QLe.none q⟩
 |false=>exact⟨q,hq,QLe.refl q⟩
theorem Dj (hm:Q3 m σ F w):Q3 (m.only ks) (kept σ ks) F w where
 dom r:=by
  rw[Q2p]
  unfold kept
  cases inK ks r<;>simp[hm.dom r]
 lv r q hq:=by
  rw[Q2p]
  cases e:inK ks r with
  | true =>
    have hs:σ r=some q:=by simpa[kept,e] using hq
    refine⟨fun h=>by rw[(hm.lv r q hs).1 h];rfl,fun pl h=>?_⟩
    obtain⟨B,h1,h2⟩:=(hm.lv r q hs).2 pl h
    exact⟨B,by rw[h1];rfl,h2.mono (fun _ h=>h) (fun _ _=>rfl) Nv (fun _ _ _=>rfl)⟩
  | false =>
    have hs:(σ r).map (fun _=>(none:Option Pl))=some q:=by simpa[kept,e] using hq
    rw[Qif]at hs
    obtain⟨q0,h1,rfl⟩:=hs
    refine⟨fun _=>?_,fun pl h=>by cases h⟩
    cases h2:m.at r with
    |none=>rw[(hm.dom r).2 h2]at h1;cases h1
    |some b=>rfl
 inj r r' pl pl' b t t' h1 h2 h3 h4:=hm.inj r r' pl pl' b t t' (Rq h1).2 (Rq h2).2 h3 h4
 nf r pl b t h1 h2:=hm.nf r pl b t (Rq h1).2 h2
 fl:=hm.fl
 gl:=hm.gl
theorem C1 (hm:Q3 m σ F w):Q3 (m.less ks) (X6 σ ks) (Zp F (kept σ ks)) w where
 dom r:=by
  rw[Q1o]
  unfold X6
  cases inK ks r<;>simp[hm.dom r]
 lv r q hq:=by
  rw[Q1o]
  cases e:inK ks r with
  | false =>
    have hs:σ r=some q:=by simpa[X6,e] using hq
    refine⟨fun h=>by rw[(hm.lv r q hs).1 h];rfl,fun pl h=>?_⟩
    obtain⟨B,h1,h2⟩:=(hm.lv r q hs).2 pl h
    exact⟨B,by rw[h1];rfl,h2.mono (fun _ h=>.inl h) (fun _ _=>rfl) G4 (fun _ _ _=>rfl)⟩
  | true =>
    have hs:(σ r).map (fun _=>(none:Option Pl))=some q:=by simpa[X6,e] using hq
    rw[Qif]at hs
    obtain⟨q0,h1,rfl⟩:=hs
    refine⟨fun _=>?_,fun pl h=>by cases h⟩
    cases h2:m.at r with
    |none=>rw[(hm.dom r).2 h2]at h1;cases h1
    |some b=>rfl
 inj r r' pl pl' b t t' h1 h2 h3 h4:=hm.inj r r' pl pl' b t t' (C2 h1).2 (C2 h2).2 h3 h4
 nf r pl b t h1 h2:=by
  obtain⟨e1,e2⟩:=C2 h1
  refine⟨fun h=>?_,(hm.nf r pl b t e2 h2).2⟩
  rcases h with h|⟨r',pl',t',h3,h4⟩
  .exact(hm.nf r pl b t e2 h2).1 h
  .obtain⟨e3,e4⟩:=Rq h3
   have:=hm.inj r r' pl pl' b t t' e2 e4 h2 h4
   subst this
   rw[e1]at e3
   cases e3
 fl b h:=by
  rcases h with h|⟨r',pl',t',h3,h4⟩
  .exact hm.fl b h
  .exact(hm.nf r' pl' b t' (Rq h3).2 h4).2
 gl:=hm.gl.mono (fun _ h=>.inl h) fun _ _=>rfl
theorem Lt (hm:Q3 m σ F w):Step σ F w (X6 σ ks) (Zp F (kept σ ks)) w :=
 ⟨rfl,rfl,rfl,Qgx _,Qgx _,fun _ _ _=>rfl,fun _ h=>.inl h,fun b h=>by
  rcases h with h|⟨r',pl',t',h3,h4⟩
  .exact .inl h
  .exact .inr (.inl ⟨r',pl',t',(Rq h3).2,h4⟩),fun b ⟨r,pl,t,h1,h2⟩=>.inl ⟨r,pl,t,(C2 h1).2,h2⟩⟩
theorem Qz.frz {f:FuncId}{as:List AV}{dargs:List D}{K:AV->Mem->Prop}(ks:List Nat)(ha:Vd (m.only ks) as dargs)(h:Qz P f (up dargs) (m.less ks) K):Qz P f as m K :=
 ⟨h.can,fun σ F w Q5 hm hv=>by
  have hv1:Jt w F (kept σ ks) as Q5:=⟨hv.1,fun j A u hA hu=>(hv.2 j A u hA hu).mono (fun _ h=>h) (fun _ _=>rfl) Nv⟩
  obtain⟨a1,a2⟩:=ha.args (Dj hm) hv1
  have hv2:Jt w (Zp F (kept σ ks)) (X6 σ ks) (up dargs) Q5:=⟨by rw[a1,Zb,Qhb],fun j A u hA hu=>by
   obtain⟨x,hx,rfl⟩:=Ue hA
   exact .d (a2 j x u hx hu)⟩
  refine(h.run _ _ w Q5 (C1 hm) hv2).mono ?_
  rintro e w' ⟨v,A,m',σ',F',q1,q2,q3,q4,q5,q6⟩
  exact⟨v,A,m',σ',F',q1,q2,q3,q4,(Lt hm).trans q5,fun r q hq=>by
   obtain⟨p1,k1,k2⟩:=(G4 (ks:=ks)) r q hq
   obtain⟨p2,k3,k4⟩:=q6 r p1 k1
   exact⟨p2,k3,k2.trans k4⟩⟩⟩
theorem Awp.frz {N:Nat}{c:Code}{env:Env}{Q:Ja}(ks:List Nat)(t:Nat)(x:D)(hb:J9 (m.only ks) (get env t) x)(k:Awp P N c ((t,.d x)::env) (m.less ks) Q):Awp P N c env m Q :=
 ⟨fun ro lo a w σ F hN hD he hm=>by
  have he':Ql ((t,.d x)::env) w (Zp F (kept σ ks)) (X6 σ ks) a.tmps:=by
   intro k
   simp only[get]
   cases hk:Nat.beq t k with
   | true =>
     have:=Qh1 hk
     subst this
     simp only[cond_true]
     exact .d (J9.ok (Dj hm) hb ((he t).mono (fun _ h=>h) (fun _ _=>rfl) Nv))
   |false=>exact(he k).mono (fun _ h=>.inl h) (fun _ _=>rfl) G4
  exact wpIn_mono (k.run ro lo a w _ _ hN (hD.step (Lt hm)) he' (C1 hm)) fun e a2 w2 h5=>Uw (Lt hm) (.of G4) h5⟩
end
end Go.Ab
