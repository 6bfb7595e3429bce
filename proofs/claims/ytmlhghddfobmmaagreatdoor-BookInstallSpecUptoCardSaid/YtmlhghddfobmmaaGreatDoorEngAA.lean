import Derived.Test.YtmlhghddfobmmaaGreatDoorEngZ
namespace Go.Ab
set_option linter.unusedSimpArgs false
set_option linter.unusedVariables false
structure Row where
 idx:Nat
 tmp:Nat
 val:AV
 mem:Mem
def De:Op->Option Nat
 | .call {callee:=.builtin .append,args,..}=>match args.toList with
  | .tmp t::_=>some t
  |_=>none
 |_=>none
def No (t:Nat):List Oper->Bool
 |[]=>false
 |o::r=>(match De o.op with
  |some u=>Nat.beq u t
  |none=>false)||No t r
def Gd (full:List Oper)(o:Oper):Bool:=match o.guard with
 |some _=>false
 | none=>match o.dst with
  |none=>false
  |some d=>match o.op with
   | .buildSlice _ _ _=>No d full
   | .call {callee:=.builtin .append,..}=>true
   |_=>false
def Dd (full:List Oper):List Oper->Bool
 |[]=>false
 |o::r=>Gd full o||Dd full r
def Mt (t:Nat):List Row->Option (Row × List Row)
 |[]=>none
 |r::l=>bif Nat.beq r.tmp t then some (r,l) else match Mt t l with
  |some (x,l')=>some (x,r::l')
  |none=>none
def Kc (op:Op)(l:List Row):Option Row × List Row:=match De op with
 |some t=>match Mt t l with
  |some (x,l')=>(some x,l')
  |none=>(none,l)
 |none=>(none,l)
def K5 (x:Option Row)(e:Env):Env:=match x with
 |some r=>(r.tmp,r.val)::e
 |none=>e
def B4:Option Row->Mem
 |some r=>r.mem
 |none=>⟨[],[]⟩
def Uy:Env->Env
 |[]=>[]
 |(t,A)::r=>(t,match A with
  | .d x=>.d x
  |_=>.junk)::Uy r
inductive Q5b (n:Nat)(f:Nat->List AV)(K:(Nat->List D)->Prop):Prop where
 |mk (h:Nat->List D) (e:∀i,i<n->f i=up (h i)) (k:K h)
def Ca (v:AV)(mc:Mem)(K:AV->Prop):Prop:=match v with
 | .osl r g off n=>match mc.get r with
  |some (.vec _ sz g' k f)=>bif Nat.beq off 0 then obs [g'=g,k=n] (Q5b k f fun h=>Ev (K (.d (.sl sz n h)))) else False
  |_=>False
 |_=>False
noncomputable def vcX (P:Program)(T:Tab)(full:List Oper)(m:Mem)(ops:List Oper):Nat->Env->List Row->(Env->Prop)->Prop :=
 List.rec (motive:=fun _=>Nat->Env->List Row->(Env->Prop)->Prop) (fun _ env _ K=>K env) (fun o _ ih k env rows K=>bif Gd full o then
   match Kc o.op rows with
   | (x,rest)=>match Gq T (K5 x (Uy (sel env (tmpsOf o.op)))) (B4 x) o.op with
    |none=>False
    | some (v,mc,l)=>match o.dst with
     |none=>False
     |some d=>obs l (frc v fun v=>Gt mc fun mc=>bif No d full then ih (k+1) ((d,.junk)::env) (⟨k,d,v,mc⟩::rest) K
      else Ca v mc fun A=>ih (k+1) ((d,A)::env) rest K)
  else match o.guard with
  |none=>X8 P T m (sel env (tmpsOf o.op)) o fun v=>J7 env o.dst v fun env=>ih (k+1) env rows K
  | some (j,want)=>match guardOf full (sel env (Yb full (some (j,want)))) j want with
   |none=>False
   |some g=>match Xi T (sel env (tmpsOf o.op)) m o.op with
    |some (v,l)=>obs (under g l) (frc v fun v=>J7 env o.dst (.gd g v) fun env=>ih (k+1) env rows K)
    |none=>Br g (Ev (X8 P T m (sel env (tmpsOf o.op)) o fun v=>J7 env o.dst v fun env=>ih (k+1) env rows K)) (Ev (J7 env o.dst (.gd false (.d (.bool false))) fun env=>ih (k+1) env rows K))) ops
theorem Qgk (P:Program)(T:Tab)(full:List Oper)(m:Mem)(o:Oper)(rest:List Oper)(k:Nat)(env:Env)(rows:List Row)(K:Env->Prop):vcX P T full m (o::rest) k env rows K=bif Gd full o then
   match Kc o.op rows with
   | (x,rest')=>match Gq T (K5 x (Uy (sel env (tmpsOf o.op)))) (B4 x) o.op with
    |none=>False
    | some (v,mc,l)=>match o.dst with
     |none=>False
     |some d=>obs l (frc v fun v=>Gt mc fun mc=>bif No d full then vcX P T full m rest (k+1) ((d,.junk)::env) (⟨k,d,v,mc⟩::rest') K
      else Ca v mc fun A=>vcX P T full m rest (k+1) ((d,A)::env) rest' K)
  else match o.guard with
  |none=>X8 P T m (sel env (tmpsOf o.op)) o fun v=>J7 env o.dst v fun env=>vcX P T full m rest (k+1) env rows K
  | some (j,want)=>match guardOf full (sel env (Yb full (some (j,want)))) j want with
   |none=>False
   |some g=>match Xi T (sel env (tmpsOf o.op)) m o.op with
    |some (v,l)=>obs (under g l) (frc v fun v=>J7 env o.dst (.gd g v) fun env=>vcX P T full m rest (k+1) env rows K)
    |none=>Br g (Ev (X8 P T m (sel env (tmpsOf o.op)) o fun v=>J7 env o.dst v fun env=>vcX P T full m rest (k+1) env rows K)) (Ev (J7 env o.dst (.gd false (.d (.bool false))) fun env=>vcX P T full m rest (k+1) env rows K)):=rfl
structure Chg (F:Nat->Prop)(w:World)(B:Nat->Prop)(F':Nat->Prop)(w':World):Prop where
 os:w'.os=w.os
 tape:w'.tape=w.tape
 output:w'.output=w.output
 drawn:w.drawn<=w'.drawn
 size:w.heap.size<=w'.heap.size
 keep:∀b,b<w.heap.size->¬ B b->w'.heap[b]?=w.heap[b]?
 fro:∀b,F b->F' b
 fro':∀b,F' b->F b\/B b\/w.heap.size<=b
 lt:∀b,F' b->b<w'.heap.size
section
variable {F F0 F':Nat->Prop}{w w0 w':World}{B:Nat->Prop}{m:Mem}{σ:Pls}
theorem Qn.chg (h:Qn F w F' w'):Chg F w B F' w' :=
 ⟨h.os,h.tape,h.output,h.drawn,h.size,fun b hb _=>h.keep b hb,h.fro,fun b hb=>(h.fro' b hb).elim .inl fun h=>.inr (.inr h),h.lt⟩
theorem Chg.grew (h0:Qn F0 w0 F w)(h:Chg F w B F' w')(hB:∀b,B b->w0.heap.size<=b):Qn F0 w0 F' w' :=
 ⟨h.os.trans h0.os,h.tape.trans h0.tape,h.output.trans h0.output,Qhx h0.drawn h.drawn,Qhx h0.size h.size,
  fun b hb=>(h.keep b (Qic hb h0.size) (fun hBb=>by have:=hB b hBb;omega)).trans (h0.keep b hb),fun b hb=>h.fro b (h0.fro b hb),
  fun b hb=>by
   rcases h.fro' b hb with h1|h1|h1
   .exact h0.fro' b h1
   .exact .inr (hB b h1)
   .exact .inr (Qhx h0.size h1),h.lt⟩
theorem Chg.mem (hm:Q3 m σ F w)(h:Chg F w B F' w')(hB:∀b,B b->¬ Qm σ b)(hBF:∀b,B b->¬ F b):Q3 m σ F' w':=by
 have hk:∀b,F b->w'.heap[b]?=w.heap[b]?:=fun b hb=>h.keep b (hm.fl b hb) fun h2=>hBF b h2 hb
 refine⟨hm.dom,fun r q hq=>⟨(hm.lv r q hq).1,fun pl e=>?_⟩,hm.inj,fun r pl b t h1 h2=>⟨fun hF=>?_,Qic (hm.nf r pl b t h1 h2).2 h.size⟩,h.lt,hm.gl.mono h.fro hk⟩
 .obtain⟨B',hB',hok⟩:=(hm.lv r q hq).2 pl e
  exact⟨B',hB',hok.mono h.fro hk (SLe.refl σ) (fun b t hl=>h.keep b (hm.nf r pl b t (by rw[hq,e]) hl).2 fun hb=>hB b hb ⟨r,pl,t,by rw[hq,e],hl⟩)⟩
 .have hnf:=hm.nf r pl b t h1 h2
  rcases h.fro' b hF with h3|h3|h3
  .exact hnf.1 h3
  .exact hB b h3 ⟨r,pl,t,h1,h2⟩
  .omega
theorem H3 (hm:Q3 m σ F w):∀b,Qm σ b->¬ F b/\b<w.heap.size:=fun b ⟨r,pl,t,h1,h2⟩=>hm.nf r pl b t h1 h2
theorem Chg.frozen (hm:Q3 m σ F w)(h:Chg F w B F' w')(hBF:∀b,B b->¬ F b):∀b,F b->w'.heap[b]?=w.heap[b]?:=fun b hb=>h.keep b (hm.fl b hb) fun h2=>hBF b h2 hb
end
def BOf:Option Row->Pls->Nat->Prop
 |none,_=>fun _=>False
 |some _,σ=>Qm σ
def Kj (P:Program)(σ σr:Pls)(F:Nat->Prop)(w:World)(A:AV)(took made:Option Row)(u:Value)(w2:World):Prop :=
 ∃F2,Chg F w (BOf took σr) F2 w2/\Vc w2 F2 σ A u/\∀r,made=some r->∃σ2,Q3 r.mem σ2 F2 w2/\Vc w2 F2 σ2 r.val u/\∀b,Qm σ2 b->BOf took σr b\/w.heap.size<=b
def Hl (P:Program)(σ σr:Pls)(F:Nat->Prop)(w:World)(A:AV)(took made:Option Row):Result Next->Prop
 | .ok (.value u) w2=>Kj P σ σr F w A took made u w2
 | .ok .skip w2=>Kj P σ σr F w A took made undef w2
 | .ok (.enter f args) w2=>took=none/\made=none/\w2=w/\Calls P f args w fun e w3=>∃u F3,e=.returned u/\Qn F w F3 w3/\Vc w3 F3 σ A u
 |_=>False
def Mz (P:Program)(m:Mem)(σ:Pls)(full:List Oper)(o:Oper)(env:Env)(A:AV)(took made:Option Row):Prop :=
 ∀(F:Nat->Prop) (w:World) (a:Act) (σr:Pls),Q3 m σ F w->(∀t∈Zs full o,Vc w F σ (get env t) (a.tmps.getD t undef)) ->
  (∀r,took=some r->Q3 r.mem σr F w/\Vc w F σr r.val (a.tmps.getD r.tmp undef)) ->
  (Region.wanted o (yielded full.toArray a.tmps)=true->Hl P σ σr F w A took made ((execOp a.eval o).run P w)) /\
  (Region.wanted o (yielded full.toArray a.tmps)=false->took=none/\made=none/\∀w F,Vc w F σ A undef)
section
variable {P:Program}{T:Tab}{m:Mem}{σ:Pls}
theorem V7.x {F:Nat->Prop}{w:World}{A:AV}{σr:Pls}:∀{r:Result Next},V7 P σ F w A r->Hl P σ σr F w A none none r
 | .ok (.value u) w2,⟨F2,h1,h2⟩=>⟨F2,h1.chg,h2,fun r h=>by cases h⟩
 | .ok (.enter f args) w2,⟨h1,h2⟩=>⟨rfl,rfl,h1,h2⟩
theorem Ui.x {full:List Oper}{o:Oper}{env:Env}{A:AV}(h:Ui P m σ full o env A):Mz P m σ full o env A none none :=
 fun F w a σr hm hs _=>⟨fun hw=>((h F w a hm hs).1 hw).x,fun hw=>⟨rfl,rfl,(h F w a hm hs).2 hw⟩⟩
theorem Qa3 (e:Env)(t:Nat):get (Uy e) t=match get e t with
  | .d x=>.d x
  |_=>.junk:=by
 induction e with
 |nil=>rfl
 |cons p r ih =>
  obtain⟨k,A⟩:=p
  simp only[Uy,get]
  cases Nat.beq k t with
  |true=>rfl
  |false=>exact ih
theorem Qce {env:Env}{ts:List Nat}{w:World}{F:Nat->Prop}{σ σ':Pls}{tmps:Array Value}(h:∀t∈ts,Vc w F σ (get env t) (tmps.getD t undef)):Ql (Uy (sel env ts)) w F σ' tmps:=fun t=>by
 rw[Qa3]
 rcases Sk env t ts with ⟨h1,h2⟩|h2
 .rw[h2]
  have:=h t h1
  split
  .rename_i x e
   rw[e]at this
   cases this with|d h=>exact .d h
  .exact .junk
 .rw[h2];exact .junk
theorem Qf5 {e:Env}{w:World}{F:Nat->Prop}{σ:Pls}{tmps:Array Value}{x:Option Row}(h:Ql e w F σ tmps)(hx:∀r,x=some r->Vc w F σ r.val (tmps.getD r.tmp undef)):Ql (K5 x e) w F σ tmps:=by
 cases x with
 |none=>exact h
 | some r =>
  intro t
  simp only[K5,get]
  cases hb:Nat.beq r.tmp t with
  |false=>exact h t
  |true =>
   have:=Qh1 hb
   subst this
   exact hx r rfl
def A9 (x:Option Row)(σr:Pls):Pls:=match x with
 |none=>fun _=>none
 |some _=>σr
theorem T5 (hT:Qb P T){full:List Oper}{o:Oper}{env:Env}{x:Option Row}{v:AV}{mc:Mem}{l:List Prop}(hg:o.guard=none)(h:Gq T (K5 x (Uy (sel env (tmpsOf o.op)))) (B4 x) o.op=some (v,mc,l))(hl:∀p∈l,p)
  {F:Nat->Prop} {w:World} {a:Act} {σr:Pls} (hm:Q3 m σ F w) (hs:∀t∈Zs full o,Vc w F σ (get env t) (a.tmps.getD t undef)) (hx:∀r,x=some r->Q3 r.mem σr F w/\Vc w F σr r.val (a.tmps.getD r.tmp undef)) :
  Region.wanted o (yielded full.toArray a.tmps)=true/\∃n u w' σ',(execOp a.eval o).run P w=.ok n w'/\(n=.value u\/(n=.skip/\u=undef))/\Vc w' F σ' v u/\Q3 mc σ' F w'/\Chg F w (BOf x σr) F w'/\∀b,Qm σ' b->BOf x σr b\/w.heap.size<=b:=by
 refine⟨by simp[Region.wanted,hg],?_⟩
 have hm0:Q3 (B4 x) (A9 x σr) F w:=by
  cases x with
  |none=>exact Q1v hm.fl hm.gl
  |some r=>exact(hx r rfl).1
 have he:Ql (K5 x (Uy (sel env (tmpsOf o.op)))) w F (A9 x σr) a.tmps:=Qf5 (Qce fun t ht=>hs t (Yu.2 (.inl ht))) fun r hr=>by
  subst hr
  exact(hx r rfl).2
 obtain⟨n,u,w',σ',h1,h2,h3,h4,h5,h6⟩:=Q0e hT hm0 he h hl
 have hO:∀b,Qm (A9 x σr) b->BOf x σr b:=fun b hb=>by
  cases x with
  |none =>
   obtain⟨r,pl,t,h,_⟩:=hb
   cases h
  |some r=>exact hb
 exact⟨n,u,w',σ',h1,h2,h3,h4,⟨h5.os,h5.tape,h5.output,h5.drawn,h5.size,fun b hb hnb=>h5.keep b hb fun ho=>hnb (hO b ho),fun _ h=>h,fun _ h=>.inl h,h4.fl⟩,fun b hb=>(h5.own b hb).imp (hO b) id⟩
theorem Q4n {t:Nat}:∀{l:List Row} {x:Row} {l':List Row},Mt t l=some (x,l')->x∈l/\x.tmp=t/\(∀r∈l',r∈l)/\((l.map (·.idx)).Nodup->(l'.map (·.idx)).Nodup/\∀r∈l',r.idx≠x.idx)
 |[],x,l',h=>by simp[Mt]at h
 | r :: l,x,l',h=>by
  simp only[Mt]at h
  cases hb:Nat.beq r.tmp t with
  |true =>
   rw[hb]at h
   simp only[cond_true,Qgz,Qh6]at h
   obtain⟨rfl,rfl⟩:=h
   refine⟨by simp,Qh1 hb,fun r hr=>by simp[hr],fun hn=>?_⟩
   simp only[Qin,List.nodup_cons]at hn
   exact⟨hn.2,fun r' hr' e=>hn.1 (by rw[<-e];exact Qhw.2 ⟨r',hr',rfl⟩)⟩
  | false =>
   rw[hb]at h
   simp only[cond_false]at h
   split at h<;>try (cases h;done)
   rename_i y l2 hy
   simp only[Qgz,Qh6]at h
   obtain⟨rfl,rfl⟩:=h
   obtain⟨h1,h2,h3,h4⟩:=Q4n hy
   refine⟨by simp[h1],h2,fun r' hr'=>?_,fun hn=>?_⟩
   .rcases Qho.1 hr' with rfl|hr'
    .simp
    .simp[h3 r' hr']
   .simp only[Qin,List.nodup_cons]at hn
    obtain⟨g1,g2⟩:=h4 hn.2
    refine⟨?_,fun r' hr'=>?_⟩
    .simp only[Qin,List.nodup_cons]
     refine⟨fun hm=>hn.1 ?_,g1⟩
     obtain⟨r2,hr2,e⟩:=Qhw.1 hm
     exact Qhw.2 ⟨r2,h3 r2 hr2,e⟩
    .rcases Qho.1 hr' with rfl|hr'
     .intro e
      exact hn.1 (by rw[e];exact Qhw.2 ⟨y,h1,rfl⟩)
     .exact g2 r' hr'
theorem Qa8 {op:Op}{t:Nat}(h:De op=some t):t∈tmpsOf op:=by
 unfold De at h
 split at h<;>try (cases h;done)
 rename_i args _ _
 split at h<;>try (cases h;done)
 rename_i t' r e
 injection h with h
 subst h
 simp only[tmpsOf]
 rw[e]
 simp[Lu]
theorem Q4m {op:Op}{l l':List Row}{x:Option Row}(h:Kc op l=(x,l')):(∀r,x=some r->r∈l/\r.tmp∈tmpsOf op)/\(∀r∈l',r∈l)/\((l.map (·.idx)).Nodup->(l'.map (·.idx)).Nodup/\∀r,x=some r->∀r'∈l',r'.idx≠r.idx):=by
 unfold Kc at h
 split at h
 .rename_i t ht
  split at h
  .rename_i y l2 hy
   simp only[Qh6]at h
   obtain⟨rfl,rfl⟩:=h
   obtain⟨h1,h2,h3,h4⟩:=Q4n hy
   refine⟨fun r hr=>?_,h3,fun hn=>⟨(h4 hn).1,fun r hr=>?_⟩⟩
   .cases hr
    rw[h2]
    exact⟨h1,Qa8 ht⟩
   .cases hr
    exact(h4 hn).2
  .simp only[Qh6]at h
   obtain⟨rfl,rfl⟩:=h
   exact⟨fun r hr=>(by cases hr),fun r hr=>hr,fun hn=>⟨hn,fun r hr=>(by cases hr)⟩⟩
 .simp only[Qh6]at h
  obtain⟨rfl,rfl⟩:=h
  exact⟨fun r hr=>(by cases hr),fun r hr=>hr,fun hn=>⟨hn,fun r hr=>(by cases hr)⟩⟩
def Oc (x:Option Row)(f:Nat->Option Row):Nat->Option Row
 |0=>x
 |k+1=>f k
theorem Qgi {v:AV}{mc:Mem}{K:AV->Prop}(h:Ca v mc K):∃r g n e sz f h0,v=.osl r g 0 n/\mc.get r=some (.vec e sz g n f)/\(∀i,i<n->f i=up (h0 i))/\K (.d (.sl sz n h0)):=by
 unfold Ca at h
 cases v<;>simp only at h<;>try exact h.elim
 rename_i r g off n
 split at h<;>try exact h.elim
 rename_i e0 sz g' k f hget
 cases hoff:Nat.beq off 0 with
 |false=>rw[hoff]at h;exact h.elim
 |true =>
  rw[hoff]at h
  simp only[cond_true]at h
  have hoff:=Qh1 hoff
  subst hoff
  obtain⟨hp,h1⟩:=Zw (l:=[g'=g,k=n]) h
  have e1:g'=g:=hp _ (by simp)
  have e2:k=n:=hp _ (by simp)
  subst e1;subst e2
  obtain⟨h0,hfe,hk⟩:=h1
  have hk:=hk.o
  exact⟨r,g',k,e0,sz,f,h0,rfl,hget,hfe,hk⟩
structure Bj (P:Program)(m:Mem)(σ:Pls)(full rest:List Oper)(base:Nat)(env:Env)(rows:List Row)(K:Env->Prop)(As:Nat->AV)(took made:Nat->Option Row):Prop where
 k:K (Qi env rest As rest.length)
 does:∀(k:Nat) o,rest[k]?=some o->Mz P m σ full o (Qi env rest As k) (As k) (took k) (made k)
 madeAt:∀k r,made k=some r->r.idx=base+k/\∃o,rest[k]?=some o/\o.dst=some r.tmp
 tookAt:∀k r,took k=some r->(r∈rows\/∃j,j<k/\made j=some r)/\∃o,rest[k]?=some o/\r.tmp∈tmpsOf o.op
 once:∀k k' r r',took k=some r->took k'=some r'->r.idx=r'.idx->k=k'
theorem Bj.cons {full rest:List Oper}{o:Oper}{base:Nat}{env:Env}{rows rows':List Row}{K:Env->Prop}{As:Nat->AV}{took made:Nat->Option Row}{A:AV}{x y:Option Row}
  (hd:Mz P m σ full o env A x y) (hy:∀r,y=some r->r.idx=base/\o.dst=some r.tmp) (hx:∀r,x=some r->r∈rows/\r.tmp∈tmpsOf o.op)
  (hr:∀r∈rows',r∈rows\/y=some r) (hxr:∀r,x=some r->∀r'∈rows',r'.idx≠r.idx) (hlt:∀r∈rows,r.idx<base)
  (h:Bj P m σ full rest (base+1) (Vy o A env) rows' K As took made):Bj P m σ full (o::rest) base env rows K (Pj A As) (Oc x took) (Oc y made) where
 k:=by
  rw[Qhs,Kw]
  exact h.k
 does k o' ho:=by
  cases k with
  |zero=>simp at ho;subst ho;exact hd
  |succ k =>
   rw[Kw]
   exact h.does k o' (by simpa using ho)
 madeAt k r hk:=by
  cases k with
  |zero =>
   obtain⟨h1,h2⟩:=hy r hk
   exact⟨Om,o,rfl,h2⟩
  |succ k =>
   obtain⟨h1,o',h2,h3⟩:=h.madeAt k r hk
   exact⟨Om,o',by simpa using h2,h3⟩
 tookAt k r hk:=by
  cases k with
  |zero =>
   obtain⟨h1,h2⟩:=hx r hk
   exact⟨.inl h1,o,rfl,h2⟩
  | succ k =>
   obtain⟨h1,o',h2,h3⟩:=h.tookAt k r hk
   refine⟨?_,o',by simpa using h2,h3⟩
   rcases h1 with h1|⟨j,hj,h1⟩
   .rcases hr r h1 with h4|h4
    .exact .inl h4
    .exact .inr ⟨0,Om,h4⟩
   .exact .inr ⟨j+1,Om,h1⟩
 once k k' r r' hk hk' e:=by
  have key:∀k r r',x=some r->took k=some r'->r.idx=r'.idx->False:=fun k r r' h1 h2 e=>by
   obtain⟨h3,_⟩:=h.tookAt k r' h2
   rcases h3 with h3|⟨j,hj,h3⟩
   .exact hxr r h1 r' h3 e.symm
   .have:=(h.madeAt j r' h3).1
    have:=hlt r (hx r h1).1
    omega
  cases k with
  |zero=>cases k' with
   |zero=>rfl
   |succ k'=>exact(key k' r r' hk hk' e).elim
  |succ k=>cases k' with
   |zero=>exact(key k r' r hk' hk e.symm).elim
   |succ k'=>rw[h.once k k' r r' hk hk' e]
theorem Cd (hT:Qb P T){full:List Oper}{K:Env->Prop}:∀(rest:List Oper) (base:Nat) (env:Env) (rows:List Row),(rows.map (·.idx)).Nodup->(∀r∈rows,r.idx<base)->vcX P T full m rest base env rows K ->
  ∃As took made,Bj P m σ full rest base env rows K As took made
 |[],base,env,rows,hn,hlt,h=>⟨fun _=>.junk,fun _=>none,fun _=>none,⟨h,fun k o ho=>(by simp at ho),fun k r h=>(by cases h),fun k r h=>(by cases h),fun k k' r r' h=>(by cases h)⟩⟩
 | o :: r,base,env,rows,hn,hlt,h=>by
  rw[Qgk]at h
  cases hc:Gd full o with
  | false =>
   rw[hc]at h
   simp only[cond_false]at h
   have key:∃A,vcX P T full m r (base+1) (Vy o A env) rows K/\Ui P m σ full o env A:=by
    have hs1:∀t∈tmpsOf o.op,t∈Zs full o:=fun t ht=>Yu.2 (.inl ht)
    split at h
    .rename_i hg
     obtain⟨A,hK,hD⟩:=Bg hT h
     refine⟨A,Xt hK,fun F w a hm he=>⟨fun _=>hD F w a hm (Vl fun t ht=>he t (hs1 t ht)),fun hw=>?_⟩⟩
     simp[Region.wanted,hg]at hw
    .rename_i j want hg
     have hs2:∀t∈Yb full (some (j,want)),t∈Zs full o:=fun t ht=>Yu.2 (.inr (by rw[hg];exact ht))
     split at h<;>try (cases h;done)
     rename_i g hgo
     have hw:∀(F:Nat->Prop) (w:World) (a:Act),(∀t∈Zs full o,Vc w F σ (get env t) (a.tmps.getD t undef))->Region.wanted o (yielded full.toArray a.tmps)=g:=fun F w a he=>by
      simp only[Region.wanted,hg]
      exact Hv (Vl fun t ht=>he t (hs2 t ht)) hgo
     split at h
     .rename_i v l hr
      obtain⟨hl,h⟩:=Zw h
      rw[Ya]at h
      refine⟨.gd g v,Xt h,fun F w a hm he=>?_⟩
      rw[hw F w a he]
      refine⟨fun hgt=>?_,fun hgf w F=>.gd (fun h=>by rw[hgf]at h;cases h) fun _=>rfl⟩
      exact V7.mono (fun w F u hu=>.gd (fun _=>hu) fun h=>by rw[hgt]at h;cases h) (Nl hT hr (Bc hl hgt) F w a hm (Vl fun t ht=>he t (hs1 t ht)))
     .cases g with
      |true =>
       obtain⟨A,hK,hD⟩:=Bg hT (h.t rfl).o
       refine⟨A,Xt hK,fun F w a hm he=>⟨fun _=>hD F w a hm (Vl fun t ht=>he t (hs1 t ht)),fun hwf=>?_⟩⟩
       rw[hw F w a he]at hwf
       cases hwf
      |false =>
       refine⟨_,Xt (h.f rfl).o,fun F w a hm he=>⟨fun hwt=>?_,fun _ w F=>.gd (fun h=>by cases h) fun _=>rfl⟩⟩
       rw[hw F w a he]at hwt
       cases hwt
   obtain⟨A,hr,hD⟩:=key
   obtain⟨As,took,made,hE⟩:=Cd hT r (base+1) _ rows hn (fun r hr=>Nat.lt_succ_of_lt (hlt r hr)) hr
   exact⟨_,_,_,hE.cons (x:=none) (y:=none) hD.x (fun r h=>by cases h) (fun r h=>by cases h) (fun r hr=>.inl hr) (fun r h=>by cases h) hlt⟩
  | true =>
   rw[hc]at h
   simp only[cond_true]at h
   have hg:o.guard=none:=by
    unfold Gd at hc
    split at hc
    .cases hc
    .rename_i h;exact h
   obtain⟨x,rest',htk⟩:∃x r',Kc o.op rows=(x,r'):=⟨_,_,rfl⟩
   rw[htk]at h
   simp only at h
   obtain⟨k1,k2,k3⟩:=Q4m htk
   obtain⟨k4,k5⟩:=k3 hn
   split at h<;>try (cases h;done)
   rename_i v mc l hev
   split at h<;>try (cases h;done)
   rename_i d hd
   obtain⟨hl,h⟩:=Zw h
   rw[Ya,Ns]at h
   have hlt':∀r∈rest',r.idx<base+1:=fun r hr=>Nat.lt_succ_of_lt (hlt r (k2 r hr))
   cases hf:No d full with
   | true =>
    rw[hf]at h
    simp only[cond_true]at h
    have hstep:Vy o .junk env=(d,.junk)::env:=by unfold Vy;rw[hd]
    obtain⟨As,took,made,hE⟩:=Cd hT r (base+1) _ (⟨base,d,v,mc⟩::rest') (by
     simp only[Qin,List.nodup_cons]
     refine⟨fun hm=>?_,k4⟩
     obtain⟨r2,hr2,e⟩:=Qhw.1 hm
     have:=hlt r2 (k2 r2 hr2)
     omega) (fun r hr=>by
      rcases Qho.1 hr with rfl|hr
      .exact Nat.lt_succ_self _
      .exact hlt' r hr) h
    rw[<-hstep]at hE
    refine⟨_,_,_,hE.cons (x:=x) (y:=some ⟨base,d,v,mc⟩) (fun F w a σr hm hs hx=>?_) (fun r h=>by cases h;exact⟨rfl,hd⟩) k1 (fun r hr=>?_) (fun r hr r' hr'=>?_) hlt⟩
    .obtain⟨hw,n,u,w',σ',g1,g2,g3,g4,g5,g6⟩:=T5 hT hg hev hl hm hs hx
     refine⟨fun _=>?_,fun hwf=>by rw[hw]at hwf;cases hwf⟩
     have hY:Kj P σ σr F w .junk x (some ⟨base,d,v,mc⟩) u w':=⟨F,g5,.junk,fun r hr=>by cases hr;exact⟨σ',g4,g3,g6⟩⟩
     rw[g1]
     rcases g2 with rfl|⟨rfl,rfl⟩
     .exact hY
     .exact hY
    .rcases Qho.1 hr with rfl|hr
     .exact .inr rfl
     .exact .inl (k2 r hr)
    .rcases Qho.1 hr' with rfl|hr'
     .have:=hlt r (k1 r hr).1
      show base≠r.idx
      omega
     .exact k5 r hr r' hr'
   | false =>
    rw[hf]at h
    simp only[cond_false]at h
    obtain⟨rr,g',k,e0,sz,f,h0,rfl,hget,hfe,hk⟩:=Qgi h
    .skip
     have hstep:Vy o (.d (.sl sz k h0)) env=(d,.d (.sl sz k h0))::env:=by unfold Vy;rw[hd]
     obtain⟨As,took,made,hE⟩:=Cd hT r (base+1) _ rest' k4 hlt' hk
     rw[<-hstep]at hE
     refine⟨_,_,_,hE.cons (x:=x) (y:=none) (fun F w a σr hm hs hx=>?_) (fun r h=>by cases h) k1 (fun r hr=>.inl (k2 r hr)) k5 hlt⟩
     obtain⟨hw,n,u,w',σ',g1,g2,g3,g4,g5,g6⟩:=T5 hT hg hev hl hm hs hx
     refine⟨fun _=>?_,fun hwf=>by rw[hw]at hwf;cases hwf⟩
     have hrd:=Q30 (F':=fun b=>F b\/Qm σ' b) g4 (fun b hb=>.inl hb) g3 hget Om hfe (fun pl b tot h1 h2=>.inr ⟨_,pl,tot,h1,h2⟩)
     have e3:(fun i=>h0 (0+i))=h0:=by funext i;rw[Qh9]
     rw[e3]at hrd
     have hY:Kj P σ σr F w (.d (.sl sz k h0)) x none u w':=⟨fun b=>F b\/Qm σ' b,⟨g5.os,g5.tape,g5.output,g5.drawn,g5.size,g5.keep,fun b hb=>.inl hb,fun b hb=>hb.elim .inl fun h=>.inr (g6 b h),fun b hb=>hb.elim (g4.fl b) fun h=>(H3 g4 b h).2⟩,.d hrd,fun r hr=>by cases hr⟩
     rw[g1]
     rcases g2 with rfl|⟨rfl,rfl⟩
     .exact hY
     .exact hY
end
section
variable {P:Program}{T:Tab}{m:Mem}{σ:Pls}
variable {ro:Option Nat}
theorem Q7o {id N n:Nat} {ops:Array Oper} {F:Nat→Prop} {w:World} {a:Act} {env:Env} {K:Env→Prop} {Q:Exit→Act→World→Prop}
  (h1:P.follows .mixedOrders=true) (h2:okR ops.toList=true) (hT:Qb P T) (hm:Q3 m σ F w) (hd:Jb N ops.toList=true) (h:vcX P T ops.toList m ops.toList 0 env [] K) (hN:a.tmps.size=N) (he:Ql env w F σ a.tmps)
  (hQ:∀env' a' w' F',K env'->a'.tmps.size=N->a'.defers=a.defers->Qn F w F' w'->Ql env' w' F' σ a'.tmps->Q .normal a' w'):(Code.region id ops true).wpIn (Fen ro) n P Q a w:=by
 obtain⟨As,took,made,hX⟩:=Cd (σ:=σ) hT ops.toList 0 env [] (by simp) (fun r hr=>by simp at hr) h
 have hK:=hX.k
 have hD:=hX.does
 have hMade:∀k r,made k=some r->r.idx=k/\∃o,ops[k]?=some o/\o.dst=some r.tmp:=fun k r hk=>by
  obtain⟨h1,o,h2,h3⟩:=hX.madeAt k r hk
  rw[Qh2]at h2
  exact⟨Om,o,h2,h3⟩
 have hTook:∀k r,took k=some r->r.idx<k/\made r.idx=some r/\∃o,ops[k]?=some o/\r.tmp∈tmpsOf o.op:=fun k r hk=>by
  obtain⟨h1,o,h2,h3⟩:=hX.tookAt k r hk
  rw[Qh2]at h2
  rcases h1 with h1|⟨j,hj,h1⟩
  .simp at h1
  .have:=(hMade j r h1).1
   subst this
   exact⟨hj,h1,o,h2,h3⟩
 have hO:∀(i:Nat) o,ops[i]?=some o->Hk ops.toList i o:=fun i o ho=>by
  have:=Gz h2 i o (by rw[Qh2];exact ho)
  rwa [Qh9]at this
 have hdst:∀(i:Nat) o d,ops[i]?=some o->o.dst=some d->d<N:=by
  have:∀(l:List Oper),Jb N l=true->∀(i:Nat) o d,l[i]?=some o->o.dst=some d->d<N:=by
   intro l
   induction l with
   |nil=>intro _ i o d ho;simp at ho
   | cons x r ih =>
    intro hl i o d ho hdo
    simp only[Jb,Qh5]at hl
    cases i with
    |zero =>
     simp at ho
     subst ho
     have:=hl.1
     rw[hdo]at this
     exact Qhf this
    |succ i=>exact ih hl.2 i o d (by simpa using ho) hdo
  exact fun i o d ho hdo=>this ops.toList hd i o d (by rw[Qh2];exact ho) hdo
 generalize hE:Qi env ops.toList As ops.toList.length=E at hK
 have hsize:ops.toList.length=ops.size:=Qhg
 have hEd:∀(i:Nat) o d,ops[i]?=some o->o.dst=some d->∀k,i<k->k<=ops.toList.length->get (Qi env ops.toList As k) d=As i:=by
  intro i o d ho hdo k hk hkn
  have hol:ops.toList[i]?=some o:=by rw[Qh2];exact ho
  rw[Xb (i:=i+1) k Om (fun j o' h3 h4 ho' hd'=>by
    have:=(hO i o ho).once d hdo j o' ho' hd'
    omega)]
  rw[Qi,hol]
  exact L5 hdo
 have hE0:∀t k,k<=ops.toList.length->(∀(j:Nat) o,ops[j]?=some o->o.dst=some t->k<=j)->get (Qi env ops.toList As k) t=get env t:=fun t k hk hno =>
  Xb (i:=0) k (Qh3 _) (fun j o _ hj ho hdo=>by
   rw[Qh2]at ho
   have:=hno j o ho hdo
   omega)
 let Live:Array Bool->Nat->Row->Prop:=fun listed k r=>made k=some r/\listed.getD k true=true/\∀k',took k'=some r->listed.getD k' true=false
 let Inv:Array Bool->Act->World->Prop:=fun listed a' w'=>a'.tmps.size=N/\a'.defers=a.defers/\(∀(j:Nat) o,ops[j]?=some o->listed.getD j true=true->∀e∈o.after,Region.binds .any e=true->listed.getD e.on true=true) /\
  ∃(F':Nat->Prop) (S:Nat->Pls),Qn F w F' w'/\(∀t,(∀(j:Nat) o,ops[j]?=some o->o.dst=some t->listed.getD j true=true->Vc w' F' σ (As j) (a'.tmps.getD t undef)) /\
   ((∀(j:Nat) o,ops[j]?=some o->o.dst=some t->listed.getD j true=false)->Vc w' F' σ (get env t) (a'.tmps.getD t undef))) /\
   (∀k r,Live listed k r->Q3 r.mem (S k) F' w'/\Vc w' F' (S k) r.val (a'.tmps.getD r.tmp undef)/\∀b,Qm (S k) b->w.heap.size<=b) /\
   ∀k r k2 r2,Live listed k r->Live listed k2 r2->k≠k2->∀b,Qm (S k) b->¬ Qm (S k2) b
 have fin:∀listed a' w',(∀i,i<ops.size->listed.getD i true=true)->Inv listed a' w'->Q .normal a' w':=fun listed a' w' hall ⟨i1,i2,_,F',S,i3,i4,_,_⟩ =>
  hQ E a' w' F' hK i1 i2 i3 fun t=>by
   by_cases hex:∃(j:Nat) (o:Oper),ops[j]?=some o/\o.dst=some t
   .obtain⟨j,o,ho,hdo⟩:=hex
    have hj:j<ops.size:=(Qh4.1 ho).1
    rw[<-hE,hEd j o t ho hdo _ Om (Qgx _)]
    exact(i4 t).1 j o ho hdo (hall j hj)
   .rw[<-hE,hE0 t _ (Qgx _) (fun j o ho hdo=>absurd ⟨j,o,ho,hdo⟩ hex)]
    exact(i4 t).2 fun j o ho hdo=>absurd ⟨j,o,ho,hdo⟩ hex
 have main:∀ (fuel:Nat) (listed:Array Bool) (a':Act) (w':World),listed.size=ops.size→unl listed.toList≤fuel→Inv listed a' w'→wpAnyIn (Fen ro) n P .any ops Q fuel listed a' w':=by
  intro fuel
  induction fuel with
  | zero =>
   intro listed a' w' hls hun hI
   have hall:∀i,i<ops.size->listed.getD i true=true:=fun i hi=>by
    rw[Qu]
    cases hb:listed.toList[i]? with
    |none=>rfl
    |some b=>exact Lv Om i b hb
   refine⟨List.eq_nil_iff_forall_not_mem.2 fun i hi=>?_,fin _ _ _ hall hI⟩
   obtain⟨g1,o,ho,_⟩:=mem_ready.1 hi
   rw[hall i (Qh4.1 ho).1]at g1
   cases g1
  | succ fuel ih =>
   intro listed a' w' hls hun hI
   refine⟨fun hnil=>fin _ _ _ (fun i=>?_) hI,fun i hi=>?_⟩
   .induction i using Nat.strongRecOn with
    | _ i ihi =>
     intro hi
     cases hb:listed.getD i true with
     |true=>rfl
     | false =>
      exfalso
      have ho:ops[i]?=some ops[i]:=Array.getElem?_eq_getElem hi
      have:i∈Region.ready .any ops listed:=mem_ready.2 ⟨hb,_,ho,fun e he hbe=>by
       have hlt:=(hO i _ ho).back e he hbe
       have:=ihi e.on hlt Om
       rw[Qu]at this⊢
       have hin:e.on<listed.toList.length:=by rw[Qhg,hls];omega
       rw[Qgy hin]at this⊢
       exact this⟩
      rw[hnil]at this
      cases this
   .obtain⟨g1,o,ho,g2⟩:=mem_ready.1 hi
    have hin:i<ops.size:=(Qh4.1 ho).1
    have hoi:=hO i o ho
    obtain⟨i1,i2,ic,F',S,i3,i4,i5,i6⟩:=hI
    have hmw:Q3 m σ F' w':=i3.mem hm
    have toT:∀j,j<ops.size->listed.getD j false=true->listed.getD j true=true:=fun j hj h=>by
     rw[Qu]at h⊢
     have hin2:j<listed.toList.length:=by rw[Qhg,hls];omega
     rw[Qgy hin2]at h⊢
     exact h
    have hslots:∀ t∈Zs ops.toList o,Vc w' F' σ (get (Qi env ops.toList As i) t) (a'.tmps.getD t undef):=fun t ht=>by
     by_cases hex:∃(j:Nat) (o':Oper),ops[j]?=some o'/\o'.dst=some t
     .obtain⟨j,o',ho',hdo'⟩:=hex
      have hj:j<ops.size:=(Qh4.1 ho').1
      have honce:∀(j2:Nat) o2,ops[j2]?=some o2->o2.dst=some t->j2=j:=fun j2 o2 h3 h4=>(hO j o' ho').once t hdo' j2 o2 (by rw[Qh2];exact h3) h4
      rcases hoi.defs t ht j o' (by rw[Qh2];exact ho') hdo' with ⟨hji,e,hee,heon,heb⟩|⟨hij,hcase⟩
      .rw[hEd j o' t ho' hdo' i hji Om]
       refine(i4 t).1 j o' ho' hdo' ?_
       have:=g2 e hee heb
       rw[heon]at this
       exact toT j hj this
      .rw[hE0 t i Om (fun j2 o2 h3 h4=>by rw[honce j2 o2 h3 h4];exact hij)]
       refine(i4 t).2 fun j2 o2 h3 h4=>?_
       have hj2:=honce j2 o2 h3 h4
       subst hj2
       rcases hcase with rfl|⟨e,hee,heon,heb⟩
       .exact g1
       .cases hb:listed.getD j2 true with
        |false=>rfl
        |true =>
         have:=ic j2 o' ho' hb e hee heb
         rw[heon,g1]at this
         cases this
     .rw[hE0 t i Om (fun j2 o2 h3 h4=>absurd ⟨j2,o2,h3,h4⟩ hex)]
      exact(i4 t).2 fun j2 o2 h3 h4=>absurd ⟨j2,o2,h3,h4⟩ hex
    let σr:Pls:=match took i with
     |some r=>S r.idx
     |none=>σ
    have hlive:∀r,took i=some r->Live listed r.idx r:=fun r hr=>by
     obtain⟨g3,g4,o',g5,g6⟩:=hTook i r hr
     rw[ho]at g5
     cases g5
     obtain⟨_,o2,g7,g8⟩:=hMade _ _ g4
     refine⟨g4,?_,fun k' hk'=>by rw[hX.once k' i r r hk' hr rfl];exact g1⟩
     rcases hoi.defs r.tmp (Yu.2 (.inl g6)) r.idx o2 (by rw[Qh2];exact g7) g8 with ⟨hji,e,hee,heon,heb⟩|⟨hij,_⟩
     .have:=g2 e hee heb
      rw[heon]at this
      exact toT _ (Qh4.1 g7).1 this
     .omega
    have hσr:∀r,took i=some r->σr=S r.idx:=fun r hr=>by simp only[σr,hr]
    have hdoes:=hD i o (by rw[Qh2];exact ho) F' w' a' σr hmw hslots (fun r hr=>by
     rw[hσr r hr]
     exact⟨(i5 _ r (hlive r hr)).1,(i5 _ r (hlive r hr)).2.1⟩)
    have hy:ops.toList.toArray=ops:=Qi2
    rw[hy]at hdoes
    have hlist:listed.toList[i]?=some false:=by
     rw[Qu]at g1
     cases hb:listed.toList[i]? with
     |none=>rw[hb]at g1;cases g1
     |some b=>rw[hb]at g1;simp at g1;rw[g1]
    have next:∀ (v:Value) (w2:World),Kj P σ σr F' w' (As i) (took i) (made i) v w2→wpAnyIn (Fen ro) n P .any ops Q fuel (listed.setIfInBounds i true) (a'.put o.dst v) w2:=by
     rintro v w2 ⟨F2,hc,hv,hmk⟩
     have hBof:∀b,BOf (took i) σr b->∃r,took i=some r/\Qm (S r.idx) b:=fun b hb=>by
      cases ht:took i with
      |none=>rw[ht]at hb;exact hb.elim
      |some r=>rw[ht]at hb;rw[hσr r ht]at hb;exact⟨r,rfl,hb⟩
     have hB0:∀b,BOf (took i) σr b->w.heap.size<=b:=fun b hb=>by
      obtain⟨r,hr,hb⟩:=hBof b hb
      exact(i5 _ r (hlive r hr)).2.2 b hb
     have hBF:∀b,BOf (took i) σr b->¬ F' b:=fun b hb=>by
      obtain⟨r,hr,hb⟩:=hBof b hb
      exact(H3 (i5 _ r (hlive r hr)).1 b hb).1
     have hg:Qn F w F2 w2:=hc.grew i3 hB0
     have hfz:=hc.frozen hmw hBF
     have hset:∀j,j≠i->(listed.setIfInBounds i true).getD j true=listed.getD j true:=fun j hne=>by
      rw[Qu,Qhi,List.getElem?_set_ne (fun e=>hne e.symm),<-Qu]
     have hsetm:∀j,listed.getD j true=true->(listed.setIfInBounds i true).getD j true=true:=fun j h=>by
      by_cases e:j=i
      .subst e;rw[h]at g1;cases g1
      .rw[hset j e];exact h
     have hseti:(listed.setIfInBounds i true).getD i true=true:=by
      rw[Qu,Qhi,List.getElem?_set_self (by rw[Qhg,hls];exact hin)]
      rfl
     have hput:∀t,o.dst=some t->(a'.put o.dst v).tmps.getD t undef=v:=fun t hdt=>by
      have hdN:=hdst i o t ho hdt
      rw[hdt]
      simp only[Act.put,Qhk]
      rw[Array.getElem?_setIfInBounds_self_of_lt (by rw[i1];exact hdN)]
      rfl
     have hputn:∀t,o.dst≠some t->(a'.put o.dst v).tmps.getD t undef=a'.tmps.getD t undef:=fun t hdt=>by
      cases hdo:o.dst with
      |none=>rfl
      |some d =>
       simp only[Act.put,Qhk]
       rw[Array.getElem?_setIfInBounds_ne (fun e=>hdt (by rw[hdo,e]))]
     have hback:∀k r,k≠i->Live (listed.setIfInBounds i true) k r->Live listed k r/\took i≠some r:=fun k r hne ⟨l1,l2,l3⟩=>by
      have hni:took i≠some r:=fun e=>by
       have:=l3 i e
       rw[hseti]at this
       cases this
      refine⟨⟨l1,by rw[<-hset k hne];exact l2,fun k' hk'=>?_⟩,hni⟩
      have hne':k'≠i:=fun e=>hni (by rw[<-e];exact hk')
      rw[<-hset k' hne']
      exact l3 k' hk'
     have hdisj:∀k r,k≠i->Live (listed.setIfInBounds i true) k r->∀b,BOf (took i) σr b->¬ Qm (S k) b:=fun k r hne hl b hb=>by
      obtain⟨r1,hr1,hb1⟩:=hBof b hb
      obtain⟨hl',hni⟩:=hback k r hne hl
      refine i6 r1.idx r1 k r (hlive r1 hr1) hl' (fun e=>hni ?_) b hb1
      have:=(hlive r1 hr1).1
      rw[e,hl'.1]at this
      rw[hr1,this]
     obtain⟨σ2,hσ2⟩:∃σ2:Pls,∀r,made i=some r->Q3 r.mem σ2 F2 w2/\Vc w2 F2 σ2 r.val v/\∀b,Qm σ2 b->BOf (took i) σr b\/w'.heap.size<=b:=by
      cases hmi:made i with
      |none=>exact⟨σ,fun r hr=>by cases hr⟩
      |some r =>
       obtain⟨σ2,q⟩:=hmk r hmi
       exact⟨σ2,fun r' hr'=>by cases hr';exact q⟩
     let S2:Nat->Pls:=fun k=>if k=i then σ2 else S k
     have hS2i:S2 i=σ2:=if_pos rfl
     have hS2n:∀k,k≠i->S2 k=S k:=fun k h=>if_neg h
     refine ih _ _ _ (by simp[hls]) ?_ ⟨by rw[Y3];exact i1,by rw[put_defers];exact i2,fun j o' ho' hj e he hb=>?_,F2,S2,hg,fun t=>?_,fun k r hl=>?_,fun k r k2 r2 hl hl2 hne b hb hb2=>?_⟩
     .have:=Kd hlist
      rw[Qhi]
      omega
     .by_cases hji:j=i
      .subst hji
       rw[ho]at ho'
       cases ho'
       have hlt:=hoi.back e he hb
       exact hsetm _ (toT _ Om (g2 e he hb))
      .rw[hset j hji]at hj
       exact hsetm _ (ic j o' ho' hj e he hb)
     .have mono:∀{A u},Vc w' F' σ A u->Vc w2 F2 σ A u:=fun h=>h.mono hc.fro hfz (SLe.refl σ)
      by_cases hdt:o.dst=some t
      .rw[hput t hdt]
       refine⟨fun j o' ho' hd' _=>?_,fun hno=>?_⟩
       .have:=hoi.once t hdt j o' (by rw[Qh2];exact ho') hd'
        subst this
        exact hv
       .have:=hno i o ho hdt
        rw[hseti]at this
        cases this
      .rw[hputn t hdt]
       have hne:∀(j:Nat) o',ops[j]?=some o'->o'.dst=some t->j≠i:=fun j o' ho' hd' e=>by
        subst e
        rw[ho]at ho'
        cases ho'
        exact hdt hd'
       refine⟨fun j o' ho' hd' hj=>?_,fun hno=>?_⟩
       .rw[hset j (hne j o' ho' hd')]at hj
        exact mono ((i4 t).1 j o' ho' hd' hj)
       .exact mono ((i4 t).2 fun j o' ho' hd'=>by
         have:=hno j o' ho' hd'
         rwa [hset j (hne j o' ho' hd')]at this)
     .by_cases hk:k=i
      .subst hk
       obtain⟨q1,q2,q3⟩:=hσ2 r hl.1
       obtain⟨_,o2,q4,q5⟩:=hMade _ _ hl.1
       rw[ho]at q4
       cases q4
       rw[hS2i,hput _ q5]
       refine⟨q1,q2,fun b hb=>?_⟩
       rcases q3 b hb with h|h
       .exact hB0 b h
       .exact Qhx i3.size h
      .obtain⟨hl',hni⟩:=hback k r hk hl
       obtain⟨q1,q2,q3⟩:=i5 k r hl'
       obtain⟨_,o2,q4,q5⟩:=hMade _ _ hl'.1
       have hdt:o.dst≠some r.tmp:=fun e=>hk (hoi.once _ e k o2 (by rw[Qh2];exact q4) q5)
       rw[hS2n k hk,hputn _ hdt]
       exact⟨Chg.mem q1 hc (hdisj k r hk hl) hBF,q2.mono hc.fro hfz (SLe.refl _),q3⟩
     .by_cases hk:k=i
      .subst hk
       rw[hS2i]at hb
       rw[hS2n k2 (fun e=>hne e.symm)]at hb2
       obtain⟨hl2',_⟩:=hback k2 r2 (fun e=>hne e.symm) hl2
       rcases(hσ2 r hl.1).2.2 b hb with h|h
       .exact hdisj k2 r2 (fun e=>hne e.symm) hl2 b h hb2
       .have:=(H3 (i5 k2 r2 hl2').1 b hb2).2
        omega
      .obtain⟨hl',_⟩:=hback k r hk hl
       rw[hS2n k hk]at hb
       by_cases hk2:k2=i
       .subst hk2
        rw[hS2i]at hb2
        rcases(hσ2 r2 hl2.1).2.2 b hb2 with h|h
        .exact hdisj k r hk hl b h hb
        .have:=(H3 (i5 k r hl').1 b hb).2
         omega
       .obtain⟨hl2',_⟩:=hback k2 r2 hk2 hl2
        rw[hS2n k2 hk2]at hb2
        exact i6 k r k2 r2 hl' hl2' hne b hb hb2
    unfold wpOpIn
    simp only[ho]
    cases hw:Region.wanted o (yielded ops a'.tmps) with
    |false =>
     simp only[Bool.false_eq_true,if_false]
     obtain⟨t1,t2,t3⟩:=hdoes.2 hw
     exact⟨fun _ _=>trivial,next _ _ ⟨F',(Qn.refl hmw.fl).chg,t3 _ _,fun r hr=>by rw[t2]at hr;cases hr⟩⟩
    | true =>
     simp only[if_true]
     have h3:=hdoes.1 hw
     have hdef:∀c,o.op≠.defer c:=fun c hc=>by
      simp only[execOp,hc,Sem.run_bind]at h3
      cases hr:(resolve a'.eval c o.type).run P w'<;>simp[hr,Result.andThen,Hl]at h3
     refine V5 hdef ?_
     generalize (execOp a'.eval o).run P w'=r at h3
     cases r with
     | ok x w2 =>
      cases x<;>simp only[Hl]at h3<;>simp only[Oper.uponIn]
      case value u=>exact next u w2 h3
      case skip=>exact next undef w2 h3
      case enter f args =>
       obtain⟨t1,t2,e1,hc⟩:=h3
       rw[e1]
       exact⟨We,Y7.2 (hc.mono fun e w3 ⟨u,F3,he,k1,k2⟩=>by subst he;exact next u w3 ⟨F3,k1.chg,k2,fun r hr=>by rw[t2]at hr;cases hr⟩)⟩
     |halt x w2=>simp only[Hl]at h3
 have hrep:∀j,j<ops.size->(Array.replicate ops.size false).getD j true=false:=fun j hj=>by
  rw[Qu,Qi0,Qik,if_pos hj]
  rfl
 refine wpIn_region_any h1 (main ops.size _ a _ (by simp) ?_ ⟨hN,rfl,fun j o ho hj=>?_,F,fun _=>σ,Qn.drew hm.fl,fun t=>⟨fun j o ho _ hj=>?_,fun _=>?_⟩,fun k r hl=>?_,fun k r k2 r2 hl=>?_⟩)
 .have:∀k,unl (List.replicate k false)=k:=fun k=>by
   induction k with
   |zero=>rfl
   |succ k ih=>rw[List.replicate_succ,unl,ih];simp;omega
  rw[Qi0,this]
  exact Qgx _
 .rw[hrep j (Qh4.1 ho).1]at hj
  cases hj
 .rw[hrep j (Qh4.1 ho).1]at hj
  cases hj
 .exact Vc.mono (w:=w) (w':={w with drawn:=w.drawn+1}) (fun _ h=>h) (fun _ _=>rfl) (SLe.refl σ) (he t)
 .obtain⟨_,o,ho,_⟩:=hMade k r hl.1
  have:=hl.2.1
  rw[hrep k (Qh4.1 ho).1]at this
  cases this
 .obtain⟨_,o,ho,_⟩:=hMade k r hl.1
  have:=hl.2.1
  rw[hrep k (Qh4.1 ho).1]at this
  cases this
end
end Go.Ab
