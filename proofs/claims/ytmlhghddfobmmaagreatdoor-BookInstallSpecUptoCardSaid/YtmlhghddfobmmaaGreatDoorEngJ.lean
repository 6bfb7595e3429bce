import Derived.Test.YtmlhghddfobmmaaGreatDoorEngG
namespace Go.Ab
set_option linter.unusedSimpArgs false
set_option linter.unusedVariables false
section sound
variable {P:Program}{T:Tab}{w:World}{F:Nat->Prop}{σ:Pls}{m:Mem}
theorem Q0j {x:AV}{X:Value}{A:AV}{obs:List Prop}(hx:Vc w F σ x X)(h:D4 x=some (A,obs))(hob:∀p∈obs,p):Vc w F σ A X:=by
 simp only[D4,Qgz]at h
 have:=X7 hx (by rw[h];exact hob)
 rw[h]at this
 exact this
theorem Q90 {x:AV}{X:Value}{A:AV}{obs:List Prop}(hx:Vc w F σ x X)(h:S6 x=some (A,obs)):Z7 P F σ w (Op.unary .not X) A:=by
 unfold S6 at h
 split at h<;>try (cases h;done)
 simp only[Qgz,Qh6]at h
 obtain⟨rfl,_⟩:=h
 have:=hx.bool
 subst this
 exact .const (.d .bool) fun w'=>by simp[Op.unary]
theorem Q8y {x:AV}{X:Value}{A:AV}{obs:List Prop}(hx:Vc w F σ x X)(h:S4 x=some (A,obs))(hob:∀p∈obs,p):Z7 P F σ w (Op.unary .neg X) A:=by
 unfold S4 at h
 split at h<;>try (cases h;done)
 split at h<;>try (cases h;done)
 simp only[Qgz,Qh6]at h
 obtain⟨rfl,rfl⟩:=h
 have:=hx.int
 subst this
 rename_i k a k' hne
 have hi:In k (0-a):=hob _ (by simp)
 exact .const (.d .int) fun w'=>by
  have:=hi.wrap
  simp only[Op.unary,Op.intArith,Sem.run_pure,this]
theorem Q8l {x:AV}{X:Value}{k:Nat}{A:AV}{obs:List Prop}(hx:Vc w F σ x X)(h:Tq k x=some (A,obs)):Z7 P F σ w (Instr.extract X k) A:=by
 unfold Tq at h
 split at h<;>try (cases h;done)
 split at h<;>try (cases h;done)
 rename_i v hv
 simp only[Qgz,Qh6]at h
 obtain⟨rfl,_⟩:=h
 rw[R8]at hv
 cases hx with
 |@tup _ us hl hh =>
  have hlt:=(Qh7.1 hv).1
  have hu:us[k]?=some (us[k]'Om):=Qgy Om
  exact .const (hh k v _ hv hu) fun w'=>by simp[Instr.extract,hu]
theorem Q7g {t:TypeId}{ti:TI}(h:Zo P t ti=true)(h1:ti.k≠.ifc)(h2:ti.k≠.other):P.concrete t=true:=by
 have hk:=Xu h
 unfold Program.concrete
 cases e:ti.k<;>rw[e]at hk<;>first|exact absurd e h1|exact absurd e h2|(simp only[Vj]at hk;split at hk<;>simp_all)
theorem Q8p (hT:Qb P T){x:AV}{X:Value}{t:TypeId}{A:AV}{obs:List Prop}(hx:Vc w F σ x X)(h:Tv T t x=some (A,obs)):Z7 P F σ w (Instr.makeInterface t X) A:=by
 unfold Tv at h
 split at h<;>try (cases h;done)
 rename_i ti hti
 have key:ti.k≠.ifc->ti.k≠.other->∀w':World,(Instr.makeInterface t X).run P w'=.ok (.iface t X) w':=fun h1 h2 w'=>run_makeInterface w' t X (Q7g (hT t ti hti) h1 h2)
 split at h<;>try (cases h;done)
 rename_i h1 h2
 split at h
 .simp only[Qgz,Qh6]at h
  obtain⟨rfl,_⟩:=h
  cases hx with|d hx=>exact .const (.d (.ifc hx)) (key h1 h2)
 .simp only[Qgz,Qh6]at h
  obtain⟨rfl,_⟩:=h
  exact .const (.ifc hx) (key h1 h2)
theorem Q8i (hT:Qb P T){x:AV}{X:Value}{s d:TypeId}{A:AV}{obs:List Prop}(hx:Vc w F σ x X)(h:To T s d x=some (A,obs))(hob:∀p∈obs,p):Z7 P F σ w (convert s d X) A:=by
 unfold To at h
 split at h<;>try (cases h;done)
 rename_i k0 n
 split at h<;>try (cases h;done)
 rename_i ti hti
 split at h<;>try (cases h;done)
 rename_i ks hks
 split at h<;>try (cases h;done)
 rename_i tj htj
 split at h<;>try (cases h;done)
 rename_i kd hkd
 split at h<;>try (cases h;done)
 simp only[Qgz,Qh6]at h
 obtain⟨rfl,rfl⟩:=h
 have:=hx.int
 subst this
 have hi:In kd n:=hob _ (by simp)
 have h1:=Xu (hT _ _ hti)
 rw[hks]at h1
 have h2:=Xu (hT _ _ htj)
 rw[hkd]at h2
 exact .const (.d .int) fun w'=>by simp[convert,run_underlying (Nz h1),run_underlying (Nz h2),Conv.intToInt,hi.wrap]
theorem Q0i {x y:AV}{X Y:Value}{mx:Bool}{at_:Array TypeId}{ty:TypeId}{A:AV}{obs:List Prop}(hx:Vc w F σ x X)(hy:Vc w F σ y Y)(h:D3 mx x y=some (A,obs)) :
  Z7 P F σ w (bif mx then Builtin.max_ at_ ty #[X,Y] else Builtin.min_ at_ ty #[X,Y]) A:=by
 unfold D3 at h
 split at h<;>try (cases h;done)
 rename_i k a k' b
 cases hk:decide (k=k') with
 |false=>rw[hk]at h;cases h
 | true =>
  rw[hk]at h
  simp only[cond_true,Qgz,Qh6]at h
  obtain⟨rfl,_⟩:=h
  have:=hx.int;subst this
  have:=hy.int;subst this
  cases mx with
  |true =>
   refine .const (.d .int) fun w'=>?_
   have e:max a b=if b>a then b else a:=by rw[Int.max_def];split<;>split<;>omega
   simp[Builtin.max_,Builtin.max2,e]
  |false =>
   refine .const (.d .int) fun w'=>?_
   have e:min a b=if b<a then b else a:=by rw[Int.min_def];split<;>split<;>omega
   simp[Builtin.min_,Builtin.min2,e]
theorem Q8s (hT:Qb P T){x y:AV}{X Y:Value}{t:TypeId}{A:AV}{obs:List Prop}(hx:Vc w F σ x X)(hy:Vc w F σ y Y)(h:Tw T t x y=some (A,obs))(hob:∀p∈obs,p):Z7 P F σ w (Instr.index t X Y) A:=by
 unfold Tw at h
 split at h
 .split at h<;>try (cases h;done)
  rename_i n sz he
  obtain⟨e,te,hu,hs,hte,hagg,_⟩:=Am hT he
  split at h<;>try (cases h;done)
  rename_i cs
  split at h<;>try (cases h;done)
  rename_i k i
  split at h<;>try (cases h;done)
  rename_i l hcut
  simp only[Qgz,Qh6]at h
  obtain⟨rfl,rfl⟩:=h
  have h0:0<=i:=hob _ (by simp)
  have h1:i<(n:Int):=hob (i<(n:Int)) (by simp)
  have:=hy.int
  subst this
  cases hx with|d hx=>cases hx with | @agg _ us hl hrd =>
  obtain⟨g1,g2⟩:=Po hcut
  refine .const (u:=.agg ((us.drop (i.toNat*sz)).take sz).toArray) (.d (.agg ?_ fun j x u hx hu'=>?_)) fun w'=>?_
  .rw[g1]
   simp
   rcases Nat.eq_zero_or_pos sz with h0|h0
   .omega
   .have:=(g2 (sz-1) Om).2
    omega
  .rw[Qid]at hu'
   split at hu'
   .rename_i hj
    exact hrd (i.toNat*sz+j) x u (by rw[<-(g2 j hj).1];exact hx) (by simpa[Qij] using hu')
   .cases hu'
  .simp[Instr.index,asIntOf,run_underlying hu,h0,h1,hs,part,K9 (hT _ _ hte),hagg,List.extract_eq_take_drop]
 rename_i n e he
 obtain⟨hu,hs,_⟩:=R9 hT he
 split at h<;>try (cases h;done)
 rename_i te hte
 cases hagg:te.k.agg with
 |true=>rw[hagg]at h;cases h
 | false =>
  rw[hagg]at h
  simp only[cond_false]at h
  split at h<;>try (cases h;done)
  rename_i cs
  split at h<;>try (cases h;done)
  rename_i k i
  simp only[Qgz,Qh6]at h
  obtain⟨rfl,rfl⟩:=h
  have h0:0<=i:=hob _ (by simp)
  have h1:i<(n:Int):=hob (i<(n:Int)) (by simp)
  have h2:cs.length=n:=hob (cs.length=n) (by simp)
  have:=hy.int
  subst this
  cases hx with|d hx=>cases hx with | @agg _ us hl hrd =>
  have hi:i.toNat<us.length:=by omega
  have hv:us[i.toNat]?=some (us[i.toNat]'hi):=Qgy hi
  have hd:cs[i.toNat]?=some (cs.getD i.toNat .nilp):=by
   rw[Qha,Qgy Om]
   rfl
  refine .const (.d (hrd _ _ _ hd hv)) fun w'=>?_
  simp[Instr.index,asIntOf,run_underlying hu,h0,h1,hs,part,K9 (hT _ _ hte),hagg,hv]
theorem Q8n (hT:Qb P T){x:AV}{X:Value}{t:TypeId}{k:Nat}{A:AV}{obs:List Prop}(hx:Vc w F σ x X)(h:Tr T t k x=some (A,obs)):Z7 P F σ w (Instr.field t X k) A:=by
 unfold Tr at h
 split at h<;>try (cases h;done)
 rename_i o u hf
 obtain⟨fs,f,hu,hfk,ho,hft,_⟩:=Se hT hf
 split at h<;>try (cases h;done)
 rename_i ti hti
 have ht:=hT _ _ hti
 have key:∀(us:List Value),(∀w',∃s,(Instr.field t (.agg us.toArray) k).run P w'=s.run P w'/\s=part u us.toArray o):=fun us w'=>⟨_,by simp[Instr.field,run_underlying hu,hfk,asAgg,ho,hft],rfl⟩
 have kagg:∀(us:List Value) w',ti.k.agg=true->(Instr.field t (.agg us.toArray) k).run P w'=.ok (.agg ((us.drop o).take ti.size).toArray) w':=fun us w' hagg=>by
  obtain⟨s,h1,rfl⟩:=key us w'
  rw[h1]
  simp[part,K9 ht,hagg,run_sizeOf ht,List.extract_eq_take_drop]
 have kone:∀(us:List Value) w' v,ti.k.agg=false->us[o]?=some v->(Instr.field t (.agg us.toArray) k).run P w'=.ok v w':=fun us w' v hagg hv=>by
  obtain⟨s,h1,rfl⟩:=key us w'
  rw[h1]
  simp[part,K9 ht,hagg,hv]
 split at h<;>try (cases h;done)
 .rename_i cs
  cases hx with|d hx=>cases hx with | @agg _ us hl hrd =>
  cases hagg:ti.k.agg with
  | true =>
   rw[hagg]at h
   simp only[cond_true]at h
   split at h<;>try (cases h;done)
   rename_i l hcut
   simp only[Qgz,Qh6]at h
   obtain⟨rfl,_⟩:=h
   obtain⟨h1,h2⟩:=Po hcut
   refine .const (.d (.agg (us:=(us.drop o).take ti.size) ?_ fun j x u hx hu=>?_)) fun w'=>kagg us w' hagg
   .rw[h1];simp
    rcases Nat.eq_zero_or_pos ti.size with h0|h0
    .omega
    .have:=(h2 (ti.size-1) Om).2;omega
   .rw[Qid]at hu
    split at hu
    .rename_i hj
     exact hrd (o+j) x u (by rw[<-(h2 j hj).1];exact hx) (by simpa[Qij] using hu)
    .cases hu
  |false =>
   rw[hagg]at h
   simp only[cond_false]at h
   split at h<;>try (cases h;done)
   rename_i x hlk
   simp only[Qgz,Qh6]at h
   obtain⟨rfl,_⟩:=h
   rw[Ps]at hlk
   have hlt:=(Qh7.1 hlk).1
   have hu':us[o]?=some (us[o]'Om):=Qgy Om
   exact .const (.d (hrd o x _ hlk hu')) fun w'=>kone us w' _ hagg hu'
 .rename_i cs
  cases hx with | @agg _ us hl hrd =>
  cases hagg:ti.k.agg with
  | true =>
   rw[hagg]at h
   simp only[cond_true]at h
   split at h<;>try (cases h;done)
   rename_i l hcut
   simp only[Qgz,Qh6]at h
   obtain⟨rfl,_⟩:=h
   obtain⟨h1,h2⟩:=P4 hcut
   refine .const (.agg (us:=(us.drop o).take ti.size) ?_ fun j x u hx hu=>?_) fun w'=>kagg us w' hagg
   .rw[h1];simp
    rcases Nat.eq_zero_or_pos ti.size with h0|h0
    .omega
    .have:=(h2 (ti.size-1) Om).2;omega
   .rw[Qid]at hu
    split at hu
    .rename_i hj
     exact hrd (o+j) x u (by rw[<-(h2 j hj).1];exact hx) (by simpa[Qij] using hu)
    .cases hu
  |false =>
   rw[hagg]at h
   simp only[cond_false]at h
   split at h<;>try (cases h;done)
   rename_i x hlk
   simp only[Qgz,Qh6]at h
   obtain⟨rfl,_⟩:=h
   rw[R8]at hlk
   have hlt:=(Qh7.1 hlk).1
   have hu':us[o]?=some (us[o]'Om):=Qgy Om
   exact .const (hrd o x _ hlk hu') fun w'=>kone us w' _ hagg hu'
theorem Nn (hT:Qb P T)(hm:Q3 m σ F w){env:Env}{a:Act}(he:Ql env w F σ a.tmps){o:Oper}{A:AV}{obs:List Prop}
  (h:Xi T env m o.op=some (A,obs)) (hob:∀p∈obs,p):Ib P F σ w a.eval o A:=by
 have st:∀x,(∀p∈(strip (ev env x)).2,p)->Vc w F σ (strip (ev env x)).1 (a.eval x):=fun x hx=>X7 (Z5 he x) hx
 unfold Xi at h
 split at h<;>try (cases h;done)
 .rename_i x hop
  exact⟨a.eval x,Q0j (Z5 he x) h hob,fun w' _=>by simp[execOp,hop]⟩
 .rename_i x hop
  exact⟨a.eval x,Q0j (Z5 he x) h hob,fun w' _=>by simp[execOp,hop]⟩
 .rename_i c x y hop
  exact(Q91 (Z5 he c) (Z5 he x) (Z5 he y) h hob).op (by simp[execOp,hop])
 .rename_i op t x y ty hop
  obtain⟨h1,o1,h,hob⟩:=V4 h hob
  obtain⟨h2,o2,h,hob⟩:=V4 h hob
  split at h
  .rename_i r hr
   injection h with h
   subst h
   exact(Q8g (t:=t) (x:=x) (y:=y) (st x h1) (st y h2) hr hob).op (by simp[execOp,hop])
  .split at h
   .rename_i r hr
    injection h with h
    subst h
    exact(Q8k hT (t:=t) (p:=x) (q:=y) (st x h1) (st y h2) hr).op (by simp[execOp,hop])
   .exact(Q8z hT (t:=t) (p:=x) (q:=y) (Y:=a.eval y) (st x h1) (fun v e=>by rw[e];rfl) h).op (by simp[execOp,hop])
 .rename_i t x hop
  obtain⟨h1,o1,h,hob⟩:=V4 h hob
  exact(Q90 (st x h1) h).op (by simp[execOp,hop])
 .rename_i t x hop
  obtain⟨h1,o1,h,hob⟩:=V4 h hob
  exact(Q8y (st x h1) h hob).op (by simp[execOp,hop])
 .rename_i t x hop
  obtain⟨h1,o1,h,hob⟩:=V4 h hob
  exact(D2 hT hm (st x h1) h hob).op (by simp[execOp,hop])
 .rename_i t x k hop
  obtain⟨h1,o1,h,hob⟩:=V4 h hob
  exact(Q8m hT (st x h1) hm h hob).op (by simp[execOp,hop])
 .rename_i t x i hop
  obtain⟨h1,o1,h,hob⟩:=V4 h hob
  obtain⟨h2,o2,h,hob⟩:=V4 h hob
  exact(Q8r hT hm (st x h1) (st i h2) h hob).op (by simp[execOp,hop])
 .rename_i t x k hop
  obtain⟨h1,o1,h,hob⟩:=V4 h hob
  exact(Q8n hT (st x h1) h).op (by simp[execOp,hop])
 .rename_i t x i hop
  obtain⟨h1,o1,h,hob⟩:=V4 h hob
  obtain⟨h2,o2,h,hob⟩:=V4 h hob
  exact(Q8s hT (st x h1) (st i h2) h hob).op (by simp[execOp,hop])
 .rename_i x k hop
  obtain⟨h1,o1,h,hob⟩:=V4 h hob
  exact(Q8l (st x h1) h).op (by simp[execOp,hop])
 .rename_i t x hop
  obtain⟨h1,o1,h,hob⟩:=V4 h hob
  exact(Q8p hT (st x h1) h).op (by simp[execOp,hop])
 .rename_i s d x hop
  obtain⟨h1,o1,h,hob⟩:=V4 h hob
  exact(Q8i hT (st x h1) h hob).op (by simp[execOp,hop])
 .rename_i f first cap hop
  obtain⟨l1,v1⟩:=Tj he first.toList
  obtain⟨l2,v2⟩:=Tj he cap.toList
  have hrun:∀w',(execOp a.eval o).run P w'=.ok (.value (.func f (first.toList.map a.eval).toArray (cap.toList.map a.eval).toArray)) w':=fun w'=>by
   have e1:first.map a.eval=(first.toList.map a.eval).toArray:=by apply Array.ext';simp
   have e2:cap.map a.eval=(cap.toList.map a.eval).toArray:=by apply Array.ext';simp
   simp[execOp,hop,Instr.makeFunc,e1,e2]
  unfold Q0f at h
  split at h
  .rename_i xs ys e1 e2
   simp only[Qgz,Qh6]at h
   obtain⟨rfl,_⟩:=h
   have e1:=P7 e1
   have e2:=P7 e2
   rw[e1]at l1 v1
   rw[e2]at l2 v2
   have dv:∀{cs:List D} {us:List Value},(∀(j:Nat) A u,(up cs)[j]?=some A->us[j]?=some u->Vc w F σ A u)->∀(j:Nat) x u,cs[j]?=some x->us[j]?=some u->Rd w F x u:=fun hh j x u hx hu=>by
    have:=hh j (.d x) u (by rw[Zb,Qhe,hx];rfl) hu
    cases this with|d h=>exact h
   exact⟨_,.d (.fn (by rw[l1,Zb,Qhb]) (by rw[l2,Zb,Qhb]) (dv v1) (dv v2)),fun w' _=>hrun w'⟩
  .simp only[Qgz,Qh6]at h
   obtain⟨rfl,_⟩:=h
   exact⟨_,.fn l1 l2 v1 v2,fun w' _=>hrun w'⟩
 .rename_i t parts hop
  split at h
  rename_i l0 p0 el
  split at h<;>try (cases h;done)
  rename_i A1 q1 hbs
  simp only[Qgz,Qh6]at h
  obtain⟨rfl,rfl⟩:=h
  obtain⟨hp1,hp2⟩:=Ji hob
  obtain⟨hk1,hk2⟩:=Rk he parts.toList
  exact(Q8h (a:=a) (parts:=parts) hT hm (hk1.trans (by have:=Ba (Ve env parts.toList);rw[el]at this;exact this.symm)) (fun j B u hB hu=>by
   obtain⟨A0,e1,e2⟩:=Bb (Ve env parts.toList) (by rw[el];exact hp1) j B (by rw[el];exact hB)
   exact e2 _ (hk2 j A0 u e1 hu)) hbs hp2).op (by simp[execOp,hop])
 .rename_i t x lo hi hop
  obtain⟨h1,o1,h,hob⟩:=V4 h hob
  obtain⟨h2,o2,h,hob⟩:=un?_ok h hob
  obtain⟨h3,o3,h,hob⟩:=un?_ok h hob
  refine(Q92 hT hm (LO:=lo.map a.eval) (HI:=hi.map a.eval) (st x h1) ?_ ?_ ?_ ?_ h hob).op (by simp[execOp,hop])
  .intro y hy
   cases lo with
   |none=>simp at hy
   |some l=>simp at hy;subst hy;exact⟨_,rfl,st l (h2 _ rfl)⟩
  .intro hy;cases lo<;>simp at hy⊢
  .intro y hy
   cases hi with
   |none=>simp at hy
   |some l=>simp at hy;subst hy;exact⟨_,rfl,st l (h3 _ rfl)⟩
  .intro hy;cases hi<;>simp at hy⊢
 .rename_i x hop
  obtain⟨h1,o1,h,hob⟩:=V4 h hob
  have hx:=st x h1
  refine⟨a.eval x,?_⟩
  unfold Q0k at h
  split at h<;>try (cases h;done)
  .rename_i e
   simp only[Qgz,Qh6]at h
   obtain⟨rfl,_⟩:=h
   rw[e]at hx
   refine⟨hx,fun w' _=>?_⟩
   cases hx with|d hx =>
   generalize hX:a.eval x=X at hx
   cases hx
   simp[execOp,hop,hX]
  .rename_i e
   simp only[Qgz,Qh6]at h
   obtain⟨rfl,_⟩:=h
   rw[e]at hx
   refine⟨hx,fun w' _=>?_⟩
   cases hx with|d hx =>
   generalize hX:a.eval x=X at hx
   cases hx
   simp[execOp,hop,hX]
  .rename_i e
   split at h<;>try (cases h;done)
   rename_i l hl
   simp only[Qgz,Qh6]at h
   obtain⟨rfl,rfl⟩:=h
   rw[e]at hx
   obtain⟨pl,b,tot,_,_,_,hX⟩:=E2 hm hx hl hob
   exact⟨hx,fun w' _=>by simp[execOp,hop,hX]⟩
 .rename_i t x k ok hop
  obtain⟨h1,o1,h,hob⟩:=V4 h hob
  obtain⟨h2,o2,h,hob⟩:=V4 h hob
  exact(Q8v hT hm (st x h1) (st k h2) h hob).op (by simp[execOp,hop])
 .rename_i args argTypes hop
  split at h<;>try (cases h;done)
  rename_i x ea
  split at h<;>try (cases h;done)
  rename_i t et
  obtain⟨h1,o1,h,hob⟩:=V4 h hob
  have ea:args=#[x]:=by apply Array.ext';simpa using ea
  have et:argTypes=#[t]:=by apply Array.ext';simpa using et
  subst ea;subst et
  exact(Q8t (ty:=o.type) hT hm (st x h1) h hob).op (by simp[execOp,hop,resolve,invoke,builtin])
 .rename_i args argTypes hop
  split at h<;>try (cases h;done)
  rename_i x ea
  split at h<;>try (cases h;done)
  rename_i t et
  obtain⟨h1,o1,h,hob⟩:=V4 h hob
  have ea:args=#[x]:=by apply Array.ext';simpa using ea
  have et:argTypes=#[t]:=by apply Array.ext';simpa using et
  subst ea;subst et
  refine Z7.op (s:=Builtin.cap_ #[t] o.type #[a.eval x]) ?_ (by simp[execOp,hop,resolve,invoke,builtin])
  have hx:=st x h1
  unfold Q0d at h
  split at h<;>try (cases h;done)
  rename_i es he
  obtain⟨hu,_,_⟩:=Gl hT (e:=es.1) (sz:=es.2) he
  split at h<;>try (cases h;done)
  rename_i e
  simp only[Qgz,Qh6]at h
  obtain⟨rfl,rfl⟩:=h
  rw[e]at hx
  generalize a.eval x=X at hx
  cases hx with|d hx=>cases hx with
  |nils=>exact .const (u:=.int .i64 0) (.d .int) fun w'=>by simp[Builtin.cap_,run_underlying hu,goInt]
 .rename_i args argTypes hop
  split at h<;>try (cases h;done)
  rename_i x y ea
  obtain⟨h1,o1,h,hob⟩:=V4 h hob
  obtain⟨h2,o2,h,hob⟩:=V4 h hob
  have ea:args=#[x,y]:=by apply Array.ext';simpa using ea
  subst ea
  exact(Q0i (mx:=true) (at_:=argTypes) (ty:=o.type) (st x h1) (st y h2) h).op (by simp[execOp,hop,resolve,invoke,builtin])
 .rename_i args argTypes hop
  split at h<;>try (cases h;done)
  rename_i x y ea
  obtain⟨h1,o1,h,hob⟩:=V4 h hob
  obtain⟨h2,o2,h,hob⟩:=V4 h hob
  have ea:args=#[x,y]:=by apply Array.ext';simpa using ea
  subst ea
  exact(Q0i (mx:=false) (at_:=argTypes) (ty:=o.type) (st x h1) (st y h2) h).op (by simp[execOp,hop,resolve,invoke,builtin])
end sound
def Qm (σ:Pls)(b:Nat):Prop:=∃r pl t,σ r=some (some pl)/\pl.loc=some (b,t)
structure Step (σ:Pls)(F:Nat->Prop)(w:World)(σ':Pls)(F':Nat->Prop)(w':World):Prop where
 os:w'.os=w.os
 tape:w'.tape=w.tape
 output:w'.output=w.output
 drawn:w.drawn<=w'.drawn
 size:w.heap.size<=w'.heap.size
 keep:∀b,b<w.heap.size->¬ Qm σ b->w'.heap[b]?=w.heap[b]?
 fro:∀b,F b->F' b
 fro':∀b,F' b->F b\/Qm σ b\/w.heap.size<=b
 own:∀b,Qm σ' b->Qm σ b\/w.heap.size<=b
section
variable {σ σ' σ'':Pls}{F F' F'':Nat->Prop}{w w' w'':World}{m:Mem}
theorem Step.refl (σ:Pls)(F:Nat->Prop)(w:World):Step σ F w σ F w :=
 ⟨rfl,rfl,rfl,Qgx _,Qgx _,fun _ _ _=>rfl,fun _ h=>h,fun _ h=>.inl h,fun _ h=>.inl h⟩
theorem Step.trans (h:Step σ F w σ' F' w')(k:Step σ' F' w' σ'' F'' w''):Step σ F w σ'' F'' w'' where
 os:=k.os.trans h.os
 tape:=k.tape.trans h.tape
 output:=k.output.trans h.output
 drawn:=Qhx h.drawn k.drawn
 size:=Qhx h.size k.size
 keep b hb ho:=by
  have h1:=h.keep b hb ho
  rw[<-h1]
  exact k.keep b (Qic hb h.size) (fun h2=>by
   rcases h.own b h2 with h3|h3
   .exact ho h3
   .omega)
 fro b hb:=k.fro b (h.fro b hb)
 fro' b hb:=by
  rcases k.fro' b hb with h1|h1|h1
  .exact h.fro' b h1
  .rcases h.own b h1 with h2|h2
   .exact .inr (.inl h2)
   .exact .inr (.inr h2)
  .exact .inr (.inr (Qhx h.size h1))
 own b hb:=by
  rcases k.own b hb with h1|h1
  .exact h.own b h1
  .exact .inr (Qhx h.size h1)
theorem Step.frozen (h:Step σ F w σ' F' w')(hm:Q3 m σ F w):∀b,F b->w'.heap[b]?=w.heap[b]? :=
 fun b hb=>h.keep b (hm.fl b hb) (fun⟨r,pl,t,h1,h2⟩=>(hm.nf r pl b t h1 h2).1 hb)
end
def upd (σ:Pls)(r:Ref)(q:Option Pl):Pls:=fun r'=>if r'=r then some q else σ r'
theorem J3 (σ:Pls)(r:Ref)(q:Option Pl):upd σ r q r=some q:=if_pos rfl
theorem J4 (σ:Pls){r r':Ref}(q:Option Pl)(h:r'≠r):upd σ r q r'=σ r':=if_neg h
theorem SLe.upd_new {σ:Pls}{r:Ref}(q:Option Pl)(h:σ r=none):SLe σ (upd σ r q):=fun r' q' hq=>by
 have:r'≠r:=fun e=>by subst e;rw[h]at hq;cases hq
 exact⟨q',by rw[J4 σ q this];exact hq,QLe.refl q'⟩
theorem SLe.upd_old {σ:Pls}{r:Ref}{q q':Option Pl}(h:σ r=some q)(hq:QLe q q'):SLe σ (upd σ r q'):=fun r' p hp=>by
 by_cases e:r'=r
 .subst e
  rw[h]at hp
  injection hp with hp
  subst hp
  exact⟨q',J3 σ _ q',hq⟩
 .exact⟨p,by rw[J4 σ q' e];exact hp,QLe.refl p⟩
def snoc:List (Option Blk)->Option Blk->List (Option Blk)
 |[],x=>[x]
 |b::r,x=>b::snoc r x
def Qp:List (Option Blk)->Nat
 |[]=>0
 |_::r=>Qp r+1
def putAt:List (Option Blk)->Nat->Option Blk->List (Option Blk)
 |[],_,_=>[]
 |_::r,0,x=>x::r
 |b::r,j+1,x=>b::putAt r j x
def Mem.put (m:Mem)(r:Ref)(b:Option Blk):Mem :=
 match r with
 | .loc j=>⟨putAt m.loc j b,m.own⟩
 | .arg j=>⟨m.loc,putAt m.own j b⟩
 | .bad=>m
def Mem.add (m:Mem)(b:Blk):Mem:=⟨snoc m.loc (some b),m.own⟩
def Mem.new (m:Mem):Ref:=.loc (Qp m.loc)
section
variable {σ:Pls}{F:Nat->Prop}{w w':World}{m:Mem}
theorem Q4e (l:List (Option Blk))(x:Option Blk):snoc l x=l++[x]:=by
 induction l with
 |nil=>rfl
 |cons b r ih=>simp[snoc,ih]
theorem V1 (l:List (Option Blk)):Qp l=l.length:=by
 induction l with
 |nil=>rfl
 |cons b r ih=>simp[Qp,ih]
theorem Rx:∀(l:List (Option Blk)) (j:Nat) (x:Option Blk),putAt l j x=l.set j x
 |[],_,_=>rfl
 |_::_,0,_=>rfl
 |b::r,j+1,x=>by simp[putAt,Rx r j x]
theorem Rz {r:Ref}{b:Option Blk}(x:Option Blk)(h:m.at r=some b):(m.put r x).at r=some x:=by
 cases r with
 | loc j =>
  simp only[Mem.put,Mem.at,Rx]
  have:j<m.loc.length:=by
   rcases Qi6 j m.loc.length with h'|h'
   .exact h'
   .simp[Mem.at,Qht h']at h
  simp[this]
 | arg j =>
  simp only[Mem.put,Mem.at,Rx]
  have:j<m.own.length:=by
   rcases Qi6 j m.own.length with h'|h'
   .exact h'
   .simp[Mem.at,Qht h']at h
  simp[this]
 |bad=>cases h
theorem Ry {r r':Ref}(x:Option Blk)(h:r'≠r):(m.put r x).at r'=m.at r':=by
 cases r with
 | loc j =>
  cases r' with
  |loc j' =>
   have:j≠j':=fun e=>h (by rw[e])
   simp[Mem.put,Mem.at,Rx,this]
  |_=>rfl
 | arg j =>
  cases r' with
  |arg j' =>
   have:j≠j':=fun e=>h (by rw[e])
   simp[Mem.put,Mem.at,Rx,this]
  |_=>rfl
 |bad=>rfl
theorem Ux (hm:Q3 m σ F w):σ m.new=none:=(hm.dom _).2 (by simp[Mem.new,Mem.at,V1])
theorem P5 (B:Blk):(m.add B).at m.new=some (some B):=by
 simp[Mem.add,Mem.at,Mem.new,Q4e,V1]
theorem P6 {r:Ref}(B:Blk)(h:r≠m.new):(m.add B).at r=m.at r:=by
 cases r with
 |loc j =>
  have:j≠m.loc.length:=fun e=>h (by simp[Mem.new,V1,e])
  simp only[Mem.add,Mem.at,Q4e]
  rcases Qi6 j m.loc.length with h'|h'
  .rw[Qhj h']
  .rw[Qht (by simp;omega),Qht h']
 |_=>rfl
theorem Ur (hm:Q3 m σ F w){B:Blk}{pl:Pl}(hsz:w.heap.size<=w'.heap.size)(hk:∀b,b<w.heap.size->w'.heap[b]?=w.heap[b]?)
  (hB:Jx w' F (upd σ m.new (some pl)) B pl) (hl:∀b t,pl.loc=some (b,t)->w.heap.size<=b/\b<w'.heap.size) :
  Q3 (m.add B) (upd σ m.new (some pl)) F w'/\SLe σ (upd σ m.new (some pl)):=by
 have hn:=Ux hm
 have hs:=SLe.upd_new (σ:=σ) (r:=m.new) (some pl) hn
 have hkF:∀b,F b->w'.heap[b]?=w.heap[b]?:=fun b hb=>hk b (hm.fl b hb)
 refine⟨⟨fun r=>?_,fun r q hq=>?_,fun r r' p p' b t t' h1 h2 h3 h4=>?_,fun r p b t h1 h2=>?_,fun b hb=>Qic (hm.fl b hb) hsz,hm.gl.mono (fun _ h=>h) hkF⟩,hs⟩
 .by_cases e:r=m.new
  .subst e;rw[J3,P5];simp
  .rw[J4 σ _ e,P6 B e];exact hm.dom r
 .by_cases e:r=m.new
  .subst e
   rw[J3]at hq
   injection hq with hq
   subst hq
   exact⟨(fun h=>by cases h),fun p hp=>by injection hp with hp;subst hp;exact⟨B,P5 B,hB⟩⟩
  .rw[J4 σ _ e]at hq
   rw[P6 B e]
   refine⟨(hm.lv r q hq).1,fun p hp=>?_⟩
   obtain⟨B',h1,h2⟩:=(hm.lv r q hq).2 p hp
   exact⟨B',h1,h2.mono (fun _ h=>h) hkF hs (fun b t hl=>hk b (hm.nf r p b t (by rw[hq,hp]) hl).2)⟩
 .by_cases e:r=m.new<;>by_cases e':r'=m.new
  .rw[e,e']
  .exfalso
   subst e
   rw[J3]at h1
   injection h1 with h1
   injection h1 with h1
   subst h1
   rw[J4 σ _ e']at h2
   have:=(hm.nf r' p' b t' h2 h4).2
   have:=(hl b t h3).1
   omega
  .exfalso
   subst e'
   rw[J3]at h2
   injection h2 with h2
   injection h2 with h2
   subst h2
   rw[J4 σ _ e]at h1
   have:=(hm.nf r p b t h1 h3).2
   have:=(hl b t' h4).1
   omega
  .rw[J4 σ _ e]at h1
   rw[J4 σ _ e']at h2
   exact hm.inj r r' p p' b t t' h1 h2 h3 h4
 .by_cases e:r=m.new
  .subst e
   rw[J3]at h1
   injection h1 with h1
   injection h1 with h1
   subst h1
   refine⟨fun hF=>?_,(hl b t h2).2⟩
   have:=hm.fl b hF
   have:=(hl b t h2).1
   omega
  .rw[J4 σ _ e]at h1
   exact⟨(hm.nf r p b t h1 h2).1,Qic (hm.nf r p b t h1 h2).2 hsz⟩
theorem Ge (hm:Q3 m σ F w){r:Ref}{pl pl':Pl}{B':Blk}(hr:σ r=some (some pl))(hsz:w.heap.size<=w'.heap.size)
  (hk:∀b,b<w.heap.size->(∀t,pl.loc≠some (b,t))->w'.heap[b]?=w.heap[b]?)
  (hle:pl.g<=pl'.g/\(pl'.g=pl.g->pl'=pl)) (hB:Jx w' F (upd σ r (some pl')) B' pl')
  (hl:∀b t,pl'.loc=some (b,t)->b<w'.heap.size/\((∃t',pl.loc=some (b,t'))\/w.heap.size<=b)) :
  Q3 (m.put r (some B')) (upd σ r (some pl')) F w'/\SLe σ (upd σ r (some pl')):=by
 have hq:QLe (some pl) (some pl'):=fun p hp=>by injection hp with hp;subst hp;exact⟨pl,rfl,hle.1,hle.2⟩
 have hs:=SLe.upd_old hr hq
 obtain⟨B,hB0,_⟩:=(hm.lv r _ hr).2 pl rfl
 have hkF:∀b,F b->w'.heap[b]?=w.heap[b]?:=fun b hb=>hk b (hm.fl b hb) (fun t ht=>(hm.nf r pl b t hr ht).1 hb)
 refine⟨⟨fun r'=>?_,fun r' q hq=>?_,fun r1 r2 p p' b t t' h1 h2 h3 h4=>?_,fun r' p b t h1 h2=>?_,fun b hb=>Qic (hm.fl b hb) hsz,hm.gl.mono (fun _ h=>h) hkF⟩,hs⟩
 .by_cases e:r'=r
  .subst e;rw[J3,Rz _ hB0];simp
  .rw[J4 σ _ e,Ry _ e];exact hm.dom r'
 .by_cases e:r'=r
  .subst e
   rw[J3]at hq
   injection hq with hq
   subst hq
   exact⟨(fun h=>by cases h),fun p hp=>by injection hp with hp;subst hp;exact⟨B',Rz _ hB0,hB⟩⟩
  .rw[J4 σ _ e]at hq
   rw[Ry _ e]
   refine⟨(hm.lv r' q hq).1,fun p hp=>?_⟩
   obtain⟨B1,h1,h2⟩:=(hm.lv r' q hq).2 p hp
   refine⟨B1,h1,h2.mono (fun _ h=>h) hkF hs (fun b t hl=>hk b (hm.nf r' p b t (by rw[hq,hp]) hl).2 (fun t' ht'=>e ?_))⟩
   exact hm.inj r' r p pl b t t' (by rw[hq,hp]) hr hl ht'
 .by_cases e:r1=r<;>by_cases e':r2=r
  .rw[e,e']
  .exfalso
   subst e
   rw[J3]at h1
   injection h1 with h1
   injection h1 with h1
   subst h1
   rw[J4 σ _ e']at h2
   rcases(hl b t h3).2 with ⟨t1,ht1⟩|h5
   .exact e' (hm.inj _ _ p' pl b t' t1 h2 hr h4 ht1)
   .have:=(hm.nf r2 p' b t' h2 h4).2;omega
  .exfalso
   subst e'
   rw[J3]at h2
   injection h2 with h2
   injection h2 with h2
   subst h2
   rw[J4 σ _ e]at h1
   rcases(hl b t' h4).2 with ⟨t1,ht1⟩|h5
   .exact e (hm.inj _ _ p pl b t t1 h1 hr h3 ht1)
   .have:=(hm.nf r1 p b t h1 h3).2;omega
  .rw[J4 σ _ e]at h1
   rw[J4 σ _ e']at h2
   exact hm.inj r1 r2 p p' b t t' h1 h2 h3 h4
 .by_cases e:r'=r
  .subst e
   rw[J3]at h1
   injection h1 with h1
   injection h1 with h1
   subst h1
   refine⟨fun hF=>?_,(hl b t h2).1⟩
   rcases(hl b t h2).2 with ⟨t1,ht1⟩|h5
   .exact(hm.nf r' pl b t1 hr ht1).1 hF
   .have:=hm.fl b hF;omega
  .rw[J4 σ _ e]at h1
   exact⟨(hm.nf r' p b t h1 h2).1,Qic (hm.nf r' p b t h1 h2).2 hsz⟩
theorem Rv {pl:Pl}{r:Ref}(hl:∀b t,pl.loc=some (b,t)->w.heap.size<=b):∀b,Qm (upd σ r (some pl)) b->Qm σ b\/w.heap.size<=b:=fun b ⟨r',p,t,h1,h2⟩=>by
 by_cases e:r'=r
 .subst e
  rw[J3]at h1
  injection h1 with h1
  injection h1 with h1
  subst h1
  exact .inr (hl b t h2)
 .rw[J4 σ _ e]at h1
  exact .inl ⟨r',p,t,h1,h2⟩
theorem Et {pl pl':Pl}{r:Ref}(hr:σ r=some (some pl))(hl:∀b t,pl'.loc=some (b,t)->(∃t',pl.loc=some (b,t'))\/w.heap.size<=b):∀b,Qm (upd σ r (some pl')) b->Qm σ b\/w.heap.size<=b:=fun b ⟨r',p,t,h1,h2⟩=>by
 by_cases e:r'=r
 .subst e
  rw[J3]at h1
  injection h1 with h1
  injection h1 with h1
  subst h1
  rcases hl b t h2 with ⟨t',ht'⟩|h3
  .exact .inl ⟨r',pl,t',hr,ht'⟩
  .exact .inr h3
 .rw[J4 σ _ e]at h1
  exact .inl ⟨r',p,t,h1,h2⟩
end
def Sa (T:Tab) (m:Mem) (t:TypeId) (X:AV) (new:List AV):Option (Mem × List Prop) :=
 match T.at t with
 |none=>none
 | some ti=>bif Nat.beq (count new) ti.size then
   match X with
   | .ptr r g i off=>match m.get r with
    |some (.box e cs)=>bif Nat.beq g 0&&Nat.beq i 0&&Nat.ble (off+ti.size) (count cs) then some (m.put r (some (.box e (splice cs off new))),[]) else none
    | some (.vec e sz g' n f)=>bif Nat.ble (off + ti.size) sz then
      some (m.put r (some (.vec e sz g' n fun j=>bif Nat.beq j i then splice (f i) off new else f j)),[g'=g,i<n]) else none
    |_=>none
   |_=>none
  else none
def rowsOf (m:Mem) (sz:Nat):Nat→List (Nat × AV)→Option (List (List AV) × List Prop)
 |_,[]=>some ([],[])
 | k,(i,A) :: r=>bif Nat.beq i k then match cellsOf m A with
   |none=>none
   | some (cs,p)=>bif Nat.beq (count cs) sz then match rowsOf m sz (k + 1) r with
     |none=>none
     |some (l,q)=>some (cs::l,cat p q)
    else none
  else none
def F9:List (List AV)->Nat->List AV
 |[],_=>[]
 |c::_,0=>c
 |_::r,i+1=>F9 r i
def Jr:List (List AV)->Nat->List AV
 |[c]=>fun _=>c
 |l=>F9 l
def Jl:List (List AV)->Nat
 |[]=>0
 |_::r=>Jl r+1
def Nj (T:Tab)(m:Mem)(t:TypeId)(n:Nat)(parts:List (Nat × AV)):Option (AV × Mem × List Prop) :=
 match elemOf T t with
 |none=>none
 |some (e,sz)=>match rowsOf m sz 0 parts with
  |none=>none
  |some (rows,p)=>bif Nat.beq (Jl rows) n&&Nat.ble (n*sz) 65536 then some (.osl m.new 0 0 n,m.add (.vec e sz 0 n (Jr rows)),p) else none
section sound
variable {P:Program}{T:Tab}{w:World}{F:Nat->Prop}{σ:Pls}{m:Mem}
def Q59 (P:Program)(F:Nat->Prop)(σ:Pls)(w:World)(ρ:Operand->Value)(o:Oper)(A:AV)(m':Mem):Prop :=
 ∃n u w' σ',(execOp ρ o).run P w=.ok n w'/\(n=.value u\/(n=.skip/\u=undef))/\Vc w' F σ' A u/\Q3 m' σ' F w'/\Step σ F w σ' F w'/\SLe σ σ'
theorem size_alloc (w:World)(o:Obj):(w.alloc o).heap.size=w.heap.size+1:=World.size_alloc w o
theorem C6 {pl:Pl}{o:Obj}(hl:∀b t,pl.loc=some (b,t)->w.heap.size<=b):Step σ F w (upd σ m.new (some pl)) F (w.alloc o) where
 os:=rfl
 tape:=rfl
 output:=rfl
 drawn:=Qgx _
 size:=by rw[size_alloc];omega
 keep b hb _:=heap_alloc_old w o b hb
 fro _ h:=h
 fro' _ h:=.inl h
 own:=Rv hl
theorem O2 (hm:Q3 m σ F w){t:TypeId}{cs:List AV}{us:List Value}(hc:Y6 w F σ cs us) :
  ∃σ',Vc (w.alloc (.cells us.toArray t)) F σ' (.ptr m.new 0 0 0) (.pointer (some ⟨w.heap.size,0,none⟩))/\Q3 (m.add (.box t cs)) σ' F (w.alloc (.cells us.toArray t))/\Step σ F w σ' F (w.alloc (.cells us.toArray t))/\SLe σ σ':=by
 let pl:Pl:=⟨0,cs.length,some (w.heap.size,1)⟩
 have hn:=Ux hm
 have hs:=SLe.upd_new (σ:=σ) (r:=m.new) (some pl) hn
 have hkF:∀b,F b->(w.alloc (.cells us.toArray t)).heap[b]?=w.heap[b]?:=fun b hb=>heap_alloc_old w _ b (hm.fl b hb)
 have hB:Jx (w.alloc (.cells us.toArray t)) F (upd σ m.new (some pl)) (.box t cs) pl :=
  ⟨rfl,rfl,w.heap.size,rfl,us,heap_alloc_new w _,hc.1,fun j A u hA hu=>⟨(hc.2 j A u hA hu).1.mono (fun _ h=>h) hkF hs,(hc.2 j A u hA hu).2⟩⟩
 obtain⟨h1,h2⟩:=Ur (w':=w.alloc (.cells us.toArray t)) hm (by rw[size_alloc];omega) (fun b hb=>heap_alloc_old w _ b hb) hB (fun b t' h=>by
  simp only[pl,Qgz,Qh6]at h
  obtain⟨rfl,_⟩:=h
  exact⟨Qgx _,by rw[size_alloc];omega⟩)
 refine⟨_,.ptr (J3 σ m.new (some pl)) fun p hp=>?_,h1,C6 (fun b t' h=>?_),h2⟩
 .injection hp with hp
  subst hp
  exact⟨Qgx _,fun _=>⟨w.heap.size,1,rfl,by simp⟩⟩
 .simp only[pl,Qgz,Qh6]at h
  omega
theorem Q1w {us vs:List Value}{o:Nat}(h:o+vs.length<=us.length)(k:Nat) :
  (us.take o++vs++us.drop (o+vs.length))[k]?=if o<=k/\k<o+vs.length then vs[k-o]? else us[k]?:=by
 by_cases h1:k<o
 .rw[if_neg Om,List.append_assoc,Qhj (by simp;omega)]
  simp[h1]
 .by_cases h2:k<o+vs.length
  .rw[if_pos ⟨Om,h2⟩,Qhj (by simp;omega),Qhu (by simp;omega)]
   simp[Nat.min_eq_left (show o<=us.length by omega)]
  .rw[if_neg Om,Qhu (by simp;omega)]
   simp only[Qhc,Qhr,Nat.min_eq_left (show o<=us.length by omega),Qij]
   congr 1
   omega
theorem Ee {us vs:List Value}{o:Nat}(h:o+vs.length<=us.length):(us.take o++vs++us.drop (o+vs.length)).length=us.length:=by simp;omega
theorem Ar {r:Ref}{pl:Pl}{b tot:Nat}(hr:σ r=some (some pl))(hl:pl.loc=some (b,tot))(cs:Array Value):Step σ F w (upd σ r (some pl)) F (w.setRow b cs) where
 os:=rfl
 tape:=rfl
 output:=rfl
 drawn:=Qgx _
 size:=by rw[size_setRow];exact Qgx _
 keep b' _ ho:=setRow_other w b b' cs (fun e=>ho ⟨r,pl,tot,hr,by rw[e];exact hl⟩)
 fro _ h:=h
 fro' _ h:=.inl h
 own:=Et hr (fun b' t h=>.inl ⟨t,h⟩)
theorem Q93 (hT:Qb P T) (hm:Q3 m σ F w) {t:TypeId} {x:AV} {X V:Value} {new:List AV} {vs:List Value} {m':Mem} {p:List Prop} (hx:Vc w F σ x X) (hv:V.cells=vs.toArray) (hc:Y6 w F σ new vs)
  (h:Sa T m t x new=some (m',p)) (hp:∀q∈p,q):∃w' σ',(Instr.storeAt t X V).run P w=.ok () w'/\Q3 m' σ' F w'/\Step σ F w σ' F w'/\SLe σ σ':=by
 unfold Sa at h
 split at h<;>try (cases h;done)
 rename_i ti hti
 have ht:=hT _ _ hti
 cases hcn:Nat.beq (count new) ti.size with
 |false=>rw[hcn]at h;cases h
 | true =>
  rw[hcn]at h
  simp only[cond_true]at h
  have hcn:=Qh1 hcn
  rw[count_eq]at hcn
  have hvs:vs.length=ti.size:=by rw[hc.1,hcn]
  have hone:∀v∈vs,v.oneCell'=true:=fun v hvm=>by
   obtain⟨j,hj,rfl⟩:=List.getElem_of_mem hvm
   have hj':j<new.length:=by rw[<-hc.1];exact hj
   exact(hc.2 j _ _ (Qgy hj') (Qgy hj)).2
  have hrun:∀(b o:Nat) (cur:List Value) (e:TypeId),w.heap[b]?=some (.cells cur.toArray e (0,0))->o+vs.length<=cur.length ->
    (Instr.storeAt t (.pointer (some ⟨b,o,none⟩)) V).run P w=.ok () (w.setRow b (cur.take o++vs++cur.drop (o+vs.length)).toArray):=by
   intro b o cur e hh hfit
   have:=run_storeCells_at P b o e vs 0 cur.toArray w hh (by simpa using hfit) hone
   simp only[Nat.add_zero]at this
   simp[Instr.storeAt,Instr.sureAddr,storeVar,hv,run_sizeOf ht,hvs,this]
  split at h<;>try (cases h;done)
  rename_i r g i off
  split at h<;>try (cases h;done)
  .rename_i e cs hB
   cases hgi:(Nat.beq g 0&&Nat.beq i 0&&Nat.ble (off+ti.size) (count cs)) with
   |false=>rw[hgi]at h;cases h
   | true =>
    rw[hgi]at h
    simp only[cond_true,Qgz,Qh6]at h
    obtain⟨rfl,rfl⟩:=h
    simp only[Qh5,count_eq]at hgi
    have hg:=Qh1 hgi.1.1
    have hi:=Qh1 hgi.1.2
    have hfit:=Qhf hgi.2
    subst hg;subst hi
    obtain⟨pl,hr,hok,_,hat⟩:=W7 hm hx (Mem.get_at hB)
    obtain⟨h0,hsz,b,hl,us,hheap,hlen,hvc⟩:=hok
    obtain⟨b',tot,hl',hX⟩:=hat h0
    rw[hl]at hl'
    obtain⟨rfl,rfl⟩:=Prod.mk.inj (Option.some.inj hl')
    subst hX
    have hfit':off+vs.length<=us.length:=by omega
    have hr1:=hrun b off us e hheap hfit'
    have hsp:=Y6.splice (cs:=cs) (us:=us) (new:=new) (vs:=vs) (o:=off) ⟨hlen,hvc⟩ hc Om
    have hstep:=Ar (F:=F) (w:=w) hr hl (us.take off++vs++us.drop (off+vs.length)).toArray
    have hq:QLe (some pl) (some pl):=QLe.refl _
    have hs:=SLe.upd_old hr hq
    have hkF:∀b',F b'->(w.setRow b (us.take off++vs++us.drop (off+vs.length)).toArray).heap[b']?=w.heap[b']?:=fun b' hb'=>setRow_other w b b' _ (fun e=>(hm.nf r pl b 1 hr hl).1 (e▸hb'))
    obtain⟨h1,h2⟩:=Ge (w':=w.setRow b (us.take off++vs++us.drop (off+vs.length)).toArray) (pl':=pl) (B':=.box e (splice cs off new)) hm hr (by rw[size_setRow];exact Qgx _) (fun b' _ ht=>setRow_other w b b' _ (fun e=>ht 1 (by rw[hl,e]))) ⟨Qgx _,fun _=>rfl⟩
     ⟨h0,by rw[hsz,Mo],b,hl,_,setRow_heap w b us.toArray _ e (0,0) hheap,hsp.1,fun j A u hA hu=>⟨(hsp.2 j A u hA hu).1.mono (fun _ h=>h) hkF hs,(hsp.2 j A u hA hu).2⟩⟩
     (fun b' t' h=>⟨by rw[size_setRow];exact(hm.nf r pl b' t' hr h).2,.inl ⟨t',h⟩⟩)
    refine⟨_,_,?_,h1,hstep,h2⟩
    simpa using hr1
  .rename_i e sz g' n f hB
   cases hgi:Nat.ble (off+ti.size) sz with
   |false=>rw[hgi]at h;cases h
   | true =>
    rw[hgi]at h
    simp only[cond_true,Qgz,Qh6]at h
    obtain⟨rfl,rfl⟩:=h
    have hfit:=Qhf hgi
    have hg:g'=g:=hp _ (by simp)
    have hi:i<n:=hp _ (by simp)
    subst hg
    obtain⟨pl,hr,hok,_,hat⟩:=W7 hm hx (Mem.get_at hB)
    obtain⟨h0,hsz,hn0,hrow,hl⟩:=hok
    obtain⟨b,tot,hl',hX⟩:=hat h0
    obtain⟨hnt,htm,us,hheap,hlen,hvc⟩:=hl b tot hl'
    subst hX
    have hmul:∀a c:Nat,a<c->a*sz+sz<=c*sz:=fun a c hac=>by
     have:=Nat.mul_le_mul_right sz (show a+1<=c from hac)
     rw[Nat.add_mul]at this
     omega
    have hin:=hmul i tot Om
    have hfit':i*sz+off+vs.length<=us.length:=by omega
    have hr1:=hrun b (i*sz+off) us e hheap hfit'
    have hstep:=Ar (F:=F) (w:=w) hr hl' (us.take (i*sz+off)++vs++us.drop (i*sz+off+vs.length)).toArray
    have hs:=SLe.upd_old hr (QLe.refl (some pl))
    have hkF:∀b',F b'->(w.setRow b (us.take (i*sz+off)++vs++us.drop (i*sz+off+vs.length)).toArray).heap[b']?=w.heap[b']?:=fun b' hb'=>setRow_other w b b' _ (fun e=>(hm.nf r pl b tot hr hl').1 (e▸hb'))
    have hlenf:off+new.length<=(f i).length:=by rw[hrow i hi];omega
    obtain⟨h1,h2⟩:=Ge (w':=w.setRow b (us.take (i*sz+off)++vs++us.drop (i*sz+off+vs.length)).toArray) (pl':=pl) (B':=.vec e sz g' n fun j=>bif Nat.beq j i then splice (f i) off new else f j) hm hr (by rw[size_setRow];exact Qgx _) (fun b' _ ht=>setRow_other w b b' _ (fun e=>ht tot (by rw[hl',e]))) ⟨Qgx _,fun _=>rfl⟩
     ⟨h0,hsz,hn0,fun k hk=>by
       show(bif Nat.beq k i then splice (f i) off new else f k).length=sz
       cases hki:Nat.beq k i with
       |true=>simp only[cond_true,Mo];exact hrow i hi
       |false=>simp only[cond_false];exact hrow k hk,
      fun b1 tot1 hl1=>by
       rw[hl']at hl1
       obtain⟨rfl,rfl⟩:=Prod.mk.inj (Option.some.inj hl1)
       refine⟨hnt,htm,_,setRow_heap w b us.toArray _ e (0,0) hheap,by rw[Ee hfit'];exact hlen,fun k j A hk hA=>?_⟩
       rw[Q1w hfit']
       replace hA:(bif Nat.beq k i then splice (f i) off new else f k)[j]?=some A:=hA
       cases hki:Nat.beq k i with
       | true =>
        have:=Qh1 hki
        subst this
        rw[hki]at hA
        simp only[cond_true]at hA
        rw[C5 _ _ _ _ hlenf]at hA
        by_cases hj:off<=j/\j<off+new.length
        .rw[if_pos hj]at hA
         have hjv:j-off<vs.length:=by omega
         refine⟨vs[j-off],?_,?_⟩
         .rw[if_pos Om]
          have:k*sz+j-(k*sz+off)=j-off:=by omega
          rw[this]
          exact Qgy hjv
         .have:=hc.2 (j-off) A _ hA (Qgy hjv)
          exact⟨this.1.mono (fun _ h=>h) hkF hs,this.2⟩
        .rw[if_neg hj]at hA
         obtain⟨u,hu,hvu,h1u⟩:=hvc k j A hk hA
         exact⟨u,by rw[if_neg Om];exact hu,hvu.mono (fun _ h=>h) hkF hs,h1u⟩
       | false =>
        have hne:=Qhv hki
        rw[hki]at hA
        simp only[cond_false]at hA
        obtain⟨u,hu,hvu,h1u⟩:=hvc k j A hk hA
        have hjs:j<sz:=by rw[<-hrow k hk];exact(Qh7.1 hA).1
        refine⟨u,?_,hvu.mono (fun _ h=>h) hkF hs,h1u⟩
        rw[if_neg]
        .exact hu
        .rcases Nat.lt_or_gt_of_ne hne with h3|h3
         .have:=hmul k i h3;omega
         .have:=hmul i k h3;omega⟩
     (fun b' t' h=>⟨by rw[size_setRow];exact(hm.nf r pl b' t' hr h).2,.inl ⟨t',h⟩⟩)
    refine⟨_,_,?_,h1,hstep,h2⟩
    rw[hsz]
    exact hr1
end sound
end Go.Ab
