import Derived.Test.YtmlhghddfobmmaaGreatDoorEngJ
import Derived.ArgAppend
namespace Go.Ab
set_option linter.unusedSimpArgs false
set_option linter.unusedVariables false
def An (m:Mem)(sz:Nat):AV->Option (Nat × (Nat->List AV) × List Prop)
 | .d .nils=>some (0,fun _=>[],[])
 | .d (.sl sz' n f)=>bif Nat.beq sz' sz then some (n,fun i=>up (f i),[]) else none
 | .osl r g off n=>match m.get r with
  |some (.vec _ sz' g' n' f)=>bif Nat.beq sz' sz then bif Nat.beq off 0 then some (n,f,[g'=g,n<=n']) else some (n,fun i=>f (off+i),[g'=g,off+n<=n']) else none
  |_=>none
 |_=>none
def Gc (T:Tab)(e:TypeId):Nat :=
 match T.at e with
 |some ti=>ti.bytes
 |none=>0
def Je (n:Nat)(f h:Nat->List AV):Nat->List AV:=fun j=>bif Nat.blt j n then f j else h (j-n)
def Tk (T:Tab) (m:Mem) (t:TypeId) (s x:AV):Option (AV × Mem × List Prop) :=
 match elemOf T t with
 |none=>none
 | some (e,sz)=>bif Nat.beq (Gc T e) 0 then none else match An m sz x with
  |none=>none
  | some (k,h,p)=>match s with
   | .d .nils=>some (.osl m.new 0 0 k,m.add (.vec e sz 0 k h),cat p [k*Gc T e<=140737488355328])
   | .d (.slc sz' n f)=>bif Nat.beq sz' sz then some (.osl m.new 0 0 (n+k),m.add (.vec e sz 0 (n+k) (Je n (fun i=>up (f i)) h)),cat p [0<k,(n+k)*Gc T e<=140737488355328]) else none
   | .osl r g off n=>match m.get r with
    | some (.vec e' sz' g' n' f)=>bif Nat.beq e' e && Nat.beq sz' sz && Nat.beq off 0 then
      some (.osl r (g+1) 0 (n+k),m.put r (some (.vec e sz (g+1) (n+k) (Je n f h))),cat p [g'=g,n'=n,(n+k)*Gc T e<=140737488355328])
      else none
    |_=>none
   |_=>none
section sound
variable {P:Program}{T:Tab}{w:World}{F:Nat->Prop}{σ:Pls}{m:Mem}
def G9 (w:World)(F:Nat->Prop)(σ:Pls)(sz n:Nat)(f:Nat->List AV)(us:List Value):Prop :=
 (∀i,i<n->(f i).length=sz)/\n*sz<=us.length/\∀(i j:Nat) A,i<n->(f i)[j]?=some A->∃u,us[i*sz+j]?=some u/\Vc w F σ A u/\u.oneCell'=true
theorem Lp {i j n sz:Nat}(hi:i<n)(hj:j<sz):i*sz+j<n*sz:=by
 have:=Nat.mul_le_mul_right sz (show i+1<=n from hi)
 rw[Nat.add_mul]at this
 omega
theorem Q2d:∀(l:List (List AV)) (i:Nat) (hi:i<l.length),F9 l i=l[i]
 |c::_,0,_=>rfl
 |_::r,i+1,hi=>by simpa[F9] using Q2d r i (by simpa using hi)
theorem A8 {l:List (List AV)}{i:Nat}(hi:i<l.length):Jr l i=l[i]:=by
 unfold Jr
 split
 .simp at hi
  subst hi
  rfl
 .exact Q2d l i hi
theorem N8:∀l:List (List AV),Jl l=l.length
 |[]=>rfl
 |_::r=>by simp[Jl,N8 r]
theorem Fy (hm:Q3 m σ F w){sz:Nat}:∀(parts:List (Nat × AV)) (Q5:List (Nat × Value)) (k:Nat) (rows:List (List AV)) (p:List Prop) (cur:List Value),
  Q5.map (·.1)=parts.map (·.1)->(∀(j:Nat) a b,parts[j]?=some a->Q5[j]?=some b->Vc w F σ a.2 b.2)->rowsOf m sz k parts=some (rows,p)->(∀q∈p,q)->(k+parts.length)*sz<=cur.length ->
  ∃us:List Value,us.length=rows.length*sz/\rows.length=parts.length/\Instr.fill (fun i=>some (i*sz,sz)) cur.toArray Q5=some (cur.take (k*sz)++us++cur.drop (k*sz+us.length)).toArray /\
   ∀(i j:Nat) (hi:i<rows.length),(rows[i].length=sz)/\∀A,rows[i][j]?=some A->∃u,us[i*sz+j]?=some u/\Vc w F σ A u/\u.oneCell'=true
 |[],Q5,k,rows,p,cur,hk,hv,h,hp,hfit=>by
  have:Q5=[]:=by simpa using hk
  subst this
  simp[rowsOf]at h
  obtain⟨rfl,rfl⟩:=h
  exact⟨[],by simp,rfl,by simp[Instr.fill],fun i j hi=>absurd hi (by simp)⟩
 | (i0,A0) :: r,Q5,k,rows,p,cur,hk,hv,h,hp,hfit=>by
  cases Q5 with
  |nil=>simp at hk
  | cons iv Q5 =>
   obtain⟨i1,v⟩:=iv
   simp only[Qin,List.cons.injEq]at hk
   obtain⟨hi,hk2⟩:=hk
   subst hi
   simp only[rowsOf]at h
   cases hb:Nat.beq i1 k with
   |false=>rw[hb]at h;cases h
   | true =>
    rw[hb]at h
    simp only[cond_true]at h
    have hik:=Qh1 hb
    subst hik
    split at h<;>try (cases h;done)
    rename_i cs q hcells
    cases hc:Nat.beq (count cs) sz with
    |false=>rw[hc]at h;cases h
    | true =>
     rw[hc]at h
     simp only[cond_true]at h
     split at h<;>try (cases h;done)
     rename_i l q' hrest
     simp only[Qgz,Qh6]at h
     obtain⟨rfl,rfl⟩:=h
     have hcs:=Qh1 hc
     rw[count_eq]at hcs
     obtain⟨us0,e1,e2,e3⟩:=Pe hm (hv 0 (i1,A0) (i1,v) rfl rfl) hcells (Ji hp).1
     have hus0:us0.length=sz:=by omega
     have hfit':(i1+1+r.length)*sz<=cur.length:=by rw[show i1+1+r.length=i1+((i1,A0)::r).length by simp;omega];exact hfit
     have hmul:(i1+1)*sz<=(i1+1+r.length)*sz:=Nat.mul_le_mul_right _ Om
     have hmul1:(i1+1)*sz=i1*sz+sz:=by rw[Nat.add_mul,Nat.one_mul]
     have hf0:i1*sz+us0.length<=cur.length:=by omega
     obtain⟨us,f1,f2,f3,f4⟩:=Fy hm r Q5 (i1+1) l q' (cur.take (i1*sz)++us0++cur.drop (i1*sz+us0.length)) hk2 (fun j a b ha hb=>hv (j+1) a b (by simpa using ha) (by simpa using hb)) hrest (Ji hp).2 (by rw[Ee hf0];exact hfit')
     refine⟨us0++us,by simp[f1,hus0,Nat.add_mul];omega,by simp[f2],?_,fun i j hi=>?_⟩
     .rw[Q44 (place:=fun i=>some (i*sz,sz)) rfl e1 hus0 Om,f3]
      congr 2
      have ht:(cur.take (i1*sz)).length=i1*sz:=by rw[Qhr];omega
      generalize hA:cur.take (i1*sz)=A at ht⊢
      have g1:(A++us0++cur.drop (i1*sz+us0.length)).take ((i1+1)*sz)=A++us0:=by
       rw[List.take_append_of_le_length (by simp;omega),Qhn (by simp;omega)]
      have g2:(A++us0++cur.drop (i1*sz+us0.length)).drop ((i1+1)*sz+us.length)=cur.drop (i1*sz+(us0++us).length):=by
       rw[List.drop_append,Qib (by simp;omega),List.nil_append,List.drop_drop]
       congr 1
       simp
       omega
      rw[g1,g2]
      simp
     .cases i with
      |zero =>
       refine⟨hcs,fun A hA=>?_⟩
       have hj:j<cs.length:=(Qh7.1 hA).1
       have hu:us0[j]?=some (us0[j]'Om):=Qgy Om
       refine⟨us0[j]'Om,?_,e3 j A _ hA hu⟩
       rw[Nat.zero_mul,Qh9,Qhj Om]
       exact hu
      |succ i =>
       obtain⟨g1,g2⟩:=f4 i j (by simpa using hi)
       refine⟨by simpa using g1,fun A hA=>?_⟩
       obtain⟨u,hu,hv⟩:=g2 A (by simpa using hA)
       refine⟨u,?_,hv⟩
       rw[Qhu (by rw[Nat.add_mul];omega)]
       rw[<-hu]
       congr 1
       rw[Nat.add_mul]
       omega
def Nb:List (List AV)->Option (List D)
 |[]=>some []
 |[.d x]::r=>match Nb r with
  |some l=>some (x::l)
  |none=>none
 |_=>none
theorem Oi:∀{rows:List (List AV)} {xs:List D},Nb rows=some xs->rows.length=xs.length/\∀(i:Nat) x,xs[i]?=some x->rows[i]?=some [.d x]
 |[],xs,h=>by simp[Nb]at h;subst h;exact⟨rfl,fun i x h=>by simp at h⟩
 | c :: r,xs,h=>by
  unfold Nb at h
  split at h<;>try (cases h;done)
  .rename_i e;cases e
  .rename_i x0 r0 e
   injection e with e1 e2
   subst e1;subst e2
   split at h<;>try (cases h;done)
   rename_i l hl
   injection h with h
   subst h
   obtain⟨h1,h2⟩:=Oi hl
   refine⟨by simp[h1],fun i x hx=>?_⟩
   cases i with
   |zero=>simp at hx;subst hx;rfl
   |succ i=>simpa using h2 i x (by simpa using hx)
def Nc:List AV->Option (List D)
 |[]=>some []
 | .d x::r=>match Nc r with
  |some l=>some (x::l)
  |none=>none
 |_=>none
def Na:List (List AV)->Option (List D)
 |[]=>some []
 | c :: r=>match Nc c with
  |some x=>match Na r with
   |some l=>some (x++l)
   |none=>none
  |none=>none
theorem Oj:∀{cs:List AV} {xs:List D},Nc cs=some xs->cs=xs.map .d
 |[],xs,h=>by simp[Nc]at h;subst h;rfl
 | c :: r,xs,h=>by
  unfold Nc at h
  split at h<;>try (cases h;done)
  .rename_i e;cases e
  .rename_i x0 r0 e
   injection e with e1 e2
   subst e1;subst e2
   split at h<;>try (cases h;done)
   rename_i l hl
   injection h with h
   subst h
   rw[Oj hl]
   rfl
theorem Oh {sz:Nat}:∀{rows:List (List AV)} {xs:List D},Na rows=some xs->(∀(i:Nat) (hi:i<rows.length),rows[i].length=sz)->xs.length=rows.length*sz/\∀(i j:Nat) x (hi:i<rows.length),j<sz->xs[i*sz+j]?=some x->rows[i][j]?=some (.d x)
 |[],xs,h,_=>by simp[Na]at h;subst h;exact⟨by simp,fun i j x hi=>absurd hi (Qhh i)⟩
 | c :: r,xs,h,hl=>by
  unfold Na at h
  split at h<;>try (cases h;done)
  rename_i x0 hx0
  split at h<;>try (cases h;done)
  rename_i l hl0
  injection h with h
  subst h
  have e0:=Oj hx0
  have hc:c.length=sz:=hl 0 (by simp)
  have hx0l:x0.length=sz:=by rw[<-hc,e0];simp
  obtain⟨h1,h2⟩:=Oh (sz:=sz) hl0 fun i hi=>by
   have:=hl (i+1) (by simpa using hi)
   rw[List.getElem_cons_succ]at this
   exact this
  refine⟨by rw[Qhc,h1,hx0l,Qhs,Nat.add_mul,Nat.one_mul,Nat.add_comm],fun i j x hi hj hx=>?_⟩
  cases i with
  |zero =>
   rw[Nat.zero_mul,Qh9,Qhj Om]at hx
   simp only[List.getElem_cons_zero]
   rw[e0,Qhe,hx]
   rfl
  |succ i =>
   have e1:(i+1)*sz+j=x0.length+(i*sz+j):=by rw[Nat.add_mul,hx0l];omega
   rw[e1,Qhu Om,Nat.add_sub_cancel_left]at hx
   simpa using h2 i j x (by simpa using hi) hj hx
def D1 (T:Tab) (m:Mem) (t:TypeId) (parts:List (Nat × AV)):Option (AV × List Prop) :=
 match Gb T t with
 | none=>match Mn T t with
  |none=>none
  | some (n,sz)=>match rowsOf m sz 0 parts with
   |none=>none
   |some (rows,p)=>match Na rows with
    |none=>none
    |some xs=>bif Nat.beq (Jl rows) n then some (.d (.agg xs),p) else none
 | some (n,_)=>match rowsOf m 1 0 parts with
  |none=>none
  |some (rows,p)=>match Nb rows with
   |none=>none
   |some xs=>bif Nat.beq (Jl rows) n then some (.d (.agg xs),p) else none
theorem Q0c (hT:Qb P T) (hm:Q3 m σ F w) {a:Act} {t:TypeId} {parts:Array (Nat × Operand)} {l0:List (Nat × AV)} (hk1:(parts.toList.map fun (i,x)=>(i,a.eval x)).map (·.1)=l0.map (·.1)) (hk2:∀ (j:Nat) A u,l0[j]?=some A→(parts.toList.map fun (i,x)=>(i,a.eval x))[j]?=some u→Vc w F σ A.2 u.2) {A:AV} {obs:List Prop}
  (h:D1 T m t l0=some (A,obs)) (hob:∀p∈obs,p):∃u,(Instr.build t (parts.map fun(i,x)=>(i,a.eval x))).run P w=.ok u w/\Vc w F σ A u:=by
 unfold D1 at h
 split at h
 .split at h<;>try (cases h;done)
  rename_i n sz he'
  obtain⟨e,te,hu,hs,_,_,ti,hti,ht,hsz⟩:=Am hT he'
  split at h<;>try (cases h;done)
  rename_i rows p hrows
  split at h<;>try (cases h;done)
  rename_i xs hxs
  cases hc:Nat.beq (Jl rows) n with
  |false=>rw[hc]at h;cases h
  | true =>
   rw[hc]at h
   simp only[cond_true,Qgz,Qh6]at h
   obtain⟨rfl,rfl⟩:=h
   have hn:=Qh1 hc
   rw[N8]at hn
   obtain⟨z,hz,hzs,hzsz⟩:=Ka ht w
   have hpl:∀(l:List (Nat × AV)) (k:Nat) (rows:List (List AV)) (p:List Prop),rowsOf m sz k l=some (rows,p)->l.length=rows.length:=by
    intro l
    induction l with
    |nil=>intro k rows p h;simp only[rowsOf,Qgz,Qh6]at h;obtain⟨rfl,_⟩:=h;rfl
    | cons x r ih =>
     intro k rows p h
     obtain⟨i,B⟩:=x
     simp only[rowsOf]at h
     cases hi:Nat.beq i k with
     |false=>rw[hi]at h;cases h
     | true =>
      rw[hi]at h
      simp only[cond_true]at h
      split at h<;>try (cases h;done)
      cases hcc:Nat.beq (count _) sz with
      |false=>rw[hcc]at h;cases h
      |true =>
       rw[hcc]at h
       simp only[cond_true]at h
       split at h<;>try (cases h;done)
       rename_i l' q' hl'
       simp only[Qgz,Qh6]at h
       obtain⟨rfl,_⟩:=h
       have:=ih _ _ _ hl'
       simpa using this
   have hll:=hpl _ _ _ _ hrows
   have e2:z.cells.toList.length=n*sz:=by rw[Qhg,hzsz,hsz]
   obtain⟨us,f1,f2,f3,f4⟩:=Fy hm l0 _ 0 rows p z.cells.toList hk1 hk2 hrows hob (by
    rw[e2,Qh9,hll,hn]
    exact Qgx _)
   rw[Qi2]at f3
   have hlen:us.length=n*sz:=by rw[f1,hn]
   have hcs:z.cells.toList.take (0*sz)++us++z.cells.toList.drop (0*sz+us.length)=us:=by
    rw[Nat.zero_mul,Qh9,List.take_zero,Qib Om]
    simp
   rw[hcs]at f3
   have hpp:(parts.map fun(i,x)=>(i,a.eval x)).toList=parts.toList.map fun(i,x)=>(i,a.eval x):=by simp
   obtain⟨d1,d2⟩:=Oh hxs fun i hi=>(f4 i 0 hi).1
   refine⟨.agg us.toArray,?_,.d (.agg (by rw[hlen,d1,hn]) fun j x u hx hu'=>?_)⟩
   .simp only[Instr.build,Sem.run_bind,hz,Result.andThen_ok,run_underlying hu,hs,hpp,f3]
    rfl
   .have hjl:j<rows.length*sz:=by rw[<-d1];exact(Qh7.1 hx).1
    have hsz0:0<sz:=Nat.pos_of_ne_zero fun e=>by rw[e]at hjl;omega
    have hq:j / sz<rows.length:=(Nat.div_lt_iff_lt_mul hsz0).2 hjl
    have hr:j % sz<sz:=Nat.mod_lt _ hsz0
    have hj:j / sz*sz+j % sz=j:=by rw[Nat.mul_comm];exact Nat.div_add_mod j sz
    have h3:=d2 (j / sz) (j % sz) x hq hr (by rw[hj];exact hx)
    obtain⟨u',hu2,hv,_⟩:=(f4 (j / sz) (j % sz) hq).2 (.d x) h3
    rw[hj,hu']at hu2
    injection hu2 with hu2
    subst hu2
    cases hv with|d h=>exact h
 rename_i n e he'
 obtain⟨hu,hs,ti,hti,ht,hsz,_⟩:=R9 hT he'
 split at h<;>try (cases h;done)
 rename_i rows p hrows
 split at h<;>try (cases h;done)
 rename_i xs hxs
 cases hc:Nat.beq (Jl rows) n with
 |false=>rw[hc]at h;cases h
 | true =>
  rw[hc]at h
  simp only[cond_true,Qgz,Qh6]at h
  obtain⟨rfl,rfl⟩:=h
  have hn:=Qh1 hc
  rw[N8]at hn
  obtain⟨z,hz,hzs,hzsz⟩:=Ka ht w
  have hz1:=(Ls (w:=w) (F:=F) hzs).1
  have hpl:l0.length=rows.length\/True:=.inr trivial
  obtain⟨us,f1,f2,f3,f4⟩:=Fy hm l0 _ 0 rows p z.cells.toList hk1 hk2 hrows hob (by
   have:l0.length<=rows.length:=by
    have key:∀(l:List (Nat × AV)) (k:Nat) (rows:List (List AV)) (p:List Prop),rowsOf m 1 k l=some (rows,p)->l.length<=rows.length:=by
     intro l
     induction l with
     |nil=>intro k rows p _;simp
     | cons x r ih =>
      intro k rows p h
      obtain⟨i,B⟩:=x
      simp only[rowsOf]at h
      cases hi:Nat.beq i k with
      |false=>rw[hi]at h;cases h
      | true =>
       rw[hi]at h
       simp only[cond_true]at h
       split at h<;>try (cases h;done)
       cases hcc:Nat.beq (count _) 1 with
       |false=>rw[hcc]at h;cases h
       |true =>
        rw[hcc]at h
        simp only[cond_true]at h
        split at h<;>try (cases h;done)
        rename_i l' q' hl'
        simp only[Qgz,Qh6]at h
        obtain⟨rfl,_⟩:=h
        have:=ih _ _ _ hl'
        simpa using this
    exact key _ _ _ _ hrows
   have e2:z.cells.toList.length=n:=by rw[Qhg,hzsz,hsz]
   omega)
  rw[Qi2]at f3
  have hlen:us.length=z.cells.toList.length:=by
   have e2:z.cells.toList.length=n:=by rw[Qhg,hzsz,hsz]
   omega
  have hcs:z.cells.toList.take (0*1)++us++z.cells.toList.drop (0*1+us.length)=us:=by
   rw[Nat.zero_mul,Qh9,List.take_zero,Qib Om]
   simp
  rw[hcs]at f3
  have hpp:(parts.map fun(i,x)=>(i,a.eval x)).toList=parts.toList.map fun(i,x)=>(i,a.eval x):=by simp
  obtain⟨d1,d2⟩:=Oi hxs
  refine⟨.agg us.toArray,?_,.d (.agg Om fun j x u hx hu'=>?_)⟩
  .simp only[Instr.build,Sem.run_bind,hz,Result.andThen_ok,run_underlying hu,hs,hpp,f3]
   rfl
  .have hr:=d2 j x hx
   have hj:j<rows.length:=(Qh7.1 hr).1
   have hrj:rows[j]=[.d x]:=by
    rw[Qgy hj]at hr
    injection hr
   obtain⟨u',hu2,hv,_⟩:=(f4 j 0 hj).2 (.d x) (by rw[hrj];rfl)
   rw[Nat.mul_one,Nat.add_zero,hu']at hu2
   injection hu2 with hu2
   subst hu2
   cases hv with|d h=>exact h
theorem M7 (hm:Q3 m σ F w){e:TypeId}{sz n tot:Nat}{f:Nat->List AV}{us:List Value}{w':World}{b:Nat}(hsz:w.heap.size<=b)(hb:b<w'.heap.size)(hk:∀b,b<w.heap.size->w'.heap[b]?=w.heap[b]?)
  (hos:w'.os=w.os) (htape:w'.tape=w.tape) (hout:w'.output=w.output) (hdr:w.drawn<=w'.drawn)
  (hheap:w'.heap[b]?=some (.cells us.toArray e (0,0))) (hlen:us.length=tot*sz) (hnt:n<=tot) (htm:tot<=maxLen) (hrows:G9 w F σ sz n f us) :
  ∃σ',Vc w' F σ' (.osl m.new 0 0 n) (.slice (some ⟨b,0,none⟩) n tot)/\Q3 (m.add (.vec e sz 0 n f)) σ' F w'/\Step σ F w σ' F w'/\SLe σ σ':=by
 let pl:Pl:=⟨0,sz,some (b,tot)⟩
 have hs:=SLe.upd_new (σ:=σ) (r:=m.new) (some pl) (Ux hm)
 have hkF:∀b,F b->w'.heap[b]?=w.heap[b]?:=fun b hb=>hk b (hm.fl b hb)
 obtain⟨h1,h2⟩:=Ur (w':=w') (pl:=pl) (B:=.vec e sz 0 n f) hm Om hk
  ⟨rfl,rfl,fun h=>by simp [pl] at h,hrows.1,fun b1 t1 h=>by
   simp only[pl,Qgz,Qh6]at h
   obtain⟨rfl,rfl⟩:=h
   exact⟨hnt,htm,us,hheap,hlen,fun i j A hi hA=>by
    obtain⟨u,hu,hv,h1⟩:=hrows.2.2 i j A hi hA
    exact⟨u,hu,hv.mono (fun _ h=>h) hkF hs,h1⟩⟩⟩
  (fun b1 t1 h=>by
   simp only[pl,Qgz,Qh6]at h
   obtain⟨rfl,_⟩:=h
   exact⟨hsz,hb⟩)
 refine⟨_,.osl (J3 σ m.new (some pl)) fun p hp=>?_,h1,⟨hos,htape,hout,hdr,Om,fun b hb _=>hk b hb,fun _ h=>h,fun _ h=>.inl h,Rv fun b1 t1 h=>?_⟩,h2⟩
 .injection hp with hp
  subst hp
  exact⟨Qgx _,fun _=>⟨_,tot,rfl,hnt,by simp,fun _=>by simp⟩⟩
 .simp only[pl,Qgz,Qh6]at h
  omega
theorem Tn (hT:Qb P T)(hm:Q3 m σ F w){a:Act}{t:TypeId}{n:Nat}{parts:Array (Nat × Operand)}{l0:List (Nat × AV)}(hk1:(parts.toList.map fun(i,x)=>(i,a.eval x)).map (·.1)=l0.map (·.1))(hk2:∀(j:Nat) A u,l0[j]?=some A->(parts.toList.map fun(i,x)=>(i,a.eval x))[j]?=some u->Vc w F σ A.2 u.2){A:AV}{m':Mem}{obs:List Prop}
  (h:Nj T m t n l0=some (A,m',obs)) (hob:∀p∈obs,p) :
  ∃u w' σ',(Instr.buildSlice t n (parts.map fun(i,x)=>(i,a.eval x))).run P w=.ok u w'/\Vc w' F σ' A u/\Q3 m' σ' F w'/\Step σ F w σ' F w'/\SLe σ σ'/\∃A0,u=.slice A0 n n:=by
 unfold Nj at h
 split at h<;>try (cases h;done)
 rename_i e sz he'
 obtain⟨hu,hs,te,hte,htsz⟩:=Gl hT he'
 split at h<;>try (cases h;done)
 rename_i rows p hrows
 cases hc:(Nat.beq (Jl rows) n&&Nat.ble (n*sz) 65536) with
 |false=>rw[hc]at h;cases h
 | true =>
  rw[hc]at h
  simp only[cond_true,Qgz,Qh6]at h
  obtain⟨rfl,rfl,rfl⟩:=h
  simp only[Qh5,N8]at hc
  have hn:=Qh1 hc.1
  have hsmall:=Qhf hc.2
  subst hn
  obtain⟨z,hz,hzs,hzsz⟩:=Ka hte w
  let Z:Array Value:=if rows.length*sz=0 then #[] else z.cells
  let cur:List Value:=(((Array.range (rows.length*sz)).map (Z[· % Z.size]!))).toList
  have hcur:cur.length=rows.length*sz:=by simp[cur]
  have hpl:rows.length=l0.length:=by
   have:∀(l:List (Nat × AV)) (k:Nat) (rows:List (List AV)) (p:List Prop),rowsOf m sz k l=some (rows,p)->rows.length=l.length:=by
    intro l
    induction l with
    |nil=>intro k rows p h;simp[rowsOf]at h;obtain⟨rfl,_⟩:=h;rfl
    | cons x r ih =>
     intro k rows p h
     obtain⟨i,A⟩:=x
     simp only[rowsOf]at h
     cases h1:Nat.beq i k<;>rw[h1]at h<;>simp only[cond_true,cond_false]at h
     .cases h
     .split at h<;>try (cases h;done)
      rename_i cs q _
      cases h2:Nat.beq (count cs) sz<;>rw[h2]at h<;>simp only[cond_true,cond_false]at h
      .cases h
      .split at h<;>try (cases h;done)
       rename_i l q' hr
       simp only[Qgz,Qh6]at h
       obtain⟨rfl,_⟩:=h
       simp[ih _ _ _ hr]
   exact this _ _ _ _ hrows
  obtain⟨us,f1,_,f3,f4⟩:=Fy hm _ _ 0 rows p cur hk1 hk2 hrows hob (by rw[hcur,Qh9,<-hpl];exact Qgx _)
  have husd:cur.take (0*sz)++us++cur.drop (0*sz+us.length)=us:=by
   have:cur.drop us.length=[]:=Qib Om
   simp[this]
  rw[husd]at f3
  have hmap:(parts.map fun(i,x)=>(i,a.eval x)).toList=parts.toList.map fun(i,x)=>(i,a.eval x):=by simp
  have hrun:(Instr.buildSlice t rows.length (parts.map fun(i,x)=>(i,a.eval x))).run P w=.ok (.slice (some ⟨w.heap.size,0,none⟩) rows.length rows.length) (w.alloc (.cells us.toArray e)):=by
   have hZ:(if rows.length*sz=0 then(pure #[]:Sem (Array Value)) else do pure (<-zeroValue e).cells).run P w=.ok Z w:=by
    by_cases h0:rows.length*sz=0
    .rw[if_pos h0];simp[Z,h0]
    .rw[if_neg h0];simp[Z,h0,hz]
   unfold Instr.buildSlice
   simp only[Sem.run_bind,run_underlying hu,Result.andThen_ok,hs,Sem.run_ite]
   rw[if_neg Om]
   simp only[Sem.run_ite]at hZ
   have f3':Instr.fill (fun i=>some (i*sz,sz)) ((Array.range (rows.length*sz)).map (Z[· % Z.size]!)) (parts.map fun(i,x)=>(i,a.eval x)).toList=some us.toArray:=by
    rw[hmap]
    rw[show cur.toArray=(Array.range (rows.length*sz)).map (Z[· % Z.size]!) from Qi2]at f3
    exact f3
   by_cases h0:rows.length*sz=0
   .have hZ0:Z=#[]:=by simp[Z,h0]
    rw[hZ0]at f3'
    simp[h0]at f3'⊢
    rw[f3']
    simp[newRow]
   .have hZ0:Z=z.cells:=by simp[Z,h0]
    rw[hZ0]at f3'
    simp only[h0,if_false,hz,Result.andThen_ok,Sem.run_pure]
    rw[f3']
    simp[newRow]
  have hR:G9 w F σ sz rows.length (Jr rows) us:=⟨fun i hi=>by rw[A8 hi];exact(f4 i 0 hi).1,Om,fun i j A hi hA=>by
   rw[A8 hi]at hA
   exact(f4 i j hi).2 A hA⟩
  obtain⟨σ',g1,g2,g3,g4⟩:=M7 (w':=w.alloc (.cells us.toArray e)) (b:=w.heap.size) (tot:=rows.length) hm (Qgx _) (by rw[size_alloc];omega) (fun b hb=>heap_alloc_old w _ b hb) rfl rfl rfl (Qgx _) (heap_alloc_new w _) f1 (Qgx _)
   (by
    have hte0:=kindIs_elem hu he' hT
    have:rows.length<=rows.length*sz:=Nat.le_mul_of_pos_right _ Om
    unfold maxLen;omega) hR
  exact⟨_,_,σ',hrun,g1,g2,g3,g4,_,rfl⟩
where
 kindIs_elem {t e:TypeId} {sz:Nat} (_hu:P.underlying t=some (.slice e)) (he:elemOf T t=some (e,sz)) (hT:Qb P T):0<sz:=by
  unfold elemOf at he
  split at he<;>try (cases he;done)
  rename_i ti hti
  split at he<;>try (cases he;done)
  rename_i e' hk
  split at he<;>try (cases he;done)
  rename_i te hte
  injection he with he
  obtain⟨rfl,rfl⟩:=Prod.mk.inj he
  have hkk:=Xu (hT _ _ hti)
  rw[hk]at hkk
  simp only[Vj]at hkk
  split at hkk<;>try (cases hkk;done)
  simp only[Qh5,Bool.not_eq_true']at hkk
  have hne:=Qhv hkk.2
  obtain⟨i,z,hi,hs,_⟩:=Yj (hT _ _ hte)
  simp[Program.cellsOf,hi,hs]at hne
  omega
theorem Ao (hm:Q3 m σ F w){sz:Nat}{x:AV}{X:Value}{k:Nat}{h:Nat->List AV}{p:List Prop}(hx:Vc w F σ x X)(hs:An m sz x=some (k,h,p))(hp:∀q∈p,q) :
  ∃(A:Option Addr) (c:Nat) (news:List Value),X=.slice A k c/\news.length=k*sz/\(A=none->k=0)/\(∀a,A=some a->∀(j:Nat) u,news[j]?=some u->w.cell? (a.add j)=some u)/\(∀u∈news,u.oneCell'=true)/\G9 w F σ sz k h news:=by
 unfold An at hs
 split at hs<;>try (cases hs;done)
 .simp only[Qgz,Qh6]at hs
  obtain⟨rfl,rfl,rfl⟩:=hs
  cases hx with|d hx=>cases hx with
  |nils=>exact⟨none,0,[],rfl,by simp,fun _=>rfl,(fun a h=>by cases h),(fun u hu=>by simp at hu),fun i hi=>absurd hi Om,by simp,fun i j A hi=>absurd hi Om⟩
 .rename_i sz' n f
  cases hz:Nat.beq sz' sz with
  |false=>rw[hz]at hs;cases hs
  | true =>
   rw[hz]at hs
   simp only[cond_true,Qgz,Qh6]at hs
   obtain⟨rfl,rfl,rfl⟩:=hs
   have:=Qh1 hz
   subst this
   cases hx with|d hx=>cases hx with
   | @sl _ _ _ B cap a0 g hc hA hl hcell hrd =>
    have hsplit:∀q,q<n*sz'->q / sz'<n/\q % sz'<sz'/\q / sz'*sz'+q % sz'=q:=fun q hq=>by
     have h0:0<sz':=by
      rcases Nat.eq_zero_or_pos sz' with e|e
      .subst e;omega
      .exact e
     exact⟨(Nat.div_lt_iff_lt_mul h0).2 hq,Nat.mod_lt _ h0,by rw[Nat.mul_comm];exact Nat.div_add_mod q sz'⟩
    have hat:∀q,q<n*sz'->((List.range (n*sz')).map fun q=>g (q / sz') (q % sz'))[q]?=some (g (q / sz') (q % sz')):=fun q hq=>by
     rw[Qhe,List.getElem?_range hq];rfl
    refine⟨B,cap,(List.range (n*sz')).map fun q=>g (q / sz') (q % sz'),rfl,by simp,fun hB=>?_,fun a ha j u hu=>?_,fun u hu=>?_,fun i hi=>by show(up (f i)).length=sz';rw[Zb,Qhb];exact hl i hi,by simp,fun i j A hi hA2=>?_⟩
    .rcases Nat.eq_zero_or_pos n with e|e
     .exact e
     .have:=(hA e).1;rw[hB]at this;cases this
    .have hj:j<n*sz':=by have:=(Qh7.1 hu).1;simpa using this
     rw[hat j hj]at hu
     injection hu with hu
     subst hu
     obtain⟨h1,h2,h3⟩:=hsplit j hj
     have:=(hA (Nat.lt_of_le_of_lt (Qh3 _) h1)).1
     rw[ha]at this
     injection this with this
     subst this
     have:=(hcell (j / sz') (j % sz') h1 h2).1
     rwa [h3]at this
    .obtain⟨q,hq,rfl⟩:=Qhw.1 hu
     obtain⟨h1,h2,h3⟩:=hsplit q (List.mem_range.1 hq)
     exact(hcell _ _ h1 h2).2
    .obtain⟨y,hy,rfl⟩:=Ue hA2
     have hj:j<sz':=by rw[<-hl i hi];exact(Qh7.1 hy).1
     have hlt:=Lp hi hj
     refine⟨g i j,?_,.d (hrd i j y hi hy),(hcell i j hi hj).2⟩
     rw[hat _ hlt]
     have e1:(i*sz'+j) / sz'=i:=by rw[Nat.mul_comm,Nat.mul_add_div Om,Nat.div_eq_of_lt hj,Nat.add_zero]
     have e2:(i*sz'+j) % sz'=j:=by rw[Nat.mul_comm,Nat.mul_add_mod,Nat.mod_eq_of_lt hj]
     rw[e1,e2]
 .rename_i r g off n
  split at hs<;>try (cases hs;done)
  rename_i e' sz' g' n' f hB
  cases hz:Nat.beq sz' sz with
  |false=>rw[hz]at hs;cases hs
  | true =>
   rw[hz]at hs
   simp only[cond_true]at hs
   have:=Qh1 hz
   subst this
   have hcase:n=k/\g'=g/\off+n<=n'/\∀i,h i=f (off+i):=by
    cases ho:Nat.beq off 0 with
    |true =>
     rw[ho]at hs
     simp only[cond_true,Qgz,Qh6]at hs
     obtain⟨rfl,rfl,rfl⟩:=hs
     have:=Qh1 ho
     subst this
     exact⟨rfl,hp _ (by simp),by have:n<=n':=hp _ (by simp);omega,fun i=>by rw[Qh9]⟩
    |false =>
     rw[ho]at hs
     simp only[cond_false,Qgz,Qh6]at hs
     obtain⟨rfl,rfl,rfl⟩:=hs
     exact⟨rfl,hp _ (by simp),hp (off+n<=n') (by simp),fun i=>rfl⟩
   obtain⟨rfl,rfl,hfit,hh⟩:=hcase
   obtain⟨pl,hr,hok,_,hat⟩:=Uz hm hx (Mem.get_at hB)
   obtain⟨h0,hsz,hn0,hrow,hl⟩:=hok
   have hsl:=hat h0
   unfold Yn at hsl
   split at hsl
   .obtain⟨rfl,rfl,rfl⟩:=hsl
    exact⟨none,0,[],rfl,by simp,fun _=>rfl,(fun a h=>by cases h),(fun u hu=>by simp at hu),fun i hi=>absurd hi Om,by simp,fun i j A hi=>absurd hi Om⟩
   .rename_i b tot hloc
    obtain⟨B,cap,rfl,hnc,hoc,hA⟩:=hsl
    obtain⟨hnt,htm,us,hheap,hlen,hvc⟩:=hl b tot hloc
    have hm1:(off+n)*sz'<=tot*sz':=Nat.mul_le_mul_right _ Om
    rw[Nat.add_mul]at hm1
    have hB:0<n->B=some ⟨b,off*sz',none⟩:=fun h=>by rw[hA (.inl Om),hsz]
    have hone:∀(j:Nat),j<n*sz'->∃u,((us.drop (off*sz')).take (n*sz'))[j]?=some u/\u.oneCell'=true/\us[off*sz'+j]?=some u:=fun j hj=>by
     have h0:0<sz':=by
      rcases Nat.eq_zero_or_pos sz' with e|e
      .subst e;omega
      .exact e
     have h1:j / sz'<n:=(Nat.div_lt_iff_lt_mul h0).2 hj
     have h2:j % sz'<sz':=Nat.mod_lt _ h0
     have h3:j / sz'*sz'+j % sz'=j:=by rw[Nat.mul_comm];exact Nat.div_add_mod j sz'
     have hr1:=hrow (off+j / sz') Om
     have hA1:(f (off+j / sz'))[j % sz']?=some ((f (off+j / sz'))[j % sz']'Om):=Qgy Om
     obtain⟨u,hu,_,hu1⟩:=hvc (off+j / sz') (j % sz') _ Om hA1
     have e:(off+j / sz')*sz'+j % sz'=off*sz'+j:=by rw[Nat.add_mul];omega
     rw[e]at hu
     exact⟨u,by simp[hj,Qij,hu],hu1,hu⟩
    refine⟨B,cap,(us.drop (off*sz')).take (n*sz'),rfl,by simp;omega,fun hB0=>?_,fun a ha j u hu=>?_,fun u hu=>?_,fun i hi=>by rw[hh];exact hrow _ Om,by simp;omega,fun i j A hi hA2=>?_⟩
    .rcases Nat.eq_zero_or_pos n with e|e
     .exact e
     .have:=hB e;rw[hB0]at this;cases this
    .have hj:j<n*sz':=by have:=(Qh7.1 hu).1;simp at this;omega
     obtain⟨u',h1,_,h3⟩:=hone j hj
     rw[h1]at hu
     injection hu with hu
     subst hu
     have hn:0<n:=by
      rcases Nat.eq_zero_or_pos n with e|e
      .subst e;omega
      .exact e
     have:=hB hn
     rw[ha]at this
     injection this with this
     subst this
     rw[Vh,cell_of_row w b _ us.toArray e' (0,0) hheap]
     simpa using h3
    .obtain⟨j,hj,rfl⟩:=List.getElem_of_mem hu
     have hj':j<n*sz':=by simp at hj;omega
     obtain⟨u',h1,h2,_⟩:=hone j hj'
     rw[Qgy hj]at h1
     injection h1 with h1
     rw[h1];exact h2
    .rw[hh]at hA2
     obtain⟨u,hu,hv,h1⟩:=hvc (off+i) j A Om hA2
     have hj:j<sz':=by rw[<-hrow (off+i) Om];exact(Qh7.1 hA2).1
     refine⟨u,?_,hv,h1⟩
     have hlt:=Lp hi hj
     have e:(off+i)*sz'+j=off*sz'+(i*sz'+j):=by rw[Nat.add_mul];omega
     rw[e]at hu
     simp[hlt,Qij,hu]
theorem Aw (hT:Qb P T){t e:TypeId}{sz:Nat}(he:elemOf T t=some (e,sz)):0<sz:=Tn.kindIs_elem (Gl hT he).1 he hT
theorem Q1e {n k sz:Nat}{f h:Nat->List AV}{us vs:List Value}(h1:G9 w F σ sz n f us)(hl:us.length=n*sz)(h2:G9 w F σ sz k h vs):G9 w F σ sz (n+k) (Je n f h) (us++vs):=by
 obtain⟨a1,a2,a3⟩:=h1
 obtain⟨b1,b2,b3⟩:=h2
 refine⟨fun i hi=>?_,by rw[Qhc,Nat.add_mul];omega,fun i j A hi hA=>?_⟩
 .unfold Je
  cases hb:Nat.blt i n with
  |true=>exact a1 i (Qhf hb)
  | false =>
   have:n<=i:=by
    rcases Qi6 i n with h|h
    .rw[show Nat.blt i n=true from Nat.ble_eq_true_of_le h]at hb;cases hb
    .exact h
   exact b1 (i-n) Om
 .unfold Je at hA
  cases hb:Nat.blt i n with
  |true =>
   rw[hb]at hA
   have hin:i<n:=Qhf hb
   obtain⟨u,hu,r⟩:=a3 i j A hin hA
   exact⟨u,by rw[Qhj (Qh7.1 hu).1];exact hu,r⟩
  | false =>
   rw[hb]at hA
   have hge:n<=i:=by
    rcases Qi6 i n with h|h
    .rw[show Nat.blt i n=true from Nat.ble_eq_true_of_le h]at hb;cases hb
    .exact h
   obtain⟨u,hu,r⟩:=b3 (i-n) j A Om hA
   have e:i*sz=n*sz+(i-n)*sz:=by rw[<-Nat.add_mul];congr 1;omega
   refine⟨u,?_,r⟩
   rw[Qhu Om]
   rw[<-hu]
   congr 1
   omega
theorem Q8f (hT:Qb P T)(hm:Q3 m σ F w){t ty:TypeId}{s x:AV}{S X:Value}{A:AV}{m':Mem}{obs:List Prop}(hs:Vc w F σ s S)(hx:Vc w F σ x X)
  (h:Tk T m t s x=some (A,m',obs)) (hob:∀p∈obs,p) :
  ∃u w' σ',(Builtin.append_ #[t,t] ty #[S,X]).run P w=.ok u w'/\Vc w' F σ' A u/\Q3 m' σ' F w'/\Step σ F w σ' F w'/\SLe σ σ':=by
 unfold Tk at h
 split at h<;>try (cases h;done)
 rename_i e sz he
 obtain⟨hu,hrs,te,hte,htsz⟩:=Gl hT he
 have hsz:=Aw hT he
 obtain⟨i,z,hi,his,hib,hz,hzs,hzsz⟩:=Yj hte
 have hbytes:Gc T e=te.bytes:=by
  unfold elemOf at he
  split at he<;>try (cases he;done)
  split at he<;>try (cases he;done)
  split at he<;>try (cases he;done)
  rename_i te' hte'
  injection he with he
  obtain⟨rfl,_⟩:=Prod.mk.inj he
  obtain⟨i',z',hi',_,hib',_⟩:=Yj (hT _ _ hte')
  rw[hi]at hi'
  injection hi' with hi'
  subst hi'
  simp[Gc,hte',<-hib',<-hib]
 cases hb0:Nat.beq (Gc T e) 0 with
 |true=>rw[hb0]at h;cases h
 | false =>
  rw[hb0]at h
  simp only[cond_false]at h
  have hbpos:0<te.bytes:=by have:=Qhv hb0;omega
  have hmax:∀q,q*te.bytes<=140737488355328->q<=maxLen:=fun q hq=>by
   have:=Nat.le_mul_of_pos_right q hbpos
   unfold maxLen
   omega
  split at h<;>try (cases h;done)
  rename_i k hh p hsrc
  -- the run of the built-in function,over a row of our own
  have key:∀(n:Nat) (xs:List Value),w.ownsRow 0 e sz S n xs->(∀q∈p,q)->(n+k)*te.bytes<=140737488355328 ->
    ∃news v' w',(Builtin.append_ #[t,t] ty #[S,X]).run P w=.ok v' w'/\news.length=k*sz/\G9 w F σ sz k hh news/\w'.ownsRow 0 e sz v' (n+k) (xs++news)/\w.grownBy w' S.ownBlock/\(v'.ownBlock=S.ownBlock\/v'.ownBlock=some w.heap.size):=by
   intro n xs hown hp hcap
   obtain⟨B,c,news,rfl,hl,hnone,hcells,hone,hrows⟩:=Ao hm hx hsrc hp
   cases B with
   |none =>
    have hk:=hnone rfl
    subst hk
    have hn:news=[]:=Qi4 (by simpa using hl)
    subst hn
    refine⟨[],S,w,?_,hl,hrows,by simpa using hown,⟨rfl,rfl,rfl,Qgx _,fun _ _ _=>rfl⟩,.inl rfl⟩
    rcases hown.2 with ⟨rfl,rfl⟩|⟨g,cap,cur,rfl,_,_,hnc,_⟩
    .simp[Builtin.append_,run_underlying hu,sizeOf,typeInfo,hi,Builtin.lenOf,Builtin.firstCells]
    .simp[Builtin.append_,run_underlying hu,sizeOf,typeInfo,hi,Builtin.lenOf,Builtin.firstCells,hnc,storeCells]
   |some a0 =>
    obtain⟨v',w',h1,h2,h3,_,h5⟩:=run_append_own_at (P:=P) w 0 t ty e i z sz te.bytes hu hi hz (by rw[his,htsz]) hib (by rw[hzsz,htsz]) hsz S n xs hown a0 k c news hl (hcells a0 rfl) hone (hmax _ hcap) hcap (Qh3 _)
    exact⟨news,v',w',h1,hl,hrows,h2,h3,h5⟩
  split at h<;>try (cases h;done)
  .simp only[Qgz,Qh6]at h
   obtain⟨rfl,rfl,rfl⟩:=h
   obtain⟨hp1,hp2⟩:=Ji hob
   have hcap:k*te.bytes<=140737488355328:=by rw[<-hbytes];exact hp2 _ (by simp)
   cases hs with|d hs=>cases hs with
   |nils =>
   obtain⟨news,v',w',h1,h2,h3,h4,h5,h6⟩:=key 0 [] (World.ownsRow_nil w 0 e sz) hp1 (by rw[Qh9];exact hcap)
   rw[Qh9,List.nil_append]at h4
   have hk:∀b,b<w.heap.size->w'.heap[b]?=w.heap[b]?:=fun b hb=>h5.block b hb (by simp[Value.ownBlock])
   rcases h4.2 with ⟨rfl,rfl⟩|⟨g,cap,cur,rfl,_,hheap,hkc,hcm,hcs,htake⟩
   · -- nothing came of nothing
    let pl:Pl:=⟨0,sz,none⟩
    have hs':=SLe.upd_new (σ:=σ) (r:=m.new) (some pl) (Ux hm)
    obtain⟨g1,g2⟩:=Ur (w':=w') (pl:=pl) (B:=.vec e sz 0 0 hh) hm h5.size hk ⟨rfl,rfl,fun _=>rfl,fun i hi=>absurd hi Om,fun b t h=>by simp[pl]at h⟩ (fun b t h=>by simp[pl]at h)
    refine⟨_,w',_,h1,.osl (J3 σ m.new (some pl)) fun p hp=>?_,g1,⟨h5.os,h5.tape,h5.output,Vx _ h1,h5.size,fun b hb _=>hk b hb,fun _ h=>h,fun _ h=>.inl h,Rv fun b t h=>by simp[pl]at h⟩,g2⟩
    injection hp with hp
    subst hp
    exact⟨Qgx _,fun _=>⟨rfl,rfl,rfl⟩⟩
   .have hg:g=w.heap.size:=by
     rcases h6 with h6|h6<;>simp[Value.ownBlock]at h6
     exact h6
    subst hg
    obtain⟨σ',g1,g2,g3,g4⟩:=M7 (w':=w') (b:=w.heap.size) (tot:=cap) (us:=cur.toList) (e:=e) (sz:=sz) (n:=k) (f:=hh) hm (Qgx _) (Qh4.1 hheap).1 hk h5.os h5.tape h5.output (Vx _ h1) (by simpa using hheap) (by simpa using hcs) hkc hcm
     ⟨h3.1,by have:=Nat.mul_le_mul_right sz hkc;simp [hcs];exact this,fun i j A hi hA=>by
      obtain⟨u,hu,r⟩:=h3.2.2 i j A hi hA
      rw[<-htake,Qid]at hu
      split at hu
      .exact⟨u,hu,r⟩
      .cases hu⟩
    exact⟨_,w',σ',h1,g1,g2,g3,g4⟩
  .rename_i sz' n f
   cases hc:Nat.beq sz' sz with
   |false=>rw[hc]at h;cases h
   | true =>
    rw[hc]at h
    simp only[cond_true,Qgz,Qh6]at h
    obtain⟨rfl,rfl,rfl⟩:=h
    have q1:=Qh1 hc
    subst q1
    obtain⟨hp1,hp2⟩:=Ji hob
    have hk0:0<k:=hp2 _ (by simp)
    have hcap:(n+k)*te.bytes<=140737488355328:=by rw[<-hbytes];exact hp2 ((n+k)*Gc T e<=140737488355328) (by simp)
    have hS:∃A0,S=.slice A0 n n/\Vc w F σ (.d (.sl sz' n f)) S:=by
     cases hs with|d hs=>cases hs with
     |slc hs=>exact⟨_,rfl,.d hs⟩
    obtain⟨A0,hS0,hSv⟩:=hS
    obtain⟨A1,c1,olds,hS1,ol,onone,ocells,oone,orows⟩:=Ao (sz:=sz') (k:=n) (h:=fun i=>up (f i)) (p:=[]) hm hSv (by
     show(bif Nat.beq sz' sz' then some (n,(fun i=>up (f i)),[]) else none)=_
     rw[hc];rfl) (fun q hq=>by simp at hq)
    rw[hS0]at hS1
    obtain⟨rfl,_,rfl⟩:A0=A1/\True/\n=c1:=by injection hS1 with e1 e2 e3;exact⟨e1,trivial,e3⟩
    obtain⟨B,c,news,hX,nl,nnone,ncells,none1,nrows⟩:=Ao hm hx hsrc hp1
    obtain⟨b0,rfl⟩:∃b0,B=some b0:=by
     cases B with
     |none=>have:=nnone rfl;omega
     |some b0=>exact⟨b0,rfl⟩
    have main:∃v' w',(Builtin.append_ #[t,t] ty #[S,X]).run P w=.ok v' w'/\(∃base,w'.ownsRow base e sz' v' (n+k) (olds++news))/\w.grownBy w' none/\∀g,v'.ownBlock=some g->w.heap.size<=g:=by
     cases A0 with
     |none =>
      have hn:=onone rfl
      subst hn
      have ho:olds=[]:=Qi4 (by simpa using ol)
      subst ho
      rw[hS0,hX]
      obtain⟨v',w',h1,h2,h3,_,h5⟩:=run_append_own_at (P:=P) w 0 t ty e i z sz' te.bytes hu hi hz (by rw[his,htsz]) hib (by rw[hzsz,htsz]) hsz (.slice none 0 0) 0 [] (World.ownsRow_nil w 0 e sz') b0 k c news nl (ncells b0 rfl) none1 (hmax _ (by simpa using hcap)) (by simpa using hcap) (Qh3 _)
      refine⟨v',w',h1,⟨0,by simpa using h2⟩,by simpa[Value.ownBlock] using h3,fun g hg=>?_⟩
      rcases h5 with h5|h5
      .rw[hg]at h5;simp[Value.ownBlock]at h5
      .rw[hg]at h5;injection h5 with h5;omega
     |some a1 =>
      rw[hS0,hX]
      obtain⟨v',w',h1,h2,h3⟩:=run_append_arg_grows (P:=P) w t ty e i z sz' te.bytes hu hi hz (by rw[his,htsz]) hib (by rw[hzsz,htsz]) hsz a1 n n olds ol (ocells a1 rfl) b0 k c news nl (ncells b0 rfl) Om (hmax _ hcap) hcap
      refine⟨v',w',h1,⟨_,h2⟩,h3,fun g hg=>?_⟩
      rcases h2.2 with ⟨rfl,h0⟩|⟨g',cap,cur,rfl,hge,_⟩
      .omega
      .simp[Value.ownBlock]at hg;omega
    obtain⟨v',w',h1,⟨base,h4⟩,h5,h6⟩:=main
    have hk:∀b,b<w.heap.size->w'.heap[b]?=w.heap[b]?:=fun b hb=>h5.block b hb (by simp)
    have hjoin:=Q1e orows ol nrows
    rcases h4.2 with ⟨rfl,h0⟩|⟨g,cap,cur,rfl,_,hheap,hkc,hcm,hcs,htake⟩
    .omega
    .have hg:w.heap.size<=g:=h6 g (by simp[Value.ownBlock])
     obtain⟨σ',g1,g2,g3,g4⟩:=M7 (w':=w') (b:=g) (tot:=cap) (us:=cur.toList) (e:=e) (sz:=sz') (n:=n+k) (f:=Je n (fun i=>up (f i)) hh) hm hg (Qh4.1 hheap).1 hk h5.os h5.tape h5.output (Vx _ h1) (by simpa using hheap) (by simpa using hcs) hkc hcm
      ⟨hjoin.1,by have:=Nat.mul_le_mul_right sz' hkc;simp [hcs];exact this,fun i j A hi hA=>by
       obtain⟨u,hu,r⟩:=hjoin.2.2 i j A hi hA
       rw[<-htake,Qid]at hu
       split at hu
       .exact⟨u,hu,r⟩
       .cases hu⟩
     exact⟨_,w',σ',h1,g1,g2,g3,g4⟩
  .rename_i r g off n
   split at h<;>try (cases h;done)
   rename_i e' sz' g' n' f hB
   cases hc:(Nat.beq e' e&&Nat.beq sz' sz&&Nat.beq off 0) with
   |false=>rw[hc]at h;cases h
   | true =>
    rw[hc]at h
    simp only[cond_true,Qgz,Qh6]at h
    obtain⟨rfl,rfl,rfl⟩:=h
    simp only[Qh5]at hc
    have q1:=Qh1 hc.1.1
    have q2:=Qh1 hc.1.2
    have q3:=Qh1 hc.2
    subst q1;subst q2;subst q3
    obtain⟨hp1,hp2⟩:=Ji hob
    have hg:g'=g:=hp2 _ (by simp)
    have hn:n'=n:=hp2 _ (by simp)
    subst hg;subst hn
    have hcap:(n'+k)*te.bytes<=140737488355328:=by rw[<-hbytes];exact hp2 ((n'+k)*Gc T e'<=140737488355328) (by simp)
    obtain⟨pl,hr,hok,_,hat⟩:=Uz hm hs (Mem.get_at hB)
    obtain⟨h0,hpsz,hn0,hrow,hl⟩:=hok
    have hsl:=hat h0
    -- the row as the kit's law wants it
    have hown:∃xs,w.ownsRow 0 e' sz' S n' xs/\G9 w F σ sz' n' f xs/\(∀b,S.ownBlock=some b->∃t,pl.loc=some (b,t))/\(pl.loc=none->S.ownBlock=none):=by
     unfold Yn at hsl
     split at hsl
     .rename_i hloc
      obtain⟨rfl,_,rfl⟩:=hsl
      exact⟨[],World.ownsRow_nil w 0 e' sz',⟨fun i hi=>absurd hi Om,by simp,fun i j A hi=>absurd hi Om⟩,(fun b h=>by simp[Value.ownBlock]at h),fun _=>rfl⟩
     .rename_i b tot hloc
      obtain⟨B,cap,rfl,hnc,hoc,hA⟩:=hsl
      obtain⟨hnt,htm,us,hheap,hlen,hvc⟩:=hl b tot hloc
      have:=hA (.inr rfl)
      subst this
      have hct:cap=tot:=by omega
      subst hct
      have hm1:=Nat.mul_le_mul_right sz' hnc
      refine⟨us.take (n'*sz'),⟨by simp;omega,.inr ⟨b,cap,us.toArray,by rw[Nat.zero_mul],Qh3 _,hheap,hnc,htm,by simpa using hlen,by simp⟩⟩,
       ⟨hrow,by simp;omega,fun i j A hi hA=>?_⟩,fun b' h=>?_,fun h=>by rw[hloc]at h;cases h⟩
      .obtain⟨u,hu,r⟩:=hvc i j A hi hA
       have hj:j<sz':=by rw[<-hrow i hi];exact(Qh7.1 hA).1
       exact⟨u,by simp[Lp hi hj,hu],r⟩
      .simp[Value.ownBlock]at h
       exact⟨cap,by rw[hloc,h]⟩
    obtain⟨xs,hown,hxr,hblk,hnblk⟩:=hown
    obtain⟨news,v',w',h1,h2,h3,h4,h5,h6⟩:=key n' xs hown hp1 hcap
    have hjoin:=Q1e hxr hown.1 h3
    -- where it lies now
    have hk:∀b,b<w.heap.size->(∀t,pl.loc≠some (b,t))->w'.heap[b]?=w.heap[b]?:=fun b hb ht=>h5.block b hb (fun e=>by
     obtain⟨t,h⟩:=hblk b e.symm
     exact ht t h)
    have hkF:∀b,F b->w'.heap[b]?=w.heap[b]?:=fun b hb=>hk b (hm.fl b hb) (fun t ht=>(hm.nf r pl b t hr ht).1 hb)
    rcases h4.2 with ⟨rfl,hzero⟩|⟨gg,cap,cur,rfl,_,hheap,hkc,hcm,hcs,htake⟩
    .let pl':Pl:=⟨g'+1,sz',none⟩
     have hq:pl.g<=pl'.g/\(pl'.g=pl.g->pl'=pl):=⟨by simp[pl'];omega,fun h=>by simp[pl']at h;omega⟩
     obtain⟨g1,g2⟩:=Ge (w':=w') (pl':=pl') (B':=.vec e' sz' (g'+1) (n'+k) (Je n' f hh)) hm hr h5.size hk hq ⟨rfl,rfl,fun _=>hzero,fun i hi=>by omega,fun b t h=>by simp[pl']at h⟩ (fun b t h=>by simp[pl']at h)
     refine⟨_,w',_,h1,.osl (J3 σ r (some pl')) fun p hp=>?_,g1,⟨h5.os,h5.tape,h5.output,Vx _ h1,h5.size,fun b hb ho=>hk b hb (fun t ht=>ho ⟨r,pl,t,hr,ht⟩),fun _ h=>h,fun _ h=>.inl h,Et hr fun b t h=>by simp[pl']at h⟩,g2⟩
     injection hp with hp
     subst hp
     exact⟨Qgx _,fun _=>⟨hzero,rfl,rfl⟩⟩
    .let pl':Pl:=⟨g'+1,sz',some (gg,cap)⟩
     have hq:pl.g<=pl'.g/\(pl'.g=pl.g->pl'=pl):=⟨by simp[pl'];omega,fun h=>by simp[pl']at h;omega⟩
     have hgg:(∃t',pl.loc=some (gg,t'))\/w.heap.size<=gg:=by
      rcases h6 with h6|h6
      .exact .inl (hblk gg (by rw[<-h6];rfl))
      .simp[Value.ownBlock]at h6;exact .inr Om
     have hs':=SLe.upd_old (q':=some pl') hr (fun p hp=>by injection hp with hp;subst hp;exact⟨pl,rfl,hq.1,hq.2⟩)
     have hB':Jx w' F (upd σ r (some pl')) (.vec e' sz' (g'+1) (n'+k) (Je n' f hh)) pl' :=
      ⟨rfl,rfl,fun h=>by simp [pl'] at h,hjoin.1,fun b t h=>by
       simp only[pl',Qgz,Qh6]at h
       obtain⟨rfl,rfl⟩:=h
       refine⟨hkc,hcm,cur.toList,by simpa using hheap,by simpa using hcs,fun i j A hi hA=>?_⟩
       obtain⟨u,hu,hv,h1⟩:=hjoin.2.2 i j A hi hA
       rw[<-htake,Qid]at hu
       split at hu
       .exact⟨u,hu,hv.mono (fun _ h=>h) hkF hs',h1⟩
       .cases hu⟩
     obtain⟨g1,g2⟩:=Ge (w':=w') (pl':=pl') hm hr h5.size hk hq hB' (fun b t h=>by
      simp only[pl',Qgz,Qh6]at h
      obtain⟨rfl,rfl⟩:=h
      exact⟨(Qh4.1 hheap).1,hgg⟩)
     refine⟨_,w',_,h1,.osl (J3 σ r (some pl')) fun p hp=>?_,g1,⟨h5.os,h5.tape,h5.output,Vx _ h1,h5.size,fun b hb ho=>hk b hb (fun t ht=>ho ⟨r,pl,t,hr,ht⟩),fun _ h=>h,fun _ h=>.inl h,Et hr fun b t h=>?_⟩,g2⟩
     .injection hp with hp
      subst hp
      exact⟨Qgx _,fun _=>⟨_,cap,rfl,hkc,by simp,fun _=>by simp⟩⟩
     .simp only[pl',Qgz,Qh6]at h
      obtain⟨rfl,rfl⟩:=h
      exact hgg
end sound
end Go.Ab
