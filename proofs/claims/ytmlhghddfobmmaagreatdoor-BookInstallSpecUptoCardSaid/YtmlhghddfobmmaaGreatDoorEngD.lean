import Derived.Test.YtmlhghddfobmmaaGreatDoorEngC
import Derived.Laws.Slices
import Derived.Laws.Cells
import Derived.Laws.Build
namespace Go.Ab
set_option linter.unusedSimpArgs false
set_option linter.unusedVariables false
def D4 (A:AV):Option (AV × List Prop):=some (strip A)
def S7 (c a b:AV × List Prop):Option (AV × List Prop) :=
 match c with
 | (.d (.bool c'),p)=>match a with
  |(.d (.bool a'),pa)=>match b with
   |(.d (.bool b'),pb)=>some (.d (.bool (bif c' then a' else b')),cat p (cat (pa.map fun q=>(c'=true->q)) (pb.map fun q=>(c'=false->q))))
   |_=>none
  |_=>none
 |_=>none
def Tl (op:BinOp)(x y:AV):Option (AV × List Prop) :=
 match x with
 | .d (.int k a)=>match y with
  | .d (.int k' b)=>bif decide (k=k') then T0 op k a b else none
  |_=>none
 |_=>none
def Q80:List D→List D→Option Bool
 |[],[]=>some true
 | x :: r,y :: s=>match deq x y with
  |none=>none
  | some b=>match r,s with
   |[],[]=>some b
   |_,_=>match Q80 r s with
    |none=>none
    |some c=>some (b&&c)
 |_,_=>none
def Gb (T:Tab)(t:TypeId):Option (Nat × TypeId) :=
 match T.at t with
 | some ti=>match ti.k with
  | .arr n e=>match T.at e with
   |some te=>bif Nat.beq te.size 1&&Nat.beq ti.size n then some (n,e) else none
   |none=>none
  |_=>none
 |none=>none
def Fv:List AV->D
 |[.d x]=>x
 |_=>.nilp
def Cv (T:Tab)(m:Mem)(t:TypeId)(A:AV):Option (AV × List Prop) :=
 match Gb T t with
 |none=>none
 | some (n,_)=>match A with
  | .ptr r g i off=>match m.get r with
   | some (.vec _ sz g' n' f)=>bif Nat.beq i 0 && (Nat.beq off 0 && Nat.beq sz 1) then
     some (.d (.agg ((List.range n).map fun j=>Fv (f j))),[g'=g,n<=n',∀j,j<n->f j=[.d (Fv (f j))]]) else none
   |_=>none
  |_=>none
def S0 (T:Tab) (m:Mem) (t:TypeId) (A:AV):Option (AV × List Prop) :=
 match T.at t with
 |none=>none
 | some ti =>
  match A with
  | .d (.pt cs off) =>
   bif ti.k.agg then match Hp cs off ti.size with
    |some l=>some (.d (.agg l),[])
    |none=>none
   else match Hq cs off with
    |some x=>some (.d x,[])
    |none=>none
  | .ptr r g i off =>
   match m.get r with
   | some (.box _ cs) =>
    bif Nat.beq g 0&&Nat.beq i 0 then
     bif ti.k.agg then match Ul cs off ti.size with
      |some l=>some (.agg l,[])
      |none=>none
     else match Wj cs off with
      |some v=>some (v,[])
      |none=>none
    else none
   | some (.vec _ _ g' n f) =>
    bif ti.k.agg then match Ul (f i) off ti.size with
     |some l=>some (.agg l,[g'=g,i<n])
     |none=>none
    else match Wj (f i) off with
     |some v=>some (v,[g'=g,i<n])
     |none=>none
   |_=>none
  |_=>none
def Eu (A:AV):AV :=
 match A with
 | .agg cs=>match Wh cs with
  |some ds=>.d (.agg ds)
  |none=>.agg cs
 |A=>A
def Rj (T:Tab)(m:Mem)(t:TypeId)(A:AV):Option (AV × List Prop) :=
 match Cv T m t A with
 |some r=>some r
 |none=>match S0 T m t A with
  |some (v,l)=>some (Eu v,l)
  |none=>none
def Rm (T:Tab)(t:TypeId)(k:Nat):Option (Nat × TypeId) :=
 match T.at t with
 |some ti=>match ti.k with
  | .st fs=>fs[k]?
  |_=>none
 |none=>none
def M0 (m:Mem)(r:Ref)(g i:Nat):Option (List Prop) :=
 match m.get r with
 |some (.box _ _)=>bif Nat.beq g 0&&Nat.beq i 0 then some [] else none
 |some (.vec _ _ g' _ _)=>some [g'=g]
 |_=>none
def Ts (T:Tab)(m:Mem)(t:TypeId)(k:Nat)(A:AV):Option (AV × List Prop) :=
 match Rm T t k with
 |none=>none
 | some (o,_)=>match A with
  | .d (.pt cs off)=>some (.d (.pt cs (off+o)),[])
  | .ptr r g i off=>match M0 m r g i with
   |some l=>some (.ptr r g i (off+o),l)
   |none=>none
  |_=>none
def elemOf (T:Tab)(t:TypeId):Option (TypeId × Nat) :=
 match T.at t with
 | some ti=>match ti.k with
  | .sl e=>match T.at e with
   |some te=>some (e,te.size)
   |none=>none
  |_=>none
 |none=>none
def Rs (off i:Nat):Nat:=match off with
 |0=>i
 |k+1=>k+1+i
theorem Ma (off i:Nat):Rs off i=off+i:=by cases off<;>simp[Rs]
def Cu (T:Tab) (m:Mem) (t:TypeId) (A I:AV):Option (AV × List Prop) :=
 match Gb T t with
 |none=>none
 | some (n,_)=>match I with
  | .d (.int _ k)=>match A with
   | .ptr r g i off=>match m.get r with
    |some (.vec _ sz g' _ _)=>bif Nat.beq i 0&&(Nat.beq off 0&&Nat.beq sz 1) then some (.ptr r g k.toNat 0,[g'=g,0<=k,k<n]) else none
    |some (.box _ _)=>bif Nat.beq g 0&&Nat.beq i 0 then some (.ptr r 0 0 (Rs off k.toNat),[0<=k,k<n]) else none
    |_=>none
   |_=>none
  |_=>none
def Ty (T:Tab) (m:Mem) (t:TypeId) (A I:AV):Option (AV × List Prop) :=
 match elemOf T t with
 |none=>none
 | some (_,sz)=>match I with
  | .d (.int _ i)=>match A with
   | .d (.sl sz' n f)=>bif Nat.beq sz' sz then some (.d (.pt (f i.toNat) 0),[0<=i,i<n]) else none
   | .osl r g off n=>match m.get r with
    |some (.vec _ sz' g' _ _)=>bif Nat.beq sz' sz then some (.ptr r g (Rs off i.toNat) 0,[g'=g,0<=i,i<n]) else none
    |_=>none
   |_=>none
  |_=>none
def Pb (T:Tab)(t:TypeId):Option (Nat × Nat) :=
 match T.at t with
 | some ti=>match ti.k with
  | .arr n e=>match T.at e with
   |some te=>bif Nat.blt 1 te.size&&(Nat.beq ti.size (n*te.size)&&Nat.blt 40 ti.size) then some (n,te.size) else none
   |none=>none
  |_=>none
 |none=>none
def Cz (T:Tab) (m:Mem) (t:TypeId) (A I:AV):Option (AV × List Prop) :=
 match Pb T t with
 |none=>none
 | some (n,sz)=>match I with
  | .d (.int _ k)=>match A with
   | .ptr r g i off=>match m.get r with
    |some (.vec _ sz' g' _ _)=>bif Nat.beq i 0&&(Nat.beq off 0&&Nat.beq sz' sz) then some (.ptr r g k.toNat 0,[g'=g,0<=k,k<n]) else none
    |_=>none
   |_=>none
  |_=>none
def Mn (T:Tab)(t:TypeId):Option (Nat × Nat) :=
 match T.at t with
 | some ti=>match ti.k with
  | .arr n e=>match T.at e with
   |some te=>bif Nat.blt 1 te.size&&(Nat.beq ti.size (n*te.size)&&(Nat.ble ti.size 40&&te.k.agg)) then some (n,te.size) else none
   |none=>none
  |_=>none
 |none=>none
def Al (T:Tab) (m:Mem) (t:TypeId) (A I:AV):Option (AV × List Prop) :=
 match Mn T t with
 |none=>none
 | some (n,sz)=>match I with
  | .d (.int _ k)=>match A with
   | .ptr r g i off=>match m.get r with
    |some (.box _ _)=>bif Nat.beq g 0&&Nat.beq i 0 then some (.ptr r 0 0 (Rs off (k.toNat*sz)),[0<=k,k<n]) else none
    |_=>none
   |_=>none
  |_=>none
def Tx (T:Tab)(m:Mem)(t:TypeId)(A I:AV):Option (AV × List Prop) :=
 match Cu T m t A I with
 |some r=>some r
 | none=>match Cz T m t A I with
  |some r=>some r
  |none=>match Al T m t A I with
   |some r=>some r
   |none=>Ty T m t A I
def Q0g (T:Tab)(t:TypeId)(A:AV):Option (AV × List Prop) :=
 match elemOf T t with
 |none=>none
 |some _=>match A with
  | .d (.sl _ n _)=>some (.d (.int .i64 n),[])
  | .d .nils=>some (.d (.int .i64 0),[])
  |_=>none
def Tz (T:Tab)(m:Mem)(t:TypeId)(A:AV):Option (AV × List Prop) :=
 match elemOf T t with
 |none=>none
 | some _=>match A with
  | .osl r g _ n=>match m.get r with
   |some (.vec _ _ g' _ _)=>some (.d (.int .i64 n),[g'=g])
   |_=>none
  |A=>Q0g T t A
section sound
variable {P:Program}{T:Tab}{w:World}{F:Nat->Prop}{σ:Pls}{m:Mem}
theorem Gl (hT:Qb P T){t e:TypeId}{sz:Nat}(h:elemOf T t=some (e,sz)) :
  P.underlying t=some (.slice e)/\(∀w,(sizeOf e).run P w=.ok sz w)/\∃te,Zo P e te=true/\te.size=sz:=by
 unfold elemOf at h
 split at h
 .rename_i ti hti
  split at h
  .rename_i e' hk
   split at h
   .rename_i te hte
    injection h with h
    obtain⟨rfl,rfl⟩:=Prod.mk.inj h
    have hk':=Xu (hT t ti hti)
    rw[hk]at hk'
    exact⟨Qb6 hk',fun w=>run_sizeOf (hT _ te hte) w,te,hT _ te hte,rfl⟩
   .cases h
  .cases h
 .cases h
theorem Q91 {c a b:AV}{C X Y:Value}{A:AV}{obs:List Prop}(hc:Vc w F σ c C)(ha:Vc w F σ a X)(hb:Vc w F σ b Y)
  (h:S7 (strip c) (strip a) (strip b)=some (A,obs)) (hob:∀p∈obs,p) :
  Z7 P F σ w (do pure (if <-asBool C then X else Y)) A:=by
 unfold S7 at h
 split at h<;>try (cases h;done)
 rename_i c' p ec
 split at h<;>try (cases h;done)
 rename_i a' pa ea
 split at h<;>try (cases h;done)
 rename_i b' pb eb
 injection h with h
 obtain⟨rfl,rfl⟩:=Prod.mk.inj h
 obtain⟨h1,h2⟩:=Ji hob
 obtain⟨h2,h3⟩:=Ji h2
 have sc:=X7 hc (by rw[ec];exact h1)
 rw[ec]at sc
 have:=sc.bool
 subst this
 cases c' with
 |true =>
  have sa:=X7 ha (by rw[ea];exact fun q hq=>h2 (true=true->q) (Qhw.2 ⟨q,hq,rfl⟩) rfl)
  rw[ea]at sa
  have:=sa.bool
  subst this
  exact .const (.d .bool) fun w'=>by simp[asBool]
 |false =>
  have sb:=X7 hb (by rw[eb];exact fun q hq=>h3 (false=false->q) (Qhw.2 ⟨q,hq,rfl⟩) rfl)
  rw[eb]at sb
  have:=sb.bool
  subst this
  exact .const (.d .bool) fun w'=>by simp[asBool]
theorem Q8g {op:BinOp}{t:TypeId}{x y:Operand}{a b:AV}{X Y:Value}{A:AV}{obs:List Prop}(ha:Vc w F σ a X)(hb:Vc w F σ b Y)
  (h:Tl op a b=some (A,obs)) (hob:∀p∈obs,p):Z7 P F σ w (do eqGuard op t x y X Y;binOp op t X Y) A:=by
 unfold Tl at h
 split at h<;>try (cases h;done)
 split at h<;>try (cases h;done)
 rename_i k a' _ k' b'
 cases hk:decide (k=k') with
 |false=>rw[hk]at h;cases h
 |true =>
  rw[hk]at h
  have:=Qhd hk
  subst this
  have:=ha.int
  subst this
  have:=hb.int
  subst this
  exact Q6b h hob
theorem V6.cell {w w':World}(h:V6 F σ w w'){b:Nat}(hb:F b\/∃r pl t,σ r=some (some pl)/\pl.loc=some (b,t))(o:Nat):w'.cell? ⟨b,o,none⟩=w.cell? ⟨b,o,none⟩ :=
 World.cell?_of_block (w:=w) (h b hb)
theorem Q45 {w:World}{t:TypeId}{ti:TI}(ht:Zo P t ti=true)(hagg:ti.k.agg=false){a:Addr}{v:Value}(hc:w.cell? a=some v):(loadVar t a).run P w=.ok v w:=by
 simp[loadVar,K9 ht,hagg,hc]
theorem Af {w:World}{t:TypeId}{ti:TI}(ht:Zo P t ti=true)(hagg:ti.k.agg=true){a:Addr}{us:List Value}(hl:us.length=ti.size)(hc:∀(j:Nat) v,us[j]?=some v->w.cell? (a.add j)=some v) :
  (loadVar t a).run P w=.ok (.agg us.toArray) w:=by
 have:=run_loadCells_list (P:=P) w a us hc
 rw[hl]at this
 simp[loadVar,K9 ht,hagg,run_sizeOf ht,this]
theorem Vh (b o j:Nat):Addr.add ⟨b,o,none⟩ j=⟨b,o+j,none⟩:=Addr.add_lit b o j
theorem Q2k {n:Nat}(g:Nat->Value)(j:Nat)(v:Value)(h:((List.range n).map g)[j]?=some v):j<n/\v=g j:=by
 rw[Qhe]at h
 by_cases hj:j<n
 .rw[List.getElem?_range hj]at h
  simp at h
  exact⟨hj,h.symm⟩
 .rw[Qht (by simp;omega)]at h
  cases h
theorem W7 (hm:Q3 m σ F w){r:Ref}{g i off:Nat}{v:Value}(h:Vc w F σ (.ptr r g i off) v){B:Blk}(hB:m.at r=some (some B)) :
  ∃pl,σ r=some (some pl)/\Jx w F σ B pl/\g<=pl.g/\(pl.g=g->I9 pl i off v):=by
 cases h with
 | @ptr _ _ _ _ _ q hr h =>
  cases q with
  |none=>have:=(hm.lv r _ hr).1 rfl;rw[hB]at this;cases this
  |some pl =>
   obtain⟨B',hB',hok⟩:=(hm.lv r _ hr).2 pl rfl
   rw[hB]at hB'
   injection hB' with hB'
   injection hB' with hB'
   subst hB'
   exact⟨pl,hr,hok,h pl rfl⟩
theorem Uz (hm:Q3 m σ F w){r:Ref}{g off n:Nat}{v:Value}(h:Vc w F σ (.osl r g off n) v){B:Blk}(hB:m.at r=some (some B)) :
  ∃pl,σ r=some (some pl)/\Jx w F σ B pl/\g<=pl.g/\(pl.g=g->Yn pl off n v):=by
 cases h with
 | @osl _ _ _ _ _ q hr h =>
  cases q with
  |none=>have:=(hm.lv r _ hr).1 rfl;rw[hB]at this;cases this
  |some pl =>
   obtain⟨B',hB',hok⟩:=(hm.lv r _ hr).2 pl rfl
   rw[hB]at hB'
   injection hB' with hB'
   injection hB' with hB'
   subst hB'
   exact⟨pl,hr,hok,h pl rfl⟩
theorem Q3j {a0:Addr}{us:List Value}{cs:List AV}{t:TypeId}{ti:TI}{off:Nat}{A:AV}(ht:Zo P t ti=true)
  (hcell:∀w',V6 F σ w w'->∀(j:Nat) u,us[j]?=some u->w'.cell? (a0.add j)=some u) (hlen:us.length=cs.length) (h:∀(j:Nat) A u,cs[j]?=some A->us[j]?=some u->Vc w F σ A u)
  (hA:(bif ti.k.agg then(match Ul cs off ti.size with|some l=>some (AV.agg l)|none=>none) else Wj cs off)=some A) :
  ∃u,Vc w F σ A u/\∀w',V6 F σ w w'->(loadVar t (a0.add off)).run P w'=.ok u w':=by
 have add2:∀j,(a0.add off).add j=a0.add (off+j):=fun j=>by
  unfold Addr.add;by_cases h1:off=0<;>by_cases h2:j=0<;>simp[h1,h2,Nat.add_assoc]
 cases hagg:ti.k.agg with
 | true =>
  rw[hagg]at hA
  simp only[cond_true]at hA
  split at hA<;>try (cases hA;done)
  rename_i l hl
  injection hA with hA
  subst hA
  obtain⟨h1,h2⟩:=P4 hl
  let vs:=(us.drop off).take ti.size
  have hvs:vs.length=ti.size:=by
   simp only[vs,Qhr,List.length_drop]
   rcases Nat.eq_zero_or_pos ti.size with h0|h0
   .omega
   .have:=(h2 (ti.size-1) Om).2;omega
  have hat:∀(j:Nat),j<ti.size->vs[j]?=us[off+j]?:=fun j hj=>by simp[vs,hj,Qij]
  refine⟨.agg vs.toArray,.agg (by rw[hvs,h1]) fun j x u hx hu=>?_,fun w' hw'=>Af ht hagg hvs fun j v hv=>?_⟩
  .have hj:j<ti.size:=by have:=(Qh7.1 hu).1;omega
   exact h (off+j) x u (by rw[<-(h2 j hj).1];exact hx) (by rw[<-hat j hj];exact hu)
  .have hj:j<ti.size:=by have:=(Qh7.1 hv).1;omega
   rw[add2]
   exact hcell w' hw' _ _ (by rw[<-hat j hj];exact hv)
 |false =>
  rw[hagg]at hA
  simp only[cond_false]at hA
  rw[R8]at hA
  have hlt:=(Qh7.1 hA).1
  have hu:us[off]?=some (us[off]'Om):=Qgy Om
  exact⟨_,h off A _ hA hu,fun w' hw'=>Q45 ht hagg (hcell w' hw' off _ hu)⟩
theorem Qdv {a0:Addr}{us:List Value}{cs:List D}{t:TypeId}{ti:TI}{off:Nat}{A:AV}(ht:Zo P t ti=true)
  (hcell:∀w',V6 F σ w w'->∀(j:Nat) u,us[j]?=some u->w'.cell? (a0.add j)=some u) (hlen:us.length=cs.length) (h:∀(j:Nat) A u,cs[j]?=some A->us[j]?=some u->Rd w F A u)
  (hA:(bif ti.k.agg then(match Hp cs off ti.size with|some l=>some (AV.d (.agg l))|none=>none) else(match Hq cs off with|some x=>some (AV.d x)|none=>none))=some A) :
  ∃u,Vc w F σ A u/\∀w',V6 F σ w w'->(loadVar t (a0.add off)).run P w'=.ok u w':=by
 have add2:∀j,(a0.add off).add j=a0.add (off+j):=fun j=>by
  unfold Addr.add;by_cases h1:off=0<;>by_cases h2:j=0<;>simp[h1,h2,Nat.add_assoc]
 cases hagg:ti.k.agg with
 | true =>
  rw[hagg]at hA
  simp only[cond_true]at hA
  split at hA<;>try (cases hA;done)
  rename_i l hl
  injection hA with hA
  subst hA
  obtain⟨h1,h2⟩:=Po hl
  let vs:=(us.drop off).take ti.size
  have hvs:vs.length=ti.size:=by
   simp only[vs,Qhr,List.length_drop]
   rcases Nat.eq_zero_or_pos ti.size with h0|h0
   .omega
   .have:=(h2 (ti.size-1) Om).2;omega
  have hat:∀(j:Nat),j<ti.size->vs[j]?=us[off+j]?:=fun j hj=>by simp[vs,hj,Qij]
  refine⟨.agg vs.toArray,.d (.agg (by rw[hvs,h1]) fun j x u hx hu=>?_),fun w' hw'=>Af ht hagg hvs fun j v hv=>?_⟩
  .have hj:j<ti.size:=by have:=(Qh7.1 hu).1;omega
   exact h (off+j) x u (by rw[<-(h2 j hj).1];exact hx) (by rw[<-hat j hj];exact hu)
  .have hj:j<ti.size:=by have:=(Qh7.1 hv).1;omega
   rw[add2]
   exact hcell w' hw' _ _ (by rw[<-hat j hj];exact hv)
 |false =>
  rw[hagg]at hA
  simp only[cond_false]at hA
  split at hA<;>try (cases hA;done)
  rename_i x hx
  injection hA with hA
  subst hA
  rw[Ps]at hx
  have hlt:=(Qh7.1 hx).1
  have hu:us[off]?=some (us[off]'Om):=Qgy Om
  exact⟨_,.d (h off x _ hx hu),fun w' hw'=>Q45 ht hagg (hcell w' hw' off _ hu)⟩
theorem R9 (hT:Qb P T){t e:TypeId}{n:Nat}(h:Gb T t=some (n,e)) :
  P.underlying t=some (.array n e)/\(∀w,(sizeOf e).run P w=.ok 1 w)/\∃ti,T.at t=some ti/\Zo P t ti=true/\ti.size=n/\ti.k.agg=true:=by
 unfold Gb at h
 split at h<;>try (cases h;done)
 rename_i ti hti
 split at h<;>try (cases h;done)
 rename_i n' e' hk
 split at h<;>try (cases h;done)
 rename_i te hte
 cases hb:(Nat.beq te.size 1&&Nat.beq ti.size n') with
 |false=>rw[hb]at h;cases h
 |true =>
  rw[hb]at h
  simp only[cond_true,Qgz,Qh6]at h
  obtain⟨rfl,rfl⟩:=h
  simp only[Qh5]at hb
  have hk':=Xu (hT t ti hti)
  rw[hk]at hk'
  have h1:=run_sizeOf (hT _ te hte)
  rw[Qh1 hb.1]at h1
  exact⟨Ny hk',h1,ti,hti,hT t ti hti,Qh1 hb.2,by rw[hk];rfl⟩
theorem Q64 (hT:Qb P T)(hm:Q3 m σ F w){t:TypeId}{a:AV}{X:Value}{A:AV}{obs:List Prop}(ha:Vc w F σ a X)
  (h:Cv T m t a=some (A,obs)) (hob:∀p∈obs,p):Z7 P F σ w (Instr.loadAt t X) A:=by
 unfold Cv at h
 split at h<;>try (cases h;done)
 rename_i n e he
 obtain⟨hu,hs,ti,hti,ht,hsize,hagg⟩:=R9 hT he
 split at h<;>try (cases h;done)
 rename_i r g i off
 split at h<;>try (cases h;done)
 rename_i e' sz g' n' f hB
 cases hz:(Nat.beq i 0&&(Nat.beq off 0&&Nat.beq sz 1)) with
 |false=>rw[hz]at h;cases h
 | true =>
  rw[hz]at h
  simp only[cond_true,Qgz,Qh6]at h
  obtain⟨rfl,rfl⟩:=h
  simp only[Qh5]at hz
  have e1:=Qh1 hz.1
  have e2:=Qh1 hz.2.1
  have e3:=Qh1 hz.2.2
  subst e1;subst e2;subst e3
  have hg:g'=g:=hob _ (by simp)
  have hn:n<=n':=hob _ (by simp)
  have hf:∀j,j<n->f j=[.d (Fv (f j))]:=hob _ (by simp)
  subst hg
  obtain⟨pl,hr,hok,_,hat⟩:=W7 hm ha (Mem.get_at hB)
  obtain⟨h0,hsz,hn0,hrow,hl⟩:=hok
  obtain⟨b,tot,hl',hX⟩:=hat h0
  obtain⟨hnt,_,us,hheap,hlen,hvc⟩:=hl b tot hl'
  subst hX
  have hlen':(us.take n).length=n:=by simp;omega
  refine⟨.agg (us.take n).toArray,.d (.agg (by rw[hlen'];simp) fun j x u hx hu'=>?_),fun w' hw'=>?_⟩
  .have hj:j<n:=by have:=(Qh7.1 hu').1;omega
   rw[Qhe,List.getElem?_range hj]at hx
   simp only[Option.map_some,Qgz]at hx
   subst hx
   have hA:(f j)[0]?=some (.d (Fv (f j))):=by rw[hf j hj];rfl
   obtain⟨u0,hu0,hv,_⟩:=hvc j 0 _ Om hA
   have:us[j]?=some u:=by
    rw[Qid,if_pos hj]at hu'
    exact hu'
   rw[show j*1+0=j by omega,this]at hu0
   injection hu0 with hu0
   subst hu0
   cases hv with
   |d h=>exact h
  .have:=Af (P:=P) (w:=w') ht hagg (a:=⟨b,0,none⟩) (us:=us.take n) (by rw[hlen',hsize]) (fun j v hv=>by
    have hj:j<n:=by have:=(Qh7.1 hv).1;omega
    rw[Qid,if_pos hj]at hv
    rw[Vh,hw'.cell (.inr ⟨r,pl,_,hr,hl'⟩),Qh9,cell_of_row w b j us.toArray e' (0,0) hheap]
    simpa using hv)
   simpa[Instr.loadAt,Instr.sureAddr] using this
theorem Q8u (hT:Qb P T)(hm:Q3 m σ F w){t:TypeId}{a:AV}{X:Value}{A:AV}{obs:List Prop}(ha:Vc w F σ a X)
  (h:S0 T m t a=some (A,obs)) (hob:∀p∈obs,p):Z7 P F σ w (Instr.loadAt t X) A:=by
 unfold S0 at h
 split at h<;>try (cases h;done)
 rename_i ti hti
 have ht:=hT t ti hti
 split at h<;>try (cases h;done)
 .rename_i cs off
  cases ha with
  | d ha =>
   cases ha with
   | pt a0 g hF hcell hrd =>
    let us:=(List.range cs.length).map g
    obtain⟨u,h1,h2⟩:=Qdv (w:=w) (F:=F) (σ:=σ) (a0:=a0) (us:=us) (cs:=cs) (off:=off) (A:=A) ht
     (fun w' hw' j u hu=>by
      obtain⟨h1,rfl⟩:=Q2k g j u hu
      rw[World.cell?_of_block (w:=w) (by rw[R5];exact hw' _ (.inl hF))]
      exact(hcell j h1).1)
     (by simp[us]) (fun j x u hx hu=>by obtain⟨h1,rfl⟩:=Q2k g j u hu;exact hrd j x hx)
     (by
      cases hagg:ti.k.agg<;>rw[hagg]at h<;>simp only[cond_true,cond_false]at h⊢ <;> split at h<;>try (cases h;done)
      all_goals (rename_i e;simp only[Qgz,Qh6]at h;obtain⟨rfl,_⟩:=h;simp[e]))
    exact⟨u,h1,fun w' hw'=>by simp[Instr.loadAt,Instr.sureAddr,h2 w' hw']⟩
 .rename_i r g i off
  split at h<;>try (cases h;done)
  .rename_i e cs hB
   cases hgi:(Nat.beq g 0&&Nat.beq i 0) with
   |false=>rw[hgi]at h;cases h
   | true =>
    rw[hgi]at h
    simp only[cond_true]at h
    simp only[Qh5]at hgi
    have hg:=Qh1 hgi.1
    have hi:=Qh1 hgi.2
    subst hg;subst hi
    obtain⟨pl,hr,hok,_,hat⟩:=W7 hm ha (Mem.get_at hB)
    obtain⟨h0,hsz,b,hl,us,hheap,hlen,hvc⟩:=hok
    obtain⟨b',tot,hl',hX⟩:=hat h0
    rw[hl]at hl'
    obtain⟨rfl,rfl⟩:=Prod.mk.inj (Option.some.inj hl')
    subst hX
    obtain⟨u,h1,h2⟩:=Q3j (w:=w) (F:=F) (σ:=σ) (a0:=⟨b,0,none⟩) (us:=us) (cs:=cs) (off:=off) (A:=A) ht
     (fun w' hw' j u hu=>by
      rw[Vh,hw'.cell (.inr ⟨r,pl,_,hr,hl⟩),Qh9,cell_of_row w b j us.toArray e (0,0) hheap]
      simpa using hu)
     hlen (fun j A u hA hu=>(hvc j A u hA hu).1)
     (by
      cases hagg:ti.k.agg<;>rw[hagg]at h<;>simp only[cond_true,cond_false]at h⊢ <;> split at h<;>try (cases h;done)
      all_goals (rename_i e;simp only[Qgz,Qh6]at h;obtain⟨rfl,_⟩:=h;simp[e]))
    rw[Vh]at h2
    exact⟨u,h1,fun w' hw'=>by
     simpa[Instr.loadAt,Instr.sureAddr] using h2 w' hw'⟩
  .rename_i e sz g' n f hB
   have hob':g'=g/\i<n/\(bif ti.k.agg then(match Ul (f i) off ti.size with|some l=>some (AV.agg l)|none=>none) else Wj (f i) off)=some A:=by
    cases hagg:ti.k.agg<;>rw[hagg]at h<;>simp only[cond_true,cond_false]at h⊢ <;> split at h<;>try (cases h;done)
    all_goals (rename_i e;simp only[Qgz,Qh6]at h;obtain⟨rfl,rfl⟩:=h;exact⟨hob _ (by simp),hob _ (by simp),by first|rfl|exact e⟩)
   obtain⟨hg,hi,hA⟩:=hob'
   subst hg
   obtain⟨pl,hr,hok,_,hat⟩:=W7 hm ha (Mem.get_at hB)
   obtain⟨h0,hsz,hn,hrow,hl⟩:=hok
   obtain⟨b,tot,hl',hX⟩:=hat h0
   obtain⟨hnt,_,us,hheap,hlen,hvc⟩:=hl b tot hl'
   subst hX
   have hfit:i*sz+sz<=us.length:=by
    have:(i+1)*sz<=tot*sz:=Nat.mul_le_mul_right _ Om
    rw[Nat.add_mul]at this
    omega
   obtain⟨u,h1,h2⟩:=Q3j (w:=w) (F:=F) (σ:=σ) (a0:=⟨b,i*sz,none⟩) (us:=(us.drop (i*sz)).take sz) (cs:=f i) (off:=off) (A:=A) ht
    (fun w' hw' j u hu=>by
     rw[Qid]at hu
     split at hu
     .rw[Vh,hw'.cell (.inr ⟨r,pl,_,hr,hl'⟩),cell_of_row w b _ us.toArray e (0,0) hheap]
      simpa[Qij] using hu
     .cases hu)
    (by rw[hrow i hi];simp;omega)
    (fun j A u hA hu=>by
     rw[Qid]at hu
     split at hu
     .obtain⟨u',hu',hv,_⟩:=hvc i j A hi hA
      rw[Qij,hu']at hu
      injection hu with hu
      subst hu
      exact hv
     .cases hu) hA
   rw[Vh]at h2
   exact⟨u,h1,fun w' hw'=>by
    rw[hsz]
    simpa[Instr.loadAt,Instr.sureAddr] using h2 w' hw'⟩
theorem Cl:∀{cs:List AV} {l:List D},Wh cs=some l->cs=up l
 |[],l,h=>by simp[Wh]at h;subst h;rfl
 | x :: r,l,h=>by
  unfold Wh at h
  split at h
  .rename_i e;cases e
  .rename_i x' r' e
   injection e with e1 e2
   subst e1;subst e2
   split at h
   .rename_i l' hl
    injection h with h
    subst h
    simp[up,Cl hl]
   .cases h
  .cases h
theorem Qd9 {A:AV}{v:Value}(h:Vc w F σ A v):Vc w F σ (Eu A) v:=by
 unfold Eu
 split
 .split
  .rename_i l hd
   have:=Cl hd
   subst this
   cases h with
   |agg hl h =>
    refine .d (.agg (by rw[hl,Zb,Qhb]) fun j x u hx hu=>?_)
    have:=h j (.d x) u (by rw[Zb,Qhe,hx];rfl) hu
    cases this with|d h=>exact h
  .exact h
 .exact h
theorem D2 (hT:Qb P T)(hm:Q3 m σ F w){t:TypeId}{a:AV}{X:Value}{A:AV}{obs:List Prop}(ha:Vc w F σ a X)
  (h:Rj T m t a=some (A,obs)) (hob:∀p∈obs,p):Z7 P F σ w (Instr.loadAt t X) A:=by
 unfold Rj at h
 split at h
 .rename_i r hr
  cases h
  exact Q64 hT hm ha hr hob
 .split at h
  .rename_i v l hv
   simp only[Qgz,Qh6]at h
   obtain⟨rfl,rfl⟩:=h
   obtain⟨u,h1,h2⟩:=Q8u hT hm ha hv hob
   exact⟨u,Qd9 h1,h2⟩
  .cases h
theorem Se (hT:Qb P T){t:TypeId}{k o:Nat}{u:TypeId}(h:Rm T t k=some (o,u)) :
  ∃(fs:Array Field) (f:Field),P.underlying t=some (.struct fs)/\fs[k]?=some f/\f.offset=o/\f.type=u/\P.cellsOf u≠0:=by
 unfold Rm at h
 split at h<;>try (cases h;done)
 rename_i ti hti
 split at h<;>try (cases h;done)
 rename_i gs hk
 have hk':=Xu (hT t ti hti)
 rw[hk]at hk'
 obtain⟨fs,hu,_,hf⟩:=Sy hk'
 obtain⟨f,h1,h2,h3,h4⟩:=hf k o u h
 exact⟨fs,f,hu,h1,h2,h3,h4⟩
theorem Qfg {a:Addr}{f:Field}(h:P.cellsOf f.type≠0)(w:World):(fieldPlace a f).run P w=.ok (a.add f.offset) w:=by
 unfold Program.cellsOf at h
 cases hi:P.info? f.type with
 |none=>rw[hi]at h;simp at h
 |some i =>
  rw[hi]at h
  simp at h
  simp[fieldPlace,sizeOf,typeInfo,hi,h]
theorem Q43 (hT:Qb P T){t:TypeId}{k o:Nat}{u:TypeId}(h:Rm T t k=some (o,u))(a:Addr)(w:World) :
  (Instr.fieldAt t (.pointer (some a)) k).run P w=.ok (.pointer (some (a.add o))) w:=by
 obtain⟨fs,f,hu,hf,rfl,rfl,h0⟩:=Se hT h
 simp[Instr.fieldAt,run_underlying hu,hf,Instr.sureAddr,Qfg h0]
theorem add_add (a:Addr)(i j:Nat):(a.add i).add j=a.add (i+j):=by
 unfold Addr.add;by_cases h1:i=0<;>by_cases h2:j=0<;>simp[h1,h2,Nat.add_assoc]
theorem E2 (hm:Q3 m σ F w){r:Ref}{g i off:Nat}{X:Value}{l:List Prop}(ha:Vc w F σ (.ptr r g i off) X)(h:M0 m r g i=some l)(hob:∀p∈l,p) :
  ∃pl b tot,σ r=some (some pl)/\pl.loc=some (b,tot)/\pl.g=g/\X=.pointer (some ⟨b,i*pl.sz+off,none⟩):=by
 unfold M0 at h
 split at h
 .rename_i e cs hB
  cases hgi:(Nat.beq g 0&&Nat.beq i 0) with
  |false=>rw[hgi]at h;cases h
  |true =>
   simp only[Qh5]at hgi
   have hg:=Qh1 hgi.1
   subst hg
   obtain⟨pl,hr,hok,_,hat⟩:=W7 hm ha (Mem.get_at hB)
   obtain⟨b,tot,hl,rfl⟩:=hat hok.1
   exact⟨pl,b,tot,hr,hl,hok.1,rfl⟩
 .rename_i e sz g' n f hB
  injection h with h
  subst h
  have hg:g'=g:=hob _ (by simp)
  subst hg
  obtain⟨pl,hr,hok,_,hat⟩:=W7 hm ha (Mem.get_at hB)
  obtain⟨b,tot,hl,rfl⟩:=hat hok.1
  exact⟨pl,b,tot,hr,hl,hok.1,rfl⟩
 .cases h
theorem Q8m (hT:Qb P T){t:TypeId}{k:Nat}{a:AV}{X:Value}{A:AV}{obs:List Prop}(ha:Vc w F σ a X)(hm:Q3 m σ F w)
  (h:Ts T m t k a=some (A,obs)) (hob:∀p∈obs,p):Z7 P F σ w (Instr.fieldAt t X k) A:=by
 unfold Ts at h
 split at h<;>try (cases h;done)
 rename_i o u hf
 split at h<;>try (cases h;done)
 .simp only[Qgz,Qh6]at h
  obtain⟨rfl,_⟩:=h
  cases ha with
  | d ha=>cases ha with
   |@pt cs off a0 g hF hcell hrd =>
    exact .const (.d (.pt a0 g hF hcell hrd)) fun w'=>by rw[Q43 hT hf,add_add]
 .rename_i r g i off
  split at h<;>try (cases h;done)
  rename_i l hl
  simp only[Qgz,Qh6]at h
  obtain⟨rfl,rfl⟩:=h
  obtain⟨pl,b,tot,hr,hloc,hg,rfl⟩:=E2 hm ha hl hob
  refine .const (.ptr hr fun pl' e=>?_) fun w'=>Q43 hT hf _ w'
  injection e with e
  subst e
  refine⟨Om,fun _=>⟨b,tot,hloc,?_⟩⟩
  rw[Vh,Nat.add_assoc]
theorem Q63 (hT:Qb P T)(hm:Q3 m σ F w){t:TypeId}{a b:AV}{X Y:Value}{A:AV}{obs:List Prop}(ha:Vc w F σ a X)(hb:Vc w F σ b Y)
  (h:Cu T m t a b=some (A,obs)) (hob:∀p∈obs,p):Z7 P F σ w (Instr.indexAt t X Y) A:=by
 unfold Cu at h
 split at h<;>try (cases h;done)
 rename_i n e he
 obtain⟨hu,hs,ti,hti,ht,hsize,hagg⟩:=R9 hT he
 split at h<;>try (cases h;done)
 rename_i kk k
 have:=hb.int
 subst this
 split at h<;>try (cases h;done)
 rename_i r g i off
 split at h<;>try (cases h;done)
 rotate_left
 .rename_i e' cs hB
  cases hz:(Nat.beq g 0&&Nat.beq i 0) with
  |false=>rw[hz]at h;cases h
  | true =>
   rw[hz]at h
   simp only[cond_true,Qgz,Qh6]at h
   obtain⟨rfl,rfl⟩:=h
   simp only[Qh5]at hz
   have e1:=Qh1 hz.1
   have e2:=Qh1 hz.2
   subst e1;subst e2
   have h0:0<=k:=hob _ (by simp)
   have h1:k<n:=hob _ (by simp)
   obtain⟨pl,hr,hok,_,hat⟩:=W7 hm ha (Mem.get_at hB)
   obtain⟨hpg,hsz,hn0⟩:=hok
   obtain⟨b',tot,hl',hX⟩:=hat hpg
   subst hX
   rw[Ma]
   refine .const (u:=.pointer (some ⟨b',0*pl.sz+(off+k.toNat),none⟩)) (.ptr hr fun pl' e=>?_) fun w'=>?_
   .injection e with e
    subst e
    exact⟨by rw[hpg];exact Qgx _,fun _=>⟨b',tot,hl',rfl⟩⟩
   .simp[Instr.indexAt,run_underlying hu,asIntOf,h0,h1,hs,Instr.sureAddr,Vh]
 rename_i e' sz g' n' f hB
 cases hz:(Nat.beq i 0&&(Nat.beq off 0&&Nat.beq sz 1)) with
 |false=>rw[hz]at h;cases h
 | true =>
  rw[hz]at h
  simp only[cond_true,Qgz,Qh6]at h
  obtain⟨rfl,rfl⟩:=h
  simp only[Qh5]at hz
  have e1:=Qh1 hz.1
  have e2:=Qh1 hz.2.1
  have e3:=Qh1 hz.2.2
  subst e1;subst e2;subst e3
  have hg:g'=g:=hob _ (by simp)
  have h0:0<=k:=hob _ (by simp)
  have h1:k<n:=hob _ (by simp)
  subst hg
  obtain⟨pl,hr,hok,_,hat⟩:=W7 hm ha (Mem.get_at hB)
  obtain⟨hpg,hsz,hn0,hrow,hl⟩:=hok
  obtain⟨b',tot,hl',hX⟩:=hat hpg
  subst hX
  refine .const (u:=.pointer (some ⟨b',k.toNat*pl.sz+0,none⟩)) (.ptr hr fun pl' e=>?_) fun w'=>?_
  .injection e with e
   subst e
   exact⟨by rw[hpg];exact Qgx _,fun _=>⟨b',tot,hl',rfl⟩⟩
  .simp[Instr.indexAt,run_underlying hu,asIntOf,h0,h1,hs,Instr.sureAddr,Vh,hsz]
theorem Q8q (hT:Qb P T)(hm:Q3 m σ F w){t:TypeId}{a b:AV}{X Y:Value}{A:AV}{obs:List Prop}(ha:Vc w F σ a X)(hb:Vc w F σ b Y)
  (h:Ty T m t a b=some (A,obs)) (hob:∀p∈obs,p):Z7 P F σ w (Instr.indexAt t X Y) A:=by
 unfold Ty at h
 simp only[Ma]at h
 split at h<;>try (cases h;done)
 rename_i e sz he
 obtain⟨hu,hs,_⟩:=Gl hT he
 split at h<;>try (cases h;done)
 rename_i k i
 have:=hb.int
 subst this
 split at h<;>try (cases h;done)
 .rename_i sz' n f
  cases hz:Nat.beq sz' sz with
  |false=>rw[hz]at h;cases h
  | true =>
   rw[hz]at h
   simp only[cond_true,Qgz,Qh6]at h
   obtain⟨rfl,rfl⟩:=h
   have hz':=Qh1 hz
   subst hz'
   have h0:0<=i:=hob _ (by simp)
   have h1:i<n:=hob _ (by simp)
   have hin:i.toNat<n:=by omega
   cases ha with
   | d ha=>cases ha with
    | sl a0 g hc hA hl hcell hrd =>
     obtain⟨rfl,hF⟩:=hA Om
     refine .const (u:=.pointer (some (a0.add (i.toNat*sz')))) (.d ?_) fun w'=>by
      simp[Instr.indexAt,run_underlying hu,asIntOf,h0,h1,hs]
     have:=Rd.pt (w:=w) (F:=F) (cs:=f i.toNat) (off:=0) (a0.add (i.toNat*sz')) (fun j=>g i.toNat j) (by rw[R5];exact hF)
      (fun j hj=>by rw[add_add];exact hcell _ _ hin (by rw[hl _ hin]at hj;exact hj)) (fun j x hx=>hrd _ _ _ hin hx)
     rw[add_add]at this
     exact this
 .rename_i r g off n
  split at h<;>try (cases h;done)
  rename_i e' sz' g' n' f' hB
  cases hz:Nat.beq sz' sz with
  |false=>rw[hz]at h;cases h
  | true =>
   rw[hz]at h
   simp only[cond_true,Qgz,Qh6]at h
   obtain⟨rfl,rfl⟩:=h
   have hz':=Qh1 hz
   subst hz'
   have hg:g'=g:=hob _ (by simp)
   have h0:0<=i:=hob _ (by simp)
   have h1:i<n:=hob _ (by simp)
   subst hg
   obtain⟨pl,hr,hok,_,hat⟩:=Uz hm ha (Mem.get_at hB)
   have hsl:=hat hok.1
   unfold Yn at hsl
   have hpsz:pl.sz=sz':=hok.2.1
   split at hsl
   .exact absurd hsl.1 Om
   .rename_i b tot hl
    obtain⟨A,cap,rfl,hnc,hoc,hA⟩:=hsl
    have:=hA (.inl Om)
    subst this
    refine .const (u:=.pointer (some (Addr.add ⟨b,off*pl.sz,none⟩ (i.toNat*sz')))) (.ptr hr fun pl' e=>?_) fun w'=>by
     simp[Instr.indexAt,run_underlying hu,asIntOf,h0,h1,hs]
    injection e with e
    subst e
    refine⟨by rw[hok.1];exact Qgx _,fun _=>⟨b,tot,hl,?_⟩⟩
    rw[Vh,hpsz,<-Nat.add_mul,Nat.add_zero]
theorem Iy (hT:Qb P T){t:TypeId}{n sz:Nat}(h:Pb T t=some (n,sz)) :
  ∃e,P.underlying t=some (.array n e)/\(∀w,(sizeOf e).run P w=.ok sz w)/\∃ti,T.at t=some ti/\Zo P t ti=true/\ti.size=n*sz:=by
 unfold Pb at h
 split at h<;>try (cases h;done)
 rename_i ti hti
 split at h<;>try (cases h;done)
 rename_i n' e' hk
 split at h<;>try (cases h;done)
 rename_i te hte
 cases hb:(Nat.blt 1 te.size&&(Nat.beq ti.size (n'*te.size)&&Nat.blt 40 ti.size)) with
 |false=>rw[hb]at h;cases h
 |true =>
  rw[hb]at h
  simp only[cond_true,Qgz,Qh6]at h
  obtain⟨rfl,rfl⟩:=h
  simp only[Qh5]at hb
  have hk':=Xu (hT t ti hti)
  rw[hk]at hk'
  exact⟨e',Ny hk',run_sizeOf (hT _ te hte),ti,hti,hT t ti hti,Qh1 hb.2.1⟩
theorem Q69 (hT:Qb P T)(hm:Q3 m σ F w){t:TypeId}{a b:AV}{X Y:Value}{A:AV}{obs:List Prop}(ha:Vc w F σ a X)(hb:Vc w F σ b Y)
  (h:Cz T m t a b=some (A,obs)) (hob:∀p∈obs,p):Z7 P F σ w (Instr.indexAt t X Y) A:=by
 unfold Cz at h
 split at h<;>try (cases h;done)
 rename_i n sz0 he
 obtain⟨e,hu,hs,_⟩:=Iy hT he
 split at h<;>try (cases h;done)
 rename_i kk k
 have:=hb.int
 subst this
 split at h<;>try (cases h;done)
 rename_i r g i off
 split at h<;>try (cases h;done)
 rename_i e' sz g' n' f hB
 cases hz:(Nat.beq i 0&&(Nat.beq off 0&&Nat.beq sz sz0)) with
 |false=>rw[hz]at h;cases h
 | true =>
  rw[hz]at h
  simp only[cond_true,Qgz,Qh6]at h
  obtain⟨rfl,rfl⟩:=h
  simp only[Qh5]at hz
  have e1:=Qh1 hz.1
  have e2:=Qh1 hz.2.1
  have e3:=Qh1 hz.2.2
  subst e1;subst e2;subst e3
  have hg:g'=g:=hob _ (by simp)
  have h0:0<=k:=hob _ (by simp)
  have h1:k<n:=hob _ (by simp)
  subst hg
  obtain⟨pl,hr,hok,_,hat⟩:=W7 hm ha (Mem.get_at hB)
  obtain⟨hpg,hsz,hn0,hrow,hl⟩:=hok
  obtain⟨b',tot,hl',hX⟩:=hat hpg
  subst hX
  refine .const (u:=.pointer (some ⟨b',k.toNat*pl.sz+0,none⟩)) (.ptr hr fun pl' e=>?_) fun w'=>?_
  .injection e with e
   subst e
   exact⟨by rw[hpg];exact Qgx _,fun _=>⟨b',tot,hl',rfl⟩⟩
  .simp[Instr.indexAt,run_underlying hu,asIntOf,h0,h1,hs,Instr.sureAddr,Vh,hsz]
theorem Am (hT:Qb P T){t:TypeId}{n sz:Nat}(h:Mn T t=some (n,sz)) :
  ∃e te,P.underlying t=some (.array n e)/\(∀w,(sizeOf e).run P w=.ok sz w)/\T.at e=some te/\te.k.agg=true/\∃ti,T.at t=some ti/\Zo P t ti=true/\ti.size=n*sz:=by
 unfold Mn at h
 split at h<;>try (cases h;done)
 rename_i ti hti
 split at h<;>try (cases h;done)
 rename_i n' e' hk
 split at h<;>try (cases h;done)
 rename_i te hte
 cases hb:(Nat.blt 1 te.size&&(Nat.beq ti.size (n'*te.size)&&(Nat.ble ti.size 40&&te.k.agg))) with
 |false=>rw[hb]at h;cases h
 |true =>
  rw[hb]at h
  simp only[cond_true,Qgz,Qh6]at h
  obtain⟨rfl,rfl⟩:=h
  simp only[Qh5]at hb
  have hk':=Xu (hT t ti hti)
  rw[hk]at hk'
  exact⟨e',te,Ny hk',run_sizeOf (hT _ te hte),hte,hb.2.2.2,ti,hti,hT t ti hti,Qh1 hb.2.1⟩
theorem Qfr (hT:Qb P T)(hm:Q3 m σ F w){t:TypeId}{a b:AV}{X Y:Value}{A:AV}{obs:List Prop}(ha:Vc w F σ a X)(hb:Vc w F σ b Y)
  (h:Al T m t a b=some (A,obs)) (hob:∀p∈obs,p):Z7 P F σ w (Instr.indexAt t X Y) A:=by
 unfold Al at h
 split at h<;>try (cases h;done)
 rename_i n sz he
 obtain⟨e,te,hu,hs,_⟩:=Am hT he
 split at h<;>try (cases h;done)
 rename_i kk k
 have:=hb.int
 subst this
 split at h<;>try (cases h;done)
 rename_i r g i off
 split at h<;>try (cases h;done)
 rename_i e' cs hB
 cases hz:(Nat.beq g 0&&Nat.beq i 0) with
 |false=>rw[hz]at h;cases h
 | true =>
  rw[hz]at h
  simp only[cond_true,Qgz,Qh6]at h
  obtain⟨rfl,rfl⟩:=h
  simp only[Qh5]at hz
  have e1:=Qh1 hz.1
  have e2:=Qh1 hz.2
  subst e1;subst e2
  have h0:0<=k:=hob _ (by simp)
  have h1:k<n:=hob _ (by simp)
  obtain⟨pl,hr,hok,_,hat⟩:=W7 hm ha (Mem.get_at hB)
  obtain⟨hpg,hsz,hn0⟩:=hok
  obtain⟨b',tot,hl',hX⟩:=hat hpg
  subst hX
  rw[Ma]
  refine .const (u:=.pointer (some ⟨b',0*pl.sz+(off+k.toNat*sz),none⟩)) (.ptr hr fun pl' e=>?_) fun w'=>?_
  .injection e with e
   subst e
   exact⟨by rw[hpg];exact Qgx _,fun _=>⟨b',tot,hl',rfl⟩⟩
  .simp[Instr.indexAt,run_underlying hu,asIntOf,h0,h1,hs,Instr.sureAddr,Vh]
theorem Q8r (hT:Qb P T)(hm:Q3 m σ F w){t:TypeId}{a b:AV}{X Y:Value}{A:AV}{obs:List Prop}(ha:Vc w F σ a X)(hb:Vc w F σ b Y)
  (h:Tx T m t a b=some (A,obs)) (hob:∀p∈obs,p):Z7 P F σ w (Instr.indexAt t X Y) A:=by
 unfold Tx at h
 split at h
 .rename_i r hr
  cases h
  exact Q63 hT hm ha hb hr hob
 .split at h
  .rename_i r hr
   cases h
   exact Q69 hT hm ha hb hr hob
  .split at h
   .rename_i r hr
    cases h
    exact Qfr hT hm ha hb hr hob
   .exact Q8q hT hm ha hb h hob
theorem Q8t (hT:Qb P T)(hm:Q3 m σ F w){t ty:TypeId}{a:AV}{X:Value}{A:AV}{obs:List Prop}(ha:Vc w F σ a X)
  (h:Tz T m t a=some (A,obs)) (hob:∀p∈obs,p):Z7 P F σ w (Builtin.len_ #[t] ty #[X]) A:=by
 unfold Tz at h
 split at h<;>try (cases h;done)
 rename_i x he
 obtain⟨hu,_⟩:=Gl hT he
 split at h
 .rename_i r g off n
  split at h<;>try (cases h;done)
  rename_i e' sz' g' n' f' hB
  simp only[Qgz,Qh6]at h
  obtain⟨rfl,rfl⟩:=h
  have hg:g'=g:=hob _ (by simp)
  subst hg
  obtain⟨pl,hr,hok,_,hat⟩:=Uz hm ha (Mem.get_at hB)
  have hsl:=hat hok.1
  unfold Yn at hsl
  split at hsl
  .obtain⟨rfl,_,rfl⟩:=hsl
   exact .const (.d .int) fun w'=>by simp[Builtin.len_,run_underlying hu,goInt]
  .obtain⟨A,cap,rfl,_⟩:=hsl
   exact .const (.d .int) fun w'=>by simp[Builtin.len_,run_underlying hu,goInt]
 .unfold Q0g at h
  rw[he]at h
  simp only at h
  split at h<;>try (cases h;done)
  .simp only[Qgz,Qh6]at h
   obtain⟨rfl,_⟩:=h
   cases ha with
   |d ha=>cases ha with
    |sl=>exact .const (.d .int) fun w'=>by simp[Builtin.len_,run_underlying hu,goInt]
  .simp only[Qgz,Qh6]at h
   obtain⟨rfl,_⟩:=h
   cases ha with
   |d ha=>cases ha with
    |nils=>exact .const (.d .int) fun w'=>by simp[Builtin.len_,run_underlying hu,goInt]
end sound
end Go.Ab
