import Derived.Test.YtmlhghddfobmmaaGreatDoorEngK
import Derived.Deep.Quiet
import Derived.Lib.AppendZerosOnto
import Derived.Sort.QuietThIn
import Derived.RangeFuncIn
import Derived.RangeFuncRecord
import Derived.TacticsIn
namespace Go.Ab
set_option linter.unusedSimpArgs false
set_option linter.unusedVariables false
def Q57 (te:TI):AV :=
 match te.k.agg with
 |true=>.d (.agg te.zero)
 |false=>match te.zero with
  |[z]=>.d z
  |_=>.junk
def S3 (T:Tab)(m:Mem)(t:TypeId):Option (AV × Mem) :=
 match mapOf T t with
 |none=>none
 |some (sh,te)=>some (.mp m.new,m.add (.map sh (fun _=>false) fun _=>Q57 te))
def Nk (T:Tab) (m:Mem) (t:TypeId) (A K V:AV):Option Mem :=
 match mapOf T t with
 |none=>none
 | some (sh,_)=>match A with
  | .mp r=>match m.get r with
   |some (.map sh' has val)=>match keyOf sh K with
    |some k=>bif Up sh sh' then some (m.put r (some (.map sh' (fun x=>decide (x=k)||has x) fun x=>bif decide (x=k) then V else val x))) else none
    |none=>none
   |_=>none
  |_=>none
section
variable {P:Program}{T:Tab}{w:World}{F:Nat->Prop}{σ:Pls}{m:Mem}
theorem Q8w (hT:Qb P T)(hm:Q3 m σ F w){t:TypeId}{A:AV}{m':Mem}(h:S3 T m t=some (A,m')) :
  ∃u w' σ',(Instr.makeMap t none).run P w=.ok u w'/\Vc w' F σ' A u/\Q3 m' σ' F w'/\Step σ F w σ' F w'/\SLe σ σ':=by
 unfold S3 at h
 split at h<;>try (cases h;done)
 rename_i sh te hmt
 simp only[Qgz,Qh6]at h
 obtain⟨rfl,rfl⟩:=h
 let pl:Pl:=⟨0,0,some (w.heap.size,1)⟩
 have hB:Jx (w.alloc (.map #[] 0)) F (upd σ m.new (some pl)) (.map sh (fun _=>false) fun _=>Q57 te) pl :=
  ⟨rfl,w.heap.size,rfl,#[],0,[],(MapKept.heap_alloc w _).1,rfl,List.nodup_nil,fun i k e h=>by simp at h,fun k _ h=>(by cases h),by simp,by simp⟩
 obtain⟨g1,g2⟩:=Ur hm (w':=w.alloc (.map #[] 0)) (pl:=pl) (by rw[size_alloc];omega) (fun b hb=>heap_alloc_old w _ b hb) hB
  (fun b t h=>by cases h;rw[size_alloc];exact⟨Qgx _,Om⟩)
 exact⟨.map (some w.heap.size),_,_,by simp[Instr.makeMap,newObj,Sem.run],.mp (J3 σ m.new (some pl)) (fun p hp _=>by injection hp with hp;subst hp;exact⟨_,_,rfl,rfl⟩),g1,
  C6 (fun b t h=>by cases h;exact Qgx _),g2⟩
theorem Qfw {es:Array MapEntry}{clock:Nat}{key val:Value}(h:Stp es clock):Stp (es.push {key,val,born:=clock}) (clock+1):=by
 obtain⟨h1,h2⟩:=h
 refine⟨fun x hx=>?_,?_⟩
 .simp only[Array.toList_push,Qi7,Qi9]at hx
  rcases hx with hx|rfl
  .exact Nat.lt_succ_of_lt (h1 x hx)
  .exact Nat.lt_succ_self _
 .simp only[Array.toList_push,Qim,Qin,List.map_nil]
  refine List.nodup_append.2 ⟨h2,by simp,fun a ha b hb=>?_⟩
  simp only[Qi9]at hb
  subst hb
  obtain⟨x,hx,rfl⟩:=Qhw.1 ha
  exact Nat.ne_of_lt (h1 x hx)
theorem Qfv {es:Array MapEntry}{clock i:Nat}{f:MapEntry->MapEntry}(h:Stp es clock)(hf:∀e,(f e).born=e.born):Stp (es.modify i f) clock:=by
 have hb:(es.modify i f).toList.map (·.born)=es.toList.map (·.born):=by
  apply List.ext_getElem?
  intro j
  simp only[Qhe,Qh2,Array.getElem?_modify]
  by_cases hij:i=j
  .subst hij
   cases he:es[i]? with
   |none=>simp
   |some e=>simp[hf e]
  .simp[hij]
 refine⟨fun x hx=>?_,by rw[hb];exact h.2⟩
 have:x.born∈(es.modify i f).toList.map (·.born):=Qhw.2 ⟨x,hx,rfl⟩
 rw[hb]at this
 obtain⟨y,hy,e⟩:=Qhw.1 this
 rw[<-e]
 exact h.1 y hy
theorem Qc2 {k:List Int}{ks:List (List Int)}(h:ks.Nodup)(hk:k ∉ ks):(ks++[k]).Nodup:=by
 rw[List.nodup_append]
 exact⟨h,by simp,fun a ha b hb e=>by simp at hb;subst hb;subst e;exact hk ha⟩
theorem Q8x (hT:Qb P T)(hm:Q3 m σ F w){t:TypeId}{x y z:AV}{X Y Z:Value}{m':Mem}(hx:Vc w F σ x X)(hy:Vc w F σ y Y)(hz:Vc w F σ z Z)
  (h:Nk T m t x y z=some m'):∃w',(Instr.mapUpdate t X Y Z).run P w=.ok () w'/\Q3 m' σ F w'/\Step σ F w σ F w':=by
 unfold Nk at h
 split at h<;>try (cases h;done)
 rename_i sh te hmt
 obtain⟨kt,et,hu,hs,hte⟩:=E8 hT hmt
 split at h<;>try (cases h;done)
 rename_i r
 split at h<;>try (cases h;done)
 rename_i sh' has val hB
 split at h<;>try (cases h;done)
 rename_i k hkey
 cases hsh:Up sh sh' with
 |false=>rw[hsh]at h;cases h
 | true =>
  rw[hsh]at h
  simp only[cond_true,Qgz]at h
  subst h
  have:=D0 hsh
  subst this
  obtain⟨hfit,rfl⟩:=Dk hkey hy
  obtain⟨pl,b,hr,h0,hl,rfl,h1,b',hl',es,clock,ks,g1,g2,g3,g4,g5,gst⟩:=E9 hm hx (Mem.get_at hB)
  rw[hl]at hl'
  obtain⟨rfl,_⟩:=Prod.mk.inj (Option.some.inj hl')
  have hks:Bl sh ks es:=⟨g2,fun i k e hi he=>⟨(g4 i k e hi he).1,(g4 i k e hi he).2.1⟩⟩
  have hlt:b<w.heap.size:=(Qh4.1 g1).1
  have hF:¬ F b:=(hm.nf r pl b 1 hr hl).1
  have hs0:SLe σ (upd σ r (some pl)):=SLe.upd_old hr (QLe.refl _)
  have fin:∀(es':Array MapEntry) (clock':Nat) (ks':List (List Int)),ks'.length=es'.size->ks'.Nodup ->
    (∀(i:Nat) k' e,ks'[i]?=some k'->es'[i]?=some e->sh.fits k'/\e.key=sh.key k'/\(decide (k'=k)||has k')=true/\Vc w F σ (bif decide (k'=k) then z else val k') e.val) ->
    (∀k',sh.fits k'->(decide (k'=k)||has k')=true->k'∈ks')->Stp es' clock' ->
    (Instr.mapUpdate t (.map (some b)) (sh.key k) Z).run P w=.ok () {w with heap:=w.heap.setIfInBounds b (.map es' clock')} ->
    ∃w',(Instr.mapUpdate t (.map (some b)) (sh.key k) Z).run P w=.ok () w'/\Q3 (m.put r (some (.map sh (fun x=>decide (x=k)||has x) fun x=>bif decide (x=k) then z else val x))) σ F w'/\Step σ F w σ F w':=by
   intro es' clock' ks' e1 e2 e3 e4 est hrun
   obtain⟨s1,s2⟩:=MapKept.heap_set (o':=.map es' clock') g1
   have hsz:({w with heap:=w.heap.setIfInBounds b (.map es' clock')}:World).heap.size=w.heap.size:=by simp
   have hkF:∀b',F b'->({w with heap:=w.heap.setIfInBounds b (.map es' clock')}:World).heap[b']?=w.heap[b']?:=fun b' hb'=>s2 b' (fun e=>hF (by rw[<-e];exact hb'))
   have hB':Jx {w with heap:=w.heap.setIfInBounds b (.map es' clock')} F (upd σ r (some pl)) (.map sh (fun x=>decide (x=k)||has x) fun x=>bif decide (x=k) then z else val x) pl :=
    ⟨h0,b,hl,es',clock',ks',s1,e1,e2,fun i k' e hi he=>⟨(e3 i k' e hi he).1,(e3 i k' e hi he).2.1,(e3 i k' e hi he).2.2.1,(e3 i k' e hi he).2.2.2.mono (fun _ h=>h) hkF hs0⟩,e4,est⟩
   obtain⟨q1,q2⟩:=Ge hm (w':={w with heap:=w.heap.setIfInBounds b (.map es' clock')}) hr (by rw[hsz];exact Qgx _) (fun b' _ hne=>s2 b' (fun e=>hne 1 (by rw[e];exact hl)))
    ⟨Qgx _,fun _=>rfl⟩ hB' (fun b' t' h=>by rw[hsz];exact⟨by rw[hl]at h;cases h;exact hlt,.inl ⟨t',h⟩⟩)
   have hσ:upd σ r (some pl)=σ:=funext fun r'=>by
    by_cases e:r'=r
    .subst e;rw[J3];exact hr.symm
    .exact J4 σ _ e
   rw[hσ]at q1
   exact⟨_,hrun,q1,⟨rfl,rfl,rfl,Qgx _,by rw[hsz];exact Qgx _,fun b' _ ho=>s2 b' (fun e=>ho ⟨r,pl,1,hr,by rw[e];exact hl⟩),fun _ h=>h,fun _ h=>.inl h,fun _ h=>.inl h⟩⟩
  rcases C0 hs hks hfit with ⟨e1,e2⟩|⟨i,e,e1,e2,e3⟩
  .refine fin (es.push {key:=sh.key k,val:=Z,born:=clock}) (clock+1) (ks++[k]) (by simp[g2]) (Qc2 g3 e1) (fun j k' e hj he=>?_) (fun k' hk' hh=>?_) (Qfw gst) ?_
   .rw[List.getElem?_append]at hj
    rw[Array.getElem?_push]at he
    by_cases hjl:j<ks.length
    .rw[if_pos hjl]at hj
     rw[if_neg Om]at he
     obtain⟨q1,q2,q3,q4⟩:=g4 j k' e hj he
     have hne:k'≠k:=fun e=>e1 (by rw[<-e];exact Qie hj)
     refine⟨q1,q2,by simp[q3],by simp only[hne,decide_false,cond_false];exact q4⟩
    .rw[if_neg hjl]at hj
     have hj0:j-ks.length=0:=by
      rcases Nat.eq_zero_or_pos (j-ks.length) with h|h
      .exact h
      .rw[Qht (by simp;omega)]at hj;cases hj
     rw[hj0]at hj
     simp at hj
     subst hj
     rw[if_pos Om]at he
     simp at he
     subst he
     exact⟨hfit,rfl,by simp,by simpa using hz⟩
   .simp only[Bool.or_eq_true,Qia]at hh
    rcases hh with rfl|hh
    .simp
    .exact List.mem_append_left _ (g5 k' hk' hh)
   .simp[Instr.mapUpdate,run_underlying hu,MapKept.run_getObj_map g1,K8 hs hfit,e2,MapKept.run_setObj_map _ g1]
  .obtain⟨p1,p2,p3,p4⟩:=g4 i k e e2 e1
   refine fin (es.modify i fun e=>{e with key:=sh.key k,val:=Z}) clock ks (by simp[g2]) g3 (fun j k' e' hj he=>?_) (fun k' hk' hh=>?_) (Qfv gst fun _=>rfl) ?_
   .rw[Array.getElem?_modify]at he
    by_cases hij:i=j
    .subst hij
     rw[if_pos rfl,e1]at he
     simp at he
     subst he
     rw[e2]at hj
     injection hj with hj
     subst hj
     exact⟨hfit,rfl,by simp,by simpa using hz⟩
    .rw[if_neg hij]at he
     obtain⟨q1,q2,q3,q4⟩:=g4 j k' e' hj he
     have hne:k'≠k:=fun e=>by
      subst e
      have hi:=(Qh7.1 e2)
      have hj2:=(Qh7.1 hj)
      exact hij ((List.getElem_inj g3).1 (hi.2.trans hj2.2.symm))
     exact⟨q1,q2,by simp[q3],by simp only[hne,decide_false,cond_false];exact q4⟩
   .simp only[Bool.or_eq_true,Qia]at hh
    rcases hh with rfl|hh
    .exact Qie e2
    .exact g5 k' hk' hh
   .simp[Instr.mapUpdate,run_underlying hu,MapKept.run_getObj_map g1,K8 hs hfit,e3,e1,p2,Qfh hs,MapKept.run_setObj_map _ g1]
theorem Q0h (hT:Qb P T)(hm:Q3 m σ F w){t:TypeId}{x y z:AV}{X Y Z:Value}{m':Mem}(hx:Vc w F σ x X)(hy:Vc w F σ y Y)(hz:Vc w F σ z Z)
  (h:Nk T m t x y z=some m'):∃w' σ',(Instr.mapUpdate t X Y Z).run P w=.ok () w'/\Q3 m' σ' F w'/\Step σ F w σ' F w'/\SLe σ σ':=by
 obtain⟨w',h1,h2,h3⟩:=Q8x hT hm hx hy hz h
 exact⟨w',σ,h1,h2,h3,SLe.refl σ⟩
end
structure Ob (p K:Prop):Prop where
 o:p
 k:K
structure Br (b:Bool)(x y:Prop):Prop where
 t:b=true->x
 f:b=false->y
structure Ev (p:Prop):Prop where
 o:p
structure Dr (p K:Prop):Prop where
 o:p
 k:K
noncomputable def obs (l:List Prop)(K:Prop):Prop:=List.rec (motive:=fun _=>Prop) K (fun p _ ih=>Ob p (Ev ih)) l
def under (g:Bool):List Prop->List Prop
 |[]=>[]
 |p::r=>(g=true->p)::under g r
theorem Zw {K:Prop}:∀{l:List Prop},obs l K->(∀p∈l,p)/\K
 |[],h=>⟨fun p hp=>by simp at hp,h⟩
 |p::r,h=>by
  have h':Ob p (Ev (obs r K)):=h
  refine⟨fun q hq=>?_,(Zw h'.k.o).2⟩
  rcases Qho.1 hq with rfl|hq
  .exact h'.o
  .exact(Zw h'.k.o).1 q hq
theorem Bc {g:Bool}{l:List Prop}(h:∀p∈under g l,p)(hg:g=true):∀p∈l,p:=by
 induction l with
 |nil=>intro p hp;simp at hp
 |cons a r ih =>
  intro p hp
  rcases Qho.1 hp with rfl|hp
  .exact h (g=true->p) (by simp[under]) hg
  .exact ih (fun q hq=>h q (by simp[under,hq])) p hp
def Db (n:Nat)(K:Nat->Prop):Prop :=
 match n with
 |0=>K 0|1=>K 1|2=>K 2|3=>K 3|4=>K 4|5=>K 5|6=>K 6|7=>K 7|8=>K 8|9=>K 9|10=>K 10|11=>K 11|12=>K 12
 |n=>K n
def Nt (r:Ref)(K:Ref->Prop):Prop :=
 match r with
 | .loc j=>Db j fun j=>K (.loc j)
 | .arg j=>Db j fun j=>K (.arg j)
 | .bad=>K .bad
def Q0x (x:D)(K:D->Prop):Prop :=
 match x with
 | .int k n=>K (.int k n)
 | .bool b=>K (.bool b)
 | .str s=>K (.str s)
 | .nilp=>K .nilp
 | .nili=>K .nili
 | .nilf=>K .nilf
 | .nilm=>K .nilm
 | .nils=>K .nils
 | .agg cs=>K (.agg cs)
 | .ifc t x=>K (.ifc t x)
 | .sl sz n f=>K (.sl sz n f)
 | .pt cs off=>K (.pt cs off)
 | .fn f xs ys=>K (.fn f xs ys)
 | .mapd sh has val=>K (.mapd sh has val)
 | .slc sz n f=>K (.slc sz n f)
def frc (A:AV)(K:AV->Prop):Prop :=
 match A with
 | .d x=>Q0x x fun x=>K (.d x)
 | .agg cs=>K (.agg cs)
 | .tup cs=>K (.tup cs)
 | .ifc t x=>K (.ifc t x)
 | .fn f xs ys=>K (.fn f xs ys)
 | .ptr r g i off=>Nt r fun r=>K (.ptr r g i off)
 | .osl r g off n=>Nt r fun r=>K (.osl r g off n)
 | .mp r=>Nt r fun r=>K (.mp r)
 | .gd b x=>K (.gd b x)
 | .junk=>K .junk
def Q0w (B:Option Blk)(K:Option Blk->Prop):Prop :=
 match B with
 |none=>K none
 |some (.box e cs)=>K (some (.box e cs))
 |some (.vec e sz g n f)=>K (some (.vec e sz g n f))
 |some (.loop b r env)=>K (some (.loop b r env))
 |some (.map sh has val)=>K (some (.map sh has val))
 |some (.room e sz g n c f)=>K (some (.room e sz g n c f))
 |some (.ent sh has val key c)=>K (some (.ent sh has val key c))
 |some .opq=>K (some .opq)
 |some (.iter sh has val left cur)=>K (some (.iter sh has val left cur))
 |some (.look sh key v hk)=>K (some (.look sh key v hk))
def Da:List (Option Blk)->(List (Option Blk)->Prop)->Prop
 |[],K=>K []
 |b::r,K=>Q0w b fun b=>Da r fun r=>K (b::r)
def Gt (m:Mem)(K:Mem->Prop):Prop :=
 match m with
 |⟨l,o⟩=>Da l fun l=>K ⟨l,o⟩
theorem Qa0 (n:Nat)(K:Nat->Prop):Db n K=K n:=by unfold Db;split<;>rfl
theorem Qa1 (r:Ref)(K:Ref->Prop):Nt r K=K r:=by cases r<;>simp[Nt,Qa0]
theorem Q9z (x:D)(K:D->Prop):Q0x x K=K x:=by cases x<;>rfl
theorem Ya (A:AV)(K:AV->Prop):frc A K=K A:=by cases A<;>simp[frc,Q9z,Qa1]
theorem Q9y (B:Option Blk)(K:Option Blk->Prop):Q0w B K=K B:=by
 cases B with
 |none=>rfl
 |some b=>cases b<;>rfl
theorem Q0y:∀(l:List (Option Blk)) (K:List (Option Blk)->Prop),Da l K=K l
 |[],_=>rfl
 |b::r,K=>by simp[Da,Q9y,Q0y r]
theorem Ns (m:Mem)(K:Mem->Prop):Gt m K=K m:=by cases m;simp[Gt,Q0y]
def Sb (T:Tab) (m:Mem) (t t':TypeId) (s x:AV):Option (AV × Mem × List Prop) :=
 match elemOf T t with
 |none=>none
 | some (e,sz)=>match T.at e with
  |none=>none
  | some te=>match T.at t' with
   | some tn=>match tn.k with
    | .int _=>match s with
     | .d .nils=>match x with
      | .d (.int _ k)=>bif Nat.beq te.bytes 0 then none else some (.osl m.new 0 0 k.toNat,m.add (.vec e sz 0 k.toNat fun _=>up te.zero),[0<k,k.toNat*te.bytes<=140737488355328])
      |_=>none
     |_=>none
    |_=>none
   |none=>none
def Cw (T:Tab) (m:Mem) (t:TypeId) (X V:AV):Option (Mem × List Prop) :=
 match Gb T t with
 |none=>none
 | some (n,_)=>match X with
  | .ptr r g i off=>match m.get r with
   |some (.vec e sz g' n' _)=>match V with
    | .d (.agg xs)=>bif Nat.beq i 0 && (Nat.beq off 0 && Nat.beq sz 1) then
      some (m.put r (some (.vec e sz g' n fun j=>[.d (xs.getD j .nilp)])),[g'=g,n'=n,xs.length=n,∀x,x∈xs->x.one=true]) else none
    |_=>none
   |_=>none
  |_=>none
def Gq (T:Tab) (env:Env) (m:Mem) (op:Op):Option (AV × Mem × List Prop) :=
 match op with
 | .box t x=>match strip (ev env x) with
  | (A,p)=>match Gb T t with
   |some (n,_)=>match A with
    | .d (.agg xs)=>some (.ptr m.new 0 0 0,m.add (.vec t 1 0 n fun j=>[.d (xs.getD j .nilp)]),cat p [xs.length=n,n<=maxLen,∀x,x∈xs->x.one=true])
    |_=>none
   |none=>match cellsOf m A with
    |some (cs,q)=>some (.ptr m.new 0 0 0,m.add (.box t cs),cat p q)
    |none=>none
 | .alloc t=>match T.at t with
  | some ti=>match Gb T t with
   |some (n,_)=>some (.ptr m.new 0 0 0,m.add (.vec t 1 0 n fun j=>[.d (ti.zero.getD j .nilp)]),[n<=maxLen])
   |none=>match Pb T t with
    |some (n,sz)=>some (.ptr m.new 0 0 0,m.add (.vec t sz 0 n fun _=>up (ti.zero.take sz)),[n<=maxLen,∀i j,i<n->j<sz->ti.zero[i*sz+j]?=ti.zero[j]?])
    |none=>some (.ptr m.new 0 0 0,m.add (.box t (up ti.zero)),[])
  |none=>none
 | .store t x v=>match strip (ev env x) with
  | (X,p)=>match strip (ev env v) with
   | (V,q)=>match Cw T m t X V with
    |some (m',o)=>some (.junk,m',cat p (cat q o))
    | none=>match cellsOf m V with
     |none=>none
     |some (cs,q')=>match Sa T m t X cs with
      |none=>none
      |some (m',o)=>some (.junk,m',cat p (cat q (cat q' o)))
 | .buildSlice t n parts=>match Ws (Ve env parts.toList) with
  |(l0,p)=>match Nj T m t n l0 with
   |some (A,m',q)=>some (A,m',cat p q)
   |none=>none
 | .build t parts=>match Ws (Ve env parts.toList) with
  |(l0,p)=>match D1 T m t l0 with
   |some (A,q)=>some (A,m,cat p q)
   |none=>none
 | .makeMap t none=>match S3 T m t with
  |some (A,m')=>some (A,m',[])
  |none=>none
 | .mapUpdate t x k v=>match strip (ev env x) with
  | (X,p)=>match strip (ev env k) with
   | (K,q)=>match strip (ev env v) with
    |(V,o)=>match Nk T m t X K V with
     |some m'=>some (.junk,m',cat p (cat q o))
     |none=>none
 | .insert t x k v=>match strip (ev env x) with
  | (X,p)=>match strip (ev env k) with
   | (K,q)=>match strip (ev env v) with
    |(V,o)=>match Nk T m t X K V with
     |some m'=>some (.junk,m',cat p (cat q o))
     |none=>none
 | .call { callee:=.builtin .append,args,argTypes } =>
  match args.toList with
  | [s,x]=>match argTypes.toList with
   | [t,t']=>bif Nat.beq t t' then match strip (ev env s) with
     | (S,p)=>match strip (ev env x) with
      |(X,q)=>match Tk T m t S X with
       |some (A,m',o)=>some (A,m',cat p (cat q o))
       |none=>none
    else match strip (ev env s) with
     | (S,p)=>match strip (ev env x) with
      |(X,q)=>match Sb T m t t' S X with
       |some (A,m',o)=>some (A,m',cat p (cat q o))
       |none=>none
   |_=>none
  |_=>none
 |_=>none
section sound
variable {P:Program}{T:Tab}{w:World}{F:Nat->Prop}{σ:Pls}{m:Mem}
theorem Q94 (hT:Qb P T)(hm:Q3 m σ F w){t t' ty:TypeId}{s x:AV}{S X:Value}{A:AV}{m':Mem}{obs:List Prop}(hs:Vc w F σ s S)(hx:Vc w F σ x X)
  (h:Sb T m t t' s x=some (A,m',obs)) (hob:∀p∈obs,p) :
  ∃u w' σ',(Builtin.append_ #[t,t'] ty #[S,X]).run P w=.ok u w'/\Vc w' F σ' A u/\Q3 m' σ' F w'/\Step σ F w σ' F w'/\SLe σ σ':=by
 unfold Sb at h
 split at h<;>try (cases h;done)
 rename_i e sz he
 split at h<;>try (cases h;done)
 rename_i te hte
 split at h<;>try (cases h;done)
 rename_i tn htn
 split at h<;>try (cases h;done)
 rename_i kn hkn
 split at h<;>try (cases h;done)
 split at h<;>try (cases h;done)
 rename_i kq k
 cases hb0:Nat.beq te.bytes 0 with
 |true=>rw[hb0]at h;cases h
 |false =>
 rw[hb0]at h
 simp only[cond_false,Qgz,Qh6]at h
 obtain⟨rfl,rfl,rfl⟩:=h
 have h0:0<k:=hob _ (List.mem_cons_self ..)
 have hcap:k.toNat*te.bytes<=140737488355328:=hob (k.toNat*te.bytes<=140737488355328) (by simp)
 cases hs with|d hs=>cases hs with
 |nils =>
 cases hx with|d hx=>cases hx with
 |int =>
 obtain⟨hu,hrs,te',hte',htsz⟩:=Gl hT he
 have hsz:=Aw hT he
 obtain⟨i,z,hi,his,hib,hz,hzs,hzsz⟩:=Yj (hT _ _ hte)
 have hsize:i.size=sz:=by
  obtain⟨i',z',hi',his',_⟩:=Yj hte'
  rw[hi]at hi'
  injection hi' with hi'
  subst hi'
  rw[his',htsz]
 have hnu:P.underlying t'=some (.int kn):=Nz (by
  have:=hT _ _ htn
  unfold Zo at this
  simp only[Qh5]at this
  rw[hkn]at this
  exact this.1.2)
 obtain⟨n,hn⟩:∃n:Nat,k=n:=⟨k.toNat,Om⟩
 subst hn
 simp only[Int.toNat_natCast]at hcap⊢
 have hn0:0<n:=by omega
 have hbpos:0<te.bytes:=by have:=Qhv hb0;omega
 have hbig:n<=140737488355328:=Qhx (Nat.le_mul_of_pos_right n hbpos) hcap
 have hrun:=Lib.run_append_grow_zeros w t t' ty e i z kq kn hu hnu hi hz none 0 0 [] (run_firstCells_none ..) n hn0 (by rw[hsize];exact hsz) Om Om (by rw[hib];omega) (by rw[Qh9,hib];exact growslice_fits Om hcap)
 rw[Qh9]at hrun
 have hG1:=grownCap_ge w n 0 e
 have hG2:=grownCap_le_maxLen w n 0 e (by unfold maxLen;omega)
 generalize grownCap w n 0 e=G at hrun hG1 hG2
 have hz0:Y6 w F σ (up te.zero) z.cells.toList:=.zero hzs
 have hzl:z.cells.size=sz:=by
  obtain⟨i',z',hi',his',_⟩:=Yj hte'
  rw[hzsz,<-his,hsize]
 have hzat:∀i j,i<n->j<sz->(Builtin.zeroCells z.cells n)[i*sz+j]?=z.cells[j]?:=fun i j hi hj=>by
  have h1:=Lp hi hj
  simp only[Builtin.zeroCells,hzl]
  rw[Array.getElem?_map,Array.getElem?_range,if_pos h1]
  have h2:(i*sz+j) % sz=j:=by rw[Nat.mul_comm,Nat.mul_add_mod,Nat.mod_eq_of_lt hj]
  simp only[Option.map_some,h2]
  have h3:j<z.cells.size:=by omega
  simp[h3]
 obtain⟨σ',g1,g2,g3,g4⟩:=M7 (w':=w.drew.alloc (.cells (([]:List Value).toArray++Builtin.zeroCells z.cells n++Builtin.zeroCells z.cells (G-n)) e)) (b:=w.heap.size) (tot:=G) (us:=((([]:List Value).toArray++Builtin.zeroCells z.cells n++Builtin.zeroCells z.cells (G-n))).toList) (e:=e) (sz:=sz) (n:=n) (f:=fun _=>up te.zero) hm (Qgx _) (by simp) (fun b hb=>heap_alloc_old w.drew _ b hb) rfl rfl rfl (Nat.le_succ _)
  (by rw[Qi2];exact heap_alloc_new w.drew _)
  (by
   simp only[Qhg,Array.size_append,size_zeroCells,hzl,List.size_toArray,Qig,Qh9,<-Nat.add_mul]
   congr 1;omega) hG1 hG2
  ⟨fun i hi=>by rw [← hz0.1,Qhg,hzl],by
   simp only[Qhg,Array.size_append,size_zeroCells,hzl,List.size_toArray,Qig,Qh9]
   omega,fun i j A hi hA=>by
   have hj:j<sz:=by
    have:=(Qh7.1 hA).1
    rw[<-hz0.1,Qhg,hzl]at this
    exact this
   have h1:=Lp hi hj
   have hu:z.cells.toList[j]?=some (z.cells[j]'Om):=by simp[show j<z.cells.size by omega]
   obtain⟨q1,q2⟩:=hz0.2 j A _ hA hu
   refine⟨_,?_,q1,q2⟩
   rw[Qh2,Array.getElem?_append_left (by simp[size_zeroCells,hzl];omega)]
   have:(([]:List Value).toArray++Builtin.zeroCells z.cells n)=Builtin.zeroCells z.cells n:=by simp
   rw[this,hzat i j hi hj]
   simp[show j<z.cells.size by omega]⟩
 exact⟨_,_,σ',hrun,g1,g2,g3,g4⟩
theorem Is (hm:Q3 m σ F w){t:TypeId}{n:Nat}{xs:List D}{us:List Value}(hl:us.length=n)(hx:xs.length=n)(hmx:n<=maxLen)
  (h:∀(j:Nat) x u,xs[j]?=some x->us[j]?=some u->Rd w F x u/\u.oneCell'=true) :
  ∃σ',Vc (w.alloc (.cells us.toArray t)) F σ' (.ptr m.new 0 0 0) (.pointer (some ⟨w.heap.size,0,none⟩))/\Q3 (m.add (.vec t 1 0 n fun j=>[.d (xs.getD j .nilp)])) σ' F (w.alloc (.cells us.toArray t))/\Step σ F w σ' F (w.alloc (.cells us.toArray t))/\SLe σ σ':=by
 let pl:Pl:=⟨0,1,some (w.heap.size,n)⟩
 have hn:=Ux hm
 have hs:=SLe.upd_new (σ:=σ) (r:=m.new) (some pl) hn
 have hkF:∀b,F b->(w.alloc (.cells us.toArray t)).heap[b]?=w.heap[b]?:=fun b hb=>heap_alloc_old w _ b (hm.fl b hb)
 have hB:Jx (w.alloc (.cells us.toArray t)) F (upd σ m.new (some pl)) (.vec t 1 0 n fun j=>[.d (xs.getD j .nilp)]) pl :=
  ⟨rfl,rfl,fun h=>by simp [pl] at h,fun i hi=>rfl,fun b1 t1 h1=>by
   simp only[pl,Qgz,Qh6]at h1
   obtain⟨rfl,rfl⟩:=h1
   refine⟨Qgx _,hmx,us,heap_alloc_new w _,Om,fun i j A hi hA=>?_⟩
   have hxi:xs[i]?=some (xs.getD i .nilp):=by rw[Qha,Qgy Om];rfl
   have hui:us[i]?=some (us[i]'Om):=Qgy Om
   match j,hA with
   |0,hA =>
    simp only[List.getElem?_cons_zero,Qgz]at hA
    subst hA
    obtain⟨g1,g2⟩:=h i _ _ hxi hui
    exact⟨us[i]'Om,by rw[show i*1+0=i by omega];exact hui,.d (g1.mono (fun _ h=>h) hkF),g2⟩
   |j+1,hA=>simp at hA⟩
 obtain⟨h1,h2⟩:=Ur (w':=w.alloc (.cells us.toArray t)) hm (by rw[size_alloc];omega) (fun b hb=>heap_alloc_old w _ b hb) hB (fun b t' h=>by
  simp only[pl,Qgz,Qh6]at h
  obtain⟨rfl,_⟩:=h
  exact⟨Qgx _,by rw[size_alloc];omega⟩)
 refine⟨_,.ptr (J3 σ m.new (some pl)) fun p hp=>?_,h1,C6 (fun b t' h=>?_),h2⟩
 .injection hp with hp
  subst hp
  exact⟨Qgx _,fun _=>⟨w.heap.size,n,rfl,by simp⟩⟩
 .simp only[pl,Qgz,Qh6]at h
  omega
theorem Q6a (hm:Q3 m σ F w){t:TypeId}{n sz:Nat}{xs:List D}{us:List Value}(hl:us.length=n*sz)(hx:xs.length=n*sz)(hmx:n<=maxLen)(hp:∀i j,i<n->j<sz->xs[i*sz+j]?=xs[j]?)
  (h:∀(j:Nat) x u,xs[j]?=some x->us[j]?=some u->Rd w F x u/\u.oneCell'=true) :
  ∃σ',Vc (w.alloc (.cells us.toArray t)) F σ' (.ptr m.new 0 0 0) (.pointer (some ⟨w.heap.size,0,none⟩))/\Q3 (m.add (.vec t sz 0 n fun _=>up (xs.take sz))) σ' F (w.alloc (.cells us.toArray t))/\Step σ F w σ' F (w.alloc (.cells us.toArray t))/\SLe σ σ':=by
 let pl:Pl:=⟨0,sz,some (w.heap.size,n)⟩
 have hn:=Ux hm
 have hs:=SLe.upd_new (σ:=σ) (r:=m.new) (some pl) hn
 have hkF:∀b,F b->(w.alloc (.cells us.toArray t)).heap[b]?=w.heap[b]?:=fun b hb=>heap_alloc_old w _ b (hm.fl b hb)
 have hrl:∀i,i<n->(up (xs.take sz)).length=sz:=fun i hi=>by
  have:1*sz<=n*sz:=Nat.mul_le_mul_right sz Om
  rw[Zb,Qhb,Qhr]
  omega
 have hB:Jx (w.alloc (.cells us.toArray t)) F (upd σ m.new (some pl)) (.vec t sz 0 n fun _=>up (xs.take sz)) pl :=
  ⟨rfl,rfl,fun h=>by simp [pl] at h,hrl,fun b1 t1 h1=>by
   simp only[pl,Qgz,Qh6]at h1
   obtain⟨rfl,rfl⟩:=h1
   refine⟨Qgx _,hmx,us,heap_alloc_new w _,Om,fun i j A hi hA=>?_⟩
   have hj:j<sz:=by
    have:=(Qh7.1 hA).1
    rw[hrl i hi]at this
    exact this
   have hij:i*sz+j<n*sz:=Lp hi hj
   obtain⟨x,hx1,rfl⟩:=Ue hA
   rw[List.getElem?_take_of_lt hj]at hx1
   have hxi:xs[i*sz+j]?=some x:=by rw[hp i j hi hj];exact hx1
   have hui:us[i*sz+j]?=some (us[i*sz+j]'Om):=Qgy Om
   obtain⟨g1,g2⟩:=h _ _ _ hxi hui
   exact⟨_,hui,.d (g1.mono (fun _ h=>h) hkF),g2⟩⟩
 obtain⟨h1,h2⟩:=Ur (w':=w.alloc (.cells us.toArray t)) hm (by rw[size_alloc];omega) (fun b hb=>heap_alloc_old w _ b hb) hB (fun b t' h=>by
  simp only[pl,Qgz,Qh6]at h
  obtain⟨rfl,_⟩:=h
  exact⟨Qgx _,by rw[size_alloc];omega⟩)
 refine⟨_,.ptr (J3 σ m.new (some pl)) fun p hp=>?_,h1,C6 (fun b t' h=>?_),h2⟩
 .injection hp with hp
  subst hp
  exact⟨Qgx _,fun _=>⟨w.heap.size,n,rfl,by simp⟩⟩
 .simp only[pl,Qgz,Qh6]at h
  omega
theorem Q65 (hT:Qb P T) (hm:Q3 m σ F w) {t:TypeId} {x y:AV} {X V:Value} {m':Mem} {p:List Prop} (hx:Vc w F σ x X) (hy:Vc w F σ y V)
  (h:Cw T m t x y=some (m',p)) (hp:∀q∈p,q):∃w' σ',(Instr.storeAt t X V).run P w=.ok () w'/\Q3 m' σ' F w'/\Step σ F w σ' F w'/\SLe σ σ':=by
 unfold Cw at h
 split at h<;>try (cases h;done)
 rename_i n e he
 obtain⟨hu,hs,ti,hti,ht,hsize,hagg⟩:=R9 hT he
 split at h<;>try (cases h;done)
 rename_i r g i off
 split at h<;>try (cases h;done)
 rename_i e' sz g' n' f hB
 split at h<;>try (cases h;done)
 rename_i xs
 cases hz:(Nat.beq i 0&&(Nat.beq off 0&&Nat.beq sz 1)) with
 |false=>rw[hz]at h;cases h
 | true =>
  rw[hz]at h
  simp only[cond_true,Qgz,Qh6]at h
  obtain⟨rfl,rfl⟩:=h
  simp only[Qh5]at hz
  have e1:=Qh1 hz.1
  have e2:=Qh1 hz.2.1
  have e3:=Qh1 hz.2.2
  subst e1;subst e2;subst e3
  have hg:g'=g:=hp _ (by simp)
  have hn:n'=n:=hp _ (by simp)
  have hxl:xs.length=n:=hp _ (by simp)
  have hone:∀x,x∈xs->x.one=true:=hp _ (by simp)
  subst hg;subst hn
  obtain⟨pl,hr,hok,_,hat⟩:=W7 hm hx (Mem.get_at hB)
  obtain⟨h0,hsz,hn0,hrow,hl⟩:=hok
  obtain⟨b,tot,hl',hX⟩:=hat h0
  obtain⟨hnt,htm,us,hheap,hlen,hvc⟩:=hl b tot hl'
  subst hX
  cases hy with
  | d hy=>cases hy with
   | @agg _ vs hvl hrd =>
    have hv:∀v∈vs,v.oneCell'=true:=fun v hvm=>by
     obtain⟨j,hj,rfl⟩:=List.getElem_of_mem hvm
     have hj':j<xs.length:=by omega
     exact(hrd j _ _ (Qgy hj') (Qgy hj)).one_ok (hone _ (List.getElem_mem hj'))
    have hfit:0+vs.length<=us.length:=by omega
    have hr1:(Instr.storeAt t (.pointer (some ⟨b,0*pl.sz+0,none⟩)) (.agg vs.toArray)).run P w=.ok () (w.setRow b (us.take 0++vs++us.drop (0+vs.length)).toArray):=by
     have:=run_storeCells_at P b 0 e' vs 0 us.toArray w hheap (by simpa using hfit) hv
     simp only[Nat.add_zero]at this
     have hc:(Value.agg vs.toArray).cells=vs.toArray:=rfl
     simp[Instr.storeAt,Instr.sureAddr,storeVar,hc,run_sizeOf ht,hvl,hxl,hsize]
     have h3:vs.length=n':=by omega
     simp only[h3]at this⊢
     simpa using this
    have hstep:=Ar (F:=F) (w:=w) hr hl' (us.take 0++vs++us.drop (0+vs.length)).toArray
    have hsl:=SLe.upd_old hr (QLe.refl (some pl))
    have hkF:∀b',F b'->(w.setRow b (us.take 0++vs++us.drop (0+vs.length)).toArray).heap[b']?=w.heap[b']?:=fun b' hb'=>setRow_other w b b' _ (fun e=>(hm.nf r pl b tot hr hl').1 (e▸hb'))
    obtain⟨h1,h2⟩:=Ge (w':=w.setRow b (us.take 0++vs++us.drop (0+vs.length)).toArray) (pl':=pl) (B':=.vec e' 1 g' n' fun j=>[.d (xs.getD j .nilp)]) hm hr (by rw[size_setRow];exact Qgx _) (fun b' _ ht=>setRow_other w b b' _ (fun e=>ht tot (by rw[hl',e]))) ⟨Qgx _,fun _=>rfl⟩
     ⟨h0,hsz,hn0,fun k hk=>rfl,fun b1 tot1 hl1=>by
       rw[hl']at hl1
       obtain⟨rfl,rfl⟩:=Prod.mk.inj (Option.some.inj hl1)
       refine⟨hnt,htm,_,setRow_heap w b us.toArray _ e' (0,0) hheap,by rw[Ee hfit];exact hlen,fun k j A hk hA=>?_⟩
       rw[Q1w hfit]
       match j,hA with
       |0,hA =>
        simp only[List.getElem?_cons_zero,Qgz]at hA
        subst hA
        have hxi:xs[k]?=some (xs.getD k .nilp):=by rw[Qha,Qgy Om];rfl
        have hui:vs[k]?=some (vs[k]'Om):=Qgy Om
        have hk2:=hrd k _ _ hxi hui
        refine⟨vs[k]'Om,by rw[if_pos Om,show k*1+0-0=k by omega];exact hui,.d (hk2.mono (fun _ h=>h) hkF),hk2.one_ok (hone _ (Qie hxi))⟩
       |j+1,hA=>simp at hA⟩
     (fun b' t' h=>⟨by rw[size_setRow];exact(hm.nf r pl b' t' hr h).2,.inl ⟨t',h⟩⟩)
    exact⟨_,_,hr1,h1,hstep,h2⟩
theorem Q0e (hT:Qb P T)(hm:Q3 m σ F w){env:Env}{a:Act}(he:Ql env w F σ a.tmps){o:Oper}{A:AV}{m':Mem}{l:List Prop}
  (h:Gq T env m o.op=some (A,m',l)) (hob:∀p∈l,p):Q59 P F σ w a.eval o A m':=by
 have st:∀x,(∀p∈(strip (ev env x)).2,p)->Vc w F σ (strip (ev env x)).1 (a.eval x):=fun x hx=>X7 (Z5 he x) hx
 unfold Gq at h
 split at h<;>try (cases h;done)
 .rename_i t x hop
  split at h<;>try (cases h;done)
  rename_i B p eB
  split at h
  .rename_i n e he
   split at h<;>try (cases h;done)
   rename_i xs
   simp only[Qgz,Qh6]at h
   obtain⟨rfl,rfl,rfl⟩:=h
   obtain⟨h1,h2⟩:=Ji hob
   have hx:=st x (by rw[eB];exact h1)
   rw[eB]at hx
   have k1:xs.length=n:=h2 _ (by simp)
   have k2:n<=maxLen:=h2 _ (by simp)
   have k3:∀x,x∈xs->x.one=true:=h2 _ (by simp)
   obtain⟨X0,hX0⟩:∃X0,a.eval x=X0:=⟨_,rfl⟩
   rw[hX0]at hx
   cases hx with
   | d hx=>cases hx with
    |@agg _ us hvl hrd =>
     obtain⟨σ',g1,g2,g3,g4⟩:=Is (t:=t) hm (n:=n) Om k1 k2 fun j x u hx hu=>⟨hrd j x u hx hu,(hrd j x u hx hu).one_ok (k3 x (Qie hx))⟩
     have hc:(Value.agg us.toArray).cells=us.toArray:=rfl
     exact⟨.value (.pointer (some ⟨w.heap.size,0,none⟩)),_,_,σ',by simp[execOp,hop,Instr.box,newVar,newRow,hX0,hc],.inl rfl,g1,g2,g3,g4⟩
  split at h<;>try (cases h;done)
  rename_i cs q hcs
  simp only[Qgz,Qh6]at h
  obtain⟨rfl,rfl,rfl⟩:=h
  obtain⟨h1,h2⟩:=Ji hob
  have hx:=st x (by rw[eB];exact h1)
  rw[eB]at hx
  obtain⟨us,e1,e2,e3⟩:=Pe hm hx hcs h2
  obtain⟨σ',g1,g2,g3,g4⟩:=O2 (t:=t) hm ⟨e2,e3⟩
  exact⟨.value (.pointer (some ⟨w.heap.size,0,none⟩)),_,_,σ',by simp[execOp,hop,Instr.box,newVar,newRow,e1],.inl rfl,g1,g2,g3,g4⟩
 .rename_i t hop
  split at h<;>try (cases h;done)
  rename_i ti hti
  split at h
  .rename_i n e he
   simp only[Qgz,Qh6]at h
   obtain⟨rfl,rfl,rfl⟩:=h
   have hmx:n<=maxLen:=hob _ (by simp)
   obtain⟨_,_,ti',hti',_,hsize,_⟩:=R9 hT he
   rw[hti]at hti'
   cases hti'
   obtain⟨z,hz,hzs,hzn⟩:=Ka (hT _ _ hti) w
   obtain⟨k1,k2⟩:=Ls (w:=w) (F:=F) hzs
   obtain⟨σ',g1,g2,g3,g4⟩:=Is (t:=t) hm (n:=n) (us:=z.cells.toList) (xs:=ti.zero) (by simp;omega) (by rw[<-k1];simp;omega) hmx k2
   rw[Qi2]at g1 g2 g3
   exact⟨.value (.pointer (some ⟨w.heap.size,0,none⟩)),_,w.alloc (.cells z.cells t),σ',by simp[execOp,hop,Instr.alloc,newVar,newRow,hz],.inl rfl,g1,g2,g3,g4⟩
  split at h
  .rename_i n sz he
   simp only[Qgz,Qh6]at h
   obtain⟨rfl,rfl,rfl⟩:=h
   have hmx:n<=maxLen:=hob _ (by simp)
   have hper:∀i j,i<n->j<sz->ti.zero[i*sz+j]?=ti.zero[j]?:=hob _ (by simp)
   obtain⟨_,_,_,ti',hti',_,hsize⟩:=Iy hT he
   rw[hti]at hti'
   cases hti'
   obtain⟨z,hz,hzs,hzn⟩:=Ka (hT _ _ hti) w
   obtain⟨k1,k2⟩:=Ls (w:=w) (F:=F) hzs
   obtain⟨σ',g1,g2,g3,g4⟩:=Q6a (t:=t) hm (n:=n) (sz:=sz) (us:=z.cells.toList) (xs:=ti.zero) (by simp;omega) (by rw[<-k1];simp;omega) hmx hper k2
   rw[Qi2]at g1 g2 g3
   exact⟨.value (.pointer (some ⟨w.heap.size,0,none⟩)),_,w.alloc (.cells z.cells t),σ',by simp[execOp,hop,Instr.alloc,newVar,newRow,hz],.inl rfl,g1,g2,g3,g4⟩
  simp only[Qgz,Qh6]at h
  obtain⟨rfl,rfl,rfl⟩:=h
  obtain⟨z,hz,hzs,_⟩:=Ka (hT _ _ hti) w
  obtain⟨σ',g1,g2,g3,g4⟩:=O2 (t:=t) hm (.zero hzs)
  rw[Qi2]at g1 g2 g3
  exact⟨.value (.pointer (some ⟨w.heap.size,0,none⟩)),_,w.alloc (.cells z.cells t),σ',by simp[execOp,hop,Instr.alloc,newVar,newRow,hz],.inl rfl,g1,g2,g3,g4⟩
 .rename_i t x v hop
  split at h<;>try (cases h;done)
  rename_i X p eX
  split at h<;>try (cases h;done)
  rename_i V q eV
  split at h
  .rename_i m1 o1 hst
   simp only[Qgz,Qh6]at h
   obtain⟨rfl,rfl,rfl⟩:=h
   obtain⟨h1,h2⟩:=Ji hob
   obtain⟨h2,h3⟩:=Ji h2
   have hx:=st x (by rw[eX];exact h1)
   rw[eX]at hx
   have hv:=st v (by rw[eV];exact h2)
   rw[eV]at hv
   obtain⟨w',σ',g0,g1,g2,g3⟩:=Q65 hT hm hx hv hst h3
   exact⟨.skip,undef,w',σ',by simp[execOp,hop,g0],.inr ⟨rfl,rfl⟩,.junk,g1,g2,g3⟩
  split at h<;>try (cases h;done)
  rename_i cs q' hcs
  split at h<;>try (cases h;done)
  rename_i m1 o1 hst
  simp only[Qgz,Qh6]at h
  obtain⟨rfl,rfl,rfl⟩:=h
  obtain⟨h1,h2⟩:=Ji hob
  obtain⟨h2,h3⟩:=Ji h2
  obtain⟨h3,h4⟩:=Ji h3
  have hx:=st x (by rw[eX];exact h1)
  rw[eX]at hx
  have hv:=st v (by rw[eV];exact h2)
  rw[eV]at hv
  obtain⟨us,e1,e2,e3⟩:=Pe hm hv hcs h3
  obtain⟨w',σ',g0,g1,g2,g3⟩:=Q93 hT hm hx e1 ⟨e2,e3⟩ hst h4
  exact⟨.skip,undef,w',σ',by simp[execOp,hop,g0],.inr ⟨rfl,rfl⟩,.junk,g1,g2,g3⟩
 .rename_i t n parts hop
  split at h
  rename_i l0 p0 el
  split at h<;>try (cases h;done)
  rename_i A1 m1 q1 hbs
  simp only[Qgz,Qh6]at h
  obtain⟨rfl,rfl,rfl⟩:=h
  obtain⟨hp1,hp2⟩:=Ji hob
  obtain⟨hk1,hk2⟩:=Rk he parts.toList
  obtain⟨u,w',σ',g0,g1,g2,g3,g4,_⟩:=Tn (a:=a) (parts:=parts) hT hm (hk1.trans (by have:=Ba (Ve env parts.toList);rw[el]at this;exact this.symm)) (fun j B u hB hu=>by
   obtain⟨A0,e1,e2⟩:=Bb (Ve env parts.toList) (by rw[el];exact hp1) j B (by rw[el];exact hB)
   exact e2 _ (hk2 j A0 u e1 hu)) hbs hp2
  exact⟨.value u,u,w',σ',by simp[execOp,hop,g0],.inl rfl,g1,g2,g3,g4⟩
 .rename_i t parts hop
  split at h
  rename_i l0 p0 el
  split at h<;>try (cases h;done)
  rename_i A1 q1 hbs
  simp only[Qgz,Qh6]at h
  obtain⟨rfl,rfl,rfl⟩:=h
  obtain⟨hp1,hp2⟩:=Ji hob
  obtain⟨hk1,hk2⟩:=Rk he parts.toList
  obtain⟨u,g0,g1⟩:=Q0c (a:=a) (parts:=parts) hT hm (hk1.trans (by have:=Ba (Ve env parts.toList);rw[el]at this;exact this.symm)) (fun j B u hB hu=>by
   obtain⟨A0,e1,e2⟩:=Bb (Ve env parts.toList) (by rw[el];exact hp1) j B (by rw[el];exact hB)
   exact e2 _ (hk2 j A0 u e1 hu)) hbs hp2
  exact⟨.value u,u,w,σ,by simp[execOp,hop,g0],.inl rfl,g1,hm,Step.refl σ F w,SLe.refl σ⟩
 .rename_i t hop
  split at h<;>try (cases h;done)
  rename_i A1 m1 hmk
  simp only[Qgz,Qh6]at h
  obtain⟨rfl,rfl,rfl⟩:=h
  obtain⟨u,w',σ',g0,g1,g2,g3,g4⟩:=Q8w hT hm hmk
  exact⟨.value u,u,w',σ',by simp[execOp,hop,g0],.inl rfl,g1,g2,g3,g4⟩
 .rename_i t x k v hop
  split at h<;>try (cases h;done)
  rename_i X p eX
  split at h<;>try (cases h;done)
  rename_i K q eK
  split at h<;>try (cases h;done)
  rename_i V o eV
  split at h<;>try (cases h;done)
  rename_i m1 hmu
  simp only[Qgz,Qh6]at h
  obtain⟨rfl,rfl,rfl⟩:=h
  obtain⟨h1,h2⟩:=Ji hob
  obtain⟨h2,h3⟩:=Ji h2
  have hx:=st x (by rw[eX];exact h1)
  rw[eX]at hx
  have hk:=st k (by rw[eK];exact h2)
  rw[eK]at hk
  have hv:=st v (by rw[eV];exact h3)
  rw[eV]at hv
  obtain⟨w',σ',g0,g1,g2,g3⟩:=Q0h hT hm hx hk hv hmu
  exact⟨.skip,undef,w',σ',by simp[execOp,hop,g0],.inr ⟨rfl,rfl⟩,.junk,g1,g2,g3⟩
 .rename_i t x k v hop
  split at h<;>try (cases h;done)
  rename_i X p eX
  split at h<;>try (cases h;done)
  rename_i K q eK
  split at h<;>try (cases h;done)
  rename_i V o eV
  split at h<;>try (cases h;done)
  rename_i m1 hmu
  simp only[Qgz,Qh6]at h
  obtain⟨rfl,rfl,rfl⟩:=h
  obtain⟨h1,h2⟩:=Ji hob
  obtain⟨h2,h3⟩:=Ji h2
  have hx:=st x (by rw[eX];exact h1)
  rw[eX]at hx
  have hk:=st k (by rw[eK];exact h2)
  rw[eK]at hk
  have hv:=st v (by rw[eV];exact h3)
  rw[eV]at hv
  obtain⟨w',σ',g0,g1,g2,g3⟩:=Q0h hT hm hx hk hv hmu
  exact⟨.skip,undef,w',σ',by simp[execOp,hop,g0],.inr ⟨rfl,rfl⟩,.junk,g1,g2,g3⟩
 .rename_i args argTypes hop
  split at h<;>try (cases h;done)
  rename_i s x ea
  split at h<;>try (cases h;done)
  rename_i t t' et
  cases htt:Nat.beq t t' with
  |false =>
   rw[htt]at h
   simp only[cond_false]at h
   split at h<;>try (cases h;done)
   rename_i A1 m1 o1 hap
   simp only[Qgz,Qh6]at h
   obtain⟨rfl,rfl,rfl⟩:=h
   obtain⟨h1,h2⟩:=Ji hob
   obtain⟨h2,h3⟩:=Ji h2
   have hs:=st s h1
   have hx:=st x h2
   have ea:args=#[s,x]:=by apply Array.ext';simpa using ea
   have et:argTypes=#[t,t']:=by apply Array.ext';simpa using et
   subst ea;subst et
   obtain⟨u,w',σ',g0,g1,g2,g3,g4⟩:=Q94 (ty:=o.type) hT hm hs hx hap h3
   exact⟨.value u,u,w',σ',by simp[execOp,hop,resolve,invoke,builtin,g0],.inl rfl,g1,g2,g3,g4⟩
  |true =>
   rw[htt]at h
   simp only[cond_true]at h
   have:=Qh1 htt
   subst this
   split at h<;>try (cases h;done)
   rename_i A1 m1 o1 hap
   simp only[Qgz,Qh6]at h
   obtain⟨rfl,rfl,rfl⟩:=h
   obtain⟨h1,h2⟩:=Ji hob
   obtain⟨h2,h3⟩:=Ji h2
   have hs:=st s h1
   have hx:=st x h2
   have ea:args=#[s,x]:=by apply Array.ext';simpa using ea
   have et:argTypes=#[t,t]:=by apply Array.ext';simpa using et
   subst ea;subst et
   obtain⟨u,w',σ',g0,g1,g2,g3,g4⟩:=Q8f (ty:=o.type) hT hm hs hx hap h3
   exact⟨.value u,u,w',σ',by simp[execOp,hop,resolve,invoke,builtin,g0],.inl rfl,g1,g2,g3,g4⟩
end sound
def Fen (ro:Option Nat):Fence:={Fence.wide with round:=ro}
variable {ro:Option Nat}{n:Nat}{P:Program}{ops:Array Oper}{C:World->Prop}{md:Region.Mode}
theorem Y7 {f:FuncId}{args:Array Value}{w:World}{R:Ending->World->Prop}:CallsIn (Fen ro) n P f args w R↔Calls P f args w R :=
 callsIn_wide (n:=n)
theorem We:(Fen ro).depth.isSome=true->1<=n:=fun h=>by cases h
theorem V5 {o:Oper}{a:Act}{w:World}{next:Act->World->Prop}{Q:Exit->Act->World->Prop}(hd:∀c,o.op≠.defer c)
  (h:o.uponIn (Fen ro) n P a next Q ((execOp a.eval o).run P w)):o.wpIn (Fen ro) n P a w next Q :=
 ⟨fun _ _=>trivial,by rw[Oper.semAt_eq _ _ _ hd];exact h⟩
end Go.Ab
