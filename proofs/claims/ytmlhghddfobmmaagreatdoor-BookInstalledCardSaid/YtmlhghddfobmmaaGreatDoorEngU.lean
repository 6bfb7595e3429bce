import Derived.Test.YtmlhghddfobmmaaGreatDoorEngK
import Derived.Deep.Quiet
import Derived.Lib.AppendZerosOnto
import Derived.Sort.QuietThIn
import Derived.RangeFuncIn
import Derived.RangeFuncRecord
import Derived.TacticsIn
namespace Go.Ab
set_option linter.unusedSimpArgs false
set_option linter.unusedVariables false
def zeroAV (te:TI):AV :=
 match te.k.agg with
 |true=>.d (.agg te.zero)
 |false=>match te.zero with
  |[z]=>.d z
  |_=>.junk
def evMakeMap (T:Tab)(m:Mem)(t:TypeId):Option (AV × Mem) :=
 match mapOf T t with
 |none=>none
 |some (sh,te)=>some (.mp m.new,m.add (.map sh (fun _=>false) fun _=>zeroAV te))
def evMapUpdate (T:Tab) (m:Mem) (t:TypeId) (A K V:AV):Option Mem :=
 match mapOf T t with
 |none=>none
 | some (sh,_)=>match A with
  | .mp r=>match m.get r with
   |some (.map sh' has val)=>match keyOf sh K with
    |some k=>bif eqSh sh sh' then some (m.put r (some (.map sh' (fun x=>decide (x=k)||has x) fun x=>bif decide (x=k) then V else val x))) else none
    |none=>none
   |_=>none
  |_=>none
section
variable {P:Program}{T:Tab}{w:World}{F:Nat->Prop}{σ:Pls}{m:Mem}
theorem evMakeMap_ok (hT:TabOk P T)(hm:MemOk m σ F w){t:TypeId}{A:AV}{m':Mem}(h:evMakeMap T m t=some (A,m')) :
  ∃u w' σ',(Instr.makeMap t none).run P w=.ok u w'/\Vc w' F σ' A u/\MemOk m' σ' F w'/\Step σ F w σ' F w'/\SLe σ σ':=by
 unfold evMakeMap at h
 split at h<;>try (cases h;done)
 rename_i sh te hmt
 simp only[Option.some.injEq,Prod.mk.injEq]at h
 obtain⟨rfl,rfl⟩:=h
 let pl:Pl:=⟨0,0,some (w.heap.size,1)⟩
 have hB:BlkOk (w.alloc (.map #[] 0)) F (upd σ m.new (some pl)) (.map sh (fun _=>false) fun _=>zeroAV te) pl :=
  ⟨rfl,w.heap.size,rfl,#[],0,[],(MapKept.heap_alloc w _).1,rfl,List.nodup_nil,fun i k e h=>by simp at h,fun k _ h=>(by cases h),by simp,by simp⟩
 obtain⟨g1,g2⟩:=fresh_ok hm (w':=w.alloc (.map #[] 0)) (pl:=pl) (by rw[size_alloc];omega) (fun b hb=>heap_alloc_old w _ b hb) hB
  (fun b t h=>by cases h;rw[size_alloc];exact⟨Nat.le_refl _,Om⟩)
 exact⟨.map (some w.heap.size),_,_,by simp[Instr.makeMap,newObj,Sem.run],.mp (upd_self σ m.new (some pl)) (fun p hp _=>by injection hp with hp;subst hp;exact⟨_,_,rfl,rfl⟩),g1,
  step_alloc (fun b t h=>by cases h;exact Nat.le_refl _),g2⟩
theorem stp_push {es:Array MapEntry}{clock:Nat}{key val:Value}(h:Stp es clock):Stp (es.push {key,val,born:=clock}) (clock+1):=by
 obtain⟨h1,h2⟩:=h
 refine⟨fun x hx=>?_,?_⟩
 .simp only[Array.toList_push,List.mem_append,List.mem_singleton]at hx
  rcases hx with hx|rfl
  .exact Nat.lt_succ_of_lt (h1 x hx)
  .exact Nat.lt_succ_self _
 .simp only[Array.toList_push,List.map_append,List.map_cons,List.map_nil]
  refine List.nodup_append.2 ⟨h2,by simp,fun a ha b hb=>?_⟩
  simp only[List.mem_singleton]at hb
  subst hb
  obtain⟨x,hx,rfl⟩:=List.mem_map.1 ha
  exact Nat.ne_of_lt (h1 x hx)
theorem stp_modify {es:Array MapEntry}{clock i:Nat}{f:MapEntry->MapEntry}(h:Stp es clock)(hf:∀e,(f e).born=e.born):Stp (es.modify i f) clock:=by
 have hb:(es.modify i f).toList.map (·.born)=es.toList.map (·.born):=by
  apply List.ext_getElem?
  intro j
  simp only[List.getElem?_map,Array.getElem?_toList,Array.getElem?_modify]
  by_cases hij:i=j
  .subst hij
   cases he:es[i]? with
   |none=>simp
   |some e=>simp[hf e]
  .simp[hij]
 refine⟨fun x hx=>?_,by rw[hb];exact h.2⟩
 have:x.born∈(es.modify i f).toList.map (·.born):=List.mem_map.2 ⟨x,hx,rfl⟩
 rw[hb]at this
 obtain⟨y,hy,e⟩:=List.mem_map.1 this
 rw[<-e]
 exact h.1 y hy
theorem nodup_snoc {k:List Int}{ks:List (List Int)}(h:ks.Nodup)(hk:k ∉ ks):(ks++[k]).Nodup:=by
 rw[List.nodup_append]
 exact⟨h,by simp,fun a ha b hb e=>by simp at hb;subst hb;subst e;exact hk ha⟩
theorem evMapUpdate_same (hT:TabOk P T)(hm:MemOk m σ F w){t:TypeId}{x y z:AV}{X Y Z:Value}{m':Mem}(hx:Vc w F σ x X)(hy:Vc w F σ y Y)(hz:Vc w F σ z Z)
  (h:evMapUpdate T m t x y z=some m'):∃w',(Instr.mapUpdate t X Y Z).run P w=.ok () w'/\MemOk m' σ F w'/\Step σ F w σ F w':=by
 unfold evMapUpdate at h
 split at h<;>try (cases h;done)
 rename_i sh te hmt
 obtain⟨kt,et,hu,hs,hte⟩:=mapOf_ok hT hmt
 split at h<;>try (cases h;done)
 rename_i r
 split at h<;>try (cases h;done)
 rename_i sh' has val hB
 split at h<;>try (cases h;done)
 rename_i k hkey
 cases hsh:eqSh sh sh' with
 |false=>rw[hsh]at h;cases h
 | true =>
  rw[hsh]at h
  simp only[cond_true,Option.some.injEq]at h
  subst h
  have:=eqSh_eq hsh
  subst this
  obtain⟨hfit,rfl⟩:=keyOf_ok hkey hy
  obtain⟨pl,b,hr,h0,hl,rfl,h1,b',hl',es,clock,ks,g1,g2,g3,g4,g5,gst⟩:=map_row hm hx (Mem.get_at hB)
  rw[hl]at hl'
  obtain⟨rfl,_⟩:=Prod.mk.inj (Option.some.inj hl')
  have hks:KeysAre sh ks es:=⟨g2,fun i k e hi he=>⟨(g4 i k e hi he).1,(g4 i k e hi he).2.1⟩⟩
  have hlt:b<w.heap.size:=(Array.getElem?_eq_some_iff.1 g1).1
  have hF:¬ F b:=(hm.nf r pl b 1 hr hl).1
  have hs0:SLe σ (upd σ r (some pl)):=SLe.upd_old hr (QLe.refl _)
  have fin:∀(es':Array MapEntry) (clock':Nat) (ks':List (List Int)),ks'.length=es'.size->ks'.Nodup ->
    (∀(i:Nat) k' e,ks'[i]?=some k'->es'[i]?=some e->sh.fits k'/\e.key=sh.key k'/\(decide (k'=k)||has k')=true/\Vc w F σ (bif decide (k'=k) then z else val k') e.val) ->
    (∀k',sh.fits k'->(decide (k'=k)||has k')=true->k'∈ks')->Stp es' clock' ->
    (Instr.mapUpdate t (.map (some b)) (sh.key k) Z).run P w=.ok () {w with heap:=w.heap.setIfInBounds b (.map es' clock')} ->
    ∃w',(Instr.mapUpdate t (.map (some b)) (sh.key k) Z).run P w=.ok () w'/\MemOk (m.put r (some (.map sh (fun x=>decide (x=k)||has x) fun x=>bif decide (x=k) then z else val x))) σ F w'/\Step σ F w σ F w':=by
   intro es' clock' ks' e1 e2 e3 e4 est hrun
   obtain⟨s1,s2⟩:=MapKept.heap_set (o':=.map es' clock') g1
   have hsz:({w with heap:=w.heap.setIfInBounds b (.map es' clock')}:World).heap.size=w.heap.size:=by simp
   have hkF:∀b',F b'->({w with heap:=w.heap.setIfInBounds b (.map es' clock')}:World).heap[b']?=w.heap[b']?:=fun b' hb'=>s2 b' (fun e=>hF (by rw[<-e];exact hb'))
   have hB':BlkOk {w with heap:=w.heap.setIfInBounds b (.map es' clock')} F (upd σ r (some pl)) (.map sh (fun x=>decide (x=k)||has x) fun x=>bif decide (x=k) then z else val x) pl :=
    ⟨h0,b,hl,es',clock',ks',s1,e1,e2,fun i k' e hi he=>⟨(e3 i k' e hi he).1,(e3 i k' e hi he).2.1,(e3 i k' e hi he).2.2.1,(e3 i k' e hi he).2.2.2.mono (fun _ h=>h) hkF hs0⟩,e4,est⟩
   obtain⟨q1,q2⟩:=change_ok hm (w':={w with heap:=w.heap.setIfInBounds b (.map es' clock')}) hr (by rw[hsz];exact Nat.le_refl _) (fun b' _ hne=>s2 b' (fun e=>hne 1 (by rw[e];exact hl)))
    ⟨Nat.le_refl _,fun _=>rfl⟩ hB' (fun b' t' h=>by rw[hsz];exact⟨by rw[hl]at h;cases h;exact hlt,.inl ⟨t',h⟩⟩)
   have hσ:upd σ r (some pl)=σ:=funext fun r'=>by
    by_cases e:r'=r
    .subst e;rw[upd_self];exact hr.symm
    .exact upd_other σ _ e
   rw[hσ]at q1
   exact⟨_,hrun,q1,⟨rfl,rfl,rfl,Nat.le_refl _,by rw[hsz];exact Nat.le_refl _,fun b' _ ho=>s2 b' (fun e=>ho ⟨r,pl,1,hr,by rw[e];exact hl⟩),fun _ h=>h,fun _ h=>.inl h,fun _ h=>.inl h⟩⟩
  rcases run_find hs hks hfit with ⟨e1,e2⟩|⟨i,e,e1,e2,e3⟩
  .refine fin (es.push {key:=sh.key k,val:=Z,born:=clock}) (clock+1) (ks++[k]) (by simp[g2]) (nodup_snoc g3 e1) (fun j k' e hj he=>?_) (fun k' hk' hh=>?_) (stp_push gst) ?_
   .rw[List.getElem?_append]at hj
    rw[Array.getElem?_push]at he
    by_cases hjl:j<ks.length
    .rw[if_pos hjl]at hj
     rw[if_neg Om]at he
     obtain⟨q1,q2,q3,q4⟩:=g4 j k' e hj he
     have hne:k'≠k:=fun e=>e1 (by rw[<-e];exact List.mem_of_getElem? hj)
     refine⟨q1,q2,by simp[q3],by simp only[hne,decide_false,cond_false];exact q4⟩
    .rw[if_neg hjl]at hj
     have hj0:j-ks.length=0:=by
      rcases Nat.eq_zero_or_pos (j-ks.length) with h|h
      .exact h
      .rw[List.getElem?_eq_none (by simp;omega)]at hj;cases hj
     rw[hj0]at hj
     simp at hj
     subst hj
     rw[if_pos Om]at he
     simp at he
     subst he
     exact⟨hfit,rfl,by simp,by simpa using hz⟩
   .simp only[Bool.or_eq_true,decide_eq_true_eq]at hh
    rcases hh with rfl|hh
    .simp
    .exact List.mem_append_left _ (g5 k' hk' hh)
   .simp[Instr.mapUpdate,run_underlying hu,MapKept.run_getObj_map g1,run_check hs hfit,e2,MapKept.run_setObj_map _ g1]
  .obtain⟨p1,p2,p3,p4⟩:=g4 i k e e2 e1
   refine fin (es.modify i fun e=>{e with key:=sh.key k,val:=Z}) clock ks (by simp[g2]) g3 (fun j k' e' hj he=>?_) (fun k' hk' hh=>?_) (stp_modify gst fun _=>rfl) ?_
   .rw[Array.getElem?_modify]at he
    by_cases hij:i=j
    .subst hij
     rw[if_pos rfl,e1]at he
     simp at he
     subst he
     rw[e2]at hj
     injection hj with hj
     subst hj
     exact⟨hfit,rfl,by simp,by simpa using hz⟩
    .rw[if_neg hij]at he
     obtain⟨q1,q2,q3,q4⟩:=g4 j k' e' hj he
     have hne:k'≠k:=fun e=>by
      subst e
      have hi:=(List.getElem?_eq_some_iff.1 e2)
      have hj2:=(List.getElem?_eq_some_iff.1 hj)
      exact hij ((List.getElem_inj g3).1 (hi.2.trans hj2.2.symm))
     exact⟨q1,q2,by simp[q3],by simp only[hne,decide_false,cond_false];exact q4⟩
   .simp only[Bool.or_eq_true,decide_eq_true_eq]at hh
    rcases hh with rfl|hh
    .exact List.mem_of_getElem? e2
    .exact g5 k' hk' hh
   .simp[Instr.mapUpdate,run_underlying hu,MapKept.run_getObj_map g1,run_check hs hfit,e3,e1,p2,run_stays hs,MapKept.run_setObj_map _ g1]
theorem evMapUpdate_ok (hT:TabOk P T)(hm:MemOk m σ F w){t:TypeId}{x y z:AV}{X Y Z:Value}{m':Mem}(hx:Vc w F σ x X)(hy:Vc w F σ y Y)(hz:Vc w F σ z Z)
  (h:evMapUpdate T m t x y z=some m'):∃w' σ',(Instr.mapUpdate t X Y Z).run P w=.ok () w'/\MemOk m' σ' F w'/\Step σ F w σ' F w'/\SLe σ σ':=by
 obtain⟨w',h1,h2,h3⟩:=evMapUpdate_same hT hm hx hy hz h
 exact⟨w',σ,h1,h2,h3,SLe.refl σ⟩
end
structure Ob (p K:Prop):Prop where
 o:p
 k:K
structure Br (b:Bool)(x y:Prop):Prop where
 t:b=true->x
 f:b=false->y
structure Ev (p:Prop):Prop where
 o:p
structure Dr (p K:Prop):Prop where
 o:p
 k:K
noncomputable def obs (l:List Prop)(K:Prop):Prop:=List.rec (motive:=fun _=>Prop) K (fun p _ ih=>Ob p (Ev ih)) l
def under (g:Bool):List Prop->List Prop
 |[]=>[]
 |p::r=>(g=true->p)::under g r
theorem obs_ok {K:Prop}:∀{l:List Prop},obs l K->(∀p∈l,p)/\K
 |[],h=>⟨fun p hp=>by simp at hp,h⟩
 |p::r,h=>by
  have h':Ob p (Ev (obs r K)):=h
  refine⟨fun q hq=>?_,(obs_ok h'.k.o).2⟩
  rcases List.mem_cons.1 hq with rfl|hq
  .exact h'.o
  .exact(obs_ok h'.k.o).1 q hq
theorem under_ok {g:Bool}{l:List Prop}(h:∀p∈under g l,p)(hg:g=true):∀p∈l,p:=by
 induction l with
 |nil=>intro p hp;simp at hp
 |cons a r ih =>
  intro p hp
  rcases List.mem_cons.1 hp with rfl|hp
  .exact h (g=true->p) (by simp[under]) hg
  .exact ih (fun q hq=>h q (by simp[under,hq])) p hp
def frcN (n:Nat)(K:Nat->Prop):Prop :=
 match n with
 |0=>K 0|1=>K 1|2=>K 2|3=>K 3|4=>K 4|5=>K 5|6=>K 6|7=>K 7|8=>K 8|9=>K 9|10=>K 10|11=>K 11|12=>K 12
 |n=>K n
def frcR (r:Ref)(K:Ref->Prop):Prop :=
 match r with
 | .loc j=>frcN j fun j=>K (.loc j)
 | .arg j=>frcN j fun j=>K (.arg j)
 | .bad=>K .bad
def frcD (x:D)(K:D->Prop):Prop :=
 match x with
 | .int k n=>K (.int k n)
 | .bool b=>K (.bool b)
 | .str s=>K (.str s)
 | .nilp=>K .nilp
 | .nili=>K .nili
 | .nilf=>K .nilf
 | .nilm=>K .nilm
 | .nils=>K .nils
 | .agg cs=>K (.agg cs)
 | .ifc t x=>K (.ifc t x)
 | .sl sz n f=>K (.sl sz n f)
 | .pt cs off=>K (.pt cs off)
 | .fn f xs ys=>K (.fn f xs ys)
 | .mapd sh has val=>K (.mapd sh has val)
 | .slc sz n f=>K (.slc sz n f)
def frc (A:AV)(K:AV->Prop):Prop :=
 match A with
 | .d x=>frcD x fun x=>K (.d x)
 | .agg cs=>K (.agg cs)
 | .tup cs=>K (.tup cs)
 | .ifc t x=>K (.ifc t x)
 | .fn f xs ys=>K (.fn f xs ys)
 | .ptr r g i off=>frcR r fun r=>K (.ptr r g i off)
 | .osl r g off n=>frcR r fun r=>K (.osl r g off n)
 | .mp r=>frcR r fun r=>K (.mp r)
 | .gd b x=>K (.gd b x)
 | .junk=>K .junk
def frcB (B:Option Blk)(K:Option Blk->Prop):Prop :=
 match B with
 |none=>K none
 |some (.box e cs)=>K (some (.box e cs))
 |some (.vec e sz g n f)=>K (some (.vec e sz g n f))
 |some (.loop b r env)=>K (some (.loop b r env))
 |some (.map sh has val)=>K (some (.map sh has val))
 |some (.room e sz g n c f)=>K (some (.room e sz g n c f))
 |some (.ent sh has val key c)=>K (some (.ent sh has val key c))
 |some .opq=>K (some .opq)
 |some (.iter sh has val left cur)=>K (some (.iter sh has val left cur))
 |some (.look sh key v hk)=>K (some (.look sh key v hk))
def frcL:List (Option Blk)->(List (Option Blk)->Prop)->Prop
 |[],K=>K []
 |b::r,K=>frcB b fun b=>frcL r fun r=>K (b::r)
def frcM (m:Mem)(K:Mem->Prop):Prop :=
 match m with
 |⟨l,o⟩=>frcL l fun l=>K ⟨l,o⟩
theorem frcN_eq (n:Nat)(K:Nat->Prop):frcN n K=K n:=by unfold frcN;split<;>rfl
theorem frcR_eq (r:Ref)(K:Ref->Prop):frcR r K=K r:=by cases r<;>simp[frcR,frcN_eq]
theorem frcD_eq (x:D)(K:D->Prop):frcD x K=K x:=by cases x<;>rfl
theorem frc_eq (A:AV)(K:AV->Prop):frc A K=K A:=by cases A<;>simp[frc,frcD_eq,frcR_eq]
theorem frcB_eq (B:Option Blk)(K:Option Blk->Prop):frcB B K=K B:=by
 cases B with
 |none=>rfl
 |some b=>cases b<;>rfl
theorem frcL_eq:∀(l:List (Option Blk)) (K:List (Option Blk)->Prop),frcL l K=K l
 |[],_=>rfl
 |b::r,K=>by simp[frcL,frcB_eq,frcL_eq r]
theorem frcM_eq (m:Mem)(K:Mem->Prop):frcM m K=K m:=by cases m;simp[frcM,frcL_eq]
def evZeros (T:Tab) (m:Mem) (t t':TypeId) (s x:AV):Option (AV × Mem × List Prop) :=
 match elemOf T t with
 |none=>none
 | some (e,sz)=>match T.at e with
  |none=>none
  | some te=>match T.at t' with
   | some tn=>match tn.k with
    | .int _=>match s with
     | .d .nils=>match x with
      | .d (.int _ k)=>bif Nat.beq te.bytes 0 then none else some (.osl m.new 0 0 k.toNat,m.add (.vec e sz 0 k.toNat fun _=>up te.zero),[0<k,k.toNat*te.bytes<=140737488355328])
      |_=>none
     |_=>none
    |_=>none
   |none=>none
def arrStore (T:Tab) (m:Mem) (t:TypeId) (X V:AV):Option (Mem × List Prop) :=
 match arrOf T t with
 |none=>none
 | some (n,_)=>match X with
  | .ptr r g i off=>match m.get r with
   |some (.vec e sz g' n' _)=>match V with
    | .d (.agg xs)=>bif Nat.beq i 0 && (Nat.beq off 0 && Nat.beq sz 1) then
      some (m.put r (some (.vec e sz g' n fun j=>[.d (xs.getD j .nilp)])),[g'=g,n'=n,xs.length=n,∀x,x∈xs->x.one=true]) else none
    |_=>none
   |_=>none
  |_=>none
def evEff (T:Tab) (env:Env) (m:Mem) (op:Op):Option (AV × Mem × List Prop) :=
 match op with
 | .box t x=>match strip (ev env x) with
  | (A,p)=>match arrOf T t with
   |some (n,_)=>match A with
    | .d (.agg xs)=>some (.ptr m.new 0 0 0,m.add (.vec t 1 0 n fun j=>[.d (xs.getD j .nilp)]),cat p [xs.length=n,n<=maxLen,∀x,x∈xs->x.one=true])
    |_=>none
   |none=>match cellsOf m A with
    |some (cs,q)=>some (.ptr m.new 0 0 0,m.add (.box t cs),cat p q)
    |none=>none
 | .alloc t=>match T.at t with
  | some ti=>match arrOf T t with
   |some (n,_)=>some (.ptr m.new 0 0 0,m.add (.vec t 1 0 n fun j=>[.d (ti.zero.getD j .nilp)]),[n<=maxLen])
   |none=>match bigOf T t with
    |some (n,sz)=>some (.ptr m.new 0 0 0,m.add (.vec t sz 0 n fun _=>up (ti.zero.take sz)),[n<=maxLen,∀i j,i<n->j<sz->ti.zero[i*sz+j]?=ti.zero[j]?])
    |none=>some (.ptr m.new 0 0 0,m.add (.box t (up ti.zero)),[])
  |none=>none
 | .store t x v=>match strip (ev env x) with
  | (X,p)=>match strip (ev env v) with
   | (V,q)=>match arrStore T m t X V with
    |some (m',o)=>some (.junk,m',cat p (cat q o))
    | none=>match cellsOf m V with
     |none=>none
     |some (cs,q')=>match evStore T m t X cs with
      |none=>none
      |some (m',o)=>some (.junk,m',cat p (cat q (cat q' o)))
 | .buildSlice t n parts=>match stripParts (evParts env parts.toList) with
  |(l0,p)=>match evBuildSlice T m t n l0 with
   |some (A,m',q)=>some (A,m',cat p q)
   |none=>none
 | .build t parts=>match stripParts (evParts env parts.toList) with
  |(l0,p)=>match evBuildArr T m t l0 with
   |some (A,q)=>some (A,m,cat p q)
   |none=>none
 | .makeMap t none=>match evMakeMap T m t with
  |some (A,m')=>some (A,m',[])
  |none=>none
 | .mapUpdate t x k v=>match strip (ev env x) with
  | (X,p)=>match strip (ev env k) with
   | (K,q)=>match strip (ev env v) with
    |(V,o)=>match evMapUpdate T m t X K V with
     |some m'=>some (.junk,m',cat p (cat q o))
     |none=>none
 | .insert t x k v=>match strip (ev env x) with
  | (X,p)=>match strip (ev env k) with
   | (K,q)=>match strip (ev env v) with
    |(V,o)=>match evMapUpdate T m t X K V with
     |some m'=>some (.junk,m',cat p (cat q o))
     |none=>none
 | .call { callee:=.builtin .append,args,argTypes } =>
  match args.toList with
  | [s,x]=>match argTypes.toList with
   | [t,t']=>bif Nat.beq t t' then match strip (ev env s) with
     | (S,p)=>match strip (ev env x) with
      |(X,q)=>match evAppend T m t S X with
       |some (A,m',o)=>some (A,m',cat p (cat q o))
       |none=>none
    else match strip (ev env s) with
     | (S,p)=>match strip (ev env x) with
      |(X,q)=>match evZeros T m t t' S X with
       |some (A,m',o)=>some (A,m',cat p (cat q o))
       |none=>none
   |_=>none
  |_=>none
 |_=>none
section sound
variable {P:Program}{T:Tab}{w:World}{F:Nat->Prop}{σ:Pls}{m:Mem}
theorem evZeros_ok (hT:TabOk P T)(hm:MemOk m σ F w){t t' ty:TypeId}{s x:AV}{S X:Value}{A:AV}{m':Mem}{obs:List Prop}(hs:Vc w F σ s S)(hx:Vc w F σ x X)
  (h:evZeros T m t t' s x=some (A,m',obs)) (hob:∀p∈obs,p) :
  ∃u w' σ',(Builtin.append_ #[t,t'] ty #[S,X]).run P w=.ok u w'/\Vc w' F σ' A u/\MemOk m' σ' F w'/\Step σ F w σ' F w'/\SLe σ σ':=by
 unfold evZeros at h
 split at h<;>try (cases h;done)
 rename_i e sz he
 split at h<;>try (cases h;done)
 rename_i te hte
 split at h<;>try (cases h;done)
 rename_i tn htn
 split at h<;>try (cases h;done)
 rename_i kn hkn
 split at h<;>try (cases h;done)
 split at h<;>try (cases h;done)
 rename_i kq k
 cases hb0:Nat.beq te.bytes 0 with
 |true=>rw[hb0]at h;cases h
 |false =>
 rw[hb0]at h
 simp only[cond_false,Option.some.injEq,Prod.mk.injEq]at h
 obtain⟨rfl,rfl,rfl⟩:=h
 have h0:0<k:=hob _ (List.mem_cons_self ..)
 have hcap:k.toNat*te.bytes<=140737488355328:=hob (k.toNat*te.bytes<=140737488355328) (by simp)
 cases hs with|d hs=>cases hs with
 |nils =>
 cases hx with|d hx=>cases hx with
 |int =>
 obtain⟨hu,hrs,te',hte',htsz⟩:=elemOf_ok hT he
 have hsz:=sz_pos hT he
 obtain⟨i,z,hi,his,hib,hz,hzs,hzsz⟩:=tiIs_info (hT _ _ hte)
 have hsize:i.size=sz:=by
  obtain⟨i',z',hi',his',_⟩:=tiIs_info hte'
  rw[hi]at hi'
  injection hi' with hi'
  subst hi'
  rw[his',htsz]
 have hnu:P.underlying t'=some (.int kn):=kindIs_int (by
  have:=hT _ _ htn
  unfold tiIs at this
  simp only[Bool.and_eq_true]at this
  rw[hkn]at this
  exact this.1.2)
 obtain⟨n,hn⟩:∃n:Nat,k=n:=⟨k.toNat,Om⟩
 subst hn
 simp only[Int.toNat_natCast]at hcap⊢
 have hn0:0<n:=by omega
 have hbpos:0<te.bytes:=by have:=Nat.ne_of_beq_eq_false hb0;omega
 have hbig:n<=140737488355328:=Nat.le_trans (Nat.le_mul_of_pos_right n hbpos) hcap
 have hrun:=Lib.run_append_grow_zeros w t t' ty e i z kq kn hu hnu hi hz none 0 0 [] (run_firstCells_none ..) n hn0 (by rw[hsize];exact hsz) Om Om (by rw[hib];omega) (by rw[Nat.zero_add,hib];exact growslice_fits Om hcap)
 rw[Nat.zero_add]at hrun
 have hG1:=grownCap_ge w n 0 e
 have hG2:=grownCap_le_maxLen w n 0 e (by unfold maxLen;omega)
 generalize grownCap w n 0 e=G at hrun hG1 hG2
 have hz0:CellsOk w F σ (up te.zero) z.cells.toList:=.zero hzs
 have hzl:z.cells.size=sz:=by
  obtain⟨i',z',hi',his',_⟩:=tiIs_info hte'
  rw[hzsz,<-his,hsize]
 have hzat:∀i j,i<n->j<sz->(Builtin.zeroCells z.cells n)[i*sz+j]?=z.cells[j]?:=fun i j hi hj=>by
  have h1:=row_lt hi hj
  simp only[Builtin.zeroCells,hzl]
  rw[Array.getElem?_map,Array.getElem?_range,if_pos h1]
  have h2:(i*sz+j) % sz=j:=by rw[Nat.mul_comm,Nat.mul_add_mod,Nat.mod_eq_of_lt hj]
  simp only[Option.map_some,h2]
  have h3:j<z.cells.size:=by omega
  simp[h3]
 obtain⟨σ',g1,g2,g3,g4⟩:=newRow_ok (w':=w.drew.alloc (.cells (([]:List Value).toArray++Builtin.zeroCells z.cells n++Builtin.zeroCells z.cells (G-n)) e)) (b:=w.heap.size) (tot:=G) (us:=((([]:List Value).toArray++Builtin.zeroCells z.cells n++Builtin.zeroCells z.cells (G-n))).toList) (e:=e) (sz:=sz) (n:=n) (f:=fun _=>up te.zero) hm (Nat.le_refl _) (by simp) (fun b hb=>heap_alloc_old w.drew _ b hb) rfl rfl rfl (Nat.le_succ _)
  (by rw[Array.toArray_toList];exact heap_alloc_new w.drew _)
  (by
   simp only[Array.length_toList,Array.size_append,size_zeroCells,hzl,List.size_toArray,List.length_nil,Nat.zero_add,<-Nat.add_mul]
   congr 1;omega) hG1 hG2
  ⟨fun i hi=>by rw [← hz0.1,Array.length_toList,hzl],by
   simp only[Array.length_toList,Array.size_append,size_zeroCells,hzl,List.size_toArray,List.length_nil,Nat.zero_add]
   omega,fun i j A hi hA=>by
   have hj:j<sz:=by
    have:=(List.getElem?_eq_some_iff.1 hA).1
    rw[<-hz0.1,Array.length_toList,hzl]at this
    exact this
   have h1:=row_lt hi hj
   have hu:z.cells.toList[j]?=some (z.cells[j]'Om):=by simp[show j<z.cells.size by omega]
   obtain⟨q1,q2⟩:=hz0.2 j A _ hA hu
   refine⟨_,?_,q1,q2⟩
   rw[Array.getElem?_toList,Array.getElem?_append_left (by simp[size_zeroCells,hzl];omega)]
   have:(([]:List Value).toArray++Builtin.zeroCells z.cells n)=Builtin.zeroCells z.cells n:=by simp
   rw[this,hzat i j hi hj]
   simp[show j<z.cells.size by omega]⟩
 exact⟨_,_,σ',hrun,g1,g2,g3,g4⟩
theorem arr_ok (hm:MemOk m σ F w){t:TypeId}{n:Nat}{xs:List D}{us:List Value}(hl:us.length=n)(hx:xs.length=n)(hmx:n<=maxLen)
  (h:∀(j:Nat) x u,xs[j]?=some x->us[j]?=some u->Rd w F x u/\u.oneCell'=true) :
  ∃σ',Vc (w.alloc (.cells us.toArray t)) F σ' (.ptr m.new 0 0 0) (.pointer (some ⟨w.heap.size,0,none⟩))/\MemOk (m.add (.vec t 1 0 n fun j=>[.d (xs.getD j .nilp)])) σ' F (w.alloc (.cells us.toArray t))/\Step σ F w σ' F (w.alloc (.cells us.toArray t))/\SLe σ σ':=by
 let pl:Pl:=⟨0,1,some (w.heap.size,n)⟩
 have hn:=new_none hm
 have hs:=SLe.upd_new (σ:=σ) (r:=m.new) (some pl) hn
 have hkF:∀b,F b->(w.alloc (.cells us.toArray t)).heap[b]?=w.heap[b]?:=fun b hb=>heap_alloc_old w _ b (hm.fl b hb)
 have hB:BlkOk (w.alloc (.cells us.toArray t)) F (upd σ m.new (some pl)) (.vec t 1 0 n fun j=>[.d (xs.getD j .nilp)]) pl :=
  ⟨rfl,rfl,fun h=>by simp [pl] at h,fun i hi=>rfl,fun b1 t1 h1=>by
   simp only[pl,Option.some.injEq,Prod.mk.injEq]at h1
   obtain⟨rfl,rfl⟩:=h1
   refine⟨Nat.le_refl _,hmx,us,heap_alloc_new w _,Om,fun i j A hi hA=>?_⟩
   have hxi:xs[i]?=some (xs.getD i .nilp):=by rw[List.getD_eq_getElem?_getD,List.getElem?_eq_getElem Om];rfl
   have hui:us[i]?=some (us[i]'Om):=List.getElem?_eq_getElem Om
   match j,hA with
   |0,hA =>
    simp only[List.getElem?_cons_zero,Option.some.injEq]at hA
    subst hA
    obtain⟨g1,g2⟩:=h i _ _ hxi hui
    exact⟨us[i]'Om,by rw[show i*1+0=i by omega];exact hui,.d (g1.mono (fun _ h=>h) hkF),g2⟩
   |j+1,hA=>simp at hA⟩
 obtain⟨h1,h2⟩:=fresh_ok (w':=w.alloc (.cells us.toArray t)) hm (by rw[size_alloc];omega) (fun b hb=>heap_alloc_old w _ b hb) hB (fun b t' h=>by
  simp only[pl,Option.some.injEq,Prod.mk.injEq]at h
  obtain⟨rfl,_⟩:=h
  exact⟨Nat.le_refl _,by rw[size_alloc];omega⟩)
 refine⟨_,.ptr (upd_self σ m.new (some pl)) fun p hp=>?_,h1,step_alloc (fun b t' h=>?_),h2⟩
 .injection hp with hp
  subst hp
  exact⟨Nat.le_refl _,fun _=>⟨w.heap.size,n,rfl,by simp⟩⟩
 .simp only[pl,Option.some.injEq,Prod.mk.injEq]at h
  omega
theorem big_ok (hm:MemOk m σ F w){t:TypeId}{n sz:Nat}{xs:List D}{us:List Value}(hl:us.length=n*sz)(hx:xs.length=n*sz)(hmx:n<=maxLen)(hp:∀i j,i<n->j<sz->xs[i*sz+j]?=xs[j]?)
  (h:∀(j:Nat) x u,xs[j]?=some x->us[j]?=some u->Rd w F x u/\u.oneCell'=true) :
  ∃σ',Vc (w.alloc (.cells us.toArray t)) F σ' (.ptr m.new 0 0 0) (.pointer (some ⟨w.heap.size,0,none⟩))/\MemOk (m.add (.vec t sz 0 n fun _=>up (xs.take sz))) σ' F (w.alloc (.cells us.toArray t))/\Step σ F w σ' F (w.alloc (.cells us.toArray t))/\SLe σ σ':=by
 let pl:Pl:=⟨0,sz,some (w.heap.size,n)⟩
 have hn:=new_none hm
 have hs:=SLe.upd_new (σ:=σ) (r:=m.new) (some pl) hn
 have hkF:∀b,F b->(w.alloc (.cells us.toArray t)).heap[b]?=w.heap[b]?:=fun b hb=>heap_alloc_old w _ b (hm.fl b hb)
 have hrl:∀i,i<n->(up (xs.take sz)).length=sz:=fun i hi=>by
  have:1*sz<=n*sz:=Nat.mul_le_mul_right sz Om
  rw[up_eq,List.length_map,List.length_take]
  omega
 have hB:BlkOk (w.alloc (.cells us.toArray t)) F (upd σ m.new (some pl)) (.vec t sz 0 n fun _=>up (xs.take sz)) pl :=
  ⟨rfl,rfl,fun h=>by simp [pl] at h,hrl,fun b1 t1 h1=>by
   simp only[pl,Option.some.injEq,Prod.mk.injEq]at h1
   obtain⟨rfl,rfl⟩:=h1
   refine⟨Nat.le_refl _,hmx,us,heap_alloc_new w _,Om,fun i j A hi hA=>?_⟩
   have hj:j<sz:=by
    have:=(List.getElem?_eq_some_iff.1 hA).1
    rw[hrl i hi]at this
    exact this
   have hij:i*sz+j<n*sz:=row_lt hi hj
   obtain⟨x,hx1,rfl⟩:=up_at hA
   rw[List.getElem?_take_of_lt hj]at hx1
   have hxi:xs[i*sz+j]?=some x:=by rw[hp i j hi hj];exact hx1
   have hui:us[i*sz+j]?=some (us[i*sz+j]'Om):=List.getElem?_eq_getElem Om
   obtain⟨g1,g2⟩:=h _ _ _ hxi hui
   exact⟨_,hui,.d (g1.mono (fun _ h=>h) hkF),g2⟩⟩
 obtain⟨h1,h2⟩:=fresh_ok (w':=w.alloc (.cells us.toArray t)) hm (by rw[size_alloc];omega) (fun b hb=>heap_alloc_old w _ b hb) hB (fun b t' h=>by
  simp only[pl,Option.some.injEq,Prod.mk.injEq]at h
  obtain⟨rfl,_⟩:=h
  exact⟨Nat.le_refl _,by rw[size_alloc];omega⟩)
 refine⟨_,.ptr (upd_self σ m.new (some pl)) fun p hp=>?_,h1,step_alloc (fun b t' h=>?_),h2⟩
 .injection hp with hp
  subst hp
  exact⟨Nat.le_refl _,fun _=>⟨w.heap.size,n,rfl,by simp⟩⟩
 .simp only[pl,Option.some.injEq,Prod.mk.injEq]at h
  omega
theorem arrStore_ok (hT:TabOk P T) (hm:MemOk m σ F w) {t:TypeId} {x y:AV} {X V:Value} {m':Mem} {p:List Prop} (hx:Vc w F σ x X) (hy:Vc w F σ y V)
  (h:arrStore T m t x y=some (m',p)) (hp:∀q∈p,q):∃w' σ',(Instr.storeAt t X V).run P w=.ok () w'/\MemOk m' σ' F w'/\Step σ F w σ' F w'/\SLe σ σ':=by
 unfold arrStore at h
 split at h<;>try (cases h;done)
 rename_i n e he
 obtain⟨hu,hs,ti,hti,ht,hsize,hagg⟩:=arrOf_ok hT he
 split at h<;>try (cases h;done)
 rename_i r g i off
 split at h<;>try (cases h;done)
 rename_i e' sz g' n' f hB
 split at h<;>try (cases h;done)
 rename_i xs
 cases hz:(Nat.beq i 0&&(Nat.beq off 0&&Nat.beq sz 1)) with
 |false=>rw[hz]at h;cases h
 | true =>
  rw[hz]at h
  simp only[cond_true,Option.some.injEq,Prod.mk.injEq]at h
  obtain⟨rfl,rfl⟩:=h
  simp only[Bool.and_eq_true]at hz
  have e1:=Nat.eq_of_beq_eq_true hz.1
  have e2:=Nat.eq_of_beq_eq_true hz.2.1
  have e3:=Nat.eq_of_beq_eq_true hz.2.2
  subst e1;subst e2;subst e3
  have hg:g'=g:=hp _ (by simp)
  have hn:n'=n:=hp _ (by simp)
  have hxl:xs.length=n:=hp _ (by simp)
  have hone:∀x,x∈xs->x.one=true:=hp _ (by simp)
  subst hg;subst hn
  obtain⟨pl,hr,hok,_,hat⟩:=ptr_row hm hx (Mem.get_at hB)
  obtain⟨h0,hsz,hn0,hrow,hl⟩:=hok
  obtain⟨b,tot,hl',hX⟩:=hat h0
  obtain⟨hnt,htm,us,hheap,hlen,hvc⟩:=hl b tot hl'
  subst hX
  cases hy with
  | d hy=>cases hy with
   | @agg _ vs hvl hrd =>
    have hv:∀v∈vs,v.oneCell'=true:=fun v hvm=>by
     obtain⟨j,hj,rfl⟩:=List.getElem_of_mem hvm
     have hj':j<xs.length:=by omega
     exact(hrd j _ _ (List.getElem?_eq_getElem hj') (List.getElem?_eq_getElem hj)).one_ok (hone _ (List.getElem_mem hj'))
    have hfit:0+vs.length<=us.length:=by omega
    have hr1:(Instr.storeAt t (.pointer (some ⟨b,0*pl.sz+0,none⟩)) (.agg vs.toArray)).run P w=.ok () (w.setRow b (us.take 0++vs++us.drop (0+vs.length)).toArray):=by
     have:=run_storeCells_at P b 0 e' vs 0 us.toArray w hheap (by simpa using hfit) hv
     simp only[Nat.add_zero]at this
     have hc:(Value.agg vs.toArray).cells=vs.toArray:=rfl
     simp[Instr.storeAt,Instr.sureAddr,storeVar,hc,run_sizeOf ht,hvl,hxl,hsize]
     have h3:vs.length=n':=by omega
     simp only[h3]at this⊢
     simpa using this
    have hstep:=step_setRow (F:=F) (w:=w) hr hl' (us.take 0++vs++us.drop (0+vs.length)).toArray
    have hsl:=SLe.upd_old hr (QLe.refl (some pl))
    have hkF:∀b',F b'->(w.setRow b (us.take 0++vs++us.drop (0+vs.length)).toArray).heap[b']?=w.heap[b']?:=fun b' hb'=>setRow_other w b b' _ (fun e=>(hm.nf r pl b tot hr hl').1 (e▸hb'))
    obtain⟨h1,h2⟩:=change_ok (w':=w.setRow b (us.take 0++vs++us.drop (0+vs.length)).toArray) (pl':=pl) (B':=.vec e' 1 g' n' fun j=>[.d (xs.getD j .nilp)]) hm hr (by rw[size_setRow];exact Nat.le_refl _) (fun b' _ ht=>setRow_other w b b' _ (fun e=>ht tot (by rw[hl',e]))) ⟨Nat.le_refl _,fun _=>rfl⟩
     ⟨h0,hsz,hn0,fun k hk=>rfl,fun b1 tot1 hl1=>by
       rw[hl']at hl1
       obtain⟨rfl,rfl⟩:=Prod.mk.inj (Option.some.inj hl1)
       refine⟨hnt,htm,_,setRow_heap w b us.toArray _ e' (0,0) hheap,by rw[mid_length hfit];exact hlen,fun k j A hk hA=>?_⟩
       rw[mid_at hfit]
       match j,hA with
       |0,hA =>
        simp only[List.getElem?_cons_zero,Option.some.injEq]at hA
        subst hA
        have hxi:xs[k]?=some (xs.getD k .nilp):=by rw[List.getD_eq_getElem?_getD,List.getElem?_eq_getElem Om];rfl
        have hui:vs[k]?=some (vs[k]'Om):=List.getElem?_eq_getElem Om
        have hk2:=hrd k _ _ hxi hui
        refine⟨vs[k]'Om,by rw[if_pos Om,show k*1+0-0=k by omega];exact hui,.d (hk2.mono (fun _ h=>h) hkF),hk2.one_ok (hone _ (List.mem_of_getElem? hxi))⟩
       |j+1,hA=>simp at hA⟩
     (fun b' t' h=>⟨by rw[size_setRow];exact(hm.nf r pl b' t' hr h).2,.inl ⟨t',h⟩⟩)
    exact⟨_,_,hr1,h1,hstep,h2⟩
theorem evEff_ok (hT:TabOk P T)(hm:MemOk m σ F w){env:Env}{a:Act}(he:EnvOk env w F σ a.tmps){o:Oper}{A:AV}{m':Mem}{l:List Prop}
  (h:evEff T env m o.op=some (A,m',l)) (hob:∀p∈l,p):EffOp P F σ w a.eval o A m':=by
 have st:∀x,(∀p∈(strip (ev env x)).2,p)->Vc w F σ (strip (ev env x)).1 (a.eval x):=fun x hx=>strip_ok (ev_ok he x) hx
 unfold evEff at h
 split at h<;>try (cases h;done)
 .rename_i t x hop
  split at h<;>try (cases h;done)
  rename_i B p eB
  split at h
  .rename_i n e he
   split at h<;>try (cases h;done)
   rename_i xs
   simp only[Option.some.injEq,Prod.mk.injEq]at h
   obtain⟨rfl,rfl,rfl⟩:=h
   obtain⟨h1,h2⟩:=all_cat hob
   have hx:=st x (by rw[eB];exact h1)
   rw[eB]at hx
   have k1:xs.length=n:=h2 _ (by simp)
   have k2:n<=maxLen:=h2 _ (by simp)
   have k3:∀x,x∈xs->x.one=true:=h2 _ (by simp)
   obtain⟨X0,hX0⟩:∃X0,a.eval x=X0:=⟨_,rfl⟩
   rw[hX0]at hx
   cases hx with
   | d hx=>cases hx with
    |@agg _ us hvl hrd =>
     obtain⟨σ',g1,g2,g3,g4⟩:=arr_ok (t:=t) hm (n:=n) Om k1 k2 fun j x u hx hu=>⟨hrd j x u hx hu,(hrd j x u hx hu).one_ok (k3 x (List.mem_of_getElem? hx))⟩
     have hc:(Value.agg us.toArray).cells=us.toArray:=rfl
     exact⟨.value (.pointer (some ⟨w.heap.size,0,none⟩)),_,_,σ',by simp[execOp,hop,Instr.box,newVar,newRow,hX0,hc],.inl rfl,g1,g2,g3,g4⟩
  split at h<;>try (cases h;done)
  rename_i cs q hcs
  simp only[Option.some.injEq,Prod.mk.injEq]at h
  obtain⟨rfl,rfl,rfl⟩:=h
  obtain⟨h1,h2⟩:=all_cat hob
  have hx:=st x (by rw[eB];exact h1)
  rw[eB]at hx
  obtain⟨us,e1,e2,e3⟩:=cellsOf_ok hm hx hcs h2
  obtain⟨σ',g1,g2,g3,g4⟩:=box_ok (t:=t) hm ⟨e2,e3⟩
  exact⟨.value (.pointer (some ⟨w.heap.size,0,none⟩)),_,_,σ',by simp[execOp,hop,Instr.box,newVar,newRow,e1],.inl rfl,g1,g2,g3,g4⟩
 .rename_i t hop
  split at h<;>try (cases h;done)
  rename_i ti hti
  split at h
  .rename_i n e he
   simp only[Option.some.injEq,Prod.mk.injEq]at h
   obtain⟨rfl,rfl,rfl⟩:=h
   have hmx:n<=maxLen:=hob _ (by simp)
   obtain⟨_,_,ti',hti',_,hsize,_⟩:=arrOf_ok hT he
   rw[hti]at hti'
   cases hti'
   obtain⟨z,hz,hzs,hzn⟩:=run_zeroValue (hT _ _ hti) w
   obtain⟨k1,k2⟩:=sameZs_sound (w:=w) (F:=F) hzs
   obtain⟨σ',g1,g2,g3,g4⟩:=arr_ok (t:=t) hm (n:=n) (us:=z.cells.toList) (xs:=ti.zero) (by simp;omega) (by rw[<-k1];simp;omega) hmx k2
   rw[Array.toArray_toList]at g1 g2 g3
   exact⟨.value (.pointer (some ⟨w.heap.size,0,none⟩)),_,w.alloc (.cells z.cells t),σ',by simp[execOp,hop,Instr.alloc,newVar,newRow,hz],.inl rfl,g1,g2,g3,g4⟩
  split at h
  .rename_i n sz he
   simp only[Option.some.injEq,Prod.mk.injEq]at h
   obtain⟨rfl,rfl,rfl⟩:=h
   have hmx:n<=maxLen:=hob _ (by simp)
   have hper:∀i j,i<n->j<sz->ti.zero[i*sz+j]?=ti.zero[j]?:=hob _ (by simp)
   obtain⟨_,_,_,ti',hti',_,hsize⟩:=bigOf_ok hT he
   rw[hti]at hti'
   cases hti'
   obtain⟨z,hz,hzs,hzn⟩:=run_zeroValue (hT _ _ hti) w
   obtain⟨k1,k2⟩:=sameZs_sound (w:=w) (F:=F) hzs
   obtain⟨σ',g1,g2,g3,g4⟩:=big_ok (t:=t) hm (n:=n) (sz:=sz) (us:=z.cells.toList) (xs:=ti.zero) (by simp;omega) (by rw[<-k1];simp;omega) hmx hper k2
   rw[Array.toArray_toList]at g1 g2 g3
   exact⟨.value (.pointer (some ⟨w.heap.size,0,none⟩)),_,w.alloc (.cells z.cells t),σ',by simp[execOp,hop,Instr.alloc,newVar,newRow,hz],.inl rfl,g1,g2,g3,g4⟩
  simp only[Option.some.injEq,Prod.mk.injEq]at h
  obtain⟨rfl,rfl,rfl⟩:=h
  obtain⟨z,hz,hzs,_⟩:=run_zeroValue (hT _ _ hti) w
  obtain⟨σ',g1,g2,g3,g4⟩:=box_ok (t:=t) hm (.zero hzs)
  rw[Array.toArray_toList]at g1 g2 g3
  exact⟨.value (.pointer (some ⟨w.heap.size,0,none⟩)),_,w.alloc (.cells z.cells t),σ',by simp[execOp,hop,Instr.alloc,newVar,newRow,hz],.inl rfl,g1,g2,g3,g4⟩
 .rename_i t x v hop
  split at h<;>try (cases h;done)
  rename_i X p eX
  split at h<;>try (cases h;done)
  rename_i V q eV
  split at h
  .rename_i m1 o1 hst
   simp only[Option.some.injEq,Prod.mk.injEq]at h
   obtain⟨rfl,rfl,rfl⟩:=h
   obtain⟨h1,h2⟩:=all_cat hob
   obtain⟨h2,h3⟩:=all_cat h2
   have hx:=st x (by rw[eX];exact h1)
   rw[eX]at hx
   have hv:=st v (by rw[eV];exact h2)
   rw[eV]at hv
   obtain⟨w',σ',g0,g1,g2,g3⟩:=arrStore_ok hT hm hx hv hst h3
   exact⟨.skip,undef,w',σ',by simp[execOp,hop,g0],.inr ⟨rfl,rfl⟩,.junk,g1,g2,g3⟩
  split at h<;>try (cases h;done)
  rename_i cs q' hcs
  split at h<;>try (cases h;done)
  rename_i m1 o1 hst
  simp only[Option.some.injEq,Prod.mk.injEq]at h
  obtain⟨rfl,rfl,rfl⟩:=h
  obtain⟨h1,h2⟩:=all_cat hob
  obtain⟨h2,h3⟩:=all_cat h2
  obtain⟨h3,h4⟩:=all_cat h3
  have hx:=st x (by rw[eX];exact h1)
  rw[eX]at hx
  have hv:=st v (by rw[eV];exact h2)
  rw[eV]at hv
  obtain⟨us,e1,e2,e3⟩:=cellsOf_ok hm hv hcs h3
  obtain⟨w',σ',g0,g1,g2,g3⟩:=evStore_ok hT hm hx e1 ⟨e2,e3⟩ hst h4
  exact⟨.skip,undef,w',σ',by simp[execOp,hop,g0],.inr ⟨rfl,rfl⟩,.junk,g1,g2,g3⟩
 .rename_i t n parts hop
  split at h
  rename_i l0 p0 el
  split at h<;>try (cases h;done)
  rename_i A1 m1 q1 hbs
  simp only[Option.some.injEq,Prod.mk.injEq]at h
  obtain⟨rfl,rfl,rfl⟩:=h
  obtain⟨hp1,hp2⟩:=all_cat hob
  obtain⟨hk1,hk2⟩:=evParts_ok he parts.toList
  obtain⟨u,w',σ',g0,g1,g2,g3,g4,_⟩:=evBuildSlice_ok (a:=a) (parts:=parts) hT hm (hk1.trans (by have:=stripParts_fst (evParts env parts.toList);rw[el]at this;exact this.symm)) (fun j B u hB hu=>by
   obtain⟨A0,e1,e2⟩:=stripParts_ok (evParts env parts.toList) (by rw[el];exact hp1) j B (by rw[el];exact hB)
   exact e2 _ (hk2 j A0 u e1 hu)) hbs hp2
  exact⟨.value u,u,w',σ',by simp[execOp,hop,g0],.inl rfl,g1,g2,g3,g4⟩
 .rename_i t parts hop
  split at h
  rename_i l0 p0 el
  split at h<;>try (cases h;done)
  rename_i A1 q1 hbs
  simp only[Option.some.injEq,Prod.mk.injEq]at h
  obtain⟨rfl,rfl,rfl⟩:=h
  obtain⟨hp1,hp2⟩:=all_cat hob
  obtain⟨hk1,hk2⟩:=evParts_ok he parts.toList
  obtain⟨u,g0,g1⟩:=evBuildArr_ok (a:=a) (parts:=parts) hT hm (hk1.trans (by have:=stripParts_fst (evParts env parts.toList);rw[el]at this;exact this.symm)) (fun j B u hB hu=>by
   obtain⟨A0,e1,e2⟩:=stripParts_ok (evParts env parts.toList) (by rw[el];exact hp1) j B (by rw[el];exact hB)
   exact e2 _ (hk2 j A0 u e1 hu)) hbs hp2
  exact⟨.value u,u,w,σ,by simp[execOp,hop,g0],.inl rfl,g1,hm,Step.refl σ F w,SLe.refl σ⟩
 .rename_i t hop
  split at h<;>try (cases h;done)
  rename_i A1 m1 hmk
  simp only[Option.some.injEq,Prod.mk.injEq]at h
  obtain⟨rfl,rfl,rfl⟩:=h
  obtain⟨u,w',σ',g0,g1,g2,g3,g4⟩:=evMakeMap_ok hT hm hmk
  exact⟨.value u,u,w',σ',by simp[execOp,hop,g0],.inl rfl,g1,g2,g3,g4⟩
 .rename_i t x k v hop
  split at h<;>try (cases h;done)
  rename_i X p eX
  split at h<;>try (cases h;done)
  rename_i K q eK
  split at h<;>try (cases h;done)
  rename_i V o eV
  split at h<;>try (cases h;done)
  rename_i m1 hmu
  simp only[Option.some.injEq,Prod.mk.injEq]at h
  obtain⟨rfl,rfl,rfl⟩:=h
  obtain⟨h1,h2⟩:=all_cat hob
  obtain⟨h2,h3⟩:=all_cat h2
  have hx:=st x (by rw[eX];exact h1)
  rw[eX]at hx
  have hk:=st k (by rw[eK];exact h2)
  rw[eK]at hk
  have hv:=st v (by rw[eV];exact h3)
  rw[eV]at hv
  obtain⟨w',σ',g0,g1,g2,g3⟩:=evMapUpdate_ok hT hm hx hk hv hmu
  exact⟨.skip,undef,w',σ',by simp[execOp,hop,g0],.inr ⟨rfl,rfl⟩,.junk,g1,g2,g3⟩
 .rename_i t x k v hop
  split at h<;>try (cases h;done)
  rename_i X p eX
  split at h<;>try (cases h;done)
  rename_i K q eK
  split at h<;>try (cases h;done)
  rename_i V o eV
  split at h<;>try (cases h;done)
  rename_i m1 hmu
  simp only[Option.some.injEq,Prod.mk.injEq]at h
  obtain⟨rfl,rfl,rfl⟩:=h
  obtain⟨h1,h2⟩:=all_cat hob
  obtain⟨h2,h3⟩:=all_cat h2
  have hx:=st x (by rw[eX];exact h1)
  rw[eX]at hx
  have hk:=st k (by rw[eK];exact h2)
  rw[eK]at hk
  have hv:=st v (by rw[eV];exact h3)
  rw[eV]at hv
  obtain⟨w',σ',g0,g1,g2,g3⟩:=evMapUpdate_ok hT hm hx hk hv hmu
  exact⟨.skip,undef,w',σ',by simp[execOp,hop,g0],.inr ⟨rfl,rfl⟩,.junk,g1,g2,g3⟩
 .rename_i args argTypes hop
  split at h<;>try (cases h;done)
  rename_i s x ea
  split at h<;>try (cases h;done)
  rename_i t t' et
  cases htt:Nat.beq t t' with
  |false =>
   rw[htt]at h
   simp only[cond_false]at h
   split at h<;>try (cases h;done)
   rename_i A1 m1 o1 hap
   simp only[Option.some.injEq,Prod.mk.injEq]at h
   obtain⟨rfl,rfl,rfl⟩:=h
   obtain⟨h1,h2⟩:=all_cat hob
   obtain⟨h2,h3⟩:=all_cat h2
   have hs:=st s h1
   have hx:=st x h2
   have ea:args=#[s,x]:=by apply Array.ext';simpa using ea
   have et:argTypes=#[t,t']:=by apply Array.ext';simpa using et
   subst ea;subst et
   obtain⟨u,w',σ',g0,g1,g2,g3,g4⟩:=evZeros_ok (ty:=o.type) hT hm hs hx hap h3
   exact⟨.value u,u,w',σ',by simp[execOp,hop,resolve,invoke,builtin,g0],.inl rfl,g1,g2,g3,g4⟩
  |true =>
   rw[htt]at h
   simp only[cond_true]at h
   have:=Nat.eq_of_beq_eq_true htt
   subst this
   split at h<;>try (cases h;done)
   rename_i A1 m1 o1 hap
   simp only[Option.some.injEq,Prod.mk.injEq]at h
   obtain⟨rfl,rfl,rfl⟩:=h
   obtain⟨h1,h2⟩:=all_cat hob
   obtain⟨h2,h3⟩:=all_cat h2
   have hs:=st s h1
   have hx:=st x h2
   have ea:args=#[s,x]:=by apply Array.ext';simpa using ea
   have et:argTypes=#[t,t]:=by apply Array.ext';simpa using et
   subst ea;subst et
   obtain⟨u,w',σ',g0,g1,g2,g3,g4⟩:=evAppend_ok (ty:=o.type) hT hm hs hx hap h3
   exact⟨.value u,u,w',σ',by simp[execOp,hop,resolve,invoke,builtin,g0],.inl rfl,g1,g2,g3,g4⟩
end sound
def Fen (ro:Option Nat):Fence:={Fence.wide with round:=ro}
variable {ro:Option Nat}{n:Nat}{P:Program}{ops:Array Oper}{C:World->Prop}{md:Region.Mode}
theorem callsFen {f:FuncId}{args:Array Value}{w:World}{R:Ending->World->Prop}:CallsIn (Fen ro) n P f args w R↔Calls P f args w R :=
 callsIn_wide (n:=n)
theorem Fen_depth:(Fen ro).depth.isSome=true->1<=n:=fun h=>by cases h
theorem wpIn_at {o:Oper}{a:Act}{w:World}{next:Act->World->Prop}{Q:Exit->Act->World->Prop}(hd:∀c,o.op≠.defer c)
  (h:o.uponIn (Fen ro) n P a next Q ((execOp a.eval o).run P w)):o.wpIn (Fen ro) n P a w next Q :=
 ⟨fun _ _=>trivial,by rw[Oper.semAt_eq _ _ _ hd];exact h⟩
end Go.Ab
