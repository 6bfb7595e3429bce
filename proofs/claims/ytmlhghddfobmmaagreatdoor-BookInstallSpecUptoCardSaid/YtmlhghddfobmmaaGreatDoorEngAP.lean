import Derived.Test.YtmlhghddfobmmaaGreatDoorEngAJ
import Derived.Laws.IdiomRangeMap
import Derived.Test.YtmlhghddfobmmaaGreatDoorEngS
import Derived.Deep.Slices
import Derived.Deep.Fields
import Derived.ChangeSame
import Derived.ProofKit
import Derived.Carry
import Derived.JoinedOf
import Derived.Test.YtmlhghddfobmmaaGreatDoorEngAE
import Derived.RecoverIn
namespace Go.Ab
set_option linter.unusedSimpArgs false
set_option linter.unusedVariables false
section
variable {P:Program}{T:Tab}{m:Mem}
variable {ro:Option Nat}
theorem SLe.trans {σ σ' σ'':Pls}(h:SLe σ σ')(k:SLe σ' σ''):SLe σ σ'':=fun r q hq=>by
 obtain⟨q1,h1,l1⟩:=h r q hq
 obtain⟨q2,h2,l2⟩:=k r q1 h1
 exact⟨q2,h2,l1.trans l2⟩
def F7 (ts:List Nat)(i:Nat)(l:List Oper):Bool:=(l.drop i).all fun o=>match o.dst with
 |some d=>!(Vk d ts)
 |none=>true
theorem Qc1 {ts:List Nat}{i:Nat}{l:List Oper}(h:F7 ts i l=true){t:Nat}(ht:t∈ts){j:Nat}{o:Oper}(ho:l[j]?=some o)(hd:o.dst=some t):j<i:=by
 rcases Qi6 j i with hj|hj
 .exact hj
 .exfalso
  unfold F7 at h
  rw[Qi8]at h
  have hm:o∈l.drop i:=by
   rw[List.mem_iff_getElem?]
   exact⟨j-i,by rw[Qij,show i+(j-i)=j by omega];exact ho⟩
  have:=h o hm
  rw[hd]at this
  simp only[Bool.not_eq_true']at this
  have h2:Vk t ts=true:=by
   clear this h hm
   induction ts with
   |nil=>simp at ht
   |cons a r ih =>
    rcases Qho.1 ht with rfl|ht
    .simp[Vk]
    .simp[Vk,ih ht]
  rw[h2]at this
  cases this
def R1:List (Option Blk)->List (Option Blk)->Prop
 |[],[]=>True
 |x::r,y::s=>(x=y\/(x=some .opq/\∃B,y=some B))/\R1 r s
 |_,_=>False
theorem R1.at:∀{a b:List (Option Blk)},R1 a b->∀j:Nat,a[j]?=b[j]?\/(a[j]?=some (some .opq)/\∃B,b[j]?=some (some B))
 |[],[],_,j=>.inl rfl
 |x::r,y::s,h,0=>by
  rcases h.1 with h|⟨h,B,hB⟩
  .exact .inl (by rw[h];rfl)
  .exact .inr ⟨by rw[h];rfl,B,by rw[hB];rfl⟩
 |x::r,y::s,h,j+1=>by
  have:=R1.at h.2 j
  simpa using this
 |[],_::_,h,_=>h.elim
 |_::_,[],h,_=>h.elim
theorem Yo.of {a b a' b':List (Option Blk)}(h1:R1 a a')(h2:R1 b b'):Yo ⟨a,b⟩ ⟨a',b'⟩:=fun r=>by
 cases r with
 |loc j=>exact h1.at j
 |arg j=>exact h2.at j
 |bad=>exact .inl rfl
def Lm (ops:List Oper):List Nat->Bool
 |i::j::r=>(match ops[i]? with
  |some o=>Vi o.after.toList j
  |none=>false)&&Lm ops (j::r)
 |_=>true
theorem Ex {ops:Array Oper}{listed:Array Bool}(hc:∀(j:Nat) o,ops[j]?=some o->listed.getD j true=true->∀e∈o.after,Region.binds .any e=true->listed.getD e.on true=true):∀(l:List Nat) (i:Nat),Lm ops.toList (i::l)=true->listed.getD i true=true->∀x∈l,listed.getD x true=true
 |[],i,_,_,x,hx=>by simp at hx
 | j :: r,i,h,hi,x,hx=>by
  simp only[Lm,Qh5]at h
  have hj:listed.getD j true=true:=by
   have h1:=h.1
   rw[Qh2]at h1
   cases ho:ops[i]? with
   |none=>rw[ho]at h1;cases h1
   |some o =>
    rw[ho]at h1
    obtain⟨e,he,heo,heb⟩:=Yq h1
    have:=hc i o ho hi e he heb
    rwa [heo]at this
  rcases Qho.1 hx with rfl|hx
  .exact hj
  .exact Ex hc r j h.2 hj x hx
theorem Q7v (hT:Qb P T){id N:Nat}{ops:Array Oper}{i:Nat}{o:Oper}{env:Env}{As:Nat->AV}{m1 m2:Mem}{B:AV}{d:Nat}(h2:okR ops.toList=true)(hdN:Nat.blt d N=true)(ho:ops[i]?=some o)(hdst:o.dst=some d)(hnl:F7 (Zs ops.toList o) i ops.toList=true)
  {A:AV} (hA:A=match o.guard with|none=>B|some _=>.gd true B) (hgd:∀j want,o.guard=some (j,want)->guardOf ops.toList (sel (Qi env ops.toList As ops.size) (Yb ops.toList (some (j,want)))) j want=some true)
  (hop:Wd P T o (sel (Qi env ops.toList As ops.size) (tmpsOf o.op)) m1 fun e m'=>get e d=B/\m'=m2) (hE:∀(j:Nat) o d,ops[j]?=some o->o.dst=some d->get (Qi env ops.toList As ops.size) d=As j)
  {σ':Pls} {F':Nat->Prop} {w':World} {a':Act} {listed:Array Bool} (hN:a'.tmps.size=N) (hm:Q3 m1 σ' F' w') (hen:∀e∈o.after,Region.binds .any e=true->listed.getD e.on true=true) (hs:Uj ops ops.size env σ' As listed F' w' a'.tmps)
  {next:Act->World->Prop} {Q:Exit->Act->World->Prop} (hn:∀v w2 F2 σ2,(∀A u,Vc w' F' σ' A u->Vc w2 F2 σ2 A u)->Vc w2 F2 σ2 A v->Q3 m2 σ2 F2 w2->Step σ' F' w' σ2 F2 w2->SLe σ' σ2->next (a'.put o.dst v) w2):wpOpIn (Fen ro) 0 P ops Q i next a' w':=by
 have hol:ops.toList[i]?=some o:=by rw[Qh2];exact ho
 have hoi:Hk ops.toList i o:=by
  have:=Gz h2 i o hol
  rwa [Qh9]at this
 have rd:∀t∈Zs ops.toList o,Vc w' F' σ' (get (Qi env ops.toList As ops.size) t) (a'.tmps.getD t undef):=fun t ht=>by
  by_cases hex:∃(j:Nat) (o':Oper),ops[j]?=some o'/\o'.dst=some t
  .obtain⟨j,o',ho',hdo'⟩:=hex
   have hol':ops.toList[j]?=some o':=by rw[Qh2];exact ho'
   have hji:=Qc1 hnl ht hol' hdo'
   rw[hE j o' t ho' hdo']
   refine(hs t).1 j o' (Qh4.1 ho').1 ho' hdo' ?_
   rcases hoi.defs t ht j o' hol' hdo' with ⟨_,e,hee,heon,heb⟩|⟨hij,_⟩
   .have:=hen e hee heb
    rwa [heon]at this
   .omega
  .have hsz:ops.toList.length=ops.size:=Qhg
   have:get (Qi env ops.toList As ops.size) t=get (Qi env ops.toList As 0) t:=Xb (i:=0) ops.size (Qh3 _) (fun j o2 _ _ h3 h4=>hex ⟨j,o2,by rwa [Qh2]at h3,h4⟩)
   rw[this]
   exact(hs t).2 fun j o2 h3 h4=>absurd ⟨j,o2,h3,h4⟩ hex
 have hw:Region.wanted o (yielded ops a'.tmps)=true:=by
  cases hg:o.guard with
  |none=>simp[Region.wanted,hg]
  |some g =>
   obtain⟨j,want⟩:=g
   simp only[Region.wanted,hg]
   have:=Hv (tmps:=a'.tmps) (Vl fun t ht=>rd t (Yu.2 (.inr (by rw[hg];exact ht)))) (hgd j want hg)
   have hy:ops.toList.toArray=ops:=Qi2
   rwa [hy]at this
 unfold wpOpIn
 simp only[ho,hw,if_true]
 refine Kh hT hop (by rw[hdst];exact hdN) hN (Vl fun t ht=>rd t (Yu.2 (.inl ht))) hm ?_
 rintro env' m' v w2 σ2 F2 ⟨k1,rfl⟩ k2 k3 k4 k5
 have mono:∀A u,Vc w' F' σ' A u->Vc w2 F2 σ2 A u:=fun A u hv=>hv.mono k4.fro (fun b hb=>k4.keep b (hm.fl b hb) (fun⟨r,pl,t,e1,e2⟩=>(hm.nf r pl b t e1 e2).1 hb)) k5
 refine hn v w2 F2 σ2 mono ?_ k3 k4 k5
 have hv:=k2 d
 rw[k1,hdst,put_eq (by rw[hN];exact Qhf hdN)]at hv
 rw[hA]
 cases o.guard with
 |none=>exact hv
 |some g=>exact .gd (fun _=>hv) fun h=>by cases h
theorem Awp.eff1 (hT:Qb P T){id N:Nat}{ops:Array Oper}{env:Env}{Q:Ja}(h1:P.follows .mixedOrders=true)(h2:okR ops.toList=true)(hd:Jb N ops.toList=true)(i1:Nat){o1:Oper}{d1:Nat}(ho1:ops[i1]?=some o1)(hd1:o1.dst=some d1)(b1:Nat.blt d1 N=true)
  (g1:o1.guard=none) (n1:F7 (Zs ops.toList o1) i1 ops.toList=true) {m0 m1:Mem} {B1:AV} (w0:Yo m0 m) (w1:Yo m0 m1)
  (h:vcE P T ops.toList m0 (fun i=>Nat.beq i i1) (fun _=>B1) ops.toList 0 env fun E=>Wd P T o1 (sel E (tmpsOf o1.op)) m (fun e m'=>get e d1=B1/\m'=m1)/\Ev (Q .normal E m1)):Awp P N (.region id ops true) env m Q :=
 ⟨fun ro lo a w σ F hN hD he hm=>by
  have hi1:i1<ops.size:=(Qh4.1 ho1).1
  refine Pt (m:=m0) (σ:=σ) h1 h2 hT hd h hN he (fun listed a' w' F' σ'=>Q3 (bif listed.getD i1 true then m1 else m) σ' F' w'/\Step σ F w σ' F' w'/\SLe σ σ') ?_ ?_ ?_ ?_ ?_
  .rintro listed a' w' F' σ' _ _ _ _ ⟨hk,_⟩
   cases e1:listed.getD i1 true with
   |true=>rw[e1]at hk;exact w1.ok hk
   |false=>rw[e1]at hk;exact w0.ok hk
  .have hrep:∀j,j<ops.size->(Array.replicate ops.size false).getD j true=false:=fun j hj=>by
    rw[Qu,Qi0,Qik,if_pos hj]
    rfl
   rw[hrep _ hi1]
   exact⟨(Qn.drew hm.fl).mem hm,(Qn.drew hm.fl).step σ,SLe.refl σ⟩
  .rintro listed a' w' F' σ' F2 w2 v i o ⟨hmw,hst,hsl⟩ hg hi ho hls hN'
   have x1:=Qhv hi
   rw[Ze (fun e=>x1 e.symm)]
   exact⟨hg.mem hmw,hst.trans (hg.step σ'),hsl⟩
  .rintro As listed a' w' F' σ' i o hE hK _ hi ho hl hen hcl hls hN' hD' hs ⟨hmm,hst,hsl⟩ next hnext
   obtain⟨k1,_⟩:=hK
   have:=(Qh1 hi).symm
   subst this
   rw[ho1]at ho
   cases ho
   rw[hl]at hmm
   refine Q7v (id:=id) hT h2 b1 ho1 hd1 n1 (A:=B1) (by rw[g1]) (fun j want hg=>by rw[g1]at hg;cases hg) k1 hE hN' hmm hen hs fun v w2' F2 σ2 q1 q2 q3 q4 q5=>hnext v w2' F2 σ2 q1 q2 ⟨?_,hst.trans q4,SLe.trans hsl q5⟩
   rw[Gx]
   exact q3
  .rintro env' a' w' F' σ' ⟨_,hK⟩ hN' hD' hE listed hall ⟨hmm,hst,hsl⟩
   rw[hall _ hi1]at hmm
   exact⟨_,m1,σ',F',hK.o,hN',by rw[hD'];exact hD.step hst,hE,hmm,hst,Zj.of hsl⟩⟩
end
section
variable {P:Program}{T:Tab}{N:Nat}{w:World}{F:Nat->Prop}{σ:Pls}{m:Mem}{env:Env}{K:AV->Mem->Prop}{o:Oper}
end
end Go.Ab
namespace Go.Ab
set_option linter.unusedSimpArgs false
set_option linter.unusedVariables false
open Go.ChangeShapes Go.WideShapes Go.RowKit Go.Deep
section
variable {H:Type}{enc:TypeId × Value->H}{P:Program}{w:World}
def RdL (w:World)(ds:List D)(cs:List Value):Prop :=
 ds.length=cs.length/\∀(j:Nat) d u,ds[j]?=some d->cs[j]?=some u->Rd w (· < w.heap.size) d u/\u.oneCell'=true
theorem RdL.append {ds ds':List D}{cs cs':List Value}(h:RdL w ds cs)(h':RdL w ds' cs'):RdL w (ds++ds') (cs++cs'):=by
 refine⟨by simp[h.1,h'.1],fun j d u hd hu=>?_⟩
 rw[List.getElem?_append]at hd hu
 rw[h.1]at hd
 split at hd
 .rename_i hj;rw[if_pos hj]at hu;exact h.2 j d u hd hu
 .rename_i hj;rw[if_neg hj]at hu;exact h'.2 _ d u hd hu
theorem RdL.one {d:D}{u:Value}(h:Rd w (· < w.heap.size) d u)(h1:u.oneCell'=true):RdL w [d] [u] :=
 ⟨rfl,fun j d' u' hd hu=>by
  match j with
  |0=>simp at hd hu;subst hd;subst hu;exact⟨h,h1⟩
  |j+1=>simp at hd⟩
theorem Iv (hl:laidOutB P=true){W W':World}(hb:Below W.heap.size W W'):∀{ts:List TypeId} {vs:List Value} {ds:List (DataW H)} {ps:List MemPlace},(∀t∈ts,P.readableRec t=true/\t<P.types.size) ->
  DataW.TrodAll enc P W 0 (fun _=>true) true ts vs ds ps->(∀x∈ps,x.block<W.heap.size)->DataW.TrodAll enc P W' 0 (fun b=>decide (b<W.heap.size)) true ts vs ds ps
 |[],[],[],_,_,h,_=>h
 | t :: _,_ :: _,_ :: _,_,ht,⟨p,q,h1,h2,e⟩,hp =>
  ⟨p,q,Below.trod hl (ht t (by simp)).1 (ht t (by simp)).2 h1 hb (fun x hx=>hp x (by rw [e];exact List.mem_append_left _ hx)),
   Iv hl hb (fun t h=>ht t (by simp[h])) h2 (fun x hx=>hp x (by rw[e];exact List.mem_append_right _ hx)),e⟩
theorem Qbb (hl:laidOutB P=true){f:FuncId}{fn:Func}{s:ChangeSpec}{apart fresh handsOn:Bool}{W:World}{args:Array Value}{ds gs:List (DataW H)}{before:List MemPlace}{tb:TypeId}
  (hts:∀t∈fn.params.toList,P.readableRec t=true/\t<P.types.size) (hrt:fn.resultTypes=#[tb]) (hb:P.underlying tb=some .bool) (hsv:s.vars=[])
  (hsf:s.fn H (ds++gs)={results:=[.lit (.bool true)],args:=ds})
  (hW:DataW.Whole enc P fn.params.toList s.vars apart W args.toList ds gs before)
  (hG:GOk (· < W.heap.size) W) (xs:List D) (hp:Pure P f xs [.bool true]) (hlen:args.toList.length=xs.length) (hr:∀(j:Nat) x u,xs[j]?=some x->args.toList[j]?=some u->Rd W (· < W.heap.size) x u) :
  Calls P f args W fun e W'=>∃v,e=.returned v/\s.post enc P fn apart fresh handsOn false W args v W':=by
 have:=hp.2 (· < W.heap.size) W args.toList (fun _ h=>h) hG hlen hr
 rw[Qi2]at this
 refine this.mono ?_
 rintro e W' ⟨v,F',rfl,hg,hv⟩
 have hv':=hv fun _=>none
 have ev:v=.bool true:=by cases hv' with|d h=>cases h;rfl
 subst ev
 refine⟨_,rfl,?_⟩
 have hbl:Below W.heap.size W W':=⟨hg.os,hg.tape,hg.output,hg.size,hg.keep⟩
 have hlt:=hW.lt
 obtain⟨p,q,hA,hV,hpq,hfz,hnd⟩:=hW
 have hq:q=[]:=by
  rw[hsv]at hV
  match gs,hV with
  |[],hV=>exact hV
 subst hq
 rw[Qih]at hpq
 subst hpq
 refine⟨ds,gs,before,[],before,[],⟨before,[],hA,hV,by simp,hfz,hnd⟩,?_,?_,?_,?_,fun h=>by cases h⟩
 .rw[hrt,hsf]
  exact trodAll_mk1 (shut_bool hb true)
 .rw[hsf]
  exact Iv hl hbl hts hA hlt
 .rw[hsf,hsv]
  exact rfl
 .have hsame:W.keptBut W' (fun _=>False):=by
   refine⟨hg.os,hg.output,fun i hi=>?_⟩
   rw[hg.keep i hi]
   cases h:W.heap[i]? with
   |none=>rfl
   |some o=>cases o<;>simp
  exact World.keptBut_mono (fun _ h=>h.elim) hsame
end
section
variable {H:Type}{enc:TypeId × Value->H}{P:Program}{w:World}
def Z0 (enc:TypeId × Value->H)(P:Program)(w:World)(m:Nat)(t:TypeId){α:Type}(e:α->List D)(ok:α->Prop):Prop :=
 ∀(cs:List Value) (x:DataW H × List MemPlace),DataW.trod enc P w 0 (fun _=>true) true m t cs=some x->∃a,ok a/\RdL w (e a) cs
theorem Qco {t:TypeId}(hu:P.underlying t=some .bool)(m:Nat):Z0 enc P w m t (fun b:Bool=>[D.bool b]) fun _=>True:=fun cs x h=>by
 obtain⟨b,rfl,-⟩:=DataW.trod_bool hu h
 exact⟨b,Tt,.one .bool rfl⟩
theorem Qcv {t:TypeId}{k:IntKind}(hu:P.underlying t=some (.int k))(m:Nat):Z0 enc P w m t (fun i:Int=>[D.int k i]) fun i=>(Lit.int k i).wf=true:=fun cs x h=>by
 obtain⟨i,rfl,-,hw⟩:=DataW.trod_int hu h
 exact⟨i,hw,.one .int rfl⟩
theorem Qd3 {t:TypeId}(hu:P.underlying t=some .string)(m:Nat):Z0 enc P w m t (fun s:ByteArray=>[D.str s]) fun s=>s.size<=maxLen:=fun cs x h=>by
 obtain⟨s,rfl,-,hs⟩:=DataW.trod_string hu h
 exact⟨s,hs,.one .str rfl⟩
theorem Ua (hl:laidOutB P=true){t et:TypeId}(ht:t<P.types.size)(hu:P.underlying t=some (.slice et)){sz:Nat}(hc:P.cellsOf et=sz)(h0:0<sz){α:Type}[Inhabited α]{e:α->List D}{ok:α->Prop}{m:Nat}(h:∀m',m'<m->Z0 enc P w m' et e ok) :
  Z0 enc P w m t (fun xs:List α=>[D.sl sz xs.length fun i=>e (xs.getD i default)]) fun xs=>xs.length<=maxLen/\∀a∈xs,ok a:=fun cs x hx=>by
 subst hc
 rcases DataW.trod_slice hu hx with ⟨rfl,-⟩|⟨a,len,cap,elems,rest,n,rfl,rfl,-,hb,hlc,hcap,hlen,hel,-,-⟩
 .exact⟨[],⟨Qh3 _,fun a ha=>by simp at ha⟩,.one (.sl ⟨0,0,none⟩ (fun _ _=>undef) (Qgx _) (fun h=>absurd h (by simp)) (fun i hi=>absurd hi (by simp)) (fun i j hi=>absurd hi (by simp)) (fun i j x hi=>absurd hi (by simp))) rfl⟩
 .have hex:∀i,∃q:α × List Value,i<len->w.cells? 0 (a.add (i*P.cellsOf et)) (P.cellsOf et)=some q.2/\RdL w (e q.1) q.2/\ok q.1:=fun i=>by
   by_cases hi:i<len
   .have h1:=hel i hi
    rw[Qgy Om]at h1
    cases hcs:w.cells? 0 (a.add (i*P.cellsOf et)) (P.cellsOf et) with
    |none=>rw[hcs]at h1;cases h1
    |some cs' =>
     rw[hcs]at h1
     obtain⟨q,h2,h3⟩:=h n (Nat.lt_succ_self n) cs' _ h1
     exact⟨(q,cs'),fun _=>⟨rfl,h3,h2⟩⟩
   .exact⟨(default,[]),fun h=>absurd h hi⟩
  have hq:=fun i=>(hex i).choose_spec
  have hcl:∀i j,i<len->j<P.cellsOf et->w.cell? (a.add (i*P.cellsOf et+j))=some ((hex i).choose.2.getD j undef)/\(hex i).choose.2[j]?=some ((hex i).choose.2.getD j undef):=fun i j hi hj=>by
   obtain⟨hc,-,-⟩:=hq i hi
   obtain⟨-,h2,h3⟩:=World.cells?_some hc
   have:(hex i).choose.2[j]?=some ((hex i).choose.2.getD j undef):=by
    rw[Qha,Qgy Om];rfl
   refine⟨?_,this⟩
   rw[<-this,<-h3 j hj,Go.Deep.add_add]
  have hat:∀i,i<len->((List.range len).map fun i=>(hex i).choose.1).getD i default=(hex i).choose.1:=fun i hi=>by
   rw[Qha,Qhe,List.getElem?_range hi]
   rfl
  obtain⟨xs,hxs⟩:∃xs,(List.range len).map (fun i=>(hex i).choose.1)=xs:=⟨_,rfl⟩
  have hxl:xs.length=len:=by rw[<-hxs];simp
  have hxm:∀b∈xs,ok b:=fun b hb=>by
   rw[<-hxs]at hb
   obtain⟨i,hi,rfl⟩:=Qhw.1 hb
   exact(hq i (List.mem_range.1 hi)).2.2
  rw[hxs]at hat
  refine⟨xs,⟨by rw[hxl];exact Qhx hlc hcap,hxm⟩,.one ?_ rfl⟩
  rw[hxl]
  refine .sl a (fun i j=>(hex i).choose.2.getD j undef) hlc (fun h1=>⟨rfl,?_⟩) (fun i hi=>?_) (fun i j hi hj=>?_) (fun i j x hi hx=>?_)
  .have:=World.block_lt_of_cell? w _ (hcl 0 0 h1 h0).1
   rwa [R5]at this
  .obtain⟨hc,h1,-⟩:=hq i hi
   rw[hat i hi,h1.1,(World.cells?_some hc).2.1]
  .obtain⟨hc,h1,-⟩:=hq i hi
   have hlen:=(World.cells?_some hc).2.1
   have hd:(e (hex i).choose.1)[j]?=some ((e (hex i).choose.1)[j]'(by rw[h1.1];omega)):=Qgy _
   exact⟨(hcl i j hi hj).1,(h1.2 j _ _ hd (hcl i j hi hj).2).2⟩
  .rw[hat i hi]at hx
   obtain⟨hc,h1,-⟩:=hq i hi
   have hj:j<P.cellsOf et:=by
    have:=(Qh7.1 hx).1
    rw[h1.1,(World.cells?_some hc).2.1]at this
    exact this
   exact(h1.2 j x _ hx (hcl i j hi hj).2).1
theorem Qcu (hl:laidOutB P=true){t:TypeId}(ht:t<P.types.size){fs:Array Field}(hu:P.underlying t=some (.struct fs)){m:Nat}{cs:List Value}{x:DataW H × List MemPlace}(h:DataW.trod enc P w 0 (fun _=>true) true m t cs=some x) :
  ∃m',m=m'+1/\(∀(j:Nat) f,fs[j]?=some f->∃y,DataW.trod enc P w 0 (fun _=>true) true m' f.type ((cs.drop f.offset).take (P.cellsOf f.type))=some y) /\
   ∀ps:List (List D),ps.length=fs.size->(∀(j:Nat) f p,fs[j]?=some f->ps[j]?=some p->RdL w p ((cs.drop f.offset).take (P.cellsOf f.type)))->RdL w ps.flatten cs:=by
 obtain⟨xs,m',rfl,-,hcs,hxl,hf⟩:=DataW.trod_struct hu h
 obtain⟨kt,ksum,koff⟩:=kid_struct hl ht hu
 refine⟨m',rfl,fun j f hj=>?_,fun ps hps hp=>?_⟩
 .have hjl:j<xs.length:=by have:=(Qh4.1 hj).1;omega
  have:=hf j f hj
  rw[Qgy hjl]at this
  exact⟨_,this⟩
 .have key:∀k,k<=fs.size->RdL w (ps.take k).flatten (cs.take (((fs.toList.map fun f=>P.cellsOf f.type).take k).sum)):=by
   intro k
   induction k with
   |zero=>intro _;exact⟨by simp,fun j d u h=>by simp at h⟩
   | succ k ihk =>
    intro hk
    have hj:fs[k]?=some fs[k]:=Array.getElem?_eq_getElem Om
    have hpk:ps[k]?=some (ps[k]'Om):=Qgy Om
    have e0:ps.take (k+1)=ps.take k++[ps[k]'Om]:=by rw[List.take_add_one,hpk];rfl
    rw[e0,List.flatten_append]
    have e1:(fs.toList.map fun f=>P.cellsOf f.type).take (k+1)=(fs.toList.map fun f=>P.cellsOf f.type).take k++[P.cellsOf fs[k].type]:=by
     rw[List.take_add_one,Qhe]
     simp[hj]
    rw[e1,List.sum_append,List.take_add]
    refine(ihk Om).append ?_
    have:=hp k _ _ hj hpk
    rw[koff k _ (by simp)]at this
    simpa[List.map_take] using this
  have h1:=key fs.size (Qgx _)
  rw[Qhn (l:=ps) Om,Qhn (l:=fs.toList.map fun f=>P.cellsOf f.type) (by simp),<-ksum,<-hcs,Qhp]at h1
  exact h1
theorem Er {t:TypeId}{v:Value}{d:DataW H}{ps:List MemPlace}{base:Nat}{α:Type}{e:α->List D}{ok:α->Prop}(ho:∀m,Z0 enc P w m t e ok)(hv:Value.okWide P w .any base t v)
  (h:DataW.Trod enc P w 0 (fun _=>true) true t v d ps):∃a,ok a/\((∀fs,P.underlying t=some (.struct fs)->Rd w (· < w.heap.size) (.agg (e a)) v)/\∀x,e a=[x]->v.cells.toList=[v]->Rd w (· < w.heap.size) x v):=by
 obtain⟨m,hm⟩:=h
 obtain⟨a,h1,h2⟩:=ho m _ _ hm
 refine⟨a,h1,fun fs hu=>?_,fun x hx hc=>?_⟩
 .unfold Value.okWide at hv
  rw[hu]at hv
  obtain⟨cs,rfl,-,-⟩:=hv
  have:(Value.agg cs).cells.toList=cs.toList:=rfl
  rw[this]at h2
  have:=Rd.agg (w:=w) (F:=(· < w.heap.size)) (cs:=e a) (us:=cs.toList) h2.1.symm (fun j x u hx hu=>(h2.2 j x u hx hu).1)
  simpa using this
 .rw[hx,hc]at h2
  exact(h2.2 0 x v rfl rfl).1
end
end Go.Ab
namespace Go.Ab
set_option linter.unusedSimpArgs false
set_option linter.unusedVariables false
section
variable {F:Fence}{n:Nat}{P:Program}{Q:Exit->Act->List Frame->World->Prop}{a:Act}{cs:List Frame}{w:World}
theorem Qgw {id:Nat}{o1 o2:Oper}(hg:o1.guard=none)(hrun:(execOp a.eval o1).run P w=.ok .recover w)(hro:F.round=none)(v:Value)(cs':List Frame)
  (hrec:(recoverD cs).getD (.nilIface,cs)=(v,cs')) (habout:∀f,o1.about P w a.eval=some f->F.fn f)
  (h:wpOpsIn F n P #[o1,o2] (fun e a' w'=>Q e a' cs' w') [1] (a.put o1.dst v) w):(Code.region id #[o1,o2] false).wpSIn F n P Q a cs w:=by
 intro b k hb hr hF hroom
 have ho:(#[o1,o2]:Array Oper)[0]?=some o1:=rfl
 have i0:(lone (b.atR a (.code (.region id #[o1,o2] false)::k)) cs w).fenced P F:=fenced_calm hF hroom rfl
 have h0:(lone (b.atR a (.inRegion #[o1,o2] (0::[1])::k)) cs w).fenced P F:=fenced_oper hF hroom ho habout
 have hw:Region.wanted o1 (yielded #[o1,o2] a.tmps)=true:=by simp[Region.wanted,hg]
 have hgs:=stepGR_op (P:=P) (b:=b) (a:=a) (k:=k) (cs:=cs) (w:=w) (rest:=[1]) ho hw
 rw[hr,Oper.semAt_none]at hgs
 have hfin:∀v,(b.atR a (.inRegion #[o1,o2] (0::[1])::k)).finish v=b.atR (a.put o1.dst v) (.inRegion #[o1,o2] [1]::k):=by
  intro v;rw[Frame.finish_atR,ho];rfl
 have hk:(b.atR a (.inRegion #[o1,o2] (0::[1])::k)).kind=.deferred:=hb
 have htr:=tryRecover_deferred hk cs
 have hlen:cs'.length=cs.length:=by
  cases hr0:recoverD cs with
  |none=>rw[hr0]at hrec;simp only[Option.getD_none,Qh6]at hrec;rw[hrec.2]
  |some p =>
   obtain⟨v1,c1⟩:=p
   rw[hr0]at hrec
   simp only[Qi3,Qh6]at hrec
   rw[<-hrec.2]
   exact recoverD_length hr0
 obtain⟨e,a',w',hq,harr⟩:=wp_opsIn [1] _ _ h b k cs' (by rw[hr,hro]) hF (by rw[hlen];exact hroom)
 refine⟨e,a',cs',w',hlen,hq,.of_steps (.one i0 stepR_region) (.of_steps (.one h0 (step_lone_go ?_)) harr)⟩
 rw[show List.range (#[o1,o2]:Array Oper).size=[0,1] from rfl,hgs,<-hfin]
 simp only[Frame.atR,hr]at htr⊢
 cases hr0:recoverD cs with
 |none =>
  rw[hr0]at hrec htr
  simp only[Option.getD_none,Qh6]at hrec
  rw[<-hrec.1,<-hrec.2]
  simp[stepG.apply,hrun,htr]
 |some p =>
  obtain⟨v1,c1⟩:=p
  rw[hr0]at hrec htr
  simp only[Qi3,Qh6]at hrec
  rw[<-hrec.1,<-hrec.2]
  simp[stepG.apply,hrun,htr]
end
section
variable {P:Program}{T:Tab}
end
section
variable {P:Program}{T:Tab}{ro:Option Nat}
def Pan (P:Program)(f:FuncId)(args:List D)(ch:List PanicEntry):Prop :=
 Bi P f/\∀(F:Nat->Prop) (w:World) (Q5:List Value),(∀b,F b->b<w.heap.size)->GOk F w->Q5.length=args.length->(∀(j:Nat) x u,args[j]?=some x->Q5[j]?=some u->Rd w F x u) ->
  Calls P f Q5.toArray w fun e w'=>∃F',e=.panicked ch/\Qn F w F' w'
structure Cj (P:Program)(fn:AV)(as:List AV)(m:Mem)(K:List PanicEntry->Prop):Prop where
 q:∃(f:FuncId) (xs ys args:List D) (ch:List PanicEntry),fn=.d (.fn (.func f) xs ys)/\Vd m as args/\Pan P f (xs++args++ys) ch/\K ch
theorem Cb (hT:Qb P T){full:List Oper}{ops:Array Oper}(hfull:ops=full.toArray){N:Nat}{K:Env->Mem->Prop}{Q:Exit->Act->World->Prop}{tail:List Oper} :
  ∀(rest:List Oper) (env:Env) (m:Mem),Jb N rest=true->Xw P T full rest env m K->∀(a:Act) (w:World) (F:Nat->Prop) (σ:Pls),a.tmps.size=N->Ql env w F σ a.tmps->Q3 m σ F w ->
   (∀env' m' a' w' σ' F',K env' m'->a'.tmps.size=N->a'.defers=a.defers->Ql env' w' F' σ' a'.tmps->Q3 m' σ' F' w'->Step σ F w σ' F' w'->SLe σ σ'->wpListIn (Fen ro) 0 P ops Q tail a' w')->wpListIn (Fen ro) 0 P ops Q (rest++tail) a w
 |[],env,m,_,h,a,w,F,σ,hN,he,hm,hn=>hn env m a w σ F h hN rfl he hm (Step.refl σ F w) (SLe.refl σ)
 | o :: rest,env,m,hd,h,a,w,F,σ,hN,he,hm,hn=>by
  simp only[Jb,Qh5]at hd
  have cont:∀env' m' v w' σ' F',Xw P T full rest env' m' K->Ql env' w' F' σ' (a.put o.dst v).tmps->Q3 m' σ' F' w'->Step σ F w σ' F' w'->SLe σ σ'->wpListIn (Fen ro) 0 P ops Q (rest++tail) (a.put o.dst v) w':=by
   intro env' m' v w' σ' F' hk he' hm' hs hle
   refine Cb hT hfull rest env' m' hd.2 hk (a.put o.dst v) w' F' σ' (by rw[Y3];exact hN) he' hm' ?_
   intro env2 m2 a2 w2 σ2 F2 k1 k2 k3 k4 k5 k6 k7
   exact hn env2 m2 a2 w2 σ2 F2 k1 k2 (by rw[k3,put_defers]) k4 k5 (hs.trans k6) (fun r q hq=>by
    obtain⟨q1,h1,h2⟩:=hle r q hq
    obtain⟨q2,h3,h4⟩:=k7 r q1 h1
    exact⟨q2,h3,h2.trans h4⟩)
  have skip:∀(A:AV),Vc w F σ A undef->(J7 env o.dst A fun env=>Xw P T full rest env m K)->wpListIn (Fen ro) 0 P ops Q (rest++tail) (a.put o.dst undef) w:=by
   intro A hA hk
   obtain⟨env',hk,he'⟩:=Ha hN hd.1 he hA hk
   exact cont env' m undef w σ F hk he' hm (Step.refl σ F w) (SLe.refl σ)
  rw[Q4v]at h
  rw[List.cons_append]
  split at h
  .rename_i hg
   exact wpListIn_plain hg fun K' hK'=>Kh hT h hd.1 hN he hm fun env' m' v w' σ' F' hk he' hm' hs hle=>hK' _ _ (cont env' m' v w' σ' F' hk he' hm' hs hle)
  .rename_i j want hg
   split at h<;>try (cases h;done)
   rename_i g hgo
   have hw:Region.wanted o (yielded ops a.tmps)=g:=by
    subst hfull
    simp only[Region.wanted,hg]
    exact Hv he hgo
   split at h
   .rename_i v l hr
    obtain⟨hl,h⟩:=Zw h
    rw[Ya]at h
    refine wpListIn_step fun K' hK'=>?_
    rw[hw]
    cases g with
    |true =>
     simp only[if_true]
     obtain⟨u,hu,hrun⟩:=Nn hT hm he hr (Bc hl rfl)
     obtain⟨env',hk,he'⟩:=Ha hN hd.1 he (Vc.gd (fun _=>hu) (fun h=>by cases h)) h
     refine V5 (fun c hc=>by rw[hc,D5]at hr;cases hr) ?_
     rw[hrun w (V6.refl F σ w),Oper.uponIn_value]
     exact hK' _ _ (cont env' m u w σ F hk he' hm (Step.refl σ F w) (SLe.refl σ))
    |false =>
     simp only[Bool.false_eq_true,if_false]
     exact⟨fun _ _=>trivial,hK' _ _ (skip _ (.gd (fun h=>by cases h) fun _=>rfl) h)⟩
   .refine wpListIn_step fun K' hK'=>?_
    rw[hw]
    cases g with
    |true =>
     simp only[if_true]
     exact Kh hT (h.t rfl).o hd.1 hN he hm fun env' m' v w' σ' F' hk he' hm' hs hle=>hK' _ _ (cont env' m' v w' σ' F' hk he' hm' hs hle)
    |false =>
     simp only[Bool.false_eq_true,if_false]
     exact⟨fun _ _=>trivial,hK' _ _ (skip _ (.gd (fun h=>by cases h) fun _=>rfl) (h.f rfl).o)⟩
theorem Awp.pan (hT:Qb P T){N id:Nat}{ops:Array Oper}{env:Env}{m:Mem}{Q:Ja}(n:Nat){o:Oper}{post:List Oper}{f:Operand}{args:Array Operand}{at_:Array TypeId}
  (ho:ops.toList.drop n=o::post) (hg:o.guard=none) (hop:o.op=.call {callee:=.value f,args,argTypes:=at_}) (hd:Jb N (ops.toList.take n)=true)
  (h:Ev (Xw P T ops.toList (ops.toList.take n) env m fun env m=>match strip (ev env f) with
   |(fn,p)=>match Hd env args.toList with
    |(as,q)=>obs (cat p q) (Cj P fn as m fun ch=>Ev (Q (.panic ch) env m)))):Awp P N (.region id ops false) env m Q :=
 ⟨fun ro lo a w σ F hN hD he hm=>by
  refine wpIn_region_list ?_
  have e0:ops.toList=ops.toList.take n++(o::post):=by rw[<-ho,Qil]
  rw[e0]
  refine Cb hT (full:=ops.toList) (by simp) _ env m hd h.o a w F σ hN he hm ?_
  intro env1 m1 a1 w1 σ1 F1 k1 k2 k3 k4 k5 k6 k7
  obtain⟨hl,h⟩:=Zw k1
  obtain⟨h1,h2⟩:=Ji hl
  have hf:=X7 (Z5 k4 f) h1
  have ha:=Mr k4 args.toList h2
  obtain⟨id,xs,ys,ds,ch,rfl',hb,hp,hk⟩:=h.q
  rw[rfl']at hf
  generalize hX:a1.eval f=X at hf
  cases hf with
  | d hf=>cases hf with
   | @fn _ _ _ us vs g1 g2 g3 g4 =>
    refine wpListIn_plain hg fun K' hK'=>V5 (by rw[hop];exact fun _ h=>nomatch h) ?_
    have hrun:(execOp a1.eval o).run P w1=.ok (.enter id (us++args.toList.map a1.eval++vs).toArray) w1:=by
     have e:us.toArray++Array.map a1.eval args++vs.toArray=(us++args.toList.map a1.eval++vs).toArray:=by apply Array.ext';simp
     simp only[execOp,hop,Sem.run_bind,resolve,Deferred.ofValue,hX,invoke,Sem.run_pure,Result.andThen_ok,e]
     exact Lr hp.1 _ w1
    rw[hrun,Oper.uponIn_enter]
    refine⟨We,Y7.2 ?_⟩
    obtain⟨b1,b2⟩:=hb.args k5 ha
    have up':∀{y:D} {u:Value},Rd w1 F1 y u->Rd w1 (Zp F1 σ1) y u:=fun h=>h.mono (fun _ h=>.inl h) (fun _ _=>rfl)
    have hall:Jt w1 (Zp F1 σ1) σ1 (up xs++up ds++up ys) (us++args.toList.map a1.eval++vs) :=
     ((Jt.ofD g1 fun j x u hx hu=>up' (g3 j x u hx hu)).app (Jt.ofD b1 b2)).app (Jt.ofD g2 fun j x u hx hu=>up' (g4 j x u hx hu))
    have hup:up xs++up ds++up ys=up (xs++ds++ys):=by simp only[Zb,Qim]
    rw[hup]at hall
    refine(hp.2 (Zp F1 σ1) w1 _ (Rn k5) (k5.gl.mono (fun _ h=>.inl h) fun _ _=>rfl) hall.data.1 hall.data.2).mono ?_
    rintro e w2 ⟨F2,rfl,hg2⟩
    have hkeep:∀b,b<w1.heap.size->w2.heap[b]?=w1.heap[b]?:=hg2.keep
    have hm2:Q3 m1 σ1 F1 w2:=k5.world hg2.size fun b hb=>hkeep b (Rn k5 b hb)
    have hst:Step σ1 F1 w1 σ1 F1 w2:=⟨hg2.os,hg2.tape,hg2.output,hg2.drawn,hg2.size,fun b hb _=>hkeep b hb,fun _ h=>h,fun _ h=>.inl h,fun _ h=>.inl h⟩
    have hs2:=k6.trans hst
    exact⟨env1,m1,σ1,F1,hk.o,k2,by rw[k3];exact hD.step hs2,k4.mono (fun _ h=>h) (fun b hb=>hkeep b (k5.fl b hb)) (SLe.refl σ1),hm2,hs2,.of k7⟩⟩
theorem E1 {fn:Func}{tmps:Array Value}{R:Ending->World->Prop}{tail:List Deferred}{u:FrameMode}(hu:u≠.run):∀(Ds:List Nat) (w:World),Ds.Nodup->(∀D∈Ds,w.heap[D]?=some (.deferred (some []))) ->
  (∀w':World,w'.os=w.os->w'.tape=w.tape->w'.output=w.output->w'.drawn=w.drawn->w'.heap.size=w.heap.size->(∀b,b ∉ Ds->w'.heap[b]?=w.heap[b]?)->LeavesInM (Fen none) 0 P fn tmps R tail u w') ->
  LeavesInM (Fen none) 0 P fn tmps R (Ds.map mark++tail) u w
 |[],w,_,_,h=>h w rfl rfl rfl rfl rfl fun _ _=>rfl
 | D :: Ds,w,hn,hD,h=>by
  have hlt:D<w.heap.size:=(Qh4.1 (hD D (by simp))).1
  rw[List.nodup_cons]at hn
  rw[Qin,List.cons_append]
  unfold LeavesInM
  refine⟨hu,.inl ⟨D,_,rfl,run_takeDeferred (hD D (by simp)),E1 hu Ds _ hn.2 (fun D' hD'=>?_) (fun w' h1 h2 h3 hd h4 h5=>?_)⟩⟩
  .rw[World.putObj_heap_other (k:=D') (r:=D) (fun e=>hn.1 (by rw[<-e];exact hD'))]
   exact hD D' (by simp[hD'])
  .refine h w' h1 h2 h3 hd (h4.trans World.putObj_size) fun b hb=>?_
   simp only[Qho,not_or]at hb
   rw[h5 b hb.2,World.putObj_heap_other hb.1]
end
end Go.Ab
