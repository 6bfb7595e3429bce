import Derived.Test.YtkjmomadndmeaaaGreatDoorEngO
import Derived.RangeFuncNested
import Derived.Laws.CopyRow
import Derived.Laws.IdiomRangeMap
import Derived.Deep.Slices
import Derived.Deep.Fields
import Derived.ChangeSame
import Derived.ProofKit
import Derived.Carry
import Derived.JoinedOf
import Derived.RecoverIn
namespace Go.Ab
set_option linter.unusedSimpArgs false
set_option linter.unusedVariables false
inductive BecP (m:Mem):AV->D->Prop where
 |d {x}:BecP m (.d x) x
 |eq {y x} (h:DEq y x):BecP m (.d y) x
 |ptr {r e off} {cs:List AV} {xs:List D} (h:m.get r=some (.box e cs)) (hl:cs.length=xs.length) (hc:∀(j:Nat) A x,cs[j]?=some A->xs[j]?=some x->BecP m A x):BecP m (.ptr r 0 0 off) (.pt xs off)
 | osl {r e sz g off n k} {f:Nat→List AV} {f':Nat→List D} (h:m.get r=some (.vec e sz g k f)) (hn:off + n≤k) (hl:∀ i,i < n→(f (off + i)).length=(f' i).length)
   (hc:∀(i j:Nat) A x,i<n->(f (off+i))[j]?=some A->(f' i)[j]?=some x->BecP m A x):BecP m (.osl r g off n) (.sl sz n f')
 | fn {f} {xs ys:List AV} {xs' ys':List D} (h1:xs.length=xs'.length) (h2:ys.length=ys'.length) (h3:∀ (j:Nat) A x,xs[j]?=some A→xs'[j]?=some x→BecP m A x) (h4:∀ (j:Nat) A x,ys[j]?=some A→ys'[j]?=some x→BecP m A x) :
   BecP m (.fn f xs ys) (.fn f xs' ys')
 |agg {cs:List AV} {xs:List D} (hl:cs.length=xs.length) (hc:∀(j:Nat) A x,cs[j]?=some A->xs[j]?=some x->BecP m A x):BecP m (.agg cs) (.agg xs)
 |ifc {t A x} (h:BecP m A x):BecP m (.ifc t A) (.ifc t x)
 |mp {r sh has val} {val':List Int->D} (h:m.get r=some (.map sh has val)) (hc:∀k,has k=true->BecP m (val k) (val' k)):BecP m (.mp r) (.mapd sh has val')
def BecL (m:Mem):List AV->List D->Prop
 |[],[]=>True
 |A::r,x::s=>BecP m A x/\BecL m r s
 |_,_=>False
theorem BecL.len {m:Mem}:∀{as:List AV} {xs:List D},BecL m as xs->as.length=xs.length
 |[],[],_=>rfl
 |_::_,_::_,h=>by simp[BecL.len h.2]
 |[],_::_,h=>h.elim
 |_::_,[],h=>h.elim
theorem BecL.at {m:Mem}:∀{as:List AV} {xs:List D},BecL m as xs->∀(j:Nat) A x,as[j]?=some A->xs[j]?=some x->BecP m A x
 |[],[],_,j,A,x,h,_=>by simp at h
 |a::r,y::s,h,j,A,x,hA,hx=>by
  cases j with
  |zero=>simp at hA hx;subst hA;subst hx;exact h.1
  |succ j=>exact BecL.at h.2 j A x (by simpa using hA) (by simpa using hx)
 |[],_::_,h,_,_,_,_,_=>h.elim
 |_::_,[],h,_,_,_,_,_=>h.elim
theorem BecP.ptr' {m:Mem}{r e off}{cs:List AV}{xs:List D}(h:m.get r=some (.box e cs))(hc:BecL m cs xs):BecP m (.ptr r 0 0 off) (.pt xs off):=.ptr h hc.len hc.at
theorem BecP.osl' {m:Mem}{r e sz g off n k}{f:Nat->List AV}{f':Nat->List D}(h:m.get r=some (.vec e sz g k f))(hn:off+n<=k)(hc:∀i,i<n->BecL m (f (off+i)) (f' i)):BecP m (.osl r g off n) (.sl sz n f') :=
 .osl h hn (fun i hi=>(hc i hi).len) fun i j A x hi=>(hc i hi).at j A x
theorem BecL.up {m:Mem}:∀l:List D,BecL m (up l) l
 |[]=>Tt
 |_::r=>⟨.d,BecL.up r⟩
theorem BecP.rows {m:Mem}{r e sz g off n k}{f:Nat->List AV}{f':Nat->List D}(h:m.get r=some (.vec e sz g k f))(hn:off+n<=k)(hc:∀i,i<n->f (off+i)=Ab.up (f' i)):BecP m (.osl r g off n) (.sl sz n f') :=
 .osl' h hn fun i hi=>by rw[hc i hi];exact BecL.up _
theorem BecP.fn' {m:Mem}{f}{xs ys:List AV}{xs' ys':List D}(h1:BecL m xs xs')(h2:BecL m ys ys'):BecP m (.fn f xs ys) (.fn f xs' ys'):=.fn h1.len h2.len h1.at h2.at
theorem BecP.agg' {m:Mem}{cs:List AV}{xs:List D}(h:BecL m cs xs):BecP m (.agg cs) (.agg xs):=.agg h.len h.at
section
variable {P:Program}{T:Tab}{w:World}{F:Nat->Prop}{σ:Pls}{m:Mem}
theorem BecP.ok (hm:MemOk m σ F w){A:AV}{x:D}(e:BecP m A x):∀{v:Value},Vc w F σ A v->Rd w (Given F σ) x v:=by
 induction e with
 |d=>intro v h;cases h with|d h=>exact h.mono (fun _ h=>.inl h) (fun _ _=>rfl)
 |eq he=>intro v h;cases h with|d h=>exact DEq.ok (h.mono (fun _ h=>.inl h) (fun _ _=>rfl)) he
 | @ptr r e off cs xs hB hl _ ih =>
  intro v h
  obtain⟨pl,hr,hok,_,hat⟩:=ptr_row hm h (Mem.get_at hB)
  obtain⟨h0,hsz,b,hloc,us,hheap,hlen,hvc⟩:=hok
  obtain⟨b',tot,hl',rfl⟩:=hat h0
  rw[hloc]at hl'
  obtain⟨rfl,rfl⟩:=Prod.mk.inj (Option.some.inj hl')
  have:=Rd.pt (w:=w) (F:=Given F σ) (cs:=xs) (off:=off) ⟨b,0,none⟩ (fun j=>us.getD j undef) (.inr ⟨r,pl,1,hr,hloc⟩)
   (fun j hj=>by
    have hu:us[j]?=some (us[j]'Om):=List.getElem?_eq_getElem Om
    have hA:cs[j]?=some (cs[j]'Om):=List.getElem?_eq_getElem Om
    rw[add_at,Nat.zero_add,cell_of_row w b j us.toArray e (0,0) hheap]
    have:=(hvc j _ _ hA hu).2
    simp only[List.getD_eq_getElem?_getD,hu,Option.getD_some]
    exact⟨by simp,this⟩)
   (fun j x hx=>by
    have hj:=(List.getElem?_eq_some_iff.1 hx).1
    have hu:us[j]?=some (us[j]'Om):=List.getElem?_eq_getElem Om
    have hA:cs[j]?=some (cs[j]'Om):=List.getElem?_eq_getElem Om
    simp only[List.getD_eq_getElem?_getD,hu,Option.getD_some]
    exact ih j _ x hA hx (hvc j _ _ hA hu).1)
  rw[add_at]at this
  simpa only[Nat.zero_mul,Nat.zero_add] using this
 | @osl r e sz g off n k f f' hB hn hl _ ih =>
  intro v h
  obtain⟨pl,hr,hok,_,hat⟩:=osl_row hm h (Mem.get_at hB)
  obtain⟨h0,hsz,hn0,hrow,hlo⟩:=hok
  have hsl:=hat h0
  unfold SlAt at hsl
  split at hsl
  .obtain⟨rfl,_,rfl⟩:=hsl
   exact .sl ⟨0,0,none⟩ (fun _ _=>undef) (Nat.le_refl _) (fun h=>absurd h Om) (fun i hi=>absurd hi Om) (fun i j hi=>absurd hi Om) (fun i j x hi=>absurd hi Om)
  .rename_i b tot hloc
   obtain⟨B,cap,rfl,hnc,hoc,hA⟩:=hsl
   obtain⟨hnt,htm,us,hheap,hlen,hvc⟩:=hlo b tot hloc
   have hlen':∀i,i<n->(f' i).length=sz:=fun i hi=>by rw[<-hl i hi];exact hrow _ Om
   have hcell:∀i j,i<n->j<sz->∃u,us[(off+i)*sz+j]?=some u/\u.oneCell'=true/\∀x,(f' i)[j]?=some x->Rd w (Given F σ) x u:=fun i j hi hj=>by
    have hA1:(f (off+i))[j]?=some ((f (off+i))[j]'(by rw[hrow _ Om];exact hj)):=List.getElem?_eq_getElem _
    obtain⟨u,hu,hv,h1⟩:=hvc (off+i) j _ Om hA1
    exact⟨u,hu,h1,fun x hx=>ih i j _ x hi hA1 hx hv⟩
   refine .sl ⟨b,off*sz,none⟩ (fun i j=>us.getD ((off+i)*sz+j) undef) hnc (fun hn=>⟨by rw[hA (.inl Om),hsz],.inr ⟨r,pl,tot,hr,hloc⟩⟩) hlen' (fun i j hi hj=>?_) (fun i j x hi hx=>?_)
   .obtain⟨u,hu,h1,_⟩:=hcell i j hi hj
    rw[add_at,cell_of_row w b _ us.toArray e (0,0) hheap]
    have e1:off*sz+(i*sz+j)=(off+i)*sz+j:=by rw[Nat.add_mul];omega
    rw[e1]
    simp[hu,h1]
   .have hj:j<sz:=by rw[<-hlen' i hi];exact(List.getElem?_eq_some_iff.1 hx).1
    obtain⟨u,hu,_,h2⟩:=hcell i j hi hj
    simp only[List.getD_eq_getElem?_getD,hu,Option.getD_some]
    exact h2 x hx
 | fn h1 h2 _ _ i3 i4 =>
  intro v h
  cases h with
  | fn l1 l2 r1 r2 =>
   refine .fn Om Om (fun j x u hx hu=>?_) (fun j x u hx hu=>?_)
   .have hj:=(List.getElem?_eq_some_iff.1 hu).1
    exact i3 j _ x (List.getElem?_eq_getElem Om) hx (r1 j _ u (List.getElem?_eq_getElem Om) hu)
   .have hj:=(List.getElem?_eq_some_iff.1 hu).1
    exact i4 j _ x (List.getElem?_eq_getElem Om) hx (r2 j _ u (List.getElem?_eq_getElem Om) hu)
 | agg hl _ ih =>
  intro v h
  cases h with
  |agg l1 r1 =>
   refine .agg Om (fun j x u hx hu=>?_)
   have hj:=(List.getElem?_eq_some_iff.1 hu).1
   exact ih j _ x (List.getElem?_eq_getElem Om) hx (r1 j _ u (List.getElem?_eq_getElem Om) hu)
 |ifc _ ih=>intro v h;cases h with|ifc h=>exact .ifc (ih h)
 |@mp r sh has val val' hB _ ih =>
  intro v h
  obtain⟨pl,b,hr,_,hl,rfl,h1,b',hl',es,clock,ks,g1,g2,g3,g4,g5⟩:=map_row hm h (Mem.get_at hB)
  rw[hl]at hl'
  obtain⟨rfl,_⟩:=Prod.mk.inj (Option.some.inj hl')
  exact .mapd b es clock ks (.inr ⟨r,pl,1,hr,hl⟩) g1 g2 g3 (fun i k e hi he=>⟨(g4 i k e hi he).1,(g4 i k e hi he).2.1,(g4 i k e hi he).2.2.1⟩) g5.1 g5.2 (fun i k e hi he=>ih k (g4 i k e hi he).2.2.1 (g4 i k e hi he).2.2.2)
theorem BecL.args (hm:MemOk m σ F w){as:List AV}{xs:List D}{vals:List Value}(h:BecL m as xs)(ha:ArgsOk w F σ as vals):vals.length=xs.length/\∀(j:Nat) x u,xs[j]?=some x->vals[j]?=some u->Rd w (Given F σ) x u :=
 ⟨by rw [ha.1,h.len],fun j x u hx hu=>by
  have hj:j<as.length:=by rw[h.len];exact(List.getElem?_eq_some_iff.1 hx).1
  have hA:as[j]?=some as[j]:=List.getElem?_eq_getElem hj
  exact(h.at j _ x hA hx).ok hm (ha.2 j _ u hA hu)⟩
theorem given_lt (hm:MemOk m σ F w):∀b,Given F σ b->b<w.heap.size:=fun b hb=>by
 rcases hb with hb|⟨r,pl,t,h1,h2⟩
 .exact hm.fl b hb
 .exact(hm.nf r pl b t h1 h2).2
def D.flat:D->Bool
 | .int _ _ | .bool _ | .str _ | .nilp | .nili | .nilf | .nilm | .nils=>true
 |_=>false
def allFlat:List D->Bool
 |[]=>true
 |x::r=>x.flat&&allFlat r
theorem Rd.flat {w w':World}{F F':Nat->Prop}{x:D}{v:Value}(h:Rd w F x v)(hx:x.flat=true):Rd w' F' x v:=by
 cases h<;>first|(simp[D.flat]at hx;done)|constructor
theorem allFlat_mem:∀{l:List D},allFlat l=true->∀x∈l,x.flat=true
 |[],_=>fun x h=>by simp at h
 |y::r,h=>fun x hx=>by
  simp only[allFlat,Bool.and_eq_true]at h
  rcases List.mem_cons.1 hx with rfl|hx
  .exact h.1
  .exact allFlat_mem h.2 x hx
theorem resFlat {w w':World}{F F':Nat->Prop}{σ σ':Pls}{res:List D}{v:Value}(hf:allFlat res=true)(h:Vc w F σ (resAV res) v):Vc w' F' σ' (resAV res) v:=by
 match res,hf,h with
 |[x],hf,h=>cases h with|d h=>exact .d (h.flat (allFlat_mem hf x (by simp)))
 |[],_,h =>
  simp only[resAV]at h⊢
  cases h with
  |tup hl h=>exact .tup hl fun j A u hA hu=>by simp[up]at hA
 | x :: y :: r,hf,h =>
  simp only[resAV]at h⊢
  cases h with
  |tup hl hh =>
   refine .tup hl fun j A u hA hu=>?_
   obtain⟨x,hx,rfl⟩:=up_at hA
   have:=hh j (.d x) u (by rw[up_eq,List.getElem?_map,hx];rfl) hu
   cases this with|d h=>exact .d (h.flat (allFlat_mem hf x (List.mem_of_getElem? hx)))
theorem Pure.loan {f:FuncId}{dargs res:List D}(h:Pure P f dargs res){as:List AV}{K:AV->Mem->Prop}(hs:allFlat res=true)(ha:BecL m as dargs)(hk:K (resAV res) m):CallVC P f as m K :=
 ⟨h.1,fun σ F w vals hm hv=>by
  obtain⟨h1,h2⟩:=ha.args hm hv
  refine(h.2 (Given F σ) w vals (given_lt hm) (hm.gl.mono (fun _ h=>.inl h) fun _ _=>rfl) h1 h2).mono ?_
  rintro e w' ⟨v,F',he,hg,hr⟩
  have hkeep:∀b,b<w.heap.size->w'.heap[b]?=w.heap[b]?:=hg.keep
  have hm':MemOk m σ F w':=hm.world hg.size fun b hb=>hkeep b (given_lt hm b hb)
  exact⟨v,resAV res,m,σ,F,he,hk,resFlat hs (hr σ),hm',⟨hg.os,hg.tape,hg.output,hg.drawn,hg.size,fun b hb _=>hkeep b hb,fun _ h=>h,fun _ h=>.inl h,fun _ h=>.inl h⟩,SLe.refl σ⟩⟩
def dead:List (Option Blk)->List (Option Blk)
 |[]=>[]
 |_::r=>none::dead r
theorem dead_at:∀(l:List (Option Blk)) (j:Nat),(dead l)[j]?=(l[j]?).map fun _=>none
 |[],_=>by simp[dead]
 |_::_,0=>by simp[dead]
 |_::r,j+1=>by simpa[dead] using dead_at r j
theorem Pure.give {f:FuncId}{dargs res:List D}(h:Pure P f dargs res){as:List AV}{K:AV->Mem->Prop}(ha:BecL m as dargs)(hk:K (resAV res) ⟨dead m.loc,dead m.own⟩):CallVC P f as m K :=
 ⟨h.1,fun σ F w vals hm hv=>by
  obtain⟨h1,h2⟩:=ha.args hm hv
  refine(h.2 (Given F σ) w vals (given_lt hm) (hm.gl.mono (fun _ h=>.inl h) fun _ _=>rfl) h1 h2).mono ?_
  rintro e w' ⟨v,F',he,hg,hr⟩
  let σ':Pls:=fun r=>(σ r).map fun _=>none
  have hat:∀r,(⟨dead m.loc,dead m.own⟩:Mem).at r=(m.at r).map fun _=>none:=fun r=>by
   cases r with
   |loc j=>exact dead_at _ _
   |arg j=>exact dead_at _ _
   |bad=>rfl
  have hm':MemOk ⟨dead m.loc,dead m.own⟩ σ' F' w':=⟨fun r=>by
    rw[hat];have:=hm.dom r;simp[σ',this],fun r q hq=>by
    simp only[σ',Option.map_eq_some_iff]at hq
    obtain⟨q0,h3,rfl⟩:=hq
    refine⟨fun _=>?_,fun pl h=>by cases h⟩
    rw[hat]
    cases hr0:m.at r with
    |none=>rw[(hm.dom r).2 hr0]at h3;cases h3
    |some b=>rfl,fun r r' p p' b t t' h3=>by simp[σ']at h3,fun r p b t h3=>by simp[σ']at h3,hg.lt,hm.gl.mono (fun b hb=>hg.fro b (.inl hb)) fun b hb=>hg.keep b (hm.fl b hb)⟩
  refine⟨v,resAV res,_,σ',F',he,hk,hr σ',hm',⟨hg.os,hg.tape,hg.output,hg.drawn,hg.size,fun b hb _=>hg.keep b hb,fun b hb=>hg.fro b (.inl hb),fun b hb=>?_,fun b ⟨r,p,t,h3,_⟩=>by simp[σ']at h3⟩,fun r q hq=>⟨none,by simp[σ',hq],QLe.none q⟩⟩
  rcases hg.fro' b hb with (h3|h3)|h3
  .exact .inl h3
  .exact .inr (.inl h3)
  .exact .inr (.inr h3)⟩
end
def FinP:List ResultVar->List D->Env->Mem->Prop
 |[],[],_,_=>True
 | .tmp t::rs,x::xs,env,m=>BecP m (get env t) x/\FinP rs xs env m
 |_,_,_,_=>False
def finQP (rs:List ResultVar)(res:List D):Post:=fun e env m=>match e with
 | .ret=>FinP rs res env m
 | .normal=>FinP rs res env m
 |_=>False
section
variable {P:Program}{T:Tab}{w:World}{F:Nat->Prop}{σ:Pls}{m:Mem}
theorem finP_ok (hm:MemOk m σ F w){env:Env}{tmps:Array Value}(he:EnvOk env w F σ tmps):∀(rs:List ResultVar) (res:List D),FinP rs res env m ->
  ∃vs:List Value,(rs.mapM (resOne tmps)).run P w=.ok vs w/\vs.length=res.length/\∀(j:Nat) x u,res[j]?=some x->vs[j]?=some u->Rd w (Given F σ) x u
 |[],[],_=>⟨[],by simp,rfl,fun j x u h=>by simp at h⟩
 | .tmp t::rs,x::xs,h=>by
  obtain⟨h1,h2⟩:=h
  obtain⟨vs,g1,g2,g3⟩:=finP_ok hm he rs xs h2
  refine⟨tmps.getD t undef::vs,by simp[List.mapM_cons,resOne,g1],by simp[g2],fun j y u hy hu=>?_⟩
  cases j with
  |zero=>simp at hy hu;subst hy;subst hu;simpa using(he t |> fun hv=>BecP.ok hm h1 hv)
  |succ j=>exact g3 j y u (by simpa using hy) (by simpa using hu)
 | .cell _ _::_,_::_,h=>by cases h
 |[],_::_,h=>by cases h
 | .tmp _::_,[],h=>by cases h
 | .cell _ _::_,[],h=>by cases h
theorem pure_ruleP (hT:TabOk P T){f:FuncId}{fn:Func}{c:Code}{N:Nat}{rs:List ResultVar}{args res:List D}(hf:P.funcs[f]?=some fn)(hb:fn.body=some c)(hN:fn.ntmps=N)(hrs:fn.results=rs.toArray)
  (hname:(fn.name == "runtime.NumGoroutine")=false) (hargs:Nat.ble args.length N=true) (h:Ev (vc P T N c (envOf 0 args) ⟨[],[]⟩ (finQP rs res))):Pure P f args res:=by
 refine⟨⟨fn,hf,hname,by simp[hb]⟩,fun F w vals hF hG hl hv=>?_⟩
 refine callsFen.1 (callsIn_of_wp_marks (F:=Fen none) (n:=0) hf hb trivial ?_ rfl)
 let σ0:Pls:=fun _=>none
 have hm0:MemOk ⟨[],[]⟩ σ0 F w:=⟨fun r=>by cases r<;>simp[σ0,Mem.at],fun r q h=>(by cases h),fun r r' p p' b t t' h=>(by cases h),fun r p b t h=>(by cases h),hF,hG⟩
 have hle:=Nat.le_of_ble_eq_true hargs
 have hwp:=(vc_ok hT c (envOf 0 args) ⟨[],[]⟩ (finQP rs res) h.o).run none ⟨w.heap.size,[]⟩ {tmps:=vals.toArray++Array.replicate (fn.ntmps-vals.toArray.size) undef,defers:=[]} w σ0 F (by simp[hN];omega) Ctx.nil (envOf_ok hl hv _) hm0
 refine wpIn_mono hwp ?_
 rintro e a w1 ⟨env',m',σ',F',q1,q2,q3,q4,q5,q6,q7⟩
 have hend:FinP rs res env' m'->LeavesInM (Fen none) 0 P fn a.tmps (fun e w'=>∃v F',e=.returned v/\Grew F w F' w'/\∀σ,Vc w' F' σ (resAV res) v) a.defers .returning w1:=by
  intro hfin
  obtain⟨Ds,hDs,hnd,hD⟩:=q3.marks
  rw[hDs,List.append_nil]
  refine leaves_marks Ds w1 hnd (fun D h=>(hD D h).2.1) fun w' k1 k2 k3 kd k4 k5=>?_
  have kF:∀b,F' b->w'.heap[b]?=w1.heap[b]?:=fun b hb=>k5 b fun hm=>(hD b hm).2.2.2 hb
  have kO:∀b,Owned σ' b->w'.heap[b]?=w1.heap[b]?:=fun b hb=>k5 b fun hm=>(hD b hm).2.2.1 hb
  replace q4:EnvOk env' w' F' σ' a.tmps:=q4.mono (fun _ h=>h) kF (SLe.refl σ')
  replace q5:MemOk m' σ' F' w':=q5.world Om fun b hb=>by
   rcases hb with hb|hb
   .exact kF b hb
   .exact kO b hb
  replace q6:Step σ0 F w σ' F' w':=⟨k1.trans q6.os,k2.trans q6.tape,k3.trans q6.output,Nat.le_trans q6.drawn (Nat.le_of_eq kd.symm),by rw[k4];exact q6.size,fun b hb ho=>(k5 b fun hm=>by have:w.heap.size<=b:=(hD b hm).1;omega).trans (q6.keep b hb ho),q6.fro,q6.fro',q6.own⟩
  obtain⟨vs,g1,g2,g3⟩:=finP_ok (P:=P) q5 q4 rs res hfin
  have hrun:(results fn a.tmps).run P w'=.ok (if h:vs.toArray.size=1 then vs.toArray[0] else .tuple vs.toArray) w':=by
   have e:results fn a.tmps=(do let vs <-fn.results.mapM (resOne a.tmps);pure (if h:vs.size=1 then vs[0] else .tuple vs)):=by
    unfold results
    congr 1
   rw[e,hrs,Array.mapM_eq_mapM_toList]
   simp[g1]
  refine⟨_,hrun,_,Given F' σ',rfl,⟨q6.os,q6.tape,q6.output,q6.drawn,q6.size,fun b hb=>q6.keep b hb (fun⟨r,p,t,h1,_⟩=>by cases h1),fun b hb=>.inl (q6.fro b hb),fun b hb=>?_,fun b hb=>?_⟩,fun σ=>?_⟩
  .rcases hb with hb|hb
   .rcases q6.fro' b hb with h1|⟨r,p,t,h1,_⟩|h1
    .exact .inl h1
    .cases h1
    .exact .inr h1
   .rcases q6.own b hb with ⟨r,p,t,h1,_⟩|h1
    .cases h1
    .exact .inr h1
  .rcases hb with hb|⟨r,p,t,h1,h2⟩
   .exact q5.fl b hb
   .exact(q5.nf r p b t h1 h2).2
  .have tup:Vc w' (Given F' σ') σ (.tup (up res)) (.tuple vs.toArray):=.tup (by rw[up_eq,List.length_map,g2]) fun j A u hA hu=>by
    obtain⟨x,hx,rfl⟩:=up_at hA
    exact .d (g3 j x u hx hu)
   match res,vs,g2,g3,tup with
   |[],[],_,_,tup=>simpa[resAV] using tup
   |[x],[v],_,g3,_=>simpa[resAV] using Vc.d (g3 0 x v rfl rfl)
   |x::y::xs,a::b::vs,_,_,tup=>simpa[resAV] using tup
   |[],_::_,h,_,_=>simp at h
   |_::_,[],h,_,_=>simp at h
   |[_],_::_::_,h,_,_=>simp at h
   |_::_::_,[_],h,_,_=>simp at h
 cases e with
 |normal=>exact hend q1
 |ret=>exact hend q1
 |_=>exact q1.elim
end
mutual
def ren (ρ:Ref->Ref):AV->AV
 | .d x=>.d x
 | .agg cs=>.agg (renL ρ cs)
 | .tup cs=>.tup (renL ρ cs)
 | .ifc t x=>.ifc t (ren ρ x)
 | .fn f xs ys=>.fn f (renL ρ xs) (renL ρ ys)
 | .ptr r g i off=>.ptr (ρ r) g i off
 | .osl r g off n=>.osl (ρ r) g off n
 | .mp r=>.mp (ρ r)
 | .gd b x=>.gd b (ren ρ x)
 | .junk=>.junk
def renL (ρ:Ref->Ref):List AV->List AV
 |[]=>[]
 |A::r=>ren ρ A::renL ρ r
end
def renE (ρ:Ref->Ref):List (Nat × AV)->List (Nat × AV)
 |[]=>[]
 |(t,A)::r=>(t,ren ρ A)::renE ρ r
theorem renE_eq (ρ:Ref->Ref):∀l:List (Nat × AV),renE ρ l=l.map fun p=>(p.1,ren ρ p.2)
 |[]=>rfl
 |(t,A)::r=>by simp[renE,renE_eq ρ r]
def renB (ρ:Ref->Ref):Blk->Blk
 | .box e cs=>.box e (renL ρ cs)
 | .vec e sz g n f=>.vec e sz g n fun i=>renL ρ (f i)
 | .loop b r env=>.loop b r (renE ρ env)
 | .map sh has val=>.map sh has fun k=>ren ρ (val k)
 | .room e sz g n c f=>.room e sz g n c fun i=>renL ρ (f i)
 | .ent sh has val key c=>.ent sh has (fun k=>ren ρ (val k)) key c
 | .opq=>.opq
 | .iter sh has val left cur=>.iter sh has val left cur
 | .look sh key v hk=>.look sh key (ren ρ v) hk
def renO (ρ:Ref->Ref):Option Blk->Option Blk
 |none=>none
 |some B=>some (renB ρ B)
def renM (ρ:Ref->Ref):List (Option Blk)->List (Option Blk)
 |[]=>[]
 |b::r=>renO ρ b::renM ρ r
theorem renL_eq (ρ:Ref->Ref):∀l:List AV,renL ρ l=l.map (ren ρ)
 |[]=>by simp[renL]
 |A::r=>by simp[renL,renL_eq ρ r]
theorem renM_eq (ρ:Ref->Ref):∀l:List (Option Blk),renM ρ l=l.map (renO ρ)
 |[]=>rfl
 |A::r=>by simp[renM,renM_eq ρ r]
def nth:List Ref->Nat->Ref
 |[],_=>.bad
 |r::_,0=>r
 |_::s,j+1=>nth s j
def inn (rs:List Ref):Ref->Ref
 | .arg j=>nth rs j
 |_=>.bad
def out (k:Nat)(rs:List Ref):Ref->Ref
 | .arg j=>nth rs j
 | .loc j=>.loc (k+j)
 | .bad=>.bad
def putAll:Mem->List Ref->List (Option Blk)->Mem
 |m,r::rs,b::bs=>putAll (m.put r b) rs bs
 |m,_,_=>m
def app:List (Option Blk)->List (Option Blk)->List (Option Blk)
 |[],l=>l
 |b::r,l=>b::app r l
def back (m:Mem)(rs:List Ref)(m0:Mem):Mem :=
 match putAll m rs (renM (out (lenL m.loc) rs) m0.own) with
 |⟨l,o⟩=>⟨app l (renM (out (lenL m.loc) rs) m0.loc),o⟩
def memR (r:Ref):List Ref->Bool
 |[]=>false
 |s::t=>decide (s=r)||memR r t
def nodupR:List Ref->Bool
 |[]=>true
 |r::s=>!memR r s&&nodupR s
def Picks (m:Mem)(ρ:Ref->Ref):List Ref->List (Option Blk)->Prop
 |[],[]=>True
 |r::rs,b::bs=>m.at r=some (renO ρ b)/\Picks m ρ rs bs
 |_,_=>False
section
variable {P:Program}{T:Tab}{w:World}{F:Nat->Prop}{σ σ':Pls}{m:Mem}
theorem Vc.inn {ρ:Ref->Ref}:∀{B:AV} {v:Value},Vc w F σ B v->∀{A:AV},B=ren ρ A->Vc w F (fun r=>σ (ρ r)) A v:=by
 intro B v h
 induction h with
 |d h=>intro A e;cases A<;>simp[ren]at e;subst e;exact .d h
 |agg hl h ih =>
  intro A e
  cases A<;>simp[ren]at e
  subst e
  rw[renL_eq]at hl
  refine .agg (by simpa using hl) fun j x u hx hu=>ih j _ u (by rw[renL_eq,List.getElem?_map,hx];rfl) hu rfl
 |tup hl h ih =>
  intro A e
  cases A<;>simp[ren]at e
  subst e
  rw[renL_eq]at hl
  refine .tup (by simpa using hl) fun j x u hx hu=>ih j _ u (by rw[renL_eq,List.getElem?_map,hx];rfl) hu rfl
 |ifc h ih =>
  intro A e
  cases A<;>simp[ren]at e
  obtain⟨rfl,rfl⟩:=e
  exact .ifc (ih rfl)
 |fn h1 h2 h3 h4 i3 i4 =>
  intro A e
  cases A<;>simp[ren]at e
  obtain⟨rfl,rfl,rfl⟩:=e
  rw[renL_eq]at h1 h2
  refine .fn (by simpa using h1) (by simpa using h2) (fun j x u hx hu=>i3 j _ u (by rw[renL_eq,List.getElem?_map,hx];rfl) hu rfl) (fun j x u hx hu=>i4 j _ u (by rw[renL_eq,List.getElem?_map,hx];rfl) hu rfl)
 |ptr hr h =>
  intro A e
  cases A<;>simp[ren]at e
  obtain⟨rfl,rfl,rfl,rfl⟩:=e
  exact .ptr hr h
 |osl hr h =>
  intro A e
  cases A<;>simp[ren]at e
  obtain⟨rfl,rfl,rfl,rfl⟩:=e
  exact .osl hr h
 |mp hr h =>
  intro A e
  cases A<;>simp[ren]at e
  subst e
  exact .mp hr h
 |gd h h' ih =>
  intro A e
  cases A<;>simp[ren]at e
  obtain⟨rfl,rfl⟩:=e
  exact .gd (fun hb=>ih hb rfl) h'
 |junk=>intro A e;cases A<;>simp[ren]at e;exact .junk
theorem Vc.out {ρ:Ref->Ref}(hs:∀r q,σ r=some q->σ' (ρ r)=some q):∀{A:AV} {v:Value},Vc w F σ A v->Vc w F σ' (ren ρ A) v:=by
 intro A v h
 induction h with
 |d h=>simp only[ren];exact .d h
 |agg hl h ih =>
  simp only[ren,renL_eq]
  refine .agg (by simpa using hl) fun j x u hx hu=>?_
  rw[List.getElem?_map,Option.map_eq_some_iff]at hx
  obtain⟨y,hy,rfl⟩:=hx
  exact ih j y u hy hu
 |tup hl h ih =>
  simp only[ren,renL_eq]
  refine .tup (by simpa using hl) fun j x u hx hu=>?_
  rw[List.getElem?_map,Option.map_eq_some_iff]at hx
  obtain⟨y,hy,rfl⟩:=hx
  exact ih j y u hy hu
 |ifc h ih=>simp only[ren];exact .ifc ih
 | fn h1 h2 h3 h4 i3 i4 =>
  simp only[ren,renL_eq]
  refine .fn (by simpa using h1) (by simpa using h2) (fun j x u hx hu=>?_) (fun j x u hx hu=>?_)
  .rw[List.getElem?_map,Option.map_eq_some_iff]at hx
   obtain⟨y,hy,rfl⟩:=hx
   exact i3 j y u hy hu
  .rw[List.getElem?_map,Option.map_eq_some_iff]at hx
   obtain⟨y,hy,rfl⟩:=hx
   exact i4 j y u hy hu
 |ptr hr h=>simp only[ren];exact .ptr (hs _ _ hr) h
 |osl hr h=>simp only[ren];exact .osl (hs _ _ hr) h
 |mp hr h=>simp only[ren];exact .mp (hs _ _ hr) h
 |gd h h' ih=>simp only[ren];exact .gd (fun hb=>ih hb) h'
 |junk=>simp only[ren];exact .junk
theorem VecOk.inn {ρ:Ref->Ref}{e sz g n:Nat}{f:Nat->List AV}{pl:Pl}(h:VecOk w F σ e sz g n (fun i=>renL ρ (f i)) pl):VecOk w F (fun r=>σ (ρ r)) e sz g n f pl:=by
 obtain⟨h1,h2,h3,h4,h5⟩:=h
 refine⟨h1,h2,h3,fun i hi=>by have:(renL ρ (f i)).length=sz:=h4 i hi;rw[renL_eq]at this;simpa using this,fun b tot hl=>?_⟩
 obtain⟨h6,h6',us,h7,h8,h9⟩:=h5 b tot hl
 refine⟨h6,h6',us,h7,h8,fun i j A hi hA=>?_⟩
 obtain⟨u,hu,hv,h1⟩:=h9 i j (ren ρ A) hi (by show(renL ρ (f i))[j]?=_;rw[renL_eq,List.getElem?_map,hA];rfl)
 exact⟨u,hu,hv.inn rfl,h1⟩
theorem BlkOk.inn {ρ:Ref->Ref}{B:Blk}{pl:Pl}(h:BlkOk w F σ (renB ρ B) pl):BlkOk w F (fun r=>σ (ρ r)) B pl:=by
 cases B with
 |box e cs =>
  obtain⟨h1,h2,b,h3,us,h4,h5,h6⟩:=h
  rw[renL_eq]at h2 h5
  refine⟨h1,by simpa using h2,b,h3,us,h4,by simpa using h5,fun j A u hA hu=>?_⟩
  have:=h6 j _ u (by rw[renL_eq,List.getElem?_map,hA];rfl) hu
  exact⟨this.1.inn rfl,this.2⟩
 |vec e sz g n f =>
  obtain⟨h1,h2,h3,h4,h5⟩:=h
  refine⟨h1,h2,h3,fun i hi=>by have:(renL ρ (f i)).length=sz:=h4 i hi;rw[renL_eq]at this;simpa using this,fun b tot hl=>?_⟩
  obtain⟨h6,h6',us,h7,h8,h9⟩:=h5 b tot hl
  refine⟨h6,h6',us,h7,h8,fun i j A hi hA=>?_⟩
  obtain⟨u,hu,hv,h1⟩:=h9 i j (ren ρ A) hi (by show(renL ρ (f i))[j]?=_;rw[renL_eq,List.getElem?_map,hA];rfl)
  exact⟨u,hu,hv.inn rfl,h1⟩
 |loop b r env =>
  obtain⟨h1,h2,h3,h4⟩:=h
  exact⟨h1,h2,h3,fun j t A hj=>(h4 j t (ren ρ A) (by rw[renE_eq,List.getElem?_map,hj];rfl)).inn rfl⟩
 |map sh has val =>
  obtain⟨h1,b,h2,es,clock,ks,h3,h4,h5,h6,h7⟩:=h
  exact⟨h1,b,h2,es,clock,ks,h3,h4,h5,fun i k e hi he=>⟨(h6 i k e hi he).1,(h6 i k e hi he).2.1,(h6 i k e hi he).2.2.1,(h6 i k e hi he).2.2.2.inn rfl⟩,h7⟩
 |room e sz g n c f=>exact⟨VecOk.inn h.1,h.2⟩
 |ent sh has val key c =>
  obtain⟨h1,b,h2,es,clock,ks,h3,h4,h5,h6,h7⟩:=h
  exact⟨h1,b,h2,es,clock,ks,h3,h4,h5,fun i k e hi he=>⟨(h6 i k e hi he).1,(h6 i k e hi he).2.1,(h6 i k e hi he).2.2.1,fun hk=>((h6 i k e hi he).2.2.2 hk).inn rfl⟩,h7⟩
 |opq=>exact h
 |iter=>exact h
 |look sh key v hk =>
  obtain⟨h1,b,h2,es,clock,ks,h3,h4,h5,h6,h7⟩:=h
  exact⟨h1,b,h2,es,clock,ks,h3,h4,h5,h6,fun i e hi he=>(h7 i e hi he).inn rfl⟩
theorem VecOk.out {ρ:Ref->Ref}(hs:∀r q,σ r=some q->σ' (ρ r)=some q){e sz g n:Nat}{f:Nat->List AV}{pl:Pl}(h:VecOk w F σ e sz g n f pl):VecOk w F σ' e sz g n (fun i=>renL ρ (f i)) pl:=by
 obtain⟨h1,h2,h3,h4,h5⟩:=h
 refine⟨h1,h2,h3,fun i hi=>by simpa[renL_eq] using h4 i hi,fun b tot hl=>?_⟩
 obtain⟨h6,h6',us,h7,h8,h9⟩:=h5 b tot hl
 refine⟨h6,h6',us,h7,h8,fun i j A hi hA=>?_⟩
 replace hA:(renL ρ (f i))[j]?=some A:=hA
 rw[renL_eq,List.getElem?_map,Option.map_eq_some_iff]at hA
 obtain⟨A0,hA0,rfl⟩:=hA
 obtain⟨u,hu,hv,h1⟩:=h9 i j A0 hi hA0
 exact⟨u,hu,hv.out hs,h1⟩
theorem BlkOk.out {ρ:Ref->Ref}(hs:∀r q,σ r=some q->σ' (ρ r)=some q){B:Blk}{pl:Pl}(h:BlkOk w F σ B pl):BlkOk w F σ' (renB ρ B) pl:=by
 cases B with
 |box e cs =>
  obtain⟨h1,h2,b,h3,us,h4,h5,h6⟩:=h
  refine⟨h1,by simpa[renL_eq] using h2,b,h3,us,h4,by simpa[renL_eq] using h5,fun j A u hA hu=>?_⟩
  rw[renL_eq,List.getElem?_map,Option.map_eq_some_iff]at hA
  obtain⟨A0,hA0,rfl⟩:=hA
  exact⟨(h6 j A0 u hA0 hu).1.out hs,(h6 j A0 u hA0 hu).2⟩
 |vec e sz g n f =>
  obtain⟨h1,h2,h3,h4,h5⟩:=h
  refine⟨h1,h2,h3,fun i hi=>by simpa[renL_eq] using h4 i hi,fun b tot hl=>?_⟩
  obtain⟨h6,h6',us,h7,h8,h9⟩:=h5 b tot hl
  refine⟨h6,h6',us,h7,h8,fun i j A hi hA=>?_⟩
  replace hA:(renL ρ (f i))[j]?=some A:=hA
  rw[renL_eq,List.getElem?_map,Option.map_eq_some_iff]at hA
  obtain⟨A0,hA0,rfl⟩:=hA
  obtain⟨u,hu,hv,h1⟩:=h9 i j A0 hi hA0
  exact⟨u,hu,hv.out hs,h1⟩
 |loop b r env =>
  obtain⟨h1,h2,h3,h4⟩:=h
  refine⟨h1,h2,h3,fun j t A hj=>?_⟩
  rw[renE_eq,List.getElem?_map,Option.map_eq_some_iff]at hj
  obtain⟨⟨t0,A0⟩,hj0,e⟩:=hj
  simp only[Prod.mk.injEq]at e
  obtain⟨rfl,rfl⟩:=e
  exact(h4 j t0 A0 hj0).out hs
 |map sh has val =>
  obtain⟨h1,b,h2,es,clock,ks,h3,h4,h5,h6,h7⟩:=h
  exact⟨h1,b,h2,es,clock,ks,h3,h4,h5,fun i k e hi he=>⟨(h6 i k e hi he).1,(h6 i k e hi he).2.1,(h6 i k e hi he).2.2.1,(h6 i k e hi he).2.2.2.out hs⟩,h7⟩
 |room e sz g n c f=>exact⟨VecOk.out hs h.1,h.2⟩
 |ent sh has val key c =>
  obtain⟨h1,b,h2,es,clock,ks,h3,h4,h5,h6,h7⟩:=h
  exact⟨h1,b,h2,es,clock,ks,h3,h4,h5,fun i k e hi he=>⟨(h6 i k e hi he).1,(h6 i k e hi he).2.1,(h6 i k e hi he).2.2.1,fun hk=>((h6 i k e hi he).2.2.2 hk).out hs⟩,h7⟩
 |opq=>exact h
 |iter=>exact h
 |look sh key v hk =>
  obtain⟨h1,b,h2,es,clock,ks,h3,h4,h5,h6,h7⟩:=h
  exact⟨h1,b,h2,es,clock,ks,h3,h4,h5,h6,fun i e hi he=>(h7 i e hi he).out hs⟩
theorem nth_mem:∀{rs:List Ref} {j:Nat},j<rs.length->memR (nth rs j) rs=true
 |r::s,0,_=>by simp[nth,memR]
 |r::s,j+1,h=>by simp only[nth,memR,nth_mem (rs:=s) (j:=j) (by simpa using h),Bool.or_true]
 |[],_,h=>by simp at h
theorem mem_nth:∀{rs:List Ref} {r:Ref},memR r rs=true->∃j,j<rs.length/\nth rs j=r
 |[],r,h=>by simp[memR]at h
 | s :: t,r,h=>by
  simp only[memR,Bool.or_eq_true,decide_eq_true_eq]at h
  rcases h with rfl|h
  .exact⟨0,by simp,rfl⟩
  .obtain⟨j,h1,h2⟩:=mem_nth h
   exact⟨j+1,by simpa using h1,h2⟩
theorem nth_inj:∀{rs:List Ref},nodupR rs=true->∀{i j:Nat},i<rs.length->j<rs.length->nth rs i=nth rs j->i=j
 |[],_,i,_,h,_,_=>by simp at h
 | r :: s,hn,i,j,hi,hj,e=>by
  simp only[nodupR,Bool.and_eq_true,Bool.not_eq_true']at hn
  cases i with
  | zero=>cases j with
   |zero=>rfl
   |succ j =>
    have:=nth_mem (rs:=s) (j:=j) (by simpa using hj)
    simp only[nth]at e
    rw[<-e,hn.1]at this
    cases this
  | succ i=>cases j with
   |zero =>
    have:=nth_mem (rs:=s) (j:=i) (by simpa using hi)
    simp only[nth]at e
    rw[e,hn.1]at this
    cases this
   |succ j=>exact congrArg (· + 1) (nth_inj hn.2 (i:=i) (j:=j) (by simpa using hi) (by simpa using hj) (by simpa[nth] using e))
theorem nth_bad:∀{rs:List Ref} {j:Nat},rs.length<=j->nth rs j=.bad
 |[],_,_=>rfl
 |_::_,0,h=>by simp at h
 |_::s,j+1,h=>nth_bad (rs:=s) (by simpa using h)
theorem Picks.len {ρ:Ref->Ref}:∀{rs:List Ref} {bs:List (Option Blk)},Picks m ρ rs bs->rs.length=bs.length
 |[],[],_=>rfl
 |_::_,_::_,h=>by simp[Picks.len h.2]
 |[],_::_,h=>h.elim
 |_::_,[],h=>h.elim
theorem Picks.get {ρ:Ref->Ref}:∀{rs:List Ref} {bs:List (Option Blk)},Picks m ρ rs bs->∀{j:Nat} {b},bs[j]?=some b->m.at (nth rs j)=some (renO ρ b)
 |[],[],_,j,b,h=>by simp at h
 |r::rs,b::bs,h,j,b',hb=>by
  cases j with
  |zero=>simp at hb;subst hb;exact h.1
  |succ j=>exact Picks.get h.2 (by simpa using hb)
 |[],_::_,h,_,_,_=>h.elim
 |_::_,[],h,_,_,_=>h.elim
theorem putAll_other:∀{rs:List Ref} {bs:List (Option Blk)} {m:Mem} {r:Ref},memR r rs=false->(putAll m rs bs).at r=m.at r
 |[],_,m,r,_=>by simp[putAll]
 |s::t,[],m,r,_=>by simp[putAll]
 |s::t,b::bs,m,r,h=>by
  simp only[memR,Bool.or_eq_false_iff,decide_eq_false_iff_not]at h
  simp only[putAll]
  rw[putAll_other h.2,put_other]
  exact fun e=>h.1 e.symm
theorem put_dom {r s:Ref}(b:Option Blk):(∃x,m.at s=some x)->∃x,(m.put r b).at s=some x:=fun⟨x,hx⟩=>by
 by_cases e:s=r
 .subst e;exact⟨b,put_self b hx⟩
 .exact⟨x,by rw[put_other b e];exact hx⟩
theorem putAll_at:∀{rs:List Ref} {bs:List (Option Blk)} {m:Mem},nodupR rs=true->(∀j,j<rs.length->∃x,m.at (nth rs j)=some x)->∀{j:Nat} {b},j<rs.length->bs[j]?=some b->(putAll m rs bs).at (nth rs j)=some b
 |[],_,m,_,_,j,b,h,_=>by simp at h
 |s::t,[],m,_,_,j,b,_,h=>by simp at h
 | s :: t,c :: bs,m,hn,hd,j,b,hj,hb=>by
  simp only[nodupR,Bool.and_eq_true,Bool.not_eq_true']at hn
  simp only[putAll]
  cases j with
  |zero =>
   simp only[nth]
   simp only[List.getElem?_cons_zero,Option.some.injEq]at hb
   subst hb
   rw[putAll_other hn.1]
   obtain⟨x,hx⟩:=hd 0 (by simp)
   exact put_self _ hx
  |succ j =>
   simp only[nth]
   exact putAll_at hn.2 (fun i hi=>put_dom c (hd (i+1) (by simpa using hi))) (by simpa using hj) (by simpa using hb)
theorem put_lens (r:Ref)(b:Option Blk):(m.put r b).loc.length=m.loc.length/\(m.put r b).own.length=m.own.length:=by
 cases r<;>simp[Mem.put,putAt_eq]
theorem putAll_lens:∀(rs:List Ref) (bs:List (Option Blk)) (m:Mem),(putAll m rs bs).loc.length=m.loc.length/\(putAll m rs bs).own.length=m.own.length
 |[],_,m=>by simp[putAll]
 |s::t,[],m=>by simp[putAll]
 |s::t,c::bs,m=>by
  simp only[putAll]
  have h1:=putAll_lens t bs (m.put s c)
  have h2:=put_lens (m:=m) s c
  exact⟨h1.1.trans h2.1,h1.2.trans h2.2⟩
theorem app_eq (l k:List (Option Blk)):app l k=l++k:=by
 induction l with
 |nil=>rfl
 |cons b r ih=>simp[app,ih]
theorem back_at {rs:List Ref}{m0:Mem}(hn:nodupR rs=true)(hd:∀j,j<rs.length->∃x,m.at (nth rs j)=some x)(hl:m0.own.length=rs.length) :
  (∀r,memR r rs=false->(∀j,r≠.loc (m.loc.length+j))->(back m rs m0).at r=m.at r) /\
  (∀r b,m0.at r=some b->(back m rs m0).at (out m.loc.length rs r)=some (renO (out m.loc.length rs) b)) /\
  (∀j,m0.loc[j]?=none->(back m rs m0).at (.loc (m.loc.length+j))=none):=by
 have hlen:=putAll_lens rs (renM (out (lenL m.loc) rs) m0.own) m
 have hb:back m rs m0=⟨(putAll m rs (renM (out m.loc.length rs) m0.own)).loc++renM (out m.loc.length rs) m0.loc,(putAll m rs (renM (out m.loc.length rs) m0.own)).own⟩:=by
  simp only[back,app_eq,lenL_eq]
 rw[lenL_eq]at hlen
 generalize hM:putAll m rs (renM (out m.loc.length rs) m0.own)=M at hb hlen
 have hin:∀r,(∀j,r≠.loc (m.loc.length+j))->(back m rs m0).at r=M.at r:=fun r hr=>by
  rw[hb]
  cases r with
  | loc j =>
   have:j<m.loc.length:=by
    rcases Nat.lt_or_ge j m.loc.length with h|h
    .exact h
    .exact absurd (by congr 1;omega) (hr (j-m.loc.length))
   simp only[Mem.at]
   rw[List.getElem?_append_left Om]
  |_=>rfl
 have hnl:∀j,j<rs.length->∀i,nth rs j≠.loc (m.loc.length+i):=fun j hj i e=>by
  obtain⟨x,hx⟩:=hd j hj
  rw[e]at hx
  simp[Mem.at]at hx
 refine⟨fun r hr hl=>?_,fun r b hr=>?_,fun j hj=>?_⟩
 .rw[hin r hl,<-hM,putAll_other hr]
 .cases r with
  |loc j =>
   simp only[out,hb,Mem.at]
   rw[List.getElem?_append_right Om,hlen.1,Nat.add_sub_cancel_left,renM_eq,List.getElem?_map]
   simp only[Mem.at]at hr
   rw[hr];rfl
  |arg j =>
   simp only[Mem.at]at hr
   have hj:j<rs.length:=by rw[<-hl];exact(List.getElem?_eq_some_iff.1 hr).1
   simp only[out]
   rw[hin _ (hnl j hj),<-hM]
   exact putAll_at hn hd hj (by rw[renM_eq,List.getElem?_map,hr];rfl)
  |bad=>cases hr
 .rw[hb]
  simp only[Mem.at]
  rw[List.getElem?_append_right Om,hlen.1,Nat.add_sub_cancel_left,renM_eq,List.getElem?_map,hj]
  rfl
theorem CallVC.frame {f:FuncId}{as:List AV}{own:List (Option Blk)}{K0 K:AV->Mem->Prop}(h:CallVC P f as ⟨[],own⟩ K0)(rs:List Ref)
  (hn:nodupR rs=true) (hp:Picks m (inn rs) rs own)
  (hk:∀A m0,K0 A m0->lenL m0.own=lenL own/\K (ren (out (lenL m.loc) rs) A) (back m rs m0)):CallVC P f (renL (inn rs) as) m K:=by
 refine⟨h.can,fun σ F w vals hm ha=>?_⟩
 have hlen:=hp.len
 let σ0:Pls:=fun r=>σ (inn rs r)
 have hbad:σ .bad=none:=(hm.dom .bad).2 rfl
 have h0loc:∀j,σ0 (.loc j)=none:=fun j=>hbad
 have h0:∀r q,σ0 r=some q->∃j,r=.arg j/\j<rs.length/\σ (nth rs j)=some q:=fun r q hq=>by
  cases r with
  |loc j=>rw[h0loc]at hq;cases hq
  |bad=>rw[show σ0 .bad=none from hbad]at hq;cases hq
  | arg j =>
   refine⟨j,rfl,?_,hq⟩
   rcases Nat.lt_or_ge j rs.length with h'|h'
   .exact h'
   .have:σ0 (.arg j)=σ .bad:=by simp only[σ0,inn,nth_bad h']
    rw[this,hbad]at hq;cases hq
 have hownat:∀j,j<rs.length->∃b,own[j]?=some b/\m.at (nth rs j)=some (renO (inn rs) b):=fun j hj=>by
  have:own[j]?=some own[j]:=List.getElem?_eq_getElem Om
  exact⟨_,this,hp.get this⟩
 have hm0:MemOk ⟨[],own⟩ σ0 F w:=by
  refine⟨fun r=>?_,fun r q hq=>?_,fun r r' pl pl' b t t' e1 e2 e3 e4=>?_,fun r pl b t e1 e2=>?_,hm.fl,hm.gl⟩
  .cases r with
   |loc j=>simp[h0loc,Mem.at]
   |bad=>simp[show σ0 .bad=none from hbad,Mem.at]
   | arg j =>
    simp only[Mem.at]
    rcases Nat.lt_or_ge j rs.length with h'|h'
    .obtain⟨b,e1,e2⟩:=hownat j h'
     have hne:σ0 (.arg j)≠none:=fun e=>by
      have:=(hm.dom (nth rs j)).1 e
      rw[e2]at this;cases this
     rw[e1]
     constructor
     .intro e;exact absurd e hne
     .intro e;cases e
    .have e1:σ0 (.arg j)=none:=by simp only[σ0,inn,nth_bad h',hbad]
     rw[e1,List.getElem?_eq_none Om]
     exact⟨fun _=>rfl,fun _=>rfl⟩
  .obtain⟨j,rfl,hj,hq'⟩:=h0 r q hq
   obtain⟨b,e1,e2⟩:=hownat j hj
   obtain⟨l1,l2⟩:=hm.lv _ _ hq'
   refine⟨fun e=>?_,fun pl e=>?_⟩
   .have:=l1 e
    rw[e2]at this
    cases b with
    |none=>simpa[Mem.at] using e1
    |some B=>simp[renO]at this
   .obtain⟨B,g1,g2⟩:=l2 pl e
    rw[e2]at g1
    cases b with
    |none=>simp[renO]at g1
    |some B0 =>
     simp only[renO,Option.some.injEq]at g1
     subst g1
     exact⟨B0,e1,g2.inn⟩
  .obtain⟨i,rfl,hi,e1'⟩:=h0 r _ e1
   obtain⟨j,rfl,hj,e2'⟩:=h0 r' _ e2
   have:=hm.inj _ _ _ _ _ _ _ e1' e2' e3 e4
   rw[nth_inj hn hi hj this]
  .obtain⟨j,rfl,hj,e1'⟩:=h0 r _ e1
   exact hm.nf _ _ _ _ e1' e2
 have ha0:ArgsOk w F σ0 as vals:=by
  obtain⟨a1,a2⟩:=ha
  rw[renL_eq]at a1
  exact⟨by simpa using a1,fun j A u hA hu=>(a2 j _ u (by rw[renL_eq,List.getElem?_map,hA];rfl) hu).inn rfl⟩
 refine(h.run σ0 F w vals hm0 ha0).mono ?_
 rintro e w' ⟨v,A,m1,σ1,F',he,hK,hv,hm1,hs,hle⟩
 obtain⟨hlo,hk⟩:=hk A m1 hK
 rw[lenL_eq,lenL_eq,<-hlen]at hlo
 rw[lenL_eq]at hk
 have hd:∀j,j<rs.length->∃x,m.at (nth rs j)=some x:=fun j hj=>by
  obtain⟨b,_,e2⟩:=hownat j hj
  exact⟨_,e2⟩
 obtain⟨b1,b2,b3⟩:=back_at (m:=m) (rs:=rs) (m0:=m1) hn hd hlo
 let ρ:=out m.loc.length rs
 -- the names that the callee's result speaks of,and those that it does not
 have hcase:∀r,(∃s,ρ s=r/\m1.at s≠none)\/(memR r rs=false/\(∀j,r≠.loc (m.loc.length+j)))\/(∃j,r=.loc (m.loc.length+j)/\m1.loc[j]?=none):=fun r=>by
  cases hr:memR r rs with
  |true =>
   obtain⟨j,hj,rfl⟩:=mem_nth hr
   refine .inl ⟨.arg j,rfl,?_⟩
   simp only[Mem.at]
   rw[List.getElem?_eq_getElem Om]
   simp
  | false =>
   by_cases hl:∃j,r=.loc (m.loc.length+j)
   .obtain⟨j,rfl⟩:=hl
    cases hj:m1.loc[j]? with
    |none=>exact .inr (.inr ⟨j,rfl,hj⟩)
    |some b=>exact .inl ⟨.loc j,rfl,by simp[Mem.at,hj]⟩
   .exact .inr (.inl ⟨rfl,fun j e=>hl ⟨j,e⟩⟩)
 have hρinj:∀s s',m1.at s≠none->m1.at s'≠none->ρ s=ρ s'->s=s':=fun s s' h1 h2 e=>by
  have key:∀j,m1.at (.arg j)≠none->j<rs.length:=fun j h=>by
   rw[<-hlo]
   rcases Nat.lt_or_ge j m1.own.length with h'|h'
   .exact h'
   .exact absurd (by simp only[Mem.at];exact List.getElem?_eq_none h') h
  have hnl:∀j,j<rs.length->∀i,nth rs j≠.loc (m.loc.length+i):=fun j hj i e=>by
   obtain⟨x,hx⟩:=hd j hj
   rw[e]at hx
   simp[Mem.at]at hx
  cases s with
  |bad=>exact absurd rfl h1
  |loc i=>cases s' with
   |bad=>exact absurd rfl h2
   |loc j=>simp[ρ,out]at e;rw[e]
   |arg j=>exact absurd e.symm (hnl j (key j h2) i)
  |arg i=>cases s' with
   |bad=>exact absurd rfl h2
   |loc j=>exact absurd e (hnl i (key i h1) j)
   |arg j=>rw[nth_inj hn (key i h1) (key j h2) e]
 classical
 let σ':Pls:=fun r=>if h:∃s,ρ s=r/\m1.at s≠none then σ1 (Classical.choose h) else σ r
 have hin:∀s,m1.at s≠none->σ' (ρ s)=σ1 s:=fun s hs'=>by
  have hex:∃s',ρ s'=ρ s/\m1.at s'≠none:=⟨s,rfl,hs'⟩
  simp only[σ',hex,dif_pos]
  obtain⟨g1,g2⟩:=Classical.choose_spec hex
  rw[hρinj _ _ g2 hs' g1]
 have hlive:∀s q,σ1 s=some q->m1.at s≠none:=fun s q h e=>by
  rw[(hm1.dom s).2 e]at h;cases h
 have hin':∀s q,σ1 s=some q->σ' (ρ s)=some q:=fun s q hq=>by rw[hin s (hlive s q hq),hq]
 have hold:∀r,¬ (∃s,ρ s=r/\m1.at s≠none)->σ' r=σ r:=fun r h=>by simp only[σ',h,dif_neg,not_false_eq_true]
 have hown0:∀b,Owned σ0 b->Owned σ b:=fun b ⟨r,pl,t,e1,e2⟩=>⟨_,pl,t,e1,e2⟩
 have hown1:∀b,Owned σ1 b->Owned σ0 b\/w.heap.size<=b:=hs.own
 -- an old name that the callee was not handed
 have holdn:∀r q,¬ (∃s,ρ s=r/\m1.at s≠none)->σ r=some q->memR r rs=false/\(∀j,r≠.loc (m.loc.length+j)):=fun r q hne hq=>by
  rcases hcase r with h1|h1|⟨j,rfl,hj⟩
  .exact absurd h1 hne
  .exact h1
  .have:=(hm.dom (.loc (m.loc.length+j))).2 (by simp[Mem.at])
   rw[this]at hq;cases hq
 have hnown:∀r pl b t,memR r rs=false->σ r=some (some pl)->pl.loc=some (b,t)->¬ Owned σ0 b:=fun r pl b t hr e1 e2 ⟨s,pl',t',g1,g2⟩=>by
  obtain⟨j,rfl,hj,g1'⟩:=h0 s _ g1
  have:=hm.inj _ _ _ _ _ _ _ e1 g1' e2 g2
  rw[this,nth_mem hj]at hr
  cases hr
 have hsle:SLe σ σ':=fun r q hq=>by
  by_cases hex:∃s,ρ s=r/\m1.at s≠none
  .obtain⟨s,rfl,hs'⟩:=hex
   rw[hin s hs']
   cases s with
   |bad=>exact absurd rfl hs'
   |loc j =>
    have:=(hm.dom (.loc (m.loc.length+j))).2 (by simp[Mem.at])
    rw[show ρ (.loc j)=.loc (m.loc.length+j) from rfl,this]at hq
    cases hq
   |arg j=>exact hle (.arg j) q hq
  .rw[hold r hex]
   exact⟨q,hq,QLe.refl q⟩
 have hfkeep:∀b,F b->w'.heap[b]?=w.heap[b]?:=fun b hb=>hs.keep b (hm.fl b hb) fun⟨r,pl,t,e1,e2⟩=>(hm.nf _ pl b t e1 e2).1 hb
 have hm':MemOk (back m rs m1) σ' F' w':=by
  refine⟨fun r=>?_,fun r q hq=>?_,fun r r' pl pl' b t t' e1 e2 e3 e4=>?_,fun r pl b t e1 e2=>?_,hm1.fl,hm1.gl⟩
  .rcases hcase r with ⟨s,rfl,hs'⟩|h1|⟨j,rfl,hj⟩
   .rw[hin s hs',hm1.dom s]
    cases hb:m1.at s with
    |none=>exact absurd hb hs'
    |some b=>rw[b2 s b hb];simp
   .rw [b1 r h1.1 h1.2,← hm.dom r]
    have:¬ (∃s,ρ s=r/\m1.at s≠none):=fun⟨s,e,hs'⟩=>by
     subst e
     cases s with
     |bad=>exact absurd rfl hs'
     |loc j=>exact h1.2 j rfl
     | arg j =>
      have:j<rs.length:=by
       rw[<-hlo]
       rcases Nat.lt_or_ge j m1.own.length with h'|h'
       .exact h'
       .exact absurd (by simp only[Mem.at];exact List.getElem?_eq_none h') hs'
      have h2:=h1.1
      rw[show ρ (.arg j)=nth rs j from rfl,nth_mem this]at h2
      cases h2
    rw[hold r this]
   .rw [b3 j hj]
    have:¬ (∃s,ρ s=.loc (m.loc.length+j)/\m1.at s≠none):=fun⟨s,e,hs'⟩=>by
     cases s with
     |bad=>exact absurd rfl hs'
     |loc i =>
      simp[ρ,out]at e
      subst e
      exact hs' hj
     | arg i =>
      have hi:i<rs.length:=by
       rw[<-hlo]
       rcases Nat.lt_or_ge i m1.own.length with h'|h'
       .exact h'
       .exact absurd (by simp only[Mem.at];exact List.getElem?_eq_none h') hs'
      obtain⟨x,hx⟩:=hd i hi
      rw[show nth rs i=.loc (m.loc.length+j) from e]at hx
      simp[Mem.at]at hx
    rw[hold _ this,hm.dom]
    simp[Mem.at]
  .by_cases hex:∃s,ρ s=r/\m1.at s≠none
   .obtain⟨s,rfl,hs'⟩:=hex
    rw[hin s hs']at hq
    obtain⟨l1,l2⟩:=hm1.lv s q hq
    refine⟨fun e=>by rw[b2 s none (l1 e)];rfl,fun pl e=>?_⟩
    obtain⟨B,g1,g2⟩:=l2 pl e
    exact⟨renB ρ B,by rw[b2 s _ g1];rfl,g2.out hin'⟩
   .rw[hold r hex]at hq
    obtain⟨n1,n2⟩:=holdn r q hex hq
    obtain⟨l1,l2⟩:=hm.lv r q hq
    rw[b1 r n1 n2]
    refine⟨l1,fun pl e=>?_⟩
    obtain⟨B,g1,g2⟩:=l2 pl e
    refine⟨B,g1,g2.mono hs.fro hfkeep hsle fun b t hl=>?_⟩
    subst e
    exact hs.keep b (hm.nf r pl b t hq hl).2 (hnown r pl b t n1 hq hl)
  .have mixed:∀s r' pl pl' b t t',m1.at s≠none->¬ (∃s,ρ s=r'/\m1.at s≠none)->σ1 s=some (some pl)->σ r'=some (some pl')->pl.loc=some (b,t)->pl'.loc=some (b,t')->False:=by
    intro s r' pl pl' b t t' hs' hne e1 e2 e3 e4
    obtain⟨n1,n2⟩:=holdn r' _ hne e2
    rcases hown1 b ⟨s,pl,t,e1,e3⟩ with h1|h1
    .exact hnown r' pl' b t' n1 e2 e4 h1
    .have:=(hm.nf r' pl' b t' e2 e4).2;omega
   by_cases hex:∃s,ρ s=r/\m1.at s≠none
   .obtain⟨s,rfl,hs'⟩:=hex
    rw[hin s hs']at e1
    by_cases hex':∃s,ρ s=r'/\m1.at s≠none
    .obtain⟨s',rfl,hs2⟩:=hex'
     rw[hin s' hs2]at e2
     rw[hm1.inj _ _ _ _ _ _ _ e1 e2 e3 e4]
    .rw[hold r' hex']at e2
     exact(mixed s r' pl pl' b t t' hs' hex' e1 e2 e3 e4).elim
   .rw[hold r hex]at e1
    by_cases hex':∃s,ρ s=r'/\m1.at s≠none
    .obtain⟨s',rfl,hs2⟩:=hex'
     rw[hin s' hs2]at e2
     exact(mixed s' r pl' pl b t' t hs2 hex e2 e1 e4 e3).elim
    .rw[hold r' hex']at e2
     exact hm.inj _ _ _ _ _ _ _ e1 e2 e3 e4
  .by_cases hex:∃s,ρ s=r/\m1.at s≠none
   .obtain⟨s,rfl,hs'⟩:=hex
    rw[hin s hs']at e1
    exact hm1.nf s pl b t e1 e2
   .rw[hold r hex]at e1
    obtain⟨n1,n2⟩:=holdn r _ hex e1
    obtain⟨g1,g2⟩:=hm.nf r pl b t e1 e2
    refine⟨fun hb=>?_,Nat.lt_of_lt_of_le g2 hs.size⟩
    rcases hs.fro' b hb with h1|h1|h1
    .exact g1 h1
    .exact hnown r pl b t n1 e1 e2 h1
    .omega
 refine⟨v,ren ρ A,back m rs m1,σ',F',he,hk,hv.out hin',hm',⟨hs.os,hs.tape,hs.output,hs.drawn,hs.size,fun b hb hn'=>hs.keep b hb fun h=>hn' (hown0 b h),hs.fro,fun b hb=>?_,fun b ⟨r,pl,t,e1,e2⟩=>?_⟩,hsle⟩
 .rcases hs.fro' b hb with h1|h1|h1
  .exact .inl h1
  .exact .inr (.inl (hown0 b h1))
  .exact .inr (.inr h1)
 .by_cases hex:∃s,ρ s=r/\m1.at s≠none
  .obtain⟨s,rfl,hs'⟩:=hex
   rw[hin s hs']at e1
   rcases hown1 b ⟨s,pl,t,e1,e2⟩ with h1|h1
   .exact .inl (hown0 b h1)
   .exact .inr h1
  .rw[hold r hex]at e1
   exact .inl ⟨r,pl,t,e1,e2⟩
end
end Go.Ab
namespace Go.Ab
set_option linter.unusedSimpArgs false
set_option linter.unusedVariables false
def envA:Nat->List AV->Env
 |_,[]=>[]
 |k,x::r=>(k,x)::envA (k+1) r
def evRes (T:Tab)(m:Mem)(env:Env):List ResultVar->Option (List AV × List Prop)
 |[]=>some ([],[])
 | .tmp t :: rs=>match strip (get env t) with
  |(A,p)=>match evRes T m env rs with
   |some (l,q)=>some (A::l,cat p q)
   |none=>none
 | .cell t ty :: rs=>match evLoad T m ty (get env t) with
  |some (A,p)=>match evRes T m env rs with
   |some (l,q)=>some (A::l,cat p q)
   |none=>none
  |none=>none
def resA:List AV->AV
 |[x]=>x
 |xs=>.tup xs
def FinR {S:Type}(T:Tab)(rs:List ResultVar)(enc:S->List AV × Mem)(J:S->Prop)(env:Env)(m:Mem):Prop:=match evRes T m env rs with
 |some (l,p)=>obs p (∃s,J s/\Le (envA 0 l) m (envA 0 (enc s).1) (enc s).2/\lenL2 l=lenL2 (enc s).1)
 |none=>False
where lenL2:List AV->Nat
 |[]=>0
 |_::r=>lenL2 r+1
def finR {S:Type}(T:Tab)(rs:List ResultVar)(enc:S->List AV × Mem)(J:S->Prop):Post:=fun e env m=>match e with
 | .ret=>FinR T rs enc J env m
 | .normal=>FinR T rs enc J env m
 |_=>False
theorem lenL2_eq (l:List AV):FinR.lenL2 l=l.length:=by
 induction l with
 |nil=>rfl
 |cons x r ih=>simp[FinR.lenL2,ih]
def Ret {S:Type}(enc:S->List AV × Mem)(J:S->Prop):AV->Mem->Prop:=fun A m=>∃s,J s/\A=resA (enc s).1/\m=(enc s).2
section
variable {P:Program}{T:Tab}{w:World}{F:Nat->Prop}{σ:Pls}{m:Mem}
theorem envA_get:∀(ys:List AV) (k t:Nat),get (envA k ys) t=(if k<=t then match ys[t-k]? with|some x=>x|none=>.junk else .junk)
 |[],k,t=>by simp[envA,get]
 | y :: r,k,t=>by
  simp only[envA,get]
  cases hk:Nat.beq k t with
  |true =>
   have:=Nat.eq_of_beq_eq_true hk
   subst this
   simp
  | false =>
   have hne:=Nat.ne_of_beq_eq_false hk
   simp only[cond_false]
   rw[envA_get r (k+1) t]
   by_cases hle:k+1<=t
   .rw[if_pos hle,if_pos Om]
    have:t-k=(t-(k+1))+1:=by omega
    rw[this,List.getElem?_cons_succ]
   .rw[if_neg hle,if_neg Om]
theorem envA_ok {as:List AV}{vals:List Value}(h:ArgsOk w F σ as vals)(n:Nat):EnvOk (envA 0 as) w F σ (vals.toArray++Array.replicate n undef):=by
 intro t
 rw[envA_get,if_pos (Nat.zero_le _),Nat.sub_zero]
 split
 .rename_i x hx
  have ht:t<vals.length:=by rw[h.1];exact(List.getElem?_eq_some_iff.1 hx).1
  have hu:vals[t]?=some vals[t]:=List.getElem?_eq_getElem ht
  have:(vals.toArray++Array.replicate n undef).getD t undef=vals[t]:=by
   rw[Array.getD_eq_getD_getElem?,Array.getElem?_append_left (by simpa using ht)]
   simp[hu]
  rw[this]
  exact h.2 t x _ hx hu
 .exact .junk
theorem evRes_ok (hT:TabOk P T)(hm:MemOk m σ F w){env:Env}{tmps:Array Value}(he:EnvOk env w F σ tmps):∀(rs:List ResultVar) (l:List AV) (p:List Prop),evRes T m env rs=some (l,p)->(∀q∈p,q) ->
  ∃vs:List Value,(rs.mapM (resOne tmps)).run P w=.ok vs w/\ArgsOk w F σ l vs
 |[],l,p,h,_=>by
  simp only[evRes,Option.some.injEq,Prod.mk.injEq]at h
  obtain⟨rfl,rfl⟩:=h
  exact⟨[],by simp,rfl,fun j x u h=>by simp at h⟩
 | .tmp t::rs,l,p,h,hp=>by
  unfold evRes at h
  split at h
  rename_i A p1 e1
  split at h<;>try (cases h;done)
  rename_i l1 q1 e2
  simp only[Option.some.injEq,Prod.mk.injEq]at h
  obtain⟨rfl,rfl⟩:=h
  obtain⟨hp1,hp2⟩:=all_cat hp
  obtain⟨vs,g1,g2,g3⟩:=evRes_ok hT hm he rs l1 q1 e2 hp2
  have hv:=strip_ok (he t) (by rw[e1];exact hp1)
  rw[e1]at hv
  refine⟨tmps.getD t undef::vs,by simp[List.mapM_cons,resOne,g1],by simp[g2],fun j y u hy hu=>?_⟩
  cases j with
  |zero=>simp at hy hu;subst hy;subst hu;simpa using hv
  |succ j=>exact g3 j y u (by simpa using hy) (by simpa using hu)
 | .cell t ty :: rs,l,p,h,hp=>by
  unfold evRes at h
  split at h<;>try (cases h;done)
  rename_i A p1 hl
  split at h<;>try (cases h;done)
  rename_i l1 q1 e2
  simp only[Option.some.injEq,Prod.mk.injEq]at h
  obtain⟨rfl,rfl⟩:=h
  obtain⟨hp1,hp2⟩:=all_cat hp
  obtain⟨vs,g1,g2,g3⟩:=evRes_ok hT hm he rs l1 q1 e2 hp2
  obtain⟨u0,hu0,hrun⟩:=evLoad_ok hT hm (he t) hl hp1
  have hr:=hrun w (Agree.refl F σ w)
  have hptr:∃a,tmps.getD t undef=.pointer (some a):=by
   unfold Instr.loadAt Instr.sureAddr at hr
   generalize tmps.getD t undef=X at hr
   split at hr
   .exact⟨_,rfl⟩
   .simp at hr
  obtain⟨ad,had⟩:=hptr
  rw[had]at hr
  have hr':(loadVar ty ad).run P w=.ok u0 w:=by simpa[Instr.loadAt,Instr.sureAddr] using hr
  refine⟨u0::vs,by simp[List.mapM_cons,resOne,g1,had,asAddr,hr'],by simp[g2],fun j y u hy hu=>?_⟩
  cases j with
  |zero=>simp at hy hu;subst hy;subst hu;exact hu0
  |succ j=>exact g3 j y u (by simpa using hy) (by simpa using hu)
theorem call_rule (hT:TabOk P T){f:FuncId}{fn:Func}{c:Code}{N:Nat}{rs:List ResultVar}{as:List AV}{own:List (Option Blk)}{S:Type}(enc:S->List AV × Mem)(J:S->Prop)(hf:P.funcs[f]?=some fn)(hb:fn.body=some c)(hN:fn.ntmps=N)(hrs:fn.results=rs.toArray)
  (hname:(fn.name == "runtime.NumGoroutine")=false) (hargs:Nat.ble as.length N=true) (h:Ev (vc P T N c (envA 0 as) ⟨[],own⟩ (finR T rs enc J))):CallVC P f as ⟨[],own⟩ (Ret enc J):=by
 refine⟨⟨fn,hf,hname,by simp[hb]⟩,fun σ F w vals hm ha=>?_⟩
 refine callsFen.1 (callsIn_of_wp_marks (F:=Fen none) (n:=0) hf hb trivial ?_ rfl)
 have hle:=Nat.le_of_ble_eq_true hargs
 have hl:=ha.1
 have hwp:=(vc_ok hT c (envA 0 as) ⟨[],own⟩ (finR T rs enc J) h.o).run none ⟨w.heap.size,[]⟩ {tmps:=vals.toArray++Array.replicate (fn.ntmps-vals.toArray.size) undef,defers:=[]} w σ F (by simp[hN];omega) Ctx.nil (envA_ok ha _) hm
 refine wpIn_mono hwp ?_
 rintro e a w1 ⟨env',m',σ',F',q1,q2,q3,q4,q5,q6,q7⟩
 have hsle:∀σ2:Pls,SArg σ' σ2->SLe σ σ2:=fun σ2 h r q hq=>by
  cases r with
  |arg j=>exact(q7.trans h) j q hq
  |loc j=>rw[(hm.dom (.loc j)).2 (by simp[Mem.at])]at hq;cases hq
  |bad=>rw[(hm.dom .bad).2 rfl]at hq;cases hq
 have hend:FinR T rs enc J env' m'->LeavesInM (Fen none) 0 P fn a.tmps (fun e w'=>∃v A m' σ' F',e=.returned v/\Ret enc J A m'/\Vc w' F' σ' A v/\MemOk m' σ' F' w'/\Step σ F w σ' F' w'/\SLe σ σ') a.defers .returning w1:=by
  intro hfin
  obtain⟨Ds,hDs,hnd,hD⟩:=q3.marks
  rw[hDs,List.append_nil]
  refine leaves_marks Ds w1 hnd (fun D h=>(hD D h).2.1) fun w' k1 k2 k3 kd k4 k5=>?_
  have kF:∀b,F' b->w'.heap[b]?=w1.heap[b]?:=fun b hb=>k5 b fun hm=>(hD b hm).2.2.2 hb
  have kO:∀b,Owned σ' b->w'.heap[b]?=w1.heap[b]?:=fun b hb=>k5 b fun hm=>(hD b hm).2.2.1 hb
  replace q4:EnvOk env' w' F' σ' a.tmps:=q4.mono (fun _ h=>h) kF (SLe.refl σ')
  replace q5:MemOk m' σ' F' w':=q5.world Om fun b hb=>by
   rcases hb with hb|hb
   .exact kF b hb
   .exact kO b hb
  replace q6:Step σ F w σ' F' w':=⟨k1.trans q6.os,k2.trans q6.tape,k3.trans q6.output,Nat.le_trans q6.drawn (Nat.le_of_eq kd.symm),by rw[k4];exact q6.size,fun b hb ho=>(k5 b fun hm=>by have:w.heap.size<=b:=(hD b hm).1;omega).trans (q6.keep b hb ho),q6.fro,q6.fro',q6.own⟩
  unfold FinR at hfin
  split at hfin<;>try exact hfin.elim
  rename_i l p hl
  obtain⟨hp,s,hJ,hLe,hlen⟩:=obs_ok hfin
  obtain⟨vs,g1,g2⟩:=evRes_ok hT q5 q4 rs l p hl hp
  have hrun:(results fn a.tmps).run P w'=.ok (if h:vs.toArray.size=1 then vs.toArray[0] else .tuple vs.toArray) w':=by
   have e:results fn a.tmps=(do let vs <-fn.results.mapM (resOne a.tmps);pure (if h:vs.size=1 then vs[0] else .tuple vs)):=by
    unfold results
    congr 1
   rw[e,hrs,Array.mapM_eq_mapM_toList]
   simp[g1]
  have hE:=envA_ok g2 0
  simp only[Array.replicate_zero,Array.append_empty]at hE
  obtain⟨σ2,r1,r2,r3,r4⟩:=le_ok hLe hE q5
  have hlen':vs.length=(enc s).1.length:=by rw[g2.1,<-lenL2_eq,hlen,lenL2_eq]
  have hat:∀(j:Nat) A u,(enc s).1[j]?=some A->vs[j]?=some u->Vc w' F' σ2 A u:=fun j A u hA hu=>by
   have:=r1 j
   rw[envA_get,if_pos (Nat.zero_le _),Nat.sub_zero,hA]at this
   simpa[hu] using this
  refine⟨_,hrun,_,resA (enc s).1,(enc s).2,σ2,F',rfl,⟨s,hJ,rfl,rfl⟩,?_,r2,q6.trans r3,hsle σ2 r4⟩
  have tup:Vc w' F' σ2 (.tup (enc s).1) (.tuple vs.toArray):=.tup hlen' hat
  generalize (enc s).1=L at hlen' hat tup
  match L,vs,hlen',hat,tup with
  |[],[],_,_,tup=>simpa[resA] using tup
  |[x],[v],_,hat,_=>simpa[resA] using hat 0 x v rfl rfl
  |x::y::xs,a::b::vs,_,_,tup=>simpa[resA] using tup
  |[],_::_,h,_,_=>simp at h
  |_::_,[],h,_,_=>simp at h
  |[_],_::_::_,h,_,_=>simp at h
  |_::_::_,[_],h,_,_=>simp at h
 cases e with
 |normal=>exact hend q1
 |ret=>exact hend q1
 |_=>exact q1.elim
theorem CallVC.at {f:FuncId}{as:List AV}{own:List (Option Blk)}{S:Type}{enc:S->List AV × Mem}{J:S->Prop}{K:AV->Mem->Prop}(h:CallVC P f as ⟨[],own⟩ (Ret enc J))(rs:List Ref)
  (hn:nodupR rs=true) (hp:Picks m (inn rs) rs own)
  (hk:∀s,J s->lenL (enc s).2.own=lenL own/\Ev (frc (ren (out (lenL m.loc) rs) (resA (enc s).1)) fun A=>frcM (back m rs (enc s).2) fun m=>K A m)):CallVC P f (renL (inn rs) as) m K :=
 h.frame rs hn hp fun A m0 ⟨s,hJ,e1,e2⟩=>by
  subst e1;subst e2
  have:=hk s hJ
  rw[frc_eq,frcM_eq]at this
  exact⟨this.1,this.2.o⟩
end
section
variable {P:Program}{T:Tab}{w:World}{F:Nat->Prop}{σ:Pls}{m:Mem}
theorem Awp.of_vc (hT:TabOk P T){N:Nat}{c:Code}{env:Env}{m:Mem}{Q:Post}(h:Ev (vc P T N c env m Q)):Awp P N c env m Q:=vc_ok hT c env m Q h.o
end
end Go.Ab
namespace Go.Ab
set_option linter.unusedSimpArgs false
set_option linter.unusedVariables false
open Go.RowKit
theorem get_mem:∀(env:Env) (t:Nat),(∃j:Nat,env[j]?=some (t,get env t))\/get env t=.junk
 |[],t=>.inr rfl
 | (k,A) :: r,t=>by
  simp only[get]
  cases hk:Nat.beq k t with
  |true =>
   have:=Nat.eq_of_beq_eq_true hk
   subst this
   exact .inl ⟨0,rfl⟩
  |false =>
   rcases get_mem r t with ⟨j,hj⟩|h
   .exact .inl ⟨j+1,by simpa using hj⟩
   .exact .inr h
def bindE:List Nat->List AV->Env->Env
 |p::ps,A::as,e=>bindE ps as ((p,A)::e)
 |_,_,e=>e
theorem bind_ok {w:World}{F:Nat->Prop}{σ:Pls}:∀(ps:List Nat) (args:List AV) (vals:List Value) (env:Env) (tmps:Array Value),EnvOk env w F σ tmps->(∀p∈ps,p<tmps.size)->ArgsOk w F σ args vals->ps.length=args.length ->
  EnvOk (bindE ps args env) w F σ ((ps.zip vals).foldl (fun t (p:Nat × Value)=>t.setIfInBounds p.1 p.2) tmps)
 |[],args,vals,env,tmps,he,_,_,_=>by simpa[bindE] using he
 |p::ps,[],vals,env,tmps,_,_,_,hl=>by simp at hl
 |p::ps,A::as,[],env,tmps,_,_,ha,_=>by have:=ha.1;simp at this
 |p::ps,A::as,v::vals,env,tmps,he,hp,ha,hl=>by
  simp only[bindE,List.zip_cons_cons,List.foldl_cons]
  refine bind_ok ps as vals ((p,A)::env) _ ?_ (fun q hq=>by rw[Array.size_setIfInBounds];exact hp q (by simp[hq])) ⟨by have:=ha.1;simpa using this,fun j B u hB hu=>ha.2 (j+1) B u (by simpa using hB) (by simpa using hu)⟩ (by simpa using hl)
  exact put_ok (a:={tmps:=tmps,defers:=[]}) rfl (hp p (by simp)) he (ha.2 0 A v rfl rfl)
section
variable {P:Program}{m:Mem}
theorem YieldVC.frame {f:Nat}{as:List AV}{own:List (Option Blk)}{K0 K:AV->Mem->Prop}(h:YieldVC P f as ⟨[],own⟩ K0)(rs:List Ref)
  (hn:nodupR rs=true) (hp:Picks m (inn rs) rs own)
  (hk:∀A m0,K0 A m0->lenL m0.own=lenL own/\K (ren (out (lenL m.loc) rs) A) (back m rs m0)):YieldVC P f (renL (inn rs) as) m K:=by
 refine⟨fun σ F w vals hm ha=>?_⟩
 have hlen:=hp.len
 let σ0:Pls:=fun r=>σ (inn rs r)
 have hbad:σ .bad=none:=(hm.dom .bad).2 rfl
 have h0loc:∀j,σ0 (.loc j)=none:=fun j=>hbad
 have h0:∀r q,σ0 r=some q->∃j,r=.arg j/\j<rs.length/\σ (nth rs j)=some q:=fun r q hq=>by
  cases r with
  |loc j=>rw[h0loc]at hq;cases hq
  |bad=>rw[show σ0 .bad=none from hbad]at hq;cases hq
  | arg j =>
   refine⟨j,rfl,?_,hq⟩
   rcases Nat.lt_or_ge j rs.length with h'|h'
   .exact h'
   .have:σ0 (.arg j)=σ .bad:=by simp only[σ0,inn,nth_bad h']
    rw[this,hbad]at hq;cases hq
 have hownat:∀j,j<rs.length->∃b,own[j]?=some b/\m.at (nth rs j)=some (renO (inn rs) b):=fun j hj=>by
  have:own[j]?=some own[j]:=List.getElem?_eq_getElem Om
  exact⟨_,this,hp.get this⟩
 have hm0:MemOk ⟨[],own⟩ σ0 F w:=by
  refine⟨fun r=>?_,fun r q hq=>?_,fun r r' pl pl' b t t' e1 e2 e3 e4=>?_,fun r pl b t e1 e2=>?_,hm.fl,hm.gl⟩
  .cases r with
   |loc j=>simp[h0loc,Mem.at]
   |bad=>simp[show σ0 .bad=none from hbad,Mem.at]
   | arg j =>
    simp only[Mem.at]
    rcases Nat.lt_or_ge j rs.length with h'|h'
    .obtain⟨b,e1,e2⟩:=hownat j h'
     have hne:σ0 (.arg j)≠none:=fun e=>by
      have:=(hm.dom (nth rs j)).1 e
      rw[e2]at this;cases this
     rw[e1]
     constructor
     .intro e;exact absurd e hne
     .intro e;cases e
    .have e1:σ0 (.arg j)=none:=by simp only[σ0,inn,nth_bad h',hbad]
     rw[e1,List.getElem?_eq_none Om]
     exact⟨fun _=>rfl,fun _=>rfl⟩
  .obtain⟨j,rfl,hj,hq'⟩:=h0 r q hq
   obtain⟨b,e1,e2⟩:=hownat j hj
   obtain⟨l1,l2⟩:=hm.lv _ _ hq'
   refine⟨fun e=>?_,fun pl e=>?_⟩
   .have:=l1 e
    rw[e2]at this
    cases b with
    |none=>simpa[Mem.at] using e1
    |some B=>simp[renO]at this
   .obtain⟨B,g1,g2⟩:=l2 pl e
    rw[e2]at g1
    cases b with
    |none=>simp[renO]at g1
    |some B0 =>
     simp only[renO,Option.some.injEq]at g1
     subst g1
     exact⟨B0,e1,g2.inn⟩
  .obtain⟨i,rfl,hi,e1'⟩:=h0 r _ e1
   obtain⟨j,rfl,hj,e2'⟩:=h0 r' _ e2
   have:=hm.inj _ _ _ _ _ _ _ e1' e2' e3 e4
   rw[nth_inj hn hi hj this]
  .obtain⟨j,rfl,hj,e1'⟩:=h0 r _ e1
   exact hm.nf _ _ _ _ e1' e2
 have ha0:ArgsOk w F σ0 as vals:=by
  obtain⟨a1,a2⟩:=ha
  rw[renL_eq]at a1
  exact⟨by simpa using a1,fun j A u hA hu=>(a2 j _ u (by rw[renL_eq,List.getElem?_map,hA];rfl) hu).inn rfl⟩
 obtain⟨fn,tmps,asg,bdy,hy,hr⟩:=h.run σ0 F w vals hm0 ha0
 refine⟨fn,tmps,asg,bdy,hy,hr.mono ?_⟩
 rintro e w' ⟨v,A,m1,σ1,F',he,hK,hv,hm1,hs,hle⟩
 obtain⟨hlo,hk⟩:=hk A m1 hK
 rw[lenL_eq,lenL_eq,<-hlen]at hlo
 rw[lenL_eq]at hk
 have hd:∀j,j<rs.length->∃x,m.at (nth rs j)=some x:=fun j hj=>by
  obtain⟨b,_,e2⟩:=hownat j hj
  exact⟨_,e2⟩
 obtain⟨b1,b2,b3⟩:=back_at (m:=m) (rs:=rs) (m0:=m1) hn hd hlo
 let ρ:=out m.loc.length rs
 -- the names that the callee's result speaks of,and those that it does not
 have hcase:∀r,(∃s,ρ s=r/\m1.at s≠none)\/(memR r rs=false/\(∀j,r≠.loc (m.loc.length+j)))\/(∃j,r=.loc (m.loc.length+j)/\m1.loc[j]?=none):=fun r=>by
  cases hr:memR r rs with
  |true =>
   obtain⟨j,hj,rfl⟩:=mem_nth hr
   refine .inl ⟨.arg j,rfl,?_⟩
   simp only[Mem.at]
   rw[List.getElem?_eq_getElem Om]
   simp
  | false =>
   by_cases hl:∃j,r=.loc (m.loc.length+j)
   .obtain⟨j,rfl⟩:=hl
    cases hj:m1.loc[j]? with
    |none=>exact .inr (.inr ⟨j,rfl,hj⟩)
    |some b=>exact .inl ⟨.loc j,rfl,by simp[Mem.at,hj]⟩
   .exact .inr (.inl ⟨rfl,fun j e=>hl ⟨j,e⟩⟩)
 have hρinj:∀s s',m1.at s≠none->m1.at s'≠none->ρ s=ρ s'->s=s':=fun s s' h1 h2 e=>by
  have key:∀j,m1.at (.arg j)≠none->j<rs.length:=fun j h=>by
   rw[<-hlo]
   rcases Nat.lt_or_ge j m1.own.length with h'|h'
   .exact h'
   .exact absurd (by simp only[Mem.at];exact List.getElem?_eq_none h') h
  have hnl:∀j,j<rs.length->∀i,nth rs j≠.loc (m.loc.length+i):=fun j hj i e=>by
   obtain⟨x,hx⟩:=hd j hj
   rw[e]at hx
   simp[Mem.at]at hx
  cases s with
  |bad=>exact absurd rfl h1
  |loc i=>cases s' with
   |bad=>exact absurd rfl h2
   |loc j=>simp[ρ,out]at e;rw[e]
   |arg j=>exact absurd e.symm (hnl j (key j h2) i)
  |arg i=>cases s' with
   |bad=>exact absurd rfl h2
   |loc j=>exact absurd e (hnl i (key i h1) j)
   |arg j=>rw[nth_inj hn (key i h1) (key j h2) e]
 classical
 let σ':Pls:=fun r=>if h:∃s,ρ s=r/\m1.at s≠none then σ1 (Classical.choose h) else σ r
 have hin:∀s,m1.at s≠none->σ' (ρ s)=σ1 s:=fun s hs'=>by
  have hex:∃s',ρ s'=ρ s/\m1.at s'≠none:=⟨s,rfl,hs'⟩
  simp only[σ',hex,dif_pos]
  obtain⟨g1,g2⟩:=Classical.choose_spec hex
  rw[hρinj _ _ g2 hs' g1]
 have hlive:∀s q,σ1 s=some q->m1.at s≠none:=fun s q h e=>by
  rw[(hm1.dom s).2 e]at h;cases h
 have hin':∀s q,σ1 s=some q->σ' (ρ s)=some q:=fun s q hq=>by rw[hin s (hlive s q hq),hq]
 have hold:∀r,¬ (∃s,ρ s=r/\m1.at s≠none)->σ' r=σ r:=fun r h=>by simp only[σ',h,dif_neg,not_false_eq_true]
 have hown0:∀b,Owned σ0 b->Owned σ b:=fun b ⟨r,pl,t,e1,e2⟩=>⟨_,pl,t,e1,e2⟩
 have hown1:∀b,Owned σ1 b->Owned σ0 b\/w.heap.size<=b:=hs.own
 -- an old name that the callee was not handed
 have holdn:∀r q,¬ (∃s,ρ s=r/\m1.at s≠none)->σ r=some q->memR r rs=false/\(∀j,r≠.loc (m.loc.length+j)):=fun r q hne hq=>by
  rcases hcase r with h1|h1|⟨j,rfl,hj⟩
  .exact absurd h1 hne
  .exact h1
  .have:=(hm.dom (.loc (m.loc.length+j))).2 (by simp[Mem.at])
   rw[this]at hq;cases hq
 have hnown:∀r pl b t,memR r rs=false->σ r=some (some pl)->pl.loc=some (b,t)->¬ Owned σ0 b:=fun r pl b t hr e1 e2 ⟨s,pl',t',g1,g2⟩=>by
  obtain⟨j,rfl,hj,g1'⟩:=h0 s _ g1
  have:=hm.inj _ _ _ _ _ _ _ e1 g1' e2 g2
  rw[this,nth_mem hj]at hr
  cases hr
 have hsle:SLe σ σ':=fun r q hq=>by
  by_cases hex:∃s,ρ s=r/\m1.at s≠none
  .obtain⟨s,rfl,hs'⟩:=hex
   rw[hin s hs']
   cases s with
   |bad=>exact absurd rfl hs'
   |loc j =>
    have:=(hm.dom (.loc (m.loc.length+j))).2 (by simp[Mem.at])
    rw[show ρ (.loc j)=.loc (m.loc.length+j) from rfl,this]at hq
    cases hq
   |arg j=>exact hle (.arg j) q hq
  .rw[hold r hex]
   exact⟨q,hq,QLe.refl q⟩
 have hfkeep:∀b,F b->w'.heap[b]?=w.heap[b]?:=fun b hb=>hs.keep b (hm.fl b hb) fun⟨r,pl,t,e1,e2⟩=>(hm.nf _ pl b t e1 e2).1 hb
 have hm':MemOk (back m rs m1) σ' F' w':=by
  refine⟨fun r=>?_,fun r q hq=>?_,fun r r' pl pl' b t t' e1 e2 e3 e4=>?_,fun r pl b t e1 e2=>?_,hm1.fl,hm1.gl⟩
  .rcases hcase r with ⟨s,rfl,hs'⟩|h1|⟨j,rfl,hj⟩
   .rw[hin s hs',hm1.dom s]
    cases hb:m1.at s with
    |none=>exact absurd hb hs'
    |some b=>rw[b2 s b hb];simp
   .rw [b1 r h1.1 h1.2,← hm.dom r]
    have:¬ (∃s,ρ s=r/\m1.at s≠none):=fun⟨s,e,hs'⟩=>by
     subst e
     cases s with
     |bad=>exact absurd rfl hs'
     |loc j=>exact h1.2 j rfl
     | arg j =>
      have:j<rs.length:=by
       rw[<-hlo]
       rcases Nat.lt_or_ge j m1.own.length with h'|h'
       .exact h'
       .exact absurd (by simp only[Mem.at];exact List.getElem?_eq_none h') hs'
      have h2:=h1.1
      rw[show ρ (.arg j)=nth rs j from rfl,nth_mem this]at h2
      cases h2
    rw[hold r this]
   .rw [b3 j hj]
    have:¬ (∃s,ρ s=.loc (m.loc.length+j)/\m1.at s≠none):=fun⟨s,e,hs'⟩=>by
     cases s with
     |bad=>exact absurd rfl hs'
     |loc i =>
      simp[ρ,out]at e
      subst e
      exact hs' hj
     | arg i =>
      have hi:i<rs.length:=by
       rw[<-hlo]
       rcases Nat.lt_or_ge i m1.own.length with h'|h'
       .exact h'
       .exact absurd (by simp only[Mem.at];exact List.getElem?_eq_none h') hs'
      obtain⟨x,hx⟩:=hd i hi
      rw[show nth rs i=.loc (m.loc.length+j) from e]at hx
      simp[Mem.at]at hx
    rw[hold _ this,hm.dom]
    simp[Mem.at]
  .by_cases hex:∃s,ρ s=r/\m1.at s≠none
   .obtain⟨s,rfl,hs'⟩:=hex
    rw[hin s hs']at hq
    obtain⟨l1,l2⟩:=hm1.lv s q hq
    refine⟨fun e=>by rw[b2 s none (l1 e)];rfl,fun pl e=>?_⟩
    obtain⟨B,g1,g2⟩:=l2 pl e
    exact⟨renB ρ B,by rw[b2 s _ g1];rfl,g2.out hin'⟩
   .rw[hold r hex]at hq
    obtain⟨n1,n2⟩:=holdn r q hex hq
    obtain⟨l1,l2⟩:=hm.lv r q hq
    rw[b1 r n1 n2]
    refine⟨l1,fun pl e=>?_⟩
    obtain⟨B,g1,g2⟩:=l2 pl e
    refine⟨B,g1,g2.mono hs.fro hfkeep hsle fun b t hl=>?_⟩
    subst e
    exact hs.keep b (hm.nf r pl b t hq hl).2 (hnown r pl b t n1 hq hl)
  .have mixed:∀s r' pl pl' b t t',m1.at s≠none->¬ (∃s,ρ s=r'/\m1.at s≠none)->σ1 s=some (some pl)->σ r'=some (some pl')->pl.loc=some (b,t)->pl'.loc=some (b,t')->False:=by
    intro s r' pl pl' b t t' hs' hne e1 e2 e3 e4
    obtain⟨n1,n2⟩:=holdn r' _ hne e2
    rcases hown1 b ⟨s,pl,t,e1,e3⟩ with h1|h1
    .exact hnown r' pl' b t' n1 e2 e4 h1
    .have:=(hm.nf r' pl' b t' e2 e4).2;omega
   by_cases hex:∃s,ρ s=r/\m1.at s≠none
   .obtain⟨s,rfl,hs'⟩:=hex
    rw[hin s hs']at e1
    by_cases hex':∃s,ρ s=r'/\m1.at s≠none
    .obtain⟨s',rfl,hs2⟩:=hex'
     rw[hin s' hs2]at e2
     rw[hm1.inj _ _ _ _ _ _ _ e1 e2 e3 e4]
    .rw[hold r' hex']at e2
     exact(mixed s r' pl pl' b t t' hs' hex' e1 e2 e3 e4).elim
   .rw[hold r hex]at e1
    by_cases hex':∃s,ρ s=r'/\m1.at s≠none
    .obtain⟨s',rfl,hs2⟩:=hex'
     rw[hin s' hs2]at e2
     exact(mixed s' r pl' pl b t' t hs2 hex e2 e1 e4 e3).elim
    .rw[hold r' hex']at e2
     exact hm.inj _ _ _ _ _ _ _ e1 e2 e3 e4
  .by_cases hex:∃s,ρ s=r/\m1.at s≠none
   .obtain⟨s,rfl,hs'⟩:=hex
    rw[hin s hs']at e1
    exact hm1.nf s pl b t e1 e2
   .rw[hold r hex]at e1
    obtain⟨n1,n2⟩:=holdn r _ hex e1
    obtain⟨g1,g2⟩:=hm.nf r pl b t e1 e2
    refine⟨fun hb=>?_,Nat.lt_of_lt_of_le g2 hs.size⟩
    rcases hs.fro' b hb with h1|h1|h1
    .exact g1 h1
    .exact hnown r pl b t n1 e1 e2 h1
    .omega
 refine⟨v,ren ρ A,back m rs m1,σ',F',he,hk,hv.out hin',hm',⟨hs.os,hs.tape,hs.output,hs.drawn,hs.size,fun b hb hn'=>hs.keep b hb fun h=>hn' (hown0 b h),hs.fro,fun b hb=>?_,fun b ⟨r,pl,t,e1,e2⟩=>?_⟩,hsle⟩
 .rcases hs.fro' b hb with h1|h1|h1
  .exact .inl h1
  .exact .inr (.inl (hown0 b h1))
  .exact .inr (.inr h1)
 .by_cases hex:∃s,ρ s=r/\m1.at s≠none
  .obtain⟨s,rfl,hs'⟩:=hex
   rw[hin s hs']at e1
   rcases hown1 b ⟨s,pl,t,e1,e2⟩ with h1|h1
   .exact .inl (hown0 b h1)
   .exact .inr h1
  .rw[hold r hex]at e1
   exact .inl ⟨r,pl,t,e1,e2⟩
theorem YieldVC.at {f:Nat}{as:List AV}{own:List (Option Blk)}{S:Type}{enc:S->List AV × Mem}{J:S->Prop}{K:AV->Mem->Prop}(h:YieldVC P f as ⟨[],own⟩ (Ret enc J))(rs:List Ref)
  (hn:nodupR rs=true) (hp:Picks m (inn rs) rs own)
  (hk:∀s,J s->lenL (enc s).2.own=lenL own/\Ev (frc (ren (out (lenL m.loc) rs) (resA (enc s).1)) fun A=>frcM (back m rs (enc s).2) fun m=>K A m)):YieldVC P f (renL (inn rs) as) m K :=
 h.frame rs hn hp fun A m0 ⟨s,hJ,e1,e2⟩=>by
  subst e1;subst e2
  have:=hk s hJ
  rw[frc_eq,frcM_eq]at this
  exact⟨this.1,this.2.o⟩
end
def jumpOf:Exit->Option (Option Code)
 | .normal=>some none
 | .ret=>some (some .ret)
 | .exit i=>some (some (.exit i))
 | .goto l=>some (some (.goto l))
 |_=>none
def YieldQ {S:Type}(E:S->List (Option Blk))(jump:S->Option Code)(J:S->Prop)(n:Nat):Post:=fun e _ m=>∃s,J s/\jumpOf e=some (jump s)/\lenL (E s)=n/\Le [] m [] ⟨[],E s⟩
def AssignQ {S:Type}(P:Program)(N:Nat)(body:Code)(E:S->List (Option Blk))(jump:S->Option Code)(J:S->Prop)(n:Nat):Post:=fun e env m=>match e with
 | .normal=>Awp P N body env m (YieldQ E jump J n)
 |_=>False
def after (r:Loop)(j:Option Code):Loop:={r with state:=if j.isNone then .ready else .done,pending:=j}
theorem yield_rule {P:Program} {b N:Nat} {r:Loop} {env0:Env} {bs:List (Option Blk)} {args:List AV} {ps:List Nat} {assign body:Code} {S:Type} (E:S→List (Option Blk)) (jump:S→Option Code) (J:S→Prop)
  (hst:r.state=.ready) (hN:r.tmps.size=N) (hps:r.params=ps.toArray) (has:r.assign=assign) (hbo:r.body=body)
  (hal:ps.length=args.length) (hlt:∀p∈ps,p<N)
  (hbs:LeL 0 (lenL bs) bs bs) (hen:allIn 0 (lenL bs) (env0.map (·.2))=true) (har:allIn 0 (lenL bs) args=true)
  (h:Awp P N assign (bindE ps args env0) ⟨[],bs⟩ (AssignQ P N body E jump J (lenL bs))) :
  YieldVC P b args ⟨[],bs++[some (.loop b r env0)]⟩ (Ret (fun s=>([.d (.bool (jump s).isNone)],⟨[],E s++[some (.loop b (after r (jump s)) env0)]⟩)) J):=by
 refine⟨fun σ F w vals hm ha=>?_⟩
 rw[lenL_eq]at hbs hen har h
 generalize hj:bs.length=j at hbs hen har h
 have hatj:(bs++[some (Blk.loop b r env0)])[j]?=some (some (.loop b r env0)):=by rw[<-hj];simp
 have hlow:∀i,i<j->(bs++[some (Blk.loop b r env0)])[i]?=bs[i]?:=fun i hi=>List.getElem?_append_left Om
 have hhigh:∀i,j<i->(bs++[some (Blk.loop b r env0)])[i]?=none/\bs[i]?=none:=fun i hi=>⟨List.getElem?_eq_none (by simp;omega),List.getElem?_eq_none Om⟩
 obtain⟨pl,hpl,hok⟩:∃pl,σ (.arg j)=some (some pl)/\BlkOk w F σ (.loop b r env0) pl:=by
  cases hq:σ (.arg j) with
  |none =>
   have:=(hm.dom (.arg j)).1 hq
   simp only[Mem.at]at this
   rw[hatj]at this
   cases this
  | some q =>
   obtain⟨h1,h2⟩:=hm.lv (.arg j) q hq
   cases q with
   |none =>
    have:=h1 rfl
    simp only[Mem.at]at this
    rw[hatj]at this
    cases this
   |some pl =>
    obtain⟨B,hB,hok⟩:=h2 pl rfl
    simp only[Mem.at]at hB
    rw[hatj]at hB
    cases hB
    exact⟨pl,rfl,hok⟩
 obtain⟨hg,hloc,hheap,hentries⟩:=hok
 have hFb:¬ F b:=(hm.nf _ pl b 1 hpl hloc).1
 have hbl:b<w.heap.size:=(hm.nf _ pl b 1 hpl hloc).2
 let σ1:Pls:=fun rf=>if rf=.arg j then none else σ rf
 have hs1:∀rf,rf≠.arg j->σ1 rf=σ rf:=fun rf h=>if_neg h
 have hsub:∀rf q,refIn 0 j rf=true->σ rf=some q->∃q',σ1 rf=some q'/\QLe q q':=fun rf q hr hq=>by
  refine⟨q,?_,QLe.refl q⟩
  rw[hs1 rf (fun e=>by subst e;simp[refIn]at hr),hq]
 have hown1:∀rf pl' c t,σ1 rf=some (some pl')->pl'.loc=some (c,t)->σ rf=some (some pl')/\c≠b:=fun rf pl' c t h1 h2=>by
  by_cases e:rf=.arg j
  .subst e;simp[σ1]at h1
  .rw[hs1 rf e]at h1
   refine⟨h1,fun ec=>e ?_⟩
   subst ec
   exact hm.inj rf (.arg j) pl' pl c t 1 h1 hpl h2 hloc
 let busy:Loop:={r with state:=.busy}
 let w1:World:=w.putObj b (.loop busy)
 have hk1:∀c,c≠b->w1.heap[c]?=w.heap[c]?:=fun c hc=>World.putObj_heap_other hc
 have hkF1:∀c,F c->w1.heap[c]?=w.heap[c]?:=fun c hc=>hk1 c fun e=>hFb (e▸hc)
 have hb1:w1.heap[b]?=some (.loop busy):=World.putObj_heap_same hbl
 have hm1:MemOk ⟨[],bs⟩ σ1 F w:=by
  refine⟨fun rf=>?_,fun rf q hq=>?_,fun r1 r2 p1 p2 c t1 t2 h1 h2 h3 h4=>hm.inj r1 r2 p1 p2 c t1 t2 (hown1 r1 p1 c t1 h1 h3).1 (hown1 r2 p2 c t2 h2 h4).1 h3 h4,fun rf p c t h1 h2=>?_,fun c hc=>?_,hm.gl⟩
  .cases rf with
   |loc i=>rw[hs1 _ (fun e=>by cases e)];exact hm.dom (.loc i)
   |bad=>rw[hs1 _ (fun e=>by cases e)];exact hm.dom .bad
   | arg i =>
    rcases Nat.lt_trichotomy i j with hi|hi|hi
    .rw[hs1 _ (fun e=>by cases e;omega),hm.dom (.arg i)]
     simp only[Mem.at]
     rw[hlow i hi]
    .subst hi
     simp only[Mem.at]
     exact⟨fun _=>List.getElem?_eq_none Om,fun _=>if_pos rfl⟩
    .rw[hs1 _ (fun e=>by cases e;omega),hm.dom (.arg i)]
     simp only[Mem.at]
     rw[(hhigh i hi).1,(hhigh i hi).2]
  .have e:rf≠.arg j:=fun e=>by subst e;simp[σ1]at hq
   have hq0:σ rf=some q:=by rw[<-hs1 rf e];exact hq
   have hat:∀x,(⟨[],bs++[some (Blk.loop b r env0)]⟩:Mem).at rf=some x->(⟨[],bs⟩:Mem).at rf=some x:=fun x hx=>by
    cases rf with
    |loc i=>exact hx
    |bad=>exact hx
    |arg i =>
     simp only[Mem.at]at hx⊢
     rcases Nat.lt_trichotomy i j with hi|hi|hi
     .rw[<-hlow i hi];exact hx
     .subst hi;exact absurd rfl e
     .rw[(hhigh i hi).1]at hx;cases hx
   obtain⟨h1,h2⟩:=hm.lv rf q hq0
   refine⟨fun hqn=>hat _ (h1 hqn),fun p hp=>?_⟩
   obtain⟨B,hB,hok⟩:=h2 p hp
   have hB':=hat _ hB
   refine⟨B,hB',?_⟩
   have hble:BlkLe 0 j B B:=by
    cases rf with
    |loc i=>simp[Mem.at]at hB'
    |bad=>simp[Mem.at]at hB'
    |arg i =>
     simp only[Mem.at]at hB'
     obtain⟨b',k1,k2⟩:=LeL_at hbs i _ hB'
     obtain⟨B0,k3,k4⟩:=k2 B rfl
     rw[hB']at k1
     cases k1
     cases k3
     exact k4
   exact hok.restrict hble hsub
  .obtain⟨h3,h4⟩:=hown1 rf p c t h1 h2
   exact hm.nf rf p c t h3 h2
  .exact hm.fl c hc
 have hv1:∀{A:AV} {v:Value},Vc w F σ A v->avIn 0 j A=true->Vc w F σ1 A v:=fun hv hin=>hv.restrict hin hsub
 have he0:EnvOk env0 w F σ1 r.tmps:=fun t=>by
  rcases get_mem env0 t with ⟨i,hi⟩|hjk
  .exact hv1 (hentries i t _ hi) (allIn_mem hen _ (List.mem_map.2 ⟨_,List.mem_of_getElem? hi,rfl⟩))
  .rw[hjk];exact .junk
 have ha1:ArgsOk w F σ1 args vals:=⟨ha.1,fun i A u hA hu=>hv1 (ha.2 i A u hA hu) (allIn_mem har A (List.mem_of_getElem? hA))⟩
 have he1:=bind_ok ps args vals env0 r.tmps he0 (fun p hp=>by rw[hN];exact hlt p hp) ha1 hal
 generalize htm:(ps.zip vals).foldl (fun t (p:Nat × Value)=>t.setIfInBounds p.1 p.2) r.tmps=tmps1 at he1
 have htms:tmps1.size=N:=by
  rw[<-htm,<-hN]
  clear htm he1
  generalize ps.zip vals=l
  generalize r.tmps=t0
  induction l generalizing t0 with
  |nil=>rfl
  |cons p l ih=>simp only[List.foldl_cons];rw[ih];simp
 have hctx:Ctx (some b) ⟨0,[]⟩ [] σ1 F w:=⟨⟨[],rfl,List.nodup_nil,fun _ h=>by cases h⟩,Nat.zero_le _,fun l hl=>by
  cases hl
  exact⟨⟨_,hheap⟩,fun⟨rf,p,t,h1,h2⟩=>(hown1 rf p b t h1 h2).2 rfl,hFb⟩⟩
 have hwp:=h.run (some b) ⟨0,[]⟩ {tmps:=tmps1,defers:=[]} w σ1 F htms hctx he1 hm1
 refine⟨r.fn,tmps1,assign,body,?_,?_⟩
 .rw[run_yield hheap (by rw[hps];simp[ha.1,hal])]
  rw[has,hbo,hps]
  congr 2
  rw[<-htm]
  simp
 .refine roundIn_of_wpIn (F:=Fen none) (n:=0) trivial (wpIn_mono hwp ?_)
  rintro e0 a0 w2 ⟨env2,m2,σ2,F2,hqa,p2,p3,p4,p5,p6,p7⟩
  have hno1':¬ Owned σ1 b:=fun⟨rf,p,t,h1,h2⟩=>(hown1 rf p b t h1 h2).2 rfl
  have hb2:w2.heap[b]?=some (.loop r):=(p6.keep b hbl hno1').trans hheap
  obtain⟨-,hno2,hnF2⟩:=p3.rd b rfl
  have hlt2:b<w2.heap.size:=(Array.getElem?_eq_some_iff.1 hb2).1
  have hk2:∀c,c≠b->(w2.putObj b (.loop busy)).heap[c]?=w2.heap[c]?:=fun c hc=>World.putObj_heap_other hc
  have hz2:(w2.putObj b (.loop busy)).heap.size=w2.heap.size:=World.putObj_size
  have hz1:w1.heap.size=w.heap.size:=World.putObj_size
  cases e0 with
  |exit _=>exact hqa.elim
  |goto _=>exact hqa.elim
  |ret=>exact hqa.elim
  |panic _=>exact hqa.elim
  |outgrown=>exact hqa.elim
  |normal =>
  refine⟨_,run_beginRound hb2 hst,?_⟩
  have hm2:MemOk m2 σ2 F2 (w2.putObj b (.loop busy)):=p5.world Om fun c hc=>hk2 c fun e=>by
   subst e
   rcases hc with hc|hc
   .exact hnF2 hc
   .exact hno2 hc
  have he2:EnvOk env2 (w2.putObj b (.loop busy)) F2 σ2 a0.tmps:=p4.mono (fun _ h=>h) (fun c hc=>hk2 c fun e=>hnF2 (e▸hc)) (SLe.refl σ2)
  have hS1:Step σ1 F w1 σ2 F2 (w2.putObj b (.loop busy)):=⟨p6.os,p6.tape,p6.output,p6.drawn,by rw[hz2,hz1];exact p6.size,fun c hc ho=>by
    by_cases e:c=b
    .subst e
     rw[World.putObj_heap_same hlt2,hb1]
    .rw[hk2 c e,p6.keep c (by rw[<-hz1];exact hc) ho,hk1 c e],
   p6.fro,fun c hc=>by rw[hz1];exact p6.fro' c hc,fun c hc=>by rw[hz1];exact p6.own c hc⟩
  have hC2:Ctx (some b) ⟨0,[]⟩ a0.defers σ2 F2 (w2.putObj b (.loop busy)):=by
   obtain⟨Ds,e,nd,hD⟩:=p3.marks
   refine⟨⟨Ds,e,nd,fun D h=>?_⟩,Nat.zero_le _,fun l hl=>?_⟩
   .obtain⟨k1,k2,k3⟩:=hD D h
    exact⟨k1,by rw[hk2 D (fun e=>by rw[e,hb2]at k2;cases k2)];exact k2,k3⟩
   .cases hl
    exact⟨⟨busy,World.putObj_heap_same hlt2⟩,hno2,hnF2⟩
  have hqa':Awp P N body env2 m2 (YieldQ E jump J j):=hqa
  refine wpIn_mono (hqa'.run (some b) ⟨0,[]⟩ a0 _ σ2 F2 p2 hC2 he2 hm2) ?_
  rintro e a w3 ⟨env',m',σ3,F3,⟨s,hJ,hjump,hlE,hLe⟩,q2,q3,q4,q5,q6,q7⟩
  replace q6:=hS1.trans q6
  replace q7:=p7.trans q7
  obtain⟨σ4,r1,r2,r3,r4⟩:=le_ok (env':=[]) hLe (env:=[]) (tmps:=#[]) (fun t=>by simp[get];exact .junk) q5
  have hb3:w3.heap[b]?=some (.loop busy):=(q6.keep b (by show b<(w.putObj b _).heap.size;rw[World.putObj_size];exact hbl) (fun⟨rf,p,t,h1,h2⟩=>(hown1 rf p b t h1 h2).2 rfl)).trans hb1
  have q6':=q6.trans r3
  have hlE':(E s).length=j:=by rw[<-lenL_eq,hlE]
  have hend:=run_endRound (P:=P) (jump s) hb3
  have hrec:({busy with state:=if(jump s).isNone then .ready else .done,pending:=jump s}:Loop)=after r (jump s):=rfl
  rw[hrec]at hend
  have hR:∃ v A m' σ' F',(Ending.returned (.bool (jump s).isNone))=.returned v∧Ret (fun s=>([AV.d (.bool (jump s).isNone)],(⟨[],E s ++ [some (.loop b (after r (jump s)) env0)]⟩:Mem))) J A m'∧Vc (w3.putObj b (.loop (after r (jump s)))) F' σ' A v∧MemOk m' σ' F' (w3.putObj b (.loop (after r (jump s))))∧Step σ F w σ' F' (w3.putObj b (.loop (after r (jump s))))∧SLe σ σ':=by
   let σ5:Pls:=upd σ4 (.arg j) (some pl)
   have hσ4j:σ4 (.arg j)=none:=(r2.dom (.arg j)).2 (List.getElem?_eq_none (by show(E s).length<=j;omega))
   have hs5:SLe σ4 σ5:=SLe.upd_new (some pl) hσ4j
   have hsz:w1.heap.size=w.heap.size:=World.putObj_size
   have hsz4:(w3.putObj b (.loop (after r (jump s)))).heap.size=w3.heap.size:=World.putObj_size
   have hno1:¬ Owned σ1 b:=fun⟨rf,p,t,h1,h2⟩=>(hown1 rf p b t h1 h2).2 rfl
   have hno4:¬ Owned σ4 b:=fun ho=>by
    rcases q6'.own b ho with ho|ho
    .exact hno1 ho
    .omega
   have hnF3:¬ F3 b:=fun ho=>by
    rcases q6'.fro' b ho with ho|ho|ho
    .exact hFb ho
    .exact hno1 ho
    .omega
   have hk4:∀c,c≠b->(w3.putObj b (.loop (after r (jump s)))).heap[c]?=w3.heap[c]?:=fun c hc=>World.putObj_heap_other hc
   have hb3l:b<w3.heap.size:=(Array.getElem?_eq_some_iff.1 hb3).1
   have hoo:∀c,Owned σ1 c->Owned σ c:=fun c ⟨rf,p,t,h1,h2⟩=>⟨rf,p,t,(hown1 rf p c t h1 h2).1,h2⟩
   have harg:∀i q,i<j->σ (.arg i)=some q->∃q',σ5 (.arg i)=some q'/\QLe q q':=fun i q hi hq=>by
    have hne:Ref.arg i≠.arg j:=fun e=>by cases e;omega
    obtain⟨q1,k1,k2⟩:=q7 i q (by rw[hs1 _ hne];exact hq)
    obtain⟨q2',k3,k4⟩:=r4 i q1 k1
    exact⟨q2',by rw[show σ5 (.arg i)=σ4 (.arg i) from upd_other σ4 _ hne];exact k3,k2.trans k4⟩
   have hkF4:∀c,F c->(w3.putObj b (.loop (after r (jump s)))).heap[c]?=w.heap[c]?:=fun c hc=>by
    have hcb:c≠b:=fun e=>hFb (e▸hc)
    rw[hk4 c hcb,q6'.keep c (by rw[hsz];exact hm.fl c hc) (fun ho=>by
     obtain⟨rf,p,t,h1,h2⟩:=hoo c ho
     exact(hm.nf rf p c t h1 h2).1 hc),hk1 c hcb]
   have hatE:∀i,i<j->(E s++[some (Blk.loop b (after r (jump s)) env0)])[i]?=(E s)[i]?:=fun i hi=>List.getElem?_append_left Om
   have hatEj:(E s++[some (Blk.loop b (after r (jump s)) env0)])[j]?=some (some (.loop b (after r (jump s)) env0)):=by rw[<-hlE'];simp
   have hatEh:∀i,j<i->(E s++[some (Blk.loop b (after r (jump s)) env0)])[i]?=none/\(E s)[i]?=none:=fun i hi=>⟨List.getElem?_eq_none (by simp;omega),List.getElem?_eq_none Om⟩
   have hcb4:∀rf p c t,σ4 rf=some (some p)->p.loc=some (c,t)->c≠b:=fun rf p c t h1 h2 e=>hno4 ⟨rf,p,t,h1,by rw[<-e];exact h2⟩
   refine⟨_,_,_,σ5,F3,rfl,⟨s,hJ,rfl,rfl⟩,.d .bool,?_,?_,?_⟩
   .refine⟨fun rf=>?_,fun rf q hq=>?_,fun f1 f2 p1 p2 c t1 t2 h1 h2 h3 h4=>?_,fun rf p c t h1 h2=>?_,fun c hc=>by rw[hsz4];exact r2.fl c hc,r2.gl.mono (fun _ h=>h) fun c hc=>hk4 c fun e=>hnF3 (e▸hc)⟩
    .by_cases e:rf=.arg j
     .subst e
      simp only[Mem.at]
      rw[hatEj,show σ5 (.arg j)=some (some pl) from upd_self σ4 _ _]
      exact⟨(fun h=>by cases h),(fun h=>by cases h)⟩
     .rw[show σ5 rf=σ4 rf from upd_other σ4 _ e,r2.dom rf]
      cases rf with
      |loc i=>exact Iff.rfl
      |bad=>exact Iff.rfl
      |arg i =>
       simp only[Mem.at]
       rcases Nat.lt_trichotomy i j with hi|hi|hi
       .rw[hatE i hi]
       .subst hi;exact absurd rfl e
       .rw[(hatEh i hi).1,(hatEh i hi).2]
    .by_cases e:rf=.arg j
     .subst e
      rw[show σ5 (.arg j)=some (some pl) from upd_self σ4 _ _]at hq
      cases hq
      refine⟨(fun h=>by cases h),fun p hp=>?_⟩
      cases hp
      refine⟨.loop b (after r (jump s)) env0,by simp only[Mem.at];exact hatEj,hg,hloc,World.putObj_heap_same hb3l,fun i t A hi=>?_⟩
      have hvc:=hentries i t A hi
      have hin:avIn 0 j A=true:=allIn_mem hen _ (List.mem_map.2 ⟨_,List.mem_of_getElem? hi,rfl⟩)
      refine(hvc.restrict hin (σ':=σ5) fun rf q hr hq=>?_).mono q6'.fro hkF4 (SLe.refl σ5)
      cases rf with
      |loc i=>simp[refIn]at hr
      |bad=>simp[refIn]at hr
      |arg i =>
       simp only[refIn]at hr
       exact harg i q (Nat.blt_eq.mp hr) hq
     .rw[show σ5 rf=σ4 rf from upd_other σ4 _ e]at hq
      obtain⟨h1,h2⟩:=r2.lv rf q hq
      have hat:∀x,(⟨[],E s⟩:Mem).at rf=some x->(⟨[],E s++[some (Blk.loop b (after r (jump s)) env0)]⟩:Mem).at rf=some x:=fun x hx=>by
       cases rf with
       |loc i=>exact hx
       |bad=>exact hx
       |arg i =>
        simp only[Mem.at]at hx⊢
        have:=(List.getElem?_eq_some_iff.1 hx).1
        rw[hatE i Om]
        exact hx
      refine⟨fun hqn=>hat _ (h1 hqn),fun p hp=>?_⟩
      obtain⟨B,hB,hok⟩:=h2 p hp
      exact⟨B,hat _ hB,hok.mono (fun _ h=>h) (fun c hc=>hk4 c fun e=>hnF3 (e▸hc)) hs5 (fun c t hc=>hk4 c (hcb4 rf p c t (by rw[hq,hp]) hc))⟩
    .by_cases e1:f1=.arg j
     .by_cases e2:f2=.arg j
      .rw[e1,e2]
      .exfalso
       subst e1
       rw[show σ5 (.arg j)=some (some pl) from upd_self σ4 _ _]at h1
       cases h1
       rw[hloc]at h3
       cases h3
       exact hcb4 f2 p2 b t2 (by rw[<-h2];exact(upd_other σ4 _ e2).symm) h4 rfl
     .by_cases e2:f2=.arg j
      .exfalso
       subst e2
       rw[show σ5 (.arg j)=some (some pl) from upd_self σ4 _ _]at h2
       cases h2
       rw[hloc]at h4
       cases h4
       exact hcb4 f1 p1 b t1 (by rw[<-h1];exact(upd_other σ4 _ e1).symm) h3 rfl
      .exact r2.inj f1 f2 p1 p2 c t1 t2 (by rw[<-h1];exact(upd_other σ4 _ e1).symm) (by rw[<-h2];exact(upd_other σ4 _ e2).symm) h3 h4
    .rw[hsz4]
     by_cases e:rf=.arg j
     .subst e
      rw[show σ5 (.arg j)=some (some pl) from upd_self σ4 _ _]at h1
      cases h1
      rw[hloc]at h2
      cases h2
      exact⟨hnF3,hb3l⟩
     .exact r2.nf rf p c t (by rw[<-h1];exact(upd_other σ4 _ e).symm) h2
   .refine⟨q6'.os,q6'.tape,q6'.output,q6'.drawn,by rw[hsz4,<-hsz];exact q6'.size,fun c hc ho=>?_,q6'.fro,fun c hc=>?_,fun c ho=>?_⟩
    .have hcb:c≠b:=fun e=>ho ⟨_,pl,1,hpl,by rw[e];exact hloc⟩
     rw[hk4 c hcb,q6'.keep c (by rw[hsz];exact hc) (fun h=>ho (hoo c h)),hk1 c hcb]
    .rcases q6'.fro' c hc with h|h|h
     .exact .inl h
     .exact .inr (.inl (hoo c h))
     .exact .inr (.inr Om)
    .obtain⟨rf,p,t,h1,h2⟩:=ho
     by_cases e:rf=.arg j
     .subst e
      rw[show σ5 (.arg j)=some (some pl) from upd_self σ4 _ _]at h1
      cases h1
      exact .inl ⟨_,pl,t,hpl,h2⟩
     .rcases q6'.own c ⟨rf,p,t,by rw[<-h1];exact(upd_other σ4 _ e).symm,h2⟩ with h|h
      .exact .inl (hoo c h)
      .exact .inr Om
   .intro rf q hq
    cases rf with
    |loc i=>rw[(hm.dom (.loc i)).2 (by simp[Mem.at])]at hq;cases hq
    |bad=>rw[(hm.dom .bad).2 rfl]at hq;cases hq
    | arg i =>
     rcases Nat.lt_trichotomy i j with hi|hi|hi
     .exact harg i q hi hq
     .subst hi
      rw[hpl]at hq
      cases hq
      exact⟨some pl,upd_self σ4 _ _,QLe.refl _⟩
     .rw[(hm.dom (.arg i)).2 (by simp only[Mem.at];exact(hhigh i hi).1)]at hq
      cases hq
  cases e with
  |normal=>simp only[jumpOf,Option.some.injEq]at hjump;rw[<-hjump]at hend;exact⟨_,_,hend,by rw[<-hjump]at hR;exact hR⟩
  |ret=>simp only[jumpOf,Option.some.injEq]at hjump;rw[<-hjump]at hend;exact⟨_,_,hend,by rw[<-hjump]at hR;exact hR⟩
  |exit i=>simp only[jumpOf,Option.some.injEq]at hjump;rw[<-hjump]at hend;exact⟨_,_,hend,by rw[<-hjump]at hR;exact hR⟩
  |goto l=>simp only[jumpOf,Option.some.injEq]at hjump;rw[<-hjump]at hend;exact⟨_,_,hend,by rw[<-hjump]at hR;exact hR⟩
  |panic ch=>simp[jumpOf]at hjump
  |outgrown=>simp[jumpOf]at hjump
def RangeQ (P:Program)(N:Nat)(env:Env)(b:Nat)(r:Loop)(env0:Env)(k:Nat)(Q:Post):AV->Mem->Prop:=fun _ m' =>
 ∃jmp:Option Code,m'.get (.loc k)=some (.loop b (after r jmp) env0)/\match jmp with
  |none=>Q .normal env (m'.put (.loc k) none)
  |some c=>Awp P N c env (m'.put (.loc k) none) Q
theorem leEnv_mem {nl na:Nat}{env:Env}:∀{env0:Env},LeEnv nl na env env0->∀(j:Nat) t A,env0[j]?=some (t,A)->get env t=A
 |[],_,j,t,A,h=>by simp at h
 |(k,B)::r,hl,j,t,A,h=>by
  cases j with
  |zero=>simp at h;obtain⟨rfl,rfl⟩:=h;exact hl.1.1
  |succ j=>exact leEnv_mem hl.2 j t A (by simpa using h)
section
variable {P:Program}{w w':World}{F:Nat->Prop}{σ:Pls}{m:Mem}
theorem kill_ok (hm:MemOk m σ F w){r:Ref}{q:Option Pl}(hr:σ r=some q):MemOk (m.put r none) (upd σ r none) F w/\SLe σ (upd σ r none):=by
 have hs:SLe σ (upd σ r none):=SLe.upd_old hr (QLe.none q)
 have hat:∃x,m.at r=some x:=by
  cases h:m.at r with
  |none=>have:=(hm.dom r).2 h;rw[this]at hr;cases hr
  |some x=>exact⟨x,rfl⟩
 obtain⟨x,hx⟩:=hat
 have hne:∀rf p,upd σ r none rf=some (some p)->rf≠r:=fun rf p h e=>by subst e;rw[upd_self]at h;cases h
 refine⟨⟨fun rf=>?_,fun rf q' hq=>?_,fun r1 r2 p1 p2 b t1 t2 h1 h2=>?_,fun rf p b t h1 h2=>?_,hm.fl,hm.gl⟩,hs⟩
 .by_cases e:rf=r
  .subst e
   rw[upd_self,put_self none hx]
   exact⟨(fun h=>by cases h),(fun h=>by cases h)⟩
  .rw[upd_other σ none e,put_other none e];exact hm.dom rf
 .by_cases e:rf=r
  .subst e
   rw[upd_self]at hq
   cases hq
   exact⟨fun _=>put_self none hx,fun p hp=>by cases hp⟩
  .rw[upd_other σ none e]at hq
   rw[put_other none e]
   obtain⟨h1,h2⟩:=hm.lv rf q' hq
   exact⟨h1,fun p hp=>by
    obtain⟨B,hB,hok⟩:=h2 p hp
    exact⟨B,hB,hok.mono (fun _ h=>h) (fun _ _=>rfl) hs (fun _ _ _=>rfl)⟩⟩
 .have e1:=hne r1 p1 h1
  have e2:=hne r2 p2 h2
  rw[upd_other σ none e1]at h1
  rw[upd_other σ none e2]at h2
  exact hm.inj r1 r2 p1 p2 b t1 t2 h1 h2
 .have e1:=hne rf p h1
  rw[upd_other σ none e1]at h1
  exact hm.nf rf p b t h1 h2
theorem enter_ok {ro:Option Nat}{lo:Lo}{ds:List Deferred}(hc:Ctx ro lo ds σ F w)(fn:FuncId)(tmps:Array Value)(ps:Array Tmp)(assign body:Code) :
  ∃(l:Nat) (Ms:List Nat) (w1:World) (rec:Loop),(Instr.enterLoop fn tmps ps assign body ro).run P w=.ok (l,Ms.map mark) w1/\w1.heap[l]?=some (.loop rec)/\rec.state=.ready/\rec.tmps=tmps/\rec.params=ps/\rec.assign=assign/\rec.body=body /\
   rec.pending=none/\w.heap.size<=l/\l<w1.heap.size/\w.heap.size<=w1.heap.size/\(∀b,b<w.heap.size->w1.heap[b]?=w.heap[b]?)/\w1.os=w.os/\w1.tape=w.tape/\w1.output=w.output/\w.drawn<=w1.drawn/\Ms.Nodup/\∀D∈Ms,w.heap.size<=D/\D≠l/\w1.heap[D]?=some (.deferred (some [])):=by
 cases ro with
 | none =>
  refine⟨w.heap.size+1,[w.heap.size],_,{state:=.ready,pending:=none,fn,tmps,params:=ps,assign,body,defers:=w.heap.size},run_enterLoop_outer fn tmps ps assign body,?_,rfl,rfl,rfl,rfl,rfl,rfl,Om,by simp,by simp;omega,fun b hb=>?_,rfl,rfl,rfl,Nat.le_refl _,by simp,fun D hD=>?_⟩
  .have:=World.alloc_heap_new (w.alloc (.deferred (some []))) (.loop {state:=.ready,pending:=none,fn,tmps,params:=ps,assign,body,defers:=w.heap.size})
   rwa [World.size_alloc]at this
  .rw[Below.heap_alloc _ _ b (by simp;omega),Below.heap_alloc _ _ b hb]
  .simp only[List.mem_singleton]at hD
   subst hD
   refine⟨Nat.le_refl _,Om,?_⟩
   rw[Below.heap_alloc _ _ _ (by simp)]
   exact World.alloc_heap_new w _
 |some l0 =>
  obtain⟨⟨r0,h0⟩,_⟩:=hc.rd l0 rfl
  refine⟨w.heap.size,[],_,{state:=.ready,pending:=none,fn,tmps,params:=ps,assign,body,defers:=r0.defers},run_enterLoop_inner h0 fn tmps ps assign body,World.alloc_heap_new w _,rfl,rfl,rfl,rfl,rfl,rfl,Nat.le_refl _,by simp,by simp,fun b hb=>Below.heap_alloc w _ b hb,rfl,rfl,rfl,Nat.le_refl _,List.nodup_nil,fun D hD=>by cases hD⟩
theorem Awp.range {N:Nat}{f:Operand}{ps:Array Tmp}{assign body:Code}{env:Env}{m:Mem}{Q:Post}{g:FuncId}{caps:List AV}(env0:Env)
  (hf:ev env f=.fn (.func g) [] caps\/∃xs,ev env f=.d (.fn (.func g) [] xs)/\caps=up xs) {nl na:Nat} (he0:LeEnv nl na env env0)
  (h:∀ (b:Nat) (r:Loop),r.state=.ready→r.pending=none→r.tmps.size=N→r.params=ps→r.assign=assign→r.body=body →
   CallVC P g (.fn (.yield b) [] []::caps) (m.add (.loop b r env0)) (RangeQ P N env b r env0 (lenL m.loc) Q)):Awp P N (.rangeFunc f ps assign body) env m Q:=by
 refine⟨fun ro lo a w σ F hN hC he hm=>wpIn_rangeFunc fun fn _=>?_⟩
 obtain⟨l,Ms,w1,rec,hent,hl1,hst,htm,hps,has,hbo,hpe,hll,hlw,hsz,hk,hos,htape,hout,hdr,hnd,hMs⟩:=enter_ok (P:=P) hC fn a.tmps ps assign body
 obtain⟨us,hfv,hus⟩:∃us:List Value,a.eval f=.func (.func g) #[] us.toArray/\ArgsOk w F σ caps us:=by
  have hv:=ev_ok he f
  rcases hf with hf|⟨xs,hf,rfl⟩
  .rw[hf]at hv
   generalize a.eval f=X at hv
   cases hv with
   |@fn _ _ _ us vs h1 h2 h3 h4 =>
    have:us=[]:=by simpa using h1
    subst this
    exact⟨vs,rfl,h2,h4⟩
  .rw[hf]at hv
   generalize a.eval f=X at hv
   cases hv with
   | d hv=>cases hv with
    |@fn _ _ _ us vs h1 h2 h3 h4 =>
     have:us=[]:=by simpa using h1
     subst this
     exact⟨vs,rfl,.ofD h2 h4⟩
 let pl:Pl:=⟨0,0,some (l,1)⟩
 have hkF:∀b,F b->w1.heap[b]?=w.heap[b]?:=fun b hb=>hk b (hm.fl b hb)
 have hs1:SLe σ (upd σ m.new (some pl)):=SLe.upd_new (some pl) (new_none hm)
 obtain⟨hm1,-⟩:=fresh_ok (w':=w1) (pl:=pl) (B:=.loop l rec env0) hm hsz hk
  ⟨rfl,rfl,hl1,fun j t A hj=>by
   have:=he t
   rw[leEnv_mem he0 j t A hj]at this
   rw[htm]
   exact this.mono (fun _ h=>h) hkF hs1⟩
  (fun b t hb=>by simp only[pl,Option.some.injEq,Prod.mk.injEq]at hb;obtain⟨rfl,_⟩:=hb;exact⟨hll,hlw⟩)
 have hst1:Step σ F w (upd σ m.new (some pl)) F w1:=⟨hos,htape,hout,hdr,hsz,fun b hb _=>hk b hb,fun _ h=>h,fun _ h=>.inl h,own_upd_new fun b t hb=>by simp only[pl,Option.some.injEq,Prod.mk.injEq]at hb;omega⟩
 have hC1:Ctx ro lo (Ms.map mark ++ a.defers) (upd σ m.new (some pl)) F w1:=by
  have hC0:=hC.step hst1
  obtain⟨Ds,e,nd,hD⟩:=hC0.marks
  obtain⟨Ds',e',nd',hD'⟩:=hC.marks
  have hinj:∀{A B:List Nat},A.map mark=B.map mark->A=B:=fun{A B} hAB=>by
   have hm0:∀x y,mark x=mark y->x=y:=fun x y hxy=>by simpa[mark] using hxy
   induction A generalizing B with
   |nil=>cases B with
    |nil=>rfl
    |cons=>simp at hAB
   |cons x A ih=>cases B with
    |nil=>simp at hAB
    |cons y B=>simp only[List.map_cons,List.cons.injEq]at hAB;rw[hm0 x y hAB.1,ih hAB.2]
  have hDs:Ds=Ds':=hinj (List.append_cancel_right (e.symm.trans e'))
  subst hDs
  refine⟨⟨Ms++Ds,by rw[List.map_append,List.append_assoc,e],?_,fun D hDm=>?_⟩,hC0.low,hC0.rd⟩
  .rw[List.nodup_append]
   refine⟨hnd,nd,fun x hx y hy e=>?_⟩
   subst e
   have h1:=(hMs x hx).1
   have h2:=(Array.getElem?_eq_some_iff.1 (hD' x hy).2.1).1
   omega
  .rcases List.mem_append.1 hDm with hDm|hDm
   .obtain⟨k1,k2,k3⟩:=hMs D hDm
    refine⟨Nat.le_trans hC.low k1,k3,fun⟨rf,p,t,h1,h2⟩=>?_,fun hF=>?_⟩
    .by_cases e:rf=m.new
     .subst e
      rw[upd_self]at h1
      cases h1
      simp only[pl,Option.some.injEq,Prod.mk.injEq]at h2
      exact k2 h2.1.symm
     .rw[upd_other σ _ e]at h1
      have:=(hm.nf rf p D t h1 h2).2
      omega
    .have:=hm.fl D hF
     omega
   .exact hD D hDm
 have hcv:=h l rec hst hpe (by rw[htm];exact hN) hps has hbo
 have hargs:ArgsOk w1 F (upd σ m.new (some pl)) (.fn (.yield l) [] []::caps) (.func (.yield l) #[] #[]::us):=by
  refine⟨by simp[hus.1],fun j A u hA hu=>?_⟩
  cases j with
  |zero =>
   simp at hA hu
   subst hA;subst hu
   exact .fn (us:=[]) (vs:=[]) rfl rfl (fun j x u h=>by simp at h) (fun j x u h=>by simp at h)
  |succ j=>exact(hus.2 j A u (by simpa using hA) (by simpa using hu)).mono (fun _ h=>h) hkF hs1
 have hcall:=hcv.run _ F w1 _ hm1 hargs
 refine⟨l,Ms.map mark,w1,{target:=.fn (.func g) us.toArray,args:=#[.func (.yield l) #[] #[]]},w1,g,(.func (.yield l) #[] #[]::us).toArray,w1,hent,?_,fun _ _=>trivial,?_,Fen_depth,callsFen.2 (hcall.mono ?_)⟩
 .simp only[resolve,hfv]
  simp[go_sem]
 .have:=run_callFunc hcv.can (.func (.yield l) #[] #[]::us).toArray w1
  simp only[invoke]
  have e:(#[.func (.yield l) #[] #[]]:Array Value)++us.toArray=(.func (.yield l) #[] #[]::us).toArray:=by simp
  rw[e]
  exact this
 .rintro e w' ⟨v,A,m',σ',F',rfl,⟨jmp,hget,hq⟩,hv,hm',hst2,hs2⟩
  have hat:=Mem.get_at hget
  have hnew:m.new=.loc (lenL m.loc):=rfl
  obtain⟨q',hq',hqle⟩:=hs2 m.new (some pl) (upd_self σ _ _)
  rw[hnew]at hq'
  obtain⟨pl',e1,hok⟩:∃pl',q'=some pl'/\BlkOk w' F' σ' (.loop l (after rec jmp) env0) pl':=by
   obtain⟨h1,h2⟩:=hm'.lv _ q' hq'
   cases q' with
   |none=>have:=h1 rfl;rw[hat]at this;cases this
   |some pl' =>
    obtain⟨B,hB,hok⟩:=h2 pl' rfl
    rw[hat]at hB
    cases hB
    exact⟨pl',rfl,hok⟩
  subst e1
  obtain⟨-,hloc',hheap',-⟩:=hok
  have hnb:(after rec jmp).state≠.busy:=by cases jmp<;>simp[after]
  refine⟨jmp,_,run_endLoop hheap' hnb,?_⟩
  obtain⟨hm2,hs3⟩:=kill_ok hm' hq'
  generalize hσ4:upd σ' (.loc (lenL m.loc)) none=σ4 at hm2 hs3
  generalize hex:({after rec jmp with state:=.exhausted}:Loop)=ex
  have hFl:¬ F' l:=(hm'.nf _ pl' l 1 hq' hloc').1
  have hlw':l<w'.heap.size:=(hm'.nf _ pl' l 1 hq' hloc').2
  have hOl:¬ Owned σ4 l:=fun⟨rf,p,t,h1,h2⟩=>by
   subst hσ4
   by_cases e:rf=.loc (lenL m.loc)
   .subst e;rw[upd_self]at h1;cases h1
   .rw[upd_other σ' none e]at h1
    exact e (hm'.inj rf _ p pl' l t 1 h1 hq' h2 hloc')
  have hkx:∀b,b≠l->(w'.putObj l (.loop ex)).heap[b]?=w'.heap[b]?:=fun b hb=>World.putObj_heap_other hb
  have hszx:(w'.putObj l (.loop ex)).heap.size=w'.heap.size:=World.putObj_size
  have hm4:MemOk (m'.put (.loc (lenL m.loc)) none) σ4 F' (w'.putObj l (.loop ex)):=hm2.world Om fun b hb=>hkx b fun e=>by
   subst e
   rcases hb with hb|hb
   .exact hFl hb
   .exact hOl hb
  have hst4:Step σ' F' w' σ4 F' (w'.putObj l (.loop ex)):=⟨rfl,rfl,rfl,Nat.le_refl _,Om,fun b hb ho=>hkx b fun e=>ho ⟨_,pl',1,hq',by rw[e];exact hloc'⟩,fun _ h=>h,fun _ h=>.inl h,fun b ⟨rf,p,t,h1,h2⟩=>by
   subst hσ4
   by_cases e:rf=.loc (lenL m.loc)
   .subst e;rw[upd_self]at h1;cases h1
   .rw[upd_other σ' none e]at h1
    exact .inl ⟨rf,p,t,h1,h2⟩⟩
  have hstep:=(hst1.trans hst2).trans hst4
  have hsle:SLe σ σ4:=fun r q hr=>by
   obtain⟨q1,k1,k2⟩:=hs1 r q hr
   obtain⟨q2,k3,k4⟩:=hs2 r q1 k1
   obtain⟨q3,k5,k6⟩:=hs3 r q2 k3
   exact⟨q3,k5,(k2.trans k4).trans k6⟩
  have he4:EnvOk env (w'.putObj l (.loop ex)) F' σ4 a.tmps:=he.mono hstep.fro (hstep.frozen hm) hsle
  have hC4:Ctx ro lo (Ms.map mark++a.defers) σ4 F' (w'.putObj l (.loop ex)):=(hC1.step hst2).step hst4
  have hpend:(after rec jmp).pending=jmp:=rfl
  cases jmp with
  |none=>exact⟨env,_,σ4,F',hq,hN,hC4,he4,hm4,hstep,.of hsle⟩
  |some c=>exact wpIn_mono ((show Awp P N c env _ Q from hq).run ro lo {a with defers:=Ms.map mark++a.defers} _ σ4 F' hN hC4 he4 hm4) fun e a2 w2 h2=>lift_trans hstep (.of hsle) h2
end
end Go.Ab
namespace Go.Ab
set_option linter.unusedSimpArgs false
set_option linter.unusedVariables false
section
variable {P:Program}{T:Tab}{N:Nat}{w w':World}{F:Nat->Prop}{σ:Pls}{m m':Mem}{env:Env}{K:AV->Mem->Prop}{o:Oper}
def FinC (T:Tab):List ResultVar->List D->Env->Mem->Prop
 |[],[],_,_=>True
 | .tmp t::rs,x::xs,env,m=>BecP m (get env t) x/\FinC T rs xs env m
 | .cell t ty::rs,x::xs,env,m=>(match evLoad T m ty (get env t) with
  |some (A,l)=>obs l (BecP m A x)
  |none=>False)/\FinC T rs xs env m
 |_,_,_,_=>False
theorem finC_ok (hT:TabOk P T)(hm:MemOk m σ F w){env:Env}{tmps:Array Value}(he:EnvOk env w F σ tmps):∀(rs:List ResultVar) (res:List D),FinC T rs res env m ->
  ∃vs:List Value,(rs.mapM (resOne tmps)).run P w=.ok vs w/\vs.length=res.length/\∀(j:Nat) x u,res[j]?=some x->vs[j]?=some u->Rd w (Given F σ) x u
 |[],[],_=>⟨[],by simp,rfl,fun j x u h=>by simp at h⟩
 | .tmp t::rs,x::xs,h=>by
  obtain⟨h1,h2⟩:=h
  obtain⟨vs,g1,g2,g3⟩:=finC_ok hT hm he rs xs h2
  refine⟨tmps.getD t undef::vs,by simp[List.mapM_cons,resOne,g1],by simp[g2],fun j y u hy hu=>?_⟩
  cases j with
  |zero=>simp at hy hu;subst hy;subst hu;simpa using(he t |> fun hv=>BecP.ok hm h1 hv)
  |succ j=>exact g3 j y u (by simpa using hy) (by simpa using hu)
 | .cell t ty :: rs,x :: xs,h=>by
  obtain⟨h1,h2⟩:=h
  obtain⟨vs,g1,g2,g3⟩:=finC_ok hT hm he rs xs h2
  split at h1<;>try exact h1.elim
  rename_i A l hl
  obtain⟨hl2,hb⟩:=obs_ok h1
  obtain⟨u0,hu0,hrun⟩:=evLoad_ok hT hm (he t) hl hl2
  have hr:=hrun w (Agree.refl F σ w)
  have hptr:∃a,tmps.getD t undef=.pointer (some a):=by
   unfold Instr.loadAt Instr.sureAddr at hr
   generalize tmps.getD t undef=X at hr
   split at hr
   .exact⟨_,rfl⟩
   .simp at hr
  obtain⟨ad,had⟩:=hptr
  rw[had]at hr
  have hr':(loadVar ty ad).run P w=.ok u0 w:=by simpa[Instr.loadAt,Instr.sureAddr] using hr
  refine⟨u0::vs,by simp[List.mapM_cons,resOne,g1,had,asAddr,hr'],by simp[g2],fun j y u hy hu=>?_⟩
  cases j with
  |zero=>simp at hy hu;subst hy;subst hu;exact BecP.ok hm hb hu0
  |succ j=>exact g3 j y u (by simpa using hy) (by simpa using hu)
 |[],_::_,h=>by cases h
 | .tmp _::_,[],h=>by cases h
 | .cell _ _::_,[],h=>by cases h
def finC (T:Tab)(rs:List ResultVar)(res:List D):Post:=fun e env m=>match e with
 | .ret=>FinC T rs res env m
 | .normal=>FinC T rs res env m
 |_=>False
theorem pure_ruleC (hT:TabOk P T){f:FuncId}{fn:Func}{c:Code}{N:Nat}{rs:List ResultVar}{args res:List D}(hf:P.funcs[f]?=some fn)(hb:fn.body=some c)(hN:fn.ntmps=N)(hrs:fn.results=rs.toArray)
  (hname:(fn.name == "runtime.NumGoroutine")=false) (hargs:Nat.ble args.length N=true) (h:Ev (vc P T N c (envOf 0 args) ⟨[],[]⟩ (finC T rs res))):Pure P f args res :=
 pure_rule0 hT hf hb hN hrs hname hargs (Q:=finC T rs res) (fun e env m hq=>by
  cases e with
  |normal=>exact⟨.inl rfl,fun w F σ tmps hm he=>finC_ok hT hm he rs res hq⟩
  |ret=>exact⟨.inr rfl,fun w F σ tmps hm he=>finC_ok hT hm he rs res hq⟩
  |_=>exact hq.elim) h
end
section
variable {P:Program}{T:Tab}{m:Mem}{σ:Pls}
variable {ro:Option Nat}
def Slots (ops:Array Oper)(n:Nat)(env:Env)(σ:Pls)(As:Nat->AV)(listed:Array Bool)(F:Nat->Prop)(w:World)(tmps:Array Value):Prop :=
 ∀t,(∀(j:Nat) o,j<n->ops[j]?=some o->o.dst=some t->listed.getD j true=true->Vc w F σ (As j) (tmps.getD t undef)) /\
  ((∀(j:Nat) o,ops[j]?=some o->o.dst=some t->listed.getD j true=false)->Vc w F σ (get env t) (tmps.getD t undef))
theorem drawn_tail {id N:Nat} {ops:Array Oper} {F:Nat→Prop} {w:World} {a:Act} {env:Env} {K:Env→Prop} {Q:Exit→Act→World→Prop}
  (h1:P.follows .mixedOrders=true) (h2:okR ops.toList=true) (hT:TabOk P T) (hm:MemOk m σ F w) (hd:dstsIn N ops.toList=true) {pre suf:List Oper} (hsp:ops.toList=pre++suf) (h:vcR P T ops.toList m pre env K) (hN:a.tmps.size=N) (he:EnvOk env w F σ a.tmps)
  (R:Array Bool->Act->World->(Nat->Prop)->Prop)
  (hR0:R (Array.replicate ops.size false) a {w with drawn:=w.drawn+1} F)
  (hRq:∀listed a' w' F' F2 w2 v (i:Nat) o,R listed a' w' F'->Grew F' w' F2 w2->i<pre.length->ops[i]?=some o->listed.size=ops.size->a'.tmps.size=N->R (listed.setIfInBounds i true) (a'.put o.dst v) w2 F2)
  (hRe:∀ As listed a' w' F' (i:Nat) o,(∀ (j:Nat) o d,ops[j]?=some o→o.dst=some d→j < pre.length→get (envsOf env ops.toList As pre.length) d=As j)→K (envsOf env ops.toList As pre.length)→pre.length≤i→ops[i]?=some o→listed.getD i true=false→(∀ e∈o.after,Region.binds .any e=true→listed.getD e.on true=true)→listed.size=ops.size→a'.tmps.size=N→a'.defers=a.defers→MemOk m σ F' w'→Slots ops pre.length env σ As listed F' w' a'.tmps→R listed a' w' F' →
   ∀next:Act->World->Prop,(∀v w2 F2,MemOk m σ F2 w2->(∀A u,Vc w' F' σ A u->Vc w2 F2 σ A u)->R (listed.setIfInBounds i true) (a'.put o.dst v) w2 F2->next (a'.put o.dst v) w2)->wpOpIn (Fen ro) 0 P ops Q i next a' w')
  (hQ:∀ As a' w' F',K (envsOf env ops.toList As pre.length)→(∀ (j:Nat) o d,ops[j]?=some o→o.dst=some d→j < pre.length→get (envsOf env ops.toList As pre.length) d=As j)→a'.tmps.size=N→a'.defers=a.defers→MemOk m σ F' w' →
   (∀t,(∀(j:Nat) o,pre.length<=j->ops[j]?=some o->o.dst≠some t)->Vc w' F' σ (get (envsOf env ops.toList As pre.length) t) (a'.tmps.getD t undef))->(∀listed,(∀i,i<ops.size->listed.getD i true=true)->R listed a' w' F'->Q .normal a' w')):(Code.region id ops true).wpIn (Fen ro) 0 P Q a w:=by
 obtain⟨As,hK,hD0⟩:=vcR_ext (σ:=σ) hT pre env h
 have hpl:∀(k:Nat) o,k<pre.length->ops[k]?=some o->pre[k]?=some o:=fun k o hk ho=>by
  rw[<-Array.getElem?_toList,hsp,List.getElem?_append_left hk]at ho
  exact ho
 have hEp:∀k,k<=pre.length->envsOf env ops.toList As k=envsOf env pre As k:=fun k hk=>by
  rw[hsp]
  exact envsOf_pre env pre suf As k hk
 have hlen:pre.length<=ops.toList.length:=by rw[hsp];simp
 have hD:∀(k:Nat) o,k<pre.length->ops[k]?=some o->DoesG P m σ ops.toList o (envsOf env ops.toList As k) (As k):=fun k o hk ho=>by
  rw[hEp k Om]
  exact hD0 k o (hpl k o hk ho)
 have hO:∀(i:Nat) o,ops[i]?=some o->OrdAt ops.toList i o:=fun i o ho=>by
  have:=okFrom_at h2 i o (by rw[Array.getElem?_toList];exact ho)
  rwa [Nat.zero_add]at this
 have hdst:∀(i:Nat) o d,ops[i]?=some o->o.dst=some d->d<N:=by
  have:∀(l:List Oper),dstsIn N l=true->∀(i:Nat) o d,l[i]?=some o->o.dst=some d->d<N:=by
   intro l
   induction l with
   |nil=>intro _ i o d ho;simp at ho
   | cons x r ih =>
    intro hl i o d ho hdo
    simp only[dstsIn,Bool.and_eq_true]at hl
    cases i with
    |zero =>
     simp at ho
     subst ho
     have:=hl.1
     rw[hdo]at this
     exact Nat.le_of_ble_eq_true this
    |succ i=>exact ih hl.2 i o d (by simpa using ho) hdo
  exact fun i o d ho hdo=>this ops.toList hd i o d (by rw[Array.getElem?_toList];exact ho) hdo
 rw[<-hEp pre.length (Nat.le_refl _)]at hK
 have hsize:ops.toList.length=ops.size:=Array.length_toList
 have hEd:∀(i:Nat) o d,ops[i]?=some o->o.dst=some d->∀k,i<k->k<=ops.toList.length->get (envsOf env ops.toList As k) d=As i:=by
  intro i o d ho hdo k hk hkn
  have hol:ops.toList[i]?=some o:=by rw[Array.getElem?_toList];exact ho
  rw[envs_stable (i:=i+1) k Om (fun j o' h3 h4 ho' hd'=>by
    have:=(hO i o ho).once d hdo j o' ho' hd'
    omega)]
  rw[envsOf,hol]
  exact get_step_self hdo
 have hE0:∀t k,k<=ops.toList.length->(∀(j:Nat) o,ops[j]?=some o->o.dst=some t->k<=j)->get (envsOf env ops.toList As k) t=get env t:=fun t k hk hno =>
  envs_stable (i:=0) k (Nat.zero_le _) (fun j o _ hj ho hdo=>by
   rw[Array.getElem?_toList]at ho
   have:=hno j o ho hdo
   omega)
 have hEd':∀(j:Nat) o d,ops[j]?=some o->o.dst=some d->j<pre.length->get (envsOf env ops.toList As pre.length) d=As j:=fun j o d ho hdo hj=>hEd j o d ho hdo _ hj hlen
 let Inv:Array Bool->Act->World->Prop:=fun listed a' w'=>a'.tmps.size=N/\a'.defers=a.defers/\(∀(j:Nat) o,ops[j]?=some o->listed.getD j true=true->∀e∈o.after,Region.binds .any e=true->listed.getD e.on true=true) /\
  ∃F',MemOk m σ F' w'/\Slots ops pre.length env σ As listed F' w' a'.tmps/\R listed a' w' F'
 have done:∀(fuel:Nat) (listed:Array Bool) (a':Act) (w':World),listed.size=ops.size->(∀i,i<ops.size->listed.getD i true=true)->Q .normal a' w'->wpAnyIn (Fen ro) 0 P .any ops Q fuel listed a' w':=by
  intro fuel listed a' w' hls hall hq
  have hnil:Region.ready .any ops listed=[]:=List.eq_nil_iff_forall_not_mem.2 fun i hi=>by
   obtain⟨g1,o,ho,_⟩:=mem_ready.1 hi
   rw[hall i (Array.getElem?_eq_some_iff.1 ho).1]at g1
   cases g1
  cases fuel with
  |zero=>exact⟨hnil,hq⟩
  |succ fuel=>exact⟨fun _=>hq,fun i hi=>by rw[hnil]at hi;cases hi⟩
 have fin:∀(listed:Array Bool) (a':Act) (w':World),(∀i,i<ops.size->listed.getD i true=true)->Inv listed a' w'->Q .normal a' w':=by
  rintro listed a' w' hall ⟨i1,i2,ic,F',i3,i4,i5⟩
  refine hQ As a' w' F' hK hEd' i1 i2 i3 (fun t ht=>?_) listed hall i5
  by_cases hex:∃(j:Nat) (o:Oper),j<pre.length/\ops[j]?=some o/\o.dst=some t
  .obtain⟨j,o,hj,ho,hdo⟩:=hex
   rw[hEd j o t ho hdo _ hj hlen]
   exact(i4 t).1 j o hj ho hdo (hall j Om)
  .rw[hE0 t _ hlen (fun j o ho hdo=>by
    rcases Nat.lt_or_ge j pre.length with h|h
    .exact absurd ⟨j,o,h,ho,hdo⟩ hex
    .exact h)]
   exact(i4 t).2 fun j o ho hdo=>by
    rcases Nat.lt_or_ge j pre.length with h|h
    .exact absurd ⟨j,o,h,ho,hdo⟩ hex
    .exact absurd hdo (ht j o h ho)
 have main:∀ (fuel:Nat) (listed:Array Bool) (a':Act) (w':World),listed.size=ops.size→unl listed.toList≤fuel→Inv listed a' w'→wpAnyIn (Fen ro) 0 P .any ops Q fuel listed a' w':=by
  intro fuel
  induction fuel with
  | zero =>
   intro listed a' w' hls hun hI
   have hall:∀i,i<ops.size->listed.getD i true=true:=fun i hi=>by
    rw[getD_list]
    cases hb:listed.toList[i]? with
    |none=>rfl
    |some b=>exact unl_zero Om i b hb
   exact done 0 listed a' w' hls hall (fin listed a' w' hall hI)
  | succ fuel ih =>
   intro listed a' w' hls hun hI
   refine⟨fun hnil=>?_,fun i hi=>?_⟩
   .have hall:∀i,i<ops.size->listed.getD i true=true:=by
     intro i
     induction i using Nat.strongRecOn with
     | _ i ihi =>
      intro hi
      cases hb:listed.getD i true with
      |true=>rfl
      | false =>
       exfalso
       have ho:ops[i]?=some ops[i]:=Array.getElem?_eq_getElem hi
       have:i∈Region.ready .any ops listed:=mem_ready.2 ⟨hb,_,ho,fun e he hbe=>by
        have hlt:=(hO i _ ho).back e he hbe
        have:=ihi e.on hlt Om
        rw[getD_list]at this⊢
        have hin:e.on<listed.toList.length:=by rw[Array.length_toList,hls];omega
        rw[List.getElem?_eq_getElem hin]at this⊢
        exact this⟩
       rw[hnil]at this
       cases this
    exact fin listed a' w' hall hI
   .obtain⟨g1,o,ho,g2⟩:=mem_ready.1 hi
    have hin:i<ops.size:=(Array.getElem?_eq_some_iff.1 ho).1
    have hoi:=hO i o ho
    obtain⟨i1,i2,ic,F',hmw,i4,i5⟩:=hI
    have toT:∀j,j<ops.size->listed.getD j false=true->listed.getD j true=true:=fun j hj h=>by
     rw[getD_list]at h⊢
     have hin2:j<listed.toList.length:=by rw[Array.length_toList,hls];omega
     rw[List.getElem?_eq_getElem hin2]at h⊢
     exact h
    have hlist:listed.toList[i]?=some false:=by
     rw[getD_list]at g1
     cases hb:listed.toList[i]? with
     |none=>rw[hb]at g1;cases g1
     |some b=>rw[hb]at g1;simp at g1;rw[g1]
    have hset:∀j,j≠i->(listed.setIfInBounds i true).getD j true=listed.getD j true:=fun j hne=>by
     rw[getD_list,Array.toList_setIfInBounds,List.getElem?_set_ne (fun e=>hne e.symm),<-getD_list]
    have hsetm:∀j,listed.getD j true=true->(listed.setIfInBounds i true).getD j true=true:=fun j h=>by
     by_cases e:j=i
     .subst e;rw[h]at g1;cases g1
     .rw[hset j e];exact h
    have hseti:(listed.setIfInBounds i true).getD i true=true:=by
     rw[getD_list,Array.toList_setIfInBounds,List.getElem?_set_self (by rw[Array.length_toList,hls];exact hin)]
     rfl
    have hclosed:∀(j:Nat) o,ops[j]?=some o->(listed.setIfInBounds i true).getD j true=true->∀e∈o.after,Region.binds .any e=true->(listed.setIfInBounds i true).getD e.on true=true:=fun j o' ho' hj e he hb=>by
     by_cases hji:j=i
     .subst hji
      rw[ho]at ho'
      cases ho'
      have hlt:=hoi.back e he hb
      exact hsetm _ (toT _ Om (g2 e he hb))
     .rw[hset j hji]at hj
      exact hsetm _ (ic j o' ho' hj e he hb)
    have hun':unl (listed.setIfInBounds i true).toList<=fuel:=by
     have:=unl_set hlist
     rw[Array.toList_setIfInBounds]
     omega
    have putv:∀(v:Value) t,o.dst≠some t->(a'.put o.dst v).tmps.getD t undef=a'.tmps.getD t undef:=fun v t hdt=>by
     cases hdo:o.dst with
     |none=>rfl
     |some d =>
      simp only[Act.put,Array.getD_eq_getD_getElem?]
      rw[Array.getElem?_setIfInBounds_ne (fun e=>hdt (by rw[hdo,e]))]
    have puts:∀(v:Value) t,o.dst=some t->(a'.put o.dst v).tmps.getD t undef=v:=fun v t hdt=>by
     have hdN:=hdst i o t ho hdt
     rw[hdt]
     simp only[Act.put,Array.getD_eq_getD_getElem?]
     rw[Array.getElem?_setIfInBounds_self_of_lt (by rw[i1];exact hdN)]
     rfl
    have slots2:∀(v:Value) (w2:World) (F2:Nat->Prop),(∀A u,Vc w' F' σ A u->Vc w2 F2 σ A u)->(i<pre.length->Vc w2 F2 σ (As i) v)->Slots ops pre.length env σ As (listed.setIfInBounds i true) F2 w2 (a'.put o.dst v).tmps:=fun v w2 F2 mono hv t=>by
     by_cases hdt:o.dst=some t
     .rw[puts v t hdt]
      refine⟨fun j o' hjp ho' hd' _=>?_,fun hno=>?_⟩
      .have:=hoi.once t hdt j o' (by rw[Array.getElem?_toList];exact ho') hd'
       subst this
       exact hv hjp
      .have:=hno i o ho hdt
       rw[hseti]at this
       cases this
     .rw[putv v t hdt]
      have hne:∀(j:Nat) o',ops[j]?=some o'->o'.dst=some t->j≠i:=fun j o' ho' hd' e=>by
       subst e
       rw[ho]at ho'
       cases ho'
       exact hdt hd'
      refine⟨fun j o' hjp ho' hd' hj=>?_,fun hno=>?_⟩
      .rw[hset j (hne j o' ho' hd')]at hj
       exact mono _ _ ((i4 t).1 j o' hjp ho' hd' hj)
      .exact mono _ _ ((i4 t).2 fun j o' ho' hd'=>by
        have:=hno j o' ho' hd'
        rwa [hset j (hne j o' ho' hd')]at this)
    rcases Nat.lt_or_ge i pre.length with hiP|hiP
    rotate_left
    .refine hRe As listed a' w' F' i o hEd' hK hiP ho g1 (fun e he hb=>toT _ (by have:=hoi.back e he hb;omega) (g2 e he hb)) hls i1 i2 hmw i4 i5 _ fun v w2 F2 k1 k2 k3=>?_
     exact ih _ _ _ (by simp[hls]) hun' ⟨by rw[put_size];exact i1,by rw[put_defers];exact i2,hclosed,F2,k1,slots2 v w2 F2 k2 (fun h=>by omega),k3⟩
    have hslots:∀ t∈slots ops.toList o,Vc w' F' σ (get (envsOf env ops.toList As i) t) (a'.tmps.getD t undef):=fun t ht=>by
     by_cases hex:∃(j:Nat) (o':Oper),ops[j]?=some o'/\o'.dst=some t
     .obtain⟨j,o',ho',hdo'⟩:=hex
      have hj:j<ops.size:=(Array.getElem?_eq_some_iff.1 ho').1
      have honce:∀(j2:Nat) o2,ops[j2]?=some o2->o2.dst=some t->j2=j:=fun j2 o2 h3 h4=>(hO j o' ho').once t hdo' j2 o2 (by rw[Array.getElem?_toList];exact h3) h4
      rcases hoi.defs t ht j o' (by rw[Array.getElem?_toList];exact ho') hdo' with ⟨hji,e,hee,heon,heb⟩|⟨hij,hcase⟩
      .rw[hEd j o' t ho' hdo' i hji Om]
       refine(i4 t).1 j o' Om ho' hdo' ?_
       have:=g2 e hee heb
       rw[heon]at this
       exact toT j hj this
      .rw[hE0 t i Om (fun j2 o2 h3 h4=>by rw[honce j2 o2 h3 h4];exact hij)]
       refine(i4 t).2 fun j2 o2 h3 h4=>?_
       have hj2:=honce j2 o2 h3 h4
       subst hj2
       rcases hcase with rfl|⟨e,hee,heon,heb⟩
       .exact g1
       .cases hb:listed.getD j2 true with
        |false=>rfl
        |true =>
         have:=ic j2 o' ho' hb e hee heb
         rw[heon,g1]at this
         cases this
     .rw[hE0 t i Om (fun j2 o2 h3 h4=>absurd ⟨j2,o2,h3,h4⟩ hex)]
      exact(i4 t).2 fun j2 o2 h3 h4=>absurd ⟨j2,o2,h3,h4⟩ hex
    have hdoes:=hD i o hiP ho F' w' a' hmw hslots
    have hy:ops.toList.toArray=ops:=Array.toArray_toList
    rw[hy]at hdoes
    have next:∀(v:Value) (w2:World) (F2:Nat->Prop),Grew F' w' F2 w2->Vc w2 F2 σ (As i) v->wpAnyIn (Fen ro) 0 P .any ops Q fuel (listed.setIfInBounds i true) (a'.put o.dst v) w2:=by
     intro v w2 F2 hg hv
     exact ih _ _ _ (by simp[hls]) hun' ⟨by rw[put_size];exact i1,by rw[put_defers];exact i2,hclosed,F2,hg.mem hmw,slots2 v w2 F2 (fun A u h=>h.mono hg.fro (fun b hb=>hg.keep b (hmw.fl b hb)) (SLe.refl σ)) (fun _=>hv),hRq listed a' w' F' F2 w2 v i o i5 hg hiP ho hls i1⟩
    unfold wpOpIn
    simp only[ho]
    cases hw:Region.wanted o (yielded ops a'.tmps) with
    |false =>
     simp only[Bool.false_eq_true,if_false]
     exact⟨fun _ _=>trivial,next _ _ _ (Grew.refl hmw.fl) (hdoes.2 hw _ _)⟩
    | true =>
     simp only[if_true]
     have h3:=hdoes.1 hw
     have hdef:∀c,o.op≠.defer c:=fun c hc=>by
      simp only[execOp,hc,Sem.run_bind]at h3
      cases hr:(resolve a'.eval c o.type).run P w'<;>simp[hr,Result.andThen,YieldR]at h3
     refine wpIn_at hdef ?_
     generalize (execOp a'.eval o).run P w'=r at h3
     cases r with
     | ok x w2 =>
      cases x<;>simp only[YieldR]at h3<;>simp only[Oper.uponIn]
      case value u =>
       obtain⟨F2,k1,k2⟩:=h3
       exact next u w2 F2 k1 k2
      case enter f args =>
       obtain⟨e1,hc⟩:=h3
       rw[e1]
       exact⟨Fen_depth,callsFen.2 (hc.mono fun e w3 ⟨u,F3,he,k1,k2⟩=>by subst he;exact next u w3 F3 k1 k2)⟩
     |halt x w2=>simp only[YieldR]at h3
 have hrep:∀j,j<ops.size->(Array.replicate ops.size false).getD j true=false:=fun j hj=>by
  rw[getD_list,Array.toList_replicate,List.getElem?_replicate,if_pos hj]
  rfl
 refine wpIn_region_any h1 (main ops.size _ a _ (by simp) ?_ ⟨hN,rfl,fun j o ho hj=>?_,F,(Grew.drew hm.fl).mem hm,fun t=>⟨fun j o _ ho _ hj=>?_,fun _=>?_⟩,hR0⟩)
 .have:∀k,unl (List.replicate k false)=k:=fun k=>by
   induction k with
   |zero=>rfl
   |succ k ih=>rw[List.replicate_succ,unl,ih];simp;omega
  rw[Array.toList_replicate,this]
  exact Nat.le_refl _
 .rw[hrep j (Array.getElem?_eq_some_iff.1 ho).1]at hj
  cases hj
 .rw[hrep j (Array.getElem?_eq_some_iff.1 ho).1]at hj
  cases hj
 .exact Vc.mono (w:=w) (w':={w with drawn:=w.drawn+1}) (fun _ h=>h) (fun _ _=>rfl) (SLe.refl σ) (he t)
end
section
variable {P:Program}{T:Tab}{m:Mem}{σ:Pls}
theorem Awp.seq {N:Nat}{x y:Code}{env:Env}{Q:Post}(h:Awp P N x env m fun e env m=>match e with
  | .normal=>Awp P N y env m Q
  | .exit i=>Q (.exit i) env m
  | .goto i=>Q (.goto i) env m
  | .ret=>Q .ret env m
  | .panic ch=>Q (.panic ch) env m
  | .outgrown=>Q .outgrown env m):Awp P N (.seq x y) env m Q :=
 ⟨fun ro lo a w σ F hN hD he hm=>by
  refine wpIn_seq (wpIn_mono (h.run ro lo a w σ F hN hD he hm) ?_)
  rintro e a1 w1 ⟨env1,m1,σ1,F1,k1,k2,k3,k4,k5,k6,k7⟩
  cases e with
  |normal=>exact wpIn_mono ((show Awp P N y env1 m1 Q from k1).run ro lo a1 w1 σ1 F1 k2 k3 k4 k5) fun e a2 w2 h2=>lift_trans k6 k7 h2
  |_=>exact⟨env1,m1,σ1,F1,k1,k2,k3,k4,k5,k6,k7⟩⟩
def HoldB (n0:Nat)(e:TypeId)(sz:Nat)(cs:List D)(stored:Bool)(F:Nat->Prop)(w:World)(v:Value)(b:Nat):Prop :=
 v=.pointer (some ⟨b,0,none⟩)/\n0<=b/\b<w.heap.size/\¬ F b/\∃us:List Value,w.heap[b]?=some (.cells us.toArray e (0,0))/\us.length=sz/\(stored=true->∀(j:Nat) x u,cs[j]?=some x->us[j]?=some u->Rd w F x u/\u.oneCell'=true)
theorem HoldB.mono {n0:Nat}{e:TypeId}{sz:Nat}{cs:List D}{stored:Bool}{F F':Nat->Prop}{w w':World}{v:Value}{b:Nat}(h:HoldB n0 e sz cs stored F w v b)(hsz:w.heap.size<=w'.heap.size)(hF:∀b,F b->F' b)(hF':∀b,F' b->F b\/w.heap.size<=b)(hk:∀b,F b->w'.heap[b]?=w.heap[b]?)(hb:w'.heap[b]?=w.heap[b]?):HoldB n0 e sz cs stored F' w' v b:=by
 obtain⟨h1,h2,h3,h4,us,h5,h6,h7⟩:=h
 exact⟨h1,h2,Om,fun h=>by
  rcases hF' b h with h|h
  .exact h4 h
  .omega,us,by rw[hb];exact h5,h6,fun hs j x u hx hu=>⟨(h7 hs j x u hx hu).1.mono hF hk,(h7 hs j x u hx hu).2⟩⟩
def edgeTo (o:Oper)(j:Nat):Prop:=∃e∈o.after,e.on=j/\Region.binds .any e=true
theorem edgeTo_of {o:Oper}{j:Nat}(h:edgeOn o.after.toList j=true):edgeTo o j:=by
 unfold edgeOn at h
 obtain⟨e,he,h⟩:=List.any_eq_true.1 h
 simp only[Bool.and_eq_true]at h
 exact⟨e,Array.mem_toList_iff.1 he,Nat.eq_of_beq_eq_true h.1,h.2⟩
structure BoxS where
 t:Tmp
 e:TypeId
 tx:Tmp
 jx:Nat
 cs:List D
theorem listed_set {listed:Array Bool}{i j:Nat}(h:j≠i):(listed.setIfInBounds i true).getD j true=listed.getD j true:=by
 rw[getD_list,Array.toList_setIfInBounds,List.getElem?_set_ne (fun e=>h e.symm),<-getD_list]
theorem listed_self {listed:Array Bool}{i:Nat}:(listed.setIfInBounds i true).getD i true=true:=by
 rw[getD_list,Array.toList_setIfInBounds]
 by_cases h:i<listed.toList.length
 .rw[List.getElem?_set_self h];rfl
 .rw[List.getElem?_eq_none (by simpa using h)];rfl
theorem put_ne {a:Act}{d:Option Tmp}{v:Value}{t:Tmp}(h:d≠some t):(a.put d v).tmps.getD t undef=a.tmps.getD t undef:=by
 cases d with
 |none=>rfl
 |some d =>
  simp only[Act.put,Array.getD_eq_getD_getElem?]
  rw[Array.getElem?_setIfInBounds_ne (fun e=>h (by rw[e]))]
theorem put_eq {a:Act}{v:Value}{t:Tmp}(h:t<a.tmps.size):(a.put (some t) v).tmps.getD t undef=v:=by
 simp only[Act.put,Array.getD_eq_getD_getElem?]
 rw[Array.getElem?_setIfInBounds_self_of_lt h]
 rfl
theorem run_alloc_box (hT:TabOk P T){e:TypeId}{ti:TI}(hti:T.at e=some ti)(w:World):∃us:List Value,us.length=ti.size/\∀(a:Act) (o:Oper),o.op=.alloc e->(execOp a.eval o).run P w=.ok (.value (.pointer (some ⟨w.heap.size,0,none⟩))) (w.alloc (.cells us.toArray e)):=by
 obtain⟨z,hz,_,hzn⟩:=run_zeroValue (hT _ _ hti) w
 exact⟨z.cells.toList,by simpa using hzn,fun a o hop=>by simp[execOp,hop,Instr.alloc,newVar,newRow,hz]⟩
theorem run_store_box (hT:TabOk P T){e:TypeId}{ti:TI}(hti:T.at e=some ti){cs:List D}(hsz:ti.size=cs.length)(hone:∀x∈cs,x.one=true){F:Nat->Prop}{w:World}{V:Value}(hv:Rd w F (.agg cs) V){b:Nat}{us:List Value}(hb:w.heap[b]?=some (.cells us.toArray e (0,0)))(hl:us.length=cs.length) :
  ∃vs:List Value,vs.length=cs.length/\(∀(j:Nat) x u,cs[j]?=some x->vs[j]?=some u->Rd w F x u/\u.oneCell'=true)/\(Instr.storeAt e (.pointer (some ⟨b,0,none⟩)) V).run P w=.ok () (w.setRow b vs.toArray):=by
 cases hv with
 | @agg _ vs hvl hvr =>
  have h1:∀(j:Nat) x u,cs[j]?=some x->vs[j]?=some u->Rd w F x u/\u.oneCell'=true:=fun j x u hx hu=>⟨hvr j x u hx hu,(hvr j x u hx hu).one_ok (hone x (List.mem_of_getElem? hx))⟩
  have hone':∀v∈vs,v.oneCell'=true:=fun v hvm=>by
   obtain⟨j,hj,rfl⟩:=List.getElem_of_mem hvm
   exact(h1 j _ _ (List.getElem?_eq_getElem Om) (List.getElem?_eq_getElem hj)).2
  refine⟨vs,hvl,h1,?_⟩
  have:=run_storeCells_at P b 0 e vs 0 us.toArray w hb (by simp;omega) hone'
  simp only[Nat.add_zero,Nat.zero_add]at this
  have e1:(us.toArray.toList.take 0++vs++us.toArray.toList.drop vs.length)=vs:=by
   rw[List.take_zero,List.nil_append,List.drop_of_length_le (by simp;omega),List.append_nil]
  rw[e1]at this
  have hcells:(Value.agg vs.toArray).cells=vs.toArray:=rfl
  have hts:ti.size=vs.length:=by omega
  simp[Instr.storeAt,Instr.sureAddr,storeVar,hcells,run_sizeOf (hT _ _ hti),hts,this]
variable {ro:Option Nat}
def Weak (m0 m1:Mem):Prop:=∀r,m0.at r=m1.at r\/(m0.at r=some (some .opq)/\∃B,m1.at r=some (some B))
theorem Weak.ok {m0 m1:Mem}(h:Weak m0 m1){F:Nat->Prop}{w:World}(hm:MemOk m1 σ F w):MemOk m0 σ F w where
 dom r:=by
  rcases h r with h|⟨h1,_,h2⟩
  .rw[h];exact hm.dom r
  .rw[h1]
   have:=hm.dom r
   rw[h2]at this
   exact⟨fun e=>(by have:=this.1 e;cases this),fun e=>by cases e⟩
 lv r q hq:=by
  rcases h r with h|⟨h1,B0,h2⟩
  .rw[h];exact hm.lv r q hq
  .refine⟨fun e=>?_,fun pl e=>?_⟩
   .have:=(hm.lv r q hq).1 e
    rw[h2]at this
    cases this
   .obtain⟨B,hB,hok⟩:=(hm.lv r q hq).2 pl e
    rw[h2]at hB
    injection hB with hB
    injection hB with hB
    subst hB
    exact⟨.opq,h1,Tt⟩
 inj:=hm.inj
 nf:=hm.nf
 fl:=hm.fl
 gl:=hm.gl
def allOne:List D->Bool
 |[]=>true
 |x::r=>x.one&&allOne r
theorem allOne_ok:∀{cs:List D},allOne cs=true->∀x∈cs,x.one=true
 |[],_,x,hx=>by simp at hx
 |y::r,h,x,hx=>by
  simp only[allOne,Bool.and_eq_true]at h
  rcases List.mem_cons.1 hx with rfl|hx
  .exact h.1
  .exact allOne_ok h.2 x hx
theorem take_len {ops:Array Oper}{n:Nat}{suf:List Oper}(hs:ops.toList.drop n=suf)(hn:suf≠[]):(ops.toList.take n).length=n:=by
 rw[List.length_take]
 have:n<ops.toList.length:=by
  rcases Nat.lt_or_ge n ops.toList.length with h|h
  .exact h
  .rw[List.drop_of_length_le h]at hs
   exact absurd hs.symm hn
 omega
end
section
variable {P:Program}{T:Tab}{m:Mem}{env:Env}{K:AV->Mem->Prop}{o:Oper}
end
noncomputable def vcE (P:Program)(T:Tab)(full:List Oper)(m:Mem)(eff:Nat->Bool)(res:Nat->AV)(ops:List Oper):Nat->Env->(Env->Prop)->Prop :=
 List.rec (motive:=fun _=>Nat->Env->(Env->Prop)->Prop) (fun _ env K=>K env) (fun o _ ih k env K=>match eff k with
  |true=>setD env o.dst (res k) fun env=>ih (k+1) env K
  | false=>match o.guard with
   |none=>vcR1 P T m (sel env (tmpsOf o.op)) o fun v=>setD env o.dst v fun env=>ih (k+1) env K
   | some (j,want)=>match guardOf full (sel env (gTmp full (some (j,want)))) j want with
    |none=>False
    |some g=>match evRead T (sel env (tmpsOf o.op)) m o.op with
     |some (v,l)=>obs (under g l) (frc v fun v=>setD env o.dst (.gd g v) fun env=>ih (k+1) env K)
     |none=>Br g (Ev (vcR1 P T m (sel env (tmpsOf o.op)) o fun v=>setD env o.dst v fun env=>ih (k+1) env K)) (Ev (setD env o.dst (.gd false (.d (.bool false))) fun env=>ih (k+1) env K))) ops
theorem vcE_cons (P:Program)(T:Tab)(full:List Oper)(m:Mem)(eff:Nat->Bool)(res:Nat->AV)(o:Oper)(rest:List Oper)(k:Nat)(env:Env)(K:Env->Prop):vcE P T full m eff res (o::rest) k env K=match eff k with
  |true=>setD env o.dst (res k) fun env=>vcE P T full m eff res rest (k+1) env K
  | false=>match o.guard with
   |none=>vcR1 P T m (sel env (tmpsOf o.op)) o fun v=>setD env o.dst v fun env=>vcE P T full m eff res rest (k+1) env K
   | some (j,want)=>match guardOf full (sel env (gTmp full (some (j,want)))) j want with
    |none=>False
    |some g=>match evRead T (sel env (tmpsOf o.op)) m o.op with
     |some (v,l)=>obs (under g l) (frc v fun v=>setD env o.dst (.gd g v) fun env=>vcE P T full m eff res rest (k+1) env K)
     |none=>Br g (Ev (vcR1 P T m (sel env (tmpsOf o.op)) o fun v=>setD env o.dst v fun env=>vcE P T full m eff res rest (k+1) env K)) (Ev (setD env o.dst (.gd false (.d (.bool false))) fun env=>vcE P T full m eff res rest (k+1) env K)):=rfl
section
variable {P:Program}{T:Tab}{m:Mem}
variable {ro:Option Nat}
theorem vcE_ext (hT:TabOk P T){full:List Oper}{eff:Nat->Bool}{res:Nat->AV}{K:Env->Prop}:∀(rest:List Oper) (k0:Nat) (env:Env),vcE P T full m eff res rest k0 env K ->
  ∃As:Nat->AV,K (envsOf env rest As rest.length)/\(∀k,k<rest.length->eff (k0+k)=true->As k=res (k0+k))/\∀(k:Nat) o,rest[k]?=some o->eff (k0+k)=false->∀σ:Pls,DoesG P m σ full o (envsOf env rest As k) (As k)
 |[],k0,env,h=>⟨fun _=>.junk,h,fun k hk=>by simp at hk,fun k o ho=>by simp at ho⟩
 | o :: r,k0,env,h=>by
  have key:∃A,vcE P T full m eff res r (k0+1) (stepE o A env) K/\(eff k0=true->A=res k0)/\(eff k0=false->∀σ:Pls,DoesG P m σ full o env A):=by
   rw[vcE_cons]at h
   have hs1:∀t∈tmpsOf o.op,t∈slots full o:=fun t ht=>mem_app2.2 (.inl ht)
   cases he:eff k0 with
   |true =>
    rw[he]at h
    exact⟨_,setD_step h,fun _=>rfl,fun h=>by cases h⟩
   |false =>
   rw[he]at h
   simp only at h
   split at h
   .rename_i hg
    obtain⟨A,hK,hD⟩:=vcR1_okA hT h
    refine⟨A,setD_step hK,fun h=>(by cases h),fun _ σ F w a hm he=>⟨fun _=>hD σ F w a hm (sel_ok fun t ht=>he t (hs1 t ht)),fun hw=>?_⟩⟩
    simp[Region.wanted,hg]at hw
   .rename_i j want hg
    have hs2:∀t∈gTmp full (some (j,want)),t∈slots full o:=fun t ht=>mem_app2.2 (.inr (by rw[hg];exact ht))
    split at h<;>try (cases h;done)
    rename_i g hgo
    have hw:∀(σ:Pls) (F:Nat->Prop) (w:World) (a:Act),(∀t∈slots full o,Vc w F σ (get env t) (a.tmps.getD t undef))->Region.wanted o (yielded full.toArray a.tmps)=g:=fun σ F w a he=>by
     simp only[Region.wanted,hg]
     exact guardOf_ok (sel_ok fun t ht=>he t (hs2 t ht)) hgo
    split at h
    .rename_i v l hr
     obtain⟨hl,h⟩:=obs_ok h
     rw[frc_eq]at h
     refine⟨.gd g v,setD_step h,fun h=>(by cases h),fun _ σ F w a hm he=>?_⟩
     rw[hw σ F w a he]
     refine⟨fun hgt=>?_,fun hgf w F=>.gd (fun h=>by rw[hgf]at h;cases h) fun _=>rfl⟩
     exact YieldR.mono (fun w F u hu=>.gd (fun _=>hu) fun h=>by rw[hgt]at h;cases h) (evRead_does hT hr (under_ok hl hgt) F w a hm (sel_ok fun t ht=>he t (hs1 t ht)))
    .cases g with
     |true =>
      obtain⟨A,hK,hD⟩:=vcR1_okA hT (h.t rfl).o
      refine⟨A,setD_step hK,fun h=>(by cases h),fun _ σ F w a hm he=>⟨fun _=>hD σ F w a hm (sel_ok fun t ht=>he t (hs1 t ht)),fun hwf=>?_⟩⟩
      rw[hw σ F w a he]at hwf
      cases hwf
     |false =>
      refine⟨_,setD_step (h.f rfl).o,fun h=>(by cases h),fun _ σ F w a hm he=>⟨fun hwt=>?_,fun _ w F=>.gd (fun h=>by cases h) fun _=>rfl⟩⟩
      rw[hw σ F w a he]at hwt
      cases hwt
  obtain⟨A,hr,hA,hD⟩:=key
  obtain⟨As,hK,hAe,hAs⟩:=vcE_ext hT r (k0+1) _ hr
  refine⟨consA A As,?_,fun k hk he=>?_,fun k o' ho he=>?_⟩
  .rw[List.length_cons,envsOf_cons]
   exact hK
  .cases k with
   |zero=>exact hA he
   |succ k =>
    have:=hAe k (by simpa using hk) (by rw[<-he];congr 1;omega)
    show As k=_
    rw[this]
    congr 1
    omega
  .cases k with
   |zero=>simp at ho;subst ho;exact hD he
   |succ k =>
    rw[envsOf_cons]
    exact hAs k o' (by simpa using ho) (by rw[<-he];congr 1;omega)
theorem drawn_eff {id N:Nat} {ops:Array Oper} {F:Nat→Prop} {w:World} {a:Act} {env:Env} {σ:Pls} {K:Env→Prop} {Q:Exit→Act→World→Prop} {eff:Nat→Bool} {res:Nat→AV}
  (h1:P.follows .mixedOrders=true) (h2:okR ops.toList=true) (hT:TabOk P T) (hd:dstsIn N ops.toList=true) (h:vcE P T ops.toList m eff res ops.toList 0 env K) (hN:a.tmps.size=N) (he:EnvOk env w F σ a.tmps)
  (R:Array Bool->Act->World->(Nat->Prop)->Pls->Prop) (hRm:∀listed a' w' F' σ' (i:Nat),i<ops.size->eff i=false->listed.getD i true=false->R listed a' w' F' σ'->MemOk m σ' F' w')
  (hR0:R (Array.replicate ops.size false) a {w with drawn:=w.drawn+1} F σ)
  (hRq:∀listed a' w' F' σ' F2 w2 v (i:Nat) o,R listed a' w' F' σ'->Grew F' w' F2 w2->eff i=false->ops[i]?=some o->listed.size=ops.size->a'.tmps.size=N->R (listed.setIfInBounds i true) (a'.put o.dst v) w2 F2 σ')
  (hRe:∀ As listed a' w' F' σ' (i:Nat) o,(∀ (j:Nat) o d,ops[j]?=some o→o.dst=some d→get (envsOf env ops.toList As ops.size) d=As j)→K (envsOf env ops.toList As ops.size)→(∀ (j:Nat),j < ops.size→eff j=true→As j=res j)→eff i=true→ops[i]?=some o→listed.getD i true=false→(∀ e∈o.after,Region.binds .any e=true→listed.getD e.on true=true)→(∀ (j:Nat) o,ops[j]?=some o→listed.getD j true=true→∀ e∈o.after,Region.binds .any e=true→listed.getD e.on true=true)→listed.size=ops.size→a'.tmps.size=N→a'.defers=a.defers→Slots ops ops.size env σ' As listed F' w' a'.tmps→R listed a' w' F' σ' →
   ∀next:Act->World->Prop,(∀v w2 F2 σ2,(∀A u,Vc w' F' σ' A u->Vc w2 F2 σ2 A u)->Vc w2 F2 σ2 (res i) v->R (listed.setIfInBounds i true) (a'.put o.dst v) w2 F2 σ2->next (a'.put o.dst v) w2)->wpOpIn (Fen ro) 0 P ops Q i next a' w')
  (hQ:∀env' a' w' F' σ',K env'->a'.tmps.size=N->a'.defers=a.defers->EnvOk env' w' F' σ' a'.tmps->(∀listed,(∀i,i<ops.size->listed.getD i true=true)->R listed a' w' F' σ'->Q .normal a' w')):(Code.region id ops true).wpIn (Fen ro) 0 P Q a w:=by
 obtain⟨As,hK,hAe,hD0⟩:=vcE_ext hT ops.toList 0 env h
 have hO:∀(i:Nat) o,ops[i]?=some o->OrdAt ops.toList i o:=fun i o ho=>by
  have:=okFrom_at h2 i o (by rw[Array.getElem?_toList];exact ho)
  rwa [Nat.zero_add]at this
 have hdst:∀(i:Nat) o d,ops[i]?=some o->o.dst=some d->d<N:=by
  have:∀(l:List Oper),dstsIn N l=true->∀(i:Nat) o d,l[i]?=some o->o.dst=some d->d<N:=by
   intro l
   induction l with
   |nil=>intro _ i o d ho;simp at ho
   | cons x r ih =>
    intro hl i o d ho hdo
    simp only[dstsIn,Bool.and_eq_true]at hl
    cases i with
    |zero =>
     simp at ho
     subst ho
     have:=hl.1
     rw[hdo]at this
     exact Nat.le_of_ble_eq_true this
    |succ i=>exact ih hl.2 i o d (by simpa using ho) hdo
  exact fun i o d ho hdo=>this ops.toList hd i o d (by rw[Array.getElem?_toList];exact ho) hdo
 have hsize:ops.toList.length=ops.size:=Array.length_toList
 have hEd:∀(i:Nat) o d,ops[i]?=some o->o.dst=some d->∀k,i<k->k<=ops.toList.length->get (envsOf env ops.toList As k) d=As i:=by
  intro i o d ho hdo k hk hkn
  have hol:ops.toList[i]?=some o:=by rw[Array.getElem?_toList];exact ho
  rw[envs_stable (i:=i+1) k Om (fun j o' h3 h4 ho' hd'=>by
    have:=(hO i o ho).once d hdo j o' ho' hd'
    omega)]
  rw[envsOf,hol]
  exact get_step_self hdo
 have hE0:∀t k,k<=ops.toList.length->(∀(j:Nat) o,ops[j]?=some o->o.dst=some t->k<=j)->get (envsOf env ops.toList As k) t=get env t:=fun t k hk hno =>
  envs_stable (i:=0) k (Nat.zero_le _) (fun j o _ hj ho hdo=>by
   rw[Array.getElem?_toList]at ho
   have:=hno j o ho hdo
   omega)
 rw[hsize]at hK
 have hEd':∀(j:Nat) o d,ops[j]?=some o->o.dst=some d->get (envsOf env ops.toList As ops.size) d=As j:=fun j o d ho hdo=>hEd j o d ho hdo _ (Array.getElem?_eq_some_iff.1 ho).1 Om
 let Inv:Array Bool->Act->World->Prop:=fun listed a' w'=>a'.tmps.size=N/\a'.defers=a.defers/\(∀(j:Nat) o,ops[j]?=some o->listed.getD j true=true->∀e∈o.after,Region.binds .any e=true->listed.getD e.on true=true) /\
  ∃F' σ',Slots ops ops.size env σ' As listed F' w' a'.tmps/\R listed a' w' F' σ'
 have done:∀(fuel:Nat) (listed:Array Bool) (a':Act) (w':World),listed.size=ops.size->(∀i,i<ops.size->listed.getD i true=true)->Q .normal a' w'->wpAnyIn (Fen ro) 0 P .any ops Q fuel listed a' w':=by
  intro fuel listed a' w' hls hall hq
  have hnil:Region.ready .any ops listed=[]:=List.eq_nil_iff_forall_not_mem.2 fun i hi=>by
   obtain⟨g1,o,ho,_⟩:=mem_ready.1 hi
   rw[hall i (Array.getElem?_eq_some_iff.1 ho).1]at g1
   cases g1
  cases fuel with
  |zero=>exact⟨hnil,hq⟩
  |succ fuel=>exact⟨fun _=>hq,fun i hi=>by rw[hnil]at hi;cases hi⟩
 have fin:∀(listed:Array Bool) (a':Act) (w':World),(∀i,i<ops.size->listed.getD i true=true)->Inv listed a' w'->Q .normal a' w':=by
  rintro listed a' w' hall ⟨i1,i2,ic,F',σ',i4,i5⟩
  refine hQ _ a' w' F' σ' hK i1 i2 (fun t=>?_) listed hall i5
  by_cases hex:∃(j:Nat) (o:Oper),ops[j]?=some o/\o.dst=some t
  .obtain⟨j,o,ho,hdo⟩:=hex
   have hj:=(Array.getElem?_eq_some_iff.1 ho).1
   rw[hEd' j o t ho hdo]
   exact(i4 t).1 j o hj ho hdo (hall j hj)
  .rw[hE0 t _ Om (fun j o ho hdo=>absurd ⟨j,o,ho,hdo⟩ hex)]
   exact(i4 t).2 fun j o ho hdo=>absurd ⟨j,o,ho,hdo⟩ hex
 have main:∀ (fuel:Nat) (listed:Array Bool) (a':Act) (w':World),listed.size=ops.size→unl listed.toList≤fuel→Inv listed a' w'→wpAnyIn (Fen ro) 0 P .any ops Q fuel listed a' w':=by
  intro fuel
  induction fuel with
  | zero =>
   intro listed a' w' hls hun hI
   have hall:∀i,i<ops.size->listed.getD i true=true:=fun i hi=>by
    rw[getD_list]
    cases hb:listed.toList[i]? with
    |none=>rfl
    |some b=>exact unl_zero Om i b hb
   exact done 0 listed a' w' hls hall (fin listed a' w' hall hI)
  | succ fuel ih =>
   intro listed a' w' hls hun hI
   refine⟨fun hnil=>?_,fun i hi=>?_⟩
   .have hall:∀i,i<ops.size->listed.getD i true=true:=by
     intro i
     induction i using Nat.strongRecOn with
     | _ i ihi =>
      intro hi
      cases hb:listed.getD i true with
      |true=>rfl
      | false =>
       exfalso
       have ho:ops[i]?=some ops[i]:=Array.getElem?_eq_getElem hi
       have:i∈Region.ready .any ops listed:=mem_ready.2 ⟨hb,_,ho,fun e he hbe=>by
        have hlt:=(hO i _ ho).back e he hbe
        have:=ihi e.on hlt Om
        rw[getD_list]at this⊢
        have hin:e.on<listed.toList.length:=by rw[Array.length_toList,hls];omega
        rw[List.getElem?_eq_getElem hin]at this⊢
        exact this⟩
       rw[hnil]at this
       cases this
    exact fin listed a' w' hall hI
   .obtain⟨g1,o,ho,g2⟩:=mem_ready.1 hi
    have hin:i<ops.size:=(Array.getElem?_eq_some_iff.1 ho).1
    have hoi:=hO i o ho
    obtain⟨i1,i2,ic,F',σ',i4,i5⟩:=hI
    have toT:∀j,j<ops.size->listed.getD j false=true->listed.getD j true=true:=fun j hj h=>by
     rw[getD_list]at h⊢
     have hin2:j<listed.toList.length:=by rw[Array.length_toList,hls];omega
     rw[List.getElem?_eq_getElem hin2]at h⊢
     exact h
    have hlist:listed.toList[i]?=some false:=by
     rw[getD_list]at g1
     cases hb:listed.toList[i]? with
     |none=>rw[hb]at g1;cases g1
     |some b=>rw[hb]at g1;simp at g1;rw[g1]
    have hset:∀j,j≠i->(listed.setIfInBounds i true).getD j true=listed.getD j true:=fun j hne=>by
     rw[getD_list,Array.toList_setIfInBounds,List.getElem?_set_ne (fun e=>hne e.symm),<-getD_list]
    have hsetm:∀j,listed.getD j true=true->(listed.setIfInBounds i true).getD j true=true:=fun j h=>by
     by_cases e:j=i
     .subst e;rw[h]at g1;cases g1
     .rw[hset j e];exact h
    have hseti:(listed.setIfInBounds i true).getD i true=true:=by
     rw[getD_list,Array.toList_setIfInBounds,List.getElem?_set_self (by rw[Array.length_toList,hls];exact hin)]
     rfl
    have hclosed:∀(j:Nat) o,ops[j]?=some o->(listed.setIfInBounds i true).getD j true=true->∀e∈o.after,Region.binds .any e=true->(listed.setIfInBounds i true).getD e.on true=true:=fun j o' ho' hj e he hb=>by
     by_cases hji:j=i
     .subst hji
      rw[ho]at ho'
      cases ho'
      have hlt:=hoi.back e he hb
      exact hsetm _ (toT _ Om (g2 e he hb))
     .rw[hset j hji]at hj
      exact hsetm _ (ic j o' ho' hj e he hb)
    have hun':unl (listed.setIfInBounds i true).toList<=fuel:=by
     have:=unl_set hlist
     rw[Array.toList_setIfInBounds]
     omega
    have putv:∀(v:Value) t,o.dst≠some t->(a'.put o.dst v).tmps.getD t undef=a'.tmps.getD t undef:=fun v t hdt=>by
     cases hdo:o.dst with
     |none=>rfl
     |some d =>
      simp only[Act.put,Array.getD_eq_getD_getElem?]
      rw[Array.getElem?_setIfInBounds_ne (fun e=>hdt (by rw[hdo,e]))]
    have puts:∀(v:Value) t,o.dst=some t->(a'.put o.dst v).tmps.getD t undef=v:=fun v t hdt=>by
     have hdN:=hdst i o t ho hdt
     rw[hdt]
     simp only[Act.put,Array.getD_eq_getD_getElem?]
     rw[Array.getElem?_setIfInBounds_self_of_lt (by rw[i1];exact hdN)]
     rfl
    have slots2:∀(v:Value) (w2:World) (F2:Nat->Prop) (σ2:Pls),(∀A u,Vc w' F' σ' A u->Vc w2 F2 σ2 A u)->Vc w2 F2 σ2 (As i) v->Slots ops ops.size env σ2 As (listed.setIfInBounds i true) F2 w2 (a'.put o.dst v).tmps:=fun v w2 F2 σ2 mono hv t=>by
     by_cases hdt:o.dst=some t
     .rw[puts v t hdt]
      refine⟨fun j o' hjp ho' hd' _=>?_,fun hno=>?_⟩
      .have:=hoi.once t hdt j o' (by rw[Array.getElem?_toList];exact ho') hd'
       subst this
       exact hv
      .have:=hno i o ho hdt
       rw[hseti]at this
       cases this
     .rw[putv v t hdt]
      have hne:∀(j:Nat) o',ops[j]?=some o'->o'.dst=some t->j≠i:=fun j o' ho' hd' e=>by
       subst e
       rw[ho]at ho'
       cases ho'
       exact hdt hd'
      refine⟨fun j o' hjp ho' hd' hj=>?_,fun hno=>?_⟩
      .rw[hset j (hne j o' ho' hd')]at hj
       exact mono _ _ ((i4 t).1 j o' hjp ho' hd' hj)
      .exact mono _ _ ((i4 t).2 fun j o' ho' hd'=>by
        have:=hno j o' ho' hd'
        rwa [hset j (hne j o' ho' hd')]at this)
    cases hef:eff i with
    |true =>
     refine hRe As listed a' w' F' σ' i o hEd' hK (fun j hj he=>by have:=hAe j Om (by rw[Nat.zero_add];exact he);rwa [Nat.zero_add]at this) hef ho g1 (fun e he hb=>toT _ (by have:=hoi.back e he hb;omega) (g2 e he hb)) ic hls i1 i2 i4 i5 _ fun v w2 F2 σ2 k1 k2 k3=>?_
     have hAi:=hAe i Om (by rw[Nat.zero_add];exact hef)
     rw[Nat.zero_add]at hAi
     exact ih _ _ _ (by simp[hls]) hun' ⟨by rw[put_size];exact i1,by rw[put_defers];exact i2,hclosed,F2,σ2,slots2 v w2 F2 σ2 k1 (by rw[hAi];exact k2),k3⟩
    |false =>
    have hmw:=hRm _ _ _ _ _ i hin hef g1 i5
    have hslots:∀ t∈slots ops.toList o,Vc w' F' σ' (get (envsOf env ops.toList As i) t) (a'.tmps.getD t undef):=fun t ht=>by
     by_cases hex:∃(j:Nat) (o':Oper),ops[j]?=some o'/\o'.dst=some t
     .obtain⟨j,o',ho',hdo'⟩:=hex
      have hj:j<ops.size:=(Array.getElem?_eq_some_iff.1 ho').1
      have honce:∀(j2:Nat) o2,ops[j2]?=some o2->o2.dst=some t->j2=j:=fun j2 o2 h3 h4=>(hO j o' ho').once t hdo' j2 o2 (by rw[Array.getElem?_toList];exact h3) h4
      rcases hoi.defs t ht j o' (by rw[Array.getElem?_toList];exact ho') hdo' with ⟨hji,e,hee,heon,heb⟩|⟨hij,hcase⟩
      .rw[hEd j o' t ho' hdo' i hji Om]
       refine(i4 t).1 j o' hj ho' hdo' ?_
       have:=g2 e hee heb
       rw[heon]at this
       exact toT j hj this
      .rw[hE0 t i Om (fun j2 o2 h3 h4=>by rw[honce j2 o2 h3 h4];exact hij)]
       refine(i4 t).2 fun j2 o2 h3 h4=>?_
       have hj2:=honce j2 o2 h3 h4
       subst hj2
       rcases hcase with rfl|⟨e,hee,heon,heb⟩
       .exact g1
       .cases hb:listed.getD j2 true with
        |false=>rfl
        |true =>
         have:=ic j2 o' ho' hb e hee heb
         rw[heon,g1]at this
         cases this
     .rw[hE0 t i Om (fun j2 o2 h3 h4=>absurd ⟨j2,o2,h3,h4⟩ hex)]
      exact(i4 t).2 fun j2 o2 h3 h4=>absurd ⟨j2,o2,h3,h4⟩ hex
    have hdoes:=hD0 i o (by rw[Array.getElem?_toList];exact ho) (by rw[Nat.zero_add];exact hef) σ' F' w' a' hmw hslots
    have hy:ops.toList.toArray=ops:=Array.toArray_toList
    rw[hy]at hdoes
    have next:∀(v:Value) (w2:World) (F2:Nat->Prop),Grew F' w' F2 w2->Vc w2 F2 σ' (As i) v->wpAnyIn (Fen ro) 0 P .any ops Q fuel (listed.setIfInBounds i true) (a'.put o.dst v) w2:=by
     intro v w2 F2 hg hv
     exact ih _ _ _ (by simp[hls]) hun' ⟨by rw[put_size];exact i1,by rw[put_defers];exact i2,hclosed,F2,σ',slots2 v w2 F2 σ' (fun A u h=>h.mono hg.fro (fun b hb=>hg.keep b (hmw.fl b hb)) (SLe.refl σ')) hv,hRq listed a' w' F' σ' F2 w2 v i o i5 hg hef ho hls i1⟩
    unfold wpOpIn
    simp only[ho]
    cases hw:Region.wanted o (yielded ops a'.tmps) with
    |false =>
     simp only[Bool.false_eq_true,if_false]
     exact⟨fun _ _=>trivial,next _ _ _ (Grew.refl hmw.fl) (hdoes.2 hw _ _)⟩
    | true =>
     simp only[if_true]
     have h3:=hdoes.1 hw
     have hdef:∀c,o.op≠.defer c:=fun c hc=>by
      simp only[execOp,hc,Sem.run_bind]at h3
      cases hr:(resolve a'.eval c o.type).run P w'<;>simp[hr,Result.andThen,YieldR]at h3
     refine wpIn_at hdef ?_
     generalize (execOp a'.eval o).run P w'=r at h3
     cases r with
     | ok x w2 =>
      cases x<;>simp only[YieldR]at h3<;>simp only[Oper.uponIn]
      case value u =>
       obtain⟨F2,k1,k2⟩:=h3
       exact next u w2 F2 k1 k2
      case enter f args =>
       obtain⟨e1,hc⟩:=h3
       rw[e1]
       exact⟨Fen_depth,callsFen.2 (hc.mono fun e w3 ⟨u,F3,he,k1,k2⟩=>by subst he;exact next u w3 F3 k1 k2)⟩
     |halt x w2=>simp only[YieldR]at h3
 have hrep:∀j,j<ops.size->(Array.replicate ops.size false).getD j true=false:=fun j hj=>by
  rw[getD_list,Array.toList_replicate,List.getElem?_replicate,if_pos hj]
  rfl
 refine wpIn_region_any h1 (main ops.size _ a _ (by simp) ?_ ⟨hN,rfl,fun j o ho hj=>?_,F,σ,fun t=>⟨fun j o _ ho _ hj=>?_,fun _=>?_⟩,hR0⟩)
 .have:∀k,unl (List.replicate k false)=k:=fun k=>by
   induction k with
   |zero=>rfl
   |succ k ih=>rw[List.replicate_succ,unl,ih];simp;omega
  rw[Array.toList_replicate,this]
  exact Nat.le_refl _
 .rw[hrep j (Array.getElem?_eq_some_iff.1 ho).1]at hj
  cases hj
 .rw[hrep j (Array.getElem?_eq_some_iff.1 ho).1]at hj
  cases hj
 .exact Vc.mono (w:=w) (w':={w with drawn:=w.drawn+1}) (fun _ h=>h) (fun _ _=>rfl) (SLe.refl σ) (he t)
end
section
variable {P:Program}{T:Tab}{m:Mem}
variable {ro:Option Nat}
theorem SLe.trans {σ σ' σ'':Pls}(h:SLe σ σ')(k:SLe σ' σ''):SLe σ σ'':=fun r q hq=>by
 obtain⟨q1,h1,l1⟩:=h r q hq
 obtain⟨q2,h2,l2⟩:=k r q1 h1
 exact⟨q2,h2,l1.trans l2⟩
def noLate (ts:List Nat)(i:Nat)(l:List Oper):Bool:=(l.drop i).all fun o=>match o.dst with
 |some d=>!(memN d ts)
 |none=>true
theorem noLate_at {ts:List Nat}{i:Nat}{l:List Oper}(h:noLate ts i l=true){t:Nat}(ht:t∈ts){j:Nat}{o:Oper}(ho:l[j]?=some o)(hd:o.dst=some t):j<i:=by
 rcases Nat.lt_or_ge j i with hj|hj
 .exact hj
 .exfalso
  unfold noLate at h
  rw[List.all_eq_true]at h
  have hm:o∈l.drop i:=by
   rw[List.mem_iff_getElem?]
   exact⟨j-i,by rw[List.getElem?_drop,show i+(j-i)=j by omega];exact ho⟩
  have:=h o hm
  rw[hd]at this
  simp only[Bool.not_eq_true']at this
  have h2:memN t ts=true:=by
   clear this h hm
   induction ts with
   |nil=>simp at ht
   |cons a r ih =>
    rcases List.mem_cons.1 ht with rfl|ht
    .simp[memN]
    .simp[memN,ih ht]
  rw[h2]at this
  cases this
def WeakL:List (Option Blk)->List (Option Blk)->Prop
 |[],[]=>True
 |x::r,y::s=>(x=y\/(x=some .opq/\∃B,y=some B))/\WeakL r s
 |_,_=>False
def pathOk (ops:List Oper):List Nat->Bool
 |i::j::r=>(match ops[i]? with
  |some o=>edgeOn o.after.toList j
  |none=>false)&&pathOk ops (j::r)
 |_=>true
theorem path_at {ops:Array Oper}{listed:Array Bool}(hc:∀(j:Nat) o,ops[j]?=some o->listed.getD j true=true->∀e∈o.after,Region.binds .any e=true->listed.getD e.on true=true):∀(l:List Nat) (i:Nat),pathOk ops.toList (i::l)=true->listed.getD i true=true->∀x∈l,listed.getD x true=true
 |[],i,_,_,x,hx=>by simp at hx
 | j :: r,i,h,hi,x,hx=>by
  simp only[pathOk,Bool.and_eq_true]at h
  have hj:listed.getD j true=true:=by
   have h1:=h.1
   rw[Array.getElem?_toList]at h1
   cases ho:ops[i]? with
   |none=>rw[ho]at h1;cases h1
   |some o =>
    rw[ho]at h1
    obtain⟨e,he,heo,heb⟩:=edgeTo_of h1
    have:=hc i o ho hi e he heb
    rwa [heo]at this
  rcases List.mem_cons.1 hx with rfl|hx
  .exact hj
  .exact path_at hc r j h.2 hj x hx
theorem eff_step (hT:TabOk P T){id N:Nat}{ops:Array Oper}{i:Nat}{o:Oper}{env:Env}{As:Nat->AV}{m1 m2:Mem}{B:AV}{d:Nat}(h2:okR ops.toList=true)(hdN:Nat.blt d N=true)(ho:ops[i]?=some o)(hdst:o.dst=some d)(hnl:noLate (slots ops.toList o) i ops.toList=true)
  {A:AV} (hA:A=match o.guard with|none=>B|some _=>.gd true B) (hgd:∀j want,o.guard=some (j,want)->guardOf ops.toList (sel (envsOf env ops.toList As ops.size) (gTmp ops.toList (some (j,want)))) j want=some true)
  (hop:vcOp P T o (sel (envsOf env ops.toList As ops.size) (tmpsOf o.op)) m1 fun e m'=>get e d=B/\m'=m2) (hE:∀(j:Nat) o d,ops[j]?=some o->o.dst=some d->get (envsOf env ops.toList As ops.size) d=As j)
  {σ':Pls} {F':Nat->Prop} {w':World} {a':Act} {listed:Array Bool} (hN:a'.tmps.size=N) (hm:MemOk m1 σ' F' w') (hen:∀e∈o.after,Region.binds .any e=true->listed.getD e.on true=true) (hs:Slots ops ops.size env σ' As listed F' w' a'.tmps)
  {next:Act->World->Prop} {Q:Exit->Act->World->Prop} (hn:∀v w2 F2 σ2,(∀A u,Vc w' F' σ' A u->Vc w2 F2 σ2 A u)->Vc w2 F2 σ2 A v->MemOk m2 σ2 F2 w2->Step σ' F' w' σ2 F2 w2->SLe σ' σ2->next (a'.put o.dst v) w2):wpOpIn (Fen ro) 0 P ops Q i next a' w':=by
 have hol:ops.toList[i]?=some o:=by rw[Array.getElem?_toList];exact ho
 have hoi:OrdAt ops.toList i o:=by
  have:=okFrom_at h2 i o hol
  rwa [Nat.zero_add]at this
 have rd:∀t∈slots ops.toList o,Vc w' F' σ' (get (envsOf env ops.toList As ops.size) t) (a'.tmps.getD t undef):=fun t ht=>by
  by_cases hex:∃(j:Nat) (o':Oper),ops[j]?=some o'/\o'.dst=some t
  .obtain⟨j,o',ho',hdo'⟩:=hex
   have hol':ops.toList[j]?=some o':=by rw[Array.getElem?_toList];exact ho'
   have hji:=noLate_at hnl ht hol' hdo'
   rw[hE j o' t ho' hdo']
   refine(hs t).1 j o' (Array.getElem?_eq_some_iff.1 ho').1 ho' hdo' ?_
   rcases hoi.defs t ht j o' hol' hdo' with ⟨_,e,hee,heon,heb⟩|⟨hij,_⟩
   .have:=hen e hee heb
    rwa [heon]at this
   .omega
  .have hsz:ops.toList.length=ops.size:=Array.length_toList
   have:get (envsOf env ops.toList As ops.size) t=get (envsOf env ops.toList As 0) t:=envs_stable (i:=0) ops.size (Nat.zero_le _) (fun j o2 _ _ h3 h4=>hex ⟨j,o2,by rwa [Array.getElem?_toList]at h3,h4⟩)
   rw[this]
   exact(hs t).2 fun j o2 h3 h4=>absurd ⟨j,o2,h3,h4⟩ hex
 have hw:Region.wanted o (yielded ops a'.tmps)=true:=by
  cases hg:o.guard with
  |none=>simp[Region.wanted,hg]
  |some g =>
   obtain⟨j,want⟩:=g
   simp only[Region.wanted,hg]
   have:=guardOf_ok (tmps:=a'.tmps) (sel_ok fun t ht=>rd t (mem_app2.2 (.inr (by rw[hg];exact ht)))) (hgd j want hg)
   have hy:ops.toList.toArray=ops:=Array.toArray_toList
   rwa [hy]at this
 unfold wpOpIn
 simp only[ho,hw,if_true]
 refine vcOp_ok hT hop (by rw[hdst];exact hdN) hN (sel_ok fun t ht=>rd t (mem_app2.2 (.inl ht))) hm ?_
 rintro env' m' v w2 σ2 F2 ⟨k1,rfl⟩ k2 k3 k4 k5
 have mono:∀A u,Vc w' F' σ' A u->Vc w2 F2 σ2 A u:=fun A u hv=>hv.mono k4.fro (fun b hb=>k4.keep b (hm.fl b hb) (fun⟨r,pl,t,e1,e2⟩=>(hm.nf r pl b t e1 e2).1 hb)) k5
 refine hn v w2 F2 σ2 mono ?_ k3 k4 k5
 have hv:=k2 d
 rw[k1,hdst,put_eq (by rw[hN];exact Nat.le_of_ble_eq_true hdN)]at hv
 rw[hA]
 cases o.guard with
 |none=>exact hv
 |some g=>exact .gd (fun _=>hv) fun h=>by cases h
theorem Awp.eff1 (hT:TabOk P T){id N:Nat}{ops:Array Oper}{env:Env}{Q:Post}(h1:P.follows .mixedOrders=true)(h2:okR ops.toList=true)(hd:dstsIn N ops.toList=true)(i1:Nat){o1:Oper}{d1:Nat}(ho1:ops[i1]?=some o1)(hd1:o1.dst=some d1)(b1:Nat.blt d1 N=true)
  (g1:o1.guard=none) (n1:noLate (slots ops.toList o1) i1 ops.toList=true) {m0 m1:Mem} {B1:AV} (w0:Weak m0 m) (w1:Weak m0 m1)
  (h:vcE P T ops.toList m0 (fun i=>Nat.beq i i1) (fun _=>B1) ops.toList 0 env fun E=>vcOp P T o1 (sel E (tmpsOf o1.op)) m (fun e m'=>get e d1=B1/\m'=m1)/\Ev (Q .normal E m1)):Awp P N (.region id ops true) env m Q :=
 ⟨fun ro lo a w σ F hN hD he hm=>by
  have hi1:i1<ops.size:=(Array.getElem?_eq_some_iff.1 ho1).1
  refine drawn_eff (m:=m0) (σ:=σ) h1 h2 hT hd h hN he (fun listed a' w' F' σ'=>MemOk (bif listed.getD i1 true then m1 else m) σ' F' w'/\Step σ F w σ' F' w'/\SLe σ σ') ?_ ?_ ?_ ?_ ?_
  .rintro listed a' w' F' σ' _ _ _ _ ⟨hk,_⟩
   cases e1:listed.getD i1 true with
   |true=>rw[e1]at hk;exact w1.ok hk
   |false=>rw[e1]at hk;exact w0.ok hk
  .have hrep:∀j,j<ops.size->(Array.replicate ops.size false).getD j true=false:=fun j hj=>by
    rw[getD_list,Array.toList_replicate,List.getElem?_replicate,if_pos hj]
    rfl
   rw[hrep _ hi1]
   exact⟨(Grew.drew hm.fl).mem hm,(Grew.drew hm.fl).step σ,SLe.refl σ⟩
  .rintro listed a' w' F' σ' F2 w2 v i o ⟨hmw,hst,hsl⟩ hg hi ho hls hN'
   have x1:=Nat.ne_of_beq_eq_false hi
   rw[listed_set (fun e=>x1 e.symm)]
   exact⟨hg.mem hmw,hst.trans (hg.step σ'),hsl⟩
  .rintro As listed a' w' F' σ' i o hE hK _ hi ho hl hen hcl hls hN' hD' hs ⟨hmm,hst,hsl⟩ next hnext
   obtain⟨k1,_⟩:=hK
   have:=(Nat.eq_of_beq_eq_true hi).symm
   subst this
   rw[ho1]at ho
   cases ho
   rw[hl]at hmm
   refine eff_step (id:=id) hT h2 b1 ho1 hd1 n1 (A:=B1) (by rw[g1]) (fun j want hg=>by rw[g1]at hg;cases hg) k1 hE hN' hmm hen hs fun v w2' F2 σ2 q1 q2 q3 q4 q5=>hnext v w2' F2 σ2 q1 q2 ⟨?_,hst.trans q4,SLe.trans hsl q5⟩
   rw[listed_self]
   exact q3
  .rintro env' a' w' F' σ' ⟨_,hK⟩ hN' hD' hE listed hall ⟨hmm,hst,hsl⟩
   rw[hall _ hi1]at hmm
   exact⟨_,m1,σ',F',hK.o,hN',by rw[hD'];exact hD.step hst,hE,hmm,hst,SArg.of hsl⟩⟩
end
section
variable {P:Program}{T:Tab}{N:Nat}{w:World}{F:Nat->Prop}{σ:Pls}{m:Mem}{env:Env}{K:AV->Mem->Prop}{o:Oper}
variable {ro:Option Nat}
end
section
variable {P:Program}{T:Tab}{N:Nat}{w:World}{F:Nat->Prop}{σ:Pls}{m:Mem}{env:Env}{K:AV->Mem->Prop}{o:Oper}
def setAt (w:World)(b:Nat)(o:Obj):World:={w with heap:=w.heap.setIfInBounds b o}
theorem setAt_at {w:World}{b:Nat}{o o':Obj}(h:w.heap[b]?=some o):(setAt w b o').heap[b]?=some o':=(MapKept.heap_set (o':=o') h).1
theorem setAt_other (w:World){b b':Nat}(o':Obj)(h:b'≠b):(setAt w b o').heap[b']?=w.heap[b']?:=by
 show(w.heap.setIfInBounds b o')[b']?=_
 rw[Array.getElem?_setIfInBounds_ne (fun e=>h e.symm)]
theorem setAt_size (w:World)(b:Nat)(o':Obj):(setAt w b o').heap.size=w.heap.size:=by
 show(w.heap.setIfInBounds b o').size=_
 simp
theorem run_set_iter {w:World}{b:Nat}{a:Option Nat}{c d:Nat}{s:Array Nat}(o':Obj)(h:w.heap[b]?=some (.mapIter a c s d)):(setObj b o').run P w=.ok () (setAt w b o'):=by
 simp only[setObj,Sem.run]
 rw[h]
 rfl
theorem run_next_at (w:World)(ty:TypeId)(b bm since c0:Nat)(seen:Array Nat)(es:Array MapEntry)(clock:Nat)(hi:w.heap[b]?=some (.mapIter (some bm) since seen c0))(hb:w.heap[bm]?=some (.map es clock))(hold:∀x∈es.toList,x.born<since)(hsc:since<=c0) :
  ((leftOf es seen).size=0/\(Instr.next (.pointer (some ⟨b,0,none⟩)) false ty).run P w=.ok (.tuple #[.bool false]) w) \/
  ∃e∈(leftOf es seen).toList,∃w1:World,(w1=w\/w1=w.drew)/\(Instr.next (.pointer (some ⟨b,0,none⟩)) false ty).run P w=.ok (.tuple #[.bool true,e.key,e.val]) (setAt w1 b (.mapIter (some bm) since (seen.push e.born) clock)):=by
 simp only[Instr.next,getObj,Sem.run_bind,Sem.run,hi,hb,Result.andThen,next_test_false seen es since c0 hold hsc,Bool.false_eq_true,if_false]
 unfold leftOf
 have hmem:∀x∈(Array.filter (fun e=>!seen.contains e.born) es).toList,x.born<since:=fun x hx=>hold x (by simp at hx⊢;exact hx.1)
 generalize Array.filter (fun e=>!seen.contains e.born) es=L at hmem⊢
 have e1:L.filter (fun x=>decide (x.born<since))=L:=Array.filter_eq_self.2 (fun x hx=>by simpa using hmem x (by simpa using hx))
 have e2:L.filter (fun x=>decide (x.born ≥ since))=#[]:=by
  rw[Array.filter_eq_empty_iff]
  intro x hx
  have:=hmem x (by simpa using hx)
  simp
  omega
 simp only[e1,e2,Array.append_empty]
 by_cases h0:L.size=0
 .left
  have:L=#[]:=Array.eq_empty_of_size_eq_zero h0
  subst this
  refine⟨rfl,?_⟩
  simp[choose,Sem.run,Question.forced]
 .right
  have hne:L.isEmpty=false:=by simp[Array.isEmpty,h0]
  simp only[hne,Bool.false_eq_true,if_false,Array.empty_append,Array.size_map]
  have hch:∃(j:Nat) (w1:World),j<L.size/\(w1=w\/w1=w.drew)/\(choose (Question.mapNext L.size)).run P w=.ok j w1:=by
   by_cases hf:L.size<=1
   .exact⟨0,w,Om,.inl rfl,by simp[choose,Sem.run,Question.forced,hf]⟩
   .exact⟨_,w.drew,Nat.mod_lt _ Om,.inr rfl,by
     simp only[choose,Sem.run,Question.forced,decide_eq_true_eq,hf,if_false,Question.cut]
     rfl⟩
  obtain⟨j,w1,hj,hal,hrun⟩:=hch
  have hi1:w1.heap[b]?=some (.mapIter (some bm) since seen c0):=by rcases hal with rfl|rfl<;>exact hi
  refine⟨L[j],by simp,w1,hal,?_⟩
  simp only[hrun,Array.getElem?_map,Array.getElem?_eq_getElem hj,Option.map_some,Sem.run_bind,run_set_iter _ hi1,Result.andThen]
  rfl
theorem run_entry_at (w:World)(b bm since:Nat)(seen:Array Nat)(es:Array MapEntry)(clock:Nat)(e:MapEntry)(hi:w.heap[b]?=some (.mapIter (some bm) since seen clock))(hs:seen.back?=some e.born)(hb:w.heap[bm]?=some (.map es clock))(he:e∈es.toList)(hn:(es.toList.map (·.born)).Nodup) :
  (Instr.entry (.pointer (some ⟨b,0,none⟩))).run P w=.ok (.tuple #[e.key,e.val]) w:=by
 have hf:es.find? (·.born==e.born)=some e:=by rw[<-Array.find?_toList];exact find_born e es.toList hn he
 simp only[Instr.entry,getObj,Sem.run_bind,Sem.run,hi,hb,Result.andThen,hs,bne_self_eq_false,Bool.false_eq_true,if_false,hf]
 rfl
def keyToD:Ksh->List Int->D
 | .one i,l=>.int i (l.headD 0)
 | .many is,l=>.agg (List.zipWith D.int is l)
 | .str,l=>.str (strI l)
theorem keyToD_ok (sh:Ksh)(k:List Int):Rd w F (keyToD sh k) (sh.key k):=by
 cases sh with
 |one i=>exact .int
 |str=>exact .str
 |many is =>
  refine .agg (by simp[List.length_zipWith]) fun j x u hx hu=>?_
  rw[List.getElem?_zipWith_eq_some]at hx hu
  obtain⟨a,c,h1,h2,rfl⟩:=hx
  obtain⟨a',c',h3,h4,rfl⟩:=hu
  rw[h1]at h3
  rw[h2]at h4
  cases h3
  cases h4
  exact .int
theorem op_range (hT:TabOk P T){t:TypeId}{x:Operand}(hop:o.op=.range t x){sh0:Ksh}{te:TI}(ht:mapOf T t=some (sh0,te)){sh:Ksh}{has:List Int->Bool}{val:List Int->D}(hx:ev env x=.d (.mapd sh has val))
  (hK:∀left:List (List Int),left.Nodup->(∀k,k∈left↔sh.fits k/\has k=true)->K (.ptr m.new 0 0 0) (m.add (.iter sh has val left none))):OpVC P o env m K :=
 ⟨fun c h=>(by rw [hop] at h;cases h),fun a w F σ hev hm=>by
  obtain⟨kt,et,hu,_,_⟩:=mapOf_ok hT ht
  have hv:=ev_ok hev x
  rw[hx]at hv
  obtain⟨X,hX⟩:∃X,a.eval x=X:=⟨_,rfl⟩
  rw[hX]at hv
  cases hv with
  | d hv =>
   cases hv with
   | mapd bm es clock ks hF hb hl hn h1 h2 hS h =>
    have hmem:∀k,k∈ks↔sh.fits k/\has k=true:=fun k=>by
     constructor
     .intro hk
      obtain⟨i,hi,e⟩:=List.getElem_of_mem hk
      have hki:ks[i]?=some k:=by rw[List.getElem?_eq_getElem hi,e]
      have hei:es[i]?=some (es[i]'Om):=Array.getElem?_eq_getElem Om
      obtain⟨g1,_,g3⟩:=h1 i k _ hki hei
      exact⟨g1,g3⟩
     .exact fun hk=>h2 k hk.1 hk.2
    let pl:Pl:=⟨0,1,some (w.heap.size,1)⟩
    let w':World:=w.alloc (.mapIter (some bm) clock #[] clock)
    have hbn:bm<w.heap.size:=hm.fl bm hF
    have hB:BlkOk w' F (upd σ m.new (some pl)) (.iter sh has val ks none) pl:=by
     refine⟨rfl,w.heap.size,rfl,bm,clock,#[],es,ks,?_,hF,?_,hl,hn,fun i k e hi he=>?_,h2,hS,hn,fun k=>?_,fun k hk=>(by cases hk)⟩
     .exact Go.heap_alloc_new w _
     .rw[Go.heap_alloc_old w _ hbn];exact hb
     .obtain⟨g1,g2,g3⟩:=h1 i k e hi he
      exact⟨g1,g2,g3,(h i k e hi he).mono (fun _ h=>h) fun b' hb'=>Go.heap_alloc_old w _ (hm.fl b' hb')⟩
     .constructor
      .intro hk
       obtain⟨i,hi,e⟩:=List.getElem_of_mem hk
       exact⟨i,es[i]'Om,by rw[List.getElem?_eq_getElem hi,e],Array.getElem?_eq_getElem Om,by simp⟩
      .rintro⟨i,e,hi,_,_⟩
       exact List.mem_of_getElem? hi
    obtain⟨k1,k2⟩:=fresh_ok (w':=w') hm (by simp[w']) (fun b hb=>Go.heap_alloc_old w _ hb) hB (fun b t' h=>by
     simp only[pl,Option.some.injEq,Prod.mk.injEq]at h
     obtain⟨rfl,_⟩:=h
     exact⟨Nat.le_refl _,by simp[w']⟩)
    refine⟨_,.pointer (some ⟨w.heap.size,0,none⟩),w',_,F,_,_,?_,.inl rfl,hK ks hn hmem,.ptr (upd_self σ m.new (some pl)) fun p hp=>?_,k1,step_alloc (fun b t' h=>?_),k2⟩
    .have:=run_range_map (P:=P) w t kt et bm es clock hu hb
     simp[execOp,hop,hX,this,w']
    .injection hp with hp
     subst hp
     exact⟨Nat.le_refl _,fun _=>⟨w.heap.size,1,rfl,by simp⟩⟩
    .simp only[pl,Option.some.injEq,Prod.mk.injEq]at h
     omega⟩
theorem op_next {x:Operand} (hop:o.op=.next x false) {r:Ref} (hx:ev env x=.ptr r 0 0 0) {sh:Ksh} {has:List Int→Bool} {val:List Int→D} {left:List (List Int)} {cur:Option (List Int)} (hB:m.get r=some (.iter sh has val left cur))
  (h0:left=[]->K (.tup [.d (.bool false)]) m) (h1:∀k,k∈left->K (.tup [.d (.bool true),.junk,.junk]) (m.put r (some (.iter sh has val (left.erase k) (some k))))):OpVC P o env m K :=
 ⟨fun c h=>(by rw [hop] at h;cases h),fun a w F σ hev hm=>by
  have hv:=ev_ok hev x
  rw[hx]at hv
  obtain⟨pl,hr,hok,_,hat⟩:=ptr_row hm hv (Mem.get_at hB)
  obtain⟨g0,b,hl,bm,clock,seen,es,ks,i1,hF,i2,i3,i4,i5,i6,i7,i10,i11,i12⟩:=hok
  obtain⟨b',tot,hl',hX⟩:=hat g0
  rw[hl]at hl'
  obtain⟨rfl,rfl⟩:=Prod.mk.inj (Option.some.inj hl')
  have hX':a.eval x=.pointer (some ⟨b,0,none⟩):=by rw[hX];simp
  have hbn:¬ F b:=(hm.nf r pl b 1 hr hl).1
  have hblt:b<w.heap.size:=(hm.nf r pl b 1 hr hl).2
  rcases run_next_at (P:=P) w o.type b bm clock clock seen es clock i1 i2 i7.1 (Nat.le_refl _) with ⟨hz,hrun⟩|⟨e,he,w1,hw1,hrun⟩
  .have hn:left=[]:=List.eq_nil_iff_forall_not_mem.2 fun k hk=>by
    obtain⟨i,e,_,he,hs⟩:=(i11 k).1 hk
    have:e∈leftOf es seen:=by
     unfold leftOf
     rw[Array.mem_filter]
     exact⟨Array.mem_of_getElem? he,by rw[hs];rfl⟩
    have:=Array.size_pos_of_mem this
    omega
   refine⟨_,.tuple #[.bool false],w,σ,F,_,_,by simp[execOp,hop,hX',hrun],.inl rfl,h0 hn,?_,hm,Step.refl σ F w,SLe.refl σ⟩
   refine .tup (us:=[.bool false]) rfl fun j A u hA hu=>?_
   cases j with
   |zero=>simp at hA hu;subst hA;subst hu;exact .d .bool
   |succ j=>simp at hA
  .obtain⟨hes,hseen⟩:=mem_left he
   obtain⟨i,hi,hie⟩:=Array.getElem_of_mem (Array.mem_toList_iff.1 hes)
   have hei:es[i]?=some e:=by rw[Array.getElem?_eq_getElem hi,hie]
   have hki:ks[i]?=some (ks[i]'Om):=List.getElem?_eq_getElem Om
   obtain⟨k,hk⟩:∃k,ks[i]'Om=k:=⟨_,rfl⟩
   rw[hk]at hki
   have hkl:k∈left:=(i11 k).2 ⟨i,e,hki,hei,hseen⟩
   have hbm:bm≠b:=fun h=>hbn (by rw[<-h];exact hF)
   let o':Obj:=.mapIter (some bm) clock (seen.push e.born) clock
   have hh1:w1.heap=w.heap:=by rcases hw1 with rfl|rfl<;>rfl
   have hi1:w1.heap[b]?=some (.mapIter (some bm) clock seen clock):=by rw[hh1];exact i1
   have hot:∀b',b'≠b->(setAt w1 b o').heap[b']?=w.heap[b']?:=fun b' hb'=>by rw[setAt_other w1 o' hb',hh1]
   have hkF:∀b',F b'->(setAt w1 b o').heap[b']?=w.heap[b']?:=fun b' hb'=>hot b' fun e=>hbn (by rw[<-e];exact hb')
   have hBk:BlkOk (setAt w1 b o') F (upd σ r (some pl)) (.iter sh has val (left.erase k) (some k)) pl:=by
    refine⟨g0,b,hl,bm,clock,seen.push e.born,es,ks,setAt_at hi1,hF,by rw[hot bm hbm];exact i2,i3,i4,fun i k e hi he=>?_,i6,i7,i10.erase _,fun k'=>?_,fun k' hk'=>?_⟩
    .obtain⟨p1,p2,p3,p4⟩:=i5 i k e hi he
     exact⟨p1,p2,p3,p4.mono (fun _ h=>h) hkF⟩
    .rw [i10.mem_erase_iff,i11 k']
     constructor
     .rintro⟨hne,i',e',q1,q2,q3⟩
      refine⟨i',e',q1,q2,?_⟩
      rw[contains_push,q3,Bool.false_or]
      cases hc:e'.born==e.born with
      |false=>rfl
      | true =>
       exfalso
       have hbe:e'.born=e.born:=beq_iff_eq.1 hc
       have hii:i'=i:=by
        have hlen1:i'<(es.toList.map (·.born)).length:=by rw[List.length_map,Array.length_toList];exact(Array.getElem?_eq_some_iff.1 q2).1
        have hlen2:i<(es.toList.map (·.born)).length:=by rw[List.length_map,Array.length_toList];exact hi
        refine(List.getElem_inj i7.2 (i:=i') (j:=i) (h₀:=hlen1) (h₁:=hlen2)).1 ?_
        simp only[List.getElem_map,Array.getElem_toList]
        rw[(Array.getElem?_eq_some_iff.1 q2).2,hie]
        exact hbe
       subst hii
       rw[hki]at q1
       injection q1 with q1
       exact hne q1.symm
     .rintro⟨i',e',q1,q2,q3⟩
      rw[contains_push,Bool.or_eq_false_iff]at q3
      refine⟨fun hkk=>?_,i',e',q1,q2,q3.1⟩
      have hii:i'=i:=by
       have hlen1:i'<ks.length:=(List.getElem?_eq_some_iff.1 q1).1
       refine(List.getElem_inj i4 (i:=i') (j:=i) (h₀:=hlen1) (h₁:=by omega)).1 ?_
       rw[(List.getElem?_eq_some_iff.1 q1).2,hk,hkk]
      subst hii
      rw[hei]at q2
      injection q2 with q2
      subst q2
      simp at q3
    .injection hk' with hk'
     subst hk'
     exact⟨i,e,hki,hei,Array.back?_push⟩
   obtain⟨q4,q5⟩:=change_ok hm (w':=setAt w1 b o') hr (by rw[setAt_size,hh1];exact Nat.le_refl _) (fun b' _ hne=>hot b' fun e=>hne 1 (by rw[e];exact hl))
    ⟨Nat.le_refl _,fun _=>rfl⟩ hBk (fun b' t' h=>by rw[setAt_size,hh1];exact⟨by rw[hl]at h;cases h;exact hblt,.inl ⟨t',h⟩⟩)
   refine⟨_,.tuple #[.bool true,e.key,e.val],setAt w1 b o',_,F,_,_,by simp[execOp,hop,hX',hrun,o'],.inl rfl,h1 k hkl,?_,q4,⟨?_,?_,?_,?_,by rw[setAt_size,hh1];exact Nat.le_refl _,fun b' _ ho=>hot b' fun e=>ho ⟨r,pl,1,hr,by rw[e];exact hl⟩,fun _ h=>h,fun _ h=>.inl h,own_upd_old hr (fun b' t' h=>.inl ⟨t',h⟩)⟩,q5⟩
   .refine .tup (us:=[.bool true,e.key,e.val]) rfl fun j A u hA hu=>?_
    match j with
    |0=>simp at hA hu;subst hA;subst hu;exact .d .bool
    |1=>simp at hA;subst hA;exact .junk
    |2=>simp at hA;subst hA;exact .junk
    |_+3=>simp at hA
   all_goals rcases hw1 with rfl|rfl
   all_goals first|rfl|exact Nat.le_refl _|exact Nat.le_succ _⟩
theorem op_entry {x:Operand}(hop:o.op=.entry x){r:Ref}(hx:ev env x=.ptr r 0 0 0){sh:Ksh}{has:List Int->Bool}{val:List Int->D}{left:List (List Int)}{k:List Int}(hB:m.get r=some (.iter sh has val left (some k)))
  (hK:K (.tup [.d (keyToD sh k),.d (val k)]) m):OpVC P o env m K :=
 ⟨fun c h=>(by rw [hop] at h;cases h),fun a w F σ hev hm=>by
  have hv:=ev_ok hev x
  rw[hx]at hv
  obtain⟨pl,hr,hok,_,hat⟩:=ptr_row hm hv (Mem.get_at hB)
  obtain⟨g0,b,hl,bm,clock,seen,es,ks,i1,hF,i2,i3,i4,i5,i6,i7,i10,i11,i12⟩:=hok
  obtain⟨b',tot,hl',hX⟩:=hat g0
  rw[hl]at hl'
  obtain⟨rfl,rfl⟩:=Prod.mk.inj (Option.some.inj hl')
  have hX':a.eval x=.pointer (some ⟨b,0,none⟩):=by rw[hX];simp
  obtain⟨i,e,hki,hei,hs⟩:=i12 k rfl
  obtain⟨p1,p2,p3,p4⟩:=i5 i k e hki hei
  have hrun:=run_entry_at (P:=P) w b bm clock seen es clock e i1 hs i2 (Array.mem_toList_iff.2 (Array.mem_of_getElem? hei)) i7.2
  refine⟨_,.tuple #[e.key,e.val],w,σ,F,_,_,by simp[execOp,hop,hX',hrun],.inl rfl,hK,?_,hm,Step.refl σ F w,SLe.refl σ⟩
  refine .tup (us:=[e.key,e.val]) rfl fun j A u hA hu=>?_
  match j with
  |0=>simp at hA hu;subst hA;subst hu;rw[p2];exact .d (keyToD_ok sh k)
  |1=>simp at hA hu;subst hA;subst hu;exact .d p4
  |_+2=>simp at hA⟩
end
end Go.Ab
namespace Go.Ab
set_option linter.unusedSimpArgs false
set_option linter.unusedVariables false
open Go.ChangeShapes Go.WideShapes Go.RowKit Go.Deep
section
variable {H:Type}{enc:TypeId × Value->H}{P:Program}{w:World}
def RdL (w:World)(ds:List D)(cs:List Value):Prop :=
 ds.length=cs.length/\∀(j:Nat) d u,ds[j]?=some d->cs[j]?=some u->Rd w (· < w.heap.size) d u/\u.oneCell'=true
theorem RdL.append {ds ds':List D}{cs cs':List Value}(h:RdL w ds cs)(h':RdL w ds' cs'):RdL w (ds++ds') (cs++cs'):=by
 refine⟨by simp[h.1,h'.1],fun j d u hd hu=>?_⟩
 rw[List.getElem?_append]at hd hu
 rw[h.1]at hd
 split at hd
 .rename_i hj;rw[if_pos hj]at hu;exact h.2 j d u hd hu
 .rename_i hj;rw[if_neg hj]at hu;exact h'.2 _ d u hd hu
theorem RdL.one {d:D}{u:Value}(h:Rd w (· < w.heap.size) d u)(h1:u.oneCell'=true):RdL w [d] [u] :=
 ⟨rfl,fun j d' u' hd hu=>by
  match j with
  |0=>simp at hd hu;subst hd;subst hu;exact⟨h,h1⟩
  |j+1=>simp at hd⟩
theorem below_trodAll (hl:laidOutB P=true){W W':World}(hb:Below W.heap.size W W'):∀{ts:List TypeId} {vs:List Value} {ds:List (DataW H)} {ps:List MemPlace},(∀t∈ts,P.readableRec t=true/\t<P.types.size) ->
  DataW.TrodAll enc P W 0 (fun _=>true) true ts vs ds ps->(∀x∈ps,x.block<W.heap.size)->DataW.TrodAll enc P W' 0 (fun b=>decide (b<W.heap.size)) true ts vs ds ps
 |[],[],[],_,_,h,_=>h
 | t :: _,_ :: _,_ :: _,_,ht,⟨p,q,h1,h2,e⟩,hp =>
  ⟨p,q,Below.trod hl (ht t (by simp)).1 (ht t (by simp)).2 h1 hb (fun x hx=>hp x (by rw [e];exact List.mem_append_left _ hx)),
   below_trodAll hl hb (fun t h=>ht t (by simp[h])) h2 (fun x hx=>hp x (by rw[e];exact List.mem_append_right _ hx)),e⟩
theorem law_post (hl:laidOutB P=true){f:FuncId}{fn:Func}{s:ChangeSpec}{apart fresh handsOn:Bool}{W:World}{args:Array Value}{ds gs:List (DataW H)}{before:List MemPlace}{tb:TypeId}
  (hts:∀t∈fn.params.toList,P.readableRec t=true/\t<P.types.size) (hrt:fn.resultTypes=#[tb]) (hb:P.underlying tb=some .bool) (hsv:s.vars=[])
  (hsf:s.fn H (ds++gs)={results:=[.lit (.bool true)],args:=ds})
  (hW:DataW.Whole enc P fn.params.toList s.vars apart W args.toList ds gs before)
  (hG:GOk (· < W.heap.size) W) (xs:List D) (hp:Pure P f xs [.bool true]) (hlen:args.toList.length=xs.length) (hr:∀(j:Nat) x u,xs[j]?=some x->args.toList[j]?=some u->Rd W (· < W.heap.size) x u) :
  Calls P f args W fun e W'=>∃v,e=.returned v/\s.post enc P fn apart fresh handsOn false W args v W':=by
 have:=hp.2 (· < W.heap.size) W args.toList (fun _ h=>h) hG hlen hr
 rw[Array.toArray_toList]at this
 refine this.mono ?_
 rintro e W' ⟨v,F',rfl,hg,hv⟩
 have hv':=hv fun _=>none
 have ev:v=.bool true:=by cases hv' with|d h=>cases h;rfl
 subst ev
 refine⟨_,rfl,?_⟩
 have hbl:Below W.heap.size W W':=⟨hg.os,hg.tape,hg.output,hg.size,hg.keep⟩
 have hlt:=hW.lt
 obtain⟨p,q,hA,hV,hpq,hfz,hnd⟩:=hW
 have hq:q=[]:=by
  rw[hsv]at hV
  match gs,hV with
  |[],hV=>exact hV
 subst hq
 rw[List.append_nil]at hpq
 subst hpq
 refine⟨ds,gs,before,[],before,[],⟨before,[],hA,hV,by simp,hfz,hnd⟩,?_,?_,?_,?_,fun h=>by cases h⟩
 .rw[hrt,hsf]
  exact trodAll_mk1 (shut_bool hb true)
 .rw[hsf]
  exact below_trodAll hl hbl hts hA hlt
 .rw[hsf,hsv]
  exact rfl
 .have hsame:W.keptBut W' (fun _=>False):=by
   refine⟨hg.os,hg.output,fun i hi=>?_⟩
   rw[hg.keep i hi]
   cases h:W.heap[i]? with
   |none=>rfl
   |some o=>cases o<;>simp
  exact World.keptBut_mono (fun _ h=>h.elim) hsame
end
section
variable {H:Type}{enc:TypeId × Value->H}{P:Program}{w:World}
def Opens (enc:TypeId × Value->H)(P:Program)(w:World)(m:Nat)(t:TypeId){α:Type}(e:α->List D)(ok:α->Prop):Prop :=
 ∀(cs:List Value) (x:DataW H × List MemPlace),DataW.trod enc P w 0 (fun _=>true) true m t cs=some x->∃a,ok a/\RdL w (e a) cs
theorem opens_bool {t:TypeId}(hu:P.underlying t=some .bool)(m:Nat):Opens enc P w m t (fun b:Bool=>[D.bool b]) fun _=>True:=fun cs x h=>by
 obtain⟨b,rfl,-⟩:=DataW.trod_bool hu h
 exact⟨b,Tt,.one .bool rfl⟩
theorem opens_int {t:TypeId}{k:IntKind}(hu:P.underlying t=some (.int k))(m:Nat):Opens enc P w m t (fun i:Int=>[D.int k i]) fun i=>(Lit.int k i).wf=true:=fun cs x h=>by
 obtain⟨i,rfl,-,hw⟩:=DataW.trod_int hu h
 exact⟨i,hw,.one .int rfl⟩
theorem opens_str {t:TypeId}(hu:P.underlying t=some .string)(m:Nat):Opens enc P w m t (fun s:ByteArray=>[D.str s]) fun s=>s.size<=maxLen:=fun cs x h=>by
 obtain⟨s,rfl,-,hs⟩:=DataW.trod_string hu h
 exact⟨s,hs,.one .str rfl⟩
theorem opens_slice (hl:laidOutB P=true){t et:TypeId}(ht:t<P.types.size)(hu:P.underlying t=some (.slice et)){sz:Nat}(hc:P.cellsOf et=sz)(h0:0<sz){α:Type}[Inhabited α]{e:α->List D}{ok:α->Prop}{m:Nat}(h:∀m',m'<m->Opens enc P w m' et e ok) :
  Opens enc P w m t (fun xs:List α=>[D.sl sz xs.length fun i=>e (xs.getD i default)]) fun xs=>xs.length<=maxLen/\∀a∈xs,ok a:=fun cs x hx=>by
 subst hc
 rcases DataW.trod_slice hu hx with ⟨rfl,-⟩|⟨a,len,cap,elems,rest,n,rfl,rfl,-,hb,hlc,hcap,hlen,hel,-,-⟩
 .exact⟨[],⟨Nat.zero_le _,fun a ha=>by simp at ha⟩,.one (.sl ⟨0,0,none⟩ (fun _ _=>undef) (Nat.le_refl _) (fun h=>absurd h (by simp)) (fun i hi=>absurd hi (by simp)) (fun i j hi=>absurd hi (by simp)) (fun i j x hi=>absurd hi (by simp))) rfl⟩
 .have hex:∀i,∃q:α × List Value,i<len->w.cells? 0 (a.add (i*P.cellsOf et)) (P.cellsOf et)=some q.2/\RdL w (e q.1) q.2/\ok q.1:=fun i=>by
   by_cases hi:i<len
   .have h1:=hel i hi
    rw[List.getElem?_eq_getElem Om]at h1
    cases hcs:w.cells? 0 (a.add (i*P.cellsOf et)) (P.cellsOf et) with
    |none=>rw[hcs]at h1;cases h1
    |some cs' =>
     rw[hcs]at h1
     obtain⟨q,h2,h3⟩:=h n (Nat.lt_succ_self n) cs' _ h1
     exact⟨(q,cs'),fun _=>⟨rfl,h3,h2⟩⟩
   .exact⟨(default,[]),fun h=>absurd h hi⟩
  have hq:=fun i=>(hex i).choose_spec
  have hcl:∀i j,i<len->j<P.cellsOf et->w.cell? (a.add (i*P.cellsOf et+j))=some ((hex i).choose.2.getD j undef)/\(hex i).choose.2[j]?=some ((hex i).choose.2.getD j undef):=fun i j hi hj=>by
   obtain⟨hc,-,-⟩:=hq i hi
   obtain⟨-,h2,h3⟩:=World.cells?_some hc
   have:(hex i).choose.2[j]?=some ((hex i).choose.2.getD j undef):=by
    rw[List.getD_eq_getElem?_getD,List.getElem?_eq_getElem Om];rfl
   refine⟨?_,this⟩
   rw[<-this,<-h3 j hj,Go.Deep.add_add]
  have hat:∀i,i<len->((List.range len).map fun i=>(hex i).choose.1).getD i default=(hex i).choose.1:=fun i hi=>by
   rw[List.getD_eq_getElem?_getD,List.getElem?_map,List.getElem?_range hi]
   rfl
  obtain⟨xs,hxs⟩:∃xs,(List.range len).map (fun i=>(hex i).choose.1)=xs:=⟨_,rfl⟩
  have hxl:xs.length=len:=by rw[<-hxs];simp
  have hxm:∀b∈xs,ok b:=fun b hb=>by
   rw[<-hxs]at hb
   obtain⟨i,hi,rfl⟩:=List.mem_map.1 hb
   exact(hq i (List.mem_range.1 hi)).2.2
  rw[hxs]at hat
  refine⟨xs,⟨by rw[hxl];exact Nat.le_trans hlc hcap,hxm⟩,.one ?_ rfl⟩
  rw[hxl]
  refine .sl a (fun i j=>(hex i).choose.2.getD j undef) hlc (fun h1=>⟨rfl,?_⟩) (fun i hi=>?_) (fun i j hi hj=>?_) (fun i j x hi hx=>?_)
  .have:=World.block_lt_of_cell? w _ (hcl 0 0 h1 h0).1
   rwa [add_block]at this
  .obtain⟨hc,h1,-⟩:=hq i hi
   rw[hat i hi,h1.1,(World.cells?_some hc).2.1]
  .obtain⟨hc,h1,-⟩:=hq i hi
   have hlen:=(World.cells?_some hc).2.1
   have hd:(e (hex i).choose.1)[j]?=some ((e (hex i).choose.1)[j]'(by rw[h1.1];omega)):=List.getElem?_eq_getElem _
   exact⟨(hcl i j hi hj).1,(h1.2 j _ _ hd (hcl i j hi hj).2).2⟩
  .rw[hat i hi]at hx
   obtain⟨hc,h1,-⟩:=hq i hi
   have hj:j<P.cellsOf et:=by
    have:=(List.getElem?_eq_some_iff.1 hx).1
    rw[h1.1,(World.cells?_some hc).2.1]at this
    exact this
   exact(h1.2 j x _ hx (hcl i j hi hj).2).1
theorem opens_fields (hl:laidOutB P=true){t:TypeId}(ht:t<P.types.size){fs:Array Field}(hu:P.underlying t=some (.struct fs)){m:Nat}{cs:List Value}{x:DataW H × List MemPlace}(h:DataW.trod enc P w 0 (fun _=>true) true m t cs=some x) :
  ∃m',m=m'+1/\(∀(j:Nat) f,fs[j]?=some f->∃y,DataW.trod enc P w 0 (fun _=>true) true m' f.type ((cs.drop f.offset).take (P.cellsOf f.type))=some y) /\
   ∀ps:List (List D),ps.length=fs.size->(∀(j:Nat) f p,fs[j]?=some f->ps[j]?=some p->RdL w p ((cs.drop f.offset).take (P.cellsOf f.type)))->RdL w ps.flatten cs:=by
 obtain⟨xs,m',rfl,-,hcs,hxl,hf⟩:=DataW.trod_struct hu h
 obtain⟨kt,ksum,koff⟩:=kid_struct hl ht hu
 refine⟨m',rfl,fun j f hj=>?_,fun ps hps hp=>?_⟩
 .have hjl:j<xs.length:=by have:=(Array.getElem?_eq_some_iff.1 hj).1;omega
  have:=hf j f hj
  rw[List.getElem?_eq_getElem hjl]at this
  exact⟨_,this⟩
 .have key:∀k,k<=fs.size->RdL w (ps.take k).flatten (cs.take (((fs.toList.map fun f=>P.cellsOf f.type).take k).sum)):=by
   intro k
   induction k with
   |zero=>intro _;exact⟨by simp,fun j d u h=>by simp at h⟩
   | succ k ihk =>
    intro hk
    have hj:fs[k]?=some fs[k]:=Array.getElem?_eq_getElem Om
    have hpk:ps[k]?=some (ps[k]'Om):=List.getElem?_eq_getElem Om
    have e0:ps.take (k+1)=ps.take k++[ps[k]'Om]:=by rw[List.take_add_one,hpk];rfl
    rw[e0,List.flatten_append]
    have e1:(fs.toList.map fun f=>P.cellsOf f.type).take (k+1)=(fs.toList.map fun f=>P.cellsOf f.type).take k++[P.cellsOf fs[k].type]:=by
     rw[List.take_add_one,List.getElem?_map]
     simp[hj]
    rw[e1,List.sum_append,List.take_add]
    refine(ihk Om).append ?_
    have:=hp k _ _ hj hpk
    rw[koff k _ (by simp)]at this
    simpa[List.map_take] using this
  have h1:=key fs.size (Nat.le_refl _)
  rw[List.take_of_length_le (l:=ps) Om,List.take_of_length_le (l:=fs.toList.map fun f=>P.cellsOf f.type) (by simp),<-ksum,<-hcs,List.take_length]at h1
  exact h1
theorem opens_arg {t:TypeId}{v:Value}{d:DataW H}{ps:List MemPlace}{base:Nat}{α:Type}{e:α->List D}{ok:α->Prop}(ho:∀m,Opens enc P w m t e ok)(hv:Value.okWide P w .any base t v)
  (h:DataW.Trod enc P w 0 (fun _=>true) true t v d ps):∃a,ok a/\((∀fs,P.underlying t=some (.struct fs)->Rd w (· < w.heap.size) (.agg (e a)) v)/\∀x,e a=[x]->v.cells.toList=[v]->Rd w (· < w.heap.size) x v):=by
 obtain⟨m,hm⟩:=h
 obtain⟨a,h1,h2⟩:=ho m _ _ hm
 refine⟨a,h1,fun fs hu=>?_,fun x hx hc=>?_⟩
 .unfold Value.okWide at hv
  rw[hu]at hv
  obtain⟨cs,rfl,-,-⟩:=hv
  have:(Value.agg cs).cells.toList=cs.toList:=rfl
  rw[this]at h2
  have:=Rd.agg (w:=w) (F:=(· < w.heap.size)) (cs:=e a) (us:=cs.toList) h2.1.symm (fun j x u hx hu=>(h2.2 j x u hx hu).1)
  simpa using this
 .rw[hx,hc]at h2
  exact(h2.2 0 x v rfl rfl).1
end
end Go.Ab
namespace Go.Ab
set_option linter.unusedSimpArgs false
set_option linter.unusedVariables false
section
variable {F:Fence}{n:Nat}{P:Program}{Q:Exit->Act->List Frame->World->Prop}{a:Act}{cs:List Frame}{w:World}
end
section
variable {P:Program}{T:Tab}
theorem leaves_marks' {fn:Func}{tmps:Array Value}{R:Ending->World->Prop}{tail:List Deferred}:∀(Ds:List Nat) (w:World),Ds.Nodup->(∀D∈Ds,w.heap[D]?=some (.deferred (some []))) ->
  (∀w':World,w'.os=w.os->w'.tape=w.tape->w'.output=w.output->w'.drawn=w.drawn->w'.heap.size=w.heap.size->(∀b,b ∉ Ds->w'.heap[b]?=w.heap[b]?)->LeavesInM (Fen none) 0 P fn tmps R tail .returning w') ->
  LeavesInM (Fen none) 0 P fn tmps R (Ds.map mark++tail) .returning w
 |[],w,_,_,h=>h w rfl rfl rfl rfl rfl fun _ _=>rfl
 | D :: Ds,w,hn,hD,h=>by
  have hlt:D<w.heap.size:=(Array.getElem?_eq_some_iff.1 (hD D (by simp))).1
  rw[List.nodup_cons]at hn
  rw[List.map_cons,List.cons_append]
  unfold LeavesInM
  refine⟨(fun h=>by cases h),.inl ⟨D,_,rfl,run_takeDeferred (hD D (by simp)),leaves_marks' Ds _ hn.2 (fun D' hD'=>?_) (fun w' h1 h2 h3 hd h4 h5=>?_)⟩⟩
  .rw[World.putObj_heap_other (k:=D') (r:=D) (fun e=>hn.1 (by rw[<-e];exact hD'))]
   exact hD D' (by simp[hD'])
  .refine h w' h1 h2 h3 hd (h4.trans World.putObj_size) fun b hb=>?_
   simp only[List.mem_cons,not_or]at hb
   rw[h5 b hb.2,World.putObj_heap_other hb.1]
end
section
variable {P:Program}{T:Tab}{ro:Option Nat}
theorem vcOps_pre (hT:TabOk P T){full:List Oper}{ops:Array Oper}(hfull:ops=full.toArray){N:Nat}{K:Env->Mem->Prop}{Q:Exit->Act->World->Prop}{tail:List Oper} :
  ∀(rest:List Oper) (env:Env) (m:Mem),dstsIn N rest=true->vcOps P T full rest env m K->∀(a:Act) (w:World) (F:Nat->Prop) (σ:Pls),a.tmps.size=N->EnvOk env w F σ a.tmps->MemOk m σ F w ->
   (∀env' m' a' w' σ' F',K env' m'->a'.tmps.size=N->a'.defers=a.defers->EnvOk env' w' F' σ' a'.tmps->MemOk m' σ' F' w'->Step σ F w σ' F' w'->SLe σ σ'->wpListIn (Fen ro) 0 P ops Q tail a' w')->wpListIn (Fen ro) 0 P ops Q (rest++tail) a w
 |[],env,m,_,h,a,w,F,σ,hN,he,hm,hn=>hn env m a w σ F h hN rfl he hm (Step.refl σ F w) (SLe.refl σ)
 | o :: rest,env,m,hd,h,a,w,F,σ,hN,he,hm,hn=>by
  simp only[dstsIn,Bool.and_eq_true]at hd
  have cont:∀env' m' v w' σ' F',vcOps P T full rest env' m' K->EnvOk env' w' F' σ' (a.put o.dst v).tmps->MemOk m' σ' F' w'->Step σ F w σ' F' w'->SLe σ σ'->wpListIn (Fen ro) 0 P ops Q (rest++tail) (a.put o.dst v) w':=by
   intro env' m' v w' σ' F' hk he' hm' hs hle
   refine vcOps_pre hT hfull rest env' m' hd.2 hk (a.put o.dst v) w' F' σ' (by rw[put_size];exact hN) he' hm' ?_
   intro env2 m2 a2 w2 σ2 F2 k1 k2 k3 k4 k5 k6 k7
   exact hn env2 m2 a2 w2 σ2 F2 k1 k2 (by rw[k3,put_defers]) k4 k5 (hs.trans k6) (fun r q hq=>by
    obtain⟨q1,h1,h2⟩:=hle r q hq
    obtain⟨q2,h3,h4⟩:=k7 r q1 h1
    exact⟨q2,h3,h2.trans h4⟩)
  have skip:∀(A:AV),Vc w F σ A undef->(setD env o.dst A fun env=>vcOps P T full rest env m K)->wpListIn (Fen ro) 0 P ops Q (rest++tail) (a.put o.dst undef) w:=by
   intro A hA hk
   obtain⟨env',hk,he'⟩:=setD_ok hN hd.1 he hA hk
   exact cont env' m undef w σ F hk he' hm (Step.refl σ F w) (SLe.refl σ)
  rw[vcOps_cons]at h
  rw[List.cons_append]
  split at h
  .rename_i hg
   exact wpListIn_plain hg fun K' hK'=>vcOp_ok hT h hd.1 hN he hm fun env' m' v w' σ' F' hk he' hm' hs hle=>hK' _ _ (cont env' m' v w' σ' F' hk he' hm' hs hle)
  .rename_i j want hg
   split at h<;>try (cases h;done)
   rename_i g hgo
   have hw:Region.wanted o (yielded ops a.tmps)=g:=by
    subst hfull
    simp only[Region.wanted,hg]
    exact guardOf_ok he hgo
   split at h
   .rename_i v l hr
    obtain⟨hl,h⟩:=obs_ok h
    rw[frc_eq]at h
    refine wpListIn_step fun K' hK'=>?_
    rw[hw]
    cases g with
    |true =>
     simp only[if_true]
     obtain⟨u,hu,hrun⟩:=evRead_ok hT hm he hr (under_ok hl rfl)
     obtain⟨env',hk,he'⟩:=setD_ok hN hd.1 he (Vc.gd (fun _=>hu) (fun h=>by cases h)) h
     refine wpIn_at (fun c hc=>by rw[hc,evRead_defer]at hr;cases hr) ?_
     rw[hrun w (Agree.refl F σ w),Oper.uponIn_value]
     exact hK' _ _ (cont env' m u w σ F hk he' hm (Step.refl σ F w) (SLe.refl σ))
    |false =>
     simp only[Bool.false_eq_true,if_false]
     exact⟨fun _ _=>trivial,hK' _ _ (skip _ (.gd (fun h=>by cases h) fun _=>rfl) h)⟩
   .refine wpListIn_step fun K' hK'=>?_
    rw[hw]
    cases g with
    |true =>
     simp only[if_true]
     exact vcOp_ok hT (h.t rfl).o hd.1 hN he hm fun env' m' v w' σ' F' hk he' hm' hs hle=>hK' _ _ (cont env' m' v w' σ' F' hk he' hm' hs hle)
    |false =>
     simp only[Bool.false_eq_true,if_false]
     exact⟨fun _ _=>trivial,hK' _ _ (skip _ (.gd (fun h=>by cases h) fun _=>rfl) (h.f rfl).o)⟩
end
section
variable {P:Program}{T:Tab}{m:Mem}{σ:Pls}
variable {ro:Option Nat}
def tmpsE:Op->List Nat
 | .store _ x v=>app2 (tmpO x) (tmpO v)
 | .mapUpdate _ x k v=>app2 (tmpO x) (app2 (tmpO k) (tmpO v))
 |op=>tmpsOf op
def depOk (o:Oper)(t:Nat):Nat->List Oper->Bool
 |_,[]=>true
 |j,x::r=>(match x.dst with
  |some d=>bif Nat.beq d t then edgeOn o.after.toList j else true
  |none=>true)&&depOk o t (j+1) r
def depsOk (ops:List Oper)(o:Oper):List Nat->Bool
 |[]=>true
 |t::r=>depOk o t 0 ops&&depsOk ops o r
theorem depOk_at {o:Oper}{t:Nat}:∀{l:List Oper} {k:Nat},depOk o t k l=true->∀{j:Nat} {x:Oper},l[j]?=some x->x.dst=some t->edgeOn o.after.toList (k+j)=true
 |[],_,_,j,x,h,_=>by simp at h
 | y :: r,k,hd,j,x,h,hx=>by
  simp only[depOk,Bool.and_eq_true]at hd
  cases j with
  |zero =>
   simp at h
   subst h
   have h1:=hd.1
   rw[hx]at h1
   simpa using h1
  |succ j =>
   have:=depOk_at hd.2 (show r[j]?=some x by simpa using h) hx
   rwa [show k+1+j=k+(j+1) by omega]at this
theorem depsOk_at {ops:List Oper}{o:Oper}:∀{ts:List Nat},depsOk ops o ts=true->∀{t:Nat},t∈ts->depOk o t 0 ops=true
 |[],_,t,h=>by simp at h
 |x::r,hd,t,h=>by
  simp only[depsOk,Bool.and_eq_true]at hd
  rcases List.mem_cons.1 h with rfl|h
  .exact hd.1
  .exact depsOk_at hd.2 h
theorem eff_stepG (hT:TabOk P T){id N:Nat}{ops:Array Oper}{i:Nat}{o:Oper}{env:Env}{As:Nat->AV}{m1 m2:Mem}{B:AV}(hdN:(match o.dst with|some d=>Nat.blt d N|none=>true)=true)(ho:ops[i]?=some o)(hg:o.guard=none)(hnl:depsOk ops.toList o (tmpsE o.op)=true)
  (hop:vcOp P T o (sel (envsOf env ops.toList As ops.size) (tmpsE o.op)) m1 fun e m'=>(match o.dst with|some d=>get e d=B|none=>True)/\m'=m2) (hE:∀(j:Nat) o d,ops[j]?=some o->o.dst=some d->get (envsOf env ops.toList As ops.size) d=As j)
  {σ':Pls} {F':Nat->Prop} {w':World} {a':Act} {listed:Array Bool} (hN:a'.tmps.size=N) (hm:MemOk m1 σ' F' w') (hen:∀e∈o.after,Region.binds .any e=true->listed.getD e.on true=true) (hs:Slots ops ops.size env σ' As listed F' w' a'.tmps)
  {next:Act->World->Prop} {Q:Exit->Act->World->Prop} (hn:∀v w2 F2 σ2,(∀A u,Vc w' F' σ' A u->Vc w2 F2 σ2 A u)->(∀d,o.dst=some d->Vc w2 F2 σ2 B v)->MemOk m2 σ2 F2 w2->Step σ' F' w' σ2 F2 w2->SLe σ' σ2->next (a'.put o.dst v) w2):wpOpIn (Fen ro) 0 P ops Q i next a' w':=by
 have rd:∀t∈tmpsE o.op,Vc w' F' σ' (get (envsOf env ops.toList As ops.size) t) (a'.tmps.getD t undef):=fun t ht=>by
  by_cases hex:∃(j:Nat) (o':Oper),ops[j]?=some o'/\o'.dst=some t
  .obtain⟨j,o',ho',hdo'⟩:=hex
   rw[hE j o' t ho' hdo']
   refine(hs t).1 j o' (Array.getElem?_eq_some_iff.1 ho').1 ho' hdo' ?_
   have:=depOk_at (depsOk_at hnl ht) (show ops.toList[j]?=some o' by rw[Array.getElem?_toList];exact ho') hdo'
   rw[Nat.zero_add]at this
   obtain⟨e,he,heo,heb⟩:=edgeTo_of this
   have:=hen e he heb
   rwa [heo]at this
  .have hsz:ops.toList.length=ops.size:=Array.length_toList
   have:get (envsOf env ops.toList As ops.size) t=get (envsOf env ops.toList As 0) t:=envs_stable (i:=0) ops.size (Nat.zero_le _) (fun j o2 _ _ h3 h4=>hex ⟨j,o2,by rwa [Array.getElem?_toList]at h3,h4⟩)
   rw[this]
   exact(hs t).2 fun j o2 h3 h4=>absurd ⟨j,o2,h3,h4⟩ hex
 have hw:Region.wanted o (yielded ops a'.tmps)=true:=by simp[Region.wanted,hg]
 unfold wpOpIn
 simp only[ho,hw,if_true]
 refine vcOp_ok hT hop hdN hN (sel_ok rd) hm ?_
 rintro env' m' v w2 σ2 F2 ⟨k1,rfl⟩ k2 k3 k4 k5
 have mono:∀A u,Vc w' F' σ' A u->Vc w2 F2 σ2 A u:=fun A u hv=>hv.mono k4.fro (fun b hb=>k4.keep b (hm.fl b hb) (fun⟨r,pl,t,e1,e2⟩=>(hm.nf r pl b t e1 e2).1 hb)) k5
 refine hn v w2 F2 σ2 mono (fun d hd=>?_) k3 k4 k5
 rw[hd]at k1 hdN k2
 have hv:=k2 d
 rw[k1,put_eq (by rw[hN];exact Nat.le_of_ble_eq_true hdN)]at hv
 exact hv
structure EffS where
 i:Nat
 res:AV
 m:Mem
 via:List Nat
def effB:List EffS->Nat->Bool
 |[],_=>false
 |s::r,i=>Nat.beq s.i i||effB r i
def resB:List EffS->Nat->AV
 |[],_=>.junk
 |s::r,i=>bif Nat.beq s.i i then s.res else resB r i
def memK (m:Mem):List EffS->Nat->Mem
 |_,0=>m
 |[],_=>m
 |s::r,k+1=>memK s.m r k
def lastM (m:Mem):List EffS->Mem
 |[]=>m
 |s::r=>lastM s.m r
def effAt (P:Program)(T:Tab)(E:Env)(m:Mem)(s:EffS)(o:Oper):Prop:=vcOp P T o (sel E (tmpsE o.op)) m fun e m'=>(match o.dst with|some d=>get e d=s.res|none=>True)/\m'=s.m
def Chn (P:Program)(T:Tab)(E:Env)(full:List Oper)(K:Mem->Prop):Mem->List EffS->Prop
 |m,[]=>K m
 |m,s::r=>(match full[s.i]? with
  |some o=>effAt P T E m s o
  |none=>False)/\Chn P T E full K s.m r
def isJ:AV->Bool
 | .junk=>true
 |_=>false
theorem isJ_ok {A:AV}(h:isJ A=true):A=.junk:=by
 cases A<;>first|rfl|cases h
def effOk (ops:List Oper):Option Nat->List EffS->Bool
 |_,[]=>true
 | p,s :: r=>(match ops[s.i]? with
  |some o=>(match o.guard with
   |none=>true
   |some _=>false)&&(match o.dst with
   |none=>isJ s.res
   |some _=>true)&&depsOk ops o (tmpsE o.op)
  |none=>false)&&(match p with
   |none=>true
   |some p=>pathOk ops (s.i::s.via)&&s.via.any (fun x=>Nat.beq x p))&&!(effB r s.i)&&effOk ops (some s.i) r
def allWeak (m0:Mem):List EffS->Prop
 |[]=>True
 |s::r=>Weak m0 s.m/\allWeak m0 r
theorem effB_iff:∀{L:List EffS} {i:Nat},effB L i=true↔∃(j:Nat) (s:EffS),L[j]?=some s/\s.i=i
 |[],i=>by simp[effB]
 | s :: r,i=>by
  simp only[effB,Bool.or_eq_true,effB_iff (L:=r)]
  constructor
  .rintro(h|⟨j,s',h1,h2⟩)
   .exact⟨0,s,rfl,Nat.eq_of_beq_eq_true h⟩
   .exact⟨j+1,s',by simpa using h1,h2⟩
  .rintro⟨j,s',h1,h2⟩
   cases j with
   |zero=>simp at h1;subst h1;left;rw[h2];exact Nat.beq_refl _
   |succ j=>exact .inr ⟨j,s',by simpa using h1,h2⟩
theorem effOk_at {ops:List Oper}:∀{L:List EffS} {p:Option Nat},effOk ops p L=true->∀{j:Nat} {s:EffS},L[j]?=some s->(∃o,ops[s.i]?=some o/\o.guard=none/\(o.dst=none->s.res=.junk)/\depsOk ops o (tmpsE o.op)=true) /\
  (∀j' s',L[j']?=some s'->s'.i=s.i->j'=j)/\(∀s',j≠0->L[j-1]?=some s'->pathOk ops (s.i::s.via)=true/\s'.i∈s.via)/\resB L s.i=s.res
 |[],_,_,j,s,h=>by simp at h
 | x :: r,p,hok,j,s,h=>by
  simp only[effOk,Bool.and_eq_true,Bool.not_eq_true']at hok
  obtain⟨⟨⟨h1,h2⟩,h3⟩,h4⟩:=hok
  cases j with
  | zero =>
   simp at h
   subst h
   refine⟨?_,fun j' s' hj' he=>?_,fun s' h0=>absurd rfl h0,by simp[resB]⟩
   .split at h1
    .rename_i o ho
     simp only[Bool.and_eq_true]at h1
     refine⟨o,ho,?_,fun hd=>?_,h1.2⟩
     .cases hg:o.guard with
      |none=>rfl
      |some g=>rw[hg]at h1;exact absurd h1.1.1 (by simp)
     .have:=h1.1.2
      rw[hd]at this
      exact isJ_ok this
    .cases h1
   .cases j' with
    |zero=>rfl
    |succ j' =>
     have:effB r x.i=true:=effB_iff.2 ⟨j',s',by simpa using hj',he⟩
     rw[h3]at this
     cases this
  | succ j =>
   have hj:r[j]?=some s:=by simpa using h
   obtain⟨k1,k2,k3,k4⟩:=effOk_at h4 hj
   have hxs:x.i≠s.i:=fun e=>by
    have:effB r x.i=true:=effB_iff.2 ⟨j,s,hj,e.symm⟩
    rw[h3]at this
    cases this
   refine⟨k1,fun j' s' hj' he=>?_,fun s' _ hs'=>?_,?_⟩
   .cases j' with
    |zero=>simp at hj';subst hj';exact absurd he hxs
    |succ j'=>rw[k2 j' s' (by simpa using hj') he]
   .cases j with
    | zero =>
     simp at hs'
     subst hs'
     cases r with
     |nil=>simp at hj
     |cons y r =>
      simp at hj
      subst hj
      simp only[effOk,Bool.and_eq_true]at h4
      obtain⟨⟨⟨_,h5⟩,_⟩,_⟩:=h4
      refine⟨h5.1,?_⟩
      obtain⟨z,hz,e⟩:=List.any_eq_true.1 h5.2
      rw[<-Nat.eq_of_beq_eq_true e]
      exact hz
    |succ j=>exact k3 s' (Nat.succ_ne_zero j) (by simpa using hs')
   .simp only[resB]
    rw[show Nat.beq x.i s.i=false from Bool.eq_false_iff.2 fun e=>hxs (Nat.eq_of_beq_eq_true e)]
    exact k4
theorem memK_last:∀{L:List EffS} {m:Mem},memK m L L.length=lastM m L
 |[],_=>rfl
 |s::r,m=>memK_last (L:=r) (m:=s.m)
theorem memK_succ:∀{L:List EffS} {m:Mem} {j:Nat} {s:EffS},L[j]?=some s->memK m L (j+1)=s.m
 |[],_,_,_,h=>by simp at h
 |x::r,m,0,s,h=>by simp at h;subst h;cases r<;>rfl
 |x::r,m,j+1,s,h=>by
  show memK x.m r (j+1)=s.m
  exact memK_succ (by simpa using h)
theorem Chn.at {E:Env}{full:List Oper}{K:Mem->Prop}:∀{L:List EffS} {m:Mem},Chn P T E full K m L->(∀{j:Nat} {s:EffS} {o:Oper},L[j]?=some s->full[s.i]?=some o->effAt P T E (memK m L j) s o)/\K (lastM m L)
 |[],m,h=>⟨fun h=>by simp at h,h⟩
 | x :: r,m,h=>by
  obtain⟨h1,h2⟩:=h
  obtain⟨k1,k2⟩:=Chn.at h2
  refine⟨fun{j s o} hj ho=>?_,k2⟩
  cases j with
  |zero =>
   simp at hj
   subst hj
   rw[ho]at h1
   exact h1
  |succ j=>exact k1 (by simpa using hj) ho
theorem allWeak.at {m0:Mem}:∀{L:List EffS} {m:Mem},Weak m0 m->allWeak m0 L->∀k,Weak m0 (memK m L k)
 |L,m,h,_,0=>by cases L<;>exact h
 |[],m,h,_,k+1=>h
 |s::r,m,_,h,k+1=>allWeak.at (L:=r) (m:=s.m) h.1 h.2 k
def WeakB (B0 B1:Blk):Prop:=∀(w:World) (F:Nat->Prop) (σ:Pls) (pl:Pl),BlkOk w F σ B1 pl->BlkOk w F σ B0 pl
theorem WeakB.opq {B:Blk}:WeakB .opq B:=fun _ _ _ _ _=>Tt
def JL:List AV->List AV->Prop
 |[],[]=>True
 | .junk::r,_::s=>JL r s
 |A::r,B::s=>A=B/\JL r s
 |_,_=>False
theorem JL.at:∀{a b:List AV},JL a b->a.length=b.length/\∀(j:Nat) A,a[j]?=some A->A=.junk\/b[j]?=some A
 |[],[],_=>⟨rfl,fun j A h=>by simp at h⟩
 | A :: r,B :: s,h=>by
  have key:JL r s/\(A=.junk\/A=B):=by
   cases A<;>first|exact⟨h,.inl rfl⟩|exact⟨h.2,.inr h.1⟩
  obtain⟨h1,h2⟩:=JL.at key.1
  refine⟨by simp[h1],fun j C hC=>?_⟩
  cases j with
  |zero =>
   simp at hC
   subst hC
   rcases key.2 with rfl|rfl
   .exact .inl rfl
   .exact .inr rfl
  |succ j=>simpa using h2 j C (by simpa using hC)
 |[],_::_,h=>h.elim
 |A::_,[],h=>by cases A<;>exact h.elim
theorem WeakB.box {e:TypeId}{a b:List AV}(h:JL a b):WeakB (.box e a) (.box e b):=fun w F σ pl hb=>by
 obtain⟨h1,h2⟩:=JL.at h
 obtain⟨k1,k2,c,k3,us,k4,k5,k6⟩:=hb
 refine⟨k1,by rw[h1];exact k2,c,k3,us,k4,by rw[h1];exact k5,fun j A u hA hu=>?_⟩
 have hj:=(List.getElem?_eq_some_iff.1 hA).1
 have hB:b[j]?=some (b[j]'Om):=List.getElem?_eq_getElem Om
 have:=k6 j _ u hB hu
 rcases h2 j A hA with rfl|h3
 .exact⟨.junk,this.2⟩
 .rw[hB]at h3
  cases h3
  exact this
def WeakF (m0 m1:Mem):Prop:=∀r,m0.at r=some none\/m0.at r=m1.at r\/∃B0 B1,m0.at r=some (some B0)/\m1.at r=some (some B1)/\WeakB B0 B1
def WeakFL:List (Option Blk)->List (Option Blk)->Prop
 |[],[]=>True
 |none::r,[]=>WeakFL r []
 |none::r,_::s=>WeakFL r s
 |some B::r,x::s=>(some B=x\/∃B1,x=some B1/\WeakB B B1)/\WeakFL r s
 |_,_=>False
theorem WeakFL.at:∀{a b:List (Option Blk)},WeakFL a b->∀j:Nat,a[j]?=some none\/a[j]?=b[j]?\/∃B0 B1,a[j]?=some (some B0)/\b[j]?=some (some B1)/\WeakB B0 B1
 |[],[],_,j=>.inr (.inl rfl)
 |none::r,[],h,j=>by
  cases j with
  |zero=>simp
  |succ j=>simpa using WeakFL.at (a:=r) (b:=[]) h j
 |none::r,_::s,h,j=>by
  cases j with
  |zero=>simp
  |succ j=>simpa using WeakFL.at (a:=r) (b:=s) h j
 | some B :: r,x :: s,h,j=>by
  cases j with
  |zero =>
   rcases h.1 with h1|⟨B1,rfl,h1⟩
   .right;left;simp[h1]
   .right;right;exact⟨B,B1,rfl,rfl,h1⟩
  |succ j=>simpa using WeakFL.at (a:=r) (b:=s) h.2 j
 |some _::_,[],h,_=>h.elim
 |[],_::_,h,_=>h.elim
theorem WeakF.of {a b a' b':List (Option Blk)}(h1:WeakFL a a')(h2:WeakFL b b'):WeakF ⟨a,b⟩ ⟨a',b'⟩:=fun r=>by
 cases r with
 |loc j=>exact h1.at j
 |arg j=>exact h2.at j
 |bad=>exact .inr (.inl rfl)
def fg (m0:Mem)(σ:Pls):Pls:=fun r=>match m0.at r with
 |some none=>some none
 |_=>σ r
theorem fg_le (m0:Mem)(σ:Pls):SLe σ (fg m0 σ):=fun r q h=>by
 unfold fg
 split
 .exact⟨none,rfl,QLe.none q⟩
 .exact⟨q,h,QLe.refl q⟩
theorem fg_mono {m0:Mem}{σ σ2:Pls}(h:SLe σ σ2):SLe (fg m0 σ) (fg m0 σ2):=fun r q hq=>by
 unfold fg at hq⊢
 split at hq
 .cases hq
  exact⟨none,rfl,QLe.refl none⟩
 .exact h r q hq
theorem WeakF.ok {m0 m1:Mem}(h:WeakF m0 m1){σ:Pls}{F:Nat->Prop}{w:World}(hm:MemOk m1 σ F w):MemOk m0 (fg m0 σ) F w where
 dom r:=by
  unfold fg
  split
  .rename_i e;rw[e];simp
  .rename_i hne
   rcases h r with h|h|⟨B0,B1,h1,h2,_⟩
   .exact absurd h hne
   .rw[h];exact hm.dom r
   .rw[hm.dom r,h1,h2];simp
 lv r q hq:=by
  unfold fg at hq
  split at hq
  .rename_i e
   cases hq
   exact⟨fun _=>e,fun pl hp=>by cases hp⟩
  .rename_i hne
   obtain⟨k1,k2⟩:=hm.lv r q hq
   rcases h r with h|h|⟨B0,B1,h1,h2,hb⟩
   .exact absurd h hne
   .rw[h];exact⟨k1,fun pl hp=>by obtain⟨B,hB,hok⟩:=k2 pl hp;exact⟨B,hB,hok.mono (fun _ h=>h) (fun _ _=>rfl) (fg_le m0 σ) (fun _ _ _=>rfl)⟩⟩
   .refine⟨fun e=>?_,fun pl hp=>?_⟩
    .have:=k1 e
     rw[h2]at this
     cases this
    .obtain⟨B,hB,hok⟩:=k2 pl hp
     rw[h2]at hB
     cases hB
     exact⟨B0,h1,hb w F _ pl (hok.mono (fun _ h=>h) (fun _ _=>rfl) (fg_le m0 σ) (fun _ _ _=>rfl))⟩
 inj r r' pl pl' b t t' e1 e2:=by
  have key:∀r pl,fg m0 σ r=some (some pl)->σ r=some (some pl):=fun r pl e=>by
   unfold fg at e
   split at e
   .cases e
   .exact e
  exact hm.inj r r' pl pl' b t t' (key _ _ e1) (key _ _ e2)
 nf r pl b t e1 e2:=by
  unfold fg at e1
  split at e1
  .cases e1
  .exact hm.nf r pl b t e1 e2
 fl:=hm.fl
 gl:=hm.gl
def allWeakF (m0:Mem):List EffS->Prop
 |[]=>True
 |s::r=>WeakF m0 s.m/\allWeakF m0 r
theorem Awp.effs (hT:TabOk P T) {id N:Nat} {ops:Array Oper} {env:Env} {Q:Post} (h1:P.follows .mixedOrders=true) (h2:okR ops.toList=true) (hd:dstsIn N ops.toList=true) (m0:Mem) (L:List EffS) (hL:effOk ops.toList none L=true) (w0:Weak m0 m) (wL:allWeak m0 L)
  (h:vcE P T ops.toList m0 (effB L) (resB L) ops.toList 0 env fun E=>Chn P T E ops.toList (fun m=>Ev (Q .normal E m)) m L):Awp P N (.region id ops true) env m Q :=
 ⟨fun ro lo a w σ F hN hD he hm=>by
  have hlt:∀{j:Nat} {s:EffS},L[j]?=some s->s.i<ops.size:=fun hj=>by
   obtain⟨⟨o,ho,_⟩,_⟩:=effOk_at hL hj
   have:=(List.getElem?_eq_some_iff.1 ho).1
   rwa [Array.length_toList]at this
  have hdst:∀(i:Nat) o,ops[i]?=some o->(match o.dst with|some d=>Nat.blt d N|none=>true)=true:=by
   have:∀(l:List Oper),dstsIn N l=true->∀(i:Nat) o,l[i]?=some o->(match o.dst with|some d=>Nat.blt d N|none=>true)=true:=by
    intro l
    induction l with
    |nil=>intro _ i o ho;simp at ho
    |cons x r ih =>
     intro hl i o ho
     simp only[dstsIn,Bool.and_eq_true]at hl
     cases i with
     |zero=>simp at ho;subst ho;exact hl.1
     |succ i=>exact ih hl.2 i o (by simpa using ho)
   exact fun i o ho=>this ops.toList hd i o (by rw[Array.getElem?_toList];exact ho)
  refine drawn_eff (m:=m0) (σ:=σ) h1 h2 hT hd h hN he (fun listed a' w' F' σ'=>∃k,k<=L.length/\(∀(j:Nat) (s:EffS),L[j]?=some s->(listed.getD s.i true=true↔j<k))/\MemOk (memK m L k) σ' F' w'/\Step σ F w σ' F' w'/\SLe σ σ') ?_ ?_ ?_ ?_ ?_
  .rintro listed a' w' F' σ' _ _ _ _ ⟨k,_,_,hk,_⟩
   exact(allWeak.at w0 wL k).ok hk
  .have hrep:∀j,j<ops.size->(Array.replicate ops.size false).getD j true=false:=fun j hj=>by
    rw[getD_list,Array.toList_replicate,List.getElem?_replicate,if_pos hj]
    rfl
   refine⟨0,Nat.zero_le _,fun j s hj=>?_,?_,(Grew.drew hm.fl).step σ,SLe.refl σ⟩
   .rw[hrep _ (hlt hj)]
    exact⟨fun h=>(by cases h),fun h=>absurd h (Nat.not_lt_zero _)⟩
   .have:memK m L 0=m:=by cases L<;>rfl
    rw[this]
    exact(Grew.drew hm.fl).mem hm
  .rintro listed a' w' F' σ' F2 w2 v i o ⟨k,hk,hc,hmw,hst,hsl⟩ hg hi ho hls hN'
   refine⟨k,hk,fun j s hj=>?_,hg.mem hmw,hst.trans (hg.step σ'),hsl⟩
   rw[listed_set (fun e=>?_)]
   .exact hc j s hj
   .have:effB L i=true:=effB_iff.2 ⟨j,s,hj,e⟩
    rw[hi]at this
    cases this
  .rintro As listed a' w' F' σ' i o hE hK _ hi ho hl hen hcl hls hN' hD' hs ⟨k,hk,hc,hmm,hst,hsl⟩ next hnext
   obtain⟨j,s,hj,rfl⟩:=effB_iff.1 hi
   obtain⟨⟨o',ho',hg,hjk0,hnl⟩,huniq,hprev,hres⟩:=effOk_at hL hj
   have hol:ops.toList[s.i]?=some o:=by rw[Array.getElem?_toList];exact ho
   rw[hol]at ho'
   cases ho'
   have hjk:¬ j<k:=fun h=>by rw[(hc j s hj).2 h]at hl;cases hl
   have hj2:j=k:=by
    rcases Nat.lt_or_ge k j with h|h
    .have h0:j≠0:=by omega
     have hjl:=(List.getElem?_eq_some_iff.1 hj).1
     have hs':L[j-1]?=some (L[j-1]'Om):=List.getElem?_eq_getElem Om
     obtain⟨hp,hpm⟩:=hprev _ h0 hs'
     have hl1:listed.getD (L[j-1]'Om).i true=true:=by
      cases hv:s.via with
      |nil=>rw[hv]at hpm;simp at hpm
      | cons x r =>
       rw[hv]at hp hpm
       simp only[pathOk,Bool.and_eq_true]at hp
       have hx:listed.getD x true=true:=by
        have h3:=hp.1
        rw[hol]at h3
        obtain⟨e,he,heo,heb⟩:=edgeTo_of h3
        have:=hen e he heb
        rwa [heo]at this
       rcases List.mem_cons.1 hpm with e|hr
       .rw[e];exact hx
       .exact path_at hcl r x hp.2 hx _ hr
     have:=(hc _ _ hs').1 hl1
     omega
    .omega
   subst hj2
   have hop:=(Chn.at hK).1 hj hol
   refine eff_stepG (id:=id) hT (hdst s.i o ho) ho hg hnl hop hE hN' hmm hen hs fun v w2' F2 σ2 q1 q2 q3 q4 q5=>hnext v w2' F2 σ2 q1 ?_ ⟨j+1,(List.getElem?_eq_some_iff.1 hj).1,fun j' s' hj'=>?_,by rw[memK_succ hj];exact q3,hst.trans q4,SLe.trans hsl q5⟩
   .rw[hres]
    cases hdo:o.dst with
    |none=>rw[hjk0 hdo];exact .junk
    |some d=>exact q2 d hdo
   .by_cases e:s'.i=s.i
    .rw[e,listed_self,huniq j' s' hj' e]
     exact⟨fun _=>Nat.lt_succ_self _,fun _=>rfl⟩
    .rw[listed_set e,hc j' s' hj']
     have:j'≠j:=fun e2=>by subst e2;rw[hj]at hj';cases hj';exact e rfl
     omega
  .rintro env' a' w' F' σ' hK hN' hD' hE listed hall ⟨k,hk,hc,hmm,hst,hsl⟩
   have hkl:k=L.length:=by
    rcases Nat.lt_or_ge k L.length with h|h
    .have hs':L[k]?=some (L[k]'h):=List.getElem?_eq_getElem h
     have:=(hc k _ hs').1 (hall _ (hlt hs'))
     omega
    .omega
   subst hkl
   rw[memK_last]at hmm
   exact⟨_,_,σ',F',(Chn.at hK).2.o,hN',by rw[hD'];exact hD.step hst,hE,hmm,hst,SArg.of hsl⟩⟩
def filt (nl na:Nat):Env->Env
 |[]=>[]
 |(t,A)::r=>(t,bif avIn nl na A then A else .junk)::filt nl na r
theorem get_filt (nl na:Nat):∀(e:Env) (t:Nat),get (filt nl na e) t=bif avIn nl na (get e t) then get e t else .junk
 |[],t=>rfl
 |(k,A)::r,t=>by
  simp only[filt,get]
  cases Nat.beq k t
  .exact get_filt nl na r t
  .rfl
def over (ops:List Oper)(nl na:Nat)(E:Env):List EffS->Env
 |[]=>filt nl na E
 |s::r=>match ops[s.i]? with
  |some o=>stepE o s.res (over ops nl na E r)
  |none=>over ops nl na E r
theorem get_over (ops:List Oper)(nl na:Nat)(E:Env)(t:Nat):∀L:List EffS,(∃s∈L,∃o,ops[s.i]?=some o/\o.dst=some t/\get (over ops nl na E L) t=s.res)\/get (over ops nl na E L) t=get (filt nl na E) t
 |[]=>.inr rfl
 | s :: r=>by
  have ih:=get_over ops nl na E t r
  unfold over
  cases ho:ops[s.i]? with
  |none =>
   dsimp only
   rcases ih with ⟨s',h1,h2⟩|h
   .exact .inl ⟨s',List.mem_cons_of_mem _ h1,h2⟩
   .exact .inr h
  | some o =>
   dsimp only
   by_cases hd:o.dst=some t
   .exact .inl ⟨s,List.mem_cons_self,o,ho,hd,get_step_self hd⟩
   .rw[get_step hd]
    rcases ih with ⟨s',h1,h2⟩|h
    .exact .inl ⟨s',List.mem_cons_of_mem _ h1,h2⟩
    .exact .inr h
def wk (nl na:Nat)(A:AV):AV:=bif avIn nl na A then A else .junk
def keepL:Nat->List (Option Blk)->Bool
 |0,_=>true
 |_,[]=>true
 |_+1,none::_=>false
 |n+1,some _::r=>keepL n r
theorem keepL_at:∀{n:Nat} {l:List (Option Blk)},keepL n l=true->∀j,j<n->l[j]?≠some none
 |0,_,_,j,hj=>absurd hj (Nat.not_lt_zero j)
 |n+1,[],_,j,_=>by simp
 |n+1,none::_,h,_,_=>by cases h
 |n+1,some _::r,h,j,hj=>by
  cases j with
  |zero=>simp
  |succ j=>simpa using keepL_at (l:=r) h j Om
theorem keep_in {m0:Mem}{nl na:Nat}(h1:keepL nl m0.loc=true)(h2:keepL na m0.own=true){r:Ref}(h:refIn nl na r=true):m0.at r≠some none:=by
 cases r with
 |loc j=>exact keepL_at h1 j (Nat.le_of_ble_eq_true h)
 |arg j=>exact keepL_at h2 j (Nat.le_of_ble_eq_true h)
 |bad=>cases h
theorem Vc.unfg {m0:Mem}{nl na:Nat}(h1:keepL nl m0.loc=true)(h2:keepL na m0.own=true){w:World}{F:Nat->Prop}{σ:Pls}{A:AV}{v:Value}(h:Vc w F (fg m0 σ) A v)(hin:avIn nl na A=true):Vc w F σ A v :=
 h.restrict hin fun r q hr hq=>by
  have:=keep_in h1 h2 hr
  unfold fg at hq
  split at hq
  .rename_i e;exact absurd e this
  .exact⟨q,hq,QLe.refl q⟩
theorem Vc.fg {m0:Mem}{w:World}{F:Nat->Prop}{σ:Pls}{A:AV}{v:Value}(h:Vc w F σ A v):Vc w F (Ab.fg m0 σ) A v:=h.mono (fun _ h=>h) (fun _ _=>rfl) (fg_le m0 σ)
theorem Vc.wk {nl na:Nat}{w:World}{F:Nat->Prop}{σ:Pls}{A:AV}{v:Value}(h:Vc w F σ A v):Vc w F σ (Ab.wk nl na A) v:=by
 unfold Ab.wk
 cases avIn nl na A
 .exact .junk
 .exact h
theorem eff_stepF (hT:TabOk P T){id N:Nat}{ops:Array Oper}{i:Nat}{o:Oper}{E:Env}{m1 m2:Mem}{B:AV}(hdN:(match o.dst with|some d=>Nat.blt d N|none=>true)=true)(ho:ops[i]?=some o)(hg:o.guard=none)
  (hop:vcOp P T o (sel E (tmpsE o.op)) m1 fun e m'=>(match o.dst with|some d=>get e d=B|none=>True)/\m'=m2)
  {σ':Pls} {F':Nat->Prop} {w':World} {a':Act} (hN:a'.tmps.size=N) (hm:MemOk m1 σ' F' w') (rd:∀t∈tmpsE o.op,Vc w' F' σ' (get E t) (a'.tmps.getD t undef))
  {next:Act->World->Prop} {Q:Exit->Act->World->Prop} (hn:∀v w2 F2 σ2,(∀σa σb,SLe σa σb->∀A u,Vc w' F' σa A u->Vc w2 F2 σb A u)->(∀d,o.dst=some d->Vc w2 F2 σ2 B v)->MemOk m2 σ2 F2 w2->Step σ' F' w' σ2 F2 w2->SLe σ' σ2->next (a'.put o.dst v) w2):wpOpIn (Fen ro) 0 P ops Q i next a' w':=by
 have hw:Region.wanted o (yielded ops a'.tmps)=true:=by simp[Region.wanted,hg]
 unfold wpOpIn
 simp only[ho,hw,if_true]
 refine vcOp_ok hT hop hdN hN (sel_ok rd) hm ?_
 rintro env' m' v w2 σ2 F2 ⟨k1,rfl⟩ k2 k3 k4 k5
 refine hn v w2 F2 σ2 (fun σa σb hab A u hv=>hv.mono k4.fro (fun b hb=>k4.keep b (hm.fl b hb) (fun⟨r,pl,t,e1,e2⟩=>(hm.nf r pl b t e1 e2).1 hb)) hab) (fun d hd=>?_) k3 k4 k5
 rw[hd]at k1 hdN k2
 have hv:=k2 d
 rw[k1,put_eq (by rw[hN];exact Nat.le_of_ble_eq_true hdN)]at hv
 exact hv
def covAt (ops:List Oper)(i:Nat):Bool:=match ops[i]? with
 |some o=>(List.range ops.length).all fun j=>Nat.beq j i||(edgeOn o.after.toList j||o.after.toList.any fun e=>Region.binds .any e&&match ops[e.on]? with
  |some o2=>edgeOn o2.after.toList j
  |none=>false)
 |none=>false
def covOk (ops:List Oper):List EffS->Bool
 |[]=>true
 |[s]=>covAt ops s.i
 |_::r=>covOk ops r
def allWeakC (m0:Mem)(cv:Bool):List EffS->Prop
 |[]=>True
 |[s]=>cv=true\/WeakF m0 s.m
 |s::s2::r=>WeakF m0 s.m/\allWeakC m0 cv (s2::r)
theorem allWeakC.of {m0:Mem}:∀{L:List EffS},allWeakF m0 L->allWeakC m0 false L
 |[],_=>Tt
 |[_],h=>.inr h.1
 |_::_::_,h=>⟨h.1,allWeakC.of h.2⟩
theorem allWeakC.at {m0:Mem}{cv:Bool}:∀{L:List EffS} {m:Mem},WeakF m0 m->allWeakC m0 cv L->∀k,(cv=true->L≠[]->k<L.length)->WeakF m0 (memK m L k)
 |L,m,h,_,0,_=>by cases L<;>exact h
 |[],m,h,_,k+1,_=>h
 |[s],m,_,h,k+1,hk=>by
  have:WeakF m0 s.m:=h.elim (fun e=>absurd (hk e (by simp)) (by simp)) id
  cases k<;>exact this
 |s::s2::r,m,_,h,k+1,hk=>allWeakC.at (L:=s2::r) (m:=s.m) h.1 h.2 k fun e _=>by
  have:=hk e (by simp)
  simp at this⊢
  omega
theorem covOk_at {ops:List Oper}:∀{L:List EffS},covOk ops L=true->∀{j:Nat} {s:EffS},L[j]?=some s->j+1=L.length->covAt ops s.i=true
 |[],_,j,s,h,_=>by simp at h
 |[x],hc,j,s,h,e=>by
  have:j=0:=by simpa using e
  subst this
  simp at h
  subst h
  exact hc
 |x::y::r,hc,j,s,h,e=>by
  cases j with
  |zero=>simp at e
  |succ j=>exact covOk_at (L:=y::r) hc (by simpa using h) (by simpa using e)
theorem cov_all {ops:Array Oper}{listed:Array Bool}{i:Nat}{o:Oper}(hc:covAt ops.toList i=true)(ho:ops[i]?=some o)(hen:∀e∈o.after,Region.binds .any e=true->listed.getD e.on true=true)
  (hcl:∀(j:Nat) o,ops[j]?=some o->listed.getD j true=true->∀e∈o.after,Region.binds .any e=true->listed.getD e.on true=true) (j:Nat) (hj:j<ops.size) (hne:j≠i):listed.getD j true=true:=by
 unfold covAt at hc
 rw[Array.getElem?_toList,ho]at hc
 have:=List.all_eq_true.1 hc j (List.mem_range.2 (by rw[Array.length_toList];exact hj))
 simp only[Bool.or_eq_true]at this
 rcases this with h|h|h
 .exact absurd (Nat.eq_of_beq_eq_true h) hne
 .obtain⟨e,he,heo,heb⟩:=edgeTo_of h
  have:=hen e he heb
  rwa [heo]at this
 .obtain⟨e,he,h⟩:=List.any_eq_true.1 h
  simp only[Bool.and_eq_true]at h
  obtain⟨hb,h⟩:=h
  have he':e∈o.after:=Array.mem_toList_iff.1 he
  have h1:=hen e he' hb
  split at h
  .rename_i o2 ho2
   rw[Array.getElem?_toList]at ho2
   obtain⟨e2,he2,heo2,heb2⟩:=edgeTo_of h
   have:=hcl _ _ ho2 h1 e2 he2 heb2
   rwa [heo2]at this
  .cases h
theorem Awp.effsC (hT:TabOk P T) {id N:Nat} {ops:Array Oper} {env:Env} {Q:Post} (h1:P.follows .mixedOrders=true) (h2:okR ops.toList=true) (hd:dstsIn N ops.toList=true) (m0:Mem) (nl na:Nat) (L:List EffS) (hL:effOk ops.toList none L=true)
  (kp1:keepL nl m0.loc=true) (kp2:keepL na m0.own=true) (w0:WeakF m0 m) (cv:Bool) (hcv:cv=true->covOk ops.toList L=true) (wL:allWeakC m0 cv L)
  (h:vcE P T ops.toList m0 (effB L) (fun i=>wk nl na (resB L i)) ops.toList 0 env fun E=>Chn P T (over ops.toList nl na E L) ops.toList (fun m=>Ev (Q .normal (over ops.toList nl na E L) m)) m L):Awp P N (.region id ops true) env m Q :=
 ⟨fun ro lo a w σ F hN hD he hm=>by
  have hlt:∀{j:Nat} {s:EffS},L[j]?=some s->s.i<ops.size:=fun hj=>by
   obtain⟨⟨o,ho,_⟩,_⟩:=effOk_at hL hj
   have:=(List.getElem?_eq_some_iff.1 ho).1
   rwa [Array.length_toList]at this
  have hdst:∀(i:Nat) o,ops[i]?=some o->(match o.dst with|some d=>Nat.blt d N|none=>true)=true:=by
   have:∀(l:List Oper),dstsIn N l=true->∀(i:Nat) o,l[i]?=some o->(match o.dst with|some d=>Nat.blt d N|none=>true)=true:=by
    intro l
    induction l with
    |nil=>intro _ i o ho;simp at ho
    |cons x r ih =>
     intro hl i o ho
     simp only[dstsIn,Bool.and_eq_true]at hl
     cases i with
     |zero=>simp at ho;subst ho;exact hl.1
     |succ i=>exact ih hl.2 i o (by simpa using ho)
   exact fun i o ho=>this ops.toList hd i o (by rw[Array.getElem?_toList];exact ho)
  have honce:∀(i j:Nat) o o' d,ops[i]?=some o->ops[j]?=some o'->o.dst=some d->o'.dst=some d->i=j:=fun i j o o' d ho ho' hd1 hd2=>by
   have:=okFrom_at h2 j o' (by rw[Array.getElem?_toList];exact ho')
   rw[Nat.zero_add]at this
   exact this.once d hd2 i o (by rw[Array.getElem?_toList];exact ho) hd1
  refine drawn_eff (m:=m0) (σ:=fg m0 σ) h1 h2 hT hd h hN (fun t=>(he t).fg) (fun listed a' w' F' σ''=>∃σ' k,σ''=fg m0 σ'/\k<=L.length/\(∀(j:Nat) (s:EffS),L[j]?=some s->(listed.getD s.i true=true↔j<k))/\MemOk (memK m L k) σ' F' w'/\Step σ F w σ' F' w'/\SLe σ σ'/\(cv=true->L≠[]->k=L.length->∀i,i<ops.size->listed.getD i true=true) /\
    (∀(j:Nat) (s:EffS) o d,L[j]?=some s->j<k->ops[s.i]?=some o->o.dst=some d->Vc w' F' σ' s.res (a'.tmps.getD d undef))) ?_ ?_ ?_ ?_ ?_
  .rintro listed a' w' F' σ'' i0 hi0 _ hli ⟨σ',k,rfl,hkl,_,hk,_,_,hall,_⟩
   refine(allWeakC.at w0 wL k fun e hne=>?_).ok hk
   rcases Nat.lt_or_ge k L.length with h|h
   .exact h
   .rw[hall e hne Om i0 hi0]at hli
    cases hli
  .have hrep:∀j,j<ops.size->(Array.replicate ops.size false).getD j true=false:=fun j hj=>by
    rw[getD_list,Array.toList_replicate,List.getElem?_replicate,if_pos hj]
    rfl
   refine⟨σ,0,rfl,Nat.zero_le _,fun j s hj=>?_,?_,(Grew.drew hm.fl).step σ,SLe.refl σ,fun _ hne h=>absurd (List.length_eq_zero_iff.1 h.symm) hne,fun j s o d _ h=>absurd h (Nat.not_lt_zero _)⟩
   .rw[hrep _ (hlt hj)]
    exact⟨fun h=>(by cases h),fun h=>absurd h (Nat.not_lt_zero _)⟩
   .have:memK m L 0=m:=by cases L<;>rfl
    rw[this]
    exact(Grew.drew hm.fl).mem hm
  .rintro listed a' w' F' σ'' F2 w2 v i o ⟨σ',k,rfl,hk,hc,hmw,hst,hsl,hall,hv⟩ hg hi ho hls hN'
   refine⟨σ',k,rfl,hk,fun j s hj=>?_,hg.mem hmw,hst.trans (hg.step σ'),hsl,fun e hne e2 i2 hi2=>?_,fun j s o' d hj hjk ho' hd'=>?_⟩
   .rw[listed_set (fun e=>?_)]
    .exact hc j s hj
    .have:effB L i=true:=effB_iff.2 ⟨j,s,hj,e⟩
     rw[hi]at this
     cases this
   .by_cases e3:i2=i
    .rw[e3,listed_self]
    .rw[listed_set e3];exact hall e hne e2 i2 hi2
   .rw[put_ne (fun e=>?_)]
    .exact(hv j s o' d hj hjk ho' hd').mono hg.fro (fun b hb=>hg.keep b (hmw.fl b hb)) (SLe.refl σ')
    .have:effB L i=true:=effB_iff.2 ⟨j,s,hj,honce _ _ _ _ d ho' ho hd' e⟩
     rw[hi]at this
     cases this
  .rintro As listed a' w' F' σ'' i o hE hK hAe hi ho hl hen hcl hls hN' hD' hs ⟨σ',k,rfl,hk,hc,hmm,hst,hsl,_,hv⟩ next hnext
   obtain⟨j,s,hj,rfl⟩:=effB_iff.1 hi
   obtain⟨⟨o',ho',hg,hjk0,hnl⟩,huniq,hprev,hres⟩:=effOk_at hL hj
   have hol:ops.toList[s.i]?=some o:=by rw[Array.getElem?_toList];exact ho
   rw[hol]at ho'
   cases ho'
   have hjk:¬ j<k:=fun h=>by rw[(hc j s hj).2 h]at hl;cases hl
   have hj2:j=k:=by
    rcases Nat.lt_or_ge k j with h|h
    .have h0:j≠0:=by omega
     have hjl:=(List.getElem?_eq_some_iff.1 hj).1
     have hs':L[j-1]?=some (L[j-1]'Om):=List.getElem?_eq_getElem Om
     obtain⟨hp,hpm⟩:=hprev _ h0 hs'
     have hl1:listed.getD (L[j-1]'Om).i true=true:=by
      cases hv:s.via with
      |nil=>rw[hv]at hpm;simp at hpm
      | cons x r =>
       rw[hv]at hp hpm
       simp only[pathOk,Bool.and_eq_true]at hp
       have hx:listed.getD x true=true:=by
        have h3:=hp.1
        rw[hol]at h3
        obtain⟨e,he,heo,heb⟩:=edgeTo_of h3
        have:=hen e he heb
        rwa [heo]at this
       rcases List.mem_cons.1 hpm with e|hr
       .rw[e];exact hx
       .exact path_at hcl r x hp.2 hx _ hr
     have:=(hc _ _ hs').1 hl1
     omega
    .omega
   subst hj2
   have hop:=(Chn.at hK).1 hj hol
   have rd:∀t∈tmpsE o.op,Vc w' F' σ' (get (over ops.toList nl na (envsOf env ops.toList As ops.size) L) t) (a'.tmps.getD t undef):=fun t ht=>by
    have hlst:∀(j2:Nat) (o2:Oper),ops[j2]?=some o2->o2.dst=some t->listed.getD j2 true=true:=fun j2 o2 ho2 hd2=>by
     have:=depOk_at (depsOk_at hnl ht) (show ops.toList[j2]?=some o2 by rw[Array.getElem?_toList];exact ho2) hd2
     rw[Nat.zero_add]at this
     obtain⟨e,he,heo,heb⟩:=edgeTo_of this
     have:=hen e he heb
     rwa [heo]at this
    rcases get_over ops.toList nl na (envsOf env ops.toList As ops.size) t L with ⟨s2,hs2,o2,ho2,hd2,e⟩|e
    .rw[e]
     obtain⟨j2,hj2l,rfl⟩:=List.mem_iff_getElem.1 hs2
     have hj2:L[j2]?=some L[j2]:=List.getElem?_eq_getElem hj2l
     rw[Array.getElem?_toList]at ho2
     exact hv j2 _ o2 t hj2 ((hc j2 _ hj2).1 (hlst _ _ ho2 hd2)) ho2 hd2
    .rw[e,get_filt]
     cases hav:avIn nl na (get (envsOf env ops.toList As ops.size) t) with
     |false=>exact .junk
     | true =>
      rw[cond_true]
      refine Vc.unfg kp1 kp2 ?_ hav
      by_cases hex:∃(j:Nat) (o':Oper),ops[j]?=some o'/\o'.dst=some t
      .obtain⟨j2,o2,ho2,hd2⟩:=hex
       rw[hE j2 o2 t ho2 hd2]
       exact(hs t).1 j2 o2 (Array.getElem?_eq_some_iff.1 ho2).1 ho2 hd2 (hlst j2 o2 ho2 hd2)
      .have:get (envsOf env ops.toList As ops.size) t=get (envsOf env ops.toList As 0) t:=envs_stable (i:=0) ops.size (Nat.zero_le _) (fun j o2 _ _ h3 h4=>hex ⟨j,o2,by rwa [Array.getElem?_toList]at h3,h4⟩)
       rw[this]
       exact(hs t).2 fun j o2 h3 h4=>absurd ⟨j,o2,h3,h4⟩ hex
   refine eff_stepF (id:=id) hT (hdst s.i o ho) ho hg hop hN' hmm rd fun v w2' F2 σ2 q1 q2 q3 q4 q5=>hnext v w2' F2 (fg m0 σ2) (fun A u=>q1 _ _ (fg_mono q5) A u) ?_ ⟨σ2,j+1,rfl,(List.getElem?_eq_some_iff.1 hj).1,fun j' s' hj'=>?_,by rw[memK_succ hj];exact q3,hst.trans q4,SLe.trans hsl q5,fun e0 _ e1 i2 hi2=>?_,fun j' s' o' d hj' hjk' ho' hd'=>?_⟩
   .show Vc w2' F2 (fg m0 σ2) (wk nl na (resB L s.i)) v
    rw[hres]
    cases hdo:o.dst with
    |none=>rw[hjk0 hdo];exact Vc.wk .junk
    |some d=>exact Vc.wk (q2 d hdo).fg
   .by_cases e:s'.i=s.i
    .rw[e,listed_self,huniq j' s' hj' e]
     exact⟨fun _=>Nat.lt_succ_self _,fun _=>rfl⟩
    .rw[listed_set e,hc j' s' hj']
     have:j'≠j:=fun e2=>by subst e2;rw[hj]at hj';cases hj';exact e rfl
     omega
   .by_cases e3:i2=s.i
    .rw[e3,listed_self]
    .rw[listed_set e3];exact cov_all (covOk_at (hcv e0) hj e1) ho hen hcl i2 hi2 e3
   .by_cases e:s'.i=s.i
    .have:=huniq j' s' hj' e
     subst this
     rw[hj]at hj'
     cases hj'
     rw[ho]at ho'
     cases ho'
     have hdN:=hdst s.i o ho
     rw[hd']at hdN⊢
     rw[put_eq (by rw[hN'];exact Nat.le_of_ble_eq_true hdN)]
     exact q2 d hd'
    .rw[put_ne (fun e2=>e (honce _ _ _ _ d ho' ho hd' e2))]
     have:j'≠j:=fun e2=>by subst e2;rw[hj]at hj';cases hj';exact e rfl
     exact q1 _ _ q5 _ _ (hv j' s' o' d hj' Om ho' hd')
  .rintro env' a' w' F' σ'' hK hN' hD' hE listed hall ⟨σ',k,rfl,hk,hc,hmm,hst,hsl,_,hv⟩
   have hkl:k=L.length:=by
    rcases Nat.lt_or_ge k L.length with h|h
    .have hs':L[k]?=some (L[k]'h):=List.getElem?_eq_getElem h
     have:=(hc k _ hs').1 (hall _ (hlt hs'))
     omega
    .omega
   subst hkl
   rw[memK_last]at hmm
   refine⟨_,_,σ',F',(Chn.at hK).2.o,hN',by rw[hD'];exact hD.step hst,fun t=>?_,hmm,hst,SArg.of hsl⟩
   rcases get_over ops.toList nl na env' t L with ⟨s2,hs2,o2,ho2,hd2,e⟩|e
   .rw[e]
    obtain⟨j2,hj2l,rfl⟩:=List.mem_iff_getElem.1 hs2
    rw[Array.getElem?_toList]at ho2
    exact hv j2 _ o2 t (List.getElem?_eq_getElem hj2l) hj2l ho2 hd2
   .rw[e,get_filt]
    cases hav:avIn nl na (get env' t) with
    |false=>exact .junk
    |true=>exact Vc.unfg kp1 kp2 (hE t) hav⟩
theorem Awp.effsF (hT:TabOk P T){id N:Nat}{ops:Array Oper}{env:Env}{Q:Post}(h1:P.follows .mixedOrders=true)(h2:okR ops.toList=true)(hd:dstsIn N ops.toList=true)(m0:Mem)(nl na:Nat)(L:List EffS)(hL:effOk ops.toList none L=true)
  (kp1:keepL nl m0.loc=true) (kp2:keepL na m0.own=true) (w0:WeakF m0 m) (wL:allWeakF m0 L)
  (h:vcE P T ops.toList m0 (effB L) (fun i=>wk nl na (resB L i)) ops.toList 0 env fun E=>Chn P T (over ops.toList nl na E L) ops.toList (fun m=>Ev (Q .normal (over ops.toList nl na E L) m)) m L):Awp P N (.region id ops true) env m Q :=
 Awp.effsC hT h1 h2 hd m0 nl na L hL kp1 kp2 w0 false (fun e=>by cases e) (.of wL) h
end
section
variable {P:Program}{T:Tab}{m:Mem}{σ:Pls}
structure BoxOk1 (T:Tab)(ops:Array Oper)(n:Nat)(s:BoxS):Prop where
 al:∃o,ops[n]?=some o/\o.dst=some s.t/\o.guard=none/\o.op=.alloc s.e
 st:∃o,ops[n+1]?=some o/\o.dst=none/\o.guard=none/\o.op=.store s.e (.tmp s.t) (.tmp s.tx)/\edgeTo o n/\edgeTo o s.jx
 vx:s.jx<n/\∃o,ops[s.jx]?=some o/\o.dst=some s.tx
 ty:∃ti,T.at s.e=some ti/\ti.size=s.cs.length
 one:∀x∈s.cs,x.one=true
 ne:∀(j:Nat) o,ops[j]?=some o->o.dst=some s.t->j=n
theorem BoxOk1.of {ops:Array Oper}{n:Nat}{s:BoxS}{oa os ox:Oper}{ti:TI}(a1:ops[n]?=some oa)(a2:oa.dst=some s.t/\oa.guard=none/\oa.op=.alloc s.e)(s1:ops[n+1]?=some os)(s2:os.dst=none/\os.guard=none/\os.op=.store s.e (.tmp s.t) (.tmp s.tx))
  (s3:edgeOn os.after.toList n=true) (s4:edgeOn os.after.toList s.jx=true) (v1:Nat.blt s.jx n=true) (v2:ops[s.jx]?=some ox) (v3:ox.dst=some s.tx) (t1:T.at s.e=some ti) (t2:ti.size=s.cs.length) (h1:allOne s.cs=true) (h2:dstOnce s.t n 0 ops.toList=true):BoxOk1 T ops n s where
 al:=⟨oa,a1,a2.1,a2.2.1,a2.2.2⟩
 st:=⟨os,s1,s2.1,s2.2.1,s2.2.2,edgeTo_of s3,edgeTo_of s4⟩
 vx:=⟨Nat.le_of_ble_eq_true v1,ox,v2,v3⟩
 ty:=⟨ti,t1,t2⟩
 one:=allOne_ok h1
 ne j o ho hd:=by
  have:=dstOnce_at h2 j o (by rw[Array.getElem?_toList];exact ho) hd
  omega
def BoxR1 (n0:Nat)(n:Nat)(s:BoxS)(listed:Array Bool)(F:Nat->Prop)(w:World)(tmps:Array Value)(b:Nat):Prop :=
 (listed.getD (n+1) true=true->listed.getD n true=true)/\(listed.getD n true=true->HoldB n0 s.e s.cs.length s.cs (listed.getD (n+1) true) F w (tmps.getD s.t undef) b)
variable {ro:Option Nat}
theorem one_step (hT:TabOk P T){N:Nat}{ops:Array Oper}{n:Nat}{s:BoxS}(hb:BoxOk1 T ops n s)(htN:s.t<N){F0:Nat->Prop}{w0:World}{As:Nat->AV}{env:Env}
  {listed:Array Bool} {a':Act} {w':World} {F':Nat->Prop} {i:Nat} {o:Oper} (hi:i=n\/i=n+1) (ho:ops[i]?=some o) (hl:listed.getD i true=false) (hen:∀e∈o.after,Region.binds .any e=true->listed.getD e.on true=true) (hN:a'.tmps.size=N) (hm:MemOk m σ F' w')
  (hs:Slots ops n env σ As listed F' w' a'.tmps) (hA:As s.jx=.d (.agg s.cs)) (hg:Grew F0 w0 F' w') (hown:∀b,Owned σ b->b<w0.heap.size) (hR:∃b,BoxR1 w0.heap.size n s listed F' w' a'.tmps b) {next:Act->World->Prop} {Q:Exit->Act->World->Prop}
  (hnext:∀v w2,(∀b,F' b->w2.heap[b]?=w'.heap[b]?)->MemOk m σ F' w2->Grew F0 w0 F' w2->(∃b,BoxR1 w0.heap.size n s (listed.setIfInBounds i true) F' w2 (a'.put o.dst v).tmps b)->next (a'.put o.dst v) w2):wpOpIn (Fen ro) 0 P ops Q i next a' w':=by
 obtain⟨ti,hti,hsz⟩:=hb.ty
 obtain⟨b,hR1⟩:=hR
 rcases hi with rfl|rfl
 .obtain⟨o',ho',hdst,hgd,hop⟩:=hb.al
  rw[ho]at ho'
  cases ho'
  have hw:Region.wanted o (yielded ops a'.tmps)=true:=by simp[Region.wanted,hgd]
  unfold wpOpIn
  simp only[ho,hw,if_true]
  obtain⟨us,hus,hrun⟩:=run_alloc_box hT hti w'
  refine wpIn_at (fun d h=>by rw[hop]at h;cases h) ?_
  rw[hrun a' o hop]
  simp only[Oper.uponIn]
  have hkeep:∀x,x<w'.heap.size->(w'.alloc (.cells us.toArray s.e)).heap[x]?=w'.heap[x]?:=fun x hx=>heap_alloc_old w' _ hx
  have hsize:(w'.alloc (.cells us.toArray s.e)).heap.size=w'.heap.size+1:=size_alloc w' _
  have hgr:Grew F' w' F' (w'.alloc (.cells us.toArray s.e)):=⟨rfl,rfl,rfl,Nat.le_refl _,Om,fun x hx=>hkeep x hx,fun _ h=>h,fun _ h=>.inl h,fun x hx=>by have:=hm.fl x hx;omega⟩
  refine hnext _ _ (fun x hx=>hkeep x (hm.fl x hx)) (hgr.mem hm) (hg.trans hgr) ⟨w'.heap.size,⟨fun h=>listed_self,fun _=>?_⟩⟩
  have hns:listed.getD (i+1) true=false:=by
   cases h:listed.getD (i+1) true with
   |false=>rfl
   |true=>rw[hR1.1 h]at hl;cases hl
  rw[listed_set Om,hns,hdst,put_eq (by rw[hN];exact htN)]
  exact⟨rfl,hg.size,Om,fun h=>by have:=hm.fl _ h;omega,us,heap_alloc_new w' _,Om,fun h=>by cases h⟩
 .obtain⟨o',ho',hdst,hgd,hop,⟨e1,he1,heq1,hbi1⟩,⟨e2,he2,heq2,hbi2⟩⟩:=hb.st
  rw[ho]at ho'
  cases ho'
  have hw:Region.wanted o (yielded ops a'.tmps)=true:=by simp[Region.wanted,hgd]
  have hlc:listed.getD n true=true:=by have:=hen e1 he1 hbi1;rwa [heq1]at this
  have hlj:listed.getD s.jx true=true:=by have:=hen e2 he2 hbi2;rwa [heq2]at this
  obtain⟨hjn,oj,hoj,hdj⟩:=hb.vx
  have hval:=(hs s.tx).1 s.jx oj hjn hoj hdj hlj
  rw[hA]at hval
  obtain⟨V,hV⟩:∃V,a'.tmps.getD s.tx undef=V:=⟨_,rfl⟩
  rw[hV]at hval
  have hval:Rd w' F' (.agg s.cs) V:=by cases hval with|d h=>exact h
  obtain⟨hv,hn0,hlt,hnF,us,hheap,hlen,hst⟩:=hR1.2 hlc
  unfold wpOpIn
  simp only[ho,hw,if_true]
  refine wpIn_at (fun d h=>by rw[hop]at h;cases h) ?_
  obtain⟨vs,hvl,hvr,hrun⟩:=run_store_box hT hti hsz hb.one hval hheap hlen
  have hex:(execOp a'.eval o).run P w'=.ok .skip (w'.setRow b vs.toArray):=by
   have e3:a'.eval (.tmp s.t)=.pointer (some ⟨b,0,none⟩):=hv
   have e4:a'.eval (.tmp s.tx)=V:=hV
   simp[execOp,hop,e3,e4,hrun]
  rw[hex]
  simp only[Oper.uponIn]
  have hoth:∀x,x≠b->(w'.setRow b vs.toArray).heap[x]?=w'.heap[x]?:=fun x hx=>setRow_other w' b x _ hx
  have hsize:(w'.setRow b vs.toArray).heap.size=w'.heap.size:=size_setRow _ _ _
  have hFk:∀x,F' x->(w'.setRow b vs.toArray).heap[x]?=w'.heap[x]?:=fun x hx=>hoth x (fun e=>hnF (e▸hx))
  have hgr:Grew F0 w0 F' (w'.setRow b vs.toArray):=⟨hg.os,hg.tape,hg.output,hg.drawn,by rw[hsize];exact hg.size,fun x hx=>(hoth x Om).trans (hg.keep x hx),hg.fro,hg.fro',fun x hx=>by rw[hsize];exact hg.lt x hx⟩
  refine hnext _ _ hFk (hm.world (by rw[hsize];exact Nat.le_refl _) fun x hx=>?_) hgr ⟨b,⟨fun _=>by rw[listed_set Om];exact hlc,fun _=>?_⟩⟩
  .rcases hx with hx|⟨r,p,t,h1,h2⟩
   .exact hFk x hx
   .exact hoth x (fun e=>by have:=hown x ⟨r,p,t,h1,h2⟩;omega)
  .rw[hdst,put_ne (fun e=>by cases e)]
   exact⟨hv,hn0,by rw[hsize];exact hlt,hnF,vs,setRow_heap w' b us.toArray _ s.e (0,0) hheap,hvl,fun _ j x u hx hu=>⟨(hvr j x u hx hu).1.mono (fun _ h=>h) hFk,(hvr j x u hx hu).2⟩⟩
theorem Awp.one (hT:TabOk P T){id N:Nat}{ops:Array Oper}{env:Env}{Q:Post}(h1:P.follows .mixedOrders=true)(h2:okR ops.toList=true)(hd:dstsIn N ops.toList=true)(pre suf:List Oper)(hsp:ops.toList=pre++suf)(hsuf:suf.length=2)(s0:BoxS)
  (b0:BoxOk1 T ops pre.length s0) (h0N:s0.t<N)
  (h:vcR P T ops.toList m pre env fun E=>get E s0.tx=.d (.agg s0.cs)/\Ev (Q .normal ((s0.t,.d (.pt s0.cs 0))::E) m)):Awp P N (.region id ops true) env m Q :=
 ⟨fun ro lo a w σ F hN hD he hm=>by
  have hown:∀b,Owned σ b->b<w.heap.size:=fun b ⟨r,p,t,e1,e2⟩=>(hm.nf r p b t e1 e2).2
  have hsize:ops.size=pre.length+2:=by
   have:ops.toList.length=ops.size:=Array.length_toList
   rw[<-this,hsp,List.length_append,hsuf]
  refine drawn_tail h1 h2 hT hm hd hsp h hN he (fun listed a' w' F'=>Grew F w F' w'/\∃b,BoxR1 w.heap.size pre.length s0 listed F' w' a'.tmps b) ?_ ?_ ?_ ?_
  .have hrep:∀j,j<ops.size->(Array.replicate ops.size false).getD j true=false:=fun j hj=>by
    rw[getD_list,Array.toList_replicate,List.getElem?_replicate,if_pos hj]
    rfl
   refine⟨Grew.drew hm.fl,0,⟨fun h=>?_,fun h=>?_⟩⟩
   all_goals (rw[hrep _ Om]at h;cases h)
  .rintro listed a' w' F' F2 w2 v i o ⟨hg,b,hR⟩ hg2 hi ho hls hN'
   refine⟨hg.trans hg2,b,fun h=>?_,fun h=>?_⟩
   .rw[listed_set Om]at h⊢
    exact hR.1 h
   .rw[listed_set Om]at h
    rw[listed_set Om,put_ne (fun e=>by have:=b0.ne i o ho e;omega)]
    have hh:=hR.2 h
    exact hh.mono hg2.size hg2.fro hg2.fro' (fun x hx=>hg2.keep x (hg.lt x hx)) (hg2.keep _ hh.2.2.1)
  .rintro As listed a' w' F' i o hE hK hi ho hl hen hls hN' hD' hmw hs ⟨hg,hR⟩ next hnext
   have hiN:i<ops.size:=(Array.getElem?_eq_some_iff.1 ho).1
   have hA0:As s0.jx=.d (.agg s0.cs):=by
    obtain⟨hj,oj,hoj,hdj⟩:=b0.vx
    rw[<-hE s0.jx oj s0.tx hoj hdj hj]
    exact hK.1
   have mono:∀w2:World,(∀b,F' b->w2.heap[b]?=w'.heap[b]?)->∀A u,Vc w' F' σ A u->Vc w2 F' σ A u:=fun w2 hk A u hv=>hv.mono (fun _ h=>h) hk (SLe.refl σ)
   exact one_step hT b0 h0N (show i=pre.length\/i=pre.length+1 by omega) ho hl hen hN' hmw hs hA0 hg hown hR fun v w2 k1 k2 k3 k4=>hnext v w2 F' k2 (mono w2 k1) ⟨k3,k4⟩
  .rintro As a' w' F' ⟨_,hK⟩ hE hN' hD' hmw hs listed hall ⟨hg,b,hR1⟩
   obtain⟨hv0,hn0,hlt0,hnF0,us0,hh0,hl0,hr0⟩:=hR1.2 (hall _ Om)
   rw[hall _ Om]at hr0
   let F2:Nat->Prop:=fun x=>F' x\/x=b
   have hg2:Grew F w F2 w':=⟨hg.os,hg.tape,hg.output,hg.drawn,hg.size,hg.keep,fun x hx=>.inl (hg.fro x hx),fun x hx=>by
    rcases hx with hx|rfl
    .exact hg.fro' x hx
    .exact .inr hn0,fun x hx=>by
    rcases hx with hx|rfl
    .exact hg.lt x hx
    .exact hlt0⟩
   have upF:∀{x u},Rd w' F' x u->Rd w' F2 x u:=fun h=>h.mono (fun _ h=>.inl h) (fun _ _=>rfl)
   have pt:∀(b:Nat) (e:TypeId) (us:List Value) (cs:List D),F2 b->w'.heap[b]?=some (.cells us.toArray e (0,0))->us.length=cs.length->(∀(j:Nat) x u,cs[j]?=some x->us[j]?=some u->Rd w' F' x u/\u.oneCell'=true)->Rd w' F2 (.pt cs 0) (.pointer (some ⟨b,0,none⟩)):=by
    intro b e us cs hF hh hl hr
    have:=Rd.pt (w:=w') (F:=F2) (cs:=cs) (off:=0) ⟨b,0,none⟩ (fun j=>us.getD j undef) hF
     (fun j hj=>by
      have hu:us[j]?=some (us[j]'Om):=List.getElem?_eq_getElem Om
      rw[add_at,Nat.zero_add,cell_of_row w' b j us.toArray e (0,0) hh]
      simp only[List.getD_eq_getElem?_getD,hu,Option.getD_some]
      exact⟨by simp,(hr j _ _ (List.getElem?_eq_getElem hj) hu).2⟩)
     (fun j x hx=>by
      have hj:=(List.getElem?_eq_some_iff.1 hx).1
      have hu:us[j]?=some (us[j]'Om):=List.getElem?_eq_getElem Om
      simp only[List.getD_eq_getElem?_getD,hu,Option.getD_some]
      exact upF (hr j x _ hx hu).1)
    rwa [add_at]at this
   refine⟨_,m,σ,F2,hK.o,hN',by rw[hD'];exact hD.step (hg2.step σ),fun t=>?_,hg2.mem hm,hg2.step σ,SArg.refl σ⟩
   simp only[get]
   cases h0:Nat.beq s0.t t with
   |true =>
    have:=Nat.eq_of_beq_eq_true h0
    subst this
    simp only[cond_true]
    rw[hv0]
    exact .d (pt b _ us0 _ (.inr rfl) hh0 hl0 (hr0 rfl))
   | false =>
    simp only[cond_false]
    refine(hs t fun j o hj ho hdo=>?_).mono (fun _ h=>.inl h) (fun _ _=>rfl) (SLe.refl σ)
    have hjN:j<ops.size:=(Array.getElem?_eq_some_iff.1 ho).1
    rcases show j=pre.length\/j=pre.length+1 by omega with hj|hj
    .obtain⟨o',ho',hdst,_⟩:=b0.al
     rw[<-hj,ho]at ho'
     cases ho'
     rw[hdst]at hdo
     injection hdo with hdo
     exact Nat.ne_of_beq_eq_false h0 hdo
    .obtain⟨o',ho',hdst,_⟩:=b0.st
     rw[<-hj,ho]at ho'
     cases ho'
     rw[hdst]at hdo
     cases hdo⟩
theorem Awp.oneN (hT:TabOk P T){id N:Nat}{ops:Array Oper}{env:Env}{Q:Post}(n:Nat)(s0:BoxS)(h1:P.follows .mixedOrders=true)(h2:okR ops.toList=true)(hd:dstsIn N ops.toList=true)(hsuf:Nat.beq (ops.toList.drop n).length 2=true)
  (b0:BoxOk1 T ops n s0) (h0N:Nat.blt s0.t N=true)
  (h:vcR P T ops.toList m (ops.toList.take n) env fun E=>get E s0.tx=.d (.agg s0.cs)/\Ev (Q .normal ((s0.t,.d (.pt s0.cs 0))::E) m)):Awp P N (.region id ops true) env m Q:=by
 have h4:=Nat.eq_of_beq_eq_true hsuf
 have hl:(ops.toList.take n).length=n:=take_len rfl (fun e=>by rw[e]at h4;cases h4)
 exact Awp.one hT h1 h2 hd (ops.toList.take n) (ops.toList.drop n) (List.take_append_drop _ _).symm h4 s0 (by rw[hl];exact b0) (Nat.le_of_ble_eq_true h0N) h
end
end Go.Ab
set_option linter.unusedSimpArgs false
set_option linter.unusedVariables false
namespace Go.Ab
theorem Awp.vecCell {P:Program}{N:Nat}{cd:Code}{env:Env}{m:Mem}{Q:Post}(r:Ref)(c e0 e sz:Nat)(cs:List AV)(f:Nat->List AV)(hB:m.get r=some (.box e0 cs))(hc:cs[c]?=some (.d .nils))
  (k:Awp P N cd env ((m.add (.vec e sz 0 0 f)).put r (some (.box e0 (cs.set c (.osl m.new 0 0 0))))) Q):Awp P N cd env m Q :=
 ⟨fun ro lo a w σ F hN hD he hm=>by
  let pl:Pl:=⟨0,sz,none⟩
  obtain⟨g1,g2⟩:=fresh_ok (w':=w) (pl:=pl) (B:=.vec e sz 0 0 f) hm (Nat.le_refl _) (fun _ _=>rfl) ⟨rfl,rfl,fun _=>rfl,fun i hi=>absurd hi Om,fun b t h=>by simp[pl]at h⟩ (fun b t h=>by simp[pl]at h)
  have hat:=Mem.get_at hB
  obtain⟨plr,hr⟩:∃plr,σ r=some (some plr):=by
   cases hs:σ r with
   |none=>rw[(hm.dom r).1 hs]at hat;cases hat
   |some q=>cases q with
    |none=>rw[(hm.lv r _ hs).1 rfl]at hat;cases hat
    |some pl=>exact⟨pl,rfl⟩
  have hne:m.new≠r:=fun h=>by
   have:=new_none hm
   rw[h,hr]at this
   cases this
  obtain⟨B,hB',hok⟩:=(hm.lv r _ hr).2 plr rfl
  rw[hat]at hB'
  injection hB' with hB'
  injection hB' with hB'
  subst hB'
  obtain⟨k1,k2,b,k3,us,k4,k5,k6⟩:=hok
  have hcl:c<cs.length:=(List.getElem?_eq_some_iff.1 hc).1
  have hu0:us[c]?=some (us[c]'Om):=List.getElem?_eq_getElem Om
  obtain⟨hu,hu1⟩:=k6 c _ _ hc hu0
  obtain⟨u,hue⟩:∃u,us[c]'Om=u:=⟨_,rfl⟩
  rw[hue]at hu hu0 hu1
  have hun:u=.slice none 0 0:=by cases hu with|d hu=>cases hu;rfl
  subst hun
  have hr1:upd σ m.new (some pl) r=some (some plr):=by rw[upd_other σ _ (fun h=>hne h.symm)];exact hr
  have hsle0:SLe σ (upd (upd σ m.new (some pl)) r (some plr)):=fun r' q hq=>by
   by_cases e1:r'=r
   .subst e1
    rw[hr]at hq
    cases hq
    exact⟨_,upd_self _ _ _,QLe.refl _⟩
   .rw[upd_other _ _ e1]
    exact g2 r' q hq
  obtain⟨q1,q2⟩:=change_ok (B':=.box e0 (cs.set c (.osl m.new 0 0 0))) g1 (w':=w) (pl':=plr) hr1 (Nat.le_refl _) (fun _ _ _=>rfl) ⟨Nat.le_refl _,fun _=>rfl⟩
   ⟨k1,by rw [List.length_set];exact k2,b,k3,us,k4,by rw [List.length_set];exact k5,fun j A u hA hu=>by
    by_cases hj:j=c
    .subst hj
     rw[List.getElem?_set_self hcl]at hA
     cases hA
     rw[hu0]at hu
     cases hu
     refine⟨.osl (q:=some pl) (by rw[upd_other _ _ hne];exact upd_self σ m.new (some pl)) fun p hp=>?_,rfl⟩
     injection hp with hp
     subst hp
     exact⟨Nat.le_refl _,fun _=>⟨rfl,rfl,rfl⟩⟩
    .rw[List.getElem?_set_ne (fun e=>hj e.symm)]at hA
     exact⟨(k6 j A u hA hu).1.mono (fun _ h=>h) (fun _ _=>rfl) hsle0,(k6 j A u hA hu).2⟩⟩
   (fun b' t h=>by rw[k3]at h;cases h;exact⟨(hm.nf r plr _ 1 hr k3).2,.inl ⟨1,k3⟩⟩)
  have hsle:SLe σ (upd (upd σ m.new (some pl)) r (some plr)):=fun r' q hq=>by
   obtain⟨q',e1,e2⟩:=g2 r' q hq
   obtain⟨q'',e3,e4⟩:=q2 r' q' e1
   exact⟨q'',e3,e2.trans e4⟩
  have hst:Step σ F w (upd (upd σ m.new (some pl)) r (some plr)) F w:=⟨rfl,rfl,rfl,Nat.le_refl _,Nat.le_refl _,fun _ _ _=>rfl,fun _ h=>h,fun _ h=>.inl h,fun b' ⟨rf,p,t,h1,h2⟩=>by
   by_cases e1:rf=r
   .subst e1
    rw[upd_self]at h1
    cases h1
    exact .inl ⟨rf,plr,t,hr,h2⟩
   .rw[upd_other _ _ e1]at h1
    by_cases e2:rf=m.new
    .subst e2
     rw[upd_self]at h1
     cases h1
     simp[pl]at h2
    .rw[upd_other σ _ e2]at h1
     exact .inl ⟨rf,p,t,h1,h2⟩⟩
  exact wpIn_mono (k.run ro lo a w _ F hN (hD.step hst) (he.mono (fun _ h=>h) (fun _ _=>rfl) hsle) q1) fun e a2 w2 h5=>lift_trans hst (.of hsle) h5⟩
set_option linter.unusedSimpArgs false
set_option linter.unusedVariables false
theorem Awp.block {P:Program}{N id:Nat}{c:Code}{env:Env}{m:Mem}{Q:Post}(h:Awp P N c env m fun e env m=>match e with
  | .exit i=>(bif Nat.beq i id then Q .normal env m else Q (.exit i) env m)
  | .normal=>Q .normal env m
  | .goto i=>Q (.goto i) env m
  | .ret=>Q .ret env m
  | .panic ch=>Q (.panic ch) env m
  | .outgrown=>Q .outgrown env m):Awp P N (.block id c) env m Q :=
 ⟨fun ro lo a w σ F hN hD he hm=>by
  refine wpIn_block (wpIn_mono (h.run ro lo a w σ F hN hD he hm) ?_)
  rintro e a1 w1 ⟨env1,m1,σ1,F1,k1,k2⟩
  cases e with
  | exit i =>
   simp only[Exit.inBlock]
   cases hi:Nat.beq i id with
   |true =>
    have:=Nat.eq_of_beq_eq_true hi
    subst this
    simp only[if_true]
    simp only[hi,cond_true]at k1
    exact⟨env1,m1,σ1,F1,k1,k2⟩
   |false =>
    rw[if_neg (Nat.ne_of_beq_eq_false hi)]
    simp only[hi,cond_false]at k1
    exact⟨env1,m1,σ1,F1,k1,k2⟩
  |_=>exact⟨env1,m1,σ1,F1,k1,k2⟩⟩
end Go.Ab
set_option linter.unusedSimpArgs false
set_option linter.unusedVariables false
namespace Go.Ab
theorem Rd.none0 {w : World} {F : Nat → Prop} (sz : Nat) (f : Nat → List D) : Rd w F (.sl sz 0 f) (.slice none 0 0) :=
  .sl (g := fun _ _ => undef) ⟨0, 0, none⟩ (Nat.le_refl _) (fun h => absurd h (Nat.lt_irrefl 0)) (fun i hi => absurd hi (Nat.not_lt_zero i)) (fun i j hi => absurd hi (Nat.not_lt_zero i)) (fun i j x hi => absurd hi (Nat.not_lt_zero i))
theorem Awp.datCell {P : Program} {N : Nat} {cd : Code} {env : Env} {m : Mem} {Q : Post} (r : Ref) (c e0 sz : Nat) (cs : List AV) (f : Nat → List D) (hB : m.get r = some (.box e0 cs)) (hc : cs[c]? = some (.d .nils))
    (k : Awp P N cd env (m.put r (some (.box e0 (cs.set c (.d (.sl sz 0 f)))))) Q) : Awp P N cd env m Q :=
  ⟨fun ro lo a w σ F hN hD he hm => by
    have hat := Mem.get_at hB
    obtain ⟨plr, hr⟩ : ∃ plr, σ r = some (some plr) := by
      cases hs : σ r with
      | none => rw [(hm.dom r).1 hs] at hat; cases hat
      | some q => cases q with
        | none => rw [(hm.lv r _ hs).1 rfl] at hat; cases hat
        | some pl => exact ⟨pl, rfl⟩
    obtain ⟨B, hB', hok⟩ := (hm.lv r _ hr).2 plr rfl
    rw [hat] at hB'
    injection hB' with hB'
    injection hB' with hB'
    subst hB'
    obtain ⟨k1, k2, b, k3, us, k4, k5, k6⟩ := hok
    have hcl : c < cs.length := (List.getElem?_eq_some_iff.1 hc).1
    have hu0 : us[c]? = some (us[c]'(by omega)) := List.getElem?_eq_getElem (by omega)
    obtain ⟨hu, hu1⟩ := k6 c _ _ hc hu0
    obtain ⟨u, hue⟩ : ∃ u, us[c]'(by omega) = u := ⟨_, rfl⟩
    rw [hue] at hu hu0 hu1
    have hun : u = .slice none 0 0 := by cases hu with | d hu => cases hu; rfl
    subst hun
    have hsle0 : SLe σ (upd σ r (some plr)) := fun r' q hq => by
      by_cases e1 : r' = r
      · subst e1
        rw [hr] at hq
        cases hq
        exact ⟨_, upd_self _ _ _, QLe.refl _⟩
      · exact ⟨q, by rw [upd_other _ _ e1]; exact hq, QLe.refl q⟩
    obtain ⟨q1, q2⟩ := change_ok (B' := .box e0 (cs.set c (.d (.sl sz 0 f)))) hm (w' := w) (pl' := plr) hr (Nat.le_refl _) (fun _ _ _ => rfl) ⟨Nat.le_refl _, fun _ => rfl⟩
      ⟨k1, by rw [List.length_set]; exact k2, b, k3, us, k4, by rw [List.length_set]; exact k5, fun j A u hA hu => by
        by_cases hj : j = c
        · subst hj
          rw [List.getElem?_set_self hcl] at hA
          cases hA
          rw [hu0] at hu
          cases hu
          exact ⟨.d (Rd.none0 sz f), rfl⟩
        · rw [List.getElem?_set_ne (fun e => hj e.symm)] at hA
          exact ⟨(k6 j A u hA hu).1.mono (fun _ h => h) (fun _ _ => rfl) hsle0, (k6 j A u hA hu).2⟩⟩
      (fun b' t h => by rw [k3] at h; cases h; exact ⟨(hm.nf r plr _ 1 hr k3).2, .inl ⟨1, k3⟩⟩)
    have hst : Step σ F w (upd σ r (some plr)) F w := ⟨rfl, rfl, rfl, Nat.le_refl _, Nat.le_refl _, fun _ _ _ => rfl, fun _ h => h, fun _ h => .inl h, fun b' ⟨rf, p, t, h1, h2⟩ => by
      by_cases e1 : rf = r
      · subst e1
        rw [upd_self] at h1
        cases h1
        exact .inl ⟨rf, plr, t, hr, h2⟩
      · rw [upd_other _ _ e1] at h1
        exact .inl ⟨rf, p, t, h1, h2⟩⟩
    exact wpIn_mono (k.run ro lo a w _ F hN (hD.step hst) (he.mono (fun _ h => h) (fun _ _ => rfl) q2) q1) fun e a2 w2 h5 => lift_trans hst (.of q2) h5⟩
set_option linter.unusedSimpArgs false
set_option linter.unusedVariables false
section
variable {P:Program}{T:Tab}
structure Shut (Ds:List Nat)(w w':World):Prop where
 os:w'.os=w.os
 tape:w'.tape=w.tape
 output:w'.output=w.output
 drawn:w'.drawn=w.drawn
 size:w'.heap.size=w.heap.size
 keep:∀b,b ∉ Ds->w'.heap[b]?=w.heap[b]?
theorem marks_steps {F:Fence}{n:Nat}:∀(Ds:List Nat) (w:World) (fr:Frame) (cs:List Frame),fr.mode=.returning->fr.defers=Ds.map mark->Ds.Nodup->(∀D∈Ds,w.heap[D]?=some (.deferred (some [])))->F.fn fr.fn->F.room (cs.length+1+n) ->
  ∃w',Shut Ds w w'/\StepsIn (Machine.fenced P F) P (lone fr cs w) (lone {fr with defers:=[]} cs w')
 | [],w,fr,cs,hm,hd,_,_,_,_=>⟨w,⟨rfl,rfl,rfl,rfl,rfl,fun _ _=>rfl⟩,by
   have e:({fr with defers:=[]}:Frame)=fr:=by
    rw[List.map_nil]at hd
    rw[<-hd]
   rw[e]
   exact .refl _⟩
 | D :: Ds,w,fr,cs,hm,hd,hn,hD,hF,hr=>by
  rw[List.nodup_cons]at hn
  rw[List.map_cons]at hd
  have hlt:D<w.heap.size:=(Array.getElem?_eq_some_iff.1 (hD D (by simp))).1
  have hmr:fr.mode≠.run:=by rw[hm];exact fun h=>nomatch h
  have h1:=step_collected (P:=P) (cs:=cs) hmr hd rfl (run_takeDeferred (hD D (by simp)))
  have i1:(lone fr cs w).fenced P F:=fenced_out hF hr hmr hd (fun g hg=>by simp[mark,Target.leads]at hg)
  obtain⟨w',hw,hs⟩:=marks_steps Ds (w.putObj D (.deferred none)) {fr with defers:=[]++Ds.map mark} cs hm rfl hn.2 (fun D' hD'=>by
   rw[World.putObj_heap_other (k:=D') (r:=D) (fun e=>hn.1 (by rw[<-e];exact hD'))]
   exact hD D' (by simp[hD'])) hF hr
  refine⟨w',⟨hw.os,hw.tape,hw.output,hw.drawn,hw.size.trans World.putObj_size,fun b hb=>?_⟩,.head i1 h1 hs⟩
  simp only[List.mem_cons,not_or]at hb
  rw[hw.keep b hb.2,World.putObj_heap_other hb.1]
theorem callsDIn_marks {f:FuncId}{fn:Func}{c:Code}{args:Array Value}{w:World}{R:Ending->World->Prop}(hf:P.funcs[f]?=some fn)(hb:fn.body=some c)
  (h:c.wpIn (Fen none) 0 P (fun e a w1=>(e=.normal∨e=.ret)∧∃ Ds:List Nat,a.defers=Ds.map mark∧Ds.Nodup∧(∀ D∈Ds,w1.heap[D]?=some (.deferred (some [])))∧∀ w2,Shut Ds w1 w2→∃ v,(results fn a.tmps).run P w2=.ok v w2∧R (.returned v) w2)
   {tmps:=args++Array.replicate (fn.ntmps-args.size) undef,defers:=[]} w):CallsDIn (Fen none) 0 P f args .returning w fun e u' w'=>u'=.returning/\R e w':=by
 refine⟨trivial,fun c₀ cs hu hr=>?_⟩
 let b:Frame:={(default:Frame) with fn:=f,kind:=.deferred,roundOf:=none}
 have henter:Frame.enter P f args .deferred=b.atR {tmps:=args++Array.replicate (fn.ntmps-args.size) undef,defers:=[]} [.code c]:=by
  simp[Frame.enter,Frame.atR,hf,hb,b]
 have hc:({c₀ with mode:=.returning}:Frame)=c₀:=by rw[<-hu]
 obtain⟨e,a',w',⟨he,Ds,hd,hn,hD,hq⟩,harr⟩:=h b [] (c₀::cs) rfl trivial hr
 rw[<-henter]at harr
 have fin:∀fr:Frame,StepsIn (Machine.fenced P (Fen none)) P (lone (Frame.enter P f args .deferred) (c₀::cs) w) (lone fr (c₀::cs) w')->fr.mode=.returning->fr.defers=a'.defers->fr.tmps=a'.tmps->fr.kind=.deferred->fr.fn=f ->
   ∃e u' w' fr,(u'=FrameMode.returning/\R e w')/\ComesIn (Machine.fenced P (Fen none)) P (lone (Frame.enter P f args .deferred) (c₀::cs) w) (lone fr ({c₀ with mode:=u'}::cs) w') e/\fr.kind=.deferred/\fr.fn=f/\fr.going P w' e:=by
  intro fr hs m1 m2 m3 m4 m5
  obtain⟨w2,hw,hs2⟩:=marks_steps (P:=P) (F:=Fen none) (n:=0) Ds w' fr (c₀::cs) m1 (by rw[m2,hd]) hn hD trivial hr
  obtain⟨v,hv,hR⟩:=hq w2 hw
  exact⟨.returned v,.returning,w2,{fr with defers:=[]},⟨rfl,hR⟩,(by rw[hc];exact StepsIn.trans hs hs2),m4,m5,m1,rfl,fn,by rw[m5];exact hf,by rw[m3];exact hv⟩
 rcases he with rfl|rfl
 .exact fin _ (StepsIn.trans harr (.one (fenced_calm (fr:=b.atR a' []) trivial hr rfl) (stepR_end rfl))) rfl rfl rfl rfl rfl
 .obtain⟨todo,hs⟩:=harr.1 rfl
  exact fin _ hs rfl rfl rfl rfl rfl
def seqs:List Code->Code->Code
 |[],c=>c
 |x::r,c=>.seq x (seqs r c)
noncomputable def vcs (P:Program)(T:Tab)(N:Nat)(l:List Code):Env->Mem->(Env->Mem->Prop)->Prop :=
 List.rec (motive:=fun _=>Env->Mem->(Env->Mem->Prop)->Prop) (fun env m K=>K env m) (fun x _ ih env m K=>vc P T N x env m fun e env m=>match e with
  | .normal=>Ev (ih env m K)
  |_=>False) l
theorem vcs_ok (hT:TabOk P T){N:Nat}{K:Env->Mem->Prop}{ro:Option Nat}{lo:Lo}{c:Code}{R:Exit->Act->World->Prop}:∀(l:List Code) (env:Env) (m:Mem),vcs P T N l env m K->∀(a:Act) (w:World) (σ:Pls) (F:Nat->Prop),a.tmps.size=N->Ctx ro lo a.defers σ F w->EnvOk env w F σ a.tmps->MemOk m σ F w ->
  (∀env' m' a' w' σ' F',K env' m'->a'.tmps.size=N->Ctx ro lo a'.defers σ' F' w'->EnvOk env' w' F' σ' a'.tmps->MemOk m' σ' F' w'->Step σ F w σ' F' w'->c.wpIn (Fen ro) 0 P R a' w')->(seqs l c).wpIn (Fen ro) 0 P R a w
 |[],env,m,h,a,w,σ,F,hN,hD,he,hm,hk=>hk env m a w σ F h hN hD he hm (Step.refl σ F w)
 |x::r,env,m,h,a,w,σ,F,hN,hD,he,hm,hk=>by
  refine wpIn_seq (wpIn_mono ((vc_ok hT x env m _ h).run ro lo a w σ F hN hD he hm) ?_)
  rintro e a1 w1 ⟨env1,m1,σ1,F1,k1,k2,k3,k4,k5,k6,k7⟩
  cases e with
  |normal=>exact vcs_ok hT r env1 m1 k1.o a1 w1 σ1 F1 k2 k3 k4 k5 fun env' m' a' w' σ' F' q1 q2 q3 q4 q5 q6=>hk env' m' a' w' σ' F' q1 q2 q3 q4 q5 (k6.trans q6)
  |_=>exact k1.elim
def MvV (ρ:List Nat)(A A':AV):Prop:=match A' with
 | .junk=>True
 | .d y=>A=.d y
 | .ptr (.arg j) 0 0 o=>match look1 ρ j with
  |some i=>A=.ptr (.loc i) 0 0 o
  |none=>False
 | .fn f [] [.ptr (.arg j) 0 0 o]=>match look1 ρ j with
  |some i=>A=.fn f [] [.ptr (.loc i) 0 0 o]
  |none=>False
 |_=>False
where look1:List Nat->Nat->Option Nat
 |[],_=>none
 |x::_,0=>some x
 |_::r,j+1=>look1 r j
def MvE (ρ:List Nat)(env:Env):Env->Prop
 |[]=>True
 |(t,A)::r=>MvV ρ (get env t) A/\MvE ρ env r
def MvL (ρ:List Nat)(env:Env):List Operand->List AV->Prop
 |[],[]=>True
 |o::r,A::s=>MvV ρ (ev env o) A/\MvL ρ env r s
 |_,_=>False
def MvB (m:Mem):List Nat->List (TypeId × List D)->Prop
 |[],[]=>True
 |i::r,b::s=>m.get (.loc i)=some (.box b.1 (up b.2))/\MvB m r s
 |_,_=>False
def ownB:List (TypeId × List D)->List (Option Blk)
 |[]=>[]
 |b::r=>some (.box b.1 (up b.2))::ownB r
theorem look1_eq:∀(l:List Nat) (j:Nat),MvV.look1 l j=l[j]?
 |[],_=>by simp[MvV.look1]
 |_::_,0=>rfl
 |_::r,j+1=>by simpa[MvV.look1] using look1_eq r j
theorem ownB_at:∀(bs:List (TypeId × List D)) (j:Nat),(ownB bs)[j]?=(bs[j]?).map fun b=>some (.box b.1 (up b.2))
 |[],_=>by simp[ownB]
 |_::_,0=>rfl
 |_::r,j+1=>by simpa[ownB] using ownB_at r j
theorem MvB.at {m:Mem}:∀{ρ:List Nat} {bs:List (TypeId × List D)},MvB m ρ bs->ρ.length=bs.length/\∀(j:Nat) i b,ρ[j]?=some i->bs[j]?=some b->m.get (.loc i)=some (.box b.1 (up b.2))
 |[],[],_=>⟨rfl,fun j i b h=>by simp at h⟩
 |i::r,b::s,h=>by
  obtain⟨h1,h2⟩:=MvB.at h.2
  refine⟨by simp[h1],fun j i' b' hi hb=>?_⟩
  cases j with
  |zero=>simp at hi hb;subst hi;subst hb;exact h.1
  |succ j=>exact h2 j i' b' (by simpa using hi) (by simpa using hb)
 |[],_::_,h=>h.elim
 |_::_,[],h=>h.elim
def mvP (σ:Pls)(ρ:List Nat):Pls:=fun r=>match r with
 | .arg j=>match ρ[j]? with
  |some i=>σ (.loc i)
  |none=>none
 |_=>none
theorem mvV_ok {w:World}{F:Nat->Prop}{σ:Pls}{ρ:List Nat}{A A':AV}{v:Value}(h:MvV ρ A A')(hv:Vc w F σ A v):Vc w F (mvP σ ρ) A' v:=by
 unfold MvV at h
 split at h
 .exact .junk
 .subst h
  cases hv with|d h=>exact .d h
 .rename_i j o
  split at h<;>try exact h.elim
  rename_i i hi
  subst h
  rw[look1_eq]at hi
  cases hv with
  |@ptr _ _ _ _ _ q hr hp=>exact .ptr (q:=q) (by simp only[mvP,hi];exact hr) hp
 .rename_i f j o
  split at h<;>try exact h.elim
  rename_i i hi
  subst h
  rw[look1_eq]at hi
  cases hv with
  | @fn _ _ _ us vs l1 l2 g3 g4 =>
   refine .fn l1 l2 (fun k x u hx hu=>by simp at hx) fun k x u hx hu=>?_
   cases k with
   |zero =>
    simp at hx
    subst hx
    have:=g4 0 _ u rfl hu
    cases this with
    |@ptr _ _ _ _ _ q hr hp=>exact .ptr (q:=q) (by simp only[mvP,hi];exact hr) hp
   |succ k=>simp at hx
 .exact h.elim
theorem mvE_ok {w:World}{F:Nat->Prop}{σ:Pls}{ρ:List Nat}{env:Env}{tmps:Array Value}(he:EnvOk env w F σ tmps):∀{env2:Env},MvE ρ env env2->EnvOk env2 w F (mvP σ ρ) tmps
 |[],_=>fun t=>.junk
 | (t0,A) :: r,h=>fun t=>by
  show Vc w F (mvP σ ρ) (bif Nat.beq t0 t then A else get r t) _
  cases hb:Nat.beq t0 t with
  |true =>
   have:=Nat.eq_of_beq_eq_true hb
   subst this
   exact mvV_ok h.1 (he t0)
  |false=>exact mvE_ok he h.2 t
theorem mvM_ok {w:World}{F:Nat->Prop}{σ:Pls}{m:Mem}{ρ:List Nat}{bs:List (TypeId × List D)}(hm:MemOk m σ F w)(h:MvB m ρ bs)(hn:ρ.Nodup):MemOk ⟨[],ownB bs⟩ (mvP σ ρ) F w:=by
 obtain⟨hl,hat⟩:=h.at
 have hget:∀(j:Nat) i,ρ[j]?=some i->∃b,bs[j]?=some b/\m.at (.loc i)=some (some (.box b.1 (up b.2))):=fun j i hi=>by
  have hj:j<bs.length:=by rw[<-hl];exact(List.getElem?_eq_some_iff.1 hi).1
  exact⟨_,List.getElem?_eq_getElem hj,Mem.get_at (hat j i _ hi (List.getElem?_eq_getElem hj))⟩
 have only:∀r q,mvP σ ρ r=some q->∃j i,r=.arg j/\ρ[j]?=some i/\σ (.loc i)=some q:=fun r q hq=>by
  cases r with
  | arg j =>
   simp only[mvP]at hq
   split at hq
   .rename_i i hi
    exact⟨j,i,rfl,hi,hq⟩
   .cases hq
  |loc j=>cases hq
  |bad=>cases hq
 refine⟨fun r=>?_,fun r q hq=>?_,fun r r' p p' b t t' h1 h2 h3 h4=>?_,fun r p b t h1 h2=>?_,hm.fl,hm.gl⟩
 .cases r with
  | arg j =>
   simp only[mvP,Mem.at,ownB_at]
   cases hi:ρ[j]? with
   |none =>
    have hj:bs.length<=j:=by rw[<-hl];exact List.getElem?_eq_none_iff.1 hi
    simp[hj]
   |some i =>
    obtain⟨b,hb,ha⟩:=hget j i hi
    have:σ (.loc i)≠none:=fun e=>by rw[(hm.dom (.loc i)).1 e]at ha;cases ha
    simp[hb,this]
  |loc j=>simp[mvP,Mem.at]
  |bad=>simp[mvP,Mem.at]
 .obtain⟨j,i,rfl,hi,hs⟩:=only r q hq
  obtain⟨b,hb,ha⟩:=hget j i hi
  obtain⟨h1,h2⟩:=hm.lv (.loc i) q hs
  refine⟨fun e=>?_,fun pl e=>?_⟩
  .have:=h1 e
   rw[ha]at this
   injection this with this
   cases this
  .obtain⟨B,hB,hok⟩:=h2 pl e
   rw[ha]at hB
   injection hB with hB
   injection hB with hB
   subst hB
   refine⟨.box b.1 (up b.2),by simp[Mem.at,ownB_at,hb],?_⟩
   obtain⟨k1,k2,bb,k3,us,k4,k5,k6⟩:=hok
   refine⟨k1,k2,bb,k3,us,k4,k5,fun jj A u hA hu=>?_⟩
   obtain⟨k7,k8⟩:=k6 jj A u hA hu
   obtain⟨x,_,rfl⟩:=up_at hA
   cases k7 with|d h=>exact⟨.d h,k8⟩
 .obtain⟨j,i,rfl,hi,hs⟩:=only r _ h1
  obtain⟨j',i',rfl,hi',hs'⟩:=only r' _ h2
  have:=hm.inj _ _ _ _ _ _ _ hs hs' h3 h4
  injection this with this
  subst this
  obtain⟨g1,g2⟩:=List.getElem?_eq_some_iff.1 hi
  obtain⟨g3,g4⟩:=List.getElem?_eq_some_iff.1 hi'
  rw[(List.getElem?_inj g1 hn).1 (hi.trans hi'.symm)]
 .obtain⟨j,i,rfl,hi,hs⟩:=only r _ h1
  exact hm.nf _ _ _ _ hs h2
def argV:AV->Bool
 | .d _=>true
 | .ptr (.arg _) _ _ _=>true
 | .junk=>true
 |_=>false
theorem argV_ok {w w':World}{F F':Nat->Prop}{σ σ':Pls}(hF:∀b,F b->F' b)(hh:∀b,F b->w'.heap[b]?=w.heap[b]?)(hs:SArg σ σ'){A:AV}{v:Value}(ha:argV A=true)(h:Vc w F σ A v):Vc w' F' σ' A v:=by
 cases h with
 |d h=>exact .d (h.mono hF hh)
 |junk=>exact .junk
 | @ptr r g i off v q hr hp =>
  cases r with
  | arg j =>
   obtain⟨q',h1,h2⟩:=hs j q hr
   refine .ptr h1 fun pl' e=>?_
   obtain⟨pl,e1,e2,e3⟩:=h2 pl' e
   obtain⟨g1,g2⟩:=hp pl e1
   exact⟨Nat.le_trans g1 e2,fun e4=>by
    have:pl.g=g:=by omega
    have e5:=e3 Om
    rw[e5]
    exact g2 this⟩
  |_=>cases ha
 |_=>cases ha
def envT (env:Env):List ResultVar->Env
 |[]=>[]
 | .tmp t::r=>(t,get env t)::envT env r
 | .cell t _::r=>(t,get env t)::envT env r
def argE:Env->Bool
 |[]=>true
 |(_,A)::r=>argV A&&argE r
theorem envT_ok {env:Env}{w:World}{F:Nat->Prop}{σ:Pls}{tmps:Array Value}(he:EnvOk env w F σ tmps):∀rs:List ResultVar,EnvOk (envT env rs) w F σ tmps
 |[],t=>.junk
 | .tmp t0 :: r,t=>by
  show Vc w F σ (bif Nat.beq t0 t then get env t0 else get (envT env r) t) _
  cases hb:Nat.beq t0 t with
  |true =>
   have:=Nat.eq_of_beq_eq_true hb
   subst this
   exact he t0
  |false=>exact envT_ok he r t
 | .cell t0 _ :: r,t=>by
  show Vc w F σ (bif Nat.beq t0 t then get env t0 else get (envT env r) t) _
  cases hb:Nat.beq t0 t with
  |true =>
   have:=Nat.eq_of_beq_eq_true hb
   subst this
   exact he t0
  |false=>exact envT_ok he r t
theorem argE_get:∀{r:Env},argE r=true->∀t,argV (get r t)=true
 |[],_,_=>rfl
 |(t0,A)::r,ha,t=>by
  simp only[argE,Bool.and_eq_true]at ha
  show argV (bif Nat.beq t0 t then A else get r t)=true
  cases hb:Nat.beq t0 t with
  |true=>exact ha.1
  |false=>exact argE_get ha.2 t
theorem argE_ok {w w':World}{F F':Nat->Prop}{σ σ':Pls}(hF:∀b,F b->F' b)(hh:∀b,F b->w'.heap[b]?=w.heap[b]?)(hs:SArg σ σ'){tmps:Array Value}{env:Env}(ha:argE env=true)(he:EnvOk env w F σ tmps):EnvOk env w' F' σ' tmps :=
 fun t=>argV_ok hF hh hs (argE_get ha t) (he t)
def argL:List AV->Bool
 |[]=>true
 |A::r=>argV A&&argL r
theorem argL_at:∀{l:List AV},argL l=true->∀(j:Nat) A,l[j]?=some A->argV A=true
 |[],_,j,A,h=>by simp at h
 |x::r,ha,j,A,h=>by
  simp only[argL,Bool.and_eq_true]at ha
  cases j with
  |zero=>simp at h;subst h;exact ha.1
  |succ j=>exact argL_at ha.2 j A (by simpa using h)
theorem mvL_ok {w:World}{F:Nat->Prop}{σ:Pls}{ρ:List Nat}{env:Env}{a:Act}(he:EnvOk env w F σ a.tmps):∀{caps:List Operand} {As:List AV},MvL ρ env caps As->(caps.map a.eval).length=As.length/\∀(j:Nat) A u,As[j]?=some A->(caps.map a.eval)[j]?=some u->Vc w F (mvP σ ρ) A u
 |[],[],_=>⟨rfl,fun j A u h=>by simp at h⟩
 |o::r,A::s,h=>by
  obtain⟨h1,h2⟩:=mvL_ok he h.2
  refine⟨by simpa using h1,fun j A' u hA hu=>?_⟩
  cases j with
  |zero=>simp at hA hu;subst hA;subst hu;exact mvV_ok h.1 (ev_ok he o)
  |succ j=>exact h2 j A' u (by simpa using hA) (by simpa using hu)
 |[],_::_,h=>h.elim
 |_::_,[],h=>h.elim
theorem mv_owned {σ:Pls}{ρ:List Nat}{b:Nat}(h:Owned (mvP σ ρ) b):Owned σ b:=by
 obtain⟨r,pl,t,h1,h2⟩:=h
 cases r with
 |arg j =>
  simp only[mvP]at h1
  split at h1
  .exact⟨_,pl,t,h1,h2⟩
  .cases h1
 |loc j=>cases h1
 |bad=>cases h1
noncomputable def defQ (P:Program)(T:Tab)(NG:Nat)(cg:Code)(As:List AV)(rs:List ResultVar)(res:List D):Post:=fun e env m=>match e with
 | .normal=>argE (envT env rs)=true/\Ev (vc P T NG cg (envA 0 As) m fun e' _ m'=>match e' with
  | .normal=>FinC T rs res (envT env rs) m'
  | .ret=>FinC T rs res (envT env rs) m'
  |_=>False)
 | .ret=>argE (envT env rs)=true/\Ev (vc P T NG cg (envA 0 As) m fun e' _ m'=>match e' with
  | .normal=>FinC T rs res (envT env rs) m'
  | .ret=>FinC T rs res (envT env rs) m'
  |_=>False)
 |_=>False
theorem pureE_rule (hT:TabOk P T){f:FuncId}{fn:Func}{pre:List Code}{i1:Nat}{o1 o2:Oper}{rest:Code}{N:Nat}{rs:List ResultVar}{args res:List D}
  (hf:P.funcs[f]?=some fn) (hb:fn.body=some (seqs pre (.seq (.region i1 #[o1,o2] false) rest))) (hN:fn.ntmps=N) (hrs:fn.results=rs.toArray) (hname:(fn.name == "runtime.NumGoroutine")=false) (hargs:Nat.ble args.length N=true)
  {G r NG:Nat} {caps:List Operand} {c:Call} {gn:Func} {cg:Code} (hg1:o1.guard=none) (hg2:o2.guard=none) (hd1:o1.dst=some r) (hd2:o2.dst=none) (hr:Nat.blt r N=true)
  (ho1:o1.op=.makeFunc (.func G) #[] caps.toArray) (ho2:o2.op=.defer c) (hc1:c.callee=.value (.tmp r)) (hc2:c.args=#[])
  (hGf:P.funcs[G]?=some gn) (hGb:gn.body=some cg) (hGN:gn.ntmps=NG) (hGname:(gn.name == "runtime.NumGoroutine")=false) (hGr:gn.results=#[]) (hGa:Nat.ble caps.length NG=true)
  (h:Ev (vcs P T N pre (envOf 0 args) ⟨[],[]⟩ fun env m=>∃(ρ:List Nat) (bs:List (TypeId × List D)) (env2:Env) (As:List AV),ρ.Nodup/\MvB m ρ bs/\MvE ρ env env2/\MvL ρ env caps As/\argL As=true/\Ev (vc P T N rest ((r,.junk)::env2) ⟨[],ownB bs⟩ (defQ P T NG cg As rs res)))):Pure P f args res:=by
 refine⟨⟨fn,hf,hname,by simp[hb]⟩,fun F w vals hF hG hl hv=>?_⟩
 refine callsFen.1 (callsIn_of_wp_marks (F:=Fen none) (n:=0) hf hb trivial ?_ rfl)
 let σ0:Pls:=fun _=>none
 have hm0:MemOk ⟨[],[]⟩ σ0 F w:=⟨fun r=>by cases r<;>simp[σ0,Mem.at],fun r q h=>(by cases h),fun r r' p p' b t t' h=>(by cases h),fun r p b t h=>(by cases h),hF,hG⟩
 have hle:=Nat.le_of_ble_eq_true hargs
 refine vcs_ok hT (ro:=none) (lo:=⟨w.heap.size,[]⟩) pre (envOf 0 args) ⟨[],[]⟩ h.o {tmps:=vals.toArray++Array.replicate (fn.ntmps-vals.toArray.size) undef,defers:=[]} w σ0 F (by simp[hN];omega) Ctx.nil (envOf_ok hl hv _) hm0 ?_
 rintro env1 m1 a1 w1 σ1 F1 ⟨ρ,bs,env2,As,hρ,hB,hE,hL,hA,hk⟩ k2 k3 k4 k5 k6
 obtain⟨Ds0,hDs0,hnd0,hD0⟩:=k3.marks
 rw[List.append_nil]at hDs0
 have hm2:=mvM_ok k5 hB hρ
 have he2:=mvE_ok k4 hE
 have hcap:=mvL_ok k4 hL
 refine wpIn_seq (wpIn_region_list ?_)
 let capv:List Value:=caps.map a1.eval
 let d:Deferred:={target:=.fn (.func G) capv.toArray,args:=#[]}
 let V:Value:=.func (.func G) #[] capv.toArray
 have hrN:r<N:=Nat.le_of_ble_eq_true hr
 show wpListIn (Fen none) 0 P #[o1,o2] _ [o1,o2] a1 w1
 refine wpListIn_plain hg1 fun K1 hK1=>wpIn_at (fun c h=>by rw[ho1]at h;cases h) ?_
 have e1:(execOp a1.eval o1).run P w1=.ok (.value V) w1:=by
  simp[execOp,ho1,Instr.makeFunc,V,capv]
 rw[e1]
 show K1 (a1.put o1.dst V) w1
 refine hK1 _ _ (wpListIn_plain hg2 fun K2 hK2=>⟨fun _ _=>trivial,?_⟩)
 have hVr:(a1.put o1.dst V).eval (.tmp r)=V:=by
  simp[hd1,Act.put,Act.eval,Array.getD,k2,hrN]
 have e2:(o2.semAt none (a1.put o1.dst V).eval).run P w1=.ok (.defer d) w1:=by
  rw[Oper.semAt_none]
  simp only[execOp,ho2,resolve,hc1,hc2,hVr]
  simp[Deferred.ofValue,V,d]
 rw[show(Fen none).round=none from rfl,e2]
 show K2 (({a1.put o1.dst V with defers:=d::(a1.put o1.dst V).defers}:Act).put o2.dst undef) w1
 refine hK2 _ _ (wpListIn_nil ?_)
 rw[hd2]
 let a3:Act:={a1.put o1.dst V with defers:=d::(a1.put o1.dst V).defers}
 show rest.wpIn (Fen none) 0 P (bodyPostM (Fen none) 0 P fn _) a3 w1
 have hdf:a3.defers=d::Ds0.map mark:=by
  show d::(a1.put o1.dst V).defers=_
  rw[put_defers,hDs0]
 have hwp:=(vc_ok hT rest ((r,.junk)::env2) ⟨[],ownB bs⟩ _ hk.o).run none ⟨w1.heap.size,d::Ds0.map mark⟩ a3 w1 (mvP σ1 ρ) F1 (by show(a1.put o1.dst V).tmps.size=N;rw[put_size];exact k2)
  ⟨⟨[],by rw [hdf];rfl,List.nodup_nil,fun _ h=>by cases h⟩,Nat.le_refl _,fun _ h=>by cases h⟩ (by
   show EnvOk ((r,.junk)::env2) w1 F1 (mvP σ1 ρ) (a1.put o1.dst V).tmps
   rw[hd1]
   exact put_ok k2 hrN he2 .junk) hm2
 refine wpIn_mono hwp ?_
 rintro e a w2 ⟨env',m',σ',F',q1,q2,q3,q4,q5,q6,q7⟩
 have hD2:∀D∈Ds0,D<w1.heap.size/\w2.heap[D]?=some (.deferred (some []))/\¬ Owned σ' D/\¬ F' D:=fun D hD=>by
  obtain⟨_,g2,g3,g4⟩:=hD0 D hD
  have hlt:=(Array.getElem?_eq_some_iff.1 g2).1
  have hno:¬ Owned (mvP σ1 ρ) D:=fun h=>g3 (mv_owned h)
  refine⟨hlt,(q6.keep D hlt hno).trans g2,fun h=>?_,fun h=>?_⟩
  .rcases q6.own D h with h|h
   .exact hno h
   .omega
  .rcases q6.fro' D h with h|h|h
   .exact g4 h
   .exact hno h
   .omega
 have hend:(argE (envT env' rs)=true∧Ev (vc P T NG cg (envA 0 As) m' fun e' _ m'=>match e' with
   | .normal=>FinC T rs res (envT env' rs) m'
   | .ret=>FinC T rs res (envT env' rs) m'
   |_=>False))->LeavesInM (Fen none) 0 P fn a.tmps (fun e w'=>∃v F',e=.returned v/\Grew F w F' w'/\∀σ,Vc w' F' σ (resAV res) v) a.defers .returning w2:=by
  rintro⟨hargE,hGv⟩
  obtain⟨Ds,hDs,hnd,hD⟩:=q3.marks
  rw[hDs]
  refine leaves_marks' Ds w2 hnd (fun D h=>(hD D h).2.1) fun w' j1 j2 j3 jd j4 j5=>?_
  have kF:∀b,F' b->w'.heap[b]?=w2.heap[b]?:=fun b hb=>j5 b fun hm=>(hD b hm).2.2.2 hb
  have kO:∀b,Owned σ' b->w'.heap[b]?=w2.heap[b]?:=fun b hb=>j5 b fun hm=>(hD b hm).2.2.1 hb
  replace q4:EnvOk env' w' F' σ' a.tmps:=q4.mono (fun _ h=>h) kF (SLe.refl σ')
  replace q5:MemOk m' σ' F' w':=q5.world Om fun b hb=>by
   rcases hb with hb|hb
   .exact kF b hb
   .exact kO b hb
  replace q6:Step (mvP σ1 ρ) F1 w1 σ' F' w':=⟨j1.trans q6.os,j2.trans q6.tape,j3.trans q6.output,Nat.le_trans q6.drawn (Nat.le_of_eq jd.symm),by rw[j4];exact q6.size,fun b hb ho=>(j5 b fun hm=>by have:w1.heap.size<=b:=(hD b hm).1;omega).trans (q6.keep b hb ho),q6.fro,q6.fro',q6.own⟩
  have hD3:∀D∈Ds0,w'.heap[D]?=some (.deferred (some []))/\D<w'.heap.size/\¬ Owned σ' D/\¬ F' D:=fun D hd=>by
   obtain⟨g1,g2,g3,g4⟩:=hD2 D hd
   have g5:w'.heap[D]?=some (.deferred (some [])):=(j5 D fun hm=>by have:w1.heap.size<=D:=(hD D hm).1;omega).trans g2
   exact⟨g5,(Array.getElem?_eq_some_iff.1 g5).1,g3,g4⟩
  have hst1:Step σ0 F w σ' F' w':=(show Step σ0 F w (mvP σ1 ρ) F1 w1 from⟨k6.os,k6.tape,k6.output,k6.drawn,k6.size,k6.keep,k6.fro,k6.fro',fun b hb=>k6.own b (mv_owned hb)⟩).trans q6
  unfold LeavesInM
  refine⟨(fun h=>by cases h),.inr ⟨(fun h=>by cases h),.func G,capv.toArray,G,capv.toArray,rfl,?_,fun _ _=>trivial,?_⟩⟩
  .show(callFunc G (#[]++capv.toArray)).run P w'=_
   rw[run_callFunc ⟨gn,hGf,hGname,by simp[hGb]⟩]
   simp
  .show CallsDIn (Fen none) 0 P G capv.toArray .returning w' _
   have hF1:∀b,F1 b->w'.heap[b]?=w1.heap[b]?:=q6.frozen hm2
   have hAr:ArgsOk w' F' σ' As capv:=⟨hcap.1,fun j A u hA' hu=>argV_ok q6.fro hF1 q7 (argL_at hA j A hA') (hcap.2 j A u hA' hu)⟩
   have hcl:capv.length<=NG:=by
    have:=Nat.le_of_ble_eq_true hGa
    simpa[capv] using this
   have hg:=(vc_ok hT cg (envA 0 As) m' _ hGv.o).run none ⟨w'.heap.size,[]⟩ {tmps:=capv.toArray++Array.replicate (gn.ntmps-capv.toArray.size) undef,defers:=[]} w' σ' F' (by simp[hGN];omega) Ctx.nil (envA_ok hAr _) q5
   refine(callsDIn_marks hGf hGb (R:=fun e w4=>∃v σ4 F4 m4,e=.returned v/\MemOk m4 σ4 F4 w4/\Step σ' F' w' σ4 F4 w4/\SArg σ' σ4/\FinC T rs res (envT env' rs) m4) (wpIn_mono hg ?_)).mono ?_
   .rintro eg ag w3 ⟨envg,mg,σg,Fg,p1,p2,p3,p4,p5,p6,p7⟩
    obtain⟨Dg,hDg,hng,hDD⟩:=p3.marks
    rw[List.append_nil]at hDg
    have hx:(eg=.normal\/eg=.ret)/\FinC T rs res (envT env' rs) mg:=by
     cases eg with
     |normal=>exact⟨.inl rfl,p1⟩
     |ret=>exact⟨.inr rfl,p1⟩
     |_=>exact p1.elim
    refine⟨hx.1,Dg,hDg,hng,fun D h=>(hDD D h).2.1,fun w4 hs=>⟨.tuple #[],by simp[results,hGr],_,σg,Fg,mg,rfl,?_,?_,p7,hx.2⟩⟩
    .refine p5.world (by rw[hs.size];exact Nat.le_refl _) fun b hb=>hs.keep b fun hm=>?_
     rcases hb with hb|hb
     .exact(hDD b hm).2.2.2 hb
     .exact(hDD b hm).2.2.1 hb
    .exact⟨hs.os.trans p6.os,hs.tape.trans p6.tape,hs.output.trans p6.output,Nat.le_trans p6.drawn (Nat.le_of_eq hs.drawn.symm),by rw[hs.size];exact p6.size,fun b hb ho=>(hs.keep b fun hm=>by have:w'.heap.size<=b:=(hDD b hm).1;omega).trans (p6.keep b hb ho),p6.fro,p6.fro',p6.own⟩
   .rintro e u' w4 ⟨rfl,v,σ4,F4,m4,rfl,r1,r2,r3,r4⟩
    show LeavesInM (Fen none) 0 P fn a.tmps _ (Ds0.map mark) .returning w4
    have hD4:∀D∈Ds0,w4.heap[D]?=some (.deferred (some []))/\¬ Owned σ4 D/\¬ F4 D:=fun D hd=>by
     obtain⟨g1,g2,g3,g4⟩:=hD3 D hd
     refine⟨(r2.keep D g2 g3).trans g1,fun h=>?_,fun h=>?_⟩
     .rcases r2.own D h with h|h
      .exact g3 h
      .omega
     .rcases r2.fro' D h with h|h|h
      .exact g4 h
      .exact g3 h
      .omega
    refine leaves_marks Ds0 w4 hnd0 (fun D h=>(hD4 D h).1) fun w5 i1 i2 i3 id i4 i5=>?_
    have kF5:∀b,F4 b->w5.heap[b]?=w4.heap[b]?:=fun b hb=>i5 b fun hm=>(hD4 b hm).2.2 hb
    have kO5:∀b,Owned σ4 b->w5.heap[b]?=w4.heap[b]?:=fun b hb=>i5 b fun hm=>(hD4 b hm).2.1 hb
    replace r1:MemOk m4 σ4 F4 w5:=r1.world Om fun b hb=>by
     rcases hb with hb|hb
     .exact kF5 b hb
     .exact kO5 b hb
    have hF4:∀b,F' b->w5.heap[b]?=w'.heap[b]?:=fun b hb=>(kF5 b (r2.fro b hb)).trans (r2.frozen q5 b hb)
    have he5:EnvOk (envT env' rs) w5 F4 σ4 a.tmps:=argE_ok r2.fro hF4 r3 hargE (envT_ok q4 rs)
    obtain⟨vs,g1,g2,g3⟩:=finC_ok hT r1 he5 rs res r4
    have hst:=hst1.trans r2
    have hrun:(results fn a.tmps).run P w5=.ok (if h:vs.toArray.size=1 then vs.toArray[0] else .tuple vs.toArray) w5:=by
     have e:results fn a.tmps=(do let vs <-fn.results.mapM (resOne a.tmps);pure (if h:vs.size=1 then vs[0] else .tuple vs)):=by
      unfold results
      congr 1
     rw[e,hrs,Array.mapM_eq_mapM_toList]
     simp[g1]
    have hsz:w.heap.size<=w4.heap.size:=hst.size
    refine⟨_,hrun,_,Given F4 σ4,rfl,⟨i1.trans hst.os,i2.trans hst.tape,i3.trans hst.output,Nat.le_trans hst.drawn (Nat.le_of_eq id.symm),by rw[i4];exact hst.size,fun b hb=>?_,fun b hb=>.inl (hst.fro b hb),fun b hb=>?_,fun b hb=>?_⟩,fun σ=>?_⟩
    .have h4:=hst.keep b hb (fun⟨r,p,t,h1,_⟩=>by cases h1)
     rw[<-h4]
     refine i5 b fun hm=>?_
     -- a mark of ours is no block from before
     exact absurd hb (Nat.not_lt.2 (hD0 b hm).1)
    .rcases hb with hb|hb
     .rcases hst.fro' b hb with h1|⟨r,p,t,h1,_⟩|h1
      .exact .inl h1
      .cases h1
      .exact .inr h1
     .rcases hst.own b hb with ⟨r,p,t,h1,_⟩|h1
      .cases h1
      .exact .inr h1
    .rcases hb with hb|⟨r,p,t,h1,h2⟩
     .exact r1.fl b hb
     .exact(r1.nf r p b t h1 h2).2
    .have tup:Vc w5 (Given F4 σ4) σ (.tup (up res)) (.tuple vs.toArray):=.tup (by rw[up_eq,List.length_map,g2]) fun j A u hA hu=>by
      obtain⟨x,hx,rfl⟩:=up_at hA
      exact .d (g3 j x u hx hu)
     match res,vs,g2,g3,tup with
     |[],[],_,_,tup=>simpa[resAV] using tup
     |[x],[v],_,g3,_=>simpa[resAV] using Vc.d (g3 0 x v rfl rfl)
     |x::y::xs,a::b::vs,_,_,tup=>simpa[resAV] using tup
     |[],_::_,h,_,_=>simp at h
     |_::_,[],h,_,_=>simp at h
     |[_],_::_::_,h,_,_=>simp at h
     |_::_::_,[_],h,_,_=>simp at h
 cases e with
 |normal=>exact hend q1
 |ret=>exact hend q1
 |_=>exact q1.elim
end
end Go.Ab
