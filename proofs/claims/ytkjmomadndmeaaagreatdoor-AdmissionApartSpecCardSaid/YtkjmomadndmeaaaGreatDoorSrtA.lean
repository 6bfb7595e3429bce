import Derived.Test.YtkjmomadndmeaaaGreatDoorIntSort
import Derived.Test.YtkjmomadndmeaaaGreatDoorShelfB
import Derived.Test.YtkjmomadndmeaaaGreatDoorRecO
namespace Go.Proofs.YtkjmomadndmeaaaGreatDoor
open Go Go.Ab Go.RowKit Go.Sort Go.Lib Go.Proofs
theorem grew_grow {F F':Nat->Prop}{w w':World}(h:Grew F w F' w'):∃q os',w'=grow (w.drewN q) os':=by
 refine⟨w'.drawn-w.drawn,w'.heap.extract w.heap.size w'.heap.size,?_⟩
 have hh:w'.heap=w.heap++w'.heap.extract w.heap.size w'.heap.size:=by
  apply Array.ext_getElem?
  intro i
  by_cases hi:i<w.heap.size
  .rw[Array.getElem?_append_left hi]
   exact h.keep i hi
  .rw[Array.getElem?_append_right Om,Array.getElem?_extract]
   by_cases hi2:i<w'.heap.size
   .rw[if_pos Om]
    congr 1
    omega
   .rw[if_neg Om,Array.getElem?_eq_none Om]
 have hd:=h.drawn
 have h1:=h.os
 have h2:=h.tape
 have h3:=h.output
 obtain⟨heap,tape,drawn,os,output⟩:=w
 obtain⟨heap',tape',drawn',os',output'⟩:=w'
 simp only at h1 h2 h3 hd hh
 subst h1;subst h2;subst h3
 simp only[grow,World.drewN,World.mk.injEq,and_true,true_and]
 exact⟨hh,Om⟩
theorem heap_sortedK {w:World}{g n:Nat}{os:Array Obj}{cur:Array Value}{e:TypeId}{fr:Nat × Nat}(d:Array Value)(hb:w.heap[g]?=some (.cells cur e fr)) :
 (grow (putRow id (Sort.ahead w n) g 0 d) os).heap[g]?=some (.cells (putCells id 0 d cur) e fr):=by
 have hg:g<w.heap.size:=(Array.getElem?_eq_some_iff.1 hb).1
 rw[heap_grow_old _ _ (by simpa using hg)]
 simp[putRow,mapBlock,Sort.ahead,Array.getElem?_modify,hb,onCells]
theorem grownBy_sortedK {w:World}{g n:Nat}{os:Array Obj}(d:Array Value):w.grownBy (grow (putRow id (Sort.ahead w n) g 0 d) os) (some g):=by
 refine⟨rfl,rfl,rfl,by simp,fun k hk hne=>?_⟩
 rw[heap_grow_old _ _ (by simpa using hk)]
 have:g≠k:=fun e=>hne (by rw[e])
 simp[putRow,mapBlock,Sort.ahead,Array.getElem?_modify,this]
set_option linter.unusedSimpArgs false
set_option linter.unusedVariables false
set_option maxRecDepth 100000
def encAtt (b:Att):List Value:=[.int .i64 b.course,.int .i64 b.term,.int .i64 b.grade,.int .i64 b.campus,.int .i64 b.credits]
def rowsAtt (xs:List Att):Nat->List AV:=fun i=>up (eAtt (xs.getD i default))
theorem ltAtt (x y:Att):ltOf attC x y=decide (attC x y<0):=by
 unfold ltOf
 rfl
theorem swoAtt:SWO (ltOf attC):={irrefl:=fun x=>by rw[ltAtt,decide_eq_false_iff_not,attC_bef,befA_iff];omega,trans:=fun x y z h1 h2=>by rw[ltAtt,decide_eq_true_eq,attC_bef,befA_iff]at *;omega,ntrans:=fun x y z h1 h2=>by rw[ltAtt,decide_eq_false_iff_not,attC_bef,befA_iff]at *;omega}
theorem closureAtt (x y:Att)(W:World)(F:Nat->Prop)(hF:∀b,F b->b<W.heap.size)(hG:GOk F W):Calls Tryz.prog 104 #[.agg (encAtt x).toArray,.agg (encAtt y).toArray] W fun e w'=>e=.returned (.int .i64 (attC x y))/\∃q os',w'=grow (W.drewN q) os':=by
 have hrd:∀z:Att,Rd W F (.agg (eAtt z)) (.agg (encAtt z).toArray):=fun z=>.agg (us:=encAtt z) rfl fun j a u ha hu=>by
  match j with
  |0=>simp[eAtt,encAtt]at ha hu;subst ha;subst hu;exact .int
  |1=>simp[eAtt,encAtt]at ha hu;subst ha;subst hu;exact .int
  |2=>simp[eAtt,encAtt]at ha hu;subst ha;subst hu;exact .int
  |3=>simp[eAtt,encAtt]at ha hu;subst ha;subst hu;exact .int
  |4=>simp[eAtt,encAtt]at ha hu;subst ha;subst hu;exact .int
  |j+5=>simp[eAtt]at ha
 refine((order_ok x y).2 F W [.agg (encAtt x).toArray,.agg (encAtt y).toArray] hF hG rfl fun j a u ha hu=>?_).mono ?_
 .match j with
  |0=>simp at ha hu;subst ha;subst hu;exact hrd x
  |1=>simp at ha hu;subst ha;subst hu;exact hrd y
  |j+2=>simp at ha
 .rintro e w' ⟨v,F',rfl,hg,hv⟩
  have:=hv (fun _=>none)
  have h:=this.int
  subst h
  exact⟨rfl,grew_grow hg⟩
theorem cmpLaysAtt (blk off size:Nat)(w:World)(F:Nat->Prop)(hF:∀b,F b->b<w.heap.size)(hG:GOk F w)(hn:¬ F blk):CmpLays Tryz.prog 104 #[] encAtt 5 attC blk off size w :=
 fun m os dk _ x y=>by
  have hk:∀b,F b->(sortWorldK encAtt 5 w blk off m dk os).heap[b]?=w.heap[b]?:=fun b hb=>by
   have hlt:=hF b hb
   have hne:blk≠b:=fun e=>hn (e▸hb)
   unfold sortWorldK
   rw[heap_grow_old _ _ (by simpa[putRowK,putRow,mapBlock,Sort.ahead] using hlt)]
   simp[putRowK,putRow,mapBlock,Sort.ahead,Array.getElem?_modify,hne]
  refine closureAtt x y _ F (fun b hb=>?_) (hG.mono (fun _ h=>h) hk)
  have:=hk b hb
  rw[Array.getElem?_eq_getElem (hF b hb)]at this
  exact(Array.getElem?_eq_some_iff.1 this).1
theorem sortAtt_ok (zs:List Att)(hz:zs.length<=1000000)(g e:Nat):CallVC Tryz.prog 103 [.osl (.arg 0) g 0 zs.length,.d (.fn (.func 104) [] [])] ⟨[],[some (.vec e 5 g zs.length (rowsAtt zs))]⟩
 (Ret (fun ts:List Att=>([],⟨[],[some (.vec e 5 g zs.length (rowsAtt ts))]⟩)) fun ts=>ts.Perm zs/\ts.Pairwise fun a b=>attC b a<0->False):=by
 refine⟨⟨_,Tryz.func103,rfl,rfl⟩,fun σ F w vals hm ha=>?_⟩
 obtain⟨v,fv,rfl⟩:∃v fv,vals=[v,fv]:=by
  match vals,ha.1 with
  |[v,u],_=>exact⟨v,u,rfl⟩
 have hv:=ha.2 0 _ v rfl rfl
 have hf:=ha.2 1 _ fv rfl rfl
 obtain rfl:fv=.func (.func 104) #[] #[]:=by
  cases hf with
  | d hf=>cases hf with
    | @fn _ _ _ us vs l1 l2 _ _ =>
      have e1:us=[]:=by simpa using l1
      have e2:vs=[]:=by simpa using l2
      subst e1;subst e2
      rfl
 obtain⟨pl,hr,hok,_,hat⟩:=osl_row hm hv rfl
 obtain⟨h1,h2,h3,h4,h5⟩:=hok
 have hsl:=hat h1
 unfold SlAt at hsl
 split at hsl
 .rename_i hl
  obtain⟨hz0,_,rfl⟩:=hsl
  have:=AnyF.slices_SortFunc_none Tryz.sortAtt none 0 (.func (.func 104) #[] #[]) w
  refine Calls.mono (show Calls Tryz.prog 103 _ _ _ from this) ?_
  rintro _ _ ⟨rfl,rfl⟩
  have hzs:zs=[]:=List.length_eq_zero_iff.1 hz0
  subst hzs
  exact⟨_,_,_,σ,F,rfl,⟨[],⟨List.Perm.refl _,List.Pairwise.nil⟩,rfl,rfl⟩,.tup (us:=[]) rfl (fun j x u h=>by simp at h),hm,Step.refl σ F _,SLe.refl σ⟩
 .rename_i b tot hl
  obtain⟨A,cap,rfl,hnc,hoc,hA⟩:=hsl
  obtain⟨hnt,htm,us,hb,hus,hc⟩:=h5 b tot hl
  have:=hA (.inr rfl)
  subst this
  have hcap:cap=tot:=by omega
  subst hcap
  rw[Nat.zero_mul]
  have hbl:b<w.heap.size:=(Array.getElem?_eq_some_iff.1 hb).1
  have hcell:∀i j,i<zs.length->j<5->us[i*5+j]?=some ((encAtt (zs.getD i default))[j]!):=fun i j hi hj=>by
   rcases show j=0\/j=1\/j=2\/j=3\/j=4 by omega with rfl|rfl|rfl|rfl|rfl
   .obtain⟨u,hu,hv,_⟩:=hc i 0 (.d (.int .i64 (zs.getD i default).course)) hi rfl
    rw[hu,hv.int];rfl
   .obtain⟨u,hu,hv,_⟩:=hc i 1 (.d (.int .i64 (zs.getD i default).term)) hi rfl
    rw[hu,hv.int];rfl
   .obtain⟨u,hu,hv,_⟩:=hc i 2 (.d (.int .i64 (zs.getD i default).grade)) hi rfl
    rw[hu,hv.int];rfl
   .obtain⟨u,hu,hv,_⟩:=hc i 3 (.d (.int .i64 (zs.getD i default).campus)) hi rfl
    rw[hu,hv.int];rfl
   .obtain⟨u,hu,hv,_⟩:=hc i 4 (.d (.int .i64 (zs.getD i default).credits)) hi rfl
    rw[hu,hv.int];rfl
  have hH:HoldsK encAtt 5 w b 0 zs.toArray:=by
   intro j hj
   rw[size_flatK]at hj
   have hj':j<zs.length*5:=by simpa using hj
   refine⟨?_,by simp[World.frozen?,hb]⟩
   have hc2:=hcell (j / 5) (j % 5) Om Om
   rw[show j / 5*5+j % 5=j by omega]at hc2
   have e1:(flatK encAtt 5 zs.toArray)[j]! = (encAtt (zs.getD (j / 5) default))[j % 5]!:=by
    rw[get_flatK _ _ _ _ hj]
    have:zs.toArray[j / 5]! = zs.getD (j / 5) default:=by
     rw[getElem!_pos _ _ (by simp;omega)]
     simp[List.getD_eq_getElem?_getD,show j / 5<zs.length by omega]
    rw[this]
   rw[e1]
   simp only[World.cell?,hb,Nat.zero_add,Option.isSome_none,Bool.false_eq_true,if_false]
   simpa using hc2
  have eg:∀args w,(callFunc 104 args).run Tryz.prog w=.ok (.enter 104 args) w:=enters_of Tryz.func104 Kr rfl
  have hti:tiIs Tryz.prog 128 _=true:=hT 128 _ rfl
  have hcon:=AnyQ.slices_SortFunc Tryz.sortAtt 5 (fun w=>Go.Ab.run_isAgg hti w) (fun w=>Go.Ab.run_sizeOf hti w) encAtt (fun _=>rfl) (fun x v hv=>by simp[encAtt]at hv;rcases hv with rfl|rfl|rfl|rfl|rfl<;>rfl) attC swoAtt 104 #[] b 0 cap zs.toArray w eg (cmpLaysAtt b 0 _ w F hm.fl hm.gl (hm.nf _ _ _ _ hr hl).1) hH hbl (by simp;omega)
  have hsz:zs.toArray.size=zs.length:=by simp
  rw[hsz]at hcon
  refine Calls.mono (show Calls Tryz.prog 103 _ _ _ from hcon) ?_
  rintro _ w' ⟨rfl,d',n,os,hp,hs,rfl⟩
  obtain⟨p1,_,p3⟩:=hp
  rw[hsz]at p1
  have hlen:d'.toList.length=zs.length:=by rw[Array.length_toList,p1]
  have hperm:d'.toList.Perm zs:=by
   have e1:d'.extract 0 zs.length=d':=by rw[<-p1];exact Array.extract_size
   have e2:zs.toArray.extract 0 zs.length=zs.toArray:=by rw[<-hsz];exact Array.extract_size
   rw[e1,e2]at p3
   simpa using p3
  have hsorted:d'.toList.Pairwise fun a b=>attC b a<0->False:=by
   rw[List.pairwise_iff_getElem]
   intro i j hi hj hij
   have hi':i<d'.size:=by simpa using hi
   have hj':j<d'.size:=by simpa using hj
   have:=hs i j (Nat.zero_le _) hij Om
   rw[ltAtt,getElem!_pos d' j hj',getElem!_pos d' i hi',decide_eq_false_iff_not]at this
   simp only[Array.getElem_toList]
   omega
  have hnew:=heap_sortedK (n:=n) (os:=os) (flatK encAtt 5 d') hb
  have hgr:=grownBy_sortedK (w:=w) (g:=b) (n:=n) (os:=os) (flatK encAtt 5 d')
  have hdr:w.drawn<=(grow (putRow id (Sort.ahead w n) b 0 (flatK encAtt 5 d')) os).drawn:=by
   show w.drawn<=(putRow id (Sort.ahead w n) b 0 (flatK encAtt 5 d')).drawn
   simp[putRow,mapBlock,Sort.ahead]
  have hB:BlkOk (grow (putRow id (Sort.ahead w n) b 0 (flatK encAtt 5 d')) os) F σ (.vec e 5 g d'.toList.length (rowsAtt d'.toList)) pl:=by
   refine⟨h1,h2,fun h=>(by rw[hl]at h;cases h),fun i _=>rfl,fun b' t' hl'=>?_⟩
   rw[hl]at hl'
   injection hl' with hl'
   injection hl' with e1 e2
   subst e1;subst e2
   refine⟨Om,htm,(putCells id 0 (flatK encAtt 5 d') us.toArray).toList,by simpa using hnew,by simp[putCells,hus],fun i j A hi hA=>?_⟩
   have hcells:∀t,t<d'.size*5->(putCells id 0 (flatK encAtt 5 d') us.toArray).toList[t]?=some ((encAtt d'[t / 5]!)[t % 5]!):=fun t ht=>by
    have h8:t<us.length:=by omega
    rw[Array.getElem?_toList]
    have h10:=get_flatK encAtt 5 d' t ht
    have h9:t<(flatK encAtt 5 d').size:=by rw[size_flatK];exact ht
    rw[getElem!_pos _ t h9]at h10
    have h11:(putCells id 0 (flatK encAtt 5 d') us.toArray)[t]?=some ((flatK encAtt 5 d')[t]'h9):=by
     simp[putCells,h8,ht,h9]
    rw[h11,h10]
   have hi':i<d'.size:=by simpa using hi
   have hgd:d'[i]! = d'.toList.getD i default:=by
    rw[getElem!_pos d' i hi']
    simp[List.getD_eq_getElem?_getD,hi']
   match j with
   | 0 =>
     simp only[rowsAtt,eAtt,up,List.getElem?_cons_zero,List.getElem?_cons_succ,Option.some.injEq]at hA
     subst hA
     refine⟨_,hcells (i*5+0) Om,?_,?_⟩
     .rw[show(i*5+0) / 5=i by omega,show(i*5+0) % 5=0 by omega,hgd]
      exact .d .int
     .rw[show(i*5+0) / 5=i by omega,show(i*5+0) % 5=0 by omega]
      rfl
   | 1 =>
     simp only[rowsAtt,eAtt,up,List.getElem?_cons_zero,List.getElem?_cons_succ,Option.some.injEq]at hA
     subst hA
     refine⟨_,hcells (i*5+1) Om,?_,?_⟩
     .rw[show(i*5+1) / 5=i by omega,show(i*5+1) % 5=1 by omega,hgd]
      exact .d .int
     .rw[show(i*5+1) / 5=i by omega,show(i*5+1) % 5=1 by omega]
      rfl
   | 2 =>
     simp only[rowsAtt,eAtt,up,List.getElem?_cons_zero,List.getElem?_cons_succ,Option.some.injEq]at hA
     subst hA
     refine⟨_,hcells (i*5+2) Om,?_,?_⟩
     .rw[show(i*5+2) / 5=i by omega,show(i*5+2) % 5=2 by omega,hgd]
      exact .d .int
     .rw[show(i*5+2) / 5=i by omega,show(i*5+2) % 5=2 by omega]
      rfl
   | 3 =>
     simp only[rowsAtt,eAtt,up,List.getElem?_cons_zero,List.getElem?_cons_succ,Option.some.injEq]at hA
     subst hA
     refine⟨_,hcells (i*5+3) Om,?_,?_⟩
     .rw[show(i*5+3) / 5=i by omega,show(i*5+3) % 5=3 by omega,hgd]
      exact .d .int
     .rw[show(i*5+3) / 5=i by omega,show(i*5+3) % 5=3 by omega]
      rfl
   | 4 =>
     simp only[rowsAtt,eAtt,up,List.getElem?_cons_zero,List.getElem?_cons_succ,Option.some.injEq]at hA
     subst hA
     refine⟨_,hcells (i*5+4) Om,?_,?_⟩
     .rw[show(i*5+4) / 5=i by omega,show(i*5+4) % 5=4 by omega,hgd]
      exact .d .int
     .rw[show(i*5+4) / 5=i by omega,show(i*5+4) % 5=4 by omega]
      rfl
   |j+5=>simp[rowsAtt,eAtt,up]at hA
  rw[hlen]at hB
  obtain⟨g1,g2⟩:=mem1 hm hr hl hgr hdr hB
  exact⟨_,_,_,σ,F,rfl,⟨d'.toList,⟨hperm,hsorted⟩,rfl,rfl⟩,.tup (us:=[]) rfl (fun j x u h=>by simp at h),g1,g2,SLe.refl σ⟩
end Go.Proofs.YtkjmomadndmeaaaGreatDoor
