import Derived.Test.YtkjmomadndmeaaaGreatDoorRecO
import Derived.Test.YtkjmomadndmeaaaGreatDoorSrtA
import Derived.Test.YtkjmomadndmeaaaGreatDoorRatA
import Derived.Test.YtkjmomadndmeaaaGreatDoorBookH
import Derived.Test.YtkjmomadndmeaaaGreatDoorRuleE
import Derived.Test.YtkjmomadndmeaaaGreatDoorFrz
import Derived.Test.YtkjmomadndmeaaaGreatDoorOpsH
import Derived.Test.YtkjmomadndmeaaaGreatDoorEngAS
import Derived.Test.YtkjmomadndmeaaaGreatDoorBookI
namespace Go.Proofs.YtkjmomadndmeaaaGreatDoor
set_option linter.unusedSimpArgs false
set_option linter.unusedVariables false
set_option maxRecDepth 100000
open Go Go.Ab Go.RowKit Go.Sort Go.Lib Go.Proofs
def encSen (b:Sen):List Value:=[.int .i64 b.course,.int .i64 b.tries,.int .i64 b.best,.bool b.now]
def rowsSen (xs:List Sen):Nat->List AV:=fun i=>up (eSen (xs.getD i default))
theorem ltSen (x y:Sen):ltOf senC x y=decide (senC x y<0):=by
 unfold ltOf
 rfl
theorem swoSen:SWO (ltOf senC):={irrefl:=fun x=>by rw[ltSen,decide_eq_false_iff_not,senC,cmpI_lt];omega,trans:=fun x y z h1 h2=>by rw[ltSen,decide_eq_true_eq,senC,cmpI_lt]at *;omega,ntrans:=fun x y z h1 h2=>by rw[ltSen,decide_eq_false_iff_not,senC,cmpI_lt]at *;omega}
theorem closureSen (x y:Sen)(W:World)(F:Nat->Prop)(hF:∀b,F b->b<W.heap.size)(hG:GOk F W):Calls Tryz.prog 59 #[.agg (encSen x).toArray,.agg (encSen y).toArray] W fun e w'=>e=.returned (.int .i64 (senC x y))/\∃q os',w'=grow (W.drewN q) os':=by
 have hrd:∀z:Sen,Rd W F (.agg (eSen z)) (.agg (encSen z).toArray):=fun z=>.agg (us:=encSen z) rfl fun j a u ha hu=>by
  match j with
  |0=>simp[eSen,encSen]at ha hu;subst ha;subst hu;exact .int
  |1=>simp[eSen,encSen]at ha hu;subst ha;subst hu;exact .int
  |2=>simp[eSen,encSen]at ha hu;subst ha;subst hu;exact .int
  |3=>simp[eSen,encSen]at ha hu;subst ha;subst hu;exact .bool
  |j+4=>simp[eSen]at ha
 refine((senC_ok x y).2 F W [.agg (encSen x).toArray,.agg (encSen y).toArray] hF hG rfl fun j a u ha hu=>?_).mono ?_
 .match j with
  |0=>simp at ha hu;subst ha;subst hu;exact hrd x
  |1=>simp at ha hu;subst ha;subst hu;exact hrd y
  |j+2=>simp at ha
 .rintro e w' ⟨v,F',rfl,hg,hv⟩
  have:=hv (fun _=>none)
  have h:=this.int
  subst h
  exact⟨rfl,grew_grow hg⟩
theorem cmpLaysSen (blk off size:Nat)(w:World)(F:Nat->Prop)(hF:∀b,F b->b<w.heap.size)(hG:GOk F w)(hn:¬ F blk):CmpLays Tryz.prog 59 #[] encSen 4 senC blk off size w :=
 fun m os dk _ x y=>by
  have hk:∀b,F b->(sortWorldK encSen 4 w blk off m dk os).heap[b]?=w.heap[b]?:=fun b hb=>by
   have hlt:=hF b hb
   have hne:blk≠b:=fun e=>hn (e▸hb)
   unfold sortWorldK
   rw[heap_grow_old _ _ (by simpa[putRowK,putRow,mapBlock,Sort.ahead] using hlt)]
   simp[putRowK,putRow,mapBlock,Sort.ahead,Array.getElem?_modify,hne]
  refine closureSen x y _ F (fun b hb=>?_) (hG.mono (fun _ h=>h) hk)
  have:=hk b hb
  rw[Array.getElem?_eq_getElem (hF b hb)]at this
  exact(Array.getElem?_eq_some_iff.1 this).1
theorem sortSen_ok (zs:List Sen)(hz:zs.length<=1000000)(g e:Nat):CallVC Tryz.prog 58 [.osl (.arg 0) g 0 zs.length,.d (.fn (.func 59) [] [])] ⟨[],[some (.vec e 4 g zs.length (rowsSen zs))]⟩
 (Ret (fun ts:List Sen=>([],⟨[],[some (.vec e 4 g zs.length (rowsSen ts))]⟩)) fun ts=>ts.Perm zs/\ts.Pairwise fun a b=>senC b a<0->False):=by
 refine⟨⟨_,Tryz.func58,rfl,rfl⟩,fun σ F w vals hm ha=>?_⟩
 obtain⟨v,fv,rfl⟩:∃v fv,vals=[v,fv]:=by
  match vals,ha.1 with
  |[v,u],_=>exact⟨v,u,rfl⟩
 have hv:=ha.2 0 _ v rfl rfl
 have hf:=ha.2 1 _ fv rfl rfl
 obtain rfl:fv=.func (.func 59) #[] #[]:=by
  cases hf with
  | d hf=>cases hf with
    | @fn _ _ _ us vs l1 l2 _ _ =>
      have e1:us=[]:=by simpa using l1
      have e2:vs=[]:=by simpa using l2
      subst e1;subst e2
      rfl
 obtain⟨pl,hr,hok,_,hat⟩:=osl_row hm hv rfl
 obtain⟨h1,h2,h3,h4,h5⟩:=hok
 have hsl:=hat h1
 unfold SlAt at hsl
 split at hsl
 .rename_i hl
  obtain⟨hz0,_,rfl⟩:=hsl
  have:=AnyF.slices_SortFunc_none Tryz.sortSen none 0 (.func (.func 59) #[] #[]) w
  refine Calls.mono (show Calls Tryz.prog 58 _ _ _ from this) ?_
  rintro _ _ ⟨rfl,rfl⟩
  have hzs:zs=[]:=List.length_eq_zero_iff.1 hz0
  subst hzs
  exact⟨_,_,_,σ,F,rfl,⟨[],⟨List.Perm.refl _,List.Pairwise.nil⟩,rfl,rfl⟩,.tup (us:=[]) rfl (fun j x u h=>by simp at h),hm,Step.refl σ F _,SLe.refl σ⟩
 .rename_i b tot hl
  obtain⟨A,cap,rfl,hnc,hoc,hA⟩:=hsl
  obtain⟨hnt,htm,us,hb,hus,hc⟩:=h5 b tot hl
  have:=hA (.inr rfl)
  subst this
  have hcap:cap=tot:=by omega
  subst hcap
  rw[Nat.zero_mul]
  have hbl:b<w.heap.size:=(Array.getElem?_eq_some_iff.1 hb).1
  have hcell:∀i j,i<zs.length->j<4->us[i*4+j]?=some ((encSen (zs.getD i default))[j]!):=fun i j hi hj=>by
   rcases show j=0\/j=1\/j=2\/j=3 by omega with rfl|rfl|rfl|rfl
   .obtain⟨u,hu,hv,_⟩:=hc i 0 (.d (.int .i64 (zs.getD i default).course)) hi rfl
    rw[hu,hv.int];rfl
   .obtain⟨u,hu,hv,_⟩:=hc i 1 (.d (.int .i64 (zs.getD i default).tries)) hi rfl
    rw[hu,hv.int];rfl
   .obtain⟨u,hu,hv,_⟩:=hc i 2 (.d (.int .i64 (zs.getD i default).best)) hi rfl
    rw[hu,hv.int];rfl
   .obtain⟨u,hu,hv,_⟩:=hc i 3 (.d (.bool (zs.getD i default).now)) hi rfl
    rw[hu,hv.bool];rfl
  have hH:HoldsK encSen 4 w b 0 zs.toArray:=by
   intro j hj
   rw[size_flatK]at hj
   have hj':j<zs.length*4:=by simpa using hj
   refine⟨?_,by simp[World.frozen?,hb]⟩
   have hc2:=hcell (j / 4) (j % 4) Om Om
   rw[show j / 4*4+j % 4=j by omega]at hc2
   have e1:(flatK encSen 4 zs.toArray)[j]! = (encSen (zs.getD (j / 4) default))[j % 4]!:=by
    rw[get_flatK _ _ _ _ hj]
    have:zs.toArray[j / 4]! = zs.getD (j / 4) default:=by
     rw[getElem!_pos _ _ (by simp;omega)]
     simp[List.getD_eq_getElem?_getD,show j / 4<zs.length by omega]
    rw[this]
   rw[e1]
   simp only[World.cell?,hb,Nat.zero_add,Option.isSome_none,Bool.false_eq_true,if_false]
   simpa using hc2
  have eg:∀args w,(callFunc 59 args).run Tryz.prog w=.ok (.enter 59 args) w:=enters_of Tryz.func59 Kr rfl
  have hti:tiIs Tryz.prog 115 _=true:=hT 115 _ rfl
  have hcon:=AnyQ.slices_SortFunc Tryz.sortSen 4 (fun w=>Go.Ab.run_isAgg hti w) (fun w=>Go.Ab.run_sizeOf hti w) encSen (fun _=>rfl) (fun x v hv=>by simp[encSen]at hv;rcases hv with rfl|rfl|rfl|rfl<;>rfl) senC swoSen 59 #[] b 0 cap zs.toArray w eg (cmpLaysSen b 0 _ w F hm.fl hm.gl (hm.nf _ _ _ _ hr hl).1) hH hbl (by simp;omega)
  have hsz:zs.toArray.size=zs.length:=by simp
  rw[hsz]at hcon
  refine Calls.mono (show Calls Tryz.prog 58 _ _ _ from hcon) ?_
  rintro _ w' ⟨rfl,d',n,os,hp,hs,rfl⟩
  obtain⟨p1,_,p3⟩:=hp
  rw[hsz]at p1
  have hlen:d'.toList.length=zs.length:=by rw[Array.length_toList,p1]
  have hperm:d'.toList.Perm zs:=by
   have e1:d'.extract 0 zs.length=d':=by rw[<-p1];exact Array.extract_size
   have e2:zs.toArray.extract 0 zs.length=zs.toArray:=by rw[<-hsz];exact Array.extract_size
   rw[e1,e2]at p3
   simpa using p3
  have hsorted:d'.toList.Pairwise fun a b=>senC b a<0->False:=by
   rw[List.pairwise_iff_getElem]
   intro i j hi hj hij
   have hi':i<d'.size:=by simpa using hi
   have hj':j<d'.size:=by simpa using hj
   have:=hs i j (Nat.zero_le _) hij Om
   rw[ltSen,getElem!_pos d' j hj',getElem!_pos d' i hi',decide_eq_false_iff_not]at this
   simp only[Array.getElem_toList]
   omega
  have hnew:=heap_sortedK (n:=n) (os:=os) (flatK encSen 4 d') hb
  have hgr:=grownBy_sortedK (w:=w) (g:=b) (n:=n) (os:=os) (flatK encSen 4 d')
  have hdr:w.drawn<=(grow (putRow id (Sort.ahead w n) b 0 (flatK encSen 4 d')) os).drawn:=by
   show w.drawn<=(putRow id (Sort.ahead w n) b 0 (flatK encSen 4 d')).drawn
   simp[putRow,mapBlock,Sort.ahead]
  have hB:BlkOk (grow (putRow id (Sort.ahead w n) b 0 (flatK encSen 4 d')) os) F σ (.vec e 4 g d'.toList.length (rowsSen d'.toList)) pl:=by
   refine⟨h1,h2,fun h=>(by rw[hl]at h;cases h),fun i _=>rfl,fun b' t' hl'=>?_⟩
   rw[hl]at hl'
   injection hl' with hl'
   injection hl' with e1 e2
   subst e1;subst e2
   refine⟨Om,htm,(putCells id 0 (flatK encSen 4 d') us.toArray).toList,by simpa using hnew,by simp[putCells,hus],fun i j A hi hA=>?_⟩
   have hcells:∀t,t<d'.size*4->(putCells id 0 (flatK encSen 4 d') us.toArray).toList[t]?=some ((encSen d'[t / 4]!)[t % 4]!):=fun t ht=>by
    have h8:t<us.length:=by omega
    rw[Array.getElem?_toList]
    have h10:=get_flatK encSen 4 d' t ht
    have h9:t<(flatK encSen 4 d').size:=by rw[size_flatK];exact ht
    rw[getElem!_pos _ t h9]at h10
    have h11:(putCells id 0 (flatK encSen 4 d') us.toArray)[t]?=some ((flatK encSen 4 d')[t]'h9):=by
     simp[putCells,h8,ht,h9]
    rw[h11,h10]
   have hi':i<d'.size:=by simpa using hi
   have hgd:d'[i]! = d'.toList.getD i default:=by
    rw[getElem!_pos d' i hi']
    simp[List.getD_eq_getElem?_getD,hi']
   match j with
   | 0 =>
     simp only[rowsSen,eSen,up,List.getElem?_cons_zero,List.getElem?_cons_succ,Option.some.injEq]at hA
     subst hA
     refine⟨_,hcells (i*4+0) Om,?_,?_⟩
     .rw[show(i*4+0) / 4=i by omega,show(i*4+0) % 4=0 by omega,hgd]
      exact .d .int
     .rw[show(i*4+0) / 4=i by omega,show(i*4+0) % 4=0 by omega]
      rfl
   | 1 =>
     simp only[rowsSen,eSen,up,List.getElem?_cons_zero,List.getElem?_cons_succ,Option.some.injEq]at hA
     subst hA
     refine⟨_,hcells (i*4+1) Om,?_,?_⟩
     .rw[show(i*4+1) / 4=i by omega,show(i*4+1) % 4=1 by omega,hgd]
      exact .d .int
     .rw[show(i*4+1) / 4=i by omega,show(i*4+1) % 4=1 by omega]
      rfl
   | 2 =>
     simp only[rowsSen,eSen,up,List.getElem?_cons_zero,List.getElem?_cons_succ,Option.some.injEq]at hA
     subst hA
     refine⟨_,hcells (i*4+2) Om,?_,?_⟩
     .rw[show(i*4+2) / 4=i by omega,show(i*4+2) % 4=2 by omega,hgd]
      exact .d .int
     .rw[show(i*4+2) / 4=i by omega,show(i*4+2) % 4=2 by omega]
      rfl
   | 3 =>
     simp only[rowsSen,eSen,up,List.getElem?_cons_zero,List.getElem?_cons_succ,Option.some.injEq]at hA
     subst hA
     refine⟨_,hcells (i*4+3) Om,?_,?_⟩
     .rw[show(i*4+3) / 4=i by omega,show(i*4+3) % 4=3 by omega,hgd]
      exact .d .bool
     .rw[show(i*4+3) / 4=i by omega,show(i*4+3) % 4=3 by omega]
      rfl
   |j+4=>simp[rowsSen,eSen,up]at hA
  rw[hlen]at hB
  obtain⟨g1,g2⟩:=mem1 hm hr hl hgr hdr hB
  exact⟨_,_,_,σ,F,rfl,⟨d'.toList,⟨hperm,hsorted⟩,rfl,rfl⟩,.tup (us:=[]) rfl (fun j x u h=>by simp at h),g1,g2,SLe.refl σ⟩
end Go.Proofs.YtkjmomadndmeaaaGreatDoor
namespace Go.Proofs.YtkjmomadndmeaaaGreatDoor
set_option linter.unusedSimpArgs false
set_option linter.unusedVariables false
open Go Go.Ab
set_option maxRecDepth 100000
set_option maxHeartbeats 0
def newQ (p c:Int):Int × Int:=(p / (Nat.gcd p.natAbs c.natAbs:Nat),c / (Nat.gcd p.natAbs c.natAbs:Nat))
theorem newQ_in {p c:Int}(hp:0<=p)(hc:0<c):0<=(newQ p c).1/\(newQ p c).1<=p/\0<(newQ p c).2/\(newQ p c).2<=c/\0<Nat.gcd p.natAbs c.natAbs:=by
 obtain⟨P,rfl⟩:=Int.eq_ofNat_of_zero_le hp
 obtain⟨C,rfl⟩:=Int.eq_ofNat_of_zero_le (Int.le_of_lt hc)
 have hC:0<C:=by omega
 have hg:0<Nat.gcd P C:=Nat.gcd_pos_of_pos_right P hC
 unfold newQ
 rw[Int.natAbs_natCast,Int.natAbs_natCast,<-Int.natCast_ediv,<-Int.natCast_ediv]
 have h1:=Nat.div_le_self P (Nat.gcd P C)
 have h2:=Nat.div_le_self C (Nat.gcd P C)
 have h3:0<C / Nat.gcd P C:=Nat.div_pos (Nat.le_of_dvd hC (Nat.gcd_dvd_right P C)) hg
 dsimp only
 generalize P / Nat.gcd P C=x at h1⊢
 generalize C / Nat.gcd P C=y at h2 h3⊢
 omega
theorem mul_in {x y:Int}(h1:-1073741824<=x/\x<=1073741824)(h2:0<=y/\y<=1073741824):In .i64 (x*y):=by
 rw[in64]
 have e1:x*y<=1073741824*y:=Int.mul_le_mul_of_nonneg_right h1.2 h2.1
 have e2:-1073741824*y<=x*y:=Int.mul_le_mul_of_nonneg_right h1.1 h2.1
 omega
theorem compare1_ok (an ad bn bd:Int)(h1:In .i64 (an*bd))(h2:In .i64 (bn*ad)):Pure Tryz.prog 307 [.pt [di an,di ad] 0,.pt [di bn,di bd] 0] [di (cmpI (an*bd) (bn*ad)),di 0]:=by
 have hC:=cmpI_ok (an*bd) (bn*ad)
 refine pure_rule hT (T:=tab) (N:=15) (rs:=[.tmp 2,.tmp 3]) Tryz.func307 rfl rfl rfl Kr rfl ?_
 (refine gW ?_;intros)
 refine hC.call ?_
 (refine gW ?_;intros)
 exact⟨rfl,rfl,Tt⟩
theorem bothI_ok (an ad bn bd v:Int)(f:FuncId)(ca:chkQ an ad=0)(cb:chkQ bn bd=0)(hp:Pure Tryz.prog f [.pt [di an,di ad] 0,.pt [di bn,di bd] 0] [di v,di 0]) :
 Pure Tryz.prog 306 [.agg [di an,di ad],.agg [di bn,di bd],.fn (.func f) [] [.pt [di an,di ad] 0,.pt [di bn,di bd] 0]] [di v,di 0]:=by
 have za:=chkQ_zero ca
 have zb:=chkQ_zero cb
 have ha:=chk_ok an ad (in64.2 Om) (in64.2 Om)
 have hb:=chk_ok bn bd (in64.2 Om) (in64.2 Om)
 rw[ca]at ha
 rw[cb]at hb
 refine pure_rule hT (T:=tab) (N:=28) (rs:=[.tmp 6,.tmp 7]) Tryz.func306 rfl rfl rfl Kr rfl ?_
 (refine gW ?_;intros)
 refine loop_rule hT (S:=Nat) (fun k=>([(2,.d (.fn (.func f) [] [.pt [di an,di ad] 0,.pt [di bn,di bd] 0])),(6,dV 0),(13,.d (.agg [di an,di ad,di bn,di bd])),(14,dV k)],⟨[],[]⟩)) (fun k=>k<=2) (fun k=>2-k) 0 ?_ ?_ ?_
 .exact lq
 .exact Nat.zero_le _
 .intro k hk
  dsimp only at hk⊢
  rcases show k=0\/k=1\/k=2 by omega with rfl|rfl|rfl
  ·(refine gW ?_;intros)
   refine ha.call ?_
   (refine gW ?_;intros)
   refine⟨1,Dc,Dc,?_⟩
   exact lq
  ·(refine gW ?_;intros)
   refine hb.call ?_
   (refine gW ?_;intros)
   refine⟨2,Dc,Dc,?_⟩
   exact lq
  ·(refine gW ?_;intros)
   refine⟨⟨f,[],[.d (.pt [di an,di ad] 0),.d (.pt [di bn,di bd] 0)],.inr ⟨[],[.pt [di an,di ad] 0,.pt [di bn,di bd] 0],rfl,rfl,rfl⟩,hp.call ?_⟩⟩
   (refine gW ?_;intros)
   exact⟨rfl,rfl,Tt⟩
theorem compare_ok (an ad bn bd:Int)(ca:chkQ an ad=0)(cb:chkQ bn bd=0):Pure Tryz.prog 304 [.agg [di an,di ad],.agg [di bn,di bd]] [di (cmpI (an*bd) (bn*ad)),di 0]:=by
 have za:=chkQ_zero ca
 have zb:=chkQ_zero cb
 have h1:=compare1_ok an ad bn bd (mul_in ⟨za.2.2.1,za.2.2.2⟩ ⟨Om,Om⟩) (mul_in ⟨zb.2.2.1,zb.2.2.2⟩ ⟨Om,Om⟩)
 have hB:=bothI_ok an ad bn bd _ _ ca cb h1
 refine pure_rule hT (T:=tab) (N:=12) (rs:=[.tmp 4,.tmp 5]) Tryz.func304 rfl rfl rfl Kr rfl ?_
 (refine gW ?_;intros)
 refine CallVC.frz [0,1] ?_ (hB.call ?_)
 .exact⟨.d,.d,.fn' Tt ⟨.ptr' rfl ⟨.d,.d,Tt⟩,.ptr' rfl ⟨.d,.d,Tt⟩,Tt⟩,Tt⟩
 (refine gW ?_;intros)
 exact⟨rfl,rfl,Tt⟩
theorem new_ok (p c:Int)(hp:0<=p/\p<=1073741824)(hc:0<c/\c<=1073741824):Pure Tryz.prog 115 [di p,di c] [.agg [di (newQ p c).1,di (newQ p c).2],di 0]:=by
 have hC:=common_ok p c (in64.2 Om) (in64.2 Om)
 have hP:=size_ok p (in64.2 Om)
 have hQ:=size_ok c (in64.2 Om)
 have hq:=newQ_in hp.1 hc.1
 have e1:((p.natAbs:Int).tdiv (Nat.gcd p.natAbs c.natAbs:Nat))=(newQ p c).1:=by
  unfold newQ
  rw[Int.tdiv_eq_ediv_of_nonneg Om,show((p.natAbs:Nat):Int)=p by omega]
 have e2:((c.natAbs:Int).tdiv (Nat.gcd p.natAbs c.natAbs:Nat))=(newQ p c).2:=by
  unfold newQ
  rw[Int.tdiv_eq_ediv_of_nonneg Om,show((c.natAbs:Nat):Int)=c by omega]
 obtain⟨x,hx⟩:∃x,(newQ p c).1=x:=⟨_,rfl⟩
 obtain⟨y,hy⟩:∃y,(newQ p c).2=y:=⟨_,rfl⟩
 rw[hx]at e1
 rw[hy]at e2
 rw[hx,hy]at hq⊢
 clear hx hy
 generalize Nat.gcd p.natAbs c.natAbs=g at hC hq e1 e2
 have i1:In .u64 ((p.natAbs:Int).tdiv (g:Int)):=by rw[e1];refine⟨?_,?_⟩<;>simp[IntKind.min,IntKind.max,IntKind.signed,IntKind.bits]<;>omega
 have i2:In .u64 ((c.natAbs:Int).tdiv (g:Int)):=by rw[e2];refine⟨?_,?_⟩<;>simp[IntKind.min,IntKind.max,IntKind.signed,IntKind.bits]<;>omega
 have w1:IntKind.i64.wrap ((p.natAbs:Int).tdiv (g:Int))=x:=by rw[e1];exact(in64.2 Om).wrap
 have w2:IntKind.i64.wrap ((c.natAbs:Int).tdiv (g:Int))=y:=by rw[e2];exact(in64.2 Om).wrap
 subst e1
 subst e2
 refine pure_rule hT (T:=tab) (N:=45) (rs:=[.cell 4 59,.tmp 5]) Tryz.func115 rfl rfl rfl Kr rfl ?_
 (refine gW ?_;intros)
 refine hC.call ?_
 (refine gW ?_;intros)
 refine qC hP ?_
 (refine gW ?_;intros)
 refine qC hQ ?_
 ((refine xW ?_ ?_)<;>(intros;try rename_i h))
 .rw[decide_eq_false (show ¬ p<0 by omega),decide_eq_false (show ¬ c<0 by omega)]at h
  cases h
 .exact⟨.inl rfl,rfl,Tt⟩
theorem weights_ok (l:List Att):CallVC Tryz.prog 113 [.d (eAtts l)] ⟨[],[]⟩
 (Ret (fun _:Unit=>([.fn (.func 167) [] [lp 0]],⟨[bX 120 [.d (eAtts l)]],[]⟩)) fun _=>True):=by
 refine call_rule hT (T:=tab) (N:=4) (rs:=[.tmp 2]) _ _ Tryz.func113 rfl rfl rfl Kr rfl ?_
 (refine gW ?_;intros)
 exact⟨(),Tt,by repeat' (first|exact Tt|exact rfl|exact Nat.le_refl _|refine And.intro ?_ ?_),rfl⟩
theorem wtsE_ok (rec:Loop)(y:Nat)(l:List Att)(hl:l.length<=1000000)
 (hy:∀ k,k < l.length→YieldVC Tryz.prog y [.d (.int .i64 (l.getD k default).grade),.d (.int .i64 (l.getD k default).credits)] ⟨[],[some (.box 120 [.d (eAtts l)]),some (.box 3 [.d (.int .i64 (earnF l k))]),some (.loop y rec [(2,.ptr (.arg 1) 0 0 0)])]⟩
  (Ret (fun _:Unit=>([.d (.bool true)],⟨[],[bX 120 [.d (eAtts l)],bX 3 [dV (earnF l (k+1))],some (.loop y rec [(2,ap 1)])]⟩)) fun _=>True)) :
 CallVC Tryz.prog 167 [.fn (.yield y) [] [],ap 0] ⟨[],[bX 120 [.d (eAtts l)],bX 3 [dV (earnF l 0)],some (.loop y rec [(2,ap 1)])]⟩
  (Ret (fun _:Unit=>([],⟨[],[bX 120 [.d (eAtts l)],bX 3 [dV (earnF l l.length)],some (.loop y rec [(2,ap 1)])]⟩)) fun _=>True):=by
 refine call_rule hT (T:=tab) (N:=19) (rs:=[]) _ _ Tryz.func167 rfl rfl rfl Kr rfl ?_
 (refine gW ?_;intros)
 refine loop_rule hT (S:=Nat) (fun k=>([(0,.fn (.yield y) [] []),(5,.d (eAtts l)),(6,dV l.length),(7,dV k)],⟨[],[bX 120 [.d (eAtts l)],bX 3 [dV (earnF l k)],some (.loop y rec [(2,ap 1)])]⟩)) (fun k=>k<=l.length) (fun k=>l.length-k) 0 ?_ ?_ ?_
 .exact lq
 .exact Nat.zero_le _
 .intro k hk
  dsimp only at hk⊢
  by_cases hk2:k<l.length
  ·(refine gW ?_;intros)
   refine(hy k hk2).at [.arg 0,.arg 1,.arg 2] rfl ⟨rfl,rfl,rfl,Tt⟩ (fun s' hs'=>⟨rfl,?_⟩)
   (refine gW ?_;intros)
   refine⟨k+1,by show k+1<=l.length;omega,by show l.length-(k+1)<l.length-k;omega,?_⟩
   exact lq
  .obtain rfl:k=l.length:=by omega
   (refine gW ?_;intros)
   exact⟨(),Tt,by repeat' (first|exact Tt|exact rfl|exact Nat.le_refl _|refine And.intro ?_ ?_),rfl⟩
theorem earnF_zero (l:List Att):earnF l 0=0:=by unfold earnF;rw[List.take_zero];rfl
theorem credF_zero (l:List Att):credF l 0=0:=by unfold credF;rw[List.take_zero];rfl
theorem poinF_zero (l:List Att):poinF l 0=0:=by unfold poinF;rw[List.take_zero];rfl
theorem earnF_succ {l:List Att}{k:Nat}(h:k<l.length):earnF l (k+1)=if 0<(l.getD k default).grade then earnF l k+(l.getD k default).credits else earnF l k:=foldl_take_succ _ _ h
theorem credF_succ {l:List Att}{k:Nat}(h:k<l.length):credF l (k+1)=credF l k+(l.getD k default).credits:=foldl_take_succ _ _ h
theorem poinF_succ {l:List Att}{k:Nat}(h:k<l.length):poinF l (k+1)=poinF l k+(l.getD k default).grade*(l.getD k default).credits:=foldl_take_succ _ _ h
theorem earned_ok (l:List Att)(hl:l.length<=1000000)(hf:∀a∈l,fitA a):Pure Tryz.prog 61 [eAtts l] [di (earnF l l.length),di 0]:=by
 have hC:=check15_ok l Om hf
 refine pure_rule hT (T:=tab) (N:=21) (rs:=[.cell 2 3,.tmp 3]) Tryz.func61 rfl rfl rfl Kr rfl ?_
 (refine gW ?_;intros)
 refine hC.call ?_
 (refine gW ?_;intros)
 refine(weights_ok l).at [] rfl Tt (fun _ _=>⟨rfl,?_⟩)
 (refine gW ?_;intros)
 refine Awp.range (caps:=[lp 1]) [(2,lp 0)] (.inl rfl) (nl:=2) (na:=0) ⟨⟨rfl,rfl⟩,Tt⟩ ?_
 intro y rec h1 h2 h3 h4 h5 h6
 refine(wtsE_ok rec y l hl ?_).at [.loc 1,.loc 0,.loc 2] rfl ⟨rfl,by rw[earnF_zero];rfl,rfl,Tt⟩ (fun s hs=>⟨rfl,?_⟩)
 .intro k hk
  have hs:=earnF_succ hk
  have hb:=(sums_in hf k Om).1
  have hg:=(hf _ (getD_mem hk)).2.2.2.2
  obtain⟨e,he⟩:∃e,earnF l k=e:=⟨_,rfl⟩
  rw[he]at hs hb⊢
  obtain⟨e',he'⟩:∃e',earnF l (k+1)=e':=⟨_,rfl⟩
  rw[he']at hs⊢
  obtain⟨gr,hgr⟩:∃gr,(l.getD k default).grade=gr:=⟨_,rfl⟩
  obtain⟨cr,hcr⟩:∃cr,(l.getD k default).credits=cr:=⟨_,rfl⟩
  rw[hgr,hcr]at hs⊢
  rw[hcr]at hg
  refine yieldMono (yield_rule (N:=21) (ps:=[13,14]) (args:=[dV gr,dV cr])
   (bs:=[bX 120 [.d (eAtts l)],bX 3 [dV e]]) (env0:=[(2,ap 1)])
   (fun z:Int=>[bX 120 [.d (eAtts l)],bX 3 [dV z]]) (fun _=>none) (fun z=>z=e') h1 h3 h4 h5 h6 rfl (by simp) ?_ rfl rfl ?_) ?_
  .exact lq
  .refine Awp.of_vc hT ?_
   (refine gW ?_;intros)
   refine Awp.of_vc hT ?_
   by_cases h0:0<gr
   .rw[if_pos h0]at hs
    (refine gW ?_;intros)
    exact⟨e',rfl,rfl,rfl,by rw[hs];repeat' (first|exact Tt|exact rfl|exact Nat.le_refl _|refine And.intro ?_ ?_)⟩
   .rw[if_neg h0]at hs
    (refine gW ?_;intros)
    exact⟨e',rfl,rfl,rfl,by rw[hs];repeat' (first|exact Tt|exact rfl|exact Nat.le_refl _|refine And.intro ?_ ?_)⟩
  .rintro A m' ⟨z,hJ,rfl,rfl⟩
   subst hJ
   refine⟨(),Tt,rfl,?_⟩
   show(⟨[],[some _,some _,some (.loop y (after rec none) _)]⟩:Mem)=_
   rw[after_none h1 h2]
 ·(refine gW ?_;intros)
  refine⟨none,by rw[after_none h1 h2];rfl,?_⟩
  show Sq _ _
  (refine gW ?_;intros)
  exact⟨rfl,rfl,Tt⟩
theorem wtsS_ok (rec:Loop)(y:Nat)(l:List Att)(hl:l.length<=1000000)
 (hy:∀ k,k < l.length→YieldVC Tryz.prog y [.d (.int .i64 (l.getD k default).grade),.d (.int .i64 (l.getD k default).credits)] ⟨[],[some (.box 120 [.d (eAtts l)]),some (.box 3 [.d (.int .i64 (credF l k))]),some (.box 3 [.d (.int .i64 (poinF l k))]),some (.loop y rec [(2,.ptr (.arg 1) 0 0 0),(3,.ptr (.arg 2) 0 0 0)])]⟩
  (Ret (fun _:Unit=>([.d (.bool true)],⟨[],[bX 120 [.d (eAtts l)],bX 3 [dV (credF l (k+1))],bX 3 [dV (poinF l (k+1))],some (.loop y rec [(2,ap 1),(3,ap 2)])]⟩)) fun _=>True)) :
 CallVC Tryz.prog 167 [.fn (.yield y) [] [],ap 0] ⟨[],[bX 120 [.d (eAtts l)],bX 3 [dV (credF l 0)],bX 3 [dV (poinF l 0)],some (.loop y rec [(2,ap 1),(3,ap 2)])]⟩
  (Ret (fun _:Unit=>([],⟨[],[bX 120 [.d (eAtts l)],bX 3 [dV (credF l l.length)],bX 3 [dV (poinF l l.length)],some (.loop y rec [(2,ap 1),(3,ap 2)])]⟩)) fun _=>True):=by
 refine call_rule hT (T:=tab) (N:=19) (rs:=[]) _ _ Tryz.func167 rfl rfl rfl Kr rfl ?_
 (refine gW ?_;intros)
 refine loop_rule hT (S:=Nat) (fun k=>([(0,.fn (.yield y) [] []),(5,.d (eAtts l)),(6,dV l.length),(7,dV k)],⟨[],[bX 120 [.d (eAtts l)],bX 3 [dV (credF l k)],bX 3 [dV (poinF l k)],some (.loop y rec [(2,ap 1),(3,ap 2)])]⟩)) (fun k=>k<=l.length) (fun k=>l.length-k) 0 ?_ ?_ ?_
 .exact lq
 .exact Nat.zero_le _
 .intro k hk
  dsimp only at hk⊢
  by_cases hk2:k<l.length
  ·(refine gW ?_;intros)
   refine(hy k hk2).at [.arg 0,.arg 1,.arg 2,.arg 3] rfl ⟨rfl,rfl,rfl,rfl,Tt⟩ (fun s' hs'=>⟨rfl,?_⟩)
   (refine gW ?_;intros)
   refine⟨k+1,by show k+1<=l.length;omega,by show l.length-(k+1)<l.length-k;omega,?_⟩
   exact lq
  .obtain rfl:k=l.length:=by omega
   (refine gW ?_;intros)
   exact⟨(),Tt,by repeat' (first|exact Tt|exact rfl|exact Nat.le_refl _|refine And.intro ?_ ?_),rfl⟩
theorem sums_ok (l:List Att)(hl:l.length<=1000000)(hf:∀a∈l,fitA a):Pure Tryz.prog 114 [eAtts l] [di (credF l l.length),di (poinF l l.length),di 0]:=by
 have hC:=check15_ok l Om hf
 refine pure_rule hT (T:=tab) (N:=26) (rs:=[.cell 2 3,.cell 3 3,.tmp 4]) Tryz.func114 rfl rfl rfl Kr rfl ?_
 (refine gW ?_;intros)
 refine hC.call ?_
 (refine gW ?_;intros)
 refine(weights_ok l).at [] rfl Tt (fun _ _=>⟨rfl,?_⟩)
 (refine gW ?_;intros)
 refine Awp.range (caps:=[lp 2]) [(2,lp 0),(3,lp 1)] (.inl rfl) (nl:=3) (na:=0) ⟨⟨rfl,rfl⟩,⟨rfl,rfl⟩,Tt⟩ ?_
 intro y rec h1 h2 h3 h4 h5 h6
 refine(wtsS_ok rec y l hl ?_).at [.loc 2,.loc 0,.loc 1,.loc 3] rfl ⟨rfl,by rw[credF_zero];rfl,by rw[poinF_zero];rfl,rfl,Tt⟩ (fun s hs=>⟨rfl,?_⟩)
 .intro k hk
  have hs:=credF_succ hk
  have ht:=poinF_succ hk
  have hb:=(sums_in hf k Om).2
  have hg:=(hf _ (getD_mem hk)).2.2.2.2
  have hr:=(hf _ (getD_mem hk)).2.2.1
  obtain⟨e,he⟩:∃e,credF l k=e:=⟨_,rfl⟩
  obtain⟨p,hp⟩:∃p,poinF l k=p:=⟨_,rfl⟩
  rw[he]at hs hb⊢
  rw[hp]at ht hb⊢
  obtain⟨e',he'⟩:∃e',credF l (k+1)=e':=⟨_,rfl⟩
  obtain⟨p',hp'⟩:∃p',poinF l (k+1)=p':=⟨_,rfl⟩
  rw[he']at hs⊢
  rw[hp']at ht⊢
  obtain⟨gr,hgr⟩:∃gr,(l.getD k default).grade=gr:=⟨_,rfl⟩
  obtain⟨cr,hcr⟩:∃cr,(l.getD k default).credits=cr:=⟨_,rfl⟩
  rw[hcr]at hs hg
  rw[hgr,hcr]at ht⊢
  rw[hgr]at hr
  have m1:0<=gr*cr:=Int.mul_nonneg hr.1 hg.1
  have m2:gr*cr<=12*cr:=Int.mul_le_mul_of_nonneg_right hr.2 hg.1
  refine yieldMono (yield_rule (N:=26) (ps:=[14,15]) (args:=[dV gr,dV cr])
   (bs:=[bX 120 [.d (eAtts l)],bX 3 [dV e],bX 3 [dV p]]) (env0:=[(2,ap 1),(3,ap 2)])
   (fun _:Unit=>[bX 120 [.d (eAtts l)],bX 3 [dV e'],bX 3 [dV p']]) (fun _=>none) (fun _=>True) h1 h3 h4 h5 h6 rfl (by simp) ?_ rfl rfl ?_) ?_
  .exact lq
  .refine Awp.of_vc hT ?_
   (refine gW ?_;intros)
   refine Awp.of_vc hT ?_
   (refine gW ?_;intros)
   exact⟨(),Tt,rfl,rfl,by rw[hs,ht];repeat' (first|exact Tt|exact rfl|exact Nat.le_refl _|refine And.intro ?_ ?_)⟩
  .rintro A m' ⟨_,_,rfl,rfl⟩
   refine⟨(),Tt,rfl,?_⟩
   show(⟨[],[some _,some _,some _,some (.loop y (after rec none) _)]⟩:Mem)=_
   rw[after_none h1 h2]
 ·(refine gW ?_;intros)
  refine⟨none,by rw[after_none h1 h2];rfl,?_⟩
  show Sq _ _
  refine Sq.alt (Awp.le (env':=[(2,lp 0),(3,lp 1)]) (m':=⟨[bX 3 [dV (credF l l.length)],bX 3 [dV (poinF l l.length)]],[]⟩) ?_
   (Awp.seq (Awp.effs (m:=⟨[some (.box 3 [.d (.int .i64 (credF l l.length))]),some (.box 3 [.d (.int .i64 (poinF l l.length))])],[]⟩) hT (by kernel_rfl) (by kernel_rfl) (by kernel_rfl)
    ⟨[bX 3 [dV (credF l l.length)],bX 3 [dV (poinF l l.length)]],[]⟩
    [⟨2,.junk,⟨[bX 3 [dV (credF l l.length)],bX 3 [dV (poinF l l.length)]],[]⟩,[]⟩,⟨3,.junk,⟨[bX 3 [dV (credF l l.length)],bX 3 [dV (poinF l l.length)]],[]⟩,[2]⟩] Kr (fun r=>.inl rfl) ⟨fun r=>.inl rfl,fun r=>.inl rfl,Tt⟩ ?_)))
  .exact lq
  conv=>whnf
  (refine gS ?_;intros)
  refine⟨?_,?_,?_⟩
  .conv=>whnf
   (refine gS ?_;intros)
   exact⟨Tt,rfl⟩
  .conv=>whnf
   (refine gS ?_;intros)
   exact⟨Tt,rfl⟩
  conv=>whnf
  (refine gW ?_;intros)
  refine Awp.of_vc hT ?_
  (refine gW ?_;intros)
  exact⟨rfl,rfl,rfl,Tt⟩
theorem mean15_ok (l:List Att)(hl:l.length<=1000000)(hf:∀a∈l,fitA a):Pure Tryz.prog 62 [eAtts l] [.agg [di (meanZ l).1,di (meanZ l).2],di 0]:=by
 have hS:=sums_ok l hl hf
 obtain⟨_,h2,h3,h4⟩:=sums_in hf l.length (Nat.le_refl _)
 unfold meanZ
 generalize credF l l.length=c at hS h2 h4⊢
 generalize poinF l l.length=p at hS h3 h4⊢
 by_cases hc:c=0
 .rw[if_pos hc]
  refine pure_rule hT (T:=tab) (N:=24) (rs:=[.cell 2 59,.tmp 3]) Tryz.func62 rfl rfl rfl Kr rfl ?_
  (refine gW ?_;intros)
  refine hS.call ?_
  (refine gW ?_;intros)
  exact⟨.inl rfl,rfl,Tt⟩
 .rw[if_neg hc]
  have hN:=new_ok p c Om Om
  refine pure_rule hT (T:=tab) (N:=24) (rs:=[.cell 2 59,.tmp 3]) Tryz.func62 rfl rfl rfl Kr rfl ?_
  (refine gW ?_;intros)
  refine hS.call ?_
  (refine gW ?_;intros)
  refine hN.call ?_
  (refine gW ?_;intros)
  exact⟨.inl rfl,rfl,Tt⟩
end Go.Proofs.YtkjmomadndmeaaaGreatDoor
