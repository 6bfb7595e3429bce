import Derived.Test.YtmlhghddfobmmaaGreatDoorFewB
import Derived.Test.YtmlhghddfobmmaaGreatDoorOpenW
import Derived.Test.YtmlhghddfobmmaaGreatDoorNmG
import Derived.Test.YtmlhghddfobmmaaGreatDoorBookK
import Derived.Test.YtmlhghddfobmmaaGreatDoorBookI
import Derived.Test.YtmlhghddfobmmaaGreatDoorLawNA
import Derived.Test.YtmlhghddfobmmaaGreatDoorRuleA
namespace Go.Proofs.YtmlhghddfobmmaaGreatDoor
set_option linter.unusedSimpArgs false
set_option linter.unusedVariables false
open Go Go.Ab
set_option maxRecDepth 100000
theorem wfR_of {r:Rule}(h1:In1 r)(h2:∀k∈r.kids,wfR k):wfR r:=fun p hp=>by
 rw[preR_eq]at hp
 rcases List.mem_cons.1 hp with rfl|hp
 .exact h1
 .obtain⟨k,hk,hp⟩:=preL_mem.1 hp
  exact wfR_any (h2 k hk) 2 p hp
theorem numO_in {l:List Crs}(hl:∀x∈l,In .i64 x.number)(s:ByteArray){n:Int}(hn:In .i64 n):In .i64 ((numO l s n).getD 0):=by
 unfold numO
 split
 .exact hn
 .split
  .exact hl _ (getD_mem ‹_›)
  .exact in64.2 Dc
theorem wfR_res {l:List Crs}(hl:∀x∈l,In .i64 x.number):∀r:Rule,wfR r->wfR (resR l r):=by
 refine rule_ind fun r ih h=>?_
 obtain⟨⟨a1,a2,a3,a4,a5⟩,h2⟩:=wfR_kids h
 rw[resR_eq]
 refine wfR_of ⟨a1,?_,a3,a4,by show(r.kids.map (resR l)).length<_;rw[List.length_map];exact a5⟩ fun k hk=>?_
 .show In .i64 (refN l r)
  unfold refN
  split
  .exact numO_in hl _ a2
  .exact a2
 .obtain⟨k0,hk0,rfl⟩:=List.mem_map.1 (show k∈r.kids.map (resR l) from hk)
  exact ih k0 hk0 (h2 k0 hk0)
theorem cntX_res (l:List Crs):∀(f:Nat) (r:Rule),cntX f (resR l r)=cntX f r
 |0,r=>rfl
 | f + 1,r=>by
   rw[cntX_succ,cntX_succ,resR_eq]
   show(if 300<(r.kids.map (resR l)).length then 300 else(r.kids.map (resR l)).foldl (stpX f) 1)=_
   rw[List.length_map,List.foldl_map]
   have e:(fun(n:Nat) (k:Rule)=>stpX f n (resR l k))=stpX f:=by
    funext n k
    unfold stpX
    rw[cntX_res l f k]
   rw[e]
theorem resR_name (l:List Crs)(r:Rule):(resR l r).name=r.name:=by
 rw[resR_eq]
 rfl
theorem fewR_res (l:List Crs)(r:Rule):fewR (resR l r)=fewR r:=by
 unfold fewR
 rw[cntX_res,resR_name]
theorem fewX_res (l:List Crs)(x:Crs):fewX (resX l x)=fewX x:=by
 show(fewR (resR l x.need)&&fewR (resR l x.bar))=_
 rw[fewR_res,fewR_res]
 rfl
theorem fewP_res (l:List Crs)(p:Prg):fewP (resP l p)=fewP p:=by
 show(decide ((p.reqs.map (resQ l)).length<=70)&&(p.reqs.map (resQ l)).all fewQ)=_
 rw[List.length_map,List.all_map]
 rfl
theorem fewC_res (c:Cat):fewC (resC c)=fewC c:=by
 have e1:decide (fewL (resC c))=decide (fewL c):=decide_eq_decide.2 (by
  show((c.crs.map (resX c.crs)).length<=8/\(c.same.map (resY c.crs)).length<=8/\(c.prg.map (resP c.crs)).length<=4/\wsum c<=20)↔_
  rw[List.length_map,List.length_map,List.length_map]
  exact Iff.rfl)
 have e2:(resC c).crs.all fewX=c.crs.all fewX:=by
  show(c.crs.map (resX c.crs)).all fewX=_
  rw[List.all_map]
  exact congrArg (fun f=>c.crs.all f) (funext fun x=>fewX_res c.crs x)
 have e3:(resC c).prg.all fewP=c.prg.all fewP:=by
  show(c.prg.map (resP c.crs)).all fewP=_
  rw[List.all_map]
  exact congrArg (fun f=>c.prg.all f) (funext fun x=>fewP_res c.crs x)
 unfold fewC
 rw[e1,e2,e3]
theorem few_of {c:Cat}(h:fewC c=true):(c.crs.length<=8/\c.same.length<=8/\c.prg.length<=4/\wsum c<=20)/\(∀x∈c.crs,fewX x=true)/\∀p∈c.prg,fewP p=true:=by
 unfold fewC at h
 rw[Bool.and_eq_true,Bool.and_eq_true,decide_eq_true_eq]at h
 exact⟨h.1,List.all_eq_true.1 h.2.1,List.all_eq_true.1 h.2.2⟩
section
variable {c:Cat}(h:okCat c)
include h
theorem catW_of:CatW c:=by
 obtain⟨⟨h1,h2⟩,⟨h3,_⟩,⟨h5,h6⟩,_⟩:=h
 exact⟨h1,fun x hx=>(h2 x hx).1,h3,h5,fun p hp=>⟨(h6 p hp).2.1.1,fun q hq=>((h6 p hp).2.1.2 q hq).1⟩⟩
theorem catE_of:CatE c:=by
 obtain⟨⟨h1,h2⟩,⟨h3,_⟩,⟨h5,h6⟩,⟨h7,_⟩,h9,⟨h10,_⟩,h12⟩:=h
 exact⟨h1,fun x hx=>⟨(h2 x hx).1.1.1,(h2 x hx).1.2.1⟩,h3,h5,fun p hp=>⟨(h6 p hp).2.1.1,fun q hq=>((h6 p hp).2.1.2 q hq).1⟩,h7,h9,h10,h12⟩
theorem wfSys_of:wfSys (sysC c):=by
 obtain⟨_,_,_,h7,h9,h10,h12⟩:=h
 exact⟨h7,h10,h9,h12⟩
theorem wfPrg_of:∀p∈c.prg,wfPrg p:=fun p hp=>by
 obtain⟨_,_,⟨_,h6⟩,_⟩:=h
 obtain⟨g1,g2,_⟩:=h6 p hp
 exact⟨g1.1,g1.2,g2.1,fun q hq=>(g2.2 q hq).1.2⟩
theorem wfCrs_of:∀x∈c.crs,wfCrs x:=fun x hx=>by
 obtain⟨⟨_,h2⟩,_⟩:=h
 exact⟨(h2 x hx).1.1.1,(h2 x hx).1.2.1⟩
theorem wfBok_of:wfBok ⟨c.crs,c.prg,[sysC c]⟩ :=
 ⟨⟨h.1.1,wfCrs_of h⟩,⟨h.2.2.1.1,wfPrg_of h⟩,by show(1:Nat)<=_;decide,fun s hs=>by rw[List.mem_singleton.1 hs];exact wfSys_of h⟩
theorem catF_of (hf:fewC c=true):CatF c:=by
 obtain⟨⟨f1,f2,f3,_⟩,f5,f6⟩:=few_of hf
 obtain⟨_,_,⟨_,h6⟩,⟨h7,_⟩,h9,⟨h10,_⟩,_⟩:=h
 refine⟨Om,Om,Om,h7,h9,h10,fun x hx=>?_,fun p hp=>⟨?_,fun q hq=>⟨?_,((h6 p hp).2.1.2 q hq).1.2⟩⟩⟩
 .have:=f5 x hx
  unfold fewX at this
  rw[Bool.and_eq_true]at this
  exact⟨fewR_cnt this.1,fewR_cnt this.2⟩
 .have:=f6 p hp
  unfold fewP at this
  rw[Bool.and_eq_true,decide_eq_true_eq]at this
  omega
 .have:=f6 p hp
  unfold fewP at this
  rw[Bool.and_eq_true]at this
  have:=List.all_eq_true.1 this.2 q hq
  unfold fewQ at this
  rw[decide_eq_true_eq]at this
  omega
end
theorem smCrs_of {c:Cat}(_:okCat c)(hf:fewC c=true):∀x∈c.crs,smCrs x:=fun x hx=>by
 have:=(few_of hf).2.1 x hx
 unfold fewX at this
 rw[Bool.and_eq_true]at this
 exact⟨fewR_cnt this.1,fewR_cnt this.2⟩
section
variable {c:Cat}(h:okCat c)
include h
theorem okCat_res:okCat (resC c):=by
 obtain⟨⟨h1,h2⟩,⟨h3,h4⟩,⟨h5,h6⟩,h7⟩:=h
 have hl:∀x∈c.crs,In .i64 x.number:=fun x hx=>(h2 x hx).2.1
 have hR:∀r,okRule r->okRule (resR c.crs r):=fun r hr=>⟨wfR_res hl r hr.1,by rw[resR_name];exact hr.2⟩
 refine⟨⟨?_,fun y hy=>?_⟩,⟨?_,fun y hy=>?_⟩,⟨?_,fun y hy=>?_⟩,h7⟩
 .show(c.crs.map (resX c.crs)).length<=_
  rw[List.length_map]
  exact h1
 .obtain⟨x,hx,rfl⟩:=List.mem_map.1 (show y∈c.crs.map (resX c.crs) from hy)
  obtain⟨⟨g1,g2⟩,g3⟩:=h2 x hx
  exact⟨⟨hR _ g1,hR _ g2⟩,g3⟩
 .show(c.same.map (resY c.crs)).length<=_
  rw[List.length_map]
  exact h3
 .obtain⟨x,hx,rfl⟩:=List.mem_map.1 (show y∈c.same.map (resY c.crs) from hy)
  exact⟨numO_in hl _ (h4 x hx).1,numO_in hl _ (h4 x hx).2⟩
 .show(c.prg.map (resP c.crs)).length<=_
  rw[List.length_map]
  exact h5
 .obtain⟨p,hp,rfl⟩:=List.mem_map.1 (show y∈c.prg.map (resP c.crs) from hy)
  obtain⟨g1,⟨g2,g3⟩,g4⟩:=h6 p hp
  refine⟨g1,⟨?_,fun z hz=>?_⟩,g4⟩
  .show(p.reqs.map (resQ c.crs)).length<=_
   rw[List.length_map]
   exact g2
  .obtain⟨q,hq,rfl⟩:=List.mem_map.1 (show z∈p.reqs.map (resQ c.crs) from hz)
   obtain⟨⟨k1,k2⟩,⟨k3,k4,k5⟩,k6⟩:=g3 q hq
   refine⟨⟨k1,?_⟩,⟨k3,k4,fun n hn=>?_⟩,k6⟩
   .show(List.zipWith _ q.names q.fr).length<=_
    rw[List.length_zipWith]
    exact Nat.le_trans (Nat.min_le_right _ _) k2
   .obtain⟨i,hi,e⟩:=List.getElem_of_mem (show n∈List.zipWith (fun s n=>(numO c.crs s n).getD 0) q.names q.fr from hn)
    rw[List.getElem_zipWith]at e
    rw[<-e]
    exact numO_in hl _ (k5 _ (List.getElem_mem _))
end
theorem wfBok_ins {b:Bok}{c:Cat}(hb:wfBok b)(hc:okCat c)(h1:b.crs.length<=1000)(h2:c.crs.length<=1000)(h3:b.prg.length<=1000)(h4:c.prg.length<=1000)(h5:b.sys.length<=1000):wfBok (insB b c):=by
 obtain⟨⟨_,b2⟩,⟨_,b4⟩,_,b6⟩:=hb
 refine⟨⟨?_,fun x hx=>?_⟩,⟨?_,fun x hx=>?_⟩,?_,fun x hx=>?_⟩
 .show(b.crs++c.crs).length<=_
  rw[List.length_append]
  omega
 .exact(List.mem_append.1 (show x∈b.crs++c.crs from hx)).elim (b2 x) (wfCrs_of hc x)
 .show(b.prg++c.prg).length<=_
  rw[List.length_append]
  omega
 .exact(List.mem_append.1 (show x∈b.prg++c.prg from hx)).elim (b4 x) (wfPrg_of hc x)
 .show(b.sys++(if sysB c=true then[sysC c] else[])).length<=_
  rw[List.length_append]
  split
  .rw[List.length_singleton];omega
  .rw[List.length_nil];omega
 .rcases List.mem_append.1 (show x∈b.sys++(if sysB c=true then[sysC c] else[]) from hx) with hx|hx
  .exact b6 x hx
  .split at hx
   .rw[List.mem_singleton.1 hx]
    exact wfSys_of hc
   .exact(List.not_mem_nil hx).elim
theorem instG_ok (b:Bok)(c:Cat)(fr til kn:Int)(hb:wfBok b)(h1:b.crs.length<=100)(h3:b.prg.length<=100)(h5:b.sys.length<=100)(hc:okCat c)(hf:fewC c=true) :
 Pure Tryz.prog 15 [.agg (eBok b),.agg (eCat c),.agg [di fr,di til],di kn] (insRes b c fr til kn):=by
 obtain⟨⟨f1,f2,f3,_⟩,_⟩:=few_of hf
 exact install_ok b c fr til kn hb (wfBok_of hc) (catF_of hc hf) (catE_of hc) (catE_of (okCat_res hc)) h1 Om h3 Om h5 Om
theorem resolveH_ok (c:Cat)(hc:okCat c)(hf:fewC c=true):Pure Tryz.prog 14 [.agg (eCat c)] [.agg (eCat (resV c)),di (resE c)]:=resolveG_ok c (catF_of hc hf)
theorem few10H_ok (c:Cat)(hc:okCat c):Pure Tryz.prog 13 [.agg (eCat c)] [.bool (fewC c)]:=few10_ok c (catW_of hc)
theorem insRes_yes {b:Bok}{c:Cat}{fr til kn:Int}(h:insE b c fr til kn=0):insRes b c fr til kn=[.agg (eBok (insB b c)),eFcts (insF b c fr til kn),di 0]:=if_pos h
theorem insRes_no {b:Bok}{c:Cat}{fr til kn:Int}(h:insE b c fr til kn≠0):insRes b c fr til kn=[.agg (eBok bokZ),.nils,di (insE b c fr til kn)]:=if_neg h
theorem insE_of {b:Bok}{c:Cat}{fr til kn:Int}(h1:chkB b=0)(h2:resE c=0)(h3:c=resC c)(h4:c.same.all pairB=true)(h5:chkB ⟨c.crs,c.prg,[sysC c]⟩=0):insE b c fr til kn=if spnOk fr til kn=true then 0 else 140:=by
 unfold insE
 rw[if_pos h1,if_pos h2,decide_eq_true h3,h4,decide_eq_true h5,Bool.true_and,Bool.true_and,Bool.true_and]
theorem insE_zero {b:Bok}{c:Cat}{fr til kn:Int}(h:insE b c fr til kn=0):chkB b=0/\resE c=0/\c.same.all pairB=true/\chkB ⟨c.crs,c.prg,[sysC c]⟩=0/\spnOk fr til kn=true:=by
 unfold insE at h
 by_cases h1:chkB b=0
 case neg=>rw[if_neg h1]at h;exact absurd h h1
 rw[if_pos h1]at h
 by_cases h2:resE c=0
 case neg=>rw[if_neg h2]at h;exact absurd h h2
 rw[if_pos h2]at h
 split at h
 .rename_i h3
  simp only[Bool.and_eq_true,decide_eq_true_eq]at h3
  exact⟨h1,h2,h3.2.1,h3.2.2.1,h3.2.2.2⟩
 .cases h
set_option maxHeartbeats 0
section
variable {w:Wor}{t kn:Int}{ns:List Int}
end
def eSpn (fr til:Int):List D:=[di fr,di til]
def bok0 (l:List Crs):Bok:=⟨l,[],[]⟩
def flatCat (l:List Crs):Cat:=⟨l,[],[],[],[],[],[]⟩
def plainC (s:ByteArray)(n:Int):Crs:=⟨s,n,4,0,.mk 1 0 .empty 0 0 [],.mk 2 0 .empty 0 0 []⟩
theorem plain_ok (s:ByteArray)(n:Int):Pure Tryz.prog 45 [.str s,di n] [.agg (eCrs (plainC s n))]:=by
 refine pure_rule hT (T:=tab) (N:=10) (rs:=[.cell 4 68]) Tryz.func45 rfl rfl rfl Kr rfl ?_
 repeat' (first|with_reducible refine Sq.go ?_|((with_reducible refine Ev.mk ?_);conv=>whnf)|with_reducible refine Dr.mk ⟨Kr,Kr⟩ ?_|with_reducible refine obG ?_|with_reducible refine Ob.mk ?_ ?_|(with_reducible first|refine brT fun h=>?_|refine brF fun h=>?_|refine Br.mk (fun h=>?_) fun h=>?_)<;>(try simp only[bsl,beq_iff_eq,bne_iff_ne,bs2]at h)<;>(try contradiction)<;>try (exfalso;omega))
 exact⟨.inr ⟨rfl,rfl,rfl,rfl,rfl,rfl,rfl,rfl,rfl,rfl,rfl,rfl,rfl,rfl,rfl,rfl,Tt⟩,Tt⟩
theorem all14_ok:Pure Tryz.prog 46 [] [.agg (eSpn 0 1024)]:=by
 refine pure_rule hT (T:=tab) (N:=2) (rs:=[.cell 0 34]) Tryz.func46 rfl rfl rfl Kr rfl ?_
 repeat' (first|with_reducible refine Sq.go ?_|((with_reducible refine Ev.mk ?_);conv=>whnf)|with_reducible refine Dr.mk ⟨Kr,Kr⟩ ?_|with_reducible refine obG ?_|with_reducible refine Ob.mk ?_ ?_|(with_reducible first|refine brT fun h=>?_|refine brF fun h=>?_|refine Br.mk (fun h=>?_) fun h=>?_)<;>(try simp only[bsl,beq_iff_eq,bne_iff_ne,bs2]at h)<;>(try contradiction)<;>try (exfalso;omega))
 exact⟨.inl rfl,Tt⟩
theorem new14_ok:Pure Tryz.prog 21 [] [.agg (eBok (bok0 []))]:=by
 refine pure_rule hT (T:=tab) (N:=2) (rs:=[.cell 0 26]) Tryz.func21 rfl rfl rfl Kr rfl ?_
 repeat' (first|with_reducible refine Sq.go ?_|((with_reducible refine Ev.mk ?_);conv=>whnf)|with_reducible refine Dr.mk ⟨Kr,Kr⟩ ?_|with_reducible refine obG ?_|with_reducible refine Ob.mk ?_ ?_|(with_reducible first|refine brT fun h=>?_|refine brF fun h=>?_|refine Br.mk (fun h=>?_) fun h=>?_)<;>(try simp only[bsl,beq_iff_eq,bne_iff_ne,bs2]at h)<;>(try contradiction)<;>try (exfalso;omega))
 exact⟨.inr ⟨rfl,rfl,rfl,Tt⟩,Tt⟩
def sA:ByteArray:=⟨#[65]⟩
def cA:Crs:=plainC sA 1
def L0:List Fct:=[⟨1,1,0,0,3,9,8,0⟩,⟨12,0,0,1,0,1024,8,1⟩]
def w0:Wor:=⟨bok0 [cA],L0⟩
def wZ:Wor:=⟨bok0 [],[]⟩
theorem f1:crsOf w0 1 3 8=some cA:=by rfl
theorem f2:readsT ⟨1,1,0⟩ 3=[rdK ⟨1,1,0⟩ 3]:=by rfl
theorem f3:crsOf w0 1 9 8=none:=by rfl
theorem f4:nums w0 8=[1]:=by
 have:numsL w0.fcts (atV w0.fcts ⟨12,0,0⟩ 0 8).1=[1]:=by rfl
 unfold nums
 rw[this,srtI]
 exact List.mergeSort_singleton ..
theorem f5 (kn:Int):nums wZ kn=[]:=by
 have:numsL wZ.fcts (atV wZ.fcts ⟨12,0,0⟩ 0 kn).1=[]:=by rfl
 unfold nums
 rw[this,srtI]
 exact List.mergeSort_nil
theorem f6:equalZ wZ 3 0 8=startE 3:=by
 have h1:iterE wZ 0 8 [] 1 (startE 3)=startE 3:=by rfl
 have h:=equal_stop (w:=wZ) (n:=3) (t:=0) (kn:=8) (j:=1) (Nat.zero_le _) (by rw[f5,h1];decide) (by rw[f5,h1];decide)
 rw[h,f5,h1]
theorem f7:equalL wZ 3 0 8=[3]:=by
 rw[equalL,if_pos Dc,f6]
 exact List.mergeSort_singleton ..
theorem f8:equalR wZ 3 0 8=[rdK ⟨12,0,0⟩ 0]:=by rw[equalR,if_pos Dc,f6];rfl
theorem f9:sysOf wZ 0 8=none:=by rfl
theorem wfA:wfCrs cA:=by
 refine⟨fun p hp=>?_,fun p hp=>?_⟩<;>(rw[preR_eq]at hp;rcases List.mem_cons.1 hp with rfl|hp)<;>first|(refine⟨?_,?_,?_,?_,Dc⟩<;>exact in64.2 Dc)|(rw[show(Rule.kids _)=[] from rfl,preL_nil]at hp;cases hp)
theorem wf_bok0 {l:List Crs}(h:l.length<=1000)(hw:∀c∈l,wfCrs c):wfBok (bok0 l) :=
 ⟨⟨by show l.length<=_;omega,hw⟩,⟨Nat.zero_le _,fun c hc=>(List.not_mem_nil hc).elim⟩,Nat.zero_le _,fun c hc=>(List.not_mem_nil hc).elim⟩
theorem smA:smCrs cA:=by
 have e1:cntR cA.need=1:=by rfl
 have e2:cntR cA.bar=1:=by rfl
 exact⟨by rw[e1];decide,by rw[e2];decide⟩
theorem wf_w0:WfW w0 :=
 ⟨wf_bok0 Dc (fun c hc=>by rw[List.mem_singleton.1 hc];exact wfA),fun c hc=>by rw[List.mem_singleton.1 hc];exact smA,by show(2:Nat)<=_;decide⟩
theorem wf_wZ:WfW wZ:=⟨wf_bok0 (Nat.zero_le _) (fun c hc=>(List.not_mem_nil hc).elim),fun c hc=>(List.not_mem_nil hc).elim,Nat.zero_le _⟩
def crs1:Crs:=⟨.empty,1,0,0,default,default⟩
theorem chk1:chkB (bok0 [crs1])=140:=by rfl
theorem wf1:wfCrs crs1:=by
 have h:wfR (default:Rule):=fun p hp=>by
  rw[preR_eq]at hp
  rcases List.mem_cons.1 hp with rfl|hp
  .refine⟨?_,?_,?_,?_,Dc⟩<;>exact in64.2 Dc
  .rw[show(Rule.kids (default:Rule))=[] from rfl,preL_nil]at hp
   cases hp
 exact⟨h,h⟩
theorem okA:okCat (flatCat [cA]):=by
 refine⟨⟨by show(1:Nat)<=_;decide,fun x hx=>?_⟩,⟨Nat.zero_le _,fun x hx=>(List.not_mem_nil hx).elim⟩,⟨Nat.zero_le _,fun x hx=>(List.not_mem_nil hx).elim⟩,⟨Nat.zero_le _,fun x hx=>(List.not_mem_nil hx).elim⟩,Nat.zero_le _,⟨Nat.zero_le _,fun x hx=>(List.not_mem_nil hx).elim⟩,Nat.zero_le _⟩
 rw[List.mem_singleton.1 hx]
 exact⟨⟨⟨wfA.1,Dc⟩,wfA.2,Dc⟩,in64.2 Dc,in64.2 Dc,in64.2 Dc⟩
theorem okZ:okCat (flatCat []) :=
 ⟨⟨Nat.zero_le _,fun x hx=>(List.not_mem_nil hx).elim⟩,⟨Nat.zero_le _,fun x hx=>(List.not_mem_nil hx).elim⟩,⟨Nat.zero_le _,fun x hx=>(List.not_mem_nil hx).elim⟩,⟨Nat.zero_le _,fun x hx=>(List.not_mem_nil hx).elim⟩,Nat.zero_le _,⟨Nat.zero_le _,fun x hx=>(List.not_mem_nil hx).elim⟩,Nat.zero_le _⟩
theorem fewA:fewC (flatCat [cA])=true:=by rfl
theorem fewZ:fewC (flatCat [])=true:=by rfl
theorem resA:resE (flatCat [cA])=0:=by rfl
theorem resZ:resE (flatCat [])=0:=by rfl
theorem insFA:insF (bok0 []) (flatCat [cA]) 3 9 8=L0:=by rfl
theorem insBA:insB (bok0 []) (flatCat [cA])=bok0 [cA]:=by rfl
theorem wfb0:wfBok (bok0 []):=wf_bok0 (Nat.zero_le _) (fun c hc=>(List.not_mem_nil hc).elim)
theorem install0_ok:Pure Tryz.prog 15 [.agg (eBok (bok0 [])),.agg (eCat (flatCat [cA])),.agg (eSpn 3 9),di 8] [.agg (eBok (bok0 [cA])),eFcts L0,di 0]:=by
 have h:=instG_ok (bok0 []) (flatCat [cA]) 3 9 8 wfb0 (Nat.zero_le _) (Nat.zero_le _) (Nat.zero_le _) okA fewA
 rw[insRes_yes (by rw[insE_of rfl resA rfl rfl rfl];rfl),insFA,insBA]at h
 exact h
theorem install0_none:Pure Tryz.prog 15 [.agg (eBok (bok0 [])),.agg (eCat (flatCat [])),.agg (eSpn 0 1024),di 8] [.agg (eBok (bok0 [])),eFcts [],di 0]:=by
 have h:=instG_ok (bok0 []) (flatCat []) 0 1024 8 wfb0 (Nat.zero_le _) (Nat.zero_le _) (Nat.zero_le _) okZ fewZ
 rw[insRes_yes (by rw[insE_of rfl resZ rfl rfl rfl];rfl),show insB (bok0 []) (flatCat [])=bok0 [] from rfl,show insF (bok0 []) (flatCat []) 0 1024 8=[] from rfl]at h
 exact h
theorem install0_bad:Pure Tryz.prog 15 [.agg (eBok (bok0 [])),.agg (eCat (flatCat [cA])),.agg (eSpn 5 5),di 8] [.agg (eBok (bok0 [])),.nils,di 140]:=by
 have h:=instG_ok (bok0 []) (flatCat [cA]) 5 5 8 wfb0 (Nat.zero_le _) (Nat.zero_le _) (Nat.zero_le _) okA fewA
 have e:insE (bok0 []) (flatCat [cA]) 5 5 8=140:=by rw[insE_of rfl resA rfl rfl rfl];rfl
 rw[insRes_no (by rw[e];decide),e]at h
 exact h
theorem sane14_ok:Pure Tryz.prog 11 [] [.bool true]:=by
 have hPl:=plain_ok sA 1
 refine pure_rule hT (T:=tab) (N:=192) (rs:=[.tmp 0]) Tryz.func11 rfl rfl rfl Kr rfl ?_
 (refine gS ?_;intros)
 refine Sq.go ?_;(refine gS ?_;intros)
 refine hPl.call ?_
 (refine gS ?_;intros)
 have hNew:=new14_ok
 have hI1:=install0_ok
 have hw0:WfW w0:=wf_w0
 have c1:=bcourse_ok w0 hw0 1 3 8
 have c2:=bcourse_ok w0 hw0 1 9 8
 have c3:=numbers_ok w0 hw0 Dc 8
 rw[f1,f2]at c1
 rw[f3]at c2
 rw[f4]at c3
 have c4:=numbers_ok wZ wf_wZ (Nat.zero_le _) 8
 rw[f5]at c4
 have c5:=equal_ok wZ wf_wZ (Nat.zero_le _) 3 0 8
 rw[f7,f8]at c5
 have c6:=bsystem_ok wZ wf_wZ 0 8
 rw[f9]at c6
 have hAll:=all14_ok
 have hI2:=install0_none
 have hI3:=install0_bad
 have hL:L0.length=2:=rfl
 unfold w0 at c1 c2 c3
 generalize L0=L at hI1 c1 c2 c3 hL
 obtain⟨ff,hff⟩:∃ff:Nat->List D,ff=fun i=>eFct (L.getD i default):=⟨_,rfl⟩
 have he:eFcts L=.sl 8 2 ff:=by rw[eFcts,hL,hff]
 have hew:eWor ⟨bok0 [cA],L⟩=[eCrss [cA],ePrgs [],eSyss [],.sl 8 2 ff]:=by
  rw[<-he]
  rfl
 rw[he]at hI1
 rw[hew]at c1 c2 c3
 clear hff he hew hL
 refine Sq.alt (Awp.frz [0,1] 1 (.pt (eCat (flatCat [cA])) 0) (.ptr' rfl ⟨.rows rfl (Nat.le_refl _) (fun i hi=>by rw[show i=0 from Nat.lt_one_iff.1 hi];rfl),.eq rfl,.eq rfl,.eq rfl,.eq rfl,.eq rfl,.eq rfl,Tt⟩)
  (Awp.seq (Awp.effsF (m:=⟨[none,none],[]⟩) hT (by kernel_rfl) (by kernel_rfl) (by kernel_rfl) ⟨[none,none,none],[]⟩ 0 0
   [⟨8,lp 2,⟨[none,none,bX 26 (up [.nils,.nils,.nils])],[]⟩,[]⟩,⟨9,.junk,⟨[none,none,bX 26 (up (eBok (bok0 [cA])))],[]⟩,[8]⟩]
   Kr rfl rfl (WeakF.of Tt Tt) ⟨WeakF.of Tt Tt,WeakF.of Tt Tt,Tt⟩ ?_)))
 conv=>whnf
 (refine gS ?_;intros)
 refine qC hNew ?_
 (refine gS ?_;intros)
 refine qC hI1 ?_
 (refine gS ?_;intros)
 refine⟨?_,?_,?_⟩
 .conv=>whnf
  (refine gS ?_;intros)
  exact⟨rfl,rfl⟩
 .conv=>whnf
  (refine gS ?_;intros)
  exact⟨Tt,rfl⟩
 conv=>whnf
 (refine gS ?_;intros)
 refine Awp.of_vc hT ?_
 (refine gS ?_;intros)
 refine Sq.go ?_;(refine gS ?_;intros)
 refine c1.call ?_
 (refine gS ?_;intros)
 refine Sq.go ?_;(refine gS ?_;intros)
 refine c2.call ?_
 (refine gS ?_;intros)
 refine Sq.go ?_;(refine gS ?_;intros)
 refine c3.call ?_
 (refine gS ?_;intros)
 refine Sq.go ?_;(refine gS ?_;intros)
 refine CallVC.frz [] ?_ (c4.call ?_)
 .exact⟨.eq (.inr ⟨rfl,rfl,rfl,rfl,Tt⟩),.d,Tt⟩
 (refine gS ?_;intros)
 refine Sq.go ?_;(refine gS ?_;intros)
 refine CallVC.frz [] ?_ (c5.call ?_)
 .exact⟨.eq (.inr ⟨rfl,rfl,rfl,rfl,Tt⟩),.d,.d,.d,Tt⟩
 (refine gS ?_;intros)
 refine Sq.go ?_;(refine gS ?_;intros)
 refine CallVC.frz [] ?_ (c6.call ?_)
 .exact⟨.eq (.inr ⟨rfl,rfl,rfl,rfl,Tt⟩),.d,.d,Tt⟩
 (refine gS ?_;intros)
 refine Sq.go ?_;(refine gS ?_;intros)
 refine hAll.call ?_
 (refine gS ?_;intros)
 refine CallVC.frz [] ?_ (hI2.call ?_)
 .exact⟨.eq (.inr ⟨rfl,rfl,rfl,Tt⟩),.eq (.inr ⟨rfl,rfl,rfl,rfl,rfl,rfl,rfl,Tt⟩),.d,.d,Tt⟩
 (refine gS ?_;intros)
 refine Sq.go ?_;(refine gS ?_;intros)
 refine CallVC.frz [] ?_ (hI3.call ?_)
 .exact⟨.eq (.inr ⟨rfl,rfl,rfl,Tt⟩),.d,.d,.d,Tt⟩
 (refine gS ?_;intros)
 refine Sq.go ?_;(refine gS ?_;intros)
 refine Sq.go ?_;(refine gS ?_;intros)
 refine Sq.go ?_;(refine gS ?_;intros)
 refine Sq.alt (Awp.frz [9,10] 26 (.pt (eBok (bok0 [crs1])) 0) (.ptr' rfl ⟨.osl' rfl (Nat.le_refl _) (fun i hi=>by
  rw[show i=0 from Nat.lt_one_iff.1 hi]
  exact⟨.d,.d,.d,.d,.d,.d,.d,.d,.d,.eq rfl,.d,.d,.d,.d,.d,.eq rfl,Tt⟩),.eq rfl,.eq rfl,Tt⟩)
  (Awp.frz [11] 27 (eReds [rdK ⟨1,1,0⟩ 3]) (.rows rfl (Nat.le_refl _) (fun i hi=>by rw[show i=0 from Nat.lt_one_iff.1 hi];rfl))
  (Awp.frz [12] 28 (eReds [rdK ⟨12,0,0⟩ 0]) (.rows rfl (Nat.le_refl _) (fun i hi=>by rw[show i=0 from Nat.lt_one_iff.1 hi];rfl)) (vc_ok hT _ _ _ _ (Ev.o ?_)))))
 have d1:=sameCourse_ok cA cA wfA wfA
 have d2:=sameReds_ok [rdK ⟨1,1,0⟩ 3] [rdK ⟨1,1,0⟩ 3] Dc Dc
 have d3:=sameInts_ok [1] [1] Dc Dc
 have d4:=sameReds_ok [rdK ⟨12,0,0⟩ 0] [rdK ⟨12,0,0⟩ 0] Dc Dc
 have d5:=sameInts_ok [3] [3] Dc Dc
 have d6:=sameSys_ok default default ⟨⟨Nat.zero_le _,fun x h=>(List.not_mem_nil h).elim⟩,⟨Nat.zero_le _,fun x h=>(List.not_mem_nil h).elim⟩,Nat.zero_le _,Nat.zero_le _⟩ ⟨⟨Nat.zero_le _,fun x h=>(List.not_mem_nil h).elim⟩,⟨Nat.zero_le _,fun x h=>(List.not_mem_nil h).elim⟩,Nat.zero_le _,Nat.zero_le _⟩
 have d7:=bcheck_ok (bok0 [crs1]) (wf_bok0 Dc (fun c hc=>by rw[List.mem_singleton.1 hc];exact wf1))
 have d8:=bcheck_ok (bok0 []) (wf_bok0 Dc (fun c hc=>by cases hc))
 rw[chk1]at d7
 rw[show chkB (bok0 [])=0 from rfl]at d8
 rw[decide_eq_true rfl]at d1 d2 d3 d4 d5 d6
 clear c1 c2 c3 c4 c5 c6 hI1 hI2 hI3 hNew hAll hPl hw0
 have d4c:Pure Tryz.prog 26 [cReds [rdK ⟨12,0,0⟩ 0],eReds [rdK ⟨12,0,0⟩ 0]] [.bool true]:=deqP d4 ⟨⟨rfl,rfl,fun i _=>rfl⟩,⟨rfl,rfl,fun i _=>rfl⟩,Tt⟩
 have d3c:Pure Tryz.prog 25 [eInts [1],.sl 1 1 (rowFnD [[di 1]])] [.bool true]:=deqP d3 ⟨⟨rfl,rfl,fun i _=>rfl⟩,rfD (fun n:Int=>[di n]) 1 _ rfl 1,Tt⟩
 have d5c:Pure Tryz.prog 25 [eInts [3],.sl 1 1 (rowFnD [[di 3]])] [.bool true]:=deqP d5 ⟨⟨rfl,rfl,fun i _=>rfl⟩,rfD (fun n:Int=>[di n]) 3 _ rfl 1,Tt⟩
 have d6c:Pure Tryz.prog 38 [.agg (eSys default),.agg [.nils,.nils,.nils,.nils]] [.bool true]:=deqP d6 ⟨.inl rfl,.inr ⟨rfl,rfl,rfl,rfl,Tt⟩,Tt⟩
 have d8c:Pure Tryz.prog 19 [.agg [.nils,.nils,.nils]] [di 0]:=deqP d8 ⟨.inr ⟨rfl,rfl,rfl,Tt⟩,Tt⟩
 repeat' (first|((with_reducible refine Ev.mk ?_);conv=>whnf)|with_reducible refine Dr.mk ⟨Kr,Kr⟩ ?_|with_reducible refine obG ?_|with_reducible refine Ob.mk ?_ ?_|(with_reducible first|refine brT fun h=>?_|refine brF fun h=>?_|refine Br.mk (fun h=>?_) fun h=>?_)<;>(try simp only[bsl,beq_iff_eq,bne_iff_ne,bs2]at h)<;>(try contradiction)<;>try (exfalso;omega))
 .intro _
  decide
 refine qC d1 ?_
 (refine gS ?_;intros)
 refine qC d2 ?_
 (refine gS ?_;intros)
 refine qC d3c ?_
 (refine gS ?_;intros)
 refine qC d4c ?_
 (refine gS ?_;intros)
 refine qC d4c ?_
 (refine gS ?_;intros)
 refine Sq.go ?_;(refine gS ?_;intros)
 refine d5.loan rfl ⟨.d,.rows rfl (Nat.le_refl _) (fun i hi=>by rw[show i=0 from Nat.lt_one_iff.1 hi];rfl),Tt⟩ ?_
 (refine gS ?_;intros)
 refine d4.call ?_
 (refine gS ?_;intros)
 refine d6c.call ?_
 (refine gS ?_;intros)
 refine d7.call ?_
 (refine gS ?_;intros)
 refine d8c.call ?_
 (refine gW ?_;intros)
 exact⟨rfl,Tt⟩
theorem insB_len {b:Bok}{c:Cat}(hf:fewC c=true):(insB b c).crs.length<=b.crs.length+8/\(insB b c).prg.length<=b.prg.length+4/\(insB b c).sys.length<=b.sys.length+1:=by
 obtain⟨⟨f1,f2,f3,_⟩,_⟩:=few_of hf
 refine⟨?_,?_,?_⟩
 .show(b.crs++c.crs).length<=_
  rw[List.length_append]
  omega
 .show(b.prg++c.prg).length<=_
  rw[List.length_append]
  omega
 .show(b.sys++(if sysB c=true then[sysC c] else[])).length<=_
  rw[List.length_append]
  split
  .rw[List.length_singleton];omega
  .rw[List.length_nil];omega
theorem rows2 (l m:List Fct)(n:Nat)(hn:n=l.length)(g:Nat->List AV)(i:Nat)(hi:i<n+m.length):joinF (0+n) (joinF 0 g (fun i=>up (eFct (l.getD i default)))) (fun i=>up (eFct (m.getD i default))) i=up (eFct ((l++m).getD i default)):=by
 subst hn
 rw[Nat.zero_add]
 rcases Nat.lt_or_ge i l.length with h|h
 .rw[joinF_lt h,joinF_ge (Nat.zero_le _),Nat.sub_zero,getD_append_left h]
 .rw[joinF_ge h,getD_append_right h]
theorem vnum_of {c:Cat}(h:chkB ⟨c.crs,c.prg,[sysC c]⟩=0):∀x∈c.crs,bw x.number 0 4095=true:=fun x hx=>by
 unfold chkB at h
 split at h
 .rename_i h2
  rw[Bool.and_eq_true]at h2
  have:=List.all_eq_true.1 h2.1 x hx
  unfold vCrs at this
  rw[Bool.and_eq_true]at this
  exact this.1
 .cases h
theorem bookNumbers_ok (c d:Cat)(hc:okCat c)(hd:okCat d)(v0 v1 a0 a1:Int) :
 Pure Tryz.prog 6 [.agg (eCat c),.agg (eCat d),.agg [di v0,di v1],.agg [di a0,di a1]] [.bool true]:=by
 have hS:=sane14_ok
 have hF1:=few10H_ok c hc
 have hF2:=few10H_ok d hd
 cases f1:fewC c<;>rw[f1]at hF1
 case false =>
  clear hF2
  refine pure_rule hT (T:=tab) (N:=121) (rs:=[.tmp 8]) Tryz.func6 rfl rfl rfl Kr rfl ?_
  (refine gW ?_;intros)
  refine hS.call ?_
  (refine gW ?_;intros)
  refine hF1.call ?_
  (refine gW ?_;intros)
  exact⟨rfl,Tt⟩
 cases f2:fewC d<;>rw[f2]at hF2
 case false =>
  refine pure_rule hT (T:=tab) (N:=121) (rs:=[.tmp 8]) Tryz.func6 rfl rfl rfl Kr rfl ?_
  (refine gW ?_;intros)
  refine hS.call ?_
  (refine gW ?_;intros)
  refine hF1.call ?_
  (refine gW ?_;intros)
  refine hF2.call ?_
  (refine gW ?_;intros)
  exact⟨rfl,Tt⟩
 have hR1:=resolveH_ok c hc f1
 have hR2:=resolveH_ok d hd f2
 by_cases e1:resE c=0
 case neg =>
  generalize resV c=x at hR1
  generalize resV d=y at hR2
  generalize resE c=e at hR1 e1
  generalize resE d=e' at hR2
  refine pure_rule hT (T:=tab) (N:=121) (rs:=[.tmp 8]) Tryz.func6 rfl rfl rfl Kr rfl ?_
  (refine gW ?_;intros)
  refine hS.call ?_
  (refine gW ?_;intros)
  refine hF1.call ?_
  (refine gW ?_;intros)
  refine hF2.call ?_
  (refine gW ?_;intros)
  refine hR1.call ?_
  (refine gW ?_;intros)
  refine hR2.call ?_
  (refine gW ?_;intros)
  exact⟨rfl,Tt⟩
 by_cases e2:resE d=0
 case neg =>
  generalize resV c=x at hR1
  generalize resV d=y at hR2
  rw[e1]at hR1
  generalize resE d=e' at hR2 e2
  refine pure_rule hT (T:=tab) (N:=121) (rs:=[.tmp 8]) Tryz.func6 rfl rfl rfl Kr rfl ?_
  (refine gW ?_;intros)
  refine hS.call ?_
  (refine gW ?_;intros)
  refine hF1.call ?_
  (refine gW ?_;intros)
  refine hF2.call ?_
  (refine gW ?_;intros)
  refine hR1.call ?_
  (refine gW ?_;intros)
  refine hR2.call ?_
  (refine gW ?_;intros)
  exact⟨rfl,Tt⟩
 have fx:fewC (resC c)=true:=by rw[fewC_res];exact f1
 have fy:fewC (resC d)=true:=by rw[fewC_res];exact f2
 have okx:=okCat_res hc
 have oky:=okCat_res hd
 rw[show resV c=resC c from if_pos e1,e1]at hR1
 rw[show resV d=resC d from if_pos e2,e2]at hR2
 generalize resC c=x at hR1 okx fx
 generalize resC d=y at hR2 oky fy
 clear e1 e2 f1 f2
 have hN:=new14_ok
 have hI:=instG_ok (bok0 []) x v0 v1 8 wfb0 (Nat.zero_le _) (Nat.zero_le _) (Nat.zero_le _) okx fx
 by_cases g1:insE (bok0 []) x v0 v1 8=0
 case neg =>
  rw[insRes_no g1]at hI
  have hJ:=instG_ok bokZ y a0 a1 16 wfb0 (Nat.zero_le _) (Nat.zero_le _) (Nat.zero_le _) oky fy
  generalize insE (bok0 []) x v0 v1 8=n1 at hI g1
  by_cases g2:insE bokZ y a0 a1 16=0
  case neg =>
   rw[insRes_no g2]at hJ
   generalize insE bokZ y a0 a1 16=n2 at hJ g2
   refine pure_rule hT (T:=tab) (N:=121) (rs:=[.tmp 8]) Tryz.func6 rfl rfl rfl Kr rfl ?_
   (refine gW ?_;intros)
   refine hS.call ?_
   (refine gW ?_;intros)
   refine hF1.call ?_
   (refine gW ?_;intros)
   refine hF2.call ?_
   (refine gW ?_;intros)
   refine hR1.call ?_
   (refine gW ?_;intros)
   refine hR2.call ?_
   (refine gS ?_;intros)
   refine Sq.go ?_;(refine gS ?_;intros)
   refine Sq.go ?_;(refine gS ?_;intros)
   refine Sq.alt (Awp.seq (Awp.effsF (m:=⟨[bX 32 (up (eCat c)),bX 32 (up (eCat d)),bX 34 (up [di v0,di v1]),bX 34 (up [di a0,di a1]),bX 32 (up (eCat x)),bX 32 (up (eCat y))],[]⟩) hT Kr Kr Kr ⟨[bX 32 (up (eCat c)),bX 32 (up (eCat d)),bX 34 (up [di v0,di v1]),bX 34 (up [di a0,di a1]),bX 32 (up (eCat x)),bX 32 (up (eCat y)),none],[]⟩ 6 0
    [⟨8,lp 6,⟨[bX 32 (up (eCat c)),bX 32 (up (eCat d)),bX 34 (up [di v0,di v1]),bX 34 (up [di a0,di a1]),bX 32 (up (eCat x)),bX 32 (up (eCat y)),bX 26 (up [.nils,.nils,.nils])],[]⟩,[]⟩,⟨9,.junk,⟨[bX 32 (up (eCat c)),bX 32 (up (eCat d)),bX 34 (up [di v0,di v1]),bX 34 (up [di a0,di a1]),bX 32 (up (eCat x)),bX 32 (up (eCat y)),bX 26 (up (eBok bokZ))],[]⟩,[8]⟩]
    Kr rfl rfl (WeakF.of ⟨.inl rfl,.inl rfl,.inl rfl,.inl rfl,.inl rfl,.inl rfl,Tt⟩ Tt) ⟨WeakF.of ⟨.inl rfl,.inl rfl,.inl rfl,.inl rfl,.inl rfl,.inl rfl,Tt⟩ Tt,WeakF.of ⟨.inl rfl,.inl rfl,.inl rfl,.inl rfl,.inl rfl,.inl rfl,Tt⟩ Tt,Tt⟩ ?_))
   conv=>whnf
   (refine gS ?_;intros)
   refine qC hN ?_
   (refine gS ?_;intros)
   refine qC hI ?_
   (refine gS ?_;intros)
   refine⟨?_,?_,?_⟩
   .conv=>whnf
    (refine gS ?_;intros)
    exact⟨rfl,rfl⟩
   .conv=>whnf
    (refine gS ?_;intros)
    exact⟨Tt,rfl⟩
   conv=>whnf
   (refine gS ?_;intros)
   refine Awp.of_vc hT ?_
   (refine gW ?_;intros)
   refine hJ.call ?_
   (refine gW ?_;intros)
   exact⟨rfl,Tt⟩
  case pos =>
   rw[insRes_yes g2]at hJ
   generalize insB bokZ y=B2 at hJ
   generalize insF bokZ y a0 a1 16=l2 at hJ
   refine pure_rule hT (T:=tab) (N:=121) (rs:=[.tmp 8]) Tryz.func6 rfl rfl rfl Kr rfl ?_
   (refine gW ?_;intros)
   refine hS.call ?_
   (refine gW ?_;intros)
   refine hF1.call ?_
   (refine gW ?_;intros)
   refine hF2.call ?_
   (refine gW ?_;intros)
   refine hR1.call ?_
   (refine gW ?_;intros)
   refine hR2.call ?_
   (refine gS ?_;intros)
   refine Sq.go ?_;(refine gS ?_;intros)
   refine Sq.go ?_;(refine gS ?_;intros)
   refine Sq.alt (Awp.seq (Awp.effsF (m:=⟨[bX 32 (up (eCat c)),bX 32 (up (eCat d)),bX 34 (up [di v0,di v1]),bX 34 (up [di a0,di a1]),bX 32 (up (eCat x)),bX 32 (up (eCat y))],[]⟩) hT Kr Kr Kr ⟨[bX 32 (up (eCat c)),bX 32 (up (eCat d)),bX 34 (up [di v0,di v1]),bX 34 (up [di a0,di a1]),bX 32 (up (eCat x)),bX 32 (up (eCat y)),none],[]⟩ 6 0
    [⟨8,lp 6,⟨[bX 32 (up (eCat c)),bX 32 (up (eCat d)),bX 34 (up [di v0,di v1]),bX 34 (up [di a0,di a1]),bX 32 (up (eCat x)),bX 32 (up (eCat y)),bX 26 (up [.nils,.nils,.nils])],[]⟩,[]⟩,⟨9,.junk,⟨[bX 32 (up (eCat c)),bX 32 (up (eCat d)),bX 34 (up [di v0,di v1]),bX 34 (up [di a0,di a1]),bX 32 (up (eCat x)),bX 32 (up (eCat y)),bX 26 (up (eBok bokZ))],[]⟩,[8]⟩]
    Kr rfl rfl (WeakF.of ⟨.inl rfl,.inl rfl,.inl rfl,.inl rfl,.inl rfl,.inl rfl,Tt⟩ Tt) ⟨WeakF.of ⟨.inl rfl,.inl rfl,.inl rfl,.inl rfl,.inl rfl,.inl rfl,Tt⟩ Tt,WeakF.of ⟨.inl rfl,.inl rfl,.inl rfl,.inl rfl,.inl rfl,.inl rfl,Tt⟩ Tt,Tt⟩ ?_))
   conv=>whnf
   (refine gS ?_;intros)
   refine qC hN ?_
   (refine gS ?_;intros)
   refine qC hI ?_
   (refine gS ?_;intros)
   refine⟨?_,?_,?_⟩
   .conv=>whnf
    (refine gS ?_;intros)
    exact⟨rfl,rfl⟩
   .conv=>whnf
    (refine gS ?_;intros)
    exact⟨Tt,rfl⟩
   conv=>whnf
   (refine gS ?_;intros)
   refine Awp.of_vc hT ?_
   (refine gW ?_;intros)
   refine hJ.call ?_
   (refine gW ?_;intros)
   exact⟨rfl,Tt⟩
 rw[insRes_yes g1]at hI
 obtain⟨t1,t2,t3⟩:=insB_len (b:=bok0 []) fx
 have t1:(insB (bok0 []) x).crs.length<=8:=t1
 have t2:(insB (bok0 []) x).prg.length<=4:=t2
 have t3:(insB (bok0 []) x).sys.length<=1:=t3
 obtain⟨⟨p1,p2,p3,_⟩,_⟩:=few_of fx
 obtain⟨⟨p4,p5,p6,_⟩,_⟩:=few_of fy
 have w1:=wfBok_ins wfb0 okx (Nat.zero_le _) Om (Nat.zero_le _) Om (Nat.zero_le _)
 have w2:=wfBok_ins w1 oky Om Om Om Om Om
 have hJ:=instG_ok (insB (bok0 []) x) y a0 a1 16 w1 Om Om Om oky fy
 by_cases g2:insE (insB (bok0 []) x) y a0 a1 16=0
 case neg =>
  rw[insRes_no g2]at hJ
  generalize insE (insB (bok0 []) x) y a0 a1 16=n2 at hJ g2
  clear w1 w2
  generalize insB (bok0 []) x=B1 at hI hJ
  generalize insF (bok0 []) x v0 v1 8=l1 at hI
  refine pure_rule hT (T:=tab) (N:=121) (rs:=[.tmp 8]) Tryz.func6 rfl rfl rfl Kr rfl ?_
  (refine gW ?_;intros)
  refine hS.call ?_
  (refine gW ?_;intros)
  refine hF1.call ?_
  (refine gW ?_;intros)
  refine hF2.call ?_
  (refine gW ?_;intros)
  refine hR1.call ?_
  (refine gW ?_;intros)
  refine hR2.call ?_
  (refine gS ?_;intros)
  refine Sq.go ?_;(refine gS ?_;intros)
  refine Sq.go ?_;(refine gS ?_;intros)
  refine Sq.alt (Awp.seq (Awp.effsF (m:=⟨[bX 32 (up (eCat c)),bX 32 (up (eCat d)),bX 34 (up [di v0,di v1]),bX 34 (up [di a0,di a1]),bX 32 (up (eCat x)),bX 32 (up (eCat y))],[]⟩) hT Kr Kr Kr ⟨[bX 32 (up (eCat c)),bX 32 (up (eCat d)),bX 34 (up [di v0,di v1]),bX 34 (up [di a0,di a1]),bX 32 (up (eCat x)),bX 32 (up (eCat y)),none],[]⟩ 6 0
   [⟨8,lp 6,⟨[bX 32 (up (eCat c)),bX 32 (up (eCat d)),bX 34 (up [di v0,di v1]),bX 34 (up [di a0,di a1]),bX 32 (up (eCat x)),bX 32 (up (eCat y)),bX 26 (up [.nils,.nils,.nils])],[]⟩,[]⟩,⟨9,.junk,⟨[bX 32 (up (eCat c)),bX 32 (up (eCat d)),bX 34 (up [di v0,di v1]),bX 34 (up [di a0,di a1]),bX 32 (up (eCat x)),bX 32 (up (eCat y)),bX 26 (up (eBok B1))],[]⟩,[8]⟩]
   Kr rfl rfl (WeakF.of ⟨.inl rfl,.inl rfl,.inl rfl,.inl rfl,.inl rfl,.inl rfl,Tt⟩ Tt) ⟨WeakF.of ⟨.inl rfl,.inl rfl,.inl rfl,.inl rfl,.inl rfl,.inl rfl,Tt⟩ Tt,WeakF.of ⟨.inl rfl,.inl rfl,.inl rfl,.inl rfl,.inl rfl,.inl rfl,Tt⟩ Tt,Tt⟩ ?_))
  conv=>whnf
  (refine gS ?_;intros)
  refine qC hN ?_
  (refine gS ?_;intros)
  refine qC hI ?_
  (refine gS ?_;intros)
  refine⟨?_,?_,?_⟩
  .conv=>whnf
   (refine gS ?_;intros)
   exact⟨rfl,rfl⟩
  .conv=>whnf
   (refine gS ?_;intros)
   exact⟨Tt,rfl⟩
  conv=>whnf
  (refine gS ?_;intros)
  refine Awp.of_vc hT ?_
  (refine gW ?_;intros)
  refine hJ.call ?_
  (refine gW ?_;intros)
  exact⟨rfl,Tt⟩
 rw[insRes_yes g2]at hJ
 have hP1:=insE_zero g1
 have hP2:=insE_zero g2
 have hl:(insF (bok0 []) x v0 v1 8++insF (insB (bok0 []) x) y a0 a1 16).length<=1000:=by
  have h1:=insF_len (bok0 []) x v0 v1 8
  have h2:=insF_len (insB (bok0 []) x) y a0 a1 16
  rw[List.length_append]
  omega
 have hw:WfW ⟨insB (insB (bok0 []) x) y,insF (bok0 []) x v0 v1 8++insF (insB (bok0 []) x) y a0 a1 16⟩:=by
  refine⟨w2,fun z hz=>?_,?_⟩
  .rcases List.mem_append.1 (show z∈(insB (bok0 []) x).crs++y.crs from hz) with hz|hz
   .exact smCrs_of okx fx z hz
   .exact smCrs_of oky fy z hz
  .exact Nat.le_trans hl Dc
 obtain⟨n7,⟨n15,k15⟩,n16,k16⟩:=nums_two (vnum_of hP1.2.2.2.1) (vnum_of hP2.2.2.2.1) (insB (insB (bok0 []) x) y) v0 v1 a0 a1
 have hC7:=fits0_ok _ hw (Nat.le_trans hl Dc) 7 n7
 have hC15:=fitsN_ok _ hw (Nat.le_trans hl Dc) 15 (numsC x.crs) (fun n h=>(n15 n).1 h) k15
 have hC16:=fitsN_ok _ hw (Nat.le_trans hl Dc) 16 (numsC (x.crs++y.crs)) (fun n h=>(n16 n).1 h) k16
 rw[numsC_app]at hC16
 clear n7 n15 k15 n16 k16 hP1 hP2 hw g1 g2 w1 w2 t1 t2 t3
 generalize insB (insB (bok0 []) x) y=B2 at hJ hC7 hC15 hC16
 generalize insF (insB (bok0 []) x) y a0 a1 16=l2 at hJ hl hC7 hC15 hC16
 generalize insF (bok0 []) x v0 v1 8=l1 at hI hl hC7 hC15 hC16
 generalize insB (bok0 []) x=B1 at hI hJ
 rw[List.length_append]at hl
 refine pure_rule hT (T:=tab) (N:=121) (rs:=[.tmp 8]) Tryz.func6 rfl rfl rfl Kr rfl ?_
 (refine gW ?_;intros)
 refine hS.call ?_
 (refine gW ?_;intros)
 refine hF1.call ?_
 (refine gW ?_;intros)
 refine hF2.call ?_
 (refine gW ?_;intros)
 refine hR1.call ?_
 (refine gW ?_;intros)
 refine hR2.call ?_
 (refine gS ?_;intros)
 refine Sq.go ?_;(refine gS ?_;intros)
 refine Sq.go ?_;(refine gS ?_;intros)
 refine Sq.alt (Awp.seq (Awp.effsF (m:=⟨[bX 32 (up (eCat c)),bX 32 (up (eCat d)),bX 34 (up [di v0,di v1]),bX 34 (up [di a0,di a1]),bX 32 (up (eCat x)),bX 32 (up (eCat y))],[]⟩) hT Kr Kr Kr ⟨[bX 32 (up (eCat c)),bX 32 (up (eCat d)),bX 34 (up [di v0,di v1]),bX 34 (up [di a0,di a1]),bX 32 (up (eCat x)),bX 32 (up (eCat y)),none],[]⟩ 6 0
  [⟨8,lp 6,⟨[bX 32 (up (eCat c)),bX 32 (up (eCat d)),bX 34 (up [di v0,di v1]),bX 34 (up [di a0,di a1]),bX 32 (up (eCat x)),bX 32 (up (eCat y)),bX 26 (up [.nils,.nils,.nils])],[]⟩,[]⟩,⟨9,.junk,⟨[bX 32 (up (eCat c)),bX 32 (up (eCat d)),bX 34 (up [di v0,di v1]),bX 34 (up [di a0,di a1]),bX 32 (up (eCat x)),bX 32 (up (eCat y)),bX 26 (up (eBok B1))],[]⟩,[8]⟩]
  Kr rfl rfl (WeakF.of ⟨.inl rfl,.inl rfl,.inl rfl,.inl rfl,.inl rfl,.inl rfl,Tt⟩ Tt) ⟨WeakF.of ⟨.inl rfl,.inl rfl,.inl rfl,.inl rfl,.inl rfl,.inl rfl,Tt⟩ Tt,WeakF.of ⟨.inl rfl,.inl rfl,.inl rfl,.inl rfl,.inl rfl,.inl rfl,Tt⟩ Tt,Tt⟩ ?_))
 conv=>whnf
 (refine gS ?_;intros)
 refine qC hN ?_
 (refine gS ?_;intros)
 refine qC hI ?_
 (refine gS ?_;intros)
 refine⟨?_,?_,?_⟩
 .conv=>whnf
  (refine gS ?_;intros)
  exact⟨rfl,rfl⟩
 .conv=>whnf
  (refine gS ?_;intros)
  exact⟨Tt,rfl⟩
 conv=>whnf
 (refine gS ?_;intros)
 refine Awp.of_vc hT ?_
 (refine gW ?_;intros)
 refine hJ.call ?_
 (refine gS ?_;intros)
 refine Sq.go ?_;(refine gS ?_;intros)
 refine Sq.go ?_;(refine gS ?_;intros)
 refine Sq.alt (Awp.seq (Awp.oneX hT 7 ⟨18,51,80,6,eWor ⟨B2,l1++l2⟩⟩ Kr Kr Kr Kr (BoxOk1.of rfl ⟨rfl,rfl,rfl⟩ rfl ⟨rfl,rfl,rfl⟩ rfl rfl rfl rfl rfl rfl rfl rfl rfl) rfl ?_))
 conv=>whnf
 (refine gS ?_;intros)
 refine FrzR.mk (fun i=>eFct ((l1++l2).getD i default)) (fun i hi=>rows2 l1 l2 l1.length rfl _ i Om) ?_
 (refine gS ?_;intros)
 refine⟨congrArg (fun n=>AV.d (.agg [eCrss B2.crs,ePrgs B2.prg,eSyss B2.sys,.sl 8 n fun i=>eFct ((l1++l2).getD i default)])) (show 0+l1.length+l2.length=(l1++l2).length by rw[List.length_append];omega),?_⟩
 conv=>whnf
 (refine gS ?_;intros)
 refine Awp.of_vc hT ?_
 (refine gW ?_;intros)
 refine loop_rule hT (S:=Nat) (fun k=>([(11,lp 5),(18,.d (.pt (eWor ⟨B2,l1++l2⟩) 0)),(19,.mp (.loc 7)),(20,.mp (.loc 8)),(84,.d (eCrss x.crs)),(85,dV x.crs.length),(86,dV k)],
  ⟨[none,none,none,none,none,bX 32 (up (eCat y)),none,some (.map (.one .i64) (hasN (numsC (x.crs.take k))) fun key=>.d (.bool (hasN (numsC (x.crs.take k)) key))),some (.map (.one .i64) (hasN (numsC (x.crs.take k))) fun key=>.d (.bool (hasN (numsC (x.crs.take k)) key)))],[]⟩)) (fun k=>k<=x.crs.length) (fun k=>x.crs.length-k) 0 ?_ ?_ ?_
 .repeat' (first|exact Tt|exact rfl|exact Nat.le_refl _|refine And.intro ?_ ?_)
  all_goals first
   |(intro key hf;exact⟨rfl,fun _=>⟨rfl,rfl⟩⟩)
   |(intro key hf;exact⟨(by simp[hasN,numsC]),fun h=>(by cases h)⟩)
 .exact Nat.zero_le _
 intro k hk
 dsimp only at hk⊢
 by_cases hk2:k<x.crs.length
 case pos =>
  (refine gS ?_;intros)
  refine Sq.go ?_;(refine gS ?_;intros)
  refine Sq.go ?_;(refine gS ?_;intros)
  refine Sq.alt (Awp.mapsN hT 6 ⟨63,90,92,true,0,2,.loc 7,dV (x.crs.getD k default).number⟩ ⟨63,93,95,true,3,5,.loc 8,dV (x.crs.getD k default).number⟩
   Kr Kr Kr Kr (MapOp.of rfl ⟨rfl,rfl,rfl⟩ rfl rfl rfl rfl rfl rfl rfl rfl) (MapOp.of rfl ⟨rfl,rfl,rfl⟩ rfl rfl rfl rfl rfl rfl rfl rfl) rfl rfl rfl rfl (fun e=>by cases e) ?_)
  conv=>whnf
  (refine gS ?_;intros)
  refine⟨⟨rfl,rfl,rfl,rfl⟩,?_⟩
  (refine gW ?_;intros)
  refine⟨k+1,by show k+1<=x.crs.length;omega,by show x.crs.length-(k+1)<x.crs.length-k;omega,?_⟩
  dsimp only
  rw[numsC_take hk2]
  repeat' (first|exact Tt|exact rfl|exact Nat.le_refl _|refine And.intro ?_ ?_)
  all_goals first
   |(intro key hf;exact⟨hasN_snoc _ _ key hf,fun _=>⟨valN_snoc _ _ key hf,rfl⟩⟩)
 obtain rfl:k=x.crs.length:=by omega
 rw[List.take_length]
 clear hk hk2
 (refine gW ?_;intros)
 refine loop_rule hT (S:=Nat) (fun k=>([(18,.d (.pt (eWor ⟨B2,l1++l2⟩) 0)),(19,.mp (.loc 7)),(20,.mp (.loc 8)),(98,.d (eCrss y.crs)),(99,dV y.crs.length),(100,dV k)],
  ⟨[none,none,none,none,none,none,none,some (.map (.one .i64) (hasN (numsC x.crs)) fun key=>.d (.bool (hasN (numsC x.crs) key))),some (.map (.one .i64) (hasN (numsC x.crs++numsC (y.crs.take k))) fun key=>.d (.bool (hasN (numsC x.crs++numsC (y.crs.take k)) key)))],[]⟩)) (fun k=>k<=y.crs.length) (fun k=>y.crs.length-k) 0 ?_ ?_ ?_
 .dsimp only
  rw[List.take_zero,show numsC []=[] from rfl,List.append_nil]
  repeat' (first|exact Tt|exact rfl|exact Nat.le_refl _|refine And.intro ?_ ?_)
  all_goals first
   |(intro key hf;exact⟨rfl,fun _=>⟨rfl,rfl⟩⟩)
 .exact Nat.zero_le _
 intro k hk
 dsimp only at hk⊢
 by_cases hk2:k<y.crs.length
 case pos =>
  (refine gW ?_;intros)
  refine⟨k+1,by show k+1<=y.crs.length;omega,by show y.crs.length-(k+1)<y.crs.length-k;omega,?_⟩
  dsimp only
  rw[numsC_take hk2,<-List.append_assoc]
  repeat' (first|exact Tt|exact rfl|exact Nat.le_refl _|refine And.intro ?_ ?_)
  all_goals first
   |(intro key hf;exact⟨rfl,fun _=>⟨rfl,rfl⟩⟩)
   |(intro key hf;exact⟨hasN_snoc _ _ key hf,fun _=>⟨valN_snoc _ _ key hf,rfl⟩⟩)
 obtain rfl:k=y.crs.length:=by omega
 rw[List.take_length]
 clear hk hk2
 (refine gS ?_;intros)
 refine Sq.go ?_;(refine gS ?_;intros)
 refine Sq.alt (Awp.frz [7] 19 (eSet (numsC x.crs)) (.mp rfl fun k hk=>.d) (Awp.frz [8] 20 (eSet (numsC x.crs++numsC y.crs)) (.mp rfl fun k hk=>.d) (vc_ok hT _ _ _ _ (Ev.o ?_))))
 (refine gW ?_;intros)
 refine⟨⟨29,[],[.d (.pt (eWor ⟨B2,l1++l2⟩) 0)],.inr ⟨[],[.pt (eWor ⟨B2,l1++l2⟩) 0],rfl,rfl,rfl⟩,hC7.call ?_⟩⟩
 (refine gW ?_;intros)
 refine⟨⟨29,[],[.d (.pt (eWor ⟨B2,l1++l2⟩) 0)],.inr ⟨[],[.pt (eWor ⟨B2,l1++l2⟩) 0],rfl,rfl,rfl⟩,hC15.call ?_⟩⟩
 (refine gW ?_;intros)
 refine⟨⟨29,[],[.d (.pt (eWor ⟨B2,l1++l2⟩) 0)],.inr ⟨[],[.pt (eWor ⟨B2,l1++l2⟩) 0],rfl,rfl,rfl⟩,hC16.call ?_⟩⟩
 (refine gW ?_;intros)
 exact⟨rfl,Tt⟩
theorem bookNumbers_law (c:Cat)(hc:okCat c)(d:Cat)(hd:okCat d)(v0 v1:Int)(_:okRat (v0,v1))(a0 a1:Int)(_:okRat (a0,a1)):Pure Tryz.prog 6 [.agg (eCat c),.agg (eCat d),.agg (eSpn2 (v0,v1)),.agg (eSpn2 (a0,a1))] [.bool true]:=bookNumbers_ok c d hc hd v0 v1 a0 a1
end Go.Proofs.YtmlhghddfobmmaaGreatDoor
