import Derived.Test.YtmlhghddfobmmaaGreatDoorFewB
import Derived.Test.YtmlhghddfobmmaaGreatDoorOpenW
import Derived.Test.YtmlhghddfobmmaaGreatDoorNmG
import Derived.Test.YtmlhghddfobmmaaGreatDoorInsG
import Derived.Test.YtmlhghddfobmmaaGreatDoorNamP
import Derived.Test.YtmlhghddfobmmaaGreatDoorBookQ
import Derived.Test.YtmlhghddfobmmaaGreatDoorInrP
namespace Go.Proofs.YtmlhghddfobmmaaGreatDoor
set_option linter.unusedSimpArgs false
set_option linter.unusedVariables false
open Go Go.Ab
set_option maxRecDepth 100000
theorem wfR_of {r:Rule}(h1:In1 r)(h2:∀k∈r.kids,wfR k):wfR r:=fun p hp=>by
 rw[preR_eq]at hp
 rcases List.mem_cons.1 hp with rfl|hp
 .exact h1
 .obtain⟨k,hk,hp⟩:=preL_mem.1 hp
  exact wfR_any (h2 k hk) 2 p hp
theorem numO_in {l:List Crs}(hl:∀x∈l,In .i64 x.number)(s:ByteArray){n:Int}(hn:In .i64 n):In .i64 ((numO l s n).getD 0):=by
 unfold numO
 split
 .exact hn
 .split
  .exact hl _ (getD_mem ‹_›)
  .exact in64.2 Dc
theorem wfR_res {l:List Crs}(hl:∀x∈l,In .i64 x.number):∀r:Rule,wfR r->wfR (resR l r):=by
 refine rule_ind fun r ih h=>?_
 obtain⟨⟨a1,a2,a3,a4,a5⟩,h2⟩:=wfR_kids h
 rw[resR_eq]
 refine wfR_of ⟨a1,?_,a3,a4,by show(r.kids.map (resR l)).length<_;rw[List.length_map];exact a5⟩ fun k hk=>?_
 .show In .i64 (refN l r)
  unfold refN
  split
  .exact numO_in hl _ a2
  .exact a2
 .obtain⟨k0,hk0,rfl⟩:=List.mem_map.1 (show k∈r.kids.map (resR l) from hk)
  exact ih k0 hk0 (h2 k0 hk0)
theorem resR_name (l:List Crs)(r:Rule):(resR l r).name=r.name:=by
 rw[resR_eq]
 rfl
theorem few_of {c:Cat}(h:fewC c=true):(c.crs.length<=8/\c.same.length<=8/\c.prg.length<=4/\wsum c<=20)/\(∀x∈c.crs,fewX x=true)/\∀p∈c.prg,fewP p=true:=by
 unfold fewC at h
 rw[Bool.and_eq_true,Bool.and_eq_true,decide_eq_true_eq]at h
 exact⟨h.1,List.all_eq_true.1 h.2.1,List.all_eq_true.1 h.2.2⟩
theorem smCrs_of {c:Cat}(_:okCat c)(hf:fewC c=true):∀x∈c.crs,smCrs x:=fun x hx=>by
 have:=(few_of hf).2.1 x hx
 unfold fewX at this
 rw[Bool.and_eq_true]at this
 exact⟨fewR_cnt this.1,fewR_cnt this.2⟩
section
variable {c:Cat}(h:okCat c)
include h
theorem catW_of:CatW c:=by
 obtain⟨⟨h1,h2⟩,⟨h3,_⟩,⟨h5,h6⟩,_⟩:=h
 exact⟨h1,fun x hx=>(h2 x hx).1,h3,h5,fun p hp=>⟨(h6 p hp).2.1.1,fun q hq=>((h6 p hp).2.1.2 q hq).1⟩⟩
theorem catE_of:CatE c:=by
 obtain⟨⟨h1,h2⟩,⟨h3,_⟩,⟨h5,h6⟩,⟨h7,_⟩,h9,⟨h10,_⟩,h12⟩:=h
 exact⟨h1,fun x hx=>⟨(h2 x hx).1.1.1,(h2 x hx).1.2.1⟩,h3,h5,fun p hp=>⟨(h6 p hp).2.1.1,fun q hq=>((h6 p hp).2.1.2 q hq).1⟩,h7,h9,h10,h12⟩
theorem wfSys_of:wfSys (sysC c):=by
 obtain⟨_,_,_,h7,h9,h10,h12⟩:=h
 exact⟨h7,h10,h9,h12⟩
theorem wfPrg_of:∀p∈c.prg,wfPrg p:=fun p hp=>by
 obtain⟨_,_,⟨_,h6⟩,_⟩:=h
 obtain⟨g1,g2,_⟩:=h6 p hp
 exact⟨g1.1,g1.2,g2.1,fun q hq=>(g2.2 q hq).1.2⟩
theorem wfCrs_of:∀x∈c.crs,wfCrs x:=fun x hx=>by
 obtain⟨⟨_,h2⟩,_⟩:=h
 exact⟨(h2 x hx).1.1.1,(h2 x hx).1.2.1⟩
theorem wfBok_of:wfBok ⟨c.crs,c.prg,[sysC c]⟩ :=
 ⟨⟨h.1.1,wfCrs_of h⟩,⟨h.2.2.1.1,wfPrg_of h⟩,by show(1:Nat)<=_;decide,fun s hs=>by rw[List.mem_singleton.1 hs];exact wfSys_of h⟩
theorem catF_of (hf:fewC c=true):CatF c:=by
 obtain⟨⟨f1,f2,f3,_⟩,f5,f6⟩:=few_of hf
 obtain⟨_,_,⟨_,h6⟩,⟨h7,_⟩,h9,⟨h10,_⟩,_⟩:=h
 refine⟨Om,Om,Om,h7,h9,h10,fun x hx=>?_,fun p hp=>⟨?_,fun q hq=>⟨?_,((h6 p hp).2.1.2 q hq).1.2⟩⟩⟩
 .have:=f5 x hx
  unfold fewX at this
  rw[Bool.and_eq_true]at this
  exact⟨fewR_cnt this.1,fewR_cnt this.2⟩
 .have:=f6 p hp
  unfold fewP at this
  rw[Bool.and_eq_true,decide_eq_true_eq]at this
  omega
 .have:=f6 p hp
  unfold fewP at this
  rw[Bool.and_eq_true]at this
  have:=List.all_eq_true.1 this.2 q hq
  unfold fewQ at this
  rw[decide_eq_true_eq]at this
  omega
theorem okCat_res:okCat (resC c):=by
 obtain⟨⟨h1,h2⟩,⟨h3,h4⟩,⟨h5,h6⟩,h7⟩:=h
 have hl:∀x∈c.crs,In .i64 x.number:=fun x hx=>(h2 x hx).2.1
 have hR:∀r,okRule r->okRule (resR c.crs r):=fun r hr=>⟨wfR_res hl r hr.1,by rw[resR_name];exact hr.2⟩
 refine⟨⟨?_,fun y hy=>?_⟩,⟨?_,fun y hy=>?_⟩,⟨?_,fun y hy=>?_⟩,h7⟩
 .show(c.crs.map (resX c.crs)).length<=_
  rw[List.length_map]
  exact h1
 .obtain⟨x,hx,rfl⟩:=List.mem_map.1 (show y∈c.crs.map (resX c.crs) from hy)
  obtain⟨⟨g1,g2⟩,g3⟩:=h2 x hx
  exact⟨⟨hR _ g1,hR _ g2⟩,g3⟩
 .show(c.same.map (resY c.crs)).length<=_
  rw[List.length_map]
  exact h3
 .obtain⟨x,hx,rfl⟩:=List.mem_map.1 (show y∈c.same.map (resY c.crs) from hy)
  exact⟨numO_in hl _ (h4 x hx).1,numO_in hl _ (h4 x hx).2⟩
 .show(c.prg.map (resP c.crs)).length<=_
  rw[List.length_map]
  exact h5
 .obtain⟨p,hp,rfl⟩:=List.mem_map.1 (show y∈c.prg.map (resP c.crs) from hy)
  obtain⟨g1,⟨g2,g3⟩,g4⟩:=h6 p hp
  refine⟨g1,⟨?_,fun z hz=>?_⟩,g4⟩
  .show(p.reqs.map (resQ c.crs)).length<=_
   rw[List.length_map]
   exact g2
  .obtain⟨q,hq,rfl⟩:=List.mem_map.1 (show z∈p.reqs.map (resQ c.crs) from hz)
   obtain⟨⟨k1,k2⟩,⟨k3,k4,k5⟩,k6⟩:=g3 q hq
   refine⟨⟨k1,?_⟩,⟨k3,k4,fun n hn=>?_⟩,k6⟩
   .show(List.zipWith _ q.names q.fr).length<=_
    rw[List.length_zipWith]
    exact Nat.le_trans (Nat.min_le_right _ _) k2
   .obtain⟨i,hi,e⟩:=List.getElem_of_mem (show n∈List.zipWith (fun s n=>(numO c.crs s n).getD 0) q.names q.fr from hn)
    rw[List.getElem_zipWith]at e
    rw[<-e]
    exact numO_in hl _ (k5 _ (List.getElem_mem _))
end
theorem wfBok_ins {b:Bok}{c:Cat}(hb:wfBok b)(hc:okCat c)(h1:b.crs.length<=1000)(h2:c.crs.length<=1000)(h3:b.prg.length<=1000)(h4:c.prg.length<=1000)(h5:b.sys.length<=1000):wfBok (insB b c):=by
 obtain⟨⟨_,b2⟩,⟨_,b4⟩,_,b6⟩:=hb
 refine⟨⟨?_,fun x hx=>?_⟩,⟨?_,fun x hx=>?_⟩,?_,fun x hx=>?_⟩
 .show(b.crs++c.crs).length<=_
  rw[List.length_append]
  omega
 .exact(List.mem_append.1 (show x∈b.crs++c.crs from hx)).elim (b2 x) (wfCrs_of hc x)
 .show(b.prg++c.prg).length<=_
  rw[List.length_append]
  omega
 .exact(List.mem_append.1 (show x∈b.prg++c.prg from hx)).elim (b4 x) (wfPrg_of hc x)
 .show(b.sys++(if sysB c=true then[sysC c] else[])).length<=_
  rw[List.length_append]
  split
  .rw[List.length_singleton];omega
  .rw[List.length_nil];omega
 .rcases List.mem_append.1 (show x∈b.sys++(if sysB c=true then[sysC c] else[]) from hx) with hx|hx
  .exact b6 x hx
  .split at hx
   .rw[List.mem_singleton.1 hx]
    exact wfSys_of hc
   .exact(List.not_mem_nil hx).elim
theorem instG_ok (b:Bok)(c:Cat)(fr til kn:Int)(hb:wfBok b)(h1:b.crs.length<=100)(h3:b.prg.length<=100)(h5:b.sys.length<=100)(hc:okCat c)(hf:fewC c=true) :
 Pure Tryz.prog 15 [.agg (eBok b),.agg (eCat c),.agg [di fr,di til],di kn] (insRes b c fr til kn):=by
 obtain⟨⟨f1,f2,f3,_⟩,_⟩:=few_of hf
 exact install_ok b c fr til kn hb (wfBok_of hc) (catF_of hc hf) (catE_of hc) (catE_of (okCat_res hc)) h1 Om h3 Om h5 Om
theorem few10H_ok (c:Cat)(hc:okCat c):Pure Tryz.prog 13 [.agg (eCat c)] [.bool (fewC c)]:=few10_ok c (catW_of hc)
theorem insRes_yes {b:Bok}{c:Cat}{fr til kn:Int}(h:insE b c fr til kn=0):insRes b c fr til kn=[.agg (eBok (insB b c)),eFcts (insF b c fr til kn),di 0]:=if_pos h
theorem insRes_no {b:Bok}{c:Cat}{fr til kn:Int}(h:insE b c fr til kn≠0):insRes b c fr til kn=[.agg (eBok bokZ),.nils,di (insE b c fr til kn)]:=if_neg h
theorem insE_of {b:Bok}{c:Cat}{fr til kn:Int}(h1:chkB b=0)(h2:resE c=0)(h3:c=resC c)(h4:c.same.all pairB=true)(h5:chkB ⟨c.crs,c.prg,[sysC c]⟩=0):insE b c fr til kn=if spnOk fr til kn=true then 0 else 140:=by
 unfold insE
 rw[if_pos h1,if_pos h2,decide_eq_true h3,h4,decide_eq_true h5,Bool.true_and,Bool.true_and,Bool.true_and]
theorem insE_zero {b:Bok}{c:Cat}{fr til kn:Int}(h:insE b c fr til kn=0):chkB b=0/\resE c=0/\c.same.all pairB=true/\chkB ⟨c.crs,c.prg,[sysC c]⟩=0/\spnOk fr til kn=true:=by
 unfold insE at h
 by_cases h1:chkB b=0
 case neg=>rw[if_neg h1]at h;exact absurd h h1
 rw[if_pos h1]at h
 by_cases h2:resE c=0
 case neg=>rw[if_neg h2]at h;exact absurd h h2
 rw[if_pos h2]at h
 split at h
 .rename_i h3
  simp only[Bool.and_eq_true,decide_eq_true_eq]at h3
  exact⟨h1,h2,h3.2.1,h3.2.2.1,h3.2.2.2⟩
 .cases h
theorem uni_of {c:Cat}(h:resE c=0):(c.crs.map fun x=>x.number).Nodup/\(c.prg.map fun x=>x.number).Nodup:=by
 unfold resE at h
 split at h
 .split at h
  .rename_i h2
   unfold uniC at h2
   simp only[Bool.and_eq_true,decide_eq_true_eq]at h2
   exact⟨h2.2.1,h2.2.2.2.1⟩
  .cases h
 .cases h
set_option maxHeartbeats 0
section
variable {w:Wor}{t kn:Int}{ns:List Int}
end
def eSpn (fr til:Int):List D:=[di fr,di til]
def bok0 (l:List Crs):Bok:=⟨l,[],[]⟩
def flatCat (l:List Crs):Cat:=⟨l,[],[],[],[],[],[]⟩
def plainC (s:ByteArray)(n:Int):Crs:=⟨s,n,4,0,.mk 1 0 .empty 0 0 [],.mk 2 0 .empty 0 0 []⟩
theorem plain_ok (s:ByteArray)(n:Int):Pure Tryz.prog 45 [.str s,di n] [.agg (eCrs (plainC s n))]:=by
 refine pure_rule hT (T:=tab) (N:=10) (rs:=[.cell 4 68]) Tryz.func45 rfl rfl rfl Kr rfl ?_
 repeat' (first|with_reducible refine Sq.go ?_|((with_reducible refine Ev.mk ?_);conv=>whnf)|with_reducible refine Dr.mk ⟨Kr,Kr⟩ ?_|with_reducible refine obG ?_|with_reducible refine Ob.mk ?_ ?_|(with_reducible first|refine brT fun h=>?_|refine brF fun h=>?_|refine Br.mk (fun h=>?_) fun h=>?_)<;>(try simp only[bsl,beq_iff_eq,bne_iff_ne,bs2]at h)<;>(try contradiction)<;>try (exfalso;omega))
 exact⟨.inr ⟨rfl,rfl,rfl,rfl,rfl,rfl,rfl,rfl,rfl,rfl,rfl,rfl,rfl,rfl,rfl,rfl,Tt⟩,Tt⟩
theorem all14_ok:Pure Tryz.prog 46 [] [.agg (eSpn 0 1024)]:=by
 refine pure_rule hT (T:=tab) (N:=2) (rs:=[.cell 0 34]) Tryz.func46 rfl rfl rfl Kr rfl ?_
 repeat' (first|with_reducible refine Sq.go ?_|((with_reducible refine Ev.mk ?_);conv=>whnf)|with_reducible refine Dr.mk ⟨Kr,Kr⟩ ?_|with_reducible refine obG ?_|with_reducible refine Ob.mk ?_ ?_|(with_reducible first|refine brT fun h=>?_|refine brF fun h=>?_|refine Br.mk (fun h=>?_) fun h=>?_)<;>(try simp only[bsl,beq_iff_eq,bne_iff_ne,bs2]at h)<;>(try contradiction)<;>try (exfalso;omega))
 exact⟨.inl rfl,Tt⟩
theorem new14_ok:Pure Tryz.prog 21 [] [.agg (eBok (bok0 []))]:=by
 refine pure_rule hT (T:=tab) (N:=2) (rs:=[.cell 0 26]) Tryz.func21 rfl rfl rfl Kr rfl ?_
 repeat' (first|with_reducible refine Sq.go ?_|((with_reducible refine Ev.mk ?_);conv=>whnf)|with_reducible refine Dr.mk ⟨Kr,Kr⟩ ?_|with_reducible refine obG ?_|with_reducible refine Ob.mk ?_ ?_|(with_reducible first|refine brT fun h=>?_|refine brF fun h=>?_|refine Br.mk (fun h=>?_) fun h=>?_)<;>(try simp only[bsl,beq_iff_eq,bne_iff_ne,bs2]at h)<;>(try contradiction)<;>try (exfalso;omega))
 exact⟨.inr ⟨rfl,rfl,rfl,Tt⟩,Tt⟩
def sA:ByteArray:=⟨#[65]⟩
def cA:Crs:=plainC sA 1
def L0:List Fct:=[⟨1,1,0,0,3,9,8,0⟩,⟨12,0,0,1,0,1024,8,1⟩]
def w0:Wor:=⟨bok0 [cA],L0⟩
def wZ:Wor:=⟨bok0 [],[]⟩
theorem f1:crsOf w0 1 3 8=some cA:=by rfl
theorem f2:readsT ⟨1,1,0⟩ 3=[rdK ⟨1,1,0⟩ 3]:=by rfl
theorem f3:crsOf w0 1 9 8=none:=by rfl
theorem f4:nums w0 8=[1]:=by
 have:numsL w0.fcts (atV w0.fcts ⟨12,0,0⟩ 0 8).1=[1]:=by rfl
 unfold nums
 rw[this,srtI]
 exact List.mergeSort_singleton ..
theorem f5 (kn:Int):nums wZ kn=[]:=by
 have:numsL wZ.fcts (atV wZ.fcts ⟨12,0,0⟩ 0 kn).1=[]:=by rfl
 unfold nums
 rw[this,srtI]
 exact List.mergeSort_nil
theorem f6:equalZ wZ 3 0 8=startE 3:=by
 have h1:iterE wZ 0 8 [] 1 (startE 3)=startE 3:=by rfl
 have h:=equal_stop (w:=wZ) (n:=3) (t:=0) (kn:=8) (j:=1) (Nat.zero_le _) (by rw[f5,h1];decide) (by rw[f5,h1];decide)
 rw[h,f5,h1]
theorem f7:equalL wZ 3 0 8=[3]:=by
 rw[equalL,if_pos Dc,f6]
 exact List.mergeSort_singleton ..
theorem f8:equalR wZ 3 0 8=[rdK ⟨12,0,0⟩ 0]:=by rw[equalR,if_pos Dc,f6];rfl
theorem f9:sysOf wZ 0 8=none:=by rfl
theorem wfA:wfCrs cA:=by
 refine⟨fun p hp=>?_,fun p hp=>?_⟩<;>(rw[preR_eq]at hp;rcases List.mem_cons.1 hp with rfl|hp)<;>first|(refine⟨?_,?_,?_,?_,Dc⟩<;>exact in64.2 Dc)|(rw[show(Rule.kids _)=[] from rfl,preL_nil]at hp;cases hp)
theorem wf_bok0 {l:List Crs}(h:l.length<=1000)(hw:∀c∈l,wfCrs c):wfBok (bok0 l) :=
 ⟨⟨by show l.length<=_;omega,hw⟩,⟨Nat.zero_le _,fun c hc=>(List.not_mem_nil hc).elim⟩,Nat.zero_le _,fun c hc=>(List.not_mem_nil hc).elim⟩
theorem smA:smCrs cA:=by
 have e1:cntR cA.need=1:=by rfl
 have e2:cntR cA.bar=1:=by rfl
 exact⟨by rw[e1];decide,by rw[e2];decide⟩
theorem wf_w0:WfW w0 :=
 ⟨wf_bok0 Dc (fun c hc=>by rw[List.mem_singleton.1 hc];exact wfA),fun c hc=>by rw[List.mem_singleton.1 hc];exact smA,by show(2:Nat)<=_;decide⟩
theorem wf_wZ:WfW wZ:=⟨wf_bok0 (Nat.zero_le _) (fun c hc=>(List.not_mem_nil hc).elim),fun c hc=>(List.not_mem_nil hc).elim,Nat.zero_le _⟩
def crs1:Crs:=⟨.empty,1,0,0,default,default⟩
theorem chk1:chkB (bok0 [crs1])=140:=by rfl
theorem wf1:wfCrs crs1:=by
 have h:wfR (default:Rule):=fun p hp=>by
  rw[preR_eq]at hp
  rcases List.mem_cons.1 hp with rfl|hp
  .refine⟨?_,?_,?_,?_,Dc⟩<;>exact in64.2 Dc
  .rw[show(Rule.kids (default:Rule))=[] from rfl,preL_nil]at hp
   cases hp
 exact⟨h,h⟩
theorem wfDC:wfCrs default:=by
 have h:wfR (default:Rule):=fun p hp=>by
  rw[preR_eq]at hp
  rcases List.mem_cons.1 hp with rfl|hp
  .refine⟨?_,?_,?_,?_,Dc⟩<;>exact in64.2 Dc
  .rw[show(Rule.kids (default:Rule))=[] from rfl,preL_nil]at hp
   cases hp
 exact⟨h,h⟩
theorem lookO_mem {α:Type}[Inhabited α]{l:List α}{t:Int}{v:Int × Bool}{ok:α->Bool}{x:α}(h:lookO l t v ok=some x):x∈l/\ok x=true:=by
 unfold lookO at h
 split at h
 .rename_i hc
  injection h with h
  rw[<-h]
  exact⟨getD_mem Om,hc.2.2.2.2⟩
 .cases h
theorem crsOf_wf {w:Wor}(hw:WfW w)(n t kn:Int):wfCrs ((crsOf w n t kn).getD default):=by
 cases h:crsOf w n t kn with
 |none=>exact wfDC
 |some c=>exact hw.bok.1.2 c (lookO_mem h).1
theorem wfDS:wfSys default:=⟨⟨Nat.zero_le _,fun x h=>(List.not_mem_nil h).elim⟩,⟨Nat.zero_le _,fun x h=>(List.not_mem_nil h).elim⟩,Nat.zero_le _,Nat.zero_le _⟩
theorem sysOf_wf {w:Wor}(hw:WfW w)(t kn:Int):wfSys ((sysOf w t kn).getD default):=by
 cases h:sysOf w t kn with
 |none=>exact wfDS
 |some c=>exact hw.bok.2.2.2 c (lookO_mem h).1
theorem okA:okCat (flatCat [cA]):=by
 refine⟨⟨by show(1:Nat)<=_;decide,fun x hx=>?_⟩,⟨Nat.zero_le _,fun x hx=>(List.not_mem_nil hx).elim⟩,⟨Nat.zero_le _,fun x hx=>(List.not_mem_nil hx).elim⟩,⟨Nat.zero_le _,fun x hx=>(List.not_mem_nil hx).elim⟩,Nat.zero_le _,⟨Nat.zero_le _,fun x hx=>(List.not_mem_nil hx).elim⟩,Nat.zero_le _⟩
 rw[List.mem_singleton.1 hx]
 exact⟨⟨⟨wfA.1,Dc⟩,wfA.2,Dc⟩,in64.2 Dc,in64.2 Dc,in64.2 Dc⟩
theorem okZ:okCat (flatCat []) :=
 ⟨⟨Nat.zero_le _,fun x hx=>(List.not_mem_nil hx).elim⟩,⟨Nat.zero_le _,fun x hx=>(List.not_mem_nil hx).elim⟩,⟨Nat.zero_le _,fun x hx=>(List.not_mem_nil hx).elim⟩,⟨Nat.zero_le _,fun x hx=>(List.not_mem_nil hx).elim⟩,Nat.zero_le _,⟨Nat.zero_le _,fun x hx=>(List.not_mem_nil hx).elim⟩,Nat.zero_le _⟩
theorem fewA:fewC (flatCat [cA])=true:=by rfl
theorem fewZ:fewC (flatCat [])=true:=by rfl
theorem resA:resE (flatCat [cA])=0:=by rfl
theorem resZ:resE (flatCat [])=0:=by rfl
theorem insFA:insF (bok0 []) (flatCat [cA]) 3 9 8=L0:=by rfl
theorem insBA:insB (bok0 []) (flatCat [cA])=bok0 [cA]:=by rfl
theorem wfb0:wfBok (bok0 []):=wf_bok0 (Nat.zero_le _) (fun c hc=>(List.not_mem_nil hc).elim)
theorem install0_ok:Pure Tryz.prog 15 [.agg (eBok (bok0 [])),.agg (eCat (flatCat [cA])),.agg (eSpn 3 9),di 8] [.agg (eBok (bok0 [cA])),eFcts L0,di 0]:=by
 have h:=instG_ok (bok0 []) (flatCat [cA]) 3 9 8 wfb0 (Nat.zero_le _) (Nat.zero_le _) (Nat.zero_le _) okA fewA
 rw[insRes_yes (by rw[insE_of rfl resA rfl rfl rfl];rfl),insFA,insBA]at h
 exact h
theorem install0_none:Pure Tryz.prog 15 [.agg (eBok (bok0 [])),.agg (eCat (flatCat [])),.agg (eSpn 0 1024),di 8] [.agg (eBok (bok0 [])),eFcts [],di 0]:=by
 have h:=instG_ok (bok0 []) (flatCat []) 0 1024 8 wfb0 (Nat.zero_le _) (Nat.zero_le _) (Nat.zero_le _) okZ fewZ
 rw[insRes_yes (by rw[insE_of rfl resZ rfl rfl rfl];rfl),show insB (bok0 []) (flatCat [])=bok0 [] from rfl,show insF (bok0 []) (flatCat []) 0 1024 8=[] from rfl]at h
 exact h
theorem install0_bad:Pure Tryz.prog 15 [.agg (eBok (bok0 [])),.agg (eCat (flatCat [cA])),.agg (eSpn 5 5),di 8] [.agg (eBok (bok0 [])),.nils,di 140]:=by
 have h:=instG_ok (bok0 []) (flatCat [cA]) 5 5 8 wfb0 (Nat.zero_le _) (Nat.zero_le _) (Nat.zero_le _) okA fewA
 have e:insE (bok0 []) (flatCat [cA]) 5 5 8=140:=by rw[insE_of rfl resA rfl rfl rfl];rfl
 rw[insRes_no (by rw[e];decide),e]at h
 exact h
theorem sane14_ok:Pure Tryz.prog 11 [] [.bool true]:=by
 have hPl:=plain_ok sA 1
 refine pure_rule hT (T:=tab) (N:=192) (rs:=[.tmp 0]) Tryz.func11 rfl rfl rfl Kr rfl ?_
 (refine gS ?_;intros)
 refine Sq.go ?_;(refine gS ?_;intros)
 refine hPl.call ?_
 (refine gS ?_;intros)
 have hNew:=new14_ok
 have hI1:=install0_ok
 have hw0:WfW w0:=wf_w0
 have c1:=bcourse_ok w0 hw0 1 3 8
 have c2:=bcourse_ok w0 hw0 1 9 8
 have c3:=numbers_ok w0 hw0 Dc 8
 rw[f1,f2]at c1
 rw[f3]at c2
 rw[f4]at c3
 have c4:=numbers_ok wZ wf_wZ (Nat.zero_le _) 8
 rw[f5]at c4
 have c5:=equal_ok wZ wf_wZ (Nat.zero_le _) 3 0 8
 rw[f7,f8]at c5
 have c6:=bsystem_ok wZ wf_wZ 0 8
 rw[f9]at c6
 have hAll:=all14_ok
 have hI2:=install0_none
 have hI3:=install0_bad
 have hL:L0.length=2:=rfl
 unfold w0 at c1 c2 c3
 generalize L0=L at hI1 c1 c2 c3 hL
 obtain⟨ff,hff⟩:∃ff:Nat->List D,ff=fun i=>eFct (L.getD i default):=⟨_,rfl⟩
 have he:eFcts L=.sl 8 2 ff:=by rw[eFcts,hL,hff]
 have hew:eWor ⟨bok0 [cA],L⟩=[eCrss [cA],ePrgs [],eSyss [],.sl 8 2 ff]:=by
  rw[<-he]
  rfl
 rw[he]at hI1
 rw[hew]at c1 c2 c3
 clear hff he hew hL
 refine Sq.alt (Awp.frz [0,1] 1 (.pt (eCat (flatCat [cA])) 0) (.ptr' rfl ⟨.rows rfl (Nat.le_refl _) (fun i hi=>by rw[show i=0 from Nat.lt_one_iff.1 hi];rfl),.eq rfl,.eq rfl,.eq rfl,.eq rfl,.eq rfl,.eq rfl,Tt⟩)
  (Awp.seq (Awp.effsF (m:=⟨[none,none],[]⟩) hT (by kernel_rfl) (by kernel_rfl) (by kernel_rfl) ⟨[none,none,none],[]⟩ 0 0
   [⟨8,lp 2,⟨[none,none,bX 26 (up [.nils,.nils,.nils])],[]⟩,[]⟩,⟨9,.junk,⟨[none,none,bX 26 (up (eBok (bok0 [cA])))],[]⟩,[8]⟩]
   Kr rfl rfl (WeakF.of Tt Tt) ⟨WeakF.of Tt Tt,WeakF.of Tt Tt,Tt⟩ ?_)))
 conv=>whnf
 (refine gS ?_;intros)
 refine qC hNew ?_
 (refine gS ?_;intros)
 refine qC hI1 ?_
 (refine gS ?_;intros)
 refine⟨?_,?_,?_⟩
 .conv=>whnf
  (refine gS ?_;intros)
  exact⟨rfl,rfl⟩
 .conv=>whnf
  (refine gS ?_;intros)
  exact⟨Tt,rfl⟩
 conv=>whnf
 (refine gS ?_;intros)
 refine Awp.of_vc hT ?_
 (refine gS ?_;intros)
 refine Sq.go ?_;(refine gS ?_;intros)
 refine c1.call ?_
 (refine gS ?_;intros)
 refine Sq.go ?_;(refine gS ?_;intros)
 refine c2.call ?_
 (refine gS ?_;intros)
 refine Sq.go ?_;(refine gS ?_;intros)
 refine c3.call ?_
 (refine gS ?_;intros)
 refine Sq.go ?_;(refine gS ?_;intros)
 refine CallVC.frz [] ?_ (c4.call ?_)
 .exact⟨.eq (.inr ⟨rfl,rfl,rfl,rfl,Tt⟩),.d,Tt⟩
 (refine gS ?_;intros)
 refine Sq.go ?_;(refine gS ?_;intros)
 refine CallVC.frz [] ?_ (c5.call ?_)
 .exact⟨.eq (.inr ⟨rfl,rfl,rfl,rfl,Tt⟩),.d,.d,.d,Tt⟩
 (refine gS ?_;intros)
 refine Sq.go ?_;(refine gS ?_;intros)
 refine CallVC.frz [] ?_ (c6.call ?_)
 .exact⟨.eq (.inr ⟨rfl,rfl,rfl,rfl,Tt⟩),.d,.d,Tt⟩
 (refine gS ?_;intros)
 refine Sq.go ?_;(refine gS ?_;intros)
 refine hAll.call ?_
 (refine gS ?_;intros)
 refine CallVC.frz [] ?_ (hI2.call ?_)
 .exact⟨.eq (.inr ⟨rfl,rfl,rfl,Tt⟩),.eq (.inr ⟨rfl,rfl,rfl,rfl,rfl,rfl,rfl,Tt⟩),.d,.d,Tt⟩
 (refine gS ?_;intros)
 refine Sq.go ?_;(refine gS ?_;intros)
 refine CallVC.frz [] ?_ (hI3.call ?_)
 .exact⟨.eq (.inr ⟨rfl,rfl,rfl,Tt⟩),.d,.d,.d,Tt⟩
 (refine gS ?_;intros)
 refine Sq.go ?_;(refine gS ?_;intros)
 refine Sq.go ?_;(refine gS ?_;intros)
 refine Sq.go ?_;(refine gS ?_;intros)
 refine Sq.alt (Awp.frz [9,10] 26 (.pt (eBok (bok0 [crs1])) 0) (.ptr' rfl ⟨.osl' rfl (Nat.le_refl _) (fun i hi=>by
  rw[show i=0 from Nat.lt_one_iff.1 hi]
  exact⟨.d,.d,.d,.d,.d,.d,.d,.d,.d,.eq rfl,.d,.d,.d,.d,.d,.eq rfl,Tt⟩),.eq rfl,.eq rfl,Tt⟩)
  (Awp.frz [11] 27 (eReds [rdK ⟨1,1,0⟩ 3]) (.rows rfl (Nat.le_refl _) (fun i hi=>by rw[show i=0 from Nat.lt_one_iff.1 hi];rfl))
  (Awp.frz [12] 28 (eReds [rdK ⟨12,0,0⟩ 0]) (.rows rfl (Nat.le_refl _) (fun i hi=>by rw[show i=0 from Nat.lt_one_iff.1 hi];rfl)) (vc_ok hT _ _ _ _ (Ev.o ?_)))))
 have d1:=sameCourse_ok cA cA wfA wfA
 have d2:=sameReds_ok [rdK ⟨1,1,0⟩ 3] [rdK ⟨1,1,0⟩ 3] Dc Dc
 have d3:=sameInts_ok [1] [1] Dc Dc
 have d4:=sameReds_ok [rdK ⟨12,0,0⟩ 0] [rdK ⟨12,0,0⟩ 0] Dc Dc
 have d5:=sameInts_ok [3] [3] Dc Dc
 have d6:=sameSys_ok default default ⟨⟨Nat.zero_le _,fun x h=>(List.not_mem_nil h).elim⟩,⟨Nat.zero_le _,fun x h=>(List.not_mem_nil h).elim⟩,Nat.zero_le _,Nat.zero_le _⟩ ⟨⟨Nat.zero_le _,fun x h=>(List.not_mem_nil h).elim⟩,⟨Nat.zero_le _,fun x h=>(List.not_mem_nil h).elim⟩,Nat.zero_le _,Nat.zero_le _⟩
 have d7:=bcheck_ok (bok0 [crs1]) (wf_bok0 Dc (fun c hc=>by rw[List.mem_singleton.1 hc];exact wf1))
 have d8:=bcheck_ok (bok0 []) (wf_bok0 Dc (fun c hc=>by cases hc))
 rw[chk1]at d7
 rw[show chkB (bok0 [])=0 from rfl]at d8
 rw[decide_eq_true rfl]at d1 d2 d3 d4 d5 d6
 clear c1 c2 c3 c4 c5 c6 hI1 hI2 hI3 hNew hAll hPl hw0
 have d4c:Pure Tryz.prog 26 [cReds [rdK ⟨12,0,0⟩ 0],eReds [rdK ⟨12,0,0⟩ 0]] [.bool true]:=deqP d4 ⟨⟨rfl,rfl,fun i _=>rfl⟩,⟨rfl,rfl,fun i _=>rfl⟩,Tt⟩
 have d3c:Pure Tryz.prog 25 [eInts [1],.sl 1 1 (rowFnD [[di 1]])] [.bool true]:=deqP d3 ⟨⟨rfl,rfl,fun i _=>rfl⟩,rfD (fun n:Int=>[di n]) 1 _ rfl 1,Tt⟩
 have d5c:Pure Tryz.prog 25 [eInts [3],.sl 1 1 (rowFnD [[di 3]])] [.bool true]:=deqP d5 ⟨⟨rfl,rfl,fun i _=>rfl⟩,rfD (fun n:Int=>[di n]) 3 _ rfl 1,Tt⟩
 have d6c:Pure Tryz.prog 38 [.agg (eSys default),.agg [.nils,.nils,.nils,.nils]] [.bool true]:=deqP d6 ⟨.inl rfl,.inr ⟨rfl,rfl,rfl,rfl,Tt⟩,Tt⟩
 have d8c:Pure Tryz.prog 19 [.agg [.nils,.nils,.nils]] [di 0]:=deqP d8 ⟨.inr ⟨rfl,rfl,rfl,Tt⟩,Tt⟩
 repeat' (first|((with_reducible refine Ev.mk ?_);conv=>whnf)|with_reducible refine Dr.mk ⟨Kr,Kr⟩ ?_|with_reducible refine obG ?_|with_reducible refine Ob.mk ?_ ?_|(with_reducible first|refine brT fun h=>?_|refine brF fun h=>?_|refine Br.mk (fun h=>?_) fun h=>?_)<;>(try simp only[bsl,beq_iff_eq,bne_iff_ne,bs2]at h)<;>(try contradiction)<;>try (exfalso;omega))
 .intro _
  decide
 refine qC d1 ?_
 (refine gS ?_;intros)
 refine qC d2 ?_
 (refine gS ?_;intros)
 refine qC d3c ?_
 (refine gS ?_;intros)
 refine qC d4c ?_
 (refine gS ?_;intros)
 refine qC d4c ?_
 (refine gS ?_;intros)
 refine Sq.go ?_;(refine gS ?_;intros)
 refine d5.loan rfl ⟨.d,.rows rfl (Nat.le_refl _) (fun i hi=>by rw[show i=0 from Nat.lt_one_iff.1 hi];rfl),Tt⟩ ?_
 (refine gS ?_;intros)
 refine d4.call ?_
 (refine gS ?_;intros)
 refine d6c.call ?_
 (refine gS ?_;intros)
 refine d7.call ?_
 (refine gS ?_;intros)
 refine d8c.call ?_
 (refine gW ?_;intros)
 exact⟨rfl,Tt⟩
abbrev Qd:=Int × Int × Int × Int
def mkFs (fr til kn:Int):Nat->List Qd->List Fct
 |_,[]=>[]
 |n,q::r=>⟨q.1,q.2.1,q.2.2.1,q.2.2.2,fr,til,kn,n⟩::mkFs fr til kn (n+1) r
theorem mkFs_len (fr til kn:Int):∀(a:List Qd) (n:Nat),(mkFs fr til kn n a).length=a.length
 |[],_=>rfl
 |_::r,n=>congrArg (· + 1) (mkFs_len fr til kn r (n+1))
theorem addFs_mk (fr til kn:Int):∀(qs:List Qd) (fs:List Fct),addFs fr til kn fs qs=fs++mkFs fr til kn fs.length qs
 |[],fs=>(List.append_nil fs).symm
 | q :: r,fs=>by
   show addFs fr til kn (addF fr til kn fs q) r=_
   rw[addFs_mk fr til kn r,addF,List.length_append,List.append_assoc]
   rfl
theorem insF_mk (b:Bok)(c:Cat)(fr til kn:Int):insF b c fr til kn=mkFs fr til kn 0 (insQ b c++insS b c)++(if numN b.crs<numN (b.crs++c.crs) then[⟨12,0,0,(numN (b.crs++c.crs):Int),0,1024,kn,(insQ b c++insS b c).length⟩] else[]):=by
 unfold insF insN
 rw[addFs_mk,List.nil_append,List.length_nil]
 split
 .rw[addF,mkFs_len]
 .rw[List.append_nil]
theorem mkFs_mem {fr til kn:Int}{f:Fct}:∀{qs:List Qd} {n:Nat},f∈mkFs fr til kn n qs->∃q∈qs,f.kind=q.1/\f.subject=q.2.1/\f.object=q.2.2.1/\f.value=q.2.2.2/\f.fr=fr/\f.til=til/\f.known=kn
 |[],n,h=>(List.not_mem_nil h).elim
 | q :: r,n,h=>by
   rcases List.mem_cons.1 h with rfl|h
   .exact⟨q,List.mem_cons_self,rfl,rfl,rfl,rfl,rfl,rfl,rfl⟩
   .obtain⟨p,hp,h⟩:=mkFs_mem h
    exact⟨p,List.mem_cons_of_mem _ hp,h⟩
theorem mkFs_of {fr til kn:Int}{q:Qd}:∀{qs:List Qd} {n:Nat},q∈qs->∃f∈mkFs fr til kn n qs,f.kind=q.1/\f.subject=q.2.1/\f.object=q.2.2.1/\f.value=q.2.2.2/\f.fr=fr/\f.til=til/\f.known=kn
 |[],n,h=>(List.not_mem_nil h).elim
 | p :: r,n,h=>by
   rcases List.mem_cons.1 h with rfl|h
   .exact⟨_,List.mem_cons_self,rfl,rfl,rfl,rfl,rfl,rfl,rfl⟩
   .obtain⟨f,hf,h⟩:=mkFs_of (fr:=fr) (til:=til) (kn:=kn) (n:=n+1) h
    exact⟨f,List.mem_cons_of_mem _ hf,h⟩
theorem defK_mem {kd:Int}{off:Nat}{α:Type}[Inhabited α]{f:α->Int}{l:List α}{q:Qd}:∀{k:Nat},q∈defK kd off f l k↔∃i,i<k/\q=(kd,f (l.getD i default),0,((off:Nat):Int)+(i:Int))
 |0=>⟨fun h=>(List.not_mem_nil h).elim,fun⟨i,h,_⟩=>absurd h (Nat.not_lt_zero i)⟩
 | k + 1=>by
   rw[defK,List.mem_append,defK_mem,List.mem_singleton]
   constructor
   .rintro(⟨i,h,e⟩|e)
    .exact⟨i,Om,e⟩
    .exact⟨k,Om,e⟩
   .rintro⟨i,h,e⟩
    by_cases h2:i=k
    .subst h2;exact .inr e
    .exact .inl ⟨i,Om,e⟩
theorem samK_mem {l:List Pai}{q:Qd}:∀{k:Nat},q∈samK l k->∃i,i<k/\q=(2,min (l.getD i default).x (l.getD i default).y,max (l.getD i default).x (l.getD i default).y,1)
 |0,h=>(List.not_mem_nil h).elim
 | k + 1,h=>by
   rw[samK,List.mem_append,List.mem_singleton]at h
   rcases h with h|h
   .obtain⟨i,h1,h2⟩:=samK_mem h
    exact⟨i,Om,h2⟩
   .exact⟨k,Om,h⟩
theorem insQ_mem {b:Bok}{c:Cat}{q:Qd}:q∈insQ b c++insS b c↔(∃i,i<c.crs.length/\q=(1,(c.crs.getD i default).number,0,((b.crs.length:Nat):Int)+(i:Int)))\/(∃i,i<c.prg.length/\q=(3,(c.prg.getD i default).number,0,((b.prg.length:Nat):Int)+(i:Int)))\/q∈samK c.same c.same.length\/(sysB c=true/\q=(4,0,0,(b.sys.length:Int))):=by
 unfold insQ insS
 rw[List.mem_append,List.mem_append,List.mem_append,defK_mem,defK_mem,or_assoc,or_assoc]
 refine or_congr Iff.rfl (or_congr Iff.rfl (or_congr Iff.rfl ?_))
 split
 .rename_i h
  rw[List.mem_singleton]
  exact⟨fun e=>⟨h,e⟩,fun e=>e.2⟩
 .rename_i h
  exact⟨fun e=>(List.not_mem_nil e).elim,fun e=>absurd e.1 h⟩
theorem insQ_len (b:Bok)(c:Cat):(insQ b c++insS b c).length<=c.crs.length+c.prg.length+c.same.length+1:=by
 rw[List.length_append,insQ,List.length_append,List.length_append,defK_len,defK_len,samK_len,insS]
 split
 .rw[List.length_singleton];omega
 .rw[List.length_nil];omega
theorem insF_len (b:Bok)(c:Cat)(fr til kn:Int):(insF b c fr til kn).length<=c.crs.length+c.prg.length+c.same.length+2:=by
 have:=insQ_len b c
 rw[insF_mk,List.length_append,mkFs_len]
 split
 .rw[List.length_singleton];omega
 .rw[List.length_nil];omega
end Go.Proofs.YtmlhghddfobmmaaGreatDoor
