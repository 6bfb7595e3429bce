import Derived.Test.YtkjmomadndmeaaaGreatDoorRecS
namespace Go.Proofs.YtkjmomadndmeaaaGreatDoor
set_option linter.unusedSimpArgs false
set_option linter.unusedVariables false
open Go Go.Ab
set_option maxRecDepth 100000
set_option maxHeartbeats 0
def row1024 (v:Int->Int):List D:=(List.range 1024).map fun(i:Nat)=>di (v i)
theorem row1024_len (v:Int->Int):(row1024 v).length=1024:=by simp[row1024]
theorem row1024_one (v:Int->Int):∀x,x∈row1024 v->x.one=true:=by
 intro x hx
 simp only[row1024,List.mem_map]at hx
 obtain⟨i,_,rfl⟩:=hx
 rfl
theorem row1024_at (v:Int->Int){i:Nat}(h:i<1024):(row1024 v).getD i .nilp=di (v i):=by
 simp[row1024,h]
theorem ml1024:1024<=maxLen:=by decide
def bstR (b:Nat->Option Fct):Nat->List AV:=fun i=>up (eFct ((b i).getD zF))
def smeR (b:Nat->Option Fct):Nat->List AV:=fun i=>[.d (.bool (b i).isSome)]
def midB (a c:Nat)(x:Fct)(b:Nat->Option Fct)(i:Nat):Option Fct:=if a<=i/\i<c then stepF i (b i) x else b i
theorem midB_start (a:Nat)(x:Fct)(b:Nat->Option Fct):midB a a x b=b:=by
 funext i
 rw[midB,if_neg Om]
theorem midB_at (a c:Nat)(x:Fct)(b:Nat->Option Fct):midB a c x b c=b c:=by rw[midB,if_neg Om]
theorem midB_succ {a c:Nat}(h:a<=c)(x:Fct)(b:Nat->Option Fct)(i:Nat):midB a (c+1) x b i=if i=c then stepF c (b c) x else midB a c x b i:=by
 unfold midB
 by_cases e:i=c
 .subst e
  rw[if_pos ⟨h,Nat.lt_succ_self i⟩,if_pos rfl]
 .rw[if_neg e]
  by_cases h2:a<=i/\i<c
  .rw[if_pos h2,if_pos ⟨h2.1,Om⟩]
  .rw[if_neg h2,if_neg Om]
theorem midB_end {a c:Nat}{x:Fct}(b:Nat->Option Fct)(ha:(a:Int)=max 0 x.fr)(hc:¬ (c:Int)<min x.til 1024){i:Nat}(hi:i<1024):midB a c x b i=stepF i (b i) x:=by
 unfold midB
 split
 .rfl
 .rename_i h
  have:hitT i x=false:=by
   unfold hitT
   by_cases h1:x.fr<=(i:Int)
   .rw[decide_eq_true h1,Bool.true_and,decide_eq_false]
    omega
   .rw[decide_eq_false h1,Bool.false_and]
  rw[stepF,this]
  simp
theorem rowB_set {a c:Nat}(h:a<=c){x:Fct}{b:Nat->Option Fct}(hs:stepF c (b c) x=some x)(i:Nat):(bif Nat.beq i c then up (eFct x) else bstR (midB a c x b) i)=bstR (midB a (c+1) x b) i:=by
 show _=up (eFct ((midB a (c+1) x b i).getD zF))
 rw[midB_succ h]
 cases e:Nat.beq i c
 .have:i≠c:=Nat.ne_of_beq_eq_false e
  rw[if_neg this]
  rfl
 .have:i=c:=Nat.eq_of_beq_eq_true e
  rw[if_pos this,hs]
  rfl
theorem rowS_set {a c:Nat}(h:a<=c){x:Fct}{b:Nat->Option Fct}(hs:stepF c (b c) x=some x)(i:Nat):(bif Nat.beq i c then[AV.d (.bool true)] else smeR (midB a c x b) i)=smeR (midB a (c+1) x b) i:=by
 show _=[AV.d (.bool (midB a (c+1) x b i).isSome)]
 rw[midB_succ h]
 cases e:Nat.beq i c
 .have:i≠c:=Nat.ne_of_beq_eq_false e
  rw[if_neg this]
  rfl
 .have:i=c:=Nat.eq_of_beq_eq_true e
  rw[if_pos this,hs]
  rfl
theorem mid_stay {a c:Nat}(h:a<=c){x:Fct}{b:Nat->Option Fct}(hs:stepF c (b c) x=b c)(i:Nat):midB a c x b i=midB a (c+1) x b i:=by
 rw[midB_succ h]
 by_cases e:i=c
 .rw[if_pos e,hs,e,midB_at]
 .rw[if_neg e]
def rowV (v:Nat->Int)(k:Nat):Nat->List AV:=fun j=>[dV (bif Nat.blt j k then v j else 0)]
theorem rowV_set {v:Nat->Int}{c:Nat}{z:Int}(hz:v c=z)(i:Nat):(bif Nat.beq i c then[dV z] else rowV v c i)=rowV v (c+1) i:=by
 unfold rowV
 cases e:Nat.beq i c
 .have e1:i≠c:=Nat.ne_of_beq_eq_false e
  have e2:Nat.blt i c=Nat.blt i (c+1):=by
   rw[Bool.eq_iff_iff]
   unfold Nat.blt
   rw[Nat.ble_eq,Nat.ble_eq]
   omega
  rw[cond_false,e2]
 .have e1:i=c:=Nat.eq_of_beq_eq_true e
  subst e1
  have e2:Nat.blt i (i+1)=true:=by unfold Nat.blt;rw[Nat.ble_eq];omega
  rw[e2,cond_true,cond_true,hz]
theorem rowV_set2 {v:Nat->Int}{c:Nat}{z:Int}(hz:v c=z)(y:AV)(i:Nat):(bif Nat.beq i c then splice (bif Nat.beq c c then[y] else rowV v c c) 0 [dV z] else(bif Nat.beq i c then[y] else rowV v c i))=rowV v (c+1) i:=by
 have:=rowV_set hz i
 cases e:Nat.beq i c
 .rw[e]at this
  exact this
 .rw[e]at this
  rw[<-this,Nat.beq_refl]
  rfl
theorem rowV_all (v:Nat->Int){i:Nat}(h:i<1024):rowV v 1024 i=[dV (v i)]:=by
 unfold rowV
 have e2:Nat.blt i 1024=true:=by unfold Nat.blt;rw[Nat.ble_eq];omega
 rw[e2,cond_true]
theorem row_back (l:List Fct)(k:Ke)(kn:Int)(B:Nat->Option Fct)(hv:∀i:Nat,valT l k kn i=valB (B i)):List.map (fun j=>rowD (rowV (fun i=>valB (B i)) 1024 j)) (List.range 1024)=row1024 (valT l k kn):=by
 refine List.map_congr_left fun i hi=>?_
 rw[rowV_all _ (List.mem_range.1 hi),hv]
 rfl
theorem row_load (xs:List D)(h:xs.length=1024):List.map (fun j=>rowD [AV.d (xs.getD j .nilp)]) (List.range 1024)=xs:=by
 refine List.ext_getElem (by simp[h]) fun i h1 h2=>?_
 simp[rowD,List.getD_eq_getElem?_getD,List.getElem?_eq_getElem h2]
theorem of1V_ok (rec:Loop)(y:Nat)(l:List Fct)(hx:fitL l)(k:Ke)(kn:Int)
 (hy:∀ (q:List Fct) (x:Fct),x∈l→YieldVC Tryz.prog y [.d (.agg (eFct x))] ⟨[],[some (.box 27 [.d (eFcts l)]),some (.box 72 (up (eKe k))),some (.box 3 [.d (.int .i64 kn)]),some (.vec 204 1 0 1024 fun _=>[.d (.int .i64 0)]),some (.vec 257 8 0 1024 (bstR fun i=>q.foldl (stepF i) none)),some (.vec 258 1 0 1024 (smeR fun i=>q.foldl (stepF i) none)),some (.loop y rec [(6,.ptr (.arg 3) 0 0 0),(7,.ptr (.arg 4) 0 0 0),(8,.ptr (.arg 5) 0 0 0)])]⟩
  (Ret (fun q:List Fct=>([.d (.bool true)],⟨[],[bX 27 [.d (eFcts l)],bX 72 (up (eKe k)),bX 3 [dV kn],bV 204 1 0 1024 fun _=>[dV 0],bV 257 8 0 1024 (bstR fun i=>q.foldl (stepF i) none),bV 258 1 0 1024 (smeR fun i=>q.foldl (stepF i) none),some (.loop y rec [(6,ap 3),(7,ap 4),(8,ap 5)])]⟩)) fun q'=>q'=q++[x])) :
 CallVC Tryz.prog 191 [.fn (.yield y) [] [],ap 0,ap 1,ap 2] ((fun q:List Fct=>⟨[],[bX 27 [.d (eFcts l)],bX 72 (up (eKe k)),bX 3 [dV kn],bV 204 1 0 1024 fun _=>[dV 0],bV 257 8 0 1024 (bstR fun i=>q.foldl (stepF i) none),bV 258 1 0 1024 (smeR fun i=>q.foldl (stepF i) none),some (.loop y rec [(6,ap 3),(7,ap 4),(8,ap 5)])]⟩) [])
  (Ret (fun q:List Fct=>([],⟨[],[bX 27 [.d (eFcts l)],bX 72 (up (eKe k)),bX 3 [dV kn],bV 204 1 0 1024 fun _=>[dV 0],bV 257 8 0 1024 (bstR fun i=>q.foldl (stepF i) none),bV 258 1 0 1024 (smeR fun i=>q.foldl (stepF i) none),some (.loop y rec [(6,ap 3),(7,ap 4),(8,ap 5)])]⟩)) fun q=>q=l.filter (hitK k kn)):=by
 have hx':l.length<=9223372036854775807:=hx
 refine call_rule hT (T:=tab) (N:=30) (rs:=[]) _ _ Tryz.func191 rfl rfl rfl Kr rfl ?_
 (refine gW ?_;intros)
 refine loop_rule hT (S:=Nat × List Fct) (fun z=>([(0,.fn (.yield y) [] []),(2,ap 1),(3,ap 2),(7,.d (eFcts l)),(8,dV l.length),(9,dV z.1)],(fun q:List Fct=>⟨[],[bX 27 [.d (eFcts l)],bX 72 (up (eKe k)),bX 3 [dV kn],bV 204 1 0 1024 fun _=>[dV 0],bV 257 8 0 1024 (bstR fun i=>q.foldl (stepF i) none),bV 258 1 0 1024 (smeR fun i=>q.foldl (stepF i) none),some (.loop y rec [(6,ap 3),(7,ap 4),(8,ap 5)])]⟩) z.2))
  (fun z=>z.1<=l.length/\l.filter (hitK k kn)=z.2++(l.drop z.1).filter (hitK k kn)) (fun z=>l.length-z.1) (0,[]) ?_ ?_ ?_
 .exact lq
  all_goals (intro i hi;exact⟨rfl,rfl⟩)
 .exact⟨Nat.zero_le _,rfl⟩
 .rintro⟨j,q⟩ ⟨hj,hc⟩
  dsimp only at hj hc
  by_cases hj2:j<l.length
  .have hm:=getD_mem (xs:=l) (k:=j) hj2
   rw[drop_at hj2,List.filter_cons]at hc
   have kc:Kp _:=⟨hc⟩
   clear hc
   by_cases hk:(l.getD j default).kind=k.kind/\(l.getD j default).subject=k.subject/\(l.getD j default).object=k.object
   .by_cases hn:(l.getD j default).known<=kn
    .have hh:hitK k kn (l.getD j default)=true:=by simp only[hitK,Bool.and_eq_true,decide_eq_true_eq,kOf_eq];exact⟨hk,hn⟩
     obtain⟨hk1,hk2,hk3⟩:=hk
     (refine gP ?_;intros)
     refine(hy q (l.getD j default) hm).at [.arg 0,.arg 1,.arg 2,.arg 3,.arg 4,.arg 5,.arg 6] rfl ⟨rfl,rfl,rfl,rfl,rfl,rfl,rfl,Tt⟩ (fun s' hs'=>⟨rfl,?_⟩)
     subst hs'
     (refine gP ?_;intros)
     refine stp (j+1,q++[l.getD j default]) ?_ ⟨by show j+1<=l.length;omega,by rw[kc.h,if_pos hh];simp⟩
     exact lq
     all_goals (intro i hi;exact⟨rfl,rfl⟩)
    .have hh:¬ hitK k kn (l.getD j default)=true:=by simp only[hitK,Bool.and_eq_true,decide_eq_true_eq];exact fun h=>hn h.2
     obtain⟨hk1,hk2,hk3⟩:=hk
     (refine gP ?_;intros)
     refine stp (j+1,q) ?_ ⟨by show j+1<=l.length;omega,by rw[kc.h,if_neg hh]⟩
     exact lq
     all_goals (intro i hi;exact⟨rfl,rfl⟩)
   .have hh:¬ hitK k kn (l.getD j default)=true:=by simp only[hitK,Bool.and_eq_true,decide_eq_true_eq,kOf_eq];exact fun h=>hk h.1
    (refine gP ?_;intros)
    refine stp (j+1,q) ?_ ⟨by show j+1<=l.length;omega,by rw[kc.h,if_neg hh]⟩
    exact lq
    all_goals (intro i hi;exact⟨rfl,rfl⟩)
  .rw[drop_end Om,List.filter_nil,List.append_nil]at hc
   (refine gW ?_;intros)
   refine⟨_,hc.symm,?_,rfl⟩
   exact lq
   all_goals (intro i hi;exact⟨rfl,rfl⟩)
theorem rep8192:∀i j,i<1024->j<8->(List.replicate 8192 (di 0))[i*8+j]?=(List.replicate 8192 (di 0))[j]?:=fun i j hi hj=>by
 rw[List.getElem?_replicate,List.getElem?_replicate,if_pos Om,if_pos Om]
theorem values_ok (l:List Fct)(hl:fitL l)(k:Ke)(kn:Int):Pure Tryz.prog 120 [eFcts l,.agg (eKe k),di kn] [.agg (row1024 (valT l k kn))]:=by
 have hml:=ml1024
 refine pure_rule hT (T:=tab) (N:=63) (rs:=[.cell 6 204]) Tryz.func120 rfl rfl rfl Kr rfl ?_
 repeat' (first|with_reducible refine Sq.go ?_|((with_reducible refine Ev.mk ?_);conv=>whnf)|with_reducible refine Dr.mk ⟨Kr,Kr⟩ ?_|with_reducible refine obG ?_|with_reducible refine Ob.mk ?_ ?_|(with_reducible first|refine brT fun h=>?_|refine brF fun h=>?_|refine Br.mk (fun h=>?_) fun h=>?_)<;>(try simp only[bsl,beq_iff_eq,bne_iff_ne,bs2]at h)<;>(try contradiction)<;>try (exfalso;omega))
 .exact rep8192
 refine(of_facts l k kn).at [] rfl Tt (fun _ _=>⟨rfl,?_⟩)
 (refine gW ?_;intros)
 refine Awp.le (env':=[(6,lp 1),(7,lp 2),(8,lp 3),(15,.fn (.func 191) [] [lp 4,lp 5,lp 6])])
  (m':=⟨[none,bV 204 1 0 1024 fun _=>[dV 0],bV 257 8 0 1024 (bstR fun _=>none),bV 258 1 0 1024 (smeR fun _=>none),bX 27 [.d (eFcts l)],bX 72 (up (eKe k)),bX 3 [dV kn]],[]⟩) ?_ ?_
 .repeat' (first|exact Tt|exact rfl|exact Nat.le_refl _|refine And.intro ?_ ?_)
  .intro i hi
   refine⟨?_,rfl⟩
   show[AV.d ((List.replicate 1024 (di 0)).getD i .nilp)]=_
   rw[List.getD_eq_getElem?_getD,List.getElem?_replicate,if_pos hi]
   rfl
  .intro i hi
   exact⟨rfl,rfl⟩
  .intro i hi
   refine⟨?_,rfl⟩
   show[AV.d ((List.replicate 1024 (D.bool false)).getD i .nilp)]=_
   rw[List.getD_eq_getElem?_getD,List.getElem?_replicate,if_pos hi]
   rfl
 refine Awp.range (caps:=[lp 4,lp 5,lp 6]) [(6,lp 1),(7,lp 2),(8,lp 3)] (.inl rfl) (nl:=7) (na:=0) ⟨⟨rfl,rfl⟩,⟨rfl,rfl⟩,⟨rfl,rfl⟩,Tt⟩ ?_
 intro y r h1 h2 h3 h4 h5 h6
 refine(of1V_ok r y l hl k kn ?_).at [.loc 4,.loc 5,.loc 6,.loc 1,.loc 2,.loc 3,.loc 7] rfl ⟨rfl,rfl,rfl,rfl,rfl,rfl,rfl,Tt⟩ (fun s hs=>⟨rfl,?_⟩)
 .intro q x hx
  obtain⟨b,hb⟩:∃b:Nat->Option Fct,b=fun i:Nat=>q.foldl (stepF i) none:=⟨_,rfl⟩
  have hn:(fun i:Nat=>(q++[x]).foldl (stepF i) none)=fun i:Nat=>stepF i (b i) x:=by
   funext i
   rw[List.foldl_append,hb]
   rfl
  rw[<-hb]
  obtain⟨a,ha⟩:∃a:Nat,(a:Int)=max 0 x.fr:=⟨(max 0 x.fr).toNat,Om⟩
  refine yieldMono (yield_rule (N:=63) (ps:=[16]) (args:=[.d (.agg (eFct x))])
   (bs:=[bX 27 [.d (eFcts l)],bX 72 (up (eKe k)),bX 3 [dV kn],bV 204 1 0 1024 fun _=>[dV 0],bV 257 8 0 1024 (bstR b),bV 258 1 0 1024 (smeR b)]) (env0:=[(6,ap 3),(7,ap 4),(8,ap 5)])
   (fun _:Unit=>[bX 27 [.d (eFcts l)],bX 72 (up (eKe k)),bX 3 [dV kn],bV 204 1 0 1024 fun _=>[dV 0],bV 257 8 0 1024 (bstR fun i=>stepF i (b i) x),bV 258 1 0 1024 (smeR fun i=>stepF i (b i) x)]) (fun _=>none) (fun _=>True) h1 h3 h4 h5 h6 rfl (by simp) ?_ rfl rfl ?_) ?_
  .exact lq
   all_goals (intro i hi;exact⟨rfl,rfl⟩)
  .clear hn hb h1 h2 h3 h4 h5 h6 hx hl
   refine Awp.of_vc hT ?_
   (refine gW ?_;intros)
   refine Awp.of_vc hT ?_
   (refine gW ?_;intros)
   refine loop_rule hT (S:=Nat) (fun c=>([(7,ap 4),(8,ap 5),(9,lp 0),(10,dV c)],
    ⟨[bX 74 (up (eFct x))],[bX 27 [.d (eFcts l)],bX 72 (up (eKe k)),bX 3 [dV kn],bV 204 1 0 1024 fun _=>[dV 0],bV 257 8 0 1024 (bstR (midB a c x b)),bV 258 1 0 1024 (smeR (midB a c x b))]⟩)) (fun c=>a<=c/\(c<=1024\/c=a)) (fun c=>1024-c) a ?_ ?_ ?_
   .repeat' (first|exact Tt|exact rfl|exact Nat.le_refl _|refine And.intro ?_ ?_)
    all_goals first
     |(intro i hi;exact⟨rfl,rfl⟩)
     |(intro i hi;rw[midB_start];exact⟨rfl,rfl⟩)
     |exact congrArg (fun n=>dV n) ha.symm
   .exact⟨Nat.le_refl _,.inr rfl⟩
   .rintro c ⟨hac,hc1⟩
    dsimp only at hac hc1⊢
    have hm:=midB_at a c x b
    have kst:=mid_stay (x:=x) (b:=b) hac
    have kb:=rowB_set (x:=x) (b:=b) hac
    have ks:=rowS_set (x:=x) (b:=b) hac
    have hend:=fun i=>midB_end (a:=a) (c:=c) (x:=x) b ha (i:=i)
    by_cases hc:(c:Int)<min x.til 1024
    .have hh:hitT (c:Int) x=true:=by
      unfold hitT
      rw[decide_eq_true Om,decide_eq_true Om]
      rfl
     clear hend
     have hC:=fcompare_ok x ((midB a c x b c).getD zF)
     have hF:=fctC_bef x ((midB a c x b c).getD zF)
     have hst:stepF c (b c) x=if(midB a c x b c).isNone||!befF x ((midB a c x b c).getD zF) then some x else b c:=by
      rw[hm,stepF,hh,Bool.true_and]
     generalize midB a c x b=B at *
     have hn:(B c).isNone=!(B c).isSome:=by cases B c<;>rfl
     rw[hn]at hst
     clear hm hn hh
     have kp:Kp (midB a (c+1) x b=midB a (c+1) x b/\a<=c+1):=⟨rfl,Om⟩
     cases hs:(B c).isSome
     .have hs2:¬ (B c).isSome=true:=by rw[hs];exact Bool.false_ne_true
      rw[hs]at hst
      have hS:stepF c (b c) x=some x:=hst
      have kb:=kb hS
      have ks:=ks hS
      clear hst hS kst hF
      ((refine xW ?_ ?_)<;>(intros;try rename_i h))
      all_goals try (exfalso;simp only[cond_true,cond_false]at h;omega)
      refine stp (c+1) ?_ ⟨kp.h.2,Om⟩
      repeat' (first|exact Tt|exact rfl|exact Nat.le_refl _|refine And.intro ?_ ?_)
      all_goals (intro i hi;first|exact⟨rfl,rfl⟩|exact⟨kb i,rfl⟩|exact⟨ks i,rfl⟩)
     .have hs2:¬ (B c).isSome=false:=by rw[hs];exact Bool.false_ne_true.symm
      rw[hs]at hst
      cases hb:befF x ((B c).getD zF)
      .rw[hb]at hF hst
       have hF2:0<=fctC x ((B c).getD zF):=by simpa using hF
       have hS:stepF c (b c) x=some x:=hst
       have kb:=kb hS
       have ks:=ks hS
       clear hst hS kst hF
       ((refine xW ?_ ?_)<;>(intros;try rename_i h))
       refine qC hC ?_
       repeat' (first|with_reducible refine Sq.go ?_|((with_reducible refine Ev.mk ?_);conv=>whnf)|with_reducible refine Dr.mk ⟨Kr,Kr⟩ ?_|with_reducible refine obG ?_|with_reducible refine Ob.mk ?_ ?_|(with_reducible first|refine brT fun h=>?_|refine brF fun h=>?_|refine Br.mk (fun h=>?_) fun h=>?_)<;>(try simp only[bsl,beq_iff_eq,bne_iff_ne,bs2]at h)<;>(try contradiction)<;>try (exfalso;omega))
       all_goals try (exfalso;simp only[cond_true,cond_false]at h;omega)
       all_goals try (exfalso;simp[hs,hF2]at h;done)
       refine stp (c+1) ?_ ⟨kp.h.2,Om⟩
       repeat' (first|exact Tt|exact rfl|exact Nat.le_refl _|refine And.intro ?_ ?_)
       all_goals (intro i hi;first|exact⟨rfl,rfl⟩|exact⟨kb i,rfl⟩|exact⟨ks i,rfl⟩)
      .rw[hb]at hF hst
       have hF2:¬ 0<=fctC x ((B c).getD zF):=by simpa using hF
       have hS:stepF c (b c) x=b c:=hst
       have kst:=kst hS
       clear hst hS hF kb ks
       ((refine xW ?_ ?_)<;>(intros;try rename_i h))
       refine qC hC ?_
       repeat' (first|with_reducible refine Sq.go ?_|((with_reducible refine Ev.mk ?_);conv=>whnf)|with_reducible refine Dr.mk ⟨Kr,Kr⟩ ?_|with_reducible refine obG ?_|with_reducible refine Ob.mk ?_ ?_|(with_reducible first|refine brT fun h=>?_|refine brF fun h=>?_|refine Br.mk (fun h=>?_) fun h=>?_)<;>(try simp only[bsl,beq_iff_eq,bne_iff_ne,bs2]at h)<;>(try contradiction)<;>try (exfalso;omega))
       all_goals try (exfalso;simp only[cond_true,cond_false]at h;omega)
       all_goals try (exfalso;simp[hs,hF2]at h;done)
       refine stp (c+1) ?_ ⟨kp.h.2,Om⟩
       repeat' (first|exact Tt|exact rfl|exact Nat.le_refl _|refine And.intro ?_ ?_)
       all_goals (intro i hi;first|exact⟨rfl,rfl⟩|(refine⟨?_,rfl⟩;show bstR _ i=bstR _ i;unfold bstR;rw[kst i])|(refine⟨?_,rfl⟩;show smeR _ i=smeR _ i;unfold smeR;rw[kst i]))
    ·(refine gW ?_;intros)
     refine⟨(),Tt,rfl,rfl,?_⟩
     repeat' (first|exact Tt|exact rfl|exact Nat.le_refl _|refine And.intro ?_ ?_)
     all_goals (intro i hi;exact⟨by first|rfl|(show bstR _ i=bstR _ i;unfold bstR;rw[hend i hc hi])|(show smeR _ i=smeR _ i;unfold smeR;rw[hend i hc hi]),rfl⟩)
  .rintro A m' ⟨z,hJ,rfl,rfl⟩
   refine⟨q++[x],rfl,rfl,?_⟩
   dsimp only
   rw[hn]
   show(⟨[],[some _,some _,some _,some _,some _,some _,some (.loop y (after r none) _)]⟩:Mem)=_
   rw[after_none h1 h2]
 .subst hs
  obtain⟨B,hB⟩:∃B:Nat->Option Fct,B=fun i:Nat=>bestF l k i kn:=⟨_,rfl⟩
  have hB2:(fun i:Nat=>(l.filter (hitK k kn)).foldl (stepF i) none)=B:=by rw[hB];rfl
  have hv:∀i:Nat,valT l k kn i=valB (B i):=fun i=>by rw[hB];rfl
  dsimp only
  rw[hB2]
  (refine gW ?_;intros)
  refine⟨none,by rw[after_none h1 h2];rfl,?_⟩
  show Sq _ _
  clear h1 h2 h3 h4 h5 h6 hB2
  (refine gW ?_;intros)
  refine loop_rule hT (S:=Nat) (fun c=>([(6,lp 1),(7,lp 2),(8,lp 3),(46,dV c)],
   ⟨[none,bV 204 1 0 1024 (rowV (fun i=>valB (B i)) c),bV 257 8 0 1024 (bstR B),bV 258 1 0 1024 (smeR B)],[]⟩)) (fun c=>c<=1024) (fun c=>1024-c) 0 ?_ ?_ ?_
  .exact lq
   all_goals (intro i hi;exact⟨rfl,rfl⟩)
  .exact Nat.zero_le _
  .intro c hc
   dsimp only at hc⊢
   by_cases hc2:c<1024
   .cases hs:(B c).isSome
    .have hs2:¬ (B c).isSome=true:=by rw[hs];exact Bool.false_ne_true
     have hz:valB (B c)=-1:=by cases hb:B c<;>simp[hb]at hs<;>rfl
     have kr:=fun i=>rowV_set (v:=fun i=>valB (B i)) (c:=c) hz i
     (refine gW ?_;intros)
     refine⟨c+1,by show c+1<=1024;omega,by show 1024-(c+1)<1024-c;omega,?_⟩
     repeat' (first|exact Tt|exact rfl|exact Nat.le_refl _|refine And.intro ?_ ?_)
     all_goals (intro i hi;first|exact⟨rfl,rfl⟩|exact⟨kr i,rfl⟩)
    .have hs2:¬ (B c).isSome=false:=by rw[hs];exact Bool.false_ne_true.symm
     have hz:valB (B c)=(bif true then max ((B c).getD zF).value (-1) else min ((B c).getD zF).value (-1)):=by cases hb:B c<;>simp[hb]at hs<;>rfl
     have kr:=fun i=>rowV_set2 (v:=fun i=>valB (B i)) (c:=c) hz (dV (-1)) i
     (refine gW ?_;intros)
     refine⟨c+1,by show c+1<=1024;omega,by show 1024-(c+1)<1024-c;omega,?_⟩
     repeat' (first|exact Tt|exact rfl|exact Nat.le_refl _|refine And.intro ?_ ?_)
     all_goals (intro i hi;first|exact⟨rfl,rfl⟩|exact⟨kr i,rfl⟩)
   .obtain rfl:c=1024:=by omega
    have hbk:=row_back l k kn B hv
    repeat' (first|with_reducible refine Sq.go ?_|((with_reducible refine Ev.mk ?_);conv=>whnf)|with_reducible refine Dr.mk ⟨Kr,Kr⟩ ?_|with_reducible refine obG ?_|with_reducible refine Ob.mk ?_ ?_|(with_reducible first|refine brT fun h=>?_|refine brF fun h=>?_|refine Br.mk (fun h=>?_) fun h=>?_)<;>(try simp only[bsl,beq_iff_eq,bne_iff_ne,bs2]at h)<;>(try contradiction)<;>try (exfalso;omega))
    .intro x hx
     rw[hbk]at hx
     exact row1024_one _ x hx
    rw[hbk]
    have hrl:=row_load (row1024 (valT l k kn)) (row1024_len _)
    have hro:=row1024_one (valT l k kn)
    generalize row1024 (valT l k kn)=xs at hrl hro⊢
    refine⟨?_,Tt⟩
    conv=>whnf
    (refine gW ?_;intros)
    exact .inl hrl
end Go.Proofs.YtkjmomadndmeaaaGreatDoor
