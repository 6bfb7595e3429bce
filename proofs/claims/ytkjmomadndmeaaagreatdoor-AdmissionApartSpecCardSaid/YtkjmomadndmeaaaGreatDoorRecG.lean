import Derived.Test.YtkjmomadndmeaaaGreatDoorSitP
import Derived.Test.YtkjmomadndmeaaaGreatDoorRecB
import Derived.Test.YtkjmomadndmeaaaGreatDoorEngAS
namespace Go.Proofs.YtkjmomadndmeaaaGreatDoor
set_option linter.unusedSimpArgs false
set_option linter.unusedVariables false
open Go Go.Ab
set_option maxRecDepth 100000
set_option maxHeartbeats 0
theorem within16_ok (n lo hi:Int):Pure Tryz.prog 53 [di n,di lo,di hi] [.bool (bw n lo hi)]:=by
 refine pure_rule hT (T:=tab) (N:=15) (rs:=[.tmp 6]) Tryz.func53 rfl rfl rfl Kr rfl ?_
 by_cases h1:lo<=n<;>by_cases h2:n<=hi<;>((refine gW ?_;intros))<;>(refine⟨congrArg D.bool ?_,Tt⟩)<;>simp[bw,h1,h2]
theorem rec_of {w:Wor}{s t kn:Int}{ts:List Att}(h:ts.Perm (ofA w s t kn).1/\ts.Pairwise fun a b=>attC b a<0->False):ts=recA w s t kn :=
 srtA_uniq (fun a ha b hb h1 h2=>attI_key (ofA_I ha) (ofA_I hb) h1 h2) h.1 (h.2.imp fun{a b} h e=>h ((attC_bef _ _).2 e))
def eqK (w:Wor)(t kn:Int)(k:Nat):List Red:=((nums w kn).take k).flatMap fun n=>equalR w n t kn
theorem eqK_succ (w:Wor)(t kn:Int){k:Nat}(h:k<(nums w kn).length):eqK w t kn (k+1)=eqK w t kn k++equalR w ((nums w kn).getD k default) t kn:=by
 unfold eqK
 rw[take_succ_at h,List.flatMap_append]
 simp
theorem eqK_len (w:Wor)(hl:w.fcts.length<=50)(t kn:Int):∀k,k<=(nums w kn).length->(eqK w t kn k).length<=2600*k
 |0,_=>by simp[eqK]
 | k + 1,h=>by
   have h1:=eqK_len w hl t kn k Om
   have h2:=equalR_len w Om ((nums w kn).getD k default) t kn
   have h3:=nums_len w kn
   have h4:((nums w kn).length+1)*(nums w kn).length<=51*50:=Nat.mul_le_mul Om Om
   rw[eqK_succ w t kn Om,List.length_append]
   omega
theorem rowsC {m:Mem}{r:Ref}{e sz g k n n':Nat}{f:Nat->List AV}{f':Nat->List D}(hn:n=n')(h:m.get r=bV e sz g k f)(hk:n<=k)(hc:∀i,i<n->f i=up (f' i)):BecP m (.osl r g 0 n) (.sl sz n' f'):=by
 subst hn
 exact BecP.rows h Om (fun i hi=>by rw[Nat.zero_add];exact hc i hi)
def zSit:List D:=[.nils,di 0,di 0,di 0]
def trF (r:List Att)(x:List Int):Bool:=decide (0<tr1 (k0 x) r)
theorem trF_full (r:List Att)(x:List Int):trH r r.length x=trF r x:=by
 unfold trH trF
 rw[List.take_length]
theorem trF_zero {r:List Att}{x:List Int}(h:trF r x=false):(tr1 (k0 x) r:Int)=0/\bs1 (k0 x) r 0=0:=by
 unfold trF at h
 rw[decide_eq_false_iff_not]at h
 exact⟨Om,bs1_none _ _ Om⟩
theorem rdC_all (l:List Att)(t:Int):rdC l t l.length=l.flatMap fun a=>readsT ⟨1,a.course,0⟩ t:=by
 unfold rdC
 rw[List.take_length]
theorem eqK_all (w:Wor)(t kn:Int):eqK w t kn (nums w kn).length=(nums w kn).flatMap fun n=>equalR w n t kn:=by
 unfold eqK
 rw[List.take_length]
theorem sitR_eq (w:Wor)(s t kn:Int):sitR w s t kn=(ofA w s t kn).2++rdC (recA w s t kn) t (recA w s t kn).length++[rdK ⟨12,0,0⟩ 0]++eqK w t kn (nums w kn).length:=by
 unfold sitR
 rw[rdC_all,eqK_all]
 simp
theorem situate_ok (w:Wor) (hw:WfW w) (hl:w.fcts.length≤50) (hi:∀ f∈w.fcts,f.value≤9223372036854775807) (s t kn:Int) (nw:List Int) (hnl:nw.length≤1000000) (hs:bw s 0 19999=true) (ht:bw t 0 1023=true) (hn:nowB (-1) nw=true) :
 Pure Tryz.prog 20 [.agg (eWor w),di s,di t,di kn,eInts nw] [.agg (eSit (sitV w s t kn nw)),eReds (sitR w s t kn),di 0]:=by
 have hW1:=within16_ok s 0 19999
 have hW2:=within16_ok t 0 1023
 rw[hs]at hW1
 rw[ht]at hW2
 rw[sitR_eq,show eSit (sitV w s t kn nw)=[eSens (seenL w t kn (recA w s t kn) nw),di (min (earnF (cntL w s t kn) (cntL w s t kn).length) 10000),di (meanZ (cntL w s t kn)).1,di (meanZ (cntL w s t kn)).2] from rfl]
 have hnn:=nums_len w kn
 have hO:=of16_pre w hw Om s t kn Om (fun n=>hval_of hi s t kn n) 0
 have hrl:=recA_len w s t kn
 have hrf:∀a∈recA w s t kn,fitA a:=fun a ha=>(recA_I ha).fit
 have hz:=zK_len w s t kn _ (Nat.le_refl _)
 rw[zK_all]at hz
 have hR0:(ofA w s t kn).2.length<=52000:=by omega
 have hcf:∀a∈cntL w s t kn,fitA a:=cntL_fit
 have hcl:=cntL_len w s t kn
 have hCt:=fun g=>counted16_ok w hw t kn (fun c=>rep_in w c t kn) (recA w s t kn) Om hrf g (ofA w s t kn).2 Om
 rw[show cntA (repN w t kn) (recA w s t kn)=cntL w s t kn from rfl]at hCt
 have hro:=fun ts=>@rec_of w s t kn ts
 have kro:Kp _:=⟨hro⟩
 clear hro hz hi hs ht
 generalize cntL w s t kn=cl at hcf hcl hCt⊢
 generalize recA w s t kn=r at hrl hrf hCt kro⊢
 have hR1:((ofA w s t kn).2++rdC r t r.length).length<=110000:=by
  rw[List.length_append]
  have:=rdC_len r t _ (Nat.le_refl _)
  omega
 generalize (ofA w s t kn).2++rdC r t r.length=R1 at hR1 hCt⊢
 have hNm:=fun g1=>numbers16_ok w hw Om kn g1 R1 Om
 have hR2:(R1++[rdK ⟨12,0,0⟩ 0]).length<=110001:=by
  rw[List.length_append]
  exact Nat.add_le_add hR1 (Nat.le_refl 1)
 generalize R1++[rdK ⟨12,0,0⟩ 0]=R2 at hR2 hNm⊢
 clear hR0
 have hpm:=fun L h1 h2=>sec_perm (w:=w) (kn:=kn) (t:=t) hrf hn (L:=L) h1 h2
 have hss:=fun ts=>@seen_sorted w t kn r nw ts
 have hsl:(seenL w t kn r nw).length<=4096:=seenF_len w t kn r nw 4096
 generalize seenL w t kn r nw=sl at hpm hsl hss⊢
 have kpm:Kp _:=⟨hpm⟩
 have kss:Kp _:=⟨hss⟩
 clear hpm hss
 have hEa:=earned_ok cl Om hcf
 have hMe:=mean15_ok cl Om hcf
 have hsm:=(sums_in hcf cl.length (Nat.le_refl _)).1
 generalize earnF cl cl.length=ea at hEa hsm⊢
 generalize meanZ cl=me at hMe⊢
 have kCt:Kp _:=⟨hCt⟩
 have kNm:Kp _:=⟨hNm⟩
 have kEa:Kp _:=⟨hEa⟩
 have kMe:Kp _:=⟨hMe⟩
 have kO:Kp _:=⟨hO⟩
 clear hCt hNm hEa hMe hO
 refine pure_ruleC hT (T:=tab) (N:=190) (rs:=[.cell 10 61,.tmp 11,.tmp 12]) Tryz.func20 rfl rfl rfl Kr rfl ?_
 (refine gW ?_;intros)
 refine hW1.call ?_
 (refine gW ?_;intros)
 refine hW2.call ?_
 (refine gW ?_;intros)
 refine loop_rule hT (S:=Nat) (fun k=>([(1,dV s),(2,dV t),(3,dV kn),(5,lp 0),(10,lp 1),(13,.mp (.loc 2)),(14,dV (lastB nw k)),(42,.d (eInts nw)),(43,dV nw.length),(44,dV k)],
  ⟨[bX 29 (up (eWor w)),bX 61 (up zSit),some (.map (.one .i64) (nwH nw k) fun x=>.d (.agg (eSen (nwV nw k x))))],[]⟩)) (fun k=>k<=nw.length/\(-1<=lastB nw k/\lastB nw k<=4095)/\nowB (lastB nw k) (nw.drop k)=true) (fun k=>nw.length-k) 0 ?_ ?_ ?_
 .exact lq
 .exact⟨Nat.zero_le _,by unfold lastB;omega,hn⟩
 .rintro k ⟨hk,hlb,hc⟩
  dsimp only at hk hlb hc⊢
  by_cases hk2:k<nw.length
  .rw[nowB_at hk2]at hc
   simp only[Bool.and_eq_true,decide_eq_true_iff]at hc
   obtain⟨c1,c2,c3⟩:=hc
   have hX:=within16_ok (nw.getD k default) (lastB nw k+1) 4095
   rw[show bw (nw.getD k default) (lastB nw k+1) 4095=true by unfold bw;rw[decide_eq_true Om,decide_eq_true Om];rfl]at hX
   have k3:Kp _:=⟨c3⟩
   clear c3
   (refine gW ?_;intros)
   refine hX.call ?_
   (refine gW ?_;intros)
   refine stp (k+1) ?_ ⟨by show k+1<=nw.length;omega,by rw[lastB_succ];omega,k3.h⟩
   dsimp only
   rw[lastB_succ]
   repeat' (first|exact Tt|exact rfl|exact Nat.le_refl _|refine And.intro ?_ ?_)
   all_goals first
    |(intro key hf;exact⟨nwH_succ hk2 hf,fun _=>⟨nwV_succ hk2 hf rfl,rfl⟩⟩)
  .obtain rfl:k=nw.length:=by omega
   clear hc hlb hk hk2
   (refine gS ?_;intros)
   refine Sq.go ?_;(refine gS ?_;intros)
   refine Sq.go ?_;(refine gS ?_;intros)
   refine Sq.alt (Awp.vecCell (.loc 3) 0 119 107 5 [.d .nils,.d (eCrss w.bok.crs),.d (ePrgs w.bok.prg),.d (eSyss w.bok.sys),.d (eFcts w.fcts),dV kn] (rowsOf eRed []) rfl rfl (vc_ok hT _ _ _ _ (Ev.o ?_)))
   (refine gS ?_;intros)
   refine kO.h.at [.loc 3,.loc 4] rfl ⟨rfl,rfl,Tt⟩ (fun y hy=>⟨rfl,?_⟩)
   obtain⟨r,g⟩:=y
   have hts:=kro.h _ hy
   dsimp only at hts
   subst hts
   clear hy kO
   (refine gW ?_;intros)
   refine(kCt.h g).at [.loc 3,.loc 4] rfl ⟨rfl,rfl,Tt⟩ (fun _ _=>⟨rfl,?_⟩)
   generalize g+r.length=g1
   (refine gW ?_;intros)
   refine loop_rule hT (S:=Nat) (fun k=>([(2,dV t),(10,lp 1),(13,.mp (.loc 2)),(17,lp 3),(19,.d (eAtts cl)),(20,.mp (.loc 6)),(21,.mp (.loc 7)),(80,.d (eAtts r)),(81,dV r.length),(82,dV k)],
    ⟨[none,bX 61 (up zSit),some (.map (.one .i64) (nwH nw nw.length) fun x=>.d (.agg (eSen (nwV nw nw.length x)))),bX 119 [.osl (.loc 4) g1 0 (R1).length,.d (eCrss w.bok.crs),.d (ePrgs w.bok.prg),.d (eSyss w.bok.sys),.d (eFcts w.fcts),dV kn],bV 107 5 g1 (R1).length (rowsOf eRed (R1)),none,some (.map (.one .i64) (trH r k) fun x=>dV (tr1 (k0 x) (r.take k):Nat)),some (.map (.one .i64) (trH r k) fun x=>dV (bs1 (k0 x) (r.take k) 0))],[]⟩)) (fun k=>k<=r.length) (fun k=>r.length-k) 0 ?_ ?_ ?_
   .exact lq
   .exact Nat.zero_le _
   .intro k hk
    dsimp only at hk⊢
    by_cases hk2:k<r.length
    .have hfa:=hrf _ (getD_mem hk2)
     have hb:=bs1_in (r.getD k default).course (r.take k) 0 ⟨Int.le_refl 0,Dc⟩ (fun a ha=>hrf a (List.mem_of_mem_take ha))
     have htl:=tr1_le (r.getD k default).course (r.take k)
     rw[List.length_take]at htl
     repeat' (first|with_reducible refine Sq.go ?_|((with_reducible refine Ev.mk ?_);conv=>whnf)|with_reducible refine Dr.mk ⟨Kr,Kr⟩ ?_|with_reducible refine obG ?_|with_reducible refine Ob.mk ?_ ?_|(with_reducible first|refine brT fun h=>?_|refine brF fun h=>?_|refine Br.mk (fun h=>?_) fun h=>?_)<;>(try simp only[bsl,beq_iff_eq,bne_iff_ne,bs2]at h)<;>(try contradiction)<;>try (exfalso;omega))
     .intro h0
      have e:=tr1_zero h0
      show ZFit _ (dV ((tr1 (k0 [(r.getD k default).course]) (r.take k):Nat):Int))
      have e:((tr1 (k0 [(r.getD k default).course]) (r.take k):Nat):Int)=0:=e
      rw[e]
      with_unfolding_all exact rfl
     .show In .i64 ((tr1 ((r.getD k default).course) (r.take k):Nat)+1:Int)
      exact in64.2 Om
     .intro h0
      have e:=bs1_zero h0
      show ZFit _ (dV (bs1 (k0 [(r.getD k default).course]) (r.take k) 0))
      have e:bs1 (k0 [(r.getD k default).course]) (r.take k) 0=0:=e
      rw[e]
      with_unfolding_all exact rfl
     .refine⟨k+1,by show k+1<=r.length;omega,by show r.length-(k+1)<r.length-k;omega,?_⟩
      dsimp only
      repeat' (first|exact Tt|exact rfl|exact Nat.le_refl _|refine And.intro ?_ ?_)
      all_goals first
       |(intro key hf;exact⟨rfl,fun h=>⟨rfl,rfl⟩⟩)
       |(intro key hf;exact⟨trH_succ hk2 hf,fun h=>⟨trV_succ hk2 hf rfl rfl,rfl⟩⟩)
       |(intro key hf;exact⟨trH_succ hk2 hf,fun h=>⟨bsV_succ hk2 hf rfl rfl rfl,rfl⟩⟩)
       |(intro j hj;exact⟨rfl,rfl⟩)
    .obtain rfl:k=r.length:=by omega
     clear hk hk2
     (refine gW ?_;intros)
     refine(kNm.h g1).at [.loc 3,.loc 4] rfl ⟨rfl,rfl,Tt⟩ (fun _ _=>⟨rfl,?_⟩)
     (refine gW ?_;intros)
     refine loop_rule hT (S:=Nat × Nat) (fun z=>([(2,dV t),(10,lp 1),(13,.mp (.loc 2)),(17,lp 3),(19,.d (eAtts cl)),(20,.mp (.loc 6)),(21,.mp (.loc 7)),(102,.d (eInts (nums w kn))),(103,dV (nums w kn).length),(104,dV z.1)],
      ⟨[none,bX 61 (up zSit),some (.map (.one .i64) (secH w t kn r nw z.1) fun x=>.d (.agg (eSen (secV w t kn r nw z.1 x)))),bX 119 [.osl (.loc 4) z.2 0 (R2++eqK w t kn z.1).length,.d (eCrss w.bok.crs),.d (ePrgs w.bok.prg),.d (eSyss w.bok.sys),.d (eFcts w.fcts),dV kn],bV 107 5 z.2 (R2++eqK w t kn z.1).length (rowsOf eRed (R2++eqK w t kn z.1)),none,some (.map (.one .i64) (trF r) fun x=>dV (tr1 (k0 x) r:Nat)),some (.map (.one .i64) (trF r) fun x=>dV (bs1 (k0 x) r 0))],[]⟩)) (fun z=>z.1<=(nums w kn).length) (fun z=>(nums w kn).length-z.1) (0,g1+1) ?_ ?_ ?_
     .rw[show R2++eqK w t kn 0=R2 by simp[eqK]]
      repeat' (first|exact Tt|exact rfl|exact Nat.le_refl _|refine And.intro ?_ ?_)
      all_goals first
       |(intro key hf;exact⟨secH_zero w t kn r nw key,fun h=>⟨congrArg (fun z=>AV.d (D.agg (eSen z))) (secV_zero w t kn r nw key),rfl⟩⟩)
       |(intro key hf;exact⟨trF_full r key,fun h=>⟨congrArg (fun z=>dV (tr1 (k0 key) z:Nat)) List.take_length,rfl⟩⟩)
       |(intro key hf;exact⟨trF_full r key,fun h=>⟨congrArg (fun z=>dV (bs1 (k0 key) z 0)) List.take_length,rfl⟩⟩)
       |(intro j hj;exact⟨rfl,rfl⟩)
     .exact Nat.zero_le _
     .rintro ⟨k,g⟩ hk
      dsimp only at hk⊢
      have hql:=eqK_len w hl t kn k hk
      by_cases hk2:k<(nums w kn).length
      .have hsx:=eqK_succ w t kn hk2
       obtain⟨n,hnk⟩:∃n,(nums w kn).getD k default=n:=⟨_,rfl⟩
       rw[hnk]at hsx
       have hE:=equal16_ok w hw Om n t kn g (R2++eqK w t kn k) (by rw[List.length_append];omega) (by
        have h2:=equalR_len w Om n t kn
        have h4:((nums w kn).length+1)*(nums w kn).length<=51*50:=Nat.mul_le_mul Om Om
        omega)
       rw[List.append_assoc,<-hsx]at hE
       have hnd:=equalL_nd w n t kn
       have hel:=equalL_len w n t kn
       have hall:=stpN_all hrf hnd
       have hnw:=sec_now (w:=w) (t:=t) (kn:=kn) (r:=r) (nw:=nw) hk2 hnk
       obtain⟨E,hEe⟩:∃E,equalL w n t kn=E:=⟨_,rfl⟩
       rw[hEe]at hnd hel hall hE
       have hz:=fun h:secH w t kn r nw k [n]=false=>sec_none h
       have kz:Kp _:=⟨hz⟩
       clear hz hsx
       (refine gS ?_;intros)
       refine Sq.go ?_;(refine gS ?_;intros)
       refine Sq.go ?_;(refine gS ?_;intros)
       simp(config:={beta:=false,eta:=false,iota:=false,proj:=false,zeta:=false,decide:=false}) only[Int.toNat_natCast,hnk]
       refine Sq.go ?_;repeat' (first|((with_reducible refine Ev.mk ?_);conv=>whnf)|with_reducible refine Dr.mk ⟨Kr,Kr⟩ ?_|with_reducible refine obG ?_|with_reducible refine Ob.mk ?_ ?_|(with_reducible first|refine brT fun h=>?_|refine brF fun h=>?_|refine Br.mk (fun h=>?_) fun h=>?_)<;>(try simp only[bsl,beq_iff_eq,bne_iff_ne,bs2]at h)<;>(try contradiction)<;>try (exfalso;omega))
       .intro h0
        show ZFit _ (AV.d (D.agg (eSen (secV w t kn r nw k [n]))))
        rw[kz.h h0]
        exact⟨rfl,rfl,rfl,rfl,Tt⟩
       (refine gW ?_;intros)
       refine hE.at [.loc 3,.loc 4] rfl ⟨rfl,rfl,Tt⟩ (fun _ _=>⟨rfl,?_⟩)
       clear hE
       repeat' (first|with_reducible refine Sq.go ?_|((with_reducible refine Ev.mk ?_);conv=>whnf)|with_reducible refine Dr.mk ⟨Kr,Kr⟩ ?_|with_reducible refine obG ?_|with_reducible refine Ob.mk ?_ ?_|(with_reducible first|refine brT fun h=>?_|refine brF fun h=>?_|refine Br.mk (fun h=>?_) fun h=>?_)<;>(try simp only[bsl,beq_iff_eq,bne_iff_ne,bs2]at h)<;>(try contradiction)<;>try (exfalso;omega))
       refine loop_rule hT (S:=Nat) (fun j=>([(2,dV t),(10,lp 1),(13,.mp (.loc 2)),(17,lp 3),(19,.d (eAtts cl)),(20,.mp (.loc 6)),(21,.mp (.loc 7)),(102,.d (eInts (nums w kn))),(103,dV (nums w kn).length),(104,dV k),(25,dV n),(26,lp 8),(116,.d (eInts E)),(117,dV E.length),(118,dV j)],
        ⟨[none,bX 61 (up zSit),some (.map (.one .i64) (secH w t kn r nw k) fun x=>.d (.agg (eSen (secV w t kn r nw k x)))),bX 119 [.osl (.loc 4) (g+1) 0 (R2++eqK w t kn (k+1)).length,.d (eCrss w.bok.crs),.d (ePrgs w.bok.prg),.d (eSyss w.bok.sys),.d (eFcts w.fcts),dV kn],bV 107 5 (g+1) (R2++eqK w t kn (k+1)).length (rowsOf eRed (R2++eqK w t kn (k+1))),none,some (.map (.one .i64) (trF r) fun x=>dV (tr1 (k0 x) r:Nat)),some (.map (.one .i64) (trF r) fun x=>dV (bs1 (k0 x) r 0)),bX 115 (up (eSen ⟨n,(stpN r E j).1,(stpN r E j).2,decide (n∈nw)⟩))],[]⟩)) (fun j=>j<=E.length) (fun j=>E.length-j) 0 ?_ ?_ ?_
       .repeat' (first|exact Tt|exact rfl|exact Nat.le_refl _|refine And.intro ?_ ?_)
        all_goals first
         |(intro key hf;exact⟨rfl,fun h=>⟨rfl,rfl⟩⟩)
         |(intro j hj;exact⟨rfl,rfl⟩)
         |(rw[hnw];rfl)
       .exact Nat.zero_le _
       .intro j hj
        dsimp only at hj⊢
        by_cases hj2:j<E.length
        .have hst:=stpN_succ (r:=r) hj2
         have hin:=stpN_in hrf E j hj
         obtain⟨c,hcc⟩:∃c,E.getD j default=c:=⟨_,rfl⟩
         rw[hcc]at hst
         have hb:=bs1_in (k0 [c]) r 0 ⟨Int.le_refl 0,Dc⟩ hrf
         have htl:=tr1_le (k0 [c]) r
         generalize stpN r E j=z at hst hin⊢
         by_cases h0:0<tr1 (k0 [c]) r
         .rw [stpE,if_pos (show 0 < tr1 c r from h0)] at hst
          have ks:Kp _:=⟨hst⟩
          clear hst
          repeat' (first|((with_reducible refine Ev.mk ?_);conv=>whnf)|with_reducible refine Dr.mk ⟨Kr,Kr⟩ ?_|with_reducible refine obG ?_|with_reducible refine Ob.mk ?_ ?_|(with_reducible first|refine brT fun h=>?_|refine brF fun h=>?_|refine Br.mk (fun h=>?_) fun h=>?_)<;>(try simp only[bsl,beq_iff_eq,bne_iff_ne,bs2]at h)<;>(try contradiction)<;>try (exfalso;omega))
          refine Sq.go ?_;repeat' (first|((with_reducible refine Ev.mk ?_);conv=>whnf)|with_reducible refine Dr.mk ⟨Kr,Kr⟩ ?_|with_reducible refine obG ?_|with_reducible refine Ob.mk ?_ ?_|(with_reducible first|refine brT fun h=>?_|refine brF fun h=>?_|refine Br.mk (fun h=>?_) fun h=>?_)<;>(try simp only[bsl,beq_iff_eq,bne_iff_ne,bs2]at h)<;>(try contradiction)<;>try (exfalso;omega))
          refine Sq.go ?_;repeat' (first|((with_reducible refine Ev.mk ?_);conv=>whnf)|with_reducible refine Dr.mk ⟨Kr,Kr⟩ ?_|with_reducible refine obG ?_|with_reducible refine Ob.mk ?_ ?_|(with_reducible first|refine brT fun h=>?_|refine brF fun h=>?_|refine Br.mk (fun h=>?_) fun h=>?_)<;>(try simp only[bsl,beq_iff_eq,bne_iff_ne,bs2]at h)<;>(try contradiction)<;>try (exfalso;omega))
          simp(config:={beta:=false,eta:=false,iota:=false,proj:=false,zeta:=false,decide:=false}) only[Int.toNat_natCast,hcc]
          repeat' (first|with_reducible refine Sq.go ?_|((with_reducible refine Ev.mk ?_);conv=>whnf)|with_reducible refine Dr.mk ⟨Kr,Kr⟩ ?_|with_reducible refine obG ?_|with_reducible refine Ob.mk ?_ ?_|(with_reducible first|refine brT fun h=>?_|refine brF fun h=>?_|refine Br.mk (fun h=>?_) fun h=>?_)<;>(try simp only[bsl,beq_iff_eq,bne_iff_ne,bs2]at h)<;>(try contradiction)<;>try (exfalso;omega))
          all_goals first
           | (refine ⟨j + 1,by show j + 1≤E.length;omega,by show E.length - (j + 1) < E.length - j;omega,?_⟩
              dsimp only
              rw[ks.h]
              repeat' (first|exact Tt|exact rfl|exact Nat.le_refl _|refine And.intro ?_ ?_)
              all_goals first
               |(intro key hf;exact⟨rfl,fun h=>⟨rfl,rfl⟩⟩)
               |(intro j hj;exact⟨rfl,rfl⟩)
               |trace_state)
           |exact in64.2 (show -9223372036854775808<=z.1+(tr1 (k0 [c]) r:Nat)/\z.1+(tr1 (k0 [c]) r:Nat)<=9223372036854775807 by omega)
           | (intro h1
              have e:bs1 (k0 [c]) r 0=0:=(trF_zero h1).2
              simp only[e]
              with_unfolding_all exact rfl)
           | (intro h1
              have e:((tr1 (k0 [c]) r:Nat):Int)=0:=(trF_zero h1).1
              simp only[e]
              with_unfolding_all exact rfl)
         .rw [stpE,if_neg (show ¬ 0 < tr1 c r from h0)] at hst
          have ks:Kp _:=⟨hst⟩
          clear hst
          repeat' (first|((with_reducible refine Ev.mk ?_);conv=>whnf)|with_reducible refine Dr.mk ⟨Kr,Kr⟩ ?_|with_reducible refine obG ?_|with_reducible refine Ob.mk ?_ ?_|(with_reducible first|refine brT fun h=>?_|refine brF fun h=>?_|refine Br.mk (fun h=>?_) fun h=>?_)<;>(try simp only[bsl,beq_iff_eq,bne_iff_ne,bs2]at h)<;>(try contradiction)<;>try (exfalso;omega))
          refine Sq.go ?_;repeat' (first|((with_reducible refine Ev.mk ?_);conv=>whnf)|with_reducible refine Dr.mk ⟨Kr,Kr⟩ ?_|with_reducible refine obG ?_|with_reducible refine Ob.mk ?_ ?_|(with_reducible first|refine brT fun h=>?_|refine brF fun h=>?_|refine Br.mk (fun h=>?_) fun h=>?_)<;>(try simp only[bsl,beq_iff_eq,bne_iff_ne,bs2]at h)<;>(try contradiction)<;>try (exfalso;omega))
          refine Sq.go ?_;repeat' (first|((with_reducible refine Ev.mk ?_);conv=>whnf)|with_reducible refine Dr.mk ⟨Kr,Kr⟩ ?_|with_reducible refine obG ?_|with_reducible refine Ob.mk ?_ ?_|(with_reducible first|refine brT fun h=>?_|refine brF fun h=>?_|refine Br.mk (fun h=>?_) fun h=>?_)<;>(try simp only[bsl,beq_iff_eq,bne_iff_ne,bs2]at h)<;>(try contradiction)<;>try (exfalso;omega))
          simp(config:={beta:=false,eta:=false,iota:=false,proj:=false,zeta:=false,decide:=false}) only[Int.toNat_natCast,hcc]
          repeat' (first|with_reducible refine Sq.go ?_|((with_reducible refine Ev.mk ?_);conv=>whnf)|with_reducible refine Dr.mk ⟨Kr,Kr⟩ ?_|with_reducible refine obG ?_|with_reducible refine Ob.mk ?_ ?_|(with_reducible first|refine brT fun h=>?_|refine brF fun h=>?_|refine Br.mk (fun h=>?_) fun h=>?_)<;>(try simp only[bsl,beq_iff_eq,bne_iff_ne,bs2]at h)<;>(try contradiction)<;>try (exfalso;omega))
          all_goals first
           | (refine ⟨j + 1,by show j + 1≤E.length;omega,by show E.length - (j + 1) < E.length - j;omega,?_⟩
              dsimp only
              rw[ks.h]
              repeat' (first|exact Tt|exact rfl|exact Nat.le_refl _|refine And.intro ?_ ?_)
              all_goals first
               |(intro key hf;exact⟨rfl,fun h=>⟨rfl,rfl⟩⟩)
               |(intro j hj;exact⟨rfl,rfl⟩)
               |trace_state)
           |exact in64.2 (show -9223372036854775808<=z.1+(tr1 (k0 [c]) r:Nat)/\z.1+(tr1 (k0 [c]) r:Nat)<=9223372036854775807 by omega)
           | (intro h1
              have e:bs1 (k0 [c]) r 0=0:=(trF_zero h1).2
              simp only[e]
              with_unfolding_all exact rfl)
           | (intro h1
              have e:((tr1 (k0 [c]) r:Nat):Int)=0:=(trF_zero h1).1
              simp only[e]
              with_unfolding_all exact rfl)
        .obtain rfl:j=E.length:=by omega
         have hsn:=senZ_in (E:=E) hrf
         obtain⟨z,hzz⟩:∃z,senZ E r=z:=⟨_,rfl⟩
         rw[hzz]at hall hsn
         have hseS:seS w t kn r nw n=⟨n,z.1,z.2,decide (n∈nw)⟩:=by
          unfold seS
          rw[if_pos (by rw[<-hnk];exact getD_mem hk2),hEe,hzz]
         rw[hall]
         clear hall
         by_cases h0:0<z.1
         .have h0':0<(senZ (equalL w n t kn) r).1:=by rw[hEe,hzz];exact h0
          (refine gW ?_;intros)
          refine stp (k+1,g+1) ?_
          dsimp only
          repeat' (first|exact Tt|exact rfl|exact Nat.le_refl _|refine And.intro ?_ ?_)
          all_goals first
           |(intro key hf;exact⟨secH_put hk2 hnk h0' hf,fun h=>⟨secV_put hk2 hnk h0' hf (by rw[hseS];rfl),rfl⟩⟩)
           |(intro key hf;exact⟨rfl,fun h=>⟨rfl,rfl⟩⟩)
           |(intro j hj;exact⟨rfl,rfl⟩)
         .have h0':¬ 0<(senZ (equalL w n t kn) r).1:=by rw[hEe,hzz];exact h0
          (refine gW ?_;intros)
          refine stp (k+1,g+1) ?_
          dsimp only
          repeat' (first|exact Tt|exact rfl|exact Nat.le_refl _|refine And.intro ?_ ?_)
          all_goals first
           |(intro key hf;exact⟨secH_stay hk2 hnk h0' key,fun h=>⟨congrArg (fun z=>AV.d (D.agg (eSen z))) (secV_stay hk2 hnk h0' key),rfl⟩⟩)
           |(intro key hf;exact⟨rfl,fun h=>⟨rfl,rfl⟩⟩)
           |(intro j hj;exact⟨rfl,rfl⟩)
      .obtain rfl:k=(nums w kn).length:=by omega
       have hRf:(R2++eqK w t kn (nums w kn).length).length<=300000:=by rw[List.length_append];omega
       (refine gS ?_;intros)
       refine Sq.go ?_;(refine gS ?_;intros)
       refine Sq.alt (Awp.vecCell (.loc 1) 0 61 115 4 (up zSit) (rowsOf eSen []) rfl rfl (Awp.frz [2] 13 (.mapd (.one .i64) (secH w t kn r nw (nums w kn).length) fun x=>.agg (eSen (secV w t kn r nw (nums w kn).length x))) (.mp rfl fun k hk=>.d) (vc_ok hT _ _ _ _ (Ev.o ?_))))
       (refine gW ?_;intros)
       refine op_range hT rfl rfl rfl (fun left hnd hmem=>?_)
       have hp0:=kpm.h left hnd hmem
       clear kpm
       (refine gW ?_;intros)
       refine loop_rule hT (S:=(List (List Int) × Option (List Int)) × (List Sen × Nat)) (fun y=>([(10,lp 1),(17,lp 3),(19,.d (eAtts cl)),(150,lp 9)],
        ⟨[none,bX 61 [.osl (.loc 8) y.2.2 0 y.2.1.length,dV 0,dV 0,dV 0],none,bX 119 [.osl (.loc 4) g 0 (R2++eqK w t kn (nums w kn).length).length,.d (eCrss w.bok.crs),.d (ePrgs w.bok.prg),.d (eSyss w.bok.sys),.d (eFcts w.fcts),dV kn],bV 107 5 g (R2++eqK w t kn (nums w kn).length).length (rowsOf eRed (R2++eqK w t kn (nums w kn).length)),none,none,none,bV 115 4 y.2.2 y.2.1.length (rowsOf eSen y.2.1),some (.iter (.one .i64) (secH w t kn r nw (nums w kn).length) (fun x=>.agg (eSen (secV w t kn r nw (nums w kn).length x))) y.1.1 y.1.2)],[]⟩)) (fun y=>(y.2.1++y.1.1.map (secV w t kn r nw (nums w kn).length)).Perm sl) (fun y=>y.1.1.length) ((left,none),([],0)) ?_ ?_ ?_
       .exact lq
       .exact hp0
       .rintro⟨⟨left,cur⟩,⟨acc,ga⟩⟩ hJ
        dsimp only at hJ⊢
        have hJl:=hJ.length_eq
        rw[List.length_append,List.length_map]at hJl
        (refine gW ?_;intros)
        refine op_next rfl rfl rfl (fun hl=>?_) (fun key hkey=>?_)
        .rw[hl,List.map_nil,List.append_nil]at hJ
         have hS:=sortSen_ok acc Om ga 115
         have hal:=hJ.length_eq
         (refine gW ?_;intros)
         refine hS.at [.loc 8] rfl ⟨rfl,Tt⟩ (fun ts hts=>⟨rfl,?_⟩)
         have hte:=kss.h ts (hts.1.trans hJ) hts.2
         (refine gW ?_;intros)
         refine kEa.h.call ?_
         (refine gW ?_;intros)
         refine kMe.h.call ?_
         (refine gS ?_;intros)
         refine Sq.go ?_;(refine gS ?_;intros)
         refine Sq.go ?_;(refine gS ?_;intros)
         refine Sq.alt (Awp.le (env':=[(10,lp 1),(17,lp 3)]) (m':=⟨[none,bX 61 [.osl (.loc 8) ga 0 acc.length,dV (min ea 10000),dV me.1,dV me.2],none,bX 119 [.osl (.loc 4) g 0 (R2++eqK w t kn (nums w kn).length).length,.d (eCrss w.bok.crs),.d (ePrgs w.bok.prg),.d (eSyss w.bok.sys),.d (eFcts w.fcts),dV kn],bV 107 5 g (R2++eqK w t kn (nums w kn).length).length (rowsOf eRed (R2++eqK w t kn (nums w kn).length)),none,none,none,bV 115 4 ga acc.length (rowsOf eSen ts)],[]⟩) ?_
          (Awp.seq (Awp.effs (m:=⟨[none,some (.box 61 [.osl (.loc 8) ga 0 acc.length,.d (.int .i64 (min ea 10000)),.d (.int .i64 me.1),.d (.int .i64 me.2)]),none,some (.box 119 [.osl (.loc 4) g 0 (R2 ++ eqK w t kn (nums w kn).length).length,.d (eCrss w.bok.crs),.d (ePrgs w.bok.prg),.d (eSyss w.bok.sys),.d (eFcts w.fcts),.d (.int .i64 kn)]),some (.vec 107 5 g (R2 ++ eqK w t kn (nums w kn).length).length (rowsOf eRed (R2 ++ eqK w t kn (nums w kn).length))),none,none,none,some (.vec 115 4 ga acc.length (rowsOf eSen ts))],[]⟩) hT (by kernel_rfl) (by kernel_rfl) (by kernel_rfl) ⟨[none,some (.box 61 [.osl (.loc 8) ga 0 acc.length,.d (.int .i64 (min ea 10000)),.d (.int .i64 me.1),.d (.int .i64 me.2)]),none,some (.box 119 [.osl (.loc 4) g 0 (R2 ++ eqK w t kn (nums w kn).length).length,.d (eCrss w.bok.crs),.d (ePrgs w.bok.prg),.d (eSyss w.bok.sys),.d (eFcts w.fcts),.d (.int .i64 kn)]),some (.vec 107 5 g (R2 ++ eqK w t kn (nums w kn).length).length (rowsOf eRed (R2 ++ eqK w t kn (nums w kn).length))),none,none,none,some (.vec 115 4 ga acc.length (rowsOf eSen ts))],[]⟩
           [⟨4,.junk,⟨[none,bX 61 [.osl (.loc 8) ga 0 acc.length,dV (min ea 10000),dV me.1,dV me.2],none,bX 119 [.osl (.loc 4) g 0 (R2++eqK w t kn (nums w kn).length).length,.d (eCrss w.bok.crs),.d (ePrgs w.bok.prg),.d (eSyss w.bok.sys),.d (eFcts w.fcts),dV kn],bV 107 5 g (R2++eqK w t kn (nums w kn).length).length (rowsOf eRed (R2++eqK w t kn (nums w kn).length)),none,none,none,bV 115 4 ga acc.length (rowsOf eSen ts)],[]⟩,[]⟩,⟨5,.osl (.loc 4) g 0 (R2++eqK w t kn (nums w kn).length).length,⟨[none,bX 61 [.osl (.loc 8) ga 0 acc.length,dV (min ea 10000),dV me.1,dV me.2],none,bX 119 [.osl (.loc 4) g 0 (R2++eqK w t kn (nums w kn).length).length,.d (eCrss w.bok.crs),.d (ePrgs w.bok.prg),.d (eSyss w.bok.sys),.d (eFcts w.fcts),dV kn],bV 107 5 g (R2++eqK w t kn (nums w kn).length).length (rowsOf eRed (R2++eqK w t kn (nums w kn).length)),none,none,none,bV 115 4 ga acc.length (rowsOf eSen ts)],[]⟩,[4]⟩,⟨6,dV 0,⟨[none,bX 61 [.osl (.loc 8) ga 0 acc.length,dV (min ea 10000),dV me.1,dV me.2],none,bX 119 [.osl (.loc 4) g 0 (R2++eqK w t kn (nums w kn).length).length,.d (eCrss w.bok.crs),.d (ePrgs w.bok.prg),.d (eSyss w.bok.sys),.d (eFcts w.fcts),dV kn],bV 107 5 g (R2++eqK w t kn (nums w kn).length).length (rowsOf eRed (R2++eqK w t kn (nums w kn).length)),none,none,none,bV 115 4 ga acc.length (rowsOf eSen ts)],[]⟩,[5]⟩] Kr (fun r=>.inl rfl) ⟨fun r=>.inl rfl,fun r=>.inl rfl,fun r=>.inl rfl,Tt⟩ ?_)))
         .exact lq
         conv=>whnf
         (refine gS ?_;intros)
         refine⟨?_,?_,?_,?_⟩
         .conv=>whnf
          (refine gS ?_;intros)
          exact⟨Tt,rfl⟩
         .conv=>whnf
          (refine gS ?_;intros)
          exact⟨rfl,rfl⟩
         .conv=>whnf
          (refine gS ?_;intros)
          exact⟨rfl,rfl⟩
         conv=>whnf
         (refine gW ?_;intros)
         refine Awp.of_vc hT ?_
         (refine gW ?_;intros)
         subst hte
         exact⟨BecP.agg' ⟨rowsC hal rfl (Nat.le_refl _) (fun i hi=>rfl),.d,.d,.d,Tt⟩,BecP.rows rfl (Nat.le_of_eq (Nat.zero_add _)) (fun i hi=>by rw[Nat.zero_add];rfl),.d,Tt⟩
        .obtain⟨x,hx⟩:∃x,secV w t kn r nw (nums w kn).length key=x:=⟨_,rfl⟩
         have hlp:=List.length_pos_of_mem hkey
         have hle:=List.length_erase_of_mem hkey
         have hJ2:((acc++[x])++(left.erase key).map (secV w t kn r nw (nums w kn).length)).Perm sl:=by
          refine List.Perm.trans ?_ hJ
          rw[List.append_assoc,<-hx]
          refine List.Perm.append_left acc ?_
          exact((List.perm_cons_erase hkey).map _).symm
         have kJ:Kp _:=⟨hJ2⟩
         clear hJ hJ2
         (refine gW ?_;intros)
         refine op_entry rfl rfl rfl ?_
         (refine gW ?_;intros)
         refine stp (((left.erase key,some key),(acc++[x],ga+1))) ?_ kJ.h
         dsimp only
         rw[len_snoc]
         repeat' (first|exact Tt|exact rfl|exact Nat.le_refl _|refine And.intro ?_ ?_)
         all_goals first
          |(intro key hf;exact⟨rfl,fun h=>⟨rfl,rfl⟩⟩)
          |(intro j hj;exact⟨rfl,rfl⟩)
          | (intro j hj
             refine⟨?_,rfl⟩
             rw[<-hx]
             exact join_snoc eSen acc _ _ rfl j (by rw[len_snoc];exact hj))
end Go.Proofs.YtkjmomadndmeaaaGreatDoor
