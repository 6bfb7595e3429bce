import Derived.Test.YtkjmomadndmeaaaGreatDoorRecO
import Derived.Test.YtkjmomadndmeaaaGreatDoorSrtA
import Derived.Test.YtkjmomadndmeaaaGreatDoorEngAS
import Derived.Test.YtkjmomadndmeaaaGreatDoorRecS
import Derived.Test.YtkjmomadndmeaaaGreatDoorRuleE
namespace Go.Proofs.YtkjmomadndmeaaaGreatDoor
set_option linter.unusedSimpArgs false
set_option linter.unusedVariables false
open Go Go.Ab
set_option maxRecDepth 100000
set_option maxHeartbeats 0
def zK (w:Wor)(s t kn:Int)(k:Nat):List Att × List Red:=((nums w kn).take k).foldl (rowA w s t kn) ([],[rdK ⟨12,0,0⟩ 0])
def zJ (w:Wor)(s t kn:Int)(k:Nat)(n:Int)(j:Nat):List Att × List Red:=((pointsV w.fcts (gK s n) 0 t kn).take j).foldl (stpA w kn n) ((zK w s t kn k).1,(zK w s t kn k).2++[⟨5,s,n,0,t⟩])
theorem zK_succ (w:Wor)(s t kn:Int){k:Nat}(h:k<(nums w kn).length):zK w s t kn (k+1)=zJ w s t kn k ((nums w kn).getD k default) (pointsV w.fcts (gK s ((nums w kn).getD k default)) 0 t kn).length:=by
 unfold zK zJ
 rw[take_succ_at h,List.foldl_append,List.take_length]
 rfl
theorem zJ_succ (w:Wor)(s t kn:Int)(k:Nat)(n:Int){j:Nat}(h:j<(pointsV w.fcts (gK s n) 0 t kn).length):zJ w s t kn k n (j+1)=stpA w kn n (zJ w s t kn k n j) ((pointsV w.fcts (gK s n) 0 t kn).getD j default):=by
 unfold zJ
 rw[take_succ_at h,List.foldl_append]
 rfl
theorem zK_all (w:Wor)(s t kn:Int):zK w s t kn (nums w kn).length=ofA w s t kn:=by
 unfold zK ofA
 rw[List.take_length]
theorem stpA_len (w:Wor)(kn n:Int)(z:List Att × List Red)(p:Poi):(stpA w kn n z p).1.length<=z.1.length+1/\(stpA w kn n z p).2.length<=z.2.length+1:=by
 unfold stpA
 split
 .exact⟨Om,Om⟩
 .have:=readsT_len ⟨1,n,0⟩ p.term
  simp only[List.length_append,List.length_cons,List.length_nil]
  omega
theorem zJ_len (w:Wor)(s t kn:Int)(k:Nat)(n:Int):∀j,j<=(pointsV w.fcts (gK s n) 0 t kn).length->(zJ w s t kn k n j).1.length<=(zK w s t kn k).1.length+j/\(zJ w s t kn k n j).2.length<=(zK w s t kn k).2.length+1+j
 |0,_=>by simp[zJ]
 | j + 1,h=>by
   have h1:=zJ_len w s t kn k n j Om
   have h2:=stpA_len w kn n (zJ w s t kn k n j) ((pointsV w.fcts (gK s n) 0 t kn).getD j default)
   rw[zJ_succ w s t kn k n Om]
   omega
theorem zK_len (w:Wor)(s t kn:Int):∀k,k<=(nums w kn).length->(zK w s t kn k).1.length<=1025*k/\(zK w s t kn k).2.length<=1025*k+1
 |0,_=>by simp[zK]
 | k + 1,h=>by
   have h1:=zK_len w s t kn k Om
   have h2:=pointsV_len w.fcts (gK s ((nums w kn).getD k default)) 0 t kn
   have h3:=zJ_len w s t kn k ((nums w kn).getD k default) _ (Nat.le_refl _)
   rw[zK_succ w s t kn Om]
   omega
theorem of16_pre (w:Wor) (hw:WfW w) (hl:w.fcts.length≤100000) (s t kn:Int) (hn:(nums w kn).length≤900) (hval:∀ n,∀ p∈pointsV w.fcts (gK s n) 0 t kn,p.value≤9223372036854775807) (g:Nat) :
 CallVC Tryz.prog 54 [ap 0,dV s,dV t] (lokM w kn g [])
  (Ret (fun y:List Att × Nat=>([.d (.agg [di s,eAtts y.1])],lokM w kn y.2 (ofA w s t kn).2)) fun y=>y.1.Perm (ofA w s t kn).1/\y.1.Pairwise fun a b=>attC b a<0->False):=by
 have hN:=numbers16_ok w hw hl kn g [] (by simp)
 unfold lokM
 refine call_rule hT (T:=tab) (N:=67) (rs:=[.cell 6 122]) _ _ Tryz.func54 rfl rfl rfl Kr rfl ?_
 (refine gW ?_;intros)
 refine hN.at [.arg 0,.arg 1] rfl ?_ (fun _ _=>⟨rfl,?_⟩)
 .exact⟨rfl,rfl,Tt⟩
 (refine gW ?_;intros)
 refine Awp.vecCell (.loc 0) 1 122 128 5 [dV s,.d .nils] (rowsOf eAtt []) rfl rfl ?_
 refine loop_rule hT (S:=Nat × Nat × Nat) (fun z=>([(0,ap 0),(1,dV s),(2,dV t),(6,lp 0),(16,.d (eInts (nums w kn))),(17,dV (nums w kn).length),(18,dV z.1)],
  ⟨[bX 122 [dV s,.osl (.loc 1) z.2.1 0 (zK w s t kn z.1).1.length],bV 128 5 z.2.1 (zK w s t kn z.1).1.length (rowsOf eAtt (zK w s t kn z.1).1)],[bX 119 [.osl (.arg 1) z.2.2 0 (zK w s t kn z.1).2.length,.d (eCrss w.bok.crs),.d (ePrgs w.bok.prg),.d (eSyss w.bok.sys),.d (eFcts w.fcts),dV kn],bV 107 5 z.2.2 (zK w s t kn z.1).2.length (rowsOf eRed (zK w s t kn z.1).2)]⟩)) (fun z=>z.1<=(nums w kn).length) (fun z=>(nums w kn).length-z.1) (0,0,g+1) ?_ ?_ ?_
 .exact lq
 .exact Nat.zero_le _
 .rintro ⟨k,ga,gl⟩ hk
  dsimp only at hk⊢
  by_cases hk2:k<(nums w kn).length
  .have hb:=zK_len w s t kn k hk
   have hs:=zK_succ w s t kn hk2
   obtain⟨n,hnn⟩:∃n,(nums w kn).getD k default=n:=⟨_,rfl⟩
   rw[hnn]at hs
   have hz0:zJ w s t kn k n 0=((zK w s t kn k).1,(zK w s t kn k).2++[⟨5,s,n,0,t⟩]):=rfl
   have hG:=grades16_ok w hw s n t kn gl (zK w s t kn k).2 Om
   have ks:Kp _:=⟨hs⟩
   clear hs
   (refine gS ?_;intros)
   refine Sq.go ?_;(refine gS ?_;intros)
   refine Sq.go ?_;(refine gS ?_;intros)
   simp(config:={beta:=false,eta:=false,iota:=false,proj:=false,zeta:=false,decide:=false}) only[Int.toNat_natCast,hnn]
   refine Sq.go ?_;(refine gS ?_;intros)
   refine hG.at [.arg 0,.arg 1] rfl ?_ (fun _ _=>⟨rfl,?_⟩)
   .exact⟨rfl,rfl,Tt⟩
   (refine gW ?_;intros)
   refine loop_rule hT (S:=Nat × Nat × Nat) (fun z=>([(0,ap 0),(1,dV s),(2,dV t),(6,lp 0),(8,dV n),(16,.d (eInts (nums w kn))),(17,dV (nums w kn).length),(18,dV k),(26,.d (ePois (pointsV w.fcts ⟨5,s,n⟩ 0 t kn))),(27,dV (pointsV w.fcts ⟨5,s,n⟩ 0 t kn).length),(28,dV z.1)],
    ⟨[bX 122 [dV s,.osl (.loc 1) z.2.1 0 (zJ w s t kn k n z.1).1.length],bV 128 5 z.2.1 (zJ w s t kn k n z.1).1.length (rowsOf eAtt (zJ w s t kn k n z.1).1)],[bX 119 [.osl (.arg 1) z.2.2 0 (zJ w s t kn k n z.1).2.length,.d (eCrss w.bok.crs),.d (ePrgs w.bok.prg),.d (eSyss w.bok.sys),.d (eFcts w.fcts),dV kn],bV 107 5 z.2.2 (zJ w s t kn k n z.1).2.length (rowsOf eRed (zJ w s t kn k n z.1).2)]⟩)) (fun z=>z.1<=(pointsV w.fcts ⟨5,s,n⟩ 0 t kn).length) (fun z=>(pointsV w.fcts ⟨5,s,n⟩ 0 t kn).length-z.1) (0,ga,gl+1) ?_ ?_ ?_
   .exact lq
   .exact Nat.zero_le _
   .rintro⟨j,ga,gl⟩ hj
    dsimp only at hj⊢
    by_cases hj2:j<(pointsV w.fcts ⟨5,s,n⟩ 0 t kn).length
    .have hst:=zJ_succ w s t kn k n hj2
     have hlb:=zJ_len w s t kn k n j hj
     have hlp:=pointsV_len w.fcts ⟨5,s,n⟩ 0 t kn
     obtain⟨p,hp⟩:∃p,(pointsV w.fcts ⟨5,s,n⟩ 0 t kn).getD j default=p:=⟨_,rfl⟩
     have hpa:=points_at (getD_mem hj2:(pointsV w.fcts ⟨5,s,n⟩ 0 t kn).getD j default∈_)
     have hpv:=hval n _ (getD_mem hj2:(pointsV w.fcts ⟨5,s,n⟩ 0 t kn).getD j default∈_)
     rw[hp]at hpa hpv
     have htd:-9223372036854775808<=p.value.tdiv 16/\p.value.tdiv 16<=9223372036854775807:=by
      rw[Int.tdiv_eq_ediv_of_nonneg hpa.2.2.2]
      omega
     rw[show(pointsV w.fcts (gK s n) 0 t kn).getD j default=p from hp]at hst
     generalize zJ w s t kn k n j=z at hst hlb⊢
     by_cases q1:12<p.value.tmod 16
     .have hsk:stpA w kn n z p=z:=by rw[stpA,if_pos];simp[skipP,q1]
      rw[hsk]at hst
      have kt:Kp _:=⟨hst⟩
      clear hst
      (refine gS ?_;intros)
      refine Sq.go ?_;(refine gS ?_;intros)
      refine Sq.go ?_;(refine gS ?_;intros)
      simp(config:={beta:=false,eta:=false,iota:=false,proj:=false,zeta:=false,decide:=false}) only[Int.toNat_natCast,hp]
      (refine gW ?_;intros)
      refine stp (j+1,ga,gl) ?_
      dsimp only
      rw[kt.h]
      exact lq
     by_cases q2:7<=p.value.tdiv 16
     .have hsk:stpA w kn n z p=z:=by rw[stpA,if_pos];simp[skipP,q2]
      rw[hsk]at hst
      have kt:Kp _:=⟨hst⟩
      clear hst
      (refine gS ?_;intros)
      refine Sq.go ?_;(refine gS ?_;intros)
      refine Sq.go ?_;(refine gS ?_;intros)
      simp(config:={beta:=false,eta:=false,iota:=false,proj:=false,zeta:=false,decide:=false}) only[Int.toNat_natCast,hp]
      (refine gW ?_;intros)
      refine stp (j+1,ga,gl) ?_
      dsimp only
      rw[kt.h]
      exact lq
     .have hsk:stpA w kn n z p=(z.1++[attOf w kn n p],z.2++readsT ⟨1,n,0⟩ p.term):=by rw[stpA,if_neg];simp[skipP];omega
      rw[hsk]at hst
      have kt:Kp _:=⟨hst⟩
      clear hst
      have hX:=course16_ok w hw n p.term kn gl z.2 Om
      (refine gS ?_;intros)
      refine Sq.go ?_;(refine gS ?_;intros)
      refine Sq.go ?_;(refine gS ?_;intros)
      simp(config:={beta:=false,eta:=false,iota:=false,proj:=false,zeta:=false,decide:=false}) only[Int.toNat_natCast,hp]
      refine Sq.go ?_;(refine gS ?_;intros)
      refine Sq.go ?_;(refine gS ?_;intros)
      refine Sq.go ?_;(refine gS ?_;intros)
      refine Sq.alt (Awp.le (env':=[(0,ap 0),(1,dV s),(2,dV t),(6,lp 0),(8,dV n),(10,lp 2),(11,dV (p.value.tmod 16)),(12,dV (p.value.tdiv 16)),(16,.d (eInts (nums w kn))),(17,dV (nums w kn).length),(18,dV k),(26,.d (ePois (pointsV w.fcts ⟨5,s,n⟩ 0 t kn))),(27,dV (pointsV w.fcts ⟨5,s,n⟩ 0 t kn).length),(28,dV j)]) (m':=⟨[bX 122 [dV s,.osl (.loc 1) ga 0 z.1.length],bV 128 5 ga z.1.length (rowsOf eAtt z.1),bX 143 (up [di p.term,di p.value])],[bX 119 [.osl (.arg 1) gl 0 (z.2).length,.d (eCrss w.bok.crs),.d (ePrgs w.bok.prg),.d (eSyss w.bok.sys),.d (eFcts w.fcts),dV kn],bV 107 5 gl (z.2).length (rowsOf eRed (z.2))]⟩) ?_
       (Awp.effsC (m:=⟨[some (.box 122 [.d (.int .i64 s),.osl (.loc 1) ga 0 z.1.length]),some (.vec 128 5 ga z.1.length (rowsOf eAtt z.1)),some (.box 143 (up [.int .i64 p.term,.int .i64 p.value]))],[some (.box 119 [.osl (.arg 1) gl 0 (z.2).length,.d (eCrss w.bok.crs),.d (ePrgs w.bok.prg),.d (eSyss w.bok.sys),.d (eFcts w.fcts),.d (.int .i64 kn)]),some (.vec 107 5 gl (z.2).length (rowsOf eRed (z.2)))]⟩) hT (by kernel_rfl) (by kernel_rfl) (by kernel_rfl)
        ⟨[bX 122 [dV s,.osl (.loc 1) ga 0 z.1.length],some .opq,bX 143 (up [di p.term,di p.value]),none],[bX 119 [.junk,.d (eCrss w.bok.crs),.d (ePrgs w.bok.prg),.d (eSyss w.bok.sys),.d (eFcts w.fcts),dV kn],some .opq]⟩ 3 2
        [⟨11,.d (.agg (eCrs ((crsOf w n p.term kn).getD default))),⟨[some (.box 122 [.d (.int .i64 s),.osl (.loc 1) ga 0 z.1.length]),some (.vec 128 5 ga z.1.length (rowsOf eAtt z.1)),some (.box 143 (up [.int .i64 p.term,.int .i64 p.value]))],[some (.box 119 [.osl (.arg 1) (gl + 1) 0 (z.2 ++ readsT ⟨1,n,0⟩ p.term).length,.d (eCrss w.bok.crs),.d (ePrgs w.bok.prg),.d (eSyss w.bok.sys),.d (eFcts w.fcts),.d (.int .i64 kn)]),some (.vec 107 5 (gl + 1) (z.2 ++ readsT ⟨1,n,0⟩ p.term).length (rowsOf eRed (z.2 ++ readsT ⟨1,n,0⟩ p.term)))]⟩,[]⟩,
         ⟨14,.osl (.loc 3) 0 0 1,⟨[bX 122 [dV s,.osl (.loc 1) ga 0 z.1.length],bV 128 5 ga z.1.length (rowsOf eAtt z.1),bX 143 (up [di p.term,di p.value]),bV 128 5 0 1 (rowFn [up (eAtt (attOf w kn n p))])],[bX 119 [.osl (.arg 1) (gl+1) 0 (z.2++readsT ⟨1,n,0⟩ p.term).length,.d (eCrss w.bok.crs),.d (ePrgs w.bok.prg),.d (eSyss w.bok.sys),.d (eFcts w.fcts),dV kn],bV 107 5 (gl+1) (z.2++readsT ⟨1,n,0⟩ p.term).length (rowsOf eRed (z.2++readsT ⟨1,n,0⟩ p.term))]⟩,[13,12,11]⟩,
         ⟨15,.osl (.loc 1) (ga+1) 0 (z.1.length+1),⟨[bX 122 [dV s,.osl (.loc 1) ga 0 z.1.length],bV 128 5 (ga+1) (z.1.length+1) (joinF z.1.length (rowsOf eAtt z.1) (rowFn [up (eAtt (attOf w kn n p))])),bX 143 (up [di p.term,di p.value]),bV 128 5 0 1 (rowFn [up (eAtt (attOf w kn n p))])],[bX 119 [.osl (.arg 1) (gl+1) 0 (z.2++readsT ⟨1,n,0⟩ p.term).length,.d (eCrss w.bok.crs),.d (ePrgs w.bok.prg),.d (eSyss w.bok.sys),.d (eFcts w.fcts),dV kn],bV 107 5 (gl+1) (z.2++readsT ⟨1,n,0⟩ p.term).length (rowsOf eRed (z.2++readsT ⟨1,n,0⟩ p.term))]⟩,[14]⟩,
         ⟨17,.junk,⟨[bX 122 [dV s,.osl (.loc 1) (ga+1) 0 (z.1.length+1)],bV 128 5 (ga+1) (z.1.length+1) (joinF z.1.length (rowsOf eAtt z.1) (rowFn [up (eAtt (attOf w kn n p))])),bX 143 (up [di p.term,di p.value]),bV 128 5 0 1 (rowFn [up (eAtt (attOf w kn n p))])],[bX 119 [.osl (.arg 1) (gl+1) 0 (z.2++readsT ⟨1,n,0⟩ p.term).length,.d (eCrss w.bok.crs),.d (ePrgs w.bok.prg),.d (eSyss w.bok.sys),.d (eFcts w.fcts),dV kn],bV 107 5 (gl+1) (z.2++readsT ⟨1,n,0⟩ p.term).length (rowsOf eRed (z.2++readsT ⟨1,n,0⟩ p.term))]⟩,[15]⟩]
        Kr rfl rfl (WeakF.of ⟨.inl rfl,.inr ⟨_,rfl,WeakB.opq⟩,.inl rfl,Tt⟩ ⟨.inr ⟨_,rfl,WeakB.box ⟨rfl,rfl,rfl,rfl,rfl,Tt⟩⟩,.inr ⟨_,rfl,WeakB.opq⟩,Tt⟩) true (fun _=>by kernel_rfl) ⟨WeakF.of ⟨.inl rfl,.inr ⟨_,rfl,WeakB.opq⟩,.inl rfl,Tt⟩ ⟨.inr ⟨_,rfl,WeakB.box ⟨rfl,rfl,rfl,rfl,rfl,Tt⟩⟩,.inr ⟨_,rfl,WeakB.opq⟩,Tt⟩,WeakF.of ⟨.inl rfl,.inr ⟨_,rfl,WeakB.opq⟩,.inl rfl,Tt⟩ ⟨.inr ⟨_,rfl,WeakB.box ⟨rfl,rfl,rfl,rfl,rfl,Tt⟩⟩,.inr ⟨_,rfl,WeakB.opq⟩,Tt⟩,WeakF.of ⟨.inl rfl,.inr ⟨_,rfl,WeakB.opq⟩,.inl rfl,Tt⟩ ⟨.inr ⟨_,rfl,WeakB.box ⟨rfl,rfl,rfl,rfl,rfl,Tt⟩⟩,.inr ⟨_,rfl,WeakB.opq⟩,Tt⟩,.inl rfl⟩ ?_))
      .exact lq
      conv=>whnf
      (refine gS ?_;intros)
      refine⟨?_,?_,?_,?_,?_⟩
      .conv=>whnf
       (refine gS ?_;intros)
       refine hX.at [.arg 0,.arg 1] rfl ?_ (fun _ _=>⟨rfl,?_⟩)
       .exact⟨rfl,rfl,Tt⟩
       (refine gS ?_;intros)
       exact⟨rfl,rfl⟩
      .conv=>whnf
       (refine gS ?_;intros)
       exact⟨rfl,rfl⟩
      .conv=>whnf
       (refine gS ?_;intros)
       exact⟨rfl,rfl⟩
      .conv=>whnf
       (refine gS ?_;intros)
       exact⟨Tt,rfl⟩
      conv=>whnf
      (refine gW ?_;intros)
      refine stp (j+1,ga+1,gl+1) ?_
      dsimp only
      rw[kt.h]
      dsimp only
      rw[len_snoc]
      exact lq
    .obtain rfl:j=(pointsV w.fcts ⟨5,s,n⟩ 0 t kn).length:=by omega
     (refine gW ?_;intros)
     refine stp (k+1,ga,gl) ?_
     dsimp only
     rw[ks.h]
     exact lq
  .obtain rfl:k=(nums w kn).length:=by omega
   have hlA:=(zK_len w s t kn _ (Nat.le_refl _)).1
   rw[zK_all]at hlA⊢
   have hS:=sortAtt_ok (ofA w s t kn).1 Om ga 128
   (refine gW ?_;intros)
   refine hS.at [.loc 1] rfl ⟨rfl,Tt⟩ (fun ts hts=>⟨rfl,?_⟩)
   have hlt:ts.length=(ofA w s t kn).1.length:=hts.1.length_eq
   have he:eAtts ts=.sl 5 (ofA w s t kn).1.length fun i=>eAtt (ts.getD i default):=by
    unfold eAtts
    rw[hlt]
   (refine gS ?_;intros)
   refine Sq.go ?_;(refine gS ?_;intros)
   refine Sq.alt (Awp.frz [0,1] 6 (.pt [di s,.sl 5 (ofA w s t kn).1.length fun i=>eAtt (ts.getD i default)] 0) (.ptr' rfl ⟨.d,.osl' rfl (Nat.le_of_eq (Nat.zero_add _)) (fun i hi=>?_),Tt⟩) (vc_ok hT _ _ _ _ (Ev.o ?_)))
   .rw[Nat.zero_add]
    exact⟨.d,.d,.d,.d,.d,Tt⟩
   (refine gW ?_;intros)
   refine⟨(ts,gl),hts,?_,?_⟩
   .dsimp only
    rw[he]
    exact lq
   .rfl
def abtS (s:Sit)(c:Int):Sen:=(s.seen.find? fun x=>decide (x.course=c)).getD ⟨c,0,-1,false⟩
def holdB (s:Sit)(r:Rule)(kids:Nat):Bool :=
 if r.op=1 then decide (kids=r.kids.length)
 else if r.op=2 then decide (0<kids)
 else if r.op=3 then decide (r.n<=kids)
 else if r.op=4 then decide (kids=0)
 else if r.op=5 then decide (r.n<=(abtS s r.course).best)
 else if r.op=6 then decide (r.n<=(abtS s r.course).tries)
 else if r.op=7 then decide (r.n<=s.earned)
 else if r.op=8 then decide (r.n*s.md<=s.mn*r.d)
 else(abtS s r.course).now
mutual
def valR (s:Sit):Rule->Bool
 | .mk a b c n e ks=>holdB s (.mk a b c n e ks) (valRs s ks)
def valRs (s:Sit):List Rule->Nat
 |[]=>0
 |k::ks=>(if valR s k=true then 1 else 0)+valRs s ks
end
theorem valR_eq (s:Sit)(r:Rule):valR s r=holdB s r (valRs s r.kids):=by
 cases r
 rw[valR]
 rfl
theorem valRs_nil (s:Sit):valRs s []=0:=by rw[valRs]
theorem valRs_cons (s:Sit)(k:Rule)(ks:List Rule):valRs s (k::ks)=(if valR s k=true then 1 else 0)+valRs s ks:=by rw[valRs]
theorem valRs_app (s:Sit):∀(a b:List Rule),valRs s (a++b)=valRs s a+valRs s b
 |[],b=>by rw[List.nil_append,valRs_nil,Nat.zero_add]
 |k::a,b=>by rw[List.cons_append,valRs_cons,valRs_cons,valRs_app s a b,Nat.add_assoc]
theorem valRs_succ (s:Sit){ks:List Rule}{k:Nat}(h:k<ks.length):valRs s (ks.take (k+1))=valRs s (ks.take k)+(if valR s (ks.getD k default)=true then 1 else 0):=by
 rw[take_succ_at h,valRs_app,valRs_cons,valRs_nil]
 rfl
theorem valRs_le (s:Sit):∀ks:List Rule,valRs s ks<=ks.length
 |[]=>by rw[valRs_nil];exact Nat.le_refl _
 | k :: ks=>by
   have:=valRs_le s ks
   rw[valRs_cons,List.length_cons]
   split<;>omega
theorem cntRs_mem {k:Rule}:∀{ks:List Rule},k∈ks->cntR k<=cntRs ks
 | x :: ks,h=>by
   rw[cntRs_cons]
   rcases List.mem_cons.1 h with rfl|h
   .omega
   .have:=cntRs_mem h
    omega
theorem depRs_mem {k:Rule}:∀{ks:List Rule},k∈ks->depR k<=depRs ks
 | x :: ks,h=>by
   rw[depRs_cons]
   rcases List.mem_cons.1 h with rfl|h
   .omega
   .have:=depRs_mem h
    omega
theorem chkR_kid {r k:Rule}(h:chkR r=0)(hk:k∈r.kids):chkR k=0:=by
 unfold chkR at *
 split at h
 .rename_i hc
  obtain⟨h1,h2,h3⟩:=hc
  rw[if_pos]
  refine⟨?_,?_,?_⟩
  .have:=cntRs_mem hk
   rw[cntR_eq]at h1
   omega
  .have:=depRs_mem hk
   rw[depR_eq]at h2
   omega
  .unfold allF at *
   rw[List.all_eq_true]at *
   intro p hp
   have e:=preR_shift k 1 2
   have hm:p.2∈(preR 2 k).map Prod.snd:=by
    rw[<-e]
    exact List.mem_map.2 ⟨p,hp,rfl⟩
   obtain⟨q,hq,e2⟩:=List.mem_map.1 hm
   rw[<-e2]
   refine h3 q ?_
   rw[preR_eq]
   exact List.mem_cons_of_mem _ (preL_mem.2 ⟨k,hk,hq⟩)
 .cases h
theorem chkR_top {r:Rule}(h:chkR r=0):formedR r=true/\r.kids.length<=200:=by
 unfold chkR at h
 split at h
 .rename_i hc
  obtain⟨h1,_,h3⟩:=hc
  refine⟨?_,?_⟩
  .unfold allF at h3
   rw[List.all_eq_true]at h3
   exact h3 (1,r) (by rw[preR_eq];simp)
  .have:∀ks:List Rule,ks.length<=cntRs ks:=by
    intro ks
    induction ks with
    |nil=>exact Nat.zero_le _
    |cons k ks ih=>rw[cntRs_cons,List.length_cons,cntR_eq];omega
   have:=this r.kids
   rw[cntR_eq]at h1
   omega
 .cases h
structure WfS (s:Sit):Prop where
 len:s.seen.length<=4096
 up:s.seen.Pairwise fun a b=>a.course<b.course
 it:∀x∈s.seen,(0<=x.course/\x.course<=4095)/\(0<=x.tries/\x.tries<=100)/\(-1<=x.best/\x.best<=12)/\(0<=x.best↔1<=x.tries)
 earned:0<=s.earned/\s.earned<=10000
 mean:meanQ s.mn s.md=true
end Go.Proofs.YtkjmomadndmeaaaGreatDoor
namespace Go.Proofs.YtkjmomadndmeaaaGreatDoor
set_option linter.unusedSimpArgs false
set_option linter.unusedVariables false
open Go Go.Ab
set_option maxRecDepth 100000
set_option maxHeartbeats 0
theorem AttI.fit {w:Wor}{s kn:Int}{a:Att}(h:AttI w s kn a):fitA a:=⟨h.cr,h.tm,h.gr,h.ca,h.cd⟩
theorem recA_fit {w:Wor}{s t kn:Int}:∀a∈recA w s t kn,fitA a:=fun _ h=>(recA_I h).fit
theorem cntL_fit {w:Wor}{s t kn:Int}:∀a∈cntL w s t kn,fitA a:=fun _ h=>(recA_I (pick_mem h)).fit
theorem cntL_len (w:Wor)(s t kn:Int):(cntL w s t kn).length<=w.fcts.length*1024:=Nat.le_trans (pick_len _ _) (recA_len w s t kn)
theorem low_nat {P C:Nat}(hC:0<C):0<C / Nat.gcd P C/\Nat.gcd (P / Nat.gcd P C) (C / Nat.gcd P C)=1/\P / Nat.gcd P C<=P/\C / Nat.gcd P C<=C/\(P<=12*C->P / Nat.gcd P C<=12*(C / Nat.gcd P C)):=by
 have hg:0<Nat.gcd P C:=Nat.gcd_pos_of_pos_right P hC
 have h1:Nat.gcd P C*(C / Nat.gcd P C)=C:=Nat.mul_div_cancel' (Nat.gcd_dvd_right P C)
 have h2:Nat.gcd P C*(P / Nat.gcd P C)=P:=Nat.mul_div_cancel' (Nat.gcd_dvd_left P C)
 refine⟨Nat.div_pos (Nat.le_of_dvd hC (Nat.gcd_dvd_right P C)) hg,Nat.gcd_div_gcd_div_gcd_of_pos_right hC,Nat.div_le_self _ _,Nat.div_le_self _ _,fun h=>?_⟩
 refine Nat.le_of_mul_le_mul_left (c:=Nat.gcd P C) ?_ hg
 rw[h2,Nat.mul_left_comm,h1]
 exact h
theorem meanQ_low {p c:Int}(hp:0<=p)(hc:0<c)(hl:p<=12*c)(hb:c<=80000000):meanQ (p / (Nat.gcd p.natAbs c.natAbs:Nat)) (c / (Nat.gcd p.natAbs c.natAbs:Nat))=true:=by
 obtain⟨P,rfl⟩:=Int.eq_ofNat_of_zero_le hp
 obtain⟨C,rfl⟩:=Int.eq_ofNat_of_zero_le (Int.le_of_lt hc)
 have hC:0<C:=by omega
 obtain⟨h1,h2,h3,h4,h5⟩:=low_nat (P:=P) hC
 have h5:=h5 Om
 rw[Int.natAbs_natCast,Int.natAbs_natCast,<-Int.natCast_ediv,<-Int.natCast_ediv]
 generalize P / Nat.gcd P C=x at h2 h3 h5⊢
 generalize C / Nat.gcd P C=y at h1 h2 h4 h5⊢
 unfold meanQ chkQ bw
 rw[if_neg]
 .simp only[decide_true,Bool.true_and,Bool.and_eq_true,decide_eq_true_iff]
  omega
 .rw[Int.natAbs_natCast,Int.natAbs_natCast]
  omega
theorem meanZ_ok {l:List Att}(hf:∀a∈l,fitA a)(hl:l.length<=1000000):meanQ (meanZ l).1 (meanZ l).2=true:=by
 obtain⟨_,h2,h3,h4⟩:=sums_in hf l.length (Nat.le_refl _)
 unfold meanZ
 split
 .rfl
 .exact meanQ_low h3 Om h4 Om
theorem senZ_in {E:List Int}{r:List Att}(hf:∀a∈r,fitA a):(0<=(senZ E r).1/\(senZ E r).1<=100)/\(-1<=(senZ E r).2/\(senZ E r).2<=12)/\(0<=(senZ E r).2↔1<=(senZ E r).1):=by
 have h1:=bsF_ge E r (-1)
 have h2:=bsF_le E r (-1) Dc (fun a ha=>(hf a ha).2.2.1.2)
 have h3:=bsF_pos E r (-1) (fun a ha=>(hf a ha).2.2.1.1)
 have h4:=bsF_none E r (-1)
 unfold senZ
 dsimp only
 refine⟨Om,⟨h1,h2⟩,?_⟩
 by_cases h:trN E r=0
 .rw[h4 h,h]
  omega
 .have:=h3 Om
  omega
theorem sitV_wf {w:Wor}(hl:w.fcts.length<=900)(s t kn:Int)(nw:List Int):WfS (sitV w s t kn nw) where
 len:=seenF_len _ _ _ _ _ _
 up:=seenF_lt _ _ _ _ _ _
 it:=fun x hx=>by
  obtain⟨h1,h2,h3⟩:=seenF_mem.1 hx
  refine⟨Om,?_⟩
  rw[h2]
  unfold seS
  split
  .exact senZ_in recA_fit
  .exact(show((0:Int)<=0/\(0:Int)<=100)/\((-1:Int)<=-1/\(-1:Int)<=12)/\((0:Int)<=-1↔(1:Int)<=0) by decide)
 earned:=by
  obtain⟨h1,_⟩:=sums_in (cntL_fit (w:=w) (s:=s) (t:=t) (kn:=kn)) (cntL w s t kn).length (Nat.le_refl _)
  unfold sitV
  dsimp only
  omega
 mean:=meanZ_ok cntL_fit (by have:=cntL_len w s t kn;omega)
theorem equalL_nd (w:Wor)(n t kn:Int):(equalL w n t kn).Nodup:=by
 unfold equalL
 split
 .exact(srtI_perm _).nodup_iff.2 (equalZ_nd w n t kn)
 .simp
theorem equalL_len (w:Wor)(n t kn:Int):(equalL w n t kn).length<=(nums w kn).length+1:=by
 unfold equalL
 split
 .rw[srtI_len]
  exact(EqI.iter (w:=w) (t:=t) (kn:=kn) (EqI.start (nums w kn) n) 200000).len
 .simp
theorem equalR_len (w:Wor)(hl:w.fcts.length<=1000)(n t kn:Int):(equalR w n t kn).length<=1+((nums w kn).length+1)*(nums w kn).length:=by
 have h2:=nums_len w kn
 have h1:=(EqI.iter (w:=w) (t:=t) (kn:=kn) (EqI.start (nums w kn) n) ((nums w kn).length+1)).len
 have h3:=iterE_stay h1 (200000-((nums w kn).length+1))
 have h4:=iterE_rd (w:=w) (t:=t) (kn:=kn) (ns:=nums w kn) (z:=startE n) ((nums w kn).length+1)
 rw[show(nums w kn).length+1+(200000-((nums w kn).length+1))=200000 by omega]at h3
 unfold equalR equalZ
 split
 .rw[h3]
  exact h4
 .simp
def k0 (x:List Int):Int:=x.headD 0
theorem fit1 {x:List Int}(h:(Ksh.one .i64).fits x):x=[k0 x]:=by
 have h:x.length=1:=h
 match x,h with
 |[c],_=>rfl
theorem key_eq {x:List Int}(h:(Ksh.one .i64).fits x)(c:Int):(x=[c])↔k0 x=c:=by
 rw[fit1 h]
 simp[k0]
def nwH (nw:List Int)(k:Nat)(x:List Int):Bool:=decide (k0 x∈nw.take k)
def nwV (nw:List Int)(k:Nat)(x:List Int):Sen:=if k0 x∈nw.take k then⟨k0 x,0,-1,true⟩ else⟨0,0,0,false⟩
theorem nwH_succ {nw:List Int}{k:Nat}(hk:k<nw.length){x:List Int}(hx:(Ksh.one .i64).fits x):(decide (x=[nw.getD k default])||nwH nw k x)=nwH nw (k+1) x:=by
 unfold nwH
 rw[take_succ_at hk,Bool.eq_iff_iff]
 simp only[Bool.or_eq_true,decide_eq_true_iff,List.mem_append,List.mem_singleton,key_eq hx]
 exact Or.comm
theorem nwV_succ {nw:List Int}{k:Nat}(hk:k<nw.length){x:List Int}(hx:(Ksh.one .i64).fits x){z:AV}(hz:z=.d (.agg (eSen ⟨nw.getD k default,0,-1,true⟩))):(bif decide (x=[nw.getD k default]) then z else .d (.agg (eSen (nwV nw k x))))=.d (.agg (eSen (nwV nw (k+1) x))):=by
 subst hz
 unfold nwV
 rw[take_succ_at hk]
 simp only[List.mem_append,List.mem_singleton]
 by_cases h:x=[nw.getD k default]
 .have h':=(key_eq hx _).1 h
  rw[decide_eq_true h,cond_true,if_pos (.inr h'),h']
 .have h':k0 x≠nw.getD k default:=fun e=>h ((key_eq hx _).2 e)
  rw[decide_eq_false h,cond_false]
  simp only[h',or_false]
def lastB (nw:List Int)(k:Nat):Int:=if k=0 then -1 else nw.getD (k-1) default
theorem lastB_succ (nw:List Int)(k:Nat):lastB nw (k+1)=nw.getD k default:=by
 unfold lastB
 rw[if_neg Om]
 rfl
theorem nowB_at {nw:List Int}{k:Nat}(hk:k<nw.length):nowB (lastB nw k) (nw.drop k)=(decide (lastB nw k<nw.getD k default)&&(decide (nw.getD k default<=4095)&&nowB (lastB nw (k+1)) (nw.drop (k+1)))):=by
 rw[lastB_succ,drop_at hk,nowB]
theorem nowB_mem:∀{l:List Int} {b:Int},nowB b l=true->∀c∈l,b<c/\c<=4095
 |[],_,_,c,hc=>by cases hc
 | x :: r,b,h,c,hc=>by
   simp only[nowB,Bool.and_eq_true,decide_eq_true_iff]at h
   rcases List.mem_cons.1 hc with rfl|hc
   .exact⟨h.1,h.2.1⟩
   .have:=nowB_mem h.2.2 c hc
    omega
theorem tr1_take {r:List Att}{k:Nat}(hk:k<r.length)(c:Int):tr1 c (r.take (k+1))=tr1 c (r.take k)+(if(r.getD k default).course=c then 1 else 0):=by
 unfold tr1
 rw[take_succ_at hk,List.countP_append]
 simp[List.countP_cons]
theorem bs1_take {r:List Att}{k:Nat}(hk:k<r.length)(c:Int)(b:Int):bs1 c (r.take (k+1)) b=if(r.getD k default).course=c then max (bs1 c (r.take k) b) (r.getD k default).grade else bs1 c (r.take k) b:=by
 unfold bs1
 rw[take_succ_at hk,List.foldl_append]
 rfl
theorem tr1_le (c:Int)(r:List Att):tr1 c r<=r.length:=List.countP_le_length
theorem bs1_in (c:Int):∀(r:List Att) (b:Int),0<=b/\b<=12->(∀a∈r,fitA a)->0<=bs1 c r b/\bs1 c r b<=12
 |[],b,h,_=>h
 | a :: r,b,h,hf=>by
   unfold bs1
   rw[List.foldl_cons]
   have:=(hf a (by simp)).2.2.1
   split
   .exact bs1_in c r (max b a.grade) Om fun a ha=>hf a (by simp[ha])
   .exact bs1_in c r b h fun a ha=>hf a (by simp[ha])
def trH (r:List Att)(k:Nat)(x:List Int):Bool:=decide (0<tr1 (k0 x) (r.take k))
theorem trH_succ {r:List Att}{k:Nat}(hk:k<r.length){x:List Int}(hx:(Ksh.one .i64).fits x):(decide (x=[(r.getD k default).course])||trH r k x)=trH r (k+1) x:=by
 unfold trH
 rw[tr1_take hk,Bool.eq_iff_iff]
 simp only[Bool.or_eq_true,decide_eq_true_iff,key_eq hx]
 by_cases h:(r.getD k default).course=k0 x
 .rw[if_pos h]
  exact⟨fun _=>by omega,fun _=>.inl h.symm⟩
 .rw[if_neg h]
  exact⟨fun e=>e.resolve_left fun e=>h e.symm,.inr⟩
theorem trV_succ {r:List Att}{k:Nat}(hk:k<r.length){x:List Int}(hx:(Ksh.one .i64).fits x){c:Int}(hc:(r.getD k default).course=c){z:AV}(hz:z=dV ((tr1 c (r.take k):Nat)+1:Int)):(bif decide (x=[c]) then z else dV (tr1 (k0 x) (r.take k):Nat))=dV (tr1 (k0 x) (r.take (k+1)):Nat):=by
 subst hz
 rw[tr1_take hk,hc]
 by_cases h:x=[c]
 .have h':=(key_eq hx _).1 h
  rw[decide_eq_true h,cond_true,if_pos h'.symm,h']
  rfl
 .have h':¬ c=k0 x:=fun e=>h ((key_eq hx _).2 e.symm)
  rw[decide_eq_false h,cond_false,if_neg h']
  rfl
theorem bsV_succ {r:List Att}{k:Nat}(hk:k<r.length){x:List Int}(hx:(Ksh.one .i64).fits x){c g:Int}(hc:(r.getD k default).course=c)(hg:(r.getD k default).grade=g){z:AV}(hz:z=dV (max (bs1 c (r.take k) 0) g)):(bif decide (x=[c]) then z else dV (bs1 (k0 x) (r.take k) 0))=dV (bs1 (k0 x) (r.take (k+1)) 0):=by
 subst hz
 rw[bs1_take hk,hc,hg]
 by_cases h:x=[c]
 .have h':=(key_eq hx _).1 h
  rw[decide_eq_true h,cond_true,if_pos h'.symm,h']
 .have h':¬ c=k0 x:=fun e=>h ((key_eq hx _).2 e.symm)
  rw[decide_eq_false h,cond_false,if_neg h']
theorem bs1_zero {r:List Att}{k:Nat}{x:List Int}(h:trH r k x=false):bs1 (k0 x) (r.take k) 0=0:=by
 unfold trH at h
 rw[decide_eq_false_iff_not]at h
 exact bs1_none _ _ Om
theorem tr1_zero {r:List Att}{k:Nat}{x:List Int}(h:trH r k x=false):(tr1 (k0 x) (r.take k):Int)=0:=by
 unfold trH at h
 rw[decide_eq_false_iff_not]at h
 omega
def triedB (w:Wor)(t kn:Int)(r:List Att)(k:Nat)(c:Int):Prop:=c∈(nums w kn).take k/\0<(senZ (equalL w c t kn) r).1
instance (w:Wor)(t kn:Int)(r:List Att)(k:Nat)(c:Int):Decidable (triedB w t kn r k c):=inferInstanceAs (Decidable (_/\_))
def secH (w:Wor)(t kn:Int)(r:List Att)(nw:List Int)(k:Nat)(x:List Int):Bool:=decide (triedB w t kn r k (k0 x))||decide (k0 x∈nw)
def secV (w:Wor)(t kn:Int)(r:List Att)(nw:List Int)(k:Nat)(x:List Int):Sen:=if triedB w t kn r k (k0 x) then seS w t kn r nw (k0 x) else if k0 x∈nw then⟨k0 x,0,-1,true⟩ else⟨0,0,0,false⟩
theorem secH_zero (w:Wor)(t kn:Int)(r:List Att)(nw:List Int)(x:List Int):nwH nw nw.length x=secH w t kn r nw 0 x:=by
 simp[nwH,secH,triedB]
theorem secV_zero (w:Wor)(t kn:Int)(r:List Att)(nw:List Int)(x:List Int):nwV nw nw.length x=secV w t kn r nw 0 x:=by
 simp[nwV,secV,triedB]
theorem triedB_succ {w:Wor}{t kn:Int}{r:List Att}{k:Nat}(hk:k<(nums w kn).length)(c:Int):triedB w t kn r (k+1) c↔triedB w t kn r k c\/c=(nums w kn).getD k default/\0<(senZ (equalL w c t kn) r).1:=by
 unfold triedB
 rw[take_succ_at hk,List.mem_append,List.mem_singleton]
 constructor
 .rintro⟨h|h,h2⟩
  .exact .inl ⟨h,h2⟩
  .exact .inr ⟨h,h2⟩
 .rintro(⟨h,h2⟩|⟨h,h2⟩)
  .exact⟨.inl h,h2⟩
  .exact⟨.inr h,h2⟩
theorem secH_put {w:Wor}{t kn:Int}{r:List Att}{nw:List Int}{k:Nat}(hk:k<(nums w kn).length){n:Int}(hn:(nums w kn).getD k default=n)(h0:0<(senZ (equalL w n t kn) r).1){x:List Int}(hx:(Ksh.one .i64).fits x):(decide (x=[n])||secH w t kn r nw k x)=secH w t kn r nw (k+1) x:=by
 unfold secH
 rw[Bool.eq_iff_iff]
 simp only[Bool.or_eq_true,decide_eq_true_iff,key_eq hx,triedB_succ hk,hn]
 constructor
 .rintro(h|h|h)
  .exact .inl (.inr ⟨h,by rw[h];exact h0⟩)
  .exact .inl (.inl h)
  .exact .inr h
 .rintro((h|h)|h)
  .exact .inr (.inl h)
  .exact .inl h.1
  .exact .inr (.inr h)
theorem secV_put {w:Wor}{t kn:Int}{r:List Att}{nw:List Int}{k:Nat}(hk:k<(nums w kn).length){n:Int}(hn:(nums w kn).getD k default=n)(h0:0<(senZ (equalL w n t kn) r).1){x:List Int}(hx:(Ksh.one .i64).fits x){z:AV}(hz:z=.d (.agg (eSen (seS w t kn r nw n)))):(bif decide (x=[n]) then z else .d (.agg (eSen (secV w t kn r nw k x))))=.d (.agg (eSen (secV w t kn r nw (k+1) x))):=by
 subst hz
 unfold secV
 simp only[triedB_succ hk,hn]
 by_cases h:x=[n]
 .have h':=(key_eq hx _).1 h
  rw[decide_eq_true h,cond_true,h',if_pos (.inr ⟨rfl,h0⟩)]
 .have h':¬ k0 x=n:=fun e=>h ((key_eq hx _).2 e)
  rw[decide_eq_false h,cond_false]
  simp only[h',false_and,or_false]
theorem triedB_stay {w:Wor}{t kn:Int}{r:List Att}{k:Nat}(hk:k<(nums w kn).length){n:Int}(hn:(nums w kn).getD k default=n)(h0:¬ 0<(senZ (equalL w n t kn) r).1)(c:Int):triedB w t kn r (k+1) c↔triedB w t kn r k c:=by
 rw[triedB_succ hk,hn]
 constructor
 .rintro(h|⟨rfl,h⟩)
  .exact h
  .exact absurd h h0
 .exact .inl
theorem secH_stay {w:Wor}{t kn:Int}{r:List Att}{nw:List Int}{k:Nat}(hk:k<(nums w kn).length){n:Int}(hn:(nums w kn).getD k default=n)(h0:¬ 0<(senZ (equalL w n t kn) r).1)(x:List Int):secH w t kn r nw k x=secH w t kn r nw (k+1) x:=by
 simp only[secH,triedB_stay hk hn h0]
theorem secV_stay {w:Wor}{t kn:Int}{r:List Att}{nw:List Int}{k:Nat}(hk:k<(nums w kn).length){n:Int}(hn:(nums w kn).getD k default=n)(h0:¬ 0<(senZ (equalL w n t kn) r).1)(x:List Int):secV w t kn r nw k x=secV w t kn r nw (k+1) x:=by
 simp only[secV,triedB_stay hk hn h0]
theorem sec_now {w:Wor}{t kn:Int}{r:List Att}{nw:List Int}{k:Nat}(hk:k<(nums w kn).length){n:Int}(hn:(nums w kn).getD k default=n):(secV w t kn r nw k [n]).now=decide (n∈nw):=by
 have hno:¬ triedB w t kn r k (k0 [n]):=fun h=>by
  have h1:=(nums_I w kn).nd
  rw[<-List.take_append_drop k (nums w kn),List.nodup_append]at h1
  exact h1.2.2 n h.1 n (by rw[drop_at hk,hn];simp) rfl
 unfold secV
 rw[if_neg hno]
 by_cases h:n∈nw
 .rw[if_pos (show k0 [n]∈nw from h),decide_eq_true h]
 .rw[if_neg (show ¬ k0 [n]∈nw from h),decide_eq_false h]
theorem sec_none {w:Wor}{t kn:Int}{r:List Att}{nw:List Int}{k:Nat}{x:List Int}(h:secH w t kn r nw k x=false):secV w t kn r nw k x=⟨0,0,0,false⟩:=by
 simp only[secH,Bool.or_eq_false_iff,decide_eq_false_iff_not]at h
 unfold secV
 rw[if_neg h.1,if_neg h.2]
theorem triedB_all {w:Wor}{t kn:Int}{r:List Att}{c:Int}:triedB w t kn r (nums w kn).length c↔c∈nums w kn/\0<(senZ (equalL w c t kn) r).1:=by
 unfold triedB
 rw[List.take_length]
theorem secH_all {w:Wor}{t kn:Int}{r:List Att}{nw:List Int}{x:List Int}:secH w t kn r nw (nums w kn).length x=true↔(k0 x∈nums w kn/\0<(senZ (equalL w (k0 x) t kn) r).1)\/k0 x∈nw:=by
 simp only[secH,Bool.or_eq_true,decide_eq_true_iff,triedB_all]
theorem sec_is {w:Wor}{t kn:Int}{r:List Att}(hf:∀a∈r,fitA a){nw:List Int}{x:List Int}(h:secH w t kn r nw (nums w kn).length x=true):secV w t kn r nw (nums w kn).length x=seS w t kn r nw (k0 x)/\okS (seS w t kn r nw (k0 x))=true:=by
 rw[secH_all]at h
 unfold secV
 simp only[triedB_all]
 by_cases h1:k0 x∈nums w kn/\0<(senZ (equalL w (k0 x) t kn) r).1
 .rw[if_pos h1]
  refine⟨rfl,?_⟩
  unfold okS seS
  rw[if_pos h1.1,decide_eq_true h1.2,Bool.true_or]
 .rw[if_neg h1]
  have h2:k0 x∈nw:=h.resolve_left h1
  rw[if_pos h2]
  obtain⟨g1,g2,g3⟩:=senZ_in (E:=equalL w (k0 x) t kn) hf
  refine⟨?_,?_⟩
  .unfold seS
   split
   .rename_i h3
    have h4:¬ 0<(senZ (equalL w (k0 x) t kn) r).1:=fun h=>h1 ⟨h3,h⟩
    have e1:(senZ (equalL w (k0 x) t kn) r).1=0:=by omega
    have e2:(senZ (equalL w (k0 x) t kn) r).2=-1:=by omega
    rw[e1,e2,decide_eq_true h2]
   .rw[decide_eq_true h2]
  .unfold okS
   rw[seS_now,decide_eq_true h2,Bool.or_true]
theorem sec_of {w:Wor}{t kn:Int}{r:List Att}{nw:List Int}{c:Int}(h:okS (seS w t kn r nw c)=true):secH w t kn r nw (nums w kn).length [c]=true:=by
 rw[secH_all]
 unfold okS at h
 rw[seS_now]at h
 simp only[Bool.or_eq_true,decide_eq_true_iff]at h
 rcases h with h|h
 .unfold seS at h
  split at h
  .rename_i h2
   exact .inl ⟨h2,h⟩
  .exact absurd h (show ¬ (0:Int)<0 by decide)
 .exact .inr h
theorem sec_perm {w:Wor}{t kn:Int}{r:List Att}(hf:∀a∈r,fitA a){nw:List Int}(hw:nowB (-1) nw=true){L:List (List Int)}(hnd:L.Nodup)(hm:∀x,x∈L↔(Ksh.one .i64).fits x/\secH w t kn r nw (nums w kn).length x=true):(L.map (secV w t kn r nw (nums w kn).length)).Perm (seenL w t kn r nw):=by
 have hc:∀x∈L,(secV w t kn r nw (nums w kn).length x).course=k0 x:=fun x hx=>by
  rw[(sec_is hf ((hm x).1 hx).2).1,seS_course]
 have hn2:(seenL w t kn r nw).Nodup:=(seenF_lt w t kn r nw 4096).imp fun{a b} h e=>by rw[e]at h;omega
 have hn1:(L.map (secV w t kn r nw (nums w kn).length)).Nodup:=by
  unfold List.Nodup
  rw[List.pairwise_map]
  refine List.Pairwise.imp_of_mem (fun{a b} ha hb h e=>h ?_) hnd
  have h1:=hc a ha
  have h2:=hc b hb
  rw[e,h2]at h1
  rw[fit1 ((hm a).1 ha).1,fit1 ((hm b).1 hb).1,h1]
 refine(List.perm_ext_iff_of_nodup hn1 hn2).2 fun x=>?_
 rw[List.mem_map]
 constructor
 .rintro⟨y,hy,rfl⟩
  obtain⟨h1,h2⟩:=(hm y).1 hy
  obtain⟨e1,e2⟩:=sec_is hf h2
  refine seenF_mem.2 ?_
  rw[e1,seS_course]
  refine⟨?_,rfl,e2⟩
  rw[secH_all]at h2
  rcases h2 with h2|h2
  .have:=(nums_I w kn).rg _ h2.1
   exact⟨this.1,by have:=this.2;show k0 y<4096;omega⟩
  .have:=nowB_mem hw _ h2
   exact⟨Om,by show k0 y<4096;omega⟩
 .intro hx
  obtain⟨h1,h2,h3⟩:=seenF_mem.1 hx
  rw[h2]at h3
  have h4:=sec_of h3
  refine⟨[x.course],(hm _).2 ⟨rfl,h4⟩,?_⟩
  rw[(sec_is hf h4).1]
  exact h2.symm
theorem seen_sorted {w:Wor}{t kn:Int}{r:List Att}{nw:List Int}{ts:List Sen}(hp:ts.Perm (seenL w t kn r nw))(hs:ts.Pairwise fun a b=>cmpI b.course a.course<0->False):ts=seenL w t kn r nw:=by
 have hn2:(seenL w t kn r nw).Nodup:=(seenF_lt w t kn r nw 4096).imp fun{a b} h e=>by rw[e]at h;omega
 exact seen_uniq (hs.imp fun{a b} h e=>h ((cmpI_lt _ _).2 e)) (hp.nodup_iff.2 hn2) fun x=>hp.mem_iff
def stpN (r:List Att)(E:List Int)(j:Nat):Int × Int:=(E.take j).foldl (stpE r) (0,-1)
theorem stpN_succ {r:List Att}{E:List Int}{j:Nat}(h:j<E.length):stpN r E (j+1)=stpE r (stpN r E j) (E.getD j default):=by
 unfold stpN
 rw[take_succ_at h,List.foldl_append]
 rfl
theorem stpN_all {r:List Att}(hf:∀a∈r,fitA a){E:List Int}(hE:E.Nodup):stpN r E E.length=senZ E r:=by
 unfold stpN
 rw[List.take_length,<-senZ_nil r,stpE_all (fun a ha=>(hf a ha).2.2.1.1) E [] (by simpa using hE),List.nil_append]
theorem stpN_in {r:List Att}(hf:∀a∈r,fitA a)(E:List Int):∀j,j<=E.length->(0<=(stpN r E j).1/\(stpN r E j).1<=100)/\-1<=(stpN r E j).2/\(stpN r E j).2<=12
 |0,_=>by simp[stpN]
 | j + 1,h=>by
   have:=stpN_in hf E j Om
   have h2:=bs1_in (E.getD j default) r 0 ⟨Om,Om⟩ hf
   rw[stpN_succ Om]
   unfold stpE
   split
   .dsimp only
    omega
   .exact this
theorem rep_in (w:Wor)(n t kn:Int):0<=repN w t kn n/\repN w t kn n<=2:=by
 unfold repN
 cases h:crsOf w n t kn with
 |none=>exact⟨Int.le_refl 0,(by decide:(0:Int)<=2)⟩
 | some c =>
   have:=(lookO_mem2 h).2
   simp only[okCrs,vCrs,bw,Bool.and_eq_true,decide_eq_true_iff]at this
   obtain⟨_,_,_,h4,_⟩:=this
   show 0<=c.rep/\c.rep<=2
   omega
theorem valT_le {l:List Fct}(hi:∀f∈l,f.value<=9223372036854775807)(k:Ke)(kn t:Int):valT l k kn t<=9223372036854775807:=by
 have key:∀(xs:List Fct) (b:Option Fct),(∀f∈xs,f.value<=9223372036854775807)->(∀f,b=some f->f.value<=9223372036854775807)->∀f,xs.foldl (stepF t) b=some f->f.value<=9223372036854775807:=by
  intro xs
  induction xs with
  |nil=>exact fun b _ hb f h=>hb f h
  | cons x r ih =>
    intro b hx hb f h
    rw[List.foldl_cons]at h
    refine ih _ (fun f hf=>hx f (by simp[hf])) (fun g hg=>?_) f h
    unfold stepF at hg
    split at hg
    .cases hg
     exact hx _ (by simp)
    .exact hb g hg
 unfold valT valB
 cases h:bestF l k t kn with
 |none=>show(-1:Int)<=_;decide
 | some f =>
   have:=key _ none (fun f hf=>hi f (List.mem_filter.1 hf).1) (fun f h=>by cases h) f h
   show max f.value (-1)<=_
   omega
theorem hval_of {w:Wor}(hi:∀f∈w.fcts,f.value<=9223372036854775807)(s t kn n:Int):∀p∈pointsV w.fcts (gK s n) 0 t kn,p.value<=9223372036854775807:=fun p hp=>by
 rw[(points_at hp).2.2.1]
 exact valT_le hi _ _ _
end Go.Proofs.YtkjmomadndmeaaaGreatDoor
