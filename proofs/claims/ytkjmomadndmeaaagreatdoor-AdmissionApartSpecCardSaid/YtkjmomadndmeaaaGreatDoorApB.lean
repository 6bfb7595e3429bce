import Derived.Test.YtkjmomadndmeaaaGreatDoorEngAS
import Derived.Test.YtkjmomadndmeaaaGreatDoorOpsH
import Derived.Test.YtkjmomadndmeaaaGreatDoorPetC
import Derived.Test.YtkjmomadndmeaaaGreatDoorRecO
import Derived.Test.YtkjmomadndmeaaaGreatDoorBookP
namespace Go.Ab
set_option linter.unusedSimpArgs false
set_option linter.unusedVariables false
section
variable {P:Program}{T:Tab}{m:Mem}{env:Env}{K:AV->Mem->Prop}{o:Oper}{ro:Option Nat}
theorem op_addw {t t':TypeId}{x y:Operand}(hop:o.op=.binOp .add t x y t'){k:IntKind}{a b:Int}(hx:ev env x=.d (.int k a))(hy:ev env y=.d (.int k b))(hK:K (.d (.int k (k.wrap (a+b)))) m):OpVC P o env m K :=
 ⟨fun c h=>(by rw [hop] at h;cases h),fun a' w F σ hev hm=>by
  have hv:=ev_ok hev x
  rw[hx]at hv
  have hv:=hv.int
  have hw:=ev_ok hev y
  rw[hy]at hw
  have hw:=hw.int
  refine⟨_,.int k (k.wrap (a+b)),w,σ,F,_,_,?_,.inl rfl,hK,.d .int,hm,Step.refl σ F w,SLe.refl σ⟩
  simp[execOp,hop,hv,hw,binOp,Op.intArith,eqGuard]⟩
theorem dsts_app {N:Nat}:∀{a b:List Oper},dstsIn N (a++b)=true->dstsIn N a=true/\dstsIn N b=true
 |[],b,h=>⟨rfl,h⟩
 | o :: a,b,h=>by
   simp only[List.cons_append,dstsIn,Bool.and_eq_true]at h⊢
   obtain⟨h1,h2⟩:=dsts_app h.2
   exact⟨⟨h.1,h1⟩,h2⟩
theorem Awp.cut (hT:TabOk P T){id N:Nat}{ops:Array Oper}{Q:Post}(n:Nat){post:List Oper}(ho:ops.toList.drop n=o::post)(hg:o.guard=none)(hd:dstsIn N ops.toList=true)
 (h:Ev (vcOps P T ops.toList (ops.toList.take n) env m fun env m=>OpVC P o env m fun v m=>setD env o.dst v fun env=>Ev (vcOps P T ops.toList post env m fun env m=>Ev (Q .normal env m)))):Awp P N (.region id ops false) env m Q :=
 ⟨fun ro lo a w σ F hN hD he hm=>by
  refine wpIn_region_list ?_
  have e0:ops.toList=ops.toList.take n++(o::post):=by rw[<-ho,List.take_append_drop]
  rw[e0]at hd
  obtain⟨d1,d2⟩:=dsts_app hd
  simp only[dstsIn,Bool.and_eq_true]at d2
  rw[e0]
  refine vcOps_pre hT (full:=ops.toList) (by simp) _ env m d1 h.o a w F σ hN he hm ?_
  rintro env1 m1 a1 w1 σ1 F1 hop i1 i2 i3 i4 i5 i6
  refine wpListIn_plain hg fun K' hK'=>?_
  obtain⟨n',u,w',σ',F',A,m',hrun,hcase,hk,hu,hm',hs,hle⟩:=hop.run a1 w1 F1 σ1 i3 i4
  have he1:=i3.mono (w':=w') hs.fro (hs.frozen i4) hle
  obtain⟨env',hk,he'⟩:=setD_ok i1 d2.1 he1 hu hk
  have tr:∀{σa σb σc:Pls},SLe σa σb->SLe σb σc->SLe σa σc:=fun h1 h2 r q hq=>by
   obtain⟨q1,h3,h4⟩:=h1 r q hq
   obtain⟨q2,h5,h6⟩:=h2 r q1 h3
   exact⟨q2,h5,h4.trans h6⟩
  have cont:wpListIn (Fen ro) 0 P ops (lift N Q ro lo σ F w) post (a1.put o.dst u) w':=by
   refine vcOps_ok hT (full:=ops.toList) (by simp) post env' m' d2.2 hk.o (a1.put o.dst u) w' F' σ' (by rw[put_size];exact i1) he' hm' ?_
   intro env2 m2 a2 w2 σ2 F2 k1 k2 k3 k4 k5 k6 k7
   have hs2:=i5.trans (hs.trans k6)
   exact⟨env2,m2,σ2,F2,k1.o,k2,by rw[k3,put_defers,i2];exact hD.step hs2,k4,k5,hs2,.of (tr i6 (tr hle k7))⟩
  refine wpIn_at hop.nd ?_
  rw[hrun]
  rcases hcase with rfl|⟨rfl,rfl⟩
  .rw[Oper.uponIn_value];exact hK' _ _ cont
  .rw[Oper.uponIn_skip];exact hK' _ _ cont⟩
end
end Go.Ab
namespace Go.Proofs.YtkjmomadndmeaaaGreatDoor
set_option linter.unusedSimpArgs false
set_option linter.unusedVariables false
open Go Go.Ab
set_option maxRecDepth 100000
set_option maxHeartbeats 0
def wr (t:Int):Int:=IntKind.i64.wrap (t+1)
theorem wr_in {t:Int}(h:In .i64 (t+1)):wr t=t+1:=h.wrap
theorem wr_le {t:Int}(h:In .i64 t):wr t<=t+1:=by
 by_cases h1:In .i64 (t+1)
 .rw[wr_in h1]
  exact Int.le_refl _
 .have:t=9223372036854775807:=by rw[in64]at h h1;omega
  subst this
  decide
def rdW (q:Ke)(t:Int):Red:=⟨q.kind,q.subject,q.object,t,wr t⟩
theorem points_oneW (l:List Fct)(k:Ke)(t kn:Int)(h:In .i64 t):(pointsV l k t (wr t) kn).length<=1:=by
 have:=ptsU_len (valT l k kn) (max 0 t) (ptsN t (wr t))
 have hw:=wr_le h
 unfold pointsV
 unfold ptsN at *
 omega
def petW (l:List Fct)(k:Ke)(t kn:Int):Int:=lstV (pointsV l k t (wr t) kn) (pointsV l k t (wr t) kn).length
theorem petW_nn (l:List Fct)(k:Ke)(t kn:Int)(h:In .i64 t):0<=petW l k t kn:=by
 have h1:=points_oneW l k t kn h
 unfold petW lstV
 rw[List.take_length]
 cases hp:pointsV l k t (wr t) kn with
 |nil=>exact Int.le_refl _
 | cons p r =>
   rw[hp]at h1
   have hr:r=[]:=List.eq_nil_of_length_eq_zero (by simpa using h1)
   subst hr
   exact(points_at (show p∈pointsV l k t (wr t) kn by rw[hp];simp)).2.2.2
def eLkW (w:Wor)(k:Ke)(t kn:Int):List D:=eRed (rdW k t)++[di (petW w.fcts k t kn)]
def rdsW (ks:List Ke)(t:Int)(k:Nat):List Red:=(ks.take k).map fun q=>rdW q t
def numW (w:Wor)(q:Ke)(t kn:Int)(k:Nat):Int:=if k=0 then 0 else petW w.fcts q t kn
theorem lkdA_okW (rec:Loop)(y:Nat)(w:Wor)(hw:WfW w)(ks:List Ke)(hl:ks.length<=1000000)(t kn:Int)(ht:In .i64 t)
 (hy:∀ k,k < ks.length→YieldVC Tryz.prog y [.d (.int .i64 k),.d (.agg (eLkW w (ks.getD k default) t kn))] ⟨[],[some (.box 105 [.d (eKes ks)]),some (.box 3 [.d (.int .i64 t)]),some (.box 29 (up (eWor w))),some (.box 3 [.d (.int .i64 kn)]),some (.box 3 [.d (.int .i64 (numW w (ks.getD 0 default) t kn k))]),some (.box 35 [.osl (.arg 6) k 0 (rdsW ks t k).length]),some (.vec 107 5 k (rdsW ks t k).length (rowsOf eRed (rdsW ks t k))),some (.loop y rec [(12,.ptr (.arg 4) 0 0 0),(14,.ptr (.arg 5) 0 0 0)])]⟩
  (Ret (fun _:Unit=>([.d (.bool true)],⟨[],[bX 105 [.d (eKes ks)],bX 3 [dV t],bX 29 (up (eWor w)),bX 3 [dV kn],bX 3 [dV (numW w (ks.getD 0 default) t kn (k+1))],bX 35 [.osl (.arg 6) (k+1) 0 (rdsW ks t (k+1)).length],bV 107 5 (k+1) (rdsW ks t (k+1)).length (rowsOf eRed (rdsW ks t (k+1))),some (.loop y rec [(12,ap 4),(14,ap 5)])]⟩)) fun _=>True)) :
 CallVC Tryz.prog 98 [.fn (.yield y) [] [],ap 0,ap 1,ap 2,ap 3] ⟨[],[bX 105 [.d (eKes ks)],bX 3 [dV t],bX 29 (up (eWor w)),bX 3 [dV kn],bX 3 [dV 0],bX 35 [.osl (.arg 6) 0 0 0],bV 107 5 0 0 (rowsOf eRed []),some (.loop y rec [(12,ap 4),(14,ap 5)])]⟩
  (Ret (fun _:Unit=>([],⟨[],[bX 105 [.d (eKes ks)],bX 3 [dV t],bX 29 (up (eWor w)),bX 3 [dV kn],bX 3 [dV (numW w (ks.getD 0 default) t kn ks.length)],bX 35 [.osl (.arg 6) ks.length 0 (rdsW ks t ks.length).length],bV 107 5 ks.length (rdsW ks t ks.length).length (rowsOf eRed (rdsW ks t ks.length)),some (.loop y rec [(12,ap 4),(14,ap 5)])]⟩)) fun _=>True):=by
 refine call_rule hT (T:=tab) (N:=47) (rs:=[]) _ _ Tryz.func98 rfl rfl rfl Kr rfl ?_
 (refine gW ?_;intros)
 refine loop_rule hT (S:=Nat) (fun k=>([(0,.fn (.yield y) [] []),(2,ap 1),(3,ap 2),(4,ap 3),(11,.d (eKes ks)),(12,dV ks.length),(13,dV k)],⟨[],[bX 105 [.d (eKes ks)],bX 3 [dV t],bX 29 (up (eWor w)),bX 3 [dV kn],bX 3 [dV (numW w (ks.getD 0 default) t kn k)],bX 35 [.osl (.arg 6) k 0 (rdsW ks t k).length],bV 107 5 k (rdsW ks t k).length (rowsOf eRed (rdsW ks t k)),some (.loop y rec [(12,ap 4),(14,ap 5)])]⟩)) (fun k=>k<=ks.length) (fun k=>ks.length-k) 0 ?_ ?_ ?_
 .exact lq
 .exact Nat.zero_le _
 .intro k hk
  dsimp only at hk⊢
  by_cases hk2:k<ks.length
  .have hy1:=hy k hk2
   have hv:lstV (pointsV w.fcts (ks.getD k default) t (wr t) kn) (pointsV w.fcts (ks.getD k default) t (wr t) kn).length=petW w.fcts (ks.getD k default) t kn:=rfl
   have hP:=points_ok w.fcts hw.fct (ks.getD k default) t (wr t) kn
   unfold eLkW at hy1
   have hpl:=points_oneW w.fcts (ks.getD k default) t kn ht
   (refine gS ?_;intros)
   refine Sq.go ?_;(refine gS ?_;intros)
   refine Sq.go ?_;(refine gS ?_;intros)
   refine Sq.alt (Awp.seq (Awp.cut hT 3 rfl rfl Kr ?_))
   (refine gS ?_;intros)
   refine op_addw rfl rfl rfl ?_
   conv=>whnf
   (refine gS ?_;intros)
   refine Awp.seq (Awp.seq (Awp.cut hT 5 rfl rfl Kr ?_))
   (refine gS ?_;intros)
   refine op_addw rfl rfl rfl ?_
   conv=>whnf
   (refine gS ?_;intros)
   refine hP.call ?_
   (refine gS ?_;intros)
   refine Awp.of_vc hT ?_
   (refine gS ?_;intros)
   refine loop_rule hT (S:=Nat) (fun j=>([(0,.fn (.yield y) [] []),(2,ap 1),(3,ap 2),(4,ap 3),(6,dV k),(8,lp 1),(11,.d (eKes ks)),(12,dV ks.length),(13,dV k),(31,.d (ePois (pointsV w.fcts (ks.getD k default) t (wr t) kn))),(32,dV (pointsV w.fcts (ks.getD k default) t (wr t) kn).length),(33,dV j)],
    ⟨[none,bX 109 (up (eRed (rdW (ks.getD k default) t)++[di (lstV (pointsV w.fcts (ks.getD k default) t (wr t) kn) j)]))],[bX 105 [.d (eKes ks)],bX 3 [dV t],bX 29 (up (eWor w)),bX 3 [dV kn],bX 3 [dV (numW w (ks.getD 0 default) t kn k)],bX 35 [.osl (.arg 6) k 0 (rdsW ks t k).length],bV 107 5 k (rdsW ks t k).length (rowsOf eRed (rdsW ks t k)),some (.loop y rec [(12,ap 4),(14,ap 5)])]⟩)) (fun j=>j<=(pointsV w.fcts (ks.getD k default) t (wr t) kn).length) (fun j=>(pointsV w.fcts (ks.getD k default) t (wr t) kn).length-j) 0 ?_ ?_ ?_
   .exact lq
   .exact Nat.zero_le _
   .intro j hj
    dsimp only at hj⊢
    by_cases hj2:j<(pointsV w.fcts (ks.getD k default) t (wr t) kn).length
    .have hs:=lstV_succ hj2
     (refine gW ?_;intros)
     refine⟨j+1,by show j+1<=(pointsV w.fcts (ks.getD k default) t (wr t) kn).length;omega,by show(pointsV w.fcts (ks.getD k default) t (wr t) kn).length-(j+1)<(pointsV w.fcts (ks.getD k default) t (wr t) kn).length-j;omega,?_⟩
     dsimp only
     rw[hs]
     exact lq
    .obtain rfl:j=(pointsV w.fcts (ks.getD k default) t (wr t) kn).length:=by omega
     rw[hv]
     (refine gW ?_;intros)
     refine Awp.of_vc hT ?_
     (refine gW ?_;intros)
     refine hy1.at [.arg 0,.arg 1,.arg 2,.arg 3,.arg 4,.arg 5,.arg 6,.arg 7] rfl ⟨rfl,rfl,rfl,rfl,rfl,rfl,rfl,rfl,Tt⟩ (fun s' hs'=>⟨rfl,?_⟩)
     (refine gW ?_;intros)
     refine⟨k+1,by show k+1<=ks.length;omega,by show ks.length-(k+1)<ks.length-k;omega,?_⟩
     exact lq
  .obtain rfl:k=ks.length:=by omega
   (refine gW ?_;intros)
   refine⟨(),Tt,?_,rfl⟩
   exact lq
theorem active_okW (w:Wor)(hw:WfW w)(sc s o t kn:Int)(ht:In .i64 t) :
 Pure Tryz.prog 18 [.agg (eWor w),di sc,di s,di o,di t,di kn] [di (petW w.fcts ⟨sc,s,o⟩ t kn),.bool (decide (0<petW w.fcts ⟨sc,s,o⟩ t kn)),eReds [rdW ⟨sc,s,o⟩ t]]:=by
 have hv0:=petW_nn w.fcts ⟨sc,s,o⟩ t kn ht
 have hL:=petlook_ok w [⟨sc,s,o⟩] t kn
 refine pure_ruleC hT (T:=tab) (N:=40) (rs:=[.cell 12 3,.tmp 13,.cell 14 35]) Tryz.func18 rfl rfl rfl Kr rfl ?_
 (refine gS ?_;intros)
 refine Sq.alt (Awp.vecCell (.loc 2) 0 35 107 5 [.d .nils] (rowsOf eRed []) rfl rfl (vc_ok hT _ _ _ _ (Ev.o ?_)))
 (refine gS ?_;intros)
 refine CallVC.frz [4] (dargs:=[.agg (eWor w),eKes [⟨sc,s,o⟩],di t,di kn]) ⟨.d,.rows rfl (Nat.le_refl _) (fun i hi=>by rw[show i=0 from Nat.lt_one_iff.1 hi];rfl),.d,.d,Tt⟩ (hL.at [] rfl Tt (fun _ _=>⟨rfl,?_⟩))
 (refine gW ?_;intros)
 refine Awp.range (caps:=[lp 6,lp 7,lp 5,lp 8]) [(12,lp 1),(14,lp 2)] (.inl rfl) (nl:=9) (na:=0) ⟨⟨rfl,rfl⟩,⟨rfl,rfl⟩,Tt⟩ ?_
 intro y rec h1 h2 h3 h4 h5 h6
 obtain⟨q,hq⟩:∃q:Ke,(⟨sc,s,o⟩:Ke)=q:=⟨_,rfl⟩
 rw[hq]at hv0⊢
 refine(lkdA_okW rec y w hw [q] (show 1<=1000000 by decide) t kn ht ?_).at [.loc 6,.loc 7,.loc 5,.loc 8,.loc 1,.loc 2,.loc 3,.loc 9] rfl ⟨rfl,rfl,rfl,rfl,rfl,rfl,rfl,rfl,Tt⟩ (fun _ _=>⟨rfl,?_⟩)
 .intro k hk
  obtain rfl:k=0:=Nat.lt_one_iff.1 hk
  refine yieldMono (yield_rule (N:=40) (ps:=[26,27]) (args:=[dV (0:Nat),.d (.agg (eLkW w q t kn))])
   (bs:=[bX 105 [.d (eKes [q])],bX 3 [dV t],bX 29 (up (eWor w)),bX 3 [dV kn],bX 3 [dV 0],bX 35 [.osl (.arg 6) 0 0 0],bV 107 5 0 0 (rowsOf eRed [])]) (env0:=[(12,ap 4),(14,ap 5)])
   (fun _:Unit=>[bX 105 [.d (eKes [q])],bX 3 [dV t],bX 29 (up (eWor w)),bX 3 [dV kn],bX 3 [dV (petW w.fcts q t kn)],bX 35 [.osl (.arg 6) 1 0 1],bV 107 5 1 1 (rowsOf eRed [rdW q t])]) (fun _=>none) (fun _=>True) h1 h3 h4 h5 h6 rfl (by simp) ?_ rfl rfl ?_) ?_
  .exact lq
  .refine Awp.of_vc hT ?_
   (refine gW ?_;intros)
   refine Awp.block (Awp.effsC (m:=⟨[bX 109 (up (eLkW w q t kn))],[bX 105 [.d (eKes [q])],bX 3 [dV t],bX 29 (up (eWor w)),bX 3 [dV kn],bX 3 [dV 0],bX 35 [.osl (.arg 6) 0 0 0],bV 107 5 0 0 (rowsOf eRed [])]⟩) hT Kr Kr Kr
    ⟨[bX 109 (up (eLkW w q t kn)),none],[bX 105 [.d (eKes [q])],bX 3 [dV t],bX 29 (up (eWor w)),bX 3 [dV kn],bX 3 [.junk],bX 35 [.osl (.arg 6) 0 0 0],some .opq]⟩ 1 7
    [⟨6,.osl (.loc 1) 0 0 1,⟨[some (.box 109 (up (eLkW w q t kn))),some (.vec 107 5 0 1 (rowFn [up (eRed (rdW q t))]))],[some (.box 105 [.d (eKes [q])]),some (.box 3 [.d (.int .i64 t)]),some (.box 29 (up (eWor w))),some (.box 3 [.d (.int .i64 kn)]),some (.box 3 [.d (.int .i64 0)]),some (.box 35 [.osl (.arg 6) 0 0 0]),some (.vec 107 5 0 0 (rowsOf eRed []))]⟩,[]⟩,
     ⟨7,.osl (.arg 6) 1 0 1,⟨[bX 109 (up (eLkW w q t kn)),bV 107 5 0 1 (rowFn [up (eRed (rdW q t))])],[bX 105 [.d (eKes [q])],bX 3 [dV t],bX 29 (up (eWor w)),bX 3 [dV kn],bX 3 [dV 0],bX 35 [.osl (.arg 6) 0 0 0],bV 107 5 1 1 (joinF 0 (rowsOf eRed []) (rowFn [up (eRed (rdW q t))]))]⟩,[6]⟩,
     ⟨8,.junk,⟨[bX 109 (up (eLkW w q t kn)),bV 107 5 0 1 (rowFn [up (eRed (rdW q t))])],[bX 105 [.d (eKes [q])],bX 3 [dV t],bX 29 (up (eWor w)),bX 3 [dV kn],bX 3 [dV (petW w.fcts q t kn)],bX 35 [.osl (.arg 6) 0 0 0],bV 107 5 1 1 (joinF 0 (rowsOf eRed []) (rowFn [up (eRed (rdW q t))]))]⟩,[7]⟩,
     ⟨9,.junk,⟨[bX 109 (up (eLkW w q t kn)),bV 107 5 0 1 (rowFn [up (eRed (rdW q t))])],[bX 105 [.d (eKes [q])],bX 3 [dV t],bX 29 (up (eWor w)),bX 3 [dV kn],bX 3 [dV (petW w.fcts q t kn)],bX 35 [.osl (.arg 6) 1 0 1],bV 107 5 1 1 (joinF 0 (rowsOf eRed []) (rowFn [up (eRed (rdW q t))]))]⟩,[8]⟩]
    Kr rfl rfl (WeakF.of ⟨.inl rfl,Tt⟩ ⟨.inl rfl,.inl rfl,.inl rfl,.inl rfl,.inr ⟨_,rfl,WeakB.box Tt⟩,.inl rfl,.inr ⟨_,rfl,WeakB.opq⟩,Tt⟩) true (fun _=>by kernel_rfl) ⟨WeakF.of ⟨.inl rfl,Tt⟩ ⟨.inl rfl,.inl rfl,.inl rfl,.inl rfl,.inr ⟨_,rfl,WeakB.box Tt⟩,.inl rfl,.inr ⟨_,rfl,WeakB.opq⟩,Tt⟩,WeakF.of ⟨.inl rfl,Tt⟩ ⟨.inl rfl,.inl rfl,.inl rfl,.inl rfl,.inr ⟨_,rfl,WeakB.box Tt⟩,.inl rfl,.inr ⟨_,rfl,WeakB.opq⟩,Tt⟩,WeakF.of ⟨.inl rfl,Tt⟩ ⟨.inl rfl,.inl rfl,.inl rfl,.inl rfl,.inr ⟨_,rfl,WeakB.box Tt⟩,.inl rfl,.inr ⟨_,rfl,WeakB.opq⟩,Tt⟩,.inl rfl⟩ ?_)
   conv=>whnf
   (refine gS ?_;intros)
   refine⟨?_,?_,?_,?_,?_⟩
   .conv=>whnf
    (refine gS ?_;intros)
    exact⟨rfl,rfl⟩
   .conv=>whnf
    (refine gS ?_;intros)
    exact⟨rfl,rfl⟩
   .conv=>whnf
    (refine gS ?_;intros)
    refine⟨Tt,?_⟩
    rw[show max (petW w.fcts q t kn) 0=petW w.fcts q t kn by omega]
    rfl
   .conv=>whnf
    (refine gS ?_;intros)
    exact⟨Tt,rfl⟩
   conv=>whnf
   (refine gS ?_;intros)
   refine⟨(),Tt,rfl,rfl,?_⟩
   exact lq
  .rintro A m' ⟨_,_,rfl,rfl⟩
   refine⟨(),Tt,rfl,?_⟩
   show(⟨[],[some _,some _,some _,some _,some _,some _,some _,some (.loop y (after rec none) _)]⟩:Mem)=_
   rw[after_none h1 h2]
   rfl
 ·(refine gW ?_;intros)
  refine⟨none,by rw[after_none h1 h2];rfl,?_⟩
  show Sq _ _
  refine Sq.alt (Awp.le (env':=[(12,lp 1),(14,lp 2)]) (m':=⟨[none,bX 3 [dV (petW w.fcts q t kn)],bX 35 [.osl (.loc 3) 1 0 1],bV 107 5 1 1 (rowsOf eRed [rdW q t])],[]⟩) ?_
   (Awp.seq (Awp.effs (m:=⟨[none,some (.box 3 [.d (.int .i64 (petW w.fcts q t kn))]),some (.box 35 [.osl (.loc 3) 1 0 1]),some (.vec 107 5 1 1 (rowsOf eRed [rdW q t]))],[]⟩) hT (by kernel_rfl) (by kernel_rfl) (by kernel_rfl)
    ⟨[none,bX 3 [dV (petW w.fcts q t kn)],bX 35 [.osl (.loc 3) 1 0 1],bV 107 5 1 1 (rowsOf eRed [rdW q t])],[]⟩
    [⟨4,.junk,⟨[none,bX 3 [dV (petW w.fcts q t kn)],bX 35 [.osl (.loc 3) 1 0 1],bV 107 5 1 1 (rowsOf eRed [rdW q t])],[]⟩,[]⟩,⟨5,.d (.bool (decide (0<petW w.fcts q t kn))),⟨[none,bX 3 [dV (petW w.fcts q t kn)],bX 35 [.osl (.loc 3) 1 0 1],bV 107 5 1 1 (rowsOf eRed [rdW q t])],[]⟩,[4]⟩,⟨6,.junk,⟨[none,bX 3 [dV (petW w.fcts q t kn)],bX 35 [.osl (.loc 3) 1 0 1],bV 107 5 1 1 (rowsOf eRed [rdW q t])],[]⟩,[5]⟩] Kr (fun r=>.inl rfl) ⟨fun r=>.inl rfl,fun r=>.inl rfl,fun r=>.inl rfl,Tt⟩ ?_)))
  .exact lq
  conv=>whnf
  (refine gS ?_;intros)
  refine⟨?_,?_,?_,?_⟩
  .conv=>whnf
   (refine gS ?_;intros)
   exact⟨Tt,rfl⟩
  .conv=>whnf
   (refine gS ?_;intros)
   exact⟨rfl,rfl⟩
  .conv=>whnf
   (refine gS ?_;intros)
   exact⟨Tt,rfl⟩
  conv=>whnf
  (refine gW ?_;intros)
  refine Awp.of_vc hT ?_
  (refine gW ?_;intros)
  exact⟨BecP.d,BecP.d,BecP.rows rfl (Nat.le_refl _) (fun i hi=>by rw[Nat.zero_add];rfl),Tt⟩
theorem rpoints_ok (l:List Fct)(hl:fitL l)(k:Ke)(fr til kn:Int):Pure Tryz.prog 138 [eFcts l,.agg (eKe k),di fr,di til,di kn] [ePois (pointsV l k fr til kn)]:=by
 have hA:=fun t=>rat_ok l hl k t kn
 simp only[atV_val]at hA
 unfold pointsV
 generalize valT l k kn=v at hA⊢
 obtain⟨a,ha⟩:∃a:Nat,(a:Int)=max 0 fr:=⟨(max 0 fr).toNat,Om⟩
 rw[<-ha]
 obtain⟨n,hn⟩:∃n:Nat,ptsN fr til=n:=⟨_,rfl⟩
 rw[hn]
 unfold ptsN at hn
 refine pure_rule hT (T:=tab) (N:=40) (rs:=[.tmp 10]) Tryz.func138 rfl rfl rfl Kr rfl ?_
 repeat' (first|with_reducible refine Sq.go ?_|((with_reducible refine Ev.mk ?_);conv=>whnf)|with_reducible refine Dr.mk ⟨Kr,Kr⟩ ?_|with_reducible refine obG ?_|with_reducible refine Ob.mk ?_ ?_|(with_reducible first|refine brT fun h=>?_|refine brF fun h=>?_|refine Br.mk (fun h=>?_) fun h=>?_)<;>(try simp only[bsl,beq_iff_eq,bne_iff_ne,bs2]at h)<;>(try contradiction)<;>try (exfalso;omega))
 refine loop_rule hT (S:=Nat × Nat) (fun z=>([(0,.d (eFcts l)),(3,dV til),(4,dV kn),(6,lp 0),(11,.osl (.loc 1) z.2 0 (ptsU v a z.1).length),(12,dV ((a+z.1:Nat):Int))],
  ⟨[bX 72 (up (eKe k)),bV 143 2 z.2 (ptsU v a z.1).length (rowP (ptsU v a z.1))],[]⟩)) (fun z=>z.1<=n) (fun z=>n-z.1) (0,0) ?_ ?_ ?_
 .repeat' (first|exact Tt|exact rfl|exact Nat.le_refl _|refine And.intro ?_ ?_)
  all_goals first
   |(intro i hi;exact absurd hi (Nat.not_lt_zero i))
   |exact congrArg (fun n=>dV n) (by show _=((a+0:Nat):Int);rw[Nat.add_zero,ha];rfl)
 .exact Nat.zero_le _
 .rintro⟨j,g⟩ hj
  dsimp only at hj⊢
  have hlen:=ptsU_len v a j
  have hs:=ptsU_cast v a j
  by_cases hj2:j<n
  .have hb:a+j<1024:=by omega
   have hA':=hA ((a+j:Nat):Int)
   by_cases h0:0<=v ((a+j:Nat):Int)
   .rw[if_pos h0]at hs hA'
    have ks:Kp _:=⟨hs⟩
    clear hs hA
    ((refine xW ?_ ?_)<;>(intros;try rename_i h))
    all_goals try (exfalso;simp only[cond_true,cond_false]at h;omega)
    refine hA'.call ?_
    repeat' (first|with_reducible refine Sq.go ?_|((with_reducible refine Ev.mk ?_);conv=>whnf)|with_reducible refine Dr.mk ⟨Kr,Kr⟩ ?_|with_reducible refine obG ?_|with_reducible refine Ob.mk ?_ ?_|(with_reducible first|refine brT fun h=>?_|refine brF fun h=>?_|refine Br.mk (fun h=>?_) fun h=>?_)<;>(try simp only[bsl,beq_iff_eq,bne_iff_ne,bs2]at h)<;>(try contradiction)<;>try (exfalso;omega))
    refine stp (j+1,g+1) ?_
    dsimp only
    rw[ks.h,len_snoc]
    repeat' (first|exact Tt|exact rfl|exact Nat.le_refl _|refine And.intro ?_ ?_)
    all_goals first
     |(intro i hi;exact⟨rfl,rfl⟩)
     |(intro i hi;exact⟨rowsOf_join' ePoi (ptsU v a j) ⟨((a+j:Nat):Int),v ((a+j:Nat):Int)⟩ rfl i hi,rfl⟩)
   .rw[if_neg h0,List.append_nil]at hs
    rw[if_neg h0]at hA'
    have ks:Kp _:=⟨hs⟩
    clear hs hA
    ((refine xW ?_ ?_)<;>(intros;try rename_i h))
    all_goals try (exfalso;simp only[cond_true,cond_false]at h;omega)
    refine hA'.call ?_
    (refine gW ?_;intros;try rename_i h)
    refine stp (j+1,g) ?_
    dsimp only
    rw[ks.h]
    exact lq
  .obtain rfl:j=n:=by omega
   have hd:¬ ((a+j:Nat):Int)<(bif false then max til 1024 else min til 1024):=by rw[cond_false];omega
   (refine gW ?_;intros;try rename_i h)
   refine⟨⟨rfl,rfl,?_,rfl,fun i hi=>?_⟩,Tt⟩
   .exact Nat.le_of_eq (Nat.zero_add _)
   .rw[Nat.zero_add]
    rfl
def lkW (l:List Fct)(k:Ke)(t kn:Int):Bool:=!(pointsV l k t (wr t) kn).isEmpty
theorem rlook_okW (w:Wor)(hw:WfW w)(k:Ke)(t kn:Int)(ht:In .i64 t):Pure Tryz.prog 95 [.agg (eWor w),.agg (eKe k),di t,di kn] [di (petW w.fcts k t kn),.bool (lkW w.fcts k t kn),.agg (eRed (rdW k t))]:=by
 have hP:=rpoints_ok w.fcts hw.fct k t (wr t) kn
 have hl:=points_oneW w.fcts k t kn ht
 have e1:petW w.fcts k t kn=if(pointsV w.fcts k t (wr t) kn).length=0 then 0 else((pointsV w.fcts k t (wr t) kn).getD 0 default).value:=by
  unfold petW lstV
  generalize pointsV w.fcts k t (wr t) kn=ps at hl
  match ps,hl with
  |[],_=>rfl
  |[p],_=>rfl
 have e2:lkW w.fcts k t kn=decide ((pointsV w.fcts k t (wr t) kn).length≠0):=by
  unfold lkW
  cases pointsV w.fcts k t (wr t) kn<;>rfl
 rw[e1,e2]
 clear e1 e2
 generalize pointsV w.fcts k t (wr t) kn=ps at hP hl⊢
 refine pure_rule hT (T:=tab) (N:=35) (rs:=[.tmp 8,.tmp 9,.cell 10 107]) Tryz.func95 rfl rfl rfl Kr rfl ?_
 by_cases h0:ps.length=0
 .rw[if_pos h0,decide_eq_false (fun h=>h h0)]
  (refine gS ?_;intros)
  refine Sq.alt (Awp.seq (Awp.cut hT 5 rfl rfl Kr ?_))
  (refine gS ?_;intros)
  refine op_addw rfl rfl rfl ?_
  conv=>whnf
  (refine gS ?_;intros)
  refine hP.call ?_
  (refine gS ?_;intros)
  refine Awp.seq (Awp.cut hT 3 rfl rfl Kr ?_)
  (refine gS ?_;intros)
  refine op_addw rfl rfl rfl ?_
  conv=>whnf
  (refine gS ?_;intros)
  refine Awp.of_vc hT ?_
  (refine gW ?_;intros)
  exact⟨rfl,rfl,.inl rfl,Tt⟩
 .rw[if_neg h0,decide_eq_true h0]
  (refine gS ?_;intros)
  refine Sq.alt (Awp.seq (Awp.cut hT 5 rfl rfl Kr ?_))
  (refine gS ?_;intros)
  refine op_addw rfl rfl rfl ?_
  conv=>whnf
  (refine gS ?_;intros)
  refine hP.call ?_
  (refine gS ?_;intros)
  refine Awp.seq (Awp.cut hT 3 rfl rfl Kr ?_)
  (refine gS ?_;intros)
  refine op_addw rfl rfl rfl ?_
  conv=>whnf
  (refine gS ?_;intros)
  refine Awp.of_vc hT ?_
  (refine gW ?_;intros)
  exact⟨rfl,rfl,.inl rfl,Tt⟩
theorem lkW_pos {l:List Fct}{k:Ke}{t kn:Int}(h:0<petW l k t kn):lkW l k t kn=true:=by
 unfold lkW
 unfold petW lstV at h
 cases hp:pointsV l k t (wr t) kn with
 |nil=>rw[hp]at h;exact absurd h Dc
 |cons p r=>rfl
theorem ractive_okW (w:Wor)(hw:WfW w)(kd s c t kn:Int)(ht:In .i64 t):Pure Tryz.prog 43 [.agg (eWor w),di kd,di s,di c,di t,di kn] [di (petW w.fcts ⟨kd,s,c⟩ t kn),.bool (decide (0<petW w.fcts ⟨kd,s,c⟩ t kn)),eReds [rdW ⟨kd,s,c⟩ t]]:=by
 have hL:=rlook_okW w hw ⟨kd,s,c⟩ t kn ht
 have hp:=@lkW_pos w.fcts ⟨kd,s,c⟩ t kn
 have hn:=petW_nn w.fcts ⟨kd,s,c⟩ t kn ht
 generalize petW w.fcts ⟨kd,s,c⟩ t kn=v at hL hp hn⊢
 generalize lkW w.fcts ⟨kd,s,c⟩ t kn=b at hL hp
 refine pure_rule hT (T:=tab) (N:=41) (rs:=[.tmp 12,.tmp 13,.tmp 14]) Tryz.func43 rfl rfl rfl Kr rfl ?_
 by_cases h0:0<v
 .rw[hp h0]at hL
  rw[decide_eq_true h0]
  clear hp
  (refine gW ?_;intros)
  refine hL.call ?_
  (refine gW ?_;intros)
  exact⟨rfl,rfl,⟨rfl,rfl,fun i hi=>by rw[show i=0 from Nat.lt_one_iff.1 hi];rfl⟩,Tt⟩
 .obtain rfl:v=0:=by omega
  clear hp hn h0
  cases b
  ·(refine gW ?_;intros)
   refine hL.call ?_
   (refine gW ?_;intros)
   exact⟨rfl,rfl,⟨rfl,rfl,fun i hi=>by rw[show i=0 from Nat.lt_one_iff.1 hi];rfl⟩,Tt⟩
  ·(refine gW ?_;intros)
   refine hL.call ?_
   (refine gW ?_;intros)
   exact⟨rfl,rfl,⟨rfl,rfl,fun i hi=>by rw[show i=0 from Nat.lt_one_iff.1 hi];rfl⟩,Tt⟩
end Go.Proofs.YtkjmomadndmeaaaGreatDoor
