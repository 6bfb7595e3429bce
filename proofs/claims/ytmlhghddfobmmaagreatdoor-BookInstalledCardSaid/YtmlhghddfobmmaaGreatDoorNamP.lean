import Derived.Test.YtmlhghddfobmmaaGreatDoorOpsF
import Derived.Test.YtmlhghddfobmmaaGreatDoorEngAT
import Derived.Test.YtmlhghddfobmmaaGreatDoorBookA
import Derived.Test.YtmlhghddfobmmaaGreatDoorRuleC
namespace Go.Ab
set_option linter.unusedSimpArgs false
set_option linter.unusedVariables false
theorem Awp.vecG {P:Program}{N:Nat}{c:Code}{env:Env}{m:Mem}{Q:Post}(t e sz g:Nat)(f:Nat->List AV)(ht:get env t=.d .nils)
 (k:Awp P N c ((t,.osl m.new g 0 0)::env) (m.add (.vec e sz g 0 f)) Q):Awp P N c env m Q :=
 ⟨fun ro lo a w σ F hN hD he hm=>by
  let pl:Pl:=⟨g,sz,none⟩
  obtain⟨g1,g2⟩:=fresh_ok (w':=w) (pl:=pl) (B:=.vec e sz g 0 f) hm (Nat.le_refl _) (fun _ _=>rfl) ⟨rfl,rfl,fun _=>rfl,fun i hi=>absurd hi Om,fun b t h=>by simp[pl]at h⟩ (fun b t h=>by simp[pl]at h)
  have he':EnvOk ((t,.osl m.new g 0 0)::env) w F (upd σ m.new (some pl)) a.tmps:=by
   intro k
   simp only[get]
   cases hk:Nat.beq t k with
   | true =>
     have:=Nat.eq_of_beq_eq_true hk
     subst this
     simp only[cond_true]
     have hv:=he t
     rw[ht]at hv
     refine .osl (upd_self σ m.new (some pl)) fun p hp=>?_
     injection hp with hp
     subst hp
     refine⟨Nat.le_refl _,fun _=>⟨rfl,rfl,?_⟩⟩
     generalize a.tmps.getD t undef=X at hv
     cases hv with|d hv=>cases hv;rfl
   |false=>exact(he k).mono (fun _ h=>h) (fun _ _=>rfl) g2
  have hst:Step σ F w (upd σ m.new (some pl)) F w:=⟨rfl,rfl,rfl,Nat.le_refl _,Nat.le_refl _,fun _ _ _=>rfl,fun _ h=>h,fun _ h=>.inl h,own_upd_new fun b t h=>by simp[pl]at h⟩
  exact wpIn_mono (k.run ro lo a w _ F hN (hD.step hst) he' g1) fun e a2 w2 h5=>lift_trans hst (.of g2) h5⟩
end Go.Ab
namespace Go.Proofs.YtmlhghddfobmmaaGreatDoor
set_option linter.unusedSimpArgs false
set_option linter.unusedVariables false
open Go Go.Ab
set_option maxRecDepth 100000
set_option maxHeartbeats 0
def numsC (l:List Crs):List Int:=l.map fun x=>x.number
def rowsOf {α:Type}[Inhabited α](enc:α->List D)(l:List α):Nat->List AV:=fun i=>up (enc (l.getD i default))
theorem cloneCrs_ok (q:List Crs)(hq:q.length<=1000000):CallVC Tryz.prog 65 [.d (eCrss q)] ⟨[],[]⟩
 (Ret (fun _:Unit=>([.osl (.loc 0) 1 0 q.length],⟨[some (.vec 68 16 1 q.length (rowsOf eCrs q))],[]⟩)) fun _=>True):=by
 refine call_rule hT (T:=tab) (N:=8) (rs:=[.tmp 2]) _ _ Tryz.func65 rfl rfl rfl Kr rfl ?_
 repeat' (first|with_reducible refine Sq.go ?_|((with_reducible refine Ev.mk ?_);conv=>whnf)|with_reducible refine Dr.mk ⟨Kr,Kr⟩ ?_|with_reducible refine obG ?_|with_reducible refine Ob.mk ?_ ?_|(with_reducible first|refine brT fun h=>?_|refine brF fun h=>?_|refine Br.mk (fun h=>?_) fun h=>?_)<;>(try simp only[bsl,beq_iff_eq,bne_iff_ne,bs2]at h)<;>(try contradiction)<;>try (exfalso;omega))
 refine op_isnil rfl Tryz.underlying22 rfl rfl (fun b hb=>?_)
 cases b
 .repeat' (first|with_reducible refine Sq.go ?_|((with_reducible refine Ev.mk ?_);conv=>whnf)|with_reducible refine Dr.mk ⟨Kr,Kr⟩ ?_|with_reducible refine obG ?_|with_reducible refine Ob.mk ?_ ?_|(with_reducible first|refine brT fun h=>?_|refine brF fun h=>?_|refine Br.mk (fun h=>?_) fun h=>?_)<;>(try simp only[bsl,beq_iff_eq,bne_iff_ne,bs2]at h)<;>(try contradiction)<;>try (exfalso;omega))
  refine⟨(),Tt,?_,rfl⟩
  repeat' (first|exact Tt|exact rfl|exact Nat.le_refl _|refine And.intro ?_ ?_)
  .show AV.osl (.loc 0) (0+1) 0 (0+q.length)=AV.osl (.loc 0) 1 0 q.length
   rw[Nat.zero_add q.length]
  .show q.length<=0+q.length
   omega
  all_goals first
   | (show 0 + q.length=q.length
      omega)
   | (show 0 + q.length≤q.length
      omega)
   | (show q.length=0 + q.length
      omega)
   | (intro j hj
      refine⟨?_,rfl⟩
      rw[joinF,show j.blt 0=false from rfl]
      rfl)
 .have h0:q=[]:=List.eq_nil_of_length_eq_zero (hb rfl)
  subst h0
  repeat' (first|((with_reducible refine Ev.mk ?_);conv=>whnf)|with_reducible refine Dr.mk ⟨Kr,Kr⟩ ?_|with_reducible refine obG ?_|with_reducible refine Ob.mk ?_ ?_|(with_reducible first|refine brT fun h=>?_|refine brF fun h=>?_|refine Br.mk (fun h=>?_) fun h=>?_)<;>(try simp only[bsl,beq_iff_eq,bne_iff_ne,bs2]at h)<;>(try contradiction)<;>try (exfalso;omega))
  refine Sq.go ?_
  repeat' (first|((with_reducible refine Ev.mk ?_);conv=>whnf)|with_reducible refine Dr.mk ⟨Kr,Kr⟩ ?_|with_reducible refine obG ?_|with_reducible refine Ob.mk ?_ ?_|(with_reducible first|refine brT fun h=>?_|refine brF fun h=>?_|refine Br.mk (fun h=>?_) fun h=>?_)<;>(try simp only[bsl,beq_iff_eq,bne_iff_ne,bs2]at h)<;>(try contradiction)<;>try (exfalso;omega))
  refine Sq.alt (Awp.vecG 2 68 16 1 (rowsOf eCrs []) rfl (vc_ok hT _ _ _ _ (Ev.o ?_)))
  repeat' (first|with_reducible refine Sq.go ?_|((with_reducible refine Ev.mk ?_);conv=>whnf)|with_reducible refine Dr.mk ⟨Kr,Kr⟩ ?_|with_reducible refine obG ?_|with_reducible refine Ob.mk ?_ ?_|(with_reducible first|refine brT fun h=>?_|refine brF fun h=>?_|refine Br.mk (fun h=>?_) fun h=>?_)<;>(try simp only[bsl,beq_iff_eq,bne_iff_ne,bs2]at h)<;>(try contradiction)<;>try (exfalso;omega))
  refine⟨(),Tt,?_,rfl⟩
  repeat' (first|exact Tt|exact rfl|exact Nat.le_refl _|refine And.intro ?_ ?_)
  all_goals (intro j hj;exact absurd hj (Nat.not_lt_zero j))
theorem clonePai_ok (q:List Pai)(hq:q.length<=1000000):CallVC Tryz.prog 66 [.d (ePais q)] ⟨[],[]⟩
 (Ret (fun _:Unit=>([.osl (.loc 0) 1 0 q.length],⟨[some (.vec 131 4 1 q.length (rowsOf ePai q))],[]⟩)) fun _=>True):=by
 refine call_rule hT (T:=tab) (N:=8) (rs:=[.tmp 2]) _ _ Tryz.func66 rfl rfl rfl Kr rfl ?_
 repeat' (first|with_reducible refine Sq.go ?_|((with_reducible refine Ev.mk ?_);conv=>whnf)|with_reducible refine Dr.mk ⟨Kr,Kr⟩ ?_|with_reducible refine obG ?_|with_reducible refine Ob.mk ?_ ?_|(with_reducible first|refine brT fun h=>?_|refine brF fun h=>?_|refine Br.mk (fun h=>?_) fun h=>?_)<;>(try simp only[bsl,beq_iff_eq,bne_iff_ne,bs2]at h)<;>(try contradiction)<;>try (exfalso;omega))
 refine op_isnil rfl Tryz.underlying27 rfl rfl (fun b hb=>?_)
 cases b
 .repeat' (first|with_reducible refine Sq.go ?_|((with_reducible refine Ev.mk ?_);conv=>whnf)|with_reducible refine Dr.mk ⟨Kr,Kr⟩ ?_|with_reducible refine obG ?_|with_reducible refine Ob.mk ?_ ?_|(with_reducible first|refine brT fun h=>?_|refine brF fun h=>?_|refine Br.mk (fun h=>?_) fun h=>?_)<;>(try simp only[bsl,beq_iff_eq,bne_iff_ne,bs2]at h)<;>(try contradiction)<;>try (exfalso;omega))
  refine⟨(),Tt,?_,rfl⟩
  repeat' (first|exact Tt|exact rfl|exact Nat.le_refl _|refine And.intro ?_ ?_)
  .show AV.osl (.loc 0) (0+1) 0 (0+q.length)=AV.osl (.loc 0) 1 0 q.length
   rw[Nat.zero_add q.length]
  .show q.length<=0+q.length
   omega
  all_goals first
   | (show 0 + q.length=q.length
      omega)
   | (show 0 + q.length≤q.length
      omega)
   | (show q.length=0 + q.length
      omega)
   | (intro j hj
      refine⟨?_,rfl⟩
      rw[joinF,show j.blt 0=false from rfl]
      rfl)
 .have h0:q=[]:=List.eq_nil_of_length_eq_zero (hb rfl)
  subst h0
  repeat' (first|((with_reducible refine Ev.mk ?_);conv=>whnf)|with_reducible refine Dr.mk ⟨Kr,Kr⟩ ?_|with_reducible refine obG ?_|with_reducible refine Ob.mk ?_ ?_|(with_reducible first|refine brT fun h=>?_|refine brF fun h=>?_|refine Br.mk (fun h=>?_) fun h=>?_)<;>(try simp only[bsl,beq_iff_eq,bne_iff_ne,bs2]at h)<;>(try contradiction)<;>try (exfalso;omega))
  refine Sq.go ?_
  repeat' (first|((with_reducible refine Ev.mk ?_);conv=>whnf)|with_reducible refine Dr.mk ⟨Kr,Kr⟩ ?_|with_reducible refine obG ?_|with_reducible refine Ob.mk ?_ ?_|(with_reducible first|refine brT fun h=>?_|refine brF fun h=>?_|refine Br.mk (fun h=>?_) fun h=>?_)<;>(try simp only[bsl,beq_iff_eq,bne_iff_ne,bs2]at h)<;>(try contradiction)<;>try (exfalso;omega))
  refine Sq.alt (Awp.vecG 2 131 4 1 (rowsOf ePai []) rfl (vc_ok hT _ _ _ _ (Ev.o ?_)))
  repeat' (first|with_reducible refine Sq.go ?_|((with_reducible refine Ev.mk ?_);conv=>whnf)|with_reducible refine Dr.mk ⟨Kr,Kr⟩ ?_|with_reducible refine obG ?_|with_reducible refine Ob.mk ?_ ?_|(with_reducible first|refine brT fun h=>?_|refine brF fun h=>?_|refine Br.mk (fun h=>?_) fun h=>?_)<;>(try simp only[bsl,beq_iff_eq,bne_iff_ne,bs2]at h)<;>(try contradiction)<;>try (exfalso;omega))
  refine⟨(),Tt,?_,rfl⟩
  repeat' (first|exact Tt|exact rfl|exact Nat.le_refl _|refine And.intro ?_ ?_)
  all_goals (intro j hj;exact absurd hj (Nat.not_lt_zero j))
theorem clonePrg_ok (q:List Prg)(hq:q.length<=1000000):CallVC Tryz.prog 67 [.d (ePrgs q)] ⟨[],[]⟩
 (Ret (fun _:Unit=>([.osl (.loc 0) 1 0 q.length],⟨[some (.vec 78 7 1 q.length (rowsOf ePrg q))],[]⟩)) fun _=>True):=by
 refine call_rule hT (T:=tab) (N:=8) (rs:=[.tmp 2]) _ _ Tryz.func67 rfl rfl rfl Kr rfl ?_
 repeat' (first|with_reducible refine Sq.go ?_|((with_reducible refine Ev.mk ?_);conv=>whnf)|with_reducible refine Dr.mk ⟨Kr,Kr⟩ ?_|with_reducible refine obG ?_|with_reducible refine Ob.mk ?_ ?_|(with_reducible first|refine brT fun h=>?_|refine brF fun h=>?_|refine Br.mk (fun h=>?_) fun h=>?_)<;>(try simp only[bsl,beq_iff_eq,bne_iff_ne,bs2]at h)<;>(try contradiction)<;>try (exfalso;omega))
 refine op_isnil rfl Tryz.underlying23 rfl rfl (fun b hb=>?_)
 cases b
 .repeat' (first|with_reducible refine Sq.go ?_|((with_reducible refine Ev.mk ?_);conv=>whnf)|with_reducible refine Dr.mk ⟨Kr,Kr⟩ ?_|with_reducible refine obG ?_|with_reducible refine Ob.mk ?_ ?_|(with_reducible first|refine brT fun h=>?_|refine brF fun h=>?_|refine Br.mk (fun h=>?_) fun h=>?_)<;>(try simp only[bsl,beq_iff_eq,bne_iff_ne,bs2]at h)<;>(try contradiction)<;>try (exfalso;omega))
  refine⟨(),Tt,?_,rfl⟩
  repeat' (first|exact Tt|exact rfl|exact Nat.le_refl _|refine And.intro ?_ ?_)
  .show AV.osl (.loc 0) (0+1) 0 (0+q.length)=AV.osl (.loc 0) 1 0 q.length
   rw[Nat.zero_add q.length]
  .show q.length<=0+q.length
   omega
  all_goals first
   | (show 0 + q.length=q.length
      omega)
   | (show 0 + q.length≤q.length
      omega)
   | (show q.length=0 + q.length
      omega)
   | (intro j hj
      refine⟨?_,rfl⟩
      rw[joinF,show j.blt 0=false from rfl]
      rfl)
 .have h0:q=[]:=List.eq_nil_of_length_eq_zero (hb rfl)
  subst h0
  repeat' (first|((with_reducible refine Ev.mk ?_);conv=>whnf)|with_reducible refine Dr.mk ⟨Kr,Kr⟩ ?_|with_reducible refine obG ?_|with_reducible refine Ob.mk ?_ ?_|(with_reducible first|refine brT fun h=>?_|refine brF fun h=>?_|refine Br.mk (fun h=>?_) fun h=>?_)<;>(try simp only[bsl,beq_iff_eq,bne_iff_ne,bs2]at h)<;>(try contradiction)<;>try (exfalso;omega))
  refine Sq.go ?_
  repeat' (first|((with_reducible refine Ev.mk ?_);conv=>whnf)|with_reducible refine Dr.mk ⟨Kr,Kr⟩ ?_|with_reducible refine obG ?_|with_reducible refine Ob.mk ?_ ?_|(with_reducible first|refine brT fun h=>?_|refine brF fun h=>?_|refine Br.mk (fun h=>?_) fun h=>?_)<;>(try simp only[bsl,beq_iff_eq,bne_iff_ne,bs2]at h)<;>(try contradiction)<;>try (exfalso;omega))
  refine Sq.alt (Awp.vecG 2 78 7 1 (rowsOf ePrg []) rfl (vc_ok hT _ _ _ _ (Ev.o ?_)))
  repeat' (first|with_reducible refine Sq.go ?_|((with_reducible refine Ev.mk ?_);conv=>whnf)|with_reducible refine Dr.mk ⟨Kr,Kr⟩ ?_|with_reducible refine obG ?_|with_reducible refine Ob.mk ?_ ?_|(with_reducible first|refine brT fun h=>?_|refine brF fun h=>?_|refine Br.mk (fun h=>?_) fun h=>?_)<;>(try simp only[bsl,beq_iff_eq,bne_iff_ne,bs2]at h)<;>(try contradiction)<;>try (exfalso;omega))
  refine⟨(),Tt,?_,rfl⟩
  repeat' (first|exact Tt|exact rfl|exact Nat.le_refl _|refine And.intro ?_ ?_)
  all_goals (intro j hj;exact absurd hj (Nat.not_lt_zero j))
theorem cloneReq_ok (q:List Req)(hq:q.length<=1000000):CallVC Tryz.prog 70 [.d (eReqs q)] ⟨[],[]⟩
 (Ret (fun _:Unit=>([.osl (.loc 0) 1 0 q.length],⟨[some (.vec 106 6 1 q.length (rowsOf eReq q))],[]⟩)) fun _=>True):=by
 refine call_rule hT (T:=tab) (N:=8) (rs:=[.tmp 2]) _ _ Tryz.func70 rfl rfl rfl Kr rfl ?_
 repeat' (first|with_reducible refine Sq.go ?_|((with_reducible refine Ev.mk ?_);conv=>whnf)|with_reducible refine Dr.mk ⟨Kr,Kr⟩ ?_|with_reducible refine obG ?_|with_reducible refine Ob.mk ?_ ?_|(with_reducible first|refine brT fun h=>?_|refine brF fun h=>?_|refine Br.mk (fun h=>?_) fun h=>?_)<;>(try simp only[bsl,beq_iff_eq,bne_iff_ne,bs2]at h)<;>(try contradiction)<;>try (exfalso;omega))
 refine op_isnil rfl Tryz.underlying76 rfl rfl (fun b hb=>?_)
 cases b
 .repeat' (first|with_reducible refine Sq.go ?_|((with_reducible refine Ev.mk ?_);conv=>whnf)|with_reducible refine Dr.mk ⟨Kr,Kr⟩ ?_|with_reducible refine obG ?_|with_reducible refine Ob.mk ?_ ?_|(with_reducible first|refine brT fun h=>?_|refine brF fun h=>?_|refine Br.mk (fun h=>?_) fun h=>?_)<;>(try simp only[bsl,beq_iff_eq,bne_iff_ne,bs2]at h)<;>(try contradiction)<;>try (exfalso;omega))
  refine⟨(),Tt,?_,rfl⟩
  repeat' (first|exact Tt|exact rfl|exact Nat.le_refl _|refine And.intro ?_ ?_)
  .show AV.osl (.loc 0) (0+1) 0 (0+q.length)=AV.osl (.loc 0) 1 0 q.length
   rw[Nat.zero_add q.length]
  .show q.length<=0+q.length
   omega
  all_goals first
   | (show 0 + q.length=q.length
      omega)
   | (show 0 + q.length≤q.length
      omega)
   | (show q.length=0 + q.length
      omega)
   | (intro j hj
      refine⟨?_,rfl⟩
      rw[joinF,show j.blt 0=false from rfl]
      rfl)
 .have h0:q=[]:=List.eq_nil_of_length_eq_zero (hb rfl)
  subst h0
  repeat' (first|((with_reducible refine Ev.mk ?_);conv=>whnf)|with_reducible refine Dr.mk ⟨Kr,Kr⟩ ?_|with_reducible refine obG ?_|with_reducible refine Ob.mk ?_ ?_|(with_reducible first|refine brT fun h=>?_|refine brF fun h=>?_|refine Br.mk (fun h=>?_) fun h=>?_)<;>(try simp only[bsl,beq_iff_eq,bne_iff_ne,bs2]at h)<;>(try contradiction)<;>try (exfalso;omega))
  refine Sq.go ?_
  repeat' (first|((with_reducible refine Ev.mk ?_);conv=>whnf)|with_reducible refine Dr.mk ⟨Kr,Kr⟩ ?_|with_reducible refine obG ?_|with_reducible refine Ob.mk ?_ ?_|(with_reducible first|refine brT fun h=>?_|refine brF fun h=>?_|refine Br.mk (fun h=>?_) fun h=>?_)<;>(try simp only[bsl,beq_iff_eq,bne_iff_ne,bs2]at h)<;>(try contradiction)<;>try (exfalso;omega))
  refine Sq.alt (Awp.vecG 2 106 6 1 (rowsOf eReq []) rfl (vc_ok hT _ _ _ _ (Ev.o ?_)))
  repeat' (first|with_reducible refine Sq.go ?_|((with_reducible refine Ev.mk ?_);conv=>whnf)|with_reducible refine Dr.mk ⟨Kr,Kr⟩ ?_|with_reducible refine obG ?_|with_reducible refine Ob.mk ?_ ?_|(with_reducible first|refine brT fun h=>?_|refine brF fun h=>?_|refine Br.mk (fun h=>?_) fun h=>?_)<;>(try simp only[bsl,beq_iff_eq,bne_iff_ne,bs2]at h)<;>(try contradiction)<;>try (exfalso;omega))
  refine⟨(),Tt,?_,rfl⟩
  repeat' (first|exact Tt|exact rfl|exact Nat.le_refl _|refine And.intro ?_ ?_)
  all_goals (intro j hj;exact absurd hj (Nat.not_lt_zero j))
theorem cloneSys_ok (q:List Sys)(hq:q.length<=1000000):CallVC Tryz.prog 80 [.d (eSyss q)] ⟨[],[]⟩
 (Ret (fun _:Unit=>([.osl (.loc 0) 1 0 q.length],⟨[some (.vec 83 4 1 q.length (rowsOf eSys q))],[]⟩)) fun _=>True):=by
 refine call_rule hT (T:=tab) (N:=8) (rs:=[.tmp 2]) _ _ Tryz.func80 rfl rfl rfl Kr rfl ?_
 repeat' (first|with_reducible refine Sq.go ?_|((with_reducible refine Ev.mk ?_);conv=>whnf)|with_reducible refine Dr.mk ⟨Kr,Kr⟩ ?_|with_reducible refine obG ?_|with_reducible refine Ob.mk ?_ ?_|(with_reducible first|refine brT fun h=>?_|refine brF fun h=>?_|refine Br.mk (fun h=>?_) fun h=>?_)<;>(try simp only[bsl,beq_iff_eq,bne_iff_ne,bs2]at h)<;>(try contradiction)<;>try (exfalso;omega))
 refine op_isnil rfl Tryz.underlying24 rfl rfl (fun b hb=>?_)
 cases b
 .repeat' (first|with_reducible refine Sq.go ?_|((with_reducible refine Ev.mk ?_);conv=>whnf)|with_reducible refine Dr.mk ⟨Kr,Kr⟩ ?_|with_reducible refine obG ?_|with_reducible refine Ob.mk ?_ ?_|(with_reducible first|refine brT fun h=>?_|refine brF fun h=>?_|refine Br.mk (fun h=>?_) fun h=>?_)<;>(try simp only[bsl,beq_iff_eq,bne_iff_ne,bs2]at h)<;>(try contradiction)<;>try (exfalso;omega))
  refine⟨(),Tt,?_,rfl⟩
  repeat' (first|exact Tt|exact rfl|exact Nat.le_refl _|refine And.intro ?_ ?_)
  .show AV.osl (.loc 0) (0+1) 0 (0+q.length)=AV.osl (.loc 0) 1 0 q.length
   rw[Nat.zero_add q.length]
  .show q.length<=0+q.length
   omega
  all_goals first
   | (show 0 + q.length=q.length
      omega)
   | (show 0 + q.length≤q.length
      omega)
   | (show q.length=0 + q.length
      omega)
   | (intro j hj
      refine⟨?_,rfl⟩
      rw[joinF,show j.blt 0=false from rfl]
      rfl)
 .have h0:q=[]:=List.eq_nil_of_length_eq_zero (hb rfl)
  subst h0
  repeat' (first|((with_reducible refine Ev.mk ?_);conv=>whnf)|with_reducible refine Dr.mk ⟨Kr,Kr⟩ ?_|with_reducible refine obG ?_|with_reducible refine Ob.mk ?_ ?_|(with_reducible first|refine brT fun h=>?_|refine brF fun h=>?_|refine Br.mk (fun h=>?_) fun h=>?_)<;>(try simp only[bsl,beq_iff_eq,bne_iff_ne,bs2]at h)<;>(try contradiction)<;>try (exfalso;omega))
  refine Sq.go ?_
  repeat' (first|((with_reducible refine Ev.mk ?_);conv=>whnf)|with_reducible refine Dr.mk ⟨Kr,Kr⟩ ?_|with_reducible refine obG ?_|with_reducible refine Ob.mk ?_ ?_|(with_reducible first|refine brT fun h=>?_|refine brF fun h=>?_|refine Br.mk (fun h=>?_) fun h=>?_)<;>(try simp only[bsl,beq_iff_eq,bne_iff_ne,bs2]at h)<;>(try contradiction)<;>try (exfalso;omega))
  refine Sq.alt (Awp.vecG 2 83 4 1 (rowsOf eSys []) rfl (vc_ok hT _ _ _ _ (Ev.o ?_)))
  repeat' (first|with_reducible refine Sq.go ?_|((with_reducible refine Ev.mk ?_);conv=>whnf)|with_reducible refine Dr.mk ⟨Kr,Kr⟩ ?_|with_reducible refine obG ?_|with_reducible refine Ob.mk ?_ ?_|(with_reducible first|refine brT fun h=>?_|refine brF fun h=>?_|refine Br.mk (fun h=>?_) fun h=>?_)<;>(try simp only[bsl,beq_iff_eq,bne_iff_ne,bs2]at h)<;>(try contradiction)<;>try (exfalso;omega))
  refine⟨(),Tt,?_,rfl⟩
  repeat' (first|exact Tt|exact rfl|exact Nat.le_refl _|refine And.intro ?_ ?_)
  all_goals (intro j hj;exact absurd hj (Nat.not_lt_zero j))
def mixL {α:Type}(f:α->α)(l:List α)(k:Nat):List α:=(l.take k).map f++l.drop k
theorem mixL_len {α:Type}(f:α->α)(l:List α)(k:Nat):(mixL f l k).length=l.length:=by
 rw[mixL,List.length_append,List.length_map,List.length_take,List.length_drop]
 omega
theorem mixL_zero {α:Type}(f:α->α)(l:List α):mixL f l 0=l:=by simp[mixL]
theorem mixL_all {α:Type}(f:α->α)(l:List α):mixL f l l.length=l.map f:=by simp[mixL]
theorem mixL_get {α:Type}[Inhabited α](f:α->α){l:List α}{k j:Nat}(hj:j<l.length):(mixL f l k).getD j default=if j<k then f (l.getD j default) else l.getD j default:=by
 simp only[mixL,List.getD_eq_getElem?_getD]
 by_cases h:j<k
 .rw[if_pos h,List.getElem?_append_left (by rw[List.length_map,List.length_take];omega),List.getElem?_map,List.getElem?_take,if_pos h,List.getElem?_eq_getElem hj]
  rfl
 .rw[if_neg h]
  by_cases hk:k<=l.length
  .rw[List.getElem?_append_right (by rw[List.length_map,List.length_take];omega),List.getElem?_drop,List.length_map,List.length_take]
   congr 2
   omega
  .omega
theorem mixL_at {α:Type}[Inhabited α](f:α->α){l:List α}{k:Nat}(hk:k<l.length):(mixL f l k).getD k default=l.getD k default:=by rw[mixL_get f hk,if_neg (Nat.lt_irrefl k)]
theorem mixL_set {α:Type}[Inhabited α](f:α->α)(enc:α->List D){l:List α}{k:Nat}(y:List AV)(hy:y=up (enc (f (l.getD k default)))){j:Nat}(hj:j<l.length):(bif Nat.beq j k then y else rowsOf enc (mixL f l k) j)=rowsOf enc (mixL f l (k+1)) j:=by
 unfold rowsOf
 rw[mixL_get f hj,mixL_get f hj]
 cases hb:Nat.beq j k with
 | true =>
   have:=Nat.eq_of_beq_eq_true hb
   subst this
   rw[cond_true,if_pos (Nat.lt_succ_self _),hy]
 | false =>
   have:=Nat.ne_of_beq_eq_false hb
   rw[cond_false]
   by_cases h:j<k
   .rw[if_pos h,if_pos Om]
   .rw[if_neg h,if_neg Om]
theorem rowsOf_snoc {α:Type}[Inhabited α](enc:α->List D)(xs:List α)(x:α){n:Nat}(hn:n=xs.length)(i:Nat)(hi:i<n+1):joinF n (rowsOf enc xs) (rowFn [up (enc x)]) i=rowsOf enc (xs++[x]) i:=by
 subst hn
 exact join_snoc enc xs x _ rfl i (by rw[len_snoc];exact hi)
def rowZ (xs:List Int):Nat->List AV:=fun i=>[.d (.int .i64 (xs.getD i default))]
theorem rowZ_snoc (xs:List Int)(x:Int){n:Nat}(hn:n=xs.length)(i:Nat)(hi:i<n+1):joinF n (rowZ xs) (rowFn [[.d (.int .i64 x)]]) i=rowZ (xs++[x]) i:=rowsOf_snoc (fun n:Int=>[D.int .i64 n]) xs x hn i hi
def keysC (l:List Crs):List (List Int):=(numsC l).map fun n=>[n]
theorem keysC_len (l:List Crs):(keysC l).length=l.length:=by rw[keysC,numsC,List.length_map,List.length_map]
theorem keysC_at {l:List Crs}{k:Nat}(hk:k<l.length):(keysC l).getD k default=[(l.getD k default).number]:=by
 simp only[keysC,numsC,List.getD_eq_getElem?_getD,List.getElem?_map,List.getElem?_eq_getElem hk,Option.map_some,Option.getD_some]
theorem numbersC_ok (l:List Crs)(hl:l.length<=1000000):CallVC Tryz.prog 81 [.d (eCrss l)] ⟨[],[]⟩
 (Ret (fun _:Unit=>([.mp (.loc 0)],⟨[some (.map (.one .i64) (hasU (keysC l) l.length) fun _=>.d (.bool true))],[]⟩)) fun _=>True):=by
 refine call_rule hT (T:=tab) (N:=18) (rs:=[.tmp 2]) _ _ Tryz.func81 rfl rfl rfl Kr rfl ?_
 (refine gW ?_;intros)
 refine loop_rule hT (S:=Nat) (fun k=>([(3,.mp (.loc 0)),(7,.d (eCrss l)),(8,dV l.length),(9,dV k)],⟨[some (.map (.one .i64) (hasU (keysC l) k) fun _=>.d (.bool true))],[]⟩)) (fun k=>k<=l.length) (fun k=>l.length-k) 0 ?_ ?_ ?_
 .repeat' (first|exact Tt|exact rfl|exact Nat.le_refl _|refine And.intro ?_ ?_)
  all_goals first
   |(intro key hf;exact⟨by simp[hasU],fun h=>(by cases h)⟩)
 .exact Nat.zero_le _
 .intro k hk
  dsimp only at hk⊢
  by_cases hk2:k<l.length
  ·(refine gW ?_;intros)
   refine⟨k+1,by show k+1<=l.length;omega,by show l.length-(k+1)<l.length-k;omega,?_⟩
   repeat' (first|exact Tt|exact rfl|exact Nat.le_refl _|refine And.intro ?_ ?_)
   intro key hf
   refine⟨?_,fun _=>⟨?_,rfl⟩⟩
   .have e:=hasU_succ (ks:=keysC l) (k:=k) (by rw[keysC_len];exact hk2) key
    rw[keysC_at hk2]at e
    exact e
   .show(bif decide (key=[(l.getD k default).number]) then AV.d (.bool true) else AV.d (.bool true))=_
    cases decide (key=[(l.getD k default).number])<;>rfl
  .obtain rfl:k=l.length:=by omega
   (refine gW ?_;intros)
   refine⟨(),Tt,?_,rfl⟩
   repeat' (first|exact Tt|exact rfl|exact Nat.le_refl _|refine And.intro ?_ ?_)
   intro key hf
   exact⟨rfl,fun _=>⟨rfl,rfl⟩⟩
theorem rowsOf_join {α:Type}[Inhabited α](enc:α->List D)(xs:List α)(x:α){n:Nat}(hn:n=xs.length)(i:Nat)(hi:i<n+1):joinF n (rowsOf enc xs) (rowFn [up (enc x)]) i=rowsOf enc (xs++[x]) i:=by
 subst hn
 exact join_snoc enc xs x _ rfl i (by rw[len_snoc];exact hi)
def insM (fr til kn:Int)(g:Nat)(fs:List Fct):Mem:=⟨[],[bX 144 [dV fr,dV til,dV kn,.osl (.arg 1) g 0 fs.length],bV 94 8 g fs.length (rowsOf eFct fs)]⟩
theorem add_ok (fr til kn:Int)(g:Nat)(fs:List Fct)(hl:fs.length<=1000000)(kd sub obj val:Int) :
 CallVC Tryz.prog 77 [ap 0,dV kd,dV sub,dV obj,dV val] (insM fr til kn g fs)
  (Ret (fun _:Unit=>([],insM fr til kn (g+1) (fs++[⟨kd,sub,obj,val,fr,til,kn,fs.length⟩]))) fun _=>True):=by
 unfold insM
 refine call_rule hT (T:=tab) (N:=40) (rs:=[]) _ _ Tryz.func77 rfl rfl rfl Kr rfl ?_
 (refine gS ?_;intros)
 refine Sq.alt (Awp.effsC (m:=⟨[bX 90 (up [di kd,di sub,di obj])],[bX 144 [dV fr,dV til,dV kn,.osl (.arg 1) g 0 fs.length],bV 94 8 g fs.length (rowsOf eFct fs)]⟩) hT Kr Kr Kr
  ⟨[bX 90 (up [di kd,di sub,di obj])],[bX 144 [dV fr,dV til,dV kn,.osl (.arg 1) g 0 fs.length],some .opq]⟩ 1 2
  [⟨19,.d (.int .i64 fs.length),⟨[some (.box 90 (up [.int .i64 kd,.int .i64 sub,.int .i64 obj]))],[some (.box 144 [.d (.int .i64 fr),.d (.int .i64 til),.d (.int .i64 kn),.osl (.arg 1) g 0 fs.length]),some (.vec 94 8 g fs.length (rowsOf eFct fs))]⟩,[]⟩,
   ⟨22,.osl (.arg 1) (g+1) 0 (fs.length+1),⟨[bX 90 (up [di kd,di sub,di obj])],[bX 144 [dV fr,dV til,dV kn,.osl (.arg 1) g 0 fs.length],bV 94 8 (g+1) (fs.length+1) (joinF fs.length (rowsOf eFct fs) (rowFn [up (eFct ⟨kd,sub,obj,val,fr,til,kn,fs.length⟩)]))]⟩,[21,20,19]⟩,
   ⟨25,.junk,⟨[bX 90 (up [di kd,di sub,di obj])],[bX 144 [dV fr,dV til,dV kn,.osl (.arg 1) (g+1) 0 (fs.length+1)],bV 94 8 (g+1) (fs.length+1) (joinF fs.length (rowsOf eFct fs) (rowFn [up (eFct ⟨kd,sub,obj,val,fr,til,kn,fs.length⟩)]))]⟩,[22]⟩]
  Kr rfl rfl (WeakF.of ⟨.inl rfl,Tt⟩ ⟨.inl rfl,.inr ⟨_,rfl,WeakB.opq⟩,Tt⟩) true (fun _=>by kernel_rfl)
  ⟨(WeakF.of ⟨.inl rfl,Tt⟩ ⟨.inl rfl,.inr ⟨_,rfl,WeakB.opq⟩,Tt⟩),(WeakF.of ⟨.inl rfl,Tt⟩ ⟨.inl rfl,.inr ⟨_,rfl,WeakB.opq⟩,Tt⟩),.inl rfl⟩ ?_)
 conv=>whnf
 refine⟨?_,?_,?_,?_⟩
 .conv=>whnf
  (refine gS ?_;intros)
  exact⟨rfl,rfl⟩
 .conv=>whnf
  (refine gS ?_;intros)
  exact⟨rfl,rfl⟩
 .conv=>whnf
  (refine gS ?_;intros)
  exact⟨Tt,rfl⟩
 conv=>whnf
 (refine gS ?_;intros)
 refine⟨(),Tt,?_,rfl⟩
 repeat' (first|exact Tt|exact rfl|exact Nat.le_refl _|refine And.intro ?_ ?_)
 all_goals first
  | (intro j hj
     refine⟨?_,rfl⟩
     exact rowsOf_join eFct fs _ rfl j (by rw[len_snoc]at hj;exact hj))
  | (show AV.osl _ _ _ _=AV.osl _ _ _ _
     rw[len_snoc]
     done)
  | (rw [len_snoc]
     done)
  | (rw [len_snoc]
     exact Nat.le_refl _)
  |(rw[len_snoc];exact⟨rfl,rfl⟩)
structure Cat where
 crs:List Crs
 same:List Pai
 prg:List Prg
 classes:List Cls
 fees:List Fee
 honours:List Cls
 clauses:List Cla
 deriving Inhabited
def eCat (c:Cat):List D:=[eCrss c.crs,ePais c.same,ePrgs c.prg,eClss c.classes,eFees c.fees,eClss c.honours,eClas c.clauses]
def wsum (c:Cat):Int:=IntKind.i64.wrap (IntKind.i64.wrap (IntKind.i64.wrap ((c.classes.length:Int)+(c.fees.length:Int))+(c.honours.length:Int))+(c.clauses.length:Int))
def sysB (c:Cat):Bool:=decide (0<wsum c)
def dst:List Int->List Int
 |[]=>[]
 |x::r=>if x∈r then dst r else x::dst r
theorem dst_mem {x:Int}:∀{l:List Int},x∈dst l↔x∈l
 |[]=>Iff.rfl
 | y :: r=>by
   rw[dst]
   by_cases h:y∈r
   .rw[if_pos h,dst_mem,List.mem_cons]
    exact⟨.inr,fun h1=>h1.elim (fun e=>by rw[e];exact h) id⟩
   .rw[if_neg h,List.mem_cons,List.mem_cons,dst_mem]
theorem dst_nodup:∀l:List Int,(dst l).Nodup
 |[]=>List.nodup_nil
 | y :: r=>by
   rw[dst]
   by_cases h:y∈r
   .rw[if_pos h]
    exact dst_nodup r
   .rw[if_neg h]
    exact List.nodup_cons.2 ⟨fun h1=>h (dst_mem.1 h1),dst_nodup r⟩
def numN (l:List Crs):Nat:=(dst (numsC l)).length
theorem num_len {l:List Crs}{qs:List (List Int)}(q1:qs.Nodup)(q2:∀k∈qs,(Ksh.one .i64).fits k/\hasU (keysC l) l.length k=true)(q3:∀k,(Ksh.one .i64).fits k->hasU (keysC l) l.length k=true->k∈qs):qs.length=numN l:=by
 have e:((dst (numsC l)).map fun n=>[n]).length=numN l:=List.length_map ..
 rw[<-e]
 have hm:∀key,key∈keysC l↔key∈(dst (numsC l)).map fun n=>[n]:=fun key=>by
  rw[keysC,List.mem_map,List.mem_map]
  exact⟨fun⟨a,h,e⟩=>⟨a,dst_mem.2 h,e⟩,fun⟨a,h,e⟩=>⟨a,dst_mem.1 h,e⟩⟩
 refine len_of_both q1 (nodup_map_inj (f:=fun n:Int=>[n]) (fun a b h=>by injection h) (dst_nodup _)) fun key=>⟨fun h=>?_,fun h=>?_⟩
 .have:=(q2 key h).2
  unfold hasU at this
  rw[List.take_of_length_le (by rw[keysC_len];exact Nat.le_refl _)]at this
  exact(hm key).1 (of_decide_eq_true this)
 .have h:=(hm key).2 h
  refine q3 key ?_ ?_
  .obtain⟨n,_,rfl⟩:=List.mem_map.1 h
   rfl
  .unfold hasU
   rw[List.take_of_length_le (by rw[keysC_len];exact Nat.le_refl _)]
   exact decide_eq_true h
def addF (fr til kn:Int)(fs:List Fct)(q:Int × Int × Int × Int):List Fct:=fs++[⟨q.1,q.2.1,q.2.2.1,q.2.2.2,fr,til,kn,fs.length⟩]
theorem addF_len (fr til kn:Int)(fs:List Fct)(q:Int × Int × Int × Int):(addF fr til kn fs q).length=fs.length+1:=by rw[addF,List.length_append];rfl
def addFs (fr til kn:Int)(fs:List Fct)(qs:List (Int × Int × Int × Int)):List Fct:=qs.foldl (addF fr til kn) fs
theorem addFs_len (fr til kn:Int):∀(qs:List (Int × Int × Int × Int)) (fs:List Fct),(addFs fr til kn fs qs).length=fs.length+qs.length
 |[],fs=>rfl
 | q :: r,fs=>by
   show(addFs fr til kn (addF fr til kn fs q) r).length=_
   rw[addFs_len fr til kn r,addF_len,List.length_cons]
   omega
theorem addFs_app (fr til kn:Int)(fs:List Fct)(a b:List (Int × Int × Int × Int)):addFs fr til kn fs (a++b)=addFs fr til kn (addFs fr til kn fs a) b:=List.foldl_append
theorem addFs_snoc (fr til kn:Int)(fs:List Fct)(a:List (Int × Int × Int × Int))(q:Int × Int × Int × Int):addFs fr til kn fs (a++[q])=addF fr til kn (addFs fr til kn fs a) q:=by
 rw[addFs_app]
 rfl
def defK (kd:Int)(off:Nat){α:Type}[Inhabited α](f:α->Int)(l:List α):Nat->List (Int × Int × Int × Int)
 |0=>[]
 |k+1=>defK kd off f l k++[(kd,f (l.getD k default),0,((off:Nat):Int)+(k:Int))]
theorem defK_len (kd:Int)(off:Nat){α:Type}[Inhabited α](f:α->Int)(l:List α):∀k,(defK kd off f l k).length=k
 |0=>rfl
 |k+1=>by rw[defK,List.length_append,defK_len];rfl
def samK (l:List Pai):Nat->List (Int × Int × Int × Int)
 |0=>[]
 |k+1=>samK l k++[(2,min (l.getD k default).x (l.getD k default).y,max (l.getD k default).x (l.getD k default).y,1)]
theorem samK_len (l:List Pai):∀k,(samK l k).length=k
 |0=>rfl
 |k+1=>by rw[samK,List.length_append,samK_len];rfl
def sysC (c:Cat):Sys:=⟨c.classes,c.fees,c.honours,c.clauses⟩
def insQ (b:Bok)(c:Cat):List (Int × Int × Int × Int):=defK 1 b.crs.length (fun x:Crs=>x.number) c.crs c.crs.length++defK 3 b.prg.length (fun x:Prg=>x.number) c.prg c.prg.length++samK c.same c.same.length
def insS (b:Bok)(c:Cat):List (Int × Int × Int × Int):=if sysB c=true then[(4,0,0,(b.sys.length:Int))] else[]
def insN (b l:List Crs)(kn:Int)(fs:List Fct):List Fct:=if numN b<numN l then addF 0 1024 kn fs (12,0,0,(numN l:Int)) else fs
def insB (b:Bok)(c:Cat):Bok:=⟨b.crs++c.crs,b.prg++c.prg,b.sys++(if sysB c=true then[sysC c] else[])⟩
def insF (b:Bok)(c:Cat)(fr til kn:Int):List Fct:=insN b.crs (b.crs++c.crs) kn (addFs fr til kn [] (insQ b c++insS b c))
def pairB (p:Pai):Bool:=bw p.x 0 4095&&bw p.y 0 4095
def spnOk (fr til kn:Int):Bool:=decide (0<=fr)&&(decide (fr<til)&&(decide (til<=1024)&&bw kn 1 16777216))
def bokZ:Bok:=⟨[],[],[]⟩
def isM (s:ByteArray)(n:Int)(x:Crs):Bool:=if s=.empty then decide (x.number=n) else decide (x.name=s)
def mnt (l:List Crs)(s:ByteArray)(n:Int):Nat:=l.findIdx (isM s n)
def mntZ (l:List Crs)(s:ByteArray)(n:Int):Int:=if mnt l s n<l.length then(mnt l s n:Int) else -1
def numO (l:List Crs)(s:ByteArray)(n:Int):Option Int:=if s=.empty then some n else if mnt l s n<l.length then some (l.getD (mnt l s n) default).number else none
theorem mnt_name {s:ByteArray}(h:s≠.empty)(l:List Crs)(n m:Int):mnt l s n=mnt l s m:=by
 unfold mnt
 congr 1
 funext x
 unfold isM
 rw[if_neg h,if_neg h]
mutual
def resR (l:List Crs):Rule->Rule
 | .mk a b c d e ks=>.mk a (if(decide (a=5)||(decide (a=6)||decide (a=9)))=true then(numO l c b).getD 0 else b) c d e (resRs l ks)
def resRs (l:List Crs):List Rule->List Rule
 |[]=>[]
 |k::ks=>resR l k::resRs l ks
end
mutual
def okN (l:List Crs):Rule->Bool
 | .mk a b c _ _ ks=>(!(decide (a=5)||(decide (a=6)||decide (a=9)))||(numO l c b).isSome)&&okNs l ks
def okNs (l:List Crs):List Rule->Bool
 |[]=>true
 |k::ks=>okN l k&&okNs l ks
end
theorem resRs_map (l:List Crs):∀ks,resRs l ks=ks.map (resR l)
 |[]=>by rw[resRs];rfl
 |k::ks=>by rw[resRs,resRs_map l ks];rfl
theorem okNs_all (l:List Crs):∀ks,okNs l ks=ks.all (okN l)
 |[]=>by rw[okNs];rfl
 |k::ks=>by rw[okNs,okNs_all l ks];rfl
def refN (l:List Crs)(r:Rule):Int:=if namedR r=true then(numO l r.name r.course).getD 0 else r.course
def refOk (l:List Crs)(r:Rule):Bool:=!namedR r||(numO l r.name r.course).isSome
theorem resR_eq (l:List Crs)(r:Rule):resR l r=.mk r.op (refN l r) r.name r.n r.d (r.kids.map (resR l)):=by
 cases r
 rw[resR,resRs_map]
 rfl
theorem okN_eq (l:List Crs)(r:Rule):okN l r=(refOk l r&&r.kids.all (okN l)):=by
 cases r
 rw[okN,okNs_all]
 rfl
def resX (l:List Crs)(x:Crs):Crs:={x with need:=resR l x.need,bar:=resR l x.bar}
def resY (l:List Crs)(p:Pai):Pai:={p with x:=(numO l p.a p.x).getD 0,y:=(numO l p.b p.y).getD 0}
def frL (l:List Crs)(q:Req):List Int:=List.zipWith (fun s n=>(numO l s n).getD 0) q.names q.fr
def resQ (l:List Crs)(q:Req):Req:={q with fr:=frL l q}
def resP (l:List Crs)(p:Prg):Prg:={p with reqs:=p.reqs.map (resQ l)}
def resC (c:Cat):Cat:={c with crs:=c.crs.map (resX c.crs),same:=c.same.map (resY c.crs),prg:=c.prg.map (resP c.crs)}
def lenQ (q:Req):Bool:=decide (q.names.length=q.fr.length)
def lenP (p:Prg):Bool:=p.reqs.all lenQ
def ndQ (p:Prg):Bool:=decide (p.reqs.map fun q=>q.name).Nodup
def okX (l:List Crs)(x:Crs):Bool:=okN l x.need&&okN l x.bar
def okY (l:List Crs)(p:Pai):Bool:=(numO l p.a p.x).isSome&&(numO l p.b p.y).isSome
def okQ (l:List Crs)(q:Req):Bool:=(List.zipWith (fun s n=>(numO l s n).isSome) q.names q.fr).all id
def okP' (l:List Crs)(p:Prg):Bool:=p.reqs.all (okQ l)
def uniC (c:Cat):Bool:=decide (c.crs.map fun x=>x.name).Nodup&&(decide (c.crs.map fun x=>x.number).Nodup&&(decide (c.prg.map fun x=>x.name).Nodup&&(decide (c.prg.map fun x=>x.number).Nodup &&
 (c.prg.all ndQ&&(decide (c.classes.map fun x=>x.name).Nodup&&(decide (c.fees.map fun x=>x.name).Nodup&&decide (c.honours.map fun x=>x.name).Nodup))))))
def namC (c:Cat):Bool:=c.crs.all (okX c.crs)&&(c.same.all (okY c.crs)&&c.prg.all (okP' c.crs))
def ndR (l:List Crs)(p:Nat × Rule):Option Nat:=if p.2.op=5\/p.2.op=6 then(if mnt l p.2.name p.2.course<l.length then some (mnt l p.2.name p.2.course) else none) else none
def nds (l:List Crs)(i:Nat):List Nat:=(preR 1 (l.getD i default).need).filterMap (ndR l)
theorem nds_lt {l:List Crs}{i n:Nat}(h:n∈nds l i):n<l.length:=by
 obtain⟨p,_,hp⟩:=List.mem_filterMap.1 h
 unfold ndR at hp
 split at hp
 .split at hp
  .injection hp with hp
   omega
  .cases hp
 .cases hp
def rdy (l:List Crs)(o:List Nat)(i:Nat):Bool:=(nds l i).all (fun n=>decide (n∈o))&&decide (i ∉ o)
def lstF (l:List Crs):Nat->List Nat->Nat->List Nat
 |0,o,_=>o
 |k+1,o,i=>if i<l.length then(if rdy l o i=true then lstF l k (o++[i]) 0 else lstF l k o (i+1)) else o
def lstM (l:List Crs)(o:List Nat)(i:Nat):Nat:=(l.length-o.length)*(l.length+1)+(l.length-i)
structure LstI (l:List Crs)(o:List Nat):Prop where
 nd:o.Nodup
 lt:∀n∈o,n<l.length
theorem LstI.le {l:List Crs}{o:List Nat}(h:LstI l o):o.length<=l.length:=by
 have:=h.nd.length_le_of_subset (l₂:=List.range l.length) fun n hn=>List.mem_range.2 (h.lt n hn)
 rwa [List.length_range]at this
theorem LstI.snoc {l:List Crs}{o:List Nat}{i:Nat}(h:LstI l o)(hi:i<l.length)(hr:rdy l o i=true):LstI l (o++[i]):=by
 unfold rdy at hr
 rw[Bool.and_eq_true,decide_eq_true_eq]at hr
 refine⟨?_,fun n hn=>?_⟩
 .rw[List.nodup_append]
  refine⟨h.nd,by simp,fun a ha b hb=>?_⟩
  simp at hb
  rintro rfl
  exact hr.2 (hb▸ha)
 .rcases List.mem_append.1 hn with hn|hn
  .exact h.lt n hn
  .simp at hn
   omega
theorem lstM_take {l:List Crs}{o:List Nat}{i:Nat}(h:LstI l o)(hi:i<l.length)(hr:rdy l o i=true):lstM l (o++[i]) 0<lstM l o i:=by
 have:=(h.snoc hi hr).le
 unfold lstM
 rw[List.length_append,List.length_singleton]at this⊢
 have e:l.length-o.length=(l.length-(o.length+1))+1:=by omega
 rw[e,Nat.add_mul]
 omega
theorem lstM_next {l:List Crs}{o:List Nat}{i:Nat}(hi:i<l.length):lstM l o (i+1)<lstM l o i:=by
 unfold lstM
 omega
theorem lstF_more {l:List Crs}:∀(k:Nat) (o:List Nat) (i j:Nat),LstI l o->lstM l o i<k->k<=j->lstF l k o i=lstF l j o i
 |0,o,i,j,_,h,_=>absurd h (Nat.not_lt_zero _)
 | k + 1,o,i,j,hI,h,hj=>by
   obtain⟨j,rfl⟩:∃j',j=j'+1:=⟨j-1,Om⟩
   rw[lstF,lstF]
   by_cases hi:i<l.length
   .rw[if_pos hi,if_pos hi]
    by_cases hr:rdy l o i=true
    .rw[if_pos hr,if_pos hr]
     have:=lstM_take hI hi hr
     exact lstF_more k _ 0 j (hI.snoc hi hr) Om Om
    .rw[if_neg hr,if_neg hr]
     have:=lstM_next (l:=l) (o:=o) hi
     exact lstF_more k _ _ j hI Om Om
   .rw[if_neg hi,if_neg hi]
def lstG (l:List Crs)(o:List Nat)(i:Nat):List Nat:=lstF l (lstM l o i+1) o i
theorem lstG_take {l:List Crs}{o:List Nat}{i:Nat}(h:LstI l o)(hi:i<l.length)(hr:rdy l o i=true):lstG l o i=lstG l (o++[i]) 0:=by
 have:=lstM_take h hi hr
 unfold lstG
 rw[lstF,if_pos hi,if_pos hr]
 exact(lstF_more _ _ _ _ (h.snoc hi hr) (Nat.lt_succ_self _) Om).symm
theorem lstG_next {l:List Crs}{o:List Nat}{i:Nat}(h:LstI l o)(hi:i<l.length)(hr:¬ rdy l o i=true):lstG l o i=lstG l o (i+1):=by
 have:=lstM_next (l:=l) (o:=o) hi
 unfold lstG
 rw[lstF,if_pos hi,if_neg hr]
 exact(lstF_more _ _ _ _ h (Nat.lt_succ_self _) Om).symm
theorem lstG_end {l:List Crs}{o:List Nat}{i:Nat}(hi:¬ i<l.length):lstG l o i=o:=by
 unfold lstG
 rw[lstF,if_neg hi]
theorem LstI.nil (l:List Crs):LstI l []:=⟨List.nodup_nil,fun n h=>(List.not_mem_nil h).elim⟩
def lst (l:List Crs):List Nat:=lstG l [] 0
theorem lstF_I {l:List Crs}:∀(k:Nat) (o:List Nat) (i:Nat),LstI l o->LstI l (lstF l k o i)
 |0,o,i,h=>h
 | k + 1,o,i,h=>by
   rw[lstF]
   split
   .rename_i hi
    split
    .rename_i hr
     exact lstF_I k _ _ (h.snoc hi hr)
    .exact lstF_I k _ _ h
   .exact h
theorem lst_I (l:List Crs):LstI l (lst l):=lstF_I _ _ _ (LstI.nil l)
def cycC (l:List Crs):Bool:=decide ((lst l).length<l.length)
def resE (c:Cat):Int:=if c.prg.all lenP=true then(if uniC c=true then(if namC c=true then(if cycC c.crs=true then 112 else 0) else 110) else 111) else 1
def catZ:Cat:=⟨[],[],[],[],[],[],[]⟩
def resV (c:Cat):Cat:=if resE c=0 then resC c else catZ
end Go.Proofs.YtmlhghddfobmmaaGreatDoor
