import Derived.Test.YtmlhghddfobmmaaGreatDoorOpsF
import Derived.Test.YtmlhghddfobmmaaGreatDoorEngAT
import Derived.Test.YtmlhghddfobmmaaGreatDoorBookA
namespace Go.Ab
set_option linter.unusedSimpArgs false
set_option linter.unusedVariables false
theorem Awp.vecG {P:Program}{N:Nat}{c:Code}{env:Env}{m:Mem}{Q:Post}(t e sz g:Nat)(f:Nat->List AV)(ht:get env t=.d .nils)
 (k:Awp P N c ((t,.osl m.new g 0 0)::env) (m.add (.vec e sz g 0 f)) Q):Awp P N c env m Q :=
 ⟨fun ro lo a w σ F hN hD he hm=>by
  let pl:Pl:=⟨g,sz,none⟩
  obtain⟨g1,g2⟩:=fresh_ok (w':=w) (pl:=pl) (B:=.vec e sz g 0 f) hm (Nat.le_refl _) (fun _ _=>rfl) ⟨rfl,rfl,fun _=>rfl,fun i hi=>absurd hi Om,fun b t h=>by simp[pl]at h⟩ (fun b t h=>by simp[pl]at h)
  have he':EnvOk ((t,.osl m.new g 0 0)::env) w F (upd σ m.new (some pl)) a.tmps:=by
   intro k
   simp only[get]
   cases hk:Nat.beq t k with
   | true =>
     have:=Nat.eq_of_beq_eq_true hk
     subst this
     simp only[cond_true]
     have hv:=he t
     rw[ht]at hv
     refine .osl (upd_self σ m.new (some pl)) fun p hp=>?_
     injection hp with hp
     subst hp
     refine⟨Nat.le_refl _,fun _=>⟨rfl,rfl,?_⟩⟩
     generalize a.tmps.getD t undef=X at hv
     cases hv with|d hv=>cases hv;rfl
   |false=>exact(he k).mono (fun _ h=>h) (fun _ _=>rfl) g2
  have hst:Step σ F w (upd σ m.new (some pl)) F w:=⟨rfl,rfl,rfl,Nat.le_refl _,Nat.le_refl _,fun _ _ _=>rfl,fun _ h=>h,fun _ h=>.inl h,own_upd_new fun b t h=>by simp[pl]at h⟩
  exact wpIn_mono (k.run ro lo a w _ F hN (hD.step hst) he' g1) fun e a2 w2 h5=>lift_trans hst (.of g2) h5⟩
end Go.Ab
namespace Go.Proofs.YtmlhghddfobmmaaGreatDoor
set_option linter.unusedSimpArgs false
set_option linter.unusedVariables false
open Go Go.Ab
set_option maxRecDepth 100000
set_option maxHeartbeats 0
def numsC (l:List Crs):List Int:=l.map fun x=>x.number
def rowsOf {α:Type}[Inhabited α](enc:α->List D)(l:List α):Nat->List AV:=fun i=>up (enc (l.getD i default))
theorem cloneCrs_ok (q:List Crs)(hq:q.length<=1000000):CallVC Tryz.prog 65 [.d (eCrss q)] ⟨[],[]⟩
 (Ret (fun _:Unit=>([.osl (.loc 0) 1 0 q.length],⟨[some (.vec 68 16 1 q.length (rowsOf eCrs q))],[]⟩)) fun _=>True):=by
 refine call_rule hT (T:=tab) (N:=8) (rs:=[.tmp 2]) _ _ Tryz.func65 rfl rfl rfl Kr rfl ?_
 repeat' (first|with_reducible refine Sq.go ?_|((with_reducible refine Ev.mk ?_);conv=>whnf)|with_reducible refine Dr.mk ⟨Kr,Kr⟩ ?_|with_reducible refine obG ?_|with_reducible refine Ob.mk ?_ ?_|(with_reducible first|refine brT fun h=>?_|refine brF fun h=>?_|refine Br.mk (fun h=>?_) fun h=>?_)<;>(try simp only[bsl,beq_iff_eq,bne_iff_ne,bs2]at h)<;>(try contradiction)<;>try (exfalso;omega))
 refine op_isnil rfl Tryz.underlying22 rfl rfl (fun b hb=>?_)
 cases b
 .repeat' (first|with_reducible refine Sq.go ?_|((with_reducible refine Ev.mk ?_);conv=>whnf)|with_reducible refine Dr.mk ⟨Kr,Kr⟩ ?_|with_reducible refine obG ?_|with_reducible refine Ob.mk ?_ ?_|(with_reducible first|refine brT fun h=>?_|refine brF fun h=>?_|refine Br.mk (fun h=>?_) fun h=>?_)<;>(try simp only[bsl,beq_iff_eq,bne_iff_ne,bs2]at h)<;>(try contradiction)<;>try (exfalso;omega))
  refine⟨(),Tt,?_,rfl⟩
  repeat' (first|exact Tt|exact rfl|exact Nat.le_refl _|refine And.intro ?_ ?_)
  .show AV.osl (.loc 0) (0+1) 0 (0+q.length)=AV.osl (.loc 0) 1 0 q.length
   rw[Nat.zero_add q.length]
  .show q.length<=0+q.length
   omega
  all_goals first
   | (show 0 + q.length=q.length
      omega)
   | (show 0 + q.length≤q.length
      omega)
   | (show q.length=0 + q.length
      omega)
   | (intro j hj
      refine⟨?_,rfl⟩
      rw[joinF,show j.blt 0=false from rfl]
      rfl)
 .have h0:q=[]:=List.eq_nil_of_length_eq_zero (hb rfl)
  subst h0
  repeat' (first|((with_reducible refine Ev.mk ?_);conv=>whnf)|with_reducible refine Dr.mk ⟨Kr,Kr⟩ ?_|with_reducible refine obG ?_|with_reducible refine Ob.mk ?_ ?_|(with_reducible first|refine brT fun h=>?_|refine brF fun h=>?_|refine Br.mk (fun h=>?_) fun h=>?_)<;>(try simp only[bsl,beq_iff_eq,bne_iff_ne,bs2]at h)<;>(try contradiction)<;>try (exfalso;omega))
  refine Sq.go ?_
  repeat' (first|((with_reducible refine Ev.mk ?_);conv=>whnf)|with_reducible refine Dr.mk ⟨Kr,Kr⟩ ?_|with_reducible refine obG ?_|with_reducible refine Ob.mk ?_ ?_|(with_reducible first|refine brT fun h=>?_|refine brF fun h=>?_|refine Br.mk (fun h=>?_) fun h=>?_)<;>(try simp only[bsl,beq_iff_eq,bne_iff_ne,bs2]at h)<;>(try contradiction)<;>try (exfalso;omega))
  refine Sq.alt (Awp.vecG 2 68 16 1 (rowsOf eCrs []) rfl (vc_ok hT _ _ _ _ (Ev.o ?_)))
  repeat' (first|with_reducible refine Sq.go ?_|((with_reducible refine Ev.mk ?_);conv=>whnf)|with_reducible refine Dr.mk ⟨Kr,Kr⟩ ?_|with_reducible refine obG ?_|with_reducible refine Ob.mk ?_ ?_|(with_reducible first|refine brT fun h=>?_|refine brF fun h=>?_|refine Br.mk (fun h=>?_) fun h=>?_)<;>(try simp only[bsl,beq_iff_eq,bne_iff_ne,bs2]at h)<;>(try contradiction)<;>try (exfalso;omega))
  refine⟨(),Tt,?_,rfl⟩
  repeat' (first|exact Tt|exact rfl|exact Nat.le_refl _|refine And.intro ?_ ?_)
  all_goals (intro j hj;exact absurd hj (Nat.not_lt_zero j))
theorem clonePai_ok (q:List Pai)(hq:q.length<=1000000):CallVC Tryz.prog 66 [.d (ePais q)] ⟨[],[]⟩
 (Ret (fun _:Unit=>([.osl (.loc 0) 1 0 q.length],⟨[some (.vec 131 4 1 q.length (rowsOf ePai q))],[]⟩)) fun _=>True):=by
 refine call_rule hT (T:=tab) (N:=8) (rs:=[.tmp 2]) _ _ Tryz.func66 rfl rfl rfl Kr rfl ?_
 repeat' (first|with_reducible refine Sq.go ?_|((with_reducible refine Ev.mk ?_);conv=>whnf)|with_reducible refine Dr.mk ⟨Kr,Kr⟩ ?_|with_reducible refine obG ?_|with_reducible refine Ob.mk ?_ ?_|(with_reducible first|refine brT fun h=>?_|refine brF fun h=>?_|refine Br.mk (fun h=>?_) fun h=>?_)<;>(try simp only[bsl,beq_iff_eq,bne_iff_ne,bs2]at h)<;>(try contradiction)<;>try (exfalso;omega))
 refine op_isnil rfl Tryz.underlying27 rfl rfl (fun b hb=>?_)
 cases b
 .repeat' (first|with_reducible refine Sq.go ?_|((with_reducible refine Ev.mk ?_);conv=>whnf)|with_reducible refine Dr.mk ⟨Kr,Kr⟩ ?_|with_reducible refine obG ?_|with_reducible refine Ob.mk ?_ ?_|(with_reducible first|refine brT fun h=>?_|refine brF fun h=>?_|refine Br.mk (fun h=>?_) fun h=>?_)<;>(try simp only[bsl,beq_iff_eq,bne_iff_ne,bs2]at h)<;>(try contradiction)<;>try (exfalso;omega))
  refine⟨(),Tt,?_,rfl⟩
  repeat' (first|exact Tt|exact rfl|exact Nat.le_refl _|refine And.intro ?_ ?_)
  .show AV.osl (.loc 0) (0+1) 0 (0+q.length)=AV.osl (.loc 0) 1 0 q.length
   rw[Nat.zero_add q.length]
  .show q.length<=0+q.length
   omega
  all_goals first
   | (show 0 + q.length=q.length
      omega)
   | (show 0 + q.length≤q.length
      omega)
   | (show q.length=0 + q.length
      omega)
   | (intro j hj
      refine⟨?_,rfl⟩
      rw[joinF,show j.blt 0=false from rfl]
      rfl)
 .have h0:q=[]:=List.eq_nil_of_length_eq_zero (hb rfl)
  subst h0
  repeat' (first|((with_reducible refine Ev.mk ?_);conv=>whnf)|with_reducible refine Dr.mk ⟨Kr,Kr⟩ ?_|with_reducible refine obG ?_|with_reducible refine Ob.mk ?_ ?_|(with_reducible first|refine brT fun h=>?_|refine brF fun h=>?_|refine Br.mk (fun h=>?_) fun h=>?_)<;>(try simp only[bsl,beq_iff_eq,bne_iff_ne,bs2]at h)<;>(try contradiction)<;>try (exfalso;omega))
  refine Sq.go ?_
  repeat' (first|((with_reducible refine Ev.mk ?_);conv=>whnf)|with_reducible refine Dr.mk ⟨Kr,Kr⟩ ?_|with_reducible refine obG ?_|with_reducible refine Ob.mk ?_ ?_|(with_reducible first|refine brT fun h=>?_|refine brF fun h=>?_|refine Br.mk (fun h=>?_) fun h=>?_)<;>(try simp only[bsl,beq_iff_eq,bne_iff_ne,bs2]at h)<;>(try contradiction)<;>try (exfalso;omega))
  refine Sq.alt (Awp.vecG 2 131 4 1 (rowsOf ePai []) rfl (vc_ok hT _ _ _ _ (Ev.o ?_)))
  repeat' (first|with_reducible refine Sq.go ?_|((with_reducible refine Ev.mk ?_);conv=>whnf)|with_reducible refine Dr.mk ⟨Kr,Kr⟩ ?_|with_reducible refine obG ?_|with_reducible refine Ob.mk ?_ ?_|(with_reducible first|refine brT fun h=>?_|refine brF fun h=>?_|refine Br.mk (fun h=>?_) fun h=>?_)<;>(try simp only[bsl,beq_iff_eq,bne_iff_ne,bs2]at h)<;>(try contradiction)<;>try (exfalso;omega))
  refine⟨(),Tt,?_,rfl⟩
  repeat' (first|exact Tt|exact rfl|exact Nat.le_refl _|refine And.intro ?_ ?_)
  all_goals (intro j hj;exact absurd hj (Nat.not_lt_zero j))
theorem clonePrg_ok (q:List Prg)(hq:q.length<=1000000):CallVC Tryz.prog 67 [.d (ePrgs q)] ⟨[],[]⟩
 (Ret (fun _:Unit=>([.osl (.loc 0) 1 0 q.length],⟨[some (.vec 78 7 1 q.length (rowsOf ePrg q))],[]⟩)) fun _=>True):=by
 refine call_rule hT (T:=tab) (N:=8) (rs:=[.tmp 2]) _ _ Tryz.func67 rfl rfl rfl Kr rfl ?_
 repeat' (first|with_reducible refine Sq.go ?_|((with_reducible refine Ev.mk ?_);conv=>whnf)|with_reducible refine Dr.mk ⟨Kr,Kr⟩ ?_|with_reducible refine obG ?_|with_reducible refine Ob.mk ?_ ?_|(with_reducible first|refine brT fun h=>?_|refine brF fun h=>?_|refine Br.mk (fun h=>?_) fun h=>?_)<;>(try simp only[bsl,beq_iff_eq,bne_iff_ne,bs2]at h)<;>(try contradiction)<;>try (exfalso;omega))
 refine op_isnil rfl Tryz.underlying23 rfl rfl (fun b hb=>?_)
 cases b
 .repeat' (first|with_reducible refine Sq.go ?_|((with_reducible refine Ev.mk ?_);conv=>whnf)|with_reducible refine Dr.mk ⟨Kr,Kr⟩ ?_|with_reducible refine obG ?_|with_reducible refine Ob.mk ?_ ?_|(with_reducible first|refine brT fun h=>?_|refine brF fun h=>?_|refine Br.mk (fun h=>?_) fun h=>?_)<;>(try simp only[bsl,beq_iff_eq,bne_iff_ne,bs2]at h)<;>(try contradiction)<;>try (exfalso;omega))
  refine⟨(),Tt,?_,rfl⟩
  repeat' (first|exact Tt|exact rfl|exact Nat.le_refl _|refine And.intro ?_ ?_)
  .show AV.osl (.loc 0) (0+1) 0 (0+q.length)=AV.osl (.loc 0) 1 0 q.length
   rw[Nat.zero_add q.length]
  .show q.length<=0+q.length
   omega
  all_goals first
   | (show 0 + q.length=q.length
      omega)
   | (show 0 + q.length≤q.length
      omega)
   | (show q.length=0 + q.length
      omega)
   | (intro j hj
      refine⟨?_,rfl⟩
      rw[joinF,show j.blt 0=false from rfl]
      rfl)
 .have h0:q=[]:=List.eq_nil_of_length_eq_zero (hb rfl)
  subst h0
  repeat' (first|((with_reducible refine Ev.mk ?_);conv=>whnf)|with_reducible refine Dr.mk ⟨Kr,Kr⟩ ?_|with_reducible refine obG ?_|with_reducible refine Ob.mk ?_ ?_|(with_reducible first|refine brT fun h=>?_|refine brF fun h=>?_|refine Br.mk (fun h=>?_) fun h=>?_)<;>(try simp only[bsl,beq_iff_eq,bne_iff_ne,bs2]at h)<;>(try contradiction)<;>try (exfalso;omega))
  refine Sq.go ?_
  repeat' (first|((with_reducible refine Ev.mk ?_);conv=>whnf)|with_reducible refine Dr.mk ⟨Kr,Kr⟩ ?_|with_reducible refine obG ?_|with_reducible refine Ob.mk ?_ ?_|(with_reducible first|refine brT fun h=>?_|refine brF fun h=>?_|refine Br.mk (fun h=>?_) fun h=>?_)<;>(try simp only[bsl,beq_iff_eq,bne_iff_ne,bs2]at h)<;>(try contradiction)<;>try (exfalso;omega))
  refine Sq.alt (Awp.vecG 2 78 7 1 (rowsOf ePrg []) rfl (vc_ok hT _ _ _ _ (Ev.o ?_)))
  repeat' (first|with_reducible refine Sq.go ?_|((with_reducible refine Ev.mk ?_);conv=>whnf)|with_reducible refine Dr.mk ⟨Kr,Kr⟩ ?_|with_reducible refine obG ?_|with_reducible refine Ob.mk ?_ ?_|(with_reducible first|refine brT fun h=>?_|refine brF fun h=>?_|refine Br.mk (fun h=>?_) fun h=>?_)<;>(try simp only[bsl,beq_iff_eq,bne_iff_ne,bs2]at h)<;>(try contradiction)<;>try (exfalso;omega))
  refine⟨(),Tt,?_,rfl⟩
  repeat' (first|exact Tt|exact rfl|exact Nat.le_refl _|refine And.intro ?_ ?_)
  all_goals (intro j hj;exact absurd hj (Nat.not_lt_zero j))
theorem cloneReq_ok (q:List Req)(hq:q.length<=1000000):CallVC Tryz.prog 70 [.d (eReqs q)] ⟨[],[]⟩
 (Ret (fun _:Unit=>([.osl (.loc 0) 1 0 q.length],⟨[some (.vec 106 6 1 q.length (rowsOf eReq q))],[]⟩)) fun _=>True):=by
 refine call_rule hT (T:=tab) (N:=8) (rs:=[.tmp 2]) _ _ Tryz.func70 rfl rfl rfl Kr rfl ?_
 repeat' (first|with_reducible refine Sq.go ?_|((with_reducible refine Ev.mk ?_);conv=>whnf)|with_reducible refine Dr.mk ⟨Kr,Kr⟩ ?_|with_reducible refine obG ?_|with_reducible refine Ob.mk ?_ ?_|(with_reducible first|refine brT fun h=>?_|refine brF fun h=>?_|refine Br.mk (fun h=>?_) fun h=>?_)<;>(try simp only[bsl,beq_iff_eq,bne_iff_ne,bs2]at h)<;>(try contradiction)<;>try (exfalso;omega))
 refine op_isnil rfl Tryz.underlying76 rfl rfl (fun b hb=>?_)
 cases b
 .repeat' (first|with_reducible refine Sq.go ?_|((with_reducible refine Ev.mk ?_);conv=>whnf)|with_reducible refine Dr.mk ⟨Kr,Kr⟩ ?_|with_reducible refine obG ?_|with_reducible refine Ob.mk ?_ ?_|(with_reducible first|refine brT fun h=>?_|refine brF fun h=>?_|refine Br.mk (fun h=>?_) fun h=>?_)<;>(try simp only[bsl,beq_iff_eq,bne_iff_ne,bs2]at h)<;>(try contradiction)<;>try (exfalso;omega))
  refine⟨(),Tt,?_,rfl⟩
  repeat' (first|exact Tt|exact rfl|exact Nat.le_refl _|refine And.intro ?_ ?_)
  .show AV.osl (.loc 0) (0+1) 0 (0+q.length)=AV.osl (.loc 0) 1 0 q.length
   rw[Nat.zero_add q.length]
  .show q.length<=0+q.length
   omega
  all_goals first
   | (show 0 + q.length=q.length
      omega)
   | (show 0 + q.length≤q.length
      omega)
   | (show q.length=0 + q.length
      omega)
   | (intro j hj
      refine⟨?_,rfl⟩
      rw[joinF,show j.blt 0=false from rfl]
      rfl)
 .have h0:q=[]:=List.eq_nil_of_length_eq_zero (hb rfl)
  subst h0
  repeat' (first|((with_reducible refine Ev.mk ?_);conv=>whnf)|with_reducible refine Dr.mk ⟨Kr,Kr⟩ ?_|with_reducible refine obG ?_|with_reducible refine Ob.mk ?_ ?_|(with_reducible first|refine brT fun h=>?_|refine brF fun h=>?_|refine Br.mk (fun h=>?_) fun h=>?_)<;>(try simp only[bsl,beq_iff_eq,bne_iff_ne,bs2]at h)<;>(try contradiction)<;>try (exfalso;omega))
  refine Sq.go ?_
  repeat' (first|((with_reducible refine Ev.mk ?_);conv=>whnf)|with_reducible refine Dr.mk ⟨Kr,Kr⟩ ?_|with_reducible refine obG ?_|with_reducible refine Ob.mk ?_ ?_|(with_reducible first|refine brT fun h=>?_|refine brF fun h=>?_|refine Br.mk (fun h=>?_) fun h=>?_)<;>(try simp only[bsl,beq_iff_eq,bne_iff_ne,bs2]at h)<;>(try contradiction)<;>try (exfalso;omega))
  refine Sq.alt (Awp.vecG 2 106 6 1 (rowsOf eReq []) rfl (vc_ok hT _ _ _ _ (Ev.o ?_)))
  repeat' (first|with_reducible refine Sq.go ?_|((with_reducible refine Ev.mk ?_);conv=>whnf)|with_reducible refine Dr.mk ⟨Kr,Kr⟩ ?_|with_reducible refine obG ?_|with_reducible refine Ob.mk ?_ ?_|(with_reducible first|refine brT fun h=>?_|refine brF fun h=>?_|refine Br.mk (fun h=>?_) fun h=>?_)<;>(try simp only[bsl,beq_iff_eq,bne_iff_ne,bs2]at h)<;>(try contradiction)<;>try (exfalso;omega))
  refine⟨(),Tt,?_,rfl⟩
  repeat' (first|exact Tt|exact rfl|exact Nat.le_refl _|refine And.intro ?_ ?_)
  all_goals (intro j hj;exact absurd hj (Nat.not_lt_zero j))
theorem cloneSys_ok (q:List Sys)(hq:q.length<=1000000):CallVC Tryz.prog 80 [.d (eSyss q)] ⟨[],[]⟩
 (Ret (fun _:Unit=>([.osl (.loc 0) 1 0 q.length],⟨[some (.vec 83 4 1 q.length (rowsOf eSys q))],[]⟩)) fun _=>True):=by
 refine call_rule hT (T:=tab) (N:=8) (rs:=[.tmp 2]) _ _ Tryz.func80 rfl rfl rfl Kr rfl ?_
 repeat' (first|with_reducible refine Sq.go ?_|((with_reducible refine Ev.mk ?_);conv=>whnf)|with_reducible refine Dr.mk ⟨Kr,Kr⟩ ?_|with_reducible refine obG ?_|with_reducible refine Ob.mk ?_ ?_|(with_reducible first|refine brT fun h=>?_|refine brF fun h=>?_|refine Br.mk (fun h=>?_) fun h=>?_)<;>(try simp only[bsl,beq_iff_eq,bne_iff_ne,bs2]at h)<;>(try contradiction)<;>try (exfalso;omega))
 refine op_isnil rfl Tryz.underlying24 rfl rfl (fun b hb=>?_)
 cases b
 .repeat' (first|with_reducible refine Sq.go ?_|((with_reducible refine Ev.mk ?_);conv=>whnf)|with_reducible refine Dr.mk ⟨Kr,Kr⟩ ?_|with_reducible refine obG ?_|with_reducible refine Ob.mk ?_ ?_|(with_reducible first|refine brT fun h=>?_|refine brF fun h=>?_|refine Br.mk (fun h=>?_) fun h=>?_)<;>(try simp only[bsl,beq_iff_eq,bne_iff_ne,bs2]at h)<;>(try contradiction)<;>try (exfalso;omega))
  refine⟨(),Tt,?_,rfl⟩
  repeat' (first|exact Tt|exact rfl|exact Nat.le_refl _|refine And.intro ?_ ?_)
  .show AV.osl (.loc 0) (0+1) 0 (0+q.length)=AV.osl (.loc 0) 1 0 q.length
   rw[Nat.zero_add q.length]
  .show q.length<=0+q.length
   omega
  all_goals first
   | (show 0 + q.length=q.length
      omega)
   | (show 0 + q.length≤q.length
      omega)
   | (show q.length=0 + q.length
      omega)
   | (intro j hj
      refine⟨?_,rfl⟩
      rw[joinF,show j.blt 0=false from rfl]
      rfl)
 .have h0:q=[]:=List.eq_nil_of_length_eq_zero (hb rfl)
  subst h0
  repeat' (first|((with_reducible refine Ev.mk ?_);conv=>whnf)|with_reducible refine Dr.mk ⟨Kr,Kr⟩ ?_|with_reducible refine obG ?_|with_reducible refine Ob.mk ?_ ?_|(with_reducible first|refine brT fun h=>?_|refine brF fun h=>?_|refine Br.mk (fun h=>?_) fun h=>?_)<;>(try simp only[bsl,beq_iff_eq,bne_iff_ne,bs2]at h)<;>(try contradiction)<;>try (exfalso;omega))
  refine Sq.go ?_
  repeat' (first|((with_reducible refine Ev.mk ?_);conv=>whnf)|with_reducible refine Dr.mk ⟨Kr,Kr⟩ ?_|with_reducible refine obG ?_|with_reducible refine Ob.mk ?_ ?_|(with_reducible first|refine brT fun h=>?_|refine brF fun h=>?_|refine Br.mk (fun h=>?_) fun h=>?_)<;>(try simp only[bsl,beq_iff_eq,bne_iff_ne,bs2]at h)<;>(try contradiction)<;>try (exfalso;omega))
  refine Sq.alt (Awp.vecG 2 83 4 1 (rowsOf eSys []) rfl (vc_ok hT _ _ _ _ (Ev.o ?_)))
  repeat' (first|with_reducible refine Sq.go ?_|((with_reducible refine Ev.mk ?_);conv=>whnf)|with_reducible refine Dr.mk ⟨Kr,Kr⟩ ?_|with_reducible refine obG ?_|with_reducible refine Ob.mk ?_ ?_|(with_reducible first|refine brT fun h=>?_|refine brF fun h=>?_|refine Br.mk (fun h=>?_) fun h=>?_)<;>(try simp only[bsl,beq_iff_eq,bne_iff_ne,bs2]at h)<;>(try contradiction)<;>try (exfalso;omega))
  refine⟨(),Tt,?_,rfl⟩
  repeat' (first|exact Tt|exact rfl|exact Nat.le_refl _|refine And.intro ?_ ?_)
  all_goals (intro j hj;exact absurd hj (Nat.not_lt_zero j))
def mixL {α:Type}(f:α->α)(l:List α)(k:Nat):List α:=(l.take k).map f++l.drop k
theorem mixL_len {α:Type}(f:α->α)(l:List α)(k:Nat):(mixL f l k).length=l.length:=by
 rw[mixL,List.length_append,List.length_map,List.length_take,List.length_drop]
 omega
theorem mixL_zero {α:Type}(f:α->α)(l:List α):mixL f l 0=l:=by simp[mixL]
theorem mixL_all {α:Type}(f:α->α)(l:List α):mixL f l l.length=l.map f:=by simp[mixL]
theorem mixL_get {α:Type}[Inhabited α](f:α->α){l:List α}{k j:Nat}(hj:j<l.length):(mixL f l k).getD j default=if j<k then f (l.getD j default) else l.getD j default:=by
 simp only[mixL,List.getD_eq_getElem?_getD]
 by_cases h:j<k
 .rw[if_pos h,List.getElem?_append_left (by rw[List.length_map,List.length_take];omega),List.getElem?_map,List.getElem?_take,if_pos h,List.getElem?_eq_getElem hj]
  rfl
 .rw[if_neg h]
  by_cases hk:k<=l.length
  .rw[List.getElem?_append_right (by rw[List.length_map,List.length_take];omega),List.getElem?_drop,List.length_map,List.length_take]
   congr 2
   omega
  .omega
theorem mixL_at {α:Type}[Inhabited α](f:α->α){l:List α}{k:Nat}(hk:k<l.length):(mixL f l k).getD k default=l.getD k default:=by rw[mixL_get f hk,if_neg (Nat.lt_irrefl k)]
theorem mixL_set {α:Type}[Inhabited α](f:α->α)(enc:α->List D){l:List α}{k:Nat}(y:List AV)(hy:y=up (enc (f (l.getD k default)))){j:Nat}(hj:j<l.length):(bif Nat.beq j k then y else rowsOf enc (mixL f l k) j)=rowsOf enc (mixL f l (k+1)) j:=by
 unfold rowsOf
 rw[mixL_get f hj,mixL_get f hj]
 cases hb:Nat.beq j k with
 | true =>
   have:=Nat.eq_of_beq_eq_true hb
   subst this
   rw[cond_true,if_pos (Nat.lt_succ_self _),hy]
 | false =>
   have:=Nat.ne_of_beq_eq_false hb
   rw[cond_false]
   by_cases h:j<k
   .rw[if_pos h,if_pos Om]
   .rw[if_neg h,if_neg Om]
theorem rowsOf_snoc {α:Type}[Inhabited α](enc:α->List D)(xs:List α)(x:α){n:Nat}(hn:n=xs.length)(i:Nat)(hi:i<n+1):joinF n (rowsOf enc xs) (rowFn [up (enc x)]) i=rowsOf enc (xs++[x]) i:=by
 subst hn
 exact join_snoc enc xs x _ rfl i (by rw[len_snoc];exact hi)
def rowZ (xs:List Int):Nat->List AV:=fun i=>[.d (.int .i64 (xs.getD i default))]
theorem rowZ_snoc (xs:List Int)(x:Int){n:Nat}(hn:n=xs.length)(i:Nat)(hi:i<n+1):joinF n (rowZ xs) (rowFn [[.d (.int .i64 x)]]) i=rowZ (xs++[x]) i:=rowsOf_snoc (fun n:Int=>[D.int .i64 n]) xs x hn i hi
def keysC (l:List Crs):List (List Int):=(numsC l).map fun n=>[n]
theorem keysC_len (l:List Crs):(keysC l).length=l.length:=by rw[keysC,numsC,List.length_map,List.length_map]
theorem keysC_at {l:List Crs}{k:Nat}(hk:k<l.length):(keysC l).getD k default=[(l.getD k default).number]:=by
 simp only[keysC,numsC,List.getD_eq_getElem?_getD,List.getElem?_map,List.getElem?_eq_getElem hk,Option.map_some,Option.getD_some]
theorem numbersC_ok (l:List Crs)(hl:l.length<=1000000):CallVC Tryz.prog 81 [.d (eCrss l)] ⟨[],[]⟩
 (Ret (fun _:Unit=>([.mp (.loc 0)],⟨[some (.map (.one .i64) (hasU (keysC l) l.length) fun _=>.d (.bool true))],[]⟩)) fun _=>True):=by
 refine call_rule hT (T:=tab) (N:=18) (rs:=[.tmp 2]) _ _ Tryz.func81 rfl rfl rfl Kr rfl ?_
 (refine gW ?_;intros)
 refine loop_rule hT (S:=Nat) (fun k=>([(3,.mp (.loc 0)),(7,.d (eCrss l)),(8,dV l.length),(9,dV k)],⟨[some (.map (.one .i64) (hasU (keysC l) k) fun _=>.d (.bool true))],[]⟩)) (fun k=>k<=l.length) (fun k=>l.length-k) 0 ?_ ?_ ?_
 .repeat' (first|exact Tt|exact rfl|exact Nat.le_refl _|refine And.intro ?_ ?_)
  all_goals first
   |(intro key hf;exact⟨by simp[hasU],fun h=>(by cases h)⟩)
 .exact Nat.zero_le _
 .intro k hk
  dsimp only at hk⊢
  by_cases hk2:k<l.length
  ·(refine gW ?_;intros)
   refine⟨k+1,by show k+1<=l.length;omega,by show l.length-(k+1)<l.length-k;omega,?_⟩
   repeat' (first|exact Tt|exact rfl|exact Nat.le_refl _|refine And.intro ?_ ?_)
   intro key hf
   refine⟨?_,fun _=>⟨?_,rfl⟩⟩
   .have e:=hasU_succ (ks:=keysC l) (k:=k) (by rw[keysC_len];exact hk2) key
    rw[keysC_at hk2]at e
    exact e
   .show(bif decide (key=[(l.getD k default).number]) then AV.d (.bool true) else AV.d (.bool true))=_
    cases decide (key=[(l.getD k default).number])<;>rfl
  .obtain rfl:k=l.length:=by omega
   (refine gW ?_;intros)
   refine⟨(),Tt,?_,rfl⟩
   repeat' (first|exact Tt|exact rfl|exact Nat.le_refl _|refine And.intro ?_ ?_)
   intro key hf
   exact⟨rfl,fun _=>⟨rfl,rfl⟩⟩
theorem rowsOf_join {α:Type}[Inhabited α](enc:α->List D)(xs:List α)(x:α){n:Nat}(hn:n=xs.length)(i:Nat)(hi:i<n+1):joinF n (rowsOf enc xs) (rowFn [up (enc x)]) i=rowsOf enc (xs++[x]) i:=by
 subst hn
 exact join_snoc enc xs x _ rfl i (by rw[len_snoc];exact hi)
def insM (fr til kn:Int)(g:Nat)(fs:List Fct):Mem:=⟨[],[bX 144 [dV fr,dV til,dV kn,.osl (.arg 1) g 0 fs.length],bV 94 8 g fs.length (rowsOf eFct fs)]⟩
theorem add_ok (fr til kn:Int)(g:Nat)(fs:List Fct)(hl:fs.length<=1000000)(kd sub obj val:Int) :
 CallVC Tryz.prog 77 [ap 0,dV kd,dV sub,dV obj,dV val] (insM fr til kn g fs)
  (Ret (fun _:Unit=>([],insM fr til kn (g+1) (fs++[⟨kd,sub,obj,val,fr,til,kn,fs.length⟩]))) fun _=>True):=by
 unfold insM
 refine call_rule hT (T:=tab) (N:=40) (rs:=[]) _ _ Tryz.func77 rfl rfl rfl Kr rfl ?_
 (refine gS ?_;intros)
 refine Sq.alt (Awp.effsC (m:=⟨[bX 90 (up [di kd,di sub,di obj])],[bX 144 [dV fr,dV til,dV kn,.osl (.arg 1) g 0 fs.length],bV 94 8 g fs.length (rowsOf eFct fs)]⟩) hT Kr Kr Kr
  ⟨[bX 90 (up [di kd,di sub,di obj])],[bX 144 [dV fr,dV til,dV kn,.osl (.arg 1) g 0 fs.length],some .opq]⟩ 1 2
  [⟨19,.d (.int .i64 fs.length),⟨[some (.box 90 (up [.int .i64 kd,.int .i64 sub,.int .i64 obj]))],[some (.box 144 [.d (.int .i64 fr),.d (.int .i64 til),.d (.int .i64 kn),.osl (.arg 1) g 0 fs.length]),some (.vec 94 8 g fs.length (rowsOf eFct fs))]⟩,[]⟩,
   ⟨22,.osl (.arg 1) (g+1) 0 (fs.length+1),⟨[bX 90 (up [di kd,di sub,di obj])],[bX 144 [dV fr,dV til,dV kn,.osl (.arg 1) g 0 fs.length],bV 94 8 (g+1) (fs.length+1) (joinF fs.length (rowsOf eFct fs) (rowFn [up (eFct ⟨kd,sub,obj,val,fr,til,kn,fs.length⟩)]))]⟩,[21,20,19]⟩,
   ⟨25,.junk,⟨[bX 90 (up [di kd,di sub,di obj])],[bX 144 [dV fr,dV til,dV kn,.osl (.arg 1) (g+1) 0 (fs.length+1)],bV 94 8 (g+1) (fs.length+1) (joinF fs.length (rowsOf eFct fs) (rowFn [up (eFct ⟨kd,sub,obj,val,fr,til,kn,fs.length⟩)]))]⟩,[22]⟩]
  Kr rfl rfl (WeakF.of ⟨.inl rfl,Tt⟩ ⟨.inl rfl,.inr ⟨_,rfl,WeakB.opq⟩,Tt⟩) true (fun _=>by kernel_rfl)
  ⟨(WeakF.of ⟨.inl rfl,Tt⟩ ⟨.inl rfl,.inr ⟨_,rfl,WeakB.opq⟩,Tt⟩),(WeakF.of ⟨.inl rfl,Tt⟩ ⟨.inl rfl,.inr ⟨_,rfl,WeakB.opq⟩,Tt⟩),.inl rfl⟩ ?_)
 conv=>whnf
 refine⟨?_,?_,?_,?_⟩
 .conv=>whnf
  (refine gS ?_;intros)
  exact⟨rfl,rfl⟩
 .conv=>whnf
  (refine gS ?_;intros)
  exact⟨rfl,rfl⟩
 .conv=>whnf
  (refine gS ?_;intros)
  exact⟨Tt,rfl⟩
 conv=>whnf
 (refine gS ?_;intros)
 refine⟨(),Tt,?_,rfl⟩
 repeat' (first|exact Tt|exact rfl|exact Nat.le_refl _|refine And.intro ?_ ?_)
 all_goals first
  | (intro j hj
     refine⟨?_,rfl⟩
     exact rowsOf_join eFct fs _ rfl j (by rw[len_snoc]at hj;exact hj))
  | (show AV.osl _ _ _ _=AV.osl _ _ _ _
     rw[len_snoc]
     done)
  | (rw [len_snoc]
     done)
  | (rw [len_snoc]
     exact Nat.le_refl _)
  |(rw[len_snoc];exact⟨rfl,rfl⟩)
structure Cat where
 crs:List Crs
 same:List Pai
 prg:List Prg
 classes:List Cls
 fees:List Fee
 honours:List Cls
 clauses:List Cla
 deriving Inhabited
def eCat (c:Cat):List D:=[eCrss c.crs,ePais c.same,ePrgs c.prg,eClss c.classes,eFees c.fees,eClss c.honours,eClas c.clauses]
def wsum (c:Cat):Int:=IntKind.i64.wrap (IntKind.i64.wrap (IntKind.i64.wrap ((c.classes.length:Int)+(c.fees.length:Int))+(c.honours.length:Int))+(c.clauses.length:Int))
def sysB (c:Cat):Bool:=decide (0<wsum c)
def dst:List Int->List Int
 |[]=>[]
 |x::r=>if x∈r then dst r else x::dst r
theorem dst_mem {x:Int}:∀{l:List Int},x∈dst l↔x∈l
 |[]=>Iff.rfl
 | y :: r=>by
   rw[dst]
   by_cases h:y∈r
   .rw[if_pos h,dst_mem,List.mem_cons]
    exact⟨.inr,fun h1=>h1.elim (fun e=>by rw[e];exact h) id⟩
   .rw[if_neg h,List.mem_cons,List.mem_cons,dst_mem]
theorem dst_nodup:∀l:List Int,(dst l).Nodup
 |[]=>List.nodup_nil
 | y :: r=>by
   rw[dst]
   by_cases h:y∈r
   .rw[if_pos h]
    exact dst_nodup r
   .rw[if_neg h]
    exact List.nodup_cons.2 ⟨fun h1=>h (dst_mem.1 h1),dst_nodup r⟩
def numN (l:List Crs):Nat:=(dst (numsC l)).length
theorem num_len {l:List Crs}{qs:List (List Int)}(q1:qs.Nodup)(q2:∀k∈qs,(Ksh.one .i64).fits k/\hasU (keysC l) l.length k=true)(q3:∀k,(Ksh.one .i64).fits k->hasU (keysC l) l.length k=true->k∈qs):qs.length=numN l:=by
 have e:((dst (numsC l)).map fun n=>[n]).length=numN l:=List.length_map ..
 rw[<-e]
 have hm:∀key,key∈keysC l↔key∈(dst (numsC l)).map fun n=>[n]:=fun key=>by
  rw[keysC,List.mem_map,List.mem_map]
  exact⟨fun⟨a,h,e⟩=>⟨a,dst_mem.2 h,e⟩,fun⟨a,h,e⟩=>⟨a,dst_mem.1 h,e⟩⟩
 refine len_of_both q1 (nodup_map_inj (f:=fun n:Int=>[n]) (fun a b h=>by injection h) (dst_nodup _)) fun key=>⟨fun h=>?_,fun h=>?_⟩
 .have:=(q2 key h).2
  unfold hasU at this
  rw[List.take_of_length_le (by rw[keysC_len];exact Nat.le_refl _)]at this
  exact(hm key).1 (of_decide_eq_true this)
 .have h:=(hm key).2 h
  refine q3 key ?_ ?_
  .obtain⟨n,_,rfl⟩:=List.mem_map.1 h
   rfl
  .unfold hasU
   rw[List.take_of_length_le (by rw[keysC_len];exact Nat.le_refl _)]
   exact decide_eq_true h
def addF (fr til kn:Int)(fs:List Fct)(q:Int × Int × Int × Int):List Fct:=fs++[⟨q.1,q.2.1,q.2.2.1,q.2.2.2,fr,til,kn,fs.length⟩]
theorem addF_len (fr til kn:Int)(fs:List Fct)(q:Int × Int × Int × Int):(addF fr til kn fs q).length=fs.length+1:=by rw[addF,List.length_append];rfl
def addFs (fr til kn:Int)(fs:List Fct)(qs:List (Int × Int × Int × Int)):List Fct:=qs.foldl (addF fr til kn) fs
theorem addFs_len (fr til kn:Int):∀(qs:List (Int × Int × Int × Int)) (fs:List Fct),(addFs fr til kn fs qs).length=fs.length+qs.length
 |[],fs=>rfl
 | q :: r,fs=>by
   show(addFs fr til kn (addF fr til kn fs q) r).length=_
   rw[addFs_len fr til kn r,addF_len,List.length_cons]
   omega
theorem addFs_app (fr til kn:Int)(fs:List Fct)(a b:List (Int × Int × Int × Int)):addFs fr til kn fs (a++b)=addFs fr til kn (addFs fr til kn fs a) b:=List.foldl_append
theorem addFs_snoc (fr til kn:Int)(fs:List Fct)(a:List (Int × Int × Int × Int))(q:Int × Int × Int × Int):addFs fr til kn fs (a++[q])=addF fr til kn (addFs fr til kn fs a) q:=by
 rw[addFs_app]
 rfl
def defK (kd:Int)(off:Nat){α:Type}[Inhabited α](f:α->Int)(l:List α):Nat->List (Int × Int × Int × Int)
 |0=>[]
 |k+1=>defK kd off f l k++[(kd,f (l.getD k default),0,((off:Nat):Int)+(k:Int))]
theorem defK_len (kd:Int)(off:Nat){α:Type}[Inhabited α](f:α->Int)(l:List α):∀k,(defK kd off f l k).length=k
 |0=>rfl
 |k+1=>by rw[defK,List.length_append,defK_len];rfl
def samK (l:List Pai):Nat->List (Int × Int × Int × Int)
 |0=>[]
 |k+1=>samK l k++[(2,min (l.getD k default).x (l.getD k default).y,max (l.getD k default).x (l.getD k default).y,1)]
theorem samK_len (l:List Pai):∀k,(samK l k).length=k
 |0=>rfl
 |k+1=>by rw[samK,List.length_append,samK_len];rfl
def sysC (c:Cat):Sys:=⟨c.classes,c.fees,c.honours,c.clauses⟩
def insQ (b:Bok)(c:Cat):List (Int × Int × Int × Int):=defK 1 b.crs.length (fun x:Crs=>x.number) c.crs c.crs.length++defK 3 b.prg.length (fun x:Prg=>x.number) c.prg c.prg.length++samK c.same c.same.length
def insS (b:Bok)(c:Cat):List (Int × Int × Int × Int):=if sysB c=true then[(4,0,0,(b.sys.length:Int))] else[]
def insN (b l:List Crs)(kn:Int)(fs:List Fct):List Fct:=if numN b<numN l then addF 0 1024 kn fs (12,0,0,(numN l:Int)) else fs
def insB (b:Bok)(c:Cat):Bok:=⟨b.crs++c.crs,b.prg++c.prg,b.sys++(if sysB c=true then[sysC c] else[])⟩
def insF (b:Bok)(c:Cat)(fr til kn:Int):List Fct:=insN b.crs (b.crs++c.crs) kn (addFs fr til kn [] (insQ b c++insS b c))
def pairB (p:Pai):Bool:=bw p.x 0 4095&&bw p.y 0 4095
def spnOk (fr til kn:Int):Bool:=decide (0<=fr)&&(decide (fr<til)&&(decide (til<=1024)&&bw kn 1 16777216))
def bokZ:Bok:=⟨[],[],[]⟩
theorem numsC_app (a b:List Crs):numsC (a++b)=numsC a++numsC b:=List.map_append
def stepP (t:Int)(s:Bool)(g x:Fct):Bool × Fct:=if hitT t x&&(!s||!befF x g) then(true,x) else(s,g)
theorem stepF_pair (t:Int)(b:Option Fct)(x:Fct):(stepF t b x).isSome=(stepP t b.isSome (b.getD zF) x).1/\(stepF t b x).getD zF=(stepP t b.isSome (b.getD zF) x).2:=by
 unfold stepF stepP
 cases b<;>cases hitT t x<;>simp<;>(try (cases befF x _<;>simp))
theorem of_facts (l:List Fct)(k:Ke)(kn:Int):CallVC Tryz.prog 110 [.d (eFcts l),.d (.agg (eKe k)),dV kn] ⟨[],[]⟩
 (Ret (fun _:Unit=>([.fn (.func 164) [] [lp 0,lp 1,lp 2]],⟨[bX 42 [.d (eFcts l)],bX 90 (up (eKe k)),bX 3 [dV kn]],[]⟩)) fun _=>True):=by
 refine call_rule hT (T:=tab) (N:=8) (rs:=[.tmp 6]) _ _ Tryz.func110 rfl rfl rfl Kr rfl ?_
 (refine gW ?_;intros)
 exact⟨(),Tt,by repeat' (first|exact Tt|exact rfl|exact Nat.le_refl _|refine And.intro ?_ ?_),rfl⟩
theorem of1A_ok (rec:Loop)(t:Int)(y:Nat)(l:List Fct)(hx:fitL l)(k:Ke)(kn:Int)
 (hy:∀ (q:List Fct) (x:Fct),x∈l→YieldVC Tryz.prog y [.d (.agg (eFct x))] ⟨[],[some (.box 42 [.d (eFcts l)]),some (.box 90 (up (eKe k))),some (.box 3 [.d (.int .i64 kn)]),some (.box 3 [.d (.int .i64 t)]),some (.box 94 (up (eFct ((q.foldl (stepF t) none).getD zF)))),some (.box 4 [.d (.bool (q.foldl (stepF t) none).isSome)]),some (.loop y rec [(6,.ptr (.arg 3) 0 0 0),(10,.ptr (.arg 4) 0 0 0),(11,.ptr (.arg 5) 0 0 0)])]⟩
  (Ret (fun q:List Fct=>([.d (.bool true)],⟨[],[bX 42 [.d (eFcts l)],bX 90 (up (eKe k)),bX 3 [dV kn],bX 3 [dV t],bX 94 (up (eFct ((q.foldl (stepF t) none).getD zF))),bX 4 [.d (.bool (q.foldl (stepF t) none).isSome)],some (.loop y rec [(6,ap 3),(10,ap 4),(11,ap 5)])]⟩)) fun q'=>q'=q++[x])) :
 CallVC Tryz.prog 164 [.fn (.yield y) [] [],ap 0,ap 1,ap 2] ((fun q:List Fct=>⟨[],[bX 42 [.d (eFcts l)],bX 90 (up (eKe k)),bX 3 [dV kn],bX 3 [dV t],bX 94 (up (eFct ((q.foldl (stepF t) none).getD zF))),bX 4 [.d (.bool (q.foldl (stepF t) none).isSome)],some (.loop y rec [(6,ap 3),(10,ap 4),(11,ap 5)])]⟩) [])
  (Ret (fun q:List Fct=>([],⟨[],[bX 42 [.d (eFcts l)],bX 90 (up (eKe k)),bX 3 [dV kn],bX 3 [dV t],bX 94 (up (eFct ((q.foldl (stepF t) none).getD zF))),bX 4 [.d (.bool (q.foldl (stepF t) none).isSome)],some (.loop y rec [(6,ap 3),(10,ap 4),(11,ap 5)])]⟩)) fun q=>q=l.filter (hitK k kn)):=by
 have hx':l.length<=9223372036854775807:=hx
 refine call_rule hT (T:=tab) (N:=30) (rs:=[]) _ _ Tryz.func164 rfl rfl rfl Kr rfl ?_
 (refine gW ?_;intros)
 refine loop_rule hT (S:=Nat × List Fct) (fun z=>([(0,.fn (.yield y) [] []),(2,ap 1),(3,ap 2),(7,.d (eFcts l)),(8,dV l.length),(9,dV z.1)],(fun q:List Fct=>⟨[],[bX 42 [.d (eFcts l)],bX 90 (up (eKe k)),bX 3 [dV kn],bX 3 [dV t],bX 94 (up (eFct ((q.foldl (stepF t) none).getD zF))),bX 4 [.d (.bool (q.foldl (stepF t) none).isSome)],some (.loop y rec [(6,ap 3),(10,ap 4),(11,ap 5)])]⟩) z.2))
  (fun z=>z.1<=l.length/\l.filter (hitK k kn)=z.2++(l.drop z.1).filter (hitK k kn)) (fun z=>l.length-z.1) (0,[]) ?_ ?_ ?_
 .exact lq
  all_goals (intro i hi;exact⟨rfl,rfl⟩)
 .exact⟨Nat.zero_le _,rfl⟩
 .rintro⟨j,q⟩ ⟨hj,hc⟩
  dsimp only at hj hc
  by_cases hj2:j<l.length
  .have hm:=getD_mem (xs:=l) (k:=j) hj2
   rw[drop_at hj2,List.filter_cons]at hc
   have kc:Kp _:=⟨hc⟩
   clear hc
   by_cases hk:(l.getD j default).kind=k.kind/\(l.getD j default).subject=k.subject/\(l.getD j default).object=k.object
   .by_cases hn:(l.getD j default).known<=kn
    .have hh:hitK k kn (l.getD j default)=true:=by simp only[hitK,Bool.and_eq_true,decide_eq_true_eq,kOf_eq];exact⟨hk,hn⟩
     obtain⟨hk1,hk2,hk3⟩:=hk
     (refine gP ?_;intros)
     refine(hy q (l.getD j default) hm).at [.arg 0,.arg 1,.arg 2,.arg 3,.arg 4,.arg 5,.arg 6] rfl ⟨rfl,rfl,rfl,rfl,rfl,rfl,rfl,Tt⟩ (fun s' hs'=>⟨rfl,?_⟩)
     subst hs'
     (refine gP ?_;intros)
     refine stp (j+1,q++[l.getD j default]) ?_ ⟨by show j+1<=l.length;omega,by rw[kc.h,if_pos hh];simp⟩
     exact lq
     all_goals (intro i hi;exact⟨rfl,rfl⟩)
    .have hh:¬ hitK k kn (l.getD j default)=true:=by simp only[hitK,Bool.and_eq_true,decide_eq_true_eq];exact fun h=>hn h.2
     obtain⟨hk1,hk2,hk3⟩:=hk
     (refine gP ?_;intros)
     refine stp (j+1,q) ?_ ⟨by show j+1<=l.length;omega,by rw[kc.h,if_neg hh]⟩
     exact lq
     all_goals (intro i hi;exact⟨rfl,rfl⟩)
   .have hh:¬ hitK k kn (l.getD j default)=true:=by simp only[hitK,Bool.and_eq_true,decide_eq_true_eq,kOf_eq];exact fun h=>hk h.1
    (refine gP ?_;intros)
    refine stp (j+1,q) ?_ ⟨by show j+1<=l.length;omega,by rw[kc.h,if_neg hh]⟩
    exact lq
    all_goals (intro i hi;exact⟨rfl,rfl⟩)
  .rw[drop_end Om,List.filter_nil,List.append_nil]at hc
   (refine gW ?_;intros)
   refine⟨_,hc.symm,?_,rfl⟩
   exact lq
   all_goals (intro i hi;exact⟨rfl,rfl⟩)
theorem at_ok (l:List Fct) (hl:fitL l) (k:Ke) (t kn:Int):Pure Tryz.prog 40 [eFcts l,.agg (eKe k),.int .i64 t,.int .i64 kn] [.int .i64 (atV l k t kn).1,.bool (atV l k t kn).2]:=by
 refine pure_rule hT (T:=tab) (N:=50) (rs:=[.tmp 8,.tmp 9]) Tryz.func40 rfl rfl rfl Kr rfl ?_
 (refine gW ?_;intros)
 refine(of_facts l k kn).at [] rfl Tt (fun _ _=>⟨rfl,?_⟩)
 (refine gW ?_;intros)
 refine Awp.range (caps:=[lp 4,lp 5,lp 6]) [(6,lp 1),(10,lp 2),(11,lp 3)] (.inl rfl) (nl:=7) (na:=0) ⟨⟨rfl,rfl⟩,⟨rfl,rfl⟩,⟨rfl,rfl⟩,Tt⟩ ?_
 intro y r h1 h2 h3 h4 h5 h6
 refine(of1A_ok r t y l hl k kn ?_).at [.loc 4,.loc 5,.loc 6,.loc 1,.loc 2,.loc 3,.loc 7] rfl ⟨rfl,rfl,rfl,rfl,rfl,rfl,rfl,Tt⟩ (fun s hs=>⟨rfl,?_⟩)
 .intro q x hx
  obtain⟨b,hb⟩:∃b,q.foldl (stepF t) none=b:=⟨_,rfl⟩
  have hn:(q++[x]).foldl (stepF t) none=stepF t b x:=by rw[List.foldl_append,hb];rfl
  have hp:=stepF_pair t b x
  rw[hb]
  obtain⟨s,hs⟩:∃s,b.isSome=s:=⟨_,rfl⟩
  obtain⟨g,hg⟩:∃g,b.getD zF=g:=⟨_,rfl⟩
  rw[hs,hg]at hp⊢
  refine yieldMono (yield_rule (N:=50) (ps:=[17]) (args:=[.d (.agg (eFct x))])
   (bs:=[bX 42 [.d (eFcts l)],bX 90 (up (eKe k)),bX 3 [dV kn],bX 3 [dV t],bX 94 (up (eFct g)),bX 4 [.d (.bool s)]]) (env0:=[(6,ap 3),(10,ap 4),(11,ap 5)])
   (fun z:Bool × Fct=>[bX 42 [.d (eFcts l)],bX 90 (up (eKe k)),bX 3 [dV kn],bX 3 [dV t],bX 94 (up (eFct z.2)),bX 4 [.d (.bool z.1)]]) (fun _=>none) (fun z=>z=stepP t s g x) h1 h3 h4 h5 h6 rfl (by simp) ?_ rfl rfl ?_) ?_
  .exact lq
  .clear hp hn hb hs hg
   refine Awp.of_vc hT ?_
   (refine gW ?_;intros)
   refine Awp.of_vc hT ?_
   by_cases e1:x.fr<=t
   .by_cases e2:t<x.til
    .have hh:hitT t x=true:=by simp[hitT,e1,e2]
     cases s with
     | false =>
       (refine gW ?_;intros)
       exact⟨(true,x),by simp[stepP,hh],rfl,rfl,by repeat' (first|exact Tt|exact rfl|exact Nat.le_refl _|refine And.intro ?_ ?_)⟩
     | true =>
       have hC:=fcompare_ok x g
       have hB:=fctC_bef x g
       cases e3:befF x g
       .rw[e3]at hB
        have hB':0<=fctC x g:=by simpa using hB
        (refine gW ?_;intros)
        refine hC.call ?_
        (refine gW ?_;intros)
        exact⟨(true,x),by simp[stepP,hh,e3],rfl,rfl,by repeat' (first|exact Tt|exact rfl|exact Nat.le_refl _|refine And.intro ?_ ?_)⟩
       .rw[e3]at hB
        have hB':¬ 0<=fctC x g:=by simpa using hB
        (refine gW ?_;intros)
        refine hC.call ?_
        (refine gW ?_;intros)
        exact⟨(true,g),by simp[stepP,hh,e3],rfl,rfl,by repeat' (first|exact Tt|exact rfl|exact Nat.le_refl _|refine And.intro ?_ ?_)⟩
    .have hh:hitT t x=false:=by simp[hitT,e2]
     (refine gW ?_;intros)
     exact⟨(s,g),by simp[stepP,hh],rfl,rfl,by repeat' (first|exact Tt|exact rfl|exact Nat.le_refl _|refine And.intro ?_ ?_)⟩
   .have hh:hitT t x=false:=by simp[hitT,e1]
    (refine gW ?_;intros)
    exact⟨(s,g),by simp[stepP,hh],rfl,rfl,by repeat' (first|exact Tt|exact rfl|exact Nat.le_refl _|refine And.intro ?_ ?_)⟩
  .rintro A m' ⟨z,hJ,rfl,rfl⟩
   refine⟨q++[x],rfl,rfl,?_⟩
   dsimp only
   rw[hn,hp.1,hp.2,<-hJ]
   show(⟨[],[some _,some _,some _,some _,some _,some _,some (.loop y (after r none) _)]⟩:Mem)=_
   rw[after_none h1 h2]
 .have hv:s.foldl (stepF t) none=bestF l k t kn:=by rw[hs];rfl
  unfold atV
  dsimp only
  rw[hv]
  obtain⟨b,hb⟩:∃b,bestF l k t kn=b:=⟨_,rfl⟩
  rw[hb]
  have hO:atO b=if b.isSome&&!decide ((b.getD zF).value<0) then((b.getD zF).value,true) else(0,false):=by
   cases b with
   |none=>rfl
   |some f=>by_cases e:f.value<0<;>simp[atO,e]
  rw[hO]
  clear hO hb hv hs
  generalize b.isSome=s
  generalize b.getD zF=g
  cases s
  ·(refine gW ?_;intros)
   refine⟨none,by rw[after_none h1 h2];rfl,?_⟩
   show Sq _ _
   (refine gW ?_;intros)
   exact⟨rfl,rfl,Tt⟩
  .by_cases e:g.value<0
   .rw[decide_eq_true e]
    (refine gW ?_;intros)
    refine⟨none,by rw[after_none h1 h2];rfl,?_⟩
    show Sq _ _
    (refine gW ?_;intros)
    exact⟨rfl,rfl,Tt⟩
   .rw[decide_eq_false e]
    (refine gW ?_;intros)
    refine⟨none,by rw[after_none h1 h2];rfl,?_⟩
    show Sq _ _
    (refine gW ?_;intros)
    exact⟨rfl,rfl,Tt⟩
end Go.Proofs.YtmlhghddfobmmaaGreatDoor
