import Derived.Test.YtmlhghddfobmmaaGreatDoorNmA
import Derived.Test.YtmlhghddfobmmaaGreatDoorNamP
import Derived.Test.YtmlhghddfobmmaaGreatDoorOpsF
namespace Go.Proofs.YtmlhghddfobmmaaGreatDoor
set_option linter.unusedSimpArgs false
set_option linter.unusedVariables false
open Go Go.Ab
set_option maxRecDepth 100000
set_option maxHeartbeats 0
theorem ix_mnt (p:Crs->Bool):∀(l:List Crs) (k:Int),ix p l k=if l.findIdx p<l.length then k+(l.findIdx p:Int) else -1
 |[],k=>by simp[ix]
 | x :: r,k=>by
   rw[ix,ix_mnt p r (k+1),List.findIdx_cons]
   cases h:p x with
   |true=>simp
   | false =>
     simp only[cond_false,List.length_cons,Bool.false_eq_true,if_false]
     by_cases h1:r.findIdx p<r.length
     .rw[if_pos h1,if_pos Om]
      push_cast
      omega
     .rw[if_neg h1,if_neg Om]
theorem mntZ_ix (l:List Crs)(s:ByteArray)(n:Int):ix (isM s n) l 0=mntZ l s n:=by
 rw[ix_mnt,Int.zero_add]
 rfl
theorem meant1_ok (s:ByteArray)(n:Int)(x:Crs):Pure Tryz.prog 171 [.agg (eCrs x),.pt [.str s] 0,.pt [di n] 0] [.bool (isM s n x)]:=by
 unfold isM
 refine pure_rule hT (T:=tab) (N:=15) (rs:=[.tmp 4]) Tryz.func171 rfl rfl rfl Kr rfl ?_
 by_cases h:s=.empty
 .rw[if_pos h]
  (refine gW ?_;intros)
  exact⟨rfl,Tt⟩
 .rw[if_neg h]
  (refine gW ?_;intros)
  exact⟨rfl,Tt⟩
theorem idxM_ok (xs:List Crs)(hx:xs.length<=1000000)(f:FuncId)(c0 c1:D)(p:Crs->Bool)(hp:∀s,s∈xs->Pure Tryz.prog f [.agg (eCrs s),c0,c1] [.bool (p s)]) :
 Pure Tryz.prog 170 [eCrss xs,.fn (.func f) [] [c0,c1]] [di (ix p xs 0)]:=by
 refine pure_rule hT (T:=tab) (N:=19) (rs:=[.tmp 4]) Tryz.func170 rfl rfl rfl Kr rfl ?_
 (refine gW ?_;intros)
 refine loop_rule hT (S:=Nat) (fun k=>([(0,.d (eCrss xs)),(1,.d (.fn (.func f) [] [c0,c1])),(7,dV xs.length),(8,dV k)],⟨[],[]⟩)) (fun k=>k<=xs.length/\ix p xs 0=ix p (xs.drop k) k) (fun k=>xs.length-k) 0 ?_ ?_ ?_
 .repeat' (first|exact Tt|exact rfl|exact Nat.le_refl _|refine And.intro ?_ ?_)
 .exact⟨Nat.zero_le _,rfl⟩
 .rintro k ⟨hk,hc⟩
  ((refine xW ?_ ?_)<;>intros)
  .refine⟨⟨f,[],[.d c0,.d c1],.inr ⟨[],[c0,c1],rfl,rfl,rfl⟩,(hp (xs.getD k default) (getD_mem Om)).call ?_⟩⟩
   ((refine xW ?_ ?_)<;>(intros;try rename_i h))
   .refine⟨congrArg (D.int .i64) ?_,Tt⟩
    rw[hc,drop_at Om,ix,if_pos h]
   .refine⟨k+1,⟨by show k+1<=xs.length;omega,?_⟩,by show xs.length-(k+1)<xs.length-k;omega,?_⟩
    .rw[hc,drop_at Om,ix,if_neg (by rw[h];exact Bool.false_ne_true)]
     rfl
    .repeat' (first|exact Tt|exact rfl|exact Nat.le_refl _|refine And.intro ?_ ?_)
  .refine⟨congrArg (D.int .i64) ?_,Tt⟩
   have:k=xs.length:=by omega
   rw[hc]
   simp[this,ix]
theorem meant_ok (c:Cat)(hl:c.crs.length<=1000000)(s:ByteArray)(n:Int):Pure Tryz.prog 119 [.agg (eCat c),.str s,di n] [di (mntZ c.crs s n)]:=by
 have hI:=idxM_ok c.crs hl 171 (.pt [.str s] 0) (.pt [di n] 0) (isM s n) fun x _=>meant1_ok s n x
 rw[mntZ_ix]at hI
 refine pure_rule hT (T:=tab) (N:=11) (rs:=[.tmp 6]) Tryz.func119 rfl rfl rfl Kr rfl ?_
 (refine gW ?_;intros)
 refine hI.loan rfl ⟨.d,.fn' Tt ⟨.ptr' rfl ⟨.d,Tt⟩,.ptr' rfl ⟨.d,Tt⟩,Tt⟩,Tt⟩ ?_
 (refine gW ?_;intros)
 exact⟨rfl,Tt⟩
theorem numO_cases (l:List Crs)(s:ByteArray)(n:Int):(s=.empty/\numO l s n=some n)\/(s≠.empty/\mnt l s 0<l.length/\numO l s n=some (l.getD (mnt l s 0) default).number)\/(s≠.empty/\¬ mnt l s 0<l.length/\numO l s n=none):=by
 by_cases h:s=.empty
 .exact .inl ⟨h,by rw[numO,if_pos h]⟩
 .right
  by_cases h1:mnt l s 0<l.length
  .exact .inl ⟨h,h1,by rw[numO,if_neg h,mnt_name h l n 0,if_pos h1]⟩
  .exact .inr ⟨h,h1,by rw[numO,if_neg h,mnt_name h l n 0,if_neg h1]⟩
theorem numberM_ok (c:Cat)(hl:c.crs.length<=1000000)(s:ByteArray)(n:Int):Mix Tryz.prog 69 [.agg (eCat c),.str s,di n] (numO c.crs s n).isSome [di ((numO c.crs s n).getD 0)] (chE 110):=by
 have hM:=meant_ok c hl s 0
 refine mix_rule hT (T:=tab) (N:=23) (rs:=[.tmp 6]) Tryz.func69 rfl rfl rfl Kr rfl ?_
 rcases numO_cases c.crs s n with ⟨h,e⟩|⟨h,h1,e⟩|⟨h,h1,e⟩
 .rw[e]
  clear hM
  (refine gW ?_;intros)
  exact⟨rfl,.d,Tt⟩
 .have hz:mntZ c.crs s 0=(mnt c.crs s 0:Int):=if_pos h1
  rw[hz]at hM
  rw[e]
  clear hz e
  generalize mnt c.crs s 0=j at hM h1⊢
  (refine gW ?_;intros)
  refine hM.call ?_
  (refine gW ?_;intros)
  refine((demandM_ok _ 110).1 (decide_eq_true Om)).call ?_
  (refine gW ?_;intros)
  exact⟨rfl,.d,Tt⟩
 .have hz:mntZ c.crs s 0=-1:=if_neg h1
  rw[hz]at hM
  rw[e]
  clear hz e h1
  (refine gW ?_;intros)
  refine hM.call ?_
  (refine gS ?_;intros)
  refine Sq.alt (Awp.seq (Awp.pan hT 2 rfl rfl rfl Kr ?_))
  (refine gS ?_;intros)
  exact Pan.vc ((demandM_ok _ 110).2 (decide_eq_false Om)) ⟨.d,.d,Tt⟩ (Ev.mk ⟨rfl,rfl⟩)
theorem cloneRul_ok (q:List Rule)(hq:q.length<=1000000):CallVC Tryz.prog 118 [.d (eRules q)] ⟨[],[]⟩
 (Ret (fun _:Unit=>([.osl (.loc 0) 1 0 q.length],⟨[bV 66 6 1 q.length (rowsOf eRule q)],[]⟩)) fun _=>True):=by
 obtain⟨F,hF,hf⟩:∃F,eRules q=.sl 6 q.length F/\∀i,i<q.length->F i=eRule (q.getD i default):=⟨eRulesF q,rfl,fun i hi=>by
  rw[eRulesF_ne (fun e=>by rw[e]at hi;exact absurd hi (Nat.not_lt_zero _))]⟩
 rw[hF]
 refine call_rule hT (T:=tab) (N:=8) (rs:=[.tmp 2]) _ _ Tryz.func118 rfl rfl rfl Kr rfl ?_
 (refine gW ?_;intros)
 refine op_isnil rfl Tryz.underlying64 rfl rfl (fun b hb=>?_)
 cases b
 ·(refine gW ?_;intros)
  refine⟨(),Tt,?_,rfl⟩
  repeat' (first|exact Tt|exact rfl|exact Nat.le_refl _|refine And.intro ?_ ?_)
  .show AV.osl (.loc 0) (0+1) 0 (0+q.length)=AV.osl (.loc 0) 1 0 q.length
   rw[Nat.zero_add q.length]
  .show q.length<=0+q.length
   omega
  all_goals first
   | (show 0 + q.length=q.length
      omega)
   | (show 0 + q.length≤q.length
      omega)
   | (show q.length=0 + q.length
      omega)
   | (intro j hj
      refine⟨?_,rfl⟩
      rw[joinF,show j.blt 0=false from rfl,cond_false,Nat.sub_zero]
      show up (F j)=up (eRule _)
      rw[hf j hj])
 .have h0:q=[]:=List.eq_nil_of_length_eq_zero (hb rfl)
  subst h0
  (refine gS ?_;intros)
  refine Sq.go ?_
  (refine gS ?_;intros)
  refine Sq.alt (Awp.vecG 2 66 6 1 (rowsOf eRule []) rfl (vc_ok hT _ _ _ _ (Ev.o ?_)))
  (refine gW ?_;intros)
  refine⟨(),Tt,?_,rfl⟩
  repeat' (first|exact Tt|exact rfl|exact Nat.le_refl _|refine And.intro ?_ ?_)
  all_goals (intro j hj;exact absurd hj (Nat.not_lt_zero j))
theorem condH {P:Program}{N:Nat}{c:Operand}{x y:Code}{env:Env}{m:Mem}{Q:Post}{b:Bool}(hb:strip (ev env c)=(.d (.bool b),[]))(h1:b=true)(h:Awp P N x env m Q):Awp P N (.cond c x y) env m Q:=by
 subst h1
 exact Awp.condT hb h
structure Wrm (p:Prop):Prop where
 p:p
theorem cutM {T G:Prop}(h:Wrm T->G)(t:T):G:=h ⟨t⟩
theorem kids_cnt {r:Rule}(h:cntR r<=1000000):r.kids.length<=1000000/\∀k∈r.kids,cntR k<=1000000:=by
 rw[cntR_eq]at h
 have k1:∀ks:List Rule,ks.length<=cntRs ks:=fun ks=>by
  induction ks with
  |nil=>exact Nat.zero_le _
  |cons k ks ih=>rw[cntRs_cons,List.length_cons,cntR_eq];omega
 have k2:∀(k:Rule) (ks:List Rule),k∈ks->cntR k<=cntRs ks:=fun k ks=>by
  induction ks with
  |nil=>intro h;cases h
  | cons x ks ih =>
    intro h
    rw[cntRs_cons]
    rcases List.mem_cons.1 h with rfl|h
    .omega
    .have:=ih h;omega
 exact⟨Nat.le_trans (k1 r.kids) Om,fun k hk=>Nat.le_trans (k2 k _ hk) Om⟩
def dZR:List D:=[di 0,di 0,.str .empty,di 0,di 0,.nils]
theorem ruleM_ok (c:Cat)(hl:c.crs.length<=1000000):∀r:Rule,cntR r<=1000000->Mix Tryz.prog 68 [.agg (eCat c),.agg (eRule r)] (okN c.crs r) [.agg (eRule (resR c.crs r))] (chE 110):=by
 refine rule_ind fun r ih hcn=>?_
 obtain⟨hkl,hkc⟩:=kids_cnt hcn
 cases hr:refOk c.crs r with
 | false =>
   have hb:okN c.crs r=false:=by rw[okN_eq,hr];rfl
   rw[hb]
   clear hb ih hkl hkc
   have hn:namedR r=true/\numO c.crs r.name r.course=none:=by
    rw[refOk,Bool.or_eq_false_iff]at hr
    exact⟨by simpa using hr.1,by simpa using hr.2⟩
   have hM:=(numberM_ok c hl r.name r.course).2 (by rw[hn.2];rfl)
   have ho:r.op=5\/r.op=6\/r.op=9:=by simpa[namedR] using hn.1
   clear hn hr
   refine mix_rule hT (T:=tab) (N:=41) (rs:=[.cell 4 66]) Tryz.func68 rfl rfl rfl Kr rfl ?_
   rcases ho with h5|h6|h9
   .skip
    (refine gS ?_;intros)
    refine Sq.go ?_;(refine gS ?_;intros)
    refine Sq.go ?_;(refine gS ?_;intros)
    refine Sq.go ?_;(refine gS ?_;intros)
    refine Sq.alt (condH rfl (decide_eq_true h5) (Awp.pan hT 5 rfl rfl rfl Kr ?_))
    (refine gS ?_;intros)
    exact Pan.vc hM ⟨.d,.d,.d,Tt⟩ (Ev.mk ⟨rfl,rfl⟩)
   .skip
    (refine gS ?_;intros)
    refine Sq.go ?_;(refine gS ?_;intros)
    refine Sq.go ?_;(refine gS ?_;intros)
    (refine Sq.go ?_;(refine gS ?_;intros));(refine Sq.go ?_;(refine gS ?_;intros))
    refine Sq.alt (condH rfl (decide_eq_true h6) (Awp.pan hT 5 rfl rfl rfl Kr ?_))
    (refine gS ?_;intros)
    exact Pan.vc hM ⟨.d,.d,.d,Tt⟩ (Ev.mk ⟨rfl,rfl⟩)
   .skip
    (refine gS ?_;intros)
    refine Sq.go ?_;(refine gS ?_;intros)
    refine Sq.go ?_;(refine gS ?_;intros)
    (refine Sq.go ?_;(refine gS ?_;intros));(refine Sq.go ?_;(refine gS ?_;intros))
    refine Sq.alt (condH rfl (decide_eq_true h9) (Awp.pan hT 5 rfl rfl rfl Kr ?_))
    (refine gS ?_;intros)
    exact Pan.vc hM ⟨.d,.d,.d,Tt⟩ (Ev.mk ⟨rfl,rfl⟩)
 |true =>
 refine mix_rule hT (T:=tab) (N:=41) (rs:=[.cell 4 66]) Tryz.func68 rfl rfl rfl Kr rfl ?_
 apply cutM
 case h =>
  intro tl
  by_cases h5:r.op=5
  case pos =>
   obtain⟨q,hN⟩:∃q,numO c.crs r.name r.course=some q:=by
    rw[refOk,show namedR r=true from by simp[namedR,h5]]at hr
    exact Option.isSome_iff_exists.1 hr
   have hM:=(numberM_ok c hl r.name r.course).1 (by rw[hN];rfl)
   have hq:refN c.crs r=q:=by rw[refN,if_pos (by simp[namedR,h5]),hN];rfl
   rw[hN]at hM
   have kq:Kp _:=⟨hq⟩
   clear hq hN
   (refine gW ?_;intros)
   refine hM.call ?_
   (refine gS ?_;intros)
   refine Sq.alt (Awp.le (env':=[(2,lp 0),(3,lp 1),(4,lp 2)]) (m':=⟨[bX 32 (up (eCat c)),bX 66 (up [di r.op,di (refN c.crs r),.str r.name,di r.n,di r.d,eRules r.kids]),bX 66 (up dZR)],[]⟩) ?_ tl.p)
   repeat' (first|exact Tt|exact rfl|exact Nat.le_refl _|refine And.intro ?_ ?_)
   all_goals (rw[kq.h];rfl)
  by_cases h6:r.op=6
  case pos =>
   obtain⟨q,hN⟩:∃q,numO c.crs r.name r.course=some q:=by
    rw[refOk,show namedR r=true from by simp[namedR,h6]]at hr
    exact Option.isSome_iff_exists.1 hr
   have hM:=(numberM_ok c hl r.name r.course).1 (by rw[hN];rfl)
   have hq:refN c.crs r=q:=by rw[refN,if_pos (by simp[namedR,h6]),hN];rfl
   rw[hN]at hM
   have kq:Kp _:=⟨hq⟩
   clear hq hN
   (refine gW ?_;intros)
   refine hM.call ?_
   (refine gS ?_;intros)
   refine Sq.alt (Awp.le (env':=[(2,lp 0),(3,lp 1),(4,lp 2)]) (m':=⟨[bX 32 (up (eCat c)),bX 66 (up [di r.op,di (refN c.crs r),.str r.name,di r.n,di r.d,eRules r.kids]),bX 66 (up dZR)],[]⟩) ?_ tl.p)
   repeat' (first|exact Tt|exact rfl|exact Nat.le_refl _|refine And.intro ?_ ?_)
   all_goals (rw[kq.h];rfl)
  by_cases h9:r.op=9
  case pos =>
   obtain⟨q,hN⟩:∃q,numO c.crs r.name r.course=some q:=by
    rw[refOk,show namedR r=true from by simp[namedR,h9]]at hr
    exact Option.isSome_iff_exists.1 hr
   have hM:=(numberM_ok c hl r.name r.course).1 (by rw[hN];rfl)
   have hq:refN c.crs r=q:=by rw[refN,if_pos (by simp[namedR,h9]),hN];rfl
   rw[hN]at hM
   have kq:Kp _:=⟨hq⟩
   clear hq hN
   (refine gW ?_;intros)
   refine hM.call ?_
   (refine gS ?_;intros)
   refine Sq.alt (Awp.le (env':=[(2,lp 0),(3,lp 1),(4,lp 2)]) (m':=⟨[bX 32 (up (eCat c)),bX 66 (up [di r.op,di (refN c.crs r),.str r.name,di r.n,di r.d,eRules r.kids]),bX 66 (up dZR)],[]⟩) ?_ tl.p)
   repeat' (first|exact Tt|exact rfl|exact Nat.le_refl _|refine And.intro ?_ ?_)
   all_goals (rw[kq.h];rfl)
  have hq:refN c.crs r=r.course:=by rw[refN,if_neg (by simp[namedR,h5,h6,h9])]
  (refine gS ?_;intros)
  refine Sq.go ?_;(refine gS ?_;intros)
  refine Sq.go ?_;(refine gS ?_;intros)
  refine Sq.go ?_;(refine gS ?_;intros)
  refine Sq.go ?_;(refine gS ?_;intros)
  refine Sq.go ?_;(refine gS ?_;intros)
  refine Sq.alt (Awp.le (env':=[(2,lp 0),(3,lp 1),(4,lp 2)]) (m':=⟨[bX 32 (up (eCat c)),bX 66 (up [di r.op,di (refN c.crs r),.str r.name,di r.n,di r.d,eRules r.kids]),bX 66 (up dZR)],[]⟩) ?_ tl.p)
  rw[hq]
  repeat' (first|exact Tt|exact rfl|exact Nat.le_refl _|refine And.intro ?_ ?_)
 .obtain ⟨ks,hks⟩:∃ ks,r.kids=ks:=⟨_,rfl⟩
  rw[hks]at ih hkl hkc⊢
  have hC:=cloneRul_ok ks hkl
  have kE:Kp (okN c.crs r=ks.all (okN c.crs)):=⟨by rw[okN_eq,hr,hks,Bool.true_and]⟩
  refine Awp.of_vc hT ?_
  (refine gS ?_;intros)
  refine hC.at [] rfl Tt (fun _ _=>⟨rfl,?_⟩)
  (refine gW ?_;intros)
  refine loop_rule hT (S:=Nat) (fun k=>([(2,lp 0),(3,lp 1),(4,lp 2),(25,.osl (.loc 3) 1 0 ks.length),(26,dV ks.length),(27,dV k)],
   ⟨[bX 32 (up (eCat c)),bX 66 [dV r.op,dV (refN c.crs r),.d (.str r.name),dV r.n,dV r.d,.osl (.loc 3) 1 0 ks.length],bX 66 (up dZR),bV 66 6 1 ks.length (rowsOf eRule (mixL (resR c.crs) ks k))],[]⟩))
   (fun k=>k<=ks.length/\(ks.take k).all (okN c.crs)=true) (fun k=>ks.length-k) 0 ?_ ?_ ?_
  .rw[mixL_zero]
   repeat' (first|exact Tt|exact rfl|exact Nat.le_refl _|refine And.intro ?_ ?_)
   all_goals (intro i hi;exact⟨rfl,rfl⟩)
  .exact⟨Nat.zero_le _,rfl⟩
  .rintro k ⟨hk,ht⟩
   have kt:Kp _:=⟨ht⟩
   clear ht
   dsimp only at hk⊢
   have hLl:=mixL_len (resR c.crs) ks k
   by_cases hk2:k<ks.length
   .have hI:=ih _ (getD_mem hk2) (hkc _ (getD_mem hk2))
    have hLk:=mixL_at (resR c.crs) hk2
    rw[<-hLk]at hI
    have kS:Kp _:=⟨fun y hy j hj=>mixL_set (resR c.crs) eRule (l:=ks) (k:=k) y hy (j:=j) hj⟩
    have kA:Kp ((ks.take (k+1)).all (okN c.crs)=okN c.crs (ks.getD k default)):=⟨by rw[take_succ_at hk2,List.all_append,kt.h];simp⟩
    rw[<-hLk]at kA
    have kL:Kp _:=⟨hLk⟩
    clear hLk
    generalize mixL (resR c.crs) ks k=L at hI hLl kS kA kL⊢
    cases hok:okN c.crs (L.getD k default) with
    | false =>
      have hb:okN c.crs r=false:=by
       rw[kE.h,List.all_eq_false]
       exact⟨_,getD_mem hk2,by rw[<-kL.h,hok];exact Bool.false_ne_true⟩
      rw[hok]at hI
      have hP:=hI.2 rfl
      rw[hb]
      clear hI ih hkc
      (refine gS ?_;intros)
      refine Sq.go ?_;(refine gS ?_;intros)
      refine Sq.go ?_;(refine gS ?_;intros)
      refine Sq.alt (Awp.panD hT Kr Kr Kr [5] [7] (chE 110) Kr ?_)
      conv=>whnf
      (refine gS ?_;intros)
      refine⟨?_,Ev.mk ⟨rfl,rfl⟩⟩
      conv=>whnf
      (refine gS ?_;intros)
      exact Pan.vc hP ⟨.d,.d,Tt⟩ rfl
    | true =>
      rw[hok]at hI
      have hP:=hI.1 rfl
      have hkt:=kA.h.trans hok
      clear hI ih hkc
      (refine gW ?_;intros)
      refine qC hP ?_
      (refine gW ?_;intros)
      refine⟨k+1,⟨by show k+1<=ks.length;omega,hkt⟩,by show ks.length-(k+1)<ks.length-k;omega,?_⟩
      repeat' (first|exact Tt|exact rfl|exact Nat.le_refl _|refine And.intro ?_ ?_)
      all_goals first
       | (intro j hj
          refine⟨?_,rfl⟩
          exact kS.h _ (by rw[<-kL.h];rfl) j hj)
   .obtain rfl:k=ks.length:=by omega
    have hb:okN c.crs r=true:=by
     rw[kE.h]
     have:=kt.h
     rwa [List.take_length]at this
    obtain⟨F,hF,hf⟩:∃F,eRules (ks.map (resR c.crs))=.sl 6 ks.length F/\∀i,i<ks.length->rowsOf eRule (mixL (resR c.crs) ks ks.length) i=up (F i):=⟨eRulesF (ks.map (resR c.crs)),by unfold eRules;rw[List.length_map],fun i hi=>by
     rw[mixL_all,eRulesF_ne (fun e=>by have:=congrArg List.length e;rw[List.length_map]at this;simp at this;subst this;exact absurd hi (Nat.not_lt_zero _))]
     rfl⟩
    have hR:eRule (resR c.crs r)=[di r.op,di (refN c.crs r),.str r.name,di r.n,di r.d,.sl 6 ks.length F]:=by
     rw[resR_eq,hks]
     show[_,_,_,_,_,eRules (ks.map (resR c.crs))]=_
     rw[hF]
     rfl
    rw[hb,hR]
    clear hb hR
    generalize rowsOf eRule (mixL (resR c.crs) ks ks.length)=G at hf⊢
    clear ih hkc
    (refine gW ?_;intros)
    exact⟨rfl,.agg' ⟨.d,.d,.d,.d,.d,.rows rfl (Nat.le_of_eq (Nat.zero_add _)) (fun i hi=>by rw[Nat.zero_add];exact hf i hi),Tt⟩,Tt⟩
def stepP (t:Int)(s:Bool)(g x:Fct):Bool × Fct:=if hitT t x&&(!s||!befF x g) then(true,x) else(s,g)
theorem stepF_pair (t:Int)(b:Option Fct)(x:Fct):(stepF t b x).isSome=(stepP t b.isSome (b.getD zF) x).1/\(stepF t b x).getD zF=(stepP t b.isSome (b.getD zF) x).2:=by
 unfold stepF stepP
 cases b<;>cases hitT t x<;>simp<;>(try (cases befF x _<;>simp))
theorem of_facts (l:List Fct)(k:Ke)(kn:Int):CallVC Tryz.prog 110 [.d (eFcts l),.d (.agg (eKe k)),dV kn] ⟨[],[]⟩
 (Ret (fun _:Unit=>([.fn (.func 164) [] [lp 0,lp 1,lp 2]],⟨[bX 42 [.d (eFcts l)],bX 90 (up (eKe k)),bX 3 [dV kn]],[]⟩)) fun _=>True):=by
 refine call_rule hT (T:=tab) (N:=8) (rs:=[.tmp 6]) _ _ Tryz.func110 rfl rfl rfl Kr rfl ?_
 (refine gW ?_;intros)
 exact⟨(),Tt,by repeat' (first|exact Tt|exact rfl|exact Nat.le_refl _|refine And.intro ?_ ?_),rfl⟩
theorem of1A_ok (rec:Loop)(t:Int)(y:Nat)(l:List Fct)(hx:fitL l)(k:Ke)(kn:Int)
 (hy:∀ (q:List Fct) (x:Fct),x∈l→YieldVC Tryz.prog y [.d (.agg (eFct x))] ⟨[],[some (.box 42 [.d (eFcts l)]),some (.box 90 (up (eKe k))),some (.box 3 [.d (.int .i64 kn)]),some (.box 3 [.d (.int .i64 t)]),some (.box 94 (up (eFct ((q.foldl (stepF t) none).getD zF)))),some (.box 4 [.d (.bool (q.foldl (stepF t) none).isSome)]),some (.loop y rec [(6,.ptr (.arg 3) 0 0 0),(10,.ptr (.arg 4) 0 0 0),(11,.ptr (.arg 5) 0 0 0)])]⟩
  (Ret (fun q:List Fct=>([.d (.bool true)],⟨[],[bX 42 [.d (eFcts l)],bX 90 (up (eKe k)),bX 3 [dV kn],bX 3 [dV t],bX 94 (up (eFct ((q.foldl (stepF t) none).getD zF))),bX 4 [.d (.bool (q.foldl (stepF t) none).isSome)],some (.loop y rec [(6,ap 3),(10,ap 4),(11,ap 5)])]⟩)) fun q'=>q'=q++[x])) :
 CallVC Tryz.prog 164 [.fn (.yield y) [] [],ap 0,ap 1,ap 2] ((fun q:List Fct=>⟨[],[bX 42 [.d (eFcts l)],bX 90 (up (eKe k)),bX 3 [dV kn],bX 3 [dV t],bX 94 (up (eFct ((q.foldl (stepF t) none).getD zF))),bX 4 [.d (.bool (q.foldl (stepF t) none).isSome)],some (.loop y rec [(6,ap 3),(10,ap 4),(11,ap 5)])]⟩) [])
  (Ret (fun q:List Fct=>([],⟨[],[bX 42 [.d (eFcts l)],bX 90 (up (eKe k)),bX 3 [dV kn],bX 3 [dV t],bX 94 (up (eFct ((q.foldl (stepF t) none).getD zF))),bX 4 [.d (.bool (q.foldl (stepF t) none).isSome)],some (.loop y rec [(6,ap 3),(10,ap 4),(11,ap 5)])]⟩)) fun q=>q=l.filter (hitK k kn)):=by
 have hx':l.length<=9223372036854775807:=hx
 refine call_rule hT (T:=tab) (N:=30) (rs:=[]) _ _ Tryz.func164 rfl rfl rfl Kr rfl ?_
 (refine gW ?_;intros)
 refine loop_rule hT (S:=Nat × List Fct) (fun z=>([(0,.fn (.yield y) [] []),(2,ap 1),(3,ap 2),(7,.d (eFcts l)),(8,dV l.length),(9,dV z.1)],(fun q:List Fct=>⟨[],[bX 42 [.d (eFcts l)],bX 90 (up (eKe k)),bX 3 [dV kn],bX 3 [dV t],bX 94 (up (eFct ((q.foldl (stepF t) none).getD zF))),bX 4 [.d (.bool (q.foldl (stepF t) none).isSome)],some (.loop y rec [(6,ap 3),(10,ap 4),(11,ap 5)])]⟩) z.2))
  (fun z=>z.1<=l.length/\l.filter (hitK k kn)=z.2++(l.drop z.1).filter (hitK k kn)) (fun z=>l.length-z.1) (0,[]) ?_ ?_ ?_
 .exact lq
  all_goals (intro i hi;exact⟨rfl,rfl⟩)
 .exact⟨Nat.zero_le _,rfl⟩
 .rintro⟨j,q⟩ ⟨hj,hc⟩
  dsimp only at hj hc
  by_cases hj2:j<l.length
  .have hm:=getD_mem (xs:=l) (k:=j) hj2
   rw[drop_at hj2,List.filter_cons]at hc
   have kc:Kp _:=⟨hc⟩
   clear hc
   by_cases hk:(l.getD j default).kind=k.kind/\(l.getD j default).subject=k.subject/\(l.getD j default).object=k.object
   .by_cases hn:(l.getD j default).known<=kn
    .have hh:hitK k kn (l.getD j default)=true:=by simp only[hitK,Bool.and_eq_true,decide_eq_true_eq,kOf_eq];exact⟨hk,hn⟩
     obtain⟨hk1,hk2,hk3⟩:=hk
     (refine gP ?_;intros)
     refine(hy q (l.getD j default) hm).at [.arg 0,.arg 1,.arg 2,.arg 3,.arg 4,.arg 5,.arg 6] rfl ⟨rfl,rfl,rfl,rfl,rfl,rfl,rfl,Tt⟩ (fun s' hs'=>⟨rfl,?_⟩)
     subst hs'
     (refine gP ?_;intros)
     refine stp (j+1,q++[l.getD j default]) ?_ ⟨by show j+1<=l.length;omega,by rw[kc.h,if_pos hh];simp⟩
     exact lq
     all_goals (intro i hi;exact⟨rfl,rfl⟩)
    .have hh:¬ hitK k kn (l.getD j default)=true:=by simp only[hitK,Bool.and_eq_true,decide_eq_true_eq];exact fun h=>hn h.2
     obtain⟨hk1,hk2,hk3⟩:=hk
     (refine gP ?_;intros)
     refine stp (j+1,q) ?_ ⟨by show j+1<=l.length;omega,by rw[kc.h,if_neg hh]⟩
     exact lq
     all_goals (intro i hi;exact⟨rfl,rfl⟩)
   .have hh:¬ hitK k kn (l.getD j default)=true:=by simp only[hitK,Bool.and_eq_true,decide_eq_true_eq,kOf_eq];exact fun h=>hk h.1
    (refine gP ?_;intros)
    refine stp (j+1,q) ?_ ⟨by show j+1<=l.length;omega,by rw[kc.h,if_neg hh]⟩
    exact lq
    all_goals (intro i hi;exact⟨rfl,rfl⟩)
  .rw[drop_end Om,List.filter_nil,List.append_nil]at hc
   (refine gW ?_;intros)
   refine⟨_,hc.symm,?_,rfl⟩
   exact lq
   all_goals (intro i hi;exact⟨rfl,rfl⟩)
theorem at_ok (l:List Fct) (hl:fitL l) (k:Ke) (t kn:Int):Pure Tryz.prog 40 [eFcts l,.agg (eKe k),.int .i64 t,.int .i64 kn] [.int .i64 (atV l k t kn).1,.bool (atV l k t kn).2]:=by
 refine pure_rule hT (T:=tab) (N:=50) (rs:=[.tmp 8,.tmp 9]) Tryz.func40 rfl rfl rfl Kr rfl ?_
 (refine gW ?_;intros)
 refine(of_facts l k kn).at [] rfl Tt (fun _ _=>⟨rfl,?_⟩)
 (refine gW ?_;intros)
 refine Awp.range (caps:=[lp 4,lp 5,lp 6]) [(6,lp 1),(10,lp 2),(11,lp 3)] (.inl rfl) (nl:=7) (na:=0) ⟨⟨rfl,rfl⟩,⟨rfl,rfl⟩,⟨rfl,rfl⟩,Tt⟩ ?_
 intro y r h1 h2 h3 h4 h5 h6
 refine(of1A_ok r t y l hl k kn ?_).at [.loc 4,.loc 5,.loc 6,.loc 1,.loc 2,.loc 3,.loc 7] rfl ⟨rfl,rfl,rfl,rfl,rfl,rfl,rfl,Tt⟩ (fun s hs=>⟨rfl,?_⟩)
 .intro q x hx
  obtain⟨b,hb⟩:∃b,q.foldl (stepF t) none=b:=⟨_,rfl⟩
  have hn:(q++[x]).foldl (stepF t) none=stepF t b x:=by rw[List.foldl_append,hb];rfl
  have hp:=stepF_pair t b x
  rw[hb]
  obtain⟨s,hs⟩:∃s,b.isSome=s:=⟨_,rfl⟩
  obtain⟨g,hg⟩:∃g,b.getD zF=g:=⟨_,rfl⟩
  rw[hs,hg]at hp⊢
  refine yieldMono (yield_rule (N:=50) (ps:=[17]) (args:=[.d (.agg (eFct x))])
   (bs:=[bX 42 [.d (eFcts l)],bX 90 (up (eKe k)),bX 3 [dV kn],bX 3 [dV t],bX 94 (up (eFct g)),bX 4 [.d (.bool s)]]) (env0:=[(6,ap 3),(10,ap 4),(11,ap 5)])
   (fun z:Bool × Fct=>[bX 42 [.d (eFcts l)],bX 90 (up (eKe k)),bX 3 [dV kn],bX 3 [dV t],bX 94 (up (eFct z.2)),bX 4 [.d (.bool z.1)]]) (fun _=>none) (fun z=>z=stepP t s g x) h1 h3 h4 h5 h6 rfl (by simp) ?_ rfl rfl ?_) ?_
  .exact lq
  .clear hp hn hb hs hg
   refine Awp.of_vc hT ?_
   (refine gW ?_;intros)
   refine Awp.of_vc hT ?_
   by_cases e1:x.fr<=t
   .by_cases e2:t<x.til
    .have hh:hitT t x=true:=by simp[hitT,e1,e2]
     cases s with
     | false =>
       (refine gW ?_;intros)
       exact⟨(true,x),by simp[stepP,hh],rfl,rfl,by repeat' (first|exact Tt|exact rfl|exact Nat.le_refl _|refine And.intro ?_ ?_)⟩
     | true =>
       have hC:=fcompare_ok x g
       have hB:=fctC_bef x g
       cases e3:befF x g
       .rw[e3]at hB
        have hB':0<=fctC x g:=by simpa using hB
        (refine gW ?_;intros)
        refine hC.call ?_
        (refine gW ?_;intros)
        exact⟨(true,x),by simp[stepP,hh,e3],rfl,rfl,by repeat' (first|exact Tt|exact rfl|exact Nat.le_refl _|refine And.intro ?_ ?_)⟩
       .rw[e3]at hB
        have hB':¬ 0<=fctC x g:=by simpa using hB
        (refine gW ?_;intros)
        refine hC.call ?_
        (refine gW ?_;intros)
        exact⟨(true,g),by simp[stepP,hh,e3],rfl,rfl,by repeat' (first|exact Tt|exact rfl|exact Nat.le_refl _|refine And.intro ?_ ?_)⟩
    .have hh:hitT t x=false:=by simp[hitT,e2]
     (refine gW ?_;intros)
     exact⟨(s,g),by simp[stepP,hh],rfl,rfl,by repeat' (first|exact Tt|exact rfl|exact Nat.le_refl _|refine And.intro ?_ ?_)⟩
   .have hh:hitT t x=false:=by simp[hitT,e1]
    (refine gW ?_;intros)
    exact⟨(s,g),by simp[stepP,hh],rfl,rfl,by repeat' (first|exact Tt|exact rfl|exact Nat.le_refl _|refine And.intro ?_ ?_)⟩
  .rintro A m' ⟨z,hJ,rfl,rfl⟩
   refine⟨q++[x],rfl,rfl,?_⟩
   dsimp only
   rw[hn,hp.1,hp.2,<-hJ]
   show(⟨[],[some _,some _,some _,some _,some _,some _,some (.loop y (after r none) _)]⟩:Mem)=_
   rw[after_none h1 h2]
 .have hv:s.foldl (stepF t) none=bestF l k t kn:=by rw[hs];rfl
  unfold atV
  dsimp only
  rw[hv]
  obtain⟨b,hb⟩:∃b,bestF l k t kn=b:=⟨_,rfl⟩
  rw[hb]
  have hO:atO b=if b.isSome&&!decide ((b.getD zF).value<0) then((b.getD zF).value,true) else(0,false):=by
   cases b with
   |none=>rfl
   |some f=>by_cases e:f.value<0<;>simp[atO,e]
  rw[hO]
  clear hO hb hv hs
  generalize b.isSome=s
  generalize b.getD zF=g
  cases s
  ·(refine gW ?_;intros)
   refine⟨none,by rw[after_none h1 h2];rfl,?_⟩
   show Sq _ _
   (refine gW ?_;intros)
   exact⟨rfl,rfl,Tt⟩
  .by_cases e:g.value<0
   .rw[decide_eq_true e]
    (refine gW ?_;intros)
    refine⟨none,by rw[after_none h1 h2];rfl,?_⟩
    show Sq _ _
    (refine gW ?_;intros)
    exact⟨rfl,rfl,Tt⟩
   .rw[decide_eq_false e]
    (refine gW ?_;intros)
    refine⟨none,by rw[after_none h1 h2];rfl,?_⟩
    show Sq _ _
    (refine gW ?_;intros)
    exact⟨rfl,rfl,Tt⟩
end Go.Proofs.YtmlhghddfobmmaaGreatDoor
