import Derived.Test.YtmlhghddfobmmaaGreatDoorNmA
import Derived.Test.YtmlhghddfobmmaaGreatDoorBookI
import Derived.Test.YtmlhghddfobmmaaGreatDoorOpsF
import Derived.Test.YtmlhghddfobmmaaGreatDoorEngAQ
namespace Go.Proofs.YtmlhghddfobmmaaGreatDoor
set_option linter.unusedSimpArgs false
set_option linter.unusedVariables false
open Go Go.Ab
set_option maxRecDepth 100000
set_option maxHeartbeats 0
theorem ix_mnt (p:Crs->Bool):∀(l:List Crs) (k:Int),ix p l k=if l.findIdx p<l.length then k+(l.findIdx p:Int) else -1
 |[],k=>by simp[ix]
 | x :: r,k=>by
   rw[ix,ix_mnt p r (k+1),List.findIdx_cons]
   cases h:p x with
   |true=>simp
   | false =>
     simp only[cond_false,List.length_cons,Bool.false_eq_true,if_false]
     by_cases h1:r.findIdx p<r.length
     .rw[if_pos h1,if_pos Om]
      push_cast
      omega
     .rw[if_neg h1,if_neg Om]
theorem mntZ_ix (l:List Crs)(s:ByteArray)(n:Int):ix (isM s n) l 0=mntZ l s n:=by
 rw[ix_mnt,Int.zero_add]
 rfl
theorem meant1_ok (s:ByteArray)(n:Int)(x:Crs):Pure Tryz.prog 171 [.agg (eCrs x),.pt [.str s] 0,.pt [di n] 0] [.bool (isM s n x)]:=by
 unfold isM
 refine pure_rule hT (T:=tab) (N:=15) (rs:=[.tmp 4]) Tryz.func171 rfl rfl rfl Kr rfl ?_
 by_cases h:s=.empty
 .rw[if_pos h]
  (refine gW ?_;intros)
  exact⟨rfl,Tt⟩
 .rw[if_neg h]
  (refine gW ?_;intros)
  exact⟨rfl,Tt⟩
theorem idxM_ok (xs:List Crs)(hx:xs.length<=1000000)(f:FuncId)(c0 c1:D)(p:Crs->Bool)(hp:∀s,s∈xs->Pure Tryz.prog f [.agg (eCrs s),c0,c1] [.bool (p s)]) :
 Pure Tryz.prog 170 [eCrss xs,.fn (.func f) [] [c0,c1]] [di (ix p xs 0)]:=by
 refine pure_rule hT (T:=tab) (N:=19) (rs:=[.tmp 4]) Tryz.func170 rfl rfl rfl Kr rfl ?_
 (refine gW ?_;intros)
 refine loop_rule hT (S:=Nat) (fun k=>([(0,.d (eCrss xs)),(1,.d (.fn (.func f) [] [c0,c1])),(7,dV xs.length),(8,dV k)],⟨[],[]⟩)) (fun k=>k<=xs.length/\ix p xs 0=ix p (xs.drop k) k) (fun k=>xs.length-k) 0 ?_ ?_ ?_
 .repeat' (first|exact Tt|exact rfl|exact Nat.le_refl _|refine And.intro ?_ ?_)
 .exact⟨Nat.zero_le _,rfl⟩
 .rintro k ⟨hk,hc⟩
  ((refine xW ?_ ?_)<;>intros)
  .refine⟨⟨f,[],[.d c0,.d c1],.inr ⟨[],[c0,c1],rfl,rfl,rfl⟩,(hp (xs.getD k default) (getD_mem Om)).call ?_⟩⟩
   ((refine xW ?_ ?_)<;>(intros;try rename_i h))
   .refine⟨congrArg (D.int .i64) ?_,Tt⟩
    rw[hc,drop_at Om,ix,if_pos h]
   .refine⟨k+1,⟨by show k+1<=xs.length;omega,?_⟩,by show xs.length-(k+1)<xs.length-k;omega,?_⟩
    .rw[hc,drop_at Om,ix,if_neg (by rw[h];exact Bool.false_ne_true)]
     rfl
    .repeat' (first|exact Tt|exact rfl|exact Nat.le_refl _|refine And.intro ?_ ?_)
  .refine⟨congrArg (D.int .i64) ?_,Tt⟩
   have:k=xs.length:=by omega
   rw[hc]
   simp[this,ix]
theorem meant_ok (c:Cat)(hl:c.crs.length<=1000000)(s:ByteArray)(n:Int):Pure Tryz.prog 119 [.agg (eCat c),.str s,di n] [di (mntZ c.crs s n)]:=by
 have hI:=idxM_ok c.crs hl 171 (.pt [.str s] 0) (.pt [di n] 0) (isM s n) fun x _=>meant1_ok s n x
 rw[mntZ_ix]at hI
 refine pure_rule hT (T:=tab) (N:=11) (rs:=[.tmp 6]) Tryz.func119 rfl rfl rfl Kr rfl ?_
 (refine gW ?_;intros)
 refine hI.loan rfl ⟨.d,.fn' Tt ⟨.ptr' rfl ⟨.d,Tt⟩,.ptr' rfl ⟨.d,Tt⟩,Tt⟩,Tt⟩ ?_
 (refine gW ?_;intros)
 exact⟨rfl,Tt⟩
theorem numO_cases (l:List Crs)(s:ByteArray)(n:Int):(s=.empty/\numO l s n=some n)\/(s≠.empty/\mnt l s 0<l.length/\numO l s n=some (l.getD (mnt l s 0) default).number)\/(s≠.empty/\¬ mnt l s 0<l.length/\numO l s n=none):=by
 by_cases h:s=.empty
 .exact .inl ⟨h,by rw[numO,if_pos h]⟩
 .right
  by_cases h1:mnt l s 0<l.length
  .exact .inl ⟨h,h1,by rw[numO,if_neg h,mnt_name h l n 0,if_pos h1]⟩
  .exact .inr ⟨h,h1,by rw[numO,if_neg h,mnt_name h l n 0,if_neg h1]⟩
theorem numberM_ok (c:Cat)(hl:c.crs.length<=1000000)(s:ByteArray)(n:Int):Mix Tryz.prog 69 [.agg (eCat c),.str s,di n] (numO c.crs s n).isSome [di ((numO c.crs s n).getD 0)] (chE 110):=by
 have hM:=meant_ok c hl s 0
 refine mix_rule hT (T:=tab) (N:=23) (rs:=[.tmp 6]) Tryz.func69 rfl rfl rfl Kr rfl ?_
 rcases numO_cases c.crs s n with ⟨h,e⟩|⟨h,h1,e⟩|⟨h,h1,e⟩
 .rw[e]
  clear hM
  (refine gW ?_;intros)
  exact⟨rfl,.d,Tt⟩
 .have hz:mntZ c.crs s 0=(mnt c.crs s 0:Int):=if_pos h1
  rw[hz]at hM
  rw[e]
  clear hz e
  generalize mnt c.crs s 0=j at hM h1⊢
  (refine gW ?_;intros)
  refine hM.call ?_
  (refine gW ?_;intros)
  refine((demandM_ok _ 110).1 (decide_eq_true Om)).call ?_
  (refine gW ?_;intros)
  exact⟨rfl,.d,Tt⟩
 .have hz:mntZ c.crs s 0=-1:=if_neg h1
  rw[hz]at hM
  rw[e]
  clear hz e h1
  (refine gW ?_;intros)
  refine hM.call ?_
  (refine gS ?_;intros)
  refine Sq.alt (Awp.seq (Awp.pan hT 2 rfl rfl rfl Kr ?_))
  (refine gS ?_;intros)
  exact Pan.vc ((demandM_ok _ 110).2 (decide_eq_false Om)) ⟨.d,.d,Tt⟩ (Ev.mk ⟨rfl,rfl⟩)
theorem cloneRul_ok (q:List Rule)(hq:q.length<=1000000):CallVC Tryz.prog 118 [.d (eRules q)] ⟨[],[]⟩
 (Ret (fun _:Unit=>([.osl (.loc 0) 1 0 q.length],⟨[bV 66 6 1 q.length (rowsOf eRule q)],[]⟩)) fun _=>True):=by
 obtain⟨F,hF,hf⟩:∃F,eRules q=.sl 6 q.length F/\∀i,i<q.length->F i=eRule (q.getD i default):=⟨eRulesF q,rfl,fun i hi=>by
  rw[eRulesF_ne (fun e=>by rw[e]at hi;exact absurd hi (Nat.not_lt_zero _))]⟩
 rw[hF]
 refine call_rule hT (T:=tab) (N:=8) (rs:=[.tmp 2]) _ _ Tryz.func118 rfl rfl rfl Kr rfl ?_
 (refine gW ?_;intros)
 refine op_isnil rfl Tryz.underlying64 rfl rfl (fun b hb=>?_)
 cases b
 ·(refine gW ?_;intros)
  refine⟨(),Tt,?_,rfl⟩
  repeat' (first|exact Tt|exact rfl|exact Nat.le_refl _|refine And.intro ?_ ?_)
  .show AV.osl (.loc 0) (0+1) 0 (0+q.length)=AV.osl (.loc 0) 1 0 q.length
   rw[Nat.zero_add q.length]
  .show q.length<=0+q.length
   omega
  all_goals first
   | (show 0 + q.length=q.length
      omega)
   | (show 0 + q.length≤q.length
      omega)
   | (show q.length=0 + q.length
      omega)
   | (intro j hj
      refine⟨?_,rfl⟩
      rw[joinF,show j.blt 0=false from rfl,cond_false,Nat.sub_zero]
      show up (F j)=up (eRule _)
      rw[hf j hj])
 .have h0:q=[]:=List.eq_nil_of_length_eq_zero (hb rfl)
  subst h0
  (refine gS ?_;intros)
  refine Sq.go ?_
  (refine gS ?_;intros)
  refine Sq.alt (Awp.vecG 2 66 6 1 (rowsOf eRule []) rfl (vc_ok hT _ _ _ _ (Ev.o ?_)))
  (refine gW ?_;intros)
  refine⟨(),Tt,?_,rfl⟩
  repeat' (first|exact Tt|exact rfl|exact Nat.le_refl _|refine And.intro ?_ ?_)
  all_goals (intro j hj;exact absurd hj (Nat.not_lt_zero j))
theorem condH {P:Program}{N:Nat}{c:Operand}{x y:Code}{env:Env}{m:Mem}{Q:Post}{b:Bool}(hb:strip (ev env c)=(.d (.bool b),[]))(h1:b=true)(h:Awp P N x env m Q):Awp P N (.cond c x y) env m Q:=by
 subst h1
 exact Awp.condT hb h
structure Wrm (p:Prop):Prop where
 p:p
theorem cutM {T G:Prop}(h:Wrm T->G)(t:T):G:=h ⟨t⟩
theorem kids_cnt {r:Rule}(h:cntR r<=1000000):r.kids.length<=1000000/\∀k∈r.kids,cntR k<=1000000:=by
 rw[cntR_eq]at h
 have k1:∀ks:List Rule,ks.length<=cntRs ks:=fun ks=>by
  induction ks with
  |nil=>exact Nat.zero_le _
  |cons k ks ih=>rw[cntRs_cons,List.length_cons,cntR_eq];omega
 have k2:∀(k:Rule) (ks:List Rule),k∈ks->cntR k<=cntRs ks:=fun k ks=>by
  induction ks with
  |nil=>intro h;cases h
  | cons x ks ih =>
    intro h
    rw[cntRs_cons]
    rcases List.mem_cons.1 h with rfl|h
    .omega
    .have:=ih h;omega
 exact⟨Nat.le_trans (k1 r.kids) Om,fun k hk=>Nat.le_trans (k2 k _ hk) Om⟩
def dZR:List D:=[di 0,di 0,.str .empty,di 0,di 0,.nils]
theorem ruleM_ok (c:Cat)(hl:c.crs.length<=1000000):∀r:Rule,cntR r<=1000000->Mix Tryz.prog 68 [.agg (eCat c),.agg (eRule r)] (okN c.crs r) [.agg (eRule (resR c.crs r))] (chE 110):=by
 refine rule_ind fun r ih hcn=>?_
 obtain⟨hkl,hkc⟩:=kids_cnt hcn
 cases hr:refOk c.crs r with
 | false =>
   have hb:okN c.crs r=false:=by rw[okN_eq,hr];rfl
   rw[hb]
   clear hb ih hkl hkc
   have hn:namedR r=true/\numO c.crs r.name r.course=none:=by
    rw[refOk,Bool.or_eq_false_iff]at hr
    exact⟨by simpa using hr.1,by simpa using hr.2⟩
   have hM:=(numberM_ok c hl r.name r.course).2 (by rw[hn.2];rfl)
   have ho:r.op=5\/r.op=6\/r.op=9:=by simpa[namedR] using hn.1
   clear hn hr
   refine mix_rule hT (T:=tab) (N:=41) (rs:=[.cell 4 66]) Tryz.func68 rfl rfl rfl Kr rfl ?_
   rcases ho with h5|h6|h9
   .skip
    (refine gS ?_;intros)
    refine Sq.go ?_;(refine gS ?_;intros)
    refine Sq.go ?_;(refine gS ?_;intros)
    refine Sq.go ?_;(refine gS ?_;intros)
    refine Sq.alt (condH rfl (decide_eq_true h5) (Awp.pan hT 5 rfl rfl rfl Kr ?_))
    (refine gS ?_;intros)
    exact Pan.vc hM ⟨.d,.d,.d,Tt⟩ (Ev.mk ⟨rfl,rfl⟩)
   .skip
    (refine gS ?_;intros)
    refine Sq.go ?_;(refine gS ?_;intros)
    refine Sq.go ?_;(refine gS ?_;intros)
    (refine Sq.go ?_;(refine gS ?_;intros));(refine Sq.go ?_;(refine gS ?_;intros))
    refine Sq.alt (condH rfl (decide_eq_true h6) (Awp.pan hT 5 rfl rfl rfl Kr ?_))
    (refine gS ?_;intros)
    exact Pan.vc hM ⟨.d,.d,.d,Tt⟩ (Ev.mk ⟨rfl,rfl⟩)
   .skip
    (refine gS ?_;intros)
    refine Sq.go ?_;(refine gS ?_;intros)
    refine Sq.go ?_;(refine gS ?_;intros)
    (refine Sq.go ?_;(refine gS ?_;intros));(refine Sq.go ?_;(refine gS ?_;intros))
    refine Sq.alt (condH rfl (decide_eq_true h9) (Awp.pan hT 5 rfl rfl rfl Kr ?_))
    (refine gS ?_;intros)
    exact Pan.vc hM ⟨.d,.d,.d,Tt⟩ (Ev.mk ⟨rfl,rfl⟩)
 |true =>
 refine mix_rule hT (T:=tab) (N:=41) (rs:=[.cell 4 66]) Tryz.func68 rfl rfl rfl Kr rfl ?_
 apply cutM
 case h =>
  intro tl
  by_cases h5:r.op=5
  case pos =>
   obtain⟨q,hN⟩:∃q,numO c.crs r.name r.course=some q:=by
    rw[refOk,show namedR r=true from by simp[namedR,h5]]at hr
    exact Option.isSome_iff_exists.1 hr
   have hM:=(numberM_ok c hl r.name r.course).1 (by rw[hN];rfl)
   have hq:refN c.crs r=q:=by rw[refN,if_pos (by simp[namedR,h5]),hN];rfl
   rw[hN]at hM
   have kq:Kp _:=⟨hq⟩
   clear hq hN
   (refine gW ?_;intros)
   refine hM.call ?_
   (refine gS ?_;intros)
   refine Sq.alt (Awp.le (env':=[(2,lp 0),(3,lp 1),(4,lp 2)]) (m':=⟨[bX 32 (up (eCat c)),bX 66 (up [di r.op,di (refN c.crs r),.str r.name,di r.n,di r.d,eRules r.kids]),bX 66 (up dZR)],[]⟩) ?_ tl.p)
   repeat' (first|exact Tt|exact rfl|exact Nat.le_refl _|refine And.intro ?_ ?_)
   all_goals (rw[kq.h];rfl)
  by_cases h6:r.op=6
  case pos =>
   obtain⟨q,hN⟩:∃q,numO c.crs r.name r.course=some q:=by
    rw[refOk,show namedR r=true from by simp[namedR,h6]]at hr
    exact Option.isSome_iff_exists.1 hr
   have hM:=(numberM_ok c hl r.name r.course).1 (by rw[hN];rfl)
   have hq:refN c.crs r=q:=by rw[refN,if_pos (by simp[namedR,h6]),hN];rfl
   rw[hN]at hM
   have kq:Kp _:=⟨hq⟩
   clear hq hN
   (refine gW ?_;intros)
   refine hM.call ?_
   (refine gS ?_;intros)
   refine Sq.alt (Awp.le (env':=[(2,lp 0),(3,lp 1),(4,lp 2)]) (m':=⟨[bX 32 (up (eCat c)),bX 66 (up [di r.op,di (refN c.crs r),.str r.name,di r.n,di r.d,eRules r.kids]),bX 66 (up dZR)],[]⟩) ?_ tl.p)
   repeat' (first|exact Tt|exact rfl|exact Nat.le_refl _|refine And.intro ?_ ?_)
   all_goals (rw[kq.h];rfl)
  by_cases h9:r.op=9
  case pos =>
   obtain⟨q,hN⟩:∃q,numO c.crs r.name r.course=some q:=by
    rw[refOk,show namedR r=true from by simp[namedR,h9]]at hr
    exact Option.isSome_iff_exists.1 hr
   have hM:=(numberM_ok c hl r.name r.course).1 (by rw[hN];rfl)
   have hq:refN c.crs r=q:=by rw[refN,if_pos (by simp[namedR,h9]),hN];rfl
   rw[hN]at hM
   have kq:Kp _:=⟨hq⟩
   clear hq hN
   (refine gW ?_;intros)
   refine hM.call ?_
   (refine gS ?_;intros)
   refine Sq.alt (Awp.le (env':=[(2,lp 0),(3,lp 1),(4,lp 2)]) (m':=⟨[bX 32 (up (eCat c)),bX 66 (up [di r.op,di (refN c.crs r),.str r.name,di r.n,di r.d,eRules r.kids]),bX 66 (up dZR)],[]⟩) ?_ tl.p)
   repeat' (first|exact Tt|exact rfl|exact Nat.le_refl _|refine And.intro ?_ ?_)
   all_goals (rw[kq.h];rfl)
  have hq:refN c.crs r=r.course:=by rw[refN,if_neg (by simp[namedR,h5,h6,h9])]
  (refine gS ?_;intros)
  refine Sq.go ?_;(refine gS ?_;intros)
  refine Sq.go ?_;(refine gS ?_;intros)
  refine Sq.go ?_;(refine gS ?_;intros)
  refine Sq.go ?_;(refine gS ?_;intros)
  refine Sq.go ?_;(refine gS ?_;intros)
  refine Sq.alt (Awp.le (env':=[(2,lp 0),(3,lp 1),(4,lp 2)]) (m':=⟨[bX 32 (up (eCat c)),bX 66 (up [di r.op,di (refN c.crs r),.str r.name,di r.n,di r.d,eRules r.kids]),bX 66 (up dZR)],[]⟩) ?_ tl.p)
  rw[hq]
  repeat' (first|exact Tt|exact rfl|exact Nat.le_refl _|refine And.intro ?_ ?_)
 .obtain ⟨ks,hks⟩:∃ ks,r.kids=ks:=⟨_,rfl⟩
  rw[hks]at ih hkl hkc⊢
  have hC:=cloneRul_ok ks hkl
  have kE:Kp (okN c.crs r=ks.all (okN c.crs)):=⟨by rw[okN_eq,hr,hks,Bool.true_and]⟩
  refine Awp.of_vc hT ?_
  (refine gS ?_;intros)
  refine hC.at [] rfl Tt (fun _ _=>⟨rfl,?_⟩)
  (refine gW ?_;intros)
  refine loop_rule hT (S:=Nat) (fun k=>([(2,lp 0),(3,lp 1),(4,lp 2),(25,.osl (.loc 3) 1 0 ks.length),(26,dV ks.length),(27,dV k)],
   ⟨[bX 32 (up (eCat c)),bX 66 [dV r.op,dV (refN c.crs r),.d (.str r.name),dV r.n,dV r.d,.osl (.loc 3) 1 0 ks.length],bX 66 (up dZR),bV 66 6 1 ks.length (rowsOf eRule (mixL (resR c.crs) ks k))],[]⟩))
   (fun k=>k<=ks.length/\(ks.take k).all (okN c.crs)=true) (fun k=>ks.length-k) 0 ?_ ?_ ?_
  .rw[mixL_zero]
   repeat' (first|exact Tt|exact rfl|exact Nat.le_refl _|refine And.intro ?_ ?_)
   all_goals (intro i hi;exact⟨rfl,rfl⟩)
  .exact⟨Nat.zero_le _,rfl⟩
  .rintro k ⟨hk,ht⟩
   have kt:Kp _:=⟨ht⟩
   clear ht
   dsimp only at hk⊢
   have hLl:=mixL_len (resR c.crs) ks k
   by_cases hk2:k<ks.length
   .have hI:=ih _ (getD_mem hk2) (hkc _ (getD_mem hk2))
    have hLk:=mixL_at (resR c.crs) hk2
    rw[<-hLk]at hI
    have kS:Kp _:=⟨fun y hy j hj=>mixL_set (resR c.crs) eRule (l:=ks) (k:=k) y hy (j:=j) hj⟩
    have kA:Kp ((ks.take (k+1)).all (okN c.crs)=okN c.crs (ks.getD k default)):=⟨by rw[take_succ_at hk2,List.all_append,kt.h];simp⟩
    rw[<-hLk]at kA
    have kL:Kp _:=⟨hLk⟩
    clear hLk
    generalize mixL (resR c.crs) ks k=L at hI hLl kS kA kL⊢
    cases hok:okN c.crs (L.getD k default) with
    | false =>
      have hb:okN c.crs r=false:=by
       rw[kE.h,List.all_eq_false]
       exact⟨_,getD_mem hk2,by rw[<-kL.h,hok];exact Bool.false_ne_true⟩
      rw[hok]at hI
      have hP:=hI.2 rfl
      rw[hb]
      clear hI ih hkc
      (refine gS ?_;intros)
      refine Sq.go ?_;(refine gS ?_;intros)
      refine Sq.go ?_;(refine gS ?_;intros)
      refine Sq.alt (Awp.panD hT Kr Kr Kr [5] [7] (chE 110) Kr ?_)
      conv=>whnf
      (refine gS ?_;intros)
      refine⟨?_,Ev.mk ⟨rfl,rfl⟩⟩
      conv=>whnf
      (refine gS ?_;intros)
      exact Pan.vc hP ⟨.d,.d,Tt⟩ rfl
    | true =>
      rw[hok]at hI
      have hP:=hI.1 rfl
      have hkt:=kA.h.trans hok
      clear hI ih hkc
      (refine gW ?_;intros)
      refine qC hP ?_
      (refine gW ?_;intros)
      refine⟨k+1,⟨by show k+1<=ks.length;omega,hkt⟩,by show ks.length-(k+1)<ks.length-k;omega,?_⟩
      repeat' (first|exact Tt|exact rfl|exact Nat.le_refl _|refine And.intro ?_ ?_)
      all_goals first
       | (intro j hj
          refine⟨?_,rfl⟩
          exact kS.h _ (by rw[<-kL.h];rfl) j hj)
   .obtain rfl:k=ks.length:=by omega
    have hb:okN c.crs r=true:=by
     rw[kE.h]
     have:=kt.h
     rwa [List.take_length]at this
    obtain⟨F,hF,hf⟩:∃F,eRules (ks.map (resR c.crs))=.sl 6 ks.length F/\∀i,i<ks.length->rowsOf eRule (mixL (resR c.crs) ks ks.length) i=up (F i):=⟨eRulesF (ks.map (resR c.crs)),by unfold eRules;rw[List.length_map],fun i hi=>by
     rw[mixL_all,eRulesF_ne (fun e=>by have:=congrArg List.length e;rw[List.length_map]at this;simp at this;subst this;exact absurd hi (Nat.not_lt_zero _))]
     rfl⟩
    have hR:eRule (resR c.crs r)=[di r.op,di (refN c.crs r),.str r.name,di r.n,di r.d,.sl 6 ks.length F]:=by
     rw[resR_eq,hks]
     show[_,_,_,_,_,eRules (ks.map (resR c.crs))]=_
     rw[hF]
     rfl
    rw[hb,hR]
    clear hb hR
    generalize rowsOf eRule (mixL (resR c.crs) ks ks.length)=G at hf⊢
    clear ih hkc
    (refine gW ?_;intros)
    exact⟨rfl,.agg' ⟨.d,.d,.d,.d,.d,.rows rfl (Nat.le_of_eq (Nat.zero_add _)) (fun i hi=>by rw[Nat.zero_add];exact hf i hi),Tt⟩,Tt⟩
noncomputable instance:DecidableEq Rule:=fun _ _=>Classical.propDecidable _
noncomputable instance:DecidableEq Crs:=fun _ _=>Classical.propDecidable _
noncomputable instance:DecidableEq Req:=fun _ _=>Classical.propDecidable _
noncomputable instance:DecidableEq Prg:=fun _ _=>Classical.propDecidable _
noncomputable instance:DecidableEq Cls:=fun _ _=>Classical.propDecidable _
noncomputable instance:DecidableEq Fee:=fun _ _=>Classical.propDecidable _
noncomputable instance:DecidableEq Cla:=fun _ _=>Classical.propDecidable _
noncomputable instance:DecidableEq Sys:=fun _ _=>Classical.propDecidable _
noncomputable instance:DecidableEq Pai:=fun _ _=>Classical.propDecidable _
theorem sameReds_ok (xs ys:List Red)(hx:xs.length<=9223372036854775807)(hy:ys.length<=9223372036854775807):Pure Tryz.prog 26 [eReds xs,eReds ys] [.bool (decide (xs=ys))]:=by
 refine pure_rule hT (T:=tab) (N:=26) (rs:=[.tmp 4]) Tryz.func26 rfl rfl rfl Kr rfl ?_
 ((refine xW ?_ ?_)<;>(intros;try rename_i h))
 .refine⟨congrArg D.bool ?_,Tt⟩
  rw[decide_eq_false]
  intro e
  rw[e]at h
  omega
 .refine loop_rule hT (S:=Nat) (fun k=>([(0,.d (eReds xs)),(1,.d (eReds ys)),(4,.d (.bool false)),(5,dV k)],⟨[],[]⟩)) (fun k=>k<=xs.length/\(xs=ys↔xs.drop k=ys.drop k)) (fun k=>xs.length-k) 0 ?_ ?_ ?_
  .exact lq
  .exact⟨Nat.zero_le _,Iff.rfl⟩
  .rintro k ⟨hk,ht⟩
   repeat' (first|with_reducible refine Sq.go ?_|((with_reducible refine Ev.mk ?_);conv=>whnf)|with_reducible refine Dr.mk ⟨Kr,Kr⟩ ?_|with_reducible refine obG ?_|with_reducible refine Ob.mk ?_ ?_|(with_reducible first|refine brT fun h=>?_|refine brF fun h=>?_|refine Br.mk (fun h=>?_) fun h=>?_)<;>(try simp only[bsl,beq_iff_eq,bne_iff_ne,bs2]at h)<;>(try contradiction)<;>try (exfalso;omega))
   .refine⟨congrArg D.bool ?_,Tt⟩
    rw[decide_eq_false]
    rw[ht,drop_at (xs:=xs) (k:=k) Om,drop_at (xs:=ys) (k:=k) Om]
    intro e
    injection e with e1 e2
    rw[e1]at h
    simp at h
   .refine⟨k+1,⟨by show k+1<=xs.length;omega,?_⟩,by show xs.length-(k+1)<xs.length-k;omega,?_⟩
    .have e:xs.getD k default=ys.getD k default:=by
      revert h
      generalize xs.getD k default=a
      generalize ys.getD k default=b
      intro h
      cases a;cases b;simp_all
     rw[ht,drop_at (xs:=xs) (k:=k) Om,drop_at (xs:=ys) (k:=k) Om,e]
     simp
    .exact lq
   .refine⟨congrArg D.bool ?_,Tt⟩
    rw[decide_eq_true]
    rw[ht]
    rw[List.drop_eq_nil_of_le Om,List.drop_eq_nil_of_le Om]
theorem sameInts_ok (xs ys:List Int)(hx:xs.length<=9223372036854775807)(hy:ys.length<=9223372036854775807):Pure Tryz.prog 25 [eInts xs,eInts ys] [.bool (decide (xs=ys))]:=by
 refine pure_rule hT (T:=tab) (N:=26) (rs:=[.tmp 4]) Tryz.func25 rfl rfl rfl Kr rfl ?_
 ((refine xW ?_ ?_)<;>(intros;try rename_i h))
 .refine⟨congrArg D.bool ?_,Tt⟩
  rw[decide_eq_false]
  intro e
  rw[e]at h
  omega
 .refine loop_rule hT (S:=Nat) (fun k=>([(0,.d (eInts xs)),(1,.d (eInts ys)),(4,.d (.bool false)),(5,dV k)],⟨[],[]⟩)) (fun k=>k<=xs.length/\(xs=ys↔xs.drop k=ys.drop k)) (fun k=>xs.length-k) 0 ?_ ?_ ?_
  .repeat' (first|exact Tt|exact rfl|exact Nat.le_refl _|refine And.intro ?_ ?_)
  .exact⟨Nat.zero_le _,Iff.rfl⟩
  .rintro k ⟨hk,ht⟩
   repeat' (first|with_reducible refine Sq.go ?_|((with_reducible refine Ev.mk ?_);conv=>whnf)|with_reducible refine Dr.mk ⟨Kr,Kr⟩ ?_|with_reducible refine obG ?_|with_reducible refine Ob.mk ?_ ?_|(with_reducible first|refine brT fun h=>?_|refine brF fun h=>?_|refine Br.mk (fun h=>?_) fun h=>?_)<;>(try simp only[bsl,beq_iff_eq,bne_iff_ne,bs2]at h)<;>(try contradiction)<;>try (exfalso;omega))
   .refine⟨congrArg D.bool ?_,Tt⟩
    rw[decide_eq_false]
    rw[ht,drop_at (xs:=xs) (k:=k) Om,drop_at (xs:=ys) (k:=k) Om]
    intro e
    injection e with e1 e2
    rw[e1]at h
    simp at h
   .refine⟨k+1,⟨by show k+1<=xs.length;omega,?_⟩,by show xs.length-(k+1)<xs.length-k;omega,?_⟩
    .have e:xs.getD k default=ys.getD k default:=by
      revert h
      generalize xs.getD k default=a
      generalize ys.getD k default=b
      intro h
      exact h
     rw[ht,drop_at (xs:=xs) (k:=k) Om,drop_at (xs:=ys) (k:=k) Om,e]
     simp
    .repeat' (first|exact Tt|exact rfl|exact Nat.le_refl _|refine And.intro ?_ ?_)
   .refine⟨congrArg D.bool ?_,Tt⟩
    rw[decide_eq_true]
    rw[ht]
    rw[List.drop_eq_nil_of_le Om,List.drop_eq_nil_of_le Om]
theorem sameClss_ok (xs ys:List Cls)(hx:xs.length<=9223372036854775807)(hy:ys.length<=9223372036854775807):Pure Tryz.prog 109 [eClss xs,eClss ys] [.bool (decide (xs=ys))]:=by
 refine pure_rule hT (T:=tab) (N:=26) (rs:=[.tmp 4]) Tryz.func109 rfl rfl rfl Kr rfl ?_
 ((refine xW ?_ ?_)<;>(intros;try rename_i h))
 .refine⟨congrArg D.bool ?_,Tt⟩
  rw[decide_eq_false]
  intro e
  rw[e]at h
  omega
 .refine loop_rule hT (S:=Nat) (fun k=>([(0,.d (eClss xs)),(1,.d (eClss ys)),(4,.d (.bool false)),(5,dV k)],⟨[],[]⟩)) (fun k=>k<=xs.length/\(xs=ys↔xs.drop k=ys.drop k)) (fun k=>xs.length-k) 0 ?_ ?_ ?_
  .repeat' (first|exact Tt|exact rfl|exact Nat.le_refl _|refine And.intro ?_ ?_)
  .exact⟨Nat.zero_le _,Iff.rfl⟩
  .rintro k ⟨hk,ht⟩
   repeat' (first|with_reducible refine Sq.go ?_|((with_reducible refine Ev.mk ?_);conv=>whnf)|with_reducible refine Dr.mk ⟨Kr,Kr⟩ ?_|with_reducible refine obG ?_|with_reducible refine Ob.mk ?_ ?_|(with_reducible first|refine brT fun h=>?_|refine brF fun h=>?_|refine Br.mk (fun h=>?_) fun h=>?_)<;>(try simp only[bsl,beq_iff_eq,bne_iff_ne,bs2]at h)<;>(try contradiction)<;>try (exfalso;omega))
   .refine⟨congrArg D.bool ?_,Tt⟩
    rw[decide_eq_false]
    rw[ht,drop_at (xs:=xs) (k:=k) Om,drop_at (xs:=ys) (k:=k) Om]
    intro e
    injection e with e1 e2
    rw[e1]at h
    simp at h
   .refine⟨k+1,⟨by show k+1<=xs.length;omega,?_⟩,by show xs.length-(k+1)<xs.length-k;omega,?_⟩
    .have e:xs.getD k default=ys.getD k default:=by
      revert h
      generalize xs.getD k default=a
      generalize ys.getD k default=b
      intro h
      cases a;cases b;simp_all
     rw[ht,drop_at (xs:=xs) (k:=k) Om,drop_at (xs:=ys) (k:=k) Om,e]
     simp
    .repeat' (first|exact Tt|exact rfl|exact Nat.le_refl _|refine And.intro ?_ ?_)
   .refine⟨congrArg D.bool ?_,Tt⟩
    rw[decide_eq_true]
    rw[ht]
    rw[List.drop_eq_nil_of_le Om,List.drop_eq_nil_of_le Om]
theorem rule_eq (a b:Rule):a=b↔a.op=b.op/\a.course=b.course/\a.name=b.name/\a.n=b.n/\a.d=b.d/\a.kids=b.kids:=by
 cases a;cases b
 simp only[Rule.mk.injEq,Rule.op,Rule.course,Rule.name,Rule.n,Rule.d,Rule.kids]
theorem eRule_ne (r:Rule)(hne:r.kids≠[]):eRule r=[di r.op,di r.course,.str r.name,di r.n,di r.d,.sl 6 r.kids.length fun i=>eRule (r.kids.getD i default)]:=by
 unfold eRule
 rw[eRules_ne hne]
 rfl
theorem sameRule_ok:∀a:Rule,wfR a->∀b:Rule,wfR b->Pure Tryz.prog 104 [.agg (eRule a),.agg (eRule b)] [.bool (decide (a=b))]:=by
 refine rule_ind fun a ih ha b hb=>?_
 obtain⟨ha1,ha2⟩:=wfR_kids ha
 obtain⟨hb1,hb2⟩:=wfR_kids hb
 have hla:=ha1.2.2.2.2
 have hlb:=hb1.2.2.2.2
 refine pure_rule hT (T:=tab) (N:=67) (rs:=[.tmp 4]) Tryz.func104 rfl rfl rfl Kr rfl ?_
 by_cases q1:a.op=b.op
 case neg =>
  rw[decide_eq_false (fun e=>q1 (by rw[e]))]
  (refine gW ?_;intros)
  all_goals first
   |exact⟨rfl,Tt⟩
   |(refine⟨congrArg D.bool ?_,Tt⟩;simp[q1];done)
   |(exfalso;simp[q1]at h;done)
   |(exfalso;rename_i h1;simp[q1]at h1;done)
 by_cases q2:a.course=b.course
 case neg =>
  rw[decide_eq_false (fun e=>q2 (by rw[e]))]
  (refine gW ?_;intros)
  all_goals first
   |exact⟨rfl,Tt⟩
   |(refine⟨congrArg D.bool ?_,Tt⟩;simp[q2];done)
   |(exfalso;simp[q2]at h;done)
   |(exfalso;rename_i h1;simp[q2]at h1;done)
 by_cases q3:a.name=b.name
 case neg =>
  rw[decide_eq_false (fun e=>q3 (by rw[e]))]
  ((refine xW ?_ ?_)<;>intros)
  all_goals first
   |exact⟨rfl,Tt⟩
   |(refine⟨congrArg D.bool ?_,Tt⟩;simp[q3];done)
   |(exfalso;simp[q3]at h;done)
   |(exfalso;rename_i h1;simp[q3]at h1;done)
 by_cases q4:a.n=b.n
 case neg =>
  rw[decide_eq_false (fun e=>q4 (by rw[e]))]
  (refine gW ?_;intros)
  all_goals first
   |exact⟨rfl,Tt⟩
   |(refine⟨congrArg D.bool ?_,Tt⟩;simp[q4];done)
   |(exfalso;simp[q4]at h;done)
   |(exfalso;rename_i h1;simp[q4]at h1;done)
 by_cases q5:a.d=b.d
 case neg =>
  rw[decide_eq_false (fun e=>q5 (by rw[e]))]
  (refine gW ?_;intros)
  all_goals first
   |exact⟨rfl,Tt⟩
   |(refine⟨congrArg D.bool ?_,Tt⟩;simp[q5];done)
   |(exfalso;simp[q5]at h;done)
   |(exfalso;rename_i h1;simp[q5]at h1;done)
 by_cases q6:a.kids.length=b.kids.length
 case neg =>
  rw[decide_eq_false (fun e=>q6 (by rw[e]))]
  (refine gW ?_;intros)
  all_goals first
   |exact⟨rfl,Tt⟩
   |(refine⟨congrArg D.bool ?_,Tt⟩;simp[q6];done)
   |(exfalso;simp[q6]at h;done)
   |(exfalso;rename_i h1;simp[q6]at h1;done)
 have hiff:a=b↔a.kids=b.kids:=by rw[rule_eq];simp only[q1,q2,q3,q4,q5,true_and]
 ((refine xW ?_ ?_)<;>intros)
 all_goals try (exfalso;first|(simp[q1,q2,q3,q4,q5,q6]at h;done)|(rename_i h1;simp[q1,q2,q3,q4,q5,q6]at h1;done))
 refine loop_rule hT (S:=Nat) (fun k=>([(2,lp 0),(3,lp 1),(4,.d (.bool false)),(5,dV k)],⟨[bX 66 (up (eRule a)),bX 66 (up (eRule b))],[]⟩)) (fun k=>k<=a.kids.length/\(a=b↔a.kids.drop k=b.kids.drop k)) (fun k=>a.kids.length-k) 0 ?_ ?_ ?_
 .repeat' (first|exact Tt|exact rfl|exact Nat.le_refl _|refine And.intro ?_ ?_)
 .exact⟨Nat.zero_le _,hiff⟩
 .rintro k ⟨hk,hc⟩
  have kc:Kp _:=⟨hc⟩
  clear hc hiff
  by_cases hk2:k<a.kids.length
  .have hna:a.kids≠[]:=fun e=>by rw[e]at hk2;exact absurd hk2 (Nat.not_lt_zero _)
   have hnb:b.kids≠[]:=fun e=>by rw[q6,e]at hk2;exact absurd hk2 (Nat.not_lt_zero _)
   have hkb:k<b.kids.length:=by omega
   have hma:=getD_mem (xs:=a.kids) (k:=k) hk2
   have hmb:=getD_mem (xs:=b.kids) (k:=k) hkb
   have hI:=ih _ hma (ha2 _ hma) _ (hb2 _ hmb)
   rw[eRule_ne a hna,eRule_ne b hnb]
   by_cases e:a.kids.getD k default=b.kids.getD k default
   .rw[decide_eq_true e]at hI
    have kn:Kp (a=b↔a.kids.drop (k+1)=b.kids.drop (k+1)):=⟨by
     rw[kc.h,drop_at hk2,drop_at hkb,e]
     simp⟩
    clear e
    (refine gW ?_;intros)
    refine qC hI ?_
    (refine gW ?_;intros)
    refine⟨k+1,⟨by show k+1<=a.kids.length;omega,kn.h⟩,by show a.kids.length-(k+1)<a.kids.length-k;omega,?_⟩
    repeat' (first|exact Tt|exact rfl|exact Nat.le_refl _|refine And.intro ?_ ?_)
   .rw[decide_eq_false e]at hI
    rw[decide_eq_false (fun e2=>e (by rw[e2]))]
    clear e
    (refine gW ?_;intros)
    refine qC hI ?_
    (refine gW ?_;intros)
    exact⟨rfl,Tt⟩
  .rw[decide_eq_true (kc.h.2 (by rw[drop_end Om,drop_end Om]))]
   (refine gW ?_;intros)
   exact⟨rfl,Tt⟩
theorem crs_eq (a b:Crs):a=b↔a.name=b.name/\a.number=b.number/\a.credits=b.credits/\a.rep=b.rep/\a.need=b.need/\a.bar=b.bar:=by
 cases a;cases b
 simp only[Crs.mk.injEq]
theorem sameCourse_ok (a b:Crs)(ha:wfCrs a)(hb:wfCrs b):Pure Tryz.prog 32 [.agg (eCrs a),.agg (eCrs b)] [.bool (decide (a=b))]:=by
 have hN:=sameRule_ok a.need ha.1 b.need hb.1
 have hB:=sameRule_ok a.bar ha.2 b.bar hb.2
 refine pure_rule hT (T:=tab) (N:=45) (rs:=[.tmp 4]) Tryz.func32 rfl rfl rfl Kr rfl ?_
 by_cases q1:a.name=b.name
 case neg =>
  rw[decide_eq_false (fun e=>q1 (by rw[e]))]
  ((refine xW ?_ ?_)<;>(intros;try rename_i h))
  all_goals first
   |exact⟨rfl,Tt⟩
   |(refine⟨congrArg D.bool ?_,Tt⟩;simp[q1];done)
   |(exfalso;simp[q1]at h;done)
   |(exfalso;rename_i h1;simp[q1]at h1;done)
 by_cases q2:a.number=b.number
 case neg =>
  rw[decide_eq_false (fun e=>q2 (by rw[e]))]
  (refine gW ?_;intros;try rename_i h)
  all_goals first
   |exact⟨rfl,Tt⟩
   |(refine⟨congrArg D.bool ?_,Tt⟩;simp[q2];done)
   |(exfalso;simp[q2]at h;done)
   |(exfalso;rename_i h1;simp[q2]at h1;done)
 by_cases q3:a.credits=b.credits
 case neg =>
  rw[decide_eq_false (fun e=>q3 (by rw[e]))]
  (refine gW ?_;intros;try rename_i h)
  all_goals first
   |exact⟨rfl,Tt⟩
   |(refine⟨congrArg D.bool ?_,Tt⟩;simp[q3];done)
   |(exfalso;simp[q3]at h;done)
   |(exfalso;rename_i h1;simp[q3]at h1;done)
 by_cases q4:a.rep=b.rep
 case neg =>
  rw[decide_eq_false (fun e=>q4 (by rw[e]))]
  (refine gW ?_;intros;try rename_i h)
  all_goals first
   |exact⟨rfl,Tt⟩
   |(refine⟨congrArg D.bool ?_,Tt⟩;simp[q4];done)
   |(exfalso;simp[q4]at h;done)
   |(exfalso;rename_i h1;simp[q4]at h1;done)
 by_cases q5:a.need=b.need
 case neg =>
  rw[decide_eq_false q5]at hN
  rw[decide_eq_false (fun e=>q5 (by rw[e]))]
  clear q5
  ((refine xW ?_ ?_)<;>(intros;try rename_i h))
  all_goals try (exfalso;first|(simp[q1,q2,q3,q4]at h;done)|(rename_i h1;simp[q1,q2,q3,q4]at h1;done))
  refine hN.call ?_
  (refine gW ?_;intros;try rename_i h)
  all_goals try (exfalso;first|(simp[q1,q2,q3,q4]at h;done)|(rename_i h1;simp[q1,q2,q3,q4]at h1;done))
  exact⟨congrArg D.bool (by simp[q1,q2,q3,q4]),Tt⟩
 rw[decide_eq_true q5]at hN
 by_cases q6:a.bar=b.bar
 case neg =>
  rw[decide_eq_false q6]at hB
  rw[decide_eq_false (fun e=>q6 (by rw[e]))]
  clear q5 q6
  ((refine xW ?_ ?_)<;>(intros;try rename_i h))
  all_goals try (exfalso;first|(simp[q1,q2,q3,q4]at h;done)|(rename_i h1;simp[q1,q2,q3,q4]at h1;done))
  refine hN.call ?_
  ((refine xW ?_ ?_)<;>(intros;try rename_i h))
  all_goals try (exfalso;first|(simp[q1,q2,q3,q4]at h;done)|(rename_i h1;simp[q1,q2,q3,q4]at h1;done))
  refine hB.call ?_
  (refine gW ?_;intros;try rename_i h)
  all_goals try (exfalso;first|(simp[q1,q2,q3,q4]at h;done)|(rename_i h1;simp[q1,q2,q3,q4]at h1;done))
  exact⟨congrArg D.bool (by simp[q1,q2,q3,q4]),Tt⟩
 rw[decide_eq_true q6]at hB
 rw[decide_eq_true ((crs_eq a b).2 ⟨q1,q2,q3,q4,q5,q6⟩)]
 clear q5 q6
 ((refine xW ?_ ?_)<;>(intros;try rename_i h))
 all_goals try (exfalso;first|(simp[q1,q2,q3,q4]at h;done)|(rename_i h1;simp[q1,q2,q3,q4]at h1;done))
 refine hN.call ?_
 ((refine xW ?_ ?_)<;>(intros;try rename_i h))
 all_goals try (exfalso;first|(simp[q1,q2,q3,q4]at h;done)|(rename_i h1;simp[q1,q2,q3,q4]at h1;done))
 refine hB.call ?_
 (refine gW ?_;intros;try rename_i h)
 all_goals try (exfalso;first|(simp[q1,q2,q3,q4]at h;done)|(rename_i h1;simp[q1,q2,q3,q4]at h1;done))
 exact⟨congrArg D.bool (by simp[q1,q2,q3,q4]),Tt⟩
theorem req_eq (a b:Req):a=b↔a.name=b.name/\a.credits=b.credits/\a.grade=b.grade/\a.home=b.home/\a.names=b.names/\a.fr=b.fr:=by
 cases a;cases b
 simp only[Req.mk.injEq]
def wfReq (q:Req):Prop:=fitL q.names/\fitL q.fr
def eReqH (q:Req)(h:Bool):List D:=[.str q.name,di q.credits,di q.grade,.bool h,eStrs q.names,eInts q.fr]
theorem eReqH_eq (q:Req)(h:Bool)(e:q.home=h):eReq q=eReqH q h:=by rw[<-e];rfl
theorem prg_eq (a b:Prg):a=b↔a.name=b.name/\a.number=b.number/\a.uses=b.uses/\a.earn=b.earn/\(a.mn=b.mn/\a.md=b.md)/\a.reqs=b.reqs:=by
 cases a;cases b
 simp only[Prg.mk.injEq,and_assoc]
def wfPrg2 (p:Prg):Prop:=fitL p.reqs/\∀q∈p.reqs,wfReq q
theorem eRule_fl {r:Rule}(h:r.kids=[]):eRule r=[di r.op,di r.course,.str r.name,di r.n,di r.d,eRules []]:=by
 unfold eRule
 rw[h]
def prtL (r:Rule):List Rule:=(preR 1 r).map Prod.snd
theorem prtL_eq (r:Rule):prtL r=r::r.kids.flatMap prtL:=by
 have key:∀ks:List Rule,(preL 2 ks).map Prod.snd=ks.flatMap prtL:=by
  intro ks
  induction ks with
  |nil=>rw[preL_nil];rfl
  |cons k ks ih=>rw[preL_cons,List.map_append,ih,List.flatMap_cons,preR_shift k 2 1];rfl
 unfold prtL
 rw[preR_eq,List.map_cons,key]
 rfl
theorem prtL_kid {r k:Rule}(hk:k∈r.kids){p:Rule}(hp:p∈prtL k):p∈prtL r:=by
 rw[prtL_eq r]
 exact List.mem_cons_of_mem _ (List.mem_flatMap.2 ⟨k,hk,hp⟩)
def vis {α S:Type}(step:S->α->S)(cont:S->Bool):List α->S->S
 |[],s=>s
 |x::r,s=>if cont (step s x)=true then vis step cont r (step s x) else step s x
theorem vis_app {α S:Type}(step:S->α->S)(cont:S->Bool):∀(a b:List α) (s:S),cont s=true->vis step cont (a++b) s=if cont (vis step cont a s)=true then vis step cont b (vis step cont a s) else vis step cont a s
 |[],b,s,h=>by rw[List.nil_append,vis,if_pos h]
 | x :: a,b,s,h=>by
   rw[List.cons_append,vis,vis]
   by_cases h1:cont (step s x)=true
   .rw[if_pos h1,if_pos h1,vis_app step cont a b _ h1]
   .rw[if_neg h1,if_neg h1,if_neg h1]
theorem nparts_ok (r:Rule):CallVC Tryz.prog 214 [.d (.agg (eRule r))] ⟨[],[]⟩
 (Ret (fun _:Unit=>([.fn (.func 235) [] [lp 0]],⟨[bX 66 (up (eRule r))],[]⟩)) fun _=>True):=by
 refine call_rule hT (T:=tab) (N:=4) (rs:=[.tmp 2]) _ _ Tryz.func214 rfl rfl rfl Kr rfl ?_
 (refine gW ?_;intros)
 exact⟨(),Tt,by repeat' (first|exact Tt|exact rfl|exact Nat.le_refl _|refine And.intro ?_ ?_),rfl⟩
def famY {S:Type}(E:Nat->S->List (Option Blk))(y b:Nat)(rec:Loop)(cont:S->Bool):Nat->S->List (Option Blk):=fun k s =>
 bX 103 [.fn (.yield y) [] []]::(E (k+1) s++[some (.loop b (bif cont s then rec else after rec (some .ret)) [(2,.ptr (.arg k) 0 0 0)])])
theorem famY_ok {S:Type}{n:Nat}{E:Nat->S->List (Option Blk)}(hE:Fam n E)(y b:Nat)(rec:Loop)(cont:S->Bool):Fam (n+2) (famY E y b rec cont) where
 len k s:=by simp only[famY,List.length_cons,List.length_append,List.length_nil,hE.len]
 ren ρ k k' s h:=by
  have h0:ρ (.arg k)=.arg k':=h 0 Om
  have h1:=hE.ren ρ (k+1) (k'+1) s fun j hj=>by
   have:=h (j+1) Om
   rwa [show k+(j+1)=k+1+j by omega,show k'+(j+1)=k'+1+j by omega]at this
  unfold famY
  show renO ρ _::renM ρ (E (k+1) s++_)=_
  rw[renM_app,h1]
  show bX _ [.fn (.yield y) [] []]::(E (k'+1) s++[some (.loop b _ [(2,.ptr (ρ (.arg k)) 0 0 0)])])=_
  rw[h0]
 le nl na k s h:=by
  refine⟨⟨rfl,rfl,rfl⟩,LeL_app rfl (hE.le nl na (k+1) s Om) ⟨⟨rfl,rfl,rfl,?_⟩,Tt⟩⟩
  show(Nat.blt k na&&true)=true
  rw[Bool.and_true]
  exact Nat.ble_eq_true_of_le Om
theorem nparts1_ok:∀ r:Rule,cntR r≤1000000→∀ {S:Type} (n:Nat) (E:Nat→S→List (Option Blk)) (hE:Fam n E) (y:Nat) (step:S→Rule→S) (cont:S→Bool)
 (hy:∀s,cont s=true->∀p∈prtL r,YieldVC Tryz.prog y [.d (.agg (eRule p))] ⟨[],E 0 s⟩ (Ret (fun s':S=>([.d (.bool (cont s'))],⟨[],E 0 s'⟩)) fun s'=>s'=step s p)) (s0:S) (hc:cont s0=true),
 CallVC Tryz.prog 235 [.fn (.yield y) [] [],ap 0] ⟨[],bX 66 (up (eRule r))::E 1 s0⟩
  (Ret (fun s:S=>([],⟨[],bX 66 (up (eRule r))::E 1 s⟩)) fun s=>s=vis step cont (prtL r) s0):=by
 refine rule_ind fun r ih hcn S n E hE y step cont hy s0 hc=>?_
 obtain⟨hkl,hkc⟩:=kids_cnt hcn
 obtain⟨ks,hks⟩:∃ks,r.kids=ks:=⟨_,rfl⟩
 have kpe:Kp (prtL r=r::ks.flatMap prtL):=⟨by rw[prtL_eq,hks]⟩
 have kpk:Kp (∀k∈ks,∀p∈prtL k,p∈prtL r):=⟨fun k hk p hp=>prtL_kid (hks▸hk) hp⟩
 have hyr:=hy s0 hc r (by rw[kpe.h];simp)
 rw[hks]at hkl hkc ih
 have hv0:vis step cont (prtL r) s0=if cont (step s0 r)=true then vis step cont (ks.flatMap prtL) (step s0 r) else step s0 r:=by rw[kpe.h];rfl
 rw[hv0]
 clear hv0
 by_cases hne:ks=[]
 .have hEr:eRule r=[di r.op,di r.course,.str r.name,di r.n,di r.d,.sl 6 0 fun _=>[]]:=by rw[eRule_fl (hks.trans hne),eRules_nil]
  rw[hEr]at hyr⊢
  subst hne
  clear hEr ih hkc hkl
  refine call_rule hT (T:=tab) (N:=25) (rs:=[]) _ _ Tryz.func235 rfl rfl rfl Kr rfl ?_
  (refine gW ?_;intros)
  refine YieldVC.shD hE [bX 66 (up [di r.op,di r.course,.str r.name,di r.n,di r.d,.sl 6 0 fun _=>[]])] hyr rfl ?_
  rintro s1 rfl
  cases hc1:cont (step s0 r) with
  | false =>
    (refine gW ?_;intros)
    refine⟨_,rfl,?_,rfl⟩
    repeat' (first|exact Tt|exact rfl|exact Nat.le_refl _|refine And.intro ?_ ?_)
    exact hE.le1
  | true =>
    (refine gW ?_;intros)
    refine loop_rule hT (S:=Unit) (fun _=>([(12,dV 0),(13,dV 0)],⟨[],bX 66 (up [di r.op,di r.course,.str r.name,di r.n,di r.d,.sl 6 0 fun _=>[]])::E 1 (step s0 r)⟩)) (fun _=>True) (fun _=>0) () ?_ ?_ ?_
    .repeat' (first|exact Tt|exact rfl|exact Nat.le_refl _|refine And.intro ?_ ?_)
     exact hE.le1
    .exact Tt
    .intro _ _
     (refine gW ?_;intros)
     refine⟨_,rfl,?_,rfl⟩
     repeat' (first|exact Tt|exact rfl|exact Nat.le_refl _|refine And.intro ?_ ?_)
     exact hE.le1
 .have hEr:eRule r=[.int .i64 r.op,.int .i64 r.course,.str r.name,.int .i64 r.n,.int .i64 r.d,.sl 6 ks.length fun i=>eRule (ks.getD i default)]:=by
   have:=eRule_ne r (by rw[hks];exact hne)
   rwa [hks]at this
  rw[hEr]at hyr⊢
  clear hEr
  refine call_rule hT (T:=tab) (N:=25) (rs:=[]) _ _ Tryz.func235 rfl rfl rfl Kr rfl ?_
  (refine gW ?_;intros)
  refine YieldVC.shD hE [bX 66 (up [di r.op,di r.course,.str r.name,di r.n,di r.d,.sl 6 ks.length fun i=>eRule (ks.getD i default)])] hyr rfl ?_
  rintro s1 rfl
  cases hc1:cont (step s0 r) with
  | false =>
    (refine gW ?_;intros)
    refine⟨_,rfl,?_,rfl⟩
    repeat' (first|exact Tt|exact rfl|exact Nat.le_refl _|refine And.intro ?_ ?_)
    exact hE.le1
  | true =>
    (refine gW ?_;intros)
    refine loop_rule hT (S:=Nat × S) (fun z=>([(2,lp 0),(11,.d (.sl 6 ks.length fun i=>eRule (ks.getD i default))),(12,dV ks.length),(13,dV z.1)],
     ⟨[bX 103 [.fn (.yield y) [] []]],bX 66 (up [di r.op,di r.course,.str r.name,di r.n,di r.d,.sl 6 ks.length fun i=>eRule (ks.getD i default)])::E 1 z.2⟩))
     (fun z=>z.1<=ks.length/\cont z.2=true/\vis step cont (ks.flatMap prtL) (step s0 r)=vis step cont ((ks.drop z.1).flatMap prtL) z.2) (fun z=>ks.length-z.1) (0,step s0 r) ?_ ?_ ?_
    .repeat' (first|exact Tt|exact rfl|exact Nat.le_refl _|refine And.intro ?_ ?_)
     exact hE.le1
    .exact⟨Nat.zero_le _,hc1,rfl⟩
    .rintro⟨k,s⟩ ⟨hk,hcs,hv⟩
     dsimp only at hk hcs hv⊢
     by_cases hk2:k<ks.length
     .rw [drop_at hk2,List.flatMap_cons,vis_app step cont _ _ _ hcs] at hv
      have hkm:=getD_mem (xs:=ks) hk2
      have hI:=@ih _ hkm (hkc _ hkm) S
      have kv:Kp _:=⟨hv⟩
      clear hv ih hkc
      (refine gW ?_;intros)
      refine(nparts_ok (ks.getD k default)).at [] rfl Tt (fun _ _=>⟨rfl,?_⟩)
      (refine gW ?_;intros)
      refine Awp.range (caps:=[lp 2]) [(2,lp 0)] (.inl rfl) (nl:=3) (na:=0) ⟨⟨rfl,rfl⟩,Tt⟩ ?_
      intro b rec h1 h2 h3 h4 h5 h6
      have hI2:=hI (n+2) (famY E y b rec cont) (famY_ok hE y b rec cont) b step cont ?_ s hcs
      refine CallVC.mid hE _ [.loc 2,.loc 0] [.loc 3] (Bs:=[bX 66 (up [di r.op,di r.course,.str r.name,di r.n,di r.d,.sl 6 ks.length fun i=>eRule (ks.getD i default)])])
       (Bp:=[some (.box 66 (up (eRule (ks.getD k default)))),some (.box 103 [.fn (.yield y) [] []])]) (Bq:=[some (.loop b rec [(2,.ptr (.arg 1) 0 0 0)])]) (s:=s) (by
        have:=hI2
        unfold famY at this
        rw[hcs]at this
        exact this) rfl rfl rfl ⟨rfl,rfl,Tt⟩ ⟨rfl,Tt⟩ rfl ?_
      .rintro A m0 ⟨s',hs',rfl,rfl⟩
       refine⟨s',[bX 66 (up (eRule (ks.getD k default))),bX 103 [.fn (.yield y) [] []]],[some (.loop b (bif cont s' then rec else after rec (some .ret)) [(2,ap 1)])],
        ⟨[some (.box 103 [.fn (.yield y) [] []]),some (.box 66 (up (eRule (ks.getD k default)))),some (.box 66 (up (eRule (ks.getD k default)))),some (.loop b (bif cont s' then rec else after rec (some .ret)) [(2,.ptr (.loc 0) 0 0 0)])],
         [bX 66 (up [di r.op,di r.course,.str r.name,di r.n,di r.d,.sl 6 ks.length fun i=>eRule (ks.getD i default)])]⟩,rfl,rfl,rfl,rfl,?_⟩
       subst hs'
       cases hc2:cont (vis step cont (prtL (ks.getD k default)) s) with
       | true =>
         refine⟨none,by rw[after_none h1 h2];rfl,?_⟩
         have hvv:=kv.h
         rw[if_pos hc2]at hvv
         have kw:Kp _:=⟨hvv⟩
         clear hvv
         show Sq _ _
         (refine gW ?_;intros)
         refine⟨(k+1,vis step cont (prtL (ks.getD k default)) s),⟨by show k+1<=ks.length;omega,hc2,kw.h⟩,by show ks.length-(k+1)<ks.length-k;omega,?_⟩
         repeat' (first|exact Tt|exact rfl|exact Nat.le_refl _|refine And.intro ?_ ?_)
         exact hE.le1
       | false =>
         refine⟨some .ret,rfl,?_⟩
         have hvv:=kv.h
         rw[if_neg (by rw[hc2];exact Bool.false_ne_true)]at hvv
         refine Awp.of_vc hT ?_
         (refine gW ?_;intros)
         refine⟨_,rfl,?_,rfl⟩
         rw[if_pos rfl,hvv]
         repeat' (first|exact Tt|exact rfl|exact Nat.le_refl _|refine And.intro ?_ ?_)
         exact hE.le1
      .intro q hcq p hp
       have hyp:=hy q hcq p (kpk.h _ hkm p hp)
       refine yieldMono (K:=Ret (fun s':S=>([.d (.bool (bif cont s' then(none:Option Code) else some .ret).isNone)],⟨[],(bX 103 [.fn (.yield y) [] []]::E 1 s')++[some (.loop b (after rec (bif cont s' then none else some .ret)) [(2,ap 0)])]⟩)) fun s'=>s'=step q p) ?_ ?_
       .have hY:=yield_rule (P:=Tryz.prog) (b:=b) (N:=25) (r:=rec) (ps:=[19]) (args:=[.d (.agg (eRule p))]) (bs:=bX 103 [.fn (.yield y) [] []]::E 1 q) (env0:=[(2,ap 0)])
         (fun s'=>bX 103 [.fn (.yield y) [] []]::E 1 s') (fun s'=>bif cont s' then none else some .ret) (fun s'=>s'=step q p) h1 h3 h4 h5 h6 rfl (by simp) ⟨⟨rfl,rfl,rfl⟩,hE.le1⟩ rfl rfl ?_
        .unfold famY
         rw[hcq]
         exact hY
        .refine Awp.of_vc hT ?_
         (refine gW ?_;intros)
         refine Awp.of_vc hT ?_
         (refine gW ?_;intros)
         refine YieldVC.shD hE [bX 103 [.fn (.yield y) [] []]] hyp rfl ?_
         rintro s1 rfl
         have hlen:∀s',lenL (bX 103 [.fn (.yield y) [] []]::E 1 s')=lenL (bX 103 [.fn (.yield y) [] []]::E 1 q):=fun s'=>by rw[lenL_eq,lenL_eq,List.length_cons,List.length_cons,hE.len,hE.len]
         cases hc3:cont (step q p) with
         | true =>
           (refine gW ?_;intros)
           refine⟨step q p,rfl,by dsimp only;rw[hc3];rfl,hlen _,?_⟩
           repeat' (first|exact Tt|exact rfl|exact Nat.le_refl _|refine And.intro ?_ ?_)
           exact hE.le1
         | false =>
           (refine gW ?_;intros)
           refine⟨step q p,rfl,by dsimp only;rw[hc3];rfl,hlen _,?_⟩
           repeat' (first|exact Tt|exact rfl|exact Nat.le_refl _|refine And.intro ?_ ?_)
           exact hE.le1
       .rintro A m' ⟨s',rfl,rfl,rfl⟩
        refine⟨step q p,rfl,?_,?_⟩
        .dsimp only[resA]
         cases cont (step q p)<;>rfl
        .dsimp only[famY]
         cases cont (step q p) with
         |true=>rw[cond_true,cond_true,after_none h1 h2];rfl
         |false=>rfl
     .rw[drop_end Om]at hv
      have kv:Kp _:=⟨hv⟩
      clear hv ih hkc
      (refine gW ?_;intros)
      refine⟨_,rfl,?_,rfl⟩
      rw[if_pos rfl,kv.h]
      repeat' (first|exact Tt|exact rfl|exact Nat.le_refl _|refine And.intro ?_ ?_)
      exact hE.le1
end Go.Proofs.YtmlhghddfobmmaaGreatDoor
