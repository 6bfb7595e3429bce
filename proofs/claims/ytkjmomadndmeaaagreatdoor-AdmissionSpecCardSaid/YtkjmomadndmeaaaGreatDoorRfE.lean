import Derived.Test.YtkjmomadndmeaaaGreatDoorRecB
import Derived.Test.YtkjmomadndmeaaaGreatDoorRecO
import Derived.Test.YtkjmomadndmeaaaGreatDoorNamD
import Derived.Test.YtkjmomadndmeaaaGreatDoorBookP
import Derived.Test.YtkjmomadndmeaaaGreatDoorSitP
import Derived.Test.YtkjmomadndmeaaaGreatDoorEngAS
import Derived.Test.YtkjmomadndmeaaaGreatDoorPetC
namespace Go.Proofs.YtkjmomadndmeaaaGreatDoor
set_option linter.unusedSimpArgs false
set_option linter.unusedVariables false
open Go Go.Ab
set_option maxRecDepth 100000
set_option maxHeartbeats 0
theorem rvalid15_ok (a:Att)(h:fitA a):Pure Tryz.prog 187 [.agg (eAtt a)] [.bool true]:=by
 obtain⟨h1,h2,h3,h4,h5⟩:=h
 refine pure_rule hT (T:=tab) (N:=51) (rs:=[.tmp 2]) Tryz.func187 rfl rfl rfl Kr rfl ?_
 (refine gW ?_;intros)
 refine⟨congrArg D.bool ?_,Tt⟩
 rw[Bool.eq_iff_iff]
 simp only[bsl,beq_iff_eq,bne_iff_ne,eq_self,iff_true]
 omega
theorem rcheck15_ok (l:List Att)(hl:l.length<=1000000)(hf:∀a∈l,fitA a):Pure Tryz.prog 146 [eAtts l] [di 0]:=by
 refine pure_rule hT (T:=tab) (N:=16) (rs:=[.tmp 2]) Tryz.func146 rfl rfl rfl Kr rfl ?_
 (refine gW ?_;intros)
 refine loop_rule hT (S:=Nat) (fun k=>([(0,.d (eAtts l)),(3,dV k)],⟨[],[]⟩)) (fun k=>k<=l.length) (fun k=>l.length-k) 0 ?_ ?_ ?_
 .exact lq
 .exact Nat.zero_le _
 .intro k hk
  dsimp only at hk⊢
  by_cases hk2:k<l.length
  .have hV:=rvalid15_ok _ (hf _ (getD_mem hk2))
   (refine gW ?_;intros)
   refine hV.call ?_
   (refine gW ?_;intros)
   refine⟨k+1,by show k+1<=l.length;omega,by show l.length-(k+1)<l.length-k;omega,?_⟩
   exact lq
  ·(refine gW ?_;intros)
   exact⟨rfl,Tt⟩
theorem rsums_ok (l:List Att)(hl:l.length<=1000000)(hf:∀a∈l,fitA a):Pure Tryz.prog 147 [eAtts l] [di (credF l l.length),di (poinF l l.length),di 0]:=by
 have hC:=rcheck15_ok l hl hf
 refine pure_rule hT (T:=tab) (N:=42) (rs:=[.tmp 2,.tmp 3,.tmp 4]) Tryz.func147 rfl rfl rfl Kr rfl ?_
 (refine gW ?_;intros)
 refine hC.call ?_
 (refine gW ?_;intros)
 refine loop_rule hT (S:=Nat) (fun k=>([(0,.d (eAtts l)),(6,dV (credF l k)),(7,dV (poinF l k)),(8,dV k)],⟨[],[]⟩)) (fun k=>k<=l.length) (fun k=>l.length-k) 0 ?_ ?_ ?_
 .exact lq
 .exact Nat.zero_le _
 .intro k hk
  dsimp only at hk⊢
  by_cases hk2:k<l.length
  .have hs:=credF_succ hk2
   have ht:=poinF_succ hk2
   have hb:=(sums_in hf k Om).2
   have hg:=(hf _ (getD_mem hk2)).2.2.2.2
   have hr:=(hf _ (getD_mem hk2)).2.2.1
   obtain⟨e,he⟩:∃e,credF l k=e:=⟨_,rfl⟩
   obtain⟨p,hp⟩:∃p,poinF l k=p:=⟨_,rfl⟩
   rw[he]at hs hb⊢
   rw[hp]at ht hb⊢
   have m1:0<=(l.getD k default).grade*(l.getD k default).credits:=Int.mul_nonneg hr.1 hg.1
   have m2:(l.getD k default).grade*(l.getD k default).credits<=12*(l.getD k default).credits:=Int.mul_le_mul_of_nonneg_right hr.2 hg.1
   have ks:Kp _:=⟨hs⟩
   have kt:Kp _:=⟨ht⟩
   clear hs ht he hp
   (refine gW ?_;intros)
   refine⟨k+1,by show k+1<=l.length;omega,by show l.length-(k+1)<l.length-k;omega,?_⟩
   dsimp only
   rw[ks.h,kt.h]
   exact lq
  .obtain rfl:k=l.length:=by omega
   (refine gW ?_;intros)
   exact⟨rfl,rfl,rfl,Tt⟩
theorem rearned_ok (l:List Att)(hl:l.length<=1000000)(hf:∀a∈l,fitA a):Pure Tryz.prog 93 [eAtts l] [di (earnF l l.length),di 0]:=by
 have hC:=rcheck15_ok l hl hf
 refine pure_rule hT (T:=tab) (N:=32) (rs:=[.tmp 2,.tmp 3]) Tryz.func93 rfl rfl rfl Kr rfl ?_
 (refine gW ?_;intros)
 refine hC.call ?_
 (refine gW ?_;intros)
 refine loop_rule hT (S:=Nat) (fun k=>([(0,.d (eAtts l)),(5,dV (earnF l k)),(6,dV k)],⟨[],[]⟩)) (fun k=>k<=l.length) (fun k=>l.length-k) 0 ?_ ?_ ?_
 .exact lq
 .exact Nat.zero_le _
 .intro k hk
  dsimp only at hk⊢
  by_cases hk2:k<l.length
  .have hs:=earnF_succ hk2
   have hb:=(sums_in hf k Om).1
   have hg:=(hf _ (getD_mem hk2)).2.2.2.2
   obtain⟨e,he⟩:∃e,earnF l k=e:=⟨_,rfl⟩
   rw[he]at hs hb⊢
   clear he
   by_cases h0:0<(l.getD k default).grade
   .rw[if_pos h0]at hs
    have ks:Kp _:=⟨hs⟩
    clear hs
    (refine gW ?_;intros)
    refine⟨k+1,by show k+1<=l.length;omega,by show l.length-(k+1)<l.length-k;omega,?_⟩
    dsimp only
    rw[ks.h]
    exact lq
   .rw[if_neg h0]at hs
    have ks:Kp _:=⟨hs⟩
    clear hs
    (refine gW ?_;intros)
    refine⟨k+1,by show k+1<=l.length;omega,by show l.length-(k+1)<l.length-k;omega,?_⟩
    dsimp only
    rw[ks.h]
    exact lq
  .obtain rfl:k=l.length:=by omega
   (refine gW ?_;intros)
   exact⟨rfl,rfl,Tt⟩
theorem rnew_ok (p c:Int)(hp:0<=p/\p<=1073741824)(hc:0<c/\c<=1073741824):Pure Tryz.prog 148 [di p,di c] [.agg [di (newQ p c).1,di (newQ p c).2],di 0]:=by
 have hC:=rcommon_ok p.natAbs c.natAbs
 have hP:=rsize_ok p (in64.2 Om)
 have hQ:=rsize_ok c (in64.2 Om)
 have hq:=newQ_in hp.1 hc.1
 have e1:((p.natAbs:Int).tdiv (Nat.gcd p.natAbs c.natAbs:Nat))=(newQ p c).1:=by
  unfold newQ
  rw[Int.tdiv_eq_ediv_of_nonneg Om,show((p.natAbs:Nat):Int)=p by omega]
 have e2:((c.natAbs:Int).tdiv (Nat.gcd p.natAbs c.natAbs:Nat))=(newQ p c).2:=by
  unfold newQ
  rw[Int.tdiv_eq_ediv_of_nonneg Om,show((c.natAbs:Nat):Int)=c by omega]
 obtain⟨x,hx⟩:∃x,(newQ p c).1=x:=⟨_,rfl⟩
 obtain⟨y,hy⟩:∃y,(newQ p c).2=y:=⟨_,rfl⟩
 rw[hx]at e1
 rw[hy]at e2
 rw[hx,hy]at hq⊢
 clear hx hy
 generalize Nat.gcd p.natAbs c.natAbs=g at hC hq e1 e2
 have i1:In .u64 ((p.natAbs:Int).tdiv (g:Int)):=by rw[e1];refine⟨?_,?_⟩<;>simp[IntKind.min,IntKind.max,IntKind.signed,IntKind.bits]<;>omega
 have i2:In .u64 ((c.natAbs:Int).tdiv (g:Int)):=by rw[e2];refine⟨?_,?_⟩<;>simp[IntKind.min,IntKind.max,IntKind.signed,IntKind.bits]<;>omega
 have w1:IntKind.i64.wrap ((p.natAbs:Int).tdiv (g:Int))=x:=by rw[e1];exact(in64.2 Om).wrap
 have w2:IntKind.i64.wrap ((c.natAbs:Int).tdiv (g:Int))=y:=by rw[e2];exact(in64.2 Om).wrap
 subst e1
 subst e2
 refine pure_rule hT (T:=tab) (N:=48) (rs:=[.cell 4 59,.tmp 5]) Tryz.func148 rfl rfl rfl Kr rfl ?_
 (refine gW ?_;intros)
 refine hP.call ?_
 (refine gW ?_;intros)
 refine hQ.call ?_
 (refine gW ?_;intros)
 refine hC.call ?_
 (refine gW ?_;intros)
 refine hP.call ?_
 (refine gW ?_;intros)
 refine hQ.call ?_
 ((refine xW ?_ ?_)<;>(intros;try rename_i h))
 .rw[decide_eq_false (show ¬ p<0 by omega),decide_eq_false (show ¬ c<0 by omega)]at h
  cases h
 .exact⟨.inl rfl,rfl,Tt⟩
theorem rmean15_ok (l:List Att)(hl:l.length<=1000000)(hf:∀a∈l,fitA a):Pure Tryz.prog 94 [eAtts l] [.agg [di (meanZ l).1,di (meanZ l).2],di 0]:=by
 have hS:=rsums_ok l hl hf
 obtain⟨_,h2,h3,h4⟩:=sums_in hf l.length (Nat.le_refl _)
 unfold meanZ
 generalize credF l l.length=c at hS h2 h4⊢
 generalize poinF l l.length=p at hS h3 h4⊢
 by_cases hc:c=0
 .rw[if_pos hc]
  refine pure_rule hT (T:=tab) (N:=25) (rs:=[.cell 2 59,.tmp 3]) Tryz.func94 rfl rfl rfl Kr rfl ?_
  (refine gW ?_;intros)
  refine hS.call ?_
  (refine gW ?_;intros)
  exact⟨.inl rfl,rfl,Tt⟩
 .rw[if_neg hc]
  have hN:=rnew_ok p c Om Om
  refine pure_rule hT (T:=tab) (N:=25) (rs:=[.cell 2 59,.tmp 3]) Tryz.func94 rfl rfl rfl Kr rfl ?_
  (refine gW ?_;intros)
  refine hS.call ?_
  (refine gW ?_;intros)
  refine hN.call ?_
  (refine gW ?_;intros)
  exact⟨.inl rfl,rfl,Tt⟩
theorem rbetter_ok (l:List Att)(hl:l.length<=1000000)(kd:Int)(k i:Nat)(hk:k<l.length)(hi:i<l.length):Pure Tryz.prog 188 [eAtts l,di kd,di k,di i] [.bool (bettr kd l k i)]:=by
 unfold bettr
 refine pure_rule hT (T:=tab) (N:=57) (rs:=[.tmp 8]) Tryz.func188 rfl rfl rfl Kr rfl ?_
 by_cases h0:kd=0
 .rw[if_pos h0]
  by_cases h1:(l.getD k default).grade=(l.getD i default).grade
  .rw[if_neg (fun h=>h h1)]
   by_cases h2:(l.getD k default).term=(l.getD i default).term
   .rw[if_neg (fun h=>h h2)]
    (refine gW ?_;intros)
    refine⟨congrArg D.bool ?_,Tt⟩
    exact decide_eq_decide.2 Om
   .rw[if_pos h2]
    (refine gW ?_;intros)
    exact⟨rfl,Tt⟩
  .rw[if_pos h1]
   (refine gW ?_;intros)
   exact⟨rfl,Tt⟩
 .rw[if_neg h0]
  by_cases h2:(l.getD k default).term=(l.getD i default).term
  .rw[if_neg (fun h=>h h2)]
   (refine gW ?_;intros)
   refine⟨congrArg D.bool ?_,Tt⟩
   exact decide_eq_decide.2 Om
  .rw[if_pos h2]
   (refine gW ?_;intros)
   exact⟨rfl,Tt⟩
def cntK (rp:Int->Int)(l:List Att)(i k:Nat):Bool:=(List.range k).all fun k=>!(decide (k≠i)&&(decide (rp (l.getD i default).course≠2)&&(decide ((l.getD k default).course=(l.getD i default).course)&&bettr (rp (l.getD i default).course) l k i)))
theorem cntK_succ (rp:Int->Int)(l:List Att)(i k:Nat):cntK rp l i (k+1)=(cntK rp l i k&&!(decide (k≠i)&&(decide (rp (l.getD i default).course≠2)&&(decide ((l.getD k default).course=(l.getD i default).course)&&bettr (rp (l.getD i default).course) l k i)))):=by
 unfold cntK
 rw[List.range_succ,List.all_append]
 simp only[List.all_cons,List.all_nil,Bool.and_true]
theorem keepR_eq (rp:Int->Int)(l:List Att)(i:Nat):keepR rp l i=cntK rp l i l.length:=rfl
theorem rcounted15_ok (rp:Int→Int) (hrp:∀ c,0≤rp c∧rp c≤2) (l:List Att) (hl:l.length≤1000000) (hf:∀ a∈l,fitA a) (ks:List Int) (hkl:ks.length=l.length) (hks:∀ i,i < l.length→ks.getD i default=rp (l.getD i default).course) :
 Pure Tryz.prog 142 [eAtts l,eInts ks] [eAtts (pick l (keepR rp l)),di 0]:=by
 have hC:=rcheck15_ok l hl hf
 have kks:Kp _:=⟨hks⟩
 have krp:Kp _:=⟨hrp⟩
 clear hks hrp hf
 refine pure_rule hT (T:=tab) (N:=123) (rs:=[.tmp 4,.tmp 5]) Tryz.func142 rfl rfl rfl Kr rfl ?_
 (refine gW ?_;intros)
 refine hC.call ?_
 (refine gW ?_;intros)
 refine loop_rule hT (S:=Nat) (fun k=>([(0,.d (eAtts l)),(1,.d (eInts ks)),(7,dV k)],⟨[],[]⟩)) (fun k=>k<=l.length) (fun k=>l.length-k) 0 ?_ ?_ ?_
 .exact lq
 .exact Nat.zero_le _
 .intro i hi
  dsimp only at hi⊢
  by_cases hi2:i<l.length
  .have hv:=kks.h i hi2
   have hr:=krp.h (l.getD i default).course
   rw[<-hv]at hr
   have kv:Kp _:=⟨hv⟩
   clear hv
   (refine gW ?_;intros)
   refine loop_rule hT (S:=Nat) (fun k=>([(0,.d (eAtts l)),(1,.d (eInts ks)),(7,dV i),(8,dV k)],⟨[],[]⟩)) (fun k=>k<=i) (fun k=>i-k) 0 ?_ ?_ ?_
   .exact lq
   .exact Nat.zero_le _
   .intro k hk
    dsimp only at hk⊢
    by_cases hk2:k<i
    .by_cases he:(l.getD i default).course=(l.getD k default).course
     .have hq:ks.getD i default=ks.getD k default:=by rw[kv.h,kks.h k Om,he]
      (refine gW ?_;intros)
      refine⟨k+1,by show k+1<=i;omega,by show i-(k+1)<i-k;omega,?_⟩
      exact lq
     ·(refine gW ?_;intros)
      refine⟨k+1,by show k+1<=i;omega,by show i-(k+1)<i-k;omega,?_⟩
      exact lq
    ·(refine gW ?_;intros)
     refine⟨i+1,by show i+1<=l.length;omega,by show l.length-(i+1)<l.length-i;omega,?_⟩
     exact lq
  .clear hC
   (refine gW ?_;intros)
   refine loop_rule hT (S:=Nat × Nat) (fun z=>([(0,.d (eAtts l)),(1,.d (eInts ks)),(9,.osl (.loc 0) z.2 0 (pickN l (keepR rp l) z.1).length),(10,dV z.1)],
    ⟨[bV 128 5 z.2 (pickN l (keepR rp l) z.1).length (rowsOf eAtt (pickN l (keepR rp l) z.1))],[]⟩)) (fun z=>z.1<=l.length) (fun z=>l.length-z.1) (0,0) ?_ ?_ ?_
   .exact lq
   .exact Nat.zero_le _
   .rintro⟨i,g⟩ hi
    dsimp only at hi⊢
    have hs:=pickN_succ l (keepR rp l) i
    have hpl:=pickN_len l (keepR rp l) i
    by_cases hi2:i<l.length
    .have hv:=kks.h i hi2
     have hcs:=cntK_succ rp l i
     rw[keepR_eq]at hs
     obtain⟨xs,hxs⟩:∃xs,pickN l (keepR rp l) i=xs:=⟨_,rfl⟩
     rw[hxs]at hs hpl⊢
     have ks2:Kp _:=⟨hs⟩
     have kcs:Kp _:=⟨hcs⟩
     have kv:Kp _:=⟨hv⟩
     clear hs hxs hcs hv
     (refine gW ?_;intros)
     refine loop_rule hT (S:=Nat) (fun k=>([(0,.d (eAtts l)),(1,.d (eInts ks)),(9,.osl (.loc 0) g 0 xs.length),(10,dV i),(11,.d (.bool (cntK rp l i k))),(12,dV k)],
      ⟨[bV 128 5 g xs.length (rowsOf eAtt xs)],[]⟩)) (fun k=>k<=l.length) (fun k=>l.length-k) 0 ?_ ?_ ?_
     .exact lq
     .exact Nat.zero_le _
     .intro k hk
      dsimp only at hk⊢
      by_cases hk2:k<l.length
      .have hn:=kcs.h k
       rw[<-kv.h]at hn
       have hB:=rbetter_ok l hl (ks.getD i default) k i hk2 hi2
       obtain⟨cb,hcb⟩:∃cb,cntK rp l i k=cb:=⟨_,rfl⟩
       rw[hcb]at hn⊢
       clear hcb
       by_cases g1:k=i
       .rw[decide_eq_false (fun h=>h g1),Bool.false_and,Bool.not_false,Bool.and_true]at hn
        have kn:Kp _:=⟨hn⟩
        clear hn hB
        (refine gW ?_;intros)
        refine⟨k+1,by show k+1<=l.length;omega,by show l.length-(k+1)<l.length-k;omega,?_⟩
        dsimp only
        rw[kn.h]
        exact lq
       rw[decide_eq_true g1,Bool.true_and]at hn
       by_cases g2:ks.getD i default=2
       .rw[decide_eq_false (fun h=>h g2),Bool.false_and,Bool.not_false,Bool.and_true]at hn
        have kn:Kp _:=⟨hn⟩
        clear hn hB
        (refine gW ?_;intros)
        refine⟨k+1,by show k+1<=l.length;omega,by show l.length-(k+1)<l.length-k;omega,?_⟩
        dsimp only
        rw[kn.h]
        exact lq
       rw[decide_eq_true g2,Bool.true_and]at hn
       by_cases g3:(l.getD k default).course=(l.getD i default).course
       .rw[decide_eq_true g3,Bool.true_and]at hn
        cases g4:bettr (ks.getD i default) l k i<;>rw[g4]at hn hB
        .rw[Bool.not_false,Bool.and_true]at hn
         have kn:Kp _:=⟨hn⟩
         clear hn
         (refine gW ?_;intros)
         refine qC hB ?_
         (refine gW ?_;intros)
         refine⟨k+1,by show k+1<=l.length;omega,by show l.length-(k+1)<l.length-k;omega,?_⟩
         dsimp only
         rw[kn.h]
         exact lq
        .rw[Bool.not_true,Bool.and_false]at hn
         have kn:Kp _:=⟨hn⟩
         clear hn
         (refine gW ?_;intros)
         refine qC hB ?_
         (refine gW ?_;intros)
         refine⟨k+1,by show k+1<=l.length;omega,by show l.length-(k+1)<l.length-k;omega,?_⟩
         dsimp only
         rw[kn.h]
         exact lq
       .rw[decide_eq_false g3,Bool.false_and,Bool.not_false,Bool.and_true]at hn
        have kn:Kp _:=⟨hn⟩
        clear hn hB
        (refine gW ?_;intros)
        refine⟨k+1,by show k+1<=l.length;omega,by show l.length-(k+1)<l.length-k;omega,?_⟩
        dsimp only
        rw[kn.h]
        exact lq
      .obtain rfl:k=l.length:=by omega
       obtain⟨cb,hcb⟩:∃cb,cntK rp l i l.length=cb:=⟨_,rfl⟩
       have hs:=ks2.h
       rw[hcb]at hs⊢
       clear hcb
       cases cb
       .rw[if_neg Dc,List.append_nil]at hs
        have kn:Kp _:=⟨hs⟩
        clear hs
        (refine gW ?_;intros)
        refine stp (i+1,g) ?_
        dsimp only
        rw[kn.h]
        exact lq
       .rw[if_pos rfl]at hs
        have kn:Kp _:=⟨hs⟩
        clear hs
        (refine gW ?_;intros)
        refine stp (i+1,g+1) ?_
        dsimp only
        rw[kn.h,len_snoc]
        exact lq
    .obtain rfl:i=l.length:=by omega
     rw[pickN_all]
     (refine gW ?_;intros)
     exact⟨⟨rfl,rfl,Nat.le_of_eq (Nat.zero_add _),rfl,fun i hi=>by rw[Nat.zero_add];rfl⟩,rfl,Tt⟩
theorem rwithin16_ok (n lo hi:Int):Pure Tryz.prog 86 [di n,di lo,di hi] [.bool (bw n lo hi)]:=by
 refine pure_rule hT (T:=tab) (N:=15) (rs:=[.tmp 6]) Tryz.func86 rfl rfl rfl Kr rfl ?_
 by_cases h1:lo<=n<;>by_cases h2:n<=hi<;>((refine gW ?_;intros))<;>(refine⟨congrArg D.bool ?_,Tt⟩)<;>simp[bw,h1,h2]
theorem rkey16_ok (s n:Int):Pure Tryz.prog 139 [di s,di n] [.agg (eKe (gK s n))]:=by
 refine pure_rule hT (T:=tab) (N:=8) (rs:=[.cell 4 72]) Tryz.func139 rfl rfl rfl Kr rfl ?_
 (refine gW ?_;intros)
 exact⟨.inl rfl,Tt⟩
theorem insA_at (a:Att):∀(acc:List Att) (n:Nat),n<=acc.length->(∀i,i<n->befA (acc.getD i default) a=true)->(n<acc.length->¬ befA (acc.getD n default) a=true)->insA a acc=acc.take n++a::acc.drop n
 | [],n,hn,_,_=>by
   have:n=0:=by simpa using hn
   subst this
   rfl
 | x :: r,0,_,_,h2=>by
   have:=h2 (by simp)
   rw[insA,if_neg (by simpa using this)]
   rfl
 | x :: r,n + 1,hn,h1,h2=>by
   have hx:=h1 0 Om
   rw[insA,if_pos (by simpa using hx),insA_at a r n (by simpa using hn) (fun i hi=>by simpa using h1 (i+1) Om) (fun hlt=>by simpa using h2 (by simpa using hlt))]
   rfl
theorem put16_ok (l:List Att)(hl:l.length<=1000000)(a:Att):Pure Tryz.prog 140 [eAtts l,.agg (eAtt a)] [eAtts (insA a l)]:=by
 refine pure_rule hT (T:=tab) (N:=54) (rs:=[.tmp 4]) Tryz.func140 rfl rfl rfl Kr rfl ?_
 (refine gW ?_;intros)
 refine loop_rule hT (S:=Nat) (fun n=>([(0,.d (eAtts l)),(3,lp 0),(5,dV n)],⟨[bX 128 (up (eAtt a))],[]⟩)) (fun n=>n<=l.length/\∀i,i<n->befA (l.getD i default) a=true) (fun n=>l.length-n) 0 ?_ ?_ ?_
 .exact lq
 .exact⟨Nat.zero_le _,fun i hi=>absurd hi Om⟩
 .rintro n ⟨hn,hlt⟩
  dsimp only at hn hlt⊢
  have klt:Kp _:=⟨hlt⟩
  clear hlt
  by_cases hn2:n<l.length
  case neg =>
   have hins:=insA_at a l n hn klt.h (fun h=>absurd h hn2)
   (refine gW ?_;intros)
   refine FrzR.mk (fun i=>eAtt ((l.take n++a::l.drop n).getD i default)) (fun i hi=>?_) ?_
   .exact ins_rows eAtt l a n hn _ rfl i hi
   (refine gW ?_;intros)
   have hN:0+n+1+(l.length-n)=(l.take n++a::l.drop n).length:=by
    simp only[List.length_append,List.length_take,List.length_cons,List.length_drop]
    omega
   rw[hins]
   exact⟨⟨rfl,hN,fun i hi=>rfl⟩,Tt⟩
  case pos =>
   have hb:=befA_iff (l.getD n default) a
   by_cases g1:(l.getD n default).term<a.term
   .have hge:befA (l.getD n default) a=true:=hb.2 (.inl g1)
    clear hb
    (refine gW ?_;intros)
    refine⟨n+1,⟨by show n+1<=l.length;omega,fun i hi=>?_⟩,by show l.length-(n+1)<l.length-n;omega,?_⟩
    .rcases Nat.lt_or_ge i n with h1|h1
     .exact klt.h i h1
     .rw[show i=n by omega]
      exact hge
    .exact lq
   by_cases g2:(l.getD n default).term=a.term
   .by_cases g3:(l.getD n default).course<a.course
    .have hge:befA (l.getD n default) a=true:=hb.2 (.inr ⟨g2,g3⟩)
     clear hb
     (refine gW ?_;intros)
     refine⟨n+1,⟨by show n+1<=l.length;omega,fun i hi=>?_⟩,by show l.length-(n+1)<l.length-n;omega,?_⟩
     .rcases Nat.lt_or_ge i n with h1|h1
      .exact klt.h i h1
      .rw[show i=n by omega]
       exact hge
     .exact lq
    .have hins:=insA_at a l n hn klt.h (fun _ h=>by rcases hb.1 h with h|h;exact g1 h;exact g3 h.2)
     clear hb
     (refine gW ?_;intros)
     refine FrzR.mk (fun i=>eAtt ((l.take n++a::l.drop n).getD i default)) (fun i hi=>?_) ?_
     .exact ins_rows eAtt l a n hn _ rfl i hi
     (refine gW ?_;intros)
     have hN:0+n+1+(l.length-n)=(l.take n++a::l.drop n).length:=by
      simp only[List.length_append,List.length_take,List.length_cons,List.length_drop]
      omega
     rw[hins]
     exact⟨⟨rfl,hN,fun i hi=>rfl⟩,Tt⟩
   .have hins:=insA_at a l n hn klt.h (fun _ h=>by rcases hb.1 h with h|h;exact g1 h;exact g2 h.1)
    clear hb
    (refine gW ?_;intros)
    refine FrzR.mk (fun i=>eAtt ((l.take n++a::l.drop n).getD i default)) (fun i hi=>?_) ?_
    .exact ins_rows eAtt l a n hn _ rfl i hi
    (refine gW ?_;intros)
    have hN:0+n+1+(l.length-n)=(l.take n++a::l.drop n).length:=by
     simp only[List.length_append,List.length_take,List.length_cons,List.length_drop]
     omega
    rw[hins]
    exact⟨⟨rfl,hN,fun i hi=>rfl⟩,Tt⟩
theorem has16_ok (l:List Int)(hl:l.length<=9223372036854775807)(n:Int):Pure Tryz.prog 92 [eInts l,di n] [.bool (decide (n∈l))]:=by
 refine pure_rule hT (T:=tab) (N:=18) (rs:=[.tmp 4]) Tryz.func92 rfl rfl rfl Kr rfl ?_
 (refine gW ?_;intros)
 refine loop_rule hT (S:=Nat) (fun k=>([(0,.d (eInts l)),(1,dV n),(5,dV k)],⟨[],[]⟩)) (fun k=>k<=l.length/\(n∈l↔n∈l.drop k)) (fun k=>l.length-k) 0 ?_ ?_ ?_
 .exact lq
 .exact⟨Nat.zero_le _,Iff.rfl⟩
 .rintro k ⟨hk,hc⟩
  have kc:Kp _:=⟨hc⟩
  clear hc
  by_cases hk2:k<l.length
  .have hd:=drop_at (xs:=l) (k:=k) hk2
   have kd:Kp _:=⟨hd⟩
   clear hd
   by_cases e:l.getD k default=n
   .rw[decide_eq_true (kc.h.2 (by rw[kd.h,e];simp))]
    (refine gW ?_;intros)
    exact⟨rfl,Tt⟩
   .have kn:Kp (n∈l↔n∈l.drop (k+1)):=⟨by
     rw[kc.h,kd.h,List.mem_cons]
     exact⟨fun h=>h.resolve_left fun h=>e h.symm,.inr⟩⟩
    (refine gW ?_;intros)
    refine stp (k+1) ?_ ⟨by show k+1<=l.length;omega,kn.h⟩
    exact lq
  .rw[decide_eq_false (fun h=>by have:=kc.h.1 h;rw[drop_end Om]at this;simp at this)]
   (refine gW ?_;intros)
   exact⟨rfl,Tt⟩
def eRec (s:Int)(l:List Att):List D:=[di s,eAtts l]
theorem rcheck16_ok (s:Int)(hs:bw s 0 19999=true)(l:List Att)(hl:l.length<=1000000)(hf:∀a∈l,fitA a)(hlt:l.Pairwise fun a b=>befA a b=true):Pure Tryz.prog 141 [.agg (eRec s l)] [di 0]:=by
 have hW:=rwithin16_ok s 0 19999
 rw[hs]at hW
 have kf:Kp _:=⟨hf⟩
 have klt:Kp _:=⟨hlt⟩
 clear hf hlt
 refine pure_rule hT (T:=tab) (N:=52) (rs:=[.tmp 2]) Tryz.func141 rfl rfl rfl Kr rfl ?_
 (refine gW ?_;intros)
 refine hW.call ?_
 (refine gW ?_;intros)
 refine loop_rule hT (S:=Nat) (fun k=>([(1,lp 0),(3,dV k)],⟨[bX 122 (up (eRec s l))],[]⟩)) (fun k=>k<=l.length) (fun k=>l.length-k) 0 ?_ ?_ ?_
 .exact lq
 .exact Nat.zero_le _
 .intro k hk
  dsimp only at hk⊢
  by_cases hk2:k<l.length
  .have hV:=rvalid15_ok _ (kf.h _ (getD_mem hk2))
   by_cases hk0:k=0
   .subst hk0
    (refine gW ?_;intros)
    refine hV.call ?_
    (refine gW ?_;intros)
    refine⟨0+1,by show 0+1<=l.length;omega,by show l.length-(0+1)<l.length-0;omega,?_⟩
    exact lq
   .have hb:befA (l.getD ((k:Int)-1).toNat default) (l.getD k default)=true:=by
     rw[toNat_pred]
     have:=List.pairwise_iff_getElem.1 klt.h (k-1) k Om hk2 Om
     simpa[show k-1<l.length by omega,hk2] using this
    rw[befA_iff]at hb
    (refine gW ?_;intros)
    refine hV.call ?_
    (refine gW ?_;intros)
    refine⟨k+1,by show k+1<=l.length;omega,by show l.length-(k+1)<l.length-k;omega,?_⟩
    exact lq
  ·(refine gW ?_;intros)
   exact⟨rfl,Tt⟩
def stpK (r:List Att)(E:List Int)(k:Nat):Int × Int:=(r.take k).foldl (stpR E) (0,-1)
theorem stpK_succ {r:List Att}{E:List Int}{k:Nat}(h:k<r.length):stpK r E (k+1)=if(r.getD k default).course∈E then(min ((stpK r E k).1+1) 100,max (stpK r E k).2 (r.getD k default).grade) else stpK r E k:=by
 unfold stpK
 rw[take_succ_at h,List.foldl_append]
 rfl
theorem stpK_in {r:List Att}(hf:∀a∈r,fitA a)(E:List Int):∀k,k<=r.length->(0<=(stpK r E k).1/\(stpK r E k).1<=100)/\-1<=(stpK r E k).2/\(stpK r E k).2<=12
 |0,_=>by simp[stpK]
 | k + 1,h=>by
   have:=stpK_in hf E k Om
   have h2:=(hf _ (getD_mem (show k<r.length by omega))).2.2.1
   rw[stpK_succ Om]
   split
   .dsimp only
    omega
   .exact this
theorem stpK_all (r:List Att)(E:List Int):stpK r E r.length=senZ E r:=by
 unfold stpK
 rw[List.take_length,senR]
theorem seen16_ok (s:Int)(r:List Att)(hr:r.length<=1000000)(hf:∀a∈r,fitA a)(c:Int)(E:List Int)(hE:E.length<=1000000):Pure Tryz.prog 91 [.agg (eRec s r),di c,eInts E] [.agg (eSen ⟨c,(senZ E r).1,(senZ E r).2,false⟩)]:=by
 refine pure_rule hT (T:=tab) (N:=42) (rs:=[.cell 6 115]) Tryz.func91 rfl rfl rfl Kr rfl ?_
 (refine gW ?_;intros)
 refine loop_rule hT (S:=Nat) (fun k=>([(2,.d (eInts E)),(3,lp 0),(6,lp 1),(7,lp 2),(8,dV k)],
  ⟨[bX 122 (up (eRec s r)),bX 115 (up [di 0,di 0,di 0,.bool false]),bX 115 (up [di c,di (stpK r E k).1,di (stpK r E k).2,.bool false])],[]⟩)) (fun k=>k<=r.length) (fun k=>r.length-k) 0 ?_ ?_ ?_
 .exact lq
 .exact Nat.zero_le _
 .intro k hk
  dsimp only at hk⊢
  by_cases hk2:k<r.length
  .have hH:=has16_ok E Om (r.getD k default).course
   have hs:=stpK_succ (E:=E) hk2
   have hi:=stpK_in hf E k hk
   have hg:=(hf _ (getD_mem hk2)).2.2.1
   obtain⟨z,hz⟩:∃z,stpK r E k=z:=⟨_,rfl⟩
   rw[hz]at hs hi⊢
   obtain⟨z1,z2⟩:=z
   dsimp only at hs hi⊢
   clear hz
   by_cases g:(r.getD k default).course∈E
   .rw[decide_eq_true g]at hH
    rw[if_pos g]at hs
    have ks:Kp _:=⟨hs⟩
    clear hs g
    (refine gW ?_;intros)
    refine hH.call ?_
    (refine gW ?_;intros)
    refine⟨k+1,by show k+1<=r.length;omega,by show r.length-(k+1)<r.length-k;omega,?_⟩
    dsimp only
    rw[ks.h]
    exact lq
   .rw[decide_eq_false g]at hH
    rw[if_neg g]at hs
    have ks:Kp _:=⟨hs⟩
    clear hs g
    (refine gW ?_;intros)
    refine hH.call ?_
    (refine gW ?_;intros)
    refine⟨k+1,by show k+1<=r.length;omega,by show r.length-(k+1)<r.length-k;omega,?_⟩
    dsimp only
    rw[ks.h]
    exact lq
  .obtain rfl:k=r.length:=by omega
   rw[stpK_all]
   (refine gW ?_;intros)
   exact⟨.inl rfl,Tt⟩
theorem repC_in (w:Wor)(t kn:Int)(n:Int):0<=repC w t kn n/\repC w t kn n<=2:=by
 unfold repC
 cases h:crsOf w n t kn with
 |none=>exact⟨Int.le_refl 0,(by decide:(0:Int)<=2)⟩
 | some c =>
   have:=(lookO_mem2 h).2
   simp only[okCrs,vCrs,bw,Bool.and_eq_true,decide_eq_true_iff]at this
   obtain⟨_,_,_,h4,_⟩:=this
   show 0<=c.rep/\c.rep<=2
   omega
def zCrs:List D:=[.str ByteArray.empty,di 0,di 0,di 0,di 0,di 0,.str ByteArray.empty,di 0,di 0,.nils,di 0,di 0,.str ByteArray.empty,di 0,di 0,.nils]
def rpK (w:Wor)(t kn:Int)(l:List Att)(k:Nat):List Int:=(l.take k).map fun a=>repC w t kn a.course
theorem rpK_succ (w:Wor)(t kn:Int){l:List Att}{k:Nat}(h:k<l.length):rpK w t kn l (k+1)=rpK w t kn l k++[repC w t kn (l.getD k default).course]:=by
 unfold rpK
 rw[take_succ_at h,List.map_append]
 rfl
theorem rpK_len (w:Wor)(t kn:Int)(l:List Att)(k:Nat)(h:k<=l.length):(rpK w t kn l k).length=k:=by
 unfold rpK
 rw[List.length_map,List.length_take]
 omega
theorem rcounted16_ok (w:Wor)(hw:WfW w)(s:Int)(hs:bw s 0 19999=true)(l:List Att)(hl:l.length<=500000)(hf:∀a∈l,fitA a)(hlt:l.Pairwise fun a b=>befA a b=true)(t kn:Int)(ht:bw t 0 1023=true) :
 Pure Tryz.prog 88 [.agg (eWor w),.agg (eRec s l),di t,di kn] [eAtts (cntA (repC w t kn) l),eReds (rdC l t l.length),di 0]:=by
 have hK:=rcheck16_ok s hs l Om hf hlt
 have hW:=rwithin16_ok t 0 1023
 rw[ht]at hW
 have hC15:=rcounted15_ok (repC w t kn) (repC_in w t kn) l Om hf (rpK w t kn l l.length) (rpK_len _ _ _ _ _ (Nat.le_refl _)) (fun i hi=>by unfold rpK;rw[List.take_length];simp[hi])
 rw[cntA_ref _ l hlt]at hC15
 clear hf hlt
 refine pure_rule hT (T:=tab) (N:=71) (rs:=[.tmp 8,.tmp 9,.tmp 10]) Tryz.func88 rfl rfl rfl Kr rfl ?_
 (refine gW ?_;intros)
 refine hK.call ?_
 (refine gW ?_;intros)
 refine hW.call ?_
 (refine gW ?_;intros)
 refine Awp.vec 11 3 1 (rowsOf eNum []) rfl ?_
 refine Awp.vec 12 107 5 (rowsOf eRed []) rfl ?_
 refine loop_rule hT (S:=Nat) (fun k=>([(2,dV t),(3,dV kn),(4,lp 0),(5,lp 1),(11,.osl (.loc 2) k 0 (rpK w t kn l k).length),(12,.osl (.loc 3) k 0 (rdC l t k).length),(13,dV k)],
  ⟨[bX 29 (up (eWor w)),bX 122 (up (eRec s l)),bV 3 1 k (rpK w t kn l k).length (rowsOf eNum (rpK w t kn l k)),bV 107 5 k (rdC l t k).length (rowsOf eRed (rdC l t k))],[]⟩)) (fun k=>k<=l.length) (fun k=>l.length-k) 0 ?_ ?_ ?_
 .exact lq
 .exact Nat.zero_le _
 .intro k hk
  dsimp only at hk⊢
  by_cases hk2:k<l.length
  .have hC:=rcourse14_ok w hw (l.getD k default).course t kn
   have e1:=rpK_succ w t kn hk2
   have e2:=rdC_succ t hk2
   have n1:=rpK_len w t kn l k hk
   have n2:=rdC_len l t k hk
   have n3:=readsT_len ⟨1,(l.getD k default).course,0⟩ t
   obtain⟨ks,hks⟩:∃ks,rpK w t kn l k=ks:=⟨_,rfl⟩
   obtain⟨rs,hrs⟩:∃rs,rdC l t k=rs:=⟨_,rfl⟩
   obtain⟨xs,hxs⟩:∃xs,readsT ⟨1,(l.getD k default).course,0⟩ t=xs:=⟨_,rfl⟩
   rw[hks]at e1 n1⊢
   rw[hrs]at e2 n2⊢
   rw[hxs]at e2 n3 hC
   clear hks hrs hxs
   unfold repC at e1
   obtain⟨oc,hoc⟩:∃oc,crsOf w (l.getD k default).course t kn=oc:=⟨_,rfl⟩
   rw[hoc]at hC e1
   clear hoc hK hW hC15
   cases oc with
   | none =>
     obtain⟨cr,hcr⟩:∃cr:Crs,(none:Option Crs).getD default=cr:=⟨_,rfl⟩
     have hrep:((none:Option Crs).getD default).rep=0:=rfl
     rw[hrep]at e1
     rw[hcr,show(none:Option Crs).isSome=false from rfl]at hC
     clear hcr hrep
     have k1:Kp _:=⟨e1⟩
     have k2:Kp _:=⟨e2⟩
     clear e1 e2
     (refine gS ?_;intros)
     refine Sq.go ?_;(refine gS ?_;intros)
     refine Sq.alt (Awp.le (env':=[(2,dV t),(3,dV kn),(4,lp 0),(5,lp 1),(11,.osl (.loc 2) k 0 ks.length),(12,.osl (.loc 3) k 0 rs.length),(13,dV k)]) (m':=⟨[bX 29 (up (eWor w)),bX 122 (up (eRec s l)),bV 3 1 k ks.length (rowsOf eNum ks),bV 107 5 k rs.length (rowsOf eRed rs)],[]⟩) ?_
      (Awp.seq (Awp.block (Awp.seq (Awp.effsF (m:=⟨[some (.box 29 (up (eWor w))),some (.box 122 (up (eRec s l))),some (.vec 3 1 k ks.length (rowsOf eNum ks)),some (.vec 107 5 k rs.length (rowsOf eRed rs))],[]⟩) hT (by kernel_rfl) (by kernel_rfl) (by kernel_rfl)
       ⟨[bX 29 (up (eWor w)),bX 122 (up (eRec s l)),bV 3 1 k ks.length (rowsOf eNum ks),bV 107 5 k rs.length (rowsOf eRed rs),none],[]⟩ 4 0
       [⟨14,lp 4,⟨[bX 29 (up (eWor w)),bX 122 (up (eRec s l)),bV 3 1 k ks.length (rowsOf eNum ks),bV 107 5 k rs.length (rowsOf eRed rs),bX 54 (up zCrs)],[]⟩,[]⟩,⟨15,.junk,⟨[bX 29 (up (eWor w)),bX 122 (up (eRec s l)),bV 3 1 k ks.length (rowsOf eNum ks),bV 107 5 k rs.length (rowsOf eRed rs),bX 54 (up (eCrs cr))],[]⟩,[14]⟩]
       Kr rfl rfl (WeakF.of ⟨.inl rfl,.inl rfl,.inl rfl,.inl rfl,Tt⟩ Tt) ⟨WeakF.of ⟨.inl rfl,.inl rfl,.inl rfl,.inl rfl,Tt⟩ Tt,WeakF.of ⟨.inl rfl,.inl rfl,.inl rfl,.inl rfl,Tt⟩ Tt,Tt⟩ ?_)))))
     .exact lq
     conv=>whnf
     (refine gS ?_;intros)
     refine qC hC ?_
     (refine gS ?_;intros)
     refine⟨?_,?_,?_⟩
     .conv=>whnf
      (refine gS ?_;intros)
      exact⟨rfl,rfl⟩
     .conv=>whnf
      (refine gS ?_;intros)
      exact⟨Tt,rfl⟩
     conv=>whnf
     (refine gW ?_;intros)
     refine Awp.of_vc hT ?_
     (refine gW ?_;intros)
     refine Awp.of_vc hT ?_
     (refine gW ?_;intros)
     refine⟨k+1,by show k+1<=l.length;omega,by show l.length-(k+1)<l.length-k;omega,?_⟩
     dsimp only
     rw[k1.h,k2.h,len_snoc,List.length_append]
     exact lq
   | some cr =>
     rw[show(some cr).getD default=cr from rfl,show(some cr).isSome=true from rfl]at hC
     rw[show(some cr).getD default=cr from rfl]at e1
     have k1:Kp _:=⟨e1⟩
     have k2:Kp _:=⟨e2⟩
     clear e1 e2
     (refine gS ?_;intros)
     refine Sq.go ?_;(refine gS ?_;intros)
     refine Sq.alt (Awp.le (env':=[(2,dV t),(3,dV kn),(4,lp 0),(5,lp 1),(11,.osl (.loc 2) k 0 ks.length),(12,.osl (.loc 3) k 0 rs.length),(13,dV k)]) (m':=⟨[bX 29 (up (eWor w)),bX 122 (up (eRec s l)),bV 3 1 k ks.length (rowsOf eNum ks),bV 107 5 k rs.length (rowsOf eRed rs)],[]⟩) ?_
      (Awp.seq (Awp.block (Awp.seq (Awp.effsF (m:=⟨[some (.box 29 (up (eWor w))),some (.box 122 (up (eRec s l))),some (.vec 3 1 k ks.length (rowsOf eNum ks)),some (.vec 107 5 k rs.length (rowsOf eRed rs))],[]⟩) hT (by kernel_rfl) (by kernel_rfl) (by kernel_rfl)
       ⟨[bX 29 (up (eWor w)),bX 122 (up (eRec s l)),bV 3 1 k ks.length (rowsOf eNum ks),bV 107 5 k rs.length (rowsOf eRed rs),none],[]⟩ 4 0
       [⟨14,lp 4,⟨[bX 29 (up (eWor w)),bX 122 (up (eRec s l)),bV 3 1 k ks.length (rowsOf eNum ks),bV 107 5 k rs.length (rowsOf eRed rs),bX 54 (up zCrs)],[]⟩,[]⟩,⟨15,.junk,⟨[bX 29 (up (eWor w)),bX 122 (up (eRec s l)),bV 3 1 k ks.length (rowsOf eNum ks),bV 107 5 k rs.length (rowsOf eRed rs),bX 54 (up (eCrs cr))],[]⟩,[14]⟩]
       Kr rfl rfl (WeakF.of ⟨.inl rfl,.inl rfl,.inl rfl,.inl rfl,Tt⟩ Tt) ⟨WeakF.of ⟨.inl rfl,.inl rfl,.inl rfl,.inl rfl,Tt⟩ Tt,WeakF.of ⟨.inl rfl,.inl rfl,.inl rfl,.inl rfl,Tt⟩ Tt,Tt⟩ ?_)))))
     .exact lq
     conv=>whnf
     (refine gS ?_;intros)
     refine qC hC ?_
     (refine gS ?_;intros)
     refine⟨?_,?_,?_⟩
     .conv=>whnf
      (refine gS ?_;intros)
      exact⟨rfl,rfl⟩
     .conv=>whnf
      (refine gS ?_;intros)
      exact⟨Tt,rfl⟩
     conv=>whnf
     (refine gW ?_;intros)
     refine Awp.of_vc hT ?_
     (refine gW ?_;intros)
     refine Awp.of_vc hT ?_
     (refine gW ?_;intros)
     refine⟨k+1,by show k+1<=l.length;omega,by show l.length-(k+1)<l.length-k;omega,?_⟩
     dsimp only
     rw[k1.h,k2.h,len_snoc,List.length_append]
     exact lq
  .obtain rfl:k=l.length:=by omega
   (refine gW ?_;intros)
   refine CallVC.frz [2] ?_ (hC15.call ?_)
   .exact⟨.d,.rows rfl (Nat.le_of_eq (Nat.zero_add _)) (fun i hi=>by rw[Nat.zero_add];rfl),Tt⟩
   (refine gW ?_;intros)
   exact⟨⟨rfl,rfl,fun i hi=>rfl⟩,⟨rfl,rfl,Nat.le_of_eq (Nat.zero_add _),rfl,fun i hi=>by rw[Nat.zero_add];rfl⟩,rfl,Tt⟩
end Go.Proofs.YtkjmomadndmeaaaGreatDoor
