import Derived.Test.YtkjmomadndmeaaaGreatDoorBookQ
import Derived.Test.YtkjmomadndmeaaaGreatDoorNamD
import Derived.Test.YtkjmomadndmeaaaGreatDoorPetC
import Derived.Test.YtkjmomadndmeaaaGreatDoorSitP
import Derived.Test.YtkjmomadndmeaaaGreatDoorAdmC
namespace Go.Ab
set_option linter.unusedSimpArgs false
set_option linter.unusedVariables false
section
variable {P:Program}{T:Tab}{N:Nat}{w:World}{F:Nat->Prop}{σ:Pls}{m:Mem}{env:Env}{K:AV->Mem->Prop}{o:Oper}
theorem op_len_str {x:Operand}{t:TypeId}(hop:o.op=.call {callee:=.builtin .len,args:=#[x],argTypes:=#[t]})(hu:P.underlying t=some .string){s:ByteArray}{px:List Prop}(hx:strip (ev env x)=(.d (.str s),px))(hpx:∀p∈px,p)
 (hK:K (.d (.int .i64 s.size)) m):OpVC P o env m K :=
 ⟨fun c h=>(by rw [hop] at h;cases h),fun a w F σ hev hm=>by
  have hv:=strip_ok (ev_ok hev x) (by rw[hx];exact hpx)
  rw[hx]at hv
  obtain⟨X,hX⟩:∃X,a.eval x=X:=⟨_,rfl⟩
  rw[hX]at hv
  cases hv with
  | d hv =>
    cases hv with
    | str =>
      refine⟨_,.int .i64 s.size,w,σ,F,_,_,?_,.inl rfl,hK,.d .int,hm,Step.refl σ F w,SLe.refl σ⟩
      simp[execOp,hop,hX,resolve,invoke,builtin,Builtin.len_,run_underlying hu,goInt]⟩
end
end Go.Ab
namespace Go.Proofs.YtkjmomadndmeaaaGreatDoor
set_option linter.unusedSimpArgs false
set_option linter.unusedVariables false
open Go Go.Ab
set_option maxRecDepth 100000
set_option maxHeartbeats 0
def cntX:Nat->Rule->Nat
 |0,_=>300
 |f+1,r=>if 300<r.kids.length then 300 else r.kids.foldl (fun n k=>if n<300 then n+cntX f k else n) 1
def stpX (f:Nat)(n:Nat)(k:Rule):Nat:=if n<300 then n+cntX f k else n
theorem cntX_succ (f:Nat)(r:Rule):cntX (f+1) r=if 300<r.kids.length then 300 else r.kids.foldl (stpX f) 1:=by
 rw[cntX]
 rfl
theorem stpX_ge (f:Nat):∀(ks:List Rule) (n:Nat),n<=ks.foldl (stpX f) n
 |[],n=>Nat.le_refl _
 | k :: ks,n=>by
   rw[List.foldl_cons]
   refine Nat.le_trans ?_ (stpX_ge f ks _)
   unfold stpX
   split<;>omega
theorem cntX_le:∀(f:Nat) (r:Rule),cntX f r<=300*(f+1)
 |0,r=>by rw[cntX];omega
 | f + 1,r=>by
   rw[cntX_succ]
   split
   .omega
   .have key:∀(ks:List Rule) (n:Nat),n<=300*(f+2)->ks.foldl (stpX f) n<=300*(f+2):=by
     intro ks
     induction ks with
     |nil=>intro n h;exact h
     | cons k ks ih =>
       intro n h
       rw[List.foldl_cons]
       refine ih _ ?_
       have:=cntX_le f k
       unfold stpX
       split<;>omega
    exact key _ 1 Om
theorem stpX_le (f:Nat)(ks:List Rule):ks.foldl (stpX f) 1<=300*(f+2):=by
 have key:∀(ks:List Rule) (n:Nat),n<=300*(f+2)->ks.foldl (stpX f) n<=300*(f+2):=by
  intro ks
  induction ks with
  |nil=>intro n h;exact h
  | cons k ks ih =>
    intro n h
    rw[List.foldl_cons]
    refine ih _ ?_
    have:=cntX_le f k
    unfold stpX
    split<;>omega
 exact key _ 1 Om
theorem stpX_stop {f:Nat}:∀{ks:List Rule} {n:Nat},300<=n->ks.foldl (stpX f) n=n
 |[],n,_=>rfl
 | k :: ks,n,h=>by
   rw[List.foldl_cons,stpX,if_neg Om]
   exact stpX_stop h
theorem cntX_is:∀ (f:Nat) (r:Rule),cntX f r < 300→cntR r=cntX f r
 |0,r,h=>by rw[cntX]at h;omega
 | f + 1,r,h=>by
   rw[cntX_succ]at h⊢
   split at h
   .omega
   .rename_i hk
    rw[if_neg hk,cntR_eq]
    have key:∀(ks:List Rule) (n:Nat),ks.foldl (stpX f) n<300->ks.foldl (stpX f) n=n+cntRs ks:=by
     intro ks
     induction ks with
     |nil=>intro n _;rw[cntRs_nil];rfl
     | cons k ks ih =>
       intro n h
       rw[List.foldl_cons]at h⊢
       have h1:=ih _ h
       have h2:=stpX_ge f ks (stpX f n k)
       rw[h1,cntRs_cons]
       unfold stpX at h2⊢
       split at h2
       .rename_i hn
        have e:stpX f n k=n+cntX f k:=by rw[stpX,if_pos hn]
        rw[e]at h
        have h5:=stpX_ge f ks (n+cntX f k)
        have h6:=cntX_is f k Om
        rw[if_pos hn,h6]
        omega
       .rename_i hn
        exfalso
        have e:stpX f n k=n:=by rw[stpX,if_neg hn]
        rw[e]at h
        have:=stpX_ge f ks n
        omega
    rw[key _ 1 h]
    omega
def fewR (r:Rule):Bool:=decide (cntX 41 r<250)&&decide (r.name.size<=100)
theorem fewR_cnt {r:Rule}(h:fewR r=true):cntR r<=1000000:=by
 simp only[fewR,Bool.and_eq_true,decide_eq_true_eq]at h
 rw[cntX_is 41 r Om]
 omega
def fewB (b:Bok):Bool:=b.crs.all (fun c=>fewR c.need&&fewR c.bar)&&(b.prg.all (fun p=>decide (p.reqs.length<=70))&&(decide (b.crs.length<=16)&&(decide (b.prg.length<=8)&&decide (b.sys.length<=6))))
def fewW (w:Wor):Bool:=fewB w.bok&&decide (w.fcts.length<=40)
theorem count10_ok:∀ (f:Nat) (r:Rule) (d:Int),wfR r→f≤41→d=41 - (f:Int)→Pure Tryz.prog 183 [.agg (eRule r),.int .i64 d] [.int .i64 (cntX f r)]
 | 0,r,d,hw,hf,hd=>by
   have hlk:=(wfR_kids hw).1.2.2.2.2
   subst hd
   rw[cntX]
   refine pure_rule hT (T:=tab) (N:=37) (rs:=[.tmp 4]) Tryz.func183 rfl rfl rfl Kr rfl ?_
   (refine gW ?_;intros)
   exact⟨rfl,Tt⟩
 | f + 1,r,d,hw,hf,hd=>by
   obtain⟨hw1,hw2⟩:=wfR_kids hw
   have hlk:=hw1.2.2.2.2
   have ih:=fun r hw=>count10_ok f r (d+1) hw Om Om
   have hfin:=stpX_le f r.kids
   rw[cntX_succ]
   refine pure_rule hT (T:=tab) (N:=37) (rs:=[.tmp 4]) Tryz.func183 rfl rfl rfl Kr rfl ?_
   by_cases h3:300<r.kids.length
   .rw[if_pos h3]
    (refine gW ?_;intros)
    exact⟨rfl,Tt⟩
   .rw [if_neg h3]
    (refine gW ?_;intros)
    refine loop_rule hT (S:=Nat) (fun k=>([(1,.d (.int .i64 d)),(2,.ptr (.loc 0) 0 0 0),(5,.d (.int .i64 (((r.kids.take k).foldl (stpX f) 1:Nat):Int))),(6,.d (.int .i64 k))],⟨[some (.box 52 (up (eRule r)))],[]⟩)) (fun k=>k<=r.kids.length) (fun k=>r.kids.length-k) 0 ?_ ?_ ?_
    .rw[List.take_zero,List.foldl_nil]
     exact lq
    .exact Nat.zero_le _
    .intro k hk
     dsimp only at hk⊢
     have hcb:=stpX_le f (r.kids.take k)
     by_cases hk2:k<r.kids.length
     .have hts:(r.kids.take (k+1)).foldl (stpX f) 1=stpX f ((r.kids.take k).foldl (stpX f) 1) (r.kids.getD k default):=by
       rw[take_succ_at hk2,List.foldl_append]
       rfl
      have hall:r.kids.foldl (stpX f) 1=(r.kids.drop k).foldl (stpX f) ((r.kids.take k).foldl (stpX f) 1):=by
       rw[<-List.foldl_append,List.take_append_drop]
      have hne:r.kids≠[]:=fun e=>by rw[e]at hk2;exact absurd hk2 (Nat.not_lt_zero _)
      have hI:=ih _ (hw2 _ (getD_mem hk2))
      have hB:=cntX_le f (r.kids.getD k default)
      have er:eRule r=[.int .i64 r.op,.int .i64 r.course,.str r.name,.int .i64 r.n,.int .i64 r.d,.sl 6 r.kids.length fun i=>eRule (r.kids.getD i default)]:=by
       unfold eRule
       rw[eRules_ne hne]
       rfl
      rw[er]
      obtain⟨c,hc⟩:∃c,(r.kids.take k).foldl (stpX f) 1=c:=⟨_,rfl⟩
      rw[hc]at hts hall hcb⊢
      have kts:Kp _:=⟨hts⟩
      have kall:Kp _:=⟨hall⟩
      clear hts hall hc er ih hw2
      by_cases h300:c<300
      .have e1:Kp ((((r.kids.take (k+1)).foldl (stpX f) 1:Nat):Int)=(c:Int)+(cntX f (r.kids.getD k default):Int)):=⟨by
        rw[kts.h,stpX,if_pos h300]
        omega⟩
       (refine gW ?_;intros)
       refine hI.call ?_
       (refine gW ?_;intros)
       refine⟨k+1,by show k+1<=r.kids.length;omega,by show r.kids.length-(k+1)<r.kids.length-k;omega,?_⟩
       dsimp only
       rw[e1.h]
       exact lq
      .have e2:Kp (r.kids.foldl (stpX f) 1=c):=⟨by rw[kall.h];exact stpX_stop Om⟩
       (refine gW ?_;intros)
       rw[e2.h]
       exact⟨rfl,Tt⟩
     .have e:r.kids.take k=r.kids:=List.take_of_length_le Om
      rw[e]
      (refine gW ?_;intros)
      exact⟨rfl,Tt⟩
theorem fewRules_ok (r:Rule)(hw:wfR r)(hn:r.name.size<=9223372036854775807):Pure Tryz.prog 135 [.agg (eRule r)] [.bool (fewR r)]:=by
 have hC:=count10_ok 41 r 0 hw (Nat.le_refl _) rfl
 have hB:=cntX_le 41 r
 unfold fewR
 refine pure_rule hT (T:=tab) (N:=12) (rs:=[.tmp 2]) Tryz.func135 rfl rfl rfl Kr rfl ?_
 by_cases h1:cntX 41 r<250
 .rw[decide_eq_true h1,Bool.true_and]
  (refine gW ?_;intros)
  refine hC.call ?_
  (refine gW ?_;intros)
  refine op_len_str rfl Tryz.underlying9 rfl (fun p hp=>?_) ?_
  .simp[cat]at hp
   rw[hp]
   omega
  (refine gW ?_;intros)
  refine⟨congrArg D.bool ?_,Tt⟩
  rw[decide_eq_true (show((cntX 41 r:Nat):Int)<250 by omega),cond_true,Bool.eq_iff_iff]
  simp
  omega
 .rw[decide_eq_false h1,Bool.false_and]
  (refine gW ?_;intros)
  refine hC.call ?_
  (refine gW ?_;intros)
  refine⟨congrArg D.bool ?_,Tt⟩
  cases decide (((cntX 41 r:Nat):Int)<250)<;>rfl
def nmB (b:Bok):Prop:=∀c∈b.crs,c.need.name.size<=9223372036854775807/\c.bar.name.size<=9223372036854775807
theorem fewBook_ok (b:Bok)(hw:wfBok b)(hn:nmB b):Pure Tryz.prog 80 [.agg (eBok b)] [.bool (fewB b)]:=by
 obtain⟨⟨hl1,hc⟩,⟨hl2,hp⟩,hl3,-⟩:=hw
 have hl1':b.crs.length<=9223372036854775807:=hl1
 have hl2':b.prg.length<=9223372036854775807:=hl2
 have hl3':b.sys.length<=9223372036854775807:=hl3
 have hpl:∀p∈b.prg,p.reqs.length<=9223372036854775807:=fun p h=>(hp p h).2.2.1
 have kp:Kp _:=⟨hpl⟩
 have kc:Kp _:=⟨hc⟩
 have kn:Kp (nmB b):=⟨hn⟩
 clear hp hc hpl hn hl1 hl2 hl3
 unfold fewB
 refine pure_rule hT (T:=tab) (N:=61) (rs:=[.tmp 2]) Tryz.func80 rfl rfl rfl Kr rfl ?_
 (refine gW ?_;intros)
 refine loop_rule hT (S:=Nat) (fun k=>([(1,.ptr (.loc 0) 0 0 0),(2,.d (.bool false)),(3,.d (.int .i64 k))],⟨[some (.box 26 (up (eBok b)))],[]⟩)) (fun k=>k<=b.crs.length/\b.crs.all (fun c=>fewR c.need&&fewR c.bar)=(b.crs.drop k).all (fun c=>fewR c.need&&fewR c.bar)) (fun k=>b.crs.length-k) 0 ?_ ?_ ?_
 .exact lq
 .exact⟨Nat.zero_le _,rfl⟩
 .rintro k ⟨hk,ha⟩
  have ka:Kp _:=⟨ha⟩
  clear ha
  dsimp only at hk⊢
  by_cases hk2:k<b.crs.length
  .have hm:=getD_mem hk2
   have hN:=fewRules_ok _ (kc.h _ hm).1 (kn.h _ hm).1
   have hB:=fewRules_ok _ (kc.h _ hm).2 (kn.h _ hm).2
   have e:Kp (b.crs.all (fun c=>fewR c.need&&fewR c.bar)=((fewR (b.crs.getD k default).need&&fewR (b.crs.getD k default).bar)&&(b.crs.drop (k+1)).all (fun c=>fewR c.need&&fewR c.bar))):=⟨by
    rw[ka.h,drop_at hk2,List.all_cons]⟩
   clear hm
   cases h1:fewR (b.crs.getD k default).need
   .rw[h1]at hN
    (refine gW ?_;intros)
    refine hN.call ?_
    (refine gW ?_;intros)
    rw[e.h,h1]
    exact⟨rfl,Tt⟩
   .rw[h1]at hN
    cases h2:fewR (b.crs.getD k default).bar
    .rw[h2]at hB
     (refine gW ?_;intros)
     refine hN.call ?_
     (refine gW ?_;intros)
     refine hB.call ?_
     (refine gW ?_;intros)
     rw[e.h,h1,h2]
     exact⟨rfl,Tt⟩
    .rw[h2]at hB
     (refine gW ?_;intros)
     refine hN.call ?_
     (refine gW ?_;intros)
     refine hB.call ?_
     (refine gW ?_;intros)
     refine stp (k+1) ?_ ⟨by show k+1<=b.crs.length;omega,by rw[e.h,h1,h2];rfl⟩
     exact lq
  .have e:b.crs.all (fun c=>fewR c.need&&fewR c.bar)=true:=by
    rw[ka.h,drop_end Om]
    rfl
   rw[e,Bool.true_and]
   clear e ka
   (refine gW ?_;intros)
   refine loop_rule hT (S:=Nat) (fun k=>([(1,.ptr (.loc 0) 0 0 0),(2,.d (.bool false)),(4,.d (.int .i64 k))],⟨[some (.box 26 (up (eBok b)))],[]⟩)) (fun k=>k<=b.prg.length/\b.prg.all (fun p=>decide (p.reqs.length<=70))=(b.prg.drop k).all (fun p=>decide (p.reqs.length<=70))) (fun k=>b.prg.length-k) 0 ?_ ?_ ?_
   .exact lq
   .exact⟨Nat.zero_le _,rfl⟩
   .clear hk hk2
    rintro k ⟨hk,ha⟩
    have ka:Kp _:=⟨ha⟩
    clear ha
    dsimp only at hk⊢
    by_cases hk2:k<b.prg.length
    .have hm:=kp.h _ (getD_mem hk2)
     have e:Kp (b.prg.all (fun p=>decide (p.reqs.length<=70))=(decide ((b.prg.getD k default).reqs.length<=70)&&(b.prg.drop (k+1)).all (fun p=>decide (p.reqs.length<=70)))):=⟨by
      rw[ka.h,drop_at hk2,List.all_cons]⟩
     by_cases h1:(b.prg.getD k default).reqs.length<=70
     ·(refine gW ?_;intros)
      refine stp (k+1) ?_ ⟨by show k+1<=b.prg.length;omega,by rw[e.h,decide_eq_true h1];rfl⟩
      exact lq
     ·(refine gW ?_;intros)
      rw[e.h,decide_eq_false h1]
      exact⟨rfl,Tt⟩
    .have e:b.prg.all (fun p=>decide (p.reqs.length<=70))=true:=by
      rw[ka.h,drop_end Om]
      rfl
     rw[e,Bool.true_and]
     clear e ka
     (refine gW ?_;intros)
     refine⟨congrArg D.bool ?_,Tt⟩
     have e1:decide ((b.crs.length:Int)<=16)=decide (b.crs.length<=16):=by rw[Bool.eq_iff_iff];simp;omega
     have e2:decide ((b.prg.length:Int)<=8)=decide (b.prg.length<=8):=by rw[Bool.eq_iff_iff];simp;omega
     have e3:decide ((b.sys.length:Int)<=6)=decide (b.sys.length<=6):=by rw[Bool.eq_iff_iff];simp;omega
     rw[e1,e2,e3]
     cases decide (b.crs.length<=16)<;>cases decide (b.prg.length<=8)<;>rfl
theorem few14_ok (w:Wor)(hw:wfBok w.bok)(hf:fitL w.fcts)(hn:nmB w.bok):Pure Tryz.prog 33 [.agg (eWor w)] [.bool (fewW w)]:=by
 have hf':w.fcts.length<=9223372036854775807:=hf
 have hB:=fewBook_ok w.bok hw hn
 unfold fewW
 refine pure_rule hT (T:=tab) (N:=12) (rs:=[.tmp 2]) Tryz.func33 rfl rfl rfl Kr rfl ?_
 cases h1:fewB w.bok<;>rw[h1]at hB
 ·(refine gW ?_;intros)
  refine hB.call ?_
  (refine gW ?_;intros)
  exact⟨rfl,Tt⟩
 ·(refine gW ?_;intros)
  refine hB.call ?_
  (refine gW ?_;intros)
  refine⟨congrArg D.bool ?_,Tt⟩
  rw[cond_true,Bool.true_and,Bool.eq_iff_iff]
  simp
  omega
theorem sameI12_ok (xs ys:List Int)(hx:xs.length<=9223372036854775807)(hy:ys.length<=9223372036854775807):Pure Tryz.prog 47 [eInts xs,eInts ys] [.bool (decide (xs=ys))]:=by
 refine pure_rule hT (T:=tab) (N:=26) (rs:=[.tmp 4]) Tryz.func47 rfl rfl rfl Kr rfl ?_
 ((refine xW ?_ ?_)<;>(intros;try rename_i h))
 .refine⟨congrArg D.bool ?_,Tt⟩
  rw[decide_eq_false]
  intro e
  rw[e]at h
  omega
 .refine loop_rule hT (S:=Nat) (fun k=>([(0,.d (eInts xs)),(1,.d (eInts ys)),(4,.d (.bool false)),(5,dV k)],⟨[],[]⟩)) (fun k=>k<=xs.length/\(xs=ys↔xs.drop k=ys.drop k)) (fun k=>xs.length-k) 0 ?_ ?_ ?_
  .exact lq
  .exact⟨Nat.zero_le _,Iff.rfl⟩
  .rintro k ⟨hk,ht⟩
   repeat' (first|with_reducible refine Sq.go ?_|((with_reducible refine Ev.mk ?_);conv=>whnf)|with_reducible refine Dr.mk ⟨Kr,Kr⟩ ?_|with_reducible refine obG ?_|with_reducible refine Ob.mk ?_ ?_|(with_reducible first|refine brT fun h=>?_|refine brF fun h=>?_|refine Br.mk (fun h=>?_) fun h=>?_)<;>(try simp only[bsl,beq_iff_eq,bne_iff_ne,bs2]at h)<;>(try contradiction)<;>try (exfalso;omega))
   .refine⟨congrArg D.bool ?_,Tt⟩
    rw[decide_eq_false]
    rw[ht,drop_at (xs:=xs) (k:=k) Om,drop_at (xs:=ys) (k:=k) Om]
    intro e
    injection e with e1 e2
    rw[e1]at h
    simp at h
   .refine⟨k+1,⟨by show k+1<=xs.length;omega,?_⟩,by show xs.length-(k+1)<xs.length-k;omega,?_⟩
    .have e:xs.getD k default=ys.getD k default:=by
      revert h
      generalize xs.getD k default=a
      generalize ys.getD k default=b
      intro h
      exact h
     rw[ht,drop_at (xs:=xs) (k:=k) Om,drop_at (xs:=ys) (k:=k) Om,e]
     simp
    .exact lq
   .refine⟨congrArg D.bool ?_,Tt⟩
    rw[decide_eq_true]
    rw[ht]
    rw[List.drop_eq_nil_of_le Om,List.drop_eq_nil_of_le Om]
theorem sameI28_ok (a b:List Int)(ha:fitL a)(hb:fitL b):Pure Tryz.prog 16 [eInts a,eInts b] [.bool (decide (a=b))]:=by
 have h:=sameI12_ok a b ha hb
 refine pure_rule hT (T:=tab) (N:=8) (rs:=[.tmp 4]) Tryz.func16 rfl rfl rfl Kr rfl ?_
 (refine gW ?_;intros)
 refine h.call ?_
 (refine gW ?_;intros)
 exact⟨rfl,Tt⟩
theorem few28_ok (w:Wor)(hw:wfBok w.bok)(hf:fitL w.fcts)(hn:nmB w.bok)(nw:List Int)(hnl:fitL nw):Pure Tryz.prog 10 [.agg (eWor w),eInts nw] [.bool (fewW w&&decide (nw.length<=10))]:=by
 have h:=few14_ok w hw hf hn
 have hnl':nw.length<=9223372036854775807:=hnl
 refine pure_rule hT (T:=tab) (N:=12) (rs:=[.tmp 4]) Tryz.func10 rfl rfl rfl Kr rfl ?_
 cases hb:fewW w<;>rw[hb]at h
 ·(refine gW ?_;intros)
  refine h.call ?_
  (refine gW ?_;intros)
  exact⟨rfl,Tt⟩
 ·(refine gW ?_;intros)
  refine h.call ?_
  (refine gW ?_;intros)
  refine⟨congrArg D.bool ?_,Tt⟩
  by_cases hq:nw.length<=10
  .rw[decide_eq_true hq,decide_eq_true (show(nw.length:Int)<=10 by omega)]
   rfl
  .rw[decide_eq_false hq,decide_eq_false (show ¬ (nw.length:Int)<=10 by omega)]
   rfl
def kA:Rule:=.mk 7 0 .empty 10 0 []
def nA:Rule:=.mk 1 0 .empty 0 0 [kA]
def bA:Rule:=.mk 2 0 .empty 0 0 []
def cS:Crs:=⟨⟨#[65]⟩,7,4,0,nA,bA⟩
def wS:Wor:=⟨⟨[cS],[],[]⟩,[⟨1,7,0,0,0,1024,8,0⟩,⟨12,0,0,1,0,1024,8,1⟩,⟨7,4,7,50,0,1024,9,0⟩,⟨6,4,2,1,6,7,10,0⟩]⟩
def wO:Wor:=⟨⟨[],[],[]⟩,[]⟩
theorem g1:crsOf wS 7 5 100=some cS:=by rfl
theorem g2:crsOf wS 7 6 100=some cS:=by rfl
theorem g3:crsOf wO 7 5 100=none:=by rfl
theorem g4:nums wS 100=[7]:=by
 have:numsL wS.fcts (atV wS.fcts ⟨12,0,0⟩ 0 100).1=[7]:=by rfl
 unfold nums
 rw[this,srtI]
 exact List.mergeSort_singleton ..
theorem g5:heldL wS.fcts 6 3 5 100=[]:=by rfl
theorem g6:heldL wS.fcts 6 4 5 100=[]:=by rfl
theorem g7:heldL wS.fcts 6 4 6 100=[2]:=by rfl
theorem g8:petV wS.fcts ⟨7,3,7⟩ 5 100=0:=by rfl
theorem g9:petV wS.fcts ⟨7,4,7⟩ 5 100=50:=by rfl
theorem g10:petV wO.fcts ⟨10,3,0⟩ 5 100=0:=by rfl
theorem g11:pointsV wS.fcts (gK 3 7) 0 5 100=[]:=by rfl
theorem g12:pointsV wS.fcts (gK 4 7) 0 5 100=[]:=by rfl
theorem rec_none {w:Wor}{s t kn:Int}(h:(nums w kn).flatMap (attN w s t kn)=[]):recA w s t kn=[]:=by
 unfold recA
 rw[ofA_eq,h]
 rfl
theorem seen_none (w:Wor)(t kn:Int):seenL w t kn [] []=[]:=by
 have key:∀ k,seenF w t kn [] [] k=[]:=by
  intro k
  induction k with
  |zero=>rfl
  | succ k ih =>
    rw[seenF,ih,if_neg]
    .rfl
    .have h:∀E:List Int,senZ E []=(0,-1):=fun E=>by
      unfold senZ trN bsF
      rfl
     unfold okS
     rw[seS_now]
     unfold seS
     rw[h]
     split<;>simp
 exact key 4096
def s0:Sit:=⟨[],0,0,1⟩
theorem sit_none {w:Wor}{s t kn:Int}(h:recA w s t kn=[]):sitV w s t kn []=s0:=by
 unfold sitV
 have hc:cntL w s t kn=[]:=by
  unfold cntL
  rw[h]
  rfl
 rw[h,seen_none,hc]
 rfl
theorem g13:sitV wS 3 5 100 []=s0:=sit_none (rec_none (by rw[g4];show attN wS 3 5 100 7++[]=[];unfold attN;rw[g11];rfl))
theorem g14:sitV wS 4 5 100 []=s0:=sit_none (rec_none (by rw[g4];show attN wS 4 5 100 7++[]=[];unfold attN;rw[g12];rfl))
theorem g15:valR s0 kA=false:=by
 rw[valR_eq]
 rfl
theorem g16:valR s0 nA=false:=by
 rw[valR_eq,show nA.kids=[kA] from rfl,valRs_cons,valRs_nil,g15]
 rfl
theorem g17:valR s0 bA=false:=by
 rw[valR_eq,show bA.kids=[] from rfl,valRs_nil]
 rfl
theorem a1:ansV wO 3 7 5 100 []=0:=by
 unfold ansV
 rw[if_pos]
 unfold outB
 rw[g3]
 simp
theorem a2:ansV wS 3 7 5 100 []=0:=by
 unfold ansV outB heldN allowV petC crsD
 rw[g1,g5,g13,g8]
 show(if(valR s0 nA&&!valR s0 bA)=true then(1:Int) else if(0:Int)<0 then 1 else 0)=0
 rw[g16]
 rfl
theorem a3:ansV wS 4 7 5 100 []=1/\namV wS 4 7 5 100 []=[50]:=by
 unfold ansV namV outB heldN allowV petC crsD
 rw[g1,g6,g14,g9]
 show(if(valR s0 nA&&!valR s0 bA)=true then(1:Int) else if(0:Int)<50 then 1 else 0)=1/\(if(valR s0 nA&&!valR s0 bA)=true then([]:List Int) else if(0:Int)<50 then[50] else[])=[50]
 rw[g16]
 exact⟨rfl,rfl⟩
theorem a4:ansV wS 4 7 6 100 []=0/\namV wS 4 7 6 100 []=[]:=by
 have h:outB wS 4 7 6 100=true:=by
  unfold outB heldN
  rw[g7]
  rfl
 unfold ansV namV
 rw[h]
 exact⟨rfl,rfl⟩
theorem a5:(if valR (sitV wS 4 5 100 []) cS.bar=true then[-1] else([]:List Int))++failF (sitV wS 4 5 100 []) (partsR cS.need) (partsR cS.need).length=[0]:=by
 rw[g14,show cS.bar=bA from rfl,g17,show partsR cS.need=[kA] from rfl,show[kA].length=0+1 from rfl,failF,show[kA].getD 0 default=kA from rfl,g15]
 rfl
theorem load_ok (w:Wor)(hw:WfW w)(s cr t kn:Int)(ht:In .i64 (t+1)) :
 Pure Tryz.prog 27 [.agg (eWor w),di s,di cr,di t,di kn] [.bool (bif decide (cr<=40) then true else decide (0<petV w.fcts ⟨10,s,0⟩ t kn)),eInts (if(bif !decide (cr<=40) then decide (0<petV w.fcts ⟨10,s,0⟩ t kn) else false)=true then[petV w.fcts ⟨10,s,0⟩ t kn] else[]),eReds [rdK ⟨10,s,0⟩ t]]:=by
 have hA:=active_ok w hw 10 s 0 t kn ht
 generalize petV w.fcts ⟨10,s,0⟩ t kn=pv at hA⊢
 have hN:=named_ok (bif !decide (cr<=40) then decide (0<pv) else false) pv
 generalize (if(bif !decide (cr<=40) then decide (0<pv) else false)=true then[pv] else[])=l at hN⊢
 refine pure_rule hT (T:=tab) (N:=39) (rs:=[.tmp 10,.tmp 11,.tmp 12]) Tryz.func27 rfl rfl rfl Kr rfl ?_
 (refine gW ?_;intros)
 refine hA.call ?_
 (refine gW ?_;intros)
 refine hN.call ?_
 (refine gW ?_;intros)
 exact⟨rfl,⟨rfl,rfl,fun i hi=>rfl⟩,⟨rfl,rfl,fun i hi=>rfl⟩,Tt⟩
theorem in1_of {r:Rule}(h:(-9223372036854775808<=r.op/\r.op<=9223372036854775807)/\(-9223372036854775808<=r.course/\r.course<=9223372036854775807)/\(-9223372036854775808<=r.n/\r.n<=9223372036854775807)/\(-9223372036854775808<=r.d/\r.d<=9223372036854775807)/\r.kids.length<=200):In1 r :=
 ⟨in64.2 h.1,in64.2 h.2.1,in64.2 h.2.2.1,in64.2 h.2.2.2.1,by have:=h.2.2.2.2;omega⟩
theorem wf_leaf {r:Rule}(hk:r.kids=[])(h:In1 r):wfR r:=fun p hp=>by
 rw[preR_eq,hk,preL_nil]at hp
 rw[List.mem_singleton.1 hp]
 exact h
theorem wf_nA:wfR nA:=fun p hp=>by
 rw[preR_eq]at hp
 rcases List.mem_cons.1 hp with rfl|hp
 .exact in1_of Dc
 .obtain⟨k,hk,hq⟩:=preL_mem.1 hp
  have hk:k∈[kA]:=hk
  have:k=kA:=List.mem_singleton.1 hk
  subst this
  exact wfR_any (wf_leaf rfl (in1_of Dc)) _ p hq
theorem few_wS:Few28 wS [] where
 wf:=⟨⟨⟨by unfold fitL;decide,fun c hc=>by
  have:c=cS:=List.mem_singleton.1 hc
  subst this
  exact⟨wf_nA,wf_leaf rfl (in1_of Dc)⟩⟩,⟨by unfold fitL;decide,fun c hc=>(by cases hc)⟩,by unfold fitL;decide,fun c hc=>(by cases hc)⟩,fun c hc=>by
  have:c=cS:=List.mem_singleton.1 hc
  subst this
  exact⟨Dc,Dc⟩,by unfold fitL;decide⟩
 len:=by decide
 val:=by decide
 now:=by decide
theorem few_wO:Few28 wO [] where
 wf:=⟨⟨⟨by unfold fitL;decide,fun c hc=>(by cases hc)⟩,⟨by unfold fitL;decide,fun c hc=>(by cases hc)⟩,by unfold fitL;decide,fun c hc=>(by cases hc)⟩,fun c hc=>(by cases hc),by unfold fitL;decide⟩
 len:=by decide
 val:=fun f hf=>(by cases hf)
 now:=by decide
theorem some28_ok:Pure Tryz.prog 32 [] [.agg (eWor wS)]:=by
 refine pure_ruleC hT (T:=tab) (N:=26) (rs:=[.cell 0 29]) Tryz.func32 rfl rfl rfl Kr rfl ?_
 (refine gW ?_;intros)
 refine⟨BecP.agg' ⟨BecP.osl' rfl (Nat.le_refl _) (fun i hi=>?_),.eq rfl,.eq rfl,BecP.rows rfl (Nat.le_refl _) (fun i hi=>by
  match i,hi with
  |0,_=>rfl
  |1,_=>rfl
  |2,_=>rfl
  |3,_=>rfl
  |n+4,h=>exact absurd h Om),Tt⟩,Tt⟩
 rw[show i=0 from Nat.lt_one_iff.1 hi]
 refine⟨.d,.d,.d,.d,.d,.d,.d,.d,.d,BecP.osl' rfl (Nat.le_refl _) (fun i hi=>?_),.d,.d,.d,.d,.d,.eq rfl,Tt⟩
 rw[show i=0 from Nat.lt_one_iff.1 hi]
 exact⟨.d,.d,.d,.d,.d,.eq rfl,Tt⟩
theorem eDec_at (d:Dec):eDec d=[di d.kind,di d.student,di d.object,di d.term,di d.answer,di d.last,di d.known,eInts d.now,eReds d.reads,eInts d.named]:=rfl
theorem sane28_ok:Pure Tryz.prog 9 [] [.bool true]:=by
 have hA1:=few_wO.adm 3 7 5 100 Dc
 have hA2:=few_wO.admN 3 4096 5 100 Dc
 have hL1:=load_ok wO few_wO.wf 3 40 5 100 (in64.2 Dc)
 have hL2:=load_ok wO few_wO.wf 3 41 5 100 (in64.2 Dc)
 have hW1:=few_wO.whyN 3 7 5 100 (by rw[g3];rfl)
 have hSo:=some28_ok
 have hA3:=few_wS.adm 3 7 5 100 Dc
 have hA4:=few_wS.adm 4 7 5 100 Dc
 have hA5:=few_wS.adm 4 7 6 100 Dc
 have hW2:=few_wS.why 4 7 5 100 Dc cS g1
 rw[eDec_at,show(admV wO 3 7 5 100 []).answer=0 from a1,show(admV wO 3 7 5 100 []).last=0 from a1]at hA1
 rw[eDec_at,show(admV wS 3 7 5 100 []).answer=0 from a2,show(admV wS 3 7 5 100 []).last=0 from a2]at hA3
 rw[eDec_at,show(admV wS 4 7 5 100 []).answer=1 from a3.1,show(admV wS 4 7 5 100 []).last=1 from a3.1,show(admV wS 4 7 5 100 []).named=[50] from a3.2]at hA4
 rw[eDec_at,show(admV wS 4 7 6 100 []).answer=0 from a4.1,show(admV wS 4 7 6 100 []).last=0 from a4.1,show(admV wS 4 7 6 100 []).named=[] from a4.2]at hA5
 rw[g10]at hL1 hL2
 rw[show whyL wS 4 7 5 100 []=[0] from by unfold whyL crsD;rw[g1];exact a5]at hW2
 generalize (admV wO 3 7 5 100 []).reads=q1 at hA1
 generalize (admV wO 3 7 5 100 []).named=q2 at hA1
 generalize (admV wS 3 7 5 100 []).reads=q3 at hA3
 generalize (admV wS 3 7 5 100 []).named=q4 at hA3
 generalize (admV wS 4 7 5 100 []).reads=q5 at hA4
 generalize (admV wS 4 7 6 100 []).reads=q6 at hA5
 have hI1:=sameI28_ok [50] [50] (by unfold fitL;decide) (by unfold fitL;decide)
 have hI2:=sameI28_ok [0] [0] (by unfold fitL;decide) (by unfold fitL;decide)
 rw[decide_eq_true rfl]at hI1 hI2
 refine pure_rule hT (T:=tab) (N:=154) (rs:=[.tmp 0]) Tryz.func9 rfl rfl rfl Kr rfl ?_
 (refine gW ?_;intros)
 refine CallVC.frz [] (dargs:=[.agg (eWor wO),di 3,di 7,di 5,di 100,eInts []]) ⟨.eq (.inr ⟨rfl,rfl,rfl,rfl,Tt⟩),.d,.d,.d,.d,.eq rfl,Tt⟩ (hA1.call ?_)
 (refine gW ?_;intros)
 refine CallVC.frz [] (dargs:=[.agg (eWor wO),di 3,di 4096,di 5,di 100,eInts []]) ⟨.eq (.inr ⟨rfl,rfl,rfl,rfl,Tt⟩),.d,.d,.d,.d,.eq rfl,Tt⟩ (hA2.call ?_)
 (refine gW ?_;intros)
 refine CallVC.frz [] (dargs:=[.agg (eWor wO),di 3,di 40,di 5,di 100]) ⟨.eq (.inr ⟨rfl,rfl,rfl,rfl,Tt⟩),.d,.d,.d,.d,Tt⟩ (hL1.call ?_)
 (refine gW ?_;intros)
 refine CallVC.frz [] (dargs:=[.agg (eWor wO),di 3,di 41,di 5,di 100]) ⟨.eq (.inr ⟨rfl,rfl,rfl,rfl,Tt⟩),.d,.d,.d,.d,Tt⟩ (hL2.call ?_)
 (refine gW ?_;intros)
 refine CallVC.frz [] (dargs:=[.agg (eWor wO),di 3,di 7,di 5,di 100,eInts []]) ⟨.eq (.inr ⟨rfl,rfl,rfl,rfl,Tt⟩),.d,.d,.d,.d,.eq rfl,Tt⟩ (hW1.call ?_)
 (refine gW ?_;intros)
 refine hSo.call ?_
 (refine gW ?_;intros)
 refine CallVC.frz [] (dargs:=[.agg (eWor wS),di 3,di 7,di 5,di 100,eInts []]) ⟨.d,.d,.d,.d,.d,.eq rfl,Tt⟩ (hA3.call ?_)
 (refine gW ?_;intros)
 refine CallVC.frz [] (dargs:=[.agg (eWor wS),di 4,di 7,di 5,di 100,eInts []]) ⟨.d,.d,.d,.d,.d,.eq rfl,Tt⟩ (hA4.call ?_)
 (refine gW ?_;intros)
 refine CallVC.frz [] (dargs:=[.agg (eWor wS),di 4,di 7,di 6,di 100,eInts []]) ⟨.d,.d,.d,.d,.d,.eq rfl,Tt⟩ (hA5.call ?_)
 (refine gW ?_;intros)
 refine CallVC.frz [] (dargs:=[.agg (eWor wS),di 4,di 7,di 5,di 100,eInts []]) ⟨.d,.d,.d,.d,.d,.eq rfl,Tt⟩ (hW2.call ?_)
 (refine gW ?_;intros)
 refine hI1.loan rfl ⟨.d,BecP.rows rfl (Nat.le_refl _) (fun i hi=>by rw[show i=0 from Nat.lt_one_iff.1 hi];rfl),Tt⟩ ?_
 (refine gW ?_;intros)
 refine hI2.loan rfl ⟨.d,BecP.rows rfl (Nat.le_refl _) (fun i hi=>by rw[show i=0 from Nat.lt_one_iff.1 hi];rfl),Tt⟩ ?_
 (refine gW ?_;intros)
 exact⟨rfl,Tt⟩
end Go.Proofs.YtkjmomadndmeaaaGreatDoor
