import Derived.Test.YtmlhghddfobmmaaGreatDoorBookQ
import Derived.Test.YtmlhghddfobmmaaGreatDoorNmC
import Derived.Test.YtmlhghddfobmmaaGreatDoorNamP
import Derived.Test.YtmlhghddfobmmaaGreatDoorOpsX
namespace Go.Ab
set_option linter.unusedSimpArgs false
set_option linter.unusedVariables false
section
variable {P:Program}{T:Tab}{N:Nat}{w:World}{F:Nat->Prop}{σ:Pls}{m:Mem}{env:Env}{K:AV->Mem->Prop}{o:Oper}
theorem op_len_str {x:Operand}{t:TypeId}(hop:o.op=.call {callee:=.builtin .len,args:=#[x],argTypes:=#[t]})(hu:P.underlying t=some .string){s:ByteArray}{px:List Prop}(hx:strip (ev env x)=(.d (.str s),px))(hpx:∀p∈px,p)
 (hK:K (.d (.int .i64 s.size)) m):OpVC P o env m K :=
 ⟨fun c h=>(by rw [hop] at h;cases h),fun a w F σ hev hm=>by
  have hv:=strip_ok (ev_ok hev x) (by rw[hx];exact hpx)
  rw[hx]at hv
  obtain⟨X,hX⟩:∃X,a.eval x=X:=⟨_,rfl⟩
  rw[hX]at hv
  cases hv with
  | d hv =>
    cases hv with
    | str =>
      refine⟨_,.int .i64 s.size,w,σ,F,_,_,?_,.inl rfl,hK,.d .int,hm,Step.refl σ F w,SLe.refl σ⟩
      simp[execOp,hop,hX,resolve,invoke,builtin,Builtin.len_,run_underlying hu,goInt]⟩
end
end Go.Ab
namespace Go.Proofs.YtmlhghddfobmmaaGreatDoor
set_option linter.unusedSimpArgs false
set_option linter.unusedVariables false
open Go Go.Ab
set_option maxRecDepth 100000
set_option maxHeartbeats 0
def cntX:Nat->Rule->Nat
 |0,_=>300
 |f+1,r=>if 300<r.kids.length then 300 else r.kids.foldl (fun n k=>if n<300 then n+cntX f k else n) 1
def stpX (f:Nat)(n:Nat)(k:Rule):Nat:=if n<300 then n+cntX f k else n
theorem cntX_succ (f:Nat)(r:Rule):cntX (f+1) r=if 300<r.kids.length then 300 else r.kids.foldl (stpX f) 1:=by
 rw[cntX]
 rfl
theorem stpX_ge (f:Nat):∀(ks:List Rule) (n:Nat),n<=ks.foldl (stpX f) n
 |[],n=>Nat.le_refl _
 | k :: ks,n=>by
   rw[List.foldl_cons]
   refine Nat.le_trans ?_ (stpX_ge f ks _)
   unfold stpX
   split<;>omega
theorem cntX_le:∀(f:Nat) (r:Rule),cntX f r<=300*(f+1)
 |0,r=>by rw[cntX];omega
 | f + 1,r=>by
   rw[cntX_succ]
   split
   .omega
   .have key:∀(ks:List Rule) (n:Nat),n<=300*(f+2)->ks.foldl (stpX f) n<=300*(f+2):=by
     intro ks
     induction ks with
     |nil=>intro n h;exact h
     | cons k ks ih =>
       intro n h
       rw[List.foldl_cons]
       refine ih _ ?_
       have:=cntX_le f k
       unfold stpX
       split<;>omega
    exact key _ 1 Om
theorem stpX_le (f:Nat)(ks:List Rule):ks.foldl (stpX f) 1<=300*(f+2):=by
 have key:∀(ks:List Rule) (n:Nat),n<=300*(f+2)->ks.foldl (stpX f) n<=300*(f+2):=by
  intro ks
  induction ks with
  |nil=>intro n h;exact h
  | cons k ks ih =>
    intro n h
    rw[List.foldl_cons]
    refine ih _ ?_
    have:=cntX_le f k
    unfold stpX
    split<;>omega
 exact key _ 1 Om
theorem stpX_stop {f:Nat}:∀{ks:List Rule} {n:Nat},300<=n->ks.foldl (stpX f) n=n
 |[],n,_=>rfl
 | k :: ks,n,h=>by
   rw[List.foldl_cons,stpX,if_neg Om]
   exact stpX_stop h
theorem cntX_is:∀ (f:Nat) (r:Rule),cntX f r < 300→cntR r=cntX f r
 |0,r,h=>by rw[cntX]at h;omega
 | f + 1,r,h=>by
   rw[cntX_succ]at h⊢
   split at h
   .omega
   .rename_i hk
    rw[if_neg hk,cntR_eq]
    have key:∀(ks:List Rule) (n:Nat),ks.foldl (stpX f) n<300->ks.foldl (stpX f) n=n+cntRs ks:=by
     intro ks
     induction ks with
     |nil=>intro n _;rw[cntRs_nil];rfl
     | cons k ks ih =>
       intro n h
       rw[List.foldl_cons]at h⊢
       have h1:=ih _ h
       have h2:=stpX_ge f ks (stpX f n k)
       rw[h1,cntRs_cons]
       unfold stpX at h2⊢
       split at h2
       .rename_i hn
        have e:stpX f n k=n+cntX f k:=by rw[stpX,if_pos hn]
        rw[e]at h
        have h5:=stpX_ge f ks (n+cntX f k)
        have h6:=cntX_is f k Om
        rw[if_pos hn,h6]
        omega
       .rename_i hn
        exfalso
        have e:stpX f n k=n:=by rw[stpX,if_neg hn]
        rw[e]at h
        have:=stpX_ge f ks n
        omega
    rw[key _ 1 h]
    omega
def fewR (r:Rule):Bool:=decide (cntX 41 r<250)&&decide (r.name.size<=100)
theorem fewR_cnt {r:Rule}(h:fewR r=true):cntR r<=1000000:=by
 simp only[fewR,Bool.and_eq_true,decide_eq_true_eq]at h
 rw[cntX_is 41 r Om]
 omega
def fewB (b:Bok):Bool:=b.crs.all (fun c=>fewR c.need&&fewR c.bar)&&(b.prg.all (fun p=>decide (p.reqs.length<=70))&&(decide (b.crs.length<=16)&&(decide (b.prg.length<=8)&&decide (b.sys.length<=6))))
def fewW (w:Wor):Bool:=fewB w.bok&&decide (w.fcts.length<=40)
theorem count10_ok:∀ (f:Nat) (r:Rule) (d:Int),wfR r→f≤41→d=41 - (f:Int)→Pure Tryz.prog 117 [.agg (eRule r),.int .i64 d] [.int .i64 (cntX f r)]
 | 0,r,d,hw,hf,hd=>by
   have hlk:=(wfR_kids hw).1.2.2.2.2
   subst hd
   rw[cntX]
   refine pure_rule hT (T:=tab) (N:=37) (rs:=[.tmp 4]) Tryz.func117 rfl rfl rfl Kr rfl ?_
   (refine gW ?_;intros)
   exact⟨rfl,Tt⟩
 | f + 1,r,d,hw,hf,hd=>by
   obtain⟨hw1,hw2⟩:=wfR_kids hw
   have hlk:=hw1.2.2.2.2
   have ih:=fun r hw=>count10_ok f r (d+1) hw Om Om
   have hfin:=stpX_le f r.kids
   rw[cntX_succ]
   refine pure_rule hT (T:=tab) (N:=37) (rs:=[.tmp 4]) Tryz.func117 rfl rfl rfl Kr rfl ?_
   by_cases h3:300<r.kids.length
   .rw[if_pos h3]
    (refine gW ?_;intros)
    exact⟨rfl,Tt⟩
   .rw [if_neg h3]
    (refine gW ?_;intros)
    refine loop_rule hT (S:=Nat) (fun k=>([(1,.d (.int .i64 d)),(2,.ptr (.loc 0) 0 0 0),(5,.d (.int .i64 (((r.kids.take k).foldl (stpX f) 1:Nat):Int))),(6,.d (.int .i64 k))],⟨[some (.box 66 (up (eRule r)))],[]⟩)) (fun k=>k<=r.kids.length) (fun k=>r.kids.length-k) 0 ?_ ?_ ?_
    .rw[List.take_zero,List.foldl_nil]
     exact lq
    .exact Nat.zero_le _
    .intro k hk
     dsimp only at hk⊢
     have hcb:=stpX_le f (r.kids.take k)
     by_cases hk2:k<r.kids.length
     .have hts:(r.kids.take (k+1)).foldl (stpX f) 1=stpX f ((r.kids.take k).foldl (stpX f) 1) (r.kids.getD k default):=by
       rw[take_succ_at hk2,List.foldl_append]
       rfl
      have hall:r.kids.foldl (stpX f) 1=(r.kids.drop k).foldl (stpX f) ((r.kids.take k).foldl (stpX f) 1):=by
       rw[<-List.foldl_append,List.take_append_drop]
      have hne:r.kids≠[]:=fun e=>by rw[e]at hk2;exact absurd hk2 (Nat.not_lt_zero _)
      have hI:=ih _ (hw2 _ (getD_mem hk2))
      have hB:=cntX_le f (r.kids.getD k default)
      have er:eRule r=[.int .i64 r.op,.int .i64 r.course,.str r.name,.int .i64 r.n,.int .i64 r.d,.sl 6 r.kids.length fun i=>eRule (r.kids.getD i default)]:=by
       unfold eRule
       rw[eRules_ne hne]
       rfl
      rw[er]
      obtain⟨c,hc⟩:∃c,(r.kids.take k).foldl (stpX f) 1=c:=⟨_,rfl⟩
      rw[hc]at hts hall hcb⊢
      have kts:Kp _:=⟨hts⟩
      have kall:Kp _:=⟨hall⟩
      clear hts hall hc er ih hw2
      by_cases h300:c<300
      .have e1:Kp ((((r.kids.take (k+1)).foldl (stpX f) 1:Nat):Int)=(c:Int)+(cntX f (r.kids.getD k default):Int)):=⟨by
        rw[kts.h,stpX,if_pos h300]
        omega⟩
       (refine gW ?_;intros)
       refine hI.call ?_
       (refine gW ?_;intros)
       refine⟨k+1,by show k+1<=r.kids.length;omega,by show r.kids.length-(k+1)<r.kids.length-k;omega,?_⟩
       dsimp only
       rw[e1.h]
       exact lq
      .have e2:Kp (r.kids.foldl (stpX f) 1=c):=⟨by rw[kall.h];exact stpX_stop Om⟩
       (refine gW ?_;intros)
       rw[e2.h]
       exact⟨rfl,Tt⟩
     .have e:r.kids.take k=r.kids:=List.take_of_length_le Om
      rw[e]
      (refine gW ?_;intros)
      exact⟨rfl,Tt⟩
theorem fewRules_ok (r:Rule)(hw:wfR r)(hn:r.name.size<=9223372036854775807):Pure Tryz.prog 47 [.agg (eRule r)] [.bool (fewR r)]:=by
 have hC:=count10_ok 41 r 0 hw (Nat.le_refl _) rfl
 have hB:=cntX_le 41 r
 unfold fewR
 refine pure_rule hT (T:=tab) (N:=12) (rs:=[.tmp 2]) Tryz.func47 rfl rfl rfl Kr rfl ?_
 by_cases h1:cntX 41 r<250
 .rw[decide_eq_true h1,Bool.true_and]
  (refine gW ?_;intros)
  refine hC.call ?_
  (refine gW ?_;intros)
  refine op_len_str rfl Tryz.underlying9 rfl (fun p hp=>?_) ?_
  .simp[cat]at hp
   rw[hp]
   omega
  (refine gW ?_;intros)
  refine⟨congrArg D.bool ?_,Tt⟩
  rw[decide_eq_true (show((cntX 41 r:Nat):Int)<250 by omega),cond_true,Bool.eq_iff_iff]
  simp
  omega
 .rw[decide_eq_false h1,Bool.false_and]
  (refine gW ?_;intros)
  refine hC.call ?_
  (refine gW ?_;intros)
  refine⟨congrArg D.bool ?_,Tt⟩
  cases decide (((cntX 41 r:Nat):Int)<250)<;>rfl
def nmB (b:Bok):Prop:=∀c∈b.crs,c.need.name.size<=9223372036854775807/\c.bar.name.size<=9223372036854775807
theorem fewBook_ok (b:Bok)(hw:wfBok b)(hn:nmB b):Pure Tryz.prog 12 [.agg (eBok b)] [.bool (fewB b)]:=by
 obtain⟨⟨hl1,hc⟩,⟨hl2,hp⟩,hl3,-⟩:=hw
 have hl1':b.crs.length<=9223372036854775807:=hl1
 have hl2':b.prg.length<=9223372036854775807:=hl2
 have hl3':b.sys.length<=9223372036854775807:=hl3
 have hpl:∀p∈b.prg,p.reqs.length<=9223372036854775807:=fun p h=>(hp p h).2.2.1
 have kp:Kp _:=⟨hpl⟩
 have kc:Kp _:=⟨hc⟩
 have kn:Kp (nmB b):=⟨hn⟩
 clear hp hc hpl hn hl1 hl2 hl3
 unfold fewB
 refine pure_rule hT (T:=tab) (N:=61) (rs:=[.tmp 2]) Tryz.func12 rfl rfl rfl Kr rfl ?_
 (refine gW ?_;intros)
 refine loop_rule hT (S:=Nat) (fun k=>([(1,.ptr (.loc 0) 0 0 0),(2,.d (.bool false)),(3,.d (.int .i64 k))],⟨[some (.box 26 (up (eBok b)))],[]⟩)) (fun k=>k<=b.crs.length/\b.crs.all (fun c=>fewR c.need&&fewR c.bar)=(b.crs.drop k).all (fun c=>fewR c.need&&fewR c.bar)) (fun k=>b.crs.length-k) 0 ?_ ?_ ?_
 .exact lq
 .exact⟨Nat.zero_le _,rfl⟩
 .rintro k ⟨hk,ha⟩
  have ka:Kp _:=⟨ha⟩
  clear ha
  dsimp only at hk⊢
  by_cases hk2:k<b.crs.length
  .have hm:=getD_mem hk2
   have hN:=fewRules_ok _ (kc.h _ hm).1 (kn.h _ hm).1
   have hB:=fewRules_ok _ (kc.h _ hm).2 (kn.h _ hm).2
   have e:Kp (b.crs.all (fun c=>fewR c.need&&fewR c.bar)=((fewR (b.crs.getD k default).need&&fewR (b.crs.getD k default).bar)&&(b.crs.drop (k+1)).all (fun c=>fewR c.need&&fewR c.bar))):=⟨by
    rw[ka.h,drop_at hk2,List.all_cons]⟩
   clear hm
   cases h1:fewR (b.crs.getD k default).need
   .rw[h1]at hN
    (refine gW ?_;intros)
    refine hN.call ?_
    (refine gW ?_;intros)
    rw[e.h,h1]
    exact⟨rfl,Tt⟩
   .rw[h1]at hN
    cases h2:fewR (b.crs.getD k default).bar
    .rw[h2]at hB
     (refine gW ?_;intros)
     refine hN.call ?_
     (refine gW ?_;intros)
     refine hB.call ?_
     (refine gW ?_;intros)
     rw[e.h,h1,h2]
     exact⟨rfl,Tt⟩
    .rw[h2]at hB
     (refine gW ?_;intros)
     refine hN.call ?_
     (refine gW ?_;intros)
     refine hB.call ?_
     (refine gW ?_;intros)
     refine stp (k+1) ?_ ⟨by show k+1<=b.crs.length;omega,by rw[e.h,h1,h2];rfl⟩
     exact lq
  .have e:b.crs.all (fun c=>fewR c.need&&fewR c.bar)=true:=by
    rw[ka.h,drop_end Om]
    rfl
   rw[e,Bool.true_and]
   clear e ka
   (refine gW ?_;intros)
   refine loop_rule hT (S:=Nat) (fun k=>([(1,.ptr (.loc 0) 0 0 0),(2,.d (.bool false)),(4,.d (.int .i64 k))],⟨[some (.box 26 (up (eBok b)))],[]⟩)) (fun k=>k<=b.prg.length/\b.prg.all (fun p=>decide (p.reqs.length<=70))=(b.prg.drop k).all (fun p=>decide (p.reqs.length<=70))) (fun k=>b.prg.length-k) 0 ?_ ?_ ?_
   .exact lq
   .exact⟨Nat.zero_le _,rfl⟩
   .clear hk hk2
    rintro k ⟨hk,ha⟩
    have ka:Kp _:=⟨ha⟩
    clear ha
    dsimp only at hk⊢
    by_cases hk2:k<b.prg.length
    .have hm:=kp.h _ (getD_mem hk2)
     have e:Kp (b.prg.all (fun p=>decide (p.reqs.length<=70))=(decide ((b.prg.getD k default).reqs.length<=70)&&(b.prg.drop (k+1)).all (fun p=>decide (p.reqs.length<=70)))):=⟨by
      rw[ka.h,drop_at hk2,List.all_cons]⟩
     by_cases h1:(b.prg.getD k default).reqs.length<=70
     ·(refine gW ?_;intros)
      refine stp (k+1) ?_ ⟨by show k+1<=b.prg.length;omega,by rw[e.h,decide_eq_true h1];rfl⟩
      exact lq
     ·(refine gW ?_;intros)
      rw[e.h,decide_eq_false h1]
      exact⟨rfl,Tt⟩
    .have e:b.prg.all (fun p=>decide (p.reqs.length<=70))=true:=by
      rw[ka.h,drop_end Om]
      rfl
     rw[e,Bool.true_and]
     clear e ka
     (refine gW ?_;intros)
     refine⟨congrArg D.bool ?_,Tt⟩
     have e1:decide ((b.crs.length:Int)<=16)=decide (b.crs.length<=16):=by rw[Bool.eq_iff_iff];simp;omega
     have e2:decide ((b.prg.length:Int)<=8)=decide (b.prg.length<=8):=by rw[Bool.eq_iff_iff];simp;omega
     have e3:decide ((b.sys.length:Int)<=6)=decide (b.sys.length<=6):=by rw[Bool.eq_iff_iff];simp;omega
     rw[e1,e2,e3]
     cases decide (b.crs.length<=16)<;>cases decide (b.prg.length<=8)<;>rfl
theorem few14_ok (w:Wor)(hw:wfBok w.bok)(hf:fitL w.fcts)(hn:nmB w.bok):Pure Tryz.prog 22 [.agg (eWor w)] [.bool (fewW w)]:=by
 have hf':w.fcts.length<=9223372036854775807:=hf
 have hB:=fewBook_ok w.bok hw hn
 unfold fewW
 refine pure_rule hT (T:=tab) (N:=12) (rs:=[.tmp 2]) Tryz.func22 rfl rfl rfl Kr rfl ?_
 cases h1:fewB w.bok<;>rw[h1]at hB
 ·(refine gW ?_;intros)
  refine hB.call ?_
  (refine gW ?_;intros)
  exact⟨rfl,Tt⟩
 ·(refine gW ?_;intros)
  refine hB.call ?_
  (refine gW ?_;intros)
  refine⟨congrArg D.bool ?_,Tt⟩
  rw[cond_true,Bool.true_and,Bool.eq_iff_iff]
  simp
  omega
structure CatW (c:Cat):Prop where
 crs:fitL c.crs
 rul:∀x∈c.crs,(wfR x.need/\x.need.name.size<=9223372036854775807)/\(wfR x.bar/\x.bar.name.size<=9223372036854775807)
 same:fitL c.same
 prg:fitL c.prg
 reqs:∀p∈c.prg,fitL p.reqs/\∀q∈p.reqs,wfReq q
def fewQ (q:Req):Bool:=decide (q.names.length<=20)
def fewP (p:Prg):Bool:=decide (p.reqs.length<=70)&&p.reqs.all fewQ
def fewX (x:Crs):Bool:=fewR x.need&&fewR x.bar
def fewL (c:Cat):Prop:=c.crs.length<=8/\c.same.length<=8/\c.prg.length<=4/\wsum c<=20
instance (c:Cat):Decidable (fewL c):=inferInstanceAs (Decidable (_/\_))
def fewC (c:Cat):Bool:=decide (fewL c)&&(c.crs.all fewX&&c.prg.all fewP)
theorem all_no {α:Type}[Inhabited α]{l:List α}{p:α->Bool}{k:Nat}(hk:k<l.length)(h:p (l.getD k default)=false):l.all p=false :=
 List.all_eq_false.2 ⟨_,getD_mem hk,by rw[h];exact Bool.false_ne_true⟩
theorem all_go {α:Type}[Inhabited α]{l:List α}{p:α->Bool}{k:Nat}(hk:k<l.length)(ht:(l.take k).all p=true)(h:p (l.getD k default)=true):(l.take (k+1)).all p=true:=by
 rw[take_succ_at hk,List.all_append,ht,List.all_cons,h]
 rfl
theorem few10_ok (c:Cat)(hw:CatW c):Pure Tryz.prog 13 [.agg (eCat c)] [.bool (fewC c)]:=by
 have h1:c.crs.length<=9223372036854775807:=hw.crs
 have h2:c.same.length<=9223372036854775807:=hw.same
 have h3:c.prg.length<=9223372036854775807:=hw.prg
 have kr:Kp _:=⟨hw.rul⟩
 have kq:Kp _:=⟨hw.reqs⟩
 clear hw
 unfold fewC
 by_cases a1:c.crs.length<=8
 case neg =>
  rw[decide_eq_false (fun h:fewL c=>a1 h.1),Bool.false_and]
  refine pure_rule hT (T:=tab) (N:=103) (rs:=[.tmp 2]) Tryz.func13 rfl rfl rfl Kr rfl ?_
  (refine gW ?_;intros)
  exact⟨rfl,Tt⟩
 by_cases a2:c.same.length<=8
 case neg =>
  rw[decide_eq_false (fun h:fewL c=>a2 h.2.1),Bool.false_and]
  refine pure_rule hT (T:=tab) (N:=103) (rs:=[.tmp 2]) Tryz.func13 rfl rfl rfl Kr rfl ?_
  (refine gW ?_;intros)
  exact⟨rfl,Tt⟩
 by_cases a3:c.prg.length<=4
 case neg =>
  rw[decide_eq_false (fun h:fewL c=>a3 h.2.2.1),Bool.false_and]
  refine pure_rule hT (T:=tab) (N:=103) (rs:=[.tmp 2]) Tryz.func13 rfl rfl rfl Kr rfl ?_
  (refine gW ?_;intros)
  exact⟨rfl,Tt⟩
 refine pure_rule hT (T:=tab) (N:=103) (rs:=[.tmp 2]) Tryz.func13 rfl rfl rfl Kr rfl ?_
 (refine gS ?_;intros)
 have hg:(!bif bif decide ((8:Int)<(c.crs.length:Int)) then true else decide ((8:Int)<(c.same.length:Int)) then true else decide ((4:Int)<(c.prg.length:Int)))=true:=by
  rw[decide_eq_false Om,decide_eq_false Om,decide_eq_false Om]
  rfl
 refine Sq.alt (Awp.seq (Awp.seq (Awp.cuts (WL.cut hT 23 rfl Kr ?_))))
 (refine gS ?_;intros)
 refine⟨congrArg some hg,op_addg rfl rfl rfl (px1 hg) (px1 hg) ?_⟩
 conv=>whnf
 refine WL.cut hT 3 rfl Kr ?_
 (refine gS ?_;intros)
 refine⟨congrArg some hg,op_addg rfl rfl rfl px0 (px1 hg) ?_⟩
 conv=>whnf
 refine WL.cut hT 3 rfl Kr ?_
 (refine gS ?_;intros)
 refine⟨congrArg some hg,op_addg rfl rfl rfl px0 (px1 hg) ?_⟩
 conv=>whnf
 refine WL.eng hT Kr ?_
 (refine gS ?_;intros)
 refine Awp.of_vc hT ?_
 by_cases a4:wsum c<=20
 case neg =>
  rw[decide_eq_false (fun h:fewL c=>a4 h.2.2.2),Bool.false_and]
  have a5:=a4
  unfold wsum at a5
  (refine gW ?_;intros)
  exact⟨rfl,Tt⟩
 rw[decide_eq_true (show fewL c from⟨a1,a2,a3,a4⟩),Bool.true_and]
 have a5:=a4
 unfold wsum at a5
 (refine gW ?_;intros)
 refine Awp.of_vc hT ?_
 (refine gW ?_;intros)
 refine loop_rule hT (S:=Nat) (fun k=>([(1,lp 0),(3,dV k)],⟨[bX 32 (up (eCat c))],[]⟩)) (fun k=>k<=c.crs.length/\(c.crs.take k).all fewX=true) (fun k=>c.crs.length-k) 0 ?_ ?_ ?_
 .repeat' (first|exact Tt|exact rfl|exact Nat.le_refl _|refine And.intro ?_ ?_)
 .exact⟨Nat.zero_le _,rfl⟩
 rintro k ⟨hk,ht⟩
 have kt:Kp _:=⟨ht⟩
 clear ht
 dsimp only at hk⊢
 by_cases hk2:k<c.crs.length
 case pos =>
  obtain⟨⟨r1,r2⟩,r3,r4⟩:=kr.h _ (getD_mem hk2)
  have hN:=fewRules_ok _ r1 r2
  have hB:=fewRules_ok _ r3 r4
  have kn:Kp ((fewR (c.crs.getD k default).need&&fewR (c.crs.getD k default).bar)=false->(c.crs.all fewX&&c.prg.all fewP)=false):=⟨fun h=>by rw[all_no (p:=fewX) hk2 h];rfl⟩
  have kg:Kp ((fewR (c.crs.getD k default).need&&fewR (c.crs.getD k default).bar)=true->(c.crs.take (k+1)).all fewX=true):=⟨all_go (p:=fewX) hk2 kt.h⟩
  clear r1 r2 r3 r4
  generalize fewR (c.crs.getD k default).need=u at hN kn kg
  generalize fewR (c.crs.getD k default).bar=v at hB kn kg
  cases u
  case false =>
   rw[kn.h rfl]
   (refine gW ?_;intros)
   refine hN.call ?_
   (refine gW ?_;intros)
   exact⟨rfl,Tt⟩
  cases v
  case false =>
   rw[kn.h rfl]
   (refine gW ?_;intros)
   refine hN.call ?_
   (refine gW ?_;intros)
   refine hB.call ?_
   (refine gW ?_;intros)
   exact⟨rfl,Tt⟩
  have kg':=kg.h rfl
  (refine gW ?_;intros)
  refine hN.call ?_
  (refine gW ?_;intros)
  refine hB.call ?_
  (refine gW ?_;intros)
  refine⟨k+1,⟨by show k+1<=c.crs.length;omega,kg'⟩,by show c.crs.length-(k+1)<c.crs.length-k;omega,?_⟩
  repeat' (first|exact Tt|exact rfl|exact Nat.le_refl _|refine And.intro ?_ ?_)
 obtain rfl:k=c.crs.length:=by omega
 rw[show c.crs.all fewX=true from by have:=kt.h;rwa [List.take_length]at this,Bool.true_and]
 clear kt
 (refine gW ?_;intros)
 refine loop_rule hT (S:=Nat) (fun k=>([(1,lp 0),(4,dV k)],⟨[bX 32 (up (eCat c))],[]⟩)) (fun k=>k<=c.prg.length/\(c.prg.take k).all fewP=true) (fun k=>c.prg.length-k) 0 ?_ ?_ ?_
 .repeat' (first|exact Tt|exact rfl|exact Nat.le_refl _|refine And.intro ?_ ?_)
 .exact⟨Nat.zero_le _,rfl⟩
 clear hk hk2
 rintro k ⟨hk,ht⟩
 have kt:Kp _:=⟨ht⟩
 clear ht
 dsimp only at hk⊢
 by_cases hk2:k<c.prg.length
 case pos =>
  obtain⟨hrl,hrq⟩:=kq.h _ (getD_mem hk2)
  have hrl:(c.prg.getD k default).reqs.length<=9223372036854775807:=hrl
  have kr2:Kp _:=⟨hrq⟩
  clear hrq
  have kn:Kp ((decide ((c.prg.getD k default).reqs.length<=70)&&(c.prg.getD k default).reqs.all fewQ)=false->c.prg.all fewP=false):=⟨all_no (p:=fewP) hk2⟩
  have kg:Kp ((decide ((c.prg.getD k default).reqs.length<=70)&&(c.prg.getD k default).reqs.all fewQ)=true->(c.prg.take (k+1)).all fewP=true):=⟨all_go (p:=fewP) hk2 kt.h⟩
  by_cases h70:(c.prg.getD k default).reqs.length<=70
  case neg =>
   rw[decide_eq_false h70]at kn
   rw[kn.h rfl]
   (refine gW ?_;intros)
   exact⟨rfl,Tt⟩
  rw[decide_eq_true h70,Bool.true_and]at kn kg
  (refine gW ?_;intros)
  refine loop_rule hT (S:=Nat) (fun j=>([(1,lp 0),(4,dV k),(5,dV j)],⟨[bX 32 (up (eCat c))],[]⟩)) (fun j=>j<=(c.prg.getD k default).reqs.length/\((c.prg.getD k default).reqs.take j).all fewQ=true) (fun j=>(c.prg.getD k default).reqs.length-j) 0 ?_ ?_ ?_
  .repeat' (first|exact Tt|exact rfl|exact Nat.le_refl _|refine And.intro ?_ ?_)
  .exact⟨Nat.zero_le _,rfl⟩
  rintro j ⟨hj,hu⟩
  have ku:Kp _:=⟨hu⟩
  clear hu
  dsimp only at hj⊢
  by_cases hj2:j<(c.prg.getD k default).reqs.length
  case pos =>
   have hnl:((c.prg.getD k default).reqs.getD j default).names.length<=9223372036854775807:=(kr2.h _ (getD_mem hj2)).1
   have kn2:Kp (decide (((c.prg.getD k default).reqs.getD j default).names.length<=20)=false->c.prg.all fewP=false):=⟨fun h=>kn.h (all_no (p:=fewQ) hj2 h)⟩
   have kg2:Kp (decide (((c.prg.getD k default).reqs.getD j default).names.length<=20)=true->((c.prg.getD k default).reqs.take (j+1)).all fewQ=true):=⟨all_go (p:=fewQ) hj2 ku.h⟩
   by_cases h20:((c.prg.getD k default).reqs.getD j default).names.length<=20
   case neg =>
    rw[kn2.h (decide_eq_false h20)]
    (refine gW ?_;intros)
    exact⟨rfl,Tt⟩
   have kg':=kg2.h (decide_eq_true h20)
   (refine gW ?_;intros)
   refine⟨j+1,⟨by show j+1<=(c.prg.getD k default).reqs.length;omega,kg'⟩,by show(c.prg.getD k default).reqs.length-(j+1)<(c.prg.getD k default).reqs.length-j;omega,?_⟩
   repeat' (first|exact Tt|exact rfl|exact Nat.le_refl _|refine And.intro ?_ ?_)
  obtain rfl:j=(c.prg.getD k default).reqs.length:=by omega
  have kg':=kg.h (by have:=ku.h;rwa [List.take_length]at this)
  (refine gW ?_;intros)
  refine⟨k+1,⟨by show k+1<=c.prg.length;omega,kg'⟩,by show c.prg.length-(k+1)<c.prg.length-k;omega,?_⟩
  repeat' (first|exact Tt|exact rfl|exact Nat.le_refl _|refine And.intro ?_ ?_)
 obtain rfl:k=c.prg.length:=by omega
 rw[show c.prg.all fewP=true from by have:=kt.h;rwa [List.take_length]at this]
 (refine gW ?_;intros)
 exact⟨rfl,Tt⟩
end Go.Proofs.YtmlhghddfobmmaaGreatDoor
