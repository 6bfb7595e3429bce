import Derived.Test.YtmlhghddfobmmaaGreatDoorBookQ
import Derived.Test.YtmlhghddfobmmaaGreatDoorNmC
import Derived.Test.YtmlhghddfobmmaaGreatDoorInsP
import Derived.Test.YtmlhghddfobmmaaGreatDoorNmI
namespace Go.Ab
set_option linter.unusedSimpArgs false
set_option linter.unusedVariables false
section
variable {P:Program}{T:Tab}{N:Nat}{w:World}{F:Nat->Prop}{σ:Pls}{m:Mem}{env:Env}{K:AV->Mem->Prop}{o:Oper}
theorem Qcg {x:Operand}{t:TypeId}(hop:o.op=.call {callee:=.builtin .len,args:=#[x],argTypes:=#[t]})(hu:P.underlying t=some .string){s:ByteArray}{px:List Prop}(hx:strip (ev env x)=(.d (.str s),px))(hpx:∀p∈px,p)
 (hK:K (.d (.int .i64 s.size)) m):Ym P o env m K :=
 ⟨fun c h=>(by rw [hop] at h;cases h),fun a w F σ hev hm=>by
  have hv:=X7 (Z5 hev x) (by rw[hx];exact hpx)
  rw[hx]at hv
  obtain⟨X,hX⟩:∃X,a.eval x=X:=⟨_,rfl⟩
  rw[hX]at hv
  cases hv with
  | d hv =>
    cases hv with
    | str =>
      refine⟨_,.int .i64 s.size,w,σ,F,_,_,?_,.inl rfl,hK,.d .int,hm,Step.refl σ F w,SLe.refl σ⟩
      simp[execOp,hop,hX,resolve,invoke,builtin,Builtin.len_,run_underlying hu,goInt]⟩
end
end Go.Ab
namespace Go.Proofs.YtmlhghddfobmmaaGreatDoor
set_option linter.unusedSimpArgs false
set_option linter.unusedVariables false
open Go Go.Ab
set_option maxRecDepth 100000
set_option maxHeartbeats 0
def Vo:Nat->Q1->Nat
 |0,_=>300
 |f+1,r=>if 300<r.kids.length then 300 else r.kids.foldl (fun n k=>if n<300 then n+Vo f k else n) 1
def Z2 (f:Nat)(n:Nat)(k:Q1):Nat:=if n<300 then n+Vo f k else n
theorem N7 (f:Nat)(r:Q1):Vo (f+1) r=if 300<r.kids.length then 300 else r.kids.foldl (Z2 f) 1:=by
 rw[Vo]
 rfl
theorem C7 (f:Nat):∀(ks:List Q1) (n:Nat),n<=ks.foldl (Z2 f) n
 |[],n=>Qgx _
 | k :: ks,n=>by
   rw[List.foldl_cons]
   refine Qhx ?_ (C7 f ks _)
   unfold Z2
   split<;>omega
theorem Ph:∀(f:Nat) (r:Q1),Vo f r<=300*(f+1)
 |0,r=>by rw[Vo];omega
 | f + 1,r=>by
   rw[N7]
   split
   .omega
   .have key:∀(ks:List Q1) (n:Nat),n<=300*(f+2)->ks.foldl (Z2 f) n<=300*(f+2):=by
     intro ks
     induction ks with
     |nil=>intro n h;exact h
     | cons k ks ih =>
       intro n h
       rw[List.foldl_cons]
       refine ih _ ?_
       have:=Ph f k
       unfold Z2
       split<;>omega
    exact key _ 1 Om
theorem Q4i (f:Nat)(ks:List Q1):ks.foldl (Z2 f) 1<=300*(f+2):=by
 have key:∀(ks:List Q1) (n:Nat),n<=300*(f+2)->ks.foldl (Z2 f) n<=300*(f+2):=by
  intro ks
  induction ks with
  |nil=>intro n h;exact h
  | cons k ks ih =>
    intro n h
    rw[List.foldl_cons]
    refine ih _ ?_
    have:=Ph f k
    unfold Z2
    split<;>omega
 exact key _ 1 Om
theorem Q4j {f:Nat}:∀{ks:List Q1} {n:Nat},300<=n->ks.foldl (Z2 f) n=n
 |[],n,_=>rfl
 | k :: ks,n,h=>by
   rw[List.foldl_cons,Z2,if_neg Om]
   exact Q4j h
theorem O9:∀ (f:Nat) (r:Q1),Vo f r < 300→Jj r=Vo f r
 |0,r,h=>by rw[Vo]at h;omega
 | f + 1,r,h=>by
   rw[N7]at h⊢
   split at h
   .omega
   .rename_i hk
    rw[if_neg hk,Gg]
    have key:∀(ks:List Q1) (n:Nat),ks.foldl (Z2 f) n<300->ks.foldl (Z2 f) n=n+Z9 ks:=by
     intro ks
     induction ks with
     |nil=>intro n _;rw[Ho];rfl
     | cons k ks ih =>
       intro n h
       rw[List.foldl_cons]at h⊢
       have h1:=ih _ h
       have h2:=C7 f ks (Z2 f n k)
       rw[h1,Wk]
       unfold Z2 at h2⊢
       split at h2
       .rename_i hn
        have e:Z2 f n k=n+Vo f k:=by rw[Z2,if_pos hn]
        rw[e]at h
        have h5:=C7 f ks (n+Vo f k)
        have h6:=O9 f k Om
        rw[if_pos hn,h6]
        omega
       .rename_i hn
        exfalso
        have e:Z2 f n k=n:=by rw[Z2,if_neg hn]
        rw[e]at h
        have:=C7 f ks n
        omega
    rw[key _ 1 h]
    omega
def Jw (r:Q1):Bool:=decide (Vo 41 r<250)&&decide (r.name.size<=100)
theorem Ht {r:Q1}(h:Jw r=true):Jj r<=1000000:=by
 simp only[Jw,Qh5,Qia]at h
 rw[O9 41 r Om]
 omega
def Rl (b:Bok):Bool:=b.crs.all (fun c=>Jw c.need&&Jw c.bar)&&(b.prg.all (fun p=>decide (p.reqs.length<=70))&&(decide (b.crs.length<=16)&&(decide (b.prg.length<=8)&&decide (b.sys.length<=6))))
theorem Od:∀ (f:Nat) (r:Q1) (d:Int),wfR r→f≤41→d=41 - (f:Int)→Pure Tryz.prog 117 [.agg (Q2 r),.int .i64 d] [.int .i64 (Vo f r)]
 | 0,r,d,hw,hf,hd=>by
   have hlk:=(Ug hw).1.2.2.2.2
   subst hd
   rw[Vo]
   refine Q4 hT (T:=tab) (N:=37) (rs:=[.tmp 4]) Tryz.func117 rfl rfl rfl Kr rfl ?_
   (refine gW ?_;intros)
   exact⟨rfl,Tt⟩
 | f + 1,r,d,hw,hf,hd=>by
   obtain⟨hw1,hw2⟩:=Ug hw
   have hlk:=hw1.2.2.2.2
   have ih:=fun r hw=>Od f r (d+1) hw Om Om
   have hfin:=Q4i f r.kids
   rw[N7]
   refine Q4 hT (T:=tab) (N:=37) (rs:=[.tmp 4]) Tryz.func117 rfl rfl rfl Kr rfl ?_
   by_cases h3:300<r.kids.length
   .rw[if_pos h3]
    (refine gW ?_;intros)
    exact⟨rfl,Tt⟩
   .rw [if_neg h3]
    (refine gW ?_;intros)
    refine Q7 hT (S:=Nat) (fun k=>([(1,.d (.int .i64 d)),(2,.ptr (.loc 0) 0 0 0),(5,.d (.int .i64 (((r.kids.take k).foldl (Z2 f) 1:Nat):Int))),(6,.d (.int .i64 k))],⟨[some (.box 66 (up (Q2 r)))],[]⟩)) (fun k=>k<=r.kids.length) (fun k=>r.kids.length-k) 0 ?_ ?_ ?_
    .rw[List.take_zero,List.foldl_nil]
     exact lq
    .exact Qh3 _
    .intro k hk
     dsimp only at hk⊢
     have hcb:=Q4i f (r.kids.take k)
     by_cases hk2:k<r.kids.length
     .have hts:(r.kids.take (k+1)).foldl (Z2 f) 1=Z2 f ((r.kids.take k).foldl (Z2 f) 1) (r.kids.getD k default):=by
       rw[Js hk2,List.foldl_append]
       rfl
      have hall:r.kids.foldl (Z2 f) 1=(r.kids.drop k).foldl (Z2 f) ((r.kids.take k).foldl (Z2 f) 1):=by
       rw[<-List.foldl_append,Qil]
      have hne:r.kids≠[]:=fun e=>by rw[e]at hk2;exact absurd hk2 (Qhh _)
      have hI:=ih _ (hw2 _ (Qe hk2))
      have hB:=Ph f (r.kids.getD k default)
      have er:Q2 r=[.int .i64 r.op,.int .i64 r.course,.str r.name,.int .i64 r.n,.int .i64 r.d,.sl 6 r.kids.length fun i=>Q2 (r.kids.getD i default)]:=by
       unfold Q2
       rw[Gk hne]
       rfl
      rw[er]
      obtain⟨c,hc⟩:∃c,(r.kids.take k).foldl (Z2 f) 1=c:=⟨_,rfl⟩
      rw[hc]at hts hall hcb⊢
      have kts:Kp _:=⟨hts⟩
      have kall:Kp _:=⟨hall⟩
      clear hts hall hc er ih hw2
      by_cases h300:c<300
      .have e1:Kp ((((r.kids.take (k+1)).foldl (Z2 f) 1:Nat):Int)=(c:Int)+(Vo f (r.kids.getD k default):Int)):=⟨by
        rw[kts.h,Z2,if_pos h300]
        omega⟩
       (refine gW ?_;intros)
       refine hI.call ?_
       (refine gW ?_;intros)
       refine⟨k+1,by show k+1<=r.kids.length;omega,by show r.kids.length-(k+1)<r.kids.length-k;omega,?_⟩
       dsimp only
       rw[e1.h]
       exact lq
      .have e2:Kp (r.kids.foldl (Z2 f) 1=c):=⟨by rw[kall.h];exact Q4j Om⟩
       (refine gW ?_;intros)
       rw[e2.h]
       exact⟨rfl,Tt⟩
     .have e:r.kids.take k=r.kids:=Qhn Om
      rw[e]
      (refine gW ?_;intros)
      exact⟨rfl,Tt⟩
theorem D7 (r:Q1)(hw:wfR r)(hn:r.name.size<=9223372036854775807):Pure Tryz.prog 47 [.agg (Q2 r)] [.bool (Jw r)]:=by
 have hC:=Od 41 r 0 hw (Qgx _) rfl
 have hB:=Ph 41 r
 unfold Jw
 refine Q4 hT (T:=tab) (N:=12) (rs:=[.tmp 2]) Tryz.func47 rfl rfl rfl Kr rfl ?_
 by_cases h1:Vo 41 r<250
 .rw[Qh8 h1,Qhy]
  (refine gW ?_;intros)
  refine hC.call ?_
  (refine gW ?_;intros)
  refine Qcg rfl Tryz.underlying9 rfl (fun p hp=>?_) ?_
  .simp[cat]at hp
   rw[hp]
   omega
  (refine gW ?_;intros)
  refine⟨congrArg D.bool ?_,Tt⟩
  rw[Qh8 (show((Vo 41 r:Nat):Int)<250 by omega),cond_true,Bool.eq_iff_iff]
  simp
  omega
 .rw[Qh0 h1,Bool.false_and]
  (refine gW ?_;intros)
  refine hC.call ?_
  (refine gW ?_;intros)
  refine⟨congrArg D.bool ?_,Tt⟩
  cases decide (((Vo 41 r:Nat):Int)<250)<;>rfl
def nmB (b:Bok):Prop:=∀c∈b.crs,c.need.name.size<=9223372036854775807/\c.bar.name.size<=9223372036854775807
theorem Q9d (b:Bok)(hw:Y5 b)(hn:nmB b):Pure Tryz.prog 12 [.agg (Q8 b)] [.bool (Rl b)]:=by
 obtain⟨⟨hl1,hc⟩,⟨hl2,hp⟩,hl3,-⟩:=hw
 have hl1':b.crs.length<=9223372036854775807:=hl1
 have hl2':b.prg.length<=9223372036854775807:=hl2
 have hl3':b.sys.length<=9223372036854775807:=hl3
 have hpl:∀p∈b.prg,p.reqs.length<=9223372036854775807:=fun p h=>(hp p h).2.2.1
 have kp:Kp _:=⟨hpl⟩
 have kc:Kp _:=⟨hc⟩
 have kn:Kp (nmB b):=⟨hn⟩
 clear hp hc hpl hn hl1 hl2 hl3
 unfold Rl
 refine Q4 hT (T:=tab) (N:=61) (rs:=[.tmp 2]) Tryz.func12 rfl rfl rfl Kr rfl ?_
 (refine gW ?_;intros)
 refine Q7 hT (S:=Nat) (fun k=>([(1,.ptr (.loc 0) 0 0 0),(2,.d (.bool false)),(3,.d (.int .i64 k))],⟨[some (.box 26 (up (Q8 b)))],[]⟩)) (fun k=>k<=b.crs.length/\b.crs.all (fun c=>Jw c.need&&Jw c.bar)=(b.crs.drop k).all (fun c=>Jw c.need&&Jw c.bar)) (fun k=>b.crs.length-k) 0 ?_ ?_ ?_
 .exact lq
 .exact⟨Qh3 _,rfl⟩
 .rintro k ⟨hk,ha⟩
  have ka:Kp _:=⟨ha⟩
  clear ha
  dsimp only at hk⊢
  by_cases hk2:k<b.crs.length
  .have hm:=Qe hk2
   have hN:=D7 _ (kc.h _ hm).1 (kn.h _ hm).1
   have hB:=D7 _ (kc.h _ hm).2 (kn.h _ hm).2
   have e:Kp (b.crs.all (fun c=>Jw c.need&&Jw c.bar)=((Jw (b.crs.getD k default).need&&Jw (b.crs.getD k default).bar)&&(b.crs.drop (k+1)).all (fun c=>Jw c.need&&Jw c.bar))):=⟨by
    rw[ka.h,Qc hk2,Qi5]⟩
   clear hm
   cases h1:Jw (b.crs.getD k default).need
   .rw[h1]at hN
    (refine gW ?_;intros)
    refine hN.call ?_
    (refine gW ?_;intros)
    rw[e.h,h1]
    exact⟨rfl,Tt⟩
   .rw[h1]at hN
    cases h2:Jw (b.crs.getD k default).bar
    .rw[h2]at hB
     (refine gW ?_;intros)
     refine hN.call ?_
     (refine gW ?_;intros)
     refine hB.call ?_
     (refine gW ?_;intros)
     rw[e.h,h1,h2]
     exact⟨rfl,Tt⟩
    .rw[h2]at hB
     (refine gW ?_;intros)
     refine hN.call ?_
     (refine gW ?_;intros)
     refine hB.call ?_
     (refine gW ?_;intros)
     refine stp (k+1) ?_ ⟨by show k+1<=b.crs.length;omega,by rw[e.h,h1,h2];rfl⟩
     exact lq
  .have e:b.crs.all (fun c=>Jw c.need&&Jw c.bar)=true:=by
    rw[ka.h,Qr Om]
    rfl
   rw[e,Qhy]
   clear e ka
   (refine gW ?_;intros)
   refine Q7 hT (S:=Nat) (fun k=>([(1,.ptr (.loc 0) 0 0 0),(2,.d (.bool false)),(4,.d (.int .i64 k))],⟨[some (.box 26 (up (Q8 b)))],[]⟩)) (fun k=>k<=b.prg.length/\b.prg.all (fun p=>decide (p.reqs.length<=70))=(b.prg.drop k).all (fun p=>decide (p.reqs.length<=70))) (fun k=>b.prg.length-k) 0 ?_ ?_ ?_
   .exact lq
   .exact⟨Qh3 _,rfl⟩
   .clear hk hk2
    rintro k ⟨hk,ha⟩
    have ka:Kp _:=⟨ha⟩
    clear ha
    dsimp only at hk⊢
    by_cases hk2:k<b.prg.length
    .have hm:=kp.h _ (Qe hk2)
     have e:Kp (b.prg.all (fun p=>decide (p.reqs.length<=70))=(decide ((b.prg.getD k default).reqs.length<=70)&&(b.prg.drop (k+1)).all (fun p=>decide (p.reqs.length<=70)))):=⟨by
      rw[ka.h,Qc hk2,Qi5]⟩
     by_cases h1:(b.prg.getD k default).reqs.length<=70
     ·(refine gW ?_;intros)
      refine stp (k+1) ?_ ⟨by show k+1<=b.prg.length;omega,by rw[e.h,Qh8 h1];rfl⟩
      exact lq
     ·(refine gW ?_;intros)
      rw[e.h,Qh0 h1]
      exact⟨rfl,Tt⟩
    .have e:b.prg.all (fun p=>decide (p.reqs.length<=70))=true:=by
      rw[ka.h,Qr Om]
      rfl
     rw[e,Qhy]
     clear e ka
     (refine gW ?_;intros)
     refine⟨congrArg D.bool ?_,Tt⟩
     have e1:decide ((b.crs.length:Int)<=16)=decide (b.crs.length<=16):=by rw[Bool.eq_iff_iff];simp;omega
     have e2:decide ((b.prg.length:Int)<=8)=decide (b.prg.length<=8):=by rw[Bool.eq_iff_iff];simp;omega
     have e3:decide ((b.sys.length:Int)<=6)=decide (b.sys.length<=6):=by rw[Bool.eq_iff_iff];simp;omega
     rw[e1,e2,e3]
     cases decide (b.crs.length<=16)<;>cases decide (b.prg.length<=8)<;>rfl
structure I8 (c:Cat):Prop where
 crs:Qg c.crs
 rul:∀x∈c.crs,(wfR x.need/\x.need.name.size<=9223372036854775807)/\(wfR x.bar/\x.bar.name.size<=9223372036854775807)
 same:Qg c.same
 prg:Qg c.prg
 reqs:∀p∈c.prg,Qg p.reqs/\∀q∈p.reqs,Lw q
def Gs (q:Req):Bool:=decide (q.names.length<=20)
def Xj (p:Prg):Bool:=decide (p.reqs.length<=70)&&p.reqs.all Gs
def Y9 (x:Crs):Bool:=Jw x.need&&Jw x.bar
def Gr (c:Cat):Prop:=c.crs.length<=8/\c.same.length<=8/\c.prg.length<=4/\Wt c<=20
instance (c:Cat):Decidable (Gr c):=inferInstanceAs (Decidable (_/\_))
def X4 (c:Cat):Bool:=decide (Gr c)&&(c.crs.all Y9&&c.prg.all Xj)
theorem Cr {α:Type}[Inhabited α]{l:List α}{p:α->Bool}{k:Nat}(hk:k<l.length)(h:p (l.getD k default)=false):l.all p=false :=
 List.all_eq_false.2 ⟨_,Qe hk,by rw[h];exact Qhl⟩
theorem Co {α:Type}[Inhabited α]{l:List α}{p:α->Bool}{k:Nat}(hk:k<l.length)(ht:(l.take k).all p=true)(h:p (l.getD k default)=true):(l.take (k+1)).all p=true:=by
 rw[Js hk,Qii,ht,Qi5,h]
 rfl
theorem Q9c (c:Cat)(hw:I8 c):Pure Tryz.prog 13 [.agg (Q0 c)] [.bool (X4 c)]:=by
 have h1:c.crs.length<=9223372036854775807:=hw.crs
 have h2:c.same.length<=9223372036854775807:=hw.same
 have h3:c.prg.length<=9223372036854775807:=hw.prg
 have kr:Kp _:=⟨hw.rul⟩
 have kq:Kp _:=⟨hw.reqs⟩
 clear hw
 unfold X4
 by_cases a1:c.crs.length<=8
 case neg =>
  rw[Qh0 (fun h:Gr c=>a1 h.1),Bool.false_and]
  refine Q4 hT (T:=tab) (N:=103) (rs:=[.tmp 2]) Tryz.func13 rfl rfl rfl Kr rfl ?_
  (refine gW ?_;intros)
  exact⟨rfl,Tt⟩
 by_cases a2:c.same.length<=8
 case neg =>
  rw[Qh0 (fun h:Gr c=>a2 h.2.1),Bool.false_and]
  refine Q4 hT (T:=tab) (N:=103) (rs:=[.tmp 2]) Tryz.func13 rfl rfl rfl Kr rfl ?_
  (refine gW ?_;intros)
  exact⟨rfl,Tt⟩
 by_cases a3:c.prg.length<=4
 case neg =>
  rw[Qh0 (fun h:Gr c=>a3 h.2.2.1),Bool.false_and]
  refine Q4 hT (T:=tab) (N:=103) (rs:=[.tmp 2]) Tryz.func13 rfl rfl rfl Kr rfl ?_
  (refine gW ?_;intros)
  exact⟨rfl,Tt⟩
 refine Q4 hT (T:=tab) (N:=103) (rs:=[.tmp 2]) Tryz.func13 rfl rfl rfl Kr rfl ?_
 (refine gS ?_;intros)
 have hg:(!bif bif decide ((8:Int)<(c.crs.length:Int)) then true else decide ((8:Int)<(c.same.length:Int)) then true else decide ((4:Int)<(c.prg.length:Int)))=true:=by
  rw[Qh0 Om,Qh0 Om,Qh0 Om]
  rfl
 refine Sq.alt (Awp.seq (Awp.seq (Awp.cuts (WL.cut hT 23 rfl Kr ?_))))
 (refine gS ?_;intros)
 refine⟨congrArg some hg,Eo rfl rfl rfl (px1 hg) (px1 hg) ?_⟩
 conv=>whnf
 refine WL.cut hT 3 rfl Kr ?_
 (refine gS ?_;intros)
 refine⟨congrArg some hg,Eo rfl rfl rfl px0 (px1 hg) ?_⟩
 conv=>whnf
 refine WL.cut hT 3 rfl Kr ?_
 (refine gS ?_;intros)
 refine⟨congrArg some hg,Eo rfl rfl rfl px0 (px1 hg) ?_⟩
 conv=>whnf
 refine WL.eng hT Kr ?_
 (refine gS ?_;intros)
 refine Awp.of_vc hT ?_
 by_cases a4:Wt c<=20
 case neg =>
  rw[Qh0 (fun h:Gr c=>a4 h.2.2.2),Bool.false_and]
  have a5:=a4
  unfold Wt at a5
  (refine gW ?_;intros)
  exact⟨rfl,Tt⟩
 rw[Qh8 (show Gr c from⟨a1,a2,a3,a4⟩),Qhy]
 have a5:=a4
 unfold Wt at a5
 (refine gW ?_;intros)
 refine Awp.of_vc hT ?_
 (refine gW ?_;intros)
 refine Q7 hT (S:=Nat) (fun k=>([(1,lp 0),(3,dV k)],⟨[bX 32 (up (Q0 c))],[]⟩)) (fun k=>k<=c.crs.length/\(c.crs.take k).all Y9=true) (fun k=>c.crs.length-k) 0 ?_ ?_ ?_
 .repeat' (first|exact Tt|exact rfl|exact Qgx _|refine And.intro ?_ ?_)
 .exact⟨Qh3 _,rfl⟩
 rintro k ⟨hk,ht⟩
 have kt:Kp _:=⟨ht⟩
 clear ht
 dsimp only at hk⊢
 by_cases hk2:k<c.crs.length
 case pos =>
  obtain⟨⟨r1,r2⟩,r3,r4⟩:=kr.h _ (Qe hk2)
  have hN:=D7 _ r1 r2
  have hB:=D7 _ r3 r4
  have kn:Kp ((Jw (c.crs.getD k default).need&&Jw (c.crs.getD k default).bar)=false->(c.crs.all Y9&&c.prg.all Xj)=false):=⟨fun h=>by rw[Cr (p:=Y9) hk2 h];rfl⟩
  have kg:Kp ((Jw (c.crs.getD k default).need&&Jw (c.crs.getD k default).bar)=true->(c.crs.take (k+1)).all Y9=true):=⟨Co (p:=Y9) hk2 kt.h⟩
  clear r1 r2 r3 r4
  generalize Jw (c.crs.getD k default).need=u at hN kn kg
  generalize Jw (c.crs.getD k default).bar=v at hB kn kg
  cases u
  case false =>
   rw[kn.h rfl]
   (refine gW ?_;intros)
   refine hN.call ?_
   (refine gW ?_;intros)
   exact⟨rfl,Tt⟩
  cases v
  case false =>
   rw[kn.h rfl]
   (refine gW ?_;intros)
   refine hN.call ?_
   (refine gW ?_;intros)
   refine hB.call ?_
   (refine gW ?_;intros)
   exact⟨rfl,Tt⟩
  have kg':=kg.h rfl
  (refine gW ?_;intros)
  refine hN.call ?_
  (refine gW ?_;intros)
  refine hB.call ?_
  (refine gW ?_;intros)
  refine⟨k+1,⟨by show k+1<=c.crs.length;omega,kg'⟩,by show c.crs.length-(k+1)<c.crs.length-k;omega,?_⟩
  repeat' (first|exact Tt|exact rfl|exact Qgx _|refine And.intro ?_ ?_)
 obtain rfl:k=c.crs.length:=by omega
 rw[show c.crs.all Y9=true from by have:=kt.h;rwa [Qhp]at this,Qhy]
 clear kt
 (refine gW ?_;intros)
 refine Q7 hT (S:=Nat) (fun k=>([(1,lp 0),(4,dV k)],⟨[bX 32 (up (Q0 c))],[]⟩)) (fun k=>k<=c.prg.length/\(c.prg.take k).all Xj=true) (fun k=>c.prg.length-k) 0 ?_ ?_ ?_
 .repeat' (first|exact Tt|exact rfl|exact Qgx _|refine And.intro ?_ ?_)
 .exact⟨Qh3 _,rfl⟩
 clear hk hk2
 rintro k ⟨hk,ht⟩
 have kt:Kp _:=⟨ht⟩
 clear ht
 dsimp only at hk⊢
 by_cases hk2:k<c.prg.length
 case pos =>
  obtain⟨hrl,hrq⟩:=kq.h _ (Qe hk2)
  have hrl:(c.prg.getD k default).reqs.length<=9223372036854775807:=hrl
  have kr2:Kp _:=⟨hrq⟩
  clear hrq
  have kn:Kp ((decide ((c.prg.getD k default).reqs.length<=70)&&(c.prg.getD k default).reqs.all Gs)=false->c.prg.all Xj=false):=⟨Cr (p:=Xj) hk2⟩
  have kg:Kp ((decide ((c.prg.getD k default).reqs.length<=70)&&(c.prg.getD k default).reqs.all Gs)=true->(c.prg.take (k+1)).all Xj=true):=⟨Co (p:=Xj) hk2 kt.h⟩
  by_cases h70:(c.prg.getD k default).reqs.length<=70
  case neg =>
   rw[Qh0 h70]at kn
   rw[kn.h rfl]
   (refine gW ?_;intros)
   exact⟨rfl,Tt⟩
  rw[Qh8 h70,Qhy]at kn kg
  (refine gW ?_;intros)
  refine Q7 hT (S:=Nat) (fun j=>([(1,lp 0),(4,dV k),(5,dV j)],⟨[bX 32 (up (Q0 c))],[]⟩)) (fun j=>j<=(c.prg.getD k default).reqs.length/\((c.prg.getD k default).reqs.take j).all Gs=true) (fun j=>(c.prg.getD k default).reqs.length-j) 0 ?_ ?_ ?_
  .repeat' (first|exact Tt|exact rfl|exact Qgx _|refine And.intro ?_ ?_)
  .exact⟨Qh3 _,rfl⟩
  rintro j ⟨hj,hu⟩
  have ku:Kp _:=⟨hu⟩
  clear hu
  dsimp only at hj⊢
  by_cases hj2:j<(c.prg.getD k default).reqs.length
  case pos =>
   have hnl:((c.prg.getD k default).reqs.getD j default).names.length<=9223372036854775807:=(kr2.h _ (Qe hj2)).1
   have kn2:Kp (decide (((c.prg.getD k default).reqs.getD j default).names.length<=20)=false->c.prg.all Xj=false):=⟨fun h=>kn.h (Cr (p:=Gs) hj2 h)⟩
   have kg2:Kp (decide (((c.prg.getD k default).reqs.getD j default).names.length<=20)=true->((c.prg.getD k default).reqs.take (j+1)).all Gs=true):=⟨Co (p:=Gs) hj2 ku.h⟩
   by_cases h20:((c.prg.getD k default).reqs.getD j default).names.length<=20
   case neg =>
    rw[kn2.h (Qh0 h20)]
    (refine gW ?_;intros)
    exact⟨rfl,Tt⟩
   have kg':=kg2.h (Qh8 h20)
   (refine gW ?_;intros)
   refine⟨j+1,⟨by show j+1<=(c.prg.getD k default).reqs.length;omega,kg'⟩,by show(c.prg.getD k default).reqs.length-(j+1)<(c.prg.getD k default).reqs.length-j;omega,?_⟩
   repeat' (first|exact Tt|exact rfl|exact Qgx _|refine And.intro ?_ ?_)
  obtain rfl:j=(c.prg.getD k default).reqs.length:=by omega
  have kg':=kg.h (by have:=ku.h;rwa [Qhp]at this)
  (refine gW ?_;intros)
  refine⟨k+1,⟨by show k+1<=c.prg.length;omega,kg'⟩,by show c.prg.length-(k+1)<c.prg.length-k;omega,?_⟩
  repeat' (first|exact Tt|exact rfl|exact Qgx _|refine And.intro ?_ ?_)
 obtain rfl:k=c.prg.length:=by omega
 rw[show c.prg.all Xj=true from by have:=kt.h;rwa [Qhp]at this]
 (refine gW ?_;intros)
 exact⟨rfl,Tt⟩
end Go.Proofs.YtmlhghddfobmmaaGreatDoor
