import Derived.Test.YtmlhghddfobmmaaGreatDoorNrI
import Derived.Test.YtmlhghddfobmmaaGreatDoorInrB
import Derived.Test.YtmlhghddfobmmaaGreatDoorBookI
import Derived.Test.YtmlhghddfobmmaaGreatDoorFrz
namespace Go.Proofs.YtmlhghddfobmmaaGreatDoor
set_option linter.unusedSimpArgs false
set_option linter.unusedVariables false
open Go Go.Ab
set_option maxRecDepth 100000
set_option maxHeartbeats 0
theorem Q4h {fr til kn:Int}:B8 fr til kn=true↔0<=fr/\fr<til/\til<=1024/\1<=kn/\kn<=16777216:=by
 unfold B8 bw
 simp only[Qh5,Qia]
theorem Qf2 (b:Bok)(c:Cat)(fr til kn:Int)(hwb:Y5 b)(hsb:∀x∈b.crs,Hb x)(hwc:Y5 ⟨c.crs,c.prg,[Qq c]⟩)(hsc:∀x∈c.crs,Hb x)(hF:Yl c)(hR:Mx c)(hE:Uh c)(hE2:Uh (Vv c))(h1:b.crs.length<=100)(h2:b.prg.length<=100)(h5:c.crs.length<=100)(h4:c.prg.length<=100)(h3:b.sys.length<=1000)(h6:c.same.length<=100)(hS:c.classes.length+c.fees.length+c.honours.length+c.clauses.length<=9223372036854775807) :
 Pure Tryz.prog 16 [.agg (Q8 b),.agg (Q0 c),.agg [di fr,di til],di kn] (L9 b c fr til kn):=by
 have hB:=A6 b hwb hsb
 have hV:=Qds c hF hR
 have hM:=Q3x c (Vv c) hE hE2 (hwc.2.2.2 _ (Qi9.2 rfl)) (hwc.2.2.2 _ (Qi9.2 rfl))
 have hC:=Qf1 c hwc hsc (Qhx h6 Dc)
 have hL:=Qew b c fr til kn h1 h2 h5 h4 h3 h6 hS
 clear hwb hwc hF hE hE2 hsb hsc hR
 unfold L9 U5
 by_cases e1:Vn b=0
 case neg =>
  simp only[if_neg e1]
  generalize Vn b=e at hB e1⊢
  refine V3 hT (T:=tab) (N:=276) (rs:=Xk) Tryz.func16 rfl rfl rfl Kr rfl ?_
  (refine gW ?_;intros)
  refine hB.call ?_
  (refine gW ?_;intros)
  refine⟨?_,.d,.d,Tt⟩
  conv=>whnf
  exact .eq (y:=.agg [.nils,.nils,.nils]) (.inr ⟨rfl,rfl,rfl,Tt⟩)
 simp only[if_pos e1]
 rw[e1]at hB
 by_cases e2:J1 c=0
 case neg =>
  simp only[if_neg e2]
  generalize J1 c=e at hV e2⊢
  refine V3 hT (T:=tab) (N:=276) (rs:=Xk) Tryz.func16 rfl rfl rfl Kr rfl ?_
  (refine gW ?_;intros)
  refine hB.call ?_
  (refine gW ?_;intros)
  refine hV.call ?_
  (refine gW ?_;intros)
  refine⟨?_,.d,.d,Tt⟩
  conv=>whnf
  exact .eq (y:=.agg [.nils,.nils,.nils]) (.inr ⟨rfl,rfl,rfl,Tt⟩)
 simp only[if_pos e2]
 have hv:Qj c=Vv c:=if_pos e2
 rw[hv,e2]at hV
 rw[hv]at hL
 rw[<-Bool.and_assoc (c.same.all Yf)]
 generalize decide (c=Vv c)=u1 at hM⊢
 generalize (c.same.all Yf&&decide (Vn ⟨c.crs,c.prg,[Qq c]⟩=0))=u2 at hC⊢
 cases u1
 case false =>
  refine V3 hT (T:=tab) (N:=276) (rs:=Xk) Tryz.func16 rfl rfl rfl Kr rfl ?_
  (refine gW ?_;intros)
  refine hB.call ?_
  (refine gW ?_;intros)
  refine hV.call ?_
  (refine gW ?_;intros)
  refine hM.call ?_
  (refine gW ?_;intros)
  refine⟨?_,.d,.d,Tt⟩
  conv=>whnf
  exact .eq (y:=.agg [.nils,.nils,.nils]) (.inr ⟨rfl,rfl,rfl,Tt⟩)
 cases u2
 case false =>
  refine V3 hT (T:=tab) (N:=276) (rs:=Xk) Tryz.func16 rfl rfl rfl Kr rfl ?_
  (refine gW ?_;intros)
  refine hB.call ?_
  (refine gW ?_;intros)
  refine hV.call ?_
  (refine gW ?_;intros)
  refine hM.call ?_
  (refine gW ?_;intros)
  refine hC.call ?_
  (refine gW ?_;intros)
  refine⟨?_,.d,.d,Tt⟩
  conv=>whnf
  exact .eq (y:=.agg [.nils,.nils,.nils]) (.inr ⟨rfl,rfl,rfl,Tt⟩)
 simp only[Qhy]
 by_cases e3:B8 fr til kn=true
 case neg =>
  rw[if_neg e3]
  have e4:=mt Q4h.2 e3
  clear e3
  refine V3 hT (T:=tab) (N:=276) (rs:=Xk) Tryz.func16 rfl rfl rfl Kr rfl ?_
  (refine gW ?_;intros)
  refine hB.call ?_
  (refine gW ?_;intros)
  refine hV.call ?_
  (refine gW ?_;intros)
  refine hM.call ?_
  (refine gW ?_;intros)
  refine hC.call ?_
  (refine gW ?_;intros)
  refine⟨?_,.d,.d,Tt⟩
  conv=>whnf
  exact .eq (y:=.agg [.nils,.nils,.nils]) (.inr ⟨rfl,rfl,rfl,Tt⟩)
 have e4:=Q4h.1 e3
 simp only[if_pos e3,if_pos]
 clear e1 e2 e3 hv
 refine V3 hT (T:=tab) (N:=276) (rs:=Xk) Tryz.func16 rfl rfl rfl Kr rfl ?_
 (refine gW ?_;intros)
 refine hB.call ?_
 (refine gW ?_;intros)
 refine hV.call ?_
 (refine gW ?_;intros)
 refine hM.call ?_
 (refine gW ?_;intros)
 refine hC.call ?_
 (refine gS ?_;intros)
 refine Sq.go ?_;(refine gS ?_;intros)
 refine Sq.alt (Awp.le (env':=[(3,dV kn),(4,lp 0),(5,lp 1),(6,lp 2),(8,lp 3)]) (m':=⟨[bX 26 (up (Q8 b)),bX 32 (up (Q0 c)),bX 34 (up [di fr,di til]),bX 26 (up [.nils,.nils,.nils]),bX 32 (up (Q0 (Vv c)))],[]⟩) ?_ hL)
 repeat' (first|exact Tt|exact rfl|exact Qgx _|refine And.intro ?_ ?_)
 all_goals trace_state
structure Wor where
 bok:Bok
 fcts:List Fct
 deriving Inhabited
def U2 (w:Wor):List D:=[J2 w.bok.crs,Qw w.bok.prg,U1 w.bok.sys,Zd w.fcts]
def rdK (k:Ke)(t:Int):Red:=⟨k.kind,k.subject,k.object,t,t+1⟩
def W8 (k:Ke)(t:Int):List Red:=if bw t 0 1023=true then[rdK k t] else[]
def Zf {α:Type}[Inhabited α](l:List α)(t:Int)(v:Int × Bool)(ok:α->Bool):Option α:=if bw t 0 1023=true/\v.2=true/\0<=v.1/\v.1<l.length/\ok (l.getD v.1.toNat default)=true then some (l.getD v.1.toNat default) else none
theorem Qbg (w:Wor)(l:List Crs)(hl:Qg l)(hf:Qg w.fcts)(k:Ke)(t kn:Int)(f:FuncId)(y:D)(ok:Crs->Bool)(hp:∀s∈l,Pure Tryz.prog f [.agg (Q6 s),y] [.bool (ok s)]) :
 Pure Tryz.prog 103 [.agg (U2 w),J2 l,.agg (eKe k),di t,di kn,.fn (.func f) [] [y]] [.agg (Q6 ((Zf l t (atV w.fcts k t kn) ok).getD default)),Wl (W8 k t),.bool (Zf l t (atV w.fcts k t kn) ok).isSome]:=by
 have hl':l.length<=9223372036854775807:=hl
 have hA:=Kl w.fcts hf k t kn
 obtain⟨v,hv⟩:∃v,atV w.fcts k t kn=v:=⟨_,rfl⟩
 rw[hv]at hA⊢
 obtain⟨v,b⟩:=v
 dsimp only at hA⊢
 have hI:=V0 t 0 1023
 refine Q4 hT (T:=tab) (N:=63) (rs:=[.cell 12 68,.tmp 13,.tmp 14]) Tryz.func103 rfl rfl rfl Kr rfl ?_
 cases ht:bw t 0 1023<;>rw[ht]at hI
 .have e1:Zf l t (v,b) ok=none:=by simp[Zf,ht]
  have e2:W8 k t=[]:=by simp[W8,ht]
  rw[e1,e2]
  (refine gW ?_;intros)
  refine hI.call ?_
  (refine gW ?_;intros)
  exact⟨.inr ⟨rfl,rfl,rfl,rfl,rfl,rfl,rfl,rfl,rfl,rfl,rfl,rfl,rfl,rfl,rfl,rfl,Tt⟩,rfl,rfl,Tt⟩
 have ht2:0<=t/\t<=1023:=by simpa[bw] using ht
 have ht3:In .i64 (t+1):=Zz.2 Om
 have e2:W8 k t=[rdK k t]:=by simp[W8,ht]
 rw[e2]
 cases b
 .have e1:Zf l t (v,false) ok=none:=by simp[Zf]
  rw[e1]
  (refine gW ?_;intros)
  refine hI.call ?_
  (refine gW ?_;intros)
  refine hA.call ?_
  (refine gW ?_;intros)
  exact⟨.inr ⟨rfl,rfl,rfl,rfl,rfl,rfl,rfl,rfl,rfl,rfl,rfl,rfl,rfl,rfl,rfl,rfl,Tt⟩,⟨rfl,rfl,Qgx _,rfl,fun i hi=>by rw[show i=0 from Qi1.1 hi];rfl⟩,rfl,Tt⟩
 by_cases h0:0<=v
 case neg =>
  have e1:Zf l t (v,true) ok=none:=by simp only[Zf];rw[if_neg];exact fun h=>h0 h.2.2.1
  rw[e1]
  (refine gW ?_;intros)
  refine hI.call ?_
  (refine gW ?_;intros)
  refine hA.call ?_
  (refine gW ?_;intros)
  exact⟨.inr ⟨rfl,rfl,rfl,rfl,rfl,rfl,rfl,rfl,rfl,rfl,rfl,rfl,rfl,rfl,rfl,rfl,Tt⟩,⟨rfl,rfl,Qgx _,rfl,fun i hi=>by rw[show i=0 from Qi1.1 hi];rfl⟩,rfl,Tt⟩
 by_cases h1:v<l.length
 case neg =>
  have e1:Zf l t (v,true) ok=none:=by simp only[Zf];rw[if_neg];exact fun h=>h1 h.2.2.2.1
  rw[e1]
  (refine gW ?_;intros)
  refine hI.call ?_
  (refine gW ?_;intros)
  refine hA.call ?_
  (refine gW ?_;intros)
  exact⟨.inr ⟨rfl,rfl,rfl,rfl,rfl,rfl,rfl,rfl,rfl,rfl,rfl,rfl,rfl,rfl,rfl,rfl,Tt⟩,⟨rfl,rfl,Qgx _,rfl,fun i hi=>by rw[show i=0 from Qi1.1 hi];rfl⟩,rfl,Tt⟩
 obtain⟨n,rfl⟩:∃n:Nat,v=n:=⟨v.toNat,Om⟩
 have hn:n<l.length:=by omega
 have hP:=hp (l.getD n default) (Qe hn)
 cases h2:ok (l.getD n default)<;>rw[h2]at hP
 .have e1:Zf l t ((n:Int),true) ok=none:=by simp only[Zf];rw[if_neg];intro h;have:=h.2.2.2.2;rw[Int.toNat_natCast,h2]at this;cases this
  rw[e1]
  (refine gW ?_;intros)
  refine hI.call ?_
  (refine gW ?_;intros)
  refine hA.call ?_
  (refine gW ?_;intros)
  refine⟨⟨f,[],[.d y],.inr ⟨[],[y],rfl,rfl,rfl⟩,hP.call ?_⟩⟩
  (refine gW ?_;intros)
  exact⟨.inr ⟨rfl,rfl,rfl,rfl,rfl,rfl,rfl,rfl,rfl,rfl,rfl,rfl,rfl,rfl,rfl,rfl,Tt⟩,⟨rfl,rfl,Qgx _,rfl,fun i hi=>by rw[show i=0 from Qi1.1 hi];rfl⟩,rfl,Tt⟩
 .have e1:Zf l t ((n:Int),true) ok=some (l.getD n default):=by simp only[Zf];rw[if_pos,Int.toNat_natCast];exact⟨ht,by trivial,h0,h1,by rw[Int.toNat_natCast];exact h2⟩
  rw[e1]
  (refine gW ?_;intros)
  refine hI.call ?_
  (refine gW ?_;intros)
  refine hA.call ?_
  (refine gW ?_;intros)
  refine⟨⟨f,[],[.d y],.inr ⟨[],[y],rfl,rfl,rfl⟩,hP.call ?_⟩⟩
  (refine gW ?_;intros)
  exact⟨.inl rfl,⟨rfl,rfl,Qgx _,rfl,fun i hi=>by rw[show i=0 from Qi1.1 hi];rfl⟩,rfl,Tt⟩
theorem Qbh (w:Wor)(l:List Sys)(hl:Qg l)(hf:Qg w.fcts)(k:Ke)(t kn:Int)(f:FuncId)(ok:Sys->Bool)(hp:∀s∈l,Pure Tryz.prog f [.agg (Qa s)] [.bool (ok s)]) :
 Pure Tryz.prog 108 [.agg (U2 w),U1 l,.agg (eKe k),di t,di kn,.fn (.func f) [] []] [.agg (Qa ((Zf l t (atV w.fcts k t kn) ok).getD default)),Wl (W8 k t),.bool (Zf l t (atV w.fcts k t kn) ok).isSome]:=by
 have hl':l.length<=9223372036854775807:=hl
 have hA:=Kl w.fcts hf k t kn
 obtain⟨v,hv⟩:∃v,atV w.fcts k t kn=v:=⟨_,rfl⟩
 rw[hv]at hA⊢
 obtain⟨v,b⟩:=v
 dsimp only at hA⊢
 have hI:=V0 t 0 1023
 refine Q4 hT (T:=tab) (N:=63) (rs:=[.cell 12 83,.tmp 13,.tmp 14]) Tryz.func108 rfl rfl rfl Kr rfl ?_
 cases ht:bw t 0 1023<;>rw[ht]at hI
 .have e1:Zf l t (v,b) ok=none:=by simp[Zf,ht]
  have e2:W8 k t=[]:=by simp[W8,ht]
  rw[e1,e2]
  (refine gW ?_;intros)
  refine hI.call ?_
  (refine gW ?_;intros)
  exact⟨.inr ⟨rfl,rfl,rfl,rfl,Tt⟩,rfl,rfl,Tt⟩
 have ht2:0<=t/\t<=1023:=by simpa[bw] using ht
 have ht3:In .i64 (t+1):=Zz.2 Om
 have e2:W8 k t=[rdK k t]:=by simp[W8,ht]
 rw[e2]
 cases b
 .have e1:Zf l t (v,false) ok=none:=by simp[Zf]
  rw[e1]
  (refine gW ?_;intros)
  refine hI.call ?_
  (refine gW ?_;intros)
  refine hA.call ?_
  (refine gW ?_;intros)
  exact⟨.inr ⟨rfl,rfl,rfl,rfl,Tt⟩,⟨rfl,rfl,Qgx _,rfl,fun i hi=>by rw[show i=0 from Qi1.1 hi];rfl⟩,rfl,Tt⟩
 by_cases h0:0<=v
 case neg =>
  have e1:Zf l t (v,true) ok=none:=by simp only[Zf];rw[if_neg];exact fun h=>h0 h.2.2.1
  rw[e1]
  (refine gW ?_;intros)
  refine hI.call ?_
  (refine gW ?_;intros)
  refine hA.call ?_
  (refine gW ?_;intros)
  exact⟨.inr ⟨rfl,rfl,rfl,rfl,Tt⟩,⟨rfl,rfl,Qgx _,rfl,fun i hi=>by rw[show i=0 from Qi1.1 hi];rfl⟩,rfl,Tt⟩
 by_cases h1:v<l.length
 case neg =>
  have e1:Zf l t (v,true) ok=none:=by simp only[Zf];rw[if_neg];exact fun h=>h1 h.2.2.2.1
  rw[e1]
  (refine gW ?_;intros)
  refine hI.call ?_
  (refine gW ?_;intros)
  refine hA.call ?_
  (refine gW ?_;intros)
  exact⟨.inr ⟨rfl,rfl,rfl,rfl,Tt⟩,⟨rfl,rfl,Qgx _,rfl,fun i hi=>by rw[show i=0 from Qi1.1 hi];rfl⟩,rfl,Tt⟩
 obtain⟨n,rfl⟩:∃n:Nat,v=n:=⟨v.toNat,Om⟩
 have hn:n<l.length:=by omega
 have hP:=hp (l.getD n default) (Qe hn)
 cases h2:ok (l.getD n default)<;>rw[h2]at hP
 .have e1:Zf l t ((n:Int),true) ok=none:=by simp only[Zf];rw[if_neg];intro h;have:=h.2.2.2.2;rw[Int.toNat_natCast,h2]at this;cases this
  rw[e1]
  (refine gW ?_;intros)
  refine hI.call ?_
  (refine gW ?_;intros)
  refine hA.call ?_
  (refine gW ?_;intros)
  refine hP.call ?_
  (refine gW ?_;intros)
  exact⟨.inr ⟨rfl,rfl,rfl,rfl,Tt⟩,⟨rfl,rfl,Qgx _,rfl,fun i hi=>by rw[show i=0 from Qi1.1 hi];rfl⟩,rfl,Tt⟩
 .have e1:Zf l t ((n:Int),true) ok=some (l.getD n default):=by simp only[Zf];rw[if_pos,Int.toNat_natCast];exact⟨ht,by trivial,h0,h1,by rw[Int.toNat_natCast];exact h2⟩
  rw[e1]
  (refine gW ?_;intros)
  refine hI.call ?_
  (refine gW ?_;intros)
  refine hA.call ?_
  (refine gW ?_;intros)
  refine hP.call ?_
  (refine gW ?_;intros)
  exact⟨.inl rfl,⟨rfl,rfl,Qgx _,rfl,fun i hi=>by rw[show i=0 from Qi1.1 hi];rfl⟩,rfl,Tt⟩
structure WfW (w:Wor):Prop where
 bok:Y5 w.bok
 crs:∀c∈w.bok.crs,Hb c
 fct:Qg w.fcts
def Fc (n:Int)(c:Crs):Bool:=decide (c.number=n)&&Uf c
theorem Q7j (c:Crs)(n:Int)(hw:Yz c):Pure Tryz.prog 102 [.agg (Q6 c),.pt [di n] 0] [.bool (Fc n c)]:=by
 have hV:=Q4s c hw
 unfold Fc
 refine Q4 hT (T:=tab) (N:=12) (rs:=[.tmp 3]) Tryz.func102 rfl rfl rfl Kr rfl ?_
 by_cases h:c.number=n
 ·(refine gW ?_;intros)
  refine hV.call ?_
  (refine gW ?_;intros)
  refine⟨congrArg D.bool ?_,Tt⟩
  simp[h]
 ·(refine gW ?_;intros)
  refine⟨congrArg D.bool ?_,Tt⟩
  simp[h]
def N9 (w:Wor)(n t kn:Int):Option Crs:=Zf w.bok.crs t (atV w.fcts ⟨1,n,0⟩ t kn) (Fc n)
def Av (w:Wor)(t kn:Int):Option Sys:=Zf w.bok.sys t (atV w.fcts ⟨4,0,0⟩ t kn) Wc
theorem Iu (w:Wor)(hw:WfW w)(n t kn:Int):Pure Tryz.prog 30 [.agg (U2 w),di n,di t,di kn] [.agg (Q6 ((N9 w n t kn).getD default)),Wl (W8 ⟨1,n,0⟩ t),.bool (N9 w n t kn).isSome]:=by
 have hL:=Qbg w w.bok.crs hw.bok.1.1 hw.fct ⟨1,n,0⟩ t kn 102 (.pt [di n] 0) (Fc n) fun s hs=>Q7j s n (hw.bok.1.2 s hs)
 unfold N9
 refine Q4 hT (T:=tab) (N:=26) (rs:=[.cell 8 68,.tmp 9,.tmp 10]) Tryz.func30 rfl rfl rfl Kr rfl ?_
 (refine gW ?_;intros)
 refine Qz.frz [1] ?_ (hL.call ?_)
 .exact⟨.d,.d,.d,.d,.d,.fn' Tt ⟨.ptr' rfl ⟨.d,Tt⟩,Tt⟩,Tt⟩
 (refine gW ?_;intros)
 exact⟨.inl rfl,⟨rfl,rfl,fun i hi=>rfl⟩,rfl,Tt⟩
theorem Q6l (w:Wor)(hw:WfW w)(t kn:Int):Pure Tryz.prog 36 [.agg (U2 w),di t,di kn] [.agg (Qa ((Av w t kn).getD default)),Wl (W8 ⟨4,0,0⟩ t)]:=by
 have hL:=Qbh w w.bok.sys hw.bok.2.2.1 hw.fct ⟨4,0,0⟩ t kn 92 Wc fun s hs=>Q4t s (hw.bok.2.2.2 s hs)
 unfold Av
 refine Q4 hT (T:=tab) (N:=22) (rs:=[.cell 6 83,.tmp 7]) Tryz.func36 rfl rfl rfl Kr rfl ?_
 (refine gW ?_;intros)
 refine hL.call ?_
 (refine gW ?_;intros)
 exact⟨.inl rfl,⟨rfl,rfl,fun i hi=>rfl⟩,Tt⟩
end Go.Proofs.YtmlhghddfobmmaaGreatDoor
