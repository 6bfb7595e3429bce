import Derived.Test.YtmlhghddfobmmaaGreatDoorBookA
namespace Go.Proofs.YtmlhghddfobmmaaGreatDoor
set_option linter.unusedSimpArgs false
set_option linter.unusedVariables false
open Go Go.Ab
set_option maxRecDepth 100000
set_option maxHeartbeats 0
theorem V0 (n lo hi:Int):Pure Tryz.prog 74 [di n,di lo,di hi] [.bool (bw n lo hi)]:=by
 refine Q4 hT (T:=tab) (N:=15) (rs:=[.tmp 6]) Tryz.func74 rfl rfl rfl Kr rfl ?_
 by_cases h1:lo<=n<;>by_cases h2:n<=hi<;>((refine gW ?_;intros))<;>(refine⟨congrArg D.bool ?_,Tt⟩)<;>simp[bw,h1,h2]
theorem Q18 (n d:Int)(hn:In .i64 n)(hd:In .i64 d):Pure Tryz.prog 147 [.agg [di n,di d]] [.bool (V2 n d)]:=by
 refine Q4 hT (T:=tab) (N:=14) (rs:=[.tmp 2]) Tryz.func147 rfl rfl rfl Kr rfl ?_
 have hC:=O7 n d hn hd
 by_cases h0:Ww n d=0
 .have h1:=Pf h0
  rw[h0]at hC
  have hM:V2 n d=bw n 0 (12*d):=by simp[V2,h0]
  rw[hM]
  (refine gW ?_;intros)
  refine hC.call ?_
  (refine gW ?_;intros)
  refine(V0 n 0 (12*d)).call ?_
  (refine gW ?_;intros)
  exact⟨rfl,Tt⟩
 ·(refine gW ?_;intros)
  refine hC.call ?_
  (refine gW ?_;intros)
  refine⟨congrArg D.bool ?_,Tt⟩
  simp[V2,h0]
theorem Pg (r:Q1):Gf r=0\/Gf r=120:=by
 unfold Gf
 split
 .exact .inl rfl
 .exact .inr rfl
def okR (r:Q1):Bool:=decide (Gf r=0)
def Uf (c:Crs):Bool:=bw c.number 0 4095&&(bw c.credits 1 60&&(bw c.rep 0 2&&(okR c.need&&okR c.bar)))
def Yz (c:Crs):Prop:=wfR c.need/\wfR c.bar
theorem Q4s (c:Crs)(hw:Yz c):Pure Tryz.prog 88 [.agg (Q6 c)] [.bool (Uf c)]:=by
 have hA:=V0 c.number 0 4095
 have hB:=V0 c.credits 1 60
 have hC:=V0 c.rep 0 2
 have hD:=O6 c.need hw.1
 have hE:=O6 c.bar hw.2
 unfold Uf okR
 refine Q4 hT (T:=tab) (N:=28) (rs:=[.tmp 2]) Tryz.func88 rfl rfl rfl Kr rfl ?_
 cases h1:bw c.number 0 4095<;>rw[h1]at hA
 ·(refine gW ?_;intros)
  refine hA.call ?_
  (refine gW ?_;intros)
  exact⟨rfl,Tt⟩
 cases h2:bw c.credits 1 60<;>rw[h2]at hB
 ·(refine gW ?_;intros)
  refine hA.call ?_
  (refine gW ?_;intros)
  refine hB.call ?_
  (refine gW ?_;intros)
  exact⟨rfl,Tt⟩
 cases h3:bw c.rep 0 2<;>rw[h3]at hC
 ·(refine gW ?_;intros)
  refine hA.call ?_
  (refine gW ?_;intros)
  refine hB.call ?_
  (refine gW ?_;intros)
  refine hC.call ?_
  (refine gW ?_;intros)
  exact⟨rfl,Tt⟩
 rcases Pg c.need with h4|h4<;>rw[h4]at hD⊢
 .rcases Pg c.bar with h5|h5<;>rw[h5]at hE⊢
  ·(refine gW ?_;intros)
   refine hA.call ?_
   (refine gW ?_;intros)
   refine hB.call ?_
   (refine gW ?_;intros)
   refine hC.call ?_
   (refine gW ?_;intros)
   refine hD.call ?_
   (refine gW ?_;intros)
   refine hE.call ?_
   (refine gW ?_;intros)
   exact⟨rfl,Tt⟩
  ·(refine gW ?_;intros)
   refine hA.call ?_
   (refine gW ?_;intros)
   refine hB.call ?_
   (refine gW ?_;intros)
   refine hC.call ?_
   (refine gW ?_;intros)
   refine hD.call ?_
   (refine gW ?_;intros)
   refine hE.call ?_
   (refine gW ?_;intros)
   exact⟨rfl,Tt⟩
 ·(refine gW ?_;intros)
  refine hA.call ?_
  (refine gW ?_;intros)
  refine hB.call ?_
  (refine gW ?_;intros)
  refine hC.call ?_
  (refine gW ?_;intros)
  refine hD.call ?_
  (refine gW ?_;intros)
  exact⟨rfl,Tt⟩
def Bd (n:Int):Bool:=bw n 0 4095
theorem Qgd (n:Int):Pure Tryz.prog 188 [di n] [.bool (Bd n)]:=by
 refine Q4 hT (T:=tab) (N:=5) (rs:=[.tmp 2]) Tryz.func188 rfl rfl rfl Kr rfl ?_
 (refine gW ?_;intros)
 refine(V0 n 0 4095).call ?_
 (refine gW ?_;intros)
 exact⟨rfl,Tt⟩
def Kf (q:Req):Bool:=bw q.credits 1 10000&&(bw q.grade 0 12&&q.fr.all Bd)
theorem Qgf (q:Req)(hf:Qg q.fr):Pure Tryz.prog 149 [.agg (Jv q)] [.bool (Kf q)]:=by
 have hA:=V0 q.credits 1 10000
 have hB:=V0 q.grade 0 12
 have hC:=Q5l q.fr hf 188 Bd fun s _=>Qgd s
 unfold Kf
 refine Q4 hT (T:=tab) (N:=18) (rs:=[.tmp 2]) Tryz.func149 rfl rfl rfl Kr rfl ?_
 cases h1:bw q.credits 1 10000<;>rw[h1]at hA
 ·(refine gW ?_;intros)
  refine hA.call ?_
  (refine gW ?_;intros)
  exact⟨rfl,Tt⟩
 cases h2:bw q.grade 0 12<;>rw[h2]at hB
 ·(refine gW ?_;intros)
  refine hA.call ?_
  (refine gW ?_;intros)
  refine hB.call ?_
  (refine gW ?_;intros)
  exact⟨rfl,Tt⟩
 (refine gW ?_;intros)
 refine hA.call ?_
 (refine gW ?_;intros)
 refine hB.call ?_
 (refine gW ?_;intros)
 refine hC.call ?_
 (refine gW ?_;intros)
 exact⟨rfl,Tt⟩
def Ce (p:Prg):Prop:=In .i64 p.mn/\In .i64 p.md/\Qg p.reqs/\∀q∈p.reqs,Qg q.fr
def G5 (p:Prg):Bool:=bw p.number 0 255&&(bw p.uses 1 4&&(bw p.earn 0 10000&&(V2 p.mn p.md&&(decide (p.reqs.length<=64)&&p.reqs.all Kf))))
theorem Qge (p:Prg)(hw:Ce p):Pure Tryz.prog 90 [.agg (Q9 p)] [.bool (G5 p)]:=by
 have hA:=V0 p.number 0 255
 have hB:=V0 p.uses 1 4
 have hC:=V0 p.earn 0 10000
 have hD:=Q18 p.mn p.md hw.1 hw.2.1
 have hE:=Q5o p.reqs hw.2.2.1 149 Kf fun q hq=>Qgf q (hw.2.2.2 q hq)
 unfold G5
 refine Q4 hT (T:=tab) (N:=32) (rs:=[.tmp 2]) Tryz.func90 rfl rfl rfl Kr rfl ?_
 cases h1:bw p.number 0 255<;>rw[h1]at hA
 ·(refine gW ?_;intros)
  refine hA.call ?_
  (refine gW ?_;intros)
  exact⟨rfl,Tt⟩
 cases h2:bw p.uses 1 4<;>rw[h2]at hB
 ·(refine gW ?_;intros)
  refine hA.call ?_
  (refine gW ?_;intros)
  refine hB.call ?_
  (refine gW ?_;intros)
  exact⟨rfl,Tt⟩
 cases h3:bw p.earn 0 10000<;>rw[h3]at hC
 ·(refine gW ?_;intros)
  refine hA.call ?_
  (refine gW ?_;intros)
  refine hB.call ?_
  (refine gW ?_;intros)
  refine hC.call ?_
  (refine gW ?_;intros)
  exact⟨rfl,Tt⟩
 cases h4:V2 p.mn p.md<;>rw[h4]at hD
 ·(refine gW ?_;intros)
  refine hA.call ?_
  (refine gW ?_;intros)
  refine hB.call ?_
  (refine gW ?_;intros)
  refine hC.call ?_
  (refine gW ?_;intros)
  refine hD.call ?_
  (refine gW ?_;intros)
  exact⟨rfl,Tt⟩
 have hfl:p.reqs.length<=9223372036854775807:=hw.2.2.1
 by_cases h5:p.reqs.length<=64
 .rw[Qh8 h5]
  have h6:((p.reqs.length:Nat):Int)<=64:=by omega
  (refine gW ?_;intros)
  refine hA.call ?_
  (refine gW ?_;intros)
  refine hB.call ?_
  (refine gW ?_;intros)
  refine hC.call ?_
  (refine gW ?_;intros)
  refine hD.call ?_
  (refine gW ?_;intros)
  refine hE.call ?_
  (refine gW ?_;intros)
  refine⟨congrArg D.bool ?_,Tt⟩
  simp[h6]
 .rw[Qh0 h5]
  have h6:¬ ((p.reqs.length:Nat):Int)<=64:=by omega
  (refine gW ?_;intros)
  refine hA.call ?_
  (refine gW ?_;intros)
  refine hB.call ?_
  (refine gW ?_;intros)
  refine hC.call ?_
  (refine gW ?_;intros)
  refine hD.call ?_
  (refine gW ?_;intros)
  refine⟨congrArg D.bool ?_,Tt⟩
  simp[h6]
def Xv (x:Cls):Bool:=bw x.earn 0 10000&&V2 x.mn x.md
def Hh (x:Fee):Bool:=bw x.credits 0 10000
def Hg (x:Cla):Bool:=bw x.kind 1 5&&(bw x.whn 0 2&&(bw x.action 1 3&&bw x.til 0 12))
theorem Qgc (x:Fee):Pure Tryz.prog 153 [.agg (U0 x)] [.bool (Hh x)]:=by
 refine Q4 hT (T:=tab) (N:=6) (rs:=[.tmp 2]) Tryz.func153 rfl rfl rfl Kr rfl ?_
 (refine gW ?_;intros)
 refine(V0 x.credits 0 10000).call ?_
 (refine gW ?_;intros)
 exact⟨rfl,Tt⟩
theorem Q4r (x:Cls)(hn:In .i64 x.mn)(hd:In .i64 x.md):Pure Tryz.prog 152 [.agg (Wz x)] [.bool (Xv x)]:=by
 have hA:=V0 x.earn 0 10000
 have hD:=Q18 x.mn x.md hn hd
 unfold Xv
 refine Q4 hT (T:=tab) (N:=11) (rs:=[.tmp 2]) Tryz.func152 rfl rfl rfl Kr rfl ?_
 cases h1:bw x.earn 0 10000<;>rw[h1]at hA
 ·(refine gW ?_;intros)
  refine hA.call ?_
  (refine gW ?_;intros)
  exact⟨rfl,Tt⟩
 ·(refine gW ?_;intros)
  refine hA.call ?_
  (refine gW ?_;intros)
  refine hD.call ?_
  (refine gW ?_;intros)
  exact⟨rfl,Tt⟩
theorem Qgb (x:Cla):Pure Tryz.prog 154 [.agg (Gi x)] [.bool (Hg x)]:=by
 have hA:=V0 x.kind 1 5
 have hB:=V0 x.whn 0 2
 have hC:=V0 x.action 1 3
 have hD:=V0 x.til 0 12
 unfold Hg
 refine Q4 hT (T:=tab) (N:=21) (rs:=[.tmp 2]) Tryz.func154 rfl rfl rfl Kr rfl ?_
 cases h1:bw x.kind 1 5<;>rw[h1]at hA
 ·(refine gW ?_;intros)
  refine hA.call ?_
  (refine gW ?_;intros)
  exact⟨rfl,Tt⟩
 cases h2:bw x.whn 0 2<;>rw[h2]at hB
 ·(refine gW ?_;intros)
  refine hA.call ?_
  (refine gW ?_;intros)
  refine hB.call ?_
  (refine gW ?_;intros)
  exact⟨rfl,Tt⟩
 cases h3:bw x.action 1 3<;>rw[h3]at hC
 ·(refine gW ?_;intros)
  refine hA.call ?_
  (refine gW ?_;intros)
  refine hB.call ?_
  (refine gW ?_;intros)
  refine hC.call ?_
  (refine gW ?_;intros)
  exact⟨rfl,Tt⟩
 (refine gW ?_;intros)
 refine hA.call ?_
 (refine gW ?_;intros)
 refine hB.call ?_
 (refine gW ?_;intros)
 refine hC.call ?_
 (refine gW ?_;intros)
 refine hD.call ?_
 (refine gW ?_;intros)
 exact⟨rfl,Tt⟩
def Ki (x:Cls):Prop:=In .i64 x.mn/\In .i64 x.md
def W0 (s:Sys):Prop:=(Qg s.classes/\∀x∈s.classes,Ki x)/\(Qg s.honours/\∀x∈s.honours,Ki x)/\Qg s.fees/\Qg s.clauses
def Wc (s:Sys):Bool:=s.classes.all Xv&&(s.honours.all Xv&&(s.fees.all Hh&&s.clauses.all Hg))
theorem Q4t (s:Sys)(hw:W0 s):Pure Tryz.prog 92 [.agg (Qa s)] [.bool (Wc s)]:=by
 have hA:=Ih s.classes hw.1.1 152 Xv fun x hx=>Q4r x (hw.1.2 x hx).1 (hw.1.2 x hx).2
 have hB:=Ih s.honours hw.2.1.1 152 Xv fun x hx=>Q4r x (hw.2.1.2 x hx).1 (hw.2.1.2 x hx).2
 have hC:=Q5k s.fees hw.2.2.1 153 Hh fun x hx=>Qgc x
 have hD:=Q5g s.clauses hw.2.2.2 154 Hg fun x hx=>Qgb x
 unfold Wc
 refine Q4 hT (T:=tab) (N:=28) (rs:=[.tmp 2]) Tryz.func92 rfl rfl rfl Kr rfl ?_
 cases h1:s.classes.all Xv<;>rw[h1]at hA
 ·(refine gW ?_;intros)
  refine hA.call ?_
  (refine gW ?_;intros)
  exact⟨rfl,Tt⟩
 cases h2:s.honours.all Xv<;>rw[h2]at hB
 ·(refine gW ?_;intros)
  refine hA.call ?_
  (refine gW ?_;intros)
  refine hB.call ?_
  (refine gW ?_;intros)
  exact⟨rfl,Tt⟩
 cases h3:s.fees.all Hh<;>rw[h3]at hC
 ·(refine gW ?_;intros)
  refine hA.call ?_
  (refine gW ?_;intros)
  refine hB.call ?_
  (refine gW ?_;intros)
  refine hC.call ?_
  (refine gW ?_;intros)
  exact⟨rfl,Tt⟩
 (refine gW ?_;intros)
 refine hA.call ?_
 (refine gW ?_;intros)
 refine hB.call ?_
 (refine gW ?_;intros)
 refine hC.call ?_
 (refine gW ?_;intros)
 refine hD.call ?_
 (refine gW ?_;intros)
 exact⟨rfl,Tt⟩
structure Bok where
 crs:List Crs
 prg:List Prg
 sys:List Sys
 deriving Inhabited
def Q8 (b:Bok):List D:=[J2 b.crs,Qw b.prg,U1 b.sys]
def Y5 (b:Bok):Prop:=(Qg b.crs/\∀c∈b.crs,Yz c)/\(Qg b.prg/\∀p∈b.prg,Ce p)/\Qg b.sys/\∀s∈b.sys,W0 s
def Vn (b:Bok):Int:=if b.crs.all Uf&&(b.prg.all G5&&b.sys.all Wc) then 0 else 140
theorem N2 (b:Bok)(hw:Y5 b):Pure Tryz.prog 19 [.agg (Q8 b)] [di (Vn b)]:=by
 have hA:=Q5h b.crs hw.1.1 88 Uf fun x hx=>Q4s x (hw.1.2 x hx)
 have hB:=Q5n b.prg hw.2.1.1 90 G5 fun x hx=>Qge x (hw.2.1.2 x hx)
 have hC:=Q5p b.sys hw.2.2.1 92 Wc fun x hx=>Q4t x (hw.2.2.2 x hx)
 unfold Vn
 refine Q4 hT (T:=tab) (N:=19) (rs:=[.tmp 2]) Tryz.func19 rfl rfl rfl Kr rfl ?_
 cases h1:b.crs.all Uf<;>rw[h1]at hA
 ·(refine gW ?_;intros)
  refine hA.call ?_
  (refine gW ?_;intros)
  exact⟨rfl,Tt⟩
 cases h2:b.prg.all G5<;>rw[h2]at hB
 ·(refine gW ?_;intros)
  refine hA.call ?_
  (refine gW ?_;intros)
  refine hB.call ?_
  (refine gW ?_;intros)
  exact⟨rfl,Tt⟩
 cases h3:b.sys.all Wc<;>rw[h3]at hC
 ·(refine gW ?_;intros)
  refine hA.call ?_
  (refine gW ?_;intros)
  refine hB.call ?_
  (refine gW ?_;intros)
  refine hC.call ?_
  (refine gW ?_;intros)
  exact⟨rfl,Tt⟩
 ·(refine gW ?_;intros)
  refine hA.call ?_
  (refine gW ?_;intros)
  refine hB.call ?_
  (refine gW ?_;intros)
  refine hC.call ?_
  (refine gW ?_;intros)
  exact⟨rfl,Tt⟩
theorem G1 (n:Int):Pure Tryz.prog 240 [di n] [.bool (bw n 5 9)]:=by
 refine Q4 hT (T:=tab) (N:=9) (rs:=[.tmp 2]) Tryz.func240 rfl rfl rfl Kr rfl ?_
 by_cases h1:5<=n<;>by_cases h2:n<=9<;>((refine gW ?_;intros))<;>(refine⟨congrArg D.bool ?_,Tt⟩)<;>simp[bw,h1,h2]
theorem H5 (n:Int):Pure Tryz.prog 241 [di n] [.bool (W2 n)]:=by
 refine Q4 hT (T:=tab) (N:=9) (rs:=[.tmp 2]) Tryz.func241 rfl rfl rfl Kr rfl ?_
 by_cases h1:0<=n<;>by_cases h2:n<4096<;>((refine gW ?_;intros))<;>(refine⟨congrArg D.bool ?_,Tt⟩)<;>simp[W2,bw,h1,h2]<;>omega
theorem H7 (n d:Int)(hn:In .i64 n)(hd:In .i64 d):Pure Tryz.prog 242 [.agg [di n,di d]] [.bool (V2 n d)]:=by
 refine Q4 hT (T:=tab) (N:=19) (rs:=[.tmp 2]) Tryz.func242 rfl rfl rfl Kr rfl ?_
 have hC:=Q3h n d hn hd
 by_cases h0:Ww n d=0
 .have h1:=Pf h0
  rw[h0]at hC
  have hM:V2 n d=(decide (0<=n)&&decide (n<=12*d)):=by simp[V2,bw,h0]
  rw[hM]
  by_cases h2:0<=n<;>by_cases h3:n<=12*d
  ·(refine gW ?_;intros)
   refine hC.call ?_
   (refine gW ?_;intros)
   refine⟨congrArg D.bool ?_,Tt⟩
   simp[h2,h3]
  ·(refine gW ?_;intros)
   refine hC.call ?_
   (refine gW ?_;intros)
   refine⟨congrArg D.bool ?_,Tt⟩
   simp[h2,h3]
  ·(refine gW ?_;intros)
   refine hC.call ?_
   (refine gW ?_;intros)
   refine⟨congrArg D.bool ?_,Tt⟩
   simp[h2,h3]
  ·(refine gW ?_;intros)
   refine hC.call ?_
   (refine gW ?_;intros)
   refine⟨congrArg D.bool ?_,Tt⟩
   simp[h2,h3]
 ·(refine gW ?_;intros)
  refine hC.call ?_
  (refine gW ?_;intros)
  refine⟨congrArg D.bool ?_,Tt⟩
  simp[V2,h0]
theorem Qdc:∀r:Q1,wfR r->Jj r<=1000000->Pure Tryz.prog 197 [.agg (Q2 r)] [di (Jj r)]:=by
 refine Y4 fun r ih hw hc=>?_
 obtain⟨hw1,hw2⟩:=Ug hw
 refine Q4 hT (T:=tab) (N:=21) (rs:=[.tmp 2]) Tryz.func197 rfl rfl rfl Kr rfl ?_
 rw[Gg]at hc⊢
 have hkey:∀ks:List Q1,(∀k∈ks,Jj k<=Z9 ks):=by
  intro ks
  induction ks with
  |nil=>intro k hk;simp at hk
  | cons x xs ihx =>
    intro k hk
    rw[Wk]
    rcases Qho.1 hk with rfl|hk
    .omega
    .have:=ihx k hk;omega
 have happ:∀a b:List Q1,Z9 (a++b)=Z9 a+Z9 b:=by
  intro a b
  induction a with
  |nil=>rw[List.nil_append,Ho,Qh9]
  |cons x xs ihx=>rw[List.cons_append,Wk,Wk,ihx,Nat.add_assoc]
 have hlk:=hw1.2.2.2.2
 (refine gW ?_;intros)
 refine Q7 hT (S:=Nat) (fun k=>([(1,lp 0),(3,dV ((Z9 (r.kids.take k)+1:Nat):Int)),(4,dV k)],⟨[bX 66 (up (Q2 r))],[]⟩)) (fun k=>k<=r.kids.length) (fun k=>r.kids.length-k) 0 ?_ ?_ ?_
 .rw[List.take_zero,Ho]
  exact lq
 .exact Qh3 _
 .intro k hk
  dsimp only at hk⊢
  have hsum:Z9 r.kids=Z9 (r.kids.take k)+Z9 (r.kids.drop k):=by rw[<-happ,Qil]
  by_cases hk2:k<r.kids.length
  .have hne:r.kids≠[]:=fun e=>by rw[e]at hk2;exact absurd hk2 (Qhh _)
   have hmem:r.kids.getD k default∈r.kids:=Qe hk2
   have hck:=hkey _ _ hmem
   have hI:=ih _ hmem (hw2 _ hmem) Om
   have hts:Z9 (r.kids.take (k+1))=Z9 (r.kids.take k)+Jj (r.kids.getD k default):=by
    have e:r.kids.take (k+1)=r.kids.take k++[r.kids.getD k default]:=by
     rw[List.take_add_one,Qha,Qgy hk2]
     rfl
    rw[e,happ,Wk,Ho,Nat.add_zero]
   have hsum2:Z9 r.kids=Z9 (r.kids.take (k+1))+Z9 (r.kids.drop (k+1)):=by rw[<-happ,Qil]
   have hti:((Z9 (r.kids.take (k+1))+1:Nat):Int)=((Z9 (r.kids.take k)+1:Nat):Int)+(Jj (r.kids.getD k default):Int):=by omega
   have er:Q2 r=[di r.op,di r.course,.str r.name,di r.n,di r.d,.sl 6 r.kids.length fun i=>Q2 (r.kids.getD i default)]:=by
    unfold Q2
    rw[Gk hne]
    rfl
   rw[er]
   (refine gW ?_;intros)
   refine hI.call ?_
   (refine gW ?_;intros)
   refine⟨k+1,by show k+1<=r.kids.length;omega,by show r.kids.length-(k+1)<r.kids.length-k;omega,?_⟩
   dsimp only
   rw[hti]
   exact lq
  .have e:r.kids.take k=r.kids:=Qhn Om
   rw[e]
   (refine gW ?_;intros)
   exact⟨rfl,Tt⟩
theorem Q7k:∀r:Q1,wfR r->Jj r<=1000000->Pure Tryz.prog 198 [.agg (Q2 r)] [di (Xa r)]:=by
 have hdc:∀r:Q1,Xa r<=Jj r:=by
  refine Y4 fun r ih=>?_
  have key:∀ks:List Q1,(∀k∈ks,Xa k<=Jj k)->Zy ks<=Z9 ks:=by
   intro ks
   induction ks with
   |nil=>intro _;rw[Rg,Ho];exact Qgx _
   | cons x xs ihx =>
     intro h
     have h1:=h x (by simp)
     have h2:=ihx fun k hk=>h k (by simp[hk])
     rw[Rf,Wk]
     omega
  have:=key r.kids ih
  rw[Ta,Gg]
  omega
 refine Y4 fun r ih hw hc=>?_
 obtain⟨hw1,hw2⟩:=Ug hw
 refine Q4 hT (T:=tab) (N:=22) (rs:=[.tmp 2]) Tryz.func198 rfl rfl rfl Kr rfl ?_
 have hdr:=hdc r
 rw[Gg]at hc hdr
 rw[Ta]at hdr⊢
 have hkey:∀ks:List Q1,(∀k∈ks,Jj k<=Z9 ks/\Xa k<=Zy ks):=by
  intro ks
  induction ks with
  |nil=>intro k hk;simp at hk
  | cons x xs ihx =>
    intro k hk
    rw[Wk,Rf]
    rcases Qho.1 hk with rfl|hk
    .omega
    .have:=ihx k hk;omega
 have happ:∀a b:List Q1,Zy (a++b)=max (Zy a) (Zy b):=by
  intro a b
  induction a with
  |nil=>rw[List.nil_append,Rg,Nat.zero_max]
  |cons x xs ihx=>rw[List.cons_append,Rf,Rf,ihx,Nat.max_assoc]
 have hlk:=hw1.2.2.2.2
 (refine gW ?_;intros)
 refine Q7 hT (S:=Nat) (fun k=>([(1,lp 0),(3,dV ((Zy (r.kids.take k):Nat):Int)),(4,dV k)],⟨[bX 66 (up (Q2 r))],[]⟩)) (fun k=>k<=r.kids.length) (fun k=>r.kids.length-k) 0 ?_ ?_ ?_
 .rw[List.take_zero,Rg]
  exact lq
 .exact Qh3 _
 .intro k hk
  dsimp only at hk⊢
  have hsum:Zy r.kids=max (Zy (r.kids.take k)) (Zy (r.kids.drop k)):=by rw[<-happ,Qil]
  by_cases hk2:k<r.kids.length
  .have hne:r.kids≠[]:=fun e=>by rw[e]at hk2;exact absurd hk2 (Qhh _)
   have hmem:r.kids.getD k default∈r.kids:=Qe hk2
   have hck:=hkey _ _ hmem
   have hI:=ih _ hmem (hw2 _ hmem) Om
   have hts:Zy (r.kids.take (k+1))=max (Zy (r.kids.take k)) (Xa (r.kids.getD k default)):=by
    have e:r.kids.take (k+1)=r.kids.take k++[r.kids.getD k default]:=by
     rw[List.take_add_one,Qha,Qgy hk2]
     rfl
    rw[e,happ,Rf,Rg,Nat.max_zero]
   have hti:((Zy (r.kids.take (k+1)):Nat):Int)=max ((Zy (r.kids.take k):Nat):Int) (Xa (r.kids.getD k default):Int):=by omega
   have er:Q2 r=[di r.op,di r.course,.str r.name,di r.n,di r.d,.sl 6 r.kids.length fun i=>Q2 (r.kids.getD i default)]:=by
    unfold Q2
    rw[Gk hne]
    rfl
   rw[er]
   (refine gW ?_;intros)
   refine hI.call ?_
   (refine gW ?_;intros)
   refine⟨k+1,by show k+1<=r.kids.length;omega,by show r.kids.length-(k+1)<r.kids.length-k;omega,?_⟩
   dsimp only
   rw[hti,Int.max_def]
   exact lq
  .have e:r.kids.take k=r.kids:=Qhn Om
   rw[e]
   (refine gW ?_;intros)
   exact⟨rfl,Tt⟩
theorem Qec (r:Q1)(hI:In1 r)(ho:r.op=1):Pure Tryz.prog 227 [.agg (Q2 r)] [.bool (Qs r)]:=by
 have hA:=G1 1
 have hB:bw 1 5 9=false:=rfl
 have hb:bw 1 1 9=true:=rfl
 have hb4:bw 1 1 4=!false:=rfl
 have hke:r.kids.isEmpty=decide (r.kids.length=0):=by cases r.kids<;>simp
 have hC:=H5 r.course
 have hM:=H7 r.n r.d hI.2.2.1 hI.2.2.2.1
 have hlk:=hI.2.2.2.2
 rw[hB]at hA
 have hf:Qs r=(((false||decide (r.course=0))&&((false||decide (r.n=0))&&((false||decide (r.d=0))&&((!false||decide (r.kids.length=0))&&true))))):=by
  unfold Qs
  rw[ho,hb,hb4,hke]
  simp[Jg,Jl,Zn,ho]
 rw[hf]
 have eo:Q2 r=[di 1,di r.course,.str r.name,di r.n,di r.d,J0 r.kids]:=by rw[Q2,ho]
 rw[eo]
 refine Q4 hT (T:=tab) (N:=152) (rs:=[.tmp 2]) Tryz.func227 rfl rfl rfl Kr rfl ?_
 ((refine xW ?_ ?_)<;>intros)
 refine hA.call ?_
 (refine gW ?_;intros)
 all_goals first
  | (refine ⟨congrArg D.bool ?_,True.intro⟩
     simp[bw]
     first|omega|(simp_all;fail)|(simp_all;omega)|grind
     done)
  | (refine ⟨congrArg D.bool ?_,True.intro⟩
     simp_all [bw]
     done)
  | (refine hC.call ?_
     (refine gW ?_;intros)
     refine⟨congrArg D.bool ?_,Tt⟩
     simp[bw]
     first|omega|(simp_all;fail)|(simp_all;omega)|grind
     done)
  | (refine hM.call ?_
     (refine gW ?_;intros)
     refine⟨congrArg D.bool ?_,Tt⟩
     simp[bw]
     first|omega|(simp_all;fail)|(simp_all;omega)|grind
     done)
theorem Qed (r:Q1)(hI:In1 r)(ho:r.op=2):Pure Tryz.prog 227 [.agg (Q2 r)] [.bool (Qs r)]:=by
 have hA:=G1 2
 have hB:bw 2 5 9=false:=rfl
 have hb:bw 2 1 9=true:=rfl
 have hb4:bw 2 1 4=!false:=rfl
 have hke:r.kids.isEmpty=decide (r.kids.length=0):=by cases r.kids<;>simp
 have hC:=H5 r.course
 have hM:=H7 r.n r.d hI.2.2.1 hI.2.2.2.1
 have hlk:=hI.2.2.2.2
 rw[hB]at hA
 have hf:Qs r=(((false||decide (r.course=0))&&((false||decide (r.n=0))&&((false||decide (r.d=0))&&((!false||decide (r.kids.length=0))&&true))))):=by
  unfold Qs
  rw[ho,hb,hb4,hke]
  simp[Jg,Jl,Zn,ho]
 rw[hf]
 have eo:Q2 r=[di 2,di r.course,.str r.name,di r.n,di r.d,J0 r.kids]:=by rw[Q2,ho]
 rw[eo]
 refine Q4 hT (T:=tab) (N:=152) (rs:=[.tmp 2]) Tryz.func227 rfl rfl rfl Kr rfl ?_
 ((refine xW ?_ ?_)<;>intros)
 refine hA.call ?_
 (refine gW ?_;intros)
 all_goals first
  | (refine ⟨congrArg D.bool ?_,True.intro⟩
     simp[bw]
     first|omega|(simp_all;fail)|(simp_all;omega)|grind
     done)
  | (refine ⟨congrArg D.bool ?_,True.intro⟩
     simp_all [bw]
     done)
  | (refine hC.call ?_
     (refine gW ?_;intros)
     refine⟨congrArg D.bool ?_,Tt⟩
     simp[bw]
     first|omega|(simp_all;fail)|(simp_all;omega)|grind
     done)
  | (refine hM.call ?_
     (refine gW ?_;intros)
     refine⟨congrArg D.bool ?_,Tt⟩
     simp[bw]
     first|omega|(simp_all;fail)|(simp_all;omega)|grind
     done)
theorem Qee (r:Q1)(hI:In1 r)(ho:r.op=3):Pure Tryz.prog 227 [.agg (Q2 r)] [.bool (Qs r)]:=by
 have hA:=G1 3
 have hB:bw 3 5 9=false:=rfl
 have hb:bw 3 1 9=true:=rfl
 have hb4:bw 3 1 4=!false:=rfl
 have hke:r.kids.isEmpty=decide (r.kids.length=0):=by cases r.kids<;>simp
 have hC:=H5 r.course
 have hM:=H7 r.n r.d hI.2.2.1 hI.2.2.2.1
 have hlk:=hI.2.2.2.2
 rw[hB]at hA
 have hf:Qs r=(((false||decide (r.course=0))&&((true||decide (r.n=0))&&((false||decide (r.d=0))&&((!false||decide (r.kids.length=0))&&bw r.n 0 200))))):=by
  unfold Qs
  rw[ho,hb,hb4,hke]
  simp[Jg,Jl,Zn,ho]
 rw[hf]
 have eo:Q2 r=[di 3,di r.course,.str r.name,di r.n,di r.d,J0 r.kids]:=by rw[Q2,ho]
 rw[eo]
 refine Q4 hT (T:=tab) (N:=152) (rs:=[.tmp 2]) Tryz.func227 rfl rfl rfl Kr rfl ?_
 repeat' (first|with_reducible refine Sq.go ?_|((with_reducible refine Ev.mk ?_);conv=>whnf)|with_reducible refine Dr.mk ⟨Kr,Kr⟩ ?_|with_reducible refine obG ?_|with_reducible refine Ob.mk ?_ ?_|(with_reducible first|refine brT fun h=>?_|refine brF fun h=>?_|refine Br.mk (fun h=>?_) fun h=>?_)<;>(try simp only[bsl,Qhm,bne_iff_ne,bs2]at h)<;>(try contradiction)<;>try (exfalso;omega))
 refine hA.call ?_
 ((refine xW ?_ ?_)<;>intros)
 all_goals first
  | (refine ⟨congrArg D.bool ?_,True.intro⟩
     simp[bw]
     first|omega|(simp_all;fail)|(simp_all;omega)|grind
     done)
  | (refine ⟨congrArg D.bool ?_,True.intro⟩
     simp_all [bw]
     done)
  | (refine hC.call ?_
     (refine gW ?_;intros)
     refine⟨congrArg D.bool ?_,Tt⟩
     simp[bw]
     first|omega|(simp_all;fail)|(simp_all;omega)|grind
     done)
  | (refine hM.call ?_
     (refine gW ?_;intros)
     refine⟨congrArg D.bool ?_,Tt⟩
     simp[bw]
     first|omega|(simp_all;fail)|(simp_all;omega)|grind
     done)
theorem Qef (r:Q1)(hI:In1 r)(ho:r.op=4):Pure Tryz.prog 227 [.agg (Q2 r)] [.bool (Qs r)]:=by
 have hA:=G1 4
 have hB:bw 4 5 9=false:=rfl
 have hb:bw 4 1 9=true:=rfl
 have hb4:bw 4 1 4=!false:=rfl
 have hke:r.kids.isEmpty=decide (r.kids.length=0):=by cases r.kids<;>simp
 have hC:=H5 r.course
 have hM:=H7 r.n r.d hI.2.2.1 hI.2.2.2.1
 have hlk:=hI.2.2.2.2
 rw[hB]at hA
 have hf:Qs r=(((false||decide (r.course=0))&&((false||decide (r.n=0))&&((false||decide (r.d=0))&&((!false||decide (r.kids.length=0))&&decide (r.kids.length=1)))))):=by
  unfold Qs
  rw[ho,hb,hb4,hke]
  simp[Jg,Jl,Zn,ho]
 rw[hf]
 have eo:Q2 r=[di 4,di r.course,.str r.name,di r.n,di r.d,J0 r.kids]:=by rw[Q2,ho]
 rw[eo]
 refine Q4 hT (T:=tab) (N:=152) (rs:=[.tmp 2]) Tryz.func227 rfl rfl rfl Kr rfl ?_
 ((refine xW ?_ ?_)<;>intros)
 refine hA.call ?_
 (refine gW ?_;intros)
 all_goals first
  | (refine ⟨congrArg D.bool ?_,True.intro⟩
     simp[bw]
     first|omega|(simp_all;fail)|(simp_all;omega)|grind
     done)
  | (refine ⟨congrArg D.bool ?_,True.intro⟩
     simp_all [bw]
     done)
  | (refine hC.call ?_
     (refine gW ?_;intros)
     refine⟨congrArg D.bool ?_,Tt⟩
     simp[bw]
     first|omega|(simp_all;fail)|(simp_all;omega)|grind
     done)
  | (refine hM.call ?_
     (refine gW ?_;intros)
     refine⟨congrArg D.bool ?_,Tt⟩
     simp[bw]
     first|omega|(simp_all;fail)|(simp_all;omega)|grind
     done)
theorem Qeg (r:Q1)(hI:In1 r)(ho:r.op=5):Pure Tryz.prog 227 [.agg (Q2 r)] [.bool (Qs r)]:=by
 have hA:=G1 5
 have hB:bw 5 5 9=true:=rfl
 have hb:bw 5 1 9=true:=rfl
 have hb4:bw 5 1 4=!true:=rfl
 have hke:r.kids.isEmpty=decide (r.kids.length=0):=by cases r.kids<;>simp
 have hC:=H5 r.course
 have hM:=H7 r.n r.d hI.2.2.1 hI.2.2.2.1
 have hlk:=hI.2.2.2.2
 rw[hB]at hA
 have hf:Qs r=(((true||decide (r.course=0))&&((true||decide (r.n=0))&&((false||decide (r.d=0))&&((!true||decide (r.kids.length=0))&&(W2 r.course&&bw r.n 0 12)))))):=by
  unfold Qs
  rw[ho,hb,hb4,hke]
  simp[Jg,Jl,Zn,ho]
 rw[hf]
 have eo:Q2 r=[di 5,di r.course,.str r.name,di r.n,di r.d,J0 r.kids]:=by rw[Q2,ho]
 rw[eo]
 refine Q4 hT (T:=tab) (N:=152) (rs:=[.tmp 2]) Tryz.func227 rfl rfl rfl Kr rfl ?_
 repeat' (first|with_reducible refine Sq.go ?_|((with_reducible refine Ev.mk ?_);conv=>whnf)|with_reducible refine Dr.mk ⟨Kr,Kr⟩ ?_|with_reducible refine obG ?_|with_reducible refine Ob.mk ?_ ?_|(with_reducible first|refine brT fun h=>?_|refine brF fun h=>?_|refine Br.mk (fun h=>?_) fun h=>?_)<;>(try simp only[bsl,Qhm,bne_iff_ne,bs2]at h)<;>(try contradiction)<;>try (exfalso;omega))
 refine hA.call ?_
 ((refine xW ?_ ?_)<;>intros)
 all_goals first
  | (refine ⟨congrArg D.bool ?_,True.intro⟩
     simp[bw]
     first|omega|(simp_all;fail)|(simp_all;omega)|grind
     done)
  | (refine ⟨congrArg D.bool ?_,True.intro⟩
     simp_all [bw]
     done)
  | (refine hC.call ?_
     (refine gW ?_;intros)
     refine⟨congrArg D.bool ?_,Tt⟩
     simp[bw]
     first|omega|(simp_all;fail)|(simp_all;omega)|grind
     done)
  | (refine hM.call ?_
     (refine gW ?_;intros)
     refine⟨congrArg D.bool ?_,Tt⟩
     simp[bw]
     first|omega|(simp_all;fail)|(simp_all;omega)|grind
     done)
theorem Qeh (r:Q1)(hI:In1 r)(ho:r.op=6):Pure Tryz.prog 227 [.agg (Q2 r)] [.bool (Qs r)]:=by
 have hA:=G1 6
 have hB:bw 6 5 9=true:=rfl
 have hb:bw 6 1 9=true:=rfl
 have hb4:bw 6 1 4=!true:=rfl
 have hke:r.kids.isEmpty=decide (r.kids.length=0):=by cases r.kids<;>simp
 have hC:=H5 r.course
 have hM:=H7 r.n r.d hI.2.2.1 hI.2.2.2.1
 have hlk:=hI.2.2.2.2
 rw[hB]at hA
 have hf:Qs r=(((true||decide (r.course=0))&&((true||decide (r.n=0))&&((false||decide (r.d=0))&&((!true||decide (r.kids.length=0))&&(W2 r.course&&bw r.n 1 100)))))):=by
  unfold Qs
  rw[ho,hb,hb4,hke]
  simp[Jg,Jl,Zn,ho]
 rw[hf]
 have eo:Q2 r=[di 6,di r.course,.str r.name,di r.n,di r.d,J0 r.kids]:=by rw[Q2,ho]
 rw[eo]
 refine Q4 hT (T:=tab) (N:=152) (rs:=[.tmp 2]) Tryz.func227 rfl rfl rfl Kr rfl ?_
 repeat' (first|with_reducible refine Sq.go ?_|((with_reducible refine Ev.mk ?_);conv=>whnf)|with_reducible refine Dr.mk ⟨Kr,Kr⟩ ?_|with_reducible refine obG ?_|with_reducible refine Ob.mk ?_ ?_|(with_reducible first|refine brT fun h=>?_|refine brF fun h=>?_|refine Br.mk (fun h=>?_) fun h=>?_)<;>(try simp only[bsl,Qhm,bne_iff_ne,bs2]at h)<;>(try contradiction)<;>try (exfalso;omega))
 refine hA.call ?_
 ((refine xW ?_ ?_)<;>intros)
 all_goals first
  | (refine ⟨congrArg D.bool ?_,True.intro⟩
     simp[bw]
     first|omega|(simp_all;fail)|(simp_all;omega)|grind
     done)
  | (refine ⟨congrArg D.bool ?_,True.intro⟩
     simp_all [bw]
     done)
  | (refine hC.call ?_
     (refine gW ?_;intros)
     refine⟨congrArg D.bool ?_,Tt⟩
     simp[bw]
     first|omega|(simp_all;fail)|(simp_all;omega)|grind
     done)
  | (refine hM.call ?_
     (refine gW ?_;intros)
     refine⟨congrArg D.bool ?_,Tt⟩
     simp[bw]
     first|omega|(simp_all;fail)|(simp_all;omega)|grind
     done)
theorem Qei (r:Q1)(hI:In1 r)(ho:r.op=7):Pure Tryz.prog 227 [.agg (Q2 r)] [.bool (Qs r)]:=by
 have hA:=G1 7
 have hB:bw 7 5 9=true:=rfl
 have hb:bw 7 1 9=true:=rfl
 have hb4:bw 7 1 4=!true:=rfl
 have hke:r.kids.isEmpty=decide (r.kids.length=0):=by cases r.kids<;>simp
 have hC:=H5 r.course
 have hM:=H7 r.n r.d hI.2.2.1 hI.2.2.2.1
 have hlk:=hI.2.2.2.2
 rw[hB]at hA
 have hf:Qs r=(((false||decide (r.course=0))&&((true||decide (r.n=0))&&((false||decide (r.d=0))&&((!true||decide (r.kids.length=0))&&bw r.n 0 10000))))):=by
  unfold Qs
  rw[ho,hb,hb4,hke]
  simp[Jg,Jl,Zn,ho]
 rw[hf]
 have eo:Q2 r=[di 7,di r.course,.str r.name,di r.n,di r.d,J0 r.kids]:=by rw[Q2,ho]
 rw[eo]
 refine Q4 hT (T:=tab) (N:=152) (rs:=[.tmp 2]) Tryz.func227 rfl rfl rfl Kr rfl ?_
 repeat' (first|with_reducible refine Sq.go ?_|((with_reducible refine Ev.mk ?_);conv=>whnf)|with_reducible refine Dr.mk ⟨Kr,Kr⟩ ?_|with_reducible refine obG ?_|with_reducible refine Ob.mk ?_ ?_|(with_reducible first|refine brT fun h=>?_|refine brF fun h=>?_|refine Br.mk (fun h=>?_) fun h=>?_)<;>(try simp only[bsl,Qhm,bne_iff_ne,bs2]at h)<;>(try contradiction)<;>try (exfalso;omega))
 refine hA.call ?_
 ((refine xW ?_ ?_)<;>intros)
 all_goals first
  | (refine ⟨congrArg D.bool ?_,True.intro⟩
     simp[bw]
     first|omega|(simp_all;fail)|(simp_all;omega)|grind
     done)
  | (refine ⟨congrArg D.bool ?_,True.intro⟩
     simp_all [bw]
     done)
  | (refine hC.call ?_
     (refine gW ?_;intros)
     refine⟨congrArg D.bool ?_,Tt⟩
     simp[bw]
     first|omega|(simp_all;fail)|(simp_all;omega)|grind
     done)
  | (refine hM.call ?_
     (refine gW ?_;intros)
     refine⟨congrArg D.bool ?_,Tt⟩
     simp[bw]
     first|omega|(simp_all;fail)|(simp_all;omega)|grind
     done)
theorem Qej (r:Q1)(hI:In1 r)(ho:r.op=8):Pure Tryz.prog 227 [.agg (Q2 r)] [.bool (Qs r)]:=by
 have hA:=G1 8
 have hB:bw 8 5 9=true:=rfl
 have hb:bw 8 1 9=true:=rfl
 have hb4:bw 8 1 4=!true:=rfl
 have hke:r.kids.isEmpty=decide (r.kids.length=0):=by cases r.kids<;>simp
 have hC:=H5 r.course
 have hM:=H7 r.n r.d hI.2.2.1 hI.2.2.2.1
 have hlk:=hI.2.2.2.2
 rw[hB]at hA
 have hf:Qs r=(((false||decide (r.course=0))&&((true||decide (r.n=0))&&((true||decide (r.d=0))&&((!true||decide (r.kids.length=0))&&V2 r.n r.d))))):=by
  unfold Qs
  rw[ho,hb,hb4,hke]
  simp[Jg,Jl,Zn,ho]
 rw[hf]
 have eo:Q2 r=[di 8,di r.course,.str r.name,di r.n,di r.d,J0 r.kids]:=by rw[Q2,ho]
 rw[eo]
 refine Q4 hT (T:=tab) (N:=152) (rs:=[.tmp 2]) Tryz.func227 rfl rfl rfl Kr rfl ?_
 repeat' (first|with_reducible refine Sq.go ?_|((with_reducible refine Ev.mk ?_);conv=>whnf)|with_reducible refine Dr.mk ⟨Kr,Kr⟩ ?_|with_reducible refine obG ?_|with_reducible refine Ob.mk ?_ ?_|(with_reducible first|refine brT fun h=>?_|refine brF fun h=>?_|refine Br.mk (fun h=>?_) fun h=>?_)<;>(try simp only[bsl,Qhm,bne_iff_ne,bs2]at h)<;>(try contradiction)<;>try (exfalso;omega))
 refine hA.call ?_
 ((refine xW ?_ ?_)<;>intros)
 all_goals first
  | (refine ⟨congrArg D.bool ?_,True.intro⟩
     simp[bw]
     first|omega|(simp_all;fail)|(simp_all;omega)|grind
     done)
  | (refine ⟨congrArg D.bool ?_,True.intro⟩
     simp_all [bw]
     done)
  | (refine hC.call ?_
     (refine gW ?_;intros)
     refine⟨congrArg D.bool ?_,Tt⟩
     simp[bw]
     first|omega|(simp_all;fail)|(simp_all;omega)|grind
     done)
  | (refine hM.call ?_
     (refine gW ?_;intros)
     refine⟨congrArg D.bool ?_,Tt⟩
     simp[bw]
     first|omega|(simp_all;fail)|(simp_all;omega)|grind
     done)
theorem Qek (r:Q1)(hI:In1 r)(ho:r.op=9):Pure Tryz.prog 227 [.agg (Q2 r)] [.bool (Qs r)]:=by
 have hA:=G1 9
 have hB:bw 9 5 9=true:=rfl
 have hb:bw 9 1 9=true:=rfl
 have hb4:bw 9 1 4=!true:=rfl
 have hke:r.kids.isEmpty=decide (r.kids.length=0):=by cases r.kids<;>simp
 have hC:=H5 r.course
 have hM:=H7 r.n r.d hI.2.2.1 hI.2.2.2.1
 have hlk:=hI.2.2.2.2
 rw[hB]at hA
 have hf:Qs r=(((true||decide (r.course=0))&&((false||decide (r.n=0))&&((false||decide (r.d=0))&&((!true||decide (r.kids.length=0))&&W2 r.course))))):=by
  unfold Qs
  rw[ho,hb,hb4,hke]
  simp[Jg,Jl,Zn,ho]
 rw[hf]
 have eo:Q2 r=[di 9,di r.course,.str r.name,di r.n,di r.d,J0 r.kids]:=by rw[Q2,ho]
 rw[eo]
 refine Q4 hT (T:=tab) (N:=152) (rs:=[.tmp 2]) Tryz.func227 rfl rfl rfl Kr rfl ?_
 repeat' (first|with_reducible refine Sq.go ?_|((with_reducible refine Ev.mk ?_);conv=>whnf)|with_reducible refine Dr.mk ⟨Kr,Kr⟩ ?_|with_reducible refine obG ?_|with_reducible refine Ob.mk ?_ ?_|(with_reducible first|refine brT fun h=>?_|refine brF fun h=>?_|refine Br.mk (fun h=>?_) fun h=>?_)<;>(try simp only[bsl,Qhm,bne_iff_ne,bs2]at h)<;>(try contradiction)<;>try (exfalso;omega))
 refine hA.call ?_
 ((refine xW ?_ ?_)<;>intros)
 all_goals first
  | (refine ⟨congrArg D.bool ?_,True.intro⟩
     simp[bw]
     first|omega|(simp_all;fail)|(simp_all;omega)|grind
     done)
  | (refine ⟨congrArg D.bool ?_,True.intro⟩
     simp_all [bw]
     done)
  | (refine hC.call ?_
     (refine gW ?_;intros)
     refine⟨congrArg D.bool ?_,Tt⟩
     simp[bw]
     first|omega|(simp_all;fail)|(simp_all;omega)|grind
     done)
  | (refine hM.call ?_
     (refine gW ?_;intros)
     refine⟨congrArg D.bool ?_,Tt⟩
     simp[bw]
     first|omega|(simp_all;fail)|(simp_all;omega)|grind
     done)
theorem Qel (r:Q1)(hI:In1 r):Pure Tryz.prog 227 [.agg (Q2 r)] [.bool (Qs r)]:=by
 by_cases ho:bw r.op 1 9=true
 .have h1:1<=r.op/\r.op<=9:=by simpa[bw] using ho
  have h2:r.op=1\/r.op=2\/r.op=3\/r.op=4\/r.op=5\/r.op=6\/r.op=7\/r.op=8\/r.op=9:=by omega
  rcases h2 with h|h|h|h|h|h|h|h|h
  .exact Qec r hI h
  .exact Qed r hI h
  .exact Qee r hI h
  .exact Qef r hI h
  .exact Qeg r hI h
  .exact Qeh r hI h
  .exact Qei r hI h
  .exact Qej r hI h
  .exact Qek r hI h
 .have hb:bw r.op 1 9=false:=by simpa using ho
  have hF:Qs r=false:=by simp[Qs,hb]
  have hb2:bw r.op 5 9=false:=by
   simp[bw]at hb⊢
   omega
  have hn:∀k:Int,1<=k->k<=9->r.op≠k:=fun k h1 h2 e=>by
   simp[bw]at hb
   omega
  have n1:=hn 1 Dc Dc
  have n2:=hn 2 Dc Dc
  have n3:=hn 3 Dc Dc
  have n4:=hn 4 Dc Dc
  have n5:=hn 5 Dc Dc
  have n6:=hn 6 Dc Dc
  have n7:=hn 7 Dc Dc
  have n8:=hn 8 Dc Dc
  have n9:=hn 9 Dc Dc
  have hA:=G1 r.op
  rw[hb2]at hA
  rw[hF]
  refine Q4 hT (T:=tab) (N:=152) (rs:=[.tmp 2]) Tryz.func227 rfl rfl rfl Kr rfl ?_
  ((refine xW ?_ ?_)<;>intros)
  refine hA.call ?_
  (refine gW ?_;intros)
  all_goals exact⟨rfl,Tt⟩
theorem Q5j (r:Q1):Wi r=(Qs r&&r.kids.all Wi):=by
 unfold Wi
 rw[Xq,Qi5]
 congr 1
 have hd:∀(k:Q1) (d e:Nat),((Jm d k).all fun p=>Qs p.2)=(Jm e k).all fun p=>Qs p.2:=fun k d e=>by
  have h:∀l:List (Nat × Q1),(l.all fun p=>Qs p.2)=(l.map Prod.snd).all Qs:=fun l=>by rw[List.all_map];rfl
  rw[h,h,Fk k d e]
 induction r.kids with
 |nil=>rw[Ub];rfl
 |cons k ks ih=>rw[H4,Qii,Qi5,ih,hd k 2 1]
theorem Q5i:∀r:Q1,wfR r->Pure Tryz.prog 199 [.agg (Q2 r)] [.bool (Wi r)]:=by
 refine Y4 fun r ih hw=>?_
 obtain⟨hw1,hw2⟩:=Ug hw
 have hF:=Qel r hw1
 have hlk:=hw1.2.2.2.2
 rw[Q5j]
 refine Q4 hT (T:=tab) (N:=21) (rs:=[.tmp 2]) Tryz.func199 rfl rfl rfl Kr rfl ?_
 cases h0:Qs r<;>rw[h0]at hF
 ·(refine gW ?_;intros)
  refine hF.call ?_
  (refine gW ?_;intros)
  exact⟨rfl,Tt⟩
 rw[Qhy]
 (refine gW ?_;intros)
 refine hF.call ?_
 (refine gW ?_;intros)
 refine Q7 hT (S:=Nat) (fun k=>([(1,lp 0),(3,dV k)],⟨[bX 66 (up (Q2 r))],[]⟩)) (fun k=>k<=r.kids.length/\r.kids.all Wi=(r.kids.drop k).all Wi) (fun k=>r.kids.length-k) 0 ?_ ?_ ?_
 .exact lq
 .exact⟨Qh3 _,rfl⟩
 .rintro k ⟨hk,hc⟩
  by_cases hk2:k<r.kids.length
  .have hne:r.kids≠[]:=fun e=>by rw[e]at hk2;exact absurd hk2 (Qhh _)
   have hmem:r.kids.getD k default∈r.kids:=Qe hk2
   have hI:=ih _ hmem (hw2 _ hmem)
   have er:Q2 r=[di r.op,di r.course,.str r.name,di r.n,di r.d,.sl 6 r.kids.length fun i=>Q2 (r.kids.getD i default)]:=by
    unfold Q2
    rw[Gk hne]
    rfl
   rw[Qc hk2,Qi5]at hc
   dsimp only
   rw[er]
   cases h1:Wi (r.kids.getD k default)<;>rw[h1]at hc hI
   .rw[Bool.false_and]at hc
    rw[hc]
    (refine gW ?_;intros)
    refine hI.call ?_
    (refine gW ?_;intros)
    exact⟨rfl,Tt⟩
   .rw[Qhy]at hc
    (refine gW ?_;intros)
    refine hI.call ?_
    (refine gW ?_;intros)
    refine stp (k+1) ?_ ⟨by show k+1<=r.kids.length;omega,hc⟩
    exact lq
  .rw[Qr Om,List.all_nil]at hc
   rw[hc]
   (refine gW ?_;intros)
   exact⟨rfl,Tt⟩
theorem O5 (r:Q1)(hw:wfR r)(hc:Jj r<=1000000):Pure Tryz.prog 158 [.agg (Q2 r)] [di (Gf r)]:=by
 have hA:=Qdc r hw hc
 have hB:=Q7k r hw hc
 have hC:=Q5i r hw
 unfold Gf
 refine Q4 hT (T:=tab) (N:=16) (rs:=[.tmp 2]) Tryz.func158 rfl rfl rfl Kr rfl ?_
 by_cases h1:Jj r<=200
 .by_cases h2:Xa r<=16
  .cases h3:Wi r<;>rw[h3]at hC
   .rw[if_neg (by simp)]
    (refine gW ?_;intros)
    refine hA.call ?_
    (refine gW ?_;intros)
    refine hB.call ?_
    (refine gW ?_;intros)
    refine hC.call ?_
    (refine gW ?_;intros)
    exact⟨rfl,Tt⟩
   .rw[if_pos ⟨h1,h2,rfl⟩]
    (refine gW ?_;intros)
    refine hA.call ?_
    (refine gW ?_;intros)
    refine hB.call ?_
    (refine gW ?_;intros)
    refine hC.call ?_
    (refine gW ?_;intros)
    exact⟨rfl,Tt⟩
  .rw[if_neg Om]
   (refine gW ?_;intros)
   refine hA.call ?_
   (refine gW ?_;intros)
   refine hB.call ?_
   (refine gW ?_;intros)
   exact⟨rfl,Tt⟩
 .rw[if_neg Om]
  (refine gW ?_;intros)
  refine hA.call ?_
  (refine gW ?_;intros)
  exact⟨rfl,Tt⟩
structure Kp (p:Prop):Prop where
 h:p
theorem Xs (n lo hi:Int):Pure Tryz.prog 97 [di n,di lo,di hi] [.bool (bw n lo hi)]:=by
 refine Q4 hT (T:=tab) (N:=15) (rs:=[.tmp 6]) Tryz.func97 rfl rfl rfl Kr rfl ?_
 by_cases h1:lo<=n<;>by_cases h2:n<=hi<;>((refine gW ?_;intros))<;>(refine⟨congrArg D.bool ?_,Tt⟩)<;>simp[bw,h1,h2]
theorem Q3u (n d:Int)(hn:In .i64 n)(hd:In .i64 d):Pure Tryz.prog 159 [.agg [di n,di d]] [.bool (V2 n d)]:=by
 refine Q4 hT (T:=tab) (N:=19) (rs:=[.tmp 2]) Tryz.func159 rfl rfl rfl Kr rfl ?_
 have hC:=Q3h n d hn hd
 by_cases h0:Ww n d=0
 .have h1:=Pf h0
  rw[h0]at hC
  have hM:V2 n d=(decide (0<=n)&&decide (n<=12*d)):=by simp[V2,bw,h0]
  rw[hM]
  by_cases h2:0<=n<;>by_cases h3:n<=12*d
  ·(refine gW ?_;intros)
   refine hC.call ?_
   (refine gW ?_;intros)
   refine⟨congrArg D.bool ?_,Tt⟩
   simp[h2,h3]
  ·(refine gW ?_;intros)
   refine hC.call ?_
   (refine gW ?_;intros)
   refine⟨congrArg D.bool ?_,Tt⟩
   simp[h2,h3]
  ·(refine gW ?_;intros)
   refine hC.call ?_
   (refine gW ?_;intros)
   refine⟨congrArg D.bool ?_,Tt⟩
   simp[h2,h3]
  ·(refine gW ?_;intros)
   refine hC.call ?_
   (refine gW ?_;intros)
   refine⟨congrArg D.bool ?_,Tt⟩
   simp[h2,h3]
 ·(refine gW ?_;intros)
  refine hC.call ?_
  (refine gW ?_;intros)
  refine⟨congrArg D.bool ?_,Tt⟩
  simp[V2,h0]
def Hb (c:Crs):Prop:=Jj c.need<=1000000/\Jj c.bar<=1000000
theorem Qax (c:Crs)(hw:Yz c)(hs:Hb c):Pure Tryz.prog 93 [.agg (Q6 c)] [.bool (Uf c)]:=by
 have hA:=Xs c.number 0 4095
 have hB:=Xs c.credits 1 60
 have hC:=Xs c.rep 0 2
 have hD:=O5 c.need hw.1 hs.1
 have hE:=O5 c.bar hw.2 hs.2
 unfold Uf okR
 refine Q4 hT (T:=tab) (N:=28) (rs:=[.tmp 2]) Tryz.func93 rfl rfl rfl Kr rfl ?_
 cases h1:bw c.number 0 4095<;>rw[h1]at hA
 ·(refine gW ?_;intros)
  refine hA.call ?_
  (refine gW ?_;intros)
  exact⟨rfl,Tt⟩
 cases h2:bw c.credits 1 60<;>rw[h2]at hB
 ·(refine gW ?_;intros)
  refine hA.call ?_
  (refine gW ?_;intros)
  refine hB.call ?_
  (refine gW ?_;intros)
  exact⟨rfl,Tt⟩
 cases h3:bw c.rep 0 2<;>rw[h3]at hC
 ·(refine gW ?_;intros)
  refine hA.call ?_
  (refine gW ?_;intros)
  refine hB.call ?_
  (refine gW ?_;intros)
  refine hC.call ?_
  (refine gW ?_;intros)
  exact⟨rfl,Tt⟩
 rcases Pg c.need with h4|h4<;>rw[h4]at hD⊢
 .rcases Pg c.bar with h5|h5<;>rw[h5]at hE⊢
  ·(refine gW ?_;intros)
   refine hA.call ?_
   (refine gW ?_;intros)
   refine hB.call ?_
   (refine gW ?_;intros)
   refine hC.call ?_
   (refine gW ?_;intros)
   refine hD.call ?_
   (refine gW ?_;intros)
   refine hE.call ?_
   (refine gW ?_;intros)
   exact⟨rfl,Tt⟩
  ·(refine gW ?_;intros)
   refine hA.call ?_
   (refine gW ?_;intros)
   refine hB.call ?_
   (refine gW ?_;intros)
   refine hC.call ?_
   (refine gW ?_;intros)
   refine hD.call ?_
   (refine gW ?_;intros)
   refine hE.call ?_
   (refine gW ?_;intros)
   exact⟨rfl,Tt⟩
 ·(refine gW ?_;intros)
  refine hA.call ?_
  (refine gW ?_;intros)
  refine hB.call ?_
  (refine gW ?_;intros)
  refine hC.call ?_
  (refine gW ?_;intros)
  refine hD.call ?_
  (refine gW ?_;intros)
  exact⟨rfl,Tt⟩
theorem Q15 (l:List Cls)(hl:Qg l)(hw:∀x∈l,Ki x):Pure Tryz.prog 160 [Qk l] [.bool (l.all Xv)]:=by
 have hl':l.length<=9223372036854775807:=hl
 refine Q4 hT (T:=tab) (N:=26) (rs:=[.tmp 2]) Tryz.func160 rfl rfl rfl Kr rfl ?_
 (refine gW ?_;intros)
 refine Q7 hT (S:=Nat) (fun k=>([(0,.d (Qk l)),(3,dV k)],⟨[],[]⟩)) (fun k=>k<=l.length/\l.all Xv=(l.drop k).all Xv) (fun k=>l.length-k) 0 ?_ ?_ ?_
 .repeat' (first|exact Tt|exact rfl|exact Qgx _|refine And.intro ?_ ?_)
 .exact⟨Qh3 _,rfl⟩
 .rintro k ⟨hk,hc⟩
  by_cases hk2:k<l.length
  .have hm:=hw _ (Qe (xs:=l) (k:=k) hk2)
   have hA:=Xs (l.getD k default).earn 0 10000
   have hB:=Q3u (l.getD k default).mn (l.getD k default).md hm.1 hm.2
   rw[Qc hk2,Qi5,Xv]at hc
   cases h1:bw (l.getD k default).earn 0 10000<;>rw[h1]at hA hc
   .rw[hc]
    (refine gW ?_;intros)
    refine hA.call ?_
    (refine gW ?_;intros)
    exact⟨rfl,Tt⟩
   .cases h2:V2 (l.getD k default).mn (l.getD k default).md<;>rw[h2]at hB hc
    .rw[hc]
     (refine gW ?_;intros)
     refine hA.call ?_
     (refine gW ?_;intros)
     refine hB.call ?_
     (refine gW ?_;intros)
     exact⟨rfl,Tt⟩
    ·(refine gW ?_;intros)
     refine hA.call ?_
     (refine gW ?_;intros)
     refine hB.call ?_
     (refine gW ?_;intros)
     refine⟨k+1,⟨by show k+1<=l.length;omega,by rw[hc];rfl⟩,by show l.length-(k+1)<l.length-k;omega,?_⟩
     repeat' (first|exact Tt|exact rfl|exact Qgx _|refine And.intro ?_ ?_)
  .rw[Qr Om,List.all_nil]at hc
   rw[hc]
   (refine gW ?_;intros)
   exact⟨rfl,Tt⟩
end Go.Proofs.YtmlhghddfobmmaaGreatDoor
