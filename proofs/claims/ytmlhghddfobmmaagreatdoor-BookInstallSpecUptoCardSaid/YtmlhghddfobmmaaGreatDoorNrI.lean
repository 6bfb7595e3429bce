import Derived.Test.YtmlhghddfobmmaaGreatDoorInrG
import Derived.Test.YtmlhghddfobmmaaGreatDoorEngAM
import Derived.Test.YtmlhghddfobmmaaGreatDoorOpsW
namespace Go.Proofs.YtmlhghddfobmmaaGreatDoor
set_option linter.unusedSimpArgs false
set_option linter.unusedVariables false
open Go Go.Ab
set_option maxRecDepth 100000
set_option maxHeartbeats 0
def W5 (b l:List Crs):Bool:=l.any fun x=>!decide (x.number∈Jh b)
theorem Qbs (b l:List Crs)(x:Crs):W5 b (l++[x])=(W5 b l||!decide (x.number∈Jh b)):=by
 unfold W5
 rw[List.any_append,List.any_cons,List.any_nil,Bool.or_false]
theorem Qbr (b l:List Crs):W5 b l=true↔Z6 b<Z6 (b++l):=by
 rw[Qc4]
 unfold W5
 rw[List.any_eq_true]
 exact⟨fun⟨x,h,e⟩=>⟨x,h,by simpa using e⟩,fun⟨x,h,e⟩=>⟨x,h,by simpa using e⟩⟩
theorem Qev (b:Bok) (c:Cat) (fr til kn:Int) (g g1 g2 g3:Nat) (f0:List Fct) (hf:f0.length≤300) (h1:b.crs.length≤100) (h2:b.prg.length≤100) (h5:c.crs.length≤100) (h4:c.prg.length≤100) (h3:b.sys.length≤1000) (h6:c.same.length≤100) (hS:c.classes.length + c.fees.length + c.honours.length + c.clauses.length≤9223372036854775807) :
 Awp Tryz.prog 276 (K4 9) [(3,dV kn),(4,lp 0),(5,lp 1),(6,lp 2),(8,lp 3),(14,lp 8),(15,.osl (.loc 9) g 0 f0.length),(16,.d (.bool false))] ⟨[bX 26 (up (Q8 b)),bX 32 (up (Q0 c)),bX 34 (up [di fr,di til]),bX 26 (up [.nils,.nils,.nils]),bX 32 (up (Q0 (Qj c))),bV 68 16 g1 b.crs.length (rowsOf Q6 b.crs),bV 78 7 g2 b.prg.length (rowsOf Q9 b.prg),bV 83 4 g3 b.sys.length (rowsOf Qa b.sys),bX 26 [.osl (.loc 5) g1 0 b.crs.length,.osl (.loc 6) g2 0 b.prg.length,.osl (.loc 7) g3 0 b.sys.length],bV 94 8 g f0.length (rowsOf Qf f0)],[]⟩ (V9 ⟨(b.crs++c.crs),(b.prg++c.prg),b.sys++(if Vz c=true then[Qq c] else[])⟩ (let fs:=Qh fr til kn (Qh fr til kn (Qh fr til kn (Qh fr til kn f0 (J5 1 b.crs.length (fun x:Crs=>x.number) c.crs c.crs.length)) (J5 3 b.prg.length (fun x:Prg=>x.number) c.prg c.prg.length)) (Zi c.same c.same.length)) (if Vz c=true then[(4,0,0,(b.sys.length:Int))] else[]);if W5 b.crs c.crs=true then Zu 0 1024 kn fs (12,0,0,(Z6 (b.crs++c.crs):Int)) else fs)):=by
 have kS:=Qex b c (b.crs++c.crs) b.sys (W5 b.crs c.crs) fr til kn
 unfold V9 at kS⊢
 refine Awp.of_vc hT ?_
 (refine gW ?_;intros)
 refine Q7 hT (S:=RB2) (fun z=>([(3,dV kn),(4,lp 0),(5,lp 1),(6,lp 2),(8,lp 3),(14,lp 8),(15,.osl (.loc 9) z.g 0 (Qh fr til kn f0 (J5 1 b.crs.length (fun x:Crs=>x.number) c.crs z.k)).length),(16,.d (.bool (W5 b.crs (c.crs.take z.k)))),(17,dV z.k)],⟨[bX 26 (up (Q8 b)),bX 32 (up (Q0 c)),bX 34 (up [di fr,di til]),bX 26 (up [.nils,.nils,.nils]),bX 32 (up (Q0 (Qj c))),bV 68 16 z.g' (b.crs++c.crs.take z.k).length (rowsOf Q6 (b.crs++c.crs.take z.k)),bV 78 7 g2 b.prg.length (rowsOf Q9 b.prg),bV 83 4 g3 b.sys.length (rowsOf Qa b.sys),bX 26 [.osl (.loc 5) z.g' 0 (b.crs++c.crs.take z.k).length,.osl (.loc 6) g2 0 b.prg.length,.osl (.loc 7) g3 0 b.sys.length],bV 94 8 z.g (Qh fr til kn f0 (J5 1 b.crs.length (fun x:Crs=>x.number) c.crs z.k)).length (rowsOf Qf (Qh fr til kn f0 (J5 1 b.crs.length (fun x:Crs=>x.number) c.crs z.k)))],[]⟩)) (fun z=>z.k<=c.crs.length) (fun z=>c.crs.length-z.k) ⟨0,g,g1⟩ ?_ ?_ ?_
 .dsimp only
  rw[List.take_zero,Qih]
  repeat' (first|exact Tt|exact rfl|exact Qgx _|refine And.intro ?_ ?_)
  all_goals (intro i hi;exact⟨rfl,rfl⟩)
 .exact Qh3 _
 rintro⟨k,g,g1⟩ hk
 dsimp only at hk⊢
 have hfl:=Um fr til kn (J5 1 b.crs.length (fun x:Crs=>x.number) c.crs k) f0
 rw[Gh]at hfl
 have hll:(b.crs++c.crs.take k).length=b.crs.length+k:=by rw[Qhc,Qhr];omega
 by_cases hk2:k<c.crs.length
 case pos =>
  have hH:=Q3q b.crs Om (c.crs.getD k default).number
  have he:(Qh fr til kn f0 (J5 1 b.crs.length (fun x:Crs=>x.number) c.crs (k+1)))=(Qh fr til kn f0 (J5 1 b.crs.length (fun x:Crs=>x.number) c.crs k))++[⟨1,(c.crs.getD k default).number,0,((b.crs++c.crs.take k).length:Int),fr,til,kn,(Qh fr til kn f0 (J5 1 b.crs.length (fun x:Crs=>x.number) c.crs k)).length⟩]:=by
   show Qh fr til kn f0 (_++[_])=_
   rw[R4,hll]
   show _++[_]=_
   congr 3
  have hr:(b.crs++c.crs.take (k+1))=(b.crs++c.crs.take k)++[(c.crs.getD k default)]:=by rw[Js hk2,List.append_assoc]
  have hm:(W5 b.crs (c.crs.take (k+1)))=((W5 b.crs (c.crs.take k))||!decide ((c.crs.getD k default).number∈Jh b.crs)):=by rw[Js hk2,Qbs]
  generalize (Qh fr til kn f0 (J5 1 b.crs.length (fun x:Crs=>x.number) c.crs k))=fs at hfl he⊢
  generalize (W5 b.crs (c.crs.take k))=m at hm⊢
  generalize (b.crs++c.crs.take k)=l at hll he hr⊢
  generalize decide ((c.crs.getD k default).number∈Jh b.crs)=d at hH hm
  obtain⟨es,hes⟩:∃es,fs++[(⟨1,(c.crs.getD k default).number,0,(l.length:Int),fr,til,kn,fs.length⟩:Fct)]=es:=⟨_,rfl⟩
  have hel:es.length=fs.length+1:=by rw[<-hes,Qhc];rfl
  rw[hes]at he
  have kE:Kp _:=⟨he⟩
  have kR:Kp _:=⟨hr⟩
  have kM:Kp _:=⟨hm⟩
  have kes:Kp _:=⟨hes⟩
  clear he hr hes hm kS
  (refine gS ?_;intros)
  refine Sq.go ?_;(refine gS ?_;intros)
  refine Sq.go ?_;(refine gS ?_;intros)
  refine Sq.go ?_;(refine gS ?_;intros)
  cases m
  .refine Sq.go ?_;(refine gS ?_;intros)
   refine qC hH ?_
   (refine gS ?_;intros)
   refine Sq.alt (Awp.le (env':=[(3,dV kn),(4,lp 0),(5,lp 1),(6,lp 2),(8,lp 3),(14,lp 8),(15,.osl (.loc 9) (g+1) 0 es.length),(16,.d (.bool (!d))),(17,dV k)]) (m':=⟨[bX 26 (up (Q8 b)),bX 32 (up (Q0 c)),bX 34 (up [di fr,di til]),bX 26 (up [.nils,.nils,.nils]),bX 32 (up (Q0 (Qj c))),bV 68 16 g1 l.length (rowsOf Q6 l),bV 78 7 g2 b.prg.length (rowsOf Q9 b.prg),bV 83 4 g3 b.sys.length (rowsOf Qa b.sys),bX 26 [.osl (.loc 5) g1 0 l.length,.osl (.loc 6) g2 0 b.prg.length,.osl (.loc 7) g3 0 b.sys.length],bV 94 8 (g+1) es.length (rowsOf Qf es)],[]⟩) ?_ (Awp.effsF (m:=⟨[bX 26 (up (Q8 b)),bX 32 (up (Q0 c)),bX 34 (up [di fr,di til]),bX 26 (up [.nils,.nils,.nils]),bX 32 (up (Q0 (Qj c))),bV 68 16 g1 l.length (rowsOf Q6 l),bV 78 7 g2 b.prg.length (rowsOf Q9 b.prg),bV 83 4 g3 b.sys.length (rowsOf Qa b.sys),bX 26 [.osl (.loc 5) g1 0 l.length,.osl (.loc 6) g2 0 b.prg.length,.osl (.loc 7) g3 0 b.sys.length],bV 94 8 (g+1) es.length (rowsOf Qf es)],[]⟩) hT Kr Kr Kr ⟨[bX 26 (up (Q8 b)),bX 32 (up (Q0 c)),bX 34 (up [di fr,di til]),bX 26 (up [.nils,.nils,.nils]),bX 32 (up (Q0 (Qj c))),some .opq,bV 78 7 g2 b.prg.length (rowsOf Q9 b.prg),bV 83 4 g3 b.sys.length (rowsOf Qa b.sys),bX 26 [.junk,.osl (.loc 6) g2 0 b.prg.length,.osl (.loc 7) g3 0 b.sys.length],bV 94 8 (g+1) es.length (rowsOf Qf es)],[]⟩ 10 0
    [⟨1,.osl (.loc 5) g1 0 l.length,⟨[some (.box 26 (up (Q8 b))),some (.box 32 (up (Q0 c))),some (.box 34 (up [.int .i64 fr,.int .i64 til])),some (.box 26 (up [.nils,.nils,.nils])),some (.box 32 (up (Q0 (Qj c)))),some (.vec 68 16 g1 l.length (rowsOf Q6 l)),some (.vec 78 7 g2 b.prg.length (rowsOf Q9 b.prg)),some (.vec 83 4 g3 b.sys.length (rowsOf Qa b.sys)),some (.box 26 [.osl (.loc 5) g1 0 l.length,.osl (.loc 6) g2 0 b.prg.length,.osl (.loc 7) g3 0 b.sys.length]),some (.vec 94 8 (g + 1) es.length (rowsOf Qf es))],[]⟩,[]⟩,
     ⟨8,.osl (.loc 5) (g1+1) 0 (l.length+1),⟨[bX 26 (up (Q8 b)),bX 32 (up (Q0 c)),bX 34 (up [di fr,di til]),bX 26 (up [.nils,.nils,.nils]),bX 32 (up (Q0 (Qj c))),bV 68 16 (g1+1) (l.length+1) (Je l.length (rowsOf Q6 l) (fun i=>up (Xf [Q6 (c.crs.getD k default)] i))),bV 78 7 g2 b.prg.length (rowsOf Q9 b.prg),bV 83 4 g3 b.sys.length (rowsOf Qa b.sys),bX 26 [.osl (.loc 5) g1 0 l.length,.osl (.loc 6) g2 0 b.prg.length,.osl (.loc 7) g3 0 b.sys.length],bV 94 8 (g+1) es.length (rowsOf Qf es)],[]⟩,[1]⟩,
     ⟨10,.junk,⟨[bX 26 (up (Q8 b)),bX 32 (up (Q0 c)),bX 34 (up [di fr,di til]),bX 26 (up [.nils,.nils,.nils]),bX 32 (up (Q0 (Qj c))),bV 68 16 (g1+1) (l.length+1) (Je l.length (rowsOf Q6 l) (fun i=>up (Xf [Q6 (c.crs.getD k default)] i))),bV 78 7 g2 b.prg.length (rowsOf Q9 b.prg),bV 83 4 g3 b.sys.length (rowsOf Qa b.sys),bX 26 [.osl (.loc 5) (g1+1) 0 (l.length+1),.osl (.loc 6) g2 0 b.prg.length,.osl (.loc 7) g3 0 b.sys.length],bV 94 8 (g+1) es.length (rowsOf Qf es)],[]⟩,[8]⟩]
    Kr rfl rfl (Qt.of ⟨.inl rfl,.inl rfl,.inl rfl,.inl rfl,.inl rfl,.inr ⟨_,rfl,Qo.opq⟩,.inl rfl,.inl rfl,.inr ⟨_,rfl,Qo.box ⟨rfl,rfl,Tt⟩⟩,.inl rfl,Tt⟩ Tt) ⟨Qt.of ⟨.inl rfl,.inl rfl,.inl rfl,.inl rfl,.inl rfl,.inr ⟨_,rfl,Qo.opq⟩,.inl rfl,.inl rfl,.inr ⟨_,rfl,Qo.box ⟨rfl,rfl,Tt⟩⟩,.inl rfl,Tt⟩ Tt,Qt.of ⟨.inl rfl,.inl rfl,.inl rfl,.inl rfl,.inl rfl,.inr ⟨_,rfl,Qo.opq⟩,.inl rfl,.inl rfl,.inr ⟨_,rfl,Qo.box ⟨rfl,rfl,Tt⟩⟩,.inl rfl,Tt⟩ Tt,Qt.of ⟨.inl rfl,.inl rfl,.inl rfl,.inl rfl,.inl rfl,.inr ⟨_,rfl,Qo.opq⟩,.inl rfl,.inl rfl,.inr ⟨_,rfl,Qo.box ⟨rfl,rfl,Tt⟩⟩,.inl rfl,Tt⟩ Tt,Tt⟩ ?_))
   .repeat' (first|exact Tt|exact rfl|exact Qgx _|refine And.intro ?_ ?_)
    all_goals first
     |(rw[hel];done)
     |(rw[hel];exact rfl)
     |(rw[hel];exact Qgx _)
     |(intro i hi;exact⟨rfl,rfl⟩)
     | (intro i hi
        refine⟨?_,rfl⟩
        rw[hel]at hi
        rw[<-kes.h]
        exact Yi Qf fs ⟨1,(c.crs.getD k default).number,0,(l.length:Int),fr,til,kn,fs.length⟩ rfl i hi)
   conv=>whnf
   (refine gS ?_;intros)
   refine⟨?_,?_,?_,?_⟩
   .conv=>whnf
    (refine gS ?_;intros)
    exact⟨rfl,rfl⟩
   .conv=>whnf
    (refine gS ?_;intros)
    exact⟨rfl,rfl⟩
   .conv=>whnf
    (refine gS ?_;intros)
    exact⟨Tt,rfl⟩
   conv=>whnf
   (refine gS ?_;intros)
   refine Sq.go ?_;(refine gS ?_;intros)
   refine⟨⟨k+1,g+1,g1+1⟩,by show k+1<=c.crs.length;omega,by show c.crs.length-(k+1)<c.crs.length-k;omega,?_⟩
   dsimp only
   rw[kE.h,kR.h,kM.h,Bool.false_or,Jp]
   repeat' (first|exact Tt|exact rfl|exact Qgx _|refine And.intro ?_ ?_)
   all_goals first
    |(intro i hi;exact⟨rfl,rfl⟩)
    | (intro i hi
       exact⟨Yi Q6 l (c.crs.getD k default) rfl i hi,rfl⟩)
  .refine Sq.go ?_;(refine gS ?_;intros)
   refine Sq.alt (Awp.le (env':=[(3,dV kn),(4,lp 0),(5,lp 1),(6,lp 2),(8,lp 3),(14,lp 8),(15,.osl (.loc 9) (g+1) 0 es.length),(16,.d (.bool true)),(17,dV k)]) (m':=⟨[bX 26 (up (Q8 b)),bX 32 (up (Q0 c)),bX 34 (up [di fr,di til]),bX 26 (up [.nils,.nils,.nils]),bX 32 (up (Q0 (Qj c))),bV 68 16 g1 l.length (rowsOf Q6 l),bV 78 7 g2 b.prg.length (rowsOf Q9 b.prg),bV 83 4 g3 b.sys.length (rowsOf Qa b.sys),bX 26 [.osl (.loc 5) g1 0 l.length,.osl (.loc 6) g2 0 b.prg.length,.osl (.loc 7) g3 0 b.sys.length],bV 94 8 (g+1) es.length (rowsOf Qf es)],[]⟩) ?_ (Awp.effsF (m:=⟨[bX 26 (up (Q8 b)),bX 32 (up (Q0 c)),bX 34 (up [di fr,di til]),bX 26 (up [.nils,.nils,.nils]),bX 32 (up (Q0 (Qj c))),bV 68 16 g1 l.length (rowsOf Q6 l),bV 78 7 g2 b.prg.length (rowsOf Q9 b.prg),bV 83 4 g3 b.sys.length (rowsOf Qa b.sys),bX 26 [.osl (.loc 5) g1 0 l.length,.osl (.loc 6) g2 0 b.prg.length,.osl (.loc 7) g3 0 b.sys.length],bV 94 8 (g+1) es.length (rowsOf Qf es)],[]⟩) hT Kr Kr Kr ⟨[bX 26 (up (Q8 b)),bX 32 (up (Q0 c)),bX 34 (up [di fr,di til]),bX 26 (up [.nils,.nils,.nils]),bX 32 (up (Q0 (Qj c))),some .opq,bV 78 7 g2 b.prg.length (rowsOf Q9 b.prg),bV 83 4 g3 b.sys.length (rowsOf Qa b.sys),bX 26 [.junk,.osl (.loc 6) g2 0 b.prg.length,.osl (.loc 7) g3 0 b.sys.length],bV 94 8 (g+1) es.length (rowsOf Qf es)],[]⟩ 10 0
    [⟨1,.osl (.loc 5) g1 0 l.length,⟨[some (.box 26 (up (Q8 b))),some (.box 32 (up (Q0 c))),some (.box 34 (up [.int .i64 fr,.int .i64 til])),some (.box 26 (up [.nils,.nils,.nils])),some (.box 32 (up (Q0 (Qj c)))),some (.vec 68 16 g1 l.length (rowsOf Q6 l)),some (.vec 78 7 g2 b.prg.length (rowsOf Q9 b.prg)),some (.vec 83 4 g3 b.sys.length (rowsOf Qa b.sys)),some (.box 26 [.osl (.loc 5) g1 0 l.length,.osl (.loc 6) g2 0 b.prg.length,.osl (.loc 7) g3 0 b.sys.length]),some (.vec 94 8 (g + 1) es.length (rowsOf Qf es))],[]⟩,[]⟩,
     ⟨8,.osl (.loc 5) (g1+1) 0 (l.length+1),⟨[bX 26 (up (Q8 b)),bX 32 (up (Q0 c)),bX 34 (up [di fr,di til]),bX 26 (up [.nils,.nils,.nils]),bX 32 (up (Q0 (Qj c))),bV 68 16 (g1+1) (l.length+1) (Je l.length (rowsOf Q6 l) (fun i=>up (Xf [Q6 (c.crs.getD k default)] i))),bV 78 7 g2 b.prg.length (rowsOf Q9 b.prg),bV 83 4 g3 b.sys.length (rowsOf Qa b.sys),bX 26 [.osl (.loc 5) g1 0 l.length,.osl (.loc 6) g2 0 b.prg.length,.osl (.loc 7) g3 0 b.sys.length],bV 94 8 (g+1) es.length (rowsOf Qf es)],[]⟩,[1]⟩,
     ⟨10,.junk,⟨[bX 26 (up (Q8 b)),bX 32 (up (Q0 c)),bX 34 (up [di fr,di til]),bX 26 (up [.nils,.nils,.nils]),bX 32 (up (Q0 (Qj c))),bV 68 16 (g1+1) (l.length+1) (Je l.length (rowsOf Q6 l) (fun i=>up (Xf [Q6 (c.crs.getD k default)] i))),bV 78 7 g2 b.prg.length (rowsOf Q9 b.prg),bV 83 4 g3 b.sys.length (rowsOf Qa b.sys),bX 26 [.osl (.loc 5) (g1+1) 0 (l.length+1),.osl (.loc 6) g2 0 b.prg.length,.osl (.loc 7) g3 0 b.sys.length],bV 94 8 (g+1) es.length (rowsOf Qf es)],[]⟩,[8]⟩]
    Kr rfl rfl (Qt.of ⟨.inl rfl,.inl rfl,.inl rfl,.inl rfl,.inl rfl,.inr ⟨_,rfl,Qo.opq⟩,.inl rfl,.inl rfl,.inr ⟨_,rfl,Qo.box ⟨rfl,rfl,Tt⟩⟩,.inl rfl,Tt⟩ Tt) ⟨Qt.of ⟨.inl rfl,.inl rfl,.inl rfl,.inl rfl,.inl rfl,.inr ⟨_,rfl,Qo.opq⟩,.inl rfl,.inl rfl,.inr ⟨_,rfl,Qo.box ⟨rfl,rfl,Tt⟩⟩,.inl rfl,Tt⟩ Tt,Qt.of ⟨.inl rfl,.inl rfl,.inl rfl,.inl rfl,.inl rfl,.inr ⟨_,rfl,Qo.opq⟩,.inl rfl,.inl rfl,.inr ⟨_,rfl,Qo.box ⟨rfl,rfl,Tt⟩⟩,.inl rfl,Tt⟩ Tt,Qt.of ⟨.inl rfl,.inl rfl,.inl rfl,.inl rfl,.inl rfl,.inr ⟨_,rfl,Qo.opq⟩,.inl rfl,.inl rfl,.inr ⟨_,rfl,Qo.box ⟨rfl,rfl,Tt⟩⟩,.inl rfl,Tt⟩ Tt,Tt⟩ ?_))
   .repeat' (first|exact Tt|exact rfl|exact Qgx _|refine And.intro ?_ ?_)
    all_goals first
     |(rw[hel];done)
     |(rw[hel];exact rfl)
     |(rw[hel];exact Qgx _)
     |(intro i hi;exact⟨rfl,rfl⟩)
     | (intro i hi
        refine⟨?_,rfl⟩
        rw[hel]at hi
        rw[<-kes.h]
        exact Yi Qf fs ⟨1,(c.crs.getD k default).number,0,(l.length:Int),fr,til,kn,fs.length⟩ rfl i hi)
   conv=>whnf
   (refine gS ?_;intros)
   refine⟨?_,?_,?_,?_⟩
   .conv=>whnf
    (refine gS ?_;intros)
    exact⟨rfl,rfl⟩
   .conv=>whnf
    (refine gS ?_;intros)
    exact⟨rfl,rfl⟩
   .conv=>whnf
    (refine gS ?_;intros)
    exact⟨Tt,rfl⟩
   conv=>whnf
   (refine gS ?_;intros)
   refine Sq.go ?_;(refine gS ?_;intros)
   refine⟨⟨k+1,g+1,g1+1⟩,by show k+1<=c.crs.length;omega,by show c.crs.length-(k+1)<c.crs.length-k;omega,?_⟩
   dsimp only
   rw[kE.h,kR.h,kM.h,Bool.true_or,Jp]
   repeat' (first|exact Tt|exact rfl|exact Qgx _|refine And.intro ?_ ?_)
   all_goals first
    |(intro i hi;exact⟨rfl,rfl⟩)
    | (intro i hi
       exact⟨Yi Q6 l (c.crs.getD k default) rfl i hi,rfl⟩)
 obtain rfl:k=c.crs.length:=by omega
 rw[Qhp]at hll⊢
 generalize (Qh fr til kn f0 (J5 1 b.crs.length (fun x:Crs=>x.number) c.crs c.crs.length))=fs at hfl⊢
 (refine gS ?_;intros)
 refine Sq.go ?_;(refine gS ?_;intros)
 refine Sq.alt (Awp.le (env':=[(3,dV kn),(5,lp 1),(6,lp 2),(8,lp 3),(14,lp 8),(15,.osl (.loc 9) g 0 fs.length),(16,.d (.bool (W5 b.crs c.crs)))]) (m':=⟨[bX 26 (up (Q8 b)),bX 32 (up (Q0 c)),bX 34 (up [di fr,di til]),bX 26 (up [.nils,.nils,.nils]),bX 32 (up (Q0 (Qj c))),bV 68 16 g1 (b.crs++c.crs).length (rowsOf Q6 (b.crs++c.crs)),bV 78 7 g2 b.prg.length (rowsOf Q9 b.prg),bV 83 4 g3 b.sys.length (rowsOf Qa b.sys),bX 26 [.osl (.loc 5) g1 0 (b.crs++c.crs).length,.osl (.loc 6) g2 0 b.prg.length,.osl (.loc 7) g3 0 b.sys.length],bV 94 8 g fs.length (rowsOf Qf fs)],[]⟩) ?_ (kS g g1 g2 g3 fs Om Om h2 h4 h3 h6 hS))
 repeat' (first|exact Tt|exact rfl|exact Qgx _|refine And.intro ?_ ?_)
 all_goals (intro i hi;exact⟨rfl,rfl⟩)
theorem Qaq (b:Bok)(c:Cat)(fr til kn:Int):(let fs:=Qh fr til kn (Qh fr til kn (Qh fr til kn (Qh fr til kn [] (J5 1 b.crs.length (fun x:Crs=>x.number) c.crs c.crs.length)) (J5 3 b.prg.length (fun x:Prg=>x.number) c.prg c.prg.length)) (Zi c.same c.same.length)) (if Vz c=true then[(4,0,0,(b.sys.length:Int))] else[]);if W5 b.crs c.crs=true then Zu 0 1024 kn fs (12,0,0,(Z6 (b.crs++c.crs):Int)) else fs:List Fct)=Y1 b c fr til kn:=by
 unfold Y1 L7 L8 Wn
 rw[Kk,Kk,Kk]
 simp only[Qbr]
theorem Qew (b:Bok)(c:Cat)(fr til kn:Int)(h1:b.crs.length<=100)(h2:b.prg.length<=100)(h5:c.crs.length<=100)(h4:c.prg.length<=100)(h3:b.sys.length<=1000)(h6:c.same.length<=100)(hS:c.classes.length+c.fees.length+c.honours.length+c.clauses.length<=9223372036854775807) :
 Awp Tryz.prog 276 (K4 6) [(3,dV kn),(4,lp 0),(5,lp 1),(6,lp 2),(8,lp 3)] ⟨[bX 26 (up (Q8 b)),bX 32 (up (Q0 c)),bX 34 (up [di fr,di til]),bX 26 (up [.nils,.nils,.nils]),bX 32 (up (Q0 (Qj c)))],[]⟩ (V9 (W4 b c) (Y1 b c fr til kn)):=by
 have kS:=fun g1 g2 g3=>Qev b c fr til kn 0 g1 g2 g3 [] (Qh3 _) h1 h2 h5 h4 h3 h6 hS
 rw[Qaq]at kS
 unfold V9 at kS⊢
 conv=>enter [3];whnf
 refine(Awp.seq (Awp.rows3 hT 12 ⟨14,26,87⟩ (by exact rfl) Kr Kr Kr Kr (by exact Bn.of rfl ⟨rfl,rfl⟩ rfl ⟨rfl,rfl,rfl⟩ rfl ⟨rfl,rfl,rfl⟩ Kr Kr Kr) (by exact rfl) Kr Kr ?_))
 conv=>whnf
 (refine gS ?_;intros)
 refine⟨⟨3,78,68,16,_,_,_⟩,⟨7,82,78,7,_,_,_⟩,⟨11,86,83,4,_,_,_⟩,_,_,_,rfl,⟨(by show(3:Nat)≠7;decide),(by show(3:Nat)≠11;decide),(by show(7:Nat)≠11;decide)⟩,fun i hi=>⟨Q6 (b.crs.getD (i-0) default),rfl⟩,fun i hi=>⟨Q9 (b.prg.getD (i-0) default),rfl⟩,fun i hi=>⟨Qa (b.sys.getD (i-0) default),rfl⟩,rfl,?_,rfl,?_,rfl,?_⟩
 ·(repeat' first|exact List.forall_mem_nil _|refine List.forall_mem_cons.2 ⟨?_,?_⟩)<;>first|rfl|exact Tt|exact⟨rfl,rfl⟩|exact Qh3 _|exact Qgx _|exact Qhz (Qh9 _)|trace_state
 ·(repeat' first|exact List.forall_mem_nil _|refine List.forall_mem_cons.2 ⟨?_,?_⟩)<;>first|rfl|exact Tt|exact⟨rfl,rfl⟩|exact Qh3 _|exact Qgx _|exact Qhz (Qh9 _)|trace_state
 conv=>whnf
 (refine gS ?_;intros)
 refine Awp.of_vc hT ?_
 (refine gS ?_;intros)
 refine Sq.go ?_;(refine gS ?_;intros)
 refine Sq.alt (Awp.le (env':=[(3,dV kn),(4,lp 0),(5,lp 1),(6,lp 2),(8,lp 3),(14,lp 8),(15,.osl (.loc 9) 0 0 ([]:List Fct).length),(16,.d (.bool false))]) (m':=⟨[bX 26 (up (Q8 b)),bX 32 (up (Q0 c)),bX 34 (up [di fr,di til]),bX 26 (up [.nils,.nils,.nils]),bX 32 (up (Q0 (Qj c))),bV 68 16 1 b.crs.length (rowsOf Q6 b.crs),bV 78 7 1 b.prg.length (rowsOf Q9 b.prg),bV 83 4 1 b.sys.length (rowsOf Qa b.sys),bX 26 [.osl (.loc 5) 1 0 b.crs.length,.osl (.loc 6) 1 0 b.prg.length,.osl (.loc 7) 1 0 b.sys.length],bV 94 8 0 ([]:List Fct).length (rowsOf Qf ([]:List Fct))],[]⟩) ?_ (kS 1 1 1))
 repeat' (first|exact Tt|exact rfl|exact Qgx _|refine And.intro ?_ ?_)
 all_goals first
  |(intro i hi;exact⟨rfl,rfl⟩)
  |(intro i hi;exact(Qhh i hi).elim)
  |exact Qhz (Qh9 _).symm
  |exact(Qh9 _).symm
  |exact Qh9 _
  | (show [AV.osl (.loc 5) 1 0 (0 + b.crs.length),.osl (.loc 6) 1 0 (0 + b.prg.length),.osl (.loc 7) 1 0 (0 + b.sys.length)]=_
     rw[Qh9,Qh9,Qh9])
def qz (l:List Crs)(q:Req):List Bool:=List.zipWith (fun s n=>(Qx l s n).isSome) q.names q.fr
theorem Q3g (l:List Crs){q:Req}(h:Vs q=true):(qz l q).length=q.fr.length:=by
 have:=Qhd h
 rw[qz,List.length_zipWith,this,Nat.min_self]
theorem Qdo (l:List Crs){q:Req}(h:Vs q=true){i:Nat}(hi:i<q.fr.length):(qz l q).getD i default=(Qx l (q.names.getD i default) (q.fr.getD i default)).isSome:=by
 have hn:i<q.names.length:=by rw[Qhd h];exact hi
 simp only[qz,Qha,List.getElem?_zipWith,Qgy hi,Qgy hn,Qi3]
theorem Q68 (a b:Bool):(bif a then b else false)=(a&&b):=by cases a<;>rfl
theorem Fw {α β:Type}[Inhabited α][Inhabited β](enc:β->List D)(l:List α)(f:α->β){k:Nat}(hk:k<l.length)(j:Nat)(hj:j<k+1):Je k (rowsOf enc ((l.take k).map f)) (Jr [up (enc (f (l.getD k default)))]) j=rowsOf enc ((l.take (k+1)).map f) j:=by
 rw[Js hk,Qim]
 exact Yi enc _ _ (by rw[Qhb,Qhr];omega) j hj
theorem Qf9 {m:Mem}{r:Ref}{α β:Type}[Inhabited α][Inhabited β](f:α->β)(l:List α){e sz g:Nat}{enc:β->List D}(h:m.get r=bV e sz g l.length (rowsOf enc ((l.take l.length).map f))) :
 J9 m (.osl r g 0 l.length) (.sl sz (l.map f).length fun i=>enc ((l.map f).getD i default)):=by
 rw[Qhb]
 exact .rows h (Qhz (Qh9 _)) fun i hi=>by rw[Qh9,Qhp];rfl
theorem Qfa {m:Mem}{r:Ref}(l:List Int){e g n:Nat}(hn:n=l.length)(h:m.get r=bV e 1 g n (Jz (l.take n))):J9 m (.osl r g 0 n) (J6 l):=by
 subst hn
 exact .rows h (Qhz (Qh9 _)) fun i hi=>by rw[Qh9,Qhp];rfl
theorem By {α:Type}[Inhabited α](l:List α)(p:α->Bool){k:Nat}(hk:k<l.length)(B:Bool):(B&&(l.take (k+1)).all p)=((B&&(l.take k).all p)&&p (l.getD k default)):=by
 rw[Js hk,Qii,Bool.and_assoc,Qi5,List.all_nil,Bool.and_true]
theorem Qfe (c:Cat) (hF:Yl c) (hQ:c.prg.all Vr=true) (g1 g2:Nat) (b:Bool) (hb:Vf c=(b && c.prg.all (Zk c.crs))) (hV:Vf c=false→J1 c=110) (hW:Vf c=true→J1 c=Xp c.crs) :
 Awp Tryz.prog 264 (Fz 9) [(1,lp 0),(2,lp 1),(6,lp 2),(7,.d (.bool b))] ⟨[bX 32 (up (Q0 c)),bX 32 (up dZC),bxR c (.osl (.loc 3) g1 0 c.crs.length) (.osl (.loc 4) g2 0 c.same.length) (.d (Qw c.prg)),bV 68 16 g1 c.crs.length (rowsOf Q6 (c.crs.map (Jo c.crs))),bV 131 4 g2 c.same.length (rowsOf Qv (c.same.map (Zm c.crs)))],[]⟩ (K7 c):=by
 have hcl:=hF.crs
 have hpl:=hF.prg
 unfold K7
 have kV:Kp _:=⟨hV⟩
 have kW:Kp _:=⟨hW⟩
 have kb:Kp _:=⟨hb⟩
 clear hV hW hb
 refine Awp.of_vc hT ?_
 (refine gW ?_;intros)
 refine Q7 hT (S:=RB) (fun z=>([(1,lp 0),(2,lp 1),(6,lp 2),(7,.d (.bool (b&&(c.prg.take z.k).all (Zk c.crs)))),(20,dV z.k)],⟨[bX 32 (up (Q0 c)),bX 32 (up dZC),bxR c (.osl (.loc 3) g1 0 c.crs.length) (.osl (.loc 4) g2 0 c.same.length) (.osl (.loc 5) z.g 0 z.k),bV 68 16 g1 c.crs.length (rowsOf Q6 (c.crs.map (Jo c.crs))),bV 131 4 g2 c.same.length (rowsOf Qv (c.same.map (Zm c.crs))),bV 78 7 z.g z.k (rowsOf Q9 ((c.prg.take z.k).map (Vw c.crs)))],[]⟩)) (fun z=>z.k<=c.prg.length) (fun z=>c.prg.length-z.k) ⟨0,0⟩ ?_ ?_ ?_
 .repeat' (first|exact Tt|exact rfl|exact Qgx _|refine And.intro ?_ ?_)
  all_goals first
   |(intro i hi;exact absurd hi (Qhh i))
   |(intro i hi;exact⟨rfl,rfl⟩)
   | (show AV.d (D.bool b)=AV.d (D.bool (b && true))
      rw[Bool.and_true])
 .exact Qh3 _
 rintro⟨k,g⟩ hk
 dsimp only at hk⊢
 by_cases hk2:k<c.prg.length
 case pos =>
  obtain⟨hrl,hrq⟩:=hF.reqs _ (Qe hk2)
  have hlq:∀q∈(c.prg.getD k default).reqs,Vs q=true:=fun q hq=>Qi8.1 (Qi8.1 hQ _ (Qe hk2)) q hq
  have kr:Kp _:=⟨hrq⟩
  have kl:Kp _:=⟨hlq⟩
  clear hrq hlq
  have kA:Kp ((b&&(c.prg.take (k+1)).all (Zk c.crs))=((b&&(c.prg.take k).all (Zk c.crs))&&((c.prg.getD k default).reqs.take (c.prg.getD k default).reqs.length).all (okQ c.crs))):=⟨(By c.prg (Zk c.crs) hk2 b).trans (by rw[Qhp];rfl)⟩
  (refine gW ?_;intros)
  refine Q7 hT (S:=RB) (fun z=>([(1,lp 0),(2,lp 1),(6,lp 2),(7,.d (.bool ((b&&(c.prg.take k).all (Zk c.crs))&&((c.prg.getD k default).reqs.take z.k).all (okQ c.crs)))),(20,dV k),(21,lp 6),(22,dV z.k)],⟨[bX 32 (up (Q0 c)),bX 32 (up dZC),bxR c (.osl (.loc 3) g1 0 c.crs.length) (.osl (.loc 4) g2 0 c.same.length) (.osl (.loc 5) g 0 k),bV 68 16 g1 c.crs.length (rowsOf Q6 (c.crs.map (Jo c.crs))),bV 131 4 g2 c.same.length (rowsOf Qv (c.same.map (Zm c.crs))),bV 78 7 g k (rowsOf Q9 ((c.prg.take k).map (Vw c.crs))),bX 78 [.d (.str (c.prg.getD k default).name),dV (c.prg.getD k default).number,dV (c.prg.getD k default).uses,dV (c.prg.getD k default).earn,dV (c.prg.getD k default).mn,dV (c.prg.getD k default).md,.osl (.loc 7) z.g 0 z.k],bV 106 6 z.g z.k (rowsOf Jv (((c.prg.getD k default).reqs.take z.k).map (X5 c.crs)))],[]⟩)) (fun z=>z.k<=(c.prg.getD k default).reqs.length) (fun z=>(c.prg.getD k default).reqs.length-z.k) ⟨0,0⟩ ?_ ?_ ?_
  .repeat' (first|exact Tt|exact rfl|exact Qgx _|refine And.intro ?_ ?_)
   all_goals first
    |(intro i hi;exact absurd hi (Qhh i))
    |(intro i hi;exact⟨rfl,rfl⟩)
    | (show AV.d (D.bool (b && (c.prg.take k).all (Zk c.crs)))=AV.d (D.bool ((b && (c.prg.take k).all (Zk c.crs)) && true))
       rw[Bool.and_true])
  .exact Qh3 _
  rintro⟨j,g'⟩ hj
  dsimp only at hj⊢
  by_cases hj2:j<(c.prg.getD k default).reqs.length
  case pos =>
   obtain⟨hq1,hq2⟩:=kr.h _ (Qe hj2)
   have hq3:=kl.h _ (Qe hj2)
   have hq4:=Qhd hq3
   have kB:Kp (((b&&(c.prg.take k).all (Zk c.crs))&&((c.prg.getD k default).reqs.take (j+1)).all (okQ c.crs))=(((b&&(c.prg.take k).all (Zk c.crs))&&((c.prg.getD k default).reqs.take j).all (okQ c.crs))&&((qz c.crs ((c.prg.getD k default).reqs.getD j default)).take ((c.prg.getD k default).reqs.getD j default).fr.length).all id)):=⟨(By _ (okQ c.crs) hj2 _).trans (by rw[<-Q3g c.crs hq3,Qhp];rfl)⟩
   (refine gW ?_;intros)
   refine Q7 hT (S:=RB) (fun z=>([(1,lp 0),(2,lp 1),(6,lp 2),(7,.d (.bool (((b&&(c.prg.take k).all (Zk c.crs))&&((c.prg.getD k default).reqs.take j).all (okQ c.crs))&&((qz c.crs ((c.prg.getD k default).reqs.getD j default)).take z.k).all id))),(20,dV k),(21,lp 6),(22,dV j),(23,lp 8),(24,.osl (.loc 9) z.g 0 z.k),(25,dV z.k)],⟨[bX 32 (up (Q0 c)),bX 32 (up dZC),bxR c (.osl (.loc 3) g1 0 c.crs.length) (.osl (.loc 4) g2 0 c.same.length) (.osl (.loc 5) g 0 k),bV 68 16 g1 c.crs.length (rowsOf Q6 (c.crs.map (Jo c.crs))),bV 131 4 g2 c.same.length (rowsOf Qv (c.same.map (Zm c.crs))),bV 78 7 g k (rowsOf Q9 ((c.prg.take k).map (Vw c.crs))),bX 78 [.d (.str (c.prg.getD k default).name),dV (c.prg.getD k default).number,dV (c.prg.getD k default).uses,dV (c.prg.getD k default).earn,dV (c.prg.getD k default).mn,dV (c.prg.getD k default).md,.osl (.loc 7) g' 0 j],bV 106 6 g' j (rowsOf Jv (((c.prg.getD k default).reqs.take j).map (X5 c.crs))),bX 106 (up (Jv ((c.prg.getD k default).reqs.getD j default))),bV 3 1 z.g z.k (Jz ((frL c.crs ((c.prg.getD k default).reqs.getD j default)).take z.k))],[]⟩)) (fun z=>z.k<=((c.prg.getD k default).reqs.getD j default).fr.length) (fun z=>((c.prg.getD k default).reqs.getD j default).fr.length-z.k) ⟨0,0⟩ ?_ ?_ ?_
   .repeat' (first|exact Tt|exact rfl|exact Qgx _|refine And.intro ?_ ?_)
    all_goals first
     |(intro i hi;exact absurd hi (Qhh i))
     |(intro i hi;exact⟨rfl,rfl⟩)
     | (show AV.d (D.bool ((b && (c.prg.take k).all (Zk c.crs)) && ((c.prg.getD k default).reqs.take j).all (okQ c.crs)))=AV.d (D.bool (((b && (c.prg.take k).all (Zk c.crs)) && ((c.prg.getD k default).reqs.take j).all (okQ c.crs)) && true))
        rw[Bool.and_true])
   .exact Qh3 _
   rintro⟨i,g''⟩ hi
   dsimp only at hi⊢
   by_cases hi2:i<((c.prg.getD k default).reqs.getD j default).fr.length
   case pos =>
    have hM:=Fu c Om (((c.prg.getD k default).reqs.getD j default).names.getD i default) (((c.prg.getD k default).reqs.getD j default).fr.getD i default)
    have kC:Kp ((((b&&(c.prg.take k).all (Zk c.crs))&&((c.prg.getD k default).reqs.take j).all (okQ c.crs))&&((qz c.crs ((c.prg.getD k default).reqs.getD j default)).take (i+1)).all id)=((((b&&(c.prg.take k).all (Zk c.crs))&&((c.prg.getD k default).reqs.take j).all (okQ c.crs))&&((qz c.crs ((c.prg.getD k default).reqs.getD j default)).take i).all id)&&(Qx c.crs (((c.prg.getD k default).reqs.getD j default).names.getD i default) (((c.prg.getD k default).reqs.getD j default).fr.getD i default)).isSome)):=⟨(By _ id (by rw[Q3g c.crs hq3];exact hi2) _).trans (by rw[Qdo c.crs hq3 hi2];rfl)⟩
    have kD:Kp ((frL c.crs ((c.prg.getD k default).reqs.getD j default)).take (i+1)=(frL c.crs ((c.prg.getD k default).reqs.getD j default)).take i++[(Qx c.crs (((c.prg.getD k default).reqs.getD j default).names.getD i default) (((c.prg.getD k default).reqs.getD j default).fr.getD i default)).getD 0]):=⟨by
     rw[Js (by rw[L4 c.crs hq3];exact hi2),Q0v c.crs hq3 hi2]⟩
    have kE:Kp (i=((frL c.crs ((c.prg.getD k default).reqs.getD j default)).take i).length):=⟨by rw[Qhr,L4 c.crs hq3];omega⟩
    (refine gW ?_;intros)
    refine qC hM ?_
    (refine gW ?_;intros)
    refine⟨⟨i+1,g''+1⟩,by show i+1<=((c.prg.getD k default).reqs.getD j default).fr.length;omega,by show((c.prg.getD k default).reqs.getD j default).fr.length-(i+1)<((c.prg.getD k default).reqs.getD j default).fr.length-i;omega,?_⟩
    dsimp only
    rw[kC.h,kD.h]
    repeat' (first|exact Tt|exact rfl|exact Qgx _|refine And.intro ?_ ?_)
    all_goals first
     |exact congrArg (fun x=>AV.d (D.bool x)) (Q68 _ _)
     |(intro x hx;exact⟨B6 _ _ kE.h x hx,rfl⟩)
     |(intro x hx;exact⟨rfl,rfl⟩)
   obtain rfl:i=((c.prg.getD k default).reqs.getD j default).fr.length:=by omega
   (refine gS ?_;intros)
   refine Sq.go ?_;(refine gS ?_;intros)
   refine Sq.alt (Awp.frz [9] 24 (J6 (frL c.crs ((c.prg.getD k default).reqs.getD j default))) (Qfa _ (L4 c.crs hq3).symm rfl) (Z3 hT _ _ _ _ (Ev.o ?_)))
   (refine gW ?_;intros)
   refine⟨⟨j+1,g'+1⟩,by show j+1<=(c.prg.getD k default).reqs.length;omega,by show(c.prg.getD k default).reqs.length-(j+1)<(c.prg.getD k default).reqs.length-j;omega,?_⟩
   dsimp only
   rw[kB.h]
   repeat' (first|exact Tt|exact rfl|exact Qgx _|refine And.intro ?_ ?_)
   all_goals first
    |(intro x hx;exact⟨Fw Jv (c.prg.getD k default).reqs (X5 c.crs) hj2 x hx,rfl⟩)
    |(intro x hx;exact⟨rfl,rfl⟩)
  obtain rfl:j=(c.prg.getD k default).reqs.length:=by omega
  (refine gS ?_;intros)
  refine Sq.go ?_;(refine gS ?_;intros)
  refine Sq.alt (Awp.frzB [7] 6 (up (Q9 (Vw c.crs (c.prg.getD k default)))) rfl rfl ⟨.inl rfl,.inl rfl,.inl rfl,.inl rfl,.inl rfl,.inl rfl,.inr ⟨_,rfl,Qf9 _ _ rfl⟩,Tt⟩ (Z3 hT _ _ _ _ (Ev.o ?_)))
  (refine gW ?_;intros)
  refine⟨⟨k+1,g+1⟩,by show k+1<=c.prg.length;omega,by show c.prg.length-(k+1)<c.prg.length-k;omega,?_⟩
  dsimp only
  rw[kA.h]
  repeat' (first|exact Tt|exact rfl|exact Qgx _|refine And.intro ?_ ?_)
  all_goals first
   |(intro x hx;exact⟨Fw Q9 c.prg (Vw c.crs) hk2 x hx,rfl⟩)
   |(intro x hx;exact⟨rfl,rfl⟩)
 obtain rfl:k=c.prg.length:=by omega
 (refine gS ?_;intros)
 refine Sq.go ?_;(refine gS ?_;intros)
 refine Sq.alt (Awp.le (env':=[(1,lp 0),(2,lp 1),(6,lp 2),(7,.d (.bool (Vf c)))]) (m':=⟨[bX 32 (up (Q0 c)),bX 32 (up dZC),bxR c (.osl (.loc 3) g1 0 c.crs.length) (.osl (.loc 4) g2 0 c.same.length) (.osl (.loc 5) g 0 c.prg.length),bV 68 16 g1 c.crs.length (rowsOf Q6 (c.crs.map (Jo c.crs))),bV 131 4 g2 c.same.length (rowsOf Qv (c.same.map (Zm c.crs))),bV 78 7 g c.prg.length (rowsOf Q9 (c.prg.map (Vw c.crs)))],[]⟩) ?_ (Qfd c hF g1 g2 g kV.h kW.h))
 rw[show Vf c=(b&&(c.prg.take c.prg.length).all (Zk c.crs)) by rw[Qhp];exact kb.h]
 repeat' (first|exact Tt|exact rfl|exact Qgx _|refine And.intro ?_ ?_)
 all_goals
  intro x hx
  refine⟨?_,rfl⟩
  first
   |rfl
   |rw[Qhp]
theorem Q5q (a b c:Bool):(a&&(b&&c))=((a&&b)&&c):=(Bool.and_assoc a b c).symm
theorem Ix (a b c:Bool):(bif (bif a then b else false) then c else false)=(a&&(b&&c)):=by cases a<;>cases b<;>rfl
theorem Qff (c:Cat)(hF:Yl c)(hQ:c.prg.all Vr=true)(g1:Nat)(b:Bool)(hb:Vf c=(b&&(c.same.all (okY c.crs)&&c.prg.all (Zk c.crs))))(hV:Vf c=false->J1 c=110)(hW:Vf c=true->J1 c=Xp c.crs) :
 Awp Tryz.prog 264 (Fz 7) [(1,lp 0),(2,lp 1),(6,lp 2),(7,.d (.bool b))] ⟨[bX 32 (up (Q0 c)),bX 32 (up dZC),bxR c (.osl (.loc 3) g1 0 c.crs.length) (.d (Xh c.same)) (.d (Qw c.prg)),bV 68 16 g1 c.crs.length (rowsOf Q6 (c.crs.map (Jo c.crs)))],[]⟩ (K7 c):=by
 have hcl:=hF.crs
 have hsl:=hF.same
 unfold K7
 have kV:Kp _:=⟨hV⟩
 have kW:Kp _:=⟨hW⟩
 have kb:Kp _:=⟨hb⟩
 clear hV hW hb
 refine Awp.of_vc hT ?_
 (refine gW ?_;intros)
 refine Q7 hT (S:=RB) (fun z=>([(1,lp 0),(2,lp 1),(6,lp 2),(7,.d (.bool (b&&(c.same.take z.k).all (okY c.crs)))),(14,dV z.k)],⟨[bX 32 (up (Q0 c)),bX 32 (up dZC),bxR c (.osl (.loc 3) g1 0 c.crs.length) (.osl (.loc 4) z.g 0 z.k) (.d (Qw c.prg)),bV 68 16 g1 c.crs.length (rowsOf Q6 (c.crs.map (Jo c.crs))),bV 131 4 z.g z.k (rowsOf Qv ((c.same.take z.k).map (Zm c.crs)))],[]⟩)) (fun z=>z.k<=c.same.length) (fun z=>c.same.length-z.k) ⟨0,0⟩ ?_ ?_ ?_
 .repeat' (first|exact Tt|exact rfl|exact Qgx _|refine And.intro ?_ ?_)
  all_goals first
   |(intro i hi;exact absurd hi (Qhh i))
   |(intro i hi;exact⟨rfl,rfl⟩)
   | (show AV.d (D.bool b)=AV.d (D.bool (b && true))
      rw[Bool.and_true])
 .exact Qh3 _
 rintro⟨k,g⟩ hk
 dsimp only at hk⊢
 by_cases hk2:k<c.same.length
 case pos =>
  have hM1:=Fu c Om (c.same.getD k default).a (c.same.getD k default).x
  have hM2:=Fu c Om (c.same.getD k default).b (c.same.getD k default).y
  have kA:Kp ((b&&(c.same.take (k+1)).all (okY c.crs))=((b&&(c.same.take k).all (okY c.crs))&&((Qx c.crs (c.same.getD k default).a (c.same.getD k default).x).isSome&&(Qx c.crs (c.same.getD k default).b (c.same.getD k default).y).isSome))):=⟨By c.same (okY c.crs) hk2 b⟩
  (refine gW ?_;intros)
  refine hM1.call ?_
  (refine gW ?_;intros)
  refine hM2.call ?_
  (refine gW ?_;intros)
  refine⟨⟨k+1,g+1⟩,by show k+1<=c.same.length;omega,by show c.same.length-(k+1)<c.same.length-k;omega,?_⟩
  dsimp only
  rw[kA.h]
  repeat' (first|exact Tt|exact rfl|exact Qgx _|refine And.intro ?_ ?_)
  all_goals first
   |exact congrArg (fun x=>AV.d (D.bool x)) (Ix _ _ _)
   |(intro x hx;exact⟨Fw Qv c.same (Zm c.crs) hk2 x hx,rfl⟩)
   |(intro x hx;exact⟨rfl,rfl⟩)
 obtain rfl:k=c.same.length:=by omega
 (refine gS ?_;intros)
 refine Sq.go ?_;(refine gS ?_;intros)
 refine Sq.alt (Awp.le (env':=[(1,lp 0),(2,lp 1),(6,lp 2),(7,.d (.bool (b&&(c.same.take c.same.length).all (okY c.crs))))]) (m':=⟨[bX 32 (up (Q0 c)),bX 32 (up dZC),bxR c (.osl (.loc 3) g1 0 c.crs.length) (.osl (.loc 4) g 0 c.same.length) (.d (Qw c.prg)),bV 68 16 g1 c.crs.length (rowsOf Q6 (c.crs.map (Jo c.crs))),bV 131 4 g c.same.length (rowsOf Qv (c.same.map (Zm c.crs)))],[]⟩) ?_ (Qfe c hF hQ g1 g _ (by rw[kb.h,Qhp,Q5q]) kV.h kW.h))
 repeat' (first|exact Tt|exact rfl|exact Qgx _|refine And.intro ?_ ?_)
 all_goals
  intro x hx
  refine⟨?_,rfl⟩
  first
   |rfl
   |rw[Qhp]
theorem Qfc (c:Cat)(hF:Yl c)(hQ:c.prg.all Vr=true)(hV:Vf c=false->J1 c=110)(hW:Vf c=true->J1 c=Xp c.crs) :
 Awp Tryz.prog 264 (Fz 3) [(1,lp 0),(2,lp 1)] ⟨[bX 32 (up (Q0 c)),bX 32 (up dZC)],[]⟩ (K7 c):=by
 have hcl:=hF.crs
 unfold K7
 have kV:Kp _:=⟨hV⟩
 have kW:Kp _:=⟨hW⟩
 clear hV hW
 refine Awp.of_vc hT ?_
 (refine gW ?_;intros)
 refine Q7 hT (S:=RB) (fun z=>([(1,lp 0),(2,lp 1),(6,lp 2),(7,.d (.bool (true&&(c.crs.take z.k).all (okX c.crs)))),(8,dV z.k)],⟨[bX 32 (up (Q0 c)),bX 32 (up dZC),bxR c (.osl (.loc 3) z.g 0 z.k) (.d (Xh c.same)) (.d (Qw c.prg)),bV 68 16 z.g z.k (rowsOf Q6 ((c.crs.take z.k).map (Jo c.crs)))],[]⟩)) (fun z=>z.k<=c.crs.length) (fun z=>c.crs.length-z.k) ⟨0,0⟩ ?_ ?_ ?_
 .repeat' (first|exact Tt|exact rfl|exact Qgx _|refine And.intro ?_ ?_)
  all_goals first
   |(intro i hi;exact absurd hi (Qhh i))
   |(intro i hi;exact⟨rfl,rfl⟩)
 .exact Qh3 _
 rintro⟨k,g⟩ hk
 dsimp only at hk⊢
 by_cases hk2:k<c.crs.length
 case pos =>
  obtain⟨hc1,hc2⟩:=hF.cnt _ (Qe hk2)
  have hM1:=Q3w c Om (c.crs.getD k default).need hc1
  have hM2:=Q3w c Om (c.crs.getD k default).bar hc2
  have kA:Kp ((true&&(c.crs.take (k+1)).all (okX c.crs))=((true&&(c.crs.take k).all (okX c.crs))&&(okN c.crs (c.crs.getD k default).need&&okN c.crs (c.crs.getD k default).bar))):=⟨By c.crs (okX c.crs) hk2 true⟩
  clear hc1 hc2
  (refine gW ?_;intros)
  refine hM1.call ?_
  (refine gW ?_;intros)
  refine hM2.call ?_
  (refine gW ?_;intros)
  refine⟨⟨k+1,g+1⟩,by show k+1<=c.crs.length;omega,by show c.crs.length-(k+1)<c.crs.length-k;omega,?_⟩
  dsimp only
  rw[kA.h]
  repeat' (first|exact Tt|exact rfl|exact Qgx _|refine And.intro ?_ ?_)
  all_goals first
   |exact congrArg (fun x=>AV.d (D.bool x)) (Ix _ _ _)
   |(intro x hx;exact⟨Fw Q6 c.crs (Jo c.crs) hk2 x hx,rfl⟩)
   |(intro x hx;exact⟨rfl,rfl⟩)
 obtain rfl:k=c.crs.length:=by omega
 (refine gS ?_;intros)
 refine Sq.go ?_;(refine gS ?_;intros)
 refine Sq.alt (Awp.le (env':=[(1,lp 0),(2,lp 1),(6,lp 2),(7,.d (.bool (true&&(c.crs.take c.crs.length).all (okX c.crs))))]) (m':=⟨[bX 32 (up (Q0 c)),bX 32 (up dZC),bxR c (.osl (.loc 3) g 0 c.crs.length) (.d (Xh c.same)) (.d (Qw c.prg)),bV 68 16 g c.crs.length (rowsOf Q6 (c.crs.map (Jo c.crs)))],[]⟩) ?_ (Qff c hF hQ g _ (by rw[Qhp];rfl) kV.h kW.h))
 repeat' (first|exact Tt|exact rfl|exact Qgx _|refine And.intro ?_ ?_)
 all_goals
  intro x hx
  refine⟨?_,rfl⟩
  first
   |rfl
   |rw[Qhp]
theorem Qds (c:Cat)(hF:Yl c)(hR:Mx c):Pure Tryz.prog 82 [.agg (Q0 c)] [.agg (Q0 (Qj c)),di (J1 c)]:=by
 have hTw:=Qdt c hF hR
 have hpl:=hF.prg
 refine V3 hT (T:=tab) (N:=264) (rs:=[.cell 2 32,.tmp 3]) Tryz.func82 rfl rfl rfl Kr rfl ?_
 (refine gW ?_;intros)
 refine Q7 hT (S:=Nat) (fun k=>([(1,lp 0),(2,lp 1),(4,dV k)],⟨[bX 32 (up (Q0 c)),bX 32 (up dZC)],[]⟩)) (fun k=>k<=c.prg.length/\(c.prg.take k).all Vr=true) (fun k=>c.prg.length-k) 0 ?_ ?_ ?_
 .repeat' (first|exact Tt|exact rfl|exact Qgx _|refine And.intro ?_ ?_)
 .exact⟨Qh3 _,rfl⟩
 rintro k ⟨hk,ht⟩
 have kt:Kp _:=⟨ht⟩
 clear ht
 dsimp only at hk⊢
 by_cases hk2:k<c.prg.length
 case pos =>
  obtain⟨hrl,hrq⟩:=hF.reqs _ (Qe hk2)
  have kR:Kp _:=⟨fun(x:Req) h=>hrq x h⟩
  clear hrq
  have kk:Kp (∀p,p=c.prg.getD k default->Vr p=true->(c.prg.take (k+1)).all Vr=true):=⟨fun p hp h=>by rw[Js hk2,Qii,kt.h,<-hp,Qi5,h];rfl⟩
  have ke:Kp (∀q,q∈(c.prg.getD k default).reqs->Vs q=false->J1 c=1):=⟨fun q hq h=>by
   have:c.prg.all Vr=false:=List.all_eq_false.2 ⟨_,Qe hk2,by
    rw[Vr,Bool.not_eq_true]
    exact List.all_eq_false.2 ⟨q,hq,by rw[h];exact Qhl⟩⟩
   rw[J1,if_neg (by rw[this];exact Qhl)]⟩
  (refine gW ?_;intros)
  refine Q7 hT (S:=Nat) (fun j=>([(1,lp 0),(2,lp 1),(4,dV k),(5,dV j)],⟨[bX 32 (up (Q0 c)),bX 32 (up dZC)],[]⟩)) (fun j=>j<=(c.prg.getD k default).reqs.length/\((c.prg.getD k default).reqs.take j).all Vs=true) (fun j=>(c.prg.getD k default).reqs.length-j) 0 ?_ ?_ ?_
  .repeat' (first|exact Tt|exact rfl|exact Qgx _|refine And.intro ?_ ?_)
  .exact⟨Qh3 _,rfl⟩
  rintro j ⟨hj,hu⟩
  have ku:Kp _:=⟨hu⟩
  clear hu
  dsimp only at hj⊢
  by_cases hj2:j<(c.prg.getD k default).reqs.length
  case pos =>
   have hqm:=Qe hj2
   have kuu:Kp (Vs ((c.prg.getD k default).reqs.getD j default)=true->((c.prg.getD k default).reqs.take (j+1)).all Vs=true):=⟨fun h=>by rw[Js hj2,Qii,ku.h,Qi5,h];rfl⟩
   have hq2:=(kR.h _ hqm).2
   have hq3:=(kR.h _ hqm).1
   unfold Qg at hq2
   by_cases hq:((c.prg.getD k default).reqs.getD j default).names.length=((c.prg.getD k default).reqs.getD j default).fr.length
   case pos =>
    have hq1:=kuu.h (Qh8 hq)
    (refine gW ?_;intros)
    refine⟨j+1,⟨by show j+1<=(c.prg.getD k default).reqs.length;omega,hq1⟩,by show(c.prg.getD k default).reqs.length-(j+1)<(c.prg.getD k default).reqs.length-j;omega,?_⟩
    repeat' (first|exact Tt|exact rfl|exact Qgx _|refine And.intro ?_ ?_)
   case neg =>
    have he:=ke.h _ hqm (Qh0 hq)
    have hv:Qj c=Rc:=by rw[Qj,if_neg (by rw[he];decide)]
    rw[he,hv]
    clear he hv
    (refine gW ?_;intros)
    refine⟨?_,.d,Tt⟩
    conv=>whnf
    exact .eq (y:=.agg [.nils,.nils,.nils,.nils,.nils,.nils,.nils]) (.inr ⟨rfl,rfl,rfl,rfl,rfl,rfl,rfl,Tt⟩)
  case neg =>
   have hl:Vr (c.prg.getD k default)=true:=by
    have:=ku.h
    rw[Qhn Om]at this
    exact this
   have hkk:=kk.h _ rfl hl
   (refine gW ?_;intros)
   refine⟨k+1,⟨by show k+1<=c.prg.length;omega,hkk⟩,by show c.prg.length-(k+1)<c.prg.length-k;omega,?_⟩
   repeat' (first|exact Tt|exact rfl|exact Qgx _|refine And.intro ?_ ?_)
 have hL:c.prg.all Vr=true:=by
  have:=kt.h
  rwa [Qhn Om]at this
 clear kt
 obtain rfl:k=c.prg.length:=by omega
 cases hu:Hf c with
 | false =>
   have he:J1 c=111:=by rw[J1,if_pos hL,if_neg (by rw[hu];exact Qhl)]
   have hv:Qj c=Rc:=by rw[Qj,if_neg (by rw[he];decide)]
   rw[hu]at hTw
   rw[he,hv]
   clear he hv hu hL
   (refine gW ?_;intros)
   refine hTw.call ?_
   (refine gW ?_;intros)
   refine⟨?_,.d,Tt⟩
   conv=>whnf
   exact .eq (y:=.agg [.nils,.nils,.nils,.nils,.nils,.nils,.nils]) (.inr ⟨rfl,rfl,rfl,rfl,rfl,rfl,rfl,Tt⟩)
 | true =>
   have hV:Vf c=false->J1 c=110:=fun h=>by rw[J1,if_pos hL,if_pos hu,if_neg (by rw[h];exact Qhl)]
   have hW:Vf c=true->J1 c=Xp c.crs:=fun h=>by rw[J1,if_pos hL,if_pos hu,if_pos h];rfl
   rw[hu]at hTw
   have kV:Kp _:=⟨hV⟩
   have kW:Kp _:=⟨hW⟩
   have kL:Kp _:=⟨hL⟩
   clear hV hW hu hL
   (refine gS ?_;intros)
   refine Sq.go ?_;(refine gS ?_;intros)
   refine Sq.go ?_;(refine gS ?_;intros)
   refine hTw.call ?_
   (refine gS ?_;intros)
   refine Sq.go ?_;(refine gS ?_;intros)
   refine Sq.alt (Awp.le (env':=[(1,lp 0),(2,lp 1)]) (m':=⟨[bX 32 (up (Q0 c)),bX 32 (up dZC)],[]⟩) ?_ (Qfc c hF kL.h kV.h kW.h))
   repeat' (first|exact Tt|exact rfl|exact Qgx _|refine And.intro ?_ ?_)
end Go.Proofs.YtmlhghddfobmmaaGreatDoor
