import Derived.Test.YtmlhghddfobmmaaGreatDoorInrB
import Derived.Test.YtmlhghddfobmmaaGreatDoorInsP
namespace Go.Proofs.YtmlhghddfobmmaaGreatDoor
set_option linter.unusedSimpArgs false
set_option linter.unusedVariables false
open Go Go.Ab
set_option maxRecDepth 100000
set_option maxHeartbeats 0
noncomputable instance:DecidableEq Bok:=fun _ _=>Classical.propDecidable _
theorem Q6c (a b:Bok):a=b↔a.crs=b.crs/\a.prg=b.prg/\a.sys=b.sys:=by
 cases a;cases b
 simp only[Bok.mk.injEq]
def Y8 (b:Bok):Cat:=⟨b.crs,[],b.prg,[],[],[],[]⟩
structure Lz (b:Bok):Prop where
 crs:Qg b.crs
 wcrs:∀x∈b.crs,Yz x
 prg:Qg b.prg
 wprg:∀x∈b.prg,Bh x
 sys:Qg b.sys
 wsys:∀x∈b.sys,W0 x
theorem Lz.cat {b:Bok}(h:Lz b):Uh (Y8 b):=⟨h.crs,h.wcrs,Qh3 _,h.prg,h.wprg,Qh3 _,Qh3 _,Qh3 _,Qh3 _⟩
theorem Q54 (b:Bok):W0 (Qq (Y8 b)):=⟨⟨Qh3 _,fun x h=>by cases h⟩,⟨Qh3 _,fun x h=>by cases h⟩,Qh3 _,Qh3 _⟩
theorem Ae (a b:Bok)(ha:Lz a)(hb:Lz b):Pure Tryz.prog 17 [.agg (Q8 a),.agg (Q8 b)] [.bool (decide (a=b))]:=by
 have l1:a.sys.length<=9223372036854775807:=ha.sys
 have m1:b.sys.length<=9223372036854775807:=hb.sys
 have hS:=Q3x (Y8 a) (Y8 b) ha.cat hb.cat (Q54 a) (Q54 b)
 have kc:Kp _:=⟨ha.wsys⟩
 have kc':Kp _:=⟨hb.wsys⟩
 clear ha hb
 have ki:Kp (a=b↔a.sys.drop 0=b.sys.drop 0/\Y8 a=Y8 b):=⟨by
  rw[Q6c,T3]
  simp only[Y8,true_and,and_true,List.drop_zero]
  exact⟨fun⟨x,y,z⟩=>⟨z,x,y⟩,fun⟨z,x,y⟩=>⟨x,y,z⟩⟩⟩
 refine Q4 hT (T:=tab) (N:=43) (rs:=[.tmp 4]) Tryz.func17 rfl rfl rfl Kr rfl ?_
 by_cases q1:a.sys.length=b.sys.length
 case neg =>
  rw[Qh0 (fun e=>q1 (by rw[e]))]
  (refine gW ?_;intros)
  exact⟨rfl,Tt⟩
 (refine gW ?_;intros)
 refine Q7 hT (S:=Nat) (fun k=>([(2,lp 0),(3,lp 1),(5,dV k)],⟨[bX 26 (up (Q8 a)),bX 26 (up (Q8 b))],[]⟩)) (fun k=>k<=a.sys.length/\(a=b↔a.sys.drop k=b.sys.drop k/\Y8 a=Y8 b)) (fun k=>a.sys.length-k) 0 ?_ ?_ ?_
 .repeat' (first|exact Tt|exact rfl|exact Qgx _|refine And.intro ?_ ?_)
 .exact⟨Qh3 _,ki.h⟩
 rintro k ⟨hk,hc⟩
 have kk:Kp _:=⟨hc⟩
 clear hc
 by_cases hk2:k<a.sys.length
 case pos =>
  have hkb:k<b.sys.length:=by omega
  have hI:=Ah _ _ (kc.h _ (Qe hk2)) (kc'.h _ (Qe hkb))
  by_cases e:a.sys.getD k default=b.sys.getD k default
  case pos =>
   have kn:Kp (a=b↔a.sys.drop (k+1)=b.sys.drop (k+1)/\Y8 a=Y8 b):=⟨by
    rw[kk.h,Qc hk2,Qc hkb,e]
    simp⟩
   rw[Qh8 e]at hI
   clear e
   (refine gW ?_;intros)
   refine qC hI ?_
   (refine gW ?_;intros)
   refine⟨k+1,⟨by show k+1<=a.sys.length;omega,kn.h⟩,by show a.sys.length-(k+1)<a.sys.length-k;omega,?_⟩
   repeat' (first|exact Tt|exact rfl|exact Qgx _|refine And.intro ?_ ?_)
  case neg =>
   rw[Qh0 (fun e2=>e (by rw[e2]))]
   rw[Qh0 e]at hI
   clear e
   (refine gW ?_;intros)
   refine qC hI ?_
   (refine gW ?_;intros)
   exact⟨rfl,Tt⟩
 rw[show decide (a=b)=decide (Y8 a=Y8 b) from decide_eq_decide.2 (by rw[kk.h,Qr Om,Qr Om];simp)]
 generalize decide (Y8 a=Y8 b)=r at hS⊢
 clear kk ki
 (refine gW ?_;intros)
 refine(Wx (ds:=[.agg [J2 a.crs,.nils,Qw a.prg,.nils,.nils,.nils,.nils],.agg [J2 b.crs,.nils,Qw b.prg,.nils,.nils,.nils,.nils]]) hS ⟨.inr ⟨⟨rfl,rfl,fun i hi=>rfl⟩,rfl,⟨rfl,rfl,fun i hi=>rfl⟩,rfl,rfl,rfl,rfl,Tt⟩,.inr ⟨⟨rfl,rfl,fun i hi=>rfl⟩,rfl,⟨rfl,rfl,fun i hi=>rfl⟩,rfl,rfl,rfl,rfl,Tt⟩,Tt⟩).call ?_
 (refine gW ?_;intros)
 exact⟨rfl,Tt⟩
theorem Q7r (l:List Int)(x:Int):(dst (l++[x])).length=(dst l).length+(if x∈l then 0 else 1):=by
 by_cases h:x∈l
 .rw[if_pos h,Nat.add_zero]
  refine U7 (Wy _) (Wy _) fun y=>?_
  rw[Xy,Xy,Qi7,Qi9]
  exact⟨fun h1=>h1.elim id fun e=>by rw[e];exact h,.inl⟩
 .rw[if_neg h]
  show _=(x::dst l).length
  refine U7 (Wy _) (List.nodup_cons.2 ⟨fun h1=>h (Xy.1 h1),Wy _⟩) fun y=>?_
  rw[Xy,Qi7,Qi9,Qho,Xy]
  exact or_comm
theorem Ot (l:List Int):(dst l).length<=l.length:=(Wy l).length_le_of_subset fun _ h=>Xy.1 h
theorem Qc6 (a b:List Crs):Jh (a++b)=Jh a++Jh b:=Qim
theorem Qc4 (b c:List Crs):Z6 b<Z6 (b++c)↔∃x∈c,x.number ∉ Jh b:=by
 unfold Z6
 rw[Qc6]
 constructor
 .intro h
  by_cases hx:∃x∈c,x.number ∉ Jh b
  .exact hx
  .exfalso
   have:(dst (Jh b++Jh c)).length=(dst (Jh b)).length:=by
    refine U7 (Wy _) (Wy _) fun y=>?_
    rw[Xy,Xy,Qi7]
    refine⟨fun h1=>h1.elim id fun h2=>?_,.inl⟩
    obtain⟨x,hxc,rfl⟩:=Qhw.1 h2
    exact Classical.byContradiction fun h3=>hx ⟨x,hxc,h3⟩
   omega
 .rintro⟨x,hx,hn⟩
  have:((x.number::dst (Jh b)):List Int).length<=(dst (Jh b++Jh c)).length :=
   (List.nodup_cons.2 ⟨fun h1=>hn (Xy.1 h1),Wy _⟩).length_le_of_subset fun y hy=>by
    rw[Xy,Qi7]
    rcases Qho.1 hy with rfl|hy
    .exact .inr (Qhw.2 ⟨x,hx,rfl⟩)
    .exact .inl (Xy.1 hy)
  rw[Qhs]at this
  omega
noncomputable def K4 (n:Nat):Code:=Fb n (Tryz.f16.body.getD .skip)
theorem Q3s (x:Bok)(g:Nat)(fs:List Fct)(hf:fs.length<=1000) :
 Awp Tryz.prog 276 (K4 14) [(8,lp 3),(14,lp 8),(15,.osl (.loc 9) g 0 fs.length)]
  ⟨[none,none,none,bX 26 (up [.nils,.nils,.nils]),none,none,none,none,bX 26 (up (Q8 x)),bV 94 8 g fs.length (rowsOf Qf fs)],[]⟩ (V9 x fs):=by
 unfold V9
 refine Awp.frz [9] 15 (Zd fs) (Ud fs rfl rfl) ?_
 refine Awp.of_vc hT ?_
 (refine gW ?_;intros)
 refine⟨?_,.d,.d,Tt⟩
 conv=>whnf
 exact .d
theorem Q3t (x:Bok)(m:Bool)(kn:Int)(g:Nat)(fs:List Fct)(hf:fs.length<=900)(hx:x.crs.length<=1000) :
 Awp Tryz.prog 276 (K4 13) [(3,dV kn),(8,lp 3),(14,lp 8),(15,.osl (.loc 9) g 0 fs.length),(16,.d (.bool m))]
  ⟨[none,none,none,bX 26 (up [.nils,.nils,.nils]),none,none,none,none,bX 26 (up (Q8 x)),bV 94 8 g fs.length (rowsOf Qf fs)],[]⟩ (V9 x (if m=true then Zu 0 1024 kn fs (12,0,0,(Z6 x.crs:Int)) else fs)):=by
 refine Awp.of_vc hT ?_
 unfold V9
 cases m
 case false =>
  (refine gS ?_;intros)
  refine Sq.go ?_;(refine gS ?_;intros)
  refine Sq.alt (Awp.le (env':=[(8,lp 3),(14,lp 8),(15,.osl (.loc 9) g 0 fs.length)]) (m':=⟨[none,none,none,bX 26 (up [.nils,.nils,.nils]),none,none,none,none,bX 26 (up (Q8 x)),bV 94 8 g fs.length (rowsOf Qf fs)],[]⟩) ?_ (Q3s x g fs Om))
  repeat' (first|exact Tt|exact rfl|exact Qgx _|refine And.intro ?_ ?_)
  all_goals (intro i hi;exact⟨rfl,rfl⟩)
 case true =>
  have hnl:(Jh x.crs).length=x.crs.length:=Qhb ..
  (refine gW ?_;intros)
  refine Q7 hT (S:=Nat) (fun k=>([(3,dV kn),(8,lp 3),(14,lp 8),(15,.osl (.loc 9) g 0 fs.length),(23,dV ((dst ((Jh x.crs).take k)).length:Nat)),(24,dV k)],⟨[none,none,none,bX 26 (up [.nils,.nils,.nils]),none,none,none,none,bX 26 (up (Q8 x)),bV 94 8 g fs.length (rowsOf Qf fs)],[]⟩)) (fun k=>k<=x.crs.length) (fun k=>x.crs.length-k) 0 ?_ ?_ ?_
  .repeat' (first|exact Tt|exact rfl|exact Qgx _|refine And.intro ?_ ?_)
   all_goals (intro i hi;exact⟨rfl,rfl⟩)
  .exact Qh3 _
  intro k hk
  dsimp only at hk⊢
  by_cases hk2:k<x.crs.length
  case pos =>
   have hH:Pure Tryz.prog 85 [.sl 16 k fun i=>Q6 (x.crs.getD i default),di (x.crs.getD k default).number] [.bool (decide ((x.crs.getD k default).number∈(Jh x.crs).take k))]:=by
    have h:=Q3q (x.crs.take k) (by rw[Qhr];omega) (x.crs.getD k default).number
    rw[show Jh (x.crs.take k)=(Jh x.crs).take k from List.map_take]at h
    refine Wx h ⟨⟨rfl,by rw[Qhr];omega,fun i hi=>?_⟩,rfl,Tt⟩
    simp only[Qha]
    rw[Qhr]at hi
    rw[Qid,if_pos Om]
   have kd:Kp ((dst ((Jh x.crs).take (k+1))).length=(dst ((Jh x.crs).take k)).length+(if(x.crs.getD k default).number∈(Jh x.crs).take k then 0 else 1)):=⟨by
    rw[Js Om,Q7r]
    have e:(Jh x.crs).getD k default=(x.crs.getD k default).number:=by
     simp only[Jh,Qha,Qhe,Qgy hk2]
     rfl
    rw[e]⟩
   have hdl:=Ot ((Jh x.crs).take k)
   rw[Qhr]at hdl
   generalize (dst ((Jh x.crs).take k)).length=d at hdl kd⊢
   by_cases hm:(x.crs.getD k default).number∈(Jh x.crs).take k
   case pos =>
    rw[if_pos hm,Nat.add_zero]at kd
    rw[Qh8 hm]at hH
    clear hm
    (refine gW ?_;intros)
    refine qC hH ?_
    (refine gW ?_;intros)
    refine⟨k+1,by show k+1<=x.crs.length;omega,by show x.crs.length-(k+1)<x.crs.length-k;omega,?_⟩
    dsimp only
    rw[kd.h]
    repeat' (first|exact Tt|exact rfl|exact Qgx _|refine And.intro ?_ ?_)
    all_goals (intro i hi;exact⟨rfl,rfl⟩)
   case neg =>
    rw[if_neg hm]at kd
    rw[Qh0 hm]at hH
    clear hm
    (refine gW ?_;intros)
    refine qC hH ?_
    (refine gW ?_;intros)
    refine⟨k+1,by show k+1<=x.crs.length;omega,by show x.crs.length-(k+1)<x.crs.length-k;omega,?_⟩
    dsimp only
    rw[kd.h]
    repeat' (first|exact Tt|exact rfl|exact Qgx _|refine And.intro ?_ ?_)
    all_goals first
     |(intro i hi;exact⟨rfl,rfl⟩)
  obtain rfl:k=x.crs.length:=by omega
  have en:(dst ((Jh x.crs).take x.crs.length)).length=Z6 x.crs:=by
   rw[Qhn (Qhz hnl)]
   unfold Z6
   rfl
  rw[en]
  have hnx:Z6 x.crs<=1000:=by
   unfold Z6
   have:=Ot (Jh x.crs)
   omega
  clear en hnl
  generalize Z6 x.crs=nn at hnx⊢
  obtain⟨es,hes⟩:∃es,Zu 0 1024 kn fs (12,0,0,(nn:Int))=es:=⟨_,rfl⟩
  have hel:es.length=fs.length+1:=by rw[<-hes];exact Bu ..
  rw[if_pos rfl,hes]
  have kes:Kp _:=⟨hes⟩
  clear hes
  (refine gS ?_;intros)
  refine Sq.go ?_;(refine gS ?_;intros)
  refine Sq.go ?_;(refine gS ?_;intros)
  refine Sq.alt (Awp.le (env':=[(8,lp 3),(14,lp 8),(15,.osl (.loc 9) (g+1) 0 es.length)]) (m':=⟨[none,none,none,bX 26 (up [.nils,.nils,.nils]),none,none,none,none,bX 26 (up (Q8 x)),bV 94 8 (g+1) es.length (rowsOf Qf es)],[]⟩) ?_ (Q3s x (g+1) es Om))
  repeat' (first|exact Tt|exact rfl|exact Qgx _|refine And.intro ?_ ?_)
  all_goals first
   |(rw[hel];done)
   |(rw[hel];exact rfl)
   |(rw[hel];exact Qgx _)
   | (intro i hi
      refine⟨?_,rfl⟩
      rw[hel]at hi
      rw[<-kes.h]
      exact Yi Qf fs ⟨12,0,0,(nn:Int),0,1024,kn,fs.length⟩ rfl i hi)
theorem Qez (b:Bok)(c:Cat)(cs:List Crs)(ps:List Prg)(ss:List Sys)(m:Bool)(fr til kn:Int)(g g1 g2 g3:Nat)(fs:List Fct)(hf:fs.length<=800)(h1:cs.length<=1000)(h3:ss.length<=1000)(hs:¬ 0<c.classes.length+c.fees.length+c.honours.length+c.clauses.length) :
 Awp Tryz.prog 276 (K4 12) [(3,dV kn),(5,lp 1),(6,lp 2),(8,lp 3),(14,lp 8),(15,.osl (.loc 9) g 0 fs.length),(16,.d (.bool m))] ⟨[bX 26 (up (Q8 b)),bX 32 (up (Q0 c)),bX 34 (up [di fr,di til]),bX 26 (up [.nils,.nils,.nils]),bX 32 (up (Q0 (Qj c))),bV 68 16 g1 cs.length (rowsOf Q6 cs),bV 78 7 g2 ps.length (rowsOf Q9 ps),bV 83 4 g3 ss.length (rowsOf Qa ss),bX 26 [.osl (.loc 5) g1 0 cs.length,.osl (.loc 6) g2 0 ps.length,.osl (.loc 7) g3 0 ss.length],bV 94 8 g fs.length (rowsOf Qf fs)],[]⟩ (V9 ⟨cs,ps,ss⟩ (if m=true then Zu 0 1024 kn fs (12,0,0,(Z6 cs:Int)) else fs)):=by
 unfold V9
 refine Awp.of_vc hT ?_
 (refine gS ?_;intros)
 refine Sq.go ?_;(refine gS ?_;intros)
 obtain⟨x,hx⟩:∃x:Bok,(⟨cs,ps,ss⟩:Bok)=x:=⟨_,rfl⟩
 refine Sq.alt (Awp.frzB [5,6,7] 8 (up (Q8 ⟨cs,ps,ss⟩)) rfl rfl ⟨.inr ⟨_,rfl,Ud cs rfl rfl⟩,.inr ⟨_,rfl,Ud ps rfl rfl⟩,.inr ⟨_,rfl,Ud ss rfl rfl⟩,Tt⟩ (Awp.le (env':=[(3,dV kn),(8,lp 3),(14,lp 8),(15,.osl (.loc 9) g 0 fs.length),(16,.d (.bool m))]) (m':=⟨[none,none,none,bX 26 (up [.nils,.nils,.nils]),none,none,none,none,bX 26 (up (Q8 ⟨cs,ps,ss⟩)),bV 94 8 g fs.length (rowsOf Qf fs)],[]⟩) ?_ (Q3t ⟨cs,ps,ss⟩ m kn g fs Om h1)))
 repeat' (first|exact Tt|exact rfl|exact Qgx _|refine And.intro ?_ ?_)
 all_goals (intro i hi;exact⟨rfl,rfl⟩)
theorem Qf0 (b:Bok)(c:Cat)(cs:List Crs)(ps:List Prg)(ss:List Sys)(m:Bool)(fr til kn:Int)(g g1 g2 g3:Nat)(fs:List Fct)(hf:fs.length<=800)(h1:cs.length<=1000)(h3:ss.length<=1000)(hs:0<c.classes.length+c.fees.length+c.honours.length+c.clauses.length)(hS:c.classes.length+c.fees.length+c.honours.length+c.clauses.length<=9223372036854775807) :
 Awp Tryz.prog 276 (K4 12) [(3,dV kn),(5,lp 1),(6,lp 2),(8,lp 3),(14,lp 8),(15,.osl (.loc 9) g 0 fs.length),(16,.d (.bool m))] ⟨[bX 26 (up (Q8 b)),bX 32 (up (Q0 c)),bX 34 (up [di fr,di til]),bX 26 (up [.nils,.nils,.nils]),bX 32 (up (Q0 (Qj c))),bV 68 16 g1 cs.length (rowsOf Q6 cs),bV 78 7 g2 ps.length (rowsOf Q9 ps),bV 83 4 g3 ss.length (rowsOf Qa ss),bX 26 [.osl (.loc 5) g1 0 cs.length,.osl (.loc 6) g2 0 ps.length,.osl (.loc 7) g3 0 ss.length],bV 94 8 g fs.length (rowsOf Qf fs)],[]⟩ (V9 ⟨cs,ps,ss++[Qq c]⟩ (if m=true then Zu 0 1024 kn (Zu fr til kn fs (4,0,0,(ss.length:Int))) (12,0,0,(Z6 cs:Int)) else Zu fr til kn fs (4,0,0,(ss.length:Int)))):=by
 have hY:=Fm c
 unfold V9
 refine Awp.of_vc hT ?_
 obtain⟨es,hes⟩:∃es,Zu fr til kn fs (4,0,0,(ss.length:Int))=es:=⟨_,rfl⟩
 have hel:es.length=fs.length+1:=by rw[<-hes];exact Bu ..
 rw[hes]
 have kes:Kp _:=⟨hes⟩
 clear hes
 (refine gS ?_;intros)
 refine Sq.go ?_;(refine gS ?_;intros)
 refine Sq.alt (Awp.le (env':=[(3,dV kn),(5,lp 1),(6,lp 2),(8,lp 3),(14,lp 8),(15,.osl (.loc 9) (g+1) 0 es.length),(16,.d (.bool m))]) (m':=⟨[bX 26 (up (Q8 b)),bX 32 (up (Q0 c)),bX 34 (up [di fr,di til]),bX 26 (up [.nils,.nils,.nils]),bX 32 (up (Q0 (Qj c))),bV 68 16 g1 cs.length (rowsOf Q6 cs),bV 78 7 g2 ps.length (rowsOf Q9 ps),bV 83 4 g3 ss.length (rowsOf Qa ss),bX 26 [.osl (.loc 5) g1 0 cs.length,.osl (.loc 6) g2 0 ps.length,.osl (.loc 7) g3 0 ss.length],bV 94 8 (g+1) es.length (rowsOf Qf es)],[]⟩) ?_ (Awp.effsF (m:=⟨[bX 26 (up (Q8 b)),bX 32 (up (Q0 c)),bX 34 (up [di fr,di til]),bX 26 (up [.nils,.nils,.nils]),bX 32 (up (Q0 (Qj c))),bV 68 16 g1 cs.length (rowsOf Q6 cs),bV 78 7 g2 ps.length (rowsOf Q9 ps),bV 83 4 g3 ss.length (rowsOf Qa ss),bX 26 [.osl (.loc 5) g1 0 cs.length,.osl (.loc 6) g2 0 ps.length,.osl (.loc 7) g3 0 ss.length],bV 94 8 (g+1) es.length (rowsOf Qf es)],[]⟩) hT Kr Kr Kr ⟨[bX 26 (up (Q8 b)),bX 32 (up (Q0 c)),bX 34 (up [di fr,di til]),bX 26 (up [.nils,.nils,.nils]),bX 32 (up (Q0 (Qj c))),bV 68 16 g1 cs.length (rowsOf Q6 cs),bV 78 7 g2 ps.length (rowsOf Q9 ps),some .opq,bX 26 [.osl (.loc 5) g1 0 cs.length,.osl (.loc 6) g2 0 ps.length,.junk],bV 94 8 (g+1) es.length (rowsOf Qf es)],[]⟩ 10 0
  [⟨1,.osl (.loc 7) g3 0 ss.length,⟨[some (.box 26 (up (Q8 b))),some (.box 32 (up (Q0 c))),some (.box 34 (up [.int .i64 fr,.int .i64 til])),some (.box 26 (up [.nils,.nils,.nils])),some (.box 32 (up (Q0 (Qj c)))),some (.vec 68 16 g1 cs.length (rowsOf Q6 cs)),some (.vec 78 7 g2 ps.length (rowsOf Q9 ps)),some (.vec 83 4 g3 ss.length (rowsOf Qa ss)),some (.box 26 [.osl (.loc 5) g1 0 cs.length,.osl (.loc 6) g2 0 ps.length,.osl (.loc 7) g3 0 ss.length]),some (.vec 94 8 (g + 1) es.length (rowsOf Qf es))],[]⟩,[]⟩,
   ⟨5,.osl (.loc 7) (g3+1) 0 (ss.length+1),⟨[bX 26 (up (Q8 b)),bX 32 (up (Q0 c)),bX 34 (up [di fr,di til]),bX 26 (up [.nils,.nils,.nils]),bX 32 (up (Q0 (Qj c))),bV 68 16 g1 cs.length (rowsOf Q6 cs),bV 78 7 g2 ps.length (rowsOf Q9 ps),bV 83 4 (g3+1) (ss.length+1) (Je ss.length (rowsOf Qa ss) (fun i=>up (Xf [Qa (Qq c)] i))),bX 26 [.osl (.loc 5) g1 0 cs.length,.osl (.loc 6) g2 0 ps.length,.osl (.loc 7) g3 0 ss.length],bV 94 8 (g+1) es.length (rowsOf Qf es)],[]⟩,[1]⟩,
   ⟨7,.junk,⟨[bX 26 (up (Q8 b)),bX 32 (up (Q0 c)),bX 34 (up [di fr,di til]),bX 26 (up [.nils,.nils,.nils]),bX 32 (up (Q0 (Qj c))),bV 68 16 g1 cs.length (rowsOf Q6 cs),bV 78 7 g2 ps.length (rowsOf Q9 ps),bV 83 4 (g3+1) (ss.length+1) (Je ss.length (rowsOf Qa ss) (fun i=>up (Xf [Qa (Qq c)] i))),bX 26 [.osl (.loc 5) g1 0 cs.length,.osl (.loc 6) g2 0 ps.length,.osl (.loc 7) (g3+1) 0 (ss.length+1)],bV 94 8 (g+1) es.length (rowsOf Qf es)],[]⟩,[5]⟩]
  Kr rfl rfl (Qt.of ⟨.inl rfl,.inl rfl,.inl rfl,.inl rfl,.inl rfl,.inl rfl,.inl rfl,.inr ⟨_,rfl,Qo.opq⟩,.inr ⟨_,rfl,Qo.box ⟨rfl,rfl,Tt⟩⟩,.inl rfl,Tt⟩ Tt) ⟨Qt.of ⟨.inl rfl,.inl rfl,.inl rfl,.inl rfl,.inl rfl,.inl rfl,.inl rfl,.inr ⟨_,rfl,Qo.opq⟩,.inr ⟨_,rfl,Qo.box ⟨rfl,rfl,Tt⟩⟩,.inl rfl,Tt⟩ Tt,Qt.of ⟨.inl rfl,.inl rfl,.inl rfl,.inl rfl,.inl rfl,.inl rfl,.inl rfl,.inr ⟨_,rfl,Qo.opq⟩,.inr ⟨_,rfl,Qo.box ⟨rfl,rfl,Tt⟩⟩,.inl rfl,Tt⟩ Tt,Qt.of ⟨.inl rfl,.inl rfl,.inl rfl,.inl rfl,.inl rfl,.inl rfl,.inl rfl,.inr ⟨_,rfl,Qo.opq⟩,.inr ⟨_,rfl,Qo.box ⟨rfl,rfl,Tt⟩⟩,.inl rfl,Tt⟩ Tt,Tt⟩ ?_))
 .repeat' (first|exact Tt|exact rfl|exact Qgx _|refine And.intro ?_ ?_)
  all_goals first
   |(intro i hi;exact⟨rfl,rfl⟩)
   |(rw[hel];done)
   |(rw[hel];exact rfl)
   |(rw[hel];exact Qgx _)
   | (intro i hi
      refine⟨?_,rfl⟩
      rw[hel]at hi
      rw[<-kes.h]
      exact Yi Qf fs ⟨4,0,0,(ss.length:Int),fr,til,kn,fs.length⟩ rfl i hi)
 conv=>whnf
 (refine gS ?_;intros)
 refine qC hY ?_
 (refine gS ?_;intros)
 refine⟨?_,?_,?_,?_⟩
 .conv=>whnf
  (refine gS ?_;intros)
  exact⟨rfl,rfl⟩
 .conv=>whnf
  (refine gS ?_;intros)
  exact⟨rfl,rfl⟩
 .conv=>whnf
  (refine gS ?_;intros)
  exact⟨Tt,rfl⟩
 conv=>whnf
 (refine gS ?_;intros)
 have hq:(ss++[Qq c]).length=ss.length+1:=by rw[Qhc];rfl
 refine Sq.alt (Awp.frzB [5,6,7] 8 (up (Q8 ⟨cs,ps,ss++[Qq c]⟩)) rfl rfl ⟨.inr ⟨_,rfl,Ud cs rfl rfl⟩,.inr ⟨_,rfl,Ud ps rfl rfl⟩,.inr ⟨_,rfl,?_⟩,Tt⟩ (Awp.le (env':=[(3,dV kn),(8,lp 3),(14,lp 8),(15,.osl (.loc 9) (g+1) 0 es.length),(16,.d (.bool m))]) (m':=⟨[none,none,none,bX 26 (up [.nils,.nils,.nils]),none,none,none,none,bX 26 (up (Q8 ⟨cs,ps,ss++[Qq c]⟩)),bV 94 8 (g+1) es.length (rowsOf Qf es)],[]⟩) ?_ (Q3t ⟨cs,ps,ss++[Qq c]⟩ m kn (g+1) es Om h1)))
 .show J9 _ _ (.sl 4 (ss++[Qq c]).length fun i=>Qa ((ss++[Qq c]).getD i default))
  rw[hq]
  refine .rows rfl (Qhz (Qh9 _)) fun i hi=>?_
  rw[Qh9]
  exact Yi Qa ss (Qq c) rfl i hi
 repeat' (first|exact Tt|exact rfl|exact Qgx _|refine And.intro ?_ ?_)
 all_goals (intro i hi;exact⟨rfl,rfl⟩)
theorem Qey (b:Bok)(c:Cat)(cs:List Crs)(ps:List Prg)(ss:List Sys)(m:Bool)(fr til kn:Int)(g g1 g2 g3:Nat)(f0:List Fct)(hf:f0.length<=600)(h1:cs.length<=1000)(h3:ss.length<=1000)(h6:c.same.length<=100)(hS:c.classes.length+c.fees.length+c.honours.length+c.clauses.length<=9223372036854775807) :
 Awp Tryz.prog 276 (K4 11) [(3,dV kn),(5,lp 1),(6,lp 2),(8,lp 3),(14,lp 8),(15,.osl (.loc 9) g 0 f0.length),(16,.d (.bool m))] ⟨[bX 26 (up (Q8 b)),bX 32 (up (Q0 c)),bX 34 (up [di fr,di til]),bX 26 (up [.nils,.nils,.nils]),bX 32 (up (Q0 (Qj c))),bV 68 16 g1 cs.length (rowsOf Q6 cs),bV 78 7 g2 ps.length (rowsOf Q9 ps),bV 83 4 g3 ss.length (rowsOf Qa ss),bX 26 [.osl (.loc 5) g1 0 cs.length,.osl (.loc 6) g2 0 ps.length,.osl (.loc 7) g3 0 ss.length],bV 94 8 g f0.length (rowsOf Qf f0)],[]⟩ (V9 ⟨cs,ps,ss++(if Vz c=true then[Qq c] else[])⟩ (let fs:=Qh fr til kn (Qh fr til kn f0 (Zi c.same c.same.length)) (if Vz c=true then[(4,0,0,(ss.length:Int))] else[]);if m=true then Zu 0 1024 kn fs (12,0,0,(Z6 cs:Int)) else fs)):=by
 have kS0:=Qez b c cs ps ss m fr til kn
 have kS1:=Qf0 b c cs ps ss m fr til kn
 unfold V9 at kS0 kS1⊢
 refine Awp.of_vc hT ?_
 (refine gW ?_;intros)
 refine Q7 hT (S:=RB) (fun z=>([(3,dV kn),(5,lp 1),(6,lp 2),(8,lp 3),(14,lp 8),(15,.osl (.loc 9) z.g 0 (Qh fr til kn f0 (Zi c.same z.k)).length),(16,.d (.bool m)),(21,dV z.k)],⟨[bX 26 (up (Q8 b)),bX 32 (up (Q0 c)),bX 34 (up [di fr,di til]),bX 26 (up [.nils,.nils,.nils]),bX 32 (up (Q0 (Qj c))),bV 68 16 g1 cs.length (rowsOf Q6 cs),bV 78 7 g2 ps.length (rowsOf Q9 ps),bV 83 4 g3 ss.length (rowsOf Qa ss),bX 26 [.osl (.loc 5) g1 0 cs.length,.osl (.loc 6) g2 0 ps.length,.osl (.loc 7) g3 0 ss.length],bV 94 8 z.g (Qh fr til kn f0 (Zi c.same z.k)).length (rowsOf Qf (Qh fr til kn f0 (Zi c.same z.k)))],[]⟩)) (fun z=>z.k<=c.same.length) (fun z=>c.same.length-z.k) ⟨0,g⟩ ?_ ?_ ?_
 .repeat' (first|exact Tt|exact rfl|exact Qgx _|refine And.intro ?_ ?_)
  all_goals (intro i hi;exact⟨rfl,rfl⟩)
 .exact Qh3 _
 rintro⟨k,g⟩ hk
 dsimp only at hk⊢
 have hfl:=Um fr til kn (Zi c.same k) f0
 rw[Mm]at hfl
 by_cases hk2:k<c.same.length
 case pos =>
  have hP:=Qdr (c.same.getD k default).x (c.same.getD k default).y
  have he:(Qh fr til kn f0 (Zi c.same (k+1)))=(Qh fr til kn f0 (Zi c.same k))++[⟨2,min (c.same.getD k default).x (c.same.getD k default).y,max (c.same.getD k default).x (c.same.getD k default).y,1,fr,til,kn,(Qh fr til kn f0 (Zi c.same k)).length⟩]:=by
   show Qh fr til kn f0 (_++[_])=_
   rw[R4]
   rfl
  generalize (Qh fr til kn f0 (Zi c.same k))=fs at hfl he⊢
  have kE:Kp _:=⟨he⟩
  clear he kS0 kS1
  (refine gS ?_;intros)
  refine Sq.go ?_;(refine gS ?_;intros)
  refine Sq.alt (Awp.seq (Awp.block (Awp.seq (Awp.effsF (m:=⟨[bX 26 (up (Q8 b)),bX 32 (up (Q0 c)),bX 34 (up [di fr,di til]),bX 26 (up [.nils,.nils,.nils]),bX 32 (up (Q0 (Qj c))),bV 68 16 g1 cs.length (rowsOf Q6 cs),bV 78 7 g2 ps.length (rowsOf Q9 ps),bV 83 4 g3 ss.length (rowsOf Qa ss),bX 26 [.osl (.loc 5) g1 0 cs.length,.osl (.loc 6) g2 0 ps.length,.osl (.loc 7) g3 0 ss.length],bV 94 8 g fs.length (rowsOf Qf fs)],[]⟩) hT Kr Kr Kr ⟨[bX 26 (up (Q8 b)),bX 32 (up (Q0 c)),bX 34 (up [di fr,di til]),bX 26 (up [.nils,.nils,.nils]),bX 32 (up (Q0 (Qj c))),bV 68 16 g1 cs.length (rowsOf Q6 cs),bV 78 7 g2 ps.length (rowsOf Q9 ps),bV 83 4 g3 ss.length (rowsOf Qa ss),bX 26 [.osl (.loc 5) g1 0 cs.length,.osl (.loc 6) g2 0 ps.length,.osl (.loc 7) g3 0 ss.length],bV 94 8 g fs.length (rowsOf Qf fs),none],[]⟩ 10 0
   [⟨13,.ptr (.loc 10) 0 0 0,⟨[some (.box 26 (up (Q8 b))),some (.box 32 (up (Q0 c))),some (.box 34 (up [.int .i64 fr,.int .i64 til])),some (.box 26 (up [.nils,.nils,.nils])),some (.box 32 (up (Q0 (Qj c)))),some (.vec 68 16 g1 cs.length (rowsOf Q6 cs)),some (.vec 78 7 g2 ps.length (rowsOf Q9 ps)),some (.vec 83 4 g3 ss.length (rowsOf Qa ss)),some (.box 26 [.osl (.loc 5) g1 0 cs.length,.osl (.loc 6) g2 0 ps.length,.osl (.loc 7) g3 0 ss.length]),some (.vec 94 8 g fs.length (rowsOf Qf fs)),some (.box 90 (up [.int .i64 0,.int .i64 0,.int .i64 0]))],[]⟩,[]⟩,
    ⟨14,.junk,⟨[bX 26 (up (Q8 b)),bX 32 (up (Q0 c)),bX 34 (up [di fr,di til]),bX 26 (up [.nils,.nils,.nils]),bX 32 (up (Q0 (Qj c))),bV 68 16 g1 cs.length (rowsOf Q6 cs),bV 78 7 g2 ps.length (rowsOf Q9 ps),bV 83 4 g3 ss.length (rowsOf Qa ss),bX 26 [.osl (.loc 5) g1 0 cs.length,.osl (.loc 6) g2 0 ps.length,.osl (.loc 7) g3 0 ss.length],bV 94 8 g fs.length (rowsOf Qf fs),bX 90 (up [di 2,di (min (c.same.getD k default).x (c.same.getD k default).y),di (max (c.same.getD k default).x (c.same.getD k default).y)])],[]⟩,[13]⟩]
   Kr rfl rfl (Qt.of ⟨.inl rfl,.inl rfl,.inl rfl,.inl rfl,.inl rfl,.inl rfl,.inl rfl,.inl rfl,.inl rfl,.inl rfl,Tt⟩ Tt) ⟨Qt.of ⟨.inl rfl,.inl rfl,.inl rfl,.inl rfl,.inl rfl,.inl rfl,.inl rfl,.inl rfl,.inl rfl,.inl rfl,Tt⟩ Tt,Qt.of ⟨.inl rfl,.inl rfl,.inl rfl,.inl rfl,.inl rfl,.inl rfl,.inl rfl,.inl rfl,.inl rfl,.inl rfl,Tt⟩ Tt,Tt⟩ ?_))))
  conv=>whnf
  (refine gS ?_;intros)
  refine qC hP ?_
  (refine gS ?_;intros)
  refine⟨?_,?_,?_⟩
  .conv=>whnf
   (refine gS ?_;intros)
   exact⟨rfl,rfl⟩
  .conv=>whnf
   (refine gS ?_;intros)
   exact⟨Tt,rfl⟩
  conv=>whnf
  (refine gS ?_;intros)
  refine Awp.of_vc hT ?_
  (refine gW ?_;intros)
  refine Awp.of_vc hT ?_
  (refine gW ?_;intros)
  refine⟨⟨k+1,g+1⟩,by show k+1<=c.same.length;omega,by show c.same.length-(k+1)<c.same.length-k;omega,?_⟩
  dsimp only
  rw[kE.h,Qhc,List.length_singleton]
  repeat' (first|exact Tt|exact rfl|exact Qgx _|refine And.intro ?_ ?_)
  all_goals first
   |(intro i hi;exact⟨rfl,rfl⟩)
   | (intro i hi
      exact⟨Yi Qf fs ⟨2,min (c.same.getD k default).x (c.same.getD k default).y,max (c.same.getD k default).x (c.same.getD k default).y,1,fr,til,kn,fs.length⟩ rfl i hi,rfl⟩)
 obtain rfl:k=c.same.length:=by omega
 generalize (Qh fr til kn f0 (Zi c.same c.same.length))=fs at hfl⊢
 (refine gS ?_;intros)
 refine Sq.go ?_;(refine gS ?_;intros)
 refine Sq.alt (Awp.le (env':=[(3,dV kn),(5,lp 1),(6,lp 2),(8,lp 3),(14,lp 8),(15,.osl (.loc 9) g 0 fs.length),(16,.d (.bool m))]) (m':=⟨[bX 26 (up (Q8 b)),bX 32 (up (Q0 c)),bX 34 (up [di fr,di til]),bX 26 (up [.nils,.nils,.nils]),bX 32 (up (Q0 (Qj c))),bV 68 16 g1 cs.length (rowsOf Q6 cs),bV 78 7 g2 ps.length (rowsOf Q9 ps),bV 83 4 g3 ss.length (rowsOf Qa ss),bX 26 [.osl (.loc 5) g1 0 cs.length,.osl (.loc 6) g2 0 ps.length,.osl (.loc 7) g3 0 ss.length],bV 94 8 g fs.length (rowsOf Qf fs)],[]⟩) ?_ ?_)
 .repeat' (first|exact Tt|exact rfl|exact Qgx _|refine And.intro ?_ ?_)
  all_goals (intro i hi;exact⟨rfl,rfl⟩)
 by_cases hs:0<c.classes.length+c.fees.length+c.honours.length+c.clauses.length
 .have e:Vz c=true:=(Q4k hS).trans (Qh8 hs)
  simp only[e,if_true]
  exact kS1 g g1 g2 g3 fs Om h1 h3 hs hS
 .have e:Vz c=false:=(Q4k hS).trans (Qh0 hs)
  simp only[e,Bool.false_eq_true,if_false,Qih]
  exact kS0 g g1 g2 g3 fs Om h1 h3 hs
theorem Qex (b:Bok)(c:Cat)(cs:List Crs)(ss:List Sys)(m:Bool)(fr til kn:Int)(g g1 g2 g3:Nat)(f0:List Fct)(hf:f0.length<=400)(h1:cs.length<=1000)(h2:b.prg.length<=100)(h4:c.prg.length<=100)(h3:ss.length<=1000)(h6:c.same.length<=100)(hS:c.classes.length+c.fees.length+c.honours.length+c.clauses.length<=9223372036854775807) :
 Awp Tryz.prog 276 (K4 10) [(3,dV kn),(5,lp 1),(6,lp 2),(8,lp 3),(14,lp 8),(15,.osl (.loc 9) g 0 f0.length),(16,.d (.bool m))] ⟨[bX 26 (up (Q8 b)),bX 32 (up (Q0 c)),bX 34 (up [di fr,di til]),bX 26 (up [.nils,.nils,.nils]),bX 32 (up (Q0 (Qj c))),bV 68 16 g1 cs.length (rowsOf Q6 cs),bV 78 7 g2 b.prg.length (rowsOf Q9 b.prg),bV 83 4 g3 ss.length (rowsOf Qa ss),bX 26 [.osl (.loc 5) g1 0 cs.length,.osl (.loc 6) g2 0 b.prg.length,.osl (.loc 7) g3 0 ss.length],bV 94 8 g f0.length (rowsOf Qf f0)],[]⟩ (V9 ⟨cs,b.prg++c.prg,ss++(if Vz c=true then[Qq c] else[])⟩ (let fs:=Qh fr til kn (Qh fr til kn (Qh fr til kn f0 (J5 3 b.prg.length (fun x:Prg=>x.number) c.prg c.prg.length)) (Zi c.same c.same.length)) (if Vz c=true then[(4,0,0,(ss.length:Int))] else[]);if m=true then Zu 0 1024 kn fs (12,0,0,(Z6 cs:Int)) else fs)):=by
 have kS:=Qey b c cs (b.prg++c.prg) ss m fr til kn
 unfold V9 at kS⊢
 refine Awp.of_vc hT ?_
 (refine gW ?_;intros)
 refine Q7 hT (S:=RB2) (fun z=>([(3,dV kn),(5,lp 1),(6,lp 2),(8,lp 3),(14,lp 8),(15,.osl (.loc 9) z.g 0 (Qh fr til kn f0 (J5 3 b.prg.length (fun x:Prg=>x.number) c.prg z.k)).length),(16,.d (.bool m)),(19,dV z.k)],⟨[bX 26 (up (Q8 b)),bX 32 (up (Q0 c)),bX 34 (up [di fr,di til]),bX 26 (up [.nils,.nils,.nils]),bX 32 (up (Q0 (Qj c))),bV 68 16 g1 cs.length (rowsOf Q6 cs),bV 78 7 z.g' (b.prg++c.prg.take z.k).length (rowsOf Q9 (b.prg++c.prg.take z.k)),bV 83 4 g3 ss.length (rowsOf Qa ss),bX 26 [.osl (.loc 5) g1 0 cs.length,.osl (.loc 6) z.g' 0 (b.prg++c.prg.take z.k).length,.osl (.loc 7) g3 0 ss.length],bV 94 8 z.g (Qh fr til kn f0 (J5 3 b.prg.length (fun x:Prg=>x.number) c.prg z.k)).length (rowsOf Qf (Qh fr til kn f0 (J5 3 b.prg.length (fun x:Prg=>x.number) c.prg z.k)))],[]⟩)) (fun z=>z.k<=c.prg.length) (fun z=>c.prg.length-z.k) ⟨0,g,g2⟩ ?_ ?_ ?_
 .dsimp only
  rw[List.take_zero,Qih]
  repeat' (first|exact Tt|exact rfl|exact Qgx _|refine And.intro ?_ ?_)
  all_goals (intro i hi;exact⟨rfl,rfl⟩)
 .exact Qh3 _
 rintro⟨k,g,g2⟩ hk
 dsimp only at hk⊢
 have hfl:=Um fr til kn (J5 3 b.prg.length (fun x:Prg=>x.number) c.prg k) f0
 rw[Gh]at hfl
 have hll:(b.prg++c.prg.take k).length=b.prg.length+k:=by rw[Qhc,Qhr];omega
 by_cases hk2:k<c.prg.length
 case pos =>
  have he:(Qh fr til kn f0 (J5 3 b.prg.length (fun x:Prg=>x.number) c.prg (k+1)))=(Qh fr til kn f0 (J5 3 b.prg.length (fun x:Prg=>x.number) c.prg k))++[⟨3,(c.prg.getD k default).number,0,((b.prg++c.prg.take k).length:Int),fr,til,kn,(Qh fr til kn f0 (J5 3 b.prg.length (fun x:Prg=>x.number) c.prg k)).length⟩]:=by
   show Qh fr til kn f0 (_++[_])=_
   rw[R4,hll]
   show _++[_]=_
   congr 3
  have hr:(b.prg++c.prg.take (k+1))=(b.prg++c.prg.take k)++[(c.prg.getD k default)]:=by rw[Js hk2,List.append_assoc]
  generalize (Qh fr til kn f0 (J5 3 b.prg.length (fun x:Prg=>x.number) c.prg k))=fs at hfl he⊢
  generalize (b.prg++c.prg.take k)=l at hll he hr⊢
  obtain⟨es,hes⟩:∃es,fs++[(⟨3,(c.prg.getD k default).number,0,(l.length:Int),fr,til,kn,fs.length⟩:Fct)]=es:=⟨_,rfl⟩
  have hel:es.length=fs.length+1:=by rw[<-hes,Qhc];rfl
  rw[hes]at he
  have kE:Kp _:=⟨he⟩
  have kR:Kp _:=⟨hr⟩
  have kes:Kp _:=⟨hes⟩
  clear he hr hes kS
  (refine gS ?_;intros)
  refine Sq.go ?_;(refine gS ?_;intros)
  refine Sq.go ?_;(refine gS ?_;intros)
  refine Sq.go ?_;(refine gS ?_;intros)
  refine Sq.alt (Awp.le (env':=[(3,dV kn),(5,lp 1),(6,lp 2),(8,lp 3),(14,lp 8),(15,.osl (.loc 9) (g+1) 0 es.length),(16,.d (.bool m)),(19,dV k)]) (m':=⟨[bX 26 (up (Q8 b)),bX 32 (up (Q0 c)),bX 34 (up [di fr,di til]),bX 26 (up [.nils,.nils,.nils]),bX 32 (up (Q0 (Qj c))),bV 68 16 g1 cs.length (rowsOf Q6 cs),bV 78 7 g2 l.length (rowsOf Q9 l),bV 83 4 g3 ss.length (rowsOf Qa ss),bX 26 [.osl (.loc 5) g1 0 cs.length,.osl (.loc 6) g2 0 l.length,.osl (.loc 7) g3 0 ss.length],bV 94 8 (g+1) es.length (rowsOf Qf es)],[]⟩) ?_ (Awp.effsF (m:=⟨[bX 26 (up (Q8 b)),bX 32 (up (Q0 c)),bX 34 (up [di fr,di til]),bX 26 (up [.nils,.nils,.nils]),bX 32 (up (Q0 (Qj c))),bV 68 16 g1 cs.length (rowsOf Q6 cs),bV 78 7 g2 l.length (rowsOf Q9 l),bV 83 4 g3 ss.length (rowsOf Qa ss),bX 26 [.osl (.loc 5) g1 0 cs.length,.osl (.loc 6) g2 0 l.length,.osl (.loc 7) g3 0 ss.length],bV 94 8 (g+1) es.length (rowsOf Qf es)],[]⟩) hT Kr Kr Kr ⟨[bX 26 (up (Q8 b)),bX 32 (up (Q0 c)),bX 34 (up [di fr,di til]),bX 26 (up [.nils,.nils,.nils]),bX 32 (up (Q0 (Qj c))),bV 68 16 g1 cs.length (rowsOf Q6 cs),some .opq,bV 83 4 g3 ss.length (rowsOf Qa ss),bX 26 [.osl (.loc 5) g1 0 cs.length,.junk,.osl (.loc 7) g3 0 ss.length],bV 94 8 (g+1) es.length (rowsOf Qf es)],[]⟩ 10 0
   [⟨1,.osl (.loc 6) g2 0 l.length,⟨[some (.box 26 (up (Q8 b))),some (.box 32 (up (Q0 c))),some (.box 34 (up [.int .i64 fr,.int .i64 til])),some (.box 26 (up [.nils,.nils,.nils])),some (.box 32 (up (Q0 (Qj c)))),some (.vec 68 16 g1 cs.length (rowsOf Q6 cs)),some (.vec 78 7 g2 l.length (rowsOf Q9 l)),some (.vec 83 4 g3 ss.length (rowsOf Qa ss)),some (.box 26 [.osl (.loc 5) g1 0 cs.length,.osl (.loc 6) g2 0 l.length,.osl (.loc 7) g3 0 ss.length]),some (.vec 94 8 (g + 1) es.length (rowsOf Qf es))],[]⟩,[]⟩,
    ⟨8,.osl (.loc 6) (g2+1) 0 (l.length+1),⟨[bX 26 (up (Q8 b)),bX 32 (up (Q0 c)),bX 34 (up [di fr,di til]),bX 26 (up [.nils,.nils,.nils]),bX 32 (up (Q0 (Qj c))),bV 68 16 g1 cs.length (rowsOf Q6 cs),bV 78 7 (g2+1) (l.length+1) (Je l.length (rowsOf Q9 l) (fun i=>up (Xf [Q9 (c.prg.getD k default)] i))),bV 83 4 g3 ss.length (rowsOf Qa ss),bX 26 [.osl (.loc 5) g1 0 cs.length,.osl (.loc 6) g2 0 l.length,.osl (.loc 7) g3 0 ss.length],bV 94 8 (g+1) es.length (rowsOf Qf es)],[]⟩,[1]⟩,
    ⟨10,.junk,⟨[bX 26 (up (Q8 b)),bX 32 (up (Q0 c)),bX 34 (up [di fr,di til]),bX 26 (up [.nils,.nils,.nils]),bX 32 (up (Q0 (Qj c))),bV 68 16 g1 cs.length (rowsOf Q6 cs),bV 78 7 (g2+1) (l.length+1) (Je l.length (rowsOf Q9 l) (fun i=>up (Xf [Q9 (c.prg.getD k default)] i))),bV 83 4 g3 ss.length (rowsOf Qa ss),bX 26 [.osl (.loc 5) g1 0 cs.length,.osl (.loc 6) (g2+1) 0 (l.length+1),.osl (.loc 7) g3 0 ss.length],bV 94 8 (g+1) es.length (rowsOf Qf es)],[]⟩,[8]⟩]
   Kr rfl rfl (Qt.of ⟨.inl rfl,.inl rfl,.inl rfl,.inl rfl,.inl rfl,.inl rfl,.inr ⟨_,rfl,Qo.opq⟩,.inl rfl,.inr ⟨_,rfl,Qo.box ⟨rfl,rfl,Tt⟩⟩,.inl rfl,Tt⟩ Tt) ⟨Qt.of ⟨.inl rfl,.inl rfl,.inl rfl,.inl rfl,.inl rfl,.inl rfl,.inr ⟨_,rfl,Qo.opq⟩,.inl rfl,.inr ⟨_,rfl,Qo.box ⟨rfl,rfl,Tt⟩⟩,.inl rfl,Tt⟩ Tt,Qt.of ⟨.inl rfl,.inl rfl,.inl rfl,.inl rfl,.inl rfl,.inl rfl,.inr ⟨_,rfl,Qo.opq⟩,.inl rfl,.inr ⟨_,rfl,Qo.box ⟨rfl,rfl,Tt⟩⟩,.inl rfl,Tt⟩ Tt,Qt.of ⟨.inl rfl,.inl rfl,.inl rfl,.inl rfl,.inl rfl,.inl rfl,.inr ⟨_,rfl,Qo.opq⟩,.inl rfl,.inr ⟨_,rfl,Qo.box ⟨rfl,rfl,Tt⟩⟩,.inl rfl,Tt⟩ Tt,Tt⟩ ?_))
  .repeat' (first|exact Tt|exact rfl|exact Qgx _|refine And.intro ?_ ?_)
   all_goals first
    |(rw[hel];done)
    |(rw[hel];exact rfl)
    |(rw[hel];exact Qgx _)
    |(intro i hi;exact⟨rfl,rfl⟩)
    | (intro i hi
       refine⟨?_,rfl⟩
       rw[hel]at hi
       rw[<-kes.h]
       exact Yi Qf fs ⟨3,(c.prg.getD k default).number,0,(l.length:Int),fr,til,kn,fs.length⟩ rfl i hi)
  conv=>whnf
  (refine gS ?_;intros)
  refine⟨?_,?_,?_,?_⟩
  .conv=>whnf
   (refine gS ?_;intros)
   exact⟨rfl,rfl⟩
  .conv=>whnf
   (refine gS ?_;intros)
   exact⟨rfl,rfl⟩
  .conv=>whnf
   (refine gS ?_;intros)
   exact⟨Tt,rfl⟩
  conv=>whnf
  (refine gS ?_;intros)
  refine Sq.go ?_;(refine gS ?_;intros)
  refine⟨⟨k+1,g+1,g2+1⟩,by show k+1<=c.prg.length;omega,by show c.prg.length-(k+1)<c.prg.length-k;omega,?_⟩
  dsimp only
  rw[kE.h,kR.h,Jp]
  repeat' (first|exact Tt|exact rfl|exact Qgx _|refine And.intro ?_ ?_)
  all_goals first
   |(intro i hi;exact⟨rfl,rfl⟩)
   | (intro i hi
      exact⟨Yi Q9 l (c.prg.getD k default) rfl i hi,rfl⟩)
 obtain rfl:k=c.prg.length:=by omega
 rw[Qhp]at hll⊢
 generalize (Qh fr til kn f0 (J5 3 b.prg.length (fun x:Prg=>x.number) c.prg c.prg.length))=fs at hfl⊢
 (refine gS ?_;intros)
 refine Sq.go ?_;(refine gS ?_;intros)
 refine Sq.alt (Awp.le (env':=[(3,dV kn),(5,lp 1),(6,lp 2),(8,lp 3),(14,lp 8),(15,.osl (.loc 9) g 0 fs.length),(16,.d (.bool m))]) (m':=⟨[bX 26 (up (Q8 b)),bX 32 (up (Q0 c)),bX 34 (up [di fr,di til]),bX 26 (up [.nils,.nils,.nils]),bX 32 (up (Q0 (Qj c))),bV 68 16 g1 cs.length (rowsOf Q6 cs),bV 78 7 g2 (b.prg++c.prg).length (rowsOf Q9 (b.prg++c.prg)),bV 83 4 g3 ss.length (rowsOf Qa ss),bX 26 [.osl (.loc 5) g1 0 cs.length,.osl (.loc 6) g2 0 (b.prg++c.prg).length,.osl (.loc 7) g3 0 ss.length],bV 94 8 g fs.length (rowsOf Qf fs)],[]⟩) ?_ (kS g g1 g2 g3 fs Om h1 h3 h6 hS))
 repeat' (first|exact Tt|exact rfl|exact Qgx _|refine And.intro ?_ ?_)
 all_goals (intro i hi;exact⟨rfl,rfl⟩)
end Go.Proofs.YtmlhghddfobmmaaGreatDoor
