import Derived.Test.YtmlhghddfobmmaaGreatDoorOpsW
import Derived.Test.YtmlhghddfobmmaaGreatDoorNrB
namespace Go.Ab
set_option linter.unusedSimpArgs false
set_option linter.unusedVariables false
section
variable {P:Program}{T:Tab}{m:Mem}{env:Env}{o:Oper}
theorem Eo {t t':TypeId}{x y:Operand}{K:AV->Mem->Prop}(hop:o.op=.binOp .add t x y t'){k:IntKind}{a b:Int}{px py:List Prop}(hx:strip (ev env x)=(.d (.int k a),px))(hy:strip (ev env y)=(.d (.int k b),py))(hpx:∀p∈px,p)(hpy:∀p∈py,p)(hK:K (.d (.int k (k.wrap (a+b)))) m):Ym P o env m K :=
 ⟨fun c h=>(by rw [hop] at h;cases h),fun a' w F σ hev hm=>by
  have hv:=X7 (Z5 hev x) (by rw[hx];exact hpx)
  rw[hx]at hv
  have hv:=hv.int
  have hw:=X7 (Z5 hev y) (by rw[hy];exact hpy)
  rw[hy]at hw
  have hw:=hw.int
  refine⟨_,.int k (k.wrap (a+b)),w,σ,F,_,_,?_,.inl rfl,hK,.d .int,hm,Step.refl σ F w,SLe.refl σ⟩
  simp[execOp,hop,hv,hw,binOp,Op.intArith,eqGuard]⟩
theorem px1 {p:Prop}(h:p):∀q∈[p],q:=fun q hq=>by rw[Qi9.1 hq];exact h
theorem px0:∀q∈([]:List Prop),q:=fun q hq=>(Qhq hq).elim
structure WL (P:Program)(N:Nat)(ops:Array Oper)(rest:List Oper)(env:Env)(m:Mem)(K:Env->Mem->Prop):Prop where
 run:∀(ro:Option Nat) (Q:Exit->Act->World->Prop) (a:Act) (w:World) (F:Nat->Prop) (σ:Pls),a.tmps.size=N->Ql env w F σ a.tmps->Q3 m σ F w ->
  (∀env' m' a' w' σ' F',K env' m'->a'.tmps.size=N->a'.defers=a.defers->Ql env' w' F' σ' a'.tmps->Q3 m' σ' F' w'->Step σ F w σ' F' w'->SLe σ σ'->Q .normal a' w')->wpListIn (Fen ro) 0 P ops Q rest a w
theorem WL.eng (hT:Qb P T){N:Nat}{ops:Array Oper}{rest:List Oper}{K:Env->Mem->Prop}(hd:Jb N rest=true)(h:Ev (Xw P T ops.toList rest env m K)):WL P N ops rest env m K :=
 ⟨fun ro Q a w F σ hN he hm hn=>I0 hT (full:=ops.toList) (by simp) rest env m hd h.o a w F σ hN he hm hn⟩
def Q11 (ops:Array Oper)(env:Env)(o:Oper):Prop:=match o.guard with
 |none=>True
 |some (j,want)=>guardOf ops.toList env j want=some true
theorem WL.cut (hT:Qb P T){N:Nat}{ops:Array Oper}{rest:List Oper}{K:Env->Mem->Prop}(n:Nat){post:List Oper}(ho:rest.drop n=o::post)(hd:Jb N rest=true)
 (h:Ev (Xw P T ops.toList (rest.take n) env m fun env m=>Q11 ops env o/\Ym P o env m fun v m=>J7 env o.dst v fun env=>WL P N ops post env m K)):WL P N ops rest env m K :=
 ⟨fun ro Q a w F σ hN he hm hn=>by
  have e0:rest=rest.take n++(o::post):=by rw[<-ho,Qil]
  rw[e0]at hd
  obtain⟨d1,d2⟩:=Ou hd
  simp only[Jb,Qh5]at d2
  rw[e0]
  refine Cb hT (full:=ops.toList) (by simp) _ env m d1 h.o a w F σ hN he hm ?_
  rintro env1 m1 a1 w1 σ1 F1 ⟨hgr,hop⟩ i1 i2 i3 i4 i5 i6
  have tr:∀{σa σb σc:Pls},SLe σa σb->SLe σb σc->SLe σa σc:=fun h1 h2 r q hq=>by
   obtain⟨q1,h3,h4⟩:=h1 r q hq
   obtain⟨q2,h5,h6⟩:=h2 r q1 h3
   exact⟨q2,h5,h4.trans h6⟩
  have main:∀(nx:Act->World->Prop) (Q':Exit->Act->World->Prop),(∀a' w',wpListIn (Fen ro) 0 P ops Q post a' w'->nx a' w')->o.wpIn (Fen ro) 0 P a1 w1 nx Q':=by
   intro nx Q' hK'
   obtain⟨n',u,w',σ',F',A,m',hrun,hcase,hk,hu,hm',hs,hle⟩:=hop.run a1 w1 F1 σ1 i3 i4
   have he1:=i3.mono (w':=w') hs.fro (hs.frozen i4) hle
   obtain⟨env',hk,he'⟩:=Ha i1 d2.1 he1 hu hk
   have cont:wpListIn (Fen ro) 0 P ops Q post (a1.put o.dst u) w':=by
    refine hk.run ro Q (a1.put o.dst u) w' F' σ' (by rw[Y3];exact i1) he' hm' ?_
    intro env2 m2 a2 w2 σ2 F2 k1 k2 k3 k4 k5 k6 k7
    have hs2:=i5.trans (hs.trans k6)
    exact hn env2 m2 a2 w2 σ2 F2 k1 k2 (by rw[k3,put_defers,i2]) k4 k5 hs2 (tr i6 (tr hle k7))
   refine V5 hop.nd ?_
   rw[hrun]
   rcases hcase with rfl|⟨rfl,rfl⟩
   .rw[Oper.uponIn_value];exact hK' _ _ cont
   .rw[Oper.uponIn_skip];exact hK' _ _ cont
  unfold Q11 at hgr
  split at hgr
  .rename_i hg
   exact wpListIn_plain hg fun K' hK'=>main _ _ hK'
  .rename_i j want hg
   have hw:Region.wanted o (yielded ops a1.tmps)=true:=by
    have h2:=Hv i3 hgr
    simp only[Region.wanted,hg]
    exact h2
   refine wpListIn_step fun K' hK'=>?_
   rw[hw]
   simp only[if_true]
   exact main _ _ hK'⟩
theorem Awp.cuts {id N:Nat}{ops:Array Oper}{Q:Ja}(h:WL P N ops ops.toList env m fun env m=>Ev (Q .normal env m)):Awp P N (.region id ops false) env m Q :=
 ⟨fun ro lo a w σ F hN hD he hm=>by
  refine wpIn_region_list ?_
  refine h.run ro _ a w F σ hN he hm ?_
  intro env2 m2 a2 w2 σ2 F2 k1 k2 k3 k4 k5 k6 k7
  exact⟨env2,m2,σ2,F2,k1.o,k2,by rw[k3];exact hD.step k6,k4,k5,k6,.of k7⟩⟩
end
end Go.Ab
namespace Go.Proofs.YtmlhghddfobmmaaGreatDoor
set_option linter.unusedSimpArgs false
set_option linter.unusedVariables false
open Go Go.Ab
set_option maxRecDepth 100000
set_option maxHeartbeats 0
theorem Qal (b:Bok)(c:Cat)(fr til kn:Int)(g:Nat)(fs:List Fct)(hf:fs.length<=800)(h1:b.crs.length<=1000)(h2:c.crs.length<=1000)(h3:b.prg.length<=1000)(h4:c.prg.length<=1000)(h5:b.sys.length<=1000) :
 Awp Tryz.prog 211 (Df 12) [(4,lp 0),(5,lp 1),(8,lp 3),(13,lp 5),(15,lp 7)] ⟨[bX 26 (up (Q8 b)),bX 32 (up (Q0 c)),bX 34 (up [di fr,di til]),bX 26 (up [.nils,.nils,.nils]),bX 32 (up (Q0 (Qj c))),bX 83 (up (Qa (Qq c))),bV 83 4 0 1 (Jr [up (Qa (Qq c))]),bX 144 [dV fr,dV til,dV kn,.osl (.loc 8) g 0 (fs).length],bV 94 8 g (fs).length (rowsOf Qf (fs))],[]⟩ (V9 (W4 b c) (L7 b.crs (b.crs++c.crs) kn (Qh fr til kn fs (Wn b c)))):=by
 have hC1:=Q7e b.crs c.crs Om Om
 have hC2:=Q7f b.prg c.prg Om Om
 have hC3:=Q7b b.sys Om
 refine Awp.seq (Awp.effsF (m:=⟨[bX 26 (up (Q8 b)),bX 32 (up (Q0 c)),bX 34 (up [di fr,di til]),bX 26 (up [.nils,.nils,.nils]),bX 32 (up (Q0 (Qj c))),bX 83 (up (Qa (Qq c))),bV 83 4 0 1 (Jr [up (Qa (Qq c))]),bX 144 [dV fr,dV til,dV kn,.osl (.loc 8) g 0 (fs).length],bV 94 8 g (fs).length (rowsOf Qf (fs))],[]⟩) hT Kr Kr Kr ⟨[bX 26 (up (Q8 b)),bX 32 (up (Q0 c)),bX 34 (up [di fr,di til]),bX 26 [.junk,.junk,.junk],bX 32 (up (Q0 (Qj c))),bX 83 (up (Qa (Qq c))),bV 83 4 0 1 (Jr [up (Qa (Qq c))]),bX 144 [dV fr,dV til,dV kn,.osl (.loc 8) g 0 (fs).length],bV 94 8 g (fs).length (rowsOf Qf (fs)),none],[]⟩ 9 0
  [⟨14,.osl (.loc 9) 1 0 b.sys.length,⟨[some (.box 26 (up (Q8 b))),some (.box 32 (up (Q0 c))),some (.box 34 (up [.int .i64 fr,.int .i64 til])),some (.box 26 (up [.nils,.nils,.nils])),some (.box 32 (up (Q0 (Qj c)))),some (.box 83 (up (Qa (Qq c)))),some (.vec 83 4 0 1 (Jr [up (Qa (Qq c))])),some (.box 144 [.d (.int .i64 fr),.d (.int .i64 til),.d (.int .i64 kn),.osl (.loc 8) g 0 (fs).length]),some (.vec 94 8 g (fs).length (rowsOf Qf (fs))),some (.vec 83 4 1 b.sys.length (rowsOf Qa b.sys))],[]⟩,[]⟩,
   ⟨15,.agg [.d (J2 (b.crs++c.crs)),.d (Qw (b.prg++c.prg)),.osl (.loc 9) 1 0 b.sys.length],⟨[bX 26 (up (Q8 b)),bX 32 (up (Q0 c)),bX 34 (up [di fr,di til]),bX 26 (up [.nils,.nils,.nils]),bX 32 (up (Q0 (Qj c))),bX 83 (up (Qa (Qq c))),bV 83 4 0 1 (Jr [up (Qa (Qq c))]),bX 144 [dV fr,dV til,dV kn,.osl (.loc 8) g 0 (fs).length],bV 94 8 g (fs).length (rowsOf Qf (fs)),bV 83 4 1 b.sys.length (rowsOf Qa b.sys)],[]⟩,[14]⟩,
   ⟨16,.junk,⟨[bX 26 (up (Q8 b)),bX 32 (up (Q0 c)),bX 34 (up [di fr,di til]),bX 26 [.d (J2 (b.crs++c.crs)),.d (Qw (b.prg++c.prg)),.osl (.loc 9) 1 0 b.sys.length],bX 32 (up (Q0 (Qj c))),bX 83 (up (Qa (Qq c))),bV 83 4 0 1 (Jr [up (Qa (Qq c))]),bX 144 [dV fr,dV til,dV kn,.osl (.loc 8) g 0 (fs).length],bV 94 8 g (fs).length (rowsOf Qf (fs)),bV 83 4 1 b.sys.length (rowsOf Qa b.sys)],[]⟩,[15]⟩]
  Kr rfl rfl (Qt.of ⟨.inl rfl,.inl rfl,.inl rfl,.inr ⟨_,rfl,Qo.box Tt⟩,.inl rfl,.inl rfl,.inl rfl,.inl rfl,.inl rfl,Tt⟩ Tt) ⟨Qt.of ⟨.inl rfl,.inl rfl,.inl rfl,.inr ⟨_,rfl,Qo.box Tt⟩,.inl rfl,.inl rfl,.inl rfl,.inl rfl,.inl rfl,Tt⟩ Tt,Qt.of ⟨.inl rfl,.inl rfl,.inl rfl,.inr ⟨_,rfl,Qo.box Tt⟩,.inl rfl,.inl rfl,.inl rfl,.inl rfl,.inl rfl,Tt⟩ Tt,Qt.of ⟨.inl rfl,.inl rfl,.inl rfl,.inr ⟨_,rfl,Qo.box Tt⟩,.inl rfl,.inl rfl,.inl rfl,.inl rfl,.inl rfl,Tt⟩ Tt,Tt⟩ ?_)
 conv=>whnf
 (refine gS ?_;intros)
 refine qC hC1 ?_
 (refine gS ?_;intros)
 refine qC hC2 ?_
 (refine gS ?_;intros)
 refine⟨?_,?_,?_,?_⟩
 .conv=>whnf
  (refine gS ?_;intros)
  refine hC3.at [] rfl Tt (fun _ _=>⟨rfl,?_⟩)
  (refine gS ?_;intros)
  exact⟨rfl,rfl⟩
 .conv=>whnf
  (refine gS ?_;intros)
  exact⟨rfl,rfl⟩
 .conv=>whnf
  (refine gS ?_;intros)
  exact⟨Tt,rfl⟩
 conv=>whnf
 (refine gS ?_;intros)
 refine Awp.seq (Awp.seq (Awp.cuts (WL.cut hT 6 rfl Kr ?_)))
 (refine gS ?_;intros)
 refine⟨Tt,Ep rfl rfl rfl ?_⟩
 conv=>whnf
 refine WL.cut hT 3 rfl Kr ?_
 (refine gS ?_;intros)
 refine⟨Tt,Ep rfl rfl rfl ?_⟩
 conv=>whnf
 refine WL.cut hT 3 rfl Kr ?_
 (refine gS ?_;intros)
 refine⟨Tt,Ep rfl rfl rfl ?_⟩
 conv=>whnf
 refine WL.eng hT Kr ?_
 (refine gS ?_;intros)
 refine Awp.of_vc hT ?_
 by_cases hs:0<Wt c
 case pos =>
  have hs2:=hs
  unfold Wt at hs2
  have hA:=Bv fr til kn g fs Om 4 0 0 (b.sys.length:Int)
  have he:fs++[(⟨4,0,0,(b.sys.length:Int),fr,til,kn,fs.length⟩:Fct)]=Zu fr til kn fs (4,0,0,(b.sys.length:Int)):=rfl
  have hl2:=Bu fr til kn fs (4,0,0,(b.sys.length:Int))
  have hI:Wn b c=[(4,0,0,(b.sys.length:Int))]:=by rw[Wn,Vz,Qh8 hs,if_pos rfl]
  have hB:W4 b c=⟨b.crs++c.crs,b.prg++c.prg,b.sys++[Qq c]⟩:=by rw[W4,Vz,Qh8 hs,if_pos rfl]
  have hF:Qh fr til kn fs [(4,0,0,(b.sys.length:Int))]=Zu fr til kn fs (4,0,0,(b.sys.length:Int)):=rfl
  rw[hI,hB,hF]
  rw[he]at hA
  obtain⟨q,hq⟩:∃q,b.sys++[Qq c]=q:=⟨_,rfl⟩
  have hql:q.length=b.sys.length+1:=by rw[<-hq,Qhc];rfl
  rw[hq]
  have kq:Kp _:=⟨hq⟩
  clear hq he hI hB hF
  generalize Zu fr til kn fs (4,0,0,(b.sys.length:Int))=es at hA hl2⊢
  (refine gW ?_;intros)
  refine hA.at [.loc 7,.loc 8] rfl ?_ (fun _ _=>⟨rfl,?_⟩)
  .exact⟨rfl,rfl,Tt⟩
  (refine gS ?_;intros)
  refine Sq.go ?_;(refine gS ?_;intros)
  refine(Awp.le (env':=[(4,lp 0),(8,lp 3),(15,lp 7)]) (m':=⟨[bX 26 (up (Q8 b)),none,none,bX 26 [.d (J2 (b.crs++c.crs)),.d (Qw (b.prg++c.prg)),.osl (.loc 9) 2 0 q.length],none,none,none,bX 144 [dV fr,dV til,dV kn,.osl (.loc 8) (g+1) 0 (es).length],bV 94 8 (g+1) (es).length (rowsOf Qf (es)),bV 83 4 2 q.length (rowsOf Qa q)],[]⟩) ?_ (Q13 b (b.crs++c.crs) (b.prg++c.prg) q fr til kn (g+1) 2 es Om Om (by rw[Qhc];omega)))
  repeat' (first|exact Tt|exact rfl|exact Qgx _|refine And.intro ?_ ?_)
  all_goals first
   |(intro i hi;exact⟨rfl,rfl⟩)
   |(rw[hql];done)
   |(rw[hql];exact rfl)
   |(rw[hql];exact Qgx _)
   | (intro i hi
      rw[<-kq.h]
      rw[hql]at hi
      exact⟨Yi Qa _ _ rfl i hi,rfl⟩)
 case neg =>
  have hs2:=hs
  unfold Wt at hs2
  have hI:Wn b c=[]:=by rw[Wn,Vz,Qh0 hs,if_neg Qhl]
  have hB:W4 b c=⟨b.crs++c.crs,b.prg++c.prg,b.sys⟩:=by rw[W4,Vz,Qh0 hs,if_neg Qhl,Qih]
  have hF:Qh fr til kn fs []=fs:=rfl
  rw[hI,hB,hF]
  clear hI hB hF
  (refine gS ?_;intros)
  refine(Awp.le (env':=[(4,lp 0),(8,lp 3),(15,lp 7)]) (m':=⟨[bX 26 (up (Q8 b)),none,none,bX 26 [.d (J2 (b.crs++c.crs)),.d (Qw (b.prg++c.prg)),.osl (.loc 9) 1 0 b.sys.length],none,none,none,bX 144 [dV fr,dV til,dV kn,.osl (.loc 8) g 0 (fs).length],bV 94 8 g (fs).length (rowsOf Qf (fs)),bV 83 4 1 b.sys.length (rowsOf Qa b.sys)],[]⟩) ?_ (Q13 b (b.crs++c.crs) (b.prg++c.prg) b.sys fr til kn g 1 fs Om Om (by rw[Qhc];omega)))
  repeat' (first|exact Tt|exact rfl|exact Qgx _|refine And.intro ?_ ?_)
  all_goals first
   |(intro i hi;exact⟨rfl,rfl⟩)
theorem Qap (b:Bok)(c:Cat)(fr til kn:Int)(h1:b.crs.length<=100)(h2:c.crs.length<=100)(h3:b.prg.length<=100)(h4:c.prg.length<=100)(h5:b.sys.length<=100)(h6:c.same.length<=100) :
 Awp Tryz.prog 211 (Df 9) [(4,lp 0),(5,lp 1),(8,lp 3),(13,lp 5),(15,lp 7)] ⟨[bX 26 (up (Q8 b)),bX 32 (up (Q0 c)),bX 34 (up [di fr,di til]),bX 26 (up [.nils,.nils,.nils]),bX 32 (up (Q0 (Qj c))),bX 83 (up (Qa (Qq c))),bV 83 4 0 1 (Jr [up (Qa (Qq c))]),bX 144 [dV fr,dV til,dV kn,.osl (.loc 8) 0 0 (([]:List Fct)).length],bV 94 8 0 (([]:List Fct)).length (rowsOf Qf (([]:List Fct)))],[]⟩ (V9 (W4 b c) (Y1 b c fr til kn)):=by
 unfold V9
 refine Awp.of_vc hT ?_
 (refine gW ?_;intros)
 refine Q7 hT (S:=RB) (fun z=>([(4,lp 0),(5,lp 1),(8,lp 3),(13,lp 5),(15,lp 7),(95,.d (J2 c.crs)),(96,dV c.crs.length),(97,dV z.k)],⟨[bX 26 (up (Q8 b)),bX 32 (up (Q0 c)),bX 34 (up [di fr,di til]),bX 26 (up [.nils,.nils,.nils]),bX 32 (up (Q0 (Qj c))),bX 83 (up (Qa (Qq c))),bV 83 4 0 1 (Jr [up (Qa (Qq c))]),bX 144 [dV fr,dV til,dV kn,.osl (.loc 8) z.g 0 (Qh fr til kn [] (J5 1 b.crs.length (fun x:Crs=>x.number) c.crs z.k)).length],bV 94 8 z.g (Qh fr til kn [] (J5 1 b.crs.length (fun x:Crs=>x.number) c.crs z.k)).length (rowsOf Qf (Qh fr til kn [] (J5 1 b.crs.length (fun x:Crs=>x.number) c.crs z.k)))],[]⟩)) (fun z=>z.k<=c.crs.length) (fun z=>c.crs.length-z.k) ⟨0,0⟩ ?_ ?_ ?_
 .repeat' (first|exact Tt|exact rfl|exact Qgx _|refine And.intro ?_ ?_)
  all_goals (intro i hi;exact⟨rfl,rfl⟩)
 .exact Qh3 _
 rintro⟨k,g1⟩ hk
 dsimp only at hk⊢
 by_cases hk2:k<c.crs.length
 case pos =>
  have hfl:=Um fr til kn (J5 1 b.crs.length (fun x:Crs=>x.number) c.crs k) []
  rw[Gh]at hfl
  try rw[Qig]at hfl
  have hA:=Bv fr til kn g1 (Qh fr til kn [] (J5 1 b.crs.length (fun x:Crs=>x.number) c.crs k)) Om 1 (c.crs.getD k default).number 0 (((b.crs.length:Nat):Int)+(k:Int))
  have he:Qh fr til kn [] (J5 1 b.crs.length (fun x:Crs=>x.number) c.crs (k+1))=Qh fr til kn [] (J5 1 b.crs.length (fun x:Crs=>x.number) c.crs k)++[⟨1,(c.crs.getD k default).number,0,((b.crs.length:Nat):Int)+(k:Int),fr,til,kn,(Qh fr til kn [] (J5 1 b.crs.length (fun x:Crs=>x.number) c.crs k)).length⟩]:=by
   show Qh fr til kn [] (_++[_])=_
   rw[R4]
   rfl
  generalize Qh fr til kn [] (J5 1 b.crs.length (fun x:Crs=>x.number) c.crs k)=fs at hA hfl he⊢
  have kE:Kp _:=⟨he⟩
  clear he
  (refine gW ?_;intros)
  refine hA.at [.loc 7,.loc 8] rfl ?_ (fun _ _=>⟨rfl,?_⟩)
  .exact⟨rfl,rfl,Tt⟩
  (refine gW ?_;intros)
  refine⟨⟨k+1,g1+1⟩,by show k+1<=c.crs.length;omega,by show c.crs.length-(k+1)<c.crs.length-k;omega,?_⟩
  dsimp only
  rw[kE.h]
  repeat' (first|exact Tt|exact rfl|exact Qgx _|refine And.intro ?_ ?_)
  all_goals first
   |(intro i hi;exact⟨rfl,rfl⟩)
 obtain rfl:k=c.crs.length:=by omega
 have f1l:=Um fr til kn (J5 1 b.crs.length (fun x:Crs=>x.number) c.crs c.crs.length) []
 rw[Gh]at f1l
 try rw[Qig]at f1l
 generalize hf1:Qh fr til kn [] (J5 1 b.crs.length (fun x:Crs=>x.number) c.crs c.crs.length)=f1 at f1l⊢
 (refine gW ?_;intros)
 refine Q7 hT (S:=RB) (fun z=>([(4,lp 0),(5,lp 1),(8,lp 3),(13,lp 5),(15,lp 7),(112,.d (Qw c.prg)),(113,dV c.prg.length),(114,dV z.k)],⟨[bX 26 (up (Q8 b)),bX 32 (up (Q0 c)),bX 34 (up [di fr,di til]),bX 26 (up [.nils,.nils,.nils]),bX 32 (up (Q0 (Qj c))),bX 83 (up (Qa (Qq c))),bV 83 4 0 1 (Jr [up (Qa (Qq c))]),bX 144 [dV fr,dV til,dV kn,.osl (.loc 8) z.g 0 (Qh fr til kn f1 (J5 3 b.prg.length (fun x:Prg=>x.number) c.prg z.k)).length],bV 94 8 z.g (Qh fr til kn f1 (J5 3 b.prg.length (fun x:Prg=>x.number) c.prg z.k)).length (rowsOf Qf (Qh fr til kn f1 (J5 3 b.prg.length (fun x:Prg=>x.number) c.prg z.k)))],[]⟩)) (fun z=>z.k<=c.prg.length) (fun z=>c.prg.length-z.k) ⟨0,g1⟩ ?_ ?_ ?_
 .repeat' (first|exact Tt|exact rfl|exact Qgx _|refine And.intro ?_ ?_)
  all_goals (intro i hi;exact⟨rfl,rfl⟩)
 .exact Qh3 _
 clear hk hk2
 rintro⟨k,g2⟩ hk
 dsimp only at hk⊢
 by_cases hk2:k<c.prg.length
 case pos =>
  have hfl:=Um fr til kn (J5 3 b.prg.length (fun x:Prg=>x.number) c.prg k) f1
  rw[Gh]at hfl
  try rw[Qig]at hfl
  have hA:=Bv fr til kn g2 (Qh fr til kn f1 (J5 3 b.prg.length (fun x:Prg=>x.number) c.prg k)) Om 3 (c.prg.getD k default).number 0 (((b.prg.length:Nat):Int)+(k:Int))
  have he:Qh fr til kn f1 (J5 3 b.prg.length (fun x:Prg=>x.number) c.prg (k+1))=Qh fr til kn f1 (J5 3 b.prg.length (fun x:Prg=>x.number) c.prg k)++[⟨3,(c.prg.getD k default).number,0,((b.prg.length:Nat):Int)+(k:Int),fr,til,kn,(Qh fr til kn f1 (J5 3 b.prg.length (fun x:Prg=>x.number) c.prg k)).length⟩]:=by
   show Qh fr til kn f1 (_++[_])=_
   rw[R4]
   rfl
  generalize Qh fr til kn f1 (J5 3 b.prg.length (fun x:Prg=>x.number) c.prg k)=fs at hA hfl he⊢
  have kE:Kp _:=⟨he⟩
  clear he
  (refine gW ?_;intros)
  refine hA.at [.loc 7,.loc 8] rfl ?_ (fun _ _=>⟨rfl,?_⟩)
  .exact⟨rfl,rfl,Tt⟩
  (refine gW ?_;intros)
  refine⟨⟨k+1,g2+1⟩,by show k+1<=c.prg.length;omega,by show c.prg.length-(k+1)<c.prg.length-k;omega,?_⟩
  dsimp only
  rw[kE.h]
  repeat' (first|exact Tt|exact rfl|exact Qgx _|refine And.intro ?_ ?_)
  all_goals first
   |(intro i hi;exact⟨rfl,rfl⟩)
 obtain rfl:k=c.prg.length:=by omega
 have f2l:=Um fr til kn (J5 3 b.prg.length (fun x:Prg=>x.number) c.prg c.prg.length) f1
 rw[Gh]at f2l
 try rw[Qig]at f2l
 generalize hf2:Qh fr til kn f1 (J5 3 b.prg.length (fun x:Prg=>x.number) c.prg c.prg.length)=f2 at f2l⊢
 (refine gW ?_;intros)
 refine Q7 hT (S:=RB) (fun z=>([(4,lp 0),(5,lp 1),(8,lp 3),(13,lp 5),(15,lp 7),(129,.d (Xh c.same)),(130,dV c.same.length),(131,dV z.k)],⟨[bX 26 (up (Q8 b)),bX 32 (up (Q0 c)),bX 34 (up [di fr,di til]),bX 26 (up [.nils,.nils,.nils]),bX 32 (up (Q0 (Qj c))),bX 83 (up (Qa (Qq c))),bV 83 4 0 1 (Jr [up (Qa (Qq c))]),bX 144 [dV fr,dV til,dV kn,.osl (.loc 8) z.g 0 (Qh fr til kn f2 (Zi c.same z.k)).length],bV 94 8 z.g (Qh fr til kn f2 (Zi c.same z.k)).length (rowsOf Qf (Qh fr til kn f2 (Zi c.same z.k)))],[]⟩)) (fun z=>z.k<=c.same.length) (fun z=>c.same.length-z.k) ⟨0,g2⟩ ?_ ?_ ?_
 .repeat' (first|exact Tt|exact rfl|exact Qgx _|refine And.intro ?_ ?_)
  all_goals (intro i hi;exact⟨rfl,rfl⟩)
 .exact Qh3 _
 clear hk hk2
 rintro⟨k,g3⟩ hk
 dsimp only at hk⊢
 by_cases hk2:k<c.same.length
 case pos =>
  have hfl:=Um fr til kn (Zi c.same k) f2
  rw[Mm]at hfl
  try rw[Qig]at hfl
  have hA:=Bv fr til kn g3 (Qh fr til kn f2 (Zi c.same k)) Om 2 (min (c.same.getD k default).x (c.same.getD k default).y) (max (c.same.getD k default).x (c.same.getD k default).y) 1
  have he:Qh fr til kn f2 (Zi c.same (k+1))=Qh fr til kn f2 (Zi c.same k)++[⟨2,min (c.same.getD k default).x (c.same.getD k default).y,max (c.same.getD k default).x (c.same.getD k default).y,1,fr,til,kn,(Qh fr til kn f2 (Zi c.same k)).length⟩]:=by
   show Qh fr til kn f2 (_++[_])=_
   rw[R4]
   rfl
  generalize Qh fr til kn f2 (Zi c.same k)=fs at hA hfl he⊢
  have kE:Kp _:=⟨he⟩
  clear he
  (refine gW ?_;intros)
  refine hA.at [.loc 7,.loc 8] rfl ?_ (fun _ _=>⟨rfl,?_⟩)
  .exact⟨rfl,rfl,Tt⟩
  (refine gW ?_;intros)
  refine⟨⟨k+1,g3+1⟩,by show k+1<=c.same.length;omega,by show c.same.length-(k+1)<c.same.length-k;omega,?_⟩
  dsimp only
  rw[kE.h]
  repeat' (first|exact Tt|exact rfl|exact Qgx _|refine And.intro ?_ ?_)
  all_goals first
   |(intro i hi;exact⟨rfl,rfl⟩)
 obtain rfl:k=c.same.length:=by omega
 have f3l:=Um fr til kn (Zi c.same c.same.length) f2
 rw[Mm]at f3l
 try rw[Qig]at f3l
 have hF:Y1 b c fr til kn=L7 b.crs (b.crs++c.crs) kn (Qh fr til kn (Qh fr til kn f2 (Zi c.same c.same.length)) (Wn b c)):=by
  unfold Y1 L8
  rw[Kk,Kk,Kk,hf1,hf2]
 rw[hF]
 clear hF
 generalize Qh fr til kn f2 (Zi c.same c.same.length)=f3 at f3l⊢
 (refine gS ?_;intros)
 refine Sq.go ?_;(refine gS ?_;intros)
 refine Sq.alt (Awp.le (env':=[(4,lp 0),(5,lp 1),(8,lp 3),(13,lp 5),(15,lp 7)]) (m':=⟨[bX 26 (up (Q8 b)),bX 32 (up (Q0 c)),bX 34 (up [di fr,di til]),bX 26 (up [.nils,.nils,.nils]),bX 32 (up (Q0 (Qj c))),bX 83 (up (Qa (Qq c))),bV 83 4 0 1 (Jr [up (Qa (Qq c))]),bX 144 [dV fr,dV til,dV kn,.osl (.loc 8) g3 0 (f3).length],bV 94 8 g3 (f3).length (rowsOf Qf (f3))],[]⟩) ?_ (Qal b c fr til kn g3 f3 Om Om Om Om Om Om))
 repeat' (first|exact Tt|exact rfl|exact Qgx _|refine And.intro ?_ ?_)
 all_goals (intro i hi;exact⟨rfl,rfl⟩)
theorem Qe8 (c:Cat) (hF:Yl c) (hQ:c.prg.all Vr=true) (hV:(c.same.all (okY c.crs) && c.prg.all (Zk c.crs))=false→J1 c=110) (hW:(c.same.all (okY c.crs) && c.prg.all (Zk c.crs))=true→J1 c=Xp c.crs) :
 Awp Tryz.prog 224 (Q3l 14) [(1,ap 0),(2,ap 1),(3,ap 2),(10,lp 0)] ⟨[bX 32 [.osl (.loc 1) 1 0 c.crs.length,.osl (.loc 2) 1 0 c.same.length,.osl (.loc 3) 1 0 c.prg.length,.d (Qk c.classes),.d (Jk c.fees),.d (Qk c.honours),.d (Jq c.clauses)],bV 68 16 1 c.crs.length (rowsOf Q6 (J8 (Jo c.crs) c.crs c.crs.length)),bV 131 4 1 c.same.length (rowsOf Qv c.same),bV 78 7 1 c.prg.length (rowsOf Q9 c.prg)],Jy c⟩ (Ft c):=by
 have hsl:=hF.same
 have hcl:=hF.crs
 have kV:Kp _:=⟨hV⟩
 have kW:Kp _:=⟨hW⟩
 clear hV hW
 unfold Ft
 refine Awp.of_vc hT ?_
 (refine gW ?_;intros)
 refine Q7 hT (S:=Nat) (fun k=>([(1,ap 0),(2,ap 1),(3,ap 2),(10,lp 0),(127,.osl (.loc 2) 1 0 c.same.length),(128,dV c.same.length),(129,dV k)],⟨[bX 32 [.osl (.loc 1) 1 0 c.crs.length,.osl (.loc 2) 1 0 c.same.length,.osl (.loc 3) 1 0 c.prg.length,.d (Qk c.classes),.d (Jk c.fees),.d (Qk c.honours),.d (Jq c.clauses)],bV 68 16 1 c.crs.length (rowsOf Q6 (J8 (Jo c.crs) c.crs c.crs.length)),bV 131 4 1 c.same.length (rowsOf Qv (J8 (Zm c.crs) c.same k)),bV 78 7 1 c.prg.length (rowsOf Q9 c.prg)],Jy c⟩)) (fun k=>k<=c.same.length/\(c.same.take k).all (okY c.crs)=true) (fun k=>c.same.length-k) 0 ?_ ?_ ?_
 .rw[M6]
  repeat' (first|exact Tt|exact rfl|exact Qgx _|refine And.intro ?_ ?_)
  all_goals (intro i hi;exact⟨rfl,rfl⟩)
 .exact⟨Qh3 _,rfl⟩
 rintro k ⟨hk,ht⟩
 have kt:Kp _:=⟨ht⟩
 clear ht
 dsimp only at hk⊢
 by_cases hk2:k<c.same.length
 case pos =>
  have hLl:=M5 (Zm c.crs) c.same k
  have hLk:=M3 (Zm c.crs) hk2
  have kS:Kp _:=⟨fun y hy j hj=>Dz (Zm c.crs) Qv (l:=c.same) (k:=k) y hy (j:=j) hj⟩
  have hbad:okY c.crs (c.same.getD k default)=false->J1 c=110:=fun h=>kV.h (by
   have:c.same.all (okY c.crs)=false:=List.all_eq_false.2 ⟨_,Qe hk2,by rw[h];exact Qhl⟩
   rw[this]
   rfl)
  have hgood:okY c.crs (c.same.getD k default)=true->(c.same.take (k+1)).all (okY c.crs)=true:=fun h=>by rw[Js hk2,Qii,kt.h,Qi5,h];rfl
  rw[<-hLk]at hbad hgood
  generalize J8 (Zm c.crs) c.same k=L at hLl hLk kS hbad hgood⊢
  have hA:=Lh c Om (L.getD k default).a (L.getD k default).x
  have hB:=Lh c Om (L.getD k default).b (L.getD k default).y
  rw[okY]at hbad
  have kg:Kp _:=⟨hgood⟩
  clear hgood
  have kLk:Kp _:=⟨hLk⟩
  clear hLk
  cases ha:(Qx c.crs (L.getD k default).a (L.getD k default).x).isSome with
  | false =>
    rw[ha]at hA hbad
    have hP:=hA.2 rfl
    have he:=hbad rfl
    clear ha hA hB hbad
    (refine gS ?_;intros)
    refine Sq.go ?_;(refine gS ?_;intros)
    refine Sq.go ?_;(refine gS ?_;intros)
    refine Sq.alt (Awp.panD hT Kr Kr Kr [11] [17,20,23] (chE 110) Kr ?_)
    conv=>whnf
    (refine gS ?_;intros)
    refine⟨?_,Yh c 110 he Dc rfl⟩
    conv=>whnf
    (refine gS ?_;intros)
    exact Pan.vc hP ⟨.d,.d,.d,Tt⟩ rfl
  | true =>
    rw[ha]at hA hbad
    have hA1:=hA.1 rfl
    cases hb:(Qx c.crs (L.getD k default).b (L.getD k default).y).isSome with
    | false =>
      rw[hb]at hB hbad
      have hP:=hB.2 rfl
      have he:=hbad rfl
      clear ha hA hB hbad hb
      (refine gS ?_;intros)
      refine Sq.go ?_;(refine gS ?_;intros)
      refine Sq.go ?_;(refine gS ?_;intros)
      refine Sq.alt (Awp.panD hT Kr Kr Kr [17] [20,23] (chE 110) Kr ?_)
      conv=>whnf
      (refine gS ?_;intros)
      refine qC hA1 ?_
      (refine gS ?_;intros)
      refine⟨?_,Yh c 110 he Dc rfl⟩
      conv=>whnf
      (refine gS ?_;intros)
      exact Pan.vc hP ⟨.d,.d,.d,Tt⟩ rfl
    | true =>
      rw[hb]at hB
      have hB1:=hB.1 rfl
      have hkt:=kg.h (by rw[okY,ha,hb];rfl)
      clear ha hA hB hbad hb
      (refine gS ?_;intros)
      refine Sq.go ?_;(refine gS ?_;intros)
      refine Sq.go ?_;(refine gS ?_;intros)
      refine Sq.alt (Awp.effsF (m:=⟨[bX 32 [.osl (.loc 1) 1 0 c.crs.length,.osl (.loc 2) 1 0 c.same.length,.osl (.loc 3) 1 0 c.prg.length,.d (Qk c.classes),.d (Jk c.fees),.d (Qk c.honours),.d (Jq c.clauses)],bV 68 16 1 c.crs.length (rowsOf Q6 (J8 (Jo c.crs) c.crs c.crs.length)),bV 131 4 1 c.same.length (rowsOf Qv L),bV 78 7 1 c.prg.length (rowsOf Q9 c.prg),bX 131 (up (Qv (L.getD k default)))],Jy c⟩) hT Kr Kr Kr
       ⟨[bX 32 [.osl (.loc 1) 1 0 c.crs.length,.osl (.loc 2) 1 0 c.same.length,.osl (.loc 3) 1 0 c.prg.length,.d (Qk c.classes),.d (Jk c.fees),.d (Qk c.honours),.d (Jq c.clauses)],bV 68 16 1 c.crs.length (rowsOf Q6 (J8 (Jo c.crs) c.crs c.crs.length)),bV 131 4 1 c.same.length fun _=>jks 4,bV 78 7 1 c.prg.length (rowsOf Q9 c.prg),bX 131 (up (Qv (L.getD k default)))],Jy c⟩ 5 3
       [⟨20,.junk,⟨[some (.box 32 [.osl (.loc 1) 1 0 c.crs.length,.osl (.loc 2) 1 0 c.same.length,.osl (.loc 3) 1 0 c.prg.length,.d (Qk c.classes),.d (Jk c.fees),.d (Qk c.honours),.d (Jq c.clauses)]),some (.vec 68 16 1 c.crs.length (rowsOf Q6 (J8 (Jo c.crs) c.crs c.crs.length))),some (.vec 131 4 1 c.same.length (fun j=>bif Nat.beq j k then splice (rowsOf Qv L k) 2 [.d (.int .i64 ((Qx c.crs (L.getD k default).a (L.getD k default).x).getD 0))] else rowsOf Qv L j)),some (.vec 78 7 1 c.prg.length (rowsOf Q9 c.prg)),some (.box 131 (up (Qv (L.getD k default))))],Jy c⟩,[]⟩,
        ⟨23,.junk,⟨[bX 32 [.osl (.loc 1) 1 0 c.crs.length,.osl (.loc 2) 1 0 c.same.length,.osl (.loc 3) 1 0 c.prg.length,.d (Qk c.classes),.d (Jk c.fees),.d (Qk c.honours),.d (Jq c.clauses)],bV 68 16 1 c.crs.length (rowsOf Q6 (J8 (Jo c.crs) c.crs c.crs.length)),bV 131 4 1 c.same.length (fun j=>bif Nat.beq j k then splice (bif Nat.beq k k then splice (rowsOf Qv L k) 2 [dV ((Qx c.crs (L.getD k default).a (L.getD k default).x).getD 0)] else rowsOf Qv L k) 3 [dV ((Qx c.crs (L.getD k default).b (L.getD k default).y).getD 0)] else(bif Nat.beq j k then splice (rowsOf Qv L k) 2 [dV ((Qx c.crs (L.getD k default).a (L.getD k default).x).getD 0)] else rowsOf Qv L j)),bV 78 7 1 c.prg.length (rowsOf Q9 c.prg),bX 131 (up (Qv (L.getD k default)))],Jy c⟩,[20]⟩]
       Kr rfl rfl (Qt.of ⟨.inl rfl,.inl rfl,.inr ⟨_,rfl,Qo.vecJ (fun i _=>Tt)⟩,.inl rfl,.inl rfl,Tt⟩ ⟨.inl rfl,.inl rfl,.inl rfl,Tt⟩)
       ⟨Qt.of ⟨.inl rfl,.inl rfl,.inr ⟨_,rfl,Qo.vecJ (fun i _=>Rp _ (by cases Nat.beq i k<;>rfl))⟩,.inl rfl,.inl rfl,Tt⟩ ⟨.inl rfl,.inl rfl,.inl rfl,Tt⟩,Qt.of ⟨.inl rfl,.inl rfl,.inr ⟨_,rfl,Qo.vecJ (fun i _=>Rp _ (by cases Nat.beq i k<;>(rw[Nat.beq_refl];rfl)))⟩,.inl rfl,.inl rfl,Tt⟩ ⟨.inl rfl,.inl rfl,.inl rfl,Tt⟩,Tt⟩ ?_)
      conv=>whnf
      (refine gS ?_;intros)
      refine qC hA1 ?_
      (refine gS ?_;intros)
      refine qC hB1 ?_
      (refine gS ?_;intros)
      refine⟨?_,?_,?_⟩
      .conv=>whnf
       (refine gS ?_;intros)
       exact⟨Tt,rfl⟩
      .conv=>whnf
       (refine gS ?_;intros)
       exact⟨Tt,rfl⟩
      conv=>whnf
      (refine gW ?_;intros)
      refine⟨k+1,⟨by show k+1<=c.same.length;omega,hkt⟩,by show c.same.length-(k+1)<c.same.length-k;omega,?_⟩
      repeat' (first|exact Tt|exact rfl|exact Qgx _|refine And.intro ?_ ?_)
      all_goals first
       | (intro i hi
          refine⟨?_,rfl⟩
          refine Eq.trans ?_ (kS.h (splice (splice (rowsOf Qv L k) 2 [dV ((Qx c.crs (L.getD k default).a (L.getD k default).x).getD 0)]) 3 [dV ((Qx c.crs (L.getD k default).b (L.getD k default).y).getD 0)]) (by show splice (splice (up (Qv (L.getD k default))) 2 _) 3 _=_;rw[kLk.h];rfl) i hi)
          show(bif Nat.beq i k then splice (bif Nat.beq k k then splice (rowsOf Qv L k) 2 [dV ((Qx c.crs (L.getD k default).a (L.getD k default).x).getD 0)] else rowsOf Qv L k) 3 [dV ((Qx c.crs (L.getD k default).b (L.getD k default).y).getD 0)] else(bif Nat.beq i k then splice (rowsOf Qv L k) 2 [dV ((Qx c.crs (L.getD k default).a (L.getD k default).x).getD 0)] else rowsOf Qv L i))=_
          rw[Nat.beq_refl,cond_true]
          cases Nat.beq i k<;>rfl)
       |(intro i hi;exact⟨rfl,rfl⟩)
 obtain rfl:k=c.same.length:=by omega
 have hX:c.same.all (okY c.crs)=true:=by
  have:=kt.h
  rwa [Qhp]at this
 rw[hX,Qhy]at kV kW
 clear hX kt hk hk2
 (refine gS ?_;intros)
 refine Sq.go ?_;(refine gS ?_;intros)
 refine Sq.alt (Awp.le (env':=[(1,ap 0),(2,ap 1),(3,ap 2),(10,lp 0)]) (m':=⟨[bX 32 [.osl (.loc 1) 1 0 c.crs.length,.osl (.loc 2) 1 0 c.same.length,.osl (.loc 3) 1 0 c.prg.length,.d (Qk c.classes),.d (Jk c.fees),.d (Qk c.honours),.d (Jq c.clauses)],bV 68 16 1 c.crs.length (rowsOf Q6 (J8 (Jo c.crs) c.crs c.crs.length)),bV 131 4 1 c.same.length (rowsOf Qv (J8 (Zm c.crs) c.same c.same.length)),bV 78 7 1 c.prg.length (rowsOf Q9 c.prg)],Jy c⟩) ?_ (Qe7 c hF hQ kV.h kW.h))
 repeat' (first|exact Tt|exact rfl|exact Qgx _|refine And.intro ?_ ?_)
 all_goals (intro i hi;exact⟨rfl,rfl⟩)
end Go.Proofs.YtmlhghddfobmmaaGreatDoor
