import Derived.Test.YtmlhghddfobmmaaGreatDoorOpsX
namespace Go.Proofs.YtmlhghddfobmmaaGreatDoor
set_option linter.unusedSimpArgs false
set_option linter.unusedVariables false
open Go Go.Ab
set_option maxRecDepth 100000
set_option maxHeartbeats 0
theorem insDraw (b:Bok)(c:Cat)(fr til kn:Int)(g:Nat)(fs:List Fct)(hf:fs.length<=800)(h1:b.crs.length<=1000)(h2:c.crs.length<=1000)(h3:b.prg.length<=1000)(h4:c.prg.length<=1000)(h5:b.sys.length<=1000) :
 Awp Tryz.prog 211 (insCode 12) [(4,lp 0),(5,lp 1),(8,lp 3),(13,lp 5),(15,lp 7)] ⟨[bX 26 (up (eBok b)),bX 32 (up (eCat c)),bX 34 (up [di fr,di til]),bX 26 (up [.nils,.nils,.nils]),bX 32 (up (eCat (resV c))),bX 83 (up (eSys (sysC c))),bV 83 4 0 1 (rowFn [up (eSys (sysC c))]),bX 144 [dV fr,dV til,dV kn,.osl (.loc 8) g 0 (fs).length],bV 94 8 g (fs).length (rowsOf eFct (fs))],[]⟩ (insQ' (insB b c) (insN b.crs (b.crs++c.crs) kn (addFs fr til kn fs (insS b c)))):=by
 have hC1:=concatCrs_ok b.crs c.crs Om Om
 have hC2:=concatPrg_ok b.prg c.prg Om Om
 have hC3:=cloneSys_ok b.sys Om
 refine Awp.seq (Awp.effsF (m:=⟨[bX 26 (up (eBok b)),bX 32 (up (eCat c)),bX 34 (up [di fr,di til]),bX 26 (up [.nils,.nils,.nils]),bX 32 (up (eCat (resV c))),bX 83 (up (eSys (sysC c))),bV 83 4 0 1 (rowFn [up (eSys (sysC c))]),bX 144 [dV fr,dV til,dV kn,.osl (.loc 8) g 0 (fs).length],bV 94 8 g (fs).length (rowsOf eFct (fs))],[]⟩) hT Kr Kr Kr ⟨[bX 26 (up (eBok b)),bX 32 (up (eCat c)),bX 34 (up [di fr,di til]),bX 26 [.junk,.junk,.junk],bX 32 (up (eCat (resV c))),bX 83 (up (eSys (sysC c))),bV 83 4 0 1 (rowFn [up (eSys (sysC c))]),bX 144 [dV fr,dV til,dV kn,.osl (.loc 8) g 0 (fs).length],bV 94 8 g (fs).length (rowsOf eFct (fs)),none],[]⟩ 9 0
  [⟨14,.osl (.loc 9) 1 0 b.sys.length,⟨[some (.box 26 (up (eBok b))),some (.box 32 (up (eCat c))),some (.box 34 (up [.int .i64 fr,.int .i64 til])),some (.box 26 (up [.nils,.nils,.nils])),some (.box 32 (up (eCat (resV c)))),some (.box 83 (up (eSys (sysC c)))),some (.vec 83 4 0 1 (rowFn [up (eSys (sysC c))])),some (.box 144 [.d (.int .i64 fr),.d (.int .i64 til),.d (.int .i64 kn),.osl (.loc 8) g 0 (fs).length]),some (.vec 94 8 g (fs).length (rowsOf eFct (fs))),some (.vec 83 4 1 b.sys.length (rowsOf eSys b.sys))],[]⟩,[]⟩,
   ⟨15,.agg [.d (eCrss (b.crs++c.crs)),.d (ePrgs (b.prg++c.prg)),.osl (.loc 9) 1 0 b.sys.length],⟨[bX 26 (up (eBok b)),bX 32 (up (eCat c)),bX 34 (up [di fr,di til]),bX 26 (up [.nils,.nils,.nils]),bX 32 (up (eCat (resV c))),bX 83 (up (eSys (sysC c))),bV 83 4 0 1 (rowFn [up (eSys (sysC c))]),bX 144 [dV fr,dV til,dV kn,.osl (.loc 8) g 0 (fs).length],bV 94 8 g (fs).length (rowsOf eFct (fs)),bV 83 4 1 b.sys.length (rowsOf eSys b.sys)],[]⟩,[14]⟩,
   ⟨16,.junk,⟨[bX 26 (up (eBok b)),bX 32 (up (eCat c)),bX 34 (up [di fr,di til]),bX 26 [.d (eCrss (b.crs++c.crs)),.d (ePrgs (b.prg++c.prg)),.osl (.loc 9) 1 0 b.sys.length],bX 32 (up (eCat (resV c))),bX 83 (up (eSys (sysC c))),bV 83 4 0 1 (rowFn [up (eSys (sysC c))]),bX 144 [dV fr,dV til,dV kn,.osl (.loc 8) g 0 (fs).length],bV 94 8 g (fs).length (rowsOf eFct (fs)),bV 83 4 1 b.sys.length (rowsOf eSys b.sys)],[]⟩,[15]⟩]
  Kr rfl rfl (WeakF.of ⟨.inl rfl,.inl rfl,.inl rfl,.inr ⟨_,rfl,WeakB.box Tt⟩,.inl rfl,.inl rfl,.inl rfl,.inl rfl,.inl rfl,Tt⟩ Tt) ⟨WeakF.of ⟨.inl rfl,.inl rfl,.inl rfl,.inr ⟨_,rfl,WeakB.box Tt⟩,.inl rfl,.inl rfl,.inl rfl,.inl rfl,.inl rfl,Tt⟩ Tt,WeakF.of ⟨.inl rfl,.inl rfl,.inl rfl,.inr ⟨_,rfl,WeakB.box Tt⟩,.inl rfl,.inl rfl,.inl rfl,.inl rfl,.inl rfl,Tt⟩ Tt,WeakF.of ⟨.inl rfl,.inl rfl,.inl rfl,.inr ⟨_,rfl,WeakB.box Tt⟩,.inl rfl,.inl rfl,.inl rfl,.inl rfl,.inl rfl,Tt⟩ Tt,Tt⟩ ?_)
 conv=>whnf
 (refine gS ?_;intros)
 refine qC hC1 ?_
 (refine gS ?_;intros)
 refine qC hC2 ?_
 (refine gS ?_;intros)
 refine⟨?_,?_,?_,?_⟩
 .conv=>whnf
  (refine gS ?_;intros)
  refine hC3.at [] rfl Tt (fun _ _=>⟨rfl,?_⟩)
  (refine gS ?_;intros)
  exact⟨rfl,rfl⟩
 .conv=>whnf
  (refine gS ?_;intros)
  exact⟨rfl,rfl⟩
 .conv=>whnf
  (refine gS ?_;intros)
  exact⟨Tt,rfl⟩
 conv=>whnf
 (refine gS ?_;intros)
 refine Awp.seq (Awp.seq (Awp.cuts (WL.cut hT 6 rfl Kr ?_)))
 (refine gS ?_;intros)
 refine⟨Tt,op_addw rfl rfl rfl ?_⟩
 conv=>whnf
 refine WL.cut hT 3 rfl Kr ?_
 (refine gS ?_;intros)
 refine⟨Tt,op_addw rfl rfl rfl ?_⟩
 conv=>whnf
 refine WL.cut hT 3 rfl Kr ?_
 (refine gS ?_;intros)
 refine⟨Tt,op_addw rfl rfl rfl ?_⟩
 conv=>whnf
 refine WL.eng hT Kr ?_
 (refine gS ?_;intros)
 refine Awp.of_vc hT ?_
 by_cases hs:0<wsum c
 case pos =>
  have hs2:=hs
  unfold wsum at hs2
  have hA:=add_ok fr til kn g fs Om 4 0 0 (b.sys.length:Int)
  have he:fs++[(⟨4,0,0,(b.sys.length:Int),fr,til,kn,fs.length⟩:Fct)]=addF fr til kn fs (4,0,0,(b.sys.length:Int)):=rfl
  have hl2:=addF_len fr til kn fs (4,0,0,(b.sys.length:Int))
  have hI:insS b c=[(4,0,0,(b.sys.length:Int))]:=by rw[insS,sysB,decide_eq_true hs,if_pos rfl]
  have hB:insB b c=⟨b.crs++c.crs,b.prg++c.prg,b.sys++[sysC c]⟩:=by rw[insB,sysB,decide_eq_true hs,if_pos rfl]
  have hF:addFs fr til kn fs [(4,0,0,(b.sys.length:Int))]=addF fr til kn fs (4,0,0,(b.sys.length:Int)):=rfl
  rw[hI,hB,hF]
  rw[he]at hA
  obtain⟨q,hq⟩:∃q,b.sys++[sysC c]=q:=⟨_,rfl⟩
  have hql:q.length=b.sys.length+1:=by rw[<-hq,List.length_append];rfl
  rw[hq]
  have kq:Kp _:=⟨hq⟩
  clear hq he hI hB hF
  generalize addF fr til kn fs (4,0,0,(b.sys.length:Int))=es at hA hl2⊢
  (refine gW ?_;intros)
  refine hA.at [.loc 7,.loc 8] rfl ?_ (fun _ _=>⟨rfl,?_⟩)
  .exact⟨rfl,rfl,Tt⟩
  (refine gS ?_;intros)
  refine Sq.go ?_;(refine gS ?_;intros)
  refine(Awp.le (env':=[(4,lp 0),(8,lp 3),(15,lp 7)]) (m':=⟨[bX 26 (up (eBok b)),none,none,bX 26 [.d (eCrss (b.crs++c.crs)),.d (ePrgs (b.prg++c.prg)),.osl (.loc 9) 2 0 q.length],none,none,none,bX 144 [dV fr,dV til,dV kn,.osl (.loc 8) (g+1) 0 (es).length],bV 94 8 (g+1) (es).length (rowsOf eFct (es)),bV 83 4 2 q.length (rowsOf eSys q)],[]⟩) ?_ (insNum b (b.crs++c.crs) (b.prg++c.prg) q fr til kn (g+1) 2 es Om Om (by rw[List.length_append];omega)))
  repeat' (first|exact Tt|exact rfl|exact Nat.le_refl _|refine And.intro ?_ ?_)
  all_goals first
   |(intro i hi;exact⟨rfl,rfl⟩)
   |(rw[hql];done)
   |(rw[hql];exact rfl)
   |(rw[hql];exact Nat.le_refl _)
   | (intro i hi
      rw[<-kq.h]
      rw[hql]at hi
      exact⟨rowsOf_snoc eSys _ _ rfl i hi,rfl⟩)
 case neg =>
  have hs2:=hs
  unfold wsum at hs2
  have hI:insS b c=[]:=by rw[insS,sysB,decide_eq_false hs,if_neg Bool.false_ne_true]
  have hB:insB b c=⟨b.crs++c.crs,b.prg++c.prg,b.sys⟩:=by rw[insB,sysB,decide_eq_false hs,if_neg Bool.false_ne_true,List.append_nil]
  have hF:addFs fr til kn fs []=fs:=rfl
  rw[hI,hB,hF]
  clear hI hB hF
  (refine gS ?_;intros)
  refine(Awp.le (env':=[(4,lp 0),(8,lp 3),(15,lp 7)]) (m':=⟨[bX 26 (up (eBok b)),none,none,bX 26 [.d (eCrss (b.crs++c.crs)),.d (ePrgs (b.prg++c.prg)),.osl (.loc 9) 1 0 b.sys.length],none,none,none,bX 144 [dV fr,dV til,dV kn,.osl (.loc 8) g 0 (fs).length],bV 94 8 g (fs).length (rowsOf eFct (fs)),bV 83 4 1 b.sys.length (rowsOf eSys b.sys)],[]⟩) ?_ (insNum b (b.crs++c.crs) (b.prg++c.prg) b.sys fr til kn g 1 fs Om Om (by rw[List.length_append];omega)))
  repeat' (first|exact Tt|exact rfl|exact Nat.le_refl _|refine And.intro ?_ ?_)
  all_goals first
   |(intro i hi;exact⟨rfl,rfl⟩)
theorem insLoops (b:Bok)(c:Cat)(fr til kn:Int)(h1:b.crs.length<=100)(h2:c.crs.length<=100)(h3:b.prg.length<=100)(h4:c.prg.length<=100)(h5:b.sys.length<=100)(h6:c.same.length<=100) :
 Awp Tryz.prog 211 (insCode 9) [(4,lp 0),(5,lp 1),(8,lp 3),(13,lp 5),(15,lp 7)] ⟨[bX 26 (up (eBok b)),bX 32 (up (eCat c)),bX 34 (up [di fr,di til]),bX 26 (up [.nils,.nils,.nils]),bX 32 (up (eCat (resV c))),bX 83 (up (eSys (sysC c))),bV 83 4 0 1 (rowFn [up (eSys (sysC c))]),bX 144 [dV fr,dV til,dV kn,.osl (.loc 8) 0 0 (([]:List Fct)).length],bV 94 8 0 (([]:List Fct)).length (rowsOf eFct (([]:List Fct)))],[]⟩ (insQ' (insB b c) (insF b c fr til kn)):=by
 unfold insQ'
 refine Awp.of_vc hT ?_
 (refine gW ?_;intros)
 refine loop_rule hT (S:=RB) (fun z=>([(4,lp 0),(5,lp 1),(8,lp 3),(13,lp 5),(15,lp 7),(95,.d (eCrss c.crs)),(96,dV c.crs.length),(97,dV z.k)],⟨[bX 26 (up (eBok b)),bX 32 (up (eCat c)),bX 34 (up [di fr,di til]),bX 26 (up [.nils,.nils,.nils]),bX 32 (up (eCat (resV c))),bX 83 (up (eSys (sysC c))),bV 83 4 0 1 (rowFn [up (eSys (sysC c))]),bX 144 [dV fr,dV til,dV kn,.osl (.loc 8) z.g 0 (addFs fr til kn [] (defK 1 b.crs.length (fun x:Crs=>x.number) c.crs z.k)).length],bV 94 8 z.g (addFs fr til kn [] (defK 1 b.crs.length (fun x:Crs=>x.number) c.crs z.k)).length (rowsOf eFct (addFs fr til kn [] (defK 1 b.crs.length (fun x:Crs=>x.number) c.crs z.k)))],[]⟩)) (fun z=>z.k<=c.crs.length) (fun z=>c.crs.length-z.k) ⟨0,0⟩ ?_ ?_ ?_
 .repeat' (first|exact Tt|exact rfl|exact Nat.le_refl _|refine And.intro ?_ ?_)
  all_goals (intro i hi;exact⟨rfl,rfl⟩)
 .exact Nat.zero_le _
 rintro⟨k,g1⟩ hk
 dsimp only at hk⊢
 by_cases hk2:k<c.crs.length
 case pos =>
  have hfl:=addFs_len fr til kn (defK 1 b.crs.length (fun x:Crs=>x.number) c.crs k) []
  rw[defK_len]at hfl
  try rw[List.length_nil]at hfl
  have hA:=add_ok fr til kn g1 (addFs fr til kn [] (defK 1 b.crs.length (fun x:Crs=>x.number) c.crs k)) Om 1 (c.crs.getD k default).number 0 (((b.crs.length:Nat):Int)+(k:Int))
  have he:addFs fr til kn [] (defK 1 b.crs.length (fun x:Crs=>x.number) c.crs (k+1))=addFs fr til kn [] (defK 1 b.crs.length (fun x:Crs=>x.number) c.crs k)++[⟨1,(c.crs.getD k default).number,0,((b.crs.length:Nat):Int)+(k:Int),fr,til,kn,(addFs fr til kn [] (defK 1 b.crs.length (fun x:Crs=>x.number) c.crs k)).length⟩]:=by
   show addFs fr til kn [] (_++[_])=_
   rw[addFs_snoc]
   rfl
  generalize addFs fr til kn [] (defK 1 b.crs.length (fun x:Crs=>x.number) c.crs k)=fs at hA hfl he⊢
  have kE:Kp _:=⟨he⟩
  clear he
  (refine gW ?_;intros)
  refine hA.at [.loc 7,.loc 8] rfl ?_ (fun _ _=>⟨rfl,?_⟩)
  .exact⟨rfl,rfl,Tt⟩
  (refine gW ?_;intros)
  refine⟨⟨k+1,g1+1⟩,by show k+1<=c.crs.length;omega,by show c.crs.length-(k+1)<c.crs.length-k;omega,?_⟩
  dsimp only
  rw[kE.h]
  repeat' (first|exact Tt|exact rfl|exact Nat.le_refl _|refine And.intro ?_ ?_)
  all_goals first
   |(intro i hi;exact⟨rfl,rfl⟩)
 obtain rfl:k=c.crs.length:=by omega
 have f1l:=addFs_len fr til kn (defK 1 b.crs.length (fun x:Crs=>x.number) c.crs c.crs.length) []
 rw[defK_len]at f1l
 try rw[List.length_nil]at f1l
 generalize hf1:addFs fr til kn [] (defK 1 b.crs.length (fun x:Crs=>x.number) c.crs c.crs.length)=f1 at f1l⊢
 (refine gW ?_;intros)
 refine loop_rule hT (S:=RB) (fun z=>([(4,lp 0),(5,lp 1),(8,lp 3),(13,lp 5),(15,lp 7),(112,.d (ePrgs c.prg)),(113,dV c.prg.length),(114,dV z.k)],⟨[bX 26 (up (eBok b)),bX 32 (up (eCat c)),bX 34 (up [di fr,di til]),bX 26 (up [.nils,.nils,.nils]),bX 32 (up (eCat (resV c))),bX 83 (up (eSys (sysC c))),bV 83 4 0 1 (rowFn [up (eSys (sysC c))]),bX 144 [dV fr,dV til,dV kn,.osl (.loc 8) z.g 0 (addFs fr til kn f1 (defK 3 b.prg.length (fun x:Prg=>x.number) c.prg z.k)).length],bV 94 8 z.g (addFs fr til kn f1 (defK 3 b.prg.length (fun x:Prg=>x.number) c.prg z.k)).length (rowsOf eFct (addFs fr til kn f1 (defK 3 b.prg.length (fun x:Prg=>x.number) c.prg z.k)))],[]⟩)) (fun z=>z.k<=c.prg.length) (fun z=>c.prg.length-z.k) ⟨0,g1⟩ ?_ ?_ ?_
 .repeat' (first|exact Tt|exact rfl|exact Nat.le_refl _|refine And.intro ?_ ?_)
  all_goals (intro i hi;exact⟨rfl,rfl⟩)
 .exact Nat.zero_le _
 clear hk hk2
 rintro⟨k,g2⟩ hk
 dsimp only at hk⊢
 by_cases hk2:k<c.prg.length
 case pos =>
  have hfl:=addFs_len fr til kn (defK 3 b.prg.length (fun x:Prg=>x.number) c.prg k) f1
  rw[defK_len]at hfl
  try rw[List.length_nil]at hfl
  have hA:=add_ok fr til kn g2 (addFs fr til kn f1 (defK 3 b.prg.length (fun x:Prg=>x.number) c.prg k)) Om 3 (c.prg.getD k default).number 0 (((b.prg.length:Nat):Int)+(k:Int))
  have he:addFs fr til kn f1 (defK 3 b.prg.length (fun x:Prg=>x.number) c.prg (k+1))=addFs fr til kn f1 (defK 3 b.prg.length (fun x:Prg=>x.number) c.prg k)++[⟨3,(c.prg.getD k default).number,0,((b.prg.length:Nat):Int)+(k:Int),fr,til,kn,(addFs fr til kn f1 (defK 3 b.prg.length (fun x:Prg=>x.number) c.prg k)).length⟩]:=by
   show addFs fr til kn f1 (_++[_])=_
   rw[addFs_snoc]
   rfl
  generalize addFs fr til kn f1 (defK 3 b.prg.length (fun x:Prg=>x.number) c.prg k)=fs at hA hfl he⊢
  have kE:Kp _:=⟨he⟩
  clear he
  (refine gW ?_;intros)
  refine hA.at [.loc 7,.loc 8] rfl ?_ (fun _ _=>⟨rfl,?_⟩)
  .exact⟨rfl,rfl,Tt⟩
  (refine gW ?_;intros)
  refine⟨⟨k+1,g2+1⟩,by show k+1<=c.prg.length;omega,by show c.prg.length-(k+1)<c.prg.length-k;omega,?_⟩
  dsimp only
  rw[kE.h]
  repeat' (first|exact Tt|exact rfl|exact Nat.le_refl _|refine And.intro ?_ ?_)
  all_goals first
   |(intro i hi;exact⟨rfl,rfl⟩)
 obtain rfl:k=c.prg.length:=by omega
 have f2l:=addFs_len fr til kn (defK 3 b.prg.length (fun x:Prg=>x.number) c.prg c.prg.length) f1
 rw[defK_len]at f2l
 try rw[List.length_nil]at f2l
 generalize hf2:addFs fr til kn f1 (defK 3 b.prg.length (fun x:Prg=>x.number) c.prg c.prg.length)=f2 at f2l⊢
 (refine gW ?_;intros)
 refine loop_rule hT (S:=RB) (fun z=>([(4,lp 0),(5,lp 1),(8,lp 3),(13,lp 5),(15,lp 7),(129,.d (ePais c.same)),(130,dV c.same.length),(131,dV z.k)],⟨[bX 26 (up (eBok b)),bX 32 (up (eCat c)),bX 34 (up [di fr,di til]),bX 26 (up [.nils,.nils,.nils]),bX 32 (up (eCat (resV c))),bX 83 (up (eSys (sysC c))),bV 83 4 0 1 (rowFn [up (eSys (sysC c))]),bX 144 [dV fr,dV til,dV kn,.osl (.loc 8) z.g 0 (addFs fr til kn f2 (samK c.same z.k)).length],bV 94 8 z.g (addFs fr til kn f2 (samK c.same z.k)).length (rowsOf eFct (addFs fr til kn f2 (samK c.same z.k)))],[]⟩)) (fun z=>z.k<=c.same.length) (fun z=>c.same.length-z.k) ⟨0,g2⟩ ?_ ?_ ?_
 .repeat' (first|exact Tt|exact rfl|exact Nat.le_refl _|refine And.intro ?_ ?_)
  all_goals (intro i hi;exact⟨rfl,rfl⟩)
 .exact Nat.zero_le _
 clear hk hk2
 rintro⟨k,g3⟩ hk
 dsimp only at hk⊢
 by_cases hk2:k<c.same.length
 case pos =>
  have hfl:=addFs_len fr til kn (samK c.same k) f2
  rw[samK_len]at hfl
  try rw[List.length_nil]at hfl
  have hA:=add_ok fr til kn g3 (addFs fr til kn f2 (samK c.same k)) Om 2 (min (c.same.getD k default).x (c.same.getD k default).y) (max (c.same.getD k default).x (c.same.getD k default).y) 1
  have he:addFs fr til kn f2 (samK c.same (k+1))=addFs fr til kn f2 (samK c.same k)++[⟨2,min (c.same.getD k default).x (c.same.getD k default).y,max (c.same.getD k default).x (c.same.getD k default).y,1,fr,til,kn,(addFs fr til kn f2 (samK c.same k)).length⟩]:=by
   show addFs fr til kn f2 (_++[_])=_
   rw[addFs_snoc]
   rfl
  generalize addFs fr til kn f2 (samK c.same k)=fs at hA hfl he⊢
  have kE:Kp _:=⟨he⟩
  clear he
  (refine gW ?_;intros)
  refine hA.at [.loc 7,.loc 8] rfl ?_ (fun _ _=>⟨rfl,?_⟩)
  .exact⟨rfl,rfl,Tt⟩
  (refine gW ?_;intros)
  refine⟨⟨k+1,g3+1⟩,by show k+1<=c.same.length;omega,by show c.same.length-(k+1)<c.same.length-k;omega,?_⟩
  dsimp only
  rw[kE.h]
  repeat' (first|exact Tt|exact rfl|exact Nat.le_refl _|refine And.intro ?_ ?_)
  all_goals first
   |(intro i hi;exact⟨rfl,rfl⟩)
 obtain rfl:k=c.same.length:=by omega
 have f3l:=addFs_len fr til kn (samK c.same c.same.length) f2
 rw[samK_len]at f3l
 try rw[List.length_nil]at f3l
 have hF:insF b c fr til kn=insN b.crs (b.crs++c.crs) kn (addFs fr til kn (addFs fr til kn f2 (samK c.same c.same.length)) (insS b c)):=by
  unfold insF insQ
  rw[addFs_app,addFs_app,addFs_app,hf1,hf2]
 rw[hF]
 clear hF
 generalize addFs fr til kn f2 (samK c.same c.same.length)=f3 at f3l⊢
 (refine gS ?_;intros)
 refine Sq.go ?_;(refine gS ?_;intros)
 refine Sq.alt (Awp.le (env':=[(4,lp 0),(5,lp 1),(8,lp 3),(13,lp 5),(15,lp 7)]) (m':=⟨[bX 26 (up (eBok b)),bX 32 (up (eCat c)),bX 34 (up [di fr,di til]),bX 26 (up [.nils,.nils,.nils]),bX 32 (up (eCat (resV c))),bX 83 (up (eSys (sysC c))),bV 83 4 0 1 (rowFn [up (eSys (sysC c))]),bX 144 [dV fr,dV til,dV kn,.osl (.loc 8) g3 0 (f3).length],bV 94 8 g3 (f3).length (rowsOf eFct (f3))],[]⟩) ?_ (insDraw b c fr til kn g3 f3 Om Om Om Om Om Om))
 repeat' (first|exact Tt|exact rfl|exact Nat.le_refl _|refine And.intro ?_ ?_)
 all_goals (intro i hi;exact⟨rfl,rfl⟩)
theorem resSame (c:Cat) (hF:CatF c) (hQ:c.prg.all lenP=true) (hV:(c.same.all (okY c.crs) && c.prg.all (okP' c.crs))=false→resE c=110) (hW:(c.same.all (okY c.crs) && c.prg.all (okP' c.crs))=true→resE c=ordE c.crs) :
 Awp Tryz.prog 224 (resCode 14) [(1,ap 0),(2,ap 1),(3,ap 2),(10,lp 0)] ⟨[bX 32 [.osl (.loc 1) 1 0 c.crs.length,.osl (.loc 2) 1 0 c.same.length,.osl (.loc 3) 1 0 c.prg.length,.d (eClss c.classes),.d (eFees c.fees),.d (eClss c.honours),.d (eClas c.clauses)],bV 68 16 1 c.crs.length (rowsOf eCrs (mixL (resX c.crs) c.crs c.crs.length)),bV 131 4 1 c.same.length (rowsOf ePai c.same),bV 78 7 1 c.prg.length (rowsOf ePrg c.prg)],ownR c⟩ (resQ' c):=by
 have hsl:=hF.same
 have hcl:=hF.crs
 have kV:Kp _:=⟨hV⟩
 have kW:Kp _:=⟨hW⟩
 clear hV hW
 unfold resQ'
 refine Awp.of_vc hT ?_
 (refine gW ?_;intros)
 refine loop_rule hT (S:=Nat) (fun k=>([(1,ap 0),(2,ap 1),(3,ap 2),(10,lp 0),(127,.osl (.loc 2) 1 0 c.same.length),(128,dV c.same.length),(129,dV k)],⟨[bX 32 [.osl (.loc 1) 1 0 c.crs.length,.osl (.loc 2) 1 0 c.same.length,.osl (.loc 3) 1 0 c.prg.length,.d (eClss c.classes),.d (eFees c.fees),.d (eClss c.honours),.d (eClas c.clauses)],bV 68 16 1 c.crs.length (rowsOf eCrs (mixL (resX c.crs) c.crs c.crs.length)),bV 131 4 1 c.same.length (rowsOf ePai (mixL (resY c.crs) c.same k)),bV 78 7 1 c.prg.length (rowsOf ePrg c.prg)],ownR c⟩)) (fun k=>k<=c.same.length/\(c.same.take k).all (okY c.crs)=true) (fun k=>c.same.length-k) 0 ?_ ?_ ?_
 .rw[mixL_zero]
  repeat' (first|exact Tt|exact rfl|exact Nat.le_refl _|refine And.intro ?_ ?_)
  all_goals (intro i hi;exact⟨rfl,rfl⟩)
 .exact⟨Nat.zero_le _,rfl⟩
 rintro k ⟨hk,ht⟩
 have kt:Kp _:=⟨ht⟩
 clear ht
 dsimp only at hk⊢
 by_cases hk2:k<c.same.length
 case pos =>
  have hLl:=mixL_len (resY c.crs) c.same k
  have hLk:=mixL_at (resY c.crs) hk2
  have kS:Kp _:=⟨fun y hy j hj=>mixL_set (resY c.crs) ePai (l:=c.same) (k:=k) y hy (j:=j) hj⟩
  have hbad:okY c.crs (c.same.getD k default)=false->resE c=110:=fun h=>kV.h (by
   have:c.same.all (okY c.crs)=false:=List.all_eq_false.2 ⟨_,getD_mem hk2,by rw[h];exact Bool.false_ne_true⟩
   rw[this]
   rfl)
  have hgood:okY c.crs (c.same.getD k default)=true->(c.same.take (k+1)).all (okY c.crs)=true:=fun h=>by rw[take_succ_at hk2,List.all_append,kt.h,List.all_cons,h];rfl
  rw[<-hLk]at hbad hgood
  generalize mixL (resY c.crs) c.same k=L at hLl hLk kS hbad hgood⊢
  have hA:=numberM_ok c Om (L.getD k default).a (L.getD k default).x
  have hB:=numberM_ok c Om (L.getD k default).b (L.getD k default).y
  rw[okY]at hbad
  have kg:Kp _:=⟨hgood⟩
  clear hgood
  have kLk:Kp _:=⟨hLk⟩
  clear hLk
  cases ha:(numO c.crs (L.getD k default).a (L.getD k default).x).isSome with
  | false =>
    rw[ha]at hA hbad
    have hP:=hA.2 rfl
    have he:=hbad rfl
    clear ha hA hB hbad
    (refine gS ?_;intros)
    refine Sq.go ?_;(refine gS ?_;intros)
    refine Sq.go ?_;(refine gS ?_;intros)
    refine Sq.alt (Awp.panD hT Kr Kr Kr [11] [17,20,23] (chE 110) Kr ?_)
    conv=>whnf
    (refine gS ?_;intros)
    refine⟨?_,resPan' c 110 he Dc rfl⟩
    conv=>whnf
    (refine gS ?_;intros)
    exact Pan.vc hP ⟨.d,.d,.d,Tt⟩ rfl
  | true =>
    rw[ha]at hA hbad
    have hA1:=hA.1 rfl
    cases hb:(numO c.crs (L.getD k default).b (L.getD k default).y).isSome with
    | false =>
      rw[hb]at hB hbad
      have hP:=hB.2 rfl
      have he:=hbad rfl
      clear ha hA hB hbad hb
      (refine gS ?_;intros)
      refine Sq.go ?_;(refine gS ?_;intros)
      refine Sq.go ?_;(refine gS ?_;intros)
      refine Sq.alt (Awp.panD hT Kr Kr Kr [17] [20,23] (chE 110) Kr ?_)
      conv=>whnf
      (refine gS ?_;intros)
      refine qC hA1 ?_
      (refine gS ?_;intros)
      refine⟨?_,resPan' c 110 he Dc rfl⟩
      conv=>whnf
      (refine gS ?_;intros)
      exact Pan.vc hP ⟨.d,.d,.d,Tt⟩ rfl
    | true =>
      rw[hb]at hB
      have hB1:=hB.1 rfl
      have hkt:=kg.h (by rw[okY,ha,hb];rfl)
      clear ha hA hB hbad hb
      (refine gS ?_;intros)
      refine Sq.go ?_;(refine gS ?_;intros)
      refine Sq.go ?_;(refine gS ?_;intros)
      refine Sq.alt (Awp.effsF (m:=⟨[bX 32 [.osl (.loc 1) 1 0 c.crs.length,.osl (.loc 2) 1 0 c.same.length,.osl (.loc 3) 1 0 c.prg.length,.d (eClss c.classes),.d (eFees c.fees),.d (eClss c.honours),.d (eClas c.clauses)],bV 68 16 1 c.crs.length (rowsOf eCrs (mixL (resX c.crs) c.crs c.crs.length)),bV 131 4 1 c.same.length (rowsOf ePai L),bV 78 7 1 c.prg.length (rowsOf ePrg c.prg),bX 131 (up (ePai (L.getD k default)))],ownR c⟩) hT Kr Kr Kr
       ⟨[bX 32 [.osl (.loc 1) 1 0 c.crs.length,.osl (.loc 2) 1 0 c.same.length,.osl (.loc 3) 1 0 c.prg.length,.d (eClss c.classes),.d (eFees c.fees),.d (eClss c.honours),.d (eClas c.clauses)],bV 68 16 1 c.crs.length (rowsOf eCrs (mixL (resX c.crs) c.crs c.crs.length)),bV 131 4 1 c.same.length fun _=>jks 4,bV 78 7 1 c.prg.length (rowsOf ePrg c.prg),bX 131 (up (ePai (L.getD k default)))],ownR c⟩ 5 3
       [⟨20,.junk,⟨[some (.box 32 [.osl (.loc 1) 1 0 c.crs.length,.osl (.loc 2) 1 0 c.same.length,.osl (.loc 3) 1 0 c.prg.length,.d (eClss c.classes),.d (eFees c.fees),.d (eClss c.honours),.d (eClas c.clauses)]),some (.vec 68 16 1 c.crs.length (rowsOf eCrs (mixL (resX c.crs) c.crs c.crs.length))),some (.vec 131 4 1 c.same.length (fun j=>bif Nat.beq j k then splice (rowsOf ePai L k) 2 [.d (.int .i64 ((numO c.crs (L.getD k default).a (L.getD k default).x).getD 0))] else rowsOf ePai L j)),some (.vec 78 7 1 c.prg.length (rowsOf ePrg c.prg)),some (.box 131 (up (ePai (L.getD k default))))],ownR c⟩,[]⟩,
        ⟨23,.junk,⟨[bX 32 [.osl (.loc 1) 1 0 c.crs.length,.osl (.loc 2) 1 0 c.same.length,.osl (.loc 3) 1 0 c.prg.length,.d (eClss c.classes),.d (eFees c.fees),.d (eClss c.honours),.d (eClas c.clauses)],bV 68 16 1 c.crs.length (rowsOf eCrs (mixL (resX c.crs) c.crs c.crs.length)),bV 131 4 1 c.same.length (fun j=>bif Nat.beq j k then splice (bif Nat.beq k k then splice (rowsOf ePai L k) 2 [dV ((numO c.crs (L.getD k default).a (L.getD k default).x).getD 0)] else rowsOf ePai L k) 3 [dV ((numO c.crs (L.getD k default).b (L.getD k default).y).getD 0)] else(bif Nat.beq j k then splice (rowsOf ePai L k) 2 [dV ((numO c.crs (L.getD k default).a (L.getD k default).x).getD 0)] else rowsOf ePai L j)),bV 78 7 1 c.prg.length (rowsOf ePrg c.prg),bX 131 (up (ePai (L.getD k default)))],ownR c⟩,[20]⟩]
       Kr rfl rfl (WeakF.of ⟨.inl rfl,.inl rfl,.inr ⟨_,rfl,WeakB.vecJ (fun i _=>Tt)⟩,.inl rfl,.inl rfl,Tt⟩ ⟨.inl rfl,.inl rfl,.inl rfl,Tt⟩)
       ⟨WeakF.of ⟨.inl rfl,.inl rfl,.inr ⟨_,rfl,WeakB.vecJ (fun i _=>jks_JL _ (by cases Nat.beq i k<;>rfl))⟩,.inl rfl,.inl rfl,Tt⟩ ⟨.inl rfl,.inl rfl,.inl rfl,Tt⟩,WeakF.of ⟨.inl rfl,.inl rfl,.inr ⟨_,rfl,WeakB.vecJ (fun i _=>jks_JL _ (by cases Nat.beq i k<;>(rw[Nat.beq_refl];rfl)))⟩,.inl rfl,.inl rfl,Tt⟩ ⟨.inl rfl,.inl rfl,.inl rfl,Tt⟩,Tt⟩ ?_)
      conv=>whnf
      (refine gS ?_;intros)
      refine qC hA1 ?_
      (refine gS ?_;intros)
      refine qC hB1 ?_
      (refine gS ?_;intros)
      refine⟨?_,?_,?_⟩
      .conv=>whnf
       (refine gS ?_;intros)
       exact⟨Tt,rfl⟩
      .conv=>whnf
       (refine gS ?_;intros)
       exact⟨Tt,rfl⟩
      conv=>whnf
      (refine gW ?_;intros)
      refine⟨k+1,⟨by show k+1<=c.same.length;omega,hkt⟩,by show c.same.length-(k+1)<c.same.length-k;omega,?_⟩
      repeat' (first|exact Tt|exact rfl|exact Nat.le_refl _|refine And.intro ?_ ?_)
      all_goals first
       | (intro i hi
          refine⟨?_,rfl⟩
          refine Eq.trans ?_ (kS.h (splice (splice (rowsOf ePai L k) 2 [dV ((numO c.crs (L.getD k default).a (L.getD k default).x).getD 0)]) 3 [dV ((numO c.crs (L.getD k default).b (L.getD k default).y).getD 0)]) (by show splice (splice (up (ePai (L.getD k default))) 2 _) 3 _=_;rw[kLk.h];rfl) i hi)
          show(bif Nat.beq i k then splice (bif Nat.beq k k then splice (rowsOf ePai L k) 2 [dV ((numO c.crs (L.getD k default).a (L.getD k default).x).getD 0)] else rowsOf ePai L k) 3 [dV ((numO c.crs (L.getD k default).b (L.getD k default).y).getD 0)] else(bif Nat.beq i k then splice (rowsOf ePai L k) 2 [dV ((numO c.crs (L.getD k default).a (L.getD k default).x).getD 0)] else rowsOf ePai L i))=_
          rw[Nat.beq_refl,cond_true]
          cases Nat.beq i k<;>rfl)
       |(intro i hi;exact⟨rfl,rfl⟩)
 obtain rfl:k=c.same.length:=by omega
 have hX:c.same.all (okY c.crs)=true:=by
  have:=kt.h
  rwa [List.take_length]at this
 rw[hX,Bool.true_and]at kV kW
 clear hX kt hk hk2
 (refine gS ?_;intros)
 refine Sq.go ?_;(refine gS ?_;intros)
 refine Sq.alt (Awp.le (env':=[(1,ap 0),(2,ap 1),(3,ap 2),(10,lp 0)]) (m':=⟨[bX 32 [.osl (.loc 1) 1 0 c.crs.length,.osl (.loc 2) 1 0 c.same.length,.osl (.loc 3) 1 0 c.prg.length,.d (eClss c.classes),.d (eFees c.fees),.d (eClss c.honours),.d (eClas c.clauses)],bV 68 16 1 c.crs.length (rowsOf eCrs (mixL (resX c.crs) c.crs c.crs.length)),bV 131 4 1 c.same.length (rowsOf ePai (mixL (resY c.crs) c.same c.same.length)),bV 78 7 1 c.prg.length (rowsOf ePrg c.prg)],ownR c⟩) ?_ (resPrg c hF hQ kV.h kW.h))
 repeat' (first|exact Tt|exact rfl|exact Nat.le_refl _|refine And.intro ?_ ?_)
 all_goals (intro i hi;exact⟨rfl,rfl⟩)
end Go.Proofs.YtmlhghddfobmmaaGreatDoor
