import Derived.Test.YtmlhghddfobmmaaGreatDoorNmG
import Derived.Test.YtmlhghddfobmmaaGreatDoorBookI
namespace Go.Proofs.YtmlhghddfobmmaaGreatDoor
set_option linter.unusedSimpArgs false
set_option linter.unusedVariables false
open Go Go.Ab
set_option maxRecDepth 100000
set_option maxHeartbeats 0
theorem Ac {m:Mem}{r:Ref}{α:Type}[Inhabited α](F:α->α)(l:List α){e sz:Nat}{enc:α->List D}(h:m.get r=bV e sz 1 l.length (rowsOf enc (J8 F l l.length))) :
 J9 m (.osl r 1 0 l.length) (.sl sz (l.map F).length fun i=>enc ((l.map F).getD i default)):=by
 rw[Qhb]
 exact .rows h (Qhz (Qh9 _)) fun i hi=>by rw[Qh9,Ef];rfl
theorem Q76 (q:List Int)(hq:q.length<=1000000):Qz Tryz.prog 71 [.d (J6 q)] ⟨[],[]⟩
 (Ret (fun _:Unit=>([.osl (.loc 0) 1 0 q.length],⟨[bV 3 1 1 q.length (Jz q)],[]⟩)) fun _=>True):=by
 refine Zv hT (T:=tab) (N:=8) (rs:=[.tmp 2]) _ _ Tryz.func71 rfl rfl rfl Kr rfl ?_
 (refine gW ?_;intros)
 refine Lk rfl Tryz.underlying53 rfl rfl (fun b hb=>?_)
 cases b
 ·(refine gW ?_;intros)
  refine⟨(),Tt,?_,rfl⟩
  repeat' (first|exact Tt|exact rfl|exact Qgx _|refine And.intro ?_ ?_)
  .show AV.osl (.loc 0) (0+1) 0 (0+q.length)=AV.osl (.loc 0) 1 0 q.length
   rw[Qh9 q.length]
  .show q.length<=0+q.length
   omega
  all_goals first
   | (show 0 + q.length=q.length
      omega)
   | (show 0 + q.length≤q.length
      omega)
   | (show q.length=0 + q.length
      omega)
   | (intro j hj
      refine⟨?_,rfl⟩
      rw[Je,show j.blt 0=false from rfl]
      rfl)
 .have h0:q=[]:=Qi4 (hb rfl)
  subst h0
  (refine gS ?_;intros)
  refine Sq.go ?_
  (refine gS ?_;intros)
  refine Sq.alt (Awp.vecG 2 3 1 1 (Jz []) rfl (Z3 hT _ _ _ _ (Ev.o ?_)))
  (refine gW ?_;intros)
  refine⟨(),Tt,?_,rfl⟩
  repeat' (first|exact Tt|exact rfl|exact Qgx _|refine And.intro ?_ ?_)
  all_goals (intro j hj;exact absurd hj (Qhh j))
def frK (l:List Crs)(q:Req)(i:Nat):List Int:=(frL l q).take i++q.fr.drop i
theorem L4 (l:List Crs){q:Req}(h:Vs q=true):(frL l q).length=q.fr.length:=by
 have:=Qhd h
 rw[frL,List.length_zipWith,this,Nat.min_self]
theorem Q9v (l:List Crs){q:Req}(h:Vs q=true)(i:Nat):(frK l q i).length=q.fr.length:=by
 rw[frK,Qhc,Qhr,List.length_drop,L4 l h]
 omega
theorem Q9x (l:List Crs)(q:Req):frK l q 0=q.fr:=by simp[frK]
theorem Q9u (l:List Crs){q:Req}(h:Vs q=true):frK l q q.fr.length=frL l q:=by
 rw[frK,List.drop_length,Qih,<-L4 l h,Qhp]
theorem Q0v (l:List Crs){q:Req}(h:Vs q=true){i:Nat}(hi:i<q.fr.length):(frL l q).getD i default=(Qx l (q.names.getD i default) (q.fr.getD i default)).getD 0:=by
 have hn:i<q.names.length:=by rw[Qhd h];exact hi
 simp only[frL,Qha,List.getElem?_zipWith,Qgy hi,Qgy hn,Qi3]
theorem Q9w (l:List Crs){q:Req}(h:Vs q=true){i:Nat}(hi:i<q.fr.length)(y:Int)(hy:y=(Qx l (q.names.getD i default) (q.fr.getD i default)).getD 0){j:Nat}(hj:j<q.fr.length) :
 (bif Nat.beq j i then[dV y] else Jz (frK l q i) j)=Jz (frK l q (i+1)) j:=by
 have hL:=L4 l h
 have hgen:∀i,i<=q.fr.length->(frK l q i).getD j default=if j<i then(frL l q).getD j default else q.fr.getD j default:=fun i hi=>by
  simp only[frK,Qha]
  by_cases hji:j<i
  .rw[if_pos hji,Qhj (by rw[Qhr];omega),Qid,if_pos hji]
  .rw[if_neg hji,Qhu (by rw[Qhr];omega),Qij,Qhr]
   congr 2
   omega
 unfold Jz
 rw[hgen i Om,hgen (i+1) Om]
 cases hb:Nat.beq j i with
 | true =>
   have:=Qh1 hb
   subst this
   rw[cond_true,if_pos (Nat.lt_succ_self _),hy,Q0v l h hj]
 | false =>
   have:=Qhv hb
   rw[cond_false]
   by_cases h1:j<i
   .rw[if_pos h1,if_pos Om]
   .rw[if_neg h1,if_neg Om]
theorem Q2n (l:List Crs){q:Req}(h:Vs q=true):okQ l q=true↔∀x,x<q.names.length->(Qx l (q.names.getD x default) (q.fr.getD x default)).isSome=true:=by
 have hl:=Qhd h
 rw[okQ,Qi8]
 constructor
 .intro H x hx
  have hx2:x<q.fr.length:=by omega
  have:=H _ (List.getElem_mem (l:=List.zipWith (fun s n=>(Qx l s n).isSome) q.names q.fr) (n:=x) (by rw[List.length_zipWith];omega))
  rw[List.getElem_zipWith]at this
  simpa only[id,Qha,Qgy hx,Qgy hx2,Qi3] using this
 .intro H b hb
  obtain⟨x,hx,rfl⟩:=List.mem_iff_getElem.1 hb
  rw[List.length_zipWith]at hx
  have h1:x<q.names.length:=by omega
  have h2:x<q.fr.length:=by omega
  have:=H x h1
  rw[List.getElem_zipWith]
  simpa only[id,Qha,Qgy h1,Qgy h2,Qi3] using this
def Us (Lq:List Req)(j nf:Nat):Nat->List AV:=fun i=>[.d (.str (Lq.getD i default).name),dV (Lq.getD i default).credits,dV (Lq.getD i default).grade,.d (.bool (Lq.getD i default).home),.d (Y0 (Lq.getD i default).names),bif Nat.beq i j then .osl (.loc 7) 1 0 nf else .d (J6 (Lq.getD i default).fr)]
theorem Qe7 (c:Cat) (hF:Yl c) (hQ:c.prg.all Vr=true) (hV:c.prg.all (Zk c.crs)=false→J1 c=110) (hW:c.prg.all (Zk c.crs)=true→J1 c=Xp c.crs) :
 Awp Tryz.prog 224 (Q3l 15) [(1,ap 0),(2,ap 1),(3,ap 2),(10,lp 0)] ⟨[bX 32 [.osl (.loc 1) 1 0 c.crs.length,.osl (.loc 2) 1 0 c.same.length,.osl (.loc 3) 1 0 c.prg.length,.d (Qk c.classes),.d (Jk c.fees),.d (Qk c.honours),.d (Jq c.clauses)],bV 68 16 1 c.crs.length (rowsOf Q6 (J8 (Jo c.crs) c.crs c.crs.length)),bV 131 4 1 c.same.length (rowsOf Qv (J8 (Zm c.crs) c.same c.same.length)),bV 78 7 1 c.prg.length (rowsOf Q9 c.prg)],Jy c⟩ (Ft c):=by
 have hpl:=hF.prg
 have hcl:=hF.crs
 have kV:Kp _:=⟨hV⟩
 have kW:Kp _:=⟨hW⟩
 clear hV hW
 unfold Ft
 refine Awp.of_vc hT ?_
 (refine gW ?_;intros)
 refine Q7 hT (S:=Nat) (fun k=>([(1,ap 0),(2,ap 1),(3,ap 2),(10,lp 0),(158,.osl (.loc 3) 1 0 c.prg.length),(159,dV c.prg.length),(160,dV k)],⟨[bX 32 [.osl (.loc 1) 1 0 c.crs.length,.osl (.loc 2) 1 0 c.same.length,.osl (.loc 3) 1 0 c.prg.length,.d (Qk c.classes),.d (Jk c.fees),.d (Qk c.honours),.d (Jq c.clauses)],bV 68 16 1 c.crs.length (rowsOf Q6 (J8 (Jo c.crs) c.crs c.crs.length)),bV 131 4 1 c.same.length (rowsOf Qv (J8 (Zm c.crs) c.same c.same.length)),bV 78 7 1 c.prg.length (rowsOf Q9 (J8 (Vw c.crs) c.prg k))],Jy c⟩)) (fun k=>k<=c.prg.length/\(c.prg.take k).all (Zk c.crs)=true) (fun k=>c.prg.length-k) 0 ?_ ?_ ?_
 .rw[M6]
  repeat' (first|exact Tt|exact rfl|exact Qgx _|refine And.intro ?_ ?_)
  all_goals (intro i hi;exact⟨rfl,rfl⟩)
 .exact⟨Qh3 _,rfl⟩
 rintro k ⟨hk,ht⟩
 have kt:Kp _:=⟨ht⟩
 clear ht
 dsimp only at hk⊢
 by_cases hk2:k<c.prg.length
 case pos =>
  have hLl:=M5 (Vw c.crs) c.prg k
  have hLk:=M3 (Vw c.crs) hk2
  have kS:Kp _:=⟨fun y hy j hj=>Dz (Vw c.crs) Q9 (l:=c.prg) (k:=k) y hy (j:=j) hj⟩
  have hbad:Zk c.crs (c.prg.getD k default)=false->J1 c=110:=fun h=>kV.h (List.all_eq_false.2 ⟨_,Qe hk2,by rw[h];exact Qhl⟩)
  have hgood:Zk c.crs (c.prg.getD k default)=true->(c.prg.take (k+1)).all (Zk c.crs)=true:=fun h=>by rw[Js hk2,Qii,kt.h,Qi5,h];rfl
  obtain⟨hrl,hrq⟩:=hF.reqs _ (Qe hk2)
  have hlp:(c.prg.getD k default).reqs.all Vs=true:=Qi8.1 hQ _ (Qe hk2)
  rw[<-hLk]at hbad hgood hrl hrq hlp
  generalize J8 (Vw c.crs) c.prg k=L at hLl hLk kS hbad hgood hrl hrq hlp⊢
  have kb:Kp _:=⟨hbad⟩
  have kg:Kp _:=⟨hgood⟩
  have kq:Kp (∀q∈(L.getD k default).reqs,Vs q=true/\q.names.length<=1000):=⟨fun q hq=>⟨Qi8.1 hlp q hq,(hrq q hq).1⟩⟩
  have kLk:Kp _:=⟨hLk⟩
  clear hLk hbad hgood hrq hlp
  have hC:=Q79 (L.getD k default).reqs Om
  (refine gW ?_;intros)
  refine hC.at [] rfl Tt (fun _ _=>⟨rfl,?_⟩)
  (refine gW ?_;intros)
  refine Q7 hT (S:=Nat) (fun j=>([(1,ap 0),(2,ap 1),(3,ap 2),(10,lp 0),(14,dV k),(16,.osl (.loc 5) 1 0 (L.getD k default).reqs.length),(158,.osl (.loc 3) 1 0 c.prg.length),(159,dV c.prg.length),(160,dV k),(168,.osl (.loc 5) 1 0 (L.getD k default).reqs.length),(169,dV (L.getD k default).reqs.length),(170,dV j)],⟨[bX 32 [.osl (.loc 1) 1 0 c.crs.length,.osl (.loc 2) 1 0 c.same.length,.osl (.loc 3) 1 0 c.prg.length,.d (Qk c.classes),.d (Jk c.fees),.d (Qk c.honours),.d (Jq c.clauses)],bV 68 16 1 c.crs.length (rowsOf Q6 (J8 (Jo c.crs) c.crs c.crs.length)),bV 131 4 1 c.same.length (rowsOf Qv (J8 (Zm c.crs) c.same c.same.length)),bV 78 7 1 c.prg.length (rowsOf Q9 L),bX 78 (up (Q9 (L.getD k default))),bV 106 6 1 (L.getD k default).reqs.length (rowsOf Jv (J8 (X5 c.crs) (L.getD k default).reqs j))],Jy c⟩)) (fun j=>j<=(L.getD k default).reqs.length/\((L.getD k default).reqs.take j).all (okQ c.crs)=true) (fun j=>(L.getD k default).reqs.length-j) 0 ?_ ?_ ?_
  .rw[M6]
   repeat' (first|exact Tt|exact rfl|exact Qgx _|refine And.intro ?_ ?_)
   all_goals (intro i hi;exact⟨rfl,rfl⟩)
  .exact⟨Qh3 _,rfl⟩
  rintro j ⟨hj,hu⟩
  have ku:Kp _:=⟨hu⟩
  clear hu
  dsimp only at hj⊢
  by_cases hj2:j<(L.getD k default).reqs.length
  case pos =>
   have hMl:=M5 (X5 c.crs) (L.getD k default).reqs j
   have hMk:=M3 (X5 c.crs) hj2
   have kM:Kp _:=⟨fun i (hi:i<(L.getD k default).reqs.length)=>M4 (X5 c.crs) (k:=j) hi⟩
   have kM1:Kp _:=⟨fun i (hi:i<(L.getD k default).reqs.length)=>M4 (X5 c.crs) (k:=j+1) hi⟩
   have hq:=kq.h _ (Qe hj2)
   rw[<-hMk]at hq
   generalize J8 (X5 c.crs) (L.getD k default).reqs j=Lq at hMl hMk kM hq⊢
   obtain⟨hq1,hq2⟩:=hq
   have hq3:=Qhd hq1
   have hI:=Q76 (Lq.getD j default).fr Om
   have kMk:Kp _:=⟨hMk⟩
   clear hMk
   (refine gW ?_;intros)
   refine hI.at [] rfl Tt (fun _ _=>⟨rfl,?_⟩)
   (refine gW ?_;intros)
   refine Q7 hT (S:=Nat) (fun i=>([(1,ap 0),(2,ap 1),(3,ap 2),(10,lp 0),(14,dV k),(16,.osl (.loc 5) 1 0 (L.getD k default).reqs.length),(158,.osl (.loc 3) 1 0 c.prg.length),(159,dV c.prg.length),(160,dV k),(168,.osl (.loc 5) 1 0 (L.getD k default).reqs.length),(169,dV (L.getD k default).reqs.length),(170,dV j),(17,dV j),(18,lp 6),(183,.d (Y0 (Lq.getD j default).names)),(184,dV (Lq.getD j default).names.length),(185,dV i)],⟨[bX 32 [.osl (.loc 1) 1 0 c.crs.length,.osl (.loc 2) 1 0 c.same.length,.osl (.loc 3) 1 0 c.prg.length,.d (Qk c.classes),.d (Jk c.fees),.d (Qk c.honours),.d (Jq c.clauses)],bV 68 16 1 c.crs.length (rowsOf Q6 (J8 (Jo c.crs) c.crs c.crs.length)),bV 131 4 1 c.same.length (rowsOf Qv (J8 (Zm c.crs) c.same c.same.length)),bV 78 7 1 c.prg.length (rowsOf Q9 L),bX 78 (up (Q9 (L.getD k default))),bV 106 6 1 (L.getD k default).reqs.length (Us Lq j (Lq.getD j default).fr.length),bX 106 (up (Jv (Lq.getD j default))),bV 3 1 1 (Lq.getD j default).fr.length (Jz (frK c.crs (Lq.getD j default) i))],Jy c⟩)) (fun i=>i<=(Lq.getD j default).names.length/\∀x,x<i->(Qx c.crs ((Lq.getD j default).names.getD x default) ((Lq.getD j default).fr.getD x default)).isSome=true) (fun i=>(Lq.getD j default).names.length-i) 0 ?_ ?_ ?_
   .rw [Q9x]
    repeat' (first|exact Tt|exact rfl|exact Qgx _|refine And.intro ?_ ?_)
    all_goals first
     |(intro i hi;exact⟨rfl,rfl⟩)
     | (intro i hi
        refine⟨?_,?_⟩
        .show(bif Nat.beq i j then splice (rowsOf Jv Lq j) 5 [AV.osl (.loc 7) 1 0 (Lq.getD j default).fr.length] else rowsOf Jv Lq i)=_
         cases hb:Nat.beq i j with
         | true =>
           have:=Qh1 hb
           subst this
           rw[Us,hb]
           rfl
         | false =>
           rw[Us,hb]
           rfl
        .unfold Us
         cases Nat.beq i j<;>rfl)
   .exact⟨Qh3 _,fun x h=>absurd h (Qhh x)⟩
   rintro i ⟨hi,hv⟩
   have kv:Kp _:=⟨hv⟩
   clear hv
   dsimp only at hi⊢
   by_cases hi2:i<(Lq.getD j default).names.length
   case pos =>
    have hfl:=Q9v c.crs hq1 i
    have he:(Qx c.crs ((Lq.getD j default).names.getD i default) ((Lq.getD j default).fr.getD i default)).isSome=false->J1 c=110:=fun h=>by
     refine kb.h (List.all_eq_false.2 ⟨(L.getD k default).reqs.getD j default,Qe hj2,?_⟩)
     rw[<-kMk.h]
     intro hh
     have:=(Q2n c.crs hq1).1 hh i hi2
     rw[h]at this
     cases this
    have hM:=Lh c Om ((Lq.getD j default).names.getD i default) ((Lq.getD j default).fr.getD i default)
    have hbj:Nat.beq (Rs 0 ((j:Int)).toNat) j=true:=Nat.beq_refl j
    cases hn:(Qx c.crs ((Lq.getD j default).names.getD i default) ((Lq.getD j default).fr.getD i default)).isSome with
    | false =>
      rw[hn]at hM
      have hP:=hM.2 rfl
      clear hM
      (refine gS ?_;intros)
      refine Sq.go ?_;(refine gS ?_;intros)
      refine Sq.go ?_;(refine gS ?_;intros)
      refine Sq.alt (Awp.panD hT Kr Kr Kr [13] [15] (chE 110) Kr ?_)
      conv=>whnf
      (refine gS ?_;intros)
      simp(config:={beta:=false,eta:=false,iota:=false,proj:=false,zeta:=false,decide:=false}) only[hbj,cond_true]
      conv=>whnf
      (refine gS ?_;intros)
      refine⟨?_,Yh c 110 (he hn) Dc rfl⟩
      conv=>whnf
      (refine gS ?_;intros)
      exact Pan.vc hP ⟨.d,.d,.d,Tt⟩ rfl
    | true =>
      rw[hn]at hM
      have hP:=hM.1 rfl
      clear hM
      (refine gS ?_;intros)
      refine Sq.go ?_;(refine gS ?_;intros)
      refine Sq.go ?_;(refine gS ?_;intros)
      refine Sq.alt (Awp.effsF (m:=⟨[bX 32 [.osl (.loc 1) 1 0 c.crs.length,.osl (.loc 2) 1 0 c.same.length,.osl (.loc 3) 1 0 c.prg.length,.d (Qk c.classes),.d (Jk c.fees),.d (Qk c.honours),.d (Jq c.clauses)],bV 68 16 1 c.crs.length (rowsOf Q6 (J8 (Jo c.crs) c.crs c.crs.length)),bV 131 4 1 c.same.length (rowsOf Qv (J8 (Zm c.crs) c.same c.same.length)),bV 78 7 1 c.prg.length (rowsOf Q9 L),bX 78 (up (Q9 (L.getD k default))),bV 106 6 1 (L.getD k default).reqs.length (Us Lq j (Lq.getD j default).fr.length),bX 106 (up (Jv (Lq.getD j default))),bV 3 1 1 (Lq.getD j default).fr.length (Jz (frK c.crs (Lq.getD j default) i))],Jy c⟩) hT Kr Kr Kr
       ⟨[bX 32 [.osl (.loc 1) 1 0 c.crs.length,.osl (.loc 2) 1 0 c.same.length,.osl (.loc 3) 1 0 c.prg.length,.d (Qk c.classes),.d (Jk c.fees),.d (Qk c.honours),.d (Jq c.clauses)],bV 68 16 1 c.crs.length (rowsOf Q6 (J8 (Jo c.crs) c.crs c.crs.length)),bV 131 4 1 c.same.length (rowsOf Qv (J8 (Zm c.crs) c.same c.same.length)),bV 78 7 1 c.prg.length (rowsOf Q9 L),bX 78 (up (Q9 (L.getD k default))),bV 106 6 1 (L.getD k default).reqs.length (Us Lq j (Lq.getD j default).fr.length),bX 106 (up (Jv (Lq.getD j default))),bV 3 1 1 (Lq.getD j default).fr.length fun _=>jks 1],Jy c⟩ 8 3
       [⟨15,.junk,⟨[bX 32 [.osl (.loc 1) 1 0 c.crs.length,.osl (.loc 2) 1 0 c.same.length,.osl (.loc 3) 1 0 c.prg.length,.d (Qk c.classes),.d (Jk c.fees),.d (Qk c.honours),.d (Jq c.clauses)],bV 68 16 1 c.crs.length (rowsOf Q6 (J8 (Jo c.crs) c.crs c.crs.length)),bV 131 4 1 c.same.length (rowsOf Qv (J8 (Zm c.crs) c.same c.same.length)),bV 78 7 1 c.prg.length (rowsOf Q9 L),bX 78 (up (Q9 (L.getD k default))),bV 106 6 1 (L.getD k default).reqs.length (Us Lq j (Lq.getD j default).fr.length),bX 106 (up (Jv (Lq.getD j default))),bV 3 1 1 (Lq.getD j default).fr.length (fun x=>bif Nat.beq x i then[dV ((Qx c.crs ((Lq.getD j default).names.getD i default) ((Lq.getD j default).fr.getD i default)).getD 0)] else Jz (frK c.crs (Lq.getD j default) i) x)],Jy c⟩,[]⟩]
       Kr rfl rfl (Qt.of ⟨.inl rfl,.inl rfl,.inl rfl,.inl rfl,.inl rfl,.inl rfl,.inl rfl,.inr ⟨_,rfl,Qo.vecJ (fun x _=>Tt)⟩,Tt⟩ ⟨.inl rfl,.inl rfl,.inl rfl,Tt⟩)
       ⟨Qt.of ⟨.inl rfl,.inl rfl,.inl rfl,.inl rfl,.inl rfl,.inl rfl,.inl rfl,.inr ⟨_,rfl,Qo.vecJ (fun x _=>Rp _ (by cases Nat.beq x i<;>rfl))⟩,Tt⟩ ⟨.inl rfl,.inl rfl,.inl rfl,Tt⟩,Tt⟩ ?_)
      conv=>whnf
      (refine gS ?_;intros)
      simp(config:={beta:=false,eta:=false,iota:=false,proj:=false,zeta:=false,decide:=false}) only[hbj,cond_true]
      conv=>whnf
      (refine gS ?_;intros)
      refine qC hP ?_
      (refine gS ?_;intros)
      refine⟨?_,?_⟩
      .conv=>whnf
       (refine gS ?_;intros)
       exact⟨Tt,rfl⟩
      conv=>whnf
      (refine gW ?_;intros)
      refine⟨i+1,⟨by show i+1<=(Lq.getD j default).names.length;omega,fun x hx=>by
       rcases Qi6 x i with h1|h1
       .exact kv.h x h1
       .rw[show x=i by omega]
        exact hn⟩,by show(Lq.getD j default).names.length-(i+1)<(Lq.getD j default).names.length-i;omega,?_⟩
      repeat' (first|exact Tt|exact rfl|exact Qgx _|refine And.intro ?_ ?_)
      all_goals first
       | (intro x hx
          refine⟨?_,rfl⟩
          exact Q9w c.crs hq1 Om _ rfl hx)
       |(intro x hx;exact⟨rfl,rfl⟩)
       | (intro x hx
          refine⟨rfl,?_⟩
          unfold Us
          cases Nat.beq x j<;>rfl)
   have hie:i=(Lq.getD j default).names.length:=by omega
   have hok:okQ c.crs (Lq.getD j default)=true:=(Q2n c.crs hq1).2 fun x hx=>kv.h x Om
   have hjt:((L.getD k default).reqs.take (j+1)).all (okQ c.crs)=true:=by
    rw[Js hj2,Qii,ku.h,Qi5,<-kMk.h,hok]
    rfl
   have hfi:frK c.crs (Lq.getD j default) i=frL c.crs (Lq.getD j default):=by rw[hie,hq3,Q9u c.crs hq1]
   rw[hfi]
   clear hok hie hfi kv
   (refine gS ?_;intros)
   refine Sq.go ?_;(refine gS ?_;intros)
   refine Sq.alt (Awp.frzC [7] 5 (rowsOf Jv (J8 (X5 c.crs) (L.getD k default).reqs (j+1))) rfl rfl (fun x hx=>?_) (Z3 hT _ _ _ _ (Ev.o ?_)))
   .have h1:=kM1.h x hx
    have h0:=kM.h x hx
    show BcL _ _ (up (Jv ((J8 (X5 c.crs) (L.getD k default).reqs (j+1)).getD x default)))
    rw[h1]
    by_cases e:x=j
    .subst e
     rw[if_pos (Nat.lt_succ_self _),<-kMk.h,Us,Nat.beq_refl,cond_true]
     refine⟨.inl rfl,.inl rfl,.inl rfl,.inl rfl,.inl rfl,.inr ⟨_,rfl,?_⟩,Tt⟩
     show J9 _ _ (.sl 1 (frL c.crs (Lq.getD x default)).length fun i=>[di ((frL c.crs (Lq.getD x default)).getD i default)])
     rw[L4 c.crs hq1]
     exact .rows rfl (Qhz (Qh9 _)) (fun i hi=>by rw[Qh9];rfl)
    .have e2:Lq.getD x default=if x<j+1 then X5 c.crs ((L.getD k default).reqs.getD x default) else(L.getD k default).reqs.getD x default:=by
      rw[h0]
      by_cases hl:x<j
      .rw[if_pos hl,if_pos Om]
      .rw[if_neg hl,if_neg Om]
     rw[<-e2,Us,show Nat.beq x j=false from Bool.eq_false_iff.2 fun h=>e (Qh1 h),cond_false]
     exact BcL.refl _
   (refine gW ?_;intros)
   refine⟨j+1,⟨by show j+1<=(L.getD k default).reqs.length;omega,hjt⟩,by show(L.getD k default).reqs.length-(j+1)<(L.getD k default).reqs.length-j;omega,?_⟩
   repeat' (first|exact Tt|exact rfl|exact Qgx _|refine And.intro ?_ ?_)
   all_goals first
    |(intro x hx;exact⟨rfl,rfl⟩)
  obtain rfl:j=(L.getD k default).reqs.length:=by omega
  have hop:Zk c.crs (L.getD k default)=true:=by
   have:=ku.h
   rwa [Qhp]at this
  have hkt:=kg.h hop
  clear hop ku
  (refine gS ?_;intros)
  refine Sq.go ?_;(refine gS ?_;intros)
  refine Sq.alt (Awp.frz [5] 16 (.sl 6 (L.getD k default).reqs.length fun i=>Jv (((L.getD k default).reqs.map (X5 c.crs)).getD i default)) (.rows rfl (Qhz (Qh9 _)) (fun i hi=>by rw[Qh9,Ef];rfl)) (Z3 hT _ _ _ _ (Ev.o ?_)))
  (refine gW ?_;intros)
  refine⟨k+1,⟨by show k+1<=c.prg.length;omega,hkt⟩,by show c.prg.length-(k+1)<c.prg.length-k;omega,?_⟩
  repeat' (first|exact Tt|exact rfl|exact Qgx _|refine And.intro ?_ ?_)
  all_goals first
   |(intro x hx;exact⟨rfl,rfl⟩)
   | (intro x hx
      refine⟨?_,rfl⟩
      have hl:((L.getD k default).reqs.map (X5 c.crs)).length=(L.getD k default).reqs.length:=Qhb ..
      refine kS.h _ ?_ x hx
      show splice (up (Q9 (L.getD k default))) 6 _=_
      rw[<-kLk.h,<-hl]
      rfl)
 obtain rfl:k=c.prg.length:=by omega
 have hX:c.prg.all (Zk c.crs)=true:=by
  have:=kt.h
  rwa [Qhp]at this
 have he:=kW.h hX
 clear hX kt kV hk hk2 kW
 have hO:=Qd8 c Om fun x hx=>(hF.cnt x hx).1
 generalize hoe:Xp c.crs=oe at hO he
 have hoe':oe=0\/oe=112:=by
  rw[<-hoe,Xp]
  split
  .exact .inr rfl
  .exact .inl rfl
 rcases hoe' with rfl|rfl
 ·(refine gW ?_;intros)
  refine hO.call ?_
  (refine gW ?_;intros)
  refine((Vp (decide ((0:Int)=0)) 0).1 rfl).call ?_
  (refine gW ?_;intros)
  have hV':Qj c=Vv c:=if_pos he
  refine⟨rfl,Ev.mk ?_⟩
  refine(Q6r 0).frame [.arg 2] rfl ⟨rfl,Tt⟩ fun A m0 ⟨_,_,e1,e2⟩=>?_
  subst e2
  refine⟨rfl,?_⟩
  refine⟨?_,?_,Tt⟩
  .conv=>whnf
   rw[hV']
   exact .agg' ⟨Ac (Jo c.crs) c.crs rfl,Ac (Zm c.crs) c.same rfl,Ac (Vw c.crs) c.prg rfl,.d,.d,.d,.d,Tt⟩
  .conv=>whnf
   rw[he]
   exact .d
 ·(refine gW ?_;intros)
  refine hO.call ?_
  (refine gS ?_;intros)
  refine Sq.alt (Awp.seq (Awp.pan hT 3 rfl rfl rfl Kr ?_))
  (refine gS ?_;intros)
  refine Pan.vc ((Vp (decide ((112:Int)=0)) 112).2 rfl) ⟨.d,.d,Tt⟩ ?_
  exact Yh c 112 he Dc rfl
theorem Qf4 (op:Int):Pure Tryz.prog 179 [di op] [.bool (decide (op=5)||(decide (op=6)||decide (op=9)))]:=by
 refine Q4 hT (T:=tab) (N:=13) (rs:=[.tmp 2]) Tryz.func179 rfl rfl rfl Kr rfl ?_
 (refine gW ?_;intros)
 exact⟨congrArg D.bool (by cases decide (op=5)<;>cases decide (op=6)<;>rfl),Tt⟩
theorem Q17 (s:ByteArray)(n:Int)(x:Crs):isM s n x=true↔(¬ s={data:=#[]}/\x.name=s)\/(s={data:=#[]}/\x.number=n):=by
 have e:(ByteArray.empty:ByteArray)={data:=#[]}:=rfl
 unfold isM
 rw[e]
 by_cases h:s={data:=#[]}
 .rw[if_pos h,Qia]
  exact⟨fun h1=>.inr ⟨h,h1⟩,fun h1=>h1.elim (fun h2=>absurd h h2.1) fun h2=>h2.2⟩
 .rw[if_neg h,Qia]
  exact⟨fun h1=>.inl ⟨h,h1⟩,fun h1=>h1.elim (fun h2=>h2.2) fun h2=>absurd h2.1 h⟩
theorem Q3v (c:Cat)(hl:c.crs.length<=1000000)(s:ByteArray)(n:Int):Pure Tryz.prog 180 [.agg (Q0 c),.str s,di n] [di (Wp c.crs s n)]:=by
 rw[<-Q21]
 refine Q4 hT (T:=tab) (N:=42) (rs:=[.tmp 6]) Tryz.func180 rfl rfl rfl Kr rfl ?_
 (refine gW ?_;intros)
 refine Q7 hT (S:=Nat) (fun k=>([(1,.d (.str s)),(2,dV n),(3,lp 0),(7,dV k)],⟨[bX 32 (up (Q0 c))],[]⟩)) (fun k=>k<=c.crs.length/\ix (isM s n) c.crs 0=ix (isM s n) (c.crs.drop k) k) (fun k=>c.crs.length-k) 0 ?_ ?_ ?_
 .repeat' (first|exact Tt|exact rfl|exact Qgx _|refine And.intro ?_ ?_)
 .exact⟨Qh3 _,rfl⟩
 .rintro k ⟨hk,hc⟩
  by_cases hk2:k<c.crs.length
  .rw[Qc hk2,ix]at hc
   have kc:Kp _:=⟨hc⟩
   clear hc
   ((refine xW ?_ ?_)<;>intros)
   .refine⟨congrArg (D.int .i64) ?_,Tt⟩
    rw[kc.h,if_pos ((Q17 ..).2 (by assumption))]
   .have kn:Kp (ix (isM s n) c.crs 0=ix (isM s n) (c.crs.drop (k+1)) (k+1)):=⟨by
     rw[kc.h,if_neg]
     rw[Q17]
     rename_i h
     rintro(⟨h1,h2⟩|⟨h1,h2⟩)
     .exact h.1.elim h1 fun h3=>h3 h2
     .exact h.2.elim (fun h3=>h3 h1) fun h3=>h3 h2⟩
    refine⟨k+1,⟨by show k+1<=c.crs.length;omega,kn.h⟩,by show c.crs.length-(k+1)<c.crs.length-k;omega,?_⟩
    repeat' (first|exact Tt|exact rfl|exact Qgx _|refine And.intro ?_ ?_)
  .rw[Qr Om,ix]at hc
   have kc:Kp _:=⟨hc⟩
   clear hc
   (refine gW ?_;intros)
   exact⟨congrArg (D.int .i64) kc.h.symm,Tt⟩
theorem Fu (c:Cat)(hl:c.crs.length<=1000000)(s:ByteArray)(n:Int):Pure Tryz.prog 140 [.agg (Q0 c),.str s,di n] [di ((Qx c.crs s n).getD 0),.bool (Qx c.crs s n).isSome]:=by
 have hM:=Q3v c hl s n
 refine Q4 hT (T:=tab) (N:=24) (rs:=[.tmp 6,.tmp 7]) Tryz.func140 rfl rfl rfl Kr rfl ?_
 rcases Q2g c.crs s n with ⟨h,e⟩|⟨h,h1,e⟩|⟨h,h1,e⟩
 .rw[e]
  clear hM
  (refine gW ?_;intros)
  exact⟨rfl,rfl,Tt⟩
 .have hz:Wp c.crs s n=(mnt c.crs s 0:Int):=by rw[Wp,F6 h c.crs n 0,if_pos h1]
  rw[hz]at hM
  rw[e]
  clear hz e
  generalize mnt c.crs s 0=j at hM h1⊢
  (refine gW ?_;intros)
  refine hM.call ?_
  (refine gW ?_;intros)
  exact⟨rfl,rfl,Tt⟩
 .have hz:Wp c.crs s n=-1:=by rw[Wp,F6 h c.crs n 0,if_neg h1]
  rw[hz]at hM
  rw[e]
  clear hz e h1
  (refine gW ?_;intros)
  refine hM.call ?_
  (refine gW ?_;intros)
  exact⟨rfl,rfl,Tt⟩
theorem F8 {α:Type}[DecidableEq α][Inhabited α]{l:List α}{i:Nat}(hi:i<l.length):(l.take (i+1)).Nodup↔(l.take i).Nodup/\l.getD i default ∉ l.take i:=by
 rw[Js hi,List.nodup_append]
 constructor
 .rintro⟨h1,_,h3⟩
  exact⟨h1,fun h=>h3 _ h _ (by simp) rfl⟩
 .rintro⟨h1,h2⟩
  refine⟨h1,by simp,fun a ha b hb e=>?_⟩
  simp at hb
  subst hb
  subst e
  exact h2 ha
theorem B7 (l:List ByteArray) (hl:l.length≤1000000):Pure Tryz.prog 176 [Y0 l] [.bool (!decide l.Nodup)]:=by
 refine Q4 hT (T:=tab) (N:=25) (rs:=[.tmp 2]) Tryz.func176 rfl rfl rfl Kr rfl ?_
 (refine gW ?_;intros)
 refine Q7 hT (S:=Nat) (fun i=>([(0,.d (Y0 l)),(3,dV i)],⟨[],[]⟩)) (fun i=>i<=l.length/\(l.take i).Nodup) (fun i=>l.length-i) 0 ?_ ?_ ?_
 .repeat' (first|exact Tt|exact rfl|exact Qgx _|refine And.intro ?_ ?_)
 .exact⟨Qh3 _,by rw[List.take_zero];exact List.nodup_nil⟩
 .rintro i ⟨hi,hn⟩
  have kn:Kp _:=⟨hn⟩
  clear hn
  by_cases hi2:i<l.length
  ·(refine gW ?_;intros)
   refine Q7 hT (S:=Nat) (fun k=>([(0,.d (Y0 l)),(3,dV i),(4,dV k)],⟨[],[]⟩)) (fun k=>k<=i/\l.getD i default ∉ l.take k) (fun k=>i-k) 0 ?_ ?_ ?_
   .repeat' (first|exact Tt|exact rfl|exact Qgx _|refine And.intro ?_ ?_)
   .exact⟨Qh3 _,by rw[List.take_zero];exact Qhq⟩
   .rintro k ⟨hk,hm⟩
    have km:Kp _:=⟨hm⟩
    clear hm
    by_cases hk2:k<i
    .by_cases he:l.getD i default=l.getD k default
     .have hd:¬ l.Nodup:=fun h=>by
       have h1:(l.take (i+1)).Nodup:=List.Nodup.sublist (List.take_sublist _ _) h
       refine((F8 hi2).1 h1).2 ?_
       rw[he]
       have e:l.getD k default=(l.take i).getD k default:=by
        simp only[Qha]
        rw[Qid,if_pos hk2]
       rw[e]
       exact Qe (by rw[Qhr];omega)
      rw[Qh0 hd]
      (refine gW ?_;intros)
      exact⟨rfl,Tt⟩
     .have kq:Kp (l.getD i default ∉ l.take (k+1)):=⟨by
       rw[Js Om,Qi7]
       rintro(h|h)
       .exact km.h h
       .simp at h
        exact he h⟩
      (refine gW ?_;intros)
      refine⟨k+1,⟨by show k+1<=i;omega,kq.h⟩,by show i-(k+1)<i-k;omega,?_⟩
      repeat' (first|exact Tt|exact rfl|exact Qgx _|refine And.intro ?_ ?_)
    .have kq:Kp ((l.take (i+1)).Nodup):=⟨(F8 hi2).2 ⟨kn.h,by
      have:k=i:=by omega
      subst this
      exact km.h⟩⟩
     (refine gW ?_;intros)
     refine⟨i+1,⟨by show i+1<=l.length;omega,kq.h⟩,by show l.length-(i+1)<l.length-i;omega,?_⟩
     repeat' (first|exact Tt|exact rfl|exact Qgx _|refine And.intro ?_ ?_)
  .have hd:l.Nodup:=by
    have:=kn.h
    rwa [Qhn Om]at this
   rw[Qh8 hd]
   clear hd
   (refine gW ?_;intros)
   exact⟨rfl,Tt⟩
theorem Q3z (l:List Int) (hl:l.length≤1000000):Pure Tryz.prog 177 [J6 l] [.bool (!decide l.Nodup)]:=by
 refine Q4 hT (T:=tab) (N:=25) (rs:=[.tmp 2]) Tryz.func177 rfl rfl rfl Kr rfl ?_
 (refine gW ?_;intros)
 refine Q7 hT (S:=Nat) (fun i=>([(0,.d (J6 l)),(3,dV i)],⟨[],[]⟩)) (fun i=>i<=l.length/\(l.take i).Nodup) (fun i=>l.length-i) 0 ?_ ?_ ?_
 .repeat' (first|exact Tt|exact rfl|exact Qgx _|refine And.intro ?_ ?_)
 .exact⟨Qh3 _,by rw[List.take_zero];exact List.nodup_nil⟩
 .rintro i ⟨hi,hn⟩
  have kn:Kp _:=⟨hn⟩
  clear hn
  by_cases hi2:i<l.length
  ·(refine gW ?_;intros)
   refine Q7 hT (S:=Nat) (fun k=>([(0,.d (J6 l)),(3,dV i),(4,dV k)],⟨[],[]⟩)) (fun k=>k<=i/\l.getD i default ∉ l.take k) (fun k=>i-k) 0 ?_ ?_ ?_
   .repeat' (first|exact Tt|exact rfl|exact Qgx _|refine And.intro ?_ ?_)
   .exact⟨Qh3 _,by rw[List.take_zero];exact Qhq⟩
   .rintro k ⟨hk,hm⟩
    have km:Kp _:=⟨hm⟩
    clear hm
    by_cases hk2:k<i
    .by_cases he:l.getD i default=l.getD k default
     .have hd:¬ l.Nodup:=fun h=>by
       have h1:(l.take (i+1)).Nodup:=List.Nodup.sublist (List.take_sublist _ _) h
       refine((F8 hi2).1 h1).2 ?_
       rw[he]
       have e:l.getD k default=(l.take i).getD k default:=by
        simp only[Qha]
        rw[Qid,if_pos hk2]
       rw[e]
       exact Qe (by rw[Qhr];omega)
      rw[Qh0 hd]
      (refine gW ?_;intros)
      exact⟨rfl,Tt⟩
     .have kq:Kp (l.getD i default ∉ l.take (k+1)):=⟨by
       rw[Js Om,Qi7]
       rintro(h|h)
       .exact km.h h
       .simp at h
        exact he h⟩
      (refine gW ?_;intros)
      refine⟨k+1,⟨by show k+1<=i;omega,kq.h⟩,by show i-(k+1)<i-k;omega,?_⟩
      repeat' (first|exact Tt|exact rfl|exact Qgx _|refine And.intro ?_ ?_)
    .have kq:Kp ((l.take (i+1)).Nodup):=⟨(F8 hi2).2 ⟨kn.h,by
      have:k=i:=by omega
      subst this
      exact km.h⟩⟩
     (refine gW ?_;intros)
     refine⟨i+1,⟨by show i+1<=l.length;omega,kq.h⟩,by show l.length-(i+1)<l.length-i;omega,?_⟩
     repeat' (first|exact Tt|exact rfl|exact Qgx _|refine And.intro ?_ ?_)
  .have hd:l.Nodup:=by
    have:=kn.h
    rwa [Qhn Om]at this
   rw[Qh8 hd]
   clear hd
   (refine gW ?_;intros)
   exact⟨rfl,Tt⟩
structure RB where
 k:Nat
 g:Nat
def G2 (xs:List ByteArray):Nat->List AV:=rowsOf (fun s=>[D.str s]) xs
theorem Ml {α:Type}[Inhabited α](l:List α)(f:α->ByteArray){k:Nat}(hk:k<l.length)(j:Nat)(hj:j<k+1):Je k (G2 ((l.take k).map f)) (Jr [[.d (.str (f (l.getD k default)))]]) j=G2 ((l.take (k+1)).map f) j:=by
 rw[Js hk,Qim]
 exact Yi (fun s=>[D.str s]) _ _ (by rw[Qhb,Qhr];omega) j hj
theorem Aa {α:Type}[Inhabited α](l:List α)(f:α->Int){k:Nat}(hk:k<l.length)(j:Nat)(hj:j<k+1):Je k (Jz ((l.take k).map f)) (Jr [[dV (f (l.getD k default))]]) j=Jz ((l.take (k+1)).map f) j:=by
 rw[Js hk,Qim]
 exact B6 _ _ (by rw[Qhb,Qhr];omega) j hj
theorem Yy {m:Mem}{r:Ref}{α:Type}[Inhabited α](f:α->ByteArray)(l:List α){e g:Nat}(h:m.get r=bV e 1 g l.length (G2 ((l.take l.length).map f))):J9 m (.osl r g 0 l.length) (Y0 (l.map f)):=by
 unfold Y0
 rw[Qhb]
 exact .rows h (Qhz (Qh9 _)) fun i hi=>by rw[Qh9,Qhp];rfl
theorem K6 {m:Mem}{r:Ref}{α:Type}[Inhabited α](f:α->Int)(l:List α){e g:Nat}(h:m.get r=bV e 1 g l.length (Jz ((l.take l.length).map f))):J9 m (.osl r g 0 l.length) (J6 (l.map f)):=by
 unfold J6
 rw[Qhb]
 exact .rows h (Qhz (Qh9 _)) fun i hi=>by rw[Qh9,Qhp];rfl
theorem Q3i (l:List Cls)(hl:l.length<=1000000):Pure Tryz.prog 178 [Qk l] [Y0 (l.map fun x=>x.name)]:=by
 refine Q4 hT (T:=tab) (N:=21) (rs:=[.tmp 2]) Tryz.func178 rfl rfl rfl Kr rfl ?_
 (refine gW ?_;intros)
 refine Q7 hT (S:=RB) (fun z=>([(0,.d (Qk l)),(3,.osl (.loc 0) z.g 0 z.k),(4,dV z.k)],⟨[bV 9 1 z.g z.k (G2 ((l.take z.k).map fun x=>x.name))],[]⟩)) (fun z=>z.k<=l.length) (fun z=>l.length-z.k) ⟨0,0⟩ ?_ ?_ ?_
 .repeat' (first|exact Tt|exact rfl|exact Qgx _|refine And.intro ?_ ?_)
  all_goals (intro i hi;exact absurd hi (Qhh i))
 .exact Qh3 _
 .rintro⟨k,g⟩ hk
  dsimp only at hk⊢
  by_cases hk2:k<l.length
  ·(refine gW ?_;intros)
   refine⟨⟨k+1,g+1⟩,by show k+1<=l.length;omega,by show l.length-(k+1)<l.length-k;omega,?_⟩
   repeat' (first|exact Tt|exact rfl|exact Qgx _|refine And.intro ?_ ?_)
   all_goals (intro j hj;exact⟨Ml l (fun x=>x.name) hk2 j hj,rfl⟩)
  .obtain rfl:k=l.length:=by omega
   (refine gW ?_;intros)
   refine⟨⟨rfl,rfl,Qhz (Qh9 _),by rw[Qhb],fun j hj=>?_⟩,Tt⟩
   rw[Qh9,Qhp]
   rfl
structure RB2 where
 k:Nat
 g:Nat
 g':Nat
structure Mx (c:Cat):Prop where
 cls:c.classes.length<=1000
 fees:c.fees.length<=1000
 hon:c.honours.length<=1000
theorem Qdt (c:Cat)(hF:Yl c)(hR:Mx c):Pure Tryz.prog 138 [.agg (Q0 c)] [.bool (!Hf c)]:=by
 have hcl:=hF.crs
 have hpl:=hF.prg
 have hll:=hR.cls
 have hfl:=hR.fees
 have hol:=hR.hon
 obtain⟨u,hu⟩:∃u,Hf c=u:=⟨_,rfl⟩
 rw[hu]
 unfold Hf at hu
 have kU:Kp _:=⟨hu⟩
 clear hu
 obtain⟨u1,hu1⟩:∃u,decide (c.crs.map (fun x=>x.name)).Nodup=u:=⟨_,rfl⟩
 have hT1:=B7 (c.crs.map (fun x=>x.name)) (by rw[Qhb];omega)
 rw[hu1]at kU hT1
 clear hu1
 obtain⟨u2,hu2⟩:∃u,decide (c.crs.map (fun x=>x.number)).Nodup=u:=⟨_,rfl⟩
 have hT2:=Q3z (c.crs.map (fun x=>x.number)) (by rw[Qhb];omega)
 rw[hu2]at kU hT2
 clear hu2
 refine Q4 hT (T:=tab) (N:=137) (rs:=[.tmp 2]) Tryz.func138 rfl rfl rfl Kr rfl ?_
 (refine gW ?_;intros)
 refine Q7 hT (S:=RB2) (fun z=>([(1,lp 0),(3,.osl (.loc 1) z.g 0 z.k),(4,.osl (.loc 2) z.g' 0 z.k),(5,dV z.k)],⟨[bX 32 (up (Q0 c)),bV 9 1 z.g z.k (G2 ((c.crs.take z.k).map fun x=>x.name)),bV 3 1 z.g' z.k (Jz ((c.crs.take z.k).map fun x=>x.number))],[]⟩)) (fun z=>z.k<=c.crs.length) (fun z=>c.crs.length-z.k) ⟨0,0,0⟩ ?_ ?_ ?_
 .repeat' (first|exact Tt|exact rfl|exact Qgx _|refine And.intro ?_ ?_)
  all_goals (intro i hi;exact absurd hi (Qhh i))
 .exact Qh3 _
 rintro⟨k,g,g'⟩ hk
 dsimp only at hk⊢
 by_cases hk2:k<c.crs.length
 case pos =>
  (refine gW ?_;intros)
  refine⟨⟨k+1,g+1,g'+1⟩,by show k+1<=c.crs.length;omega,by show c.crs.length-(k+1)<c.crs.length-k;omega,?_⟩
  repeat' (first|exact Tt|exact rfl|exact Qgx _|refine And.intro ?_ ?_)
  .intro j hj
   exact⟨Ml c.crs (fun x=>x.name) hk2 j hj,rfl⟩
  .intro j hj
   exact⟨Aa c.crs (fun x=>x.number) hk2 j hj,rfl⟩
 obtain rfl:k=c.crs.length:=by omega
 cases u1
 case false =>
  (refine gW ?_;intros)
  refine hT1.loan rfl ⟨Yy (fun x=>x.name) c.crs rfl,Tt⟩ ?_
  (refine gW ?_;intros)
  exact⟨congrArg D.bool (by rw[<-kU.h];rfl),Tt⟩
 cases u2
 case false =>
  (refine gW ?_;intros)
  refine hT1.loan rfl ⟨Yy (fun x=>x.name) c.crs rfl,Tt⟩ ?_
  (refine gW ?_;intros)
  refine hT2.loan rfl ⟨K6 (fun x=>x.number) c.crs rfl,Tt⟩ ?_
  (refine gW ?_;intros)
  exact⟨congrArg D.bool (by rw[<-kU.h];rfl),Tt⟩
 (refine gW ?_;intros)
 refine hT1.loan rfl ⟨Yy (fun x=>x.name) c.crs rfl,Tt⟩ ?_
 (refine gW ?_;intros)
 refine hT2.loan rfl ⟨K6 (fun x=>x.number) c.crs rfl,Tt⟩ ?_
 clear hT1 hT2
 (refine gW ?_;intros)
 obtain⟨u3,hu3⟩:∃u,decide (c.prg.map (fun x=>x.name)).Nodup=u:=⟨_,rfl⟩
 have hT3:=B7 (c.prg.map (fun x=>x.name)) (by rw[Qhb];omega)
 rw[hu3]at kU hT3
 clear hu3
 obtain⟨u4,hu4⟩:∃u,decide (c.prg.map (fun x=>x.number)).Nodup=u:=⟨_,rfl⟩
 have hT4:=Q3z (c.prg.map (fun x=>x.number)) (by rw[Qhb];omega)
 rw[hu4]at kU hT4
 clear hu4
 refine Q7 hT (S:=RB2) (fun z=>([(1,lp 0),(3,.osl (.loc 3) z.g 0 z.k),(4,.osl (.loc 4) z.g' 0 z.k),(6,dV z.k)],⟨[bX 32 (up (Q0 c)),none,none,bV 9 1 z.g z.k (G2 ((c.prg.take z.k).map fun x=>x.name)),bV 3 1 z.g' z.k (Jz ((c.prg.take z.k).map fun x=>x.number))],[]⟩)) (fun z=>z.k<=c.prg.length/\(c.prg.take z.k).all ndQ=true) (fun z=>c.prg.length-z.k) ⟨0,0,0⟩ ?_ ?_ ?_
 .repeat' (first|exact Tt|exact rfl|exact Qgx _|refine And.intro ?_ ?_)
  all_goals (intro i hi;exact absurd hi (Qhh i))
 .exact⟨Qh3 _,rfl⟩
 clear hk hk2
 rintro⟨k,g,g'⟩ ⟨hk,ht⟩
 have kt:Kp _:=⟨ht⟩
 clear ht
 dsimp only at hk⊢
 by_cases hk2:k<c.prg.length
 case pos =>
  have hrl:=(hF.reqs _ (Qe hk2)).1
  have hU:=B7 ((c.prg.getD k default).reqs.map fun q=>q.name) (by rw[Qhb];omega)
  (refine gW ?_;intros)
  refine Q7 hT (S:=RB) (fun z=>([(1,lp 0),(3,.osl (.loc 3) (g+1) 0 (k+1)),(4,.osl (.loc 4) (g'+1) 0 (k+1)),(6,dV k),(7,.osl (.loc 7) z.g 0 z.k),(8,dV z.k)],⟨[bX 32 (up (Q0 c)),none,none,bV 9 1 (g+1) (k+1) (G2 ((c.prg.take (k+1)).map fun x=>x.name)),bV 3 1 (g'+1) (k+1) (Jz ((c.prg.take (k+1)).map fun x=>x.number)),none,none,bV 9 1 z.g z.k (G2 (((c.prg.getD k default).reqs.take z.k).map fun x=>x.name))],[]⟩)) (fun z=>z.k<=(c.prg.getD k default).reqs.length) (fun z=>(c.prg.getD k default).reqs.length-z.k) ⟨0,0⟩ ?_ ?_ ?_
  .repeat' (first|exact Tt|exact rfl|exact Qgx _|refine And.intro ?_ ?_)
   all_goals first
    |(intro i hi;exact absurd hi (Qhh i))
    | (intro j hj
       exact⟨Ml c.prg (fun x=>x.name) hk2 j hj,rfl⟩)
    | (intro j hj
       exact⟨Aa c.prg (fun x=>x.number) hk2 j hj,rfl⟩)
  .exact Qh3 _
  rintro⟨j,g2⟩ hj
  dsimp only at hj⊢
  by_cases hj2:j<(c.prg.getD k default).reqs.length
  case pos =>
   (refine gW ?_;intros)
   refine⟨⟨j+1,g2+1⟩,by show j+1<=(c.prg.getD k default).reqs.length;omega,by show(c.prg.getD k default).reqs.length-(j+1)<(c.prg.getD k default).reqs.length-j;omega,?_⟩
   repeat' (first|exact Tt|exact rfl|exact Qgx _|refine And.intro ?_ ?_)
   all_goals first
    | (intro i hi
       exact⟨Ml (c.prg.getD k default).reqs (fun x=>x.name) hj2 i hi,rfl⟩)
    |(intro i hi;exact⟨rfl,rfl⟩)
  obtain rfl:j=(c.prg.getD k default).reqs.length:=by omega
  obtain⟨n,hn⟩:∃n,ndQ (c.prg.getD k default)=n:=⟨_,rfl⟩
  have hn':decide ((c.prg.getD k default).reqs.map fun q=>q.name).Nodup=n:=hn
  rw[hn']at hU
  cases n with
  | true =>
    have hkk:(c.prg.take (k+1)).all ndQ=true:=by rw[Js hk2,Qii,kt.h,Qi5,hn];rfl
    clear hn hn'
    (refine gW ?_;intros)
    refine hU.loan rfl ⟨Yy (fun x=>x.name) (c.prg.getD k default).reqs rfl,Tt⟩ ?_
    (refine gW ?_;intros)
    refine⟨⟨k+1,g+1,g'+1⟩,⟨by show k+1<=c.prg.length;omega,hkk⟩,by show c.prg.length-(k+1)<c.prg.length-k;omega,?_⟩
    repeat' (first|exact Tt|exact rfl|exact Qgx _|refine And.intro ?_ ?_)
    all_goals (intro i hi;exact⟨rfl,rfl⟩)
  | false =>
    have hf:c.prg.all ndQ=false:=List.all_eq_false.2 ⟨_,Qe hk2,by rw[hn];exact Qhl⟩
    clear hn hn'
    (refine gW ?_;intros)
    refine hU.loan rfl ⟨Yy (fun x=>x.name) (c.prg.getD k default).reqs rfl,Tt⟩ ?_
    (refine gW ?_;intros)
    exact⟨congrArg D.bool (by rw[<-kU.h,hf];simp),Tt⟩
 obtain rfl:k=c.prg.length:=by omega
 have hq:c.prg.all ndQ=true:=by
  have:=kt.h
  rwa [Qhp]at this
 rw[hq]at kU
 clear hq kt
 (refine gW ?_;intros)
 refine Q7 hT (S:=RB) (fun z=>([(1,lp 0),(3,.osl (.loc 3) g 0 c.prg.length),(4,.osl (.loc 4) g' 0 c.prg.length),(9,.osl (.loc 5) z.g 0 z.k),(10,dV z.k)],⟨[bX 32 (up (Q0 c)),none,none,bV 9 1 g c.prg.length (G2 ((c.prg.take c.prg.length).map fun x=>x.name)),bV 3 1 g' c.prg.length (Jz ((c.prg.take c.prg.length).map fun x=>x.number)),bV 9 1 z.g z.k (G2 ((c.fees.take z.k).map fun x=>x.name))],[]⟩)) (fun z=>z.k<=c.fees.length) (fun z=>c.fees.length-z.k) ⟨0,0⟩ ?_ ?_ ?_
 .repeat' (first|exact Tt|exact rfl|exact Qgx _|refine And.intro ?_ ?_)
  all_goals first
   |(intro i hi;exact absurd hi (Qhh i))
   |(intro i hi;exact⟨rfl,rfl⟩)
 .exact Qh3 _
 clear hk hk2
 rintro⟨k,g2⟩ hk
 dsimp only at hk⊢
 by_cases hk2:k<c.fees.length
 case pos =>
  (refine gW ?_;intros)
  refine⟨⟨k+1,g2+1⟩,by show k+1<=c.fees.length;omega,by show c.fees.length-(k+1)<c.fees.length-k;omega,?_⟩
  repeat' (first|exact Tt|exact rfl|exact Qgx _|refine And.intro ?_ ?_)
  all_goals first
   | (intro j hj
      exact⟨Ml c.fees (fun x=>x.name) hk2 j hj,rfl⟩)
   |(intro i hi;exact⟨rfl,rfl⟩)
 obtain rfl:k=c.fees.length:=by omega
 obtain⟨u5,hu5⟩:∃u,decide (c.classes.map (fun x=>x.name)).Nodup=u:=⟨_,rfl⟩
 have hT5:=B7 (c.classes.map (fun x=>x.name)) (by rw[Qhb];omega)
 rw[hu5]at kU hT5
 clear hu5
 obtain⟨u6,hu6⟩:∃u,decide (c.fees.map (fun x=>x.name)).Nodup=u:=⟨_,rfl⟩
 have hT6:=B7 (c.fees.map (fun x=>x.name)) (by rw[Qhb];omega)
 rw[hu6]at kU hT6
 clear hu6
 obtain⟨u7,hu7⟩:∃u,decide (c.honours.map (fun x=>x.name)).Nodup=u:=⟨_,rfl⟩
 have hT7:=B7 (c.honours.map (fun x=>x.name)) (by rw[Qhb];omega)
 rw[hu7]at kU hT7
 clear hu7
 have hC:=Q3i c.classes Om
 have hO:=Q3i c.honours Om
 cases u3
 case false =>
  (refine gW ?_;intros)
  refine hT3.loan rfl ⟨Yy (fun x=>x.name) c.prg rfl,Tt⟩ ?_
  (refine gW ?_;intros)
  exact⟨congrArg D.bool (by rw[<-kU.h];rfl),Tt⟩
 cases u4
 case false =>
  (refine gW ?_;intros)
  refine hT3.loan rfl ⟨Yy (fun x=>x.name) c.prg rfl,Tt⟩ ?_
  (refine gW ?_;intros)
  refine hT4.loan rfl ⟨K6 (fun x=>x.number) c.prg rfl,Tt⟩ ?_
  (refine gW ?_;intros)
  exact⟨congrArg D.bool (by rw[<-kU.h];rfl),Tt⟩
 cases u5
 case false =>
  (refine gW ?_;intros)
  refine hT3.loan rfl ⟨Yy (fun x=>x.name) c.prg rfl,Tt⟩ ?_
  (refine gW ?_;intros)
  refine hT4.loan rfl ⟨K6 (fun x=>x.number) c.prg rfl,Tt⟩ ?_
  (refine gW ?_;intros)
  refine hC.call ?_
  (refine gW ?_;intros)
  refine hT5.call ?_
  (refine gW ?_;intros)
  exact⟨congrArg D.bool (by rw[<-kU.h];rfl),Tt⟩
 cases u6
 case false =>
  (refine gW ?_;intros)
  refine hT3.loan rfl ⟨Yy (fun x=>x.name) c.prg rfl,Tt⟩ ?_
  (refine gW ?_;intros)
  refine hT4.loan rfl ⟨K6 (fun x=>x.number) c.prg rfl,Tt⟩ ?_
  (refine gW ?_;intros)
  refine hC.call ?_
  (refine gW ?_;intros)
  refine hT5.call ?_
  (refine gW ?_;intros)
  refine hT6.loan rfl ⟨Yy (fun x=>x.name) c.fees rfl,Tt⟩ ?_
  (refine gW ?_;intros)
  exact⟨congrArg D.bool (by rw[<-kU.h];rfl),Tt⟩
 cases u7
 case false =>
  (refine gW ?_;intros)
  refine hT3.loan rfl ⟨Yy (fun x=>x.name) c.prg rfl,Tt⟩ ?_
  (refine gW ?_;intros)
  refine hT4.loan rfl ⟨K6 (fun x=>x.number) c.prg rfl,Tt⟩ ?_
  (refine gW ?_;intros)
  refine hC.call ?_
  (refine gW ?_;intros)
  refine hT5.call ?_
  (refine gW ?_;intros)
  refine hT6.loan rfl ⟨Yy (fun x=>x.name) c.fees rfl,Tt⟩ ?_
  (refine gW ?_;intros)
  refine hO.call ?_
  (refine gW ?_;intros)
  refine hT7.call ?_
  (refine gW ?_;intros)
  exact⟨congrArg D.bool (by rw[<-kU.h];rfl),Tt⟩
 (refine gW ?_;intros)
 refine hT3.loan rfl ⟨Yy (fun x=>x.name) c.prg rfl,Tt⟩ ?_
 (refine gW ?_;intros)
 refine hT4.loan rfl ⟨K6 (fun x=>x.number) c.prg rfl,Tt⟩ ?_
 (refine gW ?_;intros)
 refine hC.call ?_
 (refine gW ?_;intros)
 refine hT5.call ?_
 (refine gW ?_;intros)
 refine hT6.loan rfl ⟨Yy (fun x=>x.name) c.fees rfl,Tt⟩ ?_
 (refine gW ?_;intros)
 refine hO.call ?_
 (refine gW ?_;intros)
 refine hT7.call ?_
 (refine gW ?_;intros)
 exact⟨congrArg D.bool (by rw[<-kU.h];rfl),Tt⟩
end Go.Proofs.YtmlhghddfobmmaaGreatDoor
