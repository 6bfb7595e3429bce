import Derived.Test.YtmlhghddfobmmaaGreatDoorNmG
import Derived.Test.YtmlhghddfobmmaaGreatDoorBookI
import Derived.Test.YtmlhghddfobmmaaGreatDoorEngAY
import Derived.Test.YtmlhghddfobmmaaGreatDoorNamP
import Derived.Test.YtmlhghddfobmmaaGreatDoorEngAP
import Derived.Test.YtmlhghddfobmmaaGreatDoorOpsF
namespace Go.Proofs.YtmlhghddfobmmaaGreatDoor
set_option linter.unusedSimpArgs false
set_option linter.unusedVariables false
open Go Go.Ab
set_option maxRecDepth 100000
set_option maxHeartbeats 0
theorem rowsM {m:Mem}{r:Ref}{α:Type}[Inhabited α](F:α->α)(l:List α){e sz:Nat}{enc:α->List D}(h:m.get r=bV e sz 1 l.length (rowsOf enc (mixL F l l.length))) :
 BecP m (.osl r 1 0 l.length) (.sl sz (l.map F).length fun i=>enc ((l.map F).getD i default)):=by
 rw[List.length_map]
 exact .rows h (Nat.le_of_eq (Nat.zero_add _)) fun i hi=>by rw[Nat.zero_add,mixL_all];rfl
theorem cloneInt_ok (q:List Int)(hq:q.length<=1000000):CallVC Tryz.prog 71 [.d (eInts q)] ⟨[],[]⟩
 (Ret (fun _:Unit=>([.osl (.loc 0) 1 0 q.length],⟨[bV 3 1 1 q.length (rowZ q)],[]⟩)) fun _=>True):=by
 refine call_rule hT (T:=tab) (N:=8) (rs:=[.tmp 2]) _ _ Tryz.func71 rfl rfl rfl Kr rfl ?_
 (refine gW ?_;intros)
 refine op_isnil rfl Tryz.underlying53 rfl rfl (fun b hb=>?_)
 cases b
 ·(refine gW ?_;intros)
  refine⟨(),Tt,?_,rfl⟩
  repeat' (first|exact Tt|exact rfl|exact Nat.le_refl _|refine And.intro ?_ ?_)
  .show AV.osl (.loc 0) (0+1) 0 (0+q.length)=AV.osl (.loc 0) 1 0 q.length
   rw[Nat.zero_add q.length]
  .show q.length<=0+q.length
   omega
  all_goals first
   | (show 0 + q.length=q.length
      omega)
   | (show 0 + q.length≤q.length
      omega)
   | (show q.length=0 + q.length
      omega)
   | (intro j hj
      refine⟨?_,rfl⟩
      rw[joinF,show j.blt 0=false from rfl]
      rfl)
 .have h0:q=[]:=List.eq_nil_of_length_eq_zero (hb rfl)
  subst h0
  (refine gS ?_;intros)
  refine Sq.go ?_
  (refine gS ?_;intros)
  refine Sq.alt (Awp.vecG 2 3 1 1 (rowZ []) rfl (vc_ok hT _ _ _ _ (Ev.o ?_)))
  (refine gW ?_;intros)
  refine⟨(),Tt,?_,rfl⟩
  repeat' (first|exact Tt|exact rfl|exact Nat.le_refl _|refine And.intro ?_ ?_)
  all_goals (intro j hj;exact absurd hj (Nat.not_lt_zero j))
def frK (l:List Crs)(q:Req)(i:Nat):List Int:=(frL l q).take i++q.fr.drop i
theorem frL_len (l:List Crs){q:Req}(h:lenQ q=true):(frL l q).length=q.fr.length:=by
 have:=of_decide_eq_true h
 rw[frL,List.length_zipWith,this,Nat.min_self]
theorem frK_len (l:List Crs){q:Req}(h:lenQ q=true)(i:Nat):(frK l q i).length=q.fr.length:=by
 rw[frK,List.length_append,List.length_take,List.length_drop,frL_len l h]
 omega
theorem frK_zero (l:List Crs)(q:Req):frK l q 0=q.fr:=by simp[frK]
theorem frK_all (l:List Crs){q:Req}(h:lenQ q=true):frK l q q.fr.length=frL l q:=by
 rw[frK,List.drop_length,List.append_nil,<-frL_len l h,List.take_length]
theorem frL_at (l:List Crs){q:Req}(h:lenQ q=true){i:Nat}(hi:i<q.fr.length):(frL l q).getD i default=(numO l (q.names.getD i default) (q.fr.getD i default)).getD 0:=by
 have hn:i<q.names.length:=by rw[of_decide_eq_true h];exact hi
 simp only[frL,List.getD_eq_getElem?_getD,List.getElem?_zipWith,List.getElem?_eq_getElem hi,List.getElem?_eq_getElem hn,Option.getD_some]
theorem frK_set (l:List Crs){q:Req}(h:lenQ q=true){i:Nat}(hi:i<q.fr.length)(y:Int)(hy:y=(numO l (q.names.getD i default) (q.fr.getD i default)).getD 0){j:Nat}(hj:j<q.fr.length) :
 (bif Nat.beq j i then[dV y] else rowZ (frK l q i) j)=rowZ (frK l q (i+1)) j:=by
 have hL:=frL_len l h
 have hgen:∀i,i<=q.fr.length->(frK l q i).getD j default=if j<i then(frL l q).getD j default else q.fr.getD j default:=fun i hi=>by
  simp only[frK,List.getD_eq_getElem?_getD]
  by_cases hji:j<i
  .rw[if_pos hji,List.getElem?_append_left (by rw[List.length_take];omega),List.getElem?_take,if_pos hji]
  .rw[if_neg hji,List.getElem?_append_right (by rw[List.length_take];omega),List.getElem?_drop,List.length_take]
   congr 2
   omega
 unfold rowZ
 rw[hgen i Om,hgen (i+1) Om]
 cases hb:Nat.beq j i with
 | true =>
   have:=Nat.eq_of_beq_eq_true hb
   subst this
   rw[cond_true,if_pos (Nat.lt_succ_self _),hy,frL_at l h hj]
 | false =>
   have:=Nat.ne_of_beq_eq_false hb
   rw[cond_false]
   by_cases h1:j<i
   .rw[if_pos h1,if_pos Om]
   .rw[if_neg h1,if_neg Om]
theorem okQ_iff (l:List Crs){q:Req}(h:lenQ q=true):okQ l q=true↔∀x,x<q.names.length->(numO l (q.names.getD x default) (q.fr.getD x default)).isSome=true:=by
 have hl:=of_decide_eq_true h
 rw[okQ,List.all_eq_true]
 constructor
 .intro H x hx
  have hx2:x<q.fr.length:=by omega
  have:=H _ (List.getElem_mem (l:=List.zipWith (fun s n=>(numO l s n).isSome) q.names q.fr) (n:=x) (by rw[List.length_zipWith];omega))
  rw[List.getElem_zipWith]at this
  simpa only[id,List.getD_eq_getElem?_getD,List.getElem?_eq_getElem hx,List.getElem?_eq_getElem hx2,Option.getD_some] using this
 .intro H b hb
  obtain⟨x,hx,rfl⟩:=List.mem_iff_getElem.1 hb
  rw[List.length_zipWith]at hx
  have h1:x<q.names.length:=by omega
  have h2:x<q.fr.length:=by omega
  have:=H x h1
  rw[List.getElem_zipWith]
  simpa only[id,List.getD_eq_getElem?_getD,List.getElem?_eq_getElem h1,List.getElem?_eq_getElem h2,Option.getD_some] using this
def gRow (Lq:List Req)(j nf:Nat):Nat->List AV:=fun i=>[.d (.str (Lq.getD i default).name),dV (Lq.getD i default).credits,dV (Lq.getD i default).grade,.d (.bool (Lq.getD i default).home),.d (eStrs (Lq.getD i default).names),bif Nat.beq i j then .osl (.loc 7) 1 0 nf else .d (eInts (Lq.getD i default).fr)]
theorem resPrg (c:Cat) (hF:CatF c) (hQ:c.prg.all lenP=true) (hV:c.prg.all (okP' c.crs)=false→resE c=110) (hW:c.prg.all (okP' c.crs)=true→resE c=ordE c.crs) :
 Awp Tryz.prog 224 (resCode 15) [(1,ap 0),(2,ap 1),(3,ap 2),(10,lp 0)] ⟨[bX 32 [.osl (.loc 1) 1 0 c.crs.length,.osl (.loc 2) 1 0 c.same.length,.osl (.loc 3) 1 0 c.prg.length,.d (eClss c.classes),.d (eFees c.fees),.d (eClss c.honours),.d (eClas c.clauses)],bV 68 16 1 c.crs.length (rowsOf eCrs (mixL (resX c.crs) c.crs c.crs.length)),bV 131 4 1 c.same.length (rowsOf ePai (mixL (resY c.crs) c.same c.same.length)),bV 78 7 1 c.prg.length (rowsOf ePrg c.prg)],ownR c⟩ (resQ' c):=by
 have hpl:=hF.prg
 have hcl:=hF.crs
 have kV:Kp _:=⟨hV⟩
 have kW:Kp _:=⟨hW⟩
 clear hV hW
 unfold resQ'
 refine Awp.of_vc hT ?_
 (refine gW ?_;intros)
 refine loop_rule hT (S:=Nat) (fun k=>([(1,ap 0),(2,ap 1),(3,ap 2),(10,lp 0),(158,.osl (.loc 3) 1 0 c.prg.length),(159,dV c.prg.length),(160,dV k)],⟨[bX 32 [.osl (.loc 1) 1 0 c.crs.length,.osl (.loc 2) 1 0 c.same.length,.osl (.loc 3) 1 0 c.prg.length,.d (eClss c.classes),.d (eFees c.fees),.d (eClss c.honours),.d (eClas c.clauses)],bV 68 16 1 c.crs.length (rowsOf eCrs (mixL (resX c.crs) c.crs c.crs.length)),bV 131 4 1 c.same.length (rowsOf ePai (mixL (resY c.crs) c.same c.same.length)),bV 78 7 1 c.prg.length (rowsOf ePrg (mixL (resP c.crs) c.prg k))],ownR c⟩)) (fun k=>k<=c.prg.length/\(c.prg.take k).all (okP' c.crs)=true) (fun k=>c.prg.length-k) 0 ?_ ?_ ?_
 .rw[mixL_zero]
  repeat' (first|exact Tt|exact rfl|exact Nat.le_refl _|refine And.intro ?_ ?_)
  all_goals (intro i hi;exact⟨rfl,rfl⟩)
 .exact⟨Nat.zero_le _,rfl⟩
 rintro k ⟨hk,ht⟩
 have kt:Kp _:=⟨ht⟩
 clear ht
 dsimp only at hk⊢
 by_cases hk2:k<c.prg.length
 case pos =>
  have hLl:=mixL_len (resP c.crs) c.prg k
  have hLk:=mixL_at (resP c.crs) hk2
  have kS:Kp _:=⟨fun y hy j hj=>mixL_set (resP c.crs) ePrg (l:=c.prg) (k:=k) y hy (j:=j) hj⟩
  have hbad:okP' c.crs (c.prg.getD k default)=false->resE c=110:=fun h=>kV.h (List.all_eq_false.2 ⟨_,getD_mem hk2,by rw[h];exact Bool.false_ne_true⟩)
  have hgood:okP' c.crs (c.prg.getD k default)=true->(c.prg.take (k+1)).all (okP' c.crs)=true:=fun h=>by rw[take_succ_at hk2,List.all_append,kt.h,List.all_cons,h];rfl
  obtain⟨hrl,hrq⟩:=hF.reqs _ (getD_mem hk2)
  have hlp:(c.prg.getD k default).reqs.all lenQ=true:=List.all_eq_true.1 hQ _ (getD_mem hk2)
  rw[<-hLk]at hbad hgood hrl hrq hlp
  generalize mixL (resP c.crs) c.prg k=L at hLl hLk kS hbad hgood hrl hrq hlp⊢
  have kb:Kp _:=⟨hbad⟩
  have kg:Kp _:=⟨hgood⟩
  have kq:Kp (∀q∈(L.getD k default).reqs,lenQ q=true/\q.names.length<=1000):=⟨fun q hq=>⟨List.all_eq_true.1 hlp q hq,(hrq q hq).1⟩⟩
  have kLk:Kp _:=⟨hLk⟩
  clear hLk hbad hgood hrq hlp
  have hC:=cloneReq_ok (L.getD k default).reqs Om
  (refine gW ?_;intros)
  refine hC.at [] rfl Tt (fun _ _=>⟨rfl,?_⟩)
  (refine gW ?_;intros)
  refine loop_rule hT (S:=Nat) (fun j=>([(1,ap 0),(2,ap 1),(3,ap 2),(10,lp 0),(14,dV k),(16,.osl (.loc 5) 1 0 (L.getD k default).reqs.length),(158,.osl (.loc 3) 1 0 c.prg.length),(159,dV c.prg.length),(160,dV k),(168,.osl (.loc 5) 1 0 (L.getD k default).reqs.length),(169,dV (L.getD k default).reqs.length),(170,dV j)],⟨[bX 32 [.osl (.loc 1) 1 0 c.crs.length,.osl (.loc 2) 1 0 c.same.length,.osl (.loc 3) 1 0 c.prg.length,.d (eClss c.classes),.d (eFees c.fees),.d (eClss c.honours),.d (eClas c.clauses)],bV 68 16 1 c.crs.length (rowsOf eCrs (mixL (resX c.crs) c.crs c.crs.length)),bV 131 4 1 c.same.length (rowsOf ePai (mixL (resY c.crs) c.same c.same.length)),bV 78 7 1 c.prg.length (rowsOf ePrg L),bX 78 (up (ePrg (L.getD k default))),bV 106 6 1 (L.getD k default).reqs.length (rowsOf eReq (mixL (resQ c.crs) (L.getD k default).reqs j))],ownR c⟩)) (fun j=>j<=(L.getD k default).reqs.length/\((L.getD k default).reqs.take j).all (okQ c.crs)=true) (fun j=>(L.getD k default).reqs.length-j) 0 ?_ ?_ ?_
  .rw[mixL_zero]
   repeat' (first|exact Tt|exact rfl|exact Nat.le_refl _|refine And.intro ?_ ?_)
   all_goals (intro i hi;exact⟨rfl,rfl⟩)
  .exact⟨Nat.zero_le _,rfl⟩
  rintro j ⟨hj,hu⟩
  have ku:Kp _:=⟨hu⟩
  clear hu
  dsimp only at hj⊢
  by_cases hj2:j<(L.getD k default).reqs.length
  case pos =>
   have hMl:=mixL_len (resQ c.crs) (L.getD k default).reqs j
   have hMk:=mixL_at (resQ c.crs) hj2
   have kM:Kp _:=⟨fun i (hi:i<(L.getD k default).reqs.length)=>mixL_get (resQ c.crs) (k:=j) hi⟩
   have kM1:Kp _:=⟨fun i (hi:i<(L.getD k default).reqs.length)=>mixL_get (resQ c.crs) (k:=j+1) hi⟩
   have hq:=kq.h _ (getD_mem hj2)
   rw[<-hMk]at hq
   generalize mixL (resQ c.crs) (L.getD k default).reqs j=Lq at hMl hMk kM hq⊢
   obtain⟨hq1,hq2⟩:=hq
   have hq3:=of_decide_eq_true hq1
   have hI:=cloneInt_ok (Lq.getD j default).fr Om
   have kMk:Kp _:=⟨hMk⟩
   clear hMk
   (refine gW ?_;intros)
   refine hI.at [] rfl Tt (fun _ _=>⟨rfl,?_⟩)
   (refine gW ?_;intros)
   refine loop_rule hT (S:=Nat) (fun i=>([(1,ap 0),(2,ap 1),(3,ap 2),(10,lp 0),(14,dV k),(16,.osl (.loc 5) 1 0 (L.getD k default).reqs.length),(158,.osl (.loc 3) 1 0 c.prg.length),(159,dV c.prg.length),(160,dV k),(168,.osl (.loc 5) 1 0 (L.getD k default).reqs.length),(169,dV (L.getD k default).reqs.length),(170,dV j),(17,dV j),(18,lp 6),(183,.d (eStrs (Lq.getD j default).names)),(184,dV (Lq.getD j default).names.length),(185,dV i)],⟨[bX 32 [.osl (.loc 1) 1 0 c.crs.length,.osl (.loc 2) 1 0 c.same.length,.osl (.loc 3) 1 0 c.prg.length,.d (eClss c.classes),.d (eFees c.fees),.d (eClss c.honours),.d (eClas c.clauses)],bV 68 16 1 c.crs.length (rowsOf eCrs (mixL (resX c.crs) c.crs c.crs.length)),bV 131 4 1 c.same.length (rowsOf ePai (mixL (resY c.crs) c.same c.same.length)),bV 78 7 1 c.prg.length (rowsOf ePrg L),bX 78 (up (ePrg (L.getD k default))),bV 106 6 1 (L.getD k default).reqs.length (gRow Lq j (Lq.getD j default).fr.length),bX 106 (up (eReq (Lq.getD j default))),bV 3 1 1 (Lq.getD j default).fr.length (rowZ (frK c.crs (Lq.getD j default) i))],ownR c⟩)) (fun i=>i<=(Lq.getD j default).names.length/\∀x,x<i->(numO c.crs ((Lq.getD j default).names.getD x default) ((Lq.getD j default).fr.getD x default)).isSome=true) (fun i=>(Lq.getD j default).names.length-i) 0 ?_ ?_ ?_
   .rw [frK_zero]
    repeat' (first|exact Tt|exact rfl|exact Nat.le_refl _|refine And.intro ?_ ?_)
    all_goals first
     |(intro i hi;exact⟨rfl,rfl⟩)
     | (intro i hi
        refine⟨?_,?_⟩
        .show(bif Nat.beq i j then splice (rowsOf eReq Lq j) 5 [AV.osl (.loc 7) 1 0 (Lq.getD j default).fr.length] else rowsOf eReq Lq i)=_
         cases hb:Nat.beq i j with
         | true =>
           have:=Nat.eq_of_beq_eq_true hb
           subst this
           rw[gRow,hb]
           rfl
         | false =>
           rw[gRow,hb]
           rfl
        .unfold gRow
         cases Nat.beq i j<;>rfl)
   .exact⟨Nat.zero_le _,fun x h=>absurd h (Nat.not_lt_zero x)⟩
   rintro i ⟨hi,hv⟩
   have kv:Kp _:=⟨hv⟩
   clear hv
   dsimp only at hi⊢
   by_cases hi2:i<(Lq.getD j default).names.length
   case pos =>
    have hfl:=frK_len c.crs hq1 i
    have he:(numO c.crs ((Lq.getD j default).names.getD i default) ((Lq.getD j default).fr.getD i default)).isSome=false->resE c=110:=fun h=>by
     refine kb.h (List.all_eq_false.2 ⟨(L.getD k default).reqs.getD j default,getD_mem hj2,?_⟩)
     rw[<-kMk.h]
     intro hh
     have:=(okQ_iff c.crs hq1).1 hh i hi2
     rw[h]at this
     cases this
    have hM:=numberM_ok c Om ((Lq.getD j default).names.getD i default) ((Lq.getD j default).fr.getD i default)
    have hbj:Nat.beq (oadd 0 ((j:Int)).toNat) j=true:=Nat.beq_refl j
    cases hn:(numO c.crs ((Lq.getD j default).names.getD i default) ((Lq.getD j default).fr.getD i default)).isSome with
    | false =>
      rw[hn]at hM
      have hP:=hM.2 rfl
      clear hM
      (refine gS ?_;intros)
      refine Sq.go ?_;(refine gS ?_;intros)
      refine Sq.go ?_;(refine gS ?_;intros)
      refine Sq.alt (Awp.panD hT Kr Kr Kr [13] [15] (chE 110) Kr ?_)
      conv=>whnf
      (refine gS ?_;intros)
      simp(config:={beta:=false,eta:=false,iota:=false,proj:=false,zeta:=false,decide:=false}) only[hbj,cond_true]
      conv=>whnf
      (refine gS ?_;intros)
      refine⟨?_,resPan' c 110 (he hn) Dc rfl⟩
      conv=>whnf
      (refine gS ?_;intros)
      exact Pan.vc hP ⟨.d,.d,.d,Tt⟩ rfl
    | true =>
      rw[hn]at hM
      have hP:=hM.1 rfl
      clear hM
      (refine gS ?_;intros)
      refine Sq.go ?_;(refine gS ?_;intros)
      refine Sq.go ?_;(refine gS ?_;intros)
      refine Sq.alt (Awp.effsF (m:=⟨[bX 32 [.osl (.loc 1) 1 0 c.crs.length,.osl (.loc 2) 1 0 c.same.length,.osl (.loc 3) 1 0 c.prg.length,.d (eClss c.classes),.d (eFees c.fees),.d (eClss c.honours),.d (eClas c.clauses)],bV 68 16 1 c.crs.length (rowsOf eCrs (mixL (resX c.crs) c.crs c.crs.length)),bV 131 4 1 c.same.length (rowsOf ePai (mixL (resY c.crs) c.same c.same.length)),bV 78 7 1 c.prg.length (rowsOf ePrg L),bX 78 (up (ePrg (L.getD k default))),bV 106 6 1 (L.getD k default).reqs.length (gRow Lq j (Lq.getD j default).fr.length),bX 106 (up (eReq (Lq.getD j default))),bV 3 1 1 (Lq.getD j default).fr.length (rowZ (frK c.crs (Lq.getD j default) i))],ownR c⟩) hT Kr Kr Kr
       ⟨[bX 32 [.osl (.loc 1) 1 0 c.crs.length,.osl (.loc 2) 1 0 c.same.length,.osl (.loc 3) 1 0 c.prg.length,.d (eClss c.classes),.d (eFees c.fees),.d (eClss c.honours),.d (eClas c.clauses)],bV 68 16 1 c.crs.length (rowsOf eCrs (mixL (resX c.crs) c.crs c.crs.length)),bV 131 4 1 c.same.length (rowsOf ePai (mixL (resY c.crs) c.same c.same.length)),bV 78 7 1 c.prg.length (rowsOf ePrg L),bX 78 (up (ePrg (L.getD k default))),bV 106 6 1 (L.getD k default).reqs.length (gRow Lq j (Lq.getD j default).fr.length),bX 106 (up (eReq (Lq.getD j default))),bV 3 1 1 (Lq.getD j default).fr.length fun _=>jks 1],ownR c⟩ 8 3
       [⟨15,.junk,⟨[bX 32 [.osl (.loc 1) 1 0 c.crs.length,.osl (.loc 2) 1 0 c.same.length,.osl (.loc 3) 1 0 c.prg.length,.d (eClss c.classes),.d (eFees c.fees),.d (eClss c.honours),.d (eClas c.clauses)],bV 68 16 1 c.crs.length (rowsOf eCrs (mixL (resX c.crs) c.crs c.crs.length)),bV 131 4 1 c.same.length (rowsOf ePai (mixL (resY c.crs) c.same c.same.length)),bV 78 7 1 c.prg.length (rowsOf ePrg L),bX 78 (up (ePrg (L.getD k default))),bV 106 6 1 (L.getD k default).reqs.length (gRow Lq j (Lq.getD j default).fr.length),bX 106 (up (eReq (Lq.getD j default))),bV 3 1 1 (Lq.getD j default).fr.length (fun x=>bif Nat.beq x i then[dV ((numO c.crs ((Lq.getD j default).names.getD i default) ((Lq.getD j default).fr.getD i default)).getD 0)] else rowZ (frK c.crs (Lq.getD j default) i) x)],ownR c⟩,[]⟩]
       Kr rfl rfl (WeakF.of ⟨.inl rfl,.inl rfl,.inl rfl,.inl rfl,.inl rfl,.inl rfl,.inl rfl,.inr ⟨_,rfl,WeakB.vecJ (fun x _=>Tt)⟩,Tt⟩ ⟨.inl rfl,.inl rfl,.inl rfl,Tt⟩)
       ⟨WeakF.of ⟨.inl rfl,.inl rfl,.inl rfl,.inl rfl,.inl rfl,.inl rfl,.inl rfl,.inr ⟨_,rfl,WeakB.vecJ (fun x _=>jks_JL _ (by cases Nat.beq x i<;>rfl))⟩,Tt⟩ ⟨.inl rfl,.inl rfl,.inl rfl,Tt⟩,Tt⟩ ?_)
      conv=>whnf
      (refine gS ?_;intros)
      simp(config:={beta:=false,eta:=false,iota:=false,proj:=false,zeta:=false,decide:=false}) only[hbj,cond_true]
      conv=>whnf
      (refine gS ?_;intros)
      refine qC hP ?_
      (refine gS ?_;intros)
      refine⟨?_,?_⟩
      .conv=>whnf
       (refine gS ?_;intros)
       exact⟨Tt,rfl⟩
      conv=>whnf
      (refine gW ?_;intros)
      refine⟨i+1,⟨by show i+1<=(Lq.getD j default).names.length;omega,fun x hx=>by
       rcases Nat.lt_or_ge x i with h1|h1
       .exact kv.h x h1
       .rw[show x=i by omega]
        exact hn⟩,by show(Lq.getD j default).names.length-(i+1)<(Lq.getD j default).names.length-i;omega,?_⟩
      repeat' (first|exact Tt|exact rfl|exact Nat.le_refl _|refine And.intro ?_ ?_)
      all_goals first
       | (intro x hx
          refine⟨?_,rfl⟩
          exact frK_set c.crs hq1 Om _ rfl hx)
       |(intro x hx;exact⟨rfl,rfl⟩)
       | (intro x hx
          refine⟨rfl,?_⟩
          unfold gRow
          cases Nat.beq x j<;>rfl)
   have hie:i=(Lq.getD j default).names.length:=by omega
   have hok:okQ c.crs (Lq.getD j default)=true:=(okQ_iff c.crs hq1).2 fun x hx=>kv.h x Om
   have hjt:((L.getD k default).reqs.take (j+1)).all (okQ c.crs)=true:=by
    rw[take_succ_at hj2,List.all_append,ku.h,List.all_cons,<-kMk.h,hok]
    rfl
   have hfi:frK c.crs (Lq.getD j default) i=frL c.crs (Lq.getD j default):=by rw[hie,hq3,frK_all c.crs hq1]
   rw[hfi]
   clear hok hie hfi kv
   (refine gS ?_;intros)
   refine Sq.go ?_;(refine gS ?_;intros)
   refine Sq.alt (Awp.frzC [7] 5 (rowsOf eReq (mixL (resQ c.crs) (L.getD k default).reqs (j+1))) rfl rfl (fun x hx=>?_) (vc_ok hT _ _ _ _ (Ev.o ?_)))
   .have h1:=kM1.h x hx
    have h0:=kM.h x hx
    show BcL _ _ (up (eReq ((mixL (resQ c.crs) (L.getD k default).reqs (j+1)).getD x default)))
    rw[h1]
    by_cases e:x=j
    .subst e
     rw[if_pos (Nat.lt_succ_self _),<-kMk.h,gRow,Nat.beq_refl,cond_true]
     refine⟨.inl rfl,.inl rfl,.inl rfl,.inl rfl,.inl rfl,.inr ⟨_,rfl,?_⟩,Tt⟩
     show BecP _ _ (.sl 1 (frL c.crs (Lq.getD x default)).length fun i=>[di ((frL c.crs (Lq.getD x default)).getD i default)])
     rw[frL_len c.crs hq1]
     exact .rows rfl (Nat.le_of_eq (Nat.zero_add _)) (fun i hi=>by rw[Nat.zero_add];rfl)
    .have e2:Lq.getD x default=if x<j+1 then resQ c.crs ((L.getD k default).reqs.getD x default) else(L.getD k default).reqs.getD x default:=by
      rw[h0]
      by_cases hl:x<j
      .rw[if_pos hl,if_pos Om]
      .rw[if_neg hl,if_neg Om]
     rw[<-e2,gRow,show Nat.beq x j=false from Bool.eq_false_iff.2 fun h=>e (Nat.eq_of_beq_eq_true h),cond_false]
     exact BcL.refl _
   (refine gW ?_;intros)
   refine⟨j+1,⟨by show j+1<=(L.getD k default).reqs.length;omega,hjt⟩,by show(L.getD k default).reqs.length-(j+1)<(L.getD k default).reqs.length-j;omega,?_⟩
   repeat' (first|exact Tt|exact rfl|exact Nat.le_refl _|refine And.intro ?_ ?_)
   all_goals first
    |(intro x hx;exact⟨rfl,rfl⟩)
  obtain rfl:j=(L.getD k default).reqs.length:=by omega
  have hop:okP' c.crs (L.getD k default)=true:=by
   have:=ku.h
   rwa [List.take_length]at this
  have hkt:=kg.h hop
  clear hop ku
  (refine gS ?_;intros)
  refine Sq.go ?_;(refine gS ?_;intros)
  refine Sq.alt (Awp.frz [5] 16 (.sl 6 (L.getD k default).reqs.length fun i=>eReq (((L.getD k default).reqs.map (resQ c.crs)).getD i default)) (.rows rfl (Nat.le_of_eq (Nat.zero_add _)) (fun i hi=>by rw[Nat.zero_add,mixL_all];rfl)) (vc_ok hT _ _ _ _ (Ev.o ?_)))
  (refine gW ?_;intros)
  refine⟨k+1,⟨by show k+1<=c.prg.length;omega,hkt⟩,by show c.prg.length-(k+1)<c.prg.length-k;omega,?_⟩
  repeat' (first|exact Tt|exact rfl|exact Nat.le_refl _|refine And.intro ?_ ?_)
  all_goals first
   |(intro x hx;exact⟨rfl,rfl⟩)
   | (intro x hx
      refine⟨?_,rfl⟩
      have hl:((L.getD k default).reqs.map (resQ c.crs)).length=(L.getD k default).reqs.length:=List.length_map ..
      refine kS.h _ ?_ x hx
      show splice (up (ePrg (L.getD k default))) 6 _=_
      rw[<-kLk.h,<-hl]
      rfl)
 obtain rfl:k=c.prg.length:=by omega
 have hX:c.prg.all (okP' c.crs)=true:=by
  have:=kt.h
  rwa [List.take_length]at this
 have he:=kW.h hX
 clear hX kt kV hk hk2 kW
 have hO:=orderG_ok c Om fun x hx=>(hF.cnt x hx).1
 generalize hoe:ordE c.crs=oe at hO he
 have hoe':oe=0\/oe=112:=by
  rw[<-hoe,ordE]
  split
  .exact .inr rfl
  .exact .inl rfl
 rcases hoe' with rfl|rfl
 ·(refine gW ?_;intros)
  refine hO.call ?_
  (refine gW ?_;intros)
  refine((demandM_ok (decide ((0:Int)=0)) 0).1 rfl).call ?_
  (refine gW ?_;intros)
  have hV':resV c=resC c:=if_pos he
  refine⟨rfl,Ev.mk ?_⟩
  refine(caughtP_ok 0).frame [.arg 2] rfl ⟨rfl,Tt⟩ fun A m0 ⟨_,_,e1,e2⟩=>?_
  subst e2
  refine⟨rfl,?_⟩
  refine⟨?_,?_,Tt⟩
  .conv=>whnf
   rw[hV']
   exact .agg' ⟨rowsM (resX c.crs) c.crs rfl,rowsM (resY c.crs) c.same rfl,rowsM (resP c.crs) c.prg rfl,.d,.d,.d,.d,Tt⟩
  .conv=>whnf
   rw[he]
   exact .d
 ·(refine gW ?_;intros)
  refine hO.call ?_
  (refine gS ?_;intros)
  refine Sq.alt (Awp.seq (Awp.pan hT 3 rfl rfl rfl Kr ?_))
  (refine gS ?_;intros)
  refine Pan.vc ((demandM_ok (decide ((112:Int)=0)) 112).2 rfl) ⟨.d,.d,Tt⟩ ?_
  exact resPan' c 112 he Dc rfl
structure RB where
 k:Nat
 g:Nat
theorem rowsL {m:Mem}{r:Ref}{α:Type}[Inhabited α](l:List α){e sz g n:Nat}{enc:α->List D}(hn:n=l.length)(h:m.get r=bV e sz g n (rowsOf enc l)) :
 BecP m (.osl r g 0 n) (.sl sz l.length fun i=>enc (l.getD i default)):=by
 subst hn
 exact .rows h (Nat.le_of_eq (Nat.zero_add _)) fun i hi=>by rw[Nat.zero_add];rfl
noncomputable def insCode (n:Nat):Code:=nxts n (Tryz.f15.body.getD .skip)
def insR:List ResultVar:=[.cell 8 26,.tmp 9,.tmp 10]
def insQ' (x:Bok)(fs:List Fct):Post:=finC tab insR [.agg (eBok x),eFcts fs,di 0]
theorem insEnd (b x:Bok)(fr til kn:Int)(g g2:Nat)(fs:List Fct)(hf:fs.length<=1000) :
 Awp Tryz.prog 211 (insCode 15) [(8,lp 3),(15,lp 7)]
  ⟨[none,none,none,some (.box 26 [.d (eCrss x.crs),.d (ePrgs x.prg),.osl (.loc 9) g2 0 x.sys.length]),none,none,none,
    bX 144 [dV fr,dV til,dV kn,.osl (.loc 8) g 0 fs.length],bV 94 8 g fs.length (rowsOf eFct fs),bV 83 4 g2 x.sys.length (rowsOf eSys x.sys)],[]⟩ (insQ' x fs):=by
 unfold insQ'
 refine Awp.frzB [9] 3 (up (eBok x)) rfl rfl ⟨.inl rfl,.inl rfl,.inr ⟨_,rfl,rowsL x.sys rfl rfl⟩,Tt⟩ ?_
 refine Awp.frzB [8] 7 (up [di fr,di til,di kn,eFcts fs]) rfl rfl ⟨.inl rfl,.inl rfl,.inl rfl,.inr ⟨_,rfl,rowsL fs rfl rfl⟩,Tt⟩ ?_
 refine Awp.of_vc hT ?_
 (refine gS ?_;intros)
 refine Sq.go ?_;(refine gS ?_;intros)
 refine Sq.alt (Awp.seq (Awp.effs (m:=⟨[none,none,none,bX 26 (up (eBok x)),none,none,none,bX 144 (up [di fr,di til,di kn,eFcts fs]),none,none],[]⟩) hT Kr Kr Kr ⟨[none,none,none,bX 26 (up (eBok x)),none,none,none,bX 144 (up [di fr,di til,di kn,eFcts fs]),none,none],[]⟩ [⟨3,.junk,⟨[none,none,none,bX 26 (up (eBok x)),none,none,none,bX 144 (up [di fr,di til,di kn,eFcts fs]),none,none],[]⟩,[]⟩] Kr (fun r=>.inl rfl) ⟨fun r=>.inl rfl,Tt⟩ ?_))
 conv=>whnf
 (refine gS ?_;intros)
 refine⟨?_,?_⟩
 .conv=>whnf
  (refine gS ?_;intros)
  exact⟨Tt,rfl⟩
 conv=>whnf
 (refine gW ?_;intros)
 refine Awp.of_vc hT ?_
 (refine gW ?_;intros)
 refine⟨?_,.d,.d,Tt⟩
 conv=>whnf
 exact .d
theorem insNum (b:Bok)(l:List Crs)(p:List Prg)(q:List Sys)(fr til kn:Int)(g g2:Nat)(fs:List Fct)(hf:fs.length<=900)(hb:b.crs.length<=1000000)(hl:l.length<=1000000) :
 Awp Tryz.prog 211 (insCode 14) [(4,lp 0),(8,lp 3),(15,lp 7)]
  ⟨[some (.box 26 (up (eBok b))),none,none,some (.box 26 [.d (eCrss l),.d (ePrgs p),.osl (.loc 9) g2 0 q.length]),none,none,none,
    bX 144 [dV fr,dV til,dV kn,.osl (.loc 8) g 0 fs.length],bV 94 8 g fs.length (rowsOf eFct fs),bV 83 4 g2 q.length (rowsOf eSys q)],[]⟩ (insQ' ⟨l,p,q⟩ (insN b.crs l kn fs)):=by
 unfold insQ'
 refine Awp.of_vc hT ?_
 (refine gW ?_;intros)
 refine(numbersC_ok l hl).at [] rfl Tt (fun _ _=>⟨rfl,?_⟩)
 (refine gW ?_;intros)
 refine op_len_map hT rfl rfl rfl rfl fun qs q1 q2 q3=>?_
 have hqs:=num_len q1 q2 q3
 rw[hqs]
 clear q1 q2 q3 hqs
 (refine gW ?_;intros)
 refine(numbersC_ok b.crs hb).at [] rfl Tt (fun _ _=>⟨rfl,?_⟩)
 (refine gW ?_;intros)
 refine op_len_map hT rfl rfl rfl rfl fun ps p1 p2 p3=>?_
 have hps:=num_len p1 p2 p3
 rw[hps]
 clear p1 p2 p3 hps qs ps
 unfold insN
 by_cases hm:numN b.crs<numN l
 .have hA:=add_ok 0 1024 kn g fs Om 12 0 0 (numN l:Int)
  rw[if_pos hm]
  have hl2:=addF_len 0 1024 kn fs (12,0,0,(numN l:Int))
  have he:fs++[(⟨12,0,0,(numN l:Int),0,1024,kn,fs.length⟩:Fct)]=addF 0 1024 kn fs (12,0,0,(numN l:Int)):=rfl
  rw[he]at hA
  clear he
  generalize addF 0 1024 kn fs (12,0,0,(numN l:Int))=es at hA hl2⊢
  (refine gW ?_;intros)
  refine hA.at [.loc 7,.loc 8] rfl ?_ (fun _ _=>⟨rfl,?_⟩)
  .exact⟨rfl,rfl,Tt⟩
  (refine gS ?_;intros)
  refine Sq.alt (Awp.le (env':=[(8,lp 3),(15,lp 7)]) (m':=⟨[none,none,none,bX 26 [.d (eCrss l),.d (ePrgs p),.osl (.loc 9) g2 0 q.length],none,none,none,bX 144 [dV 0,dV 1024,dV kn,.osl (.loc 8) (g+1) 0 es.length],bV 94 8 (g+1) es.length (rowsOf eFct es),bV 83 4 g2 q.length (rowsOf eSys q)],[]⟩) ?_ (insEnd b ⟨l,p,q⟩ 0 1024 kn (g+1) g2 es Om))
  repeat' (first|exact Tt|exact rfl|exact Nat.le_refl _|refine And.intro ?_ ?_)
  all_goals (intro i hi;exact⟨rfl,rfl⟩)
 .rw[if_neg hm]
  (refine gS ?_;intros)
  refine Sq.go ?_;(refine gS ?_;intros)
  refine Sq.alt (Awp.le (env':=[(8,lp 3),(15,lp 7)]) (m':=⟨[none,none,none,bX 26 [.d (eCrss l),.d (ePrgs p),.osl (.loc 9) g2 0 q.length],none,none,none,bX 144 [dV fr,dV til,dV kn,.osl (.loc 8) g 0 fs.length],bV 94 8 g fs.length (rowsOf eFct fs),bV 83 4 g2 q.length (rowsOf eSys q)],[]⟩) ?_ (insEnd b ⟨l,p,q⟩ fr til kn g g2 fs Om))
  repeat' (first|exact Tt|exact rfl|exact Nat.le_refl _|refine And.intro ?_ ?_)
  all_goals (intro i hi;exact⟨rfl,rfl⟩)
def cat2 {α:Type}(a b:List α):Nat->List α
 |0=>[]
 |1=>a
 |_=>a++b
theorem rowsOf_cat {α:Type}[Inhabited α](enc:α->List D)(a b:List α){n:Nat}(hn:n=a.length)(i:Nat):joinF n (rowsOf enc a) (fun i=>up (enc (b.getD i default))) i=rowsOf enc (a++b) i:=by
 subst hn
 by_cases h:i<a.length
 .rw[joinF_lt h]
  simp only[rowsOf,List.getD_eq_getElem?_getD]
  rw[List.getElem?_append_left h]
 .rw[joinF_ge Om]
  simp only[rowsOf,List.getD_eq_getElem?_getD]
  rw[List.getElem?_append_right Om]
theorem growCrs_ok (n:Nat)(hn:n<=10000000):CallVC Tryz.prog 136 [.d .nils,dV n] ⟨[],[]⟩
 (Ret (fun b:Bool=>bif b then([.osl (.loc 0) 0 0 0],⟨[bV 68 16 0 0 fun _=>[]],[]⟩) else([.d .nils],⟨[],[]⟩)) fun _=>True):=by
 refine call_rule hT (T:=tab) (N:=27) (rs:=[.tmp 4]) _ _ Tryz.func136 rfl rfl rfl Kr rfl ?_
 ((refine xW ?_ ?_)<;>intros)
 .refine⟨true,Tt,?_,rfl⟩
  repeat' (first|exact Tt|exact rfl|exact Nat.le_refl _|refine And.intro ?_ ?_)
  .exact Nat.zero_le _
  .intro i hi
   omega
 .exact⟨false,Tt,by repeat' (first|exact Tt|exact rfl|exact Nat.le_refl _|refine And.intro ?_ ?_),rfl⟩
theorem concatCrs_ok (a b:List Crs)(ha:a.length<=1000000)(hb:b.length<=1000000):Pure Tryz.prog 78 [.sl 1 2 (nthD [[eCrss a],[eCrss b]])] [eCrss (a++b)]:=by
 obtain⟨L,l0,l1,l2⟩:∃L:Nat->Nat,L 0=0/\L 1=a.length/\L 2=a.length+b.length:=⟨fun k=>match k with|0=>0|1=>a.length|_=>a.length+b.length,rfl,rfl,rfl⟩
 obtain⟨C,c0,c1,c2⟩:∃C:Nat->List Crs,C 0=[]/\C 1=a/\C 2=a++b:=⟨cat2 a b,rfl,rfl,rfl⟩
 have n0:(C 0).length=0:=by rw[c0];rfl
 have n1:(C 1).length=a.length:=by rw[c1]
 have n2:(C 2).length=a.length+b.length:=by rw[c2,List.length_append]
 have kc:Kp (C 0=[]/\C 1=a/\C 2=a++b):=⟨⟨c0,c1,c2⟩⟩
 have kl:Kp (L 0=0/\L 1=a.length/\L 2=a.length+b.length):=⟨⟨l0,l1,l2⟩⟩
 have kn:Kp ((C 0).length=0/\(C 1).length=a.length/\(C 2).length=a.length+b.length):=⟨⟨n0,n1,n2⟩⟩
 clear c0 c1 c2 l0 l1 l2 n0 n1 n2
 refine pure_rule hT (T:=tab) (N:=36) (rs:=[.tmp 2]) Tryz.func78 rfl rfl rfl Kr rfl ?_
 (refine gW ?_;intros)
 refine loop_rule hT (S:=Nat) (fun k=>([(0,.d (.sl 1 2 (nthD [[eCrss a],[eCrss b]]))),(3,dV (L k)),(9,.d (.sl 1 2 (nthD [[eCrss a],[eCrss b]]))),(10,dV 2),(11,dV k)],⟨[],[]⟩)) (fun k=>k<=2) (fun k=>2-k) 0 ?_ ?_ ?_
 .repeat' (first|exact Tt|exact rfl|exact Nat.le_refl _|refine And.intro ?_ ?_)
  exact congrArg AV.d (congrArg (D.int .i64) (by rw[kl.h.1];rfl))
 .exact Nat.zero_le _
 .intro k hk
  have hk':k=0\/k=1\/k=2:=by omega
  rcases hk' with rfl|rfl|rfl
  .have q:=kl.h.1
   (refine gW ?_;intros)
   refine⟨1,Dc,Dc,?_⟩
   repeat' (first|exact Tt|exact rfl|exact Nat.le_refl _|refine And.intro ?_ ?_)
   exact congrArg AV.d (congrArg (D.int .i64) (by have:=kl.h.1;have:=kl.h.2.1;omega))
  .have q:=kl.h.2.1
   (refine gW ?_;intros)
   refine⟨2,Dc,Dc,?_⟩
   repeat' (first|exact Tt|exact rfl|exact Nat.le_refl _|refine And.intro ?_ ?_)
   exact congrArg AV.d (congrArg (D.int .i64) (by have:=kl.h.2.1;have:=kl.h.2.2;omega))
  ·(refine gW ?_;intros)
   refine(growCrs_ok (L 2) (by have:=kl.h.2.2;omega)).at [] rfl Tt (fun s _=>?_)
   cases s
   all_goals refine⟨rfl,?_⟩
   repeat' (first|with_reducible refine Sq.go ?_|((with_reducible refine Ev.mk ?_);conv=>whnf)|with_reducible refine Dr.mk ⟨Kr,Kr⟩ ?_|with_reducible refine obG ?_|with_reducible refine Ob.mk ?_ ?_|(with_reducible first|refine brT fun h=>?_|refine brF fun h=>?_|refine Br.mk (fun h=>?_) fun h=>?_)<;>(try simp only[bsl,beq_iff_eq,bne_iff_ne,bs2]at h)<;>(try contradiction)<;>try (exfalso;omega))
   refine Awp.vec 6 68 16 (fun _=>[]) rfl ?_
   all_goals
    refine loop_rule hT (S:=Nat) (fun k=>([(0,.d (.sl 1 2 (nthD [[eCrss a],[eCrss b]]))),(6,.osl (.loc 0) k 0 (C k).length),(25,.d (.sl 1 2 (nthD [[eCrss a],[eCrss b]]))),(26,dV 2),(27,dV k)],⟨[bV 68 16 k (C k).length (rowsOf eCrs (C k))],[]⟩)) (fun k=>k<=2) (fun k=>2-k) 0 ?_ ?_ ?_
    .repeat' (first|exact Tt|exact rfl|exact Nat.le_refl _|refine And.intro ?_ ?_)
     all_goals first
      |(exact congrArg (AV.osl (.loc 0) 0 0) kn.h.1.symm)
      |(exact Nat.le_of_eq kn.h.1)
      |(exact kn.h.1)
      |(exact kn.h.1.symm)
      | (intro i hi
         rw[kn.h.1]at hi
         exact absurd hi (Nat.not_lt_zero i))
    .exact Nat.zero_le _
    intro k hk
    have hk':k=0\/k=1\/k=2:=by omega
    rcases hk' with rfl|rfl|rfl
    .have q:=kn.h.1
     (refine gW ?_;intros)
     refine⟨1,Dc,Dc,?_⟩
     repeat' (first|exact Tt|exact rfl|exact Nat.le_refl _|refine And.intro ?_ ?_)
     all_goals first
      |(exact congrArg (AV.osl (.loc 0) 1 0) (by have:=kn.h.1;have:=kn.h.2.1;omega))
      |(have:=kn.h.1;have:=kn.h.2.1;omega)
      | (intro i hi
         refine⟨?_,rfl⟩
         rw[rowsOf_cat eCrs (C 0) a rfl i,kc.h.1,kc.h.2.1]
         rfl)
    .have q:=kn.h.2.1
     (refine gW ?_;intros)
     refine⟨2,Dc,Dc,?_⟩
     repeat' (first|exact Tt|exact rfl|exact Nat.le_refl _|refine And.intro ?_ ?_)
     all_goals first
      |(exact congrArg (AV.osl (.loc 0) 2 0) (by have:=kn.h.2.1;have:=kn.h.2.2;omega))
      |(have:=kn.h.2.1;have:=kn.h.2.2;omega)
      | (intro i hi
         refine⟨?_,rfl⟩
         rw[rowsOf_cat eCrs (C 1) b rfl i,kc.h.2.1,kc.h.2.2])
    ·(refine gW ?_;intros)
     refine⟨⟨rfl,rfl,Nat.le_of_eq (Nat.zero_add _),?_,fun j hj=>?_⟩,Tt⟩
     .rw[kc.h.2.2]
     .rw[Nat.zero_add,kc.h.2.2]
      rfl
theorem growPrg_ok (n:Nat)(hn:n<=10000000):CallVC Tryz.prog 137 [.d .nils,dV n] ⟨[],[]⟩
 (Ret (fun b:Bool=>bif b then([.osl (.loc 0) 0 0 0],⟨[bV 78 7 0 0 fun _=>[]],[]⟩) else([.d .nils],⟨[],[]⟩)) fun _=>True):=by
 refine call_rule hT (T:=tab) (N:=27) (rs:=[.tmp 4]) _ _ Tryz.func137 rfl rfl rfl Kr rfl ?_
 ((refine xW ?_ ?_)<;>intros)
 .refine⟨true,Tt,?_,rfl⟩
  repeat' (first|exact Tt|exact rfl|exact Nat.le_refl _|refine And.intro ?_ ?_)
  .exact Nat.zero_le _
  .intro i hi
   omega
 .exact⟨false,Tt,by repeat' (first|exact Tt|exact rfl|exact Nat.le_refl _|refine And.intro ?_ ?_),rfl⟩
theorem concatPrg_ok (a b:List Prg)(ha:a.length<=1000000)(hb:b.length<=1000000):Pure Tryz.prog 79 [.sl 1 2 (nthD [[ePrgs a],[ePrgs b]])] [ePrgs (a++b)]:=by
 obtain⟨L,l0,l1,l2⟩:∃L:Nat->Nat,L 0=0/\L 1=a.length/\L 2=a.length+b.length:=⟨fun k=>match k with|0=>0|1=>a.length|_=>a.length+b.length,rfl,rfl,rfl⟩
 obtain⟨C,c0,c1,c2⟩:∃C:Nat->List Prg,C 0=[]/\C 1=a/\C 2=a++b:=⟨cat2 a b,rfl,rfl,rfl⟩
 have n0:(C 0).length=0:=by rw[c0];rfl
 have n1:(C 1).length=a.length:=by rw[c1]
 have n2:(C 2).length=a.length+b.length:=by rw[c2,List.length_append]
 have kc:Kp (C 0=[]/\C 1=a/\C 2=a++b):=⟨⟨c0,c1,c2⟩⟩
 have kl:Kp (L 0=0/\L 1=a.length/\L 2=a.length+b.length):=⟨⟨l0,l1,l2⟩⟩
 have kn:Kp ((C 0).length=0/\(C 1).length=a.length/\(C 2).length=a.length+b.length):=⟨⟨n0,n1,n2⟩⟩
 clear c0 c1 c2 l0 l1 l2 n0 n1 n2
 refine pure_rule hT (T:=tab) (N:=36) (rs:=[.tmp 2]) Tryz.func79 rfl rfl rfl Kr rfl ?_
 (refine gW ?_;intros)
 refine loop_rule hT (S:=Nat) (fun k=>([(0,.d (.sl 1 2 (nthD [[ePrgs a],[ePrgs b]]))),(3,dV (L k)),(9,.d (.sl 1 2 (nthD [[ePrgs a],[ePrgs b]]))),(10,dV 2),(11,dV k)],⟨[],[]⟩)) (fun k=>k<=2) (fun k=>2-k) 0 ?_ ?_ ?_
 .repeat' (first|exact Tt|exact rfl|exact Nat.le_refl _|refine And.intro ?_ ?_)
  exact congrArg AV.d (congrArg (D.int .i64) (by rw[kl.h.1];rfl))
 .exact Nat.zero_le _
 .intro k hk
  have hk':k=0\/k=1\/k=2:=by omega
  rcases hk' with rfl|rfl|rfl
  .have q:=kl.h.1
   (refine gW ?_;intros)
   refine⟨1,Dc,Dc,?_⟩
   repeat' (first|exact Tt|exact rfl|exact Nat.le_refl _|refine And.intro ?_ ?_)
   exact congrArg AV.d (congrArg (D.int .i64) (by have:=kl.h.1;have:=kl.h.2.1;omega))
  .have q:=kl.h.2.1
   (refine gW ?_;intros)
   refine⟨2,Dc,Dc,?_⟩
   repeat' (first|exact Tt|exact rfl|exact Nat.le_refl _|refine And.intro ?_ ?_)
   exact congrArg AV.d (congrArg (D.int .i64) (by have:=kl.h.2.1;have:=kl.h.2.2;omega))
  ·(refine gW ?_;intros)
   refine(growPrg_ok (L 2) (by have:=kl.h.2.2;omega)).at [] rfl Tt (fun s _=>?_)
   cases s
   all_goals refine⟨rfl,?_⟩
   repeat' (first|with_reducible refine Sq.go ?_|((with_reducible refine Ev.mk ?_);conv=>whnf)|with_reducible refine Dr.mk ⟨Kr,Kr⟩ ?_|with_reducible refine obG ?_|with_reducible refine Ob.mk ?_ ?_|(with_reducible first|refine brT fun h=>?_|refine brF fun h=>?_|refine Br.mk (fun h=>?_) fun h=>?_)<;>(try simp only[bsl,beq_iff_eq,bne_iff_ne,bs2]at h)<;>(try contradiction)<;>try (exfalso;omega))
   refine Awp.vec 6 78 7 (fun _=>[]) rfl ?_
   all_goals
    refine loop_rule hT (S:=Nat) (fun k=>([(0,.d (.sl 1 2 (nthD [[ePrgs a],[ePrgs b]]))),(6,.osl (.loc 0) k 0 (C k).length),(25,.d (.sl 1 2 (nthD [[ePrgs a],[ePrgs b]]))),(26,dV 2),(27,dV k)],⟨[bV 78 7 k (C k).length (rowsOf ePrg (C k))],[]⟩)) (fun k=>k<=2) (fun k=>2-k) 0 ?_ ?_ ?_
    .repeat' (first|exact Tt|exact rfl|exact Nat.le_refl _|refine And.intro ?_ ?_)
     all_goals first
      |(exact congrArg (AV.osl (.loc 0) 0 0) kn.h.1.symm)
      |(exact Nat.le_of_eq kn.h.1)
      |(exact kn.h.1)
      |(exact kn.h.1.symm)
      | (intro i hi
         rw[kn.h.1]at hi
         exact absurd hi (Nat.not_lt_zero i))
    .exact Nat.zero_le _
    intro k hk
    have hk':k=0\/k=1\/k=2:=by omega
    rcases hk' with rfl|rfl|rfl
    .have q:=kn.h.1
     (refine gW ?_;intros)
     refine⟨1,Dc,Dc,?_⟩
     repeat' (first|exact Tt|exact rfl|exact Nat.le_refl _|refine And.intro ?_ ?_)
     all_goals first
      |(exact congrArg (AV.osl (.loc 0) 1 0) (by have:=kn.h.1;have:=kn.h.2.1;omega))
      |(have:=kn.h.1;have:=kn.h.2.1;omega)
      | (intro i hi
         refine⟨?_,rfl⟩
         rw[rowsOf_cat ePrg (C 0) a rfl i,kc.h.1,kc.h.2.1]
         rfl)
    .have q:=kn.h.2.1
     (refine gW ?_;intros)
     refine⟨2,Dc,Dc,?_⟩
     repeat' (first|exact Tt|exact rfl|exact Nat.le_refl _|refine And.intro ?_ ?_)
     all_goals first
      |(exact congrArg (AV.osl (.loc 0) 2 0) (by have:=kn.h.2.1;have:=kn.h.2.2;omega))
      |(have:=kn.h.2.1;have:=kn.h.2.2;omega)
      | (intro i hi
         refine⟨?_,rfl⟩
         rw[rowsOf_cat ePrg (C 1) b rfl i,kc.h.2.1,kc.h.2.2])
    ·(refine gW ?_;intros)
     refine⟨⟨rfl,rfl,Nat.le_of_eq (Nat.zero_add _),?_,fun j hj=>?_⟩,Tt⟩
     .rw[kc.h.2.2]
     .rw[Nat.zero_add,kc.h.2.2]
      rfl
end Go.Proofs.YtmlhghddfobmmaaGreatDoor
namespace Go.Ab
set_option linter.unusedSimpArgs false
set_option linter.unusedVariables false
section
variable {P:Program}{T:Tab}{m:Mem}{env:Env}{K:AV->Mem->Prop}{o:Oper}{ro:Option Nat}
theorem op_addw {t t':TypeId}{x y:Operand}(hop:o.op=.binOp .add t x y t'){k:IntKind}{a b:Int}(hx:ev env x=.d (.int k a))(hy:ev env y=.d (.int k b))(hK:K (.d (.int k (k.wrap (a+b)))) m):OpVC P o env m K :=
 ⟨fun c h=>(by rw [hop] at h;cases h),fun a' w F σ hev hm=>by
  have hv:=ev_ok hev x
  rw[hx]at hv
  have hv:=hv.int
  have hw:=ev_ok hev y
  rw[hy]at hw
  have hw:=hw.int
  refine⟨_,.int k (k.wrap (a+b)),w,σ,F,_,_,?_,.inl rfl,hK,.d .int,hm,Step.refl σ F w,SLe.refl σ⟩
  simp[execOp,hop,hv,hw,binOp,Op.intArith,eqGuard]⟩
theorem dsts_app {N:Nat}:∀{a b:List Oper},dstsIn N (a++b)=true->dstsIn N a=true/\dstsIn N b=true
 |[],b,h=>⟨rfl,h⟩
 | o :: a,b,h=>by
   simp only[List.cons_append,dstsIn,Bool.and_eq_true]at h⊢
   obtain⟨h1,h2⟩:=dsts_app h.2
   exact⟨⟨h.1,h1⟩,h2⟩
end
section
variable {P:Program}{T:Tab}{m:Mem}{env:Env}{o:Oper}
theorem op_addg {t t':TypeId}{x y:Operand}{K:AV->Mem->Prop}(hop:o.op=.binOp .add t x y t'){k:IntKind}{a b:Int}{px py:List Prop}(hx:strip (ev env x)=(.d (.int k a),px))(hy:strip (ev env y)=(.d (.int k b),py))(hpx:∀p∈px,p)(hpy:∀p∈py,p)(hK:K (.d (.int k (k.wrap (a+b)))) m):OpVC P o env m K :=
 ⟨fun c h=>(by rw [hop] at h;cases h),fun a' w F σ hev hm=>by
  have hv:=strip_ok (ev_ok hev x) (by rw[hx];exact hpx)
  rw[hx]at hv
  have hv:=hv.int
  have hw:=strip_ok (ev_ok hev y) (by rw[hy];exact hpy)
  rw[hy]at hw
  have hw:=hw.int
  refine⟨_,.int k (k.wrap (a+b)),w,σ,F,_,_,?_,.inl rfl,hK,.d .int,hm,Step.refl σ F w,SLe.refl σ⟩
  simp[execOp,hop,hv,hw,binOp,Op.intArith,eqGuard]⟩
theorem px1 {p:Prop}(h:p):∀q∈[p],q:=fun q hq=>by rw[List.mem_singleton.1 hq];exact h
theorem px0:∀q∈([]:List Prop),q:=fun q hq=>(List.not_mem_nil hq).elim
structure WL (P:Program)(N:Nat)(ops:Array Oper)(rest:List Oper)(env:Env)(m:Mem)(K:Env->Mem->Prop):Prop where
 run:∀(ro:Option Nat) (Q:Exit->Act->World->Prop) (a:Act) (w:World) (F:Nat->Prop) (σ:Pls),a.tmps.size=N->EnvOk env w F σ a.tmps->MemOk m σ F w ->
  (∀env' m' a' w' σ' F',K env' m'->a'.tmps.size=N->a'.defers=a.defers->EnvOk env' w' F' σ' a'.tmps->MemOk m' σ' F' w'->Step σ F w σ' F' w'->SLe σ σ'->Q .normal a' w')->wpListIn (Fen ro) 0 P ops Q rest a w
theorem WL.eng (hT:TabOk P T){N:Nat}{ops:Array Oper}{rest:List Oper}{K:Env->Mem->Prop}(hd:dstsIn N rest=true)(h:Ev (vcOps P T ops.toList rest env m K)):WL P N ops rest env m K :=
 ⟨fun ro Q a w F σ hN he hm hn=>vcOps_ok hT (full:=ops.toList) (by simp) rest env m hd h.o a w F σ hN he hm hn⟩
def grdOk (ops:Array Oper)(env:Env)(o:Oper):Prop:=match o.guard with
 |none=>True
 |some (j,want)=>guardOf ops.toList env j want=some true
theorem WL.cut (hT:TabOk P T){N:Nat}{ops:Array Oper}{rest:List Oper}{K:Env->Mem->Prop}(n:Nat){post:List Oper}(ho:rest.drop n=o::post)(hd:dstsIn N rest=true)
 (h:Ev (vcOps P T ops.toList (rest.take n) env m fun env m=>grdOk ops env o/\OpVC P o env m fun v m=>setD env o.dst v fun env=>WL P N ops post env m K)):WL P N ops rest env m K :=
 ⟨fun ro Q a w F σ hN he hm hn=>by
  have e0:rest=rest.take n++(o::post):=by rw[<-ho,List.take_append_drop]
  rw[e0]at hd
  obtain⟨d1,d2⟩:=dsts_app hd
  simp only[dstsIn,Bool.and_eq_true]at d2
  rw[e0]
  refine vcOps_pre hT (full:=ops.toList) (by simp) _ env m d1 h.o a w F σ hN he hm ?_
  rintro env1 m1 a1 w1 σ1 F1 ⟨hgr,hop⟩ i1 i2 i3 i4 i5 i6
  have tr:∀{σa σb σc:Pls},SLe σa σb->SLe σb σc->SLe σa σc:=fun h1 h2 r q hq=>by
   obtain⟨q1,h3,h4⟩:=h1 r q hq
   obtain⟨q2,h5,h6⟩:=h2 r q1 h3
   exact⟨q2,h5,h4.trans h6⟩
  have main:∀(nx:Act->World->Prop) (Q':Exit->Act->World->Prop),(∀a' w',wpListIn (Fen ro) 0 P ops Q post a' w'->nx a' w')->o.wpIn (Fen ro) 0 P a1 w1 nx Q':=by
   intro nx Q' hK'
   obtain⟨n',u,w',σ',F',A,m',hrun,hcase,hk,hu,hm',hs,hle⟩:=hop.run a1 w1 F1 σ1 i3 i4
   have he1:=i3.mono (w':=w') hs.fro (hs.frozen i4) hle
   obtain⟨env',hk,he'⟩:=setD_ok i1 d2.1 he1 hu hk
   have cont:wpListIn (Fen ro) 0 P ops Q post (a1.put o.dst u) w':=by
    refine hk.run ro Q (a1.put o.dst u) w' F' σ' (by rw[put_size];exact i1) he' hm' ?_
    intro env2 m2 a2 w2 σ2 F2 k1 k2 k3 k4 k5 k6 k7
    have hs2:=i5.trans (hs.trans k6)
    exact hn env2 m2 a2 w2 σ2 F2 k1 k2 (by rw[k3,put_defers,i2]) k4 k5 hs2 (tr i6 (tr hle k7))
   refine wpIn_at hop.nd ?_
   rw[hrun]
   rcases hcase with rfl|⟨rfl,rfl⟩
   .rw[Oper.uponIn_value];exact hK' _ _ cont
   .rw[Oper.uponIn_skip];exact hK' _ _ cont
  unfold grdOk at hgr
  split at hgr
  .rename_i hg
   exact wpListIn_plain hg fun K' hK'=>main _ _ hK'
  .rename_i j want hg
   have hw:Region.wanted o (yielded ops a1.tmps)=true:=by
    have h2:=guardOf_ok i3 hgr
    simp only[Region.wanted,hg]
    exact h2
   refine wpListIn_step fun K' hK'=>?_
   rw[hw]
   simp only[if_true]
   exact main _ _ hK'⟩
theorem Awp.cuts {id N:Nat}{ops:Array Oper}{Q:Post}(h:WL P N ops ops.toList env m fun env m=>Ev (Q .normal env m)):Awp P N (.region id ops false) env m Q :=
 ⟨fun ro lo a w σ F hN hD he hm=>by
  refine wpIn_region_list ?_
  refine h.run ro _ a w F σ hN he hm ?_
  intro env2 m2 a2 w2 σ2 F2 k1 k2 k3 k4 k5 k6 k7
  exact⟨env2,m2,σ2,F2,k1.o,k2,by rw[k3];exact hD.step k6,k4,k5,k6,.of k7⟩⟩
end
end Go.Ab
