import Derived.Test.YtkjmomadndmeaaaGreatDoorRecC
import Derived.Test.YtkjmomadndmeaaaGreatDoorNamD
import Derived.Test.YtkjmomadndmeaaaGreatDoorPtsB
import Derived.Test.YtkjmomadndmeaaaGreatDoorBookM
import Derived.Test.YtkjmomadndmeaaaGreatDoorBookP
import Derived.Test.YtkjmomadndmeaaaGreatDoorBookQ
import Derived.Test.YtkjmomadndmeaaaGreatDoorFrz
import Derived.Test.YtkjmomadndmeaaaGreatDoorRecS
import Derived.Test.YtkjmomadndmeaaaGreatDoorBookH
namespace Go.Proofs.YtkjmomadndmeaaaGreatDoor
set_option linter.unusedSimpArgs false
set_option linter.unusedVariables false
open Go Go.Ab
set_option maxRecDepth 100000
set_option maxHeartbeats 0
theorem rowsOf_catD {α:Type}[Inhabited α](enc:α->List D)(a b:List α){n:Nat}(hn:n=a.length)(i:Nat):joinF n (rowsOf enc a) (fun i=>up (enc (b.getD i default))) i=rowsOf enc (a++b) i:=by
 subst hn
 by_cases h:i<a.length
 .rw[joinF_lt h]
  simp only[rowsOf,List.getD_eq_getElem?_getD]
  rw[List.getElem?_append_left h]
 .rw[joinF_ge Om]
  simp only[rowsOf,List.getD_eq_getElem?_getD]
  rw[List.getElem?_append_right Om]
theorem slc_sl {w:World}{F:Nat->Prop}{sz n:Nat}{f:Nat->List D}{v:Value}(h:Rd w F (.slc sz n f) v):Rd w F (.sl sz n f) v:=by
 cases h with
 |slc h=>exact h
theorem pureSl {P:Program}{f:FuncId}{args:List D}{a:D}{sz n:Nat}{g:Nat->List D}(h:Pure P f args [a,.slc sz n g]):Pure P f args [a,.sl sz n g] :=
 ⟨h.1,fun F w vals hF hG hl hv=>(h.2 F w vals hF hG hl hv).mono fun e w' ⟨v,F',e1,hg,hvc⟩=>⟨v,F',e1,hg,fun σ=>by
  have hh:=hvc σ
  cases hh with
  | tup hl hh =>
    refine .tup hl fun j x u hx hu=>?_
    match j,hx with
    |0,hx=>exact hh 0 x u hx hu
    | 1,hx =>
      injection hx with hx
      subst hx
      have h2:=hh 1 _ u rfl hu
      cases h2 with
      |d h2=>exact .d (slc_sl h2)⟩⟩
def lokM (w:Wor)(kn:Int)(g:Nat)(rs:List Red):Mem:=⟨[],[bX 119 [.osl (.arg 1) g 0 rs.length,.d (eCrss w.bok.crs),.d (ePrgs w.bok.prg),.d (eSyss w.bok.sys),.d (eFcts w.fcts),dV kn],bV 107 5 g rs.length (rowsOf eRed rs)]⟩
theorem tadd_ok (w:Wor)(kn:Int)(g:Nat)(rs xs:List Red)(hl:rs.length<=1000000)(hx:xs.length<=1000000) :
 CallVC Tryz.prog 107 [ap 0,.d (eReds xs)] (lokM w kn g rs)
  (Ret (fun _:Unit=>([],lokM w kn (g+1) (rs++xs))) fun _=>True):=by
 unfold lokM
 refine call_rule hT (T:=tab) (N:=13) (rs:=[]) _ _ Tryz.func107 rfl rfl rfl Kr rfl ?_
 (refine gW ?_;intros)
 refine⟨(),Tt,?_,rfl⟩
 repeat' (first|exact Tt|exact rfl|exact Nat.le_refl _|refine And.intro ?_ ?_)
 all_goals first
  | (intro j hj
     refine⟨?_,rfl⟩
     exact rowsOf_catD eRed rs xs rfl j)
  | (rw [List.length_append]
     rfl)
  | (rw [List.length_append]
     exact Nat.le_refl _)
theorem numbers16_ok (w:Wor)(hw:WfW w)(hl:w.fcts.length<=100000)(kn:Int)(g:Nat)(rs:List Red)(hr:rs.length<=1000000) :
 CallVC Tryz.prog 56 [ap 0] (lokM w kn g rs)
  (Ret (fun _:Unit=>([.d (eInts (nums w kn))],lokM w kn (g+1) (rs++[rdK ⟨12,0,0⟩ 0]))) fun _=>True):=by
 have hN:=pureSl (numbers_ok w hw hl kn)
 have hA:=tadd_ok w kn g rs [rdK ⟨12,0,0⟩ 0] hr (by simp)
 unfold lokM
 refine call_rule hT (T:=tab) (N:=23) (rs:=[.tmp 2]) _ _ Tryz.func56 rfl rfl rfl Kr rfl ?_
 (refine gW ?_;intros)
 refine qC hN ?_
 (refine gW ?_;intros)
 refine hA.at [.arg 0,.arg 1] rfl ?_ (fun _ _=>⟨rfl,?_⟩)
 .exact⟨rfl,rfl,Tt⟩
 (refine gW ?_;intros)
 refine⟨(),Tt,?_,rfl⟩
 exact lq
theorem equal16_ok (w:Wor)(hw:WfW w)(hl:w.fcts.length<=1000)(n t kn:Int)(g:Nat)(rs:List Red)(hr:rs.length<=1000000)(hR:(equalR w n t kn).length<=1000000) :
 CallVC Tryz.prog 57 [ap 0,dV n,dV t] (lokM w kn g rs)
  (Ret (fun _:Unit=>([.d (eInts (equalL w n t kn))],lokM w kn (g+1) (rs++equalR w n t kn))) fun _=>True):=by
 have hN:=equal_ok w hw hl n t kn
 have hA:=tadd_ok w kn g rs (equalR w n t kn) hr hR
 unfold lokM
 refine call_rule hT (T:=tab) (N:=29) (rs:=[.tmp 6]) _ _ Tryz.func57 rfl rfl rfl Kr rfl ?_
 (refine gW ?_;intros)
 refine qC hN ?_
 (refine gW ?_;intros)
 refine hA.at [.arg 0,.arg 1] rfl ?_ (fun _ _=>⟨rfl,?_⟩)
 .exact⟨rfl,rfl,Tt⟩
 (refine gW ?_;intros)
 refine⟨(),Tt,?_,rfl⟩
 exact lq
def crsZ:List D:=[.str .empty,di 0,di 0,di 0,di 0,di 0,.str .empty,di 0,di 0,.nils,di 0,di 0,.str .empty,di 0,di 0,.nils]
theorem course16_ok (w:Wor)(hw:WfW w)(n t kn:Int)(g:Nat)(rs:List Red)(hr:rs.length<=1000000) :
 CallVC Tryz.prog 102 [ap 0,dV n,dV t] (lokM w kn g rs)
  (Ret (fun _:Unit=>([.d (.agg (eCrs ((crsOf w n t kn).getD default)))],lokM w kn (g+1) (rs++readsT ⟨1,n,0⟩ t))) fun _=>True):=by
 have hN:=bcourse_ok w hw n t kn
 have hA:=tadd_ok w kn g rs (readsT ⟨1,n,0⟩ t) hr (by unfold readsT;split<;>simp)
 unfold lokM
 refine call_rule hT (T:=tab) (N:=31) (rs:=[.cell 6 54]) _ _ Tryz.func102 rfl rfl rfl Kr rfl ?_
 (refine gS ?_;intros)
 refine Sq.alt (Awp.le (env':=[(0,ap 0),(1,dV n),(2,dV t),(6,lp 0)]) (m':=⟨[bX 54 (up crsZ)],[bX 119 [.osl (.arg 1) g 0 rs.length,.d (eCrss w.bok.crs),.d (ePrgs w.bok.prg),.d (eSyss w.bok.sys),.d (eFcts w.fcts),dV kn],bV 107 5 g rs.length (rowsOf eRed rs)]⟩) ?_
  (Awp.seq (Awp.effsF (m:=⟨[some (.box 54 (up crsZ))],[some (.box 119 [.osl (.arg 1) g 0 rs.length,.d (eCrss w.bok.crs),.d (ePrgs w.bok.prg),.d (eSyss w.bok.sys),.d (eFcts w.fcts),.d (.int .i64 kn)]),some (.vec 107 5 g rs.length (rowsOf eRed rs))]⟩) hT (by kernel_rfl) (by kernel_rfl) (by kernel_rfl)
   ⟨[bX 54 (up crsZ),none],[bX 119 [.osl (.arg 1) g 0 rs.length,.d (eCrss w.bok.crs),.d (ePrgs w.bok.prg),.d (eSyss w.bok.sys),.d (eFcts w.fcts),dV kn],bV 107 5 g rs.length (rowsOf eRed rs)]⟩ 1 2
   [⟨15,lp 1,⟨[bX 54 (up crsZ),bX 54 (up crsZ)],[bX 119 [.osl (.arg 1) g 0 rs.length,.d (eCrss w.bok.crs),.d (ePrgs w.bok.prg),.d (eSyss w.bok.sys),.d (eFcts w.fcts),dV kn],bV 107 5 g rs.length (rowsOf eRed rs)]⟩,[]⟩,⟨16,.junk,⟨[bX 54 (up crsZ),bX 54 (up (eCrs ((crsOf w n t kn).getD default)))],[bX 119 [.osl (.arg 1) g 0 rs.length,.d (eCrss w.bok.crs),.d (ePrgs w.bok.prg),.d (eSyss w.bok.sys),.d (eFcts w.fcts),dV kn],bV 107 5 g rs.length (rowsOf eRed rs)]⟩,[15]⟩]
   Kr rfl rfl (WeakF.of ⟨.inl rfl,Tt⟩ ⟨.inl rfl,.inl rfl,Tt⟩) ⟨WeakF.of ⟨.inl rfl,Tt⟩ ⟨.inl rfl,.inl rfl,Tt⟩,WeakF.of ⟨.inl rfl,Tt⟩ ⟨.inl rfl,.inl rfl,Tt⟩,Tt⟩ ?_)))
 .exact lq
 conv=>whnf
 (refine gS ?_;intros)
 refine qC hN ?_
 (refine gS ?_;intros)
 refine⟨?_,?_,?_⟩
 .conv=>whnf
  (refine gS ?_;intros)
  exact⟨rfl,rfl⟩
 .conv=>whnf
  (refine gS ?_;intros)
  exact⟨Tt,rfl⟩
 conv=>whnf
 (refine gS ?_;intros)
 refine Awp.of_vc hT ?_
 (refine gW ?_;intros)
 refine hA.at [.arg 0,.arg 1] rfl ?_ (fun _ _=>⟨rfl,?_⟩)
 .exact⟨rfl,rfl,Tt⟩
 (refine gW ?_;intros)
 refine⟨(),Tt,?_,rfl⟩
 exact lq
def rdC (l:List Att)(t:Int)(k:Nat):List Red:=(l.take k).flatMap fun a=>readsT ⟨1,a.course,0⟩ t
theorem rdC_succ {l:List Att}(t:Int){k:Nat}(h:k<l.length):rdC l t (k+1)=rdC l t k++readsT ⟨1,(l.getD k default).course,0⟩ t:=by
 unfold rdC
 rw[take_succ_at h,List.flatMap_append]
 simp
theorem readsT_len (k:Ke)(t:Int):(readsT k t).length<=1:=by
 unfold readsT
 split<;>simp
theorem rdC_len (l:List Att)(t:Int):∀k,k<=l.length->(rdC l t k).length<=k
 |0,_=>by simp[rdC]
 | k + 1,h=>by
   have:=rdC_len l t k Om
   have h2:=readsT_len ⟨1,(l.getD k default).course,0⟩ t
   rw[rdC_succ t Om,List.length_append]
   omega
def repN (w:Wor)(t kn:Int)(c:Int):Int:=((crsOf w c t kn).getD default).rep
theorem rowV_fin (v:Nat->Int){n i:Nat}(h:i<n):rowV v n i=[dV (v i)]:=by
 unfold rowV
 have e2:Nat.blt i n=true:=by unfold Nat.blt;rw[Nat.ble_eq];omega
 rw[e2,cond_true]
theorem counted16_ok (w:Wor)(hw:WfW w)(t kn:Int)(hrp:∀c,0<=repN w t kn c/\repN w t kn c<=2)(l:List Att)(hl:l.length<=500000)(hf:∀a∈l,fitA a)(g:Nat)(rs:List Red)(hr:rs.length<=500000) :
 CallVC Tryz.prog 55 [ap 0,.d (eAtts l),dV t] (lokM w kn g rs)
  (Ret (fun _:Unit=>([.d (eAtts (cntA (repN w t kn) l)),dV 0],lokM w kn (g+l.length) (rs++rdC l t l.length))) fun _=>True):=by
 have hC:=counted_ok (repN w t kn) hrp l Om hf (l.map fun a=>repN w t kn a.course) (by simp) (fun i hi=>by simp[hi])
 have he:eInts (l.map fun a=>repN w t kn a.course)=.sl 1 l.length fun i=>[di ((l.map fun a=>repN w t kn a.course).getD i default)]:=by
  unfold eInts
  rw[List.length_map]
 rw[he]at hC
 have e0:rs++rdC l t 0=rs:=by simp[rdC]
 unfold lokM
 refine call_rule hT (T:=tab) (N:=36) (rs:=[.tmp 6,.tmp 7]) _ _ Tryz.func55 rfl rfl rfl Kr rfl ?_
 (refine gW ?_;intros)
 refine op_make hT rfl rfl rfl Dc rfl rfl (by show l.length*8<=140737488355328;omega) ?_
 (refine gW ?_;intros)
 refine loop_rule hT (S:=Nat) (fun k=>([(0,ap 0),(1,.d (eAtts l)),(2,dV t),(8,.osl (.loc 0) 0 0 l.length),(14,.d (eAtts l)),(15,dV l.length),(16,dV k)],
  ⟨[bV 3 1 0 l.length (rowV (fun j=>repN w t kn (l.getD j default).course) k)],[bX 119 [.osl (.arg 1) (g+k) 0 (rs++rdC l t k).length,.d (eCrss w.bok.crs),.d (ePrgs w.bok.prg),.d (eSyss w.bok.sys),.d (eFcts w.fcts),dV kn],bV 107 5 (g+k) (rs++rdC l t k).length (rowsOf eRed (rs++rdC l t k))]⟩)) (fun k=>k<=l.length) (fun k=>l.length-k) 0 ?_ ?_ ?_
 .rw[e0]
  exact lq
 .exact Nat.zero_le _
 .intro k hk
  dsimp only at hk⊢
  have hlen:=rdC_len l t k hk
  by_cases hk2:k<l.length
  .have hX:=course16_ok w hw (l.getD k default).course t kn (g+k) (rs++rdC l t k) (by rw[List.length_append];omega)
   have hs:Kp (rs++rdC l t (k+1)=rs++rdC l t k++readsT ⟨1,(l.getD k default).course,0⟩ t):=⟨by rw[rdC_succ t hk2,List.append_assoc]⟩
   have hs2:Kp (g+(k+1)=g+k+1):=⟨rfl⟩
   generalize rs++rdC l t k=rk at hX hs hlen⊢
   (refine gW ?_;intros)
   refine hX.at [.arg 0,.arg 1] rfl ?_ (fun _ _=>⟨rfl,?_⟩)
   .exact⟨rfl,rfl,Tt⟩
   (refine gW ?_;intros)
   refine⟨k+1,by show k+1<=l.length;omega,by show l.length-(k+1)<l.length-k;omega,?_⟩
   dsimp only
   rw[hs.h]
   repeat' (first|exact Tt|exact rfl|exact Nat.le_refl _|refine And.intro ?_ ?_)
   all_goals first
    | (intro i hi
       exact⟨rowV_set (v:=fun j=>repN w t kn (l.getD j default).course) (c:=k) rfl i,rfl⟩)
    | (intro i hi
       exact⟨rfl,rfl⟩)
  .obtain rfl:k=l.length:=by omega
   (refine gS ?_;intros)
   refine Sq.go ?_;(refine gS ?_;intros)
   refine Sq.alt (Awp.frz [0] 8 (.sl 1 l.length fun i=>[di ((l.map fun a=>repN w t kn a.course).getD i default)]) (.rows rfl (Nat.le_of_eq (Nat.zero_add _)) (fun i hi=>?_)) (vc_ok hT _ _ _ _ (Ev.o ?_)))
   .rw[Nat.zero_add,rowV_fin _ hi]
    simp[hi,up]
   (refine gW ?_;intros)
   refine hC.call ?_
   (refine gW ?_;intros)
   refine⟨(),Tt,?_,rfl⟩
   exact lq
theorem ptsU_cast (v:Int->Int)(a:Nat)(n:Nat):ptsU v a (n+1)=ptsU v a n++(if 0<=v ((a+n:Nat):Int) then[⟨((a+n:Nat):Int),v ((a+n:Nat):Int)⟩] else[]):=by
 rw[ptsU,Int.natCast_add]
theorem rowsOf_join' {α:Type}[Inhabited α](enc:α->List D)(xs:List α)(x:α){n:Nat}(hn:n=xs.length)(i:Nat)(hi:i<n+1):joinF n (fun i=>up (enc (xs.getD i default))) (rowFn [up (enc x)]) i=up (enc ((xs++[x]).getD i default)):=by
 subst hn
 exact join_snoc enc xs x _ rfl i (by rw[len_snoc];exact hi)
def rowP (xs:List Poi):Nat->List AV:=fun i=>up (ePoi (xs.getD i default))
theorem points_ok (l:List Fct)(hl:fitL l)(k:Ke)(fr til kn:Int):Pure Tryz.prog 67 [eFcts l,.agg (eKe k),di fr,di til,di kn] [ePois (pointsV l k fr til kn)]:=by
 have hV:=values_ok l hl k kn
 have hml:=ml1024
 have hv1:=row1024_len (valT l k kn)
 have hv2:=row1024_one (valT l k kn)
 have hv3:=fun i=>row1024_at (valT l k kn) (i:=i)
 unfold pointsV
 generalize row1024 (valT l k kn)=xs at hV hv1 hv2 hv3
 generalize valT l k kn=v at hv3⊢
 obtain⟨a,ha⟩:∃a:Nat,(a:Int)=max 0 fr:=⟨(max 0 fr).toNat,Om⟩
 rw[<-ha]
 obtain⟨n,hn⟩:∃n:Nat,ptsN fr til=n:=⟨_,rfl⟩
 rw[hn]
 unfold ptsN at hn
 refine pure_rule hT (T:=tab) (N:=38) (rs:=[.tmp 10]) Tryz.func67 rfl rfl rfl Kr rfl ?_
 repeat' (first|with_reducible refine Sq.go ?_|((with_reducible refine Ev.mk ?_);conv=>whnf)|with_reducible refine Dr.mk ⟨Kr,Kr⟩ ?_|with_reducible refine obG ?_|with_reducible refine Ob.mk ?_ ?_|(with_reducible first|refine brT fun h=>?_|refine brF fun h=>?_|refine Br.mk (fun h=>?_) fun h=>?_)<;>(try simp only[bsl,beq_iff_eq,bne_iff_ne,bs2]at h)<;>(try contradiction)<;>try (exfalso;omega))
 refine hV.call ?_
 repeat' (first|with_reducible refine Sq.go ?_|((with_reducible refine Ev.mk ?_);conv=>whnf)|with_reducible refine Dr.mk ⟨Kr,Kr⟩ ?_|with_reducible refine obG ?_|with_reducible refine Ob.mk ?_ ?_|(with_reducible first|refine brT fun h=>?_|refine brF fun h=>?_|refine Br.mk (fun h=>?_) fun h=>?_)<;>(try simp only[bsl,beq_iff_eq,bne_iff_ne,bs2]at h)<;>(try contradiction)<;>try (exfalso;omega))
 refine Awp.vec 10 143 2 (rowP []) rfl ?_
 refine loop_rule hT (S:=Nat × Nat) (fun z=>([(3,dV til),(10,.osl (.loc 2) z.2 0 (ptsU v a z.1).length),(11,lp 1),(12,dV ((a+z.1:Nat):Int))],
  ⟨[none,bV 204 1 0 1024 fun j=>[dV (v j)],bV 143 2 z.2 (ptsU v a z.1).length (rowP (ptsU v a z.1))],[]⟩)) (fun z=>z.1<=n) (fun z=>n-z.1) (0,0) ?_ ?_ ?_
 .repeat' (first|exact Tt|exact rfl|exact Nat.le_refl _|refine And.intro ?_ ?_)
  all_goals first
   |(intro i hi;exact⟨congrArg (fun x=>[AV.d x]) (hv3 i hi),rfl⟩)
   |(intro i hi;exact absurd hi (Nat.not_lt_zero i))
   |exact congrArg (fun n=>dV n) (by show _=((a+0:Nat):Int);rw[Nat.add_zero,ha];rfl)
 .exact Nat.zero_le _
 .rintro⟨j,g⟩ hj
  dsimp only at hj⊢
  have hlen:=ptsU_len v a j
  have hs:=ptsU_cast v a j
  by_cases hj2:j<n
  .have hb:a+j<1024:=by omega
   by_cases h0:0<=v ((a+j:Nat):Int)
   .rw[if_pos h0]at hs
    have ks:Kp _:=⟨hs⟩
    clear hs
    repeat' (first|with_reducible refine Sq.go ?_|((with_reducible refine Ev.mk ?_);conv=>whnf)|with_reducible refine Dr.mk ⟨Kr,Kr⟩ ?_|with_reducible refine obG ?_|with_reducible refine Ob.mk ?_ ?_|(with_reducible first|refine brT fun h=>?_|refine brF fun h=>?_|refine Br.mk (fun h=>?_) fun h=>?_)<;>(try simp only[bsl,beq_iff_eq,bne_iff_ne,bs2]at h)<;>(try contradiction)<;>try (exfalso;omega))
    all_goals try (exfalso;simp only[cond_true,cond_false]at h;omega)
    refine stp (j+1,g+1) ?_
    dsimp only
    rw[ks.h,len_snoc]
    repeat' (first|exact Tt|exact rfl|exact Nat.le_refl _|refine And.intro ?_ ?_)
    all_goals first
     |(intro i hi;exact⟨rfl,rfl⟩)
     |(intro i hi;exact⟨rowsOf_join' ePoi (ptsU v a j) ⟨((a+j:Nat):Int),v ((a+j:Nat):Int)⟩ rfl i hi,rfl⟩)
   .rw[if_neg h0,List.append_nil]at hs
    have ks:Kp _:=⟨hs⟩
    clear hs
    ((refine xW ?_ ?_)<;>(intros;try rename_i h))
    all_goals try (exfalso;simp only[cond_true,cond_false]at h;omega)
    refine stp (j+1,g) ?_
    dsimp only
    rw[ks.h]
    exact lq
  .obtain rfl:j=n:=by omega
   have hd:¬ ((a+j:Nat):Int)<(bif false then max til 1024 else min til 1024):=by rw[cond_false];omega
   (refine gW ?_;intros;try rename_i h)
   refine⟨⟨rfl,rfl,?_,rfl,fun i hi=>?_⟩,Tt⟩
   .exact Nat.le_of_eq (Nat.zero_add _)
   .rw[Nat.zero_add]
    rfl
theorem tadd1_ok (w:Wor)(kn:Int)(g:Nat)(rs:List Red)(r:Red)(hl:rs.length<=1000000) :
 CallVC Tryz.prog 107 [ap 0,.osl (.arg 2) 0 0 1] ⟨[],[bX 119 [.osl (.arg 1) g 0 rs.length,.d (eCrss w.bok.crs),.d (ePrgs w.bok.prg),.d (eSyss w.bok.sys),.d (eFcts w.fcts),dV kn],bV 107 5 g rs.length (rowsOf eRed rs),bV 107 5 0 1 (rowFn [up (eRed r)])]⟩
  (Ret (fun _:Unit=>([],⟨[],[bX 119 [.osl (.arg 1) (g+1) 0 (rs++[r]).length,.d (eCrss w.bok.crs),.d (ePrgs w.bok.prg),.d (eSyss w.bok.sys),.d (eFcts w.fcts),dV kn],bV 107 5 (g+1) (rs++[r]).length (rowsOf eRed (rs++[r])),bV 107 5 0 1 (rowFn [up (eRed r)])]⟩)) fun _=>True):=by
 refine call_rule hT (T:=tab) (N:=13) (rs:=[]) _ _ Tryz.func107 rfl rfl rfl Kr rfl ?_
 (refine gW ?_;intros)
 refine⟨(),Tt,?_,rfl⟩
 repeat' (first|exact Tt|exact rfl|exact Nat.le_refl _|refine And.intro ?_ ?_)
 all_goals first
  | (intro j hj
     refine⟨?_,rfl⟩
     exact rowsOf_joinA eRed rs r rfl j (by rw[len_snoc]at hj;exact hj))
  | (intro j hj
     exact⟨rfl,rfl⟩)
  | (rw [len_snoc]
     rfl)
  | (rw [len_snoc]
     exact Nat.le_refl _)
theorem grades16_ok (w:Wor)(hw:WfW w)(n c t kn:Int)(g:Nat)(rs:List Red)(hr:rs.length<=1000000) :
 CallVC Tryz.prog 101 [ap 0,dV n,dV c,dV t] (lokM w kn g rs)
  (Ret (fun _:Unit=>([.d (ePois (pointsV w.fcts ⟨5,n,c⟩ 0 t kn))],lokM w kn (g+1) (rs++[(⟨5,n,c,0,t⟩:Red)]))) fun _=>True):=by
 have hP:=points_ok w.fcts hw.fct ⟨5,n,c⟩ 0 t kn
 have hA:=tadd1_ok w kn g rs ⟨5,n,c,0,t⟩ hr
 unfold lokM
 refine call_rule hT (T:=tab) (N:=33) (rs:=[.tmp 8]) _ _ Tryz.func101 rfl rfl rfl Kr rfl ?_
 (refine gS ?_;intros)
 refine Sq.go ?_;(refine gS ?_;intros)
 refine Sq.alt (Awp.le (env':=[(0,ap 0),(3,dV t),(8,.d .nils),(9,lp 0)]) (m':=⟨[bX 72 (up [di 5,di n,di c])],[bX 119 [.osl (.arg 1) g 0 (rs).length,.d (eCrss w.bok.crs),.d (ePrgs w.bok.prg),.d (eSyss w.bok.sys),.d (eFcts w.fcts),dV kn],bV 107 5 g (rs).length (rowsOf eRed (rs))]⟩) ?_
  (Awp.seq (Awp.effsF (m:=⟨[some (.box 72 (up [.int .i64 5,.int .i64 n,.int .i64 c]))],[some (.box 119 [.osl (.arg 1) g 0 (rs).length,.d (eCrss w.bok.crs),.d (ePrgs w.bok.prg),.d (eSyss w.bok.sys),.d (eFcts w.fcts),.d (.int .i64 kn)]),some (.vec 107 5 g (rs).length (rowsOf eRed (rs)))]⟩) hT (by kernel_rfl) (by kernel_rfl) (by kernel_rfl)
   ⟨[bX 72 (up [di 5,di n,di c]),none],[bX 119 [.junk,.d (eCrss w.bok.crs),.d (ePrgs w.bok.prg),.d (eSyss w.bok.sys),.d (eFcts w.fcts),dV kn],some .opq]⟩ 1 2
   [⟨6,.osl (.loc 1) 0 0 1,⟨[bX 72 (up [di 5,di n,di c]),bV 107 5 0 1 (rowFn [up (eRed ⟨5,n,c,0,t⟩)])],[bX 119 [.osl (.arg 1) g 0 (rs).length,.d (eCrss w.bok.crs),.d (ePrgs w.bok.prg),.d (eSyss w.bok.sys),.d (eFcts w.fcts),dV kn],bV 107 5 g (rs).length (rowsOf eRed (rs))]⟩,[]⟩,⟨7,.tup [],⟨[bX 72 (up [di 5,di n,di c]),bV 107 5 0 1 (rowFn [up (eRed ⟨5,n,c,0,t⟩)])],[bX 119 [.osl (.arg 1) (g+1) 0 (rs++[(⟨5,n,c,0,t⟩:Red)]).length,.d (eCrss w.bok.crs),.d (ePrgs w.bok.prg),.d (eSyss w.bok.sys),.d (eFcts w.fcts),dV kn],bV 107 5 (g+1) (rs++[(⟨5,n,c,0,t⟩:Red)]).length (rowsOf eRed (rs++[(⟨5,n,c,0,t⟩:Red)]))]⟩,[6]⟩]
   Kr rfl rfl (WeakF.of ⟨.inl rfl,Tt⟩ ⟨.inr ⟨_,rfl,WeakB.box ⟨rfl,rfl,rfl,rfl,rfl,Tt⟩⟩,.inr ⟨_,rfl,WeakB.opq⟩,Tt⟩) ⟨WeakF.of ⟨.inl rfl,Tt⟩ ⟨.inr ⟨_,rfl,WeakB.box ⟨rfl,rfl,rfl,rfl,rfl,Tt⟩⟩,.inr ⟨_,rfl,WeakB.opq⟩,Tt⟩,WeakF.of ⟨.inl rfl,Tt⟩ ⟨.inr ⟨_,rfl,WeakB.box ⟨rfl,rfl,rfl,rfl,rfl,Tt⟩⟩,.inr ⟨_,rfl,WeakB.opq⟩,Tt⟩,Tt⟩ ?_)))
 .exact lq
 conv=>whnf
 (refine gS ?_;intros)
 refine⟨?_,?_,?_⟩
 .conv=>whnf
  (refine gS ?_;intros)
  exact⟨rfl,rfl⟩
 .conv=>whnf
  (refine gS ?_;intros)
  refine hA.at [.arg 0,.arg 1,.loc 1] rfl ?_ (fun _ _=>⟨rfl,?_⟩)
  .exact⟨rfl,rfl,rfl,Tt⟩
  (refine gS ?_;intros)
  exact⟨rfl,rfl⟩
 conv=>whnf
 (refine gS ?_;intros)
 refine Awp.of_vc hT ?_
 (refine gW ?_;intros)
 refine qC hP ?_
 (refine gW ?_;intros)
 refine⟨(),Tt,?_,rfl⟩
 exact lq
theorem order_ok (a b:Att):Pure Tryz.prog 104 [.agg (eAtt a),.agg (eAtt b)] [di (attC a b)]:=by
 refine pure_rule hT (T:=tab) (N:=17) (rs:=[.tmp 4]) Tryz.func104 rfl rfl rfl Kr rfl ?_
 have h:=orI_ok [cmpI a.term b.term,cmpI a.course b.course] (show 2<=1000000 by decide)
 have e:([cmpI a.term b.term,cmpI a.course b.course].find? fun n=>decide (n≠0)).getD 0=attC a b:=by
  unfold attC
  by_cases h1:cmpI a.term b.term=0
  .by_cases h2:cmpI a.course b.course=0<;>simp[h1,h2]
  .simp[h1]
 rw[e]at h
 (refine gW ?_;intros)
 refine qC (cmpI_ok a.term b.term) ?_
 (refine gW ?_;intros)
 refine qC (cmpI_ok a.course b.course) ?_
 (refine gW ?_;intros)
 refine qC (deqP (ds:=[.sl 1 2 _]) h ⟨⟨rfl,rfl,fun i hi=>?_⟩,Tt⟩) ?_
 .have hi:i<2:=hi
  rcases show i=0\/i=1 by omega with rfl|rfl<;>rfl
 (refine gW ?_;intros)
 exact⟨rfl,Tt⟩
def senC (a b:Sen):Int:=cmpI a.course b.course
theorem senC_ok (a b:Sen):Pure Tryz.prog 59 [.agg (eSen a),.agg (eSen b)] [di (senC a b)]:=by
 have h1:=cmpI_ok a.course b.course
 refine pure_rule hT (T:=tab) (N:=10) (rs:=[.tmp 4]) Tryz.func59 rfl rfl rfl Kr rfl ?_
 (refine gW ?_;intros)
 refine h1.call ?_
 (refine gW ?_;intros)
 exact⟨rfl,Tt⟩
end Go.Proofs.YtkjmomadndmeaaaGreatDoor
