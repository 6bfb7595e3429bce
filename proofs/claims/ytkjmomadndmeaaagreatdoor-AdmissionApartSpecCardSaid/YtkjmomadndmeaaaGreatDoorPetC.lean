import Derived.Test.YtkjmomadndmeaaaGreatDoorSitP
import Derived.Test.YtkjmomadndmeaaaGreatDoorRecO
import Derived.Test.YtkjmomadndmeaaaGreatDoorNamD
import Derived.Test.YtkjmomadndmeaaaGreatDoorEngAS
import Derived.Test.YtkjmomadndmeaaaGreatDoorFrz
import Derived.Test.YtkjmomadndmeaaaGreatDoorRuleE
namespace Go.Proofs.YtkjmomadndmeaaaGreatDoor
set_option linter.unusedSimpArgs false
set_option linter.unusedVariables false
open Go Go.Ab
set_option maxRecDepth 100000
set_option maxHeartbeats 0
def petV (l:List Fct)(k:Ke)(t kn:Int):Int:=match pointsV l k t (t+1) kn with
 |[]=>0
 |p::_=>p.value
theorem petV_nn (l:List Fct)(k:Ke)(t kn:Int):0<=petV l k t kn:=by
 unfold petV
 cases h:pointsV l k t (t+1) kn with
 |nil=>exact Int.le_refl _
 |cons p r=>exact(points_at (show p∈pointsV l k t (t+1) kn by rw[h];simp)).2.2.2
theorem points_one (l:List Fct)(k:Ke)(t kn:Int):(pointsV l k t (t+1) kn).length<=1:=by
 have:=ptsU_len (valT l k kn) (max 0 t) (ptsN t (t+1))
 unfold pointsV
 unfold ptsN at *
 omega
def heldR (kind s t:Int):List Red:=(List.range 8).map fun n:Nat=>rdK ⟨kind,s,(n:Int)⟩ t
def heldF (l:List Fct)(kind s t kn:Int):Nat->List Int
 |0=>[]
 |k+1=>heldF l kind s t kn k++(if petV l ⟨kind,s,(k:Int)⟩ t kn=1 then[(k:Int)] else[])
def heldL (l:List Fct)(kind s t kn:Int):List Int:=heldF l kind s t kn 8
def heldN (l:List Fct)(s t kn:Int):Bool:=!(heldL l 6 s t kn).isEmpty
def crsD (w:Wor)(c t kn:Int):Crs:=(crsOf w c t kn).getD default
def allowV (w:Wor)(s c t kn:Int)(nw:List Int):Bool:=valR (sitV w s t kn nw) (crsD w c t kn).need&&!valR (sitV w s t kn nw) (crsD w c t kn).bar
def askedB (s c t:Int)(nw:List Int):Bool:=nowB (-1) nw&&(bw s 0 19999&&(bw c 0 4095&&bw t 0 1023))
structure Dec where
 kind:Int
 student:Int
 object:Int
 term:Int
 answer:Int
 last:Int
 known:Int
 now:List Int
 reads:List Red
 named:List Int
 deriving Inhabited
def eDec (d:Dec):List D:=[di d.kind,di d.student,di d.object,di d.term,di d.answer,di d.last,di d.known,eInts d.now,eReds d.reads,eInts d.named]
def outB (w:Wor)(s c t kn:Int):Bool:=heldN w.fcts s t kn||!(crsOf w c t kn).isSome
def petC (w:Wor)(s c t kn:Int):Int:=petV w.fcts ⟨7,s,c⟩ t kn
def ansV (w:Wor)(s c t kn:Int)(nw:List Int):Int:=if outB w s c t kn=true then 0 else if allowV w s c t kn nw=true then 1 else if 0<petC w s c t kn then 1 else 0
def namV (w:Wor)(s c t kn:Int)(nw:List Int):List Int:=if outB w s c t kn=true then[] else if allowV w s c t kn nw=true then[] else if 0<petC w s c t kn then[petC w s c t kn] else[]
def admR (w:Wor)(s c t kn:Int):List Red:=heldR 6 s t++readsT ⟨1,c,0⟩ t++sitR w s t kn++[rdK ⟨7,s,c⟩ t]
def admV (w:Wor)(s c t kn:Int)(nw:List Int):Dec:=⟨1,s,c,t,ansV w s c t kn nw,ansV w s c t kn nw,kn,nw,admR w s c t kn,namV w s c t kn nw⟩
section
variable {w:Wor}{b a:Int}
end
theorem asked_ok (s c t:Int)(nw:List Int)(hl:nw.length<=1000000):Pure Tryz.prog 34 [di s,di c,di t,eInts nw] [.bool (askedB s c t nw)]:=by
 refine pure_rule hT (T:=tab) (N:=49) (rs:=[.tmp 8]) Tryz.func34 rfl rfl rfl Kr rfl ?_
 (refine gW ?_;intros)
 refine loop_rule hT (S:=Nat) (fun k=>([(0,dV s),(1,dV c),(2,dV t),(9,dV (lastB nw k)),(12,.d (eInts nw)),(13,dV nw.length),(14,dV k)],⟨[],[]⟩)) (fun k=>k<=nw.length/\nowB (-1) nw=nowB (lastB nw k) (nw.drop k)) (fun k=>nw.length-k) 0 ?_ ?_ ?_
 .exact lq
 .exact⟨Nat.zero_le _,rfl⟩
 .rintro k ⟨hk,hc⟩
  dsimp only at hk hc⊢
  by_cases hk2:k<nw.length
  .rw[nowB_at hk2]at hc
   by_cases h1:nw.getD k default<=lastB nw k
   .have hf:askedB s c t nw=false:=by
     unfold askedB
     rw[hc,decide_eq_false Om]
     rfl
    rw[hf]
    clear hc hf
    (refine gW ?_;intros)
    exact⟨rfl,Tt⟩
   by_cases h2:4096<=nw.getD k default
   .have hf:askedB s c t nw=false:=by
     unfold askedB
     rw[hc,decide_eq_false (show ¬ nw.getD k default<=4095 by omega)]
     simp
    rw[hf]
    clear hc hf
    (refine gW ?_;intros)
    exact⟨rfl,Tt⟩
   .rw[decide_eq_true (show lastB nw k<nw.getD k default by omega),decide_eq_true (show nw.getD k default<=4095 by omega)]at hc
    have kc:Kp _:=⟨hc⟩
    clear hc
    (refine gW ?_;intros)
    refine stp (k+1) ?_ ⟨by show k+1<=nw.length;omega,kc.h⟩
    dsimp only
    rw[lastB_succ]
    exact lq
  .have e:nowB (-1) nw=true:=by
    rw[hc,drop_end Om]
    rfl
   unfold askedB
   rw[e]
   (refine gW ?_;intros)
   refine⟨congrArg D.bool ?_,Tt⟩
   rw[Bool.eq_iff_iff]
   simp only[bw,Bool.true_and,Bool.and_eq_true,decide_eq_true_iff,bsl,beq_iff_eq,bne_iff_ne]
   omega
theorem named_ok (b:Bool)(n:Int):Pure Tryz.prog 38 [.bool b,di n] [eInts (if b=true then[n] else[])]:=by
 refine pure_ruleP hT (T:=tab) (N:=9) (rs:=[.tmp 4]) Tryz.func38 rfl rfl rfl Kr rfl ?_
 cases b
 .rw[if_neg Dc]
  (refine gW ?_;intros)
  exact⟨BecP.eq rfl,Tt⟩
 .rw[if_pos rfl]
  (refine gW ?_;intros)
  exact⟨BecP.rows rfl (Nat.le_refl _) (fun i hi=>by rw[show i=0 from Nat.lt_one_iff.1 hi];rfl),Tt⟩
def eKes (xs:List Ke):D:=.sl 3 xs.length fun i=>eKe (xs.getD i default)
theorem petlook_ok (w:Wor)(ks:List Ke)(t kn:Int):CallVC Tryz.prog 49 [.d (.agg (eWor w)),.d (eKes ks),dV t,dV kn] ⟨[],[]⟩
 (Ret (fun _:Unit=>([.fn (.func 98) [] [lp 1,lp 2,lp 0,lp 3]],⟨[bX 29 (up (eWor w)),bX 105 [.d (eKes ks)],bX 3 [dV t],bX 3 [dV kn]],[]⟩)) fun _=>True):=by
 refine call_rule hT (T:=tab) (N:=10) (rs:=[.tmp 8]) _ _ Tryz.func49 rfl rfl rfl Kr rfl ?_
 (refine gW ?_;intros)
 exact⟨(),Tt,by repeat' (first|exact Tt|exact rfl|exact Nat.le_refl _|refine And.intro ?_ ?_),rfl⟩
def lstV (ps:List Poi)(j:Nat):Int:=(ps.take j).foldl (fun _ p=>p.value) 0
theorem lstV_succ {ps:List Poi}{j:Nat}(h:j<ps.length):lstV ps (j+1)=(ps.getD j default).value:=by
 unfold lstV
 rw[take_succ_at h,List.foldl_append]
 rfl
theorem lstV_pet (l:List Fct)(k:Ke)(t kn:Int):lstV (pointsV l k t (t+1) kn) (pointsV l k t (t+1) kn).length=petV l k t kn:=by
 have h:=points_one l k t kn
 unfold lstV petV
 rw[List.take_length]
 generalize pointsV l k t (t+1) kn=ps at h
 match ps,h with
 |[],_=>rfl
 |[p],_=>rfl
def eLkd (w:Wor)(k:Ke)(t kn:Int):List D:=eRed (rdK k t)++[di (petV w.fcts k t kn)]
def rdsK (ks:List Ke)(t:Int)(k:Nat):List Red:=(ks.take k).map fun q=>rdK q t
theorem rdsK_succ {ks:List Ke}(t:Int){k:Nat}(h:k<ks.length):rdsK ks t (k+1)=rdsK ks t k++[rdK (ks.getD k default) t]:=by
 unfold rdsK
 rw[take_succ_at h,List.map_append]
 rfl
theorem rdsK_len (ks:List Ke)(t:Int)(k:Nat):(rdsK ks t k).length<=k:=by
 unfold rdsK
 rw[List.length_map,List.length_take]
 omega
def numK (w:Wor)(q:Ke)(t kn:Int)(k:Nat):Int:=if k=0 then 0 else petV w.fcts q t kn
theorem lkdA_ok (rec:Loop)(y:Nat)(w:Wor)(hw:WfW w)(ks:List Ke)(hl:ks.length<=1000000)(t kn:Int)(ht:In .i64 (t+1))
 (hy:∀ k,k < ks.length→YieldVC Tryz.prog y [.d (.int .i64 k),.d (.agg (eLkd w (ks.getD k default) t kn))] ⟨[],[some (.box 105 [.d (eKes ks)]),some (.box 3 [.d (.int .i64 t)]),some (.box 29 (up (eWor w))),some (.box 3 [.d (.int .i64 kn)]),some (.box 3 [.d (.int .i64 (numK w (ks.getD 0 default) t kn k))]),some (.box 35 [.osl (.arg 6) k 0 (rdsK ks t k).length]),some (.vec 107 5 k (rdsK ks t k).length (rowsOf eRed (rdsK ks t k))),some (.loop y rec [(12,.ptr (.arg 4) 0 0 0),(14,.ptr (.arg 5) 0 0 0)])]⟩
  (Ret (fun _:Unit=>([.d (.bool true)],⟨[],[bX 105 [.d (eKes ks)],bX 3 [dV t],bX 29 (up (eWor w)),bX 3 [dV kn],bX 3 [dV (numK w (ks.getD 0 default) t kn (k+1))],bX 35 [.osl (.arg 6) (k+1) 0 (rdsK ks t (k+1)).length],bV 107 5 (k+1) (rdsK ks t (k+1)).length (rowsOf eRed (rdsK ks t (k+1))),some (.loop y rec [(12,ap 4),(14,ap 5)])]⟩)) fun _=>True)) :
 CallVC Tryz.prog 98 [.fn (.yield y) [] [],ap 0,ap 1,ap 2,ap 3] ⟨[],[bX 105 [.d (eKes ks)],bX 3 [dV t],bX 29 (up (eWor w)),bX 3 [dV kn],bX 3 [dV 0],bX 35 [.osl (.arg 6) 0 0 0],bV 107 5 0 0 (rowsOf eRed []),some (.loop y rec [(12,ap 4),(14,ap 5)])]⟩
  (Ret (fun _:Unit=>([],⟨[],[bX 105 [.d (eKes ks)],bX 3 [dV t],bX 29 (up (eWor w)),bX 3 [dV kn],bX 3 [dV (numK w (ks.getD 0 default) t kn ks.length)],bX 35 [.osl (.arg 6) ks.length 0 (rdsK ks t ks.length).length],bV 107 5 ks.length (rdsK ks t ks.length).length (rowsOf eRed (rdsK ks t ks.length)),some (.loop y rec [(12,ap 4),(14,ap 5)])]⟩)) fun _=>True):=by
 refine call_rule hT (T:=tab) (N:=47) (rs:=[]) _ _ Tryz.func98 rfl rfl rfl Kr rfl ?_
 (refine gW ?_;intros)
 refine loop_rule hT (S:=Nat) (fun k=>([(0,.fn (.yield y) [] []),(2,ap 1),(3,ap 2),(4,ap 3),(11,.d (eKes ks)),(12,dV ks.length),(13,dV k)],⟨[],[bX 105 [.d (eKes ks)],bX 3 [dV t],bX 29 (up (eWor w)),bX 3 [dV kn],bX 3 [dV (numK w (ks.getD 0 default) t kn k)],bX 35 [.osl (.arg 6) k 0 (rdsK ks t k).length],bV 107 5 k (rdsK ks t k).length (rowsOf eRed (rdsK ks t k)),some (.loop y rec [(12,ap 4),(14,ap 5)])]⟩)) (fun k=>k<=ks.length) (fun k=>ks.length-k) 0 ?_ ?_ ?_
 .exact lq
 .exact Nat.zero_le _
 .intro k hk
  dsimp only at hk⊢
  by_cases hk2:k<ks.length
  .have hy1:=hy k hk2
   have hv:=lstV_pet w.fcts (ks.getD k default) t kn
   have hP:=points_ok w.fcts hw.fct (ks.getD k default) t (t+1) kn
   unfold eLkd at hy1
   have hpl:=points_one w.fcts (ks.getD k default) t kn
   (refine gW ?_;intros)
   refine hP.call ?_
   (refine gW ?_;intros)
   refine loop_rule hT (S:=Nat) (fun j=>([(0,.fn (.yield y) [] []),(2,ap 1),(3,ap 2),(4,ap 3),(6,dV k),(8,lp 1),(11,.d (eKes ks)),(12,dV ks.length),(13,dV k),(31,.d (ePois (pointsV w.fcts (ks.getD k default) t (t+1) kn))),(32,dV (pointsV w.fcts (ks.getD k default) t (t+1) kn).length),(33,dV j)],
    ⟨[none,bX 109 (up (eRed (rdK (ks.getD k default) t)++[di (lstV (pointsV w.fcts (ks.getD k default) t (t+1) kn) j)]))],[bX 105 [.d (eKes ks)],bX 3 [dV t],bX 29 (up (eWor w)),bX 3 [dV kn],bX 3 [dV (numK w (ks.getD 0 default) t kn k)],bX 35 [.osl (.arg 6) k 0 (rdsK ks t k).length],bV 107 5 k (rdsK ks t k).length (rowsOf eRed (rdsK ks t k)),some (.loop y rec [(12,ap 4),(14,ap 5)])]⟩)) (fun j=>j<=(pointsV w.fcts (ks.getD k default) t (t+1) kn).length) (fun j=>(pointsV w.fcts (ks.getD k default) t (t+1) kn).length-j) 0 ?_ ?_ ?_
   .exact lq
   .exact Nat.zero_le _
   .intro j hj
    dsimp only at hj⊢
    by_cases hj2:j<(pointsV w.fcts (ks.getD k default) t (t+1) kn).length
    .have hs:=lstV_succ hj2
     (refine gW ?_;intros)
     refine⟨j+1,by show j+1<=(pointsV w.fcts (ks.getD k default) t (t+1) kn).length;omega,by show(pointsV w.fcts (ks.getD k default) t (t+1) kn).length-(j+1)<(pointsV w.fcts (ks.getD k default) t (t+1) kn).length-j;omega,?_⟩
     dsimp only
     rw[hs]
     exact lq
    .obtain rfl:j=(pointsV w.fcts (ks.getD k default) t (t+1) kn).length:=by omega
     rw[hv]
     (refine gW ?_;intros)
     refine hy1.at [.arg 0,.arg 1,.arg 2,.arg 3,.arg 4,.arg 5,.arg 6,.arg 7] rfl ⟨rfl,rfl,rfl,rfl,rfl,rfl,rfl,rfl,Tt⟩ (fun s' hs'=>⟨rfl,?_⟩)
     (refine gW ?_;intros)
     refine⟨k+1,by show k+1<=ks.length;omega,by show ks.length-(k+1)<ks.length-k;omega,?_⟩
     exact lq
  .obtain rfl:k=ks.length:=by omega
   (refine gW ?_;intros)
   refine⟨(),Tt,?_,rfl⟩
   exact lq
def keysN (kd s:Int)(k:Nat):List Ke:=(List.range k).map fun n:Nat=>(⟨kd,s,(n:Int)⟩:Ke)
theorem keysN_succ (kd s:Int)(k:Nat):keysN kd s (k+1)=keysN kd s k++[⟨kd,s,(k:Int)⟩]:=by
 unfold keysN
 rw[List.range_succ,List.map_append]
 rfl
theorem keysN_len (kd s:Int)(k:Nat):(keysN kd s k).length=k:=by simp[keysN]
theorem keysN_at (kd s:Int){k n:Nat}(h:k<n):(keysN kd s n).getD k default=⟨kd,s,(k:Int)⟩:=by
 simp[keysN,List.getD_eq_getElem?_getD,h]
def eI (n:Int):List D:=[di n]
theorem lkdH_ok (kd s:Int)(rec:Loop)(y:Nat)(w:Wor)(hw:WfW w)(ks:List Ke)(hl:ks.length<=1000000)(t kn:Int)(ht:In .i64 (t+1))
 (hy:∀ k,k < ks.length→YieldVC Tryz.prog y [.d (.int .i64 k),.d (.agg (eLkd w (ks.getD k default) t kn))] ⟨[],[some (.box 105 [.d (eKes ks)]),some (.box 3 [.d (.int .i64 t)]),some (.box 29 (up (eWor w))),some (.box 3 [.d (.int .i64 kn)]),some (.box 30 [.osl (.arg 5) (heldF w.fcts kd s t kn k).length 0 (heldF w.fcts kd s t kn k).length]),some (.vec 3 1 (heldF w.fcts kd s t kn k).length (heldF w.fcts kd s t kn k).length (rowsOf eI (heldF w.fcts kd s t kn k))),some (.box 35 [.osl (.arg 7) k 0 (rdsK ks t k).length]),some (.vec 107 5 k (rdsK ks t k).length (rowsOf eRed (rdsK ks t k))),some (.loop y rec [(10,.ptr (.arg 4) 0 0 0),(11,.ptr (.arg 6) 0 0 0)])]⟩
  (Ret (fun _:Unit=>([.d (.bool true)],⟨[],[bX 105 [.d (eKes ks)],bX 3 [dV t],bX 29 (up (eWor w)),bX 3 [dV kn],bX 30 [.osl (.arg 5) (heldF w.fcts kd s t kn (k+1)).length 0 (heldF w.fcts kd s t kn (k+1)).length],bV 3 1 (heldF w.fcts kd s t kn (k+1)).length (heldF w.fcts kd s t kn (k+1)).length (rowsOf eI (heldF w.fcts kd s t kn (k+1))),bX 35 [.osl (.arg 7) (k+1) 0 (rdsK ks t (k+1)).length],bV 107 5 (k+1) (rdsK ks t (k+1)).length (rowsOf eRed (rdsK ks t (k+1))),some (.loop y rec [(10,ap 4),(11,ap 6)])]⟩)) fun _=>True)) :
 CallVC Tryz.prog 98 [.fn (.yield y) [] [],ap 0,ap 1,ap 2,ap 3] ⟨[],[bX 105 [.d (eKes ks)],bX 3 [dV t],bX 29 (up (eWor w)),bX 3 [dV kn],bX 30 [.osl (.arg 5) 0 0 0],bV 3 1 0 0 (rowsOf eI []),bX 35 [.osl (.arg 7) 0 0 0],bV 107 5 0 0 (rowsOf eRed []),some (.loop y rec [(10,ap 4),(11,ap 6)])]⟩
  (Ret (fun _:Unit=>([],⟨[],[bX 105 [.d (eKes ks)],bX 3 [dV t],bX 29 (up (eWor w)),bX 3 [dV kn],bX 30 [.osl (.arg 5) (heldF w.fcts kd s t kn ks.length).length 0 (heldF w.fcts kd s t kn ks.length).length],bV 3 1 (heldF w.fcts kd s t kn ks.length).length (heldF w.fcts kd s t kn ks.length).length (rowsOf eI (heldF w.fcts kd s t kn ks.length)),bX 35 [.osl (.arg 7) ks.length 0 (rdsK ks t ks.length).length],bV 107 5 ks.length (rdsK ks t ks.length).length (rowsOf eRed (rdsK ks t ks.length)),some (.loop y rec [(10,ap 4),(11,ap 6)])]⟩)) fun _=>True):=by
 refine call_rule hT (T:=tab) (N:=47) (rs:=[]) _ _ Tryz.func98 rfl rfl rfl Kr rfl ?_
 (refine gW ?_;intros)
 refine loop_rule hT (S:=Nat) (fun k=>([(0,.fn (.yield y) [] []),(2,ap 1),(3,ap 2),(4,ap 3),(11,.d (eKes ks)),(12,dV ks.length),(13,dV k)],⟨[],[bX 105 [.d (eKes ks)],bX 3 [dV t],bX 29 (up (eWor w)),bX 3 [dV kn],bX 30 [.osl (.arg 5) (heldF w.fcts kd s t kn k).length 0 (heldF w.fcts kd s t kn k).length],bV 3 1 (heldF w.fcts kd s t kn k).length (heldF w.fcts kd s t kn k).length (rowsOf eI (heldF w.fcts kd s t kn k)),bX 35 [.osl (.arg 7) k 0 (rdsK ks t k).length],bV 107 5 k (rdsK ks t k).length (rowsOf eRed (rdsK ks t k)),some (.loop y rec [(10,ap 4),(11,ap 6)])]⟩)) (fun k=>k<=ks.length) (fun k=>ks.length-k) 0 ?_ ?_ ?_
 .exact lq
 .exact Nat.zero_le _
 .intro k hk
  dsimp only at hk⊢
  by_cases hk2:k<ks.length
  .have hy1:=hy k hk2
   have hv:=lstV_pet w.fcts (ks.getD k default) t kn
   have hP:=points_ok w.fcts hw.fct (ks.getD k default) t (t+1) kn
   unfold eLkd at hy1
   have hpl:=points_one w.fcts (ks.getD k default) t kn
   (refine gW ?_;intros)
   refine hP.call ?_
   (refine gW ?_;intros)
   refine loop_rule hT (S:=Nat) (fun j=>([(0,.fn (.yield y) [] []),(2,ap 1),(3,ap 2),(4,ap 3),(6,dV k),(8,lp 1),(11,.d (eKes ks)),(12,dV ks.length),(13,dV k),(31,.d (ePois (pointsV w.fcts (ks.getD k default) t (t+1) kn))),(32,dV (pointsV w.fcts (ks.getD k default) t (t+1) kn).length),(33,dV j)],
    ⟨[none,bX 109 (up (eRed (rdK (ks.getD k default) t)++[di (lstV (pointsV w.fcts (ks.getD k default) t (t+1) kn) j)]))],[bX 105 [.d (eKes ks)],bX 3 [dV t],bX 29 (up (eWor w)),bX 3 [dV kn],bX 30 [.osl (.arg 5) (heldF w.fcts kd s t kn k).length 0 (heldF w.fcts kd s t kn k).length],bV 3 1 (heldF w.fcts kd s t kn k).length (heldF w.fcts kd s t kn k).length (rowsOf eI (heldF w.fcts kd s t kn k)),bX 35 [.osl (.arg 7) k 0 (rdsK ks t k).length],bV 107 5 k (rdsK ks t k).length (rowsOf eRed (rdsK ks t k)),some (.loop y rec [(10,ap 4),(11,ap 6)])]⟩)) (fun j=>j<=(pointsV w.fcts (ks.getD k default) t (t+1) kn).length) (fun j=>(pointsV w.fcts (ks.getD k default) t (t+1) kn).length-j) 0 ?_ ?_ ?_
   .exact lq
   .exact Nat.zero_le _
   .intro j hj
    dsimp only at hj⊢
    by_cases hj2:j<(pointsV w.fcts (ks.getD k default) t (t+1) kn).length
    .have hs:=lstV_succ hj2
     (refine gW ?_;intros)
     refine⟨j+1,by show j+1<=(pointsV w.fcts (ks.getD k default) t (t+1) kn).length;omega,by show(pointsV w.fcts (ks.getD k default) t (t+1) kn).length-(j+1)<(pointsV w.fcts (ks.getD k default) t (t+1) kn).length-j;omega,?_⟩
     dsimp only
     rw[hs]
     exact lq
    .obtain rfl:j=(pointsV w.fcts (ks.getD k default) t (t+1) kn).length:=by omega
     rw[hv]
     (refine gW ?_;intros)
     refine hy1.at [.arg 0,.arg 1,.arg 2,.arg 3,.arg 4,.arg 5,.arg 6,.arg 7,.arg 8] rfl ⟨rfl,rfl,rfl,rfl,rfl,rfl,rfl,rfl,rfl,Tt⟩ (fun s' hs'=>⟨rfl,?_⟩)
     (refine gW ?_;intros)
     refine⟨k+1,by show k+1<=ks.length;omega,by show ks.length-(k+1)<ks.length-k;omega,?_⟩
     exact lq
  .obtain rfl:k=ks.length:=by omega
   (refine gW ?_;intros)
   refine⟨(),Tt,?_,rfl⟩
   exact lq
theorem active_ok (w:Wor)(hw:WfW w)(sc s o t kn:Int)(ht:In .i64 (t+1)) :
 Pure Tryz.prog 18 [.agg (eWor w),di sc,di s,di o,di t,di kn] [di (petV w.fcts ⟨sc,s,o⟩ t kn),.bool (decide (0<petV w.fcts ⟨sc,s,o⟩ t kn)),eReds [rdK ⟨sc,s,o⟩ t]]:=by
 have hv0:=petV_nn w.fcts ⟨sc,s,o⟩ t kn
 have hL:=petlook_ok w [⟨sc,s,o⟩] t kn
 refine pure_ruleC hT (T:=tab) (N:=40) (rs:=[.cell 12 3,.tmp 13,.cell 14 35]) Tryz.func18 rfl rfl rfl Kr rfl ?_
 (refine gS ?_;intros)
 refine Sq.alt (Awp.vecCell (.loc 2) 0 35 107 5 [.d .nils] (rowsOf eRed []) rfl rfl (vc_ok hT _ _ _ _ (Ev.o ?_)))
 (refine gS ?_;intros)
 refine CallVC.frz [4] (dargs:=[.agg (eWor w),eKes [⟨sc,s,o⟩],di t,di kn]) ⟨.d,.rows rfl (Nat.le_refl _) (fun i hi=>by rw[show i=0 from Nat.lt_one_iff.1 hi];rfl),.d,.d,Tt⟩ (hL.at [] rfl Tt (fun _ _=>⟨rfl,?_⟩))
 (refine gW ?_;intros)
 refine Awp.range (caps:=[lp 6,lp 7,lp 5,lp 8]) [(12,lp 1),(14,lp 2)] (.inl rfl) (nl:=9) (na:=0) ⟨⟨rfl,rfl⟩,⟨rfl,rfl⟩,Tt⟩ ?_
 intro y rec h1 h2 h3 h4 h5 h6
 obtain⟨q,hq⟩:∃q:Ke,(⟨sc,s,o⟩:Ke)=q:=⟨_,rfl⟩
 rw[hq]at hv0⊢
 refine(lkdA_ok rec y w hw [q] (show 1<=1000000 by decide) t kn ht ?_).at [.loc 6,.loc 7,.loc 5,.loc 8,.loc 1,.loc 2,.loc 3,.loc 9] rfl ⟨rfl,rfl,rfl,rfl,rfl,rfl,rfl,rfl,Tt⟩ (fun _ _=>⟨rfl,?_⟩)
 .intro k hk
  obtain rfl:k=0:=Nat.lt_one_iff.1 hk
  refine yieldMono (yield_rule (N:=40) (ps:=[26,27]) (args:=[dV (0:Nat),.d (.agg (eLkd w q t kn))])
   (bs:=[bX 105 [.d (eKes [q])],bX 3 [dV t],bX 29 (up (eWor w)),bX 3 [dV kn],bX 3 [dV 0],bX 35 [.osl (.arg 6) 0 0 0],bV 107 5 0 0 (rowsOf eRed [])]) (env0:=[(12,ap 4),(14,ap 5)])
   (fun _:Unit=>[bX 105 [.d (eKes [q])],bX 3 [dV t],bX 29 (up (eWor w)),bX 3 [dV kn],bX 3 [dV (petV w.fcts q t kn)],bX 35 [.osl (.arg 6) 1 0 1],bV 107 5 1 1 (rowsOf eRed [rdK q t])]) (fun _=>none) (fun _=>True) h1 h3 h4 h5 h6 rfl (by simp) ?_ rfl rfl ?_) ?_
  .exact lq
  .refine Awp.of_vc hT ?_
   (refine gW ?_;intros)
   refine Awp.block (Awp.effsC (m:=⟨[bX 109 (up (eLkd w q t kn))],[bX 105 [.d (eKes [q])],bX 3 [dV t],bX 29 (up (eWor w)),bX 3 [dV kn],bX 3 [dV 0],bX 35 [.osl (.arg 6) 0 0 0],bV 107 5 0 0 (rowsOf eRed [])]⟩) hT Kr Kr Kr
    ⟨[bX 109 (up (eLkd w q t kn)),none],[bX 105 [.d (eKes [q])],bX 3 [dV t],bX 29 (up (eWor w)),bX 3 [dV kn],bX 3 [.junk],bX 35 [.osl (.arg 6) 0 0 0],some .opq]⟩ 1 7
    [⟨6,.osl (.loc 1) 0 0 1,⟨[some (.box 109 (up (eLkd w q t kn))),some (.vec 107 5 0 1 (rowFn [up (eRed (rdK q t))]))],[some (.box 105 [.d (eKes [q])]),some (.box 3 [.d (.int .i64 t)]),some (.box 29 (up (eWor w))),some (.box 3 [.d (.int .i64 kn)]),some (.box 3 [.d (.int .i64 0)]),some (.box 35 [.osl (.arg 6) 0 0 0]),some (.vec 107 5 0 0 (rowsOf eRed []))]⟩,[]⟩,
     ⟨7,.osl (.arg 6) 1 0 1,⟨[bX 109 (up (eLkd w q t kn)),bV 107 5 0 1 (rowFn [up (eRed (rdK q t))])],[bX 105 [.d (eKes [q])],bX 3 [dV t],bX 29 (up (eWor w)),bX 3 [dV kn],bX 3 [dV 0],bX 35 [.osl (.arg 6) 0 0 0],bV 107 5 1 1 (joinF 0 (rowsOf eRed []) (rowFn [up (eRed (rdK q t))]))]⟩,[6]⟩,
     ⟨8,.junk,⟨[bX 109 (up (eLkd w q t kn)),bV 107 5 0 1 (rowFn [up (eRed (rdK q t))])],[bX 105 [.d (eKes [q])],bX 3 [dV t],bX 29 (up (eWor w)),bX 3 [dV kn],bX 3 [dV (petV w.fcts q t kn)],bX 35 [.osl (.arg 6) 0 0 0],bV 107 5 1 1 (joinF 0 (rowsOf eRed []) (rowFn [up (eRed (rdK q t))]))]⟩,[7]⟩,
     ⟨9,.junk,⟨[bX 109 (up (eLkd w q t kn)),bV 107 5 0 1 (rowFn [up (eRed (rdK q t))])],[bX 105 [.d (eKes [q])],bX 3 [dV t],bX 29 (up (eWor w)),bX 3 [dV kn],bX 3 [dV (petV w.fcts q t kn)],bX 35 [.osl (.arg 6) 1 0 1],bV 107 5 1 1 (joinF 0 (rowsOf eRed []) (rowFn [up (eRed (rdK q t))]))]⟩,[8]⟩]
    Kr rfl rfl (WeakF.of ⟨.inl rfl,Tt⟩ ⟨.inl rfl,.inl rfl,.inl rfl,.inl rfl,.inr ⟨_,rfl,WeakB.box Tt⟩,.inl rfl,.inr ⟨_,rfl,WeakB.opq⟩,Tt⟩) true (fun _=>by kernel_rfl) ⟨WeakF.of ⟨.inl rfl,Tt⟩ ⟨.inl rfl,.inl rfl,.inl rfl,.inl rfl,.inr ⟨_,rfl,WeakB.box Tt⟩,.inl rfl,.inr ⟨_,rfl,WeakB.opq⟩,Tt⟩,WeakF.of ⟨.inl rfl,Tt⟩ ⟨.inl rfl,.inl rfl,.inl rfl,.inl rfl,.inr ⟨_,rfl,WeakB.box Tt⟩,.inl rfl,.inr ⟨_,rfl,WeakB.opq⟩,Tt⟩,WeakF.of ⟨.inl rfl,Tt⟩ ⟨.inl rfl,.inl rfl,.inl rfl,.inl rfl,.inr ⟨_,rfl,WeakB.box Tt⟩,.inl rfl,.inr ⟨_,rfl,WeakB.opq⟩,Tt⟩,.inl rfl⟩ ?_)
   conv=>whnf
   (refine gS ?_;intros)
   refine⟨?_,?_,?_,?_,?_⟩
   .conv=>whnf
    (refine gS ?_;intros)
    exact⟨rfl,rfl⟩
   .conv=>whnf
    (refine gS ?_;intros)
    exact⟨rfl,rfl⟩
   .conv=>whnf
    (refine gS ?_;intros)
    refine⟨Tt,?_⟩
    rw[show max (petV w.fcts q t kn) 0=petV w.fcts q t kn by omega]
    rfl
   .conv=>whnf
    (refine gS ?_;intros)
    exact⟨Tt,rfl⟩
   conv=>whnf
   (refine gS ?_;intros)
   refine⟨(),Tt,rfl,rfl,?_⟩
   exact lq
  .rintro A m' ⟨_,_,rfl,rfl⟩
   refine⟨(),Tt,rfl,?_⟩
   show(⟨[],[some _,some _,some _,some _,some _,some _,some _,some (.loop y (after rec none) _)]⟩:Mem)=_
   rw[after_none h1 h2]
   rfl
 ·(refine gW ?_;intros)
  refine⟨none,by rw[after_none h1 h2];rfl,?_⟩
  show Sq _ _
  refine Sq.alt (Awp.le (env':=[(12,lp 1),(14,lp 2)]) (m':=⟨[none,bX 3 [dV (petV w.fcts q t kn)],bX 35 [.osl (.loc 3) 1 0 1],bV 107 5 1 1 (rowsOf eRed [rdK q t])],[]⟩) ?_
   (Awp.seq (Awp.effs (m:=⟨[none,some (.box 3 [.d (.int .i64 (petV w.fcts q t kn))]),some (.box 35 [.osl (.loc 3) 1 0 1]),some (.vec 107 5 1 1 (rowsOf eRed [rdK q t]))],[]⟩) hT (by kernel_rfl) (by kernel_rfl) (by kernel_rfl)
    ⟨[none,bX 3 [dV (petV w.fcts q t kn)],bX 35 [.osl (.loc 3) 1 0 1],bV 107 5 1 1 (rowsOf eRed [rdK q t])],[]⟩
    [⟨4,.junk,⟨[none,bX 3 [dV (petV w.fcts q t kn)],bX 35 [.osl (.loc 3) 1 0 1],bV 107 5 1 1 (rowsOf eRed [rdK q t])],[]⟩,[]⟩,⟨5,.d (.bool (decide (0<petV w.fcts q t kn))),⟨[none,bX 3 [dV (petV w.fcts q t kn)],bX 35 [.osl (.loc 3) 1 0 1],bV 107 5 1 1 (rowsOf eRed [rdK q t])],[]⟩,[4]⟩,⟨6,.junk,⟨[none,bX 3 [dV (petV w.fcts q t kn)],bX 35 [.osl (.loc 3) 1 0 1],bV 107 5 1 1 (rowsOf eRed [rdK q t])],[]⟩,[5]⟩] Kr (fun r=>.inl rfl) ⟨fun r=>.inl rfl,fun r=>.inl rfl,fun r=>.inl rfl,Tt⟩ ?_)))
  .exact lq
  conv=>whnf
  (refine gS ?_;intros)
  refine⟨?_,?_,?_,?_⟩
  .conv=>whnf
   (refine gS ?_;intros)
   exact⟨Tt,rfl⟩
  .conv=>whnf
   (refine gS ?_;intros)
   exact⟨rfl,rfl⟩
  .conv=>whnf
   (refine gS ?_;intros)
   exact⟨Tt,rfl⟩
  conv=>whnf
  (refine gW ?_;intros)
  refine Awp.of_vc hT ?_
  (refine gW ?_;intros)
  exact⟨BecP.d,BecP.d,BecP.rows rfl (Nat.le_refl _) (fun i hi=>by rw[Nat.zero_add];rfl),Tt⟩
theorem heldF_le (l:List Fct)(kd s t kn:Int):∀k,(heldF l kd s t kn k).length<=k
 |0=>Nat.le_refl _
 | k + 1=>by
   have:=heldF_le l kd s t kn k
   rw[heldF,List.length_append]
   split<;>simp<;>omega
theorem heldR_eq (kd s t:Int):heldR kd s t=rdsK (keysN kd s 8) t (keysN kd s 8).length:=by
 unfold heldR rdsK keysN
 rw[List.take_length,List.map_map]
 rfl
theorem of_ok (w:Wor)(hw:WfW w)(kd s t kn:Int)(ht:In .i64 (t+1)) :
 Pure Tryz.prog 48 [.agg (eWor w),di kd,di s,di t,di kn] [eInts (heldL w.fcts kd s t kn),eReds (heldR kd s t)]:=by
 rw[show heldL w.fcts kd s t kn=heldF w.fcts kd s t kn (keysN kd s 8).length by rw[keysN_len];rfl,heldR_eq]
 refine pure_ruleC hT (T:=tab) (N:=48) (rs:=[.cell 10 30,.cell 11 35]) Tryz.func48 rfl rfl rfl Kr rfl ?_
 (refine gW ?_;intros)
 refine Awp.vecCell (.loc 1) 0 30 3 1 [.d .nils] (rowsOf eI []) rfl rfl ?_
 refine Awp.vecCell (.loc 2) 0 35 107 5 [.d .nils] (rowsOf eRed []) rfl rfl ?_
 refine Awp.vec 12 72 3 (rowsOf eKe []) rfl ?_
 refine loop_rule hT (S:=Nat) (fun k=>([(1,dV kd),(2,dV s),(3,dV t),(4,dV kn),(5,lp 0),(10,lp 1),(11,lp 2),(12,.osl (.loc 5) k 0 (keysN kd s k).length),(16,dV k)],
  ⟨[bX 29 (up (eWor w)),bX 30 [.osl (.loc 3) 0 0 0],bX 35 [.osl (.loc 4) 0 0 0],bV 3 1 0 0 (rowsOf eI []),bV 107 5 0 0 (rowsOf eRed []),bV 72 3 k (keysN kd s k).length (rowsOf eKe (keysN kd s k))],[]⟩)) (fun k=>k<=8) (fun k=>8-k) 0 ?_ ?_ ?_
 .exact lq
 .exact Nat.zero_le _
 .intro k hk
  dsimp only at hk⊢
  have hkl:=keysN_len kd s k
  by_cases hk2:k<8
  ·(refine gW ?_;intros)
   refine⟨k+1,by show k+1<=8;omega,by show 8-(k+1)<8-k;omega,?_⟩
   dsimp only
   rw[keysN_succ]
   repeat' (first|exact Tt|exact rfl|exact Nat.le_refl _|refine And.intro ?_ ?_)
   all_goals first
    |(intro j hj;exact⟨rfl,rfl⟩)
    | (intro j hj
       refine⟨?_,rfl⟩
       exact join_snoc eKe (keysN kd s k) ⟨kd,s,(k:Int)⟩ _ rfl j hj)
    |(rw[len_snoc];rfl)
    |(rw[len_snoc];exact Nat.le_refl _)
  .obtain rfl:k=8:=by omega
   have hL:=petlook_ok w (keysN kd s 8) t kn
   have hkl:(keysN kd s 8).length=8:=keysN_len kd s 8
   (refine gW ?_;intros)
   refine CallVC.frz [5] (dargs:=[.agg (eWor w),eKes (keysN kd s 8),di t,di kn]) ⟨.d,.rows rfl (Nat.le_of_eq (Nat.zero_add _)) (fun i hi=>by rw[Nat.zero_add];rfl),.d,.d,Tt⟩ (hL.at [] rfl Tt (fun _ _=>⟨rfl,?_⟩))
   (refine gW ?_;intros)
   refine Awp.range (caps:=[lp 7,lp 8,lp 6,lp 9]) [(10,lp 1),(11,lp 2)] (.inl rfl) (nl:=10) (na:=0) ⟨⟨rfl,rfl⟩,⟨rfl,rfl⟩,Tt⟩ ?_
   intro y rec h1 h2 h3 h4 h5 h6
   refine(lkdH_ok kd s rec y w hw (keysN kd s 8) (by rw[hkl];decide) t kn ht ?_).at [.loc 7,.loc 8,.loc 6,.loc 9,.loc 1,.loc 3,.loc 2,.loc 4,.loc 10] rfl ⟨rfl,rfl,rfl,rfl,rfl,rfl,rfl,rfl,rfl,Tt⟩ (fun _ _=>⟨rfl,?_⟩)
   .intro k hk
    have hk8:k<8:=by rw[hkl]at hk;exact hk
    have hr:=rdsK_succ t hk
    have hrl:=rdsK_len (keysN kd s 8) t k
    have hh:heldF w.fcts kd s t kn (k+1)=heldF w.fcts kd s t kn k++(if petV w.fcts ⟨kd,s,(k:Int)⟩ t kn=1 then[(k:Int)] else[]):=rfl
    have hhl:=heldF_le w.fcts kd s t kn k
    rw[keysN_at kd s hk8]at hr⊢
    obtain⟨hs,hhs⟩:∃hs,heldF w.fcts kd s t kn k=hs:=⟨_,rfl⟩
    obtain⟨rs,hrs⟩:∃rs,rdsK (keysN kd s 8) t k=rs:=⟨_,rfl⟩
    rw[hhs]at hh hhl⊢
    rw[hrs]at hr hrl⊢
    rw[hr]
    refine yieldMono (yield_rule (N:=48) (ps:=[32,33]) (args:=[dV k,.d (.agg (eLkd w ⟨kd,s,(k:Int)⟩ t kn))])
     (bs:=[bX 105 [.d (eKes (keysN kd s 8))],bX 3 [dV t],bX 29 (up (eWor w)),bX 3 [dV kn],bX 30 [.osl (.arg 5) hs.length 0 hs.length],bV 3 1 hs.length hs.length (rowsOf eI hs),bX 35 [.osl (.arg 7) k 0 rs.length],bV 107 5 k rs.length (rowsOf eRed rs)]) (env0:=[(10,ap 4),(11,ap 6)])
     (fun _:Unit=>[bX 105 [.d (eKes (keysN kd s 8))],bX 3 [dV t],bX 29 (up (eWor w)),bX 3 [dV kn],bX 30 [.osl (.arg 5) (heldF w.fcts kd s t kn (k+1)).length 0 (heldF w.fcts kd s t kn (k+1)).length],bV 3 1 (heldF w.fcts kd s t kn (k+1)).length (heldF w.fcts kd s t kn (k+1)).length (rowsOf eI (heldF w.fcts kd s t kn (k+1))),bX 35 [.osl (.arg 7) (k+1) 0 (rs++[rdK ⟨kd,s,(k:Int)⟩ t]).length],bV 107 5 (k+1) (rs++[rdK ⟨kd,s,(k:Int)⟩ t]).length (rowsOf eRed (rs++[rdK ⟨kd,s,(k:Int)⟩ t]))]) (fun _=>none) (fun _=>True) h1 h3 h4 h5 h6 rfl (by simp) ?_ rfl rfl ?_) ?_
    .exact lq
    .rw[hh]
     clear h5 h6 hh hr
     refine Awp.of_vc hT ?_
     (refine gW ?_;intros)
     refine Awp.of_vc hT ?_
     by_cases hp:petV w.fcts ⟨kd,s,(k:Int)⟩ t kn=1
     .rw[if_pos hp]
      (refine gW ?_;intros)
      refine⟨(),Tt,rfl,rfl,?_⟩
      dsimp only
      rw[len_snoc,len_snoc]
      exact lq
     .rw[if_neg hp,List.append_nil]
      (refine gW ?_;intros)
      refine⟨(),Tt,rfl,rfl,?_⟩
      dsimp only
      rw[len_snoc]
      exact lq
    .rintro A m' ⟨_,_,rfl,rfl⟩
     refine⟨(),Tt,rfl,?_⟩
     show(⟨[],[some _,some _,some _,some _,some _,some _,some _,some _,some (.loop y (after rec none) _)]⟩:Mem)=_
     rw[after_none h1 h2]
   .clear h5 h6
    generalize heldF w.fcts kd s t kn (keysN kd s 8).length=hs
    generalize rdsK (keysN kd s 8) t (keysN kd s 8).length=rs
    (refine gW ?_;intros)
    refine⟨none,by rw[after_none h1 h2];rfl,?_⟩
    show Sq _ _
    refine Sq.alt (Awp.le (env':=[(10,lp 1),(11,lp 2)]) (m':=⟨[none,bX 30 [.osl (.loc 3) hs.length 0 hs.length],bX 35 [.osl (.loc 4) (keysN kd s 8).length 0 rs.length],bV 3 1 hs.length hs.length (rowsOf eI hs),bV 107 5 (keysN kd s 8).length rs.length (rowsOf eRed rs)],[]⟩) ?_
     (Awp.seq (Awp.effs (m:=⟨[none,some (.box 30 [.osl (.loc 3) hs.length 0 hs.length]),some (.box 35 [.osl (.loc 4) (keysN kd s 8).length 0 rs.length]),some (.vec 3 1 hs.length hs.length (rowsOf eI hs)),some (.vec 107 5 (keysN kd s 8).length rs.length (rowsOf eRed rs))],[]⟩) hT (by kernel_rfl) (by kernel_rfl) (by kernel_rfl) ⟨[none,some (.box 30 [.osl (.loc 3) hs.length 0 hs.length]),some (.box 35 [.osl (.loc 4) (keysN kd s 8).length 0 rs.length]),some (.vec 3 1 hs.length hs.length (rowsOf eI hs)),some (.vec 107 5 (keysN kd s 8).length rs.length (rowsOf eRed rs))],[]⟩
      [⟨2,.junk,⟨[none,bX 30 [.osl (.loc 3) hs.length 0 hs.length],bX 35 [.osl (.loc 4) (keysN kd s 8).length 0 rs.length],bV 3 1 hs.length hs.length (rowsOf eI hs),bV 107 5 (keysN kd s 8).length rs.length (rowsOf eRed rs)],[]⟩,[]⟩,⟨3,.junk,⟨[none,bX 30 [.osl (.loc 3) hs.length 0 hs.length],bX 35 [.osl (.loc 4) (keysN kd s 8).length 0 rs.length],bV 3 1 hs.length hs.length (rowsOf eI hs),bV 107 5 (keysN kd s 8).length rs.length (rowsOf eRed rs)],[]⟩,[2]⟩] Kr (fun r=>.inl rfl) ⟨fun r=>.inl rfl,fun r=>.inl rfl,Tt⟩ ?_)))
    .exact lq
    conv=>whnf
    (refine gS ?_;intros)
    refine⟨?_,?_,?_⟩
    .conv=>whnf
     (refine gS ?_;intros)
     exact⟨Tt,rfl⟩
    .conv=>whnf
     (refine gS ?_;intros)
     exact⟨Tt,rfl⟩
    conv=>whnf
    (refine gW ?_;intros)
    refine Awp.of_vc hT ?_
    (refine gW ?_;intros)
    exact⟨BecP.rows rfl (Nat.le_of_eq (Nat.zero_add _)) (fun i hi=>by rw[Nat.zero_add];rfl),BecP.rows rfl (Nat.le_of_eq (Nat.zero_add _)) (fun i hi=>by rw[Nat.zero_add];rfl),Tt⟩
theorem held_ok (w:Wor)(hw:WfW w)(s t kn:Int)(ht:In .i64 (t+1)) :
 Pure Tryz.prog 17 [.agg (eWor w),di s,di t,di kn] [eInts (heldL w.fcts 6 s t kn),eReds (heldR 6 s t)]:=by
 have hO:=of_ok w hw 6 s t kn ht
 refine pure_rule hT (T:=tab) (N:=17) (rs:=[.tmp 8,.tmp 9]) Tryz.func17 rfl rfl rfl Kr rfl ?_
 (refine gW ?_;intros)
 refine hO.call ?_
 (refine gW ?_;intros)
 exact⟨⟨rfl,rfl,fun i hi=>rfl⟩,⟨rfl,rfl,fun i hi=>rfl⟩,Tt⟩
end Go.Proofs.YtkjmomadndmeaaaGreatDoor
