import Derived.Test.YtmlhghddfobmmaaGreatDoorOpsF
import Derived.Test.YtmlhghddfobmmaaGreatDoorNamP
import Derived.Test.YtmlhghddfobmmaaGreatDoorEngAW
namespace Go.Proofs.YtmlhghddfobmmaaGreatDoor
set_option linter.unusedSimpArgs false
set_option linter.unusedVariables false
open Go Go.Ab
set_option maxRecDepth 100000
set_option maxHeartbeats 0
def chE (e:Int):List PanicEntry:=[{v:=.iface 182 (.agg #[Value.int .i64 e]),recovered:=false}]
theorem demandM_ok (b:Bool)(e:Int):Mix Tryz.prog 50 [.bool b,di e] b [] (chE e):=by
 refine mix_rule hT (T:=tab) (N:=9) (rs:=[]) Tryz.func50 rfl rfl rfl Kr rfl ?_
 cases b
 ·(refine gS ?_;intros)
  refine Sq.alt (Awp.condT rfl (Awp.raise hT 3 182 (.agg #[Value.int .i64 e]) rfl rfl rfl Kr ?_))
  (refine gS ?_;intros)
  exact⟨Only.ifc1,Ev.mk ⟨rfl,rfl⟩⟩
 ·(refine gW ?_;intros)
  exact⟨rfl,Tt⟩
theorem len_lt_of_dup {α:Type}[DecidableEq α]:∀{ks qs:List α},qs.Nodup->(∀x,x∈qs->x∈ks)->¬ ks.Nodup->qs.length<ks.length
 |[],_,_,_,h=>absurd List.nodup_nil h
 | y :: r,qs,hq,hs,h=>by
   by_cases hy:y∈r
   .have:=hq.length_le_of_subset (l₂:=r) fun x hx=>by
     rcases List.mem_cons.1 (hs x hx) with rfl|h'
     .exact hy
     .exact h'
    rw[List.length_cons]
    omega
   .have hr:¬ r.Nodup:=fun h'=>h (List.nodup_cons.2 ⟨hy,h'⟩)
    have h1:=len_lt_of_dup (qs:=qs.erase y) (hq.erase y) (fun x hx=>by
     obtain⟨h2,h3⟩:=hq.mem_erase_iff.1 hx
     rcases List.mem_cons.1 (hs x h3) with rfl|h'
     .exact absurd rfl h2
     .exact h') hr
    have h2:qs.length<=(qs.erase y).length+1:=by
     rw[List.length_erase]
     split<;>omega
    rw[List.length_cons]
    omega
def cntU (ks:List (List Int))(k:Nat)(key:List Int):Nat:=(ks.take k).count key
theorem cntU_le (ks:List (List Int))(k:Nat)(key:List Int):cntU ks k key<=k:=by
 unfold cntU
 have:=List.count_le_length (a:=key) (l:=ks.take k)
 rw[List.length_take]at this
 omega
theorem cntU_no {ks:List (List Int)}{k:Nat}{key:List Int}(h:hasU ks k key=false):cntU ks k key=0:=List.count_eq_zero.2 (of_decide_eq_false h)
theorem cntU_succ {ks:List (List Int)}{k:Nat}(hk:k<ks.length)(key:List Int)(n:Int)(hn:n=(cntU ks k (ks.getD k default):Int)+1):(bif decide (key=ks.getD k default) then dV n else dV (cntU ks k key))=dV (cntU ks (k+1) key):=by
 have e:cntU ks (k+1) key=cntU ks k key+(if ks.getD k default=key then 1 else 0):=by
  unfold cntU
  rw[take_succ_at hk,List.count_append,List.count_singleton]
  congr 1
  by_cases h:ks.getD k default=key
  .rw[if_pos h,if_pos (by simpa using h)]
  .rw[if_neg h,if_neg (by simpa using h)]
 rw[e]
 by_cases h:key=ks.getD k default
 .rw[decide_eq_true h,cond_true,if_pos h.symm,hn,<-h]
  rfl
 .rw[decide_eq_false h,cond_false,if_neg (fun e=>h e.symm)]
  rfl
theorem uniqMCrsS_ok (l:List Crs)(hl:l.length<=9223372036854775807)(f:FuncId)(kf:Crs->ByteArray)(hf:∀x∈l,Pure Tryz.prog f [.agg (eCrs x)] [.str (kf x)]):Mix Tryz.prog 51 [eCrss l,.fn (.func f) [] []] (decide (l.map kf).Nodup) [] (chE 111):=by
 obtain⟨ks,hks⟩:∃ks:List (List Int),ks=l.map fun x=>bytesI (kf x):=⟨_,rfl⟩
 have hkl:ks.length=l.length:=by rw[hks,List.length_map]
 have hkn:(l.map kf).Nodup↔ks.Nodup:=by
  have e:ks=(l.map kf).map bytesI:=by rw[hks,List.map_map];rfl
  rw[e]
  exact⟨nodup_map_inj (fun a b=>bytesI_inj),fun h=>List.Pairwise.of_map bytesI (fun a b h e=>h (e▸rfl)) h⟩
 have hkg:∀k,k<l.length->ks.getD k default=(fun x=>bytesI (kf x)) (l.getD k default):=fun k hk=>by
  rw[hks]
  simp only[List.getD_eq_getElem?_getD,List.getElem?_map,List.getElem?_eq_getElem hk,Option.map_some,Option.getD_some]
 have hfit:∀k∈ks,Ksh.str.fits k:=fun k hk=>by
  rw[hks]at hk
  obtain⟨x,_,rfl⟩:=List.mem_map.1 hk
  exact bytesI_fits _
 have kh:Kp _:=⟨hks⟩
 have kn:Kp _:=⟨hkn⟩
 clear hks hkn
 refine mix_rule hT (T:=tab) (N:=27) (rs:=[]) Tryz.func51 rfl rfl rfl Kr rfl ?_
 (refine gW ?_;intros)
 refine loop_rule hT (S:=Nat) (fun k=>([(0,.d (eCrss l)),(1,.d (.fn (.func f) [] [])),(4,.mp (.loc 0)),(8,.d (eCrss l)),(9,dV l.length),(10,dV k)],⟨[some (.map Ksh.str (hasU ks k) fun key=>dV (cntU ks k key))],[]⟩)) (fun k=>k<=l.length) (fun k=>l.length-k) 0 ?_ ?_ ?_
 .repeat' (first|exact Tt|exact rfl|exact Nat.le_refl _|refine And.intro ?_ ?_)
  all_goals first
   |(intro key hf;exact⟨by simp[hasU],fun h=>(by cases h)⟩)
 .exact Nat.zero_le _
 .intro k hk
  dsimp only at hk⊢
  by_cases hk2:k<l.length
  .have hF:=hf _ (getD_mem hk2)
   have hz:=@cntU_no ks k (bytesI (kf (l.getD k default)))
   have hc:=cntU_le ks k (bytesI (kf (l.getD k default)))
   have kg:Kp _:=⟨hkg k hk2⟩
   clear hkg hf hfit
   (refine gW ?_;intros)
   refine hF.call ?_
   have hin:In .i64 ((cntU ks k (bytesI (kf (l.getD k default))):Int)+1):=in64.2 Om
   repeat' (first|with_reducible refine Sq.go ?_|((with_reducible refine Ev.mk ?_);conv=>whnf)|with_reducible refine Dr.mk ⟨Kr,Kr⟩ ?_|with_reducible refine obG ?_|with_reducible refine Ob.mk ?_ ?_|(with_reducible first|refine brT fun h=>?_|refine brF fun h=>?_|refine Br.mk (fun h=>?_) fun h=>?_)<;>(try simp only[bsl,beq_iff_eq,bne_iff_ne,bs2]at h)<;>(try contradiction)<;>try (exfalso;omega))
   .intro h0
    simp only[hz h0]
    with_unfolding_all exact rfl
   refine⟨k+1,by show k+1<=l.length;omega,by show l.length-(k+1)<l.length-k;omega,?_⟩
   repeat' (first|exact Tt|exact rfl|exact Nat.le_refl _|refine And.intro ?_ ?_)
   all_goals first
    | (intro key hf
       have e1:=hasU_succ (show k<ks.length by omega) key
       have e2:=fun n hv=>cntU_succ (show k<ks.length by omega) key n hv
       rw[kg.h]at e1 e2
       exact⟨e1,fun _=>⟨e2 _ rfl,rfl⟩⟩)
  .have hall:∀key,hasU ks k key=decide (key∈ks):=fun key=>by rw[hasU,List.take_of_length_le Om]
   have hsub:∀qs:List (List Int),(∀key,key∈qs->Ksh.str.fits key/\hasU ks k key=true)->∀x,x∈qs->x∈ks:=fun qs h2 key h=>by
    have:=(h2 key h).2
    rw[hall]at this
    exact of_decide_eq_true this
   by_cases hn:ks.Nodup
   .have hb:decide (l.map kf).Nodup=true:=decide_eq_true (kn.h.2 hn)
    rw[hb]
    (refine gW ?_;intros)
    refine op_len_map hT rfl rfl rfl rfl fun qs h1 h2 h3=>?_
    have hlen:qs.length=l.length:=by
     rw[<-hkl]
     exact len_of_both h1 hn fun key=>⟨hsub qs h2 key,fun h=>h3 key (hfit key h) (by rw[hall];exact decide_eq_true h)⟩
    clear hall hkg hfit hf h1 h2 h3 hsub
    (refine gW ?_;intros)
    refine((demandM_ok _ 111).1 (by rw[hlen];simp)).call ?_
    (refine gW ?_;intros)
    exact⟨rfl,Tt⟩
   .have hb:decide (l.map kf).Nodup=false:=decide_eq_false fun h=>hn (kn.h.1 h)
    rw[hb]
    (refine gS ?_;intros)
    refine Sq.go ?_
    (refine gS ?_;intros)
    refine Sq.alt (Awp.pan hT 5 rfl rfl rfl Kr ?_)
    (refine gS ?_;intros)
    refine op_len_map hT rfl rfl rfl rfl fun qs h1 h2 h3=>?_
    have hlen:qs.length<l.length:=by
     rw[<-hkl]
     exact len_lt_of_dup h1 (hsub qs h2) hn
    clear hall hkg hfit hf h1 h2 h3 hsub
    (refine gS ?_;intros)
    refine Pan.vc ((demandM_ok _ 111).2 ?_) ⟨.d,.d,Tt⟩ (Ev.mk ⟨rfl,rfl⟩)
    exact decide_eq_false Om
theorem uniqMCrsI_ok (l:List Crs)(hl:l.length<=9223372036854775807)(f:FuncId)(kf:Crs->Int)(hf:∀x∈l,Pure Tryz.prog f [.agg (eCrs x)] [di (kf x)]):Mix Tryz.prog 53 [eCrss l,.fn (.func f) [] []] (decide (l.map kf).Nodup) [] (chE 111):=by
 obtain⟨ks,hks⟩:∃ks:List (List Int),ks=l.map fun x=>[kf x]:=⟨_,rfl⟩
 have hkl:ks.length=l.length:=by rw[hks,List.length_map]
 have hkn:(l.map kf).Nodup↔ks.Nodup:=by
  have e:ks=(l.map kf).map (fun n:Int=>[n]):=by rw[hks,List.map_map];rfl
  rw[e]
  exact⟨nodup_map_inj (fun a b h=>by injection h),fun h=>List.Pairwise.of_map (fun n:Int=>[n]) (fun a b h e=>h (e▸rfl)) h⟩
 have hkg:∀k,k<l.length->ks.getD k default=(fun x=>[kf x]) (l.getD k default):=fun k hk=>by
  rw[hks]
  simp only[List.getD_eq_getElem?_getD,List.getElem?_map,List.getElem?_eq_getElem hk,Option.map_some,Option.getD_some]
 have hfit:∀k∈ks,(Ksh.one .i64).fits k:=fun k hk=>by
  rw[hks]at hk
  obtain⟨x,_,rfl⟩:=List.mem_map.1 hk
  exact rfl
 have kh:Kp _:=⟨hks⟩
 have kn:Kp _:=⟨hkn⟩
 clear hks hkn
 refine mix_rule hT (T:=tab) (N:=27) (rs:=[]) Tryz.func53 rfl rfl rfl Kr rfl ?_
 (refine gW ?_;intros)
 refine loop_rule hT (S:=Nat) (fun k=>([(0,.d (eCrss l)),(1,.d (.fn (.func f) [] [])),(4,.mp (.loc 0)),(8,.d (eCrss l)),(9,dV l.length),(10,dV k)],⟨[some (.map (Ksh.one .i64) (hasU ks k) fun key=>dV (cntU ks k key))],[]⟩)) (fun k=>k<=l.length) (fun k=>l.length-k) 0 ?_ ?_ ?_
 .repeat' (first|exact Tt|exact rfl|exact Nat.le_refl _|refine And.intro ?_ ?_)
  all_goals first
   |(intro key hf;exact⟨by simp[hasU],fun h=>(by cases h)⟩)
 .exact Nat.zero_le _
 .intro k hk
  dsimp only at hk⊢
  by_cases hk2:k<l.length
  .have hF:=hf _ (getD_mem hk2)
   have hz:=@cntU_no ks k ([kf (l.getD k default)])
   have hc:=cntU_le ks k ([kf (l.getD k default)])
   have kg:Kp _:=⟨hkg k hk2⟩
   clear hkg hf hfit
   (refine gW ?_;intros)
   refine hF.call ?_
   have hin:In .i64 ((cntU ks k ([kf (l.getD k default)]):Int)+1):=in64.2 Om
   repeat' (first|with_reducible refine Sq.go ?_|((with_reducible refine Ev.mk ?_);conv=>whnf)|with_reducible refine Dr.mk ⟨Kr,Kr⟩ ?_|with_reducible refine obG ?_|with_reducible refine Ob.mk ?_ ?_|(with_reducible first|refine brT fun h=>?_|refine brF fun h=>?_|refine Br.mk (fun h=>?_) fun h=>?_)<;>(try simp only[bsl,beq_iff_eq,bne_iff_ne,bs2]at h)<;>(try contradiction)<;>try (exfalso;omega))
   .intro h0
    simp only[hz h0]
    with_unfolding_all exact rfl
   refine⟨k+1,by show k+1<=l.length;omega,by show l.length-(k+1)<l.length-k;omega,?_⟩
   repeat' (first|exact Tt|exact rfl|exact Nat.le_refl _|refine And.intro ?_ ?_)
   all_goals first
    | (intro key hf
       have e1:=hasU_succ (show k<ks.length by omega) key
       have e2:=fun n hv=>cntU_succ (show k<ks.length by omega) key n hv
       rw[kg.h]at e1 e2
       exact⟨e1,fun _=>⟨e2 _ rfl,rfl⟩⟩)
  .have hall:∀key,hasU ks k key=decide (key∈ks):=fun key=>by rw[hasU,List.take_of_length_le Om]
   have hsub:∀qs:List (List Int),(∀key,key∈qs->(Ksh.one .i64).fits key/\hasU ks k key=true)->∀x,x∈qs->x∈ks:=fun qs h2 key h=>by
    have:=(h2 key h).2
    rw[hall]at this
    exact of_decide_eq_true this
   by_cases hn:ks.Nodup
   .have hb:decide (l.map kf).Nodup=true:=decide_eq_true (kn.h.2 hn)
    rw[hb]
    (refine gW ?_;intros)
    refine op_len_map hT rfl rfl rfl rfl fun qs h1 h2 h3=>?_
    have hlen:qs.length=l.length:=by
     rw[<-hkl]
     exact len_of_both h1 hn fun key=>⟨hsub qs h2 key,fun h=>h3 key (hfit key h) (by rw[hall];exact decide_eq_true h)⟩
    clear hall hkg hfit hf h1 h2 h3 hsub
    (refine gW ?_;intros)
    refine((demandM_ok _ 111).1 (by rw[hlen];simp)).call ?_
    (refine gW ?_;intros)
    exact⟨rfl,Tt⟩
   .have hb:decide (l.map kf).Nodup=false:=decide_eq_false fun h=>hn (kn.h.1 h)
    rw[hb]
    (refine gS ?_;intros)
    refine Sq.go ?_
    (refine gS ?_;intros)
    refine Sq.alt (Awp.pan hT 5 rfl rfl rfl Kr ?_)
    (refine gS ?_;intros)
    refine op_len_map hT rfl rfl rfl rfl fun qs h1 h2 h3=>?_
    have hlen:qs.length<l.length:=by
     rw[<-hkl]
     exact len_lt_of_dup h1 (hsub qs h2) hn
    clear hall hkg hfit hf h1 h2 h3 hsub
    (refine gS ?_;intros)
    refine Pan.vc ((demandM_ok _ 111).2 ?_) ⟨.d,.d,Tt⟩ (Ev.mk ⟨rfl,rfl⟩)
    exact decide_eq_false Om
theorem uniqMPrgS_ok (l:List Prg)(hl:l.length<=9223372036854775807)(f:FuncId)(kf:Prg->ByteArray)(hf:∀x∈l,Pure Tryz.prog f [.agg (ePrg x)] [.str (kf x)]):Mix Tryz.prog 55 [ePrgs l,.fn (.func f) [] []] (decide (l.map kf).Nodup) [] (chE 111):=by
 obtain⟨ks,hks⟩:∃ks:List (List Int),ks=l.map fun x=>bytesI (kf x):=⟨_,rfl⟩
 have hkl:ks.length=l.length:=by rw[hks,List.length_map]
 have hkn:(l.map kf).Nodup↔ks.Nodup:=by
  have e:ks=(l.map kf).map bytesI:=by rw[hks,List.map_map];rfl
  rw[e]
  exact⟨nodup_map_inj (fun a b=>bytesI_inj),fun h=>List.Pairwise.of_map bytesI (fun a b h e=>h (e▸rfl)) h⟩
 have hkg:∀k,k<l.length->ks.getD k default=(fun x=>bytesI (kf x)) (l.getD k default):=fun k hk=>by
  rw[hks]
  simp only[List.getD_eq_getElem?_getD,List.getElem?_map,List.getElem?_eq_getElem hk,Option.map_some,Option.getD_some]
 have hfit:∀k∈ks,Ksh.str.fits k:=fun k hk=>by
  rw[hks]at hk
  obtain⟨x,_,rfl⟩:=List.mem_map.1 hk
  exact bytesI_fits _
 have kh:Kp _:=⟨hks⟩
 have kn:Kp _:=⟨hkn⟩
 clear hks hkn
 refine mix_rule hT (T:=tab) (N:=27) (rs:=[]) Tryz.func55 rfl rfl rfl Kr rfl ?_
 (refine gW ?_;intros)
 refine loop_rule hT (S:=Nat) (fun k=>([(0,.d (ePrgs l)),(1,.d (.fn (.func f) [] [])),(4,.mp (.loc 0)),(8,.d (ePrgs l)),(9,dV l.length),(10,dV k)],⟨[some (.map Ksh.str (hasU ks k) fun key=>dV (cntU ks k key))],[]⟩)) (fun k=>k<=l.length) (fun k=>l.length-k) 0 ?_ ?_ ?_
 .repeat' (first|exact Tt|exact rfl|exact Nat.le_refl _|refine And.intro ?_ ?_)
  all_goals first
   |(intro key hf;exact⟨by simp[hasU],fun h=>(by cases h)⟩)
 .exact Nat.zero_le _
 .intro k hk
  dsimp only at hk⊢
  by_cases hk2:k<l.length
  .have hF:=hf _ (getD_mem hk2)
   have hz:=@cntU_no ks k (bytesI (kf (l.getD k default)))
   have hc:=cntU_le ks k (bytesI (kf (l.getD k default)))
   have kg:Kp _:=⟨hkg k hk2⟩
   clear hkg hf hfit
   (refine gW ?_;intros)
   refine hF.call ?_
   have hin:In .i64 ((cntU ks k (bytesI (kf (l.getD k default))):Int)+1):=in64.2 Om
   repeat' (first|with_reducible refine Sq.go ?_|((with_reducible refine Ev.mk ?_);conv=>whnf)|with_reducible refine Dr.mk ⟨Kr,Kr⟩ ?_|with_reducible refine obG ?_|with_reducible refine Ob.mk ?_ ?_|(with_reducible first|refine brT fun h=>?_|refine brF fun h=>?_|refine Br.mk (fun h=>?_) fun h=>?_)<;>(try simp only[bsl,beq_iff_eq,bne_iff_ne,bs2]at h)<;>(try contradiction)<;>try (exfalso;omega))
   .intro h0
    simp only[hz h0]
    with_unfolding_all exact rfl
   refine⟨k+1,by show k+1<=l.length;omega,by show l.length-(k+1)<l.length-k;omega,?_⟩
   repeat' (first|exact Tt|exact rfl|exact Nat.le_refl _|refine And.intro ?_ ?_)
   all_goals first
    | (intro key hf
       have e1:=hasU_succ (show k<ks.length by omega) key
       have e2:=fun n hv=>cntU_succ (show k<ks.length by omega) key n hv
       rw[kg.h]at e1 e2
       exact⟨e1,fun _=>⟨e2 _ rfl,rfl⟩⟩)
  .have hall:∀key,hasU ks k key=decide (key∈ks):=fun key=>by rw[hasU,List.take_of_length_le Om]
   have hsub:∀qs:List (List Int),(∀key,key∈qs->Ksh.str.fits key/\hasU ks k key=true)->∀x,x∈qs->x∈ks:=fun qs h2 key h=>by
    have:=(h2 key h).2
    rw[hall]at this
    exact of_decide_eq_true this
   by_cases hn:ks.Nodup
   .have hb:decide (l.map kf).Nodup=true:=decide_eq_true (kn.h.2 hn)
    rw[hb]
    (refine gW ?_;intros)
    refine op_len_map hT rfl rfl rfl rfl fun qs h1 h2 h3=>?_
    have hlen:qs.length=l.length:=by
     rw[<-hkl]
     exact len_of_both h1 hn fun key=>⟨hsub qs h2 key,fun h=>h3 key (hfit key h) (by rw[hall];exact decide_eq_true h)⟩
    clear hall hkg hfit hf h1 h2 h3 hsub
    (refine gW ?_;intros)
    refine((demandM_ok _ 111).1 (by rw[hlen];simp)).call ?_
    (refine gW ?_;intros)
    exact⟨rfl,Tt⟩
   .have hb:decide (l.map kf).Nodup=false:=decide_eq_false fun h=>hn (kn.h.1 h)
    rw[hb]
    (refine gS ?_;intros)
    refine Sq.go ?_
    (refine gS ?_;intros)
    refine Sq.alt (Awp.pan hT 5 rfl rfl rfl Kr ?_)
    (refine gS ?_;intros)
    refine op_len_map hT rfl rfl rfl rfl fun qs h1 h2 h3=>?_
    have hlen:qs.length<l.length:=by
     rw[<-hkl]
     exact len_lt_of_dup h1 (hsub qs h2) hn
    clear hall hkg hfit hf h1 h2 h3 hsub
    (refine gS ?_;intros)
    refine Pan.vc ((demandM_ok _ 111).2 ?_) ⟨.d,.d,Tt⟩ (Ev.mk ⟨rfl,rfl⟩)
    exact decide_eq_false Om
theorem uniqMPrgI_ok (l:List Prg)(hl:l.length<=9223372036854775807)(f:FuncId)(kf:Prg->Int)(hf:∀x∈l,Pure Tryz.prog f [.agg (ePrg x)] [di (kf x)]):Mix Tryz.prog 57 [ePrgs l,.fn (.func f) [] []] (decide (l.map kf).Nodup) [] (chE 111):=by
 obtain⟨ks,hks⟩:∃ks:List (List Int),ks=l.map fun x=>[kf x]:=⟨_,rfl⟩
 have hkl:ks.length=l.length:=by rw[hks,List.length_map]
 have hkn:(l.map kf).Nodup↔ks.Nodup:=by
  have e:ks=(l.map kf).map (fun n:Int=>[n]):=by rw[hks,List.map_map];rfl
  rw[e]
  exact⟨nodup_map_inj (fun a b h=>by injection h),fun h=>List.Pairwise.of_map (fun n:Int=>[n]) (fun a b h e=>h (e▸rfl)) h⟩
 have hkg:∀k,k<l.length->ks.getD k default=(fun x=>[kf x]) (l.getD k default):=fun k hk=>by
  rw[hks]
  simp only[List.getD_eq_getElem?_getD,List.getElem?_map,List.getElem?_eq_getElem hk,Option.map_some,Option.getD_some]
 have hfit:∀k∈ks,(Ksh.one .i64).fits k:=fun k hk=>by
  rw[hks]at hk
  obtain⟨x,_,rfl⟩:=List.mem_map.1 hk
  exact rfl
 have kh:Kp _:=⟨hks⟩
 have kn:Kp _:=⟨hkn⟩
 clear hks hkn
 refine mix_rule hT (T:=tab) (N:=27) (rs:=[]) Tryz.func57 rfl rfl rfl Kr rfl ?_
 (refine gW ?_;intros)
 refine loop_rule hT (S:=Nat) (fun k=>([(0,.d (ePrgs l)),(1,.d (.fn (.func f) [] [])),(4,.mp (.loc 0)),(8,.d (ePrgs l)),(9,dV l.length),(10,dV k)],⟨[some (.map (Ksh.one .i64) (hasU ks k) fun key=>dV (cntU ks k key))],[]⟩)) (fun k=>k<=l.length) (fun k=>l.length-k) 0 ?_ ?_ ?_
 .repeat' (first|exact Tt|exact rfl|exact Nat.le_refl _|refine And.intro ?_ ?_)
  all_goals first
   |(intro key hf;exact⟨by simp[hasU],fun h=>(by cases h)⟩)
 .exact Nat.zero_le _
 .intro k hk
  dsimp only at hk⊢
  by_cases hk2:k<l.length
  .have hF:=hf _ (getD_mem hk2)
   have hz:=@cntU_no ks k ([kf (l.getD k default)])
   have hc:=cntU_le ks k ([kf (l.getD k default)])
   have kg:Kp _:=⟨hkg k hk2⟩
   clear hkg hf hfit
   (refine gW ?_;intros)
   refine hF.call ?_
   have hin:In .i64 ((cntU ks k ([kf (l.getD k default)]):Int)+1):=in64.2 Om
   repeat' (first|with_reducible refine Sq.go ?_|((with_reducible refine Ev.mk ?_);conv=>whnf)|with_reducible refine Dr.mk ⟨Kr,Kr⟩ ?_|with_reducible refine obG ?_|with_reducible refine Ob.mk ?_ ?_|(with_reducible first|refine brT fun h=>?_|refine brF fun h=>?_|refine Br.mk (fun h=>?_) fun h=>?_)<;>(try simp only[bsl,beq_iff_eq,bne_iff_ne,bs2]at h)<;>(try contradiction)<;>try (exfalso;omega))
   .intro h0
    simp only[hz h0]
    with_unfolding_all exact rfl
   refine⟨k+1,by show k+1<=l.length;omega,by show l.length-(k+1)<l.length-k;omega,?_⟩
   repeat' (first|exact Tt|exact rfl|exact Nat.le_refl _|refine And.intro ?_ ?_)
   all_goals first
    | (intro key hf
       have e1:=hasU_succ (show k<ks.length by omega) key
       have e2:=fun n hv=>cntU_succ (show k<ks.length by omega) key n hv
       rw[kg.h]at e1 e2
       exact⟨e1,fun _=>⟨e2 _ rfl,rfl⟩⟩)
  .have hall:∀key,hasU ks k key=decide (key∈ks):=fun key=>by rw[hasU,List.take_of_length_le Om]
   have hsub:∀qs:List (List Int),(∀key,key∈qs->(Ksh.one .i64).fits key/\hasU ks k key=true)->∀x,x∈qs->x∈ks:=fun qs h2 key h=>by
    have:=(h2 key h).2
    rw[hall]at this
    exact of_decide_eq_true this
   by_cases hn:ks.Nodup
   .have hb:decide (l.map kf).Nodup=true:=decide_eq_true (kn.h.2 hn)
    rw[hb]
    (refine gW ?_;intros)
    refine op_len_map hT rfl rfl rfl rfl fun qs h1 h2 h3=>?_
    have hlen:qs.length=l.length:=by
     rw[<-hkl]
     exact len_of_both h1 hn fun key=>⟨hsub qs h2 key,fun h=>h3 key (hfit key h) (by rw[hall];exact decide_eq_true h)⟩
    clear hall hkg hfit hf h1 h2 h3 hsub
    (refine gW ?_;intros)
    refine((demandM_ok _ 111).1 (by rw[hlen];simp)).call ?_
    (refine gW ?_;intros)
    exact⟨rfl,Tt⟩
   .have hb:decide (l.map kf).Nodup=false:=decide_eq_false fun h=>hn (kn.h.1 h)
    rw[hb]
    (refine gS ?_;intros)
    refine Sq.go ?_
    (refine gS ?_;intros)
    refine Sq.alt (Awp.pan hT 5 rfl rfl rfl Kr ?_)
    (refine gS ?_;intros)
    refine op_len_map hT rfl rfl rfl rfl fun qs h1 h2 h3=>?_
    have hlen:qs.length<l.length:=by
     rw[<-hkl]
     exact len_lt_of_dup h1 (hsub qs h2) hn
    clear hall hkg hfit hf h1 h2 h3 hsub
    (refine gS ?_;intros)
    refine Pan.vc ((demandM_ok _ 111).2 ?_) ⟨.d,.d,Tt⟩ (Ev.mk ⟨rfl,rfl⟩)
    exact decide_eq_false Om
theorem uniqMClsS_ok (l:List Cls)(hl:l.length<=9223372036854775807)(f:FuncId)(kf:Cls->ByteArray)(hf:∀x∈l,Pure Tryz.prog f [.agg (eCls x)] [.str (kf x)]):Mix Tryz.prog 61 [eClss l,.fn (.func f) [] []] (decide (l.map kf).Nodup) [] (chE 111):=by
 obtain⟨ks,hks⟩:∃ks:List (List Int),ks=l.map fun x=>bytesI (kf x):=⟨_,rfl⟩
 have hkl:ks.length=l.length:=by rw[hks,List.length_map]
 have hkn:(l.map kf).Nodup↔ks.Nodup:=by
  have e:ks=(l.map kf).map bytesI:=by rw[hks,List.map_map];rfl
  rw[e]
  exact⟨nodup_map_inj (fun a b=>bytesI_inj),fun h=>List.Pairwise.of_map bytesI (fun a b h e=>h (e▸rfl)) h⟩
 have hkg:∀k,k<l.length->ks.getD k default=(fun x=>bytesI (kf x)) (l.getD k default):=fun k hk=>by
  rw[hks]
  simp only[List.getD_eq_getElem?_getD,List.getElem?_map,List.getElem?_eq_getElem hk,Option.map_some,Option.getD_some]
 have hfit:∀k∈ks,Ksh.str.fits k:=fun k hk=>by
  rw[hks]at hk
  obtain⟨x,_,rfl⟩:=List.mem_map.1 hk
  exact bytesI_fits _
 have kh:Kp _:=⟨hks⟩
 have kn:Kp _:=⟨hkn⟩
 clear hks hkn
 refine mix_rule hT (T:=tab) (N:=27) (rs:=[]) Tryz.func61 rfl rfl rfl Kr rfl ?_
 (refine gW ?_;intros)
 refine loop_rule hT (S:=Nat) (fun k=>([(0,.d (eClss l)),(1,.d (.fn (.func f) [] [])),(4,.mp (.loc 0)),(8,.d (eClss l)),(9,dV l.length),(10,dV k)],⟨[some (.map Ksh.str (hasU ks k) fun key=>dV (cntU ks k key))],[]⟩)) (fun k=>k<=l.length) (fun k=>l.length-k) 0 ?_ ?_ ?_
 .repeat' (first|exact Tt|exact rfl|exact Nat.le_refl _|refine And.intro ?_ ?_)
  all_goals first
   |(intro key hf;exact⟨by simp[hasU],fun h=>(by cases h)⟩)
 .exact Nat.zero_le _
 .intro k hk
  dsimp only at hk⊢
  by_cases hk2:k<l.length
  .have hF:=hf _ (getD_mem hk2)
   have hz:=@cntU_no ks k (bytesI (kf (l.getD k default)))
   have hc:=cntU_le ks k (bytesI (kf (l.getD k default)))
   have kg:Kp _:=⟨hkg k hk2⟩
   clear hkg hf hfit
   (refine gW ?_;intros)
   refine hF.call ?_
   have hin:In .i64 ((cntU ks k (bytesI (kf (l.getD k default))):Int)+1):=in64.2 Om
   repeat' (first|with_reducible refine Sq.go ?_|((with_reducible refine Ev.mk ?_);conv=>whnf)|with_reducible refine Dr.mk ⟨Kr,Kr⟩ ?_|with_reducible refine obG ?_|with_reducible refine Ob.mk ?_ ?_|(with_reducible first|refine brT fun h=>?_|refine brF fun h=>?_|refine Br.mk (fun h=>?_) fun h=>?_)<;>(try simp only[bsl,beq_iff_eq,bne_iff_ne,bs2]at h)<;>(try contradiction)<;>try (exfalso;omega))
   .intro h0
    simp only[hz h0]
    with_unfolding_all exact rfl
   refine⟨k+1,by show k+1<=l.length;omega,by show l.length-(k+1)<l.length-k;omega,?_⟩
   repeat' (first|exact Tt|exact rfl|exact Nat.le_refl _|refine And.intro ?_ ?_)
   all_goals first
    | (intro key hf
       have e1:=hasU_succ (show k<ks.length by omega) key
       have e2:=fun n hv=>cntU_succ (show k<ks.length by omega) key n hv
       rw[kg.h]at e1 e2
       exact⟨e1,fun _=>⟨e2 _ rfl,rfl⟩⟩)
  .have hall:∀key,hasU ks k key=decide (key∈ks):=fun key=>by rw[hasU,List.take_of_length_le Om]
   have hsub:∀qs:List (List Int),(∀key,key∈qs->Ksh.str.fits key/\hasU ks k key=true)->∀x,x∈qs->x∈ks:=fun qs h2 key h=>by
    have:=(h2 key h).2
    rw[hall]at this
    exact of_decide_eq_true this
   by_cases hn:ks.Nodup
   .have hb:decide (l.map kf).Nodup=true:=decide_eq_true (kn.h.2 hn)
    rw[hb]
    (refine gW ?_;intros)
    refine op_len_map hT rfl rfl rfl rfl fun qs h1 h2 h3=>?_
    have hlen:qs.length=l.length:=by
     rw[<-hkl]
     exact len_of_both h1 hn fun key=>⟨hsub qs h2 key,fun h=>h3 key (hfit key h) (by rw[hall];exact decide_eq_true h)⟩
    clear hall hkg hfit hf h1 h2 h3 hsub
    (refine gW ?_;intros)
    refine((demandM_ok _ 111).1 (by rw[hlen];simp)).call ?_
    (refine gW ?_;intros)
    exact⟨rfl,Tt⟩
   .have hb:decide (l.map kf).Nodup=false:=decide_eq_false fun h=>hn (kn.h.1 h)
    rw[hb]
    (refine gS ?_;intros)
    refine Sq.go ?_
    (refine gS ?_;intros)
    refine Sq.alt (Awp.pan hT 5 rfl rfl rfl Kr ?_)
    (refine gS ?_;intros)
    refine op_len_map hT rfl rfl rfl rfl fun qs h1 h2 h3=>?_
    have hlen:qs.length<l.length:=by
     rw[<-hkl]
     exact len_lt_of_dup h1 (hsub qs h2) hn
    clear hall hkg hfit hf h1 h2 h3 hsub
    (refine gS ?_;intros)
    refine Pan.vc ((demandM_ok _ 111).2 ?_) ⟨.d,.d,Tt⟩ (Ev.mk ⟨rfl,rfl⟩)
    exact decide_eq_false Om
theorem uniqMFeeS_ok (l:List Fee)(hl:l.length<=9223372036854775807)(f:FuncId)(kf:Fee->ByteArray)(hf:∀x∈l,Pure Tryz.prog f [.agg (eFee x)] [.str (kf x)]):Mix Tryz.prog 63 [eFees l,.fn (.func f) [] []] (decide (l.map kf).Nodup) [] (chE 111):=by
 obtain⟨ks,hks⟩:∃ks:List (List Int),ks=l.map fun x=>bytesI (kf x):=⟨_,rfl⟩
 have hkl:ks.length=l.length:=by rw[hks,List.length_map]
 have hkn:(l.map kf).Nodup↔ks.Nodup:=by
  have e:ks=(l.map kf).map bytesI:=by rw[hks,List.map_map];rfl
  rw[e]
  exact⟨nodup_map_inj (fun a b=>bytesI_inj),fun h=>List.Pairwise.of_map bytesI (fun a b h e=>h (e▸rfl)) h⟩
 have hkg:∀k,k<l.length->ks.getD k default=(fun x=>bytesI (kf x)) (l.getD k default):=fun k hk=>by
  rw[hks]
  simp only[List.getD_eq_getElem?_getD,List.getElem?_map,List.getElem?_eq_getElem hk,Option.map_some,Option.getD_some]
 have hfit:∀k∈ks,Ksh.str.fits k:=fun k hk=>by
  rw[hks]at hk
  obtain⟨x,_,rfl⟩:=List.mem_map.1 hk
  exact bytesI_fits _
 have kh:Kp _:=⟨hks⟩
 have kn:Kp _:=⟨hkn⟩
 clear hks hkn
 refine mix_rule hT (T:=tab) (N:=27) (rs:=[]) Tryz.func63 rfl rfl rfl Kr rfl ?_
 (refine gW ?_;intros)
 refine loop_rule hT (S:=Nat) (fun k=>([(0,.d (eFees l)),(1,.d (.fn (.func f) [] [])),(4,.mp (.loc 0)),(8,.d (eFees l)),(9,dV l.length),(10,dV k)],⟨[some (.map Ksh.str (hasU ks k) fun key=>dV (cntU ks k key))],[]⟩)) (fun k=>k<=l.length) (fun k=>l.length-k) 0 ?_ ?_ ?_
 .repeat' (first|exact Tt|exact rfl|exact Nat.le_refl _|refine And.intro ?_ ?_)
  all_goals first
   |(intro key hf;exact⟨by simp[hasU],fun h=>(by cases h)⟩)
 .exact Nat.zero_le _
 .intro k hk
  dsimp only at hk⊢
  by_cases hk2:k<l.length
  .have hF:=hf _ (getD_mem hk2)
   have hz:=@cntU_no ks k (bytesI (kf (l.getD k default)))
   have hc:=cntU_le ks k (bytesI (kf (l.getD k default)))
   have kg:Kp _:=⟨hkg k hk2⟩
   clear hkg hf hfit
   (refine gW ?_;intros)
   refine hF.call ?_
   have hin:In .i64 ((cntU ks k (bytesI (kf (l.getD k default))):Int)+1):=in64.2 Om
   repeat' (first|with_reducible refine Sq.go ?_|((with_reducible refine Ev.mk ?_);conv=>whnf)|with_reducible refine Dr.mk ⟨Kr,Kr⟩ ?_|with_reducible refine obG ?_|with_reducible refine Ob.mk ?_ ?_|(with_reducible first|refine brT fun h=>?_|refine brF fun h=>?_|refine Br.mk (fun h=>?_) fun h=>?_)<;>(try simp only[bsl,beq_iff_eq,bne_iff_ne,bs2]at h)<;>(try contradiction)<;>try (exfalso;omega))
   .intro h0
    simp only[hz h0]
    with_unfolding_all exact rfl
   refine⟨k+1,by show k+1<=l.length;omega,by show l.length-(k+1)<l.length-k;omega,?_⟩
   repeat' (first|exact Tt|exact rfl|exact Nat.le_refl _|refine And.intro ?_ ?_)
   all_goals first
    | (intro key hf
       have e1:=hasU_succ (show k<ks.length by omega) key
       have e2:=fun n hv=>cntU_succ (show k<ks.length by omega) key n hv
       rw[kg.h]at e1 e2
       exact⟨e1,fun _=>⟨e2 _ rfl,rfl⟩⟩)
  .have hall:∀key,hasU ks k key=decide (key∈ks):=fun key=>by rw[hasU,List.take_of_length_le Om]
   have hsub:∀qs:List (List Int),(∀key,key∈qs->Ksh.str.fits key/\hasU ks k key=true)->∀x,x∈qs->x∈ks:=fun qs h2 key h=>by
    have:=(h2 key h).2
    rw[hall]at this
    exact of_decide_eq_true this
   by_cases hn:ks.Nodup
   .have hb:decide (l.map kf).Nodup=true:=decide_eq_true (kn.h.2 hn)
    rw[hb]
    (refine gW ?_;intros)
    refine op_len_map hT rfl rfl rfl rfl fun qs h1 h2 h3=>?_
    have hlen:qs.length=l.length:=by
     rw[<-hkl]
     exact len_of_both h1 hn fun key=>⟨hsub qs h2 key,fun h=>h3 key (hfit key h) (by rw[hall];exact decide_eq_true h)⟩
    clear hall hkg hfit hf h1 h2 h3 hsub
    (refine gW ?_;intros)
    refine((demandM_ok _ 111).1 (by rw[hlen];simp)).call ?_
    (refine gW ?_;intros)
    exact⟨rfl,Tt⟩
   .have hb:decide (l.map kf).Nodup=false:=decide_eq_false fun h=>hn (kn.h.1 h)
    rw[hb]
    (refine gS ?_;intros)
    refine Sq.go ?_
    (refine gS ?_;intros)
    refine Sq.alt (Awp.pan hT 5 rfl rfl rfl Kr ?_)
    (refine gS ?_;intros)
    refine op_len_map hT rfl rfl rfl rfl fun qs h1 h2 h3=>?_
    have hlen:qs.length<l.length:=by
     rw[<-hkl]
     exact len_lt_of_dup h1 (hsub qs h2) hn
    clear hall hkg hfit hf h1 h2 h3 hsub
    (refine gS ?_;intros)
    refine Pan.vc ((demandM_ok _ 111).2 ?_) ⟨.d,.d,Tt⟩ (Ev.mk ⟨rfl,rfl⟩)
    exact decide_eq_false Om
theorem uniqMReqS_ok (l:List Req)(hl:l.length<=9223372036854775807)(f:FuncId)(kf:Req->ByteArray)(hf:∀x∈l,Pure Tryz.prog f [.agg (eReq x)] [.str (kf x)]):Mix Tryz.prog 59 [eReqs l,.fn (.func f) [] []] (decide (l.map kf).Nodup) [] (chE 111):=by
 obtain⟨ks,hks⟩:∃ks:List (List Int),ks=l.map fun x=>bytesI (kf x):=⟨_,rfl⟩
 have hkl:ks.length=l.length:=by rw[hks,List.length_map]
 have hkn:(l.map kf).Nodup↔ks.Nodup:=by
  have e:ks=(l.map kf).map bytesI:=by rw[hks,List.map_map];rfl
  rw[e]
  exact⟨nodup_map_inj (fun a b=>bytesI_inj),fun h=>List.Pairwise.of_map bytesI (fun a b h e=>h (e▸rfl)) h⟩
 have hkg:∀k,k<l.length->ks.getD k default=(fun x=>bytesI (kf x)) (l.getD k default):=fun k hk=>by
  rw[hks]
  simp only[List.getD_eq_getElem?_getD,List.getElem?_map,List.getElem?_eq_getElem hk,Option.map_some,Option.getD_some]
 have hfit:∀k∈ks,Ksh.str.fits k:=fun k hk=>by
  rw[hks]at hk
  obtain⟨x,_,rfl⟩:=List.mem_map.1 hk
  exact bytesI_fits _
 have kh:Kp _:=⟨hks⟩
 have kn:Kp _:=⟨hkn⟩
 clear hks hkn
 refine mix_rule hT (T:=tab) (N:=27) (rs:=[]) Tryz.func59 rfl rfl rfl Kr rfl ?_
 (refine gW ?_;intros)
 refine loop_rule hT (S:=Nat) (fun k=>([(0,.d (eReqs l)),(1,.d (.fn (.func f) [] [])),(4,.mp (.loc 0)),(8,.d (eReqs l)),(9,dV l.length),(10,dV k)],⟨[some (.map Ksh.str (hasU ks k) fun key=>dV (cntU ks k key))],[]⟩)) (fun k=>k<=l.length) (fun k=>l.length-k) 0 ?_ ?_ ?_
 .repeat' (first|exact Tt|exact rfl|exact Nat.le_refl _|refine And.intro ?_ ?_)
  all_goals first
   |(intro key hf;exact⟨by simp[hasU],fun h=>(by cases h)⟩)
 .exact Nat.zero_le _
 .intro k hk
  dsimp only at hk⊢
  by_cases hk2:k<l.length
  .have hF:=hf _ (getD_mem hk2)
   have hz:=@cntU_no ks k (bytesI (kf (l.getD k default)))
   have hc:=cntU_le ks k (bytesI (kf (l.getD k default)))
   have kg:Kp _:=⟨hkg k hk2⟩
   clear hkg hf hfit
   (refine gW ?_;intros)
   refine hF.call ?_
   have hin:In .i64 ((cntU ks k (bytesI (kf (l.getD k default))):Int)+1):=in64.2 Om
   repeat' (first|with_reducible refine Sq.go ?_|((with_reducible refine Ev.mk ?_);conv=>whnf)|with_reducible refine Dr.mk ⟨Kr,Kr⟩ ?_|with_reducible refine obG ?_|with_reducible refine Ob.mk ?_ ?_|(with_reducible first|refine brT fun h=>?_|refine brF fun h=>?_|refine Br.mk (fun h=>?_) fun h=>?_)<;>(try simp only[bsl,beq_iff_eq,bne_iff_ne,bs2]at h)<;>(try contradiction)<;>try (exfalso;omega))
   .intro h0
    simp only[hz h0]
    with_unfolding_all exact rfl
   refine⟨k+1,by show k+1<=l.length;omega,by show l.length-(k+1)<l.length-k;omega,?_⟩
   repeat' (first|exact Tt|exact rfl|exact Nat.le_refl _|refine And.intro ?_ ?_)
   all_goals first
    | (intro key hf
       have e1:=hasU_succ (show k<ks.length by omega) key
       have e2:=fun n hv=>cntU_succ (show k<ks.length by omega) key n hv
       rw[kg.h]at e1 e2
       exact⟨e1,fun _=>⟨e2 _ rfl,rfl⟩⟩)
  .have hall:∀key,hasU ks k key=decide (key∈ks):=fun key=>by rw[hasU,List.take_of_length_le Om]
   have hsub:∀qs:List (List Int),(∀key,key∈qs->Ksh.str.fits key/\hasU ks k key=true)->∀x,x∈qs->x∈ks:=fun qs h2 key h=>by
    have:=(h2 key h).2
    rw[hall]at this
    exact of_decide_eq_true this
   by_cases hn:ks.Nodup
   .have hb:decide (l.map kf).Nodup=true:=decide_eq_true (kn.h.2 hn)
    rw[hb]
    (refine gW ?_;intros)
    refine op_len_map hT rfl rfl rfl rfl fun qs h1 h2 h3=>?_
    have hlen:qs.length=l.length:=by
     rw[<-hkl]
     exact len_of_both h1 hn fun key=>⟨hsub qs h2 key,fun h=>h3 key (hfit key h) (by rw[hall];exact decide_eq_true h)⟩
    clear hall hkg hfit hf h1 h2 h3 hsub
    (refine gW ?_;intros)
    refine((demandM_ok _ 111).1 (by rw[hlen];simp)).call ?_
    (refine gW ?_;intros)
    exact⟨rfl,Tt⟩
   .have hb:decide (l.map kf).Nodup=false:=decide_eq_false fun h=>hn (kn.h.1 h)
    rw[hb]
    (refine gS ?_;intros)
    refine Sq.go ?_
    (refine gS ?_;intros)
    refine Sq.alt (Awp.pan hT 5 rfl rfl rfl Kr ?_)
    (refine gS ?_;intros)
    refine op_len_map hT rfl rfl rfl rfl fun qs h1 h2 h3=>?_
    have hlen:qs.length<l.length:=by
     rw[<-hkl]
     exact len_lt_of_dup h1 (hsub qs h2) hn
    clear hall hkg hfit hf h1 h2 h3 hsub
    (refine gS ?_;intros)
    refine Pan.vc ((demandM_ok _ 111).2 ?_) ⟨.d,.d,Tt⟩ (Ev.mk ⟨rfl,rfl⟩)
    exact decide_eq_false Om
end Go.Proofs.YtmlhghddfobmmaaGreatDoor
