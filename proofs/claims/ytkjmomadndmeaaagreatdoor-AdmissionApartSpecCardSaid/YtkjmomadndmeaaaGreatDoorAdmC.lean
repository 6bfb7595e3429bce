import Derived.Test.YtkjmomadndmeaaaGreatDoorAdmB
import Derived.Test.YtkjmomadndmeaaaGreatDoorRecG
namespace Go.Proofs.YtkjmomadndmeaaaGreatDoor
set_option linter.unusedSimpArgs false
set_option linter.unusedVariables false
open Go Go.Ab
set_option maxRecDepth 100000
set_option maxHeartbeats 0
def partsR (r:Rule):List Rule:=if r.op=1 then r.kids else[r]
def eRls (xs:List Rule):D:=.sl 6 xs.length fun i=>eRule (xs.getD i default)
theorem failing_ok (r:Rule)(s:Sit):Pure Tryz.prog 45 [.agg (eRule r),.agg (eSit s)] [.fn (.func 96) [] [.pt [eRls (partsR r)] 0,.pt (eSit s) 0]]:=by
 refine pure_ruleP hT (T:=tab) (N:=14) (rs:=[.tmp 4]) Tryz.func45 rfl rfl rfl Kr rfl ?_
 by_cases h1:r.op=1
 .have hp:partsR r=r.kids:=by rw[partsR,if_pos h1]
  rw[hp]
  have hk:DEq (eRules r.kids) (eRls r.kids):=by
   unfold eRls
   cases e:r.kids with
   |nil=>rw[eRules_nil];exact⟨rfl,rfl,fun i hi=>absurd hi (Nat.not_lt_zero i)⟩
   |cons a b=>rw[eRules_ne (by simp)];exact⟨rfl,rfl,fun i hi=>rfl⟩
  (refine gW ?_;intros)
  exact⟨BecP.fn' Tt ⟨BecP.ptr' rfl ⟨.eq hk,Tt⟩,BecP.ptr' rfl (BecL.up _),Tt⟩,Tt⟩
 .have hp:partsR r=[r]:=by rw[partsR,if_neg h1]
  rw[hp]
  (refine gW ?_;intros)
  exact⟨BecP.fn' Tt ⟨BecP.ptr' rfl ⟨BecP.rows rfl (Nat.le_refl _) (fun i hi=>by rw[show i=0 from Nat.lt_one_iff.1 hi];rfl),Tt⟩,BecP.ptr' rfl (BecL.up _),Tt⟩,Tt⟩
def failF (s:Sit)(ps:List Rule):Nat->List Int
 |0=>[]
 |k+1=>failF s ps k++(if valR s (ps.getD k default)=true then[] else[(k:Int)])
theorem failF_len (s:Sit)(ps:List Rule):∀k,(failF s ps k).length<=k
 |0=>Nat.le_refl _
 | k + 1=>by
   have:=failF_len s ps k
   rw[failF,List.length_append]
   split<;>simp<;>omega
theorem fail96_ok (rec:Loop)(y:Nat)(s:Sit)(hs:WfS s)(ps:List Rule)(hl:ps.length<=1000000)(hp:∀p∈ps,wfR p/\chkR p=0)(b:List Int)(hb:b.length<=1)
 (hy:∀ k,k < ps.length→valR s (ps.getD k default)=false→YieldVC Tryz.prog y [.d (.int .i64 k)] ⟨[],[some (.box 30 [.osl (.arg 1) (b ++ failF s ps k).length 0 (b ++ failF s ps k).length]),some (.vec 3 1 (b ++ failF s ps k).length (b ++ failF s ps k).length (rowsOf eI (b ++ failF s ps k))),some (.loop y rec [(12,.ptr (.arg 0) 0 0 0)])]⟩
  (Ret (fun _:Unit=>([.d (.bool true)],⟨[],[bX 30 [.osl (.arg 1) ((b++failF s ps k)++[(k:Int)]).length 0 ((b++failF s ps k)++[(k:Int)]).length],bV 3 1 ((b++failF s ps k)++[(k:Int)]).length ((b++failF s ps k)++[(k:Int)]).length (rowsOf eI ((b++failF s ps k)++[(k:Int)])),some (.loop y rec [(12,ap 0)])]⟩)) fun _=>True)) :
 CallVC Tryz.prog 96 [.fn (.yield y) [] [],.d (.pt [eRls ps] 0),.d (.pt (eSit s) 0)] ⟨[],[bX 30 [.osl (.arg 1) b.length 0 b.length],bV 3 1 b.length b.length (rowsOf eI b),some (.loop y rec [(12,ap 0)])]⟩
  (Ret (fun _:Unit=>([],⟨[],[bX 30 [.osl (.arg 1) (b++failF s ps ps.length).length 0 (b++failF s ps ps.length).length],bV 3 1 (b++failF s ps ps.length).length (b++failF s ps ps.length).length (rowsOf eI (b++failF s ps ps.length)),some (.loop y rec [(12,ap 0)])]⟩)) fun _=>True):=by
 refine call_rule hT (T:=tab) (N:=24) (rs:=[]) _ _ Tryz.func96 rfl rfl rfl Kr rfl ?_
 (refine gW ?_;intros)
 refine loop_rule hT (S:=Nat) (fun k=>([(0,.fn (.yield y) [] []),(2,.d (.pt (eSit s) 0)),(6,.d (eRls ps)),(7,dV ps.length),(8,dV k)],⟨[],[bX 30 [.osl (.arg 1) (b++failF s ps k).length 0 (b++failF s ps k).length],bV 3 1 (b++failF s ps k).length (b++failF s ps k).length (rowsOf eI (b++failF s ps k)),some (.loop y rec [(12,ap 0)])]⟩)) (fun k=>k<=ps.length) (fun k=>ps.length-k) 0 ?_ ?_ ?_
 .rw[show b++failF s ps 0=b by simp[failF]]
  exact lq
 .exact Nat.zero_le _
 .intro k hk
  dsimp only at hk⊢
  by_cases hk2:k<ps.length
  .obtain⟨p,hpk⟩:∃p,ps.getD k default=p:=⟨_,rfl⟩
   have hpw:=hp p (by rw[<-hpk];exact getD_mem hk2)
   have hN:=holds28_ok p hpw.1 hpw.2 s hs
   have hyk:=hy k hk2
   have hF:failF s ps (k+1)=failF s ps k++(if valR s p=true then[] else[(k:Int)]):=by rw[failF,hpk]
   rw[hpk]at hyk
   clear hp hy
   cases hv:valR s p
   .rw[hv]at hN
    have hyk:=hyk hv
    rw[hv,if_neg Dc,]at hF
    have kF:Kp (b++failF s ps (k+1)=b++failF s ps k++[(k:Int)]):=⟨by rw[hF,List.append_assoc]⟩
    clear hF
    (refine gS ?_;intros)
    refine Sq.go ?_;(refine gS ?_;intros)
    refine Sq.go ?_;(refine gS ?_;intros)
    simp(config:={beta:=false,eta:=false,iota:=false,proj:=false,zeta:=false,decide:=false}) only[Int.toNat_natCast,hpk]
    (refine gW ?_;intros)
    refine hN.call ?_
    (refine gW ?_;intros)
    refine hyk.at [.arg 0,.arg 1,.arg 2] rfl ⟨rfl,rfl,rfl,Tt⟩ (fun s' hs'=>⟨rfl,?_⟩)
    (refine gW ?_;intros)
    refine⟨k+1,by show k+1<=ps.length;omega,by show ps.length-(k+1)<ps.length-k;omega,?_⟩
    dsimp only
    rw[kF.h]
    exact lq
   .rw[hv]at hN
    rw[hv,if_pos rfl,List.append_nil]at hF
    have kF:Kp _:=⟨hF⟩
    clear hF hyk
    (refine gS ?_;intros)
    refine Sq.go ?_;(refine gS ?_;intros)
    refine Sq.go ?_;(refine gS ?_;intros)
    simp(config:={beta:=false,eta:=false,iota:=false,proj:=false,zeta:=false,decide:=false}) only[Int.toNat_natCast,hpk]
    (refine gW ?_;intros)
    refine hN.call ?_
    (refine gW ?_;intros)
    refine⟨k+1,by show k+1<=ps.length;omega,by show ps.length-(k+1)<ps.length-k;omega,?_⟩
    dsimp only
    rw[kF.h]
    exact lq
  .obtain rfl:k=ps.length:=by omega
   (refine gW ?_;intros)
   refine⟨(),Tt,?_,rfl⟩
   exact lq
def whyL (w:Wor)(s c t kn:Int)(nw:List Int):List Int :=
 (if valR (sitV w s t kn nw) (crsD w c t kn).bar=true then[-1] else[])++failF (sitV w s t kn nw) (partsR (crsD w c t kn).need) (partsR (crsD w c t kn).need).length
theorem why_bad (w:Wor)(s c t kn:Int)(nw:List Int)(hl:nw.length<=1000000)(h:askedB s c t nw=false) :
 Pure Tryz.prog 13 [.agg (eWor w),di s,di c,di t,di kn,eInts nw] [eInts [],di 280]:=by
 have hA:=admit_bad w s c t kn nw hl h
 refine pure_ruleC hT (T:=tab) (N:=72) (rs:=[.cell 12 30,.tmp 13]) Tryz.func13 rfl rfl rfl Kr rfl ?_
 (refine gW ?_;intros)
 refine hA.call ?_
 (refine gW ?_;intros)
 exact⟨BecP.eq rfl,BecP.d,Tt⟩
theorem why_none (w:Wor)(hw:WfW w)(s c t kn:Int)(nw:List Int)(h:(crsOf w c t kn).isSome=false)
 (hA:Pure Tryz.prog 11 [.agg (eWor w),di s,di c,di t,di kn,eInts nw] [.agg (eDec (admV w s c t kn nw)),di 0]) :
 Pure Tryz.prog 13 [.agg (eWor w),di s,di c,di t,di kn,eInts nw] [eInts [],di 280]:=by
 have hC:=bcourse_ok w hw c t kn
 rw[h]at hC
 generalize (crsOf w c t kn).getD default=oo at hC
 refine pure_ruleC hT (T:=tab) (N:=72) (rs:=[.cell 12 30,.tmp 13]) Tryz.func13 rfl rfl rfl Kr rfl ?_
 (refine gW ?_;intros)
 refine hA.call ?_
 (refine gW ?_;intros)
 refine hC.call ?_
 (refine gW ?_;intros)
 exact⟨BecP.eq rfl,BecP.d,Tt⟩
theorem why_ok (w:Wor)(hw:WfW w)(hl:w.fcts.length<=50)(s c t kn:Int)(nw:List Int)(x:Crs)(hx:crsOf w c t kn=some x)
 (hA:Pure Tryz.prog 11 [.agg (eWor w),di s,di c,di t,di kn,eInts nw] [.agg (eDec (admV w s c t kn nw)),di 0])
 (hS:Pure Tryz.prog 20 [.agg (eWor w),di s,di t,di kn,eInts nw] [.agg (eSit (sitV w s t kn nw)),eReds (sitR w s t kn),di 0]) :
 Pure Tryz.prog 13 [.agg (eWor w),di s,di c,di t,di kn,eInts nw] [eInts (whyL w s c t kn nw),di 0]:=by
 have hC:=bcourse_ok w hw c t kn
 obtain⟨w1,w2,c1,c2⟩:=crs_some hw hx
 have hWS:=sitV_wf (w:=w) Om s t kn nw
 have hwl:whyL w s c t kn nw=(if valR (sitV w s t kn nw) x.bar=true then[-1] else[])++failF (sitV w s t kn nw) (partsR x.need) (partsR x.need).length:=by
  unfold whyL crsD
  rw[hx]
  rfl
 rw[hwl]
 rw[hx]at hC
 rw[show(some x).isSome=true from rfl,show(some x).getD default=x from rfl]at hC
 have hB:=holds28_ok x.bar w2 c2 _ hWS
 have hF:=failing_ok x.need (sitV w s t kn nw)
 have hpp:∀p∈partsR x.need,wfR p/\chkR p=0:=fun p hp=>by
  unfold partsR at hp
  split at hp
  .exact⟨(wfR_kids w1).2 p hp,chkR_kid c1 hp⟩
  .rw[List.mem_singleton]at hp
   subst hp
   exact⟨w1,c1⟩
 have hpl:(partsR x.need).length<=1000000:=by
  unfold partsR
  split
  .have:=(chkR_top c1).2
   omega
  .simp
 clear hwl hx
 generalize sitV w s t kn nw=st at hS hWS hB hF⊢
 generalize partsR x.need=ps at hF hpp hpl⊢
 generalize sitR w s t kn=rr at hS
 generalize admV w s c t kn nw=dd at hA
 generalize readsT ⟨1,c,0⟩ t=r2 at hC
 cases hb:valR st x.bar
 .rw[hb]at hB
  rw[if_neg Dc]
  refine pure_ruleC hT (T:=tab) (N:=72) (rs:=[.cell 12 30,.tmp 13]) Tryz.func13 rfl rfl rfl Kr rfl ?_
  (refine gS ?_;intros)
  refine Sq.alt (Awp.vecBox (.loc 1) 30 3 1 (rowsOf eI []) rfl (vc_ok hT _ _ _ _ (Ev.o ?_)))
  (refine gW ?_;intros)
  refine hA.call ?_
  (refine gW ?_;intros)
  refine hC.call ?_
  (refine gW ?_;intros)
  refine hS.call ?_
  (refine gW ?_;intros)
  refine hB.call ?_
  (refine gW ?_;intros)
  refine hF.call ?_
  (refine gW ?_;intros)
  refine Awp.le (env':=[(12,lp 1),(65,.d (.fn (.func 96) [] [.pt [eRls ps] 0,.pt (eSit st) 0]))]) (m':=⟨[none,bX 30 [.osl (.loc 2) (([]:List Int)).length 0 (([]:List Int)).length],bV 3 1 (([]:List Int)).length (([]:List Int)).length (rowsOf eI ([]:List Int))],[]⟩) ?_ ?_
  .exact lq
  refine Awp.range (caps:=[.d (.pt [eRls ps] 0),.d (.pt (eSit st) 0)]) [(12,lp 1)] (.inr ⟨[.pt [eRls ps] 0,.pt (eSit st) 0],rfl,rfl⟩) (nl:=3) (na:=0) ⟨⟨rfl,rfl⟩,Tt⟩ ?_
  intro y rec h1 h2 h3 h4 h5 h6
  refine(fail96_ok rec y st hWS ps hpl hpp ([]:List Int) Dc ?_).at [.loc 1,.loc 2,.loc 3] rfl ⟨rfl,rfl,rfl,Tt⟩ (fun _ _=>⟨rfl,?_⟩)
  .intro k hk hv
   have hfl:=failF_len st ps k
   obtain⟨l,hll⟩:∃l,([]:List Int)++failF st ps k=l:=⟨_,rfl⟩
   have hlen:l.length<=1000001:=by
    rw[<-hll,List.length_append]
    have:(([]:List Int)).length<=1:=by decide
    omega
   rw[hll]
   clear hll hfl
   refine yieldMono (yield_rule (N:=72) (ps:=[66]) (args:=[dV k])
    (bs:=[bX 30 [.osl (.arg 1) l.length 0 l.length],bV 3 1 l.length l.length (rowsOf eI l)]) (env0:=[(12,ap 0)])
    (fun _:Unit=>[bX 30 [.osl (.arg 1) (l++[(k:Int)]).length 0 (l++[(k:Int)]).length],bV 3 1 (l++[(k:Int)]).length (l++[(k:Int)]).length (rowsOf eI (l++[(k:Int)]))]) (fun _=>none) (fun _=>True) h1 h3 h4 h5 h6 rfl (by simp) ?_ rfl rfl ?_) ?_
   .exact lq
   .clear h5 h6
    refine Awp.of_vc hT ?_
    (refine gW ?_;intros)
    refine Awp.of_vc hT ?_
    (refine gW ?_;intros)
    refine⟨(),Tt,rfl,rfl,?_⟩
    dsimp only
    rw[len_snoc]
    exact lq
   .rintro A m' ⟨_,_,rfl,rfl⟩
    refine⟨(),Tt,rfl,?_⟩
    show(⟨[],[some _,some _,some (.loop y (after rec none) _)]⟩:Mem)=_
    rw[after_none h1 h2]
  .clear h5 h6
   (refine gW ?_;intros)
   refine⟨none,by rw[after_none h1 h2];rfl,?_⟩
   show Sq _ _
   (refine gW ?_;intros)
   exact⟨BecP.rows rfl (Nat.le_of_eq (Nat.zero_add _)) (fun i hi=>by rw[Nat.zero_add];rfl),.d,Tt⟩
 .rw[hb]at hB
  rw[if_pos rfl]
  refine pure_ruleC hT (T:=tab) (N:=72) (rs:=[.cell 12 30,.tmp 13]) Tryz.func13 rfl rfl rfl Kr rfl ?_
  (refine gS ?_;intros)
  refine Sq.alt (Awp.vecBox (.loc 1) 30 3 1 (rowsOf eI []) rfl (vc_ok hT _ _ _ _ (Ev.o ?_)))
  (refine gW ?_;intros)
  refine hA.call ?_
  (refine gW ?_;intros)
  refine hC.call ?_
  (refine gW ?_;intros)
  refine hS.call ?_
  (refine gW ?_;intros)
  refine hB.call ?_
  (refine gW ?_;intros)
  refine hF.call ?_
  (refine gW ?_;intros)
  refine Awp.le (env':=[(12,lp 1),(65,.d (.fn (.func 96) [] [.pt [eRls ps] 0,.pt (eSit st) 0]))]) (m':=⟨[none,bX 30 [.osl (.loc 2) (([-1]:List Int)).length 0 (([-1]:List Int)).length],bV 3 1 (([-1]:List Int)).length (([-1]:List Int)).length (rowsOf eI ([-1]:List Int))],[]⟩) ?_ ?_
  .exact lq
  refine Awp.range (caps:=[.d (.pt [eRls ps] 0),.d (.pt (eSit st) 0)]) [(12,lp 1)] (.inr ⟨[.pt [eRls ps] 0,.pt (eSit st) 0],rfl,rfl⟩) (nl:=3) (na:=0) ⟨⟨rfl,rfl⟩,Tt⟩ ?_
  intro y rec h1 h2 h3 h4 h5 h6
  refine(fail96_ok rec y st hWS ps hpl hpp ([-1]:List Int) Dc ?_).at [.loc 1,.loc 2,.loc 3] rfl ⟨rfl,rfl,rfl,Tt⟩ (fun _ _=>⟨rfl,?_⟩)
  .intro k hk hv
   have hfl:=failF_len st ps k
   obtain⟨l,hll⟩:∃l,([-1]:List Int)++failF st ps k=l:=⟨_,rfl⟩
   have hlen:l.length<=1000001:=by
    rw[<-hll,List.length_append]
    have:(([-1]:List Int)).length<=1:=by decide
    omega
   rw[hll]
   clear hll hfl
   refine yieldMono (yield_rule (N:=72) (ps:=[66]) (args:=[dV k])
    (bs:=[bX 30 [.osl (.arg 1) l.length 0 l.length],bV 3 1 l.length l.length (rowsOf eI l)]) (env0:=[(12,ap 0)])
    (fun _:Unit=>[bX 30 [.osl (.arg 1) (l++[(k:Int)]).length 0 (l++[(k:Int)]).length],bV 3 1 (l++[(k:Int)]).length (l++[(k:Int)]).length (rowsOf eI (l++[(k:Int)]))]) (fun _=>none) (fun _=>True) h1 h3 h4 h5 h6 rfl (by simp) ?_ rfl rfl ?_) ?_
   .exact lq
   .clear h5 h6
    refine Awp.of_vc hT ?_
    (refine gW ?_;intros)
    refine Awp.of_vc hT ?_
    (refine gW ?_;intros)
    refine⟨(),Tt,rfl,rfl,?_⟩
    dsimp only
    rw[len_snoc]
    exact lq
   .rintro A m' ⟨_,_,rfl,rfl⟩
    refine⟨(),Tt,rfl,?_⟩
    show(⟨[],[some _,some _,some (.loop y (after rec none) _)]⟩:Mem)=_
    rw[after_none h1 h2]
  .clear h5 h6
   (refine gW ?_;intros)
   refine⟨none,by rw[after_none h1 h2];rfl,?_⟩
   show Sq _ _
   (refine gW ?_;intros)
   exact⟨BecP.rows rfl (Nat.le_of_eq (Nat.zero_add _)) (fun i hi=>by rw[Nat.zero_add];rfl),.d,Tt⟩
theorem sitR_len {w:Wor}(hl:w.fcts.length<=50)(s t kn:Int):(sitR w s t kn).length<=500000:=by
 have h1:=nums_len w kn
 have h2:=zK_len w s t kn _ (Nat.le_refl _)
 rw[zK_all]at h2
 have h3:=rdC_len (recA w s t kn) t _ (Nat.le_refl _)
 have h4:=recA_len w s t kn
 have h5:=eqK_len w hl t kn _ (Nat.le_refl _)
 rw[sitR_eq,List.length_append,List.length_append,List.length_append]
 have:([rdK ⟨12,0,0⟩ 0]:List Red).length=1:=rfl
 omega
theorem asked_at {s c t:Int}{nw:List Int}(h:askedB s c t nw=true):bw s 0 19999=true/\bw t 0 1023=true/\nowB (-1) nw=true:=by
 simp only[askedB,Bool.and_eq_true]at h
 exact⟨h.2.1,h.2.2.2,h.1⟩
structure Few28 (w:Wor)(nw:List Int):Prop where
 wf:WfW w
 len:w.fcts.length<=50
 val:∀f∈w.fcts,f.value<=9223372036854775807
 now:nw.length<=10
section
variable {w:Wor}{nw:List Int}(h:Few28 w nw)
include h
theorem Few28.sit (s t kn:Int)(hs:bw s 0 19999=true)(ht:bw t 0 1023=true)(hn:nowB (-1) nw=true):Pure Tryz.prog 20 [.agg (eWor w),di s,di t,di kn,eInts nw] [.agg (eSit (sitV w s t kn nw)),eReds (sitR w s t kn),di 0] :=
 situate_ok w h.wf h.len h.val s t kn nw (by have:=h.now;omega) hs ht hn
theorem Few28.adm (s c t kn:Int)(ha:askedB s c t nw=true):Pure Tryz.prog 11 [.agg (eWor w),di s,di c,di t,di kn,eInts nw] [.agg (eDec (admV w s c t kn nw)),di 0]:=by
 obtain⟨h1,h2,h3⟩:=asked_at ha
 exact admit_ok w h.wf h.len s c t kn nw (by have:=h.now;omega) ha (h.sit s t kn h1 h2 h3) (sitR_len h.len s t kn)
theorem Few28.admN (s c t kn:Int)(ha:askedB s c t nw=false):Pure Tryz.prog 11 [.agg (eWor w),di s,di c,di t,di kn,eInts nw] [.agg zDec,di 280] :=
 admit_bad w s c t kn nw (by have:=h.now;omega) ha
theorem Few28.why (s c t kn:Int)(ha:askedB s c t nw=true)(x:Crs)(hx:crsOf w c t kn=some x):Pure Tryz.prog 13 [.agg (eWor w),di s,di c,di t,di kn,eInts nw] [eInts (whyL w s c t kn nw),di 0]:=by
 obtain⟨h1,h2,h3⟩:=asked_at ha
 exact why_ok w h.wf h.len s c t kn nw x hx (h.adm s c t kn ha) (h.sit s t kn h1 h2 h3)
theorem Few28.whyN (s c t kn:Int)(ha:(askedB s c t nw&&(crsOf w c t kn).isSome)=false):Pure Tryz.prog 13 [.agg (eWor w),di s,di c,di t,di kn,eInts nw] [eInts [],di 280]:=by
 cases h1:askedB s c t nw
 .exact why_bad w s c t kn nw (by have:=h.now;omega) h1
 .rw[h1,Bool.true_and]at ha
  exact why_none w h.wf s c t kn nw ha (h.adm s c t kn h1)
end
end Go.Proofs.YtkjmomadndmeaaaGreatDoor
