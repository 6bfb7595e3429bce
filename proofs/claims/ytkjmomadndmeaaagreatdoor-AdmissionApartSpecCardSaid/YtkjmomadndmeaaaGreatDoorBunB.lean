import Derived.Test.YtkjmomadndmeaaaGreatDoorSecD
namespace Go.Proofs.YtkjmomadndmeaaaGreatDoor
set_option linter.unusedSimpArgs false
set_option linter.unusedVariables false
open Go Go.Ab
set_option maxRecDepth 100000
set_option maxHeartbeats 0
theorem wit_false {n lo hi:Int}:wit n lo hi=false↔¬ (lo<=n/\n<=hi):=by
 rw[<-wit_iff,Bool.not_eq_true]
def prevG (l:List Grp)(k:Nat):Int:=if k=0 then -1 else(l.getD (k-1) default).g
def prevN (l:List Int)(k:Nat):Int:=if k=0 then -1 else l.getD (k-1) default
theorem prevG_succ (l:List Grp)(k:Nat):prevG l (k+1)=(l.getD k default).g:=rfl
theorem prevN_succ (l:List Int)(k:Nat):prevN l (k+1)=l.getD k default:=rfl
def head23 (s:Sec):Bool:=wit s.id 0 3999&&wit s.course 0 4095&&wit s.term 0 1023&&wit s.campus 0 6&&wit s.seats 0 4096&&decide ((s.groups.length:Int)<=8)&&!(s.lab&&decide (0<(s.labs.length:Int)))
theorem formed_eq (s:Sec):formed s=(gok (-1) s.groups&&lok (-1) s.labs&&head23 s&&decide (gsum s.groups<=s.seats)):=by
 simp only[formed,head23]
 cases gok (-1) s.groups<;>cases lok (-1) s.labs<;>cases wit s.id 0 3999<;>cases wit s.course 0 4095<;>cases wit s.term 0 1023<;>cases wit s.campus 0 6<;>cases wit s.seats 0 4096<;>cases decide ((s.groups.length:Int)<=8)<;>simp[Bool.and_comm]
theorem zrformed_ok (s:Sec) (hg:s.groups.length≤1000000) (hl:s.labs.length≤1000000):Pure Tryz.prog 217 [.agg (eSec s)] [.bool (formed s)]:=by
 refine pure_rule hT (T:=tab) (N:=174) (rs:=[.tmp 2]) Tryz.func217 rfl rfl rfl Kr rfl ?_
 rw[formed_eq]
 ((refine xW ?_ ?_)<;>(intros;try rename_i h))
 .refine⟨congrArg D.bool ?_,Tt⟩
  have:head23 s=false:=by
   rw[<-Bool.not_eq_true]
   intro hh
   simp only[head23,Bool.and_eq_true,wit_iff,bsl,beq_iff_eq,bne_iff_ne]at hh
   generalize s.labs.length=nl at *
   cases hb:s.lab
   .simp only[hb]at h
    simp at h
    omega
   .simp only[hb]at h hh
    simp at h hh
    omega
  rw[this]
  simp
 .have hh:head23 s=true:=by
   simp only[head23,Bool.and_eq_true,wit_iff,bsl,beq_iff_eq,bne_iff_ne]
   generalize s.labs.length=nl at *
   cases hb:s.lab
   .simp only[hb]at h
    simp at h
    simp
    omega
   .simp only[hb]at h
    simp at h
    simp
    omega
  rw[hh]
  refine loop_rule hT (S:=Nat × Int) (fun q=>([(1,lp 0),(3,dV q.2),(4,dV q.1)],⟨[bX 157 (up (eSec s))],[]⟩))
   (fun q=>q.1<=s.groups.length/\gok (-1) s.groups=gok (prevG s.groups q.1) (s.groups.drop q.1)/\q.2=gsum (s.groups.take q.1)/\-1<=prevG s.groups q.1/\0<=q.2/\q.2<=4096*q.1) (fun q=>s.groups.length-q.1) (0,0) ?_ ?_ ?_
  .exact lq
  .exact⟨Nat.zero_le _,rfl,rfl,Int.le_refl _,Int.le_refl _,Int.le_refl _⟩
  .rintro⟨k,all⟩ ⟨hk,h1,h2,h3,h5,h6⟩
   dsimp only at hk h1 h2 h3 h5 h6
   by_cases hk2:k<s.groups.length
   .rw [drop_at hk2,gok] at h1
    have ht:=take_succ_at (xs:=s.groups) (k:=k) hk2
    ((refine xW ?_ ?_)<;>(intros;try rename_i h))
    .refine⟨congrArg D.bool ?_,Tt⟩
     rw[h1]
     have:(wit (s.groups.getD k default).g (prevG s.groups k+1) 7&&wit (s.groups.getD k default).seats 0 4096&&wit (s.groups.getD k default).til 0 1048576)=false:=by
      rw[<-Bool.not_eq_true]
      intro hw
      simp only[Bool.and_eq_true,wit_iff]at hw
      unfold prevG at hw h3
      rw[toNat_pred]at h
      by_cases hk0:k=0
      .simp only[hk0,if_true]at h hw h3
       omega
      .simp only[hk0,if_false]at h hw h3
       omega
     rw[this]
     rfl
    .have hw:wit (s.groups.getD k default).g (prevG s.groups k+1) 7=true/\wit (s.groups.getD k default).seats 0 4096=true/\wit (s.groups.getD k default).til 0 1048576=true:=by
      simp only[wit_iff]
      unfold prevG
      rw[toNat_pred]at h
      by_cases hk0:k=0
      .simp only[hk0,if_true]at h⊢
       omega
      .simp only[hk0,if_false]at h⊢
       omega
     rw[hw.1,hw.2.1,hw.2.2]at h1
     simp only[wit_iff]at hw
     refine⟨(k+1,all+(s.groups.getD k default).seats),⟨by show k+1<=s.groups.length;omega,?_,?_,?_,?_,?_⟩,by show s.groups.length-(k+1)<s.groups.length-k;omega,?_⟩
     .rw[h1];rfl
     .rw[ht,gsum_snoc,h2]
     .show -1<=prevG s.groups (k+1)
      rw[prevG_succ];omega
     .show 0<=all+(s.groups.getD k default).seats;omega
     .show all+(s.groups.getD k default).seats<=4096*((k+1:Nat):Int);omega
     .exact lq
   .have hk3:k=s.groups.length:=by omega
    subst hk3
    rw[List.take_length]at h2
    rw[drop_end (Nat.le_refl _),gok]at h1
    rw[h1]
    (refine gW ?_;intros)
    refine loop_rule hT (S:=Nat) (fun q=>([(1,lp 0),(3,dV all),(6,dV q)],⟨[bX 157 (up (eSec s))],[]⟩))
     (fun q=>q<=s.labs.length/\lok (-1) s.labs=lok (prevN s.labs q) (s.labs.drop q)/\-1<=prevN s.labs q) (fun q=>s.labs.length-q) 0 ?_ ?_ ?_
    .exact lq
    .exact⟨Nat.zero_le _,rfl,Int.le_refl _⟩
    .rintro k ⟨hk,h7,h8⟩
     by_cases hk2:k<s.labs.length
     .rw [drop_at hk2,lok] at h7
      ((refine xW ?_ ?_)<;>(intros;try rename_i h))
      .refine⟨congrArg D.bool ?_,Tt⟩
       rw[h7]
       have:wit (s.labs.getD k default) (prevN s.labs k+1) 3999=false:=by
        rw[wit_false]
        intro hw
        unfold prevN at hw h8
        rw[toNat_pred]at h
        by_cases hk0:k=0
        .simp only[hk0,if_true]at h hw h8
         omega
        .simp only[hk0,if_false]at h hw h8
         omega
       rw[this]
       rfl
      .have hw:wit (s.labs.getD k default) (prevN s.labs k+1) 3999=true:=by
        simp only[wit_iff]
        unfold prevN
        rw[toNat_pred]at h
        by_cases hk0:k=0
        .simp only[hk0,if_true]at h⊢
         omega
        .simp only[hk0,if_false]at h⊢
         omega
       rw[hw]at h7
       rw[wit_iff]at hw
       refine⟨k+1,⟨by show k+1<=s.labs.length;omega,?_,?_⟩,by show s.labs.length-(k+1)<s.labs.length-k;omega,?_⟩
       .rw[h7];rfl
       .show -1<=prevN s.labs (k+1)
        rw[prevN_succ];omega
       .exact lq
     .rw[drop_end Om,lok]at h7
      rw[h7]
      (refine gW ?_;intros)
      refine⟨congrArg D.bool ?_,Tt⟩
      rw[h2]
      rfl
theorem rcheckS_ok (s:Sec)(hg:s.groups.length<=1000000)(hl:s.labs.length<=1000000):Pure Tryz.prog 180 [.agg (eSec s)] [di (chkS s)]:=by
 refine pure_rule hT (T:=tab) (N:=9) (rs:=[.tmp 2]) Tryz.func180 rfl rfl rfl Kr rfl ?_
 (refine gW ?_;intros)
 refine callB (zrformed_ok s hg hl) (fun hf=>?_) (fun hf=>?_)
 ·(refine gW ?_;intros)
  rw[show chkS s=230 by simp[chkS,hf]]
  exact⟨rfl,Tt⟩
 ·(refine gW ?_;intros)
  refine(rcheckM_ok s.meets).call ?_
  (refine gW ?_;intros)
  rw[show chkS s=mcheck s.meets by simp[chkS,hf]]
  exact⟨rfl,Tt⟩
theorem rfind_ok (l:List Sec)(hx:l.length<=1000000)(n:Int):Pure Tryz.prog 79 [eSecs l,di n] (eFind (findS l n)):=by
 refine pure_rule hT (T:=tab) (N:=25) (rs:=[.cell 4 157,.tmp 5]) Tryz.func79 rfl rfl rfl Kr rfl ?_
 (refine gW ?_;intros)
 refine loop_rule hT (S:=Nat) (fun k=>([(0,.d (eSecs l)),(1,dV n),(4,lp 0),(6,dV k)],⟨[bX 157 [dV 0,dV 0,dV 0,dV 0,dV 0,.d .nils,.d .nils,.d .nils,.d (.bool false)]],[]⟩))
  (fun k=>k<=l.length/\findS l n=findS (l.drop k) n) (fun k=>l.length-k) 0 ?_ ?_ ?_
 .exact lq
 .exact⟨Nat.zero_le _,rfl⟩
 .rintro k ⟨hk,hc⟩
  by_cases hk2:k<l.length
  .rw[drop_at hk2]at hc
   ((refine xW ?_ ?_)<;>(intros;try rename_i h))
   .rw[hc,findS,List.find?_cons_of_pos (by simpa using h)]
    exact⟨Or.inl rfl,rfl,Tt⟩
   .refine⟨k+1,⟨by show k+1<=l.length;omega,?_⟩,by show l.length-(k+1)<l.length-k;omega,?_⟩
    .rw[hc]
     exact List.find?_cons_of_neg (by simpa using h)
    .exact lq
  .rw[drop_end Om]at hc
   (refine gW ?_;intros)
   rw[hc]
   refine⟨Or.inr ?_,rfl,Tt⟩
   exact lq
def rmisfit (l:List Sec)(s:Sec)(n:Int):Bool:=!(findS l n).isSome||(!((findS l n).getD default).lab||(!decide (((findS l n).getD default).course=s.course)||!decide (((findS l n).getD default).term=s.term)))
def srt:Int->List Sec->Bool
 |_,[]=>true
 |last,s::r=>decide (last<s.id)&&srt s.id r
theorem secP2_eq (M:List Int->Option Sec):∀(r:List Sec) (last:Int),secP2 M last r=(srt last r&&r.all fun s=>!(s.labs.any (misfit M s)))
 |[],_=>rfl
 | s :: r,last=>by
   rw[secP2,srt,List.all_cons,secP2_eq M r s.id]
   cases decide (last<s.id)<;>cases s.labs.any (misfit M s)<;>cases srt s.id r<;>rfl
def rP2 (l:List Sec):Int->List Sec->Bool
 |_,[]=>true
 |last,s::r=>decide (last<s.id)&&!(s.labs.any (rmisfit l s))&&rP2 l s.id r
theorem rP2_eq (l:List Sec):∀(r:List Sec) (last:Int),rP2 l last r=(srt last r&&r.all fun s=>!(s.labs.any (rmisfit l s)))
 |[],_=>rfl
 | s :: r,last=>by
   rw[rP2,srt,List.all_cons,rP2_eq l r s.id]
   cases decide (last<s.id)<;>cases s.labs.any (rmisfit l s)<;>cases srt s.id r<;>rfl
theorem srt_snoc (s:Sec):∀(l:List Sec) (last:Int),srt last (l++[s])=true->srt last l=true/\last<s.id/\∀b∈l,b.id<s.id
 | [],last,h=>by
   simp[srt]at h
   exact⟨rfl,h,fun b hb=>by simp at hb⟩
 | a :: r,last,h=>by
   rw[List.cons_append,srt,Bool.and_eq_true]at h
   obtain⟨h1,h2⟩:=h
   obtain⟨g1,g2,g3⟩:=srt_snoc s r a.id h2
   simp only[decide_eq_true_eq]at h1
   refine⟨by rw[srt,g1,decide_eq_true h1];rfl,Om,fun b hb=>?_⟩
   rcases List.mem_cons.1 hb with rfl|hb
   .exact g2
   .exact g3 b hb
theorem labM_find (n:Int):∀(k:Nat) (l:List Sec),l.length=k->srt (-1) l=true->labM l [n]=(match findS l n with |some b=>if b.lab=true then some b else none |none=>none)
 | 0,l,hk,_=>by
   have:=List.length_eq_zero_iff.1 hk
   subst this
   rfl
 | k + 1,l,hk,h=>by
   obtain⟨m,s,rfl⟩:∃m s,l=m++[s]:=by
    have hne:l≠[]:=by intro e;rw[e]at hk;cases hk
    exact⟨l.dropLast,l.getLast hne,(List.dropLast_concat_getLast hne).symm⟩
   obtain⟨h1,_,h3⟩:=srt_snoc s m (-1) h
   have ih:=labM_find n k m (by simpa using hk) h1
   have hf:findS (m++[s]) n=(findS m n).or (if s.id=n then some s else none):=by
    rw[findS,List.find?_append]
    congr 1
    by_cases e:s.id=n<;>simp[e]
   rw[labM_snoc,hf]
   by_cases e:s.id=n
   .have hnone:findS m n=none:=by
     rw[findS,List.find?_eq_none]
     intro b hb
     have:=h3 b hb
     simp only[decide_eq_true_eq]
     omega
    rw[hnone]at ih
    rw[hnone]
    cases hb:s.lab<;>simp[hb,e,ih]
   .have:labM m [n]=(if s.lab=true then fun k=>if k=[s.id] then some s else labM m k else labM m) [n]:=by
     cases hb:s.lab
     .rfl
     .have e':¬ n=s.id:=fun h=>e h.symm
      simp[e']
    rw[<-this,ih]
    simp[e]
theorem P2_same (l:List Sec):rP2 l (-1) l=secP2 (labM l) (-1) l:=by
 rw[rP2_eq,secP2_eq]
 cases h:srt (-1) l
 .rfl
 .congr 1
  congr 1
  funext s
  congr 1
  congr 1
  funext n
  rw[misfit,rmisfit,mHas,labM_find n _ l rfl h]
  cases findS l n with
  |none=>rfl
  |some b=>cases hb:b.lab<;>simp[hb]
def prevS (l:List Sec)(k:Nat):Int:=if k=0 then -1 else(l.getD (k-1) default).id
theorem rcheckAll_ok (l:List Sec) (hl:fewS l):Pure Tryz.prog 131 [eSecs l] [.int .i64 (chkAll l)]:=by
 refine pure_rule hT (T:=tab) (N:=95) (rs:=[.tmp 2]) Tryz.func131 rfl rfl rfl Kr rfl ?_
 have hln:=hl.1
 (refine gW ?_;intros)
 refine loop_rule hT (S:=Nat) (fun k=>([(0,.d (eSecs l)),(3,dV k)],⟨[],[]⟩)) (fun k=>k<=l.length/\chkE l=chkE (l.drop k)) (fun k=>l.length-k) 0 ?_ ?_ ?_
 .exact lq
 .exact⟨Nat.zero_le _,rfl⟩
 .rintro k ⟨hk,hc⟩
  by_cases hk2:k<l.length
  .obtain⟨hg,hb,-⟩:=hl.2 _ (getD_mem hk2)
   rw[drop_at hk2,chkE]at hc
   (refine gW ?_;intros)
   refine callZ (rcheckS_ok (l.getD k default) Om Om) (fun h0=>?_) (fun h0=>?_)
   .rw[if_pos h0]at hc
    (refine gW ?_;intros)
    refine stp (k+1) ?_ ⟨by show k+1<=l.length;omega,hc⟩
    exact lq
   .rw[if_neg h0]at hc
    (refine gW ?_;intros)
    rw[chkAll,hc,if_neg h0]
    exact⟨rfl,Tt⟩
  .rw [drop_end (by omega),chkE] at hc
   have hch:=chkE_at hc
   have hid:∀k,k<l.length->0<=(l.getD k default).id:=fun k hk=>(formed_id (chkS_ok (hch _ (getD_mem hk))).1).1
   rw[chkAll,if_pos hc,<-P2_same]
   (refine gW ?_;intros)
   refine loop_rule hT (S:=Nat) (fun k=>([(0,.d (eSecs l)),(5,dV k)],⟨[],[]⟩)) (fun k=>k<=l.length/\rP2 l (-1) l=rP2 l (prevS l k) (l.drop k)) (fun k=>l.length-k) 0 ?_ ?_ ?_
   .exact lq
   .exact⟨Nat.zero_le _,rfl⟩
   .rintro k ⟨hk,h7⟩
    by_cases hk2:k<l.length
    .obtain ⟨hg,hb,-⟩:=hl.2 _ (getD_mem hk2)
     have hi:=hid k hk2
     rw[drop_at hk2,rP2]at h7
     ((refine xW ?_ ?_)<;>(intros;try rename_i h))
     .rw[h7]
      have:decide (prevS l k<(l.getD k default).id)=false:=by
       rw[decide_eq_false_iff_not]
       unfold prevS
       rw[toNat_pred]at h
       by_cases hk0:k=0
       .simp only[hk0,if_true]at h⊢
        omega
       .simp only[hk0,if_false]at h⊢
        omega
      rw[this]
      exact⟨rfl,Tt⟩
     .have hlt:decide (prevS l k < (l.getD k default).id)=true:=by
       rw[decide_eq_true_iff]
       unfold prevS
       rw[toNat_pred]at h
       by_cases hk0:k=0
       .simp only[hk0,if_true]at h hi⊢
        omega
       .simp only[hk0,if_false]at h⊢
        omega
      rw[hlt,Bool.true_and]at h7
      refine loop_rule hT (S:=Nat) (fun i=>([(0,.d (eSecs l)),(5,dV k),(6,dV i)],⟨[],[]⟩)) (fun i=>i<=(l.getD k default).labs.length/\(l.getD k default).labs.any (rmisfit l (l.getD k default))=((l.getD k default).labs.drop i).any (rmisfit l (l.getD k default))) (fun i=>(l.getD k default).labs.length-i) 0 ?_ ?_ ?_
      .exact lq
      .exact⟨Nat.zero_le _,rfl⟩
      .rintro i ⟨hi3,hci⟩
       by_cases hi2:i<(l.getD k default).labs.length
       .rw [drop_at hi2,List.any_cons] at hci
        have hp:=rfind_ok l Om ((l.getD k default).labs.getD i default)
        have hm:rmisfit l (l.getD k default) ((l.getD k default).labs.getD i default)=(!(findS l ((l.getD k default).labs.getD i default)).isSome||(!((findS l ((l.getD k default).labs.getD i default)).getD default).lab||(!decide (((findS l ((l.getD k default).labs.getD i default)).getD default).course=(l.getD k default).course)||!decide (((findS l ((l.getD k default).labs.getD i default)).getD default).term=(l.getD k default).term)))):=rfl
        obtain⟨o,ho⟩:∃o,findS l ((l.getD k default).labs.getD i default)=o:=⟨_,rfl⟩
        rw[ho]at hp hm
        cases o with
        | none =>
          have hw:rmisfit l (l.getD k default) ((l.getD k default).labs.getD i default)=true:=hm
          (refine gW ?_;intros)
          refine hp.call ?_
          ((refine xW ?_ ?_)<;>(intros;try rename_i h))
          .rw[h7,hci,hw]
           exact⟨rfl,Tt⟩
          .exact absurd h.1.1.1 (by simp)
        | some b =>
          (refine gW ?_;intros)
          refine hp.call ?_
          ((refine xW ?_ ?_)<;>(intros;try rename_i h))
          .have hw:rmisfit l (l.getD k default) ((l.getD k default).labs.getD i default)=true:=by
            rw[hm]
            cases hb:b.lab
            .simp[hb]
            .simp[hb]at h⊢
             omega
           rw[h7,hci,hw]
           exact⟨rfl,Tt⟩
          .have hw:rmisfit l (l.getD k default) ((l.getD k default).labs.getD i default)=false:=by
            obtain⟨⟨⟨_,a⟩,b1⟩,b2⟩:=h
            rw[hm]
            show(!true||(!b.lab||(!decide (b.course=_)||!decide (b.term=_))))=false
            rw[show b.lab=true from a,show decide (b.course=(l.getD k default).course)=true from decide_eq_true b1,show decide (b.term=(l.getD k default).term)=true from decide_eq_true b2]
            rfl
           refine⟨i+1,⟨by show i+1<=(l.getD k default).labs.length;omega,?_⟩,by show(l.getD k default).labs.length-(i+1)<(l.getD k default).labs.length-i;omega,?_⟩
           .rw[hci,hw];rfl
           .exact lq
       .rw[drop_end Om]at hci
        (refine gW ?_;intros)
        refine⟨k+1,⟨by show k+1<=l.length;omega,?_⟩,by show l.length-(k+1)<l.length-k;omega,?_⟩
        .rw[h7,hci];rfl
        .exact lq
    .rw[drop_end Om,rP2]at h7
     (refine gW ?_;intros)
     rw[h7]
     exact⟨rfl,Tt⟩
structure Bun where
 sec:Int
 lab:Int
 deriving Inhabited,DecidableEq
def eBun (b:Bun):List D:=[di b.sec,di b.lab]
def eBuns (xs:List Bun):D:=.sl 2 xs.length fun i=>eBun (xs.getD i default)
theorem idxInt_ok (xs:List Int)(hx:xs.length<=1000000)(v:Int):Pure Tryz.prog 175 [eInts xs,di v] [di (ix (fun s=>decide (v=s)) xs 0)]:=by
 refine pure_rule hT (T:=tab) (N:=19) (rs:=[.tmp 4]) Tryz.func175 rfl rfl rfl Kr rfl ?_
 (refine gW ?_;intros)
 refine loop_rule hT (S:=Nat) (fun k=>([(0,.d (eInts xs)),(1,dV v),(7,dV xs.length),(8,dV k)],⟨[],[]⟩)) (fun k=>k<=xs.length/\ix (fun s=>decide (v=s)) xs 0=ix (fun s=>decide (v=s)) (xs.drop k) k) (fun k=>xs.length-k) 0 ?_ ?_ ?_
 .exact lq
 .exact⟨Nat.zero_le _,rfl⟩
 .rintro k ⟨hk,hc⟩
  repeat' (first|with_reducible refine Sq.go ?_|((with_reducible refine Ev.mk ?_);conv=>whnf)|with_reducible refine Dr.mk ⟨Kr,Kr⟩ ?_|with_reducible refine obG ?_|with_reducible refine Ob.mk ?_ ?_|(with_reducible first|refine brT fun h=>?_|refine brF fun h=>?_|refine Br.mk (fun h=>?_) fun h=>?_)<;>(try simp only[bsl,beq_iff_eq,bne_iff_ne,bs2]at h)<;>(try contradiction)<;>try (exfalso;omega))
  .refine⟨congrArg (D.int .i64) ?_,Tt⟩
   rw[hc,drop_at Om,ix,if_pos (decide_eq_true h)]
  .refine⟨k+1,⟨by show k+1<=xs.length;omega,?_⟩,by show xs.length-(k+1)<xs.length-k;omega,?_⟩
   .rw[hc,drop_at Om,ix,if_neg (by simpa using h)]
    rfl
   .exact lq
  .refine⟨congrArg (D.int .i64) ?_,Tt⟩
   have:k=xs.length:=by omega
   rw[hc]
   simp[this,ix]
theorem hasInt_ok (xs:List Int)(hx:xs.length<=1000000)(v:Int):Pure Tryz.prog 125 [eInts xs,di v] [.bool (decide (v∈xs))]:=by
 refine pure_rule hT (T:=tab) (N:=9) (rs:=[.tmp 4]) Tryz.func125 rfl rfl rfl Kr rfl ?_
 (refine gW ?_;intros)
 refine(idxInt_ok xs hx v).call ?_
 (refine gW ?_;intros)
 refine⟨congrArg D.bool ?_,Tt⟩
 rw[ix_ge (fun s=>decide (v=s)) xs 0 Om]
 exact any_mem v xs
theorem find_none {l:List Sec}(hx:l.length<=1000000){n:Int}(h:findS l n=none):Pure Tryz.prog 76 [eSecs l,di n] [.agg (eSec default),.bool false]:=by
 have:=find_ok l hx n
 rw[h]at this
 exact this
theorem find_some {l:List Sec}(hx:l.length<=1000000){n:Int}{s:Sec}(h:findS l n=some s):Pure Tryz.prog 76 [eSecs l,di n] [.agg (eSec s),.bool true]:=by
 have:=find_ok l hx n
 rw[h]at this
 exact this
theorem rfind_none {l:List Sec}(hx:l.length<=1000000){n:Int}(h:findS l n=none):Pure Tryz.prog 79 [eSecs l,di n] [.agg (eSec default),.bool false]:=by
 have:=rfind_ok l hx n
 rw[h]at this
 exact this
theorem rfind_some {l:List Sec}(hx:l.length<=1000000){n:Int}{s:Sec}(h:findS l n=some s):Pure Tryz.prog 79 [eSecs l,di n] [.agg (eSec s),.bool true]:=by
 have:=rfind_ok l hx n
 rw[h]at this
 exact this
theorem findS_id {l:List Sec}{n:Int}{s:Sec}(h:findS l n=some s):s.id=n/\s∈l:=by
 have h1:=List.find?_some h
 exact⟨by simpa using h1,List.mem_of_find?_eq_some h⟩
def labOk (s x:Sec)(n:Int):Bool:=decide (n∈s.labs)&&(x.lab&&decide (x.term=s.term))
def bchk (l:List Sec) (b:Bun):Int :=
 if chkAll l=0 then
  match findS l b.sec with
  |none=>240
  | some s=>if s.lab=true then 240 else if s.labs.length=0∧b.lab=-1 then 0 else
    match findS l b.lab with
    |none=>240
    |some x=>if labOk s x b.lab=true then(if clashB s.meets x.meets=true then 240 else 0) else 240
 else chkAll l
theorem few_at {l:List Sec}(hl:fewS l){s:Sec}(h:s∈l):s.groups.length<=1000/\s.labs.length<=1000/\s.meets.length<=1000:=hl.2 s h
theorem bcheck_ok (l:List Sec) (hl:fewS l) (b:Bun):Pure Tryz.prog 74 [eSecs l,.agg (eBun b)] [.int .i64 (bchk l b)]:=by
 refine pure_rule hT (T:=tab) (N:=77) (rs:=[.tmp 4]) Tryz.func74 rfl rfl rfl Kr rfl ?_
 have hln:l.length<=1000000:=by have:=hl.1;omega
 by_cases h0:chkAll l=0
 .have hA:=checkAll'_ok l hl
  rw[h0]at hA
  cases h1:findS l b.sec with
  | none =>
    have hF:=find_none hln h1
    (refine gW ?_;intros)
    refine hA.call ?_
    (refine gW ?_;intros)
    refine hF.call ?_
    (refine gW ?_;intros)
    rw[show bchk l b=240 by simp[bchk,h0,h1]]
    exact⟨rfl,Tt⟩
  | some s =>
    have hF:=find_some hln h1
    obtain⟨hid,hmem⟩:=findS_id h1
    obtain⟨hs1,hs2,hs3⟩:=few_at hl hmem
    cases hlab:s.lab
    .have hlab2:¬ s.lab=true:=by simp [hlab]
     by_cases hno:s.labs.length=0/\b.lab=-1
     .have hb:bchk l b=0:=by
       simp only[bchk,h0,h1,if_true]
       rw[if_neg hlab2,if_pos hno]
      obtain⟨hno1,hno2⟩:=hno
      have hno3:((s.labs.length:Nat):Int)=0:=by omega
      (refine gW ?_;intros)
      refine hA.call ?_
      (refine gW ?_;intros)
      refine hF.call ?_
      (refine gW ?_;intros)
      rw[hb]
      exact⟨rfl,Tt⟩
     .cases h2:findS l b.lab with
      | none =>
        have hF2:=find_none hln h2
        have hb:bchk l b=240:=by
         simp only[bchk,h0,h1,h2,if_true]
         rw[if_neg hlab2,if_neg hno]
        rw[hb]
        (refine gW ?_;intros)
        refine hA.call ?_
        (refine gW ?_;intros)
        refine hF.call ?_
        (refine gW ?_;intros)
        refine hF2.call ?_
        (refine gW ?_;intros)
        exact⟨rfl,Tt⟩
      | some x =>
        have hF2:=find_some hln h2
        obtain⟨hid2,hmem2⟩:=findS_id h2
        obtain⟨hx1,hx2,hx3⟩:=few_at hl hmem2
        have hb:bchk l b=if labOk s x b.lab=true then(if clashB s.meets x.meets=true then 240 else 0) else 240:=by
         simp only[bchk,h0,h1,h2,if_true]
         rw[if_neg hlab2,if_neg hno]
        rw[hb]
        (refine gW ?_;intros)
        refine hA.call ?_
        (refine gW ?_;intros)
        refine hF.call ?_
        (refine gW ?_;intros)
        refine hF2.call ?_
        (refine gW ?_;intros)
        refine callB (hasInt_ok s.labs Om b.lab) (fun hw=>?_) (fun hw=>?_)
        .rw[decide_eq_false_iff_not]at hw
         (refine gW ?_;intros)
         rw[if_neg (by simp[labOk,hw])]
         exact⟨rfl,Tt⟩
        .rw[decide_eq_true_iff]at hw
         by_cases hk:labOk s x b.lab=true
         .have hk':=hk
          simp only[labOk,Bool.and_eq_true,decide_eq_true_eq]at hk'
          obtain⟨_,hk2,hk3⟩:=hk'
          have hk4:¬ x.lab=false:=by simp[hk2]
          rw[if_pos hk]
          have hM:=mclash_ok s.meets x.meets hs3 hx3
          ((refine xW ?_ ?_)<;>(intros;try rename_i h))
          .exact absurd hk3 (h.resolve_left hk4)
          cases hc:clashB s.meets x.meets
          .rw[hc]at hM
           refine hM.call ?_
           (refine gW ?_;intros)
           exact⟨rfl,Tt⟩
          .rw[hc]at hM
           refine hM.call ?_
           (refine gW ?_;intros)
           exact⟨rfl,Tt⟩
         .rw[if_neg hk]
          have hk2:x.lab=true->¬ x.term=s.term:=fun h1 h2=>hk (by simp[labOk,hw,h1,h2])
          ((refine xW ?_ ?_)<;>(intros;try rename_i h))
          .exact⟨rfl,Tt⟩
          .exact absurd h.2 (hk2 h.1)
    .have hlab2:¬ s.lab=false:=by simp[hlab]
     (refine gW ?_;intros)
     refine hA.call ?_
     (refine gW ?_;intros)
     refine hF.call ?_
     (refine gW ?_;intros)
     rw[show bchk l b=240 by simp[bchk,h0,h1,hlab]]
     exact⟨rfl,Tt⟩
 .have hA:=checkAll'_ok l hl
  (refine gW ?_;intros)
  refine hA.call ?_
  (refine gW ?_;intros)
  rw[show bchk l b=chkAll l by simp[bchk,h0]]
  exact⟨rfl,Tt⟩
theorem rhas_ok (xs:List Int)(hx:xs.length<=1000000)(n:Int):Pure Tryz.prog 132 [eInts xs,di n] [.bool (decide (n∈xs))]:=by
 refine pure_rule hT (T:=tab) (N:=18) (rs:=[.tmp 4]) Tryz.func132 rfl rfl rfl Kr rfl ?_
 (refine gW ?_;intros)
 refine loop_rule hT (S:=Nat) (fun k=>([(0,.d (eInts xs)),(1,dV n),(5,dV k)],⟨[],[]⟩)) (fun k=>k<=xs.length/\(n∈xs↔n∈xs.drop k)) (fun k=>xs.length-k) 0 ?_ ?_ ?_
 .exact lq
 .exact⟨Nat.zero_le _,Iff.rfl⟩
 .rintro k ⟨hk,hc⟩
  by_cases hk2:k<xs.length
  .rw[drop_at hk2,List.mem_cons]at hc
   ((refine xW ?_ ?_)<;>(intros;try rename_i h))
   .rw[decide_eq_true (hc.2 (.inl h.symm))]
    exact⟨rfl,Tt⟩
   .refine⟨k+1,⟨by show k+1<=xs.length;omega,?_⟩,by show xs.length-(k+1)<xs.length-k;omega,?_⟩
    .rw[hc]
     exact⟨fun e=>e.elim (fun e=>absurd e.symm h) id,.inr⟩
    .exact lq
  .rw[drop_end Om]at hc
   (refine gW ?_;intros)
   have e0:decide (n∈xs)=false:=decide_eq_false (fun e=>by have:=hc.1 e;simp at this)
   rw[e0]
   exact⟨rfl,Tt⟩
theorem rbcheck_ok (l:List Sec) (hl:fewS l) (b:Bun):Pure Tryz.prog 77 [eSecs l,.agg (eBun b)] [.int .i64 (bchk l b)]:=by
 refine pure_rule hT (T:=tab) (N:=74) (rs:=[.tmp 4]) Tryz.func77 rfl rfl rfl Kr rfl ?_
 have hln:l.length<=1000000:=by have:=hl.1;omega
 by_cases h0:chkAll l=0
 .have hA:=rcheckAll_ok l hl
  rw[h0]at hA
  cases h1:findS l b.sec with
  | none =>
    have hF:=rfind_none hln h1
    (refine gW ?_;intros)
    refine hA.call ?_
    (refine gW ?_;intros)
    refine hF.call ?_
    (refine gW ?_;intros)
    rw[show bchk l b=240 by simp[bchk,h0,h1]]
    exact⟨rfl,Tt⟩
  | some s =>
    have hF:=rfind_some hln h1
    obtain⟨hid,hmem⟩:=findS_id h1
    obtain⟨hs1,hs2,hs3⟩:=few_at hl hmem
    cases hlab:s.lab
    .have hlab2:¬ s.lab=true:=by simp [hlab]
     by_cases hno:s.labs.length=0
     .have hb:bchk l b=if b.lab=-1 then 0 else 240:=by
       simp only[bchk,h0,h1,if_true]
       rw[if_neg hlab2]
       by_cases hm:b.lab=-1
       .rw[if_pos ⟨hno,hm⟩,if_pos hm]
       .rw[if_neg (fun h=>hm h.2),if_neg hm]
        cases h2:findS l b.lab with
        |none=>rfl
        | some x =>
          have:s.labs=[]:=List.length_eq_zero_iff.1 hno
          simp[labOk,this]
      have hno3:((s.labs.length:Nat):Int)=0:=by omega
      rw[hb]
      by_cases hm:b.lab=-1
      .rw[if_pos hm]
       (refine gW ?_;intros)
       refine hA.call ?_
       (refine gW ?_;intros)
       refine hF.call ?_
       (refine gW ?_;intros)
       exact⟨rfl,Tt⟩
      .rw[if_neg hm]
       (refine gW ?_;intros)
       refine hA.call ?_
       (refine gW ?_;intros)
       refine hF.call ?_
       (refine gW ?_;intros)
       exact⟨rfl,Tt⟩
     .have hno':¬ (s.labs.length=0∧b.lab=-1):=fun h=>hno h.1
      have hno3:¬ ((s.labs.length:Nat):Int)=0:=by omega
      cases h2:findS l b.lab with
      | none =>
        have hF2:=rfind_none hln h2
        have hb:bchk l b=240:=by
         simp only[bchk,h0,h1,h2,if_true]
         rw[if_neg hlab2,if_neg hno']
        rw[hb]
        (refine gW ?_;intros)
        refine hA.call ?_
        (refine gW ?_;intros)
        refine hF.call ?_
        (refine gW ?_;intros)
        refine hF2.call ?_
        (refine gW ?_;intros)
        exact⟨rfl,Tt⟩
      | some x =>
        have hF2:=rfind_some hln h2
        obtain⟨hid2,hmem2⟩:=findS_id h2
        obtain⟨hx1,hx2,hx3⟩:=few_at hl hmem2
        have hb:bchk l b=if labOk s x b.lab=true then(if clashB s.meets x.meets=true then 240 else 0) else 240:=by
         simp only[bchk,h0,h1,h2,if_true]
         rw[if_neg hlab2,if_neg hno']
        rw[hb]
        (refine gW ?_;intros)
        refine hA.call ?_
        (refine gW ?_;intros)
        refine hF.call ?_
        (refine gW ?_;intros)
        refine hF2.call ?_
        (refine gW ?_;intros)
        refine callB (rhas_ok s.labs Om b.lab) (fun hw=>?_) (fun hw=>?_)
        .rw[decide_eq_false_iff_not]at hw
         (refine gW ?_;intros)
         rw[if_neg (by simp[labOk,hw])]
         exact⟨rfl,Tt⟩
        .rw[decide_eq_true_iff]at hw
         by_cases hk:labOk s x b.lab=true
         .have hk':=hk
          simp only[labOk,Bool.and_eq_true,decide_eq_true_eq]at hk'
          obtain⟨_,hk2,hk3⟩:=hk'
          have hk4:¬ x.lab=false:=by simp[hk2]
          rw[if_pos hk]
          have hM:=rclash_ok s.meets x.meets hs3 hx3
          ((refine xW ?_ ?_)<;>(intros;try rename_i h))
          .exact absurd hk3 (h.resolve_left hk4)
          cases hc:clashB s.meets x.meets
          .rw[hc]at hM
           refine hM.call ?_
           (refine gW ?_;intros)
           exact⟨rfl,Tt⟩
          .rw[hc]at hM
           refine hM.call ?_
           (refine gW ?_;intros)
           exact⟨rfl,Tt⟩
         .rw[if_neg hk]
          have hk2:x.lab=true->¬ x.term=s.term:=fun h1 h2=>hk (by simp[labOk,hw,h1,h2])
          ((refine xW ?_ ?_)<;>(intros;try rename_i h))
          .exact⟨rfl,Tt⟩
          .exact absurd h.2 (hk2 h.1)
    .have hlab2:¬ s.lab=false:=by simp[hlab]
     (refine gW ?_;intros)
     refine hA.call ?_
     (refine gW ?_;intros)
     refine hF.call ?_
     (refine gW ?_;intros)
     rw[show bchk l b=240 by simp[bchk,h0,h1,hlab]]
     exact⟨rfl,Tt⟩
 .have hA:=rcheckAll_ok l hl
  (refine gW ?_;intros)
  refine hA.call ?_
  (refine gW ?_;intros)
  rw[show bchk l b=chkAll l by simp[bchk,h0]]
  exact⟨rfl,Tt⟩
end Go.Proofs.YtkjmomadndmeaaaGreatDoor
