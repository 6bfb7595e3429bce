import Derived.Test.YtkjmomadndmeaaaGreatDoorBookI
import Derived.Test.YtkjmomadndmeaaaGreatDoorIntSort
import Derived.Test.YtkjmomadndmeaaaGreatDoorFrz
import Derived.Test.YtkjmomadndmeaaaGreatDoorBookF
namespace Go.Proofs.YtkjmomadndmeaaaGreatDoor
set_option linter.unusedSimpArgs false
set_option linter.unusedVariables false
open Go Go.Ab
set_option maxRecDepth 100000
set_option maxHeartbeats 0
def insI (b:Int):List Int->List Int
 |[]=>[b]
 |x::r=>if x<b then x::insI b r else b::x::r
def srtR (l:List Int):List Int:=l.foldl (fun acc b=>insI b acc) []
theorem insI_perm (b:Int):∀l,(insI b l).Perm (b::l)
 |[]=>List.Perm.refl _
 | x :: r=>by
   rw[insI]
   split
   .exact((insI_perm b r).cons x).trans (List.Perm.swap b x r)
   .exact List.Perm.refl _
theorem insI_srt (b:Int):∀l:List Int,l.Pairwise (·<=·)->(insI b l).Pairwise (·<=·)
 |[],_=>by simp[insI]
 | x :: r,h=>by
   rw[List.pairwise_cons]at h
   rw[insI]
   split
   .rename_i hx
    rw[List.pairwise_cons]
    refine⟨fun y hy=>?_,insI_srt b r h.2⟩
    rcases List.mem_cons.1 ((insI_perm b r).mem_iff.1 hy) with rfl|hy
    .omega
    .exact h.1 y hy
   .rename_i hx
    rw[List.pairwise_cons,List.pairwise_cons]
    refine⟨fun y hy=>?_,h⟩
    rcases List.mem_cons.1 hy with rfl|hy
    .omega
    .have:=h.1 y hy;omega
theorem srtR_snoc (l:List Int)(b:Int):srtR (l++[b])=insI b (srtR l):=by
 unfold srtR
 rw[List.foldl_append]
 rfl
theorem srtR_both (l:List Int):(srtR l).Perm l/\(srtR l).Pairwise (·<=·):=by
 have key:∀(l acc:List Int),acc.Pairwise (·<=·)->(l.foldl (fun acc b=>insI b acc) acc).Perm (l++acc)/\(l.foldl (fun acc b=>insI b acc) acc).Pairwise (·<=·):=by
  intro l
  induction l with
  |nil=>intro acc h;exact⟨List.Perm.refl _,h⟩
  | cons b r ih =>
    intro acc h
    obtain⟨h1,h2⟩:=ih (insI b acc) (insI_srt b acc h)
    refine⟨h1.trans ?_,h2⟩
    exact((insI_perm b acc).append_left r).trans List.perm_middle
 have:=key l [] List.Pairwise.nil
 rw[List.append_nil]at this
 exact this
theorem srtR_len (l:List Int):(srtR l).length=l.length:=(srtR_both l).1.length_eq
theorem srt_eq (l:List Int):srtR l=srtI l:=by
 refine List.Perm.eq_of_pairwise (le:=fun a b=>a<=b) (fun a b _ _ h1 h2=>Int.le_antisymm h1 h2) (srtR_both l).2 ?_ ((srtR_both l).1.trans (List.mergeSort_perm l _).symm)
 have:=List.pairwise_mergeSort (le:=fun a b:Int=>decide (a<=b)) (fun a b c h1 h2=>by simp at *;omega) (fun a b=>by simp;omega) l
 exact this.imp fun h=>by simpa using h
theorem insI_at (b:Int):∀(acc:List Int) (n:Nat),n<=acc.length->(∀i,i<n->acc.getD i default<b)->(n<acc.length->¬ acc.getD n default<b)->insI b acc=acc.take n++b::acc.drop n
 | [],n,hn,_,_=>by
   have:n=0:=by simpa using hn
   subst this
   rfl
 | x :: r,0,_,_,h2=>by
   have:=h2 (by simp)
   rw[insI,if_neg (by simpa using this)]
   rfl
 | x :: r,n + 1,hn,h1,h2=>by
   have hx:=h1 0 Om
   rw[insI,if_pos (by simpa using hx),insI_at b r n (by simpa using hn) (fun i hi=>by simpa using h1 (i+1) Om) (fun hlt=>by simpa using h2 (by simpa using hlt))]
   rfl
theorem ins_rows {α:Type}[Inhabited α](e:α->List D)(acc:List α)(b:α)(n:Nat)(hn:n<=acc.length)(g:Nat->List AV)(hg:g 0=up (e b))(i:Nat)(hi:i<0+n+1+(acc.length-n)) :
 joinF (0+n+1) (joinF (0+n) (joinF 0 (rowFn []) fun i=>up (e (acc.getD i default))) g) (fun i=>up (e (acc.getD (n+i) default))) i=up (e ((acc.take n++b::acc.drop n).getD i default)):=by
 have hl:(acc.take n).length=n:=by rw[List.length_take];omega
 rcases Nat.lt_or_ge i (0+n+1) with h1|h1
 .rw[joinF_lt h1]
  rcases Nat.lt_or_ge i (0+n) with h2|h2
  .rw[joinF_lt h2,joinF_ge (Nat.zero_le _),getD_append_left Om]
   congr 2
   simp only[List.getD_eq_getElem?_getD,Nat.sub_zero]
   rw[List.getElem?_take_of_lt Om]
  .have:i=n:=by omega
   subst this
   rw[joinF_ge h2,getD_append_right Om,hl]
   rw[show i-(0+i)=0 by omega,hg]
   simp
 .rw[joinF_ge h1,getD_append_right Om,hl]
  have:i-n=(i-(0+n+1))+1:=by omega
  rw[this]
  congr 2
  simp only[List.getD_eq_getElem?_getD,List.getElem?_cons_succ,List.getElem?_drop]
def eNum (n:Int):List D:=[di n]
theorem rsorted14_ok (l:List Int)(hl:l.length<=100000):Pure Tryz.prog 144 [eInts l] [eInts (srtR l)]:=by
 refine pure_rule hT (T:=tab) (N:=46) (rs:=[.tmp 2]) Tryz.func144 rfl rfl rfl Kr rfl ?_
 (refine gW ?_;intros)
 refine Awp.frz [0] 3 (eInts []) (.rows rfl (Nat.le_refl _) (fun i hi=>absurd hi (Nat.not_lt_zero i))) ?_
 refine loop_rule hT (S:=Nat) (fun k=>([(0,.d (eInts l)),(3,.d (eInts (srtR (l.take k)))),(4,dV k)],⟨[],[]⟩)) (fun k=>k<=l.length) (fun k=>l.length-k) 0 ?_ ?_ ?_
 .exact lq
 .exact Nat.zero_le _
 .intro k hk
  by_cases hk2:k<l.length
  .have hst:srtR (l.take (k+1))=insI (l.getD k default) (srtR (l.take k)):=by rw[take_succ_at hk2,srtR_snoc]
   have hal:(srtR (l.take k)).length<=100000:=by rw[srtR_len,List.length_take];omega
   obtain⟨acc,hacc⟩:∃acc,srtR (l.take k)=acc:=⟨_,rfl⟩
   rw[hacc]at hst hal
   dsimp only
   rw[hacc]
   (refine gW ?_;intros)
   refine loop_rule hT (S:=Nat) (fun n=>([(0,.d (eInts l)),(3,.d (eInts acc)),(4,dV k),(5,dV n)],⟨[],[]⟩)) (fun n=>n<=acc.length/\∀i,i<n->acc.getD i default<l.getD k default) (fun n=>acc.length-n) 0 ?_ ?_ ?_
   .exact lq
   .exact⟨Nat.zero_le _,fun i hi=>absurd hi Om⟩
   .rintro n ⟨hn,hlt⟩
    dsimp only at hn hlt⊢
    have klt:Kp _:=⟨hlt⟩
    clear hlt
    by_cases hgo:n<acc.length/\acc.getD n default<l.getD k default
    .obtain⟨hn2,hge⟩:=hgo
     (refine gW ?_;intros)
     refine⟨n+1,⟨by show n+1<=acc.length;omega,fun i hi=>?_⟩,by show acc.length-(n+1)<acc.length-n;omega,?_⟩
     .rcases Nat.lt_or_ge i n with h1|h1
      .exact klt.h i h1
      .rw[show i=n by omega]
       exact hge
     .exact lq
    .have hne:n<acc.length->¬ acc.getD n default<l.getD k default:=fun h1 h2=>hgo ⟨h1,h2⟩
     have hins:=insI_at (l.getD k default) acc n hn klt.h hne
     by_cases hn2:n<acc.length
     .have hne2:=hne hn2
      clear hne hgo
      (refine gW ?_;intros)
      refine FrzR.mk (fun i=>eNum ((acc.take n++l.getD k default::acc.drop n).getD i default)) (fun i hi=>?_) ?_
      .exact ins_rows eNum acc (l.getD k default) n hn _ rfl i hi
      (refine gW ?_;intros)
      refine⟨k+1,by show k+1<=l.length;omega,by show l.length-(k+1)<l.length-k;omega,?_⟩
      dsimp only
      rw[hst,hins]
      have hN:0+n+1+(acc.length-n)=(acc.take n++l.getD k default::acc.drop n).length:=by
       simp only[List.length_append,List.length_take,List.length_cons,List.length_drop]
       omega
      repeat' (first|exact Tt|exact rfl|exact Nat.le_refl _|refine And.intro ?_ ?_)
      all_goals first
       |exact congrArg (fun m=>AV.d (D.sl 1 m _)) hN
       |exact⟨rfl,hN,fun i hi=>rfl⟩
     .clear hne hgo
      (refine gW ?_;intros)
      refine FrzR.mk (fun i=>eNum ((acc.take n++l.getD k default::acc.drop n).getD i default)) (fun i hi=>?_) ?_
      .exact ins_rows eNum acc (l.getD k default) n hn _ rfl i hi
      (refine gW ?_;intros)
      refine⟨k+1,by show k+1<=l.length;omega,by show l.length-(k+1)<l.length-k;omega,?_⟩
      dsimp only
      rw[hst,hins]
      have hN:0+n+1+(acc.length-n)=(acc.take n++l.getD k default::acc.drop n).length:=by
       simp only[List.length_append,List.length_take,List.length_cons,List.length_drop]
       omega
      repeat' (first|exact Tt|exact rfl|exact Nat.le_refl _|refine And.intro ?_ ?_)
      all_goals first
       |exact congrArg (fun m=>AV.d (D.sl 1 m _)) hN
       |exact⟨rfl,hN,fun i hi=>rfl⟩
  .dsimp only
   rw[List.take_of_length_le Om]
   (refine gW ?_;intros)
   exact⟨⟨rfl,rfl,fun i hi=>rfl⟩,Tt⟩
theorem contains14_ok (l:List Int)(hl:fitL l)(n:Int):Pure Tryz.prog 143 [eInts l,di n] [.bool (decide (n∈l))]:=by
 have hl':l.length<=9223372036854775807:=hl
 refine pure_rule hT (T:=tab) (N:=18) (rs:=[.tmp 4]) Tryz.func143 rfl rfl rfl Kr rfl ?_
 (refine gW ?_;intros)
 refine loop_rule hT (S:=Nat) (fun k=>([(0,.d (eInts l)),(1,dV n),(4,.d (.bool false)),(5,dV k)],⟨[],[]⟩)) (fun k=>k<=l.length/\(n∈l↔n∈l.drop k)) (fun k=>l.length-k) 0 ?_ ?_ ?_
 .exact lq
 .exact⟨Nat.zero_le _,Iff.rfl⟩
 .rintro k ⟨hk,hc⟩
  have kc:Kp _:=⟨hc⟩
  clear hc
  by_cases hk2:k<l.length
  .have hd:=drop_at (xs:=l) (k:=k) hk2
   have kd:Kp _:=⟨hd⟩
   clear hd
   by_cases e:l.getD k default=n
   .rw[decide_eq_true (kc.h.2 (by rw[kd.h,e];simp))]
    (refine gW ?_;intros)
    exact⟨rfl,Tt⟩
   .have kn:Kp (n∈l↔n∈l.drop (k+1)):=⟨by
     rw[kc.h,kd.h,List.mem_cons]
     exact⟨fun h=>h.resolve_left fun h=>e h.symm,.inr⟩⟩
    (refine gW ?_;intros)
    refine stp (k+1) ?_ ⟨by show k+1<=l.length;omega,kn.h⟩
    exact lq
  .rw[decide_eq_false (fun h=>by have:=kc.h.1 h;rw[drop_end Om]at this;simp at this)]
   (refine gW ?_;intros)
   exact⟨rfl,Tt⟩
structure Wor where
 bok:Bok
 fcts:List Fct
 deriving Inhabited
def eWor (w:Wor):List D:=[eCrss w.bok.crs,ePrgs w.bok.prg,eSyss w.bok.sys,eFcts w.fcts]
def rdK (k:Ke)(t:Int):Red:=⟨k.kind,k.subject,k.object,t,t+1⟩
def readsT (k:Ke)(t:Int):List Red:=if bw t 0 1023=true then[rdK k t] else[]
def lookO {α:Type}[Inhabited α](l:List α)(t:Int)(v:Int × Bool)(ok:α->Bool):Option α:=if bw t 0 1023=true/\v.2=true/\0<=v.1/\v.1<l.length/\ok (l.getD v.1.toNat default)=true then some (l.getD v.1.toNat default) else none
theorem lookCrs_ok (w:Wor)(l:List Crs)(hl:fitL l)(hf:fitL w.fcts)(k:Ke)(t kn:Int)(f:FuncId)(y:D)(ok:Crs->Bool)(hp:∀s∈l,Pure Tryz.prog f [.agg (eCrs s),y] [.bool (ok s)]) :
 Pure Tryz.prog 52 [.agg (eWor w),eCrss l,.agg (eKe k),di t,di kn,.fn (.func f) [] [y]] [.agg (eCrs ((lookO l t (atV w.fcts k t kn) ok).getD default)),eReds (readsT k t),.bool (lookO l t (atV w.fcts k t kn) ok).isSome]:=by
 have hl':l.length<=9223372036854775807:=hl
 have hA:=at_ok w.fcts hf k t kn
 obtain⟨v,hv⟩:∃v,atV w.fcts k t kn=v:=⟨_,rfl⟩
 rw[hv]at hA⊢
 obtain⟨v,b⟩:=v
 dsimp only at hA⊢
 have hI:=in_ok t 0 1023
 refine pure_rule hT (T:=tab) (N:=63) (rs:=[.cell 12 54,.tmp 13,.tmp 14]) Tryz.func52 rfl rfl rfl Kr rfl ?_
 cases ht:bw t 0 1023<;>rw[ht]at hI
 .have e1:lookO l t (v,b) ok=none:=by simp[lookO,ht]
  have e2:readsT k t=[]:=by simp[readsT,ht]
  rw[e1,e2]
  (refine gW ?_;intros)
  refine hI.call ?_
  (refine gW ?_;intros)
  exact⟨.inr ⟨rfl,rfl,rfl,rfl,rfl,rfl,rfl,rfl,rfl,rfl,rfl,rfl,rfl,rfl,rfl,rfl,Tt⟩,rfl,rfl,Tt⟩
 have ht2:0<=t/\t<=1023:=by simpa[bw] using ht
 have ht3:In .i64 (t+1):=in64.2 Om
 have e2:readsT k t=[rdK k t]:=by simp[readsT,ht]
 rw[e2]
 cases b
 .have e1:lookO l t (v,false) ok=none:=by simp[lookO]
  rw[e1]
  (refine gW ?_;intros)
  refine hI.call ?_
  (refine gW ?_;intros)
  refine hA.call ?_
  (refine gW ?_;intros)
  exact⟨.inr ⟨rfl,rfl,rfl,rfl,rfl,rfl,rfl,rfl,rfl,rfl,rfl,rfl,rfl,rfl,rfl,rfl,Tt⟩,⟨rfl,rfl,Nat.le_refl _,rfl,fun i hi=>by rw[show i=0 from Nat.lt_one_iff.1 hi];rfl⟩,rfl,Tt⟩
 by_cases h0:0<=v
 case neg =>
  have e1:lookO l t (v,true) ok=none:=by simp only[lookO];rw[if_neg];exact fun h=>h0 h.2.2.1
  rw[e1]
  (refine gW ?_;intros)
  refine hI.call ?_
  (refine gW ?_;intros)
  refine hA.call ?_
  (refine gW ?_;intros)
  exact⟨.inr ⟨rfl,rfl,rfl,rfl,rfl,rfl,rfl,rfl,rfl,rfl,rfl,rfl,rfl,rfl,rfl,rfl,Tt⟩,⟨rfl,rfl,Nat.le_refl _,rfl,fun i hi=>by rw[show i=0 from Nat.lt_one_iff.1 hi];rfl⟩,rfl,Tt⟩
 by_cases h1:v<l.length
 case neg =>
  have e1:lookO l t (v,true) ok=none:=by simp only[lookO];rw[if_neg];exact fun h=>h1 h.2.2.2.1
  rw[e1]
  (refine gW ?_;intros)
  refine hI.call ?_
  (refine gW ?_;intros)
  refine hA.call ?_
  (refine gW ?_;intros)
  exact⟨.inr ⟨rfl,rfl,rfl,rfl,rfl,rfl,rfl,rfl,rfl,rfl,rfl,rfl,rfl,rfl,rfl,rfl,Tt⟩,⟨rfl,rfl,Nat.le_refl _,rfl,fun i hi=>by rw[show i=0 from Nat.lt_one_iff.1 hi];rfl⟩,rfl,Tt⟩
 obtain⟨n,rfl⟩:∃n:Nat,v=n:=⟨v.toNat,Om⟩
 have hn:n<l.length:=by omega
 have hP:=hp (l.getD n default) (getD_mem hn)
 cases h2:ok (l.getD n default)<;>rw[h2]at hP
 .have e1:lookO l t ((n:Int),true) ok=none:=by simp only[lookO];rw[if_neg];intro h;have:=h.2.2.2.2;rw[Int.toNat_natCast,h2]at this;cases this
  rw[e1]
  (refine gW ?_;intros)
  refine hI.call ?_
  (refine gW ?_;intros)
  refine hA.call ?_
  (refine gW ?_;intros)
  refine⟨⟨f,[],[.d y],.inr ⟨[],[y],rfl,rfl,rfl⟩,hP.call ?_⟩⟩
  (refine gW ?_;intros)
  exact⟨.inr ⟨rfl,rfl,rfl,rfl,rfl,rfl,rfl,rfl,rfl,rfl,rfl,rfl,rfl,rfl,rfl,rfl,Tt⟩,⟨rfl,rfl,Nat.le_refl _,rfl,fun i hi=>by rw[show i=0 from Nat.lt_one_iff.1 hi];rfl⟩,rfl,Tt⟩
 .have e1:lookO l t ((n:Int),true) ok=some (l.getD n default):=by simp only[lookO];rw[if_pos,Int.toNat_natCast];exact⟨ht,by trivial,h0,h1,by rw[Int.toNat_natCast];exact h2⟩
  rw[e1]
  (refine gW ?_;intros)
  refine hI.call ?_
  (refine gW ?_;intros)
  refine hA.call ?_
  (refine gW ?_;intros)
  refine⟨⟨f,[],[.d y],.inr ⟨[],[y],rfl,rfl,rfl⟩,hP.call ?_⟩⟩
  (refine gW ?_;intros)
  exact⟨.inl rfl,⟨rfl,rfl,Nat.le_refl _,rfl,fun i hi=>by rw[show i=0 from Nat.lt_one_iff.1 hi];rfl⟩,rfl,Tt⟩
structure WfW (w:Wor):Prop where
 bok:wfBok w.bok
 crs:∀c∈w.bok.crs,smCrs c
 fct:fitL w.fcts
def okCrs (n:Int)(c:Crs):Bool:=decide (c.number=n)&&vCrs c
theorem crsV_ok (c:Crs)(n:Int)(hw:wfCrs c):Pure Tryz.prog 50 [.agg (eCrs c),.pt [di n] 0] [.bool (okCrs n c)]:=by
 have hV:=validCourse_ok c hw
 unfold okCrs
 refine pure_rule hT (T:=tab) (N:=12) (rs:=[.tmp 3]) Tryz.func50 rfl rfl rfl Kr rfl ?_
 by_cases h:c.number=n
 ·(refine gW ?_;intros)
  refine hV.call ?_
  (refine gW ?_;intros)
  refine⟨congrArg D.bool ?_,Tt⟩
  simp[h]
 ·(refine gW ?_;intros)
  refine⟨congrArg D.bool ?_,Tt⟩
  simp[h]
def crsOf (w:Wor)(n t kn:Int):Option Crs:=lookO w.bok.crs t (atV w.fcts ⟨1,n,0⟩ t kn) (okCrs n)
theorem bcourse_ok (w:Wor)(hw:WfW w)(n t kn:Int):Pure Tryz.prog 19 [.agg (eWor w),di n,di t,di kn] [.agg (eCrs ((crsOf w n t kn).getD default)),eReds (readsT ⟨1,n,0⟩ t),.bool (crsOf w n t kn).isSome]:=by
 have hL:=lookCrs_ok w w.bok.crs hw.bok.1.1 hw.fct ⟨1,n,0⟩ t kn 50 (.pt [di n] 0) (okCrs n) fun s hs=>crsV_ok s n (hw.bok.1.2 s hs)
 unfold crsOf
 refine pure_rule hT (T:=tab) (N:=26) (rs:=[.cell 8 54,.tmp 9,.tmp 10]) Tryz.func19 rfl rfl rfl Kr rfl ?_
 (refine gW ?_;intros)
 refine CallVC.frz [1] ?_ (hL.call ?_)
 .exact⟨.d,.d,.d,.d,.d,.fn' Tt ⟨.ptr' rfl ⟨.d,Tt⟩,Tt⟩,Tt⟩
 (refine gW ?_;intros)
 exact⟨.inl rfl,⟨rfl,rfl,fun i hi=>rfl⟩,rfl,Tt⟩
theorem rread_ok (k:Ke)(t:Int)(ht:0<=t/\t<=1023):Pure Tryz.prog 83 [.agg (eKe k),di t] [.agg (eRed (rdK k t))]:=by
 have ht3:In .i64 (t+1):=in64.2 Om
 refine pure_rule hT (T:=tab) (N:=10) (rs:=[.cell 4 107]) Tryz.func83 rfl rfl rfl Kr rfl ?_
 (refine gW ?_;intros)
 exact⟨.inl rfl,Tt⟩
theorem rlookCrs_ok (w:Wor)(hw:WfW w)(l:List Crs)(hl:fitL l)(el:l=w.bok.crs)(num t kn:Int)(hp:∀s∈l,Pure Tryz.prog 85 [.agg (eCrs s)] [.bool (vCrs s)]) :
 Pure Tryz.prog 41 [.agg (eWor w),di num,di t,di kn] [.agg (eCrs ((lookO l t (atV w.fcts ⟨1,num,0⟩ t kn) (okCrs num)).getD default)),eReds (readsT ⟨1,num,0⟩ t),.bool (lookO l t (atV w.fcts ⟨1,num,0⟩ t kn) (okCrs num)).isSome]:=by
 have ew:eWor w=[eCrss l,ePrgs w.bok.prg,eSyss w.bok.sys,eFcts w.fcts]:=by rw[el];rfl
 rw[ew]
 clear el ew
 have hl':l.length<=9223372036854775807:=hl
 have hA:=rat_ok w.fcts hw.fct ⟨1,num,0⟩ t kn
 obtain⟨v,hv⟩:∃v,atV w.fcts ⟨1,num,0⟩ t kn=v:=⟨_,rfl⟩
 rw[hv]at hA⊢
 obtain⟨v,b⟩:=v
 dsimp only at hA⊢
 have hI:=rin_ok t 0 1023
 have hJ:=rin_ok v 0 ((l.length:Int)-1)
 refine pure_rule hT (T:=tab) (N:=76) (rs:=[.cell 8 54,.tmp 9,.tmp 10]) Tryz.func41 rfl rfl rfl Kr rfl ?_
 cases ht:bw t 0 1023<;>rw[ht]at hI
 .have e1:lookO l t (v,b) (okCrs num)=none:=by simp[lookO,ht]
  have e2:readsT ⟨1,num,0⟩ t=[]:=by simp[readsT,ht]
  rw[e1,e2]
  (refine gW ?_;intros)
  refine hI.call ?_
  (refine gW ?_;intros)
  exact⟨.inr ⟨rfl,rfl,rfl,rfl,rfl,rfl,rfl,rfl,rfl,rfl,rfl,rfl,rfl,rfl,rfl,rfl,Tt⟩,rfl,rfl,Tt⟩
 have ht2:0<=t/\t<=1023:=by simpa[bw] using ht
 have hR:=rread_ok ⟨1,num,0⟩ t ht2
 have e2:readsT ⟨1,num,0⟩ t=[rdK ⟨1,num,0⟩ t]:=by simp[readsT,ht]
 rw[e2]
 cases b
 .have e1:lookO l t (v,false) (okCrs num)=none:=by simp[lookO]
  rw[e1]
  (refine gW ?_;intros)
  refine hI.call ?_
  (refine gW ?_;intros)
  refine hR.call ?_
  (refine gW ?_;intros)
  refine hA.call ?_
  (refine gW ?_;intros)
  exact⟨.inr ⟨rfl,rfl,rfl,rfl,rfl,rfl,rfl,rfl,rfl,rfl,rfl,rfl,rfl,rfl,rfl,rfl,Tt⟩,⟨rfl,rfl,Nat.le_refl _,rfl,fun i hi=>by rw[show i=0 from Nat.lt_one_iff.1 hi];rfl⟩,rfl,Tt⟩
 cases h1:bw v 0 ((l.length:Int)-1)<;>rw[h1]at hJ
 .have e1:lookO l t (v,true) (okCrs num)=none:=by
   simp only[lookO]
   rw[if_neg]
   intro h
   have h2:¬ (0<=v/\v<=(l.length:Int)-1):=by simpa[bw] using h1
   exact h2 ⟨h.2.2.1,by have:=h.2.2.2.1;omega⟩
  rw[e1]
  (refine gW ?_;intros)
  refine hI.call ?_
  (refine gW ?_;intros)
  refine hR.call ?_
  (refine gW ?_;intros)
  refine hA.call ?_
  (refine gW ?_;intros)
  refine hJ.call ?_
  (refine gW ?_;intros)
  exact⟨.inr ⟨rfl,rfl,rfl,rfl,rfl,rfl,rfl,rfl,rfl,rfl,rfl,rfl,rfl,rfl,rfl,rfl,Tt⟩,⟨rfl,rfl,Nat.le_refl _,rfl,fun i hi=>by rw[show i=0 from Nat.lt_one_iff.1 hi];rfl⟩,rfl,Tt⟩
 have h1':0<=v/\v<=(l.length:Int)-1:=by simpa[bw] using h1
 obtain⟨n,rfl⟩:∃n:Nat,v=n:=⟨v.toNat,Om⟩
 have hn:n<l.length:=by omega
 have hP:=hp (l.getD n default) (getD_mem hn)
 by_cases h2:(l.getD n default).number=num
 case neg =>
  have e1:lookO l t ((n:Int),true) (okCrs num)=none:=by
   simp only[lookO]
   rw[if_neg]
   intro h
   have:=h.2.2.2.2
   rw[Int.toNat_natCast]at this
   simp only[okCrs,Bool.and_eq_true,decide_eq_true_eq]at this
   exact h2 this.1
  rw[e1]
  (refine gW ?_;intros)
  refine hI.call ?_
  (refine gW ?_;intros)
  refine hR.call ?_
  (refine gW ?_;intros)
  refine hA.call ?_
  (refine gW ?_;intros)
  refine hJ.call ?_
  (refine gW ?_;intros)
  exact⟨.inr ⟨rfl,rfl,rfl,rfl,rfl,rfl,rfl,rfl,rfl,rfl,rfl,rfl,rfl,rfl,rfl,rfl,Tt⟩,⟨rfl,rfl,Nat.le_refl _,rfl,fun i hi=>by rw[show i=0 from Nat.lt_one_iff.1 hi];rfl⟩,rfl,Tt⟩
 cases h3:vCrs (l.getD n default)<;>rw[h3]at hP
 .have e1:lookO l t ((n:Int),true) (okCrs num)=none:=by
   simp only[lookO]
   rw[if_neg]
   intro h
   have:=h.2.2.2.2
   rw[Int.toNat_natCast]at this
   simp only[okCrs,h3,Bool.and_false,Bool.false_eq_true]at this
  rw[e1]
  (refine gW ?_;intros)
  refine hI.call ?_
  (refine gW ?_;intros)
  refine hR.call ?_
  (refine gW ?_;intros)
  refine hA.call ?_
  (refine gW ?_;intros)
  refine hJ.call ?_
  (refine gW ?_;intros)
  refine hP.call ?_
  (refine gW ?_;intros)
  exact⟨.inr ⟨rfl,rfl,rfl,rfl,rfl,rfl,rfl,rfl,rfl,rfl,rfl,rfl,rfl,rfl,rfl,rfl,Tt⟩,⟨rfl,rfl,Nat.le_refl _,rfl,fun i hi=>by rw[show i=0 from Nat.lt_one_iff.1 hi];rfl⟩,rfl,Tt⟩
 .have e1:lookO l t ((n:Int),true) (okCrs num)=some (l.getD n default):=by
   simp only[lookO]
   rw[if_pos,Int.toNat_natCast]
   exact⟨ht,by trivial,Om,Om,by rw[Int.toNat_natCast,okCrs,decide_eq_true h2,h3];rfl⟩
  rw[e1]
  (refine gW ?_;intros)
  refine hI.call ?_
  (refine gW ?_;intros)
  refine hR.call ?_
  (refine gW ?_;intros)
  refine hA.call ?_
  (refine gW ?_;intros)
  refine hJ.call ?_
  (refine gW ?_;intros)
  refine hP.call ?_
  (refine gW ?_;intros)
  exact⟨.inl rfl,⟨rfl,rfl,Nat.le_refl _,rfl,fun i hi=>by rw[show i=0 from Nat.lt_one_iff.1 hi];rfl⟩,rfl,Tt⟩
theorem rcourse14_ok (w:Wor)(hw:WfW w)(n t kn:Int):Pure Tryz.prog 41 [.agg (eWor w),di n,di t,di kn] [.agg (eCrs ((crsOf w n t kn).getD default)),eReds (readsT ⟨1,n,0⟩ t),.bool (crsOf w n t kn).isSome] :=
 rlookCrs_ok w hw w.bok.crs hw.bok.1.1 rfl n t kn fun s hs=>isCourse_ok s (hw.bok.1.2 s hs) (hw.crs s hs)
end Go.Proofs.YtkjmomadndmeaaaGreatDoor
