import Derived.Test.YtmlhghddfobmmaaGreatDoorNmC
import Derived.Test.YtmlhghddfobmmaaGreatDoorFrz
namespace Go.Proofs.YtmlhghddfobmmaaGreatDoor
set_option linter.unusedSimpArgs false
set_option linter.unusedVariables false
open Go Go.Ab
set_option maxRecDepth 100000
set_option maxHeartbeats 0
theorem Qc0 (c:Cat)(i:Int):Qz Tryz.prog 173 [.d (.agg (Q0 c)),dV i] ⟨[],[]⟩
 (Ret (fun _:Unit=>([.fn (.func 213) [] [lp 0,lp 1]],⟨[bX 32 (up (Q0 c)),bX 3 [dV i]],[]⟩)) fun _=>True):=by
 refine Zv hT (T:=tab) (N:=6) (rs:=[.tmp 4]) _ _ Tryz.func173 rfl rfl rfl Kr rfl ?_
 (refine gW ?_;intros)
 exact⟨(),Tt,by repeat' (first|exact Tt|exact rfl|exact Qgx _|refine And.intro ?_ ?_),rfl⟩
def Ky (c:Cat){S:Type}(E:Nat->S->List (Option Blk))(y b:Nat)(rec:Loop)(cont:S->Bool):Nat->S->List (Option Blk):=fun k s =>
 bX 228 [.fn (.yield y) [] []]::bX 32 (up (Q0 c))::(E (k+2) s++[some (.loop b (bif cont s then rec else after rec (some .ret)) [(1,.ptr (.arg (k+1)) 0 0 0),(3,.ptr (.arg k) 0 0 0)])])
theorem Q96 (c:Cat){S:Type}{n:Nat}{E:Nat->S->List (Option Blk)}(hE:Fam n E)(y b:Nat)(rec:Loop)(cont:S->Bool):Fam (n+3) (Ky c E y b rec cont) where
 len k s:=by simp only[Ky,Qhs,Qhc,Qig,hE.len]
 ren ρ k k' s h:=by
  have h0:ρ (.arg k)=.arg k':=h 0 Om
  have h1:ρ (.arg (k+1))=.arg (k'+1):=h 1 Om
  have h2:=hE.ren ρ (k+2) (k'+2) s fun j hj=>by
   have:=h (j+2) Om
   rwa [show k+(j+2)=k+2+j by omega,show k'+(j+2)=k'+2+j by omega]at this
  unfold Ky
  show Xr ρ _::Xr ρ _::Zh ρ (E (k+2) s++_)=_
  rw[Fs,h2]
  show bX _ [.fn (.yield y) [] []]::bX _ (Za ρ (up (Q0 c)))::(E (k'+2) s++[some (.loop b _ [(1,.ptr (ρ (.arg (k+1))) 0 0 0),(3,.ptr (ρ (.arg k)) 0 0 0)])])=_
  rw[h0,h1,Qdx]
 le nl na k s h:=by
  refine⟨⟨rfl,rfl,rfl⟩,⟨rfl,rfl,rfl⟩,Ci rfl (hE.le nl na (k+2) s Om) ⟨⟨rfl,rfl,rfl,?_⟩,Tt⟩⟩
  show(Nat.blt (k+1) na&&(Nat.blt k na&&true))=true
  rw[Bool.and_true,Qh5]
  exact⟨Nat.ble_eq_true_of_le Om,Nat.ble_eq_true_of_le Om⟩
def Wb (l:List Crs){S:Type}(step:S->Nat->S)(s:S)(p:Q1):S:=match ndR l (1,p) with
 |some i=>step s i
 |none=>s
theorem Q26 (l:List Crs)(i:Nat):nds l i=(Z1 (l.getD i default).need).filterMap fun p=>ndR l (1,p):=by
 unfold nds Z1
 rw[List.filterMap_map]
 rfl
theorem I3 (l:List Crs){S:Type}(step:S->Nat->S)(cont:S->Bool):∀(ps:List Q1) (s:S),cont s=true->vis (Wb l step) cont ps s=vis step cont (ps.filterMap fun p=>ndR l (1,p)) s
 |[],s,_=>rfl
 | p :: r,s,h=>by
   rw[vis,List.filterMap_cons]
   unfold Wb
   cases hn:ndR l (1,p) with
   | none =>
     simp only[]
     rw[if_pos h]
     exact I3 l step cont r s h
   | some i =>
     simp only[]
     rw[vis]
     by_cases h1:cont (step s i)=true
     .rw[if_pos h1,if_pos h1]
      exact I3 l step cont r _ h1
     .rw[if_neg h1,if_neg h1]
theorem Qbz (c:Cat) (hl:c.crs.length≤1000000) (i:Nat) (hi:i < c.crs.length) (hcn:Jj (c.crs.getD i default).need≤1000000) {S:Type} (n:Nat) (E:Nat→S→List (Option Blk)) (hE:Fam n E) (y:Nat) (step:S→Nat→S) (cont:S→Bool)
 (hy:∀s,cont s=true->∀j∈nds c.crs i,Zc Tryz.prog y [dV (j:Int)] ⟨[],E 0 s⟩ (Ret (fun s':S=>([.d (.bool (cont s'))],⟨[],E 0 s'⟩)) fun s'=>s'=step s j)) (s0:S) (hc:cont s0=true) :
 Qz Tryz.prog 213 [.fn (.yield y) [] [],ap 0,ap 1] ⟨[],bX 32 (up (Q0 c))::bX 3 [dV i]::E 2 s0⟩
  (Ret (fun s:S=>([],⟨[],bX 32 (up (Q0 c))::bX 3 [dV i]::E 2 s⟩)) fun s=>s=vis step cont (nds c.crs i) s0):=by
 rw[Q26,<-I3 c.crs step cont _ _ hc]
 obtain⟨r,hr⟩:∃r,(c.crs.getD i default).need=r:=⟨_,rfl⟩
 have kr:Kp _:=⟨hr⟩
 have kn:Kp (∀p∈Z1 r,∀j,ndR c.crs (1,p)=some j->j∈nds c.crs i):=⟨fun p hp j hj=>by
  rw[Q26,hr]
  exact List.mem_filterMap.2 ⟨p,hp,hj⟩⟩
 rw[hr]at hcn⊢
 refine Zv hT (T:=tab) (N:=36) (rs:=[]) _ _ Tryz.func213 rfl rfl rfl Kr rfl ?_
 (refine gW ?_;intros)
 refine(Q2b (c.crs.getD i default).need).at [] rfl Tt (fun _ _=>⟨rfl,?_⟩)
 rw[kr.h]
 (refine gW ?_;intros)
 refine Awp.range (caps:=[lp 1]) [(1,ap 0),(3,lp 0)] (.inl rfl) (nl:=2) (na:=1) ⟨⟨rfl,rfl⟩,⟨rfl,rfl⟩,Tt⟩ ?_
 intro b rec h1 h2 h3 h4 h5 h6
 have hI2:=Qc3 r hcn (n+3) (Ky c E y b rec cont) (Q96 c hE y b rec cont) b (Wb c.crs step) cont ?_ s0 hc
 .refine Qz.mid hE _ [.loc 1,.loc 0,.arg 0] [.loc 2] (Bs:=[bX 32 (up (Q0 c)),bX 3 [dV i]])
   (Bp:=[some (.box 66 (up (Q2 r))),some (.box 228 [.fn (.yield y) [] []]),some (.box 32 (up (Q0 c)))]) (Bq:=[some (.loop b rec [(1,.ptr (.arg 2) 0 0 0),(3,.ptr (.arg 1) 0 0 0)])]) (s:=s0) (by
    have:=hI2
    unfold Ky at this
    rw[hc]at this
    exact this) rfl rfl rfl ⟨rfl,rfl,rfl,Tt⟩ ⟨rfl,Tt⟩ rfl ?_
  rintro A m0 ⟨s',hs',rfl,rfl⟩
  refine⟨s',[bX 66 (up (Q2 r)),bX 228 [.fn (.yield y) [] []],bX 32 (up (Q0 c))],[some (.loop b (bif cont s' then rec else after rec (some .ret)) [(1,ap 2),(3,ap 1)])],
   ⟨[some (.box 228 [.fn (.yield y) [] []]),some (.box 66 (up (Q2 r))),some (.loop b (bif cont s' then rec else after rec (some .ret)) [(1,.ptr (.arg 0) 0 0 0),(3,.ptr (.loc 0) 0 0 0)])],
    [bX 32 (up (Q0 c)),bX 3 [dV i]]⟩,rfl,rfl,rfl,rfl,?_⟩
  rw[<-hs']
  cases hc2:cont s' with
  | true =>
    refine⟨none,by rw[Wg h1 h2];rfl,s',rfl,?_,rfl⟩
    repeat' (first|exact Tt|exact rfl|exact Qgx _|refine And.intro ?_ ?_)
    exact hE.le2
  | false =>
    refine⟨some .ret,rfl,?_⟩
    refine Awp.of_vc hT ?_
    (refine gW ?_;intros)
    refine⟨_,rfl,?_,rfl⟩
    repeat' (first|exact Tt|exact rfl|exact Qgx _|refine And.intro ?_ ?_)
    exact hE.le2
 .intro q hcq p hp
  refine Mv (K:=Ret (fun s':S=>([.d (.bool (bif cont s' then(none:Option Code) else some .ret).isNone)],⟨[],(bX 228 [.fn (.yield y) [] []]::bX 32 (up (Q0 c))::E 2 s')++[some (.loop b (after rec (bif cont s' then none else some .ret)) [(1,ap 1),(3,ap 0)])]⟩)) fun s'=>s'=Wb c.crs step q p) ?_ ?_
  .have hY:=Mw (P:=Tryz.prog) (b:=b) (N:=36) (r:=rec) (ps:=[13]) (args:=[.d (.agg (Q2 p))]) (bs:=some (.box 228 [.fn (.yield y) [] []]) :: some (.box 32 (up (Q0 c))) :: E 2 q) (env0:=[(1,.ptr (.arg 1) 0 0 0),(3,.ptr (.arg 0) 0 0 0)])
    (fun s'=>bX 228 [.fn (.yield y) [] []]::bX 32 (up (Q0 c))::E 2 s') (fun s'=>bif cont s' then none else some .ret) (fun s'=>s'=Wb c.crs step q p) h1 h3 h4 h5 h6 rfl (by simp) ⟨⟨rfl,rfl,rfl⟩,⟨rfl,rfl,rfl⟩,hE.le2⟩ rfl rfl ?_
   .unfold Ky
    rw[hcq]
    exact hY
   .have hlen:∀s',Qp (bX 228 [.fn (.yield y) [] []]::bX 32 (up (Q0 c))::E 2 s')=Qp (bX 228 [.fn (.yield y) [] []]::bX 32 (up (Q0 c))::E 2 q):=fun s'=>by
     rw[V1,V1]
     simp only[Qhs,hE.len]
    by_cases hop:p.op=5\/p.op=6
    .have hM:=Q1u c hl p.name p.course
     by_cases hm:mnt c.crs p.name p.course<c.crs.length
     .have hz:Wp c.crs p.name p.course=(mnt c.crs p.name p.course:Int):=if_pos hm
      have hn:ndR c.crs (1,p)=some (mnt c.crs p.name p.course):=by rw[ndR,if_pos hop,if_pos hm]
      have hst:Wb c.crs step q p=step q (mnt c.crs p.name p.course):=by rw[Wb,hn]
      have hyp:=hy q hcq _ (kn.h p hp _ hn)
      rw[hz]at hM
      rw[hst]
      clear hst hn hz
      generalize mnt c.crs p.name p.course=j at hM hyp hm⊢
      cases hc3:cont (step q j)
      all_goals
       rcases hop with hop|hop
       all_goals
        refine Awp.of_vc hT ?_
        (refine gW ?_;intros)
        refine Awp.of_vc hT ?_
        (refine gW ?_;intros)
        refine hM.call ?_
        (refine gW ?_;intros)
        refine Zc.shD hE [bX 228 [.fn (.yield y) [] []],bX 32 (up (Q0 c))] hyp rfl ?_
        rintro s1 rfl
        rw[hc3]
        (refine gW ?_;intros)
        refine⟨step q j,rfl,by dsimp only;rw[hc3];rfl,hlen _,?_⟩
        repeat' (first|exact Tt|exact rfl|exact Qgx _|refine And.intro ?_ ?_)
        exact hE.le2
     .have hz:Wp c.crs p.name p.course=-1:=if_neg hm
      have hn:ndR c.crs (1,p)=none:=by rw[ndR,if_pos hop,if_neg hm]
      have hst:Wb c.crs step q p=q:=by rw[Wb,hn]
      rw[hz]at hM
      rw[hst]
      clear hst hn hz
      rcases hop with hop|hop
      all_goals
       refine Awp.of_vc hT ?_
       (refine gW ?_;intros)
       refine Awp.of_vc hT ?_
       (refine gW ?_;intros)
       refine hM.call ?_
       (refine gW ?_;intros)
       refine⟨q,rfl,by dsimp only;rw[hcq];rfl,hlen _,?_⟩
       repeat' (first|exact Tt|exact rfl|exact Qgx _|refine And.intro ?_ ?_)
       exact hE.le2
    .have hn:ndR c.crs (1,p)=none:=by rw[ndR,if_neg hop]
     have hst:Wb c.crs step q p=q:=by rw[Wb,hn]
     rw[hst]
     clear hst hn
     have o5:p.op≠5:=fun e=>hop (.inl e)
     have o6:p.op≠6:=fun e=>hop (.inr e)
     clear hop
     refine Awp.of_vc hT ?_
     (refine gW ?_;intros)
     refine Awp.of_vc hT ?_
     (refine gW ?_;intros)
     refine⟨q,rfl,by dsimp only;rw[hcq];rfl,hlen _,?_⟩
     repeat' (first|exact Tt|exact rfl|exact Qgx _|refine And.intro ?_ ?_)
     exact hE.le2
  .rintro A m' ⟨s',rfl,rfl,rfl⟩
   refine⟨_,rfl,?_,?_⟩
   .dsimp only[W9]
    cases cont (Wb c.crs step q p)<;>rfl
   .dsimp only[Ky]
    cases cont (Wb c.crs step q p) with
    |true=>rw[cond_true,cond_true,Wg h1 h2];rfl
    |false=>rfl
def Uc (o:List Nat):Nat->List AV:=fun j=>[.d (.bool (decide (j∈o)))]
def D6 (n g:Nat)(o:List Nat)(b:Nat)(rec:Loop):Nat->Bool->List (Option Blk):=fun k s =>
 [bX 4 [.d (.bool false)],bX 185 [.osl (.arg (k+2)) g 0 n],bV 4 1 g n (Uc o),some (.loop b (bif s then rec else after rec (some .ret)) [(2,.ptr (.arg (k+1)) 0 0 0),(4,.ptr (.arg k) 0 0 0)])]
theorem Q95 (n g:Nat)(o:List Nat)(b:Nat)(rec:Loop):Fam 4 (D6 n g o b rec) where
 len k s:=rfl
 ren ρ k k' s h:=by
  have h0:ρ (.arg k)=.arg k':=h 0 Om
  have h1:ρ (.arg (k+1))=.arg (k'+1):=h 1 Om
  have h2:ρ (.arg (k+2))=.arg (k'+2):=h 2 Om
  unfold D6
  show([bX _ [.d (.bool false)],bX _ [.osl (ρ (.arg (k+2))) g 0 n],bV _ 1 g n (Uc o),some (.loop b _ [(2,.ptr (ρ (.arg (k+1))) 0 0 0),(4,.ptr (ρ (.arg k)) 0 0 0)])]:List (Option Blk))=_
  rw[h0,h1,h2]
 le nl na k s h:=by
  refine⟨⟨rfl,rfl,rfl⟩,⟨rfl,rfl,?_⟩,⟨rfl,rfl,rfl,Qgx _,fun i hi=>⟨rfl,rfl⟩⟩,⟨rfl,rfl,rfl,?_⟩,Tt⟩
  .show(Nat.blt (k+2) na&&true)=true
   rw[Bool.and_true]
   exact Nat.ble_eq_true_of_le Om
  .show(Nat.blt (k+1) na&&(Nat.blt k na&&true))=true
   rw[Bool.and_true,Qh5]
   exact⟨Nat.ble_eq_true_of_le Om,Nat.ble_eq_true_of_le Om⟩
theorem Q4z {α:Type}(p:α->Bool):∀l:List α,vis (fun(_:Bool) x=>p x) id l true=l.all p
 |[]=>rfl
 | x :: r=>by
   rw[vis,Qi5]
   cases h:p x with
   | true =>
     show(if true=true then vis (fun(_:Bool) x=>p x) id r true else true)=_
     rw[if_pos rfl,Q4z p r,Qhy]
   |false=>rfl
theorem Qbe (c:Cat)(hl:c.crs.length<=1000000)(i:Nat)(hi:i<c.crs.length)(hcn:Jj (c.crs.getD i default).need<=1000000)(o:List Nat)(g:Nat) :
 Qz Tryz.prog 172 [dV i,ap 0,ap 1] ⟨[],[bX 32 (up (Q0 c)),bX 185 [.osl (.arg 2) g 0 c.crs.length],bV 4 1 g c.crs.length (Uc o)]⟩
  (Ret (fun _:Unit=>([.d (.bool (rdy c.crs o i))],⟨[],[bX 32 (up (Q0 c)),bX 185 [.osl (.arg 2) g 0 c.crs.length],bV 4 1 g c.crs.length (Uc o)]⟩)) fun _=>True):=by
 refine Zv hT (T:=tab) (N:=20) (rs:=[.cell 4 4]) _ _ Tryz.func172 rfl rfl rfl Kr rfl ?_
 (refine gW ?_;intros)
 refine(Qc0 c i).at [] rfl Tt (fun _ _=>⟨rfl,?_⟩)
 (refine gW ?_;intros)
 refine Awp.range (caps:=[lp 1,lp 2]) [(2,ap 1),(4,lp 0)] (.inl rfl) (nl:=3) (na:=3) ⟨⟨rfl,rfl⟩,⟨rfl,rfl⟩,Tt⟩ ?_
 intro b rec h1 h2 h3 h4 h5 h6
 have hN:=Qbz c hl i hi hcn 4 (D6 c.crs.length g o b rec) (Q95 _ g o b rec) b (fun _ j=>decide (j∈o)) id ?_ true rfl
 .refine hN.at [.loc 1,.loc 2,.loc 0,.arg 1,.arg 2,.loc 3] rfl ⟨rfl,rfl,rfl,rfl,rfl,rfl,Tt⟩ (fun s' hs'=>⟨rfl,?_⟩)
  rw[Q4z]at hs'
  have hr:rdy c.crs o i=(s'&&!decide (i∈o)):=by rw[rdy,hs',decide_not]
  rw[hr]
  clear hr hs' hN
  cases s' with
  | true =>
    (refine gW ?_;intros)
    refine⟨none,by rw[Wg h1 h2];rfl,?_⟩
    show Sq _ _
    (refine gW ?_;intros)
    refine⟨(),Tt,?_,rfl⟩
    repeat' (first|exact Tt|exact rfl|exact Qgx _|refine And.intro ?_ ?_)
    all_goals (intro j hj;exact⟨rfl,rfl⟩)
  | false =>
    (refine gW ?_;intros)
    refine⟨some .ret,rfl,?_⟩
    refine Awp.of_vc hT ?_
    (refine gW ?_;intros)
    refine⟨(),Tt,?_,rfl⟩
    repeat' (first|exact Tt|exact rfl|exact Qgx _|refine And.intro ?_ ?_)
    all_goals (intro j hj;exact⟨rfl,rfl⟩)
 .intro q hcq j hj
  have hjl:=Qbx hj
  cases q with
  |false=>cases hcq
  | true =>
    refine Mv (K:=Ret (fun s':Bool=>([.d (.bool (bif s' then(none:Option Code) else some .ret).isNone)],⟨[],[bX 4 [.d (.bool false)],bX 185 [.osl (.arg 2) g 0 c.crs.length],bV 4 1 g c.crs.length (Uc o)]++[some (.loop b (after rec (bif s' then none else some .ret)) [(2,ap 1),(4,ap 0)])]⟩)) fun s'=>s'=decide (j∈o)) ?_ ?_
    .refine Mw (P:=Tryz.prog) (b:=b) (N:=20) (r:=rec) (ps:=[9]) (args:=[dV (j:Int)]) (bs:=[bX 4 [.d (.bool false)],bX 185 [.osl (.arg 2) g 0 c.crs.length],bV 4 1 g c.crs.length (Uc o)]) (env0:=[(2,ap 1),(4,ap 0)])
      (fun s'=>[bX 4 [.d (.bool false)],bX 185 [.osl (.arg 2) g 0 c.crs.length],bV 4 1 g c.crs.length (Uc o)]) (fun s'=>bif s' then none else some .ret) (fun s'=>s'=decide (j∈o)) h1 h3 h4 h5 h6 rfl (by simp) ⟨⟨rfl,rfl,rfl⟩,⟨rfl,rfl,rfl⟩,⟨rfl,rfl,rfl,Qgx _,fun i hi=>⟨rfl,rfl⟩⟩,Tt⟩ rfl rfl ?_
     refine Awp.of_vc hT ?_
     by_cases hm:j∈o
     ·(refine gW ?_;intros)
      refine Awp.of_vc hT ?_
      (refine gW ?_;intros)
      refine⟨_,rfl,by dsimp only;rw[Qh8 hm];rfl,rfl,?_⟩
      repeat' (first|exact Tt|exact rfl|exact Qgx _|refine And.intro ?_ ?_)
      all_goals (intro j hj;exact⟨rfl,rfl⟩)
     ·(refine gW ?_;intros)
      refine Awp.of_vc hT ?_
      (refine gW ?_;intros)
      refine⟨_,rfl,by dsimp only;rw[Qh0 hm];rfl,rfl,?_⟩
      repeat' (first|exact Tt|exact rfl|exact Qgx _|refine And.intro ?_ ?_)
      all_goals (intro j hj;exact⟨rfl,rfl⟩)
    .rintro A m' ⟨s',rfl,rfl,rfl⟩
     refine⟨_,rfl,?_,?_⟩
     .dsimp only[W9]
      cases decide (j∈o)<;>rfl
     .dsimp only[D6]
      cases decide (j∈o) with
      |true=>rw[cond_true,cond_true,Wg h1 h2];rfl
      |false=>rfl
def Yc (o:List Nat):List Int:=o.map fun n:Nat=>(n:Int)
theorem Sl (o:List Nat):(Yc o).length=o.length:=Qhb ..
structure LG where
 o:List Nat
 i:Nat
 g:Nat
theorem Qbf (c:Cat)(hl:c.crs.length<=1000000)(hcn:∀x∈c.crs,Jj x.need<=1000000):Pure Tryz.prog 120 [.agg (Q0 c)] [J6 (Yc (lst c.crs)),.sl 1 c.crs.length fun j=>[.bool (decide (j∈lst c.crs))]]:=by
 refine Q4 hT (T:=tab) (N:=29) (rs:=[.tmp 2,.cell 3 185]) Tryz.func120 rfl rfl rfl Kr rfl ?_
 (refine gW ?_;intros)
 refine Qch hT rfl rfl rfl Dc rfl rfl (by show _*1<=140737488355328;omega) ?_
 (refine gW ?_;intros)
 refine Awp.vec 2 3 1 (Jz []) rfl ?_
 refine Q7 hT (S:=LG) (fun z=>([(1,lp 0),(2,.osl (.loc 3) z.g 0 z.o.length),(3,lp 1),(4,.fn (.func 172) [] [lp 0,lp 1]),(5,dV z.i)],
  ⟨[bX 32 (up (Q0 c)),bX 185 [.osl (.loc 2) 0 0 c.crs.length],bV 4 1 0 c.crs.length (Uc z.o),bV 3 1 z.g z.o.length (Jz (Yc z.o))],[]⟩))
  (fun z=>Vm c.crs z.o/\lst c.crs=Xn c.crs z.o z.i) (fun z=>Yt c.crs z.o z.i) ⟨[],0,0⟩ ?_ ?_ ?_
 .repeat' (first|exact Tt|exact rfl|exact Qgx _|refine And.intro ?_ ?_)
  all_goals first
   |(intro i hi;exact⟨rfl,rfl⟩)
   |(intro i hi;exact absurd hi (Qhh i))
 .exact⟨Vm.nil _,rfl⟩
 .rintro ⟨o,i,g⟩ ⟨hI,hc⟩
  have hol:=hI.le
  have kI:Kp _:=⟨hI⟩
  have kc:Kp _:=⟨hc⟩
  clear hI hc
  dsimp only at kI kc hol⊢
  by_cases hi2:i<c.crs.length
  .have hL:=Qbe c hl i hi2 (hcn _ (Qe hi2)) o 0
   clear hcn
   cases hr:rdy c.crs o i with
   | false =>
     rw[hr]at hL
     have kn:Kp (lst c.crs=Xn c.crs o (i+1)/\Yt c.crs o (i+1)<Yt c.crs o i):=⟨by rw[kc.h,Q1r kI.h hi2 (by rw[hr];exact Qhl)],Dv hi2⟩
     clear hr
     (refine gW ?_;intros)
     refine⟨⟨_,[],[_,_],.inl rfl,hL.at [.loc 0,.loc 1,.loc 2] rfl ⟨rfl,rfl,rfl,Tt⟩ (fun _ _=>⟨rfl,?_⟩)⟩⟩
     (refine gW ?_;intros)
     refine⟨⟨o,i+1,g⟩,⟨kI.h,kn.h.1⟩,kn.h.2,?_⟩
     repeat' (first|exact Tt|exact rfl|exact Qgx _|refine And.intro ?_ ?_)
     all_goals first
      |(intro i hi;exact⟨rfl,rfl⟩)
   | true =>
     rw[hr]at hL
     have kn:Kp (Vm c.crs (o++[i])/\lst c.crs=Xn c.crs (o++[i]) 0/\Yt c.crs (o++[i]) 0<Yt c.crs o i):=⟨kI.h.snoc hi2 hr,by rw[kc.h,Q1s kI.h hi2 hr],Dw kI.h hi2 hr⟩
     clear hr
     (refine gS ?_;intros)
     refine Sq.go ?_
     (refine gS ?_;intros)
     refine Sq.go ?_
     (refine gS ?_;intros)
     refine⟨⟨_,[],[_,_],.inl rfl,hL.at [.loc 0,.loc 1,.loc 2] rfl ⟨rfl,rfl,rfl,Tt⟩ (fun _ _=>⟨rfl,?_⟩)⟩⟩
     (refine gS ?_;intros)
     refine Sq.alt (Awp.condT rfl (Awp.seq (Awp.effs hT Kr Kr Kr
      ⟨[bX 32 (up (Q0 c)),bX 185 [.osl (.loc 2) 0 0 c.crs.length],some .opq,some .opq],[]⟩
      [⟨5,.osl (.loc 3) (g + 1) 0 (o.length + 1),⟨[some (.box 32 (up (Q0 c))),some (.box 185 [.osl (.loc 2) 0 0 c.crs.length]),some (.vec 4 1 0 c.crs.length (Uc o)),some (.vec 3 1 (g + 1) (o.length + 1) (Je o.length (Jz (Yc o)) (Jr [[.d (.int .i64 i)]])))],[]⟩,[]⟩,
       ⟨7,.ptr (.loc 2) 0 i 0,⟨[bX 32 (up (Q0 c)),bX 185 [.osl (.loc 2) 0 0 c.crs.length],bV 4 1 0 c.crs.length (Uc o),bV 3 1 (g+1) (o.length+1) (Je o.length (Jz (Yc o)) (Jr [[dV i]]))],[]⟩,[5]⟩,
       ⟨8,.junk,⟨[bX 32 (up (Q0 c)),bX 185 [.osl (.loc 2) 0 0 c.crs.length],bV 4 1 0 c.crs.length fun j=>bif Nat.beq j i then[.d (.bool true)] else Uc o j,bV 3 1 (g+1) (o.length+1) (Je o.length (Jz (Yc o)) (Jr [[dV i]]))],[]⟩,[7]⟩]
      Kr (Yo.of ⟨.inl rfl,.inl rfl,.inr ⟨rfl,_,rfl⟩,.inr ⟨rfl,_,rfl⟩,Tt⟩ Tt)
      ⟨Yo.of ⟨.inl rfl,.inl rfl,.inr ⟨rfl,_,rfl⟩,.inr ⟨rfl,_,rfl⟩,Tt⟩ Tt,Yo.of ⟨.inl rfl,.inl rfl,.inr ⟨rfl,_,rfl⟩,.inr ⟨rfl,_,rfl⟩,Tt⟩ Tt,Yo.of ⟨.inl rfl,.inl rfl,.inr ⟨rfl,_,rfl⟩,.inr ⟨rfl,_,rfl⟩,Tt⟩ Tt,Tt⟩ ?_)))
     conv=>whnf
     (refine gS ?_;intros)
     refine⟨?_,?_,?_,?_⟩
     .conv=>whnf
      (refine gS ?_;intros)
      exact⟨rfl,rfl⟩
     .conv=>whnf
      (refine gS ?_;intros)
      exact⟨rfl,rfl⟩
     .conv=>whnf
      (refine gS ?_;intros)
      exact⟨Tt,rfl⟩
     refine Ev.mk (Z3 hT _ _ _ _ (Ev.o ?_))
     (refine gW ?_;intros)
     refine⟨⟨o++[i],0,g+1⟩,⟨kn.h.1,kn.h.2.1⟩,kn.h.2.2,?_⟩
     dsimp only
     rw[Jp]
     repeat' (first|exact Tt|exact rfl|exact Qgx _|refine And.intro ?_ ?_)
     all_goals first
      |(intro j hj;exact⟨by rw[show Yc (o++[i])=Yc o++[(i:Int)] from Qim ..];exact B6 (Yc o) _ (Sl o).symm j hj,rfl⟩)
      | (intro j hj
         refine⟨?_,rfl⟩
         show(bif Nat.beq j i then[AV.d (.bool true)] else[AV.d (.bool (decide (j∈o)))])=[AV.d (.bool (decide (j∈o++[i])))]
         cases hb:Nat.beq j i
         .have:=Qhv hb
          rw[cond_false,show decide (j∈o)=decide (j∈o++[i]) from by rw[Bool.eq_iff_iff,decide_eq_true_iff,decide_eq_true_iff,Qi7,Qi9];exact⟨.inl,fun h=>h.resolve_right this⟩]
         .have:=Qh1 hb
          rw[cond_true,Qh8 (show j∈o++[i] by rw[this];simp)])
  .rw[Q1q hi2]at kc
   have e:lst c.crs=o:=kc.h
   rw[e]
   clear e
   (refine gW ?_;intros)
   refine⟨⟨rfl,rfl,Qhz (Qh9 _),(Sl o).symm,fun j hj=>by rw[Qh9];rfl⟩,⟨rfl,rfl,Qhz (Qh9 _),rfl,fun j hj=>?_⟩,Tt⟩
   rw[Qh9]
   rfl
end Go.Proofs.YtmlhghddfobmmaaGreatDoor
namespace Go.Ab
set_option linter.unusedSimpArgs false
set_option linter.unusedVariables false
theorem Qcf {P:Program}{env:Env}{m:Mem}{K:AV->Mem->Prop}{o:Oper}{x:Operand}{xt t:TypeId}(hop:o.op=.typeAssert x xt t true){fs:_}(hu:P.underlying t=some (.struct fs)){y:D}(hx:ev env x=.d (.ifc t y))(hK:K (.tup [.d y,.d (.bool true)]) m):Ym P o env m K :=
 ⟨fun c h=>(by rw [hop] at h;cases h),fun a w F σ hev hm=>by
  have hv:=Z5 hev x
  rw[hx]at hv
  generalize hX:a.eval x=X at hv
  cases hv with|d hv=>cases hv with
  | @ifc _ _ u hr =>
    refine⟨_,.tuple #[u,.bool true],w,σ,F,_,_,?_,.inl rfl,hK,.tup (us:=[u,.bool true]) rfl (fun j A v hA hv=>?_),hm,Step.refl σ F w,SLe.refl σ⟩
    .simp[execOp,hop,hX,Instr.typeAssert,run_underlying hu]
    .match j with
     |0=>simp at hA hv;subst hA;subst hv;exact .d hr
     |1=>simp at hA hv;subst hA;subst hv;exact .d .bool
     |j+2=>simp at hA⟩
end Go.Ab
namespace Go.Proofs.YtmlhghddfobmmaaGreatDoor
set_option linter.unusedSimpArgs false
set_option linter.unusedVariables false
open Go Go.Ab
set_option maxRecDepth 100000
set_option maxHeartbeats 0
def Ei (l:List Crs)(n:Nat):Int:=(l.getD n default).number
def Q2z (l:List Crs):List Int:=if Kq l=true then[] else(lst l).map (Ei l)
def Xp (l:List Crs):Int:=if Kq l=true then 112 else 0
structure OG where
 k:Nat
 g:Nat
theorem Qd8 (c:Cat) (hl:c.crs.length≤1000000) (hcn:∀ x∈c.crs,Jj x.need≤1000000):Pure Tryz.prog 72 [.agg (Q0 c)] [J6 (Q2z c.crs),.int .i64 (Xp c.crs)]:=by
 have hL:=Qbf c hl hcn
 have hlt:=(Dx c.crs).lt
 have hle:=(Dx c.crs).le
 unfold Q2z Xp Kq
 generalize lst c.crs=o at hL hlt hle⊢
 have hll:=Sl o
 unfold J6 at hL
 rw[hll]at hL
 refine Q4 hT (T:=tab) (N:=36) (rs:=[.tmp 2,.tmp 3]) Tryz.func72 rfl rfl rfl Kr rfl ?_
 by_cases h:o.length<c.crs.length
 .rw[Qh8 h,if_pos rfl,if_pos rfl]
  (refine gW ?_;intros)
  refine hL.call ?_
  (refine gW ?_;intros)
  exact⟨rfl,rfl,Tt⟩
 .rw [Qh0 h,if_neg Qhl,if_neg Qhl]
  have ho:o.length=c.crs.length:=by omega
  (refine gW ?_;intros)
  refine hL.call ?_
  (refine gW ?_;intros)
  refine Awp.vec 2 3 1 (Jz []) rfl ?_
  refine Q7 hT (S:=OG) (fun z=>([(1,.ptr (.loc 0) 0 0 0),(2,.osl (.loc 1) z.g 0 z.k),(19,.d (.sl 1 o.length fun i=>[.int .i64 ((Yc o).getD i default)])),(20,.d (.int .i64 o.length)),(21,.d (.int .i64 z.k))],
   ⟨[some (.box 32 (up (Q0 c))),some (.vec 3 1 z.g z.k (Jz ((o.take z.k).map (Ei c.crs))))],[]⟩))
   (fun z=>z.k<=o.length) (fun z=>o.length-z.k) ⟨0,0⟩ ?_ ?_ ?_
  .repeat' (first|exact Tt|exact rfl|exact Qgx _|refine And.intro ?_ ?_)
   all_goals first
    |(intro i hi;exact absurd hi (Qhh i))
  .exact Qh3 _
  .rintro⟨k,g⟩ hk
   dsimp only at hk⊢
   by_cases hk2:k<o.length
   .have hlk:=hlt _ (Qe hk2)
    have hz:(Yc o).getD k default=(o.getD k default:Nat):=by
     simp only[Yc,Qha,Qhe,Qgy hk2,Option.map_some,Qi3]
    have hin0:0<=(Yc o).getD k default:=by rw[hz];omega
    have hin1:(Yc o).getD k default<c.crs.length:=by rw[hz];omega
    have kz:Kp _:=⟨hz⟩
    clear hz hlt
    (refine gW ?_;intros)
    refine⟨⟨k+1,g+1⟩,by show k+1<=o.length;omega,by show o.length-(k+1)<o.length-k;omega,?_⟩
    repeat' (first|exact Tt|exact rfl|exact Qgx _|refine And.intro ?_ ?_)
    all_goals first
     | (intro j hj
        refine⟨?_,rfl⟩
        have hkz:(c.crs.getD ((Yc o).getD ((k:Int)).toNat default).toNat default).number=Ei c.crs (o.getD k default):=by rw[Int.toNat_natCast,kz.h];rfl
        rw[Js hk2,Qim,hkz]
        exact B6 _ _ (by rw[Qhb,Qhr];omega) j hj)
   .obtain rfl:k=o.length:=by omega
    (refine gW ?_;intros)
    refine⟨⟨rfl,rfl,Qhz (Qh9 _),by rw[Qhb],fun j hj=>?_⟩,rfl,Tt⟩
    rw[Qh9,Qhp]
    rfl
theorem Q6q (e:Int)(old:Int):Qz Tryz.prog 49 [.d (.ifc 182 (.agg [.int .i64 e])),.ptr (.arg 0) 0 0 0] ⟨[],[some (.box 38 [.d (.int .i64 old)])]⟩ (Ret (fun _:Unit=>([],⟨[],[some (.box 38 [.d (.int .i64 e)])]⟩)) fun _=>True):=by
 refine Zv hT (T:=tab) (N:=17) (rs:=[]) _ _ Tryz.func49 rfl rfl rfl Kr rfl ?_
 (refine gW ?_;intros)
 refine Qcf rfl Tryz.underlying182 rfl ?_
 (refine gW ?_;intros)
 exact⟨(),Tt,by repeat' (first|exact Tt|exact rfl|exact Qgx _|refine And.intro ?_ ?_),rfl⟩
end Go.Proofs.YtmlhghddfobmmaaGreatDoor
namespace Go.Ab
set_option linter.unusedSimpArgs false
set_option linter.unusedVariables false
def BcL (m:Mem):List AV->List AV->Prop
 |[],[]=>True
 |A::r,B::s=>(B=A\/∃x,B=.d x/\J9 m A x)/\BcL m r s
 |_,_=>False
theorem BcL.at {m:Mem}:∀{a b:List AV},BcL m a b->a.length=b.length/\∀(j:Nat) B,b[j]?=some B->∃A,a[j]?=some A/\(B=A\/∃x,B=.d x/\J9 m A x)
 |[],[],_=>⟨rfl,fun j B h=>by simp at h⟩
 | A :: r,B :: s,h=>by
   obtain⟨h1,h2⟩:=BcL.at h.2
   refine⟨by simp[h1],fun j B' hB=>?_⟩
   cases j with
   |zero=>simp at hB;subst hB;exact⟨A,rfl,h.1⟩
   |succ j=>simpa using h2 j B' (by simpa using hB)
 |[],_::_,h=>h.elim
 |_::_,[],h=>h.elim
theorem BcL.refl {m:Mem}:∀(a:List AV),BcL m a a
 |[]=>Tt
 |_::r=>⟨.inl rfl,BcL.refl r⟩
theorem Awp.frzC {P:Program}{m:Mem}{N:Nat}{c:Code}{env:Env}{Q:Ja}(ks:List Nat)(p:Nat){e sz g n:Nat}{f:Nat->List AV}(f':Nat->List AV)(hp:m.get (.loc p)=some (.vec e sz g n f))(hk:ks.elem p=false)
 (hc:∀i,i<n->BcL (m.only ks) (f i) (f' i)) (k:Awp P N c env ((m.less ks).put (.loc p) (some (.vec e sz g n f'))) Q):Awp P N c env m Q :=
 ⟨fun ro lo a w σ F hN hD he hm=>by
  have hat:=Mem.get_at hp
  obtain⟨pl,hpl⟩:∃pl,σ (.loc p)=some (some pl):=by
   cases hs:σ (.loc p) with
   |none=>rw[(hm.dom _).1 hs]at hat;cases hat
   | some q =>
     cases q with
     |none=>rw[(hm.lv _ _ hs).1 rfl]at hat;cases hat
     |some pl=>exact⟨pl,rfl⟩
  obtain⟨B,hB,hok⟩:=(hm.lv _ _ hpl).2 pl rfl
  rw[hat]at hB
  injection hB with hB
  injection hB with hB
  subst hB
  have hr:X6 σ ks (.loc p)=some (some pl):=by
   show(bif ks.elem p then(σ (.loc p)).map fun _=>none else σ (.loc p))=_
   rw[hk]
   exact hpl
  have hupd:upd (X6 σ ks) (.loc p) (some pl)=X6 σ ks:=by
   funext r
   by_cases e:r=.loc p
   .subst e;rw[J3,hr]
   .rw[J4 _ _ e]
  obtain⟨k1,k2,k3,k4,k5⟩:=hok
  have hbk:Jx w (Zp F (kept σ ks)) (upd (X6 σ ks) (.loc p) (some pl)) (.vec e sz g n f') pl:=by
   rw[hupd]
   refine⟨k1,k2,k3,fun i hi=>by rw[<-(hc i hi).at.1];exact k4 i hi,fun b tot hl=>?_⟩
   obtain⟨k6,k7,us,k8,k9,k10⟩:=k5 b tot hl
   refine⟨k6,k7,us,k8,k9,fun i j B hi hB=>?_⟩
   obtain⟨A,hA,h⟩:=(hc i hi).at.2 j B hB
   obtain⟨u,hu,hv,h1⟩:=k10 i j A hi hA
   refine⟨u,hu,?_,h1⟩
   rcases h with rfl|⟨x,rfl,hx⟩
   .exact hv.mono (fun _ h=>.inl h) (fun _ _=>rfl) G4
   .exact .d (J9.ok (Dj hm) hx (hv.mono (fun _ h=>h) (fun _ _=>rfl) Nv))
  obtain⟨g1,_⟩:=Ge (w':=w) (C1 (ks:=ks) hm) hr (Qgx _) (fun _ _ _=>rfl) ⟨Qgx _,fun _=>rfl⟩ hbk
   (fun b t hl=>⟨(hm.nf _ pl b t hpl hl).2,.inl ⟨t,hl⟩⟩)
  rw[hupd]at g1
  exact wpIn_mono (k.run ro lo a w _ _ hN (hD.step (Lt hm)) (fun t=>(he t).mono (fun _ h=>.inl h) (fun _ _=>rfl) G4) g1) fun e a2 w2 h5=>Uw (Lt hm) (.of G4) h5⟩
theorem Awp.frzB {P:Program}{m:Mem}{N:Nat}{c:Code}{env:Env}{Q:Ja}(ks:List Nat)(p:Nat){e:Nat}{cs:List AV}(cs':List AV)(hp:m.get (.loc p)=some (.box e cs))(hk:ks.elem p=false)
 (hc:BcL (m.only ks) cs cs') (k:Awp P N c env ((m.less ks).put (.loc p) (some (.box e cs'))) Q):Awp P N c env m Q :=
 ⟨fun ro lo a w σ F hN hD he hm=>by
  have hat:=Mem.get_at hp
  obtain⟨pl,hpl⟩:∃pl,σ (.loc p)=some (some pl):=by
   cases hs:σ (.loc p) with
   |none=>rw[(hm.dom _).1 hs]at hat;cases hat
   | some q =>
     cases q with
     |none=>rw[(hm.lv _ _ hs).1 rfl]at hat;cases hat
     |some pl=>exact⟨pl,rfl⟩
  obtain⟨B,hB,hok⟩:=(hm.lv _ _ hpl).2 pl rfl
  rw[hat]at hB
  injection hB with hB
  injection hB with hB
  subst hB
  have hr:X6 σ ks (.loc p)=some (some pl):=by
   show(bif ks.elem p then(σ (.loc p)).map fun _=>none else σ (.loc p))=_
   rw[hk]
   exact hpl
  have hupd:upd (X6 σ ks) (.loc p) (some pl)=X6 σ ks:=by
   funext r
   by_cases e:r=.loc p
   .subst e;rw[J3,hr]
   .rw[J4 _ _ e]
  obtain⟨k1,k2,b,k3,us,k4,k5,k6⟩:=hok
  obtain⟨hlen,hcc⟩:=hc.at
  have hbk:Jx w (Zp F (kept σ ks)) (upd (X6 σ ks) (.loc p) (some pl)) (.box e cs') pl:=by
   rw[hupd]
   refine⟨k1,by rw[<-hlen];exact k2,b,k3,us,k4,by rw[<-hlen];exact k5,fun j B u hB hu=>?_⟩
   obtain⟨A,hA,h⟩:=hcc j B hB
   obtain⟨hv,h1⟩:=k6 j A u hA hu
   refine⟨?_,h1⟩
   rcases h with rfl|⟨x,rfl,hx⟩
   .exact hv.mono (fun _ h=>.inl h) (fun _ _=>rfl) G4
   .exact .d (J9.ok (Dj hm) hx (hv.mono (fun _ h=>h) (fun _ _=>rfl) Nv))
  obtain⟨g1,_⟩:=Ge (w':=w) (C1 (ks:=ks) hm) hr (Qgx _) (fun _ _ _=>rfl) ⟨Qgx _,fun _=>rfl⟩ hbk
   (fun b t hl=>⟨(hm.nf _ pl b t hpl hl).2,.inl ⟨t,hl⟩⟩)
  rw[hupd]at g1
  exact wpIn_mono (k.run ro lo a w _ _ hN (hD.step (Lt hm)) (fun t=>(he t).mono (fun _ h=>.inl h) (fun _ _=>rfl) G4) g1) fun e a2 w2 h5=>Uw (Lt hm) (.of G4) h5⟩
theorem Qo.vecJ {e:TypeId}{sz g n:Nat}{f f':Nat->List AV}(h:∀i,i<n->JL (f i) (f' i)):Qo (.vec e sz g n f) (.vec e sz g n f'):=fun w F σ pl hb=>by
 obtain⟨h1,h2,h3,h4,h5⟩:=hb
 refine⟨h1,h2,h3,fun i hi=>by rw[(h i hi).at.1];exact h4 i hi,fun b tot hl=>?_⟩
 obtain⟨h6,h7,us,h8,h9,h10⟩:=h5 b tot hl
 refine⟨h6,h7,us,h8,h9,fun i j A hi hA=>?_⟩
 obtain⟨hlen,hat⟩:=(h i hi).at
 have hj:=(Qh7.1 hA).1
 have hB:(f' i)[j]?=some ((f' i)[j]'Om):=Qgy Om
 obtain⟨u,hu,hv,h1⟩:=h10 i j _ hi hB
 refine⟨u,hu,?_,h1⟩
 rcases hat j A hA with rfl|h3
 .exact .junk
 .rw[hB]at h3
  cases h3
  exact hv
def jks:Nat->List AV
 |0=>[]
 |n+1=>.junk::jks n
theorem Rp:∀(x:List AV) {n:Nat},x.length=n->JL (jks n) x
 |[],_,h=>by subst h;exact Tt
 |_::r,_,h=>by subst h;exact Rp r rfl
end Go.Ab
namespace Go.Proofs.YtmlhghddfobmmaaGreatDoor
set_option linter.unusedSimpArgs false
set_option linter.unusedVariables false
open Go Go.Ab
set_option maxRecDepth 100000
set_option maxHeartbeats 0
structure Yl (c:Cat):Prop where
 crs:c.crs.length<=1000
 same:c.same.length<=1000
 prg:c.prg.length<=1000
 cls:c.classes.length<=9223372036854775807
 fees:c.fees.length<=9223372036854775807
 hon:c.honours.length<=9223372036854775807
 cnt:∀x∈c.crs,Jj x.need<=1000000/\Jj x.bar<=1000000
 reqs:∀p∈c.prg,p.reqs.length<=1000/\∀q∈p.reqs,q.names.length<=1000/\Qg q.fr
def Jy (c:Cat):List (Option Blk):=[some (.box 32 (up (Q0 c))),some (.box 32 (up [.nils,.nils,.nils,.nils,.nils,.nils,.nils])),some (.box 38 [.d (.int .i64 0)])]
theorem Q6r (old:Int):Qz Tryz.prog 49 [.d .nili,.ptr (.arg 0) 0 0 0] ⟨[],[some (.box 38 [.d (.int .i64 old)])]⟩ (Ret (fun _:Unit=>([],⟨[],[some (.box 38 [.d (.int .i64 old)])]⟩)) fun _=>True):=by
 refine Zv hT (T:=tab) (N:=17) (rs:=[]) _ _ Tryz.func49 rfl rfl rfl Kr rfl ?_
 (refine gW ?_;intros)
 exact⟨(),Tt,by repeat' (first|exact Tt|exact rfl|exact Qgx _|refine And.intro ?_ ?_),rfl⟩
def rsR:List ResultVar:=[.cell 2 32,.cell 3 38]
theorem Qe6 (c:Cat)(e:Int)(he:J1 c=e)(h0:e≠0){l:List (Option Blk)}{env:Env}(hE:U3 env rsR=[(2,.ptr (.arg 1) 0 0 0),(3,.ptr (.arg 2) 0 0 0)]) :
 Fp Tryz.prog tab 49 (.ptr (.arg 2) 0 0 0) rsR [.agg (Q0 (Qj c)),.int .i64 (J1 c)] (.panic (chE e)) env ⟨l,Jy c⟩:=by
 have hV:Qj c=Rc:=by rw[Qj,if_neg (by rw[he];exact h0)]
 rw[hV,he]
 refine⟨_,.ifc 182 (.agg [.int .i64 e]),rfl,fun w F=>.ifc (.agg rfl fun j x u hx hu=>?_),by rw[hE];rfl,Ev.mk ?_⟩
 .match j with
  |0=>simp at hx hu;subst hx;subst hu;exact .int
  |j+1=>simp at hx
 .rw[hE]
  refine(Q6q e 0).frame [.arg 2] rfl ⟨rfl,Tt⟩ fun A m0 ⟨_,_,e1,e2⟩=>?_
  subst e2
  refine⟨rfl,?_⟩
  refine⟨?_,?_,Tt⟩
  .conv=>whnf
   exact .eq (y:=.agg [.nils,.nils,.nils,.nils,.nils,.nils,.nils]) (.inr ⟨rfl,rfl,rfl,rfl,rfl,rfl,rfl,Tt⟩)
  .conv=>whnf
   exact .d
theorem Yh (c:Cat)(e:Int)(he:J1 c=e)(h0:e≠0){l:List (Option Blk)}{env:Env}(hE:U3 env rsR=[(2,.ptr (.arg 1) 0 0 0),(3,.ptr (.arg 2) 0 0 0)]) :
 Ev (Fp Tryz.prog tab 49 (.ptr (.arg 2) 0 0 0) rsR [.agg (Q0 (Qj c)),.int .i64 (J1 c)] (.panic (chE e)) env ⟨l,Jy c⟩):=Ev.mk (Qe6 c e he h0 hE)
theorem Qdz (x:Crs):Pure Tryz.prog 52 [.agg (Q6 x)] [.str x.name]:=by
 refine Q4 hT (T:=tab) (N:=5) (rs:=[.tmp 2]) Tryz.func52 rfl rfl rfl Kr rfl ?_
 (refine gW ?_;intros)
 exact⟨rfl,Tt⟩
theorem Qe0 (x:Crs):Pure Tryz.prog 54 [.agg (Q6 x)] [.int .i64 x.number]:=by
 refine Q4 hT (T:=tab) (N:=5) (rs:=[.tmp 2]) Tryz.func54 rfl rfl rfl Kr rfl ?_
 (refine gW ?_;intros)
 exact⟨rfl,Tt⟩
theorem Qe1 (x:Prg):Pure Tryz.prog 56 [.agg (Q9 x)] [.str x.name]:=by
 refine Q4 hT (T:=tab) (N:=5) (rs:=[.tmp 2]) Tryz.func56 rfl rfl rfl Kr rfl ?_
 (refine gW ?_;intros)
 exact⟨rfl,Tt⟩
theorem Qe2 (x:Prg):Pure Tryz.prog 58 [.agg (Q9 x)] [.int .i64 x.number]:=by
 refine Q4 hT (T:=tab) (N:=5) (rs:=[.tmp 2]) Tryz.func58 rfl rfl rfl Kr rfl ?_
 (refine gW ?_;intros)
 exact⟨rfl,Tt⟩
theorem Qe3 (x:Req):Pure Tryz.prog 60 [.agg (Jv x)] [.str x.name]:=by
 refine Q4 hT (T:=tab) (N:=5) (rs:=[.tmp 2]) Tryz.func60 rfl rfl rfl Kr rfl ?_
 (refine gW ?_;intros)
 exact⟨rfl,Tt⟩
theorem Q3o (x:Cls):Pure Tryz.prog 62 [.agg (Wz x)] [.str x.name]:=by
 refine Q4 hT (T:=tab) (N:=5) (rs:=[.tmp 2]) Tryz.func62 rfl rfl rfl Kr rfl ?_
 (refine gW ?_;intros)
 exact⟨rfl,Tt⟩
theorem Qe4 (x:Fee):Pure Tryz.prog 64 [.agg (U0 x)] [.str x.name]:=by
 refine Q4 hT (T:=tab) (N:=5) (rs:=[.tmp 2]) Tryz.func64 rfl rfl rfl Kr rfl ?_
 (refine gW ?_;intros)
 exact⟨rfl,Tt⟩
def nxt:Code->Code
 | .seq _ b=>b
 |c=>c
noncomputable def Fb (n:Nat)(c:Code):Code:=Nat.rec c (fun _ x=>nxt x) n
noncomputable def Q3l (n:Nat):Code:=Fb n (Tryz.f14.body.getD .skip)
def Ft (c:Cat):Ja:=Fp Tryz.prog tab 49 (.ptr (.arg 2) 0 0 0) rsR [.agg (Q0 (Qj c)),.int .i64 (J1 c)]
end Go.Proofs.YtmlhghddfobmmaaGreatDoor
