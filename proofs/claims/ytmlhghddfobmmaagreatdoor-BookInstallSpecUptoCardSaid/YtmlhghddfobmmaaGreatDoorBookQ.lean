import Derived.Test.YtmlhghddfobmmaaGreatDoorBookI
import Derived.Test.YtmlhghddfobmmaaGreatDoorIntSort
import Derived.Test.YtmlhghddfobmmaaGreatDoorFrz
import Derived.Test.YtmlhghddfobmmaaGreatDoorBookM
import Derived.Test.YtmlhghddfobmmaaGreatDoorEngAM
import Derived.Test.YtmlhghddfobmmaaGreatDoorEngAZ
namespace Go.Proofs.YtmlhghddfobmmaaGreatDoor
set_option linter.unusedSimpArgs false
set_option linter.unusedVariables false
open Go Go.Ab
set_option maxRecDepth 100000
set_option maxHeartbeats 0
def Lg (f:Fct):Bool:=decide (f.kind=1)&&(decide (f.object=0)&&bw f.subject 0 4095)
def Xe (many:Int)(l:List Int)(f:Fct):List Int:=if many<=(l.length:Int) then l else if Lg f=true/\f.subject ∉ l then l++[f.subject] else l
theorem Qc5 (many:Int)(l:List Int)(f:Fct):(Xe many l f).length<=l.length+1:=by
 unfold Xe
 split
 .omega
 .split
  .rw[Jp];exact Qgx _
  .omega
theorem Q2f {many:Int}:∀{fs:List Fct} {l:List Int},many<=(l.length:Int)->fs.foldl (Xe many) l=l
 |[],_,_=>rfl
 |f::r,l,h=>by rw[List.foldl_cons,Xe,if_pos h];exact Q2f h
def Li (fs:List Fct)(many:Int):List Int:=fs.foldl (Xe many) []
theorem Qc7 (fs:List Fct)(many:Int):(Li fs many).length<=fs.length:=by
 have key:∀(fs:List Fct) (l:List Int),(fs.foldl (Xe many) l).length<=l.length+fs.length:=by
  intro fs
  induction fs with
  |nil=>intro l;exact Qgx _
  | cons f r ih =>
    intro l
    rw[List.foldl_cons,Qhs]
    have h1:=ih (Xe many l f)
    have h2:=Qc5 many l f
    omega
 have:=key fs []
 rw[Qig,Qh9]at this
 exact this
theorem Ej {many:Int}{l:List Int}{f:Fct}(hm:¬ many<=(l.length:Int))(h:Lg f=false):Xe many l f=l:=by
 rw[Xe,if_neg hm,if_neg]
 intro h2
 rw[h]at h2
 exact Bool.noConfusion h2.1
def Yd (w:Wor)(kn:Int):List Int:=Wq (Li w.fcts (atV w.fcts ⟨12,0,0⟩ 0 kn).1)
theorem Mp (l:List Int):(Wq l).length=l.length:=List.length_mergeSort _
def N5 (xs:List Red):D:=.slc 5 xs.length fun i=>Ng (xs.getD i default)
def Xd (l:List Int):List Int->Bool:=fun key=>decide (key.headD 0∈l)
theorem L6 (l:List Int)(x:Int)(key:List Int)(hf:(Ksh.one .i64).fits key):(decide (key=[x])||Xd l key)=Xd (l++[x]) key:=by
 match key,hf with
 | [a],_ =>
   rw[Bool.eq_iff_iff,Bool.or_eq_true,decide_eq_true_iff]
   show _\/decide (a∈l)=true↔decide (a∈l++[x])=true
   rw[decide_eq_true_iff,decide_eq_true_iff,Qi7,Qi9]
   exact⟨fun h=>h.elim (fun h=>.inr (by injection h)) .inl,fun h=>h.elim .inr fun h=>.inl (by rw[h])⟩
def Ay (l:List Int):List Int->AV:=fun key=>.d (.bool (Xd l key))
theorem Be (l:List Int)(x:Int)(key:List Int)(hf:(Ksh.one .i64).fits key):(bif decide (key=[x]) then AV.d (.bool true) else Ay l key)=Ay (l++[x]) key:=by
 have h:=L6 l x key hf
 unfold Ay
 rw[<-h]
 cases decide (key=[x])<;>rfl
theorem B5 (xs:List Int)(x:Int){n:Nat}(hn:n=xs.length)(i:Nat)(hi:i<n+1):Je n (Yx xs) (Jr [[dV x]]) i=Yx (xs++[x]) i:=by
 subst hn
 exact Di (fun n=>[di n]) xs x _ rfl i (by rw[Jp];exact hi)
structure NS where
 k:Nat
 g:Nat
 l:List Int
theorem Ek (w:Wor)(hw:WfW w)(hl:w.fcts.length<=100000)(kn:Int):Pure Tryz.prog 27 [.agg (U2 w),di kn] [J6 (Yd w kn),N5 [rdK ⟨12,0,0⟩ 0]]:=by
 have hA:=Kl w.fcts hw.fct ⟨12,0,0⟩ 0 kn
 unfold Yd
 obtain⟨v,hv⟩:∃v,atV w.fcts ⟨12,0,0⟩ 0 kn=v:=⟨_,rfl⟩
 rw[hv]at hA⊢
 obtain⟨many,b⟩:=v
 dsimp only at hA⊢
 refine Q4 hT (T:=tab) (N:=70) (rs:=[.tmp 4,.tmp 5]) Tryz.func27 rfl rfl rfl Kr rfl ?_
 repeat' (first|with_reducible refine Sq.go ?_|((with_reducible refine Ev.mk ?_);conv=>whnf)|with_reducible refine Dr.mk ⟨Kr,Kr⟩ ?_|with_reducible refine obG ?_|with_reducible refine Ob.mk ?_ ?_|(with_reducible first|refine brT fun h=>?_|refine brF fun h=>?_|refine Br.mk (fun h=>?_) fun h=>?_)<;>(try simp only[bsl,Qhm,bne_iff_ne,bs2]at h)<;>(try contradiction)<;>try (exfalso;omega))
 refine hA.call ?_
 repeat' (first|with_reducible refine Sq.go ?_|((with_reducible refine Ev.mk ?_);conv=>whnf)|with_reducible refine Dr.mk ⟨Kr,Kr⟩ ?_|with_reducible refine obG ?_|with_reducible refine Ob.mk ?_ ?_|(with_reducible first|refine brT fun h=>?_|refine brF fun h=>?_|refine Br.mk (fun h=>?_) fun h=>?_)<;>(try simp only[bsl,Qhm,bne_iff_ne,bs2]at h)<;>(try contradiction)<;>try (exfalso;omega))
 refine Awp.vec 4 3 1 (Yx []) rfl ?_
 refine Q7 hT (S:=NS) (fun z=>([(4,.osl (.loc 3) z.g 0 z.l.length),(6,lp 1),(7,dV many),(9,.mp (.loc 2)),(24,.d (Zd w.fcts)),(25,dV w.fcts.length),(26,dV z.k)],
  ⟨[bX 51 (up (U2 w)),bX 90 (up (eKe ⟨12,0,0⟩)),some (.map (.one .i64) (Xd z.l) fun key=>.d (.bool (Xd z.l key))),bV 3 1 z.g z.l.length (Yx z.l)],[]⟩))
  (fun z=>z.k<=w.fcts.length/\z.l.length<=z.k/\Li w.fcts many=(w.fcts.drop z.k).foldl (Xe many) z.l) (fun z=>w.fcts.length-z.k) ⟨0,0,[]⟩ ?_ ?_ ?_
 .repeat' (first|exact Tt|exact rfl|exact Qgx _|refine And.intro ?_ ?_)
  .intro key hf
   exact⟨(by simp[Xd]),fun h=>(by cases h)⟩
  .intro i hi
   exact absurd hi (Qhh i)
 .exact⟨Qh3 _,Qh3 _,rfl⟩
 .rintro⟨k,g,l⟩ ⟨hk,hlk,hc⟩
  dsimp only at hk hlk hc⊢
  by_cases hk2:k<w.fcts.length
  .rw [Qc hk2,List.foldl_cons] at hc
   have kc:Kp _:=⟨hc⟩
   clear hc
   by_cases hm:many<=(l.length:Int)
   .have hfin:Li w.fcts many=l:=by rw[kc.h,Xe,if_pos hm,Q2f hm]
    have kf:Kp _:=⟨hfin⟩
    clear kc
    repeat' (first|with_reducible refine Sq.go ?_|((with_reducible refine Ev.mk ?_);conv=>whnf)|with_reducible refine Dr.mk ⟨Kr,Kr⟩ ?_|with_reducible refine obG ?_|with_reducible refine Ob.mk ?_ ?_|(with_reducible first|refine brT fun h=>?_|refine brF fun h=>?_|refine Br.mk (fun h=>?_) fun h=>?_)<;>(try simp only[bsl,Qhm,bne_iff_ne,bs2]at h)<;>(try contradiction)<;>try (exfalso;omega))
    refine(C4 l Om g 3).at [.loc 3] rfl ⟨rfl,Tt⟩ (fun _ _=>⟨rfl,?_⟩)
    repeat' (first|with_reducible refine Sq.go ?_|((with_reducible refine Ev.mk ?_);conv=>whnf)|with_reducible refine Dr.mk ⟨Kr,Kr⟩ ?_|with_reducible refine obG ?_|with_reducible refine Ob.mk ?_ ?_|(with_reducible first|refine brT fun h=>?_|refine brF fun h=>?_|refine Br.mk (fun h=>?_) fun h=>?_)<;>(try simp only[bsl,Qhm,bne_iff_ne,bs2]at h)<;>(try contradiction)<;>try (exfalso;omega))
    refine⟨⟨rfl,rfl,Qhz (Qh9 _),?_,fun i hi=>?_⟩,⟨rfl,rfl,fun i hi=>?_⟩,Tt⟩
    .rw[hfin,Mp]
    .rw[hfin,Qh9]
     rfl
    .rw[show i=0 from Qi1.1 hi]
     rfl
   .by_cases q1:(w.fcts.getD k default).kind=1
    case neg =>
     have hst:Xe many l (w.fcts.getD k default)=l:=by exact Ej hm (by rw[Lg,Qh0 q1,Bool.false_and])
     repeat' (first|with_reducible refine Sq.go ?_|((with_reducible refine Ev.mk ?_);conv=>whnf)|with_reducible refine Dr.mk ⟨Kr,Kr⟩ ?_|with_reducible refine obG ?_|with_reducible refine Ob.mk ?_ ?_|(with_reducible first|refine brT fun h=>?_|refine brF fun h=>?_|refine Br.mk (fun h=>?_) fun h=>?_)<;>(try simp only[bsl,Qhm,bne_iff_ne,bs2]at h)<;>(try contradiction)<;>try (exfalso;omega))
     all_goals try (exfalso;have h9:=h.2;rw[hh]at h9;cases h9;done)
     refine stp ⟨k+1,g,l⟩ ?_ ⟨by show k+1<=w.fcts.length;omega,by show l.length<=k+1;omega,by rw[kc.h,hst]⟩
     exact lq
    by_cases q2:(w.fcts.getD k default).object=0
    case neg =>
     have hst:Xe many l (w.fcts.getD k default)=l:=by exact Ej hm (by rw[Lg,Qh0 q2,Bool.false_and,Bool.and_false])
     repeat' (first|with_reducible refine Sq.go ?_|((with_reducible refine Ev.mk ?_);conv=>whnf)|with_reducible refine Dr.mk ⟨Kr,Kr⟩ ?_|with_reducible refine obG ?_|with_reducible refine Ob.mk ?_ ?_|(with_reducible first|refine brT fun h=>?_|refine brF fun h=>?_|refine Br.mk (fun h=>?_) fun h=>?_)<;>(try simp only[bsl,Qhm,bne_iff_ne,bs2]at h)<;>(try contradiction)<;>try (exfalso;omega))
     all_goals try (exfalso;have h9:=h.2;rw[hh]at h9;cases h9;done)
     refine stp ⟨k+1,g,l⟩ ?_ ⟨by show k+1<=w.fcts.length;omega,by show l.length<=k+1;omega,by rw[kc.h,hst]⟩
     exact lq
    have hI:=V0 (w.fcts.getD k default).subject 0 4095
    cases q3:bw (w.fcts.getD k default).subject 0 4095<;>rw[q3]at hI
    .have hst:Xe many l (w.fcts.getD k default)=l:=by exact Ej hm (by rw[Lg,q3,Bool.and_false,Bool.and_false])
     repeat' (first|with_reducible refine Sq.go ?_|((with_reducible refine Ev.mk ?_);conv=>whnf)|with_reducible refine Dr.mk ⟨Kr,Kr⟩ ?_|with_reducible refine obG ?_|with_reducible refine Ob.mk ?_ ?_|(with_reducible first|refine brT fun h=>?_|refine brF fun h=>?_|refine Br.mk (fun h=>?_) fun h=>?_)<;>(try simp only[bsl,Qhm,bne_iff_ne,bs2]at h)<;>(try contradiction)<;>try (exfalso;omega))
     refine hI.call ?_
     repeat' (first|with_reducible refine Sq.go ?_|((with_reducible refine Ev.mk ?_);conv=>whnf)|with_reducible refine Dr.mk ⟨Kr,Kr⟩ ?_|with_reducible refine obG ?_|with_reducible refine Ob.mk ?_ ?_|(with_reducible first|refine brT fun h=>?_|refine brF fun h=>?_|refine Br.mk (fun h=>?_) fun h=>?_)<;>(try simp only[bsl,Qhm,bne_iff_ne,bs2]at h)<;>(try contradiction)<;>try (exfalso;omega))
     all_goals try (exfalso;have h9:=h.2;rw[hh]at h9;cases h9;done)
     refine stp ⟨k+1,g,l⟩ ?_ ⟨by show k+1<=w.fcts.length;omega,by show l.length<=k+1;omega,by rw[kc.h,hst]⟩
     exact lq
    have ho:Lg (w.fcts.getD k default)=true:=by rw[Lg,Qh8 q1,Qh8 q2,q3];rfl
    by_cases q4:(w.fcts.getD k default).subject∈l
    .have hst:Xe many l (w.fcts.getD k default)=l:=by rw[Xe,if_neg hm,if_neg];exact fun h=>h.2 q4
     have hh:Xd l [(w.fcts.getD k default).subject]=true:=Qh8 q4
     repeat' (first|with_reducible refine Sq.go ?_|((with_reducible refine Ev.mk ?_);conv=>whnf)|with_reducible refine Dr.mk ⟨Kr,Kr⟩ ?_|with_reducible refine obG ?_|with_reducible refine Ob.mk ?_ ?_|(with_reducible first|refine brT fun h=>?_|refine brF fun h=>?_|refine Br.mk (fun h=>?_) fun h=>?_)<;>(try simp only[bsl,Qhm,bne_iff_ne,bs2]at h)<;>(try contradiction)<;>try (exfalso;omega))
     refine hI.call ?_
     repeat' (first|with_reducible refine Sq.go ?_|((with_reducible refine Ev.mk ?_);conv=>whnf)|with_reducible refine Dr.mk ⟨Kr,Kr⟩ ?_|with_reducible refine obG ?_|with_reducible refine Ob.mk ?_ ?_|(with_reducible first|refine brT fun h=>?_|refine brF fun h=>?_|refine Br.mk (fun h=>?_) fun h=>?_)<;>(try simp only[bsl,Qhm,bne_iff_ne,bs2]at h)<;>(try contradiction)<;>try (exfalso;omega))
     all_goals try (exfalso;have h9:=h.2;rw[hh]at h9;cases h9;done)
     refine stp ⟨k+1,g,l⟩ ?_ ⟨by show k+1<=w.fcts.length;omega,by show l.length<=k+1;omega,by rw[kc.h,hst]⟩
     exact lq
    .have hst:Xe many l (w.fcts.getD k default)=l++[(w.fcts.getD k default).subject]:=by rw[Xe,if_neg hm,if_pos ⟨ho,q4⟩]
     have hh:Xd l [(w.fcts.getD k default).subject]=false:=Qh0 q4
     repeat' (first|with_reducible refine Sq.go ?_|((with_reducible refine Ev.mk ?_);conv=>whnf)|with_reducible refine Dr.mk ⟨Kr,Kr⟩ ?_|with_reducible refine obG ?_|with_reducible refine Ob.mk ?_ ?_|(with_reducible first|refine brT fun h=>?_|refine brF fun h=>?_|refine Br.mk (fun h=>?_) fun h=>?_)<;>(try simp only[bsl,Qhm,bne_iff_ne,bs2]at h)<;>(try contradiction)<;>try (exfalso;omega))
     refine hI.call ?_
     repeat' (first|with_reducible refine Sq.go ?_|((with_reducible refine Ev.mk ?_);conv=>whnf)|with_reducible refine Dr.mk ⟨Kr,Kr⟩ ?_|with_reducible refine obG ?_|with_reducible refine Ob.mk ?_ ?_|(with_reducible first|refine brT fun h=>?_|refine brF fun h=>?_|refine Br.mk (fun h=>?_) fun h=>?_)<;>(try simp only[bsl,Qhm,bne_iff_ne,bs2]at h)<;>(try contradiction)<;>try (exfalso;omega))
     all_goals try exact(h.elim (fun h=>h.elim (fun h=>h q1) fun h=>h q2) fun h=>(by rw[hh]at h;cases h)).elim
     refine stp ⟨k+1,g+1,l++[(w.fcts.getD k default).subject]⟩ ?_ ⟨by show k+1<=w.fcts.length;omega,by show(l++[_]).length<=k+1;rw[Jp];omega,by rw[kc.h,hst]⟩
     dsimp only
     rw[Jp]
     repeat' (first|exact Tt|exact rfl|exact Qgx _|refine And.intro ?_ ?_)
     all_goals first
      |(intro key hf;exact⟨L6 l _ key hf,fun _=>⟨Be l _ key hf,rfl⟩⟩)
      |(intro i hi;exact⟨B5 l _ rfl i hi,rfl⟩)
  .rw[Qr Om,List.foldl_nil]at hc
   have hfin:Li w.fcts many=l:=hc
   repeat' (first|with_reducible refine Sq.go ?_|((with_reducible refine Ev.mk ?_);conv=>whnf)|with_reducible refine Dr.mk ⟨Kr,Kr⟩ ?_|with_reducible refine obG ?_|with_reducible refine Ob.mk ?_ ?_|(with_reducible first|refine brT fun h=>?_|refine brF fun h=>?_|refine Br.mk (fun h=>?_) fun h=>?_)<;>(try simp only[bsl,Qhm,bne_iff_ne,bs2]at h)<;>(try contradiction)<;>try (exfalso;omega))
   refine(C4 l Om g 3).at [.loc 3] rfl ⟨rfl,Tt⟩ (fun _ _=>⟨rfl,?_⟩)
   repeat' (first|with_reducible refine Sq.go ?_|((with_reducible refine Ev.mk ?_);conv=>whnf)|with_reducible refine Dr.mk ⟨Kr,Kr⟩ ?_|with_reducible refine obG ?_|with_reducible refine Ob.mk ?_ ?_|(with_reducible first|refine brT fun h=>?_|refine brF fun h=>?_|refine Br.mk (fun h=>?_) fun h=>?_)<;>(try simp only[bsl,Qhm,bne_iff_ne,bs2]at h)<;>(try contradiction)<;>try (exfalso;omega))
   refine⟨⟨rfl,rfl,Qhz (Qh9 _),?_,fun i hi=>?_⟩,⟨rfl,rfl,fun i hi=>?_⟩,Tt⟩
   .rw[hfin,Mp]
   .rw[hfin,Qh9]
    rfl
   .rw[show i=0 from Qi1.1 hi]
    rfl
def Zg (a b:Int):Ke:=⟨2,min a b,max a b⟩
def eqS (w:Wor)(t kn a:Int)(z:List Int × List Red)(c:Int):List Int × List Red :=
 if c∈z.1 then z else(if atV w.fcts (Zg a c) t kn=(1,true) then z.1++[c] else z.1,z.2++[rdK (Zg a c) t])
def eqR (w:Wor)(t kn:Int)(ns:List Int)(z:List Int × List Red)(i:Nat):List Int × List Red:=ns.foldl (eqS w t kn (z.1.getD i default)) z
def B3 (w:Wor)(t kn:Int)(ns:List Int)(j:Nat)(z:List Int × List Red):List Int × List Red:=if j<z.1.length then eqR w t kn ns z j else z
def Zq (w:Wor)(t kn:Int)(ns:List Int):Nat->List Int × List Red->List Int × List Red
 |0,z=>z
 |j+1,z=>B3 w t kn ns j (Zq w t kn ns j z)
theorem Dh (w:Wor)(t kn:Int)(ns:List Int)(j:Nat)(z:List Int × List Red):Zq w t kn ns (j+1) z=B3 w t kn ns j (Zq w t kn ns j z):=rfl
structure EqI (ns:List Int)(n:Int)(l:List Int):Prop where
 nd:l.Nodup
 sub:∀x∈l,x=n\/x∈ns
theorem Q2a {α:Type}[DecidableEq α]:∀{l m:List α},l.Nodup->(∀x∈l,x∈m)->l.length<=m.length
 |[],m,_,_=>Qh3 _
 | x :: r,m,h,hs=>by
   rw[List.nodup_cons]at h
   have hx:=hs x (by simp)
   have:=Q2a (l:=r) (m:=m.erase x) h.2 fun y hy=>by
    rw[List.mem_erase_of_ne (show y≠x from fun e=>h.1 (e▸hy))]
    exact hs y (by simp[hy])
   rw[List.length_erase_of_mem hx]at this
   have hm:0<m.length:=List.length_pos_of_mem hx
   rw[Qhs]
   omega
theorem EqI.len {ns:List Int}{n:Int}{l:List Int}(h:EqI ns n l):l.length<=ns.length+1:=by
 have:=Q2a (m:=n::ns) h.nd fun x hx=>by
  rcases h.sub x hx with rfl|h
  .simp
  .simp[h]
 simpa using this
theorem EqI.step {ns:List Int}{n:Int}{w:Wor}{t kn a:Int}{z:List Int × List Red}{c:Int}(hc:c∈ns)(h:EqI ns n z.1):EqI ns n (eqS w t kn a z c).1:=by
 unfold eqS
 split
 .exact h
 .rename_i hn
  dsimp only
  split
  .refine⟨?_,fun x hx=>?_⟩
   .rw[List.nodup_append]
    refine⟨h.nd,by simp,fun x hx y hy=>?_⟩
    simp at hy
    subst hy
    exact fun e=>hn (e▸hx)
   .rcases Qi7.1 hx with hx|hx
    .exact h.sub x hx
    .simp at hx
     subst hx
     exact .inr hc
  .exact h
theorem EqI.steps {ns:List Int}{n:Int}{w:Wor}{t kn a:Int}:∀(l:List Int) (z:List Int × List Red),(∀c∈l,c∈ns)->EqI ns n z.1->EqI ns n (l.foldl (eqS w t kn a) z).1
 |[],z,_,h=>h
 |c::r,z,hs,h=>EqI.steps r _ (fun c hc=>hs c (by simp[hc])) (EqI.step (hs c (by simp)) h)
theorem EqI.iter {ns:List Int}{n:Int}{w:Wor}{t kn:Int}{z:List Int × List Red}(h:EqI ns n z.1):∀j,EqI ns n (Zq w t kn ns j z).1
 |0=>h
 | j + 1=>by
   rw[Dh,B3]
   split
   .exact EqI.steps ns _ (fun _ h=>h) (EqI.iter h j)
   .exact EqI.iter h j
theorem Q1c {w:Wor}{t kn:Int}{ns:List Int}{z:List Int × List Red}{j:Nat}(h:(Zq w t kn ns j z).1.length<=j):∀m,Zq w t kn ns (j+m) z=Zq w t kn ns j z
 |0=>rfl
 | m + 1=>by
   rw[<-Nat.add_assoc,Dh,Q1c h m,B3,if_neg Om]
def Vb (n:Int):List Int × List Red:=([n],[rdK ⟨12,0,0⟩ 0])
theorem EqI.start (ns:List Int)(n:Int):EqI ns n (Vb n).1:=⟨by simp[Vb],fun x hx=>.inl (by simpa[Vb] using hx)⟩
def Hs (w:Wor)(n t kn:Int):List Int × List Red:=Zq w t kn (Yd w kn) 200000 (Vb n)
def Hz (n t:Int):Bool:=bw n 0 4095&&bw t 0 1023
def Gn (w:Wor)(n t kn:Int):List Int:=if Hz n t then Wq (Hs w n t kn).1 else[n]
def equalR (w:Wor)(n t kn:Int):List Red:=if Hz n t then(Hs w n t kn).2 else[]
theorem Q2j (w:Wor)(kn:Int):(Yd w kn).length<=w.fcts.length:=by
 unfold Yd
 rw[Mp]
 exact Qc7 _ _
theorem Q0b {w:Wor}(hl:w.fcts.length<=100000){n t kn:Int}{j:Nat}(hj:j<=(Zq w t kn (Yd w kn) j (Vb n)).1.length)(h:(Zq w t kn (Yd w kn) j (Vb n)).1.length<=j):Hs w n t kn=Zq w t kn (Yd w kn) j (Vb n):=by
 have h1:=(EqI.iter (w:=w) (t:=t) (kn:=kn) (EqI.start (Yd w kn) n) j).len
 have h2:=Q2j w kn
 have:=Q1c h (200000-j)
 rw[show j+(200000-j)=200000 by omega]at this
 exact this
structure ES where
 k:Nat
 g:Nat
 g2:Nat
 f:Bool
 z:List Int × List Red
def Mk (xs:List Red):Nat->List AV:=fun i=>up (Ng (xs.getD i default))
theorem H8 (xs:List Red)(x:Red){n:Nat}(hn:n=xs.length)(i:Nat)(hi:i<n+1):Je n (Mk xs) (Jr [up (Ng x)]) i=Mk (xs++[x]) i:=by
 subst hn
 exact Di Ng xs x _ rfl i (by rw[Jp];exact hi)
structure RdI (i:Nat)(a:Int)(l:List Int):Prop where
 lt:i<l.length
 eq:l.getD i default=a
theorem RdI.snoc {i:Nat}{a x:Int}{l:List Int}(h:RdI i a l):RdI i a (l++[x]):=⟨by rw[Jp];have:=h.lt;omega,by rw[Sg h.lt];exact h.eq⟩
theorem Q0a {w:Wor}{t kn a c:Int}{z:List Int × List Red}(h:c∈z.1):eqS w t kn a z c=z:=if_pos h
theorem Pz {w:Wor}{t kn a c:Int}{z:List Int × List Red}(h:c ∉ z.1)(h2:atV w.fcts (Zg a c) t kn≠(1,true)):eqS w t kn a z c=(z.1,z.2++[rdK (Zg a c) t]):=by
 rw[eqS,if_neg h,if_neg h2]
theorem Py {w:Wor}{t kn a c:Int}{z:List Int × List Red}(h:c ∉ z.1)(h2:atV w.fcts (Zg a c) t kn=(1,true)):eqS w t kn a z c=(z.1++[c],z.2++[rdK (Zg a c) t]):=by
 rw[eqS,if_neg h,if_pos h2]
theorem Q88 {w:Wor}{t kn a c:Int}{z:List Int × List Red}:(eqS w t kn a z c).2.length<=z.2.length+1:=by
 unfold eqS
 split
 .omega
 .dsimp only;rw[Jp];exact Qgx _
theorem Q08 {w:Wor}{t kn a:Int}:∀(l:List Int) (z:List Int × List Red),(l.foldl (eqS w t kn a) z).2.length<=z.2.length+l.length
 |[],z=>Qgx _
 | c :: r,z=>by
   have h1:=Q08 r (eqS w t kn a z c) (w:=w) (t:=t) (kn:=kn) (a:=a)
   have h2:=Q88 (w:=w) (t:=t) (kn:=kn) (a:=a) (z:=z) (c:=c)
   rw[List.foldl_cons,Qhs]
   omega
theorem Q1b {w:Wor}{t kn:Int}{ns:List Int}{z:List Int × List Red}:∀j,(Zq w t kn ns j z).2.length<=z.2.length+j*ns.length
 |0=>by simp[Zq]
 | j + 1=>by
   have h:=Q1b (w:=w) (t:=t) (kn:=kn) (ns:=ns) (z:=z) j
   rw[Dh,B3,Nat.succ_mul]
   split
   .have:=Q08 (w:=w) (t:=t) (kn:=kn) (a:=(Zq w t kn ns j z).1.getD j default) ns (Zq w t kn ns j z)
    unfold eqR
    omega
   .omega
theorem Q8e (w:Wor) (hw:WfW w) (hl:w.fcts.length≤1000) (n t kn:Int):Pure Tryz.prog 23 [.agg (U2 w),.int .i64 n,.int .i64 t,.int .i64 kn] [J6 (Gn w n t kn),Wl (equalR w n t kn)]:=by
 have hI:=V0 n 0 4095
 have hJ:=V0 t 0 1023
 have hN:=Ek w hw Om kn
 have hnl:=Q2j w kn
 refine Q4 hT (T:=tab) (N:=100) (rs:=[.tmp 8,.tmp 9]) Tryz.func23 rfl rfl rfl Kr rfl ?_
 cases h1:bw n 0 4095<;>rw[h1]at hI
 .have e1:Gn w n t kn=[n]:=by simp[Gn,Hz,h1]
  have e2:equalR w n t kn=[]:=by simp[equalR,Hz,h1]
  rw[e1,e2]
  (refine gW ?_;intros)
  refine hI.call ?_
  (refine gW ?_;intros;try rename_i h)
  exact⟨⟨rfl,rfl,Qgx _,rfl,fun i hi=>by rw[show i=0 from Qi1.1 hi];rfl⟩,rfl,Tt⟩
 cases h2:bw t 0 1023<;>rw[h2]at hJ
 .have e1:Gn w n t kn=[n]:=by simp[Gn,Hz,h2]
  have e2:equalR w n t kn=[]:=by simp[equalR,Hz,h2]
  rw[e1,e2]
  (refine gW ?_;intros)
  refine hI.call ?_
  (refine gW ?_;intros;try rename_i h)
  refine hJ.call ?_
  (refine gW ?_;intros;try rename_i h)
  exact⟨⟨rfl,rfl,Qgx _,rfl,fun i hi=>by rw[show i=0 from Qi1.1 hi];rfl⟩,rfl,Tt⟩
 have e1:Gn w n t kn=Wq (Hs w n t kn).1:=by simp[Gn,Hz,h1,h2]
 have e2:equalR w n t kn=(Hs w n t kn).2:=by simp[equalR,Hz,h1,h2]
 rw[e1,e2]
 have ht2:0<=t/\t<=1023:=by simpa[bw] using h2
 obtain⟨ns,hns⟩:∃ns,Yd w kn=ns:=⟨_,rfl⟩
 have kE:Kp (∀j,EqI ns n (Zq w t kn ns j (Vb n)).1):=⟨fun j=>by rw[<-hns];exact EqI.iter (EqI.start (Yd w kn) n) j⟩
 have kR:Kp (∀j,(Zq w t kn ns j (Vb n)).2.length<=1+j*ns.length):=⟨fun j=>Q1b (z:=Vb n) j⟩
 have kS:Kp (∀j,j<=(Zq w t kn ns j (Vb n)).1.length->(Zq w t kn ns j (Vb n)).1.length<=j->Hs w n t kn=Zq w t kn ns j (Vb n)):=⟨fun j=>by rw[<-hns];exact Q0b Om⟩
 rw[hns]at hN hnl
 clear hns e1 e2
 (refine gW ?_;intros)
 refine hI.call ?_
 (refine gW ?_;intros;try rename_i h)
 refine hJ.call ?_
 (refine gW ?_;intros;try rename_i h)
 refine hN.call ?_
 (refine gW ?_;intros;try rename_i h)
 refine Q7 hT (S:=ES) (fun z=>([(2,dV t),(3,dV kn),(4,lp 0),(8,.osl (.loc 1) z.g 0 z.z.1.length),(9,bif z.f then .osl (.loc 4) z.g2 0 z.z.2.length else .d (N5 z.z.2)),(10,.d (J6 ns)),(11,.mp (.loc 2)),(12,dV z.k)],
  ⟨bX 51 (up (U2 w))::bV 3 1 z.g z.z.1.length (Yx z.z.1)::some (.map (.one .i64) (Xd z.z.1) fun key=>.d (.bool (Xd z.z.1 key)))::(bif z.f then[none,bV 102 5 z.g2 z.z.2.length (Mk z.z.2)] else[]),[]⟩))
  (fun z=>z.k<=z.z.1.length/\z.z=Zq w t kn ns z.k (Vb n)) (fun z=>ns.length+2-z.k) ⟨0,0,0,false,Vb n⟩ ?_ ?_ ?_
 .repeat' (first|exact Tt|exact rfl|exact Qgx _|refine And.intro ?_ ?_)
  all_goals first
   |(intro key hf;exact⟨L6 [] n key hf,fun _=>⟨Be [] n key hf,rfl⟩⟩)
   | (intro i hi
      have hi:i<1:=hi
      obtain rfl:i=0:=by omega
      exact⟨rfl,rfl⟩)
 .exact⟨Qh3 _,rfl⟩
 .rintro ⟨j,g,g2,f,l,r⟩ ⟨hj,hz⟩
  dsimp only at hj hz⊢
  have hE:EqI ns n l:=by have:=kE.h j;rw[<-hz]at this;exact this
  have hlen:=hE.len
  have hrl:r.length<=1+j*ns.length:=by have:=kR.h j;rw[<-hz]at this;exact this
  have hjn:j*ns.length<=1001*1000:=Nat.mul_le_mul Om Om
  obtain⟨B,hB⟩:∃B,1+j*ns.length=B:=⟨_,rfl⟩
  have hB2:B<=1001001:=by omega
  rw[hB]at hrl
  clear hB hjn
  have kz:Kp _:=⟨hz⟩
  clear hz
  by_cases hj2:j<l.length
  .have kn1:Kp (Zq w t kn ns (j + 1) (Vb n)=ns.foldl (eqS w t kn (l.getD j default)) (l,r)):=⟨by
    rw[Dh,<-kz.h,B3,if_pos hj2]
    rfl⟩
   obtain⟨a,ha⟩:∃a,l.getD j default=a:=⟨_,rfl⟩
   have hI0:RdI j a l:=⟨hj2,ha⟩
   rw[ha]at kn1
   clear ha kz
   cases f
   case false =>
    (refine gW ?_;intros;try rename_i h)
    refine Q7 hT (S:=ES) (fun z=>([(2,dV t),(3,dV kn),(4,lp 0),(8,.osl (.loc 1) z.g 0 z.z.1.length),(9,bif z.f then .osl (.loc 4) z.g2 0 z.z.2.length else .d (N5 z.z.2)),(10,.d (J6 ns)),(11,.mp (.loc 2)),(12,dV j),(45,.d (J6 ns)),(46,dV ns.length),(47,dV z.k)],
     ⟨bX 51 (up (U2 w))::bV 3 1 z.g z.z.1.length (Yx z.z.1)::some (.map (.one .i64) (Xd z.z.1) fun key=>.d (.bool (Xd z.z.1 key)))::(bif z.f then[none,bV 102 5 z.g2 z.z.2.length (Mk z.z.2)] else[]),[]⟩))
     (fun z=>z.k<=ns.length/\EqI ns n z.z.1/\RdI j a z.z.1/\z.z.2.length<=B+z.k/\Zq w t kn ns (j+1) (Vb n)=(ns.drop z.k).foldl (eqS w t kn a) z.z) (fun z=>ns.length-z.k) ⟨0,g,g2,false,(l,r)⟩ ?_ ?_ ?_
    .exact lq
    .exact⟨Qh3 _,hE,hI0,hrl,kn1.h⟩
    .clear hE hI0 hrl hlen hj hj2 kn1
     rintro⟨k,g,g2,f,l,r⟩ ⟨hk,hE,hI,hrl,hc⟩
     dsimp only at hk hE hI hrl hc⊢
     have hlen:=hE.len
     have hjl:=hI.lt
     by_cases hk2:k<ns.length
     .rw [Qc hk2,List.foldl_cons] at hc
      have hcm:ns.getD k default∈ns:=Qe hk2
      by_cases hin:ns.getD k default∈l
      .have hh:Xd l [ns.getD k default]=true:=Qh8 hin
       rw[Q0a hin]at hc
       have kc:Kp _:=⟨hc⟩
       clear hc hin hcm
       cases f
       case false =>
        ((refine xW ?_ ?_)<;>(intros;try rename_i h))
        all_goals try (exfalso;rw[hh]at h;cases h;done)
        refine stp ⟨k+1,g,g2,false,(l,r)⟩ ?_ ⟨by show k+1<=ns.length;omega,hE,hI,by show r.length<=B+(k+1);omega,kc.h⟩
        exact lq
       case true =>
        ((refine xW ?_ ?_)<;>(intros;try rename_i h))
        all_goals try (exfalso;rw[hh]at h;cases h;done)
        refine stp ⟨k+1,g,g2,true,(l,r)⟩ ?_ ⟨by show k+1<=ns.length;omega,hE,hI,by show r.length<=B+(k+1);omega,kc.h⟩
        exact lq
      .have hh:Xd l [ns.getD k default]=false:=Qh0 hin
       have kc:Kp _:=⟨hc⟩
       have kin:Kp _:=⟨hin⟩
       have ha:=hI.eq
       subst ha
       clear hc hin
       cases f
       case false =>
        (refine gS ?_;intros;try rename_i h)
        refine Sq.go ?_
        (refine gS ?_;intros;try rename_i h)
        refine Sq.go ?_
        (refine gS ?_;intros;try rename_i h)
        refine Sq.go ?_
        (refine gS ?_;intros;try rename_i h)
        refine Sq.go ?_
        ((refine xS ?_ ?_)<;>(intros;try rename_i h))
        all_goals try (exfalso;rw[hh]at h;cases h;done)
        refine Sq.alt (Awp.seq (Awp.oneN hT 13 ⟨15,90,66,12,[di 2,di (min (l.getD j default) (ns.getD k default)),di (max (l.getD j default) (ns.getD k default))]⟩
         Kr Kr Kr Kr (G6.of rfl ⟨rfl,rfl,rfl⟩ rfl ⟨rfl,rfl,rfl⟩ rfl rfl rfl rfl rfl rfl rfl rfl rfl) rfl ?_))
        conv=>whnf
        (refine gS ?_;intros;try rename_i h)
        refine⟨rfl,Ev.mk (Z3 hT _ _ _ _ (Ev.o ?_))⟩
        have hA:=Kl w.fcts hw.fct (Zg (l.getD j default) (ns.getD k default)) t kn
        obtain⟨v,hv⟩:∃v,atV w.fcts (Zg (l.getD j default) (ns.getD k default)) t kn=v:=⟨_,rfl⟩
        rw[hv]at hA
        obtain⟨v,b⟩:=v
        by_cases hb:v=1/\b=true
        .obtain⟨rfl,rfl⟩:=hb
         have hst:=Py (z:=(l,r)) kin.h hv
         have hE2:=EqI.step (w:=w) (t:=t) (kn:=kn) (a:=l.getD j default) (z:=(l,r)) hcm hE
         rw[hst]at hE2
         have kc2:=kc.h
         rw[hst]at kc2
         have kc3:Kp _:=⟨kc2⟩
         clear kc2
         (refine gW ?_;intros;try rename_i h)
         refine hA.call ?_
         (refine gW ?_;intros;try rename_i h)
         refine stp ⟨k+1,g+1,0,true,(l++[ns.getD k default],r++[rdK (Zg (l.getD j default) (ns.getD k default)) t])⟩ ?_ ⟨by show k+1<=ns.length;omega,hE2,hI.snoc,by show(r++[_]).length<=B+(k+1);rw[Jp];omega,kc3.h⟩
         dsimp only
         rw[Jp,Jp]
         repeat' (first|exact Tt|exact rfl|exact Qgx _|refine And.intro ?_ ?_)
         all_goals first
          |(intro key hf;exact⟨L6 l _ key hf,fun _=>⟨Be l _ key hf,rfl⟩⟩)
          |(intro i hi;exact⟨B5 l _ rfl i hi,rfl⟩)
          |(intro i hi;exact⟨H8 r (rdK (Zg (l.getD j default) (ns.getD k default)) t) rfl i hi,rfl⟩)
        .have hst:=Pz (z:=(l,r)) (t:=t) (kn:=kn) (a:=l.getD j default) kin.h (by rw[hv];exact fun e=>hb (by injection e with e1 e2;exact⟨e1,e2⟩))
         have kc2:=kc.h
         rw[hst]at kc2
         have kc3:Kp _:=⟨kc2⟩
         clear kc2
         cases b
         case' true=>have hv1:v≠1:=fun e=>hb ⟨e,rfl⟩
         all_goals
          clear hb hst
          (refine gW ?_;intros;try rename_i h)
          refine hA.call ?_
          (refine gW ?_;intros;try rename_i h)
          refine stp ⟨k+1,g,0,true,(l,r++[rdK (Zg (l.getD j default) (ns.getD k default)) t])⟩ ?_ ⟨by show k+1<=ns.length;omega,hE,hI,by show(r++[_]).length<=B+(k+1);rw[Jp];omega,kc3.h⟩
          dsimp only
          rw[Jp]
          repeat' (first|exact Tt|exact rfl|exact Qgx _|refine And.intro ?_ ?_)
          all_goals first
           |(intro key hf;exact⟨rfl,fun _=>⟨rfl,rfl⟩⟩)
           |(intro i hi;exact⟨rfl,rfl⟩)
           |(intro i hi;exact⟨H8 r (rdK (Zg (l.getD j default) (ns.getD k default)) t) rfl i hi,rfl⟩)
       case true =>
        (refine gS ?_;intros;try rename_i h)
        refine Sq.go ?_
        (refine gS ?_;intros;try rename_i h)
        refine Sq.go ?_
        (refine gS ?_;intros;try rename_i h)
        refine Sq.go ?_
        (refine gS ?_;intros;try rename_i h)
        refine Sq.go ?_
        ((refine xS ?_ ?_)<;>(intros;try rename_i h))
        all_goals try (exfalso;rw[hh]at h;cases h;done)
        refine Sq.alt (Awp.seq (Awp.oneN hT 13 ⟨15,90,66,12,[di 2,di (min (l.getD j default) (ns.getD k default)),di (max (l.getD j default) (ns.getD k default))]⟩
         Kr Kr Kr Kr (G6.of rfl ⟨rfl,rfl,rfl⟩ rfl ⟨rfl,rfl,rfl⟩ rfl rfl rfl rfl rfl rfl rfl rfl rfl) rfl ?_))
        conv=>whnf
        (refine gS ?_;intros;try rename_i h)
        refine⟨rfl,Ev.mk (Z3 hT _ _ _ _ (Ev.o ?_))⟩
        have hA:=Kl w.fcts hw.fct (Zg (l.getD j default) (ns.getD k default)) t kn
        obtain⟨v,hv⟩:∃v,atV w.fcts (Zg (l.getD j default) (ns.getD k default)) t kn=v:=⟨_,rfl⟩
        rw[hv]at hA
        obtain⟨v,b⟩:=v
        by_cases hb:v=1/\b=true
        .obtain⟨rfl,rfl⟩:=hb
         have hst:=Py (z:=(l,r)) kin.h hv
         have hE2:=EqI.step (w:=w) (t:=t) (kn:=kn) (a:=l.getD j default) (z:=(l,r)) hcm hE
         rw[hst]at hE2
         have kc2:=kc.h
         rw[hst]at kc2
         have kc3:Kp _:=⟨kc2⟩
         clear kc2
         (refine gW ?_;intros;try rename_i h)
         refine hA.call ?_
         (refine gW ?_;intros;try rename_i h)
         refine stp ⟨k+1,g+1,(g2+1),true,(l++[ns.getD k default],r++[rdK (Zg (l.getD j default) (ns.getD k default)) t])⟩ ?_ ⟨by show k+1<=ns.length;omega,hE2,hI.snoc,by show(r++[_]).length<=B+(k+1);rw[Jp];omega,kc3.h⟩
         dsimp only
         rw[Jp,Jp]
         repeat' (first|exact Tt|exact rfl|exact Qgx _|refine And.intro ?_ ?_)
         all_goals first
          |(intro key hf;exact⟨L6 l _ key hf,fun _=>⟨Be l _ key hf,rfl⟩⟩)
          |(intro i hi;exact⟨B5 l _ rfl i hi,rfl⟩)
          |(intro i hi;exact⟨H8 r (rdK (Zg (l.getD j default) (ns.getD k default)) t) rfl i hi,rfl⟩)
        .have hst:=Pz (z:=(l,r)) (t:=t) (kn:=kn) (a:=l.getD j default) kin.h (by rw[hv];exact fun e=>hb (by injection e with e1 e2;exact⟨e1,e2⟩))
         have kc2:=kc.h
         rw[hst]at kc2
         have kc3:Kp _:=⟨kc2⟩
         clear kc2
         cases b
         case' true=>have hv1:v≠1:=fun e=>hb ⟨e,rfl⟩
         all_goals
          clear hb hst
          (refine gW ?_;intros;try rename_i h)
          refine hA.call ?_
          (refine gW ?_;intros;try rename_i h)
          refine stp ⟨k+1,g,(g2+1),true,(l,r++[rdK (Zg (l.getD j default) (ns.getD k default)) t])⟩ ?_ ⟨by show k+1<=ns.length;omega,hE,hI,by show(r++[_]).length<=B+(k+1);rw[Jp];omega,kc3.h⟩
          dsimp only
          rw[Jp]
          repeat' (first|exact Tt|exact rfl|exact Qgx _|refine And.intro ?_ ?_)
          all_goals first
           |(intro key hf;exact⟨rfl,fun _=>⟨rfl,rfl⟩⟩)
           |(intro i hi;exact⟨rfl,rfl⟩)
           |(intro i hi;exact⟨H8 r (rdK (Zg (l.getD j default) (ns.getD k default)) t) rfl i hi,rfl⟩)
     .have hfin:Zq w t kn ns (j+1) (Vb n)=(l,r):=by rw[hc,Qr Om,List.foldl_nil]
      have kf:Kp _:=⟨hfin⟩
      clear hc hfin
      cases f
      case false =>
       (refine gW ?_;intros;try rename_i h)
       refine stp ⟨j+1,g,g2,false,(l,r)⟩ ?_ ⟨by show j+1<=l.length;omega,kf.h.symm⟩
       exact lq
      case true =>
       (refine gW ?_;intros;try rename_i h)
       refine stp ⟨j+1,g,g2,true,(l,r)⟩ ?_ ⟨by show j+1<=l.length;omega,kf.h.symm⟩
       exact lq
   case true =>
    (refine gW ?_;intros;try rename_i h)
    refine Q7 hT (S:=ES) (fun z=>([(2,dV t),(3,dV kn),(4,lp 0),(8,.osl (.loc 1) z.g 0 z.z.1.length),(9,bif z.f then .osl (.loc 4) z.g2 0 z.z.2.length else .d (N5 z.z.2)),(10,.d (J6 ns)),(11,.mp (.loc 2)),(12,dV j),(45,.d (J6 ns)),(46,dV ns.length),(47,dV z.k)],
     ⟨bX 51 (up (U2 w))::bV 3 1 z.g z.z.1.length (Yx z.z.1)::some (.map (.one .i64) (Xd z.z.1) fun key=>.d (.bool (Xd z.z.1 key)))::(bif z.f then[none,bV 102 5 z.g2 z.z.2.length (Mk z.z.2)] else[]),[]⟩))
     (fun z=>z.k<=ns.length/\EqI ns n z.z.1/\RdI j a z.z.1/\z.z.2.length<=B+z.k/\Zq w t kn ns (j+1) (Vb n)=(ns.drop z.k).foldl (eqS w t kn a) z.z) (fun z=>ns.length-z.k) ⟨0,g,g2,true,(l,r)⟩ ?_ ?_ ?_
    .exact lq
    .exact⟨Qh3 _,hE,hI0,hrl,kn1.h⟩
    .clear hE hI0 hrl hlen hj hj2 kn1
     rintro⟨k,g,g2,f,l,r⟩ ⟨hk,hE,hI,hrl,hc⟩
     dsimp only at hk hE hI hrl hc⊢
     have hlen:=hE.len
     have hjl:=hI.lt
     by_cases hk2:k<ns.length
     .rw [Qc hk2,List.foldl_cons] at hc
      have hcm:ns.getD k default∈ns:=Qe hk2
      by_cases hin:ns.getD k default∈l
      .have hh:Xd l [ns.getD k default]=true:=Qh8 hin
       rw[Q0a hin]at hc
       have kc:Kp _:=⟨hc⟩
       clear hc hin hcm
       cases f
       case false =>
        ((refine xW ?_ ?_)<;>(intros;try rename_i h))
        all_goals try (exfalso;rw[hh]at h;cases h;done)
        refine stp ⟨k+1,g,g2,false,(l,r)⟩ ?_ ⟨by show k+1<=ns.length;omega,hE,hI,by show r.length<=B+(k+1);omega,kc.h⟩
        exact lq
       case true =>
        ((refine xW ?_ ?_)<;>(intros;try rename_i h))
        all_goals try (exfalso;rw[hh]at h;cases h;done)
        refine stp ⟨k+1,g,g2,true,(l,r)⟩ ?_ ⟨by show k+1<=ns.length;omega,hE,hI,by show r.length<=B+(k+1);omega,kc.h⟩
        exact lq
      .have hh:Xd l [ns.getD k default]=false:=Qh0 hin
       have kc:Kp _:=⟨hc⟩
       have kin:Kp _:=⟨hin⟩
       have ha:=hI.eq
       subst ha
       clear hc hin
       cases f
       case false =>
        (refine gS ?_;intros;try rename_i h)
        refine Sq.go ?_
        (refine gS ?_;intros;try rename_i h)
        refine Sq.go ?_
        (refine gS ?_;intros;try rename_i h)
        refine Sq.go ?_
        (refine gS ?_;intros;try rename_i h)
        refine Sq.go ?_
        ((refine xS ?_ ?_)<;>(intros;try rename_i h))
        all_goals try (exfalso;rw[hh]at h;cases h;done)
        refine Sq.alt (Awp.seq (Awp.oneN hT 13 ⟨15,90,66,12,[di 2,di (min (l.getD j default) (ns.getD k default)),di (max (l.getD j default) (ns.getD k default))]⟩
         Kr Kr Kr Kr (G6.of rfl ⟨rfl,rfl,rfl⟩ rfl ⟨rfl,rfl,rfl⟩ rfl rfl rfl rfl rfl rfl rfl rfl rfl) rfl ?_))
        conv=>whnf
        (refine gS ?_;intros;try rename_i h)
        refine⟨rfl,Ev.mk (Z3 hT _ _ _ _ (Ev.o ?_))⟩
        have hA:=Kl w.fcts hw.fct (Zg (l.getD j default) (ns.getD k default)) t kn
        obtain⟨v,hv⟩:∃v,atV w.fcts (Zg (l.getD j default) (ns.getD k default)) t kn=v:=⟨_,rfl⟩
        rw[hv]at hA
        obtain⟨v,b⟩:=v
        by_cases hb:v=1/\b=true
        .obtain⟨rfl,rfl⟩:=hb
         have hst:=Py (z:=(l,r)) kin.h hv
         have hE2:=EqI.step (w:=w) (t:=t) (kn:=kn) (a:=l.getD j default) (z:=(l,r)) hcm hE
         rw[hst]at hE2
         have kc2:=kc.h
         rw[hst]at kc2
         have kc3:Kp _:=⟨kc2⟩
         clear kc2
         (refine gW ?_;intros;try rename_i h)
         refine hA.call ?_
         (refine gW ?_;intros;try rename_i h)
         refine stp ⟨k+1,g+1,0,true,(l++[ns.getD k default],r++[rdK (Zg (l.getD j default) (ns.getD k default)) t])⟩ ?_ ⟨by show k+1<=ns.length;omega,hE2,hI.snoc,by show(r++[_]).length<=B+(k+1);rw[Jp];omega,kc3.h⟩
         dsimp only
         rw[Jp,Jp]
         repeat' (first|exact Tt|exact rfl|exact Qgx _|refine And.intro ?_ ?_)
         all_goals first
          |(intro key hf;exact⟨L6 l _ key hf,fun _=>⟨Be l _ key hf,rfl⟩⟩)
          |(intro i hi;exact⟨B5 l _ rfl i hi,rfl⟩)
          |(intro i hi;exact⟨H8 r (rdK (Zg (l.getD j default) (ns.getD k default)) t) rfl i hi,rfl⟩)
        .have hst:=Pz (z:=(l,r)) (t:=t) (kn:=kn) (a:=l.getD j default) kin.h (by rw[hv];exact fun e=>hb (by injection e with e1 e2;exact⟨e1,e2⟩))
         have kc2:=kc.h
         rw[hst]at kc2
         have kc3:Kp _:=⟨kc2⟩
         clear kc2
         cases b
         case' true=>have hv1:v≠1:=fun e=>hb ⟨e,rfl⟩
         all_goals
          clear hb hst
          (refine gW ?_;intros;try rename_i h)
          refine hA.call ?_
          (refine gW ?_;intros;try rename_i h)
          refine stp ⟨k+1,g,0,true,(l,r++[rdK (Zg (l.getD j default) (ns.getD k default)) t])⟩ ?_ ⟨by show k+1<=ns.length;omega,hE,hI,by show(r++[_]).length<=B+(k+1);rw[Jp];omega,kc3.h⟩
          dsimp only
          rw[Jp]
          repeat' (first|exact Tt|exact rfl|exact Qgx _|refine And.intro ?_ ?_)
          all_goals first
           |(intro key hf;exact⟨rfl,fun _=>⟨rfl,rfl⟩⟩)
           |(intro i hi;exact⟨rfl,rfl⟩)
           |(intro i hi;exact⟨H8 r (rdK (Zg (l.getD j default) (ns.getD k default)) t) rfl i hi,rfl⟩)
       case true =>
        (refine gS ?_;intros;try rename_i h)
        refine Sq.go ?_
        (refine gS ?_;intros;try rename_i h)
        refine Sq.go ?_
        (refine gS ?_;intros;try rename_i h)
        refine Sq.go ?_
        (refine gS ?_;intros;try rename_i h)
        refine Sq.go ?_
        ((refine xS ?_ ?_)<;>(intros;try rename_i h))
        all_goals try (exfalso;rw[hh]at h;cases h;done)
        refine Sq.alt (Awp.seq (Awp.oneN hT 13 ⟨15,90,66,12,[di 2,di (min (l.getD j default) (ns.getD k default)),di (max (l.getD j default) (ns.getD k default))]⟩
         Kr Kr Kr Kr (G6.of rfl ⟨rfl,rfl,rfl⟩ rfl ⟨rfl,rfl,rfl⟩ rfl rfl rfl rfl rfl rfl rfl rfl rfl) rfl ?_))
        conv=>whnf
        (refine gS ?_;intros;try rename_i h)
        refine⟨rfl,Ev.mk (Z3 hT _ _ _ _ (Ev.o ?_))⟩
        have hA:=Kl w.fcts hw.fct (Zg (l.getD j default) (ns.getD k default)) t kn
        obtain⟨v,hv⟩:∃v,atV w.fcts (Zg (l.getD j default) (ns.getD k default)) t kn=v:=⟨_,rfl⟩
        rw[hv]at hA
        obtain⟨v,b⟩:=v
        by_cases hb:v=1/\b=true
        .obtain⟨rfl,rfl⟩:=hb
         have hst:=Py (z:=(l,r)) kin.h hv
         have hE2:=EqI.step (w:=w) (t:=t) (kn:=kn) (a:=l.getD j default) (z:=(l,r)) hcm hE
         rw[hst]at hE2
         have kc2:=kc.h
         rw[hst]at kc2
         have kc3:Kp _:=⟨kc2⟩
         clear kc2
         (refine gW ?_;intros;try rename_i h)
         refine hA.call ?_
         (refine gW ?_;intros;try rename_i h)
         refine stp ⟨k+1,g+1,(g2+1),true,(l++[ns.getD k default],r++[rdK (Zg (l.getD j default) (ns.getD k default)) t])⟩ ?_ ⟨by show k+1<=ns.length;omega,hE2,hI.snoc,by show(r++[_]).length<=B+(k+1);rw[Jp];omega,kc3.h⟩
         dsimp only
         rw[Jp,Jp]
         repeat' (first|exact Tt|exact rfl|exact Qgx _|refine And.intro ?_ ?_)
         all_goals first
          |(intro key hf;exact⟨L6 l _ key hf,fun _=>⟨Be l _ key hf,rfl⟩⟩)
          |(intro i hi;exact⟨B5 l _ rfl i hi,rfl⟩)
          |(intro i hi;exact⟨H8 r (rdK (Zg (l.getD j default) (ns.getD k default)) t) rfl i hi,rfl⟩)
        .have hst:=Pz (z:=(l,r)) (t:=t) (kn:=kn) (a:=l.getD j default) kin.h (by rw[hv];exact fun e=>hb (by injection e with e1 e2;exact⟨e1,e2⟩))
         have kc2:=kc.h
         rw[hst]at kc2
         have kc3:Kp _:=⟨kc2⟩
         clear kc2
         cases b
         case' true=>have hv1:v≠1:=fun e=>hb ⟨e,rfl⟩
         all_goals
          clear hb hst
          (refine gW ?_;intros;try rename_i h)
          refine hA.call ?_
          (refine gW ?_;intros;try rename_i h)
          refine stp ⟨k+1,g,(g2+1),true,(l,r++[rdK (Zg (l.getD j default) (ns.getD k default)) t])⟩ ?_ ⟨by show k+1<=ns.length;omega,hE,hI,by show(r++[_]).length<=B+(k+1);rw[Jp];omega,kc3.h⟩
          dsimp only
          rw[Jp]
          repeat' (first|exact Tt|exact rfl|exact Qgx _|refine And.intro ?_ ?_)
          all_goals first
           |(intro key hf;exact⟨rfl,fun _=>⟨rfl,rfl⟩⟩)
           |(intro i hi;exact⟨rfl,rfl⟩)
           |(intro i hi;exact⟨H8 r (rdK (Zg (l.getD j default) (ns.getD k default)) t) rfl i hi,rfl⟩)
     .have hfin:Zq w t kn ns (j+1) (Vb n)=(l,r):=by rw[hc,Qr Om,List.foldl_nil]
      have kf:Kp _:=⟨hfin⟩
      clear hc hfin
      cases f
      case false =>
       (refine gW ?_;intros;try rename_i h)
       refine stp ⟨j+1,g,g2,false,(l,r)⟩ ?_ ⟨by show j+1<=l.length;omega,kf.h.symm⟩
       exact lq
      case true =>
       (refine gW ?_;intros;try rename_i h)
       refine stp ⟨j+1,g,g2,true,(l,r)⟩ ?_ ⟨by show j+1<=l.length;omega,kf.h.symm⟩
       exact lq
  .have hfin:Hs w n t kn=(l,r):=by
    have:=kS.h j
    rw[<-kz.h]at this
    exact this hj (show l.length<=j by omega)
   rw[hfin]
   have hl3:l.length<=1000000:=by omega
   clear kz kE kR kS hfin
   cases f
   case false =>
    (refine gW ?_;intros;try rename_i h)
    refine(C4 l hl3 g 3).at [.loc 1] rfl ⟨rfl,Tt⟩ (fun _ _=>⟨rfl,?_⟩)
    (refine gW ?_;intros;try rename_i h)
    exact⟨⟨rfl,rfl,Qhz (Qh9 _),(Mp l).symm,fun i hi=>by rw[Qh9];rfl⟩,⟨rfl,rfl,fun i hi=>rfl⟩,Tt⟩
   case true =>
    (refine gW ?_;intros;try rename_i h)
    refine(C4 l hl3 g 3).at [.loc 1] rfl ⟨rfl,Tt⟩ (fun _ _=>⟨rfl,?_⟩)
    (refine gW ?_;intros;try rename_i h)
    exact⟨⟨rfl,rfl,Qhz (Qh9 _),(Mp l).symm,fun i hi=>by rw[Qh9];rfl⟩,⟨rfl,rfl,Qhz (Qh9 _),rfl,fun i hi=>by rw[Qh9];rfl⟩,Tt⟩
end Go.Proofs.YtmlhghddfobmmaaGreatDoor
