import Derived.Test.YtmlhghddfobmmaaGreatDoorBookI
import Derived.Test.YtmlhghddfobmmaaGreatDoorIntSort
import Derived.Test.YtmlhghddfobmmaaGreatDoorFrz
import Derived.Test.YtmlhghddfobmmaaGreatDoorNamP
import Derived.Test.YtmlhghddfobmmaaGreatDoorEngAW
import Derived.Test.YtmlhghddfobmmaaGreatDoorOpsF
namespace Go.Proofs.YtmlhghddfobmmaaGreatDoor
set_option linter.unusedSimpArgs false
set_option linter.unusedVariables false
open Go Go.Ab
set_option maxRecDepth 100000
set_option maxHeartbeats 0
def numOk (f:Fct):Bool:=decide (f.kind=1)&&(decide (f.object=0)&&bw f.subject 0 4095)
def numStep (many:Int)(l:List Int)(f:Fct):List Int:=if many<=(l.length:Int) then l else if numOk f=true/\f.subject ∉ l then l++[f.subject] else l
theorem numStep_len (many:Int)(l:List Int)(f:Fct):(numStep many l f).length<=l.length+1:=by
 unfold numStep
 split
 .omega
 .split
  .rw[len_snoc];exact Nat.le_refl _
  .omega
theorem numFull {many:Int}:∀{fs:List Fct} {l:List Int},many<=(l.length:Int)->fs.foldl (numStep many) l=l
 |[],_,_=>rfl
 |f::r,l,h=>by rw[List.foldl_cons,numStep,if_pos h];exact numFull h
def numsL (fs:List Fct)(many:Int):List Int:=fs.foldl (numStep many) []
theorem numsL_len (fs:List Fct)(many:Int):(numsL fs many).length<=fs.length:=by
 have key:∀(fs:List Fct) (l:List Int),(fs.foldl (numStep many) l).length<=l.length+fs.length:=by
  intro fs
  induction fs with
  |nil=>intro l;exact Nat.le_refl _
  | cons f r ih =>
    intro l
    rw[List.foldl_cons,List.length_cons]
    have h1:=ih (numStep many l f)
    have h2:=numStep_len many l f
    omega
 have:=key fs []
 rw[List.length_nil,Nat.zero_add]at this
 exact this
theorem numStep_no {many:Int}{l:List Int}{f:Fct}(hm:¬ many<=(l.length:Int))(h:numOk f=false):numStep many l f=l:=by
 rw[numStep,if_neg hm,if_neg]
 intro h2
 rw[h]at h2
 exact Bool.noConfusion h2.1
def nums (w:Wor)(kn:Int):List Int:=srtI (numsL w.fcts (atV w.fcts ⟨12,0,0⟩ 0 kn).1)
theorem srtI_len (l:List Int):(srtI l).length=l.length:=List.length_mergeSort _
def cReds (xs:List Red):D:=.slc 5 xs.length fun i=>eRed (xs.getD i default)
def hasN (l:List Int):List Int->Bool:=fun key=>decide (key.headD 0∈l)
theorem hasN_snoc (l:List Int)(x:Int)(key:List Int)(hf:(Ksh.one .i64).fits key):(decide (key=[x])||hasN l key)=hasN (l++[x]) key:=by
 match key,hf with
 | [a],_ =>
   rw[Bool.eq_iff_iff,Bool.or_eq_true,decide_eq_true_iff]
   show _\/decide (a∈l)=true↔decide (a∈l++[x])=true
   rw[decide_eq_true_iff,decide_eq_true_iff,List.mem_append,List.mem_singleton]
   exact⟨fun h=>h.elim (fun h=>.inr (by injection h)) .inl,fun h=>h.elim .inr fun h=>.inl (by rw[h])⟩
def valN (l:List Int):List Int->AV:=fun key=>.d (.bool (hasN l key))
theorem valN_snoc (l:List Int)(x:Int)(key:List Int)(hf:(Ksh.one .i64).fits key):(bif decide (key=[x]) then AV.d (.bool true) else valN l key)=valN (l++[x]) key:=by
 have h:=hasN_snoc l x key hf
 unfold valN
 rw[<-h]
 cases decide (key=[x])<;>rfl
theorem rowN_join (xs:List Int)(x:Int){n:Nat}(hn:n=xs.length)(i:Nat)(hi:i<n+1):joinF n (rowN xs) (rowFn [[dV x]]) i=rowN (xs++[x]) i:=by
 subst hn
 exact join_snoc (fun n=>[di n]) xs x _ rfl i (by rw[len_snoc];exact hi)
structure NS where
 k:Nat
 g:Nat
 l:List Int
theorem numbers_ok (w:Wor)(hw:WfW w)(hl:w.fcts.length<=100000)(kn:Int):Pure Tryz.prog 27 [.agg (eWor w),di kn] [eInts (nums w kn),cReds [rdK ⟨12,0,0⟩ 0]]:=by
 have hA:=at_ok w.fcts hw.fct ⟨12,0,0⟩ 0 kn
 unfold nums
 obtain⟨v,hv⟩:∃v,atV w.fcts ⟨12,0,0⟩ 0 kn=v:=⟨_,rfl⟩
 rw[hv]at hA⊢
 obtain⟨many,b⟩:=v
 dsimp only at hA⊢
 refine pure_rule hT (T:=tab) (N:=70) (rs:=[.tmp 4,.tmp 5]) Tryz.func27 rfl rfl rfl Kr rfl ?_
 repeat' (first|with_reducible refine Sq.go ?_|((with_reducible refine Ev.mk ?_);conv=>whnf)|with_reducible refine Dr.mk ⟨Kr,Kr⟩ ?_|with_reducible refine obG ?_|with_reducible refine Ob.mk ?_ ?_|(with_reducible first|refine brT fun h=>?_|refine brF fun h=>?_|refine Br.mk (fun h=>?_) fun h=>?_)<;>(try simp only[bsl,beq_iff_eq,bne_iff_ne,bs2]at h)<;>(try contradiction)<;>try (exfalso;omega))
 refine hA.call ?_
 repeat' (first|with_reducible refine Sq.go ?_|((with_reducible refine Ev.mk ?_);conv=>whnf)|with_reducible refine Dr.mk ⟨Kr,Kr⟩ ?_|with_reducible refine obG ?_|with_reducible refine Ob.mk ?_ ?_|(with_reducible first|refine brT fun h=>?_|refine brF fun h=>?_|refine Br.mk (fun h=>?_) fun h=>?_)<;>(try simp only[bsl,beq_iff_eq,bne_iff_ne,bs2]at h)<;>(try contradiction)<;>try (exfalso;omega))
 refine Awp.vec 4 3 1 (rowN []) rfl ?_
 refine loop_rule hT (S:=NS) (fun z=>([(4,.osl (.loc 3) z.g 0 z.l.length),(6,lp 1),(7,dV many),(9,.mp (.loc 2)),(24,.d (eFcts w.fcts)),(25,dV w.fcts.length),(26,dV z.k)],
  ⟨[bX 51 (up (eWor w)),bX 90 (up (eKe ⟨12,0,0⟩)),some (.map (.one .i64) (hasN z.l) fun key=>.d (.bool (hasN z.l key))),bV 3 1 z.g z.l.length (rowN z.l)],[]⟩))
  (fun z=>z.k<=w.fcts.length/\z.l.length<=z.k/\numsL w.fcts many=(w.fcts.drop z.k).foldl (numStep many) z.l) (fun z=>w.fcts.length-z.k) ⟨0,0,[]⟩ ?_ ?_ ?_
 .repeat' (first|exact Tt|exact rfl|exact Nat.le_refl _|refine And.intro ?_ ?_)
  .intro key hf
   exact⟨(by simp[hasN]),fun h=>(by cases h)⟩
  .intro i hi
   exact absurd hi (Nat.not_lt_zero i)
 .exact⟨Nat.zero_le _,Nat.zero_le _,rfl⟩
 .rintro⟨k,g,l⟩ ⟨hk,hlk,hc⟩
  dsimp only at hk hlk hc⊢
  by_cases hk2:k<w.fcts.length
  .rw [drop_at hk2,List.foldl_cons] at hc
   have kc:Kp _:=⟨hc⟩
   clear hc
   by_cases hm:many<=(l.length:Int)
   .have hfin:numsL w.fcts many=l:=by rw[kc.h,numStep,if_pos hm,numFull hm]
    have kf:Kp _:=⟨hfin⟩
    clear kc
    repeat' (first|with_reducible refine Sq.go ?_|((with_reducible refine Ev.mk ?_);conv=>whnf)|with_reducible refine Dr.mk ⟨Kr,Kr⟩ ?_|with_reducible refine obG ?_|with_reducible refine Ob.mk ?_ ?_|(with_reducible first|refine brT fun h=>?_|refine brF fun h=>?_|refine Br.mk (fun h=>?_) fun h=>?_)<;>(try simp only[bsl,beq_iff_eq,bne_iff_ne,bs2]at h)<;>(try contradiction)<;>try (exfalso;omega))
    refine(sort_ok l Om g 3).at [.loc 3] rfl ⟨rfl,Tt⟩ (fun _ _=>⟨rfl,?_⟩)
    repeat' (first|with_reducible refine Sq.go ?_|((with_reducible refine Ev.mk ?_);conv=>whnf)|with_reducible refine Dr.mk ⟨Kr,Kr⟩ ?_|with_reducible refine obG ?_|with_reducible refine Ob.mk ?_ ?_|(with_reducible first|refine brT fun h=>?_|refine brF fun h=>?_|refine Br.mk (fun h=>?_) fun h=>?_)<;>(try simp only[bsl,beq_iff_eq,bne_iff_ne,bs2]at h)<;>(try contradiction)<;>try (exfalso;omega))
    refine⟨⟨rfl,rfl,Nat.le_of_eq (Nat.zero_add _),?_,fun i hi=>?_⟩,⟨rfl,rfl,fun i hi=>?_⟩,Tt⟩
    .rw[hfin,srtI_len]
    .rw[hfin,Nat.zero_add]
     rfl
    .rw[show i=0 from Nat.lt_one_iff.1 hi]
     rfl
   .by_cases q1:(w.fcts.getD k default).kind=1
    case neg =>
     have hst:numStep many l (w.fcts.getD k default)=l:=by exact numStep_no hm (by rw[numOk,decide_eq_false q1,Bool.false_and])
     repeat' (first|with_reducible refine Sq.go ?_|((with_reducible refine Ev.mk ?_);conv=>whnf)|with_reducible refine Dr.mk ⟨Kr,Kr⟩ ?_|with_reducible refine obG ?_|with_reducible refine Ob.mk ?_ ?_|(with_reducible first|refine brT fun h=>?_|refine brF fun h=>?_|refine Br.mk (fun h=>?_) fun h=>?_)<;>(try simp only[bsl,beq_iff_eq,bne_iff_ne,bs2]at h)<;>(try contradiction)<;>try (exfalso;omega))
     all_goals try (exfalso;have h9:=h.2;rw[hh]at h9;cases h9;done)
     refine stp ⟨k+1,g,l⟩ ?_ ⟨by show k+1<=w.fcts.length;omega,by show l.length<=k+1;omega,by rw[kc.h,hst]⟩
     exact lq
    by_cases q2:(w.fcts.getD k default).object=0
    case neg =>
     have hst:numStep many l (w.fcts.getD k default)=l:=by exact numStep_no hm (by rw[numOk,decide_eq_false q2,Bool.false_and,Bool.and_false])
     repeat' (first|with_reducible refine Sq.go ?_|((with_reducible refine Ev.mk ?_);conv=>whnf)|with_reducible refine Dr.mk ⟨Kr,Kr⟩ ?_|with_reducible refine obG ?_|with_reducible refine Ob.mk ?_ ?_|(with_reducible first|refine brT fun h=>?_|refine brF fun h=>?_|refine Br.mk (fun h=>?_) fun h=>?_)<;>(try simp only[bsl,beq_iff_eq,bne_iff_ne,bs2]at h)<;>(try contradiction)<;>try (exfalso;omega))
     all_goals try (exfalso;have h9:=h.2;rw[hh]at h9;cases h9;done)
     refine stp ⟨k+1,g,l⟩ ?_ ⟨by show k+1<=w.fcts.length;omega,by show l.length<=k+1;omega,by rw[kc.h,hst]⟩
     exact lq
    have hI:=in_ok (w.fcts.getD k default).subject 0 4095
    cases q3:bw (w.fcts.getD k default).subject 0 4095<;>rw[q3]at hI
    .have hst:numStep many l (w.fcts.getD k default)=l:=by exact numStep_no hm (by rw[numOk,q3,Bool.and_false,Bool.and_false])
     repeat' (first|with_reducible refine Sq.go ?_|((with_reducible refine Ev.mk ?_);conv=>whnf)|with_reducible refine Dr.mk ⟨Kr,Kr⟩ ?_|with_reducible refine obG ?_|with_reducible refine Ob.mk ?_ ?_|(with_reducible first|refine brT fun h=>?_|refine brF fun h=>?_|refine Br.mk (fun h=>?_) fun h=>?_)<;>(try simp only[bsl,beq_iff_eq,bne_iff_ne,bs2]at h)<;>(try contradiction)<;>try (exfalso;omega))
     refine hI.call ?_
     repeat' (first|with_reducible refine Sq.go ?_|((with_reducible refine Ev.mk ?_);conv=>whnf)|with_reducible refine Dr.mk ⟨Kr,Kr⟩ ?_|with_reducible refine obG ?_|with_reducible refine Ob.mk ?_ ?_|(with_reducible first|refine brT fun h=>?_|refine brF fun h=>?_|refine Br.mk (fun h=>?_) fun h=>?_)<;>(try simp only[bsl,beq_iff_eq,bne_iff_ne,bs2]at h)<;>(try contradiction)<;>try (exfalso;omega))
     all_goals try (exfalso;have h9:=h.2;rw[hh]at h9;cases h9;done)
     refine stp ⟨k+1,g,l⟩ ?_ ⟨by show k+1<=w.fcts.length;omega,by show l.length<=k+1;omega,by rw[kc.h,hst]⟩
     exact lq
    have ho:numOk (w.fcts.getD k default)=true:=by rw[numOk,decide_eq_true q1,decide_eq_true q2,q3];rfl
    by_cases q4:(w.fcts.getD k default).subject∈l
    .have hst:numStep many l (w.fcts.getD k default)=l:=by rw[numStep,if_neg hm,if_neg];exact fun h=>h.2 q4
     have hh:hasN l [(w.fcts.getD k default).subject]=true:=decide_eq_true q4
     repeat' (first|with_reducible refine Sq.go ?_|((with_reducible refine Ev.mk ?_);conv=>whnf)|with_reducible refine Dr.mk ⟨Kr,Kr⟩ ?_|with_reducible refine obG ?_|with_reducible refine Ob.mk ?_ ?_|(with_reducible first|refine brT fun h=>?_|refine brF fun h=>?_|refine Br.mk (fun h=>?_) fun h=>?_)<;>(try simp only[bsl,beq_iff_eq,bne_iff_ne,bs2]at h)<;>(try contradiction)<;>try (exfalso;omega))
     refine hI.call ?_
     repeat' (first|with_reducible refine Sq.go ?_|((with_reducible refine Ev.mk ?_);conv=>whnf)|with_reducible refine Dr.mk ⟨Kr,Kr⟩ ?_|with_reducible refine obG ?_|with_reducible refine Ob.mk ?_ ?_|(with_reducible first|refine brT fun h=>?_|refine brF fun h=>?_|refine Br.mk (fun h=>?_) fun h=>?_)<;>(try simp only[bsl,beq_iff_eq,bne_iff_ne,bs2]at h)<;>(try contradiction)<;>try (exfalso;omega))
     all_goals try (exfalso;have h9:=h.2;rw[hh]at h9;cases h9;done)
     refine stp ⟨k+1,g,l⟩ ?_ ⟨by show k+1<=w.fcts.length;omega,by show l.length<=k+1;omega,by rw[kc.h,hst]⟩
     exact lq
    .have hst:numStep many l (w.fcts.getD k default)=l++[(w.fcts.getD k default).subject]:=by rw[numStep,if_neg hm,if_pos ⟨ho,q4⟩]
     have hh:hasN l [(w.fcts.getD k default).subject]=false:=decide_eq_false q4
     repeat' (first|with_reducible refine Sq.go ?_|((with_reducible refine Ev.mk ?_);conv=>whnf)|with_reducible refine Dr.mk ⟨Kr,Kr⟩ ?_|with_reducible refine obG ?_|with_reducible refine Ob.mk ?_ ?_|(with_reducible first|refine brT fun h=>?_|refine brF fun h=>?_|refine Br.mk (fun h=>?_) fun h=>?_)<;>(try simp only[bsl,beq_iff_eq,bne_iff_ne,bs2]at h)<;>(try contradiction)<;>try (exfalso;omega))
     refine hI.call ?_
     repeat' (first|with_reducible refine Sq.go ?_|((with_reducible refine Ev.mk ?_);conv=>whnf)|with_reducible refine Dr.mk ⟨Kr,Kr⟩ ?_|with_reducible refine obG ?_|with_reducible refine Ob.mk ?_ ?_|(with_reducible first|refine brT fun h=>?_|refine brF fun h=>?_|refine Br.mk (fun h=>?_) fun h=>?_)<;>(try simp only[bsl,beq_iff_eq,bne_iff_ne,bs2]at h)<;>(try contradiction)<;>try (exfalso;omega))
     all_goals try exact(h.elim (fun h=>h.elim (fun h=>h q1) fun h=>h q2) fun h=>(by rw[hh]at h;cases h)).elim
     refine stp ⟨k+1,g+1,l++[(w.fcts.getD k default).subject]⟩ ?_ ⟨by show k+1<=w.fcts.length;omega,by show(l++[_]).length<=k+1;rw[len_snoc];omega,by rw[kc.h,hst]⟩
     dsimp only
     rw[len_snoc]
     repeat' (first|exact Tt|exact rfl|exact Nat.le_refl _|refine And.intro ?_ ?_)
     all_goals first
      |(intro key hf;exact⟨hasN_snoc l _ key hf,fun _=>⟨valN_snoc l _ key hf,rfl⟩⟩)
      |(intro i hi;exact⟨rowN_join l _ rfl i hi,rfl⟩)
  .rw[drop_end Om,List.foldl_nil]at hc
   have hfin:numsL w.fcts many=l:=hc
   repeat' (first|with_reducible refine Sq.go ?_|((with_reducible refine Ev.mk ?_);conv=>whnf)|with_reducible refine Dr.mk ⟨Kr,Kr⟩ ?_|with_reducible refine obG ?_|with_reducible refine Ob.mk ?_ ?_|(with_reducible first|refine brT fun h=>?_|refine brF fun h=>?_|refine Br.mk (fun h=>?_) fun h=>?_)<;>(try simp only[bsl,beq_iff_eq,bne_iff_ne,bs2]at h)<;>(try contradiction)<;>try (exfalso;omega))
   refine(sort_ok l Om g 3).at [.loc 3] rfl ⟨rfl,Tt⟩ (fun _ _=>⟨rfl,?_⟩)
   repeat' (first|with_reducible refine Sq.go ?_|((with_reducible refine Ev.mk ?_);conv=>whnf)|with_reducible refine Dr.mk ⟨Kr,Kr⟩ ?_|with_reducible refine obG ?_|with_reducible refine Ob.mk ?_ ?_|(with_reducible first|refine brT fun h=>?_|refine brF fun h=>?_|refine Br.mk (fun h=>?_) fun h=>?_)<;>(try simp only[bsl,beq_iff_eq,bne_iff_ne,bs2]at h)<;>(try contradiction)<;>try (exfalso;omega))
   refine⟨⟨rfl,rfl,Nat.le_of_eq (Nat.zero_add _),?_,fun i hi=>?_⟩,⟨rfl,rfl,fun i hi=>?_⟩,Tt⟩
   .rw[hfin,srtI_len]
   .rw[hfin,Nat.zero_add]
    rfl
   .rw[show i=0 from Nat.lt_one_iff.1 hi]
    rfl
abbrev Qd:=Int × Int × Int × Int
def mkFs (fr til kn:Int):Nat->List Qd->List Fct
 |_,[]=>[]
 |n,q::r=>⟨q.1,q.2.1,q.2.2.1,q.2.2.2,fr,til,kn,n⟩::mkFs fr til kn (n+1) r
theorem mkFs_app (fr til kn:Int):∀(a b:List Qd) (n:Nat),mkFs fr til kn n (a++b)=mkFs fr til kn n a++mkFs fr til kn (n+a.length) b
 |[],_,_=>rfl
 | q :: r,b,n=>by
   show _::mkFs fr til kn (n+1) (r++b)=_
   rw[mkFs_app fr til kn r b (n+1),List.length_cons,show n+1+r.length=n+(r.length+1) by omega]
   rfl
theorem mkFs_len (fr til kn:Int):∀(a:List Qd) (n:Nat),(mkFs fr til kn n a).length=a.length
 |[],_=>rfl
 |_::r,n=>congrArg (· + 1) (mkFs_len fr til kn r (n+1))
theorem addFs_mk (fr til kn:Int):∀(qs:List Qd) (fs:List Fct),addFs fr til kn fs qs=fs++mkFs fr til kn fs.length qs
 |[],fs=>(List.append_nil fs).symm
 | q :: r,fs=>by
   show addFs fr til kn (addF fr til kn fs q) r=_
   rw[addFs_mk fr til kn r,addF,List.length_append,List.append_assoc]
   rfl
theorem insF_mk (b:Bok)(c:Cat)(fr til kn:Int):insF b c fr til kn=mkFs fr til kn 0 (insQ b c++insS b c)++(if numN b.crs<numN (b.crs++c.crs) then[⟨12,0,0,(numN (b.crs++c.crs):Int),0,1024,kn,(insQ b c++insS b c).length⟩] else[]):=by
 unfold insF insN
 rw[addFs_mk,List.nil_append,List.length_nil]
 split
 .rw[addF,mkFs_len]
 .rw[List.append_nil]
theorem mkFs_mem {fr til kn:Int}{f:Fct}:∀{qs:List Qd} {n:Nat},f∈mkFs fr til kn n qs->∃q∈qs,f.kind=q.1/\f.subject=q.2.1/\f.object=q.2.2.1/\f.value=q.2.2.2/\f.fr=fr/\f.til=til/\f.known=kn
 |[],n,h=>(List.not_mem_nil h).elim
 | q :: r,n,h=>by
   rcases List.mem_cons.1 h with rfl|h
   .exact⟨q,List.mem_cons_self,rfl,rfl,rfl,rfl,rfl,rfl,rfl⟩
   .obtain⟨p,hp,h⟩:=mkFs_mem h
    exact⟨p,List.mem_cons_of_mem _ hp,h⟩
theorem defK_mem {kd:Int}{off:Nat}{α:Type}[Inhabited α]{f:α->Int}{l:List α}{q:Qd}:∀{k:Nat},q∈defK kd off f l k↔∃i,i<k/\q=(kd,f (l.getD i default),0,((off:Nat):Int)+(i:Int))
 |0=>⟨fun h=>(List.not_mem_nil h).elim,fun⟨i,h,_⟩=>absurd h (Nat.not_lt_zero i)⟩
 | k + 1=>by
   rw[defK,List.mem_append,defK_mem,List.mem_singleton]
   constructor
   .rintro(⟨i,h,e⟩|e)
    .exact⟨i,Om,e⟩
    .exact⟨k,Om,e⟩
   .rintro⟨i,h,e⟩
    by_cases h2:i=k
    .subst h2;exact .inr e
    .exact .inl ⟨i,Om,e⟩
theorem samK_mem {l:List Pai}{q:Qd}:∀{k:Nat},q∈samK l k->∃i,i<k/\q=(2,min (l.getD i default).x (l.getD i default).y,max (l.getD i default).x (l.getD i default).y,1)
 |0,h=>(List.not_mem_nil h).elim
 | k + 1,h=>by
   rw[samK,List.mem_append,List.mem_singleton]at h
   rcases h with h|h
   .obtain⟨i,h1,h2⟩:=samK_mem h
    exact⟨i,Om,h2⟩
   .exact⟨k,Om,h⟩
theorem insQ_mem {b:Bok}{c:Cat}{q:Qd}:q∈insQ b c++insS b c↔(∃i,i<c.crs.length/\q=(1,(c.crs.getD i default).number,0,((b.crs.length:Nat):Int)+(i:Int)))\/(∃i,i<c.prg.length/\q=(3,(c.prg.getD i default).number,0,((b.prg.length:Nat):Int)+(i:Int)))\/q∈samK c.same c.same.length\/(sysB c=true/\q=(4,0,0,(b.sys.length:Int))):=by
 unfold insQ insS
 rw[List.mem_append,List.mem_append,List.mem_append,defK_mem,defK_mem,or_assoc,or_assoc]
 refine or_congr Iff.rfl (or_congr Iff.rfl (or_congr Iff.rfl ?_))
 split
 .rename_i h
  rw[List.mem_singleton]
  exact⟨fun e=>⟨h,e⟩,fun e=>e.2⟩
 .rename_i h
  exact⟨fun e=>(List.not_mem_nil e).elim,fun e=>absurd e.1 h⟩
theorem insQ_kind {b:Bok}{c:Cat}{q:Qd}(h:q∈insQ b c++insS b c):q.1≠12:=by
 rcases insQ_mem.1 h with ⟨i,_,rfl⟩|⟨i,_,rfl⟩|h|⟨_,rfl⟩
 .exact(by decide:(1:Int)≠12)
 .exact(by decide:(3:Int)≠12)
 .obtain⟨i,_,rfl⟩:=samK_mem h
  exact(by decide:(2:Int)≠12)
 .exact(by decide:(4:Int)≠12)
theorem insQ_len (b:Bok)(c:Cat):(insQ b c++insS b c).length<=c.crs.length+c.prg.length+c.same.length+1:=by
 rw[List.length_append,insQ,List.length_append,List.length_append,defK_len,defK_len,samK_len,insS]
 split
 .rw[List.length_singleton];omega
 .rw[List.length_nil];omega
theorem insF_len (b:Bok)(c:Cat)(fr til kn:Int):(insF b c fr til kn).length<=c.crs.length+c.prg.length+c.same.length+2:=by
 have:=insQ_len b c
 rw[insF_mk,List.length_append,mkFs_len]
 split
 .rw[List.length_singleton];omega
 .rw[List.length_nil];omega
def stpN (many:Int)(l:List Int)(s:Int):List Int:=if many<=(l.length:Int) then l else if s ∉ l then l++[s] else l
theorem numStep_stp {many:Int}{l:List Int}{f:Fct}(h:numOk f=true):numStep many l f=stpN many l f.subject:=by
 unfold numStep stpN
 by_cases h1:many<=(l.length:Int)
 .rw[if_pos h1,if_pos h1]
 .rw[if_neg h1,if_neg h1]
  by_cases h2:f.subject ∉ l
  .rw[if_pos ⟨h,h2⟩,if_pos h2]
  .rw[if_neg (fun e=>h2 e.2),if_neg h2]
theorem numStep_skip {many:Int}{l:List Int}{f:Fct}(h:numOk f=false):numStep many l f=l:=by
 by_cases hm:many<=(l.length:Int)
 .rw[numStep,if_pos hm]
 .exact numStep_no hm h
theorem numFold_skip {many:Int}:∀{fs:List Fct} {l:List Int},(∀f∈fs,numOk f=false)->fs.foldl (numStep many) l=l
 |[],_,_=>rfl
 | f :: r,l,h=>by
   rw[List.foldl_cons,numStep_skip (h f List.mem_cons_self)]
   exact numFold_skip fun g hg=>h g (List.mem_cons_of_mem _ hg)
theorem numsC_take {l:List Crs}{k:Nat}(h:k<l.length):numsC (l.take (k+1))=numsC (l.take k)++[(l.getD k default).number]:=by
 rw[take_succ_at h,numsC_app]
 rfl
theorem numFold_crs {many fr til kn:Int}{off:Nat}{l:List Crs}(hr:∀x∈l,bw x.number 0 4095=true)(z:List Int)(n:Nat):∀k,k<=l.length->(mkFs fr til kn n (defK 1 off (fun x:Crs=>x.number) l k)).foldl (numStep many) z=(numsC (l.take k)).foldl (stpN many) z
 |0,_=>rfl
 | k + 1,h=>by
   rw[defK,mkFs_app,List.foldl_append,numFold_crs hr z n k Om,numsC_take Om,List.foldl_append]
   refine numStep_stp ?_
   show(decide ((1:Int)=1)&&(decide ((0:Int)=0)&&bw (l.getD k default).number 0 4095))=true
   rw[hr _ (getD_mem Om)]
   rfl
theorem numFold_ins {many fr til kn:Int}{b:Bok}{c:Cat}(hr:∀x∈c.crs,bw x.number 0 4095=true)(z:List Int):(insF b c fr til kn).foldl (numStep many) z=(numsC c.crs).foldl (stpN many) z:=by
 rw[insF_mk]
 unfold insQ
 rw[List.append_assoc,List.append_assoc,mkFs_app,List.append_assoc,List.foldl_append,numFold_crs hr z 0 c.crs.length (Nat.le_refl _),List.take_length]
 refine numFold_skip fun f hf=>?_
 have hk:f.kind≠1:=by
  rcases List.mem_append.1 hf with hf|hf
  .obtain⟨q,hq,e,_⟩:=mkFs_mem hf
   rw[e]
   rcases List.mem_append.1 hq with hq|hq
   .obtain⟨i,_,rfl⟩:=defK_mem.1 hq
    exact(by decide:(3:Int)≠1)
   rcases List.mem_append.1 hq with hq|hq
   .obtain⟨i,_,rfl⟩:=samK_mem hq
    exact(by decide:(2:Int)≠1)
   .unfold insS at hq
    split at hq
    .rw[List.mem_singleton.1 hq]
     exact(by decide:(4:Int)≠1)
    .exact(List.not_mem_nil hq).elim
  .split at hf
   .rw[List.mem_singleton.1 hf]
    exact(by decide:(12:Int)≠1)
   .exact(List.not_mem_nil hf).elim
 unfold numOk
 rw[decide_eq_false hk,Bool.false_and]
structure StI (z S r:List Int):Prop where
 nd:z.Nodup->r.Nodup
 ge:∀x∈z,x∈r
 le:∀x∈r,x∈z\/x∈S
theorem stp_I (many:Int)(z:List Int)(s:Int):StI z [s] (stpN many z s):=by
 unfold stpN
 split
 .exact⟨id,fun _ h=>h,fun _ h=>.inl h⟩
 split
 .rename_i h
  refine⟨fun hn=>?_,fun x hx=>List.mem_append_left _ hx,fun x hx=>List.mem_append.1 hx⟩
  rw[List.nodup_append]
  refine⟨hn,by simp,fun x hx y hy e=>h ?_⟩
  rw[<-List.mem_singleton.1 hy,<-e]
  exact hx
 .exact⟨id,fun _ h=>h,fun _ h=>.inl h⟩
theorem stpF_I (many:Int):∀(S z:List Int),StI z S (S.foldl (stpN many) z)
 |[],z=>⟨id,fun _ h=>h,fun _ h=>.inl h⟩
 | s :: r,z=>by
   have h1:=stp_I many z s
   have h2:=stpF_I many r (stpN many z s)
   refine⟨fun h=>h2.nd (h1.nd h),fun x h=>h2.ge x (h1.ge x h),fun x h=>?_⟩
   rcases h2.le x h with h|h
   .rcases h1.le x h with h|h
    .exact .inl h
    .exact .inr (by rw[List.mem_singleton.1 h];exact List.mem_cons_self)
   .exact .inr (List.mem_cons_of_mem _ h)
theorem stpFull {many:Int}:∀{S z:List Int},many<=(z.length:Int)->S.foldl (stpN many) z=z
 |[],_,_=>rfl
 | s :: r,z,h=>by
   rw[List.foldl_cons,stpN,if_pos h]
   exact stpFull h
theorem stpF_all (many:Int):∀(S z:List Int),(∀x∈S,x∈S.foldl (stpN many) z)\/many<=((S.foldl (stpN many) z).length:Int)
 |[],z=>.inl fun x h=>(List.not_mem_nil h).elim
 | s :: r,z=>by
   by_cases h:many<=(z.length:Int)
   .exact .inr (by rw[stpFull h];exact h)
   rcases stpF_all many r (stpN many z s) with h1|h1
   .refine .inl fun x hx=>?_
    rcases List.mem_cons.1 hx with rfl|hx
    .refine(stpF_I many r (stpN many z x)).ge x ?_
     unfold stpN
     rw[if_neg h]
     split
     .exact List.mem_append_right _ List.mem_cons_self
     .rename_i h2
      exact Classical.byContradiction h2
    .exact h1 x hx
   .exact .inr h1
theorem stp_dst (P:List Int):(∀x,x∈P.foldl (stpN ((dst P).length:Nat)) []↔x∈P)/\(P.foldl (stpN ((dst P).length:Nat)) []).length=(dst P).length:=by
 have hI:=stpF_I ((dst P).length:Nat) P []
 have hA:=stpF_all ((dst P).length:Nat) P []
 generalize P.foldl (stpN ((dst P).length:Nat)) []=r at hI hA⊢
 have hn:=hI.nd List.nodup_nil
 have hs:∀x∈r,x∈P:=fun x hx=>(hI.le x hx).elim (fun h=>(List.not_mem_nil h).elim) id
 have hm:∀x,x∈r↔x∈P:=fun x=>⟨hs x,fun hx=>?_⟩
 .exact⟨hm,len_of_both hn (dst_nodup P) fun x=>by rw[hm,dst_mem]⟩
 .rcases hA with h|h
  .exact h x hx
  .refine Classical.byContradiction fun hxr=>?_
   have:(x::r).length<=(dst P).length:=(List.nodup_cons.2 ⟨hxr,hn⟩).length_le_of_subset fun y hy=>by
    rw[dst_mem]
    rcases List.mem_cons.1 hy with rfl|hy
    .exact hx
    .exact hs y hy
   rw[List.length_cons]at this
   omega
theorem mkFs_hit {fr til kn0 kn:Int}{n:Nat}{qs:List Qd}(h:∀q∈qs,q.1≠12):(mkFs fr til kn0 n qs).filter (hitK ⟨12,0,0⟩ kn)=[]:=by
 rw[List.filter_eq_nil_iff]
 intro f hf he
 obtain⟨q,hq,e,_⟩:=mkFs_mem hf
 simp only[hitK,kOf,Bool.and_eq_true,decide_eq_true_eq,Ke.mk.injEq]at he
 exact h q hq (by rw[<-e];exact he.1.1)
theorem insF_hit (b:Bok)(c:Cat)(fr til kn0 kn:Int):(insF b c fr til kn0).filter (hitK ⟨12,0,0⟩ kn)=if numN b.crs<numN (b.crs++c.crs)/\kn0<=kn then[⟨12,0,0,(numN (b.crs++c.crs):Int),0,1024,kn0,(insQ b c++insS b c).length⟩] else[]:=by
 rw[insF_mk,List.filter_append,mkFs_hit fun q hq=>insQ_kind hq,List.nil_append]
 by_cases h:numN b.crs<numN (b.crs++c.crs)
 .rw[if_pos h,List.filter_cons,List.filter_nil]
  have e:∀v n:Int,hitK ⟨12,0,0⟩ kn ⟨12,0,0,v,0,1024,kn0,n⟩=decide (kn0<=kn):=fun v n=>Bool.true_and _
  rw[e]
  by_cases h2:kn0<=kn
  .rw[if_pos (decide_eq_true h2),if_pos ⟨h,h2⟩]
  .rw[if_neg (fun h3=>h2 (of_decide_eq_true h3)),if_neg (fun e=>h2 e.2)]
 .rw[if_neg h,if_neg (fun e=>h e.1)]
  rfl
theorem numN_le (a b:List Crs):numN a<=numN (a++b):=by
 unfold numN
 exact(dst_nodup _).length_le_of_subset fun x hx=>by
  rw[dst_mem,numsC_app,List.mem_append]
  exact .inl (dst_mem.1 hx)
theorem many_two (x y:Cat)(fr til fr2 til2 kn:Int):(atV (insF bokZ x fr til 8++insF (insB bokZ x) y fr2 til2 16) ⟨12,0,0⟩ 0 kn).1=if kn<8 then 0 else if kn<16 then(numN x.crs:Int) else(numN (x.crs++y.crs):Int):=by
 unfold atV bestF
 rw[List.filter_append,insF_hit,insF_hit]
 have z:numN bokZ.crs=0:=rfl
 have e1:bokZ.crs++x.crs=x.crs:=rfl
 have e2:(insB bokZ x).crs=x.crs:=rfl
 rw[z,e1,e2]
 have hle:=numN_le x.crs y.crs
 generalize (insQ bokZ x++insS bokZ x).length=n1
 generalize (insQ (insB bokZ x) y++insS (insB bokZ x) y).length=n2
 generalize numN x.crs=a at *
 generalize numN (x.crs++y.crs)=b at *
 have atZ:∀(v kn n:Int),0<=v->(atO (some ⟨12,0,0,v,0,1024,kn,n⟩)).1=v:=fun v kn n h=>by
  show(if v<0 then((0:Int),false) else(v,true)).1=v
  rw[if_neg Om]
 have st2:∀v w n m:Int,stepF 0 (some ⟨12,0,0,v,0,1024,8,n⟩) ⟨12,0,0,w,0,1024,16,m⟩=some ⟨12,0,0,w,0,1024,16,m⟩:=fun v w n m=>rfl
 have st1:∀v k n:Int,stepF 0 none ⟨12,0,0,v,0,1024,k,n⟩=some ⟨12,0,0,v,0,1024,k,n⟩:=fun v k n=>rfl
 by_cases c1:0<a/\(8:Int)<=kn<;>by_cases c2:a<b/\(16:Int)<=kn
 .rw[if_pos c1,if_pos c2,List.foldl_append,List.foldl_cons,List.foldl_nil,List.foldl_cons,List.foldl_nil,st1,st2,atZ _ _ _ Om,if_neg Om,if_neg Om]
 .rw[if_pos c1,if_neg c2,List.append_nil,List.foldl_cons,List.foldl_nil,st1,atZ _ _ _ Om,if_neg Om]
  split
  .rfl
  .omega
 .rw[if_neg c1,if_pos c2,List.nil_append,List.foldl_cons,List.foldl_nil,st1,atZ _ _ _ Om,if_neg Om,if_neg Om]
 .rw[if_neg c1,if_neg c2]
  show(0:Int)=_
  split
  .rfl
  .split<;>omega
theorem nums_two {x y:Cat}(hx:∀c∈x.crs,bw c.number 0 4095=true)(hy:∀c∈y.crs,bw c.number 0 4095=true)(B:Bok)(fr til fr2 til2:Int) :
 nums ⟨B,insF bokZ x fr til 8++insF (insB bokZ x) y fr2 til2 16⟩ 7=[] /\
 ((∀n,n∈nums ⟨B,insF bokZ x fr til 8++insF (insB bokZ x) y fr2 til2 16⟩ 15↔n∈numsC x.crs)/\(nums ⟨B,insF bokZ x fr til 8++insF (insB bokZ x) y fr2 til2 16⟩ 15).length=numN x.crs) /\
 ((∀n,n∈nums ⟨B,insF bokZ x fr til 8++insF (insB bokZ x) y fr2 til2 16⟩ 16↔n∈numsC (x.crs++y.crs))/\(nums ⟨B,insF bokZ x fr til 8++insF (insB bokZ x) y fr2 til2 16⟩ 16).length=numN (x.crs++y.crs)):=by
 have key:∀many:Int,numsL (insF bokZ x fr til 8++insF (insB bokZ x) y fr2 til2 16) many=(numsC (x.crs++y.crs)).foldl (stpN many) []:=fun many=>by
  unfold numsL
  rw[List.foldl_append,numFold_ins hx,numFold_ins hy,numsC_app,List.foldl_append]
 have hm:∀kn,(nums ⟨B,insF bokZ x fr til 8++insF (insB bokZ x) y fr2 til2 16⟩ kn).Perm ((numsC (x.crs++y.crs)).foldl (stpN (if kn<8 then 0 else if kn<16 then(numN x.crs:Int) else(numN (x.crs++y.crs):Int))) []):=fun kn=>by
  unfold nums
  refine(List.mergeSort_perm _ _).trans ?_
  show(numsL (insF bokZ x fr til 8++insF (insB bokZ x) y fr2 til2 16) (atV (insF bokZ x fr til 8++insF (insB bokZ x) y fr2 til2 16) ⟨12,0,0⟩ 0 kn).1).Perm _
  rw[many_two,key]
 have h7:=hm 7
 have h15:=hm 15
 have h16:=hm 16
 rw[if_pos Dc,stpFull (by exact Int.le_refl 0)]at h7
 rw[if_neg Dc,if_pos Dc,numsC_app,List.foldl_append]at h15
 rw[if_neg Dc,if_neg Dc]at h16
 refine⟨h7.eq_nil,?_,?_⟩
 .obtain⟨d1,d2⟩:=stp_dst (numsC x.crs)
  rw[show((numN x.crs:Nat):Int)=((dst (numsC x.crs)).length:Nat) from rfl,stpFull (by rw[d2];exact Int.le_refl _)]at h15
  exact⟨fun n=>h15.mem_iff.trans (d1 n),h15.length_eq.trans d2⟩
 .obtain⟨d1,d2⟩:=stp_dst (numsC (x.crs++y.crs))
  exact⟨fun n=>h16.mem_iff.trans (d1 n),h16.length_eq.trans d2⟩
def pairK (a b:Int):Ke:=⟨2,min a b,max a b⟩
def eqS (w:Wor)(t kn a:Int)(z:List Int × List Red)(c:Int):List Int × List Red :=
 if c∈z.1 then z else(if atV w.fcts (pairK a c) t kn=(1,true) then z.1++[c] else z.1,z.2++[rdK (pairK a c) t])
def eqR (w:Wor)(t kn:Int)(ns:List Int)(z:List Int × List Red)(i:Nat):List Int × List Red:=ns.foldl (eqS w t kn (z.1.getD i default)) z
def rndE (w:Wor)(t kn:Int)(ns:List Int)(j:Nat)(z:List Int × List Red):List Int × List Red:=if j<z.1.length then eqR w t kn ns z j else z
def iterE (w:Wor)(t kn:Int)(ns:List Int):Nat->List Int × List Red->List Int × List Red
 |0,z=>z
 |j+1,z=>rndE w t kn ns j (iterE w t kn ns j z)
theorem iterE_succ (w:Wor)(t kn:Int)(ns:List Int)(j:Nat)(z:List Int × List Red):iterE w t kn ns (j+1) z=rndE w t kn ns j (iterE w t kn ns j z):=rfl
structure EqI (ns:List Int)(n:Int)(l:List Int):Prop where
 nd:l.Nodup
 sub:∀x∈l,x=n\/x∈ns
theorem nodup_le {α:Type}[DecidableEq α]:∀{l m:List α},l.Nodup->(∀x∈l,x∈m)->l.length<=m.length
 |[],m,_,_=>Nat.zero_le _
 | x :: r,m,h,hs=>by
   rw[List.nodup_cons]at h
   have hx:=hs x (by simp)
   have:=nodup_le (l:=r) (m:=m.erase x) h.2 fun y hy=>by
    rw[List.mem_erase_of_ne (show y≠x from fun e=>h.1 (e▸hy))]
    exact hs y (by simp[hy])
   rw[List.length_erase_of_mem hx]at this
   have hm:0<m.length:=List.length_pos_of_mem hx
   rw[List.length_cons]
   omega
theorem EqI.len {ns:List Int}{n:Int}{l:List Int}(h:EqI ns n l):l.length<=ns.length+1:=by
 have:=nodup_le (m:=n::ns) h.nd fun x hx=>by
  rcases h.sub x hx with rfl|h
  .simp
  .simp[h]
 simpa using this
theorem EqI.step {ns:List Int}{n:Int}{w:Wor}{t kn a:Int}{z:List Int × List Red}{c:Int}(hc:c∈ns)(h:EqI ns n z.1):EqI ns n (eqS w t kn a z c).1:=by
 unfold eqS
 split
 .exact h
 .rename_i hn
  dsimp only
  split
  .refine⟨?_,fun x hx=>?_⟩
   .rw[List.nodup_append]
    refine⟨h.nd,by simp,fun x hx y hy=>?_⟩
    simp at hy
    subst hy
    exact fun e=>hn (e▸hx)
   .rcases List.mem_append.1 hx with hx|hx
    .exact h.sub x hx
    .simp at hx
     subst hx
     exact .inr hc
  .exact h
theorem EqI.steps {ns:List Int}{n:Int}{w:Wor}{t kn a:Int}:∀(l:List Int) (z:List Int × List Red),(∀c∈l,c∈ns)->EqI ns n z.1->EqI ns n (l.foldl (eqS w t kn a) z).1
 |[],z,_,h=>h
 |c::r,z,hs,h=>EqI.steps r _ (fun c hc=>hs c (by simp[hc])) (EqI.step (hs c (by simp)) h)
theorem EqI.iter {ns:List Int}{n:Int}{w:Wor}{t kn:Int}{z:List Int × List Red}(h:EqI ns n z.1):∀j,EqI ns n (iterE w t kn ns j z).1
 |0=>h
 | j + 1=>by
   rw[iterE_succ,rndE]
   split
   .exact EqI.steps ns _ (fun _ h=>h) (EqI.iter h j)
   .exact EqI.iter h j
theorem iterE_stay {w:Wor}{t kn:Int}{ns:List Int}{z:List Int × List Red}{j:Nat}(h:(iterE w t kn ns j z).1.length<=j):∀m,iterE w t kn ns (j+m) z=iterE w t kn ns j z
 |0=>rfl
 | m + 1=>by
   rw[<-Nat.add_assoc,iterE_succ,iterE_stay h m,rndE,if_neg Om]
def startE (n:Int):List Int × List Red:=([n],[rdK ⟨12,0,0⟩ 0])
theorem EqI.start (ns:List Int)(n:Int):EqI ns n (startE n).1:=⟨by simp[startE],fun x hx=>.inl (by simpa[startE] using hx)⟩
def equalZ (w:Wor)(n t kn:Int):List Int × List Red:=iterE w t kn (nums w kn) 200000 (startE n)
def okEq (n t:Int):Bool:=bw n 0 4095&&bw t 0 1023
def equalL (w:Wor)(n t kn:Int):List Int:=if okEq n t then srtI (equalZ w n t kn).1 else[n]
def equalR (w:Wor)(n t kn:Int):List Red:=if okEq n t then(equalZ w n t kn).2 else[]
theorem nums_len (w:Wor)(kn:Int):(nums w kn).length<=w.fcts.length:=by
 unfold nums
 rw[srtI_len]
 exact numsL_len _ _
theorem equal_stop {w:Wor}(hl:w.fcts.length<=100000){n t kn:Int}{j:Nat}(hj:j<=(iterE w t kn (nums w kn) j (startE n)).1.length)(h:(iterE w t kn (nums w kn) j (startE n)).1.length<=j):equalZ w n t kn=iterE w t kn (nums w kn) j (startE n):=by
 have h1:=(EqI.iter (w:=w) (t:=t) (kn:=kn) (EqI.start (nums w kn) n) j).len
 have h2:=nums_len w kn
 have:=iterE_stay h (200000-j)
 rw[show j+(200000-j)=200000 by omega]at this
 exact this
end Go.Proofs.YtmlhghddfobmmaaGreatDoor
namespace Go.Ab
set_option linter.unusedSimpArgs false
set_option linter.unusedVariables false
variable {P:Program}{T:Tab}{m:Mem}{env:Env}{K:AV->Mem->Prop}{o:Oper}
theorem op_len_nilm (hT:TabOk P T){t:TypeId}{x:Operand}(hop:o.op=.call {callee:=.builtin .len,args:=#[x],argTypes:=#[t]}){sh0:Ksh}{te:TI}(ht:mapOf T t=some (sh0,te))(hx:ev env x=.d .nilm)(hK:K (.d (.int .i64 0)) m):OpVC P o env m K :=
 ⟨fun c h=>(by rw [hop] at h;cases h),fun a w F σ hev hm=>by
  obtain⟨kt,et,hu,_,_⟩:=mapOf_ok hT ht
  have hv:=ev_ok hev x
  rw[hx]at hv
  obtain⟨X,hX⟩:∃X,a.eval x=X:=⟨_,rfl⟩
  rw[hX]at hv
  cases hv with
  | d hv =>
    cases hv with
    | nilm =>
      refine⟨_,_,w,σ,F,_,_,?_,.inl rfl,hK,.d .int,hm,Step.refl σ F w,SLe.refl σ⟩
      rotate_left
      simp[execOp,hop,hX,resolve,invoke,builtin,Builtin.len_,run_underlying hu,goInt]⟩
end Go.Ab
namespace Go.Proofs.YtmlhghddfobmmaaGreatDoor
set_option linter.unusedSimpArgs false
set_option linter.unusedVariables false
open Go Go.Ab
set_option maxRecDepth 100000
set_option maxHeartbeats 0
theorem len_hasN {S:List Int}{qs:List (List Int)}(q1:qs.Nodup)(q2:∀k∈qs,(Ksh.one .i64).fits k/\hasN S k=true)(q3:∀k,(Ksh.one .i64).fits k->hasN S k=true->k∈qs):qs.length=(dst S).length:=by
 have e:((dst S).map fun n=>[n]).length=(dst S).length:=List.length_map ..
 rw[<-e]
 refine len_of_both q1 (nodup_map_inj (f:=fun n:Int=>[n]) (fun a b h=>by injection h) (dst_nodup _)) fun key=>⟨fun h=>?_,fun h=>?_⟩
 .obtain⟨h1,h2⟩:=q2 key h
  match key,h1 with
  |[a],_=>exact List.mem_map.2 ⟨a,dst_mem.2 (of_decide_eq_true h2),rfl⟩
 .obtain⟨n,hn,rfl⟩:=List.mem_map.1 h
  exact q3 _ rfl (decide_eq_true (dst_mem.1 hn))
def eSet (S:List Int):D:=.mapd (.one .i64) (hasN S) fun key=>.bool (hasN S key)
theorem fitsN_ok (w:Wor)(hw:WfW w)(hl:w.fcts.length<=100000)(kn:Int)(S:List Int)(hin:∀n∈nums w kn,n∈S)(hlen:(nums w kn).length=(dst S).length) :
 Pure Tryz.prog 29 [.int .i64 kn,eSet S,.pt (eWor w) 0] [.bool true]:=by
 have hN:=numbers_ok w hw hl kn
 have hnl:=nums_len w kn
 unfold eSet
 generalize nums w kn=ns at hN hin hlen hnl
 have kin:Kp _:=⟨hin⟩
 have kq:Kp _:=⟨@len_hasN S⟩
 clear hin
 refine pure_rule hT (T:=tab) (N:=32) (rs:=[.tmp 5]) Tryz.func29 rfl rfl rfl Kr rfl ?_
 (refine gW ?_;intros)
 refine hN.call ?_
 (refine gW ?_;intros)
 refine loop_rule hT (S:=Nat) (fun k=>([(1,.d (.mapd (.one .i64) (hasN S) fun key=>.bool (hasN S key))),(6,.d (eInts ns)),(16,.d (eInts ns)),(17,.d (.int .i64 ns.length)),(18,.d (.int .i64 k))],⟨[],[]⟩)) (fun k=>k<=ns.length) (fun k=>ns.length-k) 0 ?_ ?_ ?_
 .repeat' (first|exact Tt|exact rfl|exact Nat.le_refl _|refine And.intro ?_ ?_)
 .exact Nat.zero_le _
 intro k hk
 dsimp only at hk⊢
 by_cases hk2:k<ns.length
 case pos =>
  have hh:hasN S [ns.getD k default]=true:=decide_eq_true (kin.h _ (getD_mem hk2))
  ((refine xW ?_ ?_)<;>(intros;try rename_i h))
  all_goals try (exfalso;rw[hh]at h;cases h;done)
  refine⟨k+1,by show k+1<=ns.length;omega,by show ns.length-(k+1)<ns.length-k;omega,?_⟩
  repeat' (first|exact Tt|exact rfl|exact Nat.le_refl _|refine And.intro ?_ ?_)
 obtain rfl:k=ns.length:=by omega
 (refine gW ?_;intros)
 refine op_len_mapd hT rfl rfl rfl fun qs h1 h2 h3=>?_
 have hqs:=kq.h h1 h2 h3
 clear h1 h2 h3
 (refine gW ?_;intros)
 exact⟨congrArg D.bool (decide_eq_true Om),Tt⟩
theorem fits0_ok (w:Wor)(hw:WfW w)(hl:w.fcts.length<=100000)(kn:Int)(h0:nums w kn=[]) :
 Pure Tryz.prog 29 [.int .i64 kn,.nilm,.pt (eWor w) 0] [.bool true]:=by
 have hN:=numbers_ok w hw hl kn
 rw[h0]at hN
 clear h0
 refine pure_rule hT (T:=tab) (N:=32) (rs:=[.tmp 5]) Tryz.func29 rfl rfl rfl Kr rfl ?_
 (refine gW ?_;intros)
 refine hN.call ?_
 (refine gW ?_;intros)
 refine loop_rule hT (S:=Nat) (fun k=>([(1,.d .nilm),(6,.d (eInts [])),(16,.d (eInts [])),(17,.d (.int .i64 0)),(18,.d (.int .i64 k))],⟨[],[]⟩)) (fun k=>k<=0) (fun k=>0-k) 0 ?_ ?_ ?_
 .repeat' (first|exact Tt|exact rfl|exact Nat.le_refl _|refine And.intro ?_ ?_)
 .exact Nat.le_refl _
 intro k hk
 dsimp only at hk⊢
 obtain rfl:k=0:=by omega
 (refine gW ?_;intros)
 refine op_len_nilm hT rfl rfl rfl ?_
 (refine gW ?_;intros)
 exact⟨rfl,Tt⟩
end Go.Proofs.YtmlhghddfobmmaaGreatDoor
