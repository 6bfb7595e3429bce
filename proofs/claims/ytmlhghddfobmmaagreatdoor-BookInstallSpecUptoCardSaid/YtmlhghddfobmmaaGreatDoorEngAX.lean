import Derived.Test.YtmlhghddfobmmaaGreatDoorEngAE
namespace Go.Ab
set_option linter.unusedSimpArgs false
set_option linter.unusedVariables false
def Jd:Nat->Nat->List Ref
 |_,0=>[]
 |q,n+1=>.arg q::Jd (q+1) n
theorem Iq:∀(n q j:Nat),j<n->(Jd q n)[j]?=some (.arg (q+j))
 |0,_,_,h=>absurd h (Qhh _)
 |n+1,q,0,_=>rfl
 |n+1,q,j+1,h=>by
  rw[Jd,List.getElem?_cons_succ,Iq n (q+1) j Om,show q+1+j=q+(j+1) by omega]
theorem Cs:∀(n q:Nat),(Jd q n).length=n
 |0,_=>rfl
 |n+1,q=>by rw[Jd,Qhs,Cs n]
theorem Ct:∀{n q:Nat} {r:Ref},r∈Jd q n->∃j,j<n/\r=.arg (q+j)
 |0,_,_,h=>by simp[Jd]at h
 | n + 1,q,r,h=>by
  rw[Jd,Qho]at h
  rcases h with rfl|h
  .exact⟨0,Om,rfl⟩
  .obtain⟨j,hj,rfl⟩:=Ct h
   exact⟨j+1,Om,by rw[show q+1+j=q+(j+1) by omega]⟩
theorem Ir:∀(n q:Nat),(Jd q n).Nodup
 |0,_=>List.nodup_nil
 |n+1,q=>by
  rw[Jd,List.nodup_cons]
  refine⟨fun h=>?_,Ir n (q+1)⟩
  obtain⟨j,_,e⟩:=Ct h
  injection e with e
  omega
theorem Q2e:∀{l:List Ref} {j:Nat} {r:Ref},l[j]?=some r->nth l j=r
 |[],j,r,h=>by simp at h
 |x::l,0,r,h=>by simp at h;exact h
 |x::l,j+1,r,h=>Q2e (l:=l) (by simpa using h)
theorem Ec {r:Ref}:∀{l:List Ref},Va r l=true↔r∈l
 |[]=>by simp[Va]
 | s :: t=>by
  simp only[Va,Bool.or_eq_true,decide_eq_true_iff,Qho,Ec (l:=t)]
  constructor
  .rintro(h|h)
   .exact .inl h.symm
   .exact .inr h
  .rintro(h|h)
   .exact .inl h.symm
   .exact .inr h
theorem Q29:∀{l:List Ref},Xo l=true↔l.Nodup
 |[]=>by simp[Xo]
 | r :: s=>by
  simp only[Xo,Qh5,Bool.not_eq_true',List.nodup_cons,Q29 (l:=s)]
  constructor
  .rintro⟨h1,h2⟩
   exact⟨fun h=>(by rw[Ec.2 h]at h1;exact Bool.noConfusion h1),h2⟩
  .rintro⟨h1,h2⟩
   refine⟨?_,h2⟩
   cases h:Va r s with
   |false=>rfl
   |true=>exact absurd (Ec.1 h) h1
def M1 (q:Nat):Ref->Bool
 | .loc _=>true
 | .arg j=>Nat.blt j q
 | .bad=>false
def Xm (q:Nat):List Ref->Bool
 |[]=>true
 |r::s=>M1 q r&&Xm q s
theorem E5 {q:Nat}:∀{l:List Ref},Xm q l=true->∀r∈l,M1 q r=true
 |[],_,r,h=>by simp at h
 |x::s,h,r,hr=>by
  simp only[Xm,Qh5]at h
  rcases Qho.1 hr with rfl|hr
  .exact h.1
  .exact E5 h.2 r hr
theorem Q1p {q n:Nat}{r:Ref}(h:M1 q r=true):r ∉ Jd q n:=fun hm=>by
 obtain⟨j,_,rfl⟩:=Ct hm
 have:=Qhf h
 omega
theorem Q1z {q n:Nat}{pre post:List Ref}(h1:Xm q pre=true)(h2:Xm q post=true)(hn:Xo (pre++post)=true):Xo (pre++(Jd q n++post))=true:=by
 rw[Q29]at hn⊢
 rw[List.nodup_append]at hn
 obtain⟨n1,n2,n3⟩:=hn
 rw[List.nodup_append,List.nodup_append]
 refine⟨n1,⟨Ir n q,n2,fun a ha b hb e=>?_⟩,fun a ha b hb e=>?_⟩
 .subst e
  exact Q1p (E5 h2 a hb) ha
 .subst e
  rcases Qi7.1 hb with hb|hb
  .exact Q1p (E5 h1 a ha) hb
  .exact n3 a ha a hb rfl
theorem Q66 {l Bs X:List (Option Blk)}{r:Ref}(h:M1 Bs.length r=true):(⟨l,Bs++X⟩:Mem).at r=(⟨l,Bs⟩:Mem).at r:=by
 cases r with
 |loc j=>rfl
 |arg j=>exact Qhj (Qhf h)
 |bad=>rfl
theorem Q3e:∀{Bs X:List (Option Blk)} {j:Nat} {b:Option Blk},j<Bs.length->putAt (Bs++X) j b=putAt Bs j b++X
 |[],X,j,b,h=>by simp at h
 |x::r,X,0,b,h=>rfl
 |x::r,X,j+1,b,h=>by
  show x::putAt (r++X) j b=x::(putAt r j b++X)
  rw[Q3e (Bs:=r) (by simpa using h)]
theorem Q3d:∀{l:List (Option Blk)} {j:Nat} {b:Option Blk},(putAt l j b).length=l.length
 |[],_,_=>rfl
 |_::_,0,_=>rfl
 |x::r,j+1,b=>by
  show(x::putAt r j b).length=_
  rw[Qhs,Q3d (l:=r),Qhs]
theorem Q3f:∀{Bs X:List (Option Blk)} {x y:Option Blk},putAt (Bs++x::X) Bs.length y=(Bs++[y])++X
 |[],_,_,_=>rfl
 |b::r,X,x,y=>by
  show b::putAt (r++x::X) r.length y=b::((r++[y])++X)
  rw[Q3f (Bs:=r)]
theorem Qdn {l Bs X:List (Option Blk)}{r:Ref}{b:Option Blk}(h:M1 Bs.length r=true):(⟨l,Bs++X⟩:Mem).put r b=⟨((⟨l,Bs⟩:Mem).put r b).loc,((⟨l,Bs⟩:Mem).put r b).own++X⟩/\((⟨l,Bs⟩:Mem).put r b).own.length=Bs.length:=by
 cases r with
 |loc j=>exact⟨rfl,rfl⟩
 |arg j =>
  refine⟨?_,Q3d⟩
  show(⟨l,putAt (Bs++X) j b⟩:Mem)=⟨l,putAt Bs j b++X⟩
  rw[Q3e (Qhf h)]
 |bad=>cases h
theorem A3 {X:List (Option Blk)}:∀{rs:List Ref} {bs:List (Option Blk)} {l Bs:List (Option Blk)},Xm Bs.length rs=true ->
  Jn ⟨l,Bs++X⟩ rs bs=⟨(Jn ⟨l,Bs⟩ rs bs).loc,(Jn ⟨l,Bs⟩ rs bs).own++X⟩/\(Jn ⟨l,Bs⟩ rs bs).own.length=Bs.length
 |[],bs,l,Bs,_=>by cases bs<;>exact⟨rfl,rfl⟩
 |r::rs,[],l,Bs,_=>⟨rfl,rfl⟩
 |r::rs,b::bs,l,Bs,h=>by
  simp only[Xm,Qh5]at h
  obtain⟨h1,h2⟩:=Qdn (X:=X) (l:=l) (b:=b) h.1
  rw[Jn,Jn,h1]
  generalize (⟨l,Bs⟩:Mem).put r b=m at h2
  obtain⟨l1,B1⟩:=m
  have h3:B1.length=Bs.length:=h2
  obtain⟨h4,h5⟩:=A3 (X:=X) (rs:=rs) (bs:=bs) (l:=l1) (Bs:=B1) (by rw[h3];exact h.2)
  exact⟨h4,h5.trans h3⟩
theorem Q3c:∀{X Y:List (Option Blk)} {l Bs:List (Option Blk)},X.length=Y.length->Jn ⟨l,Bs++X⟩ (Jd Bs.length X.length) Y=⟨l,Bs++Y⟩
 |[],[],_,_,_=>rfl
 |[],_::_,_,_,h=>by simp at h
 |_::_,[],_,_,h=>by simp at h
 | x :: X,y :: Y,l,Bs,h=>by
  show Jn ((⟨l,Bs++x::X⟩:Mem).put (.arg Bs.length) y) (Jd (Bs.length+1) X.length) Y=_
  have e:(⟨l,Bs++x::X⟩:Mem).put (.arg Bs.length) y=⟨l,(Bs++[y])++X⟩:=by
   show(⟨l,putAt (Bs++x::X) Bs.length y⟩:Mem)=_
   rw[Q3f]
  rw[e]
  have:=Q3c (X:=X) (Y:=Y) (l:=l) (Bs:=Bs++[y]) (by simpa using h)
  rw[Qhc,List.length_singleton]at this
  rw[this,List.append_assoc]
  rfl
theorem A2:∀{a b:List Ref} {x y:List (Option Blk)} {m:Mem},a.length=x.length->Jn m (a++b) (x++y)=Jn (Jn m a x) b y
 |[],b,[],y,m,_=>rfl
 |[],_,_::_,_,_,h=>by simp at h
 |_::_,_,[],_,_,h=>by simp at h
 |r::a,b,z::x,y,m,h=>by
  show Jn (m.put r z) (a++b) (x++y)=Jn (Jn (m.put r z) a x) b y
  exact A2 (by simpa using h)
theorem Fs {ρ:Ref->Ref}(a b:List (Option Blk)):Zh ρ (a++b)=Zh ρ a++Zh ρ b:=by rw[H6,H6,H6,Qim]
theorem Qdy {ρ:Ref->Ref}(a:List (Option Blk)):(Zh ρ a).length=a.length:=by rw[H6,Qhb]
theorem Z4.app {m:Mem}{ρ:Ref->Ref}:∀{a b:List Ref} {x y:List (Option Blk)},Z4 m ρ a x->Z4 m ρ b y->Z4 m ρ (a++b) (x++y)
 |[],_,[],_,_,h=>h
 |[],_,_::_,_,h,_=>h.elim
 |_::_,_,[],_,h,_=>h.elim
 |r::a,b,z::x,y,h,k=>⟨h.1,Z4.app h.2 k⟩
theorem Z4.low {l Bs X:List (Option Blk)}{ρ:Ref->Ref}:∀{a:List Ref} {x:List (Option Blk)},Xm Bs.length a=true->Z4 ⟨l,Bs⟩ ρ a x->Z4 ⟨l,Bs++X⟩ ρ a x
 |[],[],_,_=>Tt
 |[],_::_,_,h=>h.elim
 |_::_,[],_,h=>h.elim
 |r::a,z::x,hl,h=>by
  simp only[Xm,Qh5]at hl
  exact⟨by rw[Q66 hl.1];exact h.1,Z4.low hl.2 h.2⟩
theorem Z4.args {m:Mem}{ρ:Ref->Ref}:∀{Y:List (Option Blk)} {q:Nat},(∀(j:Nat) b,Y[j]?=some b->m.at (.arg (q+j))=some (Xr ρ b))->Z4 m ρ (Jd q Y.length) Y
 |[],_,_=>Tt
 | y :: Y,q,h=>⟨h 0 y rfl,Z4.args fun j b hb=>by
   have:=h (j+1) b (by simpa using hb)
   rwa [show q+(j+1)=q+1+j by omega]at this⟩
structure Fam {S:Type}(n:Nat)(E:Nat->S->List (Option Blk)):Prop where
 len:∀k s,(E k s).length=n
 ren:∀(ρ:Ref->Ref) (k k':Nat) (s:S),(∀j,j<n->ρ (.arg (k+j))=.arg (k'+j))->Zh ρ (E k s)=E k' s
 le:∀(nl na k:Nat) (s:S),k+n<=na->LeL nl na (E k s) (E k s)
section
variable {P:Program}{S:Type}{n:Nat}{E:Nat->S->List (Option Blk)}
theorem Q1y {q:Nat}{pre post:List Ref}{j:Nat}(hj:j<n):nth (pre++(Jd q n++post)) (pre.length+j)=.arg (q+j):=by
 refine Q2e ?_
 rw[Qhu (Nat.le_add_right _ _),Nat.add_sub_cancel_left,Qhj (by rw[Cs];exact hj),Iq n q j hj]
theorem Q20 (hE:Fam n E){l Bs:List (Option Blk)}{s:S}{pre post:List Ref}{Bp Bq:List (Option Blk)}(h1:Xm Bs.length pre=true)(h2:Xm Bs.length post=true)
  (hp:Z4 ⟨l,Bs⟩ (inn (pre++(Jd Bs.length n++post))) pre Bp) (hq:Z4 ⟨l,Bs⟩ (inn (pre++(Jd Bs.length n++post))) post Bq) :
  Z4 ⟨l,Bs++E Bs.length s⟩ (inn (pre++(Jd Bs.length n++post))) (pre++(Jd Bs.length n++post)) (Bp++(E pre.length s++Bq)):=by
 refine(hp.low h1).app (Z4.app ?_ (hq.low h2))
 have:=Z4.args (m:=⟨l,Bs++E Bs.length s⟩) (ρ:=inn (pre++(Jd Bs.length n++post))) (Y:=E pre.length s) (q:=Bs.length) fun j b hb=>by
  have hj:j<n:=by rw[<-hE.len pre.length s];exact(Qh7.1 hb).1
  show(Bs++E Bs.length s)[Bs.length+j]?=_
  rw[Qhu (Nat.le_add_right _ _),Nat.add_sub_cancel_left,<-hE.ren (inn (pre++(Jd Bs.length n++post))) pre.length Bs.length s (fun j hj=>Q1y hj),H6,Qhe,hb]
  rfl
 rwa [hE.len]at this
theorem Q1x (hE:Fam n E){l Bs:List (Option Blk)}{s s':S}{pre post:List Ref}{Cp Cq:List (Option Blk)}(h1:Xm Bs.length pre=true)(h2:Xm Bs.length post=true)(hc:Cp.length=pre.length)(m':Mem)
  (hm:Jn (Jn ⟨l,Bs⟩ pre (Zh (out (Qp l) (pre++(Jd Bs.length n++post))) Cp)) post (Zh (out (Qp l) (pre++(Jd Bs.length n++post))) Cq)=m') :
  back ⟨l,Bs++E Bs.length s⟩ (pre++(Jd Bs.length n++post)) ⟨[],Cp++(E pre.length s'++Cq)⟩=⟨m'.loc,m'.own++E Bs.length s'⟩:=by
 generalize hρ:out (Qp l) (pre++(Jd Bs.length n++post))=ρ at hm
 have happ:∀x:List (Option Blk),app x []=x:=fun x=>by
  induction x with
  |nil=>rfl
  |cons b r ih=>show b::app r []=_;rw[ih]
 have hEr:Zh ρ (E pre.length s')=E Bs.length s':=hE.ren ρ _ _ s' fun j hj=>by
  rw[<-hρ]
  exact Q1y hj
 unfold back
 rw[hρ,Fs,Fs,hEr,A2 (by rw[Qdy,hc])]
 obtain⟨a1,a2⟩:=A3 (X:=E Bs.length s) (rs:=pre) (bs:=Zh ρ Cp) (l:=l) h1
 rw[a1]
 generalize hm1:Jn ⟨l,Bs⟩ pre (Zh ρ Cp)=m1 at a2 hm
 obtain⟨l1,B1⟩:=m1
 have a3:B1.length=Bs.length:=a2
 have hmid:Jn ⟨l1,B1++E Bs.length s⟩ (Jd Bs.length n) (E Bs.length s')=⟨l1,B1++E Bs.length s'⟩:=by
  have:=Q3c (X:=E Bs.length s) (Y:=E Bs.length s') (l:=l1) (Bs:=B1) (by rw[hE.len,hE.len])
  rwa [hE.len,a3]at this
 rw[A2 (by rw[Cs,hE.len])]
 show(match Jn (Jn ⟨l1,B1++E Bs.length s⟩ (Jd Bs.length n) (E Bs.length s')) post (Zh ρ Cq) with
  |⟨l,o⟩=>(⟨app l (Zh ρ []),o⟩:Mem))=_
 rw[hmid]
 obtain⟨c1,_⟩:=A3 (X:=E Bs.length s') (rs:=post) (bs:=Zh ρ Cq) (l:=l1) (Bs:=B1) (by rw[a3];exact h2)
 rw[c1,hm]
 show(⟨app m'.loc [],m'.own++E Bs.length s'⟩:Mem)=_
 rw[happ]
theorem Qz.mid (hE:Fam n E){f:FuncId}{as:List AV}(as':List AV){l Bs:List (Option Blk)}{s:S}(pre post:List Ref){Bp Bq:List (Option Blk)}{K0 K:AV->Mem->Prop}(h:Qz P f as ⟨[],Bp++(E pre.length s++Bq)⟩ K0)
  (h1:Xm Bs.length pre=true) (h2:Xm Bs.length post=true) (hn:Xo (pre++post)=true) (hp:Z4 ⟨l,Bs⟩ (inn (pre++(Jd Bs.length n++post))) pre Bp) (hq:Z4 ⟨l,Bs⟩ (inn (pre++(Jd Bs.length n++post))) post Bq)
  (has:Za (inn (pre++(Jd Bs.length n++post))) as=as')
  (hk:∀ A m0,K0 A m0→∃ (s':S) (Cp Cq:List (Option Blk)) (m':Mem),m0=⟨[],Cp ++ (E pre.length s' ++ Cq)⟩∧Cp.length=pre.length∧Cq.length=post.length∧Jn (Jn ⟨l,Bs⟩ pre (Zh (out (Qp l) (pre ++ (Jd Bs.length n ++ post))) Cp)) post (Zh (out (Qp l) (pre ++ (Jd Bs.length n ++ post))) Cq)=m' ∧
   K (ren (out (Qp l) (pre++(Jd Bs.length n++post))) A) ⟨m'.loc,m'.own++E Bs.length s'⟩):Qz P f as' ⟨l,Bs++E Bs.length s⟩ K:=by
 rw[<-has]
 refine h.frame _ (Q1z h1 h2 hn) (Q20 hE h1 h2 hp hq) fun A m0 h0=>?_
 obtain⟨s',Cp,Cq,m',rfl,hc,hd,hm,hK⟩:=hk A m0 h0
 refine⟨?_,by rw[Q1x hE h1 h2 hc m' hm];exact hK⟩
 have e1:=hp.len
 have e2:=hq.len
 simp only[V1,Qhc,hE.len,hc,hd,e1,e2]
theorem Zc.mid (hE:Fam n E){f:Nat}{as:List AV}(as':List AV){l Bs:List (Option Blk)}{s:S}(pre post:List Ref){Bp Bq:List (Option Blk)}{K0 K:AV->Mem->Prop}(h:Zc P f as ⟨[],Bp++(E pre.length s++Bq)⟩ K0)
  (h1:Xm Bs.length pre=true) (h2:Xm Bs.length post=true) (hn:Xo (pre++post)=true) (hp:Z4 ⟨l,Bs⟩ (inn (pre++(Jd Bs.length n++post))) pre Bp) (hq:Z4 ⟨l,Bs⟩ (inn (pre++(Jd Bs.length n++post))) post Bq)
  (has:Za (inn (pre++(Jd Bs.length n++post))) as=as')
  (hk:∀ A m0,K0 A m0→∃ (s':S) (Cp Cq:List (Option Blk)) (m':Mem),m0=⟨[],Cp ++ (E pre.length s' ++ Cq)⟩∧Cp.length=pre.length∧Cq.length=post.length∧Jn (Jn ⟨l,Bs⟩ pre (Zh (out (Qp l) (pre ++ (Jd Bs.length n ++ post))) Cp)) post (Zh (out (Qp l) (pre ++ (Jd Bs.length n ++ post))) Cq)=m' ∧
   K (ren (out (Qp l) (pre++(Jd Bs.length n++post))) A) ⟨m'.loc,m'.own++E Bs.length s'⟩):Zc P f as' ⟨l,Bs++E Bs.length s⟩ K:=by
 rw[<-has]
 refine h.frame _ (Q1z h1 h2 hn) (Q20 hE h1 h2 hp hq) fun A m0 h0=>?_
 obtain⟨s',Cp,Cq,m',rfl,hc,hd,hm,hK⟩:=hk A m0 h0
 refine⟨?_,by rw[Q1x hE h1 h2 hc m' hm];exact hK⟩
 have e1:=hp.len
 have e2:=hq.len
 simp only[V1,Qhc,hE.len,hc,hd,e1,e2]
theorem Ci {nl na:Nat}:∀{a a' b b':List (Option Blk)},a.length=a'.length->LeL nl na a a'->LeL nl na b b'->LeL nl na (a++b) (a'++b')
 |[],[],_,_,_,_,h=>h
 |[],_::_,_,_,h,_,_=>by simp at h
 |_::_,[],_,_,h,_,_=>by simp at h
 |x::a,y::a',b,b',h,h1,h2=>⟨h1.1,Ci (by simpa using h) h1.2 h2⟩
theorem Zc.sh (hE:Fam n E){f:Nat}{as:List AV}{l:List (Option Blk)}(Bs:List (Option Blk)){s:S}{K0 K:AV->Mem->Prop}(h:Zc P f as ⟨[],E 0 s⟩ K0)(has:Za (inn (Jd Bs.length n)) as=as)
  (hk:∀A m0,K0 A m0->∃s':S,m0=⟨[],E 0 s'⟩/\K (ren (out (Qp l) (Jd Bs.length n)) A) ⟨l,Bs++E Bs.length s'⟩):Zc P f as ⟨l,Bs++E Bs.length s⟩ K:=by
 have e:([]:List Ref)++(Jd Bs.length n++[])=Jd Bs.length n:=by simp
 refine Zc.mid hE as (l:=l) (Bs:=Bs) (s:=s) [] [] (Bp:=[]) (Bq:=[]) (K0:=K0) (by simpa using h) rfl rfl rfl Tt Tt (by rw[e];exact has) fun A m0 h0=>?_
 obtain⟨s',rfl,hK⟩:=hk A m0 h0
 refine⟨s',[],[],⟨l,Bs⟩,by simp,rfl,rfl,rfl,?_⟩
 rw[e]
 exact hK
theorem Fam.le1 (hE:Fam n E){nl:Nat}{B:Option Blk}{s:S}:LeL nl (Qp (B::E 1 s)) (E 1 s) (E 1 s):=hE.le _ _ _ _ (by rw[V1,Qhs,hE.len];omega)
theorem Fam.le2 (hE:Fam n E){nl:Nat}{B C:Option Blk}{s:S}:LeL nl (Qp (B::C::E 2 s)) (E 2 s) (E 2 s):=hE.le _ _ _ _ (by rw[V1,Qhs,Qhs,hE.len];omega)
theorem Zc.shD (hE:Fam n E){f:Nat}{as:List AV}{l:List (Option Blk)}(Bs:List (Option Blk)){s:S}{K:AV->Mem->Prop}{g:S->D}{J:S->Prop}(h:Zc P f as ⟨[],E 0 s⟩ (Ret (fun s':S=>([.d (g s')],⟨[],E 0 s'⟩)) J))(has:Za (inn (Jd Bs.length n)) as=as)
  (hk:∀s',J s'->K (.d (g s')) ⟨l,Bs++E Bs.length s'⟩):Zc P f as ⟨l,Bs++E Bs.length s⟩ K :=
 Zc.sh hE Bs h has fun A m0 ⟨s',hJ,e1,e2⟩=>⟨s',e2,by
  subst e1
  exact hk s' hJ⟩
end
end Go.Ab
