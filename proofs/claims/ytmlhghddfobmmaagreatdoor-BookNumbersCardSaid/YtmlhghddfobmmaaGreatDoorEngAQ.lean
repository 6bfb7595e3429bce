import Derived.Test.YtmlhghddfobmmaaGreatDoorEngAE
import Derived.Test.YtmlhghddfobmmaaGreatDoorEngAT
import Derived.Test.YtmlhghddfobmmaaGreatDoorEngAI
namespace Go.Ab
set_option linter.unusedSimpArgs false
set_option linter.unusedVariables false
def argsF:Nat->Nat->List Ref
 |_,0=>[]
 |q,n+1=>.arg q::argsF (q+1) n
theorem argsF_at:∀(n q j:Nat),j<n->(argsF q n)[j]?=some (.arg (q+j))
 |0,_,_,h=>absurd h (Nat.not_lt_zero _)
 |n+1,q,0,_=>rfl
 |n+1,q,j+1,h=>by
  rw[argsF,List.getElem?_cons_succ,argsF_at n (q+1) j Om,show q+1+j=q+(j+1) by omega]
theorem argsF_len:∀(n q:Nat),(argsF q n).length=n
 |0,_=>rfl
 |n+1,q=>by rw[argsF,List.length_cons,argsF_len n]
theorem argsF_mem:∀{n q:Nat} {r:Ref},r∈argsF q n->∃j,j<n/\r=.arg (q+j)
 |0,_,_,h=>by simp[argsF]at h
 | n + 1,q,r,h=>by
  rw[argsF,List.mem_cons]at h
  rcases h with rfl|h
  .exact⟨0,Om,rfl⟩
  .obtain⟨j,hj,rfl⟩:=argsF_mem h
   exact⟨j+1,Om,by rw[show q+1+j=q+(j+1) by omega]⟩
theorem argsF_nodup:∀(n q:Nat),(argsF q n).Nodup
 |0,_=>List.nodup_nil
 |n+1,q=>by
  rw[argsF,List.nodup_cons]
  refine⟨fun h=>?_,argsF_nodup n (q+1)⟩
  obtain⟨j,_,e⟩:=argsF_mem h
  injection e with e
  omega
theorem nth_at:∀{l:List Ref} {j:Nat} {r:Ref},l[j]?=some r->nth l j=r
 |[],j,r,h=>by simp at h
 |x::l,0,r,h=>by simp at h;exact h
 |x::l,j+1,r,h=>nth_at (l:=l) (by simpa using h)
theorem memR_iff {r:Ref}:∀{l:List Ref},memR r l=true↔r∈l
 |[]=>by simp[memR]
 | s :: t=>by
  simp only[memR,Bool.or_eq_true,decide_eq_true_iff,List.mem_cons,memR_iff (l:=t)]
  constructor
  .rintro(h|h)
   .exact .inl h.symm
   .exact .inr h
  .rintro(h|h)
   .exact .inl h.symm
   .exact .inr h
theorem nodupR_iff:∀{l:List Ref},nodupR l=true↔l.Nodup
 |[]=>by simp[nodupR]
 | r :: s=>by
  simp only[nodupR,Bool.and_eq_true,Bool.not_eq_true',List.nodup_cons,nodupR_iff (l:=s)]
  constructor
  .rintro⟨h1,h2⟩
   exact⟨fun h=>(by rw[memR_iff.2 h]at h1;exact Bool.noConfusion h1),h2⟩
  .rintro⟨h1,h2⟩
   refine⟨?_,h2⟩
   cases h:memR r s with
   |false=>rfl
   |true=>exact absurd (memR_iff.1 h) h1
def lowR (q:Nat):Ref->Bool
 | .loc _=>true
 | .arg j=>Nat.blt j q
 | .bad=>false
def lowL (q:Nat):List Ref->Bool
 |[]=>true
 |r::s=>lowR q r&&lowL q s
theorem lowL_at {q:Nat}:∀{l:List Ref},lowL q l=true->∀r∈l,lowR q r=true
 |[],_,r,h=>by simp at h
 |x::s,h,r,hr=>by
  simp only[lowL,Bool.and_eq_true]at h
  rcases List.mem_cons.1 hr with rfl|hr
  .exact h.1
  .exact lowL_at h.2 r hr
theorem low_ne {q n:Nat}{r:Ref}(h:lowR q r=true):r ∉ argsF q n:=fun hm=>by
 obtain⟨j,_,rfl⟩:=argsF_mem hm
 have:=Nat.le_of_ble_eq_true h
 omega
theorem mid_nodup {q n:Nat}{pre post:List Ref}(h1:lowL q pre=true)(h2:lowL q post=true)(hn:nodupR (pre++post)=true):nodupR (pre++(argsF q n++post))=true:=by
 rw[nodupR_iff]at hn⊢
 rw[List.nodup_append]at hn
 obtain⟨n1,n2,n3⟩:=hn
 rw[List.nodup_append,List.nodup_append]
 refine⟨n1,⟨argsF_nodup n q,n2,fun a ha b hb e=>?_⟩,fun a ha b hb e=>?_⟩
 .subst e
  exact low_ne (lowL_at h2 a hb) ha
 .subst e
  rcases List.mem_append.1 hb with hb|hb
  .exact low_ne (lowL_at h1 a ha) hb
  .exact n3 a ha a hb rfl
theorem at_low {l Bs X:List (Option Blk)}{r:Ref}(h:lowR Bs.length r=true):(⟨l,Bs++X⟩:Mem).at r=(⟨l,Bs⟩:Mem).at r:=by
 cases r with
 |loc j=>rfl
 |arg j=>exact List.getElem?_append_left (Nat.le_of_ble_eq_true h)
 |bad=>rfl
theorem putAt_low:∀{Bs X:List (Option Blk)} {j:Nat} {b:Option Blk},j<Bs.length->putAt (Bs++X) j b=putAt Bs j b++X
 |[],X,j,b,h=>by simp at h
 |x::r,X,0,b,h=>rfl
 |x::r,X,j+1,b,h=>by
  show x::putAt (r++X) j b=x::(putAt r j b++X)
  rw[putAt_low (Bs:=r) (by simpa using h)]
theorem putAt_len':∀{l:List (Option Blk)} {j:Nat} {b:Option Blk},(putAt l j b).length=l.length
 |[],_,_=>rfl
 |_::_,0,_=>rfl
 |x::r,j+1,b=>by
  show(x::putAt r j b).length=_
  rw[List.length_cons,putAt_len' (l:=r),List.length_cons]
theorem putAt_mid:∀{Bs X:List (Option Blk)} {x y:Option Blk},putAt (Bs++x::X) Bs.length y=(Bs++[y])++X
 |[],_,_,_=>rfl
 |b::r,X,x,y=>by
  show b::putAt (r++x::X) r.length y=b::((r++[y])++X)
  rw[putAt_mid (Bs:=r)]
theorem put_low {l Bs X:List (Option Blk)}{r:Ref}{b:Option Blk}(h:lowR Bs.length r=true):(⟨l,Bs++X⟩:Mem).put r b=⟨((⟨l,Bs⟩:Mem).put r b).loc,((⟨l,Bs⟩:Mem).put r b).own++X⟩/\((⟨l,Bs⟩:Mem).put r b).own.length=Bs.length:=by
 cases r with
 |loc j=>exact⟨rfl,rfl⟩
 |arg j =>
  refine⟨?_,putAt_len'⟩
  show(⟨l,putAt (Bs++X) j b⟩:Mem)=⟨l,putAt Bs j b++X⟩
  rw[putAt_low (Nat.le_of_ble_eq_true h)]
 |bad=>cases h
theorem putAll_low {X:List (Option Blk)}:∀{rs:List Ref} {bs:List (Option Blk)} {l Bs:List (Option Blk)},lowL Bs.length rs=true ->
  putAll ⟨l,Bs++X⟩ rs bs=⟨(putAll ⟨l,Bs⟩ rs bs).loc,(putAll ⟨l,Bs⟩ rs bs).own++X⟩/\(putAll ⟨l,Bs⟩ rs bs).own.length=Bs.length
 |[],bs,l,Bs,_=>by cases bs<;>exact⟨rfl,rfl⟩
 |r::rs,[],l,Bs,_=>⟨rfl,rfl⟩
 |r::rs,b::bs,l,Bs,h=>by
  simp only[lowL,Bool.and_eq_true]at h
  obtain⟨h1,h2⟩:=put_low (X:=X) (l:=l) (b:=b) h.1
  rw[putAll,putAll,h1]
  generalize (⟨l,Bs⟩:Mem).put r b=m at h2
  obtain⟨l1,B1⟩:=m
  have h3:B1.length=Bs.length:=h2
  obtain⟨h4,h5⟩:=putAll_low (X:=X) (rs:=rs) (bs:=bs) (l:=l1) (Bs:=B1) (by rw[h3];exact h.2)
  exact⟨h4,h5.trans h3⟩
theorem putAll_mid:∀{X Y:List (Option Blk)} {l Bs:List (Option Blk)},X.length=Y.length->putAll ⟨l,Bs++X⟩ (argsF Bs.length X.length) Y=⟨l,Bs++Y⟩
 |[],[],_,_,_=>rfl
 |[],_::_,_,_,h=>by simp at h
 |_::_,[],_,_,h=>by simp at h
 | x :: X,y :: Y,l,Bs,h=>by
  show putAll ((⟨l,Bs++x::X⟩:Mem).put (.arg Bs.length) y) (argsF (Bs.length+1) X.length) Y=_
  have e:(⟨l,Bs++x::X⟩:Mem).put (.arg Bs.length) y=⟨l,(Bs++[y])++X⟩:=by
   show(⟨l,putAt (Bs++x::X) Bs.length y⟩:Mem)=_
   rw[putAt_mid]
  rw[e]
  have:=putAll_mid (X:=X) (Y:=Y) (l:=l) (Bs:=Bs++[y]) (by simpa using h)
  rw[List.length_append,List.length_singleton]at this
  rw[this,List.append_assoc]
  rfl
theorem putAll_app:∀{a b:List Ref} {x y:List (Option Blk)} {m:Mem},a.length=x.length->putAll m (a++b) (x++y)=putAll (putAll m a x) b y
 |[],b,[],y,m,_=>rfl
 |[],_,_::_,_,_,h=>by simp at h
 |_::_,_,[],_,_,h=>by simp at h
 |r::a,b,z::x,y,m,h=>by
  show putAll (m.put r z) (a++b) (x++y)=putAll (putAll (m.put r z) a x) b y
  exact putAll_app (by simpa using h)
theorem renM_app {ρ:Ref->Ref}(a b:List (Option Blk)):renM ρ (a++b)=renM ρ a++renM ρ b:=by rw[renM_eq,renM_eq,renM_eq,List.map_append]
theorem renM_len {ρ:Ref->Ref}(a:List (Option Blk)):(renM ρ a).length=a.length:=by rw[renM_eq,List.length_map]
theorem Picks.app {m:Mem}{ρ:Ref->Ref}:∀{a b:List Ref} {x y:List (Option Blk)},Picks m ρ a x->Picks m ρ b y->Picks m ρ (a++b) (x++y)
 |[],_,[],_,_,h=>h
 |[],_,_::_,_,h,_=>h.elim
 |_::_,_,[],_,h,_=>h.elim
 |r::a,b,z::x,y,h,k=>⟨h.1,Picks.app h.2 k⟩
theorem Picks.low {l Bs X:List (Option Blk)}{ρ:Ref->Ref}:∀{a:List Ref} {x:List (Option Blk)},lowL Bs.length a=true->Picks ⟨l,Bs⟩ ρ a x->Picks ⟨l,Bs++X⟩ ρ a x
 |[],[],_,_=>Tt
 |[],_::_,_,h=>h.elim
 |_::_,[],_,h=>h.elim
 |r::a,z::x,hl,h=>by
  simp only[lowL,Bool.and_eq_true]at hl
  exact⟨by rw[at_low hl.1];exact h.1,Picks.low hl.2 h.2⟩
theorem Picks.args {m:Mem}{ρ:Ref->Ref}:∀{Y:List (Option Blk)} {q:Nat},(∀(j:Nat) b,Y[j]?=some b->m.at (.arg (q+j))=some (renO ρ b))->Picks m ρ (argsF q Y.length) Y
 |[],_,_=>Tt
 | y :: Y,q,h=>⟨h 0 y rfl,Picks.args fun j b hb=>by
   have:=h (j+1) b (by simpa using hb)
   rwa [show q+(j+1)=q+1+j by omega]at this⟩
structure Fam {S:Type}(n:Nat)(E:Nat->S->List (Option Blk)):Prop where
 len:∀k s,(E k s).length=n
 ren:∀(ρ:Ref->Ref) (k k':Nat) (s:S),(∀j,j<n->ρ (.arg (k+j))=.arg (k'+j))->renM ρ (E k s)=E k' s
 le:∀(nl na k:Nat) (s:S),k+n<=na->LeL nl na (E k s) (E k s)
section
variable {P:Program}{S:Type}{n:Nat}{E:Nat->S->List (Option Blk)}
theorem mid_inn {q:Nat}{pre post:List Ref}{j:Nat}(hj:j<n):nth (pre++(argsF q n++post)) (pre.length+j)=.arg (q+j):=by
 refine nth_at ?_
 rw[List.getElem?_append_right (Nat.le_add_right _ _),Nat.add_sub_cancel_left,List.getElem?_append_left (by rw[argsF_len];exact hj),argsF_at n q j hj]
theorem mid_picks (hE:Fam n E){l Bs:List (Option Blk)}{s:S}{pre post:List Ref}{Bp Bq:List (Option Blk)}(h1:lowL Bs.length pre=true)(h2:lowL Bs.length post=true)
  (hp:Picks ⟨l,Bs⟩ (inn (pre++(argsF Bs.length n++post))) pre Bp) (hq:Picks ⟨l,Bs⟩ (inn (pre++(argsF Bs.length n++post))) post Bq) :
  Picks ⟨l,Bs++E Bs.length s⟩ (inn (pre++(argsF Bs.length n++post))) (pre++(argsF Bs.length n++post)) (Bp++(E pre.length s++Bq)):=by
 refine(hp.low h1).app (Picks.app ?_ (hq.low h2))
 have:=Picks.args (m:=⟨l,Bs++E Bs.length s⟩) (ρ:=inn (pre++(argsF Bs.length n++post))) (Y:=E pre.length s) (q:=Bs.length) fun j b hb=>by
  have hj:j<n:=by rw[<-hE.len pre.length s];exact(List.getElem?_eq_some_iff.1 hb).1
  show(Bs++E Bs.length s)[Bs.length+j]?=_
  rw[List.getElem?_append_right (Nat.le_add_right _ _),Nat.add_sub_cancel_left,<-hE.ren (inn (pre++(argsF Bs.length n++post))) pre.length Bs.length s (fun j hj=>mid_inn hj),renM_eq,List.getElem?_map,hb]
  rfl
 rwa [hE.len]at this
theorem mid_back (hE:Fam n E){l Bs:List (Option Blk)}{s s':S}{pre post:List Ref}{Cp Cq:List (Option Blk)}(h1:lowL Bs.length pre=true)(h2:lowL Bs.length post=true)(hc:Cp.length=pre.length)(m':Mem)
  (hm:putAll (putAll ⟨l,Bs⟩ pre (renM (out (lenL l) (pre++(argsF Bs.length n++post))) Cp)) post (renM (out (lenL l) (pre++(argsF Bs.length n++post))) Cq)=m') :
  back ⟨l,Bs++E Bs.length s⟩ (pre++(argsF Bs.length n++post)) ⟨[],Cp++(E pre.length s'++Cq)⟩=⟨m'.loc,m'.own++E Bs.length s'⟩:=by
 generalize hρ:out (lenL l) (pre++(argsF Bs.length n++post))=ρ at hm
 have happ:∀x:List (Option Blk),app x []=x:=fun x=>by
  induction x with
  |nil=>rfl
  |cons b r ih=>show b::app r []=_;rw[ih]
 have hEr:renM ρ (E pre.length s')=E Bs.length s':=hE.ren ρ _ _ s' fun j hj=>by
  rw[<-hρ]
  exact mid_inn hj
 unfold back
 rw[hρ,renM_app,renM_app,hEr,putAll_app (by rw[renM_len,hc])]
 obtain⟨a1,a2⟩:=putAll_low (X:=E Bs.length s) (rs:=pre) (bs:=renM ρ Cp) (l:=l) h1
 rw[a1]
 generalize hm1:putAll ⟨l,Bs⟩ pre (renM ρ Cp)=m1 at a2 hm
 obtain⟨l1,B1⟩:=m1
 have a3:B1.length=Bs.length:=a2
 have hmid:putAll ⟨l1,B1++E Bs.length s⟩ (argsF Bs.length n) (E Bs.length s')=⟨l1,B1++E Bs.length s'⟩:=by
  have:=putAll_mid (X:=E Bs.length s) (Y:=E Bs.length s') (l:=l1) (Bs:=B1) (by rw[hE.len,hE.len])
  rwa [hE.len,a3]at this
 rw[putAll_app (by rw[argsF_len,hE.len])]
 show(match putAll (putAll ⟨l1,B1++E Bs.length s⟩ (argsF Bs.length n) (E Bs.length s')) post (renM ρ Cq) with
  |⟨l,o⟩=>(⟨app l (renM ρ []),o⟩:Mem))=_
 rw[hmid]
 obtain⟨c1,_⟩:=putAll_low (X:=E Bs.length s') (rs:=post) (bs:=renM ρ Cq) (l:=l1) (Bs:=B1) (by rw[a3];exact h2)
 rw[c1,hm]
 show(⟨app m'.loc [],m'.own++E Bs.length s'⟩:Mem)=_
 rw[happ]
theorem CallVC.mid (hE:Fam n E){f:FuncId}{as:List AV}(as':List AV){l Bs:List (Option Blk)}{s:S}(pre post:List Ref){Bp Bq:List (Option Blk)}{K0 K:AV->Mem->Prop}(h:CallVC P f as ⟨[],Bp++(E pre.length s++Bq)⟩ K0)
  (h1:lowL Bs.length pre=true) (h2:lowL Bs.length post=true) (hn:nodupR (pre++post)=true) (hp:Picks ⟨l,Bs⟩ (inn (pre++(argsF Bs.length n++post))) pre Bp) (hq:Picks ⟨l,Bs⟩ (inn (pre++(argsF Bs.length n++post))) post Bq)
  (has:renL (inn (pre++(argsF Bs.length n++post))) as=as')
  (hk:∀ A m0,K0 A m0→∃ (s':S) (Cp Cq:List (Option Blk)) (m':Mem),m0=⟨[],Cp ++ (E pre.length s' ++ Cq)⟩∧Cp.length=pre.length∧Cq.length=post.length∧putAll (putAll ⟨l,Bs⟩ pre (renM (out (lenL l) (pre ++ (argsF Bs.length n ++ post))) Cp)) post (renM (out (lenL l) (pre ++ (argsF Bs.length n ++ post))) Cq)=m' ∧
   K (ren (out (lenL l) (pre++(argsF Bs.length n++post))) A) ⟨m'.loc,m'.own++E Bs.length s'⟩):CallVC P f as' ⟨l,Bs++E Bs.length s⟩ K:=by
 rw[<-has]
 refine h.frame _ (mid_nodup h1 h2 hn) (mid_picks hE h1 h2 hp hq) fun A m0 h0=>?_
 obtain⟨s',Cp,Cq,m',rfl,hc,hd,hm,hK⟩:=hk A m0 h0
 refine⟨?_,by rw[mid_back hE h1 h2 hc m' hm];exact hK⟩
 have e1:=hp.len
 have e2:=hq.len
 simp only[lenL_eq,List.length_append,hE.len,hc,hd,e1,e2]
theorem YieldVC.mid (hE:Fam n E){f:Nat}{as:List AV}(as':List AV){l Bs:List (Option Blk)}{s:S}(pre post:List Ref){Bp Bq:List (Option Blk)}{K0 K:AV->Mem->Prop}(h:YieldVC P f as ⟨[],Bp++(E pre.length s++Bq)⟩ K0)
  (h1:lowL Bs.length pre=true) (h2:lowL Bs.length post=true) (hn:nodupR (pre++post)=true) (hp:Picks ⟨l,Bs⟩ (inn (pre++(argsF Bs.length n++post))) pre Bp) (hq:Picks ⟨l,Bs⟩ (inn (pre++(argsF Bs.length n++post))) post Bq)
  (has:renL (inn (pre++(argsF Bs.length n++post))) as=as')
  (hk:∀ A m0,K0 A m0→∃ (s':S) (Cp Cq:List (Option Blk)) (m':Mem),m0=⟨[],Cp ++ (E pre.length s' ++ Cq)⟩∧Cp.length=pre.length∧Cq.length=post.length∧putAll (putAll ⟨l,Bs⟩ pre (renM (out (lenL l) (pre ++ (argsF Bs.length n ++ post))) Cp)) post (renM (out (lenL l) (pre ++ (argsF Bs.length n ++ post))) Cq)=m' ∧
   K (ren (out (lenL l) (pre++(argsF Bs.length n++post))) A) ⟨m'.loc,m'.own++E Bs.length s'⟩):YieldVC P f as' ⟨l,Bs++E Bs.length s⟩ K:=by
 rw[<-has]
 refine h.frame _ (mid_nodup h1 h2 hn) (mid_picks hE h1 h2 hp hq) fun A m0 h0=>?_
 obtain⟨s',Cp,Cq,m',rfl,hc,hd,hm,hK⟩:=hk A m0 h0
 refine⟨?_,by rw[mid_back hE h1 h2 hc m' hm];exact hK⟩
 have e1:=hp.len
 have e2:=hq.len
 simp only[lenL_eq,List.length_append,hE.len,hc,hd,e1,e2]
theorem LeL_app {nl na:Nat}:∀{a a' b b':List (Option Blk)},a.length=a'.length->LeL nl na a a'->LeL nl na b b'->LeL nl na (a++b) (a'++b')
 |[],[],_,_,_,_,h=>h
 |[],_::_,_,_,h,_,_=>by simp at h
 |_::_,[],_,_,h,_,_=>by simp at h
 |x::a,y::a',b,b',h,h1,h2=>⟨h1.1,LeL_app (by simpa using h) h1.2 h2⟩
theorem YieldVC.sh (hE:Fam n E){f:Nat}{as:List AV}{l:List (Option Blk)}(Bs:List (Option Blk)){s:S}{K0 K:AV->Mem->Prop}(h:YieldVC P f as ⟨[],E 0 s⟩ K0)(has:renL (inn (argsF Bs.length n)) as=as)
  (hk:∀A m0,K0 A m0->∃s':S,m0=⟨[],E 0 s'⟩/\K (ren (out (lenL l) (argsF Bs.length n)) A) ⟨l,Bs++E Bs.length s'⟩):YieldVC P f as ⟨l,Bs++E Bs.length s⟩ K:=by
 have e:([]:List Ref)++(argsF Bs.length n++[])=argsF Bs.length n:=by simp
 refine YieldVC.mid hE as (l:=l) (Bs:=Bs) (s:=s) [] [] (Bp:=[]) (Bq:=[]) (K0:=K0) (by simpa using h) rfl rfl rfl Tt Tt (by rw[e];exact has) fun A m0 h0=>?_
 obtain⟨s',rfl,hK⟩:=hk A m0 h0
 refine⟨s',[],[],⟨l,Bs⟩,by simp,rfl,rfl,rfl,?_⟩
 rw[e]
 exact hK
theorem Fam.le1 (hE:Fam n E){nl:Nat}{B:Option Blk}{s:S}:LeL nl (lenL (B::E 1 s)) (E 1 s) (E 1 s):=hE.le _ _ _ _ (by rw[lenL_eq,List.length_cons,hE.len];omega)
theorem Fam.le2 (hE:Fam n E){nl:Nat}{B C:Option Blk}{s:S}:LeL nl (lenL (B::C::E 2 s)) (E 2 s) (E 2 s):=hE.le _ _ _ _ (by rw[lenL_eq,List.length_cons,List.length_cons,hE.len];omega)
theorem YieldVC.shD (hE:Fam n E){f:Nat}{as:List AV}{l:List (Option Blk)}(Bs:List (Option Blk)){s:S}{K:AV->Mem->Prop}{g:S->D}{J:S->Prop}(h:YieldVC P f as ⟨[],E 0 s⟩ (Ret (fun s':S=>([.d (g s')],⟨[],E 0 s'⟩)) J))(has:renL (inn (argsF Bs.length n)) as=as)
  (hk:∀s',J s'->K (.d (g s')) ⟨l,Bs++E Bs.length s'⟩):YieldVC P f as ⟨l,Bs++E Bs.length s⟩ K :=
 YieldVC.sh hE Bs h has fun A m0 ⟨s',hJ,e1,e2⟩=>⟨s',e2,by
  subst e1
  exact hk s' hJ⟩
end
section
variable {P:Program}{T:Tab}{m:Mem}{σ:Pls}
structure BoxOk1 (T:Tab)(ops:Array Oper)(n:Nat)(s:BoxS):Prop where
 al:∃o,ops[n]?=some o/\o.dst=some s.t/\o.guard=none/\o.op=.alloc s.e
 st:∃o,ops[n+1]?=some o/\o.dst=none/\o.guard=none/\o.op=.store s.e (.tmp s.t) (.tmp s.tx)/\edgeTo o n/\edgeTo o s.jx
 vx:s.jx<n/\∃o,ops[s.jx]?=some o/\o.dst=some s.tx
 ty:∃ti,T.at s.e=some ti/\ti.size=s.cs.length
 one:∀x∈s.cs,x.one=true
 ne:∀(j:Nat) o,ops[j]?=some o->o.dst=some s.t->j=n
theorem BoxOk1.of {ops:Array Oper}{n:Nat}{s:BoxS}{oa os ox:Oper}{ti:TI}(a1:ops[n]?=some oa)(a2:oa.dst=some s.t/\oa.guard=none/\oa.op=.alloc s.e)(s1:ops[n+1]?=some os)(s2:os.dst=none/\os.guard=none/\os.op=.store s.e (.tmp s.t) (.tmp s.tx))
  (s3:edgeOn os.after.toList n=true) (s4:edgeOn os.after.toList s.jx=true) (v1:Nat.blt s.jx n=true) (v2:ops[s.jx]?=some ox) (v3:ox.dst=some s.tx) (t1:T.at s.e=some ti) (t2:ti.size=s.cs.length) (h1:allOne s.cs=true) (h2:dstOnce s.t n 0 ops.toList=true):BoxOk1 T ops n s where
 al:=⟨oa,a1,a2.1,a2.2.1,a2.2.2⟩
 st:=⟨os,s1,s2.1,s2.2.1,s2.2.2,edgeTo_of s3,edgeTo_of s4⟩
 vx:=⟨Nat.le_of_ble_eq_true v1,ox,v2,v3⟩
 ty:=⟨ti,t1,t2⟩
 one:=allOne_ok h1
 ne j o ho hd:=by
  have:=dstOnce_at h2 j o (by rw[Array.getElem?_toList];exact ho) hd
  omega
def BoxR1 (n0:Nat)(n:Nat)(s:BoxS)(listed:Array Bool)(F:Nat->Prop)(w:World)(tmps:Array Value)(b:Nat):Prop :=
 (listed.getD (n+1) true=true->listed.getD n true=true)/\(listed.getD n true=true->HoldB n0 s.e s.cs.length s.cs (listed.getD (n+1) true) F w (tmps.getD s.t undef) b)
variable {ro:Option Nat}
theorem one_step (hT:TabOk P T){N:Nat}{ops:Array Oper}{n:Nat}{s:BoxS}(hb:BoxOk1 T ops n s)(htN:s.t<N){F0:Nat->Prop}{w0:World}{As:Nat->AV}{env:Env}
  {listed:Array Bool} {a':Act} {w':World} {F':Nat->Prop} {i:Nat} {o:Oper} (hi:i=n\/i=n+1) (ho:ops[i]?=some o) (hl:listed.getD i true=false) (hen:∀e∈o.after,Region.binds .any e=true->listed.getD e.on true=true) (hN:a'.tmps.size=N) (hm:MemOk m σ F' w')
  (hs:Slots ops n env σ As listed F' w' a'.tmps) (hA:As s.jx=.d (.agg s.cs)) (hg:Grew F0 w0 F' w') (hown:∀b,Owned σ b->b<w0.heap.size) (hR:∃b,BoxR1 w0.heap.size n s listed F' w' a'.tmps b) {next:Act->World->Prop} {Q:Exit->Act->World->Prop}
  (hnext:∀v w2,(∀b,F' b->w2.heap[b]?=w'.heap[b]?)->MemOk m σ F' w2->Grew F0 w0 F' w2->(∃b,BoxR1 w0.heap.size n s (listed.setIfInBounds i true) F' w2 (a'.put o.dst v).tmps b)->next (a'.put o.dst v) w2):wpOpIn (Fen ro) 0 P ops Q i next a' w':=by
 obtain⟨ti,hti,hsz⟩:=hb.ty
 obtain⟨b,hR1⟩:=hR
 rcases hi with rfl|rfl
 .obtain⟨o',ho',hdst,hgd,hop⟩:=hb.al
  rw[ho]at ho'
  cases ho'
  have hw:Region.wanted o (yielded ops a'.tmps)=true:=by simp[Region.wanted,hgd]
  unfold wpOpIn
  simp only[ho,hw,if_true]
  obtain⟨us,hus,hrun⟩:=run_alloc_box hT hti w'
  refine wpIn_at (fun d h=>by rw[hop]at h;cases h) ?_
  rw[hrun a' o hop]
  simp only[Oper.uponIn]
  have hkeep:∀x,x<w'.heap.size->(w'.alloc (.cells us.toArray s.e)).heap[x]?=w'.heap[x]?:=fun x hx=>heap_alloc_old w' _ hx
  have hsize:(w'.alloc (.cells us.toArray s.e)).heap.size=w'.heap.size+1:=size_alloc w' _
  have hgr:Grew F' w' F' (w'.alloc (.cells us.toArray s.e)):=⟨rfl,rfl,rfl,Nat.le_refl _,Om,fun x hx=>hkeep x hx,fun _ h=>h,fun _ h=>.inl h,fun x hx=>by have:=hm.fl x hx;omega⟩
  refine hnext _ _ (fun x hx=>hkeep x (hm.fl x hx)) (hgr.mem hm) (hg.trans hgr) ⟨w'.heap.size,⟨fun h=>listed_self,fun _=>?_⟩⟩
  have hns:listed.getD (i+1) true=false:=by
   cases h:listed.getD (i+1) true with
   |false=>rfl
   |true=>rw[hR1.1 h]at hl;cases hl
  rw[listed_set Om,hns,hdst,put_eq (by rw[hN];exact htN)]
  exact⟨rfl,hg.size,Om,fun h=>by have:=hm.fl _ h;omega,us,heap_alloc_new w' _,Om,fun h=>by cases h⟩
 .obtain⟨o',ho',hdst,hgd,hop,⟨e1,he1,heq1,hbi1⟩,⟨e2,he2,heq2,hbi2⟩⟩:=hb.st
  rw[ho]at ho'
  cases ho'
  have hw:Region.wanted o (yielded ops a'.tmps)=true:=by simp[Region.wanted,hgd]
  have hlc:listed.getD n true=true:=by have:=hen e1 he1 hbi1;rwa [heq1]at this
  have hlj:listed.getD s.jx true=true:=by have:=hen e2 he2 hbi2;rwa [heq2]at this
  obtain⟨hjn,oj,hoj,hdj⟩:=hb.vx
  have hval:=(hs s.tx).1 s.jx oj hjn hoj hdj hlj
  rw[hA]at hval
  obtain⟨V,hV⟩:∃V,a'.tmps.getD s.tx undef=V:=⟨_,rfl⟩
  rw[hV]at hval
  have hval:Rd w' F' (.agg s.cs) V:=by cases hval with|d h=>exact h
  obtain⟨hv,hn0,hlt,hnF,us,hheap,hlen,hst⟩:=hR1.2 hlc
  unfold wpOpIn
  simp only[ho,hw,if_true]
  refine wpIn_at (fun d h=>by rw[hop]at h;cases h) ?_
  obtain⟨vs,hvl,hvr,hrun⟩:=run_store_box hT hti hsz hb.one hval hheap hlen
  have hex:(execOp a'.eval o).run P w'=.ok .skip (w'.setRow b vs.toArray):=by
   have e3:a'.eval (.tmp s.t)=.pointer (some ⟨b,0,none⟩):=hv
   have e4:a'.eval (.tmp s.tx)=V:=hV
   simp[execOp,hop,e3,e4,hrun]
  rw[hex]
  simp only[Oper.uponIn]
  have hoth:∀x,x≠b->(w'.setRow b vs.toArray).heap[x]?=w'.heap[x]?:=fun x hx=>setRow_other w' b x _ hx
  have hsize:(w'.setRow b vs.toArray).heap.size=w'.heap.size:=size_setRow _ _ _
  have hFk:∀x,F' x->(w'.setRow b vs.toArray).heap[x]?=w'.heap[x]?:=fun x hx=>hoth x (fun e=>hnF (e▸hx))
  have hgr:Grew F0 w0 F' (w'.setRow b vs.toArray):=⟨hg.os,hg.tape,hg.output,hg.drawn,by rw[hsize];exact hg.size,fun x hx=>(hoth x Om).trans (hg.keep x hx),hg.fro,hg.fro',fun x hx=>by rw[hsize];exact hg.lt x hx⟩
  refine hnext _ _ hFk (hm.world (by rw[hsize];exact Nat.le_refl _) fun x hx=>?_) hgr ⟨b,⟨fun _=>by rw[listed_set Om];exact hlc,fun _=>?_⟩⟩
  .rcases hx with hx|⟨r,p,t,h1,h2⟩
   .exact hFk x hx
   .exact hoth x (fun e=>by have:=hown x ⟨r,p,t,h1,h2⟩;omega)
  .rw[hdst,put_ne (fun e=>by cases e)]
   exact⟨hv,hn0,by rw[hsize];exact hlt,hnF,vs,setRow_heap w' b us.toArray _ s.e (0,0) hheap,hvl,fun _ j x u hx hu=>⟨(hvr j x u hx hu).1.mono (fun _ h=>h) hFk,(hvr j x u hx hu).2⟩⟩
theorem Awp.one (hT:TabOk P T){id N:Nat}{ops:Array Oper}{env:Env}{Q:Post}(h1:P.follows .mixedOrders=true)(h2:okR ops.toList=true)(hd:dstsIn N ops.toList=true)(pre suf:List Oper)(hsp:ops.toList=pre++suf)(hsuf:suf.length=2)(s0:BoxS)
  (b0:BoxOk1 T ops pre.length s0) (h0N:s0.t<N)
  (h:vcR P T ops.toList m pre env fun E=>get E s0.tx=.d (.agg s0.cs)/\Ev (Q .normal ((s0.t,.d (.pt s0.cs 0))::E) m)):Awp P N (.region id ops true) env m Q :=
 ⟨fun ro lo a w σ F hN hD he hm=>by
  have hown:∀b,Owned σ b->b<w.heap.size:=fun b ⟨r,p,t,e1,e2⟩=>(hm.nf r p b t e1 e2).2
  have hsize:ops.size=pre.length+2:=by
   have:ops.toList.length=ops.size:=Array.length_toList
   rw[<-this,hsp,List.length_append,hsuf]
  refine drawn_tail h1 h2 hT hm hd hsp h hN he (fun listed a' w' F'=>Grew F w F' w'/\∃b,BoxR1 w.heap.size pre.length s0 listed F' w' a'.tmps b) ?_ ?_ ?_ ?_
  .have hrep:∀j,j<ops.size->(Array.replicate ops.size false).getD j true=false:=fun j hj=>by
    rw[getD_list,Array.toList_replicate,List.getElem?_replicate,if_pos hj]
    rfl
   refine⟨Grew.drew hm.fl,0,⟨fun h=>?_,fun h=>?_⟩⟩
   all_goals (rw[hrep _ Om]at h;cases h)
  .rintro listed a' w' F' F2 w2 v i o ⟨hg,b,hR⟩ hg2 hi ho hls hN'
   refine⟨hg.trans hg2,b,fun h=>?_,fun h=>?_⟩
   .rw[listed_set Om]at h⊢
    exact hR.1 h
   .rw[listed_set Om]at h
    rw[listed_set Om,put_ne (fun e=>by have:=b0.ne i o ho e;omega)]
    have hh:=hR.2 h
    exact hh.mono hg2.size hg2.fro hg2.fro' (fun x hx=>hg2.keep x (hg.lt x hx)) (hg2.keep _ hh.2.2.1)
  .rintro As listed a' w' F' i o hE hK hi ho hl hen hls hN' hD' hmw hs ⟨hg,hR⟩ next hnext
   have hiN:i<ops.size:=(Array.getElem?_eq_some_iff.1 ho).1
   have hA0:As s0.jx=.d (.agg s0.cs):=by
    obtain⟨hj,oj,hoj,hdj⟩:=b0.vx
    rw[<-hE s0.jx oj s0.tx hoj hdj hj]
    exact hK.1
   have mono:∀w2:World,(∀b,F' b->w2.heap[b]?=w'.heap[b]?)->∀A u,Vc w' F' σ A u->Vc w2 F' σ A u:=fun w2 hk A u hv=>hv.mono (fun _ h=>h) hk (SLe.refl σ)
   exact one_step hT b0 h0N (show i=pre.length\/i=pre.length+1 by omega) ho hl hen hN' hmw hs hA0 hg hown hR fun v w2 k1 k2 k3 k4=>hnext v w2 F' k2 (mono w2 k1) ⟨k3,k4⟩
  .rintro As a' w' F' ⟨_,hK⟩ hE hN' hD' hmw hs listed hall ⟨hg,b,hR1⟩
   obtain⟨hv0,hn0,hlt0,hnF0,us0,hh0,hl0,hr0⟩:=hR1.2 (hall _ Om)
   rw[hall _ Om]at hr0
   let F2:Nat->Prop:=fun x=>F' x\/x=b
   have hg2:Grew F w F2 w':=⟨hg.os,hg.tape,hg.output,hg.drawn,hg.size,hg.keep,fun x hx=>.inl (hg.fro x hx),fun x hx=>by
    rcases hx with hx|rfl
    .exact hg.fro' x hx
    .exact .inr hn0,fun x hx=>by
    rcases hx with hx|rfl
    .exact hg.lt x hx
    .exact hlt0⟩
   have upF:∀{x u},Rd w' F' x u->Rd w' F2 x u:=fun h=>h.mono (fun _ h=>.inl h) (fun _ _=>rfl)
   have pt:∀(b:Nat) (e:TypeId) (us:List Value) (cs:List D),F2 b->w'.heap[b]?=some (.cells us.toArray e (0,0))->us.length=cs.length->(∀(j:Nat) x u,cs[j]?=some x->us[j]?=some u->Rd w' F' x u/\u.oneCell'=true)->Rd w' F2 (.pt cs 0) (.pointer (some ⟨b,0,none⟩)):=by
    intro b e us cs hF hh hl hr
    have:=Rd.pt (w:=w') (F:=F2) (cs:=cs) (off:=0) ⟨b,0,none⟩ (fun j=>us.getD j undef) hF
     (fun j hj=>by
      have hu:us[j]?=some (us[j]'Om):=List.getElem?_eq_getElem Om
      rw[add_at,Nat.zero_add,cell_of_row w' b j us.toArray e (0,0) hh]
      simp only[List.getD_eq_getElem?_getD,hu,Option.getD_some]
      exact⟨by simp,(hr j _ _ (List.getElem?_eq_getElem hj) hu).2⟩)
     (fun j x hx=>by
      have hj:=(List.getElem?_eq_some_iff.1 hx).1
      have hu:us[j]?=some (us[j]'Om):=List.getElem?_eq_getElem Om
      simp only[List.getD_eq_getElem?_getD,hu,Option.getD_some]
      exact upF (hr j x _ hx hu).1)
    rwa [add_at]at this
   refine⟨_,m,σ,F2,hK.o,hN',by rw[hD'];exact hD.step (hg2.step σ),fun t=>?_,hg2.mem hm,hg2.step σ,SArg.refl σ⟩
   simp only[get]
   cases h0:Nat.beq s0.t t with
   |true =>
    have:=Nat.eq_of_beq_eq_true h0
    subst this
    simp only[cond_true]
    rw[hv0]
    exact .d (pt b _ us0 _ (.inr rfl) hh0 hl0 (hr0 rfl))
   | false =>
    simp only[cond_false]
    refine(hs t fun j o hj ho hdo=>?_).mono (fun _ h=>.inl h) (fun _ _=>rfl) (SLe.refl σ)
    have hjN:j<ops.size:=(Array.getElem?_eq_some_iff.1 ho).1
    rcases show j=pre.length\/j=pre.length+1 by omega with hj|hj
    .obtain⟨o',ho',hdst,_⟩:=b0.al
     rw[<-hj,ho]at ho'
     cases ho'
     rw[hdst]at hdo
     injection hdo with hdo
     exact Nat.ne_of_beq_eq_false h0 hdo
    .obtain⟨o',ho',hdst,_⟩:=b0.st
     rw[<-hj,ho]at ho'
     cases ho'
     rw[hdst]at hdo
     cases hdo⟩
theorem Awp.oneN (hT:TabOk P T){id N:Nat}{ops:Array Oper}{env:Env}{Q:Post}(n:Nat)(s0:BoxS)(h1:P.follows .mixedOrders=true)(h2:okR ops.toList=true)(hd:dstsIn N ops.toList=true)(hsuf:Nat.beq (ops.toList.drop n).length 2=true)
  (b0:BoxOk1 T ops n s0) (h0N:Nat.blt s0.t N=true)
  (h:vcR P T ops.toList m (ops.toList.take n) env fun E=>get E s0.tx=.d (.agg s0.cs)/\Ev (Q .normal ((s0.t,.d (.pt s0.cs 0))::E) m)):Awp P N (.region id ops true) env m Q:=by
 have h4:=Nat.eq_of_beq_eq_true hsuf
 have hl:(ops.toList.take n).length=n:=take_len rfl (fun e=>by rw[e]at h4;cases h4)
 exact Awp.one hT h1 h2 hd (ops.toList.take n) (ops.toList.drop n) (List.take_append_drop _ _).symm h4 s0 (by rw[hl];exact b0) (Nat.le_of_ble_eq_true h0N) h
end
end Go.Ab
