import Derived.Test.YtmlhghddfobmmaaGreatDoorEngAE
namespace Go.Ab
set_option linter.unusedSimpArgs false
set_option linter.unusedVariables false
def argsF:Nat->Nat->List Ref
 |_,0=>[]
 |q,n+1=>.arg q::argsF (q+1) n
theorem argsF_at:∀(n q j:Nat),j<n->(argsF q n)[j]?=some (.arg (q+j))
 |0,_,_,h=>absurd h (Nat.not_lt_zero _)
 |n+1,q,0,_=>rfl
 |n+1,q,j+1,h=>by
  rw[argsF,List.getElem?_cons_succ,argsF_at n (q+1) j Om,show q+1+j=q+(j+1) by omega]
theorem argsF_len:∀(n q:Nat),(argsF q n).length=n
 |0,_=>rfl
 |n+1,q=>by rw[argsF,List.length_cons,argsF_len n]
theorem argsF_mem:∀{n q:Nat} {r:Ref},r∈argsF q n->∃j,j<n/\r=.arg (q+j)
 |0,_,_,h=>by simp[argsF]at h
 | n + 1,q,r,h=>by
  rw[argsF,List.mem_cons]at h
  rcases h with rfl|h
  .exact⟨0,Om,rfl⟩
  .obtain⟨j,hj,rfl⟩:=argsF_mem h
   exact⟨j+1,Om,by rw[show q+1+j=q+(j+1) by omega]⟩
theorem argsF_nodup:∀(n q:Nat),(argsF q n).Nodup
 |0,_=>List.nodup_nil
 |n+1,q=>by
  rw[argsF,List.nodup_cons]
  refine⟨fun h=>?_,argsF_nodup n (q+1)⟩
  obtain⟨j,_,e⟩:=argsF_mem h
  injection e with e
  omega
theorem nth_at:∀{l:List Ref} {j:Nat} {r:Ref},l[j]?=some r->nth l j=r
 |[],j,r,h=>by simp at h
 |x::l,0,r,h=>by simp at h;exact h
 |x::l,j+1,r,h=>nth_at (l:=l) (by simpa using h)
theorem memR_iff {r:Ref}:∀{l:List Ref},memR r l=true↔r∈l
 |[]=>by simp[memR]
 | s :: t=>by
  simp only[memR,Bool.or_eq_true,decide_eq_true_iff,List.mem_cons,memR_iff (l:=t)]
  constructor
  .rintro(h|h)
   .exact .inl h.symm
   .exact .inr h
  .rintro(h|h)
   .exact .inl h.symm
   .exact .inr h
theorem nodupR_iff:∀{l:List Ref},nodupR l=true↔l.Nodup
 |[]=>by simp[nodupR]
 | r :: s=>by
  simp only[nodupR,Bool.and_eq_true,Bool.not_eq_true',List.nodup_cons,nodupR_iff (l:=s)]
  constructor
  .rintro⟨h1,h2⟩
   exact⟨fun h=>(by rw[memR_iff.2 h]at h1;exact Bool.noConfusion h1),h2⟩
  .rintro⟨h1,h2⟩
   refine⟨?_,h2⟩
   cases h:memR r s with
   |false=>rfl
   |true=>exact absurd (memR_iff.1 h) h1
def lowR (q:Nat):Ref->Bool
 | .loc _=>true
 | .arg j=>Nat.blt j q
 | .bad=>false
def lowL (q:Nat):List Ref->Bool
 |[]=>true
 |r::s=>lowR q r&&lowL q s
theorem lowL_at {q:Nat}:∀{l:List Ref},lowL q l=true->∀r∈l,lowR q r=true
 |[],_,r,h=>by simp at h
 |x::s,h,r,hr=>by
  simp only[lowL,Bool.and_eq_true]at h
  rcases List.mem_cons.1 hr with rfl|hr
  .exact h.1
  .exact lowL_at h.2 r hr
theorem low_ne {q n:Nat}{r:Ref}(h:lowR q r=true):r ∉ argsF q n:=fun hm=>by
 obtain⟨j,_,rfl⟩:=argsF_mem hm
 have:=Nat.le_of_ble_eq_true h
 omega
theorem mid_nodup {q n:Nat}{pre post:List Ref}(h1:lowL q pre=true)(h2:lowL q post=true)(hn:nodupR (pre++post)=true):nodupR (pre++(argsF q n++post))=true:=by
 rw[nodupR_iff]at hn⊢
 rw[List.nodup_append]at hn
 obtain⟨n1,n2,n3⟩:=hn
 rw[List.nodup_append,List.nodup_append]
 refine⟨n1,⟨argsF_nodup n q,n2,fun a ha b hb e=>?_⟩,fun a ha b hb e=>?_⟩
 .subst e
  exact low_ne (lowL_at h2 a hb) ha
 .subst e
  rcases List.mem_append.1 hb with hb|hb
  .exact low_ne (lowL_at h1 a ha) hb
  .exact n3 a ha a hb rfl
theorem at_low {l Bs X:List (Option Blk)}{r:Ref}(h:lowR Bs.length r=true):(⟨l,Bs++X⟩:Mem).at r=(⟨l,Bs⟩:Mem).at r:=by
 cases r with
 |loc j=>rfl
 |arg j=>exact List.getElem?_append_left (Nat.le_of_ble_eq_true h)
 |bad=>rfl
theorem putAt_low:∀{Bs X:List (Option Blk)} {j:Nat} {b:Option Blk},j<Bs.length->putAt (Bs++X) j b=putAt Bs j b++X
 |[],X,j,b,h=>by simp at h
 |x::r,X,0,b,h=>rfl
 |x::r,X,j+1,b,h=>by
  show x::putAt (r++X) j b=x::(putAt r j b++X)
  rw[putAt_low (Bs:=r) (by simpa using h)]
theorem putAt_len':∀{l:List (Option Blk)} {j:Nat} {b:Option Blk},(putAt l j b).length=l.length
 |[],_,_=>rfl
 |_::_,0,_=>rfl
 |x::r,j+1,b=>by
  show(x::putAt r j b).length=_
  rw[List.length_cons,putAt_len' (l:=r),List.length_cons]
theorem putAt_mid:∀{Bs X:List (Option Blk)} {x y:Option Blk},putAt (Bs++x::X) Bs.length y=(Bs++[y])++X
 |[],_,_,_=>rfl
 |b::r,X,x,y=>by
  show b::putAt (r++x::X) r.length y=b::((r++[y])++X)
  rw[putAt_mid (Bs:=r)]
theorem put_low {l Bs X:List (Option Blk)}{r:Ref}{b:Option Blk}(h:lowR Bs.length r=true):(⟨l,Bs++X⟩:Mem).put r b=⟨((⟨l,Bs⟩:Mem).put r b).loc,((⟨l,Bs⟩:Mem).put r b).own++X⟩/\((⟨l,Bs⟩:Mem).put r b).own.length=Bs.length:=by
 cases r with
 |loc j=>exact⟨rfl,rfl⟩
 |arg j =>
  refine⟨?_,putAt_len'⟩
  show(⟨l,putAt (Bs++X) j b⟩:Mem)=⟨l,putAt Bs j b++X⟩
  rw[putAt_low (Nat.le_of_ble_eq_true h)]
 |bad=>cases h
theorem putAll_low {X:List (Option Blk)}:∀{rs:List Ref} {bs:List (Option Blk)} {l Bs:List (Option Blk)},lowL Bs.length rs=true ->
  putAll ⟨l,Bs++X⟩ rs bs=⟨(putAll ⟨l,Bs⟩ rs bs).loc,(putAll ⟨l,Bs⟩ rs bs).own++X⟩/\(putAll ⟨l,Bs⟩ rs bs).own.length=Bs.length
 |[],bs,l,Bs,_=>by cases bs<;>exact⟨rfl,rfl⟩
 |r::rs,[],l,Bs,_=>⟨rfl,rfl⟩
 |r::rs,b::bs,l,Bs,h=>by
  simp only[lowL,Bool.and_eq_true]at h
  obtain⟨h1,h2⟩:=put_low (X:=X) (l:=l) (b:=b) h.1
  rw[putAll,putAll,h1]
  generalize (⟨l,Bs⟩:Mem).put r b=m at h2
  obtain⟨l1,B1⟩:=m
  have h3:B1.length=Bs.length:=h2
  obtain⟨h4,h5⟩:=putAll_low (X:=X) (rs:=rs) (bs:=bs) (l:=l1) (Bs:=B1) (by rw[h3];exact h.2)
  exact⟨h4,h5.trans h3⟩
theorem putAll_mid:∀{X Y:List (Option Blk)} {l Bs:List (Option Blk)},X.length=Y.length->putAll ⟨l,Bs++X⟩ (argsF Bs.length X.length) Y=⟨l,Bs++Y⟩
 |[],[],_,_,_=>rfl
 |[],_::_,_,_,h=>by simp at h
 |_::_,[],_,_,h=>by simp at h
 | x :: X,y :: Y,l,Bs,h=>by
  show putAll ((⟨l,Bs++x::X⟩:Mem).put (.arg Bs.length) y) (argsF (Bs.length+1) X.length) Y=_
  have e:(⟨l,Bs++x::X⟩:Mem).put (.arg Bs.length) y=⟨l,(Bs++[y])++X⟩:=by
   show(⟨l,putAt (Bs++x::X) Bs.length y⟩:Mem)=_
   rw[putAt_mid]
  rw[e]
  have:=putAll_mid (X:=X) (Y:=Y) (l:=l) (Bs:=Bs++[y]) (by simpa using h)
  rw[List.length_append,List.length_singleton]at this
  rw[this,List.append_assoc]
  rfl
theorem putAll_app:∀{a b:List Ref} {x y:List (Option Blk)} {m:Mem},a.length=x.length->putAll m (a++b) (x++y)=putAll (putAll m a x) b y
 |[],b,[],y,m,_=>rfl
 |[],_,_::_,_,_,h=>by simp at h
 |_::_,_,[],_,_,h=>by simp at h
 |r::a,b,z::x,y,m,h=>by
  show putAll (m.put r z) (a++b) (x++y)=putAll (putAll (m.put r z) a x) b y
  exact putAll_app (by simpa using h)
theorem renM_app {ρ:Ref->Ref}(a b:List (Option Blk)):renM ρ (a++b)=renM ρ a++renM ρ b:=by rw[renM_eq,renM_eq,renM_eq,List.map_append]
theorem renM_len {ρ:Ref->Ref}(a:List (Option Blk)):(renM ρ a).length=a.length:=by rw[renM_eq,List.length_map]
theorem Picks.app {m:Mem}{ρ:Ref->Ref}:∀{a b:List Ref} {x y:List (Option Blk)},Picks m ρ a x->Picks m ρ b y->Picks m ρ (a++b) (x++y)
 |[],_,[],_,_,h=>h
 |[],_,_::_,_,h,_=>h.elim
 |_::_,_,[],_,h,_=>h.elim
 |r::a,b,z::x,y,h,k=>⟨h.1,Picks.app h.2 k⟩
theorem Picks.low {l Bs X:List (Option Blk)}{ρ:Ref->Ref}:∀{a:List Ref} {x:List (Option Blk)},lowL Bs.length a=true->Picks ⟨l,Bs⟩ ρ a x->Picks ⟨l,Bs++X⟩ ρ a x
 |[],[],_,_=>Tt
 |[],_::_,_,h=>h.elim
 |_::_,[],_,h=>h.elim
 |r::a,z::x,hl,h=>by
  simp only[lowL,Bool.and_eq_true]at hl
  exact⟨by rw[at_low hl.1];exact h.1,Picks.low hl.2 h.2⟩
theorem Picks.args {m:Mem}{ρ:Ref->Ref}:∀{Y:List (Option Blk)} {q:Nat},(∀(j:Nat) b,Y[j]?=some b->m.at (.arg (q+j))=some (renO ρ b))->Picks m ρ (argsF q Y.length) Y
 |[],_,_=>Tt
 | y :: Y,q,h=>⟨h 0 y rfl,Picks.args fun j b hb=>by
   have:=h (j+1) b (by simpa using hb)
   rwa [show q+(j+1)=q+1+j by omega]at this⟩
structure Fam {S:Type}(n:Nat)(E:Nat->S->List (Option Blk)):Prop where
 len:∀k s,(E k s).length=n
 ren:∀(ρ:Ref->Ref) (k k':Nat) (s:S),(∀j,j<n->ρ (.arg (k+j))=.arg (k'+j))->renM ρ (E k s)=E k' s
 le:∀(nl na k:Nat) (s:S),k+n<=na->LeL nl na (E k s) (E k s)
section
variable {P:Program}{S:Type}{n:Nat}{E:Nat->S->List (Option Blk)}
theorem mid_inn {q:Nat}{pre post:List Ref}{j:Nat}(hj:j<n):nth (pre++(argsF q n++post)) (pre.length+j)=.arg (q+j):=by
 refine nth_at ?_
 rw[List.getElem?_append_right (Nat.le_add_right _ _),Nat.add_sub_cancel_left,List.getElem?_append_left (by rw[argsF_len];exact hj),argsF_at n q j hj]
theorem mid_picks (hE:Fam n E){l Bs:List (Option Blk)}{s:S}{pre post:List Ref}{Bp Bq:List (Option Blk)}(h1:lowL Bs.length pre=true)(h2:lowL Bs.length post=true)
  (hp:Picks ⟨l,Bs⟩ (inn (pre++(argsF Bs.length n++post))) pre Bp) (hq:Picks ⟨l,Bs⟩ (inn (pre++(argsF Bs.length n++post))) post Bq) :
  Picks ⟨l,Bs++E Bs.length s⟩ (inn (pre++(argsF Bs.length n++post))) (pre++(argsF Bs.length n++post)) (Bp++(E pre.length s++Bq)):=by
 refine(hp.low h1).app (Picks.app ?_ (hq.low h2))
 have:=Picks.args (m:=⟨l,Bs++E Bs.length s⟩) (ρ:=inn (pre++(argsF Bs.length n++post))) (Y:=E pre.length s) (q:=Bs.length) fun j b hb=>by
  have hj:j<n:=by rw[<-hE.len pre.length s];exact(List.getElem?_eq_some_iff.1 hb).1
  show(Bs++E Bs.length s)[Bs.length+j]?=_
  rw[List.getElem?_append_right (Nat.le_add_right _ _),Nat.add_sub_cancel_left,<-hE.ren (inn (pre++(argsF Bs.length n++post))) pre.length Bs.length s (fun j hj=>mid_inn hj),renM_eq,List.getElem?_map,hb]
  rfl
 rwa [hE.len]at this
theorem mid_back (hE:Fam n E){l Bs:List (Option Blk)}{s s':S}{pre post:List Ref}{Cp Cq:List (Option Blk)}(h1:lowL Bs.length pre=true)(h2:lowL Bs.length post=true)(hc:Cp.length=pre.length)(m':Mem)
  (hm:putAll (putAll ⟨l,Bs⟩ pre (renM (out (lenL l) (pre++(argsF Bs.length n++post))) Cp)) post (renM (out (lenL l) (pre++(argsF Bs.length n++post))) Cq)=m') :
  back ⟨l,Bs++E Bs.length s⟩ (pre++(argsF Bs.length n++post)) ⟨[],Cp++(E pre.length s'++Cq)⟩=⟨m'.loc,m'.own++E Bs.length s'⟩:=by
 generalize hρ:out (lenL l) (pre++(argsF Bs.length n++post))=ρ at hm
 have happ:∀x:List (Option Blk),app x []=x:=fun x=>by
  induction x with
  |nil=>rfl
  |cons b r ih=>show b::app r []=_;rw[ih]
 have hEr:renM ρ (E pre.length s')=E Bs.length s':=hE.ren ρ _ _ s' fun j hj=>by
  rw[<-hρ]
  exact mid_inn hj
 unfold back
 rw[hρ,renM_app,renM_app,hEr,putAll_app (by rw[renM_len,hc])]
 obtain⟨a1,a2⟩:=putAll_low (X:=E Bs.length s) (rs:=pre) (bs:=renM ρ Cp) (l:=l) h1
 rw[a1]
 generalize hm1:putAll ⟨l,Bs⟩ pre (renM ρ Cp)=m1 at a2 hm
 obtain⟨l1,B1⟩:=m1
 have a3:B1.length=Bs.length:=a2
 have hmid:putAll ⟨l1,B1++E Bs.length s⟩ (argsF Bs.length n) (E Bs.length s')=⟨l1,B1++E Bs.length s'⟩:=by
  have:=putAll_mid (X:=E Bs.length s) (Y:=E Bs.length s') (l:=l1) (Bs:=B1) (by rw[hE.len,hE.len])
  rwa [hE.len,a3]at this
 rw[putAll_app (by rw[argsF_len,hE.len])]
 show(match putAll (putAll ⟨l1,B1++E Bs.length s⟩ (argsF Bs.length n) (E Bs.length s')) post (renM ρ Cq) with
  |⟨l,o⟩=>(⟨app l (renM ρ []),o⟩:Mem))=_
 rw[hmid]
 obtain⟨c1,_⟩:=putAll_low (X:=E Bs.length s') (rs:=post) (bs:=renM ρ Cq) (l:=l1) (Bs:=B1) (by rw[a3];exact h2)
 rw[c1,hm]
 show(⟨app m'.loc [],m'.own++E Bs.length s'⟩:Mem)=_
 rw[happ]
theorem CallVC.mid (hE:Fam n E){f:FuncId}{as:List AV}(as':List AV){l Bs:List (Option Blk)}{s:S}(pre post:List Ref){Bp Bq:List (Option Blk)}{K0 K:AV->Mem->Prop}(h:CallVC P f as ⟨[],Bp++(E pre.length s++Bq)⟩ K0)
  (h1:lowL Bs.length pre=true) (h2:lowL Bs.length post=true) (hn:nodupR (pre++post)=true) (hp:Picks ⟨l,Bs⟩ (inn (pre++(argsF Bs.length n++post))) pre Bp) (hq:Picks ⟨l,Bs⟩ (inn (pre++(argsF Bs.length n++post))) post Bq)
  (has:renL (inn (pre++(argsF Bs.length n++post))) as=as')
  (hk:∀ A m0,K0 A m0→∃ (s':S) (Cp Cq:List (Option Blk)) (m':Mem),m0=⟨[],Cp ++ (E pre.length s' ++ Cq)⟩∧Cp.length=pre.length∧Cq.length=post.length∧putAll (putAll ⟨l,Bs⟩ pre (renM (out (lenL l) (pre ++ (argsF Bs.length n ++ post))) Cp)) post (renM (out (lenL l) (pre ++ (argsF Bs.length n ++ post))) Cq)=m' ∧
   K (ren (out (lenL l) (pre++(argsF Bs.length n++post))) A) ⟨m'.loc,m'.own++E Bs.length s'⟩):CallVC P f as' ⟨l,Bs++E Bs.length s⟩ K:=by
 rw[<-has]
 refine h.frame _ (mid_nodup h1 h2 hn) (mid_picks hE h1 h2 hp hq) fun A m0 h0=>?_
 obtain⟨s',Cp,Cq,m',rfl,hc,hd,hm,hK⟩:=hk A m0 h0
 refine⟨?_,by rw[mid_back hE h1 h2 hc m' hm];exact hK⟩
 have e1:=hp.len
 have e2:=hq.len
 simp only[lenL_eq,List.length_append,hE.len,hc,hd,e1,e2]
theorem YieldVC.mid (hE:Fam n E){f:Nat}{as:List AV}(as':List AV){l Bs:List (Option Blk)}{s:S}(pre post:List Ref){Bp Bq:List (Option Blk)}{K0 K:AV->Mem->Prop}(h:YieldVC P f as ⟨[],Bp++(E pre.length s++Bq)⟩ K0)
  (h1:lowL Bs.length pre=true) (h2:lowL Bs.length post=true) (hn:nodupR (pre++post)=true) (hp:Picks ⟨l,Bs⟩ (inn (pre++(argsF Bs.length n++post))) pre Bp) (hq:Picks ⟨l,Bs⟩ (inn (pre++(argsF Bs.length n++post))) post Bq)
  (has:renL (inn (pre++(argsF Bs.length n++post))) as=as')
  (hk:∀ A m0,K0 A m0→∃ (s':S) (Cp Cq:List (Option Blk)) (m':Mem),m0=⟨[],Cp ++ (E pre.length s' ++ Cq)⟩∧Cp.length=pre.length∧Cq.length=post.length∧putAll (putAll ⟨l,Bs⟩ pre (renM (out (lenL l) (pre ++ (argsF Bs.length n ++ post))) Cp)) post (renM (out (lenL l) (pre ++ (argsF Bs.length n ++ post))) Cq)=m' ∧
   K (ren (out (lenL l) (pre++(argsF Bs.length n++post))) A) ⟨m'.loc,m'.own++E Bs.length s'⟩):YieldVC P f as' ⟨l,Bs++E Bs.length s⟩ K:=by
 rw[<-has]
 refine h.frame _ (mid_nodup h1 h2 hn) (mid_picks hE h1 h2 hp hq) fun A m0 h0=>?_
 obtain⟨s',Cp,Cq,m',rfl,hc,hd,hm,hK⟩:=hk A m0 h0
 refine⟨?_,by rw[mid_back hE h1 h2 hc m' hm];exact hK⟩
 have e1:=hp.len
 have e2:=hq.len
 simp only[lenL_eq,List.length_append,hE.len,hc,hd,e1,e2]
theorem LeL_app {nl na:Nat}:∀{a a' b b':List (Option Blk)},a.length=a'.length->LeL nl na a a'->LeL nl na b b'->LeL nl na (a++b) (a'++b')
 |[],[],_,_,_,_,h=>h
 |[],_::_,_,_,h,_,_=>by simp at h
 |_::_,[],_,_,h,_,_=>by simp at h
 |x::a,y::a',b,b',h,h1,h2=>⟨h1.1,LeL_app (by simpa using h) h1.2 h2⟩
theorem YieldVC.sh (hE:Fam n E){f:Nat}{as:List AV}{l:List (Option Blk)}(Bs:List (Option Blk)){s:S}{K0 K:AV->Mem->Prop}(h:YieldVC P f as ⟨[],E 0 s⟩ K0)(has:renL (inn (argsF Bs.length n)) as=as)
  (hk:∀A m0,K0 A m0->∃s':S,m0=⟨[],E 0 s'⟩/\K (ren (out (lenL l) (argsF Bs.length n)) A) ⟨l,Bs++E Bs.length s'⟩):YieldVC P f as ⟨l,Bs++E Bs.length s⟩ K:=by
 have e:([]:List Ref)++(argsF Bs.length n++[])=argsF Bs.length n:=by simp
 refine YieldVC.mid hE as (l:=l) (Bs:=Bs) (s:=s) [] [] (Bp:=[]) (Bq:=[]) (K0:=K0) (by simpa using h) rfl rfl rfl Tt Tt (by rw[e];exact has) fun A m0 h0=>?_
 obtain⟨s',rfl,hK⟩:=hk A m0 h0
 refine⟨s',[],[],⟨l,Bs⟩,by simp,rfl,rfl,rfl,?_⟩
 rw[e]
 exact hK
theorem Fam.le1 (hE:Fam n E){nl:Nat}{B:Option Blk}{s:S}:LeL nl (lenL (B::E 1 s)) (E 1 s) (E 1 s):=hE.le _ _ _ _ (by rw[lenL_eq,List.length_cons,hE.len];omega)
theorem Fam.le2 (hE:Fam n E){nl:Nat}{B C:Option Blk}{s:S}:LeL nl (lenL (B::C::E 2 s)) (E 2 s) (E 2 s):=hE.le _ _ _ _ (by rw[lenL_eq,List.length_cons,List.length_cons,hE.len];omega)
theorem YieldVC.shD (hE:Fam n E){f:Nat}{as:List AV}{l:List (Option Blk)}(Bs:List (Option Blk)){s:S}{K:AV->Mem->Prop}{g:S->D}{J:S->Prop}(h:YieldVC P f as ⟨[],E 0 s⟩ (Ret (fun s':S=>([.d (g s')],⟨[],E 0 s'⟩)) J))(has:renL (inn (argsF Bs.length n)) as=as)
  (hk:∀s',J s'->K (.d (g s')) ⟨l,Bs++E Bs.length s'⟩):YieldVC P f as ⟨l,Bs++E Bs.length s⟩ K :=
 YieldVC.sh hE Bs h has fun A m0 ⟨s',hJ,e1,e2⟩=>⟨s',e2,by
  subst e1
  exact hk s' hJ⟩
end
end Go.Ab
