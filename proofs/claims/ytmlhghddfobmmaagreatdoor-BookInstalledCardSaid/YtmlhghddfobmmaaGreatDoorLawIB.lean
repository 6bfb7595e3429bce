import Derived.Test.YtmlhghddfobmmaaGreatDoorInuP
import Derived.Test.YtmlhghddfobmmaaGreatDoorInrP
import Derived.Test.YtmlhghddfobmmaaGreatDoorOpsF
import Derived.Test.YtmlhghddfobmmaaGreatDoorBookQ
import Derived.Test.YtmlhghddfobmmaaGreatDoorEngAY
namespace Go.Proofs.YtmlhghddfobmmaaGreatDoor
set_option linter.unusedSimpArgs false
set_option linter.unusedVariables false
open Go Go.Ab
set_option maxRecDepth 100000
def hitA (k:Ke)(kn t:Int)(f:Fct):Bool:=hitK k kn f&&hitT t f
def stepA (k:Ke)(kn t:Int)(b:Option Fct)(f:Fct):Option Fct:=if hitK k kn f then stepF t b f else b
theorem bestF_app (a l:List Fct)(k:Ke)(t kn:Int):bestF (a++l) k t kn=l.foldl (stepA k kn t) (bestF a k t kn):=by
 unfold bestF
 rw[List.filter_append,List.foldl_append,List.foldl_filter]
 rfl
theorem stepA_no {k:Ke}{kn t:Int}{b:Option Fct}{f:Fct}(h:hitA k kn t f=false):stepA k kn t b f=b:=by
 unfold stepA
 cases hk:hitK k kn f
 .rfl
 .unfold hitA at h
  rw[hk,Bool.true_and]at h
  rw[if_pos rfl,stepF,h,Bool.false_and]
  rfl
theorem foldA_no {k:Ke}{kn t:Int}:∀{l:List Fct} {b:Option Fct},(∀f∈l,hitA k kn t f=false)->l.foldl (stepA k kn t) b=b
 |[],_,_=>rfl
 | f :: r,b,h=>by
   rw[List.foldl_cons,stepA_no (h f List.mem_cons_self)]
   exact foldA_no fun g hg=>h g (List.mem_cons_of_mem _ hg)
theorem stepA_or {k:Ke}{kn t:Int}{b:Option Fct}{f:Fct}:stepA k kn t b f=b\/stepA k kn t b f=some f/\hitA k kn t f=true:=by
 cases h:hitA k kn t f
 .exact .inl (stepA_no h)
 .unfold stepA
  split
  .unfold stepF
   split
   .exact .inr ⟨rfl,rfl⟩
   .exact .inl rfl
  .exact .inl rfl
theorem foldA_or {k:Ke}{kn t:Int}:∀{l:List Fct} {b:Option Fct},l.foldl (stepA k kn t) b=b\/∃f∈l,hitA k kn t f=true/\l.foldl (stepA k kn t) b=some f
 |[],_=>.inl rfl
 | f :: r,b=>by
   rw[List.foldl_cons]
   rcases foldA_or (l:=r) (b:=stepA k kn t b f) with h|⟨g,hg,h1,h2⟩
   .rcases stepA_or (k:=k) (kn:=kn) (t:=t) (b:=b) (f:=f) with h3|⟨h3,h4⟩
    .rw[h3]at h⊢
     exact .inl h
    .exact .inr ⟨f,List.mem_cons_self,h4,by rw[h,h3]⟩
   .exact .inr ⟨g,List.mem_cons_of_mem _ hg,h1,h2⟩
theorem foldA_hit {k:Ke}{kn t:Int}:∀{l:List Fct} {b:Option Fct},(∃f∈l,hitA k kn t f=true)->(∀f∈l,hitA k kn t f=true->∀g,b=some g->befF f g=false)->∃f∈l,hitA k kn t f=true/\l.foldl (stepA k kn t) b=some f
 |[],_,⟨_,h,_⟩,_=>(List.not_mem_nil h).elim
 | f :: r,b,he,hb=>by
   rw[List.foldl_cons]
   cases h:hitA k kn t f
   .rw[stepA_no h]
    obtain⟨g,hg,hh⟩:=he
    rcases List.mem_cons.1 hg with rfl|hg
    .rw[h]at hh
     exact Bool.noConfusion hh
    .obtain⟨g,hg,h1,h2⟩:=foldA_hit (l:=r) (b:=b) ⟨g,hg,hh⟩ fun f hf=>hb f (List.mem_cons_of_mem _ hf)
     exact⟨g,List.mem_cons_of_mem _ hg,h1,h2⟩
   .have e:stepA k kn t b f=some f:=by
     have h':=h
     unfold hitA at h'
     rw[Bool.and_eq_true]at h'
     unfold stepA stepF
     rw[if_pos h'.1,h'.2,Bool.true_and,if_pos]
     cases b with
     |none=>rfl
     | some g =>
       show(false||!befF f g)=true
       rw[hb f List.mem_cons_self h g rfl]
       rfl
    rw[e]
    rcases foldA_or (k:=k) (kn:=kn) (t:=t) (l:=r) (b:=some f) with h2|⟨g,hg,h1,h2⟩
    .exact⟨f,List.mem_cons_self,h,h2⟩
    .exact⟨g,List.mem_cons_of_mem _ hg,h1,h2⟩
theorem bestF_mem {l:List Fct}{k:Ke}{t kn:Int}{f:Fct}(h:bestF l k t kn=some f):f∈l/\hitA k kn t f=true:=by
 have e:=bestF_app [] l k t kn
 rw[List.nil_append,h,show bestF [] k t kn=none from rfl]at e
 rcases foldA_or (k:=k) (kn:=kn) (t:=t) (l:=l) (b:=none) with h2|⟨g,hg,h1,h2⟩
 .rw[h2]at e
  cases e
 .rw[h2]at e
  injection e with e
  rw[e]
  exact⟨hg,h1⟩
theorem hitA_key {k:Ke}{kn t:Int}{f:Fct}(h:hitA k kn t f=true):kOf f=k:=by
 simp only[hitA,hitK,Bool.and_eq_true,decide_eq_true_eq]at h
 exact h.1.1
theorem look_ins {α:Type}[Inhabited α](ds es:List α)(fs l:List Fct)(k:Ke)(t when fr til kn:Int)(ok:α->Bool)(hr:0<=fr/\til<=1024)
 (hfs:∀f∈fs,f.known<kn) (hv:∀f∈fs,kOf f=k->f.value<ds.length)
 (hl:∀f∈l,kOf f=k->f.known=kn/\f.fr=fr/\f.til=til)
 (o:Option α) (h0:o=none->∀f∈l,kOf f≠k) (h1:∀x,o=some x->ok x=true/\(∃f∈l,kOf f=k)/\∀f∈l,kOf f=k->∃i,i<es.length/\f.value=(ds.length:Int)+(i:Int)/\es.getD i default=x) :
 lookO (ds++es) t (atV (fs++l) k t when) ok=if kn<=when/\fr<=t/\t<til/\o.isSome=true then o else lookO ds t (atV fs k t when) ok:=by
 have same:∀v:Int × Bool,(v.2=true->v.1<ds.length)->lookO (ds++es) t v ok=lookO ds t v ok:=fun v hv=>by
  unfold lookO
  by_cases hc:v.2=true/\0<=v.1
  .have h3:=hv hc.1
   have hg:(ds++es).getD v.1.toNat default=ds.getD v.1.toNat default:=by
    rw[List.getD_eq_getElem?_getD,List.getD_eq_getElem?_getD,List.getElem?_append_left Om]
   rw[hg]
   have hlen:v.1<(ds++es).length↔v.1<ds.length:=⟨fun _=>h3,fun _=>by rw[List.length_append];omega⟩
   simp only[hlen]
  .rw[if_neg (fun h=>hc ⟨h.2.1,h.2.2.1⟩),if_neg (fun h=>hc ⟨h.2.1,h.2.2.1⟩)]
 have hold:(atV fs k t when).2=true→(atV fs k t when).1 < ds.length:=by
  unfold atV
  cases hb:bestF fs k t when with
  |none=>intro h;cases h
  | some f =>
    intro _
    obtain⟨hm,hh⟩:=bestF_mem hb
    have h3:=hv f hm (hitA_key hh)
    show(if f.value<0 then((0:Int),false) else(f.value,true)).1<_
    split
    .show(0:Int)<_
     exact Classical.byContradiction fun h4=>by
      have:(atO (some f)).2=true:=‹_›
      unfold atO at this
      simp only at this
      rw[if_pos ‹_›]at this
      cases this
    .exact h3
 by_cases hc:kn<=when/\fr<=t/\t<til/\o.isSome=true
 .rw[if_pos hc]
  obtain⟨c1,c2,c3,c4⟩:=hc
  obtain⟨x,rfl⟩:=Option.isSome_iff_exists.1 c4
  obtain⟨hok,⟨f0,hf0,hk0⟩,hx⟩:=h1 x rfl
  have hit:∀f∈l,kOf f=k->hitA k when t f=true:=fun f hf hk=>by
   obtain⟨e1,e2,e3⟩:=hl f hf hk
   unfold hitA hitK hitT
   rw[decide_eq_true hk,e1,e2,e3,decide_eq_true c1,decide_eq_true c2,decide_eq_true c3]
   rfl
  obtain⟨f,hf,hh,he⟩:=foldA_hit (k:=k) (kn:=when) (t:=t) (l:=l) (b:=bestF fs k t when) ⟨f0,hf0,hit f0 hf0 hk0⟩ fun f hf hkf g hg=>by
   have h2:=hfs g (bestF_mem hg).1
   have h3:=(hl f hf (hitA_key hkf)).1
   unfold befF
   rw[decide_eq_false Om,decide_eq_false Om]
   rfl
  obtain⟨i,hi,hval,hes⟩:=hx f hf (hitA_key hh)
  unfold atV
  rw[bestF_app,he]
  have ea:atO (some f)=((ds.length:Int)+(i:Int),true):=by
   show(if f.value<0 then((0:Int),false) else(f.value,true))=_
   rw[hval,if_neg Om]
  rw[ea]
  have hg:(ds++es).getD ((ds.length:Int)+(i:Int)).toNat default=x:=by
   rw[<-hes,show((ds.length:Int)+(i:Int)).toNat=ds.length+i by omega,List.getD_eq_getElem?_getD,List.getD_eq_getElem?_getD,List.getElem?_append_right Om,Nat.add_sub_cancel_left]
  unfold lookO
  rw[hg,if_pos]
  refine⟨?_,rfl,by show(0:Int)<=(ds.length:Int)+(i:Int);omega,?_,hok⟩
  .unfold bw
   rw[decide_eq_true Om,decide_eq_true Om]
   rfl
  .show(ds.length:Int)+(i:Int)<((ds++es).length:Nat)
   rw[List.length_append]
   omega
 .rw [if_neg hc]
  have e:atV (fs++l) k t when=atV fs k t when:=by
   unfold atV
   rw[bestF_app,foldA_no fun f hf=>?_]
   by_cases hkf:kOf f=k
   .obtain⟨e1,e2,e3⟩:=hl f hf hkf
    have ho:o.isSome=true:=by
     cases ho:o with
     |none=>exact absurd hkf (h0 ho f hf)
     |some x=>rfl
    cases hh:hitA k when t f
    .rfl
    .exfalso
     simp only[hitA,hitK,hitT,Bool.and_eq_true,decide_eq_true_eq]at hh
     rw[e1,e2,e3]at hh
     exact hc ⟨hh.1.2,hh.2.1,hh.2.2,ho⟩
   .unfold hitA hitK
    rw[decide_eq_false hkf]
    rfl
  rw[e]
  exact same _ hold
def lastC {α:Type}(p:α->Bool)(l:List α):Option α:=l.foldl (fun o x=>if p x=true then some x else o) none
theorem lastC_snoc {α:Type}(p:α->Bool)(l:List α)(x:α):lastC p (l++[x])=if p x=true then some x else lastC p l:=by
 unfold lastC
 rw[List.foldl_append]
 rfl
theorem lastC_or {α:Type}{p:α->Bool}:∀{l:List α} {o:Option α},(l.foldl (fun o x=>if p x=true then some x else o) o=o/\∀x∈l,p x=false)\/∃x∈l,p x=true/\l.foldl (fun o x=>if p x=true then some x else o) o=some x
 |[],o=>.inl ⟨rfl,fun _ h=>(List.not_mem_nil h).elim⟩
 | y :: r,o=>by
   rw[List.foldl_cons]
   rcases lastC_or (p:=p) (l:=r) (o:=if p y=true then some y else o) with ⟨h1,h2⟩|⟨x,hx,h1,h2⟩
   .cases hp:p y
    .refine .inl ⟨?_,fun x hx=>?_⟩
     .rw[hp,if_neg Bool.false_ne_true]at h1
      rw[if_neg Bool.false_ne_true]
      exact h1
     .rcases List.mem_cons.1 hx with rfl|hx
      .exact hp
      .exact h2 x hx
    .refine .inr ⟨y,List.mem_cons_self,hp,?_⟩
     rw[hp,if_pos rfl]at h1
     rw[if_pos rfl]
     exact h1
   .exact .inr ⟨x,List.mem_cons_of_mem _ hx,h1,h2⟩
theorem lastC_none {α:Type}{p:α->Bool}{l:List α}(h:lastC p l=none):∀x∈l,p x=false:=by
 rcases lastC_or (p:=p) (l:=l) (o:=none) with ⟨_,h2⟩|⟨x,_,_,h2⟩
 .exact h2
 .unfold lastC at h
  rw[h2]at h
  cases h
theorem lastC_some {α:Type}{p:α->Bool}{l:List α}{x:α}(h:lastC p l=some x):x∈l/\p x=true:=by
 unfold lastC at h
 rcases lastC_or (p:=p) (l:=l) (o:=none) with ⟨h2,_⟩|⟨y,hy,h1,h2⟩
 .rw[h2]at h
  cases h
 .rw[h2]at h
  injection h with h
  rw[<-h]
  exact⟨hy,h1⟩
theorem insF_mem {b:Bok}{c:Cat}{fr til kn:Int}{f:Fct}(h:f∈insF b c fr til kn):(∃q∈insQ b c++insS b c,f.kind=q.1/\f.subject=q.2.1/\f.object=q.2.2.1/\f.value=q.2.2.2/\f.fr=fr/\f.til=til/\f.known=kn)\/(f.kind=12/\f.subject=0/\f.object=0/\f.value=(numN (b.crs++c.crs):Int)/\f.fr=0/\f.til=1024/\f.known=kn):=by
 rw[insF_mk]at h
 rcases List.mem_append.1 h with h|h
 .exact .inl (mkFs_mem h)
 .split at h
  .rw[List.mem_singleton.1 h]
   exact .inr ⟨rfl,rfl,rfl,rfl,rfl,rfl,rfl⟩
  .exact(List.not_mem_nil h).elim
theorem insF_of {b:Bok}{c:Cat}(fr til kn:Int){q:Qd}(h:q∈insQ b c++insS b c):∃f∈insF b c fr til kn,f.kind=q.1/\f.subject=q.2.1/\f.object=q.2.2.1:=by
 obtain⟨f,hf,e1,e2,e3,_⟩:=mkFs_of (fr:=fr) (til:=til) (kn:=kn) (n:=0) h
 exact⟨f,by rw[insF_mk];exact List.mem_append_left _ hf,e1,e2,e3⟩
theorem insF_key {b:Bok}{c:Cat}{fr til kn:Int}{f:Fct}{k:Ke}(h:f∈insF b c fr til kn)(hk:kOf f=k)(h12:k.kind≠12):∃q∈insQ b c++insS b c,q.1=k.kind/\q.2.1=k.subject/\q.2.2.1=k.object/\f.value=q.2.2.2/\f.fr=fr/\f.til=til/\f.known=kn:=by
 subst hk
 rcases insF_mem h with ⟨q,hq,e1,e2,e3,e4⟩|⟨e,_⟩
 .exact⟨q,hq,e1.symm,e2.symm,e3.symm,e4⟩
 .exact absurd e h12
theorem nodup_at {α:Type}[Inhabited α]{f:α->Int}:∀{l:List α},(l.map f).Nodup->∀{i j:Nat},i<l.length->j<l.length->f (l.getD i default)=f (l.getD j default)->i=j:=by
 intro l h i j hi hj e
 have key:∀{i j:Nat},i<l.length->j<l.length->i<j->f (l.getD i default)≠f (l.getD j default):=fun{i j} hi hj hij e=>by
  refine List.pairwise_iff_getElem.1 h i j (by rw[List.length_map];exact hi) (by rw[List.length_map];exact hj) hij ?_
  rw[List.getElem_map,List.getElem_map]
  rw[List.getD_eq_getElem?_getD,List.getD_eq_getElem?_getD,List.getElem?_eq_getElem hi,List.getElem?_eq_getElem hj]at e
  exact e
 rcases Nat.lt_trichotomy i j with h2|h2|h2
 .exact absurd e (key hi hj h2)
 .exact h2
 .exact absurd e.symm (key hj hi h2)
theorem mem_at {α:Type}[Inhabited α]{l:List α}{x:α}(h:x∈l):∃i,i<l.length/\l.getD i default=x:=by
 obtain⟨i,hi,e⟩:=List.getElem_of_mem h
 exact⟨i,hi,by rw[List.getD_eq_getElem?_getD,List.getElem?_eq_getElem hi];exact e⟩
structure Insd (b:Bok)(c:Cat)(fr til kn:Int):Prop where
 chk:chkB b=0
 own:chkB ⟨c.crs,c.prg,[sysC c]⟩=0
 pai:c.same.all pairB=true
 spn:spnOk fr til kn=true
 ndc:(c.crs.map fun x=>x.number).Nodup
 ndp:(c.prg.map fun x=>x.number).Nodup
theorem chkB_iff {b:Bok}:chkB b=0↔b.crs.all vCrs=true/\b.prg.all vPrg=true/\b.sys.all vSys=true:=by
 unfold chkB
 rw[<-Bool.and_eq_true,<-Bool.and_eq_true]
 split
 .rename_i h
  exact⟨fun _=>h,fun _=>rfl⟩
 .rename_i h
  exact⟨fun e=>(by cases e),fun e=>absurd e h⟩
theorem Insd.chkB {b:Bok}{c:Cat}{fr til kn:Int}(h:Insd b c fr til kn):chkB (insB b c)=0:=by
 obtain⟨h1,h2,h3⟩:=chkB_iff.1 h.chk
 obtain⟨g1,g2,g3⟩:=chkB_iff.1 h.own
 refine chkB_iff.2 ⟨?_,?_,?_⟩
 .show(b.crs++c.crs).all vCrs=true
  rw[List.all_append,h1,g1]
  rfl
 .show(b.prg++c.prg).all vPrg=true
  rw[List.all_append,h2,g2]
  rfl
 .show(b.sys++(if sysB c=true then[sysC c] else[])).all vSys=true
  rw[List.all_append,h3,Bool.true_and]
  split
  .exact g3
  .rfl
theorem spn_of {fr til kn:Int}(h:spnOk fr til kn=true):0<=fr/\fr<til/\til<=1024/\1<=kn/\kn<=16777216:=by
 simp only[spnOk,bw,Bool.and_eq_true,decide_eq_true_eq]at h
 exact⟨h.1,h.2.1,h.2.2.1,h.2.2.2⟩
section
variable {b:Bok}{c:Cat}{fr til kn:Int}(hI:Insd b c fr til kn){fs:List Fct}(hfs:∀f∈fs,f.known<kn)
include hI hfs
theorem crs_ins (hv:∀f∈fs,f.kind=1->f.value<b.crs.length)(n t when:Int) :
 crsOf ⟨insB b c,fs++insF b c fr til kn⟩ n t when=if kn<=when/\fr<=t/\t<til/\(lastC (fun x:Crs=>decide (x.number=n)) c.crs).isSome=true then lastC (fun x:Crs=>decide (x.number=n)) c.crs else crsOf ⟨b,fs⟩ n t when:=by
 obtain⟨s1,s2,s3,s4⟩:=spn_of hI.spn
 refine look_ins b.crs c.crs fs (insF b c fr til kn) ⟨1,n,0⟩ t when fr til kn (okCrs n) ⟨s1,s3⟩ hfs (fun f hf hk=>hv f hf (congrArg Ke.kind hk)) (fun f hf hk=>?_) _ (fun ho f hf hk=>?_) fun x ho=>?_
 .obtain⟨q,hq,e1,e2,e3,e4,e5,e6,e7⟩:=insF_key hf hk (by exact(by decide:(1:Int)≠12))
  exact⟨e7,e5,e6⟩
 .obtain⟨q,hq,e1,e2,e3,e4⟩:=insF_key hf hk (by exact(by decide:(1:Int)≠12))
  rcases insQ_mem.1 hq with ⟨i,hi,rfl⟩|⟨i,hi,rfl⟩|h|⟨_,rfl⟩
  .have:=lastC_none ho _ (getD_mem hi)
   exact of_decide_eq_false this e2
  .exact absurd e1 (by decide:(3:Int)≠1)
  .obtain⟨i,_,rfl⟩:=samK_mem h
   exact absurd e1 (by decide:(2:Int)≠1)
  .exact absurd e1 (by decide:(4:Int)≠1)
 .obtain⟨hx,hn⟩:=lastC_some ho
  have hn:x.number=n:=of_decide_eq_true hn
  obtain⟨j,hj,ej⟩:=mem_at hx
  refine⟨?_,?_,fun f hf hk=>?_⟩
  .unfold okCrs
   rw[decide_eq_true hn,List.all_eq_true.1 (chkB_iff.1 hI.own).1 x hx]
   rfl
  .obtain⟨f,hf,e1,e2,e3⟩:=insF_of fr til kn (q:=(1,(c.crs.getD j default).number,0,((b.crs.length:Nat):Int)+(j:Int))) (insQ_mem.2 (.inl ⟨j,hj,rfl⟩))
   refine⟨f,hf,?_⟩
   unfold kOf
   rw[e1,e2,e3,ej,hn]
  .obtain⟨q,hq,e1,e2,e3,e4,_⟩:=insF_key hf hk (by exact(by decide:(1:Int)≠12))
   rcases insQ_mem.1 hq with ⟨i,hi,rfl⟩|⟨i,hi,rfl⟩|h|⟨_,rfl⟩
   .refine⟨i,hi,e4,?_⟩
    have:i=j:=nodup_at hI.ndc hi hj (by rw[ej,hn];exact e2)
    rw[this,ej]
   .exact absurd e1 (by decide:(3:Int)≠1)
   .obtain⟨i,_,rfl⟩:=samK_mem h
    exact absurd e1 (by decide:(2:Int)≠1)
   .exact absurd e1 (by decide:(4:Int)≠1)
theorem prg_ins (hv:∀f∈fs,f.kind=3->f.value<b.prg.length)(n t when:Int) :
 prgOf ⟨insB b c,fs++insF b c fr til kn⟩ n t when=if kn<=when/\fr<=t/\t<til/\(lastC (fun x:Prg=>decide (x.number=n)) c.prg).isSome=true then lastC (fun x:Prg=>decide (x.number=n)) c.prg else prgOf ⟨b,fs⟩ n t when:=by
 obtain⟨s1,s2,s3,s4⟩:=spn_of hI.spn
 refine look_ins b.prg c.prg fs (insF b c fr til kn) ⟨3,n,0⟩ t when fr til kn (okPrg n) ⟨s1,s3⟩ hfs (fun f hf hk=>hv f hf (congrArg Ke.kind hk)) (fun f hf hk=>?_) _ (fun ho f hf hk=>?_) fun x ho=>?_
 .obtain⟨q,hq,e1,e2,e3,e4,e5,e6,e7⟩:=insF_key hf hk (by exact(by decide:(3:Int)≠12))
  exact⟨e7,e5,e6⟩
 .obtain⟨q,hq,e1,e2,e3,e4⟩:=insF_key hf hk (by exact(by decide:(3:Int)≠12))
  rcases insQ_mem.1 hq with ⟨i,hi,rfl⟩|⟨i,hi,rfl⟩|h|⟨_,rfl⟩
  .exact absurd e1 (by decide:(1:Int)≠3)
  .have:=lastC_none ho _ (getD_mem hi)
   exact of_decide_eq_false this e2
  .obtain⟨i,_,rfl⟩:=samK_mem h
   exact absurd e1 (by decide:(2:Int)≠3)
  .exact absurd e1 (by decide:(4:Int)≠3)
 .obtain⟨hx,hn⟩:=lastC_some ho
  have hn:x.number=n:=of_decide_eq_true hn
  obtain⟨j,hj,ej⟩:=mem_at hx
  refine⟨?_,?_,fun f hf hk=>?_⟩
  .unfold okPrg
   rw[decide_eq_true hn,List.all_eq_true.1 (chkB_iff.1 hI.own).2.1 x hx]
   rfl
  .obtain⟨f,hf,e1,e2,e3⟩:=insF_of fr til kn (q:=(3,(c.prg.getD j default).number,0,((b.prg.length:Nat):Int)+(j:Int))) (insQ_mem.2 (.inr (.inl ⟨j,hj,rfl⟩)))
   refine⟨f,hf,?_⟩
   unfold kOf
   rw[e1,e2,e3,ej,hn]
  .obtain⟨q,hq,e1,e2,e3,e4,_⟩:=insF_key hf hk (by exact(by decide:(3:Int)≠12))
   rcases insQ_mem.1 hq with ⟨i,hi,rfl⟩|⟨i,hi,rfl⟩|h|⟨_,rfl⟩
   .exact absurd e1 (by decide:(1:Int)≠3)
   .refine⟨i,hi,e4,?_⟩
    have:i=j:=nodup_at hI.ndp hi hj (by rw[ej,hn];exact e2)
    rw[this,ej]
   .obtain⟨i,_,rfl⟩:=samK_mem h
    exact absurd e1 (by decide:(2:Int)≠3)
   .exact absurd e1 (by decide:(4:Int)≠3)
theorem sys_ins (hv:∀f∈fs,f.kind=4->f.value<b.sys.length)(t when:Int) :
 sysOf ⟨insB b c,fs++insF b c fr til kn⟩ t when=if kn<=when/\fr<=t/\t<til/\(if sysB c=true then some (sysC c) else none).isSome=true then(if sysB c=true then some (sysC c) else none) else sysOf ⟨b,fs⟩ t when:=by
 obtain⟨s1,s2,s3,s4⟩:=spn_of hI.spn
 refine look_ins b.sys (if sysB c=true then[sysC c] else[]) fs (insF b c fr til kn) ⟨4,0,0⟩ t when fr til kn vSys ⟨s1,s3⟩ hfs (fun f hf hk=>hv f hf (congrArg Ke.kind hk)) (fun f hf hk=>?_) _ (fun ho f hf hk=>?_) fun x ho=>?_
 .obtain⟨q,hq,e1,e2,e3,e4,e5,e6,e7⟩:=insF_key hf hk Dc
  exact⟨e7,e5,e6⟩
 .obtain⟨q,hq,e1,e2,e3,e4⟩:=insF_key hf hk Dc
  rcases insQ_mem.1 hq with ⟨i,hi,rfl⟩|⟨i,hi,rfl⟩|h|⟨hs,rfl⟩
  .exact absurd e1 (by decide:(1:Int)≠4)
  .exact absurd e1 (by decide:(3:Int)≠4)
  .obtain⟨i,_,rfl⟩:=samK_mem h
   exact absurd e1 (by decide:(2:Int)≠4)
  .rw[if_pos hs]at ho
   cases ho
 .split at ho
  case isFalse=>cases ho
  rename_i hs
  injection ho with ho
  subst ho
  refine⟨?_,?_,fun f hf hk=>?_⟩
  .exact List.all_eq_true.1 (chkB_iff.1 hI.own).2.2 _ List.mem_cons_self
  .obtain⟨f,hf,e1,e2,e3⟩:=insF_of fr til kn (q:=(4,0,0,(b.sys.length:Int))) (insQ_mem.2 (.inr (.inr (.inr ⟨hs,rfl⟩))))
   refine⟨f,hf,?_⟩
   unfold kOf
   rw[e1,e2,e3]
  .obtain⟨q,hq,e1,e2,e3,e4,_⟩:=insF_key hf hk Dc
   rcases insQ_mem.1 hq with ⟨i,hi,rfl⟩|⟨i,hi,rfl⟩|h|⟨_,rfl⟩
   .exact absurd e1 (by decide:(1:Int)≠4)
   .exact absurd e1 (by decide:(3:Int)≠4)
   .obtain⟨i,_,rfl⟩:=samK_mem h
    exact absurd e1 (by decide:(2:Int)≠4)
   .rw[if_pos hs]
    exact⟨0,Nat.one_pos,by rw[e4];show(b.sys.length:Int)=(b.sys.length:Int)+0;omega,rfl⟩
end
set_option maxHeartbeats 0
def fitF (f:Fct):Bool:=bw f.kind 1 12&&(bw f.subject 0 20000&&(bw f.object 0 20000&&(bw f.value (-1) 1099511627776&&(decide (0<=f.fr)&&(decide (f.fr<f.til)&&(decide (f.til<=1024)&&(bw f.known 1 16777216&&bw f.no 0 65535)))))))
theorem within07_ok (n lo hi:Int):Pure Tryz.prog 168 [di n,di lo,di hi] [.bool (bw n lo hi)]:=by
 refine pure_rule hT (T:=tab) (N:=15) (rs:=[.tmp 6]) Tryz.func168 rfl rfl rfl Kr rfl ?_
 by_cases h1:lo<=n<;>by_cases h2:n<=hi<;>((refine gW ?_;intros))<;>(refine⟨congrArg D.bool ?_,Tt⟩)<;>simp[bw,h1,h2]
theorem ffits_ok (f:Fct):Pure Tryz.prog 114 [.agg (eFct f)] [.bool (fitF f)]:=by
 have w1:=within07_ok f.kind 1 12
 have w2:=within07_ok f.subject 0 20000
 have w3:=within07_ok f.object 0 20000
 have w4:=within07_ok f.value (-1) 1099511627776
 have w8:=within07_ok f.known 1 16777216
 have w9:=within07_ok f.no 0 65535
 unfold fitF
 refine pure_rule hT (T:=tab) (N:=55) (rs:=[.tmp 2]) Tryz.func114 rfl rfl rfl Kr rfl ?_
 cases b1:bw f.kind 1 12<;>rw[b1]at w1
 ·(refine gW ?_;intros)
  refine w1.call ?_
  (refine gW ?_;intros)
  exact⟨rfl,Tt⟩
 cases b2:bw f.subject 0 20000<;>rw[b2]at w2
 ·(refine gW ?_;intros)
  refine w1.call ?_
  (refine gW ?_;intros)
  refine w2.call ?_
  (refine gW ?_;intros)
  exact⟨rfl,Tt⟩
 cases b3:bw f.object 0 20000<;>rw[b3]at w3
 ·(refine gW ?_;intros)
  refine w1.call ?_
  (refine gW ?_;intros)
  refine w2.call ?_
  (refine gW ?_;intros)
  refine w3.call ?_
  (refine gW ?_;intros)
  exact⟨rfl,Tt⟩
 cases b4:bw f.value (-1) 1099511627776<;>rw[b4]at w4
 ·(refine gW ?_;intros)
  refine w1.call ?_
  (refine gW ?_;intros)
  refine w2.call ?_
  (refine gW ?_;intros)
  refine w3.call ?_
  (refine gW ?_;intros)
  refine w4.call ?_
  (refine gW ?_;intros)
  exact⟨rfl,Tt⟩
 by_cases c5:0<=f.fr
 case neg =>
  rw[decide_eq_false c5]
  (refine gW ?_;intros)
  refine w1.call ?_
  (refine gW ?_;intros)
  refine w2.call ?_
  (refine gW ?_;intros)
  refine w3.call ?_
  (refine gW ?_;intros)
  refine w4.call ?_
  (refine gW ?_;intros)
  refine⟨congrArg D.bool ?_,Tt⟩
  simp[c5]
 by_cases c6:f.fr<f.til
 case neg =>
  rw[decide_eq_false c6]
  (refine gW ?_;intros)
  refine w1.call ?_
  (refine gW ?_;intros)
  refine w2.call ?_
  (refine gW ?_;intros)
  refine w3.call ?_
  (refine gW ?_;intros)
  refine w4.call ?_
  (refine gW ?_;intros)
  refine⟨congrArg D.bool ?_,Tt⟩
  simp[c6]
 by_cases c7:f.til<=1024
 case neg =>
  rw[decide_eq_false c7]
  (refine gW ?_;intros)
  refine w1.call ?_
  (refine gW ?_;intros)
  refine w2.call ?_
  (refine gW ?_;intros)
  refine w3.call ?_
  (refine gW ?_;intros)
  refine w4.call ?_
  (refine gW ?_;intros)
  refine⟨congrArg D.bool ?_,Tt⟩
  simp[c7]
 cases b8:bw f.known 1 16777216<;>rw[b8]at w8
 ·(refine gW ?_;intros)
  refine w1.call ?_
  (refine gW ?_;intros)
  refine w2.call ?_
  (refine gW ?_;intros)
  refine w3.call ?_
  (refine gW ?_;intros)
  refine w4.call ?_
  (refine gW ?_;intros)
  refine w8.call ?_
  (refine gW ?_;intros)
  refine⟨congrArg D.bool ?_,Tt⟩
  simp[c5,c6,c7]
 ·(refine gW ?_;intros)
  refine w1.call ?_
  (refine gW ?_;intros)
  refine w2.call ?_
  (refine gW ?_;intros)
  refine w3.call ?_
  (refine gW ?_;intros)
  refine w4.call ?_
  (refine gW ?_;intros)
  refine w8.call ?_
  (refine gW ?_;intros)
  refine w9.call ?_
  (refine gW ?_;intros)
  refine⟨congrArg D.bool ?_,Tt⟩
  simp[c5,c6,c7]
theorem misfact_ok (f:Fct):Pure Tryz.prog 113 [.agg (eFct f)] [.bool (!fitF f)]:=by
 have hF:=ffits_ok f
 refine pure_rule hT (T:=tab) (N:=6) (rs:=[.tmp 2]) Tryz.func113 rfl rfl rfl Kr rfl ?_
 (refine gW ?_;intros)
 refine hF.call ?_
 (refine gW ?_;intros)
 exact⟨rfl,Tt⟩
theorem idxFct_ok (xs:List Fct)(hx:xs.length<=9223372036854775807)(f:FuncId)(p:Fct->Bool)(hp:∀s,s∈xs->Pure Tryz.prog f [.agg (eFct s)] [.bool (p s)]) :
 Pure Tryz.prog 167 [eFcts xs,.fn (.func f) [] []] [di (ix p xs 0)]:=by
 refine pure_rule hT (T:=tab) (N:=19) (rs:=[.tmp 4]) Tryz.func167 rfl rfl rfl Kr rfl ?_
 (refine gW ?_;intros)
 refine loop_rule hT (S:=Nat) (fun k=>([(0,.d (eFcts xs)),(1,.d (.fn (.func f) [] [])),(7,dV xs.length),(8,dV k)],⟨[],[]⟩)) (fun k=>k<=xs.length/\ix p xs 0=ix p (xs.drop k) k) (fun k=>xs.length-k) 0 ?_ ?_ ?_
 .repeat' (first|exact Tt|exact rfl|exact Nat.le_refl _|refine And.intro ?_ ?_)
 .exact⟨Nat.zero_le _,rfl⟩
 .rintro k ⟨hk,hc⟩
  ((refine xW ?_ ?_)<;>intros)
  .refine(hp (xs.getD k default) (getD_mem Om)).call ?_
   ((refine xW ?_ ?_)<;>(intros;try rename_i h))
   .refine⟨congrArg (D.int .i64) ?_,Tt⟩
    rw[hc,drop_at Om,ix,if_pos h]
   .refine⟨k+1,⟨by show k+1<=xs.length;omega,?_⟩,by show xs.length-(k+1)<xs.length-k;omega,?_⟩
    .rw[hc,drop_at Om,ix,if_neg (by rw[h];exact Bool.false_ne_true)]
     rfl
    .repeat' (first|exact Tt|exact rfl|exact Nat.le_refl _|refine And.intro ?_ ?_)
  .refine⟨congrArg (D.int .i64) ?_,Tt⟩
   have:k=xs.length:=by omega
   rw[hc]
   simp[this,ix]
theorem anyFct_ok (xs:List Fct)(hx:xs.length<=9223372036854775807)(f:FuncId)(p:Fct->Bool)(hp:∀s,s∈xs->Pure Tryz.prog f [.agg (eFct s)] [.bool (p s)]) :
 Pure Tryz.prog 112 [eFcts xs,.fn (.func f) [] []] [.bool (xs.any p)]:=by
 refine pure_rule hT (T:=tab) (N:=9) (rs:=[.tmp 4]) Tryz.func112 rfl rfl rfl Kr rfl ?_
 (refine gW ?_;intros)
 refine(idxFct_ok xs hx f  p hp).call ?_
 (refine gW ?_;intros)
 refine⟨congrArg D.bool ?_,Tt⟩
 rw[<-ix_ge p xs 0 Om]
def srtK (l:List Fct)(k:Nat):Bool:=(List.range k).all fun i=>befF (l.getD i default) (l.getD (i+1) default)
theorem srtK_succ (l:List Fct)(k:Nat):srtK l (k+1)=(srtK l k&&befF (l.getD k default) (l.getD (k+1) default)):=by
 unfold srtK
 rw[List.range_succ,List.all_append]
 simp only[List.all_cons,List.all_nil,Bool.and_true]
theorem srtK_none {l:List Fct}{k j:Nat}(h:srtK l k=false)(hj:k<=j):srtK l j=false:=by
 unfold srtK at *
 rw[<-Bool.not_eq_true,List.all_eq_true]at *
 exact fun h2=>h fun x hx=>h2 x (List.mem_range.2 (by have:=List.mem_range.1 hx;omega))
def fchk (l:List Fct):Int:=if(l.any fun f=>!fitF f)=true then 70 else if srtK l (l.length-1)=true then 0 else 71
theorem fcheck_ok (l:List Fct)(hl:l.length<=1000000):Pure Tryz.prog 41 [eFcts l] [di (fchk l)]:=by
 have hA:=anyFct_ok l Om 113 (fun f=>!fitF f) (fun s hs=>misfact_ok s)
 unfold fchk
 cases ha:(l.any fun f=>!fitF f)<;>rw[ha]at hA
 case true =>
  refine pure_rule hT (T:=tab) (N:=27) (rs:=[.tmp 2]) Tryz.func41 rfl rfl rfl Kr rfl ?_
  (refine gW ?_;intros)
  refine hA.call ?_
  (refine gW ?_;intros)
  exact⟨rfl,Tt⟩
 rw[if_neg Dc]
 obtain⟨N,hN⟩:∃N,l.length-1=N:=⟨_,rfl⟩
 rw[hN]
 have hm1:0<=(bif false then max 1 (l.length:Int) else min 1 (l.length:Int)):=by rw[cond_false];omega
 have hm2:(bif false then max 1 (l.length:Int) else min 1 (l.length:Int))<=l.length:=by rw[cond_false];omega
 refine pure_rule hT (T:=tab) (N:=27) (rs:=[.tmp 2]) Tryz.func41 rfl rfl rfl Kr rfl ?_
 (refine gW ?_;intros)
 refine hA.call ?_
 (refine gW ?_;intros)
 refine loop_rule hT (S:=Nat) (fun k=>([(0,.d (eFcts l)),(11,dV N),(12,dV k)],⟨[],[]⟩)) (fun k=>k<=N/\srtK l k=true) (fun k=>N-k) 0 ?_ ?_ ?_
 .repeat' (first|exact Tt|exact rfl|exact Nat.le_refl _|refine And.intro ?_ ?_)
  all_goals first
   |exact congrArg (fun n=>dV n) (by simp only[cond_true,cond_false];omega)
 .exact⟨Nat.zero_le _,rfl⟩
 .rintro k ⟨hk,hs⟩
  dsimp only at hk⊢
  by_cases hk2:k<N
  .have hC:=fcompare_ok (l.getD k default) (l.getD (k+1) default)
   have hb:=fctC_bef (l.getD k default) (l.getD (k+1) default)
   have hn:=srtK_succ l k
   rw[hs,Bool.true_and]at hn
   obtain⟨cc,hcc⟩:∃cc,fctC (l.getD k default) (l.getD (k+1) default)=cc:=⟨_,rfl⟩
   rw[hcc]at hC hb
   cases hbf:befF (l.getD k default) (l.getD (k+1) default)
   .rw[hbf]at hb hn
    rw[if_neg (by rw[srtK_none hn Om];decide)]
    have hc0:0<=cc:=of_decide_eq_true hb
    clear hs hcc hb hn hbf
    (refine gW ?_;intros)
    refine qC hC ?_
    (refine gW ?_;intros)
    exact⟨rfl,Tt⟩
   .rw[hbf]at hb hn
    have hc0:¬ 0<=cc:=of_decide_eq_false hb
    have kn:Kp _:=⟨hn⟩
    clear hs hcc hb hn hbf
    (refine gW ?_;intros)
    refine qC hC ?_
    (refine gW ?_;intros)
    refine⟨k+1,⟨by show k+1<=N;omega,kn.h⟩,by show N-(k+1)<N-k;omega,?_⟩
    repeat' (first|exact Tt|exact rfl|exact Nat.le_refl _|refine And.intro ?_ ?_)
  .obtain rfl:k=N:=by omega
   rw[if_pos hs]
   (refine gW ?_;intros)
   exact⟨rfl,Tt⟩
theorem mkFs_no (fr til kn:Int):∀(qs:List Qd) (n i:Nat),i<qs.length->((mkFs fr til kn n qs).getD i default).no=((n+i:Nat):Int)
 |[],_,_,h=>absurd h (Nat.not_lt_zero _)
 |_::_,n,0,_=>rfl
 | _ :: r,n,i + 1,h=>by
   have:=mkFs_no fr til kn r (n+1) i (Nat.lt_of_succ_lt_succ h)
   rw[show n+(i+1)=n+1+i by omega,<-this]
   rfl
theorem getD_left {α:Type}[Inhabited α]{a b:List α}{i:Nat}(h:i<a.length):(a++b).getD i default=a.getD i default:=by
 rw[List.getD_eq_getElem?_getD,List.getD_eq_getElem?_getD,List.getElem?_append_left h]
theorem getD_right {α:Type}[Inhabited α]{a b:List α}{i:Nat}(h:a.length<=i):(a++b).getD i default=b.getD (i-a.length) default:=by
 rw[List.getD_eq_getElem?_getD,List.getD_eq_getElem?_getD,List.getElem?_append_right h]
theorem insF_no (b:Bok)(c:Cat)(fr til kn:Int)(i:Nat)(h:i<(insF b c fr til kn).length):((insF b c fr til kn).getD i default).no=(i:Int):=by
 rw[insF_mk]at h⊢
 by_cases h2:i<(mkFs fr til kn 0 (insQ b c++insS b c)).length
 .rw[getD_left h2,mkFs_no _ _ _ _ _ _ (by rw[mkFs_len]at h2;exact h2),Nat.zero_add]
 .rw[getD_right Om]
  rw[List.length_append]at h
  split at h
  .rename_i hc
   rw[if_pos hc]
   rw[List.length_singleton]at h
   have e:i=(mkFs fr til kn 0 (insQ b c++insS b c)).length:=by omega
   rw[e,Nat.sub_self,mkFs_len]
   rfl
  .rw[List.length_nil]at h
   omega
theorem insF_known {b:Bok}{c:Cat}{fr til kn:Int}{f:Fct}(h:f∈insF b c fr til kn):f.known=kn:=by
 rcases insF_mem h with ⟨_,_,_,_,_,_,_,_,e⟩|⟨_,_,_,_,_,_,e⟩<;>exact e
theorem numN_len (l:List Crs):numN l<=l.length:=by
 have:(numsC l).length=l.length:=List.length_map ..
 rw[<-this]
 exact dst_le _
theorem bw_of {n lo hi:Int}(h1:lo<=n)(h2:n<=hi):bw n lo hi=true:=by
 unfold bw
 rw[decide_eq_true h1,decide_eq_true h2]
 rfl
theorem of_bw {n lo hi:Int}(h:bw n lo hi=true):lo<=n/\n<=hi:=by
 simp only[bw,Bool.and_eq_true,decide_eq_true_eq]at h
 exact h
theorem vCrs_num {x:Crs}(h:vCrs x=true):bw x.number 0 4095=true:=by
 unfold vCrs at h
 rw[Bool.and_eq_true]at h
 exact h.1
theorem vPrg_num {x:Prg}(h:vPrg x=true):bw x.number 0 255=true:=by
 unfold vPrg at h
 rw[Bool.and_eq_true]at h
 exact h.1
theorem fit_ins {b:Bok}{c:Cat}{fr til kn:Int}(hI:Insd b c fr til kn)(h1:b.crs.length<=1000)(h2:c.crs.length<=1000)(h3:b.prg.length<=1000)(h4:c.prg.length<=1000)(h5:b.sys.length<=1000)(h6:c.same.length<=1000) :
 ∀f∈insF b c fr til kn,fitF f=true:=by
 intro f hf
 obtain⟨s1,s2,s3,s4,s5⟩:=spn_of hI.spn
 obtain⟨g1,g2,g3⟩:=chkB_iff.1 hI.own
 have hno:0<=f.no/\f.no<=65535:=by
  obtain⟨i,hi,rfl⟩:=mem_at hf
  rw[insF_no _ _ _ _ _ _ hi]
  have:=insF_len b c fr til kn
  omega
 have hfin:∀k s o v a z:Int,f.kind=k->f.subject=s->f.object=o->f.value=v->f.fr=a->f.til=z->f.known=kn->(1<=k/\k<=12)->(0<=s/\s<=20000)->(0<=o/\o<=20000)->(-1<=v/\v<=1099511627776)->(0<=a/\a<z/\z<=1024)->fitF f=true:=by
  intro k s o v a z e1 e2 e3 e4 e5 e6 e7 b1 b2 b3 b4 b5
  unfold fitF
  rw[e1,e2,e3,e4,e5,e6,e7,bw_of b1.1 b1.2,bw_of b2.1 b2.2,bw_of b3.1 b3.2,bw_of b4.1 b4.2,decide_eq_true b5.1,decide_eq_true b5.2.1,decide_eq_true b5.2.2,bw_of s4 s5,bw_of hno.1 hno.2]
  rfl
 rcases insF_mem hf with ⟨q,hq,e1,e2,e3,e4,e5,e6,e7⟩|⟨e1,e2,e3,e4,e5,e6,e7⟩
 .rcases insQ_mem.1 hq with ⟨i,hi,rfl⟩|⟨i,hi,rfl⟩|h|⟨_,rfl⟩
  .have hn:=of_bw (vCrs_num (List.all_eq_true.1 g1 _ (getD_mem hi)))
   exact hfin _ _ _ _ _ _ e1 e2 e3 e4 e5 e6 e7 ⟨by show(1:Int)<=1;omega,by show(1:Int)<=12;omega⟩ ⟨hn.1,Int.le_trans hn.2 Dc⟩ ⟨by show(0:Int)<=0;omega,by show(0:Int)<=20000;omega⟩ ⟨by show -1<=((b.crs.length:Nat):Int)+(i:Int);omega,by show((b.crs.length:Nat):Int)+(i:Int)<=_;omega⟩ ⟨s1,s2,s3⟩
  .have hn:=of_bw (vPrg_num (List.all_eq_true.1 g2 _ (getD_mem hi)))
   exact hfin _ _ _ _ _ _ e1 e2 e3 e4 e5 e6 e7 ⟨by show(1:Int)<=3;omega,by show(3:Int)<=12;omega⟩ ⟨hn.1,Int.le_trans hn.2 Dc⟩ ⟨by show(0:Int)<=0;omega,by show(0:Int)<=20000;omega⟩ ⟨by show -1<=((b.prg.length:Nat):Int)+(i:Int);omega,by show((b.prg.length:Nat):Int)+(i:Int)<=_;omega⟩ ⟨s1,s2,s3⟩
  .obtain⟨i,hi,rfl⟩:=samK_mem h
   have hp:=List.all_eq_true.1 hI.pai _ (getD_mem hi)
   unfold pairB at hp
   rw[Bool.and_eq_true]at hp
   have p1:=of_bw hp.1
   have p2:=of_bw hp.2
   exact hfin _ _ _ _ _ _ e1 e2 e3 e4 e5 e6 e7 ⟨by show(1:Int)<=2;omega,by show(2:Int)<=12;omega⟩ ⟨by show 0<=min (c.same.getD i default).x (c.same.getD i default).y;omega,by show min (c.same.getD i default).x (c.same.getD i default).y<=20000;omega⟩ ⟨by show 0<=max (c.same.getD i default).x (c.same.getD i default).y;omega,by show max (c.same.getD i default).x (c.same.getD i default).y<=20000;omega⟩ ⟨by show(-1:Int)<=1;omega,by show(1:Int)<=1099511627776;omega⟩ ⟨s1,s2,s3⟩
  .exact hfin _ _ _ _ _ _ e1 e2 e3 e4 e5 e6 e7 ⟨by show(1:Int)<=4;omega,by show(4:Int)<=12;omega⟩ ⟨by show(0:Int)<=0;omega,by show(0:Int)<=20000;omega⟩ ⟨by show(0:Int)<=0;omega,by show(0:Int)<=20000;omega⟩ ⟨by show(-1:Int)<=(b.sys.length:Int);omega,by show(b.sys.length:Int)<=1099511627776;omega⟩ ⟨s1,s2,s3⟩
 .have hn:=numN_len (b.crs++c.crs)
  rw[List.length_append]at hn
  exact hfin _ _ _ _ _ _ e1 e2 e3 e4 e5 e6 e7 ⟨Om,Om⟩ ⟨Om,Om⟩ ⟨Om,Om⟩ ⟨Om,Om⟩ ⟨Om,Om,Om⟩
theorem fchk_iff {l:List Fct}:fchk l=0↔(∀f∈l,fitF f=true)/\∀i,i+1<l.length->befF (l.getD i default) (l.getD (i+1) default)=true:=by
 unfold fchk srtK
 have e:(l.any fun f=>!fitF f)=true↔¬ ∀f∈l,fitF f=true:=by
  rw[List.any_eq_true]
  constructor
  .rintro⟨f,hf,h⟩ h2
   rw[h2 f hf]at h
   cases h
  .intro h
   refine Classical.byContradiction fun h2=>h fun f hf=>?_
   cases hb:fitF f with
   |true=>rfl
   |false=>exact absurd ⟨f,hf,by rw[hb];rfl⟩ h2
 have e2:((List.range (l.length-1)).all fun i=>befF (l.getD i default) (l.getD (i+1) default))=true↔∀i,i+1<l.length->befF (l.getD i default) (l.getD (i+1) default)=true:=by
  rw[List.all_eq_true]
  exact⟨fun h i hi=>h i (List.mem_range.2 Om),fun h i hi=>h i (by have:=List.mem_range.1 hi;omega)⟩
 by_cases h1:(l.any fun f=>!fitF f)=true
 .rw[if_pos h1]
  exact⟨fun h=>(by cases h),fun h=>absurd h.1 (e.1 h1)⟩
 .rw[if_neg h1]
  have h1':∀f∈l,fitF f=true:=Classical.byContradiction fun h=>h1 (e.2 h)
  by_cases h2:((List.range (l.length-1)).all fun i=>befF (l.getD i default) (l.getD (i+1) default))=true
  .rw[if_pos h2]
   exact⟨fun _=>⟨h1',e2.1 h2⟩,fun _=>rfl⟩
  .rw[if_neg h2]
   exact⟨fun h=>(by cases h),fun h=>absurd (e2.2 h.2) h2⟩
theorem fchk_ins {b:Bok}{c:Cat}{fr til kn:Int}(hI:Insd b c fr til kn){fs:List Fct}(hfs:∀f∈fs,f.known<kn)(hc:fchk fs=0)(h1:b.crs.length<=1000)(h2:c.crs.length<=1000)(h3:b.prg.length<=1000)(h4:c.prg.length<=1000)(h5:b.sys.length<=1000)(h6:c.same.length<=1000) :
 fchk (fs++insF b c fr til kn)=0:=by
 obtain⟨a1,a2⟩:=fchk_iff.1 hc
 refine fchk_iff.2 ⟨fun f hf=>(List.mem_append.1 hf).elim (a1 f) (fit_ins hI h1 h2 h3 h4 h5 h6 f),fun i hi=>?_⟩
 rw[List.length_append]at hi
 have hno:=insF_no b c fr til kn
 have hkn:=fun f=>insF_known (b:=b) (c:=c) (fr:=fr) (til:=til) (kn:=kn) (f:=f)
 generalize insF b c fr til kn=l at hi hno hkn⊢
 by_cases c1:i+1<fs.length
 .rw[getD_left Om,getD_left c1]
  exact a2 i c1
 by_cases c2:i<fs.length
 .rw[getD_left c2,getD_right Om]
  have e1:=hfs _ (getD_mem c2)
  have e2:=hkn _ (getD_mem (xs:=l) (k:=i+1-fs.length) Om)
  unfold befF
  rw[decide_eq_true Om]
  rfl
 .rw[getD_right Om,getD_right Om]
  have e1:=hkn _ (getD_mem (xs:=l) (k:=i-fs.length) Om)
  have e2:=hkn _ (getD_mem (xs:=l) (k:=i+1-fs.length) Om)
  have e3:=hno (i-fs.length) Om
  have e4:=hno (i+1-fs.length) Om
  unfold befF
  rw[decide_eq_true (show(l.getD (i-fs.length) default).known=(l.getD (i+1-fs.length) default).known by omega),decide_eq_true (show(l.getD (i-fs.length) default).no<(l.getD (i+1-fs.length) default).no by omega),Bool.true_and,Bool.or_true]
noncomputable def instCode (n:Nat):Code:=nxts n (Tryz.f9.body.getD .skip)
def instQ:Post:=finQ tab [.tmp 14] [.bool true]
theorem refSys_ok (c:Cat):Pure Tryz.prog 42 [.agg (eCat c)] [.agg (eSys (sysC c))]:=by
 refine pure_ruleC hT (T:=tab) (N:=12) (rs:=[.cell 2 83]) Tryz.func42 rfl rfl rfl Kr rfl ?_
 (refine gW ?_;intros)
 refine⟨?_,Tt⟩
 conv=>whnf
 exact .d
theorem instSys (w x:Wor)(c:Cat)(hw:WfW w)(hx:WfW x)(hs:wfSys (sysC c))(t when:Int)(ap:Bool)(hU:(sysOf x t when).getD default=if ap=true/\sysB c=true then sysC c else(sysOf w t when).getD default) :
 Awp Tryz.prog 275 (instCode 18) [(5,dV t),(6,dV when),(7,lp 0),(8,lp 1),(23,.d (.pt (eWor x) 0)),(24,.d (.bool ap))]
  ⟨[bX 51 (up (eWor w)),bX 32 (up (eCat c))],[]⟩ instQ:=by
 have c1:=bsystem_ok x hx t when
 have c2:=bsystem_ok w hw t when
 have c3:=refSys_ok c
 have w1:=sysOf_wf hx t when
 have hd:=sameSys_ok _ _ w1 w1
 rw[decide_eq_true rfl]at hd
 unfold instQ
 generalize (sysOf x t when).getD default=U at c1 hU hd
 generalize (sysOf w t when).getD default=V at c2 hU
 clear w1
 cases ap
 case false =>
  rw[if_neg (fun h=>Bool.noConfusion h.1)]at hU
  subst hU
  refine Awp.of_vc hT ?_
  (refine gW ?_;intros)
  refine c1.call ?_
  (refine gW ?_;intros)
  refine c2.call ?_
  (refine gW ?_;intros)
  refine c3.call ?_
  (refine gW ?_;intros)
  refine hd.call ?_
  (refine gW ?_;intros)
  exact⟨rfl,Tt⟩
 refine Awp.of_vc hT ?_
 (refine gW ?_;intros)
 refine c1.call ?_
 (refine gW ?_;intros)
 refine c2.call ?_
 (refine gW ?_;intros)
 refine c3.call ?_
 (refine gS ?_;intros)
 refine Sq.alt (Awp.seq ((Awp.cuts (WL.cut hT 8 rfl Kr ?_))))
 (refine gS ?_;intros)
 refine⟨rfl,op_addg rfl rfl rfl (px1 rfl) (px1 rfl) ?_⟩
 conv=>whnf
 refine WL.cut hT 3 rfl Kr ?_
 (refine gS ?_;intros)
 refine⟨rfl,op_addg rfl rfl rfl px0 (px1 rfl) ?_⟩
 conv=>whnf
 refine WL.cut hT 3 rfl Kr ?_
 (refine gS ?_;intros)
 refine⟨rfl,op_addg rfl rfl rfl px0 (px1 rfl) ?_⟩
 conv=>whnf
 refine WL.eng hT Kr ?_
 (refine gS ?_;intros)
 refine Awp.of_vc hT ?_
 by_cases hp:0<wsum c
 case pos =>
  rw[if_pos ⟨rfl,decide_eq_true hp⟩]at hU
  subst hU
  have hp2:0<IntKind.i64.wrap (IntKind.i64.wrap (IntKind.i64.wrap (((sysC c).classes.length:Int)+((sysC c).fees.length:Int))+((sysC c).honours.length:Int))+((sysC c).clauses.length:Int)):=hp
  (refine gW ?_;intros)
  refine hd.call ?_
  (refine gW ?_;intros)
  exact⟨rfl,Tt⟩
 case neg =>
  rw[if_neg (fun h=>hp (of_decide_eq_true h.2))]at hU
  subst hU
  have hp2:¬ 0<IntKind.i64.wrap (IntKind.i64.wrap (IntKind.i64.wrap (((sysC c).classes.length:Int)+((sysC c).fees.length:Int))+((sysC c).honours.length:Int))+((sysC c).clauses.length:Int)):=hp
  (refine gW ?_;intros)
  refine hd.call ?_
  (refine gW ?_;intros)
  exact⟨rfl,Tt⟩
def pickO {α:Type}(ap:Bool)(p:α->Bool)(l:List α)(o:Option α)(k:Nat):Option α:=if ap=true then(lastC p (l.take k)).or o else o
theorem pickO_no {α:Type}{p:α->Bool}{l:List α}{o:Option α}{k:Nat}:pickO false p l o k=o:=rfl
theorem pickO_zero {α:Type}{ap:Bool}{p:α->Bool}{l:List α}{o:Option α}:pickO ap p l o 0=o:=by
 unfold pickO
 rw[List.take_zero]
 split
 .rfl
 .rfl
theorem pickO_hit {α:Type}[Inhabited α]{p:α->Bool}{l:List α}{o:Option α}{k:Nat}(hk:k<l.length)(h:p (l.getD k default)=true):pickO true p l o (k+1)=some (l.getD k default):=by
 unfold pickO
 rw[if_pos rfl,take_succ_at hk,lastC_snoc,if_pos h]
 rfl
theorem pickO_miss {α:Type}[Inhabited α]{p:α->Bool}{l:List α}{o:Option α}{k:Nat}(hk:k<l.length)(h:p (l.getD k default)=false):pickO true p l o (k+1)=pickO true p l o k:=by
 unfold pickO
 rw[if_pos rfl,if_pos rfl,take_succ_at hk,lastC_snoc,h,if_neg Bool.false_ne_true]
theorem instPrg (w x:Wor)(c:Cat)(hw:WfW w)(hx:WfW x)(n t when:Int)(ap:Bool)(hl:c.prg.length<=1000)(hP:prgOf x n t when=pickO ap (fun y:Prg=>decide (y.number=n)) c.prg (prgOf w n t when) c.prg.length)(hPw:wfPrg2 ((prgOf x n t when).getD default))
 (hnext:Awp Tryz.prog 275 (instCode 18) [(5,.d (.int .i64 t)),(6,.d (.int .i64 when)),(7,.ptr (.loc 0) 0 0 0),(8,.ptr (.loc 1) 0 0 0),(23,.d (.pt (eWor x) 0)),(24,.d (.bool ap))]
  ⟨[bX 51 (up (eWor w)),bX 32 (up (eCat c))],[]⟩ instQ) :
 Awp Tryz.prog 275 (instCode 14) [(4,dV n),(5,dV t),(6,dV when),(7,lp 0),(8,lp 1),(23,.d (.pt (eWor x) 0)),(24,.d (.bool ap))]
  ⟨[bX 51 (up (eWor w)),bX 32 (up (eCat c))],[]⟩ instQ:=by
 have d1:=bprogramme_ok x hx n t when
 have d2:=bprogramme_ok w hw n t when
 have hS:=samePrg_ok _ _ hPw hPw
 rw[decide_eq_true rfl]at hS
 unfold instQ at hnext⊢
 obtain⟨q,hq⟩:∃q,prgOf x n t when=q:=⟨_,rfl⟩
 rw[hq]at d1 hS hP
 generalize prgOf w n t when=o at d2 hP
 have kP:Kp _:=⟨hP⟩
 have kN:Kp _:=⟨hnext⟩
 clear hPw hP hq hnext
 refine Awp.of_vc hT ?_
 (refine gW ?_;intros)
 refine d1.call ?_
 (refine gW ?_;intros)
 refine d2.call ?_
 (refine gW ?_;intros)
 refine loop_rule hT (S:=Nat) (fun k=>([(4,dV n),(5,dV t),(6,dV when),(7,lp 0),(8,lp 1),(23,.d (.pt (eWor x) 0)),(24,.d (.bool ap)),(27,.d (.bool q.isSome)),(30,.d (.bool (pickO ap (fun y:Prg=>decide (y.number=n)) c.prg o k).isSome)),(33,lp 2),(35,lp 3),(212,.d (ePrgs c.prg)),(213,dV c.prg.length),(214,dV k)],
  ⟨[bX 51 (up (eWor w)),bX 32 (up (eCat c)),bX 78 (up (ePrg (q.getD default))),bX 78 (up (ePrg ((pickO ap (fun y:Prg=>decide (y.number=n)) c.prg o k).getD default)))],[]⟩)) (fun k=>k<=c.prg.length) (fun k=>c.prg.length-k) 0 ?_ ?_ ?_
 .dsimp only
  rw[pickO_zero]
  repeat' (first|exact Tt|exact rfl|exact Nat.le_refl _|refine And.intro ?_ ?_)
 .exact Nat.zero_le _
 intro k hk
 dsimp only at hk⊢
 by_cases hk2:k<c.prg.length
 case pos =>
  cases ap
  case false =>
   rw[pickO_no]
   (refine gW ?_;intros)
   refine⟨k+1,by show k+1<=c.prg.length;omega,by show c.prg.length-(k+1)<c.prg.length-k;omega,?_⟩
   dsimp only
   rw[pickO_no]
   repeat' (first|exact Tt|exact rfl|exact Nat.le_refl _|refine And.intro ?_ ?_)
  by_cases hn:(c.prg.getD k default).number=n
  case pos =>
   have kH:Kp _:=⟨pickO_hit (o:=o) (p:=fun y:Prg=>decide (y.number=n)) hk2 (decide_eq_true hn)⟩
   generalize pickO true (fun y:Prg=>decide (y.number=n)) c.prg o k=cur
   (refine gW ?_;intros)
   refine⟨k+1,by show k+1<=c.prg.length;omega,by show c.prg.length-(k+1)<c.prg.length-k;omega,?_⟩
   dsimp only
   rw[kH.h]
   repeat' (first|exact Tt|exact rfl|exact Nat.le_refl _|refine And.intro ?_ ?_)
  case neg =>
   have kH:Kp _:=⟨pickO_miss (o:=o) (p:=fun y:Prg=>decide (y.number=n)) hk2 (decide_eq_false hn)⟩
   generalize hcur:pickO true (fun y:Prg=>decide (y.number=n)) c.prg o k=cur at kH
   clear hcur
   (refine gW ?_;intros)
   refine⟨k+1,by show k+1<=c.prg.length;omega,by show c.prg.length-(k+1)<c.prg.length-k;omega,?_⟩
   dsimp only
   rw[kH.h]
   repeat' (first|exact Tt|exact rfl|exact Nat.le_refl _|refine And.intro ?_ ?_)
 obtain rfl:k=c.prg.length:=by omega
 rw[<-kP.h]
 generalize q.getD default=y at hS⊢
 generalize q.isSome=b
 clear kP d1 d2
 cases b
 all_goals
  (refine gW ?_;intros)
  refine hS.call ?_
  (refine gS ?_;intros)
  refine Sq.go ?_;(refine gS ?_;intros)
  refine Sq.alt (Awp.le (env':=[(5,dV t),(6,dV when),(7,lp 0),(8,lp 1),(23,.d (.pt (eWor x) 0)),(24,.d (.bool ap))]) (m':=⟨[bX 51 (up (eWor w)),bX 32 (up (eCat c))],[]⟩) ?_ kN.h)
  repeat' (first|exact Tt|exact rfl|exact Nat.le_refl _|refine And.intro ?_ ?_)
theorem instCrs (w x:Wor)(c:Cat)(hw:WfW w)(hx:WfW x)(n t when:Int)(ap:Bool)(hl:c.crs.length<=1000)(hP:crsOf x n t when=pickO ap (fun y:Crs=>decide (y.number=n)) c.crs (crsOf w n t when) c.crs.length)(hPw:wfCrs ((crsOf x n t when).getD default))
 (hnext:Awp Tryz.prog 275 (instCode 14) [(4,.d (.int .i64 n)),(5,.d (.int .i64 t)),(6,.d (.int .i64 when)),(7,.ptr (.loc 0) 0 0 0),(8,.ptr (.loc 1) 0 0 0),(23,.d (.pt (eWor x) 0)),(24,.d (.bool ap))]
  ⟨[bX 51 (up (eWor w)),bX 32 (up (eCat c))],[]⟩ instQ) :
 Awp Tryz.prog 275 (instCode 10) [(4,dV n),(5,dV t),(6,dV when),(7,lp 0),(8,lp 1),(23,.d (.pt (eWor x) 0)),(24,.d (.bool ap))]
  ⟨[bX 51 (up (eWor w)),bX 32 (up (eCat c))],[]⟩ instQ:=by
 have d1:=bcourse_ok x hx n t when
 have d2:=bcourse_ok w hw n t when
 have hS:=sameCourse_ok _ _ hPw hPw
 rw[decide_eq_true rfl]at hS
 unfold instQ at hnext⊢
 obtain⟨q,hq⟩:∃q,crsOf x n t when=q:=⟨_,rfl⟩
 rw[hq]at d1 hS hP
 generalize crsOf w n t when=o at d2 hP
 have kP:Kp _:=⟨hP⟩
 have kN:Kp _:=⟨hnext⟩
 clear hPw hP hq hnext
 refine Awp.of_vc hT ?_
 (refine gW ?_;intros)
 refine d1.call ?_
 (refine gW ?_;intros)
 refine d2.call ?_
 (refine gW ?_;intros)
 refine loop_rule hT (S:=Nat) (fun k=>([(4,dV n),(5,dV t),(6,dV when),(7,lp 0),(8,lp 1),(23,.d (.pt (eWor x) 0)),(24,.d (.bool ap)),(27,.d (.bool q.isSome)),(30,.d (.bool (pickO ap (fun y:Crs=>decide (y.number=n)) c.crs o k).isSome)),(25,lp 2),(28,lp 3),(169,.d (eCrss c.crs)),(170,dV c.crs.length),(171,dV k)],
  ⟨[bX 51 (up (eWor w)),bX 32 (up (eCat c)),bX 68 (up (eCrs (q.getD default))),bX 68 (up (eCrs ((pickO ap (fun y:Crs=>decide (y.number=n)) c.crs o k).getD default)))],[]⟩)) (fun k=>k<=c.crs.length) (fun k=>c.crs.length-k) 0 ?_ ?_ ?_
 .dsimp only
  rw[pickO_zero]
  repeat' (first|exact Tt|exact rfl|exact Nat.le_refl _|refine And.intro ?_ ?_)
 .exact Nat.zero_le _
 intro k hk
 dsimp only at hk⊢
 by_cases hk2:k<c.crs.length
 case pos =>
  cases ap
  case false =>
   rw[pickO_no]
   (refine gW ?_;intros)
   refine⟨k+1,by show k+1<=c.crs.length;omega,by show c.crs.length-(k+1)<c.crs.length-k;omega,?_⟩
   dsimp only
   rw[pickO_no]
   repeat' (first|exact Tt|exact rfl|exact Nat.le_refl _|refine And.intro ?_ ?_)
  by_cases hn:(c.crs.getD k default).number=n
  case pos =>
   have kH:Kp _:=⟨pickO_hit (o:=o) (p:=fun y:Crs=>decide (y.number=n)) hk2 (decide_eq_true hn)⟩
   generalize pickO true (fun y:Crs=>decide (y.number=n)) c.crs o k=cur
   (refine gW ?_;intros)
   refine⟨k+1,by show k+1<=c.crs.length;omega,by show c.crs.length-(k+1)<c.crs.length-k;omega,?_⟩
   dsimp only
   rw[kH.h]
   repeat' (first|exact Tt|exact rfl|exact Nat.le_refl _|refine And.intro ?_ ?_)
  case neg =>
   have kH:Kp _:=⟨pickO_miss (o:=o) (p:=fun y:Crs=>decide (y.number=n)) hk2 (decide_eq_false hn)⟩
   generalize hcur:pickO true (fun y:Crs=>decide (y.number=n)) c.crs o k=cur at kH
   clear hcur
   (refine gW ?_;intros)
   refine⟨k+1,by show k+1<=c.crs.length;omega,by show c.crs.length-(k+1)<c.crs.length-k;omega,?_⟩
   dsimp only
   rw[kH.h]
   repeat' (first|exact Tt|exact rfl|exact Nat.le_refl _|refine And.intro ?_ ?_)
 obtain rfl:k=c.crs.length:=by omega
 rw[<-kP.h]
 generalize q.getD default=y at hS⊢
 generalize q.isSome=b
 clear kP d1 d2
 cases b
 all_goals
  (refine gW ?_;intros)
  refine hS.call ?_
  (refine gS ?_;intros)
  refine Sq.go ?_;(refine gS ?_;intros)
  refine Sq.alt (Awp.le (env':=[(4,dV n),(5,dV t),(6,dV when),(7,lp 0),(8,lp 1),(23,.d (.pt (eWor x) 0)),(24,.d (.bool ap))]) (m':=⟨[bX 51 (up (eWor w)),bX 32 (up (eCat c))],[]⟩) ?_ kN.h)
  repeat' (first|exact Tt|exact rfl|exact Nat.le_refl _|refine And.intro ?_ ?_)
end Go.Proofs.YtmlhghddfobmmaaGreatDoor
