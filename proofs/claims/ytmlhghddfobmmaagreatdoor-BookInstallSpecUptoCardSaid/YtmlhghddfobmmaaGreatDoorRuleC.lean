import Derived.Test.YtmlhghddfobmmaaGreatDoorTab
import Derived.Test.YtmlhghddfobmmaaGreatDoorEngAE
import Derived.Test.YtmlhghddfobmmaaGreatDoorEngAP
namespace Go.Proofs.YtmlhghddfobmmaaGreatDoor
set_option linter.unusedSimpArgs false
set_option linter.unusedVariables false
open Go Go.Ab
theorem bsl:(∀(p:Prop) (x:Decidable p),(@decide p x=true)=p)/\(∀(p:Prop) (x:Decidable p),(@decide p x=false)=¬p)/\(∀a b:Bool,((a&&b)=true)=(a=true/\b=true))/\(∀a b:Bool,((a||b)=true)=(a=true\/b=true))/\(∀b:Bool,((!b)=true)=(b=false))/\(∀b:Bool,((!b)=false)=(b=true)) /\
 (∀x y:Bool,((x&&y)=false)=(x=false\/y=false))/\(∀x y:Bool,((x||y)=false)=(x=false/\y=false))/\(∀c f:Bool,(bif c then true else f)=(c||f))/\(∀c f:Bool,(bif c then f else false)=(c&&f))/\(∀c f:Bool,(bif c then false else f)=(!c&&f))/\(∀c f:Bool,(bif c then f else true)=(!c||f))/\(!true)=false/\(!false)=true/\(true=false)=False/\(false=true)=False /\
 (∀n:Nat,(n:Int).toNat=n)/\(∀a b:Int,(¬a<=b)=(b<a))/\(∀a b:Int,(¬a<b)=(b<=a))/\(∀b:Bool,(b&&true)=b)/\(∀b:Bool,(true&&b)=b)/\(∀b:Bool,(b||false)=b)/\(∀b:Bool,(false||b)=b)/\(∀b:Bool,(b&&false)=false)/\(∀b:Bool,(false&&b)=false)/\(∀b:Bool,(b||true)=true)/\(∀b:Bool,(true||b)=true) /\
 (∀p q:Prop,(¬(p\/q))=(¬p/\¬q))/\(∀a b:Prop,(¬(a/\b))=(a->¬b)):=by
 refine⟨fun p x=>propext (by simp),fun p x=>propext (by simp),?_,?_,?_,?_,?_,?_,?_,?_,?_,?_,rfl,rfl,by simp,by simp,fun n=>by simp,fun a b=>propext Int.not_le,fun a b=>propext Int.not_lt,?_,?_,?_,?_,?_,?_,?_,?_,fun p q=>propext not_or,fun a b=>propext not_and⟩<;>simp
theorem bs2:(¬True)=False/\(¬False)=True/\(∀p:Prop,(False\/p)=p)/\(∀p:Prop,(p\/False)=p)/\(∀p:Prop,(True/\p)=p)/\(∀p:Prop,(p/\True)=p):=by
 refine⟨?_,?_,?_,?_,?_,?_⟩<;>simp
theorem bbq:(false==true)=false/\(true==false)=false/\(true==true)=true/\(false==false)=true:=⟨rfl,rfl,rfl,rfl⟩
theorem Zz {n:Int}:In .i64 n↔-9223372036854775808<=n/\n<=9223372036854775807:=by
 simp[In,IntKind.min,IntKind.max,IntKind.signed,IntKind.bits]
theorem obG {p K:Prop}(k:K)(h:p:=by(first|exact rfl|assumption|omega|(intro h0;simp only[h0];with_unfolding_all exact rfl)|(intro h1 h0;simp only[h0];with_unfolding_all exact rfl)|(intros;first|assumption|(with_unfolding_all exact rfl)|omega|(simp only[Ma,Int.toNat_natCast]<;>omega)|(simp only[Zz,Qig,Qhs]<;>omega)|(simp only[bsl,Qhm,bne_iff_ne,Zz]at * <;> omega)|((try simp only[Int.toNat_natCast]);exact Qhx (Nat.mul_le_mul_right _ (show _<=2000000 by omega)) (by with_unfolding_all decide))|(simp_all<;>fail)))):Ob p K:=⟨h,k⟩
theorem obH {p K:Prop}(k:K)(h:p:=by(first|exact rfl|assumption|omega|(intro h0;simp only[h0];with_unfolding_all exact rfl)|(intro h1 h0;simp only[h0];with_unfolding_all exact rfl)|(intros;first|assumption|(with_unfolding_all exact rfl)|omega|(simp only[Ma,Int.toNat_natCast]<;>omega)|(simp only[Zz,Qig,Qhs]<;>omega)|(simp only[bsl,Qhm,bne_iff_ne,Zz]at * <;> omega)|(simp only[bsl,Qhm,bne_iff_ne,bbq,not_true_eq_false,not_false_eq_true,true_and,and_true,true_or,or_true]<;>omega)|((try simp only[Int.toNat_natCast]);exact Qhx (Nat.mul_le_mul_right _ (show _<=2000000 by omega)) (by with_unfolding_all decide))|(simp_all<;>fail)))):Ob p K:=⟨h,k⟩
theorem brT {b:Bool}{x y:Prop}(k:b=true->x)(h:b=false->False:=by(intro h;(try simp only[bsl,Qhm,bne_iff_ne]at h)<;>(try simp only[bs2]at h)<;>(try exact absurd h Dc)<;>(try contradiction)<;>(try (exfalso;omega))<;>(simp only[bs2,or_self,eq_self,Int.reduceEq,reduceCtorEq]at h<;>fail))):Br b x y:=⟨k,fun e=>(h e).elim⟩
theorem brF {b:Bool}{x y:Prop}(k:b=false->y)(h:b=true->False:=by(intro h;(try simp only[bsl,Qhm,bne_iff_ne]at h)<;>(try simp only[bs2]at h)<;>(try exact absurd h Dc)<;>(try contradiction)<;>(try (exfalso;omega))<;>(simp only[bs2,or_self,eq_self,Int.reduceEq,reduceCtorEq]at h<;>fail))):Br b x y:=⟨fun e=>(h e).elim,k⟩
theorem brU {b:Bool}{x y:Prop}(k:b=true->x)(h:b=false->False:=by(intro h;(try simp only[bsl,Qhm,bne_iff_ne,bbq]at h)<;>(try simp only[bs2,bbq]at h)<;>(try exact absurd h Dc)<;>(try contradiction)<;>(try (exfalso;omega))<;>(simp only[bs2,bbq,or_self,eq_self,Int.reduceEq,reduceCtorEq]at h<;>fail))):Br b x y:=⟨k,fun e=>(h e).elim⟩
theorem brV {b:Bool}{x y:Prop}(k:b=false->y)(h:b=true->False:=by(intro h;(try simp only[bsl,Qhm,bne_iff_ne,bbq]at h)<;>(try simp only[bs2,bbq]at h)<;>(try exact absurd h Dc)<;>(try contradiction)<;>(try (exfalso;omega))<;>(simp only[bs2,bbq,or_self,eq_self,Int.reduceEq,reduceCtorEq]at h<;>fail))):Br b x y:=⟨fun e=>(h e).elim,k⟩
theorem Qc {α:Type}[Inhabited α]{xs:List α}{k:Nat}(h:k<xs.length):xs.drop k=xs.getD k default::xs.drop (k+1):=by
 rw[List.drop_eq_getElem_cons h]
 simp[h]
theorem nf {b:Bool}(h:b=true):¬ b=false:=by rw[h];simp
theorem Qr {α:Type}{xs:List α}{k:Nat}(h:xs.length<=k):xs.drop k=[]:=List.drop_of_length_le h
theorem Qe {α:Type}[Inhabited α]{xs:List α}{k:Nat}(h:k<xs.length):xs.getD k default∈xs:=by
 simp[Qha,h]
theorem Js {α:Type}[Inhabited α]{xs:List α}{k:Nat}(h:k<xs.length):xs.take (k+1)=xs.take k++[xs.getD k default]:=by
 rw[List.take_add_one]
 simp[h]
theorem Sg {α:Type}{xs ys:List α}{k:Nat}{d:α}(h:k<xs.length):(xs++ys).getD k d=xs.getD k d:=by
 simp[Qha,Qhj h]
theorem Q0z {α:Type}{xs ys:List α}{k:Nat}{d:α}(h:xs.length<=k):(xs++ys).getD k d=ys.getD (k-xs.length) d:=by
 simp[Qha,Qhu h]
section
variable {P:Program}{f:FuncId}{args:List D}{m:Mem}{K:AV->Mem->Prop}{b:Bool}{i:IntKind}{n:Int}
theorem qC {Q:AV->Prop}{res:List D}(h:Pure P f args res)(hk:Q (Vu res)):Ia P (.d (.fn (.func f) [] [])) (up args) Q :=
 ⟨_,[],[],args,res,rfl,rfl,by simpa using h,hk⟩
end
theorem Ss {n j:Nat}{f h:Nat->List AV}(hj:j<n):Je n f h j=f j:=by
 have:Nat.blt j n=true:=Nat.ble_eq_true_of_le hj
 simp only[Je,this,cond_true]
theorem Sr {n j:Nat}{f h:Nat->List AV}(hj:n<=j):Je n f h j=h (j-n):=by
 have:Nat.blt j n=false:=by
  cases e:Nat.blt j n with
  |false=>rfl
  |true=>exact absurd (Qhf e:j+1<=n) Om
 simp only[Je,this,cond_false]
theorem Di {α:Type}[Inhabited α](e:α->List D)(acc:List α)(b:α)(h:Nat->List AV)(hb:h 0=up (e b))(i:Nat)(hi:i<(acc++[b]).length) :
 Je acc.length (fun i=>up (e (acc.getD i default))) h i=up (e ((acc++[b]).getD i default)):=by
 rw[Qhc]at hi
 by_cases h1:i<acc.length
 .rw[Ss h1,Sg h1]
 .have h2:i=acc.length:=by simp at hi;omega
  subst h2
  rw[Sr (Qgx _),Q0z (Qgx _),Nat.sub_self,hb]
  rfl
theorem Qb1 {α:Type}[Inhabited α](e:α->List D)(acc ys:List α)(h:Nat->List AV)(hb:∀i,i<ys.length->h i=up (e (ys.getD i default)))(i:Nat)(hi:i<(acc++ys).length) :
 Je acc.length (fun i=>up (e (acc.getD i default))) h i=up (e ((acc++ys).getD i default)):=by
 rw[Qhc]at hi
 by_cases h1:i<acc.length
 .rw[Ss h1,Sg h1]
 .rw[Sr Om,Q0z Om,hb _ Om]
theorem Jp {α:Type}(acc:List α)(b:α):(acc++[b]).length=acc.length+1:=by rw[Qhc];rfl
def J6 (xs:List Int):D:=.sl 1 xs.length fun i=>[.int .i64 (xs.getD i default)]
def ix {α:Type}(p:α->Bool):List α->Int->Int
 |[],_=>-1
 |s::r,k=>if p s then k else ix p r (k+1)
theorem Uu {α:Type}(p:α->Bool):∀(xs:List α) (k:Int),0<=k->(decide (0<=ix p xs k))=xs.any p
 |[],k,_=>by simp[ix]
 | s :: r,k,h=>by
   by_cases hp:p s=true
   .simp[ix,hp,h]
   .simp only[ix,hp,if_false,List.any_cons,Bool.false_or]
    exact Uu p r (k+1) Om
structure Wr (R:Prop):Prop where
 o:R
theorem gW {K R:Prop}(r:R)(g:Wr R->K:=by
 intro wr
 repeat' (first|with_reducible refine Sq.go ?_|((with_reducible refine Ev.mk ?_);conv=>whnf)|with_reducible refine Dr.mk ⟨Kr,Kr⟩ ?_|with_reducible refine obG ?_|with_reducible refine Ob.mk ?_ ?_|(with_reducible first|refine brT fun hzq=>?_|refine brF fun hzq=>?_|refine Br.mk (fun hzq=>?_) fun hzq=>?_)<;>(try simp only[bsl,Qhm,bne_iff_ne,bs2]at hzq)<;>(try contradiction)<;>try (exfalso;omega))
 repeat revert hzq
 exact Wr.o wr
 all_goals fail):K:=g ⟨r⟩
theorem xW {K R S:Prop}(r:R)(s:S)(g:Wr R->Wr S->K:=by
 intro wr ws
 repeat' (first|with_reducible refine Sq.go ?_|((with_reducible refine Ev.mk ?_);conv=>whnf)|with_reducible refine Dr.mk ⟨Kr,Kr⟩ ?_|with_reducible refine obG ?_|with_reducible refine Ob.mk ?_ ?_|(with_reducible first|refine brT fun hzq=>?_|refine brF fun hzq=>?_|refine Br.mk (fun hzq=>?_) fun hzq=>?_)<;>(try simp only[bsl,Qhm,bne_iff_ne,bs2]at hzq)<;>(try contradiction)<;>try (exfalso;omega))
 .repeat revert hzq
  exact Wr.o wr
 .repeat revert hzq
  exact Wr.o ws
 all_goals fail):K:=g ⟨r⟩ ⟨s⟩
theorem gS {K R:Prop}(r:R)(g:Wr R->K:=by
 intro wr
 repeat' (first|((with_reducible refine Ev.mk ?_);conv=>whnf)|with_reducible refine Dr.mk ⟨Kr,Kr⟩ ?_|with_reducible refine obG ?_|with_reducible refine Ob.mk ?_ ?_|(with_reducible first|refine brT fun hzq=>?_|refine brF fun hzq=>?_|refine Br.mk (fun hzq=>?_) fun hzq=>?_)<;>(try simp only[bsl,Qhm,bne_iff_ne,bs2]at hzq)<;>(try contradiction)<;>try (exfalso;omega))
 repeat revert hzq
 exact Wr.o wr
 all_goals fail):K:=g ⟨r⟩
theorem xS {K R S:Prop}(r:R)(s:S)(g:Wr R->Wr S->K:=by
 intro wr ws
 repeat' (first|((with_reducible refine Ev.mk ?_);conv=>whnf)|with_reducible refine Dr.mk ⟨Kr,Kr⟩ ?_|with_reducible refine obG ?_|with_reducible refine Ob.mk ?_ ?_|(with_reducible first|refine brT fun hzq=>?_|refine brF fun hzq=>?_|refine Br.mk (fun hzq=>?_) fun hzq=>?_)<;>(try simp only[bsl,Qhm,bne_iff_ne,bs2]at hzq)<;>(try contradiction)<;>try (exfalso;omega))
 .repeat revert hzq
  exact Wr.o wr
 .repeat revert hzq
  exact Wr.o ws
 all_goals fail):K:=g ⟨r⟩ ⟨s⟩
theorem gP {K R:Prop}(r:R)(g:Wr R->K:=by
 intro wr
 repeat' (first|with_reducible refine Sq.go ?_|((with_reducible refine Ev.mk ?_);conv=>whnf)|with_reducible refine Dr.mk ⟨Kr,Kr⟩ ?_|with_reducible refine obH ?_|with_reducible refine Ob.mk ?_ ?_|(with_reducible first|refine brU fun hzq=>?_|refine brV fun hzq=>?_|refine Br.mk (fun hzq=>?_) fun hzq=>?_)<;>(try simp only[bsl,Qhm,bne_iff_ne,bs2,bbq]at hzq)<;>(try contradiction)<;>try (exfalso;omega))
 repeat revert hzq
 exact Wr.o wr
 all_goals fail):K:=g ⟨r⟩
theorem xP {K R S:Prop}(r:R)(s:S)(g:Wr R->Wr S->K:=by
 intro wr ws
 repeat' (first|with_reducible refine Sq.go ?_|((with_reducible refine Ev.mk ?_);conv=>whnf)|with_reducible refine Dr.mk ⟨Kr,Kr⟩ ?_|with_reducible refine obH ?_|with_reducible refine Ob.mk ?_ ?_|(with_reducible first|refine brU fun hzq=>?_|refine brV fun hzq=>?_|refine Br.mk (fun hzq=>?_) fun hzq=>?_)<;>(try simp only[bsl,Qhm,bne_iff_ne,bs2,bbq]at hzq)<;>(try contradiction)<;>try (exfalso;omega))
 .repeat revert hzq
  exact Wr.o wr
 .repeat revert hzq
  exact Wr.o ws
 all_goals fail):K:=g ⟨r⟩ ⟨s⟩
theorem lq {p:Prop}(h:p:=by
 (try dsimp only)
 repeat' (first|exact Tt|exact rfl|exact Qgx _|refine And.intro ?_ ?_)
 all_goals (intro i hi)
 all_goals first
  |exact⟨rfl,rfl⟩
  |exact⟨rfl,fun _=>⟨rfl,rfl⟩⟩
  |exact absurd hi (Qhh i)
  |(obtain rfl:i=0:=Qi1.1 hi;exact⟨rfl,rfl⟩)
  |exact⟨rowsOf_join' _ _ _ rfl i hi,rfl⟩
  |exact⟨rowsOf_catD _ _ _ rfl i,rfl⟩
  |exact⟨H8 _ _ rfl i hi,rfl⟩
  |exact⟨B5 _ _ rfl i hi,rfl⟩
 all_goals fail):p:=h
theorem stp {S:Type}{A B C:S->Prop}(s:S)(c:C s)(a:A s:=by dsimp only;omega)(b:B s:=by dsimp only;omega):∃s,A s/\B s/\C s:=⟨s,a,b,c⟩
abbrev di (n : Int) : D := .int .i64 n
abbrev dV (n : Int) : AV := .d (.int .i64 n)
abbrev lp (n : Nat) : AV := .ptr (.loc n) 0 0 0
abbrev ap (n : Nat) : AV := .ptr (.arg n) 0 0 0
abbrev bX (t : TypeId) (c : List AV) : Option Blk := some (.box t c)
abbrev bV (t : TypeId) (e g n : Nat) (f : Nat → List AV) : Option Blk := some (.vec t e g n f)
set_option maxRecDepth 100000
inductive Q1 where
 |mk (op course:Int) (name:ByteArray) (n d:Int) (kids:List Q1)
instance:Inhabited Q1:=⟨.mk 0 0 .empty 0 0 []⟩
def Q1.op:Q1->Int
 | .mk a _ _ _ _ _=>a
def Q1.course:Q1->Int
 | .mk _ a _ _ _ _=>a
def Q1.name:Q1->ByteArray
 | .mk _ _ a _ _ _=>a
def Q1.n:Q1->Int
 | .mk _ _ _ a _ _=>a
def Q1.d:Q1->Int
 | .mk _ _ _ _ a _=>a
def Q1.kids:Q1->List Q1
 | .mk _ _ _ _ _ a=>a
def Pn:List D:=[di 0,di 0,.str .empty,di 0,di 0,.sl 6 0 fun _=>[]]
mutual
def Uo:List Q1->Nat->List D
 |[]=>fun _=>[]
 |r::rs=>fun i=>(Pv r::Kt rs).getD i Pn
def Pv:Q1->List D
 | .mk a b c d e ks=>[di a,di b,.str c,di d,di e,.sl 6 ks.length (Uo ks)]
def Kt:List Q1->List (List D)
 |[]=>[]
 |r::rs=>Pv r::Kt rs
end
def J0 (ks:List Q1):D:=.sl 6 ks.length (Uo ks)
def Q2 (r:Q1):List D:=[di r.op,di r.course,.str r.name,di r.n,di r.d,J0 r.kids]
theorem Q7s (r:Q1):Pv r=Q2 r:=by
 cases r
 rw[Pv]
 rfl
theorem Q7t:Q2 default=Pn:=by
 show[di 0,di 0,D.str .empty,di 0,di 0,D.sl 6 0 (Uo [])]=Pn
 rw[Uo]
 rfl
theorem Ov:∀(ks:List Q1) (i:Nat),(Kt ks).getD i Pn=Q2 (ks.getD i default)
 |[],i=>by rw[Kt];exact Q7t.symm
 |r::rs,0=>by rw[Kt];exact Q7s r
 |r::rs,i+1=>by rw[Kt];exact Ov rs i
theorem Ow:J0 []=.sl 6 0 fun _=>[]:=by
 unfold J0
 rw[Uo]
 rfl
theorem Ri {ks:List Q1}(h:ks≠[]):Uo ks=fun i=>Q2 (ks.getD i default):=by
 cases ks with
 |nil=>exact absurd rfl h
 | cons r rs =>
   rw[Uo]
   funext i
   have:=Ov (r::rs) i
   rwa [Kt]at this
theorem Gk {ks:List Q1}(h:ks≠[]):J0 ks=.sl 6 ks.length fun i=>Q2 (ks.getD i default):=by
 unfold J0
 rw[Ri h]
theorem Y4 {motive:Q1->Prop}(h:∀r:Q1,(∀k∈r.kids,motive k)->motive r):∀r,motive r:=by
 intro r
 refine Q1.rec (motive_1:=motive) (motive_2:=fun ks=>∀k∈ks,motive k) (fun a b c d e ks ih=>h _ ih) (fun k hk=>by simp at hk) (fun k ks hk hks x hx=>?_) r
 rcases Qho.1 hx with rfl|hx
 .exact hk
 .exact hks x hx
mutual
def Jm (d:Nat):Q1->List (Nat × Q1)
 | .mk a b c n e ks=>(d,.mk a b c n e ks)::Vt (d+1) ks
def Vt (d:Nat):List Q1->List (Nat × Q1)
 |[]=>[]
 |k::ks=>Jm d k++Vt d ks
end
theorem Xq (d:Nat)(r:Q1):Jm d r=(d,r)::Vt (d+1) r.kids:=by
 cases r
 rw[Jm]
 rfl
theorem H4 (d:Nat)(k:Q1)(ks:List Q1):Vt d (k::ks)=Jm d k++Vt d ks:=by rw[Vt]
theorem Ub (d:Nat):Vt d []=[]:=by rw[Vt]
mutual
def Jj:Q1->Nat
 | .mk _ _ _ _ _ ks=>Z9 ks+1
def Z9:List Q1->Nat
 |[]=>0
 |k::ks=>Jj k+Z9 ks
end
mutual
def Xa:Q1->Nat
 | .mk _ _ _ _ _ ks=>Zy ks+1
def Zy:List Q1->Nat
 |[]=>0
 |k::ks=>max (Xa k) (Zy ks)
end
theorem Gg (r:Q1):Jj r=Z9 r.kids+1:=by cases r;rw[Jj];rfl
theorem Wk (k:Q1)(ks:List Q1):Z9 (k::ks)=Jj k+Z9 ks:=by rw[Z9]
theorem Ho:Z9 []=0:=by rw[Z9]
theorem Ta (r:Q1):Xa r=Zy r.kids+1:=by cases r;rw[Xa];rfl
theorem Rf (k:Q1)(ks:List Q1):Zy (k::ks)=max (Xa k) (Zy ks):=by rw[Zy]
theorem Rg:Zy []=0:=by rw[Zy]
end Go.Proofs.YtmlhghddfobmmaaGreatDoor
namespace Go.Proofs.YtmlhghddfobmmaaGreatDoor
set_option linter.unusedSimpArgs false
set_option linter.unusedVariables false
open Go Go.Ab
set_option maxRecDepth 100000
def bw (n lo hi:Int):Bool:=decide (lo<=n)&&decide (n<=hi)
def Ww (num den:Int):Int:=if den<1\/1073741824<den\/num < -1073741824\/1073741824<num\/Nat.gcd num.natAbs den.natAbs≠1 then 50 else 0
def V2 (num den:Int):Bool:=decide (Ww num den=0)&&bw num 0 (12*den)
def W2 (c:Int):Bool:=bw c 0 4095
def Zn (r:Q1):Bool :=
 if r.op=1 then true
 else if r.op=2 then true
 else if r.op=3 then bw r.n 0 200
 else if r.op=4 then decide (r.kids.length=1)
 else if r.op=5 then W2 r.course&&bw r.n 0 12
 else if r.op=6 then W2 r.course&&bw r.n 1 100
 else if r.op=7 then bw r.n 0 10000
 else if r.op=8 then V2 r.n r.d
 else W2 r.course
def Jg (r:Q1):Bool:=decide (r.op=5)||(decide (r.op=6)||decide (r.op=9))
def Jl (r:Q1):Bool:=decide (r.op=3)||(decide (r.op=5)||(decide (r.op=6)||(decide (r.op=7)||decide (r.op=8))))
def Qs (r:Q1):Bool :=
 bw r.op 1 9&&((Jg r||decide (r.course=0))&&((Jl r||decide (r.n=0))&&((decide (r.op=8)||decide (r.d=0))&&((bw r.op 1 4||r.kids.isEmpty)&&Zn r))))
def Wi (r:Q1):Bool:=(Jm 1 r).all fun p=>Qs p.2
theorem Qdg:∀(ks:List Q1) (d:Nat),(Vt d ks).length=Z9 ks:=by
 have h:∀r:Q1,∀d,(Jm d r).length=Jj r:=by
  refine Y4 fun r ih d=>?_
  have key:∀ks:List Q1,(∀k∈ks,∀d,(Jm d k).length=Jj k)->∀d,(Vt d ks).length=Z9 ks:=by
   intro ks
   induction ks with
   |nil=>intro _ d;rw[Ub,Ho];rfl
   | cons k ks ihk =>
     intro h d
     rw[H4,Wk,Qhc,h k (by simp),ihk (fun x hx=>h x (by simp[hx]))]
  rw[Xq,Gg,Qhs,key r.kids ih]
 intro ks
 induction ks with
 |nil=>intro d;rw[Ub,Ho];rfl
 |cons k ks ihk=>intro d;rw[H4,Wk,Qhc,h k,ihk]
theorem Qdi (r:Q1)(d:Nat):(Jm d r).length=Jj r:=by
 rw[Xq,Gg,Qhs,Qdg]
theorem Qdh:∀r:Q1,∀d,(∀p∈Jm d r,p.1+1<=d+Xa r)/\∃p∈Jm d r,p.1+1=d+Xa r:=by
 refine Y4 fun r ih d=>?_
 have key:∀ ks:List Q1,(∀ k∈ks,∀ d,(∀ p∈Jm d k,p.1 + 1≤d + Xa k)∧∃ p∈Jm d k,p.1 + 1=d + Xa k)→∀ d,(∀ p∈Vt d ks,p.1 + 1≤d + Zy ks)∧(ks≠[]→∃ p∈Vt d ks,p.1 + 1=d + Zy ks):=by
  intro ks
  induction ks with
  |nil=>intro _ d;exact⟨fun p hp=>by rw[Ub]at hp;simp at hp,fun h=>absurd rfl h⟩
  | cons k ks ihk =>
    intro h d
    obtain⟨a1,p1,a2,a3⟩:=h k (by simp) d
    obtain⟨b1,b2⟩:=ihk (fun x hx=>h x (by simp[hx])) d
    rw[H4,Rf]
    refine⟨fun p hp=>?_,fun _=>?_⟩
    .rcases Qi7.1 hp with hp|hp
     .have:=a1 p hp;omega
     .have:=b1 p hp;omega
    .by_cases hle:Zy ks<=Xa k
     .exact⟨p1,List.mem_append_left _ a2,Om⟩
     .have hne:ks≠[]:=fun e=>by rw[e,Rg]at hle;omega
      obtain⟨p2,c1,c2⟩:=b2 hne
      exact⟨p2,List.mem_append_right _ c1,Om⟩
 obtain⟨k1,k2⟩:=key r.kids ih (d+1)
 rw[Xq,Ta]
 refine⟨fun p hp=>?_,?_⟩
 .rcases Qho.1 hp with rfl|hp
  .show d+1<=_;omega
  .have:=k1 p hp;omega
 .by_cases hk:r.kids=[]
  .refine⟨(d,r),List.mem_cons_self ..,?_⟩
   rw[hk,Rg]
  .obtain⟨p,h1,h2⟩:=k2 hk
   exact⟨p,List.mem_cons_of_mem _ h1,Om⟩
def Gf (r:Q1):Int:=if Jj r<=200/\Xa r<=16/\Wi r=true then 0 else 120
end Go.Proofs.YtmlhghddfobmmaaGreatDoor
namespace Go.Ab
set_option linter.unusedSimpArgs false
set_option linter.unusedVariables false
section
variable {P:Program}{T:Tab}{N:Nat}{w:World}{F:Nat->Prop}{σ:Pls}{m:Mem}{env:Env}{K:AV->Mem->Prop}{o:Oper}
theorem wrap_u64 (n:Int):IntKind.u64.wrap n=n % 18446744073709551616:=by
 simp[IntKind.wrap,IntKind.bits,IntKind.signed]
theorem Fh {s t:TypeId}{x:Operand}(hop:o.op=.convert s t x){k:IntKind}(hs:P.underlying s=some (.int k))(ht:P.underlying t=some (.int .u64)){n:Int}(hx:ev env x=.d (.int k n))(hK:K (.d (.int .u64 (n % 18446744073709551616))) m):Ym P o env m K :=
 ⟨fun c h=>(by rw [hop] at h;cases h),fun a w F σ hev hm=>by
  have hv:=Z5 hev x
  rw[hx]at hv
  have hv:=hv.int
  refine⟨_,.int .u64 (n % 18446744073709551616),w,σ,F,_,_,?_,.inl rfl,hK,.d .int,hm,Step.refl σ F w,SLe.refl σ⟩
  simp[execOp,hop,hv,convert,run_underlying hs,run_underlying ht,Conv.intToInt,wrap_u64]⟩
theorem Q2q {t:TypeId}{x:Operand}(hop:o.op=.unOp .neg t x){n:Int}(hx:ev env x=.d (.int .u64 n))(hK:K (.d (.int .u64 ((0-n) % 18446744073709551616))) m):Ym P o env m K :=
 ⟨fun c h=>(by rw [hop] at h;cases h),fun a w F σ hev hm=>by
  have hv:=Z5 hev x
  rw[hx]at hv
  have hv:=hv.int
  refine⟨_,.int .u64 ((0-n) % 18446744073709551616),w,σ,F,_,_,?_,.inl rfl,hK,.d .int,hm,Step.refl σ F w,SLe.refl σ⟩
  simp[execOp,hop,hv,Op.unary,Op.intArith,wrap_u64]⟩
theorem H0 {t:TypeId}{g:Nat}{i:Operand}(hop:o.op=.indexAddr t (.global g) i){n sz:Nat}{e:TypeId}(hu:P.underlying t=some (.array n e))(hs:∀w',(sizeOf e).run P w'=.ok sz w')(cs:List D)
 (hcs:∀(j:Nat) d,cs[j]?=some d->∃v,(g,j,v)∈Ro/\(∀w F,Rd w F d v)/\v.oneCell'=true) {d0:D} (hd0:cs[0]?=some d0) {ki:IntKind} {k:Int} (hi:ev env i=.d (.int ki k)) (h0:0<=k) (h1:k<n) (hK:K (.d (.pt cs (k.toNat*sz))) m):Ym P o env m K :=
 ⟨fun c h=>(by rw [hop] at h;cases h),fun a w F σ hev hm=>by
  have hvi:=Z5 hev i
  rw[hi]at hvi
  have hvi:=hvi.int
  have hgl:=hm.gl
  obtain⟨v0,hv0,_⟩:=hcs 0 d0 hd0
  have hF:=(hgl g 0 v0 hv0).1
  have hx:∀j,∃v,∀d,cs[j]?=some d->(g,j,v)∈Ro/\(∀w F,Rd w F d v)/\v.oneCell'=true:=fun j=>by
   cases hj:cs[j]? with
   |none=>exact⟨undef,fun d h=>by cases h⟩
   | some d =>
     obtain⟨v,hv⟩:=hcs j d hj
     exact⟨v,fun d' h=>by cases h;exact hv⟩
  have hat:∀j:Nat,(⟨g,0,none⟩:Addr).add j=⟨g,j,none⟩:=fun j=>by
   rw[Vh]
   simp
  have hrd:Rd w F (.pt cs (k.toNat*sz)) (.pointer (some ((⟨g,0,none⟩:Addr).add (k.toNat*sz)))):=by
   refine .pt ⟨g,0,none⟩ (fun j=>(hx j).choose) hF (fun j hj=>?_) (fun j d hd=>((hx j).choose_spec d hd).2.1 w F)
   obtain⟨q1,q2,q3⟩:=(hx j).choose_spec _ (Qgy hj)
   rw[hat]
   exact⟨(hgl g j _ q1).2,q3⟩
  refine⟨_,.pointer (some ((⟨g,0,none⟩:Addr).add (k.toNat*sz))),w,σ,F,_,_,?_,.inl rfl,hK,.d hrd,hm,Step.refl σ F w,SLe.refl σ⟩
  have hg0:a.eval (.global g)=.pointer (some ⟨g,0,none⟩):=rfl
  simp[execOp,hop,hg0,hvi,Instr.indexAt,run_underlying hu,asIntOf,h0,h1,hs,Instr.sureAddr]⟩
end
end Go.Ab
namespace Go.Proofs.YtmlhghddfobmmaaGreatDoor
set_option linter.unusedSimpArgs false
set_option linter.unusedVariables false
open Go Go.Ab
set_option maxRecDepth 100000
set_option maxHeartbeats 0
theorem Q4c (n:Int)(hn:In .i64 n):Pure Tryz.prog 238 [di n] [.int .u64 n.natAbs]:=by
 refine Q4 hT (T:=tab) (N:=10) (rs:=[.tmp 2]) Tryz.func238 rfl rfl rfl Kr rfl ?_
 rw[Zz]at hn
 by_cases h:n<0
 ·(refine gW ?_;intros)
  refine Fh rfl rfl rfl rfl ?_
  (refine gW ?_;intros)
  refine Q2q rfl rfl ?_
  (refine gW ?_;intros)
  exact⟨congrArg (D.int .u64) Om,Tt⟩
 ·(refine gW ?_;intros)
  refine Fh rfl rfl rfl rfl ?_
  (refine gW ?_;intros)
  exact⟨congrArg (D.int .u64) Om,Tt⟩
def Aq:Mem:=⟨[],[bX 272 [.fn (.func 237) [] [ap 0]]]⟩
theorem Qfu:∀(y x:Nat),Qz Tryz.prog 237 [.d (.int .u64 x),.d (.int .u64 y),ap 0] ⟨[],[bX 272 [.fn (.func 237) [] [ap 0]]]⟩
 (Ret (fun _:Unit=>([.d (.int .u64 (Nat.gcd x y))],Aq)) fun _=>True):=by
 intro y
 induction y using Nat.strongRecOn with
 |ind y ih =>
 intro x
 refine Zv hT (T:=tab) (N:=15) (rs:=[.tmp 5]) _ _ Tryz.func237 rfl rfl rfl Kr rfl ?_
 by_cases h:y=0
 .subst h
  (refine gW ?_;intros)
  exact⟨(),Tt,by rw[Nat.gcd_zero_right];repeat' (first|exact Tt|exact rfl|exact Qgx _|refine And.intro ?_ ?_),rfl⟩
 .have hI:=ih (x % y) (Nat.mod_lt _ Om) y
  have hg:Nat.gcd y (x % y)=Nat.gcd x y:=by rw[Nat.gcd_comm,<-Nat.gcd_rec,Nat.gcd_comm]
  rw[hg]at hI
  have hmd:((x:Int).tmod (y:Int))=((x % y:Nat):Int):=rfl
  (refine gS ?_;intros)
  refine Sq.go ?_
  (refine gS ?_;intros)
  refine Sq.go ?_
  (refine gS ?_;intros)
  refine Sq.alt (Awp.seq (Awp.eff1 hT (m0:=Aq) (m1:=Aq) (B1:=.d (.int .u64 (Nat.gcd x y))) Kr Kr Kr 5 rfl rfl rfl rfl Kr (fun r=>.inl rfl) (fun r=>.inl rfl) ?_))
  conv=>whnf
  (refine gS ?_;intros)
  refine⟨?_,Ev.mk (Z3 hT _ _ _ _ (Ev.o ?_))⟩
  .conv=>whnf
   (refine gS ?_;intros)
   rw[hmd]
   refine⟨⟨_,[],[ap 0],.inl rfl,hI.at [.arg 0] rfl ⟨rfl,Tt⟩ (fun _ _=>⟨rfl,?_⟩)⟩⟩
   refine Ev.mk ?_
   conv=>whnf
   exact⟨rfl,rfl⟩
  ·(refine gW ?_;intros)
   exact⟨(),Tt,by repeat' (first|exact Tt|exact rfl|exact Qgx _|refine And.intro ?_ ?_),rfl⟩
theorem Q7d (a b:Int)(ha:In .i64 a)(hb:In .i64 b):Pure Tryz.prog 220 [di a,di b] [.int .u64 (Nat.gcd a.natAbs b.natAbs)]:=by
 refine Q4 hT (T:=tab) (N:=13) (rs:=[.tmp 4]) Tryz.func220 rfl rfl rfl Kr rfl ?_
 have hA:=Q4c a ha
 have hB:=Q4c b hb
 have hC:=Qfu b.natAbs a.natAbs
 (refine gS ?_;intros)
 refine Sq.go ?_
 (refine gS ?_;intros)
 refine Sq.go ?_
 (refine gS ?_;intros)
 refine Sq.alt (Awp.seq (Awp.eff1 hT (m0:=⟨[bX 272 [.fn (.func 237) [] [lp 0]]],[]⟩) (m1:=⟨[bX 272 [.fn (.func 237) [] [lp 0]]],[]⟩) (B1:=.d (.int .u64 (Nat.gcd a.natAbs b.natAbs))) Kr Kr Kr 5 rfl rfl rfl rfl Kr (fun r=>.inl rfl) (fun r=>.inl rfl) ?_))
 conv=>whnf
 (refine gS ?_;intros)
 refine qC hA ?_
 (refine gS ?_;intros)
 refine qC hB ?_
 (refine gS ?_;intros)
 refine⟨?_,Ev.mk (Z3 hT _ _ _ _ (Ev.o ?_))⟩
 .conv=>whnf
  (refine gS ?_;intros)
  refine⟨⟨_,[],[lp 0],.inl rfl,hC.at [.loc 0] rfl ⟨rfl,Tt⟩ (fun _ _=>⟨rfl,?_⟩)⟩⟩
  refine Ev.mk ?_
  conv=>whnf
  exact⟨rfl,rfl⟩
 ·(refine gW ?_;intros)
  exact⟨rfl,Tt⟩
theorem O7 (n d:Int)(hn:In .i64 n)(hd:In .i64 d):Pure Tryz.prog 185 [.agg [di n,di d]] [di (Ww n d)]:=by
 refine Q4 hT (T:=tab) (N:=29) (rs:=[.tmp 2]) Tryz.func185 rfl rfl rfl Kr rfl ?_
 have hC:=Q7d n d hn hd
 unfold Ww
 by_cases h1:d<1\/1073741824<d\/n < -1073741824\/1073741824<n
 .rw[if_pos Om]
  (refine gW ?_;intros)
  exact⟨rfl,Tt⟩
 .by_cases h2:Nat.gcd n.natAbs d.natAbs=1
  .rw[if_neg Om]
   have h3:((Nat.gcd n.natAbs d.natAbs:Nat):Int)=1:=by omega
   (refine gW ?_;intros)
   refine hC.call ?_
   (refine gW ?_;intros)
   exact⟨rfl,Tt⟩
  .rw[if_pos Om]
   have h3:¬ ((Nat.gcd n.natAbs d.natAbs:Nat):Int)=1:=by omega
   (refine gW ?_;intros)
   refine hC.call ?_
   (refine gW ?_;intros)
   exact⟨rfl,Tt⟩
theorem Q3y (n:Int)(hn:In .i64 n):Pure Tryz.prog 229 [di n] [.int .u64 n.natAbs]:=by
 refine Q4 hT (T:=tab) (N:=10) (rs:=[.tmp 2]) Tryz.func229 rfl rfl rfl Kr rfl ?_
 rw[Zz]at hn
 by_cases h:n<0
 ·(refine gW ?_;intros)
  refine Fh rfl rfl rfl rfl ?_
  (refine gW ?_;intros)
  refine Q2q rfl rfl ?_
  (refine gW ?_;intros)
  exact⟨congrArg (D.int .u64) Om,Tt⟩
 ·(refine gW ?_;intros)
  refine Fh rfl rfl rfl rfl ?_
  (refine gW ?_;intros)
  exact⟨congrArg (D.int .u64) Om,Tt⟩
theorem Qdu (a b:Nat):Pure Tryz.prog 228 [.int .u64 a,.int .u64 b] [.int .u64 (Nat.gcd a b)]:=by
 refine Q4 hT (T:=tab) (N:=12) (rs:=[.tmp 4]) Tryz.func228 rfl rfl rfl Kr rfl ?_
 (refine gW ?_;intros)
 refine Q7 hT (S:=Nat × Nat) (fun z=>([(0,.d (.int .u64 z.1)),(1,.d (.int .u64 z.2))],⟨[],[]⟩)) (fun z=>Nat.gcd a b=Nat.gcd z.1 z.2) (fun z=>z.2) (a,b) ?_ ?_ ?_
 .exact lq
 .exact rfl
 .rintro⟨x,y⟩ hc
  dsimp only at hc⊢
  by_cases h0:y=0
  .subst h0
   rw[Nat.gcd_zero_right]at hc
   rw[hc]
   (refine gW ?_;intros)
   exact⟨rfl,Tt⟩
  .have hmd:((x:Int).tmod (y:Int))=((x % y:Nat):Int):=rfl
   (refine gW ?_;intros)
   refine⟨(y,x % y),?_,Nat.mod_lt _ Om,?_⟩
   .show _=Nat.gcd y (x % y)
    rw[hc,Nat.gcd_comm y,<-Nat.gcd_rec,Nat.gcd_comm]
   .exact lq
theorem Q3h (n d:Int)(hn:In .i64 n)(hd:In .i64 d):Pure Tryz.prog 200 [.agg [di n,di d]] [di (Ww n d)]:=by
 refine Q4 hT (T:=tab) (N:=31) (rs:=[.tmp 2]) Tryz.func200 rfl rfl rfl Kr rfl ?_
 have hA:=Q3y n hn
 have hB:=Q3y d hd
 have hC:=Qdu n.natAbs d.natAbs
 unfold Ww
 by_cases h1:d<1\/1073741824<d\/n < -1073741824\/1073741824<n
 .rw[if_pos Om]
  (refine gW ?_;intros)
  exact⟨rfl,Tt⟩
 .by_cases h2:Nat.gcd n.natAbs d.natAbs=1
  .rw[if_neg Om]
   have h3:((Nat.gcd n.natAbs d.natAbs:Nat):Int)=1:=by omega
   (refine gW ?_;intros)
   refine qC hA ?_
   (refine gW ?_;intros)
   refine qC hB ?_
   (refine gW ?_;intros)
   refine qC hC ?_
   (refine gW ?_;intros)
   exact⟨rfl,Tt⟩
  .rw[if_pos Om]
   have h3:¬ ((Nat.gcd n.natAbs d.natAbs:Nat):Int)=1:=by omega
   (refine gW ?_;intros)
   refine qC hA ?_
   (refine gW ?_;intros)
   refine qC hB ?_
   (refine gW ?_;intros)
   refine qC hC ?_
   (refine gW ?_;intros)
   exact⟨rfl,Tt⟩
def In1 (r:Q1):Prop:=In .i64 r.op/\In .i64 r.course/\In .i64 r.n/\In .i64 r.d/\r.kids.length<9223372036854775808
theorem Yk (n lo hi:Int):Pure Tryz.prog 219 [di n,di lo,di hi] [.bool (bw n lo hi)]:=by
 refine Q4 hT (T:=tab) (N:=15) (rs:=[.tmp 6]) Tryz.func219 rfl rfl rfl Kr rfl ?_
 by_cases h1:lo<=n<;>by_cases h2:n<=hi<;>((refine gW ?_;intros))<;>(refine⟨congrArg D.bool ?_,Tt⟩)<;>simp[bw,h1,h2]
theorem Pf {n d:Int}(h:Ww n d=0):1<=d/\d<=1073741824/\-1073741824<=n/\n<=1073741824:=by
 unfold Ww at h
 split at h
 .cases h
 .omega
theorem Qbo (n d:Int)(hn:In .i64 n)(hd:In .i64 d):Pure Tryz.prog 277 [.agg [di n,di d]] [.bool (V2 n d)]:=by
 refine Q4 hT (T:=tab) (N:=19) (rs:=[.tmp 2]) Tryz.func277 rfl rfl rfl Kr rfl ?_
 have hC:=O7 n d hn hd
 by_cases h0:Ww n d=0
 .have h1:=Pf h0
  rw[h0]at hC
  have hM:V2 n d=(decide (0<=n)&&decide (n<=12*d)):=by simp[V2,bw,h0]
  rw[hM]
  by_cases h2:0<=n<;>by_cases h3:n<=12*d
  ·(refine gW ?_;intros)
   refine hC.call ?_
   (refine gW ?_;intros)
   refine⟨congrArg D.bool ?_,Tt⟩
   simp[h2,h3]
  ·(refine gW ?_;intros)
   refine hC.call ?_
   (refine gW ?_;intros)
   refine⟨congrArg D.bool ?_,Tt⟩
   simp[h2,h3]
  ·(refine gW ?_;intros)
   refine hC.call ?_
   (refine gW ?_;intros)
   refine⟨congrArg D.bool ?_,Tt⟩
   simp[h2,h3]
  ·(refine gW ?_;intros)
   refine hC.call ?_
   (refine gW ?_;intros)
   refine⟨congrArg D.bool ?_,Tt⟩
   simp[h2,h3]
 ·(refine gW ?_;intros)
  refine hC.call ?_
  (refine gW ?_;intros)
  refine⟨congrArg D.bool ?_,Tt⟩
  simp[V2,h0]
theorem T7 (r:Q1):Pure Tryz.prog 269 [.agg (Q2 r)] [.bool (W2 r.course)]:=by
 refine Q4 hT (T:=tab) (N:=6) (rs:=[.tmp 2]) Tryz.func269 rfl rfl rfl Kr rfl ?_
 (refine gW ?_;intros)
 refine(Yk r.course 0 4095).call ?_
 (refine gW ?_;intros)
 exact⟨rfl,Tt⟩
theorem Qen (r:Q1):Pure Tryz.prog 260 [.agg (Q2 r)] [.bool true]:=by
 refine Q4 hT (T:=tab) (N:=3) (rs:=[.tmp 2]) Tryz.func260 rfl rfl rfl Kr rfl ?_
 (refine gW ?_;intros)
 exact⟨rfl,Tt⟩
theorem Qeo (r:Q1):Pure Tryz.prog 262 [.agg (Q2 r)] [.bool true]:=by
 refine Q4 hT (T:=tab) (N:=3) (rs:=[.tmp 2]) Tryz.func262 rfl rfl rfl Kr rfl ?_
 (refine gW ?_;intros)
 exact⟨rfl,Tt⟩
theorem Qep (r:Q1):Pure Tryz.prog 264 [.agg (Q2 r)] [.bool (bw r.n 0 200)]:=by
 refine Q4 hT (T:=tab) (N:=6) (rs:=[.tmp 2]) Tryz.func264 rfl rfl rfl Kr rfl ?_
 (refine gW ?_;intros)
 refine(Yk r.n 0 200).call ?_
 (refine gW ?_;intros)
 exact⟨rfl,Tt⟩
theorem Qeq (r:Q1):Pure Tryz.prog 266 [.agg (Q2 r)] [.bool (decide (r.kids.length=1))]:=by
 refine Q4 hT (T:=tab) (N:=7) (rs:=[.tmp 2]) Tryz.func266 rfl rfl rfl Kr rfl ?_
 (refine gW ?_;intros)
 refine⟨congrArg D.bool ?_,Tt⟩
 exact decide_eq_decide.2 Om
theorem Qer (r:Q1):Pure Tryz.prog 268 [.agg (Q2 r)] [.bool (W2 r.course&&bw r.n 0 12)]:=by
 have hC:=T7 r
 refine Q4 hT (T:=tab) (N:=10) (rs:=[.tmp 2]) Tryz.func268 rfl rfl rfl Kr rfl ?_
 cases h:W2 r.course<;>rw[h]at hC
 ·(refine gW ?_;intros)
  refine hC.call ?_
  (refine gW ?_;intros)
  exact⟨rfl,Tt⟩
 ·(refine gW ?_;intros)
  refine hC.call ?_
  (refine gW ?_;intros)
  refine(Yk r.n 0 12).call ?_
  (refine gW ?_;intros)
  exact⟨rfl,Tt⟩
theorem Qes (r:Q1):Pure Tryz.prog 272 [.agg (Q2 r)] [.bool (W2 r.course&&bw r.n 1 100)]:=by
 have hC:=T7 r
 refine Q4 hT (T:=tab) (N:=10) (rs:=[.tmp 2]) Tryz.func272 rfl rfl rfl Kr rfl ?_
 cases h:W2 r.course<;>rw[h]at hC
 ·(refine gW ?_;intros)
  refine hC.call ?_
  (refine gW ?_;intros)
  exact⟨rfl,Tt⟩
 ·(refine gW ?_;intros)
  refine hC.call ?_
  (refine gW ?_;intros)
  refine(Yk r.n 1 100).call ?_
  (refine gW ?_;intros)
  exact⟨rfl,Tt⟩
theorem Qet (r:Q1):Pure Tryz.prog 274 [.agg (Q2 r)] [.bool (bw r.n 0 10000)]:=by
 refine Q4 hT (T:=tab) (N:=6) (rs:=[.tmp 2]) Tryz.func274 rfl rfl rfl Kr rfl ?_
 (refine gW ?_;intros)
 refine(Yk r.n 0 10000).call ?_
 (refine gW ?_;intros)
 exact⟨rfl,Tt⟩
theorem Qeu (r:Q1)(hn:In .i64 r.n)(hd:In .i64 r.d):Pure Tryz.prog 276 [.agg (Q2 r)] [.bool (V2 r.n r.d)]:=by
 refine Q4 hT (T:=tab) (N:=9) (rs:=[.tmp 2]) Tryz.func276 rfl rfl rfl Kr rfl ?_
 (refine gW ?_;intros)
 refine(Qbo r.n r.d hn hd).call ?_
 (refine gW ?_;intros)
 exact⟨rfl,Tt⟩
end Go.Proofs.YtmlhghddfobmmaaGreatDoor
