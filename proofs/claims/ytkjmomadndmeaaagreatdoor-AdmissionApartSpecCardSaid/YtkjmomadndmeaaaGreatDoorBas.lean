import Derived.Test.YtkjmomadndmeaaaGreatDoorTab
import Derived.Test.YtkjmomadndmeaaaGreatDoorEngAS
namespace Go.Proofs.YtkjmomadndmeaaaGreatDoor
set_option linter.unusedSimpArgs false
set_option linter.unusedVariables false
open Go Go.Ab
theorem bsl:(∀(p:Prop) (x:Decidable p),(@decide p x=true)=p)/\(∀(p:Prop) (x:Decidable p),(@decide p x=false)=¬p)/\(∀a b:Bool,((a&&b)=true)=(a=true/\b=true))/\(∀a b:Bool,((a||b)=true)=(a=true\/b=true))/\(∀b:Bool,((!b)=true)=(b=false))/\(∀b:Bool,((!b)=false)=(b=true)) /\
 (∀x y:Bool,((x&&y)=false)=(x=false\/y=false))/\(∀x y:Bool,((x||y)=false)=(x=false/\y=false))/\(∀c f:Bool,(bif c then true else f)=(c||f))/\(∀c f:Bool,(bif c then f else false)=(c&&f))/\(∀c f:Bool,(bif c then false else f)=(!c&&f))/\(∀c f:Bool,(bif c then f else true)=(!c||f))/\(!true)=false/\(!false)=true/\(true=false)=False/\(false=true)=False /\
 (∀n:Nat,(n:Int).toNat=n)/\(∀a b:Int,(¬a<=b)=(b<a))/\(∀a b:Int,(¬a<b)=(b<=a))/\(∀b:Bool,(b&&true)=b)/\(∀b:Bool,(true&&b)=b)/\(∀b:Bool,(b||false)=b)/\(∀b:Bool,(false||b)=b)/\(∀b:Bool,(b&&false)=false)/\(∀b:Bool,(false&&b)=false)/\(∀b:Bool,(b||true)=true)/\(∀b:Bool,(true||b)=true) /\
 (∀p q:Prop,(¬(p\/q))=(¬p/\¬q))/\(∀a b:Prop,(¬(a/\b))=(a->¬b)):=by
 refine⟨fun p x=>propext (by simp),fun p x=>propext (by simp),?_,?_,?_,?_,?_,?_,?_,?_,?_,?_,rfl,rfl,by simp,by simp,fun n=>by simp,fun a b=>propext Int.not_le,fun a b=>propext Int.not_lt,?_,?_,?_,?_,?_,?_,?_,?_,fun p q=>propext not_or,fun a b=>propext not_and⟩<;>simp
theorem bs2:(¬True)=False/\(¬False)=True/\(∀p:Prop,(False\/p)=p)/\(∀p:Prop,(p\/False)=p)/\(∀p:Prop,(True/\p)=p)/\(∀p:Prop,(p/\True)=p):=by
 refine⟨?_,?_,?_,?_,?_,?_⟩<;>simp
theorem bbq:(false==true)=false/\(true==false)=false/\(true==true)=true/\(false==false)=true:=⟨rfl,rfl,rfl,rfl⟩
theorem in64 {n:Int}:In .i64 n↔-9223372036854775808<=n/\n<=9223372036854775807:=by
 simp[In,IntKind.min,IntKind.max,IntKind.signed,IntKind.bits]
theorem obG {p K:Prop}(k:K)(h:p:=by(first|exact rfl|assumption|omega|(intro h0;simp only[h0];with_unfolding_all exact rfl)|(intro h1 h0;simp only[h0];with_unfolding_all exact rfl)|(intros;first|assumption|(with_unfolding_all exact rfl)|omega|(simp only[oadd_eq,Int.toNat_natCast]<;>omega)|(simp only[in64,List.length_nil,List.length_cons]<;>omega)|(simp only[bsl,beq_iff_eq,bne_iff_ne,in64]at * <;> omega)|((try simp only[Int.toNat_natCast]);exact Nat.le_trans (Nat.mul_le_mul_right _ (show _<=2000000 by omega)) (by with_unfolding_all decide))|(simp_all<;>fail)))):Ob p K:=⟨h,k⟩
theorem obH {p K:Prop}(k:K)(h:p:=by(first|exact rfl|assumption|omega|(intro h0;simp only[h0];with_unfolding_all exact rfl)|(intro h1 h0;simp only[h0];with_unfolding_all exact rfl)|(intros;first|assumption|(with_unfolding_all exact rfl)|omega|(simp only[oadd_eq,Int.toNat_natCast]<;>omega)|(simp only[in64,List.length_nil,List.length_cons]<;>omega)|(simp only[bsl,beq_iff_eq,bne_iff_ne,in64]at * <;> omega)|(simp only[bsl,beq_iff_eq,bne_iff_ne,bbq,not_true_eq_false,not_false_eq_true,true_and,and_true,true_or,or_true]<;>omega)|((try simp only[Int.toNat_natCast]);exact Nat.le_trans (Nat.mul_le_mul_right _ (show _<=2000000 by omega)) (by with_unfolding_all decide))|(simp_all<;>fail)))):Ob p K:=⟨h,k⟩
theorem brT {b:Bool}{x y:Prop}(k:b=true->x)(h:b=false->False:=by(intro h;(try simp only[bsl,beq_iff_eq,bne_iff_ne]at h)<;>(try simp only[bs2]at h)<;>(try exact absurd h Dc)<;>(try contradiction)<;>(try (exfalso;omega))<;>(simp only[bs2,or_self,eq_self,Int.reduceEq,reduceCtorEq]at h<;>fail))):Br b x y:=⟨k,fun e=>(h e).elim⟩
theorem brF {b:Bool}{x y:Prop}(k:b=false->y)(h:b=true->False:=by(intro h;(try simp only[bsl,beq_iff_eq,bne_iff_ne]at h)<;>(try simp only[bs2]at h)<;>(try exact absurd h Dc)<;>(try contradiction)<;>(try (exfalso;omega))<;>(simp only[bs2,or_self,eq_self,Int.reduceEq,reduceCtorEq]at h<;>fail))):Br b x y:=⟨fun e=>(h e).elim,k⟩
theorem brU {b:Bool}{x y:Prop}(k:b=true->x)(h:b=false->False:=by(intro h;(try simp only[bsl,beq_iff_eq,bne_iff_ne,bbq]at h)<;>(try simp only[bs2,bbq]at h)<;>(try exact absurd h Dc)<;>(try contradiction)<;>(try (exfalso;omega))<;>(simp only[bs2,bbq,or_self,eq_self,Int.reduceEq,reduceCtorEq]at h<;>fail))):Br b x y:=⟨k,fun e=>(h e).elim⟩
theorem brV {b:Bool}{x y:Prop}(k:b=false->y)(h:b=true->False:=by(intro h;(try simp only[bsl,beq_iff_eq,bne_iff_ne,bbq]at h)<;>(try simp only[bs2,bbq]at h)<;>(try exact absurd h Dc)<;>(try contradiction)<;>(try (exfalso;omega))<;>(simp only[bs2,bbq,or_self,eq_self,Int.reduceEq,reduceCtorEq]at h<;>fail))):Br b x y:=⟨fun e=>(h e).elim,k⟩
theorem drop_at {α:Type}[Inhabited α]{xs:List α}{k:Nat}(h:k<xs.length):xs.drop k=xs.getD k default::xs.drop (k+1):=by
 rw[List.drop_eq_getElem_cons h]
 simp[h]
theorem nf {b:Bool}(h:b=true):¬ b=false:=by rw[h];simp
theorem drop_end {α:Type}{xs:List α}{k:Nat}(h:xs.length<=k):xs.drop k=[]:=List.drop_of_length_le h
theorem getD_mem {α:Type}[Inhabited α]{xs:List α}{k:Nat}(h:k<xs.length):xs.getD k default∈xs:=by
 simp[List.getD_eq_getElem?_getD,h]
theorem take_succ_at {α:Type}[Inhabited α]{xs:List α}{k:Nat}(h:k<xs.length):xs.take (k+1)=xs.take k++[xs.getD k default]:=by
 rw[List.take_add_one]
 simp[h]
theorem getD_append_left {α:Type}{xs ys:List α}{k:Nat}{d:α}(h:k<xs.length):(xs++ys).getD k d=xs.getD k d:=by
 simp[List.getD_eq_getElem?_getD,List.getElem?_append_left h]
theorem getD_append_right {α:Type}{xs ys:List α}{k:Nat}{d:α}(h:xs.length<=k):(xs++ys).getD k d=ys.getD (k-xs.length) d:=by
 simp[List.getD_eq_getElem?_getD,List.getElem?_append_right h]
section
variable {P:Program}{f:FuncId}{args:List D}{m:Mem}{K:AV->Mem->Prop}{b:Bool}{i:IntKind}{n:Int}
theorem callB (h:Pure P f args [.bool b])(hf:b=false->K (.d (.bool false)) m)(ht:b=true->K (.d (.bool true)) m):CallVC P f (up args) m K:=by
 cases b
 .exact h.call (hf rfl)
 .exact h.call (ht rfl)
theorem callZ (h:Pure P f args [.int i n])(hz:n=0->K (.d (.int i 0)) m)(hn:n≠0->K (.d (.int i n)) m):CallVC P f (up args) m K:=by
 by_cases e:n=0
 .subst e;exact h.call (hz rfl)
 .exact h.call (hn e)
theorem loanB {us:List AV}(h:Pure P f args [.bool b])(ha:BecL m us args)(hf:b=false->K (.d (.bool false)) m)(ht:b=true->K (.d (.bool true)) m):CallVC P f us m K:=by
 cases b
 .exact h.loan rfl ha (hf rfl)
 .exact h.loan rfl ha (ht rfl)
theorem qB {Q:AV->Prop}(h:Pure P f args [.bool b])(hf:b=false->Q (.d (.bool false)))(ht:b=true->Q (.d (.bool true))):QCall P (.d (.fn (.func f) [] [])) (up args) Q:=by
 cases b
 .exact⟨_,[],[],args,[.bool false],rfl,rfl,by simpa using h,hf rfl⟩
 .exact⟨_,[],[],args,[.bool true],rfl,rfl,by simpa using h,ht rfl⟩
theorem qI {Q:AV->Prop}(h:Pure P f args [.int i n])(hk:Q (.d (.int i n))):QCall P (.d (.fn (.func f) [] [])) (up args) Q :=
 ⟨_,[],[],args,[.int i n],rfl,rfl,by simpa using h,hk⟩
theorem qC {Q:AV->Prop}{res:List D}(h:Pure P f args res)(hk:Q (resAV res)):QCall P (.d (.fn (.func f) [] [])) (up args) Q :=
 ⟨_,[],[],args,res,rfl,rfl,by simpa using h,hk⟩
end
theorem toNat_pred (k:Nat):((k:Int)-1).toNat=k-1:=by omega
theorem joinF_lt {n j:Nat}{f h:Nat->List AV}(hj:j<n):joinF n f h j=f j:=by
 have:Nat.blt j n=true:=Nat.ble_eq_true_of_le hj
 simp only[joinF,this,cond_true]
theorem joinF_ge {n j:Nat}{f h:Nat->List AV}(hj:n<=j):joinF n f h j=h (j-n):=by
 have:Nat.blt j n=false:=by
  cases e:Nat.blt j n with
  |false=>rfl
  |true=>exact absurd (Nat.le_of_ble_eq_true e:j+1<=n) Om
 simp only[joinF,this,cond_false]
theorem join_snoc {α:Type}[Inhabited α](e:α->List D)(acc:List α)(b:α)(h:Nat->List AV)(hb:h 0=up (e b))(i:Nat)(hi:i<(acc++[b]).length) :
 joinF acc.length (fun i=>up (e (acc.getD i default))) h i=up (e ((acc++[b]).getD i default)):=by
 rw[List.length_append]at hi
 by_cases h1:i<acc.length
 .rw[joinF_lt h1,getD_append_left h1]
 .have h2:i=acc.length:=by simp at hi;omega
  subst h2
  rw[joinF_ge (Nat.le_refl _),getD_append_right (Nat.le_refl _),Nat.sub_self,hb]
  rfl
theorem len_snoc {α:Type}(acc:List α)(b:α):(acc++[b]).length=acc.length+1:=by rw[List.length_append];rfl
def eInts (xs:List Int):D:=.sl 1 xs.length fun i=>[.int .i64 (xs.getD i default)]
def ix {α:Type}(p:α->Bool):List α->Int->Int
 |[],_=>-1
 |s::r,k=>if p s then k else ix p r (k+1)
theorem ix_ge {α:Type}(p:α->Bool):∀(xs:List α) (k:Int),0<=k->(decide (0<=ix p xs k))=xs.any p
 |[],k,_=>by simp[ix]
 | s :: r,k,h=>by
   by_cases hp:p s=true
   .simp[ix,hp,h]
   .simp only[ix,hp,if_false,List.any_cons,Bool.false_or]
    exact ix_ge p r (k+1) Om
theorem any_mem {α:Type}[DecidableEq α](v:α):∀xs:List α,(xs.any fun s=>decide (v=s))=decide (v∈xs)
 |[]=>rfl
 | x :: r=>by
   rw[List.any_cons,any_mem v r]
   exact Bool.eq_iff_iff.2 (by simp)
theorem ix_lt {α:Type}(p:α->Bool):∀(xs:List α) (k:Int),0<=k->ix p xs k<k+xs.length/\-1<=ix p xs k
 |[],k,h=>by simp[ix];omega
 | s :: r,k,h=>by
   have:=ix_lt p r (k+1) Om
   unfold ix
   split
   .simp;omega
   .simp;omega
theorem ix_find {α:Type}[Inhabited α](p:α->Bool):∀(xs:List α) (k:Nat),(0<=ix p xs k->xs.find? p=some (xs.getD ((ix p xs k).toNat-k) default)/\k<=(ix p xs k).toNat)/\(ix p xs k<0->xs.find? p=none)
 |[],k=>by simp[ix]
 | s :: r,k=>by
   obtain⟨h1,h2⟩:=ix_find p r (k+1)
   unfold ix
   by_cases hp:p s=true
   .rw[if_pos hp,List.find?_cons_of_pos hp]
    refine⟨fun _=>⟨by simp,by simp⟩,fun h=>by omega⟩
   .rw[if_neg hp,List.find?_cons_of_neg hp]
    refine⟨fun h=>?_,fun h=>h2 h⟩
    obtain⟨g1,g2⟩:=h1 h
    have e0:((k+1:Nat):Int)=(k:Int)+1:=by omega
    refine⟨?_,(by rw[e0]at g2;omega)⟩
    have e:((k+1:Nat):Int)=(k:Int)+1:=by omega
    rw[e]at g1 g2
    rw[g1]
    have:(ix p r ((k:Int)+1)).toNat-k=((ix p r ((k:Int)+1)).toNat-(k+1))+1:=by omega
    rw[this]
    simp
structure Wr (R:Prop):Prop where
 o:R
theorem gW {K R:Prop}(r:R)(g:Wr R->K:=by
 intro wr
 repeat' (first|with_reducible refine Sq.go ?_|((with_reducible refine Ev.mk ?_);conv=>whnf)|with_reducible refine Dr.mk ⟨Kr,Kr⟩ ?_|with_reducible refine obG ?_|with_reducible refine Ob.mk ?_ ?_|(with_reducible first|refine brT fun hzq=>?_|refine brF fun hzq=>?_|refine Br.mk (fun hzq=>?_) fun hzq=>?_)<;>(try simp only[bsl,beq_iff_eq,bne_iff_ne,bs2]at hzq)<;>(try contradiction)<;>try (exfalso;omega))
 repeat revert hzq
 exact Wr.o wr
 all_goals fail):K:=g ⟨r⟩
theorem xW {K R S:Prop}(r:R)(s:S)(g:Wr R->Wr S->K:=by
 intro wr ws
 repeat' (first|with_reducible refine Sq.go ?_|((with_reducible refine Ev.mk ?_);conv=>whnf)|with_reducible refine Dr.mk ⟨Kr,Kr⟩ ?_|with_reducible refine obG ?_|with_reducible refine Ob.mk ?_ ?_|(with_reducible first|refine brT fun hzq=>?_|refine brF fun hzq=>?_|refine Br.mk (fun hzq=>?_) fun hzq=>?_)<;>(try simp only[bsl,beq_iff_eq,bne_iff_ne,bs2]at hzq)<;>(try contradiction)<;>try (exfalso;omega))
 .repeat revert hzq
  exact Wr.o wr
 .repeat revert hzq
  exact Wr.o ws
 all_goals fail):K:=g ⟨r⟩ ⟨s⟩
theorem gS {K R:Prop}(r:R)(g:Wr R->K:=by
 intro wr
 repeat' (first|((with_reducible refine Ev.mk ?_);conv=>whnf)|with_reducible refine Dr.mk ⟨Kr,Kr⟩ ?_|with_reducible refine obG ?_|with_reducible refine Ob.mk ?_ ?_|(with_reducible first|refine brT fun hzq=>?_|refine brF fun hzq=>?_|refine Br.mk (fun hzq=>?_) fun hzq=>?_)<;>(try simp only[bsl,beq_iff_eq,bne_iff_ne,bs2]at hzq)<;>(try contradiction)<;>try (exfalso;omega))
 repeat revert hzq
 exact Wr.o wr
 all_goals fail):K:=g ⟨r⟩
theorem xS {K R S:Prop}(r:R)(s:S)(g:Wr R->Wr S->K:=by
 intro wr ws
 repeat' (first|((with_reducible refine Ev.mk ?_);conv=>whnf)|with_reducible refine Dr.mk ⟨Kr,Kr⟩ ?_|with_reducible refine obG ?_|with_reducible refine Ob.mk ?_ ?_|(with_reducible first|refine brT fun hzq=>?_|refine brF fun hzq=>?_|refine Br.mk (fun hzq=>?_) fun hzq=>?_)<;>(try simp only[bsl,beq_iff_eq,bne_iff_ne,bs2]at hzq)<;>(try contradiction)<;>try (exfalso;omega))
 .repeat revert hzq
  exact Wr.o wr
 .repeat revert hzq
  exact Wr.o ws
 all_goals fail):K:=g ⟨r⟩ ⟨s⟩
theorem gP {K R:Prop}(r:R)(g:Wr R->K:=by
 intro wr
 repeat' (first|with_reducible refine Sq.go ?_|((with_reducible refine Ev.mk ?_);conv=>whnf)|with_reducible refine Dr.mk ⟨Kr,Kr⟩ ?_|with_reducible refine obH ?_|with_reducible refine Ob.mk ?_ ?_|(with_reducible first|refine brU fun hzq=>?_|refine brV fun hzq=>?_|refine Br.mk (fun hzq=>?_) fun hzq=>?_)<;>(try simp only[bsl,beq_iff_eq,bne_iff_ne,bs2,bbq]at hzq)<;>(try contradiction)<;>try (exfalso;omega))
 repeat revert hzq
 exact Wr.o wr
 all_goals fail):K:=g ⟨r⟩
theorem lq {p:Prop}(h:p:=by
 (try dsimp only)
 repeat' (first|exact Tt|exact rfl|exact Nat.le_refl _|refine And.intro ?_ ?_)
 all_goals (intro i hi)
 all_goals first
  |exact⟨rfl,rfl⟩
  |exact⟨rfl,fun _=>⟨rfl,rfl⟩⟩
  |exact absurd hi (Nat.not_lt_zero i)
  |(obtain rfl:i=0:=Nat.lt_one_iff.1 hi;exact⟨rfl,rfl⟩)
  |exact⟨rowsOf_join' _ _ _ rfl i hi,rfl⟩
  |exact⟨rowsOf_catD _ _ _ rfl i,rfl⟩
  |exact⟨rowR_join _ _ rfl i hi,rfl⟩
  |exact⟨rowN_join _ _ rfl i hi,rfl⟩
 all_goals fail):p:=h
theorem stp {S:Type}{A B C:S->Prop}(s:S)(c:C s)(a:A s:=by dsimp only;omega)(b:B s:=by dsimp only;omega):∃s,A s/\B s/\C s:=⟨s,a,b,c⟩
abbrev di (n : Int) : D := .int .i64 n
abbrev dV (n : Int) : AV := .d (.int .i64 n)
abbrev lp (n : Nat) : AV := .ptr (.loc n) 0 0 0
abbrev ap (n : Nat) : AV := .ptr (.arg n) 0 0 0
abbrev bX (t : TypeId) (c : List AV) : Option Blk := some (.box t c)
abbrev bV (t : TypeId) (e g n : Nat) (f : Nat → List AV) : Option Blk := some (.vec t e g n f)
end Go.Proofs.YtkjmomadndmeaaaGreatDoor
