import Derived.Test.YtmlhghddfobmmaaGreatDoorBookE
import Derived.Test.YtmlhghddfobmmaaGreatDoorRuleC
import Derived.Test.YtmlhghddfobmmaaGreatDoorEngAE
import Derived.Lib.AppendZerosOnto
import Derived.Lib.Overlaps
import Derived.Laws.CopyRow
import Derived.Test.YtmlhghddfobmmaaGreatDoorEngAP
import Derived.Laws.MakeOwn
import Derived.Test.YtmlhghddfobmmaaGreatDoorEngAT
import Derived.Test.YtmlhghddfobmmaaGreatDoorBookA
namespace Go.Proofs.YtmlhghddfobmmaaGreatDoor
set_option linter.unusedSimpArgs false
set_option linter.unusedVariables false
open Go Go.Ab
set_option maxRecDepth 100000
set_option maxHeartbeats 0
theorem Qb0 (s:Sys)(hw:W0 s):Pure Tryz.prog 95 [.agg (Qa s)] [.bool (Wc s)]:=by
 have hA:=Q15 s.classes hw.1.1 hw.1.2
 have hB:=Q15 s.honours hw.2.1.1 hw.2.1.2
 have hl1:s.fees.length<=9223372036854775807:=hw.2.2.1
 have hl2:s.clauses.length<=9223372036854775807:=hw.2.2.2
 have hv:Wc s=(s.fees.all Hh&&(s.clauses.all Hg&&(s.classes.all Xv&&s.honours.all Xv))):=by
  unfold Wc
  cases s.fees.all Hh<;>cases s.clauses.all Hg<;>cases s.classes.all Xv<;>cases s.honours.all Xv<;>rfl
 rw[hv]
 refine Q4 hT (T:=tab) (N:=63) (rs:=[.tmp 2]) Tryz.func95 rfl rfl rfl Kr rfl ?_
 (refine gW ?_;intros)
 refine Q7 hT (S:=Nat) (fun k=>([(1,lp 0),(3,dV k)],⟨[bX 83 (up (Qa s))],[]⟩)) (fun k=>k<=s.fees.length/\s.fees.all Hh=(s.fees.drop k).all Hh) (fun k=>s.fees.length-k) 0 ?_ ?_ ?_
 .repeat' (first|exact Tt|exact rfl|exact Qgx _|refine And.intro ?_ ?_)
 .exact⟨Qh3 _,rfl⟩
 .rintro k ⟨hk,hc⟩
  by_cases hk2:k<s.fees.length
  .have hF:=Xs (s.fees.getD k default).credits 0 10000
   rw[Qc hk2,Qi5,Hh]at hc
   cases h1:bw (s.fees.getD k default).credits 0 10000<;>rw[h1]at hF hc
   .rw[hc]
    (refine gW ?_;intros)
    refine hF.call ?_
    (refine gW ?_;intros)
    exact⟨rfl,Tt⟩
   ·(refine gW ?_;intros)
    refine hF.call ?_
    (refine gW ?_;intros)
    refine⟨k+1,⟨by show k+1<=s.fees.length;omega,by rw[hc];rfl⟩,by show s.fees.length-(k+1)<s.fees.length-k;omega,?_⟩
    repeat' (first|exact Tt|exact rfl|exact Qgx _|refine And.intro ?_ ?_)
  .rw [Qr (by omega),List.all_nil] at hc
   rw[hc,Qhy]
   (refine gW ?_;intros)
   refine Q7 hT (S:=Nat) (fun k=>([(1,lp 0),(4,dV k)],⟨[bX 83 (up (Qa s))],[]⟩)) (fun k=>k<=s.clauses.length/\s.clauses.all Hg=(s.clauses.drop k).all Hg) (fun k=>s.clauses.length-k) 0 ?_ ?_ ?_
   .repeat' (first|exact Tt|exact rfl|exact Qgx _|refine And.intro ?_ ?_)
   .exact⟨Qh3 _,rfl⟩
   .clear hk hc hk2
    rintro k ⟨hk,hc⟩
    by_cases hk2:k<s.clauses.length
    .have g1:=Xs (s.clauses.getD k default).kind 1 5
     have g2:=Xs (s.clauses.getD k default).whn 0 2
     have g3:=Xs (s.clauses.getD k default).action 1 3
     have g4:=Xs (s.clauses.getD k default).til 0 12
     rw[Qc hk2,Qi5,Hg]at hc
     cases h1:bw (s.clauses.getD k default).kind 1 5<;>rw[h1]at g1 hc
     .rw[hc]
      (refine gW ?_;intros)
      refine g1.call ?_
      (refine gW ?_;intros)
      exact⟨rfl,Tt⟩
     cases h2:bw (s.clauses.getD k default).whn 0 2<;>rw[h2]at g2 hc
     .rw[hc]
      (refine gW ?_;intros)
      refine g1.call ?_
      (refine gW ?_;intros)
      refine g2.call ?_
      (refine gW ?_;intros)
      exact⟨rfl,Tt⟩
     cases h3:bw (s.clauses.getD k default).action 1 3<;>rw[h3]at g3 hc
     .rw[hc]
      (refine gW ?_;intros)
      refine g1.call ?_
      (refine gW ?_;intros)
      refine g2.call ?_
      (refine gW ?_;intros)
      refine g3.call ?_
      (refine gW ?_;intros)
      exact⟨rfl,Tt⟩
     cases h4:bw (s.clauses.getD k default).til 0 12<;>rw[h4]at g4 hc
     .rw[hc]
      (refine gW ?_;intros)
      refine g1.call ?_
      (refine gW ?_;intros)
      refine g2.call ?_
      (refine gW ?_;intros)
      refine g3.call ?_
      (refine gW ?_;intros)
      refine g4.call ?_
      (refine gW ?_;intros)
      exact⟨rfl,Tt⟩
     ·(refine gW ?_;intros)
      refine g1.call ?_
      (refine gW ?_;intros)
      refine g2.call ?_
      (refine gW ?_;intros)
      refine g3.call ?_
      (refine gW ?_;intros)
      refine g4.call ?_
      (refine gW ?_;intros)
      refine⟨k+1,⟨by show k+1<=s.clauses.length;omega,by rw[hc];rfl⟩,by show s.clauses.length-(k+1)<s.clauses.length-k;omega,?_⟩
      repeat' (first|exact Tt|exact rfl|exact Qgx _|refine And.intro ?_ ?_)
    .rw[Qr Om,List.all_nil]at hc
     rw[hc,Qhy]
     cases h1:s.classes.all Xv<;>rw[h1]at hA
     ·(refine gW ?_;intros)
      refine hA.call ?_
      (refine gW ?_;intros)
      exact⟨rfl,Tt⟩
     ·(refine gW ?_;intros)
      refine hA.call ?_
      (refine gW ?_;intros)
      refine hB.call ?_
      (refine gW ?_;intros)
      exact⟨rfl,Tt⟩
def Hi:List D->List D->Prop
 |[],[]=>True
 |x::r,y::s=>DEq x y/\Hi r s
 |_,_=>False
theorem Hi.len:∀{xs ys:List D},Hi xs ys->xs.length=ys.length
 |[],[],_=>rfl
 |_::_,_::_,h=>by simp[Hi.len h.2]
 |[],_::_,h=>h.elim
 |_::_,[],h=>h.elim
theorem Hi.at:∀{xs ys:List D},Hi xs ys->∀(j:Nat) y,ys[j]?=some y->∃x,xs[j]?=some x/\DEq x y
 |[],[],_,j,y,h=>by simp at h
 | a :: r,b :: s,h,j,y,hy=>by
   cases j with
   |zero=>simp at hy;subst hy;exact⟨a,by simp,h.1⟩
   |succ j=>simpa using Hi.at h.2 j y (by simpa using hy)
 |[],_::_,h,_,_,_=>h.elim
 |_::_,[],h,_,_,_=>h.elim
theorem Wx {P:Program}{f:FuncId}{ds dargs res:List D}(h:Pure P f dargs res)(ha:Hi ds dargs):Pure P f ds res :=
 ⟨h.1,fun F w Q5 hF hG hl hv=>h.2 F w Q5 hF hG (by rw [hl,ha.len]) (fun j y u hy hu=>by
  obtain⟨x,hx,e⟩:=ha.at j y hy
  exact DEq.ok (hv j x u hx hu) e)⟩
theorem rfD {α:Type}[Inhabited α](e:α->List D)(b:α)(f:Nat->List D)(h:f 0=e b)(sz:Nat):DEq (.sl sz 1 f) (.sl sz 1 fun i=>e ([b].getD i default)) :=
 ⟨rfl,rfl,fun i hi=>by rw[show i=0 from Qi1.1 hi];exact h⟩
def Yp (a b:Int):Int:=if a<b then -1 else if b<a then 1 else 0
theorem Q19 (a:Int):Pure Tryz.prog 212 [di a] [.bool false]:=by
 refine Q4 hT (T:=tab) (N:=6) (rs:=[.tmp 2]) Tryz.func212 rfl rfl rfl Kr rfl ?_
 (refine gW ?_;intros)
 refine⟨congrArg D.bool ?_,Tt⟩
 simp
theorem O8 (a b:Int):Pure Tryz.prog 166 [di a,di b] [di (Yp a b)]:=by
 refine Q4 hT (T:=tab) (N:=20) (rs:=[.tmp 4]) Tryz.func166 rfl rfl rfl Kr rfl ?_
 (refine gW ?_;intros)
 refine(Q19 a).call ?_
 (refine gW ?_;intros)
 refine(Q19 b).call ?_
 rcases Int.lt_trichotomy a b with h|h|h
 .rw[Yp,if_pos h]
  (refine gW ?_;intros)
  exact⟨rfl,Tt⟩
 .rw[Yp,if_neg Om,if_neg Om]
  (refine gW ?_;intros)
  exact⟨rfl,Tt⟩
 .rw[Yp,if_neg Om,if_pos h]
  (refine gW ?_;intros)
  exact⟨rfl,Tt⟩
theorem Qd7 (xs:List Int)(hx:xs.length<=1000000):Pure Tryz.prog 165 [J6 xs] [di ((xs.find? fun n=>decide (n≠0)).getD 0)]:=by
 refine Q4 hT (T:=tab) (N:=18) (rs:=[.tmp 2]) Tryz.func165 rfl rfl rfl Kr rfl ?_
 (refine gW ?_;intros)
 refine Q7 hT (S:=Nat) (fun k=>([(3,dV 0),(6,.d (J6 xs)),(7,dV xs.length),(8,dV k)],⟨[],[]⟩)) (fun k=>k<=xs.length/\xs.find? (fun n=>decide (n≠0))=(xs.drop k).find? fun n=>decide (n≠0)) (fun k=>xs.length-k) 0 ?_ ?_ ?_
 .exact lq
 .exact⟨Qh3 _,rfl⟩
 .rintro k ⟨hk,hc⟩
  by_cases hk2:k<xs.length
  .rw[Qc hk2,List.find?_cons]at hc
   by_cases hz:xs.getD k default=0
   .rw[Qh0 (by simpa using hz)]at hc
    (refine gW ?_;intros)
    refine stp (k+1) ?_ ⟨by show k+1<=xs.length;omega,hc⟩
    exact lq
   .rw[Qh8 hz]at hc
    rw[hc]
    (refine gW ?_;intros)
    exact⟨rfl,Tt⟩
  .rw[Qr Om,List.find?_nil]at hc
   rw[hc]
   (refine gW ?_;intros)
   exact⟨rfl,Tt⟩
def L1 (a b:Fct):Int:=if Yp a.known b.known=0 then Yp a.no b.no else Yp a.known b.known
theorem Q98 (a b:Fct):Pure Tryz.prog 111 [.agg (Qf a),.agg (Qf b)] [di (L1 a b)]:=by
 refine Q4 hT (T:=tab) (N:=17) (rs:=[.tmp 4]) Tryz.func111 rfl rfl rfl Kr rfl ?_
 have h:=Qd7 [Yp a.known b.known,Yp a.no b.no] (show 2<=1000000 by decide)
 have e:([Yp a.known b.known,Yp a.no b.no].find? fun n=>decide (n≠0)).getD 0=L1 a b:=by
  unfold L1
  by_cases h1:Yp a.known b.known=0
  .by_cases h2:Yp a.no b.no=0<;>simp[h1,h2]
  .simp[h1]
 rw[e]at h
 (refine gW ?_;intros)
 refine qC (O8 a.known b.known) ?_
 (refine gW ?_;intros)
 refine qC (O8 a.no b.no) ?_
 (refine gW ?_;intros)
 refine qC (Wx (ds:=[.sl 1 2 _]) h ⟨⟨rfl,rfl,fun i hi=>?_⟩,Tt⟩) ?_
 .have hi:i<2:=hi
  rcases show i=0\/i=1 by omega with rfl|rfl<;>rfl
 (refine gW ?_;intros)
 exact⟨rfl,Tt⟩
def Ra (a b:Fct):Bool:=decide (a.known<b.known)||(decide (a.known=b.known)&&decide (a.no<b.no))
theorem Q99 (a b:Fct):decide (0<=L1 a b)=!Ra a b:=by
 unfold L1 Yp Ra
 rw[Bool.eq_iff_iff]
 split<;>(try split)<;>(try split)<;>simp<;>omega
structure Ke where
 kind:Int
 subject:Int
 object:Int
 deriving Inhabited,DecidableEq
def eKe (k:Ke):List D:=[di k.kind,di k.subject,di k.object]
def kOf (f:Fct):Ke:=⟨f.kind,f.subject,f.object⟩
theorem Q1f (f:Fct)(k:Ke):kOf f=k↔f.kind=k.kind/\f.subject=k.subject/\f.object=k.object:=by
 cases k
 simp[kOf]
def Ut (k:Ke)(kn:Int)(f:Fct):Bool:=decide (kOf f=k)&&decide (f.known<=kn)
def Gu (t:Int)(f:Fct):Bool:=decide (f.fr<=t)&&decide (t<f.til)
def zF:Fct:=⟨0,0,0,0,0,0,0,0⟩
def Xg (t:Int)(b:Option Fct)(f:Fct):Option Fct:=if Gu t f&&(b.isNone||!Ra f (b.getD zF)) then some f else b
def Cy (l:List Fct)(k:Ke)(t kn:Int):Option Fct:=(l.filter (Ut k kn)).foldl (Xg t) none
def atO (b:Option Fct):Int × Bool:=match b with
 |none=>(0,false)
 |some f=>if f.value<0 then(0,false) else(f.value,true)
def atV (l:List Fct)(k:Ke)(t kn:Int):Int × Bool:=atO (Cy l k t kn)
end Go.Proofs.YtmlhghddfobmmaaGreatDoor
namespace Go.Ab
set_option linter.unusedSimpArgs false
set_option linter.unusedVariables false
section
variable {P:Program}{T:Tab}{N:Nat}{w:World}{F:Nat->Prop}{σ:Pls}{m:Mem}{env:Env}{K:AV->Mem->Prop}{o:Oper}
end
section
variable {P:Program}{T:Tab}{N:Nat}{w:World}{F:Nat->Prop}{σ:Pls}{m:Mem}{env:Env}{K:AV->Mem->Prop}{o:Oper}
end
section
variable {P:Program}{T:Tab}{N:Nat}{w:World}{F:Nat->Prop}{σ:Pls}{m:Mem}{env:Env}{K:AV->Mem->Prop}{o:Oper}
theorem Step.same (σ:Pls)(F:Nat->Prop)(w:World):Step σ F w σ F w :=
 ⟨rfl,rfl,rfl,Qgx _,Qgx _,fun _ _ _=>rfl,fun _ h=>h,fun _ h=>.inl h,fun _ h=>.inl h⟩
theorem Lk {t t':TypeId} {x y:Operand} (hop:o.op=.binOp .eql t x y t') {e:TypeId} (ht:P.underlying t=some (.slice e)) (hy0:y=.const (.slice none 0 0)) {sz n:Nat} {f:Nat→List D} (hx:ev env x=.d (.sl sz n f)) (hK:∀ b:Bool,(b=true→n=0)→K (.d (.bool b)) m):Ym P o env m K :=
 ⟨fun c h=>(by rw [hop] at h;cases h),fun a w F σ hev hm=>by
  have hv:=Z5 hev x
  rw[hx]at hv
  obtain⟨A,cap,hval,hA⟩:∃A cap,a.eval x=.slice A n cap/\(A=none->n=0):=by
   cases hv with
   | d h =>
     generalize hvv:a.eval x=v at h
     cases h with
     | sl a0 g hc ha hl hcell h =>
       refine⟨_,_,rfl,fun hn=>?_⟩
       by_cases h0:0<n
       .have:=(ha h0).1
        rw[hn]at this
        cases this
       .omega
  refine⟨_,.bool A.isNone,w,σ,F,.d (.bool A.isNone),_,?_,.inl rfl,hK A.isNone (fun h=>hA (by simpa using h)),.d .bool,hm,Step.same σ F w,SLe.refl σ⟩
  subst hy0
  have hcst:a.eval (.const (.slice none 0 0))=.slice none 0 0:=rfl
  have he:(Op.equalIn Op.maxDepth t (.slice A n cap) (.slice none 0 0)).run P w=.ok A.isNone w:=by
   rw[show Op.maxDepth=(Op.maxDepth-1)+1 from rfl]
   cases A with
   |none=>simp[Op.equalIn,run_underlying ht]
   |some A=>simp[Op.equalIn,run_underlying ht]
  cases A with
  |none=>simp[execOp,hop,hval,hcst,binOp,eqGuard,Op.equal,he]
  |some A=>simp[execOp,hop,hval,hcst,binOp,eqGuard,Op.equal,he]⟩
end
section
variable {P:Program}{T:Tab}{m:Mem}{env:Env}{K:AV->Mem->Prop}{o:Oper}
theorem Qbn {w:World}{sh:Ksh}{has:List Int->Bool}{ks:List (List Int)}{es:Array MapEntry}(hl:ks.length=es.size)(h1:∀(i:Nat) k e,ks[i]?=some k->es[i]?=some e->sh.fits k/\e.key=sh.key k/\has k=true) :
 ∀k∈ks,sh.fits k/\has k=true:=fun k hk=>by
 obtain⟨i,hi,e⟩:=List.getElem_of_mem hk
 have hki:ks[i]?=some k:=by rw[Qgy hi,e]
 have hei:es[i]?=some (es[i]'Om):=Array.getElem?_eq_getElem Om
 exact⟨(h1 i k _ hki hei).1,(h1 i k _ hki hei).2.2⟩
theorem Y2 (hT:Qb P T){t:TypeId}{x:Operand}(hop:o.op=.call {callee:=.builtin .len,args:=#[x],argTypes:=#[t]}){sh0:Ksh}{te:TI}(ht:mapOf T t=some (sh0,te)){r:Ref}{sh:Ksh}{has:List Int->Bool}{val:List Int->AV}(hx:ev env x=.mp r)(hB:m.get r=some (.map sh has val))
 (hK:∀ks:List (List Int),ks.Nodup->(∀k∈ks,sh.fits k/\has k=true)->(∀k,sh.fits k->has k=true->k∈ks)->K (.d (.int .i64 ks.length)) m):Ym P o env m K :=
 ⟨fun c h=>(by rw [hop] at h;cases h),fun a w F σ hev hm=>by
  obtain⟨kt,et,hu,_,_⟩:=E8 hT ht
  have hv:=Z5 hev x
  rw[hx]at hv
  obtain⟨X,hX⟩:∃X,a.eval x=X:=⟨_,rfl⟩
  rw[hX]at hv
  cases hv with
  | @mp _ _ q hr h =>
    obtain⟨h1,h2⟩:=hm.lv _ _ hr
    have hat:=Mem.get_at hB
    cases q with
    |none=>rw[h1 rfl]at hat;cases hat
    | some pl =>
      obtain⟨B,hB2,hok⟩:=h2 pl rfl
      rw[hat]at hB2
      cases hB2
      obtain⟨hg,b,hloc,es,clock,ks,hheap,hl,hn,k1,k2,hS⟩:=hok
      obtain⟨b',t',hloc',rfl⟩:=h pl rfl hg
      rw[hloc]at hloc'
      cases hloc'
      refine⟨_,_,w,σ,F,_,_,?_,.inl rfl,hK ks hn (Qbn (w:=w) hl fun i k e h1 h2=>⟨(k1 i k e h1 h2).1,(k1 i k e h1 h2).2.1,(k1 i k e h1 h2).2.2.1⟩) k2,.d .int,hm,Step.refl σ F w,SLe.refl σ⟩
      rotate_left
      simp[execOp,hop,hX,resolve,invoke,builtin,Builtin.len_,run_underlying hu,goInt,run_getObj_map _ _ _ _ hheap,hl]⟩
end
end Go.Ab
namespace Go.Proofs.YtmlhghddfobmmaaGreatDoor
set_option linter.unusedSimpArgs false
set_option linter.unusedVariables false
open Go Go.Ab
set_option maxRecDepth 100000
set_option maxHeartbeats 0
theorem U7 {α:Type}[DecidableEq α]{l m:List α}(hl:l.Nodup)(hm:m.Nodup)(h:∀x,x∈l↔x∈m):l.length=m.length:=Nat.le_antisymm (hl.length_le_of_subset fun x hx=>(h x).1 hx) (hm.length_le_of_subset fun x hx=>(h x).2 hx)
theorem N4 {a b:ByteArray}(h:Jf a=Jf b):a=b:=by rw[<-Au a,h,Au]
theorem Gy {α β:Type}{f:α->β}(hf:∀a b,f a=f b->a=b):∀{l:List α},l.Nodup->(l.map f).Nodup
 |[],_=>List.nodup_nil
 | x :: r,h=>by
   rw[List.nodup_cons]at h
   rw[Qin,List.nodup_cons]
   refine⟨fun hx=>?_,Gy hf h.2⟩
   obtain⟨y,hy,e⟩:=Qhw.1 hx
   exact h.1 (hf _ _ e▸hy)
def Jc (ks:List (List Int))(k:Nat):List Int->Bool:=fun key=>decide (key∈ks.take k)
theorem Hw {ks:List (List Int)}{k:Nat}(hk:k<ks.length)(key:List Int):(decide (key=ks.getD k default)||Jc ks k key)=Jc ks (k+1) key:=by
 unfold Jc
 rw[Js hk,Bool.eq_iff_iff,Bool.or_eq_true,decide_eq_true_iff,decide_eq_true_iff,decide_eq_true_iff,Qi7,Qi9]
 exact Or.comm
end Go.Proofs.YtmlhghddfobmmaaGreatDoor
namespace Go.Ab
set_option linter.unusedSimpArgs false
set_option linter.unusedVariables false
section
variable {P:Program}{T:Tab}{N:Nat}{w:World}{F:Nat->Prop}{σ:Pls}{m:Mem}{env:Env}{K:AV->Mem->Prop}{o:Oper}
theorem Qch (hT:Qb P T){t:TypeId}{x y:Operand}(hop:o.op=.makeSlice t x y){e:TypeId}{sz:Nat}(he:elemOf T t=some (e,sz)){te:TI}(hte:T.at e=some te)(hb0:0<te.bytes)
 {n:Nat} {kx ky:IntKind} (hx:ev env x=.d (.int kx n)) (hy:ev env y=.d (.int ky n)) (hcap:n*te.bytes<=140737488355328)
 (hK:K (.osl m.new 0 0 n) (m.add (.vec e sz 0 n fun _=>up te.zero))):Ym P o env m K :=
 ⟨fun c h=>(by rw [hop] at h;cases h),fun a w F σ hev hm=>by
  obtain⟨hu,hrs,te',hte',htsz⟩:=Gl hT he
  have hszp:=Aw hT he
  obtain⟨inf,z,hinf,his,hib,hz,hzs,hzsz⟩:=Yj (hT _ _ hte)
  have hsize:inf.size=sz:=by
   obtain⟨i',z',hi',his',_⟩:=Yj hte'
   rw[hinf]at hi'
   injection hi' with hi'
   subst hi'
   rw[his',htsz]
  have hvx:=Z5 hev x
  rw[hx]at hvx
  have hvx:=hvx.int
  have hvy:=Z5 hev y
  rw[hy]at hvy
  have hvy:=hvy.int
  have hbig:n<=140737488355328:=Qhx (Nat.le_mul_of_pos_right _ hb0) hcap
  have hzl:z.cells.size=sz:=by rw[hzsz,<-his,hsize]
  have hbb:(inf.bytes:Int)*(n:Int)<=281474976710656:=by
   have h:((inf.bytes*n:Nat):Int)<=281474976710656:=by
    rw[hib,Nat.mul_comm]
    omega
   rwa [Int.natCast_mul]at h
  have hrun:=run_make (P:=P) w t e inf z hu hinf hz kx ky n n Om (Int.le_refl _) hbb Om
  rw[Int.toNat_natCast,hsize]at hrun
  have hz0:Y6 w F σ (up te.zero) z.cells.toList:=.zero hzs
  have hzat:∀i1 j,i1<n->j<sz->(madeCells z.cells (n*sz))[i1*sz+j]?=z.cells[j]?:=fun i1 j hi hj=>by
   have h1:=Lp hi hj
   simp only[madeCells,hzl]
   rw[Array.getElem?_map,Array.getElem?_range,if_pos h1]
   have h2:(i1*sz+j) % sz=j:=by rw[Nat.mul_comm,Nat.mul_add_mod,Nat.mod_eq_of_lt hj]
   simp only[Option.map_some,h2]
   have h3:j<z.cells.size:=by omega
   simp[h3]
  have hzrows:G9 w F σ sz n (fun _=>up te.zero) (madeCells z.cells (n*sz)).toList:=by
   refine⟨fun i hi=>by rw[<-hz0.1,Qhg,hzl],by simp[size_madeCells],fun i1 j B hi1 hB1=>?_⟩
   have hj:j<sz:=by
    have:=(Qh7.1 hB1).1
    rw[<-hz0.1,Qhg,hzl]at this
    exact this
   have hu:z.cells.toList[j]?=some (z.cells[j]'Om):=by simp[show j<z.cells.size by omega]
   obtain⟨q1,q2⟩:=hz0.2 j B _ hB1 hu
   exact⟨_,by rw[Qh2,hzat i1 j hi1 hj];simp[show j<z.cells.size by omega],q1,q2⟩
  obtain⟨σ',g1,g2,g3,g4⟩:=M7 (w':=w.alloc (.cells (madeCells z.cells (n*sz)) e)) (b:=w.heap.size) (tot:=n) (us:=(madeCells z.cells (n*sz)).toList) (e:=e) (sz:=sz) (n:=n) (f:=fun _=>up te.zero) hm (Qgx _) (by simp) (fun b hb=>heap_alloc_old w _ hb)
   rfl rfl rfl (Qgx _) (by rw[Qi2];exact heap_alloc_new w _) (by simp[size_madeCells]) (Qgx _) (by unfold maxLen;omega) hzrows
  refine⟨_,_,_,σ',F,_,_,?_,.inl rfl,hK,g1,g2,g3,g4⟩
  simp[execOp,hop,hvx,hvy,hrun]⟩
end
theorem Awp.vecG {P:Program}{N:Nat}{c:Code}{env:Env}{m:Mem}{Q:Ja}(t e sz g:Nat)(f:Nat->List AV)(ht:get env t=.d .nils)
 (k:Awp P N c ((t,.osl m.new g 0 0)::env) (m.add (.vec e sz g 0 f)) Q):Awp P N c env m Q :=
 ⟨fun ro lo a w σ F hN hD he hm=>by
  let pl:Pl:=⟨g,sz,none⟩
  obtain⟨g1,g2⟩:=Ur (w':=w) (pl:=pl) (B:=.vec e sz g 0 f) hm (Qgx _) (fun _ _=>rfl) ⟨rfl,rfl,fun _=>rfl,fun i hi=>absurd hi Om,fun b t h=>by simp[pl]at h⟩ (fun b t h=>by simp[pl]at h)
  have he':Ql ((t,.osl m.new g 0 0)::env) w F (upd σ m.new (some pl)) a.tmps:=by
   intro k
   simp only[get]
   cases hk:Nat.beq t k with
   | true =>
     have:=Qh1 hk
     subst this
     simp only[cond_true]
     have hv:=he t
     rw[ht]at hv
     refine .osl (J3 σ m.new (some pl)) fun p hp=>?_
     injection hp with hp
     subst hp
     refine⟨Qgx _,fun _=>⟨rfl,rfl,?_⟩⟩
     generalize a.tmps.getD t undef=X at hv
     cases hv with|d hv=>cases hv;rfl
   |false=>exact(he k).mono (fun _ h=>h) (fun _ _=>rfl) g2
  have hst:Step σ F w (upd σ m.new (some pl)) F w:=⟨rfl,rfl,rfl,Qgx _,Qgx _,fun _ _ _=>rfl,fun _ h=>h,fun _ h=>.inl h,Rv fun b t h=>by simp[pl]at h⟩
  exact wpIn_mono (k.run ro lo a w _ F hN (hD.step hst) he' g1) fun e a2 w2 h5=>Uw hst (.of g2) h5⟩
end Go.Ab
namespace Go.Proofs.YtmlhghddfobmmaaGreatDoor
set_option linter.unusedSimpArgs false
set_option linter.unusedVariables false
open Go Go.Ab
set_option maxRecDepth 100000
set_option maxHeartbeats 0
def Jh (l:List Crs):List Int:=l.map fun x=>x.number
def rowsOf {α:Type}[Inhabited α](enc:α->List D)(l:List α):Nat->List AV:=fun i=>up (enc (l.getD i default))
theorem Q75 (q:List Crs)(hq:q.length<=1000000):Qz Tryz.prog 65 [.d (J2 q)] ⟨[],[]⟩
 (Ret (fun _:Unit=>([.osl (.loc 0) 1 0 q.length],⟨[some (.vec 68 16 1 q.length (rowsOf Q6 q))],[]⟩)) fun _=>True):=by
 refine Zv hT (T:=tab) (N:=8) (rs:=[.tmp 2]) _ _ Tryz.func65 rfl rfl rfl Kr rfl ?_
 (refine gW ?_;intros)
 refine Lk rfl Tryz.underlying22 rfl rfl (fun b hb=>?_)
 cases b
 ·(refine gW ?_;intros)
  refine⟨(),Tt,?_,rfl⟩
  repeat' (first|exact Tt|exact rfl|exact Qgx _|refine And.intro ?_ ?_)
  .show AV.osl (.loc 0) (0+1) 0 (0+q.length)=AV.osl (.loc 0) 1 0 q.length
   rw[Qh9 q.length]
  .show q.length<=0+q.length
   omega
  all_goals first
   | (show 0 + q.length=q.length
      omega)
   | (show 0 + q.length≤q.length
      omega)
   | (show q.length=0 + q.length
      omega)
   | (intro j hj
      refine⟨?_,rfl⟩
      rw[Je,show j.blt 0=false from rfl]
      rfl)
 .have h0:q=[]:=Qi4 (hb rfl)
  subst h0
  (refine gS ?_;intros)
  refine Sq.go ?_
  (refine gS ?_;intros)
  refine Sq.alt (Awp.vecG 2 68 16 1 (rowsOf Q6 []) rfl (Z3 hT _ _ _ _ (Ev.o ?_)))
  (refine gW ?_;intros)
  refine⟨(),Tt,?_,rfl⟩
  repeat' (first|exact Tt|exact rfl|exact Qgx _|refine And.intro ?_ ?_)
  all_goals (intro j hj;exact absurd hj (Qhh j))
theorem Q77 (q:List Pai)(hq:q.length<=1000000):Qz Tryz.prog 66 [.d (Xh q)] ⟨[],[]⟩
 (Ret (fun _:Unit=>([.osl (.loc 0) 1 0 q.length],⟨[some (.vec 131 4 1 q.length (rowsOf Qv q))],[]⟩)) fun _=>True):=by
 refine Zv hT (T:=tab) (N:=8) (rs:=[.tmp 2]) _ _ Tryz.func66 rfl rfl rfl Kr rfl ?_
 (refine gW ?_;intros)
 refine Lk rfl Tryz.underlying27 rfl rfl (fun b hb=>?_)
 cases b
 ·(refine gW ?_;intros)
  refine⟨(),Tt,?_,rfl⟩
  repeat' (first|exact Tt|exact rfl|exact Qgx _|refine And.intro ?_ ?_)
  .show AV.osl (.loc 0) (0+1) 0 (0+q.length)=AV.osl (.loc 0) 1 0 q.length
   rw[Qh9 q.length]
  .show q.length<=0+q.length
   omega
  all_goals first
   | (show 0 + q.length=q.length
      omega)
   | (show 0 + q.length≤q.length
      omega)
   | (show q.length=0 + q.length
      omega)
   | (intro j hj
      refine⟨?_,rfl⟩
      rw[Je,show j.blt 0=false from rfl]
      rfl)
 .have h0:q=[]:=Qi4 (hb rfl)
  subst h0
  (refine gS ?_;intros)
  refine Sq.go ?_
  (refine gS ?_;intros)
  refine Sq.alt (Awp.vecG 2 131 4 1 (rowsOf Qv []) rfl (Z3 hT _ _ _ _ (Ev.o ?_)))
  (refine gW ?_;intros)
  refine⟨(),Tt,?_,rfl⟩
  repeat' (first|exact Tt|exact rfl|exact Qgx _|refine And.intro ?_ ?_)
  all_goals (intro j hj;exact absurd hj (Qhh j))
theorem Q78 (q:List Prg)(hq:q.length<=1000000):Qz Tryz.prog 67 [.d (Qw q)] ⟨[],[]⟩
 (Ret (fun _:Unit=>([.osl (.loc 0) 1 0 q.length],⟨[some (.vec 78 7 1 q.length (rowsOf Q9 q))],[]⟩)) fun _=>True):=by
 refine Zv hT (T:=tab) (N:=8) (rs:=[.tmp 2]) _ _ Tryz.func67 rfl rfl rfl Kr rfl ?_
 (refine gW ?_;intros)
 refine Lk rfl Tryz.underlying23 rfl rfl (fun b hb=>?_)
 cases b
 ·(refine gW ?_;intros)
  refine⟨(),Tt,?_,rfl⟩
  repeat' (first|exact Tt|exact rfl|exact Qgx _|refine And.intro ?_ ?_)
  .show AV.osl (.loc 0) (0+1) 0 (0+q.length)=AV.osl (.loc 0) 1 0 q.length
   rw[Qh9 q.length]
  .show q.length<=0+q.length
   omega
  all_goals first
   | (show 0 + q.length=q.length
      omega)
   | (show 0 + q.length≤q.length
      omega)
   | (show q.length=0 + q.length
      omega)
   | (intro j hj
      refine⟨?_,rfl⟩
      rw[Je,show j.blt 0=false from rfl]
      rfl)
 .have h0:q=[]:=Qi4 (hb rfl)
  subst h0
  (refine gS ?_;intros)
  refine Sq.go ?_
  (refine gS ?_;intros)
  refine Sq.alt (Awp.vecG 2 78 7 1 (rowsOf Q9 []) rfl (Z3 hT _ _ _ _ (Ev.o ?_)))
  (refine gW ?_;intros)
  refine⟨(),Tt,?_,rfl⟩
  repeat' (first|exact Tt|exact rfl|exact Qgx _|refine And.intro ?_ ?_)
  all_goals (intro j hj;exact absurd hj (Qhh j))
theorem Q79 (q:List Req)(hq:q.length<=1000000):Qz Tryz.prog 70 [.d (Xz q)] ⟨[],[]⟩
 (Ret (fun _:Unit=>([.osl (.loc 0) 1 0 q.length],⟨[some (.vec 106 6 1 q.length (rowsOf Jv q))],[]⟩)) fun _=>True):=by
 refine Zv hT (T:=tab) (N:=8) (rs:=[.tmp 2]) _ _ Tryz.func70 rfl rfl rfl Kr rfl ?_
 (refine gW ?_;intros)
 refine Lk rfl Tryz.underlying76 rfl rfl (fun b hb=>?_)
 cases b
 ·(refine gW ?_;intros)
  refine⟨(),Tt,?_,rfl⟩
  repeat' (first|exact Tt|exact rfl|exact Qgx _|refine And.intro ?_ ?_)
  .show AV.osl (.loc 0) (0+1) 0 (0+q.length)=AV.osl (.loc 0) 1 0 q.length
   rw[Qh9 q.length]
  .show q.length<=0+q.length
   omega
  all_goals first
   | (show 0 + q.length=q.length
      omega)
   | (show 0 + q.length≤q.length
      omega)
   | (show q.length=0 + q.length
      omega)
   | (intro j hj
      refine⟨?_,rfl⟩
      rw[Je,show j.blt 0=false from rfl]
      rfl)
 .have h0:q=[]:=Qi4 (hb rfl)
  subst h0
  (refine gS ?_;intros)
  refine Sq.go ?_
  (refine gS ?_;intros)
  refine Sq.alt (Awp.vecG 2 106 6 1 (rowsOf Jv []) rfl (Z3 hT _ _ _ _ (Ev.o ?_)))
  (refine gW ?_;intros)
  refine⟨(),Tt,?_,rfl⟩
  repeat' (first|exact Tt|exact rfl|exact Qgx _|refine And.intro ?_ ?_)
  all_goals (intro j hj;exact absurd hj (Qhh j))
theorem Q7b (q:List Sys)(hq:q.length<=1000000):Qz Tryz.prog 80 [.d (U1 q)] ⟨[],[]⟩
 (Ret (fun _:Unit=>([.osl (.loc 0) 1 0 q.length],⟨[some (.vec 83 4 1 q.length (rowsOf Qa q))],[]⟩)) fun _=>True):=by
 refine Zv hT (T:=tab) (N:=8) (rs:=[.tmp 2]) _ _ Tryz.func80 rfl rfl rfl Kr rfl ?_
 (refine gW ?_;intros)
 refine Lk rfl Tryz.underlying24 rfl rfl (fun b hb=>?_)
 cases b
 ·(refine gW ?_;intros)
  refine⟨(),Tt,?_,rfl⟩
  repeat' (first|exact Tt|exact rfl|exact Qgx _|refine And.intro ?_ ?_)
  .show AV.osl (.loc 0) (0+1) 0 (0+q.length)=AV.osl (.loc 0) 1 0 q.length
   rw[Qh9 q.length]
  .show q.length<=0+q.length
   omega
  all_goals first
   | (show 0 + q.length=q.length
      omega)
   | (show 0 + q.length≤q.length
      omega)
   | (show q.length=0 + q.length
      omega)
   | (intro j hj
      refine⟨?_,rfl⟩
      rw[Je,show j.blt 0=false from rfl]
      rfl)
 .have h0:q=[]:=Qi4 (hb rfl)
  subst h0
  (refine gS ?_;intros)
  refine Sq.go ?_
  (refine gS ?_;intros)
  refine Sq.alt (Awp.vecG 2 83 4 1 (rowsOf Qa []) rfl (Z3 hT _ _ _ _ (Ev.o ?_)))
  (refine gW ?_;intros)
  refine⟨(),Tt,?_,rfl⟩
  repeat' (first|exact Tt|exact rfl|exact Qgx _|refine And.intro ?_ ?_)
  all_goals (intro j hj;exact absurd hj (Qhh j))
def J8 {α:Type}(f:α->α)(l:List α)(k:Nat):List α:=(l.take k).map f++l.drop k
theorem M5 {α:Type}(f:α->α)(l:List α)(k:Nat):(J8 f l k).length=l.length:=by
 rw[J8,Qhc,Qhb,Qhr,List.length_drop]
 omega
theorem M6 {α:Type}(f:α->α)(l:List α):J8 f l 0=l:=by simp[J8]
theorem Ef {α:Type}(f:α->α)(l:List α):J8 f l l.length=l.map f:=by simp[J8]
theorem M4 {α:Type}[Inhabited α](f:α->α){l:List α}{k j:Nat}(hj:j<l.length):(J8 f l k).getD j default=if j<k then f (l.getD j default) else l.getD j default:=by
 simp only[J8,Qha]
 by_cases h:j<k
 .rw[if_pos h,Qhj (by rw[Qhb,Qhr];omega),Qhe,Qid,if_pos h,Qgy hj]
  rfl
 .rw[if_neg h]
  by_cases hk:k<=l.length
  .rw[Qhu (by rw[Qhb,Qhr];omega),Qij,Qhb,Qhr]
   congr 2
   omega
  .omega
theorem M3 {α:Type}[Inhabited α](f:α->α){l:List α}{k:Nat}(hk:k<l.length):(J8 f l k).getD k default=l.getD k default:=by rw[M4 f hk,if_neg (Nat.lt_irrefl k)]
theorem Dz {α:Type}[Inhabited α](f:α->α)(enc:α->List D){l:List α}{k:Nat}(y:List AV)(hy:y=up (enc (f (l.getD k default)))){j:Nat}(hj:j<l.length):(bif Nat.beq j k then y else rowsOf enc (J8 f l k) j)=rowsOf enc (J8 f l (k+1)) j:=by
 unfold rowsOf
 rw[M4 f hj,M4 f hj]
 cases hb:Nat.beq j k with
 | true =>
   have:=Qh1 hb
   subst this
   rw[cond_true,if_pos (Nat.lt_succ_self _),hy]
 | false =>
   have:=Qhv hb
   rw[cond_false]
   by_cases h:j<k
   .rw[if_pos h,if_pos Om]
   .rw[if_neg h,if_neg Om]
theorem Yi {α:Type}[Inhabited α](enc:α->List D)(xs:List α)(x:α){n:Nat}(hn:n=xs.length)(i:Nat)(hi:i<n+1):Je n (rowsOf enc xs) (Jr [up (enc x)]) i=rowsOf enc (xs++[x]) i:=by
 subst hn
 exact Di enc xs x _ rfl i (by rw[Jp];exact hi)
def Jz (xs:List Int):Nat->List AV:=fun i=>[.d (.int .i64 (xs.getD i default))]
theorem B6 (xs:List Int)(x:Int){n:Nat}(hn:n=xs.length)(i:Nat)(hi:i<n+1):Je n (Jz xs) (Jr [[.d (.int .i64 x)]]) i=Jz (xs++[x]) i:=Yi (fun n:Int=>[D.int .i64 n]) xs x hn i hi
def U6 (l:List Crs):List (List Int):=(Jh l).map fun n=>[n]
theorem Sw (l:List Crs):(U6 l).length=l.length:=by rw[U6,Jh,Qhb,Qhb]
theorem Qb3 {l:List Crs}{k:Nat}(hk:k<l.length):(U6 l).getD k default=[(l.getD k default).number]:=by
 simp only[U6,Jh,Qha,Qhe,Qgy hk,Option.map_some,Qi3]
theorem Q2i (l:List Crs)(hl:l.length<=1000000):Qz Tryz.prog 81 [.d (J2 l)] ⟨[],[]⟩
 (Ret (fun _:Unit=>([.mp (.loc 0)],⟨[some (.map (.one .i64) (Jc (U6 l) l.length) fun _=>.d (.bool true))],[]⟩)) fun _=>True):=by
 refine Zv hT (T:=tab) (N:=18) (rs:=[.tmp 2]) _ _ Tryz.func81 rfl rfl rfl Kr rfl ?_
 (refine gW ?_;intros)
 refine Q7 hT (S:=Nat) (fun k=>([(3,.mp (.loc 0)),(7,.d (J2 l)),(8,dV l.length),(9,dV k)],⟨[some (.map (.one .i64) (Jc (U6 l) k) fun _=>.d (.bool true))],[]⟩)) (fun k=>k<=l.length) (fun k=>l.length-k) 0 ?_ ?_ ?_
 .repeat' (first|exact Tt|exact rfl|exact Qgx _|refine And.intro ?_ ?_)
  all_goals first
   |(intro key hf;exact⟨by simp[Jc],fun h=>(by cases h)⟩)
 .exact Qh3 _
 .intro k hk
  dsimp only at hk⊢
  by_cases hk2:k<l.length
  ·(refine gW ?_;intros)
   refine⟨k+1,by show k+1<=l.length;omega,by show l.length-(k+1)<l.length-k;omega,?_⟩
   repeat' (first|exact Tt|exact rfl|exact Qgx _|refine And.intro ?_ ?_)
   intro key hf
   refine⟨?_,fun _=>⟨?_,rfl⟩⟩
   .have e:=Hw (ks:=U6 l) (k:=k) (by rw[Sw];exact hk2) key
    rw[Qb3 hk2]at e
    exact e
   .show(bif decide (key=[(l.getD k default).number]) then AV.d (.bool true) else AV.d (.bool true))=_
    cases decide (key=[(l.getD k default).number])<;>rfl
  .obtain rfl:k=l.length:=by omega
   (refine gW ?_;intros)
   refine⟨(),Tt,?_,rfl⟩
   repeat' (first|exact Tt|exact rfl|exact Qgx _|refine And.intro ?_ ?_)
   intro key hf
   exact⟨rfl,fun _=>⟨rfl,rfl⟩⟩
theorem Qf8 {α:Type}[Inhabited α](enc:α->List D)(xs:List α)(x:α){n:Nat}(hn:n=xs.length)(i:Nat)(hi:i<n+1):Je n (rowsOf enc xs) (Jr [up (enc x)]) i=rowsOf enc (xs++[x]) i:=by
 subst hn
 exact Di enc xs x _ rfl i (by rw[Jp];exact hi)
def Sn (fr til kn:Int)(g:Nat)(fs:List Fct):Mem:=⟨[],[bX 144 [dV fr,dV til,dV kn,.osl (.arg 1) g 0 fs.length],bV 94 8 g fs.length (rowsOf Qf fs)]⟩
theorem Bv (fr til kn:Int)(g:Nat)(fs:List Fct)(hl:fs.length<=1000000)(kd sub obj val:Int) :
 Qz Tryz.prog 77 [ap 0,dV kd,dV sub,dV obj,dV val] (Sn fr til kn g fs)
  (Ret (fun _:Unit=>([],Sn fr til kn (g+1) (fs++[⟨kd,sub,obj,val,fr,til,kn,fs.length⟩]))) fun _=>True):=by
 unfold Sn
 refine Zv hT (T:=tab) (N:=40) (rs:=[]) _ _ Tryz.func77 rfl rfl rfl Kr rfl ?_
 (refine gS ?_;intros)
 refine Sq.alt (Awp.effsC (m:=⟨[bX 90 (up [di kd,di sub,di obj])],[bX 144 [dV fr,dV til,dV kn,.osl (.arg 1) g 0 fs.length],bV 94 8 g fs.length (rowsOf Qf fs)]⟩) hT Kr Kr Kr
  ⟨[bX 90 (up [di kd,di sub,di obj])],[bX 144 [dV fr,dV til,dV kn,.osl (.arg 1) g 0 fs.length],some .opq]⟩ 1 2
  [⟨19,.d (.int .i64 fs.length),⟨[some (.box 90 (up [.int .i64 kd,.int .i64 sub,.int .i64 obj]))],[some (.box 144 [.d (.int .i64 fr),.d (.int .i64 til),.d (.int .i64 kn),.osl (.arg 1) g 0 fs.length]),some (.vec 94 8 g fs.length (rowsOf Qf fs))]⟩,[]⟩,
   ⟨22,.osl (.arg 1) (g+1) 0 (fs.length+1),⟨[bX 90 (up [di kd,di sub,di obj])],[bX 144 [dV fr,dV til,dV kn,.osl (.arg 1) g 0 fs.length],bV 94 8 (g+1) (fs.length+1) (Je fs.length (rowsOf Qf fs) (Jr [up (Qf ⟨kd,sub,obj,val,fr,til,kn,fs.length⟩)]))]⟩,[21,20,19]⟩,
   ⟨25,.junk,⟨[bX 90 (up [di kd,di sub,di obj])],[bX 144 [dV fr,dV til,dV kn,.osl (.arg 1) (g+1) 0 (fs.length+1)],bV 94 8 (g+1) (fs.length+1) (Je fs.length (rowsOf Qf fs) (Jr [up (Qf ⟨kd,sub,obj,val,fr,til,kn,fs.length⟩)]))]⟩,[22]⟩]
  Kr rfl rfl (Qt.of ⟨.inl rfl,Tt⟩ ⟨.inl rfl,.inr ⟨_,rfl,Qo.opq⟩,Tt⟩) true (fun _=>by kernel_rfl)
  ⟨(Qt.of ⟨.inl rfl,Tt⟩ ⟨.inl rfl,.inr ⟨_,rfl,Qo.opq⟩,Tt⟩),(Qt.of ⟨.inl rfl,Tt⟩ ⟨.inl rfl,.inr ⟨_,rfl,Qo.opq⟩,Tt⟩),.inl rfl⟩ ?_)
 conv=>whnf
 refine⟨?_,?_,?_,?_⟩
 .conv=>whnf
  (refine gS ?_;intros)
  exact⟨rfl,rfl⟩
 .conv=>whnf
  (refine gS ?_;intros)
  exact⟨rfl,rfl⟩
 .conv=>whnf
  (refine gS ?_;intros)
  exact⟨Tt,rfl⟩
 conv=>whnf
 (refine gS ?_;intros)
 refine⟨(),Tt,?_,rfl⟩
 repeat' (first|exact Tt|exact rfl|exact Qgx _|refine And.intro ?_ ?_)
 all_goals first
  | (intro j hj
     refine⟨?_,rfl⟩
     exact Qf8 Qf fs _ rfl j (by rw[Jp]at hj;exact hj))
  | (show AV.osl _ _ _ _=AV.osl _ _ _ _
     rw[Jp]
     done)
  | (rw [Jp]
     done)
  | (rw [Jp]
     exact Qgx _)
  |(rw[Jp];exact⟨rfl,rfl⟩)
structure Cat where
 crs:List Crs
 same:List Pai
 prg:List Prg
 classes:List Cls
 fees:List Fee
 honours:List Cls
 clauses:List Cla
 deriving Inhabited
def Q0 (c:Cat):List D:=[J2 c.crs,Xh c.same,Qw c.prg,Qk c.classes,Jk c.fees,Qk c.honours,Jq c.clauses]
def Wt (c:Cat):Int:=IntKind.i64.wrap (IntKind.i64.wrap (IntKind.i64.wrap ((c.classes.length:Int)+(c.fees.length:Int))+(c.honours.length:Int))+(c.clauses.length:Int))
theorem Q56 {c:Cat}(h:c.classes.length+c.fees.length+c.honours.length+c.clauses.length<=9223372036854775807):Wt c=((c.classes.length+c.fees.length+c.honours.length+c.clauses.length:Nat):Int):=by
 unfold Wt
 have e1:IntKind.i64.wrap ((c.classes.length:Int)+(c.fees.length:Int))=(c.classes.length:Int)+(c.fees.length:Int):=In.wrap (Zz.2 Om)
 have e2:IntKind.i64.wrap ((c.classes.length:Int)+(c.fees.length:Int)+(c.honours.length:Int))=(c.classes.length:Int)+(c.fees.length:Int)+(c.honours.length:Int):=In.wrap (Zz.2 Om)
 have e3:IntKind.i64.wrap ((c.classes.length:Int)+(c.fees.length:Int)+(c.honours.length:Int)+(c.clauses.length:Int))=(c.classes.length:Int)+(c.fees.length:Int)+(c.honours.length:Int)+(c.clauses.length:Int):=In.wrap (Zz.2 Om)
 rw[e1,e2,e3]
 omega
def Vz (c:Cat):Bool:=decide (0<Wt c)
theorem Q4k {c:Cat}(h:c.classes.length+c.fees.length+c.honours.length+c.clauses.length<=9223372036854775807):Vz c=decide (0<c.classes.length+c.fees.length+c.honours.length+c.clauses.length):=by
 unfold Vz
 rw[Q56 h]
 exact decide_eq_decide.2 Om
def dst:List Int->List Int
 |[]=>[]
 |x::r=>if x∈r then dst r else x::dst r
theorem Xy {x:Int}:∀{l:List Int},x∈dst l↔x∈l
 |[]=>Iff.rfl
 | y :: r=>by
   rw[dst]
   by_cases h:y∈r
   .rw[if_pos h,Xy,Qho]
    exact⟨.inr,fun h1=>h1.elim (fun e=>by rw[e];exact h) id⟩
   .rw[if_neg h,Qho,Qho,Xy]
theorem Wy:∀l:List Int,(dst l).Nodup
 |[]=>List.nodup_nil
 | y :: r=>by
   rw[dst]
   by_cases h:y∈r
   .rw[if_pos h]
    exact Wy r
   .rw[if_neg h]
    exact List.nodup_cons.2 ⟨fun h1=>h (Xy.1 h1),Wy r⟩
def Z6 (l:List Crs):Nat:=(dst (Jh l)).length
theorem Q2h {l:List Crs}{qs:List (List Int)}(q1:qs.Nodup)(q2:∀k∈qs,(Ksh.one .i64).fits k/\Jc (U6 l) l.length k=true)(q3:∀k,(Ksh.one .i64).fits k->Jc (U6 l) l.length k=true->k∈qs):qs.length=Z6 l:=by
 have e:((dst (Jh l)).map fun n=>[n]).length=Z6 l:=Qhb ..
 rw[<-e]
 have hm:∀key,key∈U6 l↔key∈(dst (Jh l)).map fun n=>[n]:=fun key=>by
  rw[U6,Qhw,Qhw]
  exact⟨fun⟨a,h,e⟩=>⟨a,Xy.2 h,e⟩,fun⟨a,h,e⟩=>⟨a,Xy.1 h,e⟩⟩
 refine U7 q1 (Gy (f:=fun n:Int=>[n]) (fun a b h=>by injection h) (Wy _)) fun key=>⟨fun h=>?_,fun h=>?_⟩
 .have:=(q2 key h).2
  unfold Jc at this
  rw[Qhn (by rw[Sw];exact Qgx _)]at this
  exact(hm key).1 (Qhd this)
 .have h:=(hm key).2 h
  refine q3 key ?_ ?_
  .obtain⟨n,_,rfl⟩:=Qhw.1 h
   rfl
  .unfold Jc
   rw[Qhn (by rw[Sw];exact Qgx _)]
   exact Qh8 h
def Zu (fr til kn:Int)(fs:List Fct)(q:Int × Int × Int × Int):List Fct:=fs++[⟨q.1,q.2.1,q.2.2.1,q.2.2.2,fr,til,kn,fs.length⟩]
theorem Bu (fr til kn:Int)(fs:List Fct)(q:Int × Int × Int × Int):(Zu fr til kn fs q).length=fs.length+1:=by rw[Zu,Qhc];rfl
def Qh (fr til kn:Int)(fs:List Fct)(qs:List (Int × Int × Int × Int)):List Fct:=qs.foldl (Zu fr til kn) fs
theorem Um (fr til kn:Int):∀(qs:List (Int × Int × Int × Int)) (fs:List Fct),(Qh fr til kn fs qs).length=fs.length+qs.length
 |[],fs=>rfl
 | q :: r,fs=>by
   show(Qh fr til kn (Zu fr til kn fs q) r).length=_
   rw[Um fr til kn r,Bu,Qhs]
   omega
theorem Kk (fr til kn:Int)(fs:List Fct)(a b:List (Int × Int × Int × Int)):Qh fr til kn fs (a++b)=Qh fr til kn (Qh fr til kn fs a) b:=List.foldl_append
theorem R4 (fr til kn:Int)(fs:List Fct)(a:List (Int × Int × Int × Int))(q:Int × Int × Int × Int):Qh fr til kn fs (a++[q])=Zu fr til kn (Qh fr til kn fs a) q:=by
 rw[Kk]
 rfl
def J5 (kd:Int)(off:Nat){α:Type}[Inhabited α](f:α->Int)(l:List α):Nat->List (Int × Int × Int × Int)
 |0=>[]
 |k+1=>J5 kd off f l k++[(kd,f (l.getD k default),0,((off:Nat):Int)+(k:Int))]
theorem Gh (kd:Int)(off:Nat){α:Type}[Inhabited α](f:α->Int)(l:List α):∀k,(J5 kd off f l k).length=k
 |0=>rfl
 |k+1=>by rw[J5,Qhc,Gh];rfl
def Zi (l:List Pai):Nat->List (Int × Int × Int × Int)
 |0=>[]
 |k+1=>Zi l k++[(2,min (l.getD k default).x (l.getD k default).y,max (l.getD k default).x (l.getD k default).y,1)]
theorem Mm (l:List Pai):∀k,(Zi l k).length=k
 |0=>rfl
 |k+1=>by rw[Zi,Qhc,Mm];rfl
def Qq (c:Cat):Sys:=⟨c.classes,c.fees,c.honours,c.clauses⟩
def L8 (b:Bok)(c:Cat):List (Int × Int × Int × Int):=J5 1 b.crs.length (fun x:Crs=>x.number) c.crs c.crs.length++J5 3 b.prg.length (fun x:Prg=>x.number) c.prg c.prg.length++Zi c.same c.same.length
def Wn (b:Bok)(c:Cat):List (Int × Int × Int × Int):=if Vz c=true then[(4,0,0,(b.sys.length:Int))] else[]
def L7 (b l:List Crs)(kn:Int)(fs:List Fct):List Fct:=if Z6 b<Z6 l then Zu 0 1024 kn fs (12,0,0,(Z6 l:Int)) else fs
def W4 (b:Bok)(c:Cat):Bok:=⟨b.crs++c.crs,b.prg++c.prg,b.sys++(if Vz c=true then[Qq c] else[])⟩
def Y1 (b:Bok)(c:Cat)(fr til kn:Int):List Fct:=L7 b.crs (b.crs++c.crs) kn (Qh fr til kn [] (L8 b c++Wn b c))
def Yf (p:Pai):Bool:=bw p.x 0 4095&&bw p.y 0 4095
def B8 (fr til kn:Int):Bool:=decide (0<=fr)&&(decide (fr<til)&&(decide (til<=1024)&&bw kn 1 16777216))
def T1:Bok:=⟨[],[],[]⟩
end Go.Proofs.YtmlhghddfobmmaaGreatDoor
