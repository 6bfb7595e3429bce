import Derived.Test.YtmlhghddfobmmaaGreatDoorFewB
import Derived.Test.YtmlhghddfobmmaaGreatDoorNmC
import Derived.Test.YtmlhghddfobmmaaGreatDoorNamP
import Derived.Test.YtmlhghddfobmmaaGreatDoorEngAP
import Derived.Test.YtmlhghddfobmmaaGreatDoorChecked
namespace Go.Proofs.YtmlhghddfobmmaaGreatDoor
set_option linter.unusedSimpArgs false
set_option linter.unusedVariables false
open Go Go.Ab
open Go.ChangeShapes Go.WideShapes Go.ChangeAt Go.RowKit
set_option maxRecDepth 100000
theorem own:ownKnob Tryz.prog.godebug=none:=by kernel_rfl
theorem laidOut:laidOutB Tryz.prog=true:=by kernel_rfl
theorem fitMax {n:Nat}(h:n<=maxLen):n<=9223372036854775807:=Nat.le_trans h Dc
theorem in_wf {i:Int}(h:(Lit.int .i64 i).wf=true):In .i64 i:=by
 simp only[Lit.wf,Bool.and_eq_true,decide_eq_true_eq]at h
 exact h
def fldsOk (P:Program)(w:World)(cs:List Value):List Field->List (List D)->Prop
 |[],[]=>True
 |f::fs,p::ps=>RdL w p ((cs.drop f.offset).take (P.cellsOf f.type))/\fldsOk P w cs fs ps
 |_,_=>False
theorem fldsOk.at {P:Program}{w:World}{cs:List Value}:∀{fs:List Field} {ps:List (List D)},fldsOk P w cs fs ps->ps.length=fs.length/\∀(j:Nat) f p,fs[j]?=some f->ps[j]?=some p->RdL w p ((cs.drop f.offset).take (P.cellsOf f.type))
 |[],[],_=>⟨rfl,fun j f p h=>by simp at h⟩
 | f :: fs,q :: ps,h=>by
   obtain⟨h1,h2⟩:=fldsOk.at h.2
   refine⟨by simp[h1],fun j f' p' hf hp=>?_⟩
   cases j with
   |zero=>simp at hf hp;subst hf;subst hp;exact h.1
   |succ j=>exact h2 j f' p' (by simpa using hf) (by simpa using hp)
 |[],_::_,h=>h.elim
 |_::_,[],h=>h.elim
section
variable {H:Type}{enc:TypeId × Value->H}{w:World}
theorem opens_st {t:TypeId}(ht:t<Tryz.prog.types.size){fs:Array Field}(hu:Tryz.prog.underlying t=some (.struct fs)){m:Nat}{cs:List Value}{x:DataW H × List MemPlace}(h:DataW.trod enc Tryz.prog w 0 (fun _=>true) true m t cs=some x) :
 ∃ m',m=m' + 1∧(∀ (j:Nat) f,fs.toList[j]?=some f→∃ y,DataW.trod enc Tryz.prog w 0 (fun _=>true) true m' f.type ((cs.drop f.offset).take (Tryz.prog.cellsOf f.type))=some y) ∧
   ∀ps:List (List D),fldsOk Tryz.prog w cs fs.toList ps->RdL w ps.flatten cs:=by
 obtain⟨m',h1,h2,h3⟩:=opens_fields laidOut ht hu h
 refine⟨m',h1,fun j f hj=>h2 j f (by simpa using hj),fun ps hp=>?_⟩
 obtain⟨h4,h5⟩:=hp.at
 exact h3 ps (by simpa using h4) fun j f p hj hq=>h5 j f p (by simpa using hj) hq
theorem opens_i (m:Nat):Opens enc Tryz.prog w m 3 (fun i:Int=>[D.int .i64 i]) fun i=>In .i64 i:=fun cs x h=>by
 obtain⟨i,h1,h2⟩:=opens_int Tryz.underlying3 m cs x h
 exact⟨i,in_wf h1,h2⟩
theorem opens_s (m:Nat):Opens enc Tryz.prog w m 9 (fun s:ByteArray=>[D.str s]) fun s=>s.size<=9223372036854775807:=fun cs x h=>by
 obtain⟨s,h1,h2⟩:=opens_str Tryz.underlying9 m cs x h
 exact⟨s,fitMax h1,h2⟩
theorem opens_b (m:Nat):Opens enc Tryz.prog w m 4 (fun b:Bool=>[D.bool b]) fun _=>True:=opens_bool Tryz.underlying4 m
def okRule (r:Rule):Prop:=wfR r/\r.name.size<=9223372036854775807
theorem opens_rule:∀(n m:Nat),m<n->Opens enc Tryz.prog w m 66 eRule okRule
 |0,m,hm=>absurd hm (Nat.not_lt_zero m)
 | n + 1,m,hm=>fun cs x h=>by
   obtain⟨m',rfl,hf,hall⟩:=opens_st (of_decide_eq_true Kr) Tryz.underlying66 h
   obtain⟨y0,h0⟩:=hf 0 _ rfl
   obtain⟨a0,k0,r0⟩:=opens_i m' _ _ h0
   obtain⟨y1,h1⟩:=hf 1 _ rfl
   obtain⟨a1,k1,r1⟩:=opens_i m' _ _ h1
   obtain⟨y2,h2⟩:=hf 2 _ rfl
   obtain⟨a2,k2,r2⟩:=opens_s m' _ _ h2
   obtain⟨y3,h3⟩:=hf 3 _ rfl
   obtain⟨a3,k3,r3⟩:=opens_i m' _ _ h3
   obtain⟨y4,h4⟩:=hf 4 _ rfl
   obtain⟨a4,k4,r4⟩:=opens_i m' _ _ h4
   obtain⟨y5,h5⟩:=hf 5 _ rfl
   obtain⟨ks,k5,r5⟩:=opens_slice laidOut (t:=64) (et:=66) (sz:=6) (of_decide_eq_true Kr) Kr Kr Dc (e:=eRule) (ok:=okRule) (m:=m') (fun m2 hm2=>opens_rule n m2 Om) _ _ h5
   have hq:DEq (D.sl 6 ks.length fun i=>eRule (ks.getD i default)) (eRules ks):=by
    cases ks with
    |nil=>rw[eRules_nil];exact⟨rfl,rfl,fun i hi=>absurd hi (Nat.not_lt_zero i)⟩
    |cons r rs=>rw[eRules_ne (by simp)];exact⟨rfl,rfl,fun i hi=>rfl⟩
   have r6:RdL w [eRules ks] ((cs.drop _).take _):=⟨r5.1,fun j d u hd hu=>by
    match j,hd with
    | 0,hd =>
      cases hd
      obtain⟨g1,g2⟩:=r5.2 0 _ u rfl hu
      exact⟨DEq.ok g1 hq,g2⟩
    |j+1,hd=>simp at hd⟩
   refine⟨.mk a0 a1 a2 a3 a4 ks,⟨?_,k2⟩,?_⟩
   .intro q hq
    rw[preR_eq]at hq
    rcases List.mem_cons.1 hq with rfl|hq
    .exact⟨k0,k1,k3,k4,Nat.lt_succ_of_le (fitMax k5.1)⟩
    .obtain⟨k,hk,hq⟩:=preL_mem.1 hq
     exact wfR_any (k5.2 k hk).1 _ q hq
   .exact hall [[D.int .i64 a0],[D.int .i64 a1],[D.str a2],[D.int .i64 a3],[D.int .i64 a4],[eRules ks]] ⟨r0,r1,r2,r3,r4,r6,Tt⟩
theorem opens_rl (m:Nat):Opens enc Tryz.prog w m 66 eRule okRule:=opens_rule (m+1) m (Nat.lt_succ_self m)
def okCrs1 (c:Crs):Prop:=(okRule c.need/\okRule c.bar)/\(In .i64 c.number/\In .i64 c.credits/\In .i64 c.rep)
theorem opens_crs (m:Nat):Opens enc Tryz.prog w m 68 eCrs okCrs1:=fun cs x h=>by
 obtain⟨m',rfl,hf,hall⟩:=opens_st (of_decide_eq_true Kr) Tryz.underlying68 h
 obtain⟨y0,h0⟩:=hf 0 _ rfl
 obtain⟨a0,k0,r0⟩:=opens_s m' _ _ h0
 obtain⟨y1,h1⟩:=hf 1 _ rfl
 obtain⟨a1,k1,r1⟩:=opens_i m' _ _ h1
 obtain⟨y2,h2⟩:=hf 2 _ rfl
 obtain⟨a2,k2,r2⟩:=opens_i m' _ _ h2
 obtain⟨y3,h3⟩:=hf 3 _ rfl
 obtain⟨a3,k3,r3⟩:=opens_i m' _ _ h3
 obtain⟨y4,h4⟩:=hf 4 _ rfl
 obtain⟨a4,k4,r4⟩:=opens_rl m' _ _ h4
 obtain⟨y5,h5⟩:=hf 5 _ rfl
 obtain⟨a5,k5,r5⟩:=opens_rl m' _ _ h5
 refine⟨⟨a0,a1,a2,a3,a4,a5⟩,⟨⟨k4,k5⟩,k1,k2,k3⟩,?_⟩
 exact hall [[D.str a0],[D.int .i64 a1],[D.int .i64 a2],[D.int .i64 a3],eRule a4,eRule a5] ⟨r0,r1,r2,r3,r4,r5,Tt⟩
theorem opens_crss (m:Nat):Opens enc Tryz.prog w m 22 (fun xs:List Crs=>[eCrss xs]) fun xs=>fitL xs/\∀a∈xs,okCrs1 a:=fun cs x h=>by
 obtain⟨xs,h1,h2⟩:=opens_slice laidOut (t:=22) (et:=68) (sz:=16) (of_decide_eq_true Kr) Kr Kr Dc (e:=eCrs) (ok:=okCrs1) (m:=m) (fun m' _=>opens_crs m') cs x h
 exact⟨xs,⟨fitMax h1.1,h1.2⟩,h2⟩
theorem opens_strs (m:Nat):Opens enc Tryz.prog w m 104 (fun xs:List ByteArray=>[eStrs xs]) fun xs=>fitL xs/\∀a∈xs,(fun s:ByteArray=>s.size<=9223372036854775807) a:=fun cs x h=>by
 obtain⟨xs,h1,h2⟩:=opens_slice laidOut (t:=104) (et:=9) (sz:=1) (of_decide_eq_true Kr) Kr Kr Dc (e:=(fun s:ByteArray=>[D.str s])) (ok:=(fun s:ByteArray=>s.size<=9223372036854775807)) (m:=m) (fun m' _=>opens_s m') cs x h
 exact⟨xs,⟨fitMax h1.1,h1.2⟩,h2⟩
theorem opens_ints (m:Nat):Opens enc Tryz.prog w m 53 (fun xs:List Int=>[eInts xs]) fun xs=>fitL xs/\∀a∈xs,(fun i:Int=>In .i64 i) a:=fun cs x h=>by
 obtain⟨xs,h1,h2⟩:=opens_slice laidOut (t:=53) (et:=3) (sz:=1) (of_decide_eq_true Kr) Kr Kr Dc (e:=(fun i:Int=>[D.int .i64 i])) (ok:=(fun i:Int=>In .i64 i)) (m:=m) (fun m' _=>opens_i m') cs x h
 exact⟨xs,⟨fitMax h1.1,h1.2⟩,h2⟩
def okReq1 (q:Req):Prop:=wfReq q/\(In .i64 q.credits/\In .i64 q.grade/\(∀n∈q.fr,In .i64 n))/\q.name.size<=9223372036854775807
theorem opens_req (m:Nat):Opens enc Tryz.prog w m 106 eReq okReq1:=fun cs x h=>by
 obtain⟨m',rfl,hf,hall⟩:=opens_st (of_decide_eq_true Kr) Tryz.underlying106 h
 obtain⟨y0,h0⟩:=hf 0 _ rfl
 obtain⟨a0,k0,r0⟩:=opens_s m' _ _ h0
 obtain⟨y1,h1⟩:=hf 1 _ rfl
 obtain⟨a1,k1,r1⟩:=opens_i m' _ _ h1
 obtain⟨y2,h2⟩:=hf 2 _ rfl
 obtain⟨a2,k2,r2⟩:=opens_i m' _ _ h2
 obtain⟨y3,h3⟩:=hf 3 _ rfl
 obtain⟨a3,k3,r3⟩:=opens_b m' _ _ h3
 obtain⟨y4,h4⟩:=hf 4 _ rfl
 obtain⟨a4,k4,r4⟩:=opens_strs m' _ _ h4
 obtain⟨y5,h5⟩:=hf 5 _ rfl
 obtain⟨a5,k5,r5⟩:=opens_ints m' _ _ h5
 refine⟨⟨a0,a1,a2,a3,a4,a5⟩,⟨⟨k4.1,k5.1⟩,⟨k1,k2,k5.2⟩,k0⟩,?_⟩
 exact hall [[D.str a0],[D.int .i64 a1],[D.int .i64 a2],[D.bool a3],[eStrs a4],[eInts a5]] ⟨r0,r1,r2,r3,r4,r5,Tt⟩
theorem opens_reqs (m:Nat):Opens enc Tryz.prog w m 76 (fun xs:List Req=>[eReqs xs]) fun xs=>fitL xs/\∀a∈xs,okReq1 a:=fun cs x h=>by
 obtain⟨xs,h1,h2⟩:=opens_slice laidOut (t:=76) (et:=106) (sz:=6) (of_decide_eq_true Kr) Kr Kr Dc (e:=eReq) (ok:=okReq1) (m:=m) (fun m' _=>opens_req m') cs x h
 exact⟨xs,⟨fitMax h1.1,h1.2⟩,h2⟩
def eRat (q:Int × Int):List D:=[.int .i64 q.1,.int .i64 q.2]
def okRat (q:Int × Int):Prop:=In .i64 q.1/\In .i64 q.2
theorem opens_rat (m:Nat):Opens enc Tryz.prog w m 75 eRat okRat:=fun cs x h=>by
 obtain⟨m',rfl,hf,hall⟩:=opens_st (of_decide_eq_true Kr) Tryz.underlying75 h
 obtain⟨y0,h0⟩:=hf 0 _ rfl
 obtain⟨a0,k0,r0⟩:=opens_i m' _ _ h0
 obtain⟨y1,h1⟩:=hf 1 _ rfl
 obtain⟨a1,k1,r1⟩:=opens_i m' _ _ h1
 refine⟨(a0,a1),⟨k0,k1⟩,?_⟩
 exact hall [[D.int .i64 a0],[D.int .i64 a1]] ⟨r0,r1,Tt⟩
def okPrg1 (q:Prg):Prop:=(In .i64 q.mn/\In .i64 q.md)/\(fitL q.reqs/\∀x∈q.reqs,okReq1 x)/\(In .i64 q.number/\In .i64 q.uses/\In .i64 q.earn)
theorem opens_prg (m:Nat):Opens enc Tryz.prog w m 78 ePrg okPrg1:=fun cs x h=>by
 obtain⟨m',rfl,hf,hall⟩:=opens_st (of_decide_eq_true Kr) Tryz.underlying78 h
 obtain⟨y0,h0⟩:=hf 0 _ rfl
 obtain⟨a0,k0,r0⟩:=opens_s m' _ _ h0
 obtain⟨y1,h1⟩:=hf 1 _ rfl
 obtain⟨a1,k1,r1⟩:=opens_i m' _ _ h1
 obtain⟨y2,h2⟩:=hf 2 _ rfl
 obtain⟨a2,k2,r2⟩:=opens_i m' _ _ h2
 obtain⟨y3,h3⟩:=hf 3 _ rfl
 obtain⟨a3,k3,r3⟩:=opens_i m' _ _ h3
 obtain⟨y4,h4⟩:=hf 4 _ rfl
 obtain⟨a4,k4,r4⟩:=opens_rat m' _ _ h4
 obtain⟨y5,h5⟩:=hf 5 _ rfl
 obtain⟨a5,k5,r5⟩:=opens_reqs m' _ _ h5
 refine⟨⟨a0,a1,a2,a3,a4.1,a4.2,a5⟩,⟨k4,k5,k1,k2,k3⟩,?_⟩
 exact hall [[D.str a0],[D.int .i64 a1],[D.int .i64 a2],[D.int .i64 a3],eRat a4,[eReqs a5]] ⟨r0,r1,r2,r3,r4,r5,Tt⟩
theorem opens_prgs (m:Nat):Opens enc Tryz.prog w m 23 (fun xs:List Prg=>[ePrgs xs]) fun xs=>fitL xs/\∀a∈xs,okPrg1 a:=fun cs x h=>by
 obtain⟨xs,h1,h2⟩:=opens_slice laidOut (t:=23) (et:=78) (sz:=7) (of_decide_eq_true Kr) Kr Kr Dc (e:=ePrg) (ok:=okPrg1) (m:=m) (fun m' _=>opens_prg m') cs x h
 exact⟨xs,⟨fitMax h1.1,h1.2⟩,h2⟩
theorem opens_cls (m:Nat):Opens enc Tryz.prog w m 122 eCls wfCls:=fun cs x h=>by
 obtain⟨m',rfl,hf,hall⟩:=opens_st (of_decide_eq_true Kr) Tryz.underlying122 h
 obtain⟨y0,h0⟩:=hf 0 _ rfl
 obtain⟨a0,k0,r0⟩:=opens_s m' _ _ h0
 obtain⟨y1,h1⟩:=hf 1 _ rfl
 obtain⟨a1,k1,r1⟩:=opens_i m' _ _ h1
 obtain⟨y2,h2⟩:=hf 2 _ rfl
 obtain⟨a2,k2,r2⟩:=opens_rat m' _ _ h2
 refine⟨⟨a0,a1,a2.1,a2.2⟩,k2,?_⟩
 exact hall [[D.str a0],[D.int .i64 a1],eRat a2] ⟨r0,r1,r2,Tt⟩
theorem opens_clss (m:Nat):Opens enc Tryz.prog w m 28 (fun xs:List Cls=>[eClss xs]) fun xs=>fitL xs/\∀a∈xs,wfCls a:=fun cs x h=>by
 obtain⟨xs,h1,h2⟩:=opens_slice laidOut (t:=28) (et:=122) (sz:=4) (of_decide_eq_true Kr) Kr Kr Dc (e:=eCls) (ok:=wfCls) (m:=m) (fun m' _=>opens_cls m') cs x h
 exact⟨xs,⟨fitMax h1.1,h1.2⟩,h2⟩
def okAny {α:Type}(_:α):Prop:=True
theorem opens_fee (m:Nat):Opens enc Tryz.prog w m 126 eFee okAny:=fun cs x h=>by
 obtain⟨m',rfl,hf,hall⟩:=opens_st (of_decide_eq_true Kr) Tryz.underlying126 h
 obtain⟨y0,h0⟩:=hf 0 _ rfl
 obtain⟨a0,k0,r0⟩:=opens_s m' _ _ h0
 obtain⟨y1,h1⟩:=hf 1 _ rfl
 obtain⟨a1,k1,r1⟩:=opens_i m' _ _ h1
 refine⟨⟨a0,a1⟩,Tt,?_⟩
 exact hall [[D.str a0],[D.int .i64 a1]] ⟨r0,r1,Tt⟩
theorem opens_fees (m:Nat):Opens enc Tryz.prog w m 29 (fun xs:List Fee=>[eFees xs]) fun xs=>fitL xs/\∀a∈xs,okAny a:=fun cs x h=>by
 obtain⟨xs,h1,h2⟩:=opens_slice laidOut (t:=29) (et:=126) (sz:=2) (of_decide_eq_true Kr) Kr Kr Dc (e:=eFee) (ok:=okAny) (m:=m) (fun m' _=>opens_fee m') cs x h
 exact⟨xs,⟨fitMax h1.1,h1.2⟩,h2⟩
theorem opens_cla (m:Nat):Opens enc Tryz.prog w m 168 eCla okAny:=fun cs x h=>by
 obtain⟨m',rfl,hf,hall⟩:=opens_st (of_decide_eq_true Kr) Tryz.underlying168 h
 obtain⟨y0,h0⟩:=hf 0 _ rfl
 obtain⟨a0,k0,r0⟩:=opens_i m' _ _ h0
 obtain⟨y1,h1⟩:=hf 1 _ rfl
 obtain⟨a1,k1,r1⟩:=opens_i m' _ _ h1
 obtain⟨y2,h2⟩:=hf 2 _ rfl
 obtain⟨a2,k2,r2⟩:=opens_i m' _ _ h2
 obtain⟨y3,h3⟩:=hf 3 _ rfl
 obtain⟨a3,k3,r3⟩:=opens_i m' _ _ h3
 refine⟨⟨a0,a1,a2,a3⟩,Tt,?_⟩
 exact hall [[D.int .i64 a0],[D.int .i64 a1],[D.int .i64 a2],[D.int .i64 a3]] ⟨r0,r1,r2,r3,Tt⟩
theorem opens_clas (m:Nat):Opens enc Tryz.prog w m 30 (fun xs:List Cla=>[eClas xs]) fun xs=>fitL xs/\∀a∈xs,okAny a:=fun cs x h=>by
 obtain⟨xs,h1,h2⟩:=opens_slice laidOut (t:=30) (et:=168) (sz:=4) (of_decide_eq_true Kr) Kr Kr Dc (e:=eCla) (ok:=okAny) (m:=m) (fun m' _=>opens_cla m') cs x h
 exact⟨xs,⟨fitMax h1.1,h1.2⟩,h2⟩
theorem opens_sys (m:Nat):Opens enc Tryz.prog w m 83 eSys wfSys:=fun cs x h=>by
 obtain⟨m',rfl,hf,hall⟩:=opens_st (of_decide_eq_true Kr) Tryz.underlying83 h
 obtain⟨y0,h0⟩:=hf 0 _ rfl
 obtain⟨a0,k0,r0⟩:=opens_clss m' _ _ h0
 obtain⟨y1,h1⟩:=hf 1 _ rfl
 obtain⟨a1,k1,r1⟩:=opens_fees m' _ _ h1
 obtain⟨y2,h2⟩:=hf 2 _ rfl
 obtain⟨a2,k2,r2⟩:=opens_clss m' _ _ h2
 obtain⟨y3,h3⟩:=hf 3 _ rfl
 obtain⟨a3,k3,r3⟩:=opens_clas m' _ _ h3
 refine⟨⟨a0,a1,a2,a3⟩,⟨k0,k2,k1.1,k3.1⟩,?_⟩
 exact hall [[eClss a0],[eFees a1],[eClss a2],[eClas a3]] ⟨r0,r1,r2,r3,Tt⟩
theorem opens_syss (m:Nat):Opens enc Tryz.prog w m 24 (fun xs:List Sys=>[eSyss xs]) fun xs=>fitL xs/\∀a∈xs,wfSys a:=fun cs x h=>by
 obtain⟨xs,h1,h2⟩:=opens_slice laidOut (t:=24) (et:=83) (sz:=4) (of_decide_eq_true Kr) Kr Kr Dc (e:=eSys) (ok:=wfSys) (m:=m) (fun m' _=>opens_sys m') cs x h
 exact⟨xs,⟨fitMax h1.1,h1.2⟩,h2⟩
def okPai (q:Pai):Prop:=In .i64 q.x/\In .i64 q.y
theorem opens_pai (m:Nat):Opens enc Tryz.prog w m 131 ePai okPai:=fun cs x h=>by
 obtain⟨m',rfl,hf,hall⟩:=opens_st (of_decide_eq_true Kr) Tryz.underlying131 h
 obtain⟨y0,h0⟩:=hf 0 _ rfl
 obtain⟨a0,k0,r0⟩:=opens_s m' _ _ h0
 obtain⟨y1,h1⟩:=hf 1 _ rfl
 obtain⟨a1,k1,r1⟩:=opens_s m' _ _ h1
 obtain⟨y2,h2⟩:=hf 2 _ rfl
 obtain⟨a2,k2,r2⟩:=opens_i m' _ _ h2
 obtain⟨y3,h3⟩:=hf 3 _ rfl
 obtain⟨a3,k3,r3⟩:=opens_i m' _ _ h3
 refine⟨⟨a0,a1,a2,a3⟩,⟨k2,k3⟩,?_⟩
 exact hall [[D.str a0],[D.str a1],[D.int .i64 a2],[D.int .i64 a3]] ⟨r0,r1,r2,r3,Tt⟩
theorem opens_pais (m:Nat):Opens enc Tryz.prog w m 27 (fun xs:List Pai=>[ePais xs]) fun xs=>fitL xs/\∀a∈xs,okPai a:=fun cs x h=>by
 obtain⟨xs,h1,h2⟩:=opens_slice laidOut (t:=27) (et:=131) (sz:=4) (of_decide_eq_true Kr) Kr Kr Dc (e:=ePai) (ok:=okPai) (m:=m) (fun m' _=>opens_pai m') cs x h
 exact⟨xs,⟨fitMax h1.1,h1.2⟩,h2⟩
def eSpn2 (q:Int × Int):List D:=[.int .i64 q.1,.int .i64 q.2]
theorem opens_spn (m:Nat):Opens enc Tryz.prog w m 34 eSpn2 okRat:=fun cs x h=>by
 obtain⟨m',rfl,hf,hall⟩:=opens_st (of_decide_eq_true Kr) Tryz.underlying34 h
 obtain⟨y0,h0⟩:=hf 0 _ rfl
 obtain⟨a0,k0,r0⟩:=opens_i m' _ _ h0
 obtain⟨y1,h1⟩:=hf 1 _ rfl
 obtain⟨a1,k1,r1⟩:=opens_i m' _ _ h1
 refine⟨(a0,a1),⟨k0,k1⟩,?_⟩
 exact hall [[D.int .i64 a0],[D.int .i64 a1]] ⟨r0,r1,Tt⟩
def okKe (k:Ke):Prop:=In .i64 k.kind/\In .i64 k.subject/\In .i64 k.object
theorem opens_ke (m:Nat):Opens enc Tryz.prog w m 90 eKe okKe:=fun cs x h=>by
 obtain⟨m',rfl,hf,hall⟩:=opens_st (of_decide_eq_true Kr) Tryz.underlying90 h
 obtain⟨y0,h0⟩:=hf 0 _ rfl
 obtain⟨a0,k0,r0⟩:=opens_i m' _ _ h0
 obtain⟨y1,h1⟩:=hf 1 _ rfl
 obtain⟨a1,k1,r1⟩:=opens_i m' _ _ h1
 obtain⟨y2,h2⟩:=hf 2 _ rfl
 obtain⟨a2,k2,r2⟩:=opens_i m' _ _ h2
 refine⟨⟨a0,a1,a2⟩,⟨k0,k1,k2⟩,?_⟩
 exact hall [[D.int .i64 a0],[D.int .i64 a1],[D.int .i64 a2]] ⟨r0,r1,r2,Tt⟩
def okFct (f:Fct):Prop:=okKe (kOf f)/\In .i64 f.value/\(In .i64 f.fr/\In .i64 f.til)/\In .i64 f.known/\In .i64 f.no
theorem opens_fct (m:Nat):Opens enc Tryz.prog w m 94 eFct okFct:=fun cs x h=>by
 obtain⟨m',rfl,hf,hall⟩:=opens_st (of_decide_eq_true Kr) Tryz.underlying94 h
 obtain⟨y0,h0⟩:=hf 0 _ rfl
 obtain⟨a0,k0,r0⟩:=opens_ke m' _ _ h0
 obtain⟨y1,h1⟩:=hf 1 _ rfl
 obtain⟨a1,k1,r1⟩:=opens_i m' _ _ h1
 obtain⟨y2,h2⟩:=hf 2 _ rfl
 obtain⟨a2,k2,r2⟩:=opens_spn m' _ _ h2
 obtain⟨y3,h3⟩:=hf 3 _ rfl
 obtain⟨a3,k3,r3⟩:=opens_i m' _ _ h3
 obtain⟨y4,h4⟩:=hf 4 _ rfl
 obtain⟨a4,k4,r4⟩:=opens_i m' _ _ h4
 refine⟨⟨a0.kind,a0.subject,a0.object,a1,a2.1,a2.2,a3,a4⟩,⟨k0,k1,k2,k3,k4⟩,?_⟩
 exact hall [eKe a0,[D.int .i64 a1],eSpn2 a2,[D.int .i64 a3],[D.int .i64 a4]] ⟨r0,r1,r2,r3,r4,Tt⟩
theorem opens_fcts (m:Nat):Opens enc Tryz.prog w m 42 (fun xs:List Fct=>[eFcts xs]) fun xs=>fitL xs/\∀a∈xs,okFct a:=fun cs x h=>by
 obtain⟨xs,h1,h2⟩:=opens_slice laidOut (t:=42) (et:=94) (sz:=8) (of_decide_eq_true Kr) Kr Kr Dc (e:=eFct) (ok:=okFct) (m:=m) (fun m' _=>opens_fct m') cs x h
 exact⟨xs,⟨fitMax h1.1,h1.2⟩,h2⟩
def okBok (b:Bok):Prop:=(fitL b.crs/\∀c∈b.crs,okCrs1 c)/\(fitL b.prg/\∀q∈b.prg,okPrg1 q)/\(fitL b.sys/\∀s∈b.sys,wfSys s)
theorem opens_bok (m:Nat):Opens enc Tryz.prog w m 26 eBok okBok:=fun cs x h=>by
 obtain⟨m',rfl,hf,hall⟩:=opens_st (of_decide_eq_true Kr) Tryz.underlying26 h
 obtain⟨y0,h0⟩:=hf 0 _ rfl
 obtain⟨a0,k0,r0⟩:=opens_crss m' _ _ h0
 obtain⟨y1,h1⟩:=hf 1 _ rfl
 obtain⟨a1,k1,r1⟩:=opens_prgs m' _ _ h1
 obtain⟨y2,h2⟩:=hf 2 _ rfl
 obtain⟨a2,k2,r2⟩:=opens_syss m' _ _ h2
 refine⟨⟨a0,a1,a2⟩,⟨k0,k1,k2⟩,?_⟩
 exact hall [[eCrss a0],[ePrgs a1],[eSyss a2]] ⟨r0,r1,r2,Tt⟩
def okWor (q:Wor):Prop:=okBok q.bok/\fitL q.fcts/\∀f∈q.fcts,okFct f
theorem opens_wor (m:Nat):Opens enc Tryz.prog w m 51 eWor okWor:=fun cs x h=>by
 obtain⟨m',rfl,hf,hall⟩:=opens_st (of_decide_eq_true Kr) Tryz.underlying51 h
 obtain⟨y0,h0⟩:=hf 0 _ rfl
 obtain⟨a0,k0,r0⟩:=opens_bok m' _ _ h0
 obtain⟨y1,h1⟩:=hf 1 _ rfl
 obtain⟨a1,k1,r1⟩:=opens_fcts m' _ _ h1
 refine⟨⟨a0,a1⟩,⟨k0,k1⟩,?_⟩
 exact hall [eBok a0,[eFcts a1]] ⟨r0,r1,Tt⟩
def okCat (c:Cat):Prop:=(fitL c.crs/\∀x∈c.crs,okCrs1 x)/\(fitL c.same/\∀x∈c.same,okPai x)/\(fitL c.prg/\∀q∈c.prg,okPrg1 q)/\(fitL c.classes/\∀x∈c.classes,wfCls x)/\fitL c.fees/\(fitL c.honours/\∀x∈c.honours,wfCls x)/\fitL c.clauses
theorem opens_cat (m:Nat):Opens enc Tryz.prog w m 32 eCat okCat:=fun cs x h=>by
 obtain⟨m',rfl,hf,hall⟩:=opens_st (of_decide_eq_true Kr) Tryz.underlying32 h
 obtain⟨y0,h0⟩:=hf 0 _ rfl
 obtain⟨a0,k0,r0⟩:=opens_crss m' _ _ h0
 obtain⟨y1,h1⟩:=hf 1 _ rfl
 obtain⟨a1,k1,r1⟩:=opens_pais m' _ _ h1
 obtain⟨y2,h2⟩:=hf 2 _ rfl
 obtain⟨a2,k2,r2⟩:=opens_prgs m' _ _ h2
 obtain⟨y3,h3⟩:=hf 3 _ rfl
 obtain⟨a3,k3,r3⟩:=opens_clss m' _ _ h3
 obtain⟨y4,h4⟩:=hf 4 _ rfl
 obtain⟨a4,k4,r4⟩:=opens_fees m' _ _ h4
 obtain⟨y5,h5⟩:=hf 5 _ rfl
 obtain⟨a5,k5,r5⟩:=opens_clss m' _ _ h5
 obtain⟨y6,h6⟩:=hf 6 _ rfl
 obtain⟨a6,k6,r6⟩:=opens_clas m' _ _ h6
 refine⟨⟨a0,a1,a2,a3,a4,a5,a6⟩,⟨k0,k1,k2,k3,k4.1,k5,k6.1⟩,?_⟩
 exact hall [[eCrss a0],[ePais a1],[ePrgs a2],[eClss a3],[eFees a4],[eClss a5],[eClas a6]] ⟨r0,r1,r2,r3,r4,r5,r6,Tt⟩
theorem open_wor {base:Nat}{v:Value}{d:DataW H}{q:List MemPlace}(hv:Value.okWide Tryz.prog w .any base 51 v)(h:DataW.Trod enc Tryz.prog w 0 (fun _=>true) true 51 v d q):∃a:Wor,okWor a/\Rd w (· < w.heap.size) (.agg (eWor a)) v:=by
 obtain⟨a,h1,h2⟩:=opens_arg opens_wor hv h
 exact⟨a,h1,h2.1 _ Tryz.underlying51⟩
theorem open_cat {base:Nat}{v:Value}{d:DataW H}{q:List MemPlace}(hv:Value.okWide Tryz.prog w .any base 32 v)(h:DataW.Trod enc Tryz.prog w 0 (fun _=>true) true 32 v d q):∃a:Cat,okCat a/\Rd w (· < w.heap.size) (.agg (eCat a)) v:=by
 obtain⟨a,h1,h2⟩:=opens_arg opens_cat hv h
 exact⟨a,h1,h2.1 _ Tryz.underlying32⟩
theorem open_spn {base:Nat}{v:Value}{d:DataW H}{q:List MemPlace}(hv:Value.okWide Tryz.prog w .any base 34 v)(h:DataW.Trod enc Tryz.prog w 0 (fun _=>true) true 34 v d q):∃a:Int × Int,okRat a/\Rd w (· < w.heap.size) (.agg (eSpn2 a)) v:=by
 obtain⟨a,h1,h2⟩:=opens_arg opens_spn hv h
 exact⟨a,h1,h2.1 _ Tryz.underlying34⟩
theorem open_i {base:Nat}{v:Value}{d:DataW H}{q:List MemPlace}(hv:Value.okWide Tryz.prog w .any base 3 v)(h:DataW.Trod enc Tryz.prog w 0 (fun _=>true) true 3 v d q):∃i:Int,In .i64 i/\Rd w (· < w.heap.size) (.int .i64 i) v:=by
 obtain⟨i,h1,h2⟩:=opens_arg opens_i hv h
 unfold Value.okWide at hv
 rw[Tryz.underlying3]at hv
 refine⟨i,h1,h2.2 _ rfl ?_⟩
 cases v<;>first|rfl|(simp[Cell.okWide,Cell.ok,Tryz.underlying3]at hv;done)
end
theorem okBok.wf {b:Bok}(h:okBok b):wfBok b:=⟨⟨h.1.1,fun c hc=>⟨(h.1.2 c hc).1.1.1,(h.1.2 c hc).1.2.1⟩⟩,⟨h.2.1.1,fun q hq=>⟨(h.2.1.2 q hq).1.1,(h.2.1.2 q hq).1.2,(h.2.1.2 q hq).2.1.1,fun x hx=>((h.2.1.2 q hq).2.1.2 x hx).1.2⟩⟩,h.2.2.1,h.2.2.2⟩
theorem okBok.nm {b:Bok}(h:okBok b):nmB b:=fun c hc=>⟨(h.1.2 c hc).1.1.2,(h.1.2 c hc).1.2.2⟩
theorem okWor.wfw {q:Wor}(h:okWor q)(hf:fewW q=true):WfW q:=by
 refine⟨h.1.wf,fun c hc=>?_,h.2.1⟩
 simp only[fewW,fewB,Bool.and_eq_true]at hf
 have:=List.all_eq_true.1 hf.1.1 c hc
 simp only[Bool.and_eq_true]at this
 exact⟨fewR_cnt this.1,fewR_cnt this.2⟩
theorem fewW_len {q:Wor}(hf:fewW q=true):q.fcts.length<=40:=by
 simp only[fewW,Bool.and_eq_true,decide_eq_true_eq]at hf
 exact hf.2
end Go.Proofs.YtmlhghddfobmmaaGreatDoor
