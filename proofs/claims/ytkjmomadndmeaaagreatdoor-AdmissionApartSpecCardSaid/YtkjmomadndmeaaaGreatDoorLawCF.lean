import Derived.Test.YtkjmomadndmeaaaGreatDoorSanD
import Derived.Test.YtkjmomadndmeaaaGreatDoorNamD
import Derived.Test.YtkjmomadndmeaaaGreatDoorEngAS
import Derived.Test.YtkjmomadndmeaaaGreatDoorChecked
import Derived.Test.YtkjmomadndmeaaaGreatDoorApC
import Derived.Test.YtkjmomadndmeaaaGreatDoorRecO
namespace Go.Proofs.YtkjmomadndmeaaaGreatDoor
set_option linter.unusedSimpArgs false
set_option linter.unusedVariables false
open Go Go.Ab
open Go.ChangeShapes Go.WideShapes Go.ChangeAt Go.RowKit
set_option maxRecDepth 100000
theorem own:ownKnob Tryz.prog.godebug=none:=by kernel_rfl
theorem laidOut:laidOutB Tryz.prog=true:=by kernel_rfl
theorem fitMax {n:Nat}(h:n<=maxLen):n<=9223372036854775807:=Nat.le_trans h Dc
theorem in_wf {i:Int}(h:(Lit.int .i64 i).wf=true):In .i64 i:=by
 simp only[Lit.wf,Bool.and_eq_true,decide_eq_true_eq]at h
 exact h
def fldsOk (P:Program)(w:World)(cs:List Value):List Field->List (List D)->Prop
 |[],[]=>True
 |f::fs,p::ps=>RdL w p ((cs.drop f.offset).take (P.cellsOf f.type))/\fldsOk P w cs fs ps
 |_,_=>False
theorem fldsOk.at {P:Program}{w:World}{cs:List Value}:∀{fs:List Field} {ps:List (List D)},fldsOk P w cs fs ps->ps.length=fs.length/\∀(j:Nat) f p,fs[j]?=some f->ps[j]?=some p->RdL w p ((cs.drop f.offset).take (P.cellsOf f.type))
 |[],[],_=>⟨rfl,fun j f p h=>by simp at h⟩
 | f :: fs,q :: ps,h=>by
   obtain⟨h1,h2⟩:=fldsOk.at h.2
   refine⟨by simp[h1],fun j f' p' hf hp=>?_⟩
   cases j with
   |zero=>simp at hf hp;subst hf;subst hp;exact h.1
   |succ j=>exact h2 j f' p' (by simpa using hf) (by simpa using hp)
 |[],_::_,h=>h.elim
 |_::_,[],h=>h.elim
section
variable {H:Type}{enc:TypeId × Value->H}{w:World}
theorem opens_st {t:TypeId}(ht:t<Tryz.prog.types.size){fs:Array Field}(hu:Tryz.prog.underlying t=some (.struct fs)){m:Nat}{cs:List Value}{x:DataW H × List MemPlace}(h:DataW.trod enc Tryz.prog w 0 (fun _=>true) true m t cs=some x) :
 ∃ m',m=m' + 1∧(∀ (j:Nat) f,fs.toList[j]?=some f→∃ y,DataW.trod enc Tryz.prog w 0 (fun _=>true) true m' f.type ((cs.drop f.offset).take (Tryz.prog.cellsOf f.type))=some y) ∧
   ∀ps:List (List D),fldsOk Tryz.prog w cs fs.toList ps->RdL w ps.flatten cs:=by
 obtain⟨m',h1,h2,h3⟩:=opens_fields laidOut ht hu h
 refine⟨m',h1,fun j f hj=>h2 j f (by simpa using hj),fun ps hp=>?_⟩
 obtain⟨h4,h5⟩:=hp.at
 exact h3 ps (by simpa using h4) fun j f p hj hq=>h5 j f p (by simpa using hj) hq
theorem opens_i (m:Nat):Opens enc Tryz.prog w m 3 (fun i:Int=>[D.int .i64 i]) fun i=>In .i64 i:=fun cs x h=>by
 obtain⟨i,h1,h2⟩:=opens_int Tryz.underlying3 m cs x h
 exact⟨i,in_wf h1,h2⟩
theorem opens_s (m:Nat):Opens enc Tryz.prog w m 9 (fun s:ByteArray=>[D.str s]) fun s=>s.size<=9223372036854775807:=fun cs x h=>by
 obtain⟨s,h1,h2⟩:=opens_str Tryz.underlying9 m cs x h
 exact⟨s,fitMax h1,h2⟩
theorem opens_b (m:Nat):Opens enc Tryz.prog w m 4 (fun b:Bool=>[D.bool b]) fun _=>True:=opens_bool Tryz.underlying4 m
def okRule (r:Rule):Prop:=wfR r/\r.name.size<=9223372036854775807
theorem opens_rule:∀(n m:Nat),m<n->Opens enc Tryz.prog w m 52 eRule okRule
 |0,m,hm=>absurd hm (Nat.not_lt_zero m)
 | n + 1,m,hm=>fun cs x h=>by
   obtain⟨m',rfl,hf,hall⟩:=opens_st (of_decide_eq_true Kr) Tryz.underlying52 h
   obtain⟨y0,h0⟩:=hf 0 _ rfl
   obtain⟨a0,k0,r0⟩:=opens_i m' _ _ h0
   obtain⟨y1,h1⟩:=hf 1 _ rfl
   obtain⟨a1,k1,r1⟩:=opens_i m' _ _ h1
   obtain⟨y2,h2⟩:=hf 2 _ rfl
   obtain⟨a2,k2,r2⟩:=opens_s m' _ _ h2
   obtain⟨y3,h3⟩:=hf 3 _ rfl
   obtain⟨a3,k3,r3⟩:=opens_i m' _ _ h3
   obtain⟨y4,h4⟩:=hf 4 _ rfl
   obtain⟨a4,k4,r4⟩:=opens_i m' _ _ h4
   obtain⟨y5,h5⟩:=hf 5 _ rfl
   obtain⟨ks,k5,r5⟩:=opens_slice laidOut (t:=50) (et:=52) (sz:=6) (of_decide_eq_true Kr) Kr Kr Dc (e:=eRule) (ok:=okRule) (m:=m') (fun m2 hm2=>opens_rule n m2 Om) _ _ h5
   have hq:DEq (D.sl 6 ks.length fun i=>eRule (ks.getD i default)) (eRules ks):=by
    cases ks with
    |nil=>rw[eRules_nil];exact⟨rfl,rfl,fun i hi=>absurd hi (Nat.not_lt_zero i)⟩
    |cons r rs=>rw[eRules_ne (by simp)];exact⟨rfl,rfl,fun i hi=>rfl⟩
   have r6:RdL w [eRules ks] ((cs.drop _).take _):=⟨r5.1,fun j d u hd hu=>by
    match j,hd with
    | 0,hd =>
      cases hd
      obtain⟨g1,g2⟩:=r5.2 0 _ u rfl hu
      exact⟨DEq.ok g1 hq,g2⟩
    |j+1,hd=>simp at hd⟩
   refine⟨.mk a0 a1 a2 a3 a4 ks,⟨?_,k2⟩,?_⟩
   .intro q hq
    rw[preR_eq]at hq
    rcases List.mem_cons.1 hq with rfl|hq
    .exact⟨k0,k1,k3,k4,Nat.lt_succ_of_le (fitMax k5.1)⟩
    .obtain⟨k,hk,hq⟩:=preL_mem.1 hq
     exact wfR_any (k5.2 k hk).1 _ q hq
   .exact hall [[D.int .i64 a0],[D.int .i64 a1],[D.str a2],[D.int .i64 a3],[D.int .i64 a4],[eRules ks]] ⟨r0,r1,r2,r3,r4,r6,Tt⟩
theorem opens_rl (m:Nat):Opens enc Tryz.prog w m 52 eRule okRule:=opens_rule (m+1) m (Nat.lt_succ_self m)
def okCrs1 (c:Crs):Prop:=(okRule c.need/\okRule c.bar)/\(In .i64 c.number/\In .i64 c.credits/\In .i64 c.rep)
theorem opens_crs (m:Nat):Opens enc Tryz.prog w m 54 eCrs okCrs1:=fun cs x h=>by
 obtain⟨m',rfl,hf,hall⟩:=opens_st (of_decide_eq_true Kr) Tryz.underlying54 h
 obtain⟨y0,h0⟩:=hf 0 _ rfl
 obtain⟨a0,k0,r0⟩:=opens_s m' _ _ h0
 obtain⟨y1,h1⟩:=hf 1 _ rfl
 obtain⟨a1,k1,r1⟩:=opens_i m' _ _ h1
 obtain⟨y2,h2⟩:=hf 2 _ rfl
 obtain⟨a2,k2,r2⟩:=opens_i m' _ _ h2
 obtain⟨y3,h3⟩:=hf 3 _ rfl
 obtain⟨a3,k3,r3⟩:=opens_i m' _ _ h3
 obtain⟨y4,h4⟩:=hf 4 _ rfl
 obtain⟨a4,k4,r4⟩:=opens_rl m' _ _ h4
 obtain⟨y5,h5⟩:=hf 5 _ rfl
 obtain⟨a5,k5,r5⟩:=opens_rl m' _ _ h5
 refine⟨⟨a0,a1,a2,a3,a4,a5⟩,⟨⟨k4,k5⟩,k1,k2,k3⟩,?_⟩
 exact hall [[D.str a0],[D.int .i64 a1],[D.int .i64 a2],[D.int .i64 a3],eRule a4,eRule a5] ⟨r0,r1,r2,r3,r4,r5,Tt⟩
theorem opens_crss (m:Nat):Opens enc Tryz.prog w m 22 (fun xs:List Crs=>[eCrss xs]) fun xs=>fitL xs/\∀a∈xs,okCrs1 a:=fun cs x h=>by
 obtain⟨xs,h1,h2⟩:=opens_slice laidOut (t:=22) (et:=54) (sz:=16) (of_decide_eq_true Kr) Kr Kr Dc (e:=eCrs) (ok:=okCrs1) (m:=m) (fun m' _=>opens_crs m') cs x h
 exact⟨xs,⟨fitMax h1.1,h1.2⟩,h2⟩
theorem opens_strs (m:Nat):Opens enc Tryz.prog w m 365 (fun xs:List ByteArray=>[eStrs xs]) fun xs=>fitL xs/\∀a∈xs,(fun s:ByteArray=>s.size<=9223372036854775807) a:=fun cs x h=>by
 obtain⟨xs,h1,h2⟩:=opens_slice laidOut (t:=365) (et:=9) (sz:=1) (of_decide_eq_true Kr) Kr Kr Dc (e:=(fun s:ByteArray=>[D.str s])) (ok:=(fun s:ByteArray=>s.size<=9223372036854775807)) (m:=m) (fun m' _=>opens_s m') cs x h
 exact⟨xs,⟨fitMax h1.1,h1.2⟩,h2⟩
theorem opens_ints (m:Nat):Opens enc Tryz.prog w m 30 (fun xs:List Int=>[eInts xs]) fun xs=>fitL xs/\∀a∈xs,(fun i:Int=>In .i64 i) a:=fun cs x h=>by
 obtain⟨xs,h1,h2⟩:=opens_slice laidOut (t:=30) (et:=3) (sz:=1) (of_decide_eq_true Kr) Kr Kr Dc (e:=(fun i:Int=>[D.int .i64 i])) (ok:=(fun i:Int=>In .i64 i)) (m:=m) (fun m' _=>opens_i m') cs x h
 exact⟨xs,⟨fitMax h1.1,h1.2⟩,h2⟩
def okReq1 (q:Req):Prop:=wfReq q/\(In .i64 q.credits/\In .i64 q.grade/\(∀n∈q.fr,In .i64 n))/\q.name.size<=9223372036854775807
theorem opens_req (m:Nat):Opens enc Tryz.prog w m 367 eReq okReq1:=fun cs x h=>by
 obtain⟨m',rfl,hf,hall⟩:=opens_st (of_decide_eq_true Kr) Tryz.underlying367 h
 obtain⟨y0,h0⟩:=hf 0 _ rfl
 obtain⟨a0,k0,r0⟩:=opens_s m' _ _ h0
 obtain⟨y1,h1⟩:=hf 1 _ rfl
 obtain⟨a1,k1,r1⟩:=opens_i m' _ _ h1
 obtain⟨y2,h2⟩:=hf 2 _ rfl
 obtain⟨a2,k2,r2⟩:=opens_i m' _ _ h2
 obtain⟨y3,h3⟩:=hf 3 _ rfl
 obtain⟨a3,k3,r3⟩:=opens_b m' _ _ h3
 obtain⟨y4,h4⟩:=hf 4 _ rfl
 obtain⟨a4,k4,r4⟩:=opens_strs m' _ _ h4
 obtain⟨y5,h5⟩:=hf 5 _ rfl
 obtain⟨a5,k5,r5⟩:=opens_ints m' _ _ h5
 refine⟨⟨a0,a1,a2,a3,a4,a5⟩,⟨⟨k4.1,k5.1⟩,⟨k1,k2,k5.2⟩,k0⟩,?_⟩
 exact hall [[D.str a0],[D.int .i64 a1],[D.int .i64 a2],[D.bool a3],[eStrs a4],[eInts a5]] ⟨r0,r1,r2,r3,r4,r5,Tt⟩
theorem opens_reqs (m:Nat):Opens enc Tryz.prog w m 218 (fun xs:List Req=>[eReqs xs]) fun xs=>fitL xs/\∀a∈xs,okReq1 a:=fun cs x h=>by
 obtain⟨xs,h1,h2⟩:=opens_slice laidOut (t:=218) (et:=367) (sz:=6) (of_decide_eq_true Kr) Kr Kr Dc (e:=eReq) (ok:=okReq1) (m:=m) (fun m' _=>opens_req m') cs x h
 exact⟨xs,⟨fitMax h1.1,h1.2⟩,h2⟩
def eRat (q:Int × Int):List D:=[.int .i64 q.1,.int .i64 q.2]
def okRat (q:Int × Int):Prop:=In .i64 q.1/\In .i64 q.2
theorem opens_rat (m:Nat):Opens enc Tryz.prog w m 59 eRat okRat:=fun cs x h=>by
 obtain⟨m',rfl,hf,hall⟩:=opens_st (of_decide_eq_true Kr) Tryz.underlying59 h
 obtain⟨y0,h0⟩:=hf 0 _ rfl
 obtain⟨a0,k0,r0⟩:=opens_i m' _ _ h0
 obtain⟨y1,h1⟩:=hf 1 _ rfl
 obtain⟨a1,k1,r1⟩:=opens_i m' _ _ h1
 refine⟨(a0,a1),⟨k0,k1⟩,?_⟩
 exact hall [[D.int .i64 a0],[D.int .i64 a1]] ⟨r0,r1,Tt⟩
def okPrg1 (q:Prg):Prop:=(In .i64 q.mn/\In .i64 q.md)/\(fitL q.reqs/\∀x∈q.reqs,okReq1 x)/\(In .i64 q.number/\In .i64 q.uses/\In .i64 q.earn)
theorem opens_prg (m:Nat):Opens enc Tryz.prog w m 220 ePrg okPrg1:=fun cs x h=>by
 obtain⟨m',rfl,hf,hall⟩:=opens_st (of_decide_eq_true Kr) Tryz.underlying220 h
 obtain⟨y0,h0⟩:=hf 0 _ rfl
 obtain⟨a0,k0,r0⟩:=opens_s m' _ _ h0
 obtain⟨y1,h1⟩:=hf 1 _ rfl
 obtain⟨a1,k1,r1⟩:=opens_i m' _ _ h1
 obtain⟨y2,h2⟩:=hf 2 _ rfl
 obtain⟨a2,k2,r2⟩:=opens_i m' _ _ h2
 obtain⟨y3,h3⟩:=hf 3 _ rfl
 obtain⟨a3,k3,r3⟩:=opens_i m' _ _ h3
 obtain⟨y4,h4⟩:=hf 4 _ rfl
 obtain⟨a4,k4,r4⟩:=opens_rat m' _ _ h4
 obtain⟨y5,h5⟩:=hf 5 _ rfl
 obtain⟨a5,k5,r5⟩:=opens_reqs m' _ _ h5
 refine⟨⟨a0,a1,a2,a3,a4.1,a4.2,a5⟩,⟨k4,k5,k1,k2,k3⟩,?_⟩
 exact hall [[D.str a0],[D.int .i64 a1],[D.int .i64 a2],[D.int .i64 a3],eRat a4,[eReqs a5]] ⟨r0,r1,r2,r3,r4,r5,Tt⟩
theorem opens_prgs (m:Nat):Opens enc Tryz.prog w m 23 (fun xs:List Prg=>[ePrgs xs]) fun xs=>fitL xs/\∀a∈xs,okPrg1 a:=fun cs x h=>by
 obtain⟨xs,h1,h2⟩:=opens_slice laidOut (t:=23) (et:=220) (sz:=7) (of_decide_eq_true Kr) Kr Kr Dc (e:=ePrg) (ok:=okPrg1) (m:=m) (fun m' _=>opens_prg m') cs x h
 exact⟨xs,⟨fitMax h1.1,h1.2⟩,h2⟩
theorem opens_cls (m:Nat):Opens enc Tryz.prog w m 373 eCls wfCls:=fun cs x h=>by
 obtain⟨m',rfl,hf,hall⟩:=opens_st (of_decide_eq_true Kr) Tryz.underlying373 h
 obtain⟨y0,h0⟩:=hf 0 _ rfl
 obtain⟨a0,k0,r0⟩:=opens_s m' _ _ h0
 obtain⟨y1,h1⟩:=hf 1 _ rfl
 obtain⟨a1,k1,r1⟩:=opens_i m' _ _ h1
 obtain⟨y2,h2⟩:=hf 2 _ rfl
 obtain⟨a2,k2,r2⟩:=opens_rat m' _ _ h2
 refine⟨⟨a0,a1,a2.1,a2.2⟩,k2,?_⟩
 exact hall [[D.str a0],[D.int .i64 a1],eRat a2] ⟨r0,r1,r2,Tt⟩
theorem opens_clss (m:Nat):Opens enc Tryz.prog w m 358 (fun xs:List Cls=>[eClss xs]) fun xs=>fitL xs/\∀a∈xs,wfCls a:=fun cs x h=>by
 obtain⟨xs,h1,h2⟩:=opens_slice laidOut (t:=358) (et:=373) (sz:=4) (of_decide_eq_true Kr) Kr Kr Dc (e:=eCls) (ok:=wfCls) (m:=m) (fun m' _=>opens_cls m') cs x h
 exact⟨xs,⟨fitMax h1.1,h1.2⟩,h2⟩
def okAny {α:Type}(_:α):Prop:=True
theorem opens_fee (m:Nat):Opens enc Tryz.prog w m 375 eFee okAny:=fun cs x h=>by
 obtain⟨m',rfl,hf,hall⟩:=opens_st (of_decide_eq_true Kr) Tryz.underlying375 h
 obtain⟨y0,h0⟩:=hf 0 _ rfl
 obtain⟨a0,k0,r0⟩:=opens_s m' _ _ h0
 obtain⟨y1,h1⟩:=hf 1 _ rfl
 obtain⟨a1,k1,r1⟩:=opens_i m' _ _ h1
 refine⟨⟨a0,a1⟩,Tt,?_⟩
 exact hall [[D.str a0],[D.int .i64 a1]] ⟨r0,r1,Tt⟩
theorem opens_fees (m:Nat):Opens enc Tryz.prog w m 359 (fun xs:List Fee=>[eFees xs]) fun xs=>fitL xs/\∀a∈xs,okAny a:=fun cs x h=>by
 obtain⟨xs,h1,h2⟩:=opens_slice laidOut (t:=359) (et:=375) (sz:=2) (of_decide_eq_true Kr) Kr Kr Dc (e:=eFee) (ok:=okAny) (m:=m) (fun m' _=>opens_fee m') cs x h
 exact⟨xs,⟨fitMax h1.1,h1.2⟩,h2⟩
theorem opens_cla (m:Nat):Opens enc Tryz.prog w m 377 eCla okAny:=fun cs x h=>by
 obtain⟨m',rfl,hf,hall⟩:=opens_st (of_decide_eq_true Kr) Tryz.underlying377 h
 obtain⟨y0,h0⟩:=hf 0 _ rfl
 obtain⟨a0,k0,r0⟩:=opens_i m' _ _ h0
 obtain⟨y1,h1⟩:=hf 1 _ rfl
 obtain⟨a1,k1,r1⟩:=opens_i m' _ _ h1
 obtain⟨y2,h2⟩:=hf 2 _ rfl
 obtain⟨a2,k2,r2⟩:=opens_i m' _ _ h2
 obtain⟨y3,h3⟩:=hf 3 _ rfl
 obtain⟨a3,k3,r3⟩:=opens_i m' _ _ h3
 refine⟨⟨a0,a1,a2,a3⟩,Tt,?_⟩
 exact hall [[D.int .i64 a0],[D.int .i64 a1],[D.int .i64 a2],[D.int .i64 a3]] ⟨r0,r1,r2,r3,Tt⟩
theorem opens_clas (m:Nat):Opens enc Tryz.prog w m 360 (fun xs:List Cla=>[eClas xs]) fun xs=>fitL xs/\∀a∈xs,okAny a:=fun cs x h=>by
 obtain⟨xs,h1,h2⟩:=opens_slice laidOut (t:=360) (et:=377) (sz:=4) (of_decide_eq_true Kr) Kr Kr Dc (e:=eCla) (ok:=okAny) (m:=m) (fun m' _=>opens_cla m') cs x h
 exact⟨xs,⟨fitMax h1.1,h1.2⟩,h2⟩
theorem opens_sys (m:Nat):Opens enc Tryz.prog w m 362 eSys wfSys:=fun cs x h=>by
 obtain⟨m',rfl,hf,hall⟩:=opens_st (of_decide_eq_true Kr) Tryz.underlying362 h
 obtain⟨y0,h0⟩:=hf 0 _ rfl
 obtain⟨a0,k0,r0⟩:=opens_clss m' _ _ h0
 obtain⟨y1,h1⟩:=hf 1 _ rfl
 obtain⟨a1,k1,r1⟩:=opens_fees m' _ _ h1
 obtain⟨y2,h2⟩:=hf 2 _ rfl
 obtain⟨a2,k2,r2⟩:=opens_clss m' _ _ h2
 obtain⟨y3,h3⟩:=hf 3 _ rfl
 obtain⟨a3,k3,r3⟩:=opens_clas m' _ _ h3
 refine⟨⟨a0,a1,a2,a3⟩,⟨k0,k2,k1.1,k3.1⟩,?_⟩
 exact hall [[eClss a0],[eFees a1],[eClss a2],[eClas a3]] ⟨r0,r1,r2,r3,Tt⟩
theorem opens_syss (m:Nat):Opens enc Tryz.prog w m 24 (fun xs:List Sys=>[eSyss xs]) fun xs=>fitL xs/\∀a∈xs,wfSys a:=fun cs x h=>by
 obtain⟨xs,h1,h2⟩:=opens_slice laidOut (t:=24) (et:=362) (sz:=4) (of_decide_eq_true Kr) Kr Kr Dc (e:=eSys) (ok:=wfSys) (m:=m) (fun m' _=>opens_sys m') cs x h
 exact⟨xs,⟨fitMax h1.1,h1.2⟩,h2⟩
def eSpn2 (q:Int × Int):List D:=[.int .i64 q.1,.int .i64 q.2]
theorem opens_spn (m:Nat):Opens enc Tryz.prog w m 69 eSpn2 okRat:=fun cs x h=>by
 obtain⟨m',rfl,hf,hall⟩:=opens_st (of_decide_eq_true Kr) Tryz.underlying69 h
 obtain⟨y0,h0⟩:=hf 0 _ rfl
 obtain⟨a0,k0,r0⟩:=opens_i m' _ _ h0
 obtain⟨y1,h1⟩:=hf 1 _ rfl
 obtain⟨a1,k1,r1⟩:=opens_i m' _ _ h1
 refine⟨(a0,a1),⟨k0,k1⟩,?_⟩
 exact hall [[D.int .i64 a0],[D.int .i64 a1]] ⟨r0,r1,Tt⟩
def okKe (k:Ke):Prop:=In .i64 k.kind/\In .i64 k.subject/\In .i64 k.object
theorem opens_ke (m:Nat):Opens enc Tryz.prog w m 72 eKe okKe:=fun cs x h=>by
 obtain⟨m',rfl,hf,hall⟩:=opens_st (of_decide_eq_true Kr) Tryz.underlying72 h
 obtain⟨y0,h0⟩:=hf 0 _ rfl
 obtain⟨a0,k0,r0⟩:=opens_i m' _ _ h0
 obtain⟨y1,h1⟩:=hf 1 _ rfl
 obtain⟨a1,k1,r1⟩:=opens_i m' _ _ h1
 obtain⟨y2,h2⟩:=hf 2 _ rfl
 obtain⟨a2,k2,r2⟩:=opens_i m' _ _ h2
 refine⟨⟨a0,a1,a2⟩,⟨k0,k1,k2⟩,?_⟩
 exact hall [[D.int .i64 a0],[D.int .i64 a1],[D.int .i64 a2]] ⟨r0,r1,r2,Tt⟩
def okFct (f:Fct):Prop:=okKe (kOf f)/\In .i64 f.value/\(In .i64 f.fr/\In .i64 f.til)/\In .i64 f.known/\In .i64 f.no
theorem opens_fct (m:Nat):Opens enc Tryz.prog w m 74 eFct okFct:=fun cs x h=>by
 obtain⟨m',rfl,hf,hall⟩:=opens_st (of_decide_eq_true Kr) Tryz.underlying74 h
 obtain⟨y0,h0⟩:=hf 0 _ rfl
 obtain⟨a0,k0,r0⟩:=opens_ke m' _ _ h0
 obtain⟨y1,h1⟩:=hf 1 _ rfl
 obtain⟨a1,k1,r1⟩:=opens_i m' _ _ h1
 obtain⟨y2,h2⟩:=hf 2 _ rfl
 obtain⟨a2,k2,r2⟩:=opens_spn m' _ _ h2
 obtain⟨y3,h3⟩:=hf 3 _ rfl
 obtain⟨a3,k3,r3⟩:=opens_i m' _ _ h3
 obtain⟨y4,h4⟩:=hf 4 _ rfl
 obtain⟨a4,k4,r4⟩:=opens_i m' _ _ h4
 refine⟨⟨a0.kind,a0.subject,a0.object,a1,a2.1,a2.2,a3,a4⟩,⟨k0,k1,k2,k3,k4⟩,?_⟩
 exact hall [eKe a0,[D.int .i64 a1],eSpn2 a2,[D.int .i64 a3],[D.int .i64 a4]] ⟨r0,r1,r2,r3,r4,Tt⟩
theorem opens_fcts (m:Nat):Opens enc Tryz.prog w m 27 (fun xs:List Fct=>[eFcts xs]) fun xs=>fitL xs/\∀a∈xs,okFct a:=fun cs x h=>by
 obtain⟨xs,h1,h2⟩:=opens_slice laidOut (t:=27) (et:=74) (sz:=8) (of_decide_eq_true Kr) Kr Kr Dc (e:=eFct) (ok:=okFct) (m:=m) (fun m' _=>opens_fct m') cs x h
 exact⟨xs,⟨fitMax h1.1,h1.2⟩,h2⟩
def okBok (b:Bok):Prop:=(fitL b.crs/\∀c∈b.crs,okCrs1 c)/\(fitL b.prg/\∀q∈b.prg,okPrg1 q)/\(fitL b.sys/\∀s∈b.sys,wfSys s)
theorem opens_bok (m:Nat):Opens enc Tryz.prog w m 26 eBok okBok:=fun cs x h=>by
 obtain⟨m',rfl,hf,hall⟩:=opens_st (of_decide_eq_true Kr) Tryz.underlying26 h
 obtain⟨y0,h0⟩:=hf 0 _ rfl
 obtain⟨a0,k0,r0⟩:=opens_crss m' _ _ h0
 obtain⟨y1,h1⟩:=hf 1 _ rfl
 obtain⟨a1,k1,r1⟩:=opens_prgs m' _ _ h1
 obtain⟨y2,h2⟩:=hf 2 _ rfl
 obtain⟨a2,k2,r2⟩:=opens_syss m' _ _ h2
 refine⟨⟨a0,a1,a2⟩,⟨k0,k1,k2⟩,?_⟩
 exact hall [[eCrss a0],[ePrgs a1],[eSyss a2]] ⟨r0,r1,r2,Tt⟩
def okWor (q:Wor):Prop:=okBok q.bok/\fitL q.fcts/\∀f∈q.fcts,okFct f
theorem opens_wor (m:Nat):Opens enc Tryz.prog w m 29 eWor okWor:=fun cs x h=>by
 obtain⟨m',rfl,hf,hall⟩:=opens_st (of_decide_eq_true Kr) Tryz.underlying29 h
 obtain⟨y0,h0⟩:=hf 0 _ rfl
 obtain⟨a0,k0,r0⟩:=opens_bok m' _ _ h0
 obtain⟨y1,h1⟩:=hf 1 _ rfl
 obtain⟨a1,k1,r1⟩:=opens_fcts m' _ _ h1
 refine⟨⟨a0,a1⟩,⟨k0,k1⟩,?_⟩
 exact hall [eBok a0,[eFcts a1]] ⟨r0,r1,Tt⟩
theorem open_wor {base:Nat}{v:Value}{d:DataW H}{q:List MemPlace}(hv:Value.okWide Tryz.prog w .any base 29 v)(h:DataW.Trod enc Tryz.prog w 0 (fun _=>true) true 29 v d q):∃a:Wor,okWor a/\Rd w (· < w.heap.size) (.agg (eWor a)) v:=by
 obtain⟨a,h1,h2⟩:=opens_arg opens_wor hv h
 exact⟨a,h1,h2.1 _ Tryz.underlying29⟩
theorem open_i {base:Nat}{v:Value}{d:DataW H}{q:List MemPlace}(hv:Value.okWide Tryz.prog w .any base 3 v)(h:DataW.Trod enc Tryz.prog w 0 (fun _=>true) true 3 v d q):∃i:Int,In .i64 i/\Rd w (· < w.heap.size) (.int .i64 i) v:=by
 obtain⟨i,h1,h2⟩:=opens_arg opens_i hv h
 unfold Value.okWide at hv
 rw[Tryz.underlying3]at hv
 refine⟨i,h1,h2.2 _ rfl ?_⟩
 cases v<;>first|rfl|(simp[Cell.okWide,Cell.ok,Tryz.underlying3]at hv;done)
end
theorem okBok.wf {b:Bok}(h:okBok b):wfBok b:=⟨⟨h.1.1,fun c hc=>⟨(h.1.2 c hc).1.1.1,(h.1.2 c hc).1.2.1⟩⟩,⟨h.2.1.1,fun q hq=>⟨(h.2.1.2 q hq).1.1,(h.2.1.2 q hq).1.2,(h.2.1.2 q hq).2.1.1,fun x hx=>((h.2.1.2 q hq).2.1.2 x hx).1.2⟩⟩,h.2.2.1,h.2.2.2⟩
theorem okBok.nm {b:Bok}(h:okBok b):nmB b:=fun c hc=>⟨(h.1.2 c hc).1.1.2,(h.1.2 c hc).1.2.2⟩
theorem okWor.wfw {q:Wor}(h:okWor q)(hf:fewW q=true):WfW q:=by
 refine⟨h.1.wf,fun c hc=>?_,h.2.1⟩
 simp only[fewW,fewB,Bool.and_eq_true]at hf
 have:=List.all_eq_true.1 hf.1.1 c hc
 simp only[Bool.and_eq_true]at this
 exact⟨fewR_cnt this.1,fewR_cnt this.2⟩
end Go.Proofs.YtkjmomadndmeaaaGreatDoor
namespace Go.Proofs.YtkjmomadndmeaaaGreatDoor
set_option linter.unusedSimpArgs false
set_option linter.unusedVariables false
open Go Go.Ab
set_option maxRecDepth 100000
set_option maxHeartbeats 0
theorem aparts (w:Wor)(hw:WfW w)(l:List Sec)(hl:fewS l)(s:Int)(taken:List Bun)(htk:taken.length<=8)(b:Bun)(t kn:Int)(ht:In .i64 t):∃(o:Bool) (nm:List Int) (rd:List Red) (e:Int),
 Pure Tryz.prog 29 [.agg (eWor w),eSecs l,di s,eBuns taken,.agg (eBun b),di t,di kn] [.bool o,eInts nm,eReds rd,di e] /\
 Pure Tryz.prog 30 [.agg (eWor w),eSecs l,di s,eBuns taken,.agg (eBun b),di t,di kn] [.bool o,eInts nm,eReds rd,di e]/\fitL nm/\fitL rd:=by
 by_cases hb:bchk l b=0
 .refine⟨_,_,_,_,apart_ok w hw l hl s taken Om b t kn ht hb,rapart_ok w hw l hl s taken Om b t kn ht hb,?_,?_⟩
  .unfold apN fitL
   split
   .exact Nat.zero_le _
   .unfold namA
    split
    .exact(show(1:Nat)<=9223372036854775807 by decide)
    .exact Nat.zero_le _
  .unfold apD fitL
   split
   .exact Nat.zero_le _
   .exact(show(1:Nat)<=9223372036854775807 by decide)
 .exact⟨_,_,_,_,apart_bad w l hl s taken b t kn hb,rapart_bad w l hl s taken b t kn hb,Nat.zero_le _,Nat.zero_le _⟩
theorem law28P_ok (w:Wor)(hw:okWor w)(l:List Sec)(s cr:Int)(taken:List Bun)(b:Bun)(t:Int)(ht:In .i64 t)(kn:Int):Pure Tryz.prog 8 [.agg (eWor w),eSecs l,di s,di cr,eBuns taken,.agg (eBun b),di t,di kn] [.bool true]:=by
 have hS:=sane28_ok
 have hF:=few28_ok w hw.1.wf hw.2.1 hw.1.nm [] (Nat.zero_le _)
 have hG:=few24_ok l
 cases hf:(fewW w&&decide (([]:List Int).length<=10))<;>rw[hf]at hF
 .refine pure_rule hT (T:=tab) (N:=125) (rs:=[.tmp 16]) Tryz.func8 rfl rfl rfl Kr rfl ?_
  (refine gW ?_;intros)
  refine hS.call ?_
  (refine gW ?_;intros)
  refine CallVC.frz [] (dargs:=[.agg (eWor w),eInts []]) ⟨.d,.eq rfl,Tt⟩ (hF.call ?_)
  (refine gW ?_;intros)
  exact⟨rfl,Tt⟩
 cases hg:few24 l<;>rw[hg]at hG
 .refine pure_rule hT (T:=tab) (N:=125) (rs:=[.tmp 16]) Tryz.func8 rfl rfl rfl Kr rfl ?_
  (refine gW ?_;intros)
  refine hS.call ?_
  (refine gW ?_;intros)
  refine CallVC.frz [] (dargs:=[.agg (eWor w),eInts []]) ⟨.d,.eq rfl,Tt⟩ (hF.call ?_)
  (refine gW ?_;intros)
  refine hG.call ?_
  (refine gW ?_;intros)
  exact⟨rfl,Tt⟩
 by_cases h8:8<taken.length
 .refine pure_rule hT (T:=tab) (N:=125) (rs:=[.tmp 16]) Tryz.func8 rfl rfl rfl Kr rfl ?_
  (refine gW ?_;intros)
  refine hS.call ?_
  (refine gW ?_;intros)
  refine CallVC.frz [] (dargs:=[.agg (eWor w),eInts []]) ⟨.d,.eq rfl,Tt⟩ (hF.call ?_)
  (refine gW ?_;intros)
  refine hG.call ?_
  (refine gW ?_;intros)
  exact⟨rfl,Tt⟩
 have hwf:WfW w:=hw.wfw (by
  have:=hf
  rw[show decide (([]:List Int).length<=10)=true from rfl,Bool.and_true]at this
  exact this)
 have hL:=loadW_ok w hwf s cr t kn ht
 have hM:=rloadW_ok w hwf s cr t kn ht
 obtain⟨o,nm,rd,e,hA,hB,f1,f2⟩:=aparts w hwf l (few24_S hg) s taken Om b t kn ht
 have hn:fitL (namA (!decide (cr<=40)) (petW w.fcts ⟨10,s,0⟩ t kn)):=by
  unfold namA fitL
  split
  .exact(show(1:Nat)<=9223372036854775807 by decide)
  .exact Nat.zero_le _
 generalize okA (!decide (cr<=40)) (petW w.fcts ⟨10,s,0⟩ t kn)=lo at hL hM
 generalize namA (!decide (cr<=40)) (petW w.fcts ⟨10,s,0⟩ t kn)=ln at hL hM hn
 have hr:fitL [rdW ⟨10,s,0⟩ t]:=(show(1:Nat)<=9223372036854775807 by decide)
 generalize [rdW ⟨10,s,0⟩ t]=lr at hL hM hr
 have hI1:=sameI28_ok ln ln hn hn
 have hI2:=sameI28_ok nm nm f1 f1
 have hR1:=sameReds_ok lr lr hr hr
 have hR2:=sameReds_ok rd rd f2 f2
 rw[decide_eq_true rfl]at hI1 hI2 hR1 hR2
 clear hf hg hw hwf f1 f2 hn hr
 cases lo<;>cases o
 all_goals
  refine pure_rule hT (T:=tab) (N:=125) (rs:=[.tmp 16]) Tryz.func8 rfl rfl rfl Kr rfl ?_
  (refine gW ?_;intros)
  refine hS.call ?_
  (refine gW ?_;intros)
  refine CallVC.frz [] (dargs:=[.agg (eWor w),eInts []]) ⟨.d,.eq rfl,Tt⟩ (hF.call ?_)
  (refine gW ?_;intros)
  refine hG.call ?_
  (refine gW ?_;intros)
  refine hL.call ?_
  (refine gW ?_;intros)
  refine hM.call ?_
  (refine gP ?_;intros)
  refine hA.call ?_
  (refine gP ?_;intros)
  refine hB.call ?_
  (refine gP ?_;intros)
  refine hI1.call ?_
  (refine gP ?_;intros)
  refine hR1.call ?_
  (refine gP ?_;intros)
  refine hI2.call ?_
  (refine gP ?_;intros)
  refine hR2.call ?_
  (refine gP ?_;intros)
  refine⟨congrArg D.bool ?_,Tt⟩
  simp
end Go.Proofs.YtkjmomadndmeaaaGreatDoor
