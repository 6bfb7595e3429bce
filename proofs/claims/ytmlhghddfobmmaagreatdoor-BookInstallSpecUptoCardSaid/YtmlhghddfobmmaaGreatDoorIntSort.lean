import Derived.Test.YtmlhghddfobmmaaGreatDoorRuleC
import Derived.Test.YtmlhghddfobmmaaGreatDoorShelf
import Derived.Sort.OwnSortedInts
import Derived.Lib.RowBridge
namespace Go.Proofs.YtmlhghddfobmmaaGreatDoor
set_option linter.unusedSimpArgs false
set_option linter.unusedVariables false
open Go Go.Ab Go.RowKit Go.Sort Go.Lib Go.Proofs
section
variable {w w':World}{F:Nat->Prop}{σ:Pls}
theorem Qbq {B B':Blk}{pl:Pl}{b tot:Nat}(hm:Q3 ⟨[],[some B]⟩ σ F w)(hs:σ (.arg 0)=some (some pl))(hl:pl.loc=some (b,tot))(hg:w.grownBy w' (some b))(hdr:w.drawn<=w'.drawn)(hb:Jx w' F σ B' pl) :
 Q3 ⟨[],[some B']⟩ σ F w'/\Step σ F w σ F w':=by
 have hnf:=hm.nf _ _ _ _ hs hl
 have hat:∀r,((⟨[],[some B']⟩:Mem).at r=none↔(⟨[],[some B]⟩:Mem).at r=none):=fun r=>by
  cases r with
  |loc j=>simp[Mem.at]
  |arg j=>cases j<;>simp[Mem.at]
  |bad=>simp[Mem.at]
 have only:∀r q,σ r=some q->r=.arg 0:=fun r q hq=>by
  have h1:(⟨[],[some B]⟩:Mem).at r≠none:=fun e=>by rw[(hm.dom r).2 e]at hq;cases hq
  cases r with
  |loc j=>simp[Mem.at]at h1
  | arg j=>cases j with
    |zero=>rfl
    |succ j=>simp[Mem.at]at h1
  |bad=>simp[Mem.at]at h1
 refine⟨⟨fun r=>by rw[hm.dom r,hat r],fun r q hq=>?_,hm.inj,fun r p b' t e1 e2=>⟨(hm.nf r p b' t e1 e2).1,Qic (hm.nf r p b' t e1 e2).2 hg.size⟩,fun b' hb'=>Qic (hm.fl b' hb') hg.size,hm.gl.mono (fun _ h=>h) fun b' hb'=>hg.block b' (hm.fl b' hb') fun e=>by injection e with e;subst e;exact hnf.1 hb'⟩,
  ⟨hg.os,hg.tape,hg.output,hdr,hg.size,fun b' hb' hn=>hg.block b' hb' fun e=>hn ⟨.arg 0,pl,tot,hs,by injection e with e;rw[hl,e]⟩,fun _ h=>h,fun _ h=>.inl h,fun _ h=>.inl h⟩⟩
 have:=only r q hq
 subst this
 rw[hs]at hq
 injection hq with hq
 subst hq
 exact⟨fun e=>(by cases e),fun pl' e=>by injection e with e;subst e;exact⟨B',rfl,hb⟩⟩
def Yx (zs:List Int):Nat->List AV:=fun i=>[.d (.int .i64 (zs.getD i default))]
theorem Qgo {pl:Pl}{b tot g:Nat}{zs ts:List Int}{us:List Value}{e:TypeId}(h1:pl.g=g)(h2:pl.sz=1)(hl:pl.loc=some (b,tot))(htot:tot<=maxLen)(hlen:ts.length<=tot)(hus:us.length=tot)
 (hb:w'.heap[b]?=some (.cells us.toArray e (0,0))) (hc:∀i,i<ts.length->us[i]?=some (.int .i64 (ts.getD i default))):Jx w' F σ (.vec e 1 g ts.length (Yx ts)) pl:=by
 refine⟨h1,h2,fun h=>(by rw[hl]at h;cases h),fun i _=>rfl,fun b' t' hl'=>?_⟩
 rw[hl]at hl'
 injection hl' with hl'
 injection hl' with e1 e2
 subst e1;subst e2
 refine⟨hlen,htot,us,hb,by rw[Nat.mul_one];exact hus,fun i j A hi hA=>?_⟩
 cases j with
 |succ j=>simp[Yx]at hA
 | zero =>
   simp only[Yx,List.getElem?_cons_zero,Qgz]at hA
   subst hA
   exact⟨_,by rw[Nat.mul_one,Nat.add_zero];exact hc i hi,.d .int,rfl⟩
theorem rowOf {zs:List Int}{g:Nat}{v:Value}{e:TypeId}(hm:Q3 ⟨[],[some (.vec e 1 g zs.length (Yx zs))]⟩ σ F w)(hv:Vc w F σ (.osl (.arg 0) g 0 zs.length) v) :
 ∃ pl,σ (.arg 0)=some (some pl)∧pl.g=g∧pl.sz=1∧((pl.loc=none∧zs=[]∧v=.slice none 0 0) ∨
   ∃(b tot:Nat) (us:List Value),pl.loc=some (b,tot)/\tot<=maxLen/\zs.length<=tot/\us.length=tot/\w.heap[b]?=some (.cells us.toArray e (0,0))/\us.take zs.length=zs.map (Value.int .i64)/\v=.slice (some ⟨b,0,none⟩) zs.length tot):=by
 obtain⟨pl,hr,hok,_,hat⟩:=Uz hm hv rfl
 obtain⟨h1,h2,h3,_,h5⟩:=hok
 refine⟨pl,hr,h1,h2,?_⟩
 have hsl:=hat h1
 unfold Yn at hsl
 split at hsl
 .rename_i hl
  exact .inl ⟨hl,List.length_eq_zero_iff.1 (h3 hl),hsl.2.2⟩
 .rename_i b tot hl
  obtain⟨A,cap,rfl,hnc,hoc,hA⟩:=hsl
  obtain⟨hnt,htm,us,hb,hus,hc⟩:=h5 b tot hl
  have:=hA (.inr rfl)
  subst this
  have hcap:cap=tot:=by omega
  subst hcap
  rw[Nat.mul_one]at hus
  refine .inr ⟨b,cap,us,hl,htm,hnt,hus,hb,?_,by simp⟩
  apply List.ext_getElem?
  intro i
  by_cases hi:i<zs.length
  .obtain⟨u,hu,hv,_⟩:=hc i 0 (.d (.int .i64 (zs.getD i default))) hi rfl
   rw[List.getElem?_take_of_lt hi]
   rw[Nat.mul_one,Nat.add_zero]at hu
   rw[hu,hv.int]
   simp[hi]
  .rw[List.getElem?_take_eq_none Om,Qht (by simp;omega)]
end
def Wq (zs:List Int):List Int:=zs.mergeSort fun x y=>decide (x<=y)
theorem C4 (zs:List Int)(hz:zs.length<=1000000)(g e:Nat):Qz Tryz.prog 96 [.osl (.arg 0) g 0 zs.length] ⟨[],[some (.vec e 1 g zs.length (Yx zs))]⟩
 (Ret (fun _:Unit=>([],⟨[],[some (.vec e 1 g zs.length (Yx (Wq zs)))]⟩)) fun _=>True):=by
 refine⟨⟨_,Tryz.func96,rfl,rfl⟩,fun σ F w Q5 hm ha=>?_⟩
 obtain⟨v,rfl⟩:∃v,Q5=[v]:=by
  match Q5,ha.1 with
  |[v],_=>exact⟨v,rfl⟩
 have hv:=ha.2 0 _ v rfl rfl
 obtain⟨pl,hr,h1,h2,⟨hl,rfl,rfl⟩|⟨b,tot,us,hl,htm,hnt,hus,hb,htake,rfl⟩⟩:=rowOf hm hv
 .refine(Tryz.slices_Sort_int_none none 0 w).mono ?_
  rintro _ _ ⟨rfl,rfl⟩
  exact⟨_,_,_,σ,F,rfl,⟨(),trivial,rfl,rfl⟩,.tup (us:=[]) rfl (fun j x u h=>by simp at h),by simpa[Wq] using hm,Step.refl σ F _,SLe.refl σ⟩
 .have hH:=holds_of_blockI (ss:=zs) hb (by simpa using htake)
  refine(Tryz.slices_Sort_int b 0 tot zs w hH (Qh4.1 hb).1 Om).mono ?_
  rintro _ _ ⟨rfl,n,os,rfl⟩
  have hlen:(Wq zs).length=zs.length:=List.length_mergeSort _
  show ∃v A m' σ' F',_/\Ret (fun _:Unit=>([],⟨[],[some (.vec e 1 g zs.length (Yx (Wq zs)))]⟩)) (fun _=>True) A m'/\_
  rw[show(zs.mergeSort fun x y=>decide (x<=y))=Wq zs from rfl]
  generalize Wq zs=ts at hlen
  have hnew:=heap_sortedI (n:=n) (os:=os) ts.toArray hb
  have ht2:=take_putCellsI us.toArray ts (by simp;omega)
  have hB:=Qgo (w':=grow (putRow (Value.int .i64) (Sort.ahead w n) b 0 ts.toArray) os) (F:=F) (σ:=σ) (zs:=zs) (ts:=ts) (us:=(putCells (Value.int .i64) 0 ts.toArray us.toArray).toList) (e:=e) h1 h2 hl htm Om (by simp[putCells,hus]) (by simpa using hnew) (fun i hi=>by
   have:((putCells (Value.int .i64) 0 ts.toArray us.toArray).toList.take ts.length)[i]?=(ts.map (Value.int .i64))[i]?:=by rw[ht2]
   rw[List.getElem?_take_of_lt hi]at this
   rw[this]
   simp[hi])
  rw[hlen]at hB
  obtain⟨g1,g2⟩:=Qbq hm hr hl (grownBy_sortedI ts.toArray) (by simp[grow,putRow,mapBlock,Sort.ahead,World.drewN]) hB
  exact⟨_,_,_,σ,F,rfl,⟨(),trivial,rfl,rfl⟩,.tup (us:=[]) rfl (fun j x u h=>by simp at h),g1,g2,SLe.refl σ⟩
end Go.Proofs.YtmlhghddfobmmaaGreatDoor
