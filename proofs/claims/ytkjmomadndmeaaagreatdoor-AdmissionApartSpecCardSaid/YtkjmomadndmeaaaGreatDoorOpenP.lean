import Derived.Test.YtkjmomadndmeaaaGreatDoorLawCF
import Derived.Test.YtkjmomadndmeaaaGreatDoorRows
import Derived.LaidMore
import Derived.LaidHandle
import Derived.OpenShut
import Derived.Stop.Joined
import Derived.LaidOnce
import Derived.Test.YtkjmomadndmeaaaGreatDoorBunB
namespace Go.Proofs.YtkjmomadndmeaaaGreatDoor
set_option linter.unusedSimpArgs false
set_option linter.unusedVariables false
open Go Go.Ab
open Go.ChangeShapes Go.WideShapes Go.ChangeAt Go.RowKit
set_option maxRecDepth 100000
abbrev laidK:List (String × DataW Unit):=[("errors.errorType",Rows.laid_errors_errorType),("sizar/rules.kinds",Rows.laid_sizar_rules_kinds)]
theorem gKinds:Tryz.prog.globalNamed "sizar/rules.kinds"=some 0:=by kernel_rfl
theorem tKinds:(Tryz.prog.globals[0]?).map (·.type)=some 202:=by kernel_rfl
theorem nilf_of_trod {W:World}{fuel:Nat}{t:TypeId}{ps rs:Array TypeId}{va:Bool}{v:Value}{q:List MemPlace}(ht:Tryz.prog.underlying t=some (.func ps rs va))
 (h:DataW.trod (funcToken Tryz.prog) Tryz.prog W 0 (fun _=>true) true fuel t [v]=some (.nil,q)):v=.nilFunc:=by
 cases fuel with
 |zero=>simp[DataW.trod]at h
 |succ n=>cases v<;>simp[DataW.trod,ht]at h<;>rfl
theorem row_trod {W:World}{fuel:Nat}{cs:List Value}{q:List MemPlace}{b0 b1 b2 b3:Bool}{e f:DataW (List UInt8)}
 (h:DataW.trod (funcToken Tryz.prog) Tryz.prog W 0 (fun _=>true) true fuel 201 cs=some (.agg [.lit (.bool b0),.lit (.bool b1),.lit (.bool b2),.lit (.bool b3),e,f],q)) :
 ∃v4 v5,cs=[.bool b0,.bool b1,.bool b2,.bool b3,v4,v5]/\(∃n r,DataW.trod (funcToken Tryz.prog) Tryz.prog W 0 (fun _=>true) true n 197 [v4]=some (e,r))/\(∃n r,DataW.trod (funcToken Tryz.prog) Tryz.prog W 0 (fun _=>true) true n 199 [v5]=some (f,r)):=by
 obtain⟨xs,n,rfl,hx,hl,hxl,hf⟩:=DataW.trod_struct Tryz.underlying201 h
 have hl6:cs.length=6:=hl.trans Kr
 have hx6:xs.length=6:=hxl
 match cs,hl6 with
 |[c0,c1,c2,c3,c4,c5],_ =>
 match xs,hx6 with
 |[x0,x1,x2,x3,x4,x5],_ =>
 simp only[List.map_cons,List.map_nil,Prod.mk.injEq,DataW.agg.injEq,List.cons.injEq,and_true]at hx
 obtain⟨⟨e0,e1,e2,e3,e4,e5⟩,_⟩:=hx
 have f0:=hf 0 _ rfl
 have f1:=hf 1 _ rfl
 have f2:=hf 2 _ rfl
 have f3:=hf 3 _ rfl
 have f4:=hf 4 _ rfl
 have f5:=hf 5 _ rfl
 obtain⟨y0,g0,k0⟩:=DataW.trod_bool Tryz.underlying4 f0
 obtain⟨y1,g1,k1⟩:=DataW.trod_bool Tryz.underlying4 f1
 obtain⟨y2,g2,k2⟩:=DataW.trod_bool Tryz.underlying4 f2
 obtain⟨y3,g3,k3⟩:=DataW.trod_bool Tryz.underlying4 f3
 obtain rfl:c0=.bool y0:=(List.cons.inj (show[c0]=[Value.bool y0] from g0)).1
 obtain rfl:c1=.bool y1:=(List.cons.inj (show[c1]=[Value.bool y1] from g1)).1
 obtain rfl:c2=.bool y2:=(List.cons.inj (show[c2]=[Value.bool y2] from g2)).1
 obtain rfl:c3=.bool y3:=(List.cons.inj (show[c3]=[Value.bool y3] from g3)).1
 rw[k0]at e0;rw[k1]at e1;rw[k2]at e2;rw[k3]at e3
 injection e0 with e0
 injection e0 with e0
 injection e1 with e1
 injection e1 with e1
 injection e2 with e2
 injection e2 with e2
 injection e3 with e3
 injection e3 with e3
 subst e0;subst e1;subst e2;subst e3
 refine⟨c4,c5,rfl,⟨n,x4.2,?_⟩,⟨n,x5.2,?_⟩⟩
 .rw[e4]
  exact f4
 .rw[e5]
  exact f5
theorem cut6 {α:Type}(l:List α)(i:Nat):l.drop i=(l.drop i).take 6++l.drop (i+6):=by
 rw[<-List.drop_drop]
 exact(List.take_append_drop 6 (l.drop i)).symm
theorem list60 {α:Type}{cs:List α}(h:cs.length=60):cs.drop 0=(cs.drop 0).take 6++((cs.drop 6).take 6++((cs.drop 12).take 6++((cs.drop 18).take 6++((cs.drop 24).take 6++((cs.drop 30).take 6++((cs.drop 36).take 6++((cs.drop 42).take 6++((cs.drop 48).take 6++((cs.drop 54).take 6))))))))) :=
 (cut6 cs 0).trans (congrArg _ ((cut6 cs 6).trans (congrArg _ ((cut6 cs 12).trans (congrArg _ ((cut6 cs 18).trans (congrArg _ ((cut6 cs 24).trans (congrArg _ ((cut6 cs 30).trans (congrArg _ ((cut6 cs 36).trans (congrArg _ ((cut6 cs 42).trans (congrArg _ ((cut6 cs 48).trans (congrArg _ ((cut6 cs 54).trans (by rw[List.drop_eq_nil_of_le (show cs.length<=54+6 by omega),List.append_nil])))))))))))))))))))
theorem kinds_of_laid {W:World}(h:laidMetH Tryz.prog laidK W):∀j v,([.bool false,.bool false,.bool false,.bool false,.nilFunc,.nilFunc,.bool false,.bool false,.bool false,.bool true,.func (.func 286) #[] #[],.func (.func 287) #[] #[],.bool false,.bool false,.bool false,.bool true,.func (.func 288) #[] #[],.func (.func 289) #[] #[],.bool false,.bool true,.bool false,.bool true,.func (.func 290) #[] #[],.func (.func 291) #[] #[],.bool false,.bool false,.bool false,.bool true,.func (.func 292) #[] #[],.func (.func 293) #[] #[],.bool true,.bool true,.bool false,.bool false,.func (.func 294) #[] #[],.func (.func 296) #[] #[],.bool true,.bool true,.bool false,.bool false,.func (.func 298) #[] #[],.func (.func 299) #[] #[],.bool false,.bool true,.bool false,.bool false,.func (.func 300) #[] #[],.func (.func 301) #[] #[],.bool false,.bool true,.bool true,.bool false,.func (.func 302) #[] #[],.func (.func 303) #[] #[],.bool true,.bool false,.bool false,.bool false,.func (.func 295) #[] #[],.func (.func 305) #[] #[]]:List Value)[j]?=some v->W.cell? ⟨0,j,none⟩=some v:=by
 obtain⟨g,t,cs,fuel,p,hg,ht,hv,hd⟩:=h.funcs (List.mem_cons_of_mem _ (List.mem_singleton.2 rfl))
 obtain rfl:=Option.some.inj (gKinds.symm.trans hg)
 obtain rfl:=Option.some.inj (tKinds.symm.trans ht)
 obtain⟨xs,m,rfl,hx,hl,hxl,hf⟩:=DataW.trod_array Tryz.underlying202 hd
 have hl60:cs.toList.length=60:=hl.trans Kr
 have hc6:Tryz.prog.cellsOf 201=6:=by kernel_rfl
 rw[hc6]at hf
 have hxm:xs.map (·.1)=[.agg [.lit (.bool false),.lit (.bool false),.lit (.bool false),.lit (.bool false),.nil,.nil],.agg [.lit (.bool false),.lit (.bool false),.lit (.bool false),.lit (.bool true),.held [115,105,122,97,114,47,114,117,108,101,115,46,107,105,110,100,115,36,49],.held [115,105,122,97,114,47,114,117,108,101,115,46,107,105,110,100,115,36,50]],.agg [.lit (.bool false),.lit (.bool false),.lit (.bool false),.lit (.bool true),.held [115,105,122,97,114,47,114,117,108,101,115,46,107,105,110,100,115,36,51],.held [115,105,122,97,114,47,114,117,108,101,115,46,107,105,110,100,115,36,52]],.agg [.lit (.bool false),.lit (.bool true),.lit (.bool false),.lit (.bool true),.held [115,105,122,97,114,47,114,117,108,101,115,46,107,105,110,100,115,36,53],.held [115,105,122,97,114,47,114,117,108,101,115,46,107,105,110,100,115,36,54]],.agg [.lit (.bool false),.lit (.bool false),.lit (.bool false),.lit (.bool true),.held [115,105,122,97,114,47,114,117,108,101,115,46,107,105,110,100,115,36,55],.held [115,105,122,97,114,47,114,117,108,101,115,46,107,105,110,100,115,36,56]],.agg [.lit (.bool true),.lit (.bool true),.lit (.bool false),.lit (.bool false),.held [115,105,122,97,114,47,114,117,108,101,115,46,107,105,110,100,115,36,57],.held [115,105,122,97,114,47,114,117,108,101,115,46,107,105,110,100,115,36,49,48]],.agg [.lit (.bool true),.lit (.bool true),.lit (.bool false),.lit (.bool false),.held [115,105,122,97,114,47,114,117,108,101,115,46,107,105,110,100,115,36,49,49],.held [115,105,122,97,114,47,114,117,108,101,115,46,107,105,110,100,115,36,49,50]],.agg [.lit (.bool false),.lit (.bool true),.lit (.bool false),.lit (.bool false),.held [115,105,122,97,114,47,114,117,108,101,115,46,107,105,110,100,115,36,49,51],.held [115,105,122,97,114,47,114,117,108,101,115,46,107,105,110,100,115,36,49,52]],.agg [.lit (.bool false),.lit (.bool true),.lit (.bool true),.lit (.bool false),.held [115,105,122,97,114,47,114,117,108,101,115,46,107,105,110,100,115,36,49,53],.held [115,105,122,97,114,47,114,117,108,101,115,46,107,105,110,100,115,36,49,54]],.agg [.lit (.bool true),.lit (.bool false),.lit (.bool false),.lit (.bool false),.held [115,105,122,97,114,47,114,117,108,101,115,46,99,111,117,114,115,101],.held [115,105,122,97,114,47,114,117,108,101,115,46,107,105,110,100,115,36,49,55]]]:=by
  injection hx with hx _
  injection hx with hx
  exact hx.symm
 obtain⟨x0,x1,x2,x3,x4,x5,x6,x7,x8,x9,hxs⟩:∃x0 x1 x2 x3 x4 x5 x6 x7 x8 x9,xs=[x0,x1,x2,x3,x4,x5,x6,x7,x8,x9]:=by
  match xs,hxl with
  |[y0,y1,y2,y3,y4,y5,y6,y7,y8,y9],_=>exact⟨y0,y1,y2,y3,y4,y5,y6,y7,y8,y9,rfl⟩
 subst hxs
 simp only[List.map_cons,List.map_nil,List.cons.injEq,and_true]at hxm
 obtain⟨e0,e1,e2,e3,e4,e5,e6,e7,e8,e9⟩:=hxm
 have r0:DataW.trod (funcToken Tryz.prog) Tryz.prog W 0 (fun _=>true) true m 201 ((cs.toList.drop 0).take 6)=some (x0.1,x0.2):=hf 0 Dc
 rw[e0]at r0
 obtain⟨u0,w0,c0,⟨n0,a0,p0⟩,⟨o0,b0,q0⟩⟩:=row_trod r0
 obtain rfl:=nilf_of_trod Tryz.underlying197 p0
 obtain rfl:=nilf_of_trod Tryz.underlying199 q0
 have r1:DataW.trod (funcToken Tryz.prog) Tryz.prog W 0 (fun _=>true) true m 201 ((cs.toList.drop 6).take 6)=some (x1.1,x1.2):=hf 1 Dc
 rw[e1]at r1
 obtain⟨u1,w1,c1,⟨n1,a1,p1⟩,⟨o1,b1,q1⟩⟩:=row_trod r1
 obtain rfl:=func_of_trod (f0:=286) Tryz.underlying197 Kr p1
 obtain rfl:=func_of_trod (f0:=287) Tryz.underlying199 Kr q1
 have r2:DataW.trod (funcToken Tryz.prog) Tryz.prog W 0 (fun _=>true) true m 201 ((cs.toList.drop 12).take 6)=some (x2.1,x2.2):=hf 2 Dc
 rw[e2]at r2
 obtain⟨u2,w2,c2,⟨n2,a2,p2⟩,⟨o2,b2,q2⟩⟩:=row_trod r2
 obtain rfl:=func_of_trod (f0:=288) Tryz.underlying197 Kr p2
 obtain rfl:=func_of_trod (f0:=289) Tryz.underlying199 Kr q2
 have r3:DataW.trod (funcToken Tryz.prog) Tryz.prog W 0 (fun _=>true) true m 201 ((cs.toList.drop 18).take 6)=some (x3.1,x3.2):=hf 3 Dc
 rw[e3]at r3
 obtain⟨u3,w3,c3,⟨n3,a3,p3⟩,⟨o3,b3,q3⟩⟩:=row_trod r3
 obtain rfl:=func_of_trod (f0:=290) Tryz.underlying197 Kr p3
 obtain rfl:=func_of_trod (f0:=291) Tryz.underlying199 Kr q3
 have r4:DataW.trod (funcToken Tryz.prog) Tryz.prog W 0 (fun _=>true) true m 201 ((cs.toList.drop 24).take 6)=some (x4.1,x4.2):=hf 4 Dc
 rw[e4]at r4
 obtain⟨u4,w4,c4,⟨n4,a4,p4⟩,⟨o4,b4,q4⟩⟩:=row_trod r4
 obtain rfl:=func_of_trod (f0:=292) Tryz.underlying197 Kr p4
 obtain rfl:=func_of_trod (f0:=293) Tryz.underlying199 Kr q4
 have r5:DataW.trod (funcToken Tryz.prog) Tryz.prog W 0 (fun _=>true) true m 201 ((cs.toList.drop 30).take 6)=some (x5.1,x5.2):=hf 5 Dc
 rw[e5]at r5
 obtain⟨u5,w5,c5,⟨n5,a5,p5⟩,⟨o5,b5,q5⟩⟩:=row_trod r5
 obtain rfl:=func_of_trod (f0:=294) Tryz.underlying197 Kr p5
 obtain rfl:=func_of_trod (f0:=296) Tryz.underlying199 Kr q5
 have r6:DataW.trod (funcToken Tryz.prog) Tryz.prog W 0 (fun _=>true) true m 201 ((cs.toList.drop 36).take 6)=some (x6.1,x6.2):=hf 6 Dc
 rw[e6]at r6
 obtain⟨u6,w6,c6,⟨n6,a6,p6⟩,⟨o6,b6,q6⟩⟩:=row_trod r6
 obtain rfl:=func_of_trod (f0:=298) Tryz.underlying197 Kr p6
 obtain rfl:=func_of_trod (f0:=299) Tryz.underlying199 Kr q6
 have r7:DataW.trod (funcToken Tryz.prog) Tryz.prog W 0 (fun _=>true) true m 201 ((cs.toList.drop 42).take 6)=some (x7.1,x7.2):=hf 7 Dc
 rw[e7]at r7
 obtain⟨u7,w7,c7,⟨n7,a7,p7⟩,⟨o7,b7,q7⟩⟩:=row_trod r7
 obtain rfl:=func_of_trod (f0:=300) Tryz.underlying197 Kr p7
 obtain rfl:=func_of_trod (f0:=301) Tryz.underlying199 Kr q7
 have r8:DataW.trod (funcToken Tryz.prog) Tryz.prog W 0 (fun _=>true) true m 201 ((cs.toList.drop 48).take 6)=some (x8.1,x8.2):=hf 8 Dc
 rw[e8]at r8
 obtain⟨u8,w8,c8,⟨n8,a8,p8⟩,⟨o8,b8,q8⟩⟩:=row_trod r8
 obtain rfl:=func_of_trod (f0:=302) Tryz.underlying197 Kr p8
 obtain rfl:=func_of_trod (f0:=303) Tryz.underlying199 Kr q8
 have r9:DataW.trod (funcToken Tryz.prog) Tryz.prog W 0 (fun _=>true) true m 201 ((cs.toList.drop 54).take 6)=some (x9.1,x9.2):=hf 9 Dc
 rw[e9]at r9
 obtain⟨u9,w9,c9,⟨n9,a9,p9⟩,⟨o9,b9,q9⟩⟩:=row_trod r9
 obtain rfl:=func_of_trod (f0:=295) Tryz.underlying197 Kr p9
 obtain rfl:=func_of_trod (f0:=305) Tryz.underlying199 Kr q9
 have hcs:=list60 hl60
 rw[c0,c1,c2,c3,c4,c5,c6,c7,c8,c9,List.drop_zero]at hcs
 intro j v hj
 rw[World.var?_cell hg hv j,<-hj,<-Array.getElem?_toList,hcs]
 rfl
theorem globs_is:globs=(1,0,(.iface 330 (.agg #[.pointer (some ⟨2,261,none⟩)]):Value))::((List.range 60).map fun j=>(0,j,([.bool false,.bool false,.bool false,.bool false,.nilFunc,.nilFunc,.bool false,.bool false,.bool false,.bool true,.func (.func 286) #[] #[],.func (.func 287) #[] #[],.bool false,.bool false,.bool false,.bool true,.func (.func 288) #[] #[],.func (.func 289) #[] #[],.bool false,.bool true,.bool false,.bool true,.func (.func 290) #[] #[],.func (.func 291) #[] #[],.bool false,.bool false,.bool false,.bool true,.func (.func 292) #[] #[],.func (.func 293) #[] #[],.bool true,.bool true,.bool false,.bool false,.func (.func 294) #[] #[],.func (.func 296) #[] #[],.bool true,.bool true,.bool false,.bool false,.func (.func 298) #[] #[],.func (.func 299) #[] #[],.bool false,.bool true,.bool false,.bool false,.func (.func 300) #[] #[],.func (.func 301) #[] #[],.bool false,.bool true,.bool true,.bool false,.func (.func 302) #[] #[],.func (.func 303) #[] #[],.bool true,.bool false,.bool false,.bool false,.func (.func 295) #[] #[],.func (.func 305) #[] #[]]:List Value).getD j .nilFunc)):=by kernel_rfl
theorem et:Tryz.prog.globalNamed "errors.errorType"=some 1:=by kernel_rfl
theorem rt:(Tryz.prog.cutTypes.find? (·.1 == "internal/reflectlite.rtype")).map (·.2)=some 330:=by kernel_rfl
theorem oneRow:((List.range Tryz.prog.types.size).filter fun t=>Tryz.prog.rowNamed t [101,114,114,111,114])=[261]:=by kernel_rfl
theorem handle_of_laid {W:World}(h:laidMetH Tryz.prog laidK W):W.cell? ⟨1,0,none⟩=some (.iface 330 (.agg #[.pointer (some ⟨2,261,none⟩)])):=by
 have h':laidMet Tryz.prog [] W/\handlesMet Tryz.prog laidK W:=h
 obtain⟨name,u,ty,e1,e2,e3,e4,e5⟩:=h'.2 ("errors.errorType",Rows.laid_errors_errorType) (List.mem_cons_self ..)
 have en:name=[101,114,114,111,114]:=(Option.some.inj e1).symm
 subst en
 obtain rfl:=Option.some.inj (rt.symm.trans e2)
 have hm:ty∈(List.range Tryz.prog.types.size).filter fun t=>Tryz.prog.rowNamed t [101,114,114,111,114]:=List.mem_filter.2 ⟨List.mem_range.2 e3,e4⟩
 rw[oneRow]at hm
 obtain rfl:=List.mem_singleton.1 hm
 have hh:typeHandle Tryz.prog 261=.pointer (some ⟨2,261,none⟩):=by kernel_rfl
 rw[hh]at e5
 simpa using World.var?_cell et e5 0
theorem gok_of {W:World}(h:laidMetH Tryz.prog laidK W):GOk (· < W.heap.size) W:=by
 intro g j v hg
 rw[globs_is]at hg
 rcases List.mem_cons.1 hg with e|hg
 .injection e with e1 e2
  injection e2 with e2 e3
  subst e1;subst e2;subst e3
  have hc:=handle_of_laid h
  refine⟨?_,hc⟩
  cases hs:W.heap[1]? with
  |none=>simp[World.cell?,hs]at hc
  |some o=>exact(Array.getElem?_eq_some_iff.1 hs).1
 obtain⟨i,hi,e⟩:=List.mem_map.1 hg
 rw[List.mem_range]at hi
 injection e with e1 e2
 injection e2 with e2 e3
 subst e1;subst e2
 have hc:=kinds_of_laid h i v (by
  rw[<-e3,List.getD_eq_getElem?_getD,List.getElem?_eq_getElem (by simpa using hi)]
  rfl)
 refine⟨?_,hc⟩
 cases hs:W.heap[0]? with
 |none=>simp[World.cell?,hs]at hc
 |some o=>exact(Array.getElem?_eq_some_iff.1 hs).1
theorem door_met (os:Os)(args:Array Value):laidMetH Tryz.prog laidK ((World.doorLaid Tryz.prog 30 os).forCall (fun _ _=>0) ⟨#[],args,[]⟩).memory :=
 laidMetH_of_parts3 (fuel:=8) (laidMet_nil _ _) Kr Kr
theorem trodN_8 {H:Type}{enc:TypeId × Value->H}{P:Program}{w:World}{base:Nat}{spare:Nat->Bool}{held:Bool}{t0 t1 t2 t3 t4 t5 t6 t7:TypeId}{args:Array Value}{ds:List (DataW H)}{ps:List MemPlace}(h:DataW.TrodAll enc P w base spare held [t0,t1,t2,t3,t4,t5,t6,t7] args.toList ds ps) :
 ∃v0 v1 v2 v3 v4 v5 v6 v7 d0 d1 d2 d3 d4 d5 d6 d7 p0 p1 p2 p3 p4 p5 p6 p7,args=#[v0,v1,v2,v3,v4,v5,v6,v7]/\ds=[d0,d1,d2,d3,d4,d5,d6,d7]/\ps=p0++p1++p2++p3++p4++p5++p6++p7/\DataW.Trod enc P w base spare held t0 v0 d0 p0/\DataW.Trod enc P w base spare held t1 v1 d1 p1/\DataW.Trod enc P w base spare held t2 v2 d2 p2/\DataW.Trod enc P w base spare held t3 v3 d3 p3/\DataW.Trod enc P w base spare held t4 v4 d4 p4/\DataW.Trod enc P w base spare held t5 v5 d5 p5/\DataW.Trod enc P w base spare held t6 v6 d6 p6/\DataW.Trod enc P w base spare held t7 v7 d7 p7:=by
 obtain⟨v0,vs0,d0,ds0,p0,q0,hargs,rfl,rfl,k0,h0⟩:=trodAll_cons h
 obtain⟨v1,vs1,d1,ds1,p1,q1,rfl,rfl,rfl,k1,h1⟩:=trodAll_cons h0
 obtain⟨v2,vs2,d2,ds2,p2,q2,rfl,rfl,rfl,k2,h2⟩:=trodAll_cons h1
 obtain⟨v3,vs3,d3,ds3,p3,q3,rfl,rfl,rfl,k3,h3⟩:=trodAll_cons h2
 obtain⟨v4,vs4,d4,ds4,p4,q4,rfl,rfl,rfl,k4,h4⟩:=trodAll_cons h3
 obtain⟨v5,vs5,d5,ds5,p5,q5,rfl,rfl,rfl,k5,h5⟩:=trodAll_cons h4
 obtain⟨v6,vs6,d6,ds6,p6,q6,rfl,rfl,rfl,k6,h6⟩:=trodAll_cons h5
 obtain⟨v7,vs7,d7,ds7,p7,q7,rfl,rfl,rfl,k7,h7⟩:=trodAll_cons h6
 obtain⟨rfl,rfl,rfl⟩:=trodAll_nil h7
 exact⟨v0,v1,v2,v3,v4,v5,v6,v7,d0,d1,d2,d3,d4,d5,d6,d7,p0,p1,p2,p3,p4,p5,p6,p7,by cases args;simp_all,rfl,by simp,k0,k1,k2,k3,k4,k5,k6,k7⟩
theorem argsN_8 {w:World}{x0 x1 x2 x3 x4 x5 x6 x7:D}{v0 v1 v2 v3 v4 v5 v6 v7:Value}(h0:Rd w (· < w.heap.size) x0 v0)(h1:Rd w (· < w.heap.size) x1 v1)(h2:Rd w (· < w.heap.size) x2 v2)(h3:Rd w (· < w.heap.size) x3 v3)(h4:Rd w (· < w.heap.size) x4 v4)(h5:Rd w (· < w.heap.size) x5 v5)(h6:Rd w (· < w.heap.size) x6 v6)(h7:Rd w (· < w.heap.size) x7 v7):∀(j:Nat) x u,[x0,x1,x2,x3,x4,x5,x6,x7][j]?=some x->[v0,v1,v2,v3,v4,v5,v6,v7][j]?=some u->Rd w (· < w.heap.size) x u
 |0,_,_,hx,hu=>by cases hx;cases hu;exact h0
 |1,_,_,hx,hu=>by cases hx;cases hu;exact h1
 |2,_,_,hx,hu=>by cases hx;cases hu;exact h2
 |3,_,_,hx,hu=>by cases hx;cases hu;exact h3
 |4,_,_,hx,hu=>by cases hx;cases hu;exact h4
 |5,_,_,hx,hu=>by cases hx;cases hu;exact h5
 |6,_,_,hx,hu=>by cases hx;cases hu;exact h6
 |7,_,_,hx,hu=>by cases hx;cases hu;exact h7
 |_+8,_,_,hx,_=>by simp at hx
section
variable {H:Type}{enc:TypeId × Value->H}{w:World}
theorem opens_meet (m:Nat):Opens enc Tryz.prog w m 266 eMeet fun _=>True:=fun cs x h=>by
 obtain⟨m',rfl,hf,hall⟩:=opens_st (of_decide_eq_true Kr) Tryz.underlying266 h
 obtain⟨y0,h0⟩:=hf 0 _ rfl
 obtain⟨a0,k0,r0⟩:=opens_i m' _ _ h0
 obtain⟨y1,h1⟩:=hf 1 _ rfl
 obtain⟨a1,k1,r1⟩:=opens_i m' _ _ h1
 obtain⟨y2,h2⟩:=hf 2 _ rfl
 obtain⟨a2,k2,r2⟩:=opens_i m' _ _ h2
 obtain⟨y3,h3⟩:=hf 3 _ rfl
 obtain⟨a3,k3,r3⟩:=opens_i m' _ _ h3
 obtain⟨y4,h4⟩:=hf 4 _ rfl
 obtain⟨a4,k4,r4⟩:=opens_i m' _ _ h4
 exact⟨⟨a0,a1,a2,a3,a4⟩,Tt,hall [[D.int .i64 a0],[D.int .i64 a1],[D.int .i64 a2],[D.int .i64 a3],[D.int .i64 a4]] ⟨r0,r1,r2,r3,r4,Tt⟩⟩
theorem opens_meets (m:Nat):Opens enc Tryz.prog w m 154 (fun xs:List Meet=>[eMeets xs]) fun xs=>fitL xs:=fun cs x h=>by
 obtain⟨xs,h1,h2⟩:=opens_slice laidOut (t:=154) (et:=266) (sz:=5) (of_decide_eq_true Kr) Kr Kr Dc (e:=eMeet) (ok:=fun _=>True) (m:=m) (fun m' _=>opens_meet m') cs x h
 exact⟨xs,fitMax h1.1,h2⟩
theorem opens_grp (m:Nat):Opens enc Tryz.prog w m 325 eGrp fun _=>True:=fun cs x h=>by
 obtain⟨m',rfl,hf,hall⟩:=opens_st (of_decide_eq_true Kr) Tryz.underlying325 h
 obtain⟨y0,h0⟩:=hf 0 _ rfl
 obtain⟨a0,k0,r0⟩:=opens_i m' _ _ h0
 obtain⟨y1,h1⟩:=hf 1 _ rfl
 obtain⟨a1,k1,r1⟩:=opens_i m' _ _ h1
 obtain⟨y2,h2⟩:=hf 2 _ rfl
 obtain⟨a2,k2,r2⟩:=opens_i m' _ _ h2
 exact⟨⟨a0,a1,a2⟩,Tt,hall [[D.int .i64 a0],[D.int .i64 a1],[D.int .i64 a2]] ⟨r0,r1,r2,Tt⟩⟩
theorem opens_grps (m:Nat):Opens enc Tryz.prog w m 155 (fun xs:List Grp=>[eGrps xs]) fun xs=>fitL xs:=fun cs x h=>by
 obtain⟨xs,h1,h2⟩:=opens_slice laidOut (t:=155) (et:=325) (sz:=3) (of_decide_eq_true Kr) Kr Kr Dc (e:=eGrp) (ok:=fun _=>True) (m:=m) (fun m' _=>opens_grp m') cs x h
 exact⟨xs,fitMax h1.1,h2⟩
theorem opens_sec (m:Nat):Opens enc Tryz.prog w m 157 eSec fun _=>True:=fun cs x h=>by
 obtain⟨m',rfl,hf,hall⟩:=opens_st (of_decide_eq_true Kr) Tryz.underlying157 h
 obtain⟨y0,h0⟩:=hf 0 _ rfl
 obtain⟨a0,k0,r0⟩:=opens_i m' _ _ h0
 obtain⟨y1,h1⟩:=hf 1 _ rfl
 obtain⟨a1,k1,r1⟩:=opens_i m' _ _ h1
 obtain⟨y2,h2⟩:=hf 2 _ rfl
 obtain⟨a2,k2,r2⟩:=opens_i m' _ _ h2
 obtain⟨y3,h3⟩:=hf 3 _ rfl
 obtain⟨a3,k3,r3⟩:=opens_i m' _ _ h3
 obtain⟨y4,h4⟩:=hf 4 _ rfl
 obtain⟨a4,k4,r4⟩:=opens_i m' _ _ h4
 obtain⟨y5,h5⟩:=hf 5 _ rfl
 obtain⟨a5,k5,r5⟩:=opens_meets m' _ _ h5
 obtain⟨y6,h6⟩:=hf 6 _ rfl
 obtain⟨a6,k6,r6⟩:=opens_grps m' _ _ h6
 obtain⟨y7,h7⟩:=hf 7 _ rfl
 obtain⟨a7,k7,r7⟩:=opens_ints m' _ _ h7
 obtain⟨y8,h8⟩:=hf 8 _ rfl
 obtain⟨a8,k8,r8⟩:=opens_b m' _ _ h8
 exact⟨⟨a0,a1,a2,a3,a4,a5,a6,a7,a8⟩,Tt,hall [[D.int .i64 a0],[D.int .i64 a1],[D.int .i64 a2],[D.int .i64 a3],[D.int .i64 a4],[eMeets a5],[eGrps a6],[eInts a7],[D.bool a8]] ⟨r0,r1,r2,r3,r4,r5,r6,r7,r8,Tt⟩⟩
theorem opens_secs (m:Nat):Opens enc Tryz.prog w m 80 (fun xs:List Sec=>[eSecs xs]) fun xs=>fitL xs:=fun cs x h=>by
 obtain⟨xs,h1,h2⟩:=opens_slice laidOut (t:=80) (et:=157) (sz:=9) (of_decide_eq_true Kr) Kr Kr Dc (e:=eSec) (ok:=fun _=>True) (m:=m) (fun m' _=>opens_sec m') cs x h
 exact⟨xs,fitMax h1.1,h2⟩
theorem opens_bun (m:Nat):Opens enc Tryz.prog w m 83 eBun fun _=>True:=fun cs x h=>by
 obtain⟨m',rfl,hf,hall⟩:=opens_st (of_decide_eq_true Kr) Tryz.underlying83 h
 obtain⟨y0,h0⟩:=hf 0 _ rfl
 obtain⟨a0,k0,r0⟩:=opens_i m' _ _ h0
 obtain⟨y1,h1⟩:=hf 1 _ rfl
 obtain⟨a1,k1,r1⟩:=opens_i m' _ _ h1
 exact⟨⟨a0,a1⟩,Tt,hall [[D.int .i64 a0],[D.int .i64 a1]] ⟨r0,r1,Tt⟩⟩
theorem opens_buns (m:Nat):Opens enc Tryz.prog w m 81 (fun xs:List Bun=>[eBuns xs]) fun xs=>fitL xs:=fun cs x h=>by
 obtain⟨xs,h1,h2⟩:=opens_slice laidOut (t:=81) (et:=83) (sz:=2) (of_decide_eq_true Kr) Kr Kr Dc (e:=eBun) (ok:=fun _=>True) (m:=m) (fun m' _=>opens_bun m') cs x h
 exact⟨xs,fitMax h1.1,h2⟩
theorem open_secs {base:Nat}{v:Value}{d:DataW H}{q:List MemPlace}(hv:Value.okWide Tryz.prog w .any base 80 v)(h:DataW.Trod enc Tryz.prog w 0 (fun _=>true) true 80 v d q):∃xs:List Sec,fitL xs/\Rd w (· < w.heap.size) (eSecs xs) v:=by
 obtain⟨xs,h1,h2⟩:=opens_arg opens_secs hv h
 unfold Value.okWide at hv
 rw[Tryz.underlying80]at hv
 refine⟨xs,h1,h2.2 _ rfl ?_⟩
 cases v<;>first|rfl|(simp[Cell.okWide,Cell.ok,Tryz.underlying80]at hv;done)
theorem open_buns {base:Nat}{v:Value}{d:DataW H}{q:List MemPlace}(hv:Value.okWide Tryz.prog w .any base 81 v)(h:DataW.Trod enc Tryz.prog w 0 (fun _=>true) true 81 v d q):∃xs:List Bun,fitL xs/\Rd w (· < w.heap.size) (eBuns xs) v:=by
 obtain⟨xs,h1,h2⟩:=opens_arg opens_buns hv h
 unfold Value.okWide at hv
 rw[Tryz.underlying81]at hv
 refine⟨xs,h1,h2.2 _ rfl ?_⟩
 cases v<;>first|rfl|(simp[Cell.okWide,Cell.ok,Tryz.underlying81]at hv;done)
theorem open_bun {base:Nat}{v:Value}{d:DataW H}{q:List MemPlace}(hv:Value.okWide Tryz.prog w .any base 83 v)(h:DataW.Trod enc Tryz.prog w 0 (fun _=>true) true 83 v d q):∃a:Bun,True/\Rd w (· < w.heap.size) (.agg (eBun a)) v:=by
 obtain⟨a,h1,h2⟩:=opens_arg opens_bun hv h
 exact⟨a,h1,h2.1 _ Tryz.underlying83⟩
end
end Go.Proofs.YtkjmomadndmeaaaGreatDoor
