import Derived.Test.YtmlhghddfobmmaaGreatDoorOpenW
import Derived.Test.YtmlhghddfobmmaaGreatDoorRows
import Derived.LaidMore
import Derived.LaidHandle
import Derived.OpenShut
import Derived.Stop.Joined
import Derived.LaidOnce
namespace Go.Proofs.YtmlhghddfobmmaaGreatDoor
set_option linter.unusedSimpArgs false
set_option linter.unusedVariables false
open Go Go.Ab
open Go.ChangeShapes Go.WideShapes Go.ChangeAt Go.RowKit
set_option maxRecDepth 100000
abbrev Sz:List (String × DataW Unit):=[("sizar/rules.kinds",Rows.laid_sizar_rules_kinds)]
theorem Qa2:Tryz.prog.globalNamed "sizar/rules.kinds"=some 0:=by kernel_rfl
theorem Qg0:(Tryz.prog.globals[0]?).map (·.type)=some 266:=by kernel_rfl
theorem Q28 {W:World}{fuel:Nat}{t:TypeId}{ps rs:Array TypeId}{va:Bool}{v:Value}{q:List MemPlace}(ht:Tryz.prog.underlying t=some (.func ps rs va))
 (h:DataW.trod (funcToken Tryz.prog) Tryz.prog W 0 (fun _=>true) true fuel t [v]=some (.nil,q)):v=.nilFunc:=by
 cases fuel with
 |zero=>simp[DataW.trod]at h
 |succ n=>cases v<;>simp[DataW.trod,ht]at h<;>rfl
theorem G3 {W:World}{fuel:Nat}{cs:List Value}{q:List MemPlace}{b0 b1 b2 b3:Bool}{e f:DataW (List UInt8)}
 (h:DataW.trod (funcToken Tryz.prog) Tryz.prog W 0 (fun _=>true) true fuel 265 cs=some (.agg [.lit (.bool b0),.lit (.bool b1),.lit (.bool b2),.lit (.bool b3),e,f],q)) :
 ∃v4 v5,cs=[.bool b0,.bool b1,.bool b2,.bool b3,v4,v5]/\(∃n r,DataW.trod (funcToken Tryz.prog) Tryz.prog W 0 (fun _=>true) true n 103 [v4]=some (e,r))/\(∃n r,DataW.trod (funcToken Tryz.prog) Tryz.prog W 0 (fun _=>true) true n 263 [v5]=some (f,r)):=by
 obtain⟨xs,n,rfl,hx,hl,hxl,hf⟩:=DataW.trod_struct Tryz.underlying265 h
 have hl6:cs.length=6:=hl.trans Kr
 have hx6:xs.length=6:=hxl
 match cs,hl6 with
 |[c0,c1,c2,c3,c4,c5],_ =>
 match xs,hx6 with
 |[x0,x1,x2,x3,x4,x5],_ =>
 simp only[Qin,List.map_nil,Qh6,DataW.agg.injEq,List.cons.injEq,and_true]at hx
 obtain⟨⟨e0,e1,e2,e3,e4,e5⟩,_⟩:=hx
 have f0:=hf 0 _ rfl
 have f1:=hf 1 _ rfl
 have f2:=hf 2 _ rfl
 have f3:=hf 3 _ rfl
 have f4:=hf 4 _ rfl
 have f5:=hf 5 _ rfl
 obtain⟨y0,g0,k0⟩:=DataW.trod_bool Tryz.underlying4 f0
 obtain⟨y1,g1,k1⟩:=DataW.trod_bool Tryz.underlying4 f1
 obtain⟨y2,g2,k2⟩:=DataW.trod_bool Tryz.underlying4 f2
 obtain⟨y3,g3,k3⟩:=DataW.trod_bool Tryz.underlying4 f3
 obtain rfl:c0=.bool y0:=(List.cons.inj (show[c0]=[Value.bool y0] from g0)).1
 obtain rfl:c1=.bool y1:=(List.cons.inj (show[c1]=[Value.bool y1] from g1)).1
 obtain rfl:c2=.bool y2:=(List.cons.inj (show[c2]=[Value.bool y2] from g2)).1
 obtain rfl:c3=.bool y3:=(List.cons.inj (show[c3]=[Value.bool y3] from g3)).1
 rw[k0]at e0;rw[k1]at e1;rw[k2]at e2;rw[k3]at e3
 injection e0 with e0
 injection e0 with e0
 injection e1 with e1
 injection e1 with e1
 injection e2 with e2
 injection e2 with e2
 injection e3 with e3
 injection e3 with e3
 subst e0;subst e1;subst e2;subst e3
 refine⟨c4,c5,rfl,⟨n,x4.2,?_⟩,⟨n,x5.2,?_⟩⟩
 .rw[e4]
  exact f4
 .rw[e5]
  exact f5
theorem Un {α:Type}(l:List α)(i:Nat):l.drop i=(l.drop i).take 6++l.drop (i+6):=by
 rw[<-List.drop_drop]
 exact(Qil 6 (l.drop i)).symm
theorem Qbd {α:Type}{cs:List α}(h:cs.length=60):cs.drop 0=(cs.drop 0).take 6++((cs.drop 6).take 6++((cs.drop 12).take 6++((cs.drop 18).take 6++((cs.drop 24).take 6++((cs.drop 30).take 6++((cs.drop 36).take 6++((cs.drop 42).take 6++((cs.drop 48).take 6++((cs.drop 54).take 6))))))))) :=
 (Un cs 0).trans (congrArg _ ((Un cs 6).trans (congrArg _ ((Un cs 12).trans (congrArg _ ((Un cs 18).trans (congrArg _ ((Un cs 24).trans (congrArg _ ((Un cs 30).trans (congrArg _ ((Un cs 36).trans (congrArg _ ((Un cs 42).trans (congrArg _ ((Un cs 48).trans (congrArg _ ((Un cs 54).trans (by rw[Qib (show cs.length<=54+6 by omega),Qih])))))))))))))))))))
theorem Qba {W:World}(h:laidMetH Tryz.prog Sz W):∀j v,([.bool false,.bool false,.bool false,.bool false,.nilFunc,.nilFunc,.bool false,.bool false,.bool false,.bool true,.func (.func 260) #[] #[],.func (.func 261) #[] #[],.bool false,.bool false,.bool false,.bool true,.func (.func 262) #[] #[],.func (.func 263) #[] #[],.bool false,.bool true,.bool false,.bool true,.func (.func 264) #[] #[],.func (.func 265) #[] #[],.bool false,.bool false,.bool false,.bool true,.func (.func 266) #[] #[],.func (.func 267) #[] #[],.bool true,.bool true,.bool false,.bool false,.func (.func 268) #[] #[],.func (.func 270) #[] #[],.bool true,.bool true,.bool false,.bool false,.func (.func 272) #[] #[],.func (.func 273) #[] #[],.bool false,.bool true,.bool false,.bool false,.func (.func 274) #[] #[],.func (.func 275) #[] #[],.bool false,.bool true,.bool true,.bool false,.func (.func 276) #[] #[],.func (.func 278) #[] #[],.bool true,.bool false,.bool false,.bool false,.func (.func 269) #[] #[],.func (.func 280) #[] #[]]:List Value)[j]?=some v->W.cell? ⟨0,j,none⟩=some v:=by
 obtain⟨g,t,cs,fuel,p,hg,ht,hv,hd⟩:=h.funcs (Qi9.2 rfl)
 obtain rfl:=Option.some.inj (Qa2.symm.trans hg)
 obtain rfl:=Option.some.inj (Qg0.symm.trans ht)
 obtain⟨xs,m,rfl,hx,hl,hxl,hf⟩:=DataW.trod_array Tryz.underlying266 hd
 have hl60:cs.toList.length=60:=hl.trans Kr
 have hc6:Tryz.prog.cellsOf 265=6:=by kernel_rfl
 rw[hc6]at hf
 have hxm:xs.map (·.1)=[.agg [.lit (.bool false),.lit (.bool false),.lit (.bool false),.lit (.bool false),.nil,.nil],.agg [.lit (.bool false),.lit (.bool false),.lit (.bool false),.lit (.bool true),.held [115,105,122,97,114,47,114,117,108,101,115,46,107,105,110,100,115,36,49],.held [115,105,122,97,114,47,114,117,108,101,115,46,107,105,110,100,115,36,50]],.agg [.lit (.bool false),.lit (.bool false),.lit (.bool false),.lit (.bool true),.held [115,105,122,97,114,47,114,117,108,101,115,46,107,105,110,100,115,36,51],.held [115,105,122,97,114,47,114,117,108,101,115,46,107,105,110,100,115,36,52]],.agg [.lit (.bool false),.lit (.bool true),.lit (.bool false),.lit (.bool true),.held [115,105,122,97,114,47,114,117,108,101,115,46,107,105,110,100,115,36,53],.held [115,105,122,97,114,47,114,117,108,101,115,46,107,105,110,100,115,36,54]],.agg [.lit (.bool false),.lit (.bool false),.lit (.bool false),.lit (.bool true),.held [115,105,122,97,114,47,114,117,108,101,115,46,107,105,110,100,115,36,55],.held [115,105,122,97,114,47,114,117,108,101,115,46,107,105,110,100,115,36,56]],.agg [.lit (.bool true),.lit (.bool true),.lit (.bool false),.lit (.bool false),.held [115,105,122,97,114,47,114,117,108,101,115,46,107,105,110,100,115,36,57],.held [115,105,122,97,114,47,114,117,108,101,115,46,107,105,110,100,115,36,49,48]],.agg [.lit (.bool true),.lit (.bool true),.lit (.bool false),.lit (.bool false),.held [115,105,122,97,114,47,114,117,108,101,115,46,107,105,110,100,115,36,49,49],.held [115,105,122,97,114,47,114,117,108,101,115,46,107,105,110,100,115,36,49,50]],.agg [.lit (.bool false),.lit (.bool true),.lit (.bool false),.lit (.bool false),.held [115,105,122,97,114,47,114,117,108,101,115,46,107,105,110,100,115,36,49,51],.held [115,105,122,97,114,47,114,117,108,101,115,46,107,105,110,100,115,36,49,52]],.agg [.lit (.bool false),.lit (.bool true),.lit (.bool true),.lit (.bool false),.held [115,105,122,97,114,47,114,117,108,101,115,46,107,105,110,100,115,36,49,53],.held [115,105,122,97,114,47,114,117,108,101,115,46,107,105,110,100,115,36,49,54]],.agg [.lit (.bool true),.lit (.bool false),.lit (.bool false),.lit (.bool false),.held [115,105,122,97,114,47,114,117,108,101,115,46,99,111,117,114,115,101],.held [115,105,122,97,114,47,114,117,108,101,115,46,107,105,110,100,115,36,49,55]]]:=by
  injection hx with hx _
  injection hx with hx
  exact hx.symm
 obtain⟨x0,x1,x2,x3,x4,x5,x6,x7,x8,x9,hxs⟩:∃x0 x1 x2 x3 x4 x5 x6 x7 x8 x9,xs=[x0,x1,x2,x3,x4,x5,x6,x7,x8,x9]:=by
  match xs,hxl with
  |[y0,y1,y2,y3,y4,y5,y6,y7,y8,y9],_=>exact⟨y0,y1,y2,y3,y4,y5,y6,y7,y8,y9,rfl⟩
 subst hxs
 simp only[Qin,List.map_nil,List.cons.injEq,and_true]at hxm
 obtain⟨e0,e1,e2,e3,e4,e5,e6,e7,e8,e9⟩:=hxm
 have r0:DataW.trod (funcToken Tryz.prog) Tryz.prog W 0 (fun _=>true) true m 265 ((cs.toList.drop 0).take 6)=some (x0.1,x0.2):=hf 0 Dc
 rw[e0]at r0
 obtain⟨u0,w0,c0,⟨n0,a0,p0⟩,⟨o0,b0,q0⟩⟩:=G3 r0
 obtain rfl:=Q28 Tryz.underlying103 p0
 obtain rfl:=Q28 Tryz.underlying263 q0
 have r1:DataW.trod (funcToken Tryz.prog) Tryz.prog W 0 (fun _=>true) true m 265 ((cs.toList.drop 6).take 6)=some (x1.1,x1.2):=hf 1 Dc
 rw[e1]at r1
 obtain⟨u1,w1,c1,⟨n1,a1,p1⟩,⟨o1,b1,q1⟩⟩:=G3 r1
 obtain rfl:=func_of_trod (f0:=260) Tryz.underlying103 Kr p1
 obtain rfl:=func_of_trod (f0:=261) Tryz.underlying263 Kr q1
 have r2:DataW.trod (funcToken Tryz.prog) Tryz.prog W 0 (fun _=>true) true m 265 ((cs.toList.drop 12).take 6)=some (x2.1,x2.2):=hf 2 Dc
 rw[e2]at r2
 obtain⟨u2,w2,c2,⟨n2,a2,p2⟩,⟨o2,b2,q2⟩⟩:=G3 r2
 obtain rfl:=func_of_trod (f0:=262) Tryz.underlying103 Kr p2
 obtain rfl:=func_of_trod (f0:=263) Tryz.underlying263 Kr q2
 have r3:DataW.trod (funcToken Tryz.prog) Tryz.prog W 0 (fun _=>true) true m 265 ((cs.toList.drop 18).take 6)=some (x3.1,x3.2):=hf 3 Dc
 rw[e3]at r3
 obtain⟨u3,w3,c3,⟨n3,a3,p3⟩,⟨o3,b3,q3⟩⟩:=G3 r3
 obtain rfl:=func_of_trod (f0:=264) Tryz.underlying103 Kr p3
 obtain rfl:=func_of_trod (f0:=265) Tryz.underlying263 Kr q3
 have r4:DataW.trod (funcToken Tryz.prog) Tryz.prog W 0 (fun _=>true) true m 265 ((cs.toList.drop 24).take 6)=some (x4.1,x4.2):=hf 4 Dc
 rw[e4]at r4
 obtain⟨u4,w4,c4,⟨n4,a4,p4⟩,⟨o4,b4,q4⟩⟩:=G3 r4
 obtain rfl:=func_of_trod (f0:=266) Tryz.underlying103 Kr p4
 obtain rfl:=func_of_trod (f0:=267) Tryz.underlying263 Kr q4
 have r5:DataW.trod (funcToken Tryz.prog) Tryz.prog W 0 (fun _=>true) true m 265 ((cs.toList.drop 30).take 6)=some (x5.1,x5.2):=hf 5 Dc
 rw[e5]at r5
 obtain⟨u5,w5,c5,⟨n5,a5,p5⟩,⟨o5,b5,q5⟩⟩:=G3 r5
 obtain rfl:=func_of_trod (f0:=268) Tryz.underlying103 Kr p5
 obtain rfl:=func_of_trod (f0:=270) Tryz.underlying263 Kr q5
 have r6:DataW.trod (funcToken Tryz.prog) Tryz.prog W 0 (fun _=>true) true m 265 ((cs.toList.drop 36).take 6)=some (x6.1,x6.2):=hf 6 Dc
 rw[e6]at r6
 obtain⟨u6,w6,c6,⟨n6,a6,p6⟩,⟨o6,b6,q6⟩⟩:=G3 r6
 obtain rfl:=func_of_trod (f0:=272) Tryz.underlying103 Kr p6
 obtain rfl:=func_of_trod (f0:=273) Tryz.underlying263 Kr q6
 have r7:DataW.trod (funcToken Tryz.prog) Tryz.prog W 0 (fun _=>true) true m 265 ((cs.toList.drop 42).take 6)=some (x7.1,x7.2):=hf 7 Dc
 rw[e7]at r7
 obtain⟨u7,w7,c7,⟨n7,a7,p7⟩,⟨o7,b7,q7⟩⟩:=G3 r7
 obtain rfl:=func_of_trod (f0:=274) Tryz.underlying103 Kr p7
 obtain rfl:=func_of_trod (f0:=275) Tryz.underlying263 Kr q7
 have r8:DataW.trod (funcToken Tryz.prog) Tryz.prog W 0 (fun _=>true) true m 265 ((cs.toList.drop 48).take 6)=some (x8.1,x8.2):=hf 8 Dc
 rw[e8]at r8
 obtain⟨u8,w8,c8,⟨n8,a8,p8⟩,⟨o8,b8,q8⟩⟩:=G3 r8
 obtain rfl:=func_of_trod (f0:=276) Tryz.underlying103 Kr p8
 obtain rfl:=func_of_trod (f0:=278) Tryz.underlying263 Kr q8
 have r9:DataW.trod (funcToken Tryz.prog) Tryz.prog W 0 (fun _=>true) true m 265 ((cs.toList.drop 54).take 6)=some (x9.1,x9.2):=hf 9 Dc
 rw[e9]at r9
 obtain⟨u9,w9,c9,⟨n9,a9,p9⟩,⟨o9,b9,q9⟩⟩:=G3 r9
 obtain rfl:=func_of_trod (f0:=269) Tryz.underlying103 Kr p9
 obtain rfl:=func_of_trod (f0:=280) Tryz.underlying263 Kr q9
 have hcs:=Qbd hl60
 rw[c0,c1,c2,c3,c4,c5,c6,c7,c8,c9,List.drop_zero]at hcs
 intro j v hj
 rw[World.var?_cell hg hv j,<-hj,<-Qh2,hcs]
 rfl
theorem Qa4:Ro=(List.range 60).map fun j=>(0,j,([.bool false,.bool false,.bool false,.bool false,.nilFunc,.nilFunc,.bool false,.bool false,.bool false,.bool true,.func (.func 260) #[] #[],.func (.func 261) #[] #[],.bool false,.bool false,.bool false,.bool true,.func (.func 262) #[] #[],.func (.func 263) #[] #[],.bool false,.bool true,.bool false,.bool true,.func (.func 264) #[] #[],.func (.func 265) #[] #[],.bool false,.bool false,.bool false,.bool true,.func (.func 266) #[] #[],.func (.func 267) #[] #[],.bool true,.bool true,.bool false,.bool false,.func (.func 268) #[] #[],.func (.func 270) #[] #[],.bool true,.bool true,.bool false,.bool false,.func (.func 272) #[] #[],.func (.func 273) #[] #[],.bool false,.bool true,.bool false,.bool false,.func (.func 274) #[] #[],.func (.func 275) #[] #[],.bool false,.bool true,.bool true,.bool false,.func (.func 276) #[] #[],.func (.func 278) #[] #[],.bool true,.bool false,.bool false,.bool false,.func (.func 269) #[] #[],.func (.func 280) #[] #[]]:List Value).getD j .nilFunc):=by kernel_rfl
theorem Qa5 {W:World}(h:laidMetH Tryz.prog Sz W):GOk (· < W.heap.size) W:=by
 intro g j v hg
 rw[Qa4]at hg
 obtain⟨i,hi,e⟩:=Qhw.1 hg
 rw[List.mem_range]at hi
 injection e with e1 e2
 injection e2 with e2 e3
 subst e1;subst e2
 have hc:=Qba h i v (by
  rw[<-e3,Qha,Qgy (by simpa using hi)]
  rfl)
 refine⟨?_,hc⟩
 cases hs:W.heap[0]? with
 |none=>simp[World.cell?,hs]at hc
 |some o=>exact(Qh4.1 hs).1
theorem Q7l (os:Os)(args:Array Value):laidMetH Tryz.prog Sz ((World.doorLaid Tryz.prog 23 os).forCall (fun _ _=>0) ⟨#[],args,[]⟩).memory :=
 laidMetH_of_parts3 (fuel:=8) (laidMet_nil _ _) Kr Kr
theorem Qg4 {H:Type}{enc:TypeId × Value->H}{P:Program}{w:World}{base:Nat}{spare:Nat->Bool}{held:Bool}{t0 t1 t2 t3:TypeId}{args:Array Value}{ds:List (DataW H)}{ps:List MemPlace}(h:DataW.TrodAll enc P w base spare held [t0,t1,t2,t3] args.toList ds ps) :
 ∃v0 v1 v2 v3 d0 d1 d2 d3 p0 p1 p2 p3,args=#[v0,v1,v2,v3]/\ds=[d0,d1,d2,d3]/\ps=p0++p1++p2++p3/\DataW.Trod enc P w base spare held t0 v0 d0 p0/\DataW.Trod enc P w base spare held t1 v1 d1 p1/\DataW.Trod enc P w base spare held t2 v2 d2 p2/\DataW.Trod enc P w base spare held t3 v3 d3 p3:=by
 obtain⟨v0,vs0,d0,ds0,p0,q0,hargs,rfl,rfl,k0,h0⟩:=trodAll_cons h
 obtain⟨v1,vs1,d1,ds1,p1,q1,rfl,rfl,rfl,k1,h1⟩:=trodAll_cons h0
 obtain⟨v2,vs2,d2,ds2,p2,q2,rfl,rfl,rfl,k2,h2⟩:=trodAll_cons h1
 obtain⟨v3,vs3,d3,ds3,p3,q3,rfl,rfl,rfl,k3,h3⟩:=trodAll_cons h2
 obtain⟨rfl,rfl,rfl⟩:=trodAll_nil h3
 exact⟨v0,v1,v2,v3,d0,d1,d2,d3,p0,p1,p2,p3,by cases args;simp_all,rfl,by simp,k0,k1,k2,k3⟩
theorem Q62 {w:World}{x0 x1 x2 x3:D}{v0 v1 v2 v3:Value}(h0:Rd w (· < w.heap.size) x0 v0)(h1:Rd w (· < w.heap.size) x1 v1)(h2:Rd w (· < w.heap.size) x2 v2)(h3:Rd w (· < w.heap.size) x3 v3):∀(j:Nat) x u,[x0,x1,x2,x3][j]?=some x->[v0,v1,v2,v3][j]?=some u->Rd w (· < w.heap.size) x u
 |0,_,_,hx,hu=>by cases hx;cases hu;exact h0
 |1,_,_,hx,hu=>by cases hx;cases hu;exact h1
 |2,_,_,hx,hu=>by cases hx;cases hu;exact h2
 |3,_,_,hx,hu=>by cases hx;cases hu;exact h3
 |_+4,_,_,hx,_=>by simp at hx
end Go.Proofs.YtmlhghddfobmmaaGreatDoor
