import Derived.Test.YtmlhghddfobmmaaGreatDoorRuleA
import Derived.Test.YtmlhghddfobmmaaGreatDoorEngAE
import Derived.Test.YtmlhghddfobmmaaGreatDoorEngAO
namespace Go.Proofs.YtmlhghddfobmmaaGreatDoor
set_option linter.unusedSimpArgs false
set_option linter.unusedVariables false
open Go Go.Ab
set_option maxRecDepth 100000
def bw (n lo hi:Int):Bool:=decide (lo<=n)&&decide (n<=hi)
def chkQ (num den:Int):Int:=if den<1\/1073741824<den\/num < -1073741824\/1073741824<num\/Nat.gcd num.natAbs den.natAbs≠1 then 50 else 0
def meanQ (num den:Int):Bool:=decide (chkQ num den=0)&&bw num 0 (12*den)
def crsOk (c:Int):Bool:=bw c 0 4095
def rightR (r:Rule):Bool :=
 if r.op=1 then true
 else if r.op=2 then true
 else if r.op=3 then bw r.n 0 200
 else if r.op=4 then decide (r.kids.length=1)
 else if r.op=5 then crsOk r.course&&bw r.n 0 12
 else if r.op=6 then crsOk r.course&&bw r.n 1 100
 else if r.op=7 then bw r.n 0 10000
 else if r.op=8 then meanQ r.n r.d
 else crsOk r.course
def namedR (r:Rule):Bool:=decide (r.op=5)||(decide (r.op=6)||decide (r.op=9))
def countR (r:Rule):Bool:=decide (r.op=3)||(decide (r.op=5)||(decide (r.op=6)||(decide (r.op=7)||decide (r.op=8))))
def formedR (r:Rule):Bool :=
 bw r.op 1 9&&((namedR r||decide (r.course=0))&&((countR r||decide (r.n=0))&&((decide (r.op=8)||decide (r.d=0))&&((bw r.op 1 4||r.kids.isEmpty)&&rightR r))))
def allF (r:Rule):Bool:=(preR 1 r).all fun p=>formedR p.2
theorem preL_len:∀(ks:List Rule) (d:Nat),(preL d ks).length=cntRs ks:=by
 have h:∀r:Rule,∀d,(preR d r).length=cntR r:=by
  refine rule_ind fun r ih d=>?_
  have key:∀ks:List Rule,(∀k∈ks,∀d,(preR d k).length=cntR k)->∀d,(preL d ks).length=cntRs ks:=by
   intro ks
   induction ks with
   |nil=>intro _ d;rw[preL_nil,cntRs_nil];rfl
   | cons k ks ihk =>
     intro h d
     rw[preL_cons,cntRs_cons,List.length_append,h k (by simp),ihk (fun x hx=>h x (by simp[hx]))]
  rw[preR_eq,cntR_eq,List.length_cons,key r.kids ih]
 intro ks
 induction ks with
 |nil=>intro d;rw[preL_nil,cntRs_nil];rfl
 |cons k ks ihk=>intro d;rw[preL_cons,cntRs_cons,List.length_append,h k,ihk]
theorem preR_len (r:Rule)(d:Nat):(preR d r).length=cntR r:=by
 rw[preR_eq,cntR_eq,List.length_cons,preL_len]
theorem preR_dep:∀r:Rule,∀d,(∀p∈preR d r,p.1+1<=d+depR r)/\∃p∈preR d r,p.1+1=d+depR r:=by
 refine rule_ind fun r ih d=>?_
 have key:∀ ks:List Rule,(∀ k∈ks,∀ d,(∀ p∈preR d k,p.1 + 1≤d + depR k)∧∃ p∈preR d k,p.1 + 1=d + depR k)→∀ d,(∀ p∈preL d ks,p.1 + 1≤d + depRs ks)∧(ks≠[]→∃ p∈preL d ks,p.1 + 1=d + depRs ks):=by
  intro ks
  induction ks with
  |nil=>intro _ d;exact⟨fun p hp=>by rw[preL_nil]at hp;simp at hp,fun h=>absurd rfl h⟩
  | cons k ks ihk =>
    intro h d
    obtain⟨a1,p1,a2,a3⟩:=h k (by simp) d
    obtain⟨b1,b2⟩:=ihk (fun x hx=>h x (by simp[hx])) d
    rw[preL_cons,depRs_cons]
    refine⟨fun p hp=>?_,fun _=>?_⟩
    .rcases List.mem_append.1 hp with hp|hp
     .have:=a1 p hp;omega
     .have:=b1 p hp;omega
    .by_cases hle:depRs ks<=depR k
     .exact⟨p1,List.mem_append_left _ a2,Om⟩
     .have hne:ks≠[]:=fun e=>by rw[e,depRs_nil]at hle;omega
      obtain⟨p2,c1,c2⟩:=b2 hne
      exact⟨p2,List.mem_append_right _ c1,Om⟩
 obtain⟨k1,k2⟩:=key r.kids ih (d+1)
 rw[preR_eq,depR_eq]
 refine⟨fun p hp=>?_,?_⟩
 .rcases List.mem_cons.1 hp with rfl|hp
  .show d+1<=_;omega
  .have:=k1 p hp;omega
 .by_cases hk:r.kids=[]
  .refine⟨(d,r),List.mem_cons_self ..,?_⟩
   rw[hk,depRs_nil]
  .obtain⟨p,h1,h2⟩:=k2 hk
   exact⟨p,List.mem_cons_of_mem _ h1,Om⟩
def chkR (r:Rule):Int:=if cntR r<=200/\depR r<=16/\allF r=true then 0 else 120
end Go.Proofs.YtmlhghddfobmmaaGreatDoor
namespace Go.Ab
set_option linter.unusedSimpArgs false
set_option linter.unusedVariables false
section
variable {P:Program}{T:Tab}{N:Nat}{w:World}{F:Nat->Prop}{σ:Pls}{m:Mem}{env:Env}{K:AV->Mem->Prop}{o:Oper}
theorem wrap_u64 (n:Int):IntKind.u64.wrap n=n % 18446744073709551616:=by
 simp[IntKind.wrap,IntKind.bits,IntKind.signed]
theorem op_conv64 {s t:TypeId}{x:Operand}(hop:o.op=.convert s t x){k:IntKind}(hs:P.underlying s=some (.int k))(ht:P.underlying t=some (.int .u64)){n:Int}(hx:ev env x=.d (.int k n))(hK:K (.d (.int .u64 (n % 18446744073709551616))) m):OpVC P o env m K :=
 ⟨fun c h=>(by rw [hop] at h;cases h),fun a w F σ hev hm=>by
  have hv:=ev_ok hev x
  rw[hx]at hv
  have hv:=hv.int
  refine⟨_,.int .u64 (n % 18446744073709551616),w,σ,F,_,_,?_,.inl rfl,hK,.d .int,hm,Step.refl σ F w,SLe.refl σ⟩
  simp[execOp,hop,hv,convert,run_underlying hs,run_underlying ht,Conv.intToInt,wrap_u64]⟩
theorem op_neg64 {t:TypeId}{x:Operand}(hop:o.op=.unOp .neg t x){n:Int}(hx:ev env x=.d (.int .u64 n))(hK:K (.d (.int .u64 ((0-n) % 18446744073709551616))) m):OpVC P o env m K :=
 ⟨fun c h=>(by rw [hop] at h;cases h),fun a w F σ hev hm=>by
  have hv:=ev_ok hev x
  rw[hx]at hv
  have hv:=hv.int
  refine⟨_,.int .u64 ((0-n) % 18446744073709551616),w,σ,F,_,_,?_,.inl rfl,hK,.d .int,hm,Step.refl σ F w,SLe.refl σ⟩
  simp[execOp,hop,hv,Op.unary,Op.intArith,wrap_u64]⟩
theorem op_idx_glob {t:TypeId}{g:Nat}{i:Operand}(hop:o.op=.indexAddr t (.global g) i){n sz:Nat}{e:TypeId}(hu:P.underlying t=some (.array n e))(hs:∀w',(sizeOf e).run P w'=.ok sz w')(cs:List D)
 (hcs:∀(j:Nat) d,cs[j]?=some d->∃v,(g,j,v)∈globs/\(∀w F,Rd w F d v)/\v.oneCell'=true) {d0:D} (hd0:cs[0]?=some d0) {ki:IntKind} {k:Int} (hi:ev env i=.d (.int ki k)) (h0:0<=k) (h1:k<n) (hK:K (.d (.pt cs (k.toNat*sz))) m):OpVC P o env m K :=
 ⟨fun c h=>(by rw [hop] at h;cases h),fun a w F σ hev hm=>by
  have hvi:=ev_ok hev i
  rw[hi]at hvi
  have hvi:=hvi.int
  have hgl:=hm.gl
  obtain⟨v0,hv0,_⟩:=hcs 0 d0 hd0
  have hF:=(hgl g 0 v0 hv0).1
  have hx:∀j,∃v,∀d,cs[j]?=some d->(g,j,v)∈globs/\(∀w F,Rd w F d v)/\v.oneCell'=true:=fun j=>by
   cases hj:cs[j]? with
   |none=>exact⟨undef,fun d h=>by cases h⟩
   | some d =>
     obtain⟨v,hv⟩:=hcs j d hj
     exact⟨v,fun d' h=>by cases h;exact hv⟩
  have hat:∀j:Nat,(⟨g,0,none⟩:Addr).add j=⟨g,j,none⟩:=fun j=>by
   rw[add_at]
   simp
  have hrd:Rd w F (.pt cs (k.toNat*sz)) (.pointer (some ((⟨g,0,none⟩:Addr).add (k.toNat*sz)))):=by
   refine .pt ⟨g,0,none⟩ (fun j=>(hx j).choose) hF (fun j hj=>?_) (fun j d hd=>((hx j).choose_spec d hd).2.1 w F)
   obtain⟨q1,q2,q3⟩:=(hx j).choose_spec _ (List.getElem?_eq_getElem hj)
   rw[hat]
   exact⟨(hgl g j _ q1).2,q3⟩
  refine⟨_,.pointer (some ((⟨g,0,none⟩:Addr).add (k.toNat*sz))),w,σ,F,_,_,?_,.inl rfl,hK,.d hrd,hm,Step.refl σ F w,SLe.refl σ⟩
  have hg0:a.eval (.global g)=.pointer (some ⟨g,0,none⟩):=rfl
  simp[execOp,hop,hg0,hvi,Instr.indexAt,run_underlying hu,asIntOf,h0,h1,hs,Instr.sureAddr]⟩
end
end Go.Ab
namespace Go.Proofs.YtmlhghddfobmmaaGreatDoor
set_option linter.unusedSimpArgs false
set_option linter.unusedVariables false
open Go Go.Ab
set_option maxRecDepth 100000
set_option maxHeartbeats 0
theorem size_ok (n:Int)(hn:In .i64 n):Pure Tryz.prog 238 [di n] [.int .u64 n.natAbs]:=by
 refine pure_rule hT (T:=tab) (N:=10) (rs:=[.tmp 2]) Tryz.func238 rfl rfl rfl Kr rfl ?_
 rw[in64]at hn
 by_cases h:n<0
 ·(refine gW ?_;intros)
  refine op_conv64 rfl rfl rfl rfl ?_
  (refine gW ?_;intros)
  refine op_neg64 rfl rfl ?_
  (refine gW ?_;intros)
  exact⟨congrArg (D.int .u64) Om,Tt⟩
 ·(refine gW ?_;intros)
  refine op_conv64 rfl rfl rfl rfl ?_
  (refine gW ?_;intros)
  exact⟨congrArg (D.int .u64) Om,Tt⟩
def stepM:Mem:=⟨[],[bX 272 [.fn (.func 237) [] [ap 0]]]⟩
theorem step_ok:∀(y x:Nat),CallVC Tryz.prog 237 [.d (.int .u64 x),.d (.int .u64 y),ap 0] ⟨[],[bX 272 [.fn (.func 237) [] [ap 0]]]⟩
 (Ret (fun _:Unit=>([.d (.int .u64 (Nat.gcd x y))],stepM)) fun _=>True):=by
 intro y
 induction y using Nat.strongRecOn with
 |ind y ih =>
 intro x
 refine call_rule hT (T:=tab) (N:=15) (rs:=[.tmp 5]) _ _ Tryz.func237 rfl rfl rfl Kr rfl ?_
 by_cases h:y=0
 .subst h
  (refine gW ?_;intros)
  exact⟨(),Tt,by rw[Nat.gcd_zero_right];repeat' (first|exact Tt|exact rfl|exact Nat.le_refl _|refine And.intro ?_ ?_),rfl⟩
 .have hI:=ih (x % y) (Nat.mod_lt _ Om) y
  have hg:Nat.gcd y (x % y)=Nat.gcd x y:=by rw[Nat.gcd_comm,<-Nat.gcd_rec,Nat.gcd_comm]
  rw[hg]at hI
  have hmd:((x:Int).tmod (y:Int))=((x % y:Nat):Int):=rfl
  (refine gS ?_;intros)
  refine Sq.go ?_
  (refine gS ?_;intros)
  refine Sq.go ?_
  (refine gS ?_;intros)
  refine Sq.alt (Awp.seq (Awp.eff1 hT (m0:=stepM) (m1:=stepM) (B1:=.d (.int .u64 (Nat.gcd x y))) Kr Kr Kr 5 rfl rfl rfl rfl Kr (fun r=>.inl rfl) (fun r=>.inl rfl) ?_))
  conv=>whnf
  (refine gS ?_;intros)
  refine⟨?_,Ev.mk (vc_ok hT _ _ _ _ (Ev.o ?_))⟩
  .conv=>whnf
   (refine gS ?_;intros)
   rw[hmd]
   refine⟨⟨_,[],[ap 0],.inl rfl,hI.at [.arg 0] rfl ⟨rfl,Tt⟩ (fun _ _=>⟨rfl,?_⟩)⟩⟩
   refine Ev.mk ?_
   conv=>whnf
   exact⟨rfl,rfl⟩
  ·(refine gW ?_;intros)
   exact⟨(),Tt,by repeat' (first|exact Tt|exact rfl|exact Nat.le_refl _|refine And.intro ?_ ?_),rfl⟩
theorem common_ok (a b:Int)(ha:In .i64 a)(hb:In .i64 b):Pure Tryz.prog 220 [di a,di b] [.int .u64 (Nat.gcd a.natAbs b.natAbs)]:=by
 refine pure_rule hT (T:=tab) (N:=13) (rs:=[.tmp 4]) Tryz.func220 rfl rfl rfl Kr rfl ?_
 have hA:=size_ok a ha
 have hB:=size_ok b hb
 have hC:=step_ok b.natAbs a.natAbs
 (refine gS ?_;intros)
 refine Sq.go ?_
 (refine gS ?_;intros)
 refine Sq.go ?_
 (refine gS ?_;intros)
 refine Sq.alt (Awp.seq (Awp.eff1 hT (m0:=⟨[bX 272 [.fn (.func 237) [] [lp 0]]],[]⟩) (m1:=⟨[bX 272 [.fn (.func 237) [] [lp 0]]],[]⟩) (B1:=.d (.int .u64 (Nat.gcd a.natAbs b.natAbs))) Kr Kr Kr 5 rfl rfl rfl rfl Kr (fun r=>.inl rfl) (fun r=>.inl rfl) ?_))
 conv=>whnf
 (refine gS ?_;intros)
 refine qC hA ?_
 (refine gS ?_;intros)
 refine qC hB ?_
 (refine gS ?_;intros)
 refine⟨?_,Ev.mk (vc_ok hT _ _ _ _ (Ev.o ?_))⟩
 .conv=>whnf
  (refine gS ?_;intros)
  refine⟨⟨_,[],[lp 0],.inl rfl,hC.at [.loc 0] rfl ⟨rfl,Tt⟩ (fun _ _=>⟨rfl,?_⟩)⟩⟩
  refine Ev.mk ?_
  conv=>whnf
  exact⟨rfl,rfl⟩
 ·(refine gW ?_;intros)
  exact⟨rfl,Tt⟩
theorem chk_ok (n d:Int)(hn:In .i64 n)(hd:In .i64 d):Pure Tryz.prog 185 [.agg [di n,di d]] [di (chkQ n d)]:=by
 refine pure_rule hT (T:=tab) (N:=29) (rs:=[.tmp 2]) Tryz.func185 rfl rfl rfl Kr rfl ?_
 have hC:=common_ok n d hn hd
 unfold chkQ
 by_cases h1:d<1\/1073741824<d\/n < -1073741824\/1073741824<n
 .rw[if_pos Om]
  (refine gW ?_;intros)
  exact⟨rfl,Tt⟩
 .by_cases h2:Nat.gcd n.natAbs d.natAbs=1
  .rw[if_neg Om]
   have h3:((Nat.gcd n.natAbs d.natAbs:Nat):Int)=1:=by omega
   (refine gW ?_;intros)
   refine hC.call ?_
   (refine gW ?_;intros)
   exact⟨rfl,Tt⟩
  .rw[if_pos Om]
   have h3:¬ ((Nat.gcd n.natAbs d.natAbs:Nat):Int)=1:=by omega
   (refine gW ?_;intros)
   refine hC.call ?_
   (refine gW ?_;intros)
   exact⟨rfl,Tt⟩
def In1 (r:Rule):Prop:=In .i64 r.op/\In .i64 r.course/\In .i64 r.n/\In .i64 r.d/\r.kids.length<9223372036854775808
theorem within_ok (n lo hi:Int):Pure Tryz.prog 219 [di n,di lo,di hi] [.bool (bw n lo hi)]:=by
 refine pure_rule hT (T:=tab) (N:=15) (rs:=[.tmp 6]) Tryz.func219 rfl rfl rfl Kr rfl ?_
 by_cases h1:lo<=n<;>by_cases h2:n<=hi<;>((refine gW ?_;intros))<;>(refine⟨congrArg D.bool ?_,Tt⟩)<;>simp[bw,h1,h2]
theorem chkQ_zero {n d:Int}(h:chkQ n d=0):1<=d/\d<=1073741824/\-1073741824<=n/\n<=1073741824:=by
 unfold chkQ at h
 split at h
 .cases h
 .omega
theorem mean_ok (n d:Int)(hn:In .i64 n)(hd:In .i64 d):Pure Tryz.prog 277 [.agg [di n,di d]] [.bool (meanQ n d)]:=by
 refine pure_rule hT (T:=tab) (N:=19) (rs:=[.tmp 2]) Tryz.func277 rfl rfl rfl Kr rfl ?_
 have hC:=chk_ok n d hn hd
 by_cases h0:chkQ n d=0
 .have h1:=chkQ_zero h0
  rw[h0]at hC
  have hM:meanQ n d=(decide (0<=n)&&decide (n<=12*d)):=by simp[meanQ,bw,h0]
  rw[hM]
  by_cases h2:0<=n<;>by_cases h3:n<=12*d
  ·(refine gW ?_;intros)
   refine hC.call ?_
   (refine gW ?_;intros)
   refine⟨congrArg D.bool ?_,Tt⟩
   simp[h2,h3]
  ·(refine gW ?_;intros)
   refine hC.call ?_
   (refine gW ?_;intros)
   refine⟨congrArg D.bool ?_,Tt⟩
   simp[h2,h3]
  ·(refine gW ?_;intros)
   refine hC.call ?_
   (refine gW ?_;intros)
   refine⟨congrArg D.bool ?_,Tt⟩
   simp[h2,h3]
  ·(refine gW ?_;intros)
   refine hC.call ?_
   (refine gW ?_;intros)
   refine⟨congrArg D.bool ?_,Tt⟩
   simp[h2,h3]
 ·(refine gW ?_;intros)
  refine hC.call ?_
  (refine gW ?_;intros)
  refine⟨congrArg D.bool ?_,Tt⟩
  simp[meanQ,h0]
theorem course_ok (r:Rule):Pure Tryz.prog 269 [.agg (eRule r)] [.bool (crsOk r.course)]:=by
 refine pure_rule hT (T:=tab) (N:=6) (rs:=[.tmp 2]) Tryz.func269 rfl rfl rfl Kr rfl ?_
 (refine gW ?_;intros)
 refine(within_ok r.course 0 4095).call ?_
 (refine gW ?_;intros)
 exact⟨rfl,Tt⟩
theorem right1_ok (r:Rule):Pure Tryz.prog 260 [.agg (eRule r)] [.bool true]:=by
 refine pure_rule hT (T:=tab) (N:=3) (rs:=[.tmp 2]) Tryz.func260 rfl rfl rfl Kr rfl ?_
 (refine gW ?_;intros)
 exact⟨rfl,Tt⟩
theorem right2_ok (r:Rule):Pure Tryz.prog 262 [.agg (eRule r)] [.bool true]:=by
 refine pure_rule hT (T:=tab) (N:=3) (rs:=[.tmp 2]) Tryz.func262 rfl rfl rfl Kr rfl ?_
 (refine gW ?_;intros)
 exact⟨rfl,Tt⟩
theorem right3_ok (r:Rule):Pure Tryz.prog 264 [.agg (eRule r)] [.bool (bw r.n 0 200)]:=by
 refine pure_rule hT (T:=tab) (N:=6) (rs:=[.tmp 2]) Tryz.func264 rfl rfl rfl Kr rfl ?_
 (refine gW ?_;intros)
 refine(within_ok r.n 0 200).call ?_
 (refine gW ?_;intros)
 exact⟨rfl,Tt⟩
theorem right4_ok (r:Rule):Pure Tryz.prog 266 [.agg (eRule r)] [.bool (decide (r.kids.length=1))]:=by
 refine pure_rule hT (T:=tab) (N:=7) (rs:=[.tmp 2]) Tryz.func266 rfl rfl rfl Kr rfl ?_
 (refine gW ?_;intros)
 refine⟨congrArg D.bool ?_,Tt⟩
 exact decide_eq_decide.2 Om
theorem right5_ok (r:Rule):Pure Tryz.prog 268 [.agg (eRule r)] [.bool (crsOk r.course&&bw r.n 0 12)]:=by
 have hC:=course_ok r
 refine pure_rule hT (T:=tab) (N:=10) (rs:=[.tmp 2]) Tryz.func268 rfl rfl rfl Kr rfl ?_
 cases h:crsOk r.course<;>rw[h]at hC
 ·(refine gW ?_;intros)
  refine hC.call ?_
  (refine gW ?_;intros)
  exact⟨rfl,Tt⟩
 ·(refine gW ?_;intros)
  refine hC.call ?_
  (refine gW ?_;intros)
  refine(within_ok r.n 0 12).call ?_
  (refine gW ?_;intros)
  exact⟨rfl,Tt⟩
theorem right6_ok (r:Rule):Pure Tryz.prog 272 [.agg (eRule r)] [.bool (crsOk r.course&&bw r.n 1 100)]:=by
 have hC:=course_ok r
 refine pure_rule hT (T:=tab) (N:=10) (rs:=[.tmp 2]) Tryz.func272 rfl rfl rfl Kr rfl ?_
 cases h:crsOk r.course<;>rw[h]at hC
 ·(refine gW ?_;intros)
  refine hC.call ?_
  (refine gW ?_;intros)
  exact⟨rfl,Tt⟩
 ·(refine gW ?_;intros)
  refine hC.call ?_
  (refine gW ?_;intros)
  refine(within_ok r.n 1 100).call ?_
  (refine gW ?_;intros)
  exact⟨rfl,Tt⟩
theorem right7_ok (r:Rule):Pure Tryz.prog 274 [.agg (eRule r)] [.bool (bw r.n 0 10000)]:=by
 refine pure_rule hT (T:=tab) (N:=6) (rs:=[.tmp 2]) Tryz.func274 rfl rfl rfl Kr rfl ?_
 (refine gW ?_;intros)
 refine(within_ok r.n 0 10000).call ?_
 (refine gW ?_;intros)
 exact⟨rfl,Tt⟩
theorem right8_ok (r:Rule)(hn:In .i64 r.n)(hd:In .i64 r.d):Pure Tryz.prog 276 [.agg (eRule r)] [.bool (meanQ r.n r.d)]:=by
 refine pure_rule hT (T:=tab) (N:=9) (rs:=[.tmp 2]) Tryz.func276 rfl rfl rfl Kr rfl ?_
 (refine gW ?_;intros)
 refine(mean_ok r.n r.d hn hd).call ?_
 (refine gW ?_;intros)
 exact⟨rfl,Tt⟩
end Go.Proofs.YtmlhghddfobmmaaGreatDoor
