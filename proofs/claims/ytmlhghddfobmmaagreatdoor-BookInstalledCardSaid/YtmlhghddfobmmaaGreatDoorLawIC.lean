import Derived.Test.YtmlhghddfobmmaaGreatDoorLawIB
namespace Go.Proofs.YtmlhghddfobmmaaGreatDoor
set_option linter.unusedSimpArgs false
set_option linter.unusedVariables false
open Go Go.Ab
set_option maxRecDepth 100000
set_option maxHeartbeats 0
def okW (k:Int):Bool:=decide (k=4)||(decide (k=3)||decide (k=1))
def szW (b:Bok)(k:Int):Int:=if k=4 then b.sys.length else if k=3 then b.prg.length else if k=1 then b.crs.length else 0
def hasS (key:List Int):Bool:=okW (key.headD 0)
def valS (b:Bok)(key:List Int):AV:=dV (szW b (key.headD 0))
def goodF (b:Bok)(kn:Int)(f:Fct):Prop:=f.known<kn/\(okW f.kind=true->f.value<szW b f.kind)
theorem szW_no {b:Bok}{k:Int}(h:okW k=false):szW b k=0:=by
 simp only[okW,Bool.or_eq_false_iff,decide_eq_false_iff_not]at h
 unfold szW
 rw[if_neg h.1,if_neg h.2.1,if_neg h.2.2]
theorem one_eq (a b:Int):decide ([a]=[b])=decide (a=b):=decide_eq_decide.2 ⟨fun h=>by injection h,fun h=>by rw[h]⟩
theorem hasS_eq (key:List Int)(hf:(Ksh.one .i64).fits key):(decide (key=[4])||(decide (key=[3])||(decide (key=[1])||false)))=hasS key:=by
 match key,hf with
 | [a],_ =>
   rw[one_eq,one_eq,one_eq,Bool.or_false]
   rfl
theorem valS_eq (b:Bok)(z:AV)(key:List Int)(hf:(Ksh.one .i64).fits key)(h:(decide (key=[4])||(decide (key=[3])||(decide (key=[1])||false)))=true):(bif decide (key=[4]) then dV (b.sys.length:Nat) else bif decide (key=[3]) then dV (b.prg.length:Nat) else bif decide (key=[1]) then dV (b.crs.length:Nat) else z)=valS b key:=by
 match key,hf with
 | [a],_ =>
   rw[one_eq,one_eq,one_eq]at h⊢
   show _=dV (szW b a)
   unfold szW
   by_cases h4:a=4
   .rw[decide_eq_true h4,cond_true,if_pos h4]
   rw[decide_eq_false h4,cond_false,if_neg h4]
   by_cases h3:a=3
   .rw[decide_eq_true h3,cond_true,if_pos h3]
   rw[decide_eq_false h3,cond_false,if_neg h3]
   by_cases h1:a=1
   .rw[decide_eq_true h1,cond_true,if_pos h1]
   .rw[decide_eq_false h4,decide_eq_false h3,decide_eq_false h1]at h
    cases h
theorem pick_of {α:Type}{a b c:Prop}[Decidable a][Decidable b][Decidable c]{p:α->Bool}{l:List α}{X o:Option α}(h:X=if a/\b/\c/\(lastC p l).isSome=true then lastC p l else o):X=pickO (decide a&&(decide b&&decide c)) p l o l.length:=by
 rw[h]
 unfold pickO
 rw[List.take_length]
 by_cases ha:a
 case neg =>
  rw[if_neg (fun h=>ha h.1),decide_eq_false ha,Bool.false_and,if_neg Bool.false_ne_true]
 by_cases hb:b
 case neg =>
  rw[if_neg (fun h=>hb h.2.1),decide_eq_false hb,Bool.false_and,Bool.and_false,if_neg Bool.false_ne_true]
 by_cases hc:c
 case neg =>
  rw[if_neg (fun h=>hc h.2.2.1),decide_eq_false hc,Bool.and_false,Bool.and_false,if_neg Bool.false_ne_true]
 rw[decide_eq_true ha,decide_eq_true hb,decide_eq_true hc,Bool.and_self,Bool.and_self,if_pos rfl]
 cases lastC p l with
 |none=>rw[if_neg (fun h=>Bool.noConfusion h.2.2.2)];rfl
 |some x=>rw[if_pos ⟨ha,hb,hc,rfl⟩];rfl
theorem rows3 (l m:List Fct)(n:Nat)(hn:n=l.length)(g:Nat->List AV)(i:Nat)(hi:i<n+m.length):joinF (0+n) (joinF 0 g (fun i=>up (eFct (l.getD i default)))) (fun i=>up (eFct (m.getD i default))) i=up (eFct ((l++m).getD i default)):=by
 subst hn
 rw[Nat.zero_add]
 rcases Nat.lt_or_ge i l.length with h|h
 .rw[joinF_lt h,joinF_ge (Nat.zero_le _),Nat.sub_zero,getD_append_left h]
 .rw[joinF_ge h,getD_append_right h]
theorem and3 (a b c:Bool):(bif bif a then b else false then c else false)=(a&&(b&&c)):=by cases a<;>cases b<;>rfl
theorem bookInstalled_ok (w:Wor)(hw:okWor w)(c:Cat)(hc:okCat c)(v0 v1 kn n t when:Int) :
 Pure Tryz.prog 9 [.agg (eWor w),.agg (eCat c),.agg [di v0,di v1],di kn,di n,di t,di when] [.bool true]:=by
 have hS:=sane14_ok
 have hF1:=few14_ok w hw.1.wf hw.2.1 hw.1.nm
 have hF2:=few10H_ok c hc
 cases f1:fewW w<;>rw[f1]at hF1
 case false =>
  clear hF2
  refine pure_rule hT (T:=tab) (N:=275) (rs:=[.tmp 14]) Tryz.func9 rfl rfl rfl Kr rfl ?_
  repeat' (first|with_reducible refine Sq.go ?_|((with_reducible refine Ev.mk ?_);conv=>whnf)|with_reducible refine Dr.mk ⟨Kr,Kr⟩ ?_|with_reducible refine obG ?_|with_reducible refine Ob.mk ?_ ?_|(with_reducible first|refine brT fun h=>?_|refine brF fun h=>?_|refine Br.mk (fun h=>?_) fun h=>?_)<;>(try simp only[bsl,beq_iff_eq,bne_iff_ne,bs2]at h)<;>(try contradiction)<;>try (exfalso;omega))
  refine hS.call ?_
  repeat' (first|with_reducible refine Sq.go ?_|((with_reducible refine Ev.mk ?_);conv=>whnf)|with_reducible refine Dr.mk ⟨Kr,Kr⟩ ?_|with_reducible refine obG ?_|with_reducible refine Ob.mk ?_ ?_|(with_reducible first|refine brT fun h=>?_|refine brF fun h=>?_|refine Br.mk (fun h=>?_) fun h=>?_)<;>(try simp only[bsl,beq_iff_eq,bne_iff_ne,bs2]at h)<;>(try contradiction)<;>try (exfalso;omega))
  refine hF1.call ?_
  repeat' (first|with_reducible refine Sq.go ?_|((with_reducible refine Ev.mk ?_);conv=>whnf)|with_reducible refine Dr.mk ⟨Kr,Kr⟩ ?_|with_reducible refine obG ?_|with_reducible refine Ob.mk ?_ ?_|(with_reducible first|refine brT fun h=>?_|refine brF fun h=>?_|refine Br.mk (fun h=>?_) fun h=>?_)<;>(try simp only[bsl,beq_iff_eq,bne_iff_ne,bs2]at h)<;>(try contradiction)<;>try (exfalso;omega))
  exact⟨rfl,Tt⟩
 cases f2:fewC c<;>rw[f2]at hF2
 case false =>
  refine pure_rule hT (T:=tab) (N:=275) (rs:=[.tmp 14]) Tryz.func9 rfl rfl rfl Kr rfl ?_
  repeat' (first|with_reducible refine Sq.go ?_|((with_reducible refine Ev.mk ?_);conv=>whnf)|with_reducible refine Dr.mk ⟨Kr,Kr⟩ ?_|with_reducible refine obG ?_|with_reducible refine Ob.mk ?_ ?_|(with_reducible first|refine brT fun h=>?_|refine brF fun h=>?_|refine Br.mk (fun h=>?_) fun h=>?_)<;>(try simp only[bsl,beq_iff_eq,bne_iff_ne,bs2]at h)<;>(try contradiction)<;>try (exfalso;omega))
  refine hS.call ?_
  repeat' (first|with_reducible refine Sq.go ?_|((with_reducible refine Ev.mk ?_);conv=>whnf)|with_reducible refine Dr.mk ⟨Kr,Kr⟩ ?_|with_reducible refine obG ?_|with_reducible refine Ob.mk ?_ ?_|(with_reducible first|refine brT fun h=>?_|refine brF fun h=>?_|refine Br.mk (fun h=>?_) fun h=>?_)<;>(try simp only[bsl,beq_iff_eq,bne_iff_ne,bs2]at h)<;>(try contradiction)<;>try (exfalso;omega))
  refine hF1.call ?_
  repeat' (first|with_reducible refine Sq.go ?_|((with_reducible refine Ev.mk ?_);conv=>whnf)|with_reducible refine Dr.mk ⟨Kr,Kr⟩ ?_|with_reducible refine obG ?_|with_reducible refine Ob.mk ?_ ?_|(with_reducible first|refine brT fun h=>?_|refine brF fun h=>?_|refine Br.mk (fun h=>?_) fun h=>?_)<;>(try simp only[bsl,beq_iff_eq,bne_iff_ne,bs2]at h)<;>(try contradiction)<;>try (exfalso;omega))
  refine hF2.call ?_
  repeat' (first|with_reducible refine Sq.go ?_|((with_reducible refine Ev.mk ?_);conv=>whnf)|with_reducible refine Dr.mk ⟨Kr,Kr⟩ ?_|with_reducible refine obG ?_|with_reducible refine Ob.mk ?_ ?_|(with_reducible first|refine brT fun h=>?_|refine brF fun h=>?_|refine Br.mk (fun h=>?_) fun h=>?_)<;>(try simp only[bsl,beq_iff_eq,bne_iff_ne,bs2]at h)<;>(try contradiction)<;>try (exfalso;omega))
  exact⟨rfl,Tt⟩
 have hl:=fewW_len f1
 have hW:=hw.wfw f1
 have hK:=fcheck_ok w.fcts Om
 by_cases k0:fchk w.fcts=0
 case neg =>
  generalize fchk w.fcts=e at hK k0
  refine pure_rule hT (T:=tab) (N:=275) (rs:=[.tmp 14]) Tryz.func9 rfl rfl rfl Kr rfl ?_
  repeat' (first|with_reducible refine Sq.go ?_|((with_reducible refine Ev.mk ?_);conv=>whnf)|with_reducible refine Dr.mk ⟨Kr,Kr⟩ ?_|with_reducible refine obG ?_|with_reducible refine Ob.mk ?_ ?_|(with_reducible first|refine brT fun h=>?_|refine brF fun h=>?_|refine Br.mk (fun h=>?_) fun h=>?_)<;>(try simp only[bsl,beq_iff_eq,bne_iff_ne,bs2]at h)<;>(try contradiction)<;>try (exfalso;omega))
  refine hS.call ?_
  repeat' (first|with_reducible refine Sq.go ?_|((with_reducible refine Ev.mk ?_);conv=>whnf)|with_reducible refine Dr.mk ⟨Kr,Kr⟩ ?_|with_reducible refine obG ?_|with_reducible refine Ob.mk ?_ ?_|(with_reducible first|refine brT fun h=>?_|refine brF fun h=>?_|refine Br.mk (fun h=>?_) fun h=>?_)<;>(try simp only[bsl,beq_iff_eq,bne_iff_ne,bs2]at h)<;>(try contradiction)<;>try (exfalso;omega))
  refine hF1.call ?_
  repeat' (first|with_reducible refine Sq.go ?_|((with_reducible refine Ev.mk ?_);conv=>whnf)|with_reducible refine Dr.mk ⟨Kr,Kr⟩ ?_|with_reducible refine obG ?_|with_reducible refine Ob.mk ?_ ?_|(with_reducible first|refine brT fun h=>?_|refine brF fun h=>?_|refine Br.mk (fun h=>?_) fun h=>?_)<;>(try simp only[bsl,beq_iff_eq,bne_iff_ne,bs2]at h)<;>(try contradiction)<;>try (exfalso;omega))
  refine hF2.call ?_
  repeat' (first|with_reducible refine Sq.go ?_|((with_reducible refine Ev.mk ?_);conv=>whnf)|with_reducible refine Dr.mk ⟨Kr,Kr⟩ ?_|with_reducible refine obG ?_|with_reducible refine Ob.mk ?_ ?_|(with_reducible first|refine brT fun h=>?_|refine brF fun h=>?_|refine Br.mk (fun h=>?_) fun h=>?_)<;>(try simp only[bsl,beq_iff_eq,bne_iff_ne,bs2]at h)<;>(try contradiction)<;>try (exfalso;omega))
  refine hK.call ?_
  repeat' (first|with_reducible refine Sq.go ?_|((with_reducible refine Ev.mk ?_);conv=>whnf)|with_reducible refine Dr.mk ⟨Kr,Kr⟩ ?_|with_reducible refine obG ?_|with_reducible refine Ob.mk ?_ ?_|(with_reducible first|refine brT fun h=>?_|refine brF fun h=>?_|refine Br.mk (fun h=>?_) fun h=>?_)<;>(try simp only[bsl,beq_iff_eq,bne_iff_ne,bs2]at h)<;>(try contradiction)<;>try (exfalso;omega))
  exact⟨rfl,Tt⟩
 rw[k0]at hK
 have hbl:w.bok.crs.length<=16/\w.bok.prg.length<=8/\w.bok.sys.length<=6:=by
  unfold fewW fewB at f1
  simp only[Bool.and_eq_true,decide_eq_true_eq]at f1
  exact f1.1.2.2
 obtain⟨b1,b2,b3⟩:=hbl
 refine pure_rule hT (T:=tab) (N:=275) (rs:=[.tmp 14]) Tryz.func9 rfl rfl rfl Kr rfl ?_
 repeat' (first|with_reducible refine Sq.go ?_|((with_reducible refine Ev.mk ?_);conv=>whnf)|with_reducible refine Dr.mk ⟨Kr,Kr⟩ ?_|with_reducible refine obG ?_|with_reducible refine Ob.mk ?_ ?_|(with_reducible first|refine brT fun h=>?_|refine brF fun h=>?_|refine Br.mk (fun h=>?_) fun h=>?_)<;>(try simp only[bsl,beq_iff_eq,bne_iff_ne,bs2]at h)<;>(try contradiction)<;>try (exfalso;omega))
 refine hS.call ?_
 repeat' (first|with_reducible refine Sq.go ?_|((with_reducible refine Ev.mk ?_);conv=>whnf)|with_reducible refine Dr.mk ⟨Kr,Kr⟩ ?_|with_reducible refine obG ?_|with_reducible refine Ob.mk ?_ ?_|(with_reducible first|refine brT fun h=>?_|refine brF fun h=>?_|refine Br.mk (fun h=>?_) fun h=>?_)<;>(try simp only[bsl,beq_iff_eq,bne_iff_ne,bs2]at h)<;>(try contradiction)<;>try (exfalso;omega))
 refine hF1.call ?_
 repeat' (first|with_reducible refine Sq.go ?_|((with_reducible refine Ev.mk ?_);conv=>whnf)|with_reducible refine Dr.mk ⟨Kr,Kr⟩ ?_|with_reducible refine obG ?_|with_reducible refine Ob.mk ?_ ?_|(with_reducible first|refine brT fun h=>?_|refine brF fun h=>?_|refine Br.mk (fun h=>?_) fun h=>?_)<;>(try simp only[bsl,beq_iff_eq,bne_iff_ne,bs2]at h)<;>(try contradiction)<;>try (exfalso;omega))
 refine hF2.call ?_
 repeat' (first|with_reducible refine Sq.go ?_|((with_reducible refine Ev.mk ?_);conv=>whnf)|with_reducible refine Dr.mk ⟨Kr,Kr⟩ ?_|with_reducible refine obG ?_|with_reducible refine Ob.mk ?_ ?_|(with_reducible first|refine brT fun h=>?_|refine brF fun h=>?_|refine Br.mk (fun h=>?_) fun h=>?_)<;>(try simp only[bsl,beq_iff_eq,bne_iff_ne,bs2]at h)<;>(try contradiction)<;>try (exfalso;omega))
 refine hK.call ?_
 repeat' (first|with_reducible refine Sq.go ?_|((with_reducible refine Ev.mk ?_);conv=>whnf)|with_reducible refine Dr.mk ⟨Kr,Kr⟩ ?_|with_reducible refine obG ?_|with_reducible refine Ob.mk ?_ ?_|(with_reducible first|refine brT fun h=>?_|refine brF fun h=>?_|refine Br.mk (fun h=>?_) fun h=>?_)<;>(try simp only[bsl,beq_iff_eq,bne_iff_ne,bs2]at h)<;>(try contradiction)<;>try (exfalso;omega))
 refine loop_rule hT (S:=Nat) (fun k=>([(3,dV kn),(4,dV n),(5,dV t),(6,dV when),(7,lp 0),(8,lp 1),(9,lp 2),(15,.mp (.loc 3)),(75,.d (eFcts w.fcts)),(76,dV w.fcts.length),(77,dV k)],
  ⟨[bX 51 (up (eWor w)),bX 32 (up (eCat c)),bX 34 (up [di v0,di v1]),some (.map (.one .i64) hasS (valS w.bok))],[]⟩)) (fun k=>k<=w.fcts.length/\∀f∈w.fcts.take k,goodF w.bok kn f) (fun k=>w.fcts.length-k) 0 ?_ ?_ ?_
 .repeat' (first|exact Tt|exact rfl|exact Nat.le_refl _|refine And.intro ?_ ?_)
  intro key hf
  exact⟨hasS_eq key hf,fun h=>⟨valS_eq w.bok _ key hf h,rfl⟩⟩
 .exact⟨Nat.zero_le _,fun f hf=>by rw[List.take_zero]at hf;exact(List.not_mem_nil hf).elim⟩
 rintro k ⟨hk,hg⟩
 have kg:Kp _:=⟨hg⟩
 clear hg
 dsimp only at hk⊢
 by_cases hk2:k<w.fcts.length
 case pos =>
  have hfo:=hw.2.2 _ (getD_mem hk2)
  have kn2:Kp (goodF w.bok kn (w.fcts.getD k default)->∀f∈w.fcts.take (k+1),goodF w.bok kn f):=⟨fun h f hf=>by
   rw[take_succ_at hk2]at hf
   rcases List.mem_append.1 hf with hf|hf
   .exact kg.h f hf
   .rw[List.mem_singleton.1 hf]
    exact h⟩
  repeat' (first|with_reducible refine Sq.go ?_|((with_reducible refine Ev.mk ?_);conv=>whnf)|with_reducible refine Dr.mk ⟨Kr,Kr⟩ ?_|with_reducible refine obG ?_|with_reducible refine Ob.mk ?_ ?_|(with_reducible first|refine brT fun h=>?_|refine brF fun h=>?_|refine Br.mk (fun h=>?_) fun h=>?_)<;>(try simp only[bsl,beq_iff_eq,bne_iff_ne,bs2]at h)<;>(try contradiction)<;>try (exfalso;omega))
  .intro h0
   have e:valS w.bok [(w.fcts.getD ((k:Int)).toNat default).kind]=dV 0:=congrArg (fun n=>dV n) (szW_no h0)
   rw[e]
   with_unfolding_all exact rfl
  .exact⟨rfl,Tt⟩
  .have hG:goodF w.bok kn (w.fcts.getD k default):=⟨h.1,fun e=>h.2.elim (fun h2=>by rw[show hasS [(w.fcts.getD k default).kind]=true from e]at h2;cases h2) id⟩
   refine⟨k+1,⟨by show k+1<=w.fcts.length;omega,kn2.h hG⟩,by show w.fcts.length-(k+1)<w.fcts.length-k;omega,?_⟩
   repeat' (first|exact Tt|exact rfl|exact Nat.le_refl _|refine And.intro ?_ ?_)
   all_goals (intro key hf;exact⟨rfl,fun _=>⟨rfl,rfl⟩⟩)
 obtain rfl:k=w.fcts.length:=by omega
 have hgood:∀f∈w.fcts,goodF w.bok kn f:=by
  have:=kg.h
  rwa [List.take_length]at this
 clear kg hk hk2 hS hF1 hF2
 have hI:=instG_ok w.bok c v0 v1 kn hW.bok Om Om Om hc f2
 by_cases g1:insE w.bok c v0 v1 kn=0
 case neg =>
  rw[insRes_no g1]at hI
  generalize insE w.bok c v0 v1 kn=e at hI g1
  repeat' (first|with_reducible refine Sq.go ?_|((with_reducible refine Ev.mk ?_);conv=>whnf)|with_reducible refine Dr.mk ⟨Kr,Kr⟩ ?_|with_reducible refine obG ?_|with_reducible refine Ob.mk ?_ ?_|(with_reducible first|refine brT fun h=>?_|refine brF fun h=>?_|refine Br.mk (fun h=>?_) fun h=>?_)<;>(try simp only[bsl,beq_iff_eq,bne_iff_ne,bs2]at h)<;>(try contradiction)<;>try (exfalso;omega))
  refine hI.call ?_
  repeat' (first|with_reducible refine Sq.go ?_|((with_reducible refine Ev.mk ?_);conv=>whnf)|with_reducible refine Dr.mk ⟨Kr,Kr⟩ ?_|with_reducible refine obG ?_|with_reducible refine Ob.mk ?_ ?_|(with_reducible first|refine brT fun h=>?_|refine brF fun h=>?_|refine Br.mk (fun h=>?_) fun h=>?_)<;>(try simp only[bsl,beq_iff_eq,bne_iff_ne,bs2]at h)<;>(try contradiction)<;>try (exfalso;omega))
  exact⟨rfl,Tt⟩
 rw[insRes_yes g1]at hI
 obtain⟨z1,z2,z3,z4,z5⟩:=insE_zero g1
 obtain⟨u1,u2⟩:=uni_of z2
 obtain⟨⟨p1,p2,p3,_⟩,_⟩:=few_of f2
 have hD:Insd w.bok c v0 v1 kn:=⟨z1,z4,z3,z5,u1,u2⟩
 have hfs:∀f∈w.fcts,f.known<kn:=fun f hf=>(hgood f hf).1
 have hlen:(w.fcts++insF w.bok c v0 v1 kn).length<=1000:=by
  have h1:=insF_len w.bok c v0 v1 kn
  rw[List.length_append]
  omega
 have hX:WfW ⟨insB w.bok c,w.fcts++insF w.bok c v0 v1 kn⟩:=by
  refine⟨wfBok_ins hW.bok hc Om Om Om Om Om,fun z hz=>?_,Nat.le_trans hlen Dc⟩
  exact(List.mem_append.1 (show z∈w.bok.crs++c.crs from hz)).elim (hW.crs z) (smCrs_of hc f2 z)
 have hB:=bcheck_ok _ hX.bok
 have hB:Pure Tryz.prog 19 [.agg (eBok (insB w.bok c))] [di (chkB (insB w.bok c))]:=hB
 rw[hD.chkB]at hB
 have hV:=fcheck_ok (w.fcts++insF w.bok c v0 v1 kn) Om
 rw[fchk_ins hD hfs k0 Om Om Om Om Om Om]at hV
 have hcr:=crs_ins hD hfs (fun f hf h=>by have:=(hgood f hf).2 (by rw[h];rfl);rw[h]at this;exact this) n t when
 have hpr:=prg_ins hD hfs (fun f hf h=>by have:=(hgood f hf).2 (by rw[h];rfl);rw[h]at this;exact this) n t when
 have hsy:=sys_ins hD hfs (fun f hf h=>by have:=(hgood f hf).2 (by rw[h];rfl);rw[h]at this;exact this) t when
 have hcr:=pick_of hcr
 have hpr:=pick_of hpr
 have hsy:(sysOf (⟨insB w.bok c,w.fcts++insF w.bok c v0 v1 kn⟩:Wor) t when).getD default=if(decide (kn<=when)&&(decide (v0<=t)&&decide (t<v1)))=true/\sysB c=true then sysC c else(sysOf w t when).getD default:=by
  rw[hsy]
  cases sysB c with
  |false=>rw[if_neg (fun h=>Bool.noConfusion h.2.2.2),if_neg (fun h=>Bool.noConfusion h.2)]
  | true =>
    by_cases a1:kn<=when
    case neg=>rw[if_neg (fun h=>a1 h.1),decide_eq_false a1,if_neg (fun h=>by cases h.1)]
    by_cases a2:v0<=t
    case neg=>rw[if_neg (fun h=>a2 h.2.1),decide_eq_false a2,Bool.false_and,Bool.and_false,if_neg (fun h=>by cases h.1)]
    by_cases a3:t<v1
    case neg=>rw[if_neg (fun h=>a3 h.2.2.1),decide_eq_false a3,Bool.and_false,Bool.and_false,if_neg (fun h=>by cases h.1)]
    rw[if_pos ⟨a1,a2,a3,rfl⟩,decide_eq_true a1,decide_eq_true a2,decide_eq_true a3]
    rfl
 have hPw:wfPrg2 ((prgOf (⟨insB w.bok c,w.fcts++insF w.bok c v0 v1 kn⟩:Wor) n t when).getD default):=by
  cases h:prgOf (⟨insB w.bok c,w.fcts++insF w.bok c v0 v1 kn⟩:Wor) n t when with
  |none=>exact⟨Nat.zero_le _,fun q hq=>(List.not_mem_nil hq).elim⟩
  | some p =>
    rcases List.mem_append.1 (show p∈w.bok.prg++c.prg from(lookO_mem h).1) with hm|hm
    .have:=(hw.1.2.1.2 p hm).2.1
     exact⟨this.1,fun q hq=>(this.2 q hq).1⟩
    .exact(catE_of hc).wprg p hm
 have hE:=instCrs w (⟨insB w.bok c,w.fcts++insF w.bok c v0 v1 kn⟩:Wor) c hW hX n t when (decide (kn<=when)&&(decide (v0<=t)&&decide (t<v1))) Om hcr (crsOf_wf hX n t when) (instPrg w (⟨insB w.bok c,w.fcts++insF w.bok c v0 v1 kn⟩:Wor) c hW hX n t when (decide (kn<=when)&&(decide (v0<=t)&&decide (t<v1))) Om hpr hPw (instSys w (⟨insB w.bok c,w.fcts++insF w.bok c v0 v1 kn⟩:Wor) c hW hX (wfSys_of hc) t when (decide (kn<=when)&&(decide (v0<=t)&&decide (t<v1))) hsy))
 have kE:Kp _:=⟨hE⟩
 clear hE hPw hsy hcr hpr hX hD hfs hgood z1 z2 z3 z4 z5 u1 u2 g1 hW hc hw hK k0 f1 f2 p1 p2 p3 b1 b2 b3
 generalize insB w.bok c=B at hI hB kE
 generalize insF w.bok c v0 v1 kn=l at hI hV kE hlen
 rw[List.length_append]at hlen
 unfold instQ at kE
 repeat' (first|with_reducible refine Sq.go ?_|((with_reducible refine Ev.mk ?_);conv=>whnf)|with_reducible refine Dr.mk ⟨Kr,Kr⟩ ?_|with_reducible refine obG ?_|with_reducible refine Ob.mk ?_ ?_|(with_reducible first|refine brT fun h=>?_|refine brF fun h=>?_|refine Br.mk (fun h=>?_) fun h=>?_)<;>(try simp only[bsl,beq_iff_eq,bne_iff_ne,bs2]at h)<;>(try contradiction)<;>try (exfalso;omega))
 refine hI.call ?_
 repeat' (first|((with_reducible refine Ev.mk ?_);conv=>whnf)|with_reducible refine Dr.mk ⟨Kr,Kr⟩ ?_|with_reducible refine obG ?_|with_reducible refine Ob.mk ?_ ?_|(with_reducible first|refine brT fun h=>?_|refine brF fun h=>?_|refine Br.mk (fun h=>?_) fun h=>?_)<;>(try simp only[bsl,beq_iff_eq,bne_iff_ne,bs2]at h)<;>(try contradiction)<;>try (exfalso;omega))
 refine Sq.go ?_;repeat' (first|((with_reducible refine Ev.mk ?_);conv=>whnf)|with_reducible refine Dr.mk ⟨Kr,Kr⟩ ?_|with_reducible refine obG ?_|with_reducible refine Ob.mk ?_ ?_|(with_reducible first|refine brT fun h=>?_|refine brF fun h=>?_|refine Br.mk (fun h=>?_) fun h=>?_)<;>(try simp only[bsl,beq_iff_eq,bne_iff_ne,bs2]at h)<;>(try contradiction)<;>try (exfalso;omega))
 refine Sq.go ?_;repeat' (first|((with_reducible refine Ev.mk ?_);conv=>whnf)|with_reducible refine Dr.mk ⟨Kr,Kr⟩ ?_|with_reducible refine obG ?_|with_reducible refine Ob.mk ?_ ?_|(with_reducible first|refine brT fun h=>?_|refine brF fun h=>?_|refine Br.mk (fun h=>?_) fun h=>?_)<;>(try simp only[bsl,beq_iff_eq,bne_iff_ne,bs2]at h)<;>(try contradiction)<;>try (exfalso;omega))
 refine Sq.alt (Awp.seq (Awp.oneX hT 8 ⟨23,51,125,7,eWor ⟨B,w.fcts++l⟩⟩ Kr Kr Kr Kr (BoxOk1.of rfl ⟨rfl,rfl,rfl⟩ rfl ⟨rfl,rfl,rfl⟩ rfl rfl rfl rfl rfl rfl rfl rfl rfl) rfl ?_))
 conv=>whnf
 repeat' (first|((with_reducible refine Ev.mk ?_);conv=>whnf)|with_reducible refine Dr.mk ⟨Kr,Kr⟩ ?_|with_reducible refine obG ?_|with_reducible refine Ob.mk ?_ ?_|(with_reducible first|refine brT fun h=>?_|refine brF fun h=>?_|refine Br.mk (fun h=>?_) fun h=>?_)<;>(try simp only[bsl,beq_iff_eq,bne_iff_ne,bs2]at h)<;>(try contradiction)<;>try (exfalso;omega))
 refine FrzR.mk (fun i=>eFct ((w.fcts++l).getD i default)) (fun i hi=>rows3 w.fcts l w.fcts.length rfl _ i Om) ?_
 repeat' (first|((with_reducible refine Ev.mk ?_);conv=>whnf)|with_reducible refine Dr.mk ⟨Kr,Kr⟩ ?_|with_reducible refine obG ?_|with_reducible refine Ob.mk ?_ ?_|(with_reducible first|refine brT fun h=>?_|refine brF fun h=>?_|refine Br.mk (fun h=>?_) fun h=>?_)<;>(try simp only[bsl,beq_iff_eq,bne_iff_ne,bs2]at h)<;>(try contradiction)<;>try (exfalso;omega))
 refine⟨congrArg (fun n=>AV.d (.agg [eCrss B.crs,ePrgs B.prg,eSyss B.sys,.sl 8 n fun i=>eFct ((w.fcts++l).getD i default)])) (show 0+w.fcts.length+l.length=(w.fcts++l).length by rw[List.length_append];omega),?_⟩
 conv=>whnf
 repeat' (first|((with_reducible refine Ev.mk ?_);conv=>whnf)|with_reducible refine Dr.mk ⟨Kr,Kr⟩ ?_|with_reducible refine obG ?_|with_reducible refine Ob.mk ?_ ?_|(with_reducible first|refine brT fun h=>?_|refine brF fun h=>?_|refine Br.mk (fun h=>?_) fun h=>?_)<;>(try simp only[bsl,beq_iff_eq,bne_iff_ne,bs2]at h)<;>(try contradiction)<;>try (exfalso;omega))
 refine Awp.of_vc hT ?_
 repeat' (first|with_reducible refine Sq.go ?_|((with_reducible refine Ev.mk ?_);conv=>whnf)|with_reducible refine Dr.mk ⟨Kr,Kr⟩ ?_|with_reducible refine obG ?_|with_reducible refine Ob.mk ?_ ?_|(with_reducible first|refine brT fun h=>?_|refine brF fun h=>?_|refine Br.mk (fun h=>?_) fun h=>?_)<;>(try simp only[bsl,beq_iff_eq,bne_iff_ne,bs2]at h)<;>(try contradiction)<;>try (exfalso;omega))
 refine hB.call ?_
 repeat' (first|with_reducible refine Sq.go ?_|((with_reducible refine Ev.mk ?_);conv=>whnf)|with_reducible refine Dr.mk ⟨Kr,Kr⟩ ?_|with_reducible refine obG ?_|with_reducible refine Ob.mk ?_ ?_|(with_reducible first|refine brT fun h=>?_|refine brF fun h=>?_|refine Br.mk (fun h=>?_) fun h=>?_)<;>(try simp only[bsl,beq_iff_eq,bne_iff_ne,bs2]at h)<;>(try contradiction)<;>try (exfalso;omega))
 refine hV.call ?_
 repeat' (first|((with_reducible refine Ev.mk ?_);conv=>whnf)|with_reducible refine Dr.mk ⟨Kr,Kr⟩ ?_|with_reducible refine obG ?_|with_reducible refine Ob.mk ?_ ?_|(with_reducible first|refine brT fun h=>?_|refine brF fun h=>?_|refine Br.mk (fun h=>?_) fun h=>?_)<;>(try simp only[bsl,beq_iff_eq,bne_iff_ne,bs2]at h)<;>(try contradiction)<;>try (exfalso;omega))
 refine Sq.go ?_;repeat' (first|((with_reducible refine Ev.mk ?_);conv=>whnf)|with_reducible refine Dr.mk ⟨Kr,Kr⟩ ?_|with_reducible refine obG ?_|with_reducible refine Ob.mk ?_ ?_|(with_reducible first|refine brT fun h=>?_|refine brF fun h=>?_|refine Br.mk (fun h=>?_) fun h=>?_)<;>(try simp only[bsl,beq_iff_eq,bne_iff_ne,bs2]at h)<;>(try contradiction)<;>try (exfalso;omega))
 refine Sq.go ?_;repeat' (first|((with_reducible refine Ev.mk ?_);conv=>whnf)|with_reducible refine Dr.mk ⟨Kr,Kr⟩ ?_|with_reducible refine obG ?_|with_reducible refine Ob.mk ?_ ?_|(with_reducible first|refine brT fun h=>?_|refine brF fun h=>?_|refine Br.mk (fun h=>?_) fun h=>?_)<;>(try simp only[bsl,beq_iff_eq,bne_iff_ne,bs2]at h)<;>(try contradiction)<;>try (exfalso;omega))
 refine Sq.alt (Awp.le (env':=[(4,dV n),(5,dV t),(6,dV when),(7,lp 0),(8,lp 1),(23,.d (.pt (eWor ⟨B,w.fcts++l⟩) 0)),(24,.d (.bool (decide (kn<=when)&&(decide (v0<=t)&&decide (t<v1)))))]) (m':=⟨[bX 51 (up (eWor w)),bX 32 (up (eCat c))],[]⟩) ?_ kE.h)
 repeat' (first|exact Tt|exact rfl|exact Nat.le_refl _|refine And.intro ?_ ?_)
 exact congrArg (fun b=>AV.d (.bool b)) (and3 _ _ _)
theorem bookInstalled_law (w:Wor)(hw:okWor w)(c:Cat)(hc:okCat c)(v0 v1:Int)(_:okRat (v0,v1))(kn n t when:Int) :
 Pure Tryz.prog 9 [.agg (eWor w),.agg (eCat c),.agg (eSpn2 (v0,v1)),di kn,di n,di t,di when] [.bool true]:=bookInstalled_ok w hw c hc v0 v1 kn n t when
end Go.Proofs.YtmlhghddfobmmaaGreatDoor
