import Derived.Test.YtkjmomadndmeaaaGreatDoorBookH
import Derived.Test.YtkjmomadndmeaaaGreatDoorOpsH
import Derived.Test.YtkjmomadndmeaaaGreatDoorEngAS
namespace Go.Proofs.YtkjmomadndmeaaaGreatDoor
set_option linter.unusedSimpArgs false
set_option linter.unusedVariables false
open Go Go.Ab
set_option maxRecDepth 100000
set_option maxHeartbeats 0
def metO (l:List Att)(k:Nat)(c:Int):Bool:=(l.take k).any fun a=>decide (a.course=c)
theorem metO_succ {l:List Att}{k:Nat}(h:k<l.length)(c:Int):metO l (k+1) c=(metO l k c||decide ((l.getD k default).course=c)):=by
 unfold metO
 rw[take_succ_at h,List.any_append]
 simp
def hasO (l:List Att)(k:Nat):List Int->Bool:=fun key=>metO l k (key.headD 0)
def valO (rp:Int->Int)(l:List Att)(k:Nat):List Int->AV:=fun key=>dV (bif metO l k (key.headD 0) then rp (key.headD 0) else 0)
def hasW (rp:Int->Int)(l:List Att)(k:Nat):List Int->Bool:=fun key=>(winS rp l k (key.headD 0)).isSome
def valW (rp:Int->Int)(l:List Att)(k:Nat):List Int->AV:=fun key=>dV (((winS rp l k (key.headD 0)).getD 0:Nat):Int)
theorem winS_lt (rp:Int->Int)(l:List Att)(c:Int):∀(k j:Nat),winS rp l k c=some j->j<k
 |0,_,h=>by cases h
 | k + 1,j,h=>by
   rw[winS]at h
   split at h
   .injection h with h
    omega
   .have:=winS_lt rp l c k j h
    omega
def rowAt (l:List Att):Nat->List AV:=fun i=>up (eAtt (l.getD i default))
theorem rowsOf_joinA {α:Type}[Inhabited α](enc:α->List D)(xs:List α)(x:α){n:Nat}(hn:n=xs.length)(i:Nat)(hi:i<n+1):joinF n (fun i=>up (enc (xs.getD i default))) (rowFn [up (enc x)]) i=up (enc ((xs++[x]).getD i default)):=by
 subst hn
 exact join_snoc enc xs x _ rfl i (by rw[len_snoc];exact hi)
theorem rowAt_join (xs:List Att)(x:Att){n:Nat}(hn:n=xs.length)(i:Nat)(hi:i<n+1):joinF n (rowAt xs) (rowFn [up (eAtt x)]) i=rowAt (xs++[x]) i:=rowsOf_joinA eAtt xs x hn i hi
theorem fits_one {key:List Int}(hf:(Ksh.one .i64).fits key):∃n,key=[n]:=by
 match key,hf with
 |[n],_=>exact⟨n,rfl⟩
theorem hasO_next {l:List Att}{k:Nat}{c:Int}(hk:k<l.length)(hc:(l.getD k default).course=c)(key:List Int)(hf:(Ksh.one .i64).fits key):(decide (key=[c])||hasO l k key)=hasO l (k+1) key:=by
 obtain⟨n,rfl⟩:=fits_one hf
 show(decide ([n]=[c])||metO l k n)=metO l (k+1) n
 rw[metO_succ hk,hc,Bool.or_comm]
 congr 1
 exact decide_eq_decide.2 ⟨fun h=>by injection h with h;exact h.symm,fun h=>by rw[h]⟩
theorem valO_next {rp:Int->Int}{l:List Att}{k:Nat}{c:Int}(hk:k<l.length)(hc:(l.getD k default).course=c)(key:List Int)(hf:(Ksh.one .i64).fits key):(bif decide (key=[c]) then dV (rp c) else valO rp l k key)=valO rp l (k+1) key:=by
 obtain⟨n,rfl⟩:=fits_one hf
 show(bif decide ([n]=[c]) then dV (rp c) else dV (bif metO l k n then rp n else 0))=dV (bif metO l (k+1) n then rp n else 0)
 rw[metO_succ hk,hc]
 by_cases h:n=c
 .subst h
  simp
 .have h1:¬ [n]=[c]:=fun e=>by injection e with e;exact h e
  have h2:¬ c=n:=fun e=>h e.symm
  simp[h1,h2]
theorem winS_take {rp:Int->Int}{l:List Att}{k:Nat}{c:Int}(hc:(l.getD k default).course=c)(h2:rp c≠2)(ht:winS rp l k c=none\/repl (rp c) (l.getD k default) (l.getD ((winS rp l k c).getD 0) default)=true)(n:Int):winS rp l (k+1) n=if n=c then some k else winS rp l k n:=by
 rw[winS,hc]
 by_cases h:n=c
 .subst h
  rw[if_pos ⟨rfl,h2,ht⟩,if_pos rfl]
 .rw[if_neg (fun e=>h e.1),if_neg h]
theorem winS_skip {rp:Int->Int}{l:List Att}{k:Nat}{c:Int}(hc:(l.getD k default).course=c)(ht:¬ (rp c≠2/\(winS rp l k c=none\/repl (rp c) (l.getD k default) (l.getD ((winS rp l k c).getD 0) default)=true)))(n:Int):winS rp l (k+1) n=winS rp l k n:=by
 rw[winS,hc,if_neg]
 rintro⟨rfl,h⟩
 exact ht h
theorem hasW_take {rp:Int->Int}{l:List Att}{k:Nat}{c:Int}(h:∀n,winS rp l (k+1) n=if n=c then some k else winS rp l k n)(key:List Int)(hf:(Ksh.one .i64).fits key):(decide (key=[c])||hasW rp l k key)=hasW rp l (k+1) key:=by
 obtain⟨n,rfl⟩:=fits_one hf
 show(decide ([n]=[c])||(winS rp l k n).isSome)=(winS rp l (k+1) n).isSome
 rw[h]
 by_cases e:n=c
 .subst e
  simp
 .have h1:¬ [n]=[c]:=fun e2=>by injection e2 with e2;exact e e2
  rw[if_neg e]
  simp[h1]
theorem valW_take {rp:Int->Int}{l:List Att}{k:Nat}{c:Int}(h:∀n,winS rp l (k+1) n=if n=c then some k else winS rp l k n)(key:List Int)(hf:(Ksh.one .i64).fits key):(bif decide (key=[c]) then dV (k:Int) else valW rp l k key)=valW rp l (k+1) key:=by
 obtain⟨n,rfl⟩:=fits_one hf
 show(bif decide ([n]=[c]) then dV (k:Int) else dV (((winS rp l k n).getD 0:Nat):Int))=dV (((winS rp l (k+1) n).getD 0:Nat):Int)
 rw[h]
 by_cases e:n=c
 .subst e
  simp
 .have h1:¬ [n]=[c]:=fun e2=>by injection e2 with e2;exact e e2
  rw[if_neg e]
  simp[h1]
theorem hasW_skip {rp:Int->Int}{l:List Att}{k:Nat}(h:∀n,winS rp l (k+1) n=winS rp l k n)(key:List Int):hasW rp l k key=hasW rp l (k+1) key:=by
 show(winS rp l k _).isSome=(winS rp l (k+1) _).isSome
 rw[h]
theorem valW_skip {rp:Int->Int}{l:List Att}{k:Nat}(h:∀n,winS rp l (k+1) n=winS rp l k n)(key:List Int):valW rp l k key=valW rp l (k+1) key:=by
 show dV (((winS rp l k _).getD 0:Nat):Int)=dV (((winS rp l (k+1) _).getD 0:Nat):Int)
 rw[h]
theorem counted_ok (rp:Int→Int) (hr:∀ c,0≤rp c∧rp c≤2) (l:List Att) (hl:l.length≤1000000) (hf:∀ a∈l,fitA a) (reps:List Int) (hq1:reps.length=l.length) (hq2:∀ i,i < l.length→reps.getD i default=rp (l.getD i default).course) :
 Pure Tryz.prog 105 [eAtts l,eInts reps] [eAtts (cntA rp l),di 0]:=by
 have hC:=check15_ok l Om hf
 have hK:=kindsA_ok
 refine pure_rule hT (T:=tab) (N:=135) (rs:=[.tmp 4,.tmp 5]) Tryz.func105 rfl rfl rfl Kr rfl ?_
 (refine gW ?_;intros)
 refine hC.call ?_
 (refine gW ?_;intros)
 refine hK.call ?_
 (refine gW ?_;intros)
 refine loop_rule hT (S:=Nat) (fun k=>([(0,.d (eAtts l)),(1,.d (eInts reps)),(4,.d .nils),(6,lp 0),(7,.mp (.loc 1)),(8,.mp (.loc 2)),(32,.d (eAtts l)),(33,dV l.length),(34,dV k)],
  ⟨[bX 233 (up kindsA),some (.map (.one .i64) (hasO l k) (valO rp l k)),some (.map (.one .i64) (hasW rp l k) (valW rp l k))],[]⟩)) (fun k=>k<=l.length) (fun k=>l.length-k) 0 ?_ ?_ ?_
 .exact lq
 .exact Nat.zero_le _
 .intro k hk
  dsimp only at hk⊢
  by_cases hk2:k<l.length
  .have hW:=within15_ok (rp (l.getD k default).course) 0 2
   rw[show bw (rp (l.getD k default).course) 0 2=true by simp only[bw,Bool.and_eq_true,decide_eq_true_iff];exact hr _]at hW
   have hqk:=hq2 k hk2
   obtain⟨c,hc⟩:∃c,(l.getD k default).course=c:=⟨_,rfl⟩
   rw[hc]at hW hqk
   have hV:valO rp l k [c]=dV (bif metO l k c then rp c else 0):=rfl
   have hH:hasO l k [c]=metO l k c:=rfl
   have hV2:valW rp l k [c]=dV (((winS rp l k c).getD 0:Nat):Int):=rfl
   have hH2:hasW rp l k [c]=(winS rp l k c).isSome:=rfl
   have hfin:¬ (metO l k c=true/\¬ (bif metO l k c then rp c else 0)=rp c):=by
    rintro⟨h1,h2⟩
    rw[h1]at h2
    exact h2 rfl
   (refine gS ?_;intros)
   refine Sq.go ?_;(refine gS ?_;intros)
   refine Sq.go ?_;(refine gS ?_;intros)
   refine Sq.go ?_;repeat' (first|((with_reducible refine Ev.mk ?_);conv=>whnf)|with_reducible refine Dr.mk ⟨Kr,Kr⟩ ?_|with_reducible refine obG ?_|with_reducible refine Ob.mk ?_ ?_|(with_reducible first|refine brT fun h=>?_|refine brF fun h=>?_|refine Br.mk (fun h=>?_) fun h=>?_)<;>(try simp only[bsl,beq_iff_eq,bne_iff_ne,bs2]at h)<;>(try contradiction)<;>try (exfalso;omega))
   .intro h0
    rw[Int.toNat_natCast,hc,hV,show metO l k c=false by rw[<-hH,<-hc];exact h0]
    exact rfl
   simp(config:={beta:=false,eta:=false,iota:=false,proj:=false,zeta:=false,decide:=false}) only[Int.toNat_natCast,hc,hV,hH,hqk]
   refine Sq.go ?_;(refine gS ?_;intros)
   simp(config:={beta:=false,eta:=false,iota:=false,proj:=false,zeta:=false,decide:=false}) only[Int.toNat_natCast,hqk]
   refine hW.call ?_
   (refine gS ?_;intros)
   refine Sq.go ?_;((refine xS ?_ ?_)<;>(intros;try rename_i h))
   .exact(hfin ⟨h.1,fun e=>h.2 (by rw[hqk];exact e)⟩).elim
   refine Sq.alt (Awp.le (env':=[(0,.d (eAtts l)),(1,.d (eInts reps)),(4,.d .nils),(6,lp 0),(7,.mp (.loc 1)),(8,.mp (.loc 2)),(9,dV k),(10,lp 3),(32,.d (eAtts l)),(33,dV l.length),(34,dV k)]) (m':=⟨[bX 233 (up kindsA),some (.map (.one .i64) (hasO l k) (valO rp l k)),some (.map (.one .i64) (hasW rp l k) (valW rp l k)),bX 128 (up [di c,di (l.getD k default).term,di (l.getD k default).grade,di (l.getD k default).campus,di (l.getD k default).credits])],[]⟩) ?_
    (Awp.seq (Awp.effs (m:=⟨[some (.box 233 (up kindsA)),some (.map (.one .i64) (hasO l k) (valO rp l k)),some (.map (.one .i64) (hasW rp l k) (valW rp l k)),some (.box 128 (up [.int .i64 c,.int .i64 (l.getD k default).term,.int .i64 (l.getD k default).grade,.int .i64 (l.getD k default).campus,.int .i64 (l.getD k default).credits]))],[]⟩) hT (by kernel_rfl) (by kernel_rfl) (by kernel_rfl)
     ⟨[bX 233 (up kindsA),some .opq,some (.map (.one .i64) (hasW rp l k) (valW rp l k)),bX 128 (up [di c,di (l.getD k default).term,di (l.getD k default).grade,di (l.getD k default).campus,di (l.getD k default).credits])],[]⟩
     [⟨7,.junk,⟨[bX 233 (up kindsA),some (.map (.one .i64) (fun x=>decide (x=[c])||hasO l k x) fun x=>bif decide (x=[c]) then dV (rp c) else valO rp l k x),some (.map (.one .i64) (hasW rp l k) (valW rp l k)),bX 128 (up [di c,di (l.getD k default).term,di (l.getD k default).grade,di (l.getD k default).campus,di (l.getD k default).credits])],[]⟩,[]⟩] Kr ?_ ⟨?_,Tt⟩ ?_)))
   .exact lq
    all_goals (intro key hf;exact⟨rfl,fun _=>⟨rfl,rfl⟩⟩)
   .intro r
    match r with
    | .loc 0=>exact .inl rfl
    | .loc 1=>exact .inr ⟨rfl,_,rfl⟩
    | .loc 2=>exact .inl rfl
    | .loc 3=>exact .inl rfl
    | .loc (n+4)=>exact .inl rfl
    | .arg j=>exact .inl rfl
    | .bad=>exact .inl rfl
   .intro r
    match r with
    | .loc 0=>exact .inl rfl
    | .loc 1=>exact .inr ⟨rfl,_,rfl⟩
    | .loc 2=>exact .inl rfl
    | .loc 3=>exact .inl rfl
    | .loc (n+4)=>exact .inl rfl
    | .arg j=>exact .inl rfl
    | .bad=>exact .inl rfl
   conv=>whnf
   (refine gS ?_;intros)
   simp(config:={beta:=false,eta:=false,iota:=false,proj:=false,zeta:=false,decide:=false}) only[Int.toNat_natCast,hqk]
   refine⟨?_,?_⟩
   .conv=>whnf
    (refine gS ?_;intros)
    exact⟨Tt,rfl⟩
   conv=>whnf
   (refine gS ?_;intros)
   refine Awp.of_vc hT ?_
   repeat' (first|((with_reducible refine Ev.mk ?_);conv=>whnf)|with_reducible refine Dr.mk ⟨Kr,Kr⟩ ?_|with_reducible refine obG ?_|with_reducible refine Ob.mk ?_ ?_|(with_reducible first|refine brT fun h=>?_|refine brF fun h=>?_|refine Br.mk (fun h=>?_) fun h=>?_)<;>(try simp only[bsl,beq_iff_eq,bne_iff_ne,bs2]at h)<;>(try contradiction)<;>try (exfalso;omega))
   .intro h0
    have h1:(winS rp l k c).isSome=false:=h0
    have h2:winS rp l k c=none:=by
     cases hx:winS rp l k c with
     |none=>rfl
     |some j=>rw[hx]at h1;cases h1
    rw[hV2,h2]
    exact rfl
   refine Sq.alt (Awp.le (env':=[(0,.d (eAtts l)),(1,.d (eInts reps)),(4,.d .nils),(6,lp 0),(7,.mp (.loc 1)),(8,.mp (.loc 2)),(9,dV k),(10,lp 3),(13,dV (((winS rp l k c).getD 0:Nat):Int)),(14,.d (.bool (winS rp l k c).isSome)),(32,.d (eAtts l)),(33,dV l.length),(34,dV k)]) (m':=⟨[bX 233 (up kindsA),some (.map (.one .i64) (fun x=>decide (x=[c])||hasO l k x) fun x=>bif decide (x=[c]) then dV (rp c) else valO rp l k x),some (.map (.one .i64) (hasW rp l k) (valW rp l k)),bX 128 (up [di c,di (l.getD k default).term,di (l.getD k default).grade,di (l.getD k default).campus,di (l.getD k default).credits])],[]⟩) ?_ (Awp.of_vc hT ?_))
   .repeat' (first|exact Tt|exact rfl|exact Nat.le_refl _|refine And.intro ?_ ?_)
    all_goals first
     |(intro key hf;exact⟨rfl,fun _=>⟨rfl,rfl⟩⟩)
     |(intro key hf;exact⟨rfl,fun _=>⟨rfl,by dsimp only;cases decide (key=[c])<;>rfl⟩⟩)
   have hz:=hr c
   have hcell:∀q,rp c=q->((fun i:Nat=>[di (reps.getD i default)]) ((k:Int).toNat)=[di q]):=by
    intro q hq
    show[di (reps.getD ((k:Int).toNat) default)]=_
    rw[Int.toNat_natCast,hqk,hq]
   cases hw:winS rp l k c with
   | none =>
     have h3:rp c=0\/rp c=1\/rp c=2:=by omega
     rcases h3 with h3|h3|h3
     .have ht:=winS_take hc (by rw[h3];decide) (.inl hw)
      repeat' (first|(with_reducible refine Sq.go ?_)|((with_reducible refine Ev.mk ?_);conv=>whnf)|with_reducible refine Dr.mk ⟨Kr,Kr⟩ ?_|rw[hcell 0 h3]|with_reducible refine obG ?_|with_reducible refine Ob.mk ?_ ?_|((with_reducible first|refine brT fun h=>?_|refine brF fun h=>?_|refine Br.mk (fun h=>?_) fun h=>?_)<;>(try simp only[bsl,beq_iff_eq,bne_iff_ne,bs2]at h)<;>(try contradiction)<;>try (exfalso;omega)))
      refine⟨k+1,by show k+1<=l.length;omega,by show l.length-(k+1)<l.length-k;omega,?_⟩
      dsimp only
      repeat' (first|exact Tt|exact rfl|exact Nat.le_refl _|refine And.intro ?_ ?_)
      all_goals first
       |(intro key hf;exact⟨hasO_next hk2 hc key hf,fun _=>⟨valO_next hk2 hc key hf,by dsimp only;cases decide (key=[c])<;>rfl⟩⟩)
       |(intro key hf;exact⟨hasW_take ht key hf,fun _=>⟨valW_take ht key hf,by first|rfl|(dsimp only;cases decide (key=[c])<;>rfl)⟩⟩)
     .have ht:=winS_take hc (by rw[h3];decide) (.inl hw)
      repeat' (first|(with_reducible refine Sq.go ?_)|((with_reducible refine Ev.mk ?_);conv=>whnf)|with_reducible refine Dr.mk ⟨Kr,Kr⟩ ?_|rw[hcell 1 h3]|with_reducible refine obG ?_|with_reducible refine Ob.mk ?_ ?_|((with_reducible first|refine brT fun h=>?_|refine brF fun h=>?_|refine Br.mk (fun h=>?_) fun h=>?_)<;>(try simp only[bsl,beq_iff_eq,bne_iff_ne,bs2]at h)<;>(try contradiction)<;>try (exfalso;omega)))
      refine⟨k+1,by show k+1<=l.length;omega,by show l.length-(k+1)<l.length-k;omega,?_⟩
      dsimp only
      repeat' (first|exact Tt|exact rfl|exact Nat.le_refl _|refine And.intro ?_ ?_)
      all_goals first
       |(intro key hf;exact⟨hasO_next hk2 hc key hf,fun _=>⟨valO_next hk2 hc key hf,by dsimp only;cases decide (key=[c])<;>rfl⟩⟩)
       |(intro key hf;exact⟨hasW_take ht key hf,fun _=>⟨valW_take ht key hf,by first|rfl|(dsimp only;cases decide (key=[c])<;>rfl)⟩⟩)
     .have ht:=winS_skip hc (fun h=>h.1 h3)
      repeat' (first|(with_reducible refine Sq.go ?_)|((with_reducible refine Ev.mk ?_);conv=>whnf)|with_reducible refine Dr.mk ⟨Kr,Kr⟩ ?_|rw[hcell 2 h3]|with_reducible refine obG ?_|with_reducible refine Ob.mk ?_ ?_|((with_reducible first|refine brT fun h=>?_|refine brF fun h=>?_|refine Br.mk (fun h=>?_) fun h=>?_)<;>(try simp only[bsl,beq_iff_eq,bne_iff_ne,bs2]at h)<;>(try contradiction)<;>try (exfalso;omega)))
      refine⟨k+1,by show k+1<=l.length;omega,by show l.length-(k+1)<l.length-k;omega,?_⟩
      dsimp only
      repeat' (first|exact Tt|exact rfl|exact Nat.le_refl _|refine And.intro ?_ ?_)
      all_goals first
       |(intro key hf;exact⟨hasO_next hk2 hc key hf,fun _=>⟨valO_next hk2 hc key hf,by dsimp only;cases decide (key=[c])<;>rfl⟩⟩)
       |(intro key hf;exact⟨hasW_skip ht key,fun _=>⟨valW_skip ht key,by first|rfl|(dsimp only;cases decide (key=[c])<;>rfl)⟩⟩)
   | some j =>
     have hj:=winS_lt rp l c k j hw
     simp(config:={beta:=false,eta:=false,iota:=false,proj:=false,zeta:=false,decide:=false}) only[Option.getD_some,Option.isSome_some]
     have h3:rp c=0\/rp c=1\/rp c=2:=by omega
     rcases h3 with h3|h3|h3
     .skip
      have hR:=repl0_ok (l.getD k default) (l.getD j default)
      unfold eAtt at hR
      rw[hc]at hR
      cases hb:repl 0 (l.getD k default) (l.getD j default)<;>rw[hb]at hR
      .have ht:=winS_skip hc (fun h=>h.2.elim (fun e=>by rw[hw]at e;cases e) fun e=>by rw[hw,h3,Option.getD_some,hb]at e;cases e)
       repeat' (first|(with_reducible refine Sq.go ?_)|((with_reducible refine Ev.mk ?_);conv=>whnf)|with_reducible refine Dr.mk ⟨Kr,Kr⟩ ?_|rw[hcell 0 h3]|with_reducible refine obG ?_|with_reducible refine Ob.mk ?_ ?_|((with_reducible first|refine brT fun h=>?_|refine brF fun h=>?_|refine Br.mk (fun h=>?_) fun h=>?_)<;>(try simp only[bsl,beq_iff_eq,bne_iff_ne,bs2]at h)<;>(try contradiction)<;>try (exfalso;omega)))
       refine qC hR ?_
       repeat' (first|(with_reducible refine Sq.go ?_)|((with_reducible refine Ev.mk ?_);conv=>whnf)|with_reducible refine Dr.mk ⟨Kr,Kr⟩ ?_|rw[hcell 0 h3]|with_reducible refine obG ?_|with_reducible refine Ob.mk ?_ ?_|((with_reducible first|refine brT fun h=>?_|refine brF fun h=>?_|refine Br.mk (fun h=>?_) fun h=>?_)<;>(try simp only[bsl,beq_iff_eq,bne_iff_ne,bs2]at h)<;>(try contradiction)<;>try (exfalso;omega)))
       refine⟨k+1,by show k+1<=l.length;omega,by show l.length-(k+1)<l.length-k;omega,?_⟩
       dsimp only
       repeat' (first|exact Tt|exact rfl|exact Nat.le_refl _|refine And.intro ?_ ?_)
       all_goals first
        |(intro key hf;exact⟨hasO_next hk2 hc key hf,fun _=>⟨valO_next hk2 hc key hf,by dsimp only;cases decide (key=[c])<;>rfl⟩⟩)
        |(intro key hf;exact⟨hasW_skip ht key,fun _=>⟨valW_skip ht key,by first|rfl|(dsimp only;cases decide (key=[c])<;>rfl)⟩⟩)
      .have ht:=winS_take (rp:=rp) (k:=k) hc (by rw[h3];decide) (.inr (by rw[hw,h3,Option.getD_some,hb]))
       repeat' (first|(with_reducible refine Sq.go ?_)|((with_reducible refine Ev.mk ?_);conv=>whnf)|with_reducible refine Dr.mk ⟨Kr,Kr⟩ ?_|rw[hcell 0 h3]|with_reducible refine obG ?_|with_reducible refine Ob.mk ?_ ?_|((with_reducible first|refine brT fun h=>?_|refine brF fun h=>?_|refine Br.mk (fun h=>?_) fun h=>?_)<;>(try simp only[bsl,beq_iff_eq,bne_iff_ne,bs2]at h)<;>(try contradiction)<;>try (exfalso;omega)))
       refine qC hR ?_
       repeat' (first|(with_reducible refine Sq.go ?_)|((with_reducible refine Ev.mk ?_);conv=>whnf)|with_reducible refine Dr.mk ⟨Kr,Kr⟩ ?_|rw[hcell 0 h3]|with_reducible refine obG ?_|with_reducible refine Ob.mk ?_ ?_|((with_reducible first|refine brT fun h=>?_|refine brF fun h=>?_|refine Br.mk (fun h=>?_) fun h=>?_)<;>(try simp only[bsl,beq_iff_eq,bne_iff_ne,bs2]at h)<;>(try contradiction)<;>try (exfalso;omega)))
       refine⟨k+1,by show k+1<=l.length;omega,by show l.length-(k+1)<l.length-k;omega,?_⟩
       dsimp only
       repeat' (first|exact Tt|exact rfl|exact Nat.le_refl _|refine And.intro ?_ ?_)
       all_goals first
        |(intro key hf;exact⟨hasO_next hk2 hc key hf,fun _=>⟨valO_next hk2 hc key hf,by dsimp only;cases decide (key=[c])<;>rfl⟩⟩)
        |(intro key hf;exact⟨hasW_take ht key hf,fun _=>⟨valW_take ht key hf,by first|rfl|(dsimp only;cases decide (key=[c])<;>rfl)⟩⟩)
     .skip
      have hR:=repl1_ok (l.getD k default) (l.getD j default)
      unfold eAtt at hR
      rw[hc]at hR
      cases hb:repl 1 (l.getD k default) (l.getD j default)<;>rw[hb]at hR
      .have ht:=winS_skip hc (fun h=>h.2.elim (fun e=>by rw[hw]at e;cases e) fun e=>by rw[hw,h3,Option.getD_some,hb]at e;cases e)
       repeat' (first|(with_reducible refine Sq.go ?_)|((with_reducible refine Ev.mk ?_);conv=>whnf)|with_reducible refine Dr.mk ⟨Kr,Kr⟩ ?_|rw[hcell 1 h3]|with_reducible refine obG ?_|with_reducible refine Ob.mk ?_ ?_|((with_reducible first|refine brT fun h=>?_|refine brF fun h=>?_|refine Br.mk (fun h=>?_) fun h=>?_)<;>(try simp only[bsl,beq_iff_eq,bne_iff_ne,bs2]at h)<;>(try contradiction)<;>try (exfalso;omega)))
       refine qC hR ?_
       repeat' (first|(with_reducible refine Sq.go ?_)|((with_reducible refine Ev.mk ?_);conv=>whnf)|with_reducible refine Dr.mk ⟨Kr,Kr⟩ ?_|rw[hcell 1 h3]|with_reducible refine obG ?_|with_reducible refine Ob.mk ?_ ?_|((with_reducible first|refine brT fun h=>?_|refine brF fun h=>?_|refine Br.mk (fun h=>?_) fun h=>?_)<;>(try simp only[bsl,beq_iff_eq,bne_iff_ne,bs2]at h)<;>(try contradiction)<;>try (exfalso;omega)))
       refine⟨k+1,by show k+1<=l.length;omega,by show l.length-(k+1)<l.length-k;omega,?_⟩
       dsimp only
       repeat' (first|exact Tt|exact rfl|exact Nat.le_refl _|refine And.intro ?_ ?_)
       all_goals first
        |(intro key hf;exact⟨hasO_next hk2 hc key hf,fun _=>⟨valO_next hk2 hc key hf,by dsimp only;cases decide (key=[c])<;>rfl⟩⟩)
        |(intro key hf;exact⟨hasW_skip ht key,fun _=>⟨valW_skip ht key,by first|rfl|(dsimp only;cases decide (key=[c])<;>rfl)⟩⟩)
      .have ht:=winS_take (rp:=rp) (k:=k) hc (by rw[h3];decide) (.inr (by rw[hw,h3,Option.getD_some,hb]))
       repeat' (first|(with_reducible refine Sq.go ?_)|((with_reducible refine Ev.mk ?_);conv=>whnf)|with_reducible refine Dr.mk ⟨Kr,Kr⟩ ?_|rw[hcell 1 h3]|with_reducible refine obG ?_|with_reducible refine Ob.mk ?_ ?_|((with_reducible first|refine brT fun h=>?_|refine brF fun h=>?_|refine Br.mk (fun h=>?_) fun h=>?_)<;>(try simp only[bsl,beq_iff_eq,bne_iff_ne,bs2]at h)<;>(try contradiction)<;>try (exfalso;omega)))
       refine qC hR ?_
       repeat' (first|(with_reducible refine Sq.go ?_)|((with_reducible refine Ev.mk ?_);conv=>whnf)|with_reducible refine Dr.mk ⟨Kr,Kr⟩ ?_|rw[hcell 1 h3]|with_reducible refine obG ?_|with_reducible refine Ob.mk ?_ ?_|((with_reducible first|refine brT fun h=>?_|refine brF fun h=>?_|refine Br.mk (fun h=>?_) fun h=>?_)<;>(try simp only[bsl,beq_iff_eq,bne_iff_ne,bs2]at h)<;>(try contradiction)<;>try (exfalso;omega)))
       refine⟨k+1,by show k+1<=l.length;omega,by show l.length-(k+1)<l.length-k;omega,?_⟩
       dsimp only
       repeat' (first|exact Tt|exact rfl|exact Nat.le_refl _|refine And.intro ?_ ?_)
       all_goals first
        |(intro key hf;exact⟨hasO_next hk2 hc key hf,fun _=>⟨valO_next hk2 hc key hf,by dsimp only;cases decide (key=[c])<;>rfl⟩⟩)
        |(intro key hf;exact⟨hasW_take ht key hf,fun _=>⟨valW_take ht key hf,by first|rfl|(dsimp only;cases decide (key=[c])<;>rfl)⟩⟩)
     .have ht:=winS_skip hc (fun h=>h.1 h3)
      repeat' (first|(with_reducible refine Sq.go ?_)|((with_reducible refine Ev.mk ?_);conv=>whnf)|with_reducible refine Dr.mk ⟨Kr,Kr⟩ ?_|rw[hcell 2 h3]|with_reducible refine obG ?_|with_reducible refine Ob.mk ?_ ?_|((with_reducible first|refine brT fun h=>?_|refine brF fun h=>?_|refine Br.mk (fun h=>?_) fun h=>?_)<;>(try simp only[bsl,beq_iff_eq,bne_iff_ne,bs2]at h)<;>(try contradiction)<;>try (exfalso;omega)))
      refine⟨k+1,by show k+1<=l.length;omega,by show l.length-(k+1)<l.length-k;omega,?_⟩
      dsimp only
      repeat' (first|exact Tt|exact rfl|exact Nat.le_refl _|refine And.intro ?_ ?_)
      all_goals first
       |(intro key hf;exact⟨hasO_next hk2 hc key hf,fun _=>⟨valO_next hk2 hc key hf,by dsimp only;cases decide (key=[c])<;>rfl⟩⟩)
       |(intro key hf;exact⟨hasW_skip ht key,fun _=>⟨valW_skip ht key,by first|rfl|(dsimp only;cases decide (key=[c])<;>rfl)⟩⟩)
  .obtain rfl:k=l.length:=by omega
   (refine gW ?_;intros)
   refine Awp.vec 4 128 5 (rowAt []) rfl ?_
   refine loop_rule hT (S:=Nat × Nat) (fun z=>([(4,.osl (.loc 3) z.2 0 (pickN l (keepP rp l) z.1).length),(8,.mp (.loc 2)),(108,.d (eAtts l)),(109,dV l.length),(110,dV z.1)],
    ⟨[none,none,some (.map (.one .i64) (hasW rp l l.length) (valW rp l l.length)),bV 128 5 z.2 (pickN l (keepP rp l) z.1).length (rowAt (pickN l (keepP rp l) z.1))],[]⟩)) (fun z=>z.1<=l.length) (fun z=>l.length-z.1) (0,0) ?_ ?_ ?_
   .exact lq
   .exact Nat.zero_le _
   .rintro⟨k,g⟩ hk
    dsimp only at hk⊢
    have hlen:=pickN_len l (keepP rp l) k
    have hs:=pickN_succ l (keepP rp l) k
    by_cases hk2:k<l.length
    .obtain⟨c,hc⟩:∃c,(l.getD k default).course=c:=⟨_,rfl⟩
     have hK:keepP rp l k=match winS rp l l.length c with
      |none=>true
      |some j=>decide (j=k):=by rw[<-hc];rfl
     have hV:valW rp l l.length [c]=dV (((winS rp l l.length c).getD 0:Nat):Int):=rfl
     have hH:hasW rp l l.length [c]=(winS rp l l.length c).isSome:=rfl
     cases hw:winS rp l l.length c with
     | none =>
       rw[hw]at hV hH hK
       dsimp only at hK
       rw[if_pos hK]at hs
       have ks:Kp _:=⟨hs⟩
       clear hs
       (refine gS ?_;intros)
       refine Sq.go ?_;(refine gS ?_;intros)
       refine Sq.go ?_;(refine gS ?_;intros)
       refine Sq.go ?_;repeat' (first|((with_reducible refine Ev.mk ?_);conv=>whnf)|with_reducible refine Dr.mk ⟨Kr,Kr⟩ ?_|with_reducible refine obG ?_|with_reducible refine Ob.mk ?_ ?_|(with_reducible first|refine brT fun h=>?_|refine brF fun h=>?_|refine Br.mk (fun h=>?_) fun h=>?_)<;>(try simp only[bsl,beq_iff_eq,bne_iff_ne,bs2]at h)<;>(try contradiction)<;>try (exfalso;omega))
       .intro h0
        rw[Int.toNat_natCast,hc,hV]
        exact rfl
       simp(config:={beta:=false,eta:=false,iota:=false,proj:=false,zeta:=false,decide:=false}) only[Int.toNat_natCast,hc,hV,hH,hw,List.headD_cons,Option.getD_none,Option.isSome_none]
       (refine gW ?_;intros)
       subst hc
       refine stp (k+1,g+1) ?_
       dsimp only
       rw[ks.h,len_snoc]
       repeat' (first|exact Tt|exact rfl|exact Nat.le_refl _|refine And.intro ?_ ?_)
       all_goals first
        |(intro key hf;exact⟨rfl,fun _=>⟨rfl,rfl⟩⟩)
        |(intro i hi;exact⟨rowAt_join (pickN l (keepP rp l) k) (l.getD k default) rfl i hi,rfl⟩)
     | some j =>
       rw[hw]at hV hH hK
       dsimp only at hK
       by_cases hjk:j=k
       .rw[decide_eq_true hjk]at hK
        rw[if_pos hK]at hs
        have ks:Kp _:=⟨hs⟩
        clear hs
        (refine gS ?_;intros)
        refine Sq.go ?_;(refine gS ?_;intros)
        refine Sq.go ?_;(refine gS ?_;intros)
        refine Sq.go ?_;(refine gS ?_;intros)
        simp(config:={beta:=false,eta:=false,iota:=false,proj:=false,zeta:=false,decide:=false}) only[Int.toNat_natCast,hc,hV,hH,hw,List.headD_cons,Option.getD_some,Option.isSome_some]
        (refine gW ?_;intros)
        subst hc
        refine stp (k+1,g+1) ?_
        dsimp only
        rw[ks.h,len_snoc]
        repeat' (first|exact Tt|exact rfl|exact Nat.le_refl _|refine And.intro ?_ ?_)
        all_goals first
         |(intro key hf;exact⟨rfl,fun _=>⟨rfl,rfl⟩⟩)
         |(intro i hi;exact⟨rowAt_join (pickN l (keepP rp l) k) (l.getD k default) rfl i hi,rfl⟩)
       .rw[decide_eq_false hjk]at hK
        rw[if_neg (by rw[hK];decide),List.append_nil]at hs
        have ks:Kp _:=⟨hs⟩
        clear hs
        (refine gS ?_;intros)
        refine Sq.go ?_;(refine gS ?_;intros)
        refine Sq.go ?_;(refine gS ?_;intros)
        refine Sq.go ?_;(refine gS ?_;intros)
        simp(config:={beta:=false,eta:=false,iota:=false,proj:=false,zeta:=false,decide:=false}) only[Int.toNat_natCast,hc,hV,hH,hw,List.headD_cons,Option.getD_some,Option.isSome_some]
        (refine gW ?_;intros)
        refine stp (k+1,g) ?_
        dsimp only
        rw[ks.h]
        exact lq
    .obtain rfl:k=l.length:=by omega
     (refine gW ?_;intros)
     refine⟨⟨rfl,rfl,?_,rfl,fun i hi=>?_⟩,rfl,Tt⟩
     .exact Nat.le_of_eq (Nat.zero_add _)
     .rw[Nat.zero_add]
      rfl
end Go.Proofs.YtkjmomadndmeaaaGreatDoor
