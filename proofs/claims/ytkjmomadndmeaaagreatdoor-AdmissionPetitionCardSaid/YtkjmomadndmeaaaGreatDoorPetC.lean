/-
  Texts put together: AdmP, AdmA, PetA, PetB, PetC.
-/
import Derived.Test.YtkjmomadndmeaaaGreatDoorSitP
import Derived.Test.YtkjmomadndmeaaaGreatDoorRecO
import Derived.Test.YtkjmomadndmeaaaGreatDoorNamD
import Derived.Test.YtkjmomadndmeaaaGreatDoorEngAS
import Derived.Test.YtkjmomadndmeaaaGreatDoorFrz
import Derived.Test.YtkjmomadndmeaaaGreatDoorRuleE
/-
  Chapters 27, 28: petitions and decisions, plain; what is known alike leads to the same.
-/
namespace Go.Proofs.YtkjmomadndmeaaaGreatDoor
set_option linter.unusedSimpArgs false
set_option linter.unusedVariables false
open Go Go.Ab
set_option maxRecDepth 100000
set_option maxHeartbeats 0
def petV (l:List Fct) (k:Ke) (t kn:Int):Int:=match pointsV l k t (t + 1) kn with
 | []=>0
 | p :: _=>p.value
theorem petV_nn (l:List Fct) (k:Ke) (t kn:Int):0≤petV l k t kn:=by
 unfold petV
 cases h:pointsV l k t (t + 1) kn with
 | nil=>exact Int.le_refl _
 | cons p r=>exact (points_at (show p∈pointsV l k t (t + 1) kn by rw [h];simp)).2.2.2
theorem points_one (l:List Fct) (k:Ke) (t kn:Int):(pointsV l k t (t + 1) kn).length≤1:=by
 have:=ptsU_len (valT l k kn) (max 0 t) (ptsN t (t + 1))
 unfold pointsV
 unfold ptsN at *
 omega
def heldR (kind s t:Int):List Red:=(List.range 8).map fun n:Nat=>rdK ⟨kind,s,(n:Int)⟩ t
def heldF (l:List Fct) (kind s t kn:Int):Nat→List Int
 | 0=>[]
 | k + 1=>heldF l kind s t kn k ++ (if petV l ⟨kind,s,(k:Int)⟩ t kn=1 then [(k:Int)] else [])
def heldL (l:List Fct) (kind s t kn:Int):List Int:=heldF l kind s t kn 8
def heldN (l:List Fct) (s t kn:Int):Bool:=!(heldL l 6 s t kn).isEmpty
def crsD (w:Wor) (c t kn:Int):Crs:=(crsOf w c t kn).getD default
def allowV (w:Wor) (s c t kn:Int) (nw:List Int):Bool:=valR (sitV w s t kn nw) (crsD w c t kn).need && !valR (sitV w s t kn nw) (crsD w c t kn).bar
def askedB (s c t:Int) (nw:List Int):Bool:=nowB (-1) nw && (bw s 0 19999 && (bw c 0 4095 && bw t 0 1023))
structure Dec where
 kind:Int
 student:Int
 object:Int
 term:Int
 answer:Int
 last:Int
 known:Int
 now:List Int
 reads:List Red
 named:List Int
 deriving Inhabited
def eDec (d:Dec):List D:=[.int .i64 d.kind,.int .i64 d.student,.int .i64 d.object,.int .i64 d.term,.int .i64 d.answer,.int .i64 d.last,.int .i64 d.known,eInts d.now,eReds d.reads,eInts d.named]
def outB (w:Wor) (s c t kn:Int):Bool:=heldN w.fcts s t kn || !(crsOf w c t kn).isSome
def petC (w:Wor) (s c t kn:Int):Int:=petV w.fcts ⟨7,s,c⟩ t kn
def ansV (w:Wor) (s c t kn:Int) (nw:List Int):Int:=if outB w s c t kn=true then 0 else if allowV w s c t kn nw=true then 1 else if 0 < petC w s c t kn then 1 else 0
def namV (w:Wor) (s c t kn:Int) (nw:List Int):List Int:=if outB w s c t kn=true then [] else if allowV w s c t kn nw=true then [] else if 0 < petC w s c t kn then [petC w s c t kn] else []
def admR (w:Wor) (s c t kn:Int):List Red:=heldR 6 s t ++ readsT ⟨1,c,0⟩ t ++ sitR w s t kn ++ [rdK ⟨7,s,c⟩ t]
def admV (w:Wor) (s c t kn:Int) (nw:List Int):Dec:=⟨1,s,c,t,ansV w s c t kn nw,ansV w s c t kn nw,kn,nw,admR w s c t kn,namV w s c t kn nw⟩
/-! ### known alike -/
section
variable {w:Wor} {b a:Int}
def AlR (w:Wor) (b a:Int) (r:Red):Prop:=pointsV w.fcts (rKe r) r.fr r.til b=pointsV w.fcts (rKe r) r.fr r.til a
theorem alR_of {rs:List Red} (h:alikeV w.fcts rs b a=true):∀ r∈rs,AlR w b a r:=fun r hr=>by
 have:=List.all_eq_true.1 h r hr
 exact (of_decide_eq_true this:pointsV w.fcts (rKe r) r.fr r.til b=pointsV w.fcts (rKe r) r.fr r.til a)
theorem alR_to {rs:List Red} (h:∀ r∈rs,AlR w b a r):alikeV w.fcts rs b a=true:=by
 unfold alikeV
 rw [List.all_eq_true]
 intro r hr
 have h2:pointsV w.fcts (rKe r) r.fr r.til b=pointsV w.fcts (rKe r) r.fr r.til a:=h r hr
 exact decide_eq_true h2
theorem alR_at {k:Ke} {t:Int} (ht:0≤t∧t≤1023) (h:AlR w b a (rdK k t)):atV w.fcts k t b=atV w.fcts k t a:=alike_at ht h
theorem alR_pet {k:Ke} {t:Int} (h:AlR w b a (rdK k t)):petV w.fcts k t b=petV w.fcts k t a:=by
 unfold petV
 have h:pointsV w.fcts k t (t + 1) b=pointsV w.fcts k t (t + 1) a:=h
 rw [h]
theorem alR_nums (h:AlR w b a (rdK ⟨12,0,0⟩ 0)):nums w b=nums w a:=by
 unfold nums
 rw [alR_at (by decide) h]
theorem readsT_in {k:Ke} {t:Int} (ht:0≤t∧t≤1023):readsT k t=[rdK k t]:=by
 unfold readsT
 rw [if_pos (in_term ht)]
theorem alR_crs {n t:Int} (ht:0≤t∧t≤1023) (h:AlR w b a (rdK ⟨1,n,0⟩ t)):crsOf w n t b=crsOf w n t a:=by
 unfold crsOf
 rw [alR_at ht h]
theorem alR_attN {s t n:Int} (h:∀ r∈redN w s t b n,AlR w b a r):attN w s t b n=attN w s t a n∧redN w s t b n=redN w s t a n:=by
 have hp:pointsV w.fcts (gK s n) 0 t b=pointsV w.fcts (gK s n) 0 t a:=h ⟨5,s,n,0,t⟩ (by simp [redN])
 unfold attN redN
 rw [← hp]
 refine ⟨List.map_congr_left fun p hm=>?_,rfl⟩
 have hm2:p∈pointsV w.fcts (gK s n) 0 t b:=(List.mem_filter.1 hm).1
 have hpt:=points_at hm2
 have hr:AlR w b a (rdK ⟨1,n,0⟩ p.term):=h _ (by
  unfold redN
  refine List.mem_cons_of_mem _ (List.mem_flatMap.2 ⟨p,hm,?_⟩)
  rw [readsT_in ⟨hpt.1,hpt.2.1⟩]
  simp)
 unfold attOf creds
 rw [alR_crs ⟨hpt.1,hpt.2.1⟩ hr]
theorem flatMap_congr' {α β:Type} {f g:α→List β}:∀ {l:List α},(∀ x∈l,f x=g x)→l.flatMap f=l.flatMap g
 | [],_=>rfl
 | x :: r,h=>by
   rw [List.flatMap_cons,List.flatMap_cons,h x (by simp),flatMap_congr' fun y hy=>h y (by simp [hy])]
theorem alR_of_A {s t:Int} (h:∀ r∈(ofA w s t b).2,AlR w b a r):ofA w s t b=ofA w s t a:=by
 have hn:nums w b=nums w a:=alR_nums (h _ (by rw [ofA_eq];simp))
 rw [ofA_eq,ofA_eq,← hn]
 have hN:∀ n∈nums w b,attN w s t b n=attN w s t a n∧redN w s t b n=redN w s t a n:=fun n hm=>alR_attN fun r hr=>h r (by
  rw [ofA_eq]
  exact List.mem_cons_of_mem _ (List.mem_flatMap.2 ⟨n,hm,hr⟩))
 rw [flatMap_congr' fun n hm=>(hN n hm).1,flatMap_congr' fun n hm=>(hN n hm).2]
theorem winS_congr {rp rp':Int→Int} {l:List Att} {c:Int} (hc:rp c=rp' c):∀ k,winS rp l k c=winS rp' l k c
 | 0=>rfl
 | k + 1=>by rw [winS,winS,winS_congr hc k,hc]
theorem cntA_congr {rp rp':Int→Int} {l:List Att} (h:∀ x∈l,rp x.course=rp' x.course):cntA rp l=cntA rp' l:=pick_congr fun i hi=>by
 unfold keepP
 rw [winS_congr (h _ (getD_mem hi))]
theorem alR_sit {s t:Int} (ht:0≤t∧t≤1023) (h:∀ r∈sitR w s t b,AlR w b a r) (nw:List Int):sitV w s t b nw=sitV w s t a nw∧sitR w s t b=sitR w s t a:=by
 have h1:ofA w s t b=ofA w s t a:=alR_of_A fun r hr=>h r (by unfold sitR;simp [hr])
 have h2:recA w s t b=recA w s t a:=by unfold recA;rw [h1]
 have hn:nums w b=nums w a:=alR_nums (h _ (by unfold sitR;simp))
 have h3:∀ n∈nums w b,equalL w n t b=equalL w n t a∧equalR w n t b=equalR w n t a:=fun n hm=>by
  have:=equal_alike w n t b a (alR_to fun r hr=>h r (by
   unfold sitR
   refine List.mem_append_right _ (List.mem_cons_of_mem _ (List.mem_flatMap.2 ⟨n,hm,hr⟩))))
  exact this
 have h4:∀ x∈recA w s t b,repC w t b x.course=repC w t a x.course:=fun x hx=>by
  unfold repC
  rw [alR_crs ht (h _ (by
   unfold sitR
   refine List.mem_append_left _ (List.mem_append_right _ (List.mem_flatMap.2 ⟨x,hx,?_⟩))
   rw [readsT_in ht]
   simp))]
 have h5:cntL w s t b=cntL w s t a:=by
  unfold cntL
  rw [← h2]
  exact cntA_congr h4
 have h6:∀ c,seS w t b (recA w s t b) nw c=seS w t a (recA w s t b) nw c:=fun c=>by
  unfold seS
  rw [← hn]
  split
  ·rename_i hc
   rw [(h3 c hc).1]
  ·rfl
 have h7:∀ k,seenF w t b (recA w s t b) nw k=seenF w t a (recA w s t b) nw k:=fun k=>by
  induction k with
  | zero=>rfl
  | succ k ih=>rw [seenF,seenF,ih,h6]
 refine ⟨?_,?_⟩
 ·unfold sitV seenL
  rw [h7,h2,h5]
 ·unfold sitR
  rw [h1,h2,← hn,flatMap_congr' fun n hm=>(h3 n hm).2]
theorem adm_alike {s c t:Int} (ht:0≤t∧t≤1023) (h:alikeV w.fcts (admR w s c t b) b a=true) (nw:List Int) :
 ansV w s c t b nw=ansV w s c t a nw∧namV w s c t b nw=namV w s c t a nw∧admR w s c t b=admR w s c t a:=by
 have hA:=alR_of h
 obtain ⟨h1,h2⟩:=alR_sit (s:=s) ht (fun r hr=>hA r (by unfold admR;simp [hr])) nw
 have h3:crsOf w c t b=crsOf w c t a:=alR_crs ht (hA _ (by unfold admR;rw [readsT_in ht];simp))
 have h4:petC w s c t b=petC w s c t a:=alR_pet (hA _ (by unfold admR;simp))
 have h5:∀ k,k≤8→heldF w.fcts 6 s t b k=heldF w.fcts 6 s t a k:=fun k=>by
  induction k with
  | zero=>intro _;rfl
  | succ k ih =>
    intro hk
    have:AlR w b a (rdK ⟨6,s,(k:Int)⟩ t):=hA _ (by
     unfold admR heldR
     simp only [List.append_assoc]
     exact List.mem_append_left _ (List.mem_map.2 ⟨k,List.mem_range.2 (by omega),rfl⟩))
    rw [heldF,heldF,ih (by omega),alR_pet this]
 have h6:outB w s c t b=outB w s c t a:=by
  unfold outB heldN heldL
  rw [h5 8 (Nat.le_refl _),h3]
 have h7:allowV w s c t b nw=allowV w s c t a nw:=by
  unfold allowV crsD
  rw [h1,h3]
 refine ⟨?_,?_,?_⟩
 ·unfold ansV
  rw [h6,h7,h4]
 ·unfold namV
  rw [h6,h7,h4]
 ·unfold admR
  rw [h2]
end
end Go.Proofs.YtkjmomadndmeaaaGreatDoor
/-
  Chapter 28: what may be asked; the numbers of petitions that count.
-/
namespace Go.Proofs.YtkjmomadndmeaaaGreatDoor
set_option linter.unusedSimpArgs false
set_option linter.unusedVariables false
open Go Go.Ab
set_option maxRecDepth 100000
set_option maxHeartbeats 0
theorem asked_ok (s c t:Int) (nw:List Int) (hl:nw.length≤1000000):Pure Tryz.prog 34 [.int .i64 s,.int .i64 c,.int .i64 t,eInts nw] [.bool (askedB s c t nw)]:=by
 refine pure_rule hT (T:=tab) (N:=49) (rs:=[.tmp 8]) Tryz.func34 rfl rfl rfl (by kernel_rfl) rfl ?_
 (refine gW ?_;intros)
 refine loop_rule hT (S:=Nat) (fun k=>([(0,.d (.int .i64 s)),(1,.d (.int .i64 c)),(2,.d (.int .i64 t)),(9,.d (.int .i64 (lastB nw k))),(12,.d (eInts nw)),(13,.d (.int .i64 nw.length)),(14,.d (.int .i64 k))],⟨[],[]⟩)) (fun k=>k≤nw.length∧nowB (-1) nw=nowB (lastB nw k) (nw.drop k)) (fun k=>nw.length - k) 0 ?_ ?_ ?_
 ·repeat' (first | exact True.intro | exact rfl | exact Nat.le_refl _ | refine And.intro ?_ ?_)
 ·exact ⟨Nat.zero_le _,rfl⟩
 ·rintro k ⟨hk,hc⟩
  dsimp only at hk hc ⊢
  by_cases hk2:k < nw.length
  ·rw [nowB_at hk2] at hc
   by_cases h1:nw.getD k default≤lastB nw k
   ·have hf:askedB s c t nw=false:=by
     unfold askedB
     rw [hc,decide_eq_false (by omega)]
     rfl
    rw [hf]
    clear hc hf
    (refine gW ?_;intros)
    exact ⟨rfl,True.intro⟩
   by_cases h2:4096≤nw.getD k default
   ·have hf:askedB s c t nw=false:=by
     unfold askedB
     rw [hc,decide_eq_false (show ¬ nw.getD k default≤4095 by omega)]
     simp
    rw [hf]
    clear hc hf
    (refine gW ?_;intros)
    exact ⟨rfl,True.intro⟩
   ·rw [decide_eq_true (show lastB nw k < nw.getD k default by omega),decide_eq_true (show nw.getD k default≤4095 by omega)] at hc
    have kc:Kp _:=⟨hc⟩
    clear hc
    (refine gW ?_;intros)
    refine ⟨k + 1,⟨by show k + 1≤nw.length;omega,kc.h⟩,by show nw.length - (k + 1) < nw.length - k;omega,?_⟩
    dsimp only
    rw [lastB_succ]
    repeat' (first | exact True.intro | exact rfl | exact Nat.le_refl _ | refine And.intro ?_ ?_)
  ·have e:nowB (-1) nw=true:=by
    rw [hc,drop_end (by omega)]
    rfl
   unfold askedB
   rw [e]
   (refine gW ?_;intros)
   refine ⟨congrArg D.bool ?_,True.intro⟩
   rw [Bool.eq_iff_iff]
   simp only [bw,Bool.true_and,Bool.and_eq_true,decide_eq_true_iff,bsl,beq_iff_eq,bne_iff_ne]
   omega
theorem named_ok (b:Bool) (n:Int):Pure Tryz.prog 38 [.bool b,.int .i64 n] [eInts (if b=true then [n] else [])]:=by
 refine pure_ruleP hT (T:=tab) (N:=9) (rs:=[.tmp 4]) Tryz.func38 rfl rfl rfl (by kernel_rfl) rfl ?_
 cases b
 ·rw [if_neg (by decide)]
  (refine gW ?_;intros)
  exact ⟨BecP.eq rfl,True.intro⟩
 ·rw [if_pos rfl]
  (refine gW ?_;intros)
  exact ⟨BecP.rows rfl (Nat.le_refl _) (fun i hi=>by rw [show i=0 from Nat.lt_one_iff.1 hi];rfl),True.intro⟩
end Go.Proofs.YtkjmomadndmeaaaGreatDoor
/-
  Chapter 27: petitions: what a look at keys yields.
-/
namespace Go.Proofs.YtkjmomadndmeaaaGreatDoor
set_option linter.unusedSimpArgs false
set_option linter.unusedVariables false
open Go Go.Ab
set_option maxRecDepth 100000
set_option maxHeartbeats 0
def eKes (xs:List Ke):D:=.sl 3 xs.length fun i=>eKe (xs.getD i default)
theorem petlook_ok (w:Wor) (ks:List Ke) (t kn:Int):CallVC Tryz.prog 49 [.d (.agg (eWor w)),.d (eKes ks),.d (.int .i64 t),.d (.int .i64 kn)] ⟨[],[]⟩
 (Ret (fun _:Unit=>([.fn (.func 98) [] [.ptr (.loc 1) 0 0 0,.ptr (.loc 2) 0 0 0,.ptr (.loc 0) 0 0 0,.ptr (.loc 3) 0 0 0]],⟨[some (.box 29 (up (eWor w))),some (.box 105 [.d (eKes ks)]),some (.box 3 [.d (.int .i64 t)]),some (.box 3 [.d (.int .i64 kn)])],[]⟩)) fun _=>True):=by
 refine call_rule hT (T:=tab) (N:=10) (rs:=[.tmp 8]) _ _ Tryz.func49 rfl rfl rfl (by kernel_rfl) rfl ?_
 (refine gW ?_;intros)
 exact ⟨(),True.intro,by repeat' (first | exact True.intro | exact rfl | exact Nat.le_refl _ | refine And.intro ?_ ?_),rfl⟩
def lstV (ps:List Poi) (j:Nat):Int:=(ps.take j).foldl (fun _ p=>p.value) 0
theorem lstV_succ {ps:List Poi} {j:Nat} (h:j < ps.length):lstV ps (j + 1)=(ps.getD j default).value:=by
 unfold lstV
 rw [take_succ_at h,List.foldl_append]
 rfl
theorem lstV_pet (l:List Fct) (k:Ke) (t kn:Int):lstV (pointsV l k t (t + 1) kn) (pointsV l k t (t + 1) kn).length=petV l k t kn:=by
 have h:=points_one l k t kn
 unfold lstV petV
 rw [List.take_length]
 generalize pointsV l k t (t + 1) kn=ps at h
 match ps,h with
 | [],_=>rfl
 | [p],_=>rfl
def eLkd (w:Wor) (k:Ke) (t kn:Int):List D:=eRed (rdK k t) ++ [.int .i64 (petV w.fcts k t kn)]
def rdsK (ks:List Ke) (t:Int) (k:Nat):List Red:=(ks.take k).map fun q=>rdK q t
theorem rdsK_succ {ks:List Ke} (t:Int) {k:Nat} (h:k < ks.length):rdsK ks t (k + 1)=rdsK ks t k ++ [rdK (ks.getD k default) t]:=by
 unfold rdsK
 rw [take_succ_at h,List.map_append]
 rfl
theorem rdsK_len (ks:List Ke) (t:Int) (k:Nat):(rdsK ks t k).length≤k:=by
 unfold rdsK
 rw [List.length_map,List.length_take]
 omega
def numK (w:Wor) (q:Ke) (t kn:Int) (k:Nat):Int:=if k=0 then 0 else petV w.fcts q t kn
theorem lkdA_ok (rec:Loop) (y:Nat) (w:Wor) (hw:WfW w) (ks:List Ke) (hl:ks.length≤1000000) (t kn:Int) (ht:In .i64 (t + 1))
 (hy:∀ k,k < ks.length→YieldVC Tryz.prog y [.d (.int .i64 k),.d (.agg (eLkd w (ks.getD k default) t kn))] ⟨[],[some (.box 105 [.d (eKes ks)]),some (.box 3 [.d (.int .i64 t)]),some (.box 29 (up (eWor w))),some (.box 3 [.d (.int .i64 kn)]),some (.box 3 [.d (.int .i64 (numK w (ks.getD 0 default) t kn k))]),some (.box 35 [.osl (.arg 6) k 0 (rdsK ks t k).length]),some (.vec 107 5 k (rdsK ks t k).length (rowsOf eRed (rdsK ks t k))),some (.loop y rec [(12,.ptr (.arg 4) 0 0 0),(14,.ptr (.arg 5) 0 0 0)])]⟩
  (Ret (fun _:Unit=>([.d (.bool true)],⟨[],[some (.box 105 [.d (eKes ks)]),some (.box 3 [.d (.int .i64 t)]),some (.box 29 (up (eWor w))),some (.box 3 [.d (.int .i64 kn)]),some (.box 3 [.d (.int .i64 (numK w (ks.getD 0 default) t kn (k + 1)))]),some (.box 35 [.osl (.arg 6) (k + 1) 0 (rdsK ks t (k + 1)).length]),some (.vec 107 5 (k + 1) (rdsK ks t (k + 1)).length (rowsOf eRed (rdsK ks t (k + 1)))),some (.loop y rec [(12,.ptr (.arg 4) 0 0 0),(14,.ptr (.arg 5) 0 0 0)])]⟩)) fun _=>True)) :
 CallVC Tryz.prog 98 [.fn (.yield y) [] [],.ptr (.arg 0) 0 0 0,.ptr (.arg 1) 0 0 0,.ptr (.arg 2) 0 0 0,.ptr (.arg 3) 0 0 0] ⟨[],[some (.box 105 [.d (eKes ks)]),some (.box 3 [.d (.int .i64 t)]),some (.box 29 (up (eWor w))),some (.box 3 [.d (.int .i64 kn)]),some (.box 3 [.d (.int .i64 0)]),some (.box 35 [.osl (.arg 6) 0 0 0]),some (.vec 107 5 0 0 (rowsOf eRed [])),some (.loop y rec [(12,.ptr (.arg 4) 0 0 0),(14,.ptr (.arg 5) 0 0 0)])]⟩
  (Ret (fun _:Unit=>([],⟨[],[some (.box 105 [.d (eKes ks)]),some (.box 3 [.d (.int .i64 t)]),some (.box 29 (up (eWor w))),some (.box 3 [.d (.int .i64 kn)]),some (.box 3 [.d (.int .i64 (numK w (ks.getD 0 default) t kn ks.length))]),some (.box 35 [.osl (.arg 6) ks.length 0 (rdsK ks t ks.length).length]),some (.vec 107 5 ks.length (rdsK ks t ks.length).length (rowsOf eRed (rdsK ks t ks.length))),some (.loop y rec [(12,.ptr (.arg 4) 0 0 0),(14,.ptr (.arg 5) 0 0 0)])]⟩)) fun _=>True):=by
 refine call_rule hT (T:=tab) (N:=47) (rs:=[]) _ _ Tryz.func98 rfl rfl rfl (by kernel_rfl) rfl ?_
 (refine gW ?_;intros)
 refine loop_rule hT (S:=Nat) (fun k=>([(0,.fn (.yield y) [] []),(2,.ptr (.arg 1) 0 0 0),(3,.ptr (.arg 2) 0 0 0),(4,.ptr (.arg 3) 0 0 0),(11,.d (eKes ks)),(12,.d (.int .i64 ks.length)),(13,.d (.int .i64 k))],⟨[],[some (.box 105 [.d (eKes ks)]),some (.box 3 [.d (.int .i64 t)]),some (.box 29 (up (eWor w))),some (.box 3 [.d (.int .i64 kn)]),some (.box 3 [.d (.int .i64 (numK w (ks.getD 0 default) t kn k))]),some (.box 35 [.osl (.arg 6) k 0 (rdsK ks t k).length]),some (.vec 107 5 k (rdsK ks t k).length (rowsOf eRed (rdsK ks t k))),some (.loop y rec [(12,.ptr (.arg 4) 0 0 0),(14,.ptr (.arg 5) 0 0 0)])]⟩)) (fun k=>k≤ks.length) (fun k=>ks.length - k) 0 ?_ ?_ ?_
 ·repeat' (first | exact True.intro | exact rfl | exact Nat.le_refl _ | refine And.intro ?_ ?_)
  all_goals first
   | (intro j hj;exact ⟨rfl,rfl⟩)
 ·exact Nat.zero_le _
 ·intro k hk
  dsimp only at hk ⊢
  by_cases hk2:k < ks.length
  ·have hy1:=hy k hk2
   have hv:=lstV_pet w.fcts (ks.getD k default) t kn
   have hP:=points_ok w.fcts hw.fct (ks.getD k default) t (t + 1) kn
   unfold eLkd at hy1
   have hpl:=points_one w.fcts (ks.getD k default) t kn
   (refine gW ?_;intros)
   refine hP.call ?_
   (refine gW ?_;intros)
   refine loop_rule hT (S:=Nat) (fun j=>([(0,.fn (.yield y) [] []),(2,.ptr (.arg 1) 0 0 0),(3,.ptr (.arg 2) 0 0 0),(4,.ptr (.arg 3) 0 0 0),(6,.d (.int .i64 k)),(8,.ptr (.loc 1) 0 0 0),(11,.d (eKes ks)),(12,.d (.int .i64 ks.length)),(13,.d (.int .i64 k)),(31,.d (ePois (pointsV w.fcts (ks.getD k default) t (t + 1) kn))),(32,.d (.int .i64 (pointsV w.fcts (ks.getD k default) t (t + 1) kn).length)),(33,.d (.int .i64 j))],
    ⟨[none,some (.box 109 (up (eRed (rdK (ks.getD k default) t) ++ [.int .i64 (lstV (pointsV w.fcts (ks.getD k default) t (t + 1) kn) j)])))],[some (.box 105 [.d (eKes ks)]),some (.box 3 [.d (.int .i64 t)]),some (.box 29 (up (eWor w))),some (.box 3 [.d (.int .i64 kn)]),some (.box 3 [.d (.int .i64 (numK w (ks.getD 0 default) t kn k))]),some (.box 35 [.osl (.arg 6) k 0 (rdsK ks t k).length]),some (.vec 107 5 k (rdsK ks t k).length (rowsOf eRed (rdsK ks t k))),some (.loop y rec [(12,.ptr (.arg 4) 0 0 0),(14,.ptr (.arg 5) 0 0 0)])]⟩)) (fun j=>j≤(pointsV w.fcts (ks.getD k default) t (t + 1) kn).length) (fun j=>(pointsV w.fcts (ks.getD k default) t (t + 1) kn).length - j) 0 ?_ ?_ ?_
   ·repeat' (first | exact True.intro | exact rfl | exact Nat.le_refl _ | refine And.intro ?_ ?_)
    all_goals first
     | (intro j hj;exact ⟨rfl,rfl⟩)
   ·exact Nat.zero_le _
   ·intro j hj
    dsimp only at hj ⊢
    by_cases hj2:j < (pointsV w.fcts (ks.getD k default) t (t + 1) kn).length
    ·have hs:=lstV_succ hj2
     (refine gW ?_;intros)
     refine ⟨j + 1,by show j + 1≤(pointsV w.fcts (ks.getD k default) t (t + 1) kn).length;omega,by show (pointsV w.fcts (ks.getD k default) t (t + 1) kn).length - (j + 1) < (pointsV w.fcts (ks.getD k default) t (t + 1) kn).length - j;omega,?_⟩
     dsimp only
     rw [hs]
     repeat' (first | exact True.intro | exact rfl | exact Nat.le_refl _ | refine And.intro ?_ ?_)
     all_goals first
      | (intro j hj;exact ⟨rfl,rfl⟩)
    ·obtain rfl:j=(pointsV w.fcts (ks.getD k default) t (t + 1) kn).length:=by omega
     rw [hv]
     (refine gW ?_;intros)
     refine hy1.at [.arg 0,.arg 1,.arg 2,.arg 3,.arg 4,.arg 5,.arg 6,.arg 7] rfl ⟨rfl,rfl,rfl,rfl,rfl,rfl,rfl,rfl,True.intro⟩ (fun s' hs'=>⟨rfl,?_⟩)
     (refine gW ?_;intros)
     refine ⟨k + 1,by show k + 1≤ks.length;omega,by show ks.length - (k + 1) < ks.length - k;omega,?_⟩
     repeat' (first | exact True.intro | exact rfl | exact Nat.le_refl _ | refine And.intro ?_ ?_)
     all_goals first
      | (intro j hj;exact ⟨rfl,rfl⟩)
  ·obtain rfl:k=ks.length:=by omega
   (refine gW ?_;intros)
   refine ⟨(),True.intro,?_,rfl⟩
   repeat' (first | exact True.intro | exact rfl | exact Nat.le_refl _ | refine And.intro ?_ ?_)
   all_goals first
    | (intro j hj;exact ⟨rfl,rfl⟩)
def keysN (kd s:Int) (k:Nat):List Ke:=(List.range k).map fun n:Nat=>(⟨kd,s,(n:Int)⟩:Ke)
theorem keysN_succ (kd s:Int) (k:Nat):keysN kd s (k + 1)=keysN kd s k ++ [⟨kd,s,(k:Int)⟩]:=by
 unfold keysN
 rw [List.range_succ,List.map_append]
 rfl
theorem keysN_len (kd s:Int) (k:Nat):(keysN kd s k).length=k:=by simp [keysN]
theorem keysN_at (kd s:Int) {k n:Nat} (h:k < n):(keysN kd s n).getD k default=⟨kd,s,(k:Int)⟩:=by
 simp [keysN,List.getD_eq_getElem?_getD,h]
def eI (n:Int):List D:=[.int .i64 n]
theorem lkdH_ok (kd s:Int)(rec:Loop) (y:Nat) (w:Wor) (hw:WfW w) (ks:List Ke) (hl:ks.length≤1000000) (t kn:Int) (ht:In .i64 (t + 1))
 (hy:∀ k,k < ks.length→YieldVC Tryz.prog y [.d (.int .i64 k),.d (.agg (eLkd w (ks.getD k default) t kn))] ⟨[],[some (.box 105 [.d (eKes ks)]),some (.box 3 [.d (.int .i64 t)]),some (.box 29 (up (eWor w))),some (.box 3 [.d (.int .i64 kn)]),some (.box 30 [.osl (.arg 5) (heldF w.fcts kd s t kn k).length 0 (heldF w.fcts kd s t kn k).length]),some (.vec 3 1 (heldF w.fcts kd s t kn k).length (heldF w.fcts kd s t kn k).length (rowsOf eI (heldF w.fcts kd s t kn k))),some (.box 35 [.osl (.arg 7) k 0 (rdsK ks t k).length]),some (.vec 107 5 k (rdsK ks t k).length (rowsOf eRed (rdsK ks t k))),some (.loop y rec [(10,.ptr (.arg 4) 0 0 0),(11,.ptr (.arg 6) 0 0 0)])]⟩
  (Ret (fun _:Unit=>([.d (.bool true)],⟨[],[some (.box 105 [.d (eKes ks)]),some (.box 3 [.d (.int .i64 t)]),some (.box 29 (up (eWor w))),some (.box 3 [.d (.int .i64 kn)]),some (.box 30 [.osl (.arg 5) (heldF w.fcts kd s t kn (k + 1)).length 0 (heldF w.fcts kd s t kn (k + 1)).length]),some (.vec 3 1 (heldF w.fcts kd s t kn (k + 1)).length (heldF w.fcts kd s t kn (k + 1)).length (rowsOf eI (heldF w.fcts kd s t kn (k + 1)))),some (.box 35 [.osl (.arg 7) (k + 1) 0 (rdsK ks t (k + 1)).length]),some (.vec 107 5 (k + 1) (rdsK ks t (k + 1)).length (rowsOf eRed (rdsK ks t (k + 1)))),some (.loop y rec [(10,.ptr (.arg 4) 0 0 0),(11,.ptr (.arg 6) 0 0 0)])]⟩)) fun _=>True)) :
 CallVC Tryz.prog 98 [.fn (.yield y) [] [],.ptr (.arg 0) 0 0 0,.ptr (.arg 1) 0 0 0,.ptr (.arg 2) 0 0 0,.ptr (.arg 3) 0 0 0] ⟨[],[some (.box 105 [.d (eKes ks)]),some (.box 3 [.d (.int .i64 t)]),some (.box 29 (up (eWor w))),some (.box 3 [.d (.int .i64 kn)]),some (.box 30 [.osl (.arg 5) 0 0 0]),some (.vec 3 1 0 0 (rowsOf eI [])),some (.box 35 [.osl (.arg 7) 0 0 0]),some (.vec 107 5 0 0 (rowsOf eRed [])),some (.loop y rec [(10,.ptr (.arg 4) 0 0 0),(11,.ptr (.arg 6) 0 0 0)])]⟩
  (Ret (fun _:Unit=>([],⟨[],[some (.box 105 [.d (eKes ks)]),some (.box 3 [.d (.int .i64 t)]),some (.box 29 (up (eWor w))),some (.box 3 [.d (.int .i64 kn)]),some (.box 30 [.osl (.arg 5) (heldF w.fcts kd s t kn ks.length).length 0 (heldF w.fcts kd s t kn ks.length).length]),some (.vec 3 1 (heldF w.fcts kd s t kn ks.length).length (heldF w.fcts kd s t kn ks.length).length (rowsOf eI (heldF w.fcts kd s t kn ks.length))),some (.box 35 [.osl (.arg 7) ks.length 0 (rdsK ks t ks.length).length]),some (.vec 107 5 ks.length (rdsK ks t ks.length).length (rowsOf eRed (rdsK ks t ks.length))),some (.loop y rec [(10,.ptr (.arg 4) 0 0 0),(11,.ptr (.arg 6) 0 0 0)])]⟩)) fun _=>True):=by
 refine call_rule hT (T:=tab) (N:=47) (rs:=[]) _ _ Tryz.func98 rfl rfl rfl (by kernel_rfl) rfl ?_
 (refine gW ?_;intros)
 refine loop_rule hT (S:=Nat) (fun k=>([(0,.fn (.yield y) [] []),(2,.ptr (.arg 1) 0 0 0),(3,.ptr (.arg 2) 0 0 0),(4,.ptr (.arg 3) 0 0 0),(11,.d (eKes ks)),(12,.d (.int .i64 ks.length)),(13,.d (.int .i64 k))],⟨[],[some (.box 105 [.d (eKes ks)]),some (.box 3 [.d (.int .i64 t)]),some (.box 29 (up (eWor w))),some (.box 3 [.d (.int .i64 kn)]),some (.box 30 [.osl (.arg 5) (heldF w.fcts kd s t kn k).length 0 (heldF w.fcts kd s t kn k).length]),some (.vec 3 1 (heldF w.fcts kd s t kn k).length (heldF w.fcts kd s t kn k).length (rowsOf eI (heldF w.fcts kd s t kn k))),some (.box 35 [.osl (.arg 7) k 0 (rdsK ks t k).length]),some (.vec 107 5 k (rdsK ks t k).length (rowsOf eRed (rdsK ks t k))),some (.loop y rec [(10,.ptr (.arg 4) 0 0 0),(11,.ptr (.arg 6) 0 0 0)])]⟩)) (fun k=>k≤ks.length) (fun k=>ks.length - k) 0 ?_ ?_ ?_
 ·repeat' (first | exact True.intro | exact rfl | exact Nat.le_refl _ | refine And.intro ?_ ?_)
  all_goals first
   | (intro j hj;exact ⟨rfl,rfl⟩)
 ·exact Nat.zero_le _
 ·intro k hk
  dsimp only at hk ⊢
  by_cases hk2:k < ks.length
  ·have hy1:=hy k hk2
   have hv:=lstV_pet w.fcts (ks.getD k default) t kn
   have hP:=points_ok w.fcts hw.fct (ks.getD k default) t (t + 1) kn
   unfold eLkd at hy1
   have hpl:=points_one w.fcts (ks.getD k default) t kn
   (refine gW ?_;intros)
   refine hP.call ?_
   (refine gW ?_;intros)
   refine loop_rule hT (S:=Nat) (fun j=>([(0,.fn (.yield y) [] []),(2,.ptr (.arg 1) 0 0 0),(3,.ptr (.arg 2) 0 0 0),(4,.ptr (.arg 3) 0 0 0),(6,.d (.int .i64 k)),(8,.ptr (.loc 1) 0 0 0),(11,.d (eKes ks)),(12,.d (.int .i64 ks.length)),(13,.d (.int .i64 k)),(31,.d (ePois (pointsV w.fcts (ks.getD k default) t (t + 1) kn))),(32,.d (.int .i64 (pointsV w.fcts (ks.getD k default) t (t + 1) kn).length)),(33,.d (.int .i64 j))],
    ⟨[none,some (.box 109 (up (eRed (rdK (ks.getD k default) t) ++ [.int .i64 (lstV (pointsV w.fcts (ks.getD k default) t (t + 1) kn) j)])))],[some (.box 105 [.d (eKes ks)]),some (.box 3 [.d (.int .i64 t)]),some (.box 29 (up (eWor w))),some (.box 3 [.d (.int .i64 kn)]),some (.box 30 [.osl (.arg 5) (heldF w.fcts kd s t kn k).length 0 (heldF w.fcts kd s t kn k).length]),some (.vec 3 1 (heldF w.fcts kd s t kn k).length (heldF w.fcts kd s t kn k).length (rowsOf eI (heldF w.fcts kd s t kn k))),some (.box 35 [.osl (.arg 7) k 0 (rdsK ks t k).length]),some (.vec 107 5 k (rdsK ks t k).length (rowsOf eRed (rdsK ks t k))),some (.loop y rec [(10,.ptr (.arg 4) 0 0 0),(11,.ptr (.arg 6) 0 0 0)])]⟩)) (fun j=>j≤(pointsV w.fcts (ks.getD k default) t (t + 1) kn).length) (fun j=>(pointsV w.fcts (ks.getD k default) t (t + 1) kn).length - j) 0 ?_ ?_ ?_
   ·repeat' (first | exact True.intro | exact rfl | exact Nat.le_refl _ | refine And.intro ?_ ?_)
    all_goals first
     | (intro j hj;exact ⟨rfl,rfl⟩)
   ·exact Nat.zero_le _
   ·intro j hj
    dsimp only at hj ⊢
    by_cases hj2:j < (pointsV w.fcts (ks.getD k default) t (t + 1) kn).length
    ·have hs:=lstV_succ hj2
     (refine gW ?_;intros)
     refine ⟨j + 1,by show j + 1≤(pointsV w.fcts (ks.getD k default) t (t + 1) kn).length;omega,by show (pointsV w.fcts (ks.getD k default) t (t + 1) kn).length - (j + 1) < (pointsV w.fcts (ks.getD k default) t (t + 1) kn).length - j;omega,?_⟩
     dsimp only
     rw [hs]
     repeat' (first | exact True.intro | exact rfl | exact Nat.le_refl _ | refine And.intro ?_ ?_)
     all_goals first
      | (intro j hj;exact ⟨rfl,rfl⟩)
    ·obtain rfl:j=(pointsV w.fcts (ks.getD k default) t (t + 1) kn).length:=by omega
     rw [hv]
     (refine gW ?_;intros)
     refine hy1.at [.arg 0,.arg 1,.arg 2,.arg 3,.arg 4,.arg 5,.arg 6,.arg 7,.arg 8] rfl ⟨rfl,rfl,rfl,rfl,rfl,rfl,rfl,rfl,rfl,True.intro⟩ (fun s' hs'=>⟨rfl,?_⟩)
     (refine gW ?_;intros)
     refine ⟨k + 1,by show k + 1≤ks.length;omega,by show ks.length - (k + 1) < ks.length - k;omega,?_⟩
     repeat' (first | exact True.intro | exact rfl | exact Nat.le_refl _ | refine And.intro ?_ ?_)
     all_goals first
      | (intro j hj;exact ⟨rfl,rfl⟩)
  ·obtain rfl:k=ks.length:=by omega
   (refine gW ?_;intros)
   refine ⟨(),True.intro,?_,rfl⟩
   repeat' (first | exact True.intro | exact rfl | exact Nat.le_refl _ | refine And.intro ?_ ?_)
   all_goals first
    | (intro j hj;exact ⟨rfl,rfl⟩)
end Go.Proofs.YtkjmomadndmeaaaGreatDoor
/-
  Chapter 27: the petition that applies; holds.
-/
namespace Go.Proofs.YtkjmomadndmeaaaGreatDoor
set_option linter.unusedSimpArgs false
set_option linter.unusedVariables false
open Go Go.Ab
set_option maxRecDepth 100000
set_option maxHeartbeats 0
theorem active_ok (w:Wor) (hw:WfW w) (sc s o t kn:Int) (ht:In .i64 (t + 1)) :
 Pure Tryz.prog 18 [.agg (eWor w),.int .i64 sc,.int .i64 s,.int .i64 o,.int .i64 t,.int .i64 kn] [.int .i64 (petV w.fcts ⟨sc,s,o⟩ t kn),.bool (decide (0 < petV w.fcts ⟨sc,s,o⟩ t kn)),eReds [rdK ⟨sc,s,o⟩ t]]:=by
 have hv0:=petV_nn w.fcts ⟨sc,s,o⟩ t kn
 have hL:=petlook_ok w [⟨sc,s,o⟩] t kn
 refine pure_ruleC hT (T:=tab) (N:=40) (rs:=[.cell 12 3,.tmp 13,.cell 14 35]) Tryz.func18 rfl rfl rfl (by kernel_rfl) rfl ?_
 (refine gS ?_;intros)
 refine Sq.alt (Awp.vecCell (.loc 2) 0 35 107 5 [.d .nils] (rowsOf eRed []) rfl rfl (vc_ok hT _ _ _ _ (Ev.o ?_)))
 (refine gS ?_;intros)
 refine CallVC.frz [4] (dargs:=[.agg (eWor w),eKes [⟨sc,s,o⟩],.int .i64 t,.int .i64 kn]) ⟨.d,.rows rfl (Nat.le_refl _) (fun i hi=>by rw [show i=0 from Nat.lt_one_iff.1 hi];rfl),.d,.d,True.intro⟩ (hL.at [] rfl True.intro (fun _ _=>⟨rfl,?_⟩))
 (refine gW ?_;intros)
 refine Awp.range (caps:=[.ptr (.loc 6) 0 0 0,.ptr (.loc 7) 0 0 0,.ptr (.loc 5) 0 0 0,.ptr (.loc 8) 0 0 0]) [(12,.ptr (.loc 1) 0 0 0),(14,.ptr (.loc 2) 0 0 0)] (.inl rfl) (nl:=9) (na:=0) ⟨⟨rfl,rfl⟩,⟨rfl,rfl⟩,True.intro⟩ ?_
 intro y rec h1 h2 h3 h4 h5 h6
 obtain ⟨q,hq⟩:∃ q:Ke,(⟨sc,s,o⟩:Ke)=q:=⟨_,rfl⟩
 rw [hq] at hv0 ⊢
 refine (lkdA_ok rec y w hw [q] (show 1≤1000000 by decide) t kn ht ?_).at [.loc 6,.loc 7,.loc 5,.loc 8,.loc 1,.loc 2,.loc 3,.loc 9] rfl ⟨rfl,rfl,rfl,rfl,rfl,rfl,rfl,rfl,True.intro⟩ (fun _ _=>⟨rfl,?_⟩)
 ·intro k hk
  obtain rfl:k=0:=Nat.lt_one_iff.1 hk
  refine yieldMono (yield_rule (N:=40) (ps:=[26,27]) (args:=[.d (.int .i64 (0:Nat)),.d (.agg (eLkd w q t kn))])
   (bs:=[some (.box 105 [.d (eKes [q])]),some (.box 3 [.d (.int .i64 t)]),some (.box 29 (up (eWor w))),some (.box 3 [.d (.int .i64 kn)]),some (.box 3 [.d (.int .i64 0)]),some (.box 35 [.osl (.arg 6) 0 0 0]),some (.vec 107 5 0 0 (rowsOf eRed []))]) (env0:=[(12,.ptr (.arg 4) 0 0 0),(14,.ptr (.arg 5) 0 0 0)])
   (fun _:Unit=>[some (.box 105 [.d (eKes [q])]),some (.box 3 [.d (.int .i64 t)]),some (.box 29 (up (eWor w))),some (.box 3 [.d (.int .i64 kn)]),some (.box 3 [.d (.int .i64 (petV w.fcts q t kn))]),some (.box 35 [.osl (.arg 6) 1 0 1]),some (.vec 107 5 1 1 (rowsOf eRed [rdK q t]))]) (fun _=>none) (fun _=>True) h1 h3 h4 h5 h6 rfl (by simp) ?_ rfl rfl ?_) ?_
  ·repeat' (first | exact True.intro | exact rfl | exact Nat.le_refl _ | refine And.intro ?_ ?_)
   all_goals first
    | (intro j hj;exact ⟨rfl,rfl⟩)
  ·refine Awp.of_vc hT ?_
   (refine gW ?_;intros)
   refine Awp.block (Awp.effsC (m:=⟨[some (.box 109 (up (eLkd w q t kn)))],[some (.box 105 [.d (eKes [q])]),some (.box 3 [.d (.int .i64 t)]),some (.box 29 (up (eWor w))),some (.box 3 [.d (.int .i64 kn)]),some (.box 3 [.d (.int .i64 0)]),some (.box 35 [.osl (.arg 6) 0 0 0]),some (.vec 107 5 0 0 (rowsOf eRed []))]⟩) hT (by kernel_rfl) (by kernel_rfl) (by kernel_rfl)
    ⟨[some (.box 109 (up (eLkd w q t kn))),none],[some (.box 105 [.d (eKes [q])]),some (.box 3 [.d (.int .i64 t)]),some (.box 29 (up (eWor w))),some (.box 3 [.d (.int .i64 kn)]),some (.box 3 [.junk]),some (.box 35 [.osl (.arg 6) 0 0 0]),some .opq]⟩ 1 7
    [⟨6,.osl (.loc 1) 0 0 1,⟨[some (.box 109 (up (eLkd w q t kn))),some (.vec 107 5 0 1 (rowFn [up (eRed (rdK q t))]))],[some (.box 105 [.d (eKes [q])]),some (.box 3 [.d (.int .i64 t)]),some (.box 29 (up (eWor w))),some (.box 3 [.d (.int .i64 kn)]),some (.box 3 [.d (.int .i64 0)]),some (.box 35 [.osl (.arg 6) 0 0 0]),some (.vec 107 5 0 0 (rowsOf eRed []))]⟩,[]⟩,
     ⟨7,.osl (.arg 6) 1 0 1,⟨[some (.box 109 (up (eLkd w q t kn))),some (.vec 107 5 0 1 (rowFn [up (eRed (rdK q t))]))],[some (.box 105 [.d (eKes [q])]),some (.box 3 [.d (.int .i64 t)]),some (.box 29 (up (eWor w))),some (.box 3 [.d (.int .i64 kn)]),some (.box 3 [.d (.int .i64 0)]),some (.box 35 [.osl (.arg 6) 0 0 0]),some (.vec 107 5 1 1 (joinF 0 (rowsOf eRed []) (rowFn [up (eRed (rdK q t))])))]⟩,[6]⟩,
     ⟨8,.junk,⟨[some (.box 109 (up (eLkd w q t kn))),some (.vec 107 5 0 1 (rowFn [up (eRed (rdK q t))]))],[some (.box 105 [.d (eKes [q])]),some (.box 3 [.d (.int .i64 t)]),some (.box 29 (up (eWor w))),some (.box 3 [.d (.int .i64 kn)]),some (.box 3 [.d (.int .i64 (petV w.fcts q t kn))]),some (.box 35 [.osl (.arg 6) 0 0 0]),some (.vec 107 5 1 1 (joinF 0 (rowsOf eRed []) (rowFn [up (eRed (rdK q t))])))]⟩,[7]⟩,
     ⟨9,.junk,⟨[some (.box 109 (up (eLkd w q t kn))),some (.vec 107 5 0 1 (rowFn [up (eRed (rdK q t))]))],[some (.box 105 [.d (eKes [q])]),some (.box 3 [.d (.int .i64 t)]),some (.box 29 (up (eWor w))),some (.box 3 [.d (.int .i64 kn)]),some (.box 3 [.d (.int .i64 (petV w.fcts q t kn))]),some (.box 35 [.osl (.arg 6) 1 0 1]),some (.vec 107 5 1 1 (joinF 0 (rowsOf eRed []) (rowFn [up (eRed (rdK q t))])))]⟩,[8]⟩]
    (by kernel_rfl) rfl rfl (WeakF.of ⟨.inl rfl,True.intro⟩ ⟨.inl rfl,.inl rfl,.inl rfl,.inl rfl,.inr ⟨_,rfl,WeakB.box True.intro⟩,.inl rfl,.inr ⟨_,rfl,WeakB.opq⟩,True.intro⟩) true (fun _=>by kernel_rfl) ⟨WeakF.of ⟨.inl rfl,True.intro⟩ ⟨.inl rfl,.inl rfl,.inl rfl,.inl rfl,.inr ⟨_,rfl,WeakB.box True.intro⟩,.inl rfl,.inr ⟨_,rfl,WeakB.opq⟩,True.intro⟩,WeakF.of ⟨.inl rfl,True.intro⟩ ⟨.inl rfl,.inl rfl,.inl rfl,.inl rfl,.inr ⟨_,rfl,WeakB.box True.intro⟩,.inl rfl,.inr ⟨_,rfl,WeakB.opq⟩,True.intro⟩,WeakF.of ⟨.inl rfl,True.intro⟩ ⟨.inl rfl,.inl rfl,.inl rfl,.inl rfl,.inr ⟨_,rfl,WeakB.box True.intro⟩,.inl rfl,.inr ⟨_,rfl,WeakB.opq⟩,True.intro⟩,.inl rfl⟩ ?_)
   conv=>whnf
   (refine gS ?_;intros)
   refine ⟨?_,?_,?_,?_,?_⟩
   ·conv=>whnf
    (refine gS ?_;intros)
    exact ⟨rfl,rfl⟩
   ·conv=>whnf
    (refine gS ?_;intros)
    exact ⟨rfl,rfl⟩
   ·conv=>whnf
    (refine gS ?_;intros)
    refine ⟨True.intro,?_⟩
    rw [show max (petV w.fcts q t kn) 0=petV w.fcts q t kn by omega]
    rfl
   ·conv=>whnf
    (refine gS ?_;intros)
    exact ⟨True.intro,rfl⟩
   conv=>whnf
   (refine gS ?_;intros)
   refine ⟨(),True.intro,rfl,rfl,?_⟩
   repeat' (first | exact True.intro | exact rfl | exact Nat.le_refl _ | refine And.intro ?_ ?_)
   all_goals first
    | (intro i hi
       have hi:i < 1:=hi
       rw [show i=0 by omega]
       exact ⟨rfl,rfl⟩)
    | (clear h5 h6;trace_state)
  ·rintro A m' ⟨_,_,rfl,rfl⟩
   refine ⟨(),True.intro,rfl,?_⟩
   show (⟨[],[some _,some _,some _,some _,some _,some _,some _,some (.loop y (after rec none) _)]⟩:Mem)=_
   rw [after_none h1 h2]
   rfl
 ·(refine gW ?_;intros)
  refine ⟨none,by rw [after_none h1 h2];rfl,?_⟩
  show Sq _ _
  refine Sq.alt (Awp.le (env':=[(12,.ptr (.loc 1) 0 0 0),(14,.ptr (.loc 2) 0 0 0)]) (m':=⟨[none,some (.box 3 [.d (.int .i64 (petV w.fcts q t kn))]),some (.box 35 [.osl (.loc 3) 1 0 1]),some (.vec 107 5 1 1 (rowsOf eRed [rdK q t]))],[]⟩) ?_
   (Awp.seq (Awp.effs (m:=⟨[none,some (.box 3 [.d (.int .i64 (petV w.fcts q t kn))]),some (.box 35 [.osl (.loc 3) 1 0 1]),some (.vec 107 5 1 1 (rowsOf eRed [rdK q t]))],[]⟩) hT (by kernel_rfl) (by kernel_rfl) (by kernel_rfl)
    ⟨[none,some (.box 3 [.d (.int .i64 (petV w.fcts q t kn))]),some (.box 35 [.osl (.loc 3) 1 0 1]),some (.vec 107 5 1 1 (rowsOf eRed [rdK q t]))],[]⟩
    [⟨4,.junk,⟨[none,some (.box 3 [.d (.int .i64 (petV w.fcts q t kn))]),some (.box 35 [.osl (.loc 3) 1 0 1]),some (.vec 107 5 1 1 (rowsOf eRed [rdK q t]))],[]⟩,[]⟩,⟨5,.d (.bool (decide (0 < petV w.fcts q t kn))),⟨[none,some (.box 3 [.d (.int .i64 (petV w.fcts q t kn))]),some (.box 35 [.osl (.loc 3) 1 0 1]),some (.vec 107 5 1 1 (rowsOf eRed [rdK q t]))],[]⟩,[4]⟩,⟨6,.junk,⟨[none,some (.box 3 [.d (.int .i64 (petV w.fcts q t kn))]),some (.box 35 [.osl (.loc 3) 1 0 1]),some (.vec 107 5 1 1 (rowsOf eRed [rdK q t]))],[]⟩,[5]⟩] (by kernel_rfl) (fun r=>.inl rfl) ⟨fun r=>.inl rfl,fun r=>.inl rfl,fun r=>.inl rfl,True.intro⟩ ?_)))
  ·repeat' (first | exact True.intro | exact rfl | exact Nat.le_refl _ | refine And.intro ?_ ?_)
   all_goals first
    | (intro i hi;exact ⟨rfl,rfl⟩)
    | (clear h5 h6;trace_state)
  conv=>whnf
  (refine gS ?_;intros)
  refine ⟨?_,?_,?_,?_⟩
  ·conv=>whnf
   (refine gS ?_;intros)
   exact ⟨True.intro,rfl⟩
  ·conv=>whnf
   (refine gS ?_;intros)
   exact ⟨rfl,rfl⟩
  ·conv=>whnf
   (refine gS ?_;intros)
   exact ⟨True.intro,rfl⟩
  conv=>whnf
  (refine gW ?_;intros)
  refine Awp.of_vc hT ?_
  (refine gW ?_;intros)
  exact ⟨BecP.d,BecP.d,BecP.rows rfl (Nat.le_refl _) (fun i hi=>by rw [Nat.zero_add];rfl),True.intro⟩
end Go.Proofs.YtkjmomadndmeaaaGreatDoor
/-
  Chapter 27: the holds of a student.
-/
namespace Go.Proofs.YtkjmomadndmeaaaGreatDoor
set_option linter.unusedSimpArgs false
set_option linter.unusedVariables false
open Go Go.Ab
set_option maxRecDepth 100000
set_option maxHeartbeats 0
theorem heldF_le (l:List Fct) (kd s t kn:Int):∀ k,(heldF l kd s t kn k).length≤k
 | 0=>Nat.le_refl _
 | k + 1=>by
   have:=heldF_le l kd s t kn k
   rw [heldF,List.length_append]
   split <;> simp <;> omega
theorem heldR_eq (kd s t:Int):heldR kd s t=rdsK (keysN kd s 8) t (keysN kd s 8).length:=by
 unfold heldR rdsK keysN
 rw [List.take_length,List.map_map]
 rfl
theorem of_ok (w:Wor) (hw:WfW w) (kd s t kn:Int) (ht:In .i64 (t + 1)) :
 Pure Tryz.prog 48 [.agg (eWor w),.int .i64 kd,.int .i64 s,.int .i64 t,.int .i64 kn] [eInts (heldL w.fcts kd s t kn),eReds (heldR kd s t)]:=by
 rw [show heldL w.fcts kd s t kn=heldF w.fcts kd s t kn (keysN kd s 8).length by rw [keysN_len];rfl,heldR_eq]
 refine pure_ruleC hT (T:=tab) (N:=48) (rs:=[.cell 10 30,.cell 11 35]) Tryz.func48 rfl rfl rfl (by kernel_rfl) rfl ?_
 (refine gW ?_;intros)
 refine Awp.vecCell (.loc 1) 0 30 3 1 [.d .nils] (rowsOf eI []) rfl rfl ?_
 refine Awp.vecCell (.loc 2) 0 35 107 5 [.d .nils] (rowsOf eRed []) rfl rfl ?_
 refine Awp.vec 12 72 3 (rowsOf eKe []) rfl ?_
 refine loop_rule hT (S:=Nat) (fun k=>([(1,.d (.int .i64 kd)),(2,.d (.int .i64 s)),(3,.d (.int .i64 t)),(4,.d (.int .i64 kn)),(5,.ptr (.loc 0) 0 0 0),(10,.ptr (.loc 1) 0 0 0),(11,.ptr (.loc 2) 0 0 0),(12,.osl (.loc 5) k 0 (keysN kd s k).length),(16,.d (.int .i64 k))],
  ⟨[some (.box 29 (up (eWor w))),some (.box 30 [.osl (.loc 3) 0 0 0]),some (.box 35 [.osl (.loc 4) 0 0 0]),some (.vec 3 1 0 0 (rowsOf eI [])),some (.vec 107 5 0 0 (rowsOf eRed [])),some (.vec 72 3 k (keysN kd s k).length (rowsOf eKe (keysN kd s k)))],[]⟩)) (fun k=>k≤8) (fun k=>8 - k) 0 ?_ ?_ ?_
 ·repeat' (first | exact True.intro | exact rfl | exact Nat.le_refl _ | refine And.intro ?_ ?_)
  all_goals first
   | (intro j hj;exact ⟨rfl,rfl⟩)
 ·exact Nat.zero_le _
 ·intro k hk
  dsimp only at hk ⊢
  have hkl:=keysN_len kd s k
  by_cases hk2:k < 8
  ·(refine gW ?_;intros)
   refine ⟨k + 1,by show k + 1≤8;omega,by show 8 - (k + 1) < 8 - k;omega,?_⟩
   dsimp only
   rw [keysN_succ]
   repeat' (first | exact True.intro | exact rfl | exact Nat.le_refl _ | refine And.intro ?_ ?_)
   all_goals first
    | (intro j hj;exact ⟨rfl,rfl⟩)
    | (intro j hj
       refine ⟨?_,rfl⟩
       exact join_snoc eKe (keysN kd s k) ⟨kd,s,(k:Int)⟩ _ rfl j hj)
    | (rw [len_snoc];rfl)
    | (rw [len_snoc];exact Nat.le_refl _)
  ·obtain rfl:k=8:=by omega
   have hL:=petlook_ok w (keysN kd s 8) t kn
   have hkl:(keysN kd s 8).length=8:=keysN_len kd s 8
   (refine gW ?_;intros)
   refine CallVC.frz [5] (dargs:=[.agg (eWor w),eKes (keysN kd s 8),.int .i64 t,.int .i64 kn]) ⟨.d,.rows rfl (Nat.le_of_eq (Nat.zero_add _)) (fun i hi=>by rw [Nat.zero_add];rfl),.d,.d,True.intro⟩ (hL.at [] rfl True.intro (fun _ _=>⟨rfl,?_⟩))
   (refine gW ?_;intros)
   refine Awp.range (caps:=[.ptr (.loc 7) 0 0 0,.ptr (.loc 8) 0 0 0,.ptr (.loc 6) 0 0 0,.ptr (.loc 9) 0 0 0]) [(10,.ptr (.loc 1) 0 0 0),(11,.ptr (.loc 2) 0 0 0)] (.inl rfl) (nl:=10) (na:=0) ⟨⟨rfl,rfl⟩,⟨rfl,rfl⟩,True.intro⟩ ?_
   intro y rec h1 h2 h3 h4 h5 h6
   refine (lkdH_ok kd s rec y w hw (keysN kd s 8) (by rw [hkl];decide) t kn ht ?_).at [.loc 7,.loc 8,.loc 6,.loc 9,.loc 1,.loc 3,.loc 2,.loc 4,.loc 10] rfl ⟨rfl,rfl,rfl,rfl,rfl,rfl,rfl,rfl,rfl,True.intro⟩ (fun _ _=>⟨rfl,?_⟩)
   ·intro k hk
    have hk8:k < 8:=by rw [hkl] at hk;exact hk
    have hr:=rdsK_succ t hk
    have hrl:=rdsK_len (keysN kd s 8) t k
    have hh:heldF w.fcts kd s t kn (k + 1)=heldF w.fcts kd s t kn k ++ (if petV w.fcts ⟨kd,s,(k:Int)⟩ t kn=1 then [(k:Int)] else []):=rfl
    have hhl:=heldF_le w.fcts kd s t kn k
    rw [keysN_at kd s hk8] at hr ⊢
    obtain ⟨hs,hhs⟩:∃ hs,heldF w.fcts kd s t kn k=hs:=⟨_,rfl⟩
    obtain ⟨rs,hrs⟩:∃ rs,rdsK (keysN kd s 8) t k=rs:=⟨_,rfl⟩
    rw [hhs] at hh hhl ⊢
    rw [hrs] at hr hrl ⊢
    rw [hr]
    refine yieldMono (yield_rule (N:=48) (ps:=[32,33]) (args:=[.d (.int .i64 k),.d (.agg (eLkd w ⟨kd,s,(k:Int)⟩ t kn))])
     (bs:=[some (.box 105 [.d (eKes (keysN kd s 8))]),some (.box 3 [.d (.int .i64 t)]),some (.box 29 (up (eWor w))),some (.box 3 [.d (.int .i64 kn)]),some (.box 30 [.osl (.arg 5) hs.length 0 hs.length]),some (.vec 3 1 hs.length hs.length (rowsOf eI hs)),some (.box 35 [.osl (.arg 7) k 0 rs.length]),some (.vec 107 5 k rs.length (rowsOf eRed rs))]) (env0:=[(10,.ptr (.arg 4) 0 0 0),(11,.ptr (.arg 6) 0 0 0)])
     (fun _:Unit=>[some (.box 105 [.d (eKes (keysN kd s 8))]),some (.box 3 [.d (.int .i64 t)]),some (.box 29 (up (eWor w))),some (.box 3 [.d (.int .i64 kn)]),some (.box 30 [.osl (.arg 5) (heldF w.fcts kd s t kn (k + 1)).length 0 (heldF w.fcts kd s t kn (k + 1)).length]),some (.vec 3 1 (heldF w.fcts kd s t kn (k + 1)).length (heldF w.fcts kd s t kn (k + 1)).length (rowsOf eI (heldF w.fcts kd s t kn (k + 1)))),some (.box 35 [.osl (.arg 7) (k + 1) 0 (rs ++ [rdK ⟨kd,s,(k:Int)⟩ t]).length]),some (.vec 107 5 (k + 1) (rs ++ [rdK ⟨kd,s,(k:Int)⟩ t]).length (rowsOf eRed (rs ++ [rdK ⟨kd,s,(k:Int)⟩ t])))]) (fun _=>none) (fun _=>True) h1 h3 h4 h5 h6 rfl (by simp) ?_ rfl rfl ?_) ?_
    ·repeat' (first | exact True.intro | exact rfl | exact Nat.le_refl _ | refine And.intro ?_ ?_)
     all_goals first
      | (intro j hj;exact ⟨rfl,rfl⟩)
    ·rw [hh]
     clear h5 h6 hh hr
     refine Awp.of_vc hT ?_
     (refine gW ?_;intros)
     refine Awp.of_vc hT ?_
     by_cases hp:petV w.fcts ⟨kd,s,(k:Int)⟩ t kn=1
     ·rw [if_pos hp]
      (refine gW ?_;intros)
      refine ⟨(),True.intro,rfl,rfl,?_⟩
      dsimp only
      rw [len_snoc,len_snoc]
      repeat' (first | exact True.intro | exact rfl | exact Nat.le_refl _ | refine And.intro ?_ ?_)
      all_goals first
       | (intro j hj;exact ⟨rfl,rfl⟩)
       | (intro j hj
          refine ⟨?_,rfl⟩
          exact join_snoc eRed rs (rdK ⟨kd,s,(k:Int)⟩ t) _ rfl j (by rw [len_snoc];exact hj))
       | (intro j hj
          refine ⟨?_,rfl⟩
          exact join_snoc eI hs (k:Int) _ rfl j (by rw [len_snoc];exact hj))
     ·rw [if_neg hp,List.append_nil]
      (refine gW ?_;intros)
      refine ⟨(),True.intro,rfl,rfl,?_⟩
      dsimp only
      rw [len_snoc]
      repeat' (first | exact True.intro | exact rfl | exact Nat.le_refl _ | refine And.intro ?_ ?_)
      all_goals first
       | (intro j hj;exact ⟨rfl,rfl⟩)
       | (intro j hj
          refine ⟨?_,rfl⟩
          exact join_snoc eRed rs (rdK ⟨kd,s,(k:Int)⟩ t) _ rfl j (by rw [len_snoc];exact hj))
    ·rintro A m' ⟨_,_,rfl,rfl⟩
     refine ⟨(),True.intro,rfl,?_⟩
     show (⟨[],[some _,some _,some _,some _,some _,some _,some _,some _,some (.loop y (after rec none) _)]⟩:Mem)=_
     rw [after_none h1 h2]
   ·clear h5 h6
    generalize heldF w.fcts kd s t kn (keysN kd s 8).length=hs
    generalize rdsK (keysN kd s 8) t (keysN kd s 8).length=rs
    (refine gW ?_;intros)
    refine ⟨none,by rw [after_none h1 h2];rfl,?_⟩
    show Sq _ _
    refine Sq.alt (Awp.le (env':=[(10,.ptr (.loc 1) 0 0 0),(11,.ptr (.loc 2) 0 0 0)]) (m':=⟨[none,some (.box 30 [.osl (.loc 3) hs.length 0 hs.length]),some (.box 35 [.osl (.loc 4) (keysN kd s 8).length 0 rs.length]),some (.vec 3 1 hs.length hs.length (rowsOf eI hs)),some (.vec 107 5 (keysN kd s 8).length rs.length (rowsOf eRed rs))],[]⟩) ?_
     (Awp.seq (Awp.effs (m:=⟨[none,some (.box 30 [.osl (.loc 3) hs.length 0 hs.length]),some (.box 35 [.osl (.loc 4) (keysN kd s 8).length 0 rs.length]),some (.vec 3 1 hs.length hs.length (rowsOf eI hs)),some (.vec 107 5 (keysN kd s 8).length rs.length (rowsOf eRed rs))],[]⟩) hT (by kernel_rfl) (by kernel_rfl) (by kernel_rfl) ⟨[none,some (.box 30 [.osl (.loc 3) hs.length 0 hs.length]),some (.box 35 [.osl (.loc 4) (keysN kd s 8).length 0 rs.length]),some (.vec 3 1 hs.length hs.length (rowsOf eI hs)),some (.vec 107 5 (keysN kd s 8).length rs.length (rowsOf eRed rs))],[]⟩
      [⟨2,.junk,⟨[none,some (.box 30 [.osl (.loc 3) hs.length 0 hs.length]),some (.box 35 [.osl (.loc 4) (keysN kd s 8).length 0 rs.length]),some (.vec 3 1 hs.length hs.length (rowsOf eI hs)),some (.vec 107 5 (keysN kd s 8).length rs.length (rowsOf eRed rs))],[]⟩,[]⟩,⟨3,.junk,⟨[none,some (.box 30 [.osl (.loc 3) hs.length 0 hs.length]),some (.box 35 [.osl (.loc 4) (keysN kd s 8).length 0 rs.length]),some (.vec 3 1 hs.length hs.length (rowsOf eI hs)),some (.vec 107 5 (keysN kd s 8).length rs.length (rowsOf eRed rs))],[]⟩,[2]⟩] (by kernel_rfl) (fun r=>.inl rfl) ⟨fun r=>.inl rfl,fun r=>.inl rfl,True.intro⟩ ?_)))
    ·repeat' (first | exact True.intro | exact rfl | exact Nat.le_refl _ | refine And.intro ?_ ?_)
     all_goals first
      | (intro i hi;exact ⟨rfl,rfl⟩)
    conv=>whnf
    (refine gS ?_;intros)
    refine ⟨?_,?_,?_⟩
    ·conv=>whnf
     (refine gS ?_;intros)
     exact ⟨True.intro,rfl⟩
    ·conv=>whnf
     (refine gS ?_;intros)
     exact ⟨True.intro,rfl⟩
    conv=>whnf
    (refine gW ?_;intros)
    refine Awp.of_vc hT ?_
    (refine gW ?_;intros)
    exact ⟨BecP.rows rfl (Nat.le_of_eq (Nat.zero_add _)) (fun i hi=>by rw [Nat.zero_add];rfl),BecP.rows rfl (Nat.le_of_eq (Nat.zero_add _)) (fun i hi=>by rw [Nat.zero_add];rfl),True.intro⟩
theorem held_ok (w:Wor) (hw:WfW w) (s t kn:Int) (ht:In .i64 (t + 1)) :
 Pure Tryz.prog 17 [.agg (eWor w),.int .i64 s,.int .i64 t,.int .i64 kn] [eInts (heldL w.fcts 6 s t kn),eReds (heldR 6 s t)]:=by
 have hO:=of_ok w hw 6 s t kn ht
 refine pure_rule hT (T:=tab) (N:=17) (rs:=[.tmp 8,.tmp 9]) Tryz.func17 rfl rfl rfl (by kernel_rfl) rfl ?_
 (refine gW ?_;intros)
 refine hO.call ?_
 (refine gW ?_;intros)
 exact ⟨⟨rfl,rfl,fun i hi=>rfl⟩,⟨rfl,rfl,fun i hi=>rfl⟩,True.intro⟩
end Go.Proofs.YtkjmomadndmeaaaGreatDoor
