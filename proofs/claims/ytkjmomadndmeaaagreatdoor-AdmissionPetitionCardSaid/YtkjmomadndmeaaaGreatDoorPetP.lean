import Derived.Test.YtkjmomadndmeaaaGreatDoorWhyP
namespace Go.Proofs.YtkjmomadndmeaaaGreatDoor
set_option linter.unusedSimpArgs false
set_option linter.unusedVariables false
open Go Go.Ab
set_option maxRecDepth 100000
set_option maxHeartbeats 0
structure Like (w x:Wor) (kn:Int):Prop where
 bok:x.bok=w.bok
 best:∀ k t,bestF x.fcts k t kn=bestF w.fcts k t kn
 num:∀ m,numsL x.fcts m=numsL w.fcts m
section
variable {w x:Wor} {kn:Int} (h:Like w x kn)
include h
theorem Like.atVA (k:Ke) (t:Int):atV x.fcts k t kn=atV w.fcts k t kn:=by
 unfold atV
 rw [h.best]
theorem Like.valTA (k:Ke):valT x.fcts k kn=valT w.fcts k kn:=by
 funext t
 unfold valT
 rw [h.best]
theorem Like.pts (k:Ke) (fr til:Int):pointsV x.fcts k fr til kn=pointsV w.fcts k fr til kn:=by
 unfold pointsV
 rw [h.valTA]
theorem Like.numsA:nums x kn=nums w kn:=by
 unfold nums
 rw [h.num,h.atVA]
theorem Like.crs (n t:Int):crsOf x n t kn=crsOf w n t kn:=by
 unfold crsOf
 rw [h.bok,h.atVA]
theorem Like.ofAA (s t:Int):ofA x s t kn=ofA w s t kn:=by
 have h1:∀ n,attN x s t kn n=attN w s t kn n:=fun n=>by
  have h3:attOf x kn n=attOf w kn n:=by
   funext p
   unfold attOf creds
   rw [h.crs]
  unfold attN
  rw [h.pts,h3]
 have h2:∀ n,redN x s t kn n=redN w s t kn n:=fun n=>by
  unfold redN
  rw [h.pts]
 rw [ofA_eq,ofA_eq,h.numsA,flatMap_congr' fun n _=>h1 n,flatMap_congr' fun n _=>h2 n]
theorem Like.recAA (s t:Int):recA x s t kn=recA w s t kn:=by
 unfold recA
 rw [h.ofAA]
theorem Like.eqSA (t a:Int) (z:List Int × List Red) (c:Int):eqS x t kn a z c=eqS w t kn a z c:=by
 unfold eqS
 rw [h.atVA]
theorem Like.iterEA (t:Int) (ns:List Int) (z:List Int × List Red):∀ j,iterE x t kn ns j z=iterE w t kn ns j z
 | 0=>rfl
 | j + 1=>by
   have h1:∀ a,eqS x t kn a=eqS w t kn a:=fun a=>by
    funext z c
    exact h.eqSA t a z c
   rw [iterE_succ,iterE_succ,Like.iterEA t ns z j]
   unfold rndE eqR
   rw [h1]
theorem Like.equal (n t:Int):equalL x n t kn=equalL w n t kn∧equalR x n t kn=equalR w n t kn:=by
 have h1:equalZ x n t kn=equalZ w n t kn:=by
  unfold equalZ
  rw [h.numsA]
  exact h.iterEA t _ _ _
 unfold equalL equalR
 rw [h1]
 exact ⟨rfl,rfl⟩
theorem Like.sit (s t:Int) (nw:List Int):sitV x s t kn nw=sitV w s t kn nw∧sitR x s t kn=sitR w s t kn:=by
 have h1:cntL x s t kn=cntL w s t kn:=by
  have h2:repC x t kn=repC w t kn:=by
   funext c
   unfold repC
   rw [h.crs]
  unfold cntL
  rw [h.recAA,h2]
 have h3:∀ r c,seS x t kn r nw c=seS w t kn r nw c:=fun r c=>by
  unfold seS
  rw [h.numsA,(h.equal c t).1]
 have h4:∀ r k,seenF x t kn r nw k=seenF w t kn r nw k:=fun r k=>by
  induction k with
  | zero=>rfl
  | succ k ih=>rw [seenF,seenF,ih,h3]
 refine ⟨?_,?_⟩
 ·unfold sitV seenL
  rw [h.recAA,h4,h1]
 ·unfold sitR
  rw [h.ofAA,h.recAA,h.numsA,flatMap_congr' fun n _=>(h.equal n t).2]
theorem Like.petVA (k:Ke) (t:Int):petV x.fcts k t kn=petV w.fcts k t kn:=by
 unfold petV
 rw [h.pts]
theorem Like.held (kd s t:Int):heldL x.fcts kd s t kn=heldL w.fcts kd s t kn:=by
 have h1:∀ k,heldF x.fcts kd s t kn k=heldF w.fcts kd s t kn k:=fun k=>by
  induction k with
  | zero=>rfl
  | succ k ih=>rw [heldF,heldF,ih,h.petVA]
 exact h1 8
theorem Like.adm (s c t:Int) (nw:List Int):admV x s c t kn nw=admV w s c t kn nw:=by
 have h1:outB x s c t kn=outB w s c t kn:=by
  unfold outB heldN
  rw [h.held,h.crs]
 have h2:allowV x s c t kn nw=allowV w s c t kn nw:=by
  unfold allowV crsD
  rw [(h.sit s t nw).1,h.crs]
 have h3:petC x s c t kn=petC w s c t kn:=h.petVA _ _
 unfold admV ansV namV admR
 rw [h1,h2,h3,(h.sit s t nw).2]
end
def fitF (f:Fct):Bool:=bw f.kind 1 12 && (bw f.subject 0 20000 && (bw f.object 0 20000 && (bw f.value (-1) 1099511627776 && (decide (0≤f.fr) && (decide (f.fr < f.til) && (decide (f.til≤1024) && (bw f.known 1 16777216 && bw f.no 0 65535)))))))
def lastK (l:List Fct):Int:=if l.length=0 then 7 else (l.getD (l.length - 1) default).known
def srtF (l:List Fct):Prop:=∀ i,i + 1 < l.length→befF (l.getD i default) (l.getD (i + 1) default)=true
theorem srtF_le {l:List Fct} (h:srtF l):∀ j i,i + j < l.length→(l.getD i default).known≤(l.getD (i + j) default).known
 | 0,i,_=>Int.le_refl _
 | j + 1,i,hj=>by
   have h1:=srtF_le h j i (by omega)
   have h2:=h (i + j) (by omega)
   unfold befF at h2
   simp only [Bool.or_eq_true,Bool.and_eq_true,decide_eq_true_iff] at h2
   rw [show i + (j + 1)=i + j + 1 by omega]
   omega
theorem srtF_last {l:List Fct} (h:srtF l) {f:Fct} (hf:f∈l):f.known≤lastK l:=by
 obtain ⟨i,hi,rfl⟩:=List.mem_iff_getElem.1 hf
 have h1:=srtF_le h (l.length - 1 - i) i (by omega)
 rw [show i + (l.length - 1 - i)=l.length - 1 by omega] at h1
 unfold lastK
 rw [if_neg (by omega)]
 have h2:l.getD i default=l[i]:=by simp [hi]
 rw [← h2]
 exact h1
def petF (s c n fr til kn:Int):Fct:=⟨7,s,c,n,fr,til,kn,0⟩
theorem numsL_snoc (l:List Fct) (f:Fct) (hf:f.kind=7) (m:Int):numsL (l ++ [f]) m=numsL l m:=by
 unfold numsL
 rw [List.foldl_append,List.foldl_cons,List.foldl_nil]
 have h:numOk f=false:=by
  unfold numOk
  rw [hf]
  rfl
 unfold numStep
 rw [h]
 split
 ·rfl
 ·rw [if_neg (fun h=>by cases h.1)]
theorem like_pet (w:Wor) (f:Fct) (hf:f.kind=7) {kn:Int} (hk:kn < f.known):Like w ⟨w.bok,w.fcts ++ [f]⟩ kn:=by
 refine ⟨rfl,fun k t=>?_,fun m=>numsL_snoc w.fcts f hf m⟩
 show bestF (w.fcts ++ [f]) k t kn=_
 unfold bestF
 rw [List.filter_append,List.filter_cons]
 have h:hitK k kn f=false:=by
  unfold hitK
  rw [decide_eq_false (show ¬ f.known≤kn by omega),Bool.and_false]
 rw [h]
 simp
theorem pet_new {w:Wor} {s c n fr til t:Int} (h:srtF w.fcts) (hn:1≤n) (ht:fr≤t∧t < til) (ht2:0≤t∧t≤1023) :
 petC ⟨w.bok,w.fcts ++ [petF s c n fr til (lastK w.fcts + 1)]⟩ s c t (lastK w.fcts + 1)=n:=by
 have hb:bestF (w.fcts ++ [petF s c n fr til (lastK w.fcts + 1)]) ⟨7,s,c⟩ t (lastK w.fcts + 1)=some (petF s c n fr til (lastK w.fcts + 1)):=by
  unfold bestF
  have h1:hitK ⟨7,s,c⟩ (lastK w.fcts + 1) (petF s c n fr til (lastK w.fcts + 1))=true:=by
   unfold hitK
   rw [decide_eq_true (show kOf (petF s c n fr til (lastK w.fcts + 1))=⟨7,s,c⟩ from rfl),decide_eq_true (show (petF s c n fr til (lastK w.fcts + 1)).known≤lastK w.fcts + 1 from Int.le_refl _)]
   rfl
  rw [List.filter_append,List.filter_cons,h1,if_pos rfl,List.filter_nil,List.foldl_append,List.foldl_cons,List.foldl_nil]
  have h2:hitT t (petF s c n fr til (lastK w.fcts + 1))=true:=by
   unfold hitT
   rw [decide_eq_true (show (petF s c n fr til (lastK w.fcts + 1)).fr≤t from ht.1),decide_eq_true (show t < (petF s c n fr til (lastK w.fcts + 1)).til from ht.2)]
   rfl
  have key:∀ (xs:List Fct) (b:Option Fct),(∀ f∈xs,f.known≤lastK w.fcts)→(∀ f,b=some f→f.known≤lastK w.fcts)→∀ f,xs.foldl (stepF t) b=some f→f.known≤lastK w.fcts:=by
   intro xs
   induction xs with
   | nil=>exact fun b _ hb f h=>hb f h
   | cons x r ih =>
     intro b hx hb f h
     rw [List.foldl_cons] at h
     refine ih _ (fun f hf=>hx f (by simp [hf])) (fun g hg=>?_) f h
     unfold stepF at hg
     split at hg
     ·cases hg
      exact hx _ (by simp)
     ·exact hb g hg
  have h3:=key (w.fcts.filter (hitK ⟨7,s,c⟩ (lastK w.fcts + 1))) none (fun f hf=>srtF_last h (List.mem_filter.1 hf).1) (fun f h=>by cases h)
  generalize (w.fcts.filter (hitK ⟨7,s,c⟩ (lastK w.fcts + 1))).foldl (stepF t) none=b at h3
  unfold stepF
  rw [h2]
  cases b with
  | none=>rfl
  | some g =>
    have:=h3 g rfl
    have h4:befF (petF s c n fr til (lastK w.fcts + 1)) g=false:=by
     unfold befF
     have e:(petF s c n fr til (lastK w.fcts + 1)).known=lastK w.fcts + 1:=rfl
     rw [e,decide_eq_false (show ¬ lastK w.fcts + 1 < g.known by omega),decide_eq_false (show ¬ lastK w.fcts + 1=g.known by omega)]
     rfl
    show (if (true && (false || !befF _ g))=true then _ else _)=_
    rw [h4]
    rfl
 have hv:valT (w.fcts ++ [petF s c n fr til (lastK w.fcts + 1)]) ⟨7,s,c⟩ (lastK w.fcts + 1) t=n:=by
  unfold valT
  rw [hb]
  show max n (-1)=n
  omega
 unfold petC petV
 show (match pointsV (w.fcts ++ [petF s c n fr til (lastK w.fcts + 1)]) ⟨7,s,c⟩ t (t + 1) (lastK w.fcts + 1) with | []=>0 | p :: _=>p.value)=n
 rw [pointsV_one _ _ ht2,hv,if_pos (by omega)]
end Go.Proofs.YtkjmomadndmeaaaGreatDoor
