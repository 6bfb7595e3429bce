import Derived.Test.YtkjmomadndmeaaaGreatDoorBookP
namespace Go.Proofs.YtkjmomadndmeaaaGreatDoor
set_option linter.unusedSimpArgs false
set_option linter.unusedVariables false
open Go Go.Ab
set_option maxRecDepth 100000
set_option maxHeartbeats 0
theorem srtI_perm (l:List Int):(srtI l).Perm l:=List.mergeSort_perm l _
structure NumI (many:Int)(l:List Int):Prop where
 nd:l.Nodup
 rg:∀x∈l,0<=x/\x<=4095
 ln:(l.length:Int)<=max many 0
theorem NumI.step {many:Int}{l:List Int}{f:Fct}(h:NumI many l):NumI many (numStep many l f):=by
 unfold numStep
 split
 .exact h
 .split
  .rename_i h1 h2
   refine⟨?_,fun x hx=>?_,?_⟩
   .rw[List.nodup_append]
    refine⟨h.nd,by simp,fun x hx y hy=>?_⟩
    simp at hy
    subst hy
    exact fun e=>h2.2 (e▸hx)
   .rcases List.mem_append.1 hx with hx|hx
    .exact h.rg x hx
    .simp at hx
     subst hx
     have:=h2.1
     simp only[numOk,bw,Bool.and_eq_true,decide_eq_true_eq]at this
     exact this.2.2
   .rw[len_snoc]
    omega
  .exact h
theorem NumI.steps {many:Int}:∀(fs:List Fct) {l:List Int},NumI many l->NumI many (fs.foldl (numStep many) l)
 |[],_,h=>h
 |f::r,_,h=>NumI.steps r h.step
theorem numsL_I (fs:List Fct)(many:Int):NumI many (numsL fs many):=NumI.steps fs ⟨List.nodup_nil,fun x hx=>(List.not_mem_nil hx).elim,by show((0:Nat):Int)<=max many 0;omega⟩
theorem nums_I (w:Wor)(kn:Int):NumI (atV w.fcts ⟨12,0,0⟩ 0 kn).1 (nums w kn):=by
 have h:=numsL_I w.fcts (atV w.fcts ⟨12,0,0⟩ 0 kn).1
 have hp:=srtI_perm (numsL w.fcts (atV w.fcts ⟨12,0,0⟩ 0 kn).1)
 exact⟨hp.nodup_iff.2 h.nd,fun x hx=>h.rg x (hp.mem_iff.1 hx),by unfold nums;rw[srtI_len];exact h.ln⟩
section
variable {w:Wor}{t kn:Int}{ns:List Int}
end
theorem equalZ_nd (w:Wor)(n t kn:Int):(equalZ w n t kn).1.Nodup:=by
 unfold equalZ
 exact(EqI.iter (w:=w) (t:=t) (kn:=kn) (EqI.start (nums w kn) n) 200000).nd
structure Poi where
 term:Int
 value:Int
 deriving Inhabited,DecidableEq
def ePoi (p:Poi):List D:=[di p.term,di p.value]
def ePois (xs:List Poi):D:=.sl 2 xs.length fun i=>ePoi (xs.getD i default)
def valB (b:Option Fct):Int:=match b with
 |none=>-1
 |some f=>max f.value (-1)
def valT (l:List Fct)(k:Ke)(kn t:Int):Int:=valB (bestF l k t kn)
theorem atV_val (l:List Fct)(k:Ke)(t kn:Int):atV l k t kn=if 0<=valT l k kn t then(valT l k kn t,true) else(0,false):=by
 unfold atV valT
 cases bestF l k t kn with
 |none=>rfl
 | some f =>
   unfold atO valB
   dsimp only
   by_cases h:f.value<0
   .rw[if_pos h,if_neg Om]
   .rw[if_neg h,if_pos Om,Int.max_eq_left Om]
def ptsU (v:Int->Int)(a:Int):Nat->List Poi
 |0=>[]
 |n+1=>ptsU v a n++(if 0<=v (a+n) then[⟨a+n,v (a+n)⟩] else[])
theorem ptsU_len (v:Int->Int)(a:Int):∀n,(ptsU v a n).length<=n
 |0=>Nat.le_refl _
 | n + 1=>by
   have:=ptsU_len v a n
   rw[ptsU,List.length_append]
   split<;>simp<;>omega
def ptsN (fr til:Int):Nat:=(min til 1024-max 0 fr).toNat
def pointsV (l:List Fct)(k:Ke)(fr til kn:Int):List Poi:=ptsU (valT l k kn) (max 0 fr) (ptsN fr til)
theorem pointsV_len (l:List Fct)(k:Ke)(fr til kn:Int):(pointsV l k fr til kn).length<=1024:=by
 have:=ptsU_len (valT l k kn) (max 0 fr) (ptsN fr til)
 unfold pointsV
 unfold ptsN at *
 omega
structure Att where
 course:Int
 term:Int
 grade:Int
 campus:Int
 credits:Int
 deriving Inhabited,DecidableEq
def eAtt (a:Att):List D:=[di a.course,di a.term,di a.grade,di a.campus,di a.credits]
def eAtts (xs:List Att):D:=.sl 5 xs.length fun i=>eAtt (xs.getD i default)
theorem lookO_mem2 {α:Type}[Inhabited α]{l:List α}{t:Int}{v:Int × Bool}{ok:α->Bool}{x:α}(h:lookO l t v ok=some x):x∈l/\ok x=true:=by
 unfold lookO at h
 split at h
 .rename_i hc
  injection h with h
  rw[<-h]
  exact⟨getD_mem Om,hc.2.2.2.2⟩
 .cases h
structure PtI (v:Int->Int)(lo hi:Int)(l:List Poi):Prop where
 at_:∀p∈l,lo<=p.term/\p.term<hi/\p.value=v p.term/\0<=p.value
 up:l.Pairwise fun a b=>a.term<b.term
theorem ptsU_I (v:Int->Int)(a:Int):∀n:Nat,PtI v a (a+n) (ptsU v a n)
 |0=>⟨fun p h=>(List.not_mem_nil h).elim,List.Pairwise.nil⟩
 | n + 1=>by
   obtain⟨h1,h2⟩:=ptsU_I v a n
   rw[ptsU]
   split
   .rename_i hv
    refine⟨fun p hp=>?_,?_⟩
    .rcases List.mem_append.1 hp with hp|hp
     .have:=h1 p hp
      exact⟨this.1,Om,this.2.2⟩
     .rw[List.mem_singleton]at hp
      subst hp
      exact⟨by show a<=a+n;omega,by show a+(n:Int)<_;omega,rfl,hv⟩
    .rw[List.pairwise_append]
     refine⟨h2,List.pairwise_singleton _ _,fun x hx y hy=>?_⟩
     rw[List.mem_singleton]at hy
     subst hy
     exact(h1 x hx).2.1
   .rw[List.append_nil]
    exact⟨fun p hp=>by have:=h1 p hp;exact⟨this.1,Om,this.2.2⟩,h2⟩
theorem points_I (l:List Fct)(k:Ke)(fr til kn:Int):PtI (valT l k kn) (max 0 fr) (max 0 fr+ptsN fr til) (pointsV l k fr til kn):=ptsU_I _ _ _
theorem points_at {l:List Fct}{k:Ke}{fr til kn:Int}{p:Poi}(h:p∈pointsV l k fr til kn):0<=p.term/\p.term<=1023/\p.value=valT l k kn p.term/\0<=p.value:=by
 have:=(points_I l k fr til kn).at_ p h
 unfold ptsN at this
 exact⟨Om,Om,this.2.2⟩
def gK (s n:Int):Ke:=⟨5,s,n⟩
def creds (w:Wor)(n t kn:Int):Int:=((crsOf w n t kn).getD default).credits
def attOf (w:Wor)(kn n:Int)(p:Poi):Att:=⟨n,p.term,p.value.tmod 16,p.value.tdiv 16,creds w n p.term kn⟩
def skipP (p:Poi):Bool:=decide (12<p.value.tmod 16)||decide (7<=p.value.tdiv 16)
def stpA (w:Wor)(kn n:Int)(z:List Att × List Red)(p:Poi):List Att × List Red:=if skipP p then z else(z.1++[attOf w kn n p],z.2++readsT ⟨1,n,0⟩ p.term)
def rowA (w:Wor)(s t kn:Int)(z:List Att × List Red)(n:Int):List Att × List Red:=(pointsV w.fcts (gK s n) 0 t kn).foldl (stpA w kn n) (z.1,z.2++[⟨5,s,n,0,t⟩])
def ofA (w:Wor)(s t kn:Int):List Att × List Red:=(nums w kn).foldl (rowA w s t kn) ([],[rdK ⟨12,0,0⟩ 0])
def goodP (l:List Poi):List Poi:=l.filter fun p=>!skipP p
theorem stpA_fold (w:Wor)(kn n:Int):∀(l:List Poi) (z:List Att × List Red),l.foldl (stpA w kn n) z=(z.1++(goodP l).map (attOf w kn n),z.2++(goodP l).flatMap fun p=>readsT ⟨1,n,0⟩ p.term)
 |[],z=>by simp[goodP]
 | p :: r,z=>by
   rw[List.foldl_cons,stpA_fold w kn n r]
   unfold stpA goodP
   cases h:skipP p<;>simp[h]
def attN (w:Wor)(s t kn n:Int):List Att:=(goodP (pointsV w.fcts (gK s n) 0 t kn)).map (attOf w kn n)
def redN (w:Wor)(s t kn n:Int):List Red:=⟨5,s,n,0,t⟩::(goodP (pointsV w.fcts (gK s n) 0 t kn)).flatMap fun p=>readsT ⟨1,n,0⟩ p.term
theorem rowA_fold (w:Wor)(s t kn:Int):∀(l:List Int) (z:List Att × List Red),l.foldl (rowA w s t kn) z=(z.1++l.flatMap (attN w s t kn),z.2++l.flatMap (redN w s t kn))
 |[],z=>by simp
 | n :: r,z=>by
   rw[List.foldl_cons,rowA_fold w s t kn r,rowA,stpA_fold]
   simp[attN,redN]
theorem ofA_eq (w:Wor)(s t kn:Int):ofA w s t kn=((nums w kn).flatMap (attN w s t kn),rdK ⟨12,0,0⟩ 0::(nums w kn).flatMap (redN w s t kn)):=by
 unfold ofA
 rw[rowA_fold]
 rfl
structure AttI (w:Wor)(s kn:Int)(a:Att):Prop where
 cr:0<=a.course/\a.course<=4095
 tm:0<=a.term/\a.term<=1023
 gr:0<=a.grade/\a.grade<=12
 ca:0<=a.campus/\a.campus<=6
 cd:0<=a.credits/\a.credits<=60
 num:a.course∈nums w kn
 eq:a=attOf w kn a.course ⟨a.term,valT w.fcts (gK s a.course) kn a.term⟩
theorem creds_in (w:Wor)(n t kn:Int):0<=creds w n t kn/\creds w n t kn<=60:=by
 unfold creds
 cases h:crsOf w n t kn with
 |none=>exact⟨Int.le_refl 0,(by decide:(0:Int)<=60)⟩
 | some c =>
   have:=(lookO_mem2 h).2
   simp only[okCrs,vCrs,bw,Bool.and_eq_true,decide_eq_true_iff]at this
   obtain⟨_,_,h3,_⟩:=this
   show 0<=c.credits/\c.credits<=60
   omega
theorem attN_I {w:Wor}{s t kn n:Int}(hn:n∈nums w kn){a:Att}(h:a∈attN w s t kn n):AttI w s kn a/\a.course=n:=by
 obtain⟨p,hp,rfl⟩:=List.mem_map.1 h
 unfold goodP at hp
 rw[List.mem_filter]at hp
 obtain⟨h1,h2⟩:=hp
 have hq:=points_at h1
 simp only[skipP,Bool.not_eq_true',Bool.or_eq_false_iff,decide_eq_false_iff_not,Int.not_lt,Int.not_le]at h2
 have e1:=Int.tmod_nonneg 16 hq.2.2.2
 have e2:0<=p.value.tdiv 16:=Int.tdiv_nonneg hq.2.2.2 Dc
 have hr:=(nums_I w kn).rg n hn
 refine⟨⟨hr,⟨hq.1,hq.2.1⟩,⟨e1,h2.1⟩,⟨e2,by show p.value.tdiv 16<=6;omega⟩,creds_in _ _ _ _,hn,?_⟩,rfl⟩
 show attOf w kn n p=attOf w kn n ⟨p.term,valT w.fcts (gK s n) kn p.term⟩
 rw[<-hq.2.2.1]
theorem ofA_I {w:Wor}{s t kn:Int}{a:Att}(h:a∈(ofA w s t kn).1):AttI w s kn a:=by
 rw[ofA_eq]at h
 obtain⟨n,hn,ha⟩:=List.mem_flatMap.1 h
 exact(attN_I hn ha).1
theorem attI_key {w:Wor}{s kn:Int}{a b:Att}(ha:AttI w s kn a)(hb:AttI w s kn b)(h1:a.term=b.term)(h2:a.course=b.course):a=b:=by
 rw[ha.eq,hb.eq,h1,h2]
def attC (a b:Att):Int:=if cmpI a.term b.term=0 then cmpI a.course b.course else cmpI a.term b.term
def befA (a b:Att):Bool:=decide (a.term<b.term)||(decide (a.term=b.term)&&decide (a.course<b.course))
theorem cmpI_lt (a b:Int):cmpI a b<0↔a<b:=by
 unfold cmpI
 split
 .simp[*]
 .split<;>simp<;>omega
theorem cmpI_zero (a b:Int):cmpI a b=0↔a=b:=by
 unfold cmpI
 split
 .simp;omega
 .split<;>simp<;>omega
theorem attC_bef (a b:Att):attC a b<0↔befA a b=true:=by
 unfold attC befA
 simp only[Bool.or_eq_true,Bool.and_eq_true,decide_eq_true_iff]
 split
 .rename_i h
  rw[cmpI_zero]at h
  rw[cmpI_lt]
  omega
 .rename_i h
  rw[cmpI_zero]at h
  rw[cmpI_lt]
  omega
theorem befA_iff (a b:Att):befA a b=true↔a.term<b.term\/a.term=b.term/\a.course<b.course:=by
 simp[befA]
def noA (a b:Att):Prop:=¬ befA b a=true
def insA (a:Att):List Att->List Att
 |[]=>[a]
 |x::r=>if befA x a=true then x::insA a r else a::x::r
def srtA (l:List Att):List Att:=l.foldl (fun acc a=>insA a acc) []
theorem insA_perm (a:Att):∀l,(insA a l).Perm (a::l)
 |[]=>List.Perm.refl _
 | x :: r=>by
   unfold insA
   split
   .exact((insA_perm a r).cons x).trans (List.Perm.swap a x r)
   .exact List.Perm.refl _
theorem insA_srt (a:Att):∀{l:List Att},l.Pairwise noA->(insA a l).Pairwise noA
 |[],_=>List.pairwise_singleton _ _
 | x :: r,h=>by
   rw[List.pairwise_cons]at h
   unfold insA
   split
   .rename_i hb
    rw[List.pairwise_cons]
    refine⟨fun y hy=>?_,insA_srt a h.2⟩
    rcases List.mem_cons.1 ((insA_perm a r).mem_iff.1 hy) with rfl|hy
    .unfold noA
     rw[befA_iff]at *
     omega
    .exact h.1 y hy
   .rename_i hb
    rw[List.pairwise_cons]
    refine⟨fun y hy=>?_,List.pairwise_cons.2 h⟩
    rcases List.mem_cons.1 hy with rfl|hy
    .exact hb
    .have:=h.1 y hy
     unfold noA at *
     rw[befA_iff]at *
     omega
theorem srtA_from:∀(l acc:List Att),acc.Pairwise noA->(l.foldl (fun acc a=>insA a acc) acc).Perm (acc++l)/\(l.foldl (fun acc a=>insA a acc) acc).Pairwise noA
 |[],acc,h=>by simpa using h
 | a :: r,acc,h=>by
   rw[List.foldl_cons]
   obtain⟨h1,h2⟩:=srtA_from r (insA a acc) (insA_srt a h)
   refine⟨h1.trans ?_,h2⟩
   refine((insA_perm a acc).append_right r).trans ?_
   exact List.perm_middle.symm
theorem srtA_perm (l:List Att):(srtA l).Perm l:=(srtA_from l [] List.Pairwise.nil).1
theorem srtA_srt (l:List Att):(srtA l).Pairwise noA:=(srtA_from l [] List.Pairwise.nil).2
theorem srtA_len (l:List Att):(srtA l).length=l.length:=(srtA_perm l).length_eq
theorem srtA_uniq {l ts:List Att}(hk:∀a∈l,∀b∈l,a.term=b.term->a.course=b.course->a=b)(hp:ts.Perm l)(hs:ts.Pairwise noA):ts=srtA l:=by
 refine List.Perm.eq_of_pairwise (fun a b ha hb x y=>?_) hs (srtA_srt l) (hp.trans (srtA_perm l).symm)
 have ha:=hp.mem_iff.1 ha
 have hb:=(srtA_perm l).mem_iff.1 hb
 unfold noA at x y
 rw[befA_iff]at x y
 exact hk a ha b hb Om Om
def recA (w:Wor)(s t kn:Int):List Att:=srtA (ofA w s t kn).1
theorem recA_I {w:Wor}{s t kn:Int}{a:Att}(h:a∈recA w s t kn):AttI w s kn a:=ofA_I ((srtA_perm _).mem_iff.1 h)
theorem flat_len {α β:Type}(f:α->List β)(k:Nat):∀l:List α,(∀x∈l,(f x).length<=k)->(l.flatMap f).length<=l.length*k
 |[],_=>by simp
 | x :: r,h=>by
   rw[List.flatMap_cons,List.length_append,List.length_cons,Nat.add_mul,Nat.one_mul]
   have:=flat_len f k r fun y hy=>h y (by simp[hy])
   have:=h x (by simp)
   omega
theorem ofA_len (w:Wor)(s t kn:Int):(ofA w s t kn).1.length<=(nums w kn).length*1024:=by
 rw[ofA_eq]
 refine flat_len _ _ _ fun n _=>?_
 unfold attN goodP
 rw[List.length_map]
 exact Nat.le_trans (List.length_filter_le _ _) (pointsV_len _ _ _ _ _)
theorem recA_len (w:Wor)(s t kn:Int):(recA w s t kn).length<=w.fcts.length*1024:=by
 unfold recA
 rw[srtA_len]
 have:=ofA_len w s t kn
 have:=Nat.mul_le_mul_right 1024 (nums_len w kn)
 omega
def repl (kd:Int)(a b:Att):Bool:=if kd=0 then decide (b.grade<a.grade)||(decide (a.grade=b.grade)&&decide (a.term<b.term)) else decide (b.term<=a.term)
def winS (rp:Int->Int)(l:List Att):Nat->Int->Option Nat
 |0,_=>none
 |k+1,c=>if c=(l.getD k default).course/\rp c≠2/\(winS rp l k c=none\/repl (rp c) (l.getD k default) (l.getD ((winS rp l k c).getD 0) default)=true) then some k else winS rp l k c
def keepP (rp:Int->Int)(l:List Att)(i:Nat):Bool:=match winS rp l l.length (l.getD i default).course with
 |none=>true
 |some j=>decide (j=i)
def pick (l:List Att)(keep:Nat->Bool):List Att:=((List.range l.length).filter keep).map fun i=>l.getD i default
def cntA (rp:Int->Int)(l:List Att):List Att:=pick l (keepP rp l)
theorem pick_mem {l:List Att}{f:Nat->Bool}{a:Att}(h:a∈pick l f):a∈l:=by
 obtain⟨i,hi,rfl⟩:=List.mem_map.1 h
 exact getD_mem (List.mem_range.1 (List.mem_filter.1 hi).1)
theorem pick_len (l:List Att)(f:Nat->Bool):(pick l f).length<=l.length:=by
 unfold pick
 rw[List.length_map]
 exact Nat.le_trans (List.length_filter_le _ _) (by simp)
def pickN (l:List Att)(f:Nat->Bool)(k:Nat):List Att:=((List.range k).filter f).map fun i=>l.getD i default
theorem pickN_succ (l:List Att)(f:Nat->Bool)(k:Nat):pickN l f (k+1)=pickN l f k++(if f k=true then[l.getD k default] else[]):=by
 unfold pickN
 rw[List.range_succ,List.filter_append,List.map_append]
 cases h:f k<;>simp[h]
theorem pickN_len (l:List Att)(f:Nat->Bool)(k:Nat):(pickN l f k).length<=k:=by
 unfold pickN
 rw[List.length_map]
 exact Nat.le_trans (List.length_filter_le _ _) (by simp)
structure Sen where
 course:Int
 tries:Int
 best:Int
 now:Bool
 deriving Inhabited,DecidableEq
def eSen (x:Sen):List D:=[di x.course,di x.tries,di x.best,.bool x.now]
def eSens (xs:List Sen):D:=.sl 4 xs.length fun i=>eSen (xs.getD i default)
structure Sit where
 seen:List Sen
 earned:Int
 mn:Int
 md:Int
def eSit (s:Sit):List D:=[eSens s.seen,di s.earned,di s.mn,di s.md]
def trN (E:List Int)(r:List Att):Nat:=r.countP fun a=>decide (a.course∈E)
def tr1 (c:Int)(r:List Att):Nat:=r.countP fun a=>decide (a.course=c)
def bsF (E:List Int)(r:List Att)(b:Int):Int:=r.foldl (fun m a=>if a.course∈E then max m a.grade else m) b
def bs1 (c:Int)(r:List Att)(b:Int):Int:=r.foldl (fun m a=>if a.course=c then max m a.grade else m) b
theorem trN_snoc {E:List Int}{c:Int}(hc:c ∉ E):∀r:List Att,trN (E++[c]) r=trN E r+tr1 c r
 |[]=>rfl
 | a :: r=>by
   have ih:=trN_snoc hc r
   unfold trN tr1 at *
   rw[List.countP_cons,List.countP_cons,List.countP_cons,ih]
   by_cases h1:a.course∈E
   .have h2:a.course≠c:=fun e=>hc (e▸h1)
    simp[h1,h2];omega
   .by_cases h2:a.course=c
    .simp[hc,h2];omega
    .simp[h1,h2]
theorem bsF_snoc {E:List Int}{c:Int}(hc:c ∉ E):∀(r:List Att) (b b':Int),bsF (E++[c]) r (max b b')=max (bsF E r b) (bs1 c r b')
 |[],_,_=>rfl
 | a :: r,b,b'=>by
   unfold bsF bs1
   rw[List.foldl_cons,List.foldl_cons,List.foldl_cons]
   by_cases h1:a.course∈E
   .have h2:a.course≠c:=fun e=>hc (e▸h1)
    rw[if_pos (by simp[h1]),if_pos h1,if_neg h2]
    have:=bsF_snoc hc r (max b a.grade) b'
    rw[show max (max b b') a.grade=max (max b a.grade) b' by omega]
    exact this
   .by_cases h2:a.course=c
    .rw[if_pos (by simp[h2]),if_neg h1,if_pos h2]
     have:=bsF_snoc hc r b (max b' a.grade)
     rw[show max (max b b') a.grade=max b (max b' a.grade) by omega]
     exact this
    .rw[if_neg (by simp[h1,h2]),if_neg h1,if_neg h2]
     exact bsF_snoc hc r b b'
theorem bs1_none {c:Int}:∀(r:List Att) (b:Int),tr1 c r=0->bs1 c r b=b
 |[],_,_=>rfl
 | a :: r,b,h=>by
   unfold tr1 at h
   rw[List.countP_cons]at h
   have h2:a.course≠c:=fun e=>by rw[if_pos (decide_eq_true e)]at h;omega
   unfold bs1
   rw[List.foldl_cons,if_neg h2]
   exact bs1_none r b (by unfold tr1;omega)
theorem bs1_some {c:Int}:∀(r:List Att),(∀a∈r,0<=a.grade)->0<tr1 c r->bs1 c r (-1)=bs1 c r 0
 |[],_,h=>absurd h (Nat.lt_irrefl 0)
 | a :: r,hg,h=>by
   unfold tr1 at h
   rw[List.countP_cons]at h
   unfold bs1
   rw[List.foldl_cons,List.foldl_cons]
   have h0:=hg a (by simp)
   by_cases h2:a.course=c
   .rw[if_pos h2,if_pos h2,show max (-1) a.grade=max 0 a.grade by omega]
   .rw[if_neg h2,if_neg h2]
    rw[if_neg (by simpa using h2)]at h
    exact bs1_some r (fun a ha=>hg a (by simp[ha])) (by unfold tr1;omega)
theorem bsF_ge (E:List Int):∀(r:List Att) (b:Int),b<=bsF E r b
 |[],b=>Int.le_refl b
 | a :: r,b=>by
   unfold bsF
   rw[List.foldl_cons]
   split
   .exact Int.le_trans Om (bsF_ge E r (max b a.grade))
   .exact bsF_ge E r b
theorem bsF_le (E:List Int):∀(r:List Att) (b:Int),b<=12->(∀a∈r,a.grade<=12)->bsF E r b<=12
 |[],b,h,_=>h
 | a :: r,b,h,hg=>by
   unfold bsF
   rw[List.foldl_cons]
   have:=hg a (by simp)
   split
   .exact bsF_le E r (max b a.grade) Om (fun a ha=>hg a (by simp[ha]))
   .exact bsF_le E r b h (fun a ha=>hg a (by simp[ha]))
theorem bsF_pos (E:List Int):∀(r:List Att) (b:Int),(∀a∈r,0<=a.grade)->0<trN E r->0<=bsF E r b
 |[],b,_,h=>absurd h (Nat.lt_irrefl 0)
 | a :: r,b,hg,h=>by
   unfold trN at h
   rw[List.countP_cons]at h
   have h0:=hg a (by simp)
   unfold bsF
   rw[List.foldl_cons]
   split
   .exact Int.le_trans Om (bsF_ge E r (max b a.grade))
   .rename_i hn
    rw[if_neg (by simpa using hn)]at h
    exact bsF_pos E r b (fun a ha=>hg a (by simp[ha])) (by unfold trN;omega)
theorem bsF_none (E:List Int):∀(r:List Att) (b:Int),trN E r=0->bsF E r b=b
 |[],b,_=>rfl
 | a :: r,b,h=>by
   unfold trN at h
   rw[List.countP_cons]at h
   have h2:a.course ∉ E:=fun e=>by rw[if_pos (decide_eq_true e)]at h;omega
   unfold bsF
   rw[List.foldl_cons,if_neg h2]
   exact bsF_none E r b (by unfold trN;omega)
def senZ (E:List Int)(r:List Att):Int × Int:=(min (trN E r:Int) 100,bsF E r (-1))
def stpE (r:List Att)(z:Int × Int)(c:Int):Int × Int:=if 0<tr1 c r then(min (z.1+(tr1 c r:Int)) 100,max z.2 (bs1 c r 0)) else z
theorem stpE_snoc {E:List Int}{c:Int}(hc:c ∉ E)(r:List Att)(hg:∀a∈r,0<=a.grade):stpE r (senZ E r) c=senZ (E++[c]) r:=by
 have h1:=trN_snoc hc r
 have h2:=bsF_snoc hc r (-1) (-1)
 have h3:=bsF_ge E r (-1)
 rw[show max (-1:Int) (-1)=-1 from rfl]at h2
 unfold stpE senZ
 rw[h1,h2]
 by_cases h:0<tr1 c r
 .rw[if_pos h,bs1_some r hg h]
  exact Prod.ext (by show min (min (trN E r:Int) 100+(tr1 c r:Int)) 100=min ((trN E r+tr1 c r:Nat):Int) 100;omega) rfl
 .rw[if_neg h,bs1_none r (-1) Om]
  exact Prod.ext (by show min (trN E r:Int) 100=min ((trN E r+tr1 c r:Nat):Int) 100;omega) (by show bsF E r (-1)=max (bsF E r (-1)) (-1);omega)
theorem trN_nil (r:List Att):trN [] r=0:=by
 unfold trN
 rw[List.countP_eq_zero]
 simp
theorem senZ_nil (r:List Att):senZ [] r=(0,-1):=by
 unfold senZ
 rw[bsF_none [] r (-1) (trN_nil r),trN_nil]
 rfl
theorem stpE_all {r:List Att}(hg:∀a∈r,0<=a.grade):∀(F E:List Int),(E++F).Nodup->F.foldl (stpE r) (senZ E r)=senZ (E++F) r
 |[],E,_=>by simp
 | c :: F,E,h=>by
   have hc:c ∉ E:=fun he=>by
    rw[List.nodup_append]at h
    exact h.2.2 c he c (by simp) rfl
   rw[List.foldl_cons,stpE_snoc hc r hg,stpE_all hg F (E++[c]) (by simpa using h)]
   simp
def seS (w:Wor)(t kn:Int)(r:List Att)(nw:List Int)(c:Int):Sen :=
 if c∈nums w kn then⟨c,(senZ (equalL w c t kn) r).1,(senZ (equalL w c t kn) r).2,decide (c∈nw)⟩ else⟨c,0,-1,decide (c∈nw)⟩
def okS (x:Sen):Bool:=decide (0<x.tries)||x.now
def seenF (w:Wor)(t kn:Int)(r:List Att)(nw:List Int):Nat->List Sen
 |0=>[]
 |k+1=>seenF w t kn r nw k++(if okS (seS w t kn r nw k)=true then[seS w t kn r nw k] else[])
def seenL (w:Wor)(t kn:Int)(r:List Att)(nw:List Int):List Sen:=seenF w t kn r nw 4096
theorem seS_course (w:Wor)(t kn:Int)(r:List Att)(nw:List Int)(c:Int):(seS w t kn r nw c).course=c:=by
 unfold seS
 split<;>rfl
theorem seS_now (w:Wor)(t kn:Int)(r:List Att)(nw:List Int)(c:Int):(seS w t kn r nw c).now=decide (c∈nw):=by
 unfold seS
 split<;>rfl
theorem seenF_mem {w:Wor}{t kn:Int}{r:List Att}{nw:List Int}{x:Sen}:∀{k:Nat},x∈seenF w t kn r nw k↔(0<=x.course/\x.course<k)/\x=seS w t kn r nw x.course/\okS x=true
 | 0=>by
   simp only[seenF,List.not_mem_nil,false_iff]
   rintro⟨h,_⟩
   omega
 | k + 1=>by
   rw[seenF,List.mem_append,seenF_mem]
   constructor
   .rintro(⟨h1,h2⟩|h)
    .exact⟨Om,h2⟩
    .split at h
     .rename_i ho
      rw[List.mem_singleton]at h
      subst h
      rw[seS_course]
      exact⟨Om,rfl,ho⟩
     .cases h
   .rintro⟨h1,h2,h3⟩
    by_cases hk:x.course=k
    .right
     rw[hk]at h2
     rw[if_pos (by rw[<-h2];exact h3),List.mem_singleton]
     exact h2
    .exact .inl ⟨Om,h2,h3⟩
theorem seenF_lt (w:Wor)(t kn:Int)(r:List Att)(nw:List Int):∀k:Nat,(seenF w t kn r nw k).Pairwise fun a b=>a.course<b.course
 |0=>List.Pairwise.nil
 | k + 1=>by
   rw[seenF,List.pairwise_append]
   refine⟨seenF_lt w t kn r nw k,by split<;>simp,fun a ha b hb=>?_⟩
   have:=(seenF_mem.1 ha).1
   split at hb
   .rw[List.mem_singleton]at hb
    subst hb
    rw[seS_course]
    exact this.2
   .cases hb
theorem seenF_len (w:Wor)(t kn:Int)(r:List Att)(nw:List Int):∀k:Nat,(seenF w t kn r nw k).length<=k
 |0=>Nat.le_refl _
 | k + 1=>by
   have:=seenF_len w t kn r nw k
   rw[seenF,List.length_append]
   split<;>simp<;>omega
theorem seen_uniq {w:Wor}{t kn:Int}{r:List Att}{nw:List Int}{ts:List Sen}(hs:ts.Pairwise fun a b=>¬ b.course<a.course)(hn:ts.Nodup)(hm:∀x,x∈ts↔x∈seenL w t kn r nw):ts=seenL w t kn r nw:=by
 have hlt:=seenF_lt w t kn r nw 4096
 have hn2:(seenL w t kn r nw).Nodup:=hlt.imp fun{a b} h e=>by rw[e]at h;omega
 refine List.Perm.eq_of_pairwise (le:=fun a b:Sen=>¬ b.course<a.course) (fun a b ha hb x y=>?_) hs (hlt.imp fun{a b} h=>by omega) ((List.perm_ext_iff_of_nodup hn hn2).2 hm)
 have h1:=(seenF_mem.1 ((hm a).1 ha)).2.1
 have h2:=(seenF_mem.1 hb).2.1
 rw[h1,h2,show a.course=b.course by omega]
def earnF (l:List Att)(k:Nat):Int:=(l.take k).foldl (fun n a=>if 0<a.grade then n+a.credits else n) 0
def credF (l:List Att)(k:Nat):Int:=(l.take k).foldl (fun n a=>n+a.credits) 0
def poinF (l:List Att)(k:Nat):Int:=(l.take k).foldl (fun n a=>n+a.grade*a.credits) 0
theorem foldl_take_succ {β:Type}(f:β->Att->β)(b:β){l:List Att}{k:Nat}(h:k<l.length):(l.take (k+1)).foldl f b=f ((l.take k).foldl f b) (l.getD k default):=by
 rw[take_succ_at h,List.foldl_append]
 rfl
def fitA (a:Att):Prop:=(0<=a.course/\a.course<=4095)/\(0<=a.term/\a.term<=1023)/\(0<=a.grade/\a.grade<=12)/\(0<=a.campus/\a.campus<=6)/\0<=a.credits/\a.credits<=60
theorem sums_in {l:List Att}(hf:∀a∈l,fitA a):∀k,k<=l.length->(0<=earnF l k/\earnF l k<=60*k)/\(0<=credF l k/\credF l k<=60*k)/\0<=poinF l k/\poinF l k<=12*credF l k
 | 0,_=>by
   have h:∀{β:Type} (f:β->Att->β) (b:β),(l.take 0).foldl f b=b:=fun f b=>by simp
   unfold earnF credF poinF
   rw[h,h,h]
   omega
 | k + 1,hk=>by
   obtain⟨h1,h2,h3⟩:=sums_in hf k Om
   obtain⟨_,_,g3,_,g5⟩:=hf _ (getD_mem (show k<l.length by omega))
   unfold earnF credF poinF at *
   rw[foldl_take_succ _ _ Om,foldl_take_succ _ _ Om,foldl_take_succ _ _ Om]
   generalize (l.getD k default).grade=g at g3⊢
   generalize (l.getD k default).credits=c at g5⊢
   have m1:0<=g*c:=Int.mul_nonneg g3.1 g5.1
   have m2:g*c<=12*c:=Int.mul_le_mul_of_nonneg_right g3.2 g5.1
   refine⟨?_,?_,?_,?_⟩
   .split<;>omega
   .omega
   .omega
   .omega
def meanZ (l:List Att):Int × Int :=
 if credF l l.length=0 then(0,1) else(poinF l l.length / (Nat.gcd (poinF l l.length).natAbs (credF l l.length).natAbs:Nat),credF l l.length / (Nat.gcd (poinF l l.length).natAbs (credF l l.length).natAbs:Nat))
def repC (w:Wor)(t kn:Int)(c:Int):Int:=((crsOf w c t kn).getD default).rep
def cntL (w:Wor)(s t kn:Int):List Att:=cntA (repC w t kn) (recA w s t kn)
def sitV (w:Wor)(s t kn:Int)(nw:List Int):Sit :=
 ⟨seenL w t kn (recA w s t kn) nw,min (earnF (cntL w s t kn) (cntL w s t kn).length) 10000,(meanZ (cntL w s t kn)).1,(meanZ (cntL w s t kn)).2⟩
def sitR (w:Wor)(s t kn:Int):List Red :=
 (ofA w s t kn).2++(recA w s t kn).flatMap (fun a=>readsT ⟨1,a.course,0⟩ t)++rdK ⟨12,0,0⟩ 0::(nums w kn).flatMap fun n=>equalR w n t kn
def nowB:Int->List Int->Bool
 |_,[]=>true
 |last,c::r=>decide (last<c)&&(decide (c<=4095)&&nowB c r)
end Go.Proofs.YtkjmomadndmeaaaGreatDoor
