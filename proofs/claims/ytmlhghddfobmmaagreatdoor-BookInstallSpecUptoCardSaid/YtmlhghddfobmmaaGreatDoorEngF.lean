import Derived.Test.YtmlhghddfobmmaaGreatDoorEngD
import Derived.Laws.Tables
import Derived.Laws.StructEq
import Derived.Laws.Strings
namespace Go.Ab
set_option linter.unusedSimpArgs false
set_option linter.unusedVariables false
def oneOf (m:Mem):AV->Option (List Prop)
 | .d x=>bif x.one then some [] else none
 | .ptr r g i _=>M0 m r g i
 | .osl r g _ _=>match m.get r with
  |some (.vec _ _ g' _ _)=>some [g'=g]
  |_=>none
 | .ifc _ _=>some []
 | .fn _ _ _=>some []
 | .mp r=>match m.get r with
  |some (.map _ _ _)=>some []
  |_=>none
 |_=>none
def Ru (m:Mem):List AV->Option (List Prop)
 |[]=>some []
 | x :: r=>match oneOf m x with
  |none=>none
  |some p=>match Ru m r with
   |none=>none
   |some q=>some (cat p q)
def cellsOf (m:Mem)(A:AV):Option (List AV × List Prop) :=
 match A with
 | .agg cs=>match Ru m cs with
  |some p=>some (cs,p)
  |none=>none
 | .d (.agg cs)=>match Ru m (up cs) with
  |some p=>some (up cs,p)
  |none=>none
 |A=>match oneOf m A with
  |some p=>some ([A],p)
  |none=>none
def splice:List AV->Nat->List AV->List AV
 |[],_,_=>[]
 |c::r,0,xs=>match xs with
  |[]=>c::r
  |x::xs=>x::splice r 0 xs
 |c::r,o+1,xs=>c::splice r o xs
def count:List AV->Nat
 |[]=>0
 |_::r=>count r+1
def Ak (T:Tab)(t:TypeId):Option Nat :=
 match T.at t with
 |some ti=>some ti.size
 |none=>none
def Hu (T:Tab) (m:Mem) (t:TypeId):List (Nat × AV)→List AV→List Prop→Option (List AV × List Prop)
 |[],cs,p=>some (cs,p)
 | (i,A) :: r,cs,p=>match Rm T t i with
  |none=>none
  | some (o,u)=>match Ak T u with
   |none=>none
   |some sz=>match cellsOf m A with
    |none=>none
    |some (new,q)=>bif Nat.beq (count new) sz&&Nat.ble (o+sz) (count cs) then Hu T m t r (splice cs o new) (cat q p) else none
def Sf (cs:List AV):AV :=
 match Wh cs with
 |some l=>.d (.agg l)
 |none=>.agg cs
def Tm (T:Tab) (m:Mem) (t:TypeId) (parts:List (Nat × AV)):Option (AV × List Prop) :=
 match T.at t with
 |none=>none
 | some ti=>match ti.k with
  | .st _=>match Hu T m t parts (up ti.zero) [] with
   |some (cs,p)=>some (Sf cs,p)
   |none=>none
  | .arr _ e=>match parts with
   |[]=>match T.at e with
    |some _=>some (.d (.agg ti.zero),[])
    |none=>none
   |_::_=>none
  |_=>none
section sound
variable {P:Program}{T:Tab}{w:World}{F:Nat->Prop}{σ:Pls}{m:Mem}
theorem Rd.one_ok {x:D}{v:Value}(h:Rd w F x v)(h1:x.one=true):v.oneCell'=true:=by
 cases h<;>first|rfl|(simp[D.one]at h1)
theorem Q2o (hm:Q3 m σ F w){A:AV}{v:Value}{p:List Prop}(h:Vc w F σ A v)(ho:oneOf m A=some p)(hp:∀q∈p,q):v.oneCell'=true:=by
 unfold oneOf at ho
 split at ho<;>try (cases ho;done)
 .rename_i x
  cases h1:x.one with
  |false=>rw[h1]at ho;cases ho
  |true=>cases h with|d h=>exact h.one_ok h1
 .obtain⟨pl,b,tot,_,_,_,rfl⟩:=E2 hm h ho hp
  rfl
 .split at ho<;>try (cases ho;done)
  rename_i hB
  injection ho with ho
  subst ho
  obtain⟨pl,hr,hok,_,hat⟩:=Uz hm h (Mem.get_at hB)
  have:=hat (hok.1.trans (hp _ (by simp)))
  unfold Yn at this
  split at this
  .obtain⟨_,_,rfl⟩:=this;rfl
  .obtain⟨_,_,rfl,_⟩:=this;rfl
 .cases h;rfl
 .cases h;rfl
 .split at ho<;>try (cases ho;done)
  rename_i r _ _ _ _ hB
  cases h with
  | @mp _ _ q hr h =>
   cases q with
   |none=>have:=(hm.lv r _ hr).1 rfl;rw[Mem.get_at hB]at this;cases this
   |some pl =>
    obtain⟨B',hB',hok⟩:=(hm.lv r _ hr).2 pl rfl
    rw[Mem.get_at hB]at hB'
    injection hB' with hB'
    injection hB' with hB'
    subst hB'
    obtain⟨b',t,_,rfl⟩:=h pl rfl hok.1
    rfl
theorem Me (hm:Q3 m σ F w):∀{cs:List AV} {us:List Value} {p:List Prop},us.length=cs.length->(∀(j:Nat) A u,cs[j]?=some A->us[j]?=some u->Vc w F σ A u)->Ru m cs=some p->(∀q∈p,q) ->
  ∀(j:Nat) u,us[j]?=some u->u.oneCell'=true
 |[],us,p,hl,_,_,_=>fun j u hu=>by
  have:us=[]:=Qi4 (by simpa using hl)
  subst this
  simp at hu
 | x :: r,us,p,hl,h,ho,hp=>fun j u hu=>by
  match us,hl with
  | v :: vs,hl =>
   simp only[Ru]at ho
   split at ho<;>try (cases ho;done)
   rename_i p1 h1
   split at ho<;>try (cases ho;done)
   rename_i p2 h2
   injection ho with ho
   subst ho
   obtain⟨q1,q2⟩:=Ji hp
   cases j with
   |zero =>
    simp at hu
    subst hu
    exact Q2o hm (h 0 x v rfl rfl) h1 q1
   |succ j=>exact Me hm (cs:=r) (us:=vs) (by simpa using hl) (fun j A u hA hu=>h (j+1) A u (by simpa using hA) (by simpa using hu)) h2 q2 j u (by simpa using hu)
theorem Q6s {v:Value}(h:v.oneCell'=true):v.cells=#[v]:=by cases v<;>first|rfl|simp[Value.oneCell']at h
theorem Pe (hm:Q3 m σ F w){A:AV}{v:Value}{cs:List AV}{p:List Prop}(h:Vc w F σ A v)(hc:cellsOf m A=some (cs,p))(hp:∀q∈p,q) :
  ∃us:List Value,v.cells=us.toArray/\us.length=cs.length/\∀(j:Nat) A u,cs[j]?=some A->us[j]?=some u->Vc w F σ A u/\u.oneCell'=true:=by
 unfold cellsOf at hc
 split at hc
 .split at hc<;>try (cases hc;done)
  rename_i cs' p' ho
  simp only[Qgz,Qh6]at hc
  obtain⟨rfl,rfl⟩:=hc
  cases h with
  |agg hl h=>exact⟨_,rfl,hl,fun j A u hA hu=>⟨h j A u hA hu,Me hm hl h ho hp j u hu⟩⟩
 .rename_i cs'
  split at hc<;>try (cases hc;done)
  rename_i ho
  simp only[Qgz,Qh6]at hc
  obtain⟨rfl,rfl⟩:=hc
  cases h with
  | d h=>cases h with
   | @agg _ us hl h =>
    have hl':us.length=(up cs').length:=by rw[Zb,Qhb];exact hl
    have h':∀(j:Nat) A u,(up cs')[j]?=some A->us[j]?=some u->Vc w F σ A u:=fun j A u hA hu=>by
     obtain⟨x,hx,rfl⟩:=Ue hA
     exact .d (h j x u hx hu)
    exact⟨_,rfl,hl',fun j A u hA hu=>⟨h' j A u hA hu,Me hm hl' h' ho hp j u hu⟩⟩
 .split at hc<;>try (cases hc;done)
  rename_i ho
  simp only[Qgz,Qh6]at hc
  obtain⟨rfl,rfl⟩:=hc
  have h1:=Q2o hm h ho hp
  refine⟨[v],Q6s h1,rfl,fun j A u hA hu=>?_⟩
  cases j with
  |zero=>simp at hA hu;subst hA;subst hu;exact⟨h,h1⟩
  |succ j=>simp at hA
theorem count_eq:∀l:List AV,count l=l.length
 |[]=>rfl
 |_::r=>by simp[count,count_eq r]
theorem Mo:∀(cs:List AV) (o:Nat) (xs:List AV),(splice cs o xs).length=cs.length
 |[],_,_=>rfl
 |c::r,0,[]=>rfl
 |c::r,0,x::xs=>by simp[splice,Mo r 0 xs]
 |c::r,o+1,xs=>by simp[splice,Mo r o xs]
theorem C5:∀(cs:List AV) (o:Nat) (xs:List AV) (j:Nat),o+xs.length<=cs.length ->
  (splice cs o xs)[j]?=if o<=j/\j<o+xs.length then xs[j-o]? else cs[j]?
 |[],o,xs,j,h=>by
  have:xs=[]:=Qi4 (by have h':o+xs.length<=0:=h;omega)
  subst this
  rw[if_neg (by rw[Qig];omega)]
  rfl
 |c::r,0,[],j,_=>by
  rw[if_neg (by simp)]
  rfl
 | c :: r,0,x :: xs,j,h=>by
  cases j with
  |zero=>simp[splice]
  |succ j =>
   have:=C5 r 0 xs j (by simp at h⊢;omega)
   simp[splice,this]
 | c :: r,o + 1,xs,j,h=>by
  cases j with
  |zero=>simp[splice]
  |succ j =>
   have:=C5 r o xs j (by simp at h⊢;omega)
   simp only[splice,List.getElem?_cons_succ,this]
   have e:j+1-(o+1)=j-o:=by omega
   simp only[e]
   by_cases h1:o<=j/\j<o+xs.length
   .rw[if_pos h1,if_pos Om]
   .rw[if_neg h1,if_neg Om]
def Y6 (w:World)(F:Nat->Prop)(σ:Pls)(cs:List AV)(us:List Value):Prop :=
 us.length=cs.length/\∀(j:Nat) A u,cs[j]?=some A->us[j]?=some u->Vc w F σ A u/\u.oneCell'=true
theorem Y6.splice {cs:List AV}{us:List Value}{new:List AV}{vs:List Value}{o:Nat}(h:Y6 w F σ cs us)(h':Y6 w F σ new vs)(ho:o+new.length<=cs.length) :
  Y6 w F σ (splice cs o new) (us.take o++vs++us.drop (o+vs.length)):=by
 obtain⟨h1,h2⟩:=h
 obtain⟨h3,h4⟩:=h'
 refine⟨by rw[Mo];simp;omega,fun j A u hA hu=>?_⟩
 rw[C5 _ _ _ _ ho]at hA
 by_cases hj:o<=j/\j<o+new.length
 .rw[if_pos hj]at hA
  refine h4 (j-o) A u hA ?_
  rw[Qhj (by simp;omega),Qhu (by simp;omega)]at hu
  simpa[Nat.min_eq_left (show o<=us.length by omega)] using hu
 .rw[if_neg hj]at hA
  refine h2 j A u hA ?_
  by_cases hjo:j<o
  .rw[Qhj (by simp;omega),Qhj (by simp;omega)]at hu
   simpa[hjo] using hu
  .rw[Qhu (by simp;omega)]at hu
   simp only[Qhc,Qhr,Nat.min_eq_left (show o<=us.length by omega),Qij]at hu
   have e:o+vs.length+(j-(o+vs.length))=j:=by omega
   rwa [e]at hu
theorem Q9j (vs:List Value)(o:Nat):∀(k:Nat) (cells:Array Value),o+k+vs.length<=cells.size ->
  (vs.zipIdx k).foldl (fun cs (c:Value × Nat)=>cs.setIfInBounds (o+c.2) c.1) cells=(cells.toList.take (o+k)++vs++cells.toList.drop (o+k+vs.length)).toArray:=by
 induction vs with
 |nil=>intro k cells _;simp
 | cons v r ih =>
  intro k cells h
  simp only[Qhs]at h
  simp only[List.zipIdx_cons,List.foldl_cons]
  rw[ih (k+1) _ (by simp;omega)]
  congr 1
  have hlen:cells.toList.length=cells.size:=by simp
  have hL:(cells.setIfInBounds (o+k) v).toList=cells.toList.take (o+k)++v::cells.toList.drop (o+k+1):=by
   rw[Qhi,List.set_eq_take_append_cons_drop,if_pos Om]
  have hA:(cells.toList.take (o+k)).length=o+k:=by rw[Qhr];omega
  rw[hL]
  generalize cells.toList.take (o+k)=A at hA⊢
  have h1:A.take (o+(k+1))=A:=Qhn Om
  have h2:A.drop (o+(k+1)+r.length)=[]:=Qib Om
  rw[List.take_append,List.drop_append,h1,h2,hA]
  have e1:o+(k+1)-(o+k)=1:=by omega
  have e2:o+(k+1)+r.length-(o+k)=r.length+1:=by omega
  have e3:o+k+1+r.length=o+k+(r.length+1):=by omega
  rw[e1,e2]
  simp[List.drop_drop,e3]
end sound
def S9 (T:Tab) (m:Mem) (t:TypeId) (A:AV) (lo hi:Option AV):Option (AV × List Prop) :=
 match elemOf T t with
 |none=>none
 | some (_,sz)=>match A with
  | .d (.sl sz' n f)=>bif Nat.beq sz' sz then
    match lo with
    |none=>match hi with
     |none=>some (.d (.sl sz' n f),[])
     |some (.d (.int _ h))=>some (.d (.sl sz' h.toNat f),[0<=h,h<=n])
     |_=>none
    |some (.d (.int _ l))=>match hi with
     |none=>some (.d (.sl sz' (n-l.toNat) fun i=>f (l.toNat+i)),[0<=l,l<=n])
     |some (.d (.int _ h))=>some (.d (.sl sz' (h.toNat-l.toNat) fun i=>f (l.toNat+i)),[0<=l,l<=h,h<=n])
     |_=>none
    |_=>none
   else none
  | .d .nils=>match lo with
   |none=>match hi with
    |none=>some (.d .nils,[])
    |some (.d (.int _ h))=>some (.d .nils,[h=0])
    |_=>none
   |some (.d (.int _ l))=>match hi with
    |none=>some (.d .nils,[l=0])
    |some (.d (.int _ h))=>some (.d .nils,[l=0,h=0])
    |_=>none
   |_=>none
  | .osl r g off n=>match m.get r with
   | some (.vec _ sz' g' _ _)=>bif Nat.beq sz' sz then
     match lo with
     |none=>match hi with
      |none=>some (.osl r g off n,[g'=g])
      |some (.d (.int _ h))=>some (.osl r g off h.toNat,[g'=g,0<=h,h<=n])
      |_=>none
     |some (.d (.int _ l))=>match hi with
      |none=>some (.osl r g (off+l.toNat) (n-l.toNat),[g'=g,0<=l,l<=n])
      |some (.d (.int _ h))=>some (.osl r g (off+l.toNat) (h.toNat-l.toNat),[g'=g,0<=l,l<=h,h<=n])
      |_=>none
     |_=>none
    else none
   |_=>none
  |_=>none
def Q0d (T:Tab)(t:TypeId)(A:AV):Option (AV × List Prop) :=
 match elemOf T t with
 |none=>none
 |some _=>match A with
  | .d .nils=>some (.d (.int .i64 0),[])
  |_=>none
def Tv (T:Tab)(t:TypeId)(A:AV):Option (AV × List Prop) :=
 match T.at t with
 |none=>none
 | some ti=>match ti.k with
  | .ifc | .other=>none
  |_=>match A with
   | .d x=>some (.d (.ifc t x),[])
   |A=>some (.ifc t A,[])
def To (T:Tab) (src dst:TypeId) (A:AV):Option (AV × List Prop) :=
 match A with
 | .d (.int _ n)=>match T.at src with
  | some ti=>match ti.k with
   | .int _=>match T.at dst with
    | some tj=>match tj.k with
     | .int k=>match k with
      | .u64=>none
      |k=>some (.d (.int k n),[In k n])
     |_=>none
    |none=>none
   |_=>none
  |none=>none
 |_=>none
def Tw (T:Tab) (t:TypeId) (A I:AV):Option (AV × List Prop) :=
 match Gb T t with
 | none=>match Mn T t with
  |none=>none
  | some (n,sz)=>match A with
   | .d (.agg cs)=>match I with
    | .d (.int _ i)=>match Hp cs (i.toNat*sz) sz with
     |some l=>some (.d (.agg l),[0<=i,i<(n:Int)])
     |none=>none
    |_=>none
   |_=>none
 | some (n,e)=>match T.at e with
  |none=>none
  | some te=>bif te.k.agg then none else match A with
   | .d (.agg cs)=>match I with
    | .d (.int _ i)=>some (.d (cs.getD i.toNat .nilp),[0<=i,i<(n:Int),cs.length=n])
    |_=>none
   |_=>none
def Tr (T:Tab) (t:TypeId) (k:Nat) (A:AV):Option (AV × List Prop) :=
 match Rm T t k with
 |none=>none
 | some (o,u)=>match T.at u with
  |none=>none
  | some ti=>match A with
   | .d (.agg cs)=>bif ti.k.agg then match Hp cs o ti.size with
     |some l=>some (.d (.agg l),[])
     |none=>none
    else match Hq cs o with
     |some x=>some (.d x,[])
     |none=>none
   | .agg cs=>bif ti.k.agg then match Ul cs o ti.size with
     |some l=>some (.agg l,[])
     |none=>none
    else match Wj cs o with
     |some x=>some (x,[])
     |none=>none
   |_=>none
def Pc:AV->Option (List AV)
 | .agg cs=>some cs
 | .d (.agg ds)=>some (up ds)
 |_=>none
def Fj (T:Tab)(u:TypeId)(cs:List AV)(o:Nat):Option AV :=
 match T.at u with
 |none=>none
 | some ti=>bif ti.k.agg then match Ul cs o ti.size with
   |some l=>some (.agg l)
   |none=>none
  else Wj cs o
def Ni (T:Tab) (f:TypeId→AV→AV→Option Bool):List (Nat × TypeId)→List AV→List AV→Option Bool
 |[],_,_=>some true
 | (o,u) :: r,cs,ds=>match Fj T u cs o with
  |none=>none
  | some x=>match Fj T u ds o with
   |none=>none
   | some y=>match f u x y with
    |none=>none
    | some b=>match r with
     |[]=>some b
     |_=>match Ni T f r cs ds with
      |none=>none
      |some c=>some (b&&c)
def U4 (T:Tab):Nat→TypeId→AV→AV→Option Bool
 |0,_,_,_=>none
 | n + 1,t,x,y=>match T.at t with
  |none=>none
  | some ti=>match ti.k with
   | .int _=>match x with
    | .d (.int k a)=>match y with
     | .d (.int k' b)=>bif decide (k=k') then some (decide (a=b)) else none
     |_=>none
    |_=>none
   | .bool=>match x with
    | .d (.bool a)=>match y with
     | .d (.bool b)=>some (a==b)
     |_=>none
    |_=>none
   | .str=>match x with
    | .d (.str a)=>match y with
     | .d (.str b)=>some (decide (a=b))
     |_=>none
    |_=>none
   | .st fs=>bif ti.eq then match Pc x with
     |none=>none
     |some cs=>match Pc y with
      |none=>none
      |some ds=>Ni T (U4 T n) fs cs ds
    else none
   |_=>none
def La:AV->Bool
 | .d (.bool _)=>true
 | .d (.agg _)=>true
 | .agg _=>true
 |_=>false
def Q0l (op:BinOp)(x y:AV):Option (AV × List Prop) :=
 match x with
 | .d (.str a)=>match y with
  | .d (.str b)=>match op with
   | .eql=>some (.d (.bool (decide (a=b))),[])
   | .neq=>some (.d (.bool (!decide (a=b))),[])
   |_=>none
  |_=>none
 |_=>none
def Tp (T:Tab)(op:BinOp)(t:TypeId)(x y:AV):Option (AV × List Prop) :=
 match Q0l op x y with
 |some r=>some r
 | none=>bif La x && La y then match op with
  | .eql=>match U4 T 8 t x y with
   |some b=>some (.d (.bool b),[])
   |none=>none
  | .neq=>match U4 T 8 t x y with
   |some b=>some (.d (.bool (!b)),[])
   |none=>none
  |_=>none
 else none
def Q1a:AV->Option Bool
 | .d .nili=>some true
 | .d (.ifc _ _)=>some false
 | .ifc _ _=>some false
 |_=>none
def S5 (T:Tab) (op:BinOp) (t:TypeId) (y:Operand) (a:AV):Option (AV × List Prop) :=
 match y with
 | .const .nilIface=>match T.at t with
  | some ti=>match ti.k with
   | .ifc=>match Q1a a with
    |some b=>match op with
     | .eql=>some (.d (.bool b),[])
     | .neq=>some (.d (.bool (!b)),[])
     |_=>none
    |none=>none
   |_=>none
  |none=>none
 |_=>none
section sound
variable {P:Program}{T:Tab}{w:World}{F:Nat->Prop}{σ:Pls}{m:Mem}
theorem Iw (a b:ByteArray):(a.toList==b.toList)=decide (a=b):=by
 rw[Bool.eq_iff_iff,decide_eq_true_iff,Qhm,ByteArray.toList_eq,ByteArray.toList_eq]
 cases a with|mk x=>cases b with|mk y=>simp
theorem Q67 (a b:ByteArray):(a==b)=decide (a=b):=by
 rw[Bool.eq_iff_iff,decide_eq_true_iff]
 cases a with|mk x=>cases b with|mk y =>
 simp only[ByteArray.mk.injEq]
 show(x==y)=true↔_
 exact Qhm
theorem Q8z (hT:Qb P T){op:BinOp}{t:TypeId}{x:AV}{p q:Operand}{X Y:Value}{A:AV}{obs:List Prop}(hx:Vc w F σ x X)(hq:∀v,q=.const v->Y=v)
  (h:S5 T op t q x=some (A,obs)):Z7 P F σ w (do eqGuard op t p q X Y;binOp op t X Y) A:=by
 unfold S5 at h
 split at h<;>try (cases h;done)
 have:=hq _ rfl
 subst this
 split at h<;>try (cases h;done)
 rename_i ti hti
 split at h<;>try (cases h;done)
 rename_i hk
 split at h<;>try (cases h;done)
 rename_i b hb
 have hkind:=Xu (hT _ _ hti)
 rw[hk]at hkind
 obtain⟨ms,hu⟩:∃ms,P.underlying t=some (.interface ms):=by
  simp only[Vj]at hkind
  split at hkind
  .rename_i ms h;exact⟨ms,h⟩
  .cases hkind
 have key:(X=.nilIface/\b=true)\/((∃tx vx,X=.iface tx vx)/\b=false):=by
  unfold Q1a at hb
  split at hb<;>try (cases hb;done)
  .cases hb
   cases hx with|d hx=>cases hx;exact .inl ⟨rfl,rfl⟩
  .cases hb
   cases hx with|d hx=>cases hx;exact .inr ⟨⟨_,_,rfl⟩,rfl⟩
  .cases hb
   cases hx;exact .inr ⟨⟨_,_,rfl⟩,rfl⟩
 have hrun:∀w',(Op.equal t X .nilIface).run P w'=.ok b w':=fun w'=>by
  have key2:∀d,(Op.equalIn (d+1) t X .nilIface).run P w'=.ok b w':=fun d=>by
   rcases key with ⟨rfl,rfl⟩|⟨⟨tx,vx,rfl⟩,rfl⟩
   .unfold Op.equalIn;simp[run_underlying hu]
   .unfold Op.equalIn;simp[run_underlying hu]
  exact key2 9999
 have hg:∀w',(eqGuard op t p (.const .nilIface) X .nilIface).run P w'=.ok () w':=fun w'=>by
  rcases key with ⟨rfl,rfl⟩|⟨⟨tx,vx,rfl⟩,rfl⟩
  .unfold eqGuard;cases op<;>simp
  .unfold eqGuard;cases op<;>simp
 have hbin:∀op',op'=.eql\/op'=.neq->binOp op' t X .nilIface=(match op' with | .eql=>(do pure (.bool (<-Op.equal t X .nilIface)):Sem Value)|_=>do pure (.bool (!(<-Op.equal t X .nilIface)))):=fun op' h=>by
  rcases key with ⟨rfl,_⟩|⟨⟨tx,vx,rfl⟩,_⟩<;>rcases h with rfl|rfl<;>rfl
 split at h<;>simp only[Qgz,Qh6,reduceCtorEq]at h
 .obtain⟨rfl,rfl⟩:=h
  refine⟨.bool b,.d .bool,fun w' _=>?_⟩
  simp[hg w',hbin .eql (.inl rfl),hrun w']
 .obtain⟨rfl,rfl⟩:=h
  refine⟨.bool (!b),.d .bool,fun w' _=>?_⟩
  simp[hg w',hbin .neq (.inr rfl),hrun w']
theorem Pd {x:AV}{X:Value}{cs:List AV}(h:Vc w F σ x X)(hc:Pc x=some cs) :
  ∃us:List Value,X=.agg us.toArray/\us.length=cs.length/\∀(j:Nat) A u,cs[j]?=some A->us[j]?=some u->Vc w F σ A u:=by
 unfold Pc at hc
 split at hc<;>try (cases hc;done)
 .injection hc with hc
  subst hc
  cases h with|agg hl h=>exact⟨_,rfl,hl,h⟩
 .injection hc with hc
  subst hc
  cases h with
  |d h=>cases h with
   | agg hl h=>exact ⟨_,rfl,by rw [Zb,Qhb];exact hl,fun j A u hA hu=>by
     obtain⟨x,hx,rfl⟩:=Ue hA
     exact .d (h j x u hx hu)⟩
theorem Q34 (hT:Qb P T){u:TypeId}{cs:List AV}{us:List Value}{o:Nat}{A:AV}(hl:us.length=cs.length)(h:∀(j:Nat) A u,cs[j]?=some A->us[j]?=some u->Vc w F σ A u)
  (hp:Fj T u cs o=some A):∃v,Vc w F σ A v/\∀w',(part u us.toArray o).run P w'=.ok v w':=by
 unfold Fj at hp
 split at hp<;>try (cases hp;done)
 rename_i ti hti
 have ht:=hT _ _ hti
 cases hagg:ti.k.agg with
 | true =>
  rw[hagg]at hp
  simp only[cond_true]at hp
  split at hp<;>try (cases hp;done)
  rename_i l hcut
  injection hp with hp
  subst hp
  obtain⟨h1,h2⟩:=P4 hcut
  refine⟨.agg ((us.drop o).take ti.size).toArray,.agg ?_ fun j x u hx hu=>?_,fun w'=>by simp[part,K9 ht,hagg,run_sizeOf ht,List.extract_eq_take_drop]⟩
  .rw[h1];simp
   rcases Nat.eq_zero_or_pos ti.size with h0|h0
   .omega
   .have:=(h2 (ti.size-1) Om).2;omega
  .rw[Qid]at hu
   split at hu
   .rename_i hj
    exact h (o+j) x u (by rw[<-(h2 j hj).1];exact hx) (by simpa[Qij] using hu)
   .cases hu
 |false =>
  rw[hagg]at hp
  simp only[cond_false]at hp
  rw[R8]at hp
  have hlt:=(Qh7.1 hp).1
  have hu':us[o]?=some (us[o]'Om):=Qgy Om
  exact⟨_,h o A _ hp hu',fun w'=>by simp[part,K9 ht,hagg,hu']⟩
theorem Qb5 {t:TypeId}(h:Vj P t .bool=true):P.underlying t=some .bool:=by
 simp only[Vj]at h
 split at h
 .assumption
 .cases h
theorem Q1j {t:TypeId}(h:Vj P t .str=true):P.underlying t=some .string:=by
 simp only[Vj]at h
 split at h
 .assumption
 .cases h
theorem Nz {t:TypeId}{k:IntKind}(h:Vj P t (.int k)=true):P.underlying t=some (.int k):=by
 simp only[Vj]at h
 split at h
 .rename_i k' e;rw[e,Qhd h]
 .cases h
theorem Q05 (hT:Qb P T){n:Nat}(ih:∀(t:TypeId) (x y:AV) (X Y:Value) (b:Bool),Vc w F σ x X->Vc w F σ y Y->U4 T n t x y=some b->∀d,n<=d->∀w',(Op.equalIn d t X Y).run P w'=.ok b w')
  {cs ds:List AV} {us vs:List Value} (hl:us.length=cs.length) (h:∀(j:Nat) A u,cs[j]?=some A->us[j]?=some u->Vc w F σ A u) (hl':vs.length=ds.length) (h':∀(j:Nat) A u,ds[j]?=some A->vs[j]?=some u->Vc w F σ A u) :
  ∀(gs:List (Nat × TypeId)) (fs:List Field) (b:Bool),fs.map (fun f=>(f.offset,f.type))=gs->(∀f∈fs,f.name≠ "_")->Ni T (U4 T n) gs cs ds=some b->∀d,n<=d->∀w',(Op.eqFields d us.toArray vs.toArray fs).run P w'=.ok b w'
 |[],fs,b,hg,hn,he,d,hd,w'=>by
  have:fs=[]:=by simpa using hg
  subst this
  simp[Ni]at he
  subst he
  simp[Op.eqFields]
 | (o,u) :: r,fs,b,hg,hn,he,d,hd,w'=>by
  cases fs with
  |nil=>simp at hg
  | cons f fs =>
   simp only[Qin,List.cons.injEq,Qh6]at hg
   obtain⟨⟨ho,hu⟩,hg2⟩:=hg
   subst ho;subst hu
   simp only[Ni]at he
   split at he<;>try (cases he;done)
   rename_i x hx
   split at he<;>try (cases he;done)
   rename_i y hy
   split at he<;>try (cases he;done)
   rename_i b1 hb1
   obtain⟨X,hX,rX⟩:=Q34 hT hl h hx
   obtain⟨Y,hY,rY⟩:=Q34 hT hl' h' hy
   have h1:=ih _ x y X Y b1 hX hY hb1 d hd
   simp only[Op.eqFields]
   rw[if_pos (hn f (by simp))]
   simp only[Sem.run_bind,rX w',Result.andThen_ok,rY w',h1 w',Sem.run_ite]
   split at he
   .injection he with he
    subst he
    have:fs=[]:=by simpa using hg2
    subst this
    cases b1<;>simp[Op.eqFields]
   .split at he<;>try (cases he;done)
    rename_i c hc
    injection he with he
    subst he
    cases b1 with
    |false=>simp
    |true=>simpa using Q05 hT ih hl h hl' h' r fs c hg2 (fun g hg=>hn g (by simp[hg])) hc d hd w'
theorem Q0r:∀{fs:List Field} {gs:List (Nat × TypeId)},Uq P fs gs=true->fs.map (fun f=>(f.offset,f.type))=gs
 |[],[],_=>rfl
 |f::r,(o,u)::s,h=>by
  simp only[Uq,Qh5]at h
  obtain⟨⟨⟨h1,h2⟩,_⟩,h4⟩:=h
  simp only[Qin,Q0r h4,Qh1 h1,Qh1 h2]
 |[],_::_,h=>by simp[Uq]at h
 |_::_,[],h=>by simp[Uq]at h
theorem Q02 (hT:Qb P T):∀(n:Nat) (t:TypeId) (x y:AV) (X Y:Value) (b:Bool),Vc w F σ x X->Vc w F σ y Y->U4 T n t x y=some b->∀d,n<=d->∀w',(Op.equalIn d t X Y).run P w'=.ok b w'
 |0,_,_,_,_,_,_,_,_,h,_,_,_=>by simp[U4]at h
 | n + 1,t,x,y,X,Y,b,hx,hy,h,d,hd,w'=>by
  obtain⟨d,rfl⟩:∃d',d=d'+1:=⟨d-1,Om⟩
  simp only[U4]at h
  split at h<;>try (cases h;done)
  rename_i ti hti
  have ht:=hT _ _ hti
  have hk:=Xu ht
  split at h<;>try (cases h;done)
  .rename_i k ek
   rw[ek]at hk
   split at h<;>try (cases h;done)
   rename_i k1 a
   split at h<;>try (cases h;done)
   rename_i k2 c
   cases hkk:decide (k1=k2) with
   |false=>rw[hkk]at h;cases h
   |true =>
    rw[hkk]at h
    simp only[cond_true,Qgz]at h
    have:=Qhd hkk
    subst this;subst h
    have:=hx.int;subst this
    have:=hy.int;subst this
    rw[run_equalIn_int w' d t k1 k a c (Nz hk)]
    congr 1
  .rename_i ek
   rw[ek]at hk
   split at h<;>try (cases h;done)
   split at h<;>try (cases h;done)
   injection h with h
   subst h
   have:=hx.bool;subst this
   have:=hy.bool;subst this
   exact run_equalIn_bool' w' d t _ _ (Qb5 hk)
  .rename_i ek
   rw[ek]at hk
   split at h<;>try (cases h;done)
   split at h<;>try (cases h;done)
   injection h with h
   subst h
   have:=hx.str;subst this
   have:=hy.str;subst this
   rw[<-Q67]
   simp only[Op.equalIn,Sem.run_bind,run_underlying (Q1j hk),Result.andThen_ok,Sem.run_pure]
  .rename_i gs ek
   rw[ek]at hk
   cases heq:ti.eq with
   |false=>rw[heq]at h;cases h
   |true =>
    rw[heq]at h
    simp only[cond_true]at h
    split at h<;>try (cases h;done)
    rename_i cs hcs
    split at h<;>try (cases h;done)
    rename_i ds hds
    obtain⟨us,rfl,l1,v1⟩:=Pd hx hcs
    obtain⟨vs,rfl,l2,v2⟩:=Pd hy hds
    obtain⟨e1,_,e3⟩:=Q4p ht heq
    simp only[Vj]at hk
    split at hk<;>try (cases hk;done)
    rename_i fs hfs
    have hfo:P.fieldsOf t=fs:=by simp[Program.fieldsOf,hfs]
    rw[run_equalIn_struct w' d t _ _ (by rw[hfo];exact hfs) e1,hfo]
    exact Q05 hT (Q02 hT n) l1 v1 l2 v2 gs fs.toList b (Q0r hk) (e3 fs hfs) h d Om w'
theorem Q8k (hT:Qb P T){op:BinOp}{t:TypeId}{x y:AV}{p q:Operand}{X Y:Value}{A:AV}{obs:List Prop}(hx:Vc w F σ x X)(hy:Vc w F σ y Y)
  (h:Tp T op t x y=some (A,obs)):Z7 P F σ w (do eqGuard op t p q X Y;binOp op t X Y) A:=by
 unfold Tp at h
 split at h
 .rename_i r hr
  injection h with h
  subst h
  unfold Q0l at hr
  split at hr<;>try (cases hr;done)
  rename_i a
  split at hr<;>try (cases hr;done)
  rename_i b
  have:=hx.str;subst this
  have:=hy.str;subst this
  split at hr<;>try (cases hr;done)
  .injection hr with hr
   injection hr with e1 _
   subst e1
   refine .const (.d .bool) fun w'=>?_
   rw[<-Iw]
   simp[eqGuard,binOp,Op.stringOp]
  .injection hr with hr
   injection hr with e1 _
   subst e1
   refine .const (.d .bool) fun w'=>?_
   rw[<-Iw]
   simp[eqGuard,binOp,Op.stringOp]
 cases hc:(La x&&La y) with
 |false=>rw[hc]at h;cases h
 | true =>
  rw[hc]at h
  simp only[cond_true]at h
  have key:∀b,U4 T 8 t x y=some b->∀w',(Op.equal t X Y).run P w'=.ok b w':=fun b hb w'=>Q02 hT 8 t x y X Y b hx hy hb 10000 Om w'
  have hguard:∀b,U4 T 8 t x y=some b->∀w',(eqGuard op t p q X Y).run P w'=.ok () w':=by
   intro b hb w'
   simp only[U4]at hb
   split at hb<;>try (cases hb;done)
   rename_i ti hti
   split at hb<;>try (cases hb;done)
   .split at hb<;>try (cases hb;done)
    simp[La]at hc
   .split at hb<;>try (cases hb;done)
    have:=hx.bool;subst this
    rw[eqGuard_at_bool];rfl
   .split at hb<;>try (cases hb;done)
    simp[La]at hc
   .cases heq:ti.eq with
    |false=>rw[heq]at hb;cases hb
    |true =>
     rw[heq]at hb
     simp only[cond_true]at hb
     split at hb<;>try (cases hb;done)
     rename_i cs hcs
     split at hb<;>try (cases hb;done)
     rename_i ds hds
     obtain⟨us,rfl,_⟩:=Pd hx hcs
     obtain⟨vs,rfl,_⟩:=Pd hy hds
     exact run_eqGuard_agg w' op t p q _ _ (Q4p (hT _ _ hti) heq).2.1
  have hshape:(∃b,X=.bool b)\/∃us,X=.agg us:=by
   simp only[Qh5]at hc
   have hc1:=hc.1
   clear hc key hguard h
   unfold La at hc1
   split at hc1
   .exact .inl ⟨_,hx.bool⟩
   .cases hx with|d hx=>cases hx;exact .inr ⟨_,rfl⟩
   .cases hx;exact .inr ⟨_,rfl⟩
   .cases hc1
  split at h<;>try (cases h;done)
  .split at h<;>try (cases h;done)
   rename_i b hb
   simp only[Qgz,Qh6]at h
   obtain⟨rfl,_⟩:=h
   refine .const (.d .bool) fun w'=>?_
   rw[Sem.run_bind,hguard b hb w',Result.andThen_ok]
   have:binOp .eql t X Y=(do pure (.bool (<-Op.equal t X Y))):=by
    rcases hshape with ⟨b,rfl⟩|⟨us,rfl⟩<;>cases Y<;>rfl
   rw[this]
   simp[key b hb w']
  .split at h<;>try (cases h;done)
   rename_i b hb
   simp only[Qgz,Qh6]at h
   obtain⟨rfl,_⟩:=h
   refine .const (.d .bool) fun w'=>?_
   rw[Sem.run_bind,hguard b hb w',Result.andThen_ok]
   have:binOp .neq t X Y=(do pure (.bool (!(<-Op.equal t X Y)))):=by
    rcases hshape with ⟨b,rfl⟩|⟨us,rfl⟩<;>cases Y<;>rfl
   rw[this]
   simp[key b hb w']
theorem P7:∀{cs:List AV} {l:List D},Wh cs=some l->cs=up l
 |[],l,h=>by simp[Wh]at h;subst h;rfl
 | x :: r,l,h=>by
  unfold Wh at h
  split at h
  .rename_i e;cases e
  .rename_i x' r' e
   injection e with e1 e2
   subst e1;subst e2
   split at h
   .rename_i l' hl
    injection h with h
    subst h
    simp[up,P7 hl]
   .cases h
  .cases h
theorem Q9i {cs:List AV}{us:List Value}(hl:us.length=cs.length)(h:∀(j:Nat) A u,cs[j]?=some A->us[j]?=some u->Vc w F σ A u):Vc w F σ (Sf cs) (.agg us.toArray):=by
 unfold Sf
 split
 .rename_i l hd
  have:=P7 hd
  subst this
  refine .d (.agg (by rw[hl,Zb,Qhb]) fun j x u hx hu=>?_)
  have:=h j (.d x) u (by rw[Zb,Qhe,hx];rfl) hu
  cases this with|d h=>exact h
 .exact .agg hl h
theorem Y6.zero {vs:List Value}{xs:List D}(h:H9 vs xs=true):Y6 w F σ (up xs) vs:=by
 obtain⟨h1,h2⟩:=Ls (w:=w) (F:=F) h
 refine⟨by rw[Zb,Qhb,h1],fun j A u hA hu=>?_⟩
 obtain⟨x,hx,rfl⟩:=Ue hA
 exact⟨.d (h2 j x u hx hu).1,(h2 j x u hx hu).2⟩
theorem Qfp (hT:Qb P T){t:TypeId}{n:Nat}(h:Ak T t=some n):∃i,P.info? t=some i/\i.size=n:=by
 unfold Ak at h
 split at h
 .rename_i ti hti
  injection h with h
  subst h
  obtain⟨i,z,hi,hs,_⟩:=Yj (hT t ti hti)
  exact⟨i,hi,hs⟩
 .cases h
theorem Q44 {place:Nat->Option (Nat × Nat)}{i o sz:Nat}{v:Value}{us vs:List Value}{rest:List (Nat × Value)}(hp:place i=some (o,sz))(hv:v.cells=us.toArray)(hs:us.length=sz)(hf:o+sz<=vs.length) :
  Instr.fill place vs.toArray ((i,v)::rest)=Instr.fill place (vs.take o++us++vs.drop (o+us.length)).toArray rest:=by
 have h0:¬ (v.cells.size≠sz\/o+v.cells.size>vs.toArray.size):=by
  rw[hv];simp;omega
 simp only[Instr.fill,hp]
 rw[if_neg (by simpa using h0)]
 congr 1
 rw[hv]
 have:=Q9j us o 0 vs.toArray (by simp;omega)
 simp only[Nat.add_zero]at this
 rw[<-this]
 simp
theorem Q0s (hT:Qb P T)(hm:Q3 m σ F w){t:TypeId}{fields:Array Field}{places:List (Nat × Nat)}(hu:P.underlying t=some (.struct fields))
  (hpl:fields.toList.mapM (fun f=>(P.info? f.type).map fun i=>(f.offset,i.size))=some places) :
  ∀(parts:List (Nat × AV)) (Q5:List (Nat × Value)) (cs:List AV) (vs:List Value) (p:List Prop) (cs':List AV) (p':List Prop),
   Q5.map (·.1)=parts.map (·.1)->(∀(j:Nat) a b,parts[j]?=some a->Q5[j]?=some b->Vc w F σ a.2 b.2)->Y6 w F σ cs vs ->
   Hu T m t parts cs p=some (cs',p')->(∀q∈p',q)->(∀q∈p,q)/\∃vs',Instr.fill (places.toArray[·]?) vs.toArray Q5=some vs'.toArray/\Y6 w F σ cs' vs'
 |[],Q5,cs,vs,p,cs',p',hk,hv,hc,h,hp=>by
  have:Q5=[]:=by simpa using hk
  subst this
  simp[Hu]at h
  obtain⟨rfl,rfl⟩:=h
  exact⟨hp,vs,rfl,hc⟩
 | (i,A) :: r,Q5,cs,vs,p,cs',p',hk,hv,hc,h,hp=>by
  cases Q5 with
  |nil=>simp at hk
  | cons iv Q5 =>
   obtain⟨i',v⟩:=iv
   simp only[Qin,List.cons.injEq]at hk
   obtain⟨hi,hk2⟩:=hk
   subst hi
   simp only[Hu]at h
   split at h<;>try (cases h;done)
   rename_i o u hf
   split at h<;>try (cases h;done)
   rename_i sz hsz
   split at h<;>try (cases h;done)
   rename_i new q hcell
   cases hb:(Nat.beq (count new) sz&&Nat.ble (o+sz) (count cs)) with
   |false=>rw[hb]at h;cases h
   | true =>
    rw[hb]at h
    simp only[cond_true]at h
    simp only[Qh5,count_eq]at hb
    have h1:=Qh1 hb.1
    have h2:=Qhf hb.2
    -- the rest first,to have the conditions
    have hrest:=Q0s hT hm hu hpl r Q5 (splice cs o new)
    obtain⟨fs,f,hu',hfi,ho,hft,_⟩:=Se hT hf
    rw[hu]at hu'
    injection hu' with hu'
    injection hu' with hu'
    subst hu'
    obtain⟨ii,hii,hisz⟩:=Qfp hT hsz
    have hplace:places.toArray[i']?=some (o,sz):=by
     have hfl:fields.toList[i']?=some f:=by simpa using hfi
     have:=mapM_at hpl hfl
     obtain⟨b,hb1,hb2⟩:=this
     rw[hft,hii]at hb1
     simp at hb1
     subst hb1
     simpa[ho,hisz] using hb2
    have hq:(∀x∈cat q p,x)->∃us:List Value,v.cells=us.toArray/\Y6 w F σ new us:=fun hx=>by
     obtain⟨us,e1,e2,e3⟩:=Pe hm (hv 0 (i',A) (i',v) rfl rfl) hcell (Ji hx).1
     exact⟨us,e1,e2,e3⟩
    -- conditions come out of the recursion
    have hpp:∀x∈cat q p,x:=fillSt_conds r _ _ _ _ h hp
    obtain⟨us,hus,hcu⟩:=hq hpp
    have hsp:=hc.splice hcu (by rw[h1];exact h2)
    obtain⟨_,vs',e1,e2⟩:=hrest (vs.take o++us++vs.drop (o+us.length)) (cat q p) cs' p' hk2 (fun j a b ha hb=>hv (j+1) a b (by simpa using ha) (by simpa using hb)) hsp h hp
    refine⟨(Ji hpp).2,vs',?_,e2⟩
    rw[Q44 hplace hus (by rw[hcu.1,h1]) (by rw[hc.1];exact h2)]
    exact e1
where
 fillSt_conds {t:TypeId}:∀(parts:List (Nat × AV)) (cs:List AV) (p:List Prop) (cs':List AV) (p':List Prop),Hu T m t parts cs p=some (cs',p')->(∀q∈p',q)->∀q∈p,q
  |[],cs,p,cs',p',h,hp=>by simp[Hu]at h;obtain⟨_,rfl⟩:=h;exact hp
  | (i,A) :: r,cs,p,cs',p',h,hp=>by
   simp only[Hu]at h
   split at h<;>try (cases h;done)
   rename_i o u _
   split at h<;>try (cases h;done)
   rename_i sz _
   split at h<;>try (cases h;done)
   rename_i new q _
   cases hb:(Nat.beq (count new) sz&&Nat.ble (o+sz) (count cs)) with
   |false=>rw[hb]at h;cases h
   |true =>
    rw[hb]at h
    exact(Ji (fillSt_conds r _ _ _ _ h hp)).2
 mapM_at {fs:List Field} {places:List (Nat × Nat)} (h:fs.mapM (fun f=>(P.info? f.type).map fun i=>(f.offset,i.size))=some places) {k:Nat} {f:Field} (hk:fs[k]?=some f) :
   ∃b,(P.info? f.type).map (fun i=>(f.offset,i.size))=some b/\places[k]?=some b:=by
  induction fs generalizing places k with
  |nil=>simp at hk
  | cons g r ih =>
   simp only[List.mapM_cons,Option.bind_eq_bind,Option.pure_def]at h
   cases hg:(P.info? g.type).map (fun i=>(g.offset,i.size)) with
   |none=>rw[hg]at h;simp at h
   | some b =>
    rw[hg]at h
    simp only[Option.bind_some]at h
    cases hr:r.mapM (fun f=>(P.info? f.type).map fun i=>(f.offset,i.size)) with
    |none=>rw[hr]at h;simp at h
    |some rest =>
     rw[hr]at h
     simp only[Option.bind_some,Qgz]at h
     subst h
     cases k with
     |zero=>simp at hk;subst hk;exact⟨b,hg,rfl⟩
     |succ k=>simpa using ih hr (by simpa using hk)
end sound
end Go.Ab
