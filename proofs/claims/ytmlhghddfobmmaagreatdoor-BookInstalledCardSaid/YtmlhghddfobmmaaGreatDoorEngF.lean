import Derived.Test.YtmlhghddfobmmaaGreatDoorEngD
import Derived.Laws.Tables
import Derived.Laws.StructEq
import Derived.Laws.Strings
namespace Go.Ab
set_option linter.unusedSimpArgs false
set_option linter.unusedVariables false
def oneOf (m:Mem):AV->Option (List Prop)
 | .d x=>bif x.one then some [] else none
 | .ptr r g i _=>liveAt m r g i
 | .osl r g _ _=>match m.get r with
  |some (.vec _ _ g' _ _)=>some [g'=g]
  |_=>none
 | .ifc _ _=>some []
 | .fn _ _ _=>some []
 | .mp r=>match m.get r with
  |some (.map _ _ _)=>some []
  |_=>none
 |_=>none
def onesOf (m:Mem):List AV->Option (List Prop)
 |[]=>some []
 | x :: r=>match oneOf m x with
  |none=>none
  |some p=>match onesOf m r with
   |none=>none
   |some q=>some (cat p q)
def cellsOf (m:Mem)(A:AV):Option (List AV × List Prop) :=
 match A with
 | .agg cs=>match onesOf m cs with
  |some p=>some (cs,p)
  |none=>none
 | .d (.agg cs)=>match onesOf m (up cs) with
  |some p=>some (up cs,p)
  |none=>none
 |A=>match oneOf m A with
  |some p=>some ([A],p)
  |none=>none
def splice:List AV->Nat->List AV->List AV
 |[],_,_=>[]
 |c::r,0,xs=>match xs with
  |[]=>c::r
  |x::xs=>x::splice r 0 xs
 |c::r,o+1,xs=>c::splice r o xs
def count:List AV->Nat
 |[]=>0
 |_::r=>count r+1
def sizeAt (T:Tab)(t:TypeId):Option Nat :=
 match T.at t with
 |some ti=>some ti.size
 |none=>none
def fillSt (T:Tab) (m:Mem) (t:TypeId):List (Nat × AV)→List AV→List Prop→Option (List AV × List Prop)
 |[],cs,p=>some (cs,p)
 | (i,A) :: r,cs,p=>match fieldOf T t i with
  |none=>none
  | some (o,u)=>match sizeAt T u with
   |none=>none
   |some sz=>match cellsOf m A with
    |none=>none
    |some (new,q)=>bif Nat.beq (count new) sz&&Nat.ble (o+sz) (count cs) then fillSt T m t r (splice cs o new) (cat q p) else none
def foldD (cs:List AV):AV :=
 match allD cs with
 |some l=>.d (.agg l)
 |none=>.agg cs
def evBuild (T:Tab) (m:Mem) (t:TypeId) (parts:List (Nat × AV)):Option (AV × List Prop) :=
 match T.at t with
 |none=>none
 | some ti=>match ti.k with
  | .st _=>match fillSt T m t parts (up ti.zero) [] with
   |some (cs,p)=>some (foldD cs,p)
   |none=>none
  | .arr _ e=>match parts with
   |[]=>match T.at e with
    |some _=>some (.d (.agg ti.zero),[])
    |none=>none
   |_::_=>none
  |_=>none
section sound
variable {P:Program}{T:Tab}{w:World}{F:Nat->Prop}{σ:Pls}{m:Mem}
theorem Rd.one_ok {x:D}{v:Value}(h:Rd w F x v)(h1:x.one=true):v.oneCell'=true:=by
 cases h<;>first|rfl|(simp[D.one]at h1)
theorem oneOf_ok (hm:MemOk m σ F w){A:AV}{v:Value}{p:List Prop}(h:Vc w F σ A v)(ho:oneOf m A=some p)(hp:∀q∈p,q):v.oneCell'=true:=by
 unfold oneOf at ho
 split at ho<;>try (cases ho;done)
 .rename_i x
  cases h1:x.one with
  |false=>rw[h1]at ho;cases ho
  |true=>cases h with|d h=>exact h.one_ok h1
 .obtain⟨pl,b,tot,_,_,_,rfl⟩:=liveAt_ok hm h ho hp
  rfl
 .split at ho<;>try (cases ho;done)
  rename_i hB
  injection ho with ho
  subst ho
  obtain⟨pl,hr,hok,_,hat⟩:=osl_row hm h (Mem.get_at hB)
  have:=hat (hok.1.trans (hp _ (by simp)))
  unfold SlAt at this
  split at this
  .obtain⟨_,_,rfl⟩:=this;rfl
  .obtain⟨_,_,rfl,_⟩:=this;rfl
 .cases h;rfl
 .cases h;rfl
 .split at ho<;>try (cases ho;done)
  rename_i r _ _ _ _ hB
  cases h with
  | @mp _ _ q hr h =>
   cases q with
   |none=>have:=(hm.lv r _ hr).1 rfl;rw[Mem.get_at hB]at this;cases this
   |some pl =>
    obtain⟨B',hB',hok⟩:=(hm.lv r _ hr).2 pl rfl
    rw[Mem.get_at hB]at hB'
    injection hB' with hB'
    injection hB' with hB'
    subst hB'
    obtain⟨b',t,_,rfl⟩:=h pl rfl hok.1
    rfl
theorem onesOf_ok (hm:MemOk m σ F w):∀{cs:List AV} {us:List Value} {p:List Prop},us.length=cs.length->(∀(j:Nat) A u,cs[j]?=some A->us[j]?=some u->Vc w F σ A u)->onesOf m cs=some p->(∀q∈p,q) ->
  ∀(j:Nat) u,us[j]?=some u->u.oneCell'=true
 |[],us,p,hl,_,_,_=>fun j u hu=>by
  have:us=[]:=List.eq_nil_of_length_eq_zero (by simpa using hl)
  subst this
  simp at hu
 | x :: r,us,p,hl,h,ho,hp=>fun j u hu=>by
  match us,hl with
  | v :: vs,hl =>
   simp only[onesOf]at ho
   split at ho<;>try (cases ho;done)
   rename_i p1 h1
   split at ho<;>try (cases ho;done)
   rename_i p2 h2
   injection ho with ho
   subst ho
   obtain⟨q1,q2⟩:=all_cat hp
   cases j with
   |zero =>
    simp at hu
    subst hu
    exact oneOf_ok hm (h 0 x v rfl rfl) h1 q1
   |succ j=>exact onesOf_ok hm (cs:=r) (us:=vs) (by simpa using hl) (fun j A u hA hu=>h (j+1) A u (by simpa using hA) (by simpa using hu)) h2 q2 j u (by simpa using hu)
theorem cells_one {v:Value}(h:v.oneCell'=true):v.cells=#[v]:=by cases v<;>first|rfl|simp[Value.oneCell']at h
theorem cellsOf_ok (hm:MemOk m σ F w){A:AV}{v:Value}{cs:List AV}{p:List Prop}(h:Vc w F σ A v)(hc:cellsOf m A=some (cs,p))(hp:∀q∈p,q) :
  ∃us:List Value,v.cells=us.toArray/\us.length=cs.length/\∀(j:Nat) A u,cs[j]?=some A->us[j]?=some u->Vc w F σ A u/\u.oneCell'=true:=by
 unfold cellsOf at hc
 split at hc
 .split at hc<;>try (cases hc;done)
  rename_i cs' p' ho
  simp only[Option.some.injEq,Prod.mk.injEq]at hc
  obtain⟨rfl,rfl⟩:=hc
  cases h with
  |agg hl h=>exact⟨_,rfl,hl,fun j A u hA hu=>⟨h j A u hA hu,onesOf_ok hm hl h ho hp j u hu⟩⟩
 .rename_i cs'
  split at hc<;>try (cases hc;done)
  rename_i ho
  simp only[Option.some.injEq,Prod.mk.injEq]at hc
  obtain⟨rfl,rfl⟩:=hc
  cases h with
  | d h=>cases h with
   | @agg _ us hl h =>
    have hl':us.length=(up cs').length:=by rw[up_eq,List.length_map];exact hl
    have h':∀(j:Nat) A u,(up cs')[j]?=some A->us[j]?=some u->Vc w F σ A u:=fun j A u hA hu=>by
     obtain⟨x,hx,rfl⟩:=up_at hA
     exact .d (h j x u hx hu)
    exact⟨_,rfl,hl',fun j A u hA hu=>⟨h' j A u hA hu,onesOf_ok hm hl' h' ho hp j u hu⟩⟩
 .split at hc<;>try (cases hc;done)
  rename_i ho
  simp only[Option.some.injEq,Prod.mk.injEq]at hc
  obtain⟨rfl,rfl⟩:=hc
  have h1:=oneOf_ok hm h ho hp
  refine⟨[v],cells_one h1,rfl,fun j A u hA hu=>?_⟩
  cases j with
  |zero=>simp at hA hu;subst hA;subst hu;exact⟨h,h1⟩
  |succ j=>simp at hA
theorem count_eq:∀l:List AV,count l=l.length
 |[]=>rfl
 |_::r=>by simp[count,count_eq r]
theorem splice_length:∀(cs:List AV) (o:Nat) (xs:List AV),(splice cs o xs).length=cs.length
 |[],_,_=>rfl
 |c::r,0,[]=>rfl
 |c::r,0,x::xs=>by simp[splice,splice_length r 0 xs]
 |c::r,o+1,xs=>by simp[splice,splice_length r o xs]
theorem splice_at:∀(cs:List AV) (o:Nat) (xs:List AV) (j:Nat),o+xs.length<=cs.length ->
  (splice cs o xs)[j]?=if o<=j/\j<o+xs.length then xs[j-o]? else cs[j]?
 |[],o,xs,j,h=>by
  have:xs=[]:=List.eq_nil_of_length_eq_zero (by have h':o+xs.length<=0:=h;omega)
  subst this
  rw[if_neg (by rw[List.length_nil];omega)]
  rfl
 |c::r,0,[],j,_=>by
  rw[if_neg (by simp)]
  rfl
 | c :: r,0,x :: xs,j,h=>by
  cases j with
  |zero=>simp[splice]
  |succ j =>
   have:=splice_at r 0 xs j (by simp at h⊢;omega)
   simp[splice,this]
 | c :: r,o + 1,xs,j,h=>by
  cases j with
  |zero=>simp[splice]
  |succ j =>
   have:=splice_at r o xs j (by simp at h⊢;omega)
   simp only[splice,List.getElem?_cons_succ,this]
   have e:j+1-(o+1)=j-o:=by omega
   simp only[e]
   by_cases h1:o<=j/\j<o+xs.length
   .rw[if_pos h1,if_pos Om]
   .rw[if_neg h1,if_neg Om]
def CellsOk (w:World)(F:Nat->Prop)(σ:Pls)(cs:List AV)(us:List Value):Prop :=
 us.length=cs.length/\∀(j:Nat) A u,cs[j]?=some A->us[j]?=some u->Vc w F σ A u/\u.oneCell'=true
theorem CellsOk.splice {cs:List AV}{us:List Value}{new:List AV}{vs:List Value}{o:Nat}(h:CellsOk w F σ cs us)(h':CellsOk w F σ new vs)(ho:o+new.length<=cs.length) :
  CellsOk w F σ (splice cs o new) (us.take o++vs++us.drop (o+vs.length)):=by
 obtain⟨h1,h2⟩:=h
 obtain⟨h3,h4⟩:=h'
 refine⟨by rw[splice_length];simp;omega,fun j A u hA hu=>?_⟩
 rw[splice_at _ _ _ _ ho]at hA
 by_cases hj:o<=j/\j<o+new.length
 .rw[if_pos hj]at hA
  refine h4 (j-o) A u hA ?_
  rw[List.getElem?_append_left (by simp;omega),List.getElem?_append_right (by simp;omega)]at hu
  simpa[Nat.min_eq_left (show o<=us.length by omega)] using hu
 .rw[if_neg hj]at hA
  refine h2 j A u hA ?_
  by_cases hjo:j<o
  .rw[List.getElem?_append_left (by simp;omega),List.getElem?_append_left (by simp;omega)]at hu
   simpa[hjo] using hu
  .rw[List.getElem?_append_right (by simp;omega)]at hu
   simp only[List.length_append,List.length_take,Nat.min_eq_left (show o<=us.length by omega),List.getElem?_drop]at hu
   have e:o+vs.length+(j-(o+vs.length))=j:=by omega
   rwa [e]at hu
theorem foldl_set (vs:List Value)(o:Nat):∀(k:Nat) (cells:Array Value),o+k+vs.length<=cells.size ->
  (vs.zipIdx k).foldl (fun cs (c:Value × Nat)=>cs.setIfInBounds (o+c.2) c.1) cells=(cells.toList.take (o+k)++vs++cells.toList.drop (o+k+vs.length)).toArray:=by
 induction vs with
 |nil=>intro k cells _;simp
 | cons v r ih =>
  intro k cells h
  simp only[List.length_cons]at h
  simp only[List.zipIdx_cons,List.foldl_cons]
  rw[ih (k+1) _ (by simp;omega)]
  congr 1
  have hlen:cells.toList.length=cells.size:=by simp
  have hL:(cells.setIfInBounds (o+k) v).toList=cells.toList.take (o+k)++v::cells.toList.drop (o+k+1):=by
   rw[Array.toList_setIfInBounds,List.set_eq_take_append_cons_drop,if_pos Om]
  have hA:(cells.toList.take (o+k)).length=o+k:=by rw[List.length_take];omega
  rw[hL]
  generalize cells.toList.take (o+k)=A at hA⊢
  have h1:A.take (o+(k+1))=A:=List.take_of_length_le Om
  have h2:A.drop (o+(k+1)+r.length)=[]:=List.drop_eq_nil_of_le Om
  rw[List.take_append,List.drop_append,h1,h2,hA]
  have e1:o+(k+1)-(o+k)=1:=by omega
  have e2:o+(k+1)+r.length-(o+k)=r.length+1:=by omega
  have e3:o+k+1+r.length=o+k+(r.length+1):=by omega
  rw[e1,e2]
  simp[List.drop_drop,e3]
end sound
def evSlice (T:Tab) (m:Mem) (t:TypeId) (A:AV) (lo hi:Option AV):Option (AV × List Prop) :=
 match elemOf T t with
 |none=>none
 | some (_,sz)=>match A with
  | .d (.sl sz' n f)=>bif Nat.beq sz' sz then
    match lo with
    |none=>match hi with
     |none=>some (.d (.sl sz' n f),[])
     |some (.d (.int _ h))=>some (.d (.sl sz' h.toNat f),[0<=h,h<=n])
     |_=>none
    |some (.d (.int _ l))=>match hi with
     |none=>some (.d (.sl sz' (n-l.toNat) fun i=>f (l.toNat+i)),[0<=l,l<=n])
     |some (.d (.int _ h))=>some (.d (.sl sz' (h.toNat-l.toNat) fun i=>f (l.toNat+i)),[0<=l,l<=h,h<=n])
     |_=>none
    |_=>none
   else none
  | .d .nils=>match lo with
   |none=>match hi with
    |none=>some (.d .nils,[])
    |some (.d (.int _ h))=>some (.d .nils,[h=0])
    |_=>none
   |some (.d (.int _ l))=>match hi with
    |none=>some (.d .nils,[l=0])
    |some (.d (.int _ h))=>some (.d .nils,[l=0,h=0])
    |_=>none
   |_=>none
  | .osl r g off n=>match m.get r with
   | some (.vec _ sz' g' _ _)=>bif Nat.beq sz' sz then
     match lo with
     |none=>match hi with
      |none=>some (.osl r g off n,[g'=g])
      |some (.d (.int _ h))=>some (.osl r g off h.toNat,[g'=g,0<=h,h<=n])
      |_=>none
     |some (.d (.int _ l))=>match hi with
      |none=>some (.osl r g (off+l.toNat) (n-l.toNat),[g'=g,0<=l,l<=n])
      |some (.d (.int _ h))=>some (.osl r g (off+l.toNat) (h.toNat-l.toNat),[g'=g,0<=l,l<=h,h<=n])
      |_=>none
     |_=>none
    else none
   |_=>none
  |_=>none
def evCap (T:Tab)(t:TypeId)(A:AV):Option (AV × List Prop) :=
 match elemOf T t with
 |none=>none
 |some _=>match A with
  | .d .nils=>some (.d (.int .i64 0),[])
  |_=>none
def evIfc (T:Tab)(t:TypeId)(A:AV):Option (AV × List Prop) :=
 match T.at t with
 |none=>none
 | some ti=>match ti.k with
  | .ifc | .other=>none
  |_=>match A with
   | .d x=>some (.d (.ifc t x),[])
   |A=>some (.ifc t A,[])
def evConv (T:Tab) (src dst:TypeId) (A:AV):Option (AV × List Prop) :=
 match A with
 | .d (.int _ n)=>match T.at src with
  | some ti=>match ti.k with
   | .int _=>match T.at dst with
    | some tj=>match tj.k with
     | .int k=>match k with
      | .u64=>none
      |k=>some (.d (.int k n),[In k n])
     |_=>none
    |none=>none
   |_=>none
  |none=>none
 |_=>none
def evIndex (T:Tab) (t:TypeId) (A I:AV):Option (AV × List Prop) :=
 match arrOf T t with
 | none=>match smlOf T t with
  |none=>none
  | some (n,sz)=>match A with
   | .d (.agg cs)=>match I with
    | .d (.int _ i)=>match dcut cs (i.toNat*sz) sz with
     |some l=>some (.d (.agg l),[0<=i,i<(n:Int)])
     |none=>none
    |_=>none
   |_=>none
 | some (n,e)=>match T.at e with
  |none=>none
  | some te=>bif te.k.agg then none else match A with
   | .d (.agg cs)=>match I with
    | .d (.int _ i)=>some (.d (cs.getD i.toNat .nilp),[0<=i,i<(n:Int),cs.length=n])
    |_=>none
   |_=>none
def evField (T:Tab) (t:TypeId) (k:Nat) (A:AV):Option (AV × List Prop) :=
 match fieldOf T t k with
 |none=>none
 | some (o,u)=>match T.at u with
  |none=>none
  | some ti=>match A with
   | .d (.agg cs)=>bif ti.k.agg then match dcut cs o ti.size with
     |some l=>some (.d (.agg l),[])
     |none=>none
    else match dlook cs o with
     |some x=>some (.d x,[])
     |none=>none
   | .agg cs=>bif ti.k.agg then match acut cs o ti.size with
     |some l=>some (.agg l,[])
     |none=>none
    else match alook cs o with
     |some x=>some (x,[])
     |none=>none
   |_=>none
def cellsA:AV->Option (List AV)
 | .agg cs=>some cs
 | .d (.agg ds)=>some (up ds)
 |_=>none
def partA (T:Tab)(u:TypeId)(cs:List AV)(o:Nat):Option AV :=
 match T.at u with
 |none=>none
 | some ti=>bif ti.k.agg then match acut cs o ti.size with
   |some l=>some (.agg l)
   |none=>none
  else alook cs o
def eqFs (T:Tab) (f:TypeId→AV→AV→Option Bool):List (Nat × TypeId)→List AV→List AV→Option Bool
 |[],_,_=>some true
 | (o,u) :: r,cs,ds=>match partA T u cs o with
  |none=>none
  | some x=>match partA T u ds o with
   |none=>none
   | some y=>match f u x y with
    |none=>none
    | some b=>match r with
     |[]=>some b
     |_=>match eqFs T f r cs ds with
      |none=>none
      |some c=>some (b&&c)
def eqAt (T:Tab):Nat→TypeId→AV→AV→Option Bool
 |0,_,_,_=>none
 | n + 1,t,x,y=>match T.at t with
  |none=>none
  | some ti=>match ti.k with
   | .int _=>match x with
    | .d (.int k a)=>match y with
     | .d (.int k' b)=>bif decide (k=k') then some (decide (a=b)) else none
     |_=>none
    |_=>none
   | .bool=>match x with
    | .d (.bool a)=>match y with
     | .d (.bool b)=>some (a==b)
     |_=>none
    |_=>none
   | .str=>match x with
    | .d (.str a)=>match y with
     | .d (.str b)=>some (decide (a=b))
     |_=>none
    |_=>none
   | .st fs=>bif ti.eq then match cellsA x with
     |none=>none
     |some cs=>match cellsA y with
      |none=>none
      |some ds=>eqFs T (eqAt T n) fs cs ds
    else none
   |_=>none
def isCmp:AV->Bool
 | .d (.bool _)=>true
 | .d (.agg _)=>true
 | .agg _=>true
 |_=>false
def evStr (op:BinOp)(x y:AV):Option (AV × List Prop) :=
 match x with
 | .d (.str a)=>match y with
  | .d (.str b)=>match op with
   | .eql=>some (.d (.bool (decide (a=b))),[])
   | .neq=>some (.d (.bool (!decide (a=b))),[])
   |_=>none
  |_=>none
 |_=>none
def evEq (T:Tab)(op:BinOp)(t:TypeId)(x y:AV):Option (AV × List Prop) :=
 match evStr op x y with
 |some r=>some r
 | none=>bif isCmp x && isCmp y then match op with
  | .eql=>match eqAt T 8 t x y with
   |some b=>some (.d (.bool b),[])
   |none=>none
  | .neq=>match eqAt T 8 t x y with
   |some b=>some (.d (.bool (!b)),[])
   |none=>none
  |_=>none
 else none
def isNilI:AV->Option Bool
 | .d .nili=>some true
 | .d (.ifc _ _)=>some false
 | .ifc _ _=>some false
 |_=>none
def evNilEq (T:Tab) (op:BinOp) (t:TypeId) (y:Operand) (a:AV):Option (AV × List Prop) :=
 match y with
 | .const .nilIface=>match T.at t with
  | some ti=>match ti.k with
   | .ifc=>match isNilI a with
    |some b=>match op with
     | .eql=>some (.d (.bool b),[])
     | .neq=>some (.d (.bool (!b)),[])
     |_=>none
    |none=>none
   |_=>none
  |none=>none
 |_=>none
section sound
variable {P:Program}{T:Tab}{w:World}{F:Nat->Prop}{σ:Pls}{m:Mem}
theorem beqStrL (a b:ByteArray):(a.toList==b.toList)=decide (a=b):=by
 rw[Bool.eq_iff_iff,decide_eq_true_iff,beq_iff_eq,ByteArray.toList_eq,ByteArray.toList_eq]
 cases a with|mk x=>cases b with|mk y=>simp
theorem beqStr (a b:ByteArray):(a==b)=decide (a=b):=by
 rw[Bool.eq_iff_iff,decide_eq_true_iff]
 cases a with|mk x=>cases b with|mk y =>
 simp only[ByteArray.mk.injEq]
 show(x==y)=true↔_
 exact beq_iff_eq
theorem evNilEq_ok (hT:TabOk P T){op:BinOp}{t:TypeId}{x:AV}{p q:Operand}{X Y:Value}{A:AV}{obs:List Prop}(hx:Vc w F σ x X)(hq:∀v,q=.const v->Y=v)
  (h:evNilEq T op t q x=some (A,obs)):ReadsAs P F σ w (do eqGuard op t p q X Y;binOp op t X Y) A:=by
 unfold evNilEq at h
 split at h<;>try (cases h;done)
 have:=hq _ rfl
 subst this
 split at h<;>try (cases h;done)
 rename_i ti hti
 split at h<;>try (cases h;done)
 rename_i hk
 split at h<;>try (cases h;done)
 rename_i b hb
 have hkind:=tiIs_kind (hT _ _ hti)
 rw[hk]at hkind
 obtain⟨ms,hu⟩:∃ms,P.underlying t=some (.interface ms):=by
  simp only[kindIs]at hkind
  split at hkind
  .rename_i ms h;exact⟨ms,h⟩
  .cases hkind
 have key:(X=.nilIface/\b=true)\/((∃tx vx,X=.iface tx vx)/\b=false):=by
  unfold isNilI at hb
  split at hb<;>try (cases hb;done)
  .cases hb
   cases hx with|d hx=>cases hx;exact .inl ⟨rfl,rfl⟩
  .cases hb
   cases hx with|d hx=>cases hx;exact .inr ⟨⟨_,_,rfl⟩,rfl⟩
  .cases hb
   cases hx;exact .inr ⟨⟨_,_,rfl⟩,rfl⟩
 have hrun:∀w',(Op.equal t X .nilIface).run P w'=.ok b w':=fun w'=>by
  have key2:∀d,(Op.equalIn (d+1) t X .nilIface).run P w'=.ok b w':=fun d=>by
   rcases key with ⟨rfl,rfl⟩|⟨⟨tx,vx,rfl⟩,rfl⟩
   .unfold Op.equalIn;simp[run_underlying hu]
   .unfold Op.equalIn;simp[run_underlying hu]
  exact key2 9999
 have hg:∀w',(eqGuard op t p (.const .nilIface) X .nilIface).run P w'=.ok () w':=fun w'=>by
  rcases key with ⟨rfl,rfl⟩|⟨⟨tx,vx,rfl⟩,rfl⟩
  .unfold eqGuard;cases op<;>simp
  .unfold eqGuard;cases op<;>simp
 have hbin:∀op',op'=.eql\/op'=.neq->binOp op' t X .nilIface=(match op' with | .eql=>(do pure (.bool (<-Op.equal t X .nilIface)):Sem Value)|_=>do pure (.bool (!(<-Op.equal t X .nilIface)))):=fun op' h=>by
  rcases key with ⟨rfl,_⟩|⟨⟨tx,vx,rfl⟩,_⟩<;>rcases h with rfl|rfl<;>rfl
 split at h<;>simp only[Option.some.injEq,Prod.mk.injEq,reduceCtorEq]at h
 .obtain⟨rfl,rfl⟩:=h
  refine⟨.bool b,.d .bool,fun w' _=>?_⟩
  simp[hg w',hbin .eql (.inl rfl),hrun w']
 .obtain⟨rfl,rfl⟩:=h
  refine⟨.bool (!b),.d .bool,fun w' _=>?_⟩
  simp[hg w',hbin .neq (.inr rfl),hrun w']
theorem cellsA_ok {x:AV}{X:Value}{cs:List AV}(h:Vc w F σ x X)(hc:cellsA x=some cs) :
  ∃us:List Value,X=.agg us.toArray/\us.length=cs.length/\∀(j:Nat) A u,cs[j]?=some A->us[j]?=some u->Vc w F σ A u:=by
 unfold cellsA at hc
 split at hc<;>try (cases hc;done)
 .injection hc with hc
  subst hc
  cases h with|agg hl h=>exact⟨_,rfl,hl,h⟩
 .injection hc with hc
  subst hc
  cases h with
  |d h=>cases h with
   | agg hl h=>exact ⟨_,rfl,by rw [up_eq,List.length_map];exact hl,fun j A u hA hu=>by
     obtain⟨x,hx,rfl⟩:=up_at hA
     exact .d (h j x u hx hu)⟩
theorem partA_ok (hT:TabOk P T){u:TypeId}{cs:List AV}{us:List Value}{o:Nat}{A:AV}(hl:us.length=cs.length)(h:∀(j:Nat) A u,cs[j]?=some A->us[j]?=some u->Vc w F σ A u)
  (hp:partA T u cs o=some A):∃v,Vc w F σ A v/\∀w',(part u us.toArray o).run P w'=.ok v w':=by
 unfold partA at hp
 split at hp<;>try (cases hp;done)
 rename_i ti hti
 have ht:=hT _ _ hti
 cases hagg:ti.k.agg with
 | true =>
  rw[hagg]at hp
  simp only[cond_true]at hp
  split at hp<;>try (cases hp;done)
  rename_i l hcut
  injection hp with hp
  subst hp
  obtain⟨h1,h2⟩:=acut_eq hcut
  refine⟨.agg ((us.drop o).take ti.size).toArray,.agg ?_ fun j x u hx hu=>?_,fun w'=>by simp[part,run_isAgg ht,hagg,run_sizeOf ht,List.extract_eq_take_drop]⟩
  .rw[h1];simp
   rcases Nat.eq_zero_or_pos ti.size with h0|h0
   .omega
   .have:=(h2 (ti.size-1) Om).2;omega
  .rw[List.getElem?_take]at hu
   split at hu
   .rename_i hj
    exact h (o+j) x u (by rw[<-(h2 j hj).1];exact hx) (by simpa[List.getElem?_drop] using hu)
   .cases hu
 |false =>
  rw[hagg]at hp
  simp only[cond_false]at hp
  rw[alook_eq]at hp
  have hlt:=(List.getElem?_eq_some_iff.1 hp).1
  have hu':us[o]?=some (us[o]'Om):=List.getElem?_eq_getElem Om
  exact⟨_,h o A _ hp hu',fun w'=>by simp[part,run_isAgg ht,hagg,hu']⟩
theorem kindIs_bool {t:TypeId}(h:kindIs P t .bool=true):P.underlying t=some .bool:=by
 simp only[kindIs]at h
 split at h
 .assumption
 .cases h
theorem kindIs_str {t:TypeId}(h:kindIs P t .str=true):P.underlying t=some .string:=by
 simp only[kindIs]at h
 split at h
 .assumption
 .cases h
theorem kindIs_int {t:TypeId}{k:IntKind}(h:kindIs P t (.int k)=true):P.underlying t=some (.int k):=by
 simp only[kindIs]at h
 split at h
 .rename_i k' e;rw[e,of_decide_eq_true h]
 .cases h
theorem eqFs_ok (hT:TabOk P T){n:Nat}(ih:∀(t:TypeId) (x y:AV) (X Y:Value) (b:Bool),Vc w F σ x X->Vc w F σ y Y->eqAt T n t x y=some b->∀d,n<=d->∀w',(Op.equalIn d t X Y).run P w'=.ok b w')
  {cs ds:List AV} {us vs:List Value} (hl:us.length=cs.length) (h:∀(j:Nat) A u,cs[j]?=some A->us[j]?=some u->Vc w F σ A u) (hl':vs.length=ds.length) (h':∀(j:Nat) A u,ds[j]?=some A->vs[j]?=some u->Vc w F σ A u) :
  ∀(gs:List (Nat × TypeId)) (fs:List Field) (b:Bool),fs.map (fun f=>(f.offset,f.type))=gs->(∀f∈fs,f.name≠ "_")->eqFs T (eqAt T n) gs cs ds=some b->∀d,n<=d->∀w',(Op.eqFields d us.toArray vs.toArray fs).run P w'=.ok b w'
 |[],fs,b,hg,hn,he,d,hd,w'=>by
  have:fs=[]:=by simpa using hg
  subst this
  simp[eqFs]at he
  subst he
  simp[Op.eqFields]
 | (o,u) :: r,fs,b,hg,hn,he,d,hd,w'=>by
  cases fs with
  |nil=>simp at hg
  | cons f fs =>
   simp only[List.map_cons,List.cons.injEq,Prod.mk.injEq]at hg
   obtain⟨⟨ho,hu⟩,hg2⟩:=hg
   subst ho;subst hu
   simp only[eqFs]at he
   split at he<;>try (cases he;done)
   rename_i x hx
   split at he<;>try (cases he;done)
   rename_i y hy
   split at he<;>try (cases he;done)
   rename_i b1 hb1
   obtain⟨X,hX,rX⟩:=partA_ok hT hl h hx
   obtain⟨Y,hY,rY⟩:=partA_ok hT hl' h' hy
   have h1:=ih _ x y X Y b1 hX hY hb1 d hd
   simp only[Op.eqFields]
   rw[if_pos (hn f (by simp))]
   simp only[Sem.run_bind,rX w',Result.andThen_ok,rY w',h1 w',Sem.run_ite]
   split at he
   .injection he with he
    subst he
    have:fs=[]:=by simpa using hg2
    subst this
    cases b1<;>simp[Op.eqFields]
   .split at he<;>try (cases he;done)
    rename_i c hc
    injection he with he
    subst he
    cases b1 with
    |false=>simp
    |true=>simpa using eqFs_ok hT ih hl h hl' h' r fs c hg2 (fun g hg=>hn g (by simp[hg])) hc d hd w'
theorem fieldsAre_map:∀{fs:List Field} {gs:List (Nat × TypeId)},fieldsAre P fs gs=true->fs.map (fun f=>(f.offset,f.type))=gs
 |[],[],_=>rfl
 |f::r,(o,u)::s,h=>by
  simp only[fieldsAre,Bool.and_eq_true]at h
  obtain⟨⟨⟨h1,h2⟩,_⟩,h4⟩:=h
  simp only[List.map_cons,fieldsAre_map h4,Nat.eq_of_beq_eq_true h1,Nat.eq_of_beq_eq_true h2]
 |[],_::_,h=>by simp[fieldsAre]at h
 |_::_,[],h=>by simp[fieldsAre]at h
theorem eqAt_ok (hT:TabOk P T):∀(n:Nat) (t:TypeId) (x y:AV) (X Y:Value) (b:Bool),Vc w F σ x X->Vc w F σ y Y->eqAt T n t x y=some b->∀d,n<=d->∀w',(Op.equalIn d t X Y).run P w'=.ok b w'
 |0,_,_,_,_,_,_,_,_,h,_,_,_=>by simp[eqAt]at h
 | n + 1,t,x,y,X,Y,b,hx,hy,h,d,hd,w'=>by
  obtain⟨d,rfl⟩:∃d',d=d'+1:=⟨d-1,Om⟩
  simp only[eqAt]at h
  split at h<;>try (cases h;done)
  rename_i ti hti
  have ht:=hT _ _ hti
  have hk:=tiIs_kind ht
  split at h<;>try (cases h;done)
  .rename_i k ek
   rw[ek]at hk
   split at h<;>try (cases h;done)
   rename_i k1 a
   split at h<;>try (cases h;done)
   rename_i k2 c
   cases hkk:decide (k1=k2) with
   |false=>rw[hkk]at h;cases h
   |true =>
    rw[hkk]at h
    simp only[cond_true,Option.some.injEq]at h
    have:=of_decide_eq_true hkk
    subst this;subst h
    have:=hx.int;subst this
    have:=hy.int;subst this
    rw[run_equalIn_int w' d t k1 k a c (kindIs_int hk)]
    congr 1
  .rename_i ek
   rw[ek]at hk
   split at h<;>try (cases h;done)
   split at h<;>try (cases h;done)
   injection h with h
   subst h
   have:=hx.bool;subst this
   have:=hy.bool;subst this
   exact run_equalIn_bool' w' d t _ _ (kindIs_bool hk)
  .rename_i ek
   rw[ek]at hk
   split at h<;>try (cases h;done)
   split at h<;>try (cases h;done)
   injection h with h
   subst h
   have:=hx.str;subst this
   have:=hy.str;subst this
   rw[<-beqStr]
   simp only[Op.equalIn,Sem.run_bind,run_underlying (kindIs_str hk),Result.andThen_ok,Sem.run_pure]
  .rename_i gs ek
   rw[ek]at hk
   cases heq:ti.eq with
   |false=>rw[heq]at h;cases h
   |true =>
    rw[heq]at h
    simp only[cond_true]at h
    split at h<;>try (cases h;done)
    rename_i cs hcs
    split at h<;>try (cases h;done)
    rename_i ds hds
    obtain⟨us,rfl,l1,v1⟩:=cellsA_ok hx hcs
    obtain⟨vs,rfl,l2,v2⟩:=cellsA_ok hy hds
    obtain⟨e1,_,e3⟩:=tiIs_eq ht heq
    simp only[kindIs]at hk
    split at hk<;>try (cases hk;done)
    rename_i fs hfs
    have hfo:P.fieldsOf t=fs:=by simp[Program.fieldsOf,hfs]
    rw[run_equalIn_struct w' d t _ _ (by rw[hfo];exact hfs) e1,hfo]
    exact eqFs_ok hT (eqAt_ok hT n) l1 v1 l2 v2 gs fs.toList b (fieldsAre_map hk) (e3 fs hfs) h d Om w'
theorem evEq_ok (hT:TabOk P T){op:BinOp}{t:TypeId}{x y:AV}{p q:Operand}{X Y:Value}{A:AV}{obs:List Prop}(hx:Vc w F σ x X)(hy:Vc w F σ y Y)
  (h:evEq T op t x y=some (A,obs)):ReadsAs P F σ w (do eqGuard op t p q X Y;binOp op t X Y) A:=by
 unfold evEq at h
 split at h
 .rename_i r hr
  injection h with h
  subst h
  unfold evStr at hr
  split at hr<;>try (cases hr;done)
  rename_i a
  split at hr<;>try (cases hr;done)
  rename_i b
  have:=hx.str;subst this
  have:=hy.str;subst this
  split at hr<;>try (cases hr;done)
  .injection hr with hr
   injection hr with e1 _
   subst e1
   refine .const (.d .bool) fun w'=>?_
   rw[<-beqStrL]
   simp[eqGuard,binOp,Op.stringOp]
  .injection hr with hr
   injection hr with e1 _
   subst e1
   refine .const (.d .bool) fun w'=>?_
   rw[<-beqStrL]
   simp[eqGuard,binOp,Op.stringOp]
 cases hc:(isCmp x&&isCmp y) with
 |false=>rw[hc]at h;cases h
 | true =>
  rw[hc]at h
  simp only[cond_true]at h
  have key:∀b,eqAt T 8 t x y=some b->∀w',(Op.equal t X Y).run P w'=.ok b w':=fun b hb w'=>eqAt_ok hT 8 t x y X Y b hx hy hb 10000 Om w'
  have hguard:∀b,eqAt T 8 t x y=some b->∀w',(eqGuard op t p q X Y).run P w'=.ok () w':=by
   intro b hb w'
   simp only[eqAt]at hb
   split at hb<;>try (cases hb;done)
   rename_i ti hti
   split at hb<;>try (cases hb;done)
   .split at hb<;>try (cases hb;done)
    simp[isCmp]at hc
   .split at hb<;>try (cases hb;done)
    have:=hx.bool;subst this
    rw[eqGuard_at_bool];rfl
   .split at hb<;>try (cases hb;done)
    simp[isCmp]at hc
   .cases heq:ti.eq with
    |false=>rw[heq]at hb;cases hb
    |true =>
     rw[heq]at hb
     simp only[cond_true]at hb
     split at hb<;>try (cases hb;done)
     rename_i cs hcs
     split at hb<;>try (cases hb;done)
     rename_i ds hds
     obtain⟨us,rfl,_⟩:=cellsA_ok hx hcs
     obtain⟨vs,rfl,_⟩:=cellsA_ok hy hds
     exact run_eqGuard_agg w' op t p q _ _ (tiIs_eq (hT _ _ hti) heq).2.1
  have hshape:(∃b,X=.bool b)\/∃us,X=.agg us:=by
   simp only[Bool.and_eq_true]at hc
   have hc1:=hc.1
   clear hc key hguard h
   unfold isCmp at hc1
   split at hc1
   .exact .inl ⟨_,hx.bool⟩
   .cases hx with|d hx=>cases hx;exact .inr ⟨_,rfl⟩
   .cases hx;exact .inr ⟨_,rfl⟩
   .cases hc1
  split at h<;>try (cases h;done)
  .split at h<;>try (cases h;done)
   rename_i b hb
   simp only[Option.some.injEq,Prod.mk.injEq]at h
   obtain⟨rfl,_⟩:=h
   refine .const (.d .bool) fun w'=>?_
   rw[Sem.run_bind,hguard b hb w',Result.andThen_ok]
   have:binOp .eql t X Y=(do pure (.bool (<-Op.equal t X Y))):=by
    rcases hshape with ⟨b,rfl⟩|⟨us,rfl⟩<;>cases Y<;>rfl
   rw[this]
   simp[key b hb w']
  .split at h<;>try (cases h;done)
   rename_i b hb
   simp only[Option.some.injEq,Prod.mk.injEq]at h
   obtain⟨rfl,_⟩:=h
   refine .const (.d .bool) fun w'=>?_
   rw[Sem.run_bind,hguard b hb w',Result.andThen_ok]
   have:binOp .neq t X Y=(do pure (.bool (!(<-Op.equal t X Y)))):=by
    rcases hshape with ⟨b,rfl⟩|⟨us,rfl⟩<;>cases Y<;>rfl
   rw[this]
   simp[key b hb w']
theorem allD_eq:∀{cs:List AV} {l:List D},allD cs=some l->cs=up l
 |[],l,h=>by simp[allD]at h;subst h;rfl
 | x :: r,l,h=>by
  unfold allD at h
  split at h
  .rename_i e;cases e
  .rename_i x' r' e
   injection e with e1 e2
   subst e1;subst e2
   split at h
   .rename_i l' hl
    injection h with h
    subst h
    simp[up,allD_eq hl]
   .cases h
  .cases h
theorem foldD_ok {cs:List AV}{us:List Value}(hl:us.length=cs.length)(h:∀(j:Nat) A u,cs[j]?=some A->us[j]?=some u->Vc w F σ A u):Vc w F σ (foldD cs) (.agg us.toArray):=by
 unfold foldD
 split
 .rename_i l hd
  have:=allD_eq hd
  subst this
  refine .d (.agg (by rw[hl,up_eq,List.length_map]) fun j x u hx hu=>?_)
  have:=h j (.d x) u (by rw[up_eq,List.getElem?_map,hx];rfl) hu
  cases this with|d h=>exact h
 .exact .agg hl h
theorem CellsOk.zero {vs:List Value}{xs:List D}(h:sameZs vs xs=true):CellsOk w F σ (up xs) vs:=by
 obtain⟨h1,h2⟩:=sameZs_sound (w:=w) (F:=F) h
 refine⟨by rw[up_eq,List.length_map,h1],fun j A u hA hu=>?_⟩
 obtain⟨x,hx,rfl⟩:=up_at hA
 exact⟨.d (h2 j x u hx hu).1,(h2 j x u hx hu).2⟩
theorem sizeAt_ok (hT:TabOk P T){t:TypeId}{n:Nat}(h:sizeAt T t=some n):∃i,P.info? t=some i/\i.size=n:=by
 unfold sizeAt at h
 split at h
 .rename_i ti hti
  injection h with h
  subst h
  obtain⟨i,z,hi,hs,_⟩:=tiIs_info (hT t ti hti)
  exact⟨i,hi,hs⟩
 .cases h
theorem run_fill_one {place:Nat->Option (Nat × Nat)}{i o sz:Nat}{v:Value}{us vs:List Value}{rest:List (Nat × Value)}(hp:place i=some (o,sz))(hv:v.cells=us.toArray)(hs:us.length=sz)(hf:o+sz<=vs.length) :
  Instr.fill place vs.toArray ((i,v)::rest)=Instr.fill place (vs.take o++us++vs.drop (o+us.length)).toArray rest:=by
 have h0:¬ (v.cells.size≠sz\/o+v.cells.size>vs.toArray.size):=by
  rw[hv];simp;omega
 simp only[Instr.fill,hp]
 rw[if_neg (by simpa using h0)]
 congr 1
 rw[hv]
 have:=foldl_set us o 0 vs.toArray (by simp;omega)
 simp only[Nat.add_zero]at this
 rw[<-this]
 simp
theorem fillSt_ok (hT:TabOk P T)(hm:MemOk m σ F w){t:TypeId}{fields:Array Field}{places:List (Nat × Nat)}(hu:P.underlying t=some (.struct fields))
  (hpl:fields.toList.mapM (fun f=>(P.info? f.type).map fun i=>(f.offset,i.size))=some places) :
  ∀(parts:List (Nat × AV)) (vals:List (Nat × Value)) (cs:List AV) (vs:List Value) (p:List Prop) (cs':List AV) (p':List Prop),
   vals.map (·.1)=parts.map (·.1)->(∀(j:Nat) a b,parts[j]?=some a->vals[j]?=some b->Vc w F σ a.2 b.2)->CellsOk w F σ cs vs ->
   fillSt T m t parts cs p=some (cs',p')->(∀q∈p',q)->(∀q∈p,q)/\∃vs',Instr.fill (places.toArray[·]?) vs.toArray vals=some vs'.toArray/\CellsOk w F σ cs' vs'
 |[],vals,cs,vs,p,cs',p',hk,hv,hc,h,hp=>by
  have:vals=[]:=by simpa using hk
  subst this
  simp[fillSt]at h
  obtain⟨rfl,rfl⟩:=h
  exact⟨hp,vs,rfl,hc⟩
 | (i,A) :: r,vals,cs,vs,p,cs',p',hk,hv,hc,h,hp=>by
  cases vals with
  |nil=>simp at hk
  | cons iv vals =>
   obtain⟨i',v⟩:=iv
   simp only[List.map_cons,List.cons.injEq]at hk
   obtain⟨hi,hk2⟩:=hk
   subst hi
   simp only[fillSt]at h
   split at h<;>try (cases h;done)
   rename_i o u hf
   split at h<;>try (cases h;done)
   rename_i sz hsz
   split at h<;>try (cases h;done)
   rename_i new q hcell
   cases hb:(Nat.beq (count new) sz&&Nat.ble (o+sz) (count cs)) with
   |false=>rw[hb]at h;cases h
   | true =>
    rw[hb]at h
    simp only[cond_true]at h
    simp only[Bool.and_eq_true,count_eq]at hb
    have h1:=Nat.eq_of_beq_eq_true hb.1
    have h2:=Nat.le_of_ble_eq_true hb.2
    -- the rest first,to have the conditions
    have hrest:=fillSt_ok hT hm hu hpl r vals (splice cs o new)
    obtain⟨fs,f,hu',hfi,ho,hft,_⟩:=fieldOf_ok hT hf
    rw[hu]at hu'
    injection hu' with hu'
    injection hu' with hu'
    subst hu'
    obtain⟨ii,hii,hisz⟩:=sizeAt_ok hT hsz
    have hplace:places.toArray[i']?=some (o,sz):=by
     have hfl:fields.toList[i']?=some f:=by simpa using hfi
     have:=mapM_at hpl hfl
     obtain⟨b,hb1,hb2⟩:=this
     rw[hft,hii]at hb1
     simp at hb1
     subst hb1
     simpa[ho,hisz] using hb2
    have hq:(∀x∈cat q p,x)->∃us:List Value,v.cells=us.toArray/\CellsOk w F σ new us:=fun hx=>by
     obtain⟨us,e1,e2,e3⟩:=cellsOf_ok hm (hv 0 (i',A) (i',v) rfl rfl) hcell (all_cat hx).1
     exact⟨us,e1,e2,e3⟩
    -- conditions come out of the recursion
    have hpp:∀x∈cat q p,x:=fillSt_conds r _ _ _ _ h hp
    obtain⟨us,hus,hcu⟩:=hq hpp
    have hsp:=hc.splice hcu (by rw[h1];exact h2)
    obtain⟨_,vs',e1,e2⟩:=hrest (vs.take o++us++vs.drop (o+us.length)) (cat q p) cs' p' hk2 (fun j a b ha hb=>hv (j+1) a b (by simpa using ha) (by simpa using hb)) hsp h hp
    refine⟨(all_cat hpp).2,vs',?_,e2⟩
    rw[run_fill_one hplace hus (by rw[hcu.1,h1]) (by rw[hc.1];exact h2)]
    exact e1
where
 fillSt_conds {t:TypeId}:∀(parts:List (Nat × AV)) (cs:List AV) (p:List Prop) (cs':List AV) (p':List Prop),fillSt T m t parts cs p=some (cs',p')->(∀q∈p',q)->∀q∈p,q
  |[],cs,p,cs',p',h,hp=>by simp[fillSt]at h;obtain⟨_,rfl⟩:=h;exact hp
  | (i,A) :: r,cs,p,cs',p',h,hp=>by
   simp only[fillSt]at h
   split at h<;>try (cases h;done)
   rename_i o u _
   split at h<;>try (cases h;done)
   rename_i sz _
   split at h<;>try (cases h;done)
   rename_i new q _
   cases hb:(Nat.beq (count new) sz&&Nat.ble (o+sz) (count cs)) with
   |false=>rw[hb]at h;cases h
   |true =>
    rw[hb]at h
    exact(all_cat (fillSt_conds r _ _ _ _ h hp)).2
 mapM_at {fs:List Field} {places:List (Nat × Nat)} (h:fs.mapM (fun f=>(P.info? f.type).map fun i=>(f.offset,i.size))=some places) {k:Nat} {f:Field} (hk:fs[k]?=some f) :
   ∃b,(P.info? f.type).map (fun i=>(f.offset,i.size))=some b/\places[k]?=some b:=by
  induction fs generalizing places k with
  |nil=>simp at hk
  | cons g r ih =>
   simp only[List.mapM_cons,Option.bind_eq_bind,Option.pure_def]at h
   cases hg:(P.info? g.type).map (fun i=>(g.offset,i.size)) with
   |none=>rw[hg]at h;simp at h
   | some b =>
    rw[hg]at h
    simp only[Option.bind_some]at h
    cases hr:r.mapM (fun f=>(P.info? f.type).map fun i=>(f.offset,i.size)) with
    |none=>rw[hr]at h;simp at h
    |some rest =>
     rw[hr]at h
     simp only[Option.bind_some,Option.some.injEq]at h
     subst h
     cases k with
     |zero=>simp at hk;subst hk;exact⟨b,hg,rfl⟩
     |succ k=>simpa using ih hr (by simpa using hk)
end sound
end Go.Ab
