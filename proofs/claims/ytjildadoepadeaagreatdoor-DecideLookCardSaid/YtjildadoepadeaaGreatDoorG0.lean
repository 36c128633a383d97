/- The plain machine: a deterministic evaluator of the model's code over a heap of its own. Definitions alone; no condition. -/
import GoSem.Step
import Derived.Calls
import Derived.Below
import Derived.Laws.AppendOwn
import Derived.Laws.MakeOwn
import Derived.Laws.CopyRow
import Derived.Deep.MidRow
import Derived.Lib.Space
import Derived.Laws.StructEq
import Derived.ChangeKeysEq
import Derived.RangeFuncRecord
import Derived.Laws.BytesArg
import Derived.Lib.ConvBytes
import Derived.CallsIn
import Derived.TacticsIn
import Derived.LoopNIn
import Derived.Scope
import Derived.RangeFuncLeaves
set_option linter.unusedSimpArgs false
namespace Go.Am
theorem AM:type_of% @Array.getElem?_eq_getElem:=@Array.getElem?_eq_getElem
theorem jL:type_of% @Array.getElem?_eq_some_iff:=@Array.getElem?_eq_some_iff
theorem qi:type_of% @Array.getElem?_push:=@Array.getElem?_push
theorem AE:type_of% @Array.getElem?_setIfInBounds_ne:=@Array.getElem?_setIfInBounds_ne
theorem nT:type_of% @Array.length_toList:=@Array.length_toList
theorem Gi:type_of% @Array.toList_append:=@Array.toList_append
theorem Bf:type_of% @Array.toList_inj:=@Array.toList_inj
theorem zzg:type_of% @Bool.and_eq_false_iff:=@Bool.and_eq_false_iff
theorem cY:type_of% @Bool.and_eq_true:=@Bool.and_eq_true
theorem jM:type_of% @Bool.and_self:=@Bool.and_self
theorem fb:type_of% @Bool.false_eq_true:=@Bool.false_eq_true
theorem zB:type_of% @Bool.false_or:=@Bool.false_or
theorem zo:type_of% @Bool.not_eq_true':=@Bool.not_eq_true'
theorem nY:type_of% @Bool.or_eq_true:=@Bool.or_eq_true
theorem H6:type_of% @Int.eq_ofNat_of_zero_le:=@Int.eq_ofNat_of_zero_le
theorem Gl:type_of% @Int.toNat_natCast:=@Int.toNat_natCast
theorem kS:type_of% @List.all_cons:=@List.all_cons
theorem fD:type_of% @List.all_eq_true:=@List.all_eq_true
theorem mL:type_of% @List.all_nil:=@List.all_nil
theorem uN:type_of% @List.any_eq_false:=@List.any_eq_false
theorem oI:type_of% @List.any_eq_true:=@List.any_eq_true
theorem mY:type_of% @List.append_assoc:=@List.append_assoc
theorem cU:type_of% @List.append_nil:=@List.append_nil
theorem Gn:type_of% @List.cons_append:=@List.cons_append
theorem zr:type_of% @List.drop_drop:=@List.drop_drop
theorem F5:type_of% @List.drop_eq_getElem_cons:=@List.drop_eq_getElem_cons
theorem zzd:type_of% @List.drop_of_length_le:=@List.drop_of_length_le
theorem uO:type_of% @List.ext_getElem? := @List.ext_getElem?
theorem pL:type_of% @List.foldl_cons:=@List.foldl_cons
theorem wg:type_of% @List.getD_eq_getElem?_getD:=@List.getD_eq_getElem?_getD
theorem Gk:type_of% @List.getElem?_append:=@List.getElem?_append
theorem kR:type_of% @List.getElem?_append_left:=@List.getElem?_append_left
theorem lS:type_of% @List.getElem?_append_right:=@List.getElem?_append_right
theorem zza:type_of% @List.getElem?_cons_zero:=@List.getElem?_cons_zero
theorem ja:type_of% @List.getElem?_drop:=@List.getElem?_drop
theorem lD:type_of% @List.getElem?_eq_getElem:=@List.getElem?_eq_getElem
theorem wx:type_of% @List.getElem?_eq_none:=@List.getElem?_eq_none
theorem fB:type_of% @List.getElem?_eq_some_iff:=@List.getElem?_eq_some_iff
theorem lE:type_of% @List.getElem?_map:=@List.getElem?_map
theorem zzh:type_of% @List.getElem?_modify:=@List.getElem?_modify
theorem zn:type_of% @List.getElem?_of_mem:=@List.getElem?_of_mem
theorem nV:type_of% @List.getElem?_take:=@List.getElem?_take
theorem AW:type_of% @List.getElem?_take_of_lt:=@List.getElem?_take_of_lt
theorem hJ:type_of% @List.length_append:=@List.length_append
theorem nW:type_of% @List.length_cons:=@List.length_cons
theorem nX:type_of% @List.length_drop:=@List.length_drop
theorem H7:type_of% @List.length_eq_zero_iff:=@List.length_eq_zero_iff
theorem uQ:type_of% @List.length_map:=@List.length_map
theorem jb:type_of% @List.length_nil:=@List.length_nil
theorem zm:type_of% @List.length_singleton:=@List.length_singleton
theorem ku:type_of% @List.length_take:=@List.length_take
theorem zzi:type_of% @List.map_congr_left:=@List.map_congr_left
theorem zzs:type_of% @List.map_cons:=@List.map_cons
theorem pM:type_of% @List.mem_append:=@List.mem_append
theorem i0:type_of% @List.mem_cons:=@List.mem_cons
theorem sq:type_of% @List.mem_cons_of_mem:=@List.mem_cons_of_mem
theorem qj:type_of% @List.mem_cons_self:=@List.mem_cons_self
theorem zC:type_of% @List.mem_map:=@List.mem_map
theorem ig:type_of% @List.mem_of_getElem? := @List.mem_of_getElem?
theorem mZ:type_of% @List.mem_range:=@List.mem_range
theorem td:type_of% @List.mem_singleton:=@List.mem_singleton
theorem A6:type_of% @List.pairwise_cons:=@List.pairwise_cons
theorem iZ:type_of% @List.set_cons_zero:=@List.set_cons_zero
theorem Gm:type_of% @List.size_toArray:=@List.size_toArray
theorem wz:type_of% @List.take_add_one:=@List.take_add_one
theorem Io:type_of% @List.take_append_drop:=@List.take_append_drop
theorem i9:type_of% @List.take_of_length_le:=@List.take_of_length_le
theorem jN:type_of% @Nat.add_assoc:=@Nat.add_assoc
theorem wF:type_of% @Nat.add_mul:=@Nat.add_mul
theorem iN:type_of% @Nat.add_zero:=@Nat.add_zero
theorem Bg:type_of% @Nat.le_max_left:=@Nat.le_max_left
theorem zp:type_of% @Nat.le_max_right:=@Nat.le_max_right
theorem bg:type_of% @Nat.le_refl:=@Nat.le_refl
theorem iG:type_of% @Nat.le_trans:=@Nat.le_trans
theorem A7:type_of% @Nat.lt_of_le_of_lt:=@Nat.lt_of_le_of_lt
theorem eR:type_of% @Nat.lt_of_lt_of_le:=@Nat.lt_of_lt_of_le
theorem kT:type_of% @Nat.lt_or_ge:=@Nat.lt_or_ge
theorem su:type_of% @Nat.lt_succ_self:=@Nat.lt_succ_self
theorem sx:type_of% @Nat.min_le_left:=@Nat.min_le_left
theorem Be:type_of% @Nat.min_le_right:=@Nat.min_le_right
theorem mX:type_of% @Nat.mod_eq_of_lt:=@Nat.mod_eq_of_lt
theorem wG:type_of% @Nat.mod_lt:=@Nat.mod_lt
theorem sy:type_of% @Nat.mul_comm:=@Nat.mul_comm
theorem nU:type_of% @Nat.mul_le_mul_right:=@Nat.mul_le_mul_right
theorem uS:type_of% @Nat.mul_one:=@Nat.mul_one
theorem Bh:type_of% @Nat.not_lt_zero:=@Nat.not_lt_zero
theorem sz:type_of% @Nat.succ_mul:=@Nat.succ_mul
theorem uR:type_of% @Nat.succ_pos:=@Nat.succ_pos
theorem jX:type_of% @Nat.zero_add:=@Nat.zero_add
theorem pN:type_of% @Nat.zero_le:=@Nat.zero_le
theorem bB:type_of% @Option.bind_eq_some_iff:=@Option.bind_eq_some_iff
theorem cM:type_of% @Option.bind_some:=@Option.bind_some
theorem zzo:type_of% @Option.getD_some:=@Option.getD_some
theorem A8:type_of% @Option.isSome_none:=@Option.isSome_none
theorem bS:type_of% @Option.map_eq_some_iff:=@Option.map_eq_some_iff
theorem gJ:type_of% @Option.map_some:=@Option.map_some
theorem de:type_of% @Option.some.injEq:=@Option.some.injEq
theorem cd:type_of% @Prod.mk.injEq:=@Prod.mk.injEq
theorem pK:type_of% @decide_eq_false:=@decide_eq_false
theorem wE:type_of% @decide_eq_true:=@decide_eq_true
theorem jW:type_of% @decide_eq_true_eq:=@decide_eq_true_eq
theorem ay:type_of% @if_neg:=@if_neg
theorem aC:type_of% @if_pos:=@if_pos

inductive bd where
 |row (cells:List Value) (elem:TypeId) (ro:Bool)
 |map (es:List MapEntry) (clock:Nat)
 |loop (env:List Value) (ps:List Tmp) (assign body:Code) (st:LoopState) (dW:Option Code)
 |dead

inductive Tr where
 |nil
 |node (v:Option bd) (l r:Tr)

def Tr.get:Tr->Nat->Option bd
 | .nil,_=>none
 | .node v l r,i=>match i with
  |0=>v
  |i+1=>if i % 2 == 0 then l.get (i / 2) else r.get (i / 2)

def Tr.set:Nat->Tr->Nat->bd->Tr
 |0,t,_,_=>t
 |n+1,t,i,o =>
  match t with
  | .nil=>match i with
   |0=>.node (some o) .nil .nil
   |i+1=>if i % 2 == 0 then .node none (Tr.set n .nil (i / 2) o) .nil else .node none .nil (Tr.set n .nil (i / 2) o)
  | .node v l r=>match i with
   |0=>.node (some o) l r
   |i+1=>if i % 2 == 0 then .node v (Tr.set n l (i / 2) o) r else .node v l (Tr.set n r (i / 2) o)

structure Heap where
 size:Nat
 tr:Tr
 low:Nat
abbrev aF:=Value->Heap->Prop
abbrev aA:=ByteArray
abbrev ai:=Value

def Heap.get (h:Heap) (A:Nat):Option bd:=if A < h.size then h.tr.get A else none
def Heap.push (h:Heap) (b:bd):Heap:={ h with size:=h.size+1,tr:=h.tr.set (h.size+1) h.size b }
def Heap.set (h:Heap) (A:Nat) (b:bd):Heap:={ h with tr:=h.tr.set (A+1) A b,low:=min h.low A }

def G:Nat:=18446744073709551616

abbrev Env:=List ai
def Env.get:Env->Nat->ai
 | [],_=>undef
 |v::_,0=>v
 |_::r,n+1=>Env.get r n
def Env.set:Env->Nat->ai->Env
 | [],_,_=>[]
 |_::r,0,v=>v::r
 |x::r,n+1,v=>x::Env.set r n v

def iY:ai->Bool
 | .bool _ | .int _ _ | .string _ | .nilFunc | .nilIface=>true
 | .pointer none | .map none=>true
 | .slice none n c=>n == 0 && c == 0
 | .func (.func _) f c=>f.isEmpty && c.isEmpty
 |_=>false
def plain:ai->Bool
 | .agg cs=>cs.toList.all iY
 |v=>iY v
def one:ai->Bool
 | .agg _ | .tuple _=>false
 |_=>true

def dX {Z:Type} (P:Program):Sem Z->Option Z
 | .pure a=>some a
 | .program k=>dX P (k P)
 | .mark _ k=>dX P k
 |_=>none

structure bm where
 desc:TypeId->Option TypeDesc
 info:TypeId->Option (Nat × Nat × List ai)
 fn:FuncId->Option Func
 cmp:TypeId->Bool
 zero:TypeId->Option ai
 gs:List Nat
 rQ:TypeId->String->Option Method
 CT:FuncId->Bool

section
variable (P:Program) (T:bm)

def c9 (t:TypeId):Option Nat:=(T.info t).map (·.1)
def cD (t:TypeId):Option Bool:=(T.desc t).map fun
 | .struct _ | .array _ _=>true
 |_=>false

def cut (cs:List ai) (o n:Nat):Option (List ai):=if o+n<=cs.length then some ((cs.drop o).take n) else none
def an (cs:List ai) (o:Nat) (vs:List ai):List ai:=cs.take o++vs++cs.drop (o+vs.length)

def ia (A o n:Nat) (h:Heap):Option (List ai) :=
 match h.get A with
 |some (.row cs _ _)=>cut cs o n
 |_=>none

def eQ (t:TypeId) (x:ai) (h:Heap):Option ai :=
 match x with
 | .pointer (some ⟨A,o,none⟩) =>
  (cD T t).bind λg =>
   if g then (c9 T t).bind λn=>(ia A o n h).map λl=>.agg l.toArray
   else (ia A o 1 h).bind λl=>l[0]?
 |_=>none

def nQ (A o:Nat) (vs:List ai) (h:Heap):Option Heap :=
 match h.get A with
 |some (.row cs e false)=>if o+vs.length<=cs.length && vs.all one then some (h.set A (.row (an cs o vs) e false)) else none
 |_=>none

def gm (t:TypeId) (x v:ai) (h:Heap):Option Heap :=
 match x with
 | .pointer (some ⟨A,o,none⟩)=>(c9 T t).bind λn=>if v.cells.size=n then nQ A o v.cells.toList h else none
 |_=>none

def newRow (e:TypeId) (cs:List ai) (h:Heap):ai × Heap:=(.pointer (some ⟨h.size,0,none⟩),h.push (.row cs e false))

def lO (x:ai) (k:Nat) (h:Heap):Option (List ai) :=
 match x with
 | .slice (some ⟨A,o,none⟩) n _=>if n*k=0 then some [] else ia A o (n*k) h
 | .slice none 0 _=>some []
 |_=>none

def gA (x:ai) (k:Nat) (h:Heap):Option (Nat × List ai) :=
 match x with
 | .string b=>if k=1 then some (b.size,b.data.toList.map λu=>Value.int .u8 u.toNat) else none
 | .slice _ m _=>(lO x k h).map λl=>(m,l)
 |_=>none

def lA (t:TypeId) (s x:ai) (h:Heap):Option (ai × Heap) :=
 match T.desc t with
 |some (.slice e)=>(T.info e).bind λ(k,bytes,_) =>
  (gA x k h).bind λ(m,news) =>
  match s with
  | .slice base n c =>
   if m=0 then some (s,h) else
   if k=0 || (n+m)*bytes > 140737488355328 || n+m > 1152921504606846976 || !news.all one then none else
   if n+m<=c % G then
    match base with
    |some ⟨A,o,none⟩=>if c < G || c / G=k then (nQ A (o+n*k) news h).map λh'=>(.slice base (n+m) c,h') else none
    |_=>none
   else
    (lO s k h).bind λdt =>
    if c < G then some (.slice (some ⟨h.size,0,none⟩) (n+m) (G*k+(n+m)),h.push (.row (dt++news) e false))
    else match base with
     |some ⟨A,_,none⟩=>match h.get A with
      |some (.row _ e' false) =>
       if e'=e && c / G=k then some (.slice (some ⟨h.size,0,none⟩) (n+m) (G*k+(n+m)),(h.set A .dead).push (.row (dt++news) e false)) else none
      |_=>none
     |_=>none
  |_=>none
 |_=>none

def pH (x:ai) (hi:Nat):Option Nat :=
 match x with
 | .int _ i=>if 0<=i/\i<=hi then some i.toNat else none
 |_=>none

def mQ (len cap:Nat) (l h m:Option ai):Option (Nat × Nat × Nat) :=
 (match m with|some v=>pH v cap|none=>some cap).bind λm' =>
 (match h,m with|some v,_=>pH v m'|none,none=>some len|none,some _=>none).bind λh' =>
 (match l with|some v=>pH v h'|none=>some 0).bind λl'=>some (l',h',m')

def kn (t:TypeId) (x:ai) (l h m:Option ai):Option ai :=
 match T.desc t,x with
 |some .string,.string s=>if m.isSome then none else (mQ s.size s.size l h none).map λ(l',h',_)=>.string (s.extract l' h')
 |some (.array n e),.pointer (some ⟨A,o,none⟩) =>
  (if n < G then mQ n n l h m else none).bind λ(l',h',m')=>(c9 T e).map λk=>.slice (some ⟨A,if m'=l' then o else o+l'*k,none⟩) (h' - l') (m' - l')
 |some (.slice e),.slice a n c =>
  (c9 T e).bind λk =>
  if c < G then
   (mQ n c l h m).bind λ(l',h',m')=>match a with
    |some ⟨A,o,none⟩=>some (.slice (some ⟨A,if m'=l' then o else o+l'*k,none⟩) (h' - l') (m' - l'))
    |none=>some (.slice none (h' - l') (m' - l'))
    |_=>none
  else match a with
   |some ⟨A,o,none⟩ =>
    if c / G=k then
     (mQ n (c % G) l h m).map λ(l',h',m')=>match m with
      |some _=>.slice (some ⟨A,if m'=l' then o else o+l'*k,none⟩) (h' - l') (m' - l')
      |none=>.slice (some ⟨A,o+l'*k,none⟩) (h' - l') (G*k+(m' - l'))
    else none
   |_=>none
 |_,_=>none

def hZ (t:TypeId) (x i:ai):Option ai :=
 match i with
 | .int _ i=>match T.desc t,x with
  |some (.array n e),.pointer (some ⟨A,o,none⟩)=>if 0<=i/\i < n then (c9 T e).map λk=>.pointer (some ⟨A,o+i.toNat*k,none⟩) else none
  |some (.slice e),.slice (some ⟨A,o,none⟩) n _=>if 0<=i/\i < n then (c9 T e).map λk=>.pointer (some ⟨A,o+i.toNat*k,none⟩) else none
  |_,_=>none
 |_=>none

def gg (s:TypeId) (x:ai) (f:Nat):Option ai :=
 match T.desc s,x with
 |some (.struct fs),.pointer (some ⟨A,o,none⟩) =>
  (fs[f]?).bind λf=>(c9 T f.type).bind λn=>if n=0 then none else some (.pointer (some ⟨A,o+f.offset,none⟩))
 |_,_=>none

def uP (t:TypeId) (cs:List ai) (o:Nat):Option ai :=
 (cD T t).bind λg=>if g then (c9 T t).bind λn=>(cut cs o n).map λl=>.agg l.toArray else cs[o]?

def IP (t:TypeId) (x:ai) (f:Nat):Option ai :=
 match T.desc t,x with
 |some (.struct fs),.agg cs=>(fs[f]?).bind λf=>uP T f.type cs.toList f.offset
 |_,_=>none

def uE (E:TypeId->ai->ai->Option Bool) (xs ys:List ai):List (TypeId × Nat)->Option Bool
 | []=>some true
 |(t,o)::r=>(uP T t xs o).bind λa=>(uP T t ys o).bind λb=>(E t a b).bind λc=>if c then uE E xs ys r else some false
def Ao:List Field->Option (List (TypeId × Nat))
 | []=>some []
 |f::fs=>if f.name="_" then none else (Ao fs).map λr=>(f.type,f.offset)::r
def AB (e:TypeId) (k:Nat):Nat->Nat->List (TypeId × Nat)
 |0,_=>[]
 |n+1,i=>(e,i*k)::AB e k n (i+1)
def dS:Nat->TypeId->ai->ai->Option Bool
 |0,_,_,_=>none
 |d+1,t,x,y=>match T.desc t,x,y with
  |some .bool,.bool a,.bool b=>some (a == b)
  |some (.int _),.int k a,.int k' b=>if k=k' then some (a == b) else none
  |some .string,.string a,.string b=>some (a.data.toList == b.data.toList)
  |some (.struct fs),.agg xs,.agg ys=>if T.cmp t then (Ao fs.toList).bind λps=>uE T (dS d) xs.toList ys.toList ps else none
  |some (.array n e),.agg xs,.agg ys=>(c9 T e).bind λk=>uE T (dS d) xs.toList ys.toList (AB e k n 0)
  |_,_,_=>none

def pI (place:Nat->Option (Nat × Nat)) (cells:List ai):List (Nat × ai)->Option (List ai)
 | []=>some cells
 |(i,v)::rest=>(place i).bind λ(o,n) =>
  if v.cells.size=n/\o+n<=cells.length then pI place (an cells o v.cells.toList) rest else none

def Ge:List Field->Option (List (Nat × Nat))
 | []=>some []
 |f::fs=>(c9 T f.type).bind λn=>(Ge fs).map λr=>(f.offset,n)::r

def mJ (t:TypeId) (parts:List (Nat × ai)):Option ai :=
 (T.info t).bind λ(_,_,z) =>
 match T.desc t with
 |some (.struct fs)=>(Ge T fs.toList).bind λplaces=>(pI (λk=>places[k]?) z parts).map λcs=>.agg cs.toArray
 |some (.array _ e)=>(c9 T e).bind λk=>(pI (λi=>some (i*k,k)) z parts).map λcs=>.agg cs.toArray
 |_=>none

def lC (z:List ai) (n:Nat):List ai:=(List.replicate n z).flatten

def rX (t:TypeId) (len:Nat) (parts:List (Nat × ai)) (h:Heap):Option (ai × Heap) :=
 match T.desc t with
 |some (.slice e)=>(T.info e).bind λ(k,_,z) =>
  if len*k > 16777216 || len > 16777216 then none else
  (pI (λi=>some (i*k,k)) (lC z len) parts).map λcs=>(.slice (some ⟨h.size,0,none⟩) len len,h.push (.row cs e false))
 |_=>none

def F2 (t:TypeId) (l c:ai) (h:Heap):Option (ai × Heap) :=
 match T.desc t,l,c with
 |some (.slice e),.int _ l,.int _ c=>(T.info e).bind λ(_,bytes,z) =>
  if 0<=l/\l<=c/\c<=1152921504606846976/\c*bytes<=140737488355328 then
   some (.slice (some ⟨h.size,0,none⟩) l.toNat c.toNat,h.push (.row (lC z c.toNat) e false))
  else none
 |_,_,_=>none

def GI (t:TypeId) (d s:ai) (h:Heap):Option (ai × Heap) :=
 match T.desc t,d with
 |some (.slice e),.slice a n _=>(c9 T e).bind λk =>
  (gA s k h).bind λ(m,src) =>
  if min m n=0 then some (.int .i64 0,h) else
  match a with
  |some ⟨A,o,none⟩=>(nQ A o (src.take (min m n*k)) h).map λh'=>(.int .i64 (min m n:Nat),h')
  |_=>none
 |_,_=>none

def IH (t:TypeId) (x:ai) (h:Heap):Option Heap :=
 match T.desc t,x with
 |some (.slice e),.slice a n _ =>
  if n=0 then some h else
  (T.info e).bind λ(_,_,z) =>
  match a with
  |some ⟨A,o,none⟩=>nQ A o (lC z n) h
  |_=>none
 |_,_=>none

def zw (d:TypeDesc) (x y:ai):Option Bool :=
 match d,x,y with
 | .pointer _,.pointer none,.pointer b=>some b.isNone
 | .pointer _,.pointer (some _),.pointer none=>some false
 | .slice _,.slice none _ _,.slice b _ _=>some b.isNone
 | .slice _,.slice (some _) _ _,.slice none _ _=>some false
 | .map _ _,.map none,.map b=>some b.isNone
 | .map _ _,.map (some _),.map none=>some false
 | .func _ _ _,.nilFunc,.nilFunc=>some true
 | .func _ _ _,.nilFunc,.func _ _ _=>some false
 | .func _ _ _,.func _ _ _,.nilFunc=>some false
 |_,_,_=>none

def nL (op:BinOp) (x y:ai):Option ai :=
 match op,x,y with
 | .add,.int k a,.int k' b=>if k=k' then some (.int k (k.wrap (a+b))) else none
 | .sub,.int k a,.int k' b=>if k=k' then some (.int k (k.wrap (a - b))) else none
 | .eql,.int k a,.int k' b=>if k=k' then some (.bool (a == b)) else none
 | .neq,.int k a,.int k' b=>if k=k' then some (.bool (a != b)) else none
 | .lss,.int k a,.int k' b=>if k=k' then some (.bool (a < b)) else none
 | .leq,.int k a,.int k' b=>if k=k' then some (.bool (a<=b)) else none
 | .gtr,.int k a,.int k' b=>if k=k' then some (.bool (a > b)) else none
 | .geq,.int k a,.int k' b=>if k=k' then some (.bool (a >= b)) else none
 |_,_,_=>none

def bD (op:BinOp) (t:TypeId) (x y:ai):Option ai :=
 match nL op x y with
 |some v=>some v
 |none =>
  match (T.desc t).bind λd=>zw d x y with
  |some b=>(match op with | .eql=>some (.bool b) | .neq=>some (.bool !b)|_=>none)
  |none =>
   if plain x && plain y then
    match x,y with
    | .nilIface,_=>none
    | .agg _,.agg _=>if T.cmp t then (match op with
     | .eql=>(dS T 20 t x y).map λb=>.bool b
     | .neq=>(dS T 20 t x y).map λb=>.bool !b
     |_=>none) else none
    |_,_=>(dX P (binOp op t x y)).bind λv=>if plain v then some v else none
   else none

def bE (t:TypeId) (x:ai) (h:Heap):Option ai :=
 match T.desc t,x with
 |some .string,.string s=>some (.int .i64 s.size)
 |some (.slice _),.slice _ n _=>some (.int .i64 n)
 |some (.map _ _),.map none=>some (.int .i64 0)
 |some (.map _ _),.map (some A)=>(match h.get A with
  |some (.map es _)=>some (.int .i64 es.length)
  |_=>none)
 |_,_=>none

def zs:ai->ai->Bool
 | .bool a,.bool b=>a == b
 | .int j a,.int k b=>decide (j=k) && a == b
 | .string a,.string b=>a.data.toList == b.data.toList
 |_,_=>false
def AK:List ai->List ai->Bool
 | [],[]=>true
 |x::xs,y::ys=>zs x y && AK xs ys
 |_,_=>false
def yY:ai->ai->Bool
 | .agg a,.agg b=>AK a.toList b.toList
 |x,y=>zs x y
def sk (kt:TypeId) (k:ai):Bool:=if plain k then (match dS T 20 kt k k with|some b=>b|none=>false) else false
def nR (kt:TypeId) (k:ai):List MapEntry->Nat->Option (Option (Nat × ai))
 | [],_=>some none
 |e::es,i=>(dS T 20 kt k e.key).bind λb=>if b then some (some (i,e.val)) else nR kt k es (i+1)
def IZ (x:ai) (h:Heap):Option (List MapEntry) :=
 match x with
 | .map none=>some []
 | .map (some A)=>(match h.get A with|some (.map es _)=>some es|_=>none)
 |_=>none
def y9 (t:TypeId) (x k:ai) (ok:Bool) (h:Heap):Option ai :=
 match T.desc t with
 |some (.map kt et) =>
  if sk T kt k then
   (IZ x h).bind λes=>(nR T kt k es 0).bind λr=>(match r with
    |some (_,v)=>some (v,true)
    |none=>(T.zero et).map λz=>(z,false)).map λ(v,b)=>if ok then .tuple #[v,.bool b] else v
  else none
 |_=>none
def nP (t:TypeId) (x k v:ai) (h:Heap):Option Heap :=
 match T.desc t,x with
 |some (.map kt _),.map (some A)=>(match h.get A with
  |some (.map es clock) =>
   if sk T kt k then
    (nR T kt k es 0).bind λr=>match r with
     |some (i,_)=>(es[i]?).bind λe=>if yY e.key k then some (h.set A (.map (es.modify i λe=>{ e with key:=k,val:=v }) clock)) else none
     |none=>some (h.set A (.map (es++[{ key:=k,val:=v,born:=clock }]) (clock+1)))
   else none
  |_=>none)
 |_,_=>none

def aX (e:Env):Operand->ai
 | .tmp t=>e.get t
 | .const v=>v
 | .global g=>.pointer (some ⟨g,0,none⟩)
 | .func f=>.func (.func f) #[] #[]

def Gh (t:TypeId) (x k:ai) (h:Heap):Option Heap :=
 match T.desc t,x with
 |some (.map kt _),.map none=>if sk T kt k then some h else none
 |some (.map kt _),.map (some A)=>(match h.get A with
  |some (.map es clock) =>
   if sk T kt k then
    (nR T kt k es 0).bind λr=>match r with
     |some (i,_)=>some (h.set A (.map (es.eraseIdx i) clock))
     |none=>some (h.set A (.map es clock))
   else none
  |_=>none)
 |_,_=>none

def GC (t:TypeId) (x k:ai) (h:Heap):Option (ai × Heap) :=
 match T.desc t,x with
 |some (.map kt et),.map (some A)=>(match h.get A with
  |some (.map es clock) =>
   if sk T kt k then
    (nR T kt k es 0).bind λr=>match r with
     |some (i,v)=>(es[i]?).bind λe=>if yY e.key k then some (.tuple #[v,.int .i64 e.born],h.set A (.map (es.modify i λe=>{ e with key:=k }) clock)) else none
     |none=>(T.zero et).map λz=>(.tuple #[z,.int .i64 clock],h.set A (.map (es++[{ key:=k,val:=z,born:=clock }]) (clock+1)))
   else none
  |_=>none)
 |_,_=>none
def IF (s:Int):List MapEntry->Nat->Option Nat
 | [],_=>none
 |e::es,i=>if (e.born:Int)=s then some i else IF s es (i+1)
def FN (x s v:ai) (h:Heap):Option Heap :=
 match x,s with
 | .map (some A),.int _ b=>(match h.get A with
  |some (.map es clock)=>(IF b es 0).map λi=>h.set A (.map (es.modify i λe=>{ e with val:=v }) clock)
  |_=>none)
 |_,_=>none

def OA (t:TypeId) (x:ai):Option ai:=match T.desc t with
 |some (.interface _)=>none
 |some _=>some (.iface t x)
 |none=>none
def NR (x:ai) (asserted:TypeId) (ok:Bool):Option ai:=match T.desc asserted with
 |some (.interface _)=>none
 |some _=>(match x with
  | .iface t v=>if t=asserted then some (if ok then .tuple #[v,.bool true] else v) else if ok then (T.zero asserted).map λz=>.tuple #[z,.bool false] else none
  | .nilIface=>if ok then (T.zero asserted).map λz=>.tuple #[z,.bool false] else none
  |_=>none)
 |none=>none
inductive ez where
 |val (v:ai)
 |var (p:ai)
def ez.get (t:TypeId) (h:Heap):ez->Option ai
 | .val v=>some v
 | .var p=>eQ T t p h
def AR (h:Heap):List FieldStep->TypeId->ez->Option (TypeId × ez)
 | [],t,x=>some (t,x)
 |s::rest,t,x=>match T.desc s.struct with
  |some (.struct fs)=>(fs[s.index]?).bind λf =>
   if s.deref then (x.get T t h).bind λp=>(gg T s.struct p s.index).bind λq=>AR h rest f.type (.var q)
   else match x with
    | .var p=>(gg T s.struct p s.index).bind λq=>AR h rest f.type (.var q)
    | .val (.agg cs)=>(uP T f.type cs.toList f.offset).bind λv=>AR h rest f.type (.val v)
    |_=>none
  |_=>none
def Ng (xt:TypeId) (x:ez) (ptr:Bool) (h:Heap):Option ai :=
 match T.desc xt,ptr,x with
 |some (.pointer _),true,x=>x.get T xt h
 |some (.pointer elem),false,x=>(x.get T xt h).bind λp=>eQ T elem p h
 |some _,true,.var p=>(match p with | .pointer (some a)=>some (.pointer (some a))|_=>none)
 |some _,false,x=>x.get T xt h
 |_,_,_=>none
def Iy (t:TypeId) (v:ai) (name:String) (h:Heap):Option (FuncId × ai) :=
 (T.rQ t name).bind λm=>(AR T h m.path.toList t (.val v)).bind λ(xt,x)=>match m.func with
  |some (f,ptr)=>(Ng T xt x ptr h).map λr=>(f,r)
  |none=>none

def za:List ai->Option (List UInt8)
 | []=>some []
 | .int .u8 n::l=>(za l).map (UInt8.ofNat n.toNat::·)
 |_=>none
def sX (s d:TypeId) (x:ai) (h:Heap):Option ai :=
 match T.desc s,T.desc d,x with
 |some (.slice e),some .string,.slice _ _ _=>(match T.desc e with
  |some (.int .u8)=>(lO x 1 h).bind λl=>(za l).map λbs=>.string ⟨bs.toArray⟩
  |_=>none)
 |_,_,_=>none
def vZ (d:TypeId) (x:ai) (h:Heap):Option (ai × Heap) :=
 match T.desc d,x with
 |some (.slice e),.string b=>(match T.desc e,T.info e with
  |some (.int .u8),some (1,_,_)=>if b.size > 1152921504606846976\/e≠5 then none else some (.slice (some ⟨h.size,0,none⟩) b.size (G*1+b.size),h.push (.row (b.data.toList.map λu=>Value.int .u8 u.toNat) e false))
  |_,_=>none)
 |_,_=>none
def AG (t:TypeId):Bool:=match T.desc t with
 |some .string=>true
 |_=>false
def kP (t:TypeId):Bool:=match T.desc t with
 |some (.slice _)=>true
 |_=>false
def xd (t:TypeId) (x:ai):Option ai :=
 match T.desc t,x with
 |some (.slice _),.slice _ _ c=>if c < G then some (.int .i64 c) else none
 |_,_=>none

def eP (e:Env) (o:Oper) (h:Heap):Option (ai × Heap) :=
 if o.op.operands.toList.all λx=>plain (aX e x) then
  match dX P (execOp (aX e) o) with
  |some (.value v)=>if plain v then some (v,h) else none
  |_=>none
 else none

def zl (t u:TypeId):Bool:=u == t || (match T.desc u with|some .string|some (.slice _)=>true|_=>false)

variable (C:Fn->List ai->Heap->Option (ai × Heap))

def fp (e:Env) (o:Oper) (h:Heap):Option (ai × Heap) :=
 let v:=aX e
 match o.op with
 | .move x=>some (v x,h)
 | .assign x=>some (v x,h)
 | .pick c a b=>match v c with | .bool t=>some (if t then v a else v b,h)|_=>none
 | .alloc t=>(T.info t).map λ(_,_,z)=>newRow t z h
 | .box t x=>some (newRow t (v x).cells.toList h)
 | .build t ps=>(mJ T t (ps.toList.map λ(i,x)=>(i,v x))).map λr=>(r,h)
 | .buildSlice t n ps=>rX T t n (ps.toList.map λ(i,x)=>(i,v x)) h
 | .load t a=>(eQ T t (v a) h).map λr=>(r,h)
 | .store t a x=>(gm T t (v a) (v x) h).map λh'=>(undef,h')
 | .nilCheck x=>match v x with
  | .pointer (some a)=>some (.pointer (some a),h)
  | .func (.func f) a b=>some (.func (.func f) a b,h)
  | .iface t a=>some (.iface t a,h)
  |_=>none
 | .binOp op t x y _=>(bD P T op t (v x) (v y)).map λr=>(r,h)
 | .makeFunc fn first captured=>match fn with | .func f=>some (.func (.func f) (first.map v) (captured.map v),h)|_=>none
 | .makeSlice t l c=>F2 T t (v l) (v c) h
 | .slice t x l hi m=>(kn T t (v x) (l.map v) (hi.map v) (m.map v)).map λr=>(r,h)
 | .fieldAddr s x f=>(gg T s (v x) f).map λr=>(r,h)
 | .field t x f=>(IP T t (v x) f).map λr=>(r,h)
 | .indexAddr t x i=>(hZ T t (v x) (v i)).map λr=>(r,h)
 | .extract t i=>match v t with | .tuple vs=>(vs[i]?).map λr=>(r,h)|_=>none
 | .unOp _ _ _=>eP P e o h
 | .convert s d x=>if kP T s then (sX T s d (v x) h).map λr=>(r,h) else if kP T d then (if AG T s then vZ T d (v x) h else none) else eP P e o h
 | .index _ _ _=>eP P e o h
 | .call c=>match c.callee with
  | .builtin .append=>match c.argTypes.toList,c.args.toList with
   | [t,u],[s,x]=>if zl T t u then lA T t (v s) (v x) h else none
   |_,_=>none
  | .builtin .copy=>match c.argTypes.toList,c.args.toList with
   | [t,_],[d,s]=>GI T t (v d) (v s) h
   |_,_=>none
  | .builtin .clear=>match c.argTypes.toList,c.args.toList with
   | [t],[x]=>(IH T t (v x) h).map λh'=>(undef,h')
   |_,_=>none
  | .builtin .len=>match c.argTypes.toList,c.args.toList with
   |t::_,[x]=>(bE T t (v x) h).map λr=>(r,h)
   |_,_=>none
  | .builtin .min=>eP P e o h
  | .builtin .max=>eP P e o h
  | .builtin .delete=>match c.argTypes.toList,c.args.toList with
   |t::_,[m,k]=>(Gh T t (v m) (v k) h).map λh'=>(undef,h')
   |_,_=>none
  | .builtin .cap=>match c.argTypes.toList,c.args.toList with
   |t::_,[x]=>(xd T t (v x)).map λr=>(r,h)
   |_,_=>none
  | .invoke r name=>match v r with
   | .iface t x=>(Iy T t x name h).bind λ(f,y)=>C (.func f) (y::c.args.toList.map v) h
   |_=>none
  | .value f=>match v f with
   | .func (.func f) first captured=>C (.func f) (first.toList++c.args.toList.map v++captured.toList) h
   | .func (.yield A) first captured=>if first.isEmpty && captured.isEmpty then C (.yield A) (c.args.toList.map v) h else none
   |_=>none
  |_=>none
 | .makeMap t r=>match r with
  |none=>some (.map (some h.size),h.push (.map [] 0))
  |some x=>(match T.desc t,v x with
   |some (.map _ _),.int _ _=>some (.map (some h.size),h.push (.map [] 0))
   |_,_=>none)
 | .lookup t x k ok=>(y9 T t (v x) (v k) ok h).map λr=>(r,h)
 | .mapUpdate t m k x=>(nP T t (v m) (v k) (v x) h).map λh'=>(undef,h')
 | .insert t m k x=>(nP T t (v m) (v k) (v x) h).map λh'=>(undef,h')
 | .mapEntry t m k=>GC T t (v m) (v k) h
 | .entryStore _ m s x=>(FN (v m) (v s) (v x) h).map λh'=>(undef,h')
 | .makeInterface t x=>(OA T t (v x)).map λr=>(r,h)
 | .typeAssert x _ t ok=>(NR T (v x) t ok).map λr=>(r,h)
 |_=>none

def jG (ops:Array Oper) (o:Oper) (e:Env):Bool :=
 match o.guard with
 |none=>true
 |some (j,b)=>match (ops[j]?).bind (·.dst) with
  |some t=>(match e.get t with | .bool c=>c == b|_=>false)
  |none=>false

def put (e:Env) (d:Option Tmp) (v:ai):Env:=match d with
 |some d=>e.set d v
 |none=>e

def nM (ops:Array Oper):List Oper->Env->Heap->Option (Env × Heap)
 | [],e,h=>some (e,h)
 |o::rest,e,h =>
  if jG ops o e then
   match fp P T C e o h with
   |some (v,h')=>nM ops rest (put e o.dst v) h'
   |none=>none
  else nM ops rest (put e o.dst undef) h

inductive Ex where
 |normal
 |exit (id:Nat)
 |ret

def iter (f:Env->Heap->Option (Ex × Env × Heap)):Nat->Env->Heap->Option (Ex × Env × Heap)
 |0,_,_=>none
 |n+1,e,h=>match f e h with
  |some (.normal,e',h')=>iter f n e' h'
  |r=>r

variable (D:Array Oper->Env->Heap->Option (Env × Heap))

def Nu (rd:Option Nat) (h:Heap):Bool:=match rd with
 |none=>true
 |some A=>(match h.get A with|some (.loop ..)=>true|_=>false)
def AA (l:Nat) (e:Env) (h:Heap):Option (Ex × Env × Heap) :=
 match h.get l with
 |some (.loop env ps assign body st dW)=>(match st with
  | .busy=>none
  |_=>(match dW with
   |none=>some (.normal,e,h.set l (.loop env ps assign body .exhausted dW))
   |some (.exit id)=>some (.exit id,e,h.set l (.loop env ps assign body .exhausted dW))
   |some .ret=>some (.ret,e,h.set l (.loop env ps assign body .exhausted dW))
   |_=>none))
 |_=>none
def Of (f:FuncId):Bool:=match T.fn f with
 |some fn=>(match fn.body with|some _=>true|none=>false)
 |none=>false
def Ba (rd:Option Nat) (g:ai) (ps:List Tmp) (assign body:Code) (e:Env) (h:Heap):Option (Ex × Env × Heap) :=
 match g with
 | .func (.func f) first captured =>
  if Nu rd h && Of T f then
   match C (.func f) (first.toList++[.func (.yield h.size) #[] #[]]++captured.toList) (h.push (.loop e ps assign body .ready none)) with
   |some (_,h2)=>AA h.size e h2
   |none=>none
  else none
 |_=>none

def cT (rd:Option Nat) (fuel:Nat):Code->Env->Heap->Option (Ex × Env × Heap)
 | .skip,e,h=>some (.normal,e,h)
 | .region _ ops d,e,h=>(if d then D ops e h else nM P T C ops ops.toList e h).map λ(e',h')=>(.normal,e',h')
 | .seq a b,e,h=>match cT rd fuel a e h with
  |some (.normal,e',h')=>cT rd fuel b e' h'
  |r=>r
 | .cond c a b,e,h=>match aX e c with
  | .bool true=>cT rd fuel a e h
  | .bool false=>cT rd fuel b e h
  |_=>none
 | .block id c,e,h=>match cT rd fuel c e h with
  |some (.exit i,e',h')=>if i=id then some (.normal,e',h') else some (.exit i,e',h')
  |r=>r
 | .loop c,e,h=>iter (cT rd fuel c) fuel e h
 | .scope c,e,h=>cT rd fuel c e h
 | .rangeFunc g ps assign body,e,h=>Ba T C rd (aX e g) ps.toList assign body e h
 | .exit id,e,h=>some (.exit id,e,h)
 | .ret,e,h=>some (.ret,e,h)
 | .label _,e,h=>some (.normal,e,h)
 |_,_,_=>none

def nO (e:Env) (h:Heap):ResultVar->Option ai
 | .tmp t=>some (e.get t)
 | .cell a t=>eQ T t (e.get a) h

def jH (fn:Func) (e:Env) (h:Heap):Option ai :=
 match fn.results.toList with
 | [r]=>nO T e h r
 |rs=>(rs.mapM (nO T e h)).map λvs=>.tuple vs.toArray
end

def F4 (gs:List Nat):Operand->Bool
 | .const v=>plain v
 | .global g=>gs.contains g
 |_=>true
def El (gs:List Nat) (o:Oper):Bool:=o.op.operands.toList.all (F4 gs)
def mT (gs:List Nat):Code->Bool
 | .region _ ops _=>ops.toList.all (El gs)
 | .seq a b=>mT gs a && mT gs b
 | .cond c a b=>F4 gs c && mT gs a && mT gs b
 | .block _ c=>mT gs c
 | .loop c=>mT gs c
 | .scope c=>mT gs c
 | .rangeFunc g _ a b=>F4 gs g && mT gs a && mT gs b
 |_=>true
end Go.Am
namespace Go.Am
open Go.RowKit
variable {h:Heap} {u v x:ai} {l m:List ai} {w:World}

theorem Tr.get_nil (i:Nat):Tr.get .nil i=none:=by cases i <;> rfl

theorem Tr.aL:∀ (n:Nat) (t:Tr) (i j:Nat) (o:bd),i < n->(Tr.set n t i o).get j=if j=i then some o else t.get j
 |0,_,_,_,_,h=>by omega
 |n+1,t,i,j,o,h=>by
  cases t with
  |nil =>
   cases i with
   |zero=>cases j with
    |zero=>simp [Tr.set,Tr.get]
    |succ j=>simp [Tr.set,Tr.get]
   |succ i =>
    have hi:i / 2 < n:=by omega
    by_cases he:i % 2=0
    .cases j with
     |zero=>simp [Tr.set,Tr.get,he]
     |succ j =>
      by_cases hj:j % 2=0
      .simp only [Tr.set,Tr.get,he,hj,beq_self_eq_true,if_true,Tr.aL n .nil (i / 2) (j / 2) o hi]
       by_cases e:j=i
       .subst e;simp
       .rw [ay (by omega),ay (by omega)]
      .have re:(j % 2 == 0)=false:=by simpa using hj
       simp only [Tr.set,Tr.get,he,re,beq_self_eq_true,if_true,fb,if_false]
       rw [ay (by intro e;apply hj;have:j=i:=by omega
                  subst this;exact he)]
    .have tI:(i % 2 == 0)=false:=by simpa using he
     cases j with
     |zero=>simp [Tr.set,Tr.get,tI]
     |succ j =>
      by_cases hj:j % 2=0
      .simp only [Tr.set,Tr.get,tI,hj,beq_self_eq_true,if_true,fb,if_false]
       rw [ay (by intro e;apply he;have:j=i:=by omega
                  subst this;exact hj)]
      .have re:(j % 2 == 0)=false:=by simpa using hj
       simp only [Tr.set,Tr.get,tI,re,fb,if_false,Tr.aL n .nil (i / 2) (j / 2) o hi]
       by_cases e:j=i
       .subst e;simp
       .rw [ay (by omega),ay (by omega)]
  |node v l r =>
   cases i with
   |zero=>cases j with
    |zero=>simp [Tr.set,Tr.get]
    |succ j=>simp [Tr.set,Tr.get]
   |succ i =>
    have hi:i / 2 < n:=by omega
    by_cases he:i % 2=0
    .cases j with
     |zero=>simp [Tr.set,Tr.get,he]
     |succ j =>
      by_cases hj:j % 2=0
      .simp only [Tr.set,Tr.get,he,hj,beq_self_eq_true,if_true,Tr.aL n l (i / 2) (j / 2) o hi]
       by_cases e:j=i
       .subst e;simp
       .rw [ay (by omega),ay (by omega)]
      .have re:(j % 2 == 0)=false:=by simpa using hj
       simp only [Tr.set,Tr.get,he,re,beq_self_eq_true,if_true,fb,if_false]
       rw [ay (by intro e;apply hj;have:j=i:=by omega
                  subst this;exact he)]
    .have tI:(i % 2 == 0)=false:=by simpa using he
     cases j with
     |zero=>simp [Tr.set,Tr.get,tI]
     |succ j =>
      by_cases hj:j % 2=0
      .simp only [Tr.set,Tr.get,tI,hj,beq_self_eq_true,if_true,fb,if_false]
       rw [ay (by intro e;apply he;have:j=i:=by omega
                  subst this;exact hj)]
      .have re:(j % 2 == 0)=false:=by simpa using hj
       simp only [Tr.set,Tr.get,tI,re,fb,if_false,Tr.aL n r (i / 2) (j / 2) o hi]
       by_cases e:j=i
       .subst e;simp
       .rw [ay (by omega),ay (by omega)]

theorem Heap.size_push (h:Heap) (b:bd):(h.push b).size=h.size+1:=rfl
theorem Heap.size_set (h:Heap) (A:Nat) (b:bd):(h.set A b).size=h.size:=rfl
theorem Heap.dG (h:Heap) (b:bd):(h.push b).low=h.low:=rfl
theorem Heap.bY (h:Heap) (A:Nat) (b:bd):(h.set A b).low=min h.low A:=rfl
theorem Heap.bX (h:Heap) (b:bd) (j:Nat):(h.push b).get j=if j=h.size then some b else h.get j:=by
 simp only [Heap.get,Heap.push,Tr.aL _ _ _ _ _ (su _)]
 by_cases e:j=h.size
 .subst e;simp
 .by_cases hl:j < h.size
  .rw [aC (by omega),ay e,aC hl,ay e]
  .rw [ay (by omega),ay e,ay hl]
theorem Heap.aL (h:Heap) (A:Nat) (b:bd) (j:Nat) (hA:A < h.size):(h.set A b).get j=if j=A then some b else h.get j:=by
 simp only [Heap.get,Heap.set,Tr.aL _ _ _ _ _ (su _)]
 by_cases e:j=A
 .subst e;simp [hA]
 .by_cases hl:j < h.size
  .rw [aC hl,ay e,aC hl,ay e]
  .rw [ay hl,ay e,ay hl]
theorem Heap.aW {A:Nat} {b:bd} (hb:h.get A=some b):A < h.size:=by
 unfold Heap.get at hb
 split at hb
 .assumption
 .cases hb

theorem Env.length_set:∀ (e:Env) (i:Nat) (v:ai),(Env.set e i v).length=e.length
 | [],_,_=>rfl
 |_::_,0,_=>rfl
 |x::r,n+1,v=>by simp [Env.set,Env.length_set r n v]
theorem Env.aL:∀ (e:Env) (i j:Nat) (v:ai),(Env.set e i v).get j=if j=i/\i < e.length then v else e.get j
 | [],_,_,_=>by simp [Env.set,Env.get]
 |x::r,0,j,v=>by cases j <;> simp [Env.set,Env.get]
 |x::r,i+1,j,v=>by
  cases j with
  |zero=>simp [Env.set,Env.get]
  |succ j=>simp [Env.set,Env.get,Env.aL r i j v]
theorem Env.kC:∀ (e:Env) (i:Nat),e.length<=i->e.get i=undef
 | [],_,_=>by simp [Env.get]
 |_::r,i+1,h=>by simp only [Env.get];exact Env.kC r i (by simpa using h)
 |_::_,0,h=>by simp at h
theorem Env.get_eq:∀ (e:Env) (i:Nat),e.get i=(e[i]?).getD undef
 | [],_=>by simp [Env.get]
 |_::_,0=>by simp [Env.get]
 |_::r,i+1=>by simp [Env.get,Env.get_eq r i]

structure Loc where
 b:Nat
 s:Nat
 po:Nat

abbrev bU:=Nat->Option Loc

inductive VR (ρ:bU):ai->ai->Prop where
 |bool (b:Bool):VR ρ (.bool b) (.bool b)
 |int (k:IntKind) (n:Int):VR ρ (.int k n) (.int k n)
 |string (s:aA):VR ρ (.string s) (.string s)
 |lv:VR ρ (.pointer none) (.pointer none)
 |ptr {A o:Nat} {L:Loc} (h:ρ A=some L):VR ρ (.pointer (some ⟨A,o,none⟩)) (.pointer (some ⟨L.b,L.s+o,none⟩))
 |cu:VR ρ (.slice none 0 0) (.slice none 0 0)
 |slice {A o n c:Nat} {L:Loc} {ad:Addr} (h:ρ A=some L) (hc:c < G) (hn:n<=c) (dC:c≠0->ad=⟨L.b,L.s+o,none⟩):VR ρ (.slice (some ⟨A,o,none⟩) n c) (.slice (some ad) n c)
 |bI {A o n c c':Nat} {L:Loc} {ad:Addr} (h:ρ A=some L) (hc:G<=c) (gF:c % G<=c') (hn:n<=c % G) (hk:0 < c / G)
  (hm:c'<=maxLen) (dC:c'≠0->ad=⟨L.b,L.s+o,none⟩/\L.s+o+c'*(c / G)<=L.po):VR ρ (.slice (some ⟨A,o,none⟩) n c) (.slice (some ad) n c')
 |lq:VR ρ (.map none) (.map none)
 |nilFunc:VR ρ .nilFunc .nilFunc
 |map {A:Nat} {L:Loc} (h:ρ A=some L):VR ρ (.map (some A)) (.map (some L.b))
 |yield {A:Nat} {L:Loc} (h:ρ A=some L):VR ρ (.func (.yield A) #[] #[]) (.func (.yield L.b) #[] #[])
 |func (fn:FuncId) {f g c d:Array ai} (hf:f.size=g.size) (hc:c.size=d.size) (h1:∀ (i:Nat) (x y:ai),f[i]? = some x->g[i]? = some y->VR ρ x y)
  (h2:∀ (i:Nat) (x y:ai),c[i]? = some x->d[i]? = some y->VR ρ x y):VR ρ (.func (.func fn) f c) (.func (.func fn) g d)
 |nilIface:VR ρ .nilIface .nilIface
 |iface (t:TypeId) {x y:ai} (h:VR ρ x y):VR ρ (.iface t x) (.iface t y)
 |agg {c d:Array ai} (hc:c.size=d.size) (h:∀ (i:Nat) (x y:ai),c[i]? = some x->d[i]? = some y->VR ρ x y):VR ρ (.agg c) (.agg d)
 |tuple {c d:Array ai} (hc:c.size=d.size) (h:∀ (i:Nat) (x y:ai),c[i]? = some x->d[i]? = some y->VR ρ x y):VR ρ (.tuple c) (.tuple d)

theorem VR.mono {ρ ρ':bU} (hg:∀ A L,ρ A=some L->ρ' A=some L) (h:VR ρ v u):VR ρ' v u:=by
 induction h with
 |bool b=>exact .bool b
 |int k n=>exact .int k n
 |string s=>exact .string s
 |lv=>exact .lv
 |ptr h=>exact .ptr (hg _ _ h)
 |cu=>exact .cu
 |slice h hc hn dC=>exact .slice (hg _ _ h) hc hn dC
 |bI h hc gF hn hk hm dC=>exact .bI (hg _ _ h) hc gF hn hk hm dC
 |lq=>exact .lq
 |map h=>exact .map (hg _ _ h)
 |yield h=>exact .yield (hg _ _ h)
 |nilFunc=>exact .nilFunc
 |func fn hf hc h1 h2 i1 i2=>exact .func fn hf hc i1 i2
 |nilIface=>exact .nilIface
 |iface t h ih=>exact .iface t ih
 |agg hc h ih=>exact .agg hc ih
 |tuple hc h ih=>exact .tuple hc ih

theorem VR.undef (ρ:bU):VR ρ undef undef:=.tuple rfl (by intro i x y hx;simp at hx)

theorem VR.iA (ρ:bU) (h:iY v=true):VR ρ v v:=by
 cases v with
 |bool b=>exact .bool b
 |int k n=>exact .int k n
 |string s=>exact .string s
 |pointer a=>cases a with
  |none=>exact .lv
  |some a=>simp [iY] at h
 |slice a n c=>cases a with
  |none =>
   simp [iY] at h
   obtain ⟨rfl,rfl⟩:=h
   exact .cu
  |some a=>simp [iY] at h
 |map r=>cases r with
  |none=>exact .lq
  |some r=>simp [iY] at h
 |func fn f c =>
  cases fn with
  |func fn =>
   simp [iY] at h
   obtain ⟨rfl,rfl⟩:=h
   exact .func fn rfl rfl (by intro i x y hx;simp at hx) (by intro i x y hx;simp at hx)
  |_=>simp [iY] at h
 |nilFunc=>exact .nilFunc
 |nilIface=>exact .nilIface
 |_=>simp [iY] at h

theorem VR.kB {ρ:bU} (hv:VR ρ v u) (h:iY v=true):u=v:=by
 cases hv with
 |func fn hf hc h1 h2 =>
  simp [iY] at h
  obtain ⟨rfl,rfl⟩:=h
  have e1:∀ (a:Array ai),(#[]:Array ai).size=a.size->a=#[]:=λa ha=>Array.eq_empty_of_size_eq_zero (by simpa using ha.symm)
  rw [e1 _ hf,e1 _ hc]
 |_=>first|rfl|simp [iY] at h

theorem VR.ct (ρ:bU) (h:plain v=true):VR ρ v v:=by
 cases v with
 |agg cs =>
  refine .agg rfl λi x y hx hy=>?_
  have e:x=y:=by rw [hx] at hy;exact Option.some.inj hy
  subst e
  simp only [plain,fD] at h
  exact .iA ρ (h x (by simpa using Array.mem_of_getElem? hx))
 |_=>exact .iA ρ h

theorem VR.bc {ρ:bU} (hv:VR ρ v u) (h:plain v=true):u=v:=by
 cases hv with
 |agg hc hh =>
  rename_i c d
  congr 1
  refine Array.ext hc.symm λi h1 h2=>?_
  simp only [plain,fD] at h
  have hx:c[i]? = some c[i]:=AM h2
  exact (hh i _ _ hx (AM h1)).kB (h _ (by simp))
 |tuple hc hh=>simp [plain,iY] at h
 |func fn hf hc h1 h2=>exact (VR.func fn hf hc h1 h2).kB h
 |_=>first|rfl|(simp [plain,iY] at h;done)

theorem VR.one {ρ:bU} {v u:ai} (hv:VR ρ v u) (h:one v=true):u.oneCell'=true:=by
 cases hv <;> first|rfl|simp [Am.one] at h

def bQ (ρ:bU) (l m:List ai):Prop:=l.length=m.length/\∀ (i:Nat) (x y:ai),l[i]? = some x->m[i]? = some y->VR ρ x y

theorem bQ.nil (ρ:bU):bQ ρ [] []:=⟨rfl,by intro i x y hx;simp at hx⟩
theorem bQ.cons {ρ:bU} {y:ai} (h:VR ρ x y) (hl:bQ ρ l m):bQ ρ (x::l) (y::m) :=
 ⟨by simp [hl.1],λi a b ha hb=>by
  cases i with
  |zero=>simp at ha hb;subst ha hb;exact h
  |succ i=>exact hl.2 i a b (by simpa using ha) (by simpa using hb)⟩
theorem bQ.of_cons {ρ:bU} (h:bQ ρ (x::l) m):∃ y m',m=y::m'/\VR ρ x y/\bQ ρ l m':=by
 cases m with
 |nil=>have:=h.1;simp at this
 |cons y m =>
  exact ⟨y,m,rfl,h.2 0 x y rfl rfl,by have:=h.1;simpa using this,λi a b ha hb=>h.2 (i+1) a b (by simpa using ha) (by simpa using hb)⟩
theorem bQ.of_nil {ρ:bU} (h:bQ ρ [] m):m=[]:=by
 have:=h.1
 simp at this
 exact List.eq_nil_of_length_eq_zero this.symm
theorem bQ.mono {ρ ρ':bU} (hg:∀ A L,ρ A=some L->ρ' A=some L) {l m:List ai} (h:bQ ρ l m):bQ ρ' l m:=⟨h.1,λi x y hx hy=>(h.2 i x y hx hy).mono hg⟩
theorem bQ.append {ρ:bU} {l' m':List ai} (h:bQ ρ l m) (h':bQ ρ l' m'):bQ ρ (l++l') (m++m'):=by
 induction l generalizing m with
 |nil=>rw [h.of_nil];exact h'
 |cons x l ih =>
  obtain ⟨y,m1,rfl,hx,hl⟩:=h.of_cons
  exact .cons hx (ih hl)
theorem bQ.take {ρ:bU} {l m:List ai} (h:bQ ρ l m) (n:Nat):bQ ρ (l.take n) (m.take n):=by
 refine ⟨by simp [h.1],λi x y hx hy=>?_⟩
 rw [nV] at hx hy
 split at hx
 .rename_i hi;rw [aC hi] at hy;exact h.2 i x y hx hy
 .cases hx
theorem bQ.drop {ρ:bU} {l m:List ai} (h:bQ ρ l m) (n:Nat):bQ ρ (l.drop n) (m.drop n) :=
 ⟨by simp [h.1],λi x y hx hy=>h.2 (n+i) x y (by simpa using hx) (by simpa using hy)⟩
theorem bQ.an {ρ:bU} {l m l' m':List ai} (h:bQ ρ l m) (o:Nat) (h':bQ ρ l' m'):bQ ρ (an l o l') (an m o m'):=by
 unfold Am.an
 rw [<- h'.1]
 exact ((h.take o).append h').append (h.drop _)
theorem bQ.cut {ρ:bU} {l m c:List ai} (h:bQ ρ l m) {o n:Nat} (hc:cut l o n=some c):∃ d,cut m o n=some d/\bQ ρ c d:=by
 unfold Am.cut at hc ⊢
 split at hc
 .rename_i hl
  rw [aC (by rw [<- h.1];exact hl)]
  cases hc
  exact ⟨_,rfl,(h.drop o).take n⟩
 .cases hc
theorem bQ.get {ρ:bU} (h:bQ ρ l m) {i:Nat} (hx:l[i]? = some x):∃ y,m[i]? = some y/\VR ρ x y:=by
 have hi:i < l.length:=(fB.1 hx).1
 have hy:m[i]? = some (m[i]'(by rw [<- h.1];exact hi)):=lD _
 exact ⟨_,hy,h.2 i x _ hx hy⟩
theorem bQ.plain (ρ:bU) (h:l.all iY=true):bQ ρ l l:=by
 refine ⟨rfl,λi x y hx hy=>?_⟩
 rw [hx] at hy
 cases hy
 exact .iA ρ (fD.1 h x (ig hx))
theorem bQ.one {ρ:bU} {l m:List ai} (h:bQ ρ l m) (h1:l.all one=true):∀ v∈m,v.oneCell'=true:=by
 intro v hv
 obtain ⟨i,hi⟩:=zn hv
 have hl:i < l.length:=by rw [h.1];exact (fB.1 hi).1
 exact (h.2 i _ v (lD hl) hi).one (fD.1 h1 _ (List.getElem_mem hl))
theorem bQ.toArray {ρ:bU} {l m:List ai} (h:bQ ρ l m):VR ρ (.agg l.toArray) (.agg m.toArray) :=
 .agg (by simp [h.1]) (λi x y hx hy=>h.2 i x y (by simpa using hx) (by simpa using hy))
theorem bQ.fQ {ρ:bU} (h:bQ ρ l m):VR ρ (.tuple l.toArray) (.tuple m.toArray) :=
 .tuple (by simp [h.1]) (λi x y hx hy=>h.2 i x y (by simpa using hx) (by simpa using hy))
theorem VR.wR {ρ:bU} {c d:Array ai} (h:VR ρ (.agg c) (.agg d)):bQ ρ c.toList d.toList:=by
 cases h with
 |agg hc hh=>exact ⟨by simpa using hc,λi x y hx hy=>hh i x y (by simpa using hx) (by simpa using hy)⟩
theorem VR.cells {ρ:bU} {v u:ai} (h:VR ρ v u):bQ ρ v.cells.toList u.cells.toList:=by
 cases h with
 |agg hc hh=>exact (VR.agg hc hh).wR
 |_=>exact .cons (by first|exact .bool _|exact .int _ _|exact .string _|exact .lv|exact .ptr ‹_› | exact .cu|exact .slice ‹_› ‹_› ‹_› ‹_› | exact .bI ‹_› ‹_› ‹_› ‹_› ‹_› ‹_› ‹_› | exact .lq|exact .map ‹_› | exact .yield ‹_› | exact .nilFunc|exact .func _ ‹_› ‹_› ‹_› ‹_› | exact .nilIface|exact .iface _ ‹_› | exact .tuple ‹_› ‹_›) (.nil ρ)

def bH (ρ:bU) (e:Env) (tmps:Array ai):Prop:=e.length=tmps.size/\∀ i,VR ρ (e.get i) (tmps.getD i undef)
theorem bH.mono {ρ ρ':bU} {e:Env} {tmps:Array ai} (he:bH ρ e tmps) (hg:∀ A L,ρ A=some L->ρ' A=some L):bH ρ' e tmps:=⟨he.1,λi=>(he.2 i).mono hg⟩
def jc (ρ:bU) (l m:List MapEntry):Prop:=l.length=m.length/\∀ (i:Nat) (x y:MapEntry),l[i]? = some x->m[i]? = some y->VR ρ x.key y.key/\VR ρ x.val y.val/\x.born=y.born/\plain x.key=true
theorem jc.mono {ρ ρ':bU} (hg:∀ A L,ρ A=some L->ρ' A=some L) {l m:List MapEntry} (h:jc ρ l m):jc ρ' l m :=
 ⟨h.1,λi x y hx hy=>⟨(h.2 i x y hx hy).1.mono hg,(h.2 i x y hx hy).2.1.mono hg,(h.2 i x y hx hy).2.2⟩⟩

def cf (gs:List Nat) (ρ:bU):Prop:=∀ g∈gs,∃ t,ρ g=some ⟨g,0,t⟩
def n5 (ρ:bU):Operand->Prop
 | .const v=>plain v=true
 | .global g=>∃ t,ρ g=some ⟨g,0,t⟩
 |_=>True
def il (ρ:bU) (o:Oper):Prop:=∀ x∈o.op.operands.toList,n5 ρ x
def bT (ρ:bU):Code->Prop
 | .region _ ops _=>∀ o∈ops.toList,il ρ o
 | .seq a b=>bT ρ a/\bT ρ b
 | .cond c a b=>n5 ρ c/\bT ρ a/\bT ρ b
 | .block _ c=>bT ρ c
 | .loop c=>bT ρ c
 | .scope c=>bT ρ c
 | .rangeFunc g _ a b=>n5 ρ g/\bT ρ a/\bT ρ b
 |_=>True
section
variable {ρ ρ':bU} (hg:∀ A L,ρ A=some L->ρ' A=some L)
include hg
theorem cf.mono {gs:List Nat} (h:cf gs ρ):cf gs ρ':=λg hh=>let ⟨t,ht⟩:=h g hh;⟨t,hg _ _ ht⟩
theorem n5.mono {x:Operand} (h:n5 ρ x):n5 ρ' x:=by
 cases x with
 |global g=>exact let ⟨t,ht⟩:=h;⟨t,hg _ _ ht⟩
 |_=>exact h
theorem il.mono {o:Oper} (h:il ρ o):il ρ' o:=λx hx=>(h x hx).mono hg
theorem bT.mono:∀ {c:Code},bT ρ c->bT ρ' c:=by
 intro c
 induction c with
 |region id ops d=>exact λh o ho=>(h o ho).mono hg
 |seq a b fZ ga=>exact λh=>⟨fZ h.1,ga h.2⟩
 |cond c a b fZ ga=>exact λh=>⟨h.1.mono hg,fZ h.2.1,ga h.2.2⟩
 |block id c ih=>exact λh=>ih h
 |loop c ih=>exact λh=>ih h
 |scope c ih=>exact λh=>ih h
 |rangeFunc g ps a b fZ ga=>exact λh=>⟨h.1.mono hg,fZ h.2.1,ga h.2.2⟩
 |_=>exact λ_=>trivial
end
theorem n5.of {gs:List Nat} {ρ:bU} (hG:cf gs ρ) {x:Operand} (h:F4 gs x=true):n5 ρ x:=by
 cases x with
 |global g=>exact hG g (by simpa [F4] using h)
 |const v=>exact h
 |_=>trivial
theorem il.of {gs:List Nat} {ρ:bU} (hG:cf gs ρ) {o:Oper} (h:El gs o=true):il ρ o:=λx hx=>.of hG (fD.1 h x hx)
theorem bT.of {gs:List Nat} {ρ:bU} (hG:cf gs ρ):∀ {c:Code},mT gs c=true->bT ρ c:=by
 intro c
 induction c with
 |region id ops d=>exact λh o ho=>.of hG (fD.1 h o ho)
 |seq a b fZ ga=>exact λh=>by simp only [mT,cY] at h;exact ⟨fZ h.1,ga h.2⟩
 |cond c a b fZ ga=>exact λh=>by simp only [mT,cY] at h;exact ⟨.of hG h.1.1,fZ h.1.2,ga h.2⟩
 |block id c ih=>exact λh=>ih h
 |loop c ih=>exact λh=>ih h
 |scope c ih=>exact λh=>ih h
 |rangeFunc g ps a b fZ ga=>exact λh=>by simp only [mT,cY] at h;exact ⟨.of hG h.1.1,fZ h.1.2,ga h.2⟩
 |_=>exact λ_=>trivial

def live (h:Heap) (A:Nat):Prop:=∃ b,h.get A=some b/\b≠.dead
def jx (h:Heap) (A:Nat):Prop:=∃ cs e,h.get A=some (.row cs e true)

def qd:TypeId:=1099511627776
def qc:List ai:=Lib.asciiSpaceTab.map λz=>Value.int .u8 z
def OE:TypeId:=5
structure jY (e:TypeId) (n:Nat) (fz:Nat × Nat):Prop where
 Qx:∀ j,j < n->¬ (fz.1<=j/\j < fz.2)
 JD:e=OE\/¬ (fz.1<=n/\n < fz.2)
theorem jY.zero (e:TypeId) (n:Nat):jY e n (0,0):=⟨λ_ _ h=>by have:=h.2;simp at this,.inr λh=>by have:=h.2;simp at this⟩
def lT (ρ:bU) (w:World) (L:Loc):Option bd->Prop
 |some (.row cs e true)=>(L.b < w.heap.size/\(e=qd->cs=qc))/\∀ (i:Nat) (v:ai),cs[i]? = some v->∃ u,w.cell? ⟨L.b,L.s+i,none⟩=some u/\VR ρ v u
 |some (.row cs e false)=>∃ (cur:Array ai) (fz:Nat × Nat),w.heap[L.b]? = some (.cells cur e fz)/\jY e cur.size fz/\cur.size=L.po/\∃ m,cut cur.toList L.s cs.length=some m/\bQ ρ cs m
 |some (.map es clock)=>∃ ces:Array MapEntry,w.heap[L.b]? = some (.map ces clock)/\jc ρ es ces.toList
 |some (.loop env ps assign body st dW)=>∃ l:Loop,w.heap[L.b]? = some (.loop l)/\l.state=st/\l.pending=dW/\l.params.toList=ps/\l.assign=assign/\l.body=body/\bH ρ env l.tmps/\bT ρ assign/\bT ρ body
 |some .dead=>L.b < w.heap.size
 |none=>L.b < w.heap.size

theorem lT.keep {ρ ρ':bU} {w':World} {L:Loc} {b:Option bd} (hb:lT ρ w L b) (hg:∀ A L,ρ A=some L->ρ' A=some L) (cA:w.heap.size<=w'.heap.size)
 (hk:(∃ x,b=some x/\x≠.dead)->w'.heap[L.b]? = w.heap[L.b]?):lT ρ' w' L b:=by
 cases b with
 |none=>exact eR hb cA
 |some b =>
  cases b with
  |dead=>exact eR hb cA
  |map es clock =>
   obtain ⟨ces,hc,he⟩:=hb
   exact ⟨ces,(hk ⟨_,rfl,by simp⟩).trans hc,he.mono hg⟩
  |loop env ps assign body st dW =>
   obtain ⟨l,hc,h1,h2,h3,h4,h5,h6,h7⟩:=hb
   exact ⟨l,(hk ⟨_,rfl,by simp⟩).trans hc,h1,h2,h3,h4,h5,h6.mono hg,h7.1.mono hg,h7.2.mono hg⟩
  |row cs e ro =>
   have pT:=hk ⟨_,rfl,by simp⟩
   cases ro with
   |true =>
    refine ⟨⟨eR hb.1.1 cA,hb.1.2⟩,λi v hi=>?_⟩
    obtain ⟨u,hu,jQ⟩:=hb.2 i v hi
    refine ⟨u,?_,jQ.mono hg⟩
    rw [<- hu]
    simp only [World.cell?,pT]
   |false =>
    obtain ⟨cur,fz,hc,lj,ht,m,hm,hv⟩:=hb
    exact ⟨cur,fz,pT.trans hc,lj,ht,m,hm,hv.mono hg⟩

structure bj (ρ:bU) (h:Heap) (w:World):Prop where
 im:∀ A L,ρ A=some L->lT ρ w L (h.get A)
 inj:∀ A A' L L',ρ A=some L->ρ A'=some L'->A≠A'->L.b=L'.b->¬ live h A\/¬ live h A'\/(jx h A/\jx h A')

theorem bj.lt {ρ:bU} (hs:bj ρ h w) {A:Nat} {L:Loc} (hA:ρ A=some L):L.b < w.heap.size:=by
 have hb:=hs.im A L hA
 cases hg:h.get A with
 |none=>rw [hg] at hb;exact hb
 |some b =>
  rw [hg] at hb
  cases b with
  |dead=>exact hb
  |map es clock =>
   obtain ⟨ces,hc,_⟩:=hb
   exact (jL.1 hc).1
  |loop env ps assign body st dW =>
   obtain ⟨l,hc,_⟩:=hb
   exact (jL.1 hc).1
  |row cs e ro =>
   cases ro with
   |true=>exact hb.1.1
   |false =>
    obtain ⟨cur,fz,hc,_⟩:=hb
    exact (jL.1 hc).1

def dL (ρ:bU) (h h':Heap):Prop:=∀ A,h.size<=A->A < h'.size->ρ A=none

structure Fr (ρ ρ':bU) (h h':Heap) (w w':World):Prop where
 grow:∀ A L,ρ A=some L->ρ' A=some L
 fresh:∀ A L,ρ' A=some L->ρ A=none->h.size<=A/\A < h'.size/\(w.heap.size<=L.b\/∃ A0 L0,ρ A0=some L0/\L0.b=L.b/\h'.low<=A0/\A0 < h'.size)
 os:w'.os=w.os
 tape:w'.tape=w.tape
 output:w'.output=w.output
 size:w.heap.size<=w'.heap.size
 eY:h.size<=h'.size
 low:h'.low<=h.low
 keep:∀ b,b < w.heap.size->(∀ A L,ρ A=some L->L.b=b->A < h'.low\/h'.size<=A)->w'.heap[b]? = w.heap[b]?
 n6:∀ A,A < h.size->A < h'.low->h'.get A=h.get A

theorem Fr.refl (ρ:bU) (h:Heap) (w:World):Fr ρ ρ h h w w :=
 ⟨λ_ _ h=>h,λA L h1 h2=>(by rw [h1] at h2;cases h2),rfl,rfl,rfl,bg _,bg _,bg _,λ_ _ _=>rfl,λ_ _ _=>rfl⟩

theorem Fr.trans {ρ ρ' UY:bU} {h h' zK:Heap} {w w' QF:World} (f:Fr ρ ρ' h h' w w') (g:Fr ρ' UY h' zK w' QF):Fr ρ UY h zK w QF:=by
 refine ⟨λA L hA=>g.grow A L (f.grow A L hA),?_,g.os.trans f.os,g.tape.trans f.tape,g.output.trans f.output,iG f.size g.size,iG f.eY g.eY,iG g.low f.low,?_,?_⟩
 .intro A L hA hn
  cases hρ:ρ' A with
  |some L1 =>
   have e:L1=L:=by have:=g.grow A L1 hρ;rw [hA] at this;exact (Option.some.inj this).symm
   subst e
   obtain ⟨h1,b8,h2⟩:=f.fresh A L1 hρ hn
   refine ⟨h1,eR b8 g.eY,?_⟩
   rcases h2 with h2|⟨A0,L0,h0,he,hl,tO⟩
   .exact .inl h2
   .exact .inr ⟨A0,L0,h0,he,iG g.low hl,eR tO g.eY⟩
  |none =>
   obtain ⟨h1,b8,h2⟩:=g.fresh A L hA hρ
   refine ⟨iG f.eY h1,b8,?_⟩
   rcases h2 with h2|⟨A0,L0,h0,he,hl,tO⟩
   .exact .inl (iG f.size h2)
   .cases yu:ρ A0 with
    |some L1 =>
     have e:L1=L0:=by have:=f.grow A0 L1 yu;rw [h0] at this;exact (Option.some.inj this).symm
     subst e
     exact .inr ⟨A0,L1,yu,he,hl,tO⟩
    |none =>
     rcases (f.fresh A0 L0 h0 yu).2.2 with h3|⟨A1,L1,h3,Dj,V4,Lr⟩
     .exact .inl (by omega)
     .exact .inr ⟨A1,L1,h3,Dj.trans he,iG g.low V4,eR Lr g.eY⟩
 .intro b hb aq
  have C9:∀ A L,ρ A=some L->L.b=b->A < h'.low\/h'.size<=A:=λA L hA hL=>by
   have h1:=aq A L hA hL
   have h2:=g.low
   have h3:=g.eY
   omega
  rw [g.keep b (eR hb f.size) ?_,f.keep b hb C9]
  intro A L hA hL
  cases hρ:ρ A with
  |some L0 =>
   have e:L0=L:=by have:=f.grow A L0 hρ;rw [hA] at this;exact (Option.some.inj this).symm
   subst e
   exact aq A L0 hρ hL
  |none =>
   rcases (f.fresh A L hA hρ).2.2 with h1|⟨A0,L0,h0,he,hl,tO⟩
   .omega
   .have h1:=aq A0 L0 h0 (he.trans hL)
    have h2:=g.low
    have h3:=g.eY
    omega
 .intro A hA hl
  rw [g.n6 A (eR hA f.eY) hl,f.n6 A hA (eR hl g.low)]

theorem dL.left {ρ:bU} {h1 h2:Heap} (hf:dL ρ h h2) (hle:h1.size<=h2.size):dL ρ h h1:=λA h3 h4=>hf A h3 (eR h4 hle)
theorem dL.right {ρ ρ':bU} {h1 h2:Heap} {w':World} (hf:dL ρ h h2) (fr:Fr ρ ρ' h h1 w w'):dL ρ' h1 h2:=by
 intro A h3 h4
 cases hA:ρ' A with
 |none=>rfl
 |some L =>
  have hn:=hf A (iG fr.eY h3) h4
  have:=(fr.fresh A L hA hn).2.1
  omega

end Go.Am
namespace Go.Am
open Go.RowKit
variable {A n o:Nat} {l m:List ai} {W:World}

structure bm.Fits (T:bm) (P:Program):Prop where
 desc:∀ t d,T.desc t=some d->P.underlying t=some d
 info:∀ t n b z,T.info t=some (n,b,z)->∃ i zv,P.info? t=some i/\i.size=n/\i.bytes=b/\i.zero=some zv/\zv.cells.toList=z/\z.length=n/\z.all iY=true
 fn:∀ f fn,T.fn f=some fn->P.funcs[f]? = some fn/\(fn.name == "runtime.NumGoroutine")=false/\∀ c,fn.body=some c->mT T.gs c=true
 cmp:∀ t,T.cmp t=true->P.stoodInHeld t=false/\P.eqGuardType P.depth t=false
 zero:∀ t v,T.zero t=some v->(∃ i,P.info? t=some i/\i.zero=some v)/\plain v=true
 rQ:∀ t name m,T.rQ t name=some m->∃ i,P.info? t=some i/\i.methods.find? (·.name == name)=some m

theorem oA (h:cut l o n=some m):o+n<=l.length/\m.length=n/\∀ i,i < n->m[i]? = l[o+i]? := by
 unfold cut at h
 split at h
 .rename_i hl
  cases h
  refine ⟨hl,by simp;omega,λi hi=>?_⟩
  rw [nV,aC hi,ja]
 .cases h
theorem oD (hl:o+n<=l.length) (hm:m.length=n) (h:∀ i,i < n->m[i]? = l[o+i]?):cut l o n=some m:=by
 unfold cut
 rw [aC hl]
 congr 1
 refine uO λi=>?_
 rw [nV]
 split
 .rename_i hi;rw [ja,h i hi]
 .rw [wx (by omega)]

theorem kO {vs:List ai} (h:o+vs.length<=l.length):(an l o vs).length=l.length:=by
 simp [an];omega
theorem bf (l vs:List ai) (o i:Nat) (h:o+vs.length<=l.length):(an l o vs)[i]? = if i < o then l[i]? else if i < o+vs.length then vs[i - o]? else l[i]? := by
 unfold an
 rw [Gk,Gk]
 have hl:(l.take o).length=o:=by simp;omega
 simp only [hJ,hl]
 by_cases h1:i < o
 .rw [aC (by omega),aC h1,aC h1,nV,aC h1]
 .rw [ay h1]
  by_cases h2:i < o+vs.length
  .rw [aC h2,ay h1,aC h2]
  .rw [ay h2,ay h2,ja]
   rw [show o+vs.length+(i - (o+vs.length))=i by omega,ay h1]
theorem zpZ {cur us:List ai} {s:Nat} (hc:cut cur s n=some m) (ho:o+us.length<=n):cut (an cur (s+o) us) s n=some (an m o us):=by
 obtain ⟨h1,h2,h3⟩:=oA hc
 refine oD (by rw [kO (by omega)];exact h1) (by rw [kO (by omega)];exact h2) λi hi=>?_
 rw [bf _ _ _ _ (by omega),bf _ _ _ _ (by omega)]
 by_cases h4:i < o
 .rw [aC h4,aC (show s+i < s+o by omega),h3 i hi]
 .rw [ay h4,ay (show ¬ s+i < s+o by omega)]
  by_cases h5:i < o+us.length
  .rw [aC h5,aC (show s+i < s+o+us.length by omega)]
   congr 1
   omega
  .rw [ay h5,ay (show ¬ s+i < s+o+us.length by omega),h3 i hi]

section
variable {P:Program} {T:bm} {ρ:bU} {h h':Heap} {w:World}

theorem Hv (hs:bj ρ h w) {L:Loc} (hA:ρ A=some L) (hc:ia A o n h=some l) :
 ∃ m,bQ ρ l m/\m.length=n/\w.rangeAt L.b (L.s+o) m:=by
 have hb:=hs.im A L hA
 unfold ia at hc
 cases hg:h.get A with
 |none=>rw [hg] at hc;cases hc
 |some b =>
  rw [hg] at hc hb
  cases b with
  |dead=>cases hc
  |map es clock=>cases hc
  |loop env ps assign body st dW=>cases hc
  |row cs e ro =>
   obtain ⟨h1,h2,h3⟩:=oA hc
   cases ro with
   |true =>
    obtain ⟨_,fH⟩:=hb
    have hex:∀ i,i < n->∃ u,w.cell? ⟨L.b,L.s+(o+i),none⟩=some u/\∀ x,l[i]? = some x->VR ρ x u:=by
     intro i hi
     have hx:cs[o+i]? = some (cs[o+i]'(by omega)):=lD _
     obtain ⟨u,hu,hv⟩:=fH (o+i) _ hx
     refine ⟨u,hu,λx Qt=>?_⟩
     rw [h3 i hi,hx] at Qt
     cases Qt
     exact hv
    refine ⟨(List.range n).map λi=>(w.cell? ⟨L.b,L.s+(o+i),none⟩).getD undef,⟨by simp [h2],λi x y hx hy=>?_⟩,by simp,λj v hv=>?_⟩
    .have hi:i < n:=by rw [<- h2];exact (fB.1 hx).1
     obtain ⟨u,hu,hv⟩:=hex i hi
     rw [lE,List.getElem?_range hi,gJ,hu] at hy
     cases hy
     exact hv x hx
    .have hj:j < n:=by have:=(fB.1 hv).1;simpa using this
     obtain ⟨u,hu,_⟩:=hex j hj
     rw [lE,List.getElem?_range hj,gJ,hu] at hv
     cases hv
     rw [jN]
     exact hu
   |false =>
    obtain ⟨cur,fz,fh,_,_,m,hm,hv⟩:=hb
    obtain ⟨d,hd,qa⟩:=hv.cut hc
    obtain ⟨k1,k2,k3⟩:=oA hm
    obtain ⟨d1,d2,d3⟩:=oA hd
    refine ⟨d,qa,d2,λj v hj=>?_⟩
    have Ln:j < n:=by rw [<- d2];exact (fB.1 hj).1
    rw [cell_of_row w L.b _ cur e fz fh]
    rw [d3 j Ln,k3 (o+j) (by rw [k2] at d1;omega)] at hj
    rw [<- Array.getElem?_toList,jN]
    exact hj

theorem MU (hT:T.Fits P) (hs:bj ρ h w) {t:TypeId} {x y v:ai} (cz:VR ρ x y) (hl:eQ T t x h=some v) :
 ∃ u,(Instr.loadAt t y).run P w=.ok u w/\VR ρ v u:=by
 cases cz with
 |ptr hA =>
  rename_i A o L
  simp only [eQ] at hl
  cases hg:T.desc t with
  |none=>simp [cD,hg] at hl
  |some d =>
   have hu:=hT.desc t d hg
   have key:∀ (n:Nat) (l:List ai),T.info t≠none->ia A o n h=some l->d.isRow=true->(T.info t).map (·.1)=some n->v=.agg l.toArray->∃ u,(Instr.loadAt t (.pointer (some ⟨L.b,L.s+o,none⟩))).run P w=.ok u w/\VR ρ v u:=by
    intro n l _ hc hd hi hv
    obtain ⟨m,hm,hlen,hr⟩:=Hv hs hA hc
    cases eE:T.info t with
    |none=>simp [eE] at hi
    |some q =>
     obtain ⟨q1,q2,q3⟩:=q
     obtain ⟨i,zv,e1,e2,_⟩:=hT.info t q1 q2 q3 eE
     simp [eE] at hi
     refine ⟨.agg m.toArray,run_loadAt_mid w L.b (L.s+o) t m d hr hu hd (by rw [e1];simp [e2,hi,hlen]),?_⟩
     rw [hv]
     exact hm.toArray
   have Mi:∀ (l:List ai),ia A o 1 h=some l->l[0]? = some v->d.isRow=false->∃ u,(Instr.loadAt t (.pointer (some ⟨L.b,L.s+o,none⟩))).run P w=.ok u w/\VR ρ v u:=by
    intro l hc h0 hd
    obtain ⟨m,hm,hlen,hr⟩:=Hv hs hA hc
    obtain ⟨u,L6,D6⟩:=hm.get h0
    have fH:=hr 0 u L6
    refine ⟨u,?_,D6⟩
    have k8:(isAgg t).run P w=.ok false w:=by
     unfold isAgg
     rw [Sem.run_bind,run_underlying hu w]
     cases d <;> simp_all
    simp only [iN] at fH
    simp [Instr.loadAt,Instr.sureAddr,loadVar,Sem.run_bind,k8,fH]
   have qS:(∃ n l,T.info t≠none/\ia A o n h=some l/\d.isRow=true/\(T.info t).map (·.1)=some n/\v=.agg l.toArray)\/(∃ l,ia A o 1 h=some l/\l[0]? = some v/\d.isRow=false):=by
    have LS:∀ (hl:((c9 T t).bind λn=>(ia A o n h).map λl=>Value.agg l.toArray)=some v) (hd:d.isRow=true),
     ∃ n l,T.info t≠none/\ia A o n h=some l/\d.isRow=true/\(T.info t).map (·.1)=some n/\v=.agg l.toArray:=by
     intro hl hd
     simp only [c9,bB,bS] at hl
     obtain ⟨n,⟨q,hq,rfl⟩,l,hc,rfl⟩:=hl
     exact ⟨q.1,l,by rw [hq];simp,hc,hd,by rw [hq];rfl,rfl⟩
    cases d <;> simp only [cD,hg,gJ,cM,if_true,fb,if_false] at hl <;>
     first
      |(left;exact LS hl rfl)
      |(right;simp only [bB] at hl;obtain ⟨l,hc,h0⟩:=hl;exact ⟨l,hc,h0,rfl⟩)
   rcases qS with ⟨n,l,a,b,c,d',e⟩|⟨l,a,b,c⟩
   .exact key n l a b c d' e
   .exact Mi l a b c
 |_=>simp [eQ] at hl

theorem FZ (hs:bj ρ h w) {L:Loc} {b b':bd} (hA:ρ A=some L) (hg:h.get A=some b) (gk:b≠.dead) (pX:∀ cs e,b≠.row cs e true)
 (nD:W.os=w.os) (gU:W.tape=w.tape) (jv:W.output=w.output) (cA:W.heap.size=w.heap.size) (fL:∀ k,k≠L.b->W.heap[k]? = w.heap[k]?) (oQ:lT ρ W L (some b')) :
 Fr ρ ρ h (h.set A b') w W/\bj ρ (h.set A b') W:=by
 have oO:A < h.size:=Heap.aW hg
 refine ⟨⟨λ_ _ h=>h,λA' L' h1 h2=>(by rw [h1] at h2;cases h2),nD,gU,jv,by rw [cA];exact bg _,bg _,sx _ _,?_,?_⟩,⟨?_,?_⟩⟩
 .intro b hb aq
  refine fL b λe=>?_
  subst e
  have:=aq A L hA rfl
  rw [Heap.bY,Heap.size_set] at this
  omega
 .intro A' da hl
  rw [Heap.bY] at hl
  rw [Heap.aL _ _ _ _ oO,ay (by omega)]
 .intro A' L' da
  rw [Heap.aL _ _ _ _ oO]
  by_cases e':A'=A
  .subst e'
   rw [hA] at da
   cases da
   rw [aC rfl]
   exact oQ
  .rw [ay e']
   refine (hs.im A' L' da).keep (λ_ _ h=>h) (by omega) ?_
   rintro ⟨x,hx,WN⟩
   refine fL L'.b λheq=>?_
   rcases hs.inj A' A L' L da hA e' heq with h1|h1|h1
   .exact h1 ⟨x,hx,WN⟩
   .exact h1 ⟨_,hg,gk⟩
   .obtain ⟨_,GX,e2,pR⟩:=h1
    rw [hg] at pR
    cases pR
    exact pX _ _ rfl
 .intro A1 A2 L1 L2 h1 h2 aV hb
  have cO:∀ A',¬ live h A'->¬ live (h.set A b') A':=by
   intro A' hd
   by_cases e':A'=A
   .subst e';exact (hd ⟨_,hg,gk⟩).elim
   .unfold live at hd ⊢
    rw [Heap.aL _ _ _ _ oO,ay e']
    exact hd
  have tV:∀ A',jx h A'->jx (h.set A b') A':=by
   rintro A' ⟨GX,e2,pR⟩
   refine ⟨GX,e2,?_⟩
   rw [Heap.aL _ _ _ _ oO,ay (by intro e';subst e';rw [hg] at pR;cases pR;exact pX _ _ rfl)]
   exact pR
  rcases hs.inj A1 A2 L1 L2 h1 h2 aV hb with h3|h3|⟨h3,h4⟩
  .exact .inl (cO _ h3)
  .exact .inr (.inl (cO _ h3))
  .exact .inr (.inr ⟨tV _ h3,tV _ h4⟩)

theorem Ht (P:Program) (g o:Nat) (t:TypeId) (fz:Nat × Nat):∀ (vs:List ai) (i:Nat) (cur:Array ai) (w:World),w.heap[g]? = some (.cells cur t fz)->jY t cur.size fz->o+i+vs.length<=cur.size->(∀ v∈vs,v.oneCell'=true) ->
 (storeCells ⟨g,o,none⟩ vs i).run P w=.ok () (w.setRow g (cur.toList.take (o+i)++vs++cur.toList.drop (o+i+vs.length)).toArray)
 | [],i,cur,w,hg,_,_,_=>by
  simp only [storeCells,cU,jb,iN,Io,Array.toArray_toList]
  rw [setRow_self w g cur t fz hg]
  rfl
 |v::rest,i,cur,w,hg,Lf,hl,h1=>by
  have hi:o+i < cur.size:=by simp at hl;omega
  have xq:(⟨g,o,none⟩:Addr).add i=⟨g,o+i,none⟩:=by unfold Addr.add;split <;> simp_all
  have fH:w.cell? ⟨g,o+i,none⟩=some cur[o+i]:=by simp [World.cell?,hg,hi]
  have Le:w.frozen? ⟨g,o+i,none⟩=false:=by
   have h0:=Lf.Qx (o+i) hi
   obtain ⟨lo,oc⟩:=fz
   simp only [World.frozen?,hg,zzg,decide_eq_false_iff_not]
   simp only at h0
   omega
  have dI:(store ((⟨g,o,none⟩:Addr).add i) v).run P w=.ok () (w.setRow g (cur.setIfInBounds (o+i) v)):=by
   rw [xq,run_store P w _ v _ (h1 v (by simp)),fH]
   simp [Le,setCell_eq_setRow w g (o+i) cur t fz v hg]
  have ih:=Ht P g o t fz rest (i+1) (cur.setIfInBounds (o+i) v) (w.setRow g (cur.setIfInBounds (o+i) v)) (setRow_heap w g cur _ t _ hg) (by simpa using Lf) (by simp at hl ⊢;omega) (λx hx=>h1 x (by simp [hx]))
  simp only [storeCells,Sem.run_bind,dI,Result.andThen_ok,ih,setRow_setRow]
  congr 3
  have e:=list_seg_step cur.toList (o+i) v rest (by simp at hl ⊢;omega)
  simpa [Array.toList_setIfInBounds,jN] using e

theorem FQ (hs:bj ρ h w) {L:Loc} {vs us:List ai} (hA:ρ A=some L) (hv:bQ ρ vs us) (hw:nQ A o vs h=some h') :
 ∃ w',(storeCells ⟨L.b,L.s+o,none⟩ us 0).run P w=.ok () w'/\Fr ρ ρ h h' w w'/\bj ρ h' w':=by
 have hb:=hs.im A L hA
 unfold nQ at hw
 split at hw
 .rename_i cs e hg
  split at hw
  .rename_i hc
   simp only [cY,jW] at hc
   obtain ⟨ho,h1⟩:=hc
   cases hw
   rw [hg] at hb
   obtain ⟨cur,fz,fh,lj,lk,m,hm,L9⟩:=hb
   obtain ⟨k1,k2,k3⟩:=oA hm
   have hlu:vs.length=us.length:=hv.1
   have dI:=Ht P L.b (L.s+o) e fz us 0 cur w fh lj (by simp at k1 ⊢;omega) (hv.one h1)
   simp only [iN] at dI
   let iq:=(cur.toList.take (L.s+o)++us++cur.toList.drop (L.s+o+us.length)).toArray
   have me:(w.setRow L.b iq).heap[L.b]? = some (.cells iq e fz):=setRow_heap w L.b cur iq e _ fh
   have cA:(w.setRow L.b iq).heap.size=w.heap.size:=by simp [World.setRow]
   have L5:jY e iq.size fz:=by
    have:=kO (l:=cur.toList) (vs:=us) (o:=L.s+o) (by simp at k1 ⊢;omega)
    have h2:iq.size=cur.size:=by simpa [iq,an] using this
    rw [h2]
    exact lj
   refine ⟨w.setRow L.b iq,dI,FZ hs hA hg (by simp) (by simp) rfl rfl rfl cA (λb hb=>setRow_other w L.b b iq hb) ⟨iq,fz,me,L5,?_,an m o us,?_,L9.an o hv⟩⟩
   .show iq.size=L.po
    rw [<- lk]
    have:=kO (l:=cur.toList) (vs:=us) (o:=L.s+o) (by simp at k1 ⊢;omega)
    simpa [iq,an] using this
   .rw [kO ho]
    have:=zpZ (us:=us) (o:=o) hm (by omega)
    simpa [iq,an] using this
  .cases hw
 .cases hw

theorem HD (hs:bj ρ h w) (dV:ρ h.size=none) {L:Loc} {b:bd} (hold:∀ k,k < w.heap.size->W.heap[k]? = w.heap[k]?) (cA:w.heap.size<=W.heap.size)
 (nD:W.os=w.os) (gU:W.tape=w.tape) (jv:W.output=w.output) (hL:w.heap.size<=L.b) (hb:∀ ρ',(∀ A L,ρ A=some L->ρ' A=some L)->lT ρ' W L (some b)) :
 ∃ ρ',ρ' h.size=some L/\Fr ρ ρ' h (h.push b) w W/\bj ρ' (h.push b) W:=by
 have di:∀ A L',ρ A=some L'->(λA=>if A=h.size then some L else ρ A) A=some L':=by
  intro A L' hA
  have aV:A≠h.size:=λe=>by rw [e,dV] at hA;cases hA
  simp only [ay aV]
  exact hA
 refine ⟨λA=>if A=h.size then some L else ρ A,by simp,⟨di,?_,nD,gU,jv,cA,by rw [Heap.size_push];omega,bg _,λb hb _=>hold b hb,?_⟩,⟨?_,?_⟩⟩
 .intro A L' hA hn
  split at hA
  .rename_i e1;cases hA;exact ⟨by omega,by rw [Heap.size_push];omega,.inl hL⟩
  .rw [hn] at hA;cases hA
 .intro A hA _
  rw [Heap.bX,ay (by omega)]
 .intro A L' hA
  rw [Heap.bX]
  split at hA
  .rename_i e1
   cases hA
   rw [aC e1]
   exact hb _ di
  .rename_i e1
   rw [ay e1]
   exact (hs.im A L' hA).keep di cA λ_=>hold _ (hs.lt hA)
 .intro A1 A2 L1 L2 h1 h2 aV i6
  have dr:∀ A,A≠h.size->(h.push b).get A=h.get A:=λA hA=>by rw [Heap.bX,ay hA]
  split at h1
  .split at h2
   .omega
   .rename_i e1 e2
    cases h1
    have:=hs.lt h2
    omega
  .split at h2
   .rename_i e1 e2
    cases h2
    have:=hs.lt h1
    omega
   .rename_i e1 e2
    unfold live jx
    rw [dr A1 e1,dr A2 e2]
    exact hs.inj A1 A2 L1 L2 h1 h2 aV i6

theorem Sj (hs:bj ρ h w) (dV:ρ h.size=none) {cs:List ai} {cur:Array ai} {e:TypeId} {fz:Nat × Nat} (lj:jY e cur.size fz) (hW:W.heap=w.heap.push (.cells cur e fz))
 (nD:W.os=w.os) (gU:W.tape=w.tape) (jv:W.output=w.output) (iv:cut cur.toList 0 cs.length=some m) (hv:bQ ρ cs m) :
 ∃ ρ',ρ' h.size=some ⟨w.heap.size,0,cur.size⟩/\Fr ρ ρ' h (h.push (.row cs e false)) w W/\bj ρ' (h.push (.row cs e false)) W:=by
 refine HD hs dV (λk hk=>by rw [hW,qi,ay (by omega)]) (by rw [hW];simp) nD gU jv (bg _) λρ' hg=>?_
 exact ⟨cur,fz,by rw [hW];simp,lj,rfl,m,iv,hv.mono hg⟩
theorem Aq (hs:bj ρ h w) (dV:ρ h.size=none) {cs:List ai} {cur:Array ai} {e:TypeId} (hW:W.heap=w.heap.push (.cells cur e (0,0)))
 (nD:W.os=w.os) (gU:W.tape=w.tape) (jv:W.output=w.output) (iv:cut cur.toList 0 cs.length=some m) (hv:bQ ρ cs m) :
 ∃ ρ',ρ' h.size=some ⟨w.heap.size,0,cur.size⟩/\Fr ρ ρ' h (h.push (.row cs e false)) w W/\bj ρ' (h.push (.row cs e false)) W :=
 Sj hs dV (.zero _ _) hW nD gU jv iv hv

theorem bj.same (hs:bj ρ h w) (hW:W.heap=w.heap):bj ρ h W :=
 ⟨λA L hA=>(hs.im A L hA).keep (λ_ _ h=>h) (by rw [hW];exact bg _) (λ_=>by rw [hW]),hs.inj⟩
end
end Go.Am
namespace Go.Am
open Go.RowKit
variable {m news:List ai} {c k n o q:Nat} {y:ai} {e t ty u:TypeId}

theorem MO (z:Array ai) (n:Nat):((Array.range (n*z.size)).map λi=>z[i % z.size]!).toList=lC z.toList n:=by
 induction n with
 |zero=>simp [lC]
 |succ n ih =>
  have hr:Array.range ((n+1)*z.size)=Array.range (n*z.size)++(Array.range z.size).map (n*z.size+·):=by
   apply Array.ext'
   simp only [Array.toList_range,Gi,Array.toList_map,wF,Nat.one_mul,List.range_add]
  rw [hr,Array.map_append,Gi,ih]
  simp only [lC,List.replicate_succ',List.flatten_append,List.flatten_singleton]
  congr 1
  apply uO
  intro i
  by_cases hi:i < z.size
  .simp [hi,mX hi]
  .simp [hi]

theorem YH (z:List ai) (n:Nat):(lC z n).length=n*z.length:=by simp [lC]

theorem M1 {z:List ai} (h:z.all iY=true) (n:Nat):(lC z n).all iY=true:=by
 simp only [lC,fD,List.mem_flatten,List.mem_replicate] at *
 rintro x ⟨l,⟨_,rfl⟩,hx⟩
 exact h x hx


section
variable {P:Program} {T:bm} {ρ:bU} {h h':Heap} {w:World}

theorem R9 {b:Nat} (h:w.rangeAt b o m):w.rangeAt b o (m.take q):=by
 intro j v hv
 rw [nV] at hv
 split at hv
 .exact h j v hv
 .cases hv

theorem Hs {b:Nat} (h:w.rangeAt b o m) (hl:m.length=q*k):(Builtin.firstCells k q (.slice (some ⟨b,o,none⟩) n c)).run P w=.ok m.toArray w :=
 run_firstCells_some w k q ⟨b,o,none⟩ n c m hl (λj v hv=>by rw [Addr.add_mid];exact h j v hv)

theorem MI (hs:bj ρ h w) {a:Option Addr} {l:List ai} (cz:VR ρ (.slice a n c) y) (hc:lO (.slice a n c) k h=some l) :
 ∃ a' c' m,y=.slice a' n c'/\bQ ρ l m/\m.length=n*k/\∀ W:World,W.heap=w.heap->∀ q,q<=n->(Builtin.firstCells k q y).run P W=.ok (m.take (q*k)).toArray W:=by
 have hzero:∀ (q:Nat) (ad:Addr) (c':Nat) (W:World),q*k=0->(Builtin.firstCells k q (.slice (some ad) n c')).run P W=.ok #[] W:=by
  intro q ad c' W hq
  simp [Builtin.firstCells,hq,loadCells,loadCellsFrom]
 have qU:∀ {A o:Nat} {L:Loc} {ad:Addr} {c':Nat},ρ A=some L->(n≠0->ad=⟨L.b,L.s+o,none⟩)->lO (.slice (some ⟨A,o,none⟩) n c) k h=some l ->
  ∃ m,bQ ρ l m/\m.length=n*k/\∀ W:World,W.heap=w.heap->∀ q,q<=n->(Builtin.firstCells k q (.slice (some ad) n c')).run P W=.ok (m.take (q*k)).toArray W:=by
  intro A o L ad c' hA dC hc
  simp only [lO] at hc
  split at hc
  .rename_i h0
   cases hc
   refine ⟨[],.nil ρ,by simp [h0],λW _ q hq=>?_⟩
   have h1:q*k=0:=by
    rcases Nat.mul_eq_zero.1 h0 with e|e
    .have:q=0:=by omega
     simp [this]
    .simp [e]
   rw [hzero q ad c' W h1]
   simp
  .rename_i h0
   have hn:n≠0:=λe=>h0 (by simp [e])
   obtain ⟨m,hm,hlen,hr⟩:=Hv hs hA hc
   refine ⟨m,hm,hlen,λW hW q hq=>?_⟩
   rw [dC hn]
   have bz:W.rangeAt L.b (L.s+o) m:=λj v hv=>(World.cell?_of_block (by rw [hW])).trans (hr j v hv)
   refine Hs (R9 bz) ?_
   rw [ku,hlen]
   exact Nat.min_eq_left (nU _ hq)
 cases cz with
 |cu =>
  simp only [lO] at hc
  cases hc
  refine ⟨none,0,[],rfl,.nil ρ,by simp,λW _ q hq=>?_⟩
  have:q=0:=by omega
  subst this
  simp [Builtin.firstCells]
 |slice hA vi hn dC =>
  obtain ⟨m,h1,h2,h3⟩:=qU hA (λh0=>dC (by omega)) hc
  exact ⟨_,_,m,rfl,h1,h2,h3⟩
 |bI hA vi gF hn hk hm dC =>
  obtain ⟨m,h1,h2,h3⟩:=qU hA (λh0=>(dC (by omega)).1) hc
  exact ⟨_,_,m,rfl,h1,h2,h3⟩

theorem S0 (hs:bj ρ h w) {x:ai} {m:Nat} {l:List ai} (cz:VR ρ x y) (hc:gA x k h=some (m,l)) :
 ∃ n,bQ ρ l n/\n.length=m*k/\Builtin.lenOf y=pure m/\∀ W:World,W.heap=w.heap->∀ q,q<=m->(Builtin.firstCells k q y).run P W=.ok (n.take (q*k)).toArray W:=by
 cases x with
 |string b =>
  cases cz
  simp only [gA] at hc
  split at hc
  .rename_i hk
   subst hk
   cases hc
   refine ⟨_,bQ.plain ρ (by rw [fD];intro x hx;rw [zC] at hx;obtain ⟨u,_,rfl⟩:=hx;rfl),by simp,rfl,λW _ q hq=>?_⟩
   simp only [Builtin.firstCells,Sem.run_pure,uS]
   congr 1
   apply Array.ext'
   have hd:(b.extract 0 q).data=b.data.extract 0 q:=by
    exact ByteArray.data_extract
   rw [hd]
   simp
  .cases hc
 |slice a n c =>
  simp only [gA,bS,cd] at hc
  obtain ⟨l',hc,rfl,rfl⟩:=hc
  obtain ⟨a',c',m,rfl,h1,h2,h3⟩:=MI (P:=P) hs cz hc
  exact ⟨m,h1,h2,rfl,h3⟩
 |_=>simp [gA] at hc

def GN (P:Program) (u:TypeId):Prop:=(∃ e',P.underlying u=some (.slice e'))\/P.underlying u=some .string

theorem MH {i:TypeInfo} (ht:P.underlying t=some (.slice e)) (hu:GN P u) (hi:P.info? e=some i)
 {a:Addr} {m:Nat} (hlen:Builtin.lenOf y=pure m) (hf:(Builtin.firstCells i.size m y).run P w=.ok news.toArray w) (eW:n+m<=c) {w':World}
 (dI:(storeCells (a.add (n*i.size)) news 0).run P w=.ok () w') :
 (Builtin.append_ #[t,u] ty #[.slice (some a) n c,y]).run P w=.ok (.slice (some a) (n+m) c) w':=by
 rcases hu with ⟨e',hd⟩|hd
 .simp [Builtin.append_,run_underlying ht,run_underlying hd,sizeOf,typeInfo,hi,hlen,eW,hf,dI]
 .simp [Builtin.append_,run_underlying ht,run_underlying hd,sizeOf,typeInfo,hi,hlen,eW,hf,dI]

theorem Yh {i:TypeInfo} (ht:P.underlying t=some (.slice e)) (hu:GN P u) (hi:P.info? e=some i)
 {a:Option Addr} (hlen:Builtin.lenOf y=pure 0) (hf:(Builtin.firstCells i.size 0 y).run P w=.ok #[] w) (eW:n<=c) :
 (Builtin.append_ #[t,u] ty #[.slice a n c,y]).run P w=.ok (.slice a n c) w:=by
 rcases hu with ⟨e',hd⟩|hd <;> cases a <;> simp [Builtin.append_,run_underlying ht,run_underlying hd,sizeOf,typeInfo,hi,hlen,eW,hf,storeCells]

theorem Xz {i:TypeInfo} {z:ai} (ht:P.underlying t=some (.slice e)) (hu:GN P u) (hi:P.info? e=some i) (hz:i.zero=some z)
 {base:Option Addr} {m:Nat} {Ej:List ai} (hlen:Builtin.lenOf y=pure m) (hf:(Builtin.firstCells i.size m y).run P w.drew=.ok news.toArray w.drew)
 (ho:(Builtin.firstCells i.size n (.slice base n c)).run P w.drew=.ok Ej.toArray w.drew)
 (hg:c < n+m) (h63:n+m<=1152921504606846976) (gy:(n+m)*i.bytes<=140737488355328) :
 (Builtin.append_ #[t,u] ty #[.slice base n c,y]).run P w =
  .ok (.slice (some ⟨w.heap.size,0,none⟩) (n+m) (grownCap w (n+m) c e)) (w.drew.alloc (.cells ((Ej++news)++(Builtin.zeroCells z.cells (grownCap w (n+m) c e - (n+m))).toList).toArray e)):=by
 have hn:¬ (n+m<=c):=by omega
 have C2:¬ (9223372036854775807 < ((n:Int)+(m:Int))):=by omega
 have Qc:=growslice_fits hg gy
 have C1:¬ (281474976710656 < Builtin.nextslicecap (n+m) c*i.bytes):=by omega
 rcases hu with ⟨e',hd⟩|hd
 .simp [Builtin.append_,run_underlying ht,run_underlying hd,sizeOf,typeInfo,zeroValue,hi,hz,hlen,hn,C2,C1,Question.forced,hf,ho,Go.newRow,grownCap]
  congr 2
  apply Array.ext'
  simp
 .simp [Builtin.append_,run_underlying ht,run_underlying hd,sizeOf,typeInfo,zeroValue,hi,hz,hlen,hn,C2,C1,Question.forced,hf,ho,Go.newRow,grownCap]
  congr 2
  apply Array.ext'
  simp

theorem SK (hs:bj ρ h w) {A:Nat} {cs:List ai} (hg:h.get A=some (.row cs e false)) :
 Fr ρ ρ h (h.set A .dead) w w/\bj ρ (h.set A .dead) w:=by
 have oO:A < h.size:=Heap.aW hg
 refine ⟨⟨λ_ _ h=>h,λA' L' h1 h2=>(by rw [h1] at h2;cases h2),rfl,rfl,rfl,bg _,bg _,sx _ _,λ_ _ _=>rfl,?_⟩,⟨?_,?_⟩⟩
 .intro A' da hl
  rw [Heap.bY] at hl
  rw [Heap.aL _ _ _ _ oO,ay (by omega)]
 .intro A' L' da
  rw [Heap.aL _ _ _ _ oO]
  by_cases e':A'=A
  .subst e'
   rw [aC rfl]
   exact hs.lt da
  .rw [ay e']
   exact hs.im A' L' da
 .intro A1 A2 L1 L2 h1 h2 aV hb
  unfold live jx
  rw [Heap.aL _ _ _ _ oO,Heap.aL _ _ _ _ oO]
  by_cases e1:A1=A
  .left;simp [e1]
  .by_cases e2:A2=A
   .right;left;simp [e2]
   .rw [ay e1,ay e2]
    exact hs.inj A1 A2 L1 L2 h1 h2 aV hb

theorem zpY {cur us:List ai} {s:Nat} (hc:cut cur s n=some m) (hl:s+n+us.length<=cur.length) :
 cut (an cur (s+n) us) s (n+us.length)=some (m++us):=by
 obtain ⟨h1,h2,h3⟩:=oA hc
 refine oD (by rw [kO hl];omega) (by simp [h2]) λi hi=>?_
 rw [bf _ _ _ _ hl,Gk,h2]
 by_cases oc:i < n
 .rw [aC oc,aC (by omega),h3 i oc]
 .rw [ay oc,ay (by omega),aC (by omega)]
  congr 1
  omega

theorem Z8 (hs:bj ρ h w) (dV:ρ h.size=none) {A:Nat} {L:Loc} {cs dt us:List ai} {cur:Array ai} {fz:Nat × Nat} (hA:ρ A=some L) (hg:h.get A=some (.row cs e false))
 (fh:w.heap[L.b]? = some (.cells cur e fz)) (lj:jY e cur.size fz) (lk:cur.size=L.po) (hm:cut cur.toList (L.s+o) dt.length=some m) (hv:bQ ρ dt m) (hn:bQ ρ news us)
 (gy:L.s+o+dt.length+us.length<=L.po) :
 ∃ ρ',ρ' h.size=some ⟨L.b,L.s+o,L.po⟩/\Fr ρ ρ' h ((h.set A .dead).push (.row (dt++news) e false)) w (w.setRow L.b (an cur.toList (L.s+o+dt.length) us).toArray) /\
   bj ρ' ((h.set A .dead).push (.row (dt++news) e false)) (w.setRow L.b (an cur.toList (L.s+o+dt.length) us).toArray):=by
 have oO:A < h.size:=Heap.aW hg
 have di:∀ A L',ρ A=some L'->(λA=>if A=h.size then some (⟨L.b,L.s+o,L.po⟩:Loc) else ρ A) A=some L':=by
  intro A L' hA
  have aV:A≠h.size:=λe=>by rw [e,dV] at hA;cases hA
  simp only [ay aV]
  exact hA
 have me:=setRow_heap w L.b cur (an cur.toList (L.s+o+dt.length) us).toArray e _ fh
 have fL:∀ b,b≠L.b->(w.setRow L.b (an cur.toList (L.s+o+dt.length) us).toArray).heap[b]? = w.heap[b]? := λb hb=>setRow_other w L.b b _ hb
 have cA:(w.setRow L.b (an cur.toList (L.s+o+dt.length) us).toArray).heap.size=w.heap.size:=by simp [World.setRow]
 have dr:∀ j,((h.set A .dead).push (.row (dt++news) e false)).get j=if j=h.size then some (.row (dt++news) e false) else if j=A then some .dead else h.get j:=by
  intro j
  rw [Heap.bX,Heap.size_set,Heap.aL _ _ _ _ oO]
 have aV:∀ A' L',ρ A'=some L'->A'≠A->live h A'->L'.b≠L.b:=by
  intro A' L' da e' gk heq
  rcases hs.inj A' A L' L da hA e' heq with h1|h1|h1
  .exact h1 gk
  .exact h1 ⟨_,hg,by simp⟩
  .obtain ⟨_,GX,e2,pR⟩:=h1
   rw [hg] at pR
   cases pR
 refine ⟨λA=>if A=h.size then some ⟨L.b,L.s+o,L.po⟩ else ρ A,by simp,⟨di,?_,rfl,rfl,rfl,by rw [cA];exact bg _,?_,sx _ _,?_,?_⟩,⟨?_,?_⟩⟩
 .intro A' L' da LG
  split at da
  .rename_i e1
   cases da
   refine ⟨by omega,by rw [Heap.size_push,Heap.size_set];omega,.inr ⟨A,L,hA,rfl,?_,by rw [Heap.size_push,Heap.size_set];omega⟩⟩
   rw [Heap.dG,Heap.bY]
   omega
  .rw [LG] at da;cases da
 .rw [Heap.size_push,Heap.size_set];omega
 .intro b hb aq
  refine fL b λe'=>?_
  subst e'
  have:=aq A L hA rfl
  rw [Heap.dG,Heap.bY,Heap.size_push,Heap.size_set] at this
  omega
 .intro A' da hl
  rw [Heap.dG,Heap.bY] at hl
  rw [dr,ay (by omega),ay (by omega)]
 .intro A' L' da
  rw [dr]
  split at da
  .rename_i e1
   cases da
   rw [aC e1]
   refine ⟨_,fz,me,?_,?_,m++us,?_,(hv.append hn).mono di⟩
   .rw [Gm,kO (by simp;omega)]
    simpa using lj
   .show (an cur.toList (L.s+o+dt.length) us).toArray.size=L.po
    rw [Gm,kO (by simp;omega)]
    simpa using lk
   .show cut (an cur.toList (L.s+o+dt.length) us) (L.s+o) (dt++news).length=some (m++us)
    rw [hJ,hn.1]
    exact zpY hm (by simp;omega)
  .rename_i e1
   rw [ay e1]
   by_cases e2:A'=A
   .rw [aC e2]
    show L'.b < _
    rw [cA]
    exact hs.lt da
   .rw [ay e2]
    exact (hs.im A' L' da).keep di (by rw [cA];exact bg _) λhl=>fL L'.b (aV A' L' da e2 hl)
 .intro A1 A2 L1 L2 h1 h2 ry hb
  unfold live jx
  rw [dr,dr]
  have aY:∀ A' L',A'≠h.size->ρ A'=some L'->L.b=L'.b->¬ ∃ b,(if A'=A then some bd.dead else h.get A')=some b/\b≠.dead:=by
   intro A' L' hh da i6
   by_cases e2:A'=A
   .simp [e2]
   .rw [ay e2]
    exact λgk=>aV A' L' da e2 gk i6.symm
  split at h1
  .rename_i e1
   split at h2
   .omega
   .rename_i e2
    cases h1
    right;left
    rw [ay e2]
    exact aY A2 L2 e2 h2 hb
  .rename_i e1
   split at h2
   .rename_i e2
    cases h2
    left
    rw [ay e1]
    exact aY A1 L1 e1 h1 hb.symm
   .rename_i e2
    rw [ay e1,ay e2]
    by_cases f1:A1=A
    .left;simp [f1]
    .by_cases f2:A2=A
     .right;left;simp [f2]
     .rw [ay f1,ay f2]
      exact hs.inj A1 A2 L1 L2 h1 h2 ry hb

theorem wc (hk:0 < k) (hG:q < G):G<=G*k+q/\(G*k+q) % G=q/\(G*k+q) / G=k:=by
 refine ⟨?_,?_,?_⟩
 .calc G=G*1:=(uS _).symm
   _<=G*k:=Nat.mul_le_mul_left _ hk
   _<=G*k+q:=Nat.le_add_right _ _
 .rw [Nat.mul_add_mod,mX hG]
 .rw [Nat.mul_add_div (by unfold G;omega),Nat.div_eq_of_lt hG,iN]

theorem RF (hT:T.Fits P) (hs:bj ρ h w) (bn:dL ρ h h') {s s' x x' v:ai} (hu:GN P u) (mn:VR ρ s s') (hx:VR ρ x x') (ha:lA T t s x h=some (v,h')) :
 ∃ ρ' vc w',(Builtin.append_ #[t,u] ty #[s',x']).run P w=.ok vc w'/\Fr ρ ρ' h h' w w'/\bj ρ' h' w'/\VR ρ' v vc:=by
 unfold lA at ha
 split at ha
 .rename_i e hd
  have ht:=hT.desc _ _ hd
  simp only [bB,Prod.exists] at ha
  obtain ⟨k,bytes,z,eE,m,news,nE,ha⟩:=ha
  obtain ⟨i,zv,hi,rfl,rfl,hz,rfl,rI,pf⟩:=hT.info e k bytes z eE
  obtain ⟨us,hus,D4,hlen,cW⟩:=S0 (P:=P) hs hx nE
  have Ds:us.take (m*i.size)=us:=i9 (by omega)
  have hf:∀ W:World,W.heap=w.heap->(Builtin.firstCells i.size m x').run P W=.ok us.toArray W:=λW hW=>by
   have:=cW W hW m (bg _)
   rwa [Ds] at this
  split at ha
  .rename_i base n c
   split at ha
   .rename_i hm
    subst hm
    cases ha
    have h0:=cW w rfl 0 (bg _)
    simp only [Nat.zero_mul,List.take_zero] at h0
    have key:∃ a' c',s'=.slice a' n c'/\n<=c':=by
     cases mn with
     |cu=>exact ⟨_,_,rfl,bg _⟩
     |slice hA hc hn dC=>exact ⟨_,_,rfl,hn⟩
     |bI hA hc gF hn hk hm dC=>exact ⟨_,_,rfl,by omega⟩
    obtain ⟨a',c',rfl,hn⟩:=key
    exact ⟨ρ,_,w,Yh ht hu hi hlen h0 hn,Fr.refl _ _ _,hs,mn⟩
   .rename_i hm
    split at ha
    .cases ha
    .rename_i Dd
     simp only [nY,jW,zo,not_or,Bool.not_eq_false] at Dd
     obtain ⟨⟨⟨oW,vh⟩,PO⟩,aY⟩:=Dd
     have vo:0 < i.size:=by omega
     split at ha
     .rename_i eW
      split at ha
      .rename_i A o
       split at ha
       .rename_i jP
        simp only [bS,cd] at ha
        obtain ⟨h1,Hj,rfl,rfl⟩:=ha
        cases mn with
        |slice hA hc hn dC =>
         rename_i L ad
         obtain rfl:=dC (by have:=mX hc;omega)
         obtain ⟨w',dI,cy,cI⟩:=FQ (P:=P) hs hA hus Hj
         have KX:c % G=c:=mX hc
         rw [<- jN] at dI
         exact ⟨ρ,_,w',MH ht hu hi hlen (hf w rfl) (by omega) (by rw [Addr.add_mid];exact dI),cy,cI,.slice hA hc (by omega) (λ_=>rfl)⟩
        |bI hA hc gF hn hk vq dC =>
         rename_i c' L ad
         obtain ⟨w',dI,cy,cI⟩:=FQ (P:=P) hs hA hus Hj
         have kE:c'≠0:=by omega
         obtain ⟨rfl,gy⟩:=dC kE
         rw [<- jN] at dI
         exact ⟨ρ,_,w',MH ht hu hi hlen (hf w rfl) (by omega) (by rw [Addr.add_mid];exact dI),cy,cI,.bI hA hc gF (by omega) hk vq (λ_=>⟨rfl,gy⟩)⟩
       .cases ha
      .cases ha
     .rename_i eW
      simp only [bB] at ha
      obtain ⟨dt,hold,ha⟩:=ha
      obtain ⟨a',c',mo,rfl,Ma,DE,Lc⟩:=MI (P:=P) hs mn hold
      have xP:mo.take (n*i.size)=mo:=i9 (by omega)
      have Ld:∀ W:World,W.heap=w.heap->(Builtin.firstCells i.size n (.slice a' n c')).run P W=.ok mo.toArray W:=λW hW=>by
       have:=Lc W hW n (bg _)
       rwa [xP] at this
      have fX:=wc (q:=n+m) vo (by unfold G;omega)
      have grown:∀ (h2:Heap),bj ρ h2 w->ρ h2.size=none->c' < n+m->∃ ρ' vc w',(Builtin.append_ #[t,u] ty #[.slice a' n c',x']).run P w=.ok vc w'/\Fr ρ ρ' h2 (h2.push (.row (dt++news) e false)) w w'/\bj ρ' (h2.push (.row (dt++news) e false)) w' /\
       VR ρ' (.slice (some ⟨h2.size,0,none⟩) (n+m) (G*i.size+(n+m))) vc:=by
       intro h2 iT zZ aS
       have hr:=Xz (w:=w) (ty:=ty) ht hu hi hz hlen (hf w.drew rfl) (Ld w.drew rfl) aS (by omega) (by omega)
       have mi:=grownCap_ge w (n+m) c' e
       have hle:=grownCap_le_maxLen w (n+m) c' e (by unfold maxLen;omega)
       have vG:zv.cells.size=i.size:=by rw [<- nT,rI]
       have Dz:((mo++us)++(Builtin.zeroCells zv.cells (grownCap w (n+m) c' e - (n+m))).toList).length=grownCap w (n+m) c' e*i.size:=by
        simp only [hJ,DE,D4,nT,size_zeroCells,vG,<- wF]
        congr 1
        omega
       have Lv:(dt++news).length=(mo++us).length:=by simp [Ma.1,hus.1]
       obtain ⟨ρ',hρ,cy,cI⟩:=Aq (W:=w.drew.alloc (.cells ((mo++us)++(Builtin.zeroCells zv.cells (grownCap w (n+m) c' e - (n+m))).toList).toArray e)) (cs:=dt++news) (m:=mo++us) iT zZ rfl rfl rfl rfl
        (by rw [Lv]
            refine oD (by simp) rfl λj hj=>?_
            rw [jX]
            exact (kR (l₂:=(Builtin.zeroCells zv.cells (grownCap w (n+m) c' e - (n+m))).toList) hj).symm)
        (Ma.append hus)
       refine ⟨ρ',_,_,hr,cy,cI,?_⟩
       refine .bI hρ fX.1 (by rw [fX.2.1];exact mi) (by rw [fX.2.1];exact bg _) (by rw [fX.2.2];exact vo) hle (λ_=>⟨by simp,?_⟩)
       rw [fX.2.2]
       simp only [Gm,Dz]
       omega
      split at ha
      .rename_i hc
       cases ha
       have KX:c % G=c:=mX hc
       have VB:c'=c:=by
        cases mn with
        |cu=>rfl
        |slice hA hc hn dC=>rfl
        |bI hA vi gF hn hk hm dC=>omega
       exact grown h hs (bn _ (bg _) (by rw [Heap.size_push];omega)) (by omega)
      .rename_i hc
       split at ha
       .rename_i A o
        split at ha
        .rename_i cs e' hg
         split at ha
         .rename_i cH
          simp only [cY,jW] at cH
          obtain ⟨rfl,jP⟩:=cH
          cases ha
          cases mn with
          |slice hA vi hn dC=>omega
          |bI hA vi gF hn hk vq dC =>
           rename_i L ad
           by_cases aR:n+m<=c'
           .have kE:c'≠0:=by omega
            obtain ⟨rfl,gy⟩:=dC kE
            have hb:=hs.im A L hA
            rw [hg] at hb
            obtain ⟨cur,fz,fh,lj,lk,m0,DB,D6⟩:=hb
            obtain ⟨k1,k2,k3⟩:=oA DB
            rw [jP] at gy
            have hmul:(n+m)*i.size<=c'*i.size:=nU _ aR
            rw [wF] at hmul
            have vu:dt.length=n*i.size:=by rw [Ma.1];exact DE
            have Dh:∃ mm,cut cur.toList (L.s+o) dt.length=some mm/\bQ ρ dt mm:=by
             simp only [lO] at hold
             split at hold
             .cases hold
              exact ⟨[],oD (by simp;omega) rfl (by intro i hi;simp at hi),.nil ρ⟩
             .simp only [ia,hg] at hold
              obtain ⟨d,fW,qa⟩:=D6.cut hold
              obtain ⟨d1,d2,d3⟩:=oA fW
              refine ⟨d,oD (by simp at k1 ⊢;omega) (by rw [vu];exact d2) (λj hj=>?_),qa⟩
              rw [d3 j (by omega),k3 (o+j) (by omega),jN]
            obtain ⟨mm,LD,L9⟩:=Dh
            obtain ⟨ρ',hρ,cy,cI⟩:=Z8 hs (bn _ (bg _) (by rw [Heap.size_push,Heap.size_set];omega)) hA hg fh lj lk LD L9 hus (by omega)
            have dI:=Ht P L.b (L.s+o+dt.length) e' fz us 0 cur w fh lj (by simp;omega) (hus.one aY)
            simp only [iN] at dI
            refine ⟨ρ',_,_,MH ht hu hi hlen (hf w rfl) aR (by rw [Addr.add_mid,<- vu];exact dI),cy,cI,?_⟩
            refine .bI hρ fX.1 (by rw [fX.2.1];exact aR) (by rw [fX.2.1];exact bg _) (by rw [fX.2.2];exact vo) vq (λ_=>⟨rfl,?_⟩)
            rw [fX.2.2]
            exact gy
           .obtain ⟨KK,yI⟩:=SK hs hg
            obtain ⟨ρ',vc,w',hr,Vf,Mx,o7⟩:=grown _ yI (bn _ (bg _) (by rw [Heap.size_push,Heap.size_set];omega)) (by omega)
            exact ⟨ρ',vc,w',hr,KK.trans Vf,Mx,o7⟩
         .cases ha
        .cases ha
       .cases ha
  .cases ha
 .cases ha

end
end Go.Am
namespace Go.Am
open Go.RowKit
variable {t:TypeId} {v:ai}

theorem FV {Z:Type} (P:Program):∀ (c:Sem Z) (a:Z),dX P c=some a->∀ w,c.run P w=.ok a w
 | .pure b,a,h,w=>by simp only [dX] at h;cases h;rfl
 | .program k,a,h,w=>by simp only [dX] at h;exact FV P (k P) a h w
 | .mark m k,a,h,w=>by simp only [dX] at h;exact FV P k a h w
 | .load ..,_,h,_=>by simp [dX] at h
 | .store ..,_,h,_=>by simp [dX] at h
 | .new ..,_,h,_=>by simp [dX] at h
 | .shape ..,_,h,_=>by simp [dX] at h
 | .freeze ..,_,h,_=>by simp [dX] at h
 | .frozen ..,_,h,_=>by simp [dX] at h
 | .getObj ..,_,h,_=>by simp [dX] at h
 | .setObj ..,_,h,_=>by simp [dX] at h
 | .choose ..,_,h,_=>by simp [dX] at h
 | .sys ..,_,h,_=>by simp [dX] at h
 | .halt ..,_,h,_=>by simp [dX] at h

section
variable {P:Program} {T:bm} {ρ:bU} {h h':Heap} {w:World}

theorem Z6 (hT:T.Fits P) {n:Nat} (hn:c9 T t=some n):∃ i,P.info? t=some i/\i.size=n:=by
 simp only [c9,bS,Prod.exists] at hn
 obtain ⟨a,b,c,hi,rfl⟩:=hn
 obtain ⟨i,zv,h1,h2,_⟩:=hT.info t a b c hi
 exact ⟨i,h1,h2⟩

theorem px (hT:T.Fits P) {n:Nat} (hn:c9 T t=some n) (w:World):(sizeOf t).run P w=.ok n w:=by
 obtain ⟨i,hi,rfl⟩:=Z6 hT hn
 simp [sizeOf,typeInfo,hi]

theorem ZY (hT:T.Fits P) (hs:bj ρ h w) {u ty:TypeId} {d d' s s':ai} (hd:VR ρ d d') (mn:VR ρ s s') (hc:GI T t d s h=some (v,h')) :
 ∃ vc w',(Builtin.copy_ #[t,u] ty #[d',s']).run P w=.ok vc w'/\Fr ρ ρ h h' w w'/\bj ρ h' w'/\VR ρ v vc:=by
 unfold GI at hc
 split at hc
 .rename_i e a n c sF
  have ht:=hT.desc _ _ sF
  simp only [bB,Prod.exists] at hc
  obtain ⟨k,hk,m,src,nE,hc⟩:=hc
  obtain ⟨us,hus,D4,hlen,cW⟩:=S0 (P:=P) hs mn nE
  have cA:=px hT hk w
  have hf:=cW w rfl (min m n) (sx _ _)
  split at hc
  .rename_i h0
   cases hc
   rw [h0] at hf
   simp only [Nat.zero_mul,List.take_zero] at hf
   have ru:Nat.min m n=0:=h0
   have key:∃ a' c',d'=.slice a' n c':=by cases hd <;> exact ⟨_,_,rfl⟩
   obtain ⟨a',c',rfl⟩:=key
   refine ⟨.int .i64 0,w,?_,Fr.refl _ _ _,hs,.int _ _⟩
   cases a' <;> simp [Builtin.copy_,run_underlying ht,hlen,ru,cA,hf,storeCells,goInt]
  .rename_i h0
   have ru:Nat.min m n=min m n:=rfl
   split at hc
   .rename_i A o
    simp only [bS,cd] at hc
    obtain ⟨h1,Hj,rfl,rfl⟩:=hc
    have key:∃ L c',ρ A=some L/\d'=.slice (some ⟨L.b,L.s+o,none⟩) n c':=by
     cases hd with
     |slice hA hc hn dC =>
      obtain rfl:=dC (by omega)
      exact ⟨_,_,hA,rfl⟩
     |bI hA hc gF hn hk hm dC =>
      obtain ⟨rfl,_⟩:=dC (by omega)
      exact ⟨_,_,hA,rfl⟩
    obtain ⟨L,c',hA,rfl⟩:=key
    obtain ⟨w',dI,cy,cI⟩:=FQ (P:=P) hs hA (hus.take _) Hj
    refine ⟨.int .i64 (min m n:Nat),w',?_,cy,cI,.int _ _⟩
    simp [Builtin.copy_,run_underlying ht,hlen,ru,cA,hf,dI,goInt]
   .cases hc
 .cases hc

theorem Y5 (hT:T.Fits P) (hs:bj ρ h w) {ty:TypeId} {x x':ai} (hx:VR ρ x x') (hc:IH T t x h=some h') :
 ∃ w',(Builtin.clear_ #[t] ty #[x']).run P w=.ok undef w'/\Fr ρ ρ h h' w w'/\bj ρ h' w':=by
 unfold IH at hc
 split at hc
 .rename_i e a n c sF
  have ht:=hT.desc _ _ sF
  split at hc
  .rename_i h0
   subst h0
   cases hc
   have key:∃ a' c',x'=.slice a' 0 c':=by cases hx <;> exact ⟨_,_,rfl⟩
   obtain ⟨a',c',rfl⟩:=key
   refine ⟨w,?_,Fr.refl _ _ _,hs⟩
   cases a' <;> simp [Builtin.clear_,run_underlying ht,undef]
  .rename_i h0
   simp only [bB,Prod.exists] at hc
   obtain ⟨k,pO,z,eE,hc⟩:=hc
   obtain ⟨i,zv,hi,rfl,rfl,hz,rfl,rI,pf⟩:=hT.info e k pO z eE
   split at hc
   .rename_i A o
    have key:∃ L c',ρ A=some L/\x'=.slice (some ⟨L.b,L.s+o,none⟩) n c':=by
     cases hx with
     |slice hA hc hn dC =>
      obtain rfl:=dC (by omega)
      exact ⟨_,_,hA,rfl⟩
     |bI hA hc gF hn hk hm dC =>
      obtain ⟨rfl,_⟩:=dC (by omega)
      exact ⟨_,_,hA,rfl⟩
    obtain ⟨L,c',hA,rfl⟩:=key
    obtain ⟨w',dI,cy,cI⟩:=FQ (P:=P) hs hA (bQ.plain ρ (M1 pf n)) hc
    refine ⟨w',?_,cy,cI⟩
    have Hm:(Builtin.zeroCells zv.cells n).toList=lC zv.cells.toList n:=MO zv.cells n
    obtain ⟨n',rfl⟩:∃ n',n=n'+1:=⟨n - 1,by omega⟩
    simp [Builtin.clear_,run_underlying ht,zeroValue,typeInfo,hi,hz,Hm,dI,undef]
   .cases hc
 .cases hc

theorem Xy (hT:T.Fits P) (hs:bj ρ h w) (bn:dL ρ h h') {l l' c c':ai} (hl:VR ρ l l') (hc:VR ρ c c') (hm:F2 T t l c h=some (v,h')) :
 ∃ ρ' vc w',(Instr.makeSlice t l' c').run P w=.ok vc w'/\Fr ρ ρ' h h' w w'/\bj ρ' h' w'/\VR ρ' v vc:=by
 unfold F2 at hm
 split at hm
 .rename_i e k1 l k2 c sF
  cases hl
  cases hc
  have ht:=hT.desc _ _ sF
  simp only [bB,Prod.exists] at hm
  obtain ⟨k,pO,z,eE,hm⟩:=hm
  obtain ⟨i,zv,hi,rfl,rfl,hz,rfl,rI,pf⟩:=hT.info e k pO z eE
  split at hm
  .rename_i hh
   obtain ⟨h0,V7,PO,vh⟩:=hh
   cases hm
   have hr:=run_make (P:=P) w t e i zv ht hi hz k1 k2 l c h0 V7 (by rw [Int.mul_comm];omega) (by omega)
   have vG:zv.cells.size=i.size:=by rw [<- nT,rI]
   have rr:(madeCells zv.cells (c.toNat*i.size)).toList=lC zv.cells.toList c.toNat:=by
    rw [<- vG]
    exact MO zv.cells c.toNat
   obtain ⟨ρ',hρ,cy,cI⟩:=Aq (W:=w.alloc (.cells (madeCells zv.cells (c.toNat*i.size)) e)) (cs:=lC zv.cells.toList c.toNat) (m:=lC zv.cells.toList c.toNat) hs (bn _ (bg _) (by rw [Heap.size_push];omega)) rfl rfl rfl rfl
    (by rw [rr];exact oD (by omega) rfl (λj _=>by rw [jX])) (bQ.plain ρ (M1 pf _))
   refine ⟨ρ',_,_,hr,cy,cI,?_⟩
   have:=VR.slice (ρ:=ρ') (o:=0) (n:=l.toNat) (c:=c.toNat) hρ (by unfold G;omega) (by omega) (λ_=>rfl)
   simpa using this
  .cases hm
 .cases hm

theorem Sw (off:Nat):∀ (l:List ai) (k:Nat) (cs:Array ai),off+k+l.length<=cs.size ->
 ((l.zipIdx k).foldl (λcs (x:ai × Nat)=>cs.setIfInBounds (off+x.2) x.1) cs).toList=an cs.toList (off+k) l
 | [],k,cs,_=>by simp [an]
 |v::l,k,cs,hl=>by
  simp only [List.zipIdx_cons,pL]
  have tO:off+k+(l.length+1)<=cs.size:=by simpa using hl
  rw [Sw off l (k+1) _ (by simp;omega)]
  apply uO
  intro i
  rw [bf _ _ _ _ (by simp;omega),bf _ _ _ _ (by simp;omega)]
  simp only [Array.toList_setIfInBounds,List.getElem?_set,nW,nT]
  by_cases h1:i < off+k
  .rw [aC h1,aC (by omega),ay (by omega)]
  .rw [ay h1]
   by_cases h2:i=off+k
   .subst h2
    rw [aC (by omega),aC rfl,aC (by omega),aC (by omega)]
    simp
   .rw [ay (by omega)]
    by_cases h3:i < off+k+(l.length+1)
    .rw [aC (by omega),aC h3]
     obtain ⟨j,rfl⟩:∃ j,i=off+k+1+j:=⟨i - (off+k+1),by omega⟩
     rw [show off+k+1+j - (off+(k+1))=j by omega,show off+k+1+j - (off+k)=j+1 by omega]
     simp
    .rw [ay (by omega),ay h3,ay (by omega)]

theorem FO {place place':Nat->Option (Nat × Nat)} (hp:∀ i r,place i=some r->place' i=some r):∀ (parts cL:List (Nat × ai)) (cs k7:List ai) (ds:Array ai),
 parts.length=cL.length->(∀ (i:Nat) (x y:Nat × ai),parts[i]? = some x->cL[i]? = some y->x.1=y.1/\VR ρ x.2 y.2)->bQ ρ cs ds.toList->pI place cs parts=some k7 ->
 ∃ GY,Instr.fill place' ds cL=some GY/\bQ ρ k7 GY.toList
 | [],[],cs,k7,ds,_,_,hv,hf=>by
  simp only [pI] at hf
  cases hf
  exact ⟨ds,rfl,hv⟩
 |(i,v)::parts,(j,u)::cL,cs,k7,ds,hlen,aq,hv,hf=>by
  obtain ⟨gj,jQ⟩:=aq 0 _ _ rfl rfl
  simp only at gj jQ
  subst gj
  simp only [pI,bB,Prod.exists] at hf
  obtain ⟨o,n,DQ,hf⟩:=hf
  split at hf
  .rename_i hc
   have Dg:u.cells.size=v.cells.size:=by have:=jQ.cells.1;simpa using this.symm
   have nu:ds.size=cs.length:=by have:=hv.1;simpa using this.symm
   have Dr:=Sw o u.cells.toList 0 ds (by simp;omega)
   have Dm:(u.cells.zipIdx.foldl (λcs (x:ai × Nat)=>cs.setIfInBounds (o+x.2) x.1) ds).toList=an ds.toList o u.cells.toList:=by
    rw [<- Array.foldl_toList,Array.toList_zipIdx]
    simpa using Dr
   have D5:bQ ρ (an cs o v.cells.toList) (u.cells.zipIdx.foldl (λcs (x:ai × Nat)=>cs.setIfInBounds (o+x.2) x.1) ds).toList:=by
    rw [Dm]
    exact hv.an o jQ.cells
   obtain ⟨GY,tE,fW⟩:=FO hp parts cL _ k7 _ (by simpa using hlen) (λi x y hx hy=>aq (i+1) x y (by simpa using hx) (by simpa using hy)) D5 hf
   refine ⟨GY,?_,fW⟩
   simp only [Instr.fill,hp i _ DQ]
   rw [ay (by simp;omega)]
   exact tE
  .cases hf
 | [],_::_,_,_,_,hlen,_,_,_=>by simp at hlen
 |_::_,[],_,_,_,hlen,_,_,_=>by simp at hlen

theorem RW (hT:T.Fits P):∀ (fs:List Field) (ps:List (Nat × Nat)) (w:World),Ge T fs=some ps->(fs.mapM λf=>do pure (f.offset,<- sizeOf f.type):Sem (List (Nat × Nat))).run P w=.ok ps w
 | [],ps,w,hp=>by simp only [Ge] at hp;cases hp;simp
 |f::fs,ps,w,hp=>by
  simp only [Ge,bB,bS] at hp
  obtain ⟨n,hn,r,hr,rfl⟩:=hp
  rw [List.mapM_cons]
  simp only [Sem.run_bind,px hT hn,Result.andThen_ok,Sem.run_pure]
  have ih:=RW hT fs r w hr
  rw [ih]
  rfl

theorem Y2 (hT:T.Fits P) {parts cL:List (Nat × ai)} (hlen:parts.length=cL.length)
 (aq:∀ (i:Nat) (x y:Nat × ai),parts[i]? = some x->cL[i]? = some y->x.1=y.1/\VR ρ x.2 y.2) (hb:mJ T t parts=some v) (w:World) :
 ∃ vc,(Instr.build t cL.toArray).run P w=.ok vc w/\VR ρ v vc:=by
 simp only [mJ,bB,Prod.exists] at hb
 obtain ⟨k,pO,z,eE,hb⟩:=hb
 obtain ⟨i,zv,hi,rfl,rfl,hz,rfl,rI,pf⟩:=hT.info t k pO z eE
 split at hb
 .rename_i fs hd
  have ht:=hT.desc _ _ hd
  simp only [bB,bS] at hb
  obtain ⟨ps,rA,cs,hf,rfl⟩:=hb
  obtain ⟨ds,tE,fW⟩:=FO (ρ:=ρ) (place':=(ps.toArray[·]?)) (λi r hr=>by simpa using hr) parts cL _ cs zv.cells hlen aq (bQ.plain ρ pf) hf
  refine ⟨.agg ds,?_,?_⟩
  .have hm:=RW hT fs.toList ps w rA
   have Ly:(fs.mapM λf=>do pure (f.offset,<- sizeOf f.type):Sem (Array (Nat × Nat))).run P w=.ok ps.toArray w:=by
    rw [Array.mapM_eq_mapM_toList]
    simp only [Sem.run_map,hm,Result.andThen_ok]
   simp only [Instr.build,zeroValue,typeInfo,Sem.run_bind,run_program,Result.andThen_ok,hi,Sem.run_pure,hz,run_underlying ht,Ly,tE]
  .have:=fW.toArray
   simpa using this
 .rename_i n e hd
  have ht:=hT.desc _ _ hd
  simp only [bB,bS] at hb
  obtain ⟨k,hk,cs,hf,rfl⟩:=hb
  obtain ⟨ds,tE,fW⟩:=FO (ρ:=ρ) (place':=λi=>some (i*k,k)) (λi r hr=>hr) parts cL _ cs zv.cells hlen aq (bQ.plain ρ pf) hf
  refine ⟨.agg ds,?_,?_⟩
  .simp only [Instr.build,zeroValue,typeInfo,Sem.run_bind,run_program,Result.andThen_ok,hi,Sem.run_pure,hz,run_underlying ht,px hT hk,tE]
  .have:=fW.toArray
   simpa using this
 .cases hb

theorem Xs (hT:T.Fits P) (hs:bj ρ h w) (bn:dL ρ h h') {len:Nat} {parts cL:List (Nat × ai)} (hlen:parts.length=cL.length)
 (aq:∀ (i:Nat) (x y:Nat × ai),parts[i]? = some x->cL[i]? = some y->x.1=y.1/\VR ρ x.2 y.2) (hb:rX T t len parts h=some (v,h')) :
 ∃ ρ' vc w',(Instr.buildSlice t len cL.toArray).run P w=.ok vc w'/\Fr ρ ρ' h h' w w'/\bj ρ' h' w'/\VR ρ' v vc:=by
 unfold rX at hb
 split at hb
 .rename_i e hd
  have ht:=hT.desc _ _ hd
  simp only [bB,Prod.exists] at hb
  obtain ⟨k,pO,z,eE,hb⟩:=hb
  obtain ⟨i,zv,hi,rfl,rfl,hz,rfl,rI,pf⟩:=hT.info e k pO z eE
  split at hb
  .cases hb
  .rename_i LX
   simp only [nY,jW,not_or] at LX
   obtain ⟨LX,Vo⟩:=LX
   have hG:len < G:=by unfold G;omega
   simp only [bS,cd] at hb
   obtain ⟨cs,hf,rfl,rfl⟩:=hb
   have vG:zv.cells.size=i.size:=by rw [<- nT,rI]
   by_cases h0:len*i.size=0
   .have Ae:lC zv.cells.toList len=[]:=by
     apply List.eq_nil_of_length_eq_zero
     rw [YH,rI]
     exact h0
    rw [Ae] at hf
    obtain ⟨ds,tE,fW⟩:=FO (ρ:=ρ) (place':=λj=>some (j*i.size,i.size)) (λi r hr=>hr) parts cL _ cs #[] hlen aq (.nil ρ) hf
    obtain ⟨ρ',hρ,cy,cI⟩:=Aq (W:=w.alloc (.cells ds e)) (cs:=cs) (m:=ds.toList) hs (bn _ (bg _) (by rw [Heap.size_push];omega)) rfl rfl rfl rfl (by rw [fW.1];exact oD (by omega) rfl (λj _=>by rw [jX])) fW
    refine ⟨ρ',.slice (some ⟨w.heap.size,0,none⟩) len len,w.alloc (.cells ds e),?_,cy,cI,?_⟩
    .have DX:¬ (16777216 < len*i.size):=by omega
     simp [Instr.buildSlice,run_underlying ht,sizeOf,typeInfo,hi,h0,Array.range_zero',tE,Go.newRow]
    .have:=VR.slice (ρ:=ρ') (o:=0) (n:=len) (c:=len) hρ hG (bg _) (λ_=>rfl)
     simpa using this
   .have rr:((Array.range (len*i.size)).map (zv.cells[· % zv.cells.size]!)).toList=lC zv.cells.toList len:=by
     have:=MO zv.cells len
     simp only [vG] at this ⊢
     exact this
    obtain ⟨ds,tE,fW⟩:=FO (ρ:=ρ) (place':=λj=>some (j*i.size,i.size)) (λi r hr=>hr) parts cL _ cs ((Array.range (len*i.size)).map (zv.cells[· % zv.cells.size]!)) hlen aq
     (by rw [rr];exact bQ.plain ρ (M1 pf _)) hf
    obtain ⟨ρ',hρ,cy,cI⟩:=Aq (W:=w.alloc (.cells ds e)) (cs:=cs) (m:=ds.toList) hs (bn _ (bg _) (by rw [Heap.size_push];omega)) rfl rfl rfl rfl (by rw [fW.1];exact oD (by omega) rfl (λj _=>by rw [jX])) fW
    refine ⟨ρ',.slice (some ⟨w.heap.size,0,none⟩) len len,w.alloc (.cells ds e),?_,cy,cI,?_⟩
    .have DX:¬ (16777216 < len*i.size):=by omega
     simp only [Instr.buildSlice,Sem.run_bind,run_underlying ht,Result.andThen_ok,sizeOf,typeInfo,run_program,hi,Sem.run_pure,gt_iff_lt]
     simp [DX,h0,zeroValue,typeInfo,hi,hz,tE,Go.newRow]
    .have:=VR.slice (ρ:=ρ') (o:=0) (n:=len) (c:=len) hρ hG (bg _) (λ_=>rfl)
     simpa using this
 .cases hb

end
end Go.Am
namespace Go.Am
open Go.RowKit
variable {v x y:ai} {t:TypeId}

section
variable {P:Program} {T:bm} {ρ:bU} {h h':Heap} {w:World}

theorem HC {hi i:Nat} (cz:VR ρ x y) (hb:pH x hi=some i) {oc:Nat} (hle:hi<=oc) (code:BoundsCode) (w:World):(Instr.sliceBound y oc code).run P w=.ok i w/\i<=hi:=by
 cases cz with
 |int k n =>
  simp only [pH] at hb
  split at hb
  .rename_i hc
   cases hb
   have vi:0<=n/\n<=(oc:Int):=⟨hc.1,by omega⟩
   exact ⟨by simp [Instr.sliceBound,asIntOf,vi],by omega⟩
  .cases hb
 |_=>simp [pH] at hb

def m6 (ρ:bU):Option ai->Option ai->Prop
 |none,none=>True
 |some x,some y=>VR ρ x y
 |_,_=>False

theorem FR {len cap xc l' h' m':Nat} {l h m ll hh mm:Option ai} (hl:m6 ρ l ll) (q6:m6 ρ h hh) (hm:m6 ρ m mm) (hb:mQ len cap l h m=some (l',h',m')) (hlen:len<=cap) (np:cap<=xc) (kP:Bool) (w:World) :
 (Instr.sliceBounds kP len xc ll hh mm).run P w=.ok (l',h',if m.isSome then m' else xc) w/\l'<=h'/\h'<=m'/\m'<=cap:=by
 simp only [mQ,bB,de,cd] at hb
 obtain ⟨m1,fJ,h1,sH,l1,oX,rfl,rfl,rfl⟩:=hb
 have rP:∀ (code:BoundsCode),(match ll with|some v=>Instr.sliceBound v h1 code|none=>(pure 0:Sem Nat)).run P w=.ok l1 w/\l1<=h1:=by
  intro code
  cases l with
  |none=>cases ll with
   |none=>simp only [de] at oX;subst oX;exact ⟨rfl,pN _⟩
   |some v=>exact hl.elim
  |some x=>cases ll with
   |none=>exact hl.elim
   |some v=>exact HC hl oX (bg _) code w
 cases m with
 |none =>
  cases mm with
  |some v=>exact hm.elim
  |none =>
   simp only [de] at fJ
   subst fJ
   cases h with
   |none=>cases hh with
    |some v=>exact q6.elim
    |none =>
     simp only [de] at sH
     subst sH
     obtain ⟨k1,k2⟩:=rP .sliceB
     refine ⟨?_,k2,hlen,bg _⟩
     simp only [Instr.sliceBounds,Sem.run_bind,Sem.run_pure,Result.andThen_ok,A8,fb,if_false]
     cases ll with
     |none =>
      have e:l1=0:=by have:=k1;simp at this;exact this.symm
      simp [e]
     |some u =>
      have e:(Instr.sliceBound u len .sliceB).run P w=.ok l1 w:=k1
      simp only [Sem.run_bind,e,Result.andThen_ok,Sem.run_pure]
   |some x=>cases hh with
    |none=>exact q6.elim
    |some v =>
     have qM:=HC (P:=P) q6 sH np (if kP then BoundsCode.sliceAcap else .sliceAlen) w
     obtain ⟨k1,k2⟩:=rP .sliceB
     refine ⟨?_,k2,qM.2,bg _⟩
     simp only [Instr.sliceBounds,Sem.run_bind,Sem.run_pure,Result.andThen_ok,A8,fb,if_false,qM.1]
     cases ll with
     |none =>
      have e:l1=0:=by have:=k1;simp at this;exact this.symm
      simp [e]
     |some u =>
      have e:(Instr.sliceBound u h1 .sliceB).run P w=.ok l1 w:=k1
      simp only [Sem.run_bind,e,Result.andThen_ok,Sem.run_pure]
 |some q =>
  cases mm with
  |none=>exact hm.elim
  |some v =>
   have P7:=HC (P:=P) hm fJ np (if kP then BoundsCode.slice3Acap else .slice3Alen) w
   cases h with
   |none=>cases sH
   |some x=>cases hh with
    |none=>exact q6.elim
    |some v' =>
     have qM:=HC (P:=P) q6 sH (bg _) BoundsCode.slice3B w
     obtain ⟨k1,k2⟩:=rP .slice3C
     refine ⟨?_,k2,qM.2,P7.2⟩
     simp only [Instr.sliceBounds,Sem.run_bind,Result.andThen_ok,Option.isSome_some,if_true,P7.1,qM.1]
     cases ll with
     |none =>
      have e:l1=0:=by have:=k1;simp at this;exact this.symm
      simp [e]
     |some u =>
      have e:(Instr.sliceBound u h1 .slice3C).run P w=.ok l1 w:=k1
      simp only [Sem.run_bind,e,Result.andThen_ok,Sem.run_pure]

theorem Zu (hT:T.Fits P) {l hi m ll hh mm:Option ai} (cz:VR ρ x y) (hl:m6 ρ l ll) (q6:m6 ρ hi hh) (hm:m6 ρ m mm) (hs:kn T t x l hi m=some v) (w:World) :
 ∃ vc,(Instr.sliceAt t y ll hh mm).run P w=.ok vc w/\VR ρ v vc:=by
 unfold kn at hs
 split at hs
 .rename_i s hd
  cases cz
  have ht:=hT.desc _ _ hd
  split at hs
  .cases hs
  .rename_i zY
   have DB:m=none:=by cases m <;> simp_all
   subst DB
   have LD:mm=none:=by cases mm with|none=>rfl|some _=>exact hm.elim
   subst LD
   simp only [bS,Prod.exists] at hs
   obtain ⟨l',h',m',hb,rfl⟩:=hs
   obtain ⟨k1,k2,k3,k4⟩:=FR (P:=P) (m:=none) (mm:=none) hl q6 trivial hb (bg _) (bg _) false w
   refine ⟨_,?_,.string _⟩
   simp [Instr.sliceAt,Instr.slice,run_underlying ht,k1]
 .rename_i n e A o hd
  cases cz with
  |ptr hA =>
   rename_i L
   have ht:=hT.desc _ _ hd
   simp only [bB,bS,Prod.exists] at hs
   obtain ⟨l',h',m',hb,k,hk,rfl⟩:=hs
   have Wi:n < G:=by
    rcases kT n G with aS|mi
    .exact aS
    .rw [ay (by omega)] at hb;cases hb
   rw [aC Wi] at hb
   obtain ⟨k1,k2,k3,k4⟩:=FR (P:=P) hl q6 hm hb (bg _) (bg _) false w
   have tP:(if m.isSome then m' else n)=m':=by
    cases m with
    |some _=>rfl
    |none =>
     simp only [mQ,bB,de,cd] at hb
     obtain ⟨m1,fJ,h1,sH,l1,oX,rfl,rfl,rfl⟩:=hb
     simp [fJ]
   rw [tP] at k1
   have cA:=px hT hk w
   refine ⟨.slice (some (if m'=l' then ⟨L.b,L.s+o,none⟩ else (⟨L.b,L.s+o,none⟩:Addr).add (l'*k))) (h' - l') (m' - l'),?_,?_⟩
   .simp only [Instr.sliceAt,Sem.run_bind,run_underlying ht,Result.andThen_ok,Instr.sureAddr,Sem.run_pure,k1,cA]
   .by_cases hG:m' - l' < G
    .refine .slice hA hG (by omega) (λh0=>?_)
     rw [ay (by omega),ay (by omega),Addr.add_mid,jN]
    .exfalso
     omega
 .rename_i e a n c hd
  have ht:=hT.desc _ _ hd
  simp only [bB] at hs
  obtain ⟨k,hk,hs⟩:=hs
  have cA:=px hT hk w
  split at hs
  .rename_i Vz
   simp only [bB,Prod.exists] at hs
   obtain ⟨l',h',m',hb,hs⟩:=hs
   have tP:(if m.isSome then m' else c)=m':=by
    cases m with
    |some _=>rfl
    |none =>
     simp only [mQ,bB,de,cd] at hb
     obtain ⟨m1,fJ,h1,sH,l1,oX,rfl,rfl,rfl⟩:=hb
     simp [fJ]
   cases cz with
   |cu =>
    obtain ⟨k1,k2,k3,k4⟩:=FR (P:=P) hl q6 hm hb (bg _) (bg _) true w
    rw [tP] at k1
    simp only [de] at hs
    subst hs
    have e1:h' - l'=0:=by omega
    have e2:m' - l'=0:=by omega
    refine ⟨.slice none (h' - l') (m' - l'),?_,by rw [e1,e2];exact .cu⟩
    simp [Instr.sliceAt,Instr.slice,run_underlying ht,k1,cA]
   |slice hA hc hn dC =>
    rename_i A o L ad
    obtain ⟨k1,k2,k3,k4⟩:=FR (P:=P) hl q6 hm hb hn (bg _) true w
    rw [tP] at k1
    simp only [de] at hs
    subst hs
    refine ⟨.slice (if m'=l' then some ad else some (ad.add (l'*k))) (h' - l') (m' - l'),?_,?_⟩
    .simp [Instr.sliceAt,Instr.slice,run_underlying ht,k1,cA]
    .have hx:(if m'=l' then some ad else some (ad.add (l'*k)))=some (if m'=l' then ad else ad.add (l'*k)):=by split <;> rfl
     rw [hx]
     refine .slice hA (by omega) (by omega) (λh0=>?_)
     rw [ay (by omega),ay (by omega),dC (by omega),Addr.add_mid,jN]
   |bI hA hc gF hn hY vq dC=>omega
  .rename_i Vz
   split at hs
   .rename_i A o
    split at hs
    .rename_i jP
     simp only [bS,Prod.exists] at hs
     obtain ⟨l',h',m',hb,rfl⟩:=hs
     cases cz with
     |slice hA hc hn dC=>omega
     |bI hA hc gF hn hY vq dC =>
      rename_i c' L ad
      obtain ⟨k1,k2,k3,k4⟩:=FR (P:=P) hl q6 hm hb hn gF true w
      cases m with
      |some q =>
       simp only [Option.isSome_some,if_true] at k1
       refine ⟨.slice (if m'=l' then some ad else some (ad.add (l'*k))) (h' - l') (m' - l'),?_,?_⟩
       .simp [Instr.sliceAt,Instr.slice,run_underlying ht,k1,cA]
       .have hx:(if m'=l' then some ad else some (ad.add (l'*k)))=some (if m'=l' then ad else ad.add (l'*k)):=by split <;> rfl
        rw [hx]
        have aS:c % G < G:=wG _ (by unfold G;omega)
        refine .slice hA (by omega) (by omega) (λh0=>?_)
        rw [ay (by omega),ay (by omega),(dC (by omega)).1,Addr.add_mid,jN]
      |none =>
       simp only [A8,fb,if_false] at k1
       have fJ:m'=c % G:=by
        simp only [mQ,bB,de,cd] at hb
        obtain ⟨m1,fJ,h1,sH,l1,oX,rfl,rfl,rfl⟩:=hb
        exact fJ.symm
       subst fJ
       refine ⟨.slice (if c'=l' then some ad else some (ad.add (l'*k))) (h' - l') (c' - l'),?_,?_⟩
       .simp [Instr.sliceAt,Instr.slice,run_underlying ht,k1,cA]
       .have hx:(if c'=l' then some ad else some (ad.add (l'*k)))=some (if c'=l' then ad else ad.add (l'*k)):=by split <;> rfl
        rw [hx]
        have aS:c % G < G:=wG _ (by unfold G;omega)
        have fX:=wc (k:=k) (q:=c % G - l') (by omega) (by omega)
        refine .bI hA fX.1 (by rw [fX.2.1];omega) (by rw [fX.2.1];omega) (by rw [fX.2.2];omega) (by omega) (λh0=>?_)
        obtain ⟨rfl,gy⟩:=dC (by omega)
        rw [ay (by omega),Addr.add_mid,fX.2.2]
        refine ⟨by rw [jN],?_⟩
        rw [jP] at gy
        have e1:c'*k=l'*k+(c' - l')*k:=by rw [<- wF];congr 1;omega
        omega
    .cases hs
   .cases hs
 .cases hs

theorem XD (hT:T.Fits P) {i j:ai} (cz:VR ρ x y) (gj:VR ρ i j) (hs:hZ T t x i=some v) (w:World) :
 ∃ vc,(Instr.indexAt t y j).run P w=.ok vc w/\VR ρ v vc:=by
 unfold hZ at hs
 split at hs
 .rename_i k i
  cases gj
  split at hs
  .rename_i n e A o hd
   cases cz with
   |ptr hA =>
    rename_i L
    have ht:=hT.desc _ _ hd
    split at hs
    .rename_i hi
     simp only [bS] at hs
     obtain ⟨q,hq,rfl⟩:=hs
     refine ⟨.pointer (some ⟨L.b,L.s+(o+i.toNat*q),none⟩),?_,.ptr hA⟩
     simp [Instr.indexAt,asIntOf,run_underlying ht,Instr.sureAddr,hi,px hT hq,Addr.add_mid,jN]
    .cases hs
  .rename_i e A o n c hd
   have ht:=hT.desc _ _ hd
   split at hs
   .rename_i hi
    simp only [bS] at hs
    obtain ⟨q,hq,rfl⟩:=hs
    have key:∃ L c',ρ A=some L/\y=.slice (some ⟨L.b,L.s+o,none⟩) n c':=by
     cases cz with
     |slice hA hc hn dC =>
      obtain rfl:=dC (by omega)
      exact ⟨_,_,hA,rfl⟩
     |bI hA hc gF hn hk hm dC =>
      obtain ⟨rfl,_⟩:=dC (by omega)
      exact ⟨_,_,hA,rfl⟩
    obtain ⟨L,c',hA,rfl⟩:=key
    refine ⟨.pointer (some ⟨L.b,L.s+(o+i.toNat*q),none⟩),?_,.ptr hA⟩
    simp [Instr.indexAt,asIntOf,run_underlying ht,hi,px hT hq,Addr.add_mid,jN]
   .cases hs
  .cases hs
 .cases hs

theorem XC (hT:T.Fits P) {f:Nat} (cz:VR ρ x y) (hs:gg T t x f=some v) (w:World) :
 ∃ vc,(Instr.fieldAt t y f).run P w=.ok vc w/\VR ρ v vc:=by
 unfold gg at hs
 split at hs
 .rename_i fs A o hd
  cases cz with
  |ptr hA =>
   rename_i L
   have ht:=hT.desc _ _ hd
   simp only [bB] at hs
   obtain ⟨fl,hf,n,hn,hs⟩:=hs
   split at hs
   .cases hs
   .rename_i h0
    cases hs
    refine ⟨.pointer (some ⟨L.b,L.s+(o+fl.offset),none⟩),?_,.ptr hA⟩
    simp [Instr.fieldAt,run_underlying ht,hf,Instr.sureAddr,fieldPlace,px hT hn,h0,Addr.add_mid,jN]
 .cases hs

theorem Su (hT:T.Fits P) {cs:List ai} {ds:Array ai} {o:Nat} (hv:bQ ρ cs ds.toList) (hs:uP T t cs o=some v) (w:World) :
 ∃ vc,(part t ds o).run P w=.ok vc w/\VR ρ v vc:=by
 simp only [uP,cD,bB,bS] at hs
 obtain ⟨g,⟨d,hd,hg⟩,hs⟩:=hs
 have ht:=hT.desc _ _ hd
 have k8:(isAgg t).run P w=.ok g w:=by
  unfold isAgg
  rw [Sem.run_bind,run_underlying ht w]
  cases d <;> simp_all
 cases g with
 |true =>
  simp only [if_true,bB,bS] at hs
  obtain ⟨n,hn,l,hl,rfl⟩:=hs
  obtain ⟨d',iI,qa⟩:=hv.cut hl
  refine ⟨.agg d'.toArray,?_,qa.toArray⟩
  have hx:ds.extract o (o+n)=d'.toArray:=by
   unfold cut at iI
   split at iI
   .cases iI
    apply Array.ext'
    simp [List.take_drop]
   .cases iI
  simp [part,k8,px hT hn,hx]
 |false =>
  simp only [fb,if_false] at hs
  obtain ⟨u,hu,jQ⟩:=hv.get hs
  refine ⟨u,?_,jQ⟩
  have sL:ds[o]? = some u:=by simpa using hu
  simp [part,k8,sL]

theorem YV (hT:T.Fits P) {f:Nat} (cz:VR ρ x y) (hs:IP T t x f=some v) (w:World) :
 ∃ vc,(Instr.field t y f).run P w=.ok vc w/\VR ρ v vc:=by
 unfold IP at hs
 split at hs
 .rename_i fs cs hd
  have ht:=hT.desc _ _ hd
  simp only [bB] at hs
  obtain ⟨fl,hf,hs⟩:=hs
  cases cz with
  |agg hc hh =>
   rename_i ds
   obtain ⟨vc,hr,hv⟩:=Su hT (VR.agg hc hh).wR hs w
   refine ⟨vc,?_,hv⟩
   simp [Instr.field,run_underlying ht,hf,asAgg,hr]
 .cases hs

theorem Yw {op:BinOp} (hs:nL op x y=some v):dX P (binOp op t x y)=some v/\plain x=true/\plain y=true/\plain v=true/\(∃ k a,x=.int k a):=by
 unfold nL at hs
 split at hs <;> first|(cases hs;done)|(split at hs <;> first|(cases hs;done)|(rename_i hk;subst hk;cases hs;exact ⟨by simp [binOp,Op.intArith,Op.intCmp,dX,pure],rfl,rfl,rfl,_,_,rfl⟩))

theorem Z0 {d:TypeDesc} (hd:P.underlying t=some d) {x' y':ai} {b:Bool} (hx:VR ρ x x') (hy:VR ρ y y') (he:zw d x y=some b) (w:World) :
 (Op.equal t x' y').run P w=.ok b w/\∀ (op:BinOp),op=.eql\/op=.neq->binOp op t x' y'=(if op=.eql then (do pure (.bool (<- Op.equal t x' y'))) else (do pure (.bool (!(<- Op.equal t x' y'))))):=by
 have key:(∀ d0:Nat,(Op.equalIn (d0+1) t x' y').run P w=.ok b w)/\∀ (op:BinOp),op=.eql\/op=.neq->binOp op t x' y'=(if op=.eql then (do pure (.bool (<- Op.equal t x' y'))) else (do pure (.bool (!(<- Op.equal t x' y'))))):=by
  unfold zw at he
  split at he <;> first
   |(cases he;done)
   |(cases hx <;> cases hy <;> simp at he <;> subst he <;> exact ⟨λd0=>by simp [Op.equalIn,run_underlying hd],by rintro op (rfl|rfl) <;> rfl⟩)
 exact ⟨key.1 9999,key.2⟩

theorem Hw (op:BinOp) (t:TypeId) (x y:Operand) (a b:ai) (ha:a≠.nilIface) (k8:∀ c d,a=.agg c->b=.agg d->P.eqGuardType P.depth t=false) (w:World):(eqGuard op t x y a b).run P w=.ok () w:=by
 unfold eqGuard
 cases op <;> simp only [Bool.not_true,Bool.not_false,if_true,if_false,fb] <;> try rfl
 all_goals
  cases a <;> first|exact (ha rfl).elim|skip
 all_goals
  cases b <;> first|rfl|skip
 all_goals
  simp [k8 _ _ rfl rfl]

theorem Aw (hT:T.Fits P) {cs:Array ai} {o:Nat} (hs:uP T t cs.toList o=some v) (w:World):(part t cs o).run P w=.ok v w:=by
 simp only [uP,cD,bB,bS] at hs
 obtain ⟨g,⟨d,hd,hg⟩,hs⟩:=hs
 have ht:=hT.desc _ _ hd
 have k8:(isAgg t).run P w=.ok g w:=by
  unfold isAgg
  rw [Sem.run_bind,run_underlying ht w]
  cases d <;> simp_all
 cases g with
 |true =>
  simp only [if_true,bB,bS] at hs
  obtain ⟨n,hn,l,hl,rfl⟩:=hs
  have hx:cs.extract o (o+n)=l.toArray:=by
   unfold cut at hl
   split at hl
   .cases hl
    apply Array.ext'
    simp [List.take_drop]
   .cases hl
  simp [part,k8,px hT hn,hx]
 |false =>
  simp only [fb,if_false] at hs
  have sL:cs[o]? = some v:=by simpa using hs
  simp [part,k8,sL]
theorem RG (hT:T.Fits P) {E:TypeId->ai->ai->Option Bool} {d:Nat} (w:World) (hE:∀ t x y b,E t x y=some b->(Op.equalIn d t x y).run P w=.ok b w) (xs ys:Array ai) :
 ∀ (fs:List Field) (ps:List (TypeId × Nat)) (b:Bool),Ao fs=some ps->uE T E xs.toList ys.toList ps=some b->(Op.eqFields d xs ys fs).run P w=.ok b w
 | [],ps,b,hp,he=>by
  cases hp
  cases he
  simp [Op.eqFields]
 |f::fs,ps,b,hp,he=>by
  simp only [Ao] at hp
  split at hp
  .cases hp
  .rename_i hn
   simp only [bS] at hp
   obtain ⟨r,hr,rfl⟩:=hp
   simp only [uE,bB] at he
   obtain ⟨a,ha,c,hc,q,hq,he⟩:=he
   have h1:=Aw hT ha w
   have h2:=Aw hT hc w
   have h3:=hE _ _ _ _ hq
   simp only [Op.eqFields]
   rw [aC (by simpa using hn)]
   simp only [Sem.run_bind,h1,h2,h3,Result.andThen_ok]
   cases q with
   |false =>
    simp only [fb,if_false,de] at he
    subst he
    simp
   |true =>
    simp only [if_true] at he
    simpa using RG hT w hE xs ys fs r b hr he
theorem RQ (hT:T.Fits P) {E:TypeId->ai->ai->Option Bool} {d:Nat} (w:World) (hE:∀ t x y b,E t x y=some b->(Op.equalIn d t x y).run P w=.ok b w) (xs ys:Array ai) (e:TypeId) (k:Nat) :
 ∀ (n i:Nat) (b:Bool),uE T E xs.toList ys.toList (AB e k n i)=some b->(Op.eqItems d e k xs ys (List.range' i n)).run P w=.ok b w
 |0,i,b,he=>by
  cases he
  simp [Op.eqItems]
 |n+1,i,b,he=>by
  simp only [AB,uE,bB] at he
  obtain ⟨a,ha,c,hc,q,hq,he⟩:=he
  have h1:=Aw hT ha w
  have h2:=Aw hT hc w
  have h3:=hE _ _ _ _ hq
  simp only [List.range'_succ,Op.eqItems,Sem.run_bind,h1,h2,h3,Result.andThen_ok]
  cases q with
  |false =>
   simp only [fb,if_false,de] at he
   subst he
   simp
  |true =>
   simp only [if_true] at he
   simpa using RQ hT w hE xs ys e k n (i+1) b he
theorem F0 (hT:T.Fits P) (w:World):∀ (d D:Nat) (t:TypeId) (x y:ai) (b:Bool),dS T d t x y=some b->(Op.equalIn (D+d) t x y).run P w=.ok b w
 |0,_,_,_,_,_,he=>by simp [dS] at he
 |d+1,D,t,x,y,b,he=>by
  unfold dS at he
  split at he
  .rename_i a c hd
   cases he
   exact run_equalIn_bool w (D+d) t a c (hT.desc _ _ hd)
  .rename_i q k a k' c hd
   split at he
   .rename_i hk
    subst hk
    cases he
    exact run_equalIn_int w (D+d) t k q a c (hT.desc _ _ hd)
   .cases he
  .rename_i a c hd
   cases he
   rw [show D+(d+1)=(D+d)+1 from rfl,run_equalIn_string w (D+d) t a c (hT.desc _ _ hd),ByteArray.toList_eq,ByteArray.toList_eq]
  .rename_i fs xs ys hd
   split at he
   .rename_i hc
    simp only [bB] at he
    obtain ⟨ps,hp,he⟩:=he
    have hu:=hT.desc _ _ hd
    have hf:P.fieldsOf t=fs:=by simp [Program.fieldsOf,hu]
    rw [show D+(d+1)=(D+d)+1 from rfl,run_equalIn_struct w (D+d) t xs ys (by rw [hf];exact hu) (hT.cmp t hc).1,hf]
    exact RG hT w (λt x y b hb=>F0 hT w d D t x y b hb) xs ys fs.toList ps b hp he
   .cases he
  .rename_i n e xs ys hd
   simp only [bB] at he
   obtain ⟨k,hk,he⟩:=he
   have hu:=hT.desc _ _ hd
   simp only [c9,bS] at hk
   obtain ⟨⟨n',b',z⟩,hi,rfl⟩:=hk
   obtain ⟨i,zv,eE,cA,_⟩:=hT.info _ _ _ _ hi
   have nq:P.cellsOf e=n':=by simp [Program.cellsOf,eE,cA]
   rw [show D+(d+1)=(D+d)+1 from rfl,run_equalIn_array w (D+d) xs ys hu eE,nq]
   have:=RQ hT w (λt x y b hb=>F0 hT w d D t x y b hb) xs ys e n' n 0 b he
   rw [List.range_eq_range']
   exact this
  .cases he

theorem zpE (hT:T.Fits P) {op:BinOp} {t:TypeId} {x' y':ai} (hx:VR ρ x x') (hy:VR ρ y y') (hs:bD P T op t x y=some v) (ox oy:Operand) (w:World) :
 ∃ vc,(do eqGuard op t ox oy x' y';binOp op t x' y':Sem ai).run P w=.ok vc w/\VR ρ v vc:=by
 unfold bD at hs
 split at hs
 .rename_i v' hf
  cases hs
  obtain ⟨h1,h2,h3,h4,k,a,rfl⟩:=Yw (P:=P) (t:=t) hf
  have e1:=hx.bc h2
  have e2:=hy.bc h3
  subst e1 e2
  refine ⟨v,?_,.ct ρ h4⟩
  rw [Sem.run_bind,Hw op t ox oy (.int k a) _ (by simp) (by intro c d e;cases e) w]
  exact FV P _ _ h1 w
 .split at hs
  .rename_i b hb
   simp only [bB] at hb
   obtain ⟨d,hd,he⟩:=hb
   have ht:=hT.desc _ _ hd
   obtain ⟨h1,h2⟩:=Z0 ht hx hy he w
   have DF:x'≠.nilIface/\(∀ c,x'≠.agg c):=by
    unfold zw at he
    split at he <;> first|(cases he;done)|(cases hx <;> exact ⟨by simp,by simp⟩)
   have hg:=Hw (P:=P) op t ox oy x' y' DF.1 (by intro c d e;exact (DF.2 c e).elim) w
   split at hs
   .cases hs
    refine ⟨.bool b,?_,.bool _⟩
    simp only [Sem.run_bind,hg,Result.andThen_ok,h2 .eql (.inl rfl),if_true,h1,Sem.run_pure]
   .cases hs
    refine ⟨.bool !b,?_,.bool _⟩
    simp only [Sem.run_bind,hg,Result.andThen_ok,h2 .neq (.inr rfl),reduceCtorEq,if_false,h1,Sem.run_pure]
   .cases hs
  .split at hs
   .rename_i hp
    simp only [cY] at hp
    have e1:=hx.bc hp.1
    have e2:=hy.bc hp.2
    subst e1 e2
    have fin:∀ (hs:((dX P (binOp op t x' y')).bind λv=>if plain v then some v else none)=some v) (hg:(eqGuard op t ox oy x' y').run P w=.ok () w),
     ∃ vc,(do eqGuard op t ox oy x' y';binOp op t x' y':Sem ai).run P w=.ok vc w/\VR ρ v vc:=by
     intro hs hg
     simp only [bB] at hs
     obtain ⟨v1,hr,hs⟩:=hs
     split at hs
     .rename_i Wq
      cases hs
      refine ⟨v,?_,.ct ρ Wq⟩
      simp only [Sem.run_bind,hg,Result.andThen_ok]
      exact FV P _ _ hr w
     .cases hs
    split at hs
    .cases hs
    .rename_i c d
     split at hs
     .rename_i nz
      have hg:=λxs ys=>Hw (P:=P) op t ox oy (.agg xs) (.agg ys) (by simp) (by intro _ _ _ _;exact (hT.cmp t nz).2) w
      split at hs
      .simp only [bS] at hs
       obtain ⟨b,hb,rfl⟩:=hs
       refine ⟨.bool b,?_,.bool _⟩
       simp only [Sem.run_bind,hg,Result.andThen_ok]
       rw [run_eql_struct,F0 hT w 20 9980 t _ _ b hb]
       rfl
      .simp only [bS] at hs
       obtain ⟨b,hb,rfl⟩:=hs
       refine ⟨.bool !b,?_,.bool _⟩
       simp only [Sem.run_bind,hg,Result.andThen_ok]
       rw [run_neq_struct,F0 hT w 20 9980 t _ _ b hb]
       rfl
      .cases hs
     .cases hs
    .rename_i h1 h2
     refine fin hs (Hw op t ox oy _ _ ?_ ?_ w)
     .intro e;exact h1 e
     .intro c d e1 e2;exact (h2 c d e1 e2).elim
   .cases hs

theorem zp8 (hT:T.Fits P) (hs:bj ρ h w) {ty:TypeId} (cz:VR ρ x y) (hl:bE T t x h=some v) (ts:List TypeId) :
 ∃ vc,(Builtin.len_ (t::ts).toArray ty #[y]).run P w=.ok vc w/\VR ρ v vc:=by
 unfold bE at hl
 split at hl
 .rename_i s hd
  cases cz
  cases hl
  exact ⟨_,by simp [Builtin.len_,run_underlying (hT.desc _ _ hd),goInt],.int _ _⟩
 .rename_i e a n c hd
  cases hl
  have key:∃ a' c',y=.slice a' n c':=by cases cz <;> exact ⟨_,_,rfl⟩
  obtain ⟨a',c',rfl⟩:=key
  exact ⟨_,by simp [Builtin.len_,run_underlying (hT.desc _ _ hd),goInt],.int _ _⟩
 .rename_i a b hd
  cases cz
  cases hl
  exact ⟨_,by simp [Builtin.len_,run_underlying (hT.desc _ _ hd),goInt],.int _ _⟩
 .rename_i a b A hd
  split at hl
  .rename_i es clock hg
   cases hl
   cases cz with
   |map hA =>
    rename_i L
    have hb:=hs.im A L hA
    rw [hg] at hb
    obtain ⟨ces,hc,he⟩:=hb
    refine ⟨.int .i64 (ces.size:Nat),by simp [Builtin.len_,run_underlying (hT.desc _ _ hd),goInt,getObj,Sem.run,hc],?_⟩
    have e1:(es.length:Int)=(ces.size:Int):=by have:=he.1;simp at this;omega
    rw [e1]
    exact .int _ _
  .cases hl
 .cases hl
end
end Go.Am
namespace Go.Am
open Go.RowKit
variable {k k' v x y:ai} {kt t:TypeId}
section
variable {P:Program} {T:bm} {ρ:bU} {h h':Heap} {w:World}

theorem Sa {Z:Type} (P:Program) (w:World) (l:List Z) (g:Z->PUnit->Sem (ForInStep PUnit)) (hf:∀ x∈l,(g x PUnit.unit).run P w=.ok (.yield PUnit.unit) w) :
 (forIn l PUnit.unit g:Sem PUnit).run P w=.ok PUnit.unit w:=by
 induction l with
 |nil=>simp
 |cons x l ih =>
  have h1:=hf x (by simp)
  have h2:=ih (λy hy=>hf y (by simp [hy]))
  simp only [List.forIn_cons,Sem.run_bind,h1,Result.andThen_ok,h2]

theorem MT {E:TypeId->ai->ai->Option Bool} {xs:List ai}:∀ {ps:List (TypeId × Nat)},uE T E xs xs ps=some true->∀ p∈ps,∃ a,uP T p.1 xs p.2=some a/\E p.1 a a=some true
 | [],_,p,hp=>by cases hp
 |(t,o)::r,he,p,hp=>by
  simp only [uE,bB] at he
  obtain ⟨a,ha,c,hc,q,hq,he⟩:=he
  rw [ha] at hc
  cases hc
  cases q with
  |false=>simp at he
  |true =>
   simp only [if_true] at he
   rcases i0.1 hp with rfl|hp
   .exact ⟨a,ha,hq⟩
   .exact MT he p hp

theorem RL:∀ {fs:List Field} {ps:List (TypeId × Nat)},Ao fs=some ps->∀ f∈fs,(f.type,f.offset)∈ps
 | [],_,_,f,hf=>by cases hf
 |g::fs,ps,hp,f,hf=>by
  simp only [Ao] at hp
  split at hp
  .cases hp
  .simp only [bS] at hp
   obtain ⟨r,hr,rfl⟩:=hp
   rcases i0.1 hf with rfl|hf
   .simp
   .exact sq _ (RL hr f hf)

theorem RS {e:TypeId} {k:Nat}:∀ (n i j:Nat),i<=j->j < i+n->(e,j*k)∈AB e k n i
 |0,i,j,h1,h2=>by omega
 |n+1,i,j,h1,h2=>by
  simp only [AB]
  by_cases e:i=j
  .subst e;simp
  .exact sq _ (RS n (i+1) j (by omega) (by omega))

theorem MS (hT:T.Fits P) (w:World) (em:Bool):∀ (d D:Nat) (t:TypeId) (x y:ai),dS T d t x y=some true->y=x->(Instr.checkKey em (D+d) t x).run P w=.ok () w
 |0,_,_,_,_,he,_=>by simp [dS] at he
 |d+1,D,t,x,y,he,Qu=>by
  unfold dS at he
  rw [show D+(d+1)=(D+d)+1 from rfl]
  split at he
  .rename_i a c hd
   simp [Instr.checkKey,run_underlying (hT.desc _ _ hd)]
  .rename_i q k a k' c hd
   simp [Instr.checkKey,run_underlying (hT.desc _ _ hd)]
  .rename_i a c hd
   simp [Instr.checkKey,run_underlying (hT.desc _ _ hd)]
  .rename_i fs xs ys hd
   cases Qu
   split at he
   .simp only [bB] at he
    obtain ⟨ps,hp,he⟩:=he
    have aq:=MT he
    simp only [Instr.checkKey,Sem.run_bind,run_underlying (hT.desc _ _ hd),Result.andThen_ok]
    rw [<- Array.forIn_toList]
    rw [Sa P w fs.toList]
    .simp
    .intro f hf
     obtain ⟨a,ha,hq⟩:=aq _ (RL hp f hf)
     have h1:=MS hT w em d D f.type a a hq rfl
     split
     .simp only [Sem.run_bind,Aw hT ha w,Result.andThen_ok,h1,Sem.run_pure]
     .simp
   .cases he
  .rename_i n e xs ys hd
   cases Qu
   simp only [bB] at he
   obtain ⟨k,hk,he⟩:=he
   have aq:=MT he
   simp only [Instr.checkKey,Sem.run_bind,run_underlying (hT.desc _ _ hd),Result.andThen_ok]
   simp only [Std.Legacy.Range.forIn_eq_forIn_range',Std.Legacy.Range.size,Nat.sub_zero,Nat.add_sub_cancel,Nat.div_one]
   rw [Sa P w]
   .simp
   .intro i hi
    have oc:i < n:=by simpa using hi
    obtain ⟨a,ha,hq⟩:=aq _ (RS (e:=e) (k:=k) n 0 i (by omega) (by omega))
    have h1:=MS hT w em d D e a a hq rfl
    simp only [Sem.run_bind,px hT hk,Aw hT ha w,Result.andThen_ok,h1,Sem.run_pure]
  .cases he

theorem FM (hT:T.Fits P) (w:World) (em:Bool) (d D:Nat) (t:TypeId) (x:ai) (he:dS T d t x x=some true):(Instr.checkKey em (D+d) t x).run P w=.ok () w:=MS hT w em d D t x x he rfl

theorem Ap (hk:sk T kt k=true):plain k=true/\dS T 20 kt k k=some true:=by
 unfold sk at hk
 split at hk
 .rename_i hp
  refine ⟨hp,?_⟩
  split at hk
  .rename_i b hb;rw [hb,hk]
  .cases hk
 .cases hk

def Oq (ρ:bU):Option (Nat × ai)->Option (Nat × ai)->Prop
 |none,none=>True
 |some (i,v),some (j,u)=>i=j/\VR ρ v u
 |_,_=>False

theorem jc.of_cons {x:MapEntry} {l m:List MapEntry} (hl:jc ρ (x::l) m):∃ y m',m=y::m'/\VR ρ x.key y.key/\VR ρ x.val y.val/\x.born=y.born/\plain x.key=true/\jc ρ l m':=by
 cases m with
 |nil=>have:=hl.1;simp at this
 |cons y m =>
  obtain ⟨h1,h2,h3,h4⟩:=hl.2 0 x y rfl rfl
  exact ⟨y,m,rfl,h1,h2,h3,h4,by have:=hl.1;simpa using this,λi a b ha hb=>hl.2 (i+1) a b (by simpa using ha) (by simpa using hb)⟩
theorem jc.of_nil {m:List MapEntry} (hl:jc ρ [] m):m=[]:=by
 have:=hl.1
 simp at this
 exact List.eq_nil_of_length_eq_zero this.symm

theorem zqO (hT:T.Fits P) {d:TypeDesc} (hd:P.underlying kt=some d) {b c:Bool} (he:dS T 20 kt x y=some b) (hs:Instr.sameNow d x y=some c):b=c:=by
 unfold dS at he
 split at he
 .rename_i a c' iI
  have:=hT.desc _ _ iI
  rw [hd] at this
  cases this
  cases he
  simpa [Instr.sameNow] using hs
 .rename_i q k a k' c' iI
  have:=hT.desc _ _ iI
  rw [hd] at this
  cases this
  split at he
  .rename_i hk
   subst hk
   cases he
   simpa [Instr.sameNow] using hs
  .cases he
 .rename_i a c' iI
  have:=hT.desc _ _ iI
  rw [hd] at this
  cases this
  cases he
  simp only [Instr.sameNow,de] at hs
  rw [<- hs,beq_toListBytes,ByteArray.toList_eq,ByteArray.toList_eq]
 .rename_i fs xs ys iI
  have:=hT.desc _ _ iI
  rw [hd] at this
  cases this
  simp [Instr.sameNow] at hs
 .rename_i n e xs ys iI
  have:=hT.desc _ _ iI
  rw [hd] at this
  cases this
  simp [Instr.sameNow] at hs
 .cases he

theorem Sv (hT:T.Fits P) {kt:TypeId} {d:TypeDesc} (hd:P.underlying kt=some d) {k:ai}:∀ (es ces:List MapEntry) (i:Nat) (r r':Option (Nat × ai)),jc ρ es ces->nR T kt k es i=some r->Instr.findNow d k ces i=some r'->Oq ρ r r'
 | [],ces,i,r,r',he,hf,hn=>by
  rw [he.of_nil] at hn
  simp only [nR,Instr.findNow,de] at hf hn
  subst hf hn
  trivial
 |e::es,ces,i,r,r',he,hf,hn=>by
  obtain ⟨y,m,rfl,hk,hv,_,hp,mN⟩:=he.of_cons
  have hY:=hk.bc hp
  simp only [nR,bB] at hf
  obtain ⟨b,hb,hf⟩:=hf
  simp only [Instr.findNow] at hn
  rw [hY] at hn
  cases DY:Instr.sameNow d k e.key with
  |none=>rw [DY] at hn;cases hn
  |some c =>
   have:=zqO hT hd hb DY
   subst this
   rw [DY] at hn
   cases b with
   |true =>
    simp only [if_true,de] at hf hn
    subst hf hn
    exact ⟨rfl,hv⟩
   |false =>
    simp only [fb,if_false] at hf hn
    exact Sv hT hd es m (i+1) r r' mN hf hn

theorem RR (hT:T.Fits P) (w:World) {kt:TypeId} {k:ai}:∀ (es ces:List MapEntry) (i:Nat) (r:Option (Nat × ai)),jc ρ es ces->nR T kt k es i=some r->∃ r',(Instr.findAsking kt k ces i).run P w=.ok r' w/\Oq ρ r r'
 | [],ces,i,r,he,hf=>by
  rw [he.of_nil]
  simp only [nR,de] at hf
  subst hf
  exact ⟨none,by simp [Instr.findAsking],trivial⟩
 |e::es,ces,i,r,he,hf=>by
  obtain ⟨y,m,rfl,hk,hv,_,hp,mN⟩:=he.of_cons
  have hY:=hk.bc hp
  simp only [nR,bB] at hf
  obtain ⟨b,hb,hf⟩:=hf
  have hq:(Op.equal kt k y.key).run P w=.ok b w:=by rw [hY];exact F0 hT w 20 9980 kt _ _ b hb
  cases b with
  |true =>
   simp only [if_true,de] at hf
   subst hf
   exact ⟨some (i,y.val),by simp [Instr.findAsking,hq],rfl,hv⟩
  |false =>
   simp only [fb,if_false] at hf
   obtain ⟨r',h1,h2⟩:=RR hT w es m (i+1) r mN hf
   exact ⟨r',by simp [Instr.findAsking,hq,h1],h2⟩

theorem Z5 (hT:T.Fits P) (hk:sk T kt k=true):∃ d,P.underlying kt=some d:=by
 obtain ⟨_,h1⟩:=Ap hk
 unfold dS at h1
 split at h1
 all_goals first|exact ⟨_,hT.desc _ _ ‹_›⟩|cases h1

theorem HM (hT:T.Fits P) (w:World) (hk:sk T kt k=true) {es ces:List MapEntry} {r:Option (Nat × ai)} (he:jc ρ es ces) (hf:nR T kt k es 0=some r) :
 ∃ r',(Instr.findKey kt k ces).run P w=.ok r' w/\Oq ρ r r':=by
 obtain ⟨d,hd⟩:=Z5 hT hk
 cases hn:Instr.findNow d k ces 0 with
 |some r'=>exact ⟨r',by simp [Instr.findKey,run_underlying hd,hn],Sv hT hd es ces 0 r r' he hf hn⟩
 |none =>
  obtain ⟨r',h1,h2⟩:=RR hT w es ces 0 r he hf
  exact ⟨r',by simp [Instr.findKey,run_underlying hd,hn,h1],h2⟩

theorem HU (hT:T.Fits P) (hz:T.zero t=some v) (w:World):(zeroValue t).run P w=.ok v w/\VR ρ v v:=by
 obtain ⟨⟨i,hi,VY⟩,hp⟩:=hT.zero t v hz
 exact ⟨by simp [zeroValue,typeInfo,hi,VY],.ct ρ hp⟩

theorem ZL (hs:bj ρ h w) (cz:VR ρ x y) {es:List MapEntry} (hm:IZ x h=some es) :
 ∃ ces:Array MapEntry,jc ρ es ces.toList/\((y=.map none/\ces=#[])\/∃ A L clock,x=.map (some A)/\ρ A=some L/\y=.map (some L.b)/\h.get A=some (.map es clock)/\w.heap[L.b]? = some (.map ces clock)):=by
 unfold IZ at hm
 split at hm
 .cases hm
  cases cz
  exact ⟨#[],⟨rfl,by intro i x y hx;simp at hx⟩,.inl ⟨rfl,rfl⟩⟩
 .split at hm
  .rename_i A _ GZ clock hg
   cases hm
   cases cz with
   |map hA =>
    rename_i L
    have hb:=hs.im A L hA
    rw [hg] at hb
    obtain ⟨ces,hc,he⟩:=hb
    exact ⟨ces,he,.inr ⟨A,L,clock,rfl,hA,rfl,hg,hc⟩⟩
  .cases hm
 .cases hm

theorem YI (hT:T.Fits P) (hs:bj ρ h w) {ok:Bool} (cz:VR ρ x y) (hk:VR ρ k k') (hl:y9 T t x k ok h=some v) :
 ∃ u,(Instr.lookup t y k' ok).run P w=.ok u w/\VR ρ v u:=by
 unfold y9 at hl
 split at hl
 .rename_i kt et hd
  split at hl
  .rename_i iw
   simp only [bB,bS,Prod.exists] at hl
   obtain ⟨es,tJ,r,hr,v',b,rG,hv⟩:=hl
   have hu:=hT.desc _ _ hd
   obtain ⟨hp,gT⟩:=Ap iw
   have pT:k'=k:=hk.bc hp
   subst pT
   obtain ⟨ces,he,hy⟩:=ZL hs cz tJ
   obtain ⟨r',hf,cy⟩:=HM hT w iw he hr
   have jP:∀ em,(Instr.checkKey em 10000 kt k').run P w=.ok () w:=λem=>FM hT w em 20 9980 kt k' gT
   have vw:∀ u',VR ρ v' u'->VR ρ v (if ok then .tuple #[u',.bool b] else u'):=by
    intro u' jQ
    rw [<- hv]
    cases ok
    .exact jQ
    .simp only [if_true]
     exact (bQ.cons jQ (.cons (.bool b) (.nil ρ))).fQ
   cases r with
   |none =>
    cases r' with
    |some q=>exact cy.elim
    |none =>
     simp only [bS,cd] at rG
     obtain ⟨z,hz,rfl,rfl⟩:=rG
     obtain ⟨h1,h2⟩:=HU (ρ:=ρ) hT hz w
     refine ⟨_,?_,vw z h2⟩
     rcases hy with ⟨rfl,rfl⟩|⟨A,L,clock,_,_,rfl,_,hc⟩
     .simp only [Instr.lookup,Sem.run_bind,run_underlying hu,Result.andThen_ok,Sem.run_pure,jP,hf,h1]
     .have hg:(getObj L.b).run P w=.ok (.map ces clock) w:=by simp [getObj,Sem.run,hc]
      simp only [Instr.lookup,Sem.run_bind,run_underlying hu,Result.andThen_ok,Sem.run_pure,hg,jP,hf,h1]
   |some p =>
    cases r' with
    |none=>exact cy.elim
    |some q =>
     obtain ⟨i,v1⟩:=p
     obtain ⟨j,u1⟩:=q
     simp only [de,cd] at rG
     obtain ⟨rfl,rfl⟩:=rG
     refine ⟨_,?_,vw u1 cy.2⟩
     rcases hy with ⟨rfl,rfl⟩|⟨A,L,clock,_,_,rfl,_,hc⟩
     .simp only [Instr.lookup,Sem.run_bind,run_underlying hu,Result.andThen_ok,Sem.run_pure,jP,hf]
     .have hg:(getObj L.b).run P w=.ok (.map ces clock) w:=by simp [getObj,Sem.run,hc]
      simp only [Instr.lookup,Sem.run_bind,run_underlying hu,Result.andThen_ok,Sem.run_pure,hg,jP,hf]
  .cases hl
 .cases hl

theorem T8:∀ {x y:ai},zs x y=true->x=y:=by
 intro x y hh
 unfold zs at hh
 split at hh
 .simpa using hh
 .simp only [cY,jW,beq_iff_eq] at hh
  rw [hh.1,hh.2]
 .rename_i a b
  obtain ⟨⟨a⟩⟩:=a
  obtain ⟨⟨b⟩⟩:=b
  simpa using hh
 .cases hh
theorem SZ:∀ {l m:List ai},AK l m=true->l=m
 | [],[],_=>rfl
 |x::l,y::m,hh=>by
  simp only [AK,cY] at hh
  rw [T8 hh.1,SZ hh.2]
 | [],_::_,hh=>by cases hh
 |_::_,[],hh=>by cases hh
theorem SY (hh:zs x y=true) (n:Nat):Instr.sameBits n x y=true:=by
 have:=T8 hh
 subst this
 unfold zs at hh
 split at hh
 .simp [Instr.sameBits]
 .simp [Instr.sameBits]
 .simp [Instr.sameBits,beq_toListBytes]
 .cases hh
theorem Sb:∀ {l m:List ai},AK l m=true->∀ n,(l.zip m).all (λ(x,y)=>Instr.sameBits n x y)=true
 | [],[],_,_=>rfl
 |x::l,y::m,hh,n=>by
  simp only [AK,cY] at hh
  simp only [List.zip_cons_cons,kS,cY]
  exact ⟨SY hh.1 n,Sb hh.2 n⟩
 | [],_::_,hh,_=>by cases hh
 |_::_,[],hh,_=>by cases hh
theorem Sc (hh:yY x y=true):Instr.sameBits 10000 x y=true:=by
 unfold yY at hh
 split at hh
 .rename_i a b
  have h1:=Sb hh 9999
  have h2:=SZ hh
  have h3:a.size=b.size:=by rw [<- nT,h2,nT]
  rw [Instr.sameBits,h3]
  simpa using h1
 .exact SY hh _

theorem RP (hT:T.Fits P) (hs:bj ρ h w) {v':ai} (cz:VR ρ x y) (hk:VR ρ k k') (hv:VR ρ v v') (hl:nP T t x k v h=some h') :
 ∃ w',(Instr.mapUpdate t y k' v').run P w=.ok () w'/\Fr ρ ρ h h' w w'/\bj ρ h' w':=by
 unfold nP at hl
 split at hl
 .rename_i kt et A hd
  split at hl
  .rename_i es clock hg
   split at hl
   .rename_i iw
    simp only [bB] at hl
    obtain ⟨r,hr,hl⟩:=hl
    have hu:=hT.desc _ _ hd
    obtain ⟨hp,gT⟩:=Ap iw
    have pT:k'=k:=hk.bc hp
    subst pT
    cases cz with
    |map hA =>
     rename_i L
     have hb:=hs.im A L hA
     rw [hg] at hb
     obtain ⟨ces,hc,he⟩:=hb
     obtain ⟨r',hf,cy⟩:=HM hT w iw he hr
     have jP:∀ em,(Instr.checkKey em 10000 kt k').run P w=.ok () w:=λem=>FM hT w em 20 9980 kt k' gT
     have iU:∀ o:Obj,(setObj L.b o).run P w=.ok () (w.putObj L.b o):=by
      intro o
      simp [setObj,Sem.run,hc,World.putObj]
     have aS:L.b < w.heap.size:=(jL.1 hc).1
     have rC:∀ (b':bd) (o:Obj),lT ρ (w.putObj L.b o) L (some b')->Fr ρ ρ h (h.set A b') w (w.putObj L.b o)/\bj ρ (h.set A b') (w.putObj L.b o):=by
      intro b' o oQ
      refine FZ hs hA hg (by simp) (by simp) rfl rfl rfl (by simp [World.putObj]) (λq hq=>?_) oQ
      simp only [World.putObj]
      rw [AE (Ne.symm hq)]
     have hU:∀ o:Obj,(w.putObj L.b o).heap[L.b]? = some o:=by
      intro o
      simp [World.putObj,aS]
     cases r with
     |none =>
      cases r' with
      |some q=>exact cy.elim
      |none =>
       simp only [de] at hl
       subst hl
       refine ⟨w.putObj L.b (.map (ces.push { key:=k',val:=v',born:=clock }) (clock+1)),?_,rC _ _ ⟨_,hU _,?_⟩⟩
       .simp [Instr.mapUpdate,run_underlying hu,getObj,Sem.run,hc,jP,hf,iU]
       .refine ⟨by simp [he.1],λi a b ha hb=>?_⟩
        have hlen:=he.1
        rw [Array.toList_push] at hb
        rcases Nat.lt_trichotomy i es.length with h1|h1|h1
        .rw [kR h1] at ha
         rw [kR (by omega)] at hb
         exact he.2 i a b ha hb
        .rw [lS (by omega)] at ha
         rw [lS (by omega)] at hb
         have e1:i - es.length=0:=by omega
         have e2:i - ces.toList.length=0:=by omega
         rw [e1] at ha
         rw [e2] at hb
         simp at ha hb
         subst ha hb
         exact ⟨.ct ρ hp,hv,rfl,hp⟩
        .rw [lS (by omega)] at ha
         have:i - es.length=(i - es.length - 1)+1:=by omega
         rw [this] at ha
         simp at ha
     |some q =>
      obtain ⟨i,v1⟩:=q
      cases r' with
      |none=>exact cy.elim
      |some q' =>
       obtain ⟨j,u1⟩:=q'
       obtain ⟨rfl,_⟩:=cy
       simp only [bB] at hl
       obtain ⟨e,Dk,hl⟩:=hl
       split at hl
       .rename_i eX
        cases hl
        have Dw:i < ces.size:=by
         have h1:=(fB.1 Dk).1
         have:=he.1
         simp at this
         omega
        obtain ⟨k1,k2,k3,k4⟩:=he.2 i e ces[i] Dk (by simp)
        have rh:ces[i].key=e.key:=k1.bc k4
        have qO:=Sc eX
        refine ⟨w.putObj L.b (.map (ces.modify i λe=>{ e with key:=k',val:=v' }) clock),?_,rC _ _ ⟨_,hU _,?_⟩⟩
        .simp [Instr.mapUpdate,run_underlying hu,getObj,Sem.run,hc,jP,hf,iU,Instr.keyThatStays,rh,qO,Dw]
        .refine ⟨by simp [he.1],λq a b ha hb=>?_⟩
         rw [Array.toList_modify] at hb
         rw [zzh] at ha hb
         by_cases hq:i=q
         .subst hq
          simp only [if_true,Option.map_eq_map,bS] at ha hb
          obtain ⟨a0,xp,rfl⟩:=ha
          obtain ⟨b0,xu,rfl⟩:=hb
          obtain ⟨_,_,h3,_⟩:=he.2 i a0 b0 xp xu
          exact ⟨.ct ρ hp,hv,h3,hp⟩
         .simp only [ay hq] at ha hb
          exact he.2 q a b (by simpa using ha) (by simpa using hb)
       .cases hl
   .cases hl
  .cases hl
 .cases hl

theorem MX (hs:bj ρ h w) {A:Nat} {L:Loc} {es GZ:List MapEntry} {ces tz:Array MapEntry} {clock clock':Nat} (hA:ρ A=some L) (hg:h.get A=some (.map es clock)) (hc:w.heap[L.b]? = some (.map ces clock))
 (he:jc ρ GZ tz.toList):Fr ρ ρ h (h.set A (.map GZ clock')) w (w.putObj L.b (.map tz clock'))/\bj ρ (h.set A (.map GZ clock')) (w.putObj L.b (.map tz clock')):=by
 have aS:L.b < w.heap.size:=(jL.1 hc).1
 refine FZ hs hA hg (by simp) (by simp) rfl rfl rfl (by simp [World.putObj]) (λq hq=>?_) ⟨tz,by simp [World.putObj,aS],he⟩
 simp only [World.putObj]
 rw [AE (Ne.symm hq)]

theorem jc.push {es:List MapEntry} {ces:Array MapEntry} (he:jc ρ es ces.toList) {k v v':ai} {clock:Nat} (hp:plain k=true) (hv:VR ρ v v') :
 jc ρ (es++[{ key:=k,val:=v,born:=clock }]) (ces.push { key:=k,val:=v',born:=clock }).toList:=by
 refine ⟨by simp [he.1],λi a b ha hb=>?_⟩
 have hlen:=he.1
 rw [Array.toList_push] at hb
 rcases Nat.lt_trichotomy i es.length with h1|h1|h1
 .rw [kR h1] at ha
  rw [kR (by omega)] at hb
  exact he.2 i a b ha hb
 .rw [lS (by omega)] at ha
  rw [lS (by omega)] at hb
  have e1:i - es.length=0:=by omega
  have e2:i - ces.toList.length=0:=by omega
  rw [e1] at ha
  rw [e2] at hb
  simp at ha hb
  subst ha hb
  exact ⟨.ct ρ hp,hv,rfl,hp⟩
 .rw [lS (by omega)] at ha
  have:i - es.length=(i - es.length - 1)+1:=by omega
  rw [this] at ha
  simp at ha

theorem jc.modify {es:List MapEntry} {ces:Array MapEntry} (he:jc ρ es ces.toList) (i:Nat) {f g:MapEntry->MapEntry}
 (Dn:∀ a b,VR ρ a.key b.key->VR ρ a.val b.val->a.born=b.born->plain a.key=true->VR ρ (f a).key (g b).key/\VR ρ (f a).val (g b).val/\(f a).born=(g b).born/\plain (f a).key=true) :
 jc ρ (es.modify i f) (ces.modify i g).toList:=by
 refine ⟨by simp [he.1],λq a b ha hb=>?_⟩
 rw [Array.toList_modify] at hb
 rw [zzh] at ha hb
 by_cases hq:i=q
 .subst hq
  simp only [if_true,Option.map_eq_map,bS] at ha hb
  obtain ⟨a0,xp,rfl⟩:=ha
  obtain ⟨b0,xu,rfl⟩:=hb
  obtain ⟨h1,h2,h3,h4⟩:=he.2 i a0 b0 xp xu
  exact Dn a0 b0 h1 h2 h3 h4
 .simp only [ay hq] at ha hb
  exact he.2 q a b (by simpa using ha) (by simpa using hb)

theorem YT (hT:T.Fits P) (hs:bj ρ h w) (cz:VR ρ x y) (hk:VR ρ k k') (hl:GC T t x k h=some (v,h')) :
 ∃ u w',(Instr.mapEntry t y k').run P w=.ok u w'/\Fr ρ ρ h h' w w'/\bj ρ h' w'/\VR ρ v u:=by
 unfold GC at hl
 split at hl
 .rename_i kt et A hd
  split at hl
  .rename_i es clock hg
   split at hl
   .rename_i iw
    simp only [bB] at hl
    obtain ⟨r,hr,hl⟩:=hl
    have hu:=hT.desc _ _ hd
    obtain ⟨hp,gT⟩:=Ap iw
    have pT:k'=k:=hk.bc hp
    subst pT
    cases cz with
    |map hA =>
     rename_i L
     have hb:=hs.im A L hA
     rw [hg] at hb
     obtain ⟨ces,hc,he⟩:=hb
     obtain ⟨r',hf,cy⟩:=HM hT w iw he hr
     have jP:∀ em,(Instr.checkKey em 10000 kt k').run P w=.ok () w:=λem=>FM hT w em 20 9980 kt k' gT
     have iU:∀ o:Obj,(setObj L.b o).run P w=.ok () (w.putObj L.b o):=by
      intro o
      simp [setObj,Sem.run,hc,World.putObj]
     cases r with
     |none =>
      cases r' with
      |some q=>exact cy.elim
      |none =>
       simp only [bS,cd] at hl
       obtain ⟨z,hz,rfl,rfl⟩:=hl
       obtain ⟨z1,z2⟩:=HU (ρ:=ρ) hT hz w
       obtain ⟨f1,f2⟩:=MX (clock':=clock+1) hs hA hg hc (he.push (clock:=clock) hp z2)
       refine ⟨_,_,?_,f1,f2,(bQ.cons z2 (.cons (.int .i64 clock) (.nil ρ))).fQ⟩
       simp [Instr.mapEntry,run_underlying hu,getObj,Sem.run,hc,jP,hf,iU,z1,goInt]
     |some q =>
      obtain ⟨i,v1⟩:=q
      cases r' with
      |none=>exact cy.elim
      |some q' =>
       obtain ⟨j,u1⟩:=q'
       obtain ⟨rfl,jQ⟩:=cy
       simp only [bB] at hl
       obtain ⟨e,Dk,hl⟩:=hl
       split at hl
       .rename_i eX
        cases hl
        have Dw:i < ces.size:=by
         have h1:=(fB.1 Dk).1
         have:=he.1
         simp at this
         omega
        obtain ⟨k1,k2,k3,k4⟩:=he.2 i e ces[i] Dk (by simp)
        have rh:ces[i].key=e.key:=k1.bc k4
        have qO:=Sc eX
        obtain ⟨f1,f2⟩:=MX (clock':=clock) hs hA hg hc (he.modify i (f:=λe=>{ e with key:=k' }) (g:=λe=>{ e with key:=k' }) (λa b h1 h2 h3 h4=>⟨.ct ρ hp,h2,h3,hp⟩))
        refine ⟨_,_,?_,f1,f2,(bQ.cons jQ (.cons (.int .i64 e.born) (.nil ρ))).fQ⟩
        simp [Instr.mapEntry,run_underlying hu,getObj,Sem.run,hc,jP,hf,iU,Instr.keyThatStays,rh,qO,Dw,goInt,k3]
       .cases hl
   .cases hl
  .cases hl
 .cases hl

theorem RY {s:Int}:∀ {es ces:List MapEntry} {n i:Nat},(∀ (i:Nat) a b,es[i]? = some a->ces[i]? = some b->a.born=b.born)->es.length=ces.length->IF s es n=some i->n<=i/\ces.findIdx? (λe=>(e.born:Int) == s)=some (i - n)
 | [],_,_,_,_,_,h=>by cases h
 |a::es,[],_,_,_,hl,_=>by cases hl
 |a::es,b::ces,n,i,hb,hl,h=>by
  have h0:=hb 0 a b rfl rfl
  rw [IF] at h
  rw [List.findIdx?_cons]
  split at h
  .rename_i hc
   cases h
   rw [h0] at hc
   simp [hc]
  .rename_i hc
   rw [h0] at hc
   obtain ⟨h1,h2⟩:=RY (es:=es) (ces:=ces) (λi a b ha oQ=>hb (i+1) a b (by simpa using ha) (by simpa using oQ)) (by simpa using hl) h
   refine ⟨by omega,?_⟩
   have:¬ ((b.born:Int) == s)=true:=by simpa using hc
   rw [ay this,h2]
   simp
   omega

theorem Xv (hs:bj ρ h w) {s s' v':ai} (cz:VR ρ x y) (mn:VR ρ s s') (hv:VR ρ v v') (hl:FN x s v h=some h') :
 ∃ w',(Instr.entryStore t y s' v').run P w=.ok () w'/\Fr ρ ρ h h' w w'/\bj ρ h' w':=by
 unfold FN at hl
 split at hl
 .rename_i A kd b
  split at hl
  .rename_i es clock hg
   simp only [bS] at hl
   obtain ⟨i,hi,rfl⟩:=hl
   cases mn
   cases cz with
   |map hA =>
    rename_i L
    have hb:=hs.im A L hA
    rw [hg] at hb
    obtain ⟨ces,hc,he⟩:=hb
    have iU:∀ o:Obj,(setObj L.b o).run P w=.ok () (w.putObj L.b o):=by
     intro o
     simp [setObj,Sem.run,hc,World.putObj]
    obtain ⟨_,xL⟩:=RY (ces:=ces.toList) (λi a b ha hb=>(he.2 i a b ha hb).2.2.1) he.1 hi
    have K9:ces.findIdx? (λe=>(e.born:Int) == b)=some i:=by
     cases ces with|mk l=>simpa using xL
    obtain ⟨f1,f2⟩:=MX (clock':=clock) hs hA hg hc (he.modify i (f:=λe=>{ e with val:=v }) (g:=λe=>{ e with val:=v' }) (λa b h1 h2 h3 h4=>⟨h1,hv,h3,h4⟩))
    refine ⟨_,?_,f1,f2⟩
    simp [Instr.entryStore,getObj,Sem.run,hc,iU,asInt,asIntOf,K9]
  .cases hl
 .cases hl

end
end Go.Am
namespace Go.Am
open Go.RowKit
variable {p v x y:ai} {s t:TypeId}
section
variable {P:Program} {T:bm} {ρ:bU} {h h':Heap} {w:World}

theorem jc.eraseIdx {l m:List MapEntry} (hl:jc ρ l m) (i:Nat):jc ρ (l.eraseIdx i) (m.eraseIdx i):=by
 have hlen:=hl.1
 refine ⟨by rw [List.length_eraseIdx,List.length_eraseIdx,hlen],λj x y hx hy=>?_⟩
 rw [List.getElem?_eraseIdx] at hx hy
 split at hx
 .rename_i hj;rw [aC hj] at hy;exact hl.2 j x y hx hy
 .rename_i hj;rw [ay hj] at hy;exact hl.2 (j+1) x y hx hy

theorem Ys (hT:T.Fits P) (hs:bj ρ h w) {ty:TypeId} {ts:List TypeId} {k k':ai} (cz:VR ρ x y) (hk:VR ρ k k') (hl:Gh T t x k h=some h') :
 ∃ w',(Builtin.delete_ (t::ts).toArray ty #[y,k']).run P w=.ok (.tuple #[]) w'/\Fr ρ ρ h h' w w'/\bj ρ h' w':=by
 unfold Gh at hl
 split at hl
 .rename_i kt et hd
  split at hl
  .rename_i iw
   cases hl
   obtain ⟨hp,gT⟩:=Ap iw
   have pT:k'=k:=hk.bc hp
   subst pT
   cases cz
   refine ⟨w,?_,Fr.refl _ _ _,hs⟩
   have jP:∀ em,(Instr.checkKey em 10000 kt k').run P w=.ok () w:=λem=>FM hT w em 20 9980 kt k' gT
   simp [Builtin.delete_,run_underlying (hT.desc _ _ hd),jP]
  .cases hl
 .rename_i kt et A hd
  split at hl
  .rename_i es clock hg
   split at hl
   .rename_i iw
    simp only [bB] at hl
    obtain ⟨r,hr,hl⟩:=hl
    have hu:=hT.desc _ _ hd
    obtain ⟨hp,gT⟩:=Ap iw
    have pT:k'=k:=hk.bc hp
    subst pT
    cases cz with
    |map hA =>
     rename_i L
     have hb:=hs.im A L hA
     rw [hg] at hb
     obtain ⟨ces,hc,he⟩:=hb
     obtain ⟨r',hf,cy⟩:=HM hT w iw he hr
     have jP:∀ em,(Instr.checkKey em 10000 kt k').run P w=.ok () w:=λem=>FM hT w em 20 9980 kt k' gT
     have dr:(getObj L.b).run P w=.ok (.map ces clock) w:=by simp [getObj,Sem.run,hc]
     have iU:∀ o:Obj,(setObj L.b o).run P w=.ok () (w.putObj L.b o):=by
      intro o
      simp [setObj,Sem.run,hc,World.putObj]
     have aS:L.b < w.heap.size:=(jL.1 hc).1
     have rC:∀ (b':bd) (o:Obj),lT ρ (w.putObj L.b o) L (some b')->Fr ρ ρ h (h.set A b') w (w.putObj L.b o)/\bj ρ (h.set A b') (w.putObj L.b o):=by
      intro b' o oQ
      refine FZ hs hA hg (by simp) (by simp) rfl rfl rfl (by simp [World.putObj]) (λq hq=>?_) oQ
      simp only [World.putObj]
      rw [AE (Ne.symm hq)]
     have hU:∀ o:Obj,(w.putObj L.b o).heap[L.b]? = some o:=by
      intro o
      simp [World.putObj,aS]
     cases r with
     |none =>
      cases r' with
      |some q=>exact cy.elim
      |none =>
       cases hl
       refine ⟨w.putObj L.b (.map ces clock),?_,rC _ _ ⟨_,hU _,he⟩⟩
       simp [Builtin.delete_,run_underlying hu,dr,jP,hf,iU]
     |some q =>
      obtain ⟨i,v1⟩:=q
      cases r' with
      |none=>exact cy.elim
      |some q' =>
       obtain ⟨j,u1⟩:=q'
       obtain ⟨rfl,_⟩:=cy
       cases hl
       refine ⟨w.putObj L.b (.map (ces.eraseIdxIfInBounds i) clock),?_,rC _ _ ⟨_,hU _,?_⟩⟩
       .simp [Builtin.delete_,run_underlying hu,dr,jP,hf,iU]
       .have e1:(ces.eraseIdxIfInBounds i).toList=ces.toList.eraseIdx i:=by simp
        rw [e1]
        exact he.eraseIdx i
   .cases hl
  .cases hl
 .cases hl

theorem YW (hT:T.Fits P) (cz:VR ρ x y) (hi:OA T t x=some v) (w:World):∃ u,(Instr.makeInterface t y).run P w=.ok u w/\VR ρ v u:=by
 unfold OA at hi
 split at hi
 .cases hi
 .rename_i d aV hd
  cases hi
  refine ⟨.iface t y,?_,.iface t cz⟩
  have:=hT.desc _ _ hd
  simp only [Instr.makeInterface,Sem.run_bind,run_underlying this,Result.andThen_ok]
  cases d <;> first|rfl|exact (aV _ rfl).elim
 .cases hi

theorem Ue (hT:T.Fits P) (hz:T.zero t=some v) (w:World):(zeroValue t).run P w=.ok v w:=(HU (ρ:=λ_=>none) hT hz w).1

theorem Yv (hT:T.Fits P) {xt:TypeId} {ok:Bool} (cz:VR ρ x y) (hi:NR T x t ok=some v) (w:World):∃ u,(Instr.typeAssert y xt t ok).run P w=.ok u w/\VR ρ v u:=by
 unfold NR at hi
 split at hi
 .cases hi
 .rename_i d aV hd
  have hu:=hT.desc _ _ hd
  have LJ:∀ ms,d≠.interface ms:=λms e=>aV ms e
  have vm:∀ z,T.zero t=some z->VR ρ (.tuple #[z,.bool false]) (.tuple #[z,.bool false]):=λz hz=>(bQ.cons (HU (ρ:=ρ) hT hz w).2 (.cons (.bool false) (.nil ρ))).fQ
  split at hi
  .rename_i t' v'
   cases cz with
   |iface _ cz =>
    rename_i y'
    split at hi
    .rename_i e
     subst e
     cases hi
     refine ⟨if ok then .tuple #[y',.bool true] else y',?_,?_⟩
     .simp only [Instr.typeAssert,Sem.run_bind,run_underlying hu,Result.andThen_ok]
      cases d <;> first|(exact (LJ _ rfl).elim)|simp
     .cases ok
      .exact cz
      .exact (bQ.cons cz (.cons (.bool true) (.nil ρ))).fQ
    .rename_i e
     split at hi
     .rename_i cE
      simp only [bS] at hi
      obtain ⟨z,hz,rfl⟩:=hi
      refine ⟨_,?_,vm z hz⟩
      simp only [Instr.typeAssert,Sem.run_bind,run_underlying hu,Result.andThen_ok]
      cases d <;> first|(exact (LJ _ rfl).elim)|simp [e,cE,Ue hT hz]
     .cases hi
  .cases cz
   split at hi
   .rename_i cE
    simp only [bS] at hi
    obtain ⟨z,hz,rfl⟩:=hi
    refine ⟨_,?_,vm z hz⟩
    simp only [Instr.typeAssert,Sem.run_bind,run_underlying hu,Result.andThen_ok]
    cases d <;> first|(exact (LJ _ rfl).elim)|simp [cE,Ue hT hz]
   .cases hi
  .cases hi
 .cases hi

def IW (ρ:bU):ez->Place->Prop
 | .val v,.val u=>VR ρ v u
 | .var p,.var a=>VR ρ p (.pointer (some a))
 |_,_=>False

theorem RT (hT:T.Fits P) (hs:bj ρ h w) {a:Addr} (hp:VR ρ p (.pointer (some a))) (hl:eQ T t p h=some v):∃ u,(loadVar t a).run P w=.ok u w/\VR ρ v u:=by
 obtain ⟨u,h1,h2⟩:=MU hT hs hp hl
 refine ⟨u,?_,h2⟩
 rw [<- h1]
 simp [Instr.loadAt,Instr.sureAddr]
theorem H3 (hT:T.Fits P) (hs:bj ρ h w) {x:ez} {y:Place} (cz:IW ρ x y) (hg:x.get T t h=some v):∃ u,(y.get t).run P w=.ok u w/\VR ρ v u:=by
 cases x with
 |val v' =>
  cases y with
  |val u=>cases hg;exact ⟨u,rfl,cz⟩
  |var a=>exact cz.elim
 |var p =>
  cases y with
  |val u=>exact cz.elim
  |var a=>exact RT hT hs cz hg
theorem zry {u:ai} {f:Nat} {q:ai} (hp:VR ρ p u) (hf:gg T s p f=some q):∃ a,u=.pointer (some a)/\(asAddr u).run P w=.ok a w:=by
 unfold gg at hf
 split at hf
 .cases hp with
  |ptr hA=>exact ⟨_,rfl,by simp [asAddr]⟩
 .cases hf
theorem RA (hT:T.Fits P) {fs:Array Field} {q:ai} {a:Addr} {i:Nat} {f:Field} (hd:T.desc s=some (.struct fs)) (hi:fs[i]? = some f) (hp:VR ρ p (.pointer (some a))) (hf:gg T s p i=some q) :
 ∃ a',(fieldPlace a f).run P w=.ok a' w/\VR ρ q (.pointer (some a')):=by
 unfold gg at hf
 rw [hd] at hf
 split at hf
 .rename_i fs' A o e1
  cases e1
  simp only [bB] at hf
  obtain ⟨fl,sG,n,hn,hf⟩:=hf
  rw [hi] at sG
  cases sG
  split at hf
  .cases hf
  .rename_i h0
   cases hf
   cases hp with
   |ptr hA =>
    rename_i L
    refine ⟨⟨L.b,L.s+(o+f.offset),none⟩,?_,.ptr hA⟩
    simp [fieldPlace,px hT hn,h0,Addr.add_mid,jN]
 .cases hf

theorem HA (hT:T.Fits P) (hs:bj ρ h w):∀ (l:List FieldStep) (t:TypeId) (x:ez) (y:Place) (r:TypeId × ez),IW ρ x y->AR T h l t x=some r->∃ y',(follow l t y).run P w=.ok (r.1,y') w/\IW ρ r.2 y'
 | [],t,x,y,r,cz,hf=>by cases hf;exact ⟨y,by simp [follow],cz⟩
 |s::l,t,x,y,r,cz,hf=>by
  simp only [AR] at hf
  split at hf
  .rename_i fs hd
   simp only [bB] at hf
   obtain ⟨f,hi,hf⟩:=hf
   have hu:=hT.desc _ _ hd
   split at hf
   .rename_i sF
    simp only [bB] at hf
    obtain ⟨p,hp,q,hq,hf⟩:=hf
    obtain ⟨u,h1,h2⟩:=H3 hT hs cz hp
    obtain ⟨a,rfl,h3⟩:=zry (P:=P) (w:=w) h2 hq
    obtain ⟨a',h4,h5⟩:=RA (P:=P) (w:=w) hT hd hi h2 hq
    obtain ⟨y',h6,h7⟩:=HA hT hs l _ (.var q) (.var a') r h5 hf
    refine ⟨y',?_,h7⟩
    simp only [follow,Sem.run_bind,run_underlying hu,Result.andThen_ok,hi,sF,if_true,h1,h3,h4,h6]
   .rename_i sF
    split at hf
    .rename_i p
     simp only [bB] at hf
     obtain ⟨q,hq,hf⟩:=hf
     cases y with
     |val u=>exact cz.elim
     |var a =>
      obtain ⟨a',h4,h5⟩:=RA (P:=P) (w:=w) hT hd hi cz hq
      obtain ⟨y',h6,h7⟩:=HA hT hs l _ (.var q) (.var a') r h5 hf
      refine ⟨y',?_,h7⟩
      simp only [follow,Sem.run_bind,run_underlying hu,Result.andThen_ok,hi,sF,fb,if_false,h4,h6]
    .rename_i cs
     simp only [bB] at hf
     obtain ⟨v,hv,hf⟩:=hf
     cases y with
     |var a=>exact cz.elim
     |val u =>
      cases cz with
      |agg hc hh =>
       rename_i ds
       obtain ⟨vc,h4,h5⟩:=Su (ds:=ds) hT (VR.agg hc hh).wR hv w
       obtain ⟨y',h6,h7⟩:=HA hT hs l _ (.val v) (.val vc) r h5 hf
       refine ⟨y',?_,h7⟩
       simp only [follow,Sem.run_bind,run_underlying hu,Result.andThen_ok,hi,sF,fb,if_false,h4,h6]
    .cases hf
  .cases hf

theorem Yg (hT:T.Fits P) (hs:bj ρ h w) {xt:TypeId} {x:ez} {y:Place} {ptr:Bool} (cz:IW ρ x y) (hr:Ng T xt x ptr h=some v) (wr:Option String):∃ u,(receiverAt xt y ptr wr).run P w=.ok u w/\VR ρ v u:=by
 unfold Ng at hr
 split at hr
 .rename_i e hd
  obtain ⟨u,h1,h2⟩:=H3 hT hs cz hr
  refine ⟨u,?_,h2⟩
  simp only [receiverAt,Sem.run_bind,run_underlying (hT.desc _ _ hd),Result.andThen_ok,h1]
 .rename_i elem hd
  simp only [bB] at hr
  obtain ⟨p,hp,hr⟩:=hr
  obtain ⟨u,h1,h2⟩:=H3 hT hs cz hp
  have Wp:∃ a,u=.pointer (some a):=by
   unfold eQ at hr
   split at hr
   .cases h2 with
    |ptr hA=>exact ⟨_,rfl⟩
   .cases hr
  obtain ⟨a,rfl⟩:=Wp
  obtain ⟨u',h3,h4⟩:=RT hT hs h2 hr
  refine ⟨u',?_,h4⟩
  simp only [receiverAt,Sem.run_bind,run_underlying (hT.desc _ _ hd),Result.andThen_ok,h1]
  cases wr with
  |none=>simp [asAddr,h3]
  |some nm =>
   have hw:(Builtin.ssaWrapNilChk_ #[xt] xt #[.pointer (some a),strVal "",strVal nm]).run P w=.ok (.pointer (some a)) w:=rfl
   simp [hw,asAddr,h3]
 .rename_i d p aV hd
  split at hr
  .rename_i a
   cases hr
   cases y with
   |val u=>exact cz.elim
   |var a' =>
    refine ⟨.pointer (some a'),?_,cz⟩
    simp only [receiverAt,Sem.run_bind,run_underlying (hT.desc _ _ hd),Result.andThen_ok]
    cases d <;> first|rfl|exact (aV _ rfl).elim
  .cases hr
 .rename_i d aV hd
  obtain ⟨u,h1,h2⟩:=H3 hT hs cz hr
  refine ⟨u,?_,h2⟩
  simp only [receiverAt,Sem.run_bind,run_underlying (hT.desc _ _ hd),Result.andThen_ok]
  cases d <;> first|exact h1|exact (aV _ rfl).elim
 .cases hr

theorem YJ (hT:T.Fits P) (hs:bj ρ h w) {u r:ai} {name:String} {f:FuncId} (hv:VR ρ v u) (hm:Iy T t v name h=some (f,r)) (fuel:Nat):∃ r',(method (fuel+1) t u name).run P w=.ok (f,r') w/\VR ρ r r':=by
 unfold Iy at hm
 simp only [bB,Prod.exists] at hm
 obtain ⟨m,fJ,xt,x,hf,hm⟩:=hm
 obtain ⟨i,hi,Dp⟩:=hT.rQ _ _ _ fJ
 obtain ⟨y,h1,h2⟩:=HA hT hs m.path.toList t (.val v) (.val u) (xt,x) hv hf
 split at hm
 .rename_i f' ptr oU
  simp only [bS,cd] at hm
  obtain ⟨r1,hr,rfl,rfl⟩:=hm
  obtain ⟨r',h3,h4⟩:=Yg hT hs h2 hr (if m.path.isEmpty then some ((name.splitOn ".").getLastD name) else none)
  refine ⟨r',?_,h4⟩
  have WA:(typeInfo t).run P w=.ok i w:=by simp [typeInfo,hi]
  simp only [method,Sem.run_bind,WA,Result.andThen_ok,Dp,h1,oU,h3,Sem.run_pure]
 .cases hm

theorem zpJ (hT:T.Fits P) {ty:TypeId} (cz:VR ρ x y) (hc:xd T t x=some v) (ts:List TypeId) (w:World):∃ u,(Builtin.cap_ (t::ts).toArray ty #[y]).run P w=.ok u w/\VR ρ v u:=by
 unfold xd at hc
 split at hc
 .rename_i e a n c hd
  split at hc
  .rename_i aS
   cases hc
   have key:∃ a' n',y=.slice a' n' c:=by
    cases cz with
    |cu=>exact ⟨_,_,rfl⟩
    |slice=>exact ⟨_,_,rfl⟩
    |bI h1 h2=>omega
   obtain ⟨a',n',rfl⟩:=key
   exact ⟨_,by simp [Builtin.cap_,run_underlying (hT.desc _ _ hd),goInt],.int _ _⟩
  .cases hc
 .cases hc

theorem SF:∀ (l m:List ai) (bs:List UInt8),bQ ρ l m->za l=some bs->∃ ns:List Int,m=ns.map (Value.int .u8)/\bs=ns.map λn=>UInt8.ofNat n.toNat
 | [],m,bs,hv,hb=>by
  rw [hv.of_nil]
  cases hb
  exact ⟨[],rfl,rfl⟩
 |x::l,m,bs,hv,hb=>by
  obtain ⟨y,m',rfl,h1,h2⟩:=hv.of_cons
  cases x with
  |int k n =>
   cases k <;> simp only [za] at hb <;> try cases hb
   simp only [bS] at hb
   obtain ⟨U5,oQ,rfl⟩:=hb
   cases h1
   obtain ⟨ns,rfl,rfl⟩:=SF l m' U5 h2 oQ
   exact ⟨n::ns,rfl,rfl⟩
  |_=>simp [za] at hb

theorem Yi (hT:T.Fits P) (hs:bj ρ h w) {d:TypeId} (cz:VR ρ x y) (hb:sX T s d x h=some v):∃ u,(convert s d y).run P w=.ok u w/\VR ρ v u:=by
 unfold sX at hb
 split at hb
 .rename_i e a n c rD K0
  split at hb
  .rename_i VK
   simp only [bB,bS] at hb
   obtain ⟨l,hl,bs,zQ,rfl⟩:=hb
   obtain ⟨a',c',m,rfl,hv,hlen,cW⟩:=MI (P:=P) hs cz hl
   obtain ⟨ns,rfl,rfl⟩:=SF l m bs hv zQ
   refine ⟨_,?_,.string _⟩
   rw [run_convert_bytes_string w s d e a' n c' (hT.desc _ _ rD) (hT.desc _ _ VK) (hT.desc _ _ K0)]
   cases a' with
   |none =>
    have hn:n=0:=by cases cz;rfl
    subst hn
    have:ns=[]:=by simpa using hlen
    subst this
    rfl
   |some ad =>
    have h1:=cW w rfl n (bg _)
    have h2:(loadCells ad n).run P w=.ok (ns.map (Value.int .u8)).toArray w:=by
     have h3:(Builtin.firstCells 1 n (.slice (some ad) n c'))=loadCells ad (n*1):=rfl
     rw [h3,uS] at h1
     rw [h1]
     congr 2
     exact i9 (by rw [hlen,uS];exact bg _)
    rw [run_bytesToString w ad n c' ns h2,foldl_push_bytes]
    simp
  .cases hb
 .cases hb

theorem Yf (hT:T.Fits P) (hs:bj ρ h w) (bn:dL ρ h h') {d:TypeId} (nE:AG T s=true) (hx:VR ρ x y) (hl:vZ T d x h=some (v,h')) :
 ∃ ρ' u w',(convert s d y).run P w=.ok u w'/\Fr ρ ρ' h h' w w'/\bj ρ' h' w'/\VR ρ' v u:=by
 have hus:P.underlying s=some .string:=by
  unfold AG at nE
  split at nE
  .rename_i hd;exact hT.desc _ _ hd
  .cases nE
 unfold vZ at hl
 split at hl
 .rename_i e b hd
  split at hl
  .rename_i pO z he hi
   split at hl
   .cases hl
   .rename_i D0
    have cA:¬ b.size > 1152921504606846976:=λg=>D0 (.inl g)
    have KW:e=OE:=Decidable.byContradiction λg=>D0 (.inr g)
    cases hl
    cases hx
    have cW:=Lib.run_convert_string_bytes w s d e b hus (hT.desc _ _ hd) (hT.desc _ _ he)
    have mi:=grownCap_ge w b.size 0 e
    have hle:=grownCap_le_maxLen w b.size 0 e (by unfold maxLen;omega)
    have nt:(Lib.bytesCells w e b).size=grownCap w b.size 0 e:=by
     have zQ:b.data.size=b.size:=rfl
     simp only [Lib.bytesCells,Array.size_append,Array.size_map,Array.size_replicate,zQ]
     omega
    have hW:(Lib.bytesWorld w e b).heap=w.heap.push (.cells (Lib.bytesCells w e b) e ((Lib.bytesCells w e b).size,(Lib.bytesCells w e b).size+1)):=by
     apply Array.ext_getElem?
     intro j
     rw [qi]
     by_cases hj:j=w.heap.size
     .rw [aC hj,hj,Lib.bytesWorld_at_new]
     .rw [ay hj]
      by_cases xU:j < w.heap.size
      .exact Lib.bytesWorld_at_old w e b j xU
      .rw [Array.getElem?_eq_none (by rw [Lib.bytesWorld_size];omega),Array.getElem?_eq_none (by omega)]
    have fX:=wc (k:=1) (q:=b.size) (by omega) (by unfold G;omega)
    obtain ⟨ρ',hρ,cy,cI⟩:=Sj (W:=Lib.bytesWorld w e b) (cs:=b.data.toList.map λu=>Value.int .u8 u.toNat) (m:=b.data.toList.map λu=>Value.int .u8 u.toNat) hs (bn _ (bg _) (by rw [Heap.size_push];omega))
     (fz:=((Lib.bytesCells w e b).size,(Lib.bytesCells w e b).size+1)) ⟨by intro j hj hh;have:=hh.1;simp at this;omega,.inl KW⟩ hW
     (by simp [Lib.bytesWorld,World.freeze,World.alloc,World.drew,-World.alloc_eq,-World.drew_eq]) (by simp [Lib.bytesWorld,World.freeze,World.alloc,World.drew,-World.alloc_eq,-World.drew_eq]) (by simp [Lib.bytesWorld,World.freeze,World.alloc,World.drew,-World.alloc_eq,-World.drew_eq])
     (by refine oD ?_ (by simp) λj hj=>?_
         .simp [Lib.bytesCells]
         .simp only [uQ,nT] at hj
          rw [jX]
          simp only [Lib.bytesCells,Gi,Array.toList_map]
          rw [kR (by simpa using hj)])
     (by refine ⟨rfl,λj a c ha hc=>?_⟩
         rw [ha] at hc
         cases hc
         rw [lE,bS] at ha
         obtain ⟨q,_,rfl⟩:=ha
         exact .int .u8 _)
    refine ⟨ρ',_,_,cW,cy,cI,?_⟩
    refine .bI hρ fX.1 (by rw [fX.2.1];exact mi) (by rw [fX.2.1];exact bg _) (by rw [fX.2.2];omega) hle (λ_=>⟨by simp,?_⟩)
    rw [fX.2.2]
    show 0+0+grownCap w b.size 0 e*1<=(Lib.bytesCells w e b).size
    rw [nt]
    omega
  .cases hl
 .cases hl
end
end Go.Am
namespace Go.Am
open Go.RowKit
variable {e:Env} {v:ai}

section
variable {P:Program} {T:bm} {ρ:bU} {h h':Heap} {w:World}

theorem bH.put {e:Env} {a:Act} (he:bH ρ e a.tmps) {v u:ai} (hv:VR ρ v u) (d:Option Tmp):bH ρ (Am.put e d v) (a.put d u).tmps:=by
 cases d with
 |none=>exact he
 |some d =>
  refine ⟨by simp [Am.put,Act.put,Env.length_set,he.1],λi=>?_⟩
  simp only [Am.put,Act.put,Env.aL]
  by_cases hi:i=d/\d < e.length
  .rw [aC hi]
   obtain ⟨rfl,aS⟩:=hi
   have:(a.tmps.setIfInBounds i u).getD i undef=u:=by
    have Lw:i < a.tmps.size:=by rw [<- he.1];exact aS
    simp [Lw]
   rw [this]
   exact hv
  .rw [ay hi]
   have:(a.tmps.setIfInBounds d u).getD i undef=a.tmps.getD i undef:=by
    by_cases hid:d=i
    .subst hid
     have:¬ d < a.tmps.size:=by rw [<- he.1];exact λaS=>hi ⟨rfl,aS⟩
     simp [this]
    .simp [AE hid]
   rw [this]
   exact he.2 i

theorem bH.operand {a:Act} (he:bH ρ e a.tmps) {x:Operand} (hx:n5 ρ x):VR ρ (aX e x) (a.eval x):=by
 cases x with
 |tmp t=>exact he.2 t
 |const v=>exact .ct ρ hx
 |global g =>
  obtain ⟨t,ht⟩:=hx
  exact .ptr (o:=0) ht
 |func f=>exact .func _ rfl rfl (by intro i x y hx;simp at hx) (by intro i x y hx;simp at hx)

theorem bH.operands {a:Act} (he:bH ρ e a.tmps) (xs:List Operand) (hx:∀ x∈xs,n5 ρ x):bQ ρ (xs.map (aX e)) (xs.map a.eval):=by
 induction xs with
 |nil=>exact .nil ρ
 |cons x xs ih =>
  exact .cons (he.operand (hx x (by simp))) (ih λy hy=>hx y (by simp [hy]))

theorem bH.opt {a:Act} (he:bH ρ e a.tmps) {x:Option Operand} (hx:∀ y,x=some y->n5 ρ y):m6 ρ (x.map (aX e)) (x.map a.eval):=by
 cases x with
 |none=>trivial
 |some y=>exact he.operand (hx y rfl)

def OH (P:Program) (ρ:bU) (h h':Heap) (w:World) (v:ai) (f:FuncId) (aB:Array ai):Prop :=
 (∃ ρ' u w',(callFunc f aB).run P w=.ok (.value u) w'/\Fr ρ ρ' h h' w w'/\bj ρ' h' w'/\VR ρ' v u) \/
 ((callFunc f aB).run P w=.ok (.enter f aB) w/\Calls P f aB w λed w'=>∃ ρ' u,ed=.returned u/\Fr ρ ρ' h h' w w'/\bj ρ' h' w'/\VR ρ' v u)

def zwP (P:Program) (ρ:bU) (h h':Heap) (w:World) (v:ai) (l:Nat) (aB:Array ai):Prop :=
 ∃ f tmps assign body,(Instr.yield l aB).run P w=.ok (.round l f tmps assign body) w/\RoundIn Fence.wide 0 P l f tmps assign body w λed w'=>∃ ρ' u,ed=.returned u/\Fr ρ ρ' h h' w w'/\bj ρ' h' w'/\VR ρ' v u

structure CS (P:Program) (gs:List Nat) (C:Fn->List ai->Heap->Option (ai × Heap)):Prop where
 fn:∀ f args h v h',C (.func f) args h=some (v,h')->∀ ρ w (aB:Array ai),cf gs ρ->bj ρ h w->dL ρ h h'->bQ ρ args aB.toList->OH P ρ h h' w v f aB
 yield:∀ A args h v h',C (.yield A) args h=some (v,h')->∀ ρ w (aB:Array ai) L,ρ A=some L->cf gs ρ->bj ρ h w->dL ρ h h'->bQ ρ args aB.toList->zwP P ρ h h' w v L.b aB

def zD (P:Program) (ρ:bU) (h h':Heap) (w:World) (v:ai) (r:Result Next):Prop :=
 (∃ ρ' u w',(r=.ok (.value u) w'\/(r=.ok .skip w'/\u=undef))/\Fr ρ ρ' h h' w w'/\bj ρ' h' w'/\VR ρ' v u) \/
 (∃ f aB,r=.ok (.enter f aB) w/\Calls P f aB w λed w'=>∃ ρ' u,ed=.returned u/\Fr ρ ρ' h h' w w'/\bj ρ' h' w'/\VR ρ' v u) \/
 (∃ l f tmps assign body,r=.ok (.round l f tmps assign body) w/\RoundIn Fence.wide 0 P l f tmps assign body w λed w'=>∃ ρ' u,ed=.returned u/\Fr ρ ρ' h h' w w'/\bj ρ' h' w'/\VR ρ' v u)

theorem World.bh (w:World) (o:Obj):(w.alloc o).heap=w.heap.push o:=rfl

theorem zD.still (hs:bj ρ h w) {u:ai} {r:Result Next} (hr:r=.ok (.value u) w) (hv:VR ρ v u):zD P ρ h h w v r :=
 .inl ⟨ρ,u,w,.inl hr,Fr.refl _ _ _,hs,hv⟩

theorem FP {a:Act} {o:Oper} (hs:bj ρ h w) (he:bH ρ e a.tmps) (cE:il ρ o) (hp:eP P e o h=some (v,h')) (xE:(∀ x∈o.op.operands,a.eval x=aX e x)->execOp a.eval o=execOp (aX e) o) :
 zD P ρ h h' w v ((execOp a.eval o).run P w):=by
 unfold eP at hp
 split at hp
 .rename_i aq
  have heq:∀ x∈o.op.operands,a.eval x=aX e x:=by
   intro x hx
   have h1:=fD.1 aq x (by simpa using hx)
   exact (he.operand (cE x (by simpa using hx))).bc h1
  rw [xE heq]
  split at hp
  .rename_i v' hr
   split at hp
   .rename_i DQ
    cases hp
    exact .still hs (FV P _ _ hr w) (.ct ρ DQ)
   .cases hp
  .cases hp
 .cases hp

theorem SX {v:ai} (hs:bj ρ h w) (dV:ρ h.size=none) {t:TypeId} {cs:List ai} (u:ai) (hv:bQ ρ cs u.cells.toList) :
 ∃ ρ',(newVar t u).run P w=.ok ⟨w.heap.size,0,none⟩ (w.alloc (.cells u.cells t))/\Fr ρ ρ' h (newRow t cs h).2 w (w.alloc (.cells u.cells t))/\bj ρ' (newRow t cs h).2 (w.alloc (.cells u.cells t)) /\
   VR ρ' (newRow t cs h).1 (.pointer (some ⟨w.heap.size,0,none⟩)):=by
 have _:=v
 obtain ⟨ρ',hρ,cy,cI⟩:=Aq (W:=w.alloc (.cells u.cells t)) (cs:=cs) (m:=u.cells.toList) hs dV rfl rfl rfl rfl (by rw [hv.1];exact oD (by omega) rfl (λj _=>by rw [jX])) hv
 refine ⟨ρ',by simp [newVar,Go.newRow],cy,cI,?_⟩
 have:=VR.ptr (ρ:=ρ') (o:=0) hρ
 simpa [newRow] using this

theorem RC (ps:Array (Nat × Operand)) (f:Operand->ai):(ps.map λ(i,x)=>(i,f x))=(ps.toList.map λ(i,x)=>(i,f x)).toArray:=by
 apply Array.ext'
 simp

theorem TF {a:Act} (he:bH ρ e a.tmps) (ps:List (Nat × Operand)) (cE:∀ x∈ps.map (·.2),n5 ρ x) :
 (ps.map λ(i,x)=>(i,aX e x)).length=(ps.map λ(i,x)=>(i,a.eval x)).length /\
 ∀ (i:Nat) (x y:Nat × ai),(ps.map λ(i,x)=>(i,aX e x))[i]? = some x->(ps.map λ(i,x)=>(i,a.eval x))[i]? = some y->x.1=y.1/\VR ρ x.2 y.2:=by
 refine ⟨by simp,λi x y hx hy=>?_⟩
 rw [lE,bS] at hx hy
 obtain ⟨⟨j,o⟩,h1,rfl⟩:=hx
 obtain ⟨⟨j',o'⟩,h2,rfl⟩:=hy
 rw [h1] at h2
 cases h2
 exact ⟨rfl,he.operand (cE o (zC.2 ⟨(j,o),ig h1,rfl⟩))⟩

theorem Ar (hT:T.Fits P) {C:Fn->List ai->Heap->Option (ai × Heap)} {gs:List Nat} (hC:CS P gs C) (hG:cf gs ρ) {a:Act} {o:Oper} (hs:bj ρ h w) (he:bH ρ e a.tmps) (cE:il ρ o) (bn:dL ρ h h') 
 (ab:fp P T C e o h=some (v,h')):zD P ρ h h' w v ((execOp a.eval o).run P w):=by
 have aq:∀ x∈o.op.operands.toList,n5 ρ x:=cE
 unfold fp at ab
 dsimp only at ab
 split at ab
 .rename_i x aG
  cases ab
  refine .still (u:=a.eval x) hs (by simp [execOp,aG]) (he.operand (aq _ (by simp [aG,Op.operands])))
 .rename_i x aG
  cases ab
  refine .still (u:=a.eval x) hs (by simp [execOp,aG]) (he.operand (aq _ (by simp [aG,Op.operands])))
 .rename_i c x y aG
  have hc:=he.operand (aq c (by simp [aG,Op.operands]))
  have hx:=he.operand (aq x (by simp [aG,Op.operands]))
  have hy:=he.operand (aq y (by simp [aG,Op.operands]))
  split at ab
  .rename_i t ht
   cases ab
   rw [ht] at hc
   have vi:a.eval c=.bool t:=hc.bc rfl
   refine .still (u:=if t then a.eval x else a.eval y) hs (by simp [execOp,aG,vi,asBool]) ?_
   cases t
   .exact hy
   .exact hx
  .cases ab
 .rename_i t aG
  simp only [bS,Prod.exists] at ab
  obtain ⟨k,pO,z,eE,ab⟩:=ab
  obtain ⟨i,zv,hi,rfl,rfl,hz,rfl,rI,pf⟩:=hT.info t k pO z eE
  have e1:v=(newRow t zv.cells.toList h).1:=(congrArg Prod.fst ab).symm
  have e2:h'=(newRow t zv.cells.toList h).2:=(congrArg Prod.snd ab).symm
  subst e1 e2
  obtain ⟨ρ',h1,h2,h3,h4⟩:=SX (P:=P) (v:=undef) hs (bn _ (bg _) (su _)) (t:=t) zv (bQ.plain ρ pf)
  refine .inl ⟨ρ',_,_,.inl ?_,h2,h3,h4⟩
  simp [execOp,aG,Instr.alloc,zeroValue,typeInfo,hi,hz,h1]
 .rename_i t x aG
  have hx:=he.operand (aq x (by simp [aG,Op.operands]))
  simp only [de] at ab
  have e1:v=(newRow t (aX e x).cells.toList h).1:=(congrArg Prod.fst ab).symm
  have e2:h'=(newRow t (aX e x).cells.toList h).2:=(congrArg Prod.snd ab).symm
  subst e1 e2
  obtain ⟨ρ',h1,h2,h3,h4⟩:=SX (P:=P) (v:=undef) hs (bn _ (bg _) (su _)) (t:=t) (a.eval x) hx.cells
  refine .inl ⟨ρ',_,_,.inl ?_,h2,h3,h4⟩
  simp [execOp,aG,Instr.box,h1]
 .rename_i t ps aG
  simp only [bS,cd] at ab
  obtain ⟨r,hr,rfl,rfl⟩:=ab
  obtain ⟨p1,p2⟩:=TF he ps.toList (λx hx=>aq x (by simpa [aG,Op.operands] using hx))
  obtain ⟨vc,h1,h2⟩:=Y2 (ρ:=ρ) hT p1 p2 hr w
  refine .still hs ?_ h2
  simp only [execOp,aG,RC,Sem.run_bind,h1,Result.andThen_ok,Sem.run_pure]
 .rename_i t n ps aG
  obtain ⟨p1,p2⟩:=TF he ps.toList (λx hx=>aq x (by simpa [aG,Op.operands] using hx))
  obtain ⟨ρ',vc,w',h1,h2,h3,h4⟩:=Xs (ρ:=ρ) hT hs bn p1 p2 ab
  refine .inl ⟨ρ',vc,w',.inl ?_,h2,h3,h4⟩
  simp only [execOp,aG,RC,Sem.run_bind,h1,Result.andThen_ok,Sem.run_pure]
 .rename_i t x aG
  have hx:=he.operand (aq x (by simp [aG,Op.operands]))
  simp only [bS,cd] at ab
  obtain ⟨r,hr,rfl,rfl⟩:=ab
  obtain ⟨u,h1,h2⟩:=MU hT hs hx hr
  exact .still hs (by simp [execOp,aG,h1]) h2
 .rename_i t x y aG
  have hx:=he.operand (aq x (by simp [aG,Op.operands]))
  have hy:=he.operand (aq y (by simp [aG,Op.operands]))
  simp only [bS,cd] at ab
  obtain ⟨h1,hr,rfl,rfl⟩:=ab
  unfold gm at hr
  split at hr
  .rename_i A off uc
   rw [uc] at hx
   simp only [bB] at hr
   obtain ⟨n,hn,hr⟩:=hr
   split at hr
   .rename_i cA
    generalize qL:a.eval x=ax at hx
    cases hx with
    |ptr hA =>
     rename_i L
     obtain ⟨w',dI,cy,cI⟩:=FQ (P:=P) hs hA hy.cells hr
     have nt:(a.eval y).cells.size=n:=by have:=hy.cells.1;simp at this;omega
     refine .inl ⟨ρ,undef,w',.inr ⟨?_,rfl⟩,cy,cI,.undef ρ⟩
     simp [execOp,aG,qL,Instr.storeAt,Instr.sureAddr,storeVar,px hT hn,nt,dI]
   .cases hr
  .cases hr
 .rename_i x aG
  have hx:=he.operand (aq x (by simp [aG,Op.operands]))
  split at ab
  .rename_i ad uc
   cases ab
   rw [uc] at hx
   generalize qL:a.eval x=ax at hx
   cases hx with
   |ptr hA=>exact .still hs (by simp [execOp,aG,qL]) (.ptr hA)
  .rename_i f fi ca uc
   cases ab
   rw [uc] at hx
   generalize qL:a.eval x=ax at hx
   cases hx with
   |func _ hf hc h1 h2=>exact .still hs (by simp [execOp,aG,qL]) (.func _ hf hc h1 h2)
  .rename_i t z uc
   cases ab
   rw [uc] at hx
   generalize qL:a.eval x=ax at hx
   cases hx with
   |iface _ h1=>exact .still hs (by simp [execOp,aG,qL]) (.iface t h1)
  .cases ab
 .rename_i op t x y yt aG
  have hx:=he.operand (aq x (by simp [aG,Op.operands]))
  have hy:=he.operand (aq y (by simp [aG,Op.operands]))
  simp only [bS,cd] at ab
  obtain ⟨r,hr,rfl,rfl⟩:=ab
  obtain ⟨vc,h1,h2⟩:=zpE hT hx hy hr x y w
  refine .still hs ?_ h2
  simp only [execOp,aG]
  rw [Sem.run_bind,h1]
  rfl
 .rename_i fn first captured aG
  split at ab
  .rename_i f
   cases ab
   have h1:=he.operands first.toList (λx hx=>aq x (by simp [aG,Op.operands];left;simpa using hx))
   have h2:=he.operands captured.toList (λx hx=>aq x (by simp [aG,Op.operands];right;simpa using hx))
   refine .still (u:=.func (.func f) (first.map a.eval) (captured.map a.eval)) hs ?_ ?_
   .simp [execOp,aG,Instr.makeFunc]
   .refine .func _ (by simp) (by simp) (λi x y hx hy=>h1.2 i x y ?_ ?_) (λi x y hx hy=>h2.2 i x y ?_ ?_)
    all_goals simp at hx hy ⊢;assumption
  .cases ab
 .rename_i t l c aG
  have hl:=he.operand (aq l (by simp [aG,Op.operands]))
  have hc:=he.operand (aq c (by simp [aG,Op.operands]))
  obtain ⟨ρ',vc,w',h1,h2,h3,h4⟩:=Xy hT hs bn hl hc ab
  refine .inl ⟨ρ',vc,w',.inl ?_,h2,h3,h4⟩
  simp [execOp,aG,h1]
 .rename_i t x l hi m aG
  have hx:=he.operand (aq x (by simp [aG,Op.operands]))
  have hl:=he.opt (x:=l) (λy hy=>aq y (by subst hy;simp [aG,Op.operands]))
  have xT:=he.opt (x:=hi) (λy hy=>aq y (by subst hy;simp [aG,Op.operands]))
  have hm:=he.opt (x:=m) (λy hy=>aq y (by subst hy;simp [aG,Op.operands]))
  simp only [bS,cd] at ab
  obtain ⟨r,hr,rfl,rfl⟩:=ab
  obtain ⟨vc,h1,h2⟩:=Zu hT hx hl xT hm hr w
  exact .still hs (by simp [execOp,aG,h1]) h2
 .rename_i s x f aG
  have hx:=he.operand (aq x (by simp [aG,Op.operands]))
  simp only [bS,cd] at ab
  obtain ⟨r,hr,rfl,rfl⟩:=ab
  obtain ⟨vc,h1,h2⟩:=XC hT hx hr w
  exact .still hs (by simp [execOp,aG,h1]) h2
 .rename_i t x f aG
  have hx:=he.operand (aq x (by simp [aG,Op.operands]))
  simp only [bS,cd] at ab
  obtain ⟨r,hr,rfl,rfl⟩:=ab
  obtain ⟨vc,h1,h2⟩:=YV hT hx hr w
  exact .still hs (by simp [execOp,aG,h1]) h2
 .rename_i t x i aG
  have hx:=he.operand (aq x (by simp [aG,Op.operands]))
  have hi:=he.operand (aq i (by simp [aG,Op.operands]))
  simp only [bS,cd] at ab
  obtain ⟨r,hr,rfl,rfl⟩:=ab
  obtain ⟨vc,h1,h2⟩:=XD hT hx hi hr w
  exact .still hs (by simp [execOp,aG,h1]) h2
 .rename_i t i aG
  have ht:=he.operand (aq t (by simp [aG,Op.operands]))
  split at ab
  .rename_i vs Wz
   rw [Wz] at ht
   simp only [bS,cd] at ab
   obtain ⟨r,hr,rfl,rfl⟩:=ab
   generalize hU:a.eval t=at_ at ht
   cases ht with
   |tuple hc hh =>
    rename_i ds
    have aS:i < vs.size:=(jL.1 hr).1
    have hd:ds[i]? = some (ds[i]'(by omega)):=AM _
    exact .still hs (by simp [execOp,aG,hU,Instr.extract,hd]) (hh i _ _ hr hd)
  .cases ab
 .rename_i op t x aG
  refine FP hs he cE ab (λheq=>?_)
  have:=heq x (by simp [aG,Op.operands])
  simp [execOp,aG,this]
 .rename_i s t x aG
  split at ab
  .have hx:=he.operand (aq x (by simp [aG,Op.operands]))
   simp only [bS,cd] at ab
   obtain ⟨r,hr,rfl,rfl⟩:=ab
   obtain ⟨u,h1,h2⟩:=Yi hT hs hx hr
   exact .still hs (by simp [execOp,aG,h1]) h2
  .split at ab
   .split at ab
    .rename_i LZ
     have hx:=he.operand (aq x (by simp [aG,Op.operands]))
     obtain ⟨ρ',u,w',r1,r2,r3,r4⟩:=Yf hT hs bn LZ hx ab
     exact .inl ⟨ρ',u,w',.inl (by simp [execOp,aG,r1]),r2,r3,r4⟩
    .cases ab
   .refine FP hs he cE ab (λheq=>?_)
    have:=heq x (by simp [aG,Op.operands])
    simp [execOp,aG,this]
 .rename_i t x i aG
  refine FP hs he cE ab (λheq=>?_)
  have h1:=heq x (by simp [aG,Op.operands])
  have h2:=heq i (by simp [aG,Op.operands])
  simp [execOp,aG,h1,h2]
 .rename_i c aG
  obtain ⟨callee,args,argTypes⟩:=c
  have dh:∀ x∈args.toList,n5 ρ x:=λx hx=>aq x (by simp [aG,Op.operands,Call.operands];right;simpa using hx)
  dsimp only at ab
  split at ab
  .split at ab
   .rename_i t u s x mu kL
    have e1:argTypes=#[t,u]:=by apply Array.ext';simpa using mu
    have e2:args=#[s,x]:=by apply Array.ext';simpa using kL
    subst e1 e2
    have h1:=he.operand (dh s (by simp))
    have h2:=he.operand (dh x (by simp))
    split at ab
    .rename_i hu
     have DZ:GN P u:=by
      unfold zl at hu
      simp only [nY,beq_iff_eq] at hu
      rcases hu with rfl|hu
      .have h4:=ab
       unfold lA at h4
       split at h4
       .rename_i e' hd;exact .inl ⟨_,hT.desc _ _ hd⟩
       .cases h4
      .split at hu
       .rename_i hd;exact .inr (hT.desc _ _ hd)
       .rename_i e' hd;exact .inl ⟨_,hT.desc _ _ hd⟩
       .cases hu
     obtain ⟨ρ',vc,w',r1,r2,r3,r4⟩:=RF (ty:=o.type) hT hs bn DZ h1 h2 ab
     refine .inl ⟨ρ',vc,w',.inl ?_,r2,r3,r4⟩
     simp [execOp,aG,resolve,invoke,builtin,r1]
    .cases ab
   .cases ab
  .split at ab
   .rename_i t u d s mu kL
    have e1:argTypes=#[t,u]:=by apply Array.ext';simpa using mu
    have e2:args=#[d,s]:=by apply Array.ext';simpa using kL
    subst e1 e2
    have h1:=he.operand (dh d (by simp))
    have h2:=he.operand (dh s (by simp))
    obtain ⟨vc,w',r1,r2,r3,r4⟩:=ZY (u:=u) (ty:=o.type) hT hs h1 h2 ab
    refine .inl ⟨ρ,vc,w',.inl ?_,r2,r3,r4⟩
    simp [execOp,aG,resolve,invoke,builtin,r1]
   .cases ab
  .split at ab
   .rename_i t x mu kL
    have e1:argTypes=#[t]:=by apply Array.ext';simpa using mu
    have e2:args=#[x]:=by apply Array.ext';simpa using kL
    subst e1 e2
    have h1:=he.operand (dh x (by simp))
    simp only [bS,cd] at ab
    obtain ⟨h2,hr,rfl,rfl⟩:=ab
    obtain ⟨w',r1,r2,r3⟩:=Y5 (ty:=o.type) hT hs h1 hr
    refine .inl ⟨ρ,undef,w',.inl ?_,r2,r3,.undef ρ⟩
    simp [execOp,aG,resolve,invoke,builtin,r1]
   .cases ab
  .split at ab
   .rename_i t ts x mu kL
    have e2:args=#[x]:=by apply Array.ext';simpa using kL
    have e1:argTypes=(t::ts).toArray:=by apply Array.ext';simpa using mu
    subst e1 e2
    have h1:=he.operand (dh x (by simp))
    simp only [bS,cd] at ab
    obtain ⟨r,hr,rfl,rfl⟩:=ab
    obtain ⟨vc,r1,r2⟩:=zp8 (ty:=o.type) hT hs h1 hr ts
    refine .still hs ?_ r2
    simp [execOp,aG,resolve,invoke,builtin,r1]
   .cases ab
  .refine FP hs he cE ab (λheq=>?_)
   have hm:args.map a.eval=args.map (aX e):=by
    apply Array.map_congr_left
    intro x hx
    exact heq x (by simp [aG,Op.operands,Call.operands];exact hx)
   simp [execOp,aG,resolve,hm]
  .refine FP hs he cE ab (λheq=>?_)
   have hm:args.map a.eval=args.map (aX e):=by
    apply Array.map_congr_left
    intro x hx
    exact heq x (by simp [aG,Op.operands,Call.operands];exact hx)
   simp [execOp,aG,resolve,hm]
  .split at ab
   .rename_i t ts m k mu kL
    have e2:args=#[m,k]:=by apply Array.ext';simpa using kL
    have e1:argTypes=(t::ts).toArray:=by apply Array.ext';simpa using mu
    subst e1 e2
    have h1:=he.operand (dh m (by simp))
    have h2:=he.operand (dh k (by simp))
    simp only [bS,cd] at ab
    obtain ⟨h3,hr,rfl,rfl⟩:=ab
    obtain ⟨w',r1,r2,r3⟩:=Ys (ty:=o.type) (ts:=ts) hT hs h1 h2 hr
    refine .inl ⟨ρ,undef,w',.inl ?_,r2,r3,.undef ρ⟩
    simp [execOp,aG,resolve,invoke,builtin,r1,undef]
   .cases ab
  .split at ab
   .rename_i t ts x mu kL
    have e2:args=#[x]:=by apply Array.ext';simpa using kL
    have e1:argTypes=(t::ts).toArray:=by apply Array.ext';simpa using mu
    subst e1 e2
    have h1:=he.operand (dh x (by simp))
    simp only [bS,cd] at ab
    obtain ⟨r,hr,rfl,rfl⟩:=ab
    obtain ⟨vc,r1,r2⟩:=zpJ (ty:=o.type) hT h1 hr ts w
    refine .still hs ?_ r2
    simp [execOp,aG,resolve,invoke,builtin,r1]
   .cases ab
  .rename_i rv name
   have DV:=he.operand (aq rv (by simp [aG,Op.operands,Call.operands]))
   split at ab
   .rename_i t x Ws
    rw [Ws] at DV
    generalize ve:a.eval rv=ar at DV
    simp only [bB,Prod.exists] at ab
    obtain ⟨f,y,hm,ab⟩:=ab
    cases DV with
    |iface _ hx =>
     rename_i x'
     obtain ⟨y',r1,r2⟩:=YJ hT hs hx hm (P.types.size+Made.depth - 1)
     have hd:P.types.size+Made.depth - 1+1=P.types.size+Made.depth:=by simp [Made.depth]
     rw [hd] at r1
     have b9:=he.operands args.toList dh
     have qY:(execOp a.eval o).run P w=(callFunc f (#[y']++args.map a.eval)).run P w:=by
      have h0:(#[Value.iface t x']++Array.map a.eval args)[0]? = some (.iface t x'):=by rw [Array.getElem?_append_left (by simp)];rfl
      have DR:(program:Sem Program).run P w=.ok P w:=rfl
      have hex:(#[Value.iface t x']++Array.map a.eval args).extract 1 (#[Value.iface t x']++Array.map a.eval args).size=Array.map a.eval args:=by
       rw [Array.extract_append]
       simp
      simp only [execOp,aG,resolve,Sem.run_bind,Sem.run_pure,Result.andThen_ok,invoke,ve,h0,callMethod,DR,r1,hex]
     have kG:=hC.fn f _ h v h' ab ρ w (#[y']++args.map a.eval) hG hs bn (by
      have:=bQ.cons r2 b9
      simpa using this)
     rw [qY]
     rcases kG with ⟨ρ',u,w',q1,q2,q3,q4⟩|⟨q1,q2⟩
     .exact .inl ⟨ρ',u,w',.inl q1,q2,q3,q4⟩
     .exact .inr (.inl ⟨f,_,q1,q2⟩)
   .cases ab
  .rename_i f
   have hf:=he.operand (aq f (by simp [aG,Op.operands,Call.operands]))
   split at ab
   .rename_i g first captured Dm
    rw [Dm] at hf
    generalize KT:a.eval f=af at hf
    cases hf with
    |func _ h1 h2 h3 h4 =>
     rename_i eC cw
     have pY:bQ ρ first.toList eC.toList:=⟨by simpa using h1,λi x y hx hy=>h3 i x y (by simpa using hx) (by simpa using hy)⟩
     have o7:bQ ρ captured.toList cw.toList:=⟨by simpa using h2,λi x y hx hy=>h4 i x y (by simpa using hx) (by simpa using hy)⟩
     have b9:=he.operands args.toList dh
     have kG:=hC.fn g _ h v h' ab ρ w ((eC++args.map a.eval)++cw) hG hs bn (by
      have:=(pY.append b9).append o7
      simpa using this)
     have qY:(execOp a.eval o).run P w=(callFunc g ((eC++args.map a.eval)++cw)).run P w:=by
      simp [execOp,aG,resolve,KT,Deferred.ofValue,invoke]
     rw [qY]
     rcases kG with ⟨ρ',u,w',r1,r2,r3,r4⟩|⟨r1,r2⟩
     .exact .inl ⟨ρ',u,w',.inl r1,r2,r3,r4⟩
     .exact .inr (.inl ⟨g,_,r1,r2⟩)
   .rename_i A first captured Dm
    rw [Dm] at hf
    generalize KT:a.eval f=af at hf
    split at ab
    .cases hf with
     |yield hA =>
      rename_i L _
      have b9:=he.operands args.toList dh
      obtain ⟨g,tmps,assign,body,r1,r2⟩:=hC.yield A _ h v h' ab ρ w (args.map a.eval) L hA hG hs bn (by simpa using b9)
      refine .inr (.inr ⟨L.b,g,tmps,assign,body,?_,r2⟩)
      rw [<- r1]
      simp [execOp,aG,resolve,KT,Deferred.ofValue,invoke]
    .cases ab
   .cases ab
  .cases ab
 .rename_i t r aG
  have jt:∃ ρ',Fr ρ ρ' h (h.push (.map [] 0)) w (w.alloc (.map #[] 0))/\bj ρ' (h.push (.map [] 0)) (w.alloc (.map #[] 0))/\VR ρ' (.map (some h.size)) (.map (some w.heap.size))\/¬ (ρ h.size=none):=by
   by_cases hn:ρ h.size=none
   .obtain ⟨ρ',h1,h2,h3⟩:=HD (W:=w.alloc (.map #[] 0)) (L:=⟨w.heap.size,0,0⟩) (b:=.map [] 0) hs hn (λk hk=>by rw [Am.World.bh,qi,ay (by omega)]) (by rw [Am.World.bh];simp) rfl rfl rfl (bg _)
     (λρ' _=>⟨#[],by rw [Am.World.bh];simp,rfl,by intro i x y hx;simp at hx⟩)
    exact ⟨ρ',.inl ⟨h2,h3,.map h1⟩⟩
   .exact ⟨ρ,.inr hn⟩
  split at ab
  .cases ab
   obtain ⟨ρ',⟨h2,h3,h4⟩|hn⟩:=jt
   .exact .inl ⟨ρ',_,_,.inl (by simp [execOp,aG,Instr.makeMap]),h2,h3,h4⟩
   .exact (hn (bn _ (bg _) (su _))).elim
  .rename_i x
   have hx:=he.operand (aq x (by simp [aG,Op.operands]))
   split at ab
   .rename_i hd uc
    cases ab
    rw [uc] at hx
    generalize qL:a.eval x=ax at hx
    cases hx
    obtain ⟨ρ',⟨h2,h3,h4⟩|hn⟩:=jt
    .refine .inl ⟨ρ',_,_,.inl ?_,h2,h3,h4⟩
     simp [execOp,aG,Instr.makeMap,qL,run_underlying (hT.desc _ _ hd),asInt,asIntOf]
    .exact (hn (bn _ (bg _) (su _))).elim
   .cases ab
 .rename_i t x k ok aG
  have hx:=he.operand (aq x (by simp [aG,Op.operands]))
  have hk:=he.operand (aq k (by simp [aG,Op.operands]))
  simp only [bS,cd] at ab
  obtain ⟨r,hr,rfl,rfl⟩:=ab
  obtain ⟨u,h1,h2⟩:=YI hT hs hx hk hr
  exact .still hs (by simp [execOp,aG,h1]) h2
 .rename_i t m k x aG
  have hm:=he.operand (aq m (by simp [aG,Op.operands]))
  have hk:=he.operand (aq k (by simp [aG,Op.operands]))
  have hx:=he.operand (aq x (by simp [aG,Op.operands]))
  simp only [bS,cd] at ab
  obtain ⟨h1,hr,rfl,rfl⟩:=ab
  obtain ⟨w',r1,r2,r3⟩:=RP hT hs hm hk hx hr
  exact .inl ⟨ρ,undef,w',.inr ⟨by simp [execOp,aG,r1],rfl⟩,r2,r3,.undef ρ⟩
 .rename_i t m k x aG
  have hm:=he.operand (aq m (by simp [aG,Op.operands]))
  have hk:=he.operand (aq k (by simp [aG,Op.operands]))
  have hx:=he.operand (aq x (by simp [aG,Op.operands]))
  simp only [bS,cd] at ab
  obtain ⟨h1,hr,rfl,rfl⟩:=ab
  obtain ⟨w',r1,r2,r3⟩:=RP hT hs hm hk hx hr
  exact .inl ⟨ρ,undef,w',.inr ⟨by simp [execOp,aG,r1],rfl⟩,r2,r3,.undef ρ⟩
 .rename_i t m k aG
  have hm:=he.operand (aq m (by simp [aG,Op.operands]))
  have hk:=he.operand (aq k (by simp [aG,Op.operands]))
  obtain ⟨u,w',r1,r2,r3,r4⟩:=YT hT hs hm hk ab
  exact .inl ⟨ρ,u,w',.inl (by simp [execOp,aG,r1]),r2,r3,r4⟩
 .rename_i t m k x aG
  have hm:=he.operand (aq m (by simp [aG,Op.operands]))
  have hk:=he.operand (aq k (by simp [aG,Op.operands]))
  have hx:=he.operand (aq x (by simp [aG,Op.operands]))
  simp only [bS,cd] at ab
  obtain ⟨h1,hr,rfl,rfl⟩:=ab
  obtain ⟨w',r1,r2,r3⟩:=Xv (P:=P) (t:=t) hs hm hk hx hr
  exact .inl ⟨ρ,undef,w',.inr ⟨by simp [execOp,aG,r1],rfl⟩,r2,r3,.undef ρ⟩
 .rename_i t x aG
  have hx:=he.operand (aq x (by simp [aG,Op.operands]))
  simp only [bS,cd] at ab
  obtain ⟨r,hr,rfl,rfl⟩:=ab
  obtain ⟨u,h1,h2⟩:=YW hT hx hr w
  exact .still hs (by simp [execOp,aG,h1]) h2
 .rename_i x xt t ok aG
  have hx:=he.operand (aq x (by simp [aG,Op.operands]))
  simp only [bS,cd] at ab
  obtain ⟨r,hr,rfl,rfl⟩:=ab
  obtain ⟨u,h1,h2⟩:=Yv (xt:=xt) hT hx hr w
  exact .still hs (by simp [execOp,aG,h1]) h2
 .cases ab
end
end Go.Am
namespace Go.Am
open Go.RowKit
variable {k v x:ai} {o:Oper} {e:Env} {C:Fn->List ai->Heap->Option (ai × Heap)} {tmps:Array ai} {t:TypeId} {c:Code}

section
variable {P:Program} {T:bm} {ρ:bU} {h h':Heap} {w:World}

def WR (rl:Option Nat):Fence:={ Fence.wide with round:=rl }
theorem SH {rl:Option Nat} {n:Nat} {f:FuncId} {args:Array ai} {R:Ending->World->Prop} (hc:Calls P f args w R):CallsIn (WR rl) n P f args w R :=
 (callsIn_wide (n:=n)).2 hc

theorem zD.wp {a:Act} (hr:zD P ρ h h' w v ((execOp a.eval o).run P w)) (Hf:∀ c,o.op≠.defer c) {K:Act->World->Prop} {Q:Exit->Act->World->Prop} {rl:Option Nat}
 (hK:∀ ρ' u w',Fr ρ ρ' h h' w w'->bj ρ' h' w'->VR ρ' v u->K (a.put o.dst u) w'):o.wpIn (WR rl) 0 P a w K Q:=by
 unfold Oper.wpIn
 refine ⟨λ_ _=>trivial,?_⟩
 rw [Oper.semAt_eq _ _ _ Hf]
 rcases hr with ⟨ρ',u,w',h1,h2,h3,h4⟩|⟨f,aB,h1,h2⟩|⟨l,f,tmps,assign,body,h1,h2⟩
 .rcases h1 with h1|⟨h1,rfl⟩
  .rw [h1];exact hK ρ' u w' h2 h3 h4
  .rw [h1];exact hK ρ' undef w' h2 h3 h4
 .rw [h1]
  refine ⟨(λhh=>by cases hh),SH (h2.mono ?_)⟩
  rintro ed w' ⟨ρ',u,rfl,h3,h4,h5⟩
  exact hK ρ' u w' h3 h4 h5
 .rw [h1]
  refine ⟨(λhh=>by cases hh),RoundIn.mono h2 ?_⟩
  rintro ed w' ⟨ρ',u,rfl,h3,h4,h5⟩
  exact hK ρ' u w' h3 h4 h5

theorem Ak (ab:fp P T C e o h=some (v,h')):∀ c,o.op≠.defer c:=by
 intro c hc
 simp [fp,hc] at ab

theorem Tz {ops:Array Oper} (he:bH ρ e tmps):Region.wanted o (yielded ops tmps)=jG ops o e:=by
 unfold Region.wanted jG
 cases o.guard with
 |none=>rfl
 |some g =>
  obtain ⟨j,b⟩:=g
  simp only [yielded]
  cases (ops[j]?).bind (·.dst) with
  |none=>simp
  |some t =>
   simp only [cM]
   have hv:=he.2 t
   cases ht:tmps[t]? with
   |none =>
    have hlen:tmps.size<=t:=by
     rcases kT t tmps.size with aS|mi
     .rw [AM aS] at ht;cases ht
     .exact mi
    rw [Env.kC e t (by rw [he.1];exact hlen)]
    rfl
   |some u =>
    have hu:tmps.getD t undef=u:=by simp [ht]
    rw [hu] at hv
    generalize e.get t=x at hv
    cases hv <;> first|rfl|(cases b <;> rename_i c <;> cases c <;> rfl)

structure aT (h h':Heap):Prop where
 size:h.size<=h'.size
 low:h'.low<=h.low
 get:∀ A,A < h.size->A < h'.low->h'.get A=h.get A

theorem aT.refl (h:Heap):aT h h:=⟨bg _,bg _,λ_ _ _=>rfl⟩
theorem aT.trans {h h1 h2:Heap} (a:aT h h1) (b:aT h1 h2):aT h h2 :=
 ⟨iG a.size b.size,iG b.low a.low,λA h3 h4=>(b.get A (eR h3 a.size) h4).trans (a.get A h3 (eR h4 b.low))⟩
theorem aT.push (h:Heap) (b:bd):aT h (h.push b):=⟨Nat.le_succ _,bg _,λA h3 _=>by rw [Heap.bX,ay (by omega)]⟩
theorem aT.set {h:Heap} {A:Nat} (b:bd) (hA:A < h.size):aT h (h.set A b) :=
 ⟨bg _,sx _ _,λA' _ h4=>by rw [Heap.bY] at h4;rw [Heap.aL _ _ _ _ hA,ay (by omega)]⟩

theorem HL {A o:Nat} {vs:List ai} (hw:nQ A o vs h=some h'):aT h h':=by
 unfold nQ at hw
 split at hw
 .rename_i hg
  split at hw
  .cases hw;exact .set _ (Heap.aW hg)
  .cases hw
 .cases hw

theorem RE {s:ai} (ha:lA T t s x h=some (v,h')):aT h h':=by
 unfold lA at ha
 split at ha
 .simp only [bB,Prod.exists] at ha
  obtain ⟨k,pO,z,_,m,news,_,ha⟩:=ha
  split at ha
  .split at ha
   .cases ha;exact .refl _
   .split at ha
    .cases ha
    .split at ha
     .split at ha
      .split at ha
       .simp only [bS,cd] at ha
        obtain ⟨h1,hw,_,rfl⟩:=ha
        exact HL hw
       .cases ha
      .cases ha
     .simp only [bB] at ha
      obtain ⟨dt,_,ha⟩:=ha
      split at ha
      .cases ha;exact .push _ _
      .split at ha
       .split at ha
        .rename_i hg
         split at ha
         .cases ha;exact (aT.set _ (Heap.aW hg)).trans (.push _ _)
         .cases ha
        .cases ha
       .cases ha
  .cases ha
 .cases ha

theorem RO (hr:nP T t x k v h=some h'):aT h h':=by
 unfold nP at hr
 split at hr
 .split at hr
  .rename_i hg
   split at hr
   .simp only [bB] at hr
    obtain ⟨r,_,hr⟩:=hr
    split at hr
    .simp only [bB] at hr
     obtain ⟨e,_,hr⟩:=hr
     split at hr
     .cases hr;exact .set _ (Heap.aW hg)
     .cases hr
    .cases hr;exact .set _ (Heap.aW hg)
   .cases hr
  .cases hr
 .cases hr

theorem Ye {d:TypeId} (hr:vZ T d x h=some (v,h')):aT h h':=by
 unfold vZ at hr
 split at hr
 .split at hr
  .split at hr
   .cases hr
   .cases hr;exact .push _ _
  .cases hr
 .cases hr
theorem YS (hr:GC T t x k h=some (v,h')):aT h h':=by
 unfold GC at hr
 split at hr
 .split at hr
  .rename_i hg
   split at hr
   .simp only [bB] at hr
    obtain ⟨r,_,hr⟩:=hr
    split at hr
    .simp only [bB] at hr
     obtain ⟨e,_,hr⟩:=hr
     split at hr
     .cases hr;exact .set _ (Heap.aW hg)
     .cases hr
    .simp only [bS,cd] at hr
     obtain ⟨z,_,_,rfl⟩:=hr
     exact .set _ (Heap.aW hg)
   .cases hr
  .cases hr
 .cases hr
theorem Xu {s:ai} (hr:FN x s v h=some h'):aT h h':=by
 unfold FN at hr
 split at hr
 .split at hr
  .rename_i hg
   simp only [bS] at hr
   obtain ⟨i,_,rfl⟩:=hr
   exact .set _ (Heap.aW hg)
  .cases hr
 .cases hr

theorem Yr (hr:Gh T t x k h=some h'):aT h h':=by
 unfold Gh at hr
 split at hr
 .split at hr
  .cases hr;exact .refl _
  .cases hr
 .split at hr
  .rename_i hg
   split at hr
   .simp only [bB] at hr
    obtain ⟨r,_,hr⟩:=hr
    split at hr
    .cases hr;exact .set _ (Heap.aW hg)
    .cases hr;exact .set _ (Heap.aW hg)
   .cases hr
  .cases hr
 .cases hr

def oG (C:Fn->List ai->Heap->Option (ai × Heap)):Prop:=∀ f args h v h',C f args h=some (v,h')->aT h h'

theorem yP (hC:oG C) (ab:fp P T C e o h=some (v,h')):aT h h':=by
 have bV:∀ {r:Option ai},(r.map λx=>(x,h))=some (v,h')->aT h h':=by
  intro r hr
  simp only [bS,cd] at hr
  obtain ⟨_,_,_,rfl⟩:=hr
  exact .refl _
 have cQ:eP P e o h=some (v,h')->aT h h':=by
  intro hp
  unfold eP at hp
  split at hp
  .split at hp
   .split at hp
    .cases hp;exact .refl _
    .cases hp
   .cases hp
  .cases hp
 unfold fp at ab
 dsimp only at ab
 split at ab
 .cases ab;exact .refl _
 .cases ab;exact .refl _
 .split at ab
  .cases ab;exact .refl _
  .cases ab
 .simp only [bS,Prod.exists] at ab
  obtain ⟨_,_,z,_,ab⟩:=ab
  have e2:=congrArg Prod.snd ab
  simp only at e2
  subst e2
  exact .push _ _
 .simp only [de] at ab
  have e2:=congrArg Prod.snd ab
  simp only at e2
  subst e2
  exact .push _ _
 .exact bV ab
 .unfold rX at ab
  split at ab
  .simp only [bB,Prod.exists] at ab
   obtain ⟨_,_,_,_,ab⟩:=ab
   split at ab
   .cases ab
   .simp only [bS,cd] at ab
    obtain ⟨_,_,_,rfl⟩:=ab
    exact .push _ _
  .cases ab
 .exact bV ab
 .simp only [bS,cd] at ab
  obtain ⟨h1,hr,_,rfl⟩:=ab
  unfold gm at hr
  split at hr
  .simp only [bB] at hr
   obtain ⟨_,_,hr⟩:=hr
   split at hr
   .exact HL hr
   .cases hr
  .cases hr
 .split at ab
  .cases ab;exact .refl _
  .cases ab;exact .refl _
  .cases ab;exact .refl _
  .cases ab
 .exact bV ab
 .split at ab
  .cases ab;exact .refl _
  .cases ab
 .unfold F2 at ab
  split at ab
  .simp only [bB,Prod.exists] at ab
   obtain ⟨_,_,_,_,ab⟩:=ab
   split at ab
   .cases ab;exact .push _ _
   .cases ab
  .cases ab
 .exact bV ab
 .exact bV ab
 .exact bV ab
 .exact bV ab
 .split at ab
  .exact bV ab
  .cases ab
 .exact cQ ab
 .split at ab
  .exact bV ab
  .split at ab
   .split at ab
    .exact Ye ab
    .cases ab
   .exact cQ ab
 .exact cQ ab
 .split at ab
  .split at ab
   .split at ab
    .exact RE ab
    .cases ab
   .cases ab
  .split at ab
   .unfold GI at ab
    split at ab
    .simp only [bB,Prod.exists] at ab
     obtain ⟨_,_,_,_,_,ab⟩:=ab
     split at ab
     .cases ab;exact .refl _
     .split at ab
      .simp only [bS,cd] at ab
       obtain ⟨h1,hw,_,rfl⟩:=ab
       exact HL hw
      .cases ab
    .cases ab
   .cases ab
  .split at ab
   .simp only [bS,cd] at ab
    obtain ⟨h1,hr,_,rfl⟩:=ab
    unfold IH at hr
    split at hr
    .split at hr
     .cases hr;exact .refl _
     .simp only [bB,Prod.exists] at hr
      obtain ⟨_,_,_,_,hr⟩:=hr
      split at hr
      .exact HL hr
      .cases hr
    .cases hr
   .cases ab
  .split at ab
   .exact bV ab
   .cases ab
  .exact cQ ab
  .exact cQ ab
  .split at ab
   .simp only [bS,cd] at ab
    obtain ⟨h1,hr,_,rfl⟩:=ab
    exact Yr hr
   .cases ab
  .split at ab
   .exact bV ab
   .cases ab
  .split at ab
   .simp only [bB,Prod.exists] at ab
    obtain ⟨_,_,_,ab⟩:=ab
    exact hC _ _ _ _ _ ab
   .cases ab
  .split at ab
   .exact hC _ _ _ _ _ ab
   .split at ab
    .exact hC _ _ _ _ _ ab
    .cases ab
   .cases ab
  .cases ab
 .split at ab
  .cases ab;exact .push _ _
  .split at ab
   .cases ab;exact .push _ _
   .cases ab
 .exact bV ab
 .simp only [bS,cd] at ab
  obtain ⟨h1,hr,_,rfl⟩:=ab
  exact RO hr
 .simp only [bS,cd] at ab
  obtain ⟨h1,hr,_,rfl⟩:=ab
  exact RO hr
 .exact YS ab
 .simp only [bS,cd] at ab
  obtain ⟨h1,hr,_,rfl⟩:=ab
  exact Xu hr
 .exact bV ab
 .exact bV ab
 .cases ab

theorem Hy {C:Fn->List ai->Heap->Option (ai × Heap)} (hC:oG C) {ops:Array Oper}:∀ (l:List Oper) (e e':Env) (h h':Heap),nM P T C ops l e h=some (e',h')->aT h h'
 | [],e,e',h,h',ab=>by simp only [nM,de,cd] at ab;obtain ⟨_,rfl⟩:=ab;exact .refl _
 |o::l,e,e',h,h',ab=>by
  simp only [nM] at ab
  split at ab
  .split at ab
   .rename_i v h1 h2
    exact (yP hC h2).trans (Hy hC l _ _ _ _ ab)
   .cases ab
  .exact Hy hC l _ _ _ _ ab

theorem ML (hT:T.Fits P) {C:Fn->List ai->Heap->Option (ai × Heap)} {gs:List Nat} (hC:CS P gs C) (hg:oG C) {ops:Array Oper} {Q:Exit->Act->World->Prop} {rl:Option Nat} {dd:List Deferred} :
 ∀ (l:List Oper) (e e':Env) (h h':Heap) (ρ:bU) (a:Act) (w:World),nM P T C ops l e h=some (e',h')->(∀ o∈l,il ρ o)->cf gs ρ->bj ρ h w->dL ρ h h'->bH ρ e a.tmps->a.defers=dd ->
   (∀ ρ' a' w',Fr ρ ρ' h h' w w'->bj ρ' h' w'->bH ρ' e' a'.tmps->a'.defers=dd->Q .normal a' w')->wpListIn (WR rl) 0 P ops Q l a w
 | [],e,e',h,h',ρ,a,w,ab,_,_,hs,_,he,hd,hQ=>by
  simp only [nM,de,cd] at ab
  obtain ⟨rfl,rfl⟩:=ab
  exact hQ ρ a w (Fr.refl _ _ _) hs he hd
 |o::l,e,e',h,h',ρ,a,w,ab,cE,hG,hs,hf,he,hd,hQ=>by
  have LL:=cE o (by simp)
  have DK:∀ q∈l,il ρ q:=λq hq=>cE q (by simp [hq])
  simp only [nM] at ab
  unfold wpListIn
  rw [Tz he]
  split at ab
  .rename_i hw
   rw [aC hw]
   split at ab
   .rename_i v h1 h2
    have cA:=(Hy hg l _ _ _ _ ab).size
    refine (Ar hT hC hG hs he LL (hf.left cA) h2).wp (Ak h2) λρ1 u w1 f1 s1 v1=>?_
    refine ML hT hC hg l _ _ _ _ ρ1 _ w1 ab (λq hq=>(DK q hq).mono f1.grow) (hG.mono f1.grow) s1 (hf.right f1) ((he.mono f1.grow).put v1 o.dst) (by cases o.dst <;> exact hd) ?_
    intro ρ2 a2 w2 f2 s2 e2 d2
    exact hQ ρ2 a2 w2 (f1.trans f2) s2 e2 d2
   .cases ab
  .rename_i hw
   rw [ay hw]
   refine ⟨λ_ _=>trivial,?_⟩
   exact ML hT hC hg l _ _ _ _ ρ _ w ab DK hG hs hf (he.put (.undef ρ) o.dst) (by cases o.dst <;> exact hd) hQ

def Ex.to:Ex->Exit
 | .normal=>.normal
 | .exit id=>.exit id
 | .ret=>.ret

def DS (P:Program) (gs:List Nat) (D:Array Oper->Env->Heap->Option (Env × Heap)):Prop :=
 ∀ (rl:Option Nat) (id:Nat) (ops:Array Oper) (e e':Env) (h h':Heap) (ρ:bU) (a:Act) (w:World) (Q:Exit->Act->World->Prop),D ops e h=some (e',h')->(∀ o∈ops.toList,il ρ o)->cf gs ρ->bj ρ h w->dL ρ h h'->bH ρ e a.tmps ->
   (∀ ρ' a' w',Fr ρ ρ' h h' w w'->bj ρ' h' w'->bH ρ' e' a'.tmps->a'.defers=a.defers->Q .normal a' w')->(Code.region id ops true).wpIn (WR rl) 0 P Q a w
def Oo (D:Array Oper->Env->Heap->Option (Env × Heap)):Prop:=∀ ops e h e' h',D ops e h=some (e',h')->aT h h'

theorem M8 {f:Env->Heap->Option (Ex × Env × Heap)} (hf:∀ e h x e' h',f e h=some (x,e',h')->aT h h'):∀ (n:Nat) (e:Env) (h:Heap) (x:Ex) (e':Env) (h':Heap),iter f n e h=some (x,e',h')->aT h h'
 |0,_,_,_,_,_,hi=>by simp [iter] at hi
 |n+1,e,h,x,e',h',hi=>by
  simp only [iter] at hi
  split at hi
  .rename_i e1 h1 h2
   exact (hf _ _ _ _ _ h2).trans (M8 hf n _ _ _ _ _ hi)
  .exact hf _ _ _ _ _ hi

theorem Ry {l:Nat} {e':Env} {x:Ex} (ab:AA l e h=some (x,e',h')):aT h h':=by
 unfold AA at ab
 split at ab
 .rename_i hg
  split at ab
  .cases ab
  .split at ab
   .cases ab;exact .set _ (Heap.aW hg)
   .cases ab;exact .set _ (Heap.aW hg)
   .cases ab;exact .set _ (Heap.aW hg)
   .cases ab
 .cases ab
theorem Zr (hC:oG C) {rd:Option Nat} {g:ai} {ps:List Tmp} {assign body:Code} {e':Env} {x:Ex} (ab:Ba T C rd g ps assign body e h=some (x,e',h')):aT h h':=by
 unfold Ba at ab
 split at ab
 .split at ab
  .split at ab
   .rename_i hc
    exact ((aT.push _ _).trans (hC _ _ _ _ _ hc)).trans (Ry ab)
   .cases ab
  .cases ab
 .cases ab

theorem yR {D:Array Oper->Env->Heap->Option (Env × Heap)} (hC:oG C) (hD:Oo D) (rd:Option Nat) (fuel:Nat):∀ (c:Code) (e:Env) (h:Heap) (x:Ex) (e':Env) (h':Heap),cT P T C D rd fuel c e h=some (x,e',h')->aT h h':=by
 intro c
 induction c with
 |skip=>intro e h x e' h' ab;simp only [cT,de,cd] at ab;obtain ⟨_,_,rfl⟩:=ab;exact .refl _
 |region id ops d =>
  intro e h x e' h' ab
  simp only [cT,bS,Prod.exists,cd] at ab
  obtain ⟨e1,h1,hr,_,rfl,rfl⟩:=ab
  split at hr
  .exact hD _ _ _ _ _ hr
  .exact Hy hC _ _ _ _ _ hr
 |seq a b fZ ga =>
  intro e h x e' h' ab
  simp only [cT] at ab
  split at ab
  .rename_i e1 h1 h2
   exact (fZ _ _ _ _ _ h2).trans (ga _ _ _ _ _ ab)
  .exact fZ _ _ _ _ _ ab
 |cond c a b fZ ga =>
  intro e h x e' h' ab
  simp only [cT] at ab
  split at ab
  .exact fZ _ _ _ _ _ ab
  .exact ga _ _ _ _ _ ab
  .cases ab
 |block id c ih =>
  intro e h x e' h' ab
  simp only [cT] at ab
  split at ab
  .rename_i i e1 h1 h2
   have:=ih _ _ _ _ _ h2
   split at ab <;> (simp only [de,cd] at ab;obtain ⟨_,_,rfl⟩:=ab;exact this)
  .exact ih _ _ _ _ _ ab
 |loop c ih=>intro e h x e' h' ab;simp only [cT] at ab;exact M8 ih _ _ _ _ _ _ ab
 |exit id=>intro e h x e' h' ab;simp only [cT,de,cd] at ab;obtain ⟨_,_,rfl⟩:=ab;exact .refl _
 |ret=>intro e h x e' h' ab;simp only [cT,de,cd] at ab;obtain ⟨_,_,rfl⟩:=ab;exact .refl _
 |label l=>intro e h x e' h' ab;simp only [cT,de,cd] at ab;obtain ⟨_,_,rfl⟩:=ab;exact .refl _
 |rangeFunc f ps a b _ _=>intro e h x e' h' ab;exact Zr hC ab
 |scope c ih=>intro e h x e' h' ab;exact ih _ _ _ _ _ ab
 |goto l=>intro e h x e' h' ab;simp [cT] at ab
 |refuse s=>intro e h x e' h' ab;simp [cT] at ab

def jF:Code->Bool
 | .seq a b=>jF a && jF b
 | .cond _ a b=>jF a && jF b
 | .block _ c=>jF c
 | .loop c=>jF c
 | .scope c=>jF c
 | .rangeFunc _ _ _ _=>false
 |_=>true
def Marks (n0:Nat) (B:List Deferred) (nr:Bool) (ρ:bU) (w:World) (ds:List Deferred):Prop :=
 ∃ rs:List Nat,ds=rs.map (λr=>{ target:=.collected r,args:=#[] })++B/\rs.Nodup/\(nr=true->rs=[])/\∀ r∈rs,n0<=r/\w.heap[r]? = some (.deferred (some []))/\∀ A L,ρ A=some L->L.b≠r
theorem Marks.nil {n0:Nat} {B:List Deferred} {nr:Bool}:Marks n0 B nr ρ w B:=⟨[],rfl,.nil,λ_=>rfl,by intro r hr;cases hr⟩
theorem Marks.step {n0:Nat} {B:List Deferred} {nr:Bool} {ρ':bU} {w':World} {ds:List Deferred} (hm:Marks n0 B nr ρ w ds) (f:Fr ρ ρ' h h' w w'):Marks n0 B nr ρ' w' ds:=by
 obtain ⟨rs,h1,h2,h0,h3⟩:=hm
 refine ⟨rs,h1,h2,h0,λr hr=>?_⟩
 obtain ⟨a1,a2,a3⟩:=h3 r hr
 have aS:r < w.heap.size:=(jL.1 a2).1
 refine ⟨a1,(f.keep r aS λA L hA hb=>(a3 A L hA hb).elim).trans a2,λA L hA hb=>?_⟩
 cases hρ:ρ A with
 |some L0 =>
  have e:L0=L:=by have:=f.grow A L0 hρ;rw [hA] at this;exact (Option.some.inj this).symm
  subst e
  exact a3 A L0 hρ hb
 |none =>
  rcases (f.fresh A L hA hρ).2.2 with h4|⟨A0,L0,h4,h5,_⟩
  .omega
  .exact a3 A0 L0 h4 (h5.trans hb)

def zF (ρ:bU):Option Nat->Option Nat->Prop
 |none,none=>True
 |some A,some l=>∃ L,ρ A=some L/\L.b=l
 |_,_=>False
theorem zF.mono {ρ':bU} (hg:∀ A L,ρ A=some L->ρ' A=some L):∀ {rd rl:Option Nat},zF ρ rd rl->zF ρ' rd rl
 |none,none,_=>trivial
 |some _,some _,⟨L,h1,h2⟩=>⟨L,hg _ _ h1,h2⟩
 |none,some _,hh=>hh.elim
 |some _,none,hh=>hh.elim

theorem Av {b:Frame} {a:Act} {k:List Item} {cs:List Frame}:step P (lone (b.atR a (.code (.scope c)::k)) cs w)=.next (lone (b.atR a (.code c::.inScope c::k)) cs w) :=
 step_lone_go (by simp [stepG,stepG.exec,Frame.atR])
theorem YE {b:Frame} {a:Act} {k:List Item} {cs:List Frame}:step P (lone (b.atR a (.inScope c::k)) cs w)=.next (lone (b.atR a k) cs w) :=
 step_lone_go (by simp [stepG,stepG.exec,Frame.atR])
theorem Xr {F:Fence} {n:Nat} {Q:Exit->Act->World->Prop} {a:Act} (hc:c.wpIn F n P (Exit.noGoto Q) a w):(Code.scope c).wpIn F n P Q a w:=by
 intro b k cs pX hb hr
 have h0:(lone (b.atR a (.code (.scope c)::k)) cs w).fenced P F:=fenced_calm hb hr rfl
 obtain ⟨e,a₁,w₁,hq,oP⟩:=hc b (.inScope c::k) cs pX hb hr
 cases e with
 |normal=>exact ⟨.normal,a₁,w₁,hq,.head h0 Av (StepsIn.trans oP (.one (fenced_calm hb hr rfl) YE))⟩
 |exit id =>
  have hx:exitTo id (.inScope c::k)=exitTo id k:=by simp [exitTo]
  exact ⟨.exit id,a₁,w₁,hq,λk' hk=>.head h0 Av (oP.1 k' (by rw [hx];exact hk)),
   λbz hk=>let ⟨k₁,h1,h2⟩:=oP.2 bz (by rw [hx];exact hk);⟨k₁,h1,.head h0 Av h2⟩⟩
 |goto l=>exact hq.elim
 |ret=>exact ⟨_,a₁,w₁,hq,.of_steps (.one h0 Av) oP⟩
 |panic ch=>exact ⟨_,a₁,w₁,hq,.of_steps (.one h0 Av) oP⟩
 |outgrown=>exact ⟨_,a₁,w₁,hq,.of_steps (.one h0 Av) oP⟩

theorem HE (w:World) (r:Nat) (o:Obj):(w.putObj r o).heap=w.heap.setIfInBounds r o:=rfl
theorem zsR {r:Nat} {o:Obj} (aS:r < w.heap.size):(w.putObj r o).heap[r]? = some o:=by rw [HE];simp [aS]
theorem HJ {r k:Nat} {o:Obj} (hk:k≠r):(w.putObj r o).heap[k]? = w.heap[k]? := by
 rw [HE,AE (Ne.symm hk)]

theorem F1 (hs:bj ρ h w) {A:Nat} {L:Loc} (hA:ρ A=some L) {env:List ai} {ps:List Tmp} {assign body:Code} {st:LoopState} {dW:Option Code} (hg:h.get A=some (.loop env ps assign body st dW)) :
 ∃ l:Loop,w.heap[L.b]? = some (.loop l)/\l.state=st/\l.pending=dW/\l.params.toList=ps/\l.assign=assign/\l.body=body/\bH ρ env l.tmps/\bT ρ assign/\bT ρ body /\
   ∀ Es my,Fr ρ ρ h (h.set A (.loop env ps assign body Es my)) w (w.putObj L.b (.loop { l with state:=Es,pending:=my }))/\bj ρ (h.set A (.loop env ps assign body Es my)) (w.putObj L.b (.loop { l with state:=Es,pending:=my })):=by
 have hb:=hs.im A L hA
 rw [hg] at hb
 obtain ⟨l,h1,h2,h3,h4,h5,h6,h7,h8,h9⟩:=hb
 refine ⟨l,h1,h2,h3,h4,h5,h6,h7,h8,h9,λEs my=>?_⟩
 have aS:L.b < w.heap.size:=(jL.1 h1).1
 exact FZ hs hA hg (by simp) (by simp) rfl rfl rfl (by rw [HE];simp) (λq hq=>HJ hq) ⟨_,zsR aS,rfl,rfl,h4,h5,h6,h7,h8,h9⟩

theorem RH (hT:T.Fits P) {D:Array Oper->Env->Heap->Option (Env × Heap)} {gs:List Nat} (hC:CS P gs C) (hg:oG C) (hD:DS P gs D) (G7:Oo D) (rd rl:Option Nat) (n0:Nat) (B:List Deferred) (nr:Bool) (fuel:Nat) :
 ∀ (c:Code) (e:Env) (h:Heap) (x:Ex) (e':Env) (h':Heap) (ρ:bU) (a:Act) (w:World) (Q:Exit->Act->World->Prop),cT P T C D rd fuel c e h=some (x,e',h')->bT ρ c->(nr=true->jF c=true)->cf gs ρ->bj ρ h w->dL ρ h h'->bH ρ e a.tmps->Marks n0 B nr ρ w a.defers->zF ρ rd rl->n0<=w.heap.size ->
   (∀ ρ' a' w',Fr ρ ρ' h h' w w'->bj ρ' h' w'->bH ρ' e' a'.tmps->Marks n0 B nr ρ' w' a'.defers->Q x.to a' w')->c.wpIn (WR rl) 0 P Q a w:=by
 intro c
 induction c with
 |skip =>
  intro e h x e' h' ρ a w Q ab _ _ _ hs _ he hd _ _ hQ
  simp only [cT,de,cd] at ab
  obtain ⟨rfl,rfl,rfl⟩:=ab
  exact wpIn_skip (hQ ρ a w (Fr.refl _ _ _) hs he hd)
 |region id ops d =>
  intro e h x e' h' ρ a w Q ab cE _ hG hs hf he hd _ _ hQ
  simp only [cT,bS,Prod.exists,cd] at ab
  obtain ⟨e1,h1,hr,rfl,rfl,rfl⟩:=ab
  have PY:∀ ρ' a' w',Fr ρ ρ' h h1 w w'->bj ρ' h1 w'->bH ρ' e1 a'.tmps->a'.defers=a.defers->Q .normal a' w':=λρ' a' w' f1 s1 r1 d1=>hQ ρ' a' w' f1 s1 r1 (by rw [d1];exact hd.step f1)
  cases d with
  |true =>
   simp only [if_true] at hr
   exact hD rl id ops e e1 h h1 ρ a w Q hr cE hG hs hf he PY
  |false =>
   simp only [fb,if_false] at hr
   exact wpIn_region_list (ML hT hC hg ops.toList e e1 h h1 ρ a w hr cE hG hs hf he rfl PY)
 |seq c1 c2 Hn Me =>
  intro e h x e' h' ρ a w Q ab cE ju hG hs hf he hd j8 hn hQ
  simp only [cT] at ab
  have tQ:nr=true->jF c1=true:=λq=>by have:=ju q;simp only [jF,cY] at this;exact this.1
  have ya:nr=true->jF c2=true:=λq=>by have:=ju q;simp only [jF,cY] at this;exact this.2
  refine wpIn_seq ?_
  split at ab
  .rename_i e1 h1 h2
   have cA:=(yR hg G7 rd fuel c2 _ _ _ _ _ ab).size
   refine Hn e h .normal e1 h1 ρ a w _ h2 cE.1 tQ hG hs (hf.left cA) he hd j8 hn λρ1 a1 w1 f1 s1 r1 d1=>?_
   exact Me e1 h1 x e' h' ρ1 a1 w1 Q ab (cE.2.mono f1.grow) ya (hG.mono f1.grow) s1 (hf.right f1) r1 d1 (j8.mono f1.grow) (iG hn f1.size) λρ2 a2 w2 f2 s2 r2 d2=>hQ ρ2 a2 w2 (f1.trans f2) s2 r2 d2
  .rename_i aV
   refine Hn e h x e' h' ρ a w _ ab cE.1 tQ hG hs hf he hd j8 hn λρ1 a1 w1 f1 s1 r1 d1=>?_
   cases x with
   |normal=>exact (aV e' h' ab).elim
   |exit id=>exact hQ ρ1 a1 w1 f1 s1 r1 d1
   |ret=>exact hQ ρ1 a1 w1 f1 s1 r1 d1
 |cond c c1 c2 Hn Me =>
  intro e h x e' h' ρ a w Q ab cE ju hG hs hf he hd j8 hn hQ
  have hc:=he.operand cE.1
  have tQ:nr=true->jF c1=true:=λq=>by have:=ju q;simp only [jF,cY] at this;exact this.1
  have ya:nr=true->jF c2=true:=λq=>by have:=ju q;simp only [jF,cY] at this;exact this.2
  simp only [cT] at ab
  split at ab
  .rename_i hb
   rw [hb] at hc
   exact wpIn_cond_true (hc.bc rfl) (Hn e h x e' h' ρ a w Q ab cE.2.1 tQ hG hs hf he hd j8 hn hQ)
  .rename_i hb
   rw [hb] at hc
   exact wpIn_cond_false (hc.bc rfl) (Me e h x e' h' ρ a w Q ab cE.2.2 ya hG hs hf he hd j8 hn hQ)
  .cases ab
 |block id c ih =>
  intro e h x e' h' ρ a w Q ab cE ju hG hs hf he hd j8 hn hQ
  simp only [cT] at ab
  refine wpIn_block ?_
  split at ab
  .rename_i i e1 h1 h2
   split at ab
   .rename_i hi
    simp only [de,cd] at ab
    obtain ⟨rfl,rfl,rfl⟩:=ab
    refine ih e h (.exit i) e1 h1 ρ a w _ h2 cE ju hG hs hf he hd j8 hn λρ1 a1 w1 f1 s1 r1 d1=>?_
    simp only [Ex.to,Exit.inBlock,aC hi]
    exact hQ ρ1 a1 w1 f1 s1 r1 d1
   .rename_i hi
    simp only [de,cd] at ab
    obtain ⟨rfl,rfl,rfl⟩:=ab
    refine ih e h (.exit i) e1 h1 ρ a w _ h2 cE ju hG hs hf he hd j8 hn λρ1 a1 w1 f1 s1 r1 d1=>?_
    simp only [Ex.to,Exit.inBlock,ay hi]
    exact hQ ρ1 a1 w1 f1 s1 r1 d1
  .rename_i aV
   refine ih e h x e' h' ρ a w _ ab cE ju hG hs hf he hd j8 hn λρ1 a1 w1 f1 s1 r1 d1=>?_
   cases x with
   |normal=>exact hQ ρ1 a1 w1 f1 s1 r1 d1
   |exit i=>exact (aV i e' h' ab).elim
   |ret=>exact hQ ρ1 a1 w1 f1 s1 r1 d1
 |loop c ih =>
  intro e h x e' h' ρ a w Q ab cE ju hG hs hf he hd j8 hn hQ
  simp only [cT] at ab
  refine wpIn_loop_rounds fuel ?_
  have key:∀ (n:Nat) (e:Env) (h:Heap) (ρ:bU) (a:Act) (w:World),iter (cT P T C D rd fuel c) n e h=some (x,e',h')->bT ρ c->cf gs ρ->bj ρ h w->dL ρ h h'->bH ρ e a.tmps->Marks n0 B nr ρ w a.defers->zF ρ rd rl->n0<=w.heap.size ->
   (∀ ρ' a' w',Fr ρ ρ' h h' w w'->bj ρ' h' w'->bH ρ' e' a'.tmps->Marks n0 B nr ρ' w' a'.defers->Q x.to a' w')->Code.roundsIn (WR rl) 0 P c Q n a w:=by
   intro n
   induction n with
   |zero=>intro e h ρ a w hi;simp [iter] at hi
   |succ n Mf =>
    intro e h ρ a w hi cE hG hs hf he hd j8 hn hQ
    simp only [iter] at hi
    rw [roundsIn_succ]
    split at hi
    .rename_i e1 h1 h2
     have cA:=(M8 (yR (P:=P) (T:=T) hg G7 rd fuel c) n _ _ _ _ _ hi).size
     refine ih e h .normal e1 h1 ρ a w _ h2 cE ju hG hs (hf.left cA) he hd j8 hn λρ1 a1 w1 f1 s1 r1 d1=>?_
     exact Mf e1 h1 ρ1 a1 w1 hi (cE.mono f1.grow) (hG.mono f1.grow) s1 (hf.right f1) r1 d1 (j8.mono f1.grow) (iG hn f1.size) λρ2 a2 w2 f2 s2 r2 d2=>hQ ρ2 a2 w2 (f1.trans f2) s2 r2 d2
    .rename_i aV
     refine ih e h x e' h' ρ a w _ hi cE ju hG hs hf he hd j8 hn λρ1 a1 w1 f1 s1 r1 d1=>?_
     cases x with
     |normal=>exact (aV e' h' hi).elim
     |exit id=>exact hQ ρ1 a1 w1 f1 s1 r1 d1
     |ret=>exact hQ ρ1 a1 w1 f1 s1 r1 d1
  exact key fuel e h ρ a w ab cE hG hs hf he hd j8 hn hQ
 |exit id =>
  intro e h x e' h' ρ a w Q ab _ _ _ hs _ he hd _ _ hQ
  simp only [cT,de,cd] at ab
  obtain ⟨rfl,rfl,rfl⟩:=ab
  exact wpIn_exit (hQ ρ a w (Fr.refl _ _ _) hs he hd)
 |ret =>
  intro e h x e' h' ρ a w Q ab _ _ _ hs _ he hd _ _ hQ
  simp only [cT,de,cd] at ab
  obtain ⟨rfl,rfl,rfl⟩:=ab
  exact wpIn_ret (hQ ρ a w (Fr.refl _ _ _) hs he hd)
 |label l =>
  intro e h x e' h' ρ a w Q ab _ _ _ hs _ he hd _ _ hQ
  simp only [cT,de,cd] at ab
  obtain ⟨rfl,rfl,rfl⟩:=ab
  exact wpIn_label (hQ ρ a w (Fr.refl _ _ _) hs he hd)
 |rangeFunc g ps assign body _ _ =>
  intro e h x e' h' ρ a w Q ab cE ju hG hs hf he hd j8 hn hQ
  simp only [cT] at ab
  have DJ:¬ nr=true:=λq=>by have:=ju q;simp [jF] at this
  have xS:=he.operand cE.1
  unfold Ba at ab
  split at ab
  .rename_i f first captured mi
   split at ab
   .rename_i ve
    simp only [cY] at ve
    obtain ⟨ve,mb⟩:=ve
    split at ab
    .rename_i r0 h2 kG
     rw [mi] at xS
     generalize KU:a.eval g=ag at xS
     cases xS with
     |func _ q1 q2 q3 q4 =>
      rename_i eC cw
      have pY:bQ ρ first.toList eC.toList:=⟨by simpa using q1,λi x y hx hy=>q3 i x y (by simpa using hx) (by simpa using hy)⟩
      have o7:bQ ρ captured.toList cw.toList:=⟨by simpa using q2,λi x y hx hy=>q4 i x y (by simpa using hx) (by simpa using hy)⟩
      have gz:=hg _ _ _ _ _ kG
      have nA:=Ry ab
      have rB:(h.push (.loop e ps.toList assign body .ready none)).size=h.size+1:=rfl
      have mq:=gz.size
      have tX:=nA.size
      have dV:ρ h.size=none:=hf h.size (bg _) (by omega)
      refine wpIn_rangeFunc λfn _=>?_
      have cZ:∃ (l:Nat) (mark:List Deferred) (w1:World) (lo:Loop),(Instr.enterLoop fn a.tmps ps assign body (WR rl).round).run P w=.ok (l,mark) w1/\w.heap.size<=l/\w1.heap[l]? = some (.loop lo) /\
       lo.state=.ready/\lo.pending=none/\lo.params=ps/\lo.assign=assign/\lo.body=body/\lo.tmps=a.tmps/\(∀ k,k < w.heap.size->w1.heap[k]? = w.heap[k]?)/\w.heap.size<=w1.heap.size/\w1.os=w.os/\w1.tape=w.tape/\w1.output=w.output /\
       (∀ ρ1,(∀ A L,ρ1 A=some L->ρ A=some L\/L.b=l)->Marks n0 B nr ρ1 w1 (mark++a.defers)):=by
       cases rl with
       |none =>
        refine ⟨_,_,_,{ state:=.ready,pending:=none,fn,tmps:=a.tmps,params:=ps,assign,body,defers:=w.heap.size },run_enterLoop_outer fn a.tmps ps assign body,Nat.le_succ _,by rw [World.bh,World.bh,qi,aC (by simp)],rfl,rfl,rfl,rfl,rfl,rfl,?_,by simp [World.bh];omega,rfl,rfl,rfl,?_⟩
        .intro k hk
         rw [World.bh,World.bh,qi,ay (by simp;omega),qi,ay (by omega)]
        .intro ρ1 vH
         obtain ⟨rs,m1,m2,_,m3⟩:=hd
         refine ⟨w.heap.size::rs,by simp [m1],?_,λq=>(DJ q).elim,?_⟩
         .refine List.nodup_cons.2 ⟨λcS=>?_,m2⟩
          have:=(jL.1 (m3 _ cS).2.1).1
          omega
         .intro r hr
          rcases i0.1 hr with rfl|hr
          .refine ⟨hn,by simp [World.bh,qi],λA L hA hb=>?_⟩
           rcases vH A L hA with h4|h4
           .have:=hs.lt h4;omega
           .omega
          .obtain ⟨a1,a2,a3⟩:=m3 r hr
           have aS:r < w.heap.size:=(jL.1 a2).1
           refine ⟨a1,?_,λA L hA hb=>?_⟩
           .rw [World.bh,World.bh,qi,ay (by simp;omega),qi,ay (by omega)]
            exact a2
           .rcases vH A L hA with h4|h4
            .exact a3 A L h4 hb
            .omega
       |some l0 =>
        cases rd with
        |none=>exact j8.elim
        |some A0 =>
         obtain ⟨L0,dA,rfl⟩:=j8
         have LQ:∃ lo:Loop,w.heap[L0.b]? = some (.loop lo):=by
          simp only [Nu] at ve
          split at ve
          .rename_i Lg
           obtain ⟨lo,h4,_⟩:=F1 hs dA Lg
           exact ⟨lo,h4⟩
          .cases ve
         obtain ⟨lo,gF⟩:=LQ
         have cW:(Instr.enterLoop fn a.tmps ps assign body (some L0.b)).run P w=.ok (w.heap.size,[]) (w.alloc (.loop { state:=.ready,pending:=none,fn,tmps:=a.tmps,params:=ps,assign,body,defers:=lo.defers })):=by
          unfold Instr.enterLoop
          simp only [Sem.run_bind,run_getLoop gF,Sem.run_pure,Result.andThen,run_newObj_alloc]
         refine ⟨_,_,_,{ state:=.ready,pending:=none,fn,tmps:=a.tmps,params:=ps,assign,body,defers:=lo.defers },cW,bg _,by simp [World.bh],rfl,rfl,rfl,rfl,rfl,rfl,?_,by simp [World.bh],rfl,rfl,rfl,?_⟩
         .intro k hk
          rw [World.bh,qi,ay (by omega)]
         .intro ρ1 vH
          obtain ⟨rs,m1,m2,_,m3⟩:=hd
          refine ⟨rs,by simp [m1],m2,λq=>(DJ q).elim,?_⟩
          intro r hr
          obtain ⟨a1,a2,a3⟩:=m3 r hr
          have aS:r < w.heap.size:=(jL.1 a2).1
          refine ⟨a1,?_,λA L hA hb=>?_⟩
          .rw [World.bh,qi,ay (by omega)]
           exact a2
          .rcases vH A L hA with h4|h4
           .exact a3 A L h4 hb
           .omega
      obtain ⟨l,mark,w1,lo,cZ,hl,rH,l1,l2,l3,l4,l5,l6,hold,cA,nD,gU,jv,DC⟩:=cZ
      obtain ⟨ρ1,vH,f1,s1⟩:=HD (W:=w1) (L:=⟨l,0,0⟩) (b:=.loop e ps.toList assign body .ready none) hs dV hold cA nD gU jv hl
       (λρ' di=>⟨lo,rH,l1,l2,by rw [l3],l4,l5,by rw [l6];exact he.mono di,cE.2.1.mono di,cE.2.2.mono di⟩)
      have fJ:Marks n0 B nr ρ1 w1 (mark++a.defers):=DC ρ1 λA L hA=>by
       cases hρ:ρ A with
       |some L0 =>
        have e:L0=L:=by have:=f1.grow A L0 hρ;rw [hA] at this;exact (Option.some.inj this).symm
        subst e
        exact .inl rfl
       |none =>
        have h4:=(f1.fresh A L hA hρ)
        have h5:A=h.size:=by have:=h4.1;have:=h4.2.1;omega
        subst h5
        rw [vH] at hA
        cases hA
        exact .inr rfl
      have ld:dL ρ1 (h.push (.loop e ps.toList assign body .ready none)) h2:=(hf.left tX).right f1
      have dh:bQ ρ1 (first.toList++[.func (.yield h.size) #[] #[]]++captured.toList) (eC++#[Value.func (Fn.yield l) #[] #[]]++cw).toList:=by
       have:=((pY.mono f1.grow).append (bQ.cons (VR.yield vH) (.nil ρ1))).append (o7.mono f1.grow)
       simpa using this
      have gS:(resolve a.eval (rangeCall g l) 0).run P w1=.ok { target:=.fn (.func f) cw,args:=eC++#[Value.func (Fn.yield l) #[] #[]] } w1:=by
       have VD:a.eval (.const (.func (.yield l) #[] #[]))=.func (.yield l) #[] #[]:=rfl
       simp [resolve,KU,VD,Deferred.ofValue]
      have hinv:∀ w,(invoke (.fn (.func f) cw) (eC++#[Value.func (Fn.yield l) #[] #[]])).run P w=(callFunc f (eC++#[Value.func (Fn.yield l) #[] #[]]++cw)).run P w:=λw=>rfl
      rcases hC.fn f _ _ _ _ kG ρ1 w1 (eC++#[Value.func (Fn.yield l) #[] #[]]++cw) (hG.mono f1.grow) s1 ld dh with ⟨_,_,_,eF,_⟩|⟨K6,xA⟩
      .exfalso
       unfold Of at mb
       split at mb
       .rename_i PM Lb
        split at mb
        .rename_i c0 kE
         obtain ⟨hP,fK,_⟩:=hT.fn f PM Lb
         have dU:¬ PM.name="runtime.NumGoroutine":=by simpa using fK
         simp [callFunc,hP,dU,kE] at eF
        .cases mb
       .cases mb
      .refine ⟨l,mark,w1,_,w1,f,_,w1,cZ,gS,λ_ _=>trivial,(hinv w1).trans K6,(λhh=>by cases hh),SH (xA.mono ?_)⟩
       rintro ed w3 ⟨ρ3,u,rfl,f3,s3,_⟩
       unfold AA at ab
       split at ab
       .rename_i env Xb U3 U4 st dW VV
        have WW:ρ3 h.size=some ⟨l,0,0⟩:=f3.grow _ _ vH
        obtain ⟨yC,g1,g2,g3,_,_,_,_,_,_,g4⟩:=F1 s3 WW VV
        obtain ⟨f4,s4⟩:=g4 .exhausted dW
        have nx:st≠.busy->∀ x1:Ex,x1=x->e=e'->h2.set h.size (.loop env Xb U3 U4 .exhausted dW)=h'->(Instr.endLoop l).run P w3=.ok dW (w3.putObj l (.loop { yC with state:=.exhausted,pending:=dW }))/\Q x.to { a with defers:=mark++a.defers } (w3.putObj l (.loop { yC with state:=.exhausted,pending:=dW })):=by
         intro dI x1 Hk tI sH
         subst Hk tI sH
         have gF:({ yC with state:=LoopState.exhausted,pending:=dW }:Loop)={ yC with state:=LoopState.exhausted }:=by
          subst g3;rfl
         refine ⟨?_,hQ ρ3 { a with defers:=mark++a.defers } _ ((f1.trans f3).trans f4) s4 (he.mono (f1.trans f3).grow) ((fJ.step f3).step f4)⟩
         rw [gF,<- g3]
         exact run_endLoop g1 (by rw [g2];exact dI)
        split at ab
        .cases ab
        .rename_i dI
         split at ab
         .simp only [de,cd] at ab
          obtain ⟨rfl,h5,h6⟩:=ab
          obtain ⟨k1,k2⟩:=nx dI _ rfl h5 h6
          exact ⟨none,_,k1,k2⟩
         .simp only [de,cd] at ab
          obtain ⟨rfl,h5,h6⟩:=ab
          obtain ⟨k1,k2⟩:=nx dI _ rfl h5 h6
          exact ⟨_,_,k1,wpIn_exit k2⟩
         .simp only [de,cd] at ab
          obtain ⟨rfl,h5,h6⟩:=ab
          obtain ⟨k1,k2⟩:=nx dI _ rfl h5 h6
          exact ⟨_,_,k1,wpIn_ret k2⟩
         .cases ab
       .cases ab
    .cases ab
   .cases ab
  .cases ab
 |scope c ih =>
  intro e h x e' h' ρ a w Q ab cE ju hG hs hf he hd j8 hn hQ
  simp only [cT] at ab
  refine Xr (ih e h x e' h' ρ a w _ ab cE ju hG hs hf he hd j8 hn λρ1 a1 w1 f1 s1 r1 d1=>?_)
  have:=hQ ρ1 a1 w1 f1 s1 r1 d1
  cases x <;> exact this
 |goto l=>intro e h x e' h' ρ a w Q ab;simp [cT] at ab
 |refuse s=>intro e h x e' h' ρ a w Q ab;simp [cT] at ab

def GD (tmps:Array ai):ResultVar->Sem ai
 | .tmp t=>pure (tmps.getD t undef)
 | .cell a t=>do loadVar t (<- asAddr (tmps.getD a undef))

theorem zqL (fn:Func) (tmps:Array ai):results fn tmps=(do let vs <- fn.results.mapM (GD tmps);pure (if h:vs.size=1 then vs[0] else .tuple vs)):=by
 unfold results
 congr 2

theorem YM (hT:T.Fits P) (hs:bj ρ h w) (he:bH ρ e tmps):∀ {r:ResultVar} {v:ai},nO T e h r=some v->∃ u,(GD tmps r).run P w=.ok u w/\VR ρ v u
 | .tmp t,v,hr=>by simp only [nO,de] at hr;subst hr;exact ⟨_,rfl,he.2 t⟩
 | .cell a t,v,hr=>by
  simp only [nO] at hr
  have hv:=he.2 a
  simp only [GD]
  generalize e.get a=x at hv hr
  generalize tmps.getD a undef=y at hv
  obtain ⟨u,h1,h2⟩:=MU hT hs hv hr
  refine ⟨u,?_,h2⟩
  rw [<- h1]
  cases hv <;> first|(simp [eQ] at hr;done)|simp [Instr.loadAt,Instr.sureAddr,asAddr]

theorem MP (hT:T.Fits P) (hs:bj ρ h w) {fn:Func} (he:bH ρ e tmps) (hr:jH T fn e h=some v) :
 ∃ u,(results fn tmps).run P w=.ok u w/\VR ρ v u:=by
 have kJ:∀ (rs:List ResultVar) (vs:List ai),rs.mapM (nO T e h)=some vs->∃ us:List ai,bQ ρ vs us /\
  (rs.mapM (GD tmps)).run P w=.ok us w:=by
  intro rs
  induction rs with
  |nil=>intro vs eo;simp at eo;subst eo;exact ⟨[],.nil ρ,by simp⟩
  |cons r rs ih =>
   intro vs eo
   rw [List.mapM_cons] at eo
   simp only [Option.bind_eq_bind,bB,Option.pure_def,de] at eo
   obtain ⟨v1,pY,ME,yq,rfl⟩:=eo
   obtain ⟨u1,h1,h2⟩:=YM hT hs he pY
   obtain ⟨us,h3,h4⟩:=ih ME yq
   refine ⟨u1::us,.cons h2 h3,?_⟩
   rw [List.mapM_cons]
   simp only [Sem.run_bind,h1,Result.andThen_ok,h4,Sem.run_pure]
 have bV:∀ us:List ai,(fn.results.toList.mapM (GD tmps)).run P w=.ok us w ->
  (results fn tmps).run P w=.ok (if h:us.toArray.size=1 then us.toArray[0] else .tuple us.toArray) w:=by
  intro us h1
  rw [zqL,Array.mapM_eq_mapM_toList]
  simp only [Sem.run_bind,Sem.run_map,h1,Result.andThen_ok,Sem.run_pure]
 unfold jH at hr
 split at hr
 .rename_i r Hg
  obtain ⟨us,h1,h2⟩:=kJ [r] [v] (by simp [hr])
  obtain ⟨u,us',rfl,hu,hn⟩:=h1.of_cons
  have:=hn.of_nil
  subst this
  refine ⟨u,?_,hu⟩
  have:=bV [u] (by rw [Hg];exact h2)
  simpa using this
 .rename_i aV
  simp only [bS] at hr
  obtain ⟨vs,eo,rfl⟩:=hr
  obtain ⟨us,h1,h2⟩:=kJ _ vs eo
  refine ⟨.tuple us.toArray,?_,h1.fQ⟩
  have:=bV us h2
  rw [this]
  congr 1
  have hlen:us.length≠1:=by
   intro b8
   have hl:fn.results.toList.length=us.length:=by
    have e1:vs.length=us.length:=h1.1
    have e2:∀ (rs:List ResultVar) (vs:List ai),rs.mapM (nO T e h)=some vs->rs.length=vs.length:=by
     intro rs
     induction rs with
     |nil=>intro vs eo;simp at eo;subst eo;rfl
     |cons r rs ih =>
      intro vs eo
      rw [List.mapM_cons] at eo
      simp only [Option.bind_eq_bind,bB,Option.pure_def,de] at eo
      obtain ⟨v1,pY,ME,yq,rfl⟩:=eo
      simp [ih ME yq]
    rw [e2 _ _ eo,e1]
   rw [b8] at hl
   match hm:fn.results.toList,hl with
   | [r],_=>exact aV r hm
  rw [dif_neg (by simpa using hlen)]
end
end Go.Am
