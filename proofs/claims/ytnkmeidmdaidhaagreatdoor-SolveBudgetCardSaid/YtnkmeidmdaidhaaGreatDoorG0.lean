/- The plain machine: a deterministic evaluator of the model's code over a heap of its own. Definitions alone; no condition. -/
import GoSem.Step
import Derived.Calls
import Derived.Below
import Derived.Laws.AppendOwn
import Derived.Laws.MakeOwn
import Derived.Laws.CopyRow
import Derived.Deep.MidRow
import Derived.Lib.Space
import Derived.Laws.StructEq
import Derived.ChangeKeysEq
import Derived.RangeFuncRecord
import Derived.Laws.BytesArg
import Derived.Lib.ConvBytes
import Derived.CallsIn
import Derived.TacticsIn
import Derived.LoopNIn
import Derived.Scope
import Derived.RangeFuncLeaves
set_option linter.unusedSimpArgs false
namespace Go.Am
theorem EM:type_of% @Array.getElem?_eq_getElem:=@Array.getElem?_eq_getElem
theorem kX:type_of% @Array.getElem?_eq_some_iff:=@Array.getElem?_eq_some_iff
theorem uW:type_of% @Array.getElem?_push:=@Array.getElem?_push
theorem EC:type_of% @Array.getElem?_setIfInBounds_ne:=@Array.getElem?_setIfInBounds_ne
theorem ss:type_of% @Array.length_toList:=@Array.length_toList
theorem Ke:type_of% @Array.toList_inj:=@Array.toList_inj
theorem dj:type_of% @Bool.and_eq_true:=@Bool.and_eq_true
theorem gv:type_of% @Bool.and_self:=@Bool.and_self
theorem Dz:type_of% @Bool.and_true:=@Bool.and_true
theorem fF:type_of% @Bool.false_eq_true:=@Bool.false_eq_true
theorem DA:type_of% @Bool.false_or:=@Bool.false_or
theorem yx:type_of% @Bool.not_eq_true':=@Bool.not_eq_true'
theorem qH:type_of% @Bool.or_eq_true:=@Bool.or_eq_true
theorem wj:type_of% @Int.toNat_natCast:=@Int.toNat_natCast
theorem Dq:type_of% @List.all_append:=@List.all_append
theorem gA:type_of% @List.all_cons:=@List.all_cons
theorem gz:type_of% @List.all_eq_true:=@List.all_eq_true
theorem il:type_of% @List.all_nil:=@List.all_nil
theorem Kc:type_of% @List.any_eq_false:=@List.any_eq_false
theorem Dl:type_of% @List.any_eq_true:=@List.any_eq_true
theorem uX:type_of% @List.append_assoc:=@List.append_assoc
theorem bu:type_of% @List.append_nil:=@List.append_nil
theorem qG:type_of% @List.cons_append:=@List.cons_append
theorem Fb:type_of% @List.countP_cons:=@List.countP_cons
theorem yz:type_of% @List.drop_drop:=@List.drop_drop
theorem C8:type_of% @List.drop_of_length_le:=@List.drop_of_length_le
theorem JK:type_of% @List.eq_nil_of_length_eq_zero:=@List.eq_nil_of_length_eq_zero
theorem uY:type_of% @List.ext_getElem? := @List.ext_getElem?
theorem J3:type_of% @List.filter_append:=@List.filter_append
theorem Mx:type_of% @List.filter_eq_nil_iff:=@List.filter_eq_nil_iff
theorem E6:type_of% @List.flatMap_cons:=@List.flatMap_cons
theorem rL:type_of% @List.foldl_cons:=@List.foldl_cons
theorem lk:type_of% @List.getD_eq_getElem?_getD:=@List.getD_eq_getElem?_getD
theorem Dc:type_of% @List.getElem?_append:=@List.getElem?_append
theorem kY:type_of% @List.getElem?_append_left:=@List.getElem?_append_left
theorem n9:type_of% @List.getElem?_append_right:=@List.getElem?_append_right
theorem EO:type_of% @List.getElem?_cons_zero:=@List.getElem?_cons_zero
theorem ka:type_of% @List.getElem?_drop:=@List.getElem?_drop
theorem i4:type_of% @List.getElem?_eq_getElem:=@List.getElem?_eq_getElem
theorem ER:type_of% @List.getElem?_eq_none:=@List.getElem?_eq_none
theorem fD:type_of% @List.getElem?_eq_some_iff:=@List.getElem?_eq_some_iff
theorem jS:type_of% @List.getElem?_map:=@List.getElem?_map
theorem ES:type_of% @List.getElem?_modify:=@List.getElem?_modify
theorem Dd:type_of% @List.getElem?_of_mem:=@List.getElem?_of_mem
theorem J5:type_of% @List.getElem?_range:=@List.getElem?_range
theorem Fa:type_of% @List.getElem?_set:=@List.getElem?_set
theorem J4:type_of% @List.getElem?_set_ne:=@List.getElem?_set_ne
theorem qF:type_of% @List.getElem?_set_self:=@List.getElem?_set_self
theorem oG:type_of% @List.getElem?_take:=@List.getElem?_take
theorem C1:type_of% @List.getElem?_take_of_lt:=@List.getElem?_take_of_lt
theorem J6:type_of% @List.getElem_of_mem:=@List.getElem_of_mem
theorem dx:type_of% @List.length_append:=@List.length_append
theorem dB:type_of% @List.length_cons:=@List.length_cons
theorem oe:type_of% @List.length_drop:=@List.length_drop
theorem EP:type_of% @List.length_eq_zero_iff:=@List.length_eq_zero_iff
theorem fN:type_of% @List.length_map:=@List.length_map
theorem cW:type_of% @List.length_nil:=@List.length_nil
theorem Dk:type_of% @List.length_range:=@List.length_range
theorem ij:type_of% @List.length_set:=@List.length_set
theorem j9:type_of% @List.length_singleton:=@List.length_singleton
theorem hZ:type_of% @List.length_take:=@List.length_take
theorem rM:type_of% @List.map_append:=@List.map_append
theorem Dh:type_of% @List.map_congr_left:=@List.map_congr_left
theorem pR:type_of% @List.map_cons:=@List.map_cons
theorem ju:type_of% @List.mem_append:=@List.mem_append
theorem zBJ:type_of% @List.mem_append_right:=@List.mem_append_right
theorem dg:type_of% @List.mem_cons:=@List.mem_cons
theorem sn:type_of% @List.mem_cons_of_mem:=@List.mem_cons_of_mem
theorem pO:type_of% @List.mem_cons_self:=@List.mem_cons_self
theorem sx:type_of% @List.mem_map:=@List.mem_map
theorem fV:type_of% @List.mem_of_getElem? := @List.mem_of_getElem?
theorem EN:type_of% @List.mem_or_eq_of_mem_set:=@List.mem_or_eq_of_mem_set
theorem pQ:type_of% @List.mem_range:=@List.mem_range
theorem ek:type_of% @List.mem_singleton:=@List.mem_singleton
theorem yy:type_of% @List.nil_append:=@List.nil_append
theorem gS:type_of% @List.not_mem_nil:=@List.not_mem_nil
theorem wg:type_of% @List.pairwise_cons:=@List.pairwise_cons
theorem yo:type_of% @List.set_cons_succ:=@List.set_cons_succ
theorem eA:type_of% @List.set_cons_zero:=@List.set_cons_zero
theorem Ts:type_of% @List.takeWhile_append_dropWhile:=@List.takeWhile_append_dropWhile
theorem od:type_of% @List.take_add_one:=@List.take_add_one
theorem JV:type_of% @List.take_append_drop:=@List.take_append_drop
theorem iK:type_of% @List.take_of_length_le:=@List.take_of_length_le
theorem Ds:type_of% @List.take_zero:=@List.take_zero
theorem na:type_of% @Nat.add_assoc:=@Nat.add_assoc
theorem oH:type_of% @Nat.add_mul:=@Nat.add_mul
theorem zW:type_of% @Nat.add_sub_cancel:=@Nat.add_sub_cancel
theorem My:type_of% @Nat.add_sub_cancel_left:=@Nat.add_sub_cancel_left
theorem gw:type_of% @Nat.add_zero:=@Nat.add_zero
theorem Fc:type_of% @Nat.le_add_right:=@Nat.le_add_right
theorem Dr:type_of% @Nat.le_max_left:=@Nat.le_max_left
theorem Dm:type_of% @Nat.le_max_right:=@Nat.le_max_right
theorem sy:type_of% @Nat.le_of_eq:=@Nat.le_of_eq
theorem aS:type_of% @Nat.le_refl:=@Nat.le_refl
theorem mx:type_of% @Nat.le_succ:=@Nat.le_succ
theorem dZ:type_of% @Nat.le_trans:=@Nat.le_trans
theorem dU:type_of% @Nat.lt_of_lt_of_le:=@Nat.lt_of_lt_of_le
theorem ln:type_of% @Nat.lt_or_ge:=@Nat.lt_or_ge
theorem pP:type_of% @Nat.lt_succ_self:=@Nat.lt_succ_self
theorem Kd:type_of% @Nat.lt_trichotomy:=@Nat.lt_trichotomy
theorem wk:type_of% @Nat.min_le_left:=@Nat.min_le_left
theorem E4:type_of% @Nat.min_le_right:=@Nat.min_le_right
theorem Di:type_of% @Nat.mod_eq_of_lt:=@Nat.mod_eq_of_lt
theorem u6:type_of% @Nat.mul_comm:=@Nat.mul_comm
theorem uV:type_of% @Nat.mul_le_mul_right:=@Nat.mul_le_mul_right
theorem uZ:type_of% @Nat.not_lt_zero:=@Nat.not_lt_zero
theorem DB:type_of% @Nat.sub_self:=@Nat.sub_self
theorem yA:type_of% @Nat.succ_mul:=@Nat.succ_mul
theorem ia:type_of% @Nat.zero_add:=@Nat.zero_add
theorem jv:type_of% @Nat.zero_le:=@Nat.zero_le
theorem ck:type_of% @Option.bind_eq_some_iff:=@Option.bind_eq_some_iff
theorem dz:type_of% @Option.bind_some:=@Option.bind_some
theorem yw:type_of% @Option.getD_some:=@Option.getD_some
theorem zX:type_of% @Option.isSome_none:=@Option.isSome_none
theorem E0:type_of% @Option.isSome_some:=@Option.isSome_some
theorem bX:type_of% @Option.map_eq_some_iff:=@Option.map_eq_some_iff
theorem jT:type_of% @Option.map_some:=@Option.map_some
theorem dy:type_of% @Option.some.injEq:=@Option.some.injEq
theorem cx:type_of% @Prod.mk.injEq:=@Prod.mk.injEq
theorem su:type_of% @decide_eq_false:=@decide_eq_false
theorem wm:type_of% @decide_eq_true:=@decide_eq_true
theorem iC:type_of% @decide_eq_true_eq:=@decide_eq_true_eq
theorem aA:type_of% @if_neg:=@if_neg
theorem aG:type_of% @if_pos:=@if_pos

inductive bc where
 |row (cells:List Value) (elem:TypeId) (ro:Bool)
 |map (es:List MapEntry) (clock:Nat)
 |loop (env:List Value) (ps:List Tmp) (assign body:Code) (st:LoopState) (eF:Option Code)
 |dead

inductive Tr where
 |nil
 |node (v:Option bc) (l r:Tr)

def Tr.get:Tr->Nat->Option bc
 | .nil,_=>none
 | .node v l r,i=>match i with
  |0=>v
  |i+1=>if i % 2 == 0 then l.get (i / 2) else r.get (i / 2)

def Tr.set:Nat->Tr->Nat->bc->Tr
 |0,t,_,_=>t
 |n+1,t,i,o =>
  match t with
  | .nil=>match i with
   |0=>.node (some o) .nil .nil
   |i+1=>if i % 2 == 0 then .node none (Tr.set n .nil (i / 2) o) .nil else .node none .nil (Tr.set n .nil (i / 2) o)
  | .node v l r=>match i with
   |0=>.node (some o) l r
   |i+1=>if i % 2 == 0 then .node v (Tr.set n l (i / 2) o) r else .node v l (Tr.set n r (i / 2) o)

structure Heap where
 size:Nat
 tr:Tr
 low:Nat
abbrev aL:=Value->Heap->Prop
abbrev bf:=ByteArray
abbrev ai:=Value

def Heap.get (h:Heap) (A:Nat):Option bc:=if A < h.size then h.tr.get A else none
def Heap.push (h:Heap) (b:bc):Heap:={ h with size:=h.size+1,tr:=h.tr.set (h.size+1) h.size b }
def Heap.set (h:Heap) (A:Nat) (b:bc):Heap:={ h with tr:=h.tr.set (A+1) A b,low:=min h.low A }

def G:Nat:=18446744073709551616

abbrev Env:=List ai
def Env.get:Env->Nat->ai
 | [],_=>undef
 |v::_,0=>v
 |_::r,n+1=>Env.get r n
def Env.set:Env->Nat->ai->Env
 | [],_,_=>[]
 |_::r,0,v=>v::r
 |x::r,n+1,v=>x::Env.set r n v

def jP:ai->Bool
 | .bool _ | .int _ _ | .string _ | .nilFunc | .nilIface=>true
 | .pointer none | .map none=>true
 | .slice none n c=>n == 0 && c == 0
 | .func (.func _) f c=>f.isEmpty && c.isEmpty
 |_=>false
def plain:ai->Bool
 | .agg cs=>cs.toList.all jP
 |v=>jP v
def one:ai->Bool
 | .agg _ | .tuple _=>false
 |_=>true

def fc {Z:Type} (P:Program):Sem Z->Option Z
 | .pure a=>some a
 | .program k=>fc P (k P)
 | .mark _ k=>fc P k
 |_=>none

structure bx where
 desc:TypeId->Option TypeDesc
 info:TypeId->Option (Nat × Nat × List ai)
 fn:FuncId->Option Func
 cmp:TypeId->Bool
 zero:TypeId->Option ai
 gs:List Nat
 uq:TypeId->String->Option Method
 Gc:FuncId->Bool

section
variable (P:Program) (T:bx)

def de (t:TypeId):Option Nat:=(T.info t).map (·.1)
def cT (t:TypeId):Option Bool:=(T.desc t).map fun
 | .struct _ | .array _ _=>true
 |_=>false

def cut (cs:List ai) (o n:Nat):Option (List ai):=if o+n<=cs.length then some ((cs.drop o).take n) else none
def aJ (cs:List ai) (o:Nat) (vs:List ai):List ai:=cs.take o++vs++cs.drop (o+vs.length)

def kL (A o n:Nat) (h:Heap):Option (List ai) :=
 match h.get A with
 |some (.row cs _ _)=>cut cs o n
 |_=>none

def fU (t:TypeId) (x:ai) (h:Heap):Option ai :=
 match x with
 | .pointer (some ⟨A,o,none⟩) =>
  (cT T t).bind λg =>
   if g then (de T t).bind λn=>(kL A o n h).map λl=>.agg l.toArray
   else (kL A o 1 h).bind λl=>l[0]?
 |_=>none

def np (A o:Nat) (vs:List ai) (h:Heap):Option Heap :=
 match h.get A with
 |some (.row cs e false)=>if o+vs.length<=cs.length && vs.all one then some (h.set A (.row (aJ cs o vs) e false)) else none
 |_=>none

def gN (t:TypeId) (x v:ai) (h:Heap):Option Heap :=
 match x with
 | .pointer (some ⟨A,o,none⟩)=>(de T t).bind λn=>if v.cells.size=n then np A o v.cells.toList h else none
 |_=>none

def newRow (e:TypeId) (cs:List ai) (h:Heap):ai × Heap:=(.pointer (some ⟨h.size,0,none⟩),h.push (.row cs e false))

def pJ (x:ai) (k:Nat) (h:Heap):Option (List ai) :=
 match x with
 | .slice (some ⟨A,o,none⟩) n _=>if n*k=0 then some [] else kL A o (n*k) h
 | .slice none 0 _=>some []
 |_=>none

def gg (x:ai) (k:Nat) (h:Heap):Option (Nat × List ai) :=
 match x with
 | .string b=>if k=1 then some (b.size,b.data.toList.map λu=>Value.int .u8 u.toNat) else none
 | .slice _ m _=>(pJ x k h).map λl=>(m,l)
 |_=>none

def lh (t:TypeId) (s x:ai) (h:Heap):Option (ai × Heap) :=
 match T.desc t with
 |some (.slice e)=>(T.info e).bind λ(k,bytes,_) =>
  (gg x k h).bind λ(m,news) =>
  match s with
  | .slice base n c =>
   if m=0 then some (s,h) else
   if k=0 || (n+m)*bytes > 140737488355328 || n+m > 1152921504606846976 || !news.all one then none else
   if n+m<=c % G then
    match base with
    |some ⟨A,o,none⟩=>if c < G || c / G=k then (np A (o+n*k) news h).map λh'=>(.slice base (n+m) c,h') else none
    |_=>none
   else
    (pJ s k h).bind λeh =>
    if c < G then some (.slice (some ⟨h.size,0,none⟩) (n+m) (G*k+(n+m)),h.push (.row (eh++news) e false))
    else match base with
     |some ⟨A,_,none⟩=>match h.get A with
      |some (.row _ e' false) =>
       if e'=e && c / G=k then some (.slice (some ⟨h.size,0,none⟩) (n+m) (G*k+(n+m)),(h.set A .dead).push (.row (eh++news) e false)) else none
      |_=>none
     |_=>none
  |_=>none
 |_=>none

def uT (x:ai) (hi:Nat):Option Nat :=
 match x with
 | .int _ i=>if 0<=i/\i<=hi then some i.toNat else none
 |_=>none

def oC (len cap:Nat) (l h m:Option ai):Option (Nat × Nat × Nat) :=
 (match m with|some v=>uT v cap|none=>some cap).bind λm' =>
 (match h,m with|some v,_=>uT v m'|none,none=>some len|none,some _=>none).bind λh' =>
 (match l with|some v=>uT v h'|none=>some 0).bind λl'=>some (l',h',m')

def jQ (t:TypeId) (x:ai) (l h m:Option ai):Option ai :=
 match T.desc t,x with
 |some .string,.string s=>if m.isSome then none else (oC s.size s.size l h none).map λ(l',h',_)=>.string (s.extract l' h')
 |some (.array n e),.pointer (some ⟨A,o,none⟩) =>
  (if n < G then oC n n l h m else none).bind λ(l',h',m')=>(de T e).map λk=>.slice (some ⟨A,if m'=l' then o else o+l'*k,none⟩) (h' - l') (m' - l')
 |some (.slice e),.slice a n c =>
  (de T e).bind λk =>
  if c < G then
   (oC n c l h m).bind λ(l',h',m')=>match a with
    |some ⟨A,o,none⟩=>some (.slice (some ⟨A,if m'=l' then o else o+l'*k,none⟩) (h' - l') (m' - l'))
    |none=>some (.slice none (h' - l') (m' - l'))
    |_=>none
  else match a with
   |some ⟨A,o,none⟩ =>
    if c / G=k then
     (oC n (c % G) l h m).map λ(l',h',m')=>match m with
      |some _=>.slice (some ⟨A,if m'=l' then o else o+l'*k,none⟩) (h' - l') (m' - l')
      |none=>.slice (some ⟨A,o+l'*k,none⟩) (h' - l') (G*k+(m' - l'))
    else none
   |_=>none
 |_,_=>none

def jq (t:TypeId) (x i:ai):Option ai :=
 match i with
 | .int _ i=>match T.desc t,x with
  |some (.array n e),.pointer (some ⟨A,o,none⟩)=>if 0<=i/\i < n then (de T e).map λk=>.pointer (some ⟨A,o+i.toNat*k,none⟩) else none
  |some (.slice e),.slice (some ⟨A,o,none⟩) n _=>if 0<=i/\i < n then (de T e).map λk=>.pointer (some ⟨A,o+i.toNat*k,none⟩) else none
  |_,_=>none
 |_=>none

def kP (s:TypeId) (x:ai) (f:Nat):Option ai :=
 match T.desc s,x with
 |some (.struct fs),.pointer (some ⟨A,o,none⟩) =>
  (fs[f]?).bind λf=>(de T f.type).bind λn=>if n=0 then none else some (.pointer (some ⟨A,o+f.offset,none⟩))
 |_,_=>none

def yp (t:TypeId) (cs:List ai) (o:Nat):Option ai :=
 (cT T t).bind λg=>if g then (de T t).bind λn=>(cut cs o n).map λl=>.agg l.toArray else cs[o]?

def M5 (t:TypeId) (x:ai) (f:Nat):Option ai :=
 match T.desc t,x with
 |some (.struct fs),.agg cs=>(fs[f]?).bind λf=>yp T f.type cs.toList f.offset
 |_,_=>none

def yf (E:TypeId->ai->ai->Option Bool) (xs ys:List ai):List (TypeId × Nat)->Option Bool
 | []=>some true
 |(t,o)::r=>(yp T t xs o).bind λa=>(yp T t ys o).bind λb=>(E t a b).bind λc=>if c then yf E xs ys r else some false
def Eb:List Field->Option (List (TypeId × Nat))
 | []=>some []
 |f::fs=>if f.name="_" then none else (Eb fs).map λr=>(f.type,f.offset)::r
def En (e:TypeId) (k:Nat):Nat->Nat->List (TypeId × Nat)
 |0,_=>[]
 |n+1,i=>(e,i*k)::En e k n (i+1)
def cV:Nat->TypeId->ai->ai->Option Bool
 |0,_,_,_=>none
 |d+1,t,x,y=>match T.desc t,x,y with
  |some .bool,.bool a,.bool b=>some (a == b)
  |some (.int _),.int k a,.int k' b=>if k=k' then some (a == b) else none
  |some .string,.string a,.string b=>some (a.data.toList == b.data.toList)
  |some (.struct fs),.agg xs,.agg ys=>if T.cmp t then (Eb fs.toList).bind λps=>yf T (cV d) xs.toList ys.toList ps else none
  |some (.array n e),.agg xs,.agg ys=>(de T e).bind λk=>yf T (cV d) xs.toList ys.toList (En e k n 0)
  |_,_,_=>none

def n8 (place:Nat->Option (Nat × Nat)) (cells:List ai):List (Nat × ai)->Option (List ai)
 | []=>some cells
 |(i,v)::rest=>(place i).bind λ(o,n) =>
  if v.cells.size=n/\o+n<=cells.length then n8 place (aJ cells o v.cells.toList) rest else none

def JZ:List Field->Option (List (Nat × Nat))
 | []=>some []
 |f::fs=>(de T f.type).bind λn=>(JZ fs).map λr=>(f.offset,n)::r

def mu (t:TypeId) (parts:List (Nat × ai)):Option ai :=
 (T.info t).bind λ(_,_,z) =>
 match T.desc t with
 |some (.struct fs)=>(JZ T fs.toList).bind λplaces=>(n8 (λk=>places[k]?) z parts).map λcs=>.agg cs.toArray
 |some (.array _ e)=>(de T e).bind λk=>(n8 (λi=>some (i*k,k)) z parts).map λcs=>.agg cs.toArray
 |_=>none

def lO (z:List ai) (n:Nat):List ai:=(List.replicate n z).flatten

def uE (t:TypeId) (len:Nat) (parts:List (Nat × ai)) (h:Heap):Option (ai × Heap) :=
 match T.desc t with
 |some (.slice e)=>(T.info e).bind λ(k,_,z) =>
  if len*k > 16777216 || len > 16777216 then none else
  (n8 (λi=>some (i*k,k)) (lO z len) parts).map λcs=>(.slice (some ⟨h.size,0,none⟩) len len,h.push (.row cs e false))
 |_=>none

def Jq (t:TypeId) (l c:ai) (h:Heap):Option (ai × Heap) :=
 match T.desc t,l,c with
 |some (.slice e),.int _ l,.int _ c=>(T.info e).bind λ(_,bytes,z) =>
  if 0<=l/\l<=c/\c<=1152921504606846976/\c*bytes<=140737488355328 then
   some (.slice (some ⟨h.size,0,none⟩) l.toNat c.toNat,h.push (.row (lO z c.toNat) e false))
  else none
 |_,_,_=>none

def Kv (t:TypeId) (d s:ai) (h:Heap):Option (ai × Heap) :=
 match T.desc t,d with
 |some (.slice e),.slice a n _=>(de T e).bind λk =>
  (gg s k h).bind λ(m,src) =>
  if min m n=0 then some (.int .i64 0,h) else
  match a with
  |some ⟨A,o,none⟩=>(np A o (src.take (min m n*k)) h).map λh'=>(.int .i64 (min m n:Nat),h')
  |_=>none
 |_,_=>none

def r8 (t:TypeId) (x:ai) (h:Heap):Option Heap :=
 match T.desc t,x with
 |some (.slice e),.slice a n _ =>
  if n=0 then some h else
  (T.info e).bind λ(_,_,z) =>
  match a with
  |some ⟨A,o,none⟩=>np A o (lO z n) h
  |_=>none
 |_,_=>none

def Ad (d:TypeDesc) (x y:ai):Option Bool :=
 match d,x,y with
 | .pointer _,.pointer none,.pointer b=>some b.isNone
 | .pointer _,.pointer (some _),.pointer none=>some false
 | .slice _,.slice none _ _,.slice b _ _=>some b.isNone
 | .slice _,.slice (some _) _ _,.slice none _ _=>some false
 | .map _ _,.map none,.map b=>some b.isNone
 | .map _ _,.map (some _),.map none=>some false
 | .func _ _ _,.nilFunc,.nilFunc=>some true
 | .func _ _ _,.nilFunc,.func _ _ _=>some false
 | .func _ _ _,.func _ _ _,.nilFunc=>some false
 |_,_,_=>none

def oB (op:BinOp) (x y:ai):Option ai :=
 match op,x,y with
 | .add,.int k a,.int k' b=>if k=k' then some (.int k (k.wrap (a+b))) else none
 | .sub,.int k a,.int k' b=>if k=k' then some (.int k (k.wrap (a - b))) else none
 | .eql,.int k a,.int k' b=>if k=k' then some (.bool (a == b)) else none
 | .neq,.int k a,.int k' b=>if k=k' then some (.bool (a != b)) else none
 | .lss,.int k a,.int k' b=>if k=k' then some (.bool (a < b)) else none
 | .leq,.int k a,.int k' b=>if k=k' then some (.bool (a<=b)) else none
 | .gtr,.int k a,.int k' b=>if k=k' then some (.bool (a > b)) else none
 | .geq,.int k a,.int k' b=>if k=k' then some (.bool (a >= b)) else none
 |_,_,_=>none

def bZ (op:BinOp) (t:TypeId) (x y:ai):Option ai :=
 match oB op x y with
 |some v=>some v
 |none =>
  match (T.desc t).bind λd=>Ad d x y with
  |some b=>(match op with | .eql=>some (.bool b) | .neq=>some (.bool !b)|_=>none)
  |none =>
   if plain x && plain y then
    match x,y with
    | .nilIface,_=>none
    | .agg _,.agg _=>if T.cmp t then (match op with
     | .eql=>(cV T 20 t x y).map λb=>.bool b
     | .neq=>(cV T 20 t x y).map λb=>.bool !b
     |_=>none) else none
    |_,_=>(fc P (binOp op t x y)).bind λv=>if plain v then some v else none
   else none

def bP (t:TypeId) (x:ai) (h:Heap):Option ai :=
 match T.desc t,x with
 |some .string,.string s=>some (.int .i64 s.size)
 |some (.slice _),.slice _ n _=>some (.int .i64 n)
 |some (.map _ _),.map none=>some (.int .i64 0)
 |some (.map _ _),.map (some A)=>(match h.get A with
  |some (.map es _)=>some (.int .i64 es.length)
  |_=>none)
 |_,_=>none

def yq:ai->ai->Bool
 | .bool a,.bool b=>a == b
 | .int j a,.int k b=>decide (j=k) && a == b
 | .string a,.string b=>a.data.toList == b.data.toList
 |_,_=>false
def ED:List ai->List ai->Bool
 | [],[]=>true
 |x::xs,y::ys=>yq x y && ED xs ys
 |_,_=>false
def zL:ai->ai->Bool
 | .agg a,.agg b=>ED a.toList b.toList
 |x,y=>yq x y
def pL (kt:TypeId) (k:ai):Bool:=if plain k then (match cV T 20 kt k k with|some b=>b|none=>false) else false
def j6 (kt:TypeId) (k:ai):List MapEntry->Nat->Option (Option (Nat × ai))
 | [],_=>some none
 |e::es,i=>(cV T 20 kt k e.key).bind λb=>if b then some (some (i,e.val)) else j6 kt k es (i+1)
def Du (x:ai) (h:Heap):Option (List MapEntry) :=
 match x with
 | .map none=>some []
 | .map (some A)=>(match h.get A with|some (.map es _)=>some es|_=>none)
 |_=>none
def rZ (t:TypeId) (x k:ai) (ok:Bool) (h:Heap):Option ai :=
 match T.desc t with
 |some (.map kt et) =>
  if pL T kt k then
   (Du x h).bind λes=>(j6 T kt k es 0).bind λr=>(match r with
    |some (_,v)=>some (v,true)
    |none=>(T.zero et).map λz=>(z,false)).map λ(v,b)=>if ok then .tuple #[v,.bool b] else v
  else none
 |_=>none
def mr (t:TypeId) (x k v:ai) (h:Heap):Option Heap :=
 match T.desc t,x with
 |some (.map kt _),.map (some A)=>(match h.get A with
  |some (.map es clock) =>
   if pL T kt k then
    (j6 T kt k es 0).bind λr=>match r with
     |some (i,_)=>(es[i]?).bind λe=>if zL e.key k then some (h.set A (.map (es.modify i λe=>{ e with key:=k,val:=v }) clock)) else none
     |none=>some (h.set A (.map (es++[{ key:=k,val:=v,born:=clock }]) (clock+1)))
   else none
  |_=>none)
 |_,_=>none

def br (e:Env):Operand->ai
 | .tmp t=>e.get t
 | .const v=>v
 | .global g=>.pointer (some ⟨g,0,none⟩)
 | .func f=>.func (.func f) #[] #[]

def JO (t:TypeId) (x k:ai) (h:Heap):Option Heap :=
 match T.desc t,x with
 |some (.map kt _),.map none=>if pL T kt k then some h else none
 |some (.map kt _),.map (some A)=>(match h.get A with
  |some (.map es clock) =>
   if pL T kt k then
    (j6 T kt k es 0).bind λr=>match r with
     |some (i,_)=>some (h.set A (.map (es.eraseIdx i) clock))
     |none=>some (h.set A (.map es clock))
   else none
  |_=>none)
 |_,_=>none

def Ki (t:TypeId) (x k:ai) (h:Heap):Option (ai × Heap) :=
 match T.desc t,x with
 |some (.map kt et),.map (some A)=>(match h.get A with
  |some (.map es clock) =>
   if pL T kt k then
    (j6 T kt k es 0).bind λr=>match r with
     |some (i,v)=>(es[i]?).bind λe=>if zL e.key k then some (.tuple #[v,.int .i64 e.born],h.set A (.map (es.modify i λe=>{ e with key:=k }) clock)) else none
     |none=>(T.zero et).map λz=>(.tuple #[z,.int .i64 clock],h.set A (.map (es++[{ key:=k,val:=z,born:=clock }]) (clock+1)))
   else none
  |_=>none)
 |_,_=>none
def M0 (s:Int):List MapEntry->Nat->Option Nat
 | [],_=>none
 |e::es,i=>if (e.born:Int)=s then some i else M0 s es (i+1)
def Jt (x s v:ai) (h:Heap):Option Heap :=
 match x,s with
 | .map (some A),.int _ b=>(match h.get A with
  |some (.map es clock)=>(M0 b es 0).map λi=>h.set A (.map (es.modify i λe=>{ e with val:=v }) clock)
  |_=>none)
 |_,_=>none

def U0 (t:TypeId) (x:ai):Option ai:=match T.desc t with
 |some (.interface _)=>none
 |some _=>some (.iface t x)
 |none=>none
def Uu (x:ai) (asserted:TypeId) (ok:Bool):Option ai:=match T.desc asserted with
 |some (.interface _)=>none
 |some _=>(match x with
  | .iface t v=>if t=asserted then some (if ok then .tuple #[v,.bool true] else v) else if ok then (T.zero asserted).map λz=>.tuple #[z,.bool false] else none
  | .nilIface=>if ok then (T.zero asserted).map λz=>.tuple #[z,.bool false] else none
  |_=>none)
 |none=>none
inductive eT where
 |val (v:ai)
 |var (p:ai)
def eT.get (t:TypeId) (h:Heap):eT->Option ai
 | .val v=>some v
 | .var p=>fU T t p h
def EJ (h:Heap):List FieldStep->TypeId->eT->Option (TypeId × eT)
 | [],t,x=>some (t,x)
 |s::rest,t,x=>match T.desc s.struct with
  |some (.struct fs)=>(fs[s.index]?).bind λf =>
   if s.deref then (x.get T t h).bind λp=>(kP T s.struct p s.index).bind λq=>EJ h rest f.type (.var q)
   else match x with
    | .var p=>(kP T s.struct p s.index).bind λq=>EJ h rest f.type (.var q)
    | .val (.agg cs)=>(yp T f.type cs.toList f.offset).bind λv=>EJ h rest f.type (.val v)
    |_=>none
  |_=>none
def TT (xt:TypeId) (x:eT) (ptr:Bool) (h:Heap):Option ai :=
 match T.desc xt,ptr,x with
 |some (.pointer _),true,x=>x.get T xt h
 |some (.pointer elem),false,x=>(x.get T xt h).bind λp=>fU T elem p h
 |some _,true,.var p=>(match p with | .pointer (some a)=>some (.pointer (some a))|_=>none)
 |some _,false,x=>x.get T xt h
 |_,_,_=>none
def MP (t:TypeId) (v:ai) (name:String) (h:Heap):Option (FuncId × ai) :=
 (T.uq t name).bind λm=>(EJ T h m.path.toList t (.val v)).bind λ(xt,x)=>match m.func with
  |some (f,ptr)=>(TT T xt x ptr h).map λr=>(f,r)
  |none=>none

def J7:List ai->Option (List UInt8)
 | []=>some []
 | .int .u8 n::l=>(J7 l).map (UInt8.ofNat n.toNat::·)
 |_=>none
def MC (s d:TypeId) (x:ai) (h:Heap):Option ai :=
 match T.desc s,T.desc d,x with
 |some (.slice e),some .string,.slice _ _ _=>(match T.desc e with
  |some (.int .u8)=>(pJ x 1 h).bind λl=>(J7 l).map λbs=>.string ⟨bs.toArray⟩
  |_=>none)
 |_,_,_=>none
def EA (d:TypeId) (x:ai) (h:Heap):Option (ai × Heap) :=
 match T.desc d,x with
 |some (.slice e),.string b=>(match T.desc e,T.info e with
  |some (.int .u8),some (1,_,_)=>if b.size > 1152921504606846976\/e≠5 then none else some (.slice (some ⟨h.size,0,none⟩) b.size (G*1+b.size),h.push (.row (b.data.toList.map λu=>Value.int .u8 u.toNat) e false))
  |_,_=>none)
 |_,_=>none
def MI (t:TypeId):Bool:=match T.desc t with
 |some .string=>true
 |_=>false
def qv (t:TypeId):Bool:=match T.desc t with
 |some (.slice _)=>true
 |_=>false
def AJ (t:TypeId) (x:ai):Option ai :=
 match T.desc t,x with
 |some (.slice _),.slice _ _ c=>if c < G then some (.int .i64 c) else none
 |_,_=>none

def fB (e:Env) (o:Oper) (h:Heap):Option (ai × Heap) :=
 if o.op.operands.toList.all λx=>plain (br e x) then
  match fc P (execOp (br e) o) with
  |some (.value v)=>if plain v then some (v,h) else none
  |_=>none
 else none

def rH (t u:TypeId):Bool:=u == t || (match T.desc u with|some .string|some (.slice _)=>true|_=>false)

variable (C:Fn->List ai->Heap->Option (ai × Heap))

def gq (e:Env) (o:Oper) (h:Heap):Option (ai × Heap) :=
 let v:=br e
 match o.op with
 | .move x=>some (v x,h)
 | .assign x=>some (v x,h)
 | .pick c a b=>match v c with | .bool t=>some (if t then v a else v b,h)|_=>none
 | .alloc t=>(T.info t).map λ(_,_,z)=>newRow t z h
 | .box t x=>some (newRow t (v x).cells.toList h)
 | .build t ps=>(mu T t (ps.toList.map λ(i,x)=>(i,v x))).map λr=>(r,h)
 | .buildSlice t n ps=>uE T t n (ps.toList.map λ(i,x)=>(i,v x)) h
 | .load t a=>(fU T t (v a) h).map λr=>(r,h)
 | .store t a x=>(gN T t (v a) (v x) h).map λh'=>(undef,h')
 | .nilCheck x=>match v x with
  | .pointer (some a)=>some (.pointer (some a),h)
  | .func (.func f) a b=>some (.func (.func f) a b,h)
  | .iface t a=>some (.iface t a,h)
  |_=>none
 | .binOp op t x y _=>(bZ P T op t (v x) (v y)).map λr=>(r,h)
 | .makeFunc fn first captured=>match fn with | .func f=>some (.func (.func f) (first.map v) (captured.map v),h)|_=>none
 | .makeSlice t l c=>Jq T t (v l) (v c) h
 | .slice t x l hi m=>(jQ T t (v x) (l.map v) (hi.map v) (m.map v)).map λr=>(r,h)
 | .fieldAddr s x f=>(kP T s (v x) f).map λr=>(r,h)
 | .field t x f=>(M5 T t (v x) f).map λr=>(r,h)
 | .indexAddr t x i=>(jq T t (v x) (v i)).map λr=>(r,h)
 | .extract t i=>match v t with | .tuple vs=>(vs[i]?).map λr=>(r,h)|_=>none
 | .unOp _ _ _=>fB P e o h
 | .convert s d x=>if qv T s then (MC T s d (v x) h).map λr=>(r,h) else if qv T d then (if MI T s then EA T d (v x) h else none) else fB P e o h
 | .index _ _ _=>fB P e o h
 | .call c=>match c.callee with
  | .builtin .append=>match c.argTypes.toList,c.args.toList with
   | [t,u],[s,x]=>if rH T t u then lh T t (v s) (v x) h else none
   |_,_=>none
  | .builtin .copy=>match c.argTypes.toList,c.args.toList with
   | [t,_],[d,s]=>Kv T t (v d) (v s) h
   |_,_=>none
  | .builtin .clear=>match c.argTypes.toList,c.args.toList with
   | [t],[x]=>(r8 T t (v x) h).map λh'=>(undef,h')
   |_,_=>none
  | .builtin .len=>match c.argTypes.toList,c.args.toList with
   |t::_,[x]=>(bP T t (v x) h).map λr=>(r,h)
   |_,_=>none
  | .builtin .min=>fB P e o h
  | .builtin .max=>fB P e o h
  | .builtin .delete=>match c.argTypes.toList,c.args.toList with
   |t::_,[m,k]=>(JO T t (v m) (v k) h).map λh'=>(undef,h')
   |_,_=>none
  | .builtin .cap=>match c.argTypes.toList,c.args.toList with
   |t::_,[x]=>(AJ T t (v x)).map λr=>(r,h)
   |_,_=>none
  | .invoke r name=>match v r with
   | .iface t x=>(MP T t x name h).bind λ(f,y)=>C (.func f) (y::c.args.toList.map v) h
   |_=>none
  | .value f=>match v f with
   | .func (.func f) first captured=>C (.func f) (first.toList++c.args.toList.map v++captured.toList) h
   | .func (.yield A) first captured=>if first.isEmpty && captured.isEmpty then C (.yield A) (c.args.toList.map v) h else none
   |_=>none
  |_=>none
 | .makeMap t r=>match r with
  |none=>some (.map (some h.size),h.push (.map [] 0))
  |some x=>(match T.desc t,v x with
   |some (.map _ _),.int _ _=>some (.map (some h.size),h.push (.map [] 0))
   |_,_=>none)
 | .lookup t x k ok=>(rZ T t (v x) (v k) ok h).map λr=>(r,h)
 | .mapUpdate t m k x=>(mr T t (v m) (v k) (v x) h).map λh'=>(undef,h')
 | .insert t m k x=>(mr T t (v m) (v k) (v x) h).map λh'=>(undef,h')
 | .mapEntry t m k=>Ki T t (v m) (v k) h
 | .entryStore _ m s x=>(Jt (v m) (v s) (v x) h).map λh'=>(undef,h')
 | .makeInterface t x=>(U0 T t (v x)).map λr=>(r,h)
 | .typeAssert x _ t ok=>(Uu T (v x) t ok).map λr=>(r,h)
 |_=>none

def kU (ops:Array Oper) (o:Oper) (e:Env):Bool :=
 match o.guard with
 |none=>true
 |some (j,b)=>match (ops[j]?).bind (·.dst) with
  |some t=>(match e.get t with | .bool c=>c == b|_=>false)
  |none=>false

def put (e:Env) (d:Option Tmp) (v:ai):Env:=match d with
 |some d=>e.set d v
 |none=>e

def pF (ops:Array Oper):List Oper->Env->Heap->Option (Env × Heap)
 | [],e,h=>some (e,h)
 |o::rest,e,h =>
  if kU ops o e then
   match gq P T C e o h with
   |some (v,h')=>pF ops rest (put e o.dst v) h'
   |none=>none
  else pF ops rest (put e o.dst undef) h

inductive Ex where
 |normal
 |exit (id:Nat)
 |ret

def iter (f:Env->Heap->Option (Ex × Env × Heap)):Nat->Env->Heap->Option (Ex × Env × Heap)
 |0,_,_=>none
 |n+1,e,h=>match f e h with
  |some (.normal,e',h')=>iter f n e' h'
  |r=>r

variable (D:Array Oper->Env->Heap->Option (Env × Heap))

def Uj (rd:Option Nat) (h:Heap):Bool:=match rd with
 |none=>true
 |some A=>(match h.get A with|some (.loop ..)=>true|_=>false)
def Ej (l:Nat) (e:Env) (h:Heap):Option (Ex × Env × Heap) :=
 match h.get l with
 |some (.loop env ps assign body st eF)=>(match st with
  | .busy=>none
  |_=>(match eF with
   |none=>some (.normal,e,h.set l (.loop env ps assign body .exhausted eF))
   |some (.exit id)=>some (.exit id,e,h.set l (.loop env ps assign body .exhausted eF))
   |some .ret=>some (.ret,e,h.set l (.loop env ps assign body .exhausted eF))
   |_=>none))
 |_=>none
def UL (f:FuncId):Bool:=match T.fn f with
 |some fn=>(match fn.body with|some _=>true|none=>false)
 |none=>false
def EX (rd:Option Nat) (g:ai) (ps:List Tmp) (assign body:Code) (e:Env) (h:Heap):Option (Ex × Env × Heap) :=
 match g with
 | .func (.func f) first captured =>
  if Uj rd h && UL T f then
   match C (.func f) (first.toList++[.func (.yield h.size) #[] #[]]++captured.toList) (h.push (.loop e ps assign body .ready none)) with
   |some (_,h2)=>Ej h.size e h2
   |none=>none
  else none
 |_=>none

def du (rd:Option Nat) (fuel:Nat):Code->Env->Heap->Option (Ex × Env × Heap)
 | .skip,e,h=>some (.normal,e,h)
 | .region _ ops d,e,h=>(if d then D ops e h else pF P T C ops ops.toList e h).map λ(e',h')=>(.normal,e',h')
 | .seq a b,e,h=>match du rd fuel a e h with
  |some (.normal,e',h')=>du rd fuel b e' h'
  |r=>r
 | .cond c a b,e,h=>match br e c with
  | .bool true=>du rd fuel a e h
  | .bool false=>du rd fuel b e h
  |_=>none
 | .block id c,e,h=>match du rd fuel c e h with
  |some (.exit i,e',h')=>if i=id then some (.normal,e',h') else some (.exit i,e',h')
  |r=>r
 | .loop c,e,h=>iter (du rd fuel c) fuel e h
 | .scope c,e,h=>du rd fuel c e h
 | .rangeFunc g ps assign body,e,h=>EX T C rd (br e g) ps.toList assign body e h
 | .exit id,e,h=>some (.exit id,e,h)
 | .ret,e,h=>some (.ret,e,h)
 | .label _,e,h=>some (.normal,e,h)
 |_,_,_=>none

def rG (e:Env) (h:Heap):ResultVar->Option ai
 | .tmp t=>some (e.get t)
 | .cell a t=>fU T t (e.get a) h

def lL (fn:Func) (e:Env) (h:Heap):Option ai :=
 match fn.results.toList with
 | [r]=>rG T e h r
 |rs=>(rs.mapM (rG T e h)).map λvs=>.tuple vs.toArray
end

def JD (gs:List Nat):Operand->Bool
 | .const v=>plain v
 | .global g=>gs.contains g
 |_=>true
def H9 (gs:List Nat) (o:Oper):Bool:=o.op.operands.toList.all (JD gs)
def oE (gs:List Nat):Code->Bool
 | .region _ ops _=>ops.toList.all (H9 gs)
 | .seq a b=>oE gs a && oE gs b
 | .cond c a b=>JD gs c && oE gs a && oE gs b
 | .block _ c=>oE gs c
 | .loop c=>oE gs c
 | .scope c=>oE gs c
 | .rangeFunc g _ a b=>JD gs g && oE gs a && oE gs b
 |_=>true
end Go.Am
namespace Go.Am
open Go.RowKit
variable {h:Heap} {u v x:ai} {l m:List ai} {w:World}

theorem Tr.get_nil (i:Nat):Tr.get .nil i=none:=by cases i <;> rfl

theorem Tr.aM:∀ (n:Nat) (t:Tr) (i j:Nat) (o:bc),i < n->(Tr.set n t i o).get j=if j=i then some o else t.get j
 |0,_,_,_,_,h=>by omega
 |n+1,t,i,j,o,h=>by
  cases t with
  |nil =>
   cases i with
   |zero=>cases j with
    |zero=>simp [Tr.set,Tr.get]
    |succ j=>simp [Tr.set,Tr.get]
   |succ i =>
    have hi:i / 2 < n:=by omega
    by_cases he:i % 2=0
    .cases j with
     |zero=>simp [Tr.set,Tr.get,he]
     |succ j =>
      by_cases hj:j % 2=0
      .simp only [Tr.set,Tr.get,he,hj,beq_self_eq_true,if_true,Tr.aM n .nil (i / 2) (j / 2) o hi]
       by_cases e:j=i
       .subst e;simp
       .rw [aA (by omega),aA (by omega)]
      .have xa:(j % 2 == 0)=false:=by simpa using hj
       simp only [Tr.set,Tr.get,he,xa,beq_self_eq_true,if_true,fF,if_false]
       rw [aA (by intro e;apply hj;have:j=i:=by omega
                  subst this;exact he)]
    .have wS:(i % 2 == 0)=false:=by simpa using he
     cases j with
     |zero=>simp [Tr.set,Tr.get,wS]
     |succ j =>
      by_cases hj:j % 2=0
      .simp only [Tr.set,Tr.get,wS,hj,beq_self_eq_true,if_true,fF,if_false]
       rw [aA (by intro e;apply he;have:j=i:=by omega
                  subst this;exact hj)]
      .have xa:(j % 2 == 0)=false:=by simpa using hj
       simp only [Tr.set,Tr.get,wS,xa,fF,if_false,Tr.aM n .nil (i / 2) (j / 2) o hi]
       by_cases e:j=i
       .subst e;simp
       .rw [aA (by omega),aA (by omega)]
  |node v l r =>
   cases i with
   |zero=>cases j with
    |zero=>simp [Tr.set,Tr.get]
    |succ j=>simp [Tr.set,Tr.get]
   |succ i =>
    have hi:i / 2 < n:=by omega
    by_cases he:i % 2=0
    .cases j with
     |zero=>simp [Tr.set,Tr.get,he]
     |succ j =>
      by_cases hj:j % 2=0
      .simp only [Tr.set,Tr.get,he,hj,beq_self_eq_true,if_true,Tr.aM n l (i / 2) (j / 2) o hi]
       by_cases e:j=i
       .subst e;simp
       .rw [aA (by omega),aA (by omega)]
      .have xa:(j % 2 == 0)=false:=by simpa using hj
       simp only [Tr.set,Tr.get,he,xa,beq_self_eq_true,if_true,fF,if_false]
       rw [aA (by intro e;apply hj;have:j=i:=by omega
                  subst this;exact he)]
    .have wS:(i % 2 == 0)=false:=by simpa using he
     cases j with
     |zero=>simp [Tr.set,Tr.get,wS]
     |succ j =>
      by_cases hj:j % 2=0
      .simp only [Tr.set,Tr.get,wS,hj,beq_self_eq_true,if_true,fF,if_false]
       rw [aA (by intro e;apply he;have:j=i:=by omega
                  subst this;exact hj)]
      .have xa:(j % 2 == 0)=false:=by simpa using hj
       simp only [Tr.set,Tr.get,wS,xa,fF,if_false,Tr.aM n r (i / 2) (j / 2) o hi]
       by_cases e:j=i
       .subst e;simp
       .rw [aA (by omega),aA (by omega)]

theorem Heap.size_push (h:Heap) (b:bc):(h.push b).size=h.size+1:=rfl
theorem Heap.size_set (h:Heap) (A:Nat) (b:bc):(h.set A b).size=h.size:=rfl
theorem Heap.fw (h:Heap) (b:bc):(h.push b).low=h.low:=rfl
theorem Heap.cC (h:Heap) (A:Nat) (b:bc):(h.set A b).low=min h.low A:=rfl
theorem Heap.bS (h:Heap) (b:bc) (j:Nat):(h.push b).get j=if j=h.size then some b else h.get j:=by
 simp only [Heap.get,Heap.push,Tr.aM _ _ _ _ _ (pP _)]
 by_cases e:j=h.size
 .subst e;simp
 .by_cases hl:j < h.size
  .rw [aG (by omega),aA e,aG hl,aA e]
  .rw [aA (by omega),aA e,aA hl]
theorem Heap.aM (h:Heap) (A:Nat) (b:bc) (j:Nat) (hA:A < h.size):(h.set A b).get j=if j=A then some b else h.get j:=by
 simp only [Heap.get,Heap.set,Tr.aM _ _ _ _ _ (pP _)]
 by_cases e:j=A
 .subst e;simp [hA]
 .by_cases hl:j < h.size
  .rw [aG hl,aA e,aG hl,aA e]
  .rw [aA hl,aA e,aA hl]
theorem Heap.au {A:Nat} {b:bc} (hb:h.get A=some b):A < h.size:=by
 unfold Heap.get at hb
 split at hb
 .assumption
 .cases hb

theorem Env.length_set:∀ (e:Env) (i:Nat) (v:ai),(Env.set e i v).length=e.length
 | [],_,_=>rfl
 |_::_,0,_=>rfl
 |x::r,n+1,v=>by simp [Env.set,Env.length_set r n v]
theorem Env.aM:∀ (e:Env) (i j:Nat) (v:ai),(Env.set e i v).get j=if j=i/\i < e.length then v else e.get j
 | [],_,_,_=>by simp [Env.set,Env.get]
 |x::r,0,j,v=>by cases j <;> simp [Env.set,Env.get]
 |x::r,i+1,j,v=>by
  cases j with
  |zero=>simp [Env.set,Env.get]
  |succ j=>simp [Env.set,Env.get,Env.aM r i j v]
theorem Env.lR:∀ (e:Env) (i:Nat),e.length<=i->e.get i=undef
 | [],_,_=>by simp [Env.get]
 |_::r,i+1,h=>by simp only [Env.get];exact Env.lR r i (by simpa using h)
 |_::_,0,h=>by simp at h
theorem Env.get_eq:∀ (e:Env) (i:Nat),e.get i=(e[i]?).getD undef
 | [],_=>by simp [Env.get]
 |_::_,0=>by simp [Env.get]
 |_::r,i+1=>by simp [Env.get,Env.get_eq r i]

structure Loc where
 b:Nat
 s:Nat
 xM:Nat

abbrev cf:=Nat->Option Loc

inductive VR (ρ:cf):ai->ai->Prop where
 |bool (b:Bool):VR ρ (.bool b) (.bool b)
 |int (k:IntKind) (n:Int):VR ρ (.int k n) (.int k n)
 |string (s:bf):VR ρ (.string s) (.string s)
 |mZ:VR ρ (.pointer none) (.pointer none)
 |ptr {A o:Nat} {L:Loc} (h:ρ A=some L):VR ρ (.pointer (some ⟨A,o,none⟩)) (.pointer (some ⟨L.b,L.s+o,none⟩))
 |dc:VR ρ (.slice none 0 0) (.slice none 0 0)
 |slice {A o n c:Nat} {L:Loc} {ad:Addr} (h:ρ A=some L) (hc:c < G) (hn:n<=c) (eK:c≠0->ad=⟨L.b,L.s+o,none⟩):VR ρ (.slice (some ⟨A,o,none⟩) n c) (.slice (some ad) n c)
 |cG {A o n c c':Nat} {L:Loc} {ad:Addr} (h:ρ A=some L) (hc:G<=c) (fm:c % G<=c') (hn:n<=c % G) (hk:0 < c / G)
  (hm:c'<=maxLen) (eK:c'≠0->ad=⟨L.b,L.s+o,none⟩/\L.s+o+c'*(c / G)<=L.xM):VR ρ (.slice (some ⟨A,o,none⟩) n c) (.slice (some ad) n c')
 |mX:VR ρ (.map none) (.map none)
 |nilFunc:VR ρ .nilFunc .nilFunc
 |map {A:Nat} {L:Loc} (h:ρ A=some L):VR ρ (.map (some A)) (.map (some L.b))
 |yield {A:Nat} {L:Loc} (h:ρ A=some L):VR ρ (.func (.yield A) #[] #[]) (.func (.yield L.b) #[] #[])
 |func (fn:FuncId) {f g c d:Array ai} (hf:f.size=g.size) (hc:c.size=d.size) (h1:∀ (i:Nat) (x y:ai),f[i]? = some x->g[i]? = some y->VR ρ x y)
  (h2:∀ (i:Nat) (x y:ai),c[i]? = some x->d[i]? = some y->VR ρ x y):VR ρ (.func (.func fn) f c) (.func (.func fn) g d)
 |nilIface:VR ρ .nilIface .nilIface
 |iface (t:TypeId) {x y:ai} (h:VR ρ x y):VR ρ (.iface t x) (.iface t y)
 |agg {c d:Array ai} (hc:c.size=d.size) (h:∀ (i:Nat) (x y:ai),c[i]? = some x->d[i]? = some y->VR ρ x y):VR ρ (.agg c) (.agg d)
 |tuple {c d:Array ai} (hc:c.size=d.size) (h:∀ (i:Nat) (x y:ai),c[i]? = some x->d[i]? = some y->VR ρ x y):VR ρ (.tuple c) (.tuple d)

theorem VR.mono {ρ ρ':cf} (hg:∀ A L,ρ A=some L->ρ' A=some L) (h:VR ρ v u):VR ρ' v u:=by
 induction h with
 |bool b=>exact .bool b
 |int k n=>exact .int k n
 |string s=>exact .string s
 |mZ=>exact .mZ
 |ptr h=>exact .ptr (hg _ _ h)
 |dc=>exact .dc
 |slice h hc hn eK=>exact .slice (hg _ _ h) hc hn eK
 |cG h hc fm hn hk hm eK=>exact .cG (hg _ _ h) hc fm hn hk hm eK
 |mX=>exact .mX
 |map h=>exact .map (hg _ _ h)
 |yield h=>exact .yield (hg _ _ h)
 |nilFunc=>exact .nilFunc
 |func fn hf hc h1 h2 i1 i2=>exact .func fn hf hc i1 i2
 |nilIface=>exact .nilIface
 |iface t h ih=>exact .iface t ih
 |agg hc h ih=>exact .agg hc ih
 |tuple hc h ih=>exact .tuple hc ih

theorem VR.undef (ρ:cf):VR ρ undef undef:=.tuple rfl (by intro i x y hx;simp at hx)

theorem VR.jn (ρ:cf) (h:jP v=true):VR ρ v v:=by
 cases v with
 |bool b=>exact .bool b
 |int k n=>exact .int k n
 |string s=>exact .string s
 |pointer a=>cases a with
  |none=>exact .mZ
  |some a=>simp [jP] at h
 |slice a n c=>cases a with
  |none =>
   simp [jP] at h
   obtain ⟨rfl,rfl⟩:=h
   exact .dc
  |some a=>simp [jP] at h
 |map r=>cases r with
  |none=>exact .mX
  |some r=>simp [jP] at h
 |func fn f c =>
  cases fn with
  |func fn =>
   simp [jP] at h
   obtain ⟨rfl,rfl⟩:=h
   exact .func fn rfl rfl (by intro i x y hx;simp at hx) (by intro i x y hx;simp at hx)
  |_=>simp [jP] at h
 |nilFunc=>exact .nilFunc
 |nilIface=>exact .nilIface
 |_=>simp [jP] at h

theorem VR.lQ {ρ:cf} (hv:VR ρ v u) (h:jP v=true):u=v:=by
 cases hv with
 |func fn hf hc h1 h2 =>
  simp [jP] at h
  obtain ⟨rfl,rfl⟩:=h
  have e1:∀ (a:Array ai),(#[]:Array ai).size=a.size->a=#[]:=λa ha=>Array.eq_empty_of_size_eq_zero (by simpa using ha.symm)
  rw [e1 _ hf,e1 _ hc]
 |_=>first|rfl|simp [jP] at h

theorem VR.cP (ρ:cf) (h:plain v=true):VR ρ v v:=by
 cases v with
 |agg cs =>
  refine .agg rfl λi x y hx hy=>?_
  have e:x=y:=by rw [hx] at hy;exact Option.some.inj hy
  subst e
  simp only [plain,gz] at h
  exact .jn ρ (h x (by simpa using Array.mem_of_getElem? hx))
 |_=>exact .jn ρ h

theorem VR.bt {ρ:cf} (hv:VR ρ v u) (h:plain v=true):u=v:=by
 cases hv with
 |agg hc hh =>
  rename_i c d
  congr 1
  refine Array.ext hc.symm λi h1 h2=>?_
  simp only [plain,gz] at h
  have hx:c[i]? = some c[i]:=EM h2
  exact (hh i _ _ hx (EM h1)).lQ (h _ (by simp))
 |tuple hc hh=>simp [plain,jP] at h
 |func fn hf hc h1 h2=>exact (VR.func fn hf hc h1 h2).lQ h
 |_=>first|rfl|(simp [plain,jP] at h;done)

theorem VR.one {ρ:cf} {v u:ai} (hv:VR ρ v u) (h:one v=true):u.oneCell'=true:=by
 cases hv <;> first|rfl|simp [Am.one] at h

def cm (ρ:cf) (l m:List ai):Prop:=l.length=m.length/\∀ (i:Nat) (x y:ai),l[i]? = some x->m[i]? = some y->VR ρ x y

theorem cm.nil (ρ:cf):cm ρ [] []:=⟨rfl,by intro i x y hx;simp at hx⟩
theorem cm.cons {ρ:cf} {y:ai} (h:VR ρ x y) (hl:cm ρ l m):cm ρ (x::l) (y::m) :=
 ⟨by simp [hl.1],λi a b ha hb=>by
  cases i with
  |zero=>simp at ha hb;subst ha hb;exact h
  |succ i=>exact hl.2 i a b (by simpa using ha) (by simpa using hb)⟩
theorem cm.of_cons {ρ:cf} (h:cm ρ (x::l) m):∃ y m',m=y::m'/\VR ρ x y/\cm ρ l m':=by
 cases m with
 |nil=>have:=h.1;simp at this
 |cons y m =>
  exact ⟨y,m,rfl,h.2 0 x y rfl rfl,by have:=h.1;simpa using this,λi a b ha hb=>h.2 (i+1) a b (by simpa using ha) (by simpa using hb)⟩
theorem cm.of_nil {ρ:cf} (h:cm ρ [] m):m=[]:=by
 have:=h.1
 simp at this
 exact JK this.symm
theorem cm.mono {ρ ρ':cf} (hg:∀ A L,ρ A=some L->ρ' A=some L) {l m:List ai} (h:cm ρ l m):cm ρ' l m:=⟨h.1,λi x y hx hy=>(h.2 i x y hx hy).mono hg⟩
theorem cm.append {ρ:cf} {l' m':List ai} (h:cm ρ l m) (h':cm ρ l' m'):cm ρ (l++l') (m++m'):=by
 induction l generalizing m with
 |nil=>rw [h.of_nil];exact h'
 |cons x l ih =>
  obtain ⟨y,m1,rfl,hx,hl⟩:=h.of_cons
  exact .cons hx (ih hl)
theorem cm.take {ρ:cf} {l m:List ai} (h:cm ρ l m) (n:Nat):cm ρ (l.take n) (m.take n):=by
 refine ⟨by simp [h.1],λi x y hx hy=>?_⟩
 rw [oG] at hx hy
 split at hx
 .rename_i hi;rw [aG hi] at hy;exact h.2 i x y hx hy
 .cases hx
theorem cm.drop {ρ:cf} {l m:List ai} (h:cm ρ l m) (n:Nat):cm ρ (l.drop n) (m.drop n) :=
 ⟨by simp [h.1],λi x y hx hy=>h.2 (n+i) x y (by simpa using hx) (by simpa using hy)⟩
theorem cm.aJ {ρ:cf} {l m l' m':List ai} (h:cm ρ l m) (o:Nat) (h':cm ρ l' m'):cm ρ (aJ l o l') (aJ m o m'):=by
 unfold Am.aJ
 rw [<- h'.1]
 exact ((h.take o).append h').append (h.drop _)
theorem cm.cut {ρ:cf} {l m c:List ai} (h:cm ρ l m) {o n:Nat} (hc:cut l o n=some c):∃ d,cut m o n=some d/\cm ρ c d:=by
 unfold Am.cut at hc ⊢
 split at hc
 .rename_i hl
  rw [aG (by rw [<- h.1];exact hl)]
  cases hc
  exact ⟨_,rfl,(h.drop o).take n⟩
 .cases hc
theorem cm.get {ρ:cf} (h:cm ρ l m) {i:Nat} (hx:l[i]? = some x):∃ y,m[i]? = some y/\VR ρ x y:=by
 have hi:i < l.length:=(fD.1 hx).1
 have hy:m[i]? = some (m[i]'(by rw [<- h.1];exact hi)):=i4 _
 exact ⟨_,hy,h.2 i x _ hx hy⟩
theorem cm.plain (ρ:cf) (h:l.all jP=true):cm ρ l l:=by
 refine ⟨rfl,λi x y hx hy=>?_⟩
 rw [hx] at hy
 cases hy
 exact .jn ρ (gz.1 h x (fV hx))
theorem cm.one {ρ:cf} {l m:List ai} (h:cm ρ l m) (h1:l.all one=true):∀ v∈m,v.oneCell'=true:=by
 intro v hv
 obtain ⟨i,hi⟩:=Dd hv
 have hl:i < l.length:=by rw [h.1];exact (fD.1 hi).1
 exact (h.2 i _ v (i4 hl) hi).one (gz.1 h1 _ (List.getElem_mem hl))
theorem cm.toArray {ρ:cf} {l m:List ai} (h:cm ρ l m):VR ρ (.agg l.toArray) (.agg m.toArray) :=
 .agg (by simp [h.1]) (λi x y hx hy=>h.2 i x y (by simpa using hx) (by simpa using hy))
theorem cm.gP {ρ:cf} (h:cm ρ l m):VR ρ (.tuple l.toArray) (.tuple m.toArray) :=
 .tuple (by simp [h.1]) (λi x y hx hy=>h.2 i x y (by simpa using hx) (by simpa using hy))
theorem VR.An {ρ:cf} {c d:Array ai} (h:VR ρ (.agg c) (.agg d)):cm ρ c.toList d.toList:=by
 cases h with
 |agg hc hh=>exact ⟨by simpa using hc,λi x y hx hy=>hh i x y (by simpa using hx) (by simpa using hy)⟩
theorem VR.cells {ρ:cf} {v u:ai} (h:VR ρ v u):cm ρ v.cells.toList u.cells.toList:=by
 cases h with
 |agg hc hh=>exact (VR.agg hc hh).An
 |_=>exact .cons (by first|exact .bool _|exact .int _ _|exact .string _|exact .mZ|exact .ptr ‹_› | exact .dc|exact .slice ‹_› ‹_› ‹_› ‹_› | exact .cG ‹_› ‹_› ‹_› ‹_› ‹_› ‹_› ‹_› | exact .mX|exact .map ‹_› | exact .yield ‹_› | exact .nilFunc|exact .func _ ‹_› ‹_› ‹_› ‹_› | exact .nilIface|exact .iface _ ‹_› | exact .tuple ‹_› ‹_›) (.nil ρ)

def bO (ρ:cf) (e:Env) (tmps:Array ai):Prop:=e.length=tmps.size/\∀ i,VR ρ (e.get i) (tmps.getD i undef)
theorem bO.mono {ρ ρ':cf} {e:Env} {tmps:Array ai} (he:bO ρ e tmps) (hg:∀ A L,ρ A=some L->ρ' A=some L):bO ρ' e tmps:=⟨he.1,λi=>(he.2 i).mono hg⟩
def kc (ρ:cf) (l m:List MapEntry):Prop:=l.length=m.length/\∀ (i:Nat) (x y:MapEntry),l[i]? = some x->m[i]? = some y->VR ρ x.key y.key/\VR ρ x.val y.val/\x.born=y.born/\plain x.key=true
theorem kc.mono {ρ ρ':cf} (hg:∀ A L,ρ A=some L->ρ' A=some L) {l m:List MapEntry} (h:kc ρ l m):kc ρ' l m :=
 ⟨h.1,λi x y hx hy=>⟨(h.2 i x y hx hy).1.mono hg,(h.2 i x y hx hy).2.1.mono hg,(h.2 i x y hx hy).2.2⟩⟩

def cE (gs:List Nat) (ρ:cf):Prop:=∀ g∈gs,∃ t,ρ g=some ⟨g,0,t⟩
def pV (ρ:cf):Operand->Prop
 | .const v=>plain v=true
 | .global g=>∃ t,ρ g=some ⟨g,0,t⟩
 |_=>True
def ja (ρ:cf) (o:Oper):Prop:=∀ x∈o.op.operands.toList,pV ρ x
def cd (ρ:cf):Code->Prop
 | .region _ ops _=>∀ o∈ops.toList,ja ρ o
 | .seq a b=>cd ρ a/\cd ρ b
 | .cond c a b=>pV ρ c/\cd ρ a/\cd ρ b
 | .block _ c=>cd ρ c
 | .loop c=>cd ρ c
 | .scope c=>cd ρ c
 | .rangeFunc g _ a b=>pV ρ g/\cd ρ a/\cd ρ b
 |_=>True
section
variable {ρ ρ':cf} (hg:∀ A L,ρ A=some L->ρ' A=some L)
include hg
theorem cE.mono {gs:List Nat} (h:cE gs ρ):cE gs ρ':=λg hh=>let ⟨t,ht⟩:=h g hh;⟨t,hg _ _ ht⟩
theorem pV.mono {x:Operand} (h:pV ρ x):pV ρ' x:=by
 cases x with
 |global g=>exact let ⟨t,ht⟩:=h;⟨t,hg _ _ ht⟩
 |_=>exact h
theorem ja.mono {o:Oper} (h:ja ρ o):ja ρ' o:=λx hx=>(h x hx).mono hg
theorem cd.mono:∀ {c:Code},cd ρ c->cd ρ' c:=by
 intro c
 induction c with
 |region id ops d=>exact λh o ho=>(h o ho).mono hg
 |seq a b gZ hH=>exact λh=>⟨gZ h.1,hH h.2⟩
 |cond c a b gZ hH=>exact λh=>⟨h.1.mono hg,gZ h.2.1,hH h.2.2⟩
 |block id c ih=>exact λh=>ih h
 |loop c ih=>exact λh=>ih h
 |scope c ih=>exact λh=>ih h
 |rangeFunc g ps a b gZ hH=>exact λh=>⟨h.1.mono hg,gZ h.2.1,hH h.2.2⟩
 |_=>exact λ_=>trivial
end
theorem pV.of {gs:List Nat} {ρ:cf} (hG:cE gs ρ) {x:Operand} (h:JD gs x=true):pV ρ x:=by
 cases x with
 |global g=>exact hG g (by simpa [JD] using h)
 |const v=>exact h
 |_=>trivial
theorem ja.of {gs:List Nat} {ρ:cf} (hG:cE gs ρ) {o:Oper} (h:H9 gs o=true):ja ρ o:=λx hx=>.of hG (gz.1 h x hx)
theorem cd.of {gs:List Nat} {ρ:cf} (hG:cE gs ρ):∀ {c:Code},oE gs c=true->cd ρ c:=by
 intro c
 induction c with
 |region id ops d=>exact λh o ho=>.of hG (gz.1 h o ho)
 |seq a b gZ hH=>exact λh=>by simp only [oE,dj] at h;exact ⟨gZ h.1,hH h.2⟩
 |cond c a b gZ hH=>exact λh=>by simp only [oE,dj] at h;exact ⟨.of hG h.1.1,gZ h.1.2,hH h.2⟩
 |block id c ih=>exact λh=>ih h
 |loop c ih=>exact λh=>ih h
 |scope c ih=>exact λh=>ih h
 |rangeFunc g ps a b gZ hH=>exact λh=>by simp only [oE,dj] at h;exact ⟨.of hG h.1.1,gZ h.1.2,hH h.2⟩
 |_=>exact λ_=>trivial

def live (h:Heap) (A:Nat):Prop:=∃ b,h.get A=some b/\b≠.dead
def lD (h:Heap) (A:Nat):Prop:=∃ cs e,h.get A=some (.row cs e true)

def rV:TypeId:=1099511627776
def rX:List ai:=Lib.asciiSpaceTab.map λz=>Value.int .u8 z
def zz9:TypeId:=5
structure oK (e:TypeId) (n:Nat) (fz:Nat × Nat):Prop where
 in':∀ j,j < n->¬ (fz.1<=j/\j < fz.2)
 ad8:e=zz9\/¬ (fz.1<=n/\n < fz.2)
theorem oK.zero (e:TypeId) (n:Nat):oK e n (0,0):=⟨λ_ _ h=>by have:=h.2;simp at this,.inr λh=>by have:=h.2;simp at this⟩
def nt (ρ:cf) (w:World) (L:Loc):Option bc->Prop
 |some (.row cs e true)=>(L.b < w.heap.size/\(e=rV->cs=rX))/\∀ (i:Nat) (v:ai),cs[i]? = some v->∃ u,w.cell? ⟨L.b,L.s+i,none⟩=some u/\VR ρ v u
 |some (.row cs e false)=>∃ (cur:Array ai) (fz:Nat × Nat),w.heap[L.b]? = some (.cells cur e fz)/\oK e cur.size fz/\cur.size=L.xM/\∃ m,cut cur.toList L.s cs.length=some m/\cm ρ cs m
 |some (.map es clock)=>∃ ces:Array MapEntry,w.heap[L.b]? = some (.map ces clock)/\kc ρ es ces.toList
 |some (.loop env ps assign body st eF)=>∃ l:Loop,w.heap[L.b]? = some (.loop l)/\l.state=st/\l.pending=eF/\l.params.toList=ps/\l.assign=assign/\l.body=body/\bO ρ env l.tmps/\cd ρ assign/\cd ρ body
 |some .dead=>L.b < w.heap.size
 |none=>L.b < w.heap.size

theorem nt.ft {ρ ρ':cf} {w':World} {L:Loc} {b:Option bc} (hb:nt ρ w L b) (hg:∀ A L,ρ A=some L->ρ' A=some L) (dC:w.heap.size<=w'.heap.size)
 (hk:(∃ x,b=some x/\x≠.dead)->w'.heap[L.b]? = w.heap[L.b]?):nt ρ' w' L b:=by
 cases b with
 |none=>exact dU hb dC
 |some b =>
  cases b with
  |dead=>exact dU hb dC
  |map es clock =>
   obtain ⟨ces,hc,he⟩:=hb
   exact ⟨ces,(hk ⟨_,rfl,by simp⟩).trans hc,he.mono hg⟩
  |loop env ps assign body st eF =>
   obtain ⟨l,hc,h1,h2,h3,h4,h5,h6,h7⟩:=hb
   exact ⟨l,(hk ⟨_,rfl,by simp⟩).trans hc,h1,h2,h3,h4,h5,h6.mono hg,h7.1.mono hg,h7.2.mono hg⟩
  |row cs e ro =>
   have ot:=hk ⟨_,rfl,by simp⟩
   cases ro with
   |true =>
    refine ⟨⟨dU hb.1.1 dC,hb.1.2⟩,λi v hi=>?_⟩
    obtain ⟨u,hu,nj⟩:=hb.2 i v hi
    refine ⟨u,?_,nj.mono hg⟩
    rw [<- hu]
    simp only [World.cell?,ot]
   |false =>
    obtain ⟨cur,fz,hc,tX,ht,m,hm,hv⟩:=hb
    exact ⟨cur,fz,ot.trans hc,tX,ht,m,hm,hv.mono hg⟩

structure bB (ρ:cf) (h:Heap) (w:World):Prop where
 jV:∀ A L,ρ A=some L->nt ρ w L (h.get A)
 inj:∀ A A' L L',ρ A=some L->ρ A'=some L'->A≠A'->L.b=L'.b->¬ live h A\/¬ live h A'\/(lD h A/\lD h A')

theorem bB.lt {ρ:cf} (hs:bB ρ h w) {A:Nat} {L:Loc} (hA:ρ A=some L):L.b < w.heap.size:=by
 have hb:=hs.jV A L hA
 cases hg:h.get A with
 |none=>rw [hg] at hb;exact hb
 |some b =>
  rw [hg] at hb
  cases b with
  |dead=>exact hb
  |map es clock =>
   obtain ⟨ces,hc,_⟩:=hb
   exact (kX.1 hc).1
  |loop env ps assign body st eF =>
   obtain ⟨l,hc,_⟩:=hb
   exact (kX.1 hc).1
  |row cs e ro =>
   cases ro with
   |true=>exact hb.1.1
   |false =>
    obtain ⟨cur,fz,hc,_⟩:=hb
    exact (kX.1 hc).1

def el (ρ:cf) (h h':Heap):Prop:=∀ A,h.size<=A->A < h'.size->ρ A=none

structure Fr (ρ ρ':cf) (h h':Heap) (w w':World):Prop where
 grow:∀ A L,ρ A=some L->ρ' A=some L
 fresh:∀ A L,ρ' A=some L->ρ A=none->h.size<=A/\A < h'.size/\(w.heap.size<=L.b\/∃ A0 L0,ρ A0=some L0/\L0.b=L.b/\h'.low<=A0/\A0 < h'.size)
 os:w'.os=w.os
 tape:w'.tape=w.tape
 output:w'.output=w.output
 size:w.heap.size<=w'.heap.size
 fR:h.size<=h'.size
 low:h'.low<=h.low
 ft:∀ b,b < w.heap.size->(∀ A L,ρ A=some L->L.b=b->A < h'.low\/h'.size<=A)->w'.heap[b]? = w.heap[b]?
 pX:∀ A,A < h.size->A < h'.low->h'.get A=h.get A

theorem Fr.refl (ρ:cf) (h:Heap) (w:World):Fr ρ ρ h h w w :=
 ⟨λ_ _ h=>h,λA L h1 h2=>(by rw [h1] at h2;cases h2),rfl,rfl,rfl,aS _,aS _,aS _,λ_ _ _=>rfl,λ_ _ _=>rfl⟩

theorem Fr.trans {ρ ρ' ρ'':cf} {h h' DL:Heap} {w w' X3:World} (f:Fr ρ ρ' h h' w w') (g:Fr ρ' ρ'' h' DL w' X3):Fr ρ ρ'' h DL w X3:=by
 refine ⟨λA L hA=>g.grow A L (f.grow A L hA),?_,g.os.trans f.os,g.tape.trans f.tape,g.output.trans f.output,dZ f.size g.size,dZ f.fR g.fR,dZ g.low f.low,?_,?_⟩
 .intro A L hA hn
  cases hρ:ρ' A with
  |some L1 =>
   have e:L1=L:=by have:=g.grow A L1 hρ;rw [hA] at this;exact (Option.some.inj this).symm
   subst e
   obtain ⟨h1,bW,h2⟩:=f.fresh A L1 hρ hn
   refine ⟨h1,dU bW g.fR,?_⟩
   rcases h2 with h2|⟨A0,L0,h0,he,hl,xc⟩
   .exact .inl h2
   .exact .inr ⟨A0,L0,h0,he,dZ g.low hl,dU xc g.fR⟩
  |none =>
   obtain ⟨h1,bW,h2⟩:=g.fresh A L hA hρ
   refine ⟨dZ f.fR h1,bW,?_⟩
   rcases h2 with h2|⟨A0,L0,h0,he,hl,xc⟩
   .exact .inl (dZ f.size h2)
   .cases Cd:ρ A0 with
    |some L1 =>
     have e:L1=L0:=by have:=f.grow A0 L1 Cd;rw [h0] at this;exact (Option.some.inj this).symm
     subst e
     exact .inr ⟨A0,L1,Cd,he,hl,xc⟩
    |none =>
     rcases (f.fresh A0 L0 h0 Cd).2.2 with h3|⟨A1,L1,h3,K9,xd,QN⟩
     .exact .inl (by omega)
     .exact .inr ⟨A1,L1,h3,K9.trans he,dZ g.low xd,dU QN g.fR⟩
 .intro b hb aD
  have Gx:∀ A L,ρ A=some L->L.b=b->A < h'.low\/h'.size<=A:=λA L hA hL=>by
   have h1:=aD A L hA hL
   have h2:=g.low
   have h3:=g.fR
   omega
  rw [g.ft b (dU hb f.size) ?_,f.ft b hb Gx]
  intro A L hA hL
  cases hρ:ρ A with
  |some L0 =>
   have e:L0=L:=by have:=f.grow A L0 hρ;rw [hA] at this;exact (Option.some.inj this).symm
   subst e
   exact aD A L0 hρ hL
  |none =>
   rcases (f.fresh A L hA hρ).2.2 with h1|⟨A0,L0,h0,he,hl,xc⟩
   .omega
   .have h1:=aD A0 L0 h0 (he.trans hL)
    have h2:=g.low
    have h3:=g.fR
    omega
 .intro A hA hl
  rw [g.pX A (dU hA f.fR) hl,f.pX A hA (dU hl g.low)]

theorem el.left {ρ:cf} {h1 h2:Heap} (hf:el ρ h h2) (hle:h1.size<=h2.size):el ρ h h1:=λA h3 h4=>hf A h3 (dU h4 hle)
theorem el.right {ρ ρ':cf} {h1 h2:Heap} {w':World} (hf:el ρ h h2) (fr:Fr ρ ρ' h h1 w w'):el ρ' h1 h2:=by
 intro A h3 h4
 cases hA:ρ' A with
 |none=>rfl
 |some L =>
  have hn:=hf A (dZ fr.fR h3) h4
  have:=(fr.fresh A L hA hn).2.1
  omega

end Go.Am
namespace Go.Am
open Go.RowKit
variable {A n o:Nat} {l m:List ai} {W:World}

structure bx.Fits (T:bx) (P:Program):Prop where
 desc:∀ t d,T.desc t=some d->P.underlying t=some d
 info:∀ t n b z,T.info t=some (n,b,z)->∃ i zv,P.info? t=some i/\i.size=n/\i.bytes=b/\i.zero=some zv/\zv.cells.toList=z/\z.length=n/\z.all jP=true
 fn:∀ f fn,T.fn f=some fn->P.funcs[f]? = some fn/\(fn.name == "runtime.NumGoroutine")=false/\∀ c,fn.body=some c->oE T.gs c=true
 cmp:∀ t,T.cmp t=true->P.stoodInHeld t=false/\P.eqGuardType P.depth t=false
 zero:∀ t v,T.zero t=some v->(∃ i,P.info? t=some i/\i.zero=some v)/\plain v=true
 uq:∀ t name m,T.uq t name=some m->∃ i,P.info? t=some i/\i.methods.find? (·.name == name)=some m

theorem zJ (h:cut l o n=some m):o+n<=l.length/\m.length=n/\∀ i,i < n->m[i]? = l[o+i]? := by
 unfold cut at h
 split at h
 .rename_i hl
  cases h
  refine ⟨hl,by simp;omega,λi hi=>?_⟩
  rw [oG,aG hi,ka]
 .cases h
theorem uP (hl:o+n<=l.length) (hm:m.length=n) (h:∀ i,i < n->m[i]? = l[o+i]?):cut l o n=some m:=by
 unfold cut
 rw [aG hl]
 congr 1
 refine uY λi=>?_
 rw [oG]
 split
 .rename_i hi;rw [ka,h i hi]
 .rw [ER (by omega)]

theorem zA {vs:List ai} (h:o+vs.length<=l.length):(aJ l o vs).length=l.length:=by
 simp [aJ];omega
theorem cO (l vs:List ai) (o i:Nat) (h:o+vs.length<=l.length):(aJ l o vs)[i]? = if i < o then l[i]? else if i < o+vs.length then vs[i - o]? else l[i]? := by
 unfold aJ
 rw [Dc,Dc]
 have hl:(l.take o).length=o:=by simp;omega
 simp only [dx,hl]
 by_cases h1:i < o
 .rw [aG (by omega),aG h1,aG h1,oG,aG h1]
 .rw [aA h1]
  by_cases h2:i < o+vs.length
  .rw [aG h2,aA h1,aG h2]
  .rw [aA h2,aA h2,ka]
   rw [show o+vs.length+(i - (o+vs.length))=i by omega,aA h1]
theorem zso {cur us:List ai} {s:Nat} (hc:cut cur s n=some m) (ho:o+us.length<=n):cut (aJ cur (s+o) us) s n=some (aJ m o us):=by
 obtain ⟨h1,h2,h3⟩:=zJ hc
 refine uP (by rw [zA (by omega)];exact h1) (by rw [zA (by omega)];exact h2) λi hi=>?_
 rw [cO _ _ _ _ (by omega),cO _ _ _ _ (by omega)]
 by_cases h4:i < o
 .rw [aG h4,aG (show s+i < s+o by omega),h3 i hi]
 .rw [aA h4,aA (show ¬ s+i < s+o by omega)]
  by_cases h5:i < o+us.length
  .rw [aG h5,aG (show s+i < s+o+us.length by omega)]
   congr 1
   omega
  .rw [aA h5,aA (show ¬ s+i < s+o+us.length by omega),h3 i hi]

section
variable {P:Program} {T:bx} {ρ:cf} {h h':Heap} {w:World}

theorem LL (hs:bB ρ h w) {L:Loc} (hA:ρ A=some L) (hc:kL A o n h=some l) :
 ∃ m,cm ρ l m/\m.length=n/\w.rangeAt L.b (L.s+o) m:=by
 have hb:=hs.jV A L hA
 unfold kL at hc
 cases hg:h.get A with
 |none=>rw [hg] at hc;cases hc
 |some b =>
  rw [hg] at hc hb
  cases b with
  |dead=>cases hc
  |map es clock=>cases hc
  |loop env ps assign body st eF=>cases hc
  |row cs e ro =>
   obtain ⟨h1,h2,h3⟩:=zJ hc
   cases ro with
   |true =>
    obtain ⟨_,gF⟩:=hb
    have hex:∀ i,i < n->∃ u,w.cell? ⟨L.b,L.s+(o+i),none⟩=some u/\∀ x,l[i]? = some x->VR ρ x u:=by
     intro i hi
     have hx:cs[o+i]? = some (cs[o+i]'(by omega)):=i4 _
     obtain ⟨u,hu,hv⟩:=gF (o+i) _ hx
     refine ⟨u,hu,λx Xw=>?_⟩
     rw [h3 i hi,hx] at Xw
     cases Xw
     exact hv
    refine ⟨(List.range n).map λi=>(w.cell? ⟨L.b,L.s+(o+i),none⟩).getD undef,⟨by simp [h2],λi x y hx hy=>?_⟩,by simp,λj v hv=>?_⟩
    .have hi:i < n:=by rw [<- h2];exact (fD.1 hx).1
     obtain ⟨u,hu,hv⟩:=hex i hi
     rw [jS,J5 hi,jT,hu] at hy
     cases hy
     exact hv x hx
    .have hj:j < n:=by have:=(fD.1 hv).1;simpa using this
     obtain ⟨u,hu,_⟩:=hex j hj
     rw [jS,J5 hj,jT,hu] at hv
     cases hv
     rw [na]
     exact hu
   |false =>
    obtain ⟨cur,fz,mK,_,_,m,hm,hv⟩:=hb
    obtain ⟨d,hd,B6⟩:=hv.cut hc
    obtain ⟨k1,k2,k3⟩:=zJ hm
    obtain ⟨d1,d2,d3⟩:=zJ hd
    refine ⟨d,B6,d2,λj v hj=>?_⟩
    have hjn:j < n:=by rw [<- d2];exact (fD.1 hj).1
    rw [cell_of_row w L.b _ cur e fz mK]
    rw [d3 j hjn,k3 (o+j) (by rw [k2] at d1;omega)] at hj
    rw [<- Array.getElem?_toList,na]
    exact hj

theorem Tj (hT:T.Fits P) (hs:bB ρ h w) {t:TypeId} {x y v:ai} (cJ:VR ρ x y) (hl:fU T t x h=some v) :
 ∃ u,(Instr.loadAt t y).run P w=.ok u w/\VR ρ v u:=by
 cases cJ with
 |ptr hA =>
  rename_i A o L
  simp only [fU] at hl
  cases hg:T.desc t with
  |none=>simp [cT,hg] at hl
  |some d =>
   have hu:=hT.desc t d hg
   have key:∀ (n:Nat) (l:List ai),T.info t≠none->kL A o n h=some l->d.isRow=true->(T.info t).map (·.1)=some n->v=.agg l.toArray->∃ u,(Instr.loadAt t (.pointer (some ⟨L.b,L.s+o,none⟩))).run P w=.ok u w/\VR ρ v u:=by
    intro n l _ hc hd hi hv
    obtain ⟨m,hm,hlen,hr⟩:=LL hs hA hc
    cases fZ:T.info t with
    |none=>simp [fZ] at hi
    |some q =>
     obtain ⟨q1,q2,q3⟩:=q
     obtain ⟨i,zv,e1,e2,_⟩:=hT.info t q1 q2 q3 fZ
     simp [fZ] at hi
     refine ⟨.agg m.toArray,run_loadAt_mid w L.b (L.s+o) t m d hr hu hd (by rw [e1];simp [e2,hi,hlen]),?_⟩
     rw [hv]
     exact hm.toArray
   have R5:∀ (l:List ai),kL A o 1 h=some l->l[0]? = some v->d.isRow=false->∃ u,(Instr.loadAt t (.pointer (some ⟨L.b,L.s+o,none⟩))).run P w=.ok u w/\VR ρ v u:=by
    intro l hc h0 hd
    obtain ⟨m,hm,hlen,hr⟩:=LL hs hA hc
    obtain ⟨u,Rx,RA⟩:=hm.get h0
    have gF:=hr 0 u Rx
    refine ⟨u,?_,RA⟩
    have mI:(isAgg t).run P w=.ok false w:=by
     unfold isAgg
     rw [Sem.run_bind,run_underlying hu w]
     cases d <;> simp_all
    simp only [gw] at gF
    simp [Instr.loadAt,Instr.sureAddr,loadVar,Sem.run_bind,mI,gF]
   have GH:(∃ n l,T.info t≠none/\kL A o n h=some l/\d.isRow=true/\(T.info t).map (·.1)=some n/\v=.agg l.toArray)\/(∃ l,kL A o 1 h=some l/\l[0]? = some v/\d.isRow=false):=by
    have Rj:∀ (hl:((de T t).bind λn=>(kL A o n h).map λl=>Value.agg l.toArray)=some v) (hd:d.isRow=true),
     ∃ n l,T.info t≠none/\kL A o n h=some l/\d.isRow=true/\(T.info t).map (·.1)=some n/\v=.agg l.toArray:=by
     intro hl hd
     simp only [de,ck,bX] at hl
     obtain ⟨n,⟨q,hq,rfl⟩,l,hc,rfl⟩:=hl
     exact ⟨q.1,l,by rw [hq];simp,hc,hd,by rw [hq];rfl,rfl⟩
    cases d <;> simp only [cT,hg,jT,dz,if_true,fF,if_false] at hl <;>
     first
      |(left;exact Rj hl rfl)
      |(right;simp only [ck] at hl;obtain ⟨l,hc,h0⟩:=hl;exact ⟨l,hc,h0,rfl⟩)
   rcases GH with ⟨n,l,a,b,c,d',e⟩|⟨l,a,b,c⟩
   .exact key n l a b c d' e
   .exact R5 l a b c
 |_=>simp [fU] at hl

theorem Jr (hs:bB ρ h w) {L:Loc} {b b':bc} (hA:ρ A=some L) (hg:h.get A=some b) (mb:b≠.dead) (D0:∀ cs e,b≠.row cs e true)
 (tH:W.os=w.os) (iU:W.tape=w.tape) (fp:W.output=w.output) (dC:W.heap.size=w.heap.size) (kB:∀ k,k≠L.b->W.heap[k]? = w.heap[k]?) (lU:nt ρ W L (some b')) :
 Fr ρ ρ h (h.set A b') w W/\bB ρ (h.set A b') W:=by
 have oV:A < h.size:=Heap.au hg
 refine ⟨⟨λ_ _ h=>h,λA' L' h1 h2=>(by rw [h1] at h2;cases h2),tH,iU,fp,by rw [dC];exact aS _,aS _,wk _ _,?_,?_⟩,⟨?_,?_⟩⟩
 .intro b hb aD
  refine kB b λe=>?_
  subst e
  have:=aD A L hA rfl
  rw [Heap.cC,Heap.size_set] at this
  omega
 .intro A' eG hl
  rw [Heap.cC] at hl
  rw [Heap.aM _ _ _ _ oV,aA (by omega)]
 .intro A' L' eG
  rw [Heap.aM _ _ _ _ oV]
  by_cases e':A'=A
  .subst e'
   rw [hA] at eG
   cases eG
   rw [aG rfl]
   exact lU
  .rw [aA e']
   refine (hs.jV A' L' eG).ft (λ_ _ h=>h) (by omega) ?_
   rintro ⟨x,hx,hxd⟩
   refine kB L'.b λheq=>?_
   rcases hs.inj A' A L' L eG hA e' heq with h1|h1|h1
   .exact h1 ⟨x,hx,hxd⟩
   .exact h1 ⟨_,hg,mb⟩
   .obtain ⟨_,NX,e2,qg⟩:=h1
    rw [hg] at qg
    cases qg
    exact D0 _ _ rfl
 .intro A1 A2 L1 L2 h1 h2 aO hb
  have dG:∀ A',¬ live h A'->¬ live (h.set A b') A':=by
   intro A' hd
   by_cases e':A'=A
   .subst e';exact (hd ⟨_,hg,mb⟩).elim
   .unfold live at hd ⊢
    rw [Heap.aM _ _ _ _ oV,aA e']
    exact hd
  have Hs:∀ A',lD h A'->lD (h.set A b') A':=by
   rintro A' ⟨NX,e2,qg⟩
   refine ⟨NX,e2,?_⟩
   rw [Heap.aM _ _ _ _ oV,aA (by intro e';subst e';rw [hg] at qg;cases qg;exact D0 _ _ rfl)]
   exact qg
  rcases hs.inj A1 A2 L1 L2 h1 h2 aO hb with h3|h3|⟨h3,h4⟩
  .exact .inl (dG _ h3)
  .exact .inr (.inl (dG _ h3))
  .exact .inr (.inr ⟨Hs _ h3,Hs _ h4⟩)

theorem SR (P:Program) (g o:Nat) (t:TypeId) (fz:Nat × Nat):∀ (vs:List ai) (i:Nat) (cur:Array ai) (w:World),w.heap[g]? = some (.cells cur t fz)->oK t cur.size fz->o+i+vs.length<=cur.size->(∀ v∈vs,v.oneCell'=true) ->
 (storeCells ⟨g,o,none⟩ vs i).run P w=.ok () (w.setRow g (cur.toList.take (o+i)++vs++cur.toList.drop (o+i+vs.length)).toArray)
 | [],i,cur,w,hg,_,_,_=>by
  simp only [storeCells,bu,cW,gw,JV,Array.toArray_toList]
  rw [setRow_self w g cur t fz hg]
  rfl
 |v::rest,i,cur,w,hg,GX,hl,h1=>by
  have hi:o+i < cur.size:=by simp at hl;omega
  have P7:(⟨g,o,none⟩:Addr).add i=⟨g,o+i,none⟩:=by unfold Addr.add;split <;> simp_all
  have gF:w.cell? ⟨g,o+i,none⟩=some cur[o+i]:=by simp [World.cell?,hg,hi]
  have Qy:w.frozen? ⟨g,o+i,none⟩=false:=by
   have h0:=GX.in' (o+i) hi
   obtain ⟨lo,qh⟩:=fz
   simp only [World.frozen?,hg,Bool.and_eq_false_iff,decide_eq_false_iff_not]
   simp only at h0
   omega
  have dh:(store ((⟨g,o,none⟩:Addr).add i) v).run P w=.ok () (w.setRow g (cur.setIfInBounds (o+i) v)):=by
   rw [P7,run_store P w _ v _ (h1 v (by simp)),gF]
   simp [Qy,setCell_eq_setRow w g (o+i) cur t fz v hg]
  have ih:=SR P g o t fz rest (i+1) (cur.setIfInBounds (o+i) v) (w.setRow g (cur.setIfInBounds (o+i) v)) (setRow_heap w g cur _ t _ hg) (by simpa using GX) (by simp at hl ⊢;omega) (λx hx=>h1 x (by simp [hx]))
  simp only [storeCells,Sem.run_bind,dh,Result.andThen_ok,ih,setRow_setRow]
  congr 3
  have e:=list_seg_step cur.toList (o+i) v rest (by simp at hl ⊢;omega)
  simpa [Array.toList_setIfInBounds,na] using e

theorem Jg (hs:bB ρ h w) {L:Loc} {vs us:List ai} (hA:ρ A=some L) (hv:cm ρ vs us) (hw:np A o vs h=some h') :
 ∃ w',(storeCells ⟨L.b,L.s+o,none⟩ us 0).run P w=.ok () w'/\Fr ρ ρ h h' w w'/\bB ρ h' w':=by
 have hb:=hs.jV A L hA
 unfold np at hw
 split at hw
 .rename_i cs e hg
  split at hw
  .rename_i hc
   simp only [dj,iC] at hc
   obtain ⟨ho,h1⟩:=hc
   cases hw
   rw [hg] at hb
   obtain ⟨cur,fz,mK,tX,tY,m,hm,RF⟩:=hb
   obtain ⟨k1,k2,k3⟩:=zJ hm
   have yZ:vs.length=us.length:=hv.1
   have dh:=SR P L.b (L.s+o) e fz us 0 cur w mK tX (by simp at k1 ⊢;omega) (hv.one h1)
   simp only [gw] at dh
   let jf:=(cur.toList.take (L.s+o)++us++cur.toList.drop (L.s+o+us.length)).toArray
   have tf:(w.setRow L.b jf).heap[L.b]? = some (.cells jf e fz):=setRow_heap w L.b cur jf e _ mK
   have dC:(w.setRow L.b jf).heap.size=w.heap.size:=by simp [World.setRow]
   have Rv:oK e jf.size fz:=by
    have:=zA (l:=cur.toList) (vs:=us) (o:=L.s+o) (by simp at k1 ⊢;omega)
    have h2:jf.size=cur.size:=by simpa [jf,aJ] using this
    rw [h2]
    exact tX
   refine ⟨w.setRow L.b jf,dh,Jr hs hA hg (by simp) (by simp) rfl rfl rfl dC (λb hb=>setRow_other w L.b b jf hb) ⟨jf,fz,tf,Rv,?_,aJ m o us,?_,RF.aJ o hv⟩⟩
   .show jf.size=L.xM
    rw [<- tY]
    have:=zA (l:=cur.toList) (vs:=us) (o:=L.s+o) (by simp at k1 ⊢;omega)
    simpa [jf,aJ] using this
   .rw [zA ho]
    have:=zso (us:=us) (o:=o) hm (by omega)
    simpa [jf,aJ] using this
  .cases hw
 .cases hw

theorem Tn (hs:bB ρ h w) (fo:ρ h.size=none) {L:Loc} {b:bc} (hold:∀ k,k < w.heap.size->W.heap[k]? = w.heap[k]?) (dC:w.heap.size<=W.heap.size)
 (tH:W.os=w.os) (iU:W.tape=w.tape) (fp:W.output=w.output) (hL:w.heap.size<=L.b) (hb:∀ ρ',(∀ A L,ρ A=some L->ρ' A=some L)->nt ρ' W L (some b)) :
 ∃ ρ',ρ' h.size=some L/\Fr ρ ρ' h (h.push b) w W/\bB ρ' (h.push b) W:=by
 have eC:∀ A L',ρ A=some L'->(λA=>if A=h.size then some L else ρ A) A=some L':=by
  intro A L' hA
  have aO:A≠h.size:=λe=>by rw [e,fo] at hA;cases hA
  simp only [aA aO]
  exact hA
 refine ⟨λA=>if A=h.size then some L else ρ A,by simp,⟨eC,?_,tH,iU,fp,dC,by rw [Heap.size_push];omega,aS _,λb hb _=>hold b hb,?_⟩,⟨?_,?_⟩⟩
 .intro A L' hA hn
  split at hA
  .rename_i e1;cases hA;exact ⟨by omega,by rw [Heap.size_push];omega,.inl hL⟩
  .rw [hn] at hA;cases hA
 .intro A hA _
  rw [Heap.bS,aA (by omega)]
 .intro A L' hA
  rw [Heap.bS]
  split at hA
  .rename_i e1
   cases hA
   rw [aG e1]
   exact hb _ eC
  .rename_i e1
   rw [aA e1]
   exact (hs.jV A L' hA).ft eC dC λ_=>hold _ (hs.lt hA)
 .intro A1 A2 L1 L2 h1 h2 aO wM
  have eW:∀ A,A≠h.size->(h.push b).get A=h.get A:=λA hA=>by rw [Heap.bS,aA hA]
  split at h1
  .split at h2
   .omega
   .rename_i e1 e2
    cases h1
    have:=hs.lt h2
    omega
  .split at h2
   .rename_i e1 e2
    cases h2
    have:=hs.lt h1
    omega
   .rename_i e1 e2
    unfold live lD
    rw [eW A1 e1,eW A2 e2]
    exact hs.inj A1 A2 L1 L2 h1 h2 aO wM

theorem zjz (hs:bB ρ h w) (fo:ρ h.size=none) {cs:List ai} {cur:Array ai} {e:TypeId} {fz:Nat × Nat} (tX:oK e cur.size fz) (hW:W.heap=w.heap.push (.cells cur e fz))
 (tH:W.os=w.os) (iU:W.tape=w.tape) (fp:W.output=w.output) (tg:cut cur.toList 0 cs.length=some m) (hv:cm ρ cs m) :
 ∃ ρ',ρ' h.size=some ⟨w.heap.size,0,cur.size⟩/\Fr ρ ρ' h (h.push (.row cs e false)) w W/\bB ρ' (h.push (.row cs e false)) W:=by
 refine Tn hs fo (λk hk=>by rw [hW,uW,aA (by omega)]) (by rw [hW];simp) tH iU fp (aS _) λρ' hg=>?_
 exact ⟨cur,fz,by rw [hW];simp,tX,rfl,m,tg,hv.mono hg⟩
theorem Et (hs:bB ρ h w) (fo:ρ h.size=none) {cs:List ai} {cur:Array ai} {e:TypeId} (hW:W.heap=w.heap.push (.cells cur e (0,0)))
 (tH:W.os=w.os) (iU:W.tape=w.tape) (fp:W.output=w.output) (tg:cut cur.toList 0 cs.length=some m) (hv:cm ρ cs m) :
 ∃ ρ',ρ' h.size=some ⟨w.heap.size,0,cur.size⟩/\Fr ρ ρ' h (h.push (.row cs e false)) w W/\bB ρ' (h.push (.row cs e false)) W :=
 zjz hs fo (.zero _ _) hW tH iU fp tg hv

theorem bB.same (hs:bB ρ h w) (hW:W.heap=w.heap):bB ρ h W :=
 ⟨λA L hA=>(hs.jV A L hA).ft (λ_ _ h=>h) (by rw [hW];exact aS _) (λ_=>by rw [hW]),hs.inj⟩
end
end Go.Am
namespace Go.Am
open Go.RowKit
variable {m news:List ai} {c k n o q:Nat} {y:ai} {e t ty u:TypeId}

theorem SV (z:Array ai) (n:Nat):((Array.range (n*z.size)).map λi=>z[i % z.size]!).toList=lO z.toList n:=by
 induction n with
 |zero=>simp [lO]
 |succ n ih =>
  have hr:Array.range ((n+1)*z.size)=Array.range (n*z.size)++(Array.range z.size).map (n*z.size+·):=by
   apply Array.ext'
   simp only [Array.toList_range,Array.toList_append,Array.toList_map,oH,Nat.one_mul,List.range_add]
  rw [hr,Array.map_append,Array.toList_append,ih]
  simp only [lO,List.replicate_succ',List.flatten_append,List.flatten_singleton]
  congr 1
  apply uY
  intro i
  by_cases hi:i < z.size
  .simp [hi,Di hi]
  .simp [hi]

theorem zlM (z:List ai) (n:Nat):(lO z n).length=n*z.length:=by simp [lO]

theorem Ta {z:List ai} (h:z.all jP=true) (n:Nat):(lO z n).all jP=true:=by
 simp only [lO,gz,List.mem_flatten,List.mem_replicate] at *
 rintro x ⟨l,⟨_,rfl⟩,hx⟩
 exact h x hx


section
variable {P:Program} {T:bx} {ρ:cf} {h h':Heap} {w:World}

theorem zn9 {b:Nat} (h:w.rangeAt b o m):w.rangeAt b o (m.take q):=by
 intro j v hv
 rw [oG] at hv
 split at hv
 .exact h j v hv
 .cases hv

theorem zfn {b:Nat} (h:w.rangeAt b o m) (hl:m.length=q*k):(Builtin.firstCells k q (.slice (some ⟨b,o,none⟩) n c)).run P w=.ok m.toArray w :=
 run_firstCells_some w k q ⟨b,o,none⟩ n c m hl (λj v hv=>by rw [Addr.add_mid];exact h j v hv)

theorem SZ (hs:bB ρ h w) {a:Option Addr} {l:List ai} (cJ:VR ρ (.slice a n c) y) (hc:pJ (.slice a n c) k h=some l) :
 ∃ a' c' m,y=.slice a' n c'/\cm ρ l m/\m.length=n*k/\∀ W:World,W.heap=w.heap->∀ q,q<=n->(Builtin.firstCells k q y).run P W=.ok (m.take (q*k)).toArray W:=by
 have hzero:∀ (q:Nat) (ad:Addr) (c':Nat) (W:World),q*k=0->(Builtin.firstCells k q (.slice (some ad) n c')).run P W=.ok #[] W:=by
  intro q ad c' W hq
  simp [Builtin.firstCells,hq,loadCells,loadCellsFrom]
 have td:∀ {A o:Nat} {L:Loc} {ad:Addr} {c':Nat},ρ A=some L->(n≠0->ad=⟨L.b,L.s+o,none⟩)->pJ (.slice (some ⟨A,o,none⟩) n c) k h=some l ->
  ∃ m,cm ρ l m/\m.length=n*k/\∀ W:World,W.heap=w.heap->∀ q,q<=n->(Builtin.firstCells k q (.slice (some ad) n c')).run P W=.ok (m.take (q*k)).toArray W:=by
  intro A o L ad c' hA eK hc
  simp only [pJ] at hc
  split at hc
  .rename_i h0
   cases hc
   refine ⟨[],.nil ρ,by simp [h0],λW _ q hq=>?_⟩
   have h1:q*k=0:=by
    rcases Nat.mul_eq_zero.1 h0 with e|e
    .have:q=0:=by omega
     simp [this]
    .simp [e]
   rw [hzero q ad c' W h1]
   simp
  .rename_i h0
   have hn:n≠0:=λe=>h0 (by simp [e])
   obtain ⟨m,hm,hlen,hr⟩:=LL hs hA hc
   refine ⟨m,hm,hlen,λW hW q hq=>?_⟩
   rw [eK hn]
   have cv:W.rangeAt L.b (L.s+o) m:=λj v hv=>(World.cell?_of_block (by rw [hW])).trans (hr j v hv)
   refine zfn (zn9 cv) ?_
   rw [hZ,hlen]
   exact Nat.min_eq_left (uV _ hq)
 cases cJ with
 |dc =>
  simp only [pJ] at hc
  cases hc
  refine ⟨none,0,[],rfl,.nil ρ,by simp,λW _ q hq=>?_⟩
  have:q=0:=by omega
  subst this
  simp [Builtin.firstCells]
 |slice hA eO hn eK =>
  obtain ⟨m,h1,h2,h3⟩:=td hA (λh0=>eK (by omega)) hc
  exact ⟨_,_,m,rfl,h1,h2,h3⟩
 |cG hA eO fm hn hk hm eK =>
  obtain ⟨m,h1,h2,h3⟩:=td hA (λh0=>(eK (by omega)).1) hc
  exact ⟨_,_,m,rfl,h1,h2,h3⟩

theorem zkX (hs:bB ρ h w) {x:ai} {m:Nat} {l:List ai} (cJ:VR ρ x y) (hc:gg x k h=some (m,l)) :
 ∃ n,cm ρ l n/\n.length=m*k/\Builtin.lenOf y=pure m/\∀ W:World,W.heap=w.heap->∀ q,q<=m->(Builtin.firstCells k q y).run P W=.ok (n.take (q*k)).toArray W:=by
 cases x with
 |string b =>
  cases cJ
  simp only [gg] at hc
  split at hc
  .rename_i hk
   subst hk
   cases hc
   refine ⟨_,cm.plain ρ (by rw [gz];intro x hx;rw [sx] at hx;obtain ⟨u,_,rfl⟩:=hx;rfl),by simp,rfl,λW _ q hq=>?_⟩
   simp only [Builtin.firstCells,Sem.run_pure,Nat.mul_one]
   congr 1
   apply Array.ext'
   have hd:(b.extract 0 q).data=b.data.extract 0 q:=by
    exact ByteArray.data_extract
   rw [hd]
   simp
  .cases hc
 |slice a n c =>
  simp only [gg,bX,cx] at hc
  obtain ⟨l',hc,rfl,rfl⟩:=hc
  obtain ⟨a',c',m,rfl,h1,h2,h3⟩:=SZ (P:=P) hs cJ hc
  exact ⟨m,h1,h2,rfl,h3⟩
 |_=>simp [gg] at hc

def Ks (P:Program) (u:TypeId):Prop:=(∃ e',P.underlying u=some (.slice e'))\/P.underlying u=some .string

theorem SQ {i:TypeInfo} (ht:P.underlying t=some (.slice e)) (hu:Ks P u) (hi:P.info? e=some i)
 {a:Addr} {m:Nat} (hlen:Builtin.lenOf y=pure m) (hf:(Builtin.firstCells i.size m y).run P w=.ok news.toArray w) (mf:n+m<=c) {w':World}
 (dh:(storeCells (a.add (n*i.size)) news 0).run P w=.ok () w') :
 (Builtin.append_ #[t,u] ty #[.slice (some a) n c,y]).run P w=.ok (.slice (some a) (n+m) c) w':=by
 rcases hu with ⟨e',hd⟩|hd
 .simp [Builtin.append_,run_underlying ht,run_underlying hd,sizeOf,typeInfo,hi,hlen,mf,hf,dh]
 .simp [Builtin.append_,run_underlying ht,run_underlying hd,sizeOf,typeInfo,hi,hlen,mf,hf,dh]

theorem zjG {i:TypeInfo} (ht:P.underlying t=some (.slice e)) (hu:Ks P u) (hi:P.info? e=some i)
 {a:Option Addr} (hlen:Builtin.lenOf y=pure 0) (hf:(Builtin.firstCells i.size 0 y).run P w=.ok #[] w) (mf:n<=c) :
 (Builtin.append_ #[t,u] ty #[.slice a n c,y]).run P w=.ok (.slice a n c) w:=by
 rcases hu with ⟨e',hd⟩|hd <;> cases a <;> simp [Builtin.append_,run_underlying ht,run_underlying hd,sizeOf,typeInfo,hi,hlen,mf,hf,storeCells]

theorem zhV {i:TypeInfo} {z:ai} (ht:P.underlying t=some (.slice e)) (hu:Ks P u) (hi:P.info? e=some i) (hz:i.zero=some z)
 {base:Option Addr} {m:Nat} {nS:List ai} (hlen:Builtin.lenOf y=pure m) (hf:(Builtin.firstCells i.size m y).run P w.drew=.ok news.toArray w.drew)
 (ho:(Builtin.firstCells i.size n (.slice base n c)).run P w.drew=.ok nS.toArray w.drew)
 (hg:c < n+m) (h63:n+m<=1152921504606846976) (mL:(n+m)*i.bytes<=140737488355328) :
 (Builtin.append_ #[t,u] ty #[.slice base n c,y]).run P w =
  .ok (.slice (some ⟨w.heap.size,0,none⟩) (n+m) (grownCap w (n+m) c e)) (w.drew.alloc (.cells ((nS++news)++(Builtin.zeroCells z.cells (grownCap w (n+m) c e - (n+m))).toList).toArray e)):=by
 have hn:¬ (n+m<=c):=by omega
 have Gl:¬ (9223372036854775807 < ((n:Int)+(m:Int))):=by omega
 have W6:=growslice_fits hg mL
 have Gk:¬ (281474976710656 < Builtin.nextslicecap (n+m) c*i.bytes):=by omega
 rcases hu with ⟨e',hd⟩|hd
 .simp [Builtin.append_,run_underlying ht,run_underlying hd,sizeOf,typeInfo,zeroValue,hi,hz,hlen,hn,Gl,Gk,Question.forced,hf,ho,Go.newRow,grownCap]
  congr 2
  apply Array.ext'
  simp
 .simp [Builtin.append_,run_underlying ht,run_underlying hd,sizeOf,typeInfo,zeroValue,hi,hz,hlen,hn,Gl,Gk,Question.forced,hf,ho,Go.newRow,grownCap]
  congr 2
  apply Array.ext'
  simp

theorem zsp (hs:bB ρ h w) {A:Nat} {cs:List ai} (hg:h.get A=some (.row cs e false)) :
 Fr ρ ρ h (h.set A .dead) w w/\bB ρ (h.set A .dead) w:=by
 have oV:A < h.size:=Heap.au hg
 refine ⟨⟨λ_ _ h=>h,λA' L' h1 h2=>(by rw [h1] at h2;cases h2),rfl,rfl,rfl,aS _,aS _,wk _ _,λ_ _ _=>rfl,?_⟩,⟨?_,?_⟩⟩
 .intro A' eG hl
  rw [Heap.cC] at hl
  rw [Heap.aM _ _ _ _ oV,aA (by omega)]
 .intro A' L' eG
  rw [Heap.aM _ _ _ _ oV]
  by_cases e':A'=A
  .subst e'
   rw [aG rfl]
   exact hs.lt eG
  .rw [aA e']
   exact hs.jV A' L' eG
 .intro A1 A2 L1 L2 h1 h2 aO hb
  unfold live lD
  rw [Heap.aM _ _ _ _ oV,Heap.aM _ _ _ _ oV]
  by_cases e1:A1=A
  .left;simp [e1]
  .by_cases e2:A2=A
   .right;left;simp [e2]
   .rw [aA e1,aA e2]
    exact hs.inj A1 A2 L1 L2 h1 h2 aO hb

theorem zsn {cur us:List ai} {s:Nat} (hc:cut cur s n=some m) (hl:s+n+us.length<=cur.length) :
 cut (aJ cur (s+n) us) s (n+us.length)=some (m++us):=by
 obtain ⟨h1,h2,h3⟩:=zJ hc
 refine uP (by rw [zA hl];omega) (by simp [h2]) λi hi=>?_
 rw [cO _ _ _ _ hl,Dc,h2]
 by_cases qh:i < n
 .rw [aG qh,aG (by omega),h3 i qh]
 .rw [aA qh,aA (by omega),aG (by omega)]
  congr 1
  omega

theorem zp9 (hs:bB ρ h w) (fo:ρ h.size=none) {A:Nat} {L:Loc} {cs eh us:List ai} {cur:Array ai} {fz:Nat × Nat} (hA:ρ A=some L) (hg:h.get A=some (.row cs e false))
 (mK:w.heap[L.b]? = some (.cells cur e fz)) (tX:oK e cur.size fz) (tY:cur.size=L.xM) (hm:cut cur.toList (L.s+o) eh.length=some m) (hv:cm ρ eh m) (hn:cm ρ news us)
 (mL:L.s+o+eh.length+us.length<=L.xM) :
 ∃ ρ',ρ' h.size=some ⟨L.b,L.s+o,L.xM⟩/\Fr ρ ρ' h ((h.set A .dead).push (.row (eh++news) e false)) w (w.setRow L.b (aJ cur.toList (L.s+o+eh.length) us).toArray) /\
   bB ρ' ((h.set A .dead).push (.row (eh++news) e false)) (w.setRow L.b (aJ cur.toList (L.s+o+eh.length) us).toArray):=by
 have oV:A < h.size:=Heap.au hg
 have eC:∀ A L',ρ A=some L'->(λA=>if A=h.size then some (⟨L.b,L.s+o,L.xM⟩:Loc) else ρ A) A=some L':=by
  intro A L' hA
  have aO:A≠h.size:=λe=>by rw [e,fo] at hA;cases hA
  simp only [aA aO]
  exact hA
 have tf:=setRow_heap w L.b cur (aJ cur.toList (L.s+o+eh.length) us).toArray e _ mK
 have kB:∀ b,b≠L.b->(w.setRow L.b (aJ cur.toList (L.s+o+eh.length) us).toArray).heap[b]? = w.heap[b]? := λb hb=>setRow_other w L.b b _ hb
 have dC:(w.setRow L.b (aJ cur.toList (L.s+o+eh.length) us).toArray).heap.size=w.heap.size:=by simp [World.setRow]
 have eW:∀ j,((h.set A .dead).push (.row (eh++news) e false)).get j=if j=h.size then some (.row (eh++news) e false) else if j=A then some .dead else h.get j:=by
  intro j
  rw [Heap.bS,Heap.size_set,Heap.aM _ _ _ _ oV]
 have aO:∀ A' L',ρ A'=some L'->A'≠A->live h A'->L'.b≠L.b:=by
  intro A' L' eG e' mb heq
  rcases hs.inj A' A L' L eG hA e' heq with h1|h1|h1
  .exact h1 mb
  .exact h1 ⟨_,hg,by simp⟩
  .obtain ⟨_,NX,e2,qg⟩:=h1
   rw [hg] at qg
   cases qg
 refine ⟨λA=>if A=h.size then some ⟨L.b,L.s+o,L.xM⟩ else ρ A,by simp,⟨eC,?_,rfl,rfl,rfl,by rw [dC];exact aS _,?_,wk _ _,?_,?_⟩,⟨?_,?_⟩⟩
 .intro A' L' eG hn'
  split at eG
  .rename_i e1
   cases eG
   refine ⟨by omega,by rw [Heap.size_push,Heap.size_set];omega,.inr ⟨A,L,hA,rfl,?_,by rw [Heap.size_push,Heap.size_set];omega⟩⟩
   rw [Heap.fw,Heap.cC]
   omega
  .rw [hn'] at eG;cases eG
 .rw [Heap.size_push,Heap.size_set];omega
 .intro b hb aD
  refine kB b λe'=>?_
  subst e'
  have:=aD A L hA rfl
  rw [Heap.fw,Heap.cC,Heap.size_push,Heap.size_set] at this
  omega
 .intro A' eG hl
  rw [Heap.fw,Heap.cC] at hl
  rw [eW,aA (by omega),aA (by omega)]
 .intro A' L' eG
  rw [eW]
  split at eG
  .rename_i e1
   cases eG
   rw [aG e1]
   refine ⟨_,fz,tf,?_,?_,m++us,?_,(hv.append hn).mono eC⟩
   .rw [List.size_toArray,zA (by simp;omega)]
    simpa using tX
   .show (aJ cur.toList (L.s+o+eh.length) us).toArray.size=L.xM
    rw [List.size_toArray,zA (by simp;omega)]
    simpa using tY
   .show cut (aJ cur.toList (L.s+o+eh.length) us) (L.s+o) (eh++news).length=some (m++us)
    rw [dx,hn.1]
    exact zsn hm (by simp;omega)
  .rename_i e1
   rw [aA e1]
   by_cases e2:A'=A
   .rw [aG e2]
    show L'.b < _
    rw [dC]
    exact hs.lt eG
   .rw [aA e2]
    exact (hs.jV A' L' eG).ft eC (by rw [dC];exact aS _) λhl=>kB L'.b (aO A' L' eG e2 hl)
 .intro A1 A2 L1 L2 h1 h2 Hh hb
  unfold live lD
  rw [eW,eW]
  have nI:∀ A' L',A'≠h.size->ρ A'=some L'->L.b=L'.b->¬ ∃ b,(if A'=A then some bc.dead else h.get A')=some b/\b≠.dead:=by
   intro A' L' hh eG wM
   by_cases e2:A'=A
   .simp [e2]
   .rw [aA e2]
    exact λmb=>aO A' L' eG e2 mb wM.symm
  split at h1
  .rename_i e1
   split at h2
   .omega
   .rename_i e2
    cases h1
    right;left
    rw [aA e2]
    exact nI A2 L2 e2 h2 hb
  .rename_i e1
   split at h2
   .rename_i e2
    cases h2
    left
    rw [aA e1]
    exact nI A1 L1 e1 h1 hb.symm
   .rename_i e2
    rw [aA e1,aA e2]
    by_cases f1:A1=A
    .left;simp [f1]
    .by_cases f2:A2=A
     .right;left;simp [f2]
     .rw [aA f1,aA f2]
      exact hs.inj A1 A2 L1 L2 h1 h2 Hh hb

theorem zQ (hk:0 < k) (hG:q < G):G<=G*k+q/\(G*k+q) % G=q/\(G*k+q) / G=k:=by
 refine ⟨?_,?_,?_⟩
 .calc G=G*1:=(Nat.mul_one _).symm
   _<=G*k:=Nat.mul_le_mul_left _ hk
   _<=G*k+q:=Fc _ _
 .rw [Nat.mul_add_mod,Di hG]
 .rw [Nat.mul_add_div (by unfold G;omega),Nat.div_eq_of_lt hG,gw]

theorem zlk (hT:T.Fits P) (hs:bB ρ h w) (bL:el ρ h h') {s s' x x' v:ai} (hu:Ks P u) (nJ:VR ρ s s') (hx:VR ρ x x') (ha:lh T t s x h=some (v,h')) :
 ∃ ρ' vc w',(Builtin.append_ #[t,u] ty #[s',x']).run P w=.ok vc w'/\Fr ρ ρ' h h' w w'/\bB ρ' h' w'/\VR ρ' v vc:=by
 unfold lh at ha
 split at ha
 .rename_i e hd
  have ht:=hT.desc _ _ hd
  simp only [ck,Prod.exists] at ha
  obtain ⟨k,bytes,z,fZ,m,news,mS,ha⟩:=ha
  obtain ⟨i,zv,hi,rfl,rfl,hz,rfl,xA,oA⟩:=hT.info e k bytes z fZ
  obtain ⟨us,qp,HG,hlen,dN⟩:=zkX (P:=P) hs hx mS
  have GW:us.take (m*i.size)=us:=iK (by omega)
  have hf:∀ W:World,W.heap=w.heap->(Builtin.firstCells i.size m x').run P W=.ok us.toArray W:=λW hW=>by
   have:=dN W hW m (aS _)
   rwa [GW] at this
  split at ha
  .rename_i base n c
   split at ha
   .rename_i hm
    subst hm
    cases ha
    have h0:=dN w rfl 0 (aS _)
    simp only [Nat.zero_mul,Ds] at h0
    have key:∃ a' c',s'=.slice a' n c'/\n<=c':=by
     cases nJ with
     |dc=>exact ⟨_,_,rfl,aS _⟩
     |slice hA hc hn eK=>exact ⟨_,_,rfl,hn⟩
     |cG hA hc fm hn hk hm eK=>exact ⟨_,_,rfl,by omega⟩
    obtain ⟨a',c',rfl,hn⟩:=key
    exact ⟨ρ,_,w,zjG ht hu hi hlen h0 hn,Fr.refl _ _ _,hs,nJ⟩
   .rename_i hm
    split at ha
    .cases ha
    .rename_i gE
     simp only [qH,iC,yx,not_or,Bool.not_eq_false] at gE
     obtain ⟨⟨⟨qi,hby⟩,h60⟩,nI⟩:=gE
     have QM:0 < i.size:=by omega
     split at ha
     .rename_i mf
      split at ha
      .rename_i A o
       split at ha
       .rename_i lX
        simp only [bX,cx] at ha
        obtain ⟨h1,Lo,rfl,rfl⟩:=ha
        cases nJ with
        |slice hA hc hn eK =>
         rename_i L ad
         obtain rfl:=eK (by have:=Di hc;omega)
         obtain ⟨w',dh,dm,dH⟩:=Jg (P:=P) hs hA qp Lo
         have qR:c % G=c:=Di hc
         rw [<- na] at dh
         exact ⟨ρ,_,w',SQ ht hu hi hlen (hf w rfl) (by omega) (by rw [Addr.add_mid];exact dh),dm,dH,.slice hA hc (by omega) (λ_=>rfl)⟩
        |cG hA hc fm hn hk Hf eK =>
         rename_i c' L ad
         obtain ⟨w',dh,dm,dH⟩:=Jg (P:=P) hs hA qp Lo
         have lx:c'≠0:=by omega
         obtain ⟨rfl,mL⟩:=eK lx
         rw [<- na] at dh
         exact ⟨ρ,_,w',SQ ht hu hi hlen (hf w rfl) (by omega) (by rw [Addr.add_mid];exact dh),dm,dH,.cG hA hc fm (by omega) hk Hf (λ_=>⟨rfl,mL⟩)⟩
       .cases ha
      .cases ha
     .rename_i mf
      simp only [ck] at ha
      obtain ⟨eh,hold,ha⟩:=ha
      obtain ⟨a',c',mo,rfl,RG,He,hfo⟩:=SZ (P:=P) hs nJ hold
      have Bq:mo.take (n*i.size)=mo:=iK (by omega)
      have Qx:∀ W:World,W.heap=w.heap->(Builtin.firstCells i.size n (.slice a' n c')).run P W=.ok mo.toArray W:=λW hW=>by
       have:=hfo W hW n (aS _)
       rwa [Bq] at this
      have lb:=zQ (q:=n+m) QM (by unfold G;omega)
      have grown:∀ (h2:Heap),bB ρ h2 w->ρ h2.size=none->c' < n+m->∃ ρ' vc w',(Builtin.append_ #[t,u] ty #[.slice a' n c',x']).run P w=.ok vc w'/\Fr ρ ρ' h2 (h2.push (.row (eh++news) e false)) w w'/\bB ρ' (h2.push (.row (eh++news) e false)) w' /\
       VR ρ' (.slice (some ⟨h2.size,0,none⟩) (n+m) (G*i.size+(n+m))) vc:=by
       intro h2 eX BE aW
       have hr:=zhV (w:=w) (ty:=ty) ht hu hi hz hlen (hf w.drew rfl) (Qx w.drew rfl) aW (by omega) (by omega)
       have qU:=grownCap_ge w (n+m) c' e
       have hle:=grownCap_le_maxLen w (n+m) c' e (by unfold maxLen;omega)
       have HO:zv.cells.size=i.size:=by rw [<- ss,xA]
       have G7:((mo++us)++(Builtin.zeroCells zv.cells (grownCap w (n+m) c' e - (n+m))).toList).length=grownCap w (n+m) c' e*i.size:=by
        simp only [dx,He,HG,ss,size_zeroCells,HO,<- oH]
        congr 1
        omega
       have QU:(eh++news).length=(mo++us).length:=by simp [RG.1,qp.1]
       obtain ⟨ρ',hρ,dm,dH⟩:=Et (W:=w.drew.alloc (.cells ((mo++us)++(Builtin.zeroCells zv.cells (grownCap w (n+m) c' e - (n+m))).toList).toArray e)) (cs:=eh++news) (m:=mo++us) eX BE rfl rfl rfl rfl
        (by rw [QU]
            refine uP (by simp) rfl λj hj=>?_
            rw [ia]
            exact (kY (l₂:=(Builtin.zeroCells zv.cells (grownCap w (n+m) c' e - (n+m))).toList) hj).symm)
        (RG.append qp)
       refine ⟨ρ',_,_,hr,dm,dH,?_⟩
       refine .cG hρ lb.1 (by rw [lb.2.1];exact qU) (by rw [lb.2.1];exact aS _) (by rw [lb.2.2];exact QM) hle (λ_=>⟨by simp,?_⟩)
       rw [lb.2.2]
       simp only [List.size_toArray,G7]
       omega
      split at ha
      .rename_i hc
       cases ha
       have qR:c % G=c:=Di hc
       have Bc:c'=c:=by
        cases nJ with
        |dc=>rfl
        |slice hA hc hn eK=>rfl
        |cG hA eO fm hn hk hm eK=>omega
       exact grown h hs (bL _ (aS _) (by rw [Heap.size_push];omega)) (by omega)
      .rename_i hc
       split at ha
       .rename_i A o
        split at ha
        .rename_i cs e' hg
         split at ha
         .rename_i W3
          simp only [dj,iC] at W3
          obtain ⟨rfl,lX⟩:=W3
          cases ha
          cases nJ with
          |slice hA eO hn eK=>omega
          |cG hA eO fm hn hk Hf eK =>
           rename_i L ad
           by_cases aT:n+m<=c'
           .have lx:c'≠0:=by omega
            obtain ⟨rfl,mL⟩:=eK lx
            have hb:=hs.jV A L hA
            rw [hg] at hb
            obtain ⟨cur,fz,mK,tX,tY,m0,xj,RA⟩:=hb
            obtain ⟨k1,k2,k3⟩:=zJ xj
            rw [lX] at mL
            have hmul:(n+m)*i.size<=c'*i.size:=uV _ aT
            rw [oH] at hmul
            have y6:eh.length=n*i.size:=by rw [RG.1];exact He
            have GL:∃ mm,cut cur.toList (L.s+o) eh.length=some mm/\cm ρ eh mm:=by
             simp only [pJ] at hold
             split at hold
             .cases hold
              exact ⟨[],uP (by simp;omega) rfl (by intro i hi;simp at hi),.nil ρ⟩
             .simp only [kL,hg] at hold
              obtain ⟨d,jw,B6⟩:=RA.cut hold
              obtain ⟨d1,d2,d3⟩:=zJ jw
              refine ⟨d,uP (by simp at k1 ⊢;omega) (by rw [y6];exact d2) (λj hj=>?_),B6⟩
              rw [d3 j (by omega),k3 (o+j) (by omega),na]
            obtain ⟨mm,Q2,RF⟩:=GL
            obtain ⟨ρ',hρ,dm,dH⟩:=zp9 hs (bL _ (aS _) (by rw [Heap.size_push,Heap.size_set];omega)) hA hg mK tX tY Q2 RF qp (by omega)
            have dh:=SR P L.b (L.s+o+eh.length) e' fz us 0 cur w mK tX (by simp;omega) (qp.one nI)
            simp only [gw] at dh
            refine ⟨ρ',_,_,SQ ht hu hi hlen (hf w rfl) aT (by rw [Addr.add_mid,<- y6];exact dh),dm,dH,?_⟩
            refine .cG hρ lb.1 (by rw [lb.2.1];exact aT) (by rw [lb.2.1];exact aS _) (by rw [lb.2.2];exact QM) Hf (λ_=>⟨rfl,?_⟩)
            rw [lb.2.2]
            exact mL
           .obtain ⟨fr1,Sx⟩:=zsp hs hg
            obtain ⟨ρ',vc,w',hr,nz,Sy,rp⟩:=grown _ Sx (bL _ (aS _) (by rw [Heap.size_push,Heap.size_set];omega)) (by omega)
            exact ⟨ρ',vc,w',hr,fr1.trans nz,Sy,rp⟩
         .cases ha
        .cases ha
       .cases ha
  .cases ha
 .cases ha

end
end Go.Am
namespace Go.Am
open Go.RowKit
variable {t:TypeId} {v:ai}

theorem Jj {Z:Type} (P:Program):∀ (c:Sem Z) (a:Z),fc P c=some a->∀ w,c.run P w=.ok a w
 | .pure b,a,h,w=>by simp only [fc] at h;cases h;rfl
 | .program k,a,h,w=>by simp only [fc] at h;exact Jj P (k P) a h w
 | .mark m k,a,h,w=>by simp only [fc] at h;exact Jj P k a h w
 | .load ..,_,h,_=>by simp [fc] at h
 | .store ..,_,h,_=>by simp [fc] at h
 | .new ..,_,h,_=>by simp [fc] at h
 | .shape ..,_,h,_=>by simp [fc] at h
 | .freeze ..,_,h,_=>by simp [fc] at h
 | .frozen ..,_,h,_=>by simp [fc] at h
 | .getObj ..,_,h,_=>by simp [fc] at h
 | .setObj ..,_,h,_=>by simp [fc] at h
 | .choose ..,_,h,_=>by simp [fc] at h
 | .sys ..,_,h,_=>by simp [fc] at h
 | .halt ..,_,h,_=>by simp [fc] at h

section
variable {P:Program} {T:bx} {ρ:cf} {h h':Heap} {w:World}

theorem zp4 (hT:T.Fits P) {n:Nat} (hn:de T t=some n):∃ i,P.info? t=some i/\i.size=n:=by
 simp only [de,bX,Prod.exists] at hn
 obtain ⟨a,b,c,hi,rfl⟩:=hn
 obtain ⟨i,zv,h1,h2,_⟩:=hT.info t a b c hi
 exact ⟨i,h1,h2⟩

theorem rC (hT:T.Fits P) {n:Nat} (hn:de T t=some n) (w:World):(sizeOf t).run P w=.ok n w:=by
 obtain ⟨i,hi,rfl⟩:=zp4 hT hn
 simp [sizeOf,typeInfo,hi]

theorem zpb (hT:T.Fits P) (hs:bB ρ h w) {u ty:TypeId} {d d' s s':ai} (hd:VR ρ d d') (nJ:VR ρ s s') (hc:Kv T t d s h=some (v,h')) :
 ∃ vc w',(Builtin.copy_ #[t,u] ty #[d',s']).run P w=.ok vc w'/\Fr ρ ρ h h' w w'/\bB ρ h' w'/\VR ρ v vc:=by
 unfold Kv at hc
 split at hc
 .rename_i e a n c vp
  have ht:=hT.desc _ _ vp
  simp only [ck,Prod.exists] at hc
  obtain ⟨k,hk,m,src,mS,hc⟩:=hc
  obtain ⟨us,qp,HG,hlen,dN⟩:=zkX (P:=P) hs nJ mS
  have dC:=rC hT hk w
  have hf:=dN w rfl (min m n) (wk _ _)
  split at hc
  .rename_i h0
   cases hc
   rw [h0] at hf
   simp only [Nat.zero_mul,Ds] at hf
   have BC:Nat.min m n=0:=h0
   have key:∃ a' c',d'=.slice a' n c':=by cases hd <;> exact ⟨_,_,rfl⟩
   obtain ⟨a',c',rfl⟩:=key
   refine ⟨.int .i64 0,w,?_,Fr.refl _ _ _,hs,.int _ _⟩
   cases a' <;> simp [Builtin.copy_,run_underlying ht,hlen,BC,dC,hf,storeCells,goInt]
  .rename_i h0
   have BC:Nat.min m n=min m n:=rfl
   split at hc
   .rename_i A o
    simp only [bX,cx] at hc
    obtain ⟨h1,Lo,rfl,rfl⟩:=hc
    have key:∃ L c',ρ A=some L/\d'=.slice (some ⟨L.b,L.s+o,none⟩) n c':=by
     cases hd with
     |slice hA hc hn eK =>
      obtain rfl:=eK (by omega)
      exact ⟨_,_,hA,rfl⟩
     |cG hA hc fm hn hk hm eK =>
      obtain ⟨rfl,_⟩:=eK (by omega)
      exact ⟨_,_,hA,rfl⟩
    obtain ⟨L,c',hA,rfl⟩:=key
    obtain ⟨w',dh,dm,dH⟩:=Jg (P:=P) hs hA (qp.take _) Lo
    refine ⟨.int .i64 (min m n:Nat),w',?_,dm,dH,.int _ _⟩
    simp [Builtin.copy_,run_underlying ht,hlen,BC,dC,hf,dh,goInt]
   .cases hc
 .cases hc

theorem zm7 (hT:T.Fits P) (hs:bB ρ h w) {ty:TypeId} {x x':ai} (hx:VR ρ x x') (hc:r8 T t x h=some h') :
 ∃ w',(Builtin.clear_ #[t] ty #[x']).run P w=.ok undef w'/\Fr ρ ρ h h' w w'/\bB ρ h' w':=by
 unfold r8 at hc
 split at hc
 .rename_i e a n c vp
  have ht:=hT.desc _ _ vp
  split at hc
  .rename_i h0
   subst h0
   cases hc
   have key:∃ a' c',x'=.slice a' 0 c':=by cases hx <;> exact ⟨_,_,rfl⟩
   obtain ⟨a',c',rfl⟩:=key
   refine ⟨w,?_,Fr.refl _ _ _,hs⟩
   cases a' <;> simp [Builtin.clear_,run_underlying ht,undef]
  .rename_i h0
   simp only [ck,Prod.exists] at hc
   obtain ⟨k,rN,z,fZ,hc⟩:=hc
   obtain ⟨i,zv,hi,rfl,rfl,hz,rfl,xA,oA⟩:=hT.info e k rN z fZ
   split at hc
   .rename_i A o
    have key:∃ L c',ρ A=some L/\x'=.slice (some ⟨L.b,L.s+o,none⟩) n c':=by
     cases hx with
     |slice hA hc hn eK =>
      obtain rfl:=eK (by omega)
      exact ⟨_,_,hA,rfl⟩
     |cG hA hc fm hn hk hm eK =>
      obtain ⟨rfl,_⟩:=eK (by omega)
      exact ⟨_,_,hA,rfl⟩
    obtain ⟨L,c',hA,rfl⟩:=key
    obtain ⟨w',dh,dm,dH⟩:=Jg (P:=P) hs hA (cm.plain ρ (Ta oA n)) hc
    refine ⟨w',?_,dm,dH⟩
    have hzc:(Builtin.zeroCells zv.cells n).toList=lO zv.cells.toList n:=SV zv.cells n
    obtain ⟨n',rfl⟩:∃ n',n=n'+1:=⟨n - 1,by omega⟩
    simp [Builtin.clear_,run_underlying ht,zeroValue,typeInfo,hi,hz,hzc,dh,undef]
   .cases hc
 .cases hc

theorem zhT (hT:T.Fits P) (hs:bB ρ h w) (bL:el ρ h h') {l l' c c':ai} (hl:VR ρ l l') (hc:VR ρ c c') (hm:Jq T t l c h=some (v,h')) :
 ∃ ρ' vc w',(Instr.makeSlice t l' c').run P w=.ok vc w'/\Fr ρ ρ' h h' w w'/\bB ρ' h' w'/\VR ρ' v vc:=by
 unfold Jq at hm
 split at hm
 .rename_i e k1 l k2 c vp
  cases hl
  cases hc
  have ht:=hT.desc _ _ vp
  simp only [ck,Prod.exists] at hm
  obtain ⟨k,rN,z,fZ,hm⟩:=hm
  obtain ⟨i,zv,hi,rfl,rfl,hz,rfl,xA,oA⟩:=hT.info e k rN z fZ
  split at hm
  .rename_i hh
   obtain ⟨h0,DW,h60,hby⟩:=hh
   cases hm
   have hr:=run_make (P:=P) w t e i zv ht hi hz k1 k2 l c h0 DW (by rw [Int.mul_comm];omega) (by omega)
   have HO:zv.cells.size=i.size:=by rw [<- ss,xA]
   have tD:(madeCells zv.cells (c.toNat*i.size)).toList=lO zv.cells.toList c.toNat:=by
    rw [<- HO]
    exact SV zv.cells c.toNat
   obtain ⟨ρ',hρ,dm,dH⟩:=Et (W:=w.alloc (.cells (madeCells zv.cells (c.toNat*i.size)) e)) (cs:=lO zv.cells.toList c.toNat) (m:=lO zv.cells.toList c.toNat) hs (bL _ (aS _) (by rw [Heap.size_push];omega)) rfl rfl rfl rfl
    (by rw [tD];exact uP (by omega) rfl (λj _=>by rw [ia])) (cm.plain ρ (Ta oA _))
   refine ⟨ρ',_,_,hr,dm,dH,?_⟩
   have:=VR.slice (ρ:=ρ') (o:=0) (n:=l.toNat) (c:=c.toNat) hρ (by unfold G;omega) (by omega) (λ_=>rfl)
   simpa using this
  .cases hm
 .cases hm

theorem zkF (off:Nat):∀ (l:List ai) (k:Nat) (cs:Array ai),off+k+l.length<=cs.size ->
 ((l.zipIdx k).foldl (λcs (x:ai × Nat)=>cs.setIfInBounds (off+x.2) x.1) cs).toList=aJ cs.toList (off+k) l
 | [],k,cs,_=>by simp [aJ]
 |v::l,k,cs,hl=>by
  simp only [List.zipIdx_cons,rL]
  have xc:off+k+(l.length+1)<=cs.size:=by simpa using hl
  rw [zkF off l (k+1) _ (by simp;omega)]
  apply uY
  intro i
  rw [cO _ _ _ _ (by simp;omega),cO _ _ _ _ (by simp;omega)]
  simp only [Array.toList_setIfInBounds,Fa,dB,ss]
  by_cases h1:i < off+k
  .rw [aG h1,aG (by omega),aA (by omega)]
  .rw [aA h1]
   by_cases h2:i=off+k
   .subst h2
    rw [aG (by omega),aG rfl,aG (by omega),aG (by omega)]
    simp
   .rw [aA (by omega)]
    by_cases h3:i < off+k+(l.length+1)
    .rw [aG (by omega),aG h3]
     obtain ⟨j,rfl⟩:∃ j,i=off+k+1+j:=⟨i - (off+k+1),by omega⟩
     rw [show off+k+1+j - (off+(k+1))=j by omega,show off+k+1+j - (off+k)=j+1 by omega]
     simp
    .rw [aA (by omega),aA h3,aA (by omega)]

theorem Ju {place place':Nat->Option (Nat × Nat)} (hp:∀ i r,place i=some r->place' i=some r):∀ (parts db:List (Nat × ai)) (cs la:List ai) (ds:Array ai),
 parts.length=db.length->(∀ (i:Nat) (x y:Nat × ai),parts[i]? = some x->db[i]? = some y->x.1=y.1/\VR ρ x.2 y.2)->cm ρ cs ds.toList->n8 place cs parts=some la ->
 ∃ KQ,Instr.fill place' ds db=some KQ/\cm ρ la KQ.toList
 | [],[],cs,la,ds,_,_,hv,hf=>by
  simp only [n8] at hf
  cases hf
  exact ⟨ds,rfl,hv⟩
 |(i,v)::parts,(j,u)::db,cs,la,ds,hlen,aD,hv,hf=>by
  obtain ⟨ej,nj⟩:=aD 0 _ _ rfl rfl
  simp only at ej nj
  subst ej
  simp only [n8,ck,Prod.exists] at hf
  obtain ⟨o,n,xu,hf⟩:=hf
  split at hf
  .rename_i hc
   have kn:u.cells.size=v.cells.size:=by have:=nj.cells.1;simpa using this.symm
   have W2:ds.size=cs.length:=by have:=hv.1;simpa using this.symm
   have GV:=zkF o u.cells.toList 0 ds (by simp;omega)
   have GQ:(u.cells.zipIdx.foldl (λcs (x:ai × Nat)=>cs.setIfInBounds (o+x.2) x.1) ds).toList=aJ ds.toList o u.cells.toList:=by
    rw [<- Array.foldl_toList,Array.toList_zipIdx]
    simpa using GV
   have rk:cm ρ (aJ cs o v.cells.toList) (u.cells.zipIdx.foldl (λcs (x:ai × Nat)=>cs.setIfInBounds (o+x.2) x.1) ds).toList:=by
    rw [GQ]
    exact hv.aJ o nj.cells
   obtain ⟨KQ,iR,jw⟩:=Ju hp parts db _ la _ (by simpa using hlen) (λi x y hx hy=>aD (i+1) x y (by simpa using hx) (by simpa using hy)) rk hf
   refine ⟨KQ,?_,jw⟩
   simp only [Instr.fill,hp i _ xu]
   rw [aA (by simp;omega)]
   exact iR
  .cases hf
 | [],_::_,_,_,_,hlen,_,_,_=>by simp at hlen
 |_::_,[],_,_,_,hlen,_,_,_=>by simp at hlen

theorem ZD (hT:T.Fits P):∀ (fs:List Field) (ps:List (Nat × Nat)) (w:World),JZ T fs=some ps->(fs.mapM λf=>do pure (f.offset,<- sizeOf f.type):Sem (List (Nat × Nat))).run P w=.ok ps w
 | [],ps,w,hp=>by simp only [JZ] at hp;cases hp;simp
 |f::fs,ps,w,hp=>by
  simp only [JZ,ck,bX] at hp
  obtain ⟨n,hn,r,hr,rfl⟩:=hp
  rw [List.mapM_cons]
  simp only [Sem.run_bind,rC hT hn,Result.andThen_ok,Sem.run_pure]
  have ih:=ZD hT fs r w hr
  rw [ih]
  rfl

theorem zm0 (hT:T.Fits P) {parts db:List (Nat × ai)} (hlen:parts.length=db.length)
 (aD:∀ (i:Nat) (x y:Nat × ai),parts[i]? = some x->db[i]? = some y->x.1=y.1/\VR ρ x.2 y.2) (hb:mu T t parts=some v) (w:World) :
 ∃ vc,(Instr.build t db.toArray).run P w=.ok vc w/\VR ρ v vc:=by
 simp only [mu,ck,Prod.exists] at hb
 obtain ⟨k,rN,z,fZ,hb⟩:=hb
 obtain ⟨i,zv,hi,rfl,rfl,hz,rfl,xA,oA⟩:=hT.info t k rN z fZ
 split at hb
 .rename_i fs hd
  have ht:=hT.desc _ _ hd
  simp only [ck,bX] at hb
  obtain ⟨ps,tK,cs,hf,rfl⟩:=hb
  obtain ⟨ds,iR,jw⟩:=Ju (ρ:=ρ) (place':=(ps.toArray[·]?)) (λi r hr=>by simpa using hr) parts db _ cs zv.cells hlen aD (cm.plain ρ oA) hf
  refine ⟨.agg ds,?_,?_⟩
  .have hm:=ZD hT fs.toList ps w tK
   have tC:(fs.mapM λf=>do pure (f.offset,<- sizeOf f.type):Sem (Array (Nat × Nat))).run P w=.ok ps.toArray w:=by
    rw [Array.mapM_eq_mapM_toList]
    simp only [Sem.run_map,hm,Result.andThen_ok]
   simp only [Instr.build,zeroValue,typeInfo,Sem.run_bind,run_program,Result.andThen_ok,hi,Sem.run_pure,hz,run_underlying ht,tC,iR]
  .have:=jw.toArray
   simpa using this
 .rename_i n e hd
  have ht:=hT.desc _ _ hd
  simp only [ck,bX] at hb
  obtain ⟨k,hk,cs,hf,rfl⟩:=hb
  obtain ⟨ds,iR,jw⟩:=Ju (ρ:=ρ) (place':=λi=>some (i*k,k)) (λi r hr=>hr) parts db _ cs zv.cells hlen aD (cm.plain ρ oA) hf
  refine ⟨.agg ds,?_,?_⟩
  .simp only [Instr.build,zeroValue,typeInfo,Sem.run_bind,run_program,Result.andThen_ok,hi,Sem.run_pure,hz,run_underlying ht,rC hT hk,iR]
  .have:=jw.toArray
   simpa using this
 .cases hb

theorem zgK (hT:T.Fits P) (hs:bB ρ h w) (bL:el ρ h h') {len:Nat} {parts db:List (Nat × ai)} (hlen:parts.length=db.length)
 (aD:∀ (i:Nat) (x y:Nat × ai),parts[i]? = some x->db[i]? = some y->x.1=y.1/\VR ρ x.2 y.2) (hb:uE T t len parts h=some (v,h')) :
 ∃ ρ' vc w',(Instr.buildSlice t len db.toArray).run P w=.ok vc w'/\Fr ρ ρ' h h' w w'/\bB ρ' h' w'/\VR ρ' v vc:=by
 unfold uE at hb
 split at hb
 .rename_i e hd
  have ht:=hT.desc _ _ hd
  simp only [ck,Prod.exists] at hb
  obtain ⟨k,rN,z,fZ,hb⟩:=hb
  obtain ⟨i,zv,hi,rfl,rfl,hz,rfl,xA,oA⟩:=hT.info e k rN z fZ
  split at hb
  .cases hb
  .rename_i Rr
   simp only [qH,iC,not_or] at Rr
   obtain ⟨Rr,aeF⟩:=Rr
   have hG:len < G:=by unfold G;omega
   simp only [bX,cx] at hb
   obtain ⟨cs,hf,rfl,rfl⟩:=hb
   have HO:zv.cells.size=i.size:=by rw [<- ss,xA]
   by_cases h0:len*i.size=0
   .have po:lO zv.cells.toList len=[]:=by
     apply JK
     rw [zlM,xA]
     exact h0
    rw [po] at hf
    obtain ⟨ds,iR,jw⟩:=Ju (ρ:=ρ) (place':=λj=>some (j*i.size,i.size)) (λi r hr=>hr) parts db _ cs #[] hlen aD (.nil ρ) hf
    obtain ⟨ρ',hρ,dm,dH⟩:=Et (W:=w.alloc (.cells ds e)) (cs:=cs) (m:=ds.toList) hs (bL _ (aS _) (by rw [Heap.size_push];omega)) rfl rfl rfl rfl (by rw [jw.1];exact uP (by omega) rfl (λj _=>by rw [ia])) jw
    refine ⟨ρ',.slice (some ⟨w.heap.size,0,none⟩) len len,w.alloc (.cells ds e),?_,dm,dH,?_⟩
    .have Hz:¬ (16777216 < len*i.size):=by omega
     simp [Instr.buildSlice,run_underlying ht,sizeOf,typeInfo,hi,h0,Array.range_zero',iR,Go.newRow]
    .have:=VR.slice (ρ:=ρ') (o:=0) (n:=len) (c:=len) hρ hG (aS _) (λ_=>rfl)
     simpa using this
   .have tD:((Array.range (len*i.size)).map (zv.cells[· % zv.cells.size]!)).toList=lO zv.cells.toList len:=by
     have:=SV zv.cells len
     simp only [HO] at this ⊢
     exact this
    obtain ⟨ds,iR,jw⟩:=Ju (ρ:=ρ) (place':=λj=>some (j*i.size,i.size)) (λi r hr=>hr) parts db _ cs ((Array.range (len*i.size)).map (zv.cells[· % zv.cells.size]!)) hlen aD
     (by rw [tD];exact cm.plain ρ (Ta oA _)) hf
    obtain ⟨ρ',hρ,dm,dH⟩:=Et (W:=w.alloc (.cells ds e)) (cs:=cs) (m:=ds.toList) hs (bL _ (aS _) (by rw [Heap.size_push];omega)) rfl rfl rfl rfl (by rw [jw.1];exact uP (by omega) rfl (λj _=>by rw [ia])) jw
    refine ⟨ρ',.slice (some ⟨w.heap.size,0,none⟩) len len,w.alloc (.cells ds e),?_,dm,dH,?_⟩
    .have Hz:¬ (16777216 < len*i.size):=by omega
     simp only [Instr.buildSlice,Sem.run_bind,run_underlying ht,Result.andThen_ok,sizeOf,typeInfo,run_program,hi,Sem.run_pure,gt_iff_lt]
     simp [Hz,h0,zeroValue,typeInfo,hi,hz,iR,Go.newRow]
    .have:=VR.slice (ρ:=ρ') (o:=0) (n:=len) (c:=len) hρ hG (aS _) (λ_=>rfl)
     simpa using this
 .cases hb

end
end Go.Am
namespace Go.Am
open Go.RowKit
variable {v x y:ai} {t:TypeId}

section
variable {P:Program} {T:bx} {ρ:cf} {h h':Heap} {w:World}

theorem LO {hi i:Nat} (cJ:VR ρ x y) (hb:uT x hi=some i) {qh:Nat} (hle:hi<=qh) (code:BoundsCode) (w:World):(Instr.sliceBound y qh code).run P w=.ok i w/\i<=hi:=by
 cases cJ with
 |int k n =>
  simp only [uT] at hb
  split at hb
  .rename_i hc
   cases hb
   have eO:0<=n/\n<=(qh:Int):=⟨hc.1,by omega⟩
   exact ⟨by simp [Instr.sliceBound,asIntOf,eO],by omega⟩
  .cases hb
 |_=>simp [uT] at hb

def oJ (ρ:cf):Option ai->Option ai->Prop
 |none,none=>True
 |some x,some y=>VR ρ x y
 |_,_=>False

theorem Jh {len cap AH l' h' m':Nat} {l h m ll hh mm:Option ai} (hl:oJ ρ l ll) (tp:oJ ρ h hh) (hm:oJ ρ m mm) (hb:oC len cap l h m=some (l',h',m')) (hlen:len<=cap) (oX:cap<=AH) (qv:Bool) (w:World) :
 (Instr.sliceBounds qv len AH ll hh mm).run P w=.ok (l',h',if m.isSome then m' else AH) w/\l'<=h'/\h'<=m'/\m'<=cap:=by
 simp only [oC,ck,dy,cx] at hb
 obtain ⟨m1,ga,h1,vt,l1,ky,rfl,rfl,rfl⟩:=hb
 have uo:∀ (code:BoundsCode),(match ll with|some v=>Instr.sliceBound v h1 code|none=>(pure 0:Sem Nat)).run P w=.ok l1 w/\l1<=h1:=by
  intro code
  cases l with
  |none=>cases ll with
   |none=>simp only [dy] at ky;subst ky;exact ⟨rfl,jv _⟩
   |some v=>exact hl.elim
  |some x=>cases ll with
   |none=>exact hl.elim
   |some v=>exact LO hl ky (aS _) code w
 cases m with
 |none =>
  cases mm with
  |some v=>exact hm.elim
  |none =>
   simp only [dy] at ga
   subst ga
   cases h with
   |none=>cases hh with
    |some v=>exact tp.elim
    |none =>
     simp only [dy] at vt
     subst vt
     obtain ⟨k1,k2⟩:=uo .sliceB
     refine ⟨?_,k2,hlen,aS _⟩
     simp only [Instr.sliceBounds,Sem.run_bind,Sem.run_pure,Result.andThen_ok,zX,fF,if_false]
     cases ll with
     |none =>
      have e:l1=0:=by have:=k1;simp at this;exact this.symm
      simp [e]
     |some u =>
      have e:(Instr.sliceBound u len .sliceB).run P w=.ok l1 w:=k1
      simp only [Sem.run_bind,e,Result.andThen_ok,Sem.run_pure]
   |some x=>cases hh with
    |none=>exact tp.elim
    |some v =>
     have ng:=LO (P:=P) tp vt oX (if qv then BoundsCode.sliceAcap else .sliceAlen) w
     obtain ⟨k1,k2⟩:=uo .sliceB
     refine ⟨?_,k2,ng.2,aS _⟩
     simp only [Instr.sliceBounds,Sem.run_bind,Sem.run_pure,Result.andThen_ok,zX,fF,if_false,ng.1]
     cases ll with
     |none =>
      have e:l1=0:=by have:=k1;simp at this;exact this.symm
      simp [e]
     |some u =>
      have e:(Instr.sliceBound u h1 .sliceB).run P w=.ok l1 w:=k1
      simp only [Sem.run_bind,e,Result.andThen_ok,Sem.run_pure]
 |some q =>
  cases mm with
  |none=>exact hm.elim
  |some v =>
   have WW:=LO (P:=P) hm ga oX (if qv then BoundsCode.slice3Acap else .slice3Alen) w
   cases h with
   |none=>cases vt
   |some x=>cases hh with
    |none=>exact tp.elim
    |some v' =>
     have ng:=LO (P:=P) tp vt (aS _) BoundsCode.slice3B w
     obtain ⟨k1,k2⟩:=uo .slice3C
     refine ⟨?_,k2,ng.2,WW.2⟩
     simp only [Instr.sliceBounds,Sem.run_bind,Result.andThen_ok,E0,if_true,WW.1,ng.1]
     cases ll with
     |none =>
      have e:l1=0:=by have:=k1;simp at this;exact this.symm
      simp [e]
     |some u =>
      have e:(Instr.sliceBound u h1 .slice3C).run P w=.ok l1 w:=k1
      simp only [Sem.run_bind,e,Result.andThen_ok,Sem.run_pure]

theorem zog (hT:T.Fits P) {l hi m ll hh mm:Option ai} (cJ:VR ρ x y) (hl:oJ ρ l ll) (tp:oJ ρ hi hh) (hm:oJ ρ m mm) (hs:jQ T t x l hi m=some v) (w:World) :
 ∃ vc,(Instr.sliceAt t y ll hh mm).run P w=.ok vc w/\VR ρ v vc:=by
 unfold jQ at hs
 split at hs
 .rename_i s hd
  cases cJ
  have ht:=hT.desc _ _ hd
  split at hs
  .cases hs
  .rename_i Q3
   have xj:m=none:=by cases m <;> simp_all
   subst xj
   have Q2:mm=none:=by cases mm with|none=>rfl|some _=>exact hm.elim
   subst Q2
   simp only [bX,Prod.exists] at hs
   obtain ⟨l',h',m',hb,rfl⟩:=hs
   obtain ⟨k1,k2,k3,k4⟩:=Jh (P:=P) (m:=none) (mm:=none) hl tp trivial hb (aS _) (aS _) false w
   refine ⟨_,?_,.string _⟩
   simp [Instr.sliceAt,Instr.slice,run_underlying ht,k1]
 .rename_i n e A o hd
  cases cJ with
  |ptr hA =>
   rename_i L
   have ht:=hT.desc _ _ hd
   simp only [ck,bX,Prod.exists] at hs
   obtain ⟨l',h',m',hb,k,hk,rfl⟩:=hs
   have hnG:n < G:=by
    rcases ln n G with aW|qU
    .exact aW
    .rw [aA (by omega)] at hb;cases hb
   rw [aG hnG] at hb
   obtain ⟨k1,k2,k3,k4⟩:=Jh (P:=P) hl tp hm hb (aS _) (aS _) false w
   have xi:(if m.isSome then m' else n)=m':=by
    cases m with
    |some _=>rfl
    |none =>
     simp only [oC,ck,dy,cx] at hb
     obtain ⟨m1,ga,h1,vt,l1,ky,rfl,rfl,rfl⟩:=hb
     simp [ga]
   rw [xi] at k1
   have dC:=rC hT hk w
   refine ⟨.slice (some (if m'=l' then ⟨L.b,L.s+o,none⟩ else (⟨L.b,L.s+o,none⟩:Addr).add (l'*k))) (h' - l') (m' - l'),?_,?_⟩
   .simp only [Instr.sliceAt,Sem.run_bind,run_underlying ht,Result.andThen_ok,Instr.sureAddr,Sem.run_pure,k1,dC]
   .by_cases hG:m' - l' < G
    .refine .slice hA hG (by omega) (λh0=>?_)
     rw [aA (by omega),aA (by omega),Addr.add_mid,na]
    .exfalso
     omega
 .rename_i e a n c hd
  have ht:=hT.desc _ _ hd
  simp only [ck] at hs
  obtain ⟨k,hk,hs⟩:=hs
  have dC:=rC hT hk w
  split at hs
  .rename_i hcG
   simp only [ck,Prod.exists] at hs
   obtain ⟨l',h',m',hb,hs⟩:=hs
   have xi:(if m.isSome then m' else c)=m':=by
    cases m with
    |some _=>rfl
    |none =>
     simp only [oC,ck,dy,cx] at hb
     obtain ⟨m1,ga,h1,vt,l1,ky,rfl,rfl,rfl⟩:=hb
     simp [ga]
   cases cJ with
   |dc =>
    obtain ⟨k1,k2,k3,k4⟩:=Jh (P:=P) hl tp hm hb (aS _) (aS _) true w
    rw [xi] at k1
    simp only [dy] at hs
    subst hs
    have e1:h' - l'=0:=by omega
    have e2:m' - l'=0:=by omega
    refine ⟨.slice none (h' - l') (m' - l'),?_,by rw [e1,e2];exact .dc⟩
    simp [Instr.sliceAt,Instr.slice,run_underlying ht,k1,dC]
   |slice hA hc hn eK =>
    rename_i A o L ad
    obtain ⟨k1,k2,k3,k4⟩:=Jh (P:=P) hl tp hm hb hn (aS _) true w
    rw [xi] at k1
    simp only [dy] at hs
    subst hs
    refine ⟨.slice (if m'=l' then some ad else some (ad.add (l'*k))) (h' - l') (m' - l'),?_,?_⟩
    .simp [Instr.sliceAt,Instr.slice,run_underlying ht,k1,dC]
    .have hx:(if m'=l' then some ad else some (ad.add (l'*k)))=some (if m'=l' then ad else ad.add (l'*k)):=by split <;> rfl
     rw [hx]
     refine .slice hA (by omega) (by omega) (λh0=>?_)
     rw [aA (by omega),aA (by omega),eK (by omega),Addr.add_mid,na]
   |cG hA hc fm hn iw Hf eK=>omega
  .rename_i hcG
   split at hs
   .rename_i A o
    split at hs
    .rename_i lX
     simp only [bX,Prod.exists] at hs
     obtain ⟨l',h',m',hb,rfl⟩:=hs
     cases cJ with
     |slice hA hc hn eK=>omega
     |cG hA hc fm hn iw Hf eK =>
      rename_i c' L ad
      obtain ⟨k1,k2,k3,k4⟩:=Jh (P:=P) hl tp hm hb hn fm true w
      cases m with
      |some q =>
       simp only [E0,if_true] at k1
       refine ⟨.slice (if m'=l' then some ad else some (ad.add (l'*k))) (h' - l') (m' - l'),?_,?_⟩
       .simp [Instr.sliceAt,Instr.slice,run_underlying ht,k1,dC]
       .have hx:(if m'=l' then some ad else some (ad.add (l'*k)))=some (if m'=l' then ad else ad.add (l'*k)):=by split <;> rfl
        rw [hx]
        have aW:c % G < G:=Nat.mod_lt _ (by unfold G;omega)
        refine .slice hA (by omega) (by omega) (λh0=>?_)
        rw [aA (by omega),aA (by omega),(eK (by omega)).1,Addr.add_mid,na]
      |none =>
       simp only [zX,fF,if_false] at k1
       have ga:m'=c % G:=by
        simp only [oC,ck,dy,cx] at hb
        obtain ⟨m1,ga,h1,vt,l1,ky,rfl,rfl,rfl⟩:=hb
        exact ga.symm
       subst ga
       refine ⟨.slice (if c'=l' then some ad else some (ad.add (l'*k))) (h' - l') (c' - l'),?_,?_⟩
       .simp [Instr.sliceAt,Instr.slice,run_underlying ht,k1,dC]
       .have hx:(if c'=l' then some ad else some (ad.add (l'*k)))=some (if c'=l' then ad else ad.add (l'*k)):=by split <;> rfl
        rw [hx]
        have aW:c % G < G:=Nat.mod_lt _ (by unfold G;omega)
        have lb:=zQ (k:=k) (q:=c % G - l') (by omega) (by omega)
        refine .cG hA lb.1 (by rw [lb.2.1];omega) (by rw [lb.2.1];omega) (by rw [lb.2.2];omega) (by omega) (λh0=>?_)
        obtain ⟨rfl,mL⟩:=eK (by omega)
        rw [aA (by omega),Addr.add_mid,lb.2.2]
        refine ⟨by rw [na],?_⟩
        rw [lX] at mL
        have e1:c'*k=l'*k+(c' - l')*k:=by rw [<- oH];congr 1;omega
        omega
    .cases hs
   .cases hs
 .cases hs

theorem zhQ (hT:T.Fits P) {i j:ai} (cJ:VR ρ x y) (ej:VR ρ i j) (hs:jq T t x i=some v) (w:World) :
 ∃ vc,(Instr.indexAt t y j).run P w=.ok vc w/\VR ρ v vc:=by
 unfold jq at hs
 split at hs
 .rename_i k i
  cases ej
  split at hs
  .rename_i n e A o hd
   cases cJ with
   |ptr hA =>
    rename_i L
    have ht:=hT.desc _ _ hd
    split at hs
    .rename_i hi
     simp only [bX] at hs
     obtain ⟨q,hq,rfl⟩:=hs
     refine ⟨.pointer (some ⟨L.b,L.s+(o+i.toNat*q),none⟩),?_,.ptr hA⟩
     simp [Instr.indexAt,asIntOf,run_underlying ht,Instr.sureAddr,hi,rC hT hq,Addr.add_mid,na]
    .cases hs
  .rename_i e A o n c hd
   have ht:=hT.desc _ _ hd
   split at hs
   .rename_i hi
    simp only [bX] at hs
    obtain ⟨q,hq,rfl⟩:=hs
    have key:∃ L c',ρ A=some L/\y=.slice (some ⟨L.b,L.s+o,none⟩) n c':=by
     cases cJ with
     |slice hA hc hn eK =>
      obtain rfl:=eK (by omega)
      exact ⟨_,_,hA,rfl⟩
     |cG hA hc fm hn hk hm eK =>
      obtain ⟨rfl,_⟩:=eK (by omega)
      exact ⟨_,_,hA,rfl⟩
    obtain ⟨L,c',hA,rfl⟩:=key
    refine ⟨.pointer (some ⟨L.b,L.s+(o+i.toNat*q),none⟩),?_,.ptr hA⟩
    simp [Instr.indexAt,asIntOf,run_underlying ht,hi,rC hT hq,Addr.add_mid,na]
   .cases hs
  .cases hs
 .cases hs

theorem zhO (hT:T.Fits P) {f:Nat} (cJ:VR ρ x y) (hs:kP T t x f=some v) (w:World) :
 ∃ vc,(Instr.fieldAt t y f).run P w=.ok vc w/\VR ρ v vc:=by
 unfold kP at hs
 split at hs
 .rename_i fs A o hd
  cases cJ with
  |ptr hA =>
   rename_i L
   have ht:=hT.desc _ _ hd
   simp only [ck] at hs
   obtain ⟨fl,hf,n,hn,hs⟩:=hs
   split at hs
   .cases hs
   .rename_i h0
    cases hs
    refine ⟨.pointer (some ⟨L.b,L.s+(o+fl.offset),none⟩),?_,.ptr hA⟩
    simp [Instr.fieldAt,run_underlying ht,hf,Instr.sureAddr,fieldPlace,rC hT hn,h0,Addr.add_mid,na]
 .cases hs

theorem zjs (hT:T.Fits P) {cs:List ai} {ds:Array ai} {o:Nat} (hv:cm ρ cs ds.toList) (hs:yp T t cs o=some v) (w:World) :
 ∃ vc,(part t ds o).run P w=.ok vc w/\VR ρ v vc:=by
 simp only [yp,cT,ck,bX] at hs
 obtain ⟨g,⟨d,hd,hg⟩,hs⟩:=hs
 have ht:=hT.desc _ _ hd
 have mI:(isAgg t).run P w=.ok g w:=by
  unfold isAgg
  rw [Sem.run_bind,run_underlying ht w]
  cases d <;> simp_all
 cases g with
 |true =>
  simp only [if_true,ck,bX] at hs
  obtain ⟨n,hn,l,hl,rfl⟩:=hs
  obtain ⟨d',ko,B6⟩:=hv.cut hl
  refine ⟨.agg d'.toArray,?_,B6.toArray⟩
  have hx:ds.extract o (o+n)=d'.toArray:=by
   unfold cut at ko
   split at ko
   .cases ko
    apply Array.ext'
    simp [List.take_drop]
   .cases ko
  simp [part,mI,rC hT hn,hx]
 |false =>
  simp only [fF,if_false] at hs
  obtain ⟨u,hu,nj⟩:=hv.get hs
  refine ⟨u,?_,nj⟩
  have vy:ds[o]? = some u:=by simpa using hu
  simp [part,mI,vy]

theorem znv (hT:T.Fits P) {f:Nat} (cJ:VR ρ x y) (hs:M5 T t x f=some v) (w:World) :
 ∃ vc,(Instr.field t y f).run P w=.ok vc w/\VR ρ v vc:=by
 unfold M5 at hs
 split at hs
 .rename_i fs cs hd
  have ht:=hT.desc _ _ hd
  simp only [ck] at hs
  obtain ⟨fl,hf,hs⟩:=hs
  cases cJ with
  |agg hc hh =>
   rename_i ds
   obtain ⟨vc,hr,hv⟩:=zjs hT (VR.agg hc hh).An hs w
   refine ⟨vc,?_,hv⟩
   simp [Instr.field,run_underlying ht,hf,asAgg,hr]
 .cases hs

theorem zlo {op:BinOp} (hs:oB op x y=some v):fc P (binOp op t x y)=some v/\plain x=true/\plain y=true/\plain v=true/\(∃ k a,x=.int k a):=by
 unfold oB at hs
 split at hs <;> first|(cases hs;done)|(split at hs <;> first|(cases hs;done)|(rename_i hk;subst hk;cases hs;exact ⟨by simp [binOp,Op.intArith,Op.intCmp,fc,pure],rfl,rfl,rfl,_,_,rfl⟩))

theorem zpj {d:TypeDesc} (hd:P.underlying t=some d) {x' y':ai} {b:Bool} (hx:VR ρ x x') (hy:VR ρ y y') (he:Ad d x y=some b) (w:World) :
 (Op.equal t x' y').run P w=.ok b w/\∀ (op:BinOp),op=.eql\/op=.neq->binOp op t x' y'=(if op=.eql then (do pure (.bool (<- Op.equal t x' y'))) else (do pure (.bool (!(<- Op.equal t x' y'))))):=by
 have key:(∀ d0:Nat,(Op.equalIn (d0+1) t x' y').run P w=.ok b w)/\∀ (op:BinOp),op=.eql\/op=.neq->binOp op t x' y'=(if op=.eql then (do pure (.bool (<- Op.equal t x' y'))) else (do pure (.bool (!(<- Op.equal t x' y'))))):=by
  unfold Ad at he
  split at he <;> first
   |(cases he;done)
   |(cases hx <;> cases hy <;> simp at he <;> subst he <;> exact ⟨λd0=>by simp [Op.equalIn,run_underlying hd],by rintro op (rfl|rfl) <;> rfl⟩)
 exact ⟨key.1 9999,key.2⟩

theorem LM (op:BinOp) (t:TypeId) (x y:Operand) (a b:ai) (ha:a≠.nilIface) (mI:∀ c d,a=.agg c->b=.agg d->P.eqGuardType P.depth t=false) (w:World):(eqGuard op t x y a b).run P w=.ok () w:=by
 unfold eqGuard
 cases op <;> simp only [Bool.not_true,Bool.not_false,if_true,if_false,fF] <;> try rfl
 all_goals
  cases a <;> first|exact (ha rfl).elim|skip
 all_goals
  cases b <;> first|rfl|skip
 all_goals
  simp [mI _ _ rfl rfl]

theorem Ep (hT:T.Fits P) {cs:Array ai} {o:Nat} (hs:yp T t cs.toList o=some v) (w:World):(part t cs o).run P w=.ok v w:=by
 simp only [yp,cT,ck,bX] at hs
 obtain ⟨g,⟨d,hd,hg⟩,hs⟩:=hs
 have ht:=hT.desc _ _ hd
 have mI:(isAgg t).run P w=.ok g w:=by
  unfold isAgg
  rw [Sem.run_bind,run_underlying ht w]
  cases d <;> simp_all
 cases g with
 |true =>
  simp only [if_true,ck,bX] at hs
  obtain ⟨n,hn,l,hl,rfl⟩:=hs
  have hx:cs.extract o (o+n)=l.toArray:=by
   unfold cut at hl
   split at hl
   .cases hl
    apply Array.ext'
    simp [List.take_drop]
   .cases hl
  simp [part,mI,rC hT hn,hx]
 |false =>
  simp only [fF,if_false] at hs
  have vy:cs[o]? = some v:=by simpa using hs
  simp [part,mI,vy]
theorem Zs (hT:T.Fits P) {E:TypeId->ai->ai->Option Bool} {d:Nat} (w:World) (hE:∀ t x y b,E t x y=some b->(Op.equalIn d t x y).run P w=.ok b w) (xs ys:Array ai) :
 ∀ (fs:List Field) (ps:List (TypeId × Nat)) (b:Bool),Eb fs=some ps->yf T E xs.toList ys.toList ps=some b->(Op.eqFields d xs ys fs).run P w=.ok b w
 | [],ps,b,hp,he=>by
  cases hp
  cases he
  simp [Op.eqFields]
 |f::fs,ps,b,hp,he=>by
  simp only [Eb] at hp
  split at hp
  .cases hp
  .rename_i hn
   simp only [bX] at hp
   obtain ⟨r,hr,rfl⟩:=hp
   simp only [yf,ck] at he
   obtain ⟨a,ha,c,hc,q,hq,he⟩:=he
   have h1:=Ep hT ha w
   have h2:=Ep hT hc w
   have h3:=hE _ _ _ _ hq
   simp only [Op.eqFields]
   rw [aG (by simpa using hn)]
   simp only [Sem.run_bind,h1,h2,h3,Result.andThen_ok]
   cases q with
   |false =>
    simp only [fF,if_false,dy] at he
    subst he
    simp
   |true =>
    simp only [if_true] at he
    simpa using Zs hT w hE xs ys fs r b hr he
theorem Zy (hT:T.Fits P) {E:TypeId->ai->ai->Option Bool} {d:Nat} (w:World) (hE:∀ t x y b,E t x y=some b->(Op.equalIn d t x y).run P w=.ok b w) (xs ys:Array ai) (e:TypeId) (k:Nat) :
 ∀ (n i:Nat) (b:Bool),yf T E xs.toList ys.toList (En e k n i)=some b->(Op.eqItems d e k xs ys (List.range' i n)).run P w=.ok b w
 |0,i,b,he=>by
  cases he
  simp [Op.eqItems]
 |n+1,i,b,he=>by
  simp only [En,yf,ck] at he
  obtain ⟨a,ha,c,hc,q,hq,he⟩:=he
  have h1:=Ep hT ha w
  have h2:=Ep hT hc w
  have h3:=hE _ _ _ _ hq
  simp only [List.range'_succ,Op.eqItems,Sem.run_bind,h1,h2,h3,Result.andThen_ok]
  cases q with
  |false =>
   simp only [fF,if_false,dy] at he
   subst he
   simp
  |true =>
   simp only [if_true] at he
   simpa using Zy hT w hE xs ys e k n (i+1) b he
theorem Jo (hT:T.Fits P) (w:World):∀ (d D:Nat) (t:TypeId) (x y:ai) (b:Bool),cV T d t x y=some b->(Op.equalIn (D+d) t x y).run P w=.ok b w
 |0,_,_,_,_,_,he=>by simp [cV] at he
 |d+1,D,t,x,y,b,he=>by
  unfold cV at he
  split at he
  .rename_i a c hd
   cases he
   exact run_equalIn_bool w (D+d) t a c (hT.desc _ _ hd)
  .rename_i q k a k' c hd
   split at he
   .rename_i hk
    subst hk
    cases he
    exact run_equalIn_int w (D+d) t k q a c (hT.desc _ _ hd)
   .cases he
  .rename_i a c hd
   cases he
   rw [show D+(d+1)=(D+d)+1 from rfl,run_equalIn_string w (D+d) t a c (hT.desc _ _ hd),ByteArray.toList_eq,ByteArray.toList_eq]
  .rename_i fs xs ys hd
   split at he
   .rename_i hc
    simp only [ck] at he
    obtain ⟨ps,hp,he⟩:=he
    have hu:=hT.desc _ _ hd
    have hf:P.fieldsOf t=fs:=by simp [Program.fieldsOf,hu]
    rw [show D+(d+1)=(D+d)+1 from rfl,run_equalIn_struct w (D+d) t xs ys (by rw [hf];exact hu) (hT.cmp t hc).1,hf]
    exact Zs hT w (λt x y b hb=>Jo hT w d D t x y b hb) xs ys fs.toList ps b hp he
   .cases he
  .rename_i n e xs ys hd
   simp only [ck] at he
   obtain ⟨k,hk,he⟩:=he
   have hu:=hT.desc _ _ hd
   simp only [de,bX] at hk
   obtain ⟨⟨n',b',z⟩,hi,rfl⟩:=hk
   obtain ⟨i,zv,fZ,dC,_⟩:=hT.info _ _ _ _ hi
   have kl:P.cellsOf e=n':=by simp [Program.cellsOf,fZ,dC]
   rw [show D+(d+1)=(D+d)+1 from rfl,run_equalIn_array w (D+d) xs ys hu fZ,kl]
   have:=Zy hT w (λt x y b hb=>Jo hT w d D t x y b hb) xs ys e n' n 0 b he
   rw [List.range_eq_range']
   exact this
  .cases he

theorem zr4 (hT:T.Fits P) {op:BinOp} {t:TypeId} {x' y':ai} (hx:VR ρ x x') (hy:VR ρ y y') (hs:bZ P T op t x y=some v) (ox oy:Operand) (w:World) :
 ∃ vc,(do eqGuard op t ox oy x' y';binOp op t x' y':Sem ai).run P w=.ok vc w/\VR ρ v vc:=by
 unfold bZ at hs
 split at hs
 .rename_i v' hf
  cases hs
  obtain ⟨h1,h2,h3,h4,k,a,rfl⟩:=zlo (P:=P) (t:=t) hf
  have e1:=hx.bt h2
  have e2:=hy.bt h3
  subst e1 e2
  refine ⟨v,?_,.cP ρ h4⟩
  rw [Sem.run_bind,LM op t ox oy (.int k a) _ (by simp) (by intro c d e;cases e) w]
  exact Jj P _ _ h1 w
 .split at hs
  .rename_i b hb
   simp only [ck] at hb
   obtain ⟨d,hd,he⟩:=hb
   have ht:=hT.desc _ _ hd
   obtain ⟨h1,h2⟩:=zpj ht hx hy he w
   have Q5:x'≠.nilIface/\(∀ c,x'≠.agg c):=by
    unfold Ad at he
    split at he <;> first|(cases he;done)|(cases hx <;> exact ⟨by simp,by simp⟩)
   have hg:=LM (P:=P) op t ox oy x' y' Q5.1 (by intro c d e;exact (Q5.2 c e).elim) w
   split at hs
   .cases hs
    refine ⟨.bool b,?_,.bool _⟩
    simp only [Sem.run_bind,hg,Result.andThen_ok,h2 .eql (.inl rfl),if_true,h1,Sem.run_pure]
   .cases hs
    refine ⟨.bool !b,?_,.bool _⟩
    simp only [Sem.run_bind,hg,Result.andThen_ok,h2 .neq (.inr rfl),reduceCtorEq,if_false,h1,Sem.run_pure]
   .cases hs
  .split at hs
   .rename_i hp
    simp only [dj] at hp
    have e1:=hx.bt hp.1
    have e2:=hy.bt hp.2
    subst e1 e2
    have fin:∀ (hs:((fc P (binOp op t x' y')).bind λv=>if plain v then some v else none)=some v) (hg:(eqGuard op t ox oy x' y').run P w=.ok () w),
     ∃ vc,(do eqGuard op t ox oy x' y';binOp op t x' y':Sem ai).run P w=.ok vc w/\VR ρ v vc:=by
     intro hs hg
     simp only [ck] at hs
     obtain ⟨v1,hr,hs⟩:=hs
     split at hs
     .rename_i hpv
      cases hs
      refine ⟨v,?_,.cP ρ hpv⟩
      simp only [Sem.run_bind,hg,Result.andThen_ok]
      exact Jj P _ _ hr w
     .cases hs
    split at hs
    .cases hs
    .rename_i c d
     split at hs
     .rename_i w5
      have hg:=λxs ys=>LM (P:=P) op t ox oy (.agg xs) (.agg ys) (by simp) (by intro _ _ _ _;exact (hT.cmp t w5).2) w
      split at hs
      .simp only [bX] at hs
       obtain ⟨b,hb,rfl⟩:=hs
       refine ⟨.bool b,?_,.bool _⟩
       simp only [Sem.run_bind,hg,Result.andThen_ok]
       rw [run_eql_struct,Jo hT w 20 9980 t _ _ b hb]
       rfl
      .simp only [bX] at hs
       obtain ⟨b,hb,rfl⟩:=hs
       refine ⟨.bool !b,?_,.bool _⟩
       simp only [Sem.run_bind,hg,Result.andThen_ok]
       rw [run_neq_struct,Jo hT w 20 9980 t _ _ b hb]
       rfl
      .cases hs
     .cases hs
    .rename_i h1 h2
     refine fin hs (LM op t ox oy _ _ ?_ ?_ w)
     .intro e;exact h1 e
     .intro c d e1 e2;exact (h2 c d e1 e2).elim
   .cases hs

theorem zsD (hT:T.Fits P) (hs:bB ρ h w) {ty:TypeId} (cJ:VR ρ x y) (hl:bP T t x h=some v) (ts:List TypeId) :
 ∃ vc,(Builtin.len_ (t::ts).toArray ty #[y]).run P w=.ok vc w/\VR ρ v vc:=by
 unfold bP at hl
 split at hl
 .rename_i s hd
  cases cJ
  cases hl
  exact ⟨_,by simp [Builtin.len_,run_underlying (hT.desc _ _ hd),goInt],.int _ _⟩
 .rename_i e a n c hd
  cases hl
  have key:∃ a' c',y=.slice a' n c':=by cases cJ <;> exact ⟨_,_,rfl⟩
  obtain ⟨a',c',rfl⟩:=key
  exact ⟨_,by simp [Builtin.len_,run_underlying (hT.desc _ _ hd),goInt],.int _ _⟩
 .rename_i a b hd
  cases cJ
  cases hl
  exact ⟨_,by simp [Builtin.len_,run_underlying (hT.desc _ _ hd),goInt],.int _ _⟩
 .rename_i a b A hd
  split at hl
  .rename_i es clock hg
   cases hl
   cases cJ with
   |map hA =>
    rename_i L
    have hb:=hs.jV A L hA
    rw [hg] at hb
    obtain ⟨ces,hc,he⟩:=hb
    refine ⟨.int .i64 (ces.size:Nat),by simp [Builtin.len_,run_underlying (hT.desc _ _ hd),goInt,getObj,Sem.run,hc],?_⟩
    have e1:(es.length:Int)=(ces.size:Int):=by have:=he.1;simp at this;omega
    rw [e1]
    exact .int _ _
  .cases hl
 .cases hl
end
end Go.Am
namespace Go.Am
open Go.RowKit
variable {k k' v x y:ai} {kt t:TypeId}
section
variable {P:Program} {T:bx} {ρ:cf} {h h':Heap} {w:World}

theorem ZI {Z:Type} (P:Program) (w:World) (l:List Z) (g:Z->PUnit->Sem (ForInStep PUnit)) (hf:∀ x∈l,(g x PUnit.unit).run P w=.ok (.yield PUnit.unit) w) :
 (forIn l PUnit.unit g:Sem PUnit).run P w=.ok PUnit.unit w:=by
 induction l with
 |nil=>simp
 |cons x l ih =>
  have h1:=hf x (by simp)
  have h2:=ih (λy hy=>hf y (by simp [hy]))
  simp only [List.forIn_cons,Sem.run_bind,h1,Result.andThen_ok,h2]

theorem Th {E:TypeId->ai->ai->Option Bool} {xs:List ai}:∀ {ps:List (TypeId × Nat)},yf T E xs xs ps=some true->∀ p∈ps,∃ a,yp T p.1 xs p.2=some a/\E p.1 a a=some true
 | [],_,p,hp=>by cases hp
 |(t,o)::r,he,p,hp=>by
  simp only [yf,ck] at he
  obtain ⟨a,ha,c,hc,q,hq,he⟩:=he
  rw [ha] at hc
  cases hc
  cases q with
  |false=>simp at he
  |true =>
   simp only [if_true] at he
   rcases dg.1 hp with rfl|hp
   .exact ⟨a,ha,hq⟩
   .exact Th he p hp

theorem Zv:∀ {fs:List Field} {ps:List (TypeId × Nat)},Eb fs=some ps->∀ f∈fs,(f.type,f.offset)∈ps
 | [],_,_,f,hf=>by cases hf
 |g::fs,ps,hp,f,hf=>by
  simp only [Eb] at hp
  split at hp
  .cases hp
  .simp only [bX] at hp
   obtain ⟨r,hr,rfl⟩:=hp
   rcases dg.1 hf with rfl|hf
   .simp
   .exact sn _ (Zv hr f hf)

theorem ZA {e:TypeId} {k:Nat}:∀ (n i j:Nat),i<=j->j < i+n->(e,j*k)∈En e k n i
 |0,i,j,h1,h2=>by omega
 |n+1,i,j,h1,h2=>by
  simp only [En]
  by_cases e:i=j
  .subst e;simp
  .exact sn _ (ZA n (i+1) j (by omega) (by omega))

theorem Tg (hT:T.Fits P) (w:World) (em:Bool):∀ (d D:Nat) (t:TypeId) (x y:ai),cV T d t x y=some true->y=x->(Instr.checkKey em (D+d) t x).run P w=.ok () w
 |0,_,_,_,_,he,_=>by simp [cV] at he
 |d+1,D,t,x,y,he,HM=>by
  unfold cV at he
  rw [show D+(d+1)=(D+d)+1 from rfl]
  split at he
  .rename_i a c hd
   simp [Instr.checkKey,run_underlying (hT.desc _ _ hd)]
  .rename_i q k a k' c hd
   simp [Instr.checkKey,run_underlying (hT.desc _ _ hd)]
  .rename_i a c hd
   simp [Instr.checkKey,run_underlying (hT.desc _ _ hd)]
  .rename_i fs xs ys hd
   cases HM
   split at he
   .simp only [ck] at he
    obtain ⟨ps,hp,he⟩:=he
    have aD:=Th he
    simp only [Instr.checkKey,Sem.run_bind,run_underlying (hT.desc _ _ hd),Result.andThen_ok]
    rw [<- Array.forIn_toList]
    rw [ZI P w fs.toList]
    .simp
    .intro f hf
     obtain ⟨a,ha,hq⟩:=aD _ (Zv hp f hf)
     have h1:=Tg hT w em d D f.type a a hq rfl
     split
     .simp only [Sem.run_bind,Ep hT ha w,Result.andThen_ok,h1,Sem.run_pure]
     .simp
   .cases he
  .rename_i n e xs ys hd
   cases HM
   simp only [ck] at he
   obtain ⟨k,hk,he⟩:=he
   have aD:=Th he
   simp only [Instr.checkKey,Sem.run_bind,run_underlying (hT.desc _ _ hd),Result.andThen_ok]
   simp only [Std.Legacy.Range.forIn_eq_forIn_range',Std.Legacy.Range.size,Nat.sub_zero,zW,Nat.div_one]
   rw [ZI P w]
   .simp
   .intro i hi
    have qh:i < n:=by simpa using hi
    obtain ⟨a,ha,hq⟩:=aD _ (ZA (e:=e) (k:=k) n 0 i (by omega) (by omega))
    have h1:=Tg hT w em d D e a a hq rfl
    simp only [Sem.run_bind,rC hT hk,Ep hT ha w,Result.andThen_ok,h1,Sem.run_pure]
  .cases he

theorem Jd (hT:T.Fits P) (w:World) (em:Bool) (d D:Nat) (t:TypeId) (x:ai) (he:cV T d t x x=some true):(Instr.checkKey em (D+d) t x).run P w=.ok () w:=Tg hT w em d D t x x he rfl

theorem Er (hk:pL T kt k=true):plain k=true/\cV T 20 kt k k=some true:=by
 unfold pL at hk
 split at hk
 .rename_i hp
  refine ⟨hp,?_⟩
  split at hk
  .rename_i b hb;rw [hb,hk]
  .cases hk
 .cases hk

def UR (ρ:cf):Option (Nat × ai)->Option (Nat × ai)->Prop
 |none,none=>True
 |some (i,v),some (j,u)=>i=j/\VR ρ v u
 |_,_=>False

theorem kc.of_cons {x:MapEntry} {l m:List MapEntry} (hl:kc ρ (x::l) m):∃ y m',m=y::m'/\VR ρ x.key y.key/\VR ρ x.val y.val/\x.born=y.born/\plain x.key=true/\kc ρ l m':=by
 cases m with
 |nil=>have:=hl.1;simp at this
 |cons y m =>
  obtain ⟨h1,h2,h3,h4⟩:=hl.2 0 x y rfl rfl
  exact ⟨y,m,rfl,h1,h2,h3,h4,by have:=hl.1;simpa using this,λi a b ha hb=>hl.2 (i+1) a b (by simpa using ha) (by simpa using hb)⟩
theorem kc.of_nil {m:List MapEntry} (hl:kc ρ [] m):m=[]:=by
 have:=hl.1
 simp at this
 exact JK this.symm

theorem ztd (hT:T.Fits P) {d:TypeDesc} (hd:P.underlying kt=some d) {b c:Bool} (he:cV T 20 kt x y=some b) (hs:Instr.sameNow d x y=some c):b=c:=by
 unfold cV at he
 split at he
 .rename_i a c' ko
  have:=hT.desc _ _ ko
  rw [hd] at this
  cases this
  cases he
  simpa [Instr.sameNow] using hs
 .rename_i q k a k' c' ko
  have:=hT.desc _ _ ko
  rw [hd] at this
  cases this
  split at he
  .rename_i hk
   subst hk
   cases he
   simpa [Instr.sameNow] using hs
  .cases he
 .rename_i a c' ko
  have:=hT.desc _ _ ko
  rw [hd] at this
  cases this
  cases he
  simp only [Instr.sameNow,dy] at hs
  rw [<- hs,beq_toListBytes,ByteArray.toList_eq,ByteArray.toList_eq]
 .rename_i fs xs ys ko
  have:=hT.desc _ _ ko
  rw [hd] at this
  cases this
  simp [Instr.sameNow] at hs
 .rename_i n e xs ys ko
  have:=hT.desc _ _ ko
  rw [hd] at this
  cases this
  simp [Instr.sameNow] at hs
 .cases he

theorem zkE (hT:T.Fits P) {kt:TypeId} {d:TypeDesc} (hd:P.underlying kt=some d) {k:ai}:∀ (es ces:List MapEntry) (i:Nat) (r r':Option (Nat × ai)),kc ρ es ces->j6 T kt k es i=some r->Instr.findNow d k ces i=some r'->UR ρ r r'
 | [],ces,i,r,r',he,hf,hn=>by
  rw [he.of_nil] at hn
  simp only [j6,Instr.findNow,dy] at hf hn
  subst hf hn
  trivial
 |e::es,ces,i,r,r',he,hf,hn=>by
  obtain ⟨y,m,rfl,hk,hv,_,hp,Qq⟩:=he.of_cons
  have iw:=hk.bt hp
  simp only [j6,ck] at hf
  obtain ⟨b,hb,hf⟩:=hf
  simp only [Instr.findNow] at hn
  rw [iw] at hn
  cases mR:Instr.sameNow d k e.key with
  |none=>rw [mR] at hn;cases hn
  |some c =>
   have:=ztd hT hd hb mR
   subst this
   rw [mR] at hn
   cases b with
   |true =>
    simp only [if_true,dy] at hf hn
    subst hf hn
    exact ⟨rfl,hv⟩
   |false =>
    simp only [fF,if_false] at hf hn
    exact zkE hT hd es m (i+1) r r' Qq hf hn

theorem Zz (hT:T.Fits P) (w:World) {kt:TypeId} {k:ai}:∀ (es ces:List MapEntry) (i:Nat) (r:Option (Nat × ai)),kc ρ es ces->j6 T kt k es i=some r->∃ r',(Instr.findAsking kt k ces i).run P w=.ok r' w/\UR ρ r r'
 | [],ces,i,r,he,hf=>by
  rw [he.of_nil]
  simp only [j6,dy] at hf
  subst hf
  exact ⟨none,by simp [Instr.findAsking],trivial⟩
 |e::es,ces,i,r,he,hf=>by
  obtain ⟨y,m,rfl,hk,hv,_,hp,Qq⟩:=he.of_cons
  have iw:=hk.bt hp
  simp only [j6,ck] at hf
  obtain ⟨b,hb,hf⟩:=hf
  have hq:(Op.equal kt k y.key).run P w=.ok b w:=by rw [iw];exact Jo hT w 20 9980 kt _ _ b hb
  cases b with
  |true =>
   simp only [if_true,dy] at hf
   subst hf
   exact ⟨some (i,y.val),by simp [Instr.findAsking,hq],rfl,hv⟩
  |false =>
   simp only [fF,if_false] at hf
   obtain ⟨r',h1,h2⟩:=Zz hT w es m (i+1) r Qq hf
   exact ⟨r',by simp [Instr.findAsking,hq,h1],h2⟩

theorem zpr (hT:T.Fits P) (hk:pL T kt k=true):∃ d,P.underlying kt=some d:=by
 obtain ⟨_,h1⟩:=Er hk
 unfold cV at h1
 split at h1
 all_goals first|exact ⟨_,hT.desc _ _ ‹_›⟩|cases h1

theorem LZ (hT:T.Fits P) (w:World) (hk:pL T kt k=true) {es ces:List MapEntry} {r:Option (Nat × ai)} (he:kc ρ es ces) (hf:j6 T kt k es 0=some r) :
 ∃ r',(Instr.findKey kt k ces).run P w=.ok r' w/\UR ρ r r':=by
 obtain ⟨d,hd⟩:=zpr hT hk
 cases hn:Instr.findNow d k ces 0 with
 |some r'=>exact ⟨r',by simp [Instr.findKey,run_underlying hd,hn],zkE hT hd es ces 0 r r' he hf hn⟩
 |none =>
  obtain ⟨r',h1,h2⟩:=Zz hT w es ces 0 r he hf
  exact ⟨r',by simp [Instr.findKey,run_underlying hd,hn,h1],h2⟩

theorem Mg (hT:T.Fits P) (hz:T.zero t=some v) (w:World):(zeroValue t).run P w=.ok v w/\VR ρ v v:=by
 obtain ⟨⟨i,hi,hiz⟩,hp⟩:=hT.zero t v hz
 exact ⟨by simp [zeroValue,typeInfo,hi,hiz],.cP ρ hp⟩

theorem zpH (hs:bB ρ h w) (cJ:VR ρ x y) {es:List MapEntry} (hm:Du x h=some es) :
 ∃ ces:Array MapEntry,kc ρ es ces.toList/\((y=.map none/\ces=#[])\/∃ A L clock,x=.map (some A)/\ρ A=some L/\y=.map (some L.b)/\h.get A=some (.map es clock)/\w.heap[L.b]? = some (.map ces clock)):=by
 unfold Du at hm
 split at hm
 .cases hm
  cases cJ
  exact ⟨#[],⟨rfl,by intro i x y hx;simp at hx⟩,.inl ⟨rfl,rfl⟩⟩
 .split at hm
  .rename_i A _ KS clock hg
   cases hm
   cases cJ with
   |map hA =>
    rename_i L
    have hb:=hs.jV A L hA
    rw [hg] at hb
    obtain ⟨ces,hc,he⟩:=hb
    exact ⟨ces,he,.inr ⟨A,L,clock,rfl,hA,rfl,hg,hc⟩⟩
  .cases hm
 .cases hm

theorem zlN (hT:T.Fits P) (hs:bB ρ h w) {ok:Bool} (cJ:VR ρ x y) (hk:VR ρ k k') (hl:rZ T t x k ok h=some v) :
 ∃ u,(Instr.lookup t y k' ok).run P w=.ok u w/\VR ρ v u:=by
 unfold rZ at hl
 split at hl
 .rename_i kt et hd
  split at hl
  .rename_i jj
   simp only [ck,bX,Prod.exists] at hl
   obtain ⟨es,GP,r,hr,v',b,zg,hv⟩:=hl
   have hu:=hT.desc _ _ hd
   obtain ⟨hp,gI⟩:=Er jj
   have ot:k'=k:=hk.bt hp
   subst ot
   obtain ⟨ces,he,hy⟩:=zpH hs cJ GP
   obtain ⟨r',hf,dm⟩:=LZ hT w jj he hr
   have lX:∀ em,(Instr.checkKey em 10000 kt k').run P w=.ok () w:=λem=>Jd hT w em 20 9980 kt k' gI
   have za:∀ u',VR ρ v' u'->VR ρ v (if ok then .tuple #[u',.bool b] else u'):=by
    intro u' nj
    rw [<- hv]
    cases ok
    .exact nj
    .simp only [if_true]
     exact (cm.cons nj (.cons (.bool b) (.nil ρ))).gP
   cases r with
   |none =>
    cases r' with
    |some q=>exact dm.elim
    |none =>
     simp only [bX,cx] at zg
     obtain ⟨z,hz,rfl,rfl⟩:=zg
     obtain ⟨h1,h2⟩:=Mg (ρ:=ρ) hT hz w
     refine ⟨_,?_,za z h2⟩
     rcases hy with ⟨rfl,rfl⟩|⟨A,L,clock,_,_,rfl,_,hc⟩
     .simp only [Instr.lookup,Sem.run_bind,run_underlying hu,Result.andThen_ok,Sem.run_pure,lX,hf,h1]
     .have hg:(getObj L.b).run P w=.ok (.map ces clock) w:=by simp [getObj,Sem.run,hc]
      simp only [Instr.lookup,Sem.run_bind,run_underlying hu,Result.andThen_ok,Sem.run_pure,hg,lX,hf,h1]
   |some p =>
    cases r' with
    |none=>exact dm.elim
    |some q =>
     obtain ⟨i,v1⟩:=p
     obtain ⟨j,u1⟩:=q
     simp only [dy,cx] at zg
     obtain ⟨rfl,rfl⟩:=zg
     refine ⟨_,?_,za u1 dm.2⟩
     rcases hy with ⟨rfl,rfl⟩|⟨A,L,clock,_,_,rfl,_,hc⟩
     .simp only [Instr.lookup,Sem.run_bind,run_underlying hu,Result.andThen_ok,Sem.run_pure,lX,hf]
     .have hg:(getObj L.b).run P w=.ok (.map ces clock) w:=by simp [getObj,Sem.run,hc]
      simp only [Instr.lookup,Sem.run_bind,run_underlying hu,Result.andThen_ok,Sem.run_pure,hg,lX,hf]
  .cases hl
 .cases hl

theorem zry:∀ {x y:ai},yq x y=true->x=y:=by
 intro x y hh
 unfold yq at hh
 split at hh
 .simpa using hh
 .simp only [dj,iC,beq_iff_eq] at hh
  rw [hh.1,hh.2]
 .rename_i a b
  obtain ⟨⟨a⟩⟩:=a
  obtain ⟨⟨b⟩⟩:=b
  simpa using hh
 .cases hh
theorem zkT:∀ {l m:List ai},ED l m=true->l=m
 | [],[],_=>rfl
 |x::l,y::m,hh=>by
  simp only [ED,dj] at hh
  rw [zry hh.1,zkT hh.2]
 | [],_::_,hh=>by cases hh
 |_::_,[],hh=>by cases hh
theorem zkS (hh:yq x y=true) (n:Nat):Instr.sameBits n x y=true:=by
 have:=zry hh
 subst this
 unfold yq at hh
 split at hh
 .simp [Instr.sameBits]
 .simp [Instr.sameBits]
 .simp [Instr.sameBits,beq_toListBytes]
 .cases hh
theorem ZJ:∀ {l m:List ai},ED l m=true->∀ n,(l.zip m).all (λ(x,y)=>Instr.sameBits n x y)=true
 | [],[],_,_=>rfl
 |x::l,y::m,hh,n=>by
  simp only [ED,dj] at hh
  simp only [List.zip_cons_cons,gA,dj]
  exact ⟨zkS hh.1 n,ZJ hh.2 n⟩
 | [],_::_,hh,_=>by cases hh
 |_::_,[],hh,_=>by cases hh
theorem ZK (hh:zL x y=true):Instr.sameBits 10000 x y=true:=by
 unfold zL at hh
 split at hh
 .rename_i a b
  have h1:=ZJ hh 9999
  have h2:=zkT hh
  have h3:a.size=b.size:=by rw [<- ss,h2,ss]
  rw [Instr.sameBits,h3]
  simpa using h1
 .exact zkS hh _

theorem Zx (hT:T.Fits P) (hs:bB ρ h w) {v':ai} (cJ:VR ρ x y) (hk:VR ρ k k') (hv:VR ρ v v') (hl:mr T t x k v h=some h') :
 ∃ w',(Instr.mapUpdate t y k' v').run P w=.ok () w'/\Fr ρ ρ h h' w w'/\bB ρ h' w':=by
 unfold mr at hl
 split at hl
 .rename_i kt et A hd
  split at hl
  .rename_i es clock hg
   split at hl
   .rename_i jj
    simp only [ck] at hl
    obtain ⟨r,hr,hl⟩:=hl
    have hu:=hT.desc _ _ hd
    obtain ⟨hp,gI⟩:=Er jj
    have ot:k'=k:=hk.bt hp
    subst ot
    cases cJ with
    |map hA =>
     rename_i L
     have hb:=hs.jV A L hA
     rw [hg] at hb
     obtain ⟨ces,hc,he⟩:=hb
     obtain ⟨r',hf,dm⟩:=LZ hT w jj he hr
     have lX:∀ em,(Instr.checkKey em 10000 kt k').run P w=.ok () w:=λem=>Jd hT w em 20 9980 kt k' gI
     have jK:∀ o:Obj,(setObj L.b o).run P w=.ok () (w.putObj L.b o):=by
      intro o
      simp [setObj,Sem.run,hc,World.putObj]
     have aW:L.b < w.heap.size:=(kX.1 hc).1
     have tM:∀ (b':bc) (o:Obj),nt ρ (w.putObj L.b o) L (some b')->Fr ρ ρ h (h.set A b') w (w.putObj L.b o)/\bB ρ (h.set A b') (w.putObj L.b o):=by
      intro b' o lU
      refine Jr hs hA hg (by simp) (by simp) rfl rfl rfl (by simp [World.putObj]) (λq hq=>?_) lU
      simp only [World.putObj]
      rw [EC (Ne.symm hq)]
     have ki:∀ o:Obj,(w.putObj L.b o).heap[L.b]? = some o:=by
      intro o
      simp [World.putObj,aW]
     cases r with
     |none =>
      cases r' with
      |some q=>exact dm.elim
      |none =>
       simp only [dy] at hl
       subst hl
       refine ⟨w.putObj L.b (.map (ces.push { key:=k',val:=v',born:=clock }) (clock+1)),?_,tM _ _ ⟨_,ki _,?_⟩⟩
       .simp [Instr.mapUpdate,run_underlying hu,getObj,Sem.run,hc,lX,hf,jK]
       .refine ⟨by simp [he.1],λi a b ha hb=>?_⟩
        have hlen:=he.1
        rw [Array.toList_push] at hb
        rcases Kd i es.length with h1|h1|h1
        .rw [kY h1] at ha
         rw [kY (by omega)] at hb
         exact he.2 i a b ha hb
        .rw [n9 (by omega)] at ha
         rw [n9 (by omega)] at hb
         have e1:i - es.length=0:=by omega
         have e2:i - ces.toList.length=0:=by omega
         rw [e1] at ha
         rw [e2] at hb
         simp at ha hb
         subst ha hb
         exact ⟨.cP ρ hp,hv,rfl,hp⟩
        .rw [n9 (by omega)] at ha
         have:i - es.length=(i - es.length - 1)+1:=by omega
         rw [this] at ha
         simp at ha
     |some q =>
      obtain ⟨i,v1⟩:=q
      cases r' with
      |none=>exact dm.elim
      |some q' =>
       obtain ⟨j,u1⟩:=q'
       obtain ⟨rfl,_⟩:=dm
       simp only [ck] at hl
       obtain ⟨e,GO,hl⟩:=hl
       split at hl
       .rename_i fQ
        cases hl
        have ey:i < ces.size:=by
         have h1:=(fD.1 GO).1
         have:=he.1
         simp at this
         omega
        obtain ⟨k1,k2,k3,k4⟩:=he.2 i e ces[i] GO (by simp)
        have QK:ces[i].key=e.key:=k1.bt k4
        have tc:=ZK fQ
        refine ⟨w.putObj L.b (.map (ces.modify i λe=>{ e with key:=k',val:=v' }) clock),?_,tM _ _ ⟨_,ki _,?_⟩⟩
        .simp [Instr.mapUpdate,run_underlying hu,getObj,Sem.run,hc,lX,hf,jK,Instr.keyThatStays,QK,tc,ey]
        .refine ⟨by simp [he.1],λq a b ha hb=>?_⟩
         rw [Array.toList_modify] at hb
         rw [ES] at ha hb
         by_cases hq:i=q
         .subst hq
          simp only [if_true,Option.map_eq_map,bX] at ha hb
          obtain ⟨a0,AV,rfl⟩:=ha
          obtain ⟨b0,vm,rfl⟩:=hb
          obtain ⟨_,_,h3,_⟩:=he.2 i a0 b0 AV vm
          exact ⟨.cP ρ hp,hv,h3,hp⟩
         .simp only [aA hq] at ha hb
          exact he.2 q a b (by simpa using ha) (by simpa using hb)
       .cases hl
   .cases hl
  .cases hl
 .cases hl

theorem S2 (hs:bB ρ h w) {A:Nat} {L:Loc} {es KS:List MapEntry} {ces wC:Array MapEntry} {clock clock':Nat} (hA:ρ A=some L) (hg:h.get A=some (.map es clock)) (hc:w.heap[L.b]? = some (.map ces clock))
 (he:kc ρ KS wC.toList):Fr ρ ρ h (h.set A (.map KS clock')) w (w.putObj L.b (.map wC clock'))/\bB ρ (h.set A (.map KS clock')) (w.putObj L.b (.map wC clock')):=by
 have aW:L.b < w.heap.size:=(kX.1 hc).1
 refine Jr hs hA hg (by simp) (by simp) rfl rfl rfl (by simp [World.putObj]) (λq hq=>?_) ⟨wC,by simp [World.putObj,aW],he⟩
 simp only [World.putObj]
 rw [EC (Ne.symm hq)]

theorem kc.push {es:List MapEntry} {ces:Array MapEntry} (he:kc ρ es ces.toList) {k v v':ai} {clock:Nat} (hp:plain k=true) (hv:VR ρ v v') :
 kc ρ (es++[{ key:=k,val:=v,born:=clock }]) (ces.push { key:=k,val:=v',born:=clock }).toList:=by
 refine ⟨by simp [he.1],λi a b ha hb=>?_⟩
 have hlen:=he.1
 rw [Array.toList_push] at hb
 rcases Kd i es.length with h1|h1|h1
 .rw [kY h1] at ha
  rw [kY (by omega)] at hb
  exact he.2 i a b ha hb
 .rw [n9 (by omega)] at ha
  rw [n9 (by omega)] at hb
  have e1:i - es.length=0:=by omega
  have e2:i - ces.toList.length=0:=by omega
  rw [e1] at ha
  rw [e2] at hb
  simp at ha hb
  subst ha hb
  exact ⟨.cP ρ hp,hv,rfl,hp⟩
 .rw [n9 (by omega)] at ha
  have:i - es.length=(i - es.length - 1)+1:=by omega
  rw [this] at ha
  simp at ha

theorem kc.modify {es:List MapEntry} {ces:Array MapEntry} (he:kc ρ es ces.toList) (i:Nat) {f g:MapEntry->MapEntry}
 (GR:∀ a b,VR ρ a.key b.key->VR ρ a.val b.val->a.born=b.born->plain a.key=true->VR ρ (f a).key (g b).key/\VR ρ (f a).val (g b).val/\(f a).born=(g b).born/\plain (f a).key=true) :
 kc ρ (es.modify i f) (ces.modify i g).toList:=by
 refine ⟨by simp [he.1],λq a b ha hb=>?_⟩
 rw [Array.toList_modify] at hb
 rw [ES] at ha hb
 by_cases hq:i=q
 .subst hq
  simp only [if_true,Option.map_eq_map,bX] at ha hb
  obtain ⟨a0,AV,rfl⟩:=ha
  obtain ⟨b0,vm,rfl⟩:=hb
  obtain ⟨h1,h2,h3,h4⟩:=he.2 i a0 b0 AV vm
  exact GR a0 b0 h1 h2 h3 h4
 .simp only [aA hq] at ha hb
  exact he.2 q a b (by simpa using ha) (by simpa using hb)

theorem znp (hT:T.Fits P) (hs:bB ρ h w) (cJ:VR ρ x y) (hk:VR ρ k k') (hl:Ki T t x k h=some (v,h')) :
 ∃ u w',(Instr.mapEntry t y k').run P w=.ok u w'/\Fr ρ ρ h h' w w'/\bB ρ h' w'/\VR ρ v u:=by
 unfold Ki at hl
 split at hl
 .rename_i kt et A hd
  split at hl
  .rename_i es clock hg
   split at hl
   .rename_i jj
    simp only [ck] at hl
    obtain ⟨r,hr,hl⟩:=hl
    have hu:=hT.desc _ _ hd
    obtain ⟨hp,gI⟩:=Er jj
    have ot:k'=k:=hk.bt hp
    subst ot
    cases cJ with
    |map hA =>
     rename_i L
     have hb:=hs.jV A L hA
     rw [hg] at hb
     obtain ⟨ces,hc,he⟩:=hb
     obtain ⟨r',hf,dm⟩:=LZ hT w jj he hr
     have lX:∀ em,(Instr.checkKey em 10000 kt k').run P w=.ok () w:=λem=>Jd hT w em 20 9980 kt k' gI
     have jK:∀ o:Obj,(setObj L.b o).run P w=.ok () (w.putObj L.b o):=by
      intro o
      simp [setObj,Sem.run,hc,World.putObj]
     cases r with
     |none =>
      cases r' with
      |some q=>exact dm.elim
      |none =>
       simp only [bX,cx] at hl
       obtain ⟨z,hz,rfl,rfl⟩:=hl
       obtain ⟨z1,z2⟩:=Mg (ρ:=ρ) hT hz w
       obtain ⟨f1,f2⟩:=S2 (clock':=clock+1) hs hA hg hc (he.push (clock:=clock) hp z2)
       refine ⟨_,_,?_,f1,f2,(cm.cons z2 (.cons (.int .i64 clock) (.nil ρ))).gP⟩
       simp [Instr.mapEntry,run_underlying hu,getObj,Sem.run,hc,lX,hf,jK,z1,goInt]
     |some q =>
      obtain ⟨i,v1⟩:=q
      cases r' with
      |none=>exact dm.elim
      |some q' =>
       obtain ⟨j,u1⟩:=q'
       obtain ⟨rfl,nj⟩:=dm
       simp only [ck] at hl
       obtain ⟨e,GO,hl⟩:=hl
       split at hl
       .rename_i fQ
        cases hl
        have ey:i < ces.size:=by
         have h1:=(fD.1 GO).1
         have:=he.1
         simp at this
         omega
        obtain ⟨k1,k2,k3,k4⟩:=he.2 i e ces[i] GO (by simp)
        have QK:ces[i].key=e.key:=k1.bt k4
        have tc:=ZK fQ
        obtain ⟨f1,f2⟩:=S2 (clock':=clock) hs hA hg hc (he.modify i (f:=λe=>{ e with key:=k' }) (g:=λe=>{ e with key:=k' }) (λa b h1 h2 h3 h4=>⟨.cP ρ hp,h2,h3,hp⟩))
        refine ⟨_,_,?_,f1,f2,(cm.cons nj (.cons (.int .i64 e.born) (.nil ρ))).gP⟩
        simp [Instr.mapEntry,run_underlying hu,getObj,Sem.run,hc,lX,hf,jK,Instr.keyThatStays,QK,tc,ey,goInt,k3]
       .cases hl
   .cases hl
  .cases hl
 .cases hl

theorem Z2 {s:Int}:∀ {es ces:List MapEntry} {n i:Nat},(∀ (i:Nat) a b,es[i]? = some a->ces[i]? = some b->a.born=b.born)->es.length=ces.length->M0 s es n=some i->n<=i/\ces.findIdx? (λe=>(e.born:Int) == s)=some (i - n)
 | [],_,_,_,_,_,h=>by cases h
 |a::es,[],_,_,_,hl,_=>by cases hl
 |a::es,b::ces,n,i,hb,hl,h=>by
  have h0:=hb 0 a b rfl rfl
  rw [M0] at h
  rw [List.findIdx?_cons]
  split at h
  .rename_i hc
   cases h
   rw [h0] at hc
   simp [hc]
  .rename_i hc
   rw [h0] at hc
   obtain ⟨h1,h2⟩:=Z2 (es:=es) (ces:=ces) (λi a b ha lU=>hb (i+1) a b (by simpa using ha) (by simpa using lU)) (by simpa using hl) h
   refine ⟨by omega,?_⟩
   have:¬ ((b.born:Int) == s)=true:=by simpa using hc
   rw [aA this,h2]
   simp
   omega

theorem zgS (hs:bB ρ h w) {s s' v':ai} (cJ:VR ρ x y) (nJ:VR ρ s s') (hv:VR ρ v v') (hl:Jt x s v h=some h') :
 ∃ w',(Instr.entryStore t y s' v').run P w=.ok () w'/\Fr ρ ρ h h' w w'/\bB ρ h' w':=by
 unfold Jt at hl
 split at hl
 .rename_i A kd b
  split at hl
  .rename_i es clock hg
   simp only [bX] at hl
   obtain ⟨i,hi,rfl⟩:=hl
   cases nJ
   cases cJ with
   |map hA =>
    rename_i L
    have hb:=hs.jV A L hA
    rw [hg] at hb
    obtain ⟨ces,hc,he⟩:=hb
    have jK:∀ o:Obj,(setObj L.b o).run P w=.ok () (w.putObj L.b o):=by
     intro o
     simp [setObj,Sem.run,hc,World.putObj]
    obtain ⟨_,wX⟩:=Z2 (ces:=ces.toList) (λi a b ha hb=>(he.2 i a b ha hb).2.2.1) he.1 hi
    have Bm:ces.findIdx? (λe=>(e.born:Int) == b)=some i:=by
     cases ces with|mk l=>simpa using wX
    obtain ⟨f1,f2⟩:=S2 (clock':=clock) hs hA hg hc (he.modify i (f:=λe=>{ e with val:=v }) (g:=λe=>{ e with val:=v' }) (λa b h1 h2 h3 h4=>⟨h1,hv,h3,h4⟩))
    refine ⟨_,?_,f1,f2⟩
    simp [Instr.entryStore,getObj,Sem.run,hc,jK,asInt,asIntOf,Bm]
  .cases hl
 .cases hl

end
end Go.Am
namespace Go.Am
open Go.RowKit
variable {p v x y:ai} {s t:TypeId}
section
variable {P:Program} {T:bx} {ρ:cf} {h h':Heap} {w:World}

theorem kc.eraseIdx {l m:List MapEntry} (hl:kc ρ l m) (i:Nat):kc ρ (l.eraseIdx i) (m.eraseIdx i):=by
 have hlen:=hl.1
 refine ⟨by rw [List.length_eraseIdx,List.length_eraseIdx,hlen],λj x y hx hy=>?_⟩
 rw [List.getElem?_eraseIdx] at hx hy
 split at hx
 .rename_i hj;rw [aG hj] at hy;exact hl.2 j x y hx hy
 .rename_i hj;rw [aA hj] at hy;exact hl.2 (j+1) x y hx hy

theorem zlD (hT:T.Fits P) (hs:bB ρ h w) {ty:TypeId} {ts:List TypeId} {k k':ai} (cJ:VR ρ x y) (hk:VR ρ k k') (hl:JO T t x k h=some h') :
 ∃ w',(Builtin.delete_ (t::ts).toArray ty #[y,k']).run P w=.ok (.tuple #[]) w'/\Fr ρ ρ h h' w w'/\bB ρ h' w':=by
 unfold JO at hl
 split at hl
 .rename_i kt et hd
  split at hl
  .rename_i jj
   cases hl
   obtain ⟨hp,gI⟩:=Er jj
   have ot:k'=k:=hk.bt hp
   subst ot
   cases cJ
   refine ⟨w,?_,Fr.refl _ _ _,hs⟩
   have lX:∀ em,(Instr.checkKey em 10000 kt k').run P w=.ok () w:=λem=>Jd hT w em 20 9980 kt k' gI
   simp [Builtin.delete_,run_underlying (hT.desc _ _ hd),lX]
  .cases hl
 .rename_i kt et A hd
  split at hl
  .rename_i es clock hg
   split at hl
   .rename_i jj
    simp only [ck] at hl
    obtain ⟨r,hr,hl⟩:=hl
    have hu:=hT.desc _ _ hd
    obtain ⟨hp,gI⟩:=Er jj
    have ot:k'=k:=hk.bt hp
    subst ot
    cases cJ with
    |map hA =>
     rename_i L
     have hb:=hs.jV A L hA
     rw [hg] at hb
     obtain ⟨ces,hc,he⟩:=hb
     obtain ⟨r',hf,dm⟩:=LZ hT w jj he hr
     have lX:∀ em,(Instr.checkKey em 10000 kt k').run P w=.ok () w:=λem=>Jd hT w em 20 9980 kt k' gI
     have eW:(getObj L.b).run P w=.ok (.map ces clock) w:=by simp [getObj,Sem.run,hc]
     have jK:∀ o:Obj,(setObj L.b o).run P w=.ok () (w.putObj L.b o):=by
      intro o
      simp [setObj,Sem.run,hc,World.putObj]
     have aW:L.b < w.heap.size:=(kX.1 hc).1
     have tM:∀ (b':bc) (o:Obj),nt ρ (w.putObj L.b o) L (some b')->Fr ρ ρ h (h.set A b') w (w.putObj L.b o)/\bB ρ (h.set A b') (w.putObj L.b o):=by
      intro b' o lU
      refine Jr hs hA hg (by simp) (by simp) rfl rfl rfl (by simp [World.putObj]) (λq hq=>?_) lU
      simp only [World.putObj]
      rw [EC (Ne.symm hq)]
     have ki:∀ o:Obj,(w.putObj L.b o).heap[L.b]? = some o:=by
      intro o
      simp [World.putObj,aW]
     cases r with
     |none =>
      cases r' with
      |some q=>exact dm.elim
      |none =>
       cases hl
       refine ⟨w.putObj L.b (.map ces clock),?_,tM _ _ ⟨_,ki _,he⟩⟩
       simp [Builtin.delete_,run_underlying hu,eW,lX,hf,jK]
     |some q =>
      obtain ⟨i,v1⟩:=q
      cases r' with
      |none=>exact dm.elim
      |some q' =>
       obtain ⟨j,u1⟩:=q'
       obtain ⟨rfl,_⟩:=dm
       cases hl
       refine ⟨w.putObj L.b (.map (ces.eraseIdxIfInBounds i) clock),?_,tM _ _ ⟨_,ki _,?_⟩⟩
       .simp [Builtin.delete_,run_underlying hu,eW,lX,hf,jK]
       .have e1:(ces.eraseIdxIfInBounds i).toList=ces.toList.eraseIdx i:=by simp
        rw [e1]
        exact he.eraseIdx i
   .cases hl
  .cases hl
 .cases hl

theorem znA (hT:T.Fits P) (cJ:VR ρ x y) (hi:U0 T t x=some v) (w:World):∃ u,(Instr.makeInterface t y).run P w=.ok u w/\VR ρ v u:=by
 unfold U0 at hi
 split at hi
 .cases hi
 .rename_i d aO hd
  cases hi
  refine ⟨.iface t y,?_,.iface t cJ⟩
  have:=hT.desc _ _ hd
  simp only [Instr.makeInterface,Sem.run_bind,run_underlying this,Result.andThen_ok]
  cases d <;> first|rfl|exact (aO _ rfl).elim
 .cases hi

theorem zrH (hT:T.Fits P) (hz:T.zero t=some v) (w:World):(zeroValue t).run P w=.ok v w:=(Mg (ρ:=λ_=>none) hT hz w).1

theorem zln (hT:T.Fits P) {xt:TypeId} {ok:Bool} (cJ:VR ρ x y) (hi:Uu T x t ok=some v) (w:World):∃ u,(Instr.typeAssert y xt t ok).run P w=.ok u w/\VR ρ v u:=by
 unfold Uu at hi
 split at hi
 .cases hi
 .rename_i d aO hd
  have hu:=hT.desc _ _ hd
  have Q7:∀ ms,d≠.interface ms:=λms e=>aO ms e
  have yW:∀ z,T.zero t=some z->VR ρ (.tuple #[z,.bool false]) (.tuple #[z,.bool false]):=λz hz=>(cm.cons (Mg (ρ:=ρ) hT hz w).2 (.cons (.bool false) (.nil ρ))).gP
  split at hi
  .rename_i t' v'
   cases cJ with
   |iface _ cJ =>
    rename_i y'
    split at hi
    .rename_i e
     subst e
     cases hi
     refine ⟨if ok then .tuple #[y',.bool true] else y',?_,?_⟩
     .simp only [Instr.typeAssert,Sem.run_bind,run_underlying hu,Result.andThen_ok]
      cases d <;> first|(exact (Q7 _ rfl).elim)|simp
     .cases ok
      .exact cJ
      .exact (cm.cons cJ (.cons (.bool true) (.nil ρ))).gP
    .rename_i e
     split at hi
     .rename_i cX
      simp only [bX] at hi
      obtain ⟨z,hz,rfl⟩:=hi
      refine ⟨_,?_,yW z hz⟩
      simp only [Instr.typeAssert,Sem.run_bind,run_underlying hu,Result.andThen_ok]
      cases d <;> first|(exact (Q7 _ rfl).elim)|simp [e,cX,zrH hT hz]
     .cases hi
  .cases cJ
   split at hi
   .rename_i cX
    simp only [bX] at hi
    obtain ⟨z,hz,rfl⟩:=hi
    refine ⟨_,?_,yW z hz⟩
    simp only [Instr.typeAssert,Sem.run_bind,run_underlying hu,Result.andThen_ok]
    cases d <;> first|(exact (Q7 _ rfl).elim)|simp [cX,zrH hT hz]
   .cases hi
  .cases hi
 .cases hi

def MX (ρ:cf):eT->Place->Prop
 | .val v,.val u=>VR ρ v u
 | .var p,.var a=>VR ρ p (.pointer (some a))
 |_,_=>False

theorem ZB (hT:T.Fits P) (hs:bB ρ h w) {a:Addr} (hp:VR ρ p (.pointer (some a))) (hl:fU T t p h=some v):∃ u,(loadVar t a).run P w=.ok u w/\VR ρ v u:=by
 obtain ⟨u,h1,h2⟩:=Tj hT hs hp hl
 refine ⟨u,?_,h2⟩
 rw [<- h1]
 simp [Instr.loadAt,Instr.sureAddr]
theorem Mp (hT:T.Fits P) (hs:bB ρ h w) {x:eT} {y:Place} (cJ:MX ρ x y) (hg:x.get T t h=some v):∃ u,(y.get t).run P w=.ok u w/\VR ρ v u:=by
 cases x with
 |val v' =>
  cases y with
  |val u=>cases hg;exact ⟨u,rfl,cJ⟩
  |var a=>exact cJ.elim
 |var p =>
  cases y with
  |val u=>exact cJ.elim
  |var a=>exact ZB hT hs cJ hg
theorem zt4 {u:ai} {f:Nat} {q:ai} (hp:VR ρ p u) (hf:kP T s p f=some q):∃ a,u=.pointer (some a)/\(asAddr u).run P w=.ok a w:=by
 unfold kP at hf
 split at hf
 .cases hp with
  |ptr hA=>exact ⟨_,rfl,by simp [asAddr]⟩
 .cases hf
theorem Zl (hT:T.Fits P) {fs:Array Field} {q:ai} {a:Addr} {i:Nat} {f:Field} (hd:T.desc s=some (.struct fs)) (hi:fs[i]? = some f) (hp:VR ρ p (.pointer (some a))) (hf:kP T s p i=some q) :
 ∃ a',(fieldPlace a f).run P w=.ok a' w/\VR ρ q (.pointer (some a')):=by
 unfold kP at hf
 rw [hd] at hf
 split at hf
 .rename_i fs' A o e1
  cases e1
  simp only [ck] at hf
  obtain ⟨fl,GU,n,hn,hf⟩:=hf
  rw [hi] at GU
  cases GU
  split at hf
  .cases hf
  .rename_i h0
   cases hf
   cases hp with
   |ptr hA =>
    rename_i L
    refine ⟨⟨L.b,L.s+(o+f.offset),none⟩,?_,.ptr hA⟩
    simp [fieldPlace,rC hT hn,h0,Addr.add_mid,na]
 .cases hf

theorem LK (hT:T.Fits P) (hs:bB ρ h w):∀ (l:List FieldStep) (t:TypeId) (x:eT) (y:Place) (r:TypeId × eT),MX ρ x y->EJ T h l t x=some r->∃ y',(follow l t y).run P w=.ok (r.1,y') w/\MX ρ r.2 y'
 | [],t,x,y,r,cJ,hf=>by cases hf;exact ⟨y,by simp [follow],cJ⟩
 |s::l,t,x,y,r,cJ,hf=>by
  simp only [EJ] at hf
  split at hf
  .rename_i fs hd
   simp only [ck] at hf
   obtain ⟨f,hi,hf⟩:=hf
   have hu:=hT.desc _ _ hd
   split at hf
   .rename_i vp
    simp only [ck] at hf
    obtain ⟨p,hp,q,hq,hf⟩:=hf
    obtain ⟨u,h1,h2⟩:=Mp hT hs cJ hp
    obtain ⟨a,rfl,h3⟩:=zt4 (P:=P) (w:=w) h2 hq
    obtain ⟨a',h4,h5⟩:=Zl (P:=P) (w:=w) hT hd hi h2 hq
    obtain ⟨y',h6,h7⟩:=LK hT hs l _ (.var q) (.var a') r h5 hf
    refine ⟨y',?_,h7⟩
    simp only [follow,Sem.run_bind,run_underlying hu,Result.andThen_ok,hi,vp,if_true,h1,h3,h4,h6]
   .rename_i vp
    split at hf
    .rename_i p
     simp only [ck] at hf
     obtain ⟨q,hq,hf⟩:=hf
     cases y with
     |val u=>exact cJ.elim
     |var a =>
      obtain ⟨a',h4,h5⟩:=Zl (P:=P) (w:=w) hT hd hi cJ hq
      obtain ⟨y',h6,h7⟩:=LK hT hs l _ (.var q) (.var a') r h5 hf
      refine ⟨y',?_,h7⟩
      simp only [follow,Sem.run_bind,run_underlying hu,Result.andThen_ok,hi,vp,fF,if_false,h4,h6]
    .rename_i cs
     simp only [ck] at hf
     obtain ⟨v,hv,hf⟩:=hf
     cases y with
     |var a=>exact cJ.elim
     |val u =>
      cases cJ with
      |agg hc hh =>
       rename_i ds
       obtain ⟨vc,h4,h5⟩:=zjs (ds:=ds) hT (VR.agg hc hh).An hv w
       obtain ⟨y',h6,h7⟩:=LK hT hs l _ (.val v) (.val vc) r h5 hf
       refine ⟨y',?_,h7⟩
       simp only [follow,Sem.run_bind,run_underlying hu,Result.andThen_ok,hi,vp,fF,if_false,h4,h6]
    .cases hf
  .cases hf

theorem zjC (hT:T.Fits P) (hs:bB ρ h w) {xt:TypeId} {x:eT} {y:Place} {ptr:Bool} (cJ:MX ρ x y) (hr:TT T xt x ptr h=some v) (wr:Option String):∃ u,(receiverAt xt y ptr wr).run P w=.ok u w/\VR ρ v u:=by
 unfold TT at hr
 split at hr
 .rename_i e hd
  obtain ⟨u,h1,h2⟩:=Mp hT hs cJ hr
  refine ⟨u,?_,h2⟩
  simp only [receiverAt,Sem.run_bind,run_underlying (hT.desc _ _ hd),Result.andThen_ok,h1]
 .rename_i elem hd
  simp only [ck] at hr
  obtain ⟨p,hp,hr⟩:=hr
  obtain ⟨u,h1,h2⟩:=Mp hT hs cJ hp
  have hpu:∃ a,u=.pointer (some a):=by
   unfold fU at hr
   split at hr
   .cases h2 with
    |ptr hA=>exact ⟨_,rfl⟩
   .cases hr
  obtain ⟨a,rfl⟩:=hpu
  obtain ⟨u',h3,h4⟩:=ZB hT hs h2 hr
  refine ⟨u',?_,h4⟩
  simp only [receiverAt,Sem.run_bind,run_underlying (hT.desc _ _ hd),Result.andThen_ok,h1]
  cases wr with
  |none=>simp [asAddr,h3]
  |some nm =>
   have hw:(Builtin.ssaWrapNilChk_ #[xt] xt #[.pointer (some a),strVal "",strVal nm]).run P w=.ok (.pointer (some a)) w:=rfl
   simp [hw,asAddr,h3]
 .rename_i d p aO hd
  split at hr
  .rename_i a
   cases hr
   cases y with
   |val u=>exact cJ.elim
   |var a' =>
    refine ⟨.pointer (some a'),?_,cJ⟩
    simp only [receiverAt,Sem.run_bind,run_underlying (hT.desc _ _ hd),Result.andThen_ok]
    cases d <;> first|rfl|exact (aO _ rfl).elim
  .cases hr
 .rename_i d aO hd
  obtain ⟨u,h1,h2⟩:=Mp hT hs cJ hr
  refine ⟨u,?_,h2⟩
  simp only [receiverAt,Sem.run_bind,run_underlying (hT.desc _ _ hd),Result.andThen_ok]
  cases d <;> first|exact h1|exact (aO _ rfl).elim
 .cases hr

theorem zlR (hT:T.Fits P) (hs:bB ρ h w) {u r:ai} {name:String} {f:FuncId} (hv:VR ρ v u) (hm:MP T t v name h=some (f,r)) (fuel:Nat):∃ r',(method (fuel+1) t u name).run P w=.ok (f,r') w/\VR ρ r r':=by
 unfold MP at hm
 simp only [ck,Prod.exists] at hm
 obtain ⟨m,ga,xt,x,hf,hm⟩:=hm
 obtain ⟨i,hi,GS⟩:=hT.uq _ _ _ ga
 obtain ⟨y,h1,h2⟩:=LK hT hs m.path.toList t (.val v) (.val u) (xt,x) hv hf
 split at hm
 .rename_i f' ptr kx
  simp only [bX,cx] at hm
  obtain ⟨r1,hr,rfl,rfl⟩:=hm
  obtain ⟨r',h3,h4⟩:=zjC hT hs h2 hr (if m.path.isEmpty then some ((name.splitOn ".").getLastD name) else none)
  refine ⟨r',?_,h4⟩
  have hti:(typeInfo t).run P w=.ok i w:=by simp [typeInfo,hi]
  simp only [method,Sem.run_bind,hti,Result.andThen_ok,GS,h1,kx,h3,Sem.run_pure]
 .cases hm

theorem zsf (hT:T.Fits P) {ty:TypeId} (cJ:VR ρ x y) (hc:AJ T t x=some v) (ts:List TypeId) (w:World):∃ u,(Builtin.cap_ (t::ts).toArray ty #[y]).run P w=.ok u w/\VR ρ v u:=by
 unfold AJ at hc
 split at hc
 .rename_i e a n c hd
  split at hc
  .rename_i aW
   cases hc
   have key:∃ a' n',y=.slice a' n' c:=by
    cases cJ with
    |dc=>exact ⟨_,_,rfl⟩
    |slice=>exact ⟨_,_,rfl⟩
    |cG h1 h2=>omega
   obtain ⟨a',n',rfl⟩:=key
   exact ⟨_,by simp [Builtin.cap_,run_underlying (hT.desc _ _ hd),goInt],.int _ _⟩
  .cases hc
 .cases hc

theorem zkx:∀ (l m:List ai) (bs:List UInt8),cm ρ l m->J7 l=some bs->∃ ns:List Int,m=ns.map (Value.int .u8)/\bs=ns.map λn=>UInt8.ofNat n.toNat
 | [],m,bs,hv,hb=>by
  rw [hv.of_nil]
  cases hb
  exact ⟨[],rfl,rfl⟩
 |x::l,m,bs,hv,hb=>by
  obtain ⟨y,m',rfl,h1,h2⟩:=hv.of_cons
  cases x with
  |int k n =>
   cases k <;> simp only [J7] at hb <;> try cases hb
   simp only [bX] at hb
   obtain ⟨bs',lU,rfl⟩:=hb
   cases h1
   obtain ⟨ns,rfl,rfl⟩:=zkx l m' bs' h2 lU
   exact ⟨n::ns,rfl,rfl⟩
  |_=>simp [J7] at hb

theorem zkg (hT:T.Fits P) (hs:bB ρ h w) {d:TypeId} (cJ:VR ρ x y) (hb:MC T s d x h=some v):∃ u,(convert s d y).run P w=.ok u w/\VR ρ v u:=by
 unfold MC at hb
 split at hb
 .rename_i e a n c tP Qo
  split at hb
  .rename_i hed
   simp only [ck,bX] at hb
   obtain ⟨l,hl,bs,AZ,rfl⟩:=hb
   obtain ⟨a',c',m,rfl,hv,hlen,dN⟩:=SZ (P:=P) hs cJ hl
   obtain ⟨ns,rfl,rfl⟩:=zkx l m bs hv AZ
   refine ⟨_,?_,.string _⟩
   rw [run_convert_bytes_string w s d e a' n c' (hT.desc _ _ tP) (hT.desc _ _ hed) (hT.desc _ _ Qo)]
   cases a' with
   |none =>
    have hn:n=0:=by cases cJ;rfl
    subst hn
    have:ns=[]:=by simpa using hlen
    subst this
    rfl
   |some ad =>
    have h1:=dN w rfl n (aS _)
    have h2:(loadCells ad n).run P w=.ok (ns.map (Value.int .u8)).toArray w:=by
     have h3:(Builtin.firstCells 1 n (.slice (some ad) n c'))=loadCells ad (n*1):=rfl
     rw [h3,Nat.mul_one] at h1
     rw [h1]
     congr 2
     exact iK (by rw [hlen,Nat.mul_one];exact aS _)
    rw [run_bytesToString w ad n c' ns h2,foldl_push_bytes]
    simp
  .cases hb
 .cases hb

theorem zkm (hT:T.Fits P) (hs:bB ρ h w) (bL:el ρ h h') {d:TypeId} (mS:MI T s=true) (hx:VR ρ x y) (hl:EA T d x h=some (v,h')) :
 ∃ ρ' u w',(convert s d y).run P w=.ok u w'/\Fr ρ ρ' h h' w w'/\bB ρ' h' w'/\VR ρ' v u:=by
 have qp:P.underlying s=some .string:=by
  unfold MI at mS
  split at mS
  .rename_i hd;exact hT.desc _ _ hd
  .cases mS
 unfold EA at hl
 split at hl
 .rename_i e b hd
  split at hl
  .rename_i rN z he hi
   split at hl
   .cases hl
   .rename_i HD
    have dC:¬ b.size > 1152921504606846976:=λg=>HD (.inl g)
    have hbt:e=zz9:=Decidable.byContradiction λg=>HD (.inr g)
    cases hl
    cases hx
    have dN:=Lib.run_convert_string_bytes w s d e b qp (hT.desc _ _ hd) (hT.desc _ _ he)
    have qU:=grownCap_ge w b.size 0 e
    have hle:=grownCap_le_maxLen w b.size 0 e (by unfold maxLen;omega)
    have o0:(Lib.bytesCells w e b).size=grownCap w b.size 0 e:=by
     have AZ:b.data.size=b.size:=rfl
     simp only [Lib.bytesCells,Array.size_append,Array.size_map,Array.size_replicate,AZ]
     omega
    have hW:(Lib.bytesWorld w e b).heap=w.heap.push (.cells (Lib.bytesCells w e b) e ((Lib.bytesCells w e b).size,(Lib.bytesCells w e b).size+1)):=by
     apply Array.ext_getElem?
     intro j
     rw [uW]
     by_cases hj:j=w.heap.size
     .rw [aG hj,hj,Lib.bytesWorld_at_new]
     .rw [aA hj]
      by_cases QH:j < w.heap.size
      .exact Lib.bytesWorld_at_old w e b j QH
      .rw [Array.getElem?_eq_none (by rw [Lib.bytesWorld_size];omega),Array.getElem?_eq_none (by omega)]
    have lb:=zQ (k:=1) (q:=b.size) (by omega) (by unfold G;omega)
    obtain ⟨ρ',hρ,dm,dH⟩:=zjz (W:=Lib.bytesWorld w e b) (cs:=b.data.toList.map λu=>Value.int .u8 u.toNat) (m:=b.data.toList.map λu=>Value.int .u8 u.toNat) hs (bL _ (aS _) (by rw [Heap.size_push];omega))
     (fz:=((Lib.bytesCells w e b).size,(Lib.bytesCells w e b).size+1)) ⟨by intro j hj hh;have:=hh.1;simp at this;omega,.inl hbt⟩ hW
     (by simp [Lib.bytesWorld,World.freeze,World.alloc,World.drew,-World.alloc_eq,-World.drew_eq]) (by simp [Lib.bytesWorld,World.freeze,World.alloc,World.drew,-World.alloc_eq,-World.drew_eq]) (by simp [Lib.bytesWorld,World.freeze,World.alloc,World.drew,-World.alloc_eq,-World.drew_eq])
     (by refine uP ?_ (by simp) λj hj=>?_
         .simp [Lib.bytesCells]
         .simp only [fN,ss] at hj
          rw [ia]
          simp only [Lib.bytesCells,Array.toList_append,Array.toList_map]
          rw [kY (by simpa using hj)])
     (by refine ⟨rfl,λj a c ha hc=>?_⟩
         rw [ha] at hc
         cases hc
         rw [jS,bX] at ha
         obtain ⟨q,_,rfl⟩:=ha
         exact .int .u8 _)
    refine ⟨ρ',_,_,dN,dm,dH,?_⟩
    refine .cG hρ lb.1 (by rw [lb.2.1];exact qU) (by rw [lb.2.1];exact aS _) (by rw [lb.2.2];omega) hle (λ_=>⟨by simp,?_⟩)
    rw [lb.2.2]
    show 0+0+grownCap w b.size 0 e*1<=(Lib.bytesCells w e b).size
    rw [o0]
    omega
  .cases hl
 .cases hl
end
end Go.Am
namespace Go.Am
open Go.RowKit
variable {e:Env} {v:ai}

section
variable {P:Program} {T:bx} {ρ:cf} {h h':Heap} {w:World}

theorem bO.put {e:Env} {a:Act} (he:bO ρ e a.tmps) {v u:ai} (hv:VR ρ v u) (d:Option Tmp):bO ρ (Am.put e d v) (a.put d u).tmps:=by
 cases d with
 |none=>exact he
 |some d =>
  refine ⟨by simp [Am.put,Act.put,Env.length_set,he.1],λi=>?_⟩
  simp only [Am.put,Act.put,Env.aM]
  by_cases hi:i=d/\d < e.length
  .rw [aG hi]
   obtain ⟨rfl,aW⟩:=hi
   have:(a.tmps.setIfInBounds i u).getD i undef=u:=by
    have QV:i < a.tmps.size:=by rw [<- he.1];exact aW
    simp [QV]
   rw [this]
   exact hv
  .rw [aA hi]
   have:(a.tmps.setIfInBounds d u).getD i undef=a.tmps.getD i undef:=by
    by_cases hid:d=i
    .subst hid
     have:¬ d < a.tmps.size:=by rw [<- he.1];exact λaW=>hi ⟨rfl,aW⟩
     simp [this]
    .simp [EC hid]
   rw [this]
   exact he.2 i

theorem bO.operand {a:Act} (he:bO ρ e a.tmps) {x:Operand} (hx:pV ρ x):VR ρ (br e x) (a.eval x):=by
 cases x with
 |tmp t=>exact he.2 t
 |const v=>exact .cP ρ hx
 |global g =>
  obtain ⟨t,ht⟩:=hx
  exact .ptr (o:=0) ht
 |func f=>exact .func _ rfl rfl (by intro i x y hx;simp at hx) (by intro i x y hx;simp at hx)

theorem bO.operands {a:Act} (he:bO ρ e a.tmps) (xs:List Operand) (hx:∀ x∈xs,pV ρ x):cm ρ (xs.map (br e)) (xs.map a.eval):=by
 induction xs with
 |nil=>exact .nil ρ
 |cons x xs ih =>
  exact .cons (he.operand (hx x (by simp))) (ih λy hy=>hx y (by simp [hy]))

theorem bO.opt {a:Act} (he:bO ρ e a.tmps) {x:Option Operand} (hx:∀ y,x=some y->pV ρ y):oJ ρ (x.map (br e)) (x.map a.eval):=by
 cases x with
 |none=>trivial
 |some y=>exact he.operand (hx y rfl)

def Va (P:Program) (ρ:cf) (h h':Heap) (w:World) (v:ai) (f:FuncId) (aI:Array ai):Prop :=
 (∃ ρ' u w',(callFunc f aI).run P w=.ok (.value u) w'/\Fr ρ ρ' h h' w w'/\bB ρ' h' w'/\VR ρ' v u) \/
 ((callFunc f aI).run P w=.ok (.enter f aI) w/\Calls P f aI w λed w'=>∃ ρ' u,ed=.returned u/\Fr ρ ρ' h h' w w'/\bB ρ' h' w'/\VR ρ' v u)

def zzT (P:Program) (ρ:cf) (h h':Heap) (w:World) (v:ai) (l:Nat) (aI:Array ai):Prop :=
 ∃ f tmps assign body,(Instr.yield l aI).run P w=.ok (.round l f tmps assign body) w/\RoundIn Fence.wide 0 P l f tmps assign body w λed w'=>∃ ρ' u,ed=.returned u/\Fr ρ ρ' h h' w w'/\bB ρ' h' w'/\VR ρ' v u

structure CS (P:Program) (gs:List Nat) (C:Fn->List ai->Heap->Option (ai × Heap)):Prop where
 fn:∀ f args h v h',C (.func f) args h=some (v,h')->∀ ρ w (aI:Array ai),cE gs ρ->bB ρ h w->el ρ h h'->cm ρ args aI.toList->Va P ρ h h' w v f aI
 yield:∀ A args h v h',C (.yield A) args h=some (v,h')->∀ ρ w (aI:Array ai) L,ρ A=some L->cE gs ρ->bB ρ h w->el ρ h h'->cm ρ args aI.toList->zzT P ρ h h' w v L.b aI

def DC (P:Program) (ρ:cf) (h h':Heap) (w:World) (v:ai) (r:Result Next):Prop :=
 (∃ ρ' u w',(r=.ok (.value u) w'\/(r=.ok .skip w'/\u=undef))/\Fr ρ ρ' h h' w w'/\bB ρ' h' w'/\VR ρ' v u) \/
 (∃ f aI,r=.ok (.enter f aI) w/\Calls P f aI w λed w'=>∃ ρ' u,ed=.returned u/\Fr ρ ρ' h h' w w'/\bB ρ' h' w'/\VR ρ' v u) \/
 (∃ l f tmps assign body,r=.ok (.round l f tmps assign body) w/\RoundIn Fence.wide 0 P l f tmps assign body w λed w'=>∃ ρ' u,ed=.returned u/\Fr ρ ρ' h h' w w'/\bB ρ' h' w'/\VR ρ' v u)

theorem World.bz (w:World) (o:Obj):(w.alloc o).heap=w.heap.push o:=rfl

theorem DC.still (hs:bB ρ h w) {u:ai} {r:Result Next} (hr:r=.ok (.value u) w) (hv:VR ρ v u):DC P ρ h h w v r :=
 .inl ⟨ρ,u,w,.inl hr,Fr.refl _ _ _,hs,hv⟩

theorem Je {a:Act} {o:Oper} (hs:bB ρ h w) (he:bO ρ e a.tmps) (cX:ja ρ o) (hp:fB P e o h=some (v,h')) (Bi:(∀ x∈o.op.operands,a.eval x=br e x)->execOp a.eval o=execOp (br e) o) :
 DC P ρ h h' w v ((execOp a.eval o).run P w):=by
 unfold fB at hp
 split at hp
 .rename_i aD
  have heq:∀ x∈o.op.operands,a.eval x=br e x:=by
   intro x hx
   have h1:=gz.1 aD x (by simpa using hx)
   exact (he.operand (cX x (by simpa using hx))).bt h1
  rw [Bi heq]
  split at hp
  .rename_i v' hr
   split at hp
   .rename_i xu
    cases hp
    exact .still hs (Jj P _ _ hr w) (.cP ρ xu)
   .cases hp
  .cases hp
 .cases hp

theorem zkR {v:ai} (hs:bB ρ h w) (fo:ρ h.size=none) {t:TypeId} {cs:List ai} (u:ai) (hv:cm ρ cs u.cells.toList) :
 ∃ ρ',(newVar t u).run P w=.ok ⟨w.heap.size,0,none⟩ (w.alloc (.cells u.cells t))/\Fr ρ ρ' h (newRow t cs h).2 w (w.alloc (.cells u.cells t))/\bB ρ' (newRow t cs h).2 (w.alloc (.cells u.cells t)) /\
   VR ρ' (newRow t cs h).1 (.pointer (some ⟨w.heap.size,0,none⟩)):=by
 have _:=v
 obtain ⟨ρ',hρ,dm,dH⟩:=Et (W:=w.alloc (.cells u.cells t)) (cs:=cs) (m:=u.cells.toList) hs fo rfl rfl rfl rfl (by rw [hv.1];exact uP (by omega) rfl (λj _=>by rw [ia])) hv
 refine ⟨ρ',by simp [newVar,Go.newRow],dm,dH,?_⟩
 have:=VR.ptr (ρ:=ρ') (o:=0) hρ
 simpa [newRow] using this

theorem Zn (ps:Array (Nat × Operand)) (f:Operand->ai):(ps.map λ(i,x)=>(i,f x))=(ps.toList.map λ(i,x)=>(i,f x)).toArray:=by
 apply Array.ext'
 simp

theorem zn7 {a:Act} (he:bO ρ e a.tmps) (ps:List (Nat × Operand)) (cX:∀ x∈ps.map (·.2),pV ρ x) :
 (ps.map λ(i,x)=>(i,br e x)).length=(ps.map λ(i,x)=>(i,a.eval x)).length /\
 ∀ (i:Nat) (x y:Nat × ai),(ps.map λ(i,x)=>(i,br e x))[i]? = some x->(ps.map λ(i,x)=>(i,a.eval x))[i]? = some y->x.1=y.1/\VR ρ x.2 y.2:=by
 refine ⟨by simp,λi x y hx hy=>?_⟩
 rw [jS,bX] at hx hy
 obtain ⟨⟨j,o⟩,h1,rfl⟩:=hx
 obtain ⟨⟨j',o'⟩,h2,rfl⟩:=hy
 rw [h1] at h2
 cases h2
 exact ⟨rfl,he.operand (cX o (sx.2 ⟨(j,o),fV h1,rfl⟩))⟩

theorem Ee (hT:T.Fits P) {C:Fn->List ai->Heap->Option (ai × Heap)} {gs:List Nat} (hC:CS P gs C) (hG:cE gs ρ) {a:Act} {o:Oper} (hs:bB ρ h w) (he:bO ρ e a.tmps) (cX:ja ρ o) (bL:el ρ h h') 
 (aj:gq P T C e o h=some (v,h')):DC P ρ h h' w v ((execOp a.eval o).run P w):=by
 have aD:∀ x∈o.op.operands.toList,pV ρ x:=cX
 unfold gq at aj
 dsimp only at aj
 split at aj
 .rename_i x aN
  cases aj
  refine .still (u:=a.eval x) hs (by simp [execOp,aN]) (he.operand (aD _ (by simp [aN,Op.operands])))
 .rename_i x aN
  cases aj
  refine .still (u:=a.eval x) hs (by simp [execOp,aN]) (he.operand (aD _ (by simp [aN,Op.operands])))
 .rename_i c x y aN
  have hc:=he.operand (aD c (by simp [aN,Op.operands]))
  have hx:=he.operand (aD x (by simp [aN,Op.operands]))
  have hy:=he.operand (aD y (by simp [aN,Op.operands]))
  split at aj
  .rename_i t ht
   cases aj
   rw [ht] at hc
   have eO:a.eval c=.bool t:=hc.bt rfl
   refine .still (u:=if t then a.eval x else a.eval y) hs (by simp [execOp,aN,eO,asBool]) ?_
   cases t
   .exact hy
   .exact hx
  .cases aj
 .rename_i t aN
  simp only [bX,Prod.exists] at aj
  obtain ⟨k,rN,z,fZ,aj⟩:=aj
  obtain ⟨i,zv,hi,rfl,rfl,hz,rfl,xA,oA⟩:=hT.info t k rN z fZ
  have e1:v=(newRow t zv.cells.toList h).1:=(congrArg Prod.fst aj).symm
  have e2:h'=(newRow t zv.cells.toList h).2:=(congrArg Prod.snd aj).symm
  subst e1 e2
  obtain ⟨ρ',h1,h2,h3,h4⟩:=zkR (P:=P) (v:=undef) hs (bL _ (aS _) (pP _)) (t:=t) zv (cm.plain ρ oA)
  refine .inl ⟨ρ',_,_,.inl ?_,h2,h3,h4⟩
  simp [execOp,aN,Instr.alloc,zeroValue,typeInfo,hi,hz,h1]
 .rename_i t x aN
  have hx:=he.operand (aD x (by simp [aN,Op.operands]))
  simp only [dy] at aj
  have e1:v=(newRow t (br e x).cells.toList h).1:=(congrArg Prod.fst aj).symm
  have e2:h'=(newRow t (br e x).cells.toList h).2:=(congrArg Prod.snd aj).symm
  subst e1 e2
  obtain ⟨ρ',h1,h2,h3,h4⟩:=zkR (P:=P) (v:=undef) hs (bL _ (aS _) (pP _)) (t:=t) (a.eval x) hx.cells
  refine .inl ⟨ρ',_,_,.inl ?_,h2,h3,h4⟩
  simp [execOp,aN,Instr.box,h1]
 .rename_i t ps aN
  simp only [bX,cx] at aj
  obtain ⟨r,hr,rfl,rfl⟩:=aj
  obtain ⟨p1,p2⟩:=zn7 he ps.toList (λx hx=>aD x (by simpa [aN,Op.operands] using hx))
  obtain ⟨vc,h1,h2⟩:=zm0 (ρ:=ρ) hT p1 p2 hr w
  refine .still hs ?_ h2
  simp only [execOp,aN,Zn,Sem.run_bind,h1,Result.andThen_ok,Sem.run_pure]
 .rename_i t n ps aN
  obtain ⟨p1,p2⟩:=zn7 he ps.toList (λx hx=>aD x (by simpa [aN,Op.operands] using hx))
  obtain ⟨ρ',vc,w',h1,h2,h3,h4⟩:=zgK (ρ:=ρ) hT hs bL p1 p2 aj
  refine .inl ⟨ρ',vc,w',.inl ?_,h2,h3,h4⟩
  simp only [execOp,aN,Zn,Sem.run_bind,h1,Result.andThen_ok,Sem.run_pure]
 .rename_i t x aN
  have hx:=he.operand (aD x (by simp [aN,Op.operands]))
  simp only [bX,cx] at aj
  obtain ⟨r,hr,rfl,rfl⟩:=aj
  obtain ⟨u,h1,h2⟩:=Tj hT hs hx hr
  exact .still hs (by simp [execOp,aN,h1]) h2
 .rename_i t x y aN
  have hx:=he.operand (aD x (by simp [aN,Op.operands]))
  have hy:=he.operand (aD y (by simp [aN,Op.operands]))
  simp only [bX,cx] at aj
  obtain ⟨h1,hr,rfl,rfl⟩:=aj
  unfold gN at hr
  split at hr
  .rename_i A off xz
   rw [xz] at hx
   simp only [ck] at hr
   obtain ⟨n,hn,hr⟩:=hr
   split at hr
   .rename_i dC
    generalize wK:a.eval x=ax at hx
    cases hx with
    |ptr hA =>
     rename_i L
     obtain ⟨w',dh,dm,dH⟩:=Jg (P:=P) hs hA hy.cells hr
     have o0:(a.eval y).cells.size=n:=by have:=hy.cells.1;simp at this;omega
     refine .inl ⟨ρ,undef,w',.inr ⟨?_,rfl⟩,dm,dH,.undef ρ⟩
     simp [execOp,aN,wK,Instr.storeAt,Instr.sureAddr,storeVar,rC hT hn,o0,dh]
   .cases hr
  .cases hr
 .rename_i x aN
  have hx:=he.operand (aD x (by simp [aN,Op.operands]))
  split at aj
  .rename_i ad xz
   cases aj
   rw [xz] at hx
   generalize wK:a.eval x=ax at hx
   cases hx with
   |ptr hA=>exact .still hs (by simp [execOp,aN,wK]) (.ptr hA)
  .rename_i f fi ca xz
   cases aj
   rw [xz] at hx
   generalize wK:a.eval x=ax at hx
   cases hx with
   |func _ hf hc h1 h2=>exact .still hs (by simp [execOp,aN,wK]) (.func _ hf hc h1 h2)
  .rename_i t z xz
   cases aj
   rw [xz] at hx
   generalize wK:a.eval x=ax at hx
   cases hx with
   |iface _ h1=>exact .still hs (by simp [execOp,aN,wK]) (.iface t h1)
  .cases aj
 .rename_i op t x y yt aN
  have hx:=he.operand (aD x (by simp [aN,Op.operands]))
  have hy:=he.operand (aD y (by simp [aN,Op.operands]))
  simp only [bX,cx] at aj
  obtain ⟨r,hr,rfl,rfl⟩:=aj
  obtain ⟨vc,h1,h2⟩:=zr4 hT hx hy hr x y w
  refine .still hs ?_ h2
  simp only [execOp,aN]
  rw [Sem.run_bind,h1]
  rfl
 .rename_i fn first captured aN
  split at aj
  .rename_i f
   cases aj
   have h1:=he.operands first.toList (λx hx=>aD x (by simp [aN,Op.operands];left;simpa using hx))
   have h2:=he.operands captured.toList (λx hx=>aD x (by simp [aN,Op.operands];right;simpa using hx))
   refine .still (u:=.func (.func f) (first.map a.eval) (captured.map a.eval)) hs ?_ ?_
   .simp [execOp,aN,Instr.makeFunc]
   .refine .func _ (by simp) (by simp) (λi x y hx hy=>h1.2 i x y ?_ ?_) (λi x y hx hy=>h2.2 i x y ?_ ?_)
    all_goals simp at hx hy ⊢;assumption
  .cases aj
 .rename_i t l c aN
  have hl:=he.operand (aD l (by simp [aN,Op.operands]))
  have hc:=he.operand (aD c (by simp [aN,Op.operands]))
  obtain ⟨ρ',vc,w',h1,h2,h3,h4⟩:=zhT hT hs bL hl hc aj
  refine .inl ⟨ρ',vc,w',.inl ?_,h2,h3,h4⟩
  simp [execOp,aN,h1]
 .rename_i t x l hi m aN
  have hx:=he.operand (aD x (by simp [aN,Op.operands]))
  have hl:=he.opt (x:=l) (λy hy=>aD y (by subst hy;simp [aN,Op.operands]))
  have mN:=he.opt (x:=hi) (λy hy=>aD y (by subst hy;simp [aN,Op.operands]))
  have hm:=he.opt (x:=m) (λy hy=>aD y (by subst hy;simp [aN,Op.operands]))
  simp only [bX,cx] at aj
  obtain ⟨r,hr,rfl,rfl⟩:=aj
  obtain ⟨vc,h1,h2⟩:=zog hT hx hl mN hm hr w
  exact .still hs (by simp [execOp,aN,h1]) h2
 .rename_i s x f aN
  have hx:=he.operand (aD x (by simp [aN,Op.operands]))
  simp only [bX,cx] at aj
  obtain ⟨r,hr,rfl,rfl⟩:=aj
  obtain ⟨vc,h1,h2⟩:=zhO hT hx hr w
  exact .still hs (by simp [execOp,aN,h1]) h2
 .rename_i t x f aN
  have hx:=he.operand (aD x (by simp [aN,Op.operands]))
  simp only [bX,cx] at aj
  obtain ⟨r,hr,rfl,rfl⟩:=aj
  obtain ⟨vc,h1,h2⟩:=znv hT hx hr w
  exact .still hs (by simp [execOp,aN,h1]) h2
 .rename_i t x i aN
  have hx:=he.operand (aD x (by simp [aN,Op.operands]))
  have hi:=he.operand (aD i (by simp [aN,Op.operands]))
  simp only [bX,cx] at aj
  obtain ⟨r,hr,rfl,rfl⟩:=aj
  obtain ⟨vc,h1,h2⟩:=zhQ hT hx hi hr w
  exact .still hs (by simp [execOp,aN,h1]) h2
 .rename_i t i aN
  have ht:=he.operand (aD t (by simp [aN,Op.operands]))
  split at aj
  .rename_i vs hte
   rw [hte] at ht
   simp only [bX,cx] at aj
   obtain ⟨r,hr,rfl,rfl⟩:=aj
   generalize ki:a.eval t=at_ at ht
   cases ht with
   |tuple hc hh =>
    rename_i ds
    have aW:i < vs.size:=(kX.1 hr).1
    have hd:ds[i]? = some (ds[i]'(by omega)):=EM _
    exact .still hs (by simp [execOp,aN,ki,Instr.extract,hd]) (hh i _ _ hr hd)
  .cases aj
 .rename_i op t x aN
  refine Je hs he cX aj (λheq=>?_)
  have:=heq x (by simp [aN,Op.operands])
  simp [execOp,aN,this]
 .rename_i s t x aN
  split at aj
  .have hx:=he.operand (aD x (by simp [aN,Op.operands]))
   simp only [bX,cx] at aj
   obtain ⟨r,hr,rfl,rfl⟩:=aj
   obtain ⟨u,h1,h2⟩:=zkg hT hs hx hr
   exact .still hs (by simp [execOp,aN,h1]) h2
  .split at aj
   .split at aj
    .rename_i Rt
     have hx:=he.operand (aD x (by simp [aN,Op.operands]))
     obtain ⟨ρ',u,w',r1,r2,r3,r4⟩:=zkm hT hs bL Rt hx aj
     exact .inl ⟨ρ',u,w',.inl (by simp [execOp,aN,r1]),r2,r3,r4⟩
    .cases aj
   .refine Je hs he cX aj (λheq=>?_)
    have:=heq x (by simp [aN,Op.operands])
    simp [execOp,aN,this]
 .rename_i t x i aN
  refine Je hs he cX aj (λheq=>?_)
  have h1:=heq x (by simp [aN,Op.operands])
  have h2:=heq i (by simp [aN,Op.operands])
  simp [execOp,aN,h1,h2]
 .rename_i c aN
  obtain ⟨callee,args,argTypes⟩:=c
  have dE:∀ x∈args.toList,pV ρ x:=λx hx=>aD x (by simp [aN,Op.operands,Call.operands];right;simpa using hx)
  dsimp only at aj
  split at aj
  .split at aj
   .rename_i t u s x rj mg
    have e1:argTypes=#[t,u]:=by apply Array.ext';simpa using rj
    have e2:args=#[s,x]:=by apply Array.ext';simpa using mg
    subst e1 e2
    have h1:=he.operand (dE s (by simp))
    have h2:=he.operand (dE x (by simp))
    split at aj
    .rename_i hu
     have HA:Ks P u:=by
      unfold rH at hu
      simp only [qH,beq_iff_eq] at hu
      rcases hu with rfl|hu
      .have h4:=aj
       unfold lh at h4
       split at h4
       .rename_i e' hd;exact .inl ⟨_,hT.desc _ _ hd⟩
       .cases h4
      .split at hu
       .rename_i hd;exact .inr (hT.desc _ _ hd)
       .rename_i e' hd;exact .inl ⟨_,hT.desc _ _ hd⟩
       .cases hu
     obtain ⟨ρ',vc,w',r1,r2,r3,r4⟩:=zlk (ty:=o.type) hT hs bL HA h1 h2 aj
     refine .inl ⟨ρ',vc,w',.inl ?_,r2,r3,r4⟩
     simp [execOp,aN,resolve,invoke,builtin,r1]
    .cases aj
   .cases aj
  .split at aj
   .rename_i t u d s rj mg
    have e1:argTypes=#[t,u]:=by apply Array.ext';simpa using rj
    have e2:args=#[d,s]:=by apply Array.ext';simpa using mg
    subst e1 e2
    have h1:=he.operand (dE d (by simp))
    have h2:=he.operand (dE s (by simp))
    obtain ⟨vc,w',r1,r2,r3,r4⟩:=zpb (u:=u) (ty:=o.type) hT hs h1 h2 aj
    refine .inl ⟨ρ,vc,w',.inl ?_,r2,r3,r4⟩
    simp [execOp,aN,resolve,invoke,builtin,r1]
   .cases aj
  .split at aj
   .rename_i t x rj mg
    have e1:argTypes=#[t]:=by apply Array.ext';simpa using rj
    have e2:args=#[x]:=by apply Array.ext';simpa using mg
    subst e1 e2
    have h1:=he.operand (dE x (by simp))
    simp only [bX,cx] at aj
    obtain ⟨h2,hr,rfl,rfl⟩:=aj
    obtain ⟨w',r1,r2,r3⟩:=zm7 (ty:=o.type) hT hs h1 hr
    refine .inl ⟨ρ,undef,w',.inl ?_,r2,r3,.undef ρ⟩
    simp [execOp,aN,resolve,invoke,builtin,r1]
   .cases aj
  .split at aj
   .rename_i t ts x rj mg
    have e2:args=#[x]:=by apply Array.ext';simpa using mg
    have e1:argTypes=(t::ts).toArray:=by apply Array.ext';simpa using rj
    subst e1 e2
    have h1:=he.operand (dE x (by simp))
    simp only [bX,cx] at aj
    obtain ⟨r,hr,rfl,rfl⟩:=aj
    obtain ⟨vc,r1,r2⟩:=zsD (ty:=o.type) hT hs h1 hr ts
    refine .still hs ?_ r2
    simp [execOp,aN,resolve,invoke,builtin,r1]
   .cases aj
  .refine Je hs he cX aj (λheq=>?_)
   have hm:args.map a.eval=args.map (br e):=by
    apply Array.map_congr_left
    intro x hx
    exact heq x (by simp [aN,Op.operands,Call.operands];exact hx)
   simp [execOp,aN,resolve,hm]
  .refine Je hs he cX aj (λheq=>?_)
   have hm:args.map a.eval=args.map (br e):=by
    apply Array.map_congr_left
    intro x hx
    exact heq x (by simp [aN,Op.operands,Call.operands];exact hx)
   simp [execOp,aN,resolve,hm]
  .split at aj
   .rename_i t ts m k rj mg
    have e2:args=#[m,k]:=by apply Array.ext';simpa using mg
    have e1:argTypes=(t::ts).toArray:=by apply Array.ext';simpa using rj
    subst e1 e2
    have h1:=he.operand (dE m (by simp))
    have h2:=he.operand (dE k (by simp))
    simp only [bX,cx] at aj
    obtain ⟨h3,hr,rfl,rfl⟩:=aj
    obtain ⟨w',r1,r2,r3⟩:=zlD (ty:=o.type) (ts:=ts) hT hs h1 h2 hr
    refine .inl ⟨ρ,undef,w',.inl ?_,r2,r3,.undef ρ⟩
    simp [execOp,aN,resolve,invoke,builtin,r1,undef]
   .cases aj
  .split at aj
   .rename_i t ts x rj mg
    have e2:args=#[x]:=by apply Array.ext';simpa using mg
    have e1:argTypes=(t::ts).toArray:=by apply Array.ext';simpa using rj
    subst e1 e2
    have h1:=he.operand (dE x (by simp))
    simp only [bX,cx] at aj
    obtain ⟨r,hr,rfl,rfl⟩:=aj
    obtain ⟨vc,r1,r2⟩:=zsf (ty:=o.type) hT h1 hr ts w
    refine .still hs ?_ r2
    simp [execOp,aN,resolve,invoke,builtin,r1]
   .cases aj
  .rename_i rv name
   have Rk:=he.operand (aD rv (by simp [aN,Op.operands,Call.operands]))
   split at aj
   .rename_i t x Rh
    rw [Rh] at Rk
    generalize yS:a.eval rv=ar at Rk
    simp only [ck,Prod.exists] at aj
    obtain ⟨f,y,hm,aj⟩:=aj
    cases Rk with
    |iface _ hx =>
     rename_i x'
     obtain ⟨y',r1,r2⟩:=zlR hT hs hx hm (P.types.size+Made.depth - 1)
     have hd:P.types.size+Made.depth - 1+1=P.types.size+Made.depth:=by simp [Made.depth]
     rw [hd] at r1
     have cu:=he.operands args.toList dE
     have tl:(execOp a.eval o).run P w=(callFunc f (#[y']++args.map a.eval)).run P w:=by
      have h0:(#[Value.iface t x']++Array.map a.eval args)[0]? = some (.iface t x'):=by rw [Array.getElem?_append_left (by simp)];rfl
      have Hn:(program:Sem Program).run P w=.ok P w:=rfl
      have hex:(#[Value.iface t x']++Array.map a.eval args).extract 1 (#[Value.iface t x']++Array.map a.eval args).size=Array.map a.eval args:=by
       rw [Array.extract_append]
       simp
      simp only [execOp,aN,resolve,Sem.run_bind,Sem.run_pure,Result.andThen_ok,invoke,yS,h0,callMethod,Hn,r1,hex]
     have lW:=hC.fn f _ h v h' aj ρ w (#[y']++args.map a.eval) hG hs bL (by
      have:=cm.cons r2 cu
      simpa using this)
     rw [tl]
     rcases lW with ⟨ρ',u,w',q1,q2,q3,q4⟩|⟨q1,q2⟩
     .exact .inl ⟨ρ',u,w',.inl q1,q2,q3,q4⟩
     .exact .inr (.inl ⟨f,_,q1,q2⟩)
   .cases aj
  .rename_i f
   have hf:=he.operand (aD f (by simp [aN,Op.operands,Call.operands]))
   split at aj
   .rename_i g first captured GQ
    rw [GQ] at hf
    generalize P8:a.eval f=af at hf
    cases hf with
    |func _ h1 h2 h3 h4 =>
     rename_i eV cQ
     have rm:cm ρ first.toList eV.toList:=⟨by simpa using h1,λi x y hx hy=>h3 i x y (by simpa using hx) (by simpa using hy)⟩
     have rp:cm ρ captured.toList cQ.toList:=⟨by simpa using h2,λi x y hx hy=>h4 i x y (by simpa using hx) (by simpa using hy)⟩
     have cu:=he.operands args.toList dE
     have lW:=hC.fn g _ h v h' aj ρ w ((eV++args.map a.eval)++cQ) hG hs bL (by
      have:=(rm.append cu).append rp
      simpa using this)
     have tl:(execOp a.eval o).run P w=(callFunc g ((eV++args.map a.eval)++cQ)).run P w:=by
      simp [execOp,aN,resolve,P8,Deferred.ofValue,invoke]
     rw [tl]
     rcases lW with ⟨ρ',u,w',r1,r2,r3,r4⟩|⟨r1,r2⟩
     .exact .inl ⟨ρ',u,w',.inl r1,r2,r3,r4⟩
     .exact .inr (.inl ⟨g,_,r1,r2⟩)
   .rename_i A first captured GQ
    rw [GQ] at hf
    generalize P8:a.eval f=af at hf
    split at aj
    .cases hf with
     |yield hA =>
      rename_i L _
      have cu:=he.operands args.toList dE
      obtain ⟨g,tmps,assign,body,r1,r2⟩:=hC.yield A _ h v h' aj ρ w (args.map a.eval) L hA hG hs bL (by simpa using cu)
      refine .inr (.inr ⟨L.b,g,tmps,assign,body,?_,r2⟩)
      rw [<- r1]
      simp [execOp,aN,resolve,P8,Deferred.ofValue,invoke]
    .cases aj
   .cases aj
  .cases aj
 .rename_i t r aN
  have nG:∃ ρ',Fr ρ ρ' h (h.push (.map [] 0)) w (w.alloc (.map #[] 0))/\bB ρ' (h.push (.map [] 0)) (w.alloc (.map #[] 0))/\VR ρ' (.map (some h.size)) (.map (some w.heap.size))\/¬ (ρ h.size=none):=by
   by_cases hn:ρ h.size=none
   .obtain ⟨ρ',h1,h2,h3⟩:=Tn (W:=w.alloc (.map #[] 0)) (L:=⟨w.heap.size,0,0⟩) (b:=.map [] 0) hs hn (λk hk=>by rw [Am.World.bz,uW,aA (by omega)]) (by rw [Am.World.bz];simp) rfl rfl rfl (aS _)
     (λρ' _=>⟨#[],by rw [Am.World.bz];simp,rfl,by intro i x y hx;simp at hx⟩)
    exact ⟨ρ',.inl ⟨h2,h3,.map h1⟩⟩
   .exact ⟨ρ,.inr hn⟩
  split at aj
  .cases aj
   obtain ⟨ρ',⟨h2,h3,h4⟩|hn⟩:=nG
   .exact .inl ⟨ρ',_,_,.inl (by simp [execOp,aN,Instr.makeMap]),h2,h3,h4⟩
   .exact (hn (bL _ (aS _) (pP _))).elim
  .rename_i x
   have hx:=he.operand (aD x (by simp [aN,Op.operands]))
   split at aj
   .rename_i hd xz
    cases aj
    rw [xz] at hx
    generalize wK:a.eval x=ax at hx
    cases hx
    obtain ⟨ρ',⟨h2,h3,h4⟩|hn⟩:=nG
    .refine .inl ⟨ρ',_,_,.inl ?_,h2,h3,h4⟩
     simp [execOp,aN,Instr.makeMap,wK,run_underlying (hT.desc _ _ hd),asInt,asIntOf]
    .exact (hn (bL _ (aS _) (pP _))).elim
   .cases aj
 .rename_i t x k ok aN
  have hx:=he.operand (aD x (by simp [aN,Op.operands]))
  have hk:=he.operand (aD k (by simp [aN,Op.operands]))
  simp only [bX,cx] at aj
  obtain ⟨r,hr,rfl,rfl⟩:=aj
  obtain ⟨u,h1,h2⟩:=zlN hT hs hx hk hr
  exact .still hs (by simp [execOp,aN,h1]) h2
 .rename_i t m k x aN
  have hm:=he.operand (aD m (by simp [aN,Op.operands]))
  have hk:=he.operand (aD k (by simp [aN,Op.operands]))
  have hx:=he.operand (aD x (by simp [aN,Op.operands]))
  simp only [bX,cx] at aj
  obtain ⟨h1,hr,rfl,rfl⟩:=aj
  obtain ⟨w',r1,r2,r3⟩:=Zx hT hs hm hk hx hr
  exact .inl ⟨ρ,undef,w',.inr ⟨by simp [execOp,aN,r1],rfl⟩,r2,r3,.undef ρ⟩
 .rename_i t m k x aN
  have hm:=he.operand (aD m (by simp [aN,Op.operands]))
  have hk:=he.operand (aD k (by simp [aN,Op.operands]))
  have hx:=he.operand (aD x (by simp [aN,Op.operands]))
  simp only [bX,cx] at aj
  obtain ⟨h1,hr,rfl,rfl⟩:=aj
  obtain ⟨w',r1,r2,r3⟩:=Zx hT hs hm hk hx hr
  exact .inl ⟨ρ,undef,w',.inr ⟨by simp [execOp,aN,r1],rfl⟩,r2,r3,.undef ρ⟩
 .rename_i t m k aN
  have hm:=he.operand (aD m (by simp [aN,Op.operands]))
  have hk:=he.operand (aD k (by simp [aN,Op.operands]))
  obtain ⟨u,w',r1,r2,r3,r4⟩:=znp hT hs hm hk aj
  exact .inl ⟨ρ,u,w',.inl (by simp [execOp,aN,r1]),r2,r3,r4⟩
 .rename_i t m k x aN
  have hm:=he.operand (aD m (by simp [aN,Op.operands]))
  have hk:=he.operand (aD k (by simp [aN,Op.operands]))
  have hx:=he.operand (aD x (by simp [aN,Op.operands]))
  simp only [bX,cx] at aj
  obtain ⟨h1,hr,rfl,rfl⟩:=aj
  obtain ⟨w',r1,r2,r3⟩:=zgS (P:=P) (t:=t) hs hm hk hx hr
  exact .inl ⟨ρ,undef,w',.inr ⟨by simp [execOp,aN,r1],rfl⟩,r2,r3,.undef ρ⟩
 .rename_i t x aN
  have hx:=he.operand (aD x (by simp [aN,Op.operands]))
  simp only [bX,cx] at aj
  obtain ⟨r,hr,rfl,rfl⟩:=aj
  obtain ⟨u,h1,h2⟩:=znA hT hx hr w
  exact .still hs (by simp [execOp,aN,h1]) h2
 .rename_i x xt t ok aN
  have hx:=he.operand (aD x (by simp [aN,Op.operands]))
  simp only [bX,cx] at aj
  obtain ⟨r,hr,rfl,rfl⟩:=aj
  obtain ⟨u,h1,h2⟩:=zln (xt:=xt) hT hx hr w
  exact .still hs (by simp [execOp,aN,h1]) h2
 .cases aj
end
end Go.Am
namespace Go.Am
open Go.RowKit
variable {k v x:ai} {o:Oper} {e:Env} {C:Fn->List ai->Heap->Option (ai × Heap)} {tmps:Array ai} {t:TypeId} {c:Code}

section
variable {P:Program} {T:bx} {ρ:cf} {h h':Heap} {w:World}

def WR (rl:Option Nat):Fence:={ Fence.wide with round:=rl }
theorem zkz {rl:Option Nat} {n:Nat} {f:FuncId} {args:Array ai} {R:Ending->World->Prop} (hc:Calls P f args w R):CallsIn (WR rl) n P f args w R :=
 (callsIn_wide (n:=n)).2 hc

theorem DC.wp {a:Act} (hr:DC P ρ h h' w v ((execOp a.eval o).run P w)) (Li:∀ c,o.op≠.defer c) {K:Act->World->Prop} {Q:Exit->Act->World->Prop} {rl:Option Nat}
 (hK:∀ ρ' u w',Fr ρ ρ' h h' w w'->bB ρ' h' w'->VR ρ' v u->K (a.put o.dst u) w'):o.wpIn (WR rl) 0 P a w K Q:=by
 unfold Oper.wpIn
 refine ⟨λ_ _=>trivial,?_⟩
 rw [Oper.semAt_eq _ _ _ Li]
 rcases hr with ⟨ρ',u,w',h1,h2,h3,h4⟩|⟨f,aI,h1,h2⟩|⟨l,f,tmps,assign,body,h1,h2⟩
 .rcases h1 with h1|⟨h1,rfl⟩
  .rw [h1];exact hK ρ' u w' h2 h3 h4
  .rw [h1];exact hK ρ' undef w' h2 h3 h4
 .rw [h1]
  refine ⟨(λhh=>by cases hh),zkz (h2.mono ?_)⟩
  rintro ed w' ⟨ρ',u,rfl,h3,h4,h5⟩
  exact hK ρ' u w' h3 h4 h5
 .rw [h1]
  refine ⟨(λhh=>by cases hh),RoundIn.mono h2 ?_⟩
  rintro ed w' ⟨ρ',u,rfl,h3,h4,h5⟩
  exact hK ρ' u w' h3 h4 h5

theorem Ea (aj:gq P T C e o h=some (v,h')):∀ c,o.op≠.defer c:=by
 intro c hc
 simp [gq,hc] at aj

theorem zoz {ops:Array Oper} (he:bO ρ e tmps):Region.wanted o (yielded ops tmps)=kU ops o e:=by
 unfold Region.wanted kU
 cases o.guard with
 |none=>rfl
 |some g =>
  obtain ⟨j,b⟩:=g
  simp only [yielded]
  cases (ops[j]?).bind (·.dst) with
  |none=>simp
  |some t =>
   simp only [dz]
   have hv:=he.2 t
   cases ht:tmps[t]? with
   |none =>
    have hlen:tmps.size<=t:=by
     rcases ln t tmps.size with aW|qU
     .rw [EM aW] at ht;cases ht
     .exact qU
    rw [Env.lR e t (by rw [he.1];exact hlen)]
    rfl
   |some u =>
    have hu:tmps.getD t undef=u:=by simp [ht]
    rw [hu] at hv
    generalize e.get t=x at hv
    cases hv <;> first|rfl|(cases b <;> rename_i c <;> cases c <;> rfl)

structure bh (h h':Heap):Prop where
 size:h.size<=h'.size
 low:h'.low<=h.low
 get:∀ A,A < h.size->A < h'.low->h'.get A=h.get A

theorem bh.refl (h:Heap):bh h h:=⟨aS _,aS _,λ_ _ _=>rfl⟩
theorem bh.trans {h h1 h2:Heap} (a:bh h h1) (b:bh h1 h2):bh h h2 :=
 ⟨dZ a.size b.size,dZ b.low a.low,λA h3 h4=>(b.get A (dU h3 a.size) h4).trans (a.get A h3 (dU h4 b.low))⟩
theorem bh.push (h:Heap) (b:bc):bh h (h.push b):=⟨mx _,aS _,λA h3 _=>by rw [Heap.bS,aA (by omega)]⟩
theorem bh.set {h:Heap} {A:Nat} (b:bc) (hA:A < h.size):bh h (h.set A b) :=
 ⟨aS _,wk _ _,λA' _ h4=>by rw [Heap.cC] at h4;rw [Heap.aM _ _ _ _ hA,aA (by omega)]⟩

theorem LV {A o:Nat} {vs:List ai} (hw:np A o vs h=some h'):bh h h':=by
 unfold np at hw
 split at hw
 .rename_i hg
  split at hw
  .cases hw;exact .set _ (Heap.au hg)
  .cases hw
 .cases hw

theorem zlj {s:ai} (ha:lh T t s x h=some (v,h')):bh h h':=by
 unfold lh at ha
 split at ha
 .simp only [ck,Prod.exists] at ha
  obtain ⟨k,rN,z,_,m,news,_,ha⟩:=ha
  split at ha
  .split at ha
   .cases ha;exact .refl _
   .split at ha
    .cases ha
    .split at ha
     .split at ha
      .split at ha
       .simp only [bX,cx] at ha
        obtain ⟨h1,hw,_,rfl⟩:=ha
        exact LV hw
       .cases ha
      .cases ha
     .simp only [ck] at ha
      obtain ⟨eh,_,ha⟩:=ha
      split at ha
      .cases ha;exact .push _ _
      .split at ha
       .split at ha
        .rename_i hg
         split at ha
         .cases ha;exact (bh.set _ (Heap.au hg)).trans (.push _ _)
         .cases ha
        .cases ha
       .cases ha
  .cases ha
 .cases ha

theorem Zw (hr:mr T t x k v h=some h'):bh h h':=by
 unfold mr at hr
 split at hr
 .split at hr
  .rename_i hg
   split at hr
   .simp only [ck] at hr
    obtain ⟨r,_,hr⟩:=hr
    split at hr
    .simp only [ck] at hr
     obtain ⟨e,_,hr⟩:=hr
     split at hr
     .cases hr;exact .set _ (Heap.au hg)
     .cases hr
    .cases hr;exact .set _ (Heap.au hg)
   .cases hr
  .cases hr
 .cases hr

theorem zkl {d:TypeId} (hr:EA T d x h=some (v,h')):bh h h':=by
 unfold EA at hr
 split at hr
 .split at hr
  .split at hr
   .cases hr
   .cases hr;exact .push _ _
  .cases hr
 .cases hr
theorem zno (hr:Ki T t x k h=some (v,h')):bh h h':=by
 unfold Ki at hr
 split at hr
 .split at hr
  .rename_i hg
   split at hr
   .simp only [ck] at hr
    obtain ⟨r,_,hr⟩:=hr
    split at hr
    .simp only [ck] at hr
     obtain ⟨e,_,hr⟩:=hr
     split at hr
     .cases hr;exact .set _ (Heap.au hg)
     .cases hr
    .simp only [bX,cx] at hr
     obtain ⟨z,_,_,rfl⟩:=hr
     exact .set _ (Heap.au hg)
   .cases hr
  .cases hr
 .cases hr
theorem zgR {s:ai} (hr:Jt x s v h=some h'):bh h h':=by
 unfold Jt at hr
 split at hr
 .split at hr
  .rename_i hg
   simp only [bX] at hr
   obtain ⟨i,_,rfl⟩:=hr
   exact .set _ (Heap.au hg)
  .cases hr
 .cases hr

theorem zlC (hr:JO T t x k h=some h'):bh h h':=by
 unfold JO at hr
 split at hr
 .split at hr
  .cases hr;exact .refl _
  .cases hr
 .split at hr
  .rename_i hg
   split at hr
   .simp only [ck] at hr
    obtain ⟨r,_,hr⟩:=hr
    split at hr
    .cases hr;exact .set _ (Heap.au hg)
    .cases hr;exact .set _ (Heap.au hg)
   .cases hr
  .cases hr
 .cases hr

def qB (C:Fn->List ai->Heap->Option (ai × Heap)):Prop:=∀ f args h v h',C f args h=some (v,h')->bh h h'

theorem CB (hC:qB C) (aj:gq P T C e o h=some (v,h')):bh h h':=by
 have cq:∀ {r:Option ai},(r.map λx=>(x,h))=some (v,h')->bh h h':=by
  intro r hr
  simp only [bX,cx] at hr
  obtain ⟨_,_,_,rfl⟩:=hr
  exact .refl _
 have dn:fB P e o h=some (v,h')->bh h h':=by
  intro hp
  unfold fB at hp
  split at hp
  .split at hp
   .split at hp
    .cases hp;exact .refl _
    .cases hp
   .cases hp
  .cases hp
 unfold gq at aj
 dsimp only at aj
 split at aj
 .cases aj;exact .refl _
 .cases aj;exact .refl _
 .split at aj
  .cases aj;exact .refl _
  .cases aj
 .simp only [bX,Prod.exists] at aj
  obtain ⟨_,_,z,_,aj⟩:=aj
  have e2:=congrArg Prod.snd aj
  simp only at e2
  subst e2
  exact .push _ _
 .simp only [dy] at aj
  have e2:=congrArg Prod.snd aj
  simp only at e2
  subst e2
  exact .push _ _
 .exact cq aj
 .unfold uE at aj
  split at aj
  .simp only [ck,Prod.exists] at aj
   obtain ⟨_,_,_,_,aj⟩:=aj
   split at aj
   .cases aj
   .simp only [bX,cx] at aj
    obtain ⟨_,_,_,rfl⟩:=aj
    exact .push _ _
  .cases aj
 .exact cq aj
 .simp only [bX,cx] at aj
  obtain ⟨h1,hr,_,rfl⟩:=aj
  unfold gN at hr
  split at hr
  .simp only [ck] at hr
   obtain ⟨_,_,hr⟩:=hr
   split at hr
   .exact LV hr
   .cases hr
  .cases hr
 .split at aj
  .cases aj;exact .refl _
  .cases aj;exact .refl _
  .cases aj;exact .refl _
  .cases aj
 .exact cq aj
 .split at aj
  .cases aj;exact .refl _
  .cases aj
 .unfold Jq at aj
  split at aj
  .simp only [ck,Prod.exists] at aj
   obtain ⟨_,_,_,_,aj⟩:=aj
   split at aj
   .cases aj;exact .push _ _
   .cases aj
  .cases aj
 .exact cq aj
 .exact cq aj
 .exact cq aj
 .exact cq aj
 .split at aj
  .exact cq aj
  .cases aj
 .exact dn aj
 .split at aj
  .exact cq aj
  .split at aj
   .split at aj
    .exact zkl aj
    .cases aj
   .exact dn aj
 .exact dn aj
 .split at aj
  .split at aj
   .split at aj
    .exact zlj aj
    .cases aj
   .cases aj
  .split at aj
   .unfold Kv at aj
    split at aj
    .simp only [ck,Prod.exists] at aj
     obtain ⟨_,_,_,_,_,aj⟩:=aj
     split at aj
     .cases aj;exact .refl _
     .split at aj
      .simp only [bX,cx] at aj
       obtain ⟨h1,hw,_,rfl⟩:=aj
       exact LV hw
      .cases aj
    .cases aj
   .cases aj
  .split at aj
   .simp only [bX,cx] at aj
    obtain ⟨h1,hr,_,rfl⟩:=aj
    unfold r8 at hr
    split at hr
    .split at hr
     .cases hr;exact .refl _
     .simp only [ck,Prod.exists] at hr
      obtain ⟨_,_,_,_,hr⟩:=hr
      split at hr
      .exact LV hr
      .cases hr
    .cases hr
   .cases aj
  .split at aj
   .exact cq aj
   .cases aj
  .exact dn aj
  .exact dn aj
  .split at aj
   .simp only [bX,cx] at aj
    obtain ⟨h1,hr,_,rfl⟩:=aj
    exact zlC hr
   .cases aj
  .split at aj
   .exact cq aj
   .cases aj
  .split at aj
   .simp only [ck,Prod.exists] at aj
    obtain ⟨_,_,_,aj⟩:=aj
    exact hC _ _ _ _ _ aj
   .cases aj
  .split at aj
   .exact hC _ _ _ _ _ aj
   .split at aj
    .exact hC _ _ _ _ _ aj
    .cases aj
   .cases aj
  .cases aj
 .split at aj
  .cases aj;exact .push _ _
  .split at aj
   .cases aj;exact .push _ _
   .cases aj
 .exact cq aj
 .simp only [bX,cx] at aj
  obtain ⟨h1,hr,_,rfl⟩:=aj
  exact Zw hr
 .simp only [bX,cx] at aj
  obtain ⟨h1,hr,_,rfl⟩:=aj
  exact Zw hr
 .exact zno aj
 .simp only [bX,cx] at aj
  obtain ⟨h1,hr,_,rfl⟩:=aj
  exact zgR hr
 .exact cq aj
 .exact cq aj
 .cases aj

theorem LI {C:Fn->List ai->Heap->Option (ai × Heap)} (hC:qB C) {ops:Array Oper}:∀ (l:List Oper) (e e':Env) (h h':Heap),pF P T C ops l e h=some (e',h')->bh h h'
 | [],e,e',h,h',aj=>by simp only [pF,dy,cx] at aj;obtain ⟨_,rfl⟩:=aj;exact .refl _
 |o::l,e,e',h,h',aj=>by
  simp only [pF] at aj
  split at aj
  .split at aj
   .rename_i v h1 h2
    exact (CB hC h2).trans (LI hC l _ _ _ _ aj)
   .cases aj
  .exact LI hC l _ _ _ _ aj

theorem SS (hT:T.Fits P) {C:Fn->List ai->Heap->Option (ai × Heap)} {gs:List Nat} (hC:CS P gs C) (hg:qB C) {ops:Array Oper} {Q:Exit->Act->World->Prop} {rl:Option Nat} {dd:List Deferred} :
 ∀ (l:List Oper) (e e':Env) (h h':Heap) (ρ:cf) (a:Act) (w:World),pF P T C ops l e h=some (e',h')->(∀ o∈l,ja ρ o)->cE gs ρ->bB ρ h w->el ρ h h'->bO ρ e a.tmps->a.defers=dd ->
   (∀ ρ' a' w',Fr ρ ρ' h h' w w'->bB ρ' h' w'->bO ρ' e' a'.tmps->a'.defers=dd->Q .normal a' w')->wpListIn (WR rl) 0 P ops Q l a w
 | [],e,e',h,h',ρ,a,w,aj,_,_,hs,_,he,hd,hQ=>by
  simp only [pF,dy,cx] at aj
  obtain ⟨rfl,rfl⟩:=aj
  exact hQ ρ a w (Fr.refl _ _ _) hs he hd
 |o::l,e,e',h,h',ρ,a,w,aj,cX,hG,hs,hf,he,hd,hQ=>by
  have Q9:=cX o (by simp)
  have Hj:∀ q∈l,ja ρ q:=λq hq=>cX q (by simp [hq])
  simp only [pF] at aj
  unfold wpListIn
  rw [zoz he]
  split at aj
  .rename_i hw
   rw [aG hw]
   split at aj
   .rename_i v h1 h2
    have dC:=(LI hg l _ _ _ _ aj).size
    refine (Ee hT hC hG hs he Q9 (hf.left dC) h2).wp (Ea h2) λρ1 u w1 f1 s1 v1=>?_
    refine SS hT hC hg l _ _ _ _ ρ1 _ w1 aj (λq hq=>(Hj q hq).mono f1.grow) (hG.mono f1.grow) s1 (hf.right f1) ((he.mono f1.grow).put v1 o.dst) (by cases o.dst <;> exact hd) ?_
    intro ρ2 a2 w2 f2 s2 e2 d2
    exact hQ ρ2 a2 w2 (f1.trans f2) s2 e2 d2
   .cases aj
  .rename_i hw
   rw [aA hw]
   refine ⟨λ_ _=>trivial,?_⟩
   exact SS hT hC hg l _ _ _ _ ρ _ w aj Hj hG hs hf (he.put (.undef ρ) o.dst) (by cases o.dst <;> exact hd) hQ

def Ex.to:Ex->Exit
 | .normal=>.normal
 | .exit id=>.exit id
 | .ret=>.ret

def DS (P:Program) (gs:List Nat) (D:Array Oper->Env->Heap->Option (Env × Heap)):Prop :=
 ∀ (rl:Option Nat) (id:Nat) (ops:Array Oper) (e e':Env) (h h':Heap) (ρ:cf) (a:Act) (w:World) (Q:Exit->Act->World->Prop),D ops e h=some (e',h')->(∀ o∈ops.toList,ja ρ o)->cE gs ρ->bB ρ h w->el ρ h h'->bO ρ e a.tmps ->
   (∀ ρ' a' w',Fr ρ ρ' h h' w w'->bB ρ' h' w'->bO ρ' e' a'.tmps->a'.defers=a.defers->Q .normal a' w')->(Code.region id ops true).wpIn (WR rl) 0 P Q a w
def UQ (D:Array Oper->Env->Heap->Option (Env × Heap)):Prop:=∀ ops e h e' h',D ops e h=some (e',h')->bh h h'

theorem TC {f:Env->Heap->Option (Ex × Env × Heap)} (hf:∀ e h x e' h',f e h=some (x,e',h')->bh h h'):∀ (n:Nat) (e:Env) (h:Heap) (x:Ex) (e':Env) (h':Heap),iter f n e h=some (x,e',h')->bh h h'
 |0,_,_,_,_,_,hi=>by simp [iter] at hi
 |n+1,e,h,x,e',h',hi=>by
  simp only [iter] at hi
  split at hi
  .rename_i e1 h1 h2
   exact (hf _ _ _ _ _ h2).trans (TC hf n _ _ _ _ _ hi)
  .exact hf _ _ _ _ _ hi

theorem Zo {l:Nat} {e':Env} {x:Ex} (aj:Ej l e h=some (x,e',h')):bh h h':=by
 unfold Ej at aj
 split at aj
 .rename_i hg
  split at aj
  .cases aj
  .split at aj
   .cases aj;exact .set _ (Heap.au hg)
   .cases aj;exact .set _ (Heap.au hg)
   .cases aj;exact .set _ (Heap.au hg)
   .cases aj
 .cases aj
theorem zn8 (hC:qB C) {rd:Option Nat} {g:ai} {ps:List Tmp} {assign body:Code} {e':Env} {x:Ex} (aj:EX T C rd g ps assign body e h=some (x,e',h')):bh h h':=by
 unfold EX at aj
 split at aj
 .split at aj
  .split at aj
   .rename_i hc
    exact ((bh.push _ _).trans (hC _ _ _ _ _ hc)).trans (Zo aj)
   .cases aj
  .cases aj
 .cases aj

theorem CD {D:Array Oper->Env->Heap->Option (Env × Heap)} (hC:qB C) (hD:UQ D) (rd:Option Nat) (fuel:Nat):∀ (c:Code) (e:Env) (h:Heap) (x:Ex) (e':Env) (h':Heap),du P T C D rd fuel c e h=some (x,e',h')->bh h h':=by
 intro c
 induction c with
 |skip=>intro e h x e' h' aj;simp only [du,dy,cx] at aj;obtain ⟨_,_,rfl⟩:=aj;exact .refl _
 |region id ops d =>
  intro e h x e' h' aj
  simp only [du,bX,Prod.exists,cx] at aj
  obtain ⟨e1,h1,hr,_,rfl,rfl⟩:=aj
  split at hr
  .exact hD _ _ _ _ _ hr
  .exact LI hC _ _ _ _ _ hr
 |seq a b gZ hH =>
  intro e h x e' h' aj
  simp only [du] at aj
  split at aj
  .rename_i e1 h1 h2
   exact (gZ _ _ _ _ _ h2).trans (hH _ _ _ _ _ aj)
  .exact gZ _ _ _ _ _ aj
 |cond c a b gZ hH =>
  intro e h x e' h' aj
  simp only [du] at aj
  split at aj
  .exact gZ _ _ _ _ _ aj
  .exact hH _ _ _ _ _ aj
  .cases aj
 |block id c ih =>
  intro e h x e' h' aj
  simp only [du] at aj
  split at aj
  .rename_i i e1 h1 h2
   have:=ih _ _ _ _ _ h2
   split at aj <;> (simp only [dy,cx] at aj;obtain ⟨_,_,rfl⟩:=aj;exact this)
  .exact ih _ _ _ _ _ aj
 |loop c ih=>intro e h x e' h' aj;simp only [du] at aj;exact TC ih _ _ _ _ _ _ aj
 |exit id=>intro e h x e' h' aj;simp only [du,dy,cx] at aj;obtain ⟨_,_,rfl⟩:=aj;exact .refl _
 |ret=>intro e h x e' h' aj;simp only [du,dy,cx] at aj;obtain ⟨_,_,rfl⟩:=aj;exact .refl _
 |label l=>intro e h x e' h' aj;simp only [du,dy,cx] at aj;obtain ⟨_,_,rfl⟩:=aj;exact .refl _
 |rangeFunc f ps a b _ _=>intro e h x e' h' aj;exact zn8 hC aj
 |scope c ih=>intro e h x e' h' aj;exact ih _ _ _ _ _ aj
 |goto l=>intro e h x e' h' aj;simp [du] at aj
 |refuse s=>intro e h x e' h' aj;simp [du] at aj

def kN:Code->Bool
 | .seq a b=>kN a && kN b
 | .cond _ a b=>kN a && kN b
 | .block _ c=>kN c
 | .loop c=>kN c
 | .scope c=>kN c
 | .rangeFunc _ _ _ _=>false
 |_=>true
def Marks (n0:Nat) (B:List Deferred) (nr:Bool) (ρ:cf) (w:World) (ds:List Deferred):Prop :=
 ∃ rs:List Nat,ds=rs.map (λr=>{ target:=.collected r,args:=#[] })++B/\rs.Nodup/\(nr=true->rs=[])/\∀ r∈rs,n0<=r/\w.heap[r]? = some (.deferred (some []))/\∀ A L,ρ A=some L->L.b≠r
theorem Marks.nil {n0:Nat} {B:List Deferred} {nr:Bool}:Marks n0 B nr ρ w B:=⟨[],rfl,.nil,λ_=>rfl,by intro r hr;cases hr⟩
theorem Marks.step {n0:Nat} {B:List Deferred} {nr:Bool} {ρ':cf} {w':World} {ds:List Deferred} (hm:Marks n0 B nr ρ w ds) (f:Fr ρ ρ' h h' w w'):Marks n0 B nr ρ' w' ds:=by
 obtain ⟨rs,h1,h2,h0,h3⟩:=hm
 refine ⟨rs,h1,h2,h0,λr hr=>?_⟩
 obtain ⟨a1,a2,a3⟩:=h3 r hr
 have aW:r < w.heap.size:=(kX.1 a2).1
 refine ⟨a1,(f.ft r aW λA L hA hb=>(a3 A L hA hb).elim).trans a2,λA L hA hb=>?_⟩
 cases hρ:ρ A with
 |some L0 =>
  have e:L0=L:=by have:=f.grow A L0 hρ;rw [hA] at this;exact (Option.some.inj this).symm
  subst e
  exact a3 A L0 hρ hb
 |none =>
  rcases (f.fresh A L hA hρ).2.2 with h4|⟨A0,L0,h4,h5,_⟩
  .omega
  .exact a3 A0 L0 h4 (h5.trans hb)

def DE (ρ:cf):Option Nat->Option Nat->Prop
 |none,none=>True
 |some A,some l=>∃ L,ρ A=some L/\L.b=l
 |_,_=>False
theorem DE.mono {ρ':cf} (hg:∀ A L,ρ A=some L->ρ' A=some L):∀ {rd rl:Option Nat},DE ρ rd rl->DE ρ' rd rl
 |none,none,_=>trivial
 |some _,some _,⟨L,h1,h2⟩=>⟨L,hg _ _ h1,h2⟩
 |none,some _,hh=>hh.elim
 |some _,none,hh=>hh.elim

theorem Ed {b:Frame} {a:Act} {k:List Item} {cs:List Frame}:step P (lone (b.atR a (.code (.scope c)::k)) cs w)=.next (lone (b.atR a (.code c::.inScope c::k)) cs w) :=
 step_lone_go (by simp [stepG,stepG.exec,Frame.atR])
theorem zma {b:Frame} {a:Act} {k:List Item} {cs:List Frame}:step P (lone (b.atR a (.inScope c::k)) cs w)=.next (lone (b.atR a k) cs w) :=
 step_lone_go (by simp [stepG,stepG.exec,Frame.atR])
theorem zfY {F:Fence} {n:Nat} {Q:Exit->Act->World->Prop} {a:Act} (hc:c.wpIn F n P (Exit.noGoto Q) a w):(Code.scope c).wpIn F n P Q a w:=by
 intro b k cs D0 hb hr
 have h0:(lone (b.atR a (.code (.scope c)::k)) cs w).fenced P F:=fenced_calm hb hr rfl
 obtain ⟨e,a₁,w₁,hq,qP⟩:=hc b (.inScope c::k) cs D0 hb hr
 cases e with
 |normal=>exact ⟨.normal,a₁,w₁,hq,.head h0 Ed (StepsIn.trans qP (.one (fenced_calm hb hr rfl) zma))⟩
 |exit id =>
  have hx:exitTo id (.inScope c::k)=exitTo id k:=by simp [exitTo]
  exact ⟨.exit id,a₁,w₁,hq,λk' hk=>.head h0 Ed (qP.1 k' (by rw [hx];exact hk)),
   λcv hk=>let ⟨k₁,h1,h2⟩:=qP.2 cv (by rw [hx];exact hk);⟨k₁,h1,.head h0 Ed h2⟩⟩
 |goto l=>exact hq.elim
 |ret=>exact ⟨_,a₁,w₁,hq,.of_steps (.one h0 Ed) qP⟩
 |panic ch=>exact ⟨_,a₁,w₁,hq,.of_steps (.one h0 Ed) qP⟩
 |outgrown=>exact ⟨_,a₁,w₁,hq,.of_steps (.one h0 Ed) qP⟩

theorem L3 (w:World) (r:Nat) (o:Obj):(w.putObj r o).heap=w.heap.setIfInBounds r o:=rfl
theorem zvD {r:Nat} {o:Obj} (aW:r < w.heap.size):(w.putObj r o).heap[r]? = some o:=by rw [L3];simp [aW]
theorem LP {r k:Nat} {o:Obj} (hk:k≠r):(w.putObj r o).heap[k]? = w.heap[k]? := by
 rw [L3,EC (Ne.symm hk)]

theorem Jp (hs:bB ρ h w) {A:Nat} {L:Loc} (hA:ρ A=some L) {env:List ai} {ps:List Tmp} {assign body:Code} {st:LoopState} {eF:Option Code} (hg:h.get A=some (.loop env ps assign body st eF)) :
 ∃ l:Loop,w.heap[L.b]? = some (.loop l)/\l.state=st/\l.pending=eF/\l.params.toList=ps/\l.assign=assign/\l.body=body/\bO ρ env l.tmps/\cd ρ assign/\cd ρ body /\
   ∀ Im nT,Fr ρ ρ h (h.set A (.loop env ps assign body Im nT)) w (w.putObj L.b (.loop { l with state:=Im,pending:=nT }))/\bB ρ (h.set A (.loop env ps assign body Im nT)) (w.putObj L.b (.loop { l with state:=Im,pending:=nT })):=by
 have hb:=hs.jV A L hA
 rw [hg] at hb
 obtain ⟨l,h1,h2,h3,h4,h5,h6,h7,h8,h9⟩:=hb
 refine ⟨l,h1,h2,h3,h4,h5,h6,h7,h8,h9,λIm nT=>?_⟩
 have aW:L.b < w.heap.size:=(kX.1 h1).1
 exact Jr hs hA hg (by simp) (by simp) rfl rfl rfl (by rw [L3];simp) (λq hq=>LP hq) ⟨_,zvD aW,rfl,rfl,h4,h5,h6,h7,h8,h9⟩

theorem Zt (hT:T.Fits P) {D:Array Oper->Env->Heap->Option (Env × Heap)} {gs:List Nat} (hC:CS P gs C) (hg:qB C) (hD:DS P gs D) (K6:UQ D) (rd rl:Option Nat) (n0:Nat) (B:List Deferred) (nr:Bool) (fuel:Nat) :
 ∀ (c:Code) (e:Env) (h:Heap) (x:Ex) (e':Env) (h':Heap) (ρ:cf) (a:Act) (w:World) (Q:Exit->Act->World->Prop),du P T C D rd fuel c e h=some (x,e',h')->cd ρ c->(nr=true->kN c=true)->cE gs ρ->bB ρ h w->el ρ h h'->bO ρ e a.tmps->Marks n0 B nr ρ w a.defers->DE ρ rd rl->n0<=w.heap.size ->
   (∀ ρ' a' w',Fr ρ ρ' h h' w w'->bB ρ' h' w'->bO ρ' e' a'.tmps->Marks n0 B nr ρ' w' a'.defers->Q x.to a' w')->c.wpIn (WR rl) 0 P Q a w:=by
 intro c
 induction c with
 |skip =>
  intro e h x e' h' ρ a w Q aj _ _ _ hs _ he hd _ _ hQ
  simp only [du,dy,cx] at aj
  obtain ⟨rfl,rfl,rfl⟩:=aj
  exact wpIn_skip (hQ ρ a w (Fr.refl _ _ _) hs he hd)
 |region id ops d =>
  intro e h x e' h' ρ a w Q aj cX _ hG hs hf he hd _ _ hQ
  simp only [du,bX,Prod.exists,cx] at aj
  obtain ⟨e1,h1,hr,rfl,rfl,rfl⟩:=aj
  have WL:∀ ρ' a' w',Fr ρ ρ' h h1 w w'->bB ρ' h1 w'->bO ρ' e1 a'.tmps->a'.defers=a.defers->Q .normal a' w':=λρ' a' w' f1 s1 r1 d1=>hQ ρ' a' w' f1 s1 r1 (by rw [d1];exact hd.step f1)
  cases d with
  |true =>
   simp only [if_true] at hr
   exact hD rl id ops e e1 h h1 ρ a w Q hr cX hG hs hf he WL
  |false =>
   simp only [fF,if_false] at hr
   exact wpIn_region_list (SS hT hC hg ops.toList e e1 h h1 ρ a w hr cX hG hs hf he rfl WL)
 |seq c1 c2 Lp RY =>
  intro e h x e' h' ρ a w Q aj cX kA hG hs hf he hd lz hn hQ
  simp only [du] at aj
  have xn:nr=true->kN c1=true:=λq=>by have:=kA q;simp only [kN,dj] at this;exact this.1
  have BJ:nr=true->kN c2=true:=λq=>by have:=kA q;simp only [kN,dj] at this;exact this.2
  refine wpIn_seq ?_
  split at aj
  .rename_i e1 h1 h2
   have dC:=(CD hg K6 rd fuel c2 _ _ _ _ _ aj).size
   refine Lp e h .normal e1 h1 ρ a w _ h2 cX.1 xn hG hs (hf.left dC) he hd lz hn λρ1 a1 w1 f1 s1 r1 d1=>?_
   exact RY e1 h1 x e' h' ρ1 a1 w1 Q aj (cX.2.mono f1.grow) BJ (hG.mono f1.grow) s1 (hf.right f1) r1 d1 (lz.mono f1.grow) (dZ hn f1.size) λρ2 a2 w2 f2 s2 r2 d2=>hQ ρ2 a2 w2 (f1.trans f2) s2 r2 d2
  .rename_i aO
   refine Lp e h x e' h' ρ a w _ aj cX.1 xn hG hs hf he hd lz hn λρ1 a1 w1 f1 s1 r1 d1=>?_
   cases x with
   |normal=>exact (aO e' h' aj).elim
   |exit id=>exact hQ ρ1 a1 w1 f1 s1 r1 d1
   |ret=>exact hQ ρ1 a1 w1 f1 s1 r1 d1
 |cond c c1 c2 Lp RY =>
  intro e h x e' h' ρ a w Q aj cX kA hG hs hf he hd lz hn hQ
  have hc:=he.operand cX.1
  have xn:nr=true->kN c1=true:=λq=>by have:=kA q;simp only [kN,dj] at this;exact this.1
  have BJ:nr=true->kN c2=true:=λq=>by have:=kA q;simp only [kN,dj] at this;exact this.2
  simp only [du] at aj
  split at aj
  .rename_i hb
   rw [hb] at hc
   exact wpIn_cond_true (hc.bt rfl) (Lp e h x e' h' ρ a w Q aj cX.2.1 xn hG hs hf he hd lz hn hQ)
  .rename_i hb
   rw [hb] at hc
   exact wpIn_cond_false (hc.bt rfl) (RY e h x e' h' ρ a w Q aj cX.2.2 BJ hG hs hf he hd lz hn hQ)
  .cases aj
 |block id c ih =>
  intro e h x e' h' ρ a w Q aj cX kA hG hs hf he hd lz hn hQ
  simp only [du] at aj
  refine wpIn_block ?_
  split at aj
  .rename_i i e1 h1 h2
   split at aj
   .rename_i hi
    simp only [dy,cx] at aj
    obtain ⟨rfl,rfl,rfl⟩:=aj
    refine ih e h (.exit i) e1 h1 ρ a w _ h2 cX kA hG hs hf he hd lz hn λρ1 a1 w1 f1 s1 r1 d1=>?_
    simp only [Ex.to,Exit.inBlock,aG hi]
    exact hQ ρ1 a1 w1 f1 s1 r1 d1
   .rename_i hi
    simp only [dy,cx] at aj
    obtain ⟨rfl,rfl,rfl⟩:=aj
    refine ih e h (.exit i) e1 h1 ρ a w _ h2 cX kA hG hs hf he hd lz hn λρ1 a1 w1 f1 s1 r1 d1=>?_
    simp only [Ex.to,Exit.inBlock,aA hi]
    exact hQ ρ1 a1 w1 f1 s1 r1 d1
  .rename_i aO
   refine ih e h x e' h' ρ a w _ aj cX kA hG hs hf he hd lz hn λρ1 a1 w1 f1 s1 r1 d1=>?_
   cases x with
   |normal=>exact hQ ρ1 a1 w1 f1 s1 r1 d1
   |exit i=>exact (aO i e' h' aj).elim
   |ret=>exact hQ ρ1 a1 w1 f1 s1 r1 d1
 |loop c ih =>
  intro e h x e' h' ρ a w Q aj cX kA hG hs hf he hd lz hn hQ
  simp only [du] at aj
  refine wpIn_loop_rounds fuel ?_
  have key:∀ (n:Nat) (e:Env) (h:Heap) (ρ:cf) (a:Act) (w:World),iter (du P T C D rd fuel c) n e h=some (x,e',h')->cd ρ c->cE gs ρ->bB ρ h w->el ρ h h'->bO ρ e a.tmps->Marks n0 B nr ρ w a.defers->DE ρ rd rl->n0<=w.heap.size ->
   (∀ ρ' a' w',Fr ρ ρ' h h' w w'->bB ρ' h' w'->bO ρ' e' a'.tmps->Marks n0 B nr ρ' w' a'.defers->Q x.to a' w')->Code.roundsIn (WR rl) 0 P c Q n a w:=by
   intro n
   induction n with
   |zero=>intro e h ρ a w hi;simp [iter] at hi
   |succ n RZ =>
    intro e h ρ a w hi cX hG hs hf he hd lz hn hQ
    simp only [iter] at hi
    rw [roundsIn_succ]
    split at hi
    .rename_i e1 h1 h2
     have dC:=(TC (CD (P:=P) (T:=T) hg K6 rd fuel c) n _ _ _ _ _ hi).size
     refine ih e h .normal e1 h1 ρ a w _ h2 cX kA hG hs (hf.left dC) he hd lz hn λρ1 a1 w1 f1 s1 r1 d1=>?_
     exact RZ e1 h1 ρ1 a1 w1 hi (cX.mono f1.grow) (hG.mono f1.grow) s1 (hf.right f1) r1 d1 (lz.mono f1.grow) (dZ hn f1.size) λρ2 a2 w2 f2 s2 r2 d2=>hQ ρ2 a2 w2 (f1.trans f2) s2 r2 d2
    .rename_i aO
     refine ih e h x e' h' ρ a w _ hi cX kA hG hs hf he hd lz hn λρ1 a1 w1 f1 s1 r1 d1=>?_
     cases x with
     |normal=>exact (aO e' h' hi).elim
     |exit id=>exact hQ ρ1 a1 w1 f1 s1 r1 d1
     |ret=>exact hQ ρ1 a1 w1 f1 s1 r1 d1
  exact key fuel e h ρ a w aj cX hG hs hf he hd lz hn hQ
 |exit id =>
  intro e h x e' h' ρ a w Q aj _ _ _ hs _ he hd _ _ hQ
  simp only [du,dy,cx] at aj
  obtain ⟨rfl,rfl,rfl⟩:=aj
  exact wpIn_exit (hQ ρ a w (Fr.refl _ _ _) hs he hd)
 |ret =>
  intro e h x e' h' ρ a w Q aj _ _ _ hs _ he hd _ _ hQ
  simp only [du,dy,cx] at aj
  obtain ⟨rfl,rfl,rfl⟩:=aj
  exact wpIn_ret (hQ ρ a w (Fr.refl _ _ _) hs he hd)
 |label l =>
  intro e h x e' h' ρ a w Q aj _ _ _ hs _ he hd _ _ hQ
  simp only [du,dy,cx] at aj
  obtain ⟨rfl,rfl,rfl⟩:=aj
  exact wpIn_label (hQ ρ a w (Fr.refl _ _ _) hs he hd)
 |rangeFunc g ps assign body _ _ =>
  intro e h x e' h' ρ a w Q aj cX kA hG hs hf he hd lz hn hQ
  simp only [du] at aj
  have Hi:¬ nr=true:=λq=>by have:=kA q;simp [kN] at this
  have Bu:=he.operand cX.1
  unfold EX at aj
  split at aj
  .rename_i f first captured qU
   split at aj
   .rename_i yS
    simp only [dj] at yS
    obtain ⟨yS,nB⟩:=yS
    split at aj
    .rename_i r0 h2 lW
     rw [qU] at Bu
     generalize P9:a.eval g=ag at Bu
     cases Bu with
     |func _ q1 q2 q3 q4 =>
      rename_i eV cQ
      have rm:cm ρ first.toList eV.toList:=⟨by simpa using q1,λi x y hx hy=>q3 i x y (by simpa using hx) (by simpa using hy)⟩
      have rp:cm ρ captured.toList cQ.toList:=⟨by simpa using q2,λi x y hx hy=>q4 i x y (by simpa using hx) (by simpa using hy)⟩
      have DU:=hg _ _ _ _ _ lW
      have pe:=Zo aj
      have tL:(h.push (.loop e ps.toList assign body .ready none)).size=h.size+1:=rfl
      have B3:=DU.size
      have tW:=pe.size
      have fo:ρ h.size=none:=hf h.size (aS _) (by omega)
      refine wpIn_rangeFunc λfn _=>?_
      have dR:∃ (l:Nat) (mark:List Deferred) (w1:World) (lo:Loop),(Instr.enterLoop fn a.tmps ps assign body (WR rl).round).run P w=.ok (l,mark) w1/\w.heap.size<=l/\w1.heap[l]? = some (.loop lo) /\
       lo.state=.ready/\lo.pending=none/\lo.params=ps/\lo.assign=assign/\lo.body=body/\lo.tmps=a.tmps/\(∀ k,k < w.heap.size->w1.heap[k]? = w.heap[k]?)/\w.heap.size<=w1.heap.size/\w1.os=w.os/\w1.tape=w.tape/\w1.output=w.output /\
       (∀ ρ1,(∀ A L,ρ1 A=some L->ρ A=some L\/L.b=l)->Marks n0 B nr ρ1 w1 (mark++a.defers)):=by
       cases rl with
       |none =>
        refine ⟨_,_,_,{ state:=.ready,pending:=none,fn,tmps:=a.tmps,params:=ps,assign,body,defers:=w.heap.size },run_enterLoop_outer fn a.tmps ps assign body,mx _,by rw [World.bz,World.bz,uW,aG (by simp)],rfl,rfl,rfl,rfl,rfl,rfl,?_,by simp [World.bz];omega,rfl,rfl,rfl,?_⟩
        .intro k hk
         rw [World.bz,World.bz,uW,aA (by simp;omega),uW,aA (by omega)]
        .intro ρ1 zi
         obtain ⟨rs,m1,m2,_,m3⟩:=hd
         refine ⟨w.heap.size::rs,by simp [m1],?_,λq=>(Hi q).elim,?_⟩
         .refine List.nodup_cons.2 ⟨λeD=>?_,m2⟩
          have:=(kX.1 (m3 _ eD).2.1).1
          omega
         .intro r hr
          rcases dg.1 hr with rfl|hr
          .refine ⟨hn,by simp [World.bz,uW],λA L hA hb=>?_⟩
           rcases zi A L hA with h4|h4
           .have:=hs.lt h4;omega
           .omega
          .obtain ⟨a1,a2,a3⟩:=m3 r hr
           have aW:r < w.heap.size:=(kX.1 a2).1
           refine ⟨a1,?_,λA L hA hb=>?_⟩
           .rw [World.bz,World.bz,uW,aA (by simp;omega),uW,aA (by omega)]
            exact a2
           .rcases zi A L hA with h4|h4
            .exact a3 A L h4 hb
            .omega
       |some l0 =>
        cases rd with
        |none=>exact lz.elim
        |some A0 =>
         obtain ⟨L0,gO,rfl⟩:=lz
         have Ri:∃ lo:Loop,w.heap[L0.b]? = some (.loop lo):=by
          simp only [Uj] at yS
          split at yS
          .rename_i hg0
           obtain ⟨lo,h4,_⟩:=Jp hs gO hg0
           exact ⟨lo,h4⟩
          .cases yS
         obtain ⟨lo,fm⟩:=Ri
         have dN:(Instr.enterLoop fn a.tmps ps assign body (some L0.b)).run P w=.ok (w.heap.size,[]) (w.alloc (.loop { state:=.ready,pending:=none,fn,tmps:=a.tmps,params:=ps,assign,body,defers:=lo.defers })):=by
          unfold Instr.enterLoop
          simp only [Sem.run_bind,run_getLoop fm,Sem.run_pure,Result.andThen,run_newObj_alloc]
         refine ⟨_,_,_,{ state:=.ready,pending:=none,fn,tmps:=a.tmps,params:=ps,assign,body,defers:=lo.defers },dN,aS _,by simp [World.bz],rfl,rfl,rfl,rfl,rfl,rfl,?_,by simp [World.bz],rfl,rfl,rfl,?_⟩
         .intro k hk
          rw [World.bz,uW,aA (by omega)]
         .intro ρ1 zi
          obtain ⟨rs,m1,m2,_,m3⟩:=hd
          refine ⟨rs,by simp [m1],m2,λq=>(Hi q).elim,?_⟩
          intro r hr
          obtain ⟨a1,a2,a3⟩:=m3 r hr
          have aW:r < w.heap.size:=(kX.1 a2).1
          refine ⟨a1,?_,λA L hA hb=>?_⟩
          .rw [World.bz,uW,aA (by omega)]
           exact a2
          .rcases zi A L hA with h4|h4
           .exact a3 A L h4 hb
           .omega
      obtain ⟨l,mark,w1,lo,dR,hl,pn,l1,l2,l3,l4,l5,l6,hold,dC,tH,iU,fp,Ha⟩:=dR
      obtain ⟨ρ1,zi,f1,s1⟩:=Tn (W:=w1) (L:=⟨l,0,0⟩) (b:=.loop e ps.toList assign body .ready none) hs fo hold dC tH iU fp hl
       (λρ' eC=>⟨lo,pn,l1,l2,by rw [l3],l4,l5,by rw [l6];exact he.mono eC,cX.2.1.mono eC,cX.2.2.mono eC⟩)
      have ga:Marks n0 B nr ρ1 w1 (mark++a.defers):=Ha ρ1 λA L hA=>by
       cases hρ:ρ A with
       |some L0 =>
        have e:L0=L:=by have:=f1.grow A L0 hρ;rw [hA] at this;exact (Option.some.inj this).symm
        subst e
        exact .inl rfl
       |none =>
        have h4:=(f1.fresh A L hA hρ)
        have h5:A=h.size:=by have:=h4.1;have:=h4.2.1;omega
        subst h5
        rw [zi] at hA
        cases hA
        exact .inr rfl
      have Bp:el ρ1 (h.push (.loop e ps.toList assign body .ready none)) h2:=(hf.left tW).right f1
      have dE:cm ρ1 (first.toList++[.func (.yield h.size) #[] #[]]++captured.toList) (eV++#[Value.func (Fn.yield l) #[] #[]]++cQ).toList:=by
       have:=((rm.mono f1.grow).append (cm.cons (VR.yield zi) (.nil ρ1))).append (rp.mono f1.grow)
       simpa using this
      have iT:(resolve a.eval (rangeCall g l) 0).run P w1=.ok { target:=.fn (.func f) cQ,args:=eV++#[Value.func (Fn.yield l) #[] #[]] } w1:=by
       have hcv:a.eval (.const (.func (.yield l) #[] #[]))=.func (.yield l) #[] #[]:=rfl
       simp [resolve,P9,hcv,Deferred.ofValue]
      have hinv:∀ w,(invoke (.fn (.func f) cQ) (eV++#[Value.func (Fn.yield l) #[] #[]])).run P w=(callFunc f (eV++#[Value.func (Fn.yield l) #[] #[]]++cQ)).run P w:=λw=>rfl
      rcases hC.fn f _ _ _ _ lW ρ1 w1 (eV++#[Value.func (Fn.yield l) #[] #[]]++cQ) (hG.mono f1.grow) s1 Bp dE with ⟨_,_,_,eg,_⟩|⟨Qr,Ba⟩
      .exfalso
       unfold UL at nB
       split at nB
       .rename_i Ww Qw
        split at nB
        .rename_i c0 lx
         obtain ⟨hP,gH,_⟩:=hT.fn f Ww Qw
         have eE:¬ Ww.name="runtime.NumGoroutine":=by simpa using gH
         simp [callFunc,hP,eE,lx] at eg
        .cases nB
       .cases nB
      .refine ⟨l,mark,w1,_,w1,f,_,w1,dR,iT,λ_ _=>trivial,(hinv w1).trans Qr,(λhh=>by cases hh),zkz (Ba.mono ?_)⟩
       rintro ed w3 ⟨ρ3,u,rfl,f3,s3,_⟩
       unfold Ej at aj
       split at aj
       .rename_i env ps2 as2 bd2 st eF QA
        have hρ3:ρ3 h.size=some ⟨l,0,0⟩:=f3.grow _ _ zi
        obtain ⟨Cm,g1,g2,g3,_,_,_,_,_,_,g4⟩:=Jp s3 hρ3 QA
        obtain ⟨f4,s4⟩:=g4 .exhausted eF
        have jJ:st≠.busy->∀ x1:Ex,x1=x->e=e'->h2.set h.size (.loop env ps2 as2 bd2 .exhausted eF)=h'->(Instr.endLoop l).run P w3=.ok eF (w3.putObj l (.loop { Cm with state:=.exhausted,pending:=eF }))/\Q x.to { a with defers:=mark++a.defers } (w3.putObj l (.loop { Cm with state:=.exhausted,pending:=eF })):=by
         intro dh x1 hx1 wS vt
         subst hx1 wS vt
         have fm:({ Cm with state:=LoopState.exhausted,pending:=eF }:Loop)={ Cm with state:=LoopState.exhausted }:=by
          subst g3;rfl
         refine ⟨?_,hQ ρ3 { a with defers:=mark++a.defers } _ ((f1.trans f3).trans f4) s4 (he.mono (f1.trans f3).grow) ((ga.step f3).step f4)⟩
         rw [fm,<- g3]
         exact run_endLoop g1 (by rw [g2];exact dh)
        split at aj
        .cases aj
        .rename_i dh
         split at aj
         .simp only [dy,cx] at aj
          obtain ⟨rfl,h5,h6⟩:=aj
          obtain ⟨k1,k2⟩:=jJ dh _ rfl h5 h6
          exact ⟨none,_,k1,k2⟩
         .simp only [dy,cx] at aj
          obtain ⟨rfl,h5,h6⟩:=aj
          obtain ⟨k1,k2⟩:=jJ dh _ rfl h5 h6
          exact ⟨_,_,k1,wpIn_exit k2⟩
         .simp only [dy,cx] at aj
          obtain ⟨rfl,h5,h6⟩:=aj
          obtain ⟨k1,k2⟩:=jJ dh _ rfl h5 h6
          exact ⟨_,_,k1,wpIn_ret k2⟩
         .cases aj
       .cases aj
    .cases aj
   .cases aj
  .cases aj
 |scope c ih =>
  intro e h x e' h' ρ a w Q aj cX kA hG hs hf he hd lz hn hQ
  simp only [du] at aj
  refine zfY (ih e h x e' h' ρ a w _ aj cX kA hG hs hf he hd lz hn λρ1 a1 w1 f1 s1 r1 d1=>?_)
  have:=hQ ρ1 a1 w1 f1 s1 r1 d1
  cases x <;> exact this
 |goto l=>intro e h x e' h' ρ a w Q aj;simp [du] at aj
 |refuse s=>intro e h x e' h' ρ a w Q aj;simp [du] at aj

def Kl (tmps:Array ai):ResultVar->Sem ai
 | .tmp t=>pure (tmps.getD t undef)
 | .cell a t=>do loadVar t (<- asAddr (tmps.getD a undef))

theorem zs9 (fn:Func) (tmps:Array ai):results fn tmps=(do let vs <- fn.results.mapM (Kl tmps);pure (if h:vs.size=1 then vs[0] else .tuple vs)):=by
 unfold results
 congr 2

theorem zl3 (hT:T.Fits P) (hs:bB ρ h w) (he:bO ρ e tmps):∀ {r:ResultVar} {v:ai},rG T e h r=some v->∃ u,(Kl tmps r).run P w=.ok u w/\VR ρ v u
 | .tmp t,v,hr=>by simp only [rG,dy] at hr;subst hr;exact ⟨_,rfl,he.2 t⟩
 | .cell a t,v,hr=>by
  simp only [rG] at hr
  have hv:=he.2 a
  simp only [Kl]
  generalize e.get a=x at hv hr
  generalize tmps.getD a undef=y at hv
  obtain ⟨u,h1,h2⟩:=Tj hT hs hv hr
  refine ⟨u,?_,h2⟩
  rw [<- h1]
  cases hv <;> first|(simp [fU] at hr;done)|simp [Instr.loadAt,Instr.sureAddr,asAddr]

theorem SU (hT:T.Fits P) (hs:bB ρ h w) {fn:Func} (he:bO ρ e tmps) (hr:lL T fn e h=some v) :
 ∃ u,(results fn tmps).run P w=.ok u w/\VR ρ v u:=by
 have ma:∀ (rs:List ResultVar) (vs:List ai),rs.mapM (rG T e h)=some vs->∃ us:List ai,cm ρ vs us /\
  (rs.mapM (Kl tmps)).run P w=.ok us w:=by
  intro rs
  induction rs with
  |nil=>intro vs fS;simp at fS;subst fS;exact ⟨[],.nil ρ,by simp⟩
  |cons r rs ih =>
   intro vs fS
   rw [List.mapM_cons] at fS
   simp only [Option.bind_eq_bind,ck,Option.pure_def,dy] at fS
   obtain ⟨v1,rm,SJ,B8,rfl⟩:=fS
   obtain ⟨u1,h1,h2⟩:=zl3 hT hs he rm
   obtain ⟨us,h3,h4⟩:=ih SJ B8
   refine ⟨u1::us,.cons h2 h3,?_⟩
   rw [List.mapM_cons]
   simp only [Sem.run_bind,h1,Result.andThen_ok,h4,Sem.run_pure]
 have cq:∀ us:List ai,(fn.results.toList.mapM (Kl tmps)).run P w=.ok us w ->
  (results fn tmps).run P w=.ok (if h:us.toArray.size=1 then us.toArray[0] else .tuple us.toArray) w:=by
  intro us h1
  rw [zs9,Array.mapM_eq_mapM_toList]
  simp only [Sem.run_bind,Sem.run_map,h1,Result.andThen_ok,Sem.run_pure]
 unfold lL at hr
 split at hr
 .rename_i r BT
  obtain ⟨us,h1,h2⟩:=ma [r] [v] (by simp [hr])
  obtain ⟨u,us',rfl,hu,hn⟩:=h1.of_cons
  have:=hn.of_nil
  subst this
  refine ⟨u,?_,hu⟩
  have:=cq [u] (by rw [BT];exact h2)
  simpa using this
 .rename_i aO
  simp only [bX] at hr
  obtain ⟨vs,fS,rfl⟩:=hr
  obtain ⟨us,h1,h2⟩:=ma _ vs fS
  refine ⟨.tuple us.toArray,?_,h1.gP⟩
  have:=cq us h2
  rw [this]
  congr 1
  have hlen:us.length≠1:=by
   intro bW
   have hl:fn.results.toList.length=us.length:=by
    have e1:vs.length=us.length:=h1.1
    have e2:∀ (rs:List ResultVar) (vs:List ai),rs.mapM (rG T e h)=some vs->rs.length=vs.length:=by
     intro rs
     induction rs with
     |nil=>intro vs fS;simp at fS;subst fS;rfl
     |cons r rs ih =>
      intro vs fS
      rw [List.mapM_cons] at fS
      simp only [Option.bind_eq_bind,ck,Option.pure_def,dy] at fS
      obtain ⟨v1,rm,SJ,B8,rfl⟩:=fS
      simp [ih SJ B8]
    rw [e2 _ _ fS,e1]
   rw [bW] at hl
   match hm:fn.results.toList,hl with
   | [r],_=>exact aO r hm
  rw [dif_neg (by simpa using hlen)]
end
end Go.Am
