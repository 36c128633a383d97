/- The plain machine: a deterministic evaluator of the model's code over a heap of its own. Definitions alone; no condition. -/
import GoSem.Step
import Derived.Calls
import Derived.Below
import Derived.Laws.AppendOwn
import Derived.Laws.MakeOwn
import Derived.Laws.CopyRow
import Derived.Deep.MidRow
import Derived.Lib.Space
import Derived.Laws.StructEq
import Derived.ChangeKeysEq
import Derived.RangeFuncRecord
import Derived.Laws.BytesArg
import Derived.Lib.ConvBytes
import Derived.CallsIn
import Derived.TacticsIn
import Derived.LoopNIn
import Derived.Scope
import Derived.RangeFuncLeaves
set_option linter.unusedSimpArgs false
namespace Go.Am
theorem zd:type_of% @Array.getElem?_eq_getElem:=@Array.getElem?_eq_getElem
theorem mO:type_of% @Array.getElem?_eq_some_iff:=@Array.getElem?_eq_some_iff
theorem w7:type_of% @Array.getElem?_push:=@Array.getElem?_push
theorem G7:type_of% @Array.getElem?_setIfInBounds_ne:=@Array.getElem?_setIfInBounds_ne
theorem rD:type_of% @Array.length_toList:=@Array.length_toList
theorem JA:type_of% @Array.toList_append:=@Array.toList_append
theorem JI:type_of% @Array.toList_inj:=@Array.toList_inj
theorem Tv:type_of% @Bool.and_eq_false_iff:=@Bool.and_eq_false_iff
theorem eo:type_of% @Bool.and_eq_true:=@Bool.and_eq_true
theorem tG:type_of% @Bool.and_self:=@Bool.and_self
theorem gB:type_of% @Bool.false_eq_true:=@Bool.false_eq_true
theorem DT:type_of% @Bool.not_eq_true':=@Bool.not_eq_true'
theorem su:type_of% @Bool.or_eq_true:=@Bool.or_eq_true
theorem Qz:type_of% @Int.toNat_natCast:=@Int.toNat_natCast
theorem nC:type_of% @List.all_cons:=@List.all_cons
theorem jh:type_of% @List.all_eq_true:=@List.all_eq_true
theorem po:type_of% @List.all_nil:=@List.all_nil
theorem Aq:type_of% @List.any_eq_false:=@List.any_eq_false
theorem tF:type_of% @List.any_eq_true:=@List.any_eq_true
theorem ka:type_of% @List.append_assoc:=@List.append_assoc
theorem bG:type_of% @List.append_nil:=@List.append_nil
theorem w8:type_of% @List.cons_append:=@List.cons_append
theorem Qx:type_of% @List.drop_append:=@List.drop_append
theorem HF:type_of% @List.drop_drop:=@List.drop_drop
theorem DE:type_of% @List.drop_eq_getElem_cons:=@List.drop_eq_getElem_cons
theorem wW:type_of% @List.drop_of_length_le:=@List.drop_of_length_le
theorem As:type_of% @List.drop_zero:=@List.drop_zero
theorem sq:type_of% @List.ext_getElem? := @List.ext_getElem?
theorem Ao:type_of% @List.filter_append:=@List.filter_append
theorem HB:type_of% @List.filter_cons:=@List.filter_cons
theorem Tk:type_of% @List.filter_cons_of_neg:=@List.filter_cons_of_neg
theorem Tl:type_of% @List.filter_cons_of_pos:=@List.filter_cons_of_pos
theorem Jj:type_of% @List.filter_eq_nil_iff:=@List.filter_eq_nil_iff
theorem Qr:type_of% @List.filter_eq_self:=@List.filter_eq_self
theorem Qs:type_of% @List.filter_sublist:=@List.filter_sublist
theorem HD:type_of% @List.flatMap_cons:=@List.flatMap_cons
theorem uG:type_of% @List.foldl_cons:=@List.foldl_cons
theorem lq:type_of% @List.getD_eq_getElem?_getD:=@List.getD_eq_getElem?_getD
theorem zh:type_of% @List.getElem?_append:=@List.getElem?_append
theorem nz:type_of% @List.getElem?_append_left:=@List.getElem?_append_left
theorem qC:type_of% @List.getElem?_append_right:=@List.getElem?_append_right
theorem Ca:type_of% @List.getElem?_cons_zero:=@List.getElem?_cons_zero
theorem kL:type_of% @List.getElem?_drop:=@List.getElem?_drop
theorem ie:type_of% @List.getElem?_eq_getElem:=@List.getElem?_eq_getElem
theorem Hu:type_of% @List.getElem?_eq_none:=@List.getElem?_eq_none
theorem dH:type_of% @List.getElem?_eq_some_iff:=@List.getElem?_eq_some_iff
theorem lS:type_of% @List.getElem?_map:=@List.getElem?_map
theorem Cb:type_of% @List.getElem?_modify:=@List.getElem?_modify
theorem sk:type_of% @List.getElem?_of_mem:=@List.getElem?_of_mem
theorem rE:type_of% @List.getElem?_set:=@List.getElem?_set
theorem mc:type_of% @List.getElem?_take:=@List.getElem?_take
theorem Jk:type_of% @List.getElem?_take_of_lt:=@List.getElem?_take_of_lt
theorem Qt:type_of% @List.getElem_of_mem:=@List.getElem_of_mem
theorem dI:type_of% @List.length_append:=@List.length_append
theorem dY:type_of% @List.length_cons:=@List.length_cons
theorem jM:type_of% @List.length_drop:=@List.length_drop
theorem Ai:type_of% @List.length_eq_zero_iff:=@List.length_eq_zero_iff
theorem Hv:type_of% @List.length_filter_le:=@List.length_filter_le
theorem nA:type_of% @List.length_map:=@List.length_map
theorem dK:type_of% @List.length_nil:=@List.length_nil
theorem Jm:type_of% @List.length_replicate:=@List.length_replicate
theorem nB:type_of% @List.length_set:=@List.length_set
theorem v8:type_of% @List.length_singleton:=@List.length_singleton
theorem fw:type_of% @List.length_take:=@List.length_take
theorem Ar:type_of% @List.map_append:=@List.map_append
theorem JB:type_of% @List.map_congr_left:=@List.map_congr_left
theorem lA:type_of% @List.map_cons:=@List.map_cons
theorem iA:type_of% @List.mem_append:=@List.mem_append
theorem Jl:type_of% @List.mem_append_left:=@List.mem_append_left
theorem Jn:type_of% @List.mem_append_right:=@List.mem_append_right
theorem cJ:type_of% @List.mem_cons:=@List.mem_cons
theorem eQ:type_of% @List.mem_cons_of_mem:=@List.mem_cons_of_mem
theorem fZ:type_of% @List.mem_cons_self:=@List.mem_cons_self
theorem DP:type_of% @List.mem_flatMap:=@List.mem_flatMap
theorem nD:type_of% @List.mem_map:=@List.mem_map
theorem JC:type_of% @List.mem_map_of_mem:=@List.mem_map_of_mem
theorem fW:type_of% @List.mem_of_getElem? := @List.mem_of_getElem?
theorem zj:type_of% @List.mem_range:=@List.mem_range
theorem fH:type_of% @List.mem_singleton:=@List.mem_singleton
theorem pk:type_of% @List.nil_append:=@List.nil_append
theorem QA:type_of% @List.nodup_append:=@List.nodup_append
theorem wg:type_of% @List.nodup_cons:=@List.nodup_cons
theorem we:type_of% @List.not_mem_nil:=@List.not_mem_nil
theorem nQ:type_of% @List.pairwise_cons:=@List.pairwise_cons
theorem Qa:type_of% @List.pairwise_iff_getElem:=@List.pairwise_iff_getElem
theorem Tm:type_of% @List.pairwise_singleton:=@List.pairwise_singleton
theorem nR:type_of% @List.set_cons_zero:=@List.set_cons_zero
theorem JH:type_of% @List.size_toArray:=@List.size_toArray
theorem Au:type_of% @List.sum_cons:=@List.sum_cons
theorem nS:type_of% @List.take_add_one:=@List.take_add_one
theorem pj:type_of% @List.take_append_drop:=@List.take_append_drop
theorem JK:type_of% @List.take_length:=@List.take_length
theorem gA:type_of% @List.take_of_length_le:=@List.take_of_length_le
theorem Cg:type_of% @List.take_zero:=@List.take_zero
theorem qk:type_of% @Nat.add_assoc:=@Nat.add_assoc
theorem tH:type_of% @Nat.add_mul:=@Nat.add_mul
theorem Cd:type_of% @Nat.add_sub_cancel:=@Nat.add_sub_cancel
theorem Tn:type_of% @Nat.add_sub_cancel_left:=@Nat.add_sub_cancel_left
theorem i0:type_of% @Nat.add_zero:=@Nat.add_zero
theorem Cf:type_of% @Nat.le_max_left:=@Nat.le_max_left
theorem Ap:type_of% @Nat.le_max_right:=@Nat.le_max_right
theorem bo:type_of% @Nat.le_refl:=@Nat.le_refl
theorem D3:type_of% @Nat.le_succ:=@Nat.le_succ
theorem hY:type_of% @Nat.le_trans:=@Nat.le_trans
theorem dJ:type_of% @Nat.lt_of_lt_of_le:=@Nat.lt_of_lt_of_le
theorem lB:type_of% @Nat.lt_or_ge:=@Nat.lt_or_ge
theorem so:type_of% @Nat.lt_succ_self:=@Nat.lt_succ_self
theorem HA:type_of% @Nat.lt_trichotomy:=@Nat.lt_trichotomy
theorem w9:type_of% @Nat.min_le_left:=@Nat.min_le_left
theorem DQ:type_of% @Nat.min_le_right:=@Nat.min_le_right
theorem HC:type_of% @Nat.mod_eq_of_lt:=@Nat.mod_eq_of_lt
theorem D4:type_of% @Nat.mod_lt:=@Nat.mod_lt
theorem zl:type_of% @Nat.mul_comm:=@Nat.mul_comm
theorem HG:type_of% @Nat.mul_le_mul:=@Nat.mul_le_mul
theorem qj:type_of% @Nat.mul_le_mul_right:=@Nat.mul_le_mul_right
theorem rF:type_of% @Nat.succ_mul:=@Nat.succ_mul
theorem zm:type_of% @Nat.succ_pos:=@Nat.succ_pos
theorem j3:type_of% @Nat.zero_add:=@Nat.zero_add
theorem i6:type_of% @Nat.zero_le:=@Nat.zero_le
theorem cL:type_of% @Option.bind_eq_some_iff:=@Option.bind_eq_some_iff
theorem dX:type_of% @Option.bind_some:=@Option.bind_some
theorem JL:type_of% @Option.getD_some:=@Option.getD_some
theorem Qu:type_of% @Option.isSome_none:=@Option.isSome_none
theorem Hz:type_of% @Option.isSome_some:=@Option.isSome_some
theorem cD:type_of% @Option.map_eq_some_iff:=@Option.map_eq_some_iff
theorem j2:type_of% @Option.map_some:=@Option.map_some
theorem eh:type_of% @Option.some.injEq:=@Option.some.injEq
theorem da:type_of% @Prod.mk.injEq:=@Prod.mk.injEq
theorem oL:type_of% @decide_eq_false:=@decide_eq_false
theorem pn:type_of% @decide_eq_true:=@decide_eq_true
theorem jl:type_of% @decide_eq_true_eq:=@decide_eq_true_eq
theorem aA:type_of% @if_neg:=@if_neg
theorem aB:type_of% @if_pos:=@if_pos

inductive ba where
 |row (cells:List Value) (elem:TypeId) (ro:Bool)
 |map (es:List MapEntry) (clock:Nat)
 |loop (env:List Value) (ps:List Tmp) (assign body:Code) (st:LoopState) (gn:Option Code)
 |dead

inductive Tr where
 |nil
 |node (v:Option ba) (l r:Tr)

def Tr.get:Tr->Nat->Option ba
 | .nil,_=>none
 | .node v l r,i=>match i with
  |0=>v
  |i+1=>if i % 2 == 0 then l.get (i / 2) else r.get (i / 2)

def Tr.set:Nat->Tr->Nat->ba->Tr
 |0,t,_,_=>t
 |n+1,t,i,o =>
  match t with
  | .nil=>match i with
   |0=>.node (some o) .nil .nil
   |i+1=>if i % 2 == 0 then .node none (Tr.set n .nil (i / 2) o) .nil else .node none .nil (Tr.set n .nil (i / 2) o)
  | .node v l r=>match i with
   |0=>.node (some o) l r
   |i+1=>if i % 2 == 0 then .node v (Tr.set n l (i / 2) o) r else .node v l (Tr.set n r (i / 2) o)

structure Heap where
 size:Nat
 tr:Tr
 low:Nat
abbrev aI:=Value->Heap->Prop
abbrev au:=ByteArray
abbrev ah:=Value

def Heap.get (h:Heap) (A:Nat):Option ba:=if A < h.size then h.tr.get A else none
def Heap.push (h:Heap) (b:ba):Heap:={ h with size:=h.size+1,tr:=h.tr.set (h.size+1) h.size b }
def Heap.set (h:Heap) (A:Nat) (b:ba):Heap:={ h with tr:=h.tr.set (A+1) A b,low:=min h.low A }
def Heap.empty:Heap:=⟨0,.nil,0⟩

def G:Nat:=18446744073709551616

abbrev Env:=List ah
def Env.get:Env->Nat->ah
 | [],_=>undef
 |v::_,0=>v
 |_::r,n+1=>Env.get r n
def Env.set:Env->Nat->ah->Env
 | [],_,_=>[]
 |_::r,0,v=>v::r
 |x::r,n+1,v=>x::Env.set r n v

def mz:ah->Bool
 | .bool _ | .int _ _ | .string _ | .nilFunc | .nilIface=>true
 | .pointer none | .map none=>true
 | .slice none n c=>n == 0 && c == 0
 | .func (.func _) f c=>f.isEmpty && c.isEmpty
 |_=>false
def plain:ah->Bool
 | .agg cs=>cs.toList.all mz
 |v=>mz v
def one:ah->Bool
 | .agg _ | .tuple _=>false
 |_=>true

def jf {Z:Type} (P:Program):Sem Z->Option Z
 | .pure a=>some a
 | .program k=>jf P (k P)
 | .mark _ k=>jf P k
 |_=>none

structure bO where
 desc:TypeId->Option TypeDesc
 info:TypeId->Option (Nat × Nat × List ah)
 fn:FuncId->Option Func
 cmp:TypeId->Bool
 zero:TypeId->Option ah
 gs:List Nat
 yH:TypeId->String->Option Method
 Lw:FuncId->Bool

section
variable (P:Program) (T:bO)

def di (t:TypeId):Option Nat:=(T.info t).map (·.1)
def cO (t:TypeId):Option Bool:=(T.desc t).map fun
 | .struct _ | .array _ _=>true
 |_=>false

def cut (cs:List ah) (o n:Nat):Option (List ah):=if o+n<=cs.length then some ((cs.drop o).take n) else none
def aF (cs:List ah) (o:Nat) (vs:List ah):List ah:=cs.take o++vs++cs.drop (o+vs.length)

def iQ (A o n:Nat) (h:Heap):Option (List ah) :=
 match h.get A with
 |some (.row cs _ _)=>cut cs o n
 |_=>none

def ic (t:TypeId) (x:ah) (h:Heap):Option ah :=
 match x with
 | .pointer (some ⟨A,o,none⟩) =>
  (cO T t).bind λg =>
   if g then (di T t).bind λn=>(iQ A o n h).map λl=>.agg l.toArray
   else (iQ A o 1 h).bind λl=>l[0]?
 |_=>none

def lY (A o:Nat) (vs:List ah) (h:Heap):Option Heap :=
 match h.get A with
 |some (.row cs e false)=>if o+vs.length<=cs.length && vs.all one then some (h.set A (.row (aF cs o vs) e false)) else none
 |_=>none

def iO (t:TypeId) (x v:ah) (h:Heap):Option Heap :=
 match x with
 | .pointer (some ⟨A,o,none⟩)=>(di T t).bind λn=>if v.cells.size=n then lY A o v.cells.toList h else none
 |_=>none

def newRow (e:TypeId) (cs:List ah) (h:Heap):ah × Heap:=(.pointer (some ⟨h.size,0,none⟩),h.push (.row cs e false))

def ma (x:ah) (k:Nat) (h:Heap):Option (List ah) :=
 match x with
 | .slice (some ⟨A,o,none⟩) n _=>if n*k=0 then some [] else iQ A o (n*k) h
 | .slice none 0 _=>some []
 |_=>none

def fN (x:ah) (k:Nat) (h:Heap):Option (Nat × List ah) :=
 match x with
 | .string b=>if k=1 then some (b.size,b.data.toList.map λu=>Value.int .u8 u.toNat) else none
 | .slice _ m _=>(ma x k h).map λl=>(m,l)
 |_=>none

def iy (t:TypeId) (s x:ah) (h:Heap):Option (ah × Heap) :=
 match T.desc t with
 |some (.slice e)=>(T.info e).bind λ(k,bytes,_) =>
  (fN x k h).bind λ(m,news) =>
  match s with
  | .slice base n c =>
   if m=0 then some (s,h) else
   if k=0 || (n+m)*bytes > 140737488355328 || n+m > 1152921504606846976 || !news.all one then none else
   if n+m<=c % G then
    match base with
    |some ⟨A,o,none⟩=>if c < G || c / G=k then (lY A (o+n*k) news h).map λh'=>(.slice base (n+m) c,h') else none
    |_=>none
   else
    (ma s k h).bind λeD =>
    if c < G then some (.slice (some ⟨h.size,0,none⟩) (n+m) (G*k+(n+m)),h.push (.row (eD++news) e false))
    else match base with
     |some ⟨A,_,none⟩=>match h.get A with
      |some (.row _ e' false) =>
       if e'=e && c / G=k then some (.slice (some ⟨h.size,0,none⟩) (n+m) (G*k+(n+m)),(h.set A .dead).push (.row (eD++news) e false)) else none
      |_=>none
     |_=>none
  |_=>none
 |_=>none

def wV (x:ah) (hi:Nat):Option Nat :=
 match x with
 | .int _ i=>if 0<=i/\i<=hi then some i.toNat else none
 |_=>none

def rq (len cap:Nat) (l h m:Option ah):Option (Nat × Nat × Nat) :=
 (match m with|some v=>wV v cap|none=>some cap).bind λm' =>
 (match h,m with|some v,_=>wV v m'|none,none=>some len|none,some _=>none).bind λh' =>
 (match l with|some v=>wV v h'|none=>some 0).bind λl'=>some (l',h',m')

def jL (t:TypeId) (x:ah) (l h m:Option ah):Option ah :=
 match T.desc t,x with
 |some .string,.string s=>if m.isSome then none else (rq s.size s.size l h none).map λ(l',h',_)=>.string (s.extract l' h')
 |some (.array n e),.pointer (some ⟨A,o,none⟩) =>
  (if n < G then rq n n l h m else none).bind λ(l',h',m')=>(di T e).map λk=>.slice (some ⟨A,if m'=l' then o else o+l'*k,none⟩) (h' - l') (m' - l')
 |some (.slice e),.slice a n c =>
  (di T e).bind λk =>
  if c < G then
   (rq n c l h m).bind λ(l',h',m')=>match a with
    |some ⟨A,o,none⟩=>some (.slice (some ⟨A,if m'=l' then o else o+l'*k,none⟩) (h' - l') (m' - l'))
    |none=>some (.slice none (h' - l') (m' - l'))
    |_=>none
  else match a with
   |some ⟨A,o,none⟩ =>
    if c / G=k then
     (rq n (c % G) l h m).map λ(l',h',m')=>match m with
      |some _=>.slice (some ⟨A,if m'=l' then o else o+l'*k,none⟩) (h' - l') (m' - l')
      |none=>.slice (some ⟨A,o+l'*k,none⟩) (h' - l') (G*k+(m' - l'))
    else none
   |_=>none
 |_,_=>none

def kF (t:TypeId) (x i:ah):Option ah :=
 match i with
 | .int _ i=>match T.desc t,x with
  |some (.array n e),.pointer (some ⟨A,o,none⟩)=>if 0<=i/\i < n then (di T e).map λk=>.pointer (some ⟨A,o+i.toNat*k,none⟩) else none
  |some (.slice e),.slice (some ⟨A,o,none⟩) n _=>if 0<=i/\i < n then (di T e).map λk=>.pointer (some ⟨A,o+i.toNat*k,none⟩) else none
  |_,_=>none
 |_=>none

def jg (s:TypeId) (x:ah) (f:Nat):Option ah :=
 match T.desc s,x with
 |some (.struct fs),.pointer (some ⟨A,o,none⟩) =>
  (fs[f]?).bind λf=>(di T f.type).bind λn=>if n=0 then none else some (.pointer (some ⟨A,o+f.offset,none⟩))
 |_,_=>none

def v7 (t:TypeId) (cs:List ah) (o:Nat):Option ah :=
 (cO T t).bind λg=>if g then (di T t).bind λn=>(cut cs o n).map λl=>.agg l.toArray else cs[o]?

def QG (t:TypeId) (x:ah) (f:Nat):Option ah :=
 match T.desc t,x with
 |some (.struct fs),.agg cs=>(fs[f]?).bind λf=>v7 T f.type cs.toList f.offset
 |_,_=>none

def BX (E:TypeId->ah->ah->Option Bool) (xs ys:List ah):List (TypeId × Nat)->Option Bool
 | []=>some true
 |(t,o)::r=>(v7 T t xs o).bind λa=>(v7 T t ys o).bind λb=>(E t a b).bind λc=>if c then BX E xs ys r else some false
def IH:List Field->Option (List (TypeId × Nat))
 | []=>some []
 |f::fs=>if f.name="_" then none else (IH fs).map λr=>(f.type,f.offset)::r
def IW (e:TypeId) (k:Nat):Nat->Nat->List (TypeId × Nat)
 |0,_=>[]
 |n+1,i=>(e,i*k)::IW e k n (i+1)
def fK:Nat->TypeId->ah->ah->Option Bool
 |0,_,_,_=>none
 |d+1,t,x,y=>match T.desc t,x,y with
  |some .bool,.bool a,.bool b=>some (a == b)
  |some (.int _),.int k a,.int k' b=>if k=k' then some (a == b) else none
  |some .string,.string a,.string b=>some (a.data.toList == b.data.toList)
  |some (.struct fs),.agg xs,.agg ys=>if T.cmp t then (IH fs.toList).bind λps=>BX T (fK d) xs.toList ys.toList ps else none
  |some (.array n e),.agg xs,.agg ys=>(di T e).bind λk=>BX T (fK d) xs.toList ys.toList (IW e k n 0)
  |_,_,_=>none

def uE (place:Nat->Option (Nat × Nat)) (cells:List ah):List (Nat × ah)->Option (List ah)
 | []=>some cells
 |(i,v)::rest=>(place i).bind λ(o,n) =>
  if v.cells.size=n/\o+n<=cells.length then uE place (aF cells o v.cells.toList) rest else none

def Ql:List Field->Option (List (Nat × Nat))
 | []=>some []
 |f::fs=>(di T f.type).bind λn=>(Ql fs).map λr=>(f.offset,n)::r

def qg (t:TypeId) (parts:List (Nat × ah)):Option ah :=
 (T.info t).bind λ(_,_,z) =>
 match T.desc t with
 |some (.struct fs)=>(Ql T fs.toList).bind λplaces=>(uE (λk=>places[k]?) z parts).map λcs=>.agg cs.toArray
 |some (.array _ e)=>(di T e).bind λk=>(uE (λi=>some (i*k,k)) z parts).map λcs=>.agg cs.toArray
 |_=>none

def oH (z:List ah) (n:Nat):List ah:=(List.replicate n z).flatten

def yT (t:TypeId) (len:Nat) (parts:List (Nat × ah)) (h:Heap):Option (ah × Heap) :=
 match T.desc t with
 |some (.slice e)=>(T.info e).bind λ(k,_,z) =>
  if len*k > 16777216 || len > 16777216 then none else
  (uE (λi=>some (i*k,k)) (oH z len) parts).map λcs=>(.slice (some ⟨h.size,0,none⟩) len len,h.push (.row cs e false))
 |_=>none

def PN (t:TypeId) (l c:ah) (h:Heap):Option (ah × Heap) :=
 match T.desc t,l,c with
 |some (.slice e),.int _ l,.int _ c=>(T.info e).bind λ(_,bytes,z) =>
  if 0<=l/\l<=c/\c<=1152921504606846976/\c*bytes<=140737488355328 then
   some (.slice (some ⟨h.size,0,none⟩) l.toNat c.toNat,h.push (.row (oH z c.toNat) e false))
  else none
 |_,_,_=>none

def QQ (t:TypeId) (d s:ah) (h:Heap):Option (ah × Heap) :=
 match T.desc t,d with
 |some (.slice e),.slice a n _=>(di T e).bind λk =>
  (fN s k h).bind λ(m,src) =>
  if min m n=0 then some (.int .i64 0,h) else
  match a with
  |some ⟨A,o,none⟩=>(lY A o (src.take (min m n*k)) h).map λh'=>(.int .i64 (min m n:Nat),h')
  |_=>none
 |_,_=>none

def rA (t:TypeId) (x:ah) (h:Heap):Option Heap :=
 match T.desc t,x with
 |some (.slice e),.slice a n _ =>
  if n=0 then some h else
  (T.info e).bind λ(_,_,z) =>
  match a with
  |some ⟨A,o,none⟩=>lY A o (oH z n) h
  |_=>none
 |_,_=>none

def DV (d:TypeDesc) (x y:ah):Option Bool :=
 match d,x,y with
 | .pointer _,.pointer none,.pointer b=>some b.isNone
 | .pointer _,.pointer (some _),.pointer none=>some false
 | .slice _,.slice none _ _,.slice b _ _=>some b.isNone
 | .slice _,.slice (some _) _ _,.slice none _ _=>some false
 | .map _ _,.map none,.map b=>some b.isNone
 | .map _ _,.map (some _),.map none=>some false
 | .func _ _ _,.nilFunc,.nilFunc=>some true
 | .func _ _ _,.nilFunc,.func _ _ _=>some false
 | .func _ _ _,.func _ _ _,.nilFunc=>some false
 |_,_,_=>none

def r8 (op:BinOp) (x y:ah):Option ah :=
 match op,x,y with
 | .add,.int k a,.int k' b=>if k=k' then some (.int k (k.wrap (a+b))) else none
 | .sub,.int k a,.int k' b=>if k=k' then some (.int k (k.wrap (a - b))) else none
 | .eql,.int k a,.int k' b=>if k=k' then some (.bool (a == b)) else none
 | .neq,.int k a,.int k' b=>if k=k' then some (.bool (a != b)) else none
 | .lss,.int k a,.int k' b=>if k=k' then some (.bool (a < b)) else none
 | .leq,.int k a,.int k' b=>if k=k' then some (.bool (a<=b)) else none
 | .gtr,.int k a,.int k' b=>if k=k' then some (.bool (a > b)) else none
 | .geq,.int k a,.int k' b=>if k=k' then some (.bool (a >= b)) else none
 |_,_,_=>none

def cm (op:BinOp) (t:TypeId) (x y:ah):Option ah :=
 match r8 op x y with
 |some v=>some v
 |none =>
  match (T.desc t).bind λd=>DV d x y with
  |some b=>(match op with | .eql=>some (.bool b) | .neq=>some (.bool !b)|_=>none)
  |none =>
   if plain x && plain y then
    match x,y with
    | .nilIface,_=>none
    | .agg _,.agg _=>if T.cmp t then (match op with
     | .eql=>(fK T 20 t x y).map λb=>.bool b
     | .neq=>(fK T 20 t x y).map λb=>.bool !b
     |_=>none) else none
    |_,_=>(jf P (binOp op t x y)).bind λv=>if plain v then some v else none
   else none

def bn (t:TypeId) (x:ah) (h:Heap):Option ah :=
 match T.desc t,x with
 |some .string,.string s=>some (.int .i64 s.size)
 |some (.slice _),.slice _ n _=>some (.int .i64 n)
 |some (.map _ _),.map none=>some (.int .i64 0)
 |some (.map _ _),.map (some A)=>(match h.get A with
  |some (.map es _)=>some (.int .i64 es.length)
  |_=>none)
 |_,_=>none

def HM:ah->ah->Bool
 | .bool a,.bool b=>a == b
 | .int j a,.int k b=>decide (j=k) && a == b
 | .string a,.string b=>a.data.toList == b.data.toList
 |_,_=>false
def Jb:List ah->List ah->Bool
 | [],[]=>true
 |x::xs,y::ys=>HM x y && Jb xs ys
 |_,_=>false
def Hg:ah->ah->Bool
 | .agg a,.agg b=>Jb a.toList b.toList
 |x,y=>HM x y
def vZ (kt:TypeId) (k:ah):Bool:=if plain k then (match fK T 20 kt k k with|some b=>b|none=>false) else false
def qA (kt:TypeId) (k:ah):List MapEntry->Nat->Option (Option (Nat × ah))
 | [],_=>some none
 |e::es,i=>(fK T 20 kt k e.key).bind λb=>if b then some (some (i,e.val)) else qA kt k es (i+1)
def QX (x:ah) (h:Heap):Option (List MapEntry) :=
 match x with
 | .map none=>some []
 | .map (some A)=>(match h.get A with|some (.map es _)=>some es|_=>none)
 |_=>none
def B0 (t:TypeId) (x k:ah) (ok:Bool) (h:Heap):Option ah :=
 match T.desc t with
 |some (.map kt et) =>
  if vZ T kt k then
   (QX x h).bind λes=>(qA T kt k es 0).bind λr=>(match r with
    |some (_,v)=>some (v,true)
    |none=>(T.zero et).map λz=>(z,false)).map λ(v,b)=>if ok then .tuple #[v,.bool b] else v
  else none
 |_=>none
def rz (t:TypeId) (x k v:ah) (h:Heap):Option Heap :=
 match T.desc t,x with
 |some (.map kt _),.map (some A)=>(match h.get A with
  |some (.map es clock) =>
   if vZ T kt k then
    (qA T kt k es 0).bind λr=>match r with
     |some (i,_)=>(es[i]?).bind λe=>if Hg e.key k then some (h.set A (.map (es.modify i λe=>{ e with key:=k,val:=v }) clock)) else none
     |none=>some (h.set A (.map (es++[{ key:=k,val:=v,born:=clock }]) (clock+1)))
   else none
  |_=>none)
 |_,_=>none

def bz (e:Env):Operand->ah
 | .tmp t=>e.get t
 | .const v=>v
 | .global g=>.pointer (some ⟨g,0,none⟩)
 | .func f=>.func (.func f) #[] #[]

def Ac (t:TypeId) (x k:ah) (h:Heap):Option Heap :=
 match T.desc t,x with
 |some (.map kt _),.map none=>if vZ T kt k then some h else none
 |some (.map kt _),.map (some A)=>(match h.get A with
  |some (.map es clock) =>
   if vZ T kt k then
    (qA T kt k es 0).bind λr=>match r with
     |some (i,_)=>some (h.set A (.map (es.eraseIdx i) clock))
     |none=>some (h.set A (.map es clock))
   else none
  |_=>none)
 |_,_=>none

def DJ (t:TypeId) (x k:ah) (h:Heap):Option (ah × Heap) :=
 match T.desc t,x with
 |some (.map kt et),.map (some A)=>(match h.get A with
  |some (.map es clock) =>
   if vZ T kt k then
    (qA T kt k es 0).bind λr=>match r with
     |some (i,v)=>(es[i]?).bind λe=>if Hg e.key k then some (.tuple #[v,.int .i64 e.born],h.set A (.map (es.modify i λe=>{ e with key:=k }) clock)) else none
     |none=>(T.zero et).map λz=>(.tuple #[z,.int .i64 clock],h.set A (.map (es++[{ key:=k,val:=z,born:=clock }]) (clock+1)))
   else none
  |_=>none)
 |_,_=>none
def JE (s:Int):List MapEntry->Nat->Option Nat
 | [],_=>none
 |e::es,i=>if (e.born:Int)=s then some i else JE s es (i+1)
def yU (x s v:ah) (h:Heap):Option Heap :=
 match x,s with
 | .map (some A),.int _ b=>(match h.get A with
  |some (.map es clock)=>(JE b es 0).map λi=>h.set A (.map (es.modify i λe=>{ e with val:=v }) clock)
  |_=>none)
 |_,_=>none

def Jv (t:TypeId) (x:ah):Option ah:=match T.desc t with
 |some (.interface _)=>none
 |some _=>some (.iface t x)
 |none=>none
def Qh (x:ah) (asserted:TypeId) (ok:Bool):Option ah:=match T.desc asserted with
 |some (.interface _)=>none
 |some _=>(match x with
  | .iface t v=>if t=asserted then some (if ok then .tuple #[v,.bool true] else v) else if ok then (T.zero asserted).map λz=>.tuple #[z,.bool false] else none
  | .nilIface=>if ok then (T.zero asserted).map λz=>.tuple #[z,.bool false] else none
  |_=>none)
 |none=>none
inductive gQ where
 |val (v:ah)
 |var (p:ah)
def gQ.get (t:TypeId) (h:Heap):gQ->Option ah
 | .val v=>some v
 | .var p=>ic T t p h
def Jf (h:Heap):List FieldStep->TypeId->gQ->Option (TypeId × gQ)
 | [],t,x=>some (t,x)
 |s::rest,t,x=>match T.desc s.struct with
  |some (.struct fs)=>(fs[s.index]?).bind λf =>
   if s.deref then (x.get T t h).bind λp=>(jg T s.struct p s.index).bind λq=>Jf h rest f.type (.var q)
   else match x with
    | .var p=>(jg T s.struct p s.index).bind λq=>Jf h rest f.type (.var q)
    | .val (.agg cs)=>(v7 T f.type cs.toList f.offset).bind λv=>Jf h rest f.type (.val v)
    |_=>none
  |_=>none
def zkl (xt:TypeId) (x:gQ) (ptr:Bool) (h:Heap):Option ah :=
 match T.desc xt,ptr,x with
 |some (.pointer _),true,x=>x.get T xt h
 |some (.pointer elem),false,x=>(x.get T xt h).bind λp=>ic T elem p h
 |some _,true,.var p=>(match p with | .pointer (some a)=>some (.pointer (some a))|_=>none)
 |some _,false,x=>x.get T xt h
 |_,_,_=>none
def wS (t:TypeId) (v:ah) (name:String) (h:Heap):Option (FuncId × ah) :=
 (T.yH t name).bind λm=>(Jf T h m.path.toList t (.val v)).bind λ(xt,x)=>match m.func with
  |some (f,ptr)=>(zkl T xt x ptr h).map λr=>(f,r)
  |none=>none

def QK:List ah->Option (List UInt8)
 | []=>some []
 | .int .u8 n::l=>(QK l).map (UInt8.ofNat n.toNat::·)
 |_=>none
def To (s d:TypeId) (x:ah) (h:Heap):Option ah :=
 match T.desc s,T.desc d,x with
 |some (.slice e),some .string,.slice _ _ _=>(match T.desc e with
  |some (.int .u8)=>(ma x 1 h).bind λl=>(QK l).map λbs=>.string ⟨bs.toArray⟩
  |_=>none)
 |_,_,_=>none
def Ja (d:TypeId) (x:ah) (h:Heap):Option (ah × Heap) :=
 match T.desc d,x with
 |some (.slice e),.string b=>(match T.desc e,T.info e with
  |some (.int .u8),some (1,_,_)=>if b.size > 1152921504606846976\/e≠5 then none else some (.slice (some ⟨h.size,0,none⟩) b.size (G*1+b.size),h.push (.row (b.data.toList.map λu=>Value.int .u8 u.toNat) e false))
  |_,_=>none)
 |_,_=>none
def Td (t:TypeId):Bool:=match T.desc t with
 |some .string=>true
 |_=>false
def ur (t:TypeId):Bool:=match T.desc t with
 |some (.slice _)=>true
 |_=>false
def EF (t:TypeId) (x:ah):Option ah :=
 match T.desc t,x with
 |some (.slice _),.slice _ _ c=>if c < G then some (.int .i64 c) else none
 |_,_=>none

def iZ (e:Env) (o:Oper) (h:Heap):Option (ah × Heap) :=
 if o.op.operands.toList.all λx=>plain (bz e x) then
  match jf P (execOp (bz e) o) with
  |some (.value v)=>if plain v then some (v,h) else none
  |_=>none
 else none

def uB (t u:TypeId):Bool:=u == t || (match T.desc u with|some .string|some (.slice _)=>true|_=>false)

variable (C:Fn->List ah->Heap->Option (ah × Heap))

def gP (e:Env) (o:Oper) (h:Heap):Option (ah × Heap) :=
 let v:=bz e
 match o.op with
 | .move x=>some (v x,h)
 | .assign x=>some (v x,h)
 | .pick c a b=>match v c with | .bool t=>some (if t then v a else v b,h)|_=>none
 | .alloc t=>(T.info t).map λ(_,_,z)=>newRow t z h
 | .box t x=>some (newRow t (v x).cells.toList h)
 | .build t ps=>(qg T t (ps.toList.map λ(i,x)=>(i,v x))).map λr=>(r,h)
 | .buildSlice t n ps=>yT T t n (ps.toList.map λ(i,x)=>(i,v x)) h
 | .load t a=>(ic T t (v a) h).map λr=>(r,h)
 | .store t a x=>(iO T t (v a) (v x) h).map λh'=>(undef,h')
 | .nilCheck x=>match v x with
  | .pointer (some a)=>some (.pointer (some a),h)
  | .func (.func f) a b=>some (.func (.func f) a b,h)
  | .iface t a=>some (.iface t a,h)
  |_=>none
 | .binOp op t x y _=>(cm P T op t (v x) (v y)).map λr=>(r,h)
 | .makeFunc fn first captured=>match fn with | .func f=>some (.func (.func f) (first.map v) (captured.map v),h)|_=>none
 | .makeSlice t l c=>PN T t (v l) (v c) h
 | .slice t x l hi m=>(jL T t (v x) (l.map v) (hi.map v) (m.map v)).map λr=>(r,h)
 | .fieldAddr s x f=>(jg T s (v x) f).map λr=>(r,h)
 | .field t x f=>(QG T t (v x) f).map λr=>(r,h)
 | .indexAddr t x i=>(kF T t (v x) (v i)).map λr=>(r,h)
 | .extract t i=>match v t with | .tuple vs=>(vs[i]?).map λr=>(r,h)|_=>none
 | .unOp _ _ _=>iZ P e o h
 | .convert s d x=>if ur T s then (To T s d (v x) h).map λr=>(r,h) else if ur T d then (if Td T s then Ja T d (v x) h else none) else iZ P e o h
 | .index _ _ _=>iZ P e o h
 | .call c=>match c.callee with
  | .builtin .append=>match c.argTypes.toList,c.args.toList with
   | [t,u],[s,x]=>if uB T t u then iy T t (v s) (v x) h else none
   |_,_=>none
  | .builtin .copy=>match c.argTypes.toList,c.args.toList with
   | [t,_],[d,s]=>QQ T t (v d) (v s) h
   |_,_=>none
  | .builtin .clear=>match c.argTypes.toList,c.args.toList with
   | [t],[x]=>(rA T t (v x) h).map λh'=>(undef,h')
   |_,_=>none
  | .builtin .len=>match c.argTypes.toList,c.args.toList with
   |t::_,[x]=>(bn T t (v x) h).map λr=>(r,h)
   |_,_=>none
  | .builtin .min=>iZ P e o h
  | .builtin .max=>iZ P e o h
  | .builtin .delete=>match c.argTypes.toList,c.args.toList with
   |t::_,[m,k]=>(Ac T t (v m) (v k) h).map λh'=>(undef,h')
   |_,_=>none
  | .builtin .cap=>match c.argTypes.toList,c.args.toList with
   |t::_,[x]=>(EF T t (v x)).map λr=>(r,h)
   |_,_=>none
  | .invoke r name=>match v r with
   | .iface t x=>(wS T t x name h).bind λ(f,y)=>C (.func f) (y::c.args.toList.map v) h
   |_=>none
  | .value f=>match v f with
   | .func (.func f) first captured=>C (.func f) (first.toList++c.args.toList.map v++captured.toList) h
   | .func (.yield A) first captured=>if first.isEmpty && captured.isEmpty then C (.yield A) (c.args.toList.map v) h else none
   |_=>none
  |_=>none
 | .makeMap t r=>match r with
  |none=>some (.map (some h.size),h.push (.map [] 0))
  |some x=>(match T.desc t,v x with
   |some (.map _ _),.int _ _=>some (.map (some h.size),h.push (.map [] 0))
   |_,_=>none)
 | .lookup t x k ok=>(B0 T t (v x) (v k) ok h).map λr=>(r,h)
 | .mapUpdate t m k x=>(rz T t (v m) (v k) (v x) h).map λh'=>(undef,h')
 | .insert t m k x=>(rz T t (v m) (v k) (v x) h).map λh'=>(undef,h')
 | .mapEntry t m k=>DJ T t (v m) (v k) h
 | .entryStore _ m s x=>(yU (v m) (v s) (v x) h).map λh'=>(undef,h')
 | .makeInterface t x=>(Jv T t (v x)).map λr=>(r,h)
 | .typeAssert x _ t ok=>(Qh T (v x) t ok).map λr=>(r,h)
 |_=>none

def nx (ops:Array Oper) (o:Oper) (e:Env):Bool :=
 match o.guard with
 |none=>true
 |some (j,b)=>match (ops[j]?).bind (·.dst) with
  |some t=>(match e.get t with | .bool c=>c == b|_=>false)
  |none=>false

def put (e:Env) (d:Option Tmp) (v:ah):Env:=match d with
 |some d=>e.set d v
 |none=>e

def tA (ops:Array Oper):List Oper->Env->Heap->Option (Env × Heap)
 | [],e,h=>some (e,h)
 |o::rest,e,h =>
  if nx ops o e then
   match gP P T C e o h with
   |some (v,h')=>tA ops rest (put e o.dst v) h'
   |none=>none
  else tA ops rest (put e o.dst undef) h

inductive Ex where
 |normal
 |exit (id:Nat)
 |ret

def iter (f:Env->Heap->Option (Ex × Env × Heap)):Nat->Env->Heap->Option (Ex × Env × Heap)
 |0,_,_=>none
 |n+1,e,h=>match f e h with
  |some (.normal,e',h')=>iter f n e' h'
  |r=>r

variable (D:Array Oper->Env->Heap->Option (Env × Heap))

def zmx (rd:Option Nat) (h:Heap):Bool:=match rd with
 |none=>true
 |some A=>(match h.get A with|some (.loop ..)=>true|_=>false)
def IQ (l:Nat) (e:Env) (h:Heap):Option (Ex × Env × Heap) :=
 match h.get l with
 |some (.loop env ps assign body st gn)=>(match st with
  | .busy=>none
  |_=>(match gn with
   |none=>some (.normal,e,h.set l (.loop env ps assign body .exhausted gn))
   |some (.exit id)=>some (.exit id,e,h.set l (.loop env ps assign body .exhausted gn))
   |some .ret=>some (.ret,e,h.set l (.loop env ps assign body .exhausted gn))
   |_=>none))
 |_=>none
def zqW (f:FuncId):Bool:=match T.fn f with
 |some fn=>(match fn.body with|some _=>true|none=>false)
 |none=>false
def Jy (rd:Option Nat) (g:ah) (ps:List Tmp) (assign body:Code) (e:Env) (h:Heap):Option (Ex × Env × Heap) :=
 match g with
 | .func (.func f) first captured =>
  if zmx rd h && zqW T f then
   match C (.func f) (first.toList++[.func (.yield h.size) #[] #[]]++captured.toList) (h.push (.loop e ps assign body .ready none)) with
   |some (_,h2)=>IQ h.size e h2
   |none=>none
  else none
 |_=>none

def eg (rd:Option Nat) (fuel:Nat):Code->Env->Heap->Option (Ex × Env × Heap)
 | .skip,e,h=>some (.normal,e,h)
 | .region _ ops d,e,h=>(if d then D ops e h else tA P T C ops ops.toList e h).map λ(e',h')=>(.normal,e',h')
 | .seq a b,e,h=>match eg rd fuel a e h with
  |some (.normal,e',h')=>eg rd fuel b e' h'
  |r=>r
 | .cond c a b,e,h=>match bz e c with
  | .bool true=>eg rd fuel a e h
  | .bool false=>eg rd fuel b e h
  |_=>none
 | .block id c,e,h=>match eg rd fuel c e h with
  |some (.exit i,e',h')=>if i=id then some (.normal,e',h') else some (.exit i,e',h')
  |r=>r
 | .loop c,e,h=>iter (eg rd fuel c) fuel e h
 | .scope c,e,h=>eg rd fuel c e h
 | .rangeFunc g ps assign body,e,h=>Jy T C rd (bz e g) ps.toList assign body e h
 | .exit id,e,h=>some (.exit id,e,h)
 | .ret,e,h=>some (.ret,e,h)
 | .label _,e,h=>some (.normal,e,h)
 |_,_,_=>none

def Ae (e:Env) (h:Heap):ResultVar->Option ah
 | .tmp t=>some (e.get t)
 | .cell a t=>ic T t (e.get a) h

def qf (fn:Func) (e:Env) (h:Heap):Option ah :=
 match fn.results.toList with
 | [r]=>Ae T e h r
 |rs=>(rs.mapM (Ae T e h)).map λvs=>.tuple vs.toArray
end

def PT (gs:List Nat):Operand->Bool
 | .const v=>plain v
 | .global g=>gs.contains g
 |_=>true
def NG (gs:List Nat) (o:Oper):Bool:=o.op.operands.toList.all (PT gs)
def r9 (gs:List Nat):Code->Bool
 | .region _ ops _=>ops.toList.all (NG gs)
 | .seq a b=>r9 gs a && r9 gs b
 | .cond c a b=>PT gs c && r9 gs a && r9 gs b
 | .block _ c=>r9 gs c
 | .loop c=>r9 gs c
 | .scope c=>r9 gs c
 | .rangeFunc g _ a b=>PT gs g && r9 gs a && r9 gs b
 |_=>true
end Go.Am
namespace Go.Am
open Go.RowKit
variable {h:Heap} {u v x:ah} {l m:List ah} {w:World}

theorem Tr.get_nil (i:Nat):Tr.get .nil i=none:=by cases i <;> rfl

theorem Tr.aJ:∀ (n:Nat) (t:Tr) (i j:Nat) (o:ba),i < n->(Tr.set n t i o).get j=if j=i then some o else t.get j
 |0,_,_,_,_,h=>by omega
 |n+1,t,i,j,o,h=>by
  cases t with
  |nil =>
   cases i with
   |zero=>cases j with
    |zero=>simp [Tr.set,Tr.get]
    |succ j=>simp [Tr.set,Tr.get]
   |succ i =>
    have hi:i / 2 < n:=by omega
    by_cases he:i % 2=0
    .cases j with
     |zero=>simp [Tr.set,Tr.get,he]
     |succ j =>
      by_cases hj:j % 2=0
      .simp only [Tr.set,Tr.get,he,hj,beq_self_eq_true,if_true,Tr.aJ n .nil (i / 2) (j / 2) o hi]
       by_cases e:j=i
       .subst e;simp
       .rw [aA (by omega),aA (by omega)]
      .have rR:(j % 2 == 0)=false:=by simpa using hj
       simp only [Tr.set,Tr.get,he,rR,beq_self_eq_true,if_true,gB,if_false]
       rw [aA (by intro e;apply hj;have:j=i:=by omega
                  subst this;exact he)]
    .have xM:(i % 2 == 0)=false:=by simpa using he
     cases j with
     |zero=>simp [Tr.set,Tr.get,xM]
     |succ j =>
      by_cases hj:j % 2=0
      .simp only [Tr.set,Tr.get,xM,hj,beq_self_eq_true,if_true,gB,if_false]
       rw [aA (by intro e;apply he;have:j=i:=by omega
                  subst this;exact hj)]
      .have rR:(j % 2 == 0)=false:=by simpa using hj
       simp only [Tr.set,Tr.get,xM,rR,gB,if_false,Tr.aJ n .nil (i / 2) (j / 2) o hi]
       by_cases e:j=i
       .subst e;simp
       .rw [aA (by omega),aA (by omega)]
  |node v l r =>
   cases i with
   |zero=>cases j with
    |zero=>simp [Tr.set,Tr.get]
    |succ j=>simp [Tr.set,Tr.get]
   |succ i =>
    have hi:i / 2 < n:=by omega
    by_cases he:i % 2=0
    .cases j with
     |zero=>simp [Tr.set,Tr.get,he]
     |succ j =>
      by_cases hj:j % 2=0
      .simp only [Tr.set,Tr.get,he,hj,beq_self_eq_true,if_true,Tr.aJ n l (i / 2) (j / 2) o hi]
       by_cases e:j=i
       .subst e;simp
       .rw [aA (by omega),aA (by omega)]
      .have rR:(j % 2 == 0)=false:=by simpa using hj
       simp only [Tr.set,Tr.get,he,rR,beq_self_eq_true,if_true,gB,if_false]
       rw [aA (by intro e;apply hj;have:j=i:=by omega
                  subst this;exact he)]
    .have xM:(i % 2 == 0)=false:=by simpa using he
     cases j with
     |zero=>simp [Tr.set,Tr.get,xM]
     |succ j =>
      by_cases hj:j % 2=0
      .simp only [Tr.set,Tr.get,xM,hj,beq_self_eq_true,if_true,gB,if_false]
       rw [aA (by intro e;apply he;have:j=i:=by omega
                  subst this;exact hj)]
      .have rR:(j % 2 == 0)=false:=by simpa using hj
       simp only [Tr.set,Tr.get,xM,rR,gB,if_false,Tr.aJ n r (i / 2) (j / 2) o hi]
       by_cases e:j=i
       .subst e;simp
       .rw [aA (by omega),aA (by omega)]

theorem Heap.size_push (h:Heap) (b:ba):(h.push b).size=h.size+1:=rfl
theorem Heap.size_set (h:Heap) (A:Nat) (b:ba):(h.set A b).size=h.size:=rfl
theorem Heap.dB (h:Heap) (b:ba):(h.push b).low=h.low:=rfl
theorem Heap.cd (h:Heap) (A:Nat) (b:ba):(h.set A b).low=min h.low A:=rfl
theorem Heap.bC (h:Heap) (b:ba) (j:Nat):(h.push b).get j=if j=h.size then some b else h.get j:=by
 simp only [Heap.get,Heap.push,Tr.aJ _ _ _ _ _ (so _)]
 by_cases e:j=h.size
 .subst e;simp
 .by_cases hl:j < h.size
  .rw [aB (by omega),aA e,aB hl,aA e]
  .rw [aA (by omega),aA e,aA hl]
theorem Heap.aJ (h:Heap) (A:Nat) (b:ba) (j:Nat) (hA:A < h.size):(h.set A b).get j=if j=A then some b else h.get j:=by
 simp only [Heap.get,Heap.set,Tr.aJ _ _ _ _ _ (so _)]
 by_cases e:j=A
 .subst e;simp [hA]
 .by_cases hl:j < h.size
  .rw [aB hl,aA e,aB hl,aA e]
  .rw [aA hl,aA e,aA hl]
theorem Heap.bE {A:Nat} {b:ba} (hb:h.get A=some b):A < h.size:=by
 unfold Heap.get at hb
 split at hb
 .assumption
 .cases hb

theorem Env.length_set:∀ (e:Env) (i:Nat) (v:ah),(Env.set e i v).length=e.length
 | [],_,_=>rfl
 |_::_,0,_=>rfl
 |x::r,n+1,v=>by simp [Env.set,Env.length_set r n v]
theorem Env.aJ:∀ (e:Env) (i j:Nat) (v:ah),(Env.set e i v).get j=if j=i/\i < e.length then v else e.get j
 | [],_,_,_=>by simp [Env.set,Env.get]
 |x::r,0,j,v=>by cases j <;> simp [Env.set,Env.get]
 |x::r,i+1,j,v=>by
  cases j with
  |zero=>simp [Env.set,Env.get]
  |succ j=>simp [Env.set,Env.get,Env.aJ r i j v]
theorem Env.oN:∀ (e:Env) (i:Nat),e.length<=i->e.get i=undef
 | [],_,_=>by simp [Env.get]
 |_::r,i+1,h=>by simp only [Env.get];exact Env.oN r i (by simpa using h)
 |_::_,0,h=>by simp at h
theorem Env.get_eq:∀ (e:Env) (i:Nat),e.get i=(e[i]?).getD undef
 | [],_=>by simp [Env.get]
 |_::_,0=>by simp [Env.get]
 |_::r,i+1=>by simp [Env.get,Env.get_eq r i]

structure Loc where
 b:Nat
 s:Nat
 vD:Nat

abbrev cn:=Nat->Option Loc

inductive VR (ρ:cn):ah->ah->Prop where
 |bool (b:Bool):VR ρ (.bool b) (.bool b)
 |int (k:IntKind) (n:Int):VR ρ (.int k n) (.int k n)
 |string (s:au):VR ρ (.string s) (.string s)
 |pW:VR ρ (.pointer none) (.pointer none)
 |ptr {A o:Nat} {L:Loc} (h:ρ A=some L):VR ρ (.pointer (some ⟨A,o,none⟩)) (.pointer (some ⟨L.b,L.s+o,none⟩))
 |dD:VR ρ (.slice none 0 0) (.slice none 0 0)
 |slice {A o n c:Nat} {L:Loc} {ad:Addr} (h:ρ A=some L) (hc:c < G) (hn:n<=c) (ft:c≠0->ad=⟨L.b,L.s+o,none⟩):VR ρ (.slice (some ⟨A,o,none⟩) n c) (.slice (some ad) n c)
 |cA {A o n c c':Nat} {L:Loc} {ad:Addr} (h:ρ A=some L) (hc:G<=c) (dj:c % G<=c') (hn:n<=c % G) (hk:0 < c / G)
  (hm:c'<=maxLen) (ft:c'≠0->ad=⟨L.b,L.s+o,none⟩/\L.s+o+c'*(c / G)<=L.vD):VR ρ (.slice (some ⟨A,o,none⟩) n c) (.slice (some ad) n c')
 |pT:VR ρ (.map none) (.map none)
 |nilFunc:VR ρ .nilFunc .nilFunc
 |mv (b:Nat):VR ρ (.chan (some b)) (.pointer (some ⟨b,0,none⟩))
 |map {A:Nat} {L:Loc} (h:ρ A=some L):VR ρ (.map (some A)) (.map (some L.b))
 |yield {A:Nat} {L:Loc} (h:ρ A=some L):VR ρ (.func (.yield A) #[] #[]) (.func (.yield L.b) #[] #[])
 |func (fn:FuncId) {f g c d:Array ah} (hf:f.size=g.size) (hc:c.size=d.size) (h1:∀ (i:Nat) (x y:ah),f[i]? = some x->g[i]? = some y->VR ρ x y)
  (h2:∀ (i:Nat) (x y:ah),c[i]? = some x->d[i]? = some y->VR ρ x y):VR ρ (.func (.func fn) f c) (.func (.func fn) g d)
 |nilIface:VR ρ .nilIface .nilIface
 |iface (t:TypeId) {x y:ah} (h:VR ρ x y):VR ρ (.iface t x) (.iface t y)
 |agg {c d:Array ah} (hc:c.size=d.size) (h:∀ (i:Nat) (x y:ah),c[i]? = some x->d[i]? = some y->VR ρ x y):VR ρ (.agg c) (.agg d)
 |tuple {c d:Array ah} (hc:c.size=d.size) (h:∀ (i:Nat) (x y:ah),c[i]? = some x->d[i]? = some y->VR ρ x y):VR ρ (.tuple c) (.tuple d)

theorem VR.mono {ρ ρ':cn} (hg:∀ A L,ρ A=some L->ρ' A=some L) (h:VR ρ v u):VR ρ' v u:=by
 induction h with
 |bool b=>exact .bool b
 |int k n=>exact .int k n
 |string s=>exact .string s
 |pW=>exact .pW
 |ptr h=>exact .ptr (hg _ _ h)
 |dD=>exact .dD
 |slice h hc hn ft=>exact .slice (hg _ _ h) hc hn ft
 |cA h hc dj hn hk hm ft=>exact .cA (hg _ _ h) hc dj hn hk hm ft
 |pT=>exact .pT
 |map h=>exact .map (hg _ _ h)
 |yield h=>exact .yield (hg _ _ h)
 |nilFunc=>exact .nilFunc
 |mv b=>exact .mv b
 |func fn hf hc h1 h2 i1 i2=>exact .func fn hf hc i1 i2
 |nilIface=>exact .nilIface
 |iface t h ih=>exact .iface t ih
 |agg hc h ih=>exact .agg hc ih
 |tuple hc h ih=>exact .tuple hc ih

theorem VR.undef (ρ:cn):VR ρ undef undef:=.tuple rfl (by intro i x y hx;simp at hx)

theorem VR.lN (ρ:cn) (h:mz v=true):VR ρ v v:=by
 cases v with
 |bool b=>exact .bool b
 |int k n=>exact .int k n
 |string s=>exact .string s
 |pointer a=>cases a with
  |none=>exact .pW
  |some a=>simp [mz] at h
 |slice a n c=>cases a with
  |none =>
   simp [mz] at h
   obtain ⟨rfl,rfl⟩:=h
   exact .dD
  |some a=>simp [mz] at h
 |map r=>cases r with
  |none=>exact .pT
  |some r=>simp [mz] at h
 |func fn f c =>
  cases fn with
  |func fn =>
   simp [mz] at h
   obtain ⟨rfl,rfl⟩:=h
   exact .func fn rfl rfl (by intro i x y hx;simp at hx) (by intro i x y hx;simp at hx)
  |_=>simp [mz] at h
 |nilFunc=>exact .nilFunc
 |nilIface=>exact .nilIface
 |_=>simp [mz] at h

theorem VR.oM {ρ:cn} (hv:VR ρ v u) (h:mz v=true):u=v:=by
 cases hv with
 |func fn hf hc h1 h2 =>
  simp [mz] at h
  obtain ⟨rfl,rfl⟩:=h
  have e1:∀ (a:Array ah),(#[]:Array ah).size=a.size->a=#[]:=λa ha=>Array.eq_empty_of_size_eq_zero (by simpa using ha.symm)
  rw [e1 _ hf,e1 _ hc]
 |_=>first|rfl|simp [mz] at h

theorem VR.dC (ρ:cn) (h:plain v=true):VR ρ v v:=by
 cases v with
 |agg cs =>
  refine .agg rfl λi x y hx hy=>?_
  have e:x=y:=by rw [hx] at hy;exact Option.some.inj hy
  subst e
  simp only [plain,jh] at h
  exact .lN ρ (h x (by simpa using Array.mem_of_getElem? hx))
 |_=>exact .lN ρ h

theorem VR.bI {ρ:cn} (hv:VR ρ v u) (h:plain v=true):u=v:=by
 cases hv with
 |agg hc hh =>
  rename_i c d
  congr 1
  refine Array.ext hc.symm λi h1 h2=>?_
  simp only [plain,jh] at h
  have hx:c[i]? = some c[i]:=zd h2
  exact (hh i _ _ hx (zd h1)).oM (h _ (by simp))
 |tuple hc hh=>simp [plain,mz] at h
 |func fn hf hc h1 h2=>exact (VR.func fn hf hc h1 h2).oM h
 |_=>first|rfl|(simp [plain,mz] at h;done)

theorem VR.one {ρ:cn} {v u:ah} (hv:VR ρ v u) (h:one v=true):u.oneCell'=true:=by
 cases hv <;> first|rfl|simp [Am.one] at h

def cx (ρ:cn) (l m:List ah):Prop:=l.length=m.length/\∀ (i:Nat) (x y:ah),l[i]? = some x->m[i]? = some y->VR ρ x y

theorem cx.nil (ρ:cn):cx ρ [] []:=⟨rfl,by intro i x y hx;simp at hx⟩
theorem cx.cons {ρ:cn} {y:ah} (h:VR ρ x y) (hl:cx ρ l m):cx ρ (x::l) (y::m) :=
 ⟨by simp [hl.1],λi a b ha hb=>by
  cases i with
  |zero=>simp at ha hb;subst ha hb;exact h
  |succ i=>exact hl.2 i a b (by simpa using ha) (by simpa using hb)⟩
theorem cx.of_cons {ρ:cn} (h:cx ρ (x::l) m):∃ y m',m=y::m'/\VR ρ x y/\cx ρ l m':=by
 cases m with
 |nil=>have:=h.1;simp at this
 |cons y m =>
  exact ⟨y,m,rfl,h.2 0 x y rfl rfl,by have:=h.1;simpa using this,λi a b ha hb=>h.2 (i+1) a b (by simpa using ha) (by simpa using hb)⟩
theorem cx.of_nil {ρ:cn} (h:cx ρ [] m):m=[]:=by
 have:=h.1
 simp at this
 exact List.eq_nil_of_length_eq_zero this.symm
theorem cx.mono {ρ ρ':cn} (hg:∀ A L,ρ A=some L->ρ' A=some L) {l m:List ah} (h:cx ρ l m):cx ρ' l m:=⟨h.1,λi x y hx hy=>(h.2 i x y hx hy).mono hg⟩
theorem cx.append {ρ:cn} {l' m':List ah} (h:cx ρ l m) (h':cx ρ l' m'):cx ρ (l++l') (m++m'):=by
 induction l generalizing m with
 |nil=>rw [h.of_nil];exact h'
 |cons x l ih =>
  obtain ⟨y,m1,rfl,hx,hl⟩:=h.of_cons
  exact .cons hx (ih hl)
theorem cx.take {ρ:cn} {l m:List ah} (h:cx ρ l m) (n:Nat):cx ρ (l.take n) (m.take n):=by
 refine ⟨by simp [h.1],λi x y hx hy=>?_⟩
 rw [mc] at hx hy
 split at hx
 .rename_i hi;rw [aB hi] at hy;exact h.2 i x y hx hy
 .cases hx
theorem cx.drop {ρ:cn} {l m:List ah} (h:cx ρ l m) (n:Nat):cx ρ (l.drop n) (m.drop n) :=
 ⟨by simp [h.1],λi x y hx hy=>h.2 (n+i) x y (by simpa using hx) (by simpa using hy)⟩
theorem cx.aF {ρ:cn} {l m l' m':List ah} (h:cx ρ l m) (o:Nat) (h':cx ρ l' m'):cx ρ (aF l o l') (aF m o m'):=by
 unfold Am.aF
 rw [<- h'.1]
 exact ((h.take o).append h').append (h.drop _)
theorem cx.cut {ρ:cn} {l m c:List ah} (h:cx ρ l m) {o n:Nat} (hc:cut l o n=some c):∃ d,cut m o n=some d/\cx ρ c d:=by
 unfold Am.cut at hc ⊢
 split at hc
 .rename_i hl
  rw [aB (by rw [<- h.1];exact hl)]
  cases hc
  exact ⟨_,rfl,(h.drop o).take n⟩
 .cases hc
theorem cx.get {ρ:cn} (h:cx ρ l m) {i:Nat} (hx:l[i]? = some x):∃ y,m[i]? = some y/\VR ρ x y:=by
 have hi:i < l.length:=(dH.1 hx).1
 have hy:m[i]? = some (m[i]'(by rw [<- h.1];exact hi)):=ie _
 exact ⟨_,hy,h.2 i x _ hx hy⟩
theorem cx.plain (ρ:cn) (h:l.all mz=true):cx ρ l l:=by
 refine ⟨rfl,λi x y hx hy=>?_⟩
 rw [hx] at hy
 cases hy
 exact .lN ρ (jh.1 h x (fW hx))
theorem cx.one {ρ:cn} {l m:List ah} (h:cx ρ l m) (h1:l.all one=true):∀ v∈m,v.oneCell'=true:=by
 intro v hv
 obtain ⟨i,hi⟩:=sk hv
 have hl:i < l.length:=by rw [h.1];exact (dH.1 hi).1
 exact (h.2 i _ v (ie hl) hi).one (jh.1 h1 _ (List.getElem_mem hl))
theorem cx.toArray {ρ:cn} {l m:List ah} (h:cx ρ l m):VR ρ (.agg l.toArray) (.agg m.toArray) :=
 .agg (by simp [h.1]) (λi x y hx hy=>h.2 i x y (by simpa using hx) (by simpa using hy))
theorem cx.fT {ρ:cn} (h:cx ρ l m):VR ρ (.tuple l.toArray) (.tuple m.toArray) :=
 .tuple (by simp [h.1]) (λi x y hx hy=>h.2 i x y (by simpa using hx) (by simpa using hy))
theorem VR.Ej {ρ:cn} {c d:Array ah} (h:VR ρ (.agg c) (.agg d)):cx ρ c.toList d.toList:=by
 cases h with
 |agg hc hh=>exact ⟨by simpa using hc,λi x y hx hy=>hh i x y (by simpa using hx) (by simpa using hy)⟩
theorem VR.cells {ρ:cn} {v u:ah} (h:VR ρ v u):cx ρ v.cells.toList u.cells.toList:=by
 cases h with
 |agg hc hh=>exact (VR.agg hc hh).Ej
 |_=>exact .cons (by first|exact .bool _|exact .int _ _|exact .string _|exact .pW|exact .ptr ‹_› | exact .dD|exact .slice ‹_› ‹_› ‹_› ‹_› | exact .cA ‹_› ‹_› ‹_› ‹_› ‹_› ‹_› ‹_› | exact .pT|exact .map ‹_› | exact .yield ‹_› | exact .nilFunc|exact .mv _|exact .func _ ‹_› ‹_› ‹_› ‹_› | exact .nilIface|exact .iface _ ‹_› | exact .tuple ‹_› ‹_›) (.nil ρ)

def cq (ρ:cn) (e:Env) (tmps:Array ah):Prop:=e.length=tmps.size/\∀ i,VR ρ (e.get i) (tmps.getD i undef)
theorem cq.mono {ρ ρ':cn} {e:Env} {tmps:Array ah} (he:cq ρ e tmps) (hg:∀ A L,ρ A=some L->ρ' A=some L):cq ρ' e tmps:=⟨he.1,λi=>(he.2 i).mono hg⟩
def mQ (ρ:cn) (l m:List MapEntry):Prop:=l.length=m.length/\∀ (i:Nat) (x y:MapEntry),l[i]? = some x->m[i]? = some y->VR ρ x.key y.key/\VR ρ x.val y.val/\x.born=y.born/\plain x.key=true
theorem mQ.mono {ρ ρ':cn} (hg:∀ A L,ρ A=some L->ρ' A=some L) {l m:List MapEntry} (h:mQ ρ l m):mQ ρ' l m :=
 ⟨h.1,λi x y hx hy=>⟨(h.2 i x y hx hy).1.mono hg,(h.2 i x y hx hy).2.1.mono hg,(h.2 i x y hx hy).2.2⟩⟩

def cX (gs:List Nat) (ρ:cn):Prop:=∀ g∈gs,∃ t,ρ g=some ⟨g,0,t⟩
def tI (ρ:cn):Operand->Prop
 | .const v=>plain v=true
 | .global g=>∃ t,ρ g=some ⟨g,0,t⟩
 |_=>True
def jQ (ρ:cn) (o:Oper):Prop:=∀ x∈o.op.operands.toList,tI ρ x
def cF (ρ:cn):Code->Prop
 | .region _ ops _=>∀ o∈ops.toList,jQ ρ o
 | .seq a b=>cF ρ a/\cF ρ b
 | .cond c a b=>tI ρ c/\cF ρ a/\cF ρ b
 | .block _ c=>cF ρ c
 | .loop c=>cF ρ c
 | .scope c=>cF ρ c
 | .rangeFunc g _ a b=>tI ρ g/\cF ρ a/\cF ρ b
 |_=>True
section
variable {ρ ρ':cn} (hg:∀ A L,ρ A=some L->ρ' A=some L)
include hg
theorem cX.mono {gs:List Nat} (h:cX gs ρ):cX gs ρ':=λg hh=>let ⟨t,ht⟩:=h g hh;⟨t,hg _ _ ht⟩
theorem tI.mono {x:Operand} (h:tI ρ x):tI ρ' x:=by
 cases x with
 |global g=>exact let ⟨t,ht⟩:=h;⟨t,hg _ _ ht⟩
 |_=>exact h
theorem jQ.mono {o:Oper} (h:jQ ρ o):jQ ρ' o:=λx hx=>(h x hx).mono hg
theorem cF.mono:∀ {c:Code},cF ρ c->cF ρ' c:=by
 intro c
 induction c with
 |region id ops d=>exact λh o ho=>(h o ho).mono hg
 |seq a b jW jX=>exact λh=>⟨jW h.1,jX h.2⟩
 |cond c a b jW jX=>exact λh=>⟨h.1.mono hg,jW h.2.1,jX h.2.2⟩
 |block id c ih=>exact λh=>ih h
 |loop c ih=>exact λh=>ih h
 |scope c ih=>exact λh=>ih h
 |rangeFunc g ps a b jW jX=>exact λh=>⟨h.1.mono hg,jW h.2.1,jX h.2.2⟩
 |_=>exact λ_=>trivial
end
theorem tI.of {gs:List Nat} {ρ:cn} (hG:cX gs ρ) {x:Operand} (h:PT gs x=true):tI ρ x:=by
 cases x with
 |global g=>exact hG g (by simpa [PT] using h)
 |const v=>exact h
 |_=>trivial
theorem jQ.of {gs:List Nat} {ρ:cn} (hG:cX gs ρ) {o:Oper} (h:NG gs o=true):jQ ρ o:=λx hx=>.of hG (jh.1 h x hx)
theorem cF.of {gs:List Nat} {ρ:cn} (hG:cX gs ρ):∀ {c:Code},r9 gs c=true->cF ρ c:=by
 intro c
 induction c with
 |region id ops d=>exact λh o ho=>.of hG (jh.1 h o ho)
 |seq a b jW jX=>exact λh=>by simp only [r9,eo] at h;exact ⟨jW h.1,jX h.2⟩
 |cond c a b jW jX=>exact λh=>by simp only [r9,eo] at h;exact ⟨.of hG h.1.1,jW h.1.2,jX h.2⟩
 |block id c ih=>exact λh=>ih h
 |loop c ih=>exact λh=>ih h
 |scope c ih=>exact λh=>ih h
 |rangeFunc g ps a b jW jX=>exact λh=>by simp only [r9,eo] at h;exact ⟨.of hG h.1.1,jW h.1.2,jX h.2⟩
 |_=>exact λ_=>trivial

def live (h:Heap) (A:Nat):Prop:=∃ b,h.get A=some b/\b≠.dead
def nh (h:Heap) (A:Nat):Prop:=∃ cs e,h.get A=some (.row cs e true)

def wL:TypeId:=1099511627776
def wN:List ah:=Lib.asciiSpaceTab.map λz=>Value.int .u8 z
def QS:TypeId:=5
structure nU (e:TypeId) (n:Nat) (fz:Nat × Nat):Prop where
 in':∀ j,j < n->¬ (fz.1<=j/\j < fz.2)
 UO:e=QS\/¬ (fz.1<=n/\n < fz.2)
theorem nU.zero (e:TypeId) (n:Nat):nU e n (0,0):=⟨λ_ _ h=>by have:=h.2;simp at this,.inr λh=>by have:=h.2;simp at this⟩
def qD (ρ:cn) (w:World) (L:Loc):Option ba->Prop
 |some (.row cs e true)=>(L.b < w.heap.size/\(e=wL->cs=wN))/\∀ (i:Nat) (v:ah),cs[i]? = some v->∃ u,w.cell? ⟨L.b,L.s+i,none⟩=some u/\VR ρ v u
 |some (.row cs e false)=>∃ (cur:Array ah) (fz:Nat × Nat),w.heap[L.b]? = some (.cells cur e fz)/\nU e cur.size fz/\cur.size=L.vD/\∃ m,cut cur.toList L.s cs.length=some m/\cx ρ cs m
 |some (.map es clock)=>∃ ces:Array MapEntry,w.heap[L.b]? = some (.map ces clock)/\mQ ρ es ces.toList
 |some (.loop env ps assign body st gn)=>∃ l:Loop,w.heap[L.b]? = some (.loop l)/\l.state=st/\l.pending=gn/\l.params.toList=ps/\l.assign=assign/\l.body=body/\cq ρ env l.tmps/\cF ρ assign/\cF ρ body
 |some .dead=>L.b < w.heap.size
 |none=>L.b < w.heap.size

theorem qD.keep {ρ ρ':cn} {w':World} {L:Loc} {b:Option ba} (hb:qD ρ w L b) (hg:∀ A L,ρ A=some L->ρ' A=some L) (dF:w.heap.size<=w'.heap.size)
 (hk:(∃ x,b=some x/\x≠.dead)->w'.heap[L.b]? = w.heap[L.b]?):qD ρ' w' L b:=by
 cases b with
 |none=>exact dJ hb dF
 |some b =>
  cases b with
  |dead=>exact dJ hb dF
  |map es clock =>
   obtain ⟨ces,hc,he⟩:=hb
   exact ⟨ces,(hk ⟨_,rfl,by simp⟩).trans hc,he.mono hg⟩
  |loop env ps assign body st gn =>
   obtain ⟨l,hc,h1,h2,h3,h4,h5,h6,h7⟩:=hb
   exact ⟨l,(hk ⟨_,rfl,by simp⟩).trans hc,h1,h2,h3,h4,h5,h6.mono hg,h7.1.mono hg,h7.2.mono hg⟩
  |row cs e ro =>
   have sZ:=hk ⟨_,rfl,by simp⟩
   cases ro with
   |true =>
    refine ⟨⟨dJ hb.1.1 dF,hb.1.2⟩,λi v hi=>?_⟩
    obtain ⟨u,hu,mL⟩:=hb.2 i v hi
    refine ⟨u,?_,mL.mono hg⟩
    rw [<- hu]
    simp only [World.cell?,sZ]
   |false =>
    obtain ⟨cur,fz,hc,pQ,ht,m,hm,hv⟩:=hb
    exact ⟨cur,fz,sZ.trans hc,pQ,ht,m,hm,hv.mono hg⟩

structure bR (ρ:cn) (h:Heap) (w:World):Prop where
 j5:∀ A L,ρ A=some L->qD ρ w L (h.get A)
 inj:∀ A A' L L',ρ A=some L->ρ A'=some L'->A≠A'->L.b=L'.b->¬ live h A\/¬ live h A'\/(nh h A/\nh h A')

theorem bR.lt {ρ:cn} (hs:bR ρ h w) {A:Nat} {L:Loc} (hA:ρ A=some L):L.b < w.heap.size:=by
 have hb:=hs.j5 A L hA
 cases hg:h.get A with
 |none=>rw [hg] at hb;exact hb
 |some b =>
  rw [hg] at hb
  cases b with
  |dead=>exact hb
  |map es clock =>
   obtain ⟨ces,hc,_⟩:=hb
   exact (mO.1 hc).1
  |loop env ps assign body st gn =>
   obtain ⟨l,hc,_⟩:=hb
   exact (mO.1 hc).1
  |row cs e ro =>
   cases ro with
   |true=>exact hb.1.1
   |false =>
    obtain ⟨cur,fz,hc,_⟩:=hb
    exact (mO.1 hc).1

def fQ (ρ:cn) (h h':Heap):Prop:=∀ A,h.size<=A->A < h'.size->ρ A=none

structure Fr (ρ ρ':cn) (h h':Heap) (w w':World):Prop where
 grow:∀ A L,ρ A=some L->ρ' A=some L
 fresh:∀ A L,ρ' A=some L->ρ A=none->h.size<=A/\A < h'.size/\(w.heap.size<=L.b\/∃ A0 L0,ρ A0=some L0/\L0.b=L.b/\h'.low<=A0/\A0 < h'.size)
 os:w'.os=w.os
 tape:w'.tape=w.tape
 output:w'.output=w.output
 size:w.heap.size<=w'.heap.size
 gM:h.size<=h'.size
 low:h'.low<=h.low
 keep:∀ b,b < w.heap.size->(∀ A L,ρ A=some L->L.b=b->A < h'.low\/h'.size<=A)->w'.heap[b]? = w.heap[b]?
 qG:∀ A,A < h.size->A < h'.low->h'.get A=h.get A

theorem Fr.refl (ρ:cn) (h:Heap) (w:World):Fr ρ ρ h h w w :=
 ⟨λ_ _ h=>h,λA L h1 h2=>(by rw [h1] at h2;cases h2),rfl,rfl,rfl,bo _,bo _,bo _,λ_ _ _=>rfl,λ_ _ _=>rfl⟩

theorem Fr.trans {ρ ρ' ρ'':cn} {h h' h'':Heap} {w w' w'':World} (f:Fr ρ ρ' h h' w w') (g:Fr ρ' ρ'' h' h'' w' w''):Fr ρ ρ'' h h'' w w'':=by
 refine ⟨λA L hA=>g.grow A L (f.grow A L hA),?_,g.os.trans f.os,g.tape.trans f.tape,g.output.trans f.output,hY f.size g.size,hY f.gM g.gM,hY g.low f.low,?_,?_⟩
 .intro A L hA hn
  cases hρ:ρ' A with
  |some L1 =>
   have e:L1=L:=by have:=g.grow A L1 hρ;rw [hA] at this;exact (Option.some.inj this).symm
   subst e
   obtain ⟨h1,bx,h2⟩:=f.fresh A L1 hρ hn
   refine ⟨h1,dJ bx g.gM,?_⟩
   rcases h2 with h2|⟨A0,L0,h0,he,hl,Bf⟩
   .exact .inl h2
   .exact .inr ⟨A0,L0,h0,he,hY g.low hl,dJ Bf g.gM⟩
  |none =>
   obtain ⟨h1,bx,h2⟩:=g.fresh A L hA hρ
   refine ⟨hY f.gM h1,bx,?_⟩
   rcases h2 with h2|⟨A0,L0,h0,he,hl,Bf⟩
   .exact .inl (hY f.size h2)
   .cases Gg:ρ A0 with
    |some L1 =>
     have e:L1=L0:=by have:=f.grow A0 L1 Gg;rw [h0] at this;exact (Option.some.inj this).symm
     subst e
     exact .inr ⟨A0,L1,Gg,he,hl,Bf⟩
    |none =>
     rcases (f.fresh A0 L0 h0 Gg).2.2 with h3|⟨A1,L1,h3,he3,MH,XM⟩
     .exact .inl (by omega)
     .exact .inr ⟨A1,L1,h3,he3.trans he,hY g.low MH,dJ XM g.gM⟩
 .intro b hb aE
  have Ma:∀ A L,ρ A=some L->L.b=b->A < h'.low\/h'.size<=A:=λA L hA hL=>by
   have h1:=aE A L hA hL
   have h2:=g.low
   have h3:=g.gM
   omega
  rw [g.keep b (dJ hb f.size) ?_,f.keep b hb Ma]
  intro A L hA hL
  cases hρ:ρ A with
  |some L0 =>
   have e:L0=L:=by have:=f.grow A L0 hρ;rw [hA] at this;exact (Option.some.inj this).symm
   subst e
   exact aE A L0 hρ hL
  |none =>
   rcases (f.fresh A L hA hρ).2.2 with h1|⟨A0,L0,h0,he,hl,Bf⟩
   .omega
   .have h1:=aE A0 L0 h0 (he.trans hL)
    have h2:=g.low
    have h3:=g.gM
    omega
 .intro A hA hl
  rw [g.qG A (dJ hA f.gM) hl,f.qG A hA (dJ hl g.low)]

theorem fQ.left {ρ:cn} {h1 h2:Heap} (hf:fQ ρ h h2) (hle:h1.size<=h2.size):fQ ρ h h1:=λA h3 h4=>hf A h3 (dJ h4 hle)
theorem fQ.right {ρ ρ':cn} {h1 h2:Heap} {w':World} (hf:fQ ρ h h2) (fr:Fr ρ ρ' h h1 w w'):fQ ρ' h1 h2:=by
 intro A h3 h4
 cases hA:ρ' A with
 |none=>rfl
 |some L =>
  have hn:=hf A (hY fr.gM h3) h4
  have:=(fr.fresh A L hA hn).2.1
  omega

end Go.Am
namespace Go.Am
open Go.RowKit
variable {A n o:Nat} {l m:List ah} {W:World}

structure bO.Fits (T:bO) (P:Program):Prop where
 desc:∀ t d,T.desc t=some d->P.underlying t=some d
 info:∀ t n b z,T.info t=some (n,b,z)->∃ i zv,P.info? t=some i/\i.size=n/\i.bytes=b/\i.zero=some zv/\zv.cells.toList=z/\z.length=n/\z.all mz=true
 fn:∀ f fn,T.fn f=some fn->P.funcs[f]? = some fn/\(fn.name == "runtime.NumGoroutine")=false/\∀ c,fn.body=some c->r9 T.gs c=true
 cmp:∀ t,T.cmp t=true->P.stoodInHeld t=false/\P.eqGuardType P.depth t=false
 zero:∀ t v,T.zero t=some v->(∃ i,P.info? t=some i/\i.zero=some v)/\plain v=true
 yH:∀ t name m,T.yH t name=some m->∃ i,P.info? t=some i/\i.methods.find? (·.name == name)=some m

theorem uv (h:cut l o n=some m):o+n<=l.length/\m.length=n/\∀ i,i < n->m[i]? = l[o+i]? := by
 unfold cut at h
 split at h
 .rename_i hl
  cases h
  refine ⟨hl,by simp;omega,λi hi=>?_⟩
  rw [mc,aB hi,kL]
 .cases h
theorem se (hl:o+n<=l.length) (hm:m.length=n) (h:∀ i,i < n->m[i]? = l[o+i]?):cut l o n=some m:=by
 unfold cut
 rw [aB hl]
 congr 1
 refine sq λi=>?_
 rw [mc]
 split
 .rename_i hi;rw [kL,h i hi]
 .rw [Hu (by omega)]

theorem pd {vs:List ah} (h:o+vs.length<=l.length):(aF l o vs).length=l.length:=by
 simp [aF];omega
theorem bW (l vs:List ah) (o i:Nat) (h:o+vs.length<=l.length):(aF l o vs)[i]? = if i < o then l[i]? else if i < o+vs.length then vs[i - o]? else l[i]? := by
 unfold aF
 rw [zh,zh]
 have hl:(l.take o).length=o:=by simp;omega
 simp only [dI,hl]
 by_cases h1:i < o
 .rw [aB (by omega),aB h1,aB h1,mc,aB h1]
 .rw [aA h1]
  by_cases h2:i < o+vs.length
  .rw [aB h2,aA h1,aB h2]
  .rw [aA h2,aA h2,kL]
   rw [show o+vs.length+(i - (o+vs.length))=i by omega,aA h1]
theorem ztM {cur us:List ah} {s:Nat} (hc:cut cur s n=some m) (ho:o+us.length<=n):cut (aF cur (s+o) us) s n=some (aF m o us):=by
 obtain ⟨h1,h2,h3⟩:=uv hc
 refine se (by rw [pd (by omega)];exact h1) (by rw [pd (by omega)];exact h2) λi hi=>?_
 rw [bW _ _ _ _ (by omega),bW _ _ _ _ (by omega)]
 by_cases h4:i < o
 .rw [aB h4,aB (show s+i < s+o by omega),h3 i hi]
 .rw [aA h4,aA (show ¬ s+i < s+o by omega)]
  by_cases h5:i < o+us.length
  .rw [aB h5,aB (show s+i < s+o+us.length by omega)]
   congr 1
   omega
  .rw [aA h5,aA (show ¬ s+i < s+o+us.length by omega),h3 i hi]

section
variable {P:Program} {T:bO} {ρ:cn} {h h':Heap} {w:World}

theorem Sx (hs:bR ρ h w) {L:Loc} (hA:ρ A=some L) (hc:iQ A o n h=some l) :
 ∃ m,cx ρ l m/\m.length=n/\w.rangeAt L.b (L.s+o) m:=by
 have hb:=hs.j5 A L hA
 unfold iQ at hc
 cases hg:h.get A with
 |none=>rw [hg] at hc;cases hc
 |some b =>
  rw [hg] at hc hb
  cases b with
  |dead=>cases hc
  |map es clock=>cases hc
  |loop env ps assign body st gn=>cases hc
  |row cs e ro =>
   obtain ⟨h1,h2,h3⟩:=uv hc
   cases ro with
   |true =>
    obtain ⟨_,eY⟩:=hb
    have hex:∀ i,i < n->∃ u,w.cell? ⟨L.b,L.s+(o+i),none⟩=some u/\∀ x,l[i]? = some x->VR ρ x u:=by
     intro i hi
     have hx:cs[o+i]? = some (cs[o+i]'(by omega)):=ie _
     obtain ⟨u,hu,hv⟩:=eY (o+i) _ hx
     refine ⟨u,hu,λx hxx=>?_⟩
     rw [h3 i hi,hx] at hxx
     cases hxx
     exact hv
    refine ⟨(List.range n).map λi=>(w.cell? ⟨L.b,L.s+(o+i),none⟩).getD undef,⟨by simp [h2],λi x y hx hy=>?_⟩,by simp,λj v hv=>?_⟩
    .have hi:i < n:=by rw [<- h2];exact (dH.1 hx).1
     obtain ⟨u,hu,hv⟩:=hex i hi
     rw [lS,List.getElem?_range hi,j2,hu] at hy
     cases hy
     exact hv x hx
    .have hj:j < n:=by have:=(dH.1 hv).1;simpa using this
     obtain ⟨u,hu,_⟩:=hex j hj
     rw [lS,List.getElem?_range hj,j2,hu] at hv
     cases hv
     rw [qk]
     exact hu
   |false =>
    obtain ⟨cur,fz,jb,_,_,m,hm,hv⟩:=hb
    obtain ⟨d,hd,wD⟩:=hv.cut hc
    obtain ⟨k1,k2,k3⟩:=uv hm
    obtain ⟨d1,d2,d3⟩:=uv hd
    refine ⟨d,wD,d2,λj v hj=>?_⟩
    have XK:j < n:=by rw [<- d2];exact (dH.1 hj).1
    rw [cell_of_row w L.b _ cur e fz jb]
    rw [d3 j XK,k3 (o+j) (by rw [k2] at d1;omega)] at hj
    rw [<- Array.getElem?_toList,qk]
    exact hj

theorem zgf (hT:T.Fits P) (hs:bR ρ h w) {t:TypeId} {x y v:ah} (dm:VR ρ x y) (hl:ic T t x h=some v) :
 ∃ u,(Instr.loadAt t y).run P w=.ok u w/\VR ρ v u:=by
 cases dm with
 |ptr hA =>
  rename_i A o L
  simp only [ic] at hl
  cases hg:T.desc t with
  |none=>simp [cO,hg] at hl
  |some d =>
   have hu:=hT.desc t d hg
   have key:∀ (n:Nat) (l:List ah),T.info t≠none->iQ A o n h=some l->d.isRow=true->(T.info t).map (·.1)=some n->v=.agg l.toArray->∃ u,(Instr.loadAt t (.pointer (some ⟨L.b,L.s+o,none⟩))).run P w=.ok u w/\VR ρ v u:=by
    intro n l _ hc hd hi hv
    obtain ⟨m,hm,hlen,hr⟩:=Sx hs hA hc
    cases gU:T.info t with
    |none=>simp [gU] at hi
    |some q =>
     obtain ⟨q1,q2,q3⟩:=q
     obtain ⟨i,zv,e1,e2,_⟩:=hT.info t q1 q2 q3 gU
     simp [gU] at hi
     refine ⟨.agg m.toArray,run_loadAt_mid w L.b (L.s+o) t m d hr hu hd (by rw [e1];simp [e2,hi,hlen]),?_⟩
     rw [hv]
     exact hm.toArray
   have YV:∀ (l:List ah),iQ A o 1 h=some l->l[0]? = some v->d.isRow=false->∃ u,(Instr.loadAt t (.pointer (some ⟨L.b,L.s+o,none⟩))).run P w=.ok u w/\VR ρ v u:=by
    intro l hc h0 hd
    obtain ⟨m,hm,hlen,hr⟩:=Sx hs hA hc
    obtain ⟨u,Yr,F9⟩:=hm.get h0
    have eY:=hr 0 u Yr
    refine ⟨u,?_,F9⟩
    have pH:(isAgg t).run P w=.ok false w:=by
     unfold isAgg
     rw [Sem.run_bind,run_underlying hu w]
     cases d <;> simp_all
    simp only [i0] at eY
    simp [Instr.loadAt,Instr.sureAddr,loadVar,Sem.run_bind,pH,eY]
   have Mm:(∃ n l,T.info t≠none/\iQ A o n h=some l/\d.isRow=true/\(T.info t).map (·.1)=some n/\v=.agg l.toArray)\/(∃ l,iQ A o 1 h=some l/\l[0]? = some v/\d.isRow=false):=by
    have FY:∀ (hl:((di T t).bind λn=>(iQ A o n h).map λl=>Value.agg l.toArray)=some v) (hd:d.isRow=true),
     ∃ n l,T.info t≠none/\iQ A o n h=some l/\d.isRow=true/\(T.info t).map (·.1)=some n/\v=.agg l.toArray:=by
     intro hl hd
     simp only [di,cL,cD] at hl
     obtain ⟨n,⟨q,hq,rfl⟩,l,hc,rfl⟩:=hl
     exact ⟨q.1,l,by rw [hq];simp,hc,hd,by rw [hq];rfl,rfl⟩
    cases d <;> simp only [cO,hg,j2,dX,if_true,gB,if_false] at hl <;>
     first
      |(left;exact FY hl rfl)
      |(right;simp only [cL] at hl;obtain ⟨l,hc,h0⟩:=hl;exact ⟨l,hc,h0,rfl⟩)
   rcases Mm with ⟨n,l,a,b,c,d',e⟩|⟨l,a,b,c⟩
   .exact key n l a b c d' e
   .exact YV l a b c
 |_=>simp [ic] at hl

theorem PH (hs:bR ρ h w) {L:Loc} {b b':ba} (hA:ρ A=some L) (hg:h.get A=some b) (j7:b≠.dead) (uc:∀ cs e,b≠.row cs e true)
 (vo:W.os=w.os) (k7:W.tape=w.tape) (dN:W.output=w.output) (dF:W.heap.size=w.heap.size) (jv:∀ k,k≠L.b->W.heap[k]? = w.heap[k]?) (oP:qD ρ W L (some b')) :
 Fr ρ ρ h (h.set A b') w W/\bR ρ (h.set A b') W:=by
 have uS:A < h.size:=Heap.bE hg
 refine ⟨⟨λ_ _ h=>h,λA' L' h1 h2=>(by rw [h1] at h2;cases h2),vo,k7,dN,by rw [dF];exact bo _,bo _,w9 _ _,?_,?_⟩,⟨?_,?_⟩⟩
 .intro b hb aE
  refine jv b λe=>?_
  subst e
  have:=aE A L hA rfl
  rw [Heap.cd,Heap.size_set] at this
  omega
 .intro A' dO hl
  rw [Heap.cd] at hl
  rw [Heap.aJ _ _ _ _ uS,aA (by omega)]
 .intro A' L' dO
  rw [Heap.aJ _ _ _ _ uS]
  by_cases e':A'=A
  .subst e'
   rw [hA] at dO
   cases dO
   rw [aB rfl]
   exact oP
  .rw [aA e']
   refine (hs.j5 A' L' dO).keep (λ_ _ h=>h) (by omega) ?_
   rintro ⟨x,hx,hxd⟩
   refine jv L'.b λheq=>?_
   rcases hs.inj A' A L' L dO hA e' heq with h1|h1|h1
   .exact h1 ⟨x,hx,hxd⟩
   .exact h1 ⟨_,hg,j7⟩
   .obtain ⟨_,Ri,e2,rP⟩:=h1
    rw [hg] at rP
    cases rP
    exact uc _ _ rfl
 .intro A1 A2 L1 L2 h1 h2 aS hb
  have cU:∀ A',¬ live h A'->¬ live (h.set A b') A':=by
   intro A' hd
   by_cases e':A'=A
   .subst e';exact (hd ⟨_,hg,j7⟩).elim
   .unfold live at hd ⊢
    rw [Heap.aJ _ _ _ _ uS,aA e']
    exact hd
  have M0:∀ A',nh h A'->nh (h.set A b') A':=by
   rintro A' ⟨Ri,e2,rP⟩
   refine ⟨Ri,e2,?_⟩
   rw [Heap.aJ _ _ _ _ uS,aA (by intro e';subst e';rw [hg] at rP;cases rP;exact uc _ _ rfl)]
   exact rP
  rcases hs.inj A1 A2 L1 L2 h1 h2 aS hb with h3|h3|⟨h3,h4⟩
  .exact .inl (cU _ h3)
  .exact .inr (.inl (cU _ h3))
  .exact .inr (.inr ⟨M0 _ h3,M0 _ h4⟩)

theorem Sg (P:Program) (g o:Nat) (t:TypeId) (fz:Nat × Nat):∀ (vs:List ah) (i:Nat) (cur:Array ah) (w:World),w.heap[g]? = some (.cells cur t fz)->nU t cur.size fz->o+i+vs.length<=cur.size->(∀ v∈vs,v.oneCell'=true) ->
 (storeCells ⟨g,o,none⟩ vs i).run P w=.ok () (w.setRow g (cur.toList.take (o+i)++vs++cur.toList.drop (o+i+vs.length)).toArray)
 | [],i,cur,w,hg,_,_,_=>by
  simp only [storeCells,bG,dK,i0,pj,Array.toArray_toList]
  rw [setRow_self w g cur t fz hg]
  rfl
 |v::rest,i,cur,w,hg,Mz,hl,h1=>by
  have hi:o+i < cur.size:=by simp at hl;omega
  have W1:(⟨g,o,none⟩:Addr).add i=⟨g,o+i,none⟩:=by unfold Addr.add;split <;> simp_all
  have eY:w.cell? ⟨g,o+i,none⟩=some cur[o+i]:=by simp [World.cell?,hg,hi]
  have Xv:w.frozen? ⟨g,o+i,none⟩=false:=by
   have h0:=Mz.in' (o+i) hi
   obtain ⟨lo,m9⟩:=fz
   simp only [World.frozen?,hg,Tv,decide_eq_false_iff_not]
   simp only at h0
   omega
  have eG:(store ((⟨g,o,none⟩:Addr).add i) v).run P w=.ok () (w.setRow g (cur.setIfInBounds (o+i) v)):=by
   rw [W1,run_store P w _ v _ (h1 v (by simp)),eY]
   simp [Xv,setCell_eq_setRow w g (o+i) cur t fz v hg]
  have ih:=Sg P g o t fz rest (i+1) (cur.setIfInBounds (o+i) v) (w.setRow g (cur.setIfInBounds (o+i) v)) (setRow_heap w g cur _ t _ hg) (by simpa using Mz) (by simp at hl ⊢;omega) (λx hx=>h1 x (by simp [hx]))
  simp only [storeCells,Sem.run_bind,eG,Result.andThen_ok,ih,setRow_setRow]
  congr 3
  have e:=list_seg_step cur.toList (o+i) v rest (by simp at hl ⊢;omega)
  simpa [Array.toList_setIfInBounds,qk] using e

theorem PD (hs:bR ρ h w) {L:Loc} {vs us:List ah} (hA:ρ A=some L) (hv:cx ρ vs us) (hw:lY A o vs h=some h') :
 ∃ w',(storeCells ⟨L.b,L.s+o,none⟩ us 0).run P w=.ok () w'/\Fr ρ ρ h h' w w'/\bR ρ h' w':=by
 have hb:=hs.j5 A L hA
 unfold lY at hw
 split at hw
 .rename_i cs e hg
  split at hw
  .rename_i hc
   simp only [eo,jl] at hc
   obtain ⟨ho,h1⟩:=hc
   cases hw
   rw [hg] at hb
   obtain ⟨cur,fz,jb,pQ,pR,m,hm,Yy⟩:=hb
   obtain ⟨k1,k2,k3⟩:=uv hm
   have hlu:vs.length=us.length:=hv.1
   have eG:=Sg P L.b (L.s+o) e fz us 0 cur w jb pQ (by simp at k1 ⊢;omega) (hv.one h1)
   simp only [i0] at eG
   let lD:=(cur.toList.take (L.s+o)++us++cur.toList.drop (L.s+o+us.length)).toArray
   have qV:(w.setRow L.b lD).heap[L.b]? = some (.cells lD e fz):=setRow_heap w L.b cur lD e _ jb
   have dF:(w.setRow L.b lD).heap.size=w.heap.size:=by simp [World.setRow]
   have Yn:nU e lD.size fz:=by
    have:=pd (l:=cur.toList) (vs:=us) (o:=L.s+o) (by simp at k1 ⊢;omega)
    have h2:lD.size=cur.size:=by simpa [lD,aF] using this
    rw [h2]
    exact pQ
   refine ⟨w.setRow L.b lD,eG,PH hs hA hg (by simp) (by simp) rfl rfl rfl dF (λb hb=>setRow_other w L.b b lD hb) ⟨lD,fz,qV,Yn,?_,aF m o us,?_,Yy.aF o hv⟩⟩
   .show lD.size=L.vD
    rw [<- pR]
    have:=pd (l:=cur.toList) (vs:=us) (o:=L.s+o) (by simp at k1 ⊢;omega)
    simpa [lD,aF] using this
   .rw [pd ho]
    have:=ztM (us:=us) (o:=o) hm (by omega)
    simpa [lD,aF] using this
  .cases hw
 .cases hw

theorem Sz (hs:bR ρ h w) (gi:ρ h.size=none) {L:Loc} {b:ba} (hold:∀ k,k < w.heap.size->W.heap[k]? = w.heap[k]?) (dF:w.heap.size<=W.heap.size)
 (vo:W.os=w.os) (k7:W.tape=w.tape) (dN:W.output=w.output) (hL:w.heap.size<=L.b) (hb:∀ ρ',(∀ A L,ρ A=some L->ρ' A=some L)->qD ρ' W L (some b)) :
 ∃ ρ',ρ' h.size=some L/\Fr ρ ρ' h (h.push b) w W/\bR ρ' (h.push b) W:=by
 have eM:∀ A L',ρ A=some L'->(λA=>if A=h.size then some L else ρ A) A=some L':=by
  intro A L' hA
  have aS:A≠h.size:=λe=>by rw [e,gi] at hA;cases hA
  simp only [aA aS]
  exact hA
 refine ⟨λA=>if A=h.size then some L else ρ A,by simp,⟨eM,?_,vo,k7,dN,dF,by rw [Heap.size_push];omega,bo _,λb hb _=>hold b hb,?_⟩,⟨?_,?_⟩⟩
 .intro A L' hA hn
  split at hA
  .rename_i e1;cases hA;exact ⟨by omega,by rw [Heap.size_push];omega,.inl hL⟩
  .rw [hn] at hA;cases hA
 .intro A hA _
  rw [Heap.bC,aA (by omega)]
 .intro A L' hA
  rw [Heap.bC]
  split at hA
  .rename_i e1
   cases hA
   rw [aB e1]
   exact hb _ eM
  .rename_i e1
   rw [aA e1]
   exact (hs.j5 A L' hA).keep eM dF λ_=>hold _ (hs.lt hA)
 .intro A1 A2 L1 L2 h1 h2 aS jG
  have eT:∀ A,A≠h.size->(h.push b).get A=h.get A:=λA hA=>by rw [Heap.bC,aA hA]
  split at h1
  .split at h2
   .omega
   .rename_i e1 e2
    cases h1
    have:=hs.lt h2
    omega
  .split at h2
   .rename_i e1 e2
    cases h2
    have:=hs.lt h1
    omega
   .rename_i e1 e2
    unfold live nh
    rw [eT A1 e1,eT A2 e2]
    exact hs.inj A1 A2 L1 L2 h1 h2 aS jG

theorem zki (hs:bR ρ h w) (gi:ρ h.size=none) {cs:List ah} {cur:Array ah} {e:TypeId} {fz:Nat × Nat} (pQ:nU e cur.size fz) (hW:W.heap=w.heap.push (.cells cur e fz))
 (vo:W.os=w.os) (k7:W.tape=w.tape) (dN:W.output=w.output) (km:cut cur.toList 0 cs.length=some m) (hv:cx ρ cs m) :
 ∃ ρ',ρ' h.size=some ⟨w.heap.size,0,cur.size⟩/\Fr ρ ρ' h (h.push (.row cs e false)) w W/\bR ρ' (h.push (.row cs e false)) W:=by
 refine Sz hs gi (λk hk=>by rw [hW,w7,aA (by omega)]) (by rw [hW];simp) vo k7 dN (bo _) λρ' hg=>?_
 exact ⟨cur,fz,by rw [hW];simp,pQ,rfl,m,km,hv.mono hg⟩
theorem IK (hs:bR ρ h w) (gi:ρ h.size=none) {cs:List ah} {cur:Array ah} {e:TypeId} (hW:W.heap=w.heap.push (.cells cur e (0,0)))
 (vo:W.os=w.os) (k7:W.tape=w.tape) (dN:W.output=w.output) (km:cut cur.toList 0 cs.length=some m) (hv:cx ρ cs m) :
 ∃ ρ',ρ' h.size=some ⟨w.heap.size,0,cur.size⟩/\Fr ρ ρ' h (h.push (.row cs e false)) w W/\bR ρ' (h.push (.row cs e false)) W :=
 zki hs gi (.zero _ _) hW vo k7 dN km hv

theorem bR.same (hs:bR ρ h w) (hW:W.heap=w.heap):bR ρ h W :=
 ⟨λA L hA=>(hs.j5 A L hA).keep (λ_ _ h=>h) (by rw [hW];exact bo _) (λ_=>by rw [hW]),hs.inj⟩
end
end Go.Am
namespace Go.Am
open Go.RowKit
variable {m news:List ah} {c k n o q:Nat} {y:ah} {e t ty u:TypeId}

theorem ZY (z:Array ah) (n:Nat):((Array.range (n*z.size)).map λi=>z[i % z.size]!).toList=oH z.toList n:=by
 induction n with
 |zero=>simp [oH]
 |succ n ih =>
  have hr:Array.range ((n+1)*z.size)=Array.range (n*z.size)++(Array.range z.size).map (n*z.size+·):=by
   apply Array.ext'
   simp only [Array.toList_range,JA,Array.toList_map,tH,Nat.one_mul,List.range_add]
  rw [hr,Array.map_append,JA,ih]
  simp only [oH,List.replicate_succ',List.flatten_append,List.flatten_singleton]
  congr 1
  apply sq
  intro i
  by_cases hi:i < z.size
  .simp [hi,HC hi]
  .simp [hi]

theorem zmZ (z:List ah) (n:Nat):(oH z n).length=n*z.length:=by simp [oH]

theorem zfx {z:List ah} (h:z.all mz=true) (n:Nat):(oH z n).all mz=true:=by
 simp only [oH,jh,List.mem_flatten,List.mem_replicate] at *
 rintro x ⟨l,⟨_,rfl⟩,hx⟩
 exact h x hx


section
variable {P:Program} {T:bO} {ρ:cn} {h h':Heap} {w:World}

theorem zh7 {b:Nat} (h:w.rangeAt b o m):w.rangeAt b o (m.take q):=by
 intro j v hv
 rw [mc] at hv
 split at hv
 .exact h j v hv
 .cases hv

theorem Sh {b:Nat} (h:w.rangeAt b o m) (hl:m.length=q*k):(Builtin.firstCells k q (.slice (some ⟨b,o,none⟩) n c)).run P w=.ok m.toArray w :=
 run_firstCells_some w k q ⟨b,o,none⟩ n c m hl (λj v hv=>by rw [Addr.add_mid];exact h j v hv)

theorem Z9 (hs:bR ρ h w) {a:Option Addr} {l:List ah} (dm:VR ρ (.slice a n c) y) (hc:ma (.slice a n c) k h=some l) :
 ∃ a' c' m,y=.slice a' n c'/\cx ρ l m/\m.length=n*k/\∀ W:World,W.heap=w.heap->∀ q,q<=n->(Builtin.firstCells k q y).run P W=.ok (m.take (q*k)).toArray W:=by
 have hzero:∀ (q:Nat) (ad:Addr) (c':Nat) (W:World),q*k=0->(Builtin.firstCells k q (.slice (some ad) n c')).run P W=.ok #[] W:=by
  intro q ad c' W hq
  simp [Builtin.firstCells,hq,loadCells,loadCellsFrom]
 have xI:∀ {A o:Nat} {L:Loc} {ad:Addr} {c':Nat},ρ A=some L->(n≠0->ad=⟨L.b,L.s+o,none⟩)->ma (.slice (some ⟨A,o,none⟩) n c) k h=some l ->
  ∃ m,cx ρ l m/\m.length=n*k/\∀ W:World,W.heap=w.heap->∀ q,q<=n->(Builtin.firstCells k q (.slice (some ad) n c')).run P W=.ok (m.take (q*k)).toArray W:=by
  intro A o L ad c' hA ft hc
  simp only [ma] at hc
  split at hc
  .rename_i h0
   cases hc
   refine ⟨[],.nil ρ,by simp [h0],λW _ q hq=>?_⟩
   have h1:q*k=0:=by
    rcases Nat.mul_eq_zero.1 h0 with e|e
    .have:q=0:=by omega
     simp [this]
    .simp [e]
   rw [hzero q ad c' W h1]
   simp
  .rename_i h0
   have hn:n≠0:=λe=>h0 (by simp [e])
   obtain ⟨m,hm,hlen,hr⟩:=Sx hs hA hc
   refine ⟨m,hm,hlen,λW hW q hq=>?_⟩
   rw [ft hn]
   have bT:W.rangeAt L.b (L.s+o) m:=λj v hv=>(World.cell?_of_block (by rw [hW])).trans (hr j v hv)
   refine Sh (zh7 bT) ?_
   rw [fw,hlen]
   exact Nat.min_eq_left (qj _ hq)
 cases dm with
 |dD =>
  simp only [ma] at hc
  cases hc
  refine ⟨none,0,[],rfl,.nil ρ,by simp,λW _ q hq=>?_⟩
  have:q=0:=by omega
  subst this
  simp [Builtin.firstCells]
 |slice hA xH hn ft =>
  obtain ⟨m,h1,h2,h3⟩:=xI hA (λh0=>ft (by omega)) hc
  exact ⟨_,_,m,rfl,h1,h2,h3⟩
 |cA hA xH dj hn hk hm ft =>
  obtain ⟨m,h1,h2,h3⟩:=xI hA (λh0=>(ft (by omega)).1) hc
  exact ⟨_,_,m,rfl,h1,h2,h3⟩

theorem zl1 (hs:bR ρ h w) {x:ah} {m:Nat} {l:List ah} (dm:VR ρ x y) (hc:fN x k h=some (m,l)) :
 ∃ n,cx ρ l n/\n.length=m*k/\Builtin.lenOf y=pure m/\∀ W:World,W.heap=w.heap->∀ q,q<=m->(Builtin.firstCells k q y).run P W=.ok (n.take (q*k)).toArray W:=by
 cases x with
 |string b =>
  cases dm
  simp only [fN] at hc
  split at hc
  .rename_i hk
   subst hk
   cases hc
   refine ⟨_,cx.plain ρ (by rw [jh];intro x hx;rw [nD] at hx;obtain ⟨u,_,rfl⟩:=hx;rfl),by simp,rfl,λW _ q hq=>?_⟩
   simp only [Builtin.firstCells,Sem.run_pure,Nat.mul_one]
   congr 1
   apply Array.ext'
   have hd:(b.extract 0 q).data=b.data.extract 0 q:=by
    exact ByteArray.data_extract
   rw [hd]
   simp
  .cases hc
 |slice a n c =>
  simp only [fN,cD,da] at hc
  obtain ⟨l',hc,rfl,rfl⟩:=hc
  obtain ⟨a',c',m,rfl,h1,h2,h3⟩:=Z9 (P:=P) hs dm hc
  exact ⟨m,h1,h2,rfl,h3⟩
 |_=>simp [fN] at hc

def QV (P:Program) (u:TypeId):Prop:=(∃ e',P.underlying u=some (.slice e'))\/P.underlying u=some .string

theorem Z1 {i:TypeInfo} (ht:P.underlying t=some (.slice e)) (hu:QV P u) (hi:P.info? e=some i)
 {a:Addr} {m:Nat} (hlen:Builtin.lenOf y=pure m) (hf:(Builtin.firstCells i.size m y).run P w=.ok news.toArray w) (iT:n+m<=c) {w':World}
 (eG:(storeCells (a.add (n*i.size)) news 0).run P w=.ok () w') :
 (Builtin.append_ #[t,u] ty #[.slice (some a) n c,y]).run P w=.ok (.slice (some a) (n+m) c) w':=by
 rcases hu with ⟨e',hd⟩|hd
 .simp [Builtin.append_,run_underlying ht,run_underlying hd,sizeOf,typeInfo,hi,hlen,iT,hf,eG]
 .simp [Builtin.append_,run_underlying ht,run_underlying hd,sizeOf,typeInfo,hi,hlen,iT,hf,eG]

theorem zkr {i:TypeInfo} (ht:P.underlying t=some (.slice e)) (hu:QV P u) (hi:P.info? e=some i)
 {a:Option Addr} (hlen:Builtin.lenOf y=pure 0) (hf:(Builtin.firstCells i.size 0 y).run P w=.ok #[] w) (iT:n<=c) :
 (Builtin.append_ #[t,u] ty #[.slice a n c,y]).run P w=.ok (.slice a n c) w:=by
 rcases hu with ⟨e',hd⟩|hd <;> cases a <;> simp [Builtin.append_,run_underlying ht,run_underlying hd,sizeOf,typeInfo,hi,hlen,iT,hf,storeCells]

theorem zio {i:TypeInfo} {z:ah} (ht:P.underlying t=some (.slice e)) (hu:QV P u) (hi:P.info? e=some i) (hz:i.zero=some z)
 {base:Option Addr} {m:Nat} {ND:List ah} (hlen:Builtin.lenOf y=pure m) (hf:(Builtin.firstCells i.size m y).run P w.drew=.ok news.toArray w.drew)
 (ho:(Builtin.firstCells i.size n (.slice base n c)).run P w.drew=.ok ND.toArray w.drew)
 (hg:c < n+m) (h63:n+m<=1152921504606846976) (ko:(n+m)*i.bytes<=140737488355328) :
 (Builtin.append_ #[t,u] ty #[.slice base n c,y]).run P w =
  .ok (.slice (some ⟨w.heap.size,0,none⟩) (n+m) (grownCap w (n+m) c e)) (w.drew.alloc (.cells ((ND++news)++(Builtin.zeroCells z.cells (grownCap w (n+m) c e - (n+m))).toList).toArray e)):=by
 have hn:¬ (n+m<=c):=by omega
 have LM:¬ (9223372036854775807 < ((n:Int)+(m:Int))):=by omega
 have aey:=growslice_fits hg ko
 have LL:¬ (281474976710656 < Builtin.nextslicecap (n+m) c*i.bytes):=by omega
 rcases hu with ⟨e',hd⟩|hd
 .simp [Builtin.append_,run_underlying ht,run_underlying hd,sizeOf,typeInfo,zeroValue,hi,hz,hlen,hn,LM,LL,Question.forced,hf,ho,Go.newRow,grownCap]
  congr 2
  apply Array.ext'
  simp
 .simp [Builtin.append_,run_underlying ht,run_underlying hd,sizeOf,typeInfo,zeroValue,hi,hz,hlen,hn,LM,LL,Question.forced,hf,ho,Go.newRow,grownCap]
  congr 2
  apply Array.ext'
  simp

theorem zlx (hs:bR ρ h w) {A:Nat} {cs:List ah} (hg:h.get A=some (.row cs e false)) :
 Fr ρ ρ h (h.set A .dead) w w/\bR ρ (h.set A .dead) w:=by
 have uS:A < h.size:=Heap.bE hg
 refine ⟨⟨λ_ _ h=>h,λA' L' h1 h2=>(by rw [h1] at h2;cases h2),rfl,rfl,rfl,bo _,bo _,w9 _ _,λ_ _ _=>rfl,?_⟩,⟨?_,?_⟩⟩
 .intro A' dO hl
  rw [Heap.cd] at hl
  rw [Heap.aJ _ _ _ _ uS,aA (by omega)]
 .intro A' L' dO
  rw [Heap.aJ _ _ _ _ uS]
  by_cases e':A'=A
  .subst e'
   rw [aB rfl]
   exact hs.lt dO
  .rw [aA e']
   exact hs.j5 A' L' dO
 .intro A1 A2 L1 L2 h1 h2 aS hb
  unfold live nh
  rw [Heap.aJ _ _ _ _ uS,Heap.aJ _ _ _ _ uS]
  by_cases e1:A1=A
  .left;simp [e1]
  .by_cases e2:A2=A
   .right;left;simp [e2]
   .rw [aA e1,aA e2]
    exact hs.inj A1 A2 L1 L2 h1 h2 aS hb

theorem ztL {cur us:List ah} {s:Nat} (hc:cut cur s n=some m) (hl:s+n+us.length<=cur.length) :
 cut (aF cur (s+n) us) s (n+us.length)=some (m++us):=by
 obtain ⟨h1,h2,h3⟩:=uv hc
 refine se (by rw [pd hl];omega) (by simp [h2]) λi hi=>?_
 rw [bW _ _ _ _ hl,zh,h2]
 by_cases m9:i < n
 .rw [aB m9,aB (by omega),h3 i m9]
 .rw [aA m9,aA (by omega),aB (by omega)]
  congr 1
  omega

theorem zrz (hs:bR ρ h w) (gi:ρ h.size=none) {A:Nat} {L:Loc} {cs eD us:List ah} {cur:Array ah} {fz:Nat × Nat} (hA:ρ A=some L) (hg:h.get A=some (.row cs e false))
 (jb:w.heap[L.b]? = some (.cells cur e fz)) (pQ:nU e cur.size fz) (pR:cur.size=L.vD) (hm:cut cur.toList (L.s+o) eD.length=some m) (hv:cx ρ eD m) (hn:cx ρ news us)
 (ko:L.s+o+eD.length+us.length<=L.vD) :
 ∃ ρ',ρ' h.size=some ⟨L.b,L.s+o,L.vD⟩/\Fr ρ ρ' h ((h.set A .dead).push (.row (eD++news) e false)) w (w.setRow L.b (aF cur.toList (L.s+o+eD.length) us).toArray) /\
   bR ρ' ((h.set A .dead).push (.row (eD++news) e false)) (w.setRow L.b (aF cur.toList (L.s+o+eD.length) us).toArray):=by
 have uS:A < h.size:=Heap.bE hg
 have eM:∀ A L',ρ A=some L'->(λA=>if A=h.size then some (⟨L.b,L.s+o,L.vD⟩:Loc) else ρ A) A=some L':=by
  intro A L' hA
  have aS:A≠h.size:=λe=>by rw [e,gi] at hA;cases hA
  simp only [aA aS]
  exact hA
 have qV:=setRow_heap w L.b cur (aF cur.toList (L.s+o+eD.length) us).toArray e _ jb
 have jv:∀ b,b≠L.b->(w.setRow L.b (aF cur.toList (L.s+o+eD.length) us).toArray).heap[b]? = w.heap[b]? := λb hb=>setRow_other w L.b b _ hb
 have dF:(w.setRow L.b (aF cur.toList (L.s+o+eD.length) us).toArray).heap.size=w.heap.size:=by simp [World.setRow]
 have eT:∀ j,((h.set A .dead).push (.row (eD++news) e false)).get j=if j=h.size then some (.row (eD++news) e false) else if j=A then some .dead else h.get j:=by
  intro j
  rw [Heap.bC,Heap.size_set,Heap.aJ _ _ _ _ uS]
 have aS:∀ A' L',ρ A'=some L'->A'≠A->live h A'->L'.b≠L.b:=by
  intro A' L' dO e' j7 heq
  rcases hs.inj A' A L' L dO hA e' heq with h1|h1|h1
  .exact h1 j7
  .exact h1 ⟨_,hg,by simp⟩
  .obtain ⟨_,Ri,e2,rP⟩:=h1
   rw [hg] at rP
   cases rP
 refine ⟨λA=>if A=h.size then some ⟨L.b,L.s+o,L.vD⟩ else ρ A,by simp,⟨eM,?_,rfl,rfl,rfl,by rw [dF];exact bo _,?_,w9 _ _,?_,?_⟩,⟨?_,?_⟩⟩
 .intro A' L' dO X1
  split at dO
  .rename_i e1
   cases dO
   refine ⟨by omega,by rw [Heap.size_push,Heap.size_set];omega,.inr ⟨A,L,hA,rfl,?_,by rw [Heap.size_push,Heap.size_set];omega⟩⟩
   rw [Heap.dB,Heap.cd]
   omega
  .rw [X1] at dO;cases dO
 .rw [Heap.size_push,Heap.size_set];omega
 .intro b hb aE
  refine jv b λe'=>?_
  subst e'
  have:=aE A L hA rfl
  rw [Heap.dB,Heap.cd,Heap.size_push,Heap.size_set] at this
  omega
 .intro A' dO hl
  rw [Heap.dB,Heap.cd] at hl
  rw [eT,aA (by omega),aA (by omega)]
 .intro A' L' dO
  rw [eT]
  split at dO
  .rename_i e1
   cases dO
   rw [aB e1]
   refine ⟨_,fz,qV,?_,?_,m++us,?_,(hv.append hn).mono eM⟩
   .rw [JH,pd (by simp;omega)]
    simpa using pQ
   .show (aF cur.toList (L.s+o+eD.length) us).toArray.size=L.vD
    rw [JH,pd (by simp;omega)]
    simpa using pR
   .show cut (aF cur.toList (L.s+o+eD.length) us) (L.s+o) (eD++news).length=some (m++us)
    rw [dI,hn.1]
    exact ztL hm (by simp;omega)
  .rename_i e1
   rw [aA e1]
   by_cases e2:A'=A
   .rw [aB e2]
    show L'.b < _
    rw [dF]
    exact hs.lt dO
   .rw [aA e2]
    exact (hs.j5 A' L' dO).keep eM (by rw [dF];exact bo _) λhl=>jv L'.b (aS A' L' dO e2 hl)
 .intro A1 A2 L1 L2 h1 h2 yg hb
  unfold live nh
  rw [eT,eT]
  have bt:∀ A' L',A'≠h.size->ρ A'=some L'->L.b=L'.b->¬ ∃ b,(if A'=A then some ba.dead else h.get A')=some b/\b≠.dead:=by
   intro A' L' hh dO jG
   by_cases e2:A'=A
   .simp [e2]
   .rw [aA e2]
    exact λj7=>aS A' L' dO e2 j7 jG.symm
  split at h1
  .rename_i e1
   split at h2
   .omega
   .rename_i e2
    cases h1
    right;left
    rw [aA e2]
    exact bt A2 L2 e2 h2 hb
  .rename_i e1
   split at h2
   .rename_i e2
    cases h2
    left
    rw [aA e1]
    exact bt A1 L1 e1 h1 hb.symm
   .rename_i e2
    rw [aA e1,aA e2]
    by_cases f1:A1=A
    .left;simp [f1]
    .by_cases f2:A2=A
     .right;left;simp [f2]
     .rw [aA f1,aA f2]
      exact hs.inj A1 A2 L1 L2 h1 h2 yg hb

theorem B1 (hk:0 < k) (hG:q < G):G<=G*k+q/\(G*k+q) % G=q/\(G*k+q) / G=k:=by
 refine ⟨?_,?_,?_⟩
 .calc G=G*1:=(Nat.mul_one _).symm
   _<=G*k:=Nat.mul_le_mul_left _ hk
   _<=G*k+q:=Nat.le_add_right _ _
 .rw [Nat.mul_add_mod,HC hG]
 .rw [Nat.mul_add_div (by unfold G;omega),Nat.div_eq_of_lt hG,i0]

theorem zgt (hT:T.Fits P) (hs:bR ρ h w) (cp:fQ ρ h h') {s s' x x' v:ah} (hu:QV P u) (zK:VR ρ s s') (hx:VR ρ x x') (ha:iy T t s x h=some (v,h')) :
 ∃ ρ' vc w',(Builtin.append_ #[t,u] ty #[s',x']).run P w=.ok vc w'/\Fr ρ ρ' h h' w w'/\bR ρ' h' w'/\VR ρ' v vc:=by
 unfold iy at ha
 split at ha
 .rename_i e hd
  have ht:=hT.desc _ _ hd
  simp only [cL,Prod.exists] at ha
  obtain ⟨k,bytes,z,gU,m,news,jd,ha⟩:=ha
  obtain ⟨i,zv,hi,rfl,rfl,hz,rfl,yz,uj⟩:=hT.info e k bytes z gU
  obtain ⟨us,ku,Nb,hlen,eC⟩:=zl1 (P:=P) hs hx jd
  have My:us.take (m*i.size)=us:=gA (by omega)
  have hf:∀ W:World,W.heap=w.heap->(Builtin.firstCells i.size m x').run P W=.ok us.toArray W:=λW hW=>by
   have:=eC W hW m (bo _)
   rwa [My] at this
  split at ha
  .rename_i base n c
   split at ha
   .rename_i hm
    subst hm
    cases ha
    have h0:=eC w rfl 0 (bo _)
    simp only [Nat.zero_mul,Cg] at h0
    have key:∃ a' c',s'=.slice a' n c'/\n<=c':=by
     cases zK with
     |dD=>exact ⟨_,_,rfl,bo _⟩
     |slice hA hc hn ft=>exact ⟨_,_,rfl,hn⟩
     |cA hA hc dj hn hk hm ft=>exact ⟨_,_,rfl,by omega⟩
    obtain ⟨a',c',rfl,hn⟩:=key
    exact ⟨ρ,_,w,zkr ht hu hi hlen h0 hn,Fr.refl _ _ _,hs,zK⟩
   .rename_i hm
    split at ha
    .cases ha
    .rename_i Mi
     simp only [su,jl,DT,not_or,Bool.not_eq_false] at Mi
     obtain ⟨⟨⟨wx,uX⟩,h60⟩,bt⟩:=Mi
     have xW:0 < i.size:=by omega
     split at ha
     .rename_i iT
      split at ha
      .rename_i A o
       split at ha
       .rename_i nG
        simp only [cD,da] at ha
        obtain ⟨h1,Is,rfl,rfl⟩:=ha
        cases zK with
        |slice hA hc hn ft =>
         rename_i L ad
         obtain rfl:=ft (by have:=HC hc;omega)
         obtain ⟨w',eG,cQ,dR⟩:=PD (P:=P) hs hA ku Is
         have Fh:c % G=c:=HC hc
         rw [<- qk] at eG
         exact ⟨ρ,_,w',Z1 ht hu hi hlen (hf w rfl) (by omega) (by rw [Addr.add_mid];exact eG),cQ,dR,.slice hA hc (by omega) (λ_=>rfl)⟩
        |cA hA hc dj hn hk CO ft =>
         rename_i c' L ad
         obtain ⟨w',eG,cQ,dR⟩:=PD (P:=P) hs hA ku Is
         have pJ:c'≠0:=by omega
         obtain ⟨rfl,ko⟩:=ft pJ
         rw [<- qk] at eG
         exact ⟨ρ,_,w',Z1 ht hu hi hlen (hf w rfl) (by omega) (by rw [Addr.add_mid];exact eG),cQ,dR,.cA hA hc dj (by omega) hk CO (λ_=>⟨rfl,ko⟩)⟩
       .cases ha
      .cases ha
     .rename_i iT
      simp only [cL] at ha
      obtain ⟨eD,hold,ha⟩:=ha
      obtain ⟨a',c',mo,rfl,Yz,MQ,hfo⟩:=Z9 (P:=P) hs zK hold
      have Ft:mo.take (n*i.size)=mo:=gA (by omega)
      have Xu:∀ W:World,W.heap=w.heap->(Builtin.firstCells i.size n (.slice a' n c')).run P W=.ok mo.toArray W:=λW hW=>by
       have:=hfo W hW n (bo _)
       rwa [Ft] at this
      have jT:=B1 (q:=n+m) xW (by unfold G;omega)
      have grown:∀ (h2:Heap),bR ρ h2 w->ρ h2.size=none->c' < n+m->∃ ρ' vc w',(Builtin.append_ #[t,u] ty #[.slice a' n c',x']).run P w=.ok vc w'/\Fr ρ ρ' h2 (h2.push (.row (eD++news) e false)) w w'/\bR ρ' (h2.push (.row (eD++news) e false)) w' /\
       VR ρ' (.slice (some ⟨h2.size,0,none⟩) (n+m) (G*i.size+(n+m))) vc:=by
       intro h2 gG RR aW
       have hr:=zio (w:=w) (ty:=ty) ht hu hi hz hlen (hf w.drew rfl) (Xu w.drew rfl) aW (by omega) (by omega)
       have kW:=grownCap_ge w (n+m) c' e
       have hle:=grownCap_le_maxLen w (n+m) c' e (by unfold maxLen;omega)
       have yA:zv.cells.size=i.size:=by rw [<- rD,yz]
       have MK:((mo++us)++(Builtin.zeroCells zv.cells (grownCap w (n+m) c' e - (n+m))).toList).length=grownCap w (n+m) c' e*i.size:=by
        simp only [dI,MQ,Nb,rD,size_zeroCells,yA,<- tH]
        congr 1
        omega
       have XS:(eD++news).length=(mo++us).length:=by simp [Yz.1,ku.1]
       obtain ⟨ρ',hρ,cQ,dR⟩:=IK (W:=w.drew.alloc (.cells ((mo++us)++(Builtin.zeroCells zv.cells (grownCap w (n+m) c' e - (n+m))).toList).toArray e)) (cs:=eD++news) (m:=mo++us) gG RR rfl rfl rfl rfl
        (by rw [XS]
            refine se (by simp) rfl λj hj=>?_
            rw [j3]
            exact (nz (l₂:=(Builtin.zeroCells zv.cells (grownCap w (n+m) c' e - (n+m))).toList) hj).symm)
        (Yz.append ku)
       refine ⟨ρ',_,_,hr,cQ,dR,?_⟩
       refine .cA hρ jT.1 (by rw [jT.2.1];exact kW) (by rw [jT.2.1];exact bo _) (by rw [jT.2.2];exact xW) hle (λ_=>⟨by simp,?_⟩)
       rw [jT.2.2]
       simp only [JH,MK]
       omega
      split at ha
      .rename_i hc
       cases ha
       have Fh:c % G=c:=HC hc
       have amL:c'=c:=by
        cases zK with
        |dD=>rfl
        |slice hA hc hn ft=>rfl
        |cA hA xH dj hn hk hm ft=>omega
       exact grown h hs (cp _ (bo _) (by rw [Heap.size_push];omega)) (by omega)
      .rename_i hc
       split at ha
       .rename_i A o
        split at ha
        .rename_i cs e' hg
         split at ha
         .rename_i dQ
          simp only [eo,jl] at dQ
          obtain ⟨rfl,nG⟩:=dQ
          cases ha
          cases zK with
          |slice hA xH hn ft=>omega
          |cA hA xH dj hn hk CO ft =>
           rename_i L ad
           by_cases aP:n+m<=c'
           .have pJ:c'≠0:=by omega
            obtain ⟨rfl,ko⟩:=ft pJ
            have hb:=hs.j5 A L hA
            rw [hg] at hb
            obtain ⟨cur,fz,jb,pQ,pR,m0,vj,F9⟩:=hb
            obtain ⟨k1,k2,k3⟩:=uv vj
            rw [nG] at ko
            have hmul:(n+m)*i.size<=c'*i.size:=qj _ aP
            rw [tH] at hmul
            have CQ:eD.length=n*i.size:=by rw [Yz.1];exact MQ
            have tV:∃ mm,cut cur.toList (L.s+o) eD.length=some mm/\cx ρ eD mm:=by
             simp only [ma] at hold
             split at hold
             .cases hold
              exact ⟨[],se (by simp;omega) rfl (by intro i hi;simp at hi),.nil ρ⟩
             .simp only [iQ,hg] at hold
              obtain ⟨d,jS,wD⟩:=F9.cut hold
              obtain ⟨d1,d2,d3⟩:=uv jS
              refine ⟨d,se (by simp at k1 ⊢;omega) (by rw [CQ];exact d2) (λj hj=>?_),wD⟩
              rw [d3 j (by omega),k3 (o+j) (by omega),qk]
            obtain ⟨mm,X0,Yy⟩:=tV
            obtain ⟨ρ',hρ,cQ,dR⟩:=zrz hs (cp _ (bo _) (by rw [Heap.size_push,Heap.size_set];omega)) hA hg jb pQ pR X0 Yy ku (by omega)
            have eG:=Sg P L.b (L.s+o+eD.length) e' fz us 0 cur w jb pQ (by simp;omega) (ku.one bt)
            simp only [i0] at eG
            refine ⟨ρ',_,_,Z1 ht hu hi hlen (hf w rfl) aP (by rw [Addr.add_mid,<- CQ];exact eG),cQ,dR,?_⟩
            refine .cA hρ jT.1 (by rw [jT.2.1];exact aP) (by rw [jT.2.1];exact bo _) (by rw [jT.2.2];exact xW) CO (λ_=>⟨rfl,?_⟩)
            rw [jT.2.2]
            exact ko
           .obtain ⟨EN,GC⟩:=zlx hs hg
            obtain ⟨ρ',vc,w',hr,Ro,Zo,mK⟩:=grown _ GC (cp _ (bo _) (by rw [Heap.size_push,Heap.size_set];omega)) (by omega)
            exact ⟨ρ',vc,w',hr,EN.trans Ro,Zo,mK⟩
         .cases ha
        .cases ha
       .cases ha
  .cases ha
 .cases ha

end
end Go.Am
namespace Go.Am
open Go.RowKit
variable {t:TypeId} {v:ah}

theorem Px {Z:Type} (P:Program):∀ (c:Sem Z) (a:Z),jf P c=some a->∀ w,c.run P w=.ok a w
 | .pure b,a,h,w=>by simp only [jf] at h;cases h;rfl
 | .program k,a,h,w=>by simp only [jf] at h;exact Px P (k P) a h w
 | .mark m k,a,h,w=>by simp only [jf] at h;exact Px P k a h w
 | .load ..,_,h,_=>by simp [jf] at h
 | .store ..,_,h,_=>by simp [jf] at h
 | .new ..,_,h,_=>by simp [jf] at h
 | .shape ..,_,h,_=>by simp [jf] at h
 | .freeze ..,_,h,_=>by simp [jf] at h
 | .frozen ..,_,h,_=>by simp [jf] at h
 | .getObj ..,_,h,_=>by simp [jf] at h
 | .setObj ..,_,h,_=>by simp [jf] at h
 | .choose ..,_,h,_=>by simp [jf] at h
 | .sys ..,_,h,_=>by simp [jf] at h
 | .halt ..,_,h,_=>by simp [jf] at h

section
variable {P:Program} {T:bO} {ρ:cn} {h h':Heap} {w:World}

theorem zrt (hT:T.Fits P) {n:Nat} (hn:di T t=some n):∃ i,P.info? t=some i/\i.size=n:=by
 simp only [di,cD,Prod.exists] at hn
 obtain ⟨a,b,c,hi,rfl⟩:=hn
 obtain ⟨i,zv,h1,h2,_⟩:=hT.info t a b c hi
 exact ⟨i,h1,h2⟩

theorem vK (hT:T.Fits P) {n:Nat} (hn:di T t=some n) (w:World):(sizeOf t).run P w=.ok n w:=by
 obtain ⟨i,hi,rfl⟩:=zrt hT hn
 simp [sizeOf,typeInfo,hi]

theorem zqE (hT:T.Fits P) (hs:bR ρ h w) {u ty:TypeId} {d d' s s':ah} (hd:VR ρ d d') (zK:VR ρ s s') (hc:QQ T t d s h=some (v,h')) :
 ∃ vc w',(Builtin.copy_ #[t,u] ty #[d',s']).run P w=.ok vc w'/\Fr ρ ρ h h' w w'/\bR ρ h' w'/\VR ρ v vc:=by
 unfold QQ at hc
 split at hc
 .rename_i e a n c zE
  have ht:=hT.desc _ _ zE
  simp only [cL,Prod.exists] at hc
  obtain ⟨k,hk,m,src,jd,hc⟩:=hc
  obtain ⟨us,ku,Nb,hlen,eC⟩:=zl1 (P:=P) hs zK jd
  have dF:=vK hT hk w
  have hf:=eC w rfl (min m n) (w9 _ _)
  split at hc
  .rename_i h0
   cases hc
   rw [h0] at hf
   simp only [Nat.zero_mul,Cg] at hf
   have yf:Nat.min m n=0:=h0
   have key:∃ a' c',d'=.slice a' n c':=by cases hd <;> exact ⟨_,_,rfl⟩
   obtain ⟨a',c',rfl⟩:=key
   refine ⟨.int .i64 0,w,?_,Fr.refl _ _ _,hs,.int _ _⟩
   cases a' <;> simp [Builtin.copy_,run_underlying ht,hlen,yf,dF,hf,storeCells,goInt]
  .rename_i h0
   have yf:Nat.min m n=min m n:=rfl
   split at hc
   .rename_i A o
    simp only [cD,da] at hc
    obtain ⟨h1,Is,rfl,rfl⟩:=hc
    have key:∃ L c',ρ A=some L/\d'=.slice (some ⟨L.b,L.s+o,none⟩) n c':=by
     cases hd with
     |slice hA hc hn ft =>
      obtain rfl:=ft (by omega)
      exact ⟨_,_,hA,rfl⟩
     |cA hA hc dj hn hk hm ft =>
      obtain ⟨rfl,_⟩:=ft (by omega)
      exact ⟨_,_,hA,rfl⟩
    obtain ⟨L,c',hA,rfl⟩:=key
    obtain ⟨w',eG,cQ,dR⟩:=PD (P:=P) hs hA (ku.take _) Is
    refine ⟨.int .i64 (min m n:Nat),w',?_,cQ,dR,.int _ _⟩
    simp [Builtin.copy_,run_underlying ht,hlen,yf,dF,hf,eG,goInt]
   .cases hc
 .cases hc

theorem zon (hT:T.Fits P) (hs:bR ρ h w) {ty:TypeId} {x x':ah} (hx:VR ρ x x') (hc:rA T t x h=some h') :
 ∃ w',(Builtin.clear_ #[t] ty #[x']).run P w=.ok undef w'/\Fr ρ ρ h h' w w'/\bR ρ h' w':=by
 unfold rA at hc
 split at hc
 .rename_i e a n c zE
  have ht:=hT.desc _ _ zE
  split at hc
  .rename_i h0
   subst h0
   cases hc
   have key:∃ a' c',x'=.slice a' 0 c':=by cases hx <;> exact ⟨_,_,rfl⟩
   obtain ⟨a',c',rfl⟩:=key
   refine ⟨w,?_,Fr.refl _ _ _,hs⟩
   cases a' <;> simp [Builtin.clear_,run_underlying ht,undef]
  .rename_i h0
   simp only [cL,Prod.exists] at hc
   obtain ⟨k,uL,z,gU,hc⟩:=hc
   obtain ⟨i,zv,hi,rfl,rfl,hz,rfl,yz,uj⟩:=hT.info e k uL z gU
   split at hc
   .rename_i A o
    have key:∃ L c',ρ A=some L/\x'=.slice (some ⟨L.b,L.s+o,none⟩) n c':=by
     cases hx with
     |slice hA hc hn ft =>
      obtain rfl:=ft (by omega)
      exact ⟨_,_,hA,rfl⟩
     |cA hA hc dj hn hk hm ft =>
      obtain ⟨rfl,_⟩:=ft (by omega)
      exact ⟨_,_,hA,rfl⟩
    obtain ⟨L,c',hA,rfl⟩:=key
    obtain ⟨w',eG,cQ,dR⟩:=PD (P:=P) hs hA (cx.plain ρ (zfx uj n)) hc
    refine ⟨w',?_,cQ,dR⟩
    have YO:(Builtin.zeroCells zv.cells n).toList=oH zv.cells.toList n:=ZY zv.cells n
    obtain ⟨n',rfl⟩:∃ n',n=n'+1:=⟨n - 1,by omega⟩
    simp [Builtin.clear_,run_underlying ht,zeroValue,typeInfo,hi,hz,YO,eG,undef]
   .cases hc
 .cases hc

theorem zim (hT:T.Fits P) (hs:bR ρ h w) (cp:fQ ρ h h') {l l' c c':ah} (hl:VR ρ l l') (hc:VR ρ c c') (hm:PN T t l c h=some (v,h')) :
 ∃ ρ' vc w',(Instr.makeSlice t l' c').run P w=.ok vc w'/\Fr ρ ρ' h h' w w'/\bR ρ' h' w'/\VR ρ' v vc:=by
 unfold PN at hm
 split at hm
 .rename_i e k1 l k2 c zE
  cases hl
  cases hc
  have ht:=hT.desc _ _ zE
  simp only [cL,Prod.exists] at hm
  obtain ⟨k,uL,z,gU,hm⟩:=hm
  obtain ⟨i,zv,hi,rfl,rfl,hz,rfl,yz,uj⟩:=hT.info e k uL z gU
  split at hm
  .rename_i hh
   obtain ⟨h0,hlc,h60,uX⟩:=hh
   cases hm
   have hr:=run_make (P:=P) w t e i zv ht hi hz k1 k2 l c h0 hlc (by rw [Int.mul_comm];omega) (by omega)
   have yA:zv.cells.size=i.size:=by rw [<- rD,yz]
   have ye:(madeCells zv.cells (c.toNat*i.size)).toList=oH zv.cells.toList c.toNat:=by
    rw [<- yA]
    exact ZY zv.cells c.toNat
   obtain ⟨ρ',hρ,cQ,dR⟩:=IK (W:=w.alloc (.cells (madeCells zv.cells (c.toNat*i.size)) e)) (cs:=oH zv.cells.toList c.toNat) (m:=oH zv.cells.toList c.toNat) hs (cp _ (bo _) (by rw [Heap.size_push];omega)) rfl rfl rfl rfl
    (by rw [ye];exact se (by omega) rfl (λj _=>by rw [j3])) (cx.plain ρ (zfx uj _))
   refine ⟨ρ',_,_,hr,cQ,dR,?_⟩
   have:=VR.slice (ρ:=ρ') (o:=0) (n:=l.toNat) (c:=c.toNat) hρ (by unfold G;omega) (by omega) (λ_=>rfl)
   simpa using this
  .cases hm
 .cases hm

theorem zlH (off:Nat):∀ (l:List ah) (k:Nat) (cs:Array ah),off+k+l.length<=cs.size ->
 ((l.zipIdx k).foldl (λcs (x:ah × Nat)=>cs.setIfInBounds (off+x.2) x.1) cs).toList=aF cs.toList (off+k) l
 | [],k,cs,_=>by simp [aF]
 |v::l,k,cs,hl=>by
  simp only [List.zipIdx_cons,uG]
  have Bf:off+k+(l.length+1)<=cs.size:=by simpa using hl
  rw [zlH off l (k+1) _ (by simp;omega)]
  apply sq
  intro i
  rw [bW _ _ _ _ (by simp;omega),bW _ _ _ _ (by simp;omega)]
  simp only [Array.toList_setIfInBounds,rE,dY,rD]
  by_cases h1:i < off+k
  .rw [aB h1,aB (by omega),aA (by omega)]
  .rw [aA h1]
   by_cases h2:i=off+k
   .subst h2
    rw [aB (by omega),aB rfl,aB (by omega),aB (by omega)]
    simp
   .rw [aA (by omega)]
    by_cases h3:i < off+k+(l.length+1)
    .rw [aB (by omega),aB h3]
     obtain ⟨j,rfl⟩:∃ j,i=off+k+1+j:=⟨i - (off+k+1),by omega⟩
     rw [show off+k+1+j - (off+(k+1))=j by omega,show off+k+1+j - (off+k)=j+1 by omega]
     simp
    .rw [aA (by omega),aA h3,aA (by omega)]

theorem Py {place place':Nat->Option (Nat × Nat)} (hp:∀ i r,place i=some r->place' i=some r):∀ (parts dU:List (Nat × ah)) (cs pE:List ah) (ds:Array ah),
 parts.length=dU.length->(∀ (i:Nat) (x y:Nat × ah),parts[i]? = some x->dU[i]? = some y->x.1=y.1/\VR ρ x.2 y.2)->cx ρ cs ds.toList->uE place cs parts=some pE ->
 ∃ Rj,Instr.fill place' ds dU=some Rj/\cx ρ pE Rj.toList
 | [],[],cs,pE,ds,_,_,hv,hf=>by
  simp only [uE] at hf
  cases hf
  exact ⟨ds,rfl,hv⟩
 |(i,v)::parts,(j,u)::dU,cs,pE,ds,hlen,aE,hv,hf=>by
  obtain ⟨dp,mL⟩:=aE 0 _ _ rfl rfl
  simp only at dp mL
  subst dp
  simp only [uE,cL,Prod.exists] at hf
  obtain ⟨o,n,k0,hf⟩:=hf
  split at hf
  .rename_i hc
   have A8:u.cells.size=v.cells.size:=by have:=mL.cells.1;simpa using this.symm
   have sP:ds.size=cs.length:=by have:=hv.1;simpa using this.symm
   have Mx:=zlH o u.cells.toList 0 ds (by simp;omega)
   have Ms:(u.cells.zipIdx.foldl (λcs (x:ah × Nat)=>cs.setIfInBounds (o+x.2) x.1) ds).toList=aF ds.toList o u.cells.toList:=by
    rw [<- Array.foldl_toList,Array.toList_zipIdx]
    simpa using Mx
   have Nc:cx ρ (aF cs o v.cells.toList) (u.cells.zipIdx.foldl (λcs (x:ah × Nat)=>cs.setIfInBounds (o+x.2) x.1) ds).toList:=by
    rw [Ms]
    exact hv.aF o mL.cells
   obtain ⟨Rj,uZ,jS⟩:=Py hp parts dU _ pE _ (by simpa using hlen) (λi x y hx hy=>aE (i+1) x y (by simpa using hx) (by simpa using hy)) Nc hf
   refine ⟨Rj,?_,jS⟩
   simp only [Instr.fill,hp i _ k0]
   rw [aA (by simp;omega)]
   exact uZ
  .cases hf
 | [],_::_,_,_,_,hlen,_,_,_=>by simp at hlen
 |_::_,[],_,_,_,hlen,_,_,_=>by simp at hlen

theorem zgY (hT:T.Fits P):∀ (fs:List Field) (ps:List (Nat × Nat)) (w:World),Ql T fs=some ps->(fs.mapM λf=>do pure (f.offset,<- sizeOf f.type):Sem (List (Nat × Nat))).run P w=.ok ps w
 | [],ps,w,hp=>by simp only [Ql] at hp;cases hp;simp
 |f::fs,ps,w,hp=>by
  simp only [Ql,cL,cD] at hp
  obtain ⟨n,hn,r,hr,rfl⟩:=hp
  rw [List.mapM_cons]
  simp only [Sem.run_bind,vK hT hn,Result.andThen_ok,Sem.run_pure]
  have ih:=zgY hT fs r w hr
  rw [ih]
  rfl

theorem zod (hT:T.Fits P) {parts dU:List (Nat × ah)} (hlen:parts.length=dU.length)
 (aE:∀ (i:Nat) (x y:Nat × ah),parts[i]? = some x->dU[i]? = some y->x.1=y.1/\VR ρ x.2 y.2) (hb:qg T t parts=some v) (w:World) :
 ∃ vc,(Instr.build t dU.toArray).run P w=.ok vc w/\VR ρ v vc:=by
 simp only [qg,cL,Prod.exists] at hb
 obtain ⟨k,uL,z,gU,hb⟩:=hb
 obtain ⟨i,zv,hi,rfl,rfl,hz,rfl,yz,uj⟩:=hT.info t k uL z gU
 split at hb
 .rename_i fs hd
  have ht:=hT.desc _ _ hd
  simp only [cL,cD] at hb
  obtain ⟨ps,Io,cs,hf,rfl⟩:=hb
  obtain ⟨ds,uZ,jS⟩:=Py (ρ:=ρ) (place':=(ps.toArray[·]?)) (λi r hr=>by simpa using hr) parts dU _ cs zv.cells hlen aE (cx.plain ρ uj) hf
  refine ⟨.agg ds,?_,?_⟩
  .have hm:=zgY hT fs.toList ps w Io
   have wz:(fs.mapM λf=>do pure (f.offset,<- sizeOf f.type):Sem (Array (Nat × Nat))).run P w=.ok ps.toArray w:=by
    rw [Array.mapM_eq_mapM_toList]
    simp only [Sem.run_map,hm,Result.andThen_ok]
   simp only [Instr.build,zeroValue,typeInfo,Sem.run_bind,run_program,Result.andThen_ok,hi,Sem.run_pure,hz,run_underlying ht,wz,uZ]
  .have:=jS.toArray
   simpa using this
 .rename_i n e hd
  have ht:=hT.desc _ _ hd
  simp only [cL,cD] at hb
  obtain ⟨k,hk,cs,hf,rfl⟩:=hb
  obtain ⟨ds,uZ,jS⟩:=Py (ρ:=ρ) (place':=λi=>some (i*k,k)) (λi r hr=>hr) parts dU _ cs zv.cells hlen aE (cx.plain ρ uj) hf
  refine ⟨.agg ds,?_,?_⟩
  .simp only [Instr.build,zeroValue,typeInfo,Sem.run_bind,run_program,Result.andThen_ok,hi,Sem.run_pure,hz,run_underlying ht,vK hT hk,uZ]
  .have:=jS.toArray
   simpa using this
 .cases hb

theorem zhg (hT:T.Fits P) (hs:bR ρ h w) (cp:fQ ρ h h') {len:Nat} {parts dU:List (Nat × ah)} (hlen:parts.length=dU.length)
 (aE:∀ (i:Nat) (x y:Nat × ah),parts[i]? = some x->dU[i]? = some y->x.1=y.1/\VR ρ x.2 y.2) (hb:yT T t len parts h=some (v,h')) :
 ∃ ρ' vc w',(Instr.buildSlice t len dU.toArray).run P w=.ok vc w'/\Fr ρ ρ' h h' w w'/\bR ρ' h' w'/\VR ρ' v vc:=by
 unfold yT at hb
 split at hb
 .rename_i e hd
  have ht:=hT.desc _ _ hd
  simp only [cL,Prod.exists] at hb
  obtain ⟨k,uL,z,gU,hb⟩:=hb
  obtain ⟨i,zv,hi,rfl,rfl,hz,rfl,yz,uj⟩:=hT.info e k uL z gU
  split at hb
  .cases hb
  .rename_i Yi
   simp only [su,jl,not_or] at Yi
   obtain ⟨Yi,amk⟩:=Yi
   have hG:len < G:=by unfold G;omega
   simp only [cD,da] at hb
   obtain ⟨cs,hf,rfl,rfl⟩:=hb
   have yA:zv.cells.size=i.size:=by rw [<- rD,yz]
   by_cases h0:len*i.size=0
   .have rU:oH zv.cells.toList len=[]:=by
     apply List.eq_nil_of_length_eq_zero
     rw [zmZ,yz]
     exact h0
    rw [rU] at hf
    obtain ⟨ds,uZ,jS⟩:=Py (ρ:=ρ) (place':=λj=>some (j*i.size,i.size)) (λi r hr=>hr) parts dU _ cs #[] hlen aE (.nil ρ) hf
    obtain ⟨ρ',hρ,cQ,dR⟩:=IK (W:=w.alloc (.cells ds e)) (cs:=cs) (m:=ds.toList) hs (cp _ (bo _) (by rw [Heap.size_push];omega)) rfl rfl rfl rfl (by rw [jS.1];exact se (by omega) rfl (λj _=>by rw [j3])) jS
    refine ⟨ρ',.slice (some ⟨w.heap.size,0,none⟩) len len,w.alloc (.cells ds e),?_,cQ,dR,?_⟩
    .have M6:¬ (16777216 < len*i.size):=by omega
     simp [Instr.buildSlice,run_underlying ht,sizeOf,typeInfo,hi,h0,Array.range_zero',uZ,Go.newRow]
    .have:=VR.slice (ρ:=ρ') (o:=0) (n:=len) (c:=len) hρ hG (bo _) (λ_=>rfl)
     simpa using this
   .have ye:((Array.range (len*i.size)).map (zv.cells[· % zv.cells.size]!)).toList=oH zv.cells.toList len:=by
     have:=ZY zv.cells len
     simp only [yA] at this ⊢
     exact this
    obtain ⟨ds,uZ,jS⟩:=Py (ρ:=ρ) (place':=λj=>some (j*i.size,i.size)) (λi r hr=>hr) parts dU _ cs ((Array.range (len*i.size)).map (zv.cells[· % zv.cells.size]!)) hlen aE
     (by rw [ye];exact cx.plain ρ (zfx uj _)) hf
    obtain ⟨ρ',hρ,cQ,dR⟩:=IK (W:=w.alloc (.cells ds e)) (cs:=cs) (m:=ds.toList) hs (cp _ (bo _) (by rw [Heap.size_push];omega)) rfl rfl rfl rfl (by rw [jS.1];exact se (by omega) rfl (λj _=>by rw [j3])) jS
    refine ⟨ρ',.slice (some ⟨w.heap.size,0,none⟩) len len,w.alloc (.cells ds e),?_,cQ,dR,?_⟩
    .have M6:¬ (16777216 < len*i.size):=by omega
     simp only [Instr.buildSlice,Sem.run_bind,run_underlying ht,Result.andThen_ok,sizeOf,typeInfo,run_program,hi,Sem.run_pure,gt_iff_lt]
     simp [M6,h0,zeroValue,typeInfo,hi,hz,uZ,Go.newRow]
    .have:=VR.slice (ρ:=ρ') (o:=0) (n:=len) (c:=len) hρ hG (bo _) (λ_=>rfl)
     simpa using this
 .cases hb

end
end Go.Am
namespace Go.Am
open Go.RowKit
variable {v x y:ah} {t:TypeId}

section
variable {P:Program} {T:bO} {ρ:cn} {h h':Heap} {w:World}

theorem Sy {hi i:Nat} (dm:VR ρ x y) (hb:wV x hi=some i) {m9:Nat} (hle:hi<=m9) (code:BoundsCode) (w:World):(Instr.sliceBound y m9 code).run P w=.ok i w/\i<=hi:=by
 cases dm with
 |int k n =>
  simp only [wV] at hb
  split at hb
  .rename_i hc
   cases hb
   have xH:0<=n/\n<=(m9:Int):=⟨hc.1,by omega⟩
   exact ⟨by simp [Instr.sliceBound,asIntOf,xH],by omega⟩
  .cases hb
 |_=>simp [wV] at hb

def sy (ρ:cn):Option ah->Option ah->Prop
 |none,none=>True
 |some x,some y=>VR ρ x y
 |_,_=>False

theorem Pu {len cap EE l' h' m':Nat} {l h m ll hh mm:Option ah} (hl:sy ρ l ll) (tX:sy ρ h hh) (hm:sy ρ m mm) (hb:rq len cap l h m=some (l',h',m')) (hlen:len<=cap) (sN:cap<=EE) (ur:Bool) (w:World) :
 (Instr.sliceBounds ur len EE ll hh mm).run P w=.ok (l',h',if m.isSome then m' else EE) w/\l'<=h'/\h'<=m'/\m'<=cap:=by
 simp only [rq,cL,eh,da] at hb
 obtain ⟨m1,il,h1,zH,l1,jt,rfl,rfl,rfl⟩:=hb
 have yG:∀ (code:BoundsCode),(match ll with|some v=>Instr.sliceBound v h1 code|none=>(pure 0:Sem Nat)).run P w=.ok l1 w/\l1<=h1:=by
  intro code
  cases l with
  |none=>cases ll with
   |none=>simp only [eh] at jt;subst jt;exact ⟨rfl,i6 _⟩
   |some v=>exact hl.elim
  |some x=>cases ll with
   |none=>exact hl.elim
   |some v=>exact Sy hl jt (bo _) code w
 cases m with
 |none =>
  cases mm with
  |some v=>exact hm.elim
  |none =>
   simp only [eh] at il
   subst il
   cases h with
   |none=>cases hh with
    |some v=>exact tX.elim
    |none =>
     simp only [eh] at zH
     subst zH
     obtain ⟨k1,k2⟩:=yG .sliceB
     refine ⟨?_,k2,hlen,bo _⟩
     simp only [Instr.sliceBounds,Sem.run_bind,Sem.run_pure,Result.andThen_ok,Qu,gB,if_false]
     cases ll with
     |none =>
      have e:l1=0:=by have:=k1;simp at this;exact this.symm
      simp [e]
     |some u =>
      have e:(Instr.sliceBound u len .sliceB).run P w=.ok l1 w:=k1
      simp only [Sem.run_bind,e,Result.andThen_ok,Sem.run_pure]
   |some x=>cases hh with
    |none=>exact tX.elim
    |some v =>
     have CE:=Sy (P:=P) tX zH sN (if ur then BoundsCode.sliceAcap else .sliceAlen) w
     obtain ⟨k1,k2⟩:=yG .sliceB
     refine ⟨?_,k2,CE.2,bo _⟩
     simp only [Instr.sliceBounds,Sem.run_bind,Sem.run_pure,Result.andThen_ok,Qu,gB,if_false,CE.1]
     cases ll with
     |none =>
      have e:l1=0:=by have:=k1;simp at this;exact this.symm
      simp [e]
     |some u =>
      have e:(Instr.sliceBound u h1 .sliceB).run P w=.ok l1 w:=k1
      simp only [Sem.run_bind,e,Result.andThen_ok,Sem.run_pure]
 |some q =>
  cases mm with
  |none=>exact hm.elim
  |some v =>
   have hbm:=Sy (P:=P) hm il sN (if ur then BoundsCode.slice3Acap else .slice3Alen) w
   cases h with
   |none=>cases zH
   |some x=>cases hh with
    |none=>exact tX.elim
    |some v' =>
     have CE:=Sy (P:=P) tX zH (bo _) BoundsCode.slice3B w
     obtain ⟨k1,k2⟩:=yG .slice3C
     refine ⟨?_,k2,CE.2,hbm.2⟩
     simp only [Instr.sliceBounds,Sem.run_bind,Result.andThen_ok,Hz,if_true,hbm.1,CE.1]
     cases ll with
     |none =>
      have e:l1=0:=by have:=k1;simp at this;exact this.symm
      simp [e]
     |some u =>
      have e:(Instr.sliceBound u h1 .slice3C).run P w=.ok l1 w:=k1
      simp only [Sem.run_bind,e,Result.andThen_ok,Sem.run_pure]

theorem zpJ (hT:T.Fits P) {l hi m ll hh mm:Option ah} (dm:VR ρ x y) (hl:sy ρ l ll) (tX:sy ρ hi hh) (hm:sy ρ m mm) (hs:jL T t x l hi m=some v) (w:World) :
 ∃ vc,(Instr.sliceAt t y ll hh mm).run P w=.ok vc w/\VR ρ v vc:=by
 unfold jL at hs
 split at hs
 .rename_i s hd
  cases dm
  have ht:=hT.desc _ _ hd
  split at hs
  .cases hs
  .rename_i RQ
   have vj:m=none:=by cases m <;> simp_all
   subst vj
   have X0:mm=none:=by cases mm with|none=>rfl|some _=>exact hm.elim
   subst X0
   simp only [cD,Prod.exists] at hs
   obtain ⟨l',h',m',hb,rfl⟩:=hs
   obtain ⟨k1,k2,k3,k4⟩:=Pu (P:=P) (m:=none) (mm:=none) hl tX trivial hb (bo _) (bo _) false w
   refine ⟨_,?_,.string _⟩
   simp [Instr.sliceAt,Instr.slice,run_underlying ht,k1]
 .rename_i n e A o hd
  cases dm with
  |ptr hA =>
   rename_i L
   have ht:=hT.desc _ _ hd
   simp only [cL,cD,Prod.exists] at hs
   obtain ⟨l',h',m',hb,k,hk,rfl⟩:=hs
   have hnG:n < G:=by
    rcases lB n G with aW|kW
    .exact aW
    .rw [aA (by omega)] at hb;cases hb
   rw [aB hnG] at hb
   obtain ⟨k1,k2,k3,k4⟩:=Pu (P:=P) hl tX hm hb (bo _) (bo _) false w
   have Bh:(if m.isSome then m' else n)=m':=by
    cases m with
    |some _=>rfl
    |none =>
     simp only [rq,cL,eh,da] at hb
     obtain ⟨m1,il,h1,zH,l1,jt,rfl,rfl,rfl⟩:=hb
     simp [il]
   rw [Bh] at k1
   have dF:=vK hT hk w
   refine ⟨.slice (some (if m'=l' then ⟨L.b,L.s+o,none⟩ else (⟨L.b,L.s+o,none⟩:Addr).add (l'*k))) (h' - l') (m' - l'),?_,?_⟩
   .simp only [Instr.sliceAt,Sem.run_bind,run_underlying ht,Result.andThen_ok,Instr.sureAddr,Sem.run_pure,k1,dF]
   .by_cases hG:m' - l' < G
    .refine .slice hA hG (by omega) (λh0=>?_)
     rw [aA (by omega),aA (by omega),Addr.add_mid,qk]
    .exfalso
     omega
 .rename_i e a n c hd
  have ht:=hT.desc _ _ hd
  simp only [cL] at hs
  obtain ⟨k,hk,hs⟩:=hs
  have dF:=vK hT hk w
  split at hs
  .rename_i hcG
   simp only [cL,Prod.exists] at hs
   obtain ⟨l',h',m',hb,hs⟩:=hs
   have Bh:(if m.isSome then m' else c)=m':=by
    cases m with
    |some _=>rfl
    |none =>
     simp only [rq,cL,eh,da] at hb
     obtain ⟨m1,il,h1,zH,l1,jt,rfl,rfl,rfl⟩:=hb
     simp [il]
   cases dm with
   |dD =>
    obtain ⟨k1,k2,k3,k4⟩:=Pu (P:=P) hl tX hm hb (bo _) (bo _) true w
    rw [Bh] at k1
    simp only [eh] at hs
    subst hs
    have e1:h' - l'=0:=by omega
    have e2:m' - l'=0:=by omega
    refine ⟨.slice none (h' - l') (m' - l'),?_,by rw [e1,e2];exact .dD⟩
    simp [Instr.sliceAt,Instr.slice,run_underlying ht,k1,dF]
   |slice hA hc hn ft =>
    rename_i A o L ad
    obtain ⟨k1,k2,k3,k4⟩:=Pu (P:=P) hl tX hm hb hn (bo _) true w
    rw [Bh] at k1
    simp only [eh] at hs
    subst hs
    refine ⟨.slice (if m'=l' then some ad else some (ad.add (l'*k))) (h' - l') (m' - l'),?_,?_⟩
    .simp [Instr.sliceAt,Instr.slice,run_underlying ht,k1,dF]
    .have hx:(if m'=l' then some ad else some (ad.add (l'*k)))=some (if m'=l' then ad else ad.add (l'*k)):=by split <;> rfl
     rw [hx]
     refine .slice hA (by omega) (by omega) (λh0=>?_)
     rw [aA (by omega),aA (by omega),ft (by omega),Addr.add_mid,qk]
   |cA hA hc dj hn ml CO ft=>omega
  .rename_i hcG
   split at hs
   .rename_i A o
    split at hs
    .rename_i nG
     simp only [cD,Prod.exists] at hs
     obtain ⟨l',h',m',hb,rfl⟩:=hs
     cases dm with
     |slice hA hc hn ft=>omega
     |cA hA hc dj hn ml CO ft =>
      rename_i c' L ad
      obtain ⟨k1,k2,k3,k4⟩:=Pu (P:=P) hl tX hm hb hn dj true w
      cases m with
      |some q =>
       simp only [Hz,if_true] at k1
       refine ⟨.slice (if m'=l' then some ad else some (ad.add (l'*k))) (h' - l') (m' - l'),?_,?_⟩
       .simp [Instr.sliceAt,Instr.slice,run_underlying ht,k1,dF]
       .have hx:(if m'=l' then some ad else some (ad.add (l'*k)))=some (if m'=l' then ad else ad.add (l'*k)):=by split <;> rfl
        rw [hx]
        have aW:c % G < G:=D4 _ (by unfold G;omega)
        refine .slice hA (by omega) (by omega) (λh0=>?_)
        rw [aA (by omega),aA (by omega),(ft (by omega)).1,Addr.add_mid,qk]
      |none =>
       simp only [Qu,gB,if_false] at k1
       have il:m'=c % G:=by
        simp only [rq,cL,eh,da] at hb
        obtain ⟨m1,il,h1,zH,l1,jt,rfl,rfl,rfl⟩:=hb
        exact il.symm
       subst il
       refine ⟨.slice (if c'=l' then some ad else some (ad.add (l'*k))) (h' - l') (c' - l'),?_,?_⟩
       .simp [Instr.sliceAt,Instr.slice,run_underlying ht,k1,dF]
       .have hx:(if c'=l' then some ad else some (ad.add (l'*k)))=some (if c'=l' then ad else ad.add (l'*k)):=by split <;> rfl
        rw [hx]
        have aW:c % G < G:=D4 _ (by unfold G;omega)
        have jT:=B1 (k:=k) (q:=c % G - l') (by omega) (by omega)
        refine .cA hA jT.1 (by rw [jT.2.1];omega) (by rw [jT.2.1];omega) (by rw [jT.2.2];omega) (by omega) (λh0=>?_)
        obtain ⟨rfl,ko⟩:=ft (by omega)
        rw [aA (by omega),Addr.add_mid,jT.2.2]
        refine ⟨by rw [qk],?_⟩
        rw [nG] at ko
        have e1:c'*k=l'*k+(c' - l')*k:=by rw [<- tH];congr 1;omega
        omega
    .cases hs
   .cases hs
 .cases hs

theorem zil (hT:T.Fits P) {i j:ah} (dm:VR ρ x y) (dp:VR ρ i j) (hs:kF T t x i=some v) (w:World) :
 ∃ vc,(Instr.indexAt t y j).run P w=.ok vc w/\VR ρ v vc:=by
 unfold kF at hs
 split at hs
 .rename_i k i
  cases dp
  split at hs
  .rename_i n e A o hd
   cases dm with
   |ptr hA =>
    rename_i L
    have ht:=hT.desc _ _ hd
    split at hs
    .rename_i hi
     simp only [cD] at hs
     obtain ⟨q,hq,rfl⟩:=hs
     refine ⟨.pointer (some ⟨L.b,L.s+(o+i.toNat*q),none⟩),?_,.ptr hA⟩
     simp [Instr.indexAt,asIntOf,run_underlying ht,Instr.sureAddr,hi,vK hT hq,Addr.add_mid,qk]
    .cases hs
  .rename_i e A o n c hd
   have ht:=hT.desc _ _ hd
   split at hs
   .rename_i hi
    simp only [cD] at hs
    obtain ⟨q,hq,rfl⟩:=hs
    have key:∃ L c',ρ A=some L/\y=.slice (some ⟨L.b,L.s+o,none⟩) n c':=by
     cases dm with
     |slice hA hc hn ft =>
      obtain rfl:=ft (by omega)
      exact ⟨_,_,hA,rfl⟩
     |cA hA hc dj hn hk hm ft =>
      obtain ⟨rfl,_⟩:=ft (by omega)
      exact ⟨_,_,hA,rfl⟩
    obtain ⟨L,c',hA,rfl⟩:=key
    refine ⟨.pointer (some ⟨L.b,L.s+(o+i.toNat*q),none⟩),?_,.ptr hA⟩
    simp [Instr.indexAt,asIntOf,run_underlying ht,hi,vK hT hq,Addr.add_mid,qk]
   .cases hs
  .cases hs
 .cases hs

theorem zik (hT:T.Fits P) {f:Nat} (dm:VR ρ x y) (hs:jg T t x f=some v) (w:World) :
 ∃ vc,(Instr.fieldAt t y f).run P w=.ok vc w/\VR ρ v vc:=by
 unfold jg at hs
 split at hs
 .rename_i fs A o hd
  cases dm with
  |ptr hA =>
   rename_i L
   have ht:=hT.desc _ _ hd
   simp only [cL] at hs
   obtain ⟨fl,hf,n,hn,hs⟩:=hs
   split at hs
   .cases hs
   .rename_i h0
    cases hs
    refine ⟨.pointer (some ⟨L.b,L.s+(o+fl.offset),none⟩),?_,.ptr hA⟩
    simp [Instr.fieldAt,run_underlying ht,hf,Instr.sureAddr,fieldPlace,vK hT hn,h0,Addr.add_mid,qk]
 .cases hs

theorem zj9 (hT:T.Fits P) {cs:List ah} {ds:Array ah} {o:Nat} (hv:cx ρ cs ds.toList) (hs:v7 T t cs o=some v) (w:World) :
 ∃ vc,(part t ds o).run P w=.ok vc w/\VR ρ v vc:=by
 simp only [v7,cO,cL,cD] at hs
 obtain ⟨g,⟨d,hd,hg⟩,hs⟩:=hs
 have ht:=hT.desc _ _ hd
 have pH:(isAgg t).run P w=.ok g w:=by
  unfold isAgg
  rw [Sem.run_bind,run_underlying ht w]
  cases d <;> simp_all
 cases g with
 |true =>
  simp only [if_true,cL,cD] at hs
  obtain ⟨n,hn,l,hl,rfl⟩:=hs
  obtain ⟨d',oc,wD⟩:=hv.cut hl
  refine ⟨.agg d'.toArray,?_,wD.toArray⟩
  have hx:ds.extract o (o+n)=d'.toArray:=by
   unfold cut at oc
   split at oc
   .cases oc
    apply Array.ext'
    simp [List.take_drop]
   .cases oc
  simp [part,pH,vK hT hn,hx]
 |false =>
  simp only [gB,if_false] at hs
  obtain ⟨u,hu,mL⟩:=hv.get hs
  refine ⟨u,?_,mL⟩
  have zL:ds[o]? = some u:=by simpa using hu
  simp [part,pH,zL]

theorem zoK (hT:T.Fits P) {f:Nat} (dm:VR ρ x y) (hs:QG T t x f=some v) (w:World) :
 ∃ vc,(Instr.field t y f).run P w=.ok vc w/\VR ρ v vc:=by
 unfold QG at hs
 split at hs
 .rename_i fs cs hd
  have ht:=hT.desc _ _ hd
  simp only [cL] at hs
  obtain ⟨fl,hf,hs⟩:=hs
  cases dm with
  |agg hc hh =>
   rename_i ds
   obtain ⟨vc,hr,hv⟩:=zj9 hT (VR.agg hc hh).Ej hs w
   refine ⟨vc,?_,hv⟩
   simp [Instr.field,run_underlying ht,hf,asAgg,hr]
 .cases hs

theorem zmA {op:BinOp} (hs:r8 op x y=some v):jf P (binOp op t x y)=some v/\plain x=true/\plain y=true/\plain v=true/\(∃ k a,x=.int k a):=by
 unfold r8 at hs
 split at hs <;> first|(cases hs;done)|(split at hs <;> first|(cases hs;done)|(rename_i hk;subst hk;cases hs;exact ⟨by simp [binOp,Op.intArith,Op.intCmp,jf,pure],rfl,rfl,rfl,_,_,rfl⟩))

theorem zqL {d:TypeDesc} (hd:P.underlying t=some d) {x' y':ah} {b:Bool} (hx:VR ρ x x') (hy:VR ρ y y') (he:DV d x y=some b) (w:World) :
 (Op.equal t x' y').run P w=.ok b w/\∀ (op:BinOp),op=.eql\/op=.neq->binOp op t x' y'=(if op=.eql then (do pure (.bool (<- Op.equal t x' y'))) else (do pure (.bool (!(<- Op.equal t x' y'))))):=by
 have key:(∀ d0:Nat,(Op.equalIn (d0+1) t x' y').run P w=.ok b w)/\∀ (op:BinOp),op=.eql\/op=.neq->binOp op t x' y'=(if op=.eql then (do pure (.bool (<- Op.equal t x' y'))) else (do pure (.bool (!(<- Op.equal t x' y'))))):=by
  unfold DV at he
  split at he <;> first
   |(cases he;done)
   |(cases hx <;> cases hy <;> simp at he <;> subst he <;> exact ⟨λd0=>by simp [Op.equalIn,run_underlying hd],by rintro op (rfl|rfl) <;> rfl⟩)
 exact ⟨key.1 9999,key.2⟩

theorem Sr (op:BinOp) (t:TypeId) (x y:Operand) (a b:ah) (ha:a≠.nilIface) (pH:∀ c d,a=.agg c->b=.agg d->P.eqGuardType P.depth t=false) (w:World):(eqGuard op t x y a b).run P w=.ok () w:=by
 unfold eqGuard
 cases op <;> simp only [Bool.not_true,Bool.not_false,if_true,if_false,gB] <;> try rfl
 all_goals
  cases a <;> first|exact (ha rfl).elim|skip
 all_goals
  cases b <;> first|rfl|skip
 all_goals
  simp [pH _ _ rfl rfl]

theorem IM (hT:T.Fits P) {cs:Array ah} {o:Nat} (hs:v7 T t cs.toList o=some v) (w:World):(part t cs o).run P w=.ok v w:=by
 simp only [v7,cO,cL,cD] at hs
 obtain ⟨g,⟨d,hd,hg⟩,hs⟩:=hs
 have ht:=hT.desc _ _ hd
 have pH:(isAgg t).run P w=.ok g w:=by
  unfold isAgg
  rw [Sem.run_bind,run_underlying ht w]
  cases d <;> simp_all
 cases g with
 |true =>
  simp only [if_true,cL,cD] at hs
  obtain ⟨n,hn,l,hl,rfl⟩:=hs
  have hx:cs.extract o (o+n)=l.toArray:=by
   unfold cut at hl
   split at hl
   .cases hl
    apply Array.ext'
    simp [List.take_drop]
   .cases hl
  simp [part,pH,vK hT hn,hx]
 |false =>
  simp only [gB,if_false] at hs
  have zL:cs[o]? = some v:=by simpa using hs
  simp [part,pH,zL]
theorem zf2 (hT:T.Fits P) {E:TypeId->ah->ah->Option Bool} {d:Nat} (w:World) (hE:∀ t x y b,E t x y=some b->(Op.equalIn d t x y).run P w=.ok b w) (xs ys:Array ah) :
 ∀ (fs:List Field) (ps:List (TypeId × Nat)) (b:Bool),IH fs=some ps->BX T E xs.toList ys.toList ps=some b->(Op.eqFields d xs ys fs).run P w=.ok b w
 | [],ps,b,hp,he=>by
  cases hp
  cases he
  simp [Op.eqFields]
 |f::fs,ps,b,hp,he=>by
  simp only [IH] at hp
  split at hp
  .cases hp
  .rename_i hn
   simp only [cD] at hp
   obtain ⟨r,hr,rfl⟩:=hp
   simp only [BX,cL] at he
   obtain ⟨a,ha,c,hc,q,hq,he⟩:=he
   have h1:=IM hT ha w
   have h2:=IM hT hc w
   have h3:=hE _ _ _ _ hq
   simp only [Op.eqFields]
   rw [aB (by simpa using hn)]
   simp only [Sem.run_bind,h1,h2,h3,Result.andThen_ok]
   cases q with
   |false =>
    simp only [gB,if_false,eh] at he
    subst he
    simp
   |true =>
    simp only [if_true] at he
    simpa using zf2 hT w hE xs ys fs r b hr he
theorem zgE (hT:T.Fits P) {E:TypeId->ah->ah->Option Bool} {d:Nat} (w:World) (hE:∀ t x y b,E t x y=some b->(Op.equalIn d t x y).run P w=.ok b w) (xs ys:Array ah) (e:TypeId) (k:Nat) :
 ∀ (n i:Nat) (b:Bool),BX T E xs.toList ys.toList (IW e k n i)=some b->(Op.eqItems d e k xs ys (List.range' i n)).run P w=.ok b w
 |0,i,b,he=>by
  cases he
  simp [Op.eqItems]
 |n+1,i,b,he=>by
  simp only [IW,BX,cL] at he
  obtain ⟨a,ha,c,hc,q,hq,he⟩:=he
  have h1:=IM hT ha w
  have h2:=IM hT hc w
  have h3:=hE _ _ _ _ hq
  simp only [List.range'_succ,Op.eqItems,Sem.run_bind,h1,h2,h3,Result.andThen_ok]
  cases q with
  |false =>
   simp only [gB,if_false,eh] at he
   subst he
   simp
  |true =>
   simp only [if_true] at he
   simpa using zgE hT w hE xs ys e k n (i+1) b he
theorem PL (hT:T.Fits P) (w:World):∀ (d D:Nat) (t:TypeId) (x y:ah) (b:Bool),fK T d t x y=some b->(Op.equalIn (D+d) t x y).run P w=.ok b w
 |0,_,_,_,_,_,he=>by simp [fK] at he
 |d+1,D,t,x,y,b,he=>by
  unfold fK at he
  split at he
  .rename_i a c hd
   cases he
   exact run_equalIn_bool w (D+d) t a c (hT.desc _ _ hd)
  .rename_i q k a k' c hd
   split at he
   .rename_i hk
    subst hk
    cases he
    exact run_equalIn_int w (D+d) t k q a c (hT.desc _ _ hd)
   .cases he
  .rename_i a c hd
   cases he
   rw [show D+(d+1)=(D+d)+1 from rfl,run_equalIn_string w (D+d) t a c (hT.desc _ _ hd),ByteArray.toList_eq,ByteArray.toList_eq]
  .rename_i fs xs ys hd
   split at he
   .rename_i hc
    simp only [cL] at he
    obtain ⟨ps,hp,he⟩:=he
    have hu:=hT.desc _ _ hd
    have hf:P.fieldsOf t=fs:=by simp [Program.fieldsOf,hu]
    rw [show D+(d+1)=(D+d)+1 from rfl,run_equalIn_struct w (D+d) t xs ys (by rw [hf];exact hu) (hT.cmp t hc).1,hf]
    exact zf2 hT w (λt x y b hb=>PL hT w d D t x y b hb) xs ys fs.toList ps b hp he
   .cases he
  .rename_i n e xs ys hd
   simp only [cL] at he
   obtain ⟨k,hk,he⟩:=he
   have hu:=hT.desc _ _ hd
   simp only [di,cD] at hk
   obtain ⟨⟨n',b',z⟩,hi,rfl⟩:=hk
   obtain ⟨i,zv,gU,dF,_⟩:=hT.info _ _ _ _ hi
   have sO:P.cellsOf e=n':=by simp [Program.cellsOf,gU,dF]
   rw [show D+(d+1)=(D+d)+1 from rfl,run_equalIn_array w (D+d) xs ys hu gU,sO]
   have:=zgE hT w (λt x y b hb=>PL hT w d D t x y b hb) xs ys e n' n 0 b he
   rw [List.range_eq_range']
   exact this
  .cases he

theorem ztr (hT:T.Fits P) {op:BinOp} {t:TypeId} {x' y':ah} (hx:VR ρ x x') (hy:VR ρ y y') (hs:cm P T op t x y=some v) (ox oy:Operand) (w:World) :
 ∃ vc,(do eqGuard op t ox oy x' y';binOp op t x' y':Sem ah).run P w=.ok vc w/\VR ρ v vc:=by
 unfold cm at hs
 split at hs
 .rename_i v' hf
  cases hs
  obtain ⟨h1,h2,h3,h4,k,a,rfl⟩:=zmA (P:=P) (t:=t) hf
  have e1:=hx.bI h2
  have e2:=hy.bI h3
  subst e1 e2
  refine ⟨v,?_,.dC ρ h4⟩
  rw [Sem.run_bind,Sr op t ox oy (.int k a) _ (by simp) (by intro c d e;cases e) w]
  exact Px P _ _ h1 w
 .split at hs
  .rename_i b hb
   simp only [cL] at hb
   obtain ⟨d,hd,he⟩:=hb
   have ht:=hT.desc _ _ hd
   obtain ⟨h1,h2⟩:=zqL ht hx hy he w
   have hna:x'≠.nilIface/\(∀ c,x'≠.agg c):=by
    unfold DV at he
    split at he <;> first|(cases he;done)|(cases hx <;> exact ⟨by simp,by simp⟩)
   have hg:=Sr (P:=P) op t ox oy x' y' hna.1 (by intro c d e;exact (hna.2 c e).elim) w
   split at hs
   .cases hs
    refine ⟨.bool b,?_,.bool _⟩
    simp only [Sem.run_bind,hg,Result.andThen_ok,h2 .eql (.inl rfl),if_true,h1,Sem.run_pure]
   .cases hs
    refine ⟨.bool !b,?_,.bool _⟩
    simp only [Sem.run_bind,hg,Result.andThen_ok,h2 .neq (.inr rfl),reduceCtorEq,if_false,h1,Sem.run_pure]
   .cases hs
  .split at hs
   .rename_i hp
    simp only [eo] at hp
    have e1:=hx.bI hp.1
    have e2:=hy.bI hp.2
    subst e1 e2
    have fin:∀ (hs:((jf P (binOp op t x' y')).bind λv=>if plain v then some v else none)=some v) (hg:(eqGuard op t ox oy x' y').run P w=.ok () w),
     ∃ vc,(do eqGuard op t ox oy x' y';binOp op t x' y':Sem ah).run P w=.ok vc w/\VR ρ v vc:=by
     intro hs hg
     simp only [cL] at hs
     obtain ⟨v1,hr,hs⟩:=hs
     split at hs
     .rename_i hpv
      cases hs
      refine ⟨v,?_,.dC ρ hpv⟩
      simp only [Sem.run_bind,hg,Result.andThen_ok]
      exact Px P _ _ hr w
     .cases hs
    split at hs
    .cases hs
    .rename_i c d
     split at hs
     .rename_i sS
      have hg:=λxs ys=>Sr (P:=P) op t ox oy (.agg xs) (.agg ys) (by simp) (by intro _ _ _ _;exact (hT.cmp t sS).2) w
      split at hs
      .simp only [cD] at hs
       obtain ⟨b,hb,rfl⟩:=hs
       refine ⟨.bool b,?_,.bool _⟩
       simp only [Sem.run_bind,hg,Result.andThen_ok]
       rw [run_eql_struct,PL hT w 20 9980 t _ _ b hb]
       rfl
      .simp only [cD] at hs
       obtain ⟨b,hb,rfl⟩:=hs
       refine ⟨.bool !b,?_,.bool _⟩
       simp only [Sem.run_bind,hg,Result.andThen_ok]
       rw [run_neq_struct,PL hT w 20 9980 t _ _ b hb]
       rfl
      .cases hs
     .cases hs
    .rename_i h1 h2
     refine fin hs (Sr op t ox oy _ _ ?_ ?_ w)
     .intro e;exact h1 e
     .intro c d e1 e2;exact (h2 c d e1 e2).elim
   .cases hs

theorem ztX (hT:T.Fits P) (hs:bR ρ h w) {ty:TypeId} (dm:VR ρ x y) (hl:bn T t x h=some v) (ts:List TypeId) :
 ∃ vc,(Builtin.len_ (t::ts).toArray ty #[y]).run P w=.ok vc w/\VR ρ v vc:=by
 unfold bn at hl
 split at hl
 .rename_i s hd
  cases dm
  cases hl
  exact ⟨_,by simp [Builtin.len_,run_underlying (hT.desc _ _ hd),goInt],.int _ _⟩
 .rename_i e a n c hd
  cases hl
  have key:∃ a' c',y=.slice a' n c':=by cases dm <;> exact ⟨_,_,rfl⟩
  obtain ⟨a',c',rfl⟩:=key
  exact ⟨_,by simp [Builtin.len_,run_underlying (hT.desc _ _ hd),goInt],.int _ _⟩
 .rename_i a b hd
  cases dm
  cases hl
  exact ⟨_,by simp [Builtin.len_,run_underlying (hT.desc _ _ hd),goInt],.int _ _⟩
 .rename_i a b A hd
  split at hl
  .rename_i es clock hg
   cases hl
   cases dm with
   |map hA =>
    rename_i L
    have hb:=hs.j5 A L hA
    rw [hg] at hb
    obtain ⟨ces,hc,he⟩:=hb
    refine ⟨.int .i64 (ces.size:Nat),by simp [Builtin.len_,run_underlying (hT.desc _ _ hd),goInt,getObj,Sem.run,hc],?_⟩
    have e1:(es.length:Int)=(ces.size:Int):=by have:=he.1;simp at this;omega
    rw [e1]
    exact .int _ _
  .cases hl
 .cases hl
end
end Go.Am
namespace Go.Am
open Go.RowKit
variable {k k' v x y:ah} {kt t:TypeId}
section
variable {P:Program} {T:bO} {ρ:cn} {h h':Heap} {w:World}

theorem zia {Z:Type} (P:Program) (w:World) (l:List Z) (g:Z->PUnit->Sem (ForInStep PUnit)) (hf:∀ x∈l,(g x PUnit.unit).run P w=.ok (.yield PUnit.unit) w) :
 (forIn l PUnit.unit g:Sem PUnit).run P w=.ok PUnit.unit w:=by
 induction l with
 |nil=>simp
 |cons x l ih =>
  have h1:=hf x (by simp)
  have h2:=ih (λy hy=>hf y (by simp [hy]))
  simp only [List.forIn_cons,Sem.run_bind,h1,Result.andThen_ok,h2]

theorem zgd {E:TypeId->ah->ah->Option Bool} {xs:List ah}:∀ {ps:List (TypeId × Nat)},BX T E xs xs ps=some true->∀ p∈ps,∃ a,v7 T p.1 xs p.2=some a/\E p.1 a a=some true
 | [],_,p,hp=>by cases hp
 |(t,o)::r,he,p,hp=>by
  simp only [BX,cL] at he
  obtain ⟨a,ha,c,hc,q,hq,he⟩:=he
  rw [ha] at hc
  cases hc
  cases q with
  |false=>simp at he
  |true =>
   simp only [if_true] at he
   rcases cJ.1 hp with rfl|hp
   .exact ⟨a,ha,hq⟩
   .exact zgd he p hp

theorem zf3:∀ {fs:List Field} {ps:List (TypeId × Nat)},IH fs=some ps->∀ f∈fs,(f.type,f.offset)∈ps
 | [],_,_,f,hf=>by cases hf
 |g::fs,ps,hp,f,hf=>by
  simp only [IH] at hp
  split at hp
  .cases hp
  .simp only [cD] at hp
   obtain ⟨r,hr,rfl⟩:=hp
   rcases cJ.1 hf with rfl|hf
   .simp
   .exact eQ _ (zf3 hr f hf)

theorem zgN {e:TypeId} {k:Nat}:∀ (n i j:Nat),i<=j->j < i+n->(e,j*k)∈IW e k n i
 |0,i,j,h1,h2=>by omega
 |n+1,i,j,h1,h2=>by
  simp only [IW]
  by_cases e:i=j
  .subst e;simp
  .exact eQ _ (zgN n (i+1) j (by omega) (by omega))

theorem zga (hT:T.Fits P) (w:World) (em:Bool):∀ (d D:Nat) (t:TypeId) (x y:ah),fK T d t x y=some true->y=x->(Instr.checkKey em (D+d) t x).run P w=.ok () w
 |0,_,_,_,_,he,_=>by simp [fK] at he
 |d+1,D,t,x,y,he,th=>by
  unfold fK at he
  rw [show D+(d+1)=(D+d)+1 from rfl]
  split at he
  .rename_i a c hd
   simp [Instr.checkKey,run_underlying (hT.desc _ _ hd)]
  .rename_i q k a k' c hd
   simp [Instr.checkKey,run_underlying (hT.desc _ _ hd)]
  .rename_i a c hd
   simp [Instr.checkKey,run_underlying (hT.desc _ _ hd)]
  .rename_i fs xs ys hd
   cases th
   split at he
   .simp only [cL] at he
    obtain ⟨ps,hp,he⟩:=he
    have aE:=zgd he
    simp only [Instr.checkKey,Sem.run_bind,run_underlying (hT.desc _ _ hd),Result.andThen_ok]
    rw [<- Array.forIn_toList]
    rw [zia P w fs.toList]
    .simp
    .intro f hf
     obtain ⟨a,ha,hq⟩:=aE _ (zf3 hp f hf)
     have h1:=zga hT w em d D f.type a a hq rfl
     split
     .simp only [Sem.run_bind,IM hT ha w,Result.andThen_ok,h1,Sem.run_pure]
     .simp
   .cases he
  .rename_i n e xs ys hd
   cases th
   simp only [cL] at he
   obtain ⟨k,hk,he⟩:=he
   have aE:=zgd he
   simp only [Instr.checkKey,Sem.run_bind,run_underlying (hT.desc _ _ hd),Result.andThen_ok]
   simp only [Std.Legacy.Range.forIn_eq_forIn_range',Std.Legacy.Range.size,Nat.sub_zero,Cd,Nat.div_one]
   rw [zia P w]
   .simp
   .intro i hi
    have m9:i < n:=by simpa using hi
    obtain ⟨a,ha,hq⟩:=aE _ (zgN (e:=e) (k:=k) n 0 i (by omega) (by omega))
    have h1:=zga hT w em d D e a a hq rfl
    simp only [Sem.run_bind,vK hT hk,IM hT ha w,Result.andThen_ok,h1,Sem.run_pure]
  .cases he

theorem Pt (hT:T.Fits P) (w:World) (em:Bool) (d D:Nat) (t:TypeId) (x:ah) (he:fK T d t x x=some true):(Instr.checkKey em (D+d) t x).run P w=.ok () w:=zga hT w em d D t x x he rfl

theorem II (hk:vZ T kt k=true):plain k=true/\fK T 20 kt k k=some true:=by
 unfold vZ at hk
 split at hk
 .rename_i hp
  refine ⟨hp,?_⟩
  split at hk
  .rename_i b hb;rw [hb,hk]
  .cases hk
 .cases hk

def zvt (ρ:cn):Option (Nat × ah)->Option (Nat × ah)->Prop
 |none,none=>True
 |some (i,v),some (j,u)=>i=j/\VR ρ v u
 |_,_=>False

theorem mQ.of_cons {x:MapEntry} {l m:List MapEntry} (hl:mQ ρ (x::l) m):∃ y m',m=y::m'/\VR ρ x.key y.key/\VR ρ x.val y.val/\x.born=y.born/\plain x.key=true/\mQ ρ l m':=by
 cases m with
 |nil=>have:=hl.1;simp at this
 |cons y m =>
  obtain ⟨h1,h2,h3,h4⟩:=hl.2 0 x y rfl rfl
  exact ⟨y,m,rfl,h1,h2,h3,h4,by have:=hl.1;simpa using this,λi a b ha hb=>hl.2 (i+1) a b (by simpa using ha) (by simpa using hb)⟩
theorem mQ.of_nil {m:List MapEntry} (hl:mQ ρ [] m):m=[]:=by
 have:=hl.1
 simp at this
 exact List.eq_nil_of_length_eq_zero this.symm

theorem zuP (hT:T.Fits P) {d:TypeDesc} (hd:P.underlying kt=some d) {b c:Bool} (he:fK T 20 kt x y=some b) (hs:Instr.sameNow d x y=some c):b=c:=by
 unfold fK at he
 split at he
 .rename_i a c' oc
  have:=hT.desc _ _ oc
  rw [hd] at this
  cases this
  cases he
  simpa [Instr.sameNow] using hs
 .rename_i q k a k' c' oc
  have:=hT.desc _ _ oc
  rw [hd] at this
  cases this
  split at he
  .rename_i hk
   subst hk
   cases he
   simpa [Instr.sameNow] using hs
  .cases he
 .rename_i a c' oc
  have:=hT.desc _ _ oc
  rw [hd] at this
  cases this
  cases he
  simp only [Instr.sameNow,eh] at hs
  rw [<- hs,beq_toListBytes,ByteArray.toList_eq,ByteArray.toList_eq]
 .rename_i fs xs ys oc
  have:=hT.desc _ _ oc
  rw [hd] at this
  cases this
  simp [Instr.sameNow] at hs
 .rename_i n e xs ys oc
  have:=hT.desc _ _ oc
  rw [hd] at this
  cases this
  simp [Instr.sameNow] at hs
 .cases he

theorem zlG (hT:T.Fits P) {kt:TypeId} {d:TypeDesc} (hd:P.underlying kt=some d) {k:ah}:∀ (es ces:List MapEntry) (i:Nat) (r r':Option (Nat × ah)),mQ ρ es ces->qA T kt k es i=some r->Instr.findNow d k ces i=some r'->zvt ρ r r'
 | [],ces,i,r,r',he,hf,hn=>by
  rw [he.of_nil] at hn
  simp only [qA,Instr.findNow,eh] at hf hn
  subst hf hn
  trivial
 |e::es,ces,i,r,r',he,hf,hn=>by
  obtain ⟨y,m,rfl,hk,hv,_,hp,rN⟩:=he.of_cons
  have ml:=hk.bI hp
  simp only [qA,cL] at hf
  obtain ⟨b,hb,hf⟩:=hf
  simp only [Instr.findNow] at hn
  rw [ml] at hn
  cases Yj:Instr.sameNow d k e.key with
  |none=>rw [Yj] at hn;cases hn
  |some c =>
   have:=zuP hT hd hb Yj
   subst this
   rw [Yj] at hn
   cases b with
   |true =>
    simp only [if_true,eh] at hf hn
    subst hf hn
    exact ⟨rfl,hv⟩
   |false =>
    simp only [gB,if_false] at hf hn
    exact zlG hT hd es m (i+1) r r' rN hf hn

theorem zgH (hT:T.Fits P) (w:World) {kt:TypeId} {k:ah}:∀ (es ces:List MapEntry) (i:Nat) (r:Option (Nat × ah)),mQ ρ es ces->qA T kt k es i=some r->∃ r',(Instr.findAsking kt k ces i).run P w=.ok r' w/\zvt ρ r r'
 | [],ces,i,r,he,hf=>by
  rw [he.of_nil]
  simp only [qA,eh] at hf
  subst hf
  exact ⟨none,by simp [Instr.findAsking],trivial⟩
 |e::es,ces,i,r,he,hf=>by
  obtain ⟨y,m,rfl,hk,hv,_,hp,rN⟩:=he.of_cons
  have ml:=hk.bI hp
  simp only [qA,cL] at hf
  obtain ⟨b,hb,hf⟩:=hf
  have hq:(Op.equal kt k y.key).run P w=.ok b w:=by rw [ml];exact PL hT w 20 9980 kt _ _ b hb
  cases b with
  |true =>
   simp only [if_true,eh] at hf
   subst hf
   exact ⟨some (i,y.val),by simp [Instr.findAsking,hq],rfl,hv⟩
  |false =>
   simp only [gB,if_false] at hf
   obtain ⟨r',h1,h2⟩:=zgH hT w es m (i+1) r rN hf
   exact ⟨r',by simp [Instr.findAsking,hq,h1],h2⟩

theorem zqY (hT:T.Fits P) (hk:vZ T kt k=true):∃ d,P.underlying kt=some d:=by
 obtain ⟨_,h1⟩:=II hk
 unfold fK at h1
 split at h1
 all_goals first|exact ⟨_,hT.desc _ _ ‹_›⟩|cases h1

theorem SH (hT:T.Fits P) (w:World) (hk:vZ T kt k=true) {es ces:List MapEntry} {r:Option (Nat × ah)} (he:mQ ρ es ces) (hf:qA T kt k es 0=some r) :
 ∃ r',(Instr.findKey kt k ces).run P w=.ok r' w/\zvt ρ r r':=by
 obtain ⟨d,hd⟩:=zqY hT hk
 cases hn:Instr.findNow d k ces 0 with
 |some r'=>exact ⟨r',by simp [Instr.findKey,run_underlying hd,hn],zlG hT hd es ces 0 r r' he hf hn⟩
 |none =>
  obtain ⟨r',h1,h2⟩:=zgH hT w es ces 0 r he hf
  exact ⟨r',by simp [Instr.findKey,run_underlying hd,hn,h1],h2⟩

theorem SU (hT:T.Fits P) (hz:T.zero t=some v) (w:World):(zeroValue t).run P w=.ok v w/\VR ρ v v:=by
 obtain ⟨⟨i,hi,hiz⟩,hp⟩:=hT.zero t v hz
 exact ⟨by simp [zeroValue,typeInfo,hi,hiz],.dC ρ hp⟩

theorem zq3 (hs:bR ρ h w) (dm:VR ρ x y) {es:List MapEntry} (hm:QX x h=some es) :
 ∃ ces:Array MapEntry,mQ ρ es ces.toList/\((y=.map none/\ces=#[])\/∃ A L clock,x=.map (some A)/\ρ A=some L/\y=.map (some L.b)/\h.get A=some (.map es clock)/\w.heap[L.b]? = some (.map ces clock)):=by
 unfold QX at hm
 split at hm
 .cases hm
  cases dm
  exact ⟨#[],⟨rfl,by intro i x y hx;simp at hx⟩,.inl ⟨rfl,rfl⟩⟩
 .split at hm
  .rename_i A _ Rm clock hg
   cases hm
   cases dm with
   |map hA =>
    rename_i L
    have hb:=hs.j5 A L hA
    rw [hg] at hb
    obtain ⟨ces,hc,he⟩:=hb
    exact ⟨ces,he,.inr ⟨A,L,clock,rfl,hA,rfl,hg,hc⟩⟩
  .cases hm
 .cases hm

theorem zm1 (hT:T.Fits P) (hs:bR ρ h w) {ok:Bool} (dm:VR ρ x y) (hk:VR ρ k k') (hl:B0 T t x k ok h=some v) :
 ∃ u,(Instr.lookup t y k' ok).run P w=.ok u w/\VR ρ v u:=by
 unfold B0 at hl
 split at hl
 .rename_i kt et hd
  split at hl
  .rename_i gV
   simp only [cL,cD,Prod.exists] at hl
   obtain ⟨es,pL,r,hr,v',b,o7,hv⟩:=hl
   have hu:=hT.desc _ _ hd
   obtain ⟨hp,jw⟩:=II gV
   have sZ:k'=k:=hk.bI hp
   subst sZ
   obtain ⟨ces,he,hy⟩:=zq3 hs dm pL
   obtain ⟨r',hf,cQ⟩:=SH hT w gV he hr
   have nG:∀ em,(Instr.checkKey em 10000 kt k').run P w=.ok () w:=λem=>Pt hT w em 20 9980 kt k' jw
   have CW:∀ u',VR ρ v' u'->VR ρ v (if ok then .tuple #[u',.bool b] else u'):=by
    intro u' mL
    rw [<- hv]
    cases ok
    .exact mL
    .simp only [if_true]
     exact (cx.cons mL (.cons (.bool b) (.nil ρ))).fT
   cases r with
   |none =>
    cases r' with
    |some q=>exact cQ.elim
    |none =>
     simp only [cD,da] at o7
     obtain ⟨z,hz,rfl,rfl⟩:=o7
     obtain ⟨h1,h2⟩:=SU (ρ:=ρ) hT hz w
     refine ⟨_,?_,CW z h2⟩
     rcases hy with ⟨rfl,rfl⟩|⟨A,L,clock,_,_,rfl,_,hc⟩
     .simp only [Instr.lookup,Sem.run_bind,run_underlying hu,Result.andThen_ok,Sem.run_pure,nG,hf,h1]
     .have hg:(getObj L.b).run P w=.ok (.map ces clock) w:=by simp [getObj,Sem.run,hc]
      simp only [Instr.lookup,Sem.run_bind,run_underlying hu,Result.andThen_ok,Sem.run_pure,hg,nG,hf,h1]
   |some p =>
    cases r' with
    |none=>exact cQ.elim
    |some q =>
     obtain ⟨i,v1⟩:=p
     obtain ⟨j,u1⟩:=q
     simp only [eh,da] at o7
     obtain ⟨rfl,rfl⟩:=o7
     refine ⟨_,?_,CW u1 cQ.2⟩
     rcases hy with ⟨rfl,rfl⟩|⟨A,L,clock,_,_,rfl,_,hc⟩
     .simp only [Instr.lookup,Sem.run_bind,run_underlying hu,Result.andThen_ok,Sem.run_pure,nG,hf]
     .have hg:(getObj L.b).run P w=.ok (.map ces clock) w:=by simp [getObj,Sem.run,hc]
      simp only [Instr.lookup,Sem.run_bind,run_underlying hu,Result.andThen_ok,Sem.run_pure,hg,nG,hf]
  .cases hl
 .cases hl

theorem zsV:∀ {x y:ah},HM x y=true->x=y:=by
 intro x y hh
 unfold HM at hh
 split at hh
 .simpa using hh
 .simp only [eo,jl,beq_iff_eq] at hh
  rw [hh.1,hh.2]
 .rename_i a b
  obtain ⟨⟨a⟩⟩:=a
  obtain ⟨⟨b⟩⟩:=b
  simpa using hh
 .cases hh
theorem zl0:∀ {l m:List ah},Jb l m=true->l=m
 | [],[],_=>rfl
 |x::l,y::m,hh=>by
  simp only [Jb,eo] at hh
  rw [zsV hh.1,zl0 hh.2]
 | [],_::_,hh=>by cases hh
 |_::_,[],hh=>by cases hh
theorem zlZ (hh:HM x y=true) (n:Nat):Instr.sameBits n x y=true:=by
 have:=zsV hh
 subst this
 unfold HM at hh
 split at hh
 .simp [Instr.sameBits]
 .simp [Instr.sameBits]
 .simp [Instr.sameBits,beq_toListBytes]
 .cases hh
theorem zib:∀ {l m:List ah},Jb l m=true->∀ n,(l.zip m).all (λ(x,y)=>Instr.sameBits n x y)=true
 | [],[],_,_=>rfl
 |x::l,y::m,hh,n=>by
  simp only [Jb,eo] at hh
  simp only [List.zip_cons_cons,nC,eo]
  exact ⟨zlZ hh.1 n,zib hh.2 n⟩
 | [],_::_,hh,_=>by cases hh
 |_::_,[],hh,_=>by cases hh
theorem zic (hh:Hg x y=true):Instr.sameBits 10000 x y=true:=by
 unfold Hg at hh
 split at hh
 .rename_i a b
  have h1:=zib hh 9999
  have h2:=zl0 hh
  have h3:a.size=b.size:=by rw [<- rD,h2,rD]
  rw [Instr.sameBits,h3]
  simpa using h1
 .exact zlZ hh _

theorem zg9 (hT:T.Fits P) (hs:bR ρ h w) {v':ah} (dm:VR ρ x y) (hk:VR ρ k k') (hv:VR ρ v v') (hl:rz T t x k v h=some h') :
 ∃ w',(Instr.mapUpdate t y k' v').run P w=.ok () w'/\Fr ρ ρ h h' w w'/\bR ρ h' w':=by
 unfold rz at hl
 split at hl
 .rename_i kt et A hd
  split at hl
  .rename_i es clock hg
   split at hl
   .rename_i gV
    simp only [cL] at hl
    obtain ⟨r,hr,hl⟩:=hl
    have hu:=hT.desc _ _ hd
    obtain ⟨hp,jw⟩:=II gV
    have sZ:k'=k:=hk.bI hp
    subst sZ
    cases dm with
    |map hA =>
     rename_i L
     have hb:=hs.j5 A L hA
     rw [hg] at hb
     obtain ⟨ces,hc,he⟩:=hb
     obtain ⟨r',hf,cQ⟩:=SH hT w gV he hr
     have nG:∀ em,(Instr.checkKey em 10000 kt k').run P w=.ok () w:=λem=>Pt hT w em 20 9980 kt k' jw
     have iL:∀ o:Obj,(setObj L.b o).run P w=.ok () (w.putObj L.b o):=by
      intro o
      simp [setObj,Sem.run,hc,World.putObj]
     have aW:L.b < w.heap.size:=(mO.1 hc).1
     have og:∀ (b':ba) (o:Obj),qD ρ (w.putObj L.b o) L (some b')->Fr ρ ρ h (h.set A b') w (w.putObj L.b o)/\bR ρ (h.set A b') (w.putObj L.b o):=by
      intro b' o oP
      refine PH hs hA hg (by simp) (by simp) rfl rfl rfl (by simp [World.putObj]) (λq hq=>?_) oP
      simp only [World.putObj]
      rw [G7 (Ne.symm hq)]
     have qS:∀ o:Obj,(w.putObj L.b o).heap[L.b]? = some o:=by
      intro o
      simp [World.putObj,aW]
     cases r with
     |none =>
      cases r' with
      |some q=>exact cQ.elim
      |none =>
       simp only [eh] at hl
       subst hl
       refine ⟨w.putObj L.b (.map (ces.push { key:=k',val:=v',born:=clock }) (clock+1)),?_,og _ _ ⟨_,qS _,?_⟩⟩
       .simp [Instr.mapUpdate,run_underlying hu,getObj,Sem.run,hc,nG,hf,iL]
       .refine ⟨by simp [he.1],λi a b ha hb=>?_⟩
        have hlen:=he.1
        rw [Array.toList_push] at hb
        rcases HA i es.length with h1|h1|h1
        .rw [nz h1] at ha
         rw [nz (by omega)] at hb
         exact he.2 i a b ha hb
        .rw [qC (by omega)] at ha
         rw [qC (by omega)] at hb
         have e1:i - es.length=0:=by omega
         have e2:i - ces.toList.length=0:=by omega
         rw [e1] at ha
         rw [e2] at hb
         simp at ha hb
         subst ha hb
         exact ⟨.dC ρ hp,hv,rfl,hp⟩
        .rw [qC (by omega)] at ha
         have:i - es.length=(i - es.length - 1)+1:=by omega
         rw [this] at ha
         simp at ha
     |some q =>
      obtain ⟨i,v1⟩:=q
      cases r' with
      |none=>exact cQ.elim
      |some q' =>
       obtain ⟨j,u1⟩:=q'
       obtain ⟨rfl,_⟩:=cQ
       simp only [cL] at hl
       obtain ⟨e,Mp,hl⟩:=hl
       split at hl
       .rename_i gL
        cases hl
        have iK:i < ces.size:=by
         have h1:=(dH.1 Mp).1
         have:=he.1
         simp at this
         omega
        obtain ⟨k1,k2,k3,k4⟩:=he.2 i e ces[i] Mp (by simp)
        have XL:ces[i].key=e.key:=k1.bI k4
        have xG:=zic gL
        refine ⟨w.putObj L.b (.map (ces.modify i λe=>{ e with key:=k',val:=v' }) clock),?_,og _ _ ⟨_,qS _,?_⟩⟩
        .simp [Instr.mapUpdate,run_underlying hu,getObj,Sem.run,hc,nG,hf,iL,Instr.keyThatStays,XL,xG,iK]
        .refine ⟨by simp [he.1],λq a b ha hb=>?_⟩
         rw [Array.toList_modify] at hb
         rw [Cb] at ha hb
         by_cases hq:i=q
         .subst hq
          simp only [if_true,Option.map_eq_map,cD] at ha hb
          obtain ⟨a0,L8,rfl⟩:=ha
          obtain ⟨b0,CD,rfl⟩:=hb
          obtain ⟨_,_,h3,_⟩:=he.2 i a0 b0 L8 CD
          exact ⟨.dC ρ hp,hv,h3,hp⟩
         .simp only [aA hq] at ha hb
          exact he.2 q a b (by simpa using ha) (by simpa using hb)
       .cases hl
   .cases hl
  .cases hl
 .cases hl

theorem zfm (hs:bR ρ h w) {A:Nat} {L:Loc} {es Rm:List MapEntry} {ces AQ:Array MapEntry} {clock clock':Nat} (hA:ρ A=some L) (hg:h.get A=some (.map es clock)) (hc:w.heap[L.b]? = some (.map ces clock))
 (he:mQ ρ Rm AQ.toList):Fr ρ ρ h (h.set A (.map Rm clock')) w (w.putObj L.b (.map AQ clock'))/\bR ρ (h.set A (.map Rm clock')) (w.putObj L.b (.map AQ clock')):=by
 have aW:L.b < w.heap.size:=(mO.1 hc).1
 refine PH hs hA hg (by simp) (by simp) rfl rfl rfl (by simp [World.putObj]) (λq hq=>?_) ⟨AQ,by simp [World.putObj,aW],he⟩
 simp only [World.putObj]
 rw [G7 (Ne.symm hq)]

theorem mQ.push {es:List MapEntry} {ces:Array MapEntry} (he:mQ ρ es ces.toList) {k v v':ah} {clock:Nat} (hp:plain k=true) (hv:VR ρ v v') :
 mQ ρ (es++[{ key:=k,val:=v,born:=clock }]) (ces.push { key:=k,val:=v',born:=clock }).toList:=by
 refine ⟨by simp [he.1],λi a b ha hb=>?_⟩
 have hlen:=he.1
 rw [Array.toList_push] at hb
 rcases HA i es.length with h1|h1|h1
 .rw [nz h1] at ha
  rw [nz (by omega)] at hb
  exact he.2 i a b ha hb
 .rw [qC (by omega)] at ha
  rw [qC (by omega)] at hb
  have e1:i - es.length=0:=by omega
  have e2:i - ces.toList.length=0:=by omega
  rw [e1] at ha
  rw [e2] at hb
  simp at ha hb
  subst ha hb
  exact ⟨.dC ρ hp,hv,rfl,hp⟩
 .rw [qC (by omega)] at ha
  have:i - es.length=(i - es.length - 1)+1:=by omega
  rw [this] at ha
  simp at ha

theorem mQ.modify {es:List MapEntry} {ces:Array MapEntry} (he:mQ ρ es ces.toList) (i:Nat) {f g:MapEntry->MapEntry}
 (Mt:∀ a b,VR ρ a.key b.key->VR ρ a.val b.val->a.born=b.born->plain a.key=true->VR ρ (f a).key (g b).key/\VR ρ (f a).val (g b).val/\(f a).born=(g b).born/\plain (f a).key=true) :
 mQ ρ (es.modify i f) (ces.modify i g).toList:=by
 refine ⟨by simp [he.1],λq a b ha hb=>?_⟩
 rw [Array.toList_modify] at hb
 rw [Cb] at ha hb
 by_cases hq:i=q
 .subst hq
  simp only [if_true,Option.map_eq_map,cD] at ha hb
  obtain ⟨a0,L8,rfl⟩:=ha
  obtain ⟨b0,CD,rfl⟩:=hb
  obtain ⟨h1,h2,h3,h4⟩:=he.2 i a0 b0 L8 CD
  exact Mt a0 b0 h1 h2 h3 h4
 .simp only [aA hq] at ha hb
  exact he.2 q a b (by simpa using ha) (by simpa using hb)

theorem zoz (hT:T.Fits P) (hs:bR ρ h w) (dm:VR ρ x y) (hk:VR ρ k k') (hl:DJ T t x k h=some (v,h')) :
 ∃ u w',(Instr.mapEntry t y k').run P w=.ok u w'/\Fr ρ ρ h h' w w'/\bR ρ h' w'/\VR ρ v u:=by
 unfold DJ at hl
 split at hl
 .rename_i kt et A hd
  split at hl
  .rename_i es clock hg
   split at hl
   .rename_i gV
    simp only [cL] at hl
    obtain ⟨r,hr,hl⟩:=hl
    have hu:=hT.desc _ _ hd
    obtain ⟨hp,jw⟩:=II gV
    have sZ:k'=k:=hk.bI hp
    subst sZ
    cases dm with
    |map hA =>
     rename_i L
     have hb:=hs.j5 A L hA
     rw [hg] at hb
     obtain ⟨ces,hc,he⟩:=hb
     obtain ⟨r',hf,cQ⟩:=SH hT w gV he hr
     have nG:∀ em,(Instr.checkKey em 10000 kt k').run P w=.ok () w:=λem=>Pt hT w em 20 9980 kt k' jw
     have iL:∀ o:Obj,(setObj L.b o).run P w=.ok () (w.putObj L.b o):=by
      intro o
      simp [setObj,Sem.run,hc,World.putObj]
     cases r with
     |none =>
      cases r' with
      |some q=>exact cQ.elim
      |none =>
       simp only [cD,da] at hl
       obtain ⟨z,hz,rfl,rfl⟩:=hl
       obtain ⟨z1,z2⟩:=SU (ρ:=ρ) hT hz w
       obtain ⟨f1,f2⟩:=zfm (clock':=clock+1) hs hA hg hc (he.push (clock:=clock) hp z2)
       refine ⟨_,_,?_,f1,f2,(cx.cons z2 (.cons (.int .i64 clock) (.nil ρ))).fT⟩
       simp [Instr.mapEntry,run_underlying hu,getObj,Sem.run,hc,nG,hf,iL,z1,goInt]
     |some q =>
      obtain ⟨i,v1⟩:=q
      cases r' with
      |none=>exact cQ.elim
      |some q' =>
       obtain ⟨j,u1⟩:=q'
       obtain ⟨rfl,mL⟩:=cQ
       simp only [cL] at hl
       obtain ⟨e,Mp,hl⟩:=hl
       split at hl
       .rename_i gL
        cases hl
        have iK:i < ces.size:=by
         have h1:=(dH.1 Mp).1
         have:=he.1
         simp at this
         omega
        obtain ⟨k1,k2,k3,k4⟩:=he.2 i e ces[i] Mp (by simp)
        have XL:ces[i].key=e.key:=k1.bI k4
        have xG:=zic gL
        obtain ⟨f1,f2⟩:=zfm (clock':=clock) hs hA hg hc (he.modify i (f:=λe=>{ e with key:=k' }) (g:=λe=>{ e with key:=k' }) (λa b h1 h2 h3 h4=>⟨.dC ρ hp,h2,h3,hp⟩))
        refine ⟨_,_,?_,f1,f2,(cx.cons mL (.cons (.int .i64 e.born) (.nil ρ))).fT⟩
        simp [Instr.mapEntry,run_underlying hu,getObj,Sem.run,hc,nG,hf,iL,Instr.keyThatStays,XL,xG,iK,goInt,k3]
       .cases hl
   .cases hl
  .cases hl
 .cases hl

theorem zjj {s:Int}:∀ {es ces:List MapEntry} {n i:Nat},(∀ (i:Nat) a b,es[i]? = some a->ces[i]? = some b->a.born=b.born)->es.length=ces.length->JE s es n=some i->n<=i/\ces.findIdx? (λe=>(e.born:Int) == s)=some (i - n)
 | [],_,_,_,_,_,h=>by cases h
 |a::es,[],_,_,_,hl,_=>by cases hl
 |a::es,b::ces,n,i,hb,hl,h=>by
  have h0:=hb 0 a b rfl rfl
  rw [JE] at h
  rw [List.findIdx?_cons]
  split at h
  .rename_i hc
   cases h
   rw [h0] at hc
   simp [hc]
  .rename_i hc
   rw [h0] at hc
   obtain ⟨h1,h2⟩:=zjj (es:=es) (ces:=ces) (λi a b ha oP=>hb (i+1) a b (by simpa using ha) (by simpa using oP)) (by simpa using hl) h
   refine ⟨by omega,?_⟩
   have:¬ ((b.born:Int) == s)=true:=by simpa using hc
   rw [aA this,h2]
   simp
   omega

theorem zho (hs:bR ρ h w) {s s' v':ah} (dm:VR ρ x y) (zK:VR ρ s s') (hv:VR ρ v v') (hl:yU x s v h=some h') :
 ∃ w',(Instr.entryStore t y s' v').run P w=.ok () w'/\Fr ρ ρ h h' w w'/\bR ρ h' w':=by
 unfold yU at hl
 split at hl
 .rename_i A kd b
  split at hl
  .rename_i es clock hg
   simp only [cD] at hl
   obtain ⟨i,hi,rfl⟩:=hl
   cases zK
   cases dm with
   |map hA =>
    rename_i L
    have hb:=hs.j5 A L hA
    rw [hg] at hb
    obtain ⟨ces,hc,he⟩:=hb
    have iL:∀ o:Obj,(setObj L.b o).run P w=.ok () (w.putObj L.b o):=by
     intro o
     simp [setObj,Sem.run,hc,World.putObj]
    obtain ⟨_,Fo⟩:=zjj (ces:=ces.toList) (λi a b ha hb=>(he.2 i a b ha hb).2.2.1) he.1 hi
    have Xq:ces.findIdx? (λe=>(e.born:Int) == b)=some i:=by
     cases ces with|mk l=>simpa using Fo
    obtain ⟨f1,f2⟩:=zfm (clock':=clock) hs hA hg hc (he.modify i (f:=λe=>{ e with val:=v }) (g:=λe=>{ e with val:=v' }) (λa b h1 h2 h3 h4=>⟨h1,hv,h3,h4⟩))
    refine ⟨_,?_,f1,f2⟩
    simp [Instr.entryStore,getObj,Sem.run,hc,iL,asInt,asIntOf,Xq]
  .cases hl
 .cases hl

end
end Go.Am
namespace Go.Am
open Go.RowKit
variable {p v x y:ah} {s t:TypeId}
section
variable {P:Program} {T:bO} {ρ:cn} {h h':Heap} {w:World}

theorem mQ.eraseIdx {l m:List MapEntry} (hl:mQ ρ l m) (i:Nat):mQ ρ (l.eraseIdx i) (m.eraseIdx i):=by
 have hlen:=hl.1
 refine ⟨by rw [List.length_eraseIdx,List.length_eraseIdx,hlen],λj x y hx hy=>?_⟩
 rw [List.getElem?_eraseIdx] at hx hy
 split at hx
 .rename_i hj;rw [aB hj] at hy;exact hl.2 j x y hx hy
 .rename_i hj;rw [aA hj] at hy;exact hl.2 (j+1) x y hx hy

theorem zmO (hT:T.Fits P) (hs:bR ρ h w) {ty:TypeId} {ts:List TypeId} {k k':ah} (dm:VR ρ x y) (hk:VR ρ k k') (hl:Ac T t x k h=some h') :
 ∃ w',(Builtin.delete_ (t::ts).toArray ty #[y,k']).run P w=.ok (.tuple #[]) w'/\Fr ρ ρ h h' w w'/\bR ρ h' w':=by
 unfold Ac at hl
 split at hl
 .rename_i kt et hd
  split at hl
  .rename_i gV
   cases hl
   obtain ⟨hp,jw⟩:=II gV
   have sZ:k'=k:=hk.bI hp
   subst sZ
   cases dm
   refine ⟨w,?_,Fr.refl _ _ _,hs⟩
   have nG:∀ em,(Instr.checkKey em 10000 kt k').run P w=.ok () w:=λem=>Pt hT w em 20 9980 kt k' jw
   simp [Builtin.delete_,run_underlying (hT.desc _ _ hd),nG]
  .cases hl
 .rename_i kt et A hd
  split at hl
  .rename_i es clock hg
   split at hl
   .rename_i gV
    simp only [cL] at hl
    obtain ⟨r,hr,hl⟩:=hl
    have hu:=hT.desc _ _ hd
    obtain ⟨hp,jw⟩:=II gV
    have sZ:k'=k:=hk.bI hp
    subst sZ
    cases dm with
    |map hA =>
     rename_i L
     have hb:=hs.j5 A L hA
     rw [hg] at hb
     obtain ⟨ces,hc,he⟩:=hb
     obtain ⟨r',hf,cQ⟩:=SH hT w gV he hr
     have nG:∀ em,(Instr.checkKey em 10000 kt k').run P w=.ok () w:=λem=>Pt hT w em 20 9980 kt k' jw
     have eT:(getObj L.b).run P w=.ok (.map ces clock) w:=by simp [getObj,Sem.run,hc]
     have iL:∀ o:Obj,(setObj L.b o).run P w=.ok () (w.putObj L.b o):=by
      intro o
      simp [setObj,Sem.run,hc,World.putObj]
     have aW:L.b < w.heap.size:=(mO.1 hc).1
     have og:∀ (b':ba) (o:Obj),qD ρ (w.putObj L.b o) L (some b')->Fr ρ ρ h (h.set A b') w (w.putObj L.b o)/\bR ρ (h.set A b') (w.putObj L.b o):=by
      intro b' o oP
      refine PH hs hA hg (by simp) (by simp) rfl rfl rfl (by simp [World.putObj]) (λq hq=>?_) oP
      simp only [World.putObj]
      rw [G7 (Ne.symm hq)]
     have qS:∀ o:Obj,(w.putObj L.b o).heap[L.b]? = some o:=by
      intro o
      simp [World.putObj,aW]
     cases r with
     |none =>
      cases r' with
      |some q=>exact cQ.elim
      |none =>
       cases hl
       refine ⟨w.putObj L.b (.map ces clock),?_,og _ _ ⟨_,qS _,he⟩⟩
       simp [Builtin.delete_,run_underlying hu,eT,nG,hf,iL]
     |some q =>
      obtain ⟨i,v1⟩:=q
      cases r' with
      |none=>exact cQ.elim
      |some q' =>
       obtain ⟨j,u1⟩:=q'
       obtain ⟨rfl,_⟩:=cQ
       cases hl
       refine ⟨w.putObj L.b (.map (ces.eraseIdxIfInBounds i) clock),?_,og _ _ ⟨_,qS _,?_⟩⟩
       .simp [Builtin.delete_,run_underlying hu,eT,nG,hf,iL]
       .have e1:(ces.eraseIdxIfInBounds i).toList=ces.toList.eraseIdx i:=by simp
        rw [e1]
        exact he.eraseIdx i
   .cases hl
  .cases hl
 .cases hl

theorem zoQ (hT:T.Fits P) (dm:VR ρ x y) (hi:Jv T t x=some v) (w:World):∃ u,(Instr.makeInterface t y).run P w=.ok u w/\VR ρ v u:=by
 unfold Jv at hi
 split at hi
 .cases hi
 .rename_i d aS hd
  cases hi
  refine ⟨.iface t y,?_,.iface t dm⟩
  have:=hT.desc _ _ hd
  simp only [Instr.makeInterface,Sem.run_bind,run_underlying this,Result.andThen_ok]
  cases d <;> first|rfl|exact (aS _ rfl).elim
 .cases hi

theorem zs9 (hT:T.Fits P) (hz:T.zero t=some v) (w:World):(zeroValue t).run P w=.ok v w:=(SU (ρ:=λ_=>none) hT hz w).1

theorem zmz (hT:T.Fits P) {xt:TypeId} {ok:Bool} (dm:VR ρ x y) (hi:Qh T x t ok=some v) (w:World):∃ u,(Instr.typeAssert y xt t ok).run P w=.ok u w/\VR ρ v u:=by
 unfold Qh at hi
 split at hi
 .cases hi
 .rename_i d aS hd
  have hu:=hT.desc _ _ hd
  have X5:∀ ms,d≠.interface ms:=λms e=>aS ms e
  have CL:∀ z,T.zero t=some z->VR ρ (.tuple #[z,.bool false]) (.tuple #[z,.bool false]):=λz hz=>(cx.cons (SU (ρ:=ρ) hT hz w).2 (.cons (.bool false) (.nil ρ))).fT
  split at hi
  .rename_i t' v'
   cases dm with
   |iface _ dm =>
    rename_i y'
    split at hi
    .rename_i e
     subst e
     cases hi
     refine ⟨if ok then .tuple #[y',.bool true] else y',?_,?_⟩
     .simp only [Instr.typeAssert,Sem.run_bind,run_underlying hu,Result.andThen_ok]
      cases d <;> first|(exact (X5 _ rfl).elim)|simp
     .cases ok
      .exact dm
      .exact (cx.cons dm (.cons (.bool true) (.nil ρ))).fT
    .rename_i e
     split at hi
     .rename_i cE
      simp only [cD] at hi
      obtain ⟨z,hz,rfl⟩:=hi
      refine ⟨_,?_,CL z hz⟩
      simp only [Instr.typeAssert,Sem.run_bind,run_underlying hu,Result.andThen_ok]
      cases d <;> first|(exact (X5 _ rfl).elim)|simp [e,cE,zs9 hT hz]
     .cases hi
  .cases dm
   split at hi
   .rename_i cE
    simp only [cD] at hi
    obtain ⟨z,hz,rfl⟩:=hi
    refine ⟨_,?_,CL z hz⟩
    simp only [Instr.typeAssert,Sem.run_bind,run_underlying hu,Result.andThen_ok]
    cases d <;> first|(exact (X5 _ rfl).elim)|simp [cE,zs9 hT hz]
   .cases hi
  .cases hi
 .cases hi

def TG (ρ:cn):gQ->Place->Prop
 | .val v,.val u=>VR ρ v u
 | .var p,.var a=>VR ρ p (.pointer (some a))
 |_,_=>False

theorem zgO (hT:T.Fits P) (hs:bR ρ h w) {a:Addr} (hp:VR ρ p (.pointer (some a))) (hl:ic T t p h=some v):∃ u,(loadVar t a).run P w=.ok u w/\VR ρ v u:=by
 obtain ⟨u,h1,h2⟩:=zgf hT hs hp hl
 refine ⟨u,?_,h2⟩
 rw [<- h1]
 simp [Instr.loadAt,Instr.sureAddr]
theorem S9 (hT:T.Fits P) (hs:bR ρ h w) {x:gQ} {y:Place} (dm:TG ρ x y) (hg:x.get T t h=some v):∃ u,(y.get t).run P w=.ok u w/\VR ρ v u:=by
 cases x with
 |val v' =>
  cases y with
  |val u=>cases hg;exact ⟨u,rfl,dm⟩
  |var a=>exact dm.elim
 |var p =>
  cases y with
  |val u=>exact dm.elim
  |var a=>exact zgO hT hs dm hg
theorem zvG {u:ah} {f:Nat} {q:ah} (hp:VR ρ p u) (hf:jg T s p f=some q):∃ a,u=.pointer (some a)/\(asAddr u).run P w=.ok a w:=by
 unfold jg at hf
 split at hf
 .cases hp with
  |ptr hA=>exact ⟨_,rfl,by simp [asAddr]⟩
 .cases hf
theorem ze0 (hT:T.Fits P) {fs:Array Field} {q:ah} {a:Addr} {i:Nat} {f:Field} (hd:T.desc s=some (.struct fs)) (hi:fs[i]? = some f) (hp:VR ρ p (.pointer (some a))) (hf:jg T s p i=some q) :
 ∃ a',(fieldPlace a f).run P w=.ok a' w/\VR ρ q (.pointer (some a')):=by
 unfold jg at hf
 rw [hd] at hf
 split at hf
 .rename_i fs' A o e1
  cases e1
  simp only [cL] at hf
  obtain ⟨fl,zF,n,hn,hf⟩:=hf
  rw [hi] at zF
  cases zF
  split at hf
  .cases hf
  .rename_i h0
   cases hf
   cases hp with
   |ptr hA =>
    rename_i L
    refine ⟨⟨L.b,L.s+(o+f.offset),none⟩,?_,.ptr hA⟩
    simp [fieldPlace,vK hT hn,h0,Addr.add_mid,qk]
 .cases hf

theorem Sv (hT:T.Fits P) (hs:bR ρ h w):∀ (l:List FieldStep) (t:TypeId) (x:gQ) (y:Place) (r:TypeId × gQ),TG ρ x y->Jf T h l t x=some r->∃ y',(follow l t y).run P w=.ok (r.1,y') w/\TG ρ r.2 y'
 | [],t,x,y,r,dm,hf=>by cases hf;exact ⟨y,by simp [follow],dm⟩
 |s::l,t,x,y,r,dm,hf=>by
  simp only [Jf] at hf
  split at hf
  .rename_i fs hd
   simp only [cL] at hf
   obtain ⟨f,hi,hf⟩:=hf
   have hu:=hT.desc _ _ hd
   split at hf
   .rename_i zE
    simp only [cL] at hf
    obtain ⟨p,hp,q,hq,hf⟩:=hf
    obtain ⟨u,h1,h2⟩:=S9 hT hs dm hp
    obtain ⟨a,rfl,h3⟩:=zvG (P:=P) (w:=w) h2 hq
    obtain ⟨a',h4,h5⟩:=ze0 (P:=P) (w:=w) hT hd hi h2 hq
    obtain ⟨y',h6,h7⟩:=Sv hT hs l _ (.var q) (.var a') r h5 hf
    refine ⟨y',?_,h7⟩
    simp only [follow,Sem.run_bind,run_underlying hu,Result.andThen_ok,hi,zE,if_true,h1,h3,h4,h6]
   .rename_i zE
    split at hf
    .rename_i p
     simp only [cL] at hf
     obtain ⟨q,hq,hf⟩:=hf
     cases y with
     |val u=>exact dm.elim
     |var a =>
      obtain ⟨a',h4,h5⟩:=ze0 (P:=P) (w:=w) hT hd hi dm hq
      obtain ⟨y',h6,h7⟩:=Sv hT hs l _ (.var q) (.var a') r h5 hf
      refine ⟨y',?_,h7⟩
      simp only [follow,Sem.run_bind,run_underlying hu,Result.andThen_ok,hi,zE,gB,if_false,h4,h6]
    .rename_i cs
     simp only [cL] at hf
     obtain ⟨v,hv,hf⟩:=hf
     cases y with
     |var a=>exact dm.elim
     |val u =>
      cases dm with
      |agg hc hh =>
       rename_i ds
       obtain ⟨vc,h4,h5⟩:=zj9 (ds:=ds) hT (VR.agg hc hh).Ej hv w
       obtain ⟨y',h6,h7⟩:=Sv hT hs l _ (.val v) (.val vc) r h5 hf
       refine ⟨y',?_,h7⟩
       simp only [follow,Sem.run_bind,run_underlying hu,Result.andThen_ok,hi,zE,gB,if_false,h4,h6]
    .cases hf
  .cases hf

theorem zkm (hT:T.Fits P) (hs:bR ρ h w) {xt:TypeId} {x:gQ} {y:Place} {ptr:Bool} (dm:TG ρ x y) (hr:zkl T xt x ptr h=some v) (wr:Option String):∃ u,(receiverAt xt y ptr wr).run P w=.ok u w/\VR ρ v u:=by
 unfold zkl at hr
 split at hr
 .rename_i e hd
  obtain ⟨u,h1,h2⟩:=S9 hT hs dm hr
  refine ⟨u,?_,h2⟩
  simp only [receiverAt,Sem.run_bind,run_underlying (hT.desc _ _ hd),Result.andThen_ok,h1]
 .rename_i elem hd
  simp only [cL] at hr
  obtain ⟨p,hp,hr⟩:=hr
  obtain ⟨u,h1,h2⟩:=S9 hT hs dm hp
  have hpu:∃ a,u=.pointer (some a):=by
   unfold ic at hr
   split at hr
   .cases h2 with
    |ptr hA=>exact ⟨_,rfl⟩
   .cases hr
  obtain ⟨a,rfl⟩:=hpu
  obtain ⟨u',h3,h4⟩:=zgO hT hs h2 hr
  refine ⟨u',?_,h4⟩
  simp only [receiverAt,Sem.run_bind,run_underlying (hT.desc _ _ hd),Result.andThen_ok,h1]
  cases wr with
  |none=>simp [asAddr,h3]
  |some nm =>
   have hw:(Builtin.ssaWrapNilChk_ #[xt] xt #[.pointer (some a),strVal "",strVal nm]).run P w=.ok (.pointer (some a)) w:=rfl
   simp [hw,asAddr,h3]
 .rename_i d p aS hd
  split at hr
  .rename_i a
   cases hr
   cases y with
   |val u=>exact dm.elim
   |var a' =>
    refine ⟨.pointer (some a'),?_,dm⟩
    simp only [receiverAt,Sem.run_bind,run_underlying (hT.desc _ _ hd),Result.andThen_ok]
    cases d <;> first|rfl|exact (aS _ rfl).elim
  .cases hr
 .rename_i d aS hd
  obtain ⟨u,h1,h2⟩:=S9 hT hs dm hr
  refine ⟨u,?_,h2⟩
  simp only [receiverAt,Sem.run_bind,run_underlying (hT.desc _ _ hd),Result.andThen_ok]
  cases d <;> first|exact h1|exact (aS _ rfl).elim
 .cases hr

theorem zm3 (hT:T.Fits P) (hs:bR ρ h w) {u r:ah} {name:String} {f:FuncId} (hv:VR ρ v u) (hm:wS T t v name h=some (f,r)) (fuel:Nat):∃ r',(method (fuel+1) t u name).run P w=.ok (f,r') w/\VR ρ r r':=by
 unfold wS at hm
 simp only [cL,Prod.exists] at hm
 obtain ⟨m,il,xt,x,hf,hm⟩:=hm
 obtain ⟨i,hi,Mu⟩:=hT.yH _ _ _ il
 obtain ⟨y,h1,h2⟩:=Sv hT hs m.path.toList t (.val v) (.val u) (xt,x) hv hf
 split at hm
 .rename_i f' ptr u5
  simp only [cD,da] at hm
  obtain ⟨r1,hr,rfl,rfl⟩:=hm
  obtain ⟨r',h3,h4⟩:=zkm hT hs h2 hr (if m.path.isEmpty then some ((name.splitOn ".").getLastD name) else none)
  refine ⟨r',?_,h4⟩
  have hti:(typeInfo t).run P w=.ok i w:=by simp [typeInfo,hi]
  simp only [method,Sem.run_bind,hti,Result.andThen_ok,Mu,h1,u5,h3,Sem.run_pure]
 .cases hm

theorem zty (hT:T.Fits P) {ty:TypeId} (dm:VR ρ x y) (hc:EF T t x=some v) (ts:List TypeId) (w:World):∃ u,(Builtin.cap_ (t::ts).toArray ty #[y]).run P w=.ok u w/\VR ρ v u:=by
 unfold EF at hc
 split at hc
 .rename_i e a n c hd
  split at hc
  .rename_i aW
   cases hc
   have key:∃ a' n',y=.slice a' n' c:=by
    cases dm with
    |dD=>exact ⟨_,_,rfl⟩
    |slice=>exact ⟨_,_,rfl⟩
    |cA h1 h2=>omega
   obtain ⟨a',n',rfl⟩:=key
   exact ⟨_,by simp [Builtin.cap_,run_underlying (hT.desc _ _ hd),goInt],.int _ _⟩
  .cases hc
 .cases hc

theorem zlv:∀ (l m:List ah) (bs:List UInt8),cx ρ l m->QK l=some bs->∃ ns:List Int,m=ns.map (Value.int .u8)/\bs=ns.map λn=>UInt8.ofNat n.toNat
 | [],m,bs,hv,hb=>by
  rw [hv.of_nil]
  cases hb
  exact ⟨[],rfl,rfl⟩
 |x::l,m,bs,hv,hb=>by
  obtain ⟨y,m',rfl,h1,h2⟩:=hv.of_cons
  cases x with
  |int k n =>
   cases k <;> simp only [QK] at hb <;> try cases hb
   simp only [cD] at hb
   obtain ⟨bs',oP,rfl⟩:=hb
   cases h1
   obtain ⟨ns,rfl,rfl⟩:=zlv l m' bs' h2 oP
   exact ⟨n::ns,rfl,rfl⟩
  |_=>simp [QK] at hb

theorem zla (hT:T.Fits P) (hs:bR ρ h w) {d:TypeId} (dm:VR ρ x y) (hb:To T s d x h=some v):∃ u,(convert s d y).run P w=.ok u w/\VR ρ v u:=by
 unfold To at hb
 split at hb
 .rename_i e a n c pP Xe
  split at hb
  .rename_i hed
   simp only [cL,cD] at hb
   obtain ⟨l,hl,bs,H8,rfl⟩:=hb
   obtain ⟨a',c',m,rfl,hv,hlen,eC⟩:=Z9 (P:=P) hs dm hl
   obtain ⟨ns,rfl,rfl⟩:=zlv l m bs hv H8
   refine ⟨_,?_,.string _⟩
   rw [run_convert_bytes_string w s d e a' n c' (hT.desc _ _ pP) (hT.desc _ _ hed) (hT.desc _ _ Xe)]
   cases a' with
   |none =>
    have hn:n=0:=by cases dm;rfl
    subst hn
    have:ns=[]:=by simpa using hlen
    subst this
    rfl
   |some ad =>
    have h1:=eC w rfl n (bo _)
    have h2:(loadCells ad n).run P w=.ok (ns.map (Value.int .u8)).toArray w:=by
     have h3:(Builtin.firstCells 1 n (.slice (some ad) n c'))=loadCells ad (n*1):=rfl
     rw [h3,Nat.mul_one] at h1
     rw [h1]
     congr 2
     exact gA (by rw [hlen,Nat.mul_one];exact bo _)
    rw [run_bytesToString w ad n c' ns h2,foldl_push_bytes]
    simp
  .cases hb
 .cases hb

theorem zlh (hT:T.Fits P) (hs:bR ρ h w) (cp:fQ ρ h h') {d:TypeId} (jd:Td T s=true) (hx:VR ρ x y) (hl:Ja T d x h=some (v,h')) :
 ∃ ρ' u w',(convert s d y).run P w=.ok u w'/\Fr ρ ρ' h h' w w'/\bR ρ' h' w'/\VR ρ' v u:=by
 have ku:P.underlying s=some .string:=by
  unfold Td at jd
  split at jd
  .rename_i hd;exact hT.desc _ _ hd
  .cases jd
 unfold Ja at hl
 split at hl
 .rename_i e b hd
  split at hl
  .rename_i uL z he hi
   split at hl
   .cases hl
   .rename_i F7
    have dF:¬ b.size > 1152921504606846976:=λg=>F7 (.inl g)
    have Mk:e=QS:=Decidable.byContradiction λg=>F7 (.inr g)
    cases hl
    cases hx
    have eC:=Lib.run_convert_string_bytes w s d e b ku (hT.desc _ _ hd) (hT.desc _ _ he)
    have kW:=grownCap_ge w b.size 0 e
    have hle:=grownCap_le_maxLen w b.size 0 e (by unfold maxLen;omega)
    have mj:(Lib.bytesCells w e b).size=grownCap w b.size 0 e:=by
     have H8:b.data.size=b.size:=rfl
     simp only [Lib.bytesCells,Array.size_append,Array.size_map,Array.size_replicate,H8]
     omega
    have hW:(Lib.bytesWorld w e b).heap=w.heap.push (.cells (Lib.bytesCells w e b) e ((Lib.bytesCells w e b).size,(Lib.bytesCells w e b).size+1)):=by
     apply Array.ext_getElem?
     intro j
     rw [w7]
     by_cases hj:j=w.heap.size
     .rw [aB hj,hj,Lib.bytesWorld_at_new]
     .rw [aA hj]
      by_cases XJ:j < w.heap.size
      .exact Lib.bytesWorld_at_old w e b j XJ
      .rw [Array.getElem?_eq_none (by rw [Lib.bytesWorld_size];omega),Array.getElem?_eq_none (by omega)]
    have jT:=B1 (k:=1) (q:=b.size) (by omega) (by unfold G;omega)
    obtain ⟨ρ',hρ,cQ,dR⟩:=zki (W:=Lib.bytesWorld w e b) (cs:=b.data.toList.map λu=>Value.int .u8 u.toNat) (m:=b.data.toList.map λu=>Value.int .u8 u.toNat) hs (cp _ (bo _) (by rw [Heap.size_push];omega))
     (fz:=((Lib.bytesCells w e b).size,(Lib.bytesCells w e b).size+1)) ⟨by intro j hj hh;have:=hh.1;simp at this;omega,.inl Mk⟩ hW
     (by simp [Lib.bytesWorld,World.freeze,World.alloc,World.drew,-World.alloc_eq,-World.drew_eq]) (by simp [Lib.bytesWorld,World.freeze,World.alloc,World.drew,-World.alloc_eq,-World.drew_eq]) (by simp [Lib.bytesWorld,World.freeze,World.alloc,World.drew,-World.alloc_eq,-World.drew_eq])
     (by refine se ?_ (by simp) λj hj=>?_
         .simp [Lib.bytesCells]
         .simp only [nA,rD] at hj
          rw [j3]
          simp only [Lib.bytesCells,JA,Array.toList_map]
          rw [nz (by simpa using hj)])
     (by refine ⟨rfl,λj a c ha hc=>?_⟩
         rw [ha] at hc
         cases hc
         rw [lS,cD] at ha
         obtain ⟨q,_,rfl⟩:=ha
         exact .int .u8 _)
    refine ⟨ρ',_,_,eC,cQ,dR,?_⟩
    refine .cA hρ jT.1 (by rw [jT.2.1];exact kW) (by rw [jT.2.1];exact bo _) (by rw [jT.2.2];omega) hle (λ_=>⟨by simp,?_⟩)
    rw [jT.2.2]
    show 0+0+grownCap w b.size 0 e*1<=(Lib.bytesCells w e b).size
    rw [mj]
    omega
  .cases hl
 .cases hl
end
end Go.Am
namespace Go.Am
open Go.RowKit
variable {e:Env} {v:ah}

section
variable {P:Program} {T:bO} {ρ:cn} {h h':Heap} {w:World}

theorem cq.put {e:Env} {a:Act} (he:cq ρ e a.tmps) {v u:ah} (hv:VR ρ v u) (d:Option Tmp):cq ρ (Am.put e d v) (a.put d u).tmps:=by
 cases d with
 |none=>exact he
 |some d =>
  refine ⟨by simp [Am.put,Act.put,Env.length_set,he.1],λi=>?_⟩
  simp only [Am.put,Act.put,Env.aJ]
  by_cases hi:i=d/\d < e.length
  .rw [aB hi]
   obtain ⟨rfl,aW⟩:=hi
   have:(a.tmps.setIfInBounds i u).getD i undef=u:=by
    have ML:i < a.tmps.size:=by rw [<- he.1];exact aW
    simp [ML]
   rw [this]
   exact hv
  .rw [aA hi]
   have:(a.tmps.setIfInBounds d u).getD i undef=a.tmps.getD i undef:=by
    by_cases hid:d=i
    .subst hid
     have:¬ d < a.tmps.size:=by rw [<- he.1];exact λaW=>hi ⟨rfl,aW⟩
     simp [this]
    .simp [G7 hid]
   rw [this]
   exact he.2 i

theorem cq.operand {a:Act} (he:cq ρ e a.tmps) {x:Operand} (hx:tI ρ x):VR ρ (bz e x) (a.eval x):=by
 cases x with
 |tmp t=>exact he.2 t
 |const v=>exact .dC ρ hx
 |global g =>
  obtain ⟨t,ht⟩:=hx
  exact .ptr (o:=0) ht
 |func f=>exact .func _ rfl rfl (by intro i x y hx;simp at hx) (by intro i x y hx;simp at hx)

theorem cq.operands {a:Act} (he:cq ρ e a.tmps) (xs:List Operand) (hx:∀ x∈xs,tI ρ x):cx ρ (xs.map (bz e)) (xs.map a.eval):=by
 induction xs with
 |nil=>exact .nil ρ
 |cons x xs ih =>
  exact .cons (he.operand (hx x (by simp))) (ih λy hy=>hx y (by simp [hy]))

theorem cq.opt {a:Act} (he:cq ρ e a.tmps) {x:Option Operand} (hx:∀ y,x=some y->tI ρ y):sy ρ (x.map (bz e)) (x.map a.eval):=by
 cases x with
 |none=>trivial
 |some y=>exact he.operand (hx y rfl)

def ZD (P:Program) (ρ:cn) (h h':Heap) (w:World) (v:ah) (f:FuncId) (aO:Array ah):Prop :=
 (∃ ρ' u w',(callFunc f aO).run P w=.ok (.value u) w'/\Fr ρ ρ' h h' w w'/\bR ρ' h' w'/\VR ρ' v u) \/
 ((callFunc f aO).run P w=.ok (.enter f aO) w/\Calls P f aO w λed w'=>∃ ρ' u,ed=.returned u/\Fr ρ ρ' h h' w w'/\bR ρ' h' w'/\VR ρ' v u)

def zCK (P:Program) (ρ:cn) (h h':Heap) (w:World) (v:ah) (l:Nat) (aO:Array ah):Prop :=
 ∃ f tmps assign body,(Instr.yield l aO).run P w=.ok (.round l f tmps assign body) w/\RoundIn Fence.wide 0 P l f tmps assign body w λed w'=>∃ ρ' u,ed=.returned u/\Fr ρ ρ' h h' w w'/\bR ρ' h' w'/\VR ρ' v u

structure CS (P:Program) (gs:List Nat) (C:Fn->List ah->Heap->Option (ah × Heap)):Prop where
 fn:∀ f args h v h',C (.func f) args h=some (v,h')->∀ ρ w (aO:Array ah),cX gs ρ->bR ρ h w->fQ ρ h h'->cx ρ args aO.toList->ZD P ρ h h' w v f aO
 yield:∀ A args h v h',C (.yield A) args h=some (v,h')->∀ ρ w (aO:Array ah) L,ρ A=some L->cX gs ρ->bR ρ h w->fQ ρ h h'->cx ρ args aO.toList->zCK P ρ h h' w v L.b aO

def HN (P:Program) (ρ:cn) (h h':Heap) (w:World) (v:ah) (r:Result Next):Prop :=
 (∃ ρ' u w',(r=.ok (.value u) w'\/(r=.ok .skip w'/\u=undef))/\Fr ρ ρ' h h' w w'/\bR ρ' h' w'/\VR ρ' v u) \/
 (∃ f aO,r=.ok (.enter f aO) w/\Calls P f aO w λed w'=>∃ ρ' u,ed=.returned u/\Fr ρ ρ' h h' w w'/\bR ρ' h' w'/\VR ρ' v u) \/
 (∃ l f tmps assign body,r=.ok (.round l f tmps assign body) w/\RoundIn Fence.wide 0 P l f tmps assign body w λed w'=>∃ ρ' u,ed=.returned u/\Fr ρ ρ' h h' w w'/\bR ρ' h' w'/\VR ρ' v u)

theorem World.bM (w:World) (o:Obj):(w.alloc o).heap=w.heap.push o:=rfl

theorem HN.still (hs:bR ρ h w) {u:ah} {r:Result Next} (hr:r=.ok (.value u) w) (hv:VR ρ v u):HN P ρ h h w v r :=
 .inl ⟨ρ,u,w,.inl hr,Fr.refl _ _ _,hs,hv⟩

theorem PB {a:Act} {o:Oper} (hs:bR ρ h w) (he:cq ρ e a.tmps) (cE:jQ ρ o) (hp:iZ P e o h=some (v,h')) (Fj:(∀ x∈o.op.operands,a.eval x=bz e x)->execOp a.eval o=execOp (bz e) o) :
 HN P ρ h h' w v ((execOp a.eval o).run P w):=by
 unfold iZ at hp
 split at hp
 .rename_i aE
  have heq:∀ x∈o.op.operands,a.eval x=bz e x:=by
   intro x hx
   have h1:=jh.1 aE x (by simpa using hx)
   exact (he.operand (cE x (by simpa using hx))).bI h1
  rw [Fj heq]
  split at hp
  .rename_i v' hr
   split at hp
   .rename_i k0
    cases hp
    exact .still hs (Px P _ _ hr w) (.dC ρ k0)
   .cases hp
  .cases hp
 .cases hp

theorem zlY {v:ah} (hs:bR ρ h w) (gi:ρ h.size=none) {t:TypeId} {cs:List ah} (u:ah) (hv:cx ρ cs u.cells.toList) :
 ∃ ρ',(newVar t u).run P w=.ok ⟨w.heap.size,0,none⟩ (w.alloc (.cells u.cells t))/\Fr ρ ρ' h (newRow t cs h).2 w (w.alloc (.cells u.cells t))/\bR ρ' (newRow t cs h).2 (w.alloc (.cells u.cells t)) /\
   VR ρ' (newRow t cs h).1 (.pointer (some ⟨w.heap.size,0,none⟩)):=by
 have _:=v
 obtain ⟨ρ',hρ,cQ,dR⟩:=IK (W:=w.alloc (.cells u.cells t)) (cs:=cs) (m:=u.cells.toList) hs gi rfl rfl rfl rfl (by rw [hv.1];exact se (by omega) rfl (λj _=>by rw [j3])) hv
 refine ⟨ρ',by simp [newVar,Go.newRow],cQ,dR,?_⟩
 have:=VR.ptr (ρ:=ρ') (o:=0) hρ
 simpa [newRow] using this

theorem ze3 (ps:Array (Nat × Operand)) (f:Operand->ah):(ps.map λ(i,x)=>(i,f x))=(ps.toList.map λ(i,x)=>(i,f x)).toArray:=by
 apply Array.ext'
 simp

theorem zpt {a:Act} (he:cq ρ e a.tmps) (ps:List (Nat × Operand)) (cE:∀ x∈ps.map (·.2),tI ρ x) :
 (ps.map λ(i,x)=>(i,bz e x)).length=(ps.map λ(i,x)=>(i,a.eval x)).length /\
 ∀ (i:Nat) (x y:Nat × ah),(ps.map λ(i,x)=>(i,bz e x))[i]? = some x->(ps.map λ(i,x)=>(i,a.eval x))[i]? = some y->x.1=y.1/\VR ρ x.2 y.2:=by
 refine ⟨by simp,λi x y hx hy=>?_⟩
 rw [lS,cD] at hx hy
 obtain ⟨⟨j,o⟩,h1,rfl⟩:=hx
 obtain ⟨⟨j',o'⟩,h2,rfl⟩:=hy
 rw [h1] at h2
 cases h2
 exact ⟨rfl,he.operand (cE o (nD.2 ⟨(j,o),fW h1,rfl⟩))⟩

theorem Dl (hT:T.Fits P) {C:Fn->List ah->Heap->Option (ah × Heap)} {gs:List Nat} (hC:CS P gs C) (hG:cX gs ρ) {a:Act} {o:Oper} (hs:bR ρ h w) (he:cq ρ e a.tmps) (cE:jQ ρ o) (cp:fQ ρ h h') 
 (ak:gP P T C e o h=some (v,h')):HN P ρ h h' w v ((execOp a.eval o).run P w):=by
 have aE:∀ x∈o.op.operands.toList,tI ρ x:=cE
 unfold gP at ak
 dsimp only at ak
 split at ak
 .rename_i x aT
  cases ak
  refine .still (u:=a.eval x) hs (by simp [execOp,aT]) (he.operand (aE _ (by simp [aT,Op.operands])))
 .rename_i x aT
  cases ak
  refine .still (u:=a.eval x) hs (by simp [execOp,aT]) (he.operand (aE _ (by simp [aT,Op.operands])))
 .rename_i c x y aT
  have hc:=he.operand (aE c (by simp [aT,Op.operands]))
  have hx:=he.operand (aE x (by simp [aT,Op.operands]))
  have hy:=he.operand (aE y (by simp [aT,Op.operands]))
  split at ak
  .rename_i t ht
   cases ak
   rw [ht] at hc
   have xH:a.eval c=.bool t:=hc.bI rfl
   refine .still (u:=if t then a.eval x else a.eval y) hs (by simp [execOp,aT,xH,asBool]) ?_
   cases t
   .exact hy
   .exact hx
  .cases ak
 .rename_i t aT
  simp only [cD,Prod.exists] at ak
  obtain ⟨k,uL,z,gU,ak⟩:=ak
  obtain ⟨i,zv,hi,rfl,rfl,hz,rfl,yz,uj⟩:=hT.info t k uL z gU
  have e1:v=(newRow t zv.cells.toList h).1:=(congrArg Prod.fst ak).symm
  have e2:h'=(newRow t zv.cells.toList h).2:=(congrArg Prod.snd ak).symm
  subst e1 e2
  obtain ⟨ρ',h1,h2,h3,h4⟩:=zlY (P:=P) (v:=undef) hs (cp _ (bo _) (so _)) (t:=t) zv (cx.plain ρ uj)
  refine .inl ⟨ρ',_,_,.inl ?_,h2,h3,h4⟩
  simp [execOp,aT,Instr.alloc,zeroValue,typeInfo,hi,hz,h1]
 .rename_i t x aT
  have hx:=he.operand (aE x (by simp [aT,Op.operands]))
  simp only [eh] at ak
  have e1:v=(newRow t (bz e x).cells.toList h).1:=(congrArg Prod.fst ak).symm
  have e2:h'=(newRow t (bz e x).cells.toList h).2:=(congrArg Prod.snd ak).symm
  subst e1 e2
  obtain ⟨ρ',h1,h2,h3,h4⟩:=zlY (P:=P) (v:=undef) hs (cp _ (bo _) (so _)) (t:=t) (a.eval x) hx.cells
  refine .inl ⟨ρ',_,_,.inl ?_,h2,h3,h4⟩
  simp [execOp,aT,Instr.box,h1]
 .rename_i t ps aT
  simp only [cD,da] at ak
  obtain ⟨r,hr,rfl,rfl⟩:=ak
  obtain ⟨p1,p2⟩:=zpt he ps.toList (λx hx=>aE x (by simpa [aT,Op.operands] using hx))
  obtain ⟨vc,h1,h2⟩:=zod (ρ:=ρ) hT p1 p2 hr w
  refine .still hs ?_ h2
  simp only [execOp,aT,ze3,Sem.run_bind,h1,Result.andThen_ok,Sem.run_pure]
 .rename_i t n ps aT
  obtain ⟨p1,p2⟩:=zpt he ps.toList (λx hx=>aE x (by simpa [aT,Op.operands] using hx))
  obtain ⟨ρ',vc,w',h1,h2,h3,h4⟩:=zhg (ρ:=ρ) hT hs cp p1 p2 ak
  refine .inl ⟨ρ',vc,w',.inl ?_,h2,h3,h4⟩
  simp only [execOp,aT,ze3,Sem.run_bind,h1,Result.andThen_ok,Sem.run_pure]
 .rename_i t x aT
  have hx:=he.operand (aE x (by simp [aT,Op.operands]))
  simp only [cD,da] at ak
  obtain ⟨r,hr,rfl,rfl⟩:=ak
  obtain ⟨u,h1,h2⟩:=zgf hT hs hx hr
  exact .still hs (by simp [execOp,aT,h1]) h2
 .rename_i t x y aT
  have hx:=he.operand (aE x (by simp [aT,Op.operands]))
  have hy:=he.operand (aE y (by simp [aT,Op.operands]))
  simp only [cD,da] at ak
  obtain ⟨h1,hr,rfl,rfl⟩:=ak
  unfold iO at hr
  split at hr
  .rename_i A off Bw
   rw [Bw] at hx
   simp only [cL] at hr
   obtain ⟨n,hn,hr⟩:=hr
   split at hr
   .rename_i dF
    generalize uW:a.eval x=ax at hx
    cases hx with
    |ptr hA =>
     rename_i L
     obtain ⟨w',eG,cQ,dR⟩:=PD (P:=P) hs hA hy.cells hr
     have mj:(a.eval y).cells.size=n:=by have:=hy.cells.1;simp at this;omega
     refine .inl ⟨ρ,undef,w',.inr ⟨?_,rfl⟩,cQ,dR,.undef ρ⟩
     simp [execOp,aT,uW,Instr.storeAt,Instr.sureAddr,storeVar,vK hT hn,mj,eG]
   .cases hr
  .cases hr
 .rename_i x aT
  have hx:=he.operand (aE x (by simp [aT,Op.operands]))
  split at ak
  .rename_i ad Bw
   cases ak
   rw [Bw] at hx
   generalize uW:a.eval x=ax at hx
   cases hx with
   |ptr hA=>exact .still hs (by simp [execOp,aT,uW]) (.ptr hA)
  .rename_i f fi ca Bw
   cases ak
   rw [Bw] at hx
   generalize uW:a.eval x=ax at hx
   cases hx with
   |func _ hf hc h1 h2=>exact .still hs (by simp [execOp,aT,uW]) (.func _ hf hc h1 h2)
  .rename_i t z Bw
   cases ak
   rw [Bw] at hx
   generalize uW:a.eval x=ax at hx
   cases hx with
   |iface _ h1=>exact .still hs (by simp [execOp,aT,uW]) (.iface t h1)
  .cases ak
 .rename_i op t x y yt aT
  have hx:=he.operand (aE x (by simp [aT,Op.operands]))
  have hy:=he.operand (aE y (by simp [aT,Op.operands]))
  simp only [cD,da] at ak
  obtain ⟨r,hr,rfl,rfl⟩:=ak
  obtain ⟨vc,h1,h2⟩:=ztr hT hx hy hr x y w
  refine .still hs ?_ h2
  simp only [execOp,aT]
  rw [Sem.run_bind,h1]
  rfl
 .rename_i fn first captured aT
  split at ak
  .rename_i f
   cases ak
   have h1:=he.operands first.toList (λx hx=>aE x (by simp [aT,Op.operands];left;simpa using hx))
   have h2:=he.operands captured.toList (λx hx=>aE x (by simp [aT,Op.operands];right;simpa using hx))
   refine .still (u:=.func (.func f) (first.map a.eval) (captured.map a.eval)) hs ?_ ?_
   .simp [execOp,aT,Instr.makeFunc]
   .refine .func _ (by simp) (by simp) (λi x y hx hy=>h1.2 i x y ?_ ?_) (λi x y hx hy=>h2.2 i x y ?_ ?_)
    all_goals simp at hx hy ⊢;assumption
  .cases ak
 .rename_i t l c aT
  have hl:=he.operand (aE l (by simp [aT,Op.operands]))
  have hc:=he.operand (aE c (by simp [aT,Op.operands]))
  obtain ⟨ρ',vc,w',h1,h2,h3,h4⟩:=zim hT hs cp hl hc ak
  refine .inl ⟨ρ',vc,w',.inl ?_,h2,h3,h4⟩
  simp [execOp,aT,h1]
 .rename_i t x l hi m aT
  have hx:=he.operand (aE x (by simp [aT,Op.operands]))
  have hl:=he.opt (x:=l) (λy hy=>aE y (by subst hy;simp [aT,Op.operands]))
  have kp:=he.opt (x:=hi) (λy hy=>aE y (by subst hy;simp [aT,Op.operands]))
  have hm:=he.opt (x:=m) (λy hy=>aE y (by subst hy;simp [aT,Op.operands]))
  simp only [cD,da] at ak
  obtain ⟨r,hr,rfl,rfl⟩:=ak
  obtain ⟨vc,h1,h2⟩:=zpJ hT hx hl kp hm hr w
  exact .still hs (by simp [execOp,aT,h1]) h2
 .rename_i s x f aT
  have hx:=he.operand (aE x (by simp [aT,Op.operands]))
  simp only [cD,da] at ak
  obtain ⟨r,hr,rfl,rfl⟩:=ak
  obtain ⟨vc,h1,h2⟩:=zik hT hx hr w
  exact .still hs (by simp [execOp,aT,h1]) h2
 .rename_i t x f aT
  have hx:=he.operand (aE x (by simp [aT,Op.operands]))
  simp only [cD,da] at ak
  obtain ⟨r,hr,rfl,rfl⟩:=ak
  obtain ⟨vc,h1,h2⟩:=zoK hT hx hr w
  exact .still hs (by simp [execOp,aT,h1]) h2
 .rename_i t x i aT
  have hx:=he.operand (aE x (by simp [aT,Op.operands]))
  have hi:=he.operand (aE i (by simp [aT,Op.operands]))
  simp only [cD,da] at ak
  obtain ⟨r,hr,rfl,rfl⟩:=ak
  obtain ⟨vc,h1,h2⟩:=zil hT hx hi hr w
  exact .still hs (by simp [execOp,aT,h1]) h2
 .rename_i t i aT
  have ht:=he.operand (aE t (by simp [aT,Op.operands]))
  split at ak
  .rename_i vs hte
   rw [hte] at ht
   simp only [cD,da] at ak
   obtain ⟨r,hr,rfl,rfl⟩:=ak
   generalize qS:a.eval t=at_ at ht
   cases ht with
   |tuple hc hh =>
    rename_i ds
    have aW:i < vs.size:=(mO.1 hr).1
    have hd:ds[i]? = some (ds[i]'(by omega)):=zd _
    exact .still hs (by simp [execOp,aT,qS,Instr.extract,hd]) (hh i _ _ hr hd)
  .cases ak
 .rename_i op t x aT
  refine PB hs he cE ak (λheq=>?_)
  have:=heq x (by simp [aT,Op.operands])
  simp [execOp,aT,this]
 .rename_i s t x aT
  split at ak
  .have hx:=he.operand (aE x (by simp [aT,Op.operands]))
   simp only [cD,da] at ak
   obtain ⟨r,hr,rfl,rfl⟩:=ak
   obtain ⟨u,h1,h2⟩:=zla hT hs hx hr
   exact .still hs (by simp [execOp,aT,h1]) h2
  .split at ak
   .split at ak
    .rename_i Yl
     have hx:=he.operand (aE x (by simp [aT,Op.operands]))
     obtain ⟨ρ',u,w',r1,r2,r3,r4⟩:=zlh hT hs cp Yl hx ak
     exact .inl ⟨ρ',u,w',.inl (by simp [execOp,aT,r1]),r2,r3,r4⟩
    .cases ak
   .refine PB hs he cE ak (λheq=>?_)
    have:=heq x (by simp [aT,Op.operands])
    simp [execOp,aT,this]
 .rename_i t x i aT
  refine PB hs he cE ak (λheq=>?_)
  have h1:=heq x (by simp [aT,Op.operands])
  have h2:=heq i (by simp [aT,Op.operands])
  simp [execOp,aT,h1,h2]
 .rename_i c aT
  obtain ⟨callee,args,argTypes⟩:=c
  have dP:∀ x∈args.toList,tI ρ x:=λx hx=>aE x (by simp [aT,Op.operands,Call.operands];right;simpa using hx)
  dsimp only at ak
  split at ak
  .split at ak
   .rename_i t u s x vy o8
    have e1:argTypes=#[t,u]:=by apply Array.ext';simpa using vy
    have e2:args=#[s,x]:=by apply Array.ext';simpa using o8
    subst e1 e2
    have h1:=he.operand (dP s (by simp))
    have h2:=he.operand (dP x (by simp))
    split at ak
    .rename_i hu
     have M8:QV P u:=by
      unfold uB at hu
      simp only [su,beq_iff_eq] at hu
      rcases hu with rfl|hu
      .have h4:=ak
       unfold iy at h4
       split at h4
       .rename_i e' hd;exact .inl ⟨_,hT.desc _ _ hd⟩
       .cases h4
      .split at hu
       .rename_i hd;exact .inr (hT.desc _ _ hd)
       .rename_i e' hd;exact .inl ⟨_,hT.desc _ _ hd⟩
       .cases hu
     obtain ⟨ρ',vc,w',r1,r2,r3,r4⟩:=zgt (ty:=o.type) hT hs cp M8 h1 h2 ak
     refine .inl ⟨ρ',vc,w',.inl ?_,r2,r3,r4⟩
     simp [execOp,aT,resolve,invoke,builtin,r1]
    .cases ak
   .cases ak
  .split at ak
   .rename_i t u d s vy o8
    have e1:argTypes=#[t,u]:=by apply Array.ext';simpa using vy
    have e2:args=#[d,s]:=by apply Array.ext';simpa using o8
    subst e1 e2
    have h1:=he.operand (dP d (by simp))
    have h2:=he.operand (dP s (by simp))
    obtain ⟨vc,w',r1,r2,r3,r4⟩:=zqE (u:=u) (ty:=o.type) hT hs h1 h2 ak
    refine .inl ⟨ρ,vc,w',.inl ?_,r2,r3,r4⟩
    simp [execOp,aT,resolve,invoke,builtin,r1]
   .cases ak
  .split at ak
   .rename_i t x vy o8
    have e1:argTypes=#[t]:=by apply Array.ext';simpa using vy
    have e2:args=#[x]:=by apply Array.ext';simpa using o8
    subst e1 e2
    have h1:=he.operand (dP x (by simp))
    simp only [cD,da] at ak
    obtain ⟨h2,hr,rfl,rfl⟩:=ak
    obtain ⟨w',r1,r2,r3⟩:=zon (ty:=o.type) hT hs h1 hr
    refine .inl ⟨ρ,undef,w',.inl ?_,r2,r3,.undef ρ⟩
    simp [execOp,aT,resolve,invoke,builtin,r1]
   .cases ak
  .split at ak
   .rename_i t ts x vy o8
    have e2:args=#[x]:=by apply Array.ext';simpa using o8
    have e1:argTypes=(t::ts).toArray:=by apply Array.ext';simpa using vy
    subst e1 e2
    have h1:=he.operand (dP x (by simp))
    simp only [cD,da] at ak
    obtain ⟨r,hr,rfl,rfl⟩:=ak
    obtain ⟨vc,r1,r2⟩:=ztX (ty:=o.type) hT hs h1 hr ts
    refine .still hs ?_ r2
    simp [execOp,aT,resolve,invoke,builtin,r1]
   .cases ak
  .refine PB hs he cE ak (λheq=>?_)
   have hm:args.map a.eval=args.map (bz e):=by
    apply Array.map_congr_left
    intro x hx
    exact heq x (by simp [aT,Op.operands,Call.operands];exact hx)
   simp [execOp,aT,resolve,hm]
  .refine PB hs he cE ak (λheq=>?_)
   have hm:args.map a.eval=args.map (bz e):=by
    apply Array.map_congr_left
    intro x hx
    exact heq x (by simp [aT,Op.operands,Call.operands];exact hx)
   simp [execOp,aT,resolve,hm]
  .split at ak
   .rename_i t ts m k vy o8
    have e2:args=#[m,k]:=by apply Array.ext';simpa using o8
    have e1:argTypes=(t::ts).toArray:=by apply Array.ext';simpa using vy
    subst e1 e2
    have h1:=he.operand (dP m (by simp))
    have h2:=he.operand (dP k (by simp))
    simp only [cD,da] at ak
    obtain ⟨h3,hr,rfl,rfl⟩:=ak
    obtain ⟨w',r1,r2,r3⟩:=zmO (ty:=o.type) (ts:=ts) hT hs h1 h2 hr
    refine .inl ⟨ρ,undef,w',.inl ?_,r2,r3,.undef ρ⟩
    simp [execOp,aT,resolve,invoke,builtin,r1,undef]
   .cases ak
  .split at ak
   .rename_i t ts x vy o8
    have e2:args=#[x]:=by apply Array.ext';simpa using o8
    have e1:argTypes=(t::ts).toArray:=by apply Array.ext';simpa using vy
    subst e1 e2
    have h1:=he.operand (dP x (by simp))
    simp only [cD,da] at ak
    obtain ⟨r,hr,rfl,rfl⟩:=ak
    obtain ⟨vc,r1,r2⟩:=zty (ty:=o.type) hT h1 hr ts w
    refine .still hs ?_ r2
    simp [execOp,aT,resolve,invoke,builtin,r1]
   .cases ak
  .rename_i rv name
   have M4:=he.operand (aE rv (by simp [aT,Op.operands,Call.operands]))
   split at ak
   .rename_i t x hre
    rw [hre] at M4
    generalize CC:a.eval rv=ar at M4
    simp only [cL,Prod.exists] at ak
    obtain ⟨f,y,hm,ak⟩:=ak
    cases M4 with
    |iface _ hx =>
     rename_i x'
     obtain ⟨y',r1,r2⟩:=zm3 hT hs hx hm (P.types.size+Made.depth - 1)
     have hd:P.types.size+Made.depth - 1+1=P.types.size+Made.depth:=by simp [Made.depth]
     rw [hd] at r1
     have el:=he.operands args.toList dP
     have xQ:(execOp a.eval o).run P w=(callFunc f (#[y']++args.map a.eval)).run P w:=by
      have h0:(#[Value.iface t x']++Array.map a.eval args)[0]? = some (.iface t x'):=by rw [Array.getElem?_append_left (by simp)];rfl
      have MY:(program:Sem Program).run P w=.ok P w:=rfl
      have hex:(#[Value.iface t x']++Array.map a.eval args).extract 1 (#[Value.iface t x']++Array.map a.eval args).size=Array.map a.eval args:=by
       rw [Array.extract_append]
       simp
      simp only [execOp,aT,resolve,Sem.run_bind,Sem.run_pure,Result.andThen_ok,invoke,CC,h0,callMethod,MY,r1,hex]
     have oQ:=hC.fn f _ h v h' ak ρ w (#[y']++args.map a.eval) hG hs cp (by
      have:=cx.cons r2 el
      simpa using this)
     rw [xQ]
     rcases oQ with ⟨ρ',u,w',q1,q2,q3,q4⟩|⟨q1,q2⟩
     .exact .inl ⟨ρ',u,w',.inl q1,q2,q3,q4⟩
     .exact .inr (.inl ⟨f,_,q1,q2⟩)
   .cases ak
  .rename_i f
   have hf:=he.operand (aE f (by simp [aT,Op.operands,Call.operands]))
   split at ak
   .rename_i g first captured Ms
    rw [Ms] at hf
    generalize W2:a.eval f=af at hf
    cases hf with
    |func _ h1 h2 h3 h4 =>
     rename_i gT dE
     have oq:cx ρ first.toList gT.toList:=⟨by simpa using h1,λi x y hx hy=>h3 i x y (by simpa using hx) (by simpa using hy)⟩
     have mK:cx ρ captured.toList dE.toList:=⟨by simpa using h2,λi x y hx hy=>h4 i x y (by simpa using hx) (by simpa using hy)⟩
     have el:=he.operands args.toList dP
     have oQ:=hC.fn g _ h v h' ak ρ w ((gT++args.map a.eval)++dE) hG hs cp (by
      have:=(oq.append el).append mK
      simpa using this)
     have xQ:(execOp a.eval o).run P w=(callFunc g ((gT++args.map a.eval)++dE)).run P w:=by
      simp [execOp,aT,resolve,W2,Deferred.ofValue,invoke]
     rw [xQ]
     rcases oQ with ⟨ρ',u,w',r1,r2,r3,r4⟩|⟨r1,r2⟩
     .exact .inl ⟨ρ',u,w',.inl r1,r2,r3,r4⟩
     .exact .inr (.inl ⟨g,_,r1,r2⟩)
   .rename_i A first captured Ms
    rw [Ms] at hf
    generalize W2:a.eval f=af at hf
    split at ak
    .cases hf with
     |yield hA =>
      rename_i L _
      have el:=he.operands args.toList dP
      obtain ⟨g,tmps,assign,body,r1,r2⟩:=hC.yield A _ h v h' ak ρ w (args.map a.eval) L hA hG hs cp (by simpa using el)
      refine .inr (.inr ⟨L.b,g,tmps,assign,body,?_,r2⟩)
      rw [<- r1]
      simp [execOp,aT,resolve,W2,Deferred.ofValue,invoke]
    .cases ak
   .cases ak
  .cases ak
 .rename_i t r aT
  have kY:∃ ρ',Fr ρ ρ' h (h.push (.map [] 0)) w (w.alloc (.map #[] 0))/\bR ρ' (h.push (.map [] 0)) (w.alloc (.map #[] 0))/\VR ρ' (.map (some h.size)) (.map (some w.heap.size))\/¬ (ρ h.size=none):=by
   by_cases hn:ρ h.size=none
   .obtain ⟨ρ',h1,h2,h3⟩:=Sz (W:=w.alloc (.map #[] 0)) (L:=⟨w.heap.size,0,0⟩) (b:=.map [] 0) hs hn (λk hk=>by rw [Am.World.bM,w7,aA (by omega)]) (by rw [Am.World.bM];simp) rfl rfl rfl (bo _)
     (λρ' _=>⟨#[],by rw [Am.World.bM];simp,rfl,by intro i x y hx;simp at hx⟩)
    exact ⟨ρ',.inl ⟨h2,h3,.map h1⟩⟩
   .exact ⟨ρ,.inr hn⟩
  split at ak
  .cases ak
   obtain ⟨ρ',⟨h2,h3,h4⟩|hn⟩:=kY
   .exact .inl ⟨ρ',_,_,.inl (by simp [execOp,aT,Instr.makeMap]),h2,h3,h4⟩
   .exact (hn (cp _ (bo _) (so _))).elim
  .rename_i x
   have hx:=he.operand (aE x (by simp [aT,Op.operands]))
   split at ak
   .rename_i hd Bw
    cases ak
    rw [Bw] at hx
    generalize uW:a.eval x=ax at hx
    cases hx
    obtain ⟨ρ',⟨h2,h3,h4⟩|hn⟩:=kY
    .refine .inl ⟨ρ',_,_,.inl ?_,h2,h3,h4⟩
     simp [execOp,aT,Instr.makeMap,uW,run_underlying (hT.desc _ _ hd),asInt,asIntOf]
    .exact (hn (cp _ (bo _) (so _))).elim
   .cases ak
 .rename_i t x k ok aT
  have hx:=he.operand (aE x (by simp [aT,Op.operands]))
  have hk:=he.operand (aE k (by simp [aT,Op.operands]))
  simp only [cD,da] at ak
  obtain ⟨r,hr,rfl,rfl⟩:=ak
  obtain ⟨u,h1,h2⟩:=zm1 hT hs hx hk hr
  exact .still hs (by simp [execOp,aT,h1]) h2
 .rename_i t m k x aT
  have hm:=he.operand (aE m (by simp [aT,Op.operands]))
  have hk:=he.operand (aE k (by simp [aT,Op.operands]))
  have hx:=he.operand (aE x (by simp [aT,Op.operands]))
  simp only [cD,da] at ak
  obtain ⟨h1,hr,rfl,rfl⟩:=ak
  obtain ⟨w',r1,r2,r3⟩:=zg9 hT hs hm hk hx hr
  exact .inl ⟨ρ,undef,w',.inr ⟨by simp [execOp,aT,r1],rfl⟩,r2,r3,.undef ρ⟩
 .rename_i t m k x aT
  have hm:=he.operand (aE m (by simp [aT,Op.operands]))
  have hk:=he.operand (aE k (by simp [aT,Op.operands]))
  have hx:=he.operand (aE x (by simp [aT,Op.operands]))
  simp only [cD,da] at ak
  obtain ⟨h1,hr,rfl,rfl⟩:=ak
  obtain ⟨w',r1,r2,r3⟩:=zg9 hT hs hm hk hx hr
  exact .inl ⟨ρ,undef,w',.inr ⟨by simp [execOp,aT,r1],rfl⟩,r2,r3,.undef ρ⟩
 .rename_i t m k aT
  have hm:=he.operand (aE m (by simp [aT,Op.operands]))
  have hk:=he.operand (aE k (by simp [aT,Op.operands]))
  obtain ⟨u,w',r1,r2,r3,r4⟩:=zoz hT hs hm hk ak
  exact .inl ⟨ρ,u,w',.inl (by simp [execOp,aT,r1]),r2,r3,r4⟩
 .rename_i t m k x aT
  have hm:=he.operand (aE m (by simp [aT,Op.operands]))
  have hk:=he.operand (aE k (by simp [aT,Op.operands]))
  have hx:=he.operand (aE x (by simp [aT,Op.operands]))
  simp only [cD,da] at ak
  obtain ⟨h1,hr,rfl,rfl⟩:=ak
  obtain ⟨w',r1,r2,r3⟩:=zho (P:=P) (t:=t) hs hm hk hx hr
  exact .inl ⟨ρ,undef,w',.inr ⟨by simp [execOp,aT,r1],rfl⟩,r2,r3,.undef ρ⟩
 .rename_i t x aT
  have hx:=he.operand (aE x (by simp [aT,Op.operands]))
  simp only [cD,da] at ak
  obtain ⟨r,hr,rfl,rfl⟩:=ak
  obtain ⟨u,h1,h2⟩:=zoQ hT hx hr w
  exact .still hs (by simp [execOp,aT,h1]) h2
 .rename_i x xt t ok aT
  have hx:=he.operand (aE x (by simp [aT,Op.operands]))
  simp only [cD,da] at ak
  obtain ⟨r,hr,rfl,rfl⟩:=ak
  obtain ⟨u,h1,h2⟩:=zmz (xt:=xt) hT hx hr w
  exact .still hs (by simp [execOp,aT,h1]) h2
 .cases ak
end
end Go.Am
namespace Go.Am
open Go.RowKit
variable {k v x:ah} {o:Oper} {e:Env} {C:Fn->List ah->Heap->Option (ah × Heap)} {tmps:Array ah} {t:TypeId} {c:Code}

section
variable {P:Program} {T:bO} {ρ:cn} {h h':Heap} {w:World}

def WR (rl:Option Nat):Fence:={ Fence.wide with round:=rl }
theorem zhj {rl:Option Nat} {n:Nat} {f:FuncId} {args:Array ah} {R:Ending->World->Prop} (hc:Calls P f args w R):CallsIn (WR rl) n P f args w R :=
 (callsIn_wide (n:=n)).2 hc

theorem HN.wp {a:Act} (hr:HN P ρ h h' w v ((execOp a.eval o).run P w)) (gw:∀ c,o.op≠.defer c) {K:Act->World->Prop} {Q:Exit->Act->World->Prop} {rl:Option Nat}
 (hK:∀ ρ' u w',Fr ρ ρ' h h' w w'->bR ρ' h' w'->VR ρ' v u->K (a.put o.dst u) w'):o.wpIn (WR rl) 0 P a w K Q:=by
 unfold Oper.wpIn
 refine ⟨λ_ _=>trivial,?_⟩
 rw [Oper.semAt_eq _ _ _ gw]
 rcases hr with ⟨ρ',u,w',h1,h2,h3,h4⟩|⟨f,aO,h1,h2⟩|⟨l,f,tmps,assign,body,h1,h2⟩
 .rcases h1 with h1|⟨h1,rfl⟩
  .rw [h1];exact hK ρ' u w' h2 h3 h4
  .rw [h1];exact hK ρ' undef w' h2 h3 h4
 .rw [h1]
  refine ⟨(λhh=>by cases hh),zhj (h2.mono ?_)⟩
  rintro ed w' ⟨ρ',u,rfl,h3,h4,h5⟩
  exact hK ρ' u w' h3 h4 h5
 .rw [h1]
  refine ⟨(λhh=>by cases hh),RoundIn.mono h2 ?_⟩
  rintro ed w' ⟨ρ',u,rfl,h3,h4,h5⟩
  exact hK ρ' u w' h3 h4 h5

theorem Dn (ak:gP P T C e o h=some (v,h')):∀ c,o.op≠.defer c:=by
 intro c hc
 simp [gP,hc] at ak

theorem zkS {ops:Array Oper} (he:cq ρ e tmps):Region.wanted o (yielded ops tmps)=nx ops o e:=by
 unfold Region.wanted nx
 cases o.guard with
 |none=>rfl
 |some g =>
  obtain ⟨j,b⟩:=g
  simp only [yielded]
  cases (ops[j]?).bind (·.dst) with
  |none=>simp
  |some t =>
   simp only [dX]
   have hv:=he.2 t
   cases ht:tmps[t]? with
   |none =>
    have hlen:tmps.size<=t:=by
     rcases lB t tmps.size with aW|kW
     .rw [zd aW] at ht;cases ht
     .exact kW
    rw [Env.oN e t (by rw [he.1];exact hlen)]
    rfl
   |some u =>
    have hu:tmps.getD t undef=u:=by simp [ht]
    rw [hu] at hv
    generalize e.get t=x at hv
    cases hv <;> first|rfl|(cases b <;> rename_i c <;> cases c <;> rfl)

structure bA (h h':Heap):Prop where
 size:h.size<=h'.size
 low:h'.low<=h.low
 get:∀ A,A < h.size->A < h'.low->h'.get A=h.get A

theorem bA.refl (h:Heap):bA h h:=⟨bo _,bo _,λ_ _ _=>rfl⟩
theorem bA.trans {h h1 h2:Heap} (a:bA h h1) (b:bA h1 h2):bA h h2 :=
 ⟨hY a.size b.size,hY b.low a.low,λA h3 h4=>(b.get A (dJ h3 a.size) h4).trans (a.get A h3 (dJ h4 b.low))⟩
theorem bA.push (h:Heap) (b:ba):bA h (h.push b):=⟨D3 _,bo _,λA h3 _=>by rw [Heap.bC,aA (by omega)]⟩
theorem bA.set {h:Heap} {A:Nat} (b:ba) (hA:A < h.size):bA h (h.set A b) :=
 ⟨bo _,w9 _ _,λA' _ h4=>by rw [Heap.cd] at h4;rw [Heap.aJ _ _ _ _ hA,aA (by omega)]⟩

theorem SC {A o:Nat} {vs:List ah} (hw:lY A o vs h=some h'):bA h h':=by
 unfold lY at hw
 split at hw
 .rename_i hg
  split at hw
  .cases hw;exact .set _ (Heap.bE hg)
  .cases hw
 .cases hw

theorem zgs {s:ah} (ha:iy T t s x h=some (v,h')):bA h h':=by
 unfold iy at ha
 split at ha
 .simp only [cL,Prod.exists] at ha
  obtain ⟨k,uL,z,_,m,news,_,ha⟩:=ha
  split at ha
  .split at ha
   .cases ha;exact .refl _
   .split at ha
    .cases ha
    .split at ha
     .split at ha
      .split at ha
       .simp only [cD,da] at ha
        obtain ⟨h1,hw,_,rfl⟩:=ha
        exact SC hw
       .cases ha
      .cases ha
     .simp only [cL] at ha
      obtain ⟨eD,_,ha⟩:=ha
      split at ha
      .cases ha;exact .push _ _
      .split at ha
       .split at ha
        .rename_i hg
         split at ha
         .cases ha;exact (bA.set _ (Heap.bE hg)).trans (.push _ _)
         .cases ha
        .cases ha
       .cases ha
  .cases ha
 .cases ha

theorem zg8 (hr:rz T t x k v h=some h'):bA h h':=by
 unfold rz at hr
 split at hr
 .split at hr
  .rename_i hg
   split at hr
   .simp only [cL] at hr
    obtain ⟨r,_,hr⟩:=hr
    split at hr
    .simp only [cL] at hr
     obtain ⟨e,_,hr⟩:=hr
     split at hr
     .cases hr;exact .set _ (Heap.bE hg)
     .cases hr
    .cases hr;exact .set _ (Heap.bE hg)
   .cases hr
  .cases hr
 .cases hr

theorem zlg {d:TypeId} (hr:Ja T d x h=some (v,h')):bA h h':=by
 unfold Ja at hr
 split at hr
 .split at hr
  .split at hr
   .cases hr
   .cases hr;exact .push _ _
  .cases hr
 .cases hr
theorem zoy (hr:DJ T t x k h=some (v,h')):bA h h':=by
 unfold DJ at hr
 split at hr
 .split at hr
  .rename_i hg
   split at hr
   .simp only [cL] at hr
    obtain ⟨r,_,hr⟩:=hr
    split at hr
    .simp only [cL] at hr
     obtain ⟨e,_,hr⟩:=hr
     split at hr
     .cases hr;exact .set _ (Heap.bE hg)
     .cases hr
    .simp only [cD,da] at hr
     obtain ⟨z,_,_,rfl⟩:=hr
     exact .set _ (Heap.bE hg)
   .cases hr
  .cases hr
 .cases hr
theorem zhn {s:ah} (hr:yU x s v h=some h'):bA h h':=by
 unfold yU at hr
 split at hr
 .split at hr
  .rename_i hg
   simp only [cD] at hr
   obtain ⟨i,_,rfl⟩:=hr
   exact .set _ (Heap.bE hg)
  .cases hr
 .cases hr

theorem zmN (hr:Ac T t x k h=some h'):bA h h':=by
 unfold Ac at hr
 split at hr
 .split at hr
  .cases hr;exact .refl _
  .cases hr
 .split at hr
  .rename_i hg
   split at hr
   .simp only [cL] at hr
    obtain ⟨r,_,hr⟩:=hr
    split at hr
    .cases hr;exact .set _ (Heap.bE hg)
    .cases hr;exact .set _ (Heap.bE hg)
   .cases hr
  .cases hr
 .cases hr

def uF (C:Fn->List ah->Heap->Option (ah × Heap)):Prop:=∀ f args h v h',C f args h=some (v,h')->bA h h'

theorem GU (hC:uF C) (ak:gP P T C e o h=some (v,h')):bA h h':=by
 have cZ:∀ {r:Option ah},(r.map λx=>(x,h))=some (v,h')->bA h h':=by
  intro r hr
  simp only [cD,da] at hr
  obtain ⟨_,_,_,rfl⟩:=hr
  exact .refl _
 have eb:iZ P e o h=some (v,h')->bA h h':=by
  intro hp
  unfold iZ at hp
  split at hp
  .split at hp
   .split at hp
    .cases hp;exact .refl _
    .cases hp
   .cases hp
  .cases hp
 unfold gP at ak
 dsimp only at ak
 split at ak
 .cases ak;exact .refl _
 .cases ak;exact .refl _
 .split at ak
  .cases ak;exact .refl _
  .cases ak
 .simp only [cD,Prod.exists] at ak
  obtain ⟨_,_,z,_,ak⟩:=ak
  have e2:=congrArg Prod.snd ak
  simp only at e2
  subst e2
  exact .push _ _
 .simp only [eh] at ak
  have e2:=congrArg Prod.snd ak
  simp only at e2
  subst e2
  exact .push _ _
 .exact cZ ak
 .unfold yT at ak
  split at ak
  .simp only [cL,Prod.exists] at ak
   obtain ⟨_,_,_,_,ak⟩:=ak
   split at ak
   .cases ak
   .simp only [cD,da] at ak
    obtain ⟨_,_,_,rfl⟩:=ak
    exact .push _ _
  .cases ak
 .exact cZ ak
 .simp only [cD,da] at ak
  obtain ⟨h1,hr,_,rfl⟩:=ak
  unfold iO at hr
  split at hr
  .simp only [cL] at hr
   obtain ⟨_,_,hr⟩:=hr
   split at hr
   .exact SC hr
   .cases hr
  .cases hr
 .split at ak
  .cases ak;exact .refl _
  .cases ak;exact .refl _
  .cases ak;exact .refl _
  .cases ak
 .exact cZ ak
 .split at ak
  .cases ak;exact .refl _
  .cases ak
 .unfold PN at ak
  split at ak
  .simp only [cL,Prod.exists] at ak
   obtain ⟨_,_,_,_,ak⟩:=ak
   split at ak
   .cases ak;exact .push _ _
   .cases ak
  .cases ak
 .exact cZ ak
 .exact cZ ak
 .exact cZ ak
 .exact cZ ak
 .split at ak
  .exact cZ ak
  .cases ak
 .exact eb ak
 .split at ak
  .exact cZ ak
  .split at ak
   .split at ak
    .exact zlg ak
    .cases ak
   .exact eb ak
 .exact eb ak
 .split at ak
  .split at ak
   .split at ak
    .exact zgs ak
    .cases ak
   .cases ak
  .split at ak
   .unfold QQ at ak
    split at ak
    .simp only [cL,Prod.exists] at ak
     obtain ⟨_,_,_,_,_,ak⟩:=ak
     split at ak
     .cases ak;exact .refl _
     .split at ak
      .simp only [cD,da] at ak
       obtain ⟨h1,hw,_,rfl⟩:=ak
       exact SC hw
      .cases ak
    .cases ak
   .cases ak
  .split at ak
   .simp only [cD,da] at ak
    obtain ⟨h1,hr,_,rfl⟩:=ak
    unfold rA at hr
    split at hr
    .split at hr
     .cases hr;exact .refl _
     .simp only [cL,Prod.exists] at hr
      obtain ⟨_,_,_,_,hr⟩:=hr
      split at hr
      .exact SC hr
      .cases hr
    .cases hr
   .cases ak
  .split at ak
   .exact cZ ak
   .cases ak
  .exact eb ak
  .exact eb ak
  .split at ak
   .simp only [cD,da] at ak
    obtain ⟨h1,hr,_,rfl⟩:=ak
    exact zmN hr
   .cases ak
  .split at ak
   .exact cZ ak
   .cases ak
  .split at ak
   .simp only [cL,Prod.exists] at ak
    obtain ⟨_,_,_,ak⟩:=ak
    exact hC _ _ _ _ _ ak
   .cases ak
  .split at ak
   .exact hC _ _ _ _ _ ak
   .split at ak
    .exact hC _ _ _ _ _ ak
    .cases ak
   .cases ak
  .cases ak
 .split at ak
  .cases ak;exact .push _ _
  .split at ak
   .cases ak;exact .push _ _
   .cases ak
 .exact cZ ak
 .simp only [cD,da] at ak
  obtain ⟨h1,hr,_,rfl⟩:=ak
  exact zg8 hr
 .simp only [cD,da] at ak
  obtain ⟨h1,hr,_,rfl⟩:=ak
  exact zg8 hr
 .exact zoy ak
 .simp only [cD,da] at ak
  obtain ⟨h1,hr,_,rfl⟩:=ak
  exact zhn hr
 .exact cZ ak
 .exact cZ ak
 .cases ak

theorem St {C:Fn->List ah->Heap->Option (ah × Heap)} (hC:uF C) {ops:Array Oper}:∀ (l:List Oper) (e e':Env) (h h':Heap),tA P T C ops l e h=some (e',h')->bA h h'
 | [],e,e',h,h',ak=>by simp only [tA,eh,da] at ak;obtain ⟨_,rfl⟩:=ak;exact .refl _
 |o::l,e,e',h,h',ak=>by
  simp only [tA] at ak
  split at ak
  .split at ak
   .rename_i v h1 h2
    exact (GU hC h2).trans (St hC l _ _ _ _ ak)
   .cases ak
  .exact St hC l _ _ _ _ ak

theorem Z2 (hT:T.Fits P) {C:Fn->List ah->Heap->Option (ah × Heap)} {gs:List Nat} (hC:CS P gs C) (hg:uF C) {ops:Array Oper} {Q:Exit->Act->World->Prop} {rl:Option Nat} {dd:List Deferred} :
 ∀ (l:List Oper) (e e':Env) (h h':Heap) (ρ:cn) (a:Act) (w:World),tA P T C ops l e h=some (e',h')->(∀ o∈l,jQ ρ o)->cX gs ρ->bR ρ h w->fQ ρ h h'->cq ρ e a.tmps->a.defers=dd ->
   (∀ ρ' a' w',Fr ρ ρ' h h' w w'->bR ρ' h' w'->cq ρ' e' a'.tmps->a'.defers=dd->Q .normal a' w')->wpListIn (WR rl) 0 P ops Q l a w
 | [],e,e',h,h',ρ,a,w,ak,_,_,hs,_,he,hd,hQ=>by
  simp only [tA,eh,da] at ak
  obtain ⟨rfl,rfl⟩:=ak
  exact hQ ρ a w (Fr.refl _ _ _) hs he hd
 |o::l,e,e',h,h',ρ,a,w,ak,cE,hG,hs,hf,he,hd,hQ=>by
  have X7:=cE o (by simp)
  have yj:∀ q∈l,jQ ρ q:=λq hq=>cE q (by simp [hq])
  simp only [tA] at ak
  unfold wpListIn
  rw [zkS he]
  split at ak
  .rename_i hw
   rw [aB hw]
   split at ak
   .rename_i v h1 h2
    have dF:=(St hg l _ _ _ _ ak).size
    refine (Dl hT hC hG hs he X7 (hf.left dF) h2).wp (Dn h2) λρ1 u w1 f1 s1 v1=>?_
    refine Z2 hT hC hg l _ _ _ _ ρ1 _ w1 ak (λq hq=>(yj q hq).mono f1.grow) (hG.mono f1.grow) s1 (hf.right f1) ((he.mono f1.grow).put v1 o.dst) (by cases o.dst <;> exact hd) ?_
    intro ρ2 a2 w2 f2 s2 e2 d2
    exact hQ ρ2 a2 w2 (f1.trans f2) s2 e2 d2
   .cases ak
  .rename_i hw
   rw [aA hw]
   refine ⟨λ_ _=>trivial,?_⟩
   exact Z2 hT hC hg l _ _ _ _ ρ _ w ak yj hG hs hf (he.put (.undef ρ) o.dst) (by cases o.dst <;> exact hd) hQ

def Ex.to:Ex->Exit
 | .normal=>.normal
 | .exit id=>.exit id
 | .ret=>.ret

def DS (P:Program) (gs:List Nat) (D:Array Oper->Env->Heap->Option (Env × Heap)):Prop :=
 ∀ (rl:Option Nat) (id:Nat) (ops:Array Oper) (e e':Env) (h h':Heap) (ρ:cn) (a:Act) (w:World) (Q:Exit->Act->World->Prop),D ops e h=some (e',h')->(∀ o∈ops.toList,jQ ρ o)->cX gs ρ->bR ρ h w->fQ ρ h h'->cq ρ e a.tmps ->
   (∀ ρ' a' w',Fr ρ ρ' h h' w w'->bR ρ' h' w'->cq ρ' e' a'.tmps->a'.defers=a.defers->Q .normal a' w')->(Code.region id ops true).wpIn (WR rl) 0 P Q a w
def zvs (D:Array Oper->Env->Heap->Option (Env × Heap)):Prop:=∀ ops e h e' h',D ops e h=some (e',h')->bA h h'

theorem zhs {f:Env->Heap->Option (Ex × Env × Heap)} (hf:∀ e h x e' h',f e h=some (x,e',h')->bA h h'):∀ (n:Nat) (e:Env) (h:Heap) (x:Ex) (e':Env) (h':Heap),iter f n e h=some (x,e',h')->bA h h'
 |0,_,_,_,_,_,hi=>by simp [iter] at hi
 |n+1,e,h,x,e',h',hi=>by
  simp only [iter] at hi
  split at hi
  .rename_i e1 h1 h2
   exact (hf _ _ _ _ _ h2).trans (zhs hf n _ _ _ _ _ hi)
  .exact hf _ _ _ _ _ hi

theorem ze7 {l:Nat} {e':Env} {x:Ex} (ak:IQ l e h=some (x,e',h')):bA h h':=by
 unfold IQ at ak
 split at ak
 .rename_i hg
  split at ak
  .cases ak
  .split at ak
   .cases ak;exact .set _ (Heap.bE hg)
   .cases ak;exact .set _ (Heap.bE hg)
   .cases ak;exact .set _ (Heap.bE hg)
   .cases ak
 .cases ak
theorem zpv (hC:uF C) {rd:Option Nat} {g:ah} {ps:List Tmp} {assign body:Code} {e':Env} {x:Ex} (ak:Jy T C rd g ps assign body e h=some (x,e',h')):bA h h':=by
 unfold Jy at ak
 split at ak
 .split at ak
  .split at ak
   .rename_i hc
    exact ((bA.push _ _).trans (hC _ _ _ _ _ hc)).trans (ze7 ak)
   .cases ak
  .cases ak
 .cases ak

theorem GN {D:Array Oper->Env->Heap->Option (Env × Heap)} (hC:uF C) (hD:zvs D) (rd:Option Nat) (fuel:Nat):∀ (c:Code) (e:Env) (h:Heap) (x:Ex) (e':Env) (h':Heap),eg P T C D rd fuel c e h=some (x,e',h')->bA h h':=by
 intro c
 induction c with
 |skip=>intro e h x e' h' ak;simp only [eg,eh,da] at ak;obtain ⟨_,_,rfl⟩:=ak;exact .refl _
 |region id ops d =>
  intro e h x e' h' ak
  simp only [eg,cD,Prod.exists,da] at ak
  obtain ⟨e1,h1,hr,_,rfl,rfl⟩:=ak
  split at hr
  .exact hD _ _ _ _ _ hr
  .exact St hC _ _ _ _ _ hr
 |seq a b jW jX =>
  intro e h x e' h' ak
  simp only [eg] at ak
  split at ak
  .rename_i e1 h1 h2
   exact (jW _ _ _ _ _ h2).trans (jX _ _ _ _ _ ak)
  .exact jW _ _ _ _ _ ak
 |cond c a b jW jX =>
  intro e h x e' h' ak
  simp only [eg] at ak
  split at ak
  .exact jW _ _ _ _ _ ak
  .exact jX _ _ _ _ _ ak
  .cases ak
 |block id c ih =>
  intro e h x e' h' ak
  simp only [eg] at ak
  split at ak
  .rename_i i e1 h1 h2
   have:=ih _ _ _ _ _ h2
   split at ak <;> (simp only [eh,da] at ak;obtain ⟨_,_,rfl⟩:=ak;exact this)
  .exact ih _ _ _ _ _ ak
 |loop c ih=>intro e h x e' h' ak;simp only [eg] at ak;exact zhs ih _ _ _ _ _ _ ak
 |exit id=>intro e h x e' h' ak;simp only [eg,eh,da] at ak;obtain ⟨_,_,rfl⟩:=ak;exact .refl _
 |ret=>intro e h x e' h' ak;simp only [eg,eh,da] at ak;obtain ⟨_,_,rfl⟩:=ak;exact .refl _
 |label l=>intro e h x e' h' ak;simp only [eg,eh,da] at ak;obtain ⟨_,_,rfl⟩:=ak;exact .refl _
 |rangeFunc f ps a b _ _=>intro e h x e' h' ak;exact zpv hC ak
 |scope c ih=>intro e h x e' h' ak;exact ih _ _ _ _ _ ak
 |goto l=>intro e h x e' h' ak;simp [eg] at ak
 |refuse s=>intro e h x e' h' ak;simp [eg] at ak

def mD:Code->Bool
 | .seq a b=>mD a && mD b
 | .cond _ a b=>mD a && mD b
 | .block _ c=>mD c
 | .loop c=>mD c
 | .scope c=>mD c
 | .rangeFunc _ _ _ _=>false
 |_=>true
def Marks (n0:Nat) (B:List Deferred) (nr:Bool) (ρ:cn) (w:World) (ds:List Deferred):Prop :=
 ∃ rs:List Nat,ds=rs.map (λr=>{ target:=.collected r,args:=#[] })++B/\rs.Nodup/\(nr=true->rs=[])/\∀ r∈rs,n0<=r/\w.heap[r]? = some (.deferred (some []))/\∀ A L,ρ A=some L->L.b≠r
theorem Marks.nil {n0:Nat} {B:List Deferred} {nr:Bool}:Marks n0 B nr ρ w B:=⟨[],rfl,.nil,λ_=>rfl,by intro r hr;cases hr⟩
theorem Marks.step {n0:Nat} {B:List Deferred} {nr:Bool} {ρ':cn} {w':World} {ds:List Deferred} (hm:Marks n0 B nr ρ w ds) (f:Fr ρ ρ' h h' w w'):Marks n0 B nr ρ' w' ds:=by
 obtain ⟨rs,h1,h2,h0,h3⟩:=hm
 refine ⟨rs,h1,h2,h0,λr hr=>?_⟩
 obtain ⟨a1,a2,a3⟩:=h3 r hr
 have aW:r < w.heap.size:=(mO.1 a2).1
 refine ⟨a1,(f.keep r aW λA L hA hb=>(a3 A L hA hb).elim).trans a2,λA L hA hb=>?_⟩
 cases hρ:ρ A with
 |some L0 =>
  have e:L0=L:=by have:=f.grow A L0 hρ;rw [hA] at this;exact (Option.some.inj this).symm
  subst e
  exact a3 A L0 hρ hb
 |none =>
  rcases (f.fresh A L hA hρ).2.2 with h4|⟨A0,L0,h4,h5,_⟩
  .omega
  .exact a3 A0 L0 h4 (h5.trans hb)

def HO (ρ:cn):Option Nat->Option Nat->Prop
 |none,none=>True
 |some A,some l=>∃ L,ρ A=some L/\L.b=l
 |_,_=>False
theorem HO.mono {ρ':cn} (hg:∀ A L,ρ A=some L->ρ' A=some L):∀ {rd rl:Option Nat},HO ρ rd rl->HO ρ' rd rl
 |none,none,_=>trivial
 |some _,some _,⟨L,h1,h2⟩=>⟨L,hg _ _ h1,h2⟩
 |none,some _,hh=>hh.elim
 |some _,none,hh=>hh.elim

theorem IE {b:Frame} {a:Act} {k:List Item} {cs:List Frame}:step P (lone (b.atR a (.code (.scope c)::k)) cs w)=.next (lone (b.atR a (.code c::.inScope c::k)) cs w) :=
 step_lone_go (by simp [stepG,stepG.exec,Frame.atR])
theorem znm {b:Frame} {a:Act} {k:List Item} {cs:List Frame}:step P (lone (b.atR a (.inScope c::k)) cs w)=.next (lone (b.atR a k) cs w) :=
 step_lone_go (by simp [stepG,stepG.exec,Frame.atR])
theorem zgp {F:Fence} {n:Nat} {Q:Exit->Act->World->Prop} {a:Act} (hc:c.wpIn F n P (Exit.noGoto Q) a w):(Code.scope c).wpIn F n P Q a w:=by
 intro b k cs uc hb hr
 have h0:(lone (b.atR a (.code (.scope c)::k)) cs w).fenced P F:=fenced_calm hb hr rfl
 obtain ⟨e,a₁,w₁,hq,uV⟩:=hc b (.inScope c::k) cs uc hb hr
 cases e with
 |normal=>exact ⟨.normal,a₁,w₁,hq,.head h0 IE (StepsIn.trans uV (.one (fenced_calm hb hr rfl) znm))⟩
 |exit id =>
  have hx:exitTo id (.inScope c::k)=exitTo id k:=by simp [exitTo]
  exact ⟨.exit id,a₁,w₁,hq,λk' hk=>.head h0 IE (uV.1 k' (by rw [hx];exact hk)),
   λbT hk=>let ⟨k₁,h1,h2⟩:=uV.2 bT (by rw [hx];exact hk);⟨k₁,h1,.head h0 IE h2⟩⟩
 |goto l=>exact hq.elim
 |ret=>exact ⟨_,a₁,w₁,hq,.of_steps (.one h0 IE) uV⟩
 |panic ch=>exact ⟨_,a₁,w₁,hq,.of_steps (.one h0 IE) uV⟩
 |outgrown=>exact ⟨_,a₁,w₁,hq,.of_steps (.one h0 IE) uV⟩

theorem SA (w:World) (r:Nat) (o:Obj):(w.putObj r o).heap=w.heap.setIfInBounds r o:=rfl
theorem zxD {r:Nat} {o:Obj} (aW:r < w.heap.size):(w.putObj r o).heap[r]? = some o:=by rw [SA];simp [aW]
theorem Sn {r k:Nat} {o:Obj} (hk:k≠r):(w.putObj r o).heap[k]? = w.heap[k]? := by
 rw [SA,G7 (Ne.symm hk)]

theorem PM (hs:bR ρ h w) {A:Nat} {L:Loc} (hA:ρ A=some L) {env:List ah} {ps:List Tmp} {assign body:Code} {st:LoopState} {gn:Option Code} (hg:h.get A=some (.loop env ps assign body st gn)) :
 ∃ l:Loop,w.heap[L.b]? = some (.loop l)/\l.state=st/\l.pending=gn/\l.params.toList=ps/\l.assign=assign/\l.body=body/\cq ρ env l.tmps/\cF ρ assign/\cF ρ body /\
   ∀ NO ri,Fr ρ ρ h (h.set A (.loop env ps assign body NO ri)) w (w.putObj L.b (.loop { l with state:=NO,pending:=ri }))/\bR ρ (h.set A (.loop env ps assign body NO ri)) (w.putObj L.b (.loop { l with state:=NO,pending:=ri })):=by
 have hb:=hs.j5 A L hA
 rw [hg] at hb
 obtain ⟨l,h1,h2,h3,h4,h5,h6,h7,h8,h9⟩:=hb
 refine ⟨l,h1,h2,h3,h4,h5,h6,h7,h8,h9,λNO ri=>?_⟩
 have aW:L.b < w.heap.size:=(mO.1 h1).1
 exact PH hs hA hg (by simp) (by simp) rfl rfl rfl (by rw [SA];simp) (λq hq=>Sn hq) ⟨_,zxD aW,rfl,rfl,h4,h5,h6,h7,h8,h9⟩

theorem Z5 (hT:T.Fits P) {D:Array Oper->Env->Heap->Option (Env × Heap)} {gs:List Nat} (hC:CS P gs C) (hg:uF C) (hD:DS P gs D) (RC:zvs D) (rd rl:Option Nat) (n0:Nat) (B:List Deferred) (nr:Bool) (fuel:Nat) :
 ∀ (c:Code) (e:Env) (h:Heap) (x:Ex) (e':Env) (h':Heap) (ρ:cn) (a:Act) (w:World) (Q:Exit->Act->World->Prop),eg P T C D rd fuel c e h=some (x,e',h')->cF ρ c->(nr=true->mD c=true)->cX gs ρ->bR ρ h w->fQ ρ h h'->cq ρ e a.tmps->Marks n0 B nr ρ w a.defers->HO ρ rd rl->n0<=w.heap.size ->
   (∀ ρ' a' w',Fr ρ ρ' h h' w w'->bR ρ' h' w'->cq ρ' e' a'.tmps->Marks n0 B nr ρ' w' a'.defers->Q x.to a' w')->c.wpIn (WR rl) 0 P Q a w:=by
 intro c
 induction c with
 |skip =>
  intro e h x e' h' ρ a w Q ak _ _ _ hs _ he hd _ _ hQ
  simp only [eg,eh,da] at ak
  obtain ⟨rfl,rfl,rfl⟩:=ak
  exact wpIn_skip (hQ ρ a w (Fr.refl _ _ _) hs he hd)
 |region id ops d =>
  intro e h x e' h' ρ a w Q ak cE _ hG hs hf he hd _ _ hQ
  simp only [eg,cD,Prod.exists,da] at ak
  obtain ⟨e1,h1,hr,rfl,rfl,rfl⟩:=ak
  have hQ':∀ ρ' a' w',Fr ρ ρ' h h1 w w'->bR ρ' h1 w'->cq ρ' e1 a'.tmps->a'.defers=a.defers->Q .normal a' w':=λρ' a' w' f1 s1 r1 d1=>hQ ρ' a' w' f1 s1 r1 (by rw [d1];exact hd.step f1)
  cases d with
  |true =>
   simp only [if_true] at hr
   exact hD rl id ops e e1 h h1 ρ a w Q hr cE hG hs hf he hQ'
  |false =>
   simp only [gB,if_false] at hr
   exact wpIn_region_list (Z2 hT hC hg ops.toList e e1 h h1 ρ a w hr cE hG hs hf he rfl hQ')
 |seq c1 c2 R1 YQ =>
  intro e h x e' h' ρ a w Q ak cE lK hG hs hf he hd oh hn hQ
  simp only [eg] at ak
  have Bk:nr=true->mD c1=true:=λq=>by have:=lK q;simp only [mD,eo] at this;exact this.1
  have FP:nr=true->mD c2=true:=λq=>by have:=lK q;simp only [mD,eo] at this;exact this.2
  refine wpIn_seq ?_
  split at ak
  .rename_i e1 h1 h2
   have dF:=(GN hg RC rd fuel c2 _ _ _ _ _ ak).size
   refine R1 e h .normal e1 h1 ρ a w _ h2 cE.1 Bk hG hs (hf.left dF) he hd oh hn λρ1 a1 w1 f1 s1 r1 d1=>?_
   exact YQ e1 h1 x e' h' ρ1 a1 w1 Q ak (cE.2.mono f1.grow) FP (hG.mono f1.grow) s1 (hf.right f1) r1 d1 (oh.mono f1.grow) (hY hn f1.size) λρ2 a2 w2 f2 s2 r2 d2=>hQ ρ2 a2 w2 (f1.trans f2) s2 r2 d2
  .rename_i aS
   refine R1 e h x e' h' ρ a w _ ak cE.1 Bk hG hs hf he hd oh hn λρ1 a1 w1 f1 s1 r1 d1=>?_
   cases x with
   |normal=>exact (aS e' h' ak).elim
   |exit id=>exact hQ ρ1 a1 w1 f1 s1 r1 d1
   |ret=>exact hQ ρ1 a1 w1 f1 s1 r1 d1
 |cond c c1 c2 R1 YQ =>
  intro e h x e' h' ρ a w Q ak cE lK hG hs hf he hd oh hn hQ
  have hc:=he.operand cE.1
  have Bk:nr=true->mD c1=true:=λq=>by have:=lK q;simp only [mD,eo] at this;exact this.1
  have FP:nr=true->mD c2=true:=λq=>by have:=lK q;simp only [mD,eo] at this;exact this.2
  simp only [eg] at ak
  split at ak
  .rename_i hb
   rw [hb] at hc
   exact wpIn_cond_true (hc.bI rfl) (R1 e h x e' h' ρ a w Q ak cE.2.1 Bk hG hs hf he hd oh hn hQ)
  .rename_i hb
   rw [hb] at hc
   exact wpIn_cond_false (hc.bI rfl) (YQ e h x e' h' ρ a w Q ak cE.2.2 FP hG hs hf he hd oh hn hQ)
  .cases ak
 |block id c ih =>
  intro e h x e' h' ρ a w Q ak cE lK hG hs hf he hd oh hn hQ
  simp only [eg] at ak
  refine wpIn_block ?_
  split at ak
  .rename_i i e1 h1 h2
   split at ak
   .rename_i hi
    simp only [eh,da] at ak
    obtain ⟨rfl,rfl,rfl⟩:=ak
    refine ih e h (.exit i) e1 h1 ρ a w _ h2 cE lK hG hs hf he hd oh hn λρ1 a1 w1 f1 s1 r1 d1=>?_
    simp only [Ex.to,Exit.inBlock,aB hi]
    exact hQ ρ1 a1 w1 f1 s1 r1 d1
   .rename_i hi
    simp only [eh,da] at ak
    obtain ⟨rfl,rfl,rfl⟩:=ak
    refine ih e h (.exit i) e1 h1 ρ a w _ h2 cE lK hG hs hf he hd oh hn λρ1 a1 w1 f1 s1 r1 d1=>?_
    simp only [Ex.to,Exit.inBlock,aA hi]
    exact hQ ρ1 a1 w1 f1 s1 r1 d1
  .rename_i aS
   refine ih e h x e' h' ρ a w _ ak cE lK hG hs hf he hd oh hn λρ1 a1 w1 f1 s1 r1 d1=>?_
   cases x with
   |normal=>exact hQ ρ1 a1 w1 f1 s1 r1 d1
   |exit i=>exact (aS i e' h' ak).elim
   |ret=>exact hQ ρ1 a1 w1 f1 s1 r1 d1
 |loop c ih =>
  intro e h x e' h' ρ a w Q ak cE lK hG hs hf he hd oh hn hQ
  simp only [eg] at ak
  refine wpIn_loop_rounds fuel ?_
  have key:∀ (n:Nat) (e:Env) (h:Heap) (ρ:cn) (a:Act) (w:World),iter (eg P T C D rd fuel c) n e h=some (x,e',h')->cF ρ c->cX gs ρ->bR ρ h w->fQ ρ h h'->cq ρ e a.tmps->Marks n0 B nr ρ w a.defers->HO ρ rd rl->n0<=w.heap.size ->
   (∀ ρ' a' w',Fr ρ ρ' h h' w w'->bR ρ' h' w'->cq ρ' e' a'.tmps->Marks n0 B nr ρ' w' a'.defers->Q x.to a' w')->Code.roundsIn (WR rl) 0 P c Q n a w:=by
   intro n
   induction n with
   |zero=>intro e h ρ a w hi;simp [iter] at hi
   |succ n YR =>
    intro e h ρ a w hi cE hG hs hf he hd oh hn hQ
    simp only [iter] at hi
    rw [roundsIn_succ]
    split at hi
    .rename_i e1 h1 h2
     have dF:=(zhs (GN (P:=P) (T:=T) hg RC rd fuel c) n _ _ _ _ _ hi).size
     refine ih e h .normal e1 h1 ρ a w _ h2 cE lK hG hs (hf.left dF) he hd oh hn λρ1 a1 w1 f1 s1 r1 d1=>?_
     exact YR e1 h1 ρ1 a1 w1 hi (cE.mono f1.grow) (hG.mono f1.grow) s1 (hf.right f1) r1 d1 (oh.mono f1.grow) (hY hn f1.size) λρ2 a2 w2 f2 s2 r2 d2=>hQ ρ2 a2 w2 (f1.trans f2) s2 r2 d2
    .rename_i aS
     refine ih e h x e' h' ρ a w _ hi cE lK hG hs hf he hd oh hn λρ1 a1 w1 f1 s1 r1 d1=>?_
     cases x with
     |normal=>exact (aS e' h' hi).elim
     |exit id=>exact hQ ρ1 a1 w1 f1 s1 r1 d1
     |ret=>exact hQ ρ1 a1 w1 f1 s1 r1 d1
  exact key fuel e h ρ a w ak cE hG hs hf he hd oh hn hQ
 |exit id =>
  intro e h x e' h' ρ a w Q ak _ _ _ hs _ he hd _ _ hQ
  simp only [eg,eh,da] at ak
  obtain ⟨rfl,rfl,rfl⟩:=ak
  exact wpIn_exit (hQ ρ a w (Fr.refl _ _ _) hs he hd)
 |ret =>
  intro e h x e' h' ρ a w Q ak _ _ _ hs _ he hd _ _ hQ
  simp only [eg,eh,da] at ak
  obtain ⟨rfl,rfl,rfl⟩:=ak
  exact wpIn_ret (hQ ρ a w (Fr.refl _ _ _) hs he hd)
 |label l =>
  intro e h x e' h' ρ a w Q ak _ _ _ hs _ he hd _ _ hQ
  simp only [eg,eh,da] at ak
  obtain ⟨rfl,rfl,rfl⟩:=ak
  exact wpIn_label (hQ ρ a w (Fr.refl _ _ _) hs he hd)
 |rangeFunc g ps assign body _ _ =>
  intro e h x e' h' ρ a w Q ak cE lK hG hs hf he hd oh hn hQ
  simp only [eg] at ak
  have MT:¬ nr=true:=λq=>by have:=lK q;simp [mD] at this
  have Fx:=he.operand cE.1
  unfold Jy at ak
  split at ak
  .rename_i f first captured kW
   split at ak
   .rename_i CC
    simp only [eo] at CC
    obtain ⟨CC,qT⟩:=CC
    split at ak
    .rename_i r0 h2 oQ
     rw [kW] at Fx
     generalize W3:a.eval g=ag at Fx
     cases Fx with
     |func _ q1 q2 q3 q4 =>
      rename_i gT dE
      have oq:cx ρ first.toList gT.toList:=⟨by simpa using q1,λi x y hx hy=>q3 i x y (by simpa using hx) (by simpa using hy)⟩
      have mK:cx ρ captured.toList dE.toList:=⟨by simpa using q2,λi x y hx hy=>q4 i x y (by simpa using hx) (by simpa using hy)⟩
      have gu:=hg _ _ _ _ _ oQ
      have oU:=ze7 ak
      have ym:(h.push (.loop e ps.toList assign body .ready none)).size=h.size+1:=rfl
      have oo:=gu.size
      have Br:=oU.size
      have gi:ρ h.size=none:=hf h.size (bo _) (by omega)
      refine wpIn_rangeFunc λfn _=>?_
      have ez:∃ (l:Nat) (mark:List Deferred) (w1:World) (lo:Loop),(Instr.enterLoop fn a.tmps ps assign body (WR rl).round).run P w=.ok (l,mark) w1/\w.heap.size<=l/\w1.heap[l]? = some (.loop lo) /\
       lo.state=.ready/\lo.pending=none/\lo.params=ps/\lo.assign=assign/\lo.body=body/\lo.tmps=a.tmps/\(∀ k,k < w.heap.size->w1.heap[k]? = w.heap[k]?)/\w.heap.size<=w1.heap.size/\w1.os=w.os/\w1.tape=w.tape/\w1.output=w.output /\
       (∀ ρ1,(∀ A L,ρ1 A=some L->ρ A=some L\/L.b=l)->Marks n0 B nr ρ1 w1 (mark++a.defers)):=by
       cases rl with
       |none =>
        refine ⟨_,_,_,{ state:=.ready,pending:=none,fn,tmps:=a.tmps,params:=ps,assign,body,defers:=w.heap.size },run_enterLoop_outer fn a.tmps ps assign body,D3 _,by rw [World.bM,World.bM,w7,aB (by simp)],rfl,rfl,rfl,rfl,rfl,rfl,?_,by simp [World.bM];omega,rfl,rfl,rfl,?_⟩
        .intro k hk
         rw [World.bM,World.bM,w7,aA (by simp;omega),w7,aA (by omega)]
        .intro ρ1 C7
         obtain ⟨rs,m1,m2,_,m3⟩:=hd
         refine ⟨w.heap.size::rs,by simp [m1],?_,λq=>(MT q).elim,?_⟩
         .refine wg.2 ⟨λbY=>?_,m2⟩
          have:=(mO.1 (m3 _ bY).2.1).1
          omega
         .intro r hr
          rcases cJ.1 hr with rfl|hr
          .refine ⟨hn,by simp [World.bM,w7],λA L hA hb=>?_⟩
           rcases C7 A L hA with h4|h4
           .have:=hs.lt h4;omega
           .omega
          .obtain ⟨a1,a2,a3⟩:=m3 r hr
           have aW:r < w.heap.size:=(mO.1 a2).1
           refine ⟨a1,?_,λA L hA hb=>?_⟩
           .rw [World.bM,World.bM,w7,aA (by simp;omega),w7,aA (by omega)]
            exact a2
           .rcases C7 A L hA with h4|h4
            .exact a3 A L h4 hb
            .omega
       |some l0 =>
        cases rd with
        |none=>exact oh.elim
        |some A0 =>
         obtain ⟨L0,ep,rfl⟩:=oh
         have Yc:∃ lo:Loop,w.heap[L0.b]? = some (.loop lo):=by
          simp only [zmx] at CC
          split at CC
          .rename_i Xx
           obtain ⟨lo,h4,_⟩:=PM hs ep Xx
           exact ⟨lo,h4⟩
          .cases CC
         obtain ⟨lo,dj⟩:=Yc
         have eC:(Instr.enterLoop fn a.tmps ps assign body (some L0.b)).run P w=.ok (w.heap.size,[]) (w.alloc (.loop { state:=.ready,pending:=none,fn,tmps:=a.tmps,params:=ps,assign,body,defers:=lo.defers })):=by
          unfold Instr.enterLoop
          simp only [Sem.run_bind,run_getLoop dj,Sem.run_pure,Result.andThen,run_newObj_alloc]
         refine ⟨_,_,_,{ state:=.ready,pending:=none,fn,tmps:=a.tmps,params:=ps,assign,body,defers:=lo.defers },eC,bo _,by simp [World.bM],rfl,rfl,rfl,rfl,rfl,rfl,?_,by simp [World.bM],rfl,rfl,rfl,?_⟩
         .intro k hk
          rw [World.bM,w7,aA (by omega)]
         .intro ρ1 C7
          obtain ⟨rs,m1,m2,_,m3⟩:=hd
          refine ⟨rs,by simp [m1],m2,λq=>(MT q).elim,?_⟩
          intro r hr
          obtain ⟨a1,a2,a3⟩:=m3 r hr
          have aW:r < w.heap.size:=(mO.1 a2).1
          refine ⟨a1,?_,λA L hA hb=>?_⟩
          .rw [World.bM,w7,aA (by omega)]
           exact a2
          .rcases C7 A L hA with h4|h4
           .exact a3 A L h4 hb
           .omega
      obtain ⟨l,mark,w1,lo,ez,hl,yx,l1,l2,l3,l4,l5,l6,hold,dF,vo,k7,dN,MO⟩:=ez
      obtain ⟨ρ1,C7,f1,s1⟩:=Sz (W:=w1) (L:=⟨l,0,0⟩) (b:=.loop e ps.toList assign body .ready none) hs gi hold dF vo k7 dN hl
       (λρ' eM=>⟨lo,yx,l1,l2,by rw [l3],l4,l5,by rw [l6];exact he.mono eM,cE.2.1.mono eM,cE.2.2.mono eM⟩)
      have il:Marks n0 B nr ρ1 w1 (mark++a.defers):=MO ρ1 λA L hA=>by
       cases hρ:ρ A with
       |some L0 =>
        have e:L0=L:=by have:=f1.grow A L0 hρ;rw [hA] at this;exact (Option.some.inj this).symm
        subst e
        exact .inl rfl
       |none =>
        have h4:=(f1.fresh A L hA hρ)
        have h5:A=h.size:=by have:=h4.1;have:=h4.2.1;omega
        subst h5
        rw [C7] at hA
        cases hA
        exact .inr rfl
      have pM:fQ ρ1 (h.push (.loop e ps.toList assign body .ready none)) h2:=(hf.left Br).right f1
      have dP:cx ρ1 (first.toList++[.func (.yield h.size) #[] #[]]++captured.toList) (gT++#[Value.func (Fn.yield l) #[] #[]]++dE).toList:=by
       have:=((oq.mono f1.grow).append (cx.cons (VR.yield C7) (.nil ρ1))).append (mK.mono f1.grow)
       simpa using this
      have jU:(resolve a.eval (rangeCall g l) 0).run P w1=.ok { target:=.fn (.func f) dE,args:=gT++#[Value.func (Fn.yield l) #[] #[]] } w1:=by
       have hcv:a.eval (.const (.func (.yield l) #[] #[]))=.func (.yield l) #[] #[]:=rfl
       simp [resolve,W3,hcv,Deferred.ofValue]
      have hinv:∀ w,(invoke (.fn (.func f) dE) (gT++#[Value.func (Fn.yield l) #[] #[]])).run P w=(callFunc f (gT++#[Value.func (Fn.yield l) #[] #[]]++dE)).run P w:=λw=>rfl
      rcases hC.fn f _ _ _ _ oQ ρ1 w1 (gT++#[Value.func (Fn.yield l) #[] #[]]++dE) (hG.mono f1.grow) s1 pM dP with ⟨_,_,_,dS,_⟩|⟨Xj,Ff⟩
      .exfalso
       unfold zqW at qT
       split at qT
       .rename_i fn0 Xt
        split at qT
        .rename_i c0 pJ
         obtain ⟨hP,ju,_⟩:=hT.fn f fn0 Xt
         have gh:¬ fn0.name="runtime.NumGoroutine":=by simpa using ju
         simp [callFunc,hP,gh,pJ] at dS
        .cases qT
       .cases qT
      .refine ⟨l,mark,w1,_,w1,f,_,w1,ez,jU,λ_ _=>trivial,(hinv w1).trans Xj,(λhh=>by cases hh),zhj (Ff.mono ?_)⟩
       rintro ed w3 ⟨ρ3,u,rfl,f3,s3,_⟩
       unfold IQ at ak
       split at ak
       .rename_i env ps2 as2 bd2 st gn Fw
        have hρ3:ρ3 h.size=some ⟨l,0,0⟩:=f3.grow _ _ C7
        obtain ⟨Gv,g1,g2,g3,_,_,_,_,_,_,g4⟩:=PM s3 hρ3 Fw
        obtain ⟨f4,s4⟩:=g4 .exhausted gn
        have lI:st≠.busy->∀ x1:Ex,x1=x->e=e'->h2.set h.size (.loop env ps2 as2 bd2 .exhausted gn)=h'->(Instr.endLoop l).run P w3=.ok gn (w3.putObj l (.loop { Gv with state:=.exhausted,pending:=gn }))/\Q x.to { a with defers:=mark++a.defers } (w3.putObj l (.loop { Gv with state:=.exhausted,pending:=gn })):=by
         intro eG x1 hx1 xM zH
         subst hx1 xM zH
         have dj:({ Gv with state:=LoopState.exhausted,pending:=gn }:Loop)={ Gv with state:=LoopState.exhausted }:=by
          subst g3;rfl
         refine ⟨?_,hQ ρ3 { a with defers:=mark++a.defers } _ ((f1.trans f3).trans f4) s4 (he.mono (f1.trans f3).grow) ((il.step f3).step f4)⟩
         rw [dj,<- g3]
         exact run_endLoop g1 (by rw [g2];exact eG)
        split at ak
        .cases ak
        .rename_i eG
         split at ak
         .simp only [eh,da] at ak
          obtain ⟨rfl,h5,h6⟩:=ak
          obtain ⟨k1,k2⟩:=lI eG _ rfl h5 h6
          exact ⟨none,_,k1,k2⟩
         .simp only [eh,da] at ak
          obtain ⟨rfl,h5,h6⟩:=ak
          obtain ⟨k1,k2⟩:=lI eG _ rfl h5 h6
          exact ⟨_,_,k1,wpIn_exit k2⟩
         .simp only [eh,da] at ak
          obtain ⟨rfl,h5,h6⟩:=ak
          obtain ⟨k1,k2⟩:=lI eG _ rfl h5 h6
          exact ⟨_,_,k1,wpIn_ret k2⟩
         .cases ak
       .cases ak
    .cases ak
   .cases ak
  .cases ak
 |scope c ih =>
  intro e h x e' h' ρ a w Q ak cE lK hG hs hf he hd oh hn hQ
  simp only [eg] at ak
  refine zgp (ih e h x e' h' ρ a w _ ak cE lK hG hs hf he hd oh hn λρ1 a1 w1 f1 s1 r1 d1=>?_)
  have:=hQ ρ1 a1 w1 f1 s1 r1 d1
  cases x <;> exact this
 |goto l=>intro e h x e' h' ρ a w Q ak;simp [eg] at ak
 |refuse s=>intro e h x e' h' ρ a w Q ak;simp [eg] at ak

def QO (tmps:Array ah):ResultVar->Sem ah
 | .tmp t=>pure (tmps.getD t undef)
 | .cell a t=>do loadVar t (<- asAddr (tmps.getD a undef))

theorem zuI (fn:Func) (tmps:Array ah):results fn tmps=(do let vs <- fn.results.mapM (QO tmps);pure (if h:vs.size=1 then vs[0] else .tuple vs)):=by
 unfold results
 congr 2

theorem znh (hT:T.Fits P) (hs:bR ρ h w) (he:cq ρ e tmps):∀ {r:ResultVar} {v:ah},Ae T e h r=some v->∃ u,(QO tmps r).run P w=.ok u w/\VR ρ v u
 | .tmp t,v,hr=>by simp only [Ae,eh] at hr;subst hr;exact ⟨_,rfl,he.2 t⟩
 | .cell a t,v,hr=>by
  simp only [Ae] at hr
  have hv:=he.2 a
  simp only [QO]
  generalize e.get a=x at hv hr
  generalize tmps.getD a undef=y at hv
  obtain ⟨u,h1,h2⟩:=zgf hT hs hv hr
  refine ⟨u,?_,h2⟩
  rw [<- h1]
  cases hv <;> first|(simp [ic] at hr;done)|simp [Instr.loadAt,Instr.sureAddr,asAddr]

theorem Sw (hT:T.Fits P) (hs:bR ρ h w) {fn:Func} (he:cq ρ e tmps) (hr:qf T fn e h=some v) :
 ∃ u,(results fn tmps).run P w=.ok u w/\VR ρ v u:=by
 have oV:∀ (rs:List ResultVar) (vs:List ah),rs.mapM (Ae T e h)=some vs->∃ us:List ah,cx ρ vs us /\
  (rs.mapM (QO tmps)).run P w=.ok us w:=by
  intro rs
  induction rs with
  |nil=>intro vs gN;simp at gN;subst gN;exact ⟨[],.nil ρ,by simp⟩
  |cons r rs ih =>
   intro vs gN
   rw [List.mapM_cons] at gN
   simp only [Option.bind_eq_bind,cL,Option.pure_def,eh] at gN
   obtain ⟨v1,oq,ZB,Ga,rfl⟩:=gN
   obtain ⟨u1,h1,h2⟩:=znh hT hs he oq
   obtain ⟨us,h3,h4⟩:=ih ZB Ga
   refine ⟨u1::us,.cons h2 h3,?_⟩
   rw [List.mapM_cons]
   simp only [Sem.run_bind,h1,Result.andThen_ok,h4,Sem.run_pure]
 have cZ:∀ us:List ah,(fn.results.toList.mapM (QO tmps)).run P w=.ok us w ->
  (results fn tmps).run P w=.ok (if h:us.toArray.size=1 then us.toArray[0] else .tuple us.toArray) w:=by
  intro us h1
  rw [zuI,Array.mapM_eq_mapM_toList]
  simp only [Sem.run_bind,Sem.run_map,h1,Result.andThen_ok,Sem.run_pure]
 unfold qf at hr
 split at hr
 .rename_i r M1
  obtain ⟨us,h1,h2⟩:=oV [r] [v] (by simp [hr])
  obtain ⟨u,us',rfl,hu,hn⟩:=h1.of_cons
  have:=hn.of_nil
  subst this
  refine ⟨u,?_,hu⟩
  have:=cZ [u] (by rw [M1];exact h2)
  simpa using this
 .rename_i aS
  simp only [cD] at hr
  obtain ⟨vs,gN,rfl⟩:=hr
  obtain ⟨us,h1,h2⟩:=oV _ vs gN
  refine ⟨.tuple us.toArray,?_,h1.fT⟩
  have:=cZ us h2
  rw [this]
  congr 1
  have hlen:us.length≠1:=by
   intro bx
   have hl:fn.results.toList.length=us.length:=by
    have e1:vs.length=us.length:=h1.1
    have e2:∀ (rs:List ResultVar) (vs:List ah),rs.mapM (Ae T e h)=some vs->rs.length=vs.length:=by
     intro rs
     induction rs with
     |nil=>intro vs gN;simp at gN;subst gN;rfl
     |cons r rs ih =>
      intro vs gN
      rw [List.mapM_cons] at gN
      simp only [Option.bind_eq_bind,cL,Option.pure_def,eh] at gN
      obtain ⟨v1,oq,ZB,Ga,rfl⟩:=gN
      simp [ih ZB Ga]
    rw [e2 _ _ gN,e1]
   rw [bx] at hl
   match hm:fn.results.toList,hl with
   | [r],_=>exact aS r hm
  rw [dif_neg (by simpa using hlen)]
end
end Go.Am
