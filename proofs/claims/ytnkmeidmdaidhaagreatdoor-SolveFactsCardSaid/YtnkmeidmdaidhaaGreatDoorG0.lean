/- The plain machine: a deterministic evaluator of the model's code over a heap of its own. Definitions alone; no condition. -/
import GoSem.Step
import Derived.Calls
import Derived.Below
import Derived.Laws.AppendOwn
import Derived.Laws.MakeOwn
import Derived.Laws.CopyRow
import Derived.Deep.MidRow
import Derived.Lib.Space
import Derived.Laws.StructEq
import Derived.ChangeKeysEq
import Derived.RangeFuncRecord
import Derived.Laws.BytesArg
import Derived.Lib.ConvBytes
import Derived.CallsIn
import Derived.TacticsIn
import Derived.LoopNIn
import Derived.Scope
import Derived.RangeFuncLeaves
set_option linter.unusedSimpArgs false
namespace Go.Am
theorem HQ:type_of% @Array.getElem?_eq_getElem:=@Array.getElem?_eq_getElem
theorem mU:type_of% @Array.getElem?_eq_some_iff:=@Array.getElem?_eq_some_iff
theorem xY:type_of% @Array.getElem?_push:=@Array.getElem?_push
theorem HP:type_of% @Array.getElem?_setIfInBounds_ne:=@Array.getElem?_setIfInBounds_ne
theorem vu:type_of% @Array.length_toList:=@Array.length_toList
theorem NO:type_of% @Array.toList_inj:=@Array.toList_inj
theorem dK:type_of% @Bool.and_eq_true:=@Bool.and_eq_true
theorem im:type_of% @Bool.and_self:=@Bool.and_self
theorem Gv:type_of% @Bool.and_true:=@Bool.and_true
theorem gX:type_of% @Bool.false_eq_true:=@Bool.false_eq_true
theorem Gw:type_of% @Bool.false_or:=@Bool.false_or
theorem zi:type_of% @Bool.not_eq_true':=@Bool.not_eq_true'
theorem sg:type_of% @Bool.or_eq_true:=@Bool.or_eq_true
theorem uK:type_of% @Int.toNat_natCast:=@Int.toNat_natCast
theorem Dn:type_of% @List.all_append:=@List.all_append
theorem gS:type_of% @List.all_cons:=@List.all_cons
theorem iM:type_of% @List.all_eq_true:=@List.all_eq_true
theorem iI:type_of% @List.all_nil:=@List.all_nil
theorem NN:type_of% @List.any_eq_false:=@List.any_eq_false
theorem Gi:type_of% @List.any_eq_true:=@List.any_eq_true
theorem se:type_of% @List.append_assoc:=@List.append_assoc
theorem bC:type_of% @List.append_nil:=@List.append_nil
theorem rh:type_of% @List.cons_append:=@List.cons_append
theorem Ig:type_of% @List.countP_cons:=@List.countP_cons
theorem NL:type_of% @List.drop_append:=@List.drop_append
theorem BG:type_of% @List.drop_drop:=@List.drop_drop
theorem C6:type_of% @List.drop_of_length_le:=@List.drop_of_length_le
theorem Gr:type_of% @List.drop_zero:=@List.drop_zero
theorem Nc:type_of% @List.eq_nil_of_length_eq_zero:=@List.eq_nil_of_length_eq_zero
theorem xZ:type_of% @List.ext_getElem? := @List.ext_getElem?
theorem NH:type_of% @List.filter_append:=@List.filter_append
theorem Qg:type_of% @List.filter_eq_nil_iff:=@List.filter_eq_nil_iff
theorem Ij:type_of% @List.flatMap_cons:=@List.flatMap_cons
theorem uL:type_of% @List.foldl_cons:=@List.foldl_cons
theorem me:type_of% @List.getD_eq_getElem?_getD:=@List.getD_eq_getElem?_getD
theorem BA:type_of% @List.getElem?_append:=@List.getElem?_append
theorem jz:type_of% @List.getElem?_append_left:=@List.getElem?_append_left
theorem lp:type_of% @List.getElem?_append_right:=@List.getElem?_append_right
theorem C7:type_of% @List.getElem?_cons_zero:=@List.getElem?_cons_zero
theorem lq:type_of% @List.getElem?_drop:=@List.getElem?_drop
theorem iH:type_of% @List.getElem?_eq_getElem:=@List.getElem?_eq_getElem
theorem H2:type_of% @List.getElem?_eq_none:=@List.getElem?_eq_none
theorem fG:type_of% @List.getElem?_eq_some_iff:=@List.getElem?_eq_some_iff
theorem lP:type_of% @List.getElem?_map:=@List.getElem?_map
theorem H5:type_of% @List.getElem?_modify:=@List.getElem?_modify
theorem Gd:type_of% @List.getElem?_of_mem:=@List.getElem?_of_mem
theorem NI:type_of% @List.getElem?_range:=@List.getElem?_range
theorem Ik:type_of% @List.getElem?_set:=@List.getElem?_set
theorem za:type_of% @List.getElem?_set_ne:=@List.getElem?_set_ne
theorem mV:type_of% @List.getElem?_set_self:=@List.getElem?_set_self
theorem qN:type_of% @List.getElem?_take:=@List.getElem?_take
theorem F6:type_of% @List.getElem?_take_of_lt:=@List.getElem?_take_of_lt
theorem zf:type_of% @List.getElem_of_mem:=@List.getElem_of_mem
theorem cE:type_of% @List.length_append:=@List.length_append
theorem ek:type_of% @List.length_cons:=@List.length_cons
theorem mf:type_of% @List.length_drop:=@List.length_drop
theorem C8:type_of% @List.length_eq_zero_iff:=@List.length_eq_zero_iff
theorem gw:type_of% @List.length_map:=@List.length_map
theorem db:type_of% @List.length_nil:=@List.length_nil
theorem Gg:type_of% @List.length_range:=@List.length_range
theorem ja:type_of% @List.length_set:=@List.length_set
theorem gF:type_of% @List.length_singleton:=@List.length_singleton
theorem gR:type_of% @List.length_take:=@List.length_take
theorem sf:type_of% @List.map_append:=@List.map_append
theorem Dg:type_of% @List.map_congr_left:=@List.map_congr_left
theorem qO:type_of% @List.map_cons:=@List.map_cons
theorem gg:type_of% @List.mem_append:=@List.mem_append
theorem xX:type_of% @List.mem_append_left:=@List.mem_append_left
theorem H3:type_of% @List.mem_append_right:=@List.mem_append_right
theorem df:type_of% @List.mem_cons:=@List.mem_cons
theorem pS:type_of% @List.mem_cons_of_mem:=@List.mem_cons_of_mem
theorem np:type_of% @List.mem_cons_self:=@List.mem_cons_self
theorem Il:type_of% @List.mem_filter:=@List.mem_filter
theorem BE:type_of% @List.mem_flatMap:=@List.mem_flatMap
theorem pC:type_of% @List.mem_map:=@List.mem_map
theorem en:type_of% @List.mem_of_getElem? := @List.mem_of_getElem?
theorem yZ:type_of% @List.mem_or_eq_of_mem_set:=@List.mem_or_eq_of_mem_set
theorem rj:type_of% @List.mem_range:=@List.mem_range
theorem ep:type_of% @List.mem_singleton:=@List.mem_singleton
theorem ya:type_of% @List.nil_append:=@List.nil_append
theorem il:type_of% @List.not_mem_nil:=@List.not_mem_nil
theorem vt:type_of% @List.pairwise_cons:=@List.pairwise_cons
theorem ze:type_of% @List.set_cons_succ:=@List.set_cons_succ
theorem gd:type_of% @List.set_cons_zero:=@List.set_cons_zero
theorem Xz:type_of% @List.takeWhile_append_dropWhile:=@List.takeWhile_append_dropWhile
theorem lr:type_of% @List.take_add_one:=@List.take_add_one
theorem H4:type_of% @List.take_append_drop:=@List.take_append_drop
theorem Ge:type_of% @List.take_length:=@List.take_length
theorem gb:type_of% @List.take_of_length_le:=@List.take_of_length_le
theorem Dp:type_of% @List.take_zero:=@List.take_zero
theorem pB:type_of% @Nat.add_assoc:=@Nat.add_assoc
theorem rk:type_of% @Nat.add_mul:=@Nat.add_mul
theorem De:type_of% @Nat.add_sub_cancel:=@Nat.add_sub_cancel
theorem Nl:type_of% @Nat.add_sub_cancel_left:=@Nat.add_sub_cancel_left
theorem gx:type_of% @Nat.add_zero:=@Nat.add_zero
theorem Ih:type_of% @Nat.le_add_right:=@Nat.le_add_right
theorem zj:type_of% @Nat.le_max_left:=@Nat.le_max_left
theorem zg:type_of% @Nat.le_max_right:=@Nat.le_max_right
theorem vy:type_of% @Nat.le_of_eq:=@Nat.le_of_eq
theorem aR:type_of% @Nat.le_refl:=@Nat.le_refl
theorem nq:type_of% @Nat.le_succ:=@Nat.le_succ
theorem eA:type_of% @Nat.le_trans:=@Nat.le_trans
theorem dr:type_of% @Nat.lt_of_lt_of_le:=@Nat.lt_of_lt_of_le
theorem mW:type_of% @Nat.lt_or_ge:=@Nat.lt_or_ge
theorem ri:type_of% @Nat.lt_succ_self:=@Nat.lt_succ_self
theorem Gh:type_of% @Nat.lt_trichotomy:=@Nat.lt_trichotomy
theorem yb:type_of% @Nat.min_le_left:=@Nat.min_le_left
theorem Ii:type_of% @Nat.min_le_right:=@Nat.min_le_right
theorem Dh:type_of% @Nat.mod_eq_of_lt:=@Nat.mod_eq_of_lt
theorem yc:type_of% @Nat.mul_comm:=@Nat.mul_comm
theorem uJ:type_of% @Nat.mul_le_mul_right:=@Nat.mul_le_mul_right
theorem vx:type_of% @Nat.not_lt_zero:=@Nat.not_lt_zero
theorem tp:type_of% @Nat.sub_self:=@Nat.sub_self
theorem vz:type_of% @Nat.succ_mul:=@Nat.succ_mul
theorem iA:type_of% @Nat.zero_add:=@Nat.zero_add
theorem iN:type_of% @Nat.zero_le:=@Nat.zero_le
theorem cG:type_of% @Option.bind_eq_some_iff:=@Option.bind_eq_some_iff
theorem dO:type_of% @Option.bind_some:=@Option.bind_some
theorem zh:type_of% @Option.getD_some:=@Option.getD_some
theorem Df:type_of% @Option.isSome_none:=@Option.isSome_none
theorem H6:type_of% @Option.isSome_some:=@Option.isSome_some
theorem ct:type_of% @Option.map_eq_some_iff:=@Option.map_eq_some_iff
theorem lu:type_of% @Option.map_some:=@Option.map_some
theorem eh:type_of% @Option.some.injEq:=@Option.some.injEq
theorem cQ:type_of% @Prod.mk.injEq:=@Prod.mk.injEq
theorem tn:type_of% @decide_eq_false:=@decide_eq_false
theorem sk:type_of% @decide_eq_true:=@decide_eq_true
theorem jm:type_of% @decide_eq_true_eq:=@decide_eq_true_eq
theorem az:type_of% @if_neg:=@if_neg
theorem aD:type_of% @if_pos:=@if_pos

inductive aZ where
 |row (cells:List Value) (elem:TypeId) (ro:Bool)
 |map (es:List MapEntry) (clock:Nat)
 |loop (env:List Value) (ps:List Tmp) (assign body:Code) (st:LoopState) (fM:Option Code)
 |dead

inductive Tr where
 |nil
 |node (v:Option aZ) (l r:Tr)

def Tr.get:Tr->Nat->Option aZ
 | .nil,_=>none
 | .node v l r,i=>match i with
  |0=>v
  |i+1=>if i % 2 == 0 then l.get (i / 2) else r.get (i / 2)

def Tr.set:Nat->Tr->Nat->aZ->Tr
 |0,t,_,_=>t
 |n+1,t,i,o =>
  match t with
  | .nil=>match i with
   |0=>.node (some o) .nil .nil
   |i+1=>if i % 2 == 0 then .node none (Tr.set n .nil (i / 2) o) .nil else .node none .nil (Tr.set n .nil (i / 2) o)
  | .node v l r=>match i with
   |0=>.node (some o) l r
   |i+1=>if i % 2 == 0 then .node v (Tr.set n l (i / 2) o) r else .node v l (Tr.set n r (i / 2) o)

structure Heap where
 size:Nat
 tr:Tr
 low:Nat
abbrev aJ:=Value->Heap->Prop
abbrev aU:=ByteArray
abbrev ai:=Value

def Heap.get (h:Heap) (A:Nat):Option aZ:=if A < h.size then h.tr.get A else none
def Heap.push (h:Heap) (b:aZ):Heap:={ h with size:=h.size+1,tr:=h.tr.set (h.size+1) h.size b }
def Heap.set (h:Heap) (A:Nat) (b:aZ):Heap:={ h with tr:=h.tr.set (A+1) A b,low:=min h.low A }

def G:Nat:=18446744073709551616

abbrev Env:=List ai
def Env.get:Env->Nat->ai
 | [],_=>undef
 |v::_,0=>v
 |_::r,n+1=>Env.get r n
def Env.set:Env->Nat->ai->Env
 | [],_,_=>[]
 |_::r,0,v=>v::r
 |x::r,n+1,v=>x::Env.set r n v

def lM:ai->Bool
 | .bool _ | .int _ _ | .string _ | .nilFunc | .nilIface=>true
 | .pointer none | .map none=>true
 | .slice none n c=>n == 0 && c == 0
 | .func (.func _) f c=>f.isEmpty && c.isEmpty
 |_=>false
def plain:ai->Bool
 | .agg cs=>cs.toList.all lM
 |v=>lM v
def one:ai->Bool
 | .agg _ | .tuple _=>false
 |_=>true

def gB {Z:Type} (P:Program):Sem Z->Option Z
 | .pure a=>some a
 | .program k=>gB P (k P)
 | .mark _ k=>gB P k
 |_=>none

structure bJ where
 desc:TypeId->Option TypeDesc
 info:TypeId->Option (Nat × Nat × List ai)
 fn:FuncId->Option Func
 cmp:TypeId->Bool
 zero:TypeId->Option ai
 gs:List Nat
 xr:TypeId->String->Option Method
 Jy:FuncId->Bool

section
variable (P:Program) (T:bJ)

def dJ (t:TypeId):Option Nat:=(T.info t).map (·.1)
def dA (t:TypeId):Option Bool:=(T.desc t).map fun
 | .struct _ | .array _ _=>true
 |_=>false

def cut (cs:List ai) (o n:Nat):Option (List ai):=if o+n<=cs.length then some ((cs.drop o).take n) else none
def aI (cs:List ai) (o:Nat) (vs:List ai):List ai:=cs.take o++vs++cs.drop (o+vs.length)

def kY (A o n:Nat) (h:Heap):Option (List ai) :=
 match h.get A with
 |some (.row cs _ _)=>cut cs o n
 |_=>none

def iz (t:TypeId) (x:ai) (h:Heap):Option ai :=
 match x with
 | .pointer (some ⟨A,o,none⟩) =>
  (dA T t).bind λg =>
   if g then (dJ T t).bind λn=>(kY A o n h).map λl=>.agg l.toArray
   else (kY A o 1 h).bind λl=>l[0]?
 |_=>none

def nM (A o:Nat) (vs:List ai) (h:Heap):Option Heap :=
 match h.get A with
 |some (.row cs e false)=>if o+vs.length<=cs.length && vs.all one then some (h.set A (.row (aI cs o vs) e false)) else none
 |_=>none

def i7 (t:TypeId) (x v:ai) (h:Heap):Option Heap :=
 match x with
 | .pointer (some ⟨A,o,none⟩)=>(dJ T t).bind λn=>if v.cells.size=n then nM A o v.cells.toList h else none
 |_=>none

def newRow (e:TypeId) (cs:List ai) (h:Heap):ai × Heap:=(.pointer (some ⟨h.size,0,none⟩),h.push (.row cs e false))

def nj (x:ai) (k:Nat) (h:Heap):Option (List ai) :=
 match x with
 | .slice (some ⟨A,o,none⟩) n _=>if n*k=0 then some [] else kY A o (n*k) h
 | .slice none 0 _=>some []
 |_=>none

def fU (x:ai) (k:Nat) (h:Heap):Option (Nat × List ai) :=
 match x with
 | .string b=>if k=1 then some (b.size,b.data.toList.map λu=>Value.int .u8 u.toNat) else none
 | .slice _ m _=>(nj x k h).map λl=>(m,l)
 |_=>none

def jT (t:TypeId) (s x:ai) (h:Heap):Option (ai × Heap) :=
 match T.desc t with
 |some (.slice e)=>(T.info e).bind λ(k,bytes,_) =>
  (fU x k h).bind λ(m,news) =>
  match s with
  | .slice base n c =>
   if m=0 then some (s,h) else
   if k=0 || (n+m)*bytes > 140737488355328 || n+m > 1152921504606846976 || !news.all one then none else
   if n+m<=c % G then
    match base with
    |some ⟨A,o,none⟩=>if c < G || c / G=k then (nM A (o+n*k) news h).map λh'=>(.slice base (n+m) c,h') else none
    |_=>none
   else
    (nj s k h).bind λeF =>
    if c < G then some (.slice (some ⟨h.size,0,none⟩) (n+m) (G*k+(n+m)),h.push (.row (eF++news) e false))
    else match base with
     |some ⟨A,_,none⟩=>match h.get A with
      |some (.row _ e' false) =>
       if e'=e && c / G=k then some (.slice (some ⟨h.size,0,none⟩) (n+m) (G*k+(n+m)),(h.set A .dead).push (.row (eF++news) e false)) else none
      |_=>none
     |_=>none
  |_=>none
 |_=>none

def xV (x:ai) (hi:Nat):Option Nat :=
 match x with
 | .int _ i=>if 0<=i/\i<=hi then some i.toNat else none
 |_=>none

def qZ (len cap:Nat) (l h m:Option ai):Option (Nat × Nat × Nat) :=
 (match m with|some v=>xV v cap|none=>some cap).bind λm' =>
 (match h,m with|some v,_=>xV v m'|none,none=>some len|none,some _=>none).bind λh' =>
 (match l with|some v=>xV v h'|none=>some 0).bind λl'=>some (l',h',m')

def lN (t:TypeId) (x:ai) (l h m:Option ai):Option ai :=
 match T.desc t,x with
 |some .string,.string s=>if m.isSome then none else (qZ s.size s.size l h none).map λ(l',h',_)=>.string (s.extract l' h')
 |some (.array n e),.pointer (some ⟨A,o,none⟩) =>
  (if n < G then qZ n n l h m else none).bind λ(l',h',m')=>(dJ T e).map λk=>.slice (some ⟨A,if m'=l' then o else o+l'*k,none⟩) (h' - l') (m' - l')
 |some (.slice e),.slice a n c =>
  (dJ T e).bind λk =>
  if c < G then
   (qZ n c l h m).bind λ(l',h',m')=>match a with
    |some ⟨A,o,none⟩=>some (.slice (some ⟨A,if m'=l' then o else o+l'*k,none⟩) (h' - l') (m' - l'))
    |none=>some (.slice none (h' - l') (m' - l'))
    |_=>none
  else match a with
   |some ⟨A,o,none⟩ =>
    if c / G=k then
     (qZ n (c % G) l h m).map λ(l',h',m')=>match m with
      |some _=>.slice (some ⟨A,if m'=l' then o else o+l'*k,none⟩) (h' - l') (m' - l')
      |none=>.slice (some ⟨A,o+l'*k,none⟩) (h' - l') (G*k+(m' - l'))
    else none
   |_=>none
 |_,_=>none

def kC (t:TypeId) (x i:ai):Option ai :=
 match i with
 | .int _ i=>match T.desc t,x with
  |some (.array n e),.pointer (some ⟨A,o,none⟩)=>if 0<=i/\i < n then (dJ T e).map λk=>.pointer (some ⟨A,o+i.toNat*k,none⟩) else none
  |some (.slice e),.slice (some ⟨A,o,none⟩) n _=>if 0<=i/\i < n then (dJ T e).map λk=>.pointer (some ⟨A,o+i.toNat*k,none⟩) else none
  |_,_=>none
 |_=>none

def lK (s:TypeId) (x:ai) (f:Nat):Option ai :=
 match T.desc s,x with
 |some (.struct fs),.pointer (some ⟨A,o,none⟩) =>
  (fs[f]?).bind λf=>(dJ T f.type).bind λn=>if n=0 then none else some (.pointer (some ⟨A,o+f.offset,none⟩))
 |_,_=>none

def BB (t:TypeId) (cs:List ai) (o:Nat):Option ai :=
 (dA T t).bind λg=>if g then (dJ T t).bind λn=>(cut cs o n).map λl=>.agg l.toArray else cs[o]?

def QR (t:TypeId) (x:ai) (f:Nat):Option ai :=
 match T.desc t,x with
 |some (.struct fs),.agg cs=>(fs[f]?).bind λf=>BB T f.type cs.toList f.offset
 |_,_=>none

def Bn (E:TypeId->ai->ai->Option Bool) (xs ys:List ai):List (TypeId × Nat)->Option Bool
 | []=>some true
 |(t,o)::r=>(BB T t xs o).bind λa=>(BB T t ys o).bind λb=>(E t a b).bind λc=>if c then Bn E xs ys r else some false
def Hm:List Field->Option (List (TypeId × Nat))
 | []=>some []
 |f::fs=>if f.name="_" then none else (Hm fs).map λr=>(f.type,f.offset)::r
def HE (e:TypeId) (k:Nat):Nat->Nat->List (TypeId × Nat)
 |0,_=>[]
 |n+1,i=>(e,i*k)::HE e k n (i+1)
def dC:Nat->TypeId->ai->ai->Option Bool
 |0,_,_,_=>none
 |d+1,t,x,y=>match T.desc t,x,y with
  |some .bool,.bool a,.bool b=>some (a == b)
  |some (.int _),.int k a,.int k' b=>if k=k' then some (a == b) else none
  |some .string,.string a,.string b=>some (a.data.toList == b.data.toList)
  |some (.struct fs),.agg xs,.agg ys=>if T.cmp t then (Hm fs.toList).bind λps=>Bn T (dC d) xs.toList ys.toList ps else none
  |some (.array n e),.agg xs,.agg ys=>(dJ T e).bind λk=>Bn T (dC d) xs.toList ys.toList (HE e k n 0)
  |_,_,_=>none

def pA (place:Nat->Option (Nat × Nat)) (cells:List ai):List (Nat × ai)->Option (List ai)
 | []=>some cells
 |(i,v)::rest=>(place i).bind λ(o,n) =>
  if v.cells.size=n/\o+n<=cells.length then pA place (aI cells o v.cells.toList) rest else none

def Nv:List Field->Option (List (Nat × Nat))
 | []=>some []
 |f::fs=>(dJ T f.type).bind λn=>(Nv fs).map λr=>(f.offset,n)::r

def lL (t:TypeId) (parts:List (Nat × ai)):Option ai :=
 (T.info t).bind λ(_,_,z) =>
 match T.desc t with
 |some (.struct fs)=>(Nv T fs.toList).bind λplaces=>(pA (λk=>places[k]?) z parts).map λcs=>.agg cs.toArray
 |some (.array _ e)=>(dJ T e).bind λk=>(pA (λi=>some (i*k,k)) z parts).map λcs=>.agg cs.toArray
 |_=>none

def nN (z:List ai) (n:Nat):List ai:=(List.replicate n z).flatten

def xM (t:TypeId) (len:Nat) (parts:List (Nat × ai)) (h:Heap):Option (ai × Heap) :=
 match T.desc t with
 |some (.slice e)=>(T.info e).bind λ(k,_,z) =>
  if len*k > 16777216 || len > 16777216 then none else
  (pA (λi=>some (i*k,k)) (nN z len) parts).map λcs=>(.slice (some ⟨h.size,0,none⟩) len len,h.push (.row cs e false))
 |_=>none

def MW (t:TypeId) (l c:ai) (h:Heap):Option (ai × Heap) :=
 match T.desc t,l,c with
 |some (.slice e),.int _ l,.int _ c=>(T.info e).bind λ(_,bytes,z) =>
  if 0<=l/\l<=c/\c<=1152921504606846976/\c*bytes<=140737488355328 then
   some (.slice (some ⟨h.size,0,none⟩) l.toNat c.toNat,h.push (.row (nN z c.toNat) e false))
  else none
 |_,_,_=>none

def Oc (t:TypeId) (d s:ai) (h:Heap):Option (ai × Heap) :=
 match T.desc t,d with
 |some (.slice e),.slice a n _=>(dJ T e).bind λk =>
  (fU s k h).bind λ(m,src) =>
  if min m n=0 then some (.int .i64 0,h) else
  match a with
  |some ⟨A,o,none⟩=>(nM A o (src.take (min m n*k)) h).map λh'=>(.int .i64 (min m n:Nat),h')
  |_=>none
 |_,_=>none

def vp (t:TypeId) (x:ai) (h:Heap):Option Heap :=
 match T.desc t,x with
 |some (.slice e),.slice a n _ =>
  if n=0 then some h else
  (T.info e).bind λ(_,_,z) =>
  match a with
  |some ⟨A,o,none⟩=>nM A o (nN z n) h
  |_=>none
 |_,_=>none

def Gn (d:TypeDesc) (x y:ai):Option Bool :=
 match d,x,y with
 | .pointer _,.pointer none,.pointer b=>some b.isNone
 | .pointer _,.pointer (some _),.pointer none=>some false
 | .slice _,.slice none _ _,.slice b _ _=>some b.isNone
 | .slice _,.slice (some _) _ _,.slice none _ _=>some false
 | .map _ _,.map none,.map b=>some b.isNone
 | .map _ _,.map (some _),.map none=>some false
 | .func _ _ _,.nilFunc,.nilFunc=>some true
 | .func _ _ _,.nilFunc,.func _ _ _=>some false
 | .func _ _ _,.func _ _ _,.nilFunc=>some false
 |_,_,_=>none

def r5 (op:BinOp) (x y:ai):Option ai :=
 match op,x,y with
 | .add,.int k a,.int k' b=>if k=k' then some (.int k (k.wrap (a+b))) else none
 | .sub,.int k a,.int k' b=>if k=k' then some (.int k (k.wrap (a - b))) else none
 | .eql,.int k a,.int k' b=>if k=k' then some (.bool (a == b)) else none
 | .neq,.int k a,.int k' b=>if k=k' then some (.bool (a != b)) else none
 | .lss,.int k a,.int k' b=>if k=k' then some (.bool (a < b)) else none
 | .leq,.int k a,.int k' b=>if k=k' then some (.bool (a<=b)) else none
 | .gtr,.int k a,.int k' b=>if k=k' then some (.bool (a > b)) else none
 | .geq,.int k a,.int k' b=>if k=k' then some (.bool (a >= b)) else none
 |_,_,_=>none

def cA (op:BinOp) (t:TypeId) (x y:ai):Option ai :=
 match r5 op x y with
 |some v=>some v
 |none =>
  match (T.desc t).bind λd=>Gn d x y with
  |some b=>(match op with | .eql=>some (.bool b) | .neq=>some (.bool !b)|_=>none)
  |none =>
   if plain x && plain y then
    match x,y with
    | .nilIface,_=>none
    | .agg _,.agg _=>if T.cmp t then (match op with
     | .eql=>(dC T 20 t x y).map λb=>.bool b
     | .neq=>(dC T 20 t x y).map λb=>.bool !b
     |_=>none) else none
    |_,_=>(gB P (binOp op t x y)).bind λv=>if plain v then some v else none
   else none

def bQ (t:TypeId) (x:ai) (h:Heap):Option ai :=
 match T.desc t,x with
 |some .string,.string s=>some (.int .i64 s.size)
 |some (.slice _),.slice _ n _=>some (.int .i64 n)
 |some (.map _ _),.map none=>some (.int .i64 0)
 |some (.map _ _),.map (some A)=>(match h.get A with
  |some (.map es _)=>some (.int .i64 es.length)
  |_=>none)
 |_,_=>none

def BC:ai->ai->Bool
 | .bool a,.bool b=>a == b
 | .int j a,.int k b=>decide (j=k) && a == b
 | .string a,.string b=>a.data.toList == b.data.toList
 |_,_=>false
def HY:List ai->List ai->Bool
 | [],[]=>true
 |x::xs,y::ys=>BC x y && HY xs ys
 |_,_=>false
def CY:ai->ai->Bool
 | .agg a,.agg b=>HY a.toList b.toList
 |x,y=>BC x y
def sc (kt:TypeId) (k:ai):Bool:=if plain k then (match dC T 20 kt k k with|some b=>b|none=>false) else false
def mb (kt:TypeId) (k:ai):List MapEntry->Nat->Option (Option (Nat × ai))
 | [],_=>some none
 |e::es,i=>(dC T 20 kt k e.key).bind λb=>if b then some (some (i,e.val)) else mb kt k es (i+1)
def Gl (x:ai) (h:Heap):Option (List MapEntry) :=
 match x with
 | .map none=>some []
 | .map (some A)=>(match h.get A with|some (.map es _)=>some es|_=>none)
 |_=>none
def u9 (t:TypeId) (x k:ai) (ok:Bool) (h:Heap):Option ai :=
 match T.desc t with
 |some (.map kt et) =>
  if sc T kt k then
   (Gl x h).bind λes=>(mb T kt k es 0).bind λr=>(match r with
    |some (_,v)=>some (v,true)
    |none=>(T.zero et).map λz=>(z,false)).map λ(v,b)=>if ok then .tuple #[v,.bool b] else v
  else none
 |_=>none
def oG (t:TypeId) (x k v:ai) (h:Heap):Option Heap :=
 match T.desc t,x with
 |some (.map kt _),.map (some A)=>(match h.get A with
  |some (.map es clock) =>
   if sc T kt k then
    (mb T kt k es 0).bind λr=>match r with
     |some (i,_)=>(es[i]?).bind λe=>if CY e.key k then some (h.set A (.map (es.modify i λe=>{ e with key:=k,val:=v }) clock)) else none
     |none=>some (h.set A (.map (es++[{ key:=k,val:=v,born:=clock }]) (clock+1)))
   else none
  |_=>none)
 |_,_=>none

def bz (e:Env):Operand->ai
 | .tmp t=>e.get t
 | .const v=>v
 | .global g=>.pointer (some ⟨g,0,none⟩)
 | .func f=>.func (.func f) #[] #[]

def ND (t:TypeId) (x k:ai) (h:Heap):Option Heap :=
 match T.desc t,x with
 |some (.map kt _),.map none=>if sc T kt k then some h else none
 |some (.map kt _),.map (some A)=>(match h.get A with
  |some (.map es clock) =>
   if sc T kt k then
    (mb T kt k es 0).bind λr=>match r with
     |some (i,_)=>some (h.set A (.map (es.eraseIdx i) clock))
     |none=>some (h.set A (.map es clock))
   else none
  |_=>none)
 |_,_=>none

def NR (t:TypeId) (x k:ai) (h:Heap):Option (ai × Heap) :=
 match T.desc t,x with
 |some (.map kt et),.map (some A)=>(match h.get A with
  |some (.map es clock) =>
   if sc T kt k then
    (mb T kt k es 0).bind λr=>match r with
     |some (i,v)=>(es[i]?).bind λe=>if CY e.key k then some (.tuple #[v,.int .i64 e.born],h.set A (.map (es.modify i λe=>{ e with key:=k }) clock)) else none
     |none=>(T.zero et).map λz=>(.tuple #[z,.int .i64 clock],h.set A (.map (es++[{ key:=k,val:=z,born:=clock }]) (clock+1)))
   else none
  |_=>none)
 |_,_=>none
def QN (s:Int):List MapEntry->Nat->Option Nat
 | [],_=>none
 |e::es,i=>if (e.born:Int)=s then some i else QN s es (i+1)
def MF (x s v:ai) (h:Heap):Option Heap :=
 match x,s with
 | .map (some A),.int _ b=>(match h.get A with
  |some (.map es clock)=>(QN b es 0).map λi=>h.set A (.map (es.modify i λe=>{ e with val:=v }) clock)
  |_=>none)
 |_,_=>none

def Zi (t:TypeId) (x:ai):Option ai:=match T.desc t with
 |some (.interface _)=>none
 |some _=>some (.iface t x)
 |none=>none
def Y0 (x:ai) (asserted:TypeId) (ok:Bool):Option ai:=match T.desc asserted with
 |some (.interface _)=>none
 |some _=>(match x with
  | .iface t v=>if t=asserted then some (if ok then .tuple #[v,.bool true] else v) else if ok then (T.zero asserted).map λz=>.tuple #[z,.bool false] else none
  | .nilIface=>if ok then (T.zero asserted).map λz=>.tuple #[z,.bool false] else none
  |_=>none)
 |none=>none
inductive gj where
 |val (v:ai)
 |var (p:ai)
def gj.get (t:TypeId) (h:Heap):gj->Option ai
 | .val v=>some v
 | .var p=>iz T t p h
def HT (h:Heap):List FieldStep->TypeId->gj->Option (TypeId × gj)
 | [],t,x=>some (t,x)
 |s::rest,t,x=>match T.desc s.struct with
  |some (.struct fs)=>(fs[s.index]?).bind λf =>
   if s.deref then (x.get T t h).bind λp=>(lK T s.struct p s.index).bind λq=>HT h rest f.type (.var q)
   else match x with
    | .var p=>(lK T s.struct p s.index).bind λq=>HT h rest f.type (.var q)
    | .val (.agg cs)=>(BB T f.type cs.toList f.offset).bind λv=>HT h rest f.type (.val v)
    |_=>none
  |_=>none
def X0 (xt:TypeId) (x:gj) (ptr:Bool) (h:Heap):Option ai :=
 match T.desc xt,ptr,x with
 |some (.pointer _),true,x=>x.get T xt h
 |some (.pointer elem),false,x=>(x.get T xt h).bind λp=>iz T elem p h
 |some _,true,.var p=>(match p with | .pointer (some a)=>some (.pointer (some a))|_=>none)
 |some _,false,x=>x.get T xt h
 |_,_,_=>none
def QD (t:TypeId) (v:ai) (name:String) (h:Heap):Option (FuncId × ai) :=
 (T.xr t name).bind λm=>(HT T h m.path.toList t (.val v)).bind λ(xt,x)=>match m.func with
  |some (f,ptr)=>(X0 T xt x ptr h).map λr=>(f,r)
  |none=>none

def NT:List ai->Option (List UInt8)
 | []=>some []
 | .int .u8 n::l=>(NT l).map (UInt8.ofNat n.toNat::·)
 |_=>none
def Qj (s d:TypeId) (x:ai) (h:Heap):Option ai :=
 match T.desc s,T.desc d,x with
 |some (.slice e),some .string,.slice _ _ _=>(match T.desc e with
  |some (.int .u8)=>(nj x 1 h).bind λl=>(NT l).map λbs=>.string ⟨bs.toArray⟩
  |_=>none)
 |_,_,_=>none
def HH (d:TypeId) (x:ai) (h:Heap):Option (ai × Heap) :=
 match T.desc d,x with
 |some (.slice e),.string b=>(match T.desc e,T.info e with
  |some (.int .u8),some (1,_,_)=>if b.size > 1152921504606846976\/e≠5 then none else some (.slice (some ⟨h.size,0,none⟩) b.size (G*1+b.size),h.push (.row (b.data.toList.map λu=>Value.int .u8 u.toNat) e false))
  |_,_=>none)
 |_,_=>none
def Qr (t:TypeId):Bool:=match T.desc t with
 |some .string=>true
 |_=>false
def sZ (t:TypeId):Bool:=match T.desc t with
 |some (.slice _)=>true
 |_=>false
def DL (t:TypeId) (x:ai):Option ai :=
 match T.desc t,x with
 |some (.slice _),.slice _ _ c=>if c < G then some (.int .i64 c) else none
 |_,_=>none

def gP (e:Env) (o:Oper) (h:Heap):Option (ai × Heap) :=
 if o.op.operands.toList.all λx=>plain (bz e x) then
  match gB P (execOp (bz e) o) with
  |some (.value v)=>if plain v then some (v,h) else none
  |_=>none
 else none

def td (t u:TypeId):Bool:=u == t || (match T.desc u with|some .string|some (.slice _)=>true|_=>false)

variable (C:Fn->List ai->Heap->Option (ai × Heap))

def gD (e:Env) (o:Oper) (h:Heap):Option (ai × Heap) :=
 let v:=bz e
 match o.op with
 | .move x=>some (v x,h)
 | .assign x=>some (v x,h)
 | .pick c a b=>match v c with | .bool t=>some (if t then v a else v b,h)|_=>none
 | .alloc t=>(T.info t).map λ(_,_,z)=>newRow t z h
 | .box t x=>some (newRow t (v x).cells.toList h)
 | .build t ps=>(lL T t (ps.toList.map λ(i,x)=>(i,v x))).map λr=>(r,h)
 | .buildSlice t n ps=>xM T t n (ps.toList.map λ(i,x)=>(i,v x)) h
 | .load t a=>(iz T t (v a) h).map λr=>(r,h)
 | .store t a x=>(i7 T t (v a) (v x) h).map λh'=>(undef,h')
 | .nilCheck x=>match v x with
  | .pointer (some a)=>some (.pointer (some a),h)
  | .func (.func f) a b=>some (.func (.func f) a b,h)
  | .iface t a=>some (.iface t a,h)
  |_=>none
 | .binOp op t x y _=>(cA P T op t (v x) (v y)).map λr=>(r,h)
 | .makeFunc fn first captured=>match fn with | .func f=>some (.func (.func f) (first.map v) (captured.map v),h)|_=>none
 | .makeSlice t l c=>MW T t (v l) (v c) h
 | .slice t x l hi m=>(lN T t (v x) (l.map v) (hi.map v) (m.map v)).map λr=>(r,h)
 | .fieldAddr s x f=>(lK T s (v x) f).map λr=>(r,h)
 | .field t x f=>(QR T t (v x) f).map λr=>(r,h)
 | .indexAddr t x i=>(kC T t (v x) (v i)).map λr=>(r,h)
 | .extract t i=>match v t with | .tuple vs=>(vs[i]?).map λr=>(r,h)|_=>none
 | .unOp _ _ _=>gP P e o h
 | .convert s d x=>if sZ T s then (Qj T s d (v x) h).map λr=>(r,h) else if sZ T d then (if Qr T s then HH T d (v x) h else none) else gP P e o h
 | .index _ _ _=>gP P e o h
 | .call c=>match c.callee with
  | .builtin .append=>match c.argTypes.toList,c.args.toList with
   | [t,u],[s,x]=>if td T t u then jT T t (v s) (v x) h else none
   |_,_=>none
  | .builtin .copy=>match c.argTypes.toList,c.args.toList with
   | [t,_],[d,s]=>Oc T t (v d) (v s) h
   |_,_=>none
  | .builtin .clear=>match c.argTypes.toList,c.args.toList with
   | [t],[x]=>(vp T t (v x) h).map λh'=>(undef,h')
   |_,_=>none
  | .builtin .len=>match c.argTypes.toList,c.args.toList with
   |t::_,[x]=>(bQ T t (v x) h).map λr=>(r,h)
   |_,_=>none
  | .builtin .min=>gP P e o h
  | .builtin .max=>gP P e o h
  | .builtin .delete=>match c.argTypes.toList,c.args.toList with
   |t::_,[m,k]=>(ND T t (v m) (v k) h).map λh'=>(undef,h')
   |_,_=>none
  | .builtin .cap=>match c.argTypes.toList,c.args.toList with
   |t::_,[x]=>(DL T t (v x)).map λr=>(r,h)
   |_,_=>none
  | .invoke r name=>match v r with
   | .iface t x=>(QD T t x name h).bind λ(f,y)=>C (.func f) (y::c.args.toList.map v) h
   |_=>none
  | .value f=>match v f with
   | .func (.func f) first captured=>C (.func f) (first.toList++c.args.toList.map v++captured.toList) h
   | .func (.yield A) first captured=>if first.isEmpty && captured.isEmpty then C (.yield A) (c.args.toList.map v) h else none
   |_=>none
  |_=>none
 | .makeMap t r=>match r with
  |none=>some (.map (some h.size),h.push (.map [] 0))
  |some x=>(match T.desc t,v x with
   |some (.map _ _),.int _ _=>some (.map (some h.size),h.push (.map [] 0))
   |_,_=>none)
 | .lookup t x k ok=>(u9 T t (v x) (v k) ok h).map λr=>(r,h)
 | .mapUpdate t m k x=>(oG T t (v m) (v k) (v x) h).map λh'=>(undef,h')
 | .insert t m k x=>(oG T t (v m) (v k) (v x) h).map λh'=>(undef,h')
 | .mapEntry t m k=>NR T t (v m) (v k) h
 | .entryStore _ m s x=>(MF (v m) (v s) (v x) h).map λh'=>(undef,h')
 | .makeInterface t x=>(Zi T t (v x)).map λr=>(r,h)
 | .typeAssert x _ t ok=>(Y0 T (v x) t ok).map λr=>(r,h)
 |_=>none

def ma (ops:Array Oper) (o:Oper) (e:Env):Bool :=
 match o.guard with
 |none=>true
 |some (j,b)=>match (ops[j]?).bind (·.dst) with
  |some t=>(match e.get t with | .bool c=>c == b|_=>false)
  |none=>false

def put (e:Env) (d:Option Tmp) (v:ai):Env:=match d with
 |some d=>e.set d v
 |none=>e

def r7 (ops:Array Oper):List Oper->Env->Heap->Option (Env × Heap)
 | [],e,h=>some (e,h)
 |o::rest,e,h =>
  if ma ops o e then
   match gD P T C e o h with
   |some (v,h')=>r7 ops rest (put e o.dst v) h'
   |none=>none
  else r7 ops rest (put e o.dst undef) h

inductive Ex where
 |normal
 |exit (id:Nat)
 |ret

def iter (f:Env->Heap->Option (Ex × Env × Heap)):Nat->Env->Heap->Option (Ex × Env × Heap)
 |0,_,_=>none
 |n+1,e,h=>match f e h with
  |some (.normal,e',h')=>iter f n e' h'
  |r=>r

variable (D:Array Oper->Env->Heap->Option (Env × Heap))

def Yx (rd:Option Nat) (h:Heap):Bool:=match rd with
 |none=>true
 |some A=>(match h.get A with|some (.loop ..)=>true|_=>false)
def Hx (l:Nat) (e:Env) (h:Heap):Option (Ex × Env × Heap) :=
 match h.get l with
 |some (.loop env ps assign body st fM)=>(match st with
  | .busy=>none
  |_=>(match fM with
   |none=>some (.normal,e,h.set l (.loop env ps assign body .exhausted fM))
   |some (.exit id)=>some (.exit id,e,h.set l (.loop env ps assign body .exhausted fM))
   |some .ret=>some (.ret,e,h.set l (.loop env ps assign body .exhausted fM))
   |_=>none))
 |_=>none
def YV (f:FuncId):Bool:=match T.fn f with
 |some fn=>(match fn.body with|some _=>true|none=>false)
 |none=>false
def H7 (rd:Option Nat) (g:ai) (ps:List Tmp) (assign body:Code) (e:Env) (h:Heap):Option (Ex × Env × Heap) :=
 match g with
 | .func (.func f) first captured =>
  if Yx rd h && YV T f then
   match C (.func f) (first.toList++[.func (.yield h.size) #[] #[]]++captured.toList) (h.push (.loop e ps assign body .ready none)) with
   |some (_,h2)=>Hx h.size e h2
   |none=>none
  else none
 |_=>none

def dV (rd:Option Nat) (fuel:Nat):Code->Env->Heap->Option (Ex × Env × Heap)
 | .skip,e,h=>some (.normal,e,h)
 | .region _ ops d,e,h=>(if d then D ops e h else r7 P T C ops ops.toList e h).map λ(e',h')=>(.normal,e',h')
 | .seq a b,e,h=>match dV rd fuel a e h with
  |some (.normal,e',h')=>dV rd fuel b e' h'
  |r=>r
 | .cond c a b,e,h=>match bz e c with
  | .bool true=>dV rd fuel a e h
  | .bool false=>dV rd fuel b e h
  |_=>none
 | .block id c,e,h=>match dV rd fuel c e h with
  |some (.exit i,e',h')=>if i=id then some (.normal,e',h') else some (.exit i,e',h')
  |r=>r
 | .loop c,e,h=>iter (dV rd fuel c) fuel e h
 | .scope c,e,h=>dV rd fuel c e h
 | .rangeFunc g ps assign body,e,h=>H7 T C rd (bz e g) ps.toList assign body e h
 | .exit id,e,h=>some (.exit id,e,h)
 | .ret,e,h=>some (.ret,e,h)
 | .label _,e,h=>some (.normal,e,h)
 |_,_,_=>none

def uy (e:Env) (h:Heap):ResultVar->Option ai
 | .tmp t=>some (e.get t)
 | .cell a t=>iz T t (e.get a) h

def nI (fn:Func) (e:Env) (h:Heap):Option ai :=
 match fn.results.toList with
 | [r]=>uy T e h r
 |rs=>(rs.mapM (uy T e h)).map λvs=>.tuple vs.toArray
end

def M9 (gs:List Nat):Operand->Bool
 | .const v=>plain v
 | .global g=>gs.contains g
 |_=>true
def Lp (gs:List Nat) (o:Oper):Bool:=o.op.operands.toList.all (M9 gs)
def rb (gs:List Nat):Code->Bool
 | .region _ ops _=>ops.toList.all (Lp gs)
 | .seq a b=>rb gs a && rb gs b
 | .cond c a b=>M9 gs c && rb gs a && rb gs b
 | .block _ c=>rb gs c
 | .loop c=>rb gs c
 | .scope c=>rb gs c
 | .rangeFunc g _ a b=>M9 gs g && rb gs a && rb gs b
 |_=>true
end Go.Am
namespace Go.Am
open Go.RowKit
variable {h:Heap} {u v x:ai} {l m:List ai} {w:World}

theorem Tr.get_nil (i:Nat):Tr.get .nil i=none:=by cases i <;> rfl

theorem Tr.aG:∀ (n:Nat) (t:Tr) (i j:Nat) (o:aZ),i < n->(Tr.set n t i o).get j=if j=i then some o else t.get j
 |0,_,_,_,_,h=>by omega
 |n+1,t,i,j,o,h=>by
  cases t with
  |nil =>
   cases i with
   |zero=>cases j with
    |zero=>simp [Tr.set,Tr.get]
    |succ j=>simp [Tr.set,Tr.get]
   |succ i =>
    have hi:i / 2 < n:=by omega
    by_cases he:i % 2=0
    .cases j with
     |zero=>simp [Tr.set,Tr.get,he]
     |succ j =>
      by_cases hj:j % 2=0
      .simp only [Tr.set,Tr.get,he,hj,beq_self_eq_true,if_true,Tr.aG n .nil (i / 2) (j / 2) o hi]
       by_cases e:j=i
       .subst e;simp
       .rw [az (by omega),az (by omega)]
      .have zZ:(j % 2 == 0)=false:=by simpa using hj
       simp only [Tr.set,Tr.get,he,zZ,beq_self_eq_true,if_true,gX,if_false]
       rw [az (by intro e;apply hj;have:j=i:=by omega
                  subst this;exact he)]
    .have yp:(i % 2 == 0)=false:=by simpa using he
     cases j with
     |zero=>simp [Tr.set,Tr.get,yp]
     |succ j =>
      by_cases hj:j % 2=0
      .simp only [Tr.set,Tr.get,yp,hj,beq_self_eq_true,if_true,gX,if_false]
       rw [az (by intro e;apply he;have:j=i:=by omega
                  subst this;exact hj)]
      .have zZ:(j % 2 == 0)=false:=by simpa using hj
       simp only [Tr.set,Tr.get,yp,zZ,gX,if_false,Tr.aG n .nil (i / 2) (j / 2) o hi]
       by_cases e:j=i
       .subst e;simp
       .rw [az (by omega),az (by omega)]
  |node v l r =>
   cases i with
   |zero=>cases j with
    |zero=>simp [Tr.set,Tr.get]
    |succ j=>simp [Tr.set,Tr.get]
   |succ i =>
    have hi:i / 2 < n:=by omega
    by_cases he:i % 2=0
    .cases j with
     |zero=>simp [Tr.set,Tr.get,he]
     |succ j =>
      by_cases hj:j % 2=0
      .simp only [Tr.set,Tr.get,he,hj,beq_self_eq_true,if_true,Tr.aG n l (i / 2) (j / 2) o hi]
       by_cases e:j=i
       .subst e;simp
       .rw [az (by omega),az (by omega)]
      .have zZ:(j % 2 == 0)=false:=by simpa using hj
       simp only [Tr.set,Tr.get,he,zZ,beq_self_eq_true,if_true,gX,if_false]
       rw [az (by intro e;apply hj;have:j=i:=by omega
                  subst this;exact he)]
    .have yp:(i % 2 == 0)=false:=by simpa using he
     cases j with
     |zero=>simp [Tr.set,Tr.get,yp]
     |succ j =>
      by_cases hj:j % 2=0
      .simp only [Tr.set,Tr.get,yp,hj,beq_self_eq_true,if_true,gX,if_false]
       rw [az (by intro e;apply he;have:j=i:=by omega
                  subst this;exact hj)]
      .have zZ:(j % 2 == 0)=false:=by simpa using hj
       simp only [Tr.set,Tr.get,yp,zZ,gX,if_false,Tr.aG n r (i / 2) (j / 2) o hi]
       by_cases e:j=i
       .subst e;simp
       .rw [az (by omega),az (by omega)]

theorem Heap.size_push (h:Heap) (b:aZ):(h.push b).size=h.size+1:=rfl
theorem Heap.size_set (h:Heap) (A:Nat) (b:aZ):(h.set A b).size=h.size:=rfl
theorem Heap.eY (h:Heap) (b:aZ):(h.push b).low=h.low:=rfl
theorem Heap.cM (h:Heap) (A:Nat) (b:aZ):(h.set A b).low=min h.low A:=rfl
theorem Heap.bA (h:Heap) (b:aZ) (j:Nat):(h.push b).get j=if j=h.size then some b else h.get j:=by
 simp only [Heap.get,Heap.push,Tr.aG _ _ _ _ _ (ri _)]
 by_cases e:j=h.size
 .subst e;simp
 .by_cases hl:j < h.size
  .rw [aD (by omega),az e,aD hl,az e]
  .rw [az (by omega),az e,az hl]
theorem Heap.aG (h:Heap) (A:Nat) (b:aZ) (j:Nat) (hA:A < h.size):(h.set A b).get j=if j=A then some b else h.get j:=by
 simp only [Heap.get,Heap.set,Tr.aG _ _ _ _ _ (ri _)]
 by_cases e:j=A
 .subst e;simp [hA]
 .by_cases hl:j < h.size
  .rw [aD hl,az e,aD hl,az e]
  .rw [az hl,az e,az hl]
theorem Heap.aq {A:Nat} {b:aZ} (hb:h.get A=some b):A < h.size:=by
 unfold Heap.get at hb
 split at hb
 .assumption
 .cases hb

theorem Env.length_set:∀ (e:Env) (i:Nat) (v:ai),(Env.set e i v).length=e.length
 | [],_,_=>rfl
 |_::_,0,_=>rfl
 |x::r,n+1,v=>by simp [Env.set,Env.length_set r n v]
theorem Env.aG:∀ (e:Env) (i j:Nat) (v:ai),(Env.set e i v).get j=if j=i/\i < e.length then v else e.get j
 | [],_,_,_=>by simp [Env.set,Env.get]
 |x::r,0,j,v=>by cases j <;> simp [Env.set,Env.get]
 |x::r,i+1,j,v=>by
  cases j with
  |zero=>simp [Env.set,Env.get]
  |succ j=>simp [Env.set,Env.get,Env.aG r i j v]
theorem Env.nQ:∀ (e:Env) (i:Nat),e.length<=i->e.get i=undef
 | [],_,_=>by simp [Env.get]
 |_::r,i+1,h=>by simp only [Env.get];exact Env.nQ r i (by simpa using h)
 |_::_,0,h=>by simp at h
theorem Env.get_eq:∀ (e:Env) (i:Nat),e.get i=(e[i]?).getD undef
 | [],_=>by simp [Env.get]
 |_::_,0=>by simp [Env.get]
 |_::r,i+1=>by simp [Env.get,Env.get_eq r i]

structure Loc where
 b:Nat
 s:Nat
 AY:Nat

abbrev cI:=Nat->Option Loc

inductive VR (ρ:cI):ai->ai->Prop where
 |bool (b:Bool):VR ρ (.bool b) (.bool b)
 |int (k:IntKind) (n:Int):VR ρ (.int k n) (.int k n)
 |string (s:aU):VR ρ (.string s) (.string s)
 |po:VR ρ (.pointer none) (.pointer none)
 |ptr {A o:Nat} {L:Loc} (h:ρ A=some L):VR ρ (.pointer (some ⟨A,o,none⟩)) (.pointer (some ⟨L.b,L.s+o,none⟩))
 |dI:VR ρ (.slice none 0 0) (.slice none 0 0)
 |slice {A o n c:Nat} {L:Loc} {ad:Addr} (h:ρ A=some L) (hc:c < G) (hn:n<=c) (fR:c≠0->ad=⟨L.b,L.s+o,none⟩):VR ρ (.slice (some ⟨A,o,none⟩) n c) (.slice (some ad) n c)
 |da {A o n c c':Nat} {L:Loc} {ad:Addr} (h:ρ A=some L) (hc:G<=c) (gJ:c % G<=c') (hn:n<=c % G) (hk:0 < c / G)
  (hm:c'<=maxLen) (fR:c'≠0->ad=⟨L.b,L.s+o,none⟩/\L.s+o+c'*(c / G)<=L.AY):VR ρ (.slice (some ⟨A,o,none⟩) n c) (.slice (some ad) n c')
 |pn:VR ρ (.map none) (.map none)
 |nilFunc:VR ρ .nilFunc .nilFunc
 |map {A:Nat} {L:Loc} (h:ρ A=some L):VR ρ (.map (some A)) (.map (some L.b))
 |yield {A:Nat} {L:Loc} (h:ρ A=some L):VR ρ (.func (.yield A) #[] #[]) (.func (.yield L.b) #[] #[])
 |func (fn:FuncId) {f g c d:Array ai} (hf:f.size=g.size) (hc:c.size=d.size) (h1:∀ (i:Nat) (x y:ai),f[i]? = some x->g[i]? = some y->VR ρ x y)
  (h2:∀ (i:Nat) (x y:ai),c[i]? = some x->d[i]? = some y->VR ρ x y):VR ρ (.func (.func fn) f c) (.func (.func fn) g d)
 |nilIface:VR ρ .nilIface .nilIface
 |iface (t:TypeId) {x y:ai} (h:VR ρ x y):VR ρ (.iface t x) (.iface t y)
 |agg {c d:Array ai} (hc:c.size=d.size) (h:∀ (i:Nat) (x y:ai),c[i]? = some x->d[i]? = some y->VR ρ x y):VR ρ (.agg c) (.agg d)
 |tuple {c d:Array ai} (hc:c.size=d.size) (h:∀ (i:Nat) (x y:ai),c[i]? = some x->d[i]? = some y->VR ρ x y):VR ρ (.tuple c) (.tuple d)

theorem VR.mono {ρ ρ':cI} (hg:∀ A L,ρ A=some L->ρ' A=some L) (h:VR ρ v u):VR ρ' v u:=by
 induction h with
 |bool b=>exact .bool b
 |int k n=>exact .int k n
 |string s=>exact .string s
 |po=>exact .po
 |ptr h=>exact .ptr (hg _ _ h)
 |dI=>exact .dI
 |slice h hc hn fR=>exact .slice (hg _ _ h) hc hn fR
 |da h hc gJ hn hk hm fR=>exact .da (hg _ _ h) hc gJ hn hk hm fR
 |pn=>exact .pn
 |map h=>exact .map (hg _ _ h)
 |yield h=>exact .yield (hg _ _ h)
 |nilFunc=>exact .nilFunc
 |func fn hf hc h1 h2 i1 i2=>exact .func fn hf hc i1 i2
 |nilIface=>exact .nilIface
 |iface t h ih=>exact .iface t ih
 |agg hc h ih=>exact .agg hc ih
 |tuple hc h ih=>exact .tuple hc ih

theorem VR.undef (ρ:cI):VR ρ undef undef:=.tuple rfl (by intro i x y hx;simp at hx)

theorem VR.kW (ρ:cI) (h:lM v=true):VR ρ v v:=by
 cases v with
 |bool b=>exact .bool b
 |int k n=>exact .int k n
 |string s=>exact .string s
 |pointer a=>cases a with
  |none=>exact .po
  |some a=>simp [lM] at h
 |slice a n c=>cases a with
  |none =>
   simp [lM] at h
   obtain ⟨rfl,rfl⟩:=h
   exact .dI
  |some a=>simp [lM] at h
 |map r=>cases r with
  |none=>exact .pn
  |some r=>simp [lM] at h
 |func fn f c =>
  cases fn with
  |func fn =>
   simp [lM] at h
   obtain ⟨rfl,rfl⟩:=h
   exact .func fn rfl rfl (by intro i x y hx;simp at hx) (by intro i x y hx;simp at hx)
  |_=>simp [lM] at h
 |nilFunc=>exact .nilFunc
 |nilIface=>exact .nilIface
 |_=>simp [lM] at h

theorem VR.nP {ρ:cI} (hv:VR ρ v u) (h:lM v=true):u=v:=by
 cases hv with
 |func fn hf hc h1 h2 =>
  simp [lM] at h
  obtain ⟨rfl,rfl⟩:=h
  have e1:∀ (a:Array ai),(#[]:Array ai).size=a.size->a=#[]:=λa ha=>Array.eq_empty_of_size_eq_zero (by simpa using ha.symm)
  rw [e1 _ hf,e1 _ hc]
 |_=>first|rfl|simp [lM] at h

theorem VR.dm (ρ:cI) (h:plain v=true):VR ρ v v:=by
 cases v with
 |agg cs =>
  refine .agg rfl λi x y hx hy=>?_
  have e:x=y:=by rw [hx] at hy;exact Option.some.inj hy
  subst e
  simp only [plain,iM] at h
  exact .kW ρ (h x (by simpa using Array.mem_of_getElem? hx))
 |_=>exact .kW ρ h

theorem VR.bK {ρ:cI} (hv:VR ρ v u) (h:plain v=true):u=v:=by
 cases hv with
 |agg hc hh =>
  rename_i c d
  congr 1
  refine Array.ext hc.symm λi h1 h2=>?_
  simp only [plain,iM] at h
  have hx:c[i]? = some c[i]:=HQ h2
  exact (hh i _ _ hx (HQ h1)).nP (h _ (by simp))
 |tuple hc hh=>simp [plain,lM] at h
 |func fn hf hc h1 h2=>exact (VR.func fn hf hc h1 h2).nP h
 |_=>first|rfl|(simp [plain,lM] at h;done)

theorem VR.one {ρ:cI} {v u:ai} (hv:VR ρ v u) (h:one v=true):u.oneCell'=true:=by
 cases hv <;> first|rfl|simp [Am.one] at h

def cL (ρ:cI) (l m:List ai):Prop:=l.length=m.length/\∀ (i:Nat) (x y:ai),l[i]? = some x->m[i]? = some y->VR ρ x y

theorem cL.nil (ρ:cI):cL ρ [] []:=⟨rfl,by intro i x y hx;simp at hx⟩
theorem cL.cons {ρ:cI} {y:ai} (h:VR ρ x y) (hl:cL ρ l m):cL ρ (x::l) (y::m) :=
 ⟨by simp [hl.1],λi a b ha hb=>by
  cases i with
  |zero=>simp at ha hb;subst ha hb;exact h
  |succ i=>exact hl.2 i a b (by simpa using ha) (by simpa using hb)⟩
theorem cL.of_cons {ρ:cI} (h:cL ρ (x::l) m):∃ y m',m=y::m'/\VR ρ x y/\cL ρ l m':=by
 cases m with
 |nil=>have:=h.1;simp at this
 |cons y m =>
  exact ⟨y,m,rfl,h.2 0 x y rfl rfl,by have:=h.1;simpa using this,λi a b ha hb=>h.2 (i+1) a b (by simpa using ha) (by simpa using hb)⟩
theorem cL.of_nil {ρ:cI} (h:cL ρ [] m):m=[]:=by
 have:=h.1
 simp at this
 exact Nc this.symm
theorem cL.mono {ρ ρ':cI} (hg:∀ A L,ρ A=some L->ρ' A=some L) {l m:List ai} (h:cL ρ l m):cL ρ' l m:=⟨h.1,λi x y hx hy=>(h.2 i x y hx hy).mono hg⟩
theorem cL.append {ρ:cI} {l' m':List ai} (h:cL ρ l m) (h':cL ρ l' m'):cL ρ (l++l') (m++m'):=by
 induction l generalizing m with
 |nil=>rw [h.of_nil];exact h'
 |cons x l ih =>
  obtain ⟨y,m1,rfl,hx,hl⟩:=h.of_cons
  exact .cons hx (ih hl)
theorem cL.take {ρ:cI} {l m:List ai} (h:cL ρ l m) (n:Nat):cL ρ (l.take n) (m.take n):=by
 refine ⟨by simp [h.1],λi x y hx hy=>?_⟩
 rw [qN] at hx hy
 split at hx
 .rename_i hi;rw [aD hi] at hy;exact h.2 i x y hx hy
 .cases hx
theorem cL.drop {ρ:cI} {l m:List ai} (h:cL ρ l m) (n:Nat):cL ρ (l.drop n) (m.drop n) :=
 ⟨by simp [h.1],λi x y hx hy=>h.2 (n+i) x y (by simpa using hx) (by simpa using hy)⟩
theorem cL.aI {ρ:cI} {l m l' m':List ai} (h:cL ρ l m) (o:Nat) (h':cL ρ l' m'):cL ρ (aI l o l') (aI m o m'):=by
 unfold Am.aI
 rw [<- h'.1]
 exact ((h.take o).append h').append (h.drop _)
theorem cL.cut {ρ:cI} {l m c:List ai} (h:cL ρ l m) {o n:Nat} (hc:cut l o n=some c):∃ d,cut m o n=some d/\cL ρ c d:=by
 unfold Am.cut at hc ⊢
 split at hc
 .rename_i hl
  rw [aD (by rw [<- h.1];exact hl)]
  cases hc
  exact ⟨_,rfl,(h.drop o).take n⟩
 .cases hc
theorem cL.get {ρ:cI} (h:cL ρ l m) {i:Nat} (hx:l[i]? = some x):∃ y,m[i]? = some y/\VR ρ x y:=by
 have hi:i < l.length:=(fG.1 hx).1
 have hy:m[i]? = some (m[i]'(by rw [<- h.1];exact hi)):=iH _
 exact ⟨_,hy,h.2 i x _ hx hy⟩
theorem cL.plain (ρ:cI) (h:l.all lM=true):cL ρ l l:=by
 refine ⟨rfl,λi x y hx hy=>?_⟩
 rw [hx] at hy
 cases hy
 exact .kW ρ (iM.1 h x (en hx))
theorem cL.one {ρ:cI} {l m:List ai} (h:cL ρ l m) (h1:l.all one=true):∀ v∈m,v.oneCell'=true:=by
 intro v hv
 obtain ⟨i,hi⟩:=Gd hv
 have hl:i < l.length:=by rw [h.1];exact (fG.1 hi).1
 exact (h.2 i _ v (iH hl) hi).one (iM.1 h1 _ (List.getElem_mem hl))
theorem cL.toArray {ρ:cI} {l m:List ai} (h:cL ρ l m):VR ρ (.agg l.toArray) (.agg m.toArray) :=
 .agg (by simp [h.1]) (λi x y hx hy=>h.2 i x y (by simpa using hx) (by simpa using hy))
theorem cL.jk {ρ:cI} (h:cL ρ l m):VR ρ (.tuple l.toArray) (.tuple m.toArray) :=
 .tuple (by simp [h.1]) (λi x y hx hy=>h.2 i x y (by simpa using hx) (by simpa using hy))
theorem VR.Dv {ρ:cI} {c d:Array ai} (h:VR ρ (.agg c) (.agg d)):cL ρ c.toList d.toList:=by
 cases h with
 |agg hc hh=>exact ⟨by simpa using hc,λi x y hx hy=>hh i x y (by simpa using hx) (by simpa using hy)⟩
theorem VR.cells {ρ:cI} {v u:ai} (h:VR ρ v u):cL ρ v.cells.toList u.cells.toList:=by
 cases h with
 |agg hc hh=>exact (VR.agg hc hh).Dv
 |_=>exact .cons (by first|exact .bool _|exact .int _ _|exact .string _|exact .po|exact .ptr ‹_› | exact .dI|exact .slice ‹_› ‹_› ‹_› ‹_› | exact .da ‹_› ‹_› ‹_› ‹_› ‹_› ‹_› ‹_› | exact .pn|exact .map ‹_› | exact .yield ‹_› | exact .nilFunc|exact .func _ ‹_› ‹_› ‹_› ‹_› | exact .nilIface|exact .iface _ ‹_› | exact .tuple ‹_› ‹_›) (.nil ρ)

def cn (ρ:cI) (e:Env) (tmps:Array ai):Prop:=e.length=tmps.size/\∀ i,VR ρ (e.get i) (tmps.getD i undef)
theorem cn.mono {ρ ρ':cI} {e:Env} {tmps:Array ai} (he:cn ρ e tmps) (hg:∀ A L,ρ A=some L->ρ' A=some L):cn ρ' e tmps:=⟨he.1,λi=>(he.2 i).mono hg⟩
def mg (ρ:cI) (l m:List MapEntry):Prop:=l.length=m.length/\∀ (i:Nat) (x y:MapEntry),l[i]? = some x->m[i]? = some y->VR ρ x.key y.key/\VR ρ x.val y.val/\x.born=y.born/\plain x.key=true
theorem mg.mono {ρ ρ':cI} (hg:∀ A L,ρ A=some L->ρ' A=some L) {l m:List MapEntry} (h:mg ρ l m):mg ρ' l m :=
 ⟨h.1,λi x y hx hy=>⟨(h.2 i x y hx hy).1.mono hg,(h.2 i x y hx hy).2.1.mono hg,(h.2 i x y hx hy).2.2⟩⟩

def cY (gs:List Nat) (ρ:cI):Prop:=∀ g∈gs,∃ t,ρ g=some ⟨g,0,t⟩
def su (ρ:cI):Operand->Prop
 | .const v=>plain v=true
 | .global g=>∃ t,ρ g=some ⟨g,0,t⟩
 |_=>True
def kG (ρ:cI) (o:Oper):Prop:=∀ x∈o.op.operands.toList,su ρ x
def cH (ρ:cI):Code->Prop
 | .region _ ops _=>∀ o∈ops.toList,kG ρ o
 | .seq a b=>cH ρ a/\cH ρ b
 | .cond c a b=>su ρ c/\cH ρ a/\cH ρ b
 | .block _ c=>cH ρ c
 | .loop c=>cH ρ c
 | .scope c=>cH ρ c
 | .rangeFunc g _ a b=>su ρ g/\cH ρ a/\cH ρ b
 |_=>True
section
variable {ρ ρ':cI} (hg:∀ A L,ρ A=some L->ρ' A=some L)
include hg
theorem cY.mono {gs:List Nat} (h:cY gs ρ):cY gs ρ':=λg hh=>let ⟨t,ht⟩:=h g hh;⟨t,hg _ _ ht⟩
theorem su.mono {x:Operand} (h:su ρ x):su ρ' x:=by
 cases x with
 |global g=>exact let ⟨t,ht⟩:=h;⟨t,hg _ _ ht⟩
 |_=>exact h
theorem kG.mono {o:Oper} (h:kG ρ o):kG ρ' o:=λx hx=>(h x hx).mono hg
theorem cH.mono:∀ {c:Code},cH ρ c->cH ρ' c:=by
 intro c
 induction c with
 |region id ops d=>exact λh o ho=>(h o ho).mono hg
 |seq a b jv jw=>exact λh=>⟨jv h.1,jw h.2⟩
 |cond c a b jv jw=>exact λh=>⟨h.1.mono hg,jv h.2.1,jw h.2.2⟩
 |block id c ih=>exact λh=>ih h
 |loop c ih=>exact λh=>ih h
 |scope c ih=>exact λh=>ih h
 |rangeFunc g ps a b jv jw=>exact λh=>⟨h.1.mono hg,jv h.2.1,jw h.2.2⟩
 |_=>exact λ_=>trivial
end
theorem su.of {gs:List Nat} {ρ:cI} (hG:cY gs ρ) {x:Operand} (h:M9 gs x=true):su ρ x:=by
 cases x with
 |global g=>exact hG g (by simpa [M9] using h)
 |const v=>exact h
 |_=>trivial
theorem kG.of {gs:List Nat} {ρ:cI} (hG:cY gs ρ) {o:Oper} (h:Lp gs o=true):kG ρ o:=λx hx=>.of hG (iM.1 h x hx)
theorem cH.of {gs:List Nat} {ρ:cI} (hG:cY gs ρ):∀ {c:Code},rb gs c=true->cH ρ c:=by
 intro c
 induction c with
 |region id ops d=>exact λh o ho=>.of hG (iM.1 h o ho)
 |seq a b jv jw=>exact λh=>by simp only [rb,dK] at h;exact ⟨jv h.1,jw h.2⟩
 |cond c a b jv jw=>exact λh=>by simp only [rb,dK] at h;exact ⟨.of hG h.1.1,jv h.1.2,jw h.2⟩
 |block id c ih=>exact λh=>ih h
 |loop c ih=>exact λh=>ih h
 |scope c ih=>exact λh=>ih h
 |rangeFunc g ps a b jv jw=>exact λh=>by simp only [rb,dK] at h;exact ⟨.of hG h.1.1,jv h.1.2,jw h.2⟩
 |_=>exact λ_=>trivial

def live (h:Heap) (A:Nat):Prop:=∃ b,h.get A=some b/\b≠.dead
def nC (h:Heap) (A:Nat):Prop:=∃ cs e,h.get A=some (.row cs e true)

def uY:TypeId:=1099511627776
def u6:List ai:=Lib.asciiSpaceTab.map λz=>Value.int .u8 z
def zCB:TypeId:=5
structure rq (e:TypeId) (n:Nat) (fz:Nat × Nat):Prop where
 in':∀ j,j < n->¬ (fz.1<=j/\j < fz.2)
 ajg:e=zCB\/¬ (fz.1<=n/\n < fz.2)
theorem rq.zero (e:TypeId) (n:Nat):rq e n (0,0):=⟨λ_ _ h=>by have:=h.2;simp at this,.inr λh=>by have:=h.2;simp at this⟩
def pT (ρ:cI) (w:World) (L:Loc):Option aZ->Prop
 |some (.row cs e true)=>(L.b < w.heap.size/\(e=uY->cs=u6))/\∀ (i:Nat) (v:ai),cs[i]? = some v->∃ u,w.cell? ⟨L.b,L.s+i,none⟩=some u/\VR ρ v u
 |some (.row cs e false)=>∃ (cur:Array ai) (fz:Nat × Nat),w.heap[L.b]? = some (.cells cur e fz)/\rq e cur.size fz/\cur.size=L.AY/\∃ m,cut cur.toList L.s cs.length=some m/\cL ρ cs m
 |some (.map es clock)=>∃ ces:Array MapEntry,w.heap[L.b]? = some (.map ces clock)/\mg ρ es ces.toList
 |some (.loop env ps assign body st fM)=>∃ l:Loop,w.heap[L.b]? = some (.loop l)/\l.state=st/\l.pending=fM/\l.params.toList=ps/\l.assign=assign/\l.body=body/\cn ρ env l.tmps/\cH ρ assign/\cH ρ body
 |some .dead=>L.b < w.heap.size
 |none=>L.b < w.heap.size

theorem pT.keep {ρ ρ':cI} {w':World} {L:Loc} {b:Option aZ} (hb:pT ρ w L b) (hg:∀ A L,ρ A=some L->ρ' A=some L) (dS:w.heap.size<=w'.heap.size)
 (hk:(∃ x,b=some x/\x≠.dead)->w'.heap[L.b]? = w.heap[L.b]?):pT ρ' w' L b:=by
 cases b with
 |none=>exact dr hb dS
 |some b =>
  cases b with
  |dead=>exact dr hb dS
  |map es clock =>
   obtain ⟨ces,hc,he⟩:=hb
   exact ⟨ces,(hk ⟨_,rfl,by simp⟩).trans hc,he.mono hg⟩
  |loop env ps assign body st fM =>
   obtain ⟨l,hc,h1,h2,h3,h4,h5,h6,h7⟩:=hb
   exact ⟨l,(hk ⟨_,rfl,by simp⟩).trans hc,h1,h2,h3,h4,h5,h6.mono hg,h7.1.mono hg,h7.2.mono hg⟩
  |row cs e ro =>
   have nZ:=hk ⟨_,rfl,by simp⟩
   cases ro with
   |true =>
    refine ⟨⟨dr hb.1.1 dS,hb.1.2⟩,λi v hi=>?_⟩
    obtain ⟨u,hu,pJ⟩:=hb.2 i v hi
    refine ⟨u,?_,pJ.mono hg⟩
    rw [<- hu]
    simp only [World.cell?,nZ]
   |false =>
    obtain ⟨cur,fz,hc,xb,ht,m,hm,hv⟩:=hb
    exact ⟨cur,fz,nZ.trans hc,xb,ht,m,hm,hv.mono hg⟩

structure bT (ρ:cI) (h:Heap) (w:World):Prop where
 lR:∀ A L,ρ A=some L->pT ρ w L (h.get A)
 inj:∀ A A' L L',ρ A=some L->ρ A'=some L'->A≠A'->L.b=L'.b->¬ live h A\/¬ live h A'\/(nC h A/\nC h A')

theorem bT.lt {ρ:cI} (hs:bT ρ h w) {A:Nat} {L:Loc} (hA:ρ A=some L):L.b < w.heap.size:=by
 have hb:=hs.lR A L hA
 cases hg:h.get A with
 |none=>rw [hg] at hb;exact hb
 |some b =>
  rw [hg] at hb
  cases b with
  |dead=>exact hb
  |map es clock =>
   obtain ⟨ces,hc,_⟩:=hb
   exact (mU.1 hc).1
  |loop env ps assign body st fM =>
   obtain ⟨l,hc,_⟩:=hb
   exact (mU.1 hc).1
  |row cs e ro =>
   cases ro with
   |true=>exact hb.1.1
   |false =>
    obtain ⟨cur,fz,hc,_⟩:=hb
    exact (mU.1 hc).1

def fA (ρ:cI) (h h':Heap):Prop:=∀ A,h.size<=A->A < h'.size->ρ A=none

structure Fr (ρ ρ':cI) (h h':Heap) (w w':World):Prop where
 grow:∀ A L,ρ A=some L->ρ' A=some L
 fresh:∀ A L,ρ' A=some L->ρ A=none->h.size<=A/\A < h'.size/\(w.heap.size<=L.b\/∃ A0 L0,ρ A0=some L0/\L0.b=L.b/\h'.low<=A0/\A0 < h'.size)
 os:w'.os=w.os
 tape:w'.tape=w.tape
 output:w'.output=w.output
 size:w.heap.size<=w'.heap.size
 iv:h.size<=h'.size
 low:h'.low<=h.low
 keep:∀ b,b < w.heap.size->(∀ A L,ρ A=some L->L.b=b->A < h'.low\/h'.size<=A)->w'.heap[b]? = w.heap[b]?
 sy:∀ A,A < h.size->A < h'.low->h'.get A=h.get A

theorem Fr.refl (ρ:cI) (h:Heap) (w:World):Fr ρ ρ h h w w :=
 ⟨λ_ _ h=>h,λA L h1 h2=>(by rw [h1] at h2;cases h2),rfl,rfl,rfl,aR _,aR _,aR _,λ_ _ _=>rfl,λ_ _ _=>rfl⟩

theorem Fr.trans {ρ ρ' ρ'':cI} {h h' B0:Heap} {w w' w'':World} (f:Fr ρ ρ' h h' w w') (g:Fr ρ' ρ'' h' B0 w' w''):Fr ρ ρ'' h B0 w w'':=by
 refine ⟨λA L hA=>g.grow A L (f.grow A L hA),?_,g.os.trans f.os,g.tape.trans f.tape,g.output.trans f.output,eA f.size g.size,eA f.iv g.iv,eA g.low f.low,?_,?_⟩
 .intro A L hA hn
  cases hρ:ρ' A with
  |some L1 =>
   have e:L1=L:=by have:=g.grow A L1 hρ;rw [hA] at this;exact (Option.some.inj this).symm
   subst e
   obtain ⟨h1,bU,h2⟩:=f.fresh A L1 hρ hn
   refine ⟨h1,dr bU g.iv,?_⟩
   rcases h2 with h2|⟨A0,L0,h0,he,hl,Ab⟩
   .exact .inl h2
   .exact .inr ⟨A0,L0,h0,he,eA g.low hl,dr Ab g.iv⟩
  |none =>
   obtain ⟨h1,bU,h2⟩:=g.fresh A L hA hρ
   refine ⟨eA f.iv h1,bU,?_⟩
   rcases h2 with h2|⟨A0,L0,h0,he,hl,Ab⟩
   .exact .inl (eA f.size h2)
   .cases E4:ρ A0 with
    |some L1 =>
     have e:L1=L0:=by have:=f.grow A0 L1 E4;rw [h0] at this;exact (Option.some.inj this).symm
     subst e
     exact .inr ⟨A0,L1,E4,he,hl,Ab⟩
    |none =>
     rcases (f.fresh A0 L0 h0 E4).2.2 with h3|⟨A1,L1,h3,OW,Ad,UQ⟩
     .exact .inl (by omega)
     .exact .inr ⟨A1,L1,h3,OW.trans he,eA g.low Ad,dr UQ g.iv⟩
 .intro b hb aB
  have J0:∀ A L,ρ A=some L->L.b=b->A < h'.low\/h'.size<=A:=λA L hA hL=>by
   have h1:=aB A L hA hL
   have h2:=g.low
   have h3:=g.iv
   omega
  rw [g.keep b (dr hb f.size) ?_,f.keep b hb J0]
  intro A L hA hL
  cases hρ:ρ A with
  |some L0 =>
   have e:L0=L:=by have:=f.grow A L0 hρ;rw [hA] at this;exact (Option.some.inj this).symm
   subst e
   exact aB A L0 hρ hL
  |none =>
   rcases (f.fresh A L hA hρ).2.2 with h1|⟨A0,L0,h0,he,hl,Ab⟩
   .omega
   .have h1:=aB A0 L0 h0 (he.trans hL)
    have h2:=g.low
    have h3:=g.iv
    omega
 .intro A hA hl
  rw [g.sy A (dr hA f.iv) hl,f.sy A hA (dr hl g.low)]

theorem fA.left {ρ:cI} {h1 h2:Heap} (hf:fA ρ h h2) (hle:h1.size<=h2.size):fA ρ h h1:=λA h3 h4=>hf A h3 (dr h4 hle)
theorem fA.right {ρ ρ':cI} {h1 h2:Heap} {w':World} (hf:fA ρ h h2) (fr:Fr ρ ρ' h h1 w w'):fA ρ' h1 h2:=by
 intro A h3 h4
 cases hA:ρ' A with
 |none=>rfl
 |some L =>
  have hn:=hf A (eA fr.iv h3) h4
  have:=(fr.fresh A L hA hn).2.1
  omega

end Go.Am
namespace Go.Am
open Go.RowKit
variable {A n o:Nat} {l m:List ai} {W:World}

structure bJ.Fits (T:bJ) (P:Program):Prop where
 desc:∀ t d,T.desc t=some d->P.underlying t=some d
 info:∀ t n b z,T.info t=some (n,b,z)->∃ i zv,P.info? t=some i/\i.size=n/\i.bytes=b/\i.zero=some zv/\zv.cells.toList=z/\z.length=n/\z.all lM=true
 fn:∀ f fn,T.fn f=some fn->P.funcs[f]? = some fn/\(fn.name == "runtime.NumGoroutine")=false/\∀ c,fn.body=some c->rb T.gs c=true
 cmp:∀ t,T.cmp t=true->P.stoodInHeld t=false/\P.eqGuardType P.depth t=false
 zero:∀ t v,T.zero t=some v->(∃ i,P.info? t=some i/\i.zero=some v)/\plain v=true
 xr:∀ t name m,T.xr t name=some m->∃ i,P.info? t=some i/\i.methods.find? (·.name == name)=some m

theorem yO (h:cut l o n=some m):o+n<=l.length/\m.length=n/\∀ i,i < n->m[i]? = l[o+i]? := by
 unfold cut at h
 split at h
 .rename_i hl
  cases h
  refine ⟨hl,by simp;omega,λi hi=>?_⟩
  rw [qN,aD hi,lq]
 .cases h
theorem uC (hl:o+n<=l.length) (hm:m.length=n) (h:∀ i,i < n->m[i]? = l[o+i]?):cut l o n=some m:=by
 unfold cut
 rw [aD hl]
 congr 1
 refine xZ λi=>?_
 rw [qN]
 split
 .rename_i hi;rw [lq,h i hi]
 .rw [H2 (by omega)]

theorem CM {vs:List ai} (h:o+vs.length<=l.length):(aI l o vs).length=l.length:=by
 simp [aI];omega
theorem dj (l vs:List ai) (o i:Nat) (h:o+vs.length<=l.length):(aI l o vs)[i]? = if i < o then l[i]? else if i < o+vs.length then vs[i - o]? else l[i]? := by
 unfold aI
 rw [BA,BA]
 have hl:(l.take o).length=o:=by simp;omega
 simp only [cE,hl]
 by_cases h1:i < o
 .rw [aD (by omega),aD h1,aD h1,qN,aD h1]
 .rw [az h1]
  by_cases h2:i < o+vs.length
  .rw [aD h2,az h1,aD h2]
  .rw [az h2,az h2,lq]
   rw [show o+vs.length+(i - (o+vs.length))=i by omega,az h1]
theorem zt6 {cur us:List ai} {s:Nat} (hc:cut cur s n=some m) (ho:o+us.length<=n):cut (aI cur (s+o) us) s n=some (aI m o us):=by
 obtain ⟨h1,h2,h3⟩:=yO hc
 refine uC (by rw [CM (by omega)];exact h1) (by rw [CM (by omega)];exact h2) λi hi=>?_
 rw [dj _ _ _ _ (by omega),dj _ _ _ _ (by omega)]
 by_cases h4:i < o
 .rw [aD h4,aD (show s+i < s+o by omega),h3 i hi]
 .rw [az h4,az (show ¬ s+i < s+o by omega)]
  by_cases h5:i < o+us.length
  .rw [aD h5,aD (show s+i < s+o+us.length by omega)]
   congr 1
   omega
  .rw [az h5,az (show ¬ s+i < s+o+us.length by omega),h3 i hi]

section
variable {P:Program} {T:bJ} {ρ:cI} {h h':Heap} {w:World}

theorem PI (hs:bT ρ h w) {L:Loc} (hA:ρ A=some L) (hc:kY A o n h=some l) :
 ∃ m,cL ρ l m/\m.length=n/\w.rangeAt L.b (L.s+o) m:=by
 have hb:=hs.lR A L hA
 unfold kY at hc
 cases hg:h.get A with
 |none=>rw [hg] at hc;cases hc
 |some b =>
  rw [hg] at hc hb
  cases b with
  |dead=>cases hc
  |map es clock=>cases hc
  |loop env ps assign body st fM=>cases hc
  |row cs e ro =>
   obtain ⟨h1,h2,h3⟩:=yO hc
   cases ro with
   |true =>
    obtain ⟨_,gI⟩:=hb
    have hex:∀ i,i < n->∃ u,w.cell? ⟨L.b,L.s+(o+i),none⟩=some u/\∀ x,l[i]? = some x->VR ρ x u:=by
     intro i hi
     have hx:cs[o+i]? = some (cs[o+i]'(by omega)):=iH _
     obtain ⟨u,hu,hv⟩:=gI (o+i) _ hx
     refine ⟨u,hu,λx hxx=>?_⟩
     rw [h3 i hi,hx] at hxx
     cases hxx
     exact hv
    refine ⟨(List.range n).map λi=>(w.cell? ⟨L.b,L.s+(o+i),none⟩).getD undef,⟨by simp [h2],λi x y hx hy=>?_⟩,by simp,λj v hv=>?_⟩
    .have hi:i < n:=by rw [<- h2];exact (fG.1 hx).1
     obtain ⟨u,hu,hv⟩:=hex i hi
     rw [lP,NI hi,lu,hu] at hy
     cases hy
     exact hv x hx
    .have hj:j < n:=by have:=(fG.1 hv).1;simpa using this
     obtain ⟨u,hu,_⟩:=hex j hj
     rw [lP,NI hj,lu,hu] at hv
     cases hv
     rw [pB]
     exact hu
   |false =>
    obtain ⟨cur,fz,oX,_,_,m,hm,hv⟩:=hb
    obtain ⟨d,hd,EV⟩:=hv.cut hc
    obtain ⟨k1,k2,k3⟩:=yO hm
    obtain ⟨d1,d2,d3⟩:=yO hd
    refine ⟨d,EV,d2,λj v hj=>?_⟩
    have hjn:j < n:=by rw [<- d2];exact (fG.1 hj).1
    rw [cell_of_row w L.b _ cur e fz oX]
    rw [d3 j hjn,k3 (o+j) (by rw [k2] at d1;omega)] at hj
    rw [<- Array.getElem?_toList,pB]
    exact hj

theorem XF (hT:T.Fits P) (hs:bT ρ h w) {t:TypeId} {x y v:ai} (cS:VR ρ x y) (hl:iz T t x h=some v) :
 ∃ u,(Instr.loadAt t y).run P w=.ok u w/\VR ρ v u:=by
 cases cS with
 |ptr hA =>
  rename_i A o L
  simp only [iz] at hl
  cases hg:T.desc t with
  |none=>simp [dA,hg] at hl
  |some d =>
   have hu:=hT.desc t d hg
   have key:∀ (n:Nat) (l:List ai),T.info t≠none->kY A o n h=some l->d.isRow=true->(T.info t).map (·.1)=some n->v=.agg l.toArray->∃ u,(Instr.loadAt t (.pointer (some ⟨L.b,L.s+o,none⟩))).run P w=.ok u w/\VR ρ v u:=by
    intro n l _ hc hd hi hv
    obtain ⟨m,hm,hlen,hr⟩:=PI hs hA hc
    cases iC:T.info t with
    |none=>simp [iC] at hi
    |some q =>
     obtain ⟨q1,q2,q3⟩:=q
     obtain ⟨i,zv,e1,e2,_⟩:=hT.info t q1 q2 q3 iC
     simp [iC] at hi
     refine ⟨.agg m.toArray,run_loadAt_mid w L.b (L.s+o) t m d hr hu hd (by rw [e1];simp [e2,hi,hlen]),?_⟩
     rw [hv]
     exact hm.toArray
   have Wc:∀ (l:List ai),kY A o 1 h=some l->l[0]? = some v->d.isRow=false->∃ u,(Instr.loadAt t (.pointer (some ⟨L.b,L.s+o,none⟩))).run P w=.ok u w/\VR ρ v u:=by
    intro l hc h0 hd
    obtain ⟨m,hm,hlen,hr⟩:=PI hs hA hc
    obtain ⟨u,VD,VF⟩:=hm.get h0
    have gI:=hr 0 u VD
    refine ⟨u,?_,VF⟩
    have oT:(isAgg t).run P w=.ok false w:=by
     unfold isAgg
     rw [Sem.run_bind,run_underlying hu w]
     cases d <;> simp_all
    simp only [gx] at gI
    simp [Instr.loadAt,Instr.sureAddr,loadVar,Sem.run_bind,oT,gI]
   have qi:(∃ n l,T.info t≠none/\kY A o n h=some l/\d.isRow=true/\(T.info t).map (·.1)=some n/\v=.agg l.toArray)\/(∃ l,kY A o 1 h=some l/\l[0]? = some v/\d.isRow=false):=by
    have Vp:∀ (hl:((dJ T t).bind λn=>(kY A o n h).map λl=>Value.agg l.toArray)=some v) (hd:d.isRow=true),
     ∃ n l,T.info t≠none/\kY A o n h=some l/\d.isRow=true/\(T.info t).map (·.1)=some n/\v=.agg l.toArray:=by
     intro hl hd
     simp only [dJ,cG,ct] at hl
     obtain ⟨n,⟨q,hq,rfl⟩,l,hc,rfl⟩:=hl
     exact ⟨q.1,l,by rw [hq];simp,hc,hd,by rw [hq];rfl,rfl⟩
    cases d <;> simp only [dA,hg,lu,dO,if_true,gX,if_false] at hl <;>
     first
      |(left;exact Vp hl rfl)
      |(right;simp only [cG] at hl;obtain ⟨l,hc,h0⟩:=hl;exact ⟨l,hc,h0,rfl⟩)
   rcases qi with ⟨n,l,a,b,c,d',e⟩|⟨l,a,b,c⟩
   .exact key n l a b c d' e
   .exact Wc l a b c
 |_=>simp [iz] at hl

theorem MN (hs:bT ρ h w) {L:Loc} {b b':aZ} (hA:ρ A=some L) (hg:h.get A=some b) (n9:b≠.dead) (G4:∀ cs e,b≠.row cs e true)
 (wO:W.os=w.os) (kn:W.tape=w.tape) (gL:W.output=w.output) (dS:W.heap.size=w.heap.size) (mF:∀ k,k≠L.b->W.heap[k]? = w.heap[k]?) (lU:pT ρ W L (some b')) :
 Fr ρ ρ h (h.set A b') w W/\bT ρ (h.set A b') W:=by
 have qf:A < h.size:=Heap.aq hg
 refine ⟨⟨λ_ _ h=>h,λA' L' h1 h2=>(by rw [h1] at h2;cases h2),wO,kn,gL,by rw [dS];exact aR _,aR _,yb _ _,?_,?_⟩,⟨?_,?_⟩⟩
 .intro b hb aB
  refine mF b λe=>?_
  subst e
  have:=aB A L hA rfl
  rw [Heap.cM,Heap.size_set] at this
  omega
 .intro A' fk hl
  rw [Heap.cM] at hl
  rw [Heap.aG _ _ _ _ qf,az (by omega)]
 .intro A' L' fk
  rw [Heap.aG _ _ _ _ qf]
  by_cases e':A'=A
  .subst e'
   rw [hA] at fk
   cases fk
   rw [aD rfl]
   exact lU
  .rw [az e']
   refine (hs.lR A' L' fk).keep (λ_ _ h=>h) (by omega) ?_
   rintro ⟨x,hx,hxd⟩
   refine mF L'.b λheq=>?_
   rcases hs.inj A' A L' L fk hA e' heq with h1|h1|h1
   .exact h1 ⟨x,hx,hxd⟩
   .exact h1 ⟨_,hg,n9⟩
   .obtain ⟨_,RT,e2,mB⟩:=h1
    rw [hg] at mB
    cases mB
    exact G4 _ _ rfl
 .intro A1 A2 L1 L2 h1 h2 aM hb
  have dQ:∀ A',¬ live h A'->¬ live (h.set A b') A':=by
   intro A' hd
   by_cases e':A'=A
   .subst e';exact (hd ⟨_,hg,n9⟩).elim
   .unfold live at hd ⊢
    rw [Heap.aG _ _ _ _ qf,az e']
    exact hd
  have KO:∀ A',nC h A'->nC (h.set A b') A':=by
   rintro A' ⟨RT,e2,mB⟩
   refine ⟨RT,e2,?_⟩
   rw [Heap.aG _ _ _ _ qf,az (by intro e';subst e';rw [hg] at mB;cases mB;exact G4 _ _ rfl)]
   exact mB
  rcases hs.inj A1 A2 L1 L2 h1 h2 aM hb with h3|h3|⟨h3,h4⟩
  .exact .inl (dQ _ h3)
  .exact .inr (.inl (dQ _ h3))
  .exact .inr (.inr ⟨KO _ h3,KO _ h4⟩)

theorem Xa (P:Program) (g o:Nat) (t:TypeId) (fz:Nat × Nat):∀ (vs:List ai) (i:Nat) (cur:Array ai) (w:World),w.heap[g]? = some (.cells cur t fz)->rq t cur.size fz->o+i+vs.length<=cur.size->(∀ v∈vs,v.oneCell'=true) ->
 (storeCells ⟨g,o,none⟩ vs i).run P w=.ok () (w.setRow g (cur.toList.take (o+i)++vs++cur.toList.drop (o+i+vs.length)).toArray)
 | [],i,cur,w,hg,_,_,_=>by
  simp only [storeCells,bC,db,gx,H4,Array.toArray_toList]
  rw [setRow_self w g cur t fz hg]
  rfl
 |v::rest,i,cur,w,hg,Cf,hl,h1=>by
  have hi:o+i < cur.size:=by simp at hl;omega
  have Ua:(⟨g,o,none⟩:Addr).add i=⟨g,o+i,none⟩:=by unfold Addr.add;split <;> simp_all
  have gI:w.cell? ⟨g,o+i,none⟩=some cur[o+i]:=by simp [World.cell?,hg,hi]
  have UE:w.frozen? ⟨g,o+i,none⟩=false:=by
   have h0:=Cf.in' (o+i) hi
   obtain ⟨lo,ql⟩:=fz
   simp only [World.frozen?,hg,Bool.and_eq_false_iff,decide_eq_false_iff_not]
   simp only at h0
   omega
  have cZ:(store ((⟨g,o,none⟩:Addr).add i) v).run P w=.ok () (w.setRow g (cur.setIfInBounds (o+i) v)):=by
   rw [Ua,run_store P w _ v _ (h1 v (by simp)),gI]
   simp [UE,setCell_eq_setRow w g (o+i) cur t fz v hg]
  have ih:=Xa P g o t fz rest (i+1) (cur.setIfInBounds (o+i) v) (w.setRow g (cur.setIfInBounds (o+i) v)) (setRow_heap w g cur _ t _ hg) (by simpa using Cf) (by simp at hl ⊢;omega) (λx hx=>h1 x (by simp [hx]))
  simp only [storeCells,Sem.run_bind,cZ,Result.andThen_ok,ih,setRow_setRow]
  congr 3
  have e:=list_seg_step cur.toList (o+i) v rest (by simp at hl ⊢;omega)
  simpa [Array.toList_setIfInBounds,pB] using e

theorem MM (hs:bT ρ h w) {L:Loc} {vs us:List ai} (hA:ρ A=some L) (hv:cL ρ vs us) (hw:nM A o vs h=some h') :
 ∃ w',(storeCells ⟨L.b,L.s+o,none⟩ us 0).run P w=.ok () w'/\Fr ρ ρ h h' w w'/\bT ρ h' w':=by
 have hb:=hs.lR A L hA
 unfold nM at hw
 split at hw
 .rename_i cs e hg
  split at hw
  .rename_i hc
   simp only [dK,jm] at hc
   obtain ⟨ho,h1⟩:=hc
   cases hw
   rw [hg] at hb
   obtain ⟨cur,fz,oX,xb,xc,m,hm,Ct⟩:=hb
   obtain ⟨k1,k2,k3⟩:=yO hm
   have Ag:vs.length=us.length:=hv.1
   have cZ:=Xa P L.b (L.s+o) e fz us 0 cur w oX xb (by simp at k1 ⊢;omega) (hv.one h1)
   simp only [gx] at cZ
   let kM:=(cur.toList.take (L.s+o)++us++cur.toList.drop (L.s+o+us.length)).toArray
   have wk:(w.setRow L.b kM).heap[L.b]? = some (.cells kM e fz):=setRow_heap w L.b cur kM e _ oX
   have dS:(w.setRow L.b kM).heap.size=w.heap.size:=by simp [World.setRow]
   have Vz:rq e kM.size fz:=by
    have:=CM (l:=cur.toList) (vs:=us) (o:=L.s+o) (by simp at k1 ⊢;omega)
    have h2:kM.size=cur.size:=by simpa [kM,aI] using this
    rw [h2]
    exact xb
   refine ⟨w.setRow L.b kM,cZ,MN hs hA hg (by simp) (by simp) rfl rfl rfl dS (λb hb=>setRow_other w L.b b kM hb) ⟨kM,fz,wk,Vz,?_,aI m o us,?_,Ct.aI o hv⟩⟩
   .show kM.size=L.AY
    rw [<- xc]
    have:=CM (l:=cur.toList) (vs:=us) (o:=L.s+o) (by simp at k1 ⊢;omega)
    simpa [kM,aI] using this
   .rw [CM ho]
    have:=zt6 (us:=us) (o:=o) hm (by omega)
    simpa [kM,aI] using this
  .cases hw
 .cases hw

theorem Xw (hs:bT ρ h w) (gK:ρ h.size=none) {L:Loc} {b:aZ} (hold:∀ k,k < w.heap.size->W.heap[k]? = w.heap[k]?) (dS:w.heap.size<=W.heap.size)
 (wO:W.os=w.os) (kn:W.tape=w.tape) (gL:W.output=w.output) (hL:w.heap.size<=L.b) (hb:∀ ρ',(∀ A L,ρ A=some L->ρ' A=some L)->pT ρ' W L (some b)) :
 ∃ ρ',ρ' h.size=some L/\Fr ρ ρ' h (h.push b) w W/\bT ρ' (h.push b) W:=by
 have fJ:∀ A L',ρ A=some L'->(λA=>if A=h.size then some L else ρ A) A=some L':=by
  intro A L' hA
  have aM:A≠h.size:=λe=>by rw [e,gK] at hA;cases hA
  simp only [az aM]
  exact hA
 refine ⟨λA=>if A=h.size then some L else ρ A,by simp,⟨fJ,?_,wO,kn,gL,dS,by rw [Heap.size_push];omega,aR _,λb hb _=>hold b hb,?_⟩,⟨?_,?_⟩⟩
 .intro A L' hA hn
  split at hA
  .rename_i e1;cases hA;exact ⟨by omega,by rw [Heap.size_push];omega,.inl hL⟩
  .rw [hn] at hA;cases hA
 .intro A hA _
  rw [Heap.bA,az (by omega)]
 .intro A L' hA
  rw [Heap.bA]
  split at hA
  .rename_i e1
   cases hA
   rw [aD e1]
   exact hb _ fJ
  .rename_i e1
   rw [az e1]
   exact (hs.lR A L' hA).keep fJ dS λ_=>hold _ (hs.lt hA)
 .intro A1 A2 L1 L2 h1 h2 aM lV
  have gq:∀ A,A≠h.size->(h.push b).get A=h.get A:=λA hA=>by rw [Heap.bA,az hA]
  split at h1
  .split at h2
   .omega
   .rename_i e1 e2
    cases h1
    have:=hs.lt h2
    omega
  .split at h2
   .rename_i e1 e2
    cases h2
    have:=hs.lt h1
    omega
   .rename_i e1 e2
    unfold live nC
    rw [gq A1 e1,gq A2 e2]
    exact hs.inj A1 A2 L1 L2 h1 h2 aM lV

theorem zj4 (hs:bT ρ h w) (gK:ρ h.size=none) {cs:List ai} {cur:Array ai} {e:TypeId} {fz:Nat × Nat} (xb:rq e cur.size fz) (hW:W.heap=w.heap.push (.cells cur e fz))
 (wO:W.os=w.os) (kn:W.tape=w.tape) (gL:W.output=w.output) (wm:cut cur.toList 0 cs.length=some m) (hv:cL ρ cs m) :
 ∃ ρ',ρ' h.size=some ⟨w.heap.size,0,cur.size⟩/\Fr ρ ρ' h (h.push (.row cs e false)) w W/\bT ρ' (h.push (.row cs e false)) W:=by
 refine Xw hs gK (λk hk=>by rw [hW,xY,az (by omega)]) (by rw [hW];simp) wO kn gL (aR _) λρ' hg=>?_
 exact ⟨cur,fz,by rw [hW];simp,xb,rfl,m,wm,hv.mono hg⟩
theorem Hp (hs:bT ρ h w) (gK:ρ h.size=none) {cs:List ai} {cur:Array ai} {e:TypeId} (hW:W.heap=w.heap.push (.cells cur e (0,0)))
 (wO:W.os=w.os) (kn:W.tape=w.tape) (gL:W.output=w.output) (wm:cut cur.toList 0 cs.length=some m) (hv:cL ρ cs m) :
 ∃ ρ',ρ' h.size=some ⟨w.heap.size,0,cur.size⟩/\Fr ρ ρ' h (h.push (.row cs e false)) w W/\bT ρ' (h.push (.row cs e false)) W :=
 zj4 hs gK (.zero _ _) hW wO kn gL wm hv

theorem bT.same (hs:bT ρ h w) (hW:W.heap=w.heap):bT ρ h W :=
 ⟨λA L hA=>(hs.lR A L hA).keep (λ_ _ h=>h) (by rw [hW];exact aR _) (λ_=>by rw [hW]),hs.inj⟩
end
end Go.Am
namespace Go.Am
open Go.RowKit
variable {m news:List ai} {c k n o q:Nat} {y:ai} {e t ty u:TypeId}

theorem Xb (z:Array ai) (n:Nat):((Array.range (n*z.size)).map λi=>z[i % z.size]!).toList=nN z.toList n:=by
 induction n with
 |zero=>simp [nN]
 |succ n ih =>
  have hr:Array.range ((n+1)*z.size)=Array.range (n*z.size)++(Array.range z.size).map (n*z.size+·):=by
   apply Array.ext'
   simp only [Array.toList_range,Array.toList_append,Array.toList_map,rk,Nat.one_mul,List.range_add]
  rw [hr,Array.map_append,Array.toList_append,ih]
  simp only [nN,List.replicate_succ',List.flatten_append,List.flatten_singleton]
  congr 1
  apply xZ
  intro i
  by_cases hi:i < z.size
  .simp [hi,Dh hi]
  .simp [hi]

theorem zmM (z:List ai) (n:Nat):(nN z n).length=n*z.length:=by simp [nN]

theorem Xn {z:List ai} (h:z.all lM=true) (n:Nat):(nN z n).all lM=true:=by
 simp only [nN,iM,List.mem_flatten,List.mem_replicate] at *
 rintro x ⟨l,⟨_,rfl⟩,hx⟩
 exact h x hx


section
variable {P:Program} {T:bJ} {ρ:cI} {h h':Heap} {w:World}

theorem zps {b:Nat} (h:w.rangeAt b o m):w.rangeAt b o (m.take q):=by
 intro j v hv
 rw [qN] at hv
 split at hv
 .exact h j v hv
 .cases hv

theorem zf9 {b:Nat} (h:w.rangeAt b o m) (hl:m.length=q*k):(Builtin.firstCells k q (.slice (some ⟨b,o,none⟩) n c)).run P w=.ok m.toArray w :=
 run_firstCells_some w k q ⟨b,o,none⟩ n c m hl (λj v hv=>by rw [Addr.add_mid];exact h j v hv)

theorem Xq (hs:bT ρ h w) {a:Option Addr} {l:List ai} (cS:VR ρ (.slice a n c) y) (hc:nj (.slice a n c) k h=some l) :
 ∃ a' c' m,y=.slice a' n c'/\cL ρ l m/\m.length=n*k/\∀ W:World,W.heap=w.heap->∀ q,q<=n->(Builtin.firstCells k q y).run P W=.ok (m.take (q*k)).toArray W:=by
 have hzero:∀ (q:Nat) (ad:Addr) (c':Nat) (W:World),q*k=0->(Builtin.firstCells k q (.slice (some ad) n c')).run P W=.ok #[] W:=by
  intro q ad c' W hq
  simp [Builtin.firstCells,hq,loadCells,loadCellsFrom]
 have wi:∀ {A o:Nat} {L:Loc} {ad:Addr} {c':Nat},ρ A=some L->(n≠0->ad=⟨L.b,L.s+o,none⟩)->nj (.slice (some ⟨A,o,none⟩) n c) k h=some l ->
  ∃ m,cL ρ l m/\m.length=n*k/\∀ W:World,W.heap=w.heap->∀ q,q<=n->(Builtin.firstCells k q (.slice (some ad) n c')).run P W=.ok (m.take (q*k)).toArray W:=by
  intro A o L ad c' hA fR hc
  simp only [nj] at hc
  split at hc
  .rename_i h0
   cases hc
   refine ⟨[],.nil ρ,by simp [h0],λW _ q hq=>?_⟩
   have h1:q*k=0:=by
    rcases Nat.mul_eq_zero.1 h0 with e|e
    .have:q=0:=by omega
     simp [this]
    .simp [e]
   rw [hzero q ad c' W h1]
   simp
  .rename_i h0
   have hn:n≠0:=λe=>h0 (by simp [e])
   obtain ⟨m,hm,hlen,hr⟩:=PI hs hA hc
   refine ⟨m,hm,hlen,λW hW q hq=>?_⟩
   rw [fR hn]
   have cw:W.rangeAt L.b (L.s+o) m:=λj v hv=>(World.cell?_of_block (by rw [hW])).trans (hr j v hv)
   refine zf9 (zps cw) ?_
   rw [gR,hlen]
   exact Nat.min_eq_left (uJ _ hq)
 cases cS with
 |dI =>
  simp only [nj] at hc
  cases hc
  refine ⟨none,0,[],rfl,.nil ρ,by simp,λW _ q hq=>?_⟩
  have:q=0:=by omega
  subst this
  simp [Builtin.firstCells]
 |slice hA ec hn fR =>
  obtain ⟨m,h1,h2,h3⟩:=wi hA (λh0=>fR (by omega)) hc
  exact ⟨_,_,m,rfl,h1,h2,h3⟩
 |da hA ec gJ hn hk hm fR =>
  obtain ⟨m,h1,h2,h3⟩:=wi hA (λh0=>(fR (by omega)).1) hc
  exact ⟨_,_,m,rfl,h1,h2,h3⟩

theorem zlQ (hs:bT ρ h w) {x:ai} {m:Nat} {l:List ai} (cS:VR ρ x y) (hc:fU x k h=some (m,l)) :
 ∃ n,cL ρ l n/\n.length=m*k/\Builtin.lenOf y=pure m/\∀ W:World,W.heap=w.heap->∀ q,q<=m->(Builtin.firstCells k q y).run P W=.ok (n.take (q*k)).toArray W:=by
 cases x with
 |string b =>
  cases cS
  simp only [fU] at hc
  split at hc
  .rename_i hk
   subst hk
   cases hc
   refine ⟨_,cL.plain ρ (by rw [iM];intro x hx;rw [pC] at hx;obtain ⟨u,_,rfl⟩:=hx;rfl),by simp,rfl,λW _ q hq=>?_⟩
   simp only [Builtin.firstCells,Sem.run_pure,Nat.mul_one]
   congr 1
   apply Array.ext'
   have hd:(b.extract 0 q).data=b.data.extract 0 q:=by
    exact ByteArray.data_extract
   rw [hd]
   simp
  .cases hc
 |slice a n c =>
  simp only [fU,ct,cQ] at hc
  obtain ⟨l',hc,rfl,rfl⟩:=hc
  obtain ⟨a',c',m,rfl,h1,h2,h3⟩:=Xq (P:=P) hs cS hc
  exact ⟨m,h1,h2,rfl,h3⟩
 |_=>simp [fU] at hc

def N6 (P:Program) (u:TypeId):Prop:=(∃ e',P.underlying u=some (.slice e'))\/P.underlying u=some .string

theorem Xc {i:TypeInfo} (ht:P.underlying t=some (.slice e)) (hu:N6 P u) (hi:P.info? e=some i)
 {a:Addr} {m:Nat} (hlen:Builtin.lenOf y=pure m) (hf:(Builtin.firstCells i.size m y).run P w=.ok news.toArray w) (oo:n+m<=c) {w':World}
 (cZ:(storeCells (a.add (n*i.size)) news 0).run P w=.ok () w') :
 (Builtin.append_ #[t,u] ty #[.slice (some a) n c,y]).run P w=.ok (.slice (some a) (n+m) c) w':=by
 rcases hu with ⟨e',hd⟩|hd
 .simp [Builtin.append_,run_underlying ht,run_underlying hd,sizeOf,typeInfo,hi,hlen,oo,hf,cZ]
 .simp [Builtin.append_,run_underlying ht,run_underlying hd,sizeOf,typeInfo,hi,hlen,oo,hf,cZ]

theorem zj9 {i:TypeInfo} (ht:P.underlying t=some (.slice e)) (hu:N6 P u) (hi:P.info? e=some i)
 {a:Option Addr} (hlen:Builtin.lenOf y=pure 0) (hf:(Builtin.firstCells i.size 0 y).run P w=.ok #[] w) (oo:n<=c) :
 (Builtin.append_ #[t,u] ty #[.slice a n c,y]).run P w=.ok (.slice a n c) w:=by
 rcases hu with ⟨e',hd⟩|hd <;> cases a <;> simp [Builtin.append_,run_underlying ht,run_underlying hd,sizeOf,typeInfo,hi,hlen,oo,hf,storeCells]

theorem ziD {i:TypeInfo} {z:ai} (ht:P.underlying t=some (.slice e)) (hu:N6 P u) (hi:P.info? e=some i) (hz:i.zero=some z)
 {base:Option Addr} {m:Nat} {qE:List ai} (hlen:Builtin.lenOf y=pure m) (hf:(Builtin.firstCells i.size m y).run P w.drew=.ok news.toArray w.drew)
 (ho:(Builtin.firstCells i.size n (.slice base n c)).run P w.drew=.ok qE.toArray w.drew)
 (hg:c < n+m) (h63:n+m<=1152921504606846976) (oY:(n+m)*i.bytes<=140737488355328) :
 (Builtin.append_ #[t,u] ty #[.slice base n c,y]).run P w =
  .ok (.slice (some ⟨w.heap.size,0,none⟩) (n+m) (grownCap w (n+m) c e)) (w.drew.alloc (.cells ((qE++news)++(Builtin.zeroCells z.cells (grownCap w (n+m) c e - (n+m))).toList).toArray e)):=by
 have hn:¬ (n+m<=c):=by omega
 have JO:¬ (9223372036854775807 < ((n:Int)+(m:Int))):=by omega
 have abr:=growslice_fits hg oY
 have JN:¬ (281474976710656 < Builtin.nextslicecap (n+m) c*i.bytes):=by omega
 rcases hu with ⟨e',hd⟩|hd
 .simp [Builtin.append_,run_underlying ht,run_underlying hd,sizeOf,typeInfo,zeroValue,hi,hz,hlen,hn,JO,JN,Question.forced,hf,ho,Go.newRow,grownCap]
  congr 2
  apply Array.ext'
  simp
 .simp [Builtin.append_,run_underlying ht,run_underlying hd,sizeOf,typeInfo,zeroValue,hi,hz,hlen,hn,JO,JN,Question.forced,hf,ho,Go.newRow,grownCap]
  congr 2
  apply Array.ext'
  simp

theorem zt7 (hs:bT ρ h w) {A:Nat} {cs:List ai} (hg:h.get A=some (.row cs e false)) :
 Fr ρ ρ h (h.set A .dead) w w/\bT ρ (h.set A .dead) w:=by
 have qf:A < h.size:=Heap.aq hg
 refine ⟨⟨λ_ _ h=>h,λA' L' h1 h2=>(by rw [h1] at h2;cases h2),rfl,rfl,rfl,aR _,aR _,yb _ _,λ_ _ _=>rfl,?_⟩,⟨?_,?_⟩⟩
 .intro A' fk hl
  rw [Heap.cM] at hl
  rw [Heap.aG _ _ _ _ qf,az (by omega)]
 .intro A' L' fk
  rw [Heap.aG _ _ _ _ qf]
  by_cases e':A'=A
  .subst e'
   rw [aD rfl]
   exact hs.lt fk
  .rw [az e']
   exact hs.lR A' L' fk
 .intro A1 A2 L1 L2 h1 h2 aM hb
  unfold live nC
  rw [Heap.aG _ _ _ _ qf,Heap.aG _ _ _ _ qf]
  by_cases e1:A1=A
  .left;simp [e1]
  .by_cases e2:A2=A
   .right;left;simp [e2]
   .rw [az e1,az e2]
    exact hs.inj A1 A2 L1 L2 h1 h2 aM hb

theorem zt5 {cur us:List ai} {s:Nat} (hc:cut cur s n=some m) (hl:s+n+us.length<=cur.length) :
 cut (aI cur (s+n) us) s (n+us.length)=some (m++us):=by
 obtain ⟨h1,h2,h3⟩:=yO hc
 refine uC (by rw [CM hl];omega) (by simp [h2]) λi hi=>?_
 rw [dj _ _ _ _ hl,BA,h2]
 by_cases ql:i < n
 .rw [aD ql,aD (by omega),h3 i ql]
 .rw [az ql,az (by omega),aD (by omega)]
  congr 1
  omega

theorem zry (hs:bT ρ h w) (gK:ρ h.size=none) {A:Nat} {L:Loc} {cs eF us:List ai} {cur:Array ai} {fz:Nat × Nat} (hA:ρ A=some L) (hg:h.get A=some (.row cs e false))
 (oX:w.heap[L.b]? = some (.cells cur e fz)) (xb:rq e cur.size fz) (xc:cur.size=L.AY) (hm:cut cur.toList (L.s+o) eF.length=some m) (hv:cL ρ eF m) (hn:cL ρ news us)
 (oY:L.s+o+eF.length+us.length<=L.AY) :
 ∃ ρ',ρ' h.size=some ⟨L.b,L.s+o,L.AY⟩/\Fr ρ ρ' h ((h.set A .dead).push (.row (eF++news) e false)) w (w.setRow L.b (aI cur.toList (L.s+o+eF.length) us).toArray) /\
   bT ρ' ((h.set A .dead).push (.row (eF++news) e false)) (w.setRow L.b (aI cur.toList (L.s+o+eF.length) us).toArray):=by
 have qf:A < h.size:=Heap.aq hg
 have fJ:∀ A L',ρ A=some L'->(λA=>if A=h.size then some (⟨L.b,L.s+o,L.AY⟩:Loc) else ρ A) A=some L':=by
  intro A L' hA
  have aM:A≠h.size:=λe=>by rw [e,gK] at hA;cases hA
  simp only [az aM]
  exact hA
 have wk:=setRow_heap w L.b cur (aI cur.toList (L.s+o+eF.length) us).toArray e _ oX
 have mF:∀ b,b≠L.b->(w.setRow L.b (aI cur.toList (L.s+o+eF.length) us).toArray).heap[b]? = w.heap[b]? := λb hb=>setRow_other w L.b b _ hb
 have dS:(w.setRow L.b (aI cur.toList (L.s+o+eF.length) us).toArray).heap.size=w.heap.size:=by simp [World.setRow]
 have gq:∀ j,((h.set A .dead).push (.row (eF++news) e false)).get j=if j=h.size then some (.row (eF++news) e false) else if j=A then some .dead else h.get j:=by
  intro j
  rw [Heap.bA,Heap.size_set,Heap.aG _ _ _ _ qf]
 have aM:∀ A' L',ρ A'=some L'->A'≠A->live h A'->L'.b≠L.b:=by
  intro A' L' fk e' n9 heq
  rcases hs.inj A' A L' L fk hA e' heq with h1|h1|h1
  .exact h1 n9
  .exact h1 ⟨_,hg,by simp⟩
  .obtain ⟨_,RT,e2,mB⟩:=h1
   rw [hg] at mB
   cases mB
 refine ⟨λA=>if A=h.size then some ⟨L.b,L.s+o,L.AY⟩ else ρ A,by simp,⟨fJ,?_,rfl,rfl,rfl,by rw [dS];exact aR _,?_,yb _ _,?_,?_⟩,⟨?_,?_⟩⟩
 .intro A' L' fk hn'
  split at fk
  .rename_i e1
   cases fk
   refine ⟨by omega,by rw [Heap.size_push,Heap.size_set];omega,.inr ⟨A,L,hA,rfl,?_,by rw [Heap.size_push,Heap.size_set];omega⟩⟩
   rw [Heap.eY,Heap.cM]
   omega
  .rw [hn'] at fk;cases fk
 .rw [Heap.size_push,Heap.size_set];omega
 .intro b hb aB
  refine mF b λe'=>?_
  subst e'
  have:=aB A L hA rfl
  rw [Heap.eY,Heap.cM,Heap.size_push,Heap.size_set] at this
  omega
 .intro A' fk hl
  rw [Heap.eY,Heap.cM] at hl
  rw [gq,az (by omega),az (by omega)]
 .intro A' L' fk
  rw [gq]
  split at fk
  .rename_i e1
   cases fk
   rw [aD e1]
   refine ⟨_,fz,wk,?_,?_,m++us,?_,(hv.append hn).mono fJ⟩
   .rw [List.size_toArray,CM (by simp;omega)]
    simpa using xb
   .show (aI cur.toList (L.s+o+eF.length) us).toArray.size=L.AY
    rw [List.size_toArray,CM (by simp;omega)]
    simpa using xc
   .show cut (aI cur.toList (L.s+o+eF.length) us) (L.s+o) (eF++news).length=some (m++us)
    rw [cE,hn.1]
    exact zt5 hm (by simp;omega)
  .rename_i e1
   rw [az e1]
   by_cases e2:A'=A
   .rw [aD e2]
    show L'.b < _
    rw [dS]
    exact hs.lt fk
   .rw [az e2]
    exact (hs.lR A' L' fk).keep fJ (by rw [dS];exact aR _) λhl=>mF L'.b (aM A' L' fk e2 hl)
 .intro A1 A2 L1 L2 h1 h2 KE hb
  unfold live nC
  rw [gq,gq]
  have iV:∀ A' L',A'≠h.size->ρ A'=some L'->L.b=L'.b->¬ ∃ b,(if A'=A then some aZ.dead else h.get A')=some b/\b≠.dead:=by
   intro A' L' hh fk lV
   by_cases e2:A'=A
   .simp [e2]
   .rw [az e2]
    exact λn9=>aM A' L' fk e2 n9 lV.symm
  split at h1
  .rename_i e1
   split at h2
   .omega
   .rename_i e2
    cases h1
    right;left
    rw [az e2]
    exact iV A2 L2 e2 h2 hb
  .rename_i e1
   split at h2
   .rename_i e2
    cases h2
    left
    rw [az e1]
    exact iV A1 L1 e1 h1 hb.symm
   .rename_i e2
    rw [az e1,az e2]
    by_cases f1:A1=A
    .left;simp [f1]
    .by_cases f2:A2=A
     .right;left;simp [f2]
     .rw [az f1,az f2]
      exact hs.inj A1 A2 L1 L2 h1 h2 KE hb

theorem CX (hk:0 < k) (hG:q < G):G<=G*k+q/\(G*k+q) % G=q/\(G*k+q) / G=k:=by
 refine ⟨?_,?_,?_⟩
 .calc G=G*1:=(Nat.mul_one _).symm
   _<=G*k:=Nat.mul_le_mul_left _ hk
   _<=G*k+q:=Ih _ _
 .rw [Nat.mul_add_mod,Dh hG]
 .rw [Nat.mul_add_div (by unfold G;omega),Nat.div_eq_of_lt hG,gx]

theorem zmf (hT:T.Fits P) (hs:bT ρ h w) (cj:fA ρ h h') {s s' x x' v:ai} (hu:N6 P u) (ot:VR ρ s s') (hx:VR ρ x x') (ha:jT T t s x h=some (v,h')) :
 ∃ ρ' vc w',(Builtin.append_ #[t,u] ty #[s',x']).run P w=.ok vc w'/\Fr ρ ρ' h h' w w'/\bT ρ' h' w'/\VR ρ' v vc:=by
 unfold jT at ha
 split at ha
 .rename_i e hd
  have ht:=hT.desc _ _ hd
  simp only [cG,Prod.exists] at ha
  obtain ⟨k,bytes,z,iC,m,news,lF,ha⟩:=ha
  obtain ⟨i,zv,hi,rfl,rfl,hz,rfl,yD,pM⟩:=hT.info e k bytes z iC
  obtain ⟨us,sP,K3,hlen,eg⟩:=zlQ (P:=P) hs hx lF
  have Km:us.take (m*i.size)=us:=gb (by omega)
  have hf:∀ W:World,W.heap=w.heap->(Builtin.firstCells i.size m x').run P W=.ok us.toArray W:=λW hW=>by
   have:=eg W hW m (aR _)
   rwa [Km] at this
  split at ha
  .rename_i base n c
   split at ha
   .rename_i hm
    subst hm
    cases ha
    have h0:=eg w rfl 0 (aR _)
    simp only [Nat.zero_mul,Dp] at h0
    have key:∃ a' c',s'=.slice a' n c'/\n<=c':=by
     cases ot with
     |dI=>exact ⟨_,_,rfl,aR _⟩
     |slice hA hc hn fR=>exact ⟨_,_,rfl,hn⟩
     |da hA hc gJ hn hk hm fR=>exact ⟨_,_,rfl,by omega⟩
    obtain ⟨a',c',rfl,hn⟩:=key
    exact ⟨ρ,_,w,zj9 ht hu hi hlen h0 hn,Fr.refl _ _ _,hs,ot⟩
   .rename_i hm
    split at ha
    .cases ha
    .rename_i hZ
     simp only [sg,jm,zi,not_or,Bool.not_eq_false] at hZ
     obtain ⟨⟨⟨uS,Un⟩,h60⟩,iV⟩:=hZ
     have GX:0 < i.size:=by omega
     split at ha
     .rename_i oo
      split at ha
      .rename_i A o
       split at ha
       .rename_i nV
        simp only [ct,cQ] at ha
        obtain ⟨h1,Pc,rfl,rfl⟩:=ha
        cases ot with
        |slice hA hc hn fR =>
         rename_i L ad
         obtain rfl:=fR (by have:=Dh hc;omega)
         obtain ⟨w',cZ,dL,eC⟩:=MM (P:=P) hs hA sP Pc
         have kO:c % G=c:=Dh hc
         rw [<- pB] at cZ
         exact ⟨ρ,_,w',Xc ht hu hi hlen (hf w rfl) (by omega) (by rw [Addr.add_mid];exact cZ),dL,eC,.slice hA hc (by omega) (λ_=>rfl)⟩
        |da hA hc gJ hn hk KB fR =>
         rename_i c' L ad
         obtain ⟨w',cZ,dL,eC⟩:=MM (P:=P) hs hA sP Pc
         have kf:c'≠0:=by omega
         obtain ⟨rfl,oY⟩:=fR kf
         rw [<- pB] at cZ
         exact ⟨ρ,_,w',Xc ht hu hi hlen (hf w rfl) (by omega) (by rw [Addr.add_mid];exact cZ),dL,eC,.da hA hc gJ (by omega) hk KB (λ_=>⟨rfl,oY⟩)⟩
       .cases ha
      .cases ha
     .rename_i oo
      simp only [cG] at ha
      obtain ⟨eF,hold,ha⟩:=ha
      obtain ⟨a',c',mo,rfl,VJ,KA,hfo⟩:=Xq (P:=P) hs ot hold
      have Ef:mo.take (n*i.size)=mo:=gb (by omega)
      have UD:∀ W:World,W.heap=w.heap->(Builtin.firstCells i.size n (.slice a' n c')).run P W=.ok mo.toArray W:=λW hW=>by
       have:=hfo W hW n (aR _)
       rwa [Ef] at this
      have nc:=CX (q:=n+m) GX (by unfold G;omega)
      have grown:∀ (h2:Heap),bT ρ h2 w->ρ h2.size=none->c' < n+m->∃ ρ' vc w',(Builtin.append_ #[t,u] ty #[.slice a' n c',x']).run P w=.ok vc w'/\Fr ρ ρ' h2 (h2.push (.row (eF++news) e false)) w w'/\bT ρ' (h2.push (.row (eF++news) e false)) w' /\
       VR ρ' (.slice (some ⟨h2.size,0,none⟩) (n+m) (G*i.size+(n+m))) vc:=by
       intro h2 eQ An aT
       have hr:=ziD (w:=w) (ty:=ty) ht hu hi hz hlen (hf w.drew rfl) (UD w.drew rfl) aT (by omega) (by omega)
       have tN:=grownCap_ge w (n+m) c' e
       have hle:=grownCap_le_maxLen w (n+m) c' e (by unfold maxLen;omega)
       have AG:zv.cells.size=i.size:=by rw [<- vu,yD]
       have Kv:((mo++us)++(Builtin.zeroCells zv.cells (grownCap w (n+m) c' e - (n+m))).toList).length=grownCap w (n+m) c' e*i.size:=by
        simp only [cE,KA,K3,vu,size_zeroCells,AG,<- rk]
        congr 1
        omega
       have UY:(eF++news).length=(mo++us).length:=by simp [VJ.1,sP.1]
       obtain ⟨ρ',hρ,dL,eC⟩:=Hp (W:=w.drew.alloc (.cells ((mo++us)++(Builtin.zeroCells zv.cells (grownCap w (n+m) c' e - (n+m))).toList).toArray e)) (cs:=eF++news) (m:=mo++us) eQ An rfl rfl rfl rfl
        (by rw [UY]
            refine uC (by simp) rfl λj hj=>?_
            rw [iA]
            exact (jz (l₂:=(Builtin.zeroCells zv.cells (grownCap w (n+m) c' e - (n+m))).toList) hj).symm)
        (VJ.append sP)
       refine ⟨ρ',_,_,hr,dL,eC,?_⟩
       refine .da hρ nc.1 (by rw [nc.2.1];exact tN) (by rw [nc.2.1];exact aR _) (by rw [nc.2.2];exact GX) hle (λ_=>⟨by simp,?_⟩)
       rw [nc.2.2]
       simp only [List.size_toArray,Kv]
       omega
      split at ha
      .rename_i hc
       cases ha
       have kO:c % G=c:=Dh hc
       have oW:c'=c:=by
        cases ot with
        |dI=>rfl
        |slice hA hc hn fR=>rfl
        |da hA ec gJ hn hk hm fR=>omega
       exact grown h hs (cj _ (aR _) (by rw [Heap.size_push];omega)) (by omega)
      .rename_i hc
       split at ha
       .rename_i A o
        split at ha
        .rename_i cs e' hg
         split at ha
         .rename_i hee
          simp only [dK,jm] at hee
          obtain ⟨rfl,nV⟩:=hee
          cases ha
          cases ot with
          |slice hA ec hn fR=>omega
          |da hA ec gJ hn hk KB fR =>
           rename_i L ad
           by_cases aP:n+m<=c'
           .have kf:c'≠0:=by omega
            obtain ⟨rfl,oY⟩:=fR kf
            have hb:=hs.lR A L hA
            rw [hg] at hb
            obtain ⟨cur,fz,oX,xb,xc,m0,Ai,VF⟩:=hb
            obtain ⟨k1,k2,k3⟩:=yO Ai
            rw [nV] at oY
            have hmul:(n+m)*i.size<=c'*i.size:=uJ _ aP
            rw [rk] at hmul
            have Cn:eF.length=n*i.size:=by rw [VJ.1];exact KA
            have Kc:∃ mm,cut cur.toList (L.s+o) eF.length=some mm/\cL ρ eF mm:=by
             simp only [nj] at hold
             split at hold
             .cases hold
              exact ⟨[],uC (by simp;omega) rfl (by intro i hi;simp at hi),.nil ρ⟩
             .simp only [kY,hg] at hold
              obtain ⟨d,ld,EV⟩:=VF.cut hold
              obtain ⟨d1,d2,d3⟩:=yO ld
              refine ⟨d,uC (by simp at k1 ⊢;omega) (by rw [Cn];exact d2) (λj hj=>?_),EV⟩
              rw [d3 j (by omega),k3 (o+j) (by omega),pB]
            obtain ⟨mm,U6,Ct⟩:=Kc
            obtain ⟨ρ',hρ,dL,eC⟩:=zry hs (cj _ (aR _) (by rw [Heap.size_push,Heap.size_set];omega)) hA hg oX xb xc U6 Ct sP (by omega)
            have cZ:=Xa P L.b (L.s+o+eF.length) e' fz us 0 cur w oX xb (by simp;omega) (sP.one iV)
            simp only [gx] at cZ
            refine ⟨ρ',_,_,Xc ht hu hi hlen (hf w rfl) aP (by rw [Addr.add_mid,<- Cn];exact cZ),dL,eC,?_⟩
            refine .da hρ nc.1 (by rw [nc.2.1];exact aP) (by rw [nc.2.1];exact aR _) (by rw [nc.2.2];exact GX) KB (λ_=>⟨rfl,?_⟩)
            rw [nc.2.2]
            exact oY
           .obtain ⟨fr1,WB⟩:=zt7 hs hg
            obtain ⟨ρ',vc,w',hr,qe,WC,lX⟩:=grown _ WB (cj _ (aR _) (by rw [Heap.size_push,Heap.size_set];omega)) (by omega)
            exact ⟨ρ',vc,w',hr,fr1.trans qe,WC,lX⟩
         .cases ha
        .cases ha
       .cases ha
  .cases ha
 .cases ha

end
end Go.Am
namespace Go.Am
open Go.RowKit
variable {t:TypeId} {v:ai}

theorem MD {Z:Type} (P:Program):∀ (c:Sem Z) (a:Z),gB P c=some a->∀ w,c.run P w=.ok a w
 | .pure b,a,h,w=>by simp only [gB] at h;cases h;rfl
 | .program k,a,h,w=>by simp only [gB] at h;exact MD P (k P) a h w
 | .mark m k,a,h,w=>by simp only [gB] at h;exact MD P k a h w
 | .load ..,_,h,_=>by simp [gB] at h
 | .store ..,_,h,_=>by simp [gB] at h
 | .new ..,_,h,_=>by simp [gB] at h
 | .shape ..,_,h,_=>by simp [gB] at h
 | .freeze ..,_,h,_=>by simp [gB] at h
 | .frozen ..,_,h,_=>by simp [gB] at h
 | .getObj ..,_,h,_=>by simp [gB] at h
 | .setObj ..,_,h,_=>by simp [gB] at h
 | .choose ..,_,h,_=>by simp [gB] at h
 | .sys ..,_,h,_=>by simp [gB] at h
 | .halt ..,_,h,_=>by simp [gB] at h

section
variable {P:Program} {T:bJ} {ρ:cI} {h h':Heap} {w:World}

theorem zrt (hT:T.Fits P) {n:Nat} (hn:dJ T t=some n):∃ i,P.info? t=some i/\i.size=n:=by
 simp only [dJ,ct,Prod.exists] at hn
 obtain ⟨a,b,c,hi,rfl⟩:=hn
 obtain ⟨i,zv,h1,h2,_⟩:=hT.info t a b c hi
 exact ⟨i,h1,h2⟩

theorem uw (hT:T.Fits P) {n:Nat} (hn:dJ T t=some n) (w:World):(sizeOf t).run P w=.ok n w:=by
 obtain ⟨i,hi,rfl⟩:=zrt hT hn
 simp [sizeOf,typeInfo,hi]

theorem zqC (hT:T.Fits P) (hs:bT ρ h w) {u ty:TypeId} {d d' s s':ai} (hd:VR ρ d d') (ot:VR ρ s s') (hc:Oc T t d s h=some (v,h')) :
 ∃ vc w',(Builtin.copy_ #[t,u] ty #[d',s']).run P w=.ok vc w'/\Fr ρ ρ h h' w w'/\bT ρ h' w'/\VR ρ v vc:=by
 unfold Oc at hc
 split at hc
 .rename_i e a n c yo
  have ht:=hT.desc _ _ yo
  simp only [cG,Prod.exists] at hc
  obtain ⟨k,hk,m,src,lF,hc⟩:=hc
  obtain ⟨us,sP,K3,hlen,eg⟩:=zlQ (P:=P) hs ot lF
  have dS:=uw hT hk w
  have hf:=eg w rfl (min m n) (yb _ _)
  split at hc
  .rename_i h0
   cases hc
   rw [h0] at hf
   simp only [Nat.zero_mul,Dp] at hf
   have Et:Nat.min m n=0:=h0
   have key:∃ a' c',d'=.slice a' n c':=by cases hd <;> exact ⟨_,_,rfl⟩
   obtain ⟨a',c',rfl⟩:=key
   refine ⟨.int .i64 0,w,?_,Fr.refl _ _ _,hs,.int _ _⟩
   cases a' <;> simp [Builtin.copy_,run_underlying ht,hlen,Et,dS,hf,storeCells,goInt]
  .rename_i h0
   have Et:Nat.min m n=min m n:=rfl
   split at hc
   .rename_i A o
    simp only [ct,cQ] at hc
    obtain ⟨h1,Pc,rfl,rfl⟩:=hc
    have key:∃ L c',ρ A=some L/\d'=.slice (some ⟨L.b,L.s+o,none⟩) n c':=by
     cases hd with
     |slice hA hc hn fR =>
      obtain rfl:=fR (by omega)
      exact ⟨_,_,hA,rfl⟩
     |da hA hc gJ hn hk hm fR =>
      obtain ⟨rfl,_⟩:=fR (by omega)
      exact ⟨_,_,hA,rfl⟩
    obtain ⟨L,c',hA,rfl⟩:=key
    obtain ⟨w',cZ,dL,eC⟩:=MM (P:=P) hs hA (sP.take _) Pc
    refine ⟨.int .i64 (min m n:Nat),w',?_,dL,eC,.int _ _⟩
    simp [Builtin.copy_,run_underlying ht,hlen,Et,dS,hf,cZ,goInt]
   .cases hc
 .cases hc

theorem zoo (hT:T.Fits P) (hs:bT ρ h w) {ty:TypeId} {x x':ai} (hx:VR ρ x x') (hc:vp T t x h=some h') :
 ∃ w',(Builtin.clear_ #[t] ty #[x']).run P w=.ok undef w'/\Fr ρ ρ h h' w w'/\bT ρ h' w':=by
 unfold vp at hc
 split at hc
 .rename_i e a n c yo
  have ht:=hT.desc _ _ yo
  split at hc
  .rename_i h0
   subst h0
   cases hc
   have key:∃ a' c',x'=.slice a' 0 c':=by cases hx <;> exact ⟨_,_,rfl⟩
   obtain ⟨a',c',rfl⟩:=key
   refine ⟨w,?_,Fr.refl _ _ _,hs⟩
   cases a' <;> simp [Builtin.clear_,run_underlying ht,undef]
  .rename_i h0
   simp only [cG,Prod.exists] at hc
   obtain ⟨k,tx,z,iC,hc⟩:=hc
   obtain ⟨i,zv,hi,rfl,rfl,hz,rfl,yD,pM⟩:=hT.info e k tx z iC
   split at hc
   .rename_i A o
    have key:∃ L c',ρ A=some L/\x'=.slice (some ⟨L.b,L.s+o,none⟩) n c':=by
     cases hx with
     |slice hA hc hn fR =>
      obtain rfl:=fR (by omega)
      exact ⟨_,_,hA,rfl⟩
     |da hA hc gJ hn hk hm fR =>
      obtain ⟨rfl,_⟩:=fR (by omega)
      exact ⟨_,_,hA,rfl⟩
    obtain ⟨L,c',hA,rfl⟩:=key
    obtain ⟨w',cZ,dL,eC⟩:=MM (P:=P) hs hA (cL.plain ρ (Xn pM n)) hc
    refine ⟨w',?_,dL,eC⟩
    have Lb:(Builtin.zeroCells zv.cells n).toList=nN zv.cells.toList n:=Xb zv.cells n
    obtain ⟨n',rfl⟩:∃ n',n=n'+1:=⟨n - 1,by omega⟩
    simp [Builtin.clear_,run_underlying ht,zeroValue,typeInfo,hi,hz,Lb,cZ,undef]
   .cases hc
 .cases hc

theorem ziB (hT:T.Fits P) (hs:bT ρ h w) (cj:fA ρ h h') {l l' c c':ai} (hl:VR ρ l l') (hc:VR ρ c c') (hm:MW T t l c h=some (v,h')) :
 ∃ ρ' vc w',(Instr.makeSlice t l' c').run P w=.ok vc w'/\Fr ρ ρ' h h' w w'/\bT ρ' h' w'/\VR ρ' v vc:=by
 unfold MW at hm
 split at hm
 .rename_i e k1 l k2 c yo
  cases hl
  cases hc
  have ht:=hT.desc _ _ yo
  simp only [cG,Prod.exists] at hm
  obtain ⟨k,tx,z,iC,hm⟩:=hm
  obtain ⟨i,zv,hi,rfl,rfl,hz,rfl,yD,pM⟩:=hT.info e k tx z iC
  split at hm
  .rename_i hh
   obtain ⟨h0,GZ,h60,Un⟩:=hh
   cases hm
   have hr:=run_make (P:=P) w t e i zv ht hi hz k1 k2 l c h0 GZ (by rw [Int.mul_comm];omega) (by omega)
   have AG:zv.cells.size=i.size:=by rw [<- vu,yD]
   have wK:(madeCells zv.cells (c.toNat*i.size)).toList=nN zv.cells.toList c.toNat:=by
    rw [<- AG]
    exact Xb zv.cells c.toNat
   obtain ⟨ρ',hρ,dL,eC⟩:=Hp (W:=w.alloc (.cells (madeCells zv.cells (c.toNat*i.size)) e)) (cs:=nN zv.cells.toList c.toNat) (m:=nN zv.cells.toList c.toNat) hs (cj _ (aR _) (by rw [Heap.size_push];omega)) rfl rfl rfl rfl
    (by rw [wK];exact uC (by omega) rfl (λj _=>by rw [iA])) (cL.plain ρ (Xn pM _))
   refine ⟨ρ',_,_,hr,dL,eC,?_⟩
   have:=VR.slice (ρ:=ρ') (o:=0) (n:=l.toNat) (c:=c.toNat) hρ (by unfold G;omega) (by omega) (λ_=>rfl)
   simpa using this
  .cases hm
 .cases hm

theorem zlx (off:Nat):∀ (l:List ai) (k:Nat) (cs:Array ai),off+k+l.length<=cs.size ->
 ((l.zipIdx k).foldl (λcs (x:ai × Nat)=>cs.setIfInBounds (off+x.2) x.1) cs).toList=aI cs.toList (off+k) l
 | [],k,cs,_=>by simp [aI]
 |v::l,k,cs,hl=>by
  simp only [List.zipIdx_cons,uL]
  have Ab:off+k+(l.length+1)<=cs.size:=by simpa using hl
  rw [zlx off l (k+1) _ (by simp;omega)]
  apply xZ
  intro i
  rw [dj _ _ _ _ (by simp;omega),dj _ _ _ _ (by simp;omega)]
  simp only [Array.toList_setIfInBounds,Ik,ek,vu]
  by_cases h1:i < off+k
  .rw [aD h1,aD (by omega),az (by omega)]
  .rw [az h1]
   by_cases h2:i=off+k
   .subst h2
    rw [aD (by omega),aD rfl,aD (by omega),aD (by omega)]
    simp
   .rw [az (by omega)]
    by_cases h3:i < off+k+(l.length+1)
    .rw [aD (by omega),aD h3]
     obtain ⟨j,rfl⟩:∃ j,i=off+k+1+j:=⟨i - (off+k+1),by omega⟩
     rw [show off+k+1+j - (off+(k+1))=j by omega,show off+k+1+j - (off+k)=j+1 by omega]
     simp
    .rw [az (by omega),az h3,az (by omega)]

theorem MG {place place':Nat->Option (Nat × Nat)} (hp:∀ i r,place i=some r->place' i=some r):∀ (parts dH:List (Nat × ai)) (cs m7:List ai) (ds:Array ai),
 parts.length=dH.length->(∀ (i:Nat) (x y:Nat × ai),parts[i]? = some x->dH[i]? = some y->x.1=y.1/\VR ρ x.2 y.2)->cL ρ cs ds.toList->pA place cs parts=some m7 ->
 ∃ OB,Instr.fill place' ds dH=some OB/\cL ρ m7 OB.toList
 | [],[],cs,m7,ds,_,_,hv,hf=>by
  simp only [pA] at hf
  cases hf
  exact ⟨ds,rfl,hv⟩
 |(i,v)::parts,(j,u)::dH,cs,m7,ds,hlen,aB,hv,hf=>by
  obtain ⟨fw,pJ⟩:=aB 0 _ _ rfl rfl
  simp only at fw pJ
  subst fw
  simp only [pA,cG,Prod.exists] at hf
  obtain ⟨o,n,Az,hf⟩:=hf
  split at hf
  .rename_i hc
   have jt:u.cells.size=v.cells.size:=by have:=pJ.cells.1;simpa using this.symm
   have hdl:ds.size=cs.length:=by have:=hv.1;simpa using this.symm
   have Kl:=zlx o u.cells.toList 0 ds (by simp;omega)
   have Kh:(u.cells.zipIdx.foldl (λcs (x:ai × Nat)=>cs.setIfInBounds (o+x.2) x.1) ds).toList=aI ds.toList o u.cells.toList:=by
    rw [<- Array.foldl_toList,Array.toList_zipIdx]
    simpa using Kl
   have uh:cL ρ (aI cs o v.cells.toList) (u.cells.zipIdx.foldl (λcs (x:ai × Nat)=>cs.setIfInBounds (o+x.2) x.1) ds).toList:=by
    rw [Kh]
    exact hv.aI o pJ.cells
   obtain ⟨OB,jh,ld⟩:=MG hp parts dH _ m7 _ (by simpa using hlen) (λi x y hx hy=>aB (i+1) x y (by simpa using hx) (by simpa using hy)) uh hf
   refine ⟨OB,?_,ld⟩
   simp only [Instr.fill,hp i _ Az]
   rw [az (by simp;omega)]
   exact jh
  .cases hf
 | [],_::_,_,_,_,hlen,_,_,_=>by simp at hlen
 |_::_,[],_,_,_,hlen,_,_,_=>by simp at hlen

theorem zhb (hT:T.Fits P):∀ (fs:List Field) (ps:List (Nat × Nat)) (w:World),Nv T fs=some ps->(fs.mapM λf=>do pure (f.offset,<- sizeOf f.type):Sem (List (Nat × Nat))).run P w=.ok ps w
 | [],ps,w,hp=>by simp only [Nv] at hp;cases hp;simp
 |f::fs,ps,w,hp=>by
  simp only [Nv,cG,ct] at hp
  obtain ⟨n,hn,r,hr,rfl⟩:=hp
  rw [List.mapM_cons]
  simp only [Sem.run_bind,uw hT hn,Result.andThen_ok,Sem.run_pure]
  have ih:=zhb hT fs r w hr
  rw [ih]
  rfl

theorem zoh (hT:T.Fits P) {parts dH:List (Nat × ai)} (hlen:parts.length=dH.length)
 (aB:∀ (i:Nat) (x y:Nat × ai),parts[i]? = some x->dH[i]? = some y->x.1=y.1/\VR ρ x.2 y.2) (hb:lL T t parts=some v) (w:World) :
 ∃ vc,(Instr.build t dH.toArray).run P w=.ok vc w/\VR ρ v vc:=by
 simp only [lL,cG,Prod.exists] at hb
 obtain ⟨k,tx,z,iC,hb⟩:=hb
 obtain ⟨i,zv,hi,rfl,rfl,hz,rfl,yD,pM⟩:=hT.info t k tx z iC
 split at hb
 .rename_i fs hd
  have ht:=hT.desc _ _ hd
  simp only [cG,ct] at hb
  obtain ⟨ps,wS,cs,hf,rfl⟩:=hb
  obtain ⟨ds,jh,ld⟩:=MG (ρ:=ρ) (place':=(ps.toArray[·]?)) (λi r hr=>by simpa using hr) parts dH _ cs zv.cells hlen aB (cL.plain ρ pM) hf
  refine ⟨.agg ds,?_,?_⟩
  .have hm:=zhb hT fs.toList ps w wS
   have wJ:(fs.mapM λf=>do pure (f.offset,<- sizeOf f.type):Sem (Array (Nat × Nat))).run P w=.ok ps.toArray w:=by
    rw [Array.mapM_eq_mapM_toList]
    simp only [Sem.run_map,hm,Result.andThen_ok]
   simp only [Instr.build,zeroValue,typeInfo,Sem.run_bind,run_program,Result.andThen_ok,hi,Sem.run_pure,hz,run_underlying ht,wJ,jh]
  .have:=ld.toArray
   simpa using this
 .rename_i n e hd
  have ht:=hT.desc _ _ hd
  simp only [cG,ct] at hb
  obtain ⟨k,hk,cs,hf,rfl⟩:=hb
  obtain ⟨ds,jh,ld⟩:=MG (ρ:=ρ) (place':=λi=>some (i*k,k)) (λi r hr=>hr) parts dH _ cs zv.cells hlen aB (cL.plain ρ pM) hf
  refine ⟨.agg ds,?_,?_⟩
  .simp only [Instr.build,zeroValue,typeInfo,Sem.run_bind,run_program,Result.andThen_ok,hi,Sem.run_pure,hz,run_underlying ht,uw hT hk,jh]
  .have:=ld.toArray
   simpa using this
 .cases hb

theorem zhz (hT:T.Fits P) (hs:bT ρ h w) (cj:fA ρ h h') {len:Nat} {parts dH:List (Nat × ai)} (hlen:parts.length=dH.length)
 (aB:∀ (i:Nat) (x y:Nat × ai),parts[i]? = some x->dH[i]? = some y->x.1=y.1/\VR ρ x.2 y.2) (hb:xM T t len parts h=some (v,h')) :
 ∃ ρ' vc w',(Instr.buildSlice t len dH.toArray).run P w=.ok vc w'/\Fr ρ ρ' h h' w w'/\bT ρ' h' w'/\VR ρ' v vc:=by
 unfold xM at hb
 split at hb
 .rename_i e hd
  have ht:=hT.desc _ _ hd
  simp only [cG,Prod.exists] at hb
  obtain ⟨k,tx,z,iC,hb⟩:=hb
  obtain ⟨i,zv,hi,rfl,rfl,hz,rfl,yD,pM⟩:=hT.info e k tx z iC
  split at hb
  .cases hb
  .rename_i Vv
   simp only [sg,jm,not_or] at Vv
   obtain ⟨Vv,ajQ⟩:=Vv
   have hG:len < G:=by unfold G;omega
   simp only [ct,cQ] at hb
   obtain ⟨cs,hf,rfl,rfl⟩:=hb
   have AG:zv.cells.size=i.size:=by rw [<- vu,yD]
   by_cases h0:len*i.size=0
   .have sS:nN zv.cells.toList len=[]:=by
     apply Nc
     rw [zmM,yD]
     exact h0
    rw [sS] at hf
    obtain ⟨ds,jh,ld⟩:=MG (ρ:=ρ) (place':=λj=>some (j*i.size,i.size)) (λi r hr=>hr) parts dH _ cs #[] hlen aB (.nil ρ) hf
    obtain ⟨ρ',hρ,dL,eC⟩:=Hp (W:=w.alloc (.cells ds e)) (cs:=cs) (m:=ds.toList) hs (cj _ (aR _) (by rw [Heap.size_push];omega)) rfl rfl rfl rfl (by rw [ld.1];exact uC (by omega) rfl (λj _=>by rw [iA])) ld
    refine ⟨ρ',.slice (some ⟨w.heap.size,0,none⟩) len len,w.alloc (.cells ds e),?_,dL,eC,?_⟩
    .have KW:¬ (16777216 < len*i.size):=by omega
     simp [Instr.buildSlice,run_underlying ht,sizeOf,typeInfo,hi,h0,Array.range_zero',jh,Go.newRow]
    .have:=VR.slice (ρ:=ρ') (o:=0) (n:=len) (c:=len) hρ hG (aR _) (λ_=>rfl)
     simpa using this
   .have wK:((Array.range (len*i.size)).map (zv.cells[· % zv.cells.size]!)).toList=nN zv.cells.toList len:=by
     have:=Xb zv.cells len
     simp only [AG] at this ⊢
     exact this
    obtain ⟨ds,jh,ld⟩:=MG (ρ:=ρ) (place':=λj=>some (j*i.size,i.size)) (λi r hr=>hr) parts dH _ cs ((Array.range (len*i.size)).map (zv.cells[· % zv.cells.size]!)) hlen aB
     (by rw [wK];exact cL.plain ρ (Xn pM _)) hf
    obtain ⟨ρ',hρ,dL,eC⟩:=Hp (W:=w.alloc (.cells ds e)) (cs:=cs) (m:=ds.toList) hs (cj _ (aR _) (by rw [Heap.size_push];omega)) rfl rfl rfl rfl (by rw [ld.1];exact uC (by omega) rfl (λj _=>by rw [iA])) ld
    refine ⟨ρ',.slice (some ⟨w.heap.size,0,none⟩) len len,w.alloc (.cells ds e),?_,dL,eC,?_⟩
    .have KW:¬ (16777216 < len*i.size):=by omega
     simp only [Instr.buildSlice,Sem.run_bind,run_underlying ht,Result.andThen_ok,sizeOf,typeInfo,run_program,hi,Sem.run_pure,gt_iff_lt]
     simp [KW,h0,zeroValue,typeInfo,hi,hz,jh,Go.newRow]
    .have:=VR.slice (ρ:=ρ') (o:=0) (n:=len) (c:=len) hρ hG (aR _) (λ_=>rfl)
     simpa using this
 .cases hb

end
end Go.Am
namespace Go.Am
open Go.RowKit
variable {v x y:ai} {t:TypeId}

section
variable {P:Program} {T:bJ} {ρ:cI} {h h':Heap} {w:World}

theorem PQ {hi i:Nat} (cS:VR ρ x y) (hb:xV x hi=some i) {ql:Nat} (hle:hi<=ql) (code:BoundsCode) (w:World):(Instr.sliceBound y ql code).run P w=.ok i w/\i<=hi:=by
 cases cS with
 |int k n =>
  simp only [xV] at hb
  split at hb
  .rename_i hc
   cases hb
   have ec:0<=n/\n<=(ql:Int):=⟨hc.1,by omega⟩
   exact ⟨by simp [Instr.sliceBound,asIntOf,ec],by omega⟩
  .cases hb
 |_=>simp [xV] at hb

def rp (ρ:cI):Option ai->Option ai->Prop
 |none,none=>True
 |some x,some y=>VR ρ x y
 |_,_=>False

theorem MB {len cap DK l' h' m':Nat} {l h m ll hh mm:Option ai} (hl:rp ρ l ll) (wC:rp ρ h hh) (hm:rp ρ m mm) (hb:qZ len cap l h m=some (l',h',m')) (hlen:len<=cap) (oV:cap<=DK) (sZ:Bool) (w:World) :
 (Instr.sliceBounds sZ len DK ll hh mm).run P w=.ok (l',h',if m.isSome then m' else DK) w/\l'<=h'/\h'<=m'/\m'<=cap:=by
 simp only [qZ,cG,eh,cQ] at hb
 obtain ⟨m1,fW,h1,yq,l1,mC,rfl,rfl,rfl⟩:=hb
 have xq:∀ (code:BoundsCode),(match ll with|some v=>Instr.sliceBound v h1 code|none=>(pure 0:Sem Nat)).run P w=.ok l1 w/\l1<=h1:=by
  intro code
  cases l with
  |none=>cases ll with
   |none=>simp only [eh] at mC;subst mC;exact ⟨rfl,iN _⟩
   |some v=>exact hl.elim
  |some x=>cases ll with
   |none=>exact hl.elim
   |some v=>exact PQ hl mC (aR _) code w
 cases m with
 |none =>
  cases mm with
  |some v=>exact hm.elim
  |none =>
   simp only [eh] at fW
   subst fW
   cases h with
   |none=>cases hh with
    |some v=>exact wC.elim
    |none =>
     simp only [eh] at yq
     subst yq
     obtain ⟨k1,k2⟩:=xq .sliceB
     refine ⟨?_,k2,hlen,aR _⟩
     simp only [Instr.sliceBounds,Sem.run_bind,Sem.run_pure,Result.andThen_ok,Df,gX,if_false]
     cases ll with
     |none =>
      have e:l1=0:=by have:=k1;simp at this;exact this.symm
      simp [e]
     |some u =>
      have e:(Instr.sliceBound u len .sliceB).run P w=.ok l1 w:=k1
      simp only [Sem.run_bind,e,Result.andThen_ok,Sem.run_pure]
   |some x=>cases hh with
    |none=>exact wC.elim
    |some v =>
     have m8:=PQ (P:=P) wC yq oV (if sZ then BoundsCode.sliceAcap else .sliceAlen) w
     obtain ⟨k1,k2⟩:=xq .sliceB
     refine ⟨?_,k2,m8.2,aR _⟩
     simp only [Instr.sliceBounds,Sem.run_bind,Sem.run_pure,Result.andThen_ok,Df,gX,if_false,m8.1]
     cases ll with
     |none =>
      have e:l1=0:=by have:=k1;simp at this;exact this.symm
      simp [e]
     |some u =>
      have e:(Instr.sliceBound u h1 .sliceB).run P w=.ok l1 w:=k1
      simp only [Sem.run_bind,e,Result.andThen_ok,Sem.run_pure]
 |some q =>
  cases mm with
  |none=>exact hm.elim
  |some v =>
   have hbm:=PQ (P:=P) hm fW oV (if sZ then BoundsCode.slice3Acap else .slice3Alen) w
   cases h with
   |none=>cases yq
   |some x=>cases hh with
    |none=>exact wC.elim
    |some v' =>
     have m8:=PQ (P:=P) wC yq (aR _) BoundsCode.slice3B w
     obtain ⟨k1,k2⟩:=xq .slice3C
     refine ⟨?_,k2,m8.2,hbm.2⟩
     simp only [Instr.sliceBounds,Sem.run_bind,Result.andThen_ok,H6,if_true,hbm.1,m8.1]
     cases ll with
     |none =>
      have e:l1=0:=by have:=k1;simp at this;exact this.symm
      simp [e]
     |some u =>
      have e:(Instr.sliceBound u h1 .slice3C).run P w=.ok l1 w:=k1
      simp only [Sem.run_bind,e,Result.andThen_ok,Sem.run_pure]

theorem zpA (hT:T.Fits P) {l hi m ll hh mm:Option ai} (cS:VR ρ x y) (hl:rp ρ l ll) (wC:rp ρ hi hh) (hm:rp ρ m mm) (hs:lN T t x l hi m=some v) (w:World) :
 ∃ vc,(Instr.sliceAt t y ll hh mm).run P w=.ok vc w/\VR ρ v vc:=by
 unfold lN at hs
 split at hs
 .rename_i s hd
  cases cS
  have ht:=hT.desc _ _ hd
  split at hs
  .cases hs
  .rename_i U7
   have Ai:m=none:=by cases m <;> simp_all
   subst Ai
   have U6:mm=none:=by cases mm with|none=>rfl|some _=>exact hm.elim
   subst U6
   simp only [ct,Prod.exists] at hs
   obtain ⟨l',h',m',hb,rfl⟩:=hs
   obtain ⟨k1,k2,k3,k4⟩:=MB (P:=P) (m:=none) (mm:=none) hl wC trivial hb (aR _) (aR _) false w
   refine ⟨_,?_,.string _⟩
   simp [Instr.sliceAt,Instr.slice,run_underlying ht,k1]
 .rename_i n e A o hd
  cases cS with
  |ptr hA =>
   rename_i L
   have ht:=hT.desc _ _ hd
   simp only [cG,ct,Prod.exists] at hs
   obtain ⟨l',h',m',hb,k,hk,rfl⟩:=hs
   have hnG:n < G:=by
    rcases mW n G with aT|tN
    .exact aT
    .rw [az (by omega)] at hb;cases hb
   rw [aD hnG] at hb
   obtain ⟨k1,k2,k3,k4⟩:=MB (P:=P) hl wC hm hb (aR _) (aR _) false w
   have Ah:(if m.isSome then m' else n)=m':=by
    cases m with
    |some _=>rfl
    |none =>
     simp only [qZ,cG,eh,cQ] at hb
     obtain ⟨m1,fW,h1,yq,l1,mC,rfl,rfl,rfl⟩:=hb
     simp [fW]
   rw [Ah] at k1
   have dS:=uw hT hk w
   refine ⟨.slice (some (if m'=l' then ⟨L.b,L.s+o,none⟩ else (⟨L.b,L.s+o,none⟩:Addr).add (l'*k))) (h' - l') (m' - l'),?_,?_⟩
   .simp only [Instr.sliceAt,Sem.run_bind,run_underlying ht,Result.andThen_ok,Instr.sureAddr,Sem.run_pure,k1,dS]
   .by_cases hG:m' - l' < G
    .refine .slice hA hG (by omega) (λh0=>?_)
     rw [az (by omega),az (by omega),Addr.add_mid,pB]
    .exfalso
     omega
 .rename_i e a n c hd
  have ht:=hT.desc _ _ hd
  simp only [cG] at hs
  obtain ⟨k,hk,hs⟩:=hs
  have dS:=uw hT hk w
  split at hs
  .rename_i hcG
   simp only [cG,Prod.exists] at hs
   obtain ⟨l',h',m',hb,hs⟩:=hs
   have Ah:(if m.isSome then m' else c)=m':=by
    cases m with
    |some _=>rfl
    |none =>
     simp only [qZ,cG,eh,cQ] at hb
     obtain ⟨m1,fW,h1,yq,l1,mC,rfl,rfl,rfl⟩:=hb
     simp [fW]
   cases cS with
   |dI =>
    obtain ⟨k1,k2,k3,k4⟩:=MB (P:=P) hl wC hm hb (aR _) (aR _) true w
    rw [Ah] at k1
    simp only [eh] at hs
    subst hs
    have e1:h' - l'=0:=by omega
    have e2:m' - l'=0:=by omega
    refine ⟨.slice none (h' - l') (m' - l'),?_,by rw [e1,e2];exact .dI⟩
    simp [Instr.sliceAt,Instr.slice,run_underlying ht,k1,dS]
   |slice hA hc hn fR =>
    rename_i A o L ad
    obtain ⟨k1,k2,k3,k4⟩:=MB (P:=P) hl wC hm hb hn (aR _) true w
    rw [Ah] at k1
    simp only [eh] at hs
    subst hs
    refine ⟨.slice (if m'=l' then some ad else some (ad.add (l'*k))) (h' - l') (m' - l'),?_,?_⟩
    .simp [Instr.sliceAt,Instr.slice,run_underlying ht,k1,dS]
    .have hx:(if m'=l' then some ad else some (ad.add (l'*k)))=some (if m'=l' then ad else ad.add (l'*k)):=by split <;> rfl
     rw [hx]
     refine .slice hA (by omega) (by omega) (λh0=>?_)
     rw [az (by omega),az (by omega),fR (by omega),Addr.add_mid,pB]
   |da hA hc gJ hn ju KB fR=>omega
  .rename_i hcG
   split at hs
   .rename_i A o
    split at hs
    .rename_i nV
     simp only [ct,Prod.exists] at hs
     obtain ⟨l',h',m',hb,rfl⟩:=hs
     cases cS with
     |slice hA hc hn fR=>omega
     |da hA hc gJ hn ju KB fR =>
      rename_i c' L ad
      obtain ⟨k1,k2,k3,k4⟩:=MB (P:=P) hl wC hm hb hn gJ true w
      cases m with
      |some q =>
       simp only [H6,if_true] at k1
       refine ⟨.slice (if m'=l' then some ad else some (ad.add (l'*k))) (h' - l') (m' - l'),?_,?_⟩
       .simp [Instr.sliceAt,Instr.slice,run_underlying ht,k1,dS]
       .have hx:(if m'=l' then some ad else some (ad.add (l'*k)))=some (if m'=l' then ad else ad.add (l'*k)):=by split <;> rfl
        rw [hx]
        have aT:c % G < G:=Nat.mod_lt _ (by unfold G;omega)
        refine .slice hA (by omega) (by omega) (λh0=>?_)
        rw [az (by omega),az (by omega),(fR (by omega)).1,Addr.add_mid,pB]
      |none =>
       simp only [Df,gX,if_false] at k1
       have fW:m'=c % G:=by
        simp only [qZ,cG,eh,cQ] at hb
        obtain ⟨m1,fW,h1,yq,l1,mC,rfl,rfl,rfl⟩:=hb
        exact fW.symm
       subst fW
       refine ⟨.slice (if c'=l' then some ad else some (ad.add (l'*k))) (h' - l') (c' - l'),?_,?_⟩
       .simp [Instr.sliceAt,Instr.slice,run_underlying ht,k1,dS]
       .have hx:(if c'=l' then some ad else some (ad.add (l'*k)))=some (if c'=l' then ad else ad.add (l'*k)):=by split <;> rfl
        rw [hx]
        have aT:c % G < G:=Nat.mod_lt _ (by unfold G;omega)
        have nc:=CX (k:=k) (q:=c % G - l') (by omega) (by omega)
        refine .da hA nc.1 (by rw [nc.2.1];omega) (by rw [nc.2.1];omega) (by rw [nc.2.2];omega) (by omega) (λh0=>?_)
        obtain ⟨rfl,oY⟩:=fR (by omega)
        rw [az (by omega),Addr.add_mid,nc.2.2]
        refine ⟨by rw [pB],?_⟩
        rw [nV] at oY
        have e1:c'*k=l'*k+(c' - l')*k:=by rw [<- rk];congr 1;omega
        omega
    .cases hs
   .cases hs
 .cases hs

theorem ziA (hT:T.Fits P) {i j:ai} (cS:VR ρ x y) (fw:VR ρ i j) (hs:kC T t x i=some v) (w:World) :
 ∃ vc,(Instr.indexAt t y j).run P w=.ok vc w/\VR ρ v vc:=by
 unfold kC at hs
 split at hs
 .rename_i k i
  cases fw
  split at hs
  .rename_i n e A o hd
   cases cS with
   |ptr hA =>
    rename_i L
    have ht:=hT.desc _ _ hd
    split at hs
    .rename_i hi
     simp only [ct] at hs
     obtain ⟨q,hq,rfl⟩:=hs
     refine ⟨.pointer (some ⟨L.b,L.s+(o+i.toNat*q),none⟩),?_,.ptr hA⟩
     simp [Instr.indexAt,asIntOf,run_underlying ht,Instr.sureAddr,hi,uw hT hq,Addr.add_mid,pB]
    .cases hs
  .rename_i e A o n c hd
   have ht:=hT.desc _ _ hd
   split at hs
   .rename_i hi
    simp only [ct] at hs
    obtain ⟨q,hq,rfl⟩:=hs
    have key:∃ L c',ρ A=some L/\y=.slice (some ⟨L.b,L.s+o,none⟩) n c':=by
     cases cS with
     |slice hA hc hn fR =>
      obtain rfl:=fR (by omega)
      exact ⟨_,_,hA,rfl⟩
     |da hA hc gJ hn hk hm fR =>
      obtain ⟨rfl,_⟩:=fR (by omega)
      exact ⟨_,_,hA,rfl⟩
    obtain ⟨L,c',hA,rfl⟩:=key
    refine ⟨.pointer (some ⟨L.b,L.s+(o+i.toNat*q),none⟩),?_,.ptr hA⟩
    simp [Instr.indexAt,asIntOf,run_underlying ht,hi,uw hT hq,Addr.add_mid,pB]
   .cases hs
  .cases hs
 .cases hs

theorem ziz (hT:T.Fits P) {f:Nat} (cS:VR ρ x y) (hs:lK T t x f=some v) (w:World) :
 ∃ vc,(Instr.fieldAt t y f).run P w=.ok vc w/\VR ρ v vc:=by
 unfold lK at hs
 split at hs
 .rename_i fs A o hd
  cases cS with
  |ptr hA =>
   rename_i L
   have ht:=hT.desc _ _ hd
   simp only [cG] at hs
   obtain ⟨fl,hf,n,hn,hs⟩:=hs
   split at hs
   .cases hs
   .rename_i h0
    cases hs
    refine ⟨.pointer (some ⟨L.b,L.s+(o+fl.offset),none⟩),?_,.ptr hA⟩
    simp [Instr.fieldAt,run_underlying ht,hf,Instr.sureAddr,fieldPlace,uw hT hn,h0,Addr.add_mid,pB]
 .cases hs

theorem zjX (hT:T.Fits P) {cs:List ai} {ds:Array ai} {o:Nat} (hv:cL ρ cs ds.toList) (hs:BB T t cs o=some v) (w:World) :
 ∃ vc,(part t ds o).run P w=.ok vc w/\VR ρ v vc:=by
 simp only [BB,dA,cG,ct] at hs
 obtain ⟨g,⟨d,hd,hg⟩,hs⟩:=hs
 have ht:=hT.desc _ _ hd
 have oT:(isAgg t).run P w=.ok g w:=by
  unfold isAgg
  rw [Sem.run_bind,run_underlying ht w]
  cases d <;> simp_all
 cases g with
 |true =>
  simp only [if_true,cG,ct] at hs
  obtain ⟨n,hn,l,hl,rfl⟩:=hs
  obtain ⟨d',mx,EV⟩:=hv.cut hl
  refine ⟨.agg d'.toArray,?_,EV.toArray⟩
  have hx:ds.extract o (o+n)=d'.toArray:=by
   unfold cut at mx
   split at mx
   .cases mx
    apply Array.ext'
    simp [List.take_drop]
   .cases mx
  simp [part,oT,uw hT hn,hx]
 |false =>
  simp only [gX,if_false] at hs
  obtain ⟨u,hu,pJ⟩:=hv.get hs
  refine ⟨u,?_,pJ⟩
  have yz:ds[o]? = some u:=by simpa using hu
  simp [part,oT,yz]

theorem zoJ (hT:T.Fits P) {f:Nat} (cS:VR ρ x y) (hs:QR T t x f=some v) (w:World) :
 ∃ vc,(Instr.field t y f).run P w=.ok vc w/\VR ρ v vc:=by
 unfold QR at hs
 split at hs
 .rename_i fs cs hd
  have ht:=hT.desc _ _ hd
  simp only [cG] at hs
  obtain ⟨fl,hf,hs⟩:=hs
  cases cS with
  |agg hc hh =>
   rename_i ds
   obtain ⟨vc,hr,hv⟩:=zjX hT (VR.agg hc hh).Dv hs w
   refine ⟨vc,?_,hv⟩
   simp [Instr.field,run_underlying ht,hf,asAgg,hr]
 .cases hs

theorem zml {op:BinOp} (hs:r5 op x y=some v):gB P (binOp op t x y)=some v/\plain x=true/\plain y=true/\plain v=true/\(∃ k a,x=.int k a):=by
 unfold r5 at hs
 split at hs <;> first|(cases hs;done)|(split at hs <;> first|(cases hs;done)|(rename_i hk;subst hk;cases hs;exact ⟨by simp [binOp,Op.intArith,Op.intCmp,gB,pure],rfl,rfl,rfl,_,_,rfl⟩))

theorem zqM {d:TypeDesc} (hd:P.underlying t=some d) {x' y':ai} {b:Bool} (hx:VR ρ x x') (hy:VR ρ y y') (he:Gn d x y=some b) (w:World) :
 (Op.equal t x' y').run P w=.ok b w/\∀ (op:BinOp),op=.eql\/op=.neq->binOp op t x' y'=(if op=.eql then (do pure (.bool (<- Op.equal t x' y'))) else (do pure (.bool (!(<- Op.equal t x' y'))))):=by
 have key:(∀ d0:Nat,(Op.equalIn (d0+1) t x' y').run P w=.ok b w)/\∀ (op:BinOp),op=.eql\/op=.neq->binOp op t x' y'=(if op=.eql then (do pure (.bool (<- Op.equal t x' y'))) else (do pure (.bool (!(<- Op.equal t x' y'))))):=by
  unfold Gn at he
  split at he <;> first
   |(cases he;done)
   |(cases hx <;> cases hy <;> simp at he <;> subst he <;> exact ⟨λd0=>by simp [Op.equalIn,run_underlying hd],by rintro op (rfl|rfl) <;> rfl⟩)
 exact ⟨key.1 9999,key.2⟩

theorem PJ (op:BinOp) (t:TypeId) (x y:Operand) (a b:ai) (ha:a≠.nilIface) (oT:∀ c d,a=.agg c->b=.agg d->P.eqGuardType P.depth t=false) (w:World):(eqGuard op t x y a b).run P w=.ok () w:=by
 unfold eqGuard
 cases op <;> simp only [Bool.not_true,Bool.not_false,if_true,if_false,gX] <;> try rfl
 all_goals
  cases a <;> first|exact (ha rfl).elim|skip
 all_goals
  cases b <;> first|rfl|skip
 all_goals
  simp [oT _ _ rfl rfl]

theorem HG (hT:T.Fits P) {cs:Array ai} {o:Nat} (hs:BB T t cs.toList o=some v) (w:World):(part t cs o).run P w=.ok v w:=by
 simp only [BB,dA,cG,ct] at hs
 obtain ⟨g,⟨d,hd,hg⟩,hs⟩:=hs
 have ht:=hT.desc _ _ hd
 have oT:(isAgg t).run P w=.ok g w:=by
  unfold isAgg
  rw [Sem.run_bind,run_underlying ht w]
  cases d <;> simp_all
 cases g with
 |true =>
  simp only [if_true,cG,ct] at hs
  obtain ⟨n,hn,l,hl,rfl⟩:=hs
  have hx:cs.extract o (o+n)=l.toArray:=by
   unfold cut at hl
   split at hl
   .cases hl
    apply Array.ext'
    simp [List.take_drop]
   .cases hl
  simp [part,oT,uw hT hn,hx]
 |false =>
  simp only [gX,if_false] at hs
  have yz:cs[o]? = some v:=by simpa using hs
  simp [part,oT,yz]
theorem zgd (hT:T.Fits P) {E:TypeId->ai->ai->Option Bool} {d:Nat} (w:World) (hE:∀ t x y b,E t x y=some b->(Op.equalIn d t x y).run P w=.ok b w) (xs ys:Array ai) :
 ∀ (fs:List Field) (ps:List (TypeId × Nat)) (b:Bool),Hm fs=some ps->Bn T E xs.toList ys.toList ps=some b->(Op.eqFields d xs ys fs).run P w=.ok b w
 | [],ps,b,hp,he=>by
  cases hp
  cases he
  simp [Op.eqFields]
 |f::fs,ps,b,hp,he=>by
  simp only [Hm] at hp
  split at hp
  .cases hp
  .rename_i hn
   simp only [ct] at hp
   obtain ⟨r,hr,rfl⟩:=hp
   simp only [Bn,cG] at he
   obtain ⟨a,ha,c,hc,q,hq,he⟩:=he
   have h1:=HG hT ha w
   have h2:=HG hT hc w
   have h3:=hE _ _ _ _ hq
   simp only [Op.eqFields]
   rw [aD (by simpa using hn)]
   simp only [Sem.run_bind,h1,h2,h3,Result.andThen_ok]
   cases q with
   |false =>
    simp only [gX,if_false,eh] at he
    subst he
    simp
   |true =>
    simp only [if_true] at he
    simpa using zgd hT w hE xs ys fs r b hr he
theorem zgS (hT:T.Fits P) {E:TypeId->ai->ai->Option Bool} {d:Nat} (w:World) (hE:∀ t x y b,E t x y=some b->(Op.equalIn d t x y).run P w=.ok b w) (xs ys:Array ai) (e:TypeId) (k:Nat) :
 ∀ (n i:Nat) (b:Bool),Bn T E xs.toList ys.toList (HE e k n i)=some b->(Op.eqItems d e k xs ys (List.range' i n)).run P w=.ok b w
 |0,i,b,he=>by
  cases he
  simp [Op.eqItems]
 |n+1,i,b,he=>by
  simp only [HE,Bn,cG] at he
  obtain ⟨a,ha,c,hc,q,hq,he⟩:=he
  have h1:=HG hT ha w
  have h2:=HG hT hc w
  have h3:=hE _ _ _ _ hq
  simp only [List.range'_succ,Op.eqItems,Sem.run_bind,h1,h2,h3,Result.andThen_ok]
  cases q with
  |false =>
   simp only [gX,if_false,eh] at he
   subst he
   simp
  |true =>
   simp only [if_true] at he
   simpa using zgS hT w hE xs ys e k n (i+1) b he
theorem MU (hT:T.Fits P) (w:World):∀ (d D:Nat) (t:TypeId) (x y:ai) (b:Bool),dC T d t x y=some b->(Op.equalIn (D+d) t x y).run P w=.ok b w
 |0,_,_,_,_,_,he=>by simp [dC] at he
 |d+1,D,t,x,y,b,he=>by
  unfold dC at he
  split at he
  .rename_i a c hd
   cases he
   exact run_equalIn_bool w (D+d) t a c (hT.desc _ _ hd)
  .rename_i q k a k' c hd
   split at he
   .rename_i hk
    subst hk
    cases he
    exact run_equalIn_int w (D+d) t k q a c (hT.desc _ _ hd)
   .cases he
  .rename_i a c hd
   cases he
   rw [show D+(d+1)=(D+d)+1 from rfl,run_equalIn_string w (D+d) t a c (hT.desc _ _ hd),ByteArray.toList_eq,ByteArray.toList_eq]
  .rename_i fs xs ys hd
   split at he
   .rename_i hc
    simp only [cG] at he
    obtain ⟨ps,hp,he⟩:=he
    have hu:=hT.desc _ _ hd
    have hf:P.fieldsOf t=fs:=by simp [Program.fieldsOf,hu]
    rw [show D+(d+1)=(D+d)+1 from rfl,run_equalIn_struct w (D+d) t xs ys (by rw [hf];exact hu) (hT.cmp t hc).1,hf]
    exact zgd hT w (λt x y b hb=>MU hT w d D t x y b hb) xs ys fs.toList ps b hp he
   .cases he
  .rename_i n e xs ys hd
   simp only [cG] at he
   obtain ⟨k,hk,he⟩:=he
   have hu:=hT.desc _ _ hd
   simp only [dJ,ct] at hk
   obtain ⟨⟨n',b',z⟩,hi,rfl⟩:=hk
   obtain ⟨i,zv,iC,dS,_⟩:=hT.info _ _ _ _ hi
   have mw:P.cellsOf e=n':=by simp [Program.cellsOf,iC,dS]
   rw [show D+(d+1)=(D+d)+1 from rfl,run_equalIn_array w (D+d) xs ys hu iC,mw]
   have:=zgS hT w (λt x y b hb=>MU hT w d D t x y b hb) xs ys e n' n 0 b he
   rw [List.range_eq_range']
   exact this
  .cases he

theorem ztJ (hT:T.Fits P) {op:BinOp} {t:TypeId} {x' y':ai} (hx:VR ρ x x') (hy:VR ρ y y') (hs:cA P T op t x y=some v) (ox oy:Operand) (w:World) :
 ∃ vc,(do eqGuard op t ox oy x' y';binOp op t x' y':Sem ai).run P w=.ok vc w/\VR ρ v vc:=by
 unfold cA at hs
 split at hs
 .rename_i v' hf
  cases hs
  obtain ⟨h1,h2,h3,h4,k,a,rfl⟩:=zml (P:=P) (t:=t) hf
  have e1:=hx.bK h2
  have e2:=hy.bK h3
  subst e1 e2
  refine ⟨v,?_,.dm ρ h4⟩
  rw [Sem.run_bind,PJ op t ox oy (.int k a) _ (by simp) (by intro c d e;cases e) w]
  exact MD P _ _ h1 w
 .split at hs
  .rename_i b hb
   simp only [cG] at hb
   obtain ⟨d,hd,he⟩:=hb
   have ht:=hT.desc _ _ hd
   obtain ⟨h1,h2⟩:=zqM ht hx hy he w
   have U9:x'≠.nilIface/\(∀ c,x'≠.agg c):=by
    unfold Gn at he
    split at he <;> first|(cases he;done)|(cases hx <;> exact ⟨by simp,by simp⟩)
   have hg:=PJ (P:=P) op t ox oy x' y' U9.1 (by intro c d e;exact (U9.2 c e).elim) w
   split at hs
   .cases hs
    refine ⟨.bool b,?_,.bool _⟩
    simp only [Sem.run_bind,hg,Result.andThen_ok,h2 .eql (.inl rfl),if_true,h1,Sem.run_pure]
   .cases hs
    refine ⟨.bool !b,?_,.bool _⟩
    simp only [Sem.run_bind,hg,Result.andThen_ok,h2 .neq (.inr rfl),reduceCtorEq,if_false,h1,Sem.run_pure]
   .cases hs
  .split at hs
   .rename_i hp
    simp only [dK] at hp
    have e1:=hx.bK hp.1
    have e2:=hy.bK hp.2
    subst e1 e2
    have fin:∀ (hs:((gB P (binOp op t x' y')).bind λv=>if plain v then some v else none)=some v) (hg:(eqGuard op t ox oy x' y').run P w=.ok () w),
     ∃ vc,(do eqGuard op t ox oy x' y';binOp op t x' y':Sem ai).run P w=.ok vc w/\VR ρ v vc:=by
     intro hs hg
     simp only [cG] at hs
     obtain ⟨v1,hr,hs⟩:=hs
     split at hs
     .rename_i hpv
      cases hs
      refine ⟨v,?_,.dm ρ hpv⟩
      simp only [Sem.run_bind,hg,Result.andThen_ok]
      exact MD P _ _ hr w
     .cases hs
    split at hs
    .cases hs
    .rename_i c d
     split at hs
     .rename_i tP
      have hg:=λxs ys=>PJ (P:=P) op t ox oy (.agg xs) (.agg ys) (by simp) (by intro _ _ _ _;exact (hT.cmp t tP).2) w
      split at hs
      .simp only [ct] at hs
       obtain ⟨b,hb,rfl⟩:=hs
       refine ⟨.bool b,?_,.bool _⟩
       simp only [Sem.run_bind,hg,Result.andThen_ok]
       rw [run_eql_struct,MU hT w 20 9980 t _ _ b hb]
       rfl
      .simp only [ct] at hs
       obtain ⟨b,hb,rfl⟩:=hs
       refine ⟨.bool !b,?_,.bool _⟩
       simp only [Sem.run_bind,hg,Result.andThen_ok]
       rw [run_neq_struct,MU hT w 20 9980 t _ _ b hb]
       rfl
      .cases hs
     .cases hs
    .rename_i h1 h2
     refine fin hs (PJ op t ox oy _ _ ?_ ?_ w)
     .intro e;exact h1 e
     .intro c d e1 e2;exact (h2 c d e1 e2).elim
   .cases hs

theorem zum (hT:T.Fits P) (hs:bT ρ h w) {ty:TypeId} (cS:VR ρ x y) (hl:bQ T t x h=some v) (ts:List TypeId) :
 ∃ vc,(Builtin.len_ (t::ts).toArray ty #[y]).run P w=.ok vc w/\VR ρ v vc:=by
 unfold bQ at hl
 split at hl
 .rename_i s hd
  cases cS
  cases hl
  exact ⟨_,by simp [Builtin.len_,run_underlying (hT.desc _ _ hd),goInt],.int _ _⟩
 .rename_i e a n c hd
  cases hl
  have key:∃ a' c',y=.slice a' n c':=by cases cS <;> exact ⟨_,_,rfl⟩
  obtain ⟨a',c',rfl⟩:=key
  exact ⟨_,by simp [Builtin.len_,run_underlying (hT.desc _ _ hd),goInt],.int _ _⟩
 .rename_i a b hd
  cases cS
  cases hl
  exact ⟨_,by simp [Builtin.len_,run_underlying (hT.desc _ _ hd),goInt],.int _ _⟩
 .rename_i a b A hd
  split at hl
  .rename_i es clock hg
   cases hl
   cases cS with
   |map hA =>
    rename_i L
    have hb:=hs.lR A L hA
    rw [hg] at hb
    obtain ⟨ces,hc,he⟩:=hb
    refine ⟨.int .i64 (ces.size:Nat),by simp [Builtin.len_,run_underlying (hT.desc _ _ hd),goInt,getObj,Sem.run,hc],?_⟩
    have e1:(es.length:Int)=(ces.size:Int):=by have:=he.1;simp at this;omega
    rw [e1]
    exact .int _ _
  .cases hl
 .cases hl
end
end Go.Am
namespace Go.Am
open Go.RowKit
variable {k k' v x y:ai} {kt t:TypeId}
section
variable {P:Program} {T:bJ} {ρ:cI} {h h':Heap} {w:World}

theorem zin {Z:Type} (P:Program) (w:World) (l:List Z) (g:Z->PUnit->Sem (ForInStep PUnit)) (hf:∀ x∈l,(g x PUnit.unit).run P w=.ok (.yield PUnit.unit) w) :
 (forIn l PUnit.unit g:Sem PUnit).run P w=.ok PUnit.unit w:=by
 induction l with
 |nil=>simp
 |cons x l ih =>
  have h1:=hf x (by simp)
  have h2:=ih (λy hy=>hf y (by simp [hy]))
  simp only [List.forIn_cons,Sem.run_bind,h1,Result.andThen_ok,h2]

theorem XD {E:TypeId->ai->ai->Option Bool} {xs:List ai}:∀ {ps:List (TypeId × Nat)},Bn T E xs xs ps=some true->∀ p∈ps,∃ a,BB T p.1 xs p.2=some a/\E p.1 a a=some true
 | [],_,p,hp=>by cases hp
 |(t,o)::r,he,p,hp=>by
  simp only [Bn,cG] at he
  obtain ⟨a,ha,c,hc,q,hq,he⟩:=he
  rw [ha] at hc
  cases hc
  cases q with
  |false=>simp at he
  |true =>
   simp only [if_true] at he
   rcases df.1 hp with rfl|hp
   .exact ⟨a,ha,hq⟩
   .exact XD he p hp

theorem zgh:∀ {fs:List Field} {ps:List (TypeId × Nat)},Hm fs=some ps->∀ f∈fs,(f.type,f.offset)∈ps
 | [],_,_,f,hf=>by cases hf
 |g::fs,ps,hp,f,hf=>by
  simp only [Hm] at hp
  split at hp
  .cases hp
  .simp only [ct] at hp
   obtain ⟨r,hr,rfl⟩:=hp
   rcases df.1 hf with rfl|hf
   .simp
   .exact pS _ (zgh hr f hf)

theorem zg3 {e:TypeId} {k:Nat}:∀ (n i j:Nat),i<=j->j < i+n->(e,j*k)∈HE e k n i
 |0,i,j,h1,h2=>by omega
 |n+1,i,j,h1,h2=>by
  simp only [HE]
  by_cases e:i=j
  .subst e;simp
  .exact pS _ (zg3 n (i+1) j (by omega) (by omega))

theorem XB (hT:T.Fits P) (w:World) (em:Bool):∀ (d D:Nat) (t:TypeId) (x y:ai),dC T d t x y=some true->y=x->(Instr.checkKey em (D+d) t x).run P w=.ok () w
 |0,_,_,_,_,he,_=>by simp [dC] at he
 |d+1,D,t,x,y,he,AE=>by
  unfold dC at he
  rw [show D+(d+1)=(D+d)+1 from rfl]
  split at he
  .rename_i a c hd
   simp [Instr.checkKey,run_underlying (hT.desc _ _ hd)]
  .rename_i q k a k' c hd
   simp [Instr.checkKey,run_underlying (hT.desc _ _ hd)]
  .rename_i a c hd
   simp [Instr.checkKey,run_underlying (hT.desc _ _ hd)]
  .rename_i fs xs ys hd
   cases AE
   split at he
   .simp only [cG] at he
    obtain ⟨ps,hp,he⟩:=he
    have aB:=XD he
    simp only [Instr.checkKey,Sem.run_bind,run_underlying (hT.desc _ _ hd),Result.andThen_ok]
    rw [<- Array.forIn_toList]
    rw [zin P w fs.toList]
    .simp
    .intro f hf
     obtain ⟨a,ha,hq⟩:=aB _ (zgh hp f hf)
     have h1:=XB hT w em d D f.type a a hq rfl
     split
     .simp only [Sem.run_bind,HG hT ha w,Result.andThen_ok,h1,Sem.run_pure]
     .simp
   .cases he
  .rename_i n e xs ys hd
   cases AE
   simp only [cG] at he
   obtain ⟨k,hk,he⟩:=he
   have aB:=XD he
   simp only [Instr.checkKey,Sem.run_bind,run_underlying (hT.desc _ _ hd),Result.andThen_ok]
   simp only [Std.Legacy.Range.forIn_eq_forIn_range',Std.Legacy.Range.size,Nat.sub_zero,De,Nat.div_one]
   rw [zin P w]
   .simp
   .intro i hi
    have ql:i < n:=by simpa using hi
    obtain ⟨a,ha,hq⟩:=aB _ (zg3 (e:=e) (k:=k) n 0 i (by omega) (by omega))
    have h1:=XB hT w em d D e a a hq rfl
    simp only [Sem.run_bind,uw hT hk,HG hT ha w,Result.andThen_ok,h1,Sem.run_pure]
  .cases he

theorem ME (hT:T.Fits P) (w:World) (em:Bool) (d D:Nat) (t:TypeId) (x:ai) (he:dC T d t x x=some true):(Instr.checkKey em (D+d) t x).run P w=.ok () w:=XB hT w em d D t x x he rfl

theorem Hn (hk:sc T kt k=true):plain k=true/\dC T 20 kt k k=some true:=by
 unfold sc at hk
 split at hk
 .rename_i hp
  refine ⟨hp,?_⟩
  split at hk
  .rename_i b hb;rw [hb,hk]
  .cases hk
 .cases hk

def Zf (ρ:cI):Option (Nat × ai)->Option (Nat × ai)->Prop
 |none,none=>True
 |some (i,v),some (j,u)=>i=j/\VR ρ v u
 |_,_=>False

theorem mg.of_cons {x:MapEntry} {l m:List MapEntry} (hl:mg ρ (x::l) m):∃ y m',m=y::m'/\VR ρ x.key y.key/\VR ρ x.val y.val/\x.born=y.born/\plain x.key=true/\mg ρ l m':=by
 cases m with
 |nil=>have:=hl.1;simp at this
 |cons y m =>
  obtain ⟨h1,h2,h3,h4⟩:=hl.2 0 x y rfl rfl
  exact ⟨y,m,rfl,h1,h2,h3,h4,by have:=hl.1;simpa using this,λi a b ha hb=>hl.2 (i+1) a b (by simpa using ha) (by simpa using hb)⟩
theorem mg.of_nil {m:List MapEntry} (hl:mg ρ [] m):m=[]:=by
 have:=hl.1
 simp at this
 exact Nc this.symm

theorem zuZ (hT:T.Fits P) {d:TypeDesc} (hd:P.underlying kt=some d) {b c:Bool} (he:dC T 20 kt x y=some b) (hs:Instr.sameNow d x y=some c):b=c:=by
 unfold dC at he
 split at he
 .rename_i a c' mx
  have:=hT.desc _ _ mx
  rw [hd] at this
  cases this
  cases he
  simpa [Instr.sameNow] using hs
 .rename_i q k a k' c' mx
  have:=hT.desc _ _ mx
  rw [hd] at this
  cases this
  split at he
  .rename_i hk
   subst hk
   cases he
   simpa [Instr.sameNow] using hs
  .cases he
 .rename_i a c' mx
  have:=hT.desc _ _ mx
  rw [hd] at this
  cases this
  cases he
  simp only [Instr.sameNow,eh] at hs
  rw [<- hs,beq_toListBytes,ByteArray.toList_eq,ByteArray.toList_eq]
 .rename_i fs xs ys mx
  have:=hT.desc _ _ mx
  rw [hd] at this
  cases this
  simp [Instr.sameNow] at hs
 .rename_i n e xs ys mx
  have:=hT.desc _ _ mx
  rw [hd] at this
  cases this
  simp [Instr.sameNow] at hs
 .cases he

theorem zlw (hT:T.Fits P) {kt:TypeId} {d:TypeDesc} (hd:P.underlying kt=some d) {k:ai}:∀ (es ces:List MapEntry) (i:Nat) (r r':Option (Nat × ai)),mg ρ es ces->mb T kt k es i=some r->Instr.findNow d k ces i=some r'->Zf ρ r r'
 | [],ces,i,r,r',he,hf,hn=>by
  rw [he.of_nil] at hn
  simp only [mb,Instr.findNow,eh] at hf hn
  subst hf hn
  trivial
 |e::es,ces,i,r,r',he,hf,hn=>by
  obtain ⟨y,m,rfl,hk,hv,_,hp,Uv⟩:=he.of_cons
  have ju:=hk.bK hp
  simp only [mb,cG] at hf
  obtain ⟨b,hb,hf⟩:=hf
  simp only [Instr.findNow] at hn
  rw [ju] at hn
  cases pg:Instr.sameNow d k e.key with
  |none=>rw [pg] at hn;cases hn
  |some c =>
   have:=zuZ hT hd hb pg
   subst this
   rw [pg] at hn
   cases b with
   |true =>
    simp only [if_true,eh] at hf hn
    subst hf hn
    exact ⟨rfl,hv⟩
   |false =>
    simp only [gX,if_false] at hf hn
    exact zlw hT hd es m (i+1) r r' Uv hf hn

theorem zgV (hT:T.Fits P) (w:World) {kt:TypeId} {k:ai}:∀ (es ces:List MapEntry) (i:Nat) (r:Option (Nat × ai)),mg ρ es ces->mb T kt k es i=some r->∃ r',(Instr.findAsking kt k ces i).run P w=.ok r' w/\Zf ρ r r'
 | [],ces,i,r,he,hf=>by
  rw [he.of_nil]
  simp only [mb,eh] at hf
  subst hf
  exact ⟨none,by simp [Instr.findAsking],trivial⟩
 |e::es,ces,i,r,he,hf=>by
  obtain ⟨y,m,rfl,hk,hv,_,hp,Uv⟩:=he.of_cons
  have ju:=hk.bK hp
  simp only [mb,cG] at hf
  obtain ⟨b,hb,hf⟩:=hf
  have hq:(Op.equal kt k y.key).run P w=.ok b w:=by rw [ju];exact MU hT w 20 9980 kt _ _ b hb
  cases b with
  |true =>
   simp only [if_true,eh] at hf
   subst hf
   exact ⟨some (i,y.val),by simp [Instr.findAsking,hq],rfl,hv⟩
  |false =>
   simp only [gX,if_false] at hf
   obtain ⟨r',h1,h2⟩:=zgV hT w es m (i+1) r Uv hf
   exact ⟨r',by simp [Instr.findAsking,hq,h1],h2⟩

theorem zqU (hT:T.Fits P) (hk:sc T kt k=true):∃ d,P.underlying kt=some d:=by
 obtain ⟨_,h1⟩:=Hn hk
 unfold dC at h1
 split at h1
 all_goals first|exact ⟨_,hT.desc _ _ ‹_›⟩|cases h1

theorem PZ (hT:T.Fits P) (w:World) (hk:sc T kt k=true) {es ces:List MapEntry} {r:Option (Nat × ai)} (he:mg ρ es ces) (hf:mb T kt k es 0=some r) :
 ∃ r',(Instr.findKey kt k ces).run P w=.ok r' w/\Zf ρ r r':=by
 obtain ⟨d,hd⟩:=zqU hT hk
 cases hn:Instr.findNow d k ces 0 with
 |some r'=>exact ⟨r',by simp [Instr.findKey,run_underlying hd,hn],zlw hT hd es ces 0 r r' he hf hn⟩
 |none =>
  obtain ⟨r',h1,h2⟩:=zgV hT w es ces 0 r he hf
  exact ⟨r',by simp [Instr.findKey,run_underlying hd,hn,h1],h2⟩

theorem PX (hT:T.Fits P) (hz:T.zero t=some v) (w:World):(zeroValue t).run P w=.ok v w/\VR ρ v v:=by
 obtain ⟨⟨i,hi,hiz⟩,hp⟩:=hT.zero t v hz
 exact ⟨by simp [zeroValue,typeInfo,hi,hiz],.dm ρ hp⟩

theorem zq7 (hs:bT ρ h w) (cS:VR ρ x y) {es:List MapEntry} (hm:Gl x h=some es) :
 ∃ ces:Array MapEntry,mg ρ es ces.toList/\((y=.map none/\ces=#[])\/∃ A L clock,x=.map (some A)/\ρ A=some L/\y=.map (some L.b)/\h.get A=some (.map es clock)/\w.heap[L.b]? = some (.map ces clock)):=by
 unfold Gl at hm
 split at hm
 .cases hm
  cases cS
  exact ⟨#[],⟨rfl,by intro i x y hx;simp at hx⟩,.inl ⟨rfl,rfl⟩⟩
 .split at hm
  .rename_i A _ OD clock hg
   cases hm
   cases cS with
   |map hA =>
    rename_i L
    have hb:=hs.lR A L hA
    rw [hg] at hb
    obtain ⟨ces,hc,he⟩:=hb
    exact ⟨ces,he,.inr ⟨A,L,clock,rfl,hA,rfl,hg,hc⟩⟩
  .cases hm
 .cases hm

theorem zmN (hT:T.Fits P) (hs:bT ρ h w) {ok:Bool} (cS:VR ρ x y) (hk:VR ρ k k') (hl:u9 T t x k ok h=some v) :
 ∃ u,(Instr.lookup t y k' ok).run P w=.ok u w/\VR ρ v u:=by
 unfold u9 at hl
 split at hl
 .rename_i kt et hd
  split at hl
  .rename_i kU
   simp only [cG,ct,Prod.exists] at hl
   obtain ⟨es,Kg,r,hr,v',b,ph,hv⟩:=hl
   have hu:=hT.desc _ _ hd
   obtain ⟨hp,iW⟩:=Hn kU
   have nZ:k'=k:=hk.bK hp
   subst nZ
   obtain ⟨ces,he,hy⟩:=zq7 hs cS Kg
   obtain ⟨r',hf,dL⟩:=PZ hT w kU he hr
   have nV:∀ em,(Instr.checkKey em 10000 kt k').run P w=.ok () w:=λem=>ME hT w em 20 9980 kt k' iW
   have Cp:∀ u',VR ρ v' u'->VR ρ v (if ok then .tuple #[u',.bool b] else u'):=by
    intro u' pJ
    rw [<- hv]
    cases ok
    .exact pJ
    .simp only [if_true]
     exact (cL.cons pJ (.cons (.bool b) (.nil ρ))).jk
   cases r with
   |none =>
    cases r' with
    |some q=>exact dL.elim
    |none =>
     simp only [ct,cQ] at ph
     obtain ⟨z,hz,rfl,rfl⟩:=ph
     obtain ⟨h1,h2⟩:=PX (ρ:=ρ) hT hz w
     refine ⟨_,?_,Cp z h2⟩
     rcases hy with ⟨rfl,rfl⟩|⟨A,L,clock,_,_,rfl,_,hc⟩
     .simp only [Instr.lookup,Sem.run_bind,run_underlying hu,Result.andThen_ok,Sem.run_pure,nV,hf,h1]
     .have hg:(getObj L.b).run P w=.ok (.map ces clock) w:=by simp [getObj,Sem.run,hc]
      simp only [Instr.lookup,Sem.run_bind,run_underlying hu,Result.andThen_ok,Sem.run_pure,hg,nV,hf,h1]
   |some p =>
    cases r' with
    |none=>exact dL.elim
    |some q =>
     obtain ⟨i,v1⟩:=p
     obtain ⟨j,u1⟩:=q
     simp only [eh,cQ] at ph
     obtain ⟨rfl,rfl⟩:=ph
     refine ⟨_,?_,Cp u1 dL.2⟩
     rcases hy with ⟨rfl,rfl⟩|⟨A,L,clock,_,_,rfl,_,hc⟩
     .simp only [Instr.lookup,Sem.run_bind,run_underlying hu,Result.andThen_ok,Sem.run_pure,nV,hf]
     .have hg:(getObj L.b).run P w=.ok (.map ces clock) w:=by simp [getObj,Sem.run,hc]
      simp only [Instr.lookup,Sem.run_bind,run_underlying hu,Result.andThen_ok,Sem.run_pure,hg,nV,hf]
  .cases hl
 .cases hl

theorem zs7:∀ {x y:ai},BC x y=true->x=y:=by
 intro x y hh
 unfold BC at hh
 split at hh
 .simpa using hh
 .simp only [dK,jm,beq_iff_eq] at hh
  rw [hh.1,hh.2]
 .rename_i a b
  obtain ⟨⟨a⟩⟩:=a
  obtain ⟨⟨b⟩⟩:=b
  simpa using hh
 .cases hh
theorem zlM:∀ {l m:List ai},HY l m=true->l=m
 | [],[],_=>rfl
 |x::l,y::m,hh=>by
  simp only [HY,dK] at hh
  rw [zs7 hh.1,zlM hh.2]
 | [],_::_,hh=>by cases hh
 |_::_,[],hh=>by cases hh
theorem zlL (hh:BC x y=true) (n:Nat):Instr.sameBits n x y=true:=by
 have:=zs7 hh
 subst this
 unfold BC at hh
 split at hh
 .simp [Instr.sameBits]
 .simp [Instr.sameBits]
 .simp [Instr.sameBits,beq_toListBytes]
 .cases hh
theorem zio:∀ {l m:List ai},HY l m=true->∀ n,(l.zip m).all (λ(x,y)=>Instr.sameBits n x y)=true
 | [],[],_,_=>rfl
 |x::l,y::m,hh,n=>by
  simp only [HY,dK] at hh
  simp only [List.zip_cons_cons,gS,dK]
  exact ⟨zlL hh.1 n,zio hh.2 n⟩
 | [],_::_,hh,_=>by cases hh
 |_::_,[],hh,_=>by cases hh
theorem ziq (hh:CY x y=true):Instr.sameBits 10000 x y=true:=by
 unfold CY at hh
 split at hh
 .rename_i a b
  have h1:=zio hh 9999
  have h2:=zlM hh
  have h3:a.size=b.size:=by rw [<- vu,h2,vu]
  rw [Instr.sameBits,h3]
  simpa using h1
 .exact zlL hh _

theorem zhq (hT:T.Fits P) (hs:bT ρ h w) {v':ai} (cS:VR ρ x y) (hk:VR ρ k k') (hv:VR ρ v v') (hl:oG T t x k v h=some h') :
 ∃ w',(Instr.mapUpdate t y k' v').run P w=.ok () w'/\Fr ρ ρ h h' w w'/\bT ρ h' w':=by
 unfold oG at hl
 split at hl
 .rename_i kt et A hd
  split at hl
  .rename_i es clock hg
   split at hl
   .rename_i kU
    simp only [cG] at hl
    obtain ⟨r,hr,hl⟩:=hl
    have hu:=hT.desc _ _ hd
    obtain ⟨hp,iW⟩:=Hn kU
    have nZ:k'=k:=hk.bK hp
    subst nZ
    cases cS with
    |map hA =>
     rename_i L
     have hb:=hs.lR A L hA
     rw [hg] at hb
     obtain ⟨ces,hc,he⟩:=hb
     obtain ⟨r',hf,dL⟩:=PZ hT w kU he hr
     have nV:∀ em,(Instr.checkKey em 10000 kt k').run P w=.ok () w:=λem=>ME hT w em 20 9980 kt k' iW
     have kl:∀ o:Obj,(setObj L.b o).run P w=.ok () (w.putObj L.b o):=by
      intro o
      simp [setObj,Sem.run,hc,World.putObj]
     have aT:L.b < w.heap.size:=(mU.1 hc).1
     have wU:∀ (b':aZ) (o:Obj),pT ρ (w.putObj L.b o) L (some b')->Fr ρ ρ h (h.set A b') w (w.putObj L.b o)/\bT ρ (h.set A b') (w.putObj L.b o):=by
      intro b' o lU
      refine MN hs hA hg (by simp) (by simp) rfl rfl rfl (by simp [World.putObj]) (λq hq=>?_) lU
      simp only [World.putObj]
      rw [HP (Ne.symm hq)]
     have mr:∀ o:Obj,(w.putObj L.b o).heap[L.b]? = some o:=by
      intro o
      simp [World.putObj,aT]
     cases r with
     |none =>
      cases r' with
      |some q=>exact dL.elim
      |none =>
       simp only [eh] at hl
       subst hl
       refine ⟨w.putObj L.b (.map (ces.push { key:=k',val:=v',born:=clock }) (clock+1)),?_,wU _ _ ⟨_,mr _,?_⟩⟩
       .simp [Instr.mapUpdate,run_underlying hu,getObj,Sem.run,hc,nV,hf,kl]
       .refine ⟨by simp [he.1],λi a b ha hb=>?_⟩
        have hlen:=he.1
        rw [Array.toList_push] at hb
        rcases Gh i es.length with h1|h1|h1
        .rw [jz h1] at ha
         rw [jz (by omega)] at hb
         exact he.2 i a b ha hb
        .rw [lp (by omega)] at ha
         rw [lp (by omega)] at hb
         have e1:i - es.length=0:=by omega
         have e2:i - ces.toList.length=0:=by omega
         rw [e1] at ha
         rw [e2] at hb
         simp at ha hb
         subst ha hb
         exact ⟨.dm ρ hp,hv,rfl,hp⟩
        .rw [lp (by omega)] at ha
         have:i - es.length=(i - es.length - 1)+1:=by omega
         rw [this] at ha
         simp at ha
     |some q =>
      obtain ⟨i,v1⟩:=q
      cases r' with
      |none=>exact dL.elim
      |some q' =>
       obtain ⟨j,u1⟩:=q'
       obtain ⟨rfl,_⟩:=dL
       simp only [cG] at hl
       obtain ⟨e,Kf,hl⟩:=hl
       split at hl
       .rename_i fX
        cases hl
        have fC:i < ces.size:=by
         have h1:=(fG.1 Kf).1
         have:=he.1
         simp at this
         omega
        obtain ⟨k1,k2,k3,k4⟩:=he.2 i e ces[i] Kf (by simp)
        have UO:ces[i].key=e.key:=k1.bK k4
        have wh:=ziq fX
        refine ⟨w.putObj L.b (.map (ces.modify i λe=>{ e with key:=k',val:=v' }) clock),?_,wU _ _ ⟨_,mr _,?_⟩⟩
        .simp [Instr.mapUpdate,run_underlying hu,getObj,Sem.run,hc,nV,hf,kl,Instr.keyThatStays,UO,wh,fC]
        .refine ⟨by simp [he.1],λq a b ha hb=>?_⟩
         rw [Array.toList_modify] at hb
         rw [H5] at ha hb
         by_cases hq:i=q
         .subst hq
          simp only [if_true,Option.map_eq_map,ct] at ha hb
          obtain ⟨a0,DW,rfl⟩:=ha
          obtain ⟨b0,sI,rfl⟩:=hb
          obtain ⟨_,_,h3,_⟩:=he.2 i a0 b0 DW sI
          exact ⟨.dm ρ hp,hv,h3,hp⟩
         .simp only [az hq] at ha hb
          exact he.2 q a b (by simpa using ha) (by simpa using hb)
       .cases hl
   .cases hl
  .cases hl
 .cases hl

theorem Xt (hs:bT ρ h w) {A:Nat} {L:Loc} {es OD:List MapEntry} {ces zC:Array MapEntry} {clock clock':Nat} (hA:ρ A=some L) (hg:h.get A=some (.map es clock)) (hc:w.heap[L.b]? = some (.map ces clock))
 (he:mg ρ OD zC.toList):Fr ρ ρ h (h.set A (.map OD clock')) w (w.putObj L.b (.map zC clock'))/\bT ρ (h.set A (.map OD clock')) (w.putObj L.b (.map zC clock')):=by
 have aT:L.b < w.heap.size:=(mU.1 hc).1
 refine MN hs hA hg (by simp) (by simp) rfl rfl rfl (by simp [World.putObj]) (λq hq=>?_) ⟨zC,by simp [World.putObj,aT],he⟩
 simp only [World.putObj]
 rw [HP (Ne.symm hq)]

theorem mg.push {es:List MapEntry} {ces:Array MapEntry} (he:mg ρ es ces.toList) {k v v':ai} {clock:Nat} (hp:plain k=true) (hv:VR ρ v v') :
 mg ρ (es++[{ key:=k,val:=v,born:=clock }]) (ces.push { key:=k,val:=v',born:=clock }).toList:=by
 refine ⟨by simp [he.1],λi a b ha hb=>?_⟩
 have hlen:=he.1
 rw [Array.toList_push] at hb
 rcases Gh i es.length with h1|h1|h1
 .rw [jz h1] at ha
  rw [jz (by omega)] at hb
  exact he.2 i a b ha hb
 .rw [lp (by omega)] at ha
  rw [lp (by omega)] at hb
  have e1:i - es.length=0:=by omega
  have e2:i - ces.toList.length=0:=by omega
  rw [e1] at ha
  rw [e2] at hb
  simp at ha hb
  subst ha hb
  exact ⟨.dm ρ hp,hv,rfl,hp⟩
 .rw [lp (by omega)] at ha
  have:i - es.length=(i - es.length - 1)+1:=by omega
  rw [this] at ha
  simp at ha

theorem mg.modify {es:List MapEntry} {ces:Array MapEntry} (he:mg ρ es ces.toList) (i:Nat) {f g:MapEntry->MapEntry}
 (Ki:∀ a b,VR ρ a.key b.key->VR ρ a.val b.val->a.born=b.born->plain a.key=true->VR ρ (f a).key (g b).key/\VR ρ (f a).val (g b).val/\(f a).born=(g b).born/\plain (f a).key=true) :
 mg ρ (es.modify i f) (ces.modify i g).toList:=by
 refine ⟨by simp [he.1],λq a b ha hb=>?_⟩
 rw [Array.toList_modify] at hb
 rw [H5] at ha hb
 by_cases hq:i=q
 .subst hq
  simp only [if_true,Option.map_eq_map,ct] at ha hb
  obtain ⟨a0,DW,rfl⟩:=ha
  obtain ⟨b0,sI,rfl⟩:=hb
  obtain ⟨h1,h2,h3,h4⟩:=he.2 i a0 b0 DW sI
  exact Ki a0 b0 h1 h2 h3 h4
 .simp only [az hq] at ha hb
  exact he.2 q a b (by simpa using ha) (by simpa using hb)

theorem zoG (hT:T.Fits P) (hs:bT ρ h w) (cS:VR ρ x y) (hk:VR ρ k k') (hl:NR T t x k h=some (v,h')) :
 ∃ u w',(Instr.mapEntry t y k').run P w=.ok u w'/\Fr ρ ρ h h' w w'/\bT ρ h' w'/\VR ρ v u:=by
 unfold NR at hl
 split at hl
 .rename_i kt et A hd
  split at hl
  .rename_i es clock hg
   split at hl
   .rename_i kU
    simp only [cG] at hl
    obtain ⟨r,hr,hl⟩:=hl
    have hu:=hT.desc _ _ hd
    obtain ⟨hp,iW⟩:=Hn kU
    have nZ:k'=k:=hk.bK hp
    subst nZ
    cases cS with
    |map hA =>
     rename_i L
     have hb:=hs.lR A L hA
     rw [hg] at hb
     obtain ⟨ces,hc,he⟩:=hb
     obtain ⟨r',hf,dL⟩:=PZ hT w kU he hr
     have nV:∀ em,(Instr.checkKey em 10000 kt k').run P w=.ok () w:=λem=>ME hT w em 20 9980 kt k' iW
     have kl:∀ o:Obj,(setObj L.b o).run P w=.ok () (w.putObj L.b o):=by
      intro o
      simp [setObj,Sem.run,hc,World.putObj]
     cases r with
     |none =>
      cases r' with
      |some q=>exact dL.elim
      |none =>
       simp only [ct,cQ] at hl
       obtain ⟨z,hz,rfl,rfl⟩:=hl
       obtain ⟨z1,z2⟩:=PX (ρ:=ρ) hT hz w
       obtain ⟨f1,f2⟩:=Xt (clock':=clock+1) hs hA hg hc (he.push (clock:=clock) hp z2)
       refine ⟨_,_,?_,f1,f2,(cL.cons z2 (.cons (.int .i64 clock) (.nil ρ))).jk⟩
       simp [Instr.mapEntry,run_underlying hu,getObj,Sem.run,hc,nV,hf,kl,z1,goInt]
     |some q =>
      obtain ⟨i,v1⟩:=q
      cases r' with
      |none=>exact dL.elim
      |some q' =>
       obtain ⟨j,u1⟩:=q'
       obtain ⟨rfl,pJ⟩:=dL
       simp only [cG] at hl
       obtain ⟨e,Kf,hl⟩:=hl
       split at hl
       .rename_i fX
        cases hl
        have fC:i < ces.size:=by
         have h1:=(fG.1 Kf).1
         have:=he.1
         simp at this
         omega
        obtain ⟨k1,k2,k3,k4⟩:=he.2 i e ces[i] Kf (by simp)
        have UO:ces[i].key=e.key:=k1.bK k4
        have wh:=ziq fX
        obtain ⟨f1,f2⟩:=Xt (clock':=clock) hs hA hg hc (he.modify i (f:=λe=>{ e with key:=k' }) (g:=λe=>{ e with key:=k' }) (λa b h1 h2 h3 h4=>⟨.dm ρ hp,h2,h3,hp⟩))
        refine ⟨_,_,?_,f1,f2,(cL.cons pJ (.cons (.int .i64 e.born) (.nil ρ))).jk⟩
        simp [Instr.mapEntry,run_underlying hu,getObj,Sem.run,hc,nV,hf,kl,Instr.keyThatStays,UO,wh,fC,goInt,k3]
       .cases hl
   .cases hl
  .cases hl
 .cases hl

theorem zje {s:Int}:∀ {es ces:List MapEntry} {n i:Nat},(∀ (i:Nat) a b,es[i]? = some a->ces[i]? = some b->a.born=b.born)->es.length=ces.length->QN s es n=some i->n<=i/\ces.findIdx? (λe=>(e.born:Int) == s)=some (i - n)
 | [],_,_,_,_,_,h=>by cases h
 |a::es,[],_,_,_,hl,_=>by cases hl
 |a::es,b::ces,n,i,hb,hl,h=>by
  have h0:=hb 0 a b rfl rfl
  rw [QN] at h
  rw [List.findIdx?_cons]
  split at h
  .rename_i hc
   cases h
   rw [h0] at hc
   simp [hc]
  .rename_i hc
   rw [h0] at hc
   obtain ⟨h1,h2⟩:=zje (es:=es) (ces:=ces) (λi a b ha lU=>hb (i+1) a b (by simpa using ha) (by simpa using lU)) (by simpa using hl) h
   refine ⟨by omega,?_⟩
   have:¬ ((b.born:Int) == s)=true:=by simpa using hc
   rw [az this,h2]
   simp
   omega

theorem zhG (hs:bT ρ h w) {s s' v':ai} (cS:VR ρ x y) (ot:VR ρ s s') (hv:VR ρ v v') (hl:MF x s v h=some h') :
 ∃ w',(Instr.entryStore t y s' v').run P w=.ok () w'/\Fr ρ ρ h h' w w'/\bT ρ h' w':=by
 unfold MF at hl
 split at hl
 .rename_i A kd b
  split at hl
  .rename_i es clock hg
   simp only [ct] at hl
   obtain ⟨i,hi,rfl⟩:=hl
   cases ot
   cases cS with
   |map hA =>
    rename_i L
    have hb:=hs.lR A L hA
    rw [hg] at hb
    obtain ⟨ces,hc,he⟩:=hb
    have kl:∀ o:Obj,(setObj L.b o).run P w=.ok () (w.putObj L.b o):=by
     intro o
     simp [setObj,Sem.run,hc,World.putObj]
    obtain ⟨_,zW⟩:=zje (ces:=ces.toList) (λi a b ha hb=>(he.2 i a b ha hb).2.2.1) he.1 hi
    have Eb:ces.findIdx? (λe=>(e.born:Int) == b)=some i:=by
     cases ces with|mk l=>simpa using zW
    obtain ⟨f1,f2⟩:=Xt (clock':=clock) hs hA hg hc (he.modify i (f:=λe=>{ e with val:=v }) (g:=λe=>{ e with val:=v' }) (λa b h1 h2 h3 h4=>⟨h1,hv,h3,h4⟩))
    refine ⟨_,?_,f1,f2⟩
    simp [Instr.entryStore,getObj,Sem.run,hc,kl,asInt,asIntOf,Eb]
  .cases hl
 .cases hl

end
end Go.Am
namespace Go.Am
open Go.RowKit
variable {p v x y:ai} {s t:TypeId}
section
variable {P:Program} {T:bJ} {ρ:cI} {h h':Heap} {w:World}

theorem mg.eraseIdx {l m:List MapEntry} (hl:mg ρ l m) (i:Nat):mg ρ (l.eraseIdx i) (m.eraseIdx i):=by
 have hlen:=hl.1
 refine ⟨by rw [List.length_eraseIdx,List.length_eraseIdx,hlen],λj x y hx hy=>?_⟩
 rw [List.getElem?_eraseIdx] at hx hy
 split at hx
 .rename_i hj;rw [aD hj] at hy;exact hl.2 j x y hx hy
 .rename_i hj;rw [az hj] at hy;exact hl.2 (j+1) x y hx hy

theorem zmB (hT:T.Fits P) (hs:bT ρ h w) {ty:TypeId} {ts:List TypeId} {k k':ai} (cS:VR ρ x y) (hk:VR ρ k k') (hl:ND T t x k h=some h') :
 ∃ w',(Builtin.delete_ (t::ts).toArray ty #[y,k']).run P w=.ok (.tuple #[]) w'/\Fr ρ ρ h h' w w'/\bT ρ h' w':=by
 unfold ND at hl
 split at hl
 .rename_i kt et hd
  split at hl
  .rename_i kU
   cases hl
   obtain ⟨hp,iW⟩:=Hn kU
   have nZ:k'=k:=hk.bK hp
   subst nZ
   cases cS
   refine ⟨w,?_,Fr.refl _ _ _,hs⟩
   have nV:∀ em,(Instr.checkKey em 10000 kt k').run P w=.ok () w:=λem=>ME hT w em 20 9980 kt k' iW
   simp [Builtin.delete_,run_underlying (hT.desc _ _ hd),nV]
  .cases hl
 .rename_i kt et A hd
  split at hl
  .rename_i es clock hg
   split at hl
   .rename_i kU
    simp only [cG] at hl
    obtain ⟨r,hr,hl⟩:=hl
    have hu:=hT.desc _ _ hd
    obtain ⟨hp,iW⟩:=Hn kU
    have nZ:k'=k:=hk.bK hp
    subst nZ
    cases cS with
    |map hA =>
     rename_i L
     have hb:=hs.lR A L hA
     rw [hg] at hb
     obtain ⟨ces,hc,he⟩:=hb
     obtain ⟨r',hf,dL⟩:=PZ hT w kU he hr
     have nV:∀ em,(Instr.checkKey em 10000 kt k').run P w=.ok () w:=λem=>ME hT w em 20 9980 kt k' iW
     have gq:(getObj L.b).run P w=.ok (.map ces clock) w:=by simp [getObj,Sem.run,hc]
     have kl:∀ o:Obj,(setObj L.b o).run P w=.ok () (w.putObj L.b o):=by
      intro o
      simp [setObj,Sem.run,hc,World.putObj]
     have aT:L.b < w.heap.size:=(mU.1 hc).1
     have wU:∀ (b':aZ) (o:Obj),pT ρ (w.putObj L.b o) L (some b')->Fr ρ ρ h (h.set A b') w (w.putObj L.b o)/\bT ρ (h.set A b') (w.putObj L.b o):=by
      intro b' o lU
      refine MN hs hA hg (by simp) (by simp) rfl rfl rfl (by simp [World.putObj]) (λq hq=>?_) lU
      simp only [World.putObj]
      rw [HP (Ne.symm hq)]
     have mr:∀ o:Obj,(w.putObj L.b o).heap[L.b]? = some o:=by
      intro o
      simp [World.putObj,aT]
     cases r with
     |none =>
      cases r' with
      |some q=>exact dL.elim
      |none =>
       cases hl
       refine ⟨w.putObj L.b (.map ces clock),?_,wU _ _ ⟨_,mr _,he⟩⟩
       simp [Builtin.delete_,run_underlying hu,gq,nV,hf,kl]
     |some q =>
      obtain ⟨i,v1⟩:=q
      cases r' with
      |none=>exact dL.elim
      |some q' =>
       obtain ⟨j,u1⟩:=q'
       obtain ⟨rfl,_⟩:=dL
       cases hl
       refine ⟨w.putObj L.b (.map (ces.eraseIdxIfInBounds i) clock),?_,wU _ _ ⟨_,mr _,?_⟩⟩
       .simp [Builtin.delete_,run_underlying hu,gq,nV,hf,kl]
       .have e1:(ces.eraseIdxIfInBounds i).toList=ces.toList.eraseIdx i:=by simp
        rw [e1]
        exact he.eraseIdx i
   .cases hl
  .cases hl
 .cases hl

theorem zoP (hT:T.Fits P) (cS:VR ρ x y) (hi:Zi T t x=some v) (w:World):∃ u,(Instr.makeInterface t y).run P w=.ok u w/\VR ρ v u:=by
 unfold Zi at hi
 split at hi
 .cases hi
 .rename_i d aM hd
  cases hi
  refine ⟨.iface t y,?_,.iface t cS⟩
  have:=hT.desc _ _ hd
  simp only [Instr.makeInterface,Sem.run_bind,run_underlying this,Result.andThen_ok]
  cases d <;> first|rfl|exact (aM _ rfl).elim
 .cases hi

theorem ztl (hT:T.Fits P) (hz:T.zero t=some v) (w:World):(zeroValue t).run P w=.ok v w:=(PX (ρ:=λ_=>none) hT hz w).1

theorem zmk (hT:T.Fits P) {xt:TypeId} {ok:Bool} (cS:VR ρ x y) (hi:Y0 T x t ok=some v) (w:World):∃ u,(Instr.typeAssert y xt t ok).run P w=.ok u w/\VR ρ v u:=by
 unfold Y0 at hi
 split at hi
 .cases hi
 .rename_i d aM hd
  have hu:=hT.desc _ _ hd
  have Vb:∀ ms,d≠.interface ms:=λms e=>aM ms e
  have Ce:∀ z,T.zero t=some z->VR ρ (.tuple #[z,.bool false]) (.tuple #[z,.bool false]):=λz hz=>(cL.cons (PX (ρ:=ρ) hT hz w).2 (.cons (.bool false) (.nil ρ))).jk
  split at hi
  .rename_i t' v'
   cases cS with
   |iface _ cS =>
    rename_i y'
    split at hi
    .rename_i e
     subst e
     cases hi
     refine ⟨if ok then .tuple #[y',.bool true] else y',?_,?_⟩
     .simp only [Instr.typeAssert,Sem.run_bind,run_underlying hu,Result.andThen_ok]
      cases d <;> first|(exact (Vb _ rfl).elim)|simp
     .cases ok
      .exact cS
      .exact (cL.cons cS (.cons (.bool true) (.nil ρ))).jk
    .rename_i e
     split at hi
     .rename_i cV
      simp only [ct] at hi
      obtain ⟨z,hz,rfl⟩:=hi
      refine ⟨_,?_,Ce z hz⟩
      simp only [Instr.typeAssert,Sem.run_bind,run_underlying hu,Result.andThen_ok]
      cases d <;> first|(exact (Vb _ rfl).elim)|simp [e,cV,ztl hT hz]
     .cases hi
  .cases cS
   split at hi
   .rename_i cV
    simp only [ct] at hi
    obtain ⟨z,hz,rfl⟩:=hi
    refine ⟨_,?_,Ce z hz⟩
    simp only [Instr.typeAssert,Sem.run_bind,run_underlying hu,Result.andThen_ok]
    cases d <;> first|(exact (Vb _ rfl).elim)|simp [cV,ztl hT hz]
   .cases hi
  .cases hi
 .cases hi

def QJ (ρ:cI):gj->Place->Prop
 | .val v,.val u=>VR ρ v u
 | .var p,.var a=>VR ρ p (.pointer (some a))
 |_,_=>False

theorem zg6 (hT:T.Fits P) (hs:bT ρ h w) {a:Addr} (hp:VR ρ p (.pointer (some a))) (hl:iz T t p h=some v):∃ u,(loadVar t a).run P w=.ok u w/\VR ρ v u:=by
 obtain ⟨u,h1,h2⟩:=XF hT hs hp hl
 refine ⟨u,?_,h2⟩
 rw [<- h1]
 simp [Instr.loadAt,Instr.sureAddr]
theorem Qa (hT:T.Fits P) (hs:bT ρ h w) {x:gj} {y:Place} (cS:QJ ρ x y) (hg:x.get T t h=some v):∃ u,(y.get t).run P w=.ok u w/\VR ρ v u:=by
 cases x with
 |val v' =>
  cases y with
  |val u=>cases hg;exact ⟨u,rfl,cS⟩
  |var a=>exact cS.elim
 |var p =>
  cases y with
  |val u=>exact cS.elim
  |var a=>exact zg6 hT hs cS hg
theorem zvQ {u:ai} {f:Nat} {q:ai} (hp:VR ρ p u) (hf:lK T s p f=some q):∃ a,u=.pointer (some a)/\(asAddr u).run P w=.ok a w:=by
 unfold lK at hf
 split at hf
 .cases hp with
  |ptr hA=>exact ⟨_,rfl,by simp [asAddr]⟩
 .cases hf
theorem ze3 (hT:T.Fits P) {fs:Array Field} {q:ai} {a:Addr} {i:Nat} {f:Field} (hd:T.desc s=some (.struct fs)) (hi:fs[i]? = some f) (hp:VR ρ p (.pointer (some a))) (hf:lK T s p i=some q) :
 ∃ a',(fieldPlace a f).run P w=.ok a' w/\VR ρ q (.pointer (some a')):=by
 unfold lK at hf
 rw [hd] at hf
 split at hf
 .rename_i fs' A o e1
  cases e1
  simp only [cG] at hf
  obtain ⟨fl,Kk,n,hn,hf⟩:=hf
  rw [hi] at Kk
  cases Kk
  split at hf
  .cases hf
  .rename_i h0
   cases hf
   cases hp with
   |ptr hA =>
    rename_i L
    refine ⟨⟨L.b,L.s+(o+f.offset),none⟩,?_,.ptr hA⟩
    simp [fieldPlace,uw hT hn,h0,Addr.add_mid,pB]
 .cases hf

theorem PO (hT:T.Fits P) (hs:bT ρ h w):∀ (l:List FieldStep) (t:TypeId) (x:gj) (y:Place) (r:TypeId × gj),QJ ρ x y->HT T h l t x=some r->∃ y',(follow l t y).run P w=.ok (r.1,y') w/\QJ ρ r.2 y'
 | [],t,x,y,r,cS,hf=>by cases hf;exact ⟨y,by simp [follow],cS⟩
 |s::l,t,x,y,r,cS,hf=>by
  simp only [HT] at hf
  split at hf
  .rename_i fs hd
   simp only [cG] at hf
   obtain ⟨f,hi,hf⟩:=hf
   have hu:=hT.desc _ _ hd
   split at hf
   .rename_i yo
    simp only [cG] at hf
    obtain ⟨p,hp,q,hq,hf⟩:=hf
    obtain ⟨u,h1,h2⟩:=Qa hT hs cS hp
    obtain ⟨a,rfl,h3⟩:=zvQ (P:=P) (w:=w) h2 hq
    obtain ⟨a',h4,h5⟩:=ze3 (P:=P) (w:=w) hT hd hi h2 hq
    obtain ⟨y',h6,h7⟩:=PO hT hs l _ (.var q) (.var a') r h5 hf
    refine ⟨y',?_,h7⟩
    simp only [follow,Sem.run_bind,run_underlying hu,Result.andThen_ok,hi,yo,if_true,h1,h3,h4,h6]
   .rename_i yo
    split at hf
    .rename_i p
     simp only [cG] at hf
     obtain ⟨q,hq,hf⟩:=hf
     cases y with
     |val u=>exact cS.elim
     |var a =>
      obtain ⟨a',h4,h5⟩:=ze3 (P:=P) (w:=w) hT hd hi cS hq
      obtain ⟨y',h6,h7⟩:=PO hT hs l _ (.var q) (.var a') r h5 hf
      refine ⟨y',?_,h7⟩
      simp only [follow,Sem.run_bind,run_underlying hu,Result.andThen_ok,hi,yo,gX,if_false,h4,h6]
    .rename_i cs
     simp only [cG] at hf
     obtain ⟨v,hv,hf⟩:=hf
     cases y with
     |var a=>exact cS.elim
     |val u =>
      cases cS with
      |agg hc hh =>
       rename_i ds
       obtain ⟨vc,h4,h5⟩:=zjX (ds:=ds) hT (VR.agg hc hh).Dv hv w
       obtain ⟨y',h6,h7⟩:=PO hT hs l _ (.val v) (.val vc) r h5 hf
       refine ⟨y',?_,h7⟩
       simp only [follow,Sem.run_bind,run_underlying hu,Result.andThen_ok,hi,yo,gX,if_false,h4,h6]
    .cases hf
  .cases hf

theorem zj7 (hT:T.Fits P) (hs:bT ρ h w) {xt:TypeId} {x:gj} {y:Place} {ptr:Bool} (cS:QJ ρ x y) (hr:X0 T xt x ptr h=some v) (wr:Option String):∃ u,(receiverAt xt y ptr wr).run P w=.ok u w/\VR ρ v u:=by
 unfold X0 at hr
 split at hr
 .rename_i e hd
  obtain ⟨u,h1,h2⟩:=Qa hT hs cS hr
  refine ⟨u,?_,h2⟩
  simp only [receiverAt,Sem.run_bind,run_underlying (hT.desc _ _ hd),Result.andThen_ok,h1]
 .rename_i elem hd
  simp only [cG] at hr
  obtain ⟨p,hp,hr⟩:=hr
  obtain ⟨u,h1,h2⟩:=Qa hT hs cS hp
  have hpu:∃ a,u=.pointer (some a):=by
   unfold iz at hr
   split at hr
   .cases h2 with
    |ptr hA=>exact ⟨_,rfl⟩
   .cases hr
  obtain ⟨a,rfl⟩:=hpu
  obtain ⟨u',h3,h4⟩:=zg6 hT hs h2 hr
  refine ⟨u',?_,h4⟩
  simp only [receiverAt,Sem.run_bind,run_underlying (hT.desc _ _ hd),Result.andThen_ok,h1]
  cases wr with
  |none=>simp [asAddr,h3]
  |some nm =>
   have hw:(Builtin.ssaWrapNilChk_ #[xt] xt #[.pointer (some a),strVal "",strVal nm]).run P w=.ok (.pointer (some a)) w:=rfl
   simp [hw,asAddr,h3]
 .rename_i d p aM hd
  split at hr
  .rename_i a
   cases hr
   cases y with
   |val u=>exact cS.elim
   |var a' =>
    refine ⟨.pointer (some a'),?_,cS⟩
    simp only [receiverAt,Sem.run_bind,run_underlying (hT.desc _ _ hd),Result.andThen_ok]
    cases d <;> first|rfl|exact (aM _ rfl).elim
  .cases hr
 .rename_i d aM hd
  obtain ⟨u,h1,h2⟩:=Qa hT hs cS hr
  refine ⟨u,?_,h2⟩
  simp only [receiverAt,Sem.run_bind,run_underlying (hT.desc _ _ hd),Result.andThen_ok]
  cases d <;> first|exact h1|exact (aM _ rfl).elim
 .cases hr

theorem zmQ (hT:T.Fits P) (hs:bT ρ h w) {u r:ai} {name:String} {f:FuncId} (hv:VR ρ v u) (hm:QD T t v name h=some (f,r)) (fuel:Nat):∃ r',(method (fuel+1) t u name).run P w=.ok (f,r') w/\VR ρ r r':=by
 unfold QD at hm
 simp only [cG,Prod.exists] at hm
 obtain ⟨m,fW,xt,x,hf,hm⟩:=hm
 obtain ⟨i,hi,Kj⟩:=hT.xr _ _ _ fW
 obtain ⟨y,h1,h2⟩:=PO hT hs m.path.toList t (.val v) (.val u) (xt,x) hv hf
 split at hm
 .rename_i f' ptr lf
  simp only [ct,cQ] at hm
  obtain ⟨r1,hr,rfl,rfl⟩:=hm
  obtain ⟨r',h3,h4⟩:=zj7 hT hs h2 hr (if m.path.isEmpty then some ((name.splitOn ".").getLastD name) else none)
  refine ⟨r',?_,h4⟩
  have hti:(typeInfo t).run P w=.ok i w:=by simp [typeInfo,hi]
  simp only [method,Sem.run_bind,hti,Result.andThen_ok,Kj,h1,lf,h3,Sem.run_pure]
 .cases hm

theorem ztW (hT:T.Fits P) {ty:TypeId} (cS:VR ρ x y) (hc:DL T t x=some v) (ts:List TypeId) (w:World):∃ u,(Builtin.cap_ (t::ts).toArray ty #[y]).run P w=.ok u w/\VR ρ v u:=by
 unfold DL at hc
 split at hc
 .rename_i e a n c hd
  split at hc
  .rename_i aT
   cases hc
   have key:∃ a' n',y=.slice a' n' c:=by
    cases cS with
    |dI=>exact ⟨_,_,rfl⟩
    |slice=>exact ⟨_,_,rfl⟩
    |da h1 h2=>omega
   obtain ⟨a',n',rfl⟩:=key
   exact ⟨_,by simp [Builtin.cap_,run_underlying (hT.desc _ _ hd),goInt],.int _ _⟩
  .cases hc
 .cases hc

theorem zlm:∀ (l m:List ai) (bs:List UInt8),cL ρ l m->NT l=some bs->∃ ns:List Int,m=ns.map (Value.int .u8)/\bs=ns.map λn=>UInt8.ofNat n.toNat
 | [],m,bs,hv,hb=>by
  rw [hv.of_nil]
  cases hb
  exact ⟨[],rfl,rfl⟩
 |x::l,m,bs,hv,hb=>by
  obtain ⟨y,m',rfl,h1,h2⟩:=hv.of_cons
  cases x with
  |int k n =>
   cases k <;> simp only [NT] at hb <;> try cases hb
   simp only [ct] at hb
   obtain ⟨bs',lU,rfl⟩:=hb
   cases h1
   obtain ⟨ns,rfl,rfl⟩:=zlm l m' bs' h2 lU
   exact ⟨n::ns,rfl,rfl⟩
  |_=>simp [NT] at hb

theorem zkQ (hT:T.Fits P) (hs:bT ρ h w) {d:TypeId} (cS:VR ρ x y) (hb:Qj T s d x h=some v):∃ u,(convert s d y).run P w=.ok u w/\VR ρ v u:=by
 unfold Qj at hb
 split at hb
 .rename_i e a n c tZ Ut
  split at hb
  .rename_i hed
   simp only [cG,ct] at hb
   obtain ⟨l,hl,bs,tI,rfl⟩:=hb
   obtain ⟨a',c',m,rfl,hv,hlen,eg⟩:=Xq (P:=P) hs cS hl
   obtain ⟨ns,rfl,rfl⟩:=zlm l m bs hv tI
   refine ⟨_,?_,.string _⟩
   rw [run_convert_bytes_string w s d e a' n c' (hT.desc _ _ tZ) (hT.desc _ _ hed) (hT.desc _ _ Ut)]
   cases a' with
   |none =>
    have hn:n=0:=by cases cS;rfl
    subst hn
    have:ns=[]:=by simpa using hlen
    subst this
    rfl
   |some ad =>
    have h1:=eg w rfl n (aR _)
    have h2:(loadCells ad n).run P w=.ok (ns.map (Value.int .u8)).toArray w:=by
     have h3:(Builtin.firstCells 1 n (.slice (some ad) n c'))=loadCells ad (n*1):=rfl
     rw [h3,Nat.mul_one] at h1
     rw [h1]
     congr 2
     exact gb (by rw [hlen,Nat.mul_one];exact aR _)
    rw [run_bytesToString w ad n c' ns h2,foldl_push_bytes]
    simp
  .cases hb
 .cases hb

theorem zk8 (hT:T.Fits P) (hs:bT ρ h w) (cj:fA ρ h h') {d:TypeId} (lF:Qr T s=true) (hx:VR ρ x y) (hl:HH T d x h=some (v,h')) :
 ∃ ρ' u w',(convert s d y).run P w=.ok u w'/\Fr ρ ρ' h h' w w'/\bT ρ' h' w'/\VR ρ' v u:=by
 have sP:P.underlying s=some .string:=by
  unfold Qr at lF
  split at lF
  .rename_i hd;exact hT.desc _ _ hd
  .cases lF
 unfold HH at hl
 split at hl
 .rename_i e b hd
  split at hl
  .rename_i tx z he hi
   split at hl
   .cases hl
   .rename_i K2
    have dS:¬ b.size > 1152921504606846976:=λg=>K2 (.inl g)
    have hbt:e=zCB:=Decidable.byContradiction λg=>K2 (.inr g)
    cases hl
    cases hx
    have eg:=Lib.run_convert_string_bytes w s d e b sP (hT.desc _ _ hd) (hT.desc _ _ he)
    have tN:=grownCap_ge w b.size 0 e
    have hle:=grownCap_le_maxLen w b.size 0 e (by unfold maxLen;omega)
    have rH:(Lib.bytesCells w e b).size=grownCap w b.size 0 e:=by
     have tI:b.data.size=b.size:=rfl
     simp only [Lib.bytesCells,Array.size_append,Array.size_map,Array.size_replicate,tI]
     omega
    have hW:(Lib.bytesWorld w e b).heap=w.heap.push (.cells (Lib.bytesCells w e b) e ((Lib.bytesCells w e b).size,(Lib.bytesCells w e b).size+1)):=by
     apply Array.ext_getElem?
     intro j
     rw [xY]
     by_cases hj:j=w.heap.size
     .rw [aD hj,hj,Lib.bytesWorld_at_new]
     .rw [az hj]
      by_cases Ek:j < w.heap.size
      .exact Lib.bytesWorld_at_old w e b j Ek
      .rw [Array.getElem?_eq_none (by rw [Lib.bytesWorld_size];omega),Array.getElem?_eq_none (by omega)]
    have nc:=CX (k:=1) (q:=b.size) (by omega) (by unfold G;omega)
    obtain ⟨ρ',hρ,dL,eC⟩:=zj4 (W:=Lib.bytesWorld w e b) (cs:=b.data.toList.map λu=>Value.int .u8 u.toNat) (m:=b.data.toList.map λu=>Value.int .u8 u.toNat) hs (cj _ (aR _) (by rw [Heap.size_push];omega))
     (fz:=((Lib.bytesCells w e b).size,(Lib.bytesCells w e b).size+1)) ⟨by intro j hj hh;have:=hh.1;simp at this;omega,.inl hbt⟩ hW
     (by simp [Lib.bytesWorld,World.freeze,World.alloc,World.drew,-World.alloc_eq,-World.drew_eq]) (by simp [Lib.bytesWorld,World.freeze,World.alloc,World.drew,-World.alloc_eq,-World.drew_eq]) (by simp [Lib.bytesWorld,World.freeze,World.alloc,World.drew,-World.alloc_eq,-World.drew_eq])
     (by refine uC ?_ (by simp) λj hj=>?_
         .simp [Lib.bytesCells]
         .simp only [gw,vu] at hj
          rw [iA]
          simp only [Lib.bytesCells,Array.toList_append,Array.toList_map]
          rw [jz (by simpa using hj)])
     (by refine ⟨rfl,λj a c ha hc=>?_⟩
         rw [ha] at hc
         cases hc
         rw [lP,ct] at ha
         obtain ⟨q,_,rfl⟩:=ha
         exact .int .u8 _)
    refine ⟨ρ',_,_,eg,dL,eC,?_⟩
    refine .da hρ nc.1 (by rw [nc.2.1];exact tN) (by rw [nc.2.1];exact aR _) (by rw [nc.2.2];omega) hle (λ_=>⟨by simp,?_⟩)
    rw [nc.2.2]
    show 0+0+grownCap w b.size 0 e*1<=(Lib.bytesCells w e b).size
    rw [rH]
    omega
  .cases hl
 .cases hl
end
end Go.Am
namespace Go.Am
open Go.RowKit
variable {e:Env} {v:ai}

section
variable {P:Program} {T:bJ} {ρ:cI} {h h':Heap} {w:World}

theorem cn.put {e:Env} {a:Act} (he:cn ρ e a.tmps) {v u:ai} (hv:VR ρ v u) (d:Option Tmp):cn ρ (Am.put e d v) (a.put d u).tmps:=by
 cases d with
 |none=>exact he
 |some d =>
  refine ⟨by simp [Am.put,Act.put,Env.length_set,he.1],λi=>?_⟩
  simp only [Am.put,Act.put,Env.aG]
  by_cases hi:i=d/\d < e.length
  .rw [aD hi]
   obtain ⟨rfl,aT⟩:=hi
   have:(a.tmps.setIfInBounds i u).getD i undef=u:=by
    have UZ:i < a.tmps.size:=by rw [<- he.1];exact aT
    simp [UZ]
   rw [this]
   exact hv
  .rw [az hi]
   have:(a.tmps.setIfInBounds d u).getD i undef=a.tmps.getD i undef:=by
    by_cases hid:d=i
    .subst hid
     have:¬ d < a.tmps.size:=by rw [<- he.1];exact λaT=>hi ⟨rfl,aT⟩
     simp [this]
    .simp [HP hid]
   rw [this]
   exact he.2 i

theorem cn.operand {a:Act} (he:cn ρ e a.tmps) {x:Operand} (hx:su ρ x):VR ρ (bz e x) (a.eval x):=by
 cases x with
 |tmp t=>exact he.2 t
 |const v=>exact .dm ρ hx
 |global g =>
  obtain ⟨t,ht⟩:=hx
  exact .ptr (o:=0) ht
 |func f=>exact .func _ rfl rfl (by intro i x y hx;simp at hx) (by intro i x y hx;simp at hx)

theorem cn.operands {a:Act} (he:cn ρ e a.tmps) (xs:List Operand) (hx:∀ x∈xs,su ρ x):cL ρ (xs.map (bz e)) (xs.map a.eval):=by
 induction xs with
 |nil=>exact .nil ρ
 |cons x xs ih =>
  exact .cons (he.operand (hx x (by simp))) (ih λy hy=>hx y (by simp [hy]))

theorem cn.opt {a:Act} (he:cn ρ e a.tmps) {x:Option Operand} (hx:∀ y,x=some y->su ρ y):rp ρ (x.map (bz e)) (x.map a.eval):=by
 cases x with
 |none=>trivial
 |some y=>exact he.operand (hx y rfl)

def WW (P:Program) (ρ:cI) (h h':Heap) (w:World) (v:ai) (f:FuncId) (aL:Array ai):Prop :=
 (∃ ρ' u w',(callFunc f aL).run P w=.ok (.value u) w'/\Fr ρ ρ' h h' w w'/\bT ρ' h' w'/\VR ρ' v u) \/
 ((callFunc f aL).run P w=.ok (.enter f aL) w/\Calls P f aL w λed w'=>∃ ρ' u,ed=.returned u/\Fr ρ ρ' h h' w w'/\bT ρ' h' w'/\VR ρ' v u)

def zCl (P:Program) (ρ:cI) (h h':Heap) (w:World) (v:ai) (l:Nat) (aL:Array ai):Prop :=
 ∃ f tmps assign body,(Instr.yield l aL).run P w=.ok (.round l f tmps assign body) w/\RoundIn Fence.wide 0 P l f tmps assign body w λed w'=>∃ ρ' u,ed=.returned u/\Fr ρ ρ' h h' w w'/\bT ρ' h' w'/\VR ρ' v u

structure CS (P:Program) (gs:List Nat) (C:Fn->List ai->Heap->Option (ai × Heap)):Prop where
 fn:∀ f args h v h',C (.func f) args h=some (v,h')->∀ ρ w (aL:Array ai),cY gs ρ->bT ρ h w->fA ρ h h'->cL ρ args aL.toList->WW P ρ h h' w v f aL
 yield:∀ A args h v h',C (.yield A) args h=some (v,h')->∀ ρ w (aL:Array ai) L,ρ A=some L->cY gs ρ->bT ρ h w->fA ρ h h'->cL ρ args aL.toList->zCl P ρ h h' w v L.b aL

def Gx (P:Program) (ρ:cI) (h h':Heap) (w:World) (v:ai) (r:Result Next):Prop :=
 (∃ ρ' u w',(r=.ok (.value u) w'\/(r=.ok .skip w'/\u=undef))/\Fr ρ ρ' h h' w w'/\bT ρ' h' w'/\VR ρ' v u) \/
 (∃ f aL,r=.ok (.enter f aL) w/\Calls P f aL w λed w'=>∃ ρ' u,ed=.returned u/\Fr ρ ρ' h h' w w'/\bT ρ' h' w'/\VR ρ' v u) \/
 (∃ l f tmps assign body,r=.ok (.round l f tmps assign body) w/\RoundIn Fence.wide 0 P l f tmps assign body w λed w'=>∃ ρ' u,ed=.returned u/\Fr ρ ρ' h h' w w'/\bT ρ' h' w'/\VR ρ' v u)

theorem World.bO (w:World) (o:Obj):(w.alloc o).heap=w.heap.push o:=rfl

theorem Gx.still (hs:bT ρ h w) {u:ai} {r:Result Next} (hr:r=.ok (.value u) w) (hv:VR ρ v u):Gx P ρ h h w v r :=
 .inl ⟨ρ,u,w,.inl hr,Fr.refl _ _ _,hs,hv⟩

theorem Mz {a:Act} {o:Oper} (hs:bT ρ h w) (he:cn ρ e a.tmps) (cV:kG ρ o) (hp:gP P e o h=some (v,h')) (D9:(∀ x∈o.op.operands,a.eval x=bz e x)->execOp a.eval o=execOp (bz e) o) :
 Gx P ρ h h' w v ((execOp a.eval o).run P w):=by
 unfold gP at hp
 split at hp
 .rename_i aB
  have heq:∀ x∈o.op.operands,a.eval x=bz e x:=by
   intro x hx
   have h1:=iM.1 aB x (by simpa using hx)
   exact (he.operand (cV x (by simpa using hx))).bK h1
  rw [D9 heq]
  split at hp
  .rename_i v' hr
   split at hp
   .rename_i Az
    cases hp
    exact .still hs (MD P _ _ hr w) (.dm ρ Az)
   .cases hp
  .cases hp
 .cases hp

theorem zlK {v:ai} (hs:bT ρ h w) (gK:ρ h.size=none) {t:TypeId} {cs:List ai} (u:ai) (hv:cL ρ cs u.cells.toList) :
 ∃ ρ',(newVar t u).run P w=.ok ⟨w.heap.size,0,none⟩ (w.alloc (.cells u.cells t))/\Fr ρ ρ' h (newRow t cs h).2 w (w.alloc (.cells u.cells t))/\bT ρ' (newRow t cs h).2 (w.alloc (.cells u.cells t)) /\
   VR ρ' (newRow t cs h).1 (.pointer (some ⟨w.heap.size,0,none⟩)):=by
 have _:=v
 obtain ⟨ρ',hρ,dL,eC⟩:=Hp (W:=w.alloc (.cells u.cells t)) (cs:=cs) (m:=u.cells.toList) hs gK rfl rfl rfl rfl (by rw [hv.1];exact uC (by omega) rfl (λj _=>by rw [iA])) hv
 refine ⟨ρ',by simp [newVar,Go.newRow],dL,eC,?_⟩
 have:=VR.ptr (ρ:=ρ') (o:=0) hρ
 simpa [newRow] using this

theorem ze7 (ps:Array (Nat × Operand)) (f:Operand->ai):(ps.map λ(i,x)=>(i,f x))=(ps.toList.map λ(i,x)=>(i,f x)).toArray:=by
 apply Array.ext'
 simp

theorem zpp {a:Act} (he:cn ρ e a.tmps) (ps:List (Nat × Operand)) (cV:∀ x∈ps.map (·.2),su ρ x) :
 (ps.map λ(i,x)=>(i,bz e x)).length=(ps.map λ(i,x)=>(i,a.eval x)).length /\
 ∀ (i:Nat) (x y:Nat × ai),(ps.map λ(i,x)=>(i,bz e x))[i]? = some x->(ps.map λ(i,x)=>(i,a.eval x))[i]? = some y->x.1=y.1/\VR ρ x.2 y.2:=by
 refine ⟨by simp,λi x y hx hy=>?_⟩
 rw [lP,ct] at hx hy
 obtain ⟨⟨j,o⟩,h1,rfl⟩:=hx
 obtain ⟨⟨j',o'⟩,h2,rfl⟩:=hy
 rw [h1] at h2
 cases h2
 exact ⟨rfl,he.operand (cV o (pC.2 ⟨(j,o),en h1,rfl⟩))⟩

theorem Fx (hT:T.Fits P) {C:Fn->List ai->Heap->Option (ai × Heap)} {gs:List Nat} (hC:CS P gs C) (hG:cY gs ρ) {a:Act} {o:Oper} (hs:bT ρ h w) (he:cn ρ e a.tmps) (cV:kG ρ o) (cj:fA ρ h h') 
 (aj:gD P T C e o h=some (v,h')):Gx P ρ h h' w v ((execOp a.eval o).run P w):=by
 have aB:∀ x∈o.op.operands.toList,su ρ x:=cV
 unfold gD at aj
 dsimp only at aj
 split at aj
 .rename_i x aQ
  cases aj
  refine .still (u:=a.eval x) hs (by simp [execOp,aQ]) (he.operand (aB _ (by simp [aQ,Op.operands])))
 .rename_i x aQ
  cases aj
  refine .still (u:=a.eval x) hs (by simp [execOp,aQ]) (he.operand (aB _ (by simp [aQ,Op.operands])))
 .rename_i c x y aQ
  have hc:=he.operand (aB c (by simp [aQ,Op.operands]))
  have hx:=he.operand (aB x (by simp [aQ,Op.operands]))
  have hy:=he.operand (aB y (by simp [aQ,Op.operands]))
  split at aj
  .rename_i t ht
   cases aj
   rw [ht] at hc
   have ec:a.eval c=.bool t:=hc.bK rfl
   refine .still (u:=if t then a.eval x else a.eval y) hs (by simp [execOp,aQ,ec,asBool]) ?_
   cases t
   .exact hy
   .exact hx
  .cases aj
 .rename_i t aQ
  simp only [ct,Prod.exists] at aj
  obtain ⟨k,tx,z,iC,aj⟩:=aj
  obtain ⟨i,zv,hi,rfl,rfl,hz,rfl,yD,pM⟩:=hT.info t k tx z iC
  have e1:v=(newRow t zv.cells.toList h).1:=(congrArg Prod.fst aj).symm
  have e2:h'=(newRow t zv.cells.toList h).2:=(congrArg Prod.snd aj).symm
  subst e1 e2
  obtain ⟨ρ',h1,h2,h3,h4⟩:=zlK (P:=P) (v:=undef) hs (cj _ (aR _) (ri _)) (t:=t) zv (cL.plain ρ pM)
  refine .inl ⟨ρ',_,_,.inl ?_,h2,h3,h4⟩
  simp [execOp,aQ,Instr.alloc,zeroValue,typeInfo,hi,hz,h1]
 .rename_i t x aQ
  have hx:=he.operand (aB x (by simp [aQ,Op.operands]))
  simp only [eh] at aj
  have e1:v=(newRow t (bz e x).cells.toList h).1:=(congrArg Prod.fst aj).symm
  have e2:h'=(newRow t (bz e x).cells.toList h).2:=(congrArg Prod.snd aj).symm
  subst e1 e2
  obtain ⟨ρ',h1,h2,h3,h4⟩:=zlK (P:=P) (v:=undef) hs (cj _ (aR _) (ri _)) (t:=t) (a.eval x) hx.cells
  refine .inl ⟨ρ',_,_,.inl ?_,h2,h3,h4⟩
  simp [execOp,aQ,Instr.box,h1]
 .rename_i t ps aQ
  simp only [ct,cQ] at aj
  obtain ⟨r,hr,rfl,rfl⟩:=aj
  obtain ⟨p1,p2⟩:=zpp he ps.toList (λx hx=>aB x (by simpa [aQ,Op.operands] using hx))
  obtain ⟨vc,h1,h2⟩:=zoh (ρ:=ρ) hT p1 p2 hr w
  refine .still hs ?_ h2
  simp only [execOp,aQ,ze7,Sem.run_bind,h1,Result.andThen_ok,Sem.run_pure]
 .rename_i t n ps aQ
  obtain ⟨p1,p2⟩:=zpp he ps.toList (λx hx=>aB x (by simpa [aQ,Op.operands] using hx))
  obtain ⟨ρ',vc,w',h1,h2,h3,h4⟩:=zhz (ρ:=ρ) hT hs cj p1 p2 aj
  refine .inl ⟨ρ',vc,w',.inl ?_,h2,h3,h4⟩
  simp only [execOp,aQ,ze7,Sem.run_bind,h1,Result.andThen_ok,Sem.run_pure]
 .rename_i t x aQ
  have hx:=he.operand (aB x (by simp [aQ,Op.operands]))
  simp only [ct,cQ] at aj
  obtain ⟨r,hr,rfl,rfl⟩:=aj
  obtain ⟨u,h1,h2⟩:=XF hT hs hx hr
  exact .still hs (by simp [execOp,aQ,h1]) h2
 .rename_i t x y aQ
  have hx:=he.operand (aB x (by simp [aQ,Op.operands]))
  have hy:=he.operand (aB y (by simp [aQ,Op.operands]))
  simp only [ct,cQ] at aj
  obtain ⟨h1,hr,rfl,rfl⟩:=aj
  unfold i7 at hr
  split at hr
  .rename_i A off AB
   rw [AB] at hx
   simp only [cG] at hr
   obtain ⟨n,hn,hr⟩:=hr
   split at hr
   .rename_i dS
    generalize tH:a.eval x=ax at hx
    cases hx with
    |ptr hA =>
     rename_i L
     obtain ⟨w',cZ,dL,eC⟩:=MM (P:=P) hs hA hy.cells hr
     have rH:(a.eval y).cells.size=n:=by have:=hy.cells.1;simp at this;omega
     refine .inl ⟨ρ,undef,w',.inr ⟨?_,rfl⟩,dL,eC,.undef ρ⟩
     simp [execOp,aQ,tH,Instr.storeAt,Instr.sureAddr,storeVar,uw hT hn,rH,cZ]
   .cases hr
  .cases hr
 .rename_i x aQ
  have hx:=he.operand (aB x (by simp [aQ,Op.operands]))
  split at aj
  .rename_i ad AB
   cases aj
   rw [AB] at hx
   generalize tH:a.eval x=ax at hx
   cases hx with
   |ptr hA=>exact .still hs (by simp [execOp,aQ,tH]) (.ptr hA)
  .rename_i f fi ca AB
   cases aj
   rw [AB] at hx
   generalize tH:a.eval x=ax at hx
   cases hx with
   |func _ hf hc h1 h2=>exact .still hs (by simp [execOp,aQ,tH]) (.func _ hf hc h1 h2)
  .rename_i t z AB
   cases aj
   rw [AB] at hx
   generalize tH:a.eval x=ax at hx
   cases hx with
   |iface _ h1=>exact .still hs (by simp [execOp,aQ,tH]) (.iface t h1)
  .cases aj
 .rename_i op t x y yt aQ
  have hx:=he.operand (aB x (by simp [aQ,Op.operands]))
  have hy:=he.operand (aB y (by simp [aQ,Op.operands]))
  simp only [ct,cQ] at aj
  obtain ⟨r,hr,rfl,rfl⟩:=aj
  obtain ⟨vc,h1,h2⟩:=ztJ hT hx hy hr x y w
  refine .still hs ?_ h2
  simp only [execOp,aQ]
  rw [Sem.run_bind,h1]
  rfl
 .rename_i fn first captured aQ
  split at aj
  .rename_i f
   cases aj
   have h1:=he.operands first.toList (λx hx=>aB x (by simp [aQ,Op.operands];left;simpa using hx))
   have h2:=he.operands captured.toList (λx hx=>aB x (by simp [aQ,Op.operands];right;simpa using hx))
   refine .still (u:=.func (.func f) (first.map a.eval) (captured.map a.eval)) hs ?_ ?_
   .simp [execOp,aQ,Instr.makeFunc]
   .refine .func _ (by simp) (by simp) (λi x y hx hy=>h1.2 i x y ?_ ?_) (λi x y hx hy=>h2.2 i x y ?_ ?_)
    all_goals simp at hx hy ⊢;assumption
  .cases aj
 .rename_i t l c aQ
  have hl:=he.operand (aB l (by simp [aQ,Op.operands]))
  have hc:=he.operand (aB c (by simp [aQ,Op.operands]))
  obtain ⟨ρ',vc,w',h1,h2,h3,h4⟩:=ziB hT hs cj hl hc aj
  refine .inl ⟨ρ',vc,w',.inl ?_,h2,h3,h4⟩
  simp [execOp,aQ,h1]
 .rename_i t x l hi m aQ
  have hx:=he.operand (aB x (by simp [aQ,Op.operands]))
  have hl:=he.opt (x:=l) (λy hy=>aB y (by subst hy;simp [aQ,Op.operands]))
  have o0:=he.opt (x:=hi) (λy hy=>aB y (by subst hy;simp [aQ,Op.operands]))
  have hm:=he.opt (x:=m) (λy hy=>aB y (by subst hy;simp [aQ,Op.operands]))
  simp only [ct,cQ] at aj
  obtain ⟨r,hr,rfl,rfl⟩:=aj
  obtain ⟨vc,h1,h2⟩:=zpA hT hx hl o0 hm hr w
  exact .still hs (by simp [execOp,aQ,h1]) h2
 .rename_i s x f aQ
  have hx:=he.operand (aB x (by simp [aQ,Op.operands]))
  simp only [ct,cQ] at aj
  obtain ⟨r,hr,rfl,rfl⟩:=aj
  obtain ⟨vc,h1,h2⟩:=ziz hT hx hr w
  exact .still hs (by simp [execOp,aQ,h1]) h2
 .rename_i t x f aQ
  have hx:=he.operand (aB x (by simp [aQ,Op.operands]))
  simp only [ct,cQ] at aj
  obtain ⟨r,hr,rfl,rfl⟩:=aj
  obtain ⟨vc,h1,h2⟩:=zoJ hT hx hr w
  exact .still hs (by simp [execOp,aQ,h1]) h2
 .rename_i t x i aQ
  have hx:=he.operand (aB x (by simp [aQ,Op.operands]))
  have hi:=he.operand (aB i (by simp [aQ,Op.operands]))
  simp only [ct,cQ] at aj
  obtain ⟨r,hr,rfl,rfl⟩:=aj
  obtain ⟨vc,h1,h2⟩:=ziA hT hx hi hr w
  exact .still hs (by simp [execOp,aQ,h1]) h2
 .rename_i t i aQ
  have ht:=he.operand (aB t (by simp [aQ,Op.operands]))
  split at aj
  .rename_i vs hte
   rw [hte] at ht
   simp only [ct,cQ] at aj
   obtain ⟨r,hr,rfl,rfl⟩:=aj
   generalize mr:a.eval t=at_ at ht
   cases ht with
   |tuple hc hh =>
    rename_i ds
    have aT:i < vs.size:=(mU.1 hr).1
    have hd:ds[i]? = some (ds[i]'(by omega)):=HQ _
    exact .still hs (by simp [execOp,aQ,mr,Instr.extract,hd]) (hh i _ _ hr hd)
  .cases aj
 .rename_i op t x aQ
  refine Mz hs he cV aj (λheq=>?_)
  have:=heq x (by simp [aQ,Op.operands])
  simp [execOp,aQ,this]
 .rename_i s t x aQ
  split at aj
  .have hx:=he.operand (aB x (by simp [aQ,Op.operands]))
   simp only [ct,cQ] at aj
   obtain ⟨r,hr,rfl,rfl⟩:=aj
   obtain ⟨u,h1,h2⟩:=zkQ hT hs hx hr
   exact .still hs (by simp [execOp,aQ,h1]) h2
  .split at aj
   .split at aj
    .rename_i Vx
     have hx:=he.operand (aB x (by simp [aQ,Op.operands]))
     obtain ⟨ρ',u,w',r1,r2,r3,r4⟩:=zk8 hT hs cj Vx hx aj
     exact .inl ⟨ρ',u,w',.inl (by simp [execOp,aQ,r1]),r2,r3,r4⟩
    .cases aj
   .refine Mz hs he cV aj (λheq=>?_)
    have:=heq x (by simp [aQ,Op.operands])
    simp [execOp,aQ,this]
 .rename_i t x i aQ
  refine Mz hs he cV aj (λheq=>?_)
  have h1:=heq x (by simp [aQ,Op.operands])
  have h2:=heq i (by simp [aQ,Op.operands])
  simp [execOp,aQ,h1,h2]
 .rename_i c aQ
  obtain ⟨callee,args,argTypes⟩:=c
  have eb:∀ x∈args.toList,su ρ x:=λx hx=>aB x (by simp [aQ,Op.operands,Call.operands];right;simpa using hx)
  dsimp only at aj
  split at aj
  .split at aj
   .rename_i t u s x ue oB
    have e1:argTypes=#[t,u]:=by apply Array.ext';simpa using ue
    have e2:args=#[s,x]:=by apply Array.ext';simpa using oB
    subst e1 e2
    have h1:=he.operand (eb s (by simp))
    have h2:=he.operand (eb x (by simp))
    split at aj
    .rename_i hu
     have KZ:N6 P u:=by
      unfold td at hu
      simp only [sg,beq_iff_eq] at hu
      rcases hu with rfl|hu
      .have h4:=aj
       unfold jT at h4
       split at h4
       .rename_i e' hd;exact .inl ⟨_,hT.desc _ _ hd⟩
       .cases h4
      .split at hu
       .rename_i hd;exact .inr (hT.desc _ _ hd)
       .rename_i e' hd;exact .inl ⟨_,hT.desc _ _ hd⟩
       .cases hu
     obtain ⟨ρ',vc,w',r1,r2,r3,r4⟩:=zmf (ty:=o.type) hT hs cj KZ h1 h2 aj
     refine .inl ⟨ρ',vc,w',.inl ?_,r2,r3,r4⟩
     simp [execOp,aQ,resolve,invoke,builtin,r1]
    .cases aj
   .cases aj
  .split at aj
   .rename_i t u d s ue oB
    have e1:argTypes=#[t,u]:=by apply Array.ext';simpa using ue
    have e2:args=#[d,s]:=by apply Array.ext';simpa using oB
    subst e1 e2
    have h1:=he.operand (eb d (by simp))
    have h2:=he.operand (eb s (by simp))
    obtain ⟨vc,w',r1,r2,r3,r4⟩:=zqC (u:=u) (ty:=o.type) hT hs h1 h2 aj
    refine .inl ⟨ρ,vc,w',.inl ?_,r2,r3,r4⟩
    simp [execOp,aQ,resolve,invoke,builtin,r1]
   .cases aj
  .split at aj
   .rename_i t x ue oB
    have e1:argTypes=#[t]:=by apply Array.ext';simpa using ue
    have e2:args=#[x]:=by apply Array.ext';simpa using oB
    subst e1 e2
    have h1:=he.operand (eb x (by simp))
    simp only [ct,cQ] at aj
    obtain ⟨h2,hr,rfl,rfl⟩:=aj
    obtain ⟨w',r1,r2,r3⟩:=zoo (ty:=o.type) hT hs h1 hr
    refine .inl ⟨ρ,undef,w',.inl ?_,r2,r3,.undef ρ⟩
    simp [execOp,aQ,resolve,invoke,builtin,r1]
   .cases aj
  .split at aj
   .rename_i t ts x ue oB
    have e2:args=#[x]:=by apply Array.ext';simpa using oB
    have e1:argTypes=(t::ts).toArray:=by apply Array.ext';simpa using ue
    subst e1 e2
    have h1:=he.operand (eb x (by simp))
    simp only [ct,cQ] at aj
    obtain ⟨r,hr,rfl,rfl⟩:=aj
    obtain ⟨vc,r1,r2⟩:=zum (ty:=o.type) hT hs h1 hr ts
    refine .still hs ?_ r2
    simp [execOp,aQ,resolve,invoke,builtin,r1]
   .cases aj
  .refine Mz hs he cV aj (λheq=>?_)
   have hm:args.map a.eval=args.map (bz e):=by
    apply Array.map_congr_left
    intro x hx
    exact heq x (by simp [aQ,Op.operands,Call.operands];exact hx)
   simp [execOp,aQ,resolve,hm]
  .refine Mz hs he cV aj (λheq=>?_)
   have hm:args.map a.eval=args.map (bz e):=by
    apply Array.map_congr_left
    intro x hx
    exact heq x (by simp [aQ,Op.operands,Call.operands];exact hx)
   simp [execOp,aQ,resolve,hm]
  .split at aj
   .rename_i t ts m k ue oB
    have e2:args=#[m,k]:=by apply Array.ext';simpa using oB
    have e1:argTypes=(t::ts).toArray:=by apply Array.ext';simpa using ue
    subst e1 e2
    have h1:=he.operand (eb m (by simp))
    have h2:=he.operand (eb k (by simp))
    simp only [ct,cQ] at aj
    obtain ⟨h3,hr,rfl,rfl⟩:=aj
    obtain ⟨w',r1,r2,r3⟩:=zmB (ty:=o.type) (ts:=ts) hT hs h1 h2 hr
    refine .inl ⟨ρ,undef,w',.inl ?_,r2,r3,.undef ρ⟩
    simp [execOp,aQ,resolve,invoke,builtin,r1,undef]
   .cases aj
  .split at aj
   .rename_i t ts x ue oB
    have e2:args=#[x]:=by apply Array.ext';simpa using oB
    have e1:argTypes=(t::ts).toArray:=by apply Array.ext';simpa using ue
    subst e1 e2
    have h1:=he.operand (eb x (by simp))
    simp only [ct,cQ] at aj
    obtain ⟨r,hr,rfl,rfl⟩:=aj
    obtain ⟨vc,r1,r2⟩:=ztW (ty:=o.type) hT h1 hr ts w
    refine .still hs ?_ r2
    simp [execOp,aQ,resolve,invoke,builtin,r1]
   .cases aj
  .rename_i rv name
   have KQ:=he.operand (aB rv (by simp [aQ,Op.operands,Call.operands]))
   split at aj
   .rename_i t x Vn
    rw [Vn] at KQ
    generalize B8:a.eval rv=ar at KQ
    simp only [cG,Prod.exists] at aj
    obtain ⟨f,y,hm,aj⟩:=aj
    cases KQ with
    |iface _ hx =>
     rename_i x'
     obtain ⟨y',r1,r2⟩:=zmQ hT hs hx hm (P.types.size+Made.depth - 1)
     have hd:P.types.size+Made.depth - 1+1=P.types.size+Made.depth:=by simp [Made.depth]
     rw [hd] at r1
     have cX:=he.operands args.toList eb
     have wy:(execOp a.eval o).run P w=(callFunc f (#[y']++args.map a.eval)).run P w:=by
      have h0:(#[Value.iface t x']++Array.map a.eval args)[0]? = some (.iface t x'):=by rw [Array.getElem?_append_left (by simp)];rfl
      have KI:(program:Sem Program).run P w=.ok P w:=rfl
      have hex:(#[Value.iface t x']++Array.map a.eval args).extract 1 (#[Value.iface t x']++Array.map a.eval args).size=Array.map a.eval args:=by
       rw [Array.extract_append]
       simp
      simp only [execOp,aQ,resolve,Sem.run_bind,Sem.run_pure,Result.andThen_ok,invoke,B8,h0,callMethod,KI,r1,hex]
     have nU:=hC.fn f _ h v h' aj ρ w (#[y']++args.map a.eval) hG hs cj (by
      have:=cL.cons r2 cX
      simpa using this)
     rw [wy]
     rcases nU with ⟨ρ',u,w',q1,q2,q3,q4⟩|⟨q1,q2⟩
     .exact .inl ⟨ρ',u,w',.inl q1,q2,q3,q4⟩
     .exact .inr (.inl ⟨f,_,q1,q2⟩)
   .cases aj
  .rename_i f
   have hf:=he.operand (aB f (by simp [aQ,Op.operands,Call.operands]))
   split at aj
   .rename_i g first captured Kh
    rw [Kh] at hf
    generalize Ub:a.eval f=af at hf
    cases hf with
    |func _ h1 h2 h3 h4 =>
     rename_i gm dn
     have yA:cL ρ first.toList gm.toList:=⟨by simpa using h1,λi x y hx hy=>h3 i x y (by simpa using hx) (by simpa using hy)⟩
     have lX:cL ρ captured.toList dn.toList:=⟨by simpa using h2,λi x y hx hy=>h4 i x y (by simpa using hx) (by simpa using hy)⟩
     have cX:=he.operands args.toList eb
     have nU:=hC.fn g _ h v h' aj ρ w ((gm++args.map a.eval)++dn) hG hs cj (by
      have:=(yA.append cX).append lX
      simpa using this)
     have wy:(execOp a.eval o).run P w=(callFunc g ((gm++args.map a.eval)++dn)).run P w:=by
      simp [execOp,aQ,resolve,Ub,Deferred.ofValue,invoke]
     rw [wy]
     rcases nU with ⟨ρ',u,w',r1,r2,r3,r4⟩|⟨r1,r2⟩
     .exact .inl ⟨ρ',u,w',.inl r1,r2,r3,r4⟩
     .exact .inr (.inl ⟨g,_,r1,r2⟩)
   .rename_i A first captured Kh
    rw [Kh] at hf
    generalize Ub:a.eval f=af at hf
    split at aj
    .cases hf with
     |yield hA =>
      rename_i L _
      have cX:=he.operands args.toList eb
      obtain ⟨g,tmps,assign,body,r1,r2⟩:=hC.yield A _ h v h' aj ρ w (args.map a.eval) L hA hG hs cj (by simpa using cX)
      refine .inr (.inr ⟨L.b,g,tmps,assign,body,?_,r2⟩)
      rw [<- r1]
      simp [execOp,aQ,resolve,Ub,Deferred.ofValue,invoke]
    .cases aj
   .cases aj
  .cases aj
 .rename_i t r aQ
  have mD:∃ ρ',Fr ρ ρ' h (h.push (.map [] 0)) w (w.alloc (.map #[] 0))/\bT ρ' (h.push (.map [] 0)) (w.alloc (.map #[] 0))/\VR ρ' (.map (some h.size)) (.map (some w.heap.size))\/¬ (ρ h.size=none):=by
   by_cases hn:ρ h.size=none
   .obtain ⟨ρ',h1,h2,h3⟩:=Xw (W:=w.alloc (.map #[] 0)) (L:=⟨w.heap.size,0,0⟩) (b:=.map [] 0) hs hn (λk hk=>by rw [Am.World.bO,xY,az (by omega)]) (by rw [Am.World.bO];simp) rfl rfl rfl (aR _)
     (λρ' _=>⟨#[],by rw [Am.World.bO];simp,rfl,by intro i x y hx;simp at hx⟩)
    exact ⟨ρ',.inl ⟨h2,h3,.map h1⟩⟩
   .exact ⟨ρ,.inr hn⟩
  split at aj
  .cases aj
   obtain ⟨ρ',⟨h2,h3,h4⟩|hn⟩:=mD
   .exact .inl ⟨ρ',_,_,.inl (by simp [execOp,aQ,Instr.makeMap]),h2,h3,h4⟩
   .exact (hn (cj _ (aR _) (ri _))).elim
  .rename_i x
   have hx:=he.operand (aB x (by simp [aQ,Op.operands]))
   split at aj
   .rename_i hd AB
    cases aj
    rw [AB] at hx
    generalize tH:a.eval x=ax at hx
    cases hx
    obtain ⟨ρ',⟨h2,h3,h4⟩|hn⟩:=mD
    .refine .inl ⟨ρ',_,_,.inl ?_,h2,h3,h4⟩
     simp [execOp,aQ,Instr.makeMap,tH,run_underlying (hT.desc _ _ hd),asInt,asIntOf]
    .exact (hn (cj _ (aR _) (ri _))).elim
   .cases aj
 .rename_i t x k ok aQ
  have hx:=he.operand (aB x (by simp [aQ,Op.operands]))
  have hk:=he.operand (aB k (by simp [aQ,Op.operands]))
  simp only [ct,cQ] at aj
  obtain ⟨r,hr,rfl,rfl⟩:=aj
  obtain ⟨u,h1,h2⟩:=zmN hT hs hx hk hr
  exact .still hs (by simp [execOp,aQ,h1]) h2
 .rename_i t m k x aQ
  have hm:=he.operand (aB m (by simp [aQ,Op.operands]))
  have hk:=he.operand (aB k (by simp [aQ,Op.operands]))
  have hx:=he.operand (aB x (by simp [aQ,Op.operands]))
  simp only [ct,cQ] at aj
  obtain ⟨h1,hr,rfl,rfl⟩:=aj
  obtain ⟨w',r1,r2,r3⟩:=zhq hT hs hm hk hx hr
  exact .inl ⟨ρ,undef,w',.inr ⟨by simp [execOp,aQ,r1],rfl⟩,r2,r3,.undef ρ⟩
 .rename_i t m k x aQ
  have hm:=he.operand (aB m (by simp [aQ,Op.operands]))
  have hk:=he.operand (aB k (by simp [aQ,Op.operands]))
  have hx:=he.operand (aB x (by simp [aQ,Op.operands]))
  simp only [ct,cQ] at aj
  obtain ⟨h1,hr,rfl,rfl⟩:=aj
  obtain ⟨w',r1,r2,r3⟩:=zhq hT hs hm hk hx hr
  exact .inl ⟨ρ,undef,w',.inr ⟨by simp [execOp,aQ,r1],rfl⟩,r2,r3,.undef ρ⟩
 .rename_i t m k aQ
  have hm:=he.operand (aB m (by simp [aQ,Op.operands]))
  have hk:=he.operand (aB k (by simp [aQ,Op.operands]))
  obtain ⟨u,w',r1,r2,r3,r4⟩:=zoG hT hs hm hk aj
  exact .inl ⟨ρ,u,w',.inl (by simp [execOp,aQ,r1]),r2,r3,r4⟩
 .rename_i t m k x aQ
  have hm:=he.operand (aB m (by simp [aQ,Op.operands]))
  have hk:=he.operand (aB k (by simp [aQ,Op.operands]))
  have hx:=he.operand (aB x (by simp [aQ,Op.operands]))
  simp only [ct,cQ] at aj
  obtain ⟨h1,hr,rfl,rfl⟩:=aj
  obtain ⟨w',r1,r2,r3⟩:=zhG (P:=P) (t:=t) hs hm hk hx hr
  exact .inl ⟨ρ,undef,w',.inr ⟨by simp [execOp,aQ,r1],rfl⟩,r2,r3,.undef ρ⟩
 .rename_i t x aQ
  have hx:=he.operand (aB x (by simp [aQ,Op.operands]))
  simp only [ct,cQ] at aj
  obtain ⟨r,hr,rfl,rfl⟩:=aj
  obtain ⟨u,h1,h2⟩:=zoP hT hx hr w
  exact .still hs (by simp [execOp,aQ,h1]) h2
 .rename_i x xt t ok aQ
  have hx:=he.operand (aB x (by simp [aQ,Op.operands]))
  simp only [ct,cQ] at aj
  obtain ⟨r,hr,rfl,rfl⟩:=aj
  obtain ⟨u,h1,h2⟩:=zmk (xt:=xt) hT hx hr w
  exact .still hs (by simp [execOp,aQ,h1]) h2
 .cases aj
end
end Go.Am
namespace Go.Am
open Go.RowKit
variable {k v x:ai} {o:Oper} {e:Env} {C:Fn->List ai->Heap->Option (ai × Heap)} {tmps:Array ai} {t:TypeId} {c:Code}

section
variable {P:Program} {T:bJ} {ρ:cI} {h h':Heap} {w:World}

def WR (rl:Option Nat):Fence:={ Fence.wide with round:=rl }
theorem zlo {rl:Option Nat} {n:Nat} {f:FuncId} {args:Array ai} {R:Ending->World->Prop} (hc:Calls P f args w R):CallsIn (WR rl) n P f args w R :=
 (callsIn_wide (n:=n)).2 hc

theorem Gx.wp {a:Act} (hr:Gx P ρ h h' w v ((execOp a.eval o).run P w)) (O6:∀ c,o.op≠.defer c) {K:Act->World->Prop} {Q:Exit->Act->World->Prop} {rl:Option Nat}
 (hK:∀ ρ' u w',Fr ρ ρ' h h' w w'->bT ρ' h' w'->VR ρ' v u->K (a.put o.dst u) w'):o.wpIn (WR rl) 0 P a w K Q:=by
 unfold Oper.wpIn
 refine ⟨λ_ _=>trivial,?_⟩
 rw [Oper.semAt_eq _ _ _ O6]
 rcases hr with ⟨ρ',u,w',h1,h2,h3,h4⟩|⟨f,aL,h1,h2⟩|⟨l,f,tmps,assign,body,h1,h2⟩
 .rcases h1 with h1|⟨h1,rfl⟩
  .rw [h1];exact hK ρ' u w' h2 h3 h4
  .rw [h1];exact hK ρ' undef w' h2 h3 h4
 .rw [h1]
  refine ⟨(λhh=>by cases hh),zlo (h2.mono ?_)⟩
  rintro ed w' ⟨ρ',u,rfl,h3,h4,h5⟩
  exact hK ρ' u w' h3 h4 h5
 .rw [h1]
  refine ⟨(λhh=>by cases hh),RoundIn.mono h2 ?_⟩
  rintro ed w' ⟨ρ',u,rfl,h3,h4,h5⟩
  exact hK ρ' u w' h3 h4 h5

theorem FB (aj:gD P T C e o h=some (v,h')):∀ c,o.op≠.defer c:=by
 intro c hc
 simp [gD,hc] at aj

theorem zpV {ops:Array Oper} (he:cn ρ e tmps):Region.wanted o (yielded ops tmps)=ma ops o e:=by
 unfold Region.wanted ma
 cases o.guard with
 |none=>rfl
 |some g =>
  obtain ⟨j,b⟩:=g
  simp only [yielded]
  cases (ops[j]?).bind (·.dst) with
  |none=>simp
  |some t =>
   simp only [dO]
   have hv:=he.2 t
   cases ht:tmps[t]? with
   |none =>
    have hlen:tmps.size<=t:=by
     rcases mW t tmps.size with aT|tN
     .rw [HQ aT] at ht;cases ht
     .exact tN
    rw [Env.nQ e t (by rw [he.1];exact hlen)]
    rfl
   |some u =>
    have hu:tmps.getD t undef=u:=by simp [ht]
    rw [hu] at hv
    generalize e.get t=x at hv
    cases hv <;> first|rfl|(cases b <;> rename_i c <;> cases c <;> rfl)

structure bt (h h':Heap):Prop where
 size:h.size<=h'.size
 low:h'.low<=h.low
 get:∀ A,A < h.size->A < h'.low->h'.get A=h.get A

theorem bt.refl (h:Heap):bt h h:=⟨aR _,aR _,λ_ _ _=>rfl⟩
theorem bt.trans {h h1 h2:Heap} (a:bt h h1) (b:bt h1 h2):bt h h2 :=
 ⟨eA a.size b.size,eA b.low a.low,λA h3 h4=>(b.get A (dr h3 a.size) h4).trans (a.get A h3 (dr h4 b.low))⟩
theorem bt.push (h:Heap) (b:aZ):bt h (h.push b):=⟨nq _,aR _,λA h3 _=>by rw [Heap.bA,az (by omega)]⟩
theorem bt.set {h:Heap} {A:Nat} (b:aZ) (hA:A < h.size):bt h (h.set A b) :=
 ⟨aR _,yb _ _,λA' _ h4=>by rw [Heap.cM] at h4;rw [Heap.aG _ _ _ _ hA,az (by omega)]⟩

theorem PF {A o:Nat} {vs:List ai} (hw:nM A o vs h=some h'):bt h h':=by
 unfold nM at hw
 split at hw
 .rename_i hg
  split at hw
  .cases hw;exact .set _ (Heap.aq hg)
  .cases hw
 .cases hw

theorem zmd {s:ai} (ha:jT T t s x h=some (v,h')):bt h h':=by
 unfold jT at ha
 split at ha
 .simp only [cG,Prod.exists] at ha
  obtain ⟨k,tx,z,_,m,news,_,ha⟩:=ha
  split at ha
  .split at ha
   .cases ha;exact .refl _
   .split at ha
    .cases ha
    .split at ha
     .split at ha
      .split at ha
       .simp only [ct,cQ] at ha
        obtain ⟨h1,hw,_,rfl⟩:=ha
        exact PF hw
       .cases ha
      .cases ha
     .simp only [cG] at ha
      obtain ⟨eF,_,ha⟩:=ha
      split at ha
      .cases ha;exact .push _ _
      .split at ha
       .split at ha
        .rename_i hg
         split at ha
         .cases ha;exact (bt.set _ (Heap.aq hg)).trans (.push _ _)
         .cases ha
        .cases ha
       .cases ha
  .cases ha
 .cases ha

theorem zhp (hr:oG T t x k v h=some h'):bt h h':=by
 unfold oG at hr
 split at hr
 .split at hr
  .rename_i hg
   split at hr
   .simp only [cG] at hr
    obtain ⟨r,_,hr⟩:=hr
    split at hr
    .simp only [cG] at hr
     obtain ⟨e,_,hr⟩:=hr
     split at hr
     .cases hr;exact .set _ (Heap.aq hg)
     .cases hr
    .cases hr;exact .set _ (Heap.aq hg)
   .cases hr
  .cases hr
 .cases hr

theorem zk7 {d:TypeId} (hr:HH T d x h=some (v,h')):bt h h':=by
 unfold HH at hr
 split at hr
 .split at hr
  .split at hr
   .cases hr
   .cases hr;exact .push _ _
  .cases hr
 .cases hr
theorem zoF (hr:NR T t x k h=some (v,h')):bt h h':=by
 unfold NR at hr
 split at hr
 .split at hr
  .rename_i hg
   split at hr
   .simp only [cG] at hr
    obtain ⟨r,_,hr⟩:=hr
    split at hr
    .simp only [cG] at hr
     obtain ⟨e,_,hr⟩:=hr
     split at hr
     .cases hr;exact .set _ (Heap.aq hg)
     .cases hr
    .simp only [ct,cQ] at hr
     obtain ⟨z,_,_,rfl⟩:=hr
     exact .set _ (Heap.aq hg)
   .cases hr
  .cases hr
 .cases hr
theorem zhF {s:ai} (hr:MF x s v h=some h'):bt h h':=by
 unfold MF at hr
 split at hr
 .split at hr
  .rename_i hg
   simp only [ct] at hr
   obtain ⟨i,_,rfl⟩:=hr
   exact .set _ (Heap.aq hg)
  .cases hr
 .cases hr

theorem zmA (hr:ND T t x k h=some h'):bt h h':=by
 unfold ND at hr
 split at hr
 .split at hr
  .cases hr;exact .refl _
  .cases hr
 .split at hr
  .rename_i hg
   split at hr
   .simp only [cG] at hr
    obtain ⟨r,_,hr⟩:=hr
    split at hr
    .cases hr;exact .set _ (Heap.aq hg)
    .cases hr;exact .set _ (Heap.aq hg)
   .cases hr
  .cases hr
 .cases hr

def ti (C:Fn->List ai->Heap->Option (ai × Heap)):Prop:=∀ f args h v h',C f args h=some (v,h')->bt h h'

theorem Fw (hC:ti C) (aj:gD P T C e o h=some (v,h')):bt h h':=by
 have cP:∀ {r:Option ai},(r.map λx=>(x,h))=some (v,h')->bt h h':=by
  intro r hr
  simp only [ct,cQ] at hr
  obtain ⟨_,_,_,rfl⟩:=hr
  exact .refl _
 have dM:gP P e o h=some (v,h')->bt h h':=by
  intro hp
  unfold gP at hp
  split at hp
  .split at hp
   .split at hp
    .cases hp;exact .refl _
    .cases hp
   .cases hp
  .cases hp
 unfold gD at aj
 dsimp only at aj
 split at aj
 .cases aj;exact .refl _
 .cases aj;exact .refl _
 .split at aj
  .cases aj;exact .refl _
  .cases aj
 .simp only [ct,Prod.exists] at aj
  obtain ⟨_,_,z,_,aj⟩:=aj
  have e2:=congrArg Prod.snd aj
  simp only at e2
  subst e2
  exact .push _ _
 .simp only [eh] at aj
  have e2:=congrArg Prod.snd aj
  simp only at e2
  subst e2
  exact .push _ _
 .exact cP aj
 .unfold xM at aj
  split at aj
  .simp only [cG,Prod.exists] at aj
   obtain ⟨_,_,_,_,aj⟩:=aj
   split at aj
   .cases aj
   .simp only [ct,cQ] at aj
    obtain ⟨_,_,_,rfl⟩:=aj
    exact .push _ _
  .cases aj
 .exact cP aj
 .simp only [ct,cQ] at aj
  obtain ⟨h1,hr,_,rfl⟩:=aj
  unfold i7 at hr
  split at hr
  .simp only [cG] at hr
   obtain ⟨_,_,hr⟩:=hr
   split at hr
   .exact PF hr
   .cases hr
  .cases hr
 .split at aj
  .cases aj;exact .refl _
  .cases aj;exact .refl _
  .cases aj;exact .refl _
  .cases aj
 .exact cP aj
 .split at aj
  .cases aj;exact .refl _
  .cases aj
 .unfold MW at aj
  split at aj
  .simp only [cG,Prod.exists] at aj
   obtain ⟨_,_,_,_,aj⟩:=aj
   split at aj
   .cases aj;exact .push _ _
   .cases aj
  .cases aj
 .exact cP aj
 .exact cP aj
 .exact cP aj
 .exact cP aj
 .split at aj
  .exact cP aj
  .cases aj
 .exact dM aj
 .split at aj
  .exact cP aj
  .split at aj
   .split at aj
    .exact zk7 aj
    .cases aj
   .exact dM aj
 .exact dM aj
 .split at aj
  .split at aj
   .split at aj
    .exact zmd aj
    .cases aj
   .cases aj
  .split at aj
   .unfold Oc at aj
    split at aj
    .simp only [cG,Prod.exists] at aj
     obtain ⟨_,_,_,_,_,aj⟩:=aj
     split at aj
     .cases aj;exact .refl _
     .split at aj
      .simp only [ct,cQ] at aj
       obtain ⟨h1,hw,_,rfl⟩:=aj
       exact PF hw
      .cases aj
    .cases aj
   .cases aj
  .split at aj
   .simp only [ct,cQ] at aj
    obtain ⟨h1,hr,_,rfl⟩:=aj
    unfold vp at hr
    split at hr
    .split at hr
     .cases hr;exact .refl _
     .simp only [cG,Prod.exists] at hr
      obtain ⟨_,_,_,_,hr⟩:=hr
      split at hr
      .exact PF hr
      .cases hr
    .cases hr
   .cases aj
  .split at aj
   .exact cP aj
   .cases aj
  .exact dM aj
  .exact dM aj
  .split at aj
   .simp only [ct,cQ] at aj
    obtain ⟨h1,hr,_,rfl⟩:=aj
    exact zmA hr
   .cases aj
  .split at aj
   .exact cP aj
   .cases aj
  .split at aj
   .simp only [cG,Prod.exists] at aj
    obtain ⟨_,_,_,aj⟩:=aj
    exact hC _ _ _ _ _ aj
   .cases aj
  .split at aj
   .exact hC _ _ _ _ _ aj
   .split at aj
    .exact hC _ _ _ _ _ aj
    .cases aj
   .cases aj
  .cases aj
 .split at aj
  .cases aj;exact .push _ _
  .split at aj
   .cases aj;exact .push _ _
   .cases aj
 .exact cP aj
 .simp only [ct,cQ] at aj
  obtain ⟨h1,hr,_,rfl⟩:=aj
  exact zhp hr
 .simp only [ct,cQ] at aj
  obtain ⟨h1,hr,_,rfl⟩:=aj
  exact zhp hr
 .exact zoF aj
 .simp only [ct,cQ] at aj
  obtain ⟨h1,hr,_,rfl⟩:=aj
  exact zhF hr
 .exact cP aj
 .exact cP aj
 .cases aj

theorem PL {C:Fn->List ai->Heap->Option (ai × Heap)} (hC:ti C) {ops:Array Oper}:∀ (l:List Oper) (e e':Env) (h h':Heap),r7 P T C ops l e h=some (e',h')->bt h h'
 | [],e,e',h,h',aj=>by simp only [r7,eh,cQ] at aj;obtain ⟨_,rfl⟩:=aj;exact .refl _
 |o::l,e,e',h,h',aj=>by
  simp only [r7] at aj
  split at aj
  .split at aj
   .rename_i v h1 h2
    exact (Fw hC h2).trans (PL hC l _ _ _ _ aj)
   .cases aj
  .exact PL hC l _ _ _ _ aj

theorem Xe (hT:T.Fits P) {C:Fn->List ai->Heap->Option (ai × Heap)} {gs:List Nat} (hC:CS P gs C) (hg:ti C) {ops:Array Oper} {Q:Exit->Act->World->Prop} {rl:Option Nat} {dd:List Deferred} :
 ∀ (l:List Oper) (e e':Env) (h h':Heap) (ρ:cI) (a:Act) (w:World),r7 P T C ops l e h=some (e',h')->(∀ o∈l,kG ρ o)->cY gs ρ->bT ρ h w->fA ρ h h'->cn ρ e a.tmps->a.defers=dd ->
   (∀ ρ' a' w',Fr ρ ρ' h h' w w'->bT ρ' h' w'->cn ρ' e' a'.tmps->a'.defers=dd->Q .normal a' w')->wpListIn (WR rl) 0 P ops Q l a w
 | [],e,e',h,h',ρ,a,w,aj,_,_,hs,_,he,hd,hQ=>by
  simp only [r7,eh,cQ] at aj
  obtain ⟨rfl,rfl⟩:=aj
  exact hQ ρ a w (Fr.refl _ _ _) hs he hd
 |o::l,e,e',h,h',ρ,a,w,aj,cV,hG,hs,hf,he,hd,hQ=>by
  have Vd:=cV o (by simp)
  have KG:∀ q∈l,kG ρ q:=λq hq=>cV q (by simp [hq])
  simp only [r7] at aj
  unfold wpListIn
  rw [zpV he]
  split at aj
  .rename_i hw
   rw [aD hw]
   split at aj
   .rename_i v h1 h2
    have dS:=(PL hg l _ _ _ _ aj).size
    refine (Fx hT hC hG hs he Vd (hf.left dS) h2).wp (FB h2) λρ1 u w1 f1 s1 v1=>?_
    refine Xe hT hC hg l _ _ _ _ ρ1 _ w1 aj (λq hq=>(KG q hq).mono f1.grow) (hG.mono f1.grow) s1 (hf.right f1) ((he.mono f1.grow).put v1 o.dst) (by cases o.dst <;> exact hd) ?_
    intro ρ2 a2 w2 f2 s2 e2 d2
    exact hQ ρ2 a2 w2 (f1.trans f2) s2 e2 d2
   .cases aj
  .rename_i hw
   rw [az hw]
   refine ⟨λ_ _=>trivial,?_⟩
   exact Xe hT hC hg l _ _ _ _ ρ _ w aj KG hG hs hf (he.put (.undef ρ) o.dst) (by cases o.dst <;> exact hd) hQ

def Ex.to:Ex->Exit
 | .normal=>.normal
 | .exit id=>.exit id
 | .ret=>.ret

def DS (P:Program) (gs:List Nat) (D:Array Oper->Env->Heap->Option (Env × Heap)):Prop :=
 ∀ (rl:Option Nat) (id:Nat) (ops:Array Oper) (e e':Env) (h h':Heap) (ρ:cI) (a:Act) (w:World) (Q:Exit->Act->World->Prop),D ops e h=some (e',h')->(∀ o∈ops.toList,kG ρ o)->cY gs ρ->bT ρ h w->fA ρ h h'->cn ρ e a.tmps ->
   (∀ ρ' a' w',Fr ρ ρ' h h' w w'->bT ρ' h' w'->cn ρ' e' a'.tmps->a'.defers=a.defers->Q .normal a' w')->(Code.region id ops true).wpIn (WR rl) 0 P Q a w
def Ze (D:Array Oper->Env->Heap->Option (Env × Heap)):Prop:=∀ ops e h e' h',D ops e h=some (e',h')->bt h h'

theorem XQ {f:Env->Heap->Option (Ex × Env × Heap)} (hf:∀ e h x e' h',f e h=some (x,e',h')->bt h h'):∀ (n:Nat) (e:Env) (h:Heap) (x:Ex) (e':Env) (h':Heap),iter f n e h=some (x,e',h')->bt h h'
 |0,_,_,_,_,_,hi=>by simp [iter] at hi
 |n+1,e,h,x,e',h',hi=>by
  simp only [iter] at hi
  split at hi
  .rename_i e1 h1 h2
   exact (hf _ _ _ _ _ h2).trans (XQ hf n _ _ _ _ _ hi)
  .exact hf _ _ _ _ _ hi

theorem zfa {l:Nat} {e':Env} {x:Ex} (aj:Hx l e h=some (x,e',h')):bt h h':=by
 unfold Hx at aj
 split at aj
 .rename_i hg
  split at aj
  .cases aj
  .split at aj
   .cases aj;exact .set _ (Heap.aq hg)
   .cases aj;exact .set _ (Heap.aq hg)
   .cases aj;exact .set _ (Heap.aq hg)
   .cases aj
 .cases aj
theorem zpr (hC:ti C) {rd:Option Nat} {g:ai} {ps:List Tmp} {assign body:Code} {e':Env} {x:Ex} (aj:H7 T C rd g ps assign body e h=some (x,e',h')):bt h h':=by
 unfold H7 at aj
 split at aj
 .split at aj
  .split at aj
   .rename_i hc
    exact ((bt.push _ _).trans (hC _ _ _ _ _ hc)).trans (zfa aj)
   .cases aj
  .cases aj
 .cases aj

theorem Fz {D:Array Oper->Env->Heap->Option (Env × Heap)} (hC:ti C) (hD:Ze D) (rd:Option Nat) (fuel:Nat):∀ (c:Code) (e:Env) (h:Heap) (x:Ex) (e':Env) (h':Heap),dV P T C D rd fuel c e h=some (x,e',h')->bt h h':=by
 intro c
 induction c with
 |skip=>intro e h x e' h' aj;simp only [dV,eh,cQ] at aj;obtain ⟨_,_,rfl⟩:=aj;exact .refl _
 |region id ops d =>
  intro e h x e' h' aj
  simp only [dV,ct,Prod.exists,cQ] at aj
  obtain ⟨e1,h1,hr,_,rfl,rfl⟩:=aj
  split at hr
  .exact hD _ _ _ _ _ hr
  .exact PL hC _ _ _ _ _ hr
 |seq a b jv jw =>
  intro e h x e' h' aj
  simp only [dV] at aj
  split at aj
  .rename_i e1 h1 h2
   exact (jv _ _ _ _ _ h2).trans (jw _ _ _ _ _ aj)
  .exact jv _ _ _ _ _ aj
 |cond c a b jv jw =>
  intro e h x e' h' aj
  simp only [dV] at aj
  split at aj
  .exact jv _ _ _ _ _ aj
  .exact jw _ _ _ _ _ aj
  .cases aj
 |block id c ih =>
  intro e h x e' h' aj
  simp only [dV] at aj
  split at aj
  .rename_i i e1 h1 h2
   have:=ih _ _ _ _ _ h2
   split at aj <;> (simp only [eh,cQ] at aj;obtain ⟨_,_,rfl⟩:=aj;exact this)
  .exact ih _ _ _ _ _ aj
 |loop c ih=>intro e h x e' h' aj;simp only [dV] at aj;exact XQ ih _ _ _ _ _ _ aj
 |exit id=>intro e h x e' h' aj;simp only [dV,eh,cQ] at aj;obtain ⟨_,_,rfl⟩:=aj;exact .refl _
 |ret=>intro e h x e' h' aj;simp only [dV,eh,cQ] at aj;obtain ⟨_,_,rfl⟩:=aj;exact .refl _
 |label l=>intro e h x e' h' aj;simp only [dV,eh,cQ] at aj;obtain ⟨_,_,rfl⟩:=aj;exact .refl _
 |rangeFunc f ps a b _ _=>intro e h x e' h' aj;exact zpr hC aj
 |scope c ih=>intro e h x e' h' aj;exact ih _ _ _ _ _ aj
 |goto l=>intro e h x e' h' aj;simp [dV] at aj
 |refuse s=>intro e h x e' h' aj;simp [dV] at aj

def mR:Code->Bool
 | .seq a b=>mR a && mR b
 | .cond _ a b=>mR a && mR b
 | .block _ c=>mR c
 | .loop c=>mR c
 | .scope c=>mR c
 | .rangeFunc _ _ _ _=>false
 |_=>true
def Marks (n0:Nat) (B:List Deferred) (nr:Bool) (ρ:cI) (w:World) (ds:List Deferred):Prop :=
 ∃ rs:List Nat,ds=rs.map (λr=>{ target:=.collected r,args:=#[] })++B/\rs.Nodup/\(nr=true->rs=[])/\∀ r∈rs,n0<=r/\w.heap[r]? = some (.deferred (some []))/\∀ A L,ρ A=some L->L.b≠r
theorem Marks.nil {n0:Nat} {B:List Deferred} {nr:Bool}:Marks n0 B nr ρ w B:=⟨[],rfl,.nil,λ_=>rfl,by intro r hr;cases hr⟩
theorem Marks.step {n0:Nat} {B:List Deferred} {nr:Bool} {ρ':cI} {w':World} {ds:List Deferred} (hm:Marks n0 B nr ρ w ds) (f:Fr ρ ρ' h h' w w'):Marks n0 B nr ρ' w' ds:=by
 obtain ⟨rs,h1,h2,h0,h3⟩:=hm
 refine ⟨rs,h1,h2,h0,λr hr=>?_⟩
 obtain ⟨a1,a2,a3⟩:=h3 r hr
 have aT:r < w.heap.size:=(mU.1 a2).1
 refine ⟨a1,(f.keep r aT λA L hA hb=>(a3 A L hA hb).elim).trans a2,λA L hA hb=>?_⟩
 cases hρ:ρ A with
 |some L0 =>
  have e:L0=L:=by have:=f.grow A L0 hρ;rw [hA] at this;exact (Option.some.inj this).symm
  subst e
  exact a3 A L0 hρ hb
 |none =>
  rcases (f.fresh A L hA hρ).2.2 with h4|⟨A0,L0,h4,h5,_⟩
  .omega
  .exact a3 A0 L0 h4 (h5.trans hb)

def Gy (ρ:cI):Option Nat->Option Nat->Prop
 |none,none=>True
 |some A,some l=>∃ L,ρ A=some L/\L.b=l
 |_,_=>False
theorem Gy.mono {ρ':cI} (hg:∀ A L,ρ A=some L->ρ' A=some L):∀ {rd rl:Option Nat},Gy ρ rd rl->Gy ρ' rd rl
 |none,none,_=>trivial
 |some _,some _,⟨L,h1,h2⟩=>⟨L,hg _ _ h1,h2⟩
 |none,some _,hh=>hh.elim
 |some _,none,hh=>hh.elim

theorem Hh {b:Frame} {a:Act} {k:List Item} {cs:List Frame}:step P (lone (b.atR a (.code (.scope c)::k)) cs w)=.next (lone (b.atR a (.code c::.inScope c::k)) cs w) :=
 step_lone_go (by simp [stepG,stepG.exec,Frame.atR])
theorem znh {b:Frame} {a:Act} {k:List Item} {cs:List Frame}:step P (lone (b.atR a (.inScope c::k)) cs w)=.next (lone (b.atR a k) cs w) :=
 step_lone_go (by simp [stepG,stepG.exec,Frame.atR])
theorem zgH {F:Fence} {n:Nat} {Q:Exit->Act->World->Prop} {a:Act} (hc:c.wpIn F n P (Exit.noGoto Q) a w):(Code.scope c).wpIn F n P Q a w:=by
 intro b k cs G4 hb hr
 have h0:(lone (b.atR a (.code (.scope c)::k)) cs w).fenced P F:=fenced_calm hb hr rfl
 obtain ⟨e,a₁,w₁,hq,tG⟩:=hc b (.inScope c::k) cs G4 hb hr
 cases e with
 |normal=>exact ⟨.normal,a₁,w₁,hq,.head h0 Hh (StepsIn.trans tG (.one (fenced_calm hb hr rfl) znh))⟩
 |exit id =>
  have hx:exitTo id (.inScope c::k)=exitTo id k:=by simp [exitTo]
  exact ⟨.exit id,a₁,w₁,hq,λk' hk=>.head h0 Hh (tG.1 k' (by rw [hx];exact hk)),
   λcw hk=>let ⟨k₁,h1,h2⟩:=tG.2 cw (by rw [hx];exact hk);⟨k₁,h1,.head h0 Hh h2⟩⟩
 |goto l=>exact hq.elim
 |ret=>exact ⟨_,a₁,w₁,hq,.of_steps (.one h0 Hh) tG⟩
 |panic ch=>exact ⟨_,a₁,w₁,hq,.of_steps (.one h0 Hh) tG⟩
 |outgrown=>exact ⟨_,a₁,w₁,hq,.of_steps (.one h0 Hh) tG⟩

theorem PR (w:World) (r:Nat) (o:Obj):(w.putObj r o).heap=w.heap.setIfInBounds r o:=rfl
theorem zxE {r:Nat} {o:Obj} (aT:r < w.heap.size):(w.putObj r o).heap[r]? = some o:=by rw [PR];simp [aT]
theorem PC {r k:Nat} {o:Obj} (hk:k≠r):(w.putObj r o).heap[k]? = w.heap[k]? := by
 rw [PR,HP (Ne.symm hk)]

theorem MV (hs:bT ρ h w) {A:Nat} {L:Loc} (hA:ρ A=some L) {env:List ai} {ps:List Tmp} {assign body:Code} {st:LoopState} {fM:Option Code} (hg:h.get A=some (.loop env ps assign body st fM)) :
 ∃ l:Loop,w.heap[L.b]? = some (.loop l)/\l.state=st/\l.pending=fM/\l.params.toList=ps/\l.assign=assign/\l.body=body/\cn ρ env l.tmps/\cH ρ assign/\cH ρ body /\
   ∀ LA qF,Fr ρ ρ h (h.set A (.loop env ps assign body LA qF)) w (w.putObj L.b (.loop { l with state:=LA,pending:=qF }))/\bT ρ (h.set A (.loop env ps assign body LA qF)) (w.putObj L.b (.loop { l with state:=LA,pending:=qF })):=by
 have hb:=hs.lR A L hA
 rw [hg] at hb
 obtain ⟨l,h1,h2,h3,h4,h5,h6,h7,h8,h9⟩:=hb
 refine ⟨l,h1,h2,h3,h4,h5,h6,h7,h8,h9,λLA qF=>?_⟩
 have aT:L.b < w.heap.size:=(mU.1 h1).1
 exact MN hs hA hg (by simp) (by simp) rfl rfl rfl (by rw [PR];simp) (λq hq=>PC hq) ⟨_,zxE aT,rfl,rfl,h4,h5,h6,h7,h8,h9⟩

theorem zge (hT:T.Fits P) {D:Array Oper->Env->Heap->Option (Env × Heap)} {gs:List Nat} (hC:CS P gs C) (hg:ti C) (hD:DS P gs D) (OS:Ze D) (rd rl:Option Nat) (n0:Nat) (B:List Deferred) (nr:Bool) (fuel:Nat) :
 ∀ (c:Code) (e:Env) (h:Heap) (x:Ex) (e':Env) (h':Heap) (ρ:cI) (a:Act) (w:World) (Q:Exit->Act->World->Prop),dV P T C D rd fuel c e h=some (x,e',h')->cH ρ c->(nr=true->mR c=true)->cY gs ρ->bT ρ h w->fA ρ h h'->cn ρ e a.tmps->Marks n0 B nr ρ w a.defers->Gy ρ rd rl->n0<=w.heap.size ->
   (∀ ρ' a' w',Fr ρ ρ' h h' w w'->bT ρ' h' w'->cn ρ' e' a'.tmps->Marks n0 B nr ρ' w' a'.defers->Q x.to a' w')->c.wpIn (WR rl) 0 P Q a w:=by
 intro c
 induction c with
 |skip =>
  intro e h x e' h' ρ a w Q aj _ _ _ hs _ he hd _ _ hQ
  simp only [dV,eh,cQ] at aj
  obtain ⟨rfl,rfl,rfl⟩:=aj
  exact wpIn_skip (hQ ρ a w (Fr.refl _ _ _) hs he hd)
 |region id ops d =>
  intro e h x e' h' ρ a w Q aj cV _ hG hs hf he hd _ _ hQ
  simp only [dV,ct,Prod.exists,cQ] at aj
  obtain ⟨e1,h1,hr,rfl,rfl,rfl⟩:=aj
  have hQ':∀ ρ' a' w',Fr ρ ρ' h h1 w w'->bT ρ' h1 w'->cn ρ' e1 a'.tmps->a'.defers=a.defers->Q .normal a' w':=λρ' a' w' f1 s1 r1 d1=>hQ ρ' a' w' f1 s1 r1 (by rw [d1];exact hd.step f1)
  cases d with
  |true =>
   simp only [if_true] at hr
   exact hD rl id ops e e1 h h1 ρ a w Q hr cV hG hs hf he hQ'
  |false =>
   simp only [gX,if_false] at hr
   exact wpIn_region_list (Xe hT hC hg ops.toList e e1 h h1 ρ a w hr cV hG hs hf he rfl hQ')
 |seq c1 c2 Ph V6 =>
  intro e h x e' h' ρ a w Q aj cV mE hG hs hf he hd nz hn hQ
  simp only [dV] at aj
  have Ao:nr=true->mR c1=true:=λq=>by have:=mE q;simp only [mR,dK] at this;exact this.1
  have EA:nr=true->mR c2=true:=λq=>by have:=mE q;simp only [mR,dK] at this;exact this.2
  refine wpIn_seq ?_
  split at aj
  .rename_i e1 h1 h2
   have dS:=(Fz hg OS rd fuel c2 _ _ _ _ _ aj).size
   refine Ph e h .normal e1 h1 ρ a w _ h2 cV.1 Ao hG hs (hf.left dS) he hd nz hn λρ1 a1 w1 f1 s1 r1 d1=>?_
   exact V6 e1 h1 x e' h' ρ1 a1 w1 Q aj (cV.2.mono f1.grow) EA (hG.mono f1.grow) s1 (hf.right f1) r1 d1 (nz.mono f1.grow) (eA hn f1.size) λρ2 a2 w2 f2 s2 r2 d2=>hQ ρ2 a2 w2 (f1.trans f2) s2 r2 d2
  .rename_i aM
   refine Ph e h x e' h' ρ a w _ aj cV.1 Ao hG hs hf he hd nz hn λρ1 a1 w1 f1 s1 r1 d1=>?_
   cases x with
   |normal=>exact (aM e' h' aj).elim
   |exit id=>exact hQ ρ1 a1 w1 f1 s1 r1 d1
   |ret=>exact hQ ρ1 a1 w1 f1 s1 r1 d1
 |cond c c1 c2 Ph V6 =>
  intro e h x e' h' ρ a w Q aj cV mE hG hs hf he hd nz hn hQ
  have hc:=he.operand cV.1
  have Ao:nr=true->mR c1=true:=λq=>by have:=mE q;simp only [mR,dK] at this;exact this.1
  have EA:nr=true->mR c2=true:=λq=>by have:=mE q;simp only [mR,dK] at this;exact this.2
  simp only [dV] at aj
  split at aj
  .rename_i hb
   rw [hb] at hc
   exact wpIn_cond_true (hc.bK rfl) (Ph e h x e' h' ρ a w Q aj cV.2.1 Ao hG hs hf he hd nz hn hQ)
  .rename_i hb
   rw [hb] at hc
   exact wpIn_cond_false (hc.bK rfl) (V6 e h x e' h' ρ a w Q aj cV.2.2 EA hG hs hf he hd nz hn hQ)
  .cases aj
 |block id c ih =>
  intro e h x e' h' ρ a w Q aj cV mE hG hs hf he hd nz hn hQ
  simp only [dV] at aj
  refine wpIn_block ?_
  split at aj
  .rename_i i e1 h1 h2
   split at aj
   .rename_i hi
    simp only [eh,cQ] at aj
    obtain ⟨rfl,rfl,rfl⟩:=aj
    refine ih e h (.exit i) e1 h1 ρ a w _ h2 cV mE hG hs hf he hd nz hn λρ1 a1 w1 f1 s1 r1 d1=>?_
    simp only [Ex.to,Exit.inBlock,aD hi]
    exact hQ ρ1 a1 w1 f1 s1 r1 d1
   .rename_i hi
    simp only [eh,cQ] at aj
    obtain ⟨rfl,rfl,rfl⟩:=aj
    refine ih e h (.exit i) e1 h1 ρ a w _ h2 cV mE hG hs hf he hd nz hn λρ1 a1 w1 f1 s1 r1 d1=>?_
    simp only [Ex.to,Exit.inBlock,az hi]
    exact hQ ρ1 a1 w1 f1 s1 r1 d1
  .rename_i aM
   refine ih e h x e' h' ρ a w _ aj cV mE hG hs hf he hd nz hn λρ1 a1 w1 f1 s1 r1 d1=>?_
   cases x with
   |normal=>exact hQ ρ1 a1 w1 f1 s1 r1 d1
   |exit i=>exact (aM i e' h' aj).elim
   |ret=>exact hQ ρ1 a1 w1 f1 s1 r1 d1
 |loop c ih =>
  intro e h x e' h' ρ a w Q aj cV mE hG hs hf he hd nz hn hQ
  simp only [dV] at aj
  refine wpIn_loop_rounds fuel ?_
  have key:∀ (n:Nat) (e:Env) (h:Heap) (ρ:cI) (a:Act) (w:World),iter (dV P T C D rd fuel c) n e h=some (x,e',h')->cH ρ c->cY gs ρ->bT ρ h w->fA ρ h h'->cn ρ e a.tmps->Marks n0 B nr ρ w a.defers->Gy ρ rd rl->n0<=w.heap.size ->
   (∀ ρ' a' w',Fr ρ ρ' h h' w w'->bT ρ' h' w'->cn ρ' e' a'.tmps->Marks n0 B nr ρ' w' a'.defers->Q x.to a' w')->Code.roundsIn (WR rl) 0 P c Q n a w:=by
   intro n
   induction n with
   |zero=>intro e h ρ a w hi;simp [iter] at hi
   |succ n V7 =>
    intro e h ρ a w hi cV hG hs hf he hd nz hn hQ
    simp only [iter] at hi
    rw [roundsIn_succ]
    split at hi
    .rename_i e1 h1 h2
     have dS:=(XQ (Fz (P:=P) (T:=T) hg OS rd fuel c) n _ _ _ _ _ hi).size
     refine ih e h .normal e1 h1 ρ a w _ h2 cV mE hG hs (hf.left dS) he hd nz hn λρ1 a1 w1 f1 s1 r1 d1=>?_
     exact V7 e1 h1 ρ1 a1 w1 hi (cV.mono f1.grow) (hG.mono f1.grow) s1 (hf.right f1) r1 d1 (nz.mono f1.grow) (eA hn f1.size) λρ2 a2 w2 f2 s2 r2 d2=>hQ ρ2 a2 w2 (f1.trans f2) s2 r2 d2
    .rename_i aM
     refine ih e h x e' h' ρ a w _ hi cV mE hG hs hf he hd nz hn λρ1 a1 w1 f1 s1 r1 d1=>?_
     cases x with
     |normal=>exact (aM e' h' hi).elim
     |exit id=>exact hQ ρ1 a1 w1 f1 s1 r1 d1
     |ret=>exact hQ ρ1 a1 w1 f1 s1 r1 d1
  exact key fuel e h ρ a w aj cV hG hs hf he hd nz hn hQ
 |exit id =>
  intro e h x e' h' ρ a w Q aj _ _ _ hs _ he hd _ _ hQ
  simp only [dV,eh,cQ] at aj
  obtain ⟨rfl,rfl,rfl⟩:=aj
  exact wpIn_exit (hQ ρ a w (Fr.refl _ _ _) hs he hd)
 |ret =>
  intro e h x e' h' ρ a w Q aj _ _ _ hs _ he hd _ _ hQ
  simp only [dV,eh,cQ] at aj
  obtain ⟨rfl,rfl,rfl⟩:=aj
  exact wpIn_ret (hQ ρ a w (Fr.refl _ _ _) hs he hd)
 |label l =>
  intro e h x e' h' ρ a w Q aj _ _ _ hs _ he hd _ _ hQ
  simp only [dV,eh,cQ] at aj
  obtain ⟨rfl,rfl,rfl⟩:=aj
  exact wpIn_label (hQ ρ a w (Fr.refl _ _ _) hs he hd)
 |rangeFunc g ps assign body _ _ =>
  intro e h x e' h' ρ a w Q aj cV mE hG hs hf he hd nz hn hQ
  simp only [dV] at aj
  have KF:¬ nr=true:=λq=>by have:=mE q;simp [mR] at this
  have zX:=he.operand cV.1
  unfold H7 at aj
  split at aj
  .rename_i f first captured tN
   split at aj
   .rename_i B8
    simp only [dK] at B8
    obtain ⟨B8,qh⟩:=B8
    split at aj
    .rename_i r0 h2 nU
     rw [tN] at zX
     generalize Uc:a.eval g=ag at zX
     cases zX with
     |func _ q1 q2 q3 q4 =>
      rename_i gm dn
      have yA:cL ρ first.toList gm.toList:=⟨by simpa using q1,λi x y hx hy=>q3 i x y (by simpa using hx) (by simpa using hy)⟩
      have lX:cL ρ captured.toList dn.toList:=⟨by simpa using q2,λi x y hx hy=>q4 i x y (by simpa using hx) (by simpa using hy)⟩
      have o9:=hg _ _ _ _ _ nU
      have pI:=zfa aj
      have wT:(h.push (.loop e ps.toList assign body .ready none)).size=h.size+1:=rfl
      have ER:=o9.size
      have xa:=pI.size
      have gK:ρ h.size=none:=hf h.size (aR _) (by omega)
      refine wpIn_rangeFunc λfn _=>?_
      have eO:∃ (l:Nat) (mark:List Deferred) (w1:World) (lo:Loop),(Instr.enterLoop fn a.tmps ps assign body (WR rl).round).run P w=.ok (l,mark) w1/\w.heap.size<=l/\w1.heap[l]? = some (.loop lo) /\
       lo.state=.ready/\lo.pending=none/\lo.params=ps/\lo.assign=assign/\lo.body=body/\lo.tmps=a.tmps/\(∀ k,k < w.heap.size->w1.heap[k]? = w.heap[k]?)/\w.heap.size<=w1.heap.size/\w1.os=w.os/\w1.tape=w.tape/\w1.output=w.output /\
       (∀ ρ1,(∀ A L,ρ1 A=some L->ρ A=some L\/L.b=l)->Marks n0 B nr ρ1 w1 (mark++a.defers)):=by
       cases rl with
       |none =>
        refine ⟨_,_,_,{ state:=.ready,pending:=none,fn,tmps:=a.tmps,params:=ps,assign,body,defers:=w.heap.size },run_enterLoop_outer fn a.tmps ps assign body,nq _,by rw [World.bO,World.bO,xY,aD (by simp)],rfl,rfl,rfl,rfl,rfl,rfl,?_,by simp [World.bO];omega,rfl,rfl,rfl,?_⟩
        .intro k hk
         rw [World.bO,World.bO,xY,az (by simp;omega),xY,az (by omega)]
        .intro ρ1 Cw
         obtain ⟨rs,m1,m2,_,m3⟩:=hd
         refine ⟨w.heap.size::rs,by simp [m1],?_,λq=>(KF q).elim,?_⟩
         .refine List.nodup_cons.2 ⟨λdR=>?_,m2⟩
          have:=(mU.1 (m3 _ dR).2.1).1
          omega
         .intro r hr
          rcases df.1 hr with rfl|hr
          .refine ⟨hn,by simp [World.bO,xY],λA L hA hb=>?_⟩
           rcases Cw A L hA with h4|h4
           .have:=hs.lt h4;omega
           .omega
          .obtain ⟨a1,a2,a3⟩:=m3 r hr
           have aT:r < w.heap.size:=(mU.1 a2).1
           refine ⟨a1,?_,λA L hA hb=>?_⟩
           .rw [World.bO,World.bO,xY,az (by simp;omega),xY,az (by omega)]
            exact a2
           .rcases Cw A L hA with h4|h4
            .exact a3 A L h4 hb
            .omega
       |some l0 =>
        cases rd with
        |none=>exact nz.elim
        |some A0 =>
         obtain ⟨L0,fI,rfl⟩:=nz
         have Vo:∃ lo:Loop,w.heap[L0.b]? = some (.loop lo):=by
          simp only [Yx] at B8
          split at B8
          .rename_i hg0
           obtain ⟨lo,h4,_⟩:=MV hs fI hg0
           exact ⟨lo,h4⟩
          .cases B8
         obtain ⟨lo,gJ⟩:=Vo
         have eg:(Instr.enterLoop fn a.tmps ps assign body (some L0.b)).run P w=.ok (w.heap.size,[]) (w.alloc (.loop { state:=.ready,pending:=none,fn,tmps:=a.tmps,params:=ps,assign,body,defers:=lo.defers })):=by
          unfold Instr.enterLoop
          simp only [Sem.run_bind,run_getLoop gJ,Sem.run_pure,Result.andThen,run_newObj_alloc]
         refine ⟨_,_,_,{ state:=.ready,pending:=none,fn,tmps:=a.tmps,params:=ps,assign,body,defers:=lo.defers },eg,aR _,by simp [World.bO],rfl,rfl,rfl,rfl,rfl,rfl,?_,by simp [World.bO],rfl,rfl,rfl,?_⟩
         .intro k hk
          rw [World.bO,xY,az (by omega)]
         .intro ρ1 Cw
          obtain ⟨rs,m1,m2,_,m3⟩:=hd
          refine ⟨rs,by simp [m1],m2,λq=>(KF q).elim,?_⟩
          intro r hr
          obtain ⟨a1,a2,a3⟩:=m3 r hr
          have aT:r < w.heap.size:=(mU.1 a2).1
          refine ⟨a1,?_,λA L hA hb=>?_⟩
          .rw [World.bO,xY,az (by omega)]
           exact a2
          .rcases Cw A L hA with h4|h4
           .exact a3 A L h4 hb
           .omega
      obtain ⟨l,mark,w1,lo,eO,hl,uU,l1,l2,l3,l4,l5,l6,hold,dS,wO,kn,gL,Ky⟩:=eO
      obtain ⟨ρ1,Cw,f1,s1⟩:=Xw (W:=w1) (L:=⟨l,0,0⟩) (b:=.loop e ps.toList assign body .ready none) hs gK hold dS wO kn gL hl
       (λρ' fJ=>⟨lo,uU,l1,l2,by rw [l3],l4,l5,by rw [l6];exact he.mono fJ,cV.2.1.mono fJ,cV.2.2.mono fJ⟩)
      have fW:Marks n0 B nr ρ1 w1 (mark++a.defers):=Ky ρ1 λA L hA=>by
       cases hρ:ρ A with
       |some L0 =>
        have e:L0=L:=by have:=f1.grow A L0 hρ;rw [hA] at this;exact (Option.some.inj this).symm
        subst e
        exact .inl rfl
       |none =>
        have h4:=(f1.fresh A L hA hρ)
        have h5:A=h.size:=by have:=h4.1;have:=h4.2.1;omega
        subst h5
        rw [Cw] at hA
        cases hA
        exact .inr rfl
      have Ee:fA ρ1 (h.push (.loop e ps.toList assign body .ready none)) h2:=(hf.left xa).right f1
      have eb:cL ρ1 (first.toList++[.func (.yield h.size) #[] #[]]++captured.toList) (gm++#[Value.func (Fn.yield l) #[] #[]]++dn).toList:=by
       have:=((yA.mono f1.grow).append (cL.cons (VR.yield Cw) (.nil ρ1))).append (lX.mono f1.grow)
       simpa using this
      have kj:(resolve a.eval (rangeCall g l) 0).run P w1=.ok { target:=.fn (.func f) dn,args:=gm++#[Value.func (Fn.yield l) #[] #[]] } w1:=by
       have hcv:a.eval (.const (.func (.yield l) #[] #[]))=.func (.yield l) #[] #[]:=rfl
       simp [resolve,Uc,hcv,Deferred.ofValue]
      have hinv:∀ w,(invoke (.fn (.func f) dn) (gm++#[Value.func (Fn.yield l) #[] #[]])).run P w=(callFunc f (gm++#[Value.func (Fn.yield l) #[] #[]]++dn)).run P w:=λw=>rfl
      rcases hC.fn f _ _ _ _ nU ρ1 w1 (gm++#[Value.func (Fn.yield l) #[] #[]]++dn) (hG.mono f1.grow) s1 Ee eb with ⟨_,_,_,fo,_⟩|⟨Ux,oU⟩
      .exfalso
       unfold YV at qh
       split at qh
       .rename_i fn0 UC
        split at qh
        .rename_i c0 kf
         obtain ⟨hP,iU,_⟩:=hT.fn f fn0 UC
         have fK:¬ fn0.name="runtime.NumGoroutine":=by simpa using iU
         simp [callFunc,hP,fK,kf] at fo
        .cases qh
       .cases qh
      .refine ⟨l,mark,w1,_,w1,f,_,w1,eO,kj,λ_ _=>trivial,(hinv w1).trans Ux,(λhh=>by cases hh),zlo (oU.mono ?_)⟩
       rintro ed w3 ⟨ρ3,u,rfl,f3,s3,_⟩
       unfold Hx at aj
       split at aj
       .rename_i env ps2 as2 Jf st fM UG
        have hρ3:ρ3 h.size=some ⟨l,0,0⟩:=f3.grow _ _ Cw
        obtain ⟨Fi,g1,g2,g3,_,_,_,_,_,_,g4⟩:=MV s3 hρ3 UG
        obtain ⟨f4,s4⟩:=g4 .exhausted fM
        have lD:st≠.busy->∀ x1:Ex,x1=x->e=e'->h2.set h.size (.loop env ps2 as2 Jf .exhausted fM)=h'->(Instr.endLoop l).run P w3=.ok fM (w3.putObj l (.loop { Fi with state:=.exhausted,pending:=fM }))/\Q x.to { a with defers:=mark++a.defers } (w3.putObj l (.loop { Fi with state:=.exhausted,pending:=fM })):=by
         intro cZ x1 VZ yp yq
         subst VZ yp yq
         have gJ:({ Fi with state:=LoopState.exhausted,pending:=fM }:Loop)={ Fi with state:=LoopState.exhausted }:=by
          subst g3;rfl
         refine ⟨?_,hQ ρ3 { a with defers:=mark++a.defers } _ ((f1.trans f3).trans f4) s4 (he.mono (f1.trans f3).grow) ((fW.step f3).step f4)⟩
         rw [gJ,<- g3]
         exact run_endLoop g1 (by rw [g2];exact cZ)
        split at aj
        .cases aj
        .rename_i cZ
         split at aj
         .simp only [eh,cQ] at aj
          obtain ⟨rfl,h5,h6⟩:=aj
          obtain ⟨k1,k2⟩:=lD cZ _ rfl h5 h6
          exact ⟨none,_,k1,k2⟩
         .simp only [eh,cQ] at aj
          obtain ⟨rfl,h5,h6⟩:=aj
          obtain ⟨k1,k2⟩:=lD cZ _ rfl h5 h6
          exact ⟨_,_,k1,wpIn_exit k2⟩
         .simp only [eh,cQ] at aj
          obtain ⟨rfl,h5,h6⟩:=aj
          obtain ⟨k1,k2⟩:=lD cZ _ rfl h5 h6
          exact ⟨_,_,k1,wpIn_ret k2⟩
         .cases aj
       .cases aj
    .cases aj
   .cases aj
  .cases aj
 |scope c ih =>
  intro e h x e' h' ρ a w Q aj cV mE hG hs hf he hd nz hn hQ
  simp only [dV] at aj
  refine zgH (ih e h x e' h' ρ a w _ aj cV mE hG hs hf he hd nz hn λρ1 a1 w1 f1 s1 r1 d1=>?_)
  have:=hQ ρ1 a1 w1 f1 s1 r1 d1
  cases x <;> exact this
 |goto l=>intro e h x e' h' ρ a w Q aj;simp [dV] at aj
 |refuse s=>intro e h x e' h' ρ a w Q aj;simp [dV] at aj

def NW (tmps:Array ai):ResultVar->Sem ai
 | .tmp t=>pure (tmps.getD t undef)
 | .cell a t=>do loadVar t (<- asAddr (tmps.getD a undef))

theorem zuU (fn:Func) (tmps:Array ai):results fn tmps=(do let vs <- fn.results.mapM (NW tmps);pure (if h:vs.size=1 then vs[0] else .tuple vs)):=by
 unfold results
 congr 2

theorem zm7 (hT:T.Fits P) (hs:bT ρ h w) (he:cn ρ e tmps):∀ {r:ResultVar} {v:ai},uy T e h r=some v->∃ u,(NW tmps r).run P w=.ok u w/\VR ρ v u
 | .tmp t,v,hr=>by simp only [uy,eh] at hr;subst hr;exact ⟨_,rfl,he.2 t⟩
 | .cell a t,v,hr=>by
  simp only [uy] at hr
  have hv:=he.2 a
  simp only [NW]
  generalize e.get a=x at hv hr
  generalize tmps.getD a undef=y at hv
  obtain ⟨u,h1,h2⟩:=XF hT hs hv hr
  refine ⟨u,?_,h2⟩
  rw [<- h1]
  cases hv <;> first|(simp [iz] at hr;done)|simp [Instr.loadAt,Instr.sureAddr,asAddr]

theorem Xj (hT:T.Fits P) (hs:bT ρ h w) {fn:Func} (he:cn ρ e tmps) (hr:nI T fn e h=some v) :
 ∃ u,(results fn tmps).run P w=.ok u w/\VR ρ v u:=by
 have n8:∀ (rs:List ResultVar) (vs:List ai),rs.mapM (uy T e h)=some vs->∃ us:List ai,cL ρ vs us /\
  (rs.mapM (NW tmps)).run P w=.ok us w:=by
  intro rs
  induction rs with
  |nil=>intro vs iw;simp at iw;subst iw;exact ⟨[],.nil ρ,by simp⟩
  |cons r rs ih =>
   intro vs iw
   rw [List.mapM_cons] at iw
   simp only [Option.bind_eq_bind,cG,Option.pure_def,eh] at iw
   obtain ⟨v1,yA,WO,EX,rfl⟩:=iw
   obtain ⟨u1,h1,h2⟩:=zm7 hT hs he yA
   obtain ⟨us,h3,h4⟩:=ih WO EX
   refine ⟨u1::us,.cons h2 h3,?_⟩
   rw [List.mapM_cons]
   simp only [Sem.run_bind,h1,Result.andThen_ok,h4,Sem.run_pure]
 have cP:∀ us:List ai,(fn.results.toList.mapM (NW tmps)).run P w=.ok us w ->
  (results fn tmps).run P w=.ok (if h:us.toArray.size=1 then us.toArray[0] else .tuple us.toArray) w:=by
  intro us h1
  rw [zuU,Array.mapM_eq_mapM_toList]
  simp only [Sem.run_bind,Sem.run_map,h1,Result.andThen_ok,Sem.run_pure]
 unfold nI at hr
 split at hr
 .rename_i r EI
  obtain ⟨us,h1,h2⟩:=n8 [r] [v] (by simp [hr])
  obtain ⟨u,us',rfl,hu,hn⟩:=h1.of_cons
  have:=hn.of_nil
  subst this
  refine ⟨u,?_,hu⟩
  have:=cP [u] (by rw [EI];exact h2)
  simpa using this
 .rename_i aM
  simp only [ct] at hr
  obtain ⟨vs,iw,rfl⟩:=hr
  obtain ⟨us,h1,h2⟩:=n8 _ vs iw
  refine ⟨.tuple us.toArray,?_,h1.jk⟩
  have:=cP us h2
  rw [this]
  congr 1
  have hlen:us.length≠1:=by
   intro bU
   have hl:fn.results.toList.length=us.length:=by
    have e1:vs.length=us.length:=h1.1
    have e2:∀ (rs:List ResultVar) (vs:List ai),rs.mapM (uy T e h)=some vs->rs.length=vs.length:=by
     intro rs
     induction rs with
     |nil=>intro vs iw;simp at iw;subst iw;rfl
     |cons r rs ih =>
      intro vs iw
      rw [List.mapM_cons] at iw
      simp only [Option.bind_eq_bind,cG,Option.pure_def,eh] at iw
      obtain ⟨v1,yA,WO,EX,rfl⟩:=iw
      simp [ih WO EX]
    rw [e2 _ _ iw,e1]
   rw [bU] at hl
   match hm:fn.results.toList,hl with
   | [r],_=>exact aM r hm
  rw [dif_neg (by simpa using hlen)]
end
end Go.Am
