/- The plain machine: a deterministic evaluator of the model's code over a heap of its own. Definitions alone; no condition. -/
import GoSem.Step
import Derived.Calls
import Derived.Below
import Derived.Laws.AppendOwn
import Derived.Laws.MakeOwn
import Derived.Laws.CopyRow
import Derived.Deep.MidRow
import Derived.Lib.Space
import Derived.Laws.StructEq
import Derived.ChangeKeysEq
import Derived.RangeFuncRecord
import Derived.Laws.BytesArg
import Derived.Lib.ConvBytes
import Derived.CallsIn
import Derived.TacticsIn
import Derived.LoopNIn
import Derived.Scope
import Derived.RangeFuncLeaves
set_option linter.unusedSimpArgs false
namespace Go.Am
theorem HO:type_of% @Array.getElem?_eq_getElem:=@Array.getElem?_eq_getElem
theorem mY:type_of% @Array.getElem?_eq_some_iff:=@Array.getElem?_eq_some_iff
theorem xi:type_of% @Array.getElem?_push:=@Array.getElem?_push
theorem Jy:type_of% @Array.getElem?_setIfInBounds_ne:=@Array.getElem?_setIfInBounds_ne
theorem UN:type_of% @Array.getElem?_toList:=@Array.getElem?_toList
theorem qR:type_of% @Array.length_toList:=@Array.length_toList
theorem JQ:type_of% @Array.toList_append:=@Array.toList_append
theorem AR:type_of% @Array.toList_inj:=@Array.toList_inj
theorem RW:type_of% @Bool.and_eq_false_iff:=@Bool.and_eq_false_iff
theorem dP:type_of% @Bool.and_eq_true:=@Bool.and_eq_true
theorem iT:type_of% @Bool.and_self:=@Bool.and_self
theorem gW:type_of% @Bool.false_eq_true:=@Bool.false_eq_true
theorem Ih:type_of% @Bool.false_or:=@Bool.false_or
theorem C9:type_of% @Bool.not_eq_true':=@Bool.not_eq_true'
theorem qt:type_of% @Bool.or_eq_true:=@Bool.or_eq_true
theorem R3:type_of% @Int.toNat_natCast:=@Int.toNat_natCast
theorem gL:type_of% @List.all_cons:=@List.all_cons
theorem gK:type_of% @List.all_eq_true:=@List.all_eq_true
theorem ij:type_of% @List.all_nil:=@List.all_nil
theorem EP:type_of% @List.any_eq_false:=@List.any_eq_false
theorem wq:type_of% @List.any_eq_true:=@List.any_eq_true
theorem jD:type_of% @List.append_assoc:=@List.append_assoc
theorem bu:type_of% @List.append_nil:=@List.append_nil
theorem wt:type_of% @List.cons_append:=@List.cons_append
theorem R9:type_of% @List.drop_append:=@List.drop_append
theorem Dd:type_of% @List.drop_drop:=@List.drop_drop
theorem C0:type_of% @List.drop_eq_getElem_cons:=@List.drop_eq_getElem_cons
theorem zE:type_of% @List.drop_of_length_le:=@List.drop_of_length_le
theorem zO:type_of% @List.drop_zero:=@List.drop_zero
theorem Uo:type_of% @List.eq_nil_of_length_eq_zero:=@List.eq_nil_of_length_eq_zero
theorem r8:type_of% @List.ext_getElem? := @List.ext_getElem?
theorem zL:type_of% @List.filter_append:=@List.filter_append
theorem ER:type_of% @List.filter_cons:=@List.filter_cons
theorem RH:type_of% @List.filter_eq_nil_iff:=@List.filter_eq_nil_iff
theorem RX:type_of% @List.filter_eq_self:=@List.filter_eq_self
theorem RY:type_of% @List.filter_sublist:=@List.filter_sublist
theorem J4:type_of% @List.flatMap_cons:=@List.flatMap_cons
theorem wu:type_of% @List.foldl_cons:=@List.foldl_cons
theorem kK:type_of% @List.getD_eq_getElem?_getD:=@List.getD_eq_getElem?_getD
theorem xj:type_of% @List.getElem?_append:=@List.getElem?_append
theorem mX:type_of% @List.getElem?_append_left:=@List.getElem?_append_left
theorem px:type_of% @List.getElem?_append_right:=@List.getElem?_append_right
theorem AH:type_of% @List.getElem?_cons_zero:=@List.getElem?_cons_zero
theorem lA:type_of% @List.getElem?_drop:=@List.getElem?_drop
theorem gI:type_of% @List.getElem?_eq_getElem:=@List.getElem?_eq_getElem
theorem H5:type_of% @List.getElem?_eq_none:=@List.getElem?_eq_none
theorem dz:type_of% @List.getElem?_eq_some_iff:=@List.getElem?_eq_some_iff
theorem lB:type_of% @List.getElem?_map:=@List.getElem?_map
theorem C5:type_of% @List.getElem?_modify:=@List.getElem?_modify
theorem AP:type_of% @List.getElem?_of_mem:=@List.getElem?_of_mem
theorem sX:type_of% @List.getElem?_set:=@List.getElem?_set
theorem lX:type_of% @List.getElem?_take:=@List.getElem?_take
theorem HQ:type_of% @List.getElem?_take_of_lt:=@List.getElem?_take_of_lt
theorem JR:type_of% @List.getElem_of_mem:=@List.getElem_of_mem
theorem cW:type_of% @List.length_append:=@List.length_append
theorem de:type_of% @List.length_cons:=@List.length_cons
theorem lk:type_of% @List.length_drop:=@List.length_drop
theorem zG:type_of% @List.length_eq_zero_iff:=@List.length_eq_zero_iff
theorem AO:type_of% @List.length_filter_le:=@List.length_filter_le
theorem fV:type_of% @List.length_map:=@List.length_map
theorem dr:type_of% @List.length_nil:=@List.length_nil
theorem H6:type_of% @List.length_replicate:=@List.length_replicate
theorem nU:type_of% @List.length_set:=@List.length_set
theorem sW:type_of% @List.length_singleton:=@List.length_singleton
theorem fj:type_of% @List.length_take:=@List.length_take
theorem AU:type_of% @List.map_append:=@List.map_append
theorem RZ:type_of% @List.map_congr_left:=@List.map_congr_left
theorem mZ:type_of% @List.map_cons:=@List.map_cons
theorem Ij:type_of% @List.map_map:=@List.map_map
theorem oV:type_of% @List.mem_append:=@List.mem_append
theorem UO:type_of% @List.mem_append_right:=@List.mem_append_right
theorem dG:type_of% @List.mem_cons:=@List.mem_cons
theorem gJ:type_of% @List.mem_cons_of_mem:=@List.mem_cons_of_mem
theorem lj:type_of% @List.mem_cons_self:=@List.mem_cons_self
theorem J5:type_of% @List.mem_filter:=@List.mem_filter
theorem J1:type_of% @List.mem_flatMap:=@List.mem_flatMap
theorem ud:type_of% @List.mem_map:=@List.mem_map
theorem R0:type_of% @List.mem_map_of_mem:=@List.mem_map_of_mem
theorem ig:type_of% @List.mem_of_getElem? := @List.mem_of_getElem?
theorem uc:type_of% @List.mem_range:=@List.mem_range
theorem iq:type_of% @List.mem_singleton:=@List.mem_singleton
theorem qu:type_of% @List.nil_append:=@List.nil_append
theorem R4:type_of% @List.nodup_append:=@List.nodup_append
theorem AV:type_of% @List.nodup_cons:=@List.nodup_cons
theorem xk:type_of% @List.not_mem_nil:=@List.not_mem_nil
theorem ub:type_of% @List.pairwise_cons:=@List.pairwise_cons
theorem Jz:type_of% @List.pairwise_iff_getElem:=@List.pairwise_iff_getElem
theorem EM:type_of% @List.set_cons_succ:=@List.set_cons_succ
theorem gX:type_of% @List.set_cons_zero:=@List.set_cons_zero
theorem H8:type_of% @List.size_toArray:=@List.size_toArray
theorem J9:type_of% @List.sum_cons:=@List.sum_cons
theorem nT:type_of% @List.take_add_one:=@List.take_add_one
theorem qo:type_of% @List.take_append_drop:=@List.take_append_drop
theorem AQ:type_of% @List.take_length:=@List.take_length
theorem fX:type_of% @List.take_of_length_le:=@List.take_of_length_le
theorem R1:type_of% @List.take_succ_cons:=@List.take_succ_cons
theorem zP:type_of% @List.take_zero:=@List.take_zero
theorem oW:type_of% @Nat.add_assoc:=@Nat.add_assoc
theorem sZ:type_of% @Nat.add_mul:=@Nat.add_mul
theorem C7:type_of% @Nat.add_sub_cancel:=@Nat.add_sub_cancel
theorem UC:type_of% @Nat.add_sub_cancel_left:=@Nat.add_sub_cancel_left
theorem jh:type_of% @Nat.add_zero:=@Nat.add_zero
theorem J6:type_of% @Nat.le_max_left:=@Nat.le_max_left
theorem H7:type_of% @Nat.le_max_right:=@Nat.le_max_right
theorem bo:type_of% @Nat.le_refl:=@Nat.le_refl
theorem EZ:type_of% @Nat.le_succ:=@Nat.le_succ
theorem il:type_of% @Nat.le_trans:=@Nat.le_trans
theorem eW:type_of% @Nat.lt_of_lt_of_le:=@Nat.lt_of_lt_of_le
theorem mq:type_of% @Nat.lt_or_ge:=@Nat.lt_or_ge
theorem xl:type_of% @Nat.lt_succ_self:=@Nat.lt_succ_self
theorem R5:type_of% @Nat.lt_trichotomy:=@Nat.lt_trichotomy
theorem zN:type_of% @Nat.min_le_left:=@Nat.min_le_left
theorem EN:type_of% @Nat.min_le_right:=@Nat.min_le_right
theorem EO:type_of% @Nat.mod_eq_of_lt:=@Nat.mod_eq_of_lt
theorem zQ:type_of% @Nat.mul_comm:=@Nat.mul_comm
theorem J8:type_of% @Nat.mul_le_mul:=@Nat.mul_le_mul
theorem py:type_of% @Nat.mul_le_mul_right:=@Nat.mul_le_mul_right
theorem Dg:type_of% @Nat.mul_one:=@Nat.mul_one
theorem J7:type_of% @Nat.not_lt_zero:=@Nat.not_lt_zero
theorem Df:type_of% @Nat.sub_self:=@Nat.sub_self
theorem r9:type_of% @Nat.succ_mul:=@Nat.succ_mul
theorem se:type_of% @Nat.succ_pos:=@Nat.succ_pos
theorem iu:type_of% @Nat.zero_add:=@Nat.zero_add
theorem sg:type_of% @Nat.zero_le:=@Nat.zero_le
theorem cH:type_of% @Option.bind_eq_some_iff:=@Option.bind_eq_some_iff
theorem dX:type_of% @Option.bind_some:=@Option.bind_some
theorem J3:type_of% @Option.getD_some:=@Option.getD_some
theorem R2:type_of% @Option.isSome_none:=@Option.isSome_none
theorem J0:type_of% @Option.isSome_some:=@Option.isSome_some
theorem cC:type_of% @Option.map_eq_some_iff:=@Option.map_eq_some_iff
theorem jZ:type_of% @Option.map_some:=@Option.map_some
theorem dY:type_of% @Option.some.injEq:=@Option.some.injEq
theorem df:type_of% @Prod.mk.injEq:=@Prod.mk.injEq
theorem uW:type_of% @decide_eq_false:=@decide_eq_false
theorem sY:type_of% @decide_eq_true:=@decide_eq_true
theorem gY:type_of% @decide_eq_true_eq:=@decide_eq_true_eq
theorem az:type_of% @if_neg:=@if_neg
theorem aE:type_of% @if_pos:=@if_pos

inductive bh where
 |row (cells:List Value) (elem:TypeId) (ro:Bool)
 |map (es:List MapEntry) (clock:Nat)
 |loop (env:List Value) (ps:List Tmp) (assign body:Code) (st:LoopState) (gh:Option Code)
 |dead

inductive Tr where
 |nil
 |node (v:Option bh) (l r:Tr)

def Tr.get:Tr->Nat->Option bh
 | .nil,_=>none
 | .node v l r,i=>match i with
  |0=>v
  |i+1=>if i % 2 == 0 then l.get (i / 2) else r.get (i / 2)

def Tr.set:Nat->Tr->Nat->bh->Tr
 |0,t,_,_=>t
 |n+1,t,i,o =>
  match t with
  | .nil=>match i with
   |0=>.node (some o) .nil .nil
   |i+1=>if i % 2 == 0 then .node none (Tr.set n .nil (i / 2) o) .nil else .node none .nil (Tr.set n .nil (i / 2) o)
  | .node v l r=>match i with
   |0=>.node (some o) l r
   |i+1=>if i % 2 == 0 then .node v (Tr.set n l (i / 2) o) r else .node v l (Tr.set n r (i / 2) o)

structure Heap where
 size:Nat
 tr:Tr
 low:Nat
abbrev aG:=Value->Heap->Prop
abbrev aB:=ByteArray
abbrev ae:=Value

def Heap.get (h:Heap) (A:Nat):Option bh:=if A < h.size then h.tr.get A else none
def Heap.push (h:Heap) (b:bh):Heap:={ h with size:=h.size+1,tr:=h.tr.set (h.size+1) h.size b }
def Heap.set (h:Heap) (A:Nat) (b:bh):Heap:={ h with tr:=h.tr.set (A+1) A b,low:=min h.low A }
def Heap.empty:Heap:=⟨0,.nil,0⟩

def G:Nat:=18446744073709551616

abbrev Env:=List ae
def Env.get:Env->Nat->ae
 | [],_=>undef
 |v::_,0=>v
 |_::r,n+1=>Env.get r n
def Env.set:Env->Nat->ae->Env
 | [],_,_=>[]
 |_::r,0,v=>v::r
 |x::r,n+1,v=>x::Env.set r n v

def mN:ae->Bool
 | .bool _ | .int _ _ | .string _ | .nilFunc | .nilIface=>true
 | .pointer none | .map none=>true
 | .slice none n c=>n == 0 && c == 0
 | .func (.func _) f c=>f.isEmpty && c.isEmpty
 |_=>false
def plain:ae->Bool
 | .agg cs=>cs.toList.all mN
 |v=>mN v
def one:ae->Bool
 | .agg _ | .tuple _=>false
 |_=>true

def gT {Z:Type} (P:Program):Sem Z->Option Z
 | .pure a=>some a
 | .program k=>gT P (k P)
 | .mark _ k=>gT P k
 |_=>none

structure bL where
 desc:TypeId->Option TypeDesc
 info:TypeId->Option (Nat × Nat × List ae)
 fn:FuncId->Option Func
 cmp:TypeId->Bool
 zero:TypeId->Option ae
 gs:List Nat
 y7:TypeId->String->Option Method
 MC:FuncId->Bool

section
variable (P:Program) (T:bL)

def cN (t:TypeId):Option Nat:=(T.info t).map (·.1)
def ct (t:TypeId):Option Bool:=(T.desc t).map fun
 | .struct _ | .array _ _=>true
 |_=>false

def cut (cs:List ae) (o n:Nat):Option (List ae):=if o+n<=cs.length then some ((cs.drop o).take n) else none
def aF (cs:List ae) (o:Nat) (vs:List ae):List ae:=cs.take o++vs++cs.drop (o+vs.length)

def gS (A o n:Nat) (h:Heap):Option (List ae) :=
 match h.get A with
 |some (.row cs _ _)=>cut cs o n
 |_=>none

def fW (t:TypeId) (x:ae) (h:Heap):Option ae :=
 match x with
 | .pointer (some ⟨A,o,none⟩) =>
  (ct T t).bind λg =>
   if g then (cN T t).bind λn=>(gS A o n h).map λl=>.agg l.toArray
   else (gS A o 1 h).bind λl=>l[0]?
 |_=>none

def kH (A o:Nat) (vs:List ae) (h:Heap):Option Heap :=
 match h.get A with
 |some (.row cs e false)=>if o+vs.length<=cs.length && vs.all one then some (h.set A (.row (aF cs o vs) e false)) else none
 |_=>none

def iS (t:TypeId) (x v:ae) (h:Heap):Option Heap :=
 match x with
 | .pointer (some ⟨A,o,none⟩)=>(cN T t).bind λn=>if v.cells.size=n then kH A o v.cells.toList h else none
 |_=>none

def newRow (e:TypeId) (cs:List ae) (h:Heap):ae × Heap:=(.pointer (some ⟨h.size,0,none⟩),h.push (.row cs e false))

def nQ (x:ae) (k:Nat) (h:Heap):Option (List ae) :=
 match x with
 | .slice (some ⟨A,o,none⟩) n _=>if n*k=0 then some [] else gS A o (n*k) h
 | .slice none 0 _=>some []
 |_=>none

def fT (x:ae) (k:Nat) (h:Heap):Option (Nat × List ae) :=
 match x with
 | .string b=>if k=1 then some (b.size,b.data.toList.map λu=>Value.int .u8 u.toNat) else none
 | .slice _ m _=>(nQ x k h).map λl=>(m,l)
 |_=>none

def iP (t:TypeId) (s x:ae) (h:Heap):Option (ae × Heap) :=
 match T.desc t with
 |some (.slice e)=>(T.info e).bind λ(k,bytes,_) =>
  (fT x k h).bind λ(m,news) =>
  match s with
  | .slice base n c =>
   if m=0 then some (s,h) else
   if k=0 || (n+m)*bytes > 140737488355328 || n+m > 1152921504606846976 || !news.all one then none else
   if n+m<=c % G then
    match base with
    |some ⟨A,o,none⟩=>if c < G || c / G=k then (kH A (o+n*k) news h).map λh'=>(.slice base (n+m) c,h') else none
    |_=>none
   else
    (nQ s k h).bind λeT =>
    if c < G then some (.slice (some ⟨h.size,0,none⟩) (n+m) (G*k+(n+m)),h.push (.row (eT++news) e false))
    else match base with
     |some ⟨A,_,none⟩=>match h.get A with
      |some (.row _ e' false) =>
       if e'=e && c / G=k then some (.slice (some ⟨h.size,0,none⟩) (n+m) (G*k+(n+m)),(h.set A .dead).push (.row (eT++news) e false)) else none
      |_=>none
     |_=>none
  |_=>none
 |_=>none

def zF (x:ae) (hi:Nat):Option Nat :=
 match x with
 | .int _ i=>if 0<=i/\i<=hi then some i.toNat else none
 |_=>none

def qI (len cap:Nat) (l h m:Option ae):Option (Nat × Nat × Nat) :=
 (match m with|some v=>zF v cap|none=>some cap).bind λm' =>
 (match h,m with|some v,_=>zF v m'|none,none=>some len|none,some _=>none).bind λh' =>
 (match l with|some v=>zF v h'|none=>some 0).bind λl'=>some (l',h',m')

def jY (t:TypeId) (x:ae) (l h m:Option ae):Option ae :=
 match T.desc t,x with
 |some .string,.string s=>if m.isSome then none else (qI s.size s.size l h none).map λ(l',h',_)=>.string (s.extract l' h')
 |some (.array n e),.pointer (some ⟨A,o,none⟩) =>
  (if n < G then qI n n l h m else none).bind λ(l',h',m')=>(cN T e).map λk=>.slice (some ⟨A,if m'=l' then o else o+l'*k,none⟩) (h' - l') (m' - l')
 |some (.slice e),.slice a n c =>
  (cN T e).bind λk =>
  if c < G then
   (qI n c l h m).bind λ(l',h',m')=>match a with
    |some ⟨A,o,none⟩=>some (.slice (some ⟨A,if m'=l' then o else o+l'*k,none⟩) (h' - l') (m' - l'))
    |none=>some (.slice none (h' - l') (m' - l'))
    |_=>none
  else match a with
   |some ⟨A,o,none⟩ =>
    if c / G=k then
     (qI n (c % G) l h m).map λ(l',h',m')=>match m with
      |some _=>.slice (some ⟨A,if m'=l' then o else o+l'*k,none⟩) (h' - l') (m' - l')
      |none=>.slice (some ⟨A,o+l'*k,none⟩) (h' - l') (G*k+(m' - l'))
    else none
   |_=>none
 |_,_=>none

def jF (t:TypeId) (x i:ae):Option ae :=
 match i with
 | .int _ i=>match T.desc t,x with
  |some (.array n e),.pointer (some ⟨A,o,none⟩)=>if 0<=i/\i < n then (cN T e).map λk=>.pointer (some ⟨A,o+i.toNat*k,none⟩) else none
  |some (.slice e),.slice (some ⟨A,o,none⟩) n _=>if 0<=i/\i < n then (cN T e).map λk=>.pointer (some ⟨A,o+i.toNat*k,none⟩) else none
  |_,_=>none
 |_=>none

def fU (s:TypeId) (x:ae) (f:Nat):Option ae :=
 match T.desc s,x with
 |some (.struct fs),.pointer (some ⟨A,o,none⟩) =>
  (fs[f]?).bind λf=>(cN T f.type).bind λn=>if n=0 then none else some (.pointer (some ⟨A,o+f.offset,none⟩))
 |_,_=>none

def wk (t:TypeId) (cs:List ae) (o:Nat):Option ae :=
 (ct T t).bind λg=>if g then (cN T t).bind λn=>(cut cs o n).map λl=>.agg l.toArray else cs[o]?

def Sb (t:TypeId) (x:ae) (f:Nat):Option ae :=
 match T.desc t,x with
 |some (.struct fs),.agg cs=>(fs[f]?).bind λf=>wk T f.type cs.toList f.offset
 |_,_=>none

def CP (E:TypeId->ae->ae->Option Bool) (xs ys:List ae):List (TypeId × Nat)->Option Bool
 | []=>some true
 |(t,o)::r=>(wk T t xs o).bind λa=>(wk T t ys o).bind λb=>(E t a b).bind λc=>if c then CP E xs ys r else some false
def Jf:List Field->Option (List (TypeId × Nat))
 | []=>some []
 |f::fs=>if f.name="_" then none else (Jf fs).map λr=>(f.type,f.offset)::r
def Jn (e:TypeId) (k:Nat):Nat->Nat->List (TypeId × Nat)
 |0,_=>[]
 |n+1,i=>(e,i*k)::Jn e k n (i+1)
def fH:Nat->TypeId->ae->ae->Option Bool
 |0,_,_,_=>none
 |d+1,t,x,y=>match T.desc t,x,y with
  |some .bool,.bool a,.bool b=>some (a == b)
  |some (.int _),.int k a,.int k' b=>if k=k' then some (a == b) else none
  |some .string,.string a,.string b=>some (a.data.toList == b.data.toList)
  |some (.struct fs),.agg xs,.agg ys=>if T.cmp t then (Jf fs.toList).bind λps=>CP T (fH d) xs.toList ys.toList ps else none
  |some (.array n e),.agg xs,.agg ys=>(cN T e).bind λk=>CP T (fH d) xs.toList ys.toList (Jn e k n 0)
  |_,_,_=>none

def sU (place:Nat->Option (Nat × Nat)) (cells:List ae):List (Nat × ae)->Option (List ae)
 | []=>some cells
 |(i,v)::rest=>(place i).bind λ(o,n) =>
  if v.cells.size=n/\o+n<=cells.length then sU place (aF cells o v.cells.toList) rest else none

def RR:List Field->Option (List (Nat × Nat))
 | []=>some []
 |f::fs=>(cN T f.type).bind λn=>(RR fs).map λr=>(f.offset,n)::r

def od (t:TypeId) (parts:List (Nat × ae)):Option ae :=
 (T.info t).bind λ(_,_,z) =>
 match T.desc t with
 |some (.struct fs)=>(RR T fs.toList).bind λplaces=>(sU (λk=>places[k]?) z parts).map λcs=>.agg cs.toArray
 |some (.array _ e)=>(cN T e).bind λk=>(sU (λi=>some (i*k,k)) z parts).map λcs=>.agg cs.toArray
 |_=>none

def oU (z:List ae) (n:Nat):List ae:=(List.replicate n z).flatten

def zl (t:TypeId) (len:Nat) (parts:List (Nat × ae)) (h:Heap):Option (ae × Heap) :=
 match T.desc t with
 |some (.slice e)=>(T.info e).bind λ(k,_,z) =>
  if len*k > 16777216 || len > 16777216 then none else
  (sU (λi=>some (i*k,k)) (oU z len) parts).map λcs=>(.slice (some ⟨h.size,0,none⟩) len len,h.push (.row cs e false))
 |_=>none

def Rb (t:TypeId) (l c:ae) (h:Heap):Option (ae × Heap) :=
 match T.desc t,l,c with
 |some (.slice e),.int _ l,.int _ c=>(T.info e).bind λ(_,bytes,z) =>
  if 0<=l/\l<=c/\c<=1152921504606846976/\c*bytes<=140737488355328 then
   some (.slice (some ⟨h.size,0,none⟩) l.toNat c.toNat,h.push (.row (oU z c.toNat) e false))
  else none
 |_,_,_=>none

def SD (t:TypeId) (d s:ae) (h:Heap):Option (ae × Heap) :=
 match T.desc t,d with
 |some (.slice e),.slice a n _=>(cN T e).bind λk =>
  (fT s k h).bind λ(m,src) =>
  if min m n=0 then some (.int .i64 0,h) else
  match a with
  |some ⟨A,o,none⟩=>(kH A o (src.take (min m n*k)) h).map λh'=>(.int .i64 (min m n:Nat),h')
  |_=>none
 |_,_=>none

def rV (t:TypeId) (x:ae) (h:Heap):Option Heap :=
 match T.desc t,x with
 |some (.slice e),.slice a n _ =>
  if n=0 then some h else
  (T.info e).bind λ(_,_,z) =>
  match a with
  |some ⟨A,o,none⟩=>kH A o (oU z n) h
  |_=>none
 |_,_=>none

def EU (d:TypeDesc) (x y:ae):Option Bool :=
 match d,x,y with
 | .pointer _,.pointer none,.pointer b=>some b.isNone
 | .pointer _,.pointer (some _),.pointer none=>some false
 | .slice _,.slice none _ _,.slice b _ _=>some b.isNone
 | .slice _,.slice (some _) _ _,.slice none _ _=>some false
 | .map _ _,.map none,.map b=>some b.isNone
 | .map _ _,.map (some _),.map none=>some false
 | .func _ _ _,.nilFunc,.nilFunc=>some true
 | .func _ _ _,.nilFunc,.func _ _ _=>some false
 | .func _ _ _,.func _ _ _,.nilFunc=>some false
 |_,_,_=>none

def sL (op:BinOp) (x y:ae):Option ae :=
 match op,x,y with
 | .add,.int k a,.int k' b=>if k=k' then some (.int k (k.wrap (a+b))) else none
 | .sub,.int k a,.int k' b=>if k=k' then some (.int k (k.wrap (a - b))) else none
 | .eql,.int k a,.int k' b=>if k=k' then some (.bool (a == b)) else none
 | .neq,.int k a,.int k' b=>if k=k' then some (.bool (a != b)) else none
 | .lss,.int k a,.int k' b=>if k=k' then some (.bool (a < b)) else none
 | .leq,.int k a,.int k' b=>if k=k' then some (.bool (a<=b)) else none
 | .gtr,.int k a,.int k' b=>if k=k' then some (.bool (a > b)) else none
 | .geq,.int k a,.int k' b=>if k=k' then some (.bool (a >= b)) else none
 |_,_,_=>none

def bY (op:BinOp) (t:TypeId) (x y:ae):Option ae :=
 match sL op x y with
 |some v=>some v
 |none =>
  match (T.desc t).bind λd=>EU d x y with
  |some b=>(match op with | .eql=>some (.bool b) | .neq=>some (.bool !b)|_=>none)
  |none =>
   if plain x && plain y then
    match x,y with
    | .nilIface,_=>none
    | .agg _,.agg _=>if T.cmp t then (match op with
     | .eql=>(fH T 20 t x y).map λb=>.bool b
     | .neq=>(fH T 20 t x y).map λb=>.bool !b
     |_=>none) else none
    |_,_=>(gT P (binOp op t x y)).bind λv=>if plain v then some v else none
   else none

def bt (t:TypeId) (x:ae) (h:Heap):Option ae :=
 match T.desc t,x with
 |some .string,.string s=>some (.int .i64 s.size)
 |some (.slice _),.slice _ n _=>some (.int .i64 n)
 |some (.map _ _),.map none=>some (.int .i64 0)
 |some (.map _ _),.map (some A)=>(match h.get A with
  |some (.map es _)=>some (.int .i64 es.length)
  |_=>none)
 |_,_=>none

def Ii:ae->ae->Bool
 | .bool a,.bool b=>a == b
 | .int j a,.int k b=>decide (j=k) && a == b
 | .string a,.string b=>a.data.toList == b.data.toList
 |_,_=>false
def JH:List ae->List ae->Bool
 | [],[]=>true
 |x::xs,y::ys=>Ii x y && JH xs ys
 |_,_=>false
def HJ:ae->ae->Bool
 | .agg a,.agg b=>JH a.toList b.toList
 |x,y=>Ii x y
def wj (kt:TypeId) (k:ae):Bool:=if plain k then (match fH T 20 kt k k with|some b=>b|none=>false) else false
def qO (kt:TypeId) (k:ae):List MapEntry->Nat->Option (Option (Nat × ae))
 | [],_=>some none
 |e::es,i=>(fH T 20 kt k e.key).bind λb=>if b then some (some (i,e.val)) else qO kt k es (i+1)
def SJ (x:ae) (h:Heap):Option (List MapEntry) :=
 match x with
 | .map none=>some []
 | .map (some A)=>(match h.get A with|some (.map es _)=>some es|_=>none)
 |_=>none
def CR (t:TypeId) (x k:ae) (ok:Bool) (h:Heap):Option ae :=
 match T.desc t with
 |some (.map kt et) =>
  if wj T kt k then
   (SJ x h).bind λes=>(qO T kt k es 0).bind λr=>(match r with
    |some (_,v)=>some (v,true)
    |none=>(T.zero et).map λz=>(z,false)).map λ(v,b)=>if ok then .tuple #[v,.bool b] else v
  else none
 |_=>none
def rT (t:TypeId) (x k v:ae) (h:Heap):Option Heap :=
 match T.desc t,x with
 |some (.map kt _),.map (some A)=>(match h.get A with
  |some (.map es clock) =>
   if wj T kt k then
    (qO T kt k es 0).bind λr=>match r with
     |some (i,_)=>(es[i]?).bind λe=>if HJ e.key k then some (h.set A (.map (es.modify i λe=>{ e with key:=k,val:=v }) clock)) else none
     |none=>some (h.set A (.map (es++[{ key:=k,val:=v,born:=clock }]) (clock+1)))
   else none
  |_=>none)
 |_,_=>none

def bz (e:Env):Operand->ae
 | .tmp t=>e.get t
 | .const v=>v
 | .global g=>.pointer (some ⟨g,0,none⟩)
 | .func f=>.func (.func f) #[] #[]

def AA (t:TypeId) (x k:ae) (h:Heap):Option Heap :=
 match T.desc t,x with
 |some (.map kt _),.map none=>if wj T kt k then some h else none
 |some (.map kt _),.map (some A)=>(match h.get A with
  |some (.map es clock) =>
   if wj T kt k then
    (qO T kt k es 0).bind λr=>match r with
     |some (i,_)=>some (h.set A (.map (es.eraseIdx i) clock))
     |none=>some (h.set A (.map es clock))
   else none
  |_=>none)
 |_,_=>none

def EH (t:TypeId) (x k:ae) (h:Heap):Option (ae × Heap) :=
 match T.desc t,x with
 |some (.map kt et),.map (some A)=>(match h.get A with
  |some (.map es clock) =>
   if wj T kt k then
    (qO T kt k es 0).bind λr=>match r with
     |some (i,v)=>(es[i]?).bind λe=>if HJ e.key k then some (.tuple #[v,.int .i64 e.born],h.set A (.map (es.modify i λe=>{ e with key:=k }) clock)) else none
     |none=>(T.zero et).map λz=>(.tuple #[z,.int .i64 clock],h.set A (.map (es++[{ key:=k,val:=z,born:=clock }]) (clock+1)))
   else none
  |_=>none)
 |_,_=>none
def JS (s:Int):List MapEntry->Nat->Option Nat
 | [],_=>none
 |e::es,i=>if (e.born:Int)=s then some i else JS s es (i+1)
def zm (x s v:ae) (h:Heap):Option Heap :=
 match x,s with
 | .map (some A),.int _ b=>(match h.get A with
  |some (.map es clock)=>(JS b es 0).map λi=>h.set A (.map (es.modify i λe=>{ e with val:=v }) clock)
  |_=>none)
 |_,_=>none

def JL (t:TypeId) (x:ae):Option ae:=match T.desc t with
 |some (.interface _)=>none
 |some _=>some (.iface t x)
 |none=>none
def RL (x:ae) (asserted:TypeId) (ok:Bool):Option ae:=match T.desc asserted with
 |some (.interface _)=>none
 |some _=>(match x with
  | .iface t v=>if t=asserted then some (if ok then .tuple #[v,.bool true] else v) else if ok then (T.zero asserted).map λz=>.tuple #[z,.bool false] else none
  | .nilIface=>if ok then (T.zero asserted).map λz=>.tuple #[z,.bool false] else none
  |_=>none)
 |none=>none
inductive gM where
 |val (v:ae)
 |var (p:ae)
def gM.get (t:TypeId) (h:Heap):gM->Option ae
 | .val v=>some v
 | .var p=>fW T t p h
def JD (h:Heap):List FieldStep->TypeId->gM->Option (TypeId × gM)
 | [],t,x=>some (t,x)
 |s::rest,t,x=>match T.desc s.struct with
  |some (.struct fs)=>(fs[s.index]?).bind λf =>
   if s.deref then (x.get T t h).bind λp=>(fU T s.struct p s.index).bind λq=>JD h rest f.type (.var q)
   else match x with
    | .var p=>(fU T s.struct p s.index).bind λq=>JD h rest f.type (.var q)
    | .val (.agg cs)=>(wk T f.type cs.toList f.offset).bind λv=>JD h rest f.type (.val v)
    |_=>none
  |_=>none
def zj2 (xt:TypeId) (x:gM) (ptr:Bool) (h:Heap):Option ae :=
 match T.desc xt,ptr,x with
 |some (.pointer _),true,x=>x.get T xt h
 |some (.pointer elem),false,x=>(x.get T xt h).bind λp=>fW T elem p h
 |some _,true,.var p=>(match p with | .pointer (some a)=>some (.pointer (some a))|_=>none)
 |some _,false,x=>x.get T xt h
 |_,_,_=>none
def wX (t:TypeId) (v:ae) (name:String) (h:Heap):Option (FuncId × ae) :=
 (T.y7 t name).bind λm=>(JD T h m.path.toList t (.val v)).bind λ(xt,x)=>match m.func with
  |some (f,ptr)=>(zj2 T xt x ptr h).map λr=>(f,r)
  |none=>none

def Sp:List ae->Option (List UInt8)
 | []=>some []
 | .int .u8 n::l=>(Sp l).map (UInt8.ofNat n.toNat::·)
 |_=>none
def UF (s d:TypeId) (x:ae) (h:Heap):Option ae :=
 match T.desc s,T.desc d,x with
 |some (.slice e),some .string,.slice _ _ _=>(match T.desc e with
  |some (.int .u8)=>(nQ x 1 h).bind λl=>(Sp l).map λbs=>.string ⟨bs.toArray⟩
  |_=>none)
 |_,_,_=>none
def Jx (d:TypeId) (x:ae) (h:Heap):Option (ae × Heap) :=
 match T.desc d,x with
 |some (.slice e),.string b=>(match T.desc e,T.info e with
  |some (.int .u8),some (1,_,_)=>if b.size > 1152921504606846976\/e≠5 then none else some (.slice (some ⟨h.size,0,none⟩) b.size (G*1+b.size),h.push (.row (b.data.toList.map λu=>Value.int .u8 u.toNat) e false))
  |_,_=>none)
 |_,_=>none
def UJ (t:TypeId):Bool:=match T.desc t with
 |some .string=>true
 |_=>false
def uP (t:TypeId):Bool:=match T.desc t with
 |some (.slice _)=>true
 |_=>false
def FC (t:TypeId) (x:ae):Option ae :=
 match T.desc t,x with
 |some (.slice _),.slice _ _ c=>if c < G then some (.int .i64 c) else none
 |_,_=>none

def ic (e:Env) (o:Oper) (h:Heap):Option (ae × Heap) :=
 if o.op.operands.toList.all λx=>plain (bz e x) then
  match gT P (execOp (bz e) o) with
  |some (.value v)=>if plain v then some (v,h) else none
  |_=>none
 else none

def rW (t u:TypeId):Bool:=u == t || (match T.desc u with|some .string|some (.slice _)=>true|_=>false)

variable (C:Fn->List ae->Heap->Option (ae × Heap))

def jc (e:Env) (o:Oper) (h:Heap):Option (ae × Heap) :=
 let v:=bz e
 match o.op with
 | .move x=>some (v x,h)
 | .assign x=>some (v x,h)
 | .pick c a b=>match v c with | .bool t=>some (if t then v a else v b,h)|_=>none
 | .alloc t=>(T.info t).map λ(_,_,z)=>newRow t z h
 | .box t x=>some (newRow t (v x).cells.toList h)
 | .build t ps=>(od T t (ps.toList.map λ(i,x)=>(i,v x))).map λr=>(r,h)
 | .buildSlice t n ps=>zl T t n (ps.toList.map λ(i,x)=>(i,v x)) h
 | .load t a=>(fW T t (v a) h).map λr=>(r,h)
 | .store t a x=>(iS T t (v a) (v x) h).map λh'=>(undef,h')
 | .nilCheck x=>match v x with
  | .pointer (some a)=>some (.pointer (some a),h)
  | .func (.func f) a b=>some (.func (.func f) a b,h)
  | .iface t a=>some (.iface t a,h)
  |_=>none
 | .binOp op t x y _=>(bY P T op t (v x) (v y)).map λr=>(r,h)
 | .makeFunc fn first captured=>match fn with | .func f=>some (.func (.func f) (first.map v) (captured.map v),h)|_=>none
 | .makeSlice t l c=>Rb T t (v l) (v c) h
 | .slice t x l hi m=>(jY T t (v x) (l.map v) (hi.map v) (m.map v)).map λr=>(r,h)
 | .fieldAddr s x f=>(fU T s (v x) f).map λr=>(r,h)
 | .field t x f=>(Sb T t (v x) f).map λr=>(r,h)
 | .indexAddr t x i=>(jF T t (v x) (v i)).map λr=>(r,h)
 | .extract t i=>match v t with | .tuple vs=>(vs[i]?).map λr=>(r,h)|_=>none
 | .unOp _ _ _=>ic P e o h
 | .convert s d x=>if uP T s then (UF T s d (v x) h).map λr=>(r,h) else if uP T d then (if UJ T s then Jx T d (v x) h else none) else ic P e o h
 | .index _ _ _=>ic P e o h
 | .call c=>match c.callee with
  | .builtin .append=>match c.argTypes.toList,c.args.toList with
   | [t,u],[s,x]=>if rW T t u then iP T t (v s) (v x) h else none
   |_,_=>none
  | .builtin .copy=>match c.argTypes.toList,c.args.toList with
   | [t,_],[d,s]=>SD T t (v d) (v s) h
   |_,_=>none
  | .builtin .clear=>match c.argTypes.toList,c.args.toList with
   | [t],[x]=>(rV T t (v x) h).map λh'=>(undef,h')
   |_,_=>none
  | .builtin .len=>match c.argTypes.toList,c.args.toList with
   |t::_,[x]=>(bt T t (v x) h).map λr=>(r,h)
   |_,_=>none
  | .builtin .min=>ic P e o h
  | .builtin .max=>ic P e o h
  | .builtin .delete=>match c.argTypes.toList,c.args.toList with
   |t::_,[m,k]=>(AA T t (v m) (v k) h).map λh'=>(undef,h')
   |_,_=>none
  | .builtin .cap=>match c.argTypes.toList,c.args.toList with
   |t::_,[x]=>(FC T t (v x)).map λr=>(r,h)
   |_,_=>none
  | .invoke r name=>match v r with
   | .iface t x=>(wX T t x name h).bind λ(f,y)=>C (.func f) (y::c.args.toList.map v) h
   |_=>none
  | .value f=>match v f with
   | .func (.func f) first captured=>C (.func f) (first.toList++c.args.toList.map v++captured.toList) h
   | .func (.yield A) first captured=>if first.isEmpty && captured.isEmpty then C (.yield A) (c.args.toList.map v) h else none
   |_=>none
  |_=>none
 | .makeMap t r=>match r with
  |none=>some (.map (some h.size),h.push (.map [] 0))
  |some x=>(match T.desc t,v x with
   |some (.map _ _),.int _ _=>some (.map (some h.size),h.push (.map [] 0))
   |_,_=>none)
 | .lookup t x k ok=>(CR T t (v x) (v k) ok h).map λr=>(r,h)
 | .mapUpdate t m k x=>(rT T t (v m) (v k) (v x) h).map λh'=>(undef,h')
 | .insert t m k x=>(rT T t (v m) (v k) (v x) h).map λh'=>(undef,h')
 | .mapEntry t m k=>EH T t (v m) (v k) h
 | .entryStore _ m s x=>(zm (v m) (v s) (v x) h).map λh'=>(undef,h')
 | .makeInterface t x=>(JL T t (v x)).map λr=>(r,h)
 | .typeAssert x _ t ok=>(RL T (v x) t ok).map λr=>(r,h)
 |_=>none

def nP (ops:Array Oper) (o:Oper) (e:Env):Bool :=
 match o.guard with
 |none=>true
 |some (j,b)=>match (ops[j]?).bind (·.dst) with
  |some t=>(match e.get t with | .bool c=>c == b|_=>false)
  |none=>false

def put (e:Env) (d:Option Tmp) (v:ae):Env:=match d with
 |some d=>e.set d v
 |none=>e

def tU (ops:Array Oper):List Oper->Env->Heap->Option (Env × Heap)
 | [],e,h=>some (e,h)
 |o::rest,e,h =>
  if nP ops o e then
   match jc P T C e o h with
   |some (v,h')=>tU ops rest (put e o.dst v) h'
   |none=>none
  else tU ops rest (put e o.dst undef) h

inductive Ex where
 |normal
 |exit (id:Nat)
 |ret

def iter (f:Env->Heap->Option (Ex × Env × Heap)):Nat->Env->Heap->Option (Ex × Env × Heap)
 |0,_,_=>none
 |n+1,e,h=>match f e h with
  |some (.normal,e',h')=>iter f n e' h'
  |r=>r

variable (D:Array Oper->Env->Heap->Option (Env × Heap))

def UD (rd:Option Nat) (h:Heap):Bool:=match rd with
 |none=>true
 |some A=>(match h.get A with|some (.loop ..)=>true|_=>false)
def Et (l:Nat) (e:Env) (h:Heap):Option (Ex × Env × Heap) :=
 match h.get l with
 |some (.loop env ps assign body st gh)=>(match st with
  | .busy=>none
  |_=>(match gh with
   |none=>some (.normal,e,h.set l (.loop env ps assign body .exhausted gh))
   |some (.exit id)=>some (.exit id,e,h.set l (.loop env ps assign body .exhausted gh))
   |some .ret=>some (.ret,e,h.set l (.loop env ps assign body .exhausted gh))
   |_=>none))
 |_=>none
def RU (f:FuncId):Bool:=match T.fn f with
 |some fn=>(match fn.body with|some _=>true|none=>false)
 |none=>false
def JO (rd:Option Nat) (g:ae) (ps:List Tmp) (assign body:Code) (e:Env) (h:Heap):Option (Ex × Env × Heap) :=
 match g with
 | .func (.func f) first captured =>
  if UD rd h && RU T f then
   match C (.func f) (first.toList++[.func (.yield h.size) #[] #[]]++captured.toList) (h.push (.loop e ps assign body .ready none)) with
   |some (_,h2)=>Et h.size e h2
   |none=>none
  else none
 |_=>none

def en (rd:Option Nat) (fuel:Nat):Code->Env->Heap->Option (Ex × Env × Heap)
 | .skip,e,h=>some (.normal,e,h)
 | .region _ ops d,e,h=>(if d then D ops e h else tU P T C ops ops.toList e h).map λ(e',h')=>(.normal,e',h')
 | .seq a b,e,h=>match en rd fuel a e h with
  |some (.normal,e',h')=>en rd fuel b e' h'
  |r=>r
 | .cond c a b,e,h=>match bz e c with
  | .bool true=>en rd fuel a e h
  | .bool false=>en rd fuel b e h
  |_=>none
 | .block id c,e,h=>match en rd fuel c e h with
  |some (.exit i,e',h')=>if i=id then some (.normal,e',h') else some (.exit i,e',h')
  |r=>r
 | .loop c,e,h=>iter (en rd fuel c) fuel e h
 | .scope c,e,h=>en rd fuel c e h
 | .rangeFunc g ps assign body,e,h=>JO T C rd (bz e g) ps.toList assign body e h
 | .exit id,e,h=>some (.exit id,e,h)
 | .ret,e,h=>some (.ret,e,h)
 | .label _,e,h=>some (.normal,e,h)
 |_,_,_=>none

def sM (e:Env) (h:Heap):ResultVar->Option ae
 | .tmp t=>some (e.get t)
 | .cell a t=>fW T t (e.get a) h

def mV (fn:Func) (e:Env) (h:Heap):Option ae :=
 match fn.results.toList with
 | [r]=>sM T e h r
 |rs=>(rs.mapM (sM T e h)).map λvs=>.tuple vs.toArray
end

def Rp (gs:List Nat):Operand->Bool
 | .const v=>plain v
 | .global g=>gs.contains g
 |_=>true
def OQ (gs:List Nat) (o:Oper):Bool:=o.op.operands.toList.all (Rp gs)
def sP (gs:List Nat):Code->Bool
 | .region _ ops _=>ops.toList.all (OQ gs)
 | .seq a b=>sP gs a && sP gs b
 | .cond c a b=>Rp gs c && sP gs a && sP gs b
 | .block _ c=>sP gs c
 | .loop c=>sP gs c
 | .scope c=>sP gs c
 | .rangeFunc g _ a b=>Rp gs g && sP gs a && sP gs b
 |_=>true
end Go.Am
namespace Go.Am
open Go.RowKit
variable {h:Heap} {u v x:ae} {l m:List ae} {w:World}

theorem Tr.get_nil (i:Nat):Tr.get .nil i=none:=by cases i <;> rfl

theorem Tr.aR:∀ (n:Nat) (t:Tr) (i j:Nat) (o:bh),i < n->(Tr.set n t i o).get j=if j=i then some o else t.get j
 |0,_,_,_,_,h=>by omega
 |n+1,t,i,j,o,h=>by
  cases t with
  |nil =>
   cases i with
   |zero=>cases j with
    |zero=>simp [Tr.set,Tr.get]
    |succ j=>simp [Tr.set,Tr.get]
   |succ i =>
    have hi:i / 2 < n:=by omega
    by_cases he:i % 2=0
    .cases j with
     |zero=>simp [Tr.set,Tr.get,he]
     |succ j =>
      by_cases hj:j % 2=0
      .simp only [Tr.set,Tr.get,he,hj,beq_self_eq_true,if_true,Tr.aR n .nil (i / 2) (j / 2) o hi]
       by_cases e:j=i
       .subst e;simp
       .rw [az (by omega),az (by omega)]
      .have su:(j % 2 == 0)=false:=by simpa using hj
       simp only [Tr.set,Tr.get,he,su,beq_self_eq_true,if_true,gW,if_false]
       rw [az (by intro e;apply hj;have:j=i:=by omega
                  subst this;exact he)]
    .have Aa:(i % 2 == 0)=false:=by simpa using he
     cases j with
     |zero=>simp [Tr.set,Tr.get,Aa]
     |succ j =>
      by_cases hj:j % 2=0
      .simp only [Tr.set,Tr.get,Aa,hj,beq_self_eq_true,if_true,gW,if_false]
       rw [az (by intro e;apply he;have:j=i:=by omega
                  subst this;exact hj)]
      .have su:(j % 2 == 0)=false:=by simpa using hj
       simp only [Tr.set,Tr.get,Aa,su,gW,if_false,Tr.aR n .nil (i / 2) (j / 2) o hi]
       by_cases e:j=i
       .subst e;simp
       .rw [az (by omega),az (by omega)]
  |node v l r =>
   cases i with
   |zero=>cases j with
    |zero=>simp [Tr.set,Tr.get]
    |succ j=>simp [Tr.set,Tr.get]
   |succ i =>
    have hi:i / 2 < n:=by omega
    by_cases he:i % 2=0
    .cases j with
     |zero=>simp [Tr.set,Tr.get,he]
     |succ j =>
      by_cases hj:j % 2=0
      .simp only [Tr.set,Tr.get,he,hj,beq_self_eq_true,if_true,Tr.aR n l (i / 2) (j / 2) o hi]
       by_cases e:j=i
       .subst e;simp
       .rw [az (by omega),az (by omega)]
      .have su:(j % 2 == 0)=false:=by simpa using hj
       simp only [Tr.set,Tr.get,he,su,beq_self_eq_true,if_true,gW,if_false]
       rw [az (by intro e;apply hj;have:j=i:=by omega
                  subst this;exact he)]
    .have Aa:(i % 2 == 0)=false:=by simpa using he
     cases j with
     |zero=>simp [Tr.set,Tr.get,Aa]
     |succ j =>
      by_cases hj:j % 2=0
      .simp only [Tr.set,Tr.get,Aa,hj,beq_self_eq_true,if_true,gW,if_false]
       rw [az (by intro e;apply he;have:j=i:=by omega
                  subst this;exact hj)]
      .have su:(j % 2 == 0)=false:=by simpa using hj
       simp only [Tr.set,Tr.get,Aa,su,gW,if_false,Tr.aR n r (i / 2) (j / 2) o hi]
       by_cases e:j=i
       .subst e;simp
       .rw [az (by omega),az (by omega)]

theorem Heap.size_push (h:Heap) (b:bh):(h.push b).size=h.size+1:=rfl
theorem Heap.size_set (h:Heap) (A:Nat) (b:bh):(h.set A b).size=h.size:=rfl
theorem Heap.dv (h:Heap) (b:bh):(h.push b).low=h.low:=rfl
theorem Heap.bX (h:Heap) (A:Nat) (b:bh):(h.set A b).low=min h.low A:=rfl
theorem Heap.bx (h:Heap) (b:bh) (j:Nat):(h.push b).get j=if j=h.size then some b else h.get j:=by
 simp only [Heap.get,Heap.push,Tr.aR _ _ _ _ _ (xl _)]
 by_cases e:j=h.size
 .subst e;simp
 .by_cases hl:j < h.size
  .rw [aE (by omega),az e,aE hl,az e]
  .rw [az (by omega),az e,az hl]
theorem Heap.aR (h:Heap) (A:Nat) (b:bh) (j:Nat) (hA:A < h.size):(h.set A b).get j=if j=A then some b else h.get j:=by
 simp only [Heap.get,Heap.set,Tr.aR _ _ _ _ _ (xl _)]
 by_cases e:j=A
 .subst e;simp [hA]
 .by_cases hl:j < h.size
  .rw [aE hl,az e,aE hl,az e]
  .rw [az hl,az e,az hl]
theorem Heap.bF {A:Nat} {b:bh} (hb:h.get A=some b):A < h.size:=by
 unfold Heap.get at hb
 split at hb
 .assumption
 .cases hb

theorem Env.length_set:∀ (e:Env) (i:Nat) (v:ae),(Env.set e i v).length=e.length
 | [],_,_=>rfl
 |_::_,0,_=>rfl
 |x::r,n+1,v=>by simp [Env.set,Env.length_set r n v]
theorem Env.aR:∀ (e:Env) (i j:Nat) (v:ae),(Env.set e i v).get j=if j=i/\i < e.length then v else e.get j
 | [],_,_,_=>by simp [Env.set,Env.get]
 |x::r,0,j,v=>by cases j <;> simp [Env.set,Env.get]
 |x::r,i+1,j,v=>by
  cases j with
  |zero=>simp [Env.set,Env.get]
  |succ j=>simp [Env.set,Env.get,Env.aR r i j v]
theorem Env.oY:∀ (e:Env) (i:Nat),e.length<=i->e.get i=undef
 | [],_,_=>by simp [Env.get]
 |_::r,i+1,h=>by simp only [Env.get];exact Env.oY r i (by simpa using h)
 |_::_,0,h=>by simp at h
theorem Env.get_eq:∀ (e:Env) (i:Nat),e.get i=(e[i]?).getD undef
 | [],_=>by simp [Env.get]
 |_::_,0=>by simp [Env.get]
 |_::r,i+1=>by simp [Env.get,Env.get_eq r i]

structure Loc where
 b:Nat
 s:Nat
 vR:Nat

abbrev cI:=Nat->Option Loc

inductive VR (ρ:cI):ae->ae->Prop where
 |bool (b:Bool):VR ρ (.bool b) (.bool b)
 |int (k:IntKind) (n:Int):VR ρ (.int k n) (.int k n)
 |string (s:aB):VR ρ (.string s) (.string s)
 |qg:VR ρ (.pointer none) (.pointer none)
 |ptr {A o:Nat} {L:Loc} (h:ρ A=some L):VR ρ (.pointer (some ⟨A,o,none⟩)) (.pointer (some ⟨L.b,L.s+o,none⟩))
 |dN:VR ρ (.slice none 0 0) (.slice none 0 0)
 |slice {A o n c:Nat} {L:Loc} {ad:Addr} (h:ρ A=some L) (hc:c < G) (hn:n<=c) (ez:c≠0->ad=⟨L.b,L.s+o,none⟩):VR ρ (.slice (some ⟨A,o,none⟩) n c) (.slice (some ad) n c)
 |cm {A o n c c':Nat} {L:Loc} {ad:Addr} (h:ρ A=some L) (hc:G<=c) (cM:c % G<=c') (hn:n<=c % G) (hk:0 < c / G)
  (hm:c'<=maxLen) (ez:c'≠0->ad=⟨L.b,L.s+o,none⟩/\L.s+o+c'*(c / G)<=L.vR):VR ρ (.slice (some ⟨A,o,none⟩) n c) (.slice (some ad) n c')
 |qb:VR ρ (.map none) (.map none)
 |nilFunc:VR ρ .nilFunc .nilFunc
 |map {A:Nat} {L:Loc} (h:ρ A=some L):VR ρ (.map (some A)) (.map (some L.b))
 |yield {A:Nat} {L:Loc} (h:ρ A=some L):VR ρ (.func (.yield A) #[] #[]) (.func (.yield L.b) #[] #[])
 |func (fn:FuncId) {f g c d:Array ae} (hf:f.size=g.size) (hc:c.size=d.size) (h1:∀ (i:Nat) (x y:ae),f[i]? = some x->g[i]? = some y->VR ρ x y)
  (h2:∀ (i:Nat) (x y:ae),c[i]? = some x->d[i]? = some y->VR ρ x y):VR ρ (.func (.func fn) f c) (.func (.func fn) g d)
 |nilIface:VR ρ .nilIface .nilIface
 |iface (t:TypeId) {x y:ae} (h:VR ρ x y):VR ρ (.iface t x) (.iface t y)
 |agg {c d:Array ae} (hc:c.size=d.size) (h:∀ (i:Nat) (x y:ae),c[i]? = some x->d[i]? = some y->VR ρ x y):VR ρ (.agg c) (.agg d)
 |tuple {c d:Array ae} (hc:c.size=d.size) (h:∀ (i:Nat) (x y:ae),c[i]? = some x->d[i]? = some y->VR ρ x y):VR ρ (.tuple c) (.tuple d)

theorem VR.mono {ρ ρ':cI} (hg:∀ A L,ρ A=some L->ρ' A=some L) (h:VR ρ v u):VR ρ' v u:=by
 induction h with
 |bool b=>exact .bool b
 |int k n=>exact .int k n
 |string s=>exact .string s
 |qg=>exact .qg
 |ptr h=>exact .ptr (hg _ _ h)
 |dN=>exact .dN
 |slice h hc hn ez=>exact .slice (hg _ _ h) hc hn ez
 |cm h hc cM hn hk hm ez=>exact .cm (hg _ _ h) hc cM hn hk hm ez
 |qb=>exact .qb
 |map h=>exact .map (hg _ _ h)
 |yield h=>exact .yield (hg _ _ h)
 |nilFunc=>exact .nilFunc
 |func fn hf hc h1 h2 i1 i2=>exact .func fn hf hc i1 i2
 |nilIface=>exact .nilIface
 |iface t h ih=>exact .iface t ih
 |agg hc h ih=>exact .agg hc ih
 |tuple hc h ih=>exact .tuple hc ih

theorem VR.undef (ρ:cI):VR ρ undef undef:=.tuple rfl (by intro i x y hx;simp at hx)

theorem VR.lS (ρ:cI) (h:mN v=true):VR ρ v v:=by
 cases v with
 |bool b=>exact .bool b
 |int k n=>exact .int k n
 |string s=>exact .string s
 |pointer a=>cases a with
  |none=>exact .qg
  |some a=>simp [mN] at h
 |slice a n c=>cases a with
  |none =>
   simp [mN] at h
   obtain ⟨rfl,rfl⟩:=h
   exact .dN
  |some a=>simp [mN] at h
 |map r=>cases r with
  |none=>exact .qb
  |some r=>simp [mN] at h
 |func fn f c =>
  cases fn with
  |func fn =>
   simp [mN] at h
   obtain ⟨rfl,rfl⟩:=h
   exact .func fn rfl rfl (by intro i x y hx;simp at hx) (by intro i x y hx;simp at hx)
  |_=>simp [mN] at h
 |nilFunc=>exact .nilFunc
 |nilIface=>exact .nilIface
 |_=>simp [mN] at h

theorem VR.oX {ρ:cI} (hv:VR ρ v u) (h:mN v=true):u=v:=by
 cases hv with
 |func fn hf hc h1 h2 =>
  simp [mN] at h
  obtain ⟨rfl,rfl⟩:=h
  have e1:∀ (a:Array ae),(#[]:Array ae).size=a.size->a=#[]:=λa ha=>Array.eq_empty_of_size_eq_zero (by simpa using ha.symm)
  rw [e1 _ hf,e1 _ hc]
 |_=>first|rfl|simp [mN] at h

theorem VR.dM (ρ:cI) (h:plain v=true):VR ρ v v:=by
 cases v with
 |agg cs =>
  refine .agg rfl λi x y hx hy=>?_
  have e:x=y:=by rw [hx] at hy;exact Option.some.inj hy
  subst e
  simp only [plain,gK] at h
  exact .lS ρ (h x (by simpa using Array.mem_of_getElem? hx))
 |_=>exact .lS ρ h

theorem VR.bQ {ρ:cI} (hv:VR ρ v u) (h:plain v=true):u=v:=by
 cases hv with
 |agg hc hh =>
  rename_i c d
  congr 1
  refine Array.ext hc.symm λi h1 h2=>?_
  simp only [plain,gK] at h
  have hx:c[i]? = some c[i]:=HO h2
  exact (hh i _ _ hx (HO h1)).oX (h _ (by simp))
 |tuple hc hh=>simp [plain,mN] at h
 |func fn hf hc h1 h2=>exact (VR.func fn hf hc h1 h2).oX h
 |_=>first|rfl|(simp [plain,mN] at h;done)

theorem VR.one {ρ:cI} {v u:ae} (hv:VR ρ v u) (h:one v=true):u.oneCell'=true:=by
 cases hv <;> first|rfl|simp [Am.one] at h

def cB (ρ:cI) (l m:List ae):Prop:=l.length=m.length/\∀ (i:Nat) (x y:ae),l[i]? = some x->m[i]? = some y->VR ρ x y

theorem cB.nil (ρ:cI):cB ρ [] []:=⟨rfl,by intro i x y hx;simp at hx⟩
theorem cB.cons {ρ:cI} {y:ae} (h:VR ρ x y) (hl:cB ρ l m):cB ρ (x::l) (y::m) :=
 ⟨by simp [hl.1],λi a b ha hb=>by
  cases i with
  |zero=>simp at ha hb;subst ha hb;exact h
  |succ i=>exact hl.2 i a b (by simpa using ha) (by simpa using hb)⟩
theorem cB.of_cons {ρ:cI} (h:cB ρ (x::l) m):∃ y m',m=y::m'/\VR ρ x y/\cB ρ l m':=by
 cases m with
 |nil=>have:=h.1;simp at this
 |cons y m =>
  exact ⟨y,m,rfl,h.2 0 x y rfl rfl,by have:=h.1;simpa using this,λi a b ha hb=>h.2 (i+1) a b (by simpa using ha) (by simpa using hb)⟩
theorem cB.of_nil {ρ:cI} (h:cB ρ [] m):m=[]:=by
 have:=h.1
 simp at this
 exact Uo this.symm
theorem cB.mono {ρ ρ':cI} (hg:∀ A L,ρ A=some L->ρ' A=some L) {l m:List ae} (h:cB ρ l m):cB ρ' l m:=⟨h.1,λi x y hx hy=>(h.2 i x y hx hy).mono hg⟩
theorem cB.append {ρ:cI} {l' m':List ae} (h:cB ρ l m) (h':cB ρ l' m'):cB ρ (l++l') (m++m'):=by
 induction l generalizing m with
 |nil=>rw [h.of_nil];exact h'
 |cons x l ih =>
  obtain ⟨y,m1,rfl,hx,hl⟩:=h.of_cons
  exact .cons hx (ih hl)
theorem cB.take {ρ:cI} {l m:List ae} (h:cB ρ l m) (n:Nat):cB ρ (l.take n) (m.take n):=by
 refine ⟨by simp [h.1],λi x y hx hy=>?_⟩
 rw [lX] at hx hy
 split at hx
 .rename_i hi;rw [aE hi] at hy;exact h.2 i x y hx hy
 .cases hx
theorem cB.drop {ρ:cI} {l m:List ae} (h:cB ρ l m) (n:Nat):cB ρ (l.drop n) (m.drop n) :=
 ⟨by simp [h.1],λi x y hx hy=>h.2 (n+i) x y (by simpa using hx) (by simpa using hy)⟩
theorem cB.aF {ρ:cI} {l m l' m':List ae} (h:cB ρ l m) (o:Nat) (h':cB ρ l' m'):cB ρ (aF l o l') (aF m o m'):=by
 unfold Am.aF
 rw [<- h'.1]
 exact ((h.take o).append h').append (h.drop _)
theorem cB.cut {ρ:cI} {l m c:List ae} (h:cB ρ l m) {o n:Nat} (hc:cut l o n=some c):∃ d,cut m o n=some d/\cB ρ c d:=by
 unfold Am.cut at hc ⊢
 split at hc
 .rename_i hl
  rw [aE (by rw [<- h.1];exact hl)]
  cases hc
  exact ⟨_,rfl,(h.drop o).take n⟩
 .cases hc
theorem cB.get {ρ:cI} (h:cB ρ l m) {i:Nat} (hx:l[i]? = some x):∃ y,m[i]? = some y/\VR ρ x y:=by
 have hi:i < l.length:=(dz.1 hx).1
 have hy:m[i]? = some (m[i]'(by rw [<- h.1];exact hi)):=gI _
 exact ⟨_,hy,h.2 i x _ hx hy⟩
theorem cB.plain (ρ:cI) (h:l.all mN=true):cB ρ l l:=by
 refine ⟨rfl,λi x y hx hy=>?_⟩
 rw [hx] at hy
 cases hy
 exact .lS ρ (gK.1 h x (ig hx))
theorem cB.one {ρ:cI} {l m:List ae} (h:cB ρ l m) (h1:l.all one=true):∀ v∈m,v.oneCell'=true:=by
 intro v hv
 obtain ⟨i,hi⟩:=AP hv
 have hl:i < l.length:=by rw [h.1];exact (dz.1 hi).1
 exact (h.2 i _ v (gI hl) hi).one (gK.1 h1 _ (List.getElem_mem hl))
theorem cB.toArray {ρ:cI} {l m:List ae} (h:cB ρ l m):VR ρ (.agg l.toArray) (.agg m.toArray) :=
 .agg (by simp [h.1]) (λi x y hx hy=>h.2 i x y (by simpa using hx) (by simpa using hy))
theorem cB.jE {ρ:cI} (h:cB ρ l m):VR ρ (.tuple l.toArray) (.tuple m.toArray) :=
 .tuple (by simp [h.1]) (λi x y hx hy=>h.2 i x y (by simpa using hx) (by simpa using hy))
theorem VR.Fg {ρ:cI} {c d:Array ae} (h:VR ρ (.agg c) (.agg d)):cB ρ c.toList d.toList:=by
 cases h with
 |agg hc hh=>exact ⟨by simpa using hc,λi x y hx hy=>hh i x y (by simpa using hx) (by simpa using hy)⟩
theorem VR.cells {ρ:cI} {v u:ae} (h:VR ρ v u):cB ρ v.cells.toList u.cells.toList:=by
 cases h with
 |agg hc hh=>exact (VR.agg hc hh).Fg
 |_=>exact .cons (by first|exact .bool _|exact .int _ _|exact .string _|exact .qg|exact .ptr ‹_› | exact .dN|exact .slice ‹_› ‹_› ‹_› ‹_› | exact .cm ‹_› ‹_› ‹_› ‹_› ‹_› ‹_› ‹_› | exact .qb|exact .map ‹_› | exact .yield ‹_› | exact .nilFunc|exact .func _ ‹_› ‹_› ‹_› ‹_› | exact .nilIface|exact .iface _ ‹_› | exact .tuple ‹_› ‹_›) (.nil ρ)

def cA (ρ:cI) (e:Env) (tmps:Array ae):Prop:=e.length=tmps.size/\∀ i,VR ρ (e.get i) (tmps.getD i undef)
theorem cA.mono {ρ ρ':cI} {e:Env} {tmps:Array ae} (he:cA ρ e tmps) (hg:∀ A L,ρ A=some L->ρ' A=some L):cA ρ' e tmps:=⟨he.1,λi=>(he.2 i).mono hg⟩
def m6 (ρ:cI) (l m:List MapEntry):Prop:=l.length=m.length/\∀ (i:Nat) (x y:MapEntry),l[i]? = some x->m[i]? = some y->VR ρ x.key y.key/\VR ρ x.val y.val/\x.born=y.born/\plain x.key=true
theorem m6.mono {ρ ρ':cI} (hg:∀ A L,ρ A=some L->ρ' A=some L) {l m:List MapEntry} (h:m6 ρ l m):m6 ρ' l m :=
 ⟨h.1,λi x y hx hy=>⟨(h.2 i x y hx hy).1.mono hg,(h.2 i x y hx hy).2.1.mono hg,(h.2 i x y hx hy).2.2⟩⟩

def dt (gs:List Nat) (ρ:cI):Prop:=∀ g∈gs,∃ t,ρ g=some ⟨g,0,t⟩
def uj (ρ:cI):Operand->Prop
 | .const v=>plain v=true
 | .global g=>∃ t,ρ g=some ⟨g,0,t⟩
 |_=>True
def lE (ρ:cI) (o:Oper):Prop:=∀ x∈o.op.operands.toList,uj ρ x
def cL (ρ:cI):Code->Prop
 | .region _ ops _=>∀ o∈ops.toList,lE ρ o
 | .seq a b=>cL ρ a/\cL ρ b
 | .cond c a b=>uj ρ c/\cL ρ a/\cL ρ b
 | .block _ c=>cL ρ c
 | .loop c=>cL ρ c
 | .scope c=>cL ρ c
 | .rangeFunc g _ a b=>uj ρ g/\cL ρ a/\cL ρ b
 |_=>True
section
variable {ρ ρ':cI} (hg:∀ A L,ρ A=some L->ρ' A=some L)
include hg
theorem dt.mono {gs:List Nat} (h:dt gs ρ):dt gs ρ':=λg hh=>let ⟨t,ht⟩:=h g hh;⟨t,hg _ _ ht⟩
theorem uj.mono {x:Operand} (h:uj ρ x):uj ρ' x:=by
 cases x with
 |global g=>exact let ⟨t,ht⟩:=h;⟨t,hg _ _ ht⟩
 |_=>exact h
theorem lE.mono {o:Oper} (h:lE ρ o):lE ρ' o:=λx hx=>(h x hx).mono hg
theorem cL.mono:∀ {c:Code},cL ρ c->cL ρ' c:=by
 intro c
 induction c with
 |region id ops d=>exact λh o ho=>(h o ho).mono hg
 |seq a b jU jV=>exact λh=>⟨jU h.1,jV h.2⟩
 |cond c a b jU jV=>exact λh=>⟨h.1.mono hg,jU h.2.1,jV h.2.2⟩
 |block id c ih=>exact λh=>ih h
 |loop c ih=>exact λh=>ih h
 |scope c ih=>exact λh=>ih h
 |rangeFunc g ps a b jU jV=>exact λh=>⟨h.1.mono hg,jU h.2.1,jV h.2.2⟩
 |_=>exact λ_=>trivial
end
theorem uj.of {gs:List Nat} {ρ:cI} (hG:dt gs ρ) {x:Operand} (h:Rp gs x=true):uj ρ x:=by
 cases x with
 |global g=>exact hG g (by simpa [Rp] using h)
 |const v=>exact h
 |_=>trivial
theorem lE.of {gs:List Nat} {ρ:cI} (hG:dt gs ρ) {o:Oper} (h:OQ gs o=true):lE ρ o:=λx hx=>.of hG (gK.1 h x hx)
theorem cL.of {gs:List Nat} {ρ:cI} (hG:dt gs ρ):∀ {c:Code},sP gs c=true->cL ρ c:=by
 intro c
 induction c with
 |region id ops d=>exact λh o ho=>.of hG (gK.1 h o ho)
 |seq a b jU jV=>exact λh=>by simp only [sP,dP] at h;exact ⟨jU h.1,jV h.2⟩
 |cond c a b jU jV=>exact λh=>by simp only [sP,dP] at h;exact ⟨.of hG h.1.1,jU h.1.2,jV h.2⟩
 |block id c ih=>exact λh=>ih h
 |loop c ih=>exact λh=>ih h
 |scope c ih=>exact λh=>ih h
 |rangeFunc g ps a b jU jV=>exact λh=>by simp only [sP,dP] at h;exact ⟨.of hG h.1.1,jU h.1.2,jV h.2⟩
 |_=>exact λ_=>trivial

def live (h:Heap) (A:Nat):Prop:=∃ b,h.get A=some b/\b≠.dead
def nE (h:Heap) (A:Nat):Prop:=∃ cs e,h.get A=some (.row cs e true)

def wP:TypeId:=1099511627776
def wQ:List ae:=Lib.asciiSpaceTab.map λz=>Value.int .u8 z
def SC:TypeId:=5
structure oh (e:TypeId) (n:Nat) (fz:Nat × Nat):Prop where
 ZQ:∀ j,j < n->¬ (fz.1<=j/\j < fz.2)
 Wa:e=SC\/¬ (fz.1<=n/\n < fz.2)
theorem oh.zero (e:TypeId) (n:Nat):oh e n (0,0):=⟨λ_ _ h=>by have:=h.2;simp at this,.inr λh=>by have:=h.2;simp at this⟩
def qS (ρ:cI) (w:World) (L:Loc):Option bh->Prop
 |some (.row cs e true)=>(L.b < w.heap.size/\(e=wP->cs=wQ))/\∀ (i:Nat) (v:ae),cs[i]? = some v->∃ u,w.cell? ⟨L.b,L.s+i,none⟩=some u/\VR ρ v u
 |some (.row cs e false)=>∃ (cur:Array ae) (fz:Nat × Nat),w.heap[L.b]? = some (.cells cur e fz)/\oh e cur.size fz/\cur.size=L.vR/\∃ m,cut cur.toList L.s cs.length=some m/\cB ρ cs m
 |some (.map es clock)=>∃ ces:Array MapEntry,w.heap[L.b]? = some (.map ces clock)/\m6 ρ es ces.toList
 |some (.loop env ps assign body st gh)=>∃ l:Loop,w.heap[L.b]? = some (.loop l)/\l.state=st/\l.pending=gh/\l.params.toList=ps/\l.assign=assign/\l.body=body/\cA ρ env l.tmps/\cL ρ assign/\cL ρ body
 |some .dead=>L.b < w.heap.size
 |none=>L.b < w.heap.size

theorem qS.keep {ρ ρ':cI} {w':World} {L:Loc} {b:Option bh} (hb:qS ρ w L b) (hg:∀ A L,ρ A=some L->ρ' A=some L) (dS:w.heap.size<=w'.heap.size)
 (hk:(∃ x,b=some x/\x≠.dead)->w'.heap[L.b]? = w.heap[L.b]?):qS ρ' w' L b:=by
 cases b with
 |none=>exact eW hb dS
 |some b =>
  cases b with
  |dead=>exact eW hb dS
  |map es clock =>
   obtain ⟨ces,hc,he⟩:=hb
   exact ⟨ces,(hk ⟨_,rfl,by simp⟩).trans hc,he.mono hg⟩
  |loop env ps assign body st gh =>
   obtain ⟨l,hc,h1,h2,h3,h4,h5,h6,h7⟩:=hb
   exact ⟨l,(hk ⟨_,rfl,by simp⟩).trans hc,h1,h2,h3,h4,h5,h6.mono hg,h7.1.mono hg,h7.2.mono hg⟩
  |row cs e ro =>
   have pV:=hk ⟨_,rfl,by simp⟩
   cases ro with
   |true =>
    refine ⟨⟨eW hb.1.1 dS,hb.1.2⟩,λi v hi=>?_⟩
    obtain ⟨u,hu,n8⟩:=hb.2 i v hi
    refine ⟨u,?_,n8.mono hg⟩
    rw [<- hu]
    simp only [World.cell?,pV]
   |false =>
    obtain ⟨cur,fz,hc,nY,ht,m,hm,hv⟩:=hb
    exact ⟨cur,fz,pV.trans hc,nY,ht,m,hm,hv.mono hg⟩

structure bT (ρ:cI) (h:Heap) (w:World):Prop where
 fL:∀ A L,ρ A=some L->qS ρ w L (h.get A)
 inj:∀ A A' L L',ρ A=some L->ρ A'=some L'->A≠A'->L.b=L'.b->¬ live h A\/¬ live h A'\/(nE h A/\nE h A')

theorem bT.lt {ρ:cI} (hs:bT ρ h w) {A:Nat} {L:Loc} (hA:ρ A=some L):L.b < w.heap.size:=by
 have hb:=hs.fL A L hA
 cases hg:h.get A with
 |none=>rw [hg] at hb;exact hb
 |some b =>
  rw [hg] at hb
  cases b with
  |dead=>exact hb
  |map es clock =>
   obtain ⟨ces,hc,_⟩:=hb
   exact (mY.1 hc).1
  |loop env ps assign body st gh =>
   obtain ⟨l,hc,_⟩:=hb
   exact (mY.1 hc).1
  |row cs e ro =>
   cases ro with
   |true=>exact hb.1.1
   |false =>
    obtain ⟨cur,fz,hc,_⟩:=hb
    exact (mY.1 hc).1

def fO (ρ:cI) (h h':Heap):Prop:=∀ A,h.size<=A->A < h'.size->ρ A=none

structure Fr (ρ ρ':cI) (h h':Heap) (w w':World):Prop where
 grow:∀ A L,ρ A=some L->ρ' A=some L
 fresh:∀ A L,ρ' A=some L->ρ A=none->h.size<=A/\A < h'.size/\(w.heap.size<=L.b\/∃ A0 L0,ρ A0=some L0/\L0.b=L.b/\h'.low<=A0/\A0 < h'.size)
 os:w'.os=w.os
 tape:w'.tape=w.tape
 output:w'.output=w.output
 size:w.heap.size<=w'.heap.size
 iN:h.size<=h'.size
 low:h'.low<=h.low
 keep:∀ b,b < w.heap.size->(∀ A L,ρ A=some L->L.b=b->A < h'.low\/h'.size<=A)->w'.heap[b]? = w.heap[b]?
 uk:∀ A,A < h.size->A < h'.low->h'.get A=h.get A

theorem Fr.refl (ρ:cI) (h:Heap) (w:World):Fr ρ ρ h h w w :=
 ⟨λ_ _ h=>h,λA L h1 h2=>(by rw [h1] at h2;cases h2),rfl,rfl,rfl,bo _,bo _,bo _,λ_ _ _=>rfl,λ_ _ _=>rfl⟩

theorem Fr.trans {ρ ρ' ρ'':cI} {h h' Dw:Heap} {w w' w'':World} (f:Fr ρ ρ' h h' w w') (g:Fr ρ' ρ'' h' Dw w' w''):Fr ρ ρ'' h Dw w w'':=by
 refine ⟨λA L hA=>g.grow A L (f.grow A L hA),?_,g.os.trans f.os,g.tape.trans f.tape,g.output.trans f.output,il f.size g.size,il f.iN g.iN,il g.low f.low,?_,?_⟩
 .intro A L hA hn
  cases hρ:ρ' A with
  |some L1 =>
   have e:L1=L:=by have:=g.grow A L1 hρ;rw [hA] at this;exact (Option.some.inj this).symm
   subst e
   obtain ⟨h1,bD,h2⟩:=f.fresh A L1 hρ hn
   refine ⟨h1,eW bD g.iN,?_⟩
   rcases h2 with h2|⟨A0,L0,h0,he,hl,BP⟩
   .exact .inl h2
   .exact .inr ⟨A0,L0,h0,he,il g.low hl,eW BP g.iN⟩
  |none =>
   obtain ⟨h1,bD,h2⟩:=g.fresh A L hA hρ
   refine ⟨il f.iN h1,bD,?_⟩
   rcases h2 with h2|⟨A0,L0,h0,he,hl,BP⟩
   .exact .inl (il f.size h2)
   .cases G2:ρ A0 with
    |some L1 =>
     have e:L1=L0:=by have:=f.grow A0 L1 G2;rw [h0] at this;exact (Option.some.inj this).symm
     subst e
     exact .inr ⟨A0,L1,G2,he,hl,BP⟩
    |none =>
     rcases (f.fresh A0 L0 h0 G2).2.2 with h3|⟨A1,L1,h3,he3,BQ,YO⟩
     .exact .inl (by omega)
     .exact .inr ⟨A1,L1,h3,he3.trans he,il g.low BQ,eW YO g.iN⟩
 .intro b hb aC
  have M5:∀ A L,ρ A=some L->L.b=b->A < h'.low\/h'.size<=A:=λA L hA hL=>by
   have h1:=aC A L hA hL
   have h2:=g.low
   have h3:=g.iN
   omega
  rw [g.keep b (eW hb f.size) ?_,f.keep b hb M5]
  intro A L hA hL
  cases hρ:ρ A with
  |some L0 =>
   have e:L0=L:=by have:=f.grow A L0 hρ;rw [hA] at this;exact (Option.some.inj this).symm
   subst e
   exact aC A L0 hρ hL
  |none =>
   rcases (f.fresh A L hA hρ).2.2 with h1|⟨A0,L0,h0,he,hl,BP⟩
   .omega
   .have h1:=aC A0 L0 h0 (he.trans hL)
    have h2:=g.low
    have h3:=g.iN
    omega
 .intro A hA hl
  rw [g.uk A (eW hA f.iN) hl,f.uk A hA (eW hl g.low)]

theorem fO.left {ρ:cI} {h1 h2:Heap} (hf:fO ρ h h2) (hle:h1.size<=h2.size):fO ρ h h1:=λA h3 h4=>hf A h3 (eW h4 hle)
theorem fO.right {ρ ρ':cI} {h1 h2:Heap} {w':World} (hf:fO ρ h h2) (fr:Fr ρ ρ' h h1 w w'):fO ρ' h1 h2:=by
 intro A h3 h4
 cases hA:ρ' A with
 |none=>rfl
 |some L =>
  have hn:=hf A (il fr.iN h3) h4
  have:=(fr.fresh A L hA hn).2.1
  omega

end Go.Am
namespace Go.Am
open Go.RowKit
variable {A n o:Nat} {l m:List ae} {W:World}

structure bL.Fits (T:bL) (P:Program):Prop where
 desc:∀ t d,T.desc t=some d->P.underlying t=some d
 info:∀ t n b z,T.info t=some (n,b,z)->∃ i zv,P.info? t=some i/\i.size=n/\i.bytes=b/\i.zero=some zv/\zv.cells.toList=z/\z.length=n/\z.all mN=true
 fn:∀ f fn,T.fn f=some fn->P.funcs[f]? = some fn/\(fn.name == "runtime.NumGoroutine")=false/\∀ c,fn.body=some c->sP T.gs c=true
 cmp:∀ t,T.cmp t=true->P.stoodInHeld t=false/\P.eqGuardType P.depth t=false
 zero:∀ t v,T.zero t=some v->(∃ i,P.info? t=some i/\i.zero=some v)/\plain v=true
 y7:∀ t name m,T.y7 t name=some m->∃ i,P.info? t=some i/\i.methods.find? (·.name == name)=some m

theorem qk (h:cut l o n=some m):o+n<=l.length/\m.length=n/\∀ i,i < n->m[i]? = l[o+i]? := by
 unfold cut at h
 split at h
 .rename_i hl
  cases h
  refine ⟨hl,by simp;omega,λi hi=>?_⟩
  rw [lX,aE hi,lA]
 .cases h
theorem sQ (hl:o+n<=l.length) (hm:m.length=n) (h:∀ i,i < n->m[i]? = l[o+i]?):cut l o n=some m:=by
 unfold cut
 rw [aE hl]
 congr 1
 refine r8 λi=>?_
 rw [lX]
 split
 .rename_i hi;rw [lA,h i hi]
 .rw [H5 (by omega)]

theorem oS {vs:List ae} (h:o+vs.length<=l.length):(aF l o vs).length=l.length:=by
 simp [aF];omega
theorem bN (l vs:List ae) (o i:Nat) (h:o+vs.length<=l.length):(aF l o vs)[i]? = if i < o then l[i]? else if i < o+vs.length then vs[i - o]? else l[i]? := by
 unfold aF
 rw [xj,xj]
 have hl:(l.take o).length=o:=by simp;omega
 simp only [cW,hl]
 by_cases h1:i < o
 .rw [aE (by omega),aE h1,aE h1,lX,aE h1]
 .rw [az h1]
  by_cases h2:i < o+vs.length
  .rw [aE h2,az h1,aE h2]
  .rw [az h2,az h2,lA]
   rw [show o+vs.length+(i - (o+vs.length))=i by omega,az h1]
theorem zlo {cur us:List ae} {s:Nat} (hc:cut cur s n=some m) (ho:o+us.length<=n):cut (aF cur (s+o) us) s n=some (aF m o us):=by
 obtain ⟨h1,h2,h3⟩:=qk hc
 refine sQ (by rw [oS (by omega)];exact h1) (by rw [oS (by omega)];exact h2) λi hi=>?_
 rw [bN _ _ _ _ (by omega),bN _ _ _ _ (by omega)]
 by_cases h4:i < o
 .rw [aE h4,aE (show s+i < s+o by omega),h3 i hi]
 .rw [az h4,az (show ¬ s+i < s+o by omega)]
  by_cases h5:i < o+us.length
  .rw [aE h5,aE (show s+i < s+o+us.length by omega)]
   congr 1
   omega
  .rw [az h5,az (show ¬ s+i < s+o+us.length by omega),h3 i hi]

section
variable {P:Program} {T:bL} {ρ:cI} {h h':Heap} {w:World}

theorem TY (hs:bT ρ h w) {L:Loc} (hA:ρ A=some L) (hc:gS A o n h=some l) :
 ∃ m,cB ρ l m/\m.length=n/\w.rangeAt L.b (L.s+o) m:=by
 have hb:=hs.fL A L hA
 unfold gS at hc
 cases hg:h.get A with
 |none=>rw [hg] at hc;cases hc
 |some b =>
  rw [hg] at hc hb
  cases b with
  |dead=>cases hc
  |map es clock=>cases hc
  |loop env ps assign body st gh=>cases hc
  |row cs e ro =>
   obtain ⟨h1,h2,h3⟩:=qk hc
   cases ro with
   |true =>
    obtain ⟨_,eV⟩:=hb
    have hex:∀ i,i < n->∃ u,w.cell? ⟨L.b,L.s+(o+i),none⟩=some u/\∀ x,l[i]? = some x->VR ρ x u:=by
     intro i hi
     have hx:cs[o+i]? = some (cs[o+i]'(by omega)):=gI _
     obtain ⟨u,hu,hv⟩:=eV (o+i) _ hx
     refine ⟨u,hu,λx hxx=>?_⟩
     rw [h3 i hi,hx] at hxx
     cases hxx
     exact hv
    refine ⟨(List.range n).map λi=>(w.cell? ⟨L.b,L.s+(o+i),none⟩).getD undef,⟨by simp [h2],λi x y hx hy=>?_⟩,by simp,λj v hv=>?_⟩
    .have hi:i < n:=by rw [<- h2];exact (dz.1 hx).1
     obtain ⟨u,hu,hv⟩:=hex i hi
     rw [lB,List.getElem?_range hi,jZ,hu] at hy
     cases hy
     exact hv x hx
    .have hj:j < n:=by have:=(dz.1 hv).1;simpa using this
     obtain ⟨u,hu,_⟩:=hex j hj
     rw [lB,List.getElem?_range hj,jZ,hu] at hv
     cases hv
     rw [oW]
     exact hu
   |false =>
    obtain ⟨cur,fz,gl,_,_,m,hm,hv⟩:=hb
    obtain ⟨d,hd,wL⟩:=hv.cut hc
    obtain ⟨k1,k2,k3⟩:=qk hm
    obtain ⟨d1,d2,d3⟩:=qk hd
    refine ⟨d,wL,d2,λj v hj=>?_⟩
    have NA:j < n:=by rw [<- d2];exact (dz.1 hj).1
    rw [cell_of_row w L.b _ cur e fz gl]
    rw [d3 j NA,k3 (o+j) (by rw [k2] at d1;omega)] at hj
    rw [<- UN,oW]
    exact hj

theorem zgC (hT:T.Fits P) (hs:bT ρ h w) {t:TypeId} {x y v:ae} (dj:VR ρ x y) (hl:fW T t x h=some v) :
 ∃ u,(Instr.loadAt t y).run P w=.ok u w/\VR ρ v u:=by
 cases dj with
 |ptr hA =>
  rename_i A o L
  simp only [fW] at hl
  cases hg:T.desc t with
  |none=>simp [ct,hg] at hl
  |some d =>
   have hu:=hT.desc t d hg
   have key:∀ (n:Nat) (l:List ae),T.info t≠none->gS A o n h=some l->d.isRow=true->(T.info t).map (·.1)=some n->v=.agg l.toArray->∃ u,(Instr.loadAt t (.pointer (some ⟨L.b,L.s+o,none⟩))).run P w=.ok u w/\VR ρ v u:=by
    intro n l _ hc hd hi hv
    obtain ⟨m,hm,hlen,hr⟩:=TY hs hA hc
    cases gQ:T.info t with
    |none=>simp [gQ] at hi
    |some q =>
     obtain ⟨q1,q2,q3⟩:=q
     obtain ⟨i,zv,e1,e2,_⟩:=hT.info t q1 q2 q3 gQ
     simp [gQ] at hi
     refine ⟨.agg m.toArray,run_loadAt_mid w L.b (L.s+o) t m d hr hu hd (by rw [e1];simp [e2,hi,hlen]),?_⟩
     rw [hv]
     exact hm.toArray
   have ZU:∀ (l:List ae),gS A o 1 h=some l->l[0]? = some v->d.isRow=false->∃ u,(Instr.loadAt t (.pointer (some ⟨L.b,L.s+o,none⟩))).run P w=.ok u w/\VR ρ v u:=by
    intro l hc h0 hd
    obtain ⟨m,hm,hlen,hr⟩:=TY hs hA hc
    obtain ⟨u,Zr,GW⟩:=hm.get h0
    have eV:=hr 0 u Zr
    refine ⟨u,?_,GW⟩
    have pN:(isAgg t).run P w=.ok false w:=by
     unfold isAgg
     rw [Sem.run_bind,run_underlying hu w]
     cases d <;> simp_all
    simp only [jh] at eV
    simp [Instr.loadAt,Instr.sureAddr,loadVar,Sem.run_bind,pN,eV]
   have Nd:(∃ n l,T.info t≠none/\gS A o n h=some l/\d.isRow=true/\(T.info t).map (·.1)=some n/\v=.agg l.toArray)\/(∃ l,gS A o 1 h=some l/\l[0]? = some v/\d.isRow=false):=by
    have Zf:∀ (hl:((cN T t).bind λn=>(gS A o n h).map λl=>Value.agg l.toArray)=some v) (hd:d.isRow=true),
     ∃ n l,T.info t≠none/\gS A o n h=some l/\d.isRow=true/\(T.info t).map (·.1)=some n/\v=.agg l.toArray:=by
     intro hl hd
     simp only [cN,cH,cC] at hl
     obtain ⟨n,⟨q,hq,rfl⟩,l,hc,rfl⟩:=hl
     exact ⟨q.1,l,by rw [hq];simp,hc,hd,by rw [hq];rfl,rfl⟩
    cases d <;> simp only [ct,hg,jZ,dX,if_true,gW,if_false] at hl <;>
     first
      |(left;exact Zf hl rfl)
      |(right;simp only [cH] at hl;obtain ⟨l,hc,h0⟩:=hl;exact ⟨l,hc,h0,rfl⟩)
   rcases Nd with ⟨n,l,a,b,c,d',e⟩|⟨l,a,b,c⟩
   .exact key n l a b c d' e
   .exact ZU l a b c
 |_=>simp [fW] at hl

theorem Jl (hs:bT ρ h w) {L:Loc} {b b':bh} (hA:ρ A=some L) (hg:h.get A=some b) (j8:b≠.dead) (uF:∀ cs e,b≠.row cs e true)
 (vC:W.os=w.os) (kU:W.tape=w.tape) (cT:W.output=w.output) (dS:W.heap.size=w.heap.size) (jx:∀ k,k≠L.b->W.heap[k]? = w.heap[k]?) (nW:qS ρ W L (some b')) :
 Fr ρ ρ h (h.set A b') w W/\bT ρ (h.set A b') W:=by
 have vk:A < h.size:=Heap.bF hg
 refine ⟨⟨λ_ _ h=>h,λA' L' h1 h2=>(by rw [h1] at h2;cases h2),vC,kU,cT,by rw [dS];exact bo _,bo _,zN _ _,?_,?_⟩,⟨?_,?_⟩⟩
 .intro b hb aC
  refine jx b λe=>?_
  subst e
  have:=aC A L hA rfl
  rw [Heap.bX,Heap.size_set] at this
  omega
 .intro A' eH hl
  rw [Heap.bX] at hl
  rw [Heap.aR _ _ _ _ vk,az (by omega)]
 .intro A' L' eH
  rw [Heap.aR _ _ _ _ vk]
  by_cases e':A'=A
  .subst e'
   rw [hA] at eH
   cases eH
   rw [aE rfl]
   exact nW
  .rw [az e']
   refine (hs.fL A' L' eH).keep (λ_ _ h=>h) (by omega) ?_
   rintro ⟨x,hx,hxd⟩
   refine jx L'.b λheq=>?_
   rcases hs.inj A' A L' L eH hA e' heq with h1|h1|h1
   .exact h1 ⟨x,hx,hxd⟩
   .exact h1 ⟨_,hg,j8⟩
   .obtain ⟨_,S9,e2,qy⟩:=h1
    rw [hg] at qy
    cases qy
    exact uF _ _ rfl
 .intro A1 A2 L1 L2 h1 h2 ba hb
  have cO:∀ A',¬ live h A'->¬ live (h.set A b') A':=by
   intro A' hd
   by_cases e':A'=A
   .subst e';exact (hd ⟨_,hg,j8⟩).elim
   .unfold live at hd ⊢
    rw [Heap.aR _ _ _ _ vk,az e']
    exact hd
  have N5:∀ A',nE h A'->nE (h.set A b') A':=by
   rintro A' ⟨S9,e2,qy⟩
   refine ⟨S9,e2,?_⟩
   rw [Heap.aR _ _ _ _ vk,az (by intro e';subst e';rw [hg] at qy;cases qy;exact uF _ _ rfl)]
   exact qy
  rcases hs.inj A1 A2 L1 L2 h1 h2 ba hb with h3|h3|⟨h3,h4⟩
  .exact .inl (cO _ h3)
  .exact .inr (.inl (cO _ h3))
  .exact .inr (.inr ⟨N5 _ h3,N5 _ h4⟩)

theorem TW (P:Program) (g o:Nat) (t:TypeId) (fz:Nat × Nat):∀ (vs:List ae) (i:Nat) (cur:Array ae) (w:World),w.heap[g]? = some (.cells cur t fz)->oh t cur.size fz->o+i+vs.length<=cur.size->(∀ v∈vs,v.oneCell'=true) ->
 (storeCells ⟨g,o,none⟩ vs i).run P w=.ok () (w.setRow g (cur.toList.take (o+i)++vs++cur.toList.drop (o+i+vs.length)).toArray)
 | [],i,cur,w,hg,_,_,_=>by
  simp only [storeCells,bu,dr,jh,qo,Array.toArray_toList]
  rw [setRow_self w g cur t fz hg]
  rfl
 |v::rest,i,cur,w,hg,Nt,hl,h1=>by
  have hi:o+i < cur.size:=by simp at hl;omega
  have X0:(⟨g,o,none⟩:Addr).add i=⟨g,o+i,none⟩:=by unfold Addr.add;split <;> simp_all
  have eV:w.cell? ⟨g,o+i,none⟩=some cur[o+i]:=by simp [World.cell?,hg,hi]
  have Yy:w.frozen? ⟨g,o+i,none⟩=false:=by
   have h0:=Nt.ZQ (o+i) hi
   obtain ⟨lo,qz⟩:=fz
   simp only [World.frozen?,hg,RW,decide_eq_false_iff_not]
   simp only at h0
   omega
  have eZ:(store ((⟨g,o,none⟩:Addr).add i) v).run P w=.ok () (w.setRow g (cur.setIfInBounds (o+i) v)):=by
   rw [X0,run_store P w _ v _ (h1 v (by simp)),eV]
   simp [Yy,setCell_eq_setRow w g (o+i) cur t fz v hg]
  have ih:=TW P g o t fz rest (i+1) (cur.setIfInBounds (o+i) v) (w.setRow g (cur.setIfInBounds (o+i) v)) (setRow_heap w g cur _ t _ hg) (by simpa using Nt) (by simp at hl ⊢;omega) (λx hx=>h1 x (by simp [hx]))
  simp only [storeCells,Sem.run_bind,eZ,Result.andThen_ok,ih,setRow_setRow]
  congr 3
  have e:=list_seg_step cur.toList (o+i) v rest (by simp at hl ⊢;omega)
  simpa [Array.toList_setIfInBounds,oW] using e

theorem Q8 (hs:bT ρ h w) {L:Loc} {vs us:List ae} (hA:ρ A=some L) (hv:cB ρ vs us) (hw:kH A o vs h=some h') :
 ∃ w',(storeCells ⟨L.b,L.s+o,none⟩ us 0).run P w=.ok () w'/\Fr ρ ρ h h' w w'/\bT ρ h' w':=by
 have hb:=hs.fL A L hA
 unfold kH at hw
 split at hw
 .rename_i cs e hg
  split at hw
  .rename_i hc
   simp only [dP,gY] at hc
   obtain ⟨ho,h1⟩:=hc
   cases hw
   rw [hg] at hb
   obtain ⟨cur,fz,gl,nY,nD,m,hm,IQ⟩:=hb
   obtain ⟨k1,k2,k3⟩:=qk hm
   have hlu:vs.length=us.length:=hv.1
   have eZ:=TW P L.b (L.s+o) e fz us 0 cur w gl nY (by simp at k1 ⊢;omega) (hv.one h1)
   simp only [jh] at eZ
   let lK:=(cur.toList.take (L.s+o)++us++cur.toList.drop (L.s+o+us.length)).toArray
   have rk:(w.setRow L.b lK).heap[L.b]? = some (.cells lK e fz):=setRow_heap w L.b cur lK e _ gl
   have dS:(w.setRow L.b lK).heap.size=w.heap.size:=by simp [World.setRow]
   have Zo:oh e lK.size fz:=by
    have:=oS (l:=cur.toList) (vs:=us) (o:=L.s+o) (by simp at k1 ⊢;omega)
    have h2:lK.size=cur.size:=by simpa [lK,aF] using this
    rw [h2]
    exact nY
   refine ⟨w.setRow L.b lK,eZ,Jl hs hA hg (by simp) (by simp) rfl rfl rfl dS (λb hb=>setRow_other w L.b b lK hb) ⟨lK,fz,rk,Zo,?_,aF m o us,?_,IQ.aF o hv⟩⟩
   .show lK.size=L.vR
    rw [<- nD]
    have:=oS (l:=cur.toList) (vs:=us) (o:=L.s+o) (by simp at k1 ⊢;omega)
    simpa [lK,aF] using this
   .rw [oS ho]
    have:=zlo (us:=us) (o:=o) hm (by omega)
    simpa [lK,aF] using this
  .cases hw
 .cases hw

theorem T6 (hs:bT ρ h w) (gf:ρ h.size=none) {L:Loc} {b:bh} (hold:∀ k,k < w.heap.size->W.heap[k]? = w.heap[k]?) (dS:w.heap.size<=W.heap.size)
 (vC:W.os=w.os) (kU:W.tape=w.tape) (cT:W.output=w.output) (hL:w.heap.size<=L.b) (hb:∀ ρ',(∀ A L,ρ A=some L->ρ' A=some L)->qS ρ' W L (some b)) :
 ∃ ρ',ρ' h.size=some L/\Fr ρ ρ' h (h.push b) w W/\bT ρ' (h.push b) W:=by
 have eN:∀ A L',ρ A=some L'->(λA=>if A=h.size then some L else ρ A) A=some L':=by
  intro A L' hA
  have ba:A≠h.size:=λe=>by rw [e,gf] at hA;cases hA
  simp only [az ba]
  exact hA
 refine ⟨λA=>if A=h.size then some L else ρ A,by simp,⟨eN,?_,vC,kU,cT,dS,by rw [Heap.size_push];omega,bo _,λb hb _=>hold b hb,?_⟩,⟨?_,?_⟩⟩
 .intro A L' hA hn
  split at hA
  .rename_i e1;cases hA;exact ⟨by omega,by rw [Heap.size_push];omega,.inl hL⟩
  .rw [hn] at hA;cases hA
 .intro A hA _
  rw [Heap.bx,az (by omega)]
 .intro A L' hA
  rw [Heap.bx]
  split at hA
  .rename_i e1
   cases hA
   rw [aE e1]
   exact hb _ eN
  .rename_i e1
   rw [az e1]
   exact (hs.fL A L' hA).keep eN dS λ_=>hold _ (hs.lt hA)
 .intro A1 A2 L1 L2 h1 h2 ba uy
  have eR:∀ A,A≠h.size->(h.push b).get A=h.get A:=λA hA=>by rw [Heap.bx,az hA]
  split at h1
  .split at h2
   .omega
   .rename_i e1 e2
    cases h1
    have:=hs.lt h2
    omega
  .split at h2
   .rename_i e1 e2
    cases h2
    have:=hs.lt h1
    omega
   .rename_i e1 e2
    unfold live nE
    rw [eR A1 e1,eR A2 e2]
    exact hs.inj A1 A2 L1 L2 h1 h2 ba uy

theorem zjY (hs:bT ρ h w) (gf:ρ h.size=none) {cs:List ae} {cur:Array ae} {e:TypeId} {fz:Nat × Nat} (nY:oh e cur.size fz) (hW:W.heap=w.heap.push (.cells cur e fz))
 (vC:W.os=w.os) (kU:W.tape=w.tape) (cT:W.output=w.output) (nt:cut cur.toList 0 cs.length=some m) (hv:cB ρ cs m) :
 ∃ ρ',ρ' h.size=some ⟨w.heap.size,0,cur.size⟩/\Fr ρ ρ' h (h.push (.row cs e false)) w W/\bT ρ' (h.push (.row cs e false)) W:=by
 refine T6 hs gf (λk hk=>by rw [hW,xi,az (by omega)]) (by rw [hW];simp) vC kU cT (bo _) λρ' hg=>?_
 exact ⟨cur,fz,by rw [hW];simp,nY,rfl,m,nt,hv.mono hg⟩
theorem Jj (hs:bT ρ h w) (gf:ρ h.size=none) {cs:List ae} {cur:Array ae} {e:TypeId} (hW:W.heap=w.heap.push (.cells cur e (0,0)))
 (vC:W.os=w.os) (kU:W.tape=w.tape) (cT:W.output=w.output) (nt:cut cur.toList 0 cs.length=some m) (hv:cB ρ cs m) :
 ∃ ρ',ρ' h.size=some ⟨w.heap.size,0,cur.size⟩/\Fr ρ ρ' h (h.push (.row cs e false)) w W/\bT ρ' (h.push (.row cs e false)) W :=
 zjY hs gf (.zero _ _) hW vC kU cT nt hv

theorem bT.same (hs:bT ρ h w) (hW:W.heap=w.heap):bT ρ h W :=
 ⟨λA L hA=>(hs.fL A L hA).keep (λ_ _ h=>h) (by rw [hW];exact bo _) (λ_=>by rw [hW]),hs.inj⟩
end
end Go.Am
namespace Go.Am
open Go.RowKit
variable {m news:List ae} {c k n o q:Nat} {y:ae} {e t ty u:TypeId}

theorem zeb (z:Array ae) (n:Nat):((Array.range (n*z.size)).map λi=>z[i % z.size]!).toList=oU z.toList n:=by
 induction n with
 |zero=>simp [oU]
 |succ n ih =>
  have hr:Array.range ((n+1)*z.size)=Array.range (n*z.size)++(Array.range z.size).map (n*z.size+·):=by
   apply Array.ext'
   simp only [Array.toList_range,JQ,Array.toList_map,sZ,Nat.one_mul,List.range_add]
  rw [hr,Array.map_append,JQ,ih]
  simp only [oU,List.replicate_succ',List.flatten_append,List.flatten_singleton]
  congr 1
  apply r8
  intro i
  by_cases hi:i < z.size
  .simp [hi,EO hi]
  .simp [hi]

theorem zmX (z:List ae) (n:Nat):(oU z n).length=n*z.length:=by simp [oU]

theorem zfU {z:List ae} (h:z.all mN=true) (n:Nat):(oU z n).all mN=true:=by
 simp only [oU,gK,List.mem_flatten,List.mem_replicate] at *
 rintro x ⟨l,⟨_,rfl⟩,hx⟩
 exact h x hx


section
variable {P:Program} {T:bL} {ρ:cI} {h h':Heap} {w:World}

theorem zir {b:Nat} (h:w.rangeAt b o m):w.rangeAt b o (m.take q):=by
 intro j v hv
 rw [lX] at hv
 split at hv
 .exact h j v hv
 .cases hv

theorem TV {b:Nat} (h:w.rangeAt b o m) (hl:m.length=q*k):(Builtin.firstCells k q (.slice (some ⟨b,o,none⟩) n c)).run P w=.ok m.toArray w :=
 run_firstCells_some w k q ⟨b,o,none⟩ n c m hl (λj v hv=>by rw [Addr.add_mid];exact h j v hv)

theorem zfv (hs:bT ρ h w) {a:Option Addr} {l:List ae} (dj:VR ρ (.slice a n c) y) (hc:nQ (.slice a n c) k h=some l) :
 ∃ a' c' m,y=.slice a' n c'/\cB ρ l m/\m.length=n*k/\∀ W:World,W.heap=w.heap->∀ q,q<=n->(Builtin.firstCells k q y).run P W=.ok (m.take (q*k)).toArray W:=by
 have hzero:∀ (q:Nat) (ad:Addr) (c':Nat) (W:World),q*k=0->(Builtin.firstCells k q (.slice (some ad) n c')).run P W=.ok #[] W:=by
  intro q ad c' W hq
  simp [Builtin.firstCells,hq,loadCells,loadCellsFrom]
 have yf:∀ {A o:Nat} {L:Loc} {ad:Addr} {c':Nat},ρ A=some L->(n≠0->ad=⟨L.b,L.s+o,none⟩)->nQ (.slice (some ⟨A,o,none⟩) n c) k h=some l ->
  ∃ m,cB ρ l m/\m.length=n*k/\∀ W:World,W.heap=w.heap->∀ q,q<=n->(Builtin.firstCells k q (.slice (some ad) n c')).run P W=.ok (m.take (q*k)).toArray W:=by
  intro A o L ad c' hA ez hc
  simp only [nQ] at hc
  split at hc
  .rename_i h0
   cases hc
   refine ⟨[],.nil ρ,by simp [h0],λW _ q hq=>?_⟩
   have h1:q*k=0:=by
    rcases Nat.mul_eq_zero.1 h0 with e|e
    .have:q=0:=by omega
     simp [this]
    .simp [e]
   rw [hzero q ad c' W h1]
   simp
  .rename_i h0
   have hn:n≠0:=λe=>h0 (by simp [e])
   obtain ⟨m,hm,hlen,hr⟩:=TY hs hA hc
   refine ⟨m,hm,hlen,λW hW q hq=>?_⟩
   rw [ez hn]
   have bM:W.rangeAt L.b (L.s+o) m:=λj v hv=>(World.cell?_of_block (by rw [hW])).trans (hr j v hv)
   refine TV (zir bM) ?_
   rw [fj,hlen]
   exact Nat.min_eq_left (py _ hq)
 cases dj with
 |dN =>
  simp only [nQ] at hc
  cases hc
  refine ⟨none,0,[],rfl,.nil ρ,by simp,λW _ q hq=>?_⟩
  have:q=0:=by omega
  subst this
  simp [Builtin.firstCells]
 |slice hA tz hn ez =>
  obtain ⟨m,h1,h2,h3⟩:=yf hA (λh0=>ez (by omega)) hc
  exact ⟨_,_,m,rfl,h1,h2,h3⟩
 |cm hA tz cM hn hk hm ez =>
  obtain ⟨m,h1,h2,h3⟩:=yf hA (λh0=>(ez (by omega)).1) hc
  exact ⟨_,_,m,rfl,h1,h2,h3⟩

theorem zlV (hs:bT ρ h w) {x:ae} {m:Nat} {l:List ae} (dj:VR ρ x y) (hc:fT x k h=some (m,l)) :
 ∃ n,cB ρ l n/\n.length=m*k/\Builtin.lenOf y=pure m/\∀ W:World,W.heap=w.heap->∀ q,q<=m->(Builtin.firstCells k q y).run P W=.ok (n.take (q*k)).toArray W:=by
 cases x with
 |string b =>
  cases dj
  simp only [fT] at hc
  split at hc
  .rename_i hk
   subst hk
   cases hc
   refine ⟨_,cB.plain ρ (by rw [gK];intro x hx;rw [ud] at hx;obtain ⟨u,_,rfl⟩:=hx;rfl),by simp,rfl,λW _ q hq=>?_⟩
   simp only [Builtin.firstCells,Sem.run_pure,Dg]
   congr 1
   apply Array.ext'
   have hd:(b.extract 0 q).data=b.data.extract 0 q:=by
    exact ByteArray.data_extract
   rw [hd]
   simp
  .cases hc
 |slice a n c =>
  simp only [fT,cC,df] at hc
  obtain ⟨l',hc,rfl,rfl⟩:=hc
  obtain ⟨a',c',m,rfl,h1,h2,h3⟩:=zfv (P:=P) hs dj hc
  exact ⟨m,h1,h2,rfl,h3⟩
 |_=>simp [fT] at hc

def SH (P:Program) (u:TypeId):Prop:=(∃ e',P.underlying u=some (.slice e'))\/P.underlying u=some .string

theorem zds {i:TypeInfo} (ht:P.underlying t=some (.slice e)) (hu:SH P u) (hi:P.info? e=some i)
 {a:Addr} {m:Nat} (hlen:Builtin.lenOf y=pure m) (hf:(Builtin.firstCells i.size m y).run P w=.ok news.toArray w) (iL:n+m<=c) {w':World}
 (eZ:(storeCells (a.add (n*i.size)) news 0).run P w=.ok () w') :
 (Builtin.append_ #[t,u] ty #[.slice (some a) n c,y]).run P w=.ok (.slice (some a) (n+m) c) w':=by
 rcases hu with ⟨e',hd⟩|hd
 .simp [Builtin.append_,run_underlying ht,run_underlying hd,sizeOf,typeInfo,hi,hlen,iL,hf,eZ]
 .simp [Builtin.append_,run_underlying ht,run_underlying hd,sizeOf,typeInfo,hi,hlen,iL,hf,eZ]

theorem zj7 {i:TypeInfo} (ht:P.underlying t=some (.slice e)) (hu:SH P u) (hi:P.info? e=some i)
 {a:Option Addr} (hlen:Builtin.lenOf y=pure 0) (hf:(Builtin.firstCells i.size 0 y).run P w=.ok #[] w) (iL:n<=c) :
 (Builtin.append_ #[t,u] ty #[.slice a n c,y]).run P w=.ok (.slice a n c) w:=by
 rcases hu with ⟨e',hd⟩|hd <;> cases a <;> simp [Builtin.append_,run_underlying ht,run_underlying hd,sizeOf,typeInfo,hi,hlen,iL,hf,storeCells]

theorem ziJ {i:TypeInfo} {z:ae} (ht:P.underlying t=some (.slice e)) (hu:SH P u) (hi:P.info? e=some i) (hz:i.zero=some z)
 {base:Option Addr} {m:Nat} {rI:List ae} (hlen:Builtin.lenOf y=pure m) (hf:(Builtin.firstCells i.size m y).run P w.drew=.ok news.toArray w.drew)
 (ho:(Builtin.firstCells i.size n (.slice base n c)).run P w.drew=.ok rI.toArray w.drew)
 (hg:c < n+m) (h63:n+m<=1152921504606846976) (kq:(n+m)*i.bytes<=140737488355328) :
 (Builtin.append_ #[t,u] ty #[.slice base n c,y]).run P w =
  .ok (.slice (some ⟨w.heap.size,0,none⟩) (n+m) (grownCap w (n+m) c e)) (w.drew.alloc (.cells ((rI++news)++(Builtin.zeroCells z.cells (grownCap w (n+m) c e - (n+m))).toList).toArray e)):=by
 have hn:¬ (n+m<=c):=by omega
 have MN:¬ (9223372036854775807 < ((n:Int)+(m:Int))):=by omega
 have afz:=growslice_fits hg kq
 have MM:¬ (281474976710656 < Builtin.nextslicecap (n+m) c*i.bytes):=by omega
 rcases hu with ⟨e',hd⟩|hd
 .simp [Builtin.append_,run_underlying ht,run_underlying hd,sizeOf,typeInfo,zeroValue,hi,hz,hlen,hn,MN,MM,Question.forced,hf,ho,Go.newRow,grownCap]
  congr 2
  apply Array.ext'
  simp
 .simp [Builtin.append_,run_underlying ht,run_underlying hd,sizeOf,typeInfo,zeroValue,hi,hz,hlen,hn,MN,MM,Question.forced,hf,ho,Go.newRow,grownCap]
  congr 2
  apply Array.ext'
  simp

theorem zlp (hs:bT ρ h w) {A:Nat} {cs:List ae} (hg:h.get A=some (.row cs e false)) :
 Fr ρ ρ h (h.set A .dead) w w/\bT ρ (h.set A .dead) w:=by
 have vk:A < h.size:=Heap.bF hg
 refine ⟨⟨λ_ _ h=>h,λA' L' h1 h2=>(by rw [h1] at h2;cases h2),rfl,rfl,rfl,bo _,bo _,zN _ _,λ_ _ _=>rfl,?_⟩,⟨?_,?_⟩⟩
 .intro A' eH hl
  rw [Heap.bX] at hl
  rw [Heap.aR _ _ _ _ vk,az (by omega)]
 .intro A' L' eH
  rw [Heap.aR _ _ _ _ vk]
  by_cases e':A'=A
  .subst e'
   rw [aE rfl]
   exact hs.lt eH
  .rw [az e']
   exact hs.fL A' L' eH
 .intro A1 A2 L1 L2 h1 h2 ba hb
  unfold live nE
  rw [Heap.aR _ _ _ _ vk,Heap.aR _ _ _ _ vk]
  by_cases e1:A1=A
  .left;simp [e1]
  .by_cases e2:A2=A
   .right;left;simp [e2]
   .rw [az e1,az e2]
    exact hs.inj A1 A2 L1 L2 h1 h2 ba hb

theorem zus {cur us:List ae} {s:Nat} (hc:cut cur s n=some m) (hl:s+n+us.length<=cur.length) :
 cut (aF cur (s+n) us) s (n+us.length)=some (m++us):=by
 obtain ⟨h1,h2,h3⟩:=qk hc
 refine sQ (by rw [oS hl];omega) (by simp [h2]) λi hi=>?_
 rw [bN _ _ _ _ hl,xj,h2]
 by_cases qz:i < n
 .rw [aE qz,aE (by omega),h3 i qz]
 .rw [az qz,az (by omega),aE (by omega)]
  congr 1
  omega

theorem zsn (hs:bT ρ h w) (gf:ρ h.size=none) {A:Nat} {L:Loc} {cs eT us:List ae} {cur:Array ae} {fz:Nat × Nat} (hA:ρ A=some L) (hg:h.get A=some (.row cs e false))
 (gl:w.heap[L.b]? = some (.cells cur e fz)) (nY:oh e cur.size fz) (nD:cur.size=L.vR) (hm:cut cur.toList (L.s+o) eT.length=some m) (hv:cB ρ eT m) (hn:cB ρ news us)
 (kq:L.s+o+eT.length+us.length<=L.vR) :
 ∃ ρ',ρ' h.size=some ⟨L.b,L.s+o,L.vR⟩/\Fr ρ ρ' h ((h.set A .dead).push (.row (eT++news) e false)) w (w.setRow L.b (aF cur.toList (L.s+o+eT.length) us).toArray) /\
   bT ρ' ((h.set A .dead).push (.row (eT++news) e false)) (w.setRow L.b (aF cur.toList (L.s+o+eT.length) us).toArray):=by
 have vk:A < h.size:=Heap.bF hg
 have eN:∀ A L',ρ A=some L'->(λA=>if A=h.size then some (⟨L.b,L.s+o,L.vR⟩:Loc) else ρ A) A=some L':=by
  intro A L' hA
  have ba:A≠h.size:=λe=>by rw [e,gf] at hA;cases hA
  simp only [az ba]
  exact hA
 have rk:=setRow_heap w L.b cur (aF cur.toList (L.s+o+eT.length) us).toArray e _ gl
 have jx:∀ b,b≠L.b->(w.setRow L.b (aF cur.toList (L.s+o+eT.length) us).toArray).heap[b]? = w.heap[b]? := λb hb=>setRow_other w L.b b _ hb
 have dS:(w.setRow L.b (aF cur.toList (L.s+o+eT.length) us).toArray).heap.size=w.heap.size:=by simp [World.setRow]
 have eR:∀ j,((h.set A .dead).push (.row (eT++news) e false)).get j=if j=h.size then some (.row (eT++news) e false) else if j=A then some .dead else h.get j:=by
  intro j
  rw [Heap.bx,Heap.size_set,Heap.aR _ _ _ _ vk]
 have ba:∀ A' L',ρ A'=some L'->A'≠A->live h A'->L'.b≠L.b:=by
  intro A' L' eH e' j8 heq
  rcases hs.inj A' A L' L eH hA e' heq with h1|h1|h1
  .exact h1 j8
  .exact h1 ⟨_,hg,by simp⟩
  .obtain ⟨_,S9,e2,qy⟩:=h1
   rw [hg] at qy
   cases qy
 refine ⟨λA=>if A=h.size then some ⟨L.b,L.s+o,L.vR⟩ else ρ A,by simp,⟨eN,?_,rfl,rfl,rfl,by rw [dS];exact bo _,?_,zN _ _,?_,?_⟩,⟨?_,?_⟩⟩
 .intro A' L' eH Y0
  split at eH
  .rename_i e1
   cases eH
   refine ⟨by omega,by rw [Heap.size_push,Heap.size_set];omega,.inr ⟨A,L,hA,rfl,?_,by rw [Heap.size_push,Heap.size_set];omega⟩⟩
   rw [Heap.dv,Heap.bX]
   omega
  .rw [Y0] at eH;cases eH
 .rw [Heap.size_push,Heap.size_set];omega
 .intro b hb aC
  refine jx b λe'=>?_
  subst e'
  have:=aC A L hA rfl
  rw [Heap.dv,Heap.bX,Heap.size_push,Heap.size_set] at this
  omega
 .intro A' eH hl
  rw [Heap.dv,Heap.bX] at hl
  rw [eR,az (by omega),az (by omega)]
 .intro A' L' eH
  rw [eR]
  split at eH
  .rename_i e1
   cases eH
   rw [aE e1]
   refine ⟨_,fz,rk,?_,?_,m++us,?_,(hv.append hn).mono eN⟩
   .rw [H8,oS (by simp;omega)]
    simpa using nY
   .show (aF cur.toList (L.s+o+eT.length) us).toArray.size=L.vR
    rw [H8,oS (by simp;omega)]
    simpa using nD
   .show cut (aF cur.toList (L.s+o+eT.length) us) (L.s+o) (eT++news).length=some (m++us)
    rw [cW,hn.1]
    exact zus hm (by simp;omega)
  .rename_i e1
   rw [az e1]
   by_cases e2:A'=A
   .rw [aE e2]
    show L'.b < _
    rw [dS]
    exact hs.lt eH
   .rw [az e2]
    exact (hs.fL A' L' eH).keep eN (by rw [dS];exact bo _) λhl=>jx L'.b (ba A' L' eH e2 hl)
 .intro A1 A2 L1 L2 h1 h2 yD hb
  unfold live nE
  rw [eR,eR]
  have bn:∀ A' L',A'≠h.size->ρ A'=some L'->L.b=L'.b->¬ ∃ b,(if A'=A then some bh.dead else h.get A')=some b/\b≠.dead:=by
   intro A' L' hh eH uy
   by_cases e2:A'=A
   .simp [e2]
   .rw [az e2]
    exact λj8=>ba A' L' eH e2 j8 uy.symm
  split at h1
  .rename_i e1
   split at h2
   .omega
   .rename_i e2
    cases h1
    right;left
    rw [az e2]
    exact bn A2 L2 e2 h2 hb
  .rename_i e1
   split at h2
   .rename_i e2
    cases h2
    left
    rw [az e1]
    exact bn A1 L1 e1 h1 hb.symm
   .rename_i e2
    rw [az e1,az e2]
    by_cases f1:A1=A
    .left;simp [f1]
    .by_cases f2:A2=A
     .right;left;simp [f2]
     .rw [az f1,az f2]
      exact hs.inj A1 A2 L1 L2 h1 h2 yD hb

theorem CN (hk:0 < k) (hG:q < G):G<=G*k+q/\(G*k+q) % G=q/\(G*k+q) / G=k:=by
 refine ⟨?_,?_,?_⟩
 .calc G=G*1:=(Dg _).symm
   _<=G*k:=Nat.mul_le_mul_left _ hk
   _<=G*k+q:=Nat.le_add_right _ _
 .rw [Nat.mul_add_mod,EO hG]
 .rw [Nat.mul_add_div (by unfold G;omega),Nat.div_eq_of_lt hG,jh]

theorem zgO (hT:T.Fits P) (hs:bT ρ h w) (bR:fO ρ h h') {s s' x x' v:ae} (hu:SH P u) (Ah:VR ρ s s') (hx:VR ρ x x') (ha:iP T t s x h=some (v,h')) :
 ∃ ρ' vc w',(Builtin.append_ #[t,u] ty #[s',x']).run P w=.ok vc w'/\Fr ρ ρ' h h' w w'/\bT ρ' h' w'/\VR ρ' v vc:=by
 unfold iP at ha
 split at ha
 .rename_i e hd
  have ht:=hT.desc _ _ hd
  simp only [cH,Prod.exists] at ha
  obtain ⟨k,bytes,z,gQ,m,news,ku,ha⟩:=ha
  obtain ⟨i,zv,hi,rfl,rfl,hz,rfl,vM,uJ⟩:=hT.info e k bytes z gQ
  obtain ⟨us,kV,Og,hlen,eu⟩:=zlV (P:=P) hs hx ku
  have Ns:us.take (m*i.size)=us:=fX (by omega)
  have hf:∀ W:World,W.heap=w.heap->(Builtin.firstCells i.size m x').run P W=.ok us.toArray W:=λW hW=>by
   have:=eu W hW m (bo _)
   rwa [Ns] at this
  split at ha
  .rename_i base n c
   split at ha
   .rename_i hm
    subst hm
    cases ha
    have h0:=eu w rfl 0 (bo _)
    simp only [Nat.zero_mul,zP] at h0
    have key:∃ a' c',s'=.slice a' n c'/\n<=c':=by
     cases Ah with
     |dN=>exact ⟨_,_,rfl,bo _⟩
     |slice hA hc hn ez=>exact ⟨_,_,rfl,hn⟩
     |cm hA hc cM hn hk hm ez=>exact ⟨_,_,rfl,by omega⟩
    obtain ⟨a',c',rfl,hn⟩:=key
    exact ⟨ρ,_,w,zj7 ht hu hi hlen h0 hn,Fr.refl _ _ _,hs,Ah⟩
   .rename_i hm
    split at ha
    .cases ha
    .rename_i rh
     simp only [qt,gY,C9,not_or,Bool.not_eq_false] at rh
     obtain ⟨⟨⟨uB,vq⟩,h60⟩,bn⟩:=rh
     have yu:0 < i.size:=by omega
     split at ha
     .rename_i iL
      split at ha
      .rename_i A o
       split at ha
       .rename_i gV
        simp only [cC,df] at ha
        obtain ⟨h1,IU,rfl,rfl⟩:=ha
        cases Ah with
        |slice hA hc hn ez =>
         rename_i L ad
         obtain rfl:=ez (by have:=EO hc;omega)
         obtain ⟨w',eZ,dC,dZ⟩:=Q8 (P:=P) hs hA kV IU
         have hcc:c % G=c:=EO hc
         rw [<- oW] at eZ
         exact ⟨ρ,_,w',zds ht hu hi hlen (hf w rfl) (by omega) (by rw [Addr.add_mid];exact eZ),dC,dZ,.slice hA hc (by omega) (λ_=>rfl)⟩
        |cm hA hc cM hn hk DP ez =>
         rename_i c' L ad
         obtain ⟨w',eZ,dC,dZ⟩:=Q8 (P:=P) hs hA kV IU
         have zY:c'≠0:=by omega
         obtain ⟨rfl,kq⟩:=ez zY
         rw [<- oW] at eZ
         exact ⟨ρ,_,w',zds ht hu hi hlen (hf w rfl) (by omega) (by rw [Addr.add_mid];exact eZ),dC,dZ,.cm hA hc cM (by omega) hk DP (λ_=>⟨rfl,kq⟩)⟩
       .cases ha
      .cases ha
     .rename_i iL
      simp only [cH] at ha
      obtain ⟨eT,hold,ha⟩:=ha
      obtain ⟨a',c',mo,rfl,Zz,NO,hfo⟩:=zfv (P:=P) hs Ah hold
      have Gm:mo.take (n*i.size)=mo:=fX (by omega)
      have Yx:∀ W:World,W.heap=w.heap->(Builtin.firstCells i.size n (.slice a' n c')).run P W=.ok mo.toArray W:=λW hW=>by
       have:=hfo W hW n (bo _)
       rwa [Gm] at this
      have jQ:=CN (q:=n+m) yu (by unfold G;omega)
      have grown:∀ (h2:Heap),bT ρ h2 w->ρ h2.size=none->c' < n+m->∃ ρ' vc w',(Builtin.append_ #[t,u] ty #[.slice a' n c',x']).run P w=.ok vc w'/\Fr ρ ρ' h2 (h2.push (.row (eT++news) e false)) w w'/\bT ρ' (h2.push (.row (eT++news) e false)) w' /\
       VR ρ' (.slice (some ⟨h2.size,0,none⟩) (n+m) (G*i.size+(n+m))) vc:=by
       intro h2 gr NQ aP
       have hr:=ziJ (w:=w) (ty:=ty) ht hu hi hz hlen (hf w.drew rfl) (Yx w.drew rfl) aP (by omega) (by omega)
       have lq:=grownCap_ge w (n+m) c' e
       have hle:=grownCap_le_maxLen w (n+m) c' e (by unfold maxLen;omega)
       have pY:zv.cells.size=i.size:=by rw [<- qR,vM]
       have NF:((mo++us)++(Builtin.zeroCells zv.cells (grownCap w (n+m) c' e - (n+m))).toList).length=grownCap w (n+m) c' e*i.size:=by
        simp only [cW,NO,Og,qR,size_zeroCells,pY,<- sZ]
        congr 1
        omega
       have YV:(eT++news).length=(mo++us).length:=by simp [Zz.1,kV.1]
       obtain ⟨ρ',hρ,dC,dZ⟩:=Jj (W:=w.drew.alloc (.cells ((mo++us)++(Builtin.zeroCells zv.cells (grownCap w (n+m) c' e - (n+m))).toList).toArray e)) (cs:=eT++news) (m:=mo++us) gr NQ rfl rfl rfl rfl
        (by rw [YV]
            refine sQ (by simp) rfl λj hj=>?_
            rw [iu]
            exact (mX (l₂:=(Builtin.zeroCells zv.cells (grownCap w (n+m) c' e - (n+m))).toList) hj).symm)
        (Zz.append kV)
       refine ⟨ρ',_,_,hr,dC,dZ,?_⟩
       refine .cm hρ jQ.1 (by rw [jQ.2.1];exact lq) (by rw [jQ.2.1];exact bo _) (by rw [jQ.2.2];exact yu) hle (λ_=>⟨by simp,?_⟩)
       rw [jQ.2.2]
       simp only [H8,NF]
       omega
      split at ha
      .rename_i hc
       cases ha
       have hcc:c % G=c:=EO hc
       have anN:c'=c:=by
        cases Ah with
        |dN=>rfl
        |slice hA hc hn ez=>rfl
        |cm hA tz cM hn hk hm ez=>omega
       exact grown h hs (bR _ (bo _) (by rw [Heap.size_push];omega)) (by omega)
      .rename_i hc
       split at ha
       .rename_i A o
        split at ha
        .rename_i cs e' hg
         split at ha
         .rename_i ko
          simp only [dP,gY] at ko
          obtain ⟨rfl,gV⟩:=ko
          cases ha
          cases Ah with
          |slice hA tz hn ez=>omega
          |cm hA tz cM hn hk DP ez =>
           rename_i L ad
           by_cases aK:n+m<=c'
           .have zY:c'≠0:=by omega
            obtain ⟨rfl,kq⟩:=ez zY
            have hb:=hs.fL A L hA
            rw [hg] at hb
            obtain ⟨cur,fz,gl,nY,nD,m0,Ad,GW⟩:=hb
            obtain ⟨k1,k2,k3⟩:=qk Ad
            rw [gV] at kq
            have hmul:(n+m)*i.size<=c'*i.size:=py _ aK
            rw [sZ] at hmul
            have DR:eT.length=n*i.size:=by rw [Zz.1];exact NO
            have Ng:∃ mm,cut cur.toList (L.s+o) eT.length=some mm/\cB ρ eT mm:=by
             simp only [nQ] at hold
             split at hold
             .cases hold
              exact ⟨[],sQ (by simp;omega) rfl (by intro i hi;simp at hi),.nil ρ⟩
             .simp only [gS,hg] at hold
              obtain ⟨d,js,wL⟩:=GW.cut hold
              obtain ⟨d1,d2,d3⟩:=qk js
              refine ⟨d,sQ (by simp at k1 ⊢;omega) (by rw [DR];exact d2) (λj hj=>?_),wL⟩
              rw [d3 j (by omega),k3 (o+j) (by omega),oW]
            obtain ⟨mm,YZ,IQ⟩:=Ng
            obtain ⟨ρ',hρ,dC,dZ⟩:=zsn hs (bR _ (bo _) (by rw [Heap.size_push,Heap.size_set];omega)) hA hg gl nY nD YZ IQ kV (by omega)
            have eZ:=TW P L.b (L.s+o+eT.length) e' fz us 0 cur w gl nY (by simp;omega) (kV.one bn)
            simp only [jh] at eZ
            refine ⟨ρ',_,_,zds ht hu hi hlen (hf w rfl) aK (by rw [Addr.add_mid,<- DR];exact eZ),dC,dZ,?_⟩
            refine .cm hρ jQ.1 (by rw [jQ.2.1];exact aK) (by rw [jQ.2.1];exact bo _) (by rw [jQ.2.2];exact yu) DP (λ_=>⟨rfl,?_⟩)
            rw [jQ.2.2]
            exact kq
           .obtain ⟨pK,Hf⟩:=zlp hs hg
            obtain ⟨ρ',vc,w',hr,MK,aav,rF⟩:=grown _ Hf (bR _ (bo _) (by rw [Heap.size_push,Heap.size_set];omega)) (by omega)
            exact ⟨ρ',vc,w',hr,pK.trans MK,aav,rF⟩
         .cases ha
        .cases ha
       .cases ha
  .cases ha
 .cases ha

end
end Go.Am
namespace Go.Am
open Go.RowKit
variable {t:TypeId} {v:ae}

theorem QY {Z:Type} (P:Program):∀ (c:Sem Z) (a:Z),gT P c=some a->∀ w,c.run P w=.ok a w
 | .pure b,a,h,w=>by simp only [gT] at h;cases h;rfl
 | .program k,a,h,w=>by simp only [gT] at h;exact QY P (k P) a h w
 | .mark m k,a,h,w=>by simp only [gT] at h;exact QY P k a h w
 | .load ..,_,h,_=>by simp [gT] at h
 | .store ..,_,h,_=>by simp [gT] at h
 | .new ..,_,h,_=>by simp [gT] at h
 | .shape ..,_,h,_=>by simp [gT] at h
 | .freeze ..,_,h,_=>by simp [gT] at h
 | .frozen ..,_,h,_=>by simp [gT] at h
 | .getObj ..,_,h,_=>by simp [gT] at h
 | .setObj ..,_,h,_=>by simp [gT] at h
 | .choose ..,_,h,_=>by simp [gT] at h
 | .sys ..,_,h,_=>by simp [gT] at h
 | .halt ..,_,h,_=>by simp [gT] at h

section
variable {P:Program} {T:bL} {ρ:cI} {h h':Heap} {w:World}

theorem zsh (hT:T.Fits P) {n:Nat} (hn:cN T t=some n):∃ i,P.info? t=some i/\i.size=n:=by
 simp only [cN,cC,Prod.exists] at hn
 obtain ⟨a,b,c,hi,rfl⟩:=hn
 obtain ⟨i,zv,h1,h2,_⟩:=hT.info t a b c hi
 exact ⟨i,h1,h2⟩

theorem vV (hT:T.Fits P) {n:Nat} (hn:cN T t=some n) (w:World):(sizeOf t).run P w=.ok n w:=by
 obtain ⟨i,hi,rfl⟩:=zsh hT hn
 simp [sizeOf,typeInfo,hi]

theorem zri (hT:T.Fits P) (hs:bT ρ h w) {u ty:TypeId} {d d' s s':ae} (hd:VR ρ d d') (Ah:VR ρ s s') (hc:SD T t d s h=some (v,h')) :
 ∃ vc w',(Builtin.copy_ #[t,u] ty #[d',s']).run P w=.ok vc w'/\Fr ρ ρ h h' w w'/\bT ρ h' w'/\VR ρ v vc:=by
 unfold SD at hc
 split at hc
 .rename_i e a n c wG
  have ht:=hT.desc _ _ wG
  simp only [cH,Prod.exists] at hc
  obtain ⟨k,hk,m,src,ku,hc⟩:=hc
  obtain ⟨us,kV,Og,hlen,eu⟩:=zlV (P:=P) hs Ah ku
  have dS:=vV hT hk w
  have hf:=eu w rfl (min m n) (zN _ _)
  split at hc
  .rename_i h0
   cases hc
   rw [h0] at hf
   simp only [Nat.zero_mul,zP] at hf
   have yB:Nat.min m n=0:=h0
   have key:∃ a' c',d'=.slice a' n c':=by cases hd <;> exact ⟨_,_,rfl⟩
   obtain ⟨a',c',rfl⟩:=key
   refine ⟨.int .i64 0,w,?_,Fr.refl _ _ _,hs,.int _ _⟩
   cases a' <;> simp [Builtin.copy_,run_underlying ht,hlen,yB,dS,hf,storeCells,goInt]
  .rename_i h0
   have yB:Nat.min m n=min m n:=rfl
   split at hc
   .rename_i A o
    simp only [cC,df] at hc
    obtain ⟨h1,IU,rfl,rfl⟩:=hc
    have key:∃ L c',ρ A=some L/\d'=.slice (some ⟨L.b,L.s+o,none⟩) n c':=by
     cases hd with
     |slice hA hc hn ez =>
      obtain rfl:=ez (by omega)
      exact ⟨_,_,hA,rfl⟩
     |cm hA hc cM hn hk hm ez =>
      obtain ⟨rfl,_⟩:=ez (by omega)
      exact ⟨_,_,hA,rfl⟩
    obtain ⟨L,c',hA,rfl⟩:=key
    obtain ⟨w',eZ,dC,dZ⟩:=Q8 (P:=P) hs hA (kV.take _) IU
    refine ⟨.int .i64 (min m n:Nat),w',?_,dC,dZ,.int _ _⟩
    simp [Builtin.copy_,run_underlying ht,hlen,yB,dS,hf,eZ,goInt]
   .cases hc
 .cases hc

theorem zoC (hT:T.Fits P) (hs:bT ρ h w) {ty:TypeId} {x x':ae} (hx:VR ρ x x') (hc:rV T t x h=some h') :
 ∃ w',(Builtin.clear_ #[t] ty #[x']).run P w=.ok undef w'/\Fr ρ ρ h h' w w'/\bT ρ h' w':=by
 unfold rV at hc
 split at hc
 .rename_i e a n c wG
  have ht:=hT.desc _ _ wG
  split at hc
  .rename_i h0
   subst h0
   cases hc
   have key:∃ a' c',x'=.slice a' 0 c':=by cases hx <;> exact ⟨_,_,rfl⟩
   obtain ⟨a',c',rfl⟩:=key
   refine ⟨w,?_,Fr.refl _ _ _,hs⟩
   cases a' <;> simp [Builtin.clear_,run_underlying ht,undef]
  .rename_i h0
   simp only [cH,Prod.exists] at hc
   obtain ⟨k,wy,z,gQ,hc⟩:=hc
   obtain ⟨i,zv,hi,rfl,rfl,hz,rfl,vM,uJ⟩:=hT.info e k wy z gQ
   split at hc
   .rename_i A o
    have key:∃ L c',ρ A=some L/\x'=.slice (some ⟨L.b,L.s+o,none⟩) n c':=by
     cases hx with
     |slice hA hc hn ez =>
      obtain rfl:=ez (by omega)
      exact ⟨_,_,hA,rfl⟩
     |cm hA hc cM hn hk hm ez =>
      obtain ⟨rfl,_⟩:=ez (by omega)
      exact ⟨_,_,hA,rfl⟩
    obtain ⟨L,c',hA,rfl⟩:=key
    obtain ⟨w',eZ,dC,dZ⟩:=Q8 (P:=P) hs hA (cB.plain ρ (zfU uJ n)) hc
    refine ⟨w',?_,dC,dZ⟩
    have ZM:(Builtin.zeroCells zv.cells n).toList=oU zv.cells.toList n:=zeb zv.cells n
    obtain ⟨n',rfl⟩:∃ n',n=n'+1:=⟨n - 1,by omega⟩
    simp [Builtin.clear_,run_underlying ht,zeroValue,typeInfo,hi,hz,ZM,eZ,undef]
   .cases hc
 .cases hc

theorem ziH (hT:T.Fits P) (hs:bT ρ h w) (bR:fO ρ h h') {l l' c c':ae} (hl:VR ρ l l') (hc:VR ρ c c') (hm:Rb T t l c h=some (v,h')) :
 ∃ ρ' vc w',(Instr.makeSlice t l' c').run P w=.ok vc w'/\Fr ρ ρ' h h' w w'/\bT ρ' h' w'/\VR ρ' v vc:=by
 unfold Rb at hm
 split at hm
 .rename_i e k1 l k2 c wG
  cases hl
  cases hc
  have ht:=hT.desc _ _ wG
  simp only [cH,Prod.exists] at hm
  obtain ⟨k,wy,z,gQ,hm⟩:=hm
  obtain ⟨i,zv,hi,rfl,rfl,hz,rfl,vM,uJ⟩:=hT.info e k wy z gQ
  split at hm
  .rename_i hh
   obtain ⟨h0,hlc,h60,vq⟩:=hh
   cases hm
   have hr:=run_make (P:=P) w t e i zv ht hi hz k1 k2 l c h0 hlc (by rw [Int.mul_comm];omega) (by omega)
   have pY:zv.cells.size=i.size:=by rw [<- qR,vM]
   have yA:(madeCells zv.cells (c.toNat*i.size)).toList=oU zv.cells.toList c.toNat:=by
    rw [<- pY]
    exact zeb zv.cells c.toNat
   obtain ⟨ρ',hρ,dC,dZ⟩:=Jj (W:=w.alloc (.cells (madeCells zv.cells (c.toNat*i.size)) e)) (cs:=oU zv.cells.toList c.toNat) (m:=oU zv.cells.toList c.toNat) hs (bR _ (bo _) (by rw [Heap.size_push];omega)) rfl rfl rfl rfl
    (by rw [yA];exact sQ (by omega) rfl (λj _=>by rw [iu])) (cB.plain ρ (zfU uJ _))
   refine ⟨ρ',_,_,hr,dC,dZ,?_⟩
   have:=VR.slice (ρ:=ρ') (o:=0) (n:=l.toNat) (c:=c.toNat) hρ (by unfold G;omega) (by omega) (λ_=>rfl)
   simpa using this
  .cases hm
 .cases hm

theorem zlz (off:Nat):∀ (l:List ae) (k:Nat) (cs:Array ae),off+k+l.length<=cs.size ->
 ((l.zipIdx k).foldl (λcs (x:ae × Nat)=>cs.setIfInBounds (off+x.2) x.1) cs).toList=aF cs.toList (off+k) l
 | [],k,cs,_=>by simp [aF]
 |v::l,k,cs,hl=>by
  simp only [List.zipIdx_cons,wu]
  have BP:off+k+(l.length+1)<=cs.size:=by simpa using hl
  rw [zlz off l (k+1) _ (by simp;omega)]
  apply r8
  intro i
  rw [bN _ _ _ _ (by simp;omega),bN _ _ _ _ (by simp;omega)]
  simp only [Array.toList_setIfInBounds,sX,de,qR]
  by_cases h1:i < off+k
  .rw [aE h1,aE (by omega),az (by omega)]
  .rw [az h1]
   by_cases h2:i=off+k
   .subst h2
    rw [aE (by omega),aE rfl,aE (by omega),aE (by omega)]
    simp
   .rw [az (by omega)]
    by_cases h3:i < off+k+(l.length+1)
    .rw [aE (by omega),aE h3]
     obtain ⟨j,rfl⟩:∃ j,i=off+k+1+j:=⟨i - (off+k+1),by omega⟩
     rw [show off+k+1+j - (off+(k+1))=j by omega,show off+k+1+j - (off+k)=j+1 by omega]
     simp
    .rw [az (by omega),az h3,az (by omega)]

theorem Q3 {place place':Nat->Option (Nat × Nat)} (hp:∀ i r,place i=some r->place' i=some r):∀ (parts ea:List (Nat × ae)) (cs pI:List ae) (ds:Array ae),
 parts.length=ea.length->(∀ (i:Nat) (x y:Nat × ae),parts[i]? = some x->ea[i]? = some y->x.1=y.1/\VR ρ x.2 y.2)->cB ρ cs ds.toList->sU place cs parts=some pI ->
 ∃ Ta,Instr.fill place' ds ea=some Ta/\cB ρ pI Ta.toList
 | [],[],cs,pI,ds,_,_,hv,hf=>by
  simp only [sU] at hf
  cases hf
  exact ⟨ds,rfl,hv⟩
 |(i,v)::parts,(j,u)::ea,cs,pI,ds,hlen,aC,hv,hf=>by
  obtain ⟨dF,n8⟩:=aC 0 _ _ rfl rfl
  simp only at dF n8
  subst dF
  simp only [sU,cH,Prod.exists] at hf
  obtain ⟨o,n,kT,hf⟩:=hf
  split at hf
  .rename_i hc
   have mS:u.cells.size=v.cells.size:=by have:=n8.cells.1;simpa using this.symm
   have rn:ds.size=cs.length:=by have:=hv.1;simpa using this.symm
   have Nr:=zlz o u.cells.toList 0 ds (by simp;omega)
   have BK:(u.cells.zipIdx.foldl (λcs (x:ae × Nat)=>cs.setIfInBounds (o+x.2) x.1) ds).toList=aF ds.toList o u.cells.toList:=by
    rw [<- Array.foldl_toList,Array.toList_zipIdx]
    simpa using Nr
   have Oh:cB ρ (aF cs o v.cells.toList) (u.cells.zipIdx.foldl (λcs (x:ae × Nat)=>cs.setIfInBounds (o+x.2) x.1) ds).toList:=by
    rw [BK]
    exact hv.aF o n8.cells
   obtain ⟨Ta,vx,js⟩:=Q3 hp parts ea _ pI _ (by simpa using hlen) (λi x y hx hy=>aC (i+1) x y (by simpa using hx) (by simpa using hy)) Oh hf
   refine ⟨Ta,?_,js⟩
   simp only [Instr.fill,hp i _ kT]
   rw [az (by simp;omega)]
   exact vx
  .cases hf
 | [],_::_,_,_,_,hlen,_,_,_=>by simp at hlen
 |_::_,[],_,_,_,hlen,_,_,_=>by simp at hlen

theorem zhg (hT:T.Fits P):∀ (fs:List Field) (ps:List (Nat × Nat)) (w:World),RR T fs=some ps->(fs.mapM λf=>do pure (f.offset,<- sizeOf f.type):Sem (List (Nat × Nat))).run P w=.ok ps w
 | [],ps,w,hp=>by simp only [RR] at hp;cases hp;simp
 |f::fs,ps,w,hp=>by
  simp only [RR,cH,cC] at hp
  obtain ⟨n,hn,r,hr,rfl⟩:=hp
  rw [List.mapM_cons]
  simp only [Sem.run_bind,vV hT hn,Result.andThen_ok,Sem.run_pure]
  have ih:=zhg hT fs r w hr
  rw [ih]
  rfl

theorem zot (hT:T.Fits P) {parts ea:List (Nat × ae)} (hlen:parts.length=ea.length)
 (aC:∀ (i:Nat) (x y:Nat × ae),parts[i]? = some x->ea[i]? = some y->x.1=y.1/\VR ρ x.2 y.2) (hb:od T t parts=some v) (w:World) :
 ∃ vc,(Instr.build t ea.toArray).run P w=.ok vc w/\VR ρ v vc:=by
 simp only [od,cH,Prod.exists] at hb
 obtain ⟨k,wy,z,gQ,hb⟩:=hb
 obtain ⟨i,zv,hi,rfl,rfl,hz,rfl,vM,uJ⟩:=hT.info t k wy z gQ
 split at hb
 .rename_i fs hd
  have ht:=hT.desc _ _ hd
  simp only [cH,cC] at hb
  obtain ⟨ps,oG,cs,hf,rfl⟩:=hb
  obtain ⟨ds,vx,js⟩:=Q3 (ρ:=ρ) (place':=(ps.toArray[·]?)) (λi r hr=>by simpa using hr) parts ea _ cs zv.cells hlen aC (cB.plain ρ uJ) hf
  refine ⟨.agg ds,?_,?_⟩
  .have hm:=zhg hT fs.toList ps w oG
   have yz:(fs.mapM λf=>do pure (f.offset,<- sizeOf f.type):Sem (Array (Nat × Nat))).run P w=.ok ps.toArray w:=by
    rw [Array.mapM_eq_mapM_toList]
    simp only [Sem.run_map,hm,Result.andThen_ok]
   simp only [Instr.build,zeroValue,typeInfo,Sem.run_bind,run_program,Result.andThen_ok,hi,Sem.run_pure,hz,run_underlying ht,yz,vx]
  .have:=js.toArray
   simpa using this
 .rename_i n e hd
  have ht:=hT.desc _ _ hd
  simp only [cH,cC] at hb
  obtain ⟨k,hk,cs,hf,rfl⟩:=hb
  obtain ⟨ds,vx,js⟩:=Q3 (ρ:=ρ) (place':=λi=>some (i*k,k)) (λi r hr=>hr) parts ea _ cs zv.cells hlen aC (cB.plain ρ uJ) hf
  refine ⟨.agg ds,?_,?_⟩
  .simp only [Instr.build,zeroValue,typeInfo,Sem.run_bind,run_program,Result.andThen_ok,hi,Sem.run_pure,hz,run_underlying ht,vV hT hk,vx]
  .have:=js.toArray
   simpa using this
 .cases hb

theorem zhA (hT:T.Fits P) (hs:bT ρ h w) (bR:fO ρ h h') {len:Nat} {parts ea:List (Nat × ae)} (hlen:parts.length=ea.length)
 (aC:∀ (i:Nat) (x y:Nat × ae),parts[i]? = some x->ea[i]? = some y->x.1=y.1/\VR ρ x.2 y.2) (hb:zl T t len parts h=some (v,h')) :
 ∃ ρ' vc w',(Instr.buildSlice t len ea.toArray).run P w=.ok vc w'/\Fr ρ ρ' h h' w w'/\bT ρ' h' w'/\VR ρ' v vc:=by
 unfold zl at hb
 split at hb
 .rename_i e hd
  have ht:=hT.desc _ _ hd
  simp only [cH,Prod.exists] at hb
  obtain ⟨k,wy,z,gQ,hb⟩:=hb
  obtain ⟨i,zv,hi,rfl,rfl,hz,rfl,vM,uJ⟩:=hT.info e k wy z gQ
  split at hb
  .cases hb
  .rename_i Zk
   simp only [qt,gY,not_or] at Zk
   obtain ⟨Zk,anj⟩:=Zk
   have hG:len < G:=by unfold G;omega
   simp only [cC,df] at hb
   obtain ⟨cs,hf,rfl,rfl⟩:=hb
   have pY:zv.cells.size=i.size:=by rw [<- qR,vM]
   by_cases h0:len*i.size=0
   .have rH:oU zv.cells.toList len=[]:=by
     apply Uo
     rw [zmX,vM]
     exact h0
    rw [rH] at hf
    obtain ⟨ds,vx,js⟩:=Q3 (ρ:=ρ) (place':=λj=>some (j*i.size,i.size)) (λi r hr=>hr) parts ea _ cs #[] hlen aC (.nil ρ) hf
    obtain ⟨ρ',hρ,dC,dZ⟩:=Jj (W:=w.alloc (.cells ds e)) (cs:=cs) (m:=ds.toList) hs (bR _ (bo _) (by rw [Heap.size_push];omega)) rfl rfl rfl rfl (by rw [js.1];exact sQ (by omega) rfl (λj _=>by rw [iu])) js
    refine ⟨ρ',.slice (some ⟨w.heap.size,0,none⟩) len len,w.alloc (.cells ds e),?_,dC,dZ,?_⟩
    .have Oc:¬ (16777216 < len*i.size):=by omega
     simp [Instr.buildSlice,run_underlying ht,sizeOf,typeInfo,hi,h0,Array.range_zero',vx,Go.newRow]
    .have:=VR.slice (ρ:=ρ') (o:=0) (n:=len) (c:=len) hρ hG (bo _) (λ_=>rfl)
     simpa using this
   .have yA:((Array.range (len*i.size)).map (zv.cells[· % zv.cells.size]!)).toList=oU zv.cells.toList len:=by
     have:=zeb zv.cells len
     simp only [pY] at this ⊢
     exact this
    obtain ⟨ds,vx,js⟩:=Q3 (ρ:=ρ) (place':=λj=>some (j*i.size,i.size)) (λi r hr=>hr) parts ea _ cs ((Array.range (len*i.size)).map (zv.cells[· % zv.cells.size]!)) hlen aC
     (by rw [yA];exact cB.plain ρ (zfU uJ _)) hf
    obtain ⟨ρ',hρ,dC,dZ⟩:=Jj (W:=w.alloc (.cells ds e)) (cs:=cs) (m:=ds.toList) hs (bR _ (bo _) (by rw [Heap.size_push];omega)) rfl rfl rfl rfl (by rw [js.1];exact sQ (by omega) rfl (λj _=>by rw [iu])) js
    refine ⟨ρ',.slice (some ⟨w.heap.size,0,none⟩) len len,w.alloc (.cells ds e),?_,dC,dZ,?_⟩
    .have Oc:¬ (16777216 < len*i.size):=by omega
     simp only [Instr.buildSlice,Sem.run_bind,run_underlying ht,Result.andThen_ok,sizeOf,typeInfo,run_program,hi,Sem.run_pure,gt_iff_lt]
     simp [Oc,h0,zeroValue,typeInfo,hi,hz,vx,Go.newRow]
    .have:=VR.slice (ρ:=ρ') (o:=0) (n:=len) (c:=len) hρ hG (bo _) (λ_=>rfl)
     simpa using this
 .cases hb

end
end Go.Am
namespace Go.Am
open Go.RowKit
variable {v x y:ae} {t:TypeId}

section
variable {P:Program} {T:bL} {ρ:cI} {h h':Heap} {w:World}

theorem T9 {hi i:Nat} (dj:VR ρ x y) (hb:zF x hi=some i) {qz:Nat} (hle:hi<=qz) (code:BoundsCode) (w:World):(Instr.sliceBound y qz code).run P w=.ok i w/\i<=hi:=by
 cases dj with
 |int k n =>
  simp only [zF] at hb
  split at hb
  .rename_i hc
   cases hb
   have tz:0<=n/\n<=(qz:Int):=⟨hc.1,by omega⟩
   exact ⟨by simp [Instr.sliceBound,asIntOf,tz],by omega⟩
  .cases hb
 |_=>simp [zF] at hb

def s8 (ρ:cI):Option ae->Option ae->Prop
 |none,none=>True
 |some x,some y=>VR ρ x y
 |_,_=>False

theorem QZ {len cap FB l' h' m':Nat} {l h m ll hh mm:Option ae} (hl:s8 ρ l ll) (yn:s8 ρ h hh) (hm:s8 ρ m mm) (hb:qI len cap l h m=some (l',h',m')) (hlen:len<=cap) (pP:cap<=FB) (uP:Bool) (w:World) :
 (Instr.sliceBounds uP len FB ll hh mm).run P w=.ok (l',h',if m.isSome then m' else FB) w/\l'<=h'/\h'<=m'/\m'<=cap:=by
 simp only [qI,cH,dY,df] at hb
 obtain ⟨m1,i0,h1,Ab,l1,ju,rfl,rfl,rfl⟩:=hb
 have y6:∀ (code:BoundsCode),(match ll with|some v=>Instr.sliceBound v h1 code|none=>(pure 0:Sem Nat)).run P w=.ok l1 w/\l1<=h1:=by
  intro code
  cases l with
  |none=>cases ll with
   |none=>simp only [dY] at ju;subst ju;exact ⟨rfl,sg _⟩
   |some v=>exact hl.elim
  |some x=>cases ll with
   |none=>exact hl.elim
   |some v=>exact T9 hl ju (bo _) code w
 cases m with
 |none =>
  cases mm with
  |some v=>exact hm.elim
  |none =>
   simp only [dY] at i0
   subst i0
   cases h with
   |none=>cases hh with
    |some v=>exact yn.elim
    |none =>
     simp only [dY] at Ab
     subst Ab
     obtain ⟨k1,k2⟩:=y6 .sliceB
     refine ⟨?_,k2,hlen,bo _⟩
     simp only [Instr.sliceBounds,Sem.run_bind,Sem.run_pure,Result.andThen_ok,R2,gW,if_false]
     cases ll with
     |none =>
      have e:l1=0:=by have:=k1;simp at this;exact this.symm
      simp [e]
     |some u =>
      have e:(Instr.sliceBound u len .sliceB).run P w=.ok l1 w:=k1
      simp only [Sem.run_bind,e,Result.andThen_ok,Sem.run_pure]
   |some x=>cases hh with
    |none=>exact yn.elim
    |some v =>
     have DB:=T9 (P:=P) yn Ab pP (if uP then BoundsCode.sliceAcap else .sliceAlen) w
     obtain ⟨k1,k2⟩:=y6 .sliceB
     refine ⟨?_,k2,DB.2,bo _⟩
     simp only [Instr.sliceBounds,Sem.run_bind,Sem.run_pure,Result.andThen_ok,R2,gW,if_false,DB.1]
     cases ll with
     |none =>
      have e:l1=0:=by have:=k1;simp at this;exact this.symm
      simp [e]
     |some u =>
      have e:(Instr.sliceBound u h1 .sliceB).run P w=.ok l1 w:=k1
      simp only [Sem.run_bind,e,Result.andThen_ok,Sem.run_pure]
 |some q =>
  cases mm with
  |none=>exact hm.elim
  |some v =>
   have hbm:=T9 (P:=P) hm i0 pP (if uP then BoundsCode.slice3Acap else .slice3Alen) w
   cases h with
   |none=>cases Ab
   |some x=>cases hh with
    |none=>exact yn.elim
    |some v' =>
     have DB:=T9 (P:=P) yn Ab (bo _) BoundsCode.slice3B w
     obtain ⟨k1,k2⟩:=y6 .slice3C
     refine ⟨?_,k2,DB.2,hbm.2⟩
     simp only [Instr.sliceBounds,Sem.run_bind,Result.andThen_ok,J0,if_true,hbm.1,DB.1]
     cases ll with
     |none =>
      have e:l1=0:=by have:=k1;simp at this;exact this.symm
      simp [e]
     |some u =>
      have e:(Instr.sliceBound u h1 .slice3C).run P w=.ok l1 w:=k1
      simp only [Sem.run_bind,e,Result.andThen_ok,Sem.run_pure]

theorem zqd (hT:T.Fits P) {l hi m ll hh mm:Option ae} (dj:VR ρ x y) (hl:s8 ρ l ll) (yn:s8 ρ hi hh) (hm:s8 ρ m mm) (hs:jY T t x l hi m=some v) (w:World) :
 ∃ vc,(Instr.sliceAt t y ll hh mm).run P w=.ok vc w/\VR ρ v vc:=by
 unfold jY at hs
 split at hs
 .rename_i s hd
  cases dj
  have ht:=hT.desc _ _ hd
  split at hs
  .cases hs
  .rename_i hmn
   have Ad:m=none:=by cases m <;> simp_all
   subst Ad
   have YZ:mm=none:=by cases mm with|none=>rfl|some _=>exact hm.elim
   subst YZ
   simp only [cC,Prod.exists] at hs
   obtain ⟨l',h',m',hb,rfl⟩:=hs
   obtain ⟨k1,k2,k3,k4⟩:=QZ (P:=P) (m:=none) (mm:=none) hl yn trivial hb (bo _) (bo _) false w
   refine ⟨_,?_,.string _⟩
   simp [Instr.sliceAt,Instr.slice,run_underlying ht,k1]
 .rename_i n e A o hd
  cases dj with
  |ptr hA =>
   rename_i L
   have ht:=hT.desc _ _ hd
   simp only [cH,cC,Prod.exists] at hs
   obtain ⟨l',h',m',hb,k,hk,rfl⟩:=hs
   have hnG:n < G:=by
    rcases mq n G with aP|lq
    .exact aP
    .rw [az (by omega)] at hb;cases hb
   rw [aE hnG] at hb
   obtain ⟨k1,k2,k3,k4⟩:=QZ (P:=P) hl yn hm hb (bo _) (bo _) false w
   have BT:(if m.isSome then m' else n)=m':=by
    cases m with
    |some _=>rfl
    |none =>
     simp only [qI,cH,dY,df] at hb
     obtain ⟨m1,i0,h1,Ab,l1,ju,rfl,rfl,rfl⟩:=hb
     simp [i0]
   rw [BT] at k1
   have dS:=vV hT hk w
   refine ⟨.slice (some (if m'=l' then ⟨L.b,L.s+o,none⟩ else (⟨L.b,L.s+o,none⟩:Addr).add (l'*k))) (h' - l') (m' - l'),?_,?_⟩
   .simp only [Instr.sliceAt,Sem.run_bind,run_underlying ht,Result.andThen_ok,Instr.sureAddr,Sem.run_pure,k1,dS]
   .by_cases hG:m' - l' < G
    .refine .slice hA hG (by omega) (λh0=>?_)
     rw [az (by omega),az (by omega),Addr.add_mid,oW]
    .exfalso
     omega
 .rename_i e a n c hd
  have ht:=hT.desc _ _ hd
  simp only [cH] at hs
  obtain ⟨k,hk,hs⟩:=hs
  have dS:=vV hT hk w
  split at hs
  .rename_i hcG
   simp only [cH,Prod.exists] at hs
   obtain ⟨l',h',m',hb,hs⟩:=hs
   have BT:(if m.isSome then m' else c)=m':=by
    cases m with
    |some _=>rfl
    |none =>
     simp only [qI,cH,dY,df] at hb
     obtain ⟨m1,i0,h1,Ab,l1,ju,rfl,rfl,rfl⟩:=hb
     simp [i0]
   cases dj with
   |dN =>
    obtain ⟨k1,k2,k3,k4⟩:=QZ (P:=P) hl yn hm hb (bo _) (bo _) true w
    rw [BT] at k1
    simp only [dY] at hs
    subst hs
    have e1:h' - l'=0:=by omega
    have e2:m' - l'=0:=by omega
    refine ⟨.slice none (h' - l') (m' - l'),?_,by rw [e1,e2];exact .dN⟩
    simp [Instr.sliceAt,Instr.slice,run_underlying ht,k1,dS]
   |slice hA hc hn ez =>
    rename_i A o L ad
    obtain ⟨k1,k2,k3,k4⟩:=QZ (P:=P) hl yn hm hb hn (bo _) true w
    rw [BT] at k1
    simp only [dY] at hs
    subst hs
    refine ⟨.slice (if m'=l' then some ad else some (ad.add (l'*k))) (h' - l') (m' - l'),?_,?_⟩
    .simp [Instr.sliceAt,Instr.slice,run_underlying ht,k1,dS]
    .have hx:(if m'=l' then some ad else some (ad.add (l'*k)))=some (if m'=l' then ad else ad.add (l'*k)):=by split <;> rfl
     rw [hx]
     refine .slice hA (by omega) (by omega) (λh0=>?_)
     rw [az (by omega),az (by omega),ez (by omega),Addr.add_mid,oW]
   |cm hA hc cM hn jP DP ez=>omega
  .rename_i hcG
   split at hs
   .rename_i A o
    split at hs
    .rename_i gV
     simp only [cC,Prod.exists] at hs
     obtain ⟨l',h',m',hb,rfl⟩:=hs
     cases dj with
     |slice hA hc hn ez=>omega
     |cm hA hc cM hn jP DP ez =>
      rename_i c' L ad
      obtain ⟨k1,k2,k3,k4⟩:=QZ (P:=P) hl yn hm hb hn cM true w
      cases m with
      |some q =>
       simp only [J0,if_true] at k1
       refine ⟨.slice (if m'=l' then some ad else some (ad.add (l'*k))) (h' - l') (m' - l'),?_,?_⟩
       .simp [Instr.sliceAt,Instr.slice,run_underlying ht,k1,dS]
       .have hx:(if m'=l' then some ad else some (ad.add (l'*k)))=some (if m'=l' then ad else ad.add (l'*k)):=by split <;> rfl
        rw [hx]
        have aP:c % G < G:=Nat.mod_lt _ (by unfold G;omega)
        refine .slice hA (by omega) (by omega) (λh0=>?_)
        rw [az (by omega),az (by omega),(ez (by omega)).1,Addr.add_mid,oW]
      |none =>
       simp only [R2,gW,if_false] at k1
       have i0:m'=c % G:=by
        simp only [qI,cH,dY,df] at hb
        obtain ⟨m1,i0,h1,Ab,l1,ju,rfl,rfl,rfl⟩:=hb
        exact i0.symm
       subst i0
       refine ⟨.slice (if c'=l' then some ad else some (ad.add (l'*k))) (h' - l') (c' - l'),?_,?_⟩
       .simp [Instr.sliceAt,Instr.slice,run_underlying ht,k1,dS]
       .have hx:(if c'=l' then some ad else some (ad.add (l'*k)))=some (if c'=l' then ad else ad.add (l'*k)):=by split <;> rfl
        rw [hx]
        have aP:c % G < G:=Nat.mod_lt _ (by unfold G;omega)
        have jQ:=CN (k:=k) (q:=c % G - l') (by omega) (by omega)
        refine .cm hA jQ.1 (by rw [jQ.2.1];omega) (by rw [jQ.2.1];omega) (by rw [jQ.2.2];omega) (by omega) (λh0=>?_)
        obtain ⟨rfl,kq⟩:=ez (by omega)
        rw [az (by omega),Addr.add_mid,jQ.2.2]
        refine ⟨by rw [oW],?_⟩
        rw [gV] at kq
        have e1:c'*k=l'*k+(c' - l')*k:=by rw [<- sZ];congr 1;omega
        omega
    .cases hs
   .cases hs
 .cases hs

theorem ziF (hT:T.Fits P) {i j:ae} (dj:VR ρ x y) (dF:VR ρ i j) (hs:jF T t x i=some v) (w:World) :
 ∃ vc,(Instr.indexAt t y j).run P w=.ok vc w/\VR ρ v vc:=by
 unfold jF at hs
 split at hs
 .rename_i k i
  cases dF
  split at hs
  .rename_i n e A o hd
   cases dj with
   |ptr hA =>
    rename_i L
    have ht:=hT.desc _ _ hd
    split at hs
    .rename_i hi
     simp only [cC] at hs
     obtain ⟨q,hq,rfl⟩:=hs
     refine ⟨.pointer (some ⟨L.b,L.s+(o+i.toNat*q),none⟩),?_,.ptr hA⟩
     simp [Instr.indexAt,asIntOf,run_underlying ht,Instr.sureAddr,hi,vV hT hq,Addr.add_mid,oW]
    .cases hs
  .rename_i e A o n c hd
   have ht:=hT.desc _ _ hd
   split at hs
   .rename_i hi
    simp only [cC] at hs
    obtain ⟨q,hq,rfl⟩:=hs
    have key:∃ L c',ρ A=some L/\y=.slice (some ⟨L.b,L.s+o,none⟩) n c':=by
     cases dj with
     |slice hA hc hn ez =>
      obtain rfl:=ez (by omega)
      exact ⟨_,_,hA,rfl⟩
     |cm hA hc cM hn hk hm ez =>
      obtain ⟨rfl,_⟩:=ez (by omega)
      exact ⟨_,_,hA,rfl⟩
    obtain ⟨L,c',hA,rfl⟩:=key
    refine ⟨.pointer (some ⟨L.b,L.s+(o+i.toNat*q),none⟩),?_,.ptr hA⟩
    simp [Instr.indexAt,asIntOf,run_underlying ht,hi,vV hT hq,Addr.add_mid,oW]
   .cases hs
  .cases hs
 .cases hs

theorem ziE (hT:T.Fits P) {f:Nat} (dj:VR ρ x y) (hs:fU T t x f=some v) (w:World) :
 ∃ vc,(Instr.fieldAt t y f).run P w=.ok vc w/\VR ρ v vc:=by
 unfold fU at hs
 split at hs
 .rename_i fs A o hd
  cases dj with
  |ptr hA =>
   rename_i L
   have ht:=hT.desc _ _ hd
   simp only [cH] at hs
   obtain ⟨fl,hf,n,hn,hs⟩:=hs
   split at hs
   .cases hs
   .rename_i h0
    cases hs
    refine ⟨.pointer (some ⟨L.b,L.s+(o+fl.offset),none⟩),?_,.ptr hA⟩
    simp [Instr.fieldAt,run_underlying ht,hf,Instr.sureAddr,fieldPlace,vV hT hn,h0,Addr.add_mid,oW]
 .cases hs

theorem zjR (hT:T.Fits P) {cs:List ae} {ds:Array ae} {o:Nat} (hv:cB ρ cs ds.toList) (hs:wk T t cs o=some v) (w:World) :
 ∃ vc,(part t ds o).run P w=.ok vc w/\VR ρ v vc:=by
 simp only [wk,ct,cH,cC] at hs
 obtain ⟨g,⟨d,hd,hg⟩,hs⟩:=hs
 have ht:=hT.desc _ _ hd
 have pN:(isAgg t).run P w=.ok g w:=by
  unfold isAgg
  rw [Sem.run_bind,run_underlying ht w]
  cases d <;> simp_all
 cases g with
 |true =>
  simp only [if_true,cH,cC] at hs
  obtain ⟨n,hn,l,hl,rfl⟩:=hs
  obtain ⟨d',mg,wL⟩:=hv.cut hl
  refine ⟨.agg d'.toArray,?_,wL.toArray⟩
  have hx:ds.extract o (o+n)=d'.toArray:=by
   unfold cut at mg
   split at mg
   .cases mg
    apply Array.ext'
    simp [List.take_drop]
   .cases mg
  simp [part,pN,vV hT hn,hx]
 |false =>
  simp only [gW,if_false] at hs
  obtain ⟨u,hu,n8⟩:=hv.get hs
  refine ⟨u,?_,n8⟩
  have Aj:ds[o]? = some u:=by simpa using hu
  simp [part,pN,Aj]

theorem zo2 (hT:T.Fits P) {f:Nat} (dj:VR ρ x y) (hs:Sb T t x f=some v) (w:World) :
 ∃ vc,(Instr.field t y f).run P w=.ok vc w/\VR ρ v vc:=by
 unfold Sb at hs
 split at hs
 .rename_i fs cs hd
  have ht:=hT.desc _ _ hd
  simp only [cH] at hs
  obtain ⟨fl,hf,hs⟩:=hs
  cases dj with
  |agg hc hh =>
   rename_i ds
   obtain ⟨vc,hr,hv⟩:=zjR hT (VR.agg hc hh).Fg hs w
   refine ⟨vc,?_,hv⟩
   simp [Instr.field,run_underlying ht,hf,asAgg,hr]
 .cases hs

theorem zmp {op:BinOp} (hs:sL op x y=some v):gT P (binOp op t x y)=some v/\plain x=true/\plain y=true/\plain v=true/\(∃ k a,x=.int k a):=by
 unfold sL at hs
 split at hs <;> first|(cases hs;done)|(split at hs <;> first|(cases hs;done)|(rename_i hk;subst hk;cases hs;exact ⟨by simp [binOp,Op.intArith,Op.intCmp,gT,pure],rfl,rfl,rfl,_,_,rfl⟩))

theorem zrp {d:TypeDesc} (hd:P.underlying t=some d) {x' y':ae} {b:Bool} (hx:VR ρ x x') (hy:VR ρ y y') (he:EU d x y=some b) (w:World) :
 (Op.equal t x' y').run P w=.ok b w/\∀ (op:BinOp),op=.eql\/op=.neq->binOp op t x' y'=(if op=.eql then (do pure (.bool (<- Op.equal t x' y'))) else (do pure (.bool (!(<- Op.equal t x' y'))))):=by
 have key:(∀ d0:Nat,(Op.equalIn (d0+1) t x' y').run P w=.ok b w)/\∀ (op:BinOp),op=.eql\/op=.neq->binOp op t x' y'=(if op=.eql then (do pure (.bool (<- Op.equal t x' y'))) else (do pure (.bool (!(<- Op.equal t x' y'))))):=by
  unfold EU at he
  split at he <;> first
   |(cases he;done)
   |(cases hx <;> cases hy <;> simp at he <;> subst he <;> exact ⟨λd0=>by simp [Op.equalIn,run_underlying hd],by rintro op (rfl|rfl) <;> rfl⟩)
 exact ⟨key.1 9999,key.2⟩

theorem TZ (op:BinOp) (t:TypeId) (x y:Operand) (a b:ae) (ha:a≠.nilIface) (pN:∀ c d,a=.agg c->b=.agg d->P.eqGuardType P.depth t=false) (w:World):(eqGuard op t x y a b).run P w=.ok () w:=by
 unfold eqGuard
 cases op <;> simp only [Bool.not_true,Bool.not_false,if_true,if_false,gW] <;> try rfl
 all_goals
  cases a <;> first|exact (ha rfl).elim|skip
 all_goals
  cases b <;> first|rfl|skip
 all_goals
  simp [pN _ _ rfl rfl]

theorem Jo (hT:T.Fits P) {cs:Array ae} {o:Nat} (hs:wk T t cs.toList o=some v) (w:World):(part t cs o).run P w=.ok v w:=by
 simp only [wk,ct,cH,cC] at hs
 obtain ⟨g,⟨d,hd,hg⟩,hs⟩:=hs
 have ht:=hT.desc _ _ hd
 have pN:(isAgg t).run P w=.ok g w:=by
  unfold isAgg
  rw [Sem.run_bind,run_underlying ht w]
  cases d <;> simp_all
 cases g with
 |true =>
  simp only [if_true,cH,cC] at hs
  obtain ⟨n,hn,l,hl,rfl⟩:=hs
  have hx:cs.extract o (o+n)=l.toArray:=by
   unfold cut at hl
   split at hl
   .cases hl
    apply Array.ext'
    simp [List.take_drop]
   .cases hl
  simp [part,pN,vV hT hn,hx]
 |false =>
  simp only [gW,if_false] at hs
  have Aj:cs[o]? = some v:=by simpa using hs
  simp [part,pN,Aj]
theorem zgn (hT:T.Fits P) {E:TypeId->ae->ae->Option Bool} {d:Nat} (w:World) (hE:∀ t x y b,E t x y=some b->(Op.equalIn d t x y).run P w=.ok b w) (xs ys:Array ae) :
 ∀ (fs:List Field) (ps:List (TypeId × Nat)) (b:Bool),Jf fs=some ps->CP T E xs.toList ys.toList ps=some b->(Op.eqFields d xs ys fs).run P w=.ok b w
 | [],ps,b,hp,he=>by
  cases hp
  cases he
  simp [Op.eqFields]
 |f::fs,ps,b,hp,he=>by
  simp only [Jf] at hp
  split at hp
  .cases hp
  .rename_i hn
   simp only [cC] at hp
   obtain ⟨r,hr,rfl⟩:=hp
   simp only [CP,cH] at he
   obtain ⟨a,ha,c,hc,q,hq,he⟩:=he
   have h1:=Jo hT ha w
   have h2:=Jo hT hc w
   have h3:=hE _ _ _ _ hq
   simp only [Op.eqFields]
   rw [aE (by simpa using hn)]
   simp only [Sem.run_bind,h1,h2,h3,Result.andThen_ok]
   cases q with
   |false =>
    simp only [gW,if_false,dY] at he
    subst he
    simp
   |true =>
    simp only [if_true] at he
    simpa using zgn hT w hE xs ys fs r b hr he
theorem zgX (hT:T.Fits P) {E:TypeId->ae->ae->Option Bool} {d:Nat} (w:World) (hE:∀ t x y b,E t x y=some b->(Op.equalIn d t x y).run P w=.ok b w) (xs ys:Array ae) (e:TypeId) (k:Nat) :
 ∀ (n i:Nat) (b:Bool),CP T E xs.toList ys.toList (Jn e k n i)=some b->(Op.eqItems d e k xs ys (List.range' i n)).run P w=.ok b w
 |0,i,b,he=>by
  cases he
  simp [Op.eqItems]
 |n+1,i,b,he=>by
  simp only [Jn,CP,cH] at he
  obtain ⟨a,ha,c,hc,q,hq,he⟩:=he
  have h1:=Jo hT ha w
  have h2:=Jo hT hc w
  have h3:=hE _ _ _ _ hq
  simp only [List.range'_succ,Op.eqItems,Sem.run_bind,h1,h2,h3,Result.andThen_ok]
  cases q with
  |false =>
   simp only [gW,if_false,dY] at he
   subst he
   simp
  |true =>
   simp only [if_true] at he
   simpa using zgX hT w hE xs ys e k n (i+1) b he
theorem Ri (hT:T.Fits P) (w:World):∀ (d D:Nat) (t:TypeId) (x y:ae) (b:Bool),fH T d t x y=some b->(Op.equalIn (D+d) t x y).run P w=.ok b w
 |0,_,_,_,_,_,he=>by simp [fH] at he
 |d+1,D,t,x,y,b,he=>by
  unfold fH at he
  split at he
  .rename_i a c hd
   cases he
   exact run_equalIn_bool w (D+d) t a c (hT.desc _ _ hd)
  .rename_i q k a k' c hd
   split at he
   .rename_i hk
    subst hk
    cases he
    exact run_equalIn_int w (D+d) t k q a c (hT.desc _ _ hd)
   .cases he
  .rename_i a c hd
   cases he
   rw [show D+(d+1)=(D+d)+1 from rfl,run_equalIn_string w (D+d) t a c (hT.desc _ _ hd),ByteArray.toList_eq,ByteArray.toList_eq]
  .rename_i fs xs ys hd
   split at he
   .rename_i hc
    simp only [cH] at he
    obtain ⟨ps,hp,he⟩:=he
    have hu:=hT.desc _ _ hd
    have hf:P.fieldsOf t=fs:=by simp [Program.fieldsOf,hu]
    rw [show D+(d+1)=(D+d)+1 from rfl,run_equalIn_struct w (D+d) t xs ys (by rw [hf];exact hu) (hT.cmp t hc).1,hf]
    exact zgn hT w (λt x y b hb=>Ri hT w d D t x y b hb) xs ys fs.toList ps b hp he
   .cases he
  .rename_i n e xs ys hd
   simp only [cH] at he
   obtain ⟨k,hk,he⟩:=he
   have hu:=hT.desc _ _ hd
   simp only [cN,cC] at hk
   obtain ⟨⟨n',b',z⟩,hi,rfl⟩:=hk
   obtain ⟨i,zv,gQ,dS,_⟩:=hT.info _ _ _ _ hi
   have nq:P.cellsOf e=n':=by simp [Program.cellsOf,gQ,dS]
   rw [show D+(d+1)=(D+d)+1 from rfl,run_equalIn_array w (D+d) xs ys hu gQ,nq]
   have:=zgX hT w (λt x y b hb=>Ri hT w d D t x y b hb) xs ys e n' n 0 b he
   rw [List.range_eq_range']
   exact this
  .cases he

theorem zua (hT:T.Fits P) {op:BinOp} {t:TypeId} {x' y':ae} (hx:VR ρ x x') (hy:VR ρ y y') (hs:bY P T op t x y=some v) (ox oy:Operand) (w:World) :
 ∃ vc,(do eqGuard op t ox oy x' y';binOp op t x' y':Sem ae).run P w=.ok vc w/\VR ρ v vc:=by
 unfold bY at hs
 split at hs
 .rename_i v' hf
  cases hs
  obtain ⟨h1,h2,h3,h4,k,a,rfl⟩:=zmp (P:=P) (t:=t) hf
  have e1:=hx.bQ h2
  have e2:=hy.bQ h3
  subst e1 e2
  refine ⟨v,?_,.dM ρ h4⟩
  rw [Sem.run_bind,TZ op t ox oy (.int k a) _ (by simp) (by intro c d e;cases e) w]
  exact QY P _ _ h1 w
 .split at hs
  .rename_i b hb
   simp only [cH] at hb
   obtain ⟨d,hd,he⟩:=hb
   have ht:=hT.desc _ _ hd
   obtain ⟨h1,h2⟩:=zrp ht hx hy he w
   have hna:x'≠.nilIface/\(∀ c,x'≠.agg c):=by
    unfold EU at he
    split at he <;> first|(cases he;done)|(cases hx <;> exact ⟨by simp,by simp⟩)
   have hg:=TZ (P:=P) op t ox oy x' y' hna.1 (by intro c d e;exact (hna.2 c e).elim) w
   split at hs
   .cases hs
    refine ⟨.bool b,?_,.bool _⟩
    simp only [Sem.run_bind,hg,Result.andThen_ok,h2 .eql (.inl rfl),if_true,h1,Sem.run_pure]
   .cases hs
    refine ⟨.bool !b,?_,.bool _⟩
    simp only [Sem.run_bind,hg,Result.andThen_ok,h2 .neq (.inr rfl),reduceCtorEq,if_false,h1,Sem.run_pure]
   .cases hs
  .split at hs
   .rename_i hp
    simp only [dP] at hp
    have e1:=hx.bQ hp.1
    have e2:=hy.bQ hp.2
    subst e1 e2
    have fin:∀ (hs:((gT P (binOp op t x' y')).bind λv=>if plain v then some v else none)=some v) (hg:(eqGuard op t ox oy x' y').run P w=.ok () w),
     ∃ vc,(do eqGuard op t ox oy x' y';binOp op t x' y':Sem ae).run P w=.ok vc w/\VR ρ v vc:=by
     intro hs hg
     simp only [cH] at hs
     obtain ⟨v1,hr,hs⟩:=hs
     split at hs
     .rename_i hpv
      cases hs
      refine ⟨v,?_,.dM ρ hpv⟩
      simp only [Sem.run_bind,hg,Result.andThen_ok]
      exact QY P _ _ hr w
     .cases hs
    split at hs
    .cases hs
    .rename_i c d
     split at hs
     .rename_i tD
      have hg:=λxs ys=>TZ (P:=P) op t ox oy (.agg xs) (.agg ys) (by simp) (by intro _ _ _ _;exact (hT.cmp t tD).2) w
      split at hs
      .simp only [cC] at hs
       obtain ⟨b,hb,rfl⟩:=hs
       refine ⟨.bool b,?_,.bool _⟩
       simp only [Sem.run_bind,hg,Result.andThen_ok]
       rw [run_eql_struct,Ri hT w 20 9980 t _ _ b hb]
       rfl
      .simp only [cC] at hs
       obtain ⟨b,hb,rfl⟩:=hs
       refine ⟨.bool !b,?_,.bool _⟩
       simp only [Sem.run_bind,hg,Result.andThen_ok]
       rw [run_neq_struct,Ri hT w 20 9980 t _ _ b hb]
       rfl
      .cases hs
     .cases hs
    .rename_i h1 h2
     refine fin hs (TZ op t ox oy _ _ ?_ ?_ w)
     .intro e;exact h1 e
     .intro c d e1 e2;exact (h2 c d e1 e2).elim
   .cases hs

theorem zuK (hT:T.Fits P) (hs:bT ρ h w) {ty:TypeId} (dj:VR ρ x y) (hl:bt T t x h=some v) (ts:List TypeId) :
 ∃ vc,(Builtin.len_ (t::ts).toArray ty #[y]).run P w=.ok vc w/\VR ρ v vc:=by
 unfold bt at hl
 split at hl
 .rename_i s hd
  cases dj
  cases hl
  exact ⟨_,by simp [Builtin.len_,run_underlying (hT.desc _ _ hd),goInt],.int _ _⟩
 .rename_i e a n c hd
  cases hl
  have key:∃ a' c',y=.slice a' n c':=by cases dj <;> exact ⟨_,_,rfl⟩
  obtain ⟨a',c',rfl⟩:=key
  exact ⟨_,by simp [Builtin.len_,run_underlying (hT.desc _ _ hd),goInt],.int _ _⟩
 .rename_i a b hd
  cases dj
  cases hl
  exact ⟨_,by simp [Builtin.len_,run_underlying (hT.desc _ _ hd),goInt],.int _ _⟩
 .rename_i a b A hd
  split at hl
  .rename_i es clock hg
   cases hl
   cases dj with
   |map hA =>
    rename_i L
    have hb:=hs.fL A L hA
    rw [hg] at hb
    obtain ⟨ces,hc,he⟩:=hb
    refine ⟨.int .i64 (ces.size:Nat),by simp [Builtin.len_,run_underlying (hT.desc _ _ hd),goInt,getObj,Sem.run,hc],?_⟩
    have e1:(es.length:Int)=(ces.size:Int):=by have:=he.1;simp at this;omega
    rw [e1]
    exact .int _ _
  .cases hl
 .cases hl
end
end Go.Am
namespace Go.Am
open Go.RowKit
variable {k k' v x y:ae} {kt t:TypeId}
section
variable {P:Program} {T:bL} {ρ:cI} {h h':Heap} {w:World}

theorem zit {Z:Type} (P:Program) (w:World) (l:List Z) (g:Z->PUnit->Sem (ForInStep PUnit)) (hf:∀ x∈l,(g x PUnit.unit).run P w=.ok (.yield PUnit.unit) w) :
 (forIn l PUnit.unit g:Sem PUnit).run P w=.ok PUnit.unit w:=by
 induction l with
 |nil=>simp
 |cons x l ih =>
  have h1:=hf x (by simp)
  have h2:=ih (λy hy=>hf y (by simp [hy]))
  simp only [List.forIn_cons,Sem.run_bind,h1,Result.andThen_ok,h2]

theorem zgz {E:TypeId->ae->ae->Option Bool} {xs:List ae}:∀ {ps:List (TypeId × Nat)},CP T E xs xs ps=some true->∀ p∈ps,∃ a,wk T p.1 xs p.2=some a/\E p.1 a a=some true
 | [],_,p,hp=>by cases hp
 |(t,o)::r,he,p,hp=>by
  simp only [CP,cH] at he
  obtain ⟨a,ha,c,hc,q,hq,he⟩:=he
  rw [ha] at hc
  cases hc
  cases q with
  |false=>simp at he
  |true =>
   simp only [if_true] at he
   rcases dG.1 hp with rfl|hp
   .exact ⟨a,ha,hq⟩
   .exact zgz he p hp

theorem zgq:∀ {fs:List Field} {ps:List (TypeId × Nat)},Jf fs=some ps->∀ f∈fs,(f.type,f.offset)∈ps
 | [],_,_,f,hf=>by cases hf
 |g::fs,ps,hp,f,hf=>by
  simp only [Jf] at hp
  split at hp
  .cases hp
  .simp only [cC] at hp
   obtain ⟨r,hr,rfl⟩:=hp
   rcases dG.1 hf with rfl|hf
   .simp
   .exact gJ _ (zgq hr f hf)

theorem zg4 {e:TypeId} {k:Nat}:∀ (n i j:Nat),i<=j->j < i+n->(e,j*k)∈Jn e k n i
 |0,i,j,h1,h2=>by omega
 |n+1,i,j,h1,h2=>by
  simp only [Jn]
  by_cases e:i=j
  .subst e;simp
  .exact gJ _ (zg4 n (i+1) j (by omega) (by omega))

theorem zgw (hT:T.Fits P) (w:World) (em:Bool):∀ (d D:Nat) (t:TypeId) (x y:ae),fH T d t x y=some true->y=x->(Instr.checkKey em (D+d) t x).run P w=.ok () w
 |0,_,_,_,_,he,_=>by simp [fH] at he
 |d+1,D,t,x,y,he,yW=>by
  unfold fH at he
  rw [show D+(d+1)=(D+d)+1 from rfl]
  split at he
  .rename_i a c hd
   simp [Instr.checkKey,run_underlying (hT.desc _ _ hd)]
  .rename_i q k a k' c hd
   simp [Instr.checkKey,run_underlying (hT.desc _ _ hd)]
  .rename_i a c hd
   simp [Instr.checkKey,run_underlying (hT.desc _ _ hd)]
  .rename_i fs xs ys hd
   cases yW
   split at he
   .simp only [cH] at he
    obtain ⟨ps,hp,he⟩:=he
    have aC:=zgz he
    simp only [Instr.checkKey,Sem.run_bind,run_underlying (hT.desc _ _ hd),Result.andThen_ok]
    rw [<- Array.forIn_toList]
    rw [zit P w fs.toList]
    .simp
    .intro f hf
     obtain ⟨a,ha,hq⟩:=aC _ (zgq hp f hf)
     have h1:=zgw hT w em d D f.type a a hq rfl
     split
     .simp only [Sem.run_bind,Jo hT ha w,Result.andThen_ok,h1,Sem.run_pure]
     .simp
   .cases he
  .rename_i n e xs ys hd
   cases yW
   simp only [cH] at he
   obtain ⟨k,hk,he⟩:=he
   have aC:=zgz he
   simp only [Instr.checkKey,Sem.run_bind,run_underlying (hT.desc _ _ hd),Result.andThen_ok]
   simp only [Std.Legacy.Range.forIn_eq_forIn_range',Std.Legacy.Range.size,Nat.sub_zero,C7,Nat.div_one]
   rw [zit P w]
   .simp
   .intro i hi
    have qz:i < n:=by simpa using hi
    obtain ⟨a,ha,hq⟩:=aC _ (zg4 (e:=e) (k:=k) n 0 i (by omega) (by omega))
    have h1:=zgw hT w em d D e a a hq rfl
    simp only [Sem.run_bind,vV hT hk,Jo hT ha w,Result.andThen_ok,h1,Sem.run_pure]
  .cases he

theorem Q2 (hT:T.Fits P) (w:World) (em:Bool) (d D:Nat) (t:TypeId) (x:ae) (he:fH T d t x x=some true):(Instr.checkKey em (D+d) t x).run P w=.ok () w:=zgw hT w em d D t x x he rfl

theorem Jg (hk:wj T kt k=true):plain k=true/\fH T 20 kt k k=some true:=by
 unfold wj at hk
 split at hk
 .rename_i hp
  refine ⟨hp,?_⟩
  split at hk
  .rename_i b hb;rw [hb,hk]
  .cases hk
 .cases hk

def zwl (ρ:cI):Option (Nat × ae)->Option (Nat × ae)->Prop
 |none,none=>True
 |some (i,v),some (j,u)=>i=j/\VR ρ v u
 |_,_=>False

theorem m6.of_cons {x:MapEntry} {l m:List MapEntry} (hl:m6 ρ (x::l) m):∃ y m',m=y::m'/\VR ρ x.key y.key/\VR ρ x.val y.val/\x.born=y.born/\plain x.key=true/\m6 ρ l m':=by
 cases m with
 |nil=>have:=hl.1;simp at this
 |cons y m =>
  obtain ⟨h1,h2,h3,h4⟩:=hl.2 0 x y rfl rfl
  exact ⟨y,m,rfl,h1,h2,h3,h4,by have:=hl.1;simpa using this,λi a b ha hb=>hl.2 (i+1) a b (by simpa using ha) (by simpa using hb)⟩
theorem m6.of_nil {m:List MapEntry} (hl:m6 ρ [] m):m=[]:=by
 have:=hl.1
 simp at this
 exact Uo this.symm

theorem zvF (hT:T.Fits P) {d:TypeDesc} (hd:P.underlying kt=some d) {b c:Bool} (he:fH T 20 kt x y=some b) (hs:Instr.sameNow d x y=some c):b=c:=by
 unfold fH at he
 split at he
 .rename_i a c' mg
  have:=hT.desc _ _ mg
  rw [hd] at this
  cases this
  cases he
  simpa [Instr.sameNow] using hs
 .rename_i q k a k' c' mg
  have:=hT.desc _ _ mg
  rw [hd] at this
  cases this
  split at he
  .rename_i hk
   subst hk
   cases he
   simpa [Instr.sameNow] using hs
  .cases he
 .rename_i a c' mg
  have:=hT.desc _ _ mg
  rw [hd] at this
  cases this
  cases he
  simp only [Instr.sameNow,dY] at hs
  rw [<- hs,beq_toListBytes,ByteArray.toList_eq,ByteArray.toList_eq]
 .rename_i fs xs ys mg
  have:=hT.desc _ _ mg
  rw [hd] at this
  cases this
  simp [Instr.sameNow] at hs
 .rename_i n e xs ys mg
  have:=hT.desc _ _ mg
  rw [hd] at this
  cases this
  simp [Instr.sameNow] at hs
 .cases he

theorem zly (hT:T.Fits P) {kt:TypeId} {d:TypeDesc} (hd:P.underlying kt=some d) {k:ae}:∀ (es ces:List MapEntry) (i:Nat) (r r':Option (Nat × ae)),m6 ρ es ces->qO T kt k es i=some r->Instr.findNow d k ces i=some r'->zwl ρ r r'
 | [],ces,i,r,r',he,hf,hn=>by
  rw [he.of_nil] at hn
  simp only [qO,Instr.findNow,dY] at hf hn
  subst hf hn
  trivial
 |e::es,ces,i,r,r',he,hf,hn=>by
  obtain ⟨y,m,rfl,hk,hv,_,hp,wH⟩:=he.of_cons
  have jP:=hk.bQ hp
  simp only [qO,cH] at hf
  obtain ⟨b,hb,hf⟩:=hf
  simp only [Instr.findNow] at hn
  rw [jP] at hn
  cases Zl:Instr.sameNow d k e.key with
  |none=>rw [Zl] at hn;cases hn
  |some c =>
   have:=zvF hT hd hb Zl
   subst this
   rw [Zl] at hn
   cases b with
   |true =>
    simp only [if_true,dY] at hf hn
    subst hf hn
    exact ⟨rfl,hv⟩
   |false =>
    simp only [gW,if_false] at hf hn
    exact zly hT hd es m (i+1) r r' wH hf hn

theorem zg0 (hT:T.Fits P) (w:World) {kt:TypeId} {k:ae}:∀ (es ces:List MapEntry) (i:Nat) (r:Option (Nat × ae)),m6 ρ es ces->qO T kt k es i=some r->∃ r',(Instr.findAsking kt k ces i).run P w=.ok r' w/\zwl ρ r r'
 | [],ces,i,r,he,hf=>by
  rw [he.of_nil]
  simp only [qO,dY] at hf
  subst hf
  exact ⟨none,by simp [Instr.findAsking],trivial⟩
 |e::es,ces,i,r,he,hf=>by
  obtain ⟨y,m,rfl,hk,hv,_,hp,wH⟩:=he.of_cons
  have jP:=hk.bQ hp
  simp only [qO,cH] at hf
  obtain ⟨b,hb,hf⟩:=hf
  have hq:(Op.equal kt k y.key).run P w=.ok b w:=by rw [jP];exact Ri hT w 20 9980 kt _ _ b hb
  cases b with
  |true =>
   simp only [if_true,dY] at hf
   subst hf
   exact ⟨some (i,y.val),by simp [Instr.findAsking,hq],rfl,hv⟩
  |false =>
   simp only [gW,if_false] at hf
   obtain ⟨r',h1,h2⟩:=zg0 hT w es m (i+1) r wH hf
   exact ⟨r',by simp [Instr.findAsking,hq,h1],h2⟩

theorem zrB (hT:T.Fits P) (hk:wj T kt k=true):∃ d,P.underlying kt=some d:=by
 obtain ⟨_,h1⟩:=Jg hk
 unfold fH at h1
 split at h1
 all_goals first|exact ⟨_,hT.desc _ _ ‹_›⟩|cases h1

theorem Ui (hT:T.Fits P) (w:World) (hk:wj T kt k=true) {es ces:List MapEntry} {r:Option (Nat × ae)} (he:m6 ρ es ces) (hf:qO T kt k es 0=some r) :
 ∃ r',(Instr.findKey kt k ces).run P w=.ok r' w/\zwl ρ r r':=by
 obtain ⟨d,hd⟩:=zrB hT hk
 cases hn:Instr.findNow d k ces 0 with
 |some r'=>exact ⟨r',by simp [Instr.findKey,run_underlying hd,hn],zly hT hd es ces 0 r r' he hf hn⟩
 |none =>
  obtain ⟨r',h1,h2⟩:=zg0 hT w es ces 0 r he hf
  exact ⟨r',by simp [Instr.findKey,run_underlying hd,hn,h1],h2⟩

theorem Uv (hT:T.Fits P) (hz:T.zero t=some v) (w:World):(zeroValue t).run P w=.ok v w/\VR ρ v v:=by
 obtain ⟨⟨i,hi,hiz⟩,hp⟩:=hT.zero t v hz
 exact ⟨by simp [zeroValue,typeInfo,hi,hiz],.dM ρ hp⟩

theorem zrM (hs:bT ρ h w) (dj:VR ρ x y) {es:List MapEntry} (hm:SJ x h=some es) :
 ∃ ces:Array MapEntry,m6 ρ es ces.toList/\((y=.map none/\ces=#[])\/∃ A L clock,x=.map (some A)/\ρ A=some L/\y=.map (some L.b)/\h.get A=some (.map es clock)/\w.heap[L.b]? = some (.map ces clock)):=by
 unfold SJ at hm
 split at hm
 .cases hm
  cases dj
  exact ⟨#[],⟨rfl,by intro i x y hx;simp at hx⟩,.inl ⟨rfl,rfl⟩⟩
 .split at hm
  .rename_i A _ Tc clock hg
   cases hm
   cases dj with
   |map hA =>
    rename_i L
    have hb:=hs.fL A L hA
    rw [hg] at hb
    obtain ⟨ces,hc,he⟩:=hb
    exact ⟨ces,he,.inr ⟨A,L,clock,rfl,hA,rfl,hg,hc⟩⟩
  .cases hm
 .cases hm

theorem zmZ (hT:T.Fits P) (hs:bT ρ h w) {ok:Bool} (dj:VR ρ x y) (hk:VR ρ k k') (hl:CR T t x k ok h=some v) :
 ∃ u,(Instr.lookup t y k' ok).run P w=.ok u w/\VR ρ v u:=by
 unfold CR at hl
 split at hl
 .rename_i kt et hd
  split at hl
  .rename_i lO
   simp only [cH,cC,Prod.exists] at hl
   obtain ⟨es,BI,r,hr,v',b,pX,hv⟩:=hl
   have hu:=hT.desc _ _ hd
   obtain ⟨hp,hZ⟩:=Jg lO
   have pV:k'=k:=hk.bQ hp
   subst pV
   obtain ⟨ces,he,hy⟩:=zrM hs dj BI
   obtain ⟨r',hf,dC⟩:=Ui hT w lO he hr
   have gV:∀ em,(Instr.checkKey em 10000 kt k').run P w=.ok () w:=λem=>Q2 hT w em 20 9980 kt k' hZ
   have DW:∀ u',VR ρ v' u'->VR ρ v (if ok then .tuple #[u',.bool b] else u'):=by
    intro u' n8
    rw [<- hv]
    cases ok
    .exact n8
    .simp only [if_true]
     exact (cB.cons n8 (.cons (.bool b) (.nil ρ))).jE
   cases r with
   |none =>
    cases r' with
    |some q=>exact dC.elim
    |none =>
     simp only [cC,df] at pX
     obtain ⟨z,hz,rfl,rfl⟩:=pX
     obtain ⟨h1,h2⟩:=Uv (ρ:=ρ) hT hz w
     refine ⟨_,?_,DW z h2⟩
     rcases hy with ⟨rfl,rfl⟩|⟨A,L,clock,_,_,rfl,_,hc⟩
     .simp only [Instr.lookup,Sem.run_bind,run_underlying hu,Result.andThen_ok,Sem.run_pure,gV,hf,h1]
     .have hg:(getObj L.b).run P w=.ok (.map ces clock) w:=by simp [getObj,Sem.run,hc]
      simp only [Instr.lookup,Sem.run_bind,run_underlying hu,Result.andThen_ok,Sem.run_pure,hg,gV,hf,h1]
   |some p =>
    cases r' with
    |none=>exact dC.elim
    |some q =>
     obtain ⟨i,v1⟩:=p
     obtain ⟨j,u1⟩:=q
     simp only [dY,df] at pX
     obtain ⟨rfl,rfl⟩:=pX
     refine ⟨_,?_,DW u1 dC.2⟩
     rcases hy with ⟨rfl,rfl⟩|⟨A,L,clock,_,_,rfl,_,hc⟩
     .simp only [Instr.lookup,Sem.run_bind,run_underlying hu,Result.andThen_ok,Sem.run_pure,gV,hf]
     .have hg:(getObj L.b).run P w=.ok (.map ces clock) w:=by simp [getObj,Sem.run,hc]
      simp only [Instr.lookup,Sem.run_bind,run_underlying hu,Result.andThen_ok,Sem.run_pure,hg,gV,hf]
  .cases hl
 .cases hl

theorem ztF:∀ {x y:ae},Ii x y=true->x=y:=by
 intro x y hh
 unfold Ii at hh
 split at hh
 .simpa using hh
 .simp only [dP,gY,beq_iff_eq] at hh
  rw [hh.1,hh.2]
 .rename_i a b
  obtain ⟨⟨a⟩⟩:=a
  obtain ⟨⟨b⟩⟩:=b
  simpa using hh
 .cases hh
theorem zlS:∀ {l m:List ae},JH l m=true->l=m
 | [],[],_=>rfl
 |x::l,y::m,hh=>by
  simp only [JH,dP] at hh
  rw [ztF hh.1,zlS hh.2]
 | [],_::_,hh=>by cases hh
 |_::_,[],hh=>by cases hh
theorem zlR (hh:Ii x y=true) (n:Nat):Instr.sameBits n x y=true:=by
 have:=ztF hh
 subst this
 unfold Ii at hh
 split at hh
 .simp [Instr.sameBits]
 .simp [Instr.sameBits]
 .simp [Instr.sameBits,beq_toListBytes]
 .cases hh
theorem ziu:∀ {l m:List ae},JH l m=true->∀ n,(l.zip m).all (λ(x,y)=>Instr.sameBits n x y)=true
 | [],[],_,_=>rfl
 |x::l,y::m,hh,n=>by
  simp only [JH,dP] at hh
  simp only [List.zip_cons_cons,gL,dP]
  exact ⟨zlR hh.1 n,ziu hh.2 n⟩
 | [],_::_,hh,_=>by cases hh
 |_::_,[],hh,_=>by cases hh
theorem ziv (hh:HJ x y=true):Instr.sameBits 10000 x y=true:=by
 unfold HJ at hh
 split at hh
 .rename_i a b
  have h1:=ziu hh 9999
  have h2:=zlS hh
  have h3:a.size=b.size:=by rw [<- qR,h2,qR]
  rw [Instr.sameBits,h3]
  simpa using h1
 .exact zlR hh _

theorem zhs (hT:T.Fits P) (hs:bT ρ h w) {v':ae} (dj:VR ρ x y) (hk:VR ρ k k') (hv:VR ρ v v') (hl:rT T t x k v h=some h') :
 ∃ w',(Instr.mapUpdate t y k' v').run P w=.ok () w'/\Fr ρ ρ h h' w w'/\bT ρ h' w':=by
 unfold rT at hl
 split at hl
 .rename_i kt et A hd
  split at hl
  .rename_i es clock hg
   split at hl
   .rename_i lO
    simp only [cH] at hl
    obtain ⟨r,hr,hl⟩:=hl
    have hu:=hT.desc _ _ hd
    obtain ⟨hp,hZ⟩:=Jg lO
    have pV:k'=k:=hk.bQ hp
    subst pV
    cases dj with
    |map hA =>
     rename_i L
     have hb:=hs.fL A L hA
     rw [hg] at hb
     obtain ⟨ces,hc,he⟩:=hb
     obtain ⟨r',hf,dC⟩:=Ui hT w lO he hr
     have gV:∀ em,(Instr.checkKey em 10000 kt k').run P w=.ok () w:=λem=>Q2 hT w em 20 9980 kt k' hZ
     have jT:∀ o:Obj,(setObj L.b o).run P w=.ok () (w.putObj L.b o):=by
      intro o
      simp [setObj,Sem.run,hc,World.putObj]
     have aP:L.b < w.heap.size:=(mY.1 hc).1
     have tH:∀ (b':bh) (o:Obj),qS ρ (w.putObj L.b o) L (some b')->Fr ρ ρ h (h.set A b') w (w.putObj L.b o)/\bT ρ (h.set A b') (w.putObj L.b o):=by
      intro b' o nW
      refine Jl hs hA hg (by simp) (by simp) rfl rfl rfl (by simp [World.putObj]) (λq hq=>?_) nW
      simp only [World.putObj]
      rw [Jy (Ne.symm hq)]
     have mf:∀ o:Obj,(w.putObj L.b o).heap[L.b]? = some o:=by
      intro o
      simp [World.putObj,aP]
     cases r with
     |none =>
      cases r' with
      |some q=>exact dC.elim
      |none =>
       simp only [dY] at hl
       subst hl
       refine ⟨w.putObj L.b (.map (ces.push { key:=k',val:=v',born:=clock }) (clock+1)),?_,tH _ _ ⟨_,mf _,?_⟩⟩
       .simp [Instr.mapUpdate,run_underlying hu,getObj,Sem.run,hc,gV,hf,jT]
       .refine ⟨by simp [he.1],λi a b ha hb=>?_⟩
        have hlen:=he.1
        rw [Array.toList_push] at hb
        rcases R5 i es.length with h1|h1|h1
        .rw [mX h1] at ha
         rw [mX (by omega)] at hb
         exact he.2 i a b ha hb
        .rw [px (by omega)] at ha
         rw [px (by omega)] at hb
         have e1:i - es.length=0:=by omega
         have e2:i - ces.toList.length=0:=by omega
         rw [e1] at ha
         rw [e2] at hb
         simp at ha hb
         subst ha hb
         exact ⟨.dM ρ hp,hv,rfl,hp⟩
        .rw [px (by omega)] at ha
         have:i - es.length=(i - es.length - 1)+1:=by omega
         rw [this] at ha
         simp at ha
     |some q =>
      obtain ⟨i,v1⟩:=q
      cases r' with
      |none=>exact dC.elim
      |some q' =>
       obtain ⟨j,u1⟩:=q'
       obtain ⟨rfl,_⟩:=dC
       simp only [cH] at hl
       obtain ⟨e,Nj,hl⟩:=hl
       split at hl
       .rename_i iM
        cases hl
        have jt:i < ces.size:=by
         have h1:=(dz.1 Nj).1
         have:=he.1
         simp at this
         omega
        obtain ⟨k1,k2,k3,k4⟩:=he.2 i e ces[i] Nj (by simp)
        have YN:ces[i].key=e.key:=k1.bQ k4
        have yd:=ziv iM
        refine ⟨w.putObj L.b (.map (ces.modify i λe=>{ e with key:=k',val:=v' }) clock),?_,tH _ _ ⟨_,mf _,?_⟩⟩
        .simp [Instr.mapUpdate,run_underlying hu,getObj,Sem.run,hc,gV,hf,jT,Instr.keyThatStays,YN,yd,jt]
        .refine ⟨by simp [he.1],λq a b ha hb=>?_⟩
         rw [Array.toList_modify] at hb
         rw [C5] at ha hb
         by_cases hq:i=q
         .subst hq
          simp only [if_true,Option.map_eq_map,cC] at ha hb
          obtain ⟨a0,M3,rfl⟩:=ha
          obtain ⟨b0,DA,rfl⟩:=hb
          obtain ⟨_,_,h3,_⟩:=he.2 i a0 b0 M3 DA
          exact ⟨.dM ρ hp,hv,h3,hp⟩
         .simp only [az hq] at ha hb
          exact he.2 q a b (by simpa using ha) (by simpa using hb)
       .cases hl
   .cases hl
  .cases hl
 .cases hl

theorem zfI (hs:bT ρ h w) {A:Nat} {L:Loc} {es Tc:List MapEntry} {ces Bu:Array MapEntry} {clock clock':Nat} (hA:ρ A=some L) (hg:h.get A=some (.map es clock)) (hc:w.heap[L.b]? = some (.map ces clock))
 (he:m6 ρ Tc Bu.toList):Fr ρ ρ h (h.set A (.map Tc clock')) w (w.putObj L.b (.map Bu clock'))/\bT ρ (h.set A (.map Tc clock')) (w.putObj L.b (.map Bu clock')):=by
 have aP:L.b < w.heap.size:=(mY.1 hc).1
 refine Jl hs hA hg (by simp) (by simp) rfl rfl rfl (by simp [World.putObj]) (λq hq=>?_) ⟨Bu,by simp [World.putObj,aP],he⟩
 simp only [World.putObj]
 rw [Jy (Ne.symm hq)]

theorem m6.push {es:List MapEntry} {ces:Array MapEntry} (he:m6 ρ es ces.toList) {k v v':ae} {clock:Nat} (hp:plain k=true) (hv:VR ρ v v') :
 m6 ρ (es++[{ key:=k,val:=v,born:=clock }]) (ces.push { key:=k,val:=v',born:=clock }).toList:=by
 refine ⟨by simp [he.1],λi a b ha hb=>?_⟩
 have hlen:=he.1
 rw [Array.toList_push] at hb
 rcases R5 i es.length with h1|h1|h1
 .rw [mX h1] at ha
  rw [mX (by omega)] at hb
  exact he.2 i a b ha hb
 .rw [px (by omega)] at ha
  rw [px (by omega)] at hb
  have e1:i - es.length=0:=by omega
  have e2:i - ces.toList.length=0:=by omega
  rw [e1] at ha
  rw [e2] at hb
  simp at ha hb
  subst ha hb
  exact ⟨.dM ρ hp,hv,rfl,hp⟩
 .rw [px (by omega)] at ha
  have:i - es.length=(i - es.length - 1)+1:=by omega
  rw [this] at ha
  simp at ha

theorem m6.modify {es:List MapEntry} {ces:Array MapEntry} (he:m6 ρ es ces.toList) (i:Nat) {f g:MapEntry->MapEntry}
 (Gh:∀ a b,VR ρ a.key b.key->VR ρ a.val b.val->a.born=b.born->plain a.key=true->VR ρ (f a).key (g b).key/\VR ρ (f a).val (g b).val/\(f a).born=(g b).born/\plain (f a).key=true) :
 m6 ρ (es.modify i f) (ces.modify i g).toList:=by
 refine ⟨by simp [he.1],λq a b ha hb=>?_⟩
 rw [Array.toList_modify] at hb
 rw [C5] at ha hb
 by_cases hq:i=q
 .subst hq
  simp only [if_true,Option.map_eq_map,cC] at ha hb
  obtain ⟨a0,M3,rfl⟩:=ha
  obtain ⟨b0,DA,rfl⟩:=hb
  obtain ⟨h1,h2,h3,h4⟩:=he.2 i a0 b0 M3 DA
  exact Gh a0 b0 h1 h2 h3 h4
 .simp only [az hq] at ha hb
  exact he.2 q a b (by simpa using ha) (by simpa using hb)

theorem zoS (hT:T.Fits P) (hs:bT ρ h w) (dj:VR ρ x y) (hk:VR ρ k k') (hl:EH T t x k h=some (v,h')) :
 ∃ u w',(Instr.mapEntry t y k').run P w=.ok u w'/\Fr ρ ρ h h' w w'/\bT ρ h' w'/\VR ρ v u:=by
 unfold EH at hl
 split at hl
 .rename_i kt et A hd
  split at hl
  .rename_i es clock hg
   split at hl
   .rename_i lO
    simp only [cH] at hl
    obtain ⟨r,hr,hl⟩:=hl
    have hu:=hT.desc _ _ hd
    obtain ⟨hp,hZ⟩:=Jg lO
    have pV:k'=k:=hk.bQ hp
    subst pV
    cases dj with
    |map hA =>
     rename_i L
     have hb:=hs.fL A L hA
     rw [hg] at hb
     obtain ⟨ces,hc,he⟩:=hb
     obtain ⟨r',hf,dC⟩:=Ui hT w lO he hr
     have gV:∀ em,(Instr.checkKey em 10000 kt k').run P w=.ok () w:=λem=>Q2 hT w em 20 9980 kt k' hZ
     have jT:∀ o:Obj,(setObj L.b o).run P w=.ok () (w.putObj L.b o):=by
      intro o
      simp [setObj,Sem.run,hc,World.putObj]
     cases r with
     |none =>
      cases r' with
      |some q=>exact dC.elim
      |none =>
       simp only [cC,df] at hl
       obtain ⟨z,hz,rfl,rfl⟩:=hl
       obtain ⟨z1,z2⟩:=Uv (ρ:=ρ) hT hz w
       obtain ⟨f1,f2⟩:=zfI (clock':=clock+1) hs hA hg hc (he.push (clock:=clock) hp z2)
       refine ⟨_,_,?_,f1,f2,(cB.cons z2 (.cons (.int .i64 clock) (.nil ρ))).jE⟩
       simp [Instr.mapEntry,run_underlying hu,getObj,Sem.run,hc,gV,hf,jT,z1,goInt]
     |some q =>
      obtain ⟨i,v1⟩:=q
      cases r' with
      |none=>exact dC.elim
      |some q' =>
       obtain ⟨j,u1⟩:=q'
       obtain ⟨rfl,n8⟩:=dC
       simp only [cH] at hl
       obtain ⟨e,Nj,hl⟩:=hl
       split at hl
       .rename_i iM
        cases hl
        have jt:i < ces.size:=by
         have h1:=(dz.1 Nj).1
         have:=he.1
         simp at this
         omega
        obtain ⟨k1,k2,k3,k4⟩:=he.2 i e ces[i] Nj (by simp)
        have YN:ces[i].key=e.key:=k1.bQ k4
        have yd:=ziv iM
        obtain ⟨f1,f2⟩:=zfI (clock':=clock) hs hA hg hc (he.modify i (f:=λe=>{ e with key:=k' }) (g:=λe=>{ e with key:=k' }) (λa b h1 h2 h3 h4=>⟨.dM ρ hp,h2,h3,hp⟩))
        refine ⟨_,_,?_,f1,f2,(cB.cons n8 (.cons (.int .i64 e.born) (.nil ρ))).jE⟩
        simp [Instr.mapEntry,run_underlying hu,getObj,Sem.run,hc,gV,hf,jT,Instr.keyThatStays,YN,yd,jt,goInt,k3]
       .cases hl
   .cases hl
  .cases hl
 .cases hl

theorem zja {s:Int}:∀ {es ces:List MapEntry} {n i:Nat},(∀ (i:Nat) a b,es[i]? = some a->ces[i]? = some b->a.born=b.born)->es.length=ces.length->JS s es n=some i->n<=i/\ces.findIdx? (λe=>(e.born:Int) == s)=some (i - n)
 | [],_,_,_,_,_,h=>by cases h
 |a::es,[],_,_,_,hl,_=>by cases hl
 |a::es,b::ces,n,i,hb,hl,h=>by
  have h0:=hb 0 a b rfl rfl
  rw [JS] at h
  rw [List.findIdx?_cons]
  split at h
  .rename_i hc
   cases h
   rw [h0] at hc
   simp [hc]
  .rename_i hc
   rw [h0] at hc
   obtain ⟨h1,h2⟩:=zja (es:=es) (ces:=ces) (λi a b ha nW=>hb (i+1) a b (by simpa using ha) (by simpa using nW)) (by simpa using hl) h
   refine ⟨by omega,?_⟩
   have:¬ ((b.born:Int) == s)=true:=by simpa using hc
   rw [az this,h2]
   simp
   omega

theorem zhI (hs:bT ρ h w) {s s' v':ae} (dj:VR ρ x y) (Ah:VR ρ s s') (hv:VR ρ v v') (hl:zm x s v h=some h') :
 ∃ w',(Instr.entryStore t y s' v').run P w=.ok () w'/\Fr ρ ρ h h' w w'/\bT ρ h' w':=by
 unfold zm at hl
 split at hl
 .rename_i A kd b
  split at hl
  .rename_i es clock hg
   simp only [cC] at hl
   obtain ⟨i,hi,rfl⟩:=hl
   cases Ah
   cases dj with
   |map hA =>
    rename_i L
    have hb:=hs.fL A L hA
    rw [hg] at hb
    obtain ⟨ces,hc,he⟩:=hb
    have jT:∀ o:Obj,(setObj L.b o).run P w=.ok () (w.putObj L.b o):=by
     intro o
     simp [setObj,Sem.run,hc,World.putObj]
    obtain ⟨_,Gi⟩:=zja (ces:=ces.toList) (λi a b ha hb=>(he.2 i a b ha hb).2.2.1) he.1 hi
    have Yt:ces.findIdx? (λe=>(e.born:Int) == b)=some i:=by
     cases ces with|mk l=>simpa using Gi
    obtain ⟨f1,f2⟩:=zfI (clock':=clock) hs hA hg hc (he.modify i (f:=λe=>{ e with val:=v }) (g:=λe=>{ e with val:=v' }) (λa b h1 h2 h3 h4=>⟨h1,hv,h3,h4⟩))
    refine ⟨_,?_,f1,f2⟩
    simp [Instr.entryStore,getObj,Sem.run,hc,jT,asInt,asIntOf,Yt]
  .cases hl
 .cases hl

end
end Go.Am
namespace Go.Am
open Go.RowKit
variable {p v x y:ae} {s t:TypeId}
section
variable {P:Program} {T:bL} {ρ:cI} {h h':Heap} {w:World}

theorem m6.eraseIdx {l m:List MapEntry} (hl:m6 ρ l m) (i:Nat):m6 ρ (l.eraseIdx i) (m.eraseIdx i):=by
 have hlen:=hl.1
 refine ⟨by rw [List.length_eraseIdx,List.length_eraseIdx,hlen],λj x y hx hy=>?_⟩
 rw [List.getElem?_eraseIdx] at hx hy
 split at hx
 .rename_i hj;rw [aE hj] at hy;exact hl.2 j x y hx hy
 .rename_i hj;rw [az hj] at hy;exact hl.2 (j+1) x y hx hy

theorem zmG (hT:T.Fits P) (hs:bT ρ h w) {ty:TypeId} {ts:List TypeId} {k k':ae} (dj:VR ρ x y) (hk:VR ρ k k') (hl:AA T t x k h=some h') :
 ∃ w',(Builtin.delete_ (t::ts).toArray ty #[y,k']).run P w=.ok (.tuple #[]) w'/\Fr ρ ρ h h' w w'/\bT ρ h' w':=by
 unfold AA at hl
 split at hl
 .rename_i kt et hd
  split at hl
  .rename_i lO
   cases hl
   obtain ⟨hp,hZ⟩:=Jg lO
   have pV:k'=k:=hk.bQ hp
   subst pV
   cases dj
   refine ⟨w,?_,Fr.refl _ _ _,hs⟩
   have gV:∀ em,(Instr.checkKey em 10000 kt k').run P w=.ok () w:=λem=>Q2 hT w em 20 9980 kt k' hZ
   simp [Builtin.delete_,run_underlying (hT.desc _ _ hd),gV]
  .cases hl
 .rename_i kt et A hd
  split at hl
  .rename_i es clock hg
   split at hl
   .rename_i lO
    simp only [cH] at hl
    obtain ⟨r,hr,hl⟩:=hl
    have hu:=hT.desc _ _ hd
    obtain ⟨hp,hZ⟩:=Jg lO
    have pV:k'=k:=hk.bQ hp
    subst pV
    cases dj with
    |map hA =>
     rename_i L
     have hb:=hs.fL A L hA
     rw [hg] at hb
     obtain ⟨ces,hc,he⟩:=hb
     obtain ⟨r',hf,dC⟩:=Ui hT w lO he hr
     have gV:∀ em,(Instr.checkKey em 10000 kt k').run P w=.ok () w:=λem=>Q2 hT w em 20 9980 kt k' hZ
     have eR:(getObj L.b).run P w=.ok (.map ces clock) w:=by simp [getObj,Sem.run,hc]
     have jT:∀ o:Obj,(setObj L.b o).run P w=.ok () (w.putObj L.b o):=by
      intro o
      simp [setObj,Sem.run,hc,World.putObj]
     have aP:L.b < w.heap.size:=(mY.1 hc).1
     have tH:∀ (b':bh) (o:Obj),qS ρ (w.putObj L.b o) L (some b')->Fr ρ ρ h (h.set A b') w (w.putObj L.b o)/\bT ρ (h.set A b') (w.putObj L.b o):=by
      intro b' o nW
      refine Jl hs hA hg (by simp) (by simp) rfl rfl rfl (by simp [World.putObj]) (λq hq=>?_) nW
      simp only [World.putObj]
      rw [Jy (Ne.symm hq)]
     have mf:∀ o:Obj,(w.putObj L.b o).heap[L.b]? = some o:=by
      intro o
      simp [World.putObj,aP]
     cases r with
     |none =>
      cases r' with
      |some q=>exact dC.elim
      |none =>
       cases hl
       refine ⟨w.putObj L.b (.map ces clock),?_,tH _ _ ⟨_,mf _,he⟩⟩
       simp [Builtin.delete_,run_underlying hu,eR,gV,hf,jT]
     |some q =>
      obtain ⟨i,v1⟩:=q
      cases r' with
      |none=>exact dC.elim
      |some q' =>
       obtain ⟨j,u1⟩:=q'
       obtain ⟨rfl,_⟩:=dC
       cases hl
       refine ⟨w.putObj L.b (.map (ces.eraseIdxIfInBounds i) clock),?_,tH _ _ ⟨_,mf _,?_⟩⟩
       .simp [Builtin.delete_,run_underlying hu,eR,gV,hf,jT]
       .have e1:(ces.eraseIdxIfInBounds i).toList=ces.toList.eraseIdx i:=by simp
        rw [e1]
        exact he.eraseIdx i
   .cases hl
  .cases hl
 .cases hl

theorem zo9 (hT:T.Fits P) (dj:VR ρ x y) (hi:JL T t x=some v) (w:World):∃ u,(Instr.makeInterface t y).run P w=.ok u w/\VR ρ v u:=by
 unfold JL at hi
 split at hi
 .cases hi
 .rename_i d ba hd
  cases hi
  refine ⟨.iface t y,?_,.iface t dj⟩
  have:=hT.desc _ _ hd
  simp only [Instr.makeInterface,Sem.run_bind,run_underlying this,Result.andThen_ok]
  cases d <;> first|rfl|exact (ba _ rfl).elim
 .cases hi

theorem ztO (hT:T.Fits P) (hz:T.zero t=some v) (w:World):(zeroValue t).run P w=.ok v w:=(Uv (ρ:=λ_=>none) hT hz w).1

theorem zmo (hT:T.Fits P) {xt:TypeId} {ok:Bool} (dj:VR ρ x y) (hi:RL T x t ok=some v) (w:World):∃ u,(Instr.typeAssert y xt t ok).run P w=.ok u w/\VR ρ v u:=by
 unfold RL at hi
 split at hi
 .cases hi
 .rename_i d ba hd
  have hu:=hT.desc _ _ hd
  have Y4:∀ ms,d≠.interface ms:=λms e=>ba ms e
  have DH:∀ z,T.zero t=some z->VR ρ (.tuple #[z,.bool false]) (.tuple #[z,.bool false]):=λz hz=>(cB.cons (Uv (ρ:=ρ) hT hz w).2 (.cons (.bool false) (.nil ρ))).jE
  split at hi
  .rename_i t' v'
   cases dj with
   |iface _ dj =>
    rename_i y'
    split at hi
    .rename_i e
     subst e
     cases hi
     refine ⟨if ok then .tuple #[y',.bool true] else y',?_,?_⟩
     .simp only [Instr.typeAssert,Sem.run_bind,run_underlying hu,Result.andThen_ok]
      cases d <;> first|(exact (Y4 _ rfl).elim)|simp
     .cases ok
      .exact dj
      .exact (cB.cons dj (.cons (.bool true) (.nil ρ))).jE
    .rename_i e
     split at hi
     .rename_i dU
      simp only [cC] at hi
      obtain ⟨z,hz,rfl⟩:=hi
      refine ⟨_,?_,DH z hz⟩
      simp only [Instr.typeAssert,Sem.run_bind,run_underlying hu,Result.andThen_ok]
      cases d <;> first|(exact (Y4 _ rfl).elim)|simp [e,dU,ztO hT hz]
     .cases hi
  .cases dj
   split at hi
   .rename_i dU
    simp only [cC] at hi
    obtain ⟨z,hz,rfl⟩:=hi
    refine ⟨_,?_,DH z hz⟩
    simp only [Instr.typeAssert,Sem.run_bind,run_underlying hu,Result.andThen_ok]
    cases d <;> first|(exact (Y4 _ rfl).elim)|simp [dU,ztO hT hz]
   .cases hi
  .cases hi
 .cases hi

def U7 (ρ:cI):gM->Place->Prop
 | .val v,.val u=>VR ρ v u
 | .var p,.var a=>VR ρ p (.pointer (some a))
 |_,_=>False

theorem zg6 (hT:T.Fits P) (hs:bT ρ h w) {a:Addr} (hp:VR ρ p (.pointer (some a))) (hl:fW T t p h=some v):∃ u,(loadVar t a).run P w=.ok u w/\VR ρ v u:=by
 obtain ⟨u,h1,h2⟩:=zgC hT hs hp hl
 refine ⟨u,?_,h2⟩
 rw [<- h1]
 simp [Instr.loadAt,Instr.sureAddr]
theorem Uy (hT:T.Fits P) (hs:bT ρ h w) {x:gM} {y:Place} (dj:U7 ρ x y) (hg:x.get T t h=some v):∃ u,(y.get t).run P w=.ok u w/\VR ρ v u:=by
 cases x with
 |val v' =>
  cases y with
  |val u=>cases hg;exact ⟨u,rfl,dj⟩
  |var a=>exact dj.elim
 |var p =>
  cases y with
  |val u=>exact dj.elim
  |var a=>exact zg6 hT hs dj hg
theorem zww {u:ae} {f:Nat} {q:ae} (hp:VR ρ p u) (hf:fU T s p f=some q):∃ a,u=.pointer (some a)/\(asAddr u).run P w=.ok a w:=by
 unfold fU at hf
 split at hf
 .cases hp with
  |ptr hA=>exact ⟨_,rfl,by simp [asAddr]⟩
 .cases hf
theorem zfg (hT:T.Fits P) {fs:Array Field} {q:ae} {a:Addr} {i:Nat} {f:Field} (hd:T.desc s=some (.struct fs)) (hi:fs[i]? = some f) (hp:VR ρ p (.pointer (some a))) (hf:fU T s p i=some q) :
 ∃ a',(fieldPlace a f).run P w=.ok a' w/\VR ρ q (.pointer (some a')):=by
 unfold fU at hf
 rw [hd] at hf
 split at hf
 .rename_i fs' A o e1
  cases e1
  simp only [cH] at hf
  obtain ⟨fl,so,n,hn,hf⟩:=hf
  rw [hi] at so
  cases so
  split at hf
  .cases hf
  .rename_i h0
   cases hf
   cases hp with
   |ptr hA =>
    rename_i L
    refine ⟨⟨L.b,L.s+(o+f.offset),none⟩,?_,.ptr hA⟩
    simp [fieldPlace,vV hT hn,h0,Addr.add_mid,oW]
 .cases hf

theorem T5 (hT:T.Fits P) (hs:bT ρ h w):∀ (l:List FieldStep) (t:TypeId) (x:gM) (y:Place) (r:TypeId × gM),U7 ρ x y->JD T h l t x=some r->∃ y',(follow l t y).run P w=.ok (r.1,y') w/\U7 ρ r.2 y'
 | [],t,x,y,r,dj,hf=>by cases hf;exact ⟨y,by simp [follow],dj⟩
 |s::l,t,x,y,r,dj,hf=>by
  simp only [JD] at hf
  split at hf
  .rename_i fs hd
   simp only [cH] at hf
   obtain ⟨f,hi,hf⟩:=hf
   have hu:=hT.desc _ _ hd
   split at hf
   .rename_i wG
    simp only [cH] at hf
    obtain ⟨p,hp,q,hq,hf⟩:=hf
    obtain ⟨u,h1,h2⟩:=Uy hT hs dj hp
    obtain ⟨a,rfl,h3⟩:=zww (P:=P) (w:=w) h2 hq
    obtain ⟨a',h4,h5⟩:=zfg (P:=P) (w:=w) hT hd hi h2 hq
    obtain ⟨y',h6,h7⟩:=T5 hT hs l _ (.var q) (.var a') r h5 hf
    refine ⟨y',?_,h7⟩
    simp only [follow,Sem.run_bind,run_underlying hu,Result.andThen_ok,hi,wG,if_true,h1,h3,h4,h6]
   .rename_i wG
    split at hf
    .rename_i p
     simp only [cH] at hf
     obtain ⟨q,hq,hf⟩:=hf
     cases y with
     |val u=>exact dj.elim
     |var a =>
      obtain ⟨a',h4,h5⟩:=zfg (P:=P) (w:=w) hT hd hi dj hq
      obtain ⟨y',h6,h7⟩:=T5 hT hs l _ (.var q) (.var a') r h5 hf
      refine ⟨y',?_,h7⟩
      simp only [follow,Sem.run_bind,run_underlying hu,Result.andThen_ok,hi,wG,gW,if_false,h4,h6]
    .rename_i cs
     simp only [cH] at hf
     obtain ⟨v,hv,hf⟩:=hf
     cases y with
     |var a=>exact dj.elim
     |val u =>
      cases dj with
      |agg hc hh =>
       rename_i ds
       obtain ⟨vc,h4,h5⟩:=zjR (ds:=ds) hT (VR.agg hc hh).Fg hv w
       obtain ⟨y',h6,h7⟩:=T5 hT hs l _ (.val v) (.val vc) r h5 hf
       refine ⟨y',?_,h7⟩
       simp only [follow,Sem.run_bind,run_underlying hu,Result.andThen_ok,hi,wG,gW,if_false,h4,h6]
    .cases hf
  .cases hf

theorem zj3 (hT:T.Fits P) (hs:bT ρ h w) {xt:TypeId} {x:gM} {y:Place} {ptr:Bool} (dj:U7 ρ x y) (hr:zj2 T xt x ptr h=some v) (wr:Option String):∃ u,(receiverAt xt y ptr wr).run P w=.ok u w/\VR ρ v u:=by
 unfold zj2 at hr
 split at hr
 .rename_i e hd
  obtain ⟨u,h1,h2⟩:=Uy hT hs dj hr
  refine ⟨u,?_,h2⟩
  simp only [receiverAt,Sem.run_bind,run_underlying (hT.desc _ _ hd),Result.andThen_ok,h1]
 .rename_i elem hd
  simp only [cH] at hr
  obtain ⟨p,hp,hr⟩:=hr
  obtain ⟨u,h1,h2⟩:=Uy hT hs dj hp
  have hpu:∃ a,u=.pointer (some a):=by
   unfold fW at hr
   split at hr
   .cases h2 with
    |ptr hA=>exact ⟨_,rfl⟩
   .cases hr
  obtain ⟨a,rfl⟩:=hpu
  obtain ⟨u',h3,h4⟩:=zg6 hT hs h2 hr
  refine ⟨u',?_,h4⟩
  simp only [receiverAt,Sem.run_bind,run_underlying (hT.desc _ _ hd),Result.andThen_ok,h1]
  cases wr with
  |none=>simp [asAddr,h3]
  |some nm =>
   have hw:(Builtin.ssaWrapNilChk_ #[xt] xt #[.pointer (some a),strVal "",strVal nm]).run P w=.ok (.pointer (some a)) w:=rfl
   simp [hw,asAddr,h3]
 .rename_i d p ba hd
  split at hr
  .rename_i a
   cases hr
   cases y with
   |val u=>exact dj.elim
   |var a' =>
    refine ⟨.pointer (some a'),?_,dj⟩
    simp only [receiverAt,Sem.run_bind,run_underlying (hT.desc _ _ hd),Result.andThen_ok]
    cases d <;> first|rfl|exact (ba _ rfl).elim
  .cases hr
 .rename_i d ba hd
  obtain ⟨u,h1,h2⟩:=Uy hT hs dj hr
  refine ⟨u,?_,h2⟩
  simp only [receiverAt,Sem.run_bind,run_underlying (hT.desc _ _ hd),Result.andThen_ok]
  cases d <;> first|exact h1|exact (ba _ rfl).elim
 .cases hr

theorem zm1 (hT:T.Fits P) (hs:bT ρ h w) {u r:ae} {name:String} {f:FuncId} (hv:VR ρ v u) (hm:wX T t v name h=some (f,r)) (fuel:Nat):∃ r',(method (fuel+1) t u name).run P w=.ok (f,r') w/\VR ρ r r':=by
 unfold wX at hm
 simp only [cH,Prod.exists] at hm
 obtain ⟨m,i0,xt,x,hf,hm⟩:=hm
 obtain ⟨i,hi,Np⟩:=hT.y7 _ _ _ i0
 obtain ⟨y,h1,h2⟩:=T5 hT hs m.path.toList t (.val v) (.val u) (xt,x) hv hf
 split at hm
 .rename_i f' ptr vz
  simp only [cC,df] at hm
  obtain ⟨r1,hr,rfl,rfl⟩:=hm
  obtain ⟨r',h3,h4⟩:=zj3 hT hs h2 hr (if m.path.isEmpty then some ((name.splitOn ".").getLastD name) else none)
  refine ⟨r',?_,h4⟩
  have Zp:(typeInfo t).run P w=.ok i w:=by simp [typeInfo,hi]
  simp only [method,Sem.run_bind,Zp,Result.andThen_ok,Np,h1,vz,h3,Sem.run_pure]
 .cases hm

theorem zuf (hT:T.Fits P) {ty:TypeId} (dj:VR ρ x y) (hc:FC T t x=some v) (ts:List TypeId) (w:World):∃ u,(Builtin.cap_ (t::ts).toArray ty #[y]).run P w=.ok u w/\VR ρ v u:=by
 unfold FC at hc
 split at hc
 .rename_i e a n c hd
  split at hc
  .rename_i aP
   cases hc
   have key:∃ a' n',y=.slice a' n' c:=by
    cases dj with
    |dN=>exact ⟨_,_,rfl⟩
    |slice=>exact ⟨_,_,rfl⟩
    |cm h1 h2=>omega
   obtain ⟨a',n',rfl⟩:=key
   exact ⟨_,by simp [Builtin.cap_,run_underlying (hT.desc _ _ hd),goInt],.int _ _⟩
  .cases hc
 .cases hc

theorem zlk:∀ (l m:List ae) (bs:List UInt8),cB ρ l m->Sp l=some bs->∃ ns:List Int,m=ns.map (Value.int .u8)/\bs=ns.map λn=>UInt8.ofNat n.toNat
 | [],m,bs,hv,hb=>by
  rw [hv.of_nil]
  cases hb
  exact ⟨[],rfl,rfl⟩
 |x::l,m,bs,hv,hb=>by
  obtain ⟨y,m',rfl,h1,h2⟩:=hv.of_cons
  cases x with
  |int k n =>
   cases k <;> simp only [Sp] at hb <;> try cases hb
   simp only [cC] at hb
   obtain ⟨bs',nW,rfl⟩:=hb
   cases h1
   obtain ⟨ns,rfl,rfl⟩:=zlk l m' bs' h2 nW
   exact ⟨n::ns,rfl,rfl⟩
  |_=>simp [Sp] at hb

theorem zkD (hT:T.Fits P) (hs:bT ρ h w) {d:TypeId} (dj:VR ρ x y) (hb:UF T s d x h=some v):∃ u,(convert s d y).run P w=.ok u w/\VR ρ v u:=by
 unfold UF at hb
 split at hb
 .rename_i e a n c yL Yl
  split at hb
  .rename_i hed
   simp only [cH,cC] at hb
   obtain ⟨l,hl,bs,ye,rfl⟩:=hb
   obtain ⟨a',c',m,rfl,hv,hlen,eu⟩:=zfv (P:=P) hs dj hl
   obtain ⟨ns,rfl,rfl⟩:=zlk l m bs hv ye
   refine ⟨_,?_,.string _⟩
   rw [run_convert_bytes_string w s d e a' n c' (hT.desc _ _ yL) (hT.desc _ _ hed) (hT.desc _ _ Yl)]
   cases a' with
   |none =>
    have hn:n=0:=by cases dj;rfl
    subst hn
    have:ns=[]:=by simpa using hlen
    subst this
    rfl
   |some ad =>
    have h1:=eu w rfl n (bo _)
    have h2:(loadCells ad n).run P w=.ok (ns.map (Value.int .u8)).toArray w:=by
     have h3:(Builtin.firstCells 1 n (.slice (some ad) n c'))=loadCells ad (n*1):=rfl
     rw [h3,Dg] at h1
     rw [h1]
     congr 2
     exact fX (by rw [hlen,Dg];exact bo _)
    rw [run_bytesToString w ad n c' ns h2,foldl_push_bytes]
    simp
  .cases hb
 .cases hb

theorem zkK (hT:T.Fits P) (hs:bT ρ h w) (bR:fO ρ h h') {d:TypeId} (ku:UJ T s=true) (hx:VR ρ x y) (hl:Jx T d x h=some (v,h')) :
 ∃ ρ' u w',(convert s d y).run P w=.ok u w'/\Fr ρ ρ' h h' w w'/\bT ρ' h' w'/\VR ρ' v u:=by
 have kV:P.underlying s=some .string:=by
  unfold UJ at ku
  split at ku
  .rename_i hd;exact hT.desc _ _ hd
  .cases ku
 unfold Jx at hl
 split at hl
 .rename_i e b hd
  split at hl
  .rename_i wy z he hi
   split at hl
   .cases hl
   .rename_i GU
    have dS:¬ b.size > 1152921504606846976:=λg=>GU (.inl g)
    have Yi:e=SC:=Decidable.byContradiction λg=>GU (.inr g)
    cases hl
    cases hx
    have eu:=Lib.run_convert_string_bytes w s d e b kV (hT.desc _ _ hd) (hT.desc _ _ he)
    have lq:=grownCap_ge w b.size 0 e
    have hle:=grownCap_le_maxLen w b.size 0 e (by unfold maxLen;omega)
    have lL:(Lib.bytesCells w e b).size=grownCap w b.size 0 e:=by
     have ye:b.data.size=b.size:=rfl
     simp only [Lib.bytesCells,Array.size_append,Array.size_map,Array.size_replicate,ye]
     omega
    have hW:(Lib.bytesWorld w e b).heap=w.heap.push (.cells (Lib.bytesCells w e b) e ((Lib.bytesCells w e b).size,(Lib.bytesCells w e b).size+1)):=by
     apply Array.ext_getElem?
     intro j
     rw [xi]
     by_cases hj:j=w.heap.size
     .rw [aE hj,hj,Lib.bytesWorld_at_new]
     .rw [az hj]
      by_cases YM:j < w.heap.size
      .exact Lib.bytesWorld_at_old w e b j YM
      .rw [Array.getElem?_eq_none (by rw [Lib.bytesWorld_size];omega),Array.getElem?_eq_none (by omega)]
    have jQ:=CN (k:=1) (q:=b.size) (by omega) (by unfold G;omega)
    obtain ⟨ρ',hρ,dC,dZ⟩:=zjY (W:=Lib.bytesWorld w e b) (cs:=b.data.toList.map λu=>Value.int .u8 u.toNat) (m:=b.data.toList.map λu=>Value.int .u8 u.toNat) hs (bR _ (bo _) (by rw [Heap.size_push];omega))
     (fz:=((Lib.bytesCells w e b).size,(Lib.bytesCells w e b).size+1)) ⟨by intro j hj hh;have:=hh.1;simp at this;omega,.inl Yi⟩ hW
     (by simp [Lib.bytesWorld,World.freeze,World.alloc,World.drew,-World.alloc_eq,-World.drew_eq]) (by simp [Lib.bytesWorld,World.freeze,World.alloc,World.drew,-World.alloc_eq,-World.drew_eq]) (by simp [Lib.bytesWorld,World.freeze,World.alloc,World.drew,-World.alloc_eq,-World.drew_eq])
     (by refine sQ ?_ (by simp) λj hj=>?_
         .simp [Lib.bytesCells]
         .simp only [fV,qR] at hj
          rw [iu]
          simp only [Lib.bytesCells,JQ,Array.toList_map]
          rw [mX (by simpa using hj)])
     (by refine ⟨rfl,λj a c ha hc=>?_⟩
         rw [ha] at hc
         cases hc
         rw [lB,cC] at ha
         obtain ⟨q,_,rfl⟩:=ha
         exact .int .u8 _)
    refine ⟨ρ',_,_,eu,dC,dZ,?_⟩
    refine .cm hρ jQ.1 (by rw [jQ.2.1];exact lq) (by rw [jQ.2.1];exact bo _) (by rw [jQ.2.2];omega) hle (λ_=>⟨by simp,?_⟩)
    rw [jQ.2.2]
    show 0+0+grownCap w b.size 0 e*1<=(Lib.bytesCells w e b).size
    rw [lL]
    omega
  .cases hl
 .cases hl
end
end Go.Am
namespace Go.Am
open Go.RowKit
variable {e:Env} {v:ae}

section
variable {P:Program} {T:bL} {ρ:cI} {h h':Heap} {w:World}

theorem cA.put {e:Env} {a:Act} (he:cA ρ e a.tmps) {v u:ae} (hv:VR ρ v u) (d:Option Tmp):cA ρ (Am.put e d v) (a.put d u).tmps:=by
 cases d with
 |none=>exact he
 |some d =>
  refine ⟨by simp [Am.put,Act.put,Env.length_set,he.1],λi=>?_⟩
  simp only [Am.put,Act.put,Env.aR]
  by_cases hi:i=d/\d < e.length
  .rw [aE hi]
   obtain ⟨rfl,aP⟩:=hi
   have:(a.tmps.setIfInBounds i u).getD i undef=u:=by
    have NH:i < a.tmps.size:=by rw [<- he.1];exact aP
    simp [NH]
   rw [this]
   exact hv
  .rw [az hi]
   have:(a.tmps.setIfInBounds d u).getD i undef=a.tmps.getD i undef:=by
    by_cases hid:d=i
    .subst hid
     have:¬ d < a.tmps.size:=by rw [<- he.1];exact λaP=>hi ⟨rfl,aP⟩
     simp [this]
    .simp [Jy hid]
   rw [this]
   exact he.2 i

theorem cA.operand {a:Act} (he:cA ρ e a.tmps) {x:Operand} (hx:uj ρ x):VR ρ (bz e x) (a.eval x):=by
 cases x with
 |tmp t=>exact he.2 t
 |const v=>exact .dM ρ hx
 |global g =>
  obtain ⟨t,ht⟩:=hx
  exact .ptr (o:=0) ht
 |func f=>exact .func _ rfl rfl (by intro i x y hx;simp at hx) (by intro i x y hx;simp at hx)

theorem cA.operands {a:Act} (he:cA ρ e a.tmps) (xs:List Operand) (hx:∀ x∈xs,uj ρ x):cB ρ (xs.map (bz e)) (xs.map a.eval):=by
 induction xs with
 |nil=>exact .nil ρ
 |cons x xs ih =>
  exact .cons (he.operand (hx x (by simp))) (ih λy hy=>hx y (by simp [hy]))

theorem cA.opt {a:Act} (he:cA ρ e a.tmps) {x:Option Operand} (hx:∀ y,x=some y->uj ρ y):s8 ρ (x.map (bz e)) (x.map a.eval):=by
 cases x with
 |none=>trivial
 |some y=>exact he.operand (hx y rfl)

def zBG (P:Program) (ρ:cI) (h h':Heap) (w:World) (v:ae) (f:FuncId) (aL:Array ae):Prop :=
 (∃ ρ' u w',(callFunc f aL).run P w=.ok (.value u) w'/\Fr ρ ρ' h h' w w'/\bT ρ' h' w'/\VR ρ' v u) \/
 ((callFunc f aL).run P w=.ok (.enter f aL) w/\Calls P f aL w λed w'=>∃ ρ' u,ed=.returned u/\Fr ρ ρ' h h' w w'/\bT ρ' h' w'/\VR ρ' v u)

def zDA (P:Program) (ρ:cI) (h h':Heap) (w:World) (v:ae) (l:Nat) (aL:Array ae):Prop :=
 ∃ f tmps assign body,(Instr.yield l aL).run P w=.ok (.round l f tmps assign body) w/\RoundIn Fence.wide 0 P l f tmps assign body w λed w'=>∃ ρ' u,ed=.returned u/\Fr ρ ρ' h h' w w'/\bT ρ' h' w'/\VR ρ' v u

structure CS (P:Program) (gs:List Nat) (C:Fn->List ae->Heap->Option (ae × Heap)):Prop where
 fn:∀ f args h v h',C (.func f) args h=some (v,h')->∀ ρ w (aL:Array ae),dt gs ρ->bT ρ h w->fO ρ h h'->cB ρ args aL.toList->zBG P ρ h h' w v f aL
 yield:∀ A args h v h',C (.yield A) args h=some (v,h')->∀ ρ w (aL:Array ae) L,ρ A=some L->dt gs ρ->bT ρ h w->fO ρ h h'->cB ρ args aL.toList->zDA P ρ h h' w v L.b aL

def Ik (P:Program) (ρ:cI) (h h':Heap) (w:World) (v:ae) (r:Result Next):Prop :=
 (∃ ρ' u w',(r=.ok (.value u) w'\/(r=.ok .skip w'/\u=undef))/\Fr ρ ρ' h h' w w'/\bT ρ' h' w'/\VR ρ' v u) \/
 (∃ f aL,r=.ok (.enter f aL) w/\Calls P f aL w λed w'=>∃ ρ' u,ed=.returned u/\Fr ρ ρ' h h' w w'/\bT ρ' h' w'/\VR ρ' v u) \/
 (∃ l f tmps assign body,r=.ok (.round l f tmps assign body) w/\RoundIn Fence.wide 0 P l f tmps assign body w λed w'=>∃ ρ' u,ed=.returned u/\Fr ρ ρ' h h' w w'/\bT ρ' h' w'/\VR ρ' v u)

theorem World.bU (w:World) (o:Obj):(w.alloc o).heap=w.heap.push o:=rfl

theorem Ik.still (hs:bT ρ h w) {u:ae} {r:Result Next} (hr:r=.ok (.value u) w) (hv:VR ρ v u):Ik P ρ h h w v r :=
 .inl ⟨ρ,u,w,.inl hr,Fr.refl _ _ _,hs,hv⟩

theorem Q6 {a:Act} {o:Oper} (hs:bT ρ h w) (he:cA ρ e a.tmps) (dU:lE ρ o) (hp:ic P e o h=some (v,h')) (Gb:(∀ x∈o.op.operands,a.eval x=bz e x)->execOp a.eval o=execOp (bz e) o) :
 Ik P ρ h h' w v ((execOp a.eval o).run P w):=by
 unfold ic at hp
 split at hp
 .rename_i aC
  have heq:∀ x∈o.op.operands,a.eval x=bz e x:=by
   intro x hx
   have h1:=gK.1 aC x (by simpa using hx)
   exact (he.operand (dU x (by simpa using hx))).bQ h1
  rw [Gb heq]
  split at hp
  .rename_i v' hr
   split at hp
   .rename_i kT
    cases hp
    exact .still hs (QY P _ _ hr w) (.dM ρ kT)
   .cases hp
  .cases hp
 .cases hp

theorem zlQ {v:ae} (hs:bT ρ h w) (gf:ρ h.size=none) {t:TypeId} {cs:List ae} (u:ae) (hv:cB ρ cs u.cells.toList) :
 ∃ ρ',(newVar t u).run P w=.ok ⟨w.heap.size,0,none⟩ (w.alloc (.cells u.cells t))/\Fr ρ ρ' h (newRow t cs h).2 w (w.alloc (.cells u.cells t))/\bT ρ' (newRow t cs h).2 (w.alloc (.cells u.cells t)) /\
   VR ρ' (newRow t cs h).1 (.pointer (some ⟨w.heap.size,0,none⟩)):=by
 have _:=v
 obtain ⟨ρ',hρ,dC,dZ⟩:=Jj (W:=w.alloc (.cells u.cells t)) (cs:=cs) (m:=u.cells.toList) hs gf rfl rfl rfl rfl (by rw [hv.1];exact sQ (by omega) rfl (λj _=>by rw [iu])) hv
 refine ⟨ρ',by simp [newVar,Go.newRow],dC,dZ,?_⟩
 have:=VR.ptr (ρ:=ρ') (o:=0) hρ
 simpa [newRow] using this

theorem zfi (ps:Array (Nat × Operand)) (f:Operand->ae):(ps.map λ(i,x)=>(i,f x))=(ps.toList.map λ(i,x)=>(i,f x)).toArray:=by
 apply Array.ext'
 simp

theorem zpS {a:Act} (he:cA ρ e a.tmps) (ps:List (Nat × Operand)) (dU:∀ x∈ps.map (·.2),uj ρ x) :
 (ps.map λ(i,x)=>(i,bz e x)).length=(ps.map λ(i,x)=>(i,a.eval x)).length /\
 ∀ (i:Nat) (x y:Nat × ae),(ps.map λ(i,x)=>(i,bz e x))[i]? = some x->(ps.map λ(i,x)=>(i,a.eval x))[i]? = some y->x.1=y.1/\VR ρ x.2 y.2:=by
 refine ⟨by simp,λi x y hx hy=>?_⟩
 rw [lB,cC] at hx hy
 obtain ⟨⟨j,o⟩,h1,rfl⟩:=hx
 obtain ⟨⟨j',o'⟩,h2,rfl⟩:=hy
 rw [h1] at h2
 cases h2
 exact ⟨rfl,he.operand (dU o (ud.2 ⟨(j,o),ig h1,rfl⟩))⟩

theorem Jb (hT:T.Fits P) {C:Fn->List ae->Heap->Option (ae × Heap)} {gs:List Nat} (hC:CS P gs C) (hG:dt gs ρ) {a:Act} {o:Oper} (hs:bT ρ h w) (he:cA ρ e a.tmps) (dU:lE ρ o) (bR:fO ρ h h') 
 (an:jc P T C e o h=some (v,h')):Ik P ρ h h' w v ((execOp a.eval o).run P w):=by
 have aC:∀ x∈o.op.operands.toList,uj ρ x:=dU
 unfold jc at an
 dsimp only at an
 split at an
 .rename_i x aZ
  cases an
  refine .still (u:=a.eval x) hs (by simp [execOp,aZ]) (he.operand (aC _ (by simp [aZ,Op.operands])))
 .rename_i x aZ
  cases an
  refine .still (u:=a.eval x) hs (by simp [execOp,aZ]) (he.operand (aC _ (by simp [aZ,Op.operands])))
 .rename_i c x y aZ
  have hc:=he.operand (aC c (by simp [aZ,Op.operands]))
  have hx:=he.operand (aC x (by simp [aZ,Op.operands]))
  have hy:=he.operand (aC y (by simp [aZ,Op.operands]))
  split at an
  .rename_i t ht
   cases an
   rw [ht] at hc
   have tz:a.eval c=.bool t:=hc.bQ rfl
   refine .still (u:=if t then a.eval x else a.eval y) hs (by simp [execOp,aZ,tz,asBool]) ?_
   cases t
   .exact hy
   .exact hx
  .cases an
 .rename_i t aZ
  simp only [cC,Prod.exists] at an
  obtain ⟨k,wy,z,gQ,an⟩:=an
  obtain ⟨i,zv,hi,rfl,rfl,hz,rfl,vM,uJ⟩:=hT.info t k wy z gQ
  have e1:v=(newRow t zv.cells.toList h).1:=(congrArg Prod.fst an).symm
  have e2:h'=(newRow t zv.cells.toList h).2:=(congrArg Prod.snd an).symm
  subst e1 e2
  obtain ⟨ρ',h1,h2,h3,h4⟩:=zlQ (P:=P) (v:=undef) hs (bR _ (bo _) (xl _)) (t:=t) zv (cB.plain ρ uJ)
  refine .inl ⟨ρ',_,_,.inl ?_,h2,h3,h4⟩
  simp [execOp,aZ,Instr.alloc,zeroValue,typeInfo,hi,hz,h1]
 .rename_i t x aZ
  have hx:=he.operand (aC x (by simp [aZ,Op.operands]))
  simp only [dY] at an
  have e1:v=(newRow t (bz e x).cells.toList h).1:=(congrArg Prod.fst an).symm
  have e2:h'=(newRow t (bz e x).cells.toList h).2:=(congrArg Prod.snd an).symm
  subst e1 e2
  obtain ⟨ρ',h1,h2,h3,h4⟩:=zlQ (P:=P) (v:=undef) hs (bR _ (bo _) (xl _)) (t:=t) (a.eval x) hx.cells
  refine .inl ⟨ρ',_,_,.inl ?_,h2,h3,h4⟩
  simp [execOp,aZ,Instr.box,h1]
 .rename_i t ps aZ
  simp only [cC,df] at an
  obtain ⟨r,hr,rfl,rfl⟩:=an
  obtain ⟨p1,p2⟩:=zpS he ps.toList (λx hx=>aC x (by simpa [aZ,Op.operands] using hx))
  obtain ⟨vc,h1,h2⟩:=zot (ρ:=ρ) hT p1 p2 hr w
  refine .still hs ?_ h2
  simp only [execOp,aZ,zfi,Sem.run_bind,h1,Result.andThen_ok,Sem.run_pure]
 .rename_i t n ps aZ
  obtain ⟨p1,p2⟩:=zpS he ps.toList (λx hx=>aC x (by simpa [aZ,Op.operands] using hx))
  obtain ⟨ρ',vc,w',h1,h2,h3,h4⟩:=zhA (ρ:=ρ) hT hs bR p1 p2 an
  refine .inl ⟨ρ',vc,w',.inl ?_,h2,h3,h4⟩
  simp only [execOp,aZ,zfi,Sem.run_bind,h1,Result.andThen_ok,Sem.run_pure]
 .rename_i t x aZ
  have hx:=he.operand (aC x (by simp [aZ,Op.operands]))
  simp only [cC,df] at an
  obtain ⟨r,hr,rfl,rfl⟩:=an
  obtain ⟨u,h1,h2⟩:=zgC hT hs hx hr
  exact .still hs (by simp [execOp,aZ,h1]) h2
 .rename_i t x y aZ
  have hx:=he.operand (aC x (by simp [aZ,Op.operands]))
  have hy:=he.operand (aC y (by simp [aZ,Op.operands]))
  simp only [cC,df] at an
  obtain ⟨h1,hr,rfl,rfl⟩:=an
  unfold iS at hr
  split at hr
  .rename_i A off Cd
   rw [Cd] at hx
   simp only [cH] at hr
   obtain ⟨n,hn,hr⟩:=hr
   split at hr
   .rename_i dS
    generalize vp:a.eval x=ax at hx
    cases hx with
    |ptr hA =>
     rename_i L
     obtain ⟨w',eZ,dC,dZ⟩:=Q8 (P:=P) hs hA hy.cells hr
     have lL:(a.eval y).cells.size=n:=by have:=hy.cells.1;simp at this;omega
     refine .inl ⟨ρ,undef,w',.inr ⟨?_,rfl⟩,dC,dZ,.undef ρ⟩
     simp [execOp,aZ,vp,Instr.storeAt,Instr.sureAddr,storeVar,vV hT hn,lL,eZ]
   .cases hr
  .cases hr
 .rename_i x aZ
  have hx:=he.operand (aC x (by simp [aZ,Op.operands]))
  split at an
  .rename_i ad Cd
   cases an
   rw [Cd] at hx
   generalize vp:a.eval x=ax at hx
   cases hx with
   |ptr hA=>exact .still hs (by simp [execOp,aZ,vp]) (.ptr hA)
  .rename_i f fi ca Cd
   cases an
   rw [Cd] at hx
   generalize vp:a.eval x=ax at hx
   cases hx with
   |func _ hf hc h1 h2=>exact .still hs (by simp [execOp,aZ,vp]) (.func _ hf hc h1 h2)
  .rename_i t z Cd
   cases an
   rw [Cd] at hx
   generalize vp:a.eval x=ax at hx
   cases hx with
   |iface _ h1=>exact .still hs (by simp [execOp,aZ,vp]) (.iface t h1)
  .cases an
 .rename_i op t x y yt aZ
  have hx:=he.operand (aC x (by simp [aZ,Op.operands]))
  have hy:=he.operand (aC y (by simp [aZ,Op.operands]))
  simp only [cC,df] at an
  obtain ⟨r,hr,rfl,rfl⟩:=an
  obtain ⟨vc,h1,h2⟩:=zua hT hx hy hr x y w
  refine .still hs ?_ h2
  simp only [execOp,aZ]
  rw [Sem.run_bind,h1]
  rfl
 .rename_i fn first captured aZ
  split at an
  .rename_i f
   cases an
   have h1:=he.operands first.toList (λx hx=>aC x (by simp [aZ,Op.operands];left;simpa using hx))
   have h2:=he.operands captured.toList (λx hx=>aC x (by simp [aZ,Op.operands];right;simpa using hx))
   refine .still (u:=.func (.func f) (first.map a.eval) (captured.map a.eval)) hs ?_ ?_
   .simp [execOp,aZ,Instr.makeFunc]
   .refine .func _ (by simp) (by simp) (λi x y hx hy=>h1.2 i x y ?_ ?_) (λi x y hx hy=>h2.2 i x y ?_ ?_)
    all_goals simp at hx hy ⊢;assumption
  .cases an
 .rename_i t l c aZ
  have hl:=he.operand (aC l (by simp [aZ,Op.operands]))
  have hc:=he.operand (aC c (by simp [aZ,Op.operands]))
  obtain ⟨ρ',vc,w',h1,h2,h3,h4⟩:=ziH hT hs bR hl hc an
  refine .inl ⟨ρ',vc,w',.inl ?_,h2,h3,h4⟩
  simp [execOp,aZ,h1]
 .rename_i t x l hi m aZ
  have hx:=he.operand (aC x (by simp [aZ,Op.operands]))
  have hl:=he.opt (x:=l) (λy hy=>aC y (by subst hy;simp [aZ,Op.operands]))
  have j5:=he.opt (x:=hi) (λy hy=>aC y (by subst hy;simp [aZ,Op.operands]))
  have hm:=he.opt (x:=m) (λy hy=>aC y (by subst hy;simp [aZ,Op.operands]))
  simp only [cC,df] at an
  obtain ⟨r,hr,rfl,rfl⟩:=an
  obtain ⟨vc,h1,h2⟩:=zqd hT hx hl j5 hm hr w
  exact .still hs (by simp [execOp,aZ,h1]) h2
 .rename_i s x f aZ
  have hx:=he.operand (aC x (by simp [aZ,Op.operands]))
  simp only [cC,df] at an
  obtain ⟨r,hr,rfl,rfl⟩:=an
  obtain ⟨vc,h1,h2⟩:=ziE hT hx hr w
  exact .still hs (by simp [execOp,aZ,h1]) h2
 .rename_i t x f aZ
  have hx:=he.operand (aC x (by simp [aZ,Op.operands]))
  simp only [cC,df] at an
  obtain ⟨r,hr,rfl,rfl⟩:=an
  obtain ⟨vc,h1,h2⟩:=zo2 hT hx hr w
  exact .still hs (by simp [execOp,aZ,h1]) h2
 .rename_i t x i aZ
  have hx:=he.operand (aC x (by simp [aZ,Op.operands]))
  have hi:=he.operand (aC i (by simp [aZ,Op.operands]))
  simp only [cC,df] at an
  obtain ⟨r,hr,rfl,rfl⟩:=an
  obtain ⟨vc,h1,h2⟩:=ziF hT hx hi hr w
  exact .still hs (by simp [execOp,aZ,h1]) h2
 .rename_i t i aZ
  have ht:=he.operand (aC t (by simp [aZ,Op.operands]))
  split at an
  .rename_i vs hte
   rw [hte] at ht
   simp only [cC,df] at an
   obtain ⟨r,hr,rfl,rfl⟩:=an
   generalize mf:a.eval t=at_ at ht
   cases ht with
   |tuple hc hh =>
    rename_i ds
    have aP:i < vs.size:=(mY.1 hr).1
    have hd:ds[i]? = some (ds[i]'(by omega)):=HO _
    exact .still hs (by simp [execOp,aZ,mf,Instr.extract,hd]) (hh i _ _ hr hd)
  .cases an
 .rename_i op t x aZ
  refine Q6 hs he dU an (λheq=>?_)
  have:=heq x (by simp [aZ,Op.operands])
  simp [execOp,aZ,this]
 .rename_i s t x aZ
  split at an
  .have hx:=he.operand (aC x (by simp [aZ,Op.operands]))
   simp only [cC,df] at an
   obtain ⟨r,hr,rfl,rfl⟩:=an
   obtain ⟨u,h1,h2⟩:=zkD hT hs hx hr
   exact .still hs (by simp [execOp,aZ,h1]) h2
  .split at an
   .split at an
    .rename_i Zm
     have hx:=he.operand (aC x (by simp [aZ,Op.operands]))
     obtain ⟨ρ',u,w',r1,r2,r3,r4⟩:=zkK hT hs bR Zm hx an
     exact .inl ⟨ρ',u,w',.inl (by simp [execOp,aZ,r1]),r2,r3,r4⟩
    .cases an
   .refine Q6 hs he dU an (λheq=>?_)
    have:=heq x (by simp [aZ,Op.operands])
    simp [execOp,aZ,this]
 .rename_i t x i aZ
  refine Q6 hs he dU an (λheq=>?_)
  have h1:=heq x (by simp [aZ,Op.operands])
  have h2:=heq i (by simp [aZ,Op.operands])
  simp [execOp,aZ,h1,h2]
 .rename_i c aZ
  obtain ⟨callee,args,argTypes⟩:=c
  have eM:∀ x∈args.toList,uj ρ x:=λx hx=>aC x (by simp [aZ,Op.operands,Call.operands];right;simpa using hx)
  dsimp only at an
  split at an
  .split at an
   .rename_i t u s x vI lr
    have e1:argTypes=#[t,u]:=by apply Array.ext';simpa using vI
    have e2:args=#[s,x]:=by apply Array.ext';simpa using lr
    subst e1 e2
    have h1:=he.operand (eM s (by simp))
    have h2:=he.operand (eM x (by simp))
    split at an
    .rename_i hu
     have Od:SH P u:=by
      unfold rW at hu
      simp only [qt,beq_iff_eq] at hu
      rcases hu with rfl|hu
      .have h4:=an
       unfold iP at h4
       split at h4
       .rename_i e' hd;exact .inl ⟨_,hT.desc _ _ hd⟩
       .cases h4
      .split at hu
       .rename_i hd;exact .inr (hT.desc _ _ hd)
       .rename_i e' hd;exact .inl ⟨_,hT.desc _ _ hd⟩
       .cases hu
     obtain ⟨ρ',vc,w',r1,r2,r3,r4⟩:=zgO (ty:=o.type) hT hs bR Od h1 h2 an
     refine .inl ⟨ρ',vc,w',.inl ?_,r2,r3,r4⟩
     simp [execOp,aZ,resolve,invoke,builtin,r1]
    .cases an
   .cases an
  .split at an
   .rename_i t u d s vI lr
    have e1:argTypes=#[t,u]:=by apply Array.ext';simpa using vI
    have e2:args=#[d,s]:=by apply Array.ext';simpa using lr
    subst e1 e2
    have h1:=he.operand (eM d (by simp))
    have h2:=he.operand (eM s (by simp))
    obtain ⟨vc,w',r1,r2,r3,r4⟩:=zri (u:=u) (ty:=o.type) hT hs h1 h2 an
    refine .inl ⟨ρ,vc,w',.inl ?_,r2,r3,r4⟩
    simp [execOp,aZ,resolve,invoke,builtin,r1]
   .cases an
  .split at an
   .rename_i t x vI lr
    have e1:argTypes=#[t]:=by apply Array.ext';simpa using vI
    have e2:args=#[x]:=by apply Array.ext';simpa using lr
    subst e1 e2
    have h1:=he.operand (eM x (by simp))
    simp only [cC,df] at an
    obtain ⟨h2,hr,rfl,rfl⟩:=an
    obtain ⟨w',r1,r2,r3⟩:=zoC (ty:=o.type) hT hs h1 hr
    refine .inl ⟨ρ,undef,w',.inl ?_,r2,r3,.undef ρ⟩
    simp [execOp,aZ,resolve,invoke,builtin,r1]
   .cases an
  .split at an
   .rename_i t ts x vI lr
    have e2:args=#[x]:=by apply Array.ext';simpa using lr
    have e1:argTypes=(t::ts).toArray:=by apply Array.ext';simpa using vI
    subst e1 e2
    have h1:=he.operand (eM x (by simp))
    simp only [cC,df] at an
    obtain ⟨r,hr,rfl,rfl⟩:=an
    obtain ⟨vc,r1,r2⟩:=zuK (ty:=o.type) hT hs h1 hr ts
    refine .still hs ?_ r2
    simp [execOp,aZ,resolve,invoke,builtin,r1]
   .cases an
  .refine Q6 hs he dU an (λheq=>?_)
   have hm:args.map a.eval=args.map (bz e):=by
    apply Array.map_congr_left
    intro x hx
    exact heq x (by simp [aZ,Op.operands,Call.operands];exact hx)
   simp [execOp,aZ,resolve,hm]
  .refine Q6 hs he dU an (λheq=>?_)
   have hm:args.map a.eval=args.map (bz e):=by
    apply Array.map_congr_left
    intro x hx
    exact heq x (by simp [aZ,Op.operands,Call.operands];exact hx)
   simp [execOp,aZ,resolve,hm]
  .split at an
   .rename_i t ts m k vI lr
    have e2:args=#[m,k]:=by apply Array.ext';simpa using lr
    have e1:argTypes=(t::ts).toArray:=by apply Array.ext';simpa using vI
    subst e1 e2
    have h1:=he.operand (eM m (by simp))
    have h2:=he.operand (eM k (by simp))
    simp only [cC,df] at an
    obtain ⟨h3,hr,rfl,rfl⟩:=an
    obtain ⟨w',r1,r2,r3⟩:=zmG (ty:=o.type) (ts:=ts) hT hs h1 h2 hr
    refine .inl ⟨ρ,undef,w',.inl ?_,r2,r3,.undef ρ⟩
    simp [execOp,aZ,resolve,invoke,builtin,r1,undef]
   .cases an
  .split at an
   .rename_i t ts x vI lr
    have e2:args=#[x]:=by apply Array.ext';simpa using lr
    have e1:argTypes=(t::ts).toArray:=by apply Array.ext';simpa using vI
    subst e1 e2
    have h1:=he.operand (eM x (by simp))
    simp only [cC,df] at an
    obtain ⟨r,hr,rfl,rfl⟩:=an
    obtain ⟨vc,r1,r2⟩:=zuf (ty:=o.type) hT h1 hr ts w
    refine .still hs ?_ r2
    simp [execOp,aZ,resolve,invoke,builtin,r1]
   .cases an
  .rename_i rv name
   have Zg:=he.operand (aC rv (by simp [aZ,Op.operands,Call.operands]))
   split at an
   .rename_i t x hre
    rw [hre] at Zg
    generalize Dz:a.eval rv=ar at Zg
    simp only [cH,Prod.exists] at an
    obtain ⟨f,y,hm,an⟩:=an
    cases Zg with
    |iface _ hx =>
     rename_i x'
     obtain ⟨y',r1,r2⟩:=zm1 hT hs hx hm (P.types.size+Made.depth - 1)
     have hd:P.types.size+Made.depth - 1+1=P.types.size+Made.depth:=by simp [Made.depth]
     rw [hd] at r1
     have dn:=he.operands args.toList eM
     have yj:(execOp a.eval o).run P w=(callFunc f (#[y']++args.map a.eval)).run P w:=by
      have h0:(#[Value.iface t x']++Array.map a.eval args)[0]? = some (.iface t x'):=by rw [Array.getElem?_append_left (by simp)];rfl
      have NY:(program:Sem Program).run P w=.ok P w:=rfl
      have hex:(#[Value.iface t x']++Array.map a.eval args).extract 1 (#[Value.iface t x']++Array.map a.eval args).size=Array.map a.eval args:=by
       rw [Array.extract_append]
       simp
      simp only [execOp,aZ,resolve,Sem.run_bind,Sem.run_pure,Result.andThen_ok,invoke,Dz,h0,callMethod,NY,r1,hex]
     have iK:=hC.fn f _ h v h' an ρ w (#[y']++args.map a.eval) hG hs bR (by
      have:=cB.cons r2 dn
      simpa using this)
     rw [yj]
     rcases iK with ⟨ρ',u,w',q1,q2,q3,q4⟩|⟨q1,q2⟩
     .exact .inl ⟨ρ',u,w',.inl q1,q2,q3,q4⟩
     .exact .inr (.inl ⟨f,_,q1,q2⟩)
   .cases an
  .rename_i f
   have hf:=he.operand (aC f (by simp [aZ,Op.operands,Call.operands]))
   split at an
   .rename_i g first captured BK
    rw [BK] at hf
    generalize X8:a.eval f=af at hf
    cases hf with
    |func _ h1 h2 h3 h4 =>
     rename_i gP dQ
     have qF:cB ρ first.toList gP.toList:=⟨by simpa using h1,λi x y hx hy=>h3 i x y (by simpa using hx) (by simpa using hy)⟩
     have rF:cB ρ captured.toList dQ.toList:=⟨by simpa using h2,λi x y hx hy=>h4 i x y (by simpa using hx) (by simpa using hy)⟩
     have dn:=he.operands args.toList eM
     have iK:=hC.fn g _ h v h' an ρ w ((gP++args.map a.eval)++dQ) hG hs bR (by
      have:=(qF.append dn).append rF
      simpa using this)
     have yj:(execOp a.eval o).run P w=(callFunc g ((gP++args.map a.eval)++dQ)).run P w:=by
      simp [execOp,aZ,resolve,X8,Deferred.ofValue,invoke]
     rw [yj]
     rcases iK with ⟨ρ',u,w',r1,r2,r3,r4⟩|⟨r1,r2⟩
     .exact .inl ⟨ρ',u,w',.inl r1,r2,r3,r4⟩
     .exact .inr (.inl ⟨g,_,r1,r2⟩)
   .rename_i A first captured BK
    rw [BK] at hf
    generalize X8:a.eval f=af at hf
    split at an
    .cases hf with
     |yield hA =>
      rename_i L _
      have dn:=he.operands args.toList eM
      obtain ⟨g,tmps,assign,body,r1,r2⟩:=hC.yield A _ h v h' an ρ w (args.map a.eval) L hA hG hs bR (by simpa using dn)
      refine .inr (.inr ⟨L.b,g,tmps,assign,body,?_,r2⟩)
      rw [<- r1]
      simp [execOp,aZ,resolve,X8,Deferred.ofValue,invoke]
    .cases an
   .cases an
  .cases an
 .rename_i t r aZ
  have hU:∃ ρ',Fr ρ ρ' h (h.push (.map [] 0)) w (w.alloc (.map #[] 0))/\bT ρ' (h.push (.map [] 0)) (w.alloc (.map #[] 0))/\VR ρ' (.map (some h.size)) (.map (some w.heap.size))\/¬ (ρ h.size=none):=by
   by_cases hn:ρ h.size=none
   .obtain ⟨ρ',h1,h2,h3⟩:=T6 (W:=w.alloc (.map #[] 0)) (L:=⟨w.heap.size,0,0⟩) (b:=.map [] 0) hs hn (λk hk=>by rw [Am.World.bU,xi,az (by omega)]) (by rw [Am.World.bU];simp) rfl rfl rfl (bo _)
     (λρ' _=>⟨#[],by rw [Am.World.bU];simp,rfl,by intro i x y hx;simp at hx⟩)
    exact ⟨ρ',.inl ⟨h2,h3,.map h1⟩⟩
   .exact ⟨ρ,.inr hn⟩
  split at an
  .cases an
   obtain ⟨ρ',⟨h2,h3,h4⟩|hn⟩:=hU
   .exact .inl ⟨ρ',_,_,.inl (by simp [execOp,aZ,Instr.makeMap]),h2,h3,h4⟩
   .exact (hn (bR _ (bo _) (xl _))).elim
  .rename_i x
   have hx:=he.operand (aC x (by simp [aZ,Op.operands]))
   split at an
   .rename_i hd Cd
    cases an
    rw [Cd] at hx
    generalize vp:a.eval x=ax at hx
    cases hx
    obtain ⟨ρ',⟨h2,h3,h4⟩|hn⟩:=hU
    .refine .inl ⟨ρ',_,_,.inl ?_,h2,h3,h4⟩
     simp [execOp,aZ,Instr.makeMap,vp,run_underlying (hT.desc _ _ hd),asInt,asIntOf]
    .exact (hn (bR _ (bo _) (xl _))).elim
   .cases an
 .rename_i t x k ok aZ
  have hx:=he.operand (aC x (by simp [aZ,Op.operands]))
  have hk:=he.operand (aC k (by simp [aZ,Op.operands]))
  simp only [cC,df] at an
  obtain ⟨r,hr,rfl,rfl⟩:=an
  obtain ⟨u,h1,h2⟩:=zmZ hT hs hx hk hr
  exact .still hs (by simp [execOp,aZ,h1]) h2
 .rename_i t m k x aZ
  have hm:=he.operand (aC m (by simp [aZ,Op.operands]))
  have hk:=he.operand (aC k (by simp [aZ,Op.operands]))
  have hx:=he.operand (aC x (by simp [aZ,Op.operands]))
  simp only [cC,df] at an
  obtain ⟨h1,hr,rfl,rfl⟩:=an
  obtain ⟨w',r1,r2,r3⟩:=zhs hT hs hm hk hx hr
  exact .inl ⟨ρ,undef,w',.inr ⟨by simp [execOp,aZ,r1],rfl⟩,r2,r3,.undef ρ⟩
 .rename_i t m k x aZ
  have hm:=he.operand (aC m (by simp [aZ,Op.operands]))
  have hk:=he.operand (aC k (by simp [aZ,Op.operands]))
  have hx:=he.operand (aC x (by simp [aZ,Op.operands]))
  simp only [cC,df] at an
  obtain ⟨h1,hr,rfl,rfl⟩:=an
  obtain ⟨w',r1,r2,r3⟩:=zhs hT hs hm hk hx hr
  exact .inl ⟨ρ,undef,w',.inr ⟨by simp [execOp,aZ,r1],rfl⟩,r2,r3,.undef ρ⟩
 .rename_i t m k aZ
  have hm:=he.operand (aC m (by simp [aZ,Op.operands]))
  have hk:=he.operand (aC k (by simp [aZ,Op.operands]))
  obtain ⟨u,w',r1,r2,r3,r4⟩:=zoS hT hs hm hk an
  exact .inl ⟨ρ,u,w',.inl (by simp [execOp,aZ,r1]),r2,r3,r4⟩
 .rename_i t m k x aZ
  have hm:=he.operand (aC m (by simp [aZ,Op.operands]))
  have hk:=he.operand (aC k (by simp [aZ,Op.operands]))
  have hx:=he.operand (aC x (by simp [aZ,Op.operands]))
  simp only [cC,df] at an
  obtain ⟨h1,hr,rfl,rfl⟩:=an
  obtain ⟨w',r1,r2,r3⟩:=zhI (P:=P) (t:=t) hs hm hk hx hr
  exact .inl ⟨ρ,undef,w',.inr ⟨by simp [execOp,aZ,r1],rfl⟩,r2,r3,.undef ρ⟩
 .rename_i t x aZ
  have hx:=he.operand (aC x (by simp [aZ,Op.operands]))
  simp only [cC,df] at an
  obtain ⟨r,hr,rfl,rfl⟩:=an
  obtain ⟨u,h1,h2⟩:=zo9 hT hx hr w
  exact .still hs (by simp [execOp,aZ,h1]) h2
 .rename_i x xt t ok aZ
  have hx:=he.operand (aC x (by simp [aZ,Op.operands]))
  simp only [cC,df] at an
  obtain ⟨r,hr,rfl,rfl⟩:=an
  obtain ⟨u,h1,h2⟩:=zmo (xt:=xt) hT hx hr w
  exact .still hs (by simp [execOp,aZ,h1]) h2
 .cases an
end
end Go.Am
namespace Go.Am
open Go.RowKit
variable {k v x:ae} {o:Oper} {e:Env} {C:Fn->List ae->Heap->Option (ae × Heap)} {tmps:Array ae} {t:TypeId} {c:Code}

section
variable {P:Program} {T:bL} {ρ:cI} {h h':Heap} {w:World}

def WR (rl:Option Nat):Fence:={ Fence.wide with round:=rl }
theorem zlm {rl:Option Nat} {n:Nat} {f:FuncId} {args:Array ae} {R:Ending->World->Prop} (hc:Calls P f args w R):CallsIn (WR rl) n P f args w R :=
 (callsIn_wide (n:=n)).2 hc

theorem Ik.wp {a:Act} (hr:Ik P ρ h h' w v ((execOp a.eval o).run P w)) (i6:∀ c,o.op≠.defer c) {K:Act->World->Prop} {Q:Exit->Act->World->Prop} {rl:Option Nat}
 (hK:∀ ρ' u w',Fr ρ ρ' h h' w w'->bT ρ' h' w'->VR ρ' v u->K (a.put o.dst u) w'):o.wpIn (WR rl) 0 P a w K Q:=by
 unfold Oper.wpIn
 refine ⟨λ_ _=>trivial,?_⟩
 rw [Oper.semAt_eq _ _ _ i6]
 rcases hr with ⟨ρ',u,w',h1,h2,h3,h4⟩|⟨f,aL,h1,h2⟩|⟨l,f,tmps,assign,body,h1,h2⟩
 .rcases h1 with h1|⟨h1,rfl⟩
  .rw [h1];exact hK ρ' u w' h2 h3 h4
  .rw [h1];exact hK ρ' undef w' h2 h3 h4
 .rw [h1]
  refine ⟨(λhh=>by cases hh),zlm (h2.mono ?_)⟩
  rintro ed w' ⟨ρ',u,rfl,h3,h4,h5⟩
  exact hK ρ' u w' h3 h4 h5
 .rw [h1]
  refine ⟨(λhh=>by cases hh),RoundIn.mono h2 ?_⟩
  rintro ed w' ⟨ρ',u,rfl,h3,h4,h5⟩
  exact hK ρ' u w' h3 h4 h5

theorem I7 (an:jc P T C e o h=some (v,h')):∀ c,o.op≠.defer c:=by
 intro c hc
 simp [jc,hc] at an

theorem zqy {ops:Array Oper} (he:cA ρ e tmps):Region.wanted o (yielded ops tmps)=nP ops o e:=by
 unfold Region.wanted nP
 cases o.guard with
 |none=>rfl
 |some g =>
  obtain ⟨j,b⟩:=g
  simp only [yielded]
  cases (ops[j]?).bind (·.dst) with
  |none=>simp
  |some t =>
   simp only [dX]
   have hv:=he.2 t
   cases ht:tmps[t]? with
   |none =>
    have hlen:tmps.size<=t:=by
     rcases mq t tmps.size with aP|lq
     .rw [HO aP] at ht;cases ht
     .exact lq
    rw [Env.oY e t (by rw [he.1];exact hlen)]
    rfl
   |some u =>
    have hu:tmps.getD t undef=u:=by simp [ht]
    rw [hu] at hv
    generalize e.get t=x at hv
    cases hv <;> first|rfl|(cases b <;> rename_i c <;> cases c <;> rfl)

structure bA (h h':Heap):Prop where
 size:h.size<=h'.size
 low:h'.low<=h.low
 get:∀ A,A < h.size->A < h'.low->h'.get A=h.get A

theorem bA.refl (h:Heap):bA h h:=⟨bo _,bo _,λ_ _ _=>rfl⟩
theorem bA.trans {h h1 h2:Heap} (a:bA h h1) (b:bA h1 h2):bA h h2 :=
 ⟨il a.size b.size,il b.low a.low,λA h3 h4=>(b.get A (eW h3 a.size) h4).trans (a.get A h3 (eW h4 b.low))⟩
theorem bA.push (h:Heap) (b:bh):bA h (h.push b):=⟨EZ _,bo _,λA h3 _=>by rw [Heap.bx,az (by omega)]⟩
theorem bA.set {h:Heap} {A:Nat} (b:bh) (hA:A < h.size):bA h (h.set A b) :=
 ⟨bo _,zN _ _,λA' _ h4=>by rw [Heap.bX] at h4;rw [Heap.aR _ _ _ _ hA,az (by omega)]⟩

theorem Jd {A o:Nat} {vs:List ae} (hw:kH A o vs h=some h'):bA h h':=by
 unfold kH at hw
 split at hw
 .rename_i hg
  split at hw
  .cases hw;exact .set _ (Heap.bF hg)
  .cases hw
 .cases hw

theorem zgN {s:ae} (ha:iP T t s x h=some (v,h')):bA h h':=by
 unfold iP at ha
 split at ha
 .simp only [cH,Prod.exists] at ha
  obtain ⟨k,wy,z,_,m,news,_,ha⟩:=ha
  split at ha
  .split at ha
   .cases ha;exact .refl _
   .split at ha
    .cases ha
    .split at ha
     .split at ha
      .split at ha
       .simp only [cC,df] at ha
        obtain ⟨h1,hw,_,rfl⟩:=ha
        exact Jd hw
       .cases ha
      .cases ha
     .simp only [cH] at ha
      obtain ⟨eT,_,ha⟩:=ha
      split at ha
      .cases ha;exact .push _ _
      .split at ha
       .split at ha
        .rename_i hg
         split at ha
         .cases ha;exact (bA.set _ (Heap.bF hg)).trans (.push _ _)
         .cases ha
        .cases ha
       .cases ha
  .cases ha
 .cases ha

theorem zhr (hr:rT T t x k v h=some h'):bA h h':=by
 unfold rT at hr
 split at hr
 .split at hr
  .rename_i hg
   split at hr
   .simp only [cH] at hr
    obtain ⟨r,_,hr⟩:=hr
    split at hr
    .simp only [cH] at hr
     obtain ⟨e,_,hr⟩:=hr
     split at hr
     .cases hr;exact .set _ (Heap.bF hg)
     .cases hr
    .cases hr;exact .set _ (Heap.bF hg)
   .cases hr
  .cases hr
 .cases hr

theorem zkJ {d:TypeId} (hr:Jx T d x h=some (v,h')):bA h h':=by
 unfold Jx at hr
 split at hr
 .split at hr
  .split at hr
   .cases hr
   .cases hr;exact .push _ _
  .cases hr
 .cases hr
theorem zoR (hr:EH T t x k h=some (v,h')):bA h h':=by
 unfold EH at hr
 split at hr
 .split at hr
  .rename_i hg
   split at hr
   .simp only [cH] at hr
    obtain ⟨r,_,hr⟩:=hr
    split at hr
    .simp only [cH] at hr
     obtain ⟨e,_,hr⟩:=hr
     split at hr
     .cases hr;exact .set _ (Heap.bF hg)
     .cases hr
    .simp only [cC,df] at hr
     obtain ⟨z,_,_,rfl⟩:=hr
     exact .set _ (Heap.bF hg)
   .cases hr
  .cases hr
 .cases hr
theorem zhH {s:ae} (hr:zm x s v h=some h'):bA h h':=by
 unfold zm at hr
 split at hr
 .split at hr
  .rename_i hg
   simp only [cC] at hr
   obtain ⟨i,_,rfl⟩:=hr
   exact .set _ (Heap.bF hg)
  .cases hr
 .cases hr

theorem zmF (hr:AA T t x k h=some h'):bA h h':=by
 unfold AA at hr
 split at hr
 .split at hr
  .cases hr;exact .refl _
  .cases hr
 .split at hr
  .rename_i hg
   split at hr
   .simp only [cH] at hr
    obtain ⟨r,_,hr⟩:=hr
    split at hr
    .cases hr;exact .set _ (Heap.bF hg)
    .cases hr;exact .set _ (Heap.bF hg)
   .cases hr
  .cases hr
 .cases hr

def uT (C:Fn->List ae->Heap->Option (ae × Heap)):Prop:=∀ f args h v h',C f args h=some (v,h')->bA h h'

theorem Hs (hC:uT C) (an:jc P T C e o h=some (v,h')):bA h h':=by
 have cS:∀ {r:Option ae},(r.map λx=>(x,h))=some (v,h')->bA h h':=by
  intro r hr
  simp only [cC,df] at hr
  obtain ⟨_,_,_,rfl⟩:=hr
  exact .refl _
 have eg:ic P e o h=some (v,h')->bA h h':=by
  intro hp
  unfold ic at hp
  split at hp
  .split at hp
   .split at hp
    .cases hp;exact .refl _
    .cases hp
   .cases hp
  .cases hp
 unfold jc at an
 dsimp only at an
 split at an
 .cases an;exact .refl _
 .cases an;exact .refl _
 .split at an
  .cases an;exact .refl _
  .cases an
 .simp only [cC,Prod.exists] at an
  obtain ⟨_,_,z,_,an⟩:=an
  have e2:=congrArg Prod.snd an
  simp only at e2
  subst e2
  exact .push _ _
 .simp only [dY] at an
  have e2:=congrArg Prod.snd an
  simp only at e2
  subst e2
  exact .push _ _
 .exact cS an
 .unfold zl at an
  split at an
  .simp only [cH,Prod.exists] at an
   obtain ⟨_,_,_,_,an⟩:=an
   split at an
   .cases an
   .simp only [cC,df] at an
    obtain ⟨_,_,_,rfl⟩:=an
    exact .push _ _
  .cases an
 .exact cS an
 .simp only [cC,df] at an
  obtain ⟨h1,hr,_,rfl⟩:=an
  unfold iS at hr
  split at hr
  .simp only [cH] at hr
   obtain ⟨_,_,hr⟩:=hr
   split at hr
   .exact Jd hr
   .cases hr
  .cases hr
 .split at an
  .cases an;exact .refl _
  .cases an;exact .refl _
  .cases an;exact .refl _
  .cases an
 .exact cS an
 .split at an
  .cases an;exact .refl _
  .cases an
 .unfold Rb at an
  split at an
  .simp only [cH,Prod.exists] at an
   obtain ⟨_,_,_,_,an⟩:=an
   split at an
   .cases an;exact .push _ _
   .cases an
  .cases an
 .exact cS an
 .exact cS an
 .exact cS an
 .exact cS an
 .split at an
  .exact cS an
  .cases an
 .exact eg an
 .split at an
  .exact cS an
  .split at an
   .split at an
    .exact zkJ an
    .cases an
   .exact eg an
 .exact eg an
 .split at an
  .split at an
   .split at an
    .exact zgN an
    .cases an
   .cases an
  .split at an
   .unfold SD at an
    split at an
    .simp only [cH,Prod.exists] at an
     obtain ⟨_,_,_,_,_,an⟩:=an
     split at an
     .cases an;exact .refl _
     .split at an
      .simp only [cC,df] at an
       obtain ⟨h1,hw,_,rfl⟩:=an
       exact Jd hw
      .cases an
    .cases an
   .cases an
  .split at an
   .simp only [cC,df] at an
    obtain ⟨h1,hr,_,rfl⟩:=an
    unfold rV at hr
    split at hr
    .split at hr
     .cases hr;exact .refl _
     .simp only [cH,Prod.exists] at hr
      obtain ⟨_,_,_,_,hr⟩:=hr
      split at hr
      .exact Jd hr
      .cases hr
    .cases hr
   .cases an
  .split at an
   .exact cS an
   .cases an
  .exact eg an
  .exact eg an
  .split at an
   .simp only [cC,df] at an
    obtain ⟨h1,hr,_,rfl⟩:=an
    exact zmF hr
   .cases an
  .split at an
   .exact cS an
   .cases an
  .split at an
   .simp only [cH,Prod.exists] at an
    obtain ⟨_,_,_,an⟩:=an
    exact hC _ _ _ _ _ an
   .cases an
  .split at an
   .exact hC _ _ _ _ _ an
   .split at an
    .exact hC _ _ _ _ _ an
    .cases an
   .cases an
  .cases an
 .split at an
  .cases an;exact .push _ _
  .split at an
   .cases an;exact .push _ _
   .cases an
 .exact cS an
 .simp only [cC,df] at an
  obtain ⟨h1,hr,_,rfl⟩:=an
  exact zhr hr
 .simp only [cC,df] at an
  obtain ⟨h1,hr,_,rfl⟩:=an
  exact zhr hr
 .exact zoR an
 .simp only [cC,df] at an
  obtain ⟨h1,hr,_,rfl⟩:=an
  exact zhH hr
 .exact cS an
 .exact cS an
 .cases an

theorem T3 {C:Fn->List ae->Heap->Option (ae × Heap)} (hC:uT C) {ops:Array Oper}:∀ (l:List Oper) (e e':Env) (h h':Heap),tU P T C ops l e h=some (e',h')->bA h h'
 | [],e,e',h,h',an=>by simp only [tU,dY,df] at an;obtain ⟨_,rfl⟩:=an;exact .refl _
 |o::l,e,e',h,h',an=>by
  simp only [tU] at an
  split at an
  .split at an
   .rename_i v h1 h2
    exact (Hs hC h2).trans (T3 hC l _ _ _ _ an)
   .cases an
  .exact T3 hC l _ _ _ _ an

theorem zeS (hT:T.Fits P) {C:Fn->List ae->Heap->Option (ae × Heap)} {gs:List Nat} (hC:CS P gs C) (hg:uT C) {ops:Array Oper} {Q:Exit->Act->World->Prop} {rl:Option Nat} {dd:List Deferred} :
 ∀ (l:List Oper) (e e':Env) (h h':Heap) (ρ:cI) (a:Act) (w:World),tU P T C ops l e h=some (e',h')->(∀ o∈l,lE ρ o)->dt gs ρ->bT ρ h w->fO ρ h h'->cA ρ e a.tmps->a.defers=dd ->
   (∀ ρ' a' w',Fr ρ ρ' h h' w w'->bT ρ' h' w'->cA ρ' e' a'.tmps->a'.defers=dd->Q .normal a' w')->wpListIn (WR rl) 0 P ops Q l a w
 | [],e,e',h,h',ρ,a,w,an,_,_,hs,_,he,hd,hQ=>by
  simp only [tU,dY,df] at an
  obtain ⟨rfl,rfl⟩:=an
  exact hQ ρ a w (Fr.refl _ _ _) hs he hd
 |o::l,e,e',h,h',ρ,a,w,an,dU,hG,hs,hf,he,hd,hQ=>by
  have Y6:=dU o (by simp)
  have NS:∀ q∈l,lE ρ q:=λq hq=>dU q (by simp [hq])
  simp only [tU] at an
  unfold wpListIn
  rw [zqy he]
  split at an
  .rename_i hw
   rw [aE hw]
   split at an
   .rename_i v h1 h2
    have dS:=(T3 hg l _ _ _ _ an).size
    refine (Jb hT hC hG hs he Y6 (hf.left dS) h2).wp (I7 h2) λρ1 u w1 f1 s1 v1=>?_
    refine zeS hT hC hg l _ _ _ _ ρ1 _ w1 an (λq hq=>(NS q hq).mono f1.grow) (hG.mono f1.grow) s1 (hf.right f1) ((he.mono f1.grow).put v1 o.dst) (by cases o.dst <;> exact hd) ?_
    intro ρ2 a2 w2 f2 s2 e2 d2
    exact hQ ρ2 a2 w2 (f1.trans f2) s2 e2 d2
   .cases an
  .rename_i hw
   rw [az hw]
   refine ⟨λ_ _=>trivial,?_⟩
   exact zeS hT hC hg l _ _ _ _ ρ _ w an NS hG hs hf (he.put (.undef ρ) o.dst) (by cases o.dst <;> exact hd) hQ

def Ex.to:Ex->Exit
 | .normal=>.normal
 | .exit id=>.exit id
 | .ret=>.ret

def DS (P:Program) (gs:List Nat) (D:Array Oper->Env->Heap->Option (Env × Heap)):Prop :=
 ∀ (rl:Option Nat) (id:Nat) (ops:Array Oper) (e e':Env) (h h':Heap) (ρ:cI) (a:Act) (w:World) (Q:Exit->Act->World->Prop),D ops e h=some (e',h')->(∀ o∈ops.toList,lE ρ o)->dt gs ρ->bT ρ h w->fO ρ h h'->cA ρ e a.tmps ->
   (∀ ρ' a' w',Fr ρ ρ' h h' w w'->bT ρ' h' w'->cA ρ' e' a'.tmps->a'.defers=a.defers->Q .normal a' w')->(Code.region id ops true).wpIn (WR rl) 0 P Q a w
def zwj (D:Array Oper->Env->Heap->Option (Env × Heap)):Prop:=∀ ops e h e' h',D ops e h=some (e',h')->bA h h'

theorem zhM {f:Env->Heap->Option (Ex × Env × Heap)} (hf:∀ e h x e' h',f e h=some (x,e',h')->bA h h'):∀ (n:Nat) (e:Env) (h:Heap) (x:Ex) (e':Env) (h':Heap),iter f n e h=some (x,e',h')->bA h h'
 |0,_,_,_,_,_,hi=>by simp [iter] at hi
 |n+1,e,h,x,e',h',hi=>by
  simp only [iter] at hi
  split at hi
  .rename_i e1 h1 h2
   exact (hf _ _ _ _ _ h2).trans (zhM hf n _ _ _ _ _ hi)
  .exact hf _ _ _ _ _ hi

theorem zfn {l:Nat} {e':Env} {x:Ex} (an:Et l e h=some (x,e',h')):bA h h':=by
 unfold Et at an
 split at an
 .rename_i hg
  split at an
  .cases an
  .split at an
   .cases an;exact .set _ (Heap.bF hg)
   .cases an;exact .set _ (Heap.bF hg)
   .cases an;exact .set _ (Heap.bF hg)
   .cases an
 .cases an
theorem zpX (hC:uT C) {rd:Option Nat} {g:ae} {ps:List Tmp} {assign body:Code} {e':Env} {x:Ex} (an:JO T C rd g ps assign body e h=some (x,e',h')):bA h h':=by
 unfold JO at an
 split at an
 .split at an
  .split at an
   .rename_i hc
    exact ((bA.push _ _).trans (hC _ _ _ _ _ hc)).trans (zfn an)
   .cases an
  .cases an
 .cases an

theorem Hn {D:Array Oper->Env->Heap->Option (Env × Heap)} (hC:uT C) (hD:zwj D) (rd:Option Nat) (fuel:Nat):∀ (c:Code) (e:Env) (h:Heap) (x:Ex) (e':Env) (h':Heap),en P T C D rd fuel c e h=some (x,e',h')->bA h h':=by
 intro c
 induction c with
 |skip=>intro e h x e' h' an;simp only [en,dY,df] at an;obtain ⟨_,_,rfl⟩:=an;exact .refl _
 |region id ops d =>
  intro e h x e' h' an
  simp only [en,cC,Prod.exists,df] at an
  obtain ⟨e1,h1,hr,_,rfl,rfl⟩:=an
  split at hr
  .exact hD _ _ _ _ _ hr
  .exact T3 hC _ _ _ _ _ hr
 |seq a b jU jV =>
  intro e h x e' h' an
  simp only [en] at an
  split at an
  .rename_i e1 h1 h2
   exact (jU _ _ _ _ _ h2).trans (jV _ _ _ _ _ an)
  .exact jU _ _ _ _ _ an
 |cond c a b jU jV =>
  intro e h x e' h' an
  simp only [en] at an
  split at an
  .exact jU _ _ _ _ _ an
  .exact jV _ _ _ _ _ an
  .cases an
 |block id c ih =>
  intro e h x e' h' an
  simp only [en] at an
  split at an
  .rename_i i e1 h1 h2
   have:=ih _ _ _ _ _ h2
   split at an <;> (simp only [dY,df] at an;obtain ⟨_,_,rfl⟩:=an;exact this)
  .exact ih _ _ _ _ _ an
 |loop c ih=>intro e h x e' h' an;simp only [en] at an;exact zhM ih _ _ _ _ _ _ an
 |exit id=>intro e h x e' h' an;simp only [en,dY,df] at an;obtain ⟨_,_,rfl⟩:=an;exact .refl _
 |ret=>intro e h x e' h' an;simp only [en,dY,df] at an;obtain ⟨_,_,rfl⟩:=an;exact .refl _
 |label l=>intro e h x e' h' an;simp only [en,dY,df] at an;obtain ⟨_,_,rfl⟩:=an;exact .refl _
 |rangeFunc f ps a b _ _=>intro e h x e' h' an;exact zpX hC an
 |scope c ih=>intro e h x e' h' an;exact ih _ _ _ _ _ an
 |goto l=>intro e h x e' h' an;simp [en] at an
 |refuse s=>intro e h x e' h' an;simp [en] at an

def nO:Code->Bool
 | .seq a b=>nO a && nO b
 | .cond _ a b=>nO a && nO b
 | .block _ c=>nO c
 | .loop c=>nO c
 | .scope c=>nO c
 | .rangeFunc _ _ _ _=>false
 |_=>true
def Marks (n0:Nat) (B:List Deferred) (nr:Bool) (ρ:cI) (w:World) (ds:List Deferred):Prop :=
 ∃ rs:List Nat,ds=rs.map (λr=>{ target:=.collected r,args:=#[] })++B/\rs.Nodup/\(nr=true->rs=[])/\∀ r∈rs,n0<=r/\w.heap[r]? = some (.deferred (some []))/\∀ A L,ρ A=some L->L.b≠r
theorem Marks.nil {n0:Nat} {B:List Deferred} {nr:Bool}:Marks n0 B nr ρ w B:=⟨[],rfl,.nil,λ_=>rfl,by intro r hr;cases hr⟩
theorem Marks.step {n0:Nat} {B:List Deferred} {nr:Bool} {ρ':cI} {w':World} {ds:List Deferred} (hm:Marks n0 B nr ρ w ds) (f:Fr ρ ρ' h h' w w'):Marks n0 B nr ρ' w' ds:=by
 obtain ⟨rs,h1,h2,h0,h3⟩:=hm
 refine ⟨rs,h1,h2,h0,λr hr=>?_⟩
 obtain ⟨a1,a2,a3⟩:=h3 r hr
 have aP:r < w.heap.size:=(mY.1 a2).1
 refine ⟨a1,(f.keep r aP λA L hA hb=>(a3 A L hA hb).elim).trans a2,λA L hA hb=>?_⟩
 cases hρ:ρ A with
 |some L0 =>
  have e:L0=L:=by have:=f.grow A L0 hρ;rw [hA] at this;exact (Option.some.inj this).symm
  subst e
  exact a3 A L0 hρ hb
 |none =>
  rcases (f.fresh A L hA hρ).2.2 with h4|⟨A0,L0,h4,h5,_⟩
  .omega
  .exact a3 A0 L0 h4 (h5.trans hb)

def Im (ρ:cI):Option Nat->Option Nat->Prop
 |none,none=>True
 |some A,some l=>∃ L,ρ A=some L/\L.b=l
 |_,_=>False
theorem Im.mono {ρ':cI} (hg:∀ A L,ρ A=some L->ρ' A=some L):∀ {rd rl:Option Nat},Im ρ rd rl->Im ρ' rd rl
 |none,none,_=>trivial
 |some _,some _,⟨L,h1,h2⟩=>⟨L,hg _ _ h1,h2⟩
 |none,some _,hh=>hh.elim
 |some _,none,hh=>hh.elim

theorem Ja {b:Frame} {a:Act} {k:List Item} {cs:List Frame}:step P (lone (b.atR a (.code (.scope c)::k)) cs w)=.next (lone (b.atR a (.code c::.inScope c::k)) cs w) :=
 step_lone_go (by simp [stepG,stepG.exec,Frame.atR])
theorem zni {b:Frame} {a:Act} {k:List Item} {cs:List Frame}:step P (lone (b.atR a (.inScope c::k)) cs w)=.next (lone (b.atR a k) cs w) :=
 step_lone_go (by simp [stepG,stepG.exec,Frame.atR])
theorem zgJ {F:Fence} {n:Nat} {Q:Exit->Act->World->Prop} {a:Act} (hc:c.wpIn F n P (Exit.noGoto Q) a w):(Code.scope c).wpIn F n P Q a w:=by
 intro b k cs uF hb hr
 have h0:(lone (b.atR a (.code (.scope c)::k)) cs w).fenced P F:=fenced_calm hb hr rfl
 obtain ⟨e,a₁,w₁,hq,vo⟩:=hc b (.inScope c::k) cs uF hb hr
 cases e with
 |normal=>exact ⟨.normal,a₁,w₁,hq,.head h0 Ja (StepsIn.trans vo (.one (fenced_calm hb hr rfl) zni))⟩
 |exit id =>
  have hx:exitTo id (.inScope c::k)=exitTo id k:=by simp [exitTo]
  exact ⟨.exit id,a₁,w₁,hq,λk' hk=>.head h0 Ja (vo.1 k' (by rw [hx];exact hk)),
   λbM hk=>let ⟨k₁,h1,h2⟩:=vo.2 bM (by rw [hx];exact hk);⟨k₁,h1,.head h0 Ja h2⟩⟩
 |goto l=>exact hq.elim
 |ret=>exact ⟨_,a₁,w₁,hq,.of_steps (.one h0 Ja) vo⟩
 |panic ch=>exact ⟨_,a₁,w₁,hq,.of_steps (.one h0 Ja) vo⟩
 |outgrown=>exact ⟨_,a₁,w₁,hq,.of_steps (.one h0 Ja) vo⟩

theorem T7 (w:World) (r:Nat) (o:Obj):(w.putObj r o).heap=w.heap.setIfInBounds r o:=rfl
theorem zyy {r:Nat} {o:Obj} (aP:r < w.heap.size):(w.putObj r o).heap[r]? = some o:=by rw [T7];simp [aP]
theorem Ue {r k:Nat} {o:Obj} (hk:k≠r):(w.putObj r o).heap[k]? = w.heap[k]? := by
 rw [T7,Jy (Ne.symm hk)]

theorem Ra (hs:bT ρ h w) {A:Nat} {L:Loc} (hA:ρ A=some L) {env:List ae} {ps:List Tmp} {assign body:Code} {st:LoopState} {gh:Option Code} (hg:h.get A=some (.loop env ps assign body st gh)) :
 ∃ l:Loop,w.heap[L.b]? = some (.loop l)/\l.state=st/\l.pending=gh/\l.params.toList=ps/\l.assign=assign/\l.body=body/\cA ρ env l.tmps/\cL ρ assign/\cL ρ body /\
   ∀ O0 rK,Fr ρ ρ h (h.set A (.loop env ps assign body O0 rK)) w (w.putObj L.b (.loop { l with state:=O0,pending:=rK }))/\bT ρ (h.set A (.loop env ps assign body O0 rK)) (w.putObj L.b (.loop { l with state:=O0,pending:=rK })):=by
 have hb:=hs.fL A L hA
 rw [hg] at hb
 obtain ⟨l,h1,h2,h3,h4,h5,h6,h7,h8,h9⟩:=hb
 refine ⟨l,h1,h2,h3,h4,h5,h6,h7,h8,h9,λO0 rK=>?_⟩
 have aP:L.b < w.heap.size:=(mY.1 h1).1
 exact Jl hs hA hg (by simp) (by simp) rfl rfl rfl (by rw [T7];simp) (λq hq=>Ue hq) ⟨_,zyy aP,rfl,rfl,h4,h5,h6,h7,h8,h9⟩

theorem zgo (hT:T.Fits P) {D:Array Oper->Env->Heap->Option (Env × Heap)} {gs:List Nat} (hC:CS P gs C) (hg:uT C) (hD:DS P gs D) (Tp:zwj D) (rd rl:Option Nat) (n0:Nat) (B:List Deferred) (nr:Bool) (fuel:Nat) :
 ∀ (c:Code) (e:Env) (h:Heap) (x:Ex) (e':Env) (h':Heap) (ρ:cI) (a:Act) (w:World) (Q:Exit->Act->World->Prop),en P T C D rd fuel c e h=some (x,e',h')->cL ρ c->(nr=true->nO c=true)->dt gs ρ->bT ρ h w->fO ρ h h'->cA ρ e a.tmps->Marks n0 B nr ρ w a.defers->Im ρ rd rl->n0<=w.heap.size ->
   (∀ ρ' a' w',Fr ρ ρ' h h' w w'->bT ρ' h' w'->cA ρ' e' a'.tmps->Marks n0 B nr ρ' w' a'.defers->Q x.to a' w')->c.wpIn (WR rl) 0 P Q a w:=by
 intro c
 induction c with
 |skip =>
  intro e h x e' h' ρ a w Q an _ _ _ hs _ he hd _ _ hQ
  simp only [en,dY,df] at an
  obtain ⟨rfl,rfl,rfl⟩:=an
  exact wpIn_skip (hQ ρ a w (Fr.refl _ _ _) hs he hd)
 |region id ops d =>
  intro e h x e' h' ρ a w Q an dU _ hG hs hf he hd _ _ hQ
  simp only [en,cC,Prod.exists,df] at an
  obtain ⟨e1,h1,hr,rfl,rfl,rfl⟩:=an
  have hQ':∀ ρ' a' w',Fr ρ ρ' h h1 w w'->bT ρ' h1 w'->cA ρ' e1 a'.tmps->a'.defers=a.defers->Q .normal a' w':=λρ' a' w' f1 s1 r1 d1=>hQ ρ' a' w' f1 s1 r1 (by rw [d1];exact hd.step f1)
  cases d with
  |true =>
   simp only [if_true] at hr
   exact hD rl id ops e e1 h h1 ρ a w Q hr dU hG hs hf he hQ'
  |false =>
   simp only [gW,if_false] at hr
   exact wpIn_region_list (zeS hT hC hg ops.toList e e1 h h1 ρ a w hr dU hG hs hf he rfl hQ')
 |seq c1 c2 TH ZO =>
  intro e h x e' h' ρ a w Q an dU nB hG hs hf he hd nX hn hQ
  simp only [en] at an
  have BW:nr=true->nO c1=true:=λq=>by have:=nB q;simp only [nO,dP] at this;exact this.1
  have GF:nr=true->nO c2=true:=λq=>by have:=nB q;simp only [nO,dP] at this;exact this.2
  refine wpIn_seq ?_
  split at an
  .rename_i e1 h1 h2
   have dS:=(Hn hg Tp rd fuel c2 _ _ _ _ _ an).size
   refine TH e h .normal e1 h1 ρ a w _ h2 dU.1 BW hG hs (hf.left dS) he hd nX hn λρ1 a1 w1 f1 s1 r1 d1=>?_
   exact ZO e1 h1 x e' h' ρ1 a1 w1 Q an (dU.2.mono f1.grow) GF (hG.mono f1.grow) s1 (hf.right f1) r1 d1 (nX.mono f1.grow) (il hn f1.size) λρ2 a2 w2 f2 s2 r2 d2=>hQ ρ2 a2 w2 (f1.trans f2) s2 r2 d2
  .rename_i ba
   refine TH e h x e' h' ρ a w _ an dU.1 BW hG hs hf he hd nX hn λρ1 a1 w1 f1 s1 r1 d1=>?_
   cases x with
   |normal=>exact (ba e' h' an).elim
   |exit id=>exact hQ ρ1 a1 w1 f1 s1 r1 d1
   |ret=>exact hQ ρ1 a1 w1 f1 s1 r1 d1
 |cond c c1 c2 TH ZO =>
  intro e h x e' h' ρ a w Q an dU nB hG hs hf he hd nX hn hQ
  have hc:=he.operand dU.1
  have BW:nr=true->nO c1=true:=λq=>by have:=nB q;simp only [nO,dP] at this;exact this.1
  have GF:nr=true->nO c2=true:=λq=>by have:=nB q;simp only [nO,dP] at this;exact this.2
  simp only [en] at an
  split at an
  .rename_i hb
   rw [hb] at hc
   exact wpIn_cond_true (hc.bQ rfl) (TH e h x e' h' ρ a w Q an dU.2.1 BW hG hs hf he hd nX hn hQ)
  .rename_i hb
   rw [hb] at hc
   exact wpIn_cond_false (hc.bQ rfl) (ZO e h x e' h' ρ a w Q an dU.2.2 GF hG hs hf he hd nX hn hQ)
  .cases an
 |block id c ih =>
  intro e h x e' h' ρ a w Q an dU nB hG hs hf he hd nX hn hQ
  simp only [en] at an
  refine wpIn_block ?_
  split at an
  .rename_i i e1 h1 h2
   split at an
   .rename_i hi
    simp only [dY,df] at an
    obtain ⟨rfl,rfl,rfl⟩:=an
    refine ih e h (.exit i) e1 h1 ρ a w _ h2 dU nB hG hs hf he hd nX hn λρ1 a1 w1 f1 s1 r1 d1=>?_
    simp only [Ex.to,Exit.inBlock,aE hi]
    exact hQ ρ1 a1 w1 f1 s1 r1 d1
   .rename_i hi
    simp only [dY,df] at an
    obtain ⟨rfl,rfl,rfl⟩:=an
    refine ih e h (.exit i) e1 h1 ρ a w _ h2 dU nB hG hs hf he hd nX hn λρ1 a1 w1 f1 s1 r1 d1=>?_
    simp only [Ex.to,Exit.inBlock,az hi]
    exact hQ ρ1 a1 w1 f1 s1 r1 d1
  .rename_i ba
   refine ih e h x e' h' ρ a w _ an dU nB hG hs hf he hd nX hn λρ1 a1 w1 f1 s1 r1 d1=>?_
   cases x with
   |normal=>exact hQ ρ1 a1 w1 f1 s1 r1 d1
   |exit i=>exact (ba i e' h' an).elim
   |ret=>exact hQ ρ1 a1 w1 f1 s1 r1 d1
 |loop c ih =>
  intro e h x e' h' ρ a w Q an dU nB hG hs hf he hd nX hn hQ
  simp only [en] at an
  refine wpIn_loop_rounds fuel ?_
  have key:∀ (n:Nat) (e:Env) (h:Heap) (ρ:cI) (a:Act) (w:World),iter (en P T C D rd fuel c) n e h=some (x,e',h')->cL ρ c->dt gs ρ->bT ρ h w->fO ρ h h'->cA ρ e a.tmps->Marks n0 B nr ρ w a.defers->Im ρ rd rl->n0<=w.heap.size ->
   (∀ ρ' a' w',Fr ρ ρ' h h' w w'->bT ρ' h' w'->cA ρ' e' a'.tmps->Marks n0 B nr ρ' w' a'.defers->Q x.to a' w')->Code.roundsIn (WR rl) 0 P c Q n a w:=by
   intro n
   induction n with
   |zero=>intro e h ρ a w hi;simp [iter] at hi
   |succ n ZP =>
    intro e h ρ a w hi dU hG hs hf he hd nX hn hQ
    simp only [iter] at hi
    rw [roundsIn_succ]
    split at hi
    .rename_i e1 h1 h2
     have dS:=(zhM (Hn (P:=P) (T:=T) hg Tp rd fuel c) n _ _ _ _ _ hi).size
     refine ih e h .normal e1 h1 ρ a w _ h2 dU nB hG hs (hf.left dS) he hd nX hn λρ1 a1 w1 f1 s1 r1 d1=>?_
     exact ZP e1 h1 ρ1 a1 w1 hi (dU.mono f1.grow) (hG.mono f1.grow) s1 (hf.right f1) r1 d1 (nX.mono f1.grow) (il hn f1.size) λρ2 a2 w2 f2 s2 r2 d2=>hQ ρ2 a2 w2 (f1.trans f2) s2 r2 d2
    .rename_i ba
     refine ih e h x e' h' ρ a w _ hi dU nB hG hs hf he hd nX hn λρ1 a1 w1 f1 s1 r1 d1=>?_
     cases x with
     |normal=>exact (ba e' h' hi).elim
     |exit id=>exact hQ ρ1 a1 w1 f1 s1 r1 d1
     |ret=>exact hQ ρ1 a1 w1 f1 s1 r1 d1
  exact key fuel e h ρ a w an dU hG hs hf he hd nX hn hQ
 |exit id =>
  intro e h x e' h' ρ a w Q an _ _ _ hs _ he hd _ _ hQ
  simp only [en,dY,df] at an
  obtain ⟨rfl,rfl,rfl⟩:=an
  exact wpIn_exit (hQ ρ a w (Fr.refl _ _ _) hs he hd)
 |ret =>
  intro e h x e' h' ρ a w Q an _ _ _ hs _ he hd _ _ hQ
  simp only [en,dY,df] at an
  obtain ⟨rfl,rfl,rfl⟩:=an
  exact wpIn_ret (hQ ρ a w (Fr.refl _ _ _) hs he hd)
 |label l =>
  intro e h x e' h' ρ a w Q an _ _ _ hs _ he hd _ _ hQ
  simp only [en,dY,df] at an
  obtain ⟨rfl,rfl,rfl⟩:=an
  exact wpIn_label (hQ ρ a w (Fr.refl _ _ _) hs he hd)
 |rangeFunc g ps assign body _ _ =>
  intro e h x e' h' ρ a w Q an dU nB hG hs hf he hd nX hn hQ
  simp only [en] at an
  have NR:¬ nr=true:=λq=>by have:=nB q;simp [nO] at this
  have Gr:=he.operand dU.1
  unfold JO at an
  split at an
  .rename_i f first captured lq
   split at an
   .rename_i Dz
    simp only [dP] at Dz
    obtain ⟨Dz,ri⟩:=Dz
    split at an
    .rename_i r0 h2 iK
     rw [lq] at Gr
     generalize X9:a.eval g=ag at Gr
     cases Gr with
     |func _ q1 q2 q3 q4 =>
      rename_i gP dQ
      have qF:cB ρ first.toList gP.toList:=⟨by simpa using q1,λi x y hx hy=>q3 i x y (by simpa using hx) (by simpa using hy)⟩
      have rF:cB ρ captured.toList dQ.toList:=⟨by simpa using q2,λi x y hx hy=>q4 i x y (by simpa using hx) (by simpa using hy)⟩
      have gp:=hg _ _ _ _ _ iK
      have pU:=zfn an
      have yI:(h.push (.loop e ps.toList assign body .ready none)).size=h.size+1:=rfl
      have oI:=gp.size
      have B9:=pU.size
      have gf:ρ h.size=none:=hf h.size (bo _) (by omega)
      refine wpIn_rangeFunc λfn _=>?_
      have dh:∃ (l:Nat) (mark:List Deferred) (w1:World) (lo:Loop),(Instr.enterLoop fn a.tmps ps assign body (WR rl).round).run P w=.ok (l,mark) w1/\w.heap.size<=l/\w1.heap[l]? = some (.loop lo) /\
       lo.state=.ready/\lo.pending=none/\lo.params=ps/\lo.assign=assign/\lo.body=body/\lo.tmps=a.tmps/\(∀ k,k < w.heap.size->w1.heap[k]? = w.heap[k]?)/\w.heap.size<=w1.heap.size/\w1.os=w.os/\w1.tape=w.tape/\w1.output=w.output /\
       (∀ ρ1,(∀ A L,ρ1 A=some L->ρ A=some L\/L.b=l)->Marks n0 B nr ρ1 w1 (mark++a.defers)):=by
       cases rl with
       |none =>
        refine ⟨_,_,_,{ state:=.ready,pending:=none,fn,tmps:=a.tmps,params:=ps,assign,body,defers:=w.heap.size },run_enterLoop_outer fn a.tmps ps assign body,EZ _,by rw [World.bU,World.bU,xi,aE (by simp)],rfl,rfl,rfl,rfl,rfl,rfl,?_,by simp [World.bU];omega,rfl,rfl,rfl,?_⟩
        .intro k hk
         rw [World.bU,World.bU,xi,az (by simp;omega),xi,az (by omega)]
        .intro ρ1 D8
         obtain ⟨rs,m1,m2,_,m3⟩:=hd
         refine ⟨w.heap.size::rs,by simp [m1],?_,λq=>(NR q).elim,?_⟩
         .refine AV.2 ⟨λb9=>?_,m2⟩
          have:=(mY.1 (m3 _ b9).2.1).1
          omega
         .intro r hr
          rcases dG.1 hr with rfl|hr
          .refine ⟨hn,by simp [World.bU,xi],λA L hA hb=>?_⟩
           rcases D8 A L hA with h4|h4
           .have:=hs.lt h4;omega
           .omega
          .obtain ⟨a1,a2,a3⟩:=m3 r hr
           have aP:r < w.heap.size:=(mY.1 a2).1
           refine ⟨a1,?_,λA L hA hb=>?_⟩
           .rw [World.bU,World.bU,xi,az (by simp;omega),xi,az (by omega)]
            exact a2
           .rcases D8 A L hA with h4|h4
            .exact a3 A L h4 hb
            .omega
       |some l0 =>
        cases rd with
        |none=>exact nX.elim
        |some A0 =>
         obtain ⟨L0,dK,rfl⟩:=nX
         have Ze:∃ lo:Loop,w.heap[L0.b]? = some (.loop lo):=by
          simp only [UD] at Dz
          split at Dz
          .rename_i YA
           obtain ⟨lo,h4,_⟩:=Ra hs dK YA
           exact ⟨lo,h4⟩
          .cases Dz
         obtain ⟨lo,cM⟩:=Ze
         have eu:(Instr.enterLoop fn a.tmps ps assign body (some L0.b)).run P w=.ok (w.heap.size,[]) (w.alloc (.loop { state:=.ready,pending:=none,fn,tmps:=a.tmps,params:=ps,assign,body,defers:=lo.defers })):=by
          unfold Instr.enterLoop
          simp only [Sem.run_bind,run_getLoop cM,Sem.run_pure,Result.andThen,run_newObj_alloc]
         refine ⟨_,_,_,{ state:=.ready,pending:=none,fn,tmps:=a.tmps,params:=ps,assign,body,defers:=lo.defers },eu,bo _,by simp [World.bU],rfl,rfl,rfl,rfl,rfl,rfl,?_,by simp [World.bU],rfl,rfl,rfl,?_⟩
         .intro k hk
          rw [World.bU,xi,az (by omega)]
         .intro ρ1 D8
          obtain ⟨rs,m1,m2,_,m3⟩:=hd
          refine ⟨rs,by simp [m1],m2,λq=>(NR q).elim,?_⟩
          intro r hr
          obtain ⟨a1,a2,a3⟩:=m3 r hr
          have aP:r < w.heap.size:=(mY.1 a2).1
          refine ⟨a1,?_,λA L hA hb=>?_⟩
          .rw [World.bU,xi,az (by omega)]
           exact a2
          .rcases D8 A L hA with h4|h4
           .exact a3 A L h4 hb
           .omega
      obtain ⟨l,mark,w1,lo,dh,hl,yT,l1,l2,l3,l4,l5,l6,hold,dS,vC,kU,cT,NL⟩:=dh
      obtain ⟨ρ1,D8,f1,s1⟩:=T6 (W:=w1) (L:=⟨l,0,0⟩) (b:=.loop e ps.toList assign body .ready none) hs gf hold dS vC kU cT hl
       (λρ' eN=>⟨lo,yT,l1,l2,by rw [l3],l4,l5,by rw [l6];exact he.mono eN,dU.2.1.mono eN,dU.2.2.mono eN⟩)
      have i0:Marks n0 B nr ρ1 w1 (mark++a.defers):=NL ρ1 λA L hA=>by
       cases hρ:ρ A with
       |some L0 =>
        have e:L0=L:=by have:=f1.grow A L0 hρ;rw [hA] at this;exact (Option.some.inj this).symm
        subst e
        exact .inl rfl
       |none =>
        have h4:=(f1.fresh A L hA hρ)
        have h5:A=h.size:=by have:=h4.1;have:=h4.2.1;omega
        subst h5
        rw [D8] at hA
        cases hA
        exact .inr rfl
      have pS:fO ρ1 (h.push (.loop e ps.toList assign body .ready none)) h2:=(hf.left B9).right f1
      have eM:cB ρ1 (first.toList++[.func (.yield h.size) #[] #[]]++captured.toList) (gP++#[Value.func (Fn.yield l) #[] #[]]++dQ).toList:=by
       have:=((qF.mono f1.grow).append (cB.cons (VR.yield D8) (.nil ρ1))).append (rF.mono f1.grow)
       simpa using this
      have i7:(resolve a.eval (rangeCall g l) 0).run P w1=.ok { target:=.fn (.func f) dQ,args:=gP++#[Value.func (Fn.yield l) #[] #[]] } w1:=by
       have hcv:a.eval (.const (.func (.yield l) #[] #[]))=.func (.yield l) #[] #[]:=rfl
       simp [resolve,X9,hcv,Deferred.ofValue]
      have hinv:∀ w,(invoke (.fn (.func f) dQ) (gP++#[Value.func (Fn.yield l) #[] #[]])).run P w=(callFunc f (gP++#[Value.func (Fn.yield l) #[] #[]]++dQ)).run P w:=λw=>rfl
      rcases hC.fn f _ _ _ _ iK ρ1 w1 (gP++#[Value.func (Fn.yield l) #[] #[]]++dQ) (hG.mono f1.grow) s1 pS eM with ⟨_,_,_,eE,_⟩|⟨Yo,F7⟩
      .exfalso
       unfold RU at ri
       split at ri
       .rename_i fn0 Yw
        split at ri
        .rename_i c0 zY
         obtain ⟨hP,jw,_⟩:=hT.fn f fn0 Yw
         have fZ:¬ fn0.name="runtime.NumGoroutine":=by simpa using jw
         simp [callFunc,hP,fZ,zY] at eE
        .cases ri
       .cases ri
      .refine ⟨l,mark,w1,_,w1,f,_,w1,dh,i7,λ_ _=>trivial,(hinv w1).trans Yo,(λhh=>by cases hh),zlm (F7.mono ?_)⟩
       rintro ed w3 ⟨ρ3,u,rfl,f3,s3,_⟩
       unfold Et at an
       split at an
       .rename_i env ps2 as2 bd2 st gh Gq
        have hρ3:ρ3 h.size=some ⟨l,0,0⟩:=f3.grow _ _ D8
        obtain ⟨G8,g1,g2,g3,_,_,_,_,_,_,g4⟩:=Ra s3 hρ3 Gq
        obtain ⟨f4,s4⟩:=g4 .exhausted gh
        have lM:st≠.busy->∀ x1:Ex,x1=x->e=e'->h2.set h.size (.loop env ps2 as2 bd2 .exhausted gh)=h'->(Instr.endLoop l).run P w3=.ok gh (w3.putObj l (.loop { G8 with state:=.exhausted,pending:=gh }))/\Q x.to { a with defers:=mark++a.defers } (w3.putObj l (.loop { G8 with state:=.exhausted,pending:=gh })):=by
         intro eZ x1 hx1 Aa Ab
         subst hx1 Aa Ab
         have cM:({ G8 with state:=LoopState.exhausted,pending:=gh }:Loop)={ G8 with state:=LoopState.exhausted }:=by
          subst g3;rfl
         refine ⟨?_,hQ ρ3 { a with defers:=mark++a.defers } _ ((f1.trans f3).trans f4) s4 (he.mono (f1.trans f3).grow) ((i0.step f3).step f4)⟩
         rw [cM,<- g3]
         exact run_endLoop g1 (by rw [g2];exact eZ)
        split at an
        .cases an
        .rename_i eZ
         split at an
         .simp only [dY,df] at an
          obtain ⟨rfl,h5,h6⟩:=an
          obtain ⟨k1,k2⟩:=lM eZ _ rfl h5 h6
          exact ⟨none,_,k1,k2⟩
         .simp only [dY,df] at an
          obtain ⟨rfl,h5,h6⟩:=an
          obtain ⟨k1,k2⟩:=lM eZ _ rfl h5 h6
          exact ⟨_,_,k1,wpIn_exit k2⟩
         .simp only [dY,df] at an
          obtain ⟨rfl,h5,h6⟩:=an
          obtain ⟨k1,k2⟩:=lM eZ _ rfl h5 h6
          exact ⟨_,_,k1,wpIn_ret k2⟩
         .cases an
       .cases an
    .cases an
   .cases an
  .cases an
 |scope c ih =>
  intro e h x e' h' ρ a w Q an dU nB hG hs hf he hd nX hn hQ
  simp only [en] at an
  refine zgJ (ih e h x e' h' ρ a w _ an dU nB hG hs hf he hd nX hn λρ1 a1 w1 f1 s1 r1 d1=>?_)
  have:=hQ ρ1 a1 w1 f1 s1 r1 d1
  cases x <;> exact this
 |goto l=>intro e h x e' h' ρ a w Q an;simp [en] at an
 |refuse s=>intro e h x e' h' ρ a w Q an;simp [en] at an

def Sq (tmps:Array ae):ResultVar->Sem ae
 | .tmp t=>pure (tmps.getD t undef)
 | .cell a t=>do loadVar t (<- asAddr (tmps.getD a undef))

theorem zvz (fn:Func) (tmps:Array ae):results fn tmps=(do let vs <- fn.results.mapM (Sq tmps);pure (if h:vs.size=1 then vs[0] else .tuple vs)):=by
 unfold results
 congr 2

theorem zne (hT:T.Fits P) (hs:bT ρ h w) (he:cA ρ e tmps):∀ {r:ResultVar} {v:ae},sM T e h r=some v->∃ u,(Sq tmps r).run P w=.ok u w/\VR ρ v u
 | .tmp t,v,hr=>by simp only [sM,dY] at hr;subst hr;exact ⟨_,rfl,he.2 t⟩
 | .cell a t,v,hr=>by
  simp only [sM] at hr
  have hv:=he.2 a
  simp only [Sq]
  generalize e.get a=x at hv hr
  generalize tmps.getD a undef=y at hv
  obtain ⟨u,h1,h2⟩:=zgC hT hs hv hr
  refine ⟨u,?_,h2⟩
  rw [<- h1]
  cases hv <;> first|(simp [fW] at hr;done)|simp [Instr.loadAt,Instr.sureAddr,asAddr]

theorem zet (hT:T.Fits P) (hs:bT ρ h w) {fn:Func} (he:cA ρ e tmps) (hr:mV T fn e h=some v) :
 ∃ u,(results fn tmps).run P w=.ok u w/\VR ρ v u:=by
 have pf:∀ (rs:List ResultVar) (vs:List ae),rs.mapM (sM T e h)=some vs->∃ us:List ae,cB ρ vs us /\
  (rs.mapM (Sq tmps)).run P w=.ok us w:=by
  intro rs
  induction rs with
  |nil=>intro vs gw;simp at gw;subst gw;exact ⟨[],.nil ρ,by simp⟩
  |cons r rs ih =>
   intro vs gw
   rw [List.mapM_cons] at gw
   simp only [Option.bind_eq_bind,cH,Option.pure_def,dY] at gw
   obtain ⟨v1,qF,vs',GX,rfl⟩:=gw
   obtain ⟨u1,h1,h2⟩:=zne hT hs he qF
   obtain ⟨us,h3,h4⟩:=ih vs' GX
   refine ⟨u1::us,.cons h2 h3,?_⟩
   rw [List.mapM_cons]
   simp only [Sem.run_bind,h1,Result.andThen_ok,h4,Sem.run_pure]
 have cS:∀ us:List ae,(fn.results.toList.mapM (Sq tmps)).run P w=.ok us w ->
  (results fn tmps).run P w=.ok (if h:us.toArray.size=1 then us.toArray[0] else .tuple us.toArray) w:=by
  intro us h1
  rw [zvz,Array.mapM_eq_mapM_toList]
  simp only [Sem.run_bind,Sem.run_map,h1,Result.andThen_ok,Sem.run_pure]
 unfold mV at hr
 split at hr
 .rename_i r TA
  obtain ⟨us,h1,h2⟩:=pf [r] [v] (by simp [hr])
  obtain ⟨u,us',rfl,hu,hn⟩:=h1.of_cons
  have:=hn.of_nil
  subst this
  refine ⟨u,?_,hu⟩
  have:=cS [u] (by rw [TA];exact h2)
  simpa using this
 .rename_i ba
  simp only [cC] at hr
  obtain ⟨vs,gw,rfl⟩:=hr
  obtain ⟨us,h1,h2⟩:=pf _ vs gw
  refine ⟨.tuple us.toArray,?_,h1.jE⟩
  have:=cS us h2
  rw [this]
  congr 1
  have hlen:us.length≠1:=by
   intro bD
   have hl:fn.results.toList.length=us.length:=by
    have e1:vs.length=us.length:=h1.1
    have e2:∀ (rs:List ResultVar) (vs:List ae),rs.mapM (sM T e h)=some vs->rs.length=vs.length:=by
     intro rs
     induction rs with
     |nil=>intro vs gw;simp at gw;subst gw;rfl
     |cons r rs ih =>
      intro vs gw
      rw [List.mapM_cons] at gw
      simp only [Option.bind_eq_bind,cH,Option.pure_def,dY] at gw
      obtain ⟨v1,qF,vs',GX,rfl⟩:=gw
      simp [ih vs' GX]
    rw [e2 _ _ gw,e1]
   rw [bD] at hl
   match hm:fn.results.toList,hl with
   | [r],_=>exact ba r hm
  rw [dif_neg (by simpa using hlen)]
end
end Go.Am
