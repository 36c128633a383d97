/- The plain machine: a deterministic evaluator of the model's code over a heap of its own. Definitions alone; no condition. -/
import GoSem.Step
import Derived.Calls
import Derived.Below
import Derived.Laws.AppendOwn
import Derived.Laws.MakeOwn
import Derived.Laws.CopyRow
import Derived.Deep.MidRow
import Derived.Lib.Space
import Derived.Laws.StructEq
import Derived.ChangeKeysEq
import Derived.RangeFuncRecord
import Derived.Laws.BytesArg
import Derived.Lib.ConvBytes
import Derived.CallsIn
import Derived.TacticsIn
import Derived.LoopNIn
import Derived.Scope
import Derived.RangeFuncLeaves
set_option linter.unusedSimpArgs false
namespace Go.Am
theorem xl:type_of% @Array.getElem?_eq_getElem:=@Array.getElem?_eq_getElem
theorem mQ:type_of% @Array.getElem?_eq_some_iff:=@Array.getElem?_eq_some_iff
theorem xv:type_of% @Array.getElem?_push:=@Array.getElem?_push
theorem HA:type_of% @Array.getElem?_setIfInBounds_ne:=@Array.getElem?_setIfInBounds_ne
theorem TM:type_of% @Array.getElem?_toList:=@Array.getElem?_toList
theorem qM:type_of% @Array.length_toList:=@Array.length_toList
theorem JD:type_of% @Array.toList_append:=@Array.toList_append
theorem AQ:type_of% @Array.toList_inj:=@Array.toList_inj
theorem QR:type_of% @Bool.and_eq_false_iff:=@Bool.and_eq_false_iff
theorem ep:type_of% @Bool.and_eq_true:=@Bool.and_eq_true
theorem sC:type_of% @Bool.and_self:=@Bool.and_self
theorem gM:type_of% @Bool.false_eq_true:=@Bool.false_eq_true
theorem CO:type_of% @Bool.not_eq_true':=@Bool.not_eq_true'
theorem kW:type_of% @Bool.not_false:=@Bool.not_false
theorem fQ:type_of% @Bool.not_true:=@Bool.not_true
theorem sB:type_of% @Bool.or_eq_true:=@Bool.or_eq_true
theorem Q0:type_of% @Int.toNat_natCast:=@Int.toNat_natCast
theorem nU:type_of% @List.all_cons:=@List.all_cons
theorem iT:type_of% @List.all_eq_true:=@List.all_eq_true
theorem oX:type_of% @List.all_nil:=@List.all_nil
theorem H2:type_of% @List.any_eq_false:=@List.any_eq_false
theorem xy:type_of% @List.any_eq_true:=@List.any_eq_true
theorem j7:type_of% @List.append_assoc:=@List.append_assoc
theorem bu:type_of% @List.append_nil:=@List.append_nil
theorem xz:type_of% @List.cons_append:=@List.cons_append
theorem QX:type_of% @List.drop_append:=@List.drop_append
theorem H6:type_of% @List.drop_drop:=@List.drop_drop
theorem Eg:type_of% @List.drop_eq_getElem_cons:=@List.drop_eq_getElem_cons
theorem zG:type_of% @List.drop_of_length_le:=@List.drop_of_length_le
theorem zM:type_of% @List.drop_zero:=@List.drop_zero
theorem Tt:type_of% @List.eq_nil_of_length_eq_zero:=@List.eq_nil_of_length_eq_zero
theorem qN:type_of% @List.ext_getElem? := @List.ext_getElem?
theorem AO:type_of% @List.filter_append:=@List.filter_append
theorem HZ:type_of% @List.filter_cons:=@List.filter_cons
theorem TB:type_of% @List.filter_cons_of_neg:=@List.filter_cons_of_neg
theorem TC:type_of% @List.filter_cons_of_pos:=@List.filter_cons_of_pos
theorem JB:type_of% @List.filter_eq_nil_iff:=@List.filter_eq_nil_iff
theorem QP:type_of% @List.filter_eq_self:=@List.filter_eq_self
theorem JE:type_of% @List.filter_sublist:=@List.filter_sublist
theorem Ew:type_of% @List.flatMap_cons:=@List.flatMap_cons
theorem uM:type_of% @List.foldl_cons:=@List.foldl_cons
theorem lB:type_of% @List.getD_eq_getElem?_getD:=@List.getD_eq_getElem?_getD
theorem xw:type_of% @List.getElem?_append:=@List.getElem?_append
theorem nc:type_of% @List.getElem?_append_left:=@List.getElem?_append_left
theorem qu:type_of% @List.getElem?_append_right:=@List.getElem?_append_right
theorem AK:type_of% @List.getElem?_cons_zero:=@List.getElem?_cons_zero
theorem lL:type_of% @List.getElem?_drop:=@List.getElem?_drop
theorem gF:type_of% @List.getElem?_eq_getElem:=@List.getElem?_eq_getElem
theorem CH:type_of% @List.getElem?_eq_none:=@List.getElem?_eq_none
theorem dP:type_of% @List.getElem?_eq_some_iff:=@List.getElem?_eq_some_iff
theorem lC:type_of% @List.getElem?_map:=@List.getElem?_map
theorem CG:type_of% @List.getElem?_modify:=@List.getElem?_modify
theorem uL:type_of% @List.getElem?_of_mem:=@List.getElem?_of_mem
theorem sA:type_of% @List.getElem?_set:=@List.getElem?_set
theorem mi:type_of% @List.getElem?_take:=@List.getElem?_take
theorem JC:type_of% @List.getElem?_take_of_lt:=@List.getElem?_take_of_lt
theorem dy:type_of% @List.length_append:=@List.length_append
theorem dn:type_of% @List.length_cons:=@List.length_cons
theorem kP:type_of% @List.length_drop:=@List.length_drop
theorem xu:type_of% @List.length_eq_zero_iff:=@List.length_eq_zero_iff
theorem CI:type_of% @List.length_filter_le:=@List.length_filter_le
theorem gi:type_of% @List.length_map:=@List.length_map
theorem dN:type_of% @List.length_nil:=@List.length_nil
theorem HY:type_of% @List.length_replicate:=@List.length_replicate
theorem nT:type_of% @List.length_set:=@List.length_set
theorem zK:type_of% @List.length_singleton:=@List.length_singleton
theorem gh:type_of% @List.length_take:=@List.length_take
theorem zL:type_of% @List.map_append:=@List.map_append
theorem QQ:type_of% @List.map_congr_left:=@List.map_congr_left
theorem lD:type_of% @List.map_cons:=@List.map_cons
theorem CR:type_of% @List.map_map:=@List.map_map
theorem mj:type_of% @List.mem_append:=@List.mem_append
theorem TL:type_of% @List.mem_append_right:=@List.mem_append_right
theorem dh:type_of% @List.mem_cons:=@List.mem_cons
theorem fB:type_of% @List.mem_cons_of_mem:=@List.mem_cons_of_mem
theorem jm:type_of% @List.mem_cons_self:=@List.mem_cons_self
theorem H3:type_of% @List.mem_filter:=@List.mem_filter
theorem oY:type_of% @List.mem_map:=@List.mem_map
theorem QS:type_of% @List.mem_map_of_mem:=@List.mem_map_of_mem
theorem ic:type_of% @List.mem_of_getElem? := @List.mem_of_getElem?
theorem zN:type_of% @List.mem_range:=@List.mem_range
theorem hU:type_of% @List.mem_singleton:=@List.mem_singleton
theorem pE:type_of% @List.nil_append:=@List.nil_append
theorem Q1:type_of% @List.nodup_append:=@List.nodup_append
theorem tN:type_of% @List.nodup_cons:=@List.nodup_cons
theorem tL:type_of% @List.not_mem_nil:=@List.not_mem_nil
theorem tK:type_of% @List.pairwise_cons:=@List.pairwise_cons
theorem Tv:type_of% @List.pairwise_iff_getElem:=@List.pairwise_iff_getElem
theorem JT:type_of% @List.set_cons_succ:=@List.set_cons_succ
theorem oV:type_of% @List.set_cons_zero:=@List.set_cons_zero
theorem Ey:type_of% @List.size_toArray:=@List.size_toArray
theorem CQ:type_of% @List.sum_cons:=@List.sum_cons
theorem oW:type_of% @List.take_add_one:=@List.take_add_one
theorem qv:type_of% @List.take_append_drop:=@List.take_append_drop
theorem JW:type_of% @List.take_length:=@List.take_length
theorem gE:type_of% @List.take_of_length_le:=@List.take_of_length_le
theorem QT:type_of% @List.take_succ_cons:=@List.take_succ_cons
theorem xB:type_of% @List.take_zero:=@List.take_zero
theorem pF:type_of% @Nat.add_assoc:=@Nat.add_assoc
theorem rS:type_of% @Nat.add_mul:=@Nat.add_mul
theorem CL:type_of% @Nat.add_sub_cancel:=@Nat.add_sub_cancel
theorem TD:type_of% @Nat.add_sub_cancel_left:=@Nat.add_sub_cancel_left
theorem iU:type_of% @Nat.add_zero:=@Nat.add_zero
theorem CP:type_of% @Nat.le_max_left:=@Nat.le_max_left
theorem AP:type_of% @Nat.le_max_right:=@Nat.le_max_right
theorem bj:type_of% @Nat.le_refl:=@Nat.le_refl
theorem EG:type_of% @Nat.le_succ:=@Nat.le_succ
theorem gn:type_of% @Nat.le_trans:=@Nat.le_trans
theorem dB:type_of% @Nat.lt_of_lt_of_le:=@Nat.lt_of_lt_of_le
theorem lM:type_of% @Nat.lt_or_ge:=@Nat.lt_or_ge
theorem wt:type_of% @Nat.lt_succ_self:=@Nat.lt_succ_self
theorem JY:type_of% @Nat.lt_trichotomy:=@Nat.lt_trichotomy
theorem xA:type_of% @Nat.min_le_left:=@Nat.min_le_left
theorem Et:type_of% @Nat.min_le_right:=@Nat.min_le_right
theorem Eu:type_of% @Nat.mod_eq_of_lt:=@Nat.mod_eq_of_lt
theorem EH:type_of% @Nat.mod_lt:=@Nat.mod_lt
theorem zO:type_of% @Nat.mul_comm:=@Nat.mul_comm
theorem EE:type_of% @Nat.mul_le_mul:=@Nat.mul_le_mul
theorem qw:type_of% @Nat.mul_le_mul_right:=@Nat.mul_le_mul_right
theorem CT:type_of% @Nat.mul_one:=@Nat.mul_one
theorem EF:type_of% @Nat.sub_self:=@Nat.sub_self
theorem qx:type_of% @Nat.succ_mul:=@Nat.succ_mul
theorem xC:type_of% @Nat.succ_pos:=@Nat.succ_pos
theorem jo:type_of% @Nat.zero_add:=@Nat.zero_add
theorem lE:type_of% @Nat.zero_le:=@Nat.zero_le
theorem cH:type_of% @Option.bind_eq_some_iff:=@Option.bind_eq_some_iff
theorem dM:type_of% @Option.bind_some:=@Option.bind_some
theorem JX:type_of% @Option.getD_some:=@Option.getD_some
theorem QU:type_of% @Option.isSome_none:=@Option.isSome_none
theorem JV:type_of% @Option.isSome_some:=@Option.isSome_some
theorem cA:type_of% @Option.map_eq_some_iff:=@Option.map_eq_some_iff
theorem jn:type_of% @Option.map_some:=@Option.map_some
theorem dO:type_of% @Option.some.injEq:=@Option.some.injEq
theorem cV:type_of% @Prod.mk.injEq:=@Prod.mk.injEq
theorem tM:type_of% @decide_eq_false:=@decide_eq_false
theorem uN:type_of% @decide_eq_true:=@decide_eq_true
theorem jH:type_of% @decide_eq_true_eq:=@decide_eq_true_eq
theorem az:type_of% @if_neg:=@if_neg
theorem aE:type_of% @if_pos:=@if_pos

inductive ba where
 |row (cells:List Value) (elem:TypeId) (ro:Bool)
 |map (es:List MapEntry) (clock:Nat)
 |loop (env:List Value) (ps:List Tmp) (assign body:Code) (st:LoopState) (fY:Option Code)
 |dead

inductive Tr where
 |nil
 |node (v:Option ba) (l r:Tr)

def Tr.get:Tr->Nat->Option ba
 | .nil,_=>none
 | .node v l r,i=>match i with
  |0=>v
  |i+1=>if i % 2 == 0 then l.get (i / 2) else r.get (i / 2)

def Tr.set:Nat->Tr->Nat->ba->Tr
 |0,t,_,_=>t
 |n+1,t,i,o =>
  match t with
  | .nil=>match i with
   |0=>.node (some o) .nil .nil
   |i+1=>if i % 2 == 0 then .node none (Tr.set n .nil (i / 2) o) .nil else .node none .nil (Tr.set n .nil (i / 2) o)
  | .node v l r=>match i with
   |0=>.node (some o) l r
   |i+1=>if i % 2 == 0 then .node v (Tr.set n l (i / 2) o) r else .node v l (Tr.set n r (i / 2) o)

structure Heap where
 size:Nat
 tr:Tr
 low:Nat
abbrev aF:=Value->Heap->Prop
abbrev au:=ByteArray
abbrev ab:=Value

def Heap.get (h:Heap) (A:Nat):Option ba:=if A < h.size then h.tr.get A else none
def Heap.push (h:Heap) (b:ba):Heap:={ h with size:=h.size+1,tr:=h.tr.set (h.size+1) h.size b }
def Heap.set (h:Heap) (A:Nat) (b:ba):Heap:={ h with tr:=h.tr.set (A+1) A b,low:=min h.low A }
def Heap.empty:Heap:=⟨0,.nil,0⟩

def G:Nat:=18446744073709551616

abbrev Env:=List ab
def Env.get:Env->Nat->ab
 | [],_=>undef
 |v::_,0=>v
 |_::r,n+1=>Env.get r n
def Env.set:Env->Nat->ab->Env
 | [],_,_=>[]
 |_::r,0,v=>v::r
 |x::r,n+1,v=>x::Env.set r n v

def mO:ab->Bool
 | .bool _ | .int _ _ | .string _ | .nilFunc | .nilIface=>true
 | .pointer none | .map none=>true
 | .slice none n c=>n == 0 && c == 0
 | .func (.func _) f c=>f.isEmpty && c.isEmpty
 |_=>false
def plain:ab->Bool
 | .agg cs=>cs.toList.all mO
 |v=>mO v
def one:ab->Bool
 | .agg _ | .tuple _=>false
 |_=>true

def jh {Z:Type} (P:Program):Sem Z->Option Z
 | .pure a=>some a
 | .program k=>jh P (k P)
 | .mark _ k=>jh P k
 |_=>none

structure bI where
 desc:TypeId->Option TypeDesc
 info:TypeId->Option (Nat × Nat × List ab)
 fn:FuncId->Option Func
 cmp:TypeId->Bool
 zero:TypeId->Option ab
 gs:List Nat
 ze:TypeId->String->Option Method
 LS:FuncId->Bool

section
variable (P:Program) (T:bI)

def dg (t:TypeId):Option Nat:=(T.info t).map (·.1)
def cN (t:TypeId):Option Bool:=(T.desc t).map fun
 | .struct _ | .array _ _=>true
 |_=>false

def cut (cs:List ab) (o n:Nat):Option (List ab):=if o+n<=cs.length then some ((cs.drop o).take n) else none
def aB (cs:List ab) (o:Nat) (vs:List ab):List ab:=cs.take o++vs++cs.drop (o+vs.length)

def gD (A o n:Nat) (h:Heap):Option (List ab) :=
 match h.get A with
 |some (.row cs _ _)=>cut cs o n
 |_=>none

def iD (t:TypeId) (x:ab) (h:Heap):Option ab :=
 match x with
 | .pointer (some ⟨A,o,none⟩) =>
  (cN T t).bind λg =>
   if g then (dg T t).bind λn=>(gD A o n h).map λl=>.agg l.toArray
   else (gD A o 1 h).bind λl=>l[0]?
 |_=>none

def ki (A o:Nat) (vs:List ab) (h:Heap):Option Heap :=
 match h.get A with
 |some (.row cs e false)=>if o+vs.length<=cs.length && vs.all one then some (h.set A (.row (aB cs o vs) e false)) else none
 |_=>none

def iH (t:TypeId) (x v:ab) (h:Heap):Option Heap :=
 match x with
 | .pointer (some ⟨A,o,none⟩)=>(dg T t).bind λn=>if v.cells.size=n then ki A o v.cells.toList h else none
 |_=>none

def newRow (e:TypeId) (cs:List ab) (h:Heap):ab × Heap:=(.pointer (some ⟨h.size,0,none⟩),h.push (.row cs e false))

def mg (x:ab) (k:Nat) (h:Heap):Option (List ab) :=
 match x with
 | .slice (some ⟨A,o,none⟩) n _=>if n*k=0 then some [] else gD A o (n*k) h
 | .slice none 0 _=>some []
 |_=>none

def fw (x:ab) (k:Nat) (h:Heap):Option (Nat × List ab) :=
 match x with
 | .string b=>if k=1 then some (b.size,b.data.toList.map λu=>Value.int .u8 u.toNat) else none
 | .slice _ m _=>(mg x k h).map λl=>(m,l)
 |_=>none

def gC (t:TypeId) (s x:ab) (h:Heap):Option (ab × Heap) :=
 match T.desc t with
 |some (.slice e)=>(T.info e).bind λ(k,bytes,_) =>
  (fw x k h).bind λ(m,news) =>
  match s with
  | .slice base n c =>
   if m=0 then some (s,h) else
   if k=0 || (n+m)*bytes > 140737488355328 || n+m > 1152921504606846976 || !news.all one then none else
   if n+m<=c % G then
    match base with
    |some ⟨A,o,none⟩=>if c < G || c / G=k then (ki A (o+n*k) news h).map λh'=>(.slice base (n+m) c,h') else none
    |_=>none
   else
    (mg s k h).bind λeO =>
    if c < G then some (.slice (some ⟨h.size,0,none⟩) (n+m) (G*k+(n+m)),h.push (.row (eO++news) e false))
    else match base with
     |some ⟨A,_,none⟩=>match h.get A with
      |some (.row _ e' false) =>
       if e'=e && c / G=k then some (.slice (some ⟨h.size,0,none⟩) (n+m) (G*k+(n+m)),(h.set A .dead).push (.row (eO++news) e false)) else none
      |_=>none
     |_=>none
  |_=>none
 |_=>none

def xm (x:ab) (hi:Nat):Option Nat :=
 match x with
 | .int _ i=>if 0<=i/\i<=hi then some i.toNat else none
 |_=>none

def rF (len cap:Nat) (l h m:Option ab):Option (Nat × Nat × Nat) :=
 (match m with|some v=>xm v cap|none=>some cap).bind λm' =>
 (match h,m with|some v,_=>xm v m'|none,none=>some len|none,some _=>none).bind λh' =>
 (match l with|some v=>xm v h'|none=>some 0).bind λl'=>some (l',h',m')

def kV (t:TypeId) (x:ab) (l h m:Option ab):Option ab :=
 match T.desc t,x with
 |some .string,.string s=>if m.isSome then none else (rF s.size s.size l h none).map λ(l',h',_)=>.string (s.extract l' h')
 |some (.array n e),.pointer (some ⟨A,o,none⟩) =>
  (if n < G then rF n n l h m else none).bind λ(l',h',m')=>(dg T e).map λk=>.slice (some ⟨A,if m'=l' then o else o+l'*k,none⟩) (h' - l') (m' - l')
 |some (.slice e),.slice a n c =>
  (dg T e).bind λk =>
  if c < G then
   (rF n c l h m).bind λ(l',h',m')=>match a with
    |some ⟨A,o,none⟩=>some (.slice (some ⟨A,if m'=l' then o else o+l'*k,none⟩) (h' - l') (m' - l'))
    |none=>some (.slice none (h' - l') (m' - l'))
    |_=>none
  else match a with
   |some ⟨A,o,none⟩ =>
    if c / G=k then
     (rF n (c % G) l h m).map λ(l',h',m')=>match m with
      |some _=>.slice (some ⟨A,if m'=l' then o else o+l'*k,none⟩) (h' - l') (m' - l')
      |none=>.slice (some ⟨A,o+l'*k,none⟩) (h' - l') (G*k+(m' - l'))
    else none
   |_=>none
 |_,_=>none

def kh (t:TypeId) (x i:ab):Option ab :=
 match i with
 | .int _ i=>match T.desc t,x with
  |some (.array n e),.pointer (some ⟨A,o,none⟩)=>if 0<=i/\i < n then (dg T e).map λk=>.pointer (some ⟨A,o+i.toNat*k,none⟩) else none
  |some (.slice e),.slice (some ⟨A,o,none⟩) n _=>if 0<=i/\i < n then (dg T e).map λk=>.pointer (some ⟨A,o+i.toNat*k,none⟩) else none
  |_,_=>none
 |_=>none

def iS (s:TypeId) (x:ab) (f:Nat):Option ab :=
 match T.desc s,x with
 |some (.struct fs),.pointer (some ⟨A,o,none⟩) =>
  (fs[f]?).bind λf=>(dg T f.type).bind λn=>if n=0 then none else some (.pointer (some ⟨A,o+f.offset,none⟩))
 |_,_=>none

def wm (t:TypeId) (cs:List ab) (o:Nat):Option ab :=
 (cN T t).bind λg=>if g then (dg T t).bind λn=>(cut cs o n).map λl=>.agg l.toArray else cs[o]?

def Q3 (t:TypeId) (x:ab) (f:Nat):Option ab :=
 match T.desc t,x with
 |some (.struct fs),.agg cs=>(fs[f]?).bind λf=>wm T f.type cs.toList f.offset
 |_,_=>none

def Cu (E:TypeId->ab->ab->Option Bool) (xs ys:List ab):List (TypeId × Nat)->Option Bool
 | []=>some true
 |(t,o)::r=>(wm T t xs o).bind λa=>(wm T t ys o).bind λb=>(E t a b).bind λc=>if c then Cu E xs ys r else some false
def Ja:List Field->Option (List (TypeId × Nat))
 | []=>some []
 |f::fs=>if f.name="_" then none else (Ja fs).map λr=>(f.type,f.offset)::r
def Jk (e:TypeId) (k:Nat):Nat->Nat->List (TypeId × Nat)
 |0,_=>[]
 |n+1,i=>(e,i*k)::Jk e k n (i+1)
def fF:Nat->TypeId->ab->ab->Option Bool
 |0,_,_,_=>none
 |d+1,t,x,y=>match T.desc t,x,y with
  |some .bool,.bool a,.bool b=>some (a == b)
  |some (.int _),.int k a,.int k' b=>if k=k' then some (a == b) else none
  |some .string,.string a,.string b=>some (a.data.toList == b.data.toList)
  |some (.struct fs),.agg xs,.agg ys=>if T.cmp t then (Ja fs.toList).bind λps=>Cu T (fF d) xs.toList ys.toList ps else none
  |some (.array n e),.agg xs,.agg ys=>(dg T e).bind λk=>Cu T (fF d) xs.toList ys.toList (Jk e k n 0)
  |_,_,_=>none

def uJ (place:Nat->Option (Nat × Nat)) (cells:List ab):List (Nat × ab)->Option (List ab)
 | []=>some cells
 |(i,v)::rest=>(place i).bind λ(o,n) =>
  if v.cells.size=n/\o+n<=cells.length then uJ place (aB cells o v.cells.toList) rest else none

def QF:List Field->Option (List (Nat × Nat))
 | []=>some []
 |f::fs=>(dg T f.type).bind λn=>(QF fs).map λr=>(f.offset,n)::r

def qp (t:TypeId) (parts:List (Nat × ab)):Option ab :=
 (T.info t).bind λ(_,_,z) =>
 match T.desc t with
 |some (.struct fs)=>(QF T fs.toList).bind λplaces=>(uJ (λk=>places[k]?) z parts).map λcs=>.agg cs.toArray
 |some (.array _ e)=>(dg T e).bind λk=>(uJ (λi=>some (i*k,k)) z parts).map λcs=>.agg cs.toArray
 |_=>none

def oT (z:List ab) (n:Nat):List ab:=(List.replicate n z).flatten

def zq (t:TypeId) (len:Nat) (parts:List (Nat × ab)) (h:Heap):Option (ab × Heap) :=
 match T.desc t with
 |some (.slice e)=>(T.info e).bind λ(k,_,z) =>
  if len*k > 16777216 || len > 16777216 then none else
  (uJ (λi=>some (i*k,k)) (oT z len) parts).map λcs=>(.slice (some ⟨h.size,0,none⟩) len len,h.push (.row cs e false))
 |_=>none

def Qc (t:TypeId) (l c:ab) (h:Heap):Option (ab × Heap) :=
 match T.desc t,l,c with
 |some (.slice e),.int _ l,.int _ c=>(T.info e).bind λ(_,bytes,z) =>
  if 0<=l/\l<=c/\c<=1152921504606846976/\c*bytes<=140737488355328 then
   some (.slice (some ⟨h.size,0,none⟩) l.toNat c.toNat,h.push (.row (oT z c.toNat) e false))
  else none
 |_,_,_=>none

def Rn (t:TypeId) (d s:ab) (h:Heap):Option (ab × Heap) :=
 match T.desc t,d with
 |some (.slice e),.slice a n _=>(dg T e).bind λk =>
  (fw s k h).bind λ(m,src) =>
  if min m n=0 then some (.int .i64 0,h) else
  match a with
  |some ⟨A,o,none⟩=>(ki A o (src.take (min m n*k)) h).map λh'=>(.int .i64 (min m n:Nat),h')
  |_=>none
 |_,_=>none

def rI (t:TypeId) (x:ab) (h:Heap):Option Heap :=
 match T.desc t,x with
 |some (.slice e),.slice a n _ =>
  if n=0 then some h else
  (T.info e).bind λ(_,_,z) =>
  match a with
  |some ⟨A,o,none⟩=>ki A o (oT z n) h
  |_=>none
 |_,_=>none

def EB (d:TypeDesc) (x y:ab):Option Bool :=
 match d,x,y with
 | .pointer _,.pointer none,.pointer b=>some b.isNone
 | .pointer _,.pointer (some _),.pointer none=>some false
 | .slice _,.slice none _ _,.slice b _ _=>some b.isNone
 | .slice _,.slice (some _) _ _,.slice none _ _=>some false
 | .map _ _,.map none,.map b=>some b.isNone
 | .map _ _,.map (some _),.map none=>some false
 | .func _ _ _,.nilFunc,.nilFunc=>some true
 | .func _ _ _,.nilFunc,.func _ _ _=>some false
 | .func _ _ _,.func _ _ _,.nilFunc=>some false
 |_,_,_=>none

def sk (op:BinOp) (x y:ab):Option ab :=
 match op,x,y with
 | .add,.int k a,.int k' b=>if k=k' then some (.int k (k.wrap (a+b))) else none
 | .sub,.int k a,.int k' b=>if k=k' then some (.int k (k.wrap (a - b))) else none
 | .eql,.int k a,.int k' b=>if k=k' then some (.bool (a == b)) else none
 | .neq,.int k a,.int k' b=>if k=k' then some (.bool (a != b)) else none
 | .lss,.int k a,.int k' b=>if k=k' then some (.bool (a < b)) else none
 | .leq,.int k a,.int k' b=>if k=k' then some (.bool (a<=b)) else none
 | .gtr,.int k a,.int k' b=>if k=k' then some (.bool (a > b)) else none
 | .geq,.int k a,.int k' b=>if k=k' then some (.bool (a >= b)) else none
 |_,_,_=>none

def cz (op:BinOp) (t:TypeId) (x y:ab):Option ab :=
 match sk op x y with
 |some v=>some v
 |none =>
  match (T.desc t).bind λd=>EB d x y with
  |some b=>(match op with | .eql=>some (.bool b) | .neq=>some (.bool !b)|_=>none)
  |none =>
   if plain x && plain y then
    match x,y with
    | .nilIface,_=>none
    | .agg _,.agg _=>if T.cmp t then (match op with
     | .eql=>(fF T 20 t x y).map λb=>.bool b
     | .neq=>(fF T 20 t x y).map λb=>.bool !b
     |_=>none) else none
    |_,_=>(jh P (binOp op t x y)).bind λv=>if plain v then some v else none
   else none

def bo (t:TypeId) (x:ab) (h:Heap):Option ab :=
 match T.desc t,x with
 |some .string,.string s=>some (.int .i64 s.size)
 |some (.slice _),.slice _ n _=>some (.int .i64 n)
 |some (.map _ _),.map none=>some (.int .i64 0)
 |some (.map _ _),.map (some A)=>(match h.get A with
  |some (.map es _)=>some (.int .i64 es.length)
  |_=>none)
 |_,_=>none

def Ib:ab->ab->Bool
 | .bool a,.bool b=>a == b
 | .int j a,.int k b=>decide (j=k) && a == b
 | .string a,.string b=>a.data.toList == b.data.toList
 |_,_=>false
def Jv:List ab->List ab->Bool
 | [],[]=>true
 |x::xs,y::ys=>Ib x y && Jv xs ys
 |_,_=>false
def HH:ab->ab->Bool
 | .agg a,.agg b=>Jv a.toList b.toList
 |x,y=>Ib x y
def wk (kt:TypeId) (k:ab):Bool:=if plain k then (match fF T 20 kt k k with|some b=>b|none=>false) else false
def qJ (kt:TypeId) (k:ab):List MapEntry->Nat->Option (Option (Nat × ab))
 | [],_=>some none
 |e::es,i=>(fF T 20 kt k e.key).bind λb=>if b then some (some (i,e.val)) else qJ kt k es (i+1)
def Rw (x:ab) (h:Heap):Option (List MapEntry) :=
 match x with
 | .map none=>some []
 | .map (some A)=>(match h.get A with|some (.map es _)=>some es|_=>none)
 |_=>none
def Cs (t:TypeId) (x k:ab) (ok:Bool) (h:Heap):Option ab :=
 match T.desc t with
 |some (.map kt et) =>
  if wk T kt k then
   (Rw x h).bind λes=>(qJ T kt k es 0).bind λr=>(match r with
    |some (_,v)=>some (v,true)
    |none=>(T.zero et).map λz=>(z,false)).map λ(v,b)=>if ok then .tuple #[v,.bool b] else v
  else none
 |_=>none
def rO (t:TypeId) (x k v:ab) (h:Heap):Option Heap :=
 match T.desc t,x with
 |some (.map kt _),.map (some A)=>(match h.get A with
  |some (.map es clock) =>
   if wk T kt k then
    (qJ T kt k es 0).bind λr=>match r with
     |some (i,_)=>(es[i]?).bind λe=>if HH e.key k then some (h.set A (.map (es.modify i λe=>{ e with key:=k,val:=v }) clock)) else none
     |none=>some (h.set A (.map (es++[{ key:=k,val:=v,born:=clock }]) (clock+1)))
   else none
  |_=>none)
 |_,_=>none

def bt (e:Env):Operand->ab
 | .tmp t=>e.get t
 | .const v=>v
 | .global g=>.pointer (some ⟨g,0,none⟩)
 | .func f=>.func (.func f) #[] #[]

def AA (t:TypeId) (x k:ab) (h:Heap):Option Heap :=
 match T.desc t,x with
 |some (.map kt _),.map none=>if wk T kt k then some h else none
 |some (.map kt _),.map (some A)=>(match h.get A with
  |some (.map es clock) =>
   if wk T kt k then
    (qJ T kt k es 0).bind λr=>match r with
     |some (i,_)=>some (h.set A (.map (es.eraseIdx i) clock))
     |none=>some (h.set A (.map es clock))
   else none
  |_=>none)
 |_,_=>none

def Em (t:TypeId) (x k:ab) (h:Heap):Option (ab × Heap) :=
 match T.desc t,x with
 |some (.map kt et),.map (some A)=>(match h.get A with
  |some (.map es clock) =>
   if wk T kt k then
    (qJ T kt k es 0).bind λr=>match r with
     |some (i,v)=>(es[i]?).bind λe=>if HH e.key k then some (.tuple #[v,.int .i64 e.born],h.set A (.map (es.modify i λe=>{ e with key:=k }) clock)) else none
     |none=>(T.zero et).map λz=>(.tuple #[z,.int .i64 clock],h.set A (.map (es++[{ key:=k,val:=z,born:=clock }]) (clock+1)))
   else none
  |_=>none)
 |_,_=>none
def JH (s:Int):List MapEntry->Nat->Option Nat
 | [],_=>none
 |e::es,i=>if (e.born:Int)=s then some i else JH s es (i+1)
def zr (x s v:ab) (h:Heap):Option Heap :=
 match x,s with
 | .map (some A),.int _ b=>(match h.get A with
  |some (.map es clock)=>(JH b es 0).map λi=>h.set A (.map (es.modify i λe=>{ e with val:=v }) clock)
  |_=>none)
 |_,_=>none

def JS (t:TypeId) (x:ab):Option ab:=match T.desc t with
 |some (.interface _)=>none
 |some _=>some (.iface t x)
 |none=>none
def Qz (x:ab) (asserted:TypeId) (ok:Bool):Option ab:=match T.desc asserted with
 |some (.interface _)=>none
 |some _=>(match x with
  | .iface t v=>if t=asserted then some (if ok then .tuple #[v,.bool true] else v) else if ok then (T.zero asserted).map λz=>.tuple #[z,.bool false] else none
  | .nilIface=>if ok then (T.zero asserted).map λz=>.tuple #[z,.bool false] else none
  |_=>none)
 |none=>none
inductive gN where
 |val (v:ab)
 |var (p:ab)
def gN.get (t:TypeId) (h:Heap):gN->Option ab
 | .val v=>some v
 | .var p=>iD T t p h
def Jz (h:Heap):List FieldStep->TypeId->gN->Option (TypeId × gN)
 | [],t,x=>some (t,x)
 |s::rest,t,x=>match T.desc s.struct with
  |some (.struct fs)=>(fs[s.index]?).bind λf =>
   if s.deref then (x.get T t h).bind λp=>(iS T s.struct p s.index).bind λq=>Jz h rest f.type (.var q)
   else match x with
    | .var p=>(iS T s.struct p s.index).bind λq=>Jz h rest f.type (.var q)
    | .val (.agg cs)=>(wm T f.type cs.toList f.offset).bind λv=>Jz h rest f.type (.val v)
    |_=>none
  |_=>none
def zjN (xt:TypeId) (x:gN) (ptr:Bool) (h:Heap):Option ab :=
 match T.desc xt,ptr,x with
 |some (.pointer _),true,x=>x.get T xt h
 |some (.pointer elem),false,x=>(x.get T xt h).bind λp=>iD T elem p h
 |some _,true,.var p=>(match p with | .pointer (some a)=>some (.pointer (some a))|_=>none)
 |some _,false,x=>x.get T xt h
 |_,_,_=>none
def xh (t:TypeId) (v:ab) (name:String) (h:Heap):Option (FuncId × ab) :=
 (T.ze t name).bind λm=>(Jz T h m.path.toList t (.val v)).bind λ(xt,x)=>match m.func with
  |some (f,ptr)=>(zjN T xt x ptr h).map λr=>(f,r)
  |none=>none

def QW:List ab->Option (List UInt8)
 | []=>some []
 | .int .u8 n::l=>(QW l).map (UInt8.ofNat n.toNat::·)
 |_=>none
def TF (s d:TypeId) (x:ab) (h:Heap):Option ab :=
 match T.desc s,T.desc d,x with
 |some (.slice e),some .string,.slice _ _ _=>(match T.desc e with
  |some (.int .u8)=>(mg x 1 h).bind λl=>(QW l).map λbs=>.string ⟨bs.toArray⟩
  |_=>none)
 |_,_,_=>none
def Ju (d:TypeId) (x:ab) (h:Heap):Option (ab × Heap) :=
 match T.desc d,x with
 |some (.slice e),.string b=>(match T.desc e,T.info e with
  |some (.int .u8),some (1,_,_)=>if b.size > 1152921504606846976\/e≠5 then none else some (.slice (some ⟨h.size,0,none⟩) b.size (G*1+b.size),h.push (.row (b.data.toList.map λu=>Value.int .u8 u.toNat) e false))
  |_,_=>none)
 |_,_=>none
def TJ (t:TypeId):Bool:=match T.desc t with
 |some .string=>true
 |_=>false
def uE (t:TypeId):Bool:=match T.desc t with
 |some (.slice _)=>true
 |_=>false
def Fm (t:TypeId) (x:ab):Option ab :=
 match T.desc t,x with
 |some (.slice _),.slice _ _ c=>if c < G then some (.int .i64 c) else none
 |_,_=>none

def i7 (e:Env) (o:Oper) (h:Heap):Option (ab × Heap) :=
 if o.op.operands.toList.all λx=>plain (bt e x) then
  match jh P (execOp (bt e) o) with
  |some (.value v)=>if plain v then some (v,h) else none
  |_=>none
 else none

def su (t u:TypeId):Bool:=u == t || (match T.desc u with|some .string|some (.slice _)=>true|_=>false)

variable (C:Fn->List ab->Heap->Option (ab × Heap))

def gL (e:Env) (o:Oper) (h:Heap):Option (ab × Heap) :=
 let v:=bt e
 match o.op with
 | .move x=>some (v x,h)
 | .assign x=>some (v x,h)
 | .pick c a b=>match v c with | .bool t=>some (if t then v a else v b,h)|_=>none
 | .alloc t=>(T.info t).map λ(_,_,z)=>newRow t z h
 | .box t x=>some (newRow t (v x).cells.toList h)
 | .build t ps=>(qp T t (ps.toList.map λ(i,x)=>(i,v x))).map λr=>(r,h)
 | .buildSlice t n ps=>zq T t n (ps.toList.map λ(i,x)=>(i,v x)) h
 | .load t a=>(iD T t (v a) h).map λr=>(r,h)
 | .store t a x=>(iH T t (v a) (v x) h).map λh'=>(undef,h')
 | .nilCheck x=>match v x with
  | .pointer (some a)=>some (.pointer (some a),h)
  | .func (.func f) a b=>some (.func (.func f) a b,h)
  | .iface t a=>some (.iface t a,h)
  |_=>none
 | .binOp op t x y _=>(cz P T op t (v x) (v y)).map λr=>(r,h)
 | .makeFunc fn first captured=>match fn with | .func f=>some (.func (.func f) (first.map v) (captured.map v),h)|_=>none
 | .makeSlice t l c=>Qc T t (v l) (v c) h
 | .slice t x l hi m=>(kV T t (v x) (l.map v) (hi.map v) (m.map v)).map λr=>(r,h)
 | .fieldAddr s x f=>(iS T s (v x) f).map λr=>(r,h)
 | .field t x f=>(Q3 T t (v x) f).map λr=>(r,h)
 | .indexAddr t x i=>(kh T t (v x) (v i)).map λr=>(r,h)
 | .extract t i=>match v t with | .tuple vs=>(vs[i]?).map λr=>(r,h)|_=>none
 | .unOp _ _ _=>i7 P e o h
 | .convert s d x=>if uE T s then (TF T s d (v x) h).map λr=>(r,h) else if uE T d then (if TJ T s then Ju T d (v x) h else none) else i7 P e o h
 | .index _ _ _=>i7 P e o h
 | .call c=>match c.callee with
  | .builtin .append=>match c.argTypes.toList,c.args.toList with
   | [t,u],[s,x]=>if su T t u then gC T t (v s) (v x) h else none
   |_,_=>none
  | .builtin .copy=>match c.argTypes.toList,c.args.toList with
   | [t,_],[d,s]=>Rn T t (v d) (v s) h
   |_,_=>none
  | .builtin .clear=>match c.argTypes.toList,c.args.toList with
   | [t],[x]=>(rI T t (v x) h).map λh'=>(undef,h')
   |_,_=>none
  | .builtin .len=>match c.argTypes.toList,c.args.toList with
   |t::_,[x]=>(bo T t (v x) h).map λr=>(r,h)
   |_,_=>none
  | .builtin .min=>i7 P e o h
  | .builtin .max=>i7 P e o h
  | .builtin .delete=>match c.argTypes.toList,c.args.toList with
   |t::_,[m,k]=>(AA T t (v m) (v k) h).map λh'=>(undef,h')
   |_,_=>none
  | .builtin .cap=>match c.argTypes.toList,c.args.toList with
   |t::_,[x]=>(Fm T t (v x)).map λr=>(r,h)
   |_,_=>none
  | .invoke r name=>match v r with
   | .iface t x=>(xh T t x name h).bind λ(f,y)=>C (.func f) (y::c.args.toList.map v) h
   |_=>none
  | .value f=>match v f with
   | .func (.func f) first captured=>C (.func f) (first.toList++c.args.toList.map v++captured.toList) h
   | .func (.yield A) first captured=>if first.isEmpty && captured.isEmpty then C (.yield A) (c.args.toList.map v) h else none
   |_=>none
  |_=>none
 | .makeMap t r=>match r with
  |none=>some (.map (some h.size),h.push (.map [] 0))
  |some x=>(match T.desc t,v x with
   |some (.map _ _),.int _ _=>some (.map (some h.size),h.push (.map [] 0))
   |_,_=>none)
 | .lookup t x k ok=>(Cs T t (v x) (v k) ok h).map λr=>(r,h)
 | .mapUpdate t m k x=>(rO T t (v m) (v k) (v x) h).map λh'=>(undef,h')
 | .insert t m k x=>(rO T t (v m) (v k) (v x) h).map λh'=>(undef,h')
 | .mapEntry t m k=>Em T t (v m) (v k) h
 | .entryStore _ m s x=>(zr (v m) (v s) (v x) h).map λh'=>(undef,h')
 | .makeInterface t x=>(JS T t (v x)).map λr=>(r,h)
 | .typeAssert x _ t ok=>(Qz T (v x) t ok).map λr=>(r,h)
 |_=>none

def nR (ops:Array Oper) (o:Oper) (e:Env):Bool :=
 match o.guard with
 |none=>true
 |some (j,b)=>match (ops[j]?).bind (·.dst) with
  |some t=>(match e.get t with | .bool c=>c == b|_=>false)
  |none=>false

def put (e:Env) (d:Option Tmp) (v:ab):Env:=match d with
 |some d=>e.set d v
 |none=>e

def tG (ops:Array Oper):List Oper->Env->Heap->Option (Env × Heap)
 | [],e,h=>some (e,h)
 |o::rest,e,h =>
  if nR ops o e then
   match gL P T C e o h with
   |some (v,h')=>tG ops rest (put e o.dst v) h'
   |none=>none
  else tG ops rest (put e o.dst undef) h

inductive Ex where
 |normal
 |exit (id:Nat)
 |ret

def iter (f:Env->Heap->Option (Ex × Env × Heap)):Nat->Env->Heap->Option (Ex × Env × Heap)
 |0,_,_=>none
 |n+1,e,h=>match f e h with
  |some (.normal,e',h')=>iter f n e' h'
  |r=>r

variable (D:Array Oper->Env->Heap->Option (Env × Heap))

def TE (rd:Option Nat) (h:Heap):Bool:=match rd with
 |none=>true
 |some A=>(match h.get A with|some (.loop ..)=>true|_=>false)
def D0 (l:Nat) (e:Env) (h:Heap):Option (Ex × Env × Heap) :=
 match h.get l with
 |some (.loop env ps assign body st fY)=>(match st with
  | .busy=>none
  |_=>(match fY with
   |none=>some (.normal,e,h.set l (.loop env ps assign body .exhausted fY))
   |some (.exit id)=>some (.exit id,e,h.set l (.loop env ps assign body .exhausted fY))
   |some .ret=>some (.ret,e,h.set l (.loop env ps assign body .exhausted fY))
   |_=>none))
 |_=>none
def TQ (f:FuncId):Bool:=match T.fn f with
 |some fn=>(match fn.body with|some _=>true|none=>false)
 |none=>false
def JF (rd:Option Nat) (g:ab) (ps:List Tmp) (assign body:Code) (e:Env) (h:Heap):Option (Ex × Env × Heap) :=
 match g with
 | .func (.func f) first captured =>
  if TE rd h && TQ T f then
   match C (.func f) (first.toList++[.func (.yield h.size) #[] #[]]++captured.toList) (h.push (.loop e ps assign body .ready none)) with
   |some (_,h2)=>D0 h.size e h2
   |none=>none
  else none
 |_=>none

def eh (rd:Option Nat) (fuel:Nat):Code->Env->Heap->Option (Ex × Env × Heap)
 | .skip,e,h=>some (.normal,e,h)
 | .region _ ops d,e,h=>(if d then D ops e h else tG P T C ops ops.toList e h).map λ(e',h')=>(.normal,e',h')
 | .seq a b,e,h=>match eh rd fuel a e h with
  |some (.normal,e',h')=>eh rd fuel b e' h'
  |r=>r
 | .cond c a b,e,h=>match bt e c with
  | .bool true=>eh rd fuel a e h
  | .bool false=>eh rd fuel b e h
  |_=>none
 | .block id c,e,h=>match eh rd fuel c e h with
  |some (.exit i,e',h')=>if i=id then some (.normal,e',h') else some (.exit i,e',h')
  |r=>r
 | .loop c,e,h=>iter (eh rd fuel c) fuel e h
 | .scope c,e,h=>eh rd fuel c e h
 | .rangeFunc g ps assign body,e,h=>JF T C rd (bt e g) ps.toList assign body e h
 | .exit id,e,h=>some (.exit id,e,h)
 | .ret,e,h=>some (.ret,e,h)
 | .label _,e,h=>some (.normal,e,h)
 |_,_,_=>none

def zw (e:Env) (h:Heap):ResultVar->Option ab
 | .tmp t=>some (e.get t)
 | .cell a t=>iD T t (e.get a) h

def pz (fn:Func) (e:Env) (h:Heap):Option ab :=
 match fn.results.toList with
 | [r]=>zw T e h r
 |rs=>(rs.mapM (zw T e h)).map λvs=>.tuple vs.toArray
end

def Qi (gs:List Nat):Operand->Bool
 | .const v=>plain v
 | .global g=>gs.contains g
 |_=>true
def N1 (gs:List Nat) (o:Oper):Bool:=o.op.operands.toList.all (Qi gs)
def so (gs:List Nat):Code->Bool
 | .region _ ops _=>ops.toList.all (N1 gs)
 | .seq a b=>so gs a && so gs b
 | .cond c a b=>Qi gs c && so gs a && so gs b
 | .block _ c=>so gs c
 | .loop c=>so gs c
 | .scope c=>so gs c
 | .rangeFunc g _ a b=>Qi gs g && so gs a && so gs b
 |_=>true
end Go.Am
namespace Go.Am
open Go.RowKit
variable {h:Heap} {u v x:ab} {l m:List ab} {w:World}

theorem Tr.get_nil (i:Nat):Tr.get .nil i=none:=by cases i <;> rfl

theorem Tr.aJ:∀ (n:Nat) (t:Tr) (i j:Nat) (o:ba),i < n->(Tr.set n t i o).get j=if j=i then some o else t.get j
 |0,_,_,_,_,h=>by omega
 |n+1,t,i,j,o,h=>by
  cases t with
  |nil =>
   cases i with
   |zero=>cases j with
    |zero=>simp [Tr.set,Tr.get]
    |succ j=>simp [Tr.set,Tr.get]
   |succ i =>
    have hi:i / 2 < n:=by omega
    by_cases he:i % 2=0
    .cases j with
     |zero=>simp [Tr.set,Tr.get,he]
     |succ j =>
      by_cases hj:j % 2=0
      .simp only [Tr.set,Tr.get,he,hj,beq_self_eq_true,if_true,Tr.aJ n .nil (i / 2) (j / 2) o hi]
       by_cases e:j=i
       .subst e;simp
       .rw [az (by omega),az (by omega)]
      .have r5:(j % 2 == 0)=false:=by simpa using hj
       simp only [Tr.set,Tr.get,he,r5,beq_self_eq_true,if_true,gM,if_false]
       rw [az (by intro e;apply hj;have:j=i:=by omega
                  subst this;exact he)]
    .have Ad:(i % 2 == 0)=false:=by simpa using he
     cases j with
     |zero=>simp [Tr.set,Tr.get,Ad]
     |succ j =>
      by_cases hj:j % 2=0
      .simp only [Tr.set,Tr.get,Ad,hj,beq_self_eq_true,if_true,gM,if_false]
       rw [az (by intro e;apply he;have:j=i:=by omega
                  subst this;exact hj)]
      .have r5:(j % 2 == 0)=false:=by simpa using hj
       simp only [Tr.set,Tr.get,Ad,r5,gM,if_false,Tr.aJ n .nil (i / 2) (j / 2) o hi]
       by_cases e:j=i
       .subst e;simp
       .rw [az (by omega),az (by omega)]
  |node v l r =>
   cases i with
   |zero=>cases j with
    |zero=>simp [Tr.set,Tr.get]
    |succ j=>simp [Tr.set,Tr.get]
   |succ i =>
    have hi:i / 2 < n:=by omega
    by_cases he:i % 2=0
    .cases j with
     |zero=>simp [Tr.set,Tr.get,he]
     |succ j =>
      by_cases hj:j % 2=0
      .simp only [Tr.set,Tr.get,he,hj,beq_self_eq_true,if_true,Tr.aJ n l (i / 2) (j / 2) o hi]
       by_cases e:j=i
       .subst e;simp
       .rw [az (by omega),az (by omega)]
      .have r5:(j % 2 == 0)=false:=by simpa using hj
       simp only [Tr.set,Tr.get,he,r5,beq_self_eq_true,if_true,gM,if_false]
       rw [az (by intro e;apply hj;have:j=i:=by omega
                  subst this;exact he)]
    .have Ad:(i % 2 == 0)=false:=by simpa using he
     cases j with
     |zero=>simp [Tr.set,Tr.get,Ad]
     |succ j =>
      by_cases hj:j % 2=0
      .simp only [Tr.set,Tr.get,Ad,hj,beq_self_eq_true,if_true,gM,if_false]
       rw [az (by intro e;apply he;have:j=i:=by omega
                  subst this;exact hj)]
      .have r5:(j % 2 == 0)=false:=by simpa using hj
       simp only [Tr.set,Tr.get,Ad,r5,gM,if_false,Tr.aJ n r (i / 2) (j / 2) o hi]
       by_cases e:j=i
       .subst e;simp
       .rw [az (by omega),az (by omega)]

theorem Heap.size_push (h:Heap) (b:ba):(h.push b).size=h.size+1:=rfl
theorem Heap.size_set (h:Heap) (A:Nat) (b:ba):(h.set A b).size=h.size:=rfl
theorem Heap.cR (h:Heap) (b:ba):(h.push b).low=h.low:=rfl
theorem Heap.bQ (h:Heap) (A:Nat) (b:ba):(h.set A b).low=min h.low A:=rfl
theorem Heap.bg (h:Heap) (b:ba) (j:Nat):(h.push b).get j=if j=h.size then some b else h.get j:=by
 simp only [Heap.get,Heap.push,Tr.aJ _ _ _ _ _ (wt _)]
 by_cases e:j=h.size
 .subst e;simp
 .by_cases hl:j < h.size
  .rw [aE (by omega),az e,aE hl,az e]
  .rw [az (by omega),az e,az hl]
theorem Heap.aJ (h:Heap) (A:Nat) (b:ba) (j:Nat) (hA:A < h.size):(h.set A b).get j=if j=A then some b else h.get j:=by
 simp only [Heap.get,Heap.set,Tr.aJ _ _ _ _ _ (wt _)]
 by_cases e:j=A
 .subst e;simp [hA]
 .by_cases hl:j < h.size
  .rw [aE hl,az e,aE hl,az e]
  .rw [az hl,az e,az hl]
theorem Heap.bw {A:Nat} {b:ba} (hb:h.get A=some b):A < h.size:=by
 unfold Heap.get at hb
 split at hb
 .assumption
 .cases hb

theorem Env.length_set:∀ (e:Env) (i:Nat) (v:ab),(Env.set e i v).length=e.length
 | [],_,_=>rfl
 |_::_,0,_=>rfl
 |x::r,n+1,v=>by simp [Env.set,Env.length_set r n v]
theorem Env.aJ:∀ (e:Env) (i j:Nat) (v:ab),(Env.set e i v).get j=if j=i/\i < e.length then v else e.get j
 | [],_,_,_=>by simp [Env.set,Env.get]
 |x::r,0,j,v=>by cases j <;> simp [Env.set,Env.get]
 |x::r,i+1,j,v=>by
  cases j with
  |zero=>simp [Env.set,Env.get]
  |succ j=>simp [Env.set,Env.get,Env.aJ r i j v]
theorem Env.o8:∀ (e:Env) (i:Nat),e.length<=i->e.get i=undef
 | [],_,_=>by simp [Env.get]
 |_::r,i+1,h=>by simp only [Env.get];exact Env.o8 r i (by simpa using h)
 |_::_,0,h=>by simp at h
theorem Env.get_eq:∀ (e:Env) (i:Nat),e.get i=(e[i]?).getD undef
 | [],_=>by simp [Env.get]
 |_::_,0=>by simp [Env.get]
 |_::r,i+1=>by simp [Env.get,Env.get_eq r i]

structure Loc where
 b:Nat
 s:Nat
 vP:Nat

abbrev cm:=Nat->Option Loc

inductive VR (ρ:cm):ab->ab->Prop where
 |bool (b:Bool):VR ρ (.bool b) (.bool b)
 |int (k:IntKind) (n:Int):VR ρ (.int k n) (.int k n)
 |string (s:au):VR ρ (.string s) (.string s)
 |qg:VR ρ (.pointer none) (.pointer none)
 |ptr {A o:Nat} {L:Loc} (h:ρ A=some L):VR ρ (.pointer (some ⟨A,o,none⟩)) (.pointer (some ⟨L.b,L.s+o,none⟩))
 |dI:VR ρ (.slice none 0 0) (.slice none 0 0)
 |slice {A o n c:Nat} {L:Loc} {ad:Addr} (h:ρ A=some L) (hc:c < G) (hn:n<=c) (en:c≠0->ad=⟨L.b,L.s+o,none⟩):VR ρ (.slice (some ⟨A,o,none⟩) n c) (.slice (some ad) n c)
 |b9 {A o n c c':Nat} {L:Loc} {ad:Addr} (h:ρ A=some L) (hc:G<=c) (dt:c % G<=c') (hn:n<=c % G) (hk:0 < c / G)
  (hm:c'<=maxLen) (en:c'≠0->ad=⟨L.b,L.s+o,none⟩/\L.s+o+c'*(c / G)<=L.vP):VR ρ (.slice (some ⟨A,o,none⟩) n c) (.slice (some ad) n c')
 |qe:VR ρ (.map none) (.map none)
 |nilFunc:VR ρ .nilFunc .nilFunc
 |oM (b:Nat):VR ρ (.chan (some b)) (.pointer (some ⟨b,0,none⟩))
 |map {A:Nat} {L:Loc} (h:ρ A=some L):VR ρ (.map (some A)) (.map (some L.b))
 |yield {A:Nat} {L:Loc} (h:ρ A=some L):VR ρ (.func (.yield A) #[] #[]) (.func (.yield L.b) #[] #[])
 |func (fn:FuncId) {f g c d:Array ab} (hf:f.size=g.size) (hc:c.size=d.size) (h1:∀ (i:Nat) (x y:ab),f[i]? = some x->g[i]? = some y->VR ρ x y)
  (h2:∀ (i:Nat) (x y:ab),c[i]? = some x->d[i]? = some y->VR ρ x y):VR ρ (.func (.func fn) f c) (.func (.func fn) g d)
 |nilIface:VR ρ .nilIface .nilIface
 |iface (t:TypeId) {x y:ab} (h:VR ρ x y):VR ρ (.iface t x) (.iface t y)
 |agg {c d:Array ab} (hc:c.size=d.size) (h:∀ (i:Nat) (x y:ab),c[i]? = some x->d[i]? = some y->VR ρ x y):VR ρ (.agg c) (.agg d)
 |tuple {c d:Array ab} (hc:c.size=d.size) (h:∀ (i:Nat) (x y:ab),c[i]? = some x->d[i]? = some y->VR ρ x y):VR ρ (.tuple c) (.tuple d)

theorem VR.mono {ρ ρ':cm} (hg:∀ A L,ρ A=some L->ρ' A=some L) (h:VR ρ v u):VR ρ' v u:=by
 induction h with
 |bool b=>exact .bool b
 |int k n=>exact .int k n
 |string s=>exact .string s
 |qg=>exact .qg
 |ptr h=>exact .ptr (hg _ _ h)
 |dI=>exact .dI
 |slice h hc hn en=>exact .slice (hg _ _ h) hc hn en
 |b9 h hc dt hn hk hm en=>exact .b9 (hg _ _ h) hc dt hn hk hm en
 |qe=>exact .qe
 |map h=>exact .map (hg _ _ h)
 |yield h=>exact .yield (hg _ _ h)
 |nilFunc=>exact .nilFunc
 |oM b=>exact .oM b
 |func fn hf hc h1 h2 i1 i2=>exact .func fn hf hc i1 i2
 |nilIface=>exact .nilIface
 |iface t h ih=>exact .iface t ih
 |agg hc h ih=>exact .agg hc ih
 |tuple hc h ih=>exact .tuple hc ih

theorem VR.undef (ρ:cm):VR ρ undef undef:=.tuple rfl (by intro i x y hx;simp at hx)

theorem VR.mb (ρ:cm) (h:mO v=true):VR ρ v v:=by
 cases v with
 |bool b=>exact .bool b
 |int k n=>exact .int k n
 |string s=>exact .string s
 |pointer a=>cases a with
  |none=>exact .qg
  |some a=>simp [mO] at h
 |slice a n c=>cases a with
  |none =>
   simp [mO] at h
   obtain ⟨rfl,rfl⟩:=h
   exact .dI
  |some a=>simp [mO] at h
 |map r=>cases r with
  |none=>exact .qe
  |some r=>simp [mO] at h
 |func fn f c =>
  cases fn with
  |func fn =>
   simp [mO] at h
   obtain ⟨rfl,rfl⟩:=h
   exact .func fn rfl rfl (by intro i x y hx;simp at hx) (by intro i x y hx;simp at hx)
  |_=>simp [mO] at h
 |nilFunc=>exact .nilFunc
 |nilIface=>exact .nilIface
 |_=>simp [mO] at h

theorem VR.oZ {ρ:cm} (hv:VR ρ v u) (h:mO v=true):u=v:=by
 cases hv with
 |func fn hf hc h1 h2 =>
  simp [mO] at h
  obtain ⟨rfl,rfl⟩:=h
  have e1:∀ (a:Array ab),(#[]:Array ab).size=a.size->a=#[]:=λa ha=>Array.eq_empty_of_size_eq_zero (by simpa using ha.symm)
  rw [e1 _ hf,e1 _ hc]
 |_=>first|rfl|simp [mO] at h

theorem VR.dH (ρ:cm) (h:plain v=true):VR ρ v v:=by
 cases v with
 |agg cs =>
  refine .agg rfl λi x y hx hy=>?_
  have e:x=y:=by rw [hx] at hy;exact Option.some.inj hy
  subst e
  simp only [plain,iT] at h
  exact .mb ρ (h x (by simpa using Array.mem_of_getElem? hx))
 |_=>exact .mb ρ h

theorem VR.bD {ρ:cm} (hv:VR ρ v u) (h:plain v=true):u=v:=by
 cases hv with
 |agg hc hh =>
  rename_i c d
  congr 1
  refine Array.ext hc.symm λi h1 h2=>?_
  simp only [plain,iT] at h
  have hx:c[i]? = some c[i]:=xl h2
  exact (hh i _ _ hx (xl h1)).oZ (h _ (by simp))
 |tuple hc hh=>simp [plain,mO] at h
 |func fn hf hc h1 h2=>exact (VR.func fn hf hc h1 h2).oZ h
 |_=>first|rfl|(simp [plain,mO] at h;done)

theorem VR.one {ρ:cm} {v u:ab} (hv:VR ρ v u) (h:one v=true):u.oneCell'=true:=by
 cases hv <;> first|rfl|simp [Am.one] at h

def cu (ρ:cm) (l m:List ab):Prop:=l.length=m.length/\∀ (i:Nat) (x y:ab),l[i]? = some x->m[i]? = some y->VR ρ x y

theorem cu.nil (ρ:cm):cu ρ [] []:=⟨rfl,by intro i x y hx;simp at hx⟩
theorem cu.cons {ρ:cm} {y:ab} (h:VR ρ x y) (hl:cu ρ l m):cu ρ (x::l) (y::m) :=
 ⟨by simp [hl.1],λi a b ha hb=>by
  cases i with
  |zero=>simp at ha hb;subst ha hb;exact h
  |succ i=>exact hl.2 i a b (by simpa using ha) (by simpa using hb)⟩
theorem cu.of_cons {ρ:cm} (h:cu ρ (x::l) m):∃ y m',m=y::m'/\VR ρ x y/\cu ρ l m':=by
 cases m with
 |nil=>have:=h.1;simp at this
 |cons y m =>
  exact ⟨y,m,rfl,h.2 0 x y rfl rfl,by have:=h.1;simpa using this,λi a b ha hb=>h.2 (i+1) a b (by simpa using ha) (by simpa using hb)⟩
theorem cu.of_nil {ρ:cm} (h:cu ρ [] m):m=[]:=by
 have:=h.1
 simp at this
 exact Tt this.symm
theorem cu.mono {ρ ρ':cm} (hg:∀ A L,ρ A=some L->ρ' A=some L) {l m:List ab} (h:cu ρ l m):cu ρ' l m:=⟨h.1,λi x y hx hy=>(h.2 i x y hx hy).mono hg⟩
theorem cu.append {ρ:cm} {l' m':List ab} (h:cu ρ l m) (h':cu ρ l' m'):cu ρ (l++l') (m++m'):=by
 induction l generalizing m with
 |nil=>rw [h.of_nil];exact h'
 |cons x l ih =>
  obtain ⟨y,m1,rfl,hx,hl⟩:=h.of_cons
  exact .cons hx (ih hl)
theorem cu.take {ρ:cm} {l m:List ab} (h:cu ρ l m) (n:Nat):cu ρ (l.take n) (m.take n):=by
 refine ⟨by simp [h.1],λi x y hx hy=>?_⟩
 rw [mi] at hx hy
 split at hx
 .rename_i hi;rw [aE hi] at hy;exact h.2 i x y hx hy
 .cases hx
theorem cu.drop {ρ:cm} {l m:List ab} (h:cu ρ l m) (n:Nat):cu ρ (l.drop n) (m.drop n) :=
 ⟨by simp [h.1],λi x y hx hy=>h.2 (n+i) x y (by simpa using hx) (by simpa using hy)⟩
theorem cu.aB {ρ:cm} {l m l' m':List ab} (h:cu ρ l m) (o:Nat) (h':cu ρ l' m'):cu ρ (aB l o l') (aB m o m'):=by
 unfold Am.aB
 rw [<- h'.1]
 exact ((h.take o).append h').append (h.drop _)
theorem cu.cut {ρ:cm} {l m c:List ab} (h:cu ρ l m) {o n:Nat} (hc:cut l o n=some c):∃ d,cut m o n=some d/\cu ρ c d:=by
 unfold Am.cut at hc ⊢
 split at hc
 .rename_i hl
  rw [aE (by rw [<- h.1];exact hl)]
  cases hc
  exact ⟨_,rfl,(h.drop o).take n⟩
 .cases hc
theorem cu.get {ρ:cm} (h:cu ρ l m) {i:Nat} (hx:l[i]? = some x):∃ y,m[i]? = some y/\VR ρ x y:=by
 have hi:i < l.length:=(dP.1 hx).1
 have hy:m[i]? = some (m[i]'(by rw [<- h.1];exact hi)):=gF _
 exact ⟨_,hy,h.2 i x _ hx hy⟩
theorem cu.plain (ρ:cm) (h:l.all mO=true):cu ρ l l:=by
 refine ⟨rfl,λi x y hx hy=>?_⟩
 rw [hx] at hy
 cases hy
 exact .mb ρ (iT.1 h x (ic hx))
theorem cu.one {ρ:cm} {l m:List ab} (h:cu ρ l m) (h1:l.all one=true):∀ v∈m,v.oneCell'=true:=by
 intro v hv
 obtain ⟨i,hi⟩:=uL hv
 have hl:i < l.length:=by rw [h.1];exact (dP.1 hi).1
 exact (h.2 i _ v (gF hl) hi).one (iT.1 h1 _ (List.getElem_mem hl))
theorem cu.toArray {ρ:cm} {l m:List ab} (h:cu ρ l m):VR ρ (.agg l.toArray) (.agg m.toArray) :=
 .agg (by simp [h.1]) (λi x y hx hy=>h.2 i x y (by simpa using hx) (by simpa using hy))
theorem cu.fO {ρ:cm} (h:cu ρ l m):VR ρ (.tuple l.toArray) (.tuple m.toArray) :=
 .tuple (by simp [h.1]) (λi x y hx hy=>h.2 i x y (by simpa using hx) (by simpa using hy))
theorem VR.EV {ρ:cm} {c d:Array ab} (h:VR ρ (.agg c) (.agg d)):cu ρ c.toList d.toList:=by
 cases h with
 |agg hc hh=>exact ⟨by simpa using hc,λi x y hx hy=>hh i x y (by simpa using hx) (by simpa using hy)⟩
theorem VR.cells {ρ:cm} {v u:ab} (h:VR ρ v u):cu ρ v.cells.toList u.cells.toList:=by
 cases h with
 |agg hc hh=>exact (VR.agg hc hh).EV
 |_=>exact .cons (by first|exact .bool _|exact .int _ _|exact .string _|exact .qg|exact .ptr ‹_› | exact .dI|exact .slice ‹_› ‹_› ‹_› ‹_› | exact .b9 ‹_› ‹_› ‹_› ‹_› ‹_› ‹_› ‹_› | exact .qe|exact .map ‹_› | exact .yield ‹_› | exact .nilFunc|exact .oM _|exact .func _ ‹_› ‹_› ‹_› ‹_› | exact .nilIface|exact .iface _ ‹_› | exact .tuple ‹_› ‹_›) (.nil ρ)

def ct (ρ:cm) (e:Env) (tmps:Array ab):Prop:=e.length=tmps.size/\∀ i,VR ρ (e.get i) (tmps.getD i undef)
theorem ct.mono {ρ ρ':cm} {e:Env} {tmps:Array ab} (he:ct ρ e tmps) (hg:∀ A L,ρ A=some L->ρ' A=some L):ct ρ' e tmps:=⟨he.1,λi=>(he.2 i).mono hg⟩
def ng (ρ:cm) (l m:List MapEntry):Prop:=l.length=m.length/\∀ (i:Nat) (x y:MapEntry),l[i]? = some x->m[i]? = some y->VR ρ x.key y.key/\VR ρ x.val y.val/\x.born=y.born/\plain x.key=true
theorem ng.mono {ρ ρ':cm} (hg:∀ A L,ρ A=some L->ρ' A=some L) {l m:List MapEntry} (h:ng ρ l m):ng ρ' l m :=
 ⟨h.1,λi x y hx hy=>⟨(h.2 i x y hx hy).1.mono hg,(h.2 i x y hx hy).2.1.mono hg,(h.2 i x y hx hy).2.2⟩⟩

def cX (gs:List Nat) (ρ:cm):Prop:=∀ g∈gs,∃ t,ρ g=some ⟨g,0,t⟩
def tO (ρ:cm):Operand->Prop
 | .const v=>plain v=true
 | .global g=>∃ t,ρ g=some ⟨g,0,t⟩
 |_=>True
def jR (ρ:cm) (o:Oper):Prop:=∀ x∈o.op.operands.toList,tO ρ x
def cI (ρ:cm):Code->Prop
 | .region _ ops _=>∀ o∈ops.toList,jR ρ o
 | .seq a b=>cI ρ a/\cI ρ b
 | .cond c a b=>tO ρ c/\cI ρ a/\cI ρ b
 | .block _ c=>cI ρ c
 | .loop c=>cI ρ c
 | .scope c=>cI ρ c
 | .rangeFunc g _ a b=>tO ρ g/\cI ρ a/\cI ρ b
 |_=>True
section
variable {ρ ρ':cm} (hg:∀ A L,ρ A=some L->ρ' A=some L)
include hg
theorem cX.mono {gs:List Nat} (h:cX gs ρ):cX gs ρ':=λg hh=>let ⟨t,ht⟩:=h g hh;⟨t,hg _ _ ht⟩
theorem tO.mono {x:Operand} (h:tO ρ x):tO ρ' x:=by
 cases x with
 |global g=>exact let ⟨t,ht⟩:=h;⟨t,hg _ _ ht⟩
 |_=>exact h
theorem jR.mono {o:Oper} (h:jR ρ o):jR ρ' o:=λx hx=>(h x hx).mono hg
theorem cI.mono:∀ {c:Code},cI ρ c->cI ρ' c:=by
 intro c
 induction c with
 |region id ops d=>exact λh o ho=>(h o ho).mono hg
 |seq a b jY jZ=>exact λh=>⟨jY h.1,jZ h.2⟩
 |cond c a b jY jZ=>exact λh=>⟨h.1.mono hg,jY h.2.1,jZ h.2.2⟩
 |block id c ih=>exact λh=>ih h
 |loop c ih=>exact λh=>ih h
 |scope c ih=>exact λh=>ih h
 |rangeFunc g ps a b jY jZ=>exact λh=>⟨h.1.mono hg,jY h.2.1,jZ h.2.2⟩
 |_=>exact λ_=>trivial
end
theorem tO.of {gs:List Nat} {ρ:cm} (hG:cX gs ρ) {x:Operand} (h:Qi gs x=true):tO ρ x:=by
 cases x with
 |global g=>exact hG g (by simpa [Qi] using h)
 |const v=>exact h
 |_=>trivial
theorem jR.of {gs:List Nat} {ρ:cm} (hG:cX gs ρ) {o:Oper} (h:N1 gs o=true):jR ρ o:=λx hx=>.of hG (iT.1 h x hx)
theorem cI.of {gs:List Nat} {ρ:cm} (hG:cX gs ρ):∀ {c:Code},so gs c=true->cI ρ c:=by
 intro c
 induction c with
 |region id ops d=>exact λh o ho=>.of hG (iT.1 h o ho)
 |seq a b jY jZ=>exact λh=>by simp only [so,ep] at h;exact ⟨jY h.1,jZ h.2⟩
 |cond c a b jY jZ=>exact λh=>by simp only [so,ep] at h;exact ⟨.of hG h.1.1,jY h.1.2,jZ h.2⟩
 |block id c ih=>exact λh=>ih h
 |loop c ih=>exact λh=>ih h
 |scope c ih=>exact λh=>ih h
 |rangeFunc g ps a b jY jZ=>exact λh=>by simp only [so,ep] at h;exact ⟨.of hG h.1.1,jY h.1.2,jZ h.2⟩
 |_=>exact λ_=>trivial

def live (h:Heap) (A:Nat):Prop:=∃ b,h.get A=some b/\b≠.dead
def nL (h:Heap) (A:Nat):Prop:=∃ cs e,h.get A=some (.row cs e true)

def wV:TypeId:=1099511627776
def wX:List ab:=Lib.asciiSpaceTab.map λz=>Value.int .u8 z
def Rm:TypeId:=5
structure ot (e:TypeId) (n:Nat) (fz:Nat × Nat):Prop where
 YX:∀ j,j < n->¬ (fz.1<=j/\j < fz.2)
 Vc:e=Rm\/¬ (fz.1<=n/\n < fz.2)
theorem ot.zero (e:TypeId) (n:Nat):ot e n (0,0):=⟨λ_ _ h=>by have:=h.2;simp at this,.inr λh=>by have:=h.2;simp at this⟩
def qO (ρ:cm) (w:World) (L:Loc):Option ba->Prop
 |some (.row cs e true)=>(L.b < w.heap.size/\(e=wV->cs=wX))/\∀ (i:Nat) (v:ab),cs[i]? = some v->∃ u,w.cell? ⟨L.b,L.s+i,none⟩=some u/\VR ρ v u
 |some (.row cs e false)=>∃ (cur:Array ab) (fz:Nat × Nat),w.heap[L.b]? = some (.cells cur e fz)/\ot e cur.size fz/\cur.size=L.vP/\∃ m,cut cur.toList L.s cs.length=some m/\cu ρ cs m
 |some (.map es clock)=>∃ ces:Array MapEntry,w.heap[L.b]? = some (.map ces clock)/\ng ρ es ces.toList
 |some (.loop env ps assign body st fY)=>∃ l:Loop,w.heap[L.b]? = some (.loop l)/\l.state=st/\l.pending=fY/\l.params.toList=ps/\l.assign=assign/\l.body=body/\ct ρ env l.tmps/\cI ρ assign/\cI ρ body
 |some .dead=>L.b < w.heap.size
 |none=>L.b < w.heap.size

theorem qO.keep {ρ ρ':cm} {w':World} {L:Loc} {b:Option ba} (hb:qO ρ w L b) (hg:∀ A L,ρ A=some L->ρ' A=some L) (dx:w.heap.size<=w'.heap.size)
 (hk:(∃ x,b=some x/\x≠.dead)->w'.heap[L.b]? = w.heap[L.b]?):qO ρ' w' L b:=by
 cases b with
 |none=>exact dB hb dx
 |some b =>
  cases b with
  |dead=>exact dB hb dx
  |map es clock =>
   obtain ⟨ces,hc,he⟩:=hb
   exact ⟨ces,(hk ⟨_,rfl,by simp⟩).trans hc,he.mono hg⟩
  |loop env ps assign body st fY =>
   obtain ⟨l,hc,h1,h2,h3,h4,h5,h6,h7⟩:=hb
   exact ⟨l,(hk ⟨_,rfl,by simp⟩).trans hc,h1,h2,h3,h4,h5,h6.mono hg,h7.1.mono hg,h7.2.mono hg⟩
  |row cs e ro =>
   have wN:=hk ⟨_,rfl,by simp⟩
   cases ro with
   |true =>
    refine ⟨⟨dB hb.1.1 dx,hb.1.2⟩,λi v hi=>?_⟩
    obtain ⟨u,hu,lZ⟩:=hb.2 i v hi
    refine ⟨u,?_,lZ.mono hg⟩
    rw [<- hu]
    simp only [World.cell?,wN]
   |false =>
    obtain ⟨cur,fz,hc,ob,ht,m,hm,hv⟩:=hb
    exact ⟨cur,fz,wN.trans hc,ob,ht,m,hm,hv.mono hg⟩

structure bP (ρ:cm) (h:Heap) (w:World):Prop where
 ff:∀ A L,ρ A=some L->qO ρ w L (h.get A)
 inj:∀ A A' L L',ρ A=some L->ρ A'=some L'->A≠A'->L.b=L'.b->¬ live h A\/¬ live h A'\/(nL h A/\nL h A')

theorem bP.lt {ρ:cm} (hs:bP ρ h w) {A:Nat} {L:Loc} (hA:ρ A=some L):L.b < w.heap.size:=by
 have hb:=hs.ff A L hA
 cases hg:h.get A with
 |none=>rw [hg] at hb;exact hb
 |some b =>
  rw [hg] at hb
  cases b with
  |dead=>exact hb
  |map es clock =>
   obtain ⟨ces,hc,_⟩:=hb
   exact (mQ.1 hc).1
  |loop env ps assign body st fY =>
   obtain ⟨l,hc,_⟩:=hb
   exact (mQ.1 hc).1
  |row cs e ro =>
   cases ro with
   |true=>exact hb.1.1
   |false =>
    obtain ⟨cur,fz,hc,_⟩:=hb
    exact (mQ.1 hc).1

def fJ (ρ:cm) (h h':Heap):Prop:=∀ A,h.size<=A->A < h'.size->ρ A=none

structure Fr (ρ ρ':cm) (h h':Heap) (w w':World):Prop where
 grow:∀ A L,ρ A=some L->ρ' A=some L
 fresh:∀ A L,ρ' A=some L->ρ A=none->h.size<=A/\A < h'.size/\(w.heap.size<=L.b\/∃ A0 L0,ρ A0=some L0/\L0.b=L.b/\h'.low<=A0/\A0 < h'.size)
 os:w'.os=w.os
 tape:w'.tape=w.tape
 output:w'.output=w.output
 size:w.heap.size<=w'.heap.size
 gJ:h.size<=h'.size
 low:h'.low<=h.low
 keep:∀ b,b < w.heap.size->(∀ A L,ρ A=some L->L.b=b->A < h'.low\/h'.size<=A)->w'.heap[b]? = w.heap[b]?
 qS:∀ A,A < h.size->A < h'.low->h'.get A=h.get A

theorem Fr.refl (ρ:cm) (h:Heap) (w:World):Fr ρ ρ h h w w :=
 ⟨λ_ _ h=>h,λA L h1 h2=>(by rw [h1] at h2;cases h2),rfl,rfl,rfl,bj _,bj _,bj _,λ_ _ _=>rfl,λ_ _ _=>rfl⟩

theorem Fr.trans {ρ ρ' ρ'':cm} {h h' h'':Heap} {w w' w'':World} (f:Fr ρ ρ' h h' w w') (g:Fr ρ' ρ'' h' h'' w' w''):Fr ρ ρ'' h h'' w w'':=by
 refine ⟨λA L hA=>g.grow A L (f.grow A L hA),?_,g.os.trans f.os,g.tape.trans f.tape,g.output.trans f.output,gn f.size g.size,gn f.gJ g.gJ,gn g.low f.low,?_,?_⟩
 .intro A L hA hn
  cases hρ:ρ' A with
  |some L1 =>
   have e:L1=L:=by have:=g.grow A L1 hρ;rw [hA] at this;exact (Option.some.inj this).symm
   subst e
   obtain ⟨h1,bC,h2⟩:=f.fresh A L1 hρ hn
   refine ⟨h1,dB bC g.gJ,?_⟩
   rcases h2 with h2|⟨A0,L0,h0,he,hl,BC⟩
   .exact .inl h2
   .exact .inr ⟨A0,L0,h0,he,gn g.low hl,dB BC g.gJ⟩
  |none =>
   obtain ⟨h1,bC,h2⟩:=g.fresh A L hA hρ
   refine ⟨gn f.gJ h1,bC,?_⟩
   rcases h2 with h2|⟨A0,L0,h0,he,hl,BC⟩
   .exact .inl (gn f.size h2)
   .cases GN:ρ A0 with
    |some L1 =>
     have e:L1=L0:=by have:=f.grow A0 L1 GN;rw [h0] at this;exact (Option.some.inj this).symm
     subst e
     exact .inr ⟨A0,L1,GN,he,hl,BC⟩
    |none =>
     rcases (f.fresh A0 L0 h0 GN).2.2 with h3|⟨A1,L1,h3,he3,M1,XZ⟩
     .exact .inl (by omega)
     .exact .inr ⟨A1,L1,h3,he3.trans he,gn g.low M1,dB XZ g.gJ⟩
 .intro b hb aH
  have Mt:∀ A L,ρ A=some L->L.b=b->A < h'.low\/h'.size<=A:=λA L hA hL=>by
   have h1:=aH A L hA hL
   have h2:=g.low
   have h3:=g.gJ
   omega
  rw [g.keep b (dB hb f.size) ?_,f.keep b hb Mt]
  intro A L hA hL
  cases hρ:ρ A with
  |some L0 =>
   have e:L0=L:=by have:=f.grow A L0 hρ;rw [hA] at this;exact (Option.some.inj this).symm
   subst e
   exact aH A L0 hρ hL
  |none =>
   rcases (f.fresh A L hA hρ).2.2 with h1|⟨A0,L0,h0,he,hl,BC⟩
   .omega
   .have h1:=aH A0 L0 h0 (he.trans hL)
    have h2:=g.low
    have h3:=g.gJ
    omega
 .intro A hA hl
  rw [g.qS A (dB hA f.gJ) hl,f.qS A hA (dB hl g.low)]

theorem fJ.left {ρ:cm} {h1 h2:Heap} (hf:fJ ρ h h2) (hle:h1.size<=h2.size):fJ ρ h h1:=λA h3 h4=>hf A h3 (dB h4 hle)
theorem fJ.right {ρ ρ':cm} {h1 h2:Heap} {w':World} (hf:fJ ρ h h2) (fr:Fr ρ ρ' h h1 w w'):fJ ρ' h1 h2:=by
 intro A h3 h4
 cases hA:ρ' A with
 |none=>rfl
 |some L =>
  have hn:=hf A (gn fr.gJ h3) h4
  have:=(fr.fresh A L hA hn).2.1
  omega

end Go.Am
namespace Go.Am
open Go.RowKit
variable {A n o:Nat} {l m:List ab} {W:World}

structure bI.Fits (T:bI) (P:Program):Prop where
 desc:∀ t d,T.desc t=some d->P.underlying t=some d
 info:∀ t n b z,T.info t=some (n,b,z)->∃ i zv,P.info? t=some i/\i.size=n/\i.bytes=b/\i.zero=some zv/\zv.cells.toList=z/\z.length=n/\z.all mO=true
 fn:∀ f fn,T.fn f=some fn->P.funcs[f]? = some fn/\(fn.name == "runtime.NumGoroutine")=false/\∀ c,fn.body=some c->so T.gs c=true
 cmp:∀ t,T.cmp t=true->P.stoodInHeld t=false/\P.eqGuardType P.depth t=false
 zero:∀ t v,T.zero t=some v->(∃ i,P.info? t=some i/\i.zero=some v)/\plain v=true
 ze:∀ t name m,T.ze t name=some m->∃ i,P.info? t=some i/\i.methods.find? (·.name == name)=some m

theorem qo (h:cut l o n=some m):o+n<=l.length/\m.length=n/\∀ i,i < n->m[i]? = l[o+i]? := by
 unfold cut at h
 split at h
 .rename_i hl
  cases h
  refine ⟨hl,by simp;omega,λi hi=>?_⟩
  rw [mi,aE hi,lL]
 .cases h
theorem sq (hl:o+n<=l.length) (hm:m.length=n) (h:∀ i,i < n->m[i]? = l[o+i]?):cut l o n=some m:=by
 unfold cut
 rw [aE hl]
 congr 1
 refine qN λi=>?_
 rw [mi]
 split
 .rename_i hi;rw [lL,h i hi]
 .rw [CH (by omega)]

theorem oR {vs:List ab} (h:o+vs.length<=l.length):(aB l o vs).length=l.length:=by
 simp [aB];omega
theorem bG (l vs:List ab) (o i:Nat) (h:o+vs.length<=l.length):(aB l o vs)[i]? = if i < o then l[i]? else if i < o+vs.length then vs[i - o]? else l[i]? := by
 unfold aB
 rw [xw,xw]
 have hl:(l.take o).length=o:=by simp;omega
 simp only [dy,hl]
 by_cases h1:i < o
 .rw [aE (by omega),aE h1,aE h1,mi,aE h1]
 .rw [az h1]
  by_cases h2:i < o+vs.length
  .rw [aE h2,az h1,aE h2]
  .rw [az h2,az h2,lL]
   rw [show o+vs.length+(i - (o+vs.length))=i by omega,az h1]
theorem zlf {cur us:List ab} {s:Nat} (hc:cut cur s n=some m) (ho:o+us.length<=n):cut (aB cur (s+o) us) s n=some (aB m o us):=by
 obtain ⟨h1,h2,h3⟩:=qo hc
 refine sq (by rw [oR (by omega)];exact h1) (by rw [oR (by omega)];exact h2) λi hi=>?_
 rw [bG _ _ _ _ (by omega),bG _ _ _ _ (by omega)]
 by_cases h4:i < o
 .rw [aE h4,aE (show s+i < s+o by omega),h3 i hi]
 .rw [az h4,az (show ¬ s+i < s+o by omega)]
  by_cases h5:i < o+us.length
  .rw [aE h5,aE (show s+i < s+o+us.length by omega)]
   congr 1
   omega
  .rw [az h5,az (show ¬ s+i < s+o+us.length by omega),h3 i hi]

section
variable {P:Program} {T:bI} {ρ:cm} {h h':Heap} {w:World}

theorem SR (hs:bP ρ h w) {L:Loc} (hA:ρ A=some L) (hc:gD A o n h=some l) :
 ∃ m,cu ρ l m/\m.length=n/\w.rangeAt L.b (L.s+o) m:=by
 have hb:=hs.ff A L hA
 unfold gD at hc
 cases hg:h.get A with
 |none=>rw [hg] at hc;cases hc
 |some b =>
  rw [hg] at hc hb
  cases b with
  |dead=>cases hc
  |map es clock=>cases hc
  |loop env ps assign body st fY=>cases hc
  |row cs e ro =>
   obtain ⟨h1,h2,h3⟩:=qo hc
   cases ro with
   |true =>
    obtain ⟨_,eD⟩:=hb
    have hex:∀ i,i < n->∃ u,w.cell? ⟨L.b,L.s+(o+i),none⟩=some u/\∀ x,l[i]? = some x->VR ρ x u:=by
     intro i hi
     have hx:cs[o+i]? = some (cs[o+i]'(by omega)):=gF _
     obtain ⟨u,hu,hv⟩:=eD (o+i) _ hx
     refine ⟨u,hu,λx hxx=>?_⟩
     rw [h3 i hi,hx] at hxx
     cases hxx
     exact hv
    refine ⟨(List.range n).map λi=>(w.cell? ⟨L.b,L.s+(o+i),none⟩).getD undef,⟨by simp [h2],λi x y hx hy=>?_⟩,by simp,λj v hv=>?_⟩
    .have hi:i < n:=by rw [<- h2];exact (dP.1 hx).1
     obtain ⟨u,hu,hv⟩:=hex i hi
     rw [lC,List.getElem?_range hi,jn,hu] at hy
     cases hy
     exact hv x hx
    .have hj:j < n:=by have:=(dP.1 hv).1;simpa using this
     obtain ⟨u,hu,_⟩:=hex j hj
     rw [lC,List.getElem?_range hj,jn,hu] at hv
     cases hv
     rw [pF]
     exact hu
   |false =>
    obtain ⟨cur,fz,gr,_,_,m,hm,hv⟩:=hb
    obtain ⟨d,hd,wR⟩:=hv.cut hc
    obtain ⟨k1,k2,k3⟩:=qo hm
    obtain ⟨d1,d2,d3⟩:=qo hd
    refine ⟨d,wR,d2,λj v hj=>?_⟩
    have MY:j < n:=by rw [<- d2];exact (dP.1 hj).1
    rw [cell_of_row w L.b _ cur e fz gr]
    rw [d3 j MY,k3 (o+j) (by rw [k2] at d1;omega)] at hj
    rw [<- TM,pF]
    exact hj

theorem zgg (hT:T.Fits P) (hs:bP ρ h w) {t:TypeId} {x y v:ab} (dp:VR ρ x y) (hl:iD T t x h=some v) :
 ∃ u,(Instr.loadAt t y).run P w=.ok u w/\VR ρ v u:=by
 cases dp with
 |ptr hA =>
  rename_i A o L
  simp only [iD] at hl
  cases hg:T.desc t with
  |none=>simp [cN,hg] at hl
  |some d =>
   have hu:=hT.desc t d hg
   have key:∀ (n:Nat) (l:List ab),T.info t≠none->gD A o n h=some l->d.isRow=true->(T.info t).map (·.1)=some n->v=.agg l.toArray->∃ u,(Instr.loadAt t (.pointer (some ⟨L.b,L.s+o,none⟩))).run P w=.ok u w/\VR ρ v u:=by
    intro n l _ hc hd hi hv
    obtain ⟨m,hm,hlen,hr⟩:=SR hs hA hc
    cases gT:T.info t with
    |none=>simp [gT] at hi
    |some q =>
     obtain ⟨q1,q2,q3⟩:=q
     obtain ⟨i,zv,e1,e2,_⟩:=hT.info t q1 q2 q3 gT
     simp [gT] at hi
     refine ⟨.agg m.toArray,run_loadAt_mid w L.b (L.s+o) t m d hr hu hd (by rw [e1];simp [e2,hi,hlen]),?_⟩
     rw [hv]
     exact hm.toArray
   have Y2:∀ (l:List ab),gD A o 1 h=some l->l[0]? = some v->d.isRow=false->∃ u,(Instr.loadAt t (.pointer (some ⟨L.b,L.s+o,none⟩))).run P w=.ok u w/\VR ρ v u:=by
    intro l hc h0 hd
    obtain ⟨m,hm,hlen,hr⟩:=SR hs hA hc
    obtain ⟨u,Yz,oI⟩:=hm.get h0
    have eD:=hr 0 u Yz
    refine ⟨u,?_,oI⟩
    have pT:(isAgg t).run P w=.ok false w:=by
     unfold isAgg
     rw [Sem.run_bind,run_underlying hu w]
     cases d <;> simp_all
    simp only [iU] at eD
    simp [Instr.loadAt,Instr.sureAddr,loadVar,Sem.run_bind,pT,eD]
   have MG:(∃ n l,T.info t≠none/\gD A o n h=some l/\d.isRow=true/\(T.info t).map (·.1)=some n/\v=.agg l.toArray)\/(∃ l,gD A o 1 h=some l/\l[0]? = some v/\d.isRow=false):=by
    have Yp:∀ (hl:((dg T t).bind λn=>(gD A o n h).map λl=>Value.agg l.toArray)=some v) (hd:d.isRow=true),
     ∃ n l,T.info t≠none/\gD A o n h=some l/\d.isRow=true/\(T.info t).map (·.1)=some n/\v=.agg l.toArray:=by
     intro hl hd
     simp only [dg,cH,cA] at hl
     obtain ⟨n,⟨q,hq,rfl⟩,l,hc,rfl⟩:=hl
     exact ⟨q.1,l,by rw [hq];simp,hc,hd,by rw [hq];rfl,rfl⟩
    cases d <;> simp only [cN,hg,jn,dM,if_true,gM,if_false] at hl <;>
     first
      |(left;exact Yp hl rfl)
      |(right;simp only [cH] at hl;obtain ⟨l,hc,h0⟩:=hl;exact ⟨l,hc,h0,rfl⟩)
   rcases MG with ⟨n,l,a,b,c,d',e⟩|⟨l,a,b,c⟩
   .exact key n l a b c d' e
   .exact Y2 l a b c
 |_=>simp [iD] at hl

theorem Jf (hs:bP ρ h w) {L:Loc} {b b':ba} (hA:ρ A=some L) (hg:h.get A=some b) (kb:b≠.dead) (um:∀ cs e,b≠.row cs e true)
 (vx:W.os=w.os) (ln:W.tape=w.tape) (eT:W.output=w.output) (dx:W.heap.size=w.heap.size) (jA:∀ k,k≠L.b->W.heap[k]? = w.heap[k]?) (pe:qO ρ W L (some b')) :
 Fr ρ ρ h (h.set A b') w W/\bP ρ (h.set A b') W:=by
 have uX:A < h.size:=Heap.bw hg
 refine ⟨⟨λ_ _ h=>h,λA' L' h1 h2=>(by rw [h1] at h2;cases h2),vx,ln,eT,by rw [dx];exact bj _,bj _,xA _ _,?_,?_⟩,⟨?_,?_⟩⟩
 .intro b hb aH
  refine jA b λe=>?_
  subst e
  have:=aH A L hA rfl
  rw [Heap.bQ,Heap.size_set] at this
  omega
 .intro A' dS hl
  rw [Heap.bQ] at hl
  rw [Heap.aJ _ _ _ _ uX,az (by omega)]
 .intro A' L' dS
  rw [Heap.aJ _ _ _ _ uX]
  by_cases e':A'=A
  .subst e'
   rw [hA] at dS
   cases dS
   rw [aE rfl]
   exact pe
  .rw [az e']
   refine (hs.ff A' L' dS).keep (λ_ _ h=>h) (by omega) ?_
   rintro ⟨x,hx,hxd⟩
   refine jA L'.b λheq=>?_
   rcases hs.inj A' A L' L dS hA e' heq with h1|h1|h1
   .exact h1 ⟨x,hx,hxd⟩
   .exact h1 ⟨_,hg,kb⟩
   .obtain ⟨_,RN,e2,qB⟩:=h1
    rw [hg] at qB
    cases qB
    exact um _ _ rfl
 .intro A1 A2 L1 L2 h1 h2 aQ hb
  have df:∀ A',¬ live h A'->¬ live (h.set A b') A':=by
   intro A' hd
   by_cases e':A'=A
   .subst e';exact (hd ⟨_,hg,kb⟩).elim
   .unfold live at hd ⊢
    rw [Heap.aJ _ _ _ _ uX,az e']
    exact hd
  have Ns:∀ A',nL h A'->nL (h.set A b') A':=by
   rintro A' ⟨RN,e2,qB⟩
   refine ⟨RN,e2,?_⟩
   rw [Heap.aJ _ _ _ _ uX,az (by intro e';subst e';rw [hg] at qB;cases qB;exact um _ _ rfl)]
   exact qB
  rcases hs.inj A1 A2 L1 L2 h1 h2 aQ hb with h3|h3|⟨h3,h4⟩
  .exact .inl (df _ h3)
  .exact .inr (.inl (df _ h3))
  .exact .inr (.inr ⟨Ns _ h3,Ns _ h4⟩)

theorem SG (P:Program) (g o:Nat) (t:TypeId) (fz:Nat × Nat):∀ (vs:List ab) (i:Nat) (cur:Array ab) (w:World),w.heap[g]? = some (.cells cur t fz)->ot t cur.size fz->o+i+vs.length<=cur.size->(∀ v∈vs,v.oneCell'=true) ->
 (storeCells ⟨g,o,none⟩ vs i).run P w=.ok () (w.setRow g (cur.toList.take (o+i)++vs++cur.toList.drop (o+i+vs.length)).toArray)
 | [],i,cur,w,hg,_,_,_=>by
  simp only [storeCells,bu,dN,iU,qv,Array.toArray_toList]
  rw [setRow_self w g cur t fz hg]
  rfl
 |v::rest,i,cur,w,hg,MT,hl,h1=>by
  have hi:o+i < cur.size:=by simp at hl;omega
  have Xc:(⟨g,o,none⟩:Addr).add i=⟨g,o+i,none⟩:=by unfold Addr.add;split <;> simp_all
  have eD:w.cell? ⟨g,o+i,none⟩=some cur[o+i]:=by simp [World.cell?,hg,hi]
  have XG:w.frozen? ⟨g,o+i,none⟩=false:=by
   have h0:=MT.YX (o+i) hi
   obtain ⟨lo,mV⟩:=fz
   simp only [World.frozen?,hg,QR,decide_eq_false_iff_not]
   simp only at h0
   omega
  have fj:(store ((⟨g,o,none⟩:Addr).add i) v).run P w=.ok () (w.setRow g (cur.setIfInBounds (o+i) v)):=by
   rw [Xc,run_store P w _ v _ (h1 v (by simp)),eD]
   simp [XG,setCell_eq_setRow w g (o+i) cur t fz v hg]
  have ih:=SG P g o t fz rest (i+1) (cur.setIfInBounds (o+i) v) (w.setRow g (cur.setIfInBounds (o+i) v)) (setRow_heap w g cur _ t _ hg) (by simpa using MT) (by simp at hl ⊢;omega) (λx hx=>h1 x (by simp [hx]))
  simp only [storeCells,Sem.run_bind,fj,Result.andThen_ok,ih,setRow_setRow]
  congr 3
  have e:=list_seg_step cur.toList (o+i) v rest (by simp at hl ⊢;omega)
  simpa [Array.toList_setIfInBounds,pF] using e

theorem PZ (hs:bP ρ h w) {L:Loc} {vs us:List ab} (hA:ρ A=some L) (hv:cu ρ vs us) (hw:ki A o vs h=some h') :
 ∃ w',(storeCells ⟨L.b,L.s+o,none⟩ us 0).run P w=.ok () w'/\Fr ρ ρ h h' w w'/\bP ρ h' w':=by
 have hb:=hs.ff A L hA
 unfold ki at hw
 split at hw
 .rename_i cs e hg
  split at hw
  .rename_i hc
   simp only [ep,jH] at hc
   obtain ⟨ho,h1⟩:=hc
   cases hw
   rw [hg] at hb
   obtain ⟨cur,fz,gr,ob,nJ,m,hm,vF⟩:=hb
   obtain ⟨k1,k2,k3⟩:=qo hm
   have hlu:vs.length=us.length:=hv.1
   have fj:=SG P L.b (L.s+o) e fz us 0 cur w gr ob (by simp at k1 ⊢;omega) (hv.one h1)
   simp only [iU] at fj
   let lR:=(cur.toList.take (L.s+o)++us++cur.toList.drop (L.s+o+us.length)).toArray
   have re:(w.setRow L.b lR).heap[L.b]? = some (.cells lR e fz):=setRow_heap w L.b cur lR e _ gr
   have dx:(w.setRow L.b lR).heap.size=w.heap.size:=by simp [World.setRow]
   have Yx:ot e lR.size fz:=by
    have:=oR (l:=cur.toList) (vs:=us) (o:=L.s+o) (by simp at k1 ⊢;omega)
    have h2:lR.size=cur.size:=by simpa [lR,aB] using this
    rw [h2]
    exact ob
   refine ⟨w.setRow L.b lR,fj,Jf hs hA hg (by simp) (by simp) rfl rfl rfl dx (λb hb=>setRow_other w L.b b lR hb) ⟨lR,fz,re,Yx,?_,aB m o us,?_,vF.aB o hv⟩⟩
   .show lR.size=L.vP
    rw [<- nJ]
    have:=oR (l:=cur.toList) (vs:=us) (o:=L.s+o) (by simp at k1 ⊢;omega)
    simpa [lR,aB] using this
   .rw [oR ho]
    have:=zlf (us:=us) (o:=o) hm (by omega)
    simpa [lR,aB] using this
  .cases hw
 .cases hw

theorem S6 (hs:bP ρ h w) (fW:ρ h.size=none) {L:Loc} {b:ba} (hold:∀ k,k < w.heap.size->W.heap[k]? = w.heap[k]?) (dx:w.heap.size<=W.heap.size)
 (vx:W.os=w.os) (ln:W.tape=w.tape) (eT:W.output=w.output) (hL:w.heap.size<=L.b) (hb:∀ ρ',(∀ A L,ρ A=some L->ρ' A=some L)->qO ρ' W L (some b)) :
 ∃ ρ',ρ' h.size=some L/\Fr ρ ρ' h (h.push b) w W/\bP ρ' (h.push b) W:=by
 have eL:∀ A L',ρ A=some L'->(λA=>if A=h.size then some L else ρ A) A=some L':=by
  intro A L' hA
  have aQ:A≠h.size:=λe=>by rw [e,fW] at hA;cases hA
  simp only [az aQ]
  exact hA
 refine ⟨λA=>if A=h.size then some L else ρ A,by simp,⟨eL,?_,vx,ln,eT,dx,by rw [Heap.size_push];omega,bj _,λb hb _=>hold b hb,?_⟩,⟨?_,?_⟩⟩
 .intro A L' hA hn
  split at hA
  .rename_i e1;cases hA;exact ⟨by omega,by rw [Heap.size_push];omega,.inl hL⟩
  .rw [hn] at hA;cases hA
 .intro A hA _
  rw [Heap.bg,az (by omega)]
 .intro A L' hA
  rw [Heap.bg]
  split at hA
  .rename_i e1
   cases hA
   rw [aE e1]
   exact hb _ eL
  .rename_i e1
   rw [az e1]
   exact (hs.ff A L' hA).keep eL dx λ_=>hold _ (hs.lt hA)
 .intro A1 A2 L1 L2 h1 h2 aQ tX
  have eR:∀ A,A≠h.size->(h.push b).get A=h.get A:=λA hA=>by rw [Heap.bg,az hA]
  split at h1
  .split at h2
   .omega
   .rename_i e1 e2
    cases h1
    have:=hs.lt h2
    omega
  .split at h2
   .rename_i e1 e2
    cases h2
    have:=hs.lt h1
    omega
   .rename_i e1 e2
    unfold live nL
    rw [eR A1 e1,eR A2 e2]
    exact hs.inj A1 A2 L1 L2 h1 h2 aQ tX

theorem zjJ (hs:bP ρ h w) (fW:ρ h.size=none) {cs:List ab} {cur:Array ab} {e:TypeId} {fz:Nat × Nat} (ob:ot e cur.size fz) (hW:W.heap=w.heap.push (.cells cur e fz))
 (vx:W.os=w.os) (ln:W.tape=w.tape) (eT:W.output=w.output) (nD:cut cur.toList 0 cs.length=some m) (hv:cu ρ cs m) :
 ∃ ρ',ρ' h.size=some ⟨w.heap.size,0,cur.size⟩/\Fr ρ ρ' h (h.push (.row cs e false)) w W/\bP ρ' (h.push (.row cs e false)) W:=by
 refine S6 hs fW (λk hk=>by rw [hW,xv,az (by omega)]) (by rw [hW];simp) vx ln eT (bj _) λρ' hg=>?_
 exact ⟨cur,fz,by rw [hW];simp,ob,rfl,m,nD,hv.mono hg⟩
theorem Jd (hs:bP ρ h w) (fW:ρ h.size=none) {cs:List ab} {cur:Array ab} {e:TypeId} (hW:W.heap=w.heap.push (.cells cur e (0,0)))
 (vx:W.os=w.os) (ln:W.tape=w.tape) (eT:W.output=w.output) (nD:cut cur.toList 0 cs.length=some m) (hv:cu ρ cs m) :
 ∃ ρ',ρ' h.size=some ⟨w.heap.size,0,cur.size⟩/\Fr ρ ρ' h (h.push (.row cs e false)) w W/\bP ρ' (h.push (.row cs e false)) W :=
 zjJ hs fW (.zero _ _) hW vx ln eT nD hv

theorem bP.same (hs:bP ρ h w) (hW:W.heap=w.heap):bP ρ h W :=
 ⟨λA L hA=>(hs.ff A L hA).keep (λ_ _ h=>h) (by rw [hW];exact bj _) (λ_=>by rw [hW]),hs.inj⟩
end
end Go.Am
namespace Go.Am
open Go.RowKit
variable {m news:List ab} {c k n o q:Nat} {y:ab} {e t ty u:TypeId}

theorem zdM (z:Array ab) (n:Nat):((Array.range (n*z.size)).map λi=>z[i % z.size]!).toList=oT z.toList n:=by
 induction n with
 |zero=>simp [oT]
 |succ n ih =>
  have hr:Array.range ((n+1)*z.size)=Array.range (n*z.size)++(Array.range z.size).map (n*z.size+·):=by
   apply Array.ext'
   simp only [Array.toList_range,JD,Array.toList_map,rS,Nat.one_mul,List.range_add]
  rw [hr,Array.map_append,JD,ih]
  simp only [oT,List.replicate_succ',List.flatten_append,List.flatten_singleton]
  congr 1
  apply qN
  intro i
  by_cases hi:i < z.size
  .simp [hi,Eu hi]
  .simp [hi]

theorem zmR (z:List ab) (n:Nat):(oT z n).length=n*z.length:=by simp [oT]

theorem zfw {z:List ab} (h:z.all mO=true) (n:Nat):(oT z n).all mO=true:=by
 simp only [oT,iT,List.mem_flatten,List.mem_replicate] at *
 rintro x ⟨l,⟨_,rfl⟩,hx⟩
 exact h x hx


section
variable {P:Program} {T:bI} {ρ:cm} {h h':Heap} {w:World}

theorem zh1 {b:Nat} (h:w.rangeAt b o m):w.rangeAt b o (m.take q):=by
 intro j v hv
 rw [mi] at hv
 split at hv
 .exact h j v hv
 .cases hv

theorem SF {b:Nat} (h:w.rangeAt b o m) (hl:m.length=q*k):(Builtin.firstCells k q (.slice (some ⟨b,o,none⟩) n c)).run P w=.ok m.toArray w :=
 run_firstCells_some w k q ⟨b,o,none⟩ n c m hl (λj v hv=>by rw [Addr.add_mid];exact h j v hv)

theorem ze6 (hs:bP ρ h w) {a:Option Addr} {l:List ab} (dp:VR ρ (.slice a n c) y) (hc:mg (.slice a n c) k h=some l) :
 ∃ a' c' m,y=.slice a' n c'/\cu ρ l m/\m.length=n*k/\∀ W:World,W.heap=w.heap->∀ q,q<=n->(Builtin.firstCells k q y).run P W=.ok (m.take (q*k)).toArray W:=by
 have hzero:∀ (q:Nat) (ad:Addr) (c':Nat) (W:World),q*k=0->(Builtin.firstCells k q (.slice (some ad) n c')).run P W=.ok #[] W:=by
  intro q ad c' W hq
  simp [Builtin.firstCells,hq,loadCells,loadCellsFrom]
 have yf:∀ {A o:Nat} {L:Loc} {ad:Addr} {c':Nat},ρ A=some L->(n≠0->ad=⟨L.b,L.s+o,none⟩)->mg (.slice (some ⟨A,o,none⟩) n c) k h=some l ->
  ∃ m,cu ρ l m/\m.length=n*k/\∀ W:World,W.heap=w.heap->∀ q,q<=n->(Builtin.firstCells k q (.slice (some ad) n c')).run P W=.ok (m.take (q*k)).toArray W:=by
  intro A o L ad c' hA en hc
  simp only [mg] at hc
  split at hc
  .rename_i h0
   cases hc
   refine ⟨[],.nil ρ,by simp [h0],λW _ q hq=>?_⟩
   have h1:q*k=0:=by
    rcases Nat.mul_eq_zero.1 h0 with e|e
    .have:q=0:=by omega
     simp [this]
    .simp [e]
   rw [hzero q ad c' W h1]
   simp
  .rename_i h0
   have hn:n≠0:=λe=>h0 (by simp [e])
   obtain ⟨m,hm,hlen,hr⟩:=SR hs hA hc
   refine ⟨m,hm,hlen,λW hW q hq=>?_⟩
   rw [en hn]
   have cw:W.rangeAt L.b (L.s+o) m:=λj v hv=>(World.cell?_of_block (by rw [hW])).trans (hr j v hv)
   refine SF (zh1 cw) ?_
   rw [gh,hlen]
   exact Nat.min_eq_left (qw _ hq)
 cases dp with
 |dI =>
  simp only [mg] at hc
  cases hc
  refine ⟨none,0,[],rfl,.nil ρ,by simp,λW _ q hq=>?_⟩
  have:q=0:=by omega
  subst this
  simp [Builtin.firstCells]
 |slice hA yd hn en =>
  obtain ⟨m,h1,h2,h3⟩:=yf hA (λh0=>en (by omega)) hc
  exact ⟨_,_,m,rfl,h1,h2,h3⟩
 |b9 hA yd dt hn hk hm en =>
  obtain ⟨m,h1,h2,h3⟩:=yf hA (λh0=>(en (by omega)).1) hc
  exact ⟨_,_,m,rfl,h1,h2,h3⟩

theorem zlP (hs:bP ρ h w) {x:ab} {m:Nat} {l:List ab} (dp:VR ρ x y) (hc:fw x k h=some (m,l)) :
 ∃ n,cu ρ l n/\n.length=m*k/\Builtin.lenOf y=pure m/\∀ W:World,W.heap=w.heap->∀ q,q<=m->(Builtin.firstCells k q y).run P W=.ok (n.take (q*k)).toArray W:=by
 cases x with
 |string b =>
  cases dp
  simp only [fw] at hc
  split at hc
  .rename_i hk
   subst hk
   cases hc
   refine ⟨_,cu.plain ρ (by rw [iT];intro x hx;rw [oY] at hx;obtain ⟨u,_,rfl⟩:=hx;rfl),by simp,rfl,λW _ q hq=>?_⟩
   simp only [Builtin.firstCells,Sem.run_pure,CT]
   congr 1
   apply Array.ext'
   have hd:(b.extract 0 q).data=b.data.extract 0 q:=by
    exact ByteArray.data_extract
   rw [hd]
   simp
  .cases hc
 |slice a n c =>
  simp only [fw,cA,cV] at hc
  obtain ⟨l',hc,rfl,rfl⟩:=hc
  obtain ⟨a',c',m,rfl,h1,h2,h3⟩:=ze6 (P:=P) hs dp hc
  exact ⟨m,h1,h2,rfl,h3⟩
 |_=>simp [fw] at hc

def Rs (P:Program) (u:TypeId):Prop:=(∃ e',P.underlying u=some (.slice e'))\/P.underlying u=some .string

theorem zdi {i:TypeInfo} (ht:P.underlying t=some (.slice e)) (hu:Rs P u) (hi:P.info? e=some i)
 {a:Addr} {m:Nat} (hlen:Builtin.lenOf y=pure m) (hf:(Builtin.firstCells i.size m y).run P w=.ok news.toArray w) (iY:n+m<=c) {w':World}
 (fj:(storeCells (a.add (n*i.size)) news 0).run P w=.ok () w') :
 (Builtin.append_ #[t,u] ty #[.slice (some a) n c,y]).run P w=.ok (.slice (some a) (n+m) c) w':=by
 rcases hu with ⟨e',hd⟩|hd
 .simp [Builtin.append_,run_underlying ht,run_underlying hd,sizeOf,typeInfo,hi,hlen,iY,hf,fj]
 .simp [Builtin.append_,run_underlying ht,run_underlying hd,sizeOf,typeInfo,hi,hlen,iY,hf,fj]

theorem zjS {i:TypeInfo} (ht:P.underlying t=some (.slice e)) (hu:Rs P u) (hi:P.info? e=some i)
 {a:Option Addr} (hlen:Builtin.lenOf y=pure 0) (hf:(Builtin.firstCells i.size 0 y).run P w=.ok #[] w) (iY:n<=c) :
 (Builtin.append_ #[t,u] ty #[.slice a n c,y]).run P w=.ok (.slice a n c) w:=by
 rcases hu with ⟨e',hd⟩|hd <;> cases a <;> simp [Builtin.append_,run_underlying ht,run_underlying hd,sizeOf,typeInfo,hi,hlen,iY,hf,storeCells]

theorem zih {i:TypeInfo} {z:ab} (ht:P.underlying t=some (.slice e)) (hu:Rs P u) (hi:P.info? e=some i) (hz:i.zero=some z)
 {base:Option Addr} {m:Nat} {rr:List ab} (hlen:Builtin.lenOf y=pure m) (hf:(Builtin.firstCells i.size m y).run P w.drew=.ok news.toArray w.drew)
 (ho:(Builtin.firstCells i.size n (.slice base n c)).run P w.drew=.ok rr.toArray w.drew)
 (hg:c < n+m) (h63:n+m<=1152921504606846976) (kA:(n+m)*i.bytes<=140737488355328) :
 (Builtin.append_ #[t,u] ty #[.slice base n c,y]).run P w =
  .ok (.slice (some ⟨w.heap.size,0,none⟩) (n+m) (grownCap w (n+m) c e)) (w.drew.alloc (.cells ((rr++news)++(Builtin.zeroCells z.cells (grownCap w (n+m) c e - (n+m))).toList).toArray e)):=by
 have hn:¬ (n+m<=c):=by omega
 have L8:¬ (9223372036854775807 < ((n:Int)+(m:Int))):=by omega
 have aee:=growslice_fits hg kA
 have L7:¬ (281474976710656 < Builtin.nextslicecap (n+m) c*i.bytes):=by omega
 rcases hu with ⟨e',hd⟩|hd
 .simp [Builtin.append_,run_underlying ht,run_underlying hd,sizeOf,typeInfo,zeroValue,hi,hz,hlen,hn,L8,L7,Question.forced,hf,ho,Go.newRow,grownCap]
  congr 2
  apply Array.ext'
  simp
 .simp [Builtin.append_,run_underlying ht,run_underlying hd,sizeOf,typeInfo,zeroValue,hi,hz,hlen,hn,L8,L7,Question.forced,hf,ho,Go.newRow,grownCap]
  congr 2
  apply Array.ext'
  simp

theorem zlh (hs:bP ρ h w) {A:Nat} {cs:List ab} (hg:h.get A=some (.row cs e false)) :
 Fr ρ ρ h (h.set A .dead) w w/\bP ρ (h.set A .dead) w:=by
 have uX:A < h.size:=Heap.bw hg
 refine ⟨⟨λ_ _ h=>h,λA' L' h1 h2=>(by rw [h1] at h2;cases h2),rfl,rfl,rfl,bj _,bj _,xA _ _,λ_ _ _=>rfl,?_⟩,⟨?_,?_⟩⟩
 .intro A' dS hl
  rw [Heap.bQ] at hl
  rw [Heap.aJ _ _ _ _ uX,az (by omega)]
 .intro A' L' dS
  rw [Heap.aJ _ _ _ _ uX]
  by_cases e':A'=A
  .subst e'
   rw [aE rfl]
   exact hs.lt dS
  .rw [az e']
   exact hs.ff A' L' dS
 .intro A1 A2 L1 L2 h1 h2 aQ hb
  unfold live nL
  rw [Heap.aJ _ _ _ _ uX,Heap.aJ _ _ _ _ uX]
  by_cases e1:A1=A
  .left;simp [e1]
  .by_cases e2:A2=A
   .right;left;simp [e2]
   .rw [az e1,az e2]
    exact hs.inj A1 A2 L1 L2 h1 h2 aQ hb

theorem ztF {cur us:List ab} {s:Nat} (hc:cut cur s n=some m) (hl:s+n+us.length<=cur.length) :
 cut (aB cur (s+n) us) s (n+us.length)=some (m++us):=by
 obtain ⟨h1,h2,h3⟩:=qo hc
 refine sq (by rw [oR hl];omega) (by simp [h2]) λi hi=>?_
 rw [bG _ _ _ _ hl,xw,h2]
 by_cases mV:i < n
 .rw [aE mV,aE (by omega),h3 i mV]
 .rw [az mV,az (by omega),aE (by omega)]
  congr 1
  omega

theorem zrw (hs:bP ρ h w) (fW:ρ h.size=none) {A:Nat} {L:Loc} {cs eO us:List ab} {cur:Array ab} {fz:Nat × Nat} (hA:ρ A=some L) (hg:h.get A=some (.row cs e false))
 (gr:w.heap[L.b]? = some (.cells cur e fz)) (ob:ot e cur.size fz) (nJ:cur.size=L.vP) (hm:cut cur.toList (L.s+o) eO.length=some m) (hv:cu ρ eO m) (hn:cu ρ news us)
 (kA:L.s+o+eO.length+us.length<=L.vP) :
 ∃ ρ',ρ' h.size=some ⟨L.b,L.s+o,L.vP⟩/\Fr ρ ρ' h ((h.set A .dead).push (.row (eO++news) e false)) w (w.setRow L.b (aB cur.toList (L.s+o+eO.length) us).toArray) /\
   bP ρ' ((h.set A .dead).push (.row (eO++news) e false)) (w.setRow L.b (aB cur.toList (L.s+o+eO.length) us).toArray):=by
 have uX:A < h.size:=Heap.bw hg
 have eL:∀ A L',ρ A=some L'->(λA=>if A=h.size then some (⟨L.b,L.s+o,L.vP⟩:Loc) else ρ A) A=some L':=by
  intro A L' hA
  have aQ:A≠h.size:=λe=>by rw [e,fW] at hA;cases hA
  simp only [az aQ]
  exact hA
 have re:=setRow_heap w L.b cur (aB cur.toList (L.s+o+eO.length) us).toArray e _ gr
 have jA:∀ b,b≠L.b->(w.setRow L.b (aB cur.toList (L.s+o+eO.length) us).toArray).heap[b]? = w.heap[b]? := λb hb=>setRow_other w L.b b _ hb
 have dx:(w.setRow L.b (aB cur.toList (L.s+o+eO.length) us).toArray).heap.size=w.heap.size:=by simp [World.setRow]
 have eR:∀ j,((h.set A .dead).push (.row (eO++news) e false)).get j=if j=h.size then some (.row (eO++news) e false) else if j=A then some .dead else h.get j:=by
  intro j
  rw [Heap.bg,Heap.size_set,Heap.aJ _ _ _ _ uX]
 have aQ:∀ A' L',ρ A'=some L'->A'≠A->live h A'->L'.b≠L.b:=by
  intro A' L' dS e' kb heq
  rcases hs.inj A' A L' L dS hA e' heq with h1|h1|h1
  .exact h1 kb
  .exact h1 ⟨_,hg,by simp⟩
  .obtain ⟨_,RN,e2,qB⟩:=h1
   rw [hg] at qB
   cases qB
 refine ⟨λA=>if A=h.size then some ⟨L.b,L.s+o,L.vP⟩ else ρ A,by simp,⟨eL,?_,rfl,rfl,rfl,by rw [dx];exact bj _,?_,xA _ _,?_,?_⟩,⟨?_,?_⟩⟩
 .intro A' L' dS Yc
  split at dS
  .rename_i e1
   cases dS
   refine ⟨by omega,by rw [Heap.size_push,Heap.size_set];omega,.inr ⟨A,L,hA,rfl,?_,by rw [Heap.size_push,Heap.size_set];omega⟩⟩
   rw [Heap.cR,Heap.bQ]
   omega
  .rw [Yc] at dS;cases dS
 .rw [Heap.size_push,Heap.size_set];omega
 .intro b hb aH
  refine jA b λe'=>?_
  subst e'
  have:=aH A L hA rfl
  rw [Heap.cR,Heap.bQ,Heap.size_push,Heap.size_set] at this
  omega
 .intro A' dS hl
  rw [Heap.cR,Heap.bQ] at hl
  rw [eR,az (by omega),az (by omega)]
 .intro A' L' dS
  rw [eR]
  split at dS
  .rename_i e1
   cases dS
   rw [aE e1]
   refine ⟨_,fz,re,?_,?_,m++us,?_,(hv.append hn).mono eL⟩
   .rw [Ey,oR (by simp;omega)]
    simpa using ob
   .show (aB cur.toList (L.s+o+eO.length) us).toArray.size=L.vP
    rw [Ey,oR (by simp;omega)]
    simpa using nJ
   .show cut (aB cur.toList (L.s+o+eO.length) us) (L.s+o) (eO++news).length=some (m++us)
    rw [dy,hn.1]
    exact ztF hm (by simp;omega)
  .rename_i e1
   rw [az e1]
   by_cases e2:A'=A
   .rw [aE e2]
    show L'.b < _
    rw [dx]
    exact hs.lt dS
   .rw [az e2]
    exact (hs.ff A' L' dS).keep eL (by rw [dx];exact bj _) λhl=>jA L'.b (aQ A' L' dS e2 hl)
 .intro A1 A2 L1 L2 h1 h2 yG hb
  unfold live nL
  rw [eR,eR]
  have bf:∀ A' L',A'≠h.size->ρ A'=some L'->L.b=L'.b->¬ ∃ b,(if A'=A then some ba.dead else h.get A')=some b/\b≠.dead:=by
   intro A' L' hh dS tX
   by_cases e2:A'=A
   .simp [e2]
   .rw [az e2]
    exact λkb=>aQ A' L' dS e2 kb tX.symm
  split at h1
  .rename_i e1
   split at h2
   .omega
   .rename_i e2
    cases h1
    right;left
    rw [az e2]
    exact bf A2 L2 e2 h2 hb
  .rename_i e1
   split at h2
   .rename_i e2
    cases h2
    left
    rw [az e1]
    exact bf A1 L1 e1 h1 hb.symm
   .rename_i e2
    rw [az e1,az e2]
    by_cases f1:A1=A
    .left;simp [f1]
    .by_cases f2:A2=A
     .right;left;simp [f2]
     .rw [az f1,az f2]
      exact hs.inj A1 A2 L1 L2 h1 h2 yG hb

theorem Ct (hk:0 < k) (hG:q < G):G<=G*k+q/\(G*k+q) % G=q/\(G*k+q) / G=k:=by
 refine ⟨?_,?_,?_⟩
 .calc G=G*1:=(CT _).symm
   _<=G*k:=Nat.mul_le_mul_left _ hk
   _<=G*k+q:=Nat.le_add_right _ _
 .rw [Nat.mul_add_mod,Eu hG]
 .rw [Nat.mul_add_div (by unfold G;omega),Nat.div_eq_of_lt hG,iU]

theorem zgv (hT:T.Fits P) (hs:bP ρ h w) (bW:fJ ρ h h') {s s' x x' v:ab} (hu:Rs P u) (Ai:VR ρ s s') (hx:VR ρ x x') (ha:gC T t s x h=some (v,h')) :
 ∃ ρ' vc w',(Builtin.append_ #[t,u] ty #[s',x']).run P w=.ok vc w'/\Fr ρ ρ' h h' w w'/\bP ρ' h' w'/\VR ρ' v vc:=by
 unfold gC at ha
 split at ha
 .rename_i e hd
  have ht:=hT.desc _ _ hd
  simp only [cH,Prod.exists] at ha
  obtain ⟨k,bytes,z,gT,m,news,jd,ha⟩:=ha
  obtain ⟨i,zv,hi,rfl,rfl,hz,rfl,vJ,uq⟩:=hT.info e k bytes z gT
  obtain ⟨us,kD,NC,hlen,ey⟩:=zlP (P:=P) hs hx jd
  have MS:us.take (m*i.size)=us:=gE (by omega)
  have hf:∀ W:World,W.heap=w.heap->(Builtin.firstCells i.size m x').run P W=.ok us.toArray W:=λW hW=>by
   have:=ey W hW m (bj _)
   rwa [MS] at this
  split at ha
  .rename_i base n c
   split at ha
   .rename_i hm
    subst hm
    cases ha
    have h0:=ey w rfl 0 (bj _)
    simp only [Nat.zero_mul,xB] at h0
    have key:∃ a' c',s'=.slice a' n c'/\n<=c':=by
     cases Ai with
     |dI=>exact ⟨_,_,rfl,bj _⟩
     |slice hA hc hn en=>exact ⟨_,_,rfl,hn⟩
     |b9 hA hc dt hn hk hm en=>exact ⟨_,_,rfl,by omega⟩
    obtain ⟨a',c',rfl,hn⟩:=key
    exact ⟨ρ,_,w,zjS ht hu hi hlen h0 hn,Fr.refl _ _ _,hs,Ai⟩
   .rename_i hm
    split at ha
    .cases ha
    .rename_i MA
     simp only [sB,jH,CO,not_or,Bool.not_eq_false] at MA
     obtain ⟨⟨⟨wM,sU⟩,h60⟩,bf⟩:=MA
     have yy:0 < i.size:=by omega
     split at ha
     .rename_i iY
      split at ha
      .rename_i A o
       split at ha
       .rename_i fT
        simp only [cA,cV] at ha
        obtain ⟨h1,IP,rfl,rfl⟩:=ha
        cases Ai with
        |slice hA hc hn en =>
         rename_i L ad
         obtain rfl:=en (by have:=Eu hc;omega)
         obtain ⟨w',fj,cW,dV⟩:=PZ (P:=P) hs hA kD IP
         have MI:c % G=c:=Eu hc
         rw [<- pF] at fj
         exact ⟨ρ,_,w',zdi ht hu hi hlen (hf w rfl) (by omega) (by rw [Addr.add_mid];exact fj),cW,dV,.slice hA hc (by omega) (λ_=>rfl)⟩
        |b9 hA hc dt hn hk Du en =>
         rename_i c' L ad
         obtain ⟨w',fj,cW,dV⟩:=PZ (P:=P) hs hA kD IP
         have ye:c'≠0:=by omega
         obtain ⟨rfl,kA⟩:=en ye
         rw [<- pF] at fj
         exact ⟨ρ,_,w',zdi ht hu hi hlen (hf w rfl) (by omega) (by rw [Addr.add_mid];exact fj),cW,dV,.b9 hA hc dt (by omega) hk Du (λ_=>⟨rfl,kA⟩)⟩
       .cases ha
      .cases ha
     .rename_i iY
      simp only [cH] at ha
      obtain ⟨eO,hold,ha⟩:=ha
      obtain ⟨a',c',mo,rfl,DJ,Ng,hfo⟩:=ze6 (P:=P) hs Ai hold
      have F6:mo.take (n*i.size)=mo:=gE (by omega)
      have XF:∀ W:World,W.heap=w.heap->(Builtin.firstCells i.size n (.slice a' n c')).run P W=.ok mo.toArray W:=λW hW=>by
       have:=hfo W hW n (bj _)
       rwa [F6] at this
      have jX:=Ct (q:=n+m) yy (by unfold G;omega)
      have grown:∀ (h2:Heap),bP ρ h2 w->ρ h2.size=none->c' < n+m->∃ ρ' vc w',(Builtin.append_ #[t,u] ty #[.slice a' n c',x']).run P w=.ok vc w'/\Fr ρ ρ' h2 (h2.push (.row (eO++news) e false)) w w'/\bP ρ' (h2.push (.row (eO++news) e false)) w' /\
       VR ρ' (.slice (some ⟨h2.size,0,none⟩) (n+m) (G*i.size+(n+m))) vc:=by
       intro h2 gV Nh aT
       have hr:=zih (w:=w) (ty:=ty) ht hu hi hz hlen (hf w.drew rfl) (XF w.drew rfl) aT (by omega) (by omega)
       have ka:=grownCap_ge w (n+m) c' e
       have hle:=grownCap_le_maxLen w (n+m) c' e (by unfold maxLen;omega)
       have oK:zv.cells.size=i.size:=by rw [<- qM,vJ]
       have M8:((mo++us)++(Builtin.zeroCells zv.cells (grownCap w (n+m) c' e - (n+m))).toList).length=grownCap w (n+m) c' e*i.size:=by
        simp only [dy,Ng,NC,qM,size_zeroCells,oK,<- rS]
        congr 1
        omega
       have X7:(eO++news).length=(mo++us).length:=by simp [DJ.1,kD.1]
       obtain ⟨ρ',hρ,cW,dV⟩:=Jd (W:=w.drew.alloc (.cells ((mo++us)++(Builtin.zeroCells zv.cells (grownCap w (n+m) c' e - (n+m))).toList).toArray e)) (cs:=eO++news) (m:=mo++us) gV Nh rfl rfl rfl rfl
        (by rw [X7]
            refine sq (by simp) rfl λj hj=>?_
            rw [jo]
            exact (nc (l₂:=(Builtin.zeroCells zv.cells (grownCap w (n+m) c' e - (n+m))).toList) hj).symm)
        (DJ.append kD)
       refine ⟨ρ',_,_,hr,cW,dV,?_⟩
       refine .b9 hρ jX.1 (by rw [jX.2.1];exact ka) (by rw [jX.2.1];exact bj _) (by rw [jX.2.2];exact yy) hle (λ_=>⟨by simp,?_⟩)
       rw [jX.2.2]
       simp only [Ey,M8]
       omega
      split at ha
      .rename_i hc
       cases ha
       have MI:c % G=c:=Eu hc
       have amn:c'=c:=by
        cases Ai with
        |dI=>rfl
        |slice hA hc hn en=>rfl
        |b9 hA yd dt hn hk hm en=>omega
       exact grown h hs (bW _ (bj _) (by rw [Heap.size_push];omega)) (by omega)
      .rename_i hc
       split at ha
       .rename_i A o
        split at ha
        .rename_i cs e' hg
         split at ha
         .rename_i ky
          simp only [ep,jH] at ky
          obtain ⟨rfl,fT⟩:=ky
          cases ha
          cases Ai with
          |slice hA yd hn en=>omega
          |b9 hA yd dt hn hk Du en =>
           rename_i L ad
           by_cases aO:n+m<=c'
           .have ye:c'≠0:=by omega
            obtain ⟨rfl,kA⟩:=en ye
            have hb:=hs.ff A L hA
            rw [hg] at hb
            obtain ⟨cur,fz,gr,ob,nJ,m0,uj,oI⟩:=hb
            obtain ⟨k1,k2,k3⟩:=qo uj
            rw [fT] at kA
            have hmul:(n+m)*i.size<=c'*i.size:=qw _ aO
            rw [rS] at hmul
            have Dw:eO.length=n*i.size:=by rw [DJ.1];exact Ng
            have tY:∃ mm,cut cur.toList (L.s+o) eO.length=some mm/\cu ρ eO mm:=by
             simp only [mg] at hold
             split at hold
             .cases hold
              exact ⟨[],sq (by simp;omega) rfl (by intro i hi;simp at hi),.nil ρ⟩
             .simp only [gD,hg] at hold
              obtain ⟨d,jv,wR⟩:=oI.cut hold
              obtain ⟨d1,d2,d3⟩:=qo jv
              refine ⟨d,sq (by simp at k1 ⊢;omega) (by rw [Dw];exact d2) (λj hj=>?_),wR⟩
              rw [d3 j (by omega),k3 (o+j) (by omega),pF]
            obtain ⟨mm,Gm,vF⟩:=tY
            obtain ⟨ρ',hρ,cW,dV⟩:=zrw hs (bW _ (bj _) (by rw [Heap.size_push,Heap.size_set];omega)) hA hg gr ob nJ Gm vF kD (by omega)
            have fj:=SG P L.b (L.s+o+eO.length) e' fz us 0 cur w gr ob (by simp;omega) (kD.one bf)
            simp only [iU] at fj
            refine ⟨ρ',_,_,zdi ht hu hi hlen (hf w rfl) aO (by rw [Addr.add_mid,<- Dw];exact fj),cW,dV,?_⟩
            refine .b9 hρ jX.1 (by rw [jX.2.1];exact aO) (by rw [jX.2.1];exact bj _) (by rw [jX.2.2];exact yy) Du (λ_=>⟨rfl,?_⟩)
            rw [jX.2.2]
            exact kA
           .obtain ⟨o7,G9⟩:=zlh hs hg
            obtain ⟨ρ',vc,w',hr,Iu,Zy,jB⟩:=grown _ G9 (bW _ (bj _) (by rw [Heap.size_push,Heap.size_set];omega)) (by omega)
            exact ⟨ρ',vc,w',hr,o7.trans Iu,Zy,jB⟩
         .cases ha
        .cases ha
       .cases ha
  .cases ha
 .cases ha

end
end Go.Am
namespace Go.Am
open Go.RowKit
variable {t:TypeId} {v:ab}

theorem PS {Z:Type} (P:Program):∀ (c:Sem Z) (a:Z),jh P c=some a->∀ w,c.run P w=.ok a w
 | .pure b,a,h,w=>by simp only [jh] at h;cases h;rfl
 | .program k,a,h,w=>by simp only [jh] at h;exact PS P (k P) a h w
 | .mark m k,a,h,w=>by simp only [jh] at h;exact PS P k a h w
 | .load ..,_,h,_=>by simp [jh] at h
 | .store ..,_,h,_=>by simp [jh] at h
 | .new ..,_,h,_=>by simp [jh] at h
 | .shape ..,_,h,_=>by simp [jh] at h
 | .freeze ..,_,h,_=>by simp [jh] at h
 | .frozen ..,_,h,_=>by simp [jh] at h
 | .getObj ..,_,h,_=>by simp [jh] at h
 | .setObj ..,_,h,_=>by simp [jh] at h
 | .choose ..,_,h,_=>by simp [jh] at h
 | .sys ..,_,h,_=>by simp [jh] at h
 | .halt ..,_,h,_=>by simp [jh] at h

section
variable {P:Program} {T:bI} {ρ:cm} {h h':Heap} {w:World}

theorem zrq (hT:T.Fits P) {n:Nat} (hn:dg T t=some n):∃ i,P.info? t=some i/\i.size=n:=by
 simp only [dg,cA,Prod.exists] at hn
 obtain ⟨a,b,c,hi,rfl⟩:=hn
 obtain ⟨i,zv,h1,h2,_⟩:=hT.info t a b c hi
 exact ⟨i,h1,h2⟩

theorem vX (hT:T.Fits P) {n:Nat} (hn:dg T t=some n) (w:World):(sizeOf t).run P w=.ok n w:=by
 obtain ⟨i,hi,rfl⟩:=zrq hT hn
 simp [sizeOf,typeInfo,hi]

theorem zqC (hT:T.Fits P) (hs:bP ρ h w) {u ty:TypeId} {d d' s s':ab} (hd:VR ρ d d') (Ai:VR ρ s s') (hc:Rn T t d s h=some (v,h')) :
 ∃ vc w',(Builtin.copy_ #[t,u] ty #[d',s']).run P w=.ok vc w'/\Fr ρ ρ h h' w w'/\bP ρ h' w'/\VR ρ v vc:=by
 unfold Rn at hc
 split at hc
 .rename_i e a n c wJ
  have ht:=hT.desc _ _ wJ
  simp only [cH,Prod.exists] at hc
  obtain ⟨k,hk,m,src,jd,hc⟩:=hc
  obtain ⟨us,kD,NC,hlen,ey⟩:=zlP (P:=P) hs Ai jd
  have dx:=vX hT hk w
  have hf:=ey w rfl (min m n) (xA _ _)
  split at hc
  .rename_i h0
   cases hc
   rw [h0] at hf
   simp only [Nat.zero_mul,xB] at hf
   have yE:Nat.min m n=0:=h0
   have key:∃ a' c',d'=.slice a' n c':=by cases hd <;> exact ⟨_,_,rfl⟩
   obtain ⟨a',c',rfl⟩:=key
   refine ⟨.int .i64 0,w,?_,Fr.refl _ _ _,hs,.int _ _⟩
   cases a' <;> simp [Builtin.copy_,run_underlying ht,hlen,yE,dx,hf,storeCells,goInt]
  .rename_i h0
   have yE:Nat.min m n=min m n:=rfl
   split at hc
   .rename_i A o
    simp only [cA,cV] at hc
    obtain ⟨h1,IP,rfl,rfl⟩:=hc
    have key:∃ L c',ρ A=some L/\d'=.slice (some ⟨L.b,L.s+o,none⟩) n c':=by
     cases hd with
     |slice hA hc hn en =>
      obtain rfl:=en (by omega)
      exact ⟨_,_,hA,rfl⟩
     |b9 hA hc dt hn hk hm en =>
      obtain ⟨rfl,_⟩:=en (by omega)
      exact ⟨_,_,hA,rfl⟩
    obtain ⟨L,c',hA,rfl⟩:=key
    obtain ⟨w',fj,cW,dV⟩:=PZ (P:=P) hs hA (kD.take _) IP
    refine ⟨.int .i64 (min m n:Nat),w',?_,cW,dV,.int _ _⟩
    simp [Builtin.copy_,run_underlying ht,hlen,yE,dx,hf,fj,goInt]
   .cases hc
 .cases hc

theorem zog (hT:T.Fits P) (hs:bP ρ h w) {ty:TypeId} {x x':ab} (hx:VR ρ x x') (hc:rI T t x h=some h') :
 ∃ w',(Builtin.clear_ #[t] ty #[x']).run P w=.ok undef w'/\Fr ρ ρ h h' w w'/\bP ρ h' w':=by
 unfold rI at hc
 split at hc
 .rename_i e a n c wJ
  have ht:=hT.desc _ _ wJ
  split at hc
  .rename_i h0
   subst h0
   cases hc
   have key:∃ a' c',x'=.slice a' 0 c':=by cases hx <;> exact ⟨_,_,rfl⟩
   obtain ⟨a',c',rfl⟩:=key
   refine ⟨w,?_,Fr.refl _ _ _,hs⟩
   cases a' <;> simp [Builtin.clear_,run_underlying ht,undef]
  .rename_i h0
   simp only [cH,Prod.exists] at hc
   obtain ⟨k,uR,z,gT,hc⟩:=hc
   obtain ⟨i,zv,hi,rfl,rfl,hz,rfl,vJ,uq⟩:=hT.info e k uR z gT
   split at hc
   .rename_i A o
    have key:∃ L c',ρ A=some L/\x'=.slice (some ⟨L.b,L.s+o,none⟩) n c':=by
     cases hx with
     |slice hA hc hn en =>
      obtain rfl:=en (by omega)
      exact ⟨_,_,hA,rfl⟩
     |b9 hA hc dt hn hk hm en =>
      obtain ⟨rfl,_⟩:=en (by omega)
      exact ⟨_,_,hA,rfl⟩
    obtain ⟨L,c',hA,rfl⟩:=key
    obtain ⟨w',fj,cW,dV⟩:=PZ (P:=P) hs hA (cu.plain ρ (zfw uq n)) hc
    refine ⟨w',?_,cW,dV⟩
    have YT:(Builtin.zeroCells zv.cells n).toList=oT zv.cells.toList n:=zdM zv.cells n
    obtain ⟨n',rfl⟩:∃ n',n=n'+1:=⟨n - 1,by omega⟩
    simp [Builtin.clear_,run_underlying ht,zeroValue,typeInfo,hi,hz,YT,fj,undef]
   .cases hc
 .cases hc

theorem zif (hT:T.Fits P) (hs:bP ρ h w) (bW:fJ ρ h h') {l l' c c':ab} (hl:VR ρ l l') (hc:VR ρ c c') (hm:Qc T t l c h=some (v,h')) :
 ∃ ρ' vc w',(Instr.makeSlice t l' c').run P w=.ok vc w'/\Fr ρ ρ' h h' w w'/\bP ρ' h' w'/\VR ρ' v vc:=by
 unfold Qc at hm
 split at hm
 .rename_i e k1 l k2 c wJ
  cases hl
  cases hc
  have ht:=hT.desc _ _ wJ
  simp only [cH,Prod.exists] at hm
  obtain ⟨k,uR,z,gT,hm⟩:=hm
  obtain ⟨i,zv,hi,rfl,rfl,hz,rfl,vJ,uq⟩:=hT.info e k uR z gT
  split at hm
  .rename_i hh
   obtain ⟨h0,hlc,h60,sU⟩:=hh
   cases hm
   have hr:=run_make (P:=P) w t e i zv ht hi hz k1 k2 l c h0 hlc (by rw [Int.mul_comm];omega) (by omega)
   have oK:zv.cells.size=i.size:=by rw [<- qM,vJ]
   have yD:(madeCells zv.cells (c.toNat*i.size)).toList=oT zv.cells.toList c.toNat:=by
    rw [<- oK]
    exact zdM zv.cells c.toNat
   obtain ⟨ρ',hρ,cW,dV⟩:=Jd (W:=w.alloc (.cells (madeCells zv.cells (c.toNat*i.size)) e)) (cs:=oT zv.cells.toList c.toNat) (m:=oT zv.cells.toList c.toNat) hs (bW _ (bj _) (by rw [Heap.size_push];omega)) rfl rfl rfl rfl
    (by rw [yD];exact sq (by omega) rfl (λj _=>by rw [jo])) (cu.plain ρ (zfw uq _))
   refine ⟨ρ',_,_,hr,cW,dV,?_⟩
   have:=VR.slice (ρ:=ρ') (o:=0) (n:=l.toNat) (c:=c.toNat) hρ (by unfold G;omega) (by omega) (λ_=>rfl)
   simpa using this
  .cases hm
 .cases hm

theorem zlr (off:Nat):∀ (l:List ab) (k:Nat) (cs:Array ab),off+k+l.length<=cs.size ->
 ((l.zipIdx k).foldl (λcs (x:ab × Nat)=>cs.setIfInBounds (off+x.2) x.1) cs).toList=aB cs.toList (off+k) l
 | [],k,cs,_=>by simp [aB]
 |v::l,k,cs,hl=>by
  simp only [List.zipIdx_cons,uM]
  have BC:off+k+(l.length+1)<=cs.size:=by simpa using hl
  rw [zlr off l (k+1) _ (by simp;omega)]
  apply qN
  intro i
  rw [bG _ _ _ _ (by simp;omega),bG _ _ _ _ (by simp;omega)]
  simp only [Array.toList_setIfInBounds,sA,dn,qM]
  by_cases h1:i < off+k
  .rw [aE h1,aE (by omega),az (by omega)]
  .rw [az h1]
   by_cases h2:i=off+k
   .subst h2
    rw [aE (by omega),aE rfl,aE (by omega),aE (by omega)]
    simp
   .rw [az (by omega)]
    by_cases h3:i < off+k+(l.length+1)
    .rw [aE (by omega),aE h3]
     obtain ⟨j,rfl⟩:∃ j,i=off+k+1+j:=⟨i - (off+k+1),by omega⟩
     rw [show off+k+1+j - (off+(k+1))=j by omega,show off+k+1+j - (off+k)=j+1 by omega]
     simp
    .rw [az (by omega),az h3,az (by omega)]

theorem PV {place place':Nat->Option (Nat × Nat)} (hp:∀ i r,place i=some r->place' i=some r):∀ (parts dW:List (Nat × ab)) (cs pP:List ab) (ds:Array ab),
 parts.length=dW.length->(∀ (i:Nat) (x y:Nat × ab),parts[i]? = some x->dW[i]? = some y->x.1=y.1/\VR ρ x.2 y.2)->cu ρ cs ds.toList->uJ place cs parts=some pP ->
 ∃ RO,Instr.fill place' ds dW=some RO/\cu ρ pP RO.toList
 | [],[],cs,pP,ds,_,_,hv,hf=>by
  simp only [uJ] at hf
  cases hf
  exact ⟨ds,rfl,hv⟩
 |(i,v)::parts,(j,u)::dW,cs,pP,ds,hlen,aH,hv,hf=>by
  obtain ⟨dK,lZ⟩:=aH 0 _ _ rfl rfl
  simp only at dK lZ
  subst dK
  simp only [uJ,cH,Prod.exists] at hf
  obtain ⟨o,n,mn,hf⟩:=hf
  split at hf
  .rename_i hc
   have lI:u.cells.size=v.cells.size:=by have:=lZ.cells.1;simpa using this.symm
   have rf:ds.size=cs.length:=by have:=hv.1;simpa using this.symm
   have MR:=zlr o u.cells.toList 0 ds (by simp;omega)
   have yo:(u.cells.zipIdx.foldl (λcs (x:ab × Nat)=>cs.setIfInBounds (o+x.2) x.1) ds).toList=aB ds.toList o u.cells.toList:=by
    rw [<- Array.foldl_toList,Array.toList_zipIdx]
    simpa using MR
   have ND:cu ρ (aB cs o v.cells.toList) (u.cells.zipIdx.foldl (λcs (x:ab × Nat)=>cs.setIfInBounds (o+x.2) x.1) ds).toList:=by
    rw [yo]
    exact hv.aB o lZ.cells
   obtain ⟨RO,sV,jv⟩:=PV hp parts dW _ pP _ (by simpa using hlen) (λi x y hx hy=>aH (i+1) x y (by simpa using hx) (by simpa using hy)) ND hf
   refine ⟨RO,?_,jv⟩
   simp only [Instr.fill,hp i _ mn]
   rw [az (by simp;omega)]
   exact sV
  .cases hf
 | [],_::_,_,_,_,hlen,_,_,_=>by simp at hlen
 |_::_,[],_,_,_,hlen,_,_,_=>by simp at hlen

theorem zg0 (hT:T.Fits P):∀ (fs:List Field) (ps:List (Nat × Nat)) (w:World),QF T fs=some ps->(fs.mapM λf=>do pure (f.offset,<- sizeOf f.type):Sem (List (Nat × Nat))).run P w=.ok ps w
 | [],ps,w,hp=>by simp only [QF] at hp;cases hp;simp
 |f::fs,ps,w,hp=>by
  simp only [QF,cH,cA] at hp
  obtain ⟨n,hn,r,hr,rfl⟩:=hp
  rw [List.mapM_cons]
  simp only [Sem.run_bind,vX hT hn,Result.andThen_ok,Sem.run_pure]
  have ih:=zg0 hT fs r w hr
  rw [ih]
  rfl

theorem zn7 (hT:T.Fits P) {parts dW:List (Nat × ab)} (hlen:parts.length=dW.length)
 (aH:∀ (i:Nat) (x y:Nat × ab),parts[i]? = some x->dW[i]? = some y->x.1=y.1/\VR ρ x.2 y.2) (hb:qp T t parts=some v) (w:World) :
 ∃ vc,(Instr.build t dW.toArray).run P w=.ok vc w/\VR ρ v vc:=by
 simp only [qp,cH,Prod.exists] at hb
 obtain ⟨k,uR,z,gT,hb⟩:=hb
 obtain ⟨i,zv,hi,rfl,rfl,hz,rfl,vJ,uq⟩:=hT.info t k uR z gT
 split at hb
 .rename_i fs hd
  have ht:=hT.desc _ _ hd
  simp only [cH,cA] at hb
  obtain ⟨ps,pq,cs,hf,rfl⟩:=hb
  obtain ⟨ds,sV,jv⟩:=PV (ρ:=ρ) (place':=(ps.toArray[·]?)) (λi r hr=>by simpa using hr) parts dW _ cs zv.cells hlen aH (cu.plain ρ uq) hf
  refine ⟨.agg ds,?_,?_⟩
  .have hm:=zg0 hT fs.toList ps w pq
   have wO:(fs.mapM λf=>do pure (f.offset,<- sizeOf f.type):Sem (Array (Nat × Nat))).run P w=.ok ps.toArray w:=by
    rw [Array.mapM_eq_mapM_toList]
    simp only [Sem.run_map,hm,Result.andThen_ok]
   simp only [Instr.build,zeroValue,typeInfo,Sem.run_bind,run_program,Result.andThen_ok,hi,Sem.run_pure,hz,run_underlying ht,wO,sV]
  .have:=jv.toArray
   simpa using this
 .rename_i n e hd
  have ht:=hT.desc _ _ hd
  simp only [cH,cA] at hb
  obtain ⟨k,hk,cs,hf,rfl⟩:=hb
  obtain ⟨ds,sV,jv⟩:=PV (ρ:=ρ) (place':=λi=>some (i*k,k)) (λi r hr=>hr) parts dW _ cs zv.cells hlen aH (cu.plain ρ uq) hf
  refine ⟨.agg ds,?_,?_⟩
  .simp only [Instr.build,zeroValue,typeInfo,Sem.run_bind,run_program,Result.andThen_ok,hi,Sem.run_pure,hz,run_underlying ht,vX hT hk,sV]
  .have:=jv.toArray
   simpa using this
 .cases hb

theorem zhh (hT:T.Fits P) (hs:bP ρ h w) (bW:fJ ρ h h') {len:Nat} {parts dW:List (Nat × ab)} (hlen:parts.length=dW.length)
 (aH:∀ (i:Nat) (x y:Nat × ab),parts[i]? = some x->dW[i]? = some y->x.1=y.1/\VR ρ x.2 y.2) (hb:zq T t len parts h=some (v,h')) :
 ∃ ρ' vc w',(Instr.buildSlice t len dW.toArray).run P w=.ok vc w'/\Fr ρ ρ' h h' w w'/\bP ρ' h' w'/\VR ρ' v vc:=by
 unfold zq at hb
 split at hb
 .rename_i e hd
  have ht:=hT.desc _ _ hd
  simp only [cH,Prod.exists] at hb
  obtain ⟨k,uR,z,gT,hb⟩:=hb
  obtain ⟨i,zv,hi,rfl,rfl,hz,rfl,vJ,uq⟩:=hT.info e k uR z gT
  split at hb
  .cases hb
  .rename_i Yt
   simp only [sB,jH,not_or] at Yt
   obtain ⟨Yt,alT⟩:=Yt
   have hG:len < G:=by unfold G;omega
   simp only [cA,cV] at hb
   obtain ⟨cs,hf,rfl,rfl⟩:=hb
   have oK:zv.cells.size=i.size:=by rw [<- qM,vJ]
   by_cases h0:len*i.size=0
   .have rn:oT zv.cells.toList len=[]:=by
     apply Tt
     rw [zmR,vJ]
     exact h0
    rw [rn] at hf
    obtain ⟨ds,sV,jv⟩:=PV (ρ:=ρ) (place':=λj=>some (j*i.size,i.size)) (λi r hr=>hr) parts dW _ cs #[] hlen aH (.nil ρ) hf
    obtain ⟨ρ',hρ,cW,dV⟩:=Jd (W:=w.alloc (.cells ds e)) (cs:=cs) (m:=ds.toList) hs (bW _ (bj _) (by rw [Heap.size_push];omega)) rfl rfl rfl rfl (by rw [jv.1];exact sq (by omega) rfl (λj _=>by rw [jo])) jv
    refine ⟨ρ',.slice (some ⟨w.heap.size,0,none⟩) len len,w.alloc (.cells ds e),?_,cW,dV,?_⟩
    .have Nw:¬ (16777216 < len*i.size):=by omega
     simp [Instr.buildSlice,run_underlying ht,sizeOf,typeInfo,hi,h0,Array.range_zero',sV,Go.newRow]
    .have:=VR.slice (ρ:=ρ') (o:=0) (n:=len) (c:=len) hρ hG (bj _) (λ_=>rfl)
     simpa using this
   .have yD:((Array.range (len*i.size)).map (zv.cells[· % zv.cells.size]!)).toList=oT zv.cells.toList len:=by
     have:=zdM zv.cells len
     simp only [oK] at this ⊢
     exact this
    obtain ⟨ds,sV,jv⟩:=PV (ρ:=ρ) (place':=λj=>some (j*i.size,i.size)) (λi r hr=>hr) parts dW _ cs ((Array.range (len*i.size)).map (zv.cells[· % zv.cells.size]!)) hlen aH
     (by rw [yD];exact cu.plain ρ (zfw uq _)) hf
    obtain ⟨ρ',hρ,cW,dV⟩:=Jd (W:=w.alloc (.cells ds e)) (cs:=cs) (m:=ds.toList) hs (bW _ (bj _) (by rw [Heap.size_push];omega)) rfl rfl rfl rfl (by rw [jv.1];exact sq (by omega) rfl (λj _=>by rw [jo])) jv
    refine ⟨ρ',.slice (some ⟨w.heap.size,0,none⟩) len len,w.alloc (.cells ds e),?_,cW,dV,?_⟩
    .have Nw:¬ (16777216 < len*i.size):=by omega
     simp only [Instr.buildSlice,Sem.run_bind,run_underlying ht,Result.andThen_ok,sizeOf,typeInfo,run_program,hi,Sem.run_pure,gt_iff_lt]
     simp [Nw,h0,zeroValue,typeInfo,hi,hz,sV,Go.newRow]
    .have:=VR.slice (ρ:=ρ') (o:=0) (n:=len) (c:=len) hρ hG (bj _) (λ_=>rfl)
     simpa using this
 .cases hb

end
end Go.Am
namespace Go.Am
open Go.RowKit
variable {v x y:ab} {t:TypeId}

section
variable {P:Program} {T:bI} {ρ:cm} {h h':Heap} {w:World}

theorem S8 {hi i:Nat} (dp:VR ρ x y) (hb:xm x hi=some i) {mV:Nat} (hle:hi<=mV) (code:BoundsCode) (w:World):(Instr.sliceBound y mV code).run P w=.ok i w/\i<=hi:=by
 cases dp with
 |int k n =>
  simp only [xm] at hb
  split at hb
  .rename_i hc
   cases hb
   have yd:0<=n/\n<=(mV:Int):=⟨hc.1,by omega⟩
   exact ⟨by simp [Instr.sliceBound,asIntOf,yd],by omega⟩
  .cases hb
 |_=>simp [xm] at hb

def sE (ρ:cm):Option ab->Option ab->Prop
 |none,none=>True
 |some x,some y=>VR ρ x y
 |_,_=>False

theorem PO {len cap Fl l' h' m':Nat} {l h m ll hh mm:Option ab} (hl:sE ρ l ll) (yr:sE ρ h hh) (hm:sE ρ m mm) (hb:rF len cap l h m=some (l',h',m')) (hlen:len<=cap) (pV:cap<=Fl) (uE:Bool) (w:World) :
 (Instr.sliceBounds uE len Fl ll hh mm).run P w=.ok (l',h',if m.isSome then m' else Fl) w/\l'<=h'/\h'<=m'/\m'<=cap:=by
 simp only [rF,cH,dO,cV] at hb
 obtain ⟨m1,il,h1,Af,l1,fR,rfl,rfl,rfl⟩:=hb
 have zd:∀ (code:BoundsCode),(match ll with|some v=>Instr.sliceBound v h1 code|none=>(pure 0:Sem Nat)).run P w=.ok l1 w/\l1<=h1:=by
  intro code
  cases l with
  |none=>cases ll with
   |none=>simp only [dO] at fR;subst fR;exact ⟨rfl,lE _⟩
   |some v=>exact hl.elim
  |some x=>cases ll with
   |none=>exact hl.elim
   |some v=>exact S8 hl fR (bj _) code w
 cases m with
 |none =>
  cases mm with
  |some v=>exact hm.elim
  |none =>
   simp only [dO] at il
   subst il
   cases h with
   |none=>cases hh with
    |some v=>exact yr.elim
    |none =>
     simp only [dO] at Af
     subst Af
     obtain ⟨k1,k2⟩:=zd .sliceB
     refine ⟨?_,k2,hlen,bj _⟩
     simp only [Instr.sliceBounds,Sem.run_bind,Sem.run_pure,Result.andThen_ok,QU,gM,if_false]
     cases ll with
     |none =>
      have e:l1=0:=by have:=k1;simp at this;exact this.symm
      simp [e]
     |some u =>
      have e:(Instr.sliceBound u len .sliceB).run P w=.ok l1 w:=k1
      simp only [Sem.run_bind,e,Result.andThen_ok,Sem.run_pure]
   |some x=>cases hh with
    |none=>exact yr.elim
    |some v =>
     have Df:=S8 (P:=P) yr Af pV (if uE then BoundsCode.sliceAcap else .sliceAlen) w
     obtain ⟨k1,k2⟩:=zd .sliceB
     refine ⟨?_,k2,Df.2,bj _⟩
     simp only [Instr.sliceBounds,Sem.run_bind,Sem.run_pure,Result.andThen_ok,QU,gM,if_false,Df.1]
     cases ll with
     |none =>
      have e:l1=0:=by have:=k1;simp at this;exact this.symm
      simp [e]
     |some u =>
      have e:(Instr.sliceBound u h1 .sliceB).run P w=.ok l1 w:=k1
      simp only [Sem.run_bind,e,Result.andThen_ok,Sem.run_pure]
 |some q =>
  cases mm with
  |none=>exact hm.elim
  |some v =>
   have hbm:=S8 (P:=P) hm il pV (if uE then BoundsCode.slice3Acap else .slice3Alen) w
   cases h with
   |none=>cases Af
   |some x=>cases hh with
    |none=>exact yr.elim
    |some v' =>
     have Df:=S8 (P:=P) yr Af (bj _) BoundsCode.slice3B w
     obtain ⟨k1,k2⟩:=zd .slice3C
     refine ⟨?_,k2,Df.2,hbm.2⟩
     simp only [Instr.sliceBounds,Sem.run_bind,Result.andThen_ok,JV,if_true,hbm.1,Df.1]
     cases ll with
     |none =>
      have e:l1=0:=by have:=k1;simp at this;exact this.symm
      simp [e]
     |some u =>
      have e:(Instr.sliceBound u h1 .slice3C).run P w=.ok l1 w:=k1
      simp only [Sem.run_bind,e,Result.andThen_ok,Sem.run_pure]

theorem zpE (hT:T.Fits P) {l hi m ll hh mm:Option ab} (dp:VR ρ x y) (hl:sE ρ l ll) (yr:sE ρ hi hh) (hm:sE ρ m mm) (hs:kV T t x l hi m=some v) (w:World) :
 ∃ vc,(Instr.sliceAt t y ll hh mm).run P w=.ok vc w/\VR ρ v vc:=by
 unfold kV at hs
 split at hs
 .rename_i s hd
  cases dp
  have ht:=hT.desc _ _ hd
  split at hs
  .cases hs
  .rename_i hmn
   have uj:m=none:=by cases m <;> simp_all
   subst uj
   have Gm:mm=none:=by cases mm with|none=>rfl|some _=>exact hm.elim
   subst Gm
   simp only [cA,Prod.exists] at hs
   obtain ⟨l',h',m',hb,rfl⟩:=hs
   obtain ⟨k1,k2,k3,k4⟩:=PO (P:=P) (m:=none) (mm:=none) hl yr trivial hb (bj _) (bj _) false w
   refine ⟨_,?_,.string _⟩
   simp [Instr.sliceAt,Instr.slice,run_underlying ht,k1]
 .rename_i n e A o hd
  cases dp with
  |ptr hA =>
   rename_i L
   have ht:=hT.desc _ _ hd
   simp only [cH,cA,Prod.exists] at hs
   obtain ⟨l',h',m',hb,k,hk,rfl⟩:=hs
   have hnG:n < G:=by
    rcases lM n G with aT|ka
    .exact aT
    .rw [az (by omega)] at hb;cases hb
   rw [aE hnG] at hb
   obtain ⟨k1,k2,k3,k4⟩:=PO (P:=P) hl yr hm hb (bj _) (bj _) false w
   have BD:(if m.isSome then m' else n)=m':=by
    cases m with
    |some _=>rfl
    |none =>
     simp only [rF,cH,dO,cV] at hb
     obtain ⟨m1,il,h1,Af,l1,fR,rfl,rfl,rfl⟩:=hb
     simp [il]
   rw [BD] at k1
   have dx:=vX hT hk w
   refine ⟨.slice (some (if m'=l' then ⟨L.b,L.s+o,none⟩ else (⟨L.b,L.s+o,none⟩:Addr).add (l'*k))) (h' - l') (m' - l'),?_,?_⟩
   .simp only [Instr.sliceAt,Sem.run_bind,run_underlying ht,Result.andThen_ok,Instr.sureAddr,Sem.run_pure,k1,dx]
   .by_cases hG:m' - l' < G
    .refine .slice hA hG (by omega) (λh0=>?_)
     rw [az (by omega),az (by omega),Addr.add_mid,pF]
    .exfalso
     omega
 .rename_i e a n c hd
  have ht:=hT.desc _ _ hd
  simp only [cH] at hs
  obtain ⟨k,hk,hs⟩:=hs
  have dx:=vX hT hk w
  split at hs
  .rename_i hcG
   simp only [cH,Prod.exists] at hs
   obtain ⟨l',h',m',hb,hs⟩:=hs
   have BD:(if m.isSome then m' else c)=m':=by
    cases m with
    |some _=>rfl
    |none =>
     simp only [rF,cH,dO,cV] at hb
     obtain ⟨m1,il,h1,Af,l1,fR,rfl,rfl,rfl⟩:=hb
     simp [il]
   cases dp with
   |dI =>
    obtain ⟨k1,k2,k3,k4⟩:=PO (P:=P) hl yr hm hb (bj _) (bj _) true w
    rw [BD] at k1
    simp only [dO] at hs
    subst hs
    have e1:h' - l'=0:=by omega
    have e2:m' - l'=0:=by omega
    refine ⟨.slice none (h' - l') (m' - l'),?_,by rw [e1,e2];exact .dI⟩
    simp [Instr.sliceAt,Instr.slice,run_underlying ht,k1,dx]
   |slice hA hc hn en =>
    rename_i A o L ad
    obtain ⟨k1,k2,k3,k4⟩:=PO (P:=P) hl yr hm hb hn (bj _) true w
    rw [BD] at k1
    simp only [dO] at hs
    subst hs
    refine ⟨.slice (if m'=l' then some ad else some (ad.add (l'*k))) (h' - l') (m' - l'),?_,?_⟩
    .simp [Instr.sliceAt,Instr.slice,run_underlying ht,k1,dx]
    .have hx:(if m'=l' then some ad else some (ad.add (l'*k)))=some (if m'=l' then ad else ad.add (l'*k)):=by split <;> rfl
     rw [hx]
     refine .slice hA (by omega) (by omega) (λh0=>?_)
     rw [az (by omega),az (by omega),en (by omega),Addr.add_mid,pF]
   |b9 hA hc dt hn kB Du en=>omega
  .rename_i hcG
   split at hs
   .rename_i A o
    split at hs
    .rename_i fT
     simp only [cA,Prod.exists] at hs
     obtain ⟨l',h',m',hb,rfl⟩:=hs
     cases dp with
     |slice hA hc hn en=>omega
     |b9 hA hc dt hn kB Du en =>
      rename_i c' L ad
      obtain ⟨k1,k2,k3,k4⟩:=PO (P:=P) hl yr hm hb hn dt true w
      cases m with
      |some q =>
       simp only [JV,if_true] at k1
       refine ⟨.slice (if m'=l' then some ad else some (ad.add (l'*k))) (h' - l') (m' - l'),?_,?_⟩
       .simp [Instr.sliceAt,Instr.slice,run_underlying ht,k1,dx]
       .have hx:(if m'=l' then some ad else some (ad.add (l'*k)))=some (if m'=l' then ad else ad.add (l'*k)):=by split <;> rfl
        rw [hx]
        have aT:c % G < G:=EH _ (by unfold G;omega)
        refine .slice hA (by omega) (by omega) (λh0=>?_)
        rw [az (by omega),az (by omega),(en (by omega)).1,Addr.add_mid,pF]
      |none =>
       simp only [QU,gM,if_false] at k1
       have il:m'=c % G:=by
        simp only [rF,cH,dO,cV] at hb
        obtain ⟨m1,il,h1,Af,l1,fR,rfl,rfl,rfl⟩:=hb
        exact il.symm
       subst il
       refine ⟨.slice (if c'=l' then some ad else some (ad.add (l'*k))) (h' - l') (c' - l'),?_,?_⟩
       .simp [Instr.sliceAt,Instr.slice,run_underlying ht,k1,dx]
       .have hx:(if c'=l' then some ad else some (ad.add (l'*k)))=some (if c'=l' then ad else ad.add (l'*k)):=by split <;> rfl
        rw [hx]
        have aT:c % G < G:=EH _ (by unfold G;omega)
        have jX:=Ct (k:=k) (q:=c % G - l') (by omega) (by omega)
        refine .b9 hA jX.1 (by rw [jX.2.1];omega) (by rw [jX.2.1];omega) (by rw [jX.2.2];omega) (by omega) (λh0=>?_)
        obtain ⟨rfl,kA⟩:=en (by omega)
        rw [az (by omega),Addr.add_mid,jX.2.2]
        refine ⟨by rw [pF],?_⟩
        rw [fT] at kA
        have e1:c'*k=l'*k+(c' - l')*k:=by rw [<- rS];congr 1;omega
        omega
    .cases hs
   .cases hs
 .cases hs

theorem zie (hT:T.Fits P) {i j:ab} (dp:VR ρ x y) (dK:VR ρ i j) (hs:kh T t x i=some v) (w:World) :
 ∃ vc,(Instr.indexAt t y j).run P w=.ok vc w/\VR ρ v vc:=by
 unfold kh at hs
 split at hs
 .rename_i k i
  cases dK
  split at hs
  .rename_i n e A o hd
   cases dp with
   |ptr hA =>
    rename_i L
    have ht:=hT.desc _ _ hd
    split at hs
    .rename_i hi
     simp only [cA] at hs
     obtain ⟨q,hq,rfl⟩:=hs
     refine ⟨.pointer (some ⟨L.b,L.s+(o+i.toNat*q),none⟩),?_,.ptr hA⟩
     simp [Instr.indexAt,asIntOf,run_underlying ht,Instr.sureAddr,hi,vX hT hq,Addr.add_mid,pF]
    .cases hs
  .rename_i e A o n c hd
   have ht:=hT.desc _ _ hd
   split at hs
   .rename_i hi
    simp only [cA] at hs
    obtain ⟨q,hq,rfl⟩:=hs
    have key:∃ L c',ρ A=some L/\y=.slice (some ⟨L.b,L.s+o,none⟩) n c':=by
     cases dp with
     |slice hA hc hn en =>
      obtain rfl:=en (by omega)
      exact ⟨_,_,hA,rfl⟩
     |b9 hA hc dt hn hk hm en =>
      obtain ⟨rfl,_⟩:=en (by omega)
      exact ⟨_,_,hA,rfl⟩
    obtain ⟨L,c',hA,rfl⟩:=key
    refine ⟨.pointer (some ⟨L.b,L.s+(o+i.toNat*q),none⟩),?_,.ptr hA⟩
    simp [Instr.indexAt,asIntOf,run_underlying ht,hi,vX hT hq,Addr.add_mid,pF]
   .cases hs
  .cases hs
 .cases hs

theorem zid (hT:T.Fits P) {f:Nat} (dp:VR ρ x y) (hs:iS T t x f=some v) (w:World) :
 ∃ vc,(Instr.fieldAt t y f).run P w=.ok vc w/\VR ρ v vc:=by
 unfold iS at hs
 split at hs
 .rename_i fs A o hd
  cases dp with
  |ptr hA =>
   rename_i L
   have ht:=hT.desc _ _ hd
   simp only [cH] at hs
   obtain ⟨fl,hf,n,hn,hs⟩:=hs
   split at hs
   .cases hs
   .rename_i h0
    cases hs
    refine ⟨.pointer (some ⟨L.b,L.s+(o+fl.offset),none⟩),?_,.ptr hA⟩
    simp [Instr.fieldAt,run_underlying ht,hf,Instr.sureAddr,fieldPlace,vX hT hn,h0,Addr.add_mid,pF]
 .cases hs

theorem zjA (hT:T.Fits P) {cs:List ab} {ds:Array ab} {o:Nat} (hv:cu ρ cs ds.toList) (hs:wm T t cs o=some v) (w:World) :
 ∃ vc,(part t ds o).run P w=.ok vc w/\VR ρ v vc:=by
 simp only [wm,cN,cH,cA] at hs
 obtain ⟨g,⟨d,hd,hg⟩,hs⟩:=hs
 have ht:=hT.desc _ _ hd
 have pT:(isAgg t).run P w=.ok g w:=by
  unfold isAgg
  rw [Sem.run_bind,run_underlying ht w]
  cases d <;> simp_all
 cases g with
 |true =>
  simp only [if_true,cH,cA] at hs
  obtain ⟨n,hn,l,hl,rfl⟩:=hs
  obtain ⟨d',oE,wR⟩:=hv.cut hl
  refine ⟨.agg d'.toArray,?_,wR.toArray⟩
  have hx:ds.extract o (o+n)=d'.toArray:=by
   unfold cut at oE
   split at oE
   .cases oE
    apply Array.ext'
    simp [List.take_drop]
   .cases oE
  simp [part,pT,vX hT hn,hx]
 |false =>
  simp only [gM,if_false] at hs
  obtain ⟨u,hu,lZ⟩:=hv.get hs
  refine ⟨u,?_,lZ⟩
  have Aj:ds[o]? = some u:=by simpa using hu
  simp [part,pT,Aj]

theorem zoC (hT:T.Fits P) {f:Nat} (dp:VR ρ x y) (hs:Q3 T t x f=some v) (w:World) :
 ∃ vc,(Instr.field t y f).run P w=.ok vc w/\VR ρ v vc:=by
 unfold Q3 at hs
 split at hs
 .rename_i fs cs hd
  have ht:=hT.desc _ _ hd
  simp only [cH] at hs
  obtain ⟨fl,hf,hs⟩:=hs
  cases dp with
  |agg hc hh =>
   rename_i ds
   obtain ⟨vc,hr,hv⟩:=zjA hT (VR.agg hc hh).EV hs w
   refine ⟨vc,?_,hv⟩
   simp [Instr.field,run_underlying ht,hf,asAgg,hr]
 .cases hs

theorem zmn {op:BinOp} (hs:sk op x y=some v):jh P (binOp op t x y)=some v/\plain x=true/\plain y=true/\plain v=true/\(∃ k a,x=.int k a):=by
 unfold sk at hs
 split at hs <;> first|(cases hs;done)|(split at hs <;> first|(cases hs;done)|(rename_i hk;subst hk;cases hs;exact ⟨by simp [binOp,Op.intArith,Op.intCmp,jh,pure],rfl,rfl,rfl,_,_,rfl⟩))

theorem zqK {d:TypeDesc} (hd:P.underlying t=some d) {x' y':ab} {b:Bool} (hx:VR ρ x x') (hy:VR ρ y y') (he:EB d x y=some b) (w:World) :
 (Op.equal t x' y').run P w=.ok b w/\∀ (op:BinOp),op=.eql\/op=.neq->binOp op t x' y'=(if op=.eql then (do pure (.bool (<- Op.equal t x' y'))) else (do pure (.bool (!(<- Op.equal t x' y'))))):=by
 have key:(∀ d0:Nat,(Op.equalIn (d0+1) t x' y').run P w=.ok b w)/\∀ (op:BinOp),op=.eql\/op=.neq->binOp op t x' y'=(if op=.eql then (do pure (.bool (<- Op.equal t x' y'))) else (do pure (.bool (!(<- Op.equal t x' y'))))):=by
  unfold EB at he
  split at he <;> first
   |(cases he;done)
   |(cases hx <;> cases hy <;> simp at he <;> subst he <;> exact ⟨λd0=>by simp [Op.equalIn,run_underlying hd],by rintro op (rfl|rfl) <;> rfl⟩)
 exact ⟨key.1 9999,key.2⟩

theorem SS (op:BinOp) (t:TypeId) (x y:Operand) (a b:ab) (ha:a≠.nilIface) (pT:∀ c d,a=.agg c->b=.agg d->P.eqGuardType P.depth t=false) (w:World):(eqGuard op t x y a b).run P w=.ok () w:=by
 unfold eqGuard
 cases op <;> simp only [fQ,kW,if_true,if_false,gM] <;> try rfl
 all_goals
  cases a <;> first|exact (ha rfl).elim|skip
 all_goals
  cases b <;> first|rfl|skip
 all_goals
  simp [pT _ _ rfl rfl]

theorem Jl (hT:T.Fits P) {cs:Array ab} {o:Nat} (hs:wm T t cs.toList o=some v) (w:World):(part t cs o).run P w=.ok v w:=by
 simp only [wm,cN,cH,cA] at hs
 obtain ⟨g,⟨d,hd,hg⟩,hs⟩:=hs
 have ht:=hT.desc _ _ hd
 have pT:(isAgg t).run P w=.ok g w:=by
  unfold isAgg
  rw [Sem.run_bind,run_underlying ht w]
  cases d <;> simp_all
 cases g with
 |true =>
  simp only [if_true,cH,cA] at hs
  obtain ⟨n,hn,l,hl,rfl⟩:=hs
  have hx:cs.extract o (o+n)=l.toArray:=by
   unfold cut at hl
   split at hl
   .cases hl
    apply Array.ext'
    simp [List.take_drop]
   .cases hl
  simp [part,pT,vX hT hn,hx]
 |false =>
  simp only [gM,if_false] at hs
  have Aj:cs[o]? = some v:=by simpa using hs
  simp [part,pT,Aj]
theorem zf1 (hT:T.Fits P) {E:TypeId->ab->ab->Option Bool} {d:Nat} (w:World) (hE:∀ t x y b,E t x y=some b->(Op.equalIn d t x y).run P w=.ok b w) (xs ys:Array ab) :
 ∀ (fs:List Field) (ps:List (TypeId × Nat)) (b:Bool),Ja fs=some ps->Cu T E xs.toList ys.toList ps=some b->(Op.eqFields d xs ys fs).run P w=.ok b w
 | [],ps,b,hp,he=>by
  cases hp
  cases he
  simp [Op.eqFields]
 |f::fs,ps,b,hp,he=>by
  simp only [Ja] at hp
  split at hp
  .cases hp
  .rename_i hn
   simp only [cA] at hp
   obtain ⟨r,hr,rfl⟩:=hp
   simp only [Cu,cH] at he
   obtain ⟨a,ha,c,hc,q,hq,he⟩:=he
   have h1:=Jl hT ha w
   have h2:=Jl hT hc w
   have h3:=hE _ _ _ _ hq
   simp only [Op.eqFields]
   rw [aE (by simpa using hn)]
   simp only [Sem.run_bind,h1,h2,h3,Result.andThen_ok]
   cases q with
   |false =>
    simp only [gM,if_false,dO] at he
    subst he
    simp
   |true =>
    simp only [if_true] at he
    simpa using zf1 hT w hE xs ys fs r b hr he
theorem zgG (hT:T.Fits P) {E:TypeId->ab->ab->Option Bool} {d:Nat} (w:World) (hE:∀ t x y b,E t x y=some b->(Op.equalIn d t x y).run P w=.ok b w) (xs ys:Array ab) (e:TypeId) (k:Nat) :
 ∀ (n i:Nat) (b:Bool),Cu T E xs.toList ys.toList (Jk e k n i)=some b->(Op.eqItems d e k xs ys (List.range' i n)).run P w=.ok b w
 |0,i,b,he=>by
  cases he
  simp [Op.eqItems]
 |n+1,i,b,he=>by
  simp only [Jk,Cu,cH] at he
  obtain ⟨a,ha,c,hc,q,hq,he⟩:=he
  have h1:=Jl hT ha w
  have h2:=Jl hT hc w
  have h3:=hE _ _ _ _ hq
  simp only [List.range'_succ,Op.eqItems,Sem.run_bind,h1,h2,h3,Result.andThen_ok]
  cases q with
  |false =>
   simp only [gM,if_false,dO] at he
   subst he
   simp
  |true =>
   simp only [if_true] at he
   simpa using zgG hT w hE xs ys e k n (i+1) b he
theorem P9 (hT:T.Fits P) (w:World):∀ (d D:Nat) (t:TypeId) (x y:ab) (b:Bool),fF T d t x y=some b->(Op.equalIn (D+d) t x y).run P w=.ok b w
 |0,_,_,_,_,_,he=>by simp [fF] at he
 |d+1,D,t,x,y,b,he=>by
  unfold fF at he
  split at he
  .rename_i a c hd
   cases he
   exact run_equalIn_bool w (D+d) t a c (hT.desc _ _ hd)
  .rename_i q k a k' c hd
   split at he
   .rename_i hk
    subst hk
    cases he
    exact run_equalIn_int w (D+d) t k q a c (hT.desc _ _ hd)
   .cases he
  .rename_i a c hd
   cases he
   rw [show D+(d+1)=(D+d)+1 from rfl,run_equalIn_string w (D+d) t a c (hT.desc _ _ hd),ByteArray.toList_eq,ByteArray.toList_eq]
  .rename_i fs xs ys hd
   split at he
   .rename_i hc
    simp only [cH] at he
    obtain ⟨ps,hp,he⟩:=he
    have hu:=hT.desc _ _ hd
    have hf:P.fieldsOf t=fs:=by simp [Program.fieldsOf,hu]
    rw [show D+(d+1)=(D+d)+1 from rfl,run_equalIn_struct w (D+d) t xs ys (by rw [hf];exact hu) (hT.cmp t hc).1,hf]
    exact zf1 hT w (λt x y b hb=>P9 hT w d D t x y b hb) xs ys fs.toList ps b hp he
   .cases he
  .rename_i n e xs ys hd
   simp only [cH] at he
   obtain ⟨k,hk,he⟩:=he
   have hu:=hT.desc _ _ hd
   simp only [dg,cA] at hk
   obtain ⟨⟨n',b',z⟩,hi,rfl⟩:=hk
   obtain ⟨i,zv,gT,dx,_⟩:=hT.info _ _ _ _ hi
   have nC:P.cellsOf e=n':=by simp [Program.cellsOf,gT,dx]
   rw [show D+(d+1)=(D+d)+1 from rfl,run_equalIn_array w (D+d) xs ys hu gT,nC]
   have:=zgG hT w (λt x y b hb=>P9 hT w d D t x y b hb) xs ys e n' n 0 b he
   rw [List.range_eq_range']
   exact this
  .cases he

theorem ztn (hT:T.Fits P) {op:BinOp} {t:TypeId} {x' y':ab} (hx:VR ρ x x') (hy:VR ρ y y') (hs:cz P T op t x y=some v) (ox oy:Operand) (w:World) :
 ∃ vc,(do eqGuard op t ox oy x' y';binOp op t x' y':Sem ab).run P w=.ok vc w/\VR ρ v vc:=by
 unfold cz at hs
 split at hs
 .rename_i v' hf
  cases hs
  obtain ⟨h1,h2,h3,h4,k,a,rfl⟩:=zmn (P:=P) (t:=t) hf
  have e1:=hx.bD h2
  have e2:=hy.bD h3
  subst e1 e2
  refine ⟨v,?_,.dH ρ h4⟩
  rw [Sem.run_bind,SS op t ox oy (.int k a) _ (by simp) (by intro c d e;cases e) w]
  exact PS P _ _ h1 w
 .split at hs
  .rename_i b hb
   simp only [cH] at hb
   obtain ⟨d,hd,he⟩:=hb
   have ht:=hT.desc _ _ hd
   obtain ⟨h1,h2⟩:=zqK ht hx hy he w
   have hna:x'≠.nilIface/\(∀ c,x'≠.agg c):=by
    unfold EB at he
    split at he <;> first|(cases he;done)|(cases hx <;> exact ⟨by simp,by simp⟩)
   have hg:=SS (P:=P) op t ox oy x' y' hna.1 (by intro c d e;exact (hna.2 c e).elim) w
   split at hs
   .cases hs
    refine ⟨.bool b,?_,.bool _⟩
    simp only [Sem.run_bind,hg,Result.andThen_ok,h2 .eql (.inl rfl),if_true,h1,Sem.run_pure]
   .cases hs
    refine ⟨.bool !b,?_,.bool _⟩
    simp only [Sem.run_bind,hg,Result.andThen_ok,h2 .neq (.inr rfl),reduceCtorEq,if_false,h1,Sem.run_pure]
   .cases hs
  .split at hs
   .rename_i hp
    simp only [ep] at hp
    have e1:=hx.bD hp.1
    have e2:=hy.bD hp.2
    subst e1 e2
    have fin:∀ (hs:((jh P (binOp op t x' y')).bind λv=>if plain v then some v else none)=some v) (hg:(eqGuard op t ox oy x' y').run P w=.ok () w),
     ∃ vc,(do eqGuard op t ox oy x' y';binOp op t x' y':Sem ab).run P w=.ok vc w/\VR ρ v vc:=by
     intro hs hg
     simp only [cH] at hs
     obtain ⟨v1,hr,hs⟩:=hs
     split at hs
     .rename_i hpv
      cases hs
      refine ⟨v,?_,.dH ρ hpv⟩
      simp only [Sem.run_bind,hg,Result.andThen_ok]
      exact PS P _ _ hr w
     .cases hs
    split at hs
    .cases hs
    .rename_i c d
     split at hs
     .rename_i vo
      have hg:=λxs ys=>SS (P:=P) op t ox oy (.agg xs) (.agg ys) (by simp) (by intro _ _ _ _;exact (hT.cmp t vo).2) w
      split at hs
      .simp only [cA] at hs
       obtain ⟨b,hb,rfl⟩:=hs
       refine ⟨.bool b,?_,.bool _⟩
       simp only [Sem.run_bind,hg,Result.andThen_ok]
       rw [run_eql_struct,P9 hT w 20 9980 t _ _ b hb]
       rfl
      .simp only [cA] at hs
       obtain ⟨b,hb,rfl⟩:=hs
       refine ⟨.bool !b,?_,.bool _⟩
       simp only [Sem.run_bind,hg,Result.andThen_ok]
       rw [run_neq_struct,P9 hT w 20 9980 t _ _ b hb]
       rfl
      .cases hs
     .cases hs
    .rename_i h1 h2
     refine fin hs (SS op t ox oy _ _ ?_ ?_ w)
     .intro e;exact h1 e
     .intro c d e1 e2;exact (h2 c d e1 e2).elim
   .cases hs

theorem ztN (hT:T.Fits P) (hs:bP ρ h w) {ty:TypeId} (dp:VR ρ x y) (hl:bo T t x h=some v) (ts:List TypeId) :
 ∃ vc,(Builtin.len_ (t::ts).toArray ty #[y]).run P w=.ok vc w/\VR ρ v vc:=by
 unfold bo at hl
 split at hl
 .rename_i s hd
  cases dp
  cases hl
  exact ⟨_,by simp [Builtin.len_,run_underlying (hT.desc _ _ hd),goInt],.int _ _⟩
 .rename_i e a n c hd
  cases hl
  have key:∃ a' c',y=.slice a' n c':=by cases dp <;> exact ⟨_,_,rfl⟩
  obtain ⟨a',c',rfl⟩:=key
  exact ⟨_,by simp [Builtin.len_,run_underlying (hT.desc _ _ hd),goInt],.int _ _⟩
 .rename_i a b hd
  cases dp
  cases hl
  exact ⟨_,by simp [Builtin.len_,run_underlying (hT.desc _ _ hd),goInt],.int _ _⟩
 .rename_i a b A hd
  split at hl
  .rename_i es clock hg
   cases hl
   cases dp with
   |map hA =>
    rename_i L
    have hb:=hs.ff A L hA
    rw [hg] at hb
    obtain ⟨ces,hc,he⟩:=hb
    refine ⟨.int .i64 (ces.size:Nat),by simp [Builtin.len_,run_underlying (hT.desc _ _ hd),goInt,getObj,Sem.run,hc],?_⟩
    have e1:(es.length:Int)=(ces.size:Int):=by have:=he.1;simp at this;omega
    rw [e1]
    exact .int _ _
  .cases hl
 .cases hl
end
end Go.Am
namespace Go.Am
open Go.RowKit
variable {k k' v x y:ab} {kt t:TypeId}
section
variable {P:Program} {T:bI} {ρ:cm} {h h':Heap} {w:World}

theorem zh3 {Z:Type} (P:Program) (w:World) (l:List Z) (g:Z->PUnit->Sem (ForInStep PUnit)) (hf:∀ x∈l,(g x PUnit.unit).run P w=.ok (.yield PUnit.unit) w) :
 (forIn l PUnit.unit g:Sem PUnit).run P w=.ok PUnit.unit w:=by
 induction l with
 |nil=>simp
 |cons x l ih =>
  have h1:=hf x (by simp)
  have h2:=ih (λy hy=>hf y (by simp [hy]))
  simp only [List.forIn_cons,Sem.run_bind,h1,Result.andThen_ok,h2]

theorem zgd {E:TypeId->ab->ab->Option Bool} {xs:List ab}:∀ {ps:List (TypeId × Nat)},Cu T E xs xs ps=some true->∀ p∈ps,∃ a,wm T p.1 xs p.2=some a/\E p.1 a a=some true
 | [],_,p,hp=>by cases hp
 |(t,o)::r,he,p,hp=>by
  simp only [Cu,cH] at he
  obtain ⟨a,ha,c,hc,q,hq,he⟩:=he
  rw [ha] at hc
  cases hc
  cases q with
  |false=>simp at he
  |true =>
   simp only [if_true] at he
   rcases dh.1 hp with rfl|hp
   .exact ⟨a,ha,hq⟩
   .exact zgd he p hp

theorem zf2:∀ {fs:List Field} {ps:List (TypeId × Nat)},Ja fs=some ps->∀ f∈fs,(f.type,f.offset)∈ps
 | [],_,_,f,hf=>by cases hf
 |g::fs,ps,hp,f,hf=>by
  simp only [Ja] at hp
  split at hp
  .cases hp
  .simp only [cA] at hp
   obtain ⟨r,hr,rfl⟩:=hp
   rcases dh.1 hf with rfl|hf
   .simp
   .exact fB _ (zf2 hr f hf)

theorem zgP {e:TypeId} {k:Nat}:∀ (n i j:Nat),i<=j->j < i+n->(e,j*k)∈Jk e k n i
 |0,i,j,h1,h2=>by omega
 |n+1,i,j,h1,h2=>by
  simp only [Jk]
  by_cases e:i=j
  .subst e;simp
  .exact fB _ (zgP n (i+1) j (by omega) (by omega))

theorem zf9 (hT:T.Fits P) (w:World) (em:Bool):∀ (d D:Nat) (t:TypeId) (x y:ab),fF T d t x y=some true->y=x->(Instr.checkKey em (D+d) t x).run P w=.ok () w
 |0,_,_,_,_,he,_=>by simp [fF] at he
 |d+1,D,t,x,y,he,y5=>by
  unfold fF at he
  rw [show D+(d+1)=(D+d)+1 from rfl]
  split at he
  .rename_i a c hd
   simp [Instr.checkKey,run_underlying (hT.desc _ _ hd)]
  .rename_i q k a k' c hd
   simp [Instr.checkKey,run_underlying (hT.desc _ _ hd)]
  .rename_i a c hd
   simp [Instr.checkKey,run_underlying (hT.desc _ _ hd)]
  .rename_i fs xs ys hd
   cases y5
   split at he
   .simp only [cH] at he
    obtain ⟨ps,hp,he⟩:=he
    have aH:=zgd he
    simp only [Instr.checkKey,Sem.run_bind,run_underlying (hT.desc _ _ hd),Result.andThen_ok]
    rw [<- Array.forIn_toList]
    rw [zh3 P w fs.toList]
    .simp
    .intro f hf
     obtain ⟨a,ha,hq⟩:=aH _ (zf2 hp f hf)
     have h1:=zf9 hT w em d D f.type a a hq rfl
     split
     .simp only [Sem.run_bind,Jl hT ha w,Result.andThen_ok,h1,Sem.run_pure]
     .simp
   .cases he
  .rename_i n e xs ys hd
   cases y5
   simp only [cH] at he
   obtain ⟨k,hk,he⟩:=he
   have aH:=zgd he
   simp only [Instr.checkKey,Sem.run_bind,run_underlying (hT.desc _ _ hd),Result.andThen_ok]
   simp only [Std.Legacy.Range.forIn_eq_forIn_range',Std.Legacy.Range.size,Nat.sub_zero,CL,Nat.div_one]
   rw [zh3 P w]
   .simp
   .intro i hi
    have mV:i < n:=by simpa using hi
    obtain ⟨a,ha,hq⟩:=aH _ (zgP (e:=e) (k:=k) n 0 i (by omega) (by omega))
    have h1:=zf9 hT w em d D e a a hq rfl
    simp only [Sem.run_bind,vX hT hk,Jl hT ha w,Result.andThen_ok,h1,Sem.run_pure]
  .cases he

theorem PU (hT:T.Fits P) (w:World) (em:Bool) (d D:Nat) (t:TypeId) (x:ab) (he:fF T d t x x=some true):(Instr.checkKey em (D+d) t x).run P w=.ok () w:=zf9 hT w em d D t x x he rfl

theorem Jb (hk:wk T kt k=true):plain k=true/\fF T 20 kt k k=some true:=by
 unfold wk at hk
 split at hk
 .rename_i hp
  refine ⟨hp,?_⟩
  split at hk
  .rename_i b hb;rw [hb,hk]
  .cases hk
 .cases hk

def zvl (ρ:cm):Option (Nat × ab)->Option (Nat × ab)->Prop
 |none,none=>True
 |some (i,v),some (j,u)=>i=j/\VR ρ v u
 |_,_=>False

theorem ng.of_cons {x:MapEntry} {l m:List MapEntry} (hl:ng ρ (x::l) m):∃ y m',m=y::m'/\VR ρ x.key y.key/\VR ρ x.val y.val/\x.born=y.born/\plain x.key=true/\ng ρ l m':=by
 cases m with
 |nil=>have:=hl.1;simp at this
 |cons y m =>
  obtain ⟨h1,h2,h3,h4⟩:=hl.2 0 x y rfl rfl
  exact ⟨y,m,rfl,h1,h2,h3,h4,by have:=hl.1;simpa using this,λi a b ha hb=>hl.2 (i+1) a b (by simpa using ha) (by simpa using hb)⟩
theorem ng.of_nil {m:List MapEntry} (hl:ng ρ [] m):m=[]:=by
 have:=hl.1
 simp at this
 exact Tt this.symm

theorem zuE (hT:T.Fits P) {d:TypeDesc} (hd:P.underlying kt=some d) {b c:Bool} (he:fF T 20 kt x y=some b) (hs:Instr.sameNow d x y=some c):b=c:=by
 unfold fF at he
 split at he
 .rename_i a c' oE
  have:=hT.desc _ _ oE
  rw [hd] at this
  cases this
  cases he
  simpa [Instr.sameNow] using hs
 .rename_i q k a k' c' oE
  have:=hT.desc _ _ oE
  rw [hd] at this
  cases this
  split at he
  .rename_i hk
   subst hk
   cases he
   simpa [Instr.sameNow] using hs
  .cases he
 .rename_i a c' oE
  have:=hT.desc _ _ oE
  rw [hd] at this
  cases this
  cases he
  simp only [Instr.sameNow,dO] at hs
  rw [<- hs,beq_toListBytes,ByteArray.toList_eq,ByteArray.toList_eq]
 .rename_i fs xs ys oE
  have:=hT.desc _ _ oE
  rw [hd] at this
  cases this
  simp [Instr.sameNow] at hs
 .rename_i n e xs ys oE
  have:=hT.desc _ _ oE
  rw [hd] at this
  cases this
  simp [Instr.sameNow] at hs
 .cases he

theorem zlq (hT:T.Fits P) {kt:TypeId} {d:TypeDesc} (hd:P.underlying kt=some d) {k:ab}:∀ (es ces:List MapEntry) (i:Nat) (r r':Option (Nat × ab)),ng ρ es ces->qJ T kt k es i=some r->Instr.findNow d k ces i=some r'->zvl ρ r r'
 | [],ces,i,r,r',he,hf,hn=>by
  rw [he.of_nil] at hn
  simp only [qJ,Instr.findNow,dO] at hf hn
  subst hf hn
  trivial
 |e::es,ces,i,r,r',he,hf,hn=>by
  obtain ⟨y,m,rfl,hk,hv,_,hp,ub⟩:=he.of_cons
  have kB:=hk.bD hp
  simp only [qJ,cH] at hf
  obtain ⟨b,hb,hf⟩:=hf
  simp only [Instr.findNow] at hn
  rw [kB] at hn
  cases Yu:Instr.sameNow d k e.key with
  |none=>rw [Yu] at hn;cases hn
  |some c =>
   have:=zuE hT hd hb Yu
   subst this
   rw [Yu] at hn
   cases b with
   |true =>
    simp only [if_true,dO] at hf hn
    subst hf hn
    exact ⟨rfl,hv⟩
   |false =>
    simp only [gM,if_false] at hf hn
    exact zlq hT hd es m (i+1) r r' ub hf hn

theorem zgK (hT:T.Fits P) (w:World) {kt:TypeId} {k:ab}:∀ (es ces:List MapEntry) (i:Nat) (r:Option (Nat × ab)),ng ρ es ces->qJ T kt k es i=some r->∃ r',(Instr.findAsking kt k ces i).run P w=.ok r' w/\zvl ρ r r'
 | [],ces,i,r,he,hf=>by
  rw [he.of_nil]
  simp only [qJ,dO] at hf
  subst hf
  exact ⟨none,by simp [Instr.findAsking],trivial⟩
 |e::es,ces,i,r,he,hf=>by
  obtain ⟨y,m,rfl,hk,hv,_,hp,ub⟩:=he.of_cons
  have kB:=hk.bD hp
  simp only [qJ,cH] at hf
  obtain ⟨b,hb,hf⟩:=hf
  have hq:(Op.equal kt k y.key).run P w=.ok b w:=by rw [kB];exact P9 hT w 20 9980 kt _ _ b hb
  cases b with
  |true =>
   simp only [if_true,dO] at hf
   subst hf
   exact ⟨some (i,y.val),by simp [Instr.findAsking,hq],rfl,hv⟩
  |false =>
   simp only [gM,if_false] at hf
   obtain ⟨r',h1,h2⟩:=zgK hT w es m (i+1) r ub hf
   exact ⟨r',by simp [Instr.findAsking,hq,h1],h2⟩

theorem zqU (hT:T.Fits P) (hk:wk T kt k=true):∃ d,P.underlying kt=some d:=by
 obtain ⟨_,h1⟩:=Jb hk
 unfold fF at h1
 split at h1
 all_goals first|exact ⟨_,hT.desc _ _ ‹_›⟩|cases h1

theorem Tb (hT:T.Fits P) (w:World) (hk:wk T kt k=true) {es ces:List MapEntry} {r:Option (Nat × ab)} (he:ng ρ es ces) (hf:qJ T kt k es 0=some r) :
 ∃ r',(Instr.findKey kt k ces).run P w=.ok r' w/\zvl ρ r r':=by
 obtain ⟨d,hd⟩:=zqU hT hk
 cases hn:Instr.findNow d k ces 0 with
 |some r'=>exact ⟨r',by simp [Instr.findKey,run_underlying hd,hn],zlq hT hd es ces 0 r r' he hf hn⟩
 |none =>
  obtain ⟨r',h1,h2⟩:=zgK hT w es ces 0 r he hf
  exact ⟨r',by simp [Instr.findKey,run_underlying hd,hn,h1],h2⟩

theorem Tl (hT:T.Fits P) (hz:T.zero t=some v) (w:World):(zeroValue t).run P w=.ok v w/\VR ρ v v:=by
 obtain ⟨⟨i,hi,hiz⟩,hp⟩:=hT.zero t v hz
 exact ⟨by simp [zeroValue,typeInfo,hi,hiz],.dH ρ hp⟩

theorem zqZ (hs:bP ρ h w) (dp:VR ρ x y) {es:List MapEntry} (hm:Rw x h=some es) :
 ∃ ces:Array MapEntry,ng ρ es ces.toList/\((y=.map none/\ces=#[])\/∃ A L clock,x=.map (some A)/\ρ A=some L/\y=.map (some L.b)/\h.get A=some (.map es clock)/\w.heap[L.b]? = some (.map ces clock)):=by
 unfold Rw at hm
 split at hm
 .cases hm
  cases dp
  exact ⟨#[],⟨rfl,by intro i x y hx;simp at hx⟩,.inl ⟨rfl,rfl⟩⟩
 .split at hm
  .rename_i A _ RQ clock hg
   cases hm
   cases dp with
   |map hA =>
    rename_i L
    have hb:=hs.ff A L hA
    rw [hg] at hb
    obtain ⟨ces,hc,he⟩:=hb
    exact ⟨ces,he,.inr ⟨A,L,clock,rfl,hA,rfl,hg,hc⟩⟩
  .cases hm
 .cases hm

theorem zmT (hT:T.Fits P) (hs:bP ρ h w) {ok:Bool} (dp:VR ρ x y) (hk:VR ρ k k') (hl:Cs T t x k ok h=some v) :
 ∃ u,(Instr.lookup t y k' ok).run P w=.ok u w/\VR ρ v u:=by
 unfold Cs at hl
 split at hl
 .rename_i kt et hd
  split at hl
  .rename_i gU
   simp only [cH,cA,Prod.exists] at hl
   obtain ⟨es,pW,r,hr,v',b,r7,hv⟩:=hl
   have hu:=hT.desc _ _ hd
   obtain ⟨hp,iu⟩:=Jb gU
   have wN:k'=k:=hk.bD hp
   subst wN
   obtain ⟨ces,he,hy⟩:=zqZ hs dp pW
   obtain ⟨r',hf,cW⟩:=Tb hT w gU he hr
   have fT:∀ em,(Instr.checkKey em 10000 kt k').run P w=.ok () w:=λem=>PU hT w em 20 9980 kt k' iu
   have DB:∀ u',VR ρ v' u'->VR ρ v (if ok then .tuple #[u',.bool b] else u'):=by
    intro u' lZ
    rw [<- hv]
    cases ok
    .exact lZ
    .simp only [if_true]
     exact (cu.cons lZ (.cons (.bool b) (.nil ρ))).fO
   cases r with
   |none =>
    cases r' with
    |some q=>exact cW.elim
    |none =>
     simp only [cA,cV] at r7
     obtain ⟨z,hz,rfl,rfl⟩:=r7
     obtain ⟨h1,h2⟩:=Tl (ρ:=ρ) hT hz w
     refine ⟨_,?_,DB z h2⟩
     rcases hy with ⟨rfl,rfl⟩|⟨A,L,clock,_,_,rfl,_,hc⟩
     .simp only [Instr.lookup,Sem.run_bind,run_underlying hu,Result.andThen_ok,Sem.run_pure,fT,hf,h1]
     .have hg:(getObj L.b).run P w=.ok (.map ces clock) w:=by simp [getObj,Sem.run,hc]
      simp only [Instr.lookup,Sem.run_bind,run_underlying hu,Result.andThen_ok,Sem.run_pure,hg,fT,hf,h1]
   |some p =>
    cases r' with
    |none=>exact cW.elim
    |some q =>
     obtain ⟨i,v1⟩:=p
     obtain ⟨j,u1⟩:=q
     simp only [dO,cV] at r7
     obtain ⟨rfl,rfl⟩:=r7
     refine ⟨_,?_,DB u1 cW.2⟩
     rcases hy with ⟨rfl,rfl⟩|⟨A,L,clock,_,_,rfl,_,hc⟩
     .simp only [Instr.lookup,Sem.run_bind,run_underlying hu,Result.andThen_ok,Sem.run_pure,fT,hf]
     .have hg:(getObj L.b).run P w=.ok (.map ces clock) w:=by simp [getObj,Sem.run,hc]
      simp only [Instr.lookup,Sem.run_bind,run_underlying hu,Result.andThen_ok,Sem.run_pure,hg,fT,hf]
  .cases hl
 .cases hl

theorem zsS:∀ {x y:ab},Ib x y=true->x=y:=by
 intro x y hh
 unfold Ib at hh
 split at hh
 .simpa using hh
 .simp only [ep,jH,beq_iff_eq] at hh
  rw [hh.1,hh.2]
 .rename_i a b
  obtain ⟨⟨a⟩⟩:=a
  obtain ⟨⟨b⟩⟩:=b
  simpa using hh
 .cases hh
theorem zlM:∀ {l m:List ab},Jv l m=true->l=m
 | [],[],_=>rfl
 |x::l,y::m,hh=>by
  simp only [Jv,ep] at hh
  rw [zsS hh.1,zlM hh.2]
 | [],_::_,hh=>by cases hh
 |_::_,[],hh=>by cases hh
theorem zlL (hh:Ib x y=true) (n:Nat):Instr.sameBits n x y=true:=by
 have:=zsS hh
 subst this
 unfold Ib at hh
 split at hh
 .simp [Instr.sameBits]
 .simp [Instr.sameBits]
 .simp [Instr.sameBits,beq_toListBytes]
 .cases hh
theorem zh4:∀ {l m:List ab},Jv l m=true->∀ n,(l.zip m).all (λ(x,y)=>Instr.sameBits n x y)=true
 | [],[],_,_=>rfl
 |x::l,y::m,hh,n=>by
  simp only [Jv,ep] at hh
  simp only [List.zip_cons_cons,nU,ep]
  exact ⟨zlL hh.1 n,zh4 hh.2 n⟩
 | [],_::_,hh,_=>by cases hh
 |_::_,[],hh,_=>by cases hh
theorem zh5 (hh:HH x y=true):Instr.sameBits 10000 x y=true:=by
 unfold HH at hh
 split at hh
 .rename_i a b
  have h1:=zh4 hh 9999
  have h2:=zlM hh
  have h3:a.size=b.size:=by rw [<- qM,h2,qM]
  rw [Instr.sameBits,h3]
  simpa using h1
 .exact zlL hh _

theorem zg9 (hT:T.Fits P) (hs:bP ρ h w) {v':ab} (dp:VR ρ x y) (hk:VR ρ k k') (hv:VR ρ v v') (hl:rO T t x k v h=some h') :
 ∃ w',(Instr.mapUpdate t y k' v').run P w=.ok () w'/\Fr ρ ρ h h' w w'/\bP ρ h' w':=by
 unfold rO at hl
 split at hl
 .rename_i kt et A hd
  split at hl
  .rename_i es clock hg
   split at hl
   .rename_i gU
    simp only [cH] at hl
    obtain ⟨r,hr,hl⟩:=hl
    have hu:=hT.desc _ _ hd
    obtain ⟨hp,iu⟩:=Jb gU
    have wN:k'=k:=hk.bD hp
    subst wN
    cases dp with
    |map hA =>
     rename_i L
     have hb:=hs.ff A L hA
     rw [hg] at hb
     obtain ⟨ces,hc,he⟩:=hb
     obtain ⟨r',hf,cW⟩:=Tb hT w gU he hr
     have fT:∀ em,(Instr.checkKey em 10000 kt k').run P w=.ok () w:=λem=>PU hT w em 20 9980 kt k' iu
     have iN:∀ o:Obj,(setObj L.b o).run P w=.ok () (w.putObj L.b o):=by
      intro o
      simp [setObj,Sem.run,hc,World.putObj]
     have aT:L.b < w.heap.size:=(mQ.1 hc).1
     have oG:∀ (b':ba) (o:Obj),qO ρ (w.putObj L.b o) L (some b')->Fr ρ ρ h (h.set A b') w (w.putObj L.b o)/\bP ρ (h.set A b') (w.putObj L.b o):=by
      intro b' o pe
      refine Jf hs hA hg (by simp) (by simp) rfl rfl rfl (by simp [World.putObj]) (λq hq=>?_) pe
      simp only [World.putObj]
      rw [HA (Ne.symm hq)]
     have q8:∀ o:Obj,(w.putObj L.b o).heap[L.b]? = some o:=by
      intro o
      simp [World.putObj,aT]
     cases r with
     |none =>
      cases r' with
      |some q=>exact cW.elim
      |none =>
       simp only [dO] at hl
       subst hl
       refine ⟨w.putObj L.b (.map (ces.push { key:=k',val:=v',born:=clock }) (clock+1)),?_,oG _ _ ⟨_,q8 _,?_⟩⟩
       .simp [Instr.mapUpdate,run_underlying hu,getObj,Sem.run,hc,fT,hf,iN]
       .refine ⟨by simp [he.1],λi a b ha hb=>?_⟩
        have hlen:=he.1
        rw [Array.toList_push] at hb
        rcases JY i es.length with h1|h1|h1
        .rw [nc h1] at ha
         rw [nc (by omega)] at hb
         exact he.2 i a b ha hb
        .rw [qu (by omega)] at ha
         rw [qu (by omega)] at hb
         have e1:i - es.length=0:=by omega
         have e2:i - ces.toList.length=0:=by omega
         rw [e1] at ha
         rw [e2] at hb
         simp at ha hb
         subst ha hb
         exact ⟨.dH ρ hp,hv,rfl,hp⟩
        .rw [qu (by omega)] at ha
         have:i - es.length=(i - es.length - 1)+1:=by omega
         rw [this] at ha
         simp at ha
     |some q =>
      obtain ⟨i,v1⟩:=q
      cases r' with
      |none=>exact cW.elim
      |some q' =>
       obtain ⟨j,u1⟩:=q'
       obtain ⟨rfl,_⟩:=cW
       simp only [cH] at hl
       obtain ⟨e,MM,hl⟩:=hl
       split at hl
       .rename_i gI
        cases hl
        have iX:i < ces.size:=by
         have h1:=(dP.1 MM).1
         have:=he.1
         simp at this
         omega
        obtain ⟨k1,k2,k3,k4⟩:=he.2 i e ces[i] MM (by simp)
        have XY:ces[i].key=e.key:=k1.bD k4
        have yb:=zh5 gI
        refine ⟨w.putObj L.b (.map (ces.modify i λe=>{ e with key:=k',val:=v' }) clock),?_,oG _ _ ⟨_,q8 _,?_⟩⟩
        .simp [Instr.mapUpdate,run_underlying hu,getObj,Sem.run,hc,fT,hf,iN,Instr.keyThatStays,XY,yb,iX]
        .refine ⟨by simp [he.1],λq a b ha hb=>?_⟩
         rw [Array.toList_modify] at hb
         rw [CG] at ha hb
         by_cases hq:i=q
         .subst hq
          simp only [if_true,Option.map_eq_map,cA] at ha hb
          obtain ⟨a0,Mr,rfl⟩:=ha
          obtain ⟨b0,My,rfl⟩:=hb
          obtain ⟨_,_,h3,_⟩:=he.2 i a0 b0 Mr My
          exact ⟨.dH ρ hp,hv,h3,hp⟩
         .simp only [az hq] at ha hb
          exact he.2 q a b (by simpa using ha) (by simpa using hb)
       .cases hl
   .cases hl
  .cases hl
 .cases hl

theorem zfi (hs:bP ρ h w) {A:Nat} {L:Loc} {es RQ:List MapEntry} {ces Bo:Array MapEntry} {clock clock':Nat} (hA:ρ A=some L) (hg:h.get A=some (.map es clock)) (hc:w.heap[L.b]? = some (.map ces clock))
 (he:ng ρ RQ Bo.toList):Fr ρ ρ h (h.set A (.map RQ clock')) w (w.putObj L.b (.map Bo clock'))/\bP ρ (h.set A (.map RQ clock')) (w.putObj L.b (.map Bo clock')):=by
 have aT:L.b < w.heap.size:=(mQ.1 hc).1
 refine Jf hs hA hg (by simp) (by simp) rfl rfl rfl (by simp [World.putObj]) (λq hq=>?_) ⟨Bo,by simp [World.putObj,aT],he⟩
 simp only [World.putObj]
 rw [HA (Ne.symm hq)]

theorem ng.push {es:List MapEntry} {ces:Array MapEntry} (he:ng ρ es ces.toList) {k v v':ab} {clock:Nat} (hp:plain k=true) (hv:VR ρ v v') :
 ng ρ (es++[{ key:=k,val:=v,born:=clock }]) (ces.push { key:=k,val:=v',born:=clock }).toList:=by
 refine ⟨by simp [he.1],λi a b ha hb=>?_⟩
 have hlen:=he.1
 rw [Array.toList_push] at hb
 rcases JY i es.length with h1|h1|h1
 .rw [nc h1] at ha
  rw [nc (by omega)] at hb
  exact he.2 i a b ha hb
 .rw [qu (by omega)] at ha
  rw [qu (by omega)] at hb
  have e1:i - es.length=0:=by omega
  have e2:i - ces.toList.length=0:=by omega
  rw [e1] at ha
  rw [e2] at hb
  simp at ha hb
  subst ha hb
  exact ⟨.dH ρ hp,hv,rfl,hp⟩
 .rw [qu (by omega)] at ha
  have:i - es.length=(i - es.length - 1)+1:=by omega
  rw [this] at ha
  simp at ha

theorem ng.modify {es:List MapEntry} {ces:Array MapEntry} (he:ng ρ es ces.toList) (i:Nat) {f g:MapEntry->MapEntry}
 (F0:∀ a b,VR ρ a.key b.key->VR ρ a.val b.val->a.born=b.born->plain a.key=true->VR ρ (f a).key (g b).key/\VR ρ (f a).val (g b).val/\(f a).born=(g b).born/\plain (f a).key=true) :
 ng ρ (es.modify i f) (ces.modify i g).toList:=by
 refine ⟨by simp [he.1],λq a b ha hb=>?_⟩
 rw [Array.toList_modify] at hb
 rw [CG] at ha hb
 by_cases hq:i=q
 .subst hq
  simp only [if_true,Option.map_eq_map,cA] at ha hb
  obtain ⟨a0,Mr,rfl⟩:=ha
  obtain ⟨b0,My,rfl⟩:=hb
  obtain ⟨h1,h2,h3,h4⟩:=he.2 i a0 b0 Mr My
  exact F0 a0 b0 h1 h2 h3 h4
 .simp only [az hq] at ha hb
  exact he.2 q a b (by simpa using ha) (by simpa using hb)

theorem zou (hT:T.Fits P) (hs:bP ρ h w) (dp:VR ρ x y) (hk:VR ρ k k') (hl:Em T t x k h=some (v,h')) :
 ∃ u w',(Instr.mapEntry t y k').run P w=.ok u w'/\Fr ρ ρ h h' w w'/\bP ρ h' w'/\VR ρ v u:=by
 unfold Em at hl
 split at hl
 .rename_i kt et A hd
  split at hl
  .rename_i es clock hg
   split at hl
   .rename_i gU
    simp only [cH] at hl
    obtain ⟨r,hr,hl⟩:=hl
    have hu:=hT.desc _ _ hd
    obtain ⟨hp,iu⟩:=Jb gU
    have wN:k'=k:=hk.bD hp
    subst wN
    cases dp with
    |map hA =>
     rename_i L
     have hb:=hs.ff A L hA
     rw [hg] at hb
     obtain ⟨ces,hc,he⟩:=hb
     obtain ⟨r',hf,cW⟩:=Tb hT w gU he hr
     have fT:∀ em,(Instr.checkKey em 10000 kt k').run P w=.ok () w:=λem=>PU hT w em 20 9980 kt k' iu
     have iN:∀ o:Obj,(setObj L.b o).run P w=.ok () (w.putObj L.b o):=by
      intro o
      simp [setObj,Sem.run,hc,World.putObj]
     cases r with
     |none =>
      cases r' with
      |some q=>exact cW.elim
      |none =>
       simp only [cA,cV] at hl
       obtain ⟨z,hz,rfl,rfl⟩:=hl
       obtain ⟨z1,z2⟩:=Tl (ρ:=ρ) hT hz w
       obtain ⟨f1,f2⟩:=zfi (clock':=clock+1) hs hA hg hc (he.push (clock:=clock) hp z2)
       refine ⟨_,_,?_,f1,f2,(cu.cons z2 (.cons (.int .i64 clock) (.nil ρ))).fO⟩
       simp [Instr.mapEntry,run_underlying hu,getObj,Sem.run,hc,fT,hf,iN,z1,goInt]
     |some q =>
      obtain ⟨i,v1⟩:=q
      cases r' with
      |none=>exact cW.elim
      |some q' =>
       obtain ⟨j,u1⟩:=q'
       obtain ⟨rfl,lZ⟩:=cW
       simp only [cH] at hl
       obtain ⟨e,MM,hl⟩:=hl
       split at hl
       .rename_i gI
        cases hl
        have iX:i < ces.size:=by
         have h1:=(dP.1 MM).1
         have:=he.1
         simp at this
         omega
        obtain ⟨k1,k2,k3,k4⟩:=he.2 i e ces[i] MM (by simp)
        have XY:ces[i].key=e.key:=k1.bD k4
        have yb:=zh5 gI
        obtain ⟨f1,f2⟩:=zfi (clock':=clock) hs hA hg hc (he.modify i (f:=λe=>{ e with key:=k' }) (g:=λe=>{ e with key:=k' }) (λa b h1 h2 h3 h4=>⟨.dH ρ hp,h2,h3,hp⟩))
        refine ⟨_,_,?_,f1,f2,(cu.cons lZ (.cons (.int .i64 e.born) (.nil ρ))).fO⟩
        simp [Instr.mapEntry,run_underlying hu,getObj,Sem.run,hc,fT,hf,iN,Instr.keyThatStays,XY,yb,iX,goInt,k3]
       .cases hl
   .cases hl
  .cases hl
 .cases hl

theorem ziM {s:Int}:∀ {es ces:List MapEntry} {n i:Nat},(∀ (i:Nat) a b,es[i]? = some a->ces[i]? = some b->a.born=b.born)->es.length=ces.length->JH s es n=some i->n<=i/\ces.findIdx? (λe=>(e.born:Int) == s)=some (i - n)
 | [],_,_,_,_,_,h=>by cases h
 |a::es,[],_,_,_,hl,_=>by cases hl
 |a::es,b::ces,n,i,hb,hl,h=>by
  have h0:=hb 0 a b rfl rfl
  rw [JH] at h
  rw [List.findIdx?_cons]
  split at h
  .rename_i hc
   cases h
   rw [h0] at hc
   simp [hc]
  .rename_i hc
   rw [h0] at hc
   obtain ⟨h1,h2⟩:=ziM (es:=es) (ces:=ces) (λi a b ha pe=>hb (i+1) a b (by simpa using ha) (by simpa using pe)) (by simpa using hl) h
   refine ⟨by omega,?_⟩
   have:¬ ((b.born:Int) == s)=true:=by simpa using hc
   rw [az this,h2]
   simp
   omega

theorem zhq (hs:bP ρ h w) {s s' v':ab} (dp:VR ρ x y) (Ai:VR ρ s s') (hv:VR ρ v v') (hl:zr x s v h=some h') :
 ∃ w',(Instr.entryStore t y s' v').run P w=.ok () w'/\Fr ρ ρ h h' w w'/\bP ρ h' w':=by
 unfold zr at hl
 split at hl
 .rename_i A kd b
  split at hl
  .rename_i es clock hg
   simp only [cA] at hl
   obtain ⟨i,hi,rfl⟩:=hl
   cases Ai
   cases dp with
   |map hA =>
    rename_i L
    have hb:=hs.ff A L hA
    rw [hg] at hb
    obtain ⟨ces,hc,he⟩:=hb
    have iN:∀ o:Obj,(setObj L.b o).run P w=.ok () (w.putObj L.b o):=by
     intro o
     simp [setObj,Sem.run,hc,World.putObj]
    obtain ⟨_,F1⟩:=ziM (ces:=ces.toList) (λi a b ha hb=>(he.2 i a b ha hb).2.2.1) he.1 hi
    have XB:ces.findIdx? (λe=>(e.born:Int) == b)=some i:=by
     cases ces with|mk l=>simpa using F1
    obtain ⟨f1,f2⟩:=zfi (clock':=clock) hs hA hg hc (he.modify i (f:=λe=>{ e with val:=v }) (g:=λe=>{ e with val:=v' }) (λa b h1 h2 h3 h4=>⟨h1,hv,h3,h4⟩))
    refine ⟨_,?_,f1,f2⟩
    simp [Instr.entryStore,getObj,Sem.run,hc,iN,asInt,asIntOf,XB]
  .cases hl
 .cases hl

end
end Go.Am
namespace Go.Am
open Go.RowKit
variable {p v x y:ab} {s t:TypeId}
section
variable {P:Program} {T:bI} {ρ:cm} {h h':Heap} {w:World}

theorem ng.eraseIdx {l m:List MapEntry} (hl:ng ρ l m) (i:Nat):ng ρ (l.eraseIdx i) (m.eraseIdx i):=by
 have hlen:=hl.1
 refine ⟨by rw [List.length_eraseIdx,List.length_eraseIdx,hlen],λj x y hx hy=>?_⟩
 rw [List.getElem?_eraseIdx] at hx hy
 split at hx
 .rename_i hj;rw [aE hj] at hy;exact hl.2 j x y hx hy
 .rename_i hj;rw [az hj] at hy;exact hl.2 (j+1) x y hx hy

theorem zmC (hT:T.Fits P) (hs:bP ρ h w) {ty:TypeId} {ts:List TypeId} {k k':ab} (dp:VR ρ x y) (hk:VR ρ k k') (hl:AA T t x k h=some h') :
 ∃ w',(Builtin.delete_ (t::ts).toArray ty #[y,k']).run P w=.ok (.tuple #[]) w'/\Fr ρ ρ h h' w w'/\bP ρ h' w':=by
 unfold AA at hl
 split at hl
 .rename_i kt et hd
  split at hl
  .rename_i gU
   cases hl
   obtain ⟨hp,iu⟩:=Jb gU
   have wN:k'=k:=hk.bD hp
   subst wN
   cases dp
   refine ⟨w,?_,Fr.refl _ _ _,hs⟩
   have fT:∀ em,(Instr.checkKey em 10000 kt k').run P w=.ok () w:=λem=>PU hT w em 20 9980 kt k' iu
   simp [Builtin.delete_,run_underlying (hT.desc _ _ hd),fT]
  .cases hl
 .rename_i kt et A hd
  split at hl
  .rename_i es clock hg
   split at hl
   .rename_i gU
    simp only [cH] at hl
    obtain ⟨r,hr,hl⟩:=hl
    have hu:=hT.desc _ _ hd
    obtain ⟨hp,iu⟩:=Jb gU
    have wN:k'=k:=hk.bD hp
    subst wN
    cases dp with
    |map hA =>
     rename_i L
     have hb:=hs.ff A L hA
     rw [hg] at hb
     obtain ⟨ces,hc,he⟩:=hb
     obtain ⟨r',hf,cW⟩:=Tb hT w gU he hr
     have fT:∀ em,(Instr.checkKey em 10000 kt k').run P w=.ok () w:=λem=>PU hT w em 20 9980 kt k' iu
     have eR:(getObj L.b).run P w=.ok (.map ces clock) w:=by simp [getObj,Sem.run,hc]
     have iN:∀ o:Obj,(setObj L.b o).run P w=.ok () (w.putObj L.b o):=by
      intro o
      simp [setObj,Sem.run,hc,World.putObj]
     have aT:L.b < w.heap.size:=(mQ.1 hc).1
     have oG:∀ (b':ba) (o:Obj),qO ρ (w.putObj L.b o) L (some b')->Fr ρ ρ h (h.set A b') w (w.putObj L.b o)/\bP ρ (h.set A b') (w.putObj L.b o):=by
      intro b' o pe
      refine Jf hs hA hg (by simp) (by simp) rfl rfl rfl (by simp [World.putObj]) (λq hq=>?_) pe
      simp only [World.putObj]
      rw [HA (Ne.symm hq)]
     have q8:∀ o:Obj,(w.putObj L.b o).heap[L.b]? = some o:=by
      intro o
      simp [World.putObj,aT]
     cases r with
     |none =>
      cases r' with
      |some q=>exact cW.elim
      |none =>
       cases hl
       refine ⟨w.putObj L.b (.map ces clock),?_,oG _ _ ⟨_,q8 _,he⟩⟩
       simp [Builtin.delete_,run_underlying hu,eR,fT,hf,iN]
     |some q =>
      obtain ⟨i,v1⟩:=q
      cases r' with
      |none=>exact cW.elim
      |some q' =>
       obtain ⟨j,u1⟩:=q'
       obtain ⟨rfl,_⟩:=cW
       cases hl
       refine ⟨w.putObj L.b (.map (ces.eraseIdxIfInBounds i) clock),?_,oG _ _ ⟨_,q8 _,?_⟩⟩
       .simp [Builtin.delete_,run_underlying hu,eR,fT,hf,iN]
       .have e1:(ces.eraseIdxIfInBounds i).toList=ces.toList.eraseIdx i:=by simp
        rw [e1]
        exact he.eraseIdx i
   .cases hl
  .cases hl
 .cases hl

theorem zoH (hT:T.Fits P) (dp:VR ρ x y) (hi:JS T t x=some v) (w:World):∃ u,(Instr.makeInterface t y).run P w=.ok u w/\VR ρ v u:=by
 unfold JS at hi
 split at hi
 .cases hi
 .rename_i d aQ hd
  cases hi
  refine ⟨.iface t y,?_,.iface t dp⟩
  have:=hT.desc _ _ hd
  simp only [Instr.makeInterface,Sem.run_bind,run_underlying this,Result.andThen_ok]
  cases d <;> first|rfl|exact (aQ _ rfl).elim
 .cases hi

theorem zs3 (hT:T.Fits P) (hz:T.zero t=some v) (w:World):(zeroValue t).run P w=.ok v w:=(Tl (ρ:=λ_=>none) hT hz w).1

theorem zmm (hT:T.Fits P) {xt:TypeId} {ok:Bool} (dp:VR ρ x y) (hi:Qz T x t ok=some v) (w:World):∃ u,(Instr.typeAssert y xt t ok).run P w=.ok u w/\VR ρ v u:=by
 unfold Qz at hi
 split at hi
 .cases hi
 .rename_i d aQ hd
  have hu:=hT.desc _ _ hd
  have Yh:∀ ms,d≠.interface ms:=λms e=>aQ ms e
  have Dk:∀ z,T.zero t=some z->VR ρ (.tuple #[z,.bool false]) (.tuple #[z,.bool false]):=λz hz=>(cu.cons (Tl (ρ:=ρ) hT hz w).2 (.cons (.bool false) (.nil ρ))).fO
  split at hi
  .rename_i t' v'
   cases dp with
   |iface _ dp =>
    rename_i y'
    split at hi
    .rename_i e
     subst e
     cases hi
     refine ⟨if ok then .tuple #[y',.bool true] else y',?_,?_⟩
     .simp only [Instr.typeAssert,Sem.run_bind,run_underlying hu,Result.andThen_ok]
      cases d <;> first|(exact (Yh _ rfl).elim)|simp
     .cases ok
      .exact dp
      .exact (cu.cons dp (.cons (.bool true) (.nil ρ))).fO
    .rename_i e
     split at hi
     .rename_i cE
      simp only [cA] at hi
      obtain ⟨z,hz,rfl⟩:=hi
      refine ⟨_,?_,Dk z hz⟩
      simp only [Instr.typeAssert,Sem.run_bind,run_underlying hu,Result.andThen_ok]
      cases d <;> first|(exact (Yh _ rfl).elim)|simp [e,cE,zs3 hT hz]
     .cases hi
  .cases dp
   split at hi
   .rename_i cE
    simp only [cA] at hi
    obtain ⟨z,hz,rfl⟩:=hi
    refine ⟨_,?_,Dk z hz⟩
    simp only [Instr.typeAssert,Sem.run_bind,run_underlying hu,Result.andThen_ok]
    cases d <;> first|(exact (Yh _ rfl).elim)|simp [cE,zs3 hT hz]
   .cases hi
  .cases hi
 .cases hi

def T3 (ρ:cm):gN->Place->Prop
 | .val v,.val u=>VR ρ v u
 | .var p,.var a=>VR ρ p (.pointer (some a))
 |_,_=>False

theorem zgR (hT:T.Fits P) (hs:bP ρ h w) {a:Addr} (hp:VR ρ p (.pointer (some a))) (hl:iD T t p h=some v):∃ u,(loadVar t a).run P w=.ok u w/\VR ρ v u:=by
 obtain ⟨u,h1,h2⟩:=zgg hT hs hp hl
 refine ⟨u,?_,h2⟩
 rw [<- h1]
 simp [Instr.loadAt,Instr.sureAddr]
theorem Ts (hT:T.Fits P) (hs:bP ρ h w) {x:gN} {y:Place} (dp:T3 ρ x y) (hg:x.get T t h=some v):∃ u,(y.get t).run P w=.ok u w/\VR ρ v u:=by
 cases x with
 |val v' =>
  cases y with
  |val u=>cases hg;exact ⟨u,rfl,dp⟩
  |var a=>exact dp.elim
 |var p =>
  cases y with
  |val u=>exact dp.elim
  |var a=>exact zgR hT hs dp hg
theorem zvw {u:ab} {f:Nat} {q:ab} (hp:VR ρ p u) (hf:iS T s p f=some q):∃ a,u=.pointer (some a)/\(asAddr u).run P w=.ok a w:=by
 unfold iS at hf
 split at hf
 .cases hp with
  |ptr hA=>exact ⟨_,rfl,by simp [asAddr]⟩
 .cases hf
theorem zeQ (hT:T.Fits P) {fs:Array Field} {q:ab} {a:Addr} {i:Nat} {f:Field} (hd:T.desc s=some (.struct fs)) (hi:fs[i]? = some f) (hp:VR ρ p (.pointer (some a))) (hf:iS T s p i=some q) :
 ∃ a',(fieldPlace a f).run P w=.ok a' w/\VR ρ q (.pointer (some a')):=by
 unfold iS at hf
 rw [hd] at hf
 split at hf
 .rename_i fs' A o e1
  cases e1
  simp only [cH] at hf
  obtain ⟨fl,ud,n,hn,hf⟩:=hf
  rw [hi] at ud
  cases ud
  split at hf
  .cases hf
  .rename_i h0
   cases hf
   cases hp with
   |ptr hA =>
    rename_i L
    refine ⟨⟨L.b,L.s+(o+f.offset),none⟩,?_,.ptr hA⟩
    simp [fieldPlace,vX hT hn,h0,Addr.add_mid,pF]
 .cases hf

theorem SX (hT:T.Fits P) (hs:bP ρ h w):∀ (l:List FieldStep) (t:TypeId) (x:gN) (y:Place) (r:TypeId × gN),T3 ρ x y->Jz T h l t x=some r->∃ y',(follow l t y).run P w=.ok (r.1,y') w/\T3 ρ r.2 y'
 | [],t,x,y,r,dp,hf=>by cases hf;exact ⟨y,by simp [follow],dp⟩
 |s::l,t,x,y,r,dp,hf=>by
  simp only [Jz] at hf
  split at hf
  .rename_i fs hd
   simp only [cH] at hf
   obtain ⟨f,hi,hf⟩:=hf
   have hu:=hT.desc _ _ hd
   split at hf
   .rename_i wJ
    simp only [cH] at hf
    obtain ⟨p,hp,q,hq,hf⟩:=hf
    obtain ⟨u,h1,h2⟩:=Ts hT hs dp hp
    obtain ⟨a,rfl,h3⟩:=zvw (P:=P) (w:=w) h2 hq
    obtain ⟨a',h4,h5⟩:=zeQ (P:=P) (w:=w) hT hd hi h2 hq
    obtain ⟨y',h6,h7⟩:=SX hT hs l _ (.var q) (.var a') r h5 hf
    refine ⟨y',?_,h7⟩
    simp only [follow,Sem.run_bind,run_underlying hu,Result.andThen_ok,hi,wJ,if_true,h1,h3,h4,h6]
   .rename_i wJ
    split at hf
    .rename_i p
     simp only [cH] at hf
     obtain ⟨q,hq,hf⟩:=hf
     cases y with
     |val u=>exact dp.elim
     |var a =>
      obtain ⟨a',h4,h5⟩:=zeQ (P:=P) (w:=w) hT hd hi dp hq
      obtain ⟨y',h6,h7⟩:=SX hT hs l _ (.var q) (.var a') r h5 hf
      refine ⟨y',?_,h7⟩
      simp only [follow,Sem.run_bind,run_underlying hu,Result.andThen_ok,hi,wJ,gM,if_false,h4,h6]
    .rename_i cs
     simp only [cH] at hf
     obtain ⟨v,hv,hf⟩:=hf
     cases y with
     |var a=>exact dp.elim
     |val u =>
      cases dp with
      |agg hc hh =>
       rename_i ds
       obtain ⟨vc,h4,h5⟩:=zjA (ds:=ds) hT (VR.agg hc hh).EV hv w
       obtain ⟨y',h6,h7⟩:=SX hT hs l _ (.val v) (.val vc) r h5 hf
       refine ⟨y',?_,h7⟩
       simp only [follow,Sem.run_bind,run_underlying hu,Result.andThen_ok,hi,wJ,gM,if_false,h4,h6]
    .cases hf
  .cases hf

theorem zjO (hT:T.Fits P) (hs:bP ρ h w) {xt:TypeId} {x:gN} {y:Place} {ptr:Bool} (dp:T3 ρ x y) (hr:zjN T xt x ptr h=some v) (wr:Option String):∃ u,(receiverAt xt y ptr wr).run P w=.ok u w/\VR ρ v u:=by
 unfold zjN at hr
 split at hr
 .rename_i e hd
  obtain ⟨u,h1,h2⟩:=Ts hT hs dp hr
  refine ⟨u,?_,h2⟩
  simp only [receiverAt,Sem.run_bind,run_underlying (hT.desc _ _ hd),Result.andThen_ok,h1]
 .rename_i elem hd
  simp only [cH] at hr
  obtain ⟨p,hp,hr⟩:=hr
  obtain ⟨u,h1,h2⟩:=Ts hT hs dp hp
  have hpu:∃ a,u=.pointer (some a):=by
   unfold iD at hr
   split at hr
   .cases h2 with
    |ptr hA=>exact ⟨_,rfl⟩
   .cases hr
  obtain ⟨a,rfl⟩:=hpu
  obtain ⟨u',h3,h4⟩:=zgR hT hs h2 hr
  refine ⟨u',?_,h4⟩
  simp only [receiverAt,Sem.run_bind,run_underlying (hT.desc _ _ hd),Result.andThen_ok,h1]
  cases wr with
  |none=>simp [asAddr,h3]
  |some nm =>
   have hw:(Builtin.ssaWrapNilChk_ #[xt] xt #[.pointer (some a),strVal "",strVal nm]).run P w=.ok (.pointer (some a)) w:=rfl
   simp [hw,asAddr,h3]
 .rename_i d p aQ hd
  split at hr
  .rename_i a
   cases hr
   cases y with
   |val u=>exact dp.elim
   |var a' =>
    refine ⟨.pointer (some a'),?_,dp⟩
    simp only [receiverAt,Sem.run_bind,run_underlying (hT.desc _ _ hd),Result.andThen_ok]
    cases d <;> first|rfl|exact (aQ _ rfl).elim
  .cases hr
 .rename_i d aQ hd
  obtain ⟨u,h1,h2⟩:=Ts hT hs dp hr
  refine ⟨u,?_,h2⟩
  simp only [receiverAt,Sem.run_bind,run_underlying (hT.desc _ _ hd),Result.andThen_ok]
  cases d <;> first|exact h1|exact (aQ _ rfl).elim
 .cases hr

theorem zmV (hT:T.Fits P) (hs:bP ρ h w) {u r:ab} {name:String} {f:FuncId} (hv:VR ρ v u) (hm:xh T t v name h=some (f,r)) (fuel:Nat):∃ r',(method (fuel+1) t u name).run P w=.ok (f,r') w/\VR ρ r r':=by
 unfold xh at hm
 simp only [cH,Prod.exists] at hm
 obtain ⟨m,il,xt,x,hf,hm⟩:=hm
 obtain ⟨i,hi,MP⟩:=hT.ze _ _ _ il
 obtain ⟨y,h1,h2⟩:=SX hT hs m.path.toList t (.val v) (.val u) (xt,x) hv hf
 split at hm
 .rename_i f' ptr vl
  simp only [cA,cV] at hm
  obtain ⟨r1,hr,rfl,rfl⟩:=hm
  obtain ⟨r',h3,h4⟩:=zjO hT hs h2 hr (if m.path.isEmpty then some ((name.splitOn ".").getLastD name) else none)
  refine ⟨r',?_,h4⟩
  have hti:(typeInfo t).run P w=.ok i w:=by simp [typeInfo,hi]
  simp only [method,Sem.run_bind,hti,Result.andThen_ok,MP,h1,vl,h3,Sem.run_pure]
 .cases hm

theorem ztr (hT:T.Fits P) {ty:TypeId} (dp:VR ρ x y) (hc:Fm T t x=some v) (ts:List TypeId) (w:World):∃ u,(Builtin.cap_ (t::ts).toArray ty #[y]).run P w=.ok u w/\VR ρ v u:=by
 unfold Fm at hc
 split at hc
 .rename_i e a n c hd
  split at hc
  .rename_i aT
   cases hc
   have key:∃ a' n',y=.slice a' n' c:=by
    cases dp with
    |dI=>exact ⟨_,_,rfl⟩
    |slice=>exact ⟨_,_,rfl⟩
    |b9 h1 h2=>omega
   obtain ⟨a',n',rfl⟩:=key
   exact ⟨_,by simp [Builtin.cap_,run_underlying (hT.desc _ _ hd),goInt],.int _ _⟩
  .cases hc
 .cases hc

theorem zle:∀ (l m:List ab) (bs:List UInt8),cu ρ l m->QW l=some bs->∃ ns:List Int,m=ns.map (Value.int .u8)/\bs=ns.map λn=>UInt8.ofNat n.toNat
 | [],m,bs,hv,hb=>by
  rw [hv.of_nil]
  cases hb
  exact ⟨[],rfl,rfl⟩
 |x::l,m,bs,hv,hb=>by
  obtain ⟨y,m',rfl,h1,h2⟩:=hv.of_cons
  cases x with
  |int k n =>
   cases k <;> simp only [QW] at hb <;> try cases hb
   simp only [cA] at hb
   obtain ⟨bs',pe,rfl⟩:=hb
   cases h1
   obtain ⟨ns,rfl,rfl⟩:=zle l m' bs' h2 pe
   exact ⟨n::ns,rfl,rfl⟩
  |_=>simp [QW] at hb

theorem zkJ (hT:T.Fits P) (hs:bP ρ h w) {d:TypeId} (dp:VR ρ x y) (hb:TF T s d x h=some v):∃ u,(convert s d y).run P w=.ok u w/\VR ρ v u:=by
 unfold TF at hb
 split at hb
 .rename_i e a n c qa Xr
  split at hb
  .rename_i hed
   simp only [cH,cA] at hb
   obtain ⟨l,hl,bs,MD,rfl⟩:=hb
   obtain ⟨a',c',m,rfl,hv,hlen,ey⟩:=ze6 (P:=P) hs dp hl
   obtain ⟨ns,rfl,rfl⟩:=zle l m bs hv MD
   refine ⟨_,?_,.string _⟩
   rw [run_convert_bytes_string w s d e a' n c' (hT.desc _ _ qa) (hT.desc _ _ hed) (hT.desc _ _ Xr)]
   cases a' with
   |none =>
    have hn:n=0:=by cases dp;rfl
    subst hn
    have:ns=[]:=by simpa using hlen
    subst this
    rfl
   |some ad =>
    have h1:=ey w rfl n (bj _)
    have h2:(loadCells ad n).run P w=.ok (ns.map (Value.int .u8)).toArray w:=by
     have h3:(Builtin.firstCells 1 n (.slice (some ad) n c'))=loadCells ad (n*1):=rfl
     rw [h3,CT] at h1
     rw [h1]
     congr 2
     exact gE (by rw [hlen,CT];exact bj _)
    rw [run_bytesToString w ad n c' ns h2,foldl_push_bytes]
    simp
  .cases hb
 .cases hb

theorem zkO (hT:T.Fits P) (hs:bP ρ h w) (bW:fJ ρ h h') {d:TypeId} (jd:TJ T s=true) (hx:VR ρ x y) (hl:Ju T d x h=some (v,h')) :
 ∃ ρ' u w',(convert s d y).run P w=.ok u w'/\Fr ρ ρ' h h' w w'/\bP ρ' h' w'/\VR ρ' v u:=by
 have kD:P.underlying s=some .string:=by
  unfold TJ at jd
  split at jd
  .rename_i hd;exact hT.desc _ _ hd
  .cases jd
 unfold Ju at hl
 split at hl
 .rename_i e b hd
  split at hl
  .rename_i uR z he hi
   split at hl
   .cases hl
   .rename_i GD
    have dx:¬ b.size > 1152921504606846976:=λg=>GD (.inl g)
    have Xl:e=Rm:=Decidable.byContradiction λg=>GD (.inr g)
    cases hl
    cases hx
    have ey:=Lib.run_convert_string_bytes w s d e b kD (hT.desc _ _ hd) (hT.desc _ _ he)
    have ka:=grownCap_ge w b.size 0 e
    have hle:=grownCap_le_maxLen w b.size 0 e (by unfold maxLen;omega)
    have lS:(Lib.bytesCells w e b).size=grownCap w b.size 0 e:=by
     have MD:b.data.size=b.size:=rfl
     simp only [Lib.bytesCells,Array.size_append,Array.size_map,Array.size_replicate,MD]
     omega
    have hW:(Lib.bytesWorld w e b).heap=w.heap.push (.cells (Lib.bytesCells w e b) e ((Lib.bytesCells w e b).size,(Lib.bytesCells w e b).size+1)):=by
     apply Array.ext_getElem?
     intro j
     rw [xv]
     by_cases hj:j=w.heap.size
     .rw [aE hj,hj,Lib.bytesWorld_at_new]
     .rw [az hj]
      by_cases XW:j < w.heap.size
      .exact Lib.bytesWorld_at_old w e b j XW
      .rw [Array.getElem?_eq_none (by rw [Lib.bytesWorld_size];omega),Array.getElem?_eq_none (by omega)]
    have jX:=Ct (k:=1) (q:=b.size) (by omega) (by unfold G;omega)
    obtain ⟨ρ',hρ,cW,dV⟩:=zjJ (W:=Lib.bytesWorld w e b) (cs:=b.data.toList.map λu=>Value.int .u8 u.toNat) (m:=b.data.toList.map λu=>Value.int .u8 u.toNat) hs (bW _ (bj _) (by rw [Heap.size_push];omega))
     (fz:=((Lib.bytesCells w e b).size,(Lib.bytesCells w e b).size+1)) ⟨by intro j hj hh;have:=hh.1;simp at this;omega,.inl Xl⟩ hW
     (by simp [Lib.bytesWorld,World.freeze,World.alloc,World.drew,-World.alloc_eq,-World.drew_eq]) (by simp [Lib.bytesWorld,World.freeze,World.alloc,World.drew,-World.alloc_eq,-World.drew_eq]) (by simp [Lib.bytesWorld,World.freeze,World.alloc,World.drew,-World.alloc_eq,-World.drew_eq])
     (by refine sq ?_ (by simp) λj hj=>?_
         .simp [Lib.bytesCells]
         .simp only [gi,qM] at hj
          rw [jo]
          simp only [Lib.bytesCells,JD,Array.toList_map]
          rw [nc (by simpa using hj)])
     (by refine ⟨rfl,λj a c ha hc=>?_⟩
         rw [ha] at hc
         cases hc
         rw [lC,cA] at ha
         obtain ⟨q,_,rfl⟩:=ha
         exact .int .u8 _)
    refine ⟨ρ',_,_,ey,cW,dV,?_⟩
    refine .b9 hρ jX.1 (by rw [jX.2.1];exact ka) (by rw [jX.2.1];exact bj _) (by rw [jX.2.2];omega) hle (λ_=>⟨by simp,?_⟩)
    rw [jX.2.2]
    show 0+0+grownCap w b.size 0 e*1<=(Lib.bytesCells w e b).size
    rw [lS]
    omega
  .cases hl
 .cases hl
end
end Go.Am
namespace Go.Am
open Go.RowKit
variable {e:Env} {v:ab}

section
variable {P:Program} {T:bI} {ρ:cm} {h h':Heap} {w:World}

theorem ct.put {e:Env} {a:Act} (he:ct ρ e a.tmps) {v u:ab} (hv:VR ρ v u) (d:Option Tmp):ct ρ (Am.put e d v) (a.put d u).tmps:=by
 cases d with
 |none=>exact he
 |some d =>
  refine ⟨by simp [Am.put,Act.put,Env.length_set,he.1],λi=>?_⟩
  simp only [Am.put,Act.put,Env.aJ]
  by_cases hi:i=d/\d < e.length
  .rw [aE hi]
   obtain ⟨rfl,aT⟩:=hi
   have:(a.tmps.setIfInBounds i u).getD i undef=u:=by
    have Gk:i < a.tmps.size:=by rw [<- he.1];exact aT
    simp [Gk]
   rw [this]
   exact hv
  .rw [az hi]
   have:(a.tmps.setIfInBounds d u).getD i undef=a.tmps.getD i undef:=by
    by_cases hid:d=i
    .subst hid
     have:¬ d < a.tmps.size:=by rw [<- he.1];exact λaT=>hi ⟨rfl,aT⟩
     simp [this]
    .simp [HA hid]
   rw [this]
   exact he.2 i

theorem ct.operand {a:Act} (he:ct ρ e a.tmps) {x:Operand} (hx:tO ρ x):VR ρ (bt e x) (a.eval x):=by
 cases x with
 |tmp t=>exact he.2 t
 |const v=>exact .dH ρ hx
 |global g =>
  obtain ⟨t,ht⟩:=hx
  exact .ptr (o:=0) ht
 |func f=>exact .func _ rfl rfl (by intro i x y hx;simp at hx) (by intro i x y hx;simp at hx)

theorem ct.operands {a:Act} (he:ct ρ e a.tmps) (xs:List Operand) (hx:∀ x∈xs,tO ρ x):cu ρ (xs.map (bt e)) (xs.map a.eval):=by
 induction xs with
 |nil=>exact .nil ρ
 |cons x xs ih =>
  exact .cons (he.operand (hx x (by simp))) (ih λy hy=>hx y (by simp [hy]))

theorem ct.opt {a:Act} (he:ct ρ e a.tmps) {x:Option Operand} (hx:∀ y,x=some y->tO ρ y):sE ρ (x.map (bt e)) (x.map a.eval):=by
 cases x with
 |none=>trivial
 |some y=>exact he.operand (hx y rfl)

def ZZ (P:Program) (ρ:cm) (h h':Heap) (w:World) (v:ab) (f:FuncId) (aK:Array ab):Prop :=
 (∃ ρ' u w',(callFunc f aK).run P w=.ok (.value u) w'/\Fr ρ ρ' h h' w w'/\bP ρ' h' w'/\VR ρ' v u) \/
 ((callFunc f aK).run P w=.ok (.enter f aK) w/\Calls P f aK w λed w'=>∃ ρ' u,ed=.returned u/\Fr ρ ρ' h h' w w'/\bP ρ' h' w'/\VR ρ' v u)

def zB3 (P:Program) (ρ:cm) (h h':Heap) (w:World) (v:ab) (l:Nat) (aK:Array ab):Prop :=
 ∃ f tmps assign body,(Instr.yield l aK).run P w=.ok (.round l f tmps assign body) w/\RoundIn Fence.wide 0 P l f tmps assign body w λed w'=>∃ ρ' u,ed=.returned u/\Fr ρ ρ' h h' w w'/\bP ρ' h' w'/\VR ρ' v u

structure CS (P:Program) (gs:List Nat) (C:Fn->List ab->Heap->Option (ab × Heap)):Prop where
 fn:∀ f args h v h',C (.func f) args h=some (v,h')->∀ ρ w (aK:Array ab),cX gs ρ->bP ρ h w->fJ ρ h h'->cu ρ args aK.toList->ZZ P ρ h h' w v f aK
 yield:∀ A args h v h',C (.yield A) args h=some (v,h')->∀ ρ w (aK:Array ab) L,ρ A=some L->cX gs ρ->bP ρ h w->fJ ρ h h'->cu ρ args aK.toList->zB3 P ρ h h' w v L.b aK

def Ie (P:Program) (ρ:cm) (h h':Heap) (w:World) (v:ab) (r:Result Next):Prop :=
 (∃ ρ' u w',(r=.ok (.value u) w'\/(r=.ok .skip w'/\u=undef))/\Fr ρ ρ' h h' w w'/\bP ρ' h' w'/\VR ρ' v u) \/
 (∃ f aK,r=.ok (.enter f aK) w/\Calls P f aK w λed w'=>∃ ρ' u,ed=.returned u/\Fr ρ ρ' h h' w w'/\bP ρ' h' w'/\VR ρ' v u) \/
 (∃ l f tmps assign body,r=.ok (.round l f tmps assign body) w/\RoundIn Fence.wide 0 P l f tmps assign body w λed w'=>∃ ρ' u,ed=.returned u/\Fr ρ ρ' h h' w w'/\bP ρ' h' w'/\VR ρ' v u)

theorem World.bF (w:World) (o:Obj):(w.alloc o).heap=w.heap.push o:=rfl

theorem Ie.still (hs:bP ρ h w) {u:ab} {r:Result Next} (hr:r=.ok (.value u) w) (hv:VR ρ v u):Ie P ρ h h w v r :=
 .inl ⟨ρ,u,w,.inl hr,Fr.refl _ _ _,hs,hv⟩

theorem PX {a:Act} {o:Oper} (hs:bP ρ h w) (he:ct ρ e a.tmps) (cE:jR ρ o) (hp:i7 P e o h=some (v,h')) (FW:(∀ x∈o.op.operands,a.eval x=bt e x)->execOp a.eval o=execOp (bt e) o) :
 Ie P ρ h h' w v ((execOp a.eval o).run P w):=by
 unfold i7 at hp
 split at hp
 .rename_i aH
  have heq:∀ x∈o.op.operands,a.eval x=bt e x:=by
   intro x hx
   have h1:=iT.1 aH x (by simpa using hx)
   exact (he.operand (cE x (by simpa using hx))).bD h1
  rw [FW heq]
  split at hp
  .rename_i v' hr
   split at hp
   .rename_i mn
    cases hp
    exact .still hs (PS P _ _ hr w) (.dH ρ mn)
   .cases hp
  .cases hp
 .cases hp

theorem zlK {v:ab} (hs:bP ρ h w) (fW:ρ h.size=none) {t:TypeId} {cs:List ab} (u:ab) (hv:cu ρ cs u.cells.toList) :
 ∃ ρ',(newVar t u).run P w=.ok ⟨w.heap.size,0,none⟩ (w.alloc (.cells u.cells t))/\Fr ρ ρ' h (newRow t cs h).2 w (w.alloc (.cells u.cells t))/\bP ρ' (newRow t cs h).2 (w.alloc (.cells u.cells t)) /\
   VR ρ' (newRow t cs h).1 (.pointer (some ⟨w.heap.size,0,none⟩)):=by
 have _:=v
 obtain ⟨ρ',hρ,cW,dV⟩:=Jd (W:=w.alloc (.cells u.cells t)) (cs:=cs) (m:=u.cells.toList) hs fW rfl rfl rfl rfl (by rw [hv.1];exact sq (by omega) rfl (λj _=>by rw [jo])) hv
 refine ⟨ρ',by simp [newVar,Go.newRow],cW,dV,?_⟩
 have:=VR.ptr (ρ:=ρ') (o:=0) hρ
 simpa [newRow] using this

theorem zeT (ps:Array (Nat × Operand)) (f:Operand->ab):(ps.map λ(i,x)=>(i,f x))=(ps.toList.map λ(i,x)=>(i,f x)).toArray:=by
 apply Array.ext'
 simp

theorem zph {a:Act} (he:ct ρ e a.tmps) (ps:List (Nat × Operand)) (cE:∀ x∈ps.map (·.2),tO ρ x) :
 (ps.map λ(i,x)=>(i,bt e x)).length=(ps.map λ(i,x)=>(i,a.eval x)).length /\
 ∀ (i:Nat) (x y:Nat × ab),(ps.map λ(i,x)=>(i,bt e x))[i]? = some x->(ps.map λ(i,x)=>(i,a.eval x))[i]? = some y->x.1=y.1/\VR ρ x.2 y.2:=by
 refine ⟨by simp,λi x y hx hy=>?_⟩
 rw [lC,cA] at hx hy
 obtain ⟨⟨j,o⟩,h1,rfl⟩:=hx
 obtain ⟨⟨j',o'⟩,h2,rfl⟩:=hy
 rw [h1] at h2
 cases h2
 exact ⟨rfl,he.operand (cE o (oY.2 ⟨(j,o),ic h1,rfl⟩))⟩

theorem DX (hT:T.Fits P) {C:Fn->List ab->Heap->Option (ab × Heap)} {gs:List Nat} (hC:CS P gs C) (hG:cX gs ρ) {a:Act} {o:Oper} (hs:bP ρ h w) (he:ct ρ e a.tmps) (cE:jR ρ o) (bW:fJ ρ h h') 
 (aj:gL P T C e o h=some (v,h')):Ie P ρ h h' w v ((execOp a.eval o).run P w):=by
 have aH:∀ x∈o.op.operands.toList,tO ρ x:=cE
 unfold gL at aj
 dsimp only at aj
 split at aj
 .rename_i x aV
  cases aj
  refine .still (u:=a.eval x) hs (by simp [execOp,aV]) (he.operand (aH _ (by simp [aV,Op.operands])))
 .rename_i x aV
  cases aj
  refine .still (u:=a.eval x) hs (by simp [execOp,aV]) (he.operand (aH _ (by simp [aV,Op.operands])))
 .rename_i c x y aV
  have hc:=he.operand (aH c (by simp [aV,Op.operands]))
  have hx:=he.operand (aH x (by simp [aV,Op.operands]))
  have hy:=he.operand (aH y (by simp [aV,Op.operands]))
  split at aj
  .rename_i t ht
   cases aj
   rw [ht] at hc
   have yd:a.eval c=.bool t:=hc.bD rfl
   refine .still (u:=if t then a.eval x else a.eval y) hs (by simp [execOp,aV,yd,asBool]) ?_
   cases t
   .exact hy
   .exact hx
  .cases aj
 .rename_i t aV
  simp only [cA,Prod.exists] at aj
  obtain ⟨k,uR,z,gT,aj⟩:=aj
  obtain ⟨i,zv,hi,rfl,rfl,hz,rfl,vJ,uq⟩:=hT.info t k uR z gT
  have e1:v=(newRow t zv.cells.toList h).1:=(congrArg Prod.fst aj).symm
  have e2:h'=(newRow t zv.cells.toList h).2:=(congrArg Prod.snd aj).symm
  subst e1 e2
  obtain ⟨ρ',h1,h2,h3,h4⟩:=zlK (P:=P) (v:=undef) hs (bW _ (bj _) (wt _)) (t:=t) zv (cu.plain ρ uq)
  refine .inl ⟨ρ',_,_,.inl ?_,h2,h3,h4⟩
  simp [execOp,aV,Instr.alloc,zeroValue,typeInfo,hi,hz,h1]
 .rename_i t x aV
  have hx:=he.operand (aH x (by simp [aV,Op.operands]))
  simp only [dO] at aj
  have e1:v=(newRow t (bt e x).cells.toList h).1:=(congrArg Prod.fst aj).symm
  have e2:h'=(newRow t (bt e x).cells.toList h).2:=(congrArg Prod.snd aj).symm
  subst e1 e2
  obtain ⟨ρ',h1,h2,h3,h4⟩:=zlK (P:=P) (v:=undef) hs (bW _ (bj _) (wt _)) (t:=t) (a.eval x) hx.cells
  refine .inl ⟨ρ',_,_,.inl ?_,h2,h3,h4⟩
  simp [execOp,aV,Instr.box,h1]
 .rename_i t ps aV
  simp only [cA,cV] at aj
  obtain ⟨r,hr,rfl,rfl⟩:=aj
  obtain ⟨p1,p2⟩:=zph he ps.toList (λx hx=>aH x (by simpa [aV,Op.operands] using hx))
  obtain ⟨vc,h1,h2⟩:=zn7 (ρ:=ρ) hT p1 p2 hr w
  refine .still hs ?_ h2
  simp only [execOp,aV,zeT,Sem.run_bind,h1,Result.andThen_ok,Sem.run_pure]
 .rename_i t n ps aV
  obtain ⟨p1,p2⟩:=zph he ps.toList (λx hx=>aH x (by simpa [aV,Op.operands] using hx))
  obtain ⟨ρ',vc,w',h1,h2,h3,h4⟩:=zhh (ρ:=ρ) hT hs bW p1 p2 aj
  refine .inl ⟨ρ',vc,w',.inl ?_,h2,h3,h4⟩
  simp only [execOp,aV,zeT,Sem.run_bind,h1,Result.andThen_ok,Sem.run_pure]
 .rename_i t x aV
  have hx:=he.operand (aH x (by simp [aV,Op.operands]))
  simp only [cA,cV] at aj
  obtain ⟨r,hr,rfl,rfl⟩:=aj
  obtain ⟨u,h1,h2⟩:=zgg hT hs hx hr
  exact .still hs (by simp [execOp,aV,h1]) h2
 .rename_i t x y aV
  have hx:=he.operand (aH x (by simp [aV,Op.operands]))
  have hy:=he.operand (aH y (by simp [aV,Op.operands]))
  simp only [cA,cV] at aj
  obtain ⟨h1,hr,rfl,rfl⟩:=aj
  unfold iH at hr
  split at hr
  .rename_i A off BX
   rw [BX] at hx
   simp only [cH] at hr
   obtain ⟨n,hn,hr⟩:=hr
   split at hr
   .rename_i dx
    generalize vf:a.eval x=ax at hx
    cases hx with
    |ptr hA =>
     rename_i L
     obtain ⟨w',fj,cW,dV⟩:=PZ (P:=P) hs hA hy.cells hr
     have lS:(a.eval y).cells.size=n:=by have:=hy.cells.1;simp at this;omega
     refine .inl ⟨ρ,undef,w',.inr ⟨?_,rfl⟩,cW,dV,.undef ρ⟩
     simp [execOp,aV,vf,Instr.storeAt,Instr.sureAddr,storeVar,vX hT hn,lS,fj]
   .cases hr
  .cases hr
 .rename_i x aV
  have hx:=he.operand (aH x (by simp [aV,Op.operands]))
  split at aj
  .rename_i ad BX
   cases aj
   rw [BX] at hx
   generalize vf:a.eval x=ax at hx
   cases hx with
   |ptr hA=>exact .still hs (by simp [execOp,aV,vf]) (.ptr hA)
  .rename_i f fi ca BX
   cases aj
   rw [BX] at hx
   generalize vf:a.eval x=ax at hx
   cases hx with
   |func _ hf hc h1 h2=>exact .still hs (by simp [execOp,aV,vf]) (.func _ hf hc h1 h2)
  .rename_i t z BX
   cases aj
   rw [BX] at hx
   generalize vf:a.eval x=ax at hx
   cases hx with
   |iface _ h1=>exact .still hs (by simp [execOp,aV,vf]) (.iface t h1)
  .cases aj
 .rename_i op t x y yt aV
  have hx:=he.operand (aH x (by simp [aV,Op.operands]))
  have hy:=he.operand (aH y (by simp [aV,Op.operands]))
  simp only [cA,cV] at aj
  obtain ⟨r,hr,rfl,rfl⟩:=aj
  obtain ⟨vc,h1,h2⟩:=ztn hT hx hy hr x y w
  refine .still hs ?_ h2
  simp only [execOp,aV]
  rw [Sem.run_bind,h1]
  rfl
 .rename_i fn first captured aV
  split at aj
  .rename_i f
   cases aj
   have h1:=he.operands first.toList (λx hx=>aH x (by simp [aV,Op.operands];left;simpa using hx))
   have h2:=he.operands captured.toList (λx hx=>aH x (by simp [aV,Op.operands];right;simpa using hx))
   refine .still (u:=.func (.func f) (first.map a.eval) (captured.map a.eval)) hs ?_ ?_
   .simp [execOp,aV,Instr.makeFunc]
   .refine .func _ (by simp) (by simp) (λi x y hx hy=>h1.2 i x y ?_ ?_) (λi x y hx hy=>h2.2 i x y ?_ ?_)
    all_goals simp at hx hy ⊢;assumption
  .cases aj
 .rename_i t l c aV
  have hl:=he.operand (aH l (by simp [aV,Op.operands]))
  have hc:=he.operand (aH c (by simp [aV,Op.operands]))
  obtain ⟨ρ',vc,w',h1,h2,h3,h4⟩:=zif hT hs bW hl hc aj
  refine .inl ⟨ρ',vc,w',.inl ?_,h2,h3,h4⟩
  simp [execOp,aV,h1]
 .rename_i t x l hi m aV
  have hx:=he.operand (aH x (by simp [aV,Op.operands]))
  have hl:=he.opt (x:=l) (λy hy=>aH y (by subst hy;simp [aV,Op.operands]))
  have mD:=he.opt (x:=hi) (λy hy=>aH y (by subst hy;simp [aV,Op.operands]))
  have hm:=he.opt (x:=m) (λy hy=>aH y (by subst hy;simp [aV,Op.operands]))
  simp only [cA,cV] at aj
  obtain ⟨r,hr,rfl,rfl⟩:=aj
  obtain ⟨vc,h1,h2⟩:=zpE hT hx hl mD hm hr w
  exact .still hs (by simp [execOp,aV,h1]) h2
 .rename_i s x f aV
  have hx:=he.operand (aH x (by simp [aV,Op.operands]))
  simp only [cA,cV] at aj
  obtain ⟨r,hr,rfl,rfl⟩:=aj
  obtain ⟨vc,h1,h2⟩:=zid hT hx hr w
  exact .still hs (by simp [execOp,aV,h1]) h2
 .rename_i t x f aV
  have hx:=he.operand (aH x (by simp [aV,Op.operands]))
  simp only [cA,cV] at aj
  obtain ⟨r,hr,rfl,rfl⟩:=aj
  obtain ⟨vc,h1,h2⟩:=zoC hT hx hr w
  exact .still hs (by simp [execOp,aV,h1]) h2
 .rename_i t x i aV
  have hx:=he.operand (aH x (by simp [aV,Op.operands]))
  have hi:=he.operand (aH i (by simp [aV,Op.operands]))
  simp only [cA,cV] at aj
  obtain ⟨r,hr,rfl,rfl⟩:=aj
  obtain ⟨vc,h1,h2⟩:=zie hT hx hi hr w
  exact .still hs (by simp [execOp,aV,h1]) h2
 .rename_i t i aV
  have ht:=he.operand (aH t (by simp [aV,Op.operands]))
  split at aj
  .rename_i vs hte
   rw [hte] at ht
   simp only [cA,cV] at aj
   obtain ⟨r,hr,rfl,rfl⟩:=aj
   generalize q8:a.eval t=at_ at ht
   cases ht with
   |tuple hc hh =>
    rename_i ds
    have aT:i < vs.size:=(mQ.1 hr).1
    have hd:ds[i]? = some (ds[i]'(by omega)):=xl _
    exact .still hs (by simp [execOp,aV,q8,Instr.extract,hd]) (hh i _ _ hr hd)
  .cases aj
 .rename_i op t x aV
  refine PX hs he cE aj (λheq=>?_)
  have:=heq x (by simp [aV,Op.operands])
  simp [execOp,aV,this]
 .rename_i s t x aV
  split at aj
  .have hx:=he.operand (aH x (by simp [aV,Op.operands]))
   simp only [cA,cV] at aj
   obtain ⟨r,hr,rfl,rfl⟩:=aj
   obtain ⟨u,h1,h2⟩:=zkJ hT hs hx hr
   exact .still hs (by simp [execOp,aV,h1]) h2
  .split at aj
   .split at aj
    .rename_i Yv
     have hx:=he.operand (aH x (by simp [aV,Op.operands]))
     obtain ⟨ρ',u,w',r1,r2,r3,r4⟩:=zkO hT hs bW Yv hx aj
     exact .inl ⟨ρ',u,w',.inl (by simp [execOp,aV,r1]),r2,r3,r4⟩
    .cases aj
   .refine PX hs he cE aj (λheq=>?_)
    have:=heq x (by simp [aV,Op.operands])
    simp [execOp,aV,this]
 .rename_i t x i aV
  refine PX hs he cE aj (λheq=>?_)
  have h1:=heq x (by simp [aV,Op.operands])
  have h2:=heq i (by simp [aV,Op.operands])
  simp [execOp,aV,h1,h2]
 .rename_i c aV
  obtain ⟨callee,args,argTypes⟩:=c
  have dU:∀ x∈args.toList,tO ρ x:=λx hx=>aH x (by simp [aV,Op.operands,Call.operands];right;simpa using hx)
  dsimp only at aj
  split at aj
  .split at aj
   .rename_i t u s x vE lJ
    have e1:argTypes=#[t,u]:=by apply Array.ext';simpa using vE
    have e2:args=#[s,x]:=by apply Array.ext';simpa using lJ
    subst e1 e2
    have h1:=he.operand (dU s (by simp))
    have h2:=he.operand (dU x (by simp))
    split at aj
    .rename_i hu
     have Ny:Rs P u:=by
      unfold su at hu
      simp only [sB,beq_iff_eq] at hu
      rcases hu with rfl|hu
      .have h4:=aj
       unfold gC at h4
       split at h4
       .rename_i e' hd;exact .inl ⟨_,hT.desc _ _ hd⟩
       .cases h4
      .split at hu
       .rename_i hd;exact .inr (hT.desc _ _ hd)
       .rename_i e' hd;exact .inl ⟨_,hT.desc _ _ hd⟩
       .cases hu
     obtain ⟨ρ',vc,w',r1,r2,r3,r4⟩:=zgv (ty:=o.type) hT hs bW Ny h1 h2 aj
     refine .inl ⟨ρ',vc,w',.inl ?_,r2,r3,r4⟩
     simp [execOp,aV,resolve,invoke,builtin,r1]
    .cases aj
   .cases aj
  .split at aj
   .rename_i t u d s vE lJ
    have e1:argTypes=#[t,u]:=by apply Array.ext';simpa using vE
    have e2:args=#[d,s]:=by apply Array.ext';simpa using lJ
    subst e1 e2
    have h1:=he.operand (dU d (by simp))
    have h2:=he.operand (dU s (by simp))
    obtain ⟨vc,w',r1,r2,r3,r4⟩:=zqC (u:=u) (ty:=o.type) hT hs h1 h2 aj
    refine .inl ⟨ρ,vc,w',.inl ?_,r2,r3,r4⟩
    simp [execOp,aV,resolve,invoke,builtin,r1]
   .cases aj
  .split at aj
   .rename_i t x vE lJ
    have e1:argTypes=#[t]:=by apply Array.ext';simpa using vE
    have e2:args=#[x]:=by apply Array.ext';simpa using lJ
    subst e1 e2
    have h1:=he.operand (dU x (by simp))
    simp only [cA,cV] at aj
    obtain ⟨h2,hr,rfl,rfl⟩:=aj
    obtain ⟨w',r1,r2,r3⟩:=zog (ty:=o.type) hT hs h1 hr
    refine .inl ⟨ρ,undef,w',.inl ?_,r2,r3,.undef ρ⟩
    simp [execOp,aV,resolve,invoke,builtin,r1]
   .cases aj
  .split at aj
   .rename_i t ts x vE lJ
    have e2:args=#[x]:=by apply Array.ext';simpa using lJ
    have e1:argTypes=(t::ts).toArray:=by apply Array.ext';simpa using vE
    subst e1 e2
    have h1:=he.operand (dU x (by simp))
    simp only [cA,cV] at aj
    obtain ⟨r,hr,rfl,rfl⟩:=aj
    obtain ⟨vc,r1,r2⟩:=ztN (ty:=o.type) hT hs h1 hr ts
    refine .still hs ?_ r2
    simp [execOp,aV,resolve,invoke,builtin,r1]
   .cases aj
  .refine PX hs he cE aj (λheq=>?_)
   have hm:args.map a.eval=args.map (bt e):=by
    apply Array.map_congr_left
    intro x hx
    exact heq x (by simp [aV,Op.operands,Call.operands];exact hx)
   simp [execOp,aV,resolve,hm]
  .refine PX hs he cE aj (λheq=>?_)
   have hm:args.map a.eval=args.map (bt e):=by
    apply Array.map_congr_left
    intro x hx
    exact heq x (by simp [aV,Op.operands,Call.operands];exact hx)
   simp [execOp,aV,resolve,hm]
  .split at aj
   .rename_i t ts m k vE lJ
    have e2:args=#[m,k]:=by apply Array.ext';simpa using lJ
    have e1:argTypes=(t::ts).toArray:=by apply Array.ext';simpa using vE
    subst e1 e2
    have h1:=he.operand (dU m (by simp))
    have h2:=he.operand (dU k (by simp))
    simp only [cA,cV] at aj
    obtain ⟨h3,hr,rfl,rfl⟩:=aj
    obtain ⟨w',r1,r2,r3⟩:=zmC (ty:=o.type) (ts:=ts) hT hs h1 h2 hr
    refine .inl ⟨ρ,undef,w',.inl ?_,r2,r3,.undef ρ⟩
    simp [execOp,aV,resolve,invoke,builtin,r1,undef]
   .cases aj
  .split at aj
   .rename_i t ts x vE lJ
    have e2:args=#[x]:=by apply Array.ext';simpa using lJ
    have e1:argTypes=(t::ts).toArray:=by apply Array.ext';simpa using vE
    subst e1 e2
    have h1:=he.operand (dU x (by simp))
    simp only [cA,cV] at aj
    obtain ⟨r,hr,rfl,rfl⟩:=aj
    obtain ⟨vc,r1,r2⟩:=ztr (ty:=o.type) hT h1 hr ts w
    refine .still hs ?_ r2
    simp [execOp,aV,resolve,invoke,builtin,r1]
   .cases aj
  .rename_i rv name
   have Nu:=he.operand (aH rv (by simp [aV,Op.operands,Call.operands]))
   split at aj
   .rename_i t x hre
    rw [hre] at Nu
    generalize De:a.eval rv=ar at Nu
    simp only [cH,Prod.exists] at aj
    obtain ⟨f,y,hm,aj⟩:=aj
    cases Nu with
    |iface _ hx =>
     rename_i x'
     obtain ⟨y',r1,r2⟩:=zmV hT hs hx hm (P.types.size+Made.depth - 1)
     have hd:P.types.size+Made.depth - 1+1=P.types.size+Made.depth:=by simp [Made.depth]
     rw [hd] at r1
     have bR:=he.operands args.toList dU
     have yn:(execOp a.eval o).run P w=(callFunc f (#[y']++args.map a.eval)).run P w:=by
      have h0:(#[Value.iface t x']++Array.map a.eval args)[0]? = some (.iface t x'):=by rw [Array.getElem?_append_left (by simp)];rfl
      have Nq:(program:Sem Program).run P w=.ok P w:=rfl
      have hex:(#[Value.iface t x']++Array.map a.eval args).extract 1 (#[Value.iface t x']++Array.map a.eval args).size=Array.map a.eval args:=by
       rw [Array.extract_append]
       simp
      simp only [execOp,aV,resolve,Sem.run_bind,Sem.run_pure,Result.andThen_ok,invoke,De,h0,callMethod,Nq,r1,hex]
     have iW:=hC.fn f _ h v h' aj ρ w (#[y']++args.map a.eval) hG hs bW (by
      have:=cu.cons r2 bR
      simpa using this)
     rw [yn]
     rcases iW with ⟨ρ',u,w',q1,q2,q3,q4⟩|⟨q1,q2⟩
     .exact .inl ⟨ρ',u,w',.inl q1,q2,q3,q4⟩
     .exact .inr (.inl ⟨f,_,q1,q2⟩)
   .cases aj
  .rename_i f
   have hf:=he.operand (aH f (by simp [aV,Op.operands,Call.operands]))
   split at aj
   .rename_i g first captured yo
    rw [yo] at hf
    generalize Xd:a.eval f=af at hf
    cases hf with
    |func _ h1 h2 h3 h4 =>
     rename_i gS dJ
     have kT:cu ρ first.toList gS.toList:=⟨by simpa using h1,λi x y hx hy=>h3 i x y (by simpa using hx) (by simpa using hy)⟩
     have jB:cu ρ captured.toList dJ.toList:=⟨by simpa using h2,λi x y hx hy=>h4 i x y (by simpa using hx) (by simpa using hy)⟩
     have bR:=he.operands args.toList dU
     have iW:=hC.fn g _ h v h' aj ρ w ((gS++args.map a.eval)++dJ) hG hs bW (by
      have:=(kT.append bR).append jB
      simpa using this)
     have yn:(execOp a.eval o).run P w=(callFunc g ((gS++args.map a.eval)++dJ)).run P w:=by
      simp [execOp,aV,resolve,Xd,Deferred.ofValue,invoke]
     rw [yn]
     rcases iW with ⟨ρ',u,w',r1,r2,r3,r4⟩|⟨r1,r2⟩
     .exact .inl ⟨ρ',u,w',.inl r1,r2,r3,r4⟩
     .exact .inr (.inl ⟨g,_,r1,r2⟩)
   .rename_i A first captured yo
    rw [yo] at hf
    generalize Xd:a.eval f=af at hf
    split at aj
    .cases hf with
     |yield hA =>
      rename_i L _
      have bR:=he.operands args.toList dU
      obtain ⟨g,tmps,assign,body,r1,r2⟩:=hC.yield A _ h v h' aj ρ w (args.map a.eval) L hA hG hs bW (by simpa using bR)
      refine .inr (.inr ⟨L.b,g,tmps,assign,body,?_,r2⟩)
      rw [<- r1]
      simp [execOp,aV,resolve,Xd,Deferred.ofValue,invoke]
    .cases aj
   .cases aj
  .cases aj
 .rename_i t r aV
  have jW:∃ ρ',Fr ρ ρ' h (h.push (.map [] 0)) w (w.alloc (.map #[] 0))/\bP ρ' (h.push (.map [] 0)) (w.alloc (.map #[] 0))/\VR ρ' (.map (some h.size)) (.map (some w.heap.size))\/¬ (ρ h.size=none):=by
   by_cases hn:ρ h.size=none
   .obtain ⟨ρ',h1,h2,h3⟩:=S6 (W:=w.alloc (.map #[] 0)) (L:=⟨w.heap.size,0,0⟩) (b:=.map [] 0) hs hn (λk hk=>by rw [Am.World.bF,xv,az (by omega)]) (by rw [Am.World.bF];simp) rfl rfl rfl (bj _)
     (λρ' _=>⟨#[],by rw [Am.World.bF];simp,rfl,by intro i x y hx;simp at hx⟩)
    exact ⟨ρ',.inl ⟨h2,h3,.map h1⟩⟩
   .exact ⟨ρ,.inr hn⟩
  split at aj
  .cases aj
   obtain ⟨ρ',⟨h2,h3,h4⟩|hn⟩:=jW
   .exact .inl ⟨ρ',_,_,.inl (by simp [execOp,aV,Instr.makeMap]),h2,h3,h4⟩
   .exact (hn (bW _ (bj _) (wt _))).elim
  .rename_i x
   have hx:=he.operand (aH x (by simp [aV,Op.operands]))
   split at aj
   .rename_i hd BX
    cases aj
    rw [BX] at hx
    generalize vf:a.eval x=ax at hx
    cases hx
    obtain ⟨ρ',⟨h2,h3,h4⟩|hn⟩:=jW
    .refine .inl ⟨ρ',_,_,.inl ?_,h2,h3,h4⟩
     simp [execOp,aV,Instr.makeMap,vf,run_underlying (hT.desc _ _ hd),asInt,asIntOf]
    .exact (hn (bW _ (bj _) (wt _))).elim
   .cases aj
 .rename_i t x k ok aV
  have hx:=he.operand (aH x (by simp [aV,Op.operands]))
  have hk:=he.operand (aH k (by simp [aV,Op.operands]))
  simp only [cA,cV] at aj
  obtain ⟨r,hr,rfl,rfl⟩:=aj
  obtain ⟨u,h1,h2⟩:=zmT hT hs hx hk hr
  exact .still hs (by simp [execOp,aV,h1]) h2
 .rename_i t m k x aV
  have hm:=he.operand (aH m (by simp [aV,Op.operands]))
  have hk:=he.operand (aH k (by simp [aV,Op.operands]))
  have hx:=he.operand (aH x (by simp [aV,Op.operands]))
  simp only [cA,cV] at aj
  obtain ⟨h1,hr,rfl,rfl⟩:=aj
  obtain ⟨w',r1,r2,r3⟩:=zg9 hT hs hm hk hx hr
  exact .inl ⟨ρ,undef,w',.inr ⟨by simp [execOp,aV,r1],rfl⟩,r2,r3,.undef ρ⟩
 .rename_i t m k x aV
  have hm:=he.operand (aH m (by simp [aV,Op.operands]))
  have hk:=he.operand (aH k (by simp [aV,Op.operands]))
  have hx:=he.operand (aH x (by simp [aV,Op.operands]))
  simp only [cA,cV] at aj
  obtain ⟨h1,hr,rfl,rfl⟩:=aj
  obtain ⟨w',r1,r2,r3⟩:=zg9 hT hs hm hk hx hr
  exact .inl ⟨ρ,undef,w',.inr ⟨by simp [execOp,aV,r1],rfl⟩,r2,r3,.undef ρ⟩
 .rename_i t m k aV
  have hm:=he.operand (aH m (by simp [aV,Op.operands]))
  have hk:=he.operand (aH k (by simp [aV,Op.operands]))
  obtain ⟨u,w',r1,r2,r3,r4⟩:=zou hT hs hm hk aj
  exact .inl ⟨ρ,u,w',.inl (by simp [execOp,aV,r1]),r2,r3,r4⟩
 .rename_i t m k x aV
  have hm:=he.operand (aH m (by simp [aV,Op.operands]))
  have hk:=he.operand (aH k (by simp [aV,Op.operands]))
  have hx:=he.operand (aH x (by simp [aV,Op.operands]))
  simp only [cA,cV] at aj
  obtain ⟨h1,hr,rfl,rfl⟩:=aj
  obtain ⟨w',r1,r2,r3⟩:=zhq (P:=P) (t:=t) hs hm hk hx hr
  exact .inl ⟨ρ,undef,w',.inr ⟨by simp [execOp,aV,r1],rfl⟩,r2,r3,.undef ρ⟩
 .rename_i t x aV
  have hx:=he.operand (aH x (by simp [aV,Op.operands]))
  simp only [cA,cV] at aj
  obtain ⟨r,hr,rfl,rfl⟩:=aj
  obtain ⟨u,h1,h2⟩:=zoH hT hx hr w
  exact .still hs (by simp [execOp,aV,h1]) h2
 .rename_i x xt t ok aV
  have hx:=he.operand (aH x (by simp [aV,Op.operands]))
  simp only [cA,cV] at aj
  obtain ⟨r,hr,rfl,rfl⟩:=aj
  obtain ⟨u,h1,h2⟩:=zmm (xt:=xt) hT hx hr w
  exact .still hs (by simp [execOp,aV,h1]) h2
 .cases aj
end
end Go.Am
namespace Go.Am
open Go.RowKit
variable {k v x:ab} {o:Oper} {e:Env} {C:Fn->List ab->Heap->Option (ab × Heap)} {tmps:Array ab} {t:TypeId} {c:Code}

section
variable {P:Program} {T:bI} {ρ:cm} {h h':Heap} {w:World}

def WR (rl:Option Nat):Fence:={ Fence.wide with round:=rl }
theorem zhj {rl:Option Nat} {n:Nat} {f:FuncId} {args:Array ab} {R:Ending->World->Prop} (hc:Calls P f args w R):CallsIn (WR rl) n P f args w R :=
 (callsIn_wide (n:=n)).2 hc

theorem Ie.wp {a:Act} (hr:Ie P ρ h h' w v ((execOp a.eval o).run P w)) (iG:∀ c,o.op≠.defer c) {K:Act->World->Prop} {Q:Exit->Act->World->Prop} {rl:Option Nat}
 (hK:∀ ρ' u w',Fr ρ ρ' h h' w w'->bP ρ' h' w'->VR ρ' v u->K (a.put o.dst u) w'):o.wpIn (WR rl) 0 P a w K Q:=by
 unfold Oper.wpIn
 refine ⟨λ_ _=>trivial,?_⟩
 rw [Oper.semAt_eq _ _ _ iG]
 rcases hr with ⟨ρ',u,w',h1,h2,h3,h4⟩|⟨f,aK,h1,h2⟩|⟨l,f,tmps,assign,body,h1,h2⟩
 .rcases h1 with h1|⟨h1,rfl⟩
  .rw [h1];exact hK ρ' u w' h2 h3 h4
  .rw [h1];exact hK ρ' undef w' h2 h3 h4
 .rw [h1]
  refine ⟨(λhh=>by cases hh),zhj (h2.mono ?_)⟩
  rintro ed w' ⟨ρ',u,rfl,h3,h4,h5⟩
  exact hK ρ' u w' h3 h4 h5
 .rw [h1]
  refine ⟨(λhh=>by cases hh),RoundIn.mono h2 ?_⟩
  rintro ed w' ⟨ρ',u,rfl,h3,h4,h5⟩
  exact hK ρ' u w' h3 h4 h5

theorem DZ (aj:gL P T C e o h=some (v,h')):∀ c,o.op≠.defer c:=by
 intro c hc
 simp [gL,hc] at aj

theorem zkt {ops:Array Oper} (he:ct ρ e tmps):Region.wanted o (yielded ops tmps)=nR ops o e:=by
 unfold Region.wanted nR
 cases o.guard with
 |none=>rfl
 |some g =>
  obtain ⟨j,b⟩:=g
  simp only [yielded]
  cases (ops[j]?).bind (·.dst) with
  |none=>simp
  |some t =>
   simp only [dM]
   have hv:=he.2 t
   cases ht:tmps[t]? with
   |none =>
    have hlen:tmps.size<=t:=by
     rcases lM t tmps.size with aT|ka
     .rw [xl aT] at ht;cases ht
     .exact ka
    rw [Env.o8 e t (by rw [he.1];exact hlen)]
    rfl
   |some u =>
    have hu:tmps.getD t undef=u:=by simp [ht]
    rw [hu] at hv
    generalize e.get t=x at hv
    cases hv <;> first|rfl|(cases b <;> rename_i c <;> cases c <;> rfl)

structure bx (h h':Heap):Prop where
 size:h.size<=h'.size
 low:h'.low<=h.low
 get:∀ A,A < h.size->A < h'.low->h'.get A=h.get A

theorem bx.refl (h:Heap):bx h h:=⟨bj _,bj _,λ_ _ _=>rfl⟩
theorem bx.trans {h h1 h2:Heap} (a:bx h h1) (b:bx h1 h2):bx h h2 :=
 ⟨gn a.size b.size,gn b.low a.low,λA h3 h4=>(b.get A (dB h3 a.size) h4).trans (a.get A h3 (dB h4 b.low))⟩
theorem bx.push (h:Heap) (b:ba):bx h (h.push b):=⟨EG _,bj _,λA h3 _=>by rw [Heap.bg,az (by omega)]⟩
theorem bx.set {h:Heap} {A:Nat} (b:ba) (hA:A < h.size):bx h (h.set A b) :=
 ⟨bj _,xA _ _,λA' _ h4=>by rw [Heap.bQ] at h4;rw [Heap.aJ _ _ _ _ hA,az (by omega)]⟩

theorem I6 {A o:Nat} {vs:List ab} (hw:ki A o vs h=some h'):bx h h':=by
 unfold ki at hw
 split at hw
 .rename_i hg
  split at hw
  .cases hw;exact .set _ (Heap.bw hg)
  .cases hw
 .cases hw

theorem zgu {s:ab} (ha:gC T t s x h=some (v,h')):bx h h':=by
 unfold gC at ha
 split at ha
 .simp only [cH,Prod.exists] at ha
  obtain ⟨k,uR,z,_,m,news,_,ha⟩:=ha
  split at ha
  .split at ha
   .cases ha;exact .refl _
   .split at ha
    .cases ha
    .split at ha
     .split at ha
      .split at ha
       .simp only [cA,cV] at ha
        obtain ⟨h1,hw,_,rfl⟩:=ha
        exact I6 hw
       .cases ha
      .cases ha
     .simp only [cH] at ha
      obtain ⟨eO,_,ha⟩:=ha
      split at ha
      .cases ha;exact .push _ _
      .split at ha
       .split at ha
        .rename_i hg
         split at ha
         .cases ha;exact (bx.set _ (Heap.bw hg)).trans (.push _ _)
         .cases ha
        .cases ha
       .cases ha
  .cases ha
 .cases ha

theorem zg8 (hr:rO T t x k v h=some h'):bx h h':=by
 unfold rO at hr
 split at hr
 .split at hr
  .rename_i hg
   split at hr
   .simp only [cH] at hr
    obtain ⟨r,_,hr⟩:=hr
    split at hr
    .simp only [cH] at hr
     obtain ⟨e,_,hr⟩:=hr
     split at hr
     .cases hr;exact .set _ (Heap.bw hg)
     .cases hr
    .cases hr;exact .set _ (Heap.bw hg)
   .cases hr
  .cases hr
 .cases hr

theorem zkN {d:TypeId} (hr:Ju T d x h=some (v,h')):bx h h':=by
 unfold Ju at hr
 split at hr
 .split at hr
  .split at hr
   .cases hr
   .cases hr;exact .push _ _
  .cases hr
 .cases hr
theorem zot (hr:Em T t x k h=some (v,h')):bx h h':=by
 unfold Em at hr
 split at hr
 .split at hr
  .rename_i hg
   split at hr
   .simp only [cH] at hr
    obtain ⟨r,_,hr⟩:=hr
    split at hr
    .simp only [cH] at hr
     obtain ⟨e,_,hr⟩:=hr
     split at hr
     .cases hr;exact .set _ (Heap.bw hg)
     .cases hr
    .simp only [cA,cV] at hr
     obtain ⟨z,_,_,rfl⟩:=hr
     exact .set _ (Heap.bw hg)
   .cases hr
  .cases hr
 .cases hr
theorem zhp {s:ab} (hr:zr x s v h=some h'):bx h h':=by
 unfold zr at hr
 split at hr
 .split at hr
  .rename_i hg
   simp only [cA] at hr
   obtain ⟨i,_,rfl⟩:=hr
   exact .set _ (Heap.bw hg)
  .cases hr
 .cases hr

theorem zmB (hr:AA T t x k h=some h'):bx h h':=by
 unfold AA at hr
 split at hr
 .split at hr
  .cases hr;exact .refl _
  .cases hr
 .split at hr
  .rename_i hg
   split at hr
   .simp only [cH] at hr
    obtain ⟨r,_,hr⟩:=hr
    split at hr
    .cases hr;exact .set _ (Heap.bw hg)
    .cases hr;exact .set _ (Heap.bw hg)
   .cases hr
  .cases hr
 .cases hr

def uK (C:Fn->List ab->Heap->Option (ab × Heap)):Prop:=∀ f args h v h',C f args h=some (v,h')->bx h h'

theorem Hm (hC:uK C) (aj:gL P T C e o h=some (v,h')):bx h h':=by
 have cQ:∀ {r:Option ab},(r.map λx=>(x,h))=some (v,h')->bx h h':=by
  intro r hr
  simp only [cA,cV] at hr
  obtain ⟨_,_,_,rfl⟩:=hr
  exact .refl _
 have eb:i7 P e o h=some (v,h')->bx h h':=by
  intro hp
  unfold i7 at hp
  split at hp
  .split at hp
   .split at hp
    .cases hp;exact .refl _
    .cases hp
   .cases hp
  .cases hp
 unfold gL at aj
 dsimp only at aj
 split at aj
 .cases aj;exact .refl _
 .cases aj;exact .refl _
 .split at aj
  .cases aj;exact .refl _
  .cases aj
 .simp only [cA,Prod.exists] at aj
  obtain ⟨_,_,z,_,aj⟩:=aj
  have e2:=congrArg Prod.snd aj
  simp only at e2
  subst e2
  exact .push _ _
 .simp only [dO] at aj
  have e2:=congrArg Prod.snd aj
  simp only at e2
  subst e2
  exact .push _ _
 .exact cQ aj
 .unfold zq at aj
  split at aj
  .simp only [cH,Prod.exists] at aj
   obtain ⟨_,_,_,_,aj⟩:=aj
   split at aj
   .cases aj
   .simp only [cA,cV] at aj
    obtain ⟨_,_,_,rfl⟩:=aj
    exact .push _ _
  .cases aj
 .exact cQ aj
 .simp only [cA,cV] at aj
  obtain ⟨h1,hr,_,rfl⟩:=aj
  unfold iH at hr
  split at hr
  .simp only [cH] at hr
   obtain ⟨_,_,hr⟩:=hr
   split at hr
   .exact I6 hr
   .cases hr
  .cases hr
 .split at aj
  .cases aj;exact .refl _
  .cases aj;exact .refl _
  .cases aj;exact .refl _
  .cases aj
 .exact cQ aj
 .split at aj
  .cases aj;exact .refl _
  .cases aj
 .unfold Qc at aj
  split at aj
  .simp only [cH,Prod.exists] at aj
   obtain ⟨_,_,_,_,aj⟩:=aj
   split at aj
   .cases aj;exact .push _ _
   .cases aj
  .cases aj
 .exact cQ aj
 .exact cQ aj
 .exact cQ aj
 .exact cQ aj
 .split at aj
  .exact cQ aj
  .cases aj
 .exact eb aj
 .split at aj
  .exact cQ aj
  .split at aj
   .split at aj
    .exact zkN aj
    .cases aj
   .exact eb aj
 .exact eb aj
 .split at aj
  .split at aj
   .split at aj
    .exact zgu aj
    .cases aj
   .cases aj
  .split at aj
   .unfold Rn at aj
    split at aj
    .simp only [cH,Prod.exists] at aj
     obtain ⟨_,_,_,_,_,aj⟩:=aj
     split at aj
     .cases aj;exact .refl _
     .split at aj
      .simp only [cA,cV] at aj
       obtain ⟨h1,hw,_,rfl⟩:=aj
       exact I6 hw
      .cases aj
    .cases aj
   .cases aj
  .split at aj
   .simp only [cA,cV] at aj
    obtain ⟨h1,hr,_,rfl⟩:=aj
    unfold rI at hr
    split at hr
    .split at hr
     .cases hr;exact .refl _
     .simp only [cH,Prod.exists] at hr
      obtain ⟨_,_,_,_,hr⟩:=hr
      split at hr
      .exact I6 hr
      .cases hr
    .cases hr
   .cases aj
  .split at aj
   .exact cQ aj
   .cases aj
  .exact eb aj
  .exact eb aj
  .split at aj
   .simp only [cA,cV] at aj
    obtain ⟨h1,hr,_,rfl⟩:=aj
    exact zmB hr
   .cases aj
  .split at aj
   .exact cQ aj
   .cases aj
  .split at aj
   .simp only [cH,Prod.exists] at aj
    obtain ⟨_,_,_,aj⟩:=aj
    exact hC _ _ _ _ _ aj
   .cases aj
  .split at aj
   .exact hC _ _ _ _ _ aj
   .split at aj
    .exact hC _ _ _ _ _ aj
    .cases aj
   .cases aj
  .cases aj
 .split at aj
  .cases aj;exact .push _ _
  .split at aj
   .cases aj;exact .push _ _
   .cases aj
 .exact cQ aj
 .simp only [cA,cV] at aj
  obtain ⟨h1,hr,_,rfl⟩:=aj
  exact zg8 hr
 .simp only [cA,cV] at aj
  obtain ⟨h1,hr,_,rfl⟩:=aj
  exact zg8 hr
 .exact zot aj
 .simp only [cA,cV] at aj
  obtain ⟨h1,hr,_,rfl⟩:=aj
  exact zhp hr
 .exact cQ aj
 .exact cQ aj
 .cases aj

theorem SV {C:Fn->List ab->Heap->Option (ab × Heap)} (hC:uK C) {ops:Array Oper}:∀ (l:List Oper) (e e':Env) (h h':Heap),tG P T C ops l e h=some (e',h')->bx h h'
 | [],e,e',h,h',aj=>by simp only [tG,dO,cV] at aj;obtain ⟨_,rfl⟩:=aj;exact .refl _
 |o::l,e,e',h,h',aj=>by
  simp only [tG] at aj
  split at aj
  .split at aj
   .rename_i v h1 h2
    exact (Hm hC h2).trans (SV hC l _ _ _ _ aj)
   .cases aj
  .exact SV hC l _ _ _ _ aj

theorem zeA (hT:T.Fits P) {C:Fn->List ab->Heap->Option (ab × Heap)} {gs:List Nat} (hC:CS P gs C) (hg:uK C) {ops:Array Oper} {Q:Exit->Act->World->Prop} {rl:Option Nat} {dd:List Deferred} :
 ∀ (l:List Oper) (e e':Env) (h h':Heap) (ρ:cm) (a:Act) (w:World),tG P T C ops l e h=some (e',h')->(∀ o∈l,jR ρ o)->cX gs ρ->bP ρ h w->fJ ρ h h'->ct ρ e a.tmps->a.defers=dd ->
   (∀ ρ' a' w',Fr ρ ρ' h h' w w'->bP ρ' h' w'->ct ρ' e' a'.tmps->a'.defers=dd->Q .normal a' w')->wpListIn (WR rl) 0 P ops Q l a w
 | [],e,e',h,h',ρ,a,w,aj,_,_,hs,_,he,hd,hQ=>by
  simp only [tG,dO,cV] at aj
  obtain ⟨rfl,rfl⟩:=aj
  exact hQ ρ a w (Fr.refl _ _ _) hs he hd
 |o::l,e,e',h,h',ρ,a,w,aj,cE,hG,hs,hf,he,hd,hQ=>by
  have Yj:=cE o (by simp)
  have yK:∀ q∈l,jR ρ q:=λq hq=>cE q (by simp [hq])
  simp only [tG] at aj
  unfold wpListIn
  rw [zkt he]
  split at aj
  .rename_i hw
   rw [aE hw]
   split at aj
   .rename_i v h1 h2
    have dx:=(SV hg l _ _ _ _ aj).size
    refine (DX hT hC hG hs he Yj (hf.left dx) h2).wp (DZ h2) λρ1 u w1 f1 s1 v1=>?_
    refine zeA hT hC hg l _ _ _ _ ρ1 _ w1 aj (λq hq=>(yK q hq).mono f1.grow) (hG.mono f1.grow) s1 (hf.right f1) ((he.mono f1.grow).put v1 o.dst) (by cases o.dst <;> exact hd) ?_
    intro ρ2 a2 w2 f2 s2 e2 d2
    exact hQ ρ2 a2 w2 (f1.trans f2) s2 e2 d2
   .cases aj
  .rename_i hw
   rw [az hw]
   refine ⟨λ_ _=>trivial,?_⟩
   exact zeA hT hC hg l _ _ _ _ ρ _ w aj yK hG hs hf (he.put (.undef ρ) o.dst) (by cases o.dst <;> exact hd) hQ

def Ex.to:Ex->Exit
 | .normal=>.normal
 | .exit id=>.exit id
 | .ret=>.ret

def DS (P:Program) (gs:List Nat) (D:Array Oper->Env->Heap->Option (Env × Heap)):Prop :=
 ∀ (rl:Option Nat) (id:Nat) (ops:Array Oper) (e e':Env) (h h':Heap) (ρ:cm) (a:Act) (w:World) (Q:Exit->Act->World->Prop),D ops e h=some (e',h')->(∀ o∈ops.toList,jR ρ o)->cX gs ρ->bP ρ h w->fJ ρ h h'->ct ρ e a.tmps ->
   (∀ ρ' a' w',Fr ρ ρ' h h' w w'->bP ρ' h' w'->ct ρ' e' a'.tmps->a'.defers=a.defers->Q .normal a' w')->(Code.region id ops true).wpIn (WR rl) 0 P Q a w
def zvj (D:Array Oper->Env->Heap->Option (Env × Heap)):Prop:=∀ ops e h e' h',D ops e h=some (e',h')->bx h h'

theorem zht {f:Env->Heap->Option (Ex × Env × Heap)} (hf:∀ e h x e' h',f e h=some (x,e',h')->bx h h'):∀ (n:Nat) (e:Env) (h:Heap) (x:Ex) (e':Env) (h':Heap),iter f n e h=some (x,e',h')->bx h h'
 |0,_,_,_,_,_,hi=>by simp [iter] at hi
 |n+1,e,h,x,e',h',hi=>by
  simp only [iter] at hi
  split at hi
  .rename_i e1 h1 h2
   exact (hf _ _ _ _ _ h2).trans (zht hf n _ _ _ _ _ hi)
  .exact hf _ _ _ _ _ hi

theorem zeY {l:Nat} {e':Env} {x:Ex} (aj:D0 l e h=some (x,e',h')):bx h h':=by
 unfold D0 at aj
 split at aj
 .rename_i hg
  split at aj
  .cases aj
  .split at aj
   .cases aj;exact .set _ (Heap.bw hg)
   .cases aj;exact .set _ (Heap.bw hg)
   .cases aj;exact .set _ (Heap.bw hg)
   .cases aj
 .cases aj
theorem zpm (hC:uK C) {rd:Option Nat} {g:ab} {ps:List Tmp} {assign body:Code} {e':Env} {x:Ex} (aj:JF T C rd g ps assign body e h=some (x,e',h')):bx h h':=by
 unfold JF at aj
 split at aj
 .split at aj
  .split at aj
   .rename_i hc
    exact ((bx.push _ _).trans (hC _ _ _ _ _ hc)).trans (zeY aj)
   .cases aj
  .cases aj
 .cases aj

theorem Hi {D:Array Oper->Env->Heap->Option (Env × Heap)} (hC:uK C) (hD:zvj D) (rd:Option Nat) (fuel:Nat):∀ (c:Code) (e:Env) (h:Heap) (x:Ex) (e':Env) (h':Heap),eh P T C D rd fuel c e h=some (x,e',h')->bx h h':=by
 intro c
 induction c with
 |skip=>intro e h x e' h' aj;simp only [eh,dO,cV] at aj;obtain ⟨_,_,rfl⟩:=aj;exact .refl _
 |region id ops d =>
  intro e h x e' h' aj
  simp only [eh,cA,Prod.exists,cV] at aj
  obtain ⟨e1,h1,hr,_,rfl,rfl⟩:=aj
  split at hr
  .exact hD _ _ _ _ _ hr
  .exact SV hC _ _ _ _ _ hr
 |seq a b jY jZ =>
  intro e h x e' h' aj
  simp only [eh] at aj
  split at aj
  .rename_i e1 h1 h2
   exact (jY _ _ _ _ _ h2).trans (jZ _ _ _ _ _ aj)
  .exact jY _ _ _ _ _ aj
 |cond c a b jY jZ =>
  intro e h x e' h' aj
  simp only [eh] at aj
  split at aj
  .exact jY _ _ _ _ _ aj
  .exact jZ _ _ _ _ _ aj
  .cases aj
 |block id c ih =>
  intro e h x e' h' aj
  simp only [eh] at aj
  split at aj
  .rename_i i e1 h1 h2
   have:=ih _ _ _ _ _ h2
   split at aj <;> (simp only [dO,cV] at aj;obtain ⟨_,_,rfl⟩:=aj;exact this)
  .exact ih _ _ _ _ _ aj
 |loop c ih=>intro e h x e' h' aj;simp only [eh] at aj;exact zht ih _ _ _ _ _ _ aj
 |exit id=>intro e h x e' h' aj;simp only [eh,dO,cV] at aj;obtain ⟨_,_,rfl⟩:=aj;exact .refl _
 |ret=>intro e h x e' h' aj;simp only [eh,dO,cV] at aj;obtain ⟨_,_,rfl⟩:=aj;exact .refl _
 |label l=>intro e h x e' h' aj;simp only [eh,dO,cV] at aj;obtain ⟨_,_,rfl⟩:=aj;exact .refl _
 |rangeFunc f ps a b _ _=>intro e h x e' h' aj;exact zpm hC aj
 |scope c ih=>intro e h x e' h' aj;exact ih _ _ _ _ _ aj
 |goto l=>intro e h x e' h' aj;simp [eh] at aj
 |refuse s=>intro e h x e' h' aj;simp [eh] at aj

def mP:Code->Bool
 | .seq a b=>mP a && mP b
 | .cond _ a b=>mP a && mP b
 | .block _ c=>mP c
 | .loop c=>mP c
 | .scope c=>mP c
 | .rangeFunc _ _ _ _=>false
 |_=>true
def Marks (n0:Nat) (B:List Deferred) (nr:Bool) (ρ:cm) (w:World) (ds:List Deferred):Prop :=
 ∃ rs:List Nat,ds=rs.map (λr=>{ target:=.collected r,args:=#[] })++B/\rs.Nodup/\(nr=true->rs=[])/\∀ r∈rs,n0<=r/\w.heap[r]? = some (.deferred (some []))/\∀ A L,ρ A=some L->L.b≠r
theorem Marks.nil {n0:Nat} {B:List Deferred} {nr:Bool}:Marks n0 B nr ρ w B:=⟨[],rfl,.nil,λ_=>rfl,by intro r hr;cases hr⟩
theorem Marks.step {n0:Nat} {B:List Deferred} {nr:Bool} {ρ':cm} {w':World} {ds:List Deferred} (hm:Marks n0 B nr ρ w ds) (f:Fr ρ ρ' h h' w w'):Marks n0 B nr ρ' w' ds:=by
 obtain ⟨rs,h1,h2,h0,h3⟩:=hm
 refine ⟨rs,h1,h2,h0,λr hr=>?_⟩
 obtain ⟨a1,a2,a3⟩:=h3 r hr
 have aT:r < w.heap.size:=(mQ.1 a2).1
 refine ⟨a1,(f.keep r aT λA L hA hb=>(a3 A L hA hb).elim).trans a2,λA L hA hb=>?_⟩
 cases hρ:ρ A with
 |some L0 =>
  have e:L0=L:=by have:=f.grow A L0 hρ;rw [hA] at this;exact (Option.some.inj this).symm
  subst e
  exact a3 A L0 hρ hb
 |none =>
  rcases (f.fresh A L hA hρ).2.2 with h4|⟨A0,L0,h4,h5,_⟩
  .omega
  .exact a3 A0 L0 h4 (h5.trans hb)

def Ig (ρ:cm):Option Nat->Option Nat->Prop
 |none,none=>True
 |some A,some l=>∃ L,ρ A=some L/\L.b=l
 |_,_=>False
theorem Ig.mono {ρ':cm} (hg:∀ A L,ρ A=some L->ρ' A=some L):∀ {rd rl:Option Nat},Ig ρ rd rl->Ig ρ' rd rl
 |none,none,_=>trivial
 |some _,some _,⟨L,h1,h2⟩=>⟨L,hg _ _ h1,h2⟩
 |none,some _,hh=>hh.elim
 |some _,none,hh=>hh.elim

theorem I8 {b:Frame} {a:Act} {k:List Item} {cs:List Frame}:step P (lone (b.atR a (.code (.scope c)::k)) cs w)=.next (lone (b.atR a (.code c::.inScope c::k)) cs w) :=
 step_lone_go (by simp [stepG,stepG.exec,Frame.atR])
theorem znf {b:Frame} {a:Act} {k:List Item} {cs:List Frame}:step P (lone (b.atR a (.inScope c::k)) cs w)=.next (lone (b.atR a k) cs w) :=
 step_lone_go (by simp [stepG,stepG.exec,Frame.atR])
theorem zgp {F:Fence} {n:Nat} {Q:Exit->Act->World->Prop} {a:Act} (hc:c.wpIn F n P (Exit.noGoto Q) a w):(Code.scope c).wpIn F n P Q a w:=by
 intro b k cs um hb hr
 have h0:(lone (b.atR a (.code (.scope c)::k)) cs w).fenced P F:=fenced_calm hb hr rfl
 obtain ⟨e,a₁,w₁,hq,vd⟩:=hc b (.inScope c::k) cs um hb hr
 cases e with
 |normal=>exact ⟨.normal,a₁,w₁,hq,.head h0 I8 (StepsIn.trans vd (.one (fenced_calm hb hr rfl) znf))⟩
 |exit id =>
  have hx:exitTo id (.inScope c::k)=exitTo id k:=by simp [exitTo]
  exact ⟨.exit id,a₁,w₁,hq,λk' hk=>.head h0 I8 (vd.1 k' (by rw [hx];exact hk)),
   λcw hk=>let ⟨k₁,h1,h2⟩:=vd.2 cw (by rw [hx];exact hk);⟨k₁,h1,.head h0 I8 h2⟩⟩
 |goto l=>exact hq.elim
 |ret=>exact ⟨_,a₁,w₁,hq,.of_steps (.one h0 I8) vd⟩
 |panic ch=>exact ⟨_,a₁,w₁,hq,.of_steps (.one h0 I8) vd⟩
 |outgrown=>exact ⟨_,a₁,w₁,hq,.of_steps (.one h0 I8) vd⟩

theorem S7 (w:World) (r:Nat) (o:Obj):(w.putObj r o).heap=w.heap.setIfInBounds r o:=rfl
theorem zxl {r:Nat} {o:Obj} (aT:r < w.heap.size):(w.putObj r o).heap[r]? = some o:=by rw [S7];simp [aT]
theorem SO {r k:Nat} {o:Obj} (hk:k≠r):(w.putObj r o).heap[k]? = w.heap[k]? := by
 rw [S7,HA (Ne.symm hk)]

theorem Qb (hs:bP ρ h w) {A:Nat} {L:Loc} (hA:ρ A=some L) {env:List ab} {ps:List Tmp} {assign body:Code} {st:LoopState} {fY:Option Code} (hg:h.get A=some (.loop env ps assign body st fY)) :
 ∃ l:Loop,w.heap[L.b]? = some (.loop l)/\l.state=st/\l.pending=fY/\l.params.toList=ps/\l.assign=assign/\l.body=body/\ct ρ env l.tmps/\cI ρ assign/\cI ρ body /\
   ∀ Of ry,Fr ρ ρ h (h.set A (.loop env ps assign body Of ry)) w (w.putObj L.b (.loop { l with state:=Of,pending:=ry }))/\bP ρ (h.set A (.loop env ps assign body Of ry)) (w.putObj L.b (.loop { l with state:=Of,pending:=ry })):=by
 have hb:=hs.ff A L hA
 rw [hg] at hb
 obtain ⟨l,h1,h2,h3,h4,h5,h6,h7,h8,h9⟩:=hb
 refine ⟨l,h1,h2,h3,h4,h5,h6,h7,h8,h9,λOf ry=>?_⟩
 have aT:L.b < w.heap.size:=(mQ.1 h1).1
 exact Jf hs hA hg (by simp) (by simp) rfl rfl rfl (by rw [S7];simp) (λq hq=>SO hq) ⟨_,zxl aT,rfl,rfl,h4,h5,h6,h7,h8,h9⟩

theorem zd6 (hT:T.Fits P) {D:Array Oper->Env->Heap->Option (Env × Heap)} {gs:List Nat} (hC:CS P gs C) (hg:uK C) (hD:DS P gs D) (R5:zvj D) (rd rl:Option Nat) (n0:Nat) (B:List Deferred) (nr:Bool) (fuel:Nat) :
 ∀ (c:Code) (e:Env) (h:Heap) (x:Ex) (e':Env) (h':Heap) (ρ:cm) (a:Act) (w:World) (Q:Exit->Act->World->Prop),eh P T C D rd fuel c e h=some (x,e',h')->cI ρ c->(nr=true->mP c=true)->cX gs ρ->bP ρ h w->fJ ρ h h'->ct ρ e a.tmps->Marks n0 B nr ρ w a.defers->Ig ρ rd rl->n0<=w.heap.size ->
   (∀ ρ' a' w',Fr ρ ρ' h h' w w'->bP ρ' h' w'->ct ρ' e' a'.tmps->Marks n0 B nr ρ' w' a'.defers->Q x.to a' w')->c.wpIn (WR rl) 0 P Q a w:=by
 intro c
 induction c with
 |skip =>
  intro e h x e' h' ρ a w Q aj _ _ _ hs _ he hd _ _ hQ
  simp only [eh,dO,cV] at aj
  obtain ⟨rfl,rfl,rfl⟩:=aj
  exact wpIn_skip (hQ ρ a w (Fr.refl _ _ _) hs he hd)
 |region id ops d =>
  intro e h x e' h' ρ a w Q aj cE _ hG hs hf he hd _ _ hQ
  simp only [eh,cA,Prod.exists,cV] at aj
  obtain ⟨e1,h1,hr,rfl,rfl,rfl⟩:=aj
  have hQ':∀ ρ' a' w',Fr ρ ρ' h h1 w w'->bP ρ' h1 w'->ct ρ' e1 a'.tmps->a'.defers=a.defers->Q .normal a' w':=λρ' a' w' f1 s1 r1 d1=>hQ ρ' a' w' f1 s1 r1 (by rw [d1];exact hd.step f1)
  cases d with
  |true =>
   simp only [if_true] at hr
   exact hD rl id ops e e1 h h1 ρ a w Q hr cE hG hs hf he hQ'
  |false =>
   simp only [gM,if_false] at hr
   exact wpIn_region_list (zeA hT hC hg ops.toList e e1 h h1 ρ a w hr cE hG hs hf he rfl hQ')
 |seq c1 c2 Su YV =>
  intro e h x e' h' ρ a w Q aj cE lX hG hs hf he hd nZ hn hQ
  simp only [eh] at aj
  have BG:nr=true->mP c1=true:=λq=>by have:=lX q;simp only [mP,ep] at this;exact this.1
  have Gr:nr=true->mP c2=true:=λq=>by have:=lX q;simp only [mP,ep] at this;exact this.2
  refine wpIn_seq ?_
  split at aj
  .rename_i e1 h1 h2
   have dx:=(Hi hg R5 rd fuel c2 _ _ _ _ _ aj).size
   refine Su e h .normal e1 h1 ρ a w _ h2 cE.1 BG hG hs (hf.left dx) he hd nZ hn λρ1 a1 w1 f1 s1 r1 d1=>?_
   exact YV e1 h1 x e' h' ρ1 a1 w1 Q aj (cE.2.mono f1.grow) Gr (hG.mono f1.grow) s1 (hf.right f1) r1 d1 (nZ.mono f1.grow) (gn hn f1.size) λρ2 a2 w2 f2 s2 r2 d2=>hQ ρ2 a2 w2 (f1.trans f2) s2 r2 d2
  .rename_i aQ
   refine Su e h x e' h' ρ a w _ aj cE.1 BG hG hs hf he hd nZ hn λρ1 a1 w1 f1 s1 r1 d1=>?_
   cases x with
   |normal=>exact (aQ e' h' aj).elim
   |exit id=>exact hQ ρ1 a1 w1 f1 s1 r1 d1
   |ret=>exact hQ ρ1 a1 w1 f1 s1 r1 d1
 |cond c c1 c2 Su YV =>
  intro e h x e' h' ρ a w Q aj cE lX hG hs hf he hd nZ hn hQ
  have hc:=he.operand cE.1
  have BG:nr=true->mP c1=true:=λq=>by have:=lX q;simp only [mP,ep] at this;exact this.1
  have Gr:nr=true->mP c2=true:=λq=>by have:=lX q;simp only [mP,ep] at this;exact this.2
  simp only [eh] at aj
  split at aj
  .rename_i hb
   rw [hb] at hc
   exact wpIn_cond_true (hc.bD rfl) (Su e h x e' h' ρ a w Q aj cE.2.1 BG hG hs hf he hd nZ hn hQ)
  .rename_i hb
   rw [hb] at hc
   exact wpIn_cond_false (hc.bD rfl) (YV e h x e' h' ρ a w Q aj cE.2.2 Gr hG hs hf he hd nZ hn hQ)
  .cases aj
 |block id c ih =>
  intro e h x e' h' ρ a w Q aj cE lX hG hs hf he hd nZ hn hQ
  simp only [eh] at aj
  refine wpIn_block ?_
  split at aj
  .rename_i i e1 h1 h2
   split at aj
   .rename_i hi
    simp only [dO,cV] at aj
    obtain ⟨rfl,rfl,rfl⟩:=aj
    refine ih e h (.exit i) e1 h1 ρ a w _ h2 cE lX hG hs hf he hd nZ hn λρ1 a1 w1 f1 s1 r1 d1=>?_
    simp only [Ex.to,Exit.inBlock,aE hi]
    exact hQ ρ1 a1 w1 f1 s1 r1 d1
   .rename_i hi
    simp only [dO,cV] at aj
    obtain ⟨rfl,rfl,rfl⟩:=aj
    refine ih e h (.exit i) e1 h1 ρ a w _ h2 cE lX hG hs hf he hd nZ hn λρ1 a1 w1 f1 s1 r1 d1=>?_
    simp only [Ex.to,Exit.inBlock,az hi]
    exact hQ ρ1 a1 w1 f1 s1 r1 d1
  .rename_i aQ
   refine ih e h x e' h' ρ a w _ aj cE lX hG hs hf he hd nZ hn λρ1 a1 w1 f1 s1 r1 d1=>?_
   cases x with
   |normal=>exact hQ ρ1 a1 w1 f1 s1 r1 d1
   |exit i=>exact (aQ i e' h' aj).elim
   |ret=>exact hQ ρ1 a1 w1 f1 s1 r1 d1
 |loop c ih =>
  intro e h x e' h' ρ a w Q aj cE lX hG hs hf he hd nZ hn hQ
  simp only [eh] at aj
  refine wpIn_loop_rounds fuel ?_
  have key:∀ (n:Nat) (e:Env) (h:Heap) (ρ:cm) (a:Act) (w:World),iter (eh P T C D rd fuel c) n e h=some (x,e',h')->cI ρ c->cX gs ρ->bP ρ h w->fJ ρ h h'->ct ρ e a.tmps->Marks n0 B nr ρ w a.defers->Ig ρ rd rl->n0<=w.heap.size ->
   (∀ ρ' a' w',Fr ρ ρ' h h' w w'->bP ρ' h' w'->ct ρ' e' a'.tmps->Marks n0 B nr ρ' w' a'.defers->Q x.to a' w')->Code.roundsIn (WR rl) 0 P c Q n a w:=by
   intro n
   induction n with
   |zero=>intro e h ρ a w hi;simp [iter] at hi
   |succ n YW =>
    intro e h ρ a w hi cE hG hs hf he hd nZ hn hQ
    simp only [iter] at hi
    rw [roundsIn_succ]
    split at hi
    .rename_i e1 h1 h2
     have dx:=(zht (Hi (P:=P) (T:=T) hg R5 rd fuel c) n _ _ _ _ _ hi).size
     refine ih e h .normal e1 h1 ρ a w _ h2 cE lX hG hs (hf.left dx) he hd nZ hn λρ1 a1 w1 f1 s1 r1 d1=>?_
     exact YW e1 h1 ρ1 a1 w1 hi (cE.mono f1.grow) (hG.mono f1.grow) s1 (hf.right f1) r1 d1 (nZ.mono f1.grow) (gn hn f1.size) λρ2 a2 w2 f2 s2 r2 d2=>hQ ρ2 a2 w2 (f1.trans f2) s2 r2 d2
    .rename_i aQ
     refine ih e h x e' h' ρ a w _ hi cE lX hG hs hf he hd nZ hn λρ1 a1 w1 f1 s1 r1 d1=>?_
     cases x with
     |normal=>exact (aQ e' h' hi).elim
     |exit id=>exact hQ ρ1 a1 w1 f1 s1 r1 d1
     |ret=>exact hQ ρ1 a1 w1 f1 s1 r1 d1
  exact key fuel e h ρ a w aj cE hG hs hf he hd nZ hn hQ
 |exit id =>
  intro e h x e' h' ρ a w Q aj _ _ _ hs _ he hd _ _ hQ
  simp only [eh,dO,cV] at aj
  obtain ⟨rfl,rfl,rfl⟩:=aj
  exact wpIn_exit (hQ ρ a w (Fr.refl _ _ _) hs he hd)
 |ret =>
  intro e h x e' h' ρ a w Q aj _ _ _ hs _ he hd _ _ hQ
  simp only [eh,dO,cV] at aj
  obtain ⟨rfl,rfl,rfl⟩:=aj
  exact wpIn_ret (hQ ρ a w (Fr.refl _ _ _) hs he hd)
 |label l =>
  intro e h x e' h' ρ a w Q aj _ _ _ hs _ he hd _ _ hQ
  simp only [eh,dO,cV] at aj
  obtain ⟨rfl,rfl,rfl⟩:=aj
  exact wpIn_label (hQ ρ a w (Fr.refl _ _ _) hs he hd)
 |rangeFunc g ps assign body _ _ =>
  intro e h x e' h' ρ a w Q aj cE lX hG hs hf he hd nZ hn hQ
  simp only [eh] at aj
  have Nj:¬ nr=true:=λq=>by have:=lX q;simp [mP] at this
  have Ga:=he.operand cE.1
  unfold JF at aj
  split at aj
  .rename_i f first captured ka
   split at aj
   .rename_i De
    simp only [ep] at De
    obtain ⟨De,q9⟩:=De
    split at aj
    .rename_i r0 h2 iW
     rw [ka] at Ga
     generalize Xe:a.eval g=ag at Ga
     cases Ga with
     |func _ q1 q2 q3 q4 =>
      rename_i gS dJ
      have kT:cu ρ first.toList gS.toList:=⟨by simpa using q1,λi x y hx hy=>q3 i x y (by simpa using hx) (by simpa using hy)⟩
      have jB:cu ρ captured.toList dJ.toList:=⟨by simpa using q2,λi x y hx hy=>q4 i x y (by simpa using hx) (by simpa using hy)⟩
      have gz:=hg _ _ _ _ _ iW
      have pj:=zeY aj
      have yO:(h.push (.loop e ps.toList assign body .ready none)).size=h.size+1:=rfl
      have oH:=gz.size
      have BQ:=pj.size
      have fW:ρ h.size=none:=hf h.size (bj _) (by omega)
      refine wpIn_rangeFunc λfn _=>?_
      have dj:∃ (l:Nat) (mark:List Deferred) (w1:World) (lo:Loop),(Instr.enterLoop fn a.tmps ps assign body (WR rl).round).run P w=.ok (l,mark) w1/\w.heap.size<=l/\w1.heap[l]? = some (.loop lo) /\
       lo.state=.ready/\lo.pending=none/\lo.params=ps/\lo.assign=assign/\lo.body=body/\lo.tmps=a.tmps/\(∀ k,k < w.heap.size->w1.heap[k]? = w.heap[k]?)/\w.heap.size<=w1.heap.size/\w1.os=w.os/\w1.tape=w.tape/\w1.output=w.output /\
       (∀ ρ1,(∀ A L,ρ1 A=some L->ρ A=some L\/L.b=l)->Marks n0 B nr ρ1 w1 (mark++a.defers)):=by
       cases rl with
       |none =>
        refine ⟨_,_,_,{ state:=.ready,pending:=none,fn,tmps:=a.tmps,params:=ps,assign,body,defers:=w.heap.size },run_enterLoop_outer fn a.tmps ps assign body,EG _,by rw [World.bF,World.bF,xv,aE (by simp)],rfl,rfl,rfl,rfl,rfl,rfl,?_,by simp [World.bF];omega,rfl,rfl,rfl,?_⟩
        .intro k hk
         rw [World.bF,World.bF,xv,az (by simp;omega),xv,az (by omega)]
        .intro ρ1 DL
         obtain ⟨rs,m1,m2,_,m3⟩:=hd
         refine ⟨w.heap.size::rs,by simp [m1],?_,λq=>(Nj q).elim,?_⟩
         .refine tN.2 ⟨λb8=>?_,m2⟩
          have:=(mQ.1 (m3 _ b8).2.1).1
          omega
         .intro r hr
          rcases dh.1 hr with rfl|hr
          .refine ⟨hn,by simp [World.bF,xv],λA L hA hb=>?_⟩
           rcases DL A L hA with h4|h4
           .have:=hs.lt h4;omega
           .omega
          .obtain ⟨a1,a2,a3⟩:=m3 r hr
           have aT:r < w.heap.size:=(mQ.1 a2).1
           refine ⟨a1,?_,λA L hA hb=>?_⟩
           .rw [World.bF,World.bF,xv,az (by simp;omega),xv,az (by omega)]
            exact a2
           .rcases DL A L hA with h4|h4
            .exact a3 A L h4 hb
            .omega
       |some l0 =>
        cases rd with
        |none=>exact nZ.elim
        |some A0 =>
         obtain ⟨L0,el,rfl⟩:=nZ
         have Yo:∃ lo:Loop,w.heap[L0.b]? = some (.loop lo):=by
          simp only [TE] at De
          split at De
          .rename_i XJ
           obtain ⟨lo,h4,_⟩:=Qb hs el XJ
           exact ⟨lo,h4⟩
          .cases De
         obtain ⟨lo,dt⟩:=Yo
         have ey:(Instr.enterLoop fn a.tmps ps assign body (some L0.b)).run P w=.ok (w.heap.size,[]) (w.alloc (.loop { state:=.ready,pending:=none,fn,tmps:=a.tmps,params:=ps,assign,body,defers:=lo.defers })):=by
          unfold Instr.enterLoop
          simp only [Sem.run_bind,run_getLoop dt,Sem.run_pure,Result.andThen,run_newObj_alloc]
         refine ⟨_,_,_,{ state:=.ready,pending:=none,fn,tmps:=a.tmps,params:=ps,assign,body,defers:=lo.defers },ey,bj _,by simp [World.bF],rfl,rfl,rfl,rfl,rfl,rfl,?_,by simp [World.bF],rfl,rfl,rfl,?_⟩
         .intro k hk
          rw [World.bF,xv,az (by omega)]
         .intro ρ1 DL
          obtain ⟨rs,m1,m2,_,m3⟩:=hd
          refine ⟨rs,by simp [m1],m2,λq=>(Nj q).elim,?_⟩
          intro r hr
          obtain ⟨a1,a2,a3⟩:=m3 r hr
          have aT:r < w.heap.size:=(mQ.1 a2).1
          refine ⟨a1,?_,λA L hA hb=>?_⟩
          .rw [World.bF,xv,az (by omega)]
           exact a2
          .rcases DL A L hA with h4|h4
           .exact a3 A L h4 hb
           .omega
      obtain ⟨l,mark,w1,lo,dj,hl,yZ,l1,l2,l3,l4,l5,l6,hold,dx,vx,ln,eT,Nd⟩:=dj
      obtain ⟨ρ1,DL,f1,s1⟩:=S6 (W:=w1) (L:=⟨l,0,0⟩) (b:=.loop e ps.toList assign body .ready none) hs fW hold dx vx ln eT hl
       (λρ' eL=>⟨lo,yZ,l1,l2,by rw [l3],l4,l5,by rw [l6];exact he.mono eL,cE.2.1.mono eL,cE.2.2.mono eL⟩)
      have il:Marks n0 B nr ρ1 w1 (mark++a.defers):=Nd ρ1 λA L hA=>by
       cases hρ:ρ A with
       |some L0 =>
        have e:L0=L:=by have:=f1.grow A L0 hρ;rw [hA] at this;exact (Option.some.inj this).symm
        subst e
        exact .inl rfl
       |none =>
        have h4:=(f1.fresh A L hA hρ)
        have h5:A=h.size:=by have:=h4.1;have:=h4.2.1;omega
        subst h5
        rw [DL] at hA
        cases hA
        exact .inr rfl
      have pX:fJ ρ1 (h.push (.loop e ps.toList assign body .ready none)) h2:=(hf.left BQ).right f1
      have dU:cu ρ1 (first.toList++[.func (.yield h.size) #[] #[]]++captured.toList) (gS++#[Value.func (Fn.yield l) #[] #[]]++dJ).toList:=by
       have:=((kT.mono f1.grow).append (cu.cons (VR.yield DL) (.nil ρ1))).append (jB.mono f1.grow)
       simpa using this
      have iq:(resolve a.eval (rangeCall g l) 0).run P w1=.ok { target:=.fn (.func f) dJ,args:=gS++#[Value.func (Fn.yield l) #[] #[]] } w1:=by
       have hcv:a.eval (.const (.func (.yield l) #[] #[]))=.func (.yield l) #[] #[]:=rfl
       simp [resolve,Xe,hcv,Deferred.ofValue]
      have hinv:∀ w,(invoke (.fn (.func f) dJ) (gS++#[Value.func (Fn.yield l) #[] #[]])).run P w=(callFunc f (gS++#[Value.func (Fn.yield l) #[] #[]]++dJ)).run P w:=λw=>rfl
      rcases hC.fn f _ _ _ _ iW ρ1 w1 (gS++#[Value.func (Fn.yield l) #[] #[]]++dJ) (hG.mono f1.grow) s1 pX dU with ⟨_,_,_,ez,_⟩|⟨Xv,FR⟩
      .exfalso
       unfold TQ at q9
       split at q9
       .rename_i fn0 XE
        split at q9
        .rename_i c0 ye
         obtain ⟨hP,jy,_⟩:=hT.fn f fn0 XE
         have fV:¬ fn0.name="runtime.NumGoroutine":=by simpa using jy
         simp [callFunc,hP,fV,ye] at ez
        .cases q9
       .cases q9
      .refine ⟨l,mark,w1,_,w1,f,_,w1,dj,iq,λ_ _=>trivial,(hinv w1).trans Xv,(λhh=>by cases hh),zhj (FR.mono ?_)⟩
       rintro ed w3 ⟨ρ3,u,rfl,f3,s3,_⟩
       unfold D0 at aj
       split at aj
       .rename_i env ps2 as2 bd2 st fY F9
        have hρ3:ρ3 h.size=some ⟨l,0,0⟩:=f3.grow _ _ DL
        obtain ⟨G2,g1,g2,g3,_,_,_,_,_,_,g4⟩:=Qb s3 hρ3 F9
        obtain ⟨f4,s4⟩:=g4 .exhausted fY
        have lV:st≠.busy->∀ x1:Ex,x1=x->e=e'->h2.set h.size (.loop env ps2 as2 bd2 .exhausted fY)=h'->(Instr.endLoop l).run P w3=.ok fY (w3.putObj l (.loop { G2 with state:=.exhausted,pending:=fY }))/\Q x.to { a with defers:=mark++a.defers } (w3.putObj l (.loop { G2 with state:=.exhausted,pending:=fY })):=by
         intro fj x1 hx1 Ad Af
         subst hx1 Ad Af
         have dt:({ G2 with state:=LoopState.exhausted,pending:=fY }:Loop)={ G2 with state:=LoopState.exhausted }:=by
          subst g3;rfl
         refine ⟨?_,hQ ρ3 { a with defers:=mark++a.defers } _ ((f1.trans f3).trans f4) s4 (he.mono (f1.trans f3).grow) ((il.step f3).step f4)⟩
         rw [dt,<- g3]
         exact run_endLoop g1 (by rw [g2];exact fj)
        split at aj
        .cases aj
        .rename_i fj
         split at aj
         .simp only [dO,cV] at aj
          obtain ⟨rfl,h5,h6⟩:=aj
          obtain ⟨k1,k2⟩:=lV fj _ rfl h5 h6
          exact ⟨none,_,k1,k2⟩
         .simp only [dO,cV] at aj
          obtain ⟨rfl,h5,h6⟩:=aj
          obtain ⟨k1,k2⟩:=lV fj _ rfl h5 h6
          exact ⟨_,_,k1,wpIn_exit k2⟩
         .simp only [dO,cV] at aj
          obtain ⟨rfl,h5,h6⟩:=aj
          obtain ⟨k1,k2⟩:=lV fj _ rfl h5 h6
          exact ⟨_,_,k1,wpIn_ret k2⟩
         .cases aj
       .cases aj
    .cases aj
   .cases aj
  .cases aj
 |scope c ih =>
  intro e h x e' h' ρ a w Q aj cE lX hG hs hf he hd nZ hn hQ
  simp only [eh] at aj
  refine zgp (ih e h x e' h' ρ a w _ aj cE lX hG hs hf he hd nZ hn λρ1 a1 w1 f1 s1 r1 d1=>?_)
  have:=hQ ρ1 a1 w1 f1 s1 r1 d1
  cases x <;> exact this
 |goto l=>intro e h x e' h' ρ a w Q aj;simp [eh] at aj
 |refuse s=>intro e h x e' h' ρ a w Q aj;simp [eh] at aj

def Rh (tmps:Array ab):ResultVar->Sem ab
 | .tmp t=>pure (tmps.getD t undef)
 | .cell a t=>do loadVar t (<- asAddr (tmps.getD a undef))

theorem zuA (fn:Func) (tmps:Array ab):results fn tmps=(do let vs <- fn.results.mapM (Rh tmps);pure (if h:vs.size=1 then vs[0] else .tuple vs)):=by
 unfold results
 congr 2

theorem zna (hT:T.Fits P) (hs:bP ρ h w) (he:ct ρ e tmps):∀ {r:ResultVar} {v:ab},zw T e h r=some v->∃ u,(Rh tmps r).run P w=.ok u w/\VR ρ v u
 | .tmp t,v,hr=>by simp only [zw,dO] at hr;subst hr;exact ⟨_,rfl,he.2 t⟩
 | .cell a t,v,hr=>by
  simp only [zw] at hr
  have hv:=he.2 a
  simp only [Rh]
  generalize e.get a=x at hv hr
  generalize tmps.getD a undef=y at hv
  obtain ⟨u,h1,h2⟩:=zgg hT hs hv hr
  refine ⟨u,?_,h2⟩
  rw [<- h1]
  cases hv <;> first|(simp [iD] at hr;done)|simp [Instr.loadAt,Instr.sureAddr,asAddr]

theorem SH (hT:T.Fits P) (hs:bP ρ h w) {fn:Func} (he:ct ρ e tmps) (hr:pz T fn e h=some v) :
 ∃ u,(results fn tmps).run P w=.ok u w/\VR ρ v u:=by
 have pk:∀ (rs:List ResultVar) (vs:List ab),rs.mapM (zw T e h)=some vs->∃ us:List ab,cu ρ vs us /\
  (rs.mapM (Rh tmps)).run P w=.ok us w:=by
  intro rs
  induction rs with
  |nil=>intro vs gK;simp at gK;subst gK;exact ⟨[],.nil ρ,by simp⟩
  |cons r rs ih =>
   intro vs gK
   rw [List.mapM_cons] at gK
   simp only [Option.bind_eq_bind,cH,Option.pure_def,dO] at gK
   obtain ⟨v1,kT,ZN,GJ,rfl⟩:=gK
   obtain ⟨u1,h1,h2⟩:=zna hT hs he kT
   obtain ⟨us,h3,h4⟩:=ih ZN GJ
   refine ⟨u1::us,.cons h2 h3,?_⟩
   rw [List.mapM_cons]
   simp only [Sem.run_bind,h1,Result.andThen_ok,h4,Sem.run_pure]
 have cQ:∀ us:List ab,(fn.results.toList.mapM (Rh tmps)).run P w=.ok us w ->
  (results fn tmps).run P w=.ok (if h:us.toArray.size=1 then us.toArray[0] else .tuple us.toArray) w:=by
  intro us h1
  rw [zuA,Array.mapM_eq_mapM_toList]
  simp only [Sem.run_bind,Sem.run_map,h1,Result.andThen_ok,Sem.run_pure]
 unfold pz at hr
 split at hr
 .rename_i r Sq
  obtain ⟨us,h1,h2⟩:=pk [r] [v] (by simp [hr])
  obtain ⟨u,us',rfl,hu,hn⟩:=h1.of_cons
  have:=hn.of_nil
  subst this
  refine ⟨u,?_,hu⟩
  have:=cQ [u] (by rw [Sq];exact h2)
  simpa using this
 .rename_i aQ
  simp only [cA] at hr
  obtain ⟨vs,gK,rfl⟩:=hr
  obtain ⟨us,h1,h2⟩:=pk _ vs gK
  refine ⟨.tuple us.toArray,?_,h1.fO⟩
  have:=cQ us h2
  rw [this]
  congr 1
  have hlen:us.length≠1:=by
   intro bC
   have hl:fn.results.toList.length=us.length:=by
    have e1:vs.length=us.length:=h1.1
    have e2:∀ (rs:List ResultVar) (vs:List ab),rs.mapM (zw T e h)=some vs->rs.length=vs.length:=by
     intro rs
     induction rs with
     |nil=>intro vs gK;simp at gK;subst gK;rfl
     |cons r rs ih =>
      intro vs gK
      rw [List.mapM_cons] at gK
      simp only [Option.bind_eq_bind,cH,Option.pure_def,dO] at gK
      obtain ⟨v1,kT,ZN,GJ,rfl⟩:=gK
      simp [ih ZN GJ]
    rw [e2 _ _ gK,e1]
   rw [bC] at hl
   match hm:fn.results.toList,hl with
   | [r],_=>exact aQ r hm
  rw [dif_neg (by simpa using hlen)]
end
end Go.Am
